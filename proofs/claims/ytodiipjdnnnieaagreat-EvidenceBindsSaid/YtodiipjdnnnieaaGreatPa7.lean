import Derived.Test.YtodiipjdnnnieaaGreatPa6
import Derived.Test.YtodiipjdnnnieaaGreatPa5
import Derived.Test.YtodiipjdnnnieaaGreatPa4
import Derived.Test.YtodiipjdnnnieaaGreatProg
import Derived.KernelRfl
import Derived.Test.YtodiipjdnnnieaaGreatPa3
import Derived.ProofKit
import Derived.Carry
import Derived.OpenShut
import Derived.Stop.Joined
section
open Go Go.SE
namespace Go.Proofs
attribute [local irreducible] Calls
theorem jLX {S:NP} (s:Sl) (ts:List Int) (v:Int) (w0:World) (hs:Lst S w0 1 s (tmr ts)) (hn:ts.length≤1000000) :
  Calls Tryz.prog 88 #[s.v,.int .i64 v] w0 (fun e w'=>∃r:Bool,e=.returned (.bool r)∧(r=decide (v∈ts)∧w'=w0)):=by
 refine w_U1 _ _ w0 (fun r w'=>r=decide (v∈ts)∧w'=w0) ?_
 unfold m_U1
 have hl:s.len=ts.length:=by rw [hs.len,qF]
 refine ⟨fun i w'=>w'=w0∧∃j:Nat,i=j∧j≤ts.length∧v ∉ ts.take j,fun i _=>((ts.length:Int) - i).toNat,⟨rfl,0,rfl,Nat.zero_le _,by simp⟩,?_⟩
 rintro _ _ ⟨rfl,j,rfl,hj,hv⟩
 unfold m_U1_l1
 refine ⟨fun h=>?_,fun h=>?_⟩
 ·have hlt:=vS hl h
  obtain ⟨a,hat,_,hc⟩:=jAC hs hlt
  have htk:ts.take (j+1)=ts.take j++[ts[j]]:=List.take_succ_eq_append_getElem hlt
  refine ⟨a,hat,_,hc,fun h=>⟨?_,rfl⟩,fun h=>?_⟩
  ·have:ts[j]=v:=by simpa using h
   rw [decide_eq_true]
   rw [← this];exact List.getElem_mem hlt
  ·rw [zZ hlt (by omega)]
   refine ⟨⟨rfl,j+1,rfl,hlt,?_⟩,qX hlt⟩
   rw [htk,List.mem_append,List.mem_singleton]
   rintro (h' | h')
   ·exact hv h'
   ·simp [h'] at h
 ·have hge:=vT hl hj h
  subst hge
  rw [List.take_length] at hv
  exact ⟨by simp [hv],rfl⟩
end Go.Proofs
end
section
open Go.SE
namespace Go.Sp
def upd (V:Int→Bool) (t:Int) (b:Bool):Int→Bool:=fun x=>if x=t then b else V x
theorem Sub.le {L:Pool} (hW:Wf L) {t y:Int} (ht:inP L t=true) (h:Sub L t y):inP L y=true∧y≤t:=by
 induction h with
 | refl=>exact ⟨ht,Int.le_refl _⟩
 | kid _ hk ih =>
  have:=(hW.node ih.1).2.2.2.2.1 _ hk
  exact ⟨this.1,by omega⟩
end Go.Sp
end
section
open Go Go.SE
namespace Go.Proofs
attribute [local irreducible] Calls
theorem jMS:SlType Tryz.prog 157 4 1 1:=by
 refine ⟨Tryz.underlying157,⟨Tryz.t4,_,by kernel_rfl,(by kernel_rfl:Tryz.t4.zero=some (.bool false)),by kernel_rfl,by kernel_rfl,rfl⟩,by omega⟩
theorem jKE:∀i z,Tryz.prog.info? 4=some i→i.zero=some z→z.cells=#[Value.bool false]:=by
 intro i z hi hz;have h1:Tryz.prog.info? 4=some Tryz.t4:=by kernel_rfl
 rw [h1] at hi;cases hi;have h2:Tryz.t4.zero=some (.bool false):=by kernel_rfl
 rw [h2] at hz;cases hz;rfl
def brw (n:Nat) (V:Int→Bool):List (List Value):=(List.range n).map fun i:Nat=>[Value.bool (V (i:Int))]
theorem jDP (n:Nat) (V:Int→Bool):(brw n V).length=n:=by simp [brw]
theorem jMH (n:Nat):List.replicate n [Value.bool false]=brw n (fun _=>false):=by
 unfold brw;rw [List.map_const',List.length_range]
theorem jPI (n:Nat) (V:Int→Bool) (t:Nat) (b:Bool):(brw n V).set t [.bool b]=brw n (Sp.upd V (t:Int) b):=by
 apply List.ext_getElem?;intro i;rw [List.getElem?_set];by_cases h:t=i
 ·subst h;rw [if_pos rfl];by_cases hl:t<n
  ·simp [brw,hl,Sp.upd]
  ·simp [brw,hl]
 ·rw [if_neg h];by_cases hl:i<n
  ·simp [brw,hl,Sp.upd,show ¬ (i:Int)=t by omega]
  ·simp [brw,hl]
section
variable {w w':World} {e:TypeId} {s:Sl} {n:Nat} {V:Int→Bool}
theorem jIB (h:Rws w e 1 s (brw n V)) {t:Int} (h0:0≤t) (ht:t<n):∃a,At s t 1 a∧s.blk a.block∧w.cell? a=some (.bool (V t)):=by
 obtain ⟨a,h1,h2,h3⟩:=h.at h0 (by rw [jDP];omega);refine ⟨a,h1,h3,?_⟩;have:(brw n V)[t.toNat]'(by rw [jDP];omega)=[Value.bool (V t)]:=by
  simp only [brw,List.getElem_map,List.getElem_range];rw [show ((t.toNat:Nat):Int)=t by omega]
 rw [this] at h2;exact jAW h2
theorem jIA (h:Rws w e 1 s (brw n V)) {t:Int} (h0:0≤t) (ht:t<n):∃a,At s t 1 a∧s.blk a.block∧vG w a∧∀b,Rws (w.setCell a (.bool b)) e 1 s (brw n (Sp.upd V t b))∧Ext s.blk w (w.setCell a (.bool b)):=by
 have hset:∀b:Bool,∃a,At s t 1 a∧(∀j,j<1→vG w (a.add j))∧∀w',w'=storeRow w a [Value.bool b]→Rws w' e 1 s ((brw n V).set t.toNat [.bool b])∧Ext s.blk w w':=fun b=>h.set (i:=t.toNat) (by rw [jDP];omega) rfl (by omega);obtain ⟨a,hat,hw,_⟩:=hset true;obtain ⟨a',h1,_,hblk⟩:=h.at h0 (by rw [jDP];omega);have same:∀{x:Addr},At s t 1 x→x=a:=fun hx=>by
  obtain ⟨_,_,b1,hb1,rfl⟩:=hx;obtain ⟨_,_,b2,hb2,rfl⟩:=hat;rw [hb1] at hb2;cases hb2;rfl
 have h00:a.add 0=a:=by simp [Addr.add]
 refine ⟨a,hat,?_,by have:=hw 0 (by omega);rwa [h00] at this,fun b=>?_⟩
 ·have:=same h1;subst this;exact hblk
 ·obtain ⟨x,hx,_,hx2⟩:=hset b;have:=same hx;subst this;have hst:storeRow w x [Value.bool b]=w.setCell x (.bool b):=by show w.setCell (x.add 0) (.bool b)=_;rw [h00]
  obtain ⟨r1,r2⟩:=hx2 _ rfl;rw [hst] at r1 r2;rw [jPI,show ((t.toNat:Nat):Int)=t by omega] at r1;exact ⟨r1,r2⟩
end
structure K8S (w:World) (x q:Addr) (G:List Int) (sg:Sl):Prop where
 box:Box w x [.pointer (some q),sg.v] 48
 giv:Rws w 78 1 sg (tmr G)
 n1:¬ sg.blk x.block
def jID (w:World) (x q:Addr) (G:List Int) (F:NP):Prop:=∃sg,K8S w x q G sg∧∀b,F b↔(b=x.block∨sg.blk b)
section
variable {w w':World} {x q:Addr} {G:List Int} {F:NP}
theorem jID.ext {X:NP} (h:jID w x q G F) (hE:Ext X w w') (hd:∀b,F b→¬ X b):jID w' x q G F:=by
 obtain ⟨sg,h,hF⟩:=h;exact ⟨sg,⟨h.box.ext hE (hd _ ((hF _).2 (.inl rfl))),h.giv.ext hE (fun b hb=>hd _ ((hF _).2 (.inr hb))),h.n1⟩,hF⟩
theorem jID.pure (h:jID w x q G F) (hE:Pure w w'):jID w' x q G F:=h.ext hE (fun _ _ h=>h)
theorem jID.lt (h:jID w x q G F) {b:Nat} (hb:F b):b<w.heap.size:=by
 obtain ⟨sg,h,hF⟩:=h;rcases (hF b).1 hb with rfl | hb
 ·exact h.box.lt
 ·exact h.giv.lt hb
end
theorem jLY (x q:Addr) (t:Int) (w0:World) {L:Sp.Pool} {G:List Int} {F FR:NP} (h:jID w0 x q G F) (hP:yA w0 q L FR) (hn:G.length≤100000) :
  Calls Tryz.prog 29 #[.pointer (some x),.int .i64 t] w0 (fun e w'=>∃r:Int,e=.returned (.int .i64 r)∧∃F',jID w' x q (Sp.uU L G t) F'∧Ext F w0 w'∧∀b,F' b→F b∨w0.heap.size≤b):=by
 refine w_I4 _ _ w0 (fun r w'=>∃F',jID w' x q (Sp.uU L G t) F'∧Ext F w0 w'∧∀b,F' b→F b∨w0.heap.size≤b) ?_
 unfold m_I4
 have hA:=h
 obtain ⟨sg,h,hF⟩:=h
 refine ⟨x,rfl,_,h.box.cell0,?_⟩
 refine (uA q t w0 hP).mono ?_
 rintro _ w0 ⟨r1,rfl,rfl,rfl⟩
 refine ⟨_,rfl,fun hc=>?_,fun hc=>?_⟩
 ·have hin:Sp.inP L t=false:=by simpa using hc
  have:Sp.uU L G t=G:=by unfold Sp.uU;rw [if_neg (by simp [hin])]
  rw [this];exact ⟨F,hA,Ext.refl _,fun b hb=>.inl hb⟩
 have hin:Sp.inP L t=true:=by simpa using hc
 have hg:Sp.uU L G t=Sp.jJG G t:=by unfold Sp.uU;rw [if_pos hin]
 rw [hg]
 refine ⟨x,rfl,sg,h.box.cell rfl,?_⟩
 refine (jLX sg G t w0 h.giv.lst (by omega)).mono ?_
 rintro _ w0 ⟨r2,rfl,rfl,rfl⟩
 refine ⟨_,rfl,fun hc=>?_,fun hc=>?_⟩
 ·have hnG:t ∉ G:=by simpa using hc
  have hadd:Sp.jJG G t=G++[t]:=if_neg hnG
  rw [hadd]
  refine ⟨x,rfl,sg,h.box.cell rfl,?_⟩
  intro p1 w3 h3
  have E3:Pure w0 w3:=Ext.new h3
  obtain ⟨s1,w4,hr4,R4,X4,f4⟩:=(h.giv.pure E3).append (P:=Tryz.prog) (ty:=46) (c:=1) jDZ (r:=[.int .i64 t]) (Box.of_new h3).row rfl rfl (by rw [qF];omega) (by rw [qF];simp [maxLen];omega)
  have b4:=(h.box.pure E3).ext X4 h.n1
  refine ⟨s1,w4,hr4,x,rfl,b4.canW (by simp),?_⟩
  rintro _ rfl
  have E5:=Ext.setCell (w:=w4) (x.add 1) s1.v
  rw [zX] at E5
  have f4':∀b,s1.blk b→sg.blk b∨w0.heap.size≤b:=fun b hb=>(f4 b hb).imp_right (fun h=>by have:=E3.size;omega)
  have nx:¬ s1.blk x.block:=fun hh=>(f4' _ hh).elim h.n1 (fun hh=>by have:=h.box.lt;omega)
  refine ⟨fun b=>b=x.block∨s1.blk b,⟨s1,⟨b4.set 1 s1.v,by rw [show tmr (G++[t])=tmr G++[[.int .i64 t]] by simp [tmr]];exact R4.ext E5 (fun b hb e=>nx (e▸hb)),nx⟩,fun b=>Iff.rfl⟩,?_,fun b hb=>?_⟩
  ·exact ((E3.pure (F:=F)).trans (X4.mono (fun b _ hb=>(hF b).2 (.inr hb)))).trans (E5.mono (fun b _ e=>(hF b).2 (.inl e)))
  ·rcases hb with hb | hb
   ·exact .inl ((hF b).2 (.inl hb))
   ·exact (f4' b hb).imp_left (fun h=>(hF b).2 (.inr h))
 ·have hG:t∈G:=by simpa using hc
  have hadd:Sp.jJG G t=G:=if_pos hG
  rw [hadd];exact ⟨F,hA,Ext.refl _,fun b hb=>.inl hb⟩
theorem jMU (k:Int):s_A1 k=Sp.yG k:=rfl
theorem jJV (x q:Addr) (w0:World) {L:Sp.Pool} {G:List Int} {F FR:NP} (h:jID w0 x q G F) (hP:yA w0 q L FR) (hW:Sp.Wf L) (hG:∀g∈G,Sp.inP L g=true) (hGn:G.length≤100000) :
  Calls Tryz.prog 89 #[.pointer (some x)] w0 (fun e w'=>∃r:Sl,e=.returned r.v∧∃V,RetO w0 4 1 (brw (L.length+1) V) r w'∧∀t,Sp.inP L t=true→(V t=true↔Sp.Seen L G t)):=by
 suffices key:∀K:Sl→WP,(∀r w' V,RetO w0 4 1 (brw (L.length+1) V) r w'→(∀t,Sp.inP L t=true→(V t=true↔Sp.Seen L G t))→K r w')→m_P (some x) w0 K from
  w_P _ w0 _ (key _ (fun r w' V a b=>⟨V,a,b⟩))
 intro K hK
 unfold m_P
 have hL:=hW.ok.few
 obtain ⟨sg,h,hF⟩:=h
 obtain ⟨v2,hv2,hv2l⟩:∃v1:Sl,w0.cell? q=some v1.v∧v1.len=L.length:=by
  obtain ⟨s1,s2,s3,h,_⟩:=hP;exact ⟨s1,h.box.cell0,by rw [h.r1.len];simp⟩
 refine ⟨x,rfl,_,h.box.cell0,q,rfl,v2,hv2,?_⟩
 rw [hv2l,IntWalk.i64_in _ (by omega),show ((L.length:Int)+1)=((L.length+1:Nat):Int) by omega]
 obtain ⟨w1,hr1,R1,E1⟩:=Rws.make (P:=Tryz.prog) jMS jKE (k:=.i64) (k':=.i64) (n:=L.length+1) (by omega) (by simp [maxLen];omega) w0
 rw [jMH] at R1
 refine ⟨_,w1,hr1,E1.keptP,?_⟩
 generalize hsv:(Sl.mk (some ⟨w0.heap.size,0,none⟩) (L.length+1) (L.length+1))=sv at *
 have hsvb:∀b,sv.blk b→b=w0.heap.size:=by subst hsv;rintro b ⟨a,ha,rfl⟩;cases ha;rfl
 have nF:∀b,sv.blk b→∀{Z:NP},(∀c,Z c→c<w0.heap.size)→¬ Z b:=fun b hb Z hz hh=>by have:=hsvb b hb;have:=hz b hh;omega
 have hlg:sg.len=G.length:=by rw [h.giv.len,qF]
 refine ⟨fun i H w'=>∃j:Nat,i=j∧j≤G.length∧Pure w0 w'∧(∀b,sv.blk b→¬ H b)∧∃V,Rws w' 4 1 sv (brw (L.length+1) V)∧∀t,V t=true↔t∈G.take j,fun i _=>((G.length:Int) - i).toNat,⟨0,rfl,Nat.zero_le _,E1,fun b _ h=>h,_,R1,by simp⟩,?_⟩
 rintro _ Hl wl hl ⟨j,rfl,hj,El,hv,V,RV,hV⟩
 have hx:=h.box.pure El
 have hg:=h.giv.pure El
 unfold m_P_l1
 refine ⟨x,rfl,sg,hx.cell rfl,fun hc=>?_,fun hc=>?_⟩
 ·have hlt:=vS hlg hc
  obtain ⟨a5,at5,_,c5⟩:=jAC hg.lst hlt
  have htk:G.take (j+1)=G.take j++[G[j]]:=List.take_succ_eq_append_getElem hlt
  have hgi:=Sp.qJ.1 (hG _ (List.getElem_mem hlt))
  obtain ⟨a6,at6,hb6,cw6,hput⟩:=jIA RV (t:=G[j]) (by omega) (by omega)
  refine ⟨x,rfl,sg,hx.cell rfl,a5,at5,_,c5,a6,at6,cw6,hv _ hb6,?_⟩
  rintro _ rfl
  obtain ⟨R2,E2⟩:=hput true
  rw [zZ hlt (by omega)]
  refine ⟨⟨j+1,rfl,hlt,El.trans' E2 (fun i hi hb=>by have:=hsvb i hb;omega),hv,_,R2,fun t=>?_⟩,qX hlt⟩
  rw [htk,List.mem_append,List.mem_singleton]
  simp only [Sp.upd]
  split
  ·rename_i e;simp [e]
  ·rename_i e;rw [hV];exact ⟨.inl,fun h=>h.elim id (fun h=>absurd h e)⟩
 ·have hge:=vT hlg hj hc
  subst hge
  rw [List.take_length] at hV
  obtain ⟨v7,hv7,hv7l⟩:∃v1:Sl,wl.cell? q=some v1.v∧v1.len=L.length:=by
   obtain ⟨s1,s2,s3,h,_⟩:=hP.pure El;exact ⟨s1,h.box.cell0,by rw [h.r1.len];simp⟩
  refine ⟨x,rfl,_,hx.cell0,q,rfl,v7,hv7,?_⟩
  rw [hv7l]
  refine ⟨fun i H w'=>∃j:Nat,i=(L.length:Int) - j∧j≤L.length∧Pure w0 w'∧(∀b,sv.blk b→¬ H b)∧∃V,Rws w' 4 1 sv (brw (L.length+1) V)∧(∀t,V t=true→Sp.Seen L G t)∧(∀g∈G,V g=true)∧∀u,i<u→u≤L.length→V u=true→∀r y,Sp.uY L r u y→V y=true,fun i _=>i.toNat,
   ⟨0,by simp,Nat.zero_le _,El,hv,V,RV,fun t ht=>.given ((hV t).1 ht),fun g hg=>(hV g).2 hg,fun u h1 h2=>by omega⟩,?_⟩
  rintro _ Hm wm hm ⟨j,rfl,hj,Em,hvm,V,RV,h1,h2,h3⟩
  unfold m_P_l2
  refine ⟨fun hc=>?_,fun hc=>?_⟩
  ·have hc:=of_decide_eq_true hc
   have hin:Sp.inP L ((L.length:Int) - j)=true:=Sp.qJ.2 ⟨by omega,by omega⟩
   have hwr:IntKind.i64.wrap (((L.length:Int) - j) - 1)=(L.length:Int) - ((j+1:Nat):Int):=by rw [IntWalk.i64_in _ (by omega)];omega
   generalize ht:(L.length:Int) - j=t at *
   refine ⟨x,rfl,_,(h.box.pure Em).cell0,?_⟩
   refine (jBY q t wm (hP.pure Em) hW.ok).mono ?_
   rintro _ w3 ⟨nk,nf,nt,nu,nx,na,nb,ok,rfl,⟨hn,_⟩,E3⟩
   refine ⟨_,_,_,_,_,_,_,_,rfl,E3.keptP,?_⟩
   have hk1:(Sp.zH L t).kind=nk:=by rw [← hn]
   have ha:(Sp.zH L t).a=na:=by rw [← hn]
   have hb:(Sp.zH L t).b=nb:=by rw [← hn]
   obtain ⟨a12,at12,_,_⟩:=jIB (RV.pure E3) (t:=t) (by omega) (by omega)
   refine ⟨a12,at12,?_⟩
   intro H1 w5 hs5
   have hs3:Hst w0 Hm w3 Hm w3:=hm.again E3.keptP
   have O5:Own H1 w5 4 1 sv (brw (L.length+1) V):=(Own.hst ⟨RV.pure E3,hvm⟩ hs5)
   have E5:=(Em.trans E3).hst hs5
   obtain ⟨a12',at12',_,c12⟩:=jIB O5.rows (t:=t) (by omega) (by omega)
   have:a12'=a12:=by
    obtain ⟨_,_,b1,hb1,rfl⟩:=at12;obtain ⟨_,_,b2,hb2,rfl⟩:=at12';rw [hb1] at hb2;cases hb2;rfl
   subst this
   refine ⟨_,c12,?_⟩
   intro H3 w11 hs11
   have O11:=O5.hst hs11
   have E11:=E5.hst hs11
   unfold m_P_j3
   rw [jMU]
   have hmu:∀y:Int,y=(L.length:Int) - ((j+1:Nat):Int)→y.toNat<t.toNat:=fun y e=>by omega
   refine ⟨fun hx1=>?_,fun hx1=>?_⟩
   ·rw [Bool.and_eq_true,Bool.or_eq_true] at hx1
    obtain ⟨hvt,hkk⟩:=hx1
    have hsn:=h1 t hvt
    have hna:Sp.inP L na=true∧na<t∧Sp.Seen L G na:=by
     rcases hkk with hk | hk
     ·have hk4:nk=4:=by simpa using hk
      have:=(Sp.jLH hW hin (by rw [hk1];exact hk4)).1;rw [ha] at this;exact ⟨this.1,this.2,.aris hsn (.inl ⟨rfl,by rw [hk1];exact hk4,ha⟩)⟩
     ·have:=Sp.jOW hW hin (by rw [hk1];exact hk);rw [ha] at this;exact ⟨this.1,this.2,.aris hsn (.inr (.inr ⟨rfl,by rw [hk1];exact hk,ha⟩))⟩
    have hna1:=Sp.qJ.1 hna.1
    obtain ⟨a10,at10,hb10,cw10,hput⟩:=jIA O11.rows (t:=na) (by omega) (by omega)
    refine ⟨a10,at10,cw10,O11.vis _ hb10,?_⟩
    rintro _ rfl
    obtain ⟨R6,X6⟩:=hput true
    have E6:Pure w0 (w11.setCell a10 (.bool true)):=E11.trans' X6 (fun i hi hb=>by have:=hsvb i hb;omega)
    generalize w11.setCell a10 (.bool true)=w6 at *
    refine ⟨fun hk=>?_,fun hk=>?_⟩
    ·have hk4:nk=4:=by simpa using hk
     have hnb:=(Sp.jLH hW hin (by rw [hk1];exact hk4)).2
     rw [hb] at hnb
     have hnb1:=Sp.qJ.1 hnb.1
     obtain ⟨a11,at11,hb11,cw11,hput⟩:=jIA R6 (t:=nb) (by omega) (by omega)
     refine ⟨a11,at11,cw11,O11.vis _ hb11,?_⟩
     rintro _ rfl
     obtain ⟨R7,X7⟩:=hput true
     have E7:Pure w0 (w6.setCell a11 (.bool true)):=E6.trans' X7 (fun i hi hb=>by have:=hsvb i hb;omega)
     refine ⟨⟨j+1,hwr,by omega,E7,O11.vis,_,R7,fun y hy=>?_,fun g hg=>?_,fun u hu1 hu2 hu3 r y hay=>?_⟩,hmu _ hwr⟩
     ·simp only [Sp.upd] at hy
      split at hy
      ·rename_i e;rw [e];exact .aris hsn (.inr (.inl ⟨rfl,by rw [hk1];exact hk4,hb⟩))
      ·split at hy
       ·rename_i e;rw [e];exact hna.2.2
       ·exact h1 y hy
     ·simp only [Sp.upd];split
      ·rfl
      ·split
       ·rfl
       ·exact h2 g hg
     ·rw [hwr] at hu1
      have hc3:∀y,V y=true→Sp.upd (Sp.upd V na true) nb true y=true:=fun y hy=>by simp only [Sp.upd];split <;> (try split) <;> simp_all
      by_cases hut:u=t
      ·subst hut
       rcases hay with ⟨_,_,e⟩ | ⟨_,_,e⟩ | ⟨_,hk7,_⟩
       ·rw [← e,ha];simp only [Sp.upd];split <;> simp
       ·rw [← e,hb];simp [Sp.upd]
       ·rw [hk1,hk4] at hk7;cases hk7
      ·simp only [Sp.upd] at hu3
       rw [if_neg (by omega),if_neg (by omega)] at hu3
       exact hc3 y (h3 u (by omega) hu2 hu3 r y hay)
    ·have hk4:¬ nk=4:=by simpa using hk
     refine ⟨⟨j+1,hwr,by omega,E6,O11.vis,_,R6,fun y hy=>?_,fun g hg=>?_,fun u hu1 hu2 hu3 r y hay=>?_⟩,hmu _ hwr⟩
     ·simp only [Sp.upd] at hy
      split at hy
      ·rename_i e;rw [e];exact hna.2.2
      ·exact h1 y hy
     ·simp only [Sp.upd];split
      ·rfl
      ·exact h2 g hg
     ·rw [hwr] at hu1
      by_cases hut:u=t
      ·subst hut
       rcases hay with ⟨_,hk',_⟩ | ⟨_,hk',_⟩ | ⟨_,_,e⟩
       ·rw [hk1] at hk';exact absurd hk' hk4
       ·rw [hk1] at hk';exact absurd hk' hk4
       ·rw [← e,ha];simp [Sp.upd]
      ·simp only [Sp.upd] at hu3
       rw [if_neg (by omega)] at hu3
       have:=h3 u (by omega) hu2 hu3 r y hay
       simp only [Sp.upd];split
       ·rfl
       ·exact this
   ·refine ⟨⟨j+1,hwr,by omega,E11,O11.vis,V,O11.rows,h1,h2,fun u hu1 hu2 hu3 r y hay=>?_⟩,hmu _ hwr⟩
    rw [hwr] at hu1
    by_cases hut:u=t
    ·subst hut
     rw [hu3] at hx1
     simp only [Bool.true_and,Bool.or_eq_false_iff] at hx1
     rcases hay with ⟨_,hk',_⟩ | ⟨_,hk',_⟩ | ⟨_,hk',_⟩
     ·rw [hk1] at hk';rw [hk'] at hx1;simp at hx1
     ·rw [hk1] at hk';rw [hk'] at hx1;simp at hx1
     ·rw [hk1] at hk';rw [hk'] at hx1;simp at hx1
    ·exact h3 u (by omega) hu2 hu3 r y hay
  ·have hc:=of_decide_eq_false hc
   have hj:(L.length:Int) - j=0:=by omega
   refine hK sv wm V ⟨RV,fun b hb=>by have:=hsvb b hb;omega,Em⟩ (fun t ht=>⟨h1 t,fun hs=>?_⟩)
   have:∀t,Sp.Seen L G t→Sp.inP L t=true∧V t=true:=by
    intro t hs;induction hs with
    | given hg=>exact ⟨hG _ hg,h2 _ hg⟩
    | aris _ hay ih =>
     have hu:=Sp.qJ.1 ih.1
     exact ⟨(hay.inp hW ih.1).1,h3 _ (by omega) (by omega) ih.2 _ _ hay⟩
   exact (this t hs).2
end Go.Proofs
end
section
open Go Go.SE
namespace Go.Sp
theorem KnowOk.nil (L:Pool):KnowOk L [] []:=⟨⟨by simp [vA],by simp [vA],fun i hi=>by simp at hi⟩,by simp [vA],by simp,by simp⟩
end Go.Sp
end
section
open Go Go.SE
namespace Go.Proofs
attribute [local irreducible] wpL wpX opE wpE Calls
end Go.Proofs
end
section
open Go Go.SE
namespace Go.Proofs
attribute [local irreducible] Calls
structure KnAt (w0:World) (H:NP) (w:World) (p k:Addr) (L:Sp.Pool) (G:List Int) (S:List Sp.Way) (FP F:NP):Prop where
 pool:vE w p L FP
 know:qK w k p G S F
 pure:Pure w0 w
 oP:∀b,FP b→w0.heap.size≤b∧¬ H b
 oF:∀b,F b→w0.heap.size≤b∧¬ H b∧¬ FP b
 hs:Hst w0 H w H w
section
variable {w0 w w':World} {H H':NP} {p k:Addr} {L L':Sp.Pool} {G G':List Int} {S S':List Sp.Way} {FP FP' F F':NP}
theorem KnAt.pureE (h:KnAt w0 H w p k L G S FP F) (E:Pure w w'):KnAt w0 H w' p k L G S FP F:=⟨h.pool.pure E,h.know.pure E,h.pure.trans E,h.oP,h.oF,h.hs.again E.keptP⟩
theorem KnAt.hst (h:KnAt w0 H w p k L G S FP F) (hs:Hst w0 H w H' w'):KnAt w0 H' w' p k L G S FP F:=by
 have x1:=hs.disj (G:=FP) (fun b hb=>⟨h.pool.lt hb,(h.oP b hb).2⟩);have x2:=hs.disj (G:=F) (fun b hb=>⟨h.know.lt hb,(h.oF b hb).2.1⟩);exact ⟨h.pool.ext hs.ext x1,h.know.ext hs.ext x2,h.pure.hst hs,fun b hb=>⟨(h.oP b hb).1,x1 b hb⟩,fun b hb=>⟨(h.oF b hb).1,x2 b hb,(h.oF b hb).2.2⟩,hs.here⟩
theorem KnAt.make (h:KnAt w0 H w p k L G S FP F) (hP:vE w' p L' FP') (E:Ext FP w w') (hF:∀b,FP' b→FP b∨w.heap.size≤b):Kept H w w'∧KnAt w0 H w' p k L' G S FP' F:=by
 have hk:Kept H w w':=E.kept (fun b hb hf=>(h.oP b hf).2 hb);refine ⟨hk,hP,h.know.ext E (fun b hb=>(h.oF b hb).2.2),h.pure.trans' E (fun i hi hb=>by have:=(h.oP i hb).1;omega),fun b hb=>?_,fun b hb=>⟨(h.oF b hb).1,(h.oF b hb).2.1,fun hx=>?_⟩,h.hs.again hk⟩
 ·rcases hF b hb with h1 | h1
  ·exact h.oP b h1
  ·exact ⟨by have:=h.pure.size;omega,fun hh=>by have:=h.hs.lt b hh;omega⟩
 ·rcases hF b hx with h1 | h1
  ·exact (h.oF b hb).2.2 h1
  ·have:=h.know.lt hb;omega
theorem KnAt.add (h:KnAt w0 H w p k L G S FP F) (hK:qK w' k p G' S' F') (E:Ext F w w') (hF:∀b,F' b→F b∨w.heap.size≤b):Kept H w w'∧KnAt w0 H w' p k L G' S' FP F':=by
 have hk:Kept H w w':=E.kept (fun b hb hf=>(h.oF b hf).2.1 hb);refine ⟨hk,h.pool.ext E (fun b hb hf=>(h.oF b hf).2.2 hb),hK,h.pure.trans' E (fun i hi hb=>by have:=(h.oF i hb).1;omega),h.oP,fun b hb=>?_,h.hs.again hk⟩;rcases hF b hb with h1 | h1
 ·exact h.oF b h1
 ·exact ⟨by have:=h.pure.size;omega,fun hh=>by have:=h.hs.lt b hh;omega,fun hh=>by have:=h.pool.lt hh;omega⟩
end
end Go.Proofs
end
section
open Go Go.SE
namespace Go.Sp
end Go.Sp
namespace Go.Proofs
attribute [local irreducible] Calls
structure Pl3 (w0:World) (H:NP) (w:World) (p q:Addr) (L1 L2:Sp.Pool) (t:Sl) (ids:List Int) (F1 F2:NP):Prop where
 pure:Pure w0 w
 pool:vE w p L1 F1
 ref:yA w q L2 F2
 ts:Rws w 78 1 t (tmr ids)
 o1:∀b,F1 b→w0.heap.size≤b∧¬ H b∧¬ F2 b∧¬ t.blk b
 o2:∀b,F2 b→w0.heap.size≤b∧¬ H b∧¬ t.blk b
 o3:∀b,t.blk b→w0.heap.size≤b∧¬ H b
section
variable {w0 w w':World} {H H':NP} {p q:Addr} {L1 L2:Sp.Pool} {t:Sl} {ids:List Int} {F1 F2:NP}
theorem Pl3.pureE (h:Pl3 w0 H w p q L1 L2 t ids F1 F2) (E:Pure w w'):Pl3 w0 H w' p q L1 L2 t ids F1 F2:=⟨h.pure.trans E,h.pool.pure E,h.ref.pure E,h.ts.pure E,h.o1,h.o2,h.o3⟩
theorem Pl3.hst (h:Pl3 w0 H w p q L1 L2 t ids F1 F2) (hs:Hst w0 H w H' w'):Pl3 w0 H' w' p q L1 L2 t ids F1 F2:=by
 have d:∀b,b<w.heap.size→¬ H b→¬ H' b:=fun b h1 h2=>hs.disj (G:=(·=b)) (fun c e=>by subst e;exact ⟨h1,h2⟩) b rfl;have d1:∀b,F1 b→¬ H' b:=fun b hb=>d b (h.pool.lt hb) (h.o1 b hb).2.1;have d2:∀b,F2 b→¬ H' b:=fun b hb=>d b (h.ref.lt hb) (h.o2 b hb).2.1;have d3:∀b,t.blk b→¬ H' b:=fun b hb=>d b (h.ts.lt hb) (h.o3 b hb).2;exact ⟨h.pure.hst hs,h.pool.ext hs.ext d1,h.ref.ext hs.ext d2,h.ts.ext hs.ext d3,fun b hb=>⟨(h.o1 b hb).1,d1 b hb,(h.o1 b hb).2.2⟩,fun b hb=>⟨(h.o2 b hb).1,d2 b hb,(h.o2 b hb).2.2⟩,fun b hb=>⟨(h.o3 b hb).1,d3 b hb⟩⟩
theorem Pl3.of1 (h:Pl3 w0 H w p q L1 L2 t ids F1 F2) (hH:∀b,H b→b<w.heap.size) {L:Sp.Pool} {F:NP} (hP:vE w' p L F) (hE:Ext F1 w w') (hF:∀b,F b→F1 b∨w.heap.size≤b):Pl3 w0 H w' p q L L2 t ids F F2:=by
 refine ⟨h.pure.trans' hE (fun i hi hb=>by have:=(h.o1 i hb).1;omega),hP,h.ref.ext hE (fun b hb h1=>(h.o1 b h1).2.2.1 hb),h.ts.ext hE (fun b hb h1=>(h.o1 b h1).2.2.2 hb),fun b hb=>?_,h.o2,h.o3⟩;rcases hF b hb with h1 | h1
 ·exact h.o1 b h1
 ·exact ⟨by have:=h.pure.size;omega,fun hh=>by have:=hH b hh;omega,fun hh=>by have:=h.ref.lt hh;omega,fun hh=>by have:=h.ts.lt hh;omega⟩
theorem Pl3.of2 (h:Pl3 w0 H w p q L1 L2 t ids F1 F2) (hH:∀b,H b→b<w.heap.size) {L:Sp.Pool} {F:NP} (hP:yA w' q L F) (hE:Ext F2 w w') (hF:∀b,F b→F2 b∨w.heap.size≤b):Pl3 w0 H w' p q L1 L t ids F1 F:=by
 refine ⟨h.pure.trans' hE (fun i hi hb=>by have:=(h.o2 i hb).1;omega),h.pool.ext hE (fun b hb h1=>(h.o1 b hb).2.2.1 h1),hP,h.ts.ext hE (fun b hb h1=>(h.o2 b h1).2.2 hb),fun b hb=>?_,fun b hb=>?_,h.o3⟩
 ·refine ⟨(h.o1 b hb).1,(h.o1 b hb).2.1,fun hh=>?_,(h.o1 b hb).2.2.2⟩;rcases hF b hh with h1 | h1
  ·exact (h.o1 b hb).2.2.1 h1
  ·have:=h.pool.lt hb;omega
 ·rcases hF b hb with h1 | h1
  ·exact h.o2 b h1
  ·exact ⟨by have:=h.pure.size;omega,fun hh=>by have:=hH b hh;omega,fun hh=>by have:=h.ts.lt hh;omega⟩
end
end Go.Proofs
end
section
open Go Go.SE
namespace Go.Proofs
attribute [local irreducible] Calls
structure KqAt (w0:World) (H:NP) (w:World) (p q k:Addr) (L:Sp.Pool) (G:List Int) (S:List Sp.Way) (FP FR F:NP):Prop where
 kn:KnAt w0 H w p k L G S FP F
 ref:yA w q L FR
 oR:∀b,FR b→¬ H b
section
variable {w0 w w':World} {H H':NP} {p q k:Addr} {L:Sp.Pool} {G:List Int} {S:List Sp.Way} {FP FR F:NP}
theorem KqAt.pureE (h:KqAt w0 H w p q k L G S FP FR F) (E:Pure w w'):KqAt w0 H w' p q k L G S FP FR F:=⟨h.kn.pureE E,h.ref.pure E,h.oR⟩
theorem KqAt.hst (h:KqAt w0 H w p q k L G S FP FR F) (hs:Hst w0 H w H' w'):KqAt w0 H' w' p q k L G S FP FR F:=by
 have x1:=hs.disj (G:=FR) (fun b hb=>⟨h.ref.lt hb,h.oR b hb⟩);exact ⟨h.kn.hst hs,h.ref.ext hs.ext x1,x1⟩
theorem KqAt.start {w1 w2 w3:World} {t:Sl} {ids:List Int} (hE:Pure w0 w1) (hs:Hst w0 H w1 H w1) (hq:Pl3 w1 None w2 p q L L t ids FP FR) (hk:qK w3 k p G S F) (E:Pure w2 w3) (hF:∀b,F b→w2.heap.size≤b):KqAt w0 H w3 p q k L G S FP FR F:=by
 have z1:=hE.size;have z2:=hq.pure.size;have z3:=E.size;refine ⟨⟨hq.pool.pure E,hk,(hE.trans hq.pure).trans E,fun b hb=>?_,fun b hb=>?_,(hs.again hq.pure.keptP).again E.keptP⟩,hq.ref.pure E,fun b hb hh=>?_⟩
 ·have:=(hq.o1 b hb).1;exact ⟨by omega,fun hh=>by have:=hs.lt b hh;omega⟩
 ·have:=hF b hb;exact ⟨by omega,fun hh=>by have:=hs.lt b hh;omega,fun hh=>by have:=hq.pool.lt hh;omega⟩
 ·have:=(hq.o2 b hb).1;have:=hs.lt b hh;omega
end
theorem jIL:SlType Tryz.prog 66 107 6 72:=by
 refine ⟨Tryz.underlying66,⟨Tryz.t107,_,by kernel_rfl,(by kernel_rfl:Tryz.t107.zero=some (.agg #[.int .i64 0,.int .i64 0,.int .i64 0,.int .u64 0,.string ⟨#[]⟩,.slice none 0 0])),by kernel_rfl,by kernel_rfl,rfl⟩,by omega⟩
def jOR (p:Sp.Tree×Sl):List Value:=yL p.1 p.2
theorem TreeAt.of_pairs {S:NP} {w:World} {s:Sl} {e:TypeId} {ps:List (Sp.Tree×Sl)} {k f t u:Int} {x:ByteArray} (hR:Rws w e 6 s (ps.map jOR)) (hS:∀b,s.blk b→S b) (hk:∀p∈ps,TreeAt S w p.2 p.1) (fit:ps.length≤9223372036854775807):TreeAt S w s (.mk k f t u x (ps.map Prod.fst)):=by
 refine .mk k f t u x _ s (fun i=>(ps.getD i (Sp.jBS,Sl.nil)).2) (by rw [hR.len];simp) (by simpa using fit) (fun i h=>?_) (fun i h=>?_)
 ·have h':i<ps.length:=by simpa using h
  obtain ⟨a,h1,h2,h3⟩:=hR.at (i:=i) (by omega) (by simpa using h');refine ⟨a,h1,hS _ h3,?_⟩;have e1:(ps.map Prod.fst)[i]=ps[i].1:=by simp
  have e2:(ps.getD i (Sp.jBS,Sl.nil)).2=ps[i].2:=by simp [List.getD_eq_getElem?_getD,h']
  rw [e1,e2];simpa [jOR] using h2
 ·have h':i<ps.length:=by simpa using h
  have e1:(ps.map Prod.fst)[i]=ps[i].1:=by simp
  have e2:(ps.getD i (Sp.jBS,Sl.nil)).2=ps[i].2:=by simp [List.getD_eq_getElem?_getD,h']
  rw [e1,e2];exact hk _ (List.getElem_mem h')
theorem jIJ (t:Sp.Tree) (s:Sl):(yL t s).all qG=true:=by simp [yL,qG,Sl.v]
end Go.Proofs
end
section
open Go Go.SE
namespace Go.Sp
theorem Drv.inp {L:Pool} {K:Int→Prop} {t:Int} (h:Drv L K t) (hK:K t→inP L t=true):inP L t=true:=by
 cases hin:inP L t with
 | true=>rfl
 | false =>
  have hk:(zH L t).kind=0:=by unfold zH;rw [uB hin];rfl
  cases h with
  | seen h=>rw [hK h] at hin;cases hin
  | free h=>rw [hk] at h;cases h
  | pair h _ _=>rw [hk] at h;cases h
  | hash h _=>rw [hk] at h;cases h
  | sign h _ _ _=>rw [hk] at h;cases h
end Go.Sp
namespace Go.Proofs
attribute [local irreducible] Calls
theorem jJW (x q:Addr) (w0:World) {L:Sp.Pool} {G:List Int} {F FR:NP} (h:jID w0 x q G F) (hP:yA w0 q L FR) (hW:Sp.Wf L) (hG:∀g∈G,Sp.inP L g=true) (hGn:G.length≤100000) :
  Calls Tryz.prog 31 #[.pointer (some x)] w0 (fun e w'=>∃r:Sl,e=.returned r.v∧∃l,RetO w0 78 1 (tmr l) r w'∧(∀y,y∈l↔Sp.inP L y=true∧Sp.Seen L G y)∧l.Pairwise (·<·)):=by
 refine w_V1 _ w0 (fun r w'=>∃l,RetO w0 78 1 (tmr l) r w'∧(∀y,y∈l↔Sp.inP L y=true∧Sp.Seen L G y)∧l.Pairwise (·<·)) ?_
 unfold m_V1
 have hnil:∀b,¬ Sl.nil.blk b:=fun b hb=>by obtain ⟨a,h,_⟩:=hb;cases h
 have hL:=hW.ok.few
 refine (jJV x q w0 h hP hW hG hGn).mono ?_
 rintro _ w1 ⟨r1,rfl,V,hR,hV⟩
 refine ⟨_,rfl,?_⟩
 have lr:r1.len=L.length+1:=by rw [hR.rows.len,jDP]
 refine ⟨fun l t w'=>∃(j:Nat) (ls:List Int),t=(j:Int)+1∧j≤L.length∧Pure w1 w'∧Rws w' 78 1 l (tmr ls)∧(∀b,l.blk b→w1.heap.size≤b)∧(∀y,y∈ls↔(1≤y∧y≤j)∧V y=true)∧ls.Pairwise (·<·)∧ls.length≤j,fun _ t _=>((L.length:Int)+1 - t).toNat,
  ⟨0,[],by omega,Nat.zero_le _,Ext.refl _,Rws.nil _ _ _,fun b hb=>(hnil b hb).elim,fun y=>⟨fun h=>by (cases h),fun h=>by omega⟩,List.Pairwise.nil,Nat.le_refl _⟩,?_⟩
 rintro l _ wl ⟨j,ls,rfl,hj,E,hl,hln,hm,hpw,hlen⟩
 unfold m_V1_l1
 rw [lr]
 refine ⟨fun hc=>?_,fun hc=>?_⟩
 ·have hc:=of_decide_eq_true hc
  have hj':j<L.length:=by omega
  have hw:IntKind.i64.wrap ((j:Int)+1+1)=((j+1:Nat):Int)+1:=by rw [IntWalk.i64_in _ (by omega)];omega
  obtain ⟨a,hat,_,hv⟩:=jIB (hR.rows.pure E) (t:=(j:Int)+1) (by omega) (by omega)
  refine ⟨a,hat,_,hv,fun ht=>?_,fun hf=>?_⟩
  ·intro p1 w2 h2
   have E2:Pure wl w2:=Ext.new h2
   obtain ⟨s1,w3,hr3,R3,X3,f3⟩:=(hl.pure E2).append (P:=Tryz.prog) (ty:=46) (c:=1) jDZ (r:=[.int .i64 ((j:Int)+1)]) (Box.of_new h2).row rfl rfl (by rw [qF];omega) (by rw [qF];simp [maxLen];omega)
   refine ⟨s1,w3,hr3,?_⟩
   rw [hw]
   refine ⟨⟨j+1,ls++[(j:Int)+1],rfl,hj',(E.trans E2).trans' X3 (fun i hi hb=>by have:=hln i hb;omega),by rw [show tmr (ls++[(j:Int)+1])=tmr ls++[[.int .i64 ((j:Int)+1)]] by simp [tmr]];exact R3,fun b hb=>(f3 b hb).elim (hln b) (fun h=>by have:=(E.trans E2).size;omega),fun y=>?_,?_,by simp;omega⟩,by show ((L.length:Int)+1 - (((j+1:Nat):Int)+1)).toNat<((L.length:Int)+1 - ((j:Int)+1)).toNat;omega⟩
   ·rw [List.mem_append,hm,List.mem_singleton]
    constructor
    ·rintro (⟨h1,h2⟩ | rfl)
     ·exact ⟨by omega,h2⟩
     ·exact ⟨by omega,ht⟩
    ·rintro ⟨h1,h2⟩
     by_cases e:y=(j:Int)+1
     ·exact .inr e
     ·exact .inl ⟨by omega,h2⟩
   ·rw [List.pairwise_append]
    exact ⟨hpw,by simp,fun a ha b hb=>by simp at hb;have:=((hm a).1 ha).1;omega⟩
  ·rw [hw]
   refine ⟨⟨j+1,ls,rfl,hj',E,hl,hln,fun y=>?_,hpw,by omega⟩,by show ((L.length:Int)+1 - (((j+1:Nat):Int)+1)).toNat<((L.length:Int)+1 - ((j:Int)+1)).toNat;omega⟩
   rw [hm]
   constructor
   ·rintro ⟨h1,h2⟩;exact ⟨by omega,h2⟩
   ·rintro ⟨h1,h2⟩
    by_cases e:y=(j:Int)+1
    ·subst e;rw [h2] at hf;cases hf
    ·exact ⟨by omega,h2⟩
 ·have hc:=of_decide_eq_false hc
  have hj':j=L.length:=by omega
  subst hj'
  refine ⟨ls,⟨hl,fun b hb=>by have:=hln b hb;have:=hR.pure.size;omega,hR.pure.trans E⟩,fun y=>?_,hpw⟩
  rw [hm,← Sp.qJ]
  exact and_congr_right fun hy=>hV y hy
end Go.Proofs
end
section
open Go Go.SE
namespace Go.Sp
theorem jLC {L:Pool} {ts:List Int} {x:Int}:x∈tA L ts↔x∈ts∧inP L x=true:=by
 have:∀(ts G:List Int),x∈ts.foldl (uU L) G↔x∈G∨(x∈ts∧inP L x=true):=by
  intro ts;induction ts with
  | nil=>intro G;simp
  | cons t ts ih =>
   intro G
   rw [List.foldl_cons,ih]
   unfold uU
   split
   ·rename_i h
    rw [jCE]
    simp only [List.mem_cons]
    constructor
    ·rintro ((h1 | rfl) | h1)
     ·exact .inl h1
     ·exact .inr ⟨.inl rfl,h⟩
     ·exact .inr ⟨.inr h1.1,h1.2⟩
    ·rintro (h1 | ⟨rfl | h1,h2⟩)
     ·exact .inl (.inl h1)
     ·exact .inl (.inr rfl)
     ·exact .inr ⟨h1,h2⟩
   ·rename_i h
    simp only [List.mem_cons]
    constructor
    ·rintro (h1 | h1)
     ·exact .inl h1
     ·exact .inr ⟨.inr h1.1,h1.2⟩
    ·rintro (h1 | ⟨rfl | h1,h2⟩)
     ·exact .inl h1
     ·exact absurd h2 h
     ·exact .inr ⟨h1,h2⟩
 rw [tA,this];simp
theorem jGB (L:Pool) (ts:List Int):(tA L ts).length≤ts.length:=by
 have:∀(ts G:List Int),(ts.foldl (uU L) G).length≤G.length+ts.length:=by
  intro ts;induction ts with
  | nil=>intro G;simp
  | cons t ts ih =>
   intro G
   have h1:=ih (uU L G t)
   have h2:(uU L G t).length≤G.length+1:=by
    unfold uU;split
    ·unfold jJG;split
     ·omega
     ·simp
    ·omega
   simp only [List.foldl_cons,List.length_cons];omega
 have:=this ts [];simpa [tA] using this
theorem Seen.inP' {L:Pool} (hW:Wf L) {G:List Int} (hG:∀g∈G,inP L g=true) {t:Int} (h:Seen L G t):inP L t=true:=by
 induction h with
 | given h=>exact hG _ h
 | aris _ ha ih=>exact (ha.inp hW ih).1
theorem jIF.same {L:Pool} {G M:List Int} {fs gs:List Fact} (h:jIF L G fs) (h':jIF L M gs) (hs:∀t,Seen L G t↔Seen L M t):fs=gs :=
 jCR h.1 h'.1 fun x=>by rw [h.2,h'.2];exact exists_congr fun t=>and_congr_left fun _=>hs t
end Go.Sp
namespace Go.Proofs
attribute [local irreducible] Calls
theorem jLW {S1:NP} (sa:Sl) (fs:List Sp.Fact) (g:Sp.Fact) (w0:World) (ha:Lst S1 w0 4 sa (fs.map tB)) (hn:fs.length≤1000000) :
  Calls Tryz.prog 27 #[sa.v,.agg #[.int .i64 g.kind,.int .i64 g.who,.int .u64 g.c,.string g.text]] w0 (fun e w'=>∃r:Bool,e=.returned (.bool r)∧(r=decide (g∈fs)∧Pure w0 w')):=by
 suffices key:∀K:Bool→WP,(∀w',Pure w0 w'→K (decide (g∈fs)) w')→m_I1 sa g.kind g.who g.c g.text w0 K from
  w_I1 _ _ _ _ _ w0 _ (key _ (fun _ h=>⟨rfl,h⟩))
 intro K hK
 unfold m_I1
 have hla:sa.len=fs.length:=by rw [ha.len];simp
 intro H1 w1 hs1
 refine ⟨fun i H w'=>∃j:Nat,i=j∧j≤fs.length∧Pure w0 w'∧g ∉ fs.take j,fun i _=>((fs.length:Int) - i).toNat,⟨0,rfl,Nat.zero_le _,hs1.first,by simp⟩,?_⟩
 rintro _ Hl wl _ ⟨j,rfl,hj,El,ht⟩
 unfold m_I1_l1
 refine ⟨fun h=>?_,fun h=>?_⟩
 ·have hlt:=vS hla h
  obtain ⟨a2,hat,_,hrow⟩:=ha.nth hlt
  refine ⟨a2,hat,fun w2 hs2=>?_⟩
  have E1:=El.hst hs2
  refine ⟨_,_,_,_,E1.row hrow id,fun hd=>?_,fun hd=>?_⟩
  ·rw [tX] at hd
   have hd:=of_decide_eq_true hd
   have:=hK w2 E1
   rwa [decide_eq_true (hd▸List.getElem_mem hlt)] at this
  ·rw [tX] at hd
   have hd:¬ fs[j]=g:=by simpa using hd
   rw [zZ hlt (by omega)]
   refine ⟨⟨j+1,rfl,hlt,E1,?_⟩,qX hlt⟩
   rw [List.take_succ_eq_append_getElem hlt]
   simp only [List.mem_append,List.mem_singleton,not_or]
   exact ⟨ht,fun e=>hd e.symm⟩
 ·have hge:=vT hla hj h
  subst hge
  rw [List.take_length] at ht
  have:=hK wl El
  rwa [decide_eq_false ht] at this
end Go.Proofs
end
section
open Go Go.SE
namespace Go.Proofs
attribute [local irreducible] Calls
theorem jGN (p:Addr) {L:Sp.Pool} (hW:Sp.Wf L):∀(n:Nat) (t:Int) (w0:World) (F:NP),t.toNat=n→yA w0 p L F →
  Calls Tryz.prog 49 #[.pointer (some p),.int .i64 t] w0 (RetT w0.heap.size w0 (Sp.vB L t)):=by
 intro n
 induction n using Nat.strongRecOn with
 | _ n ih =>
 intro t w0 F hn hP
 suffices key:∀K:Int→Int→Int→Int→ByteArray→Sl→WP,(∀k f t' u x s' w' ks,Sp.vB L t=.mk k f t' u x ks→TreeAt (w0.heap.size≤·) w' s' (.mk k f t' u x ks)→Pure w0 w'→K k f t' u x s' w')→m_Z (some p) t w0 K by
  refine (w_Z _ _ w0 (fun k f t' u x s' w'=>∃ks,Sp.vB L t=.mk k f t' u x ks∧TreeAt (w0.heap.size≤·) w' s' (.mk k f t' u x ks)∧Pure w0 w') (key _ (fun k f t' u x s' w' ks h1 h2 h3=>⟨ks,h1,h2,h3⟩))).mono ?_;rintro _ w' ⟨k,f,t',u,x,s',rfl,ks,h1,h2,h3⟩;rw [h1];exact ⟨s',rfl,h2,h3⟩
 intro K hK
 have hok:=hW.ok
 have hnil:∀b,¬ Sl.nil.blk b:=fun b hb=>by obtain ⟨a,h,_⟩:=hb;cases h
 unfold m_Z
 intro H1 w1 hs1
 have E1:=hs1.first
 refine (jBY p t w1 (hP.pure E1) hok).mono ?_
 rintro _ w2 ⟨k,f,t',u,x,a,b,r,rfl,⟨hnd,hr⟩,E2⟩
 have E02:=E1.trans E2
 have hs2:=hs1.again E2.keptP
 refine ⟨_,_,_,_,_,_,_,_,rfl,E2.keptP,fun h=>?_,fun h=>?_⟩
 ·intro H2 w5 hs5
  have hin:Sp.inP L t=false:=by rw [← hr];simpa using h
  exact hK _ _ _ _ _ _ _ [] (by rw [Sp.jHF hin];rfl) TreeAt.leaf (E02.hst hs5)
 ·have hin:Sp.inP L t=true:=by rw [← hr];simpa using h
  have htr:=Sp.uF hW hin
  have hnode:=hW.node hin
  rw [← hnd] at htr hnode
  simp only at htr hnode
  obtain ⟨_,_,_,_,hkid,_,_⟩:=hnode
  have hpos:=Sp.qJ.1 hin
  rw [xN]
  have J1 : ∀ (xs : Sl) (H : NP) (w : World) (ps : List (Sp.Tree × Sl)) (S' : NP), Hst w0 H w H w → Pure w0 w → Own H w 107 6 xs (ps.map jOR) → ps.length ≤ 1 → (∀ p ∈ ps, TreeAt S' w p.2 p.1) → (∀ b, S' b → w0.heap.size ≤ b ∧ b < w.heap.size ∧ ¬ H b ∧ ¬ xs.blk b) → (∀ b, xs.blk b → w0.heap.size ≤ b) →
    ((Sp.shapeOf k).kids=2→ps.map Prod.fst=[Sp.vB L a])→((Sp.shapeOf k).kids≠2→ps.map Prod.fst=(Sp.vD ⟨k,f,t',u,x,a,b⟩).map (Sp.vB L)) →
    m_Z_j1 (some p) k b k f t' u x xs w0 H w K:=by
   intro xs H w ps S' hs E O hpl hkids hS' hxs h2 h1
   unfold m_Z_j1
   rw [xN]
   refine ⟨fun h=>?_,fun h=>?_⟩
   ·have hk2:(Sp.shapeOf k).kids=2:=by simpa using h
    have hps:=h2 hk2
    intro w9 hs9
    have E9:=E.hst hs9
    have O9:=O.hst hs9
    have E10:Pure w9 w9.drew:=Ext.drew w9
    refine ⟨fun _=>True,trivial,?_⟩
    rintro _ rfl
    have hb:=hkid b (by simp [Sp.vD,hk2])
    have hbp:=Sp.qJ.1 hb.1
    refine (ih b.toNat (by omega) b w9.drew F rfl (hP.pure (E9.trans E10))).mono ?_
    rintro _ w11 ⟨s',rfl,hTb,E11⟩
    generalize hTt:Sp.vB L b=tb at *
    obtain ⟨k2,f2,t2,u2,x2,ks2⟩:=tb
    refine ⟨_,_,_,_,_,s',rfl,trivial,E11.keptP,?_⟩
    intro p5 w12 h12
    have E12:Pure w11 w12:=Ext.new h12
    refine ⟨trivial,?_⟩
    have hs12:Hst w0 H w12 H w12:=(hs9.again E10.keptP).again (E11.trans E12).keptP
    obtain ⟨s1,w13,hr13,hO13,hE13,hk13,hb13⟩:=(O9.pure ((E10.trans E11).trans E12)).append (P:=Tryz.prog) (ty:=66) (c:=1) jIL hs12 (r:=yL (.mk k2 f2 t2 u2 x2 ks2) s') (Box.of_new h12).row rfl (jIJ _ _) (by simp;omega) (by simp [maxLen];omega)
    refine ⟨s1,w13,hr13,trivial,hk13,?_⟩
    intro w15 hs15
    have zd:w9.drew.heap.size=w9.heap.size:=rfl
    have z9:=hs9.ext.size
    have z11:=E11.size
    have z12:=E12.size
    have z13:=hE13.size
    have hS9:∀b,S' b→w0.heap.size≤b∧b<w9.heap.size∧¬ H b∧¬ xs.blk b:=fun b hb=>⟨(hS' b hb).1,by have:=(hS' b hb).2.1;omega,(hS' b hb).2.2.1,(hS' b hb).2.2.2⟩
    have hvs:∀b,s1.blk b→b<w13.heap.size∧¬ H b:=fun b hb=>⟨hO13.rows.lt hb,hO13.vis b hb⟩
    have hR15:=hO13.rows.ext hs15.ext (hs15.disj (G:=s1.blk) hvs)
    have e1:ps.map jOR++[yL (.mk k2 f2 t2 u2 x2 ks2) s']=(ps++[((.mk k2 f2 t2 u2 x2 ks2:Sp.Tree),s')]).map jOR:=by simp [jOR]
    rw [e1] at hR15
    have hT:=TreeAt.of_pairs (S:=fun b=>w0.heap.size≤b) (k:=k) (f:=f) (t:=t') (u:=u) (x:=x) hR15 (fun b hb=>(hb13 b hb).elim (hxs b) (fun h=>by have:=E9.size;omega)) (fun q hq=>?_) (by simp;omega)
    ·have e2 : (ps ++ [((.mk k2 f2 t2 u2 x2 ks2 : Sp.Tree), s')]).map Prod.fst = (Sp.vD ⟨k, f, t', u, x, a, b⟩).map (Sp.vB L) := by
      rw [List.map_append,hps];simp [Sp.vD,hk2,hTt]
     rw [e2] at hT
     exact hK _ _ _ _ _ _ _ _ htr hT ((((E9.trans E10).trans E11).trans E12).trans' hE13 (fun i hi hb=>by have:=hxs i hb;omega) |>.hst hs15)
    ·rcases List.mem_append.1 hq with h | h
     ·have q1:=(hkids q h).hst hs9 (fun b hb=>⟨(hS' b hb).2.1,(hS' b hb).2.2.1⟩)
      have q2:=(q1.pure ((E10.trans E11).trans E12)).ext hE13 (fun b hb hy=>(hS' b hb).2.2.2 hy)
      exact (q2.hst hs15 (fun b hb=>⟨by have:=(hS9 b hb).2.1;omega,(hS' b hb).2.2.1⟩)).mono (fun b hb=>(hS' b hb).1)
     ·simp only [List.mem_singleton] at h;subst h
      have q1:=(hTb.lt.pure E12).ext hE13 (fun b hb hy=>by have:=O9.rows.lt hy;have:=hb.1;omega)
      exact (q1.hst hs15 (fun b hb=>⟨by have:=hb.2;omega,fun hh=>by have:=hs9.lt b hh;have:=hb.1;omega⟩)).mono (fun b hb=>by have:=hb.1;have:=E9.size;omega)
   ·have hk2:(Sp.shapeOf k).kids≠2:=by simpa using h
    intro w16 hs16
    have O16:=O.hst hs16
    have hT:=TreeAt.of_pairs (S:=fun b=>w0.heap.size≤b) (k:=k) (f:=f) (t:=t') (u:=u) (x:=x) O16.rows hxs (fun q hq=>((hkids q hq).hst hs16 (fun b hb=>⟨(hS' b hb).2.1,(hS' b hb).2.2.1⟩)).mono (fun b hb=>(hS' b hb).1)) (by omega)
    rw [h1 hk2] at hT
    exact hK _ _ _ _ _ _ _ _ htr hT (E.hst hs16)
  have hkk:=Sp.jDK k
  refine ⟨fun h=>?_,fun h=>?_⟩
  ·have hk1:1≤(Sp.shapeOf k).kids:=by have:=of_decide_eq_true h;omega
   intro H3 w8 hs8
   have E8:=E02.hst hs8
   have E17:Pure w8 w8.drew:=Ext.drew w8
   refine ⟨fun _=>True,trivial,?_⟩
   rintro _ rfl
   have ha:=hkid a (by rcases hkk with h | h | h <;> simp [Sp.vD,h] <;> omega)
   have hap:=Sp.qJ.1 ha.1
   refine (ih a.toNat (by omega) a w8.drew F rfl (hP.pure (E8.trans E17))).mono ?_
   rintro _ w18 ⟨s',rfl,hTa,E18⟩
   generalize hTt:Sp.vB L a=ta at *
   obtain ⟨k2,f2,t2,u2,x2,ks2⟩:=ta
   refine ⟨_,_,_,_,_,s',rfl,trivial,E18.keptP,?_⟩
   intro p6 w19 h19
   have E19:Pure w18 w19:=Ext.new h19
   refine ⟨trivial,?_⟩
   have hs19:Hst w0 H3 w19 H3 w19:=(hs8.again E17.keptP).again (E18.trans E19).keptP
   obtain ⟨s2,w20,hr20,hO20,hE20,hk20,hb20⟩:=(Own.nil (sz:=6) (e:=107) H3 w19).append (P:=Tryz.prog) (ty:=66) (c:=1) jIL hs19 (r:=yL (.mk k2 f2 t2 u2 x2 ks2) s') (Box.of_new h19).row rfl (jIJ _ _) (by simp) (by simp [maxLen])
   refine ⟨s2,w20,hr20,trivial,hk20,?_⟩
   intro w21 hs21
   have zd:w8.drew.heap.size=w8.heap.size:=rfl
   have z18:=E18.size
   have z19:=E19.size
   have z20:=hE20.size
   have z21:=hs21.ext.size
   have E20:Pure w19 w20:=hE20.mono (fun b _ hb=>hnil b hb)
   have hs2n:∀b,s2.blk b→w19.heap.size≤b:=fun b hb=>(hb20 b hb).elim (fun h=>(hnil b h).elim) id
   refine J1 s2 H3 w21 [((.mk k2 f2 t2 u2 x2 ks2:Sp.Tree),s')] (fun b=>w8.heap.size≤b∧b<w18.heap.size) hs21.here ((((E8.trans E17).trans E18).trans E19).trans E20 |>.hst hs21) ?_ (by simp) ?_ ?_ (fun b hb=>by have:=hs2n b hb;have:=E8.size;omega) (fun _=>by simp) (fun hne=>?_)
   ·have:=hO20.hst hs21;simpa [jOR] using this
   ·intro q hq
    simp only [List.mem_singleton] at hq;subst hq
    exact ((hTa.lt.pure E19).pure E20).hst hs21 (fun b hb=>⟨by have:=hb.2;omega,fun hh=>by have:=hs8.lt b hh;have:=hb.1;omega⟩)
   ·rintro b ⟨h1,h2⟩
    exact ⟨by have:=E8.size;omega,by omega,fun hh=>by have:=hs8.lt b hh;omega,fun hh=>by have:=hs2n b hh;omega⟩
   ·rcases hkk with h | h | h
    ·omega
    ·simp [Sp.vD,h,hTt]
    ·exact absurd h hne
  ·have hk0:(Sp.shapeOf k).kids=0:=by have:=of_decide_eq_false h;omega
   intro H3 w8 hs8
   exact J1 Sl.nil H3 w8 [] (fun _=>False) hs8.here (E02.hst hs8) (Own.nil _ _) (by simp) (by simp) (fun b h=>h.elim) (fun b h=>(hnil b h).elim) (fun h=>by omega) (fun _=>by simp [Sp.vD,hk0])
end Go.Proofs
end
section
open Go Go.SE
open Go.IntKind renaming i64 → q6
namespace Go.Proofs
set_option maxRecDepth 100000
set_option maxHeartbeats 4000000
attribute [local irreducible] wpL wpX opE wpE Calls
def m_P1_l1 (path1:Sl) (i1 aV:Int) (aW bL bM:Int) (aX:ByteArray) (bN:Sl) (aI aJ:Int) (aY aZ:Int) (aK:ByteArray) (aT:Sl) (w0:World) (Hl1:NP) (wl1:World) (Kc1:Int→Int→Int→Int→Int→ByteArray→Sl→Int→Int→Int→Int→ByteArray→Sl→NP→WP) (K:Int→Int→Int→Int→ByteArray→Sl→WP):Prop :=Br (decide (i1<(path1.len:Int))) (∃a1:Addr,At path1 i1 1 a1∧∀w3,Hst w0 Hl1 wl1 Hl1 w3→∃v1,w3.cell? a1=some (vi v1)∧Br (decide (v1≥(aT.len:Int))) (∀w4,Hst w0 Hl1 w3 Hl1 w4→K 0 0 0 0 ⟨#[]⟩ Sl.nil w4) (∃a2:Addr,At path1 i1 1 a2∧∃v2,w3.cell? a2=some (vi v2)∧¬ Hl1 a2.block∧∃a3:Addr,At aT v2 6 a3∧∃bF bG bH bI bJ bK,Row w3 a3 (Ab bF bG bH bI bJ bK)∧¬ Hl1 a3.block∧∀H3 w7,Hst w0 Hl1 w3 H3 w7→Kc1 (q6.wrap (i1+1)) aV aW bL bM aX bN bF bG bH bI bJ bK H3 w7)) (∀w9,Hst w0 Hl1 wl1 Hl1 w9→K aI aJ aY aZ aK aT w9)
def m_P1 (aD aC:Int) (aE aF:Int) (aG:ByteArray) (aH path1:Sl) (w0:World) (K:Int→Int→Int→Int→ByteArray→Sl→WP):Prop :=∀H2 w2,Hst w0 None w0 H2 w2→∃(I1:Int→Int→Int→Int→Int→ByteArray→Sl→Int→Int→Int→Int→ByteArray→Sl→NP→WP) (mu1:Int→Int→Int→Int→Int→ByteArray→Sl→Int→Int→Int→Int→ByteArray→Sl→World→Nat),I1 0 0 0 0 0 ⟨#[]⟩ Sl.nil aD aC aE aF aG aH H2 w2∧∀(i1 aV:Int) (aW bL bM:Int) (aX:ByteArray) (bN:Sl) (aI aJ:Int) (aY aZ:Int) (aK:ByteArray) (aT:Sl) (Hl1:NP) (wl1:World),Hst w0 Hl1 wl1 Hl1 wl1→I1 i1 aV aW bL bM aX bN aI aJ aY aZ aK aT Hl1 wl1→m_P1_l1 path1 i1 aV aW bL bM aX bN aI aJ aY aZ aK aT w0 Hl1 wl1 (fun y'0 y'1 y'2 y'3 y'4 y'5 y'6 y'7 y'8 y'9 y'10 y'11 y'12 H' w'=>I1 y'0 y'1 y'2 y'3 y'4 y'5 y'6 y'7 y'8 y'9 y'10 y'11 y'12 H' w'∧mu1 y'0 y'1 y'2 y'3 y'4 y'5 y'6 y'7 y'8 y'9 y'10 y'11 y'12 w'<mu1 i1 aV aW bL bM aX bN aI aJ aY aZ aK aT wl1) K
theorem w_P1 (aD aC aE aF aG aH path1 w0 K) (h:m_P1 aD aC aE aF aG aH path1 w0 K):
  Calls Tryz.prog 163 #[(.agg #[(vi aD),(vi aC),(vi aE),(vu aF),(vs aG),aH.v]),path1.v] w0 (fun e w'=>∃bT bU bV bW bX bY,e=.returned (Aa bT bU bV bW bX bY)∧K bT bU bV bW bX bY w'):=by
 refine cw (args:=[(Aa aD aC aE aF aG aH),path1.v]) Tryz.func163 Tryz.ntmps163 ?_
 obtain ⟨hs,hb⟩:=st0 w0
 refine eg (nw3 (Ab aD aC aE aF aG aH) 107 hs hb xb fun p1 w1 H1 hs hb=>nw3 [(vi 0),(vi 0),(vi 0),(vu 0),(vs ⟨#[]⟩),Sl.nil.v] 107 hs hb (zM (Tryz.zeroValue107 _) rfl) fun p2 w2 H2 hs hb=>ln (zA (eg (q (ln (zJ ?_))))))
 have ⟨h,hs⟩:=hs.hr (h H2 w2)
 obtain ⟨I1,mu1,h0,hr⟩:=h
 refine vH (σ:=Int×Int×Int×Int×Int×ByteArray×Sl×Int×Int×Int×Int×ByteArray×Sl×NP×World) (fun s ρ w=>w=s.2.2.2.2.2.2.2.2.2.2.2.2.2.2∧Has ρ [(1,path1.v),(2,(vp (some p1))),(4,(vp (some p2))),(5,(vi s.1))]∧Hst w0 s.2.2.2.2.2.2.2.2.2.2.2.2.2.1 w s.2.2.2.2.2.2.2.2.2.2.2.2.2.1 w∧HB s.2.2.2.2.2.2.2.2.2.2.2.2.2.1 w [(p2,[(vi s.2.1),(vi s.2.2.1),(vi s.2.2.2.1),(vu s.2.2.2.2.1),(vs s.2.2.2.2.2.1),s.2.2.2.2.2.2.1.v],107),(p1,[(vi s.2.2.2.2.2.2.2.1),(vi s.2.2.2.2.2.2.2.2.1),(vi s.2.2.2.2.2.2.2.2.2.1),(vu s.2.2.2.2.2.2.2.2.2.2.1),(vs s.2.2.2.2.2.2.2.2.2.2.2.1),s.2.2.2.2.2.2.2.2.2.2.2.2.1.v],107)]∧I1 s.1 s.2.1 s.2.2.1 s.2.2.2.1 s.2.2.2.2.1 s.2.2.2.2.2.1 s.2.2.2.2.2.2.1 s.2.2.2.2.2.2.2.1 s.2.2.2.2.2.2.2.2.1 s.2.2.2.2.2.2.2.2.2.1 s.2.2.2.2.2.2.2.2.2.2.1 s.2.2.2.2.2.2.2.2.2.2.2.1 s.2.2.2.2.2.2.2.2.2.2.2.2.1 s.2.2.2.2.2.2.2.2.2.2.2.2.2.1 s.2.2.2.2.2.2.2.2.2.2.2.2.2.2) (fun s=>mu1 s.1 s.2.1 s.2.2.1 s.2.2.2.1 s.2.2.2.2.1 s.2.2.2.2.2.1 s.2.2.2.2.2.2.1 s.2.2.2.2.2.2.2.1 s.2.2.2.2.2.2.2.2.1 s.2.2.2.2.2.2.2.2.2.1 s.2.2.2.2.2.2.2.2.2.2.1 s.2.2.2.2.2.2.2.2.2.2.2.1 s.2.2.2.2.2.2.2.2.2.2.2.2.1 s.2.2.2.2.2.2.2.2.2.2.2.2.2.2) (0,0,0,0,0,⟨#[]⟩,Sl.nil,aD,aC,aE,aF,aG,aH,H2,w2) ⟨rfl,hm,hs,hb,h0⟩ ?_
 rintro ⟨i1,aV,aW,bL,bM,aX,bN,aI,aJ,aY,aZ,aK,aT,Hl1,wl1⟩ ρ w ⟨hw,hH,hs,hb,hI⟩
 dsimp only at hw hH hs hb;subst w
 have h:=hr i1 aV aW bL bM aX bN aI aJ aY aZ aK aT Hl1 wl1 hs hI
 refine zU hH (zA (eg (qd (ln (cbr h ?_ ?_)))))<;>intro h
 refine zB (zO (zA (zJ (zA (zA (uN (by kernel_rfl) (by kernel_rfl) (by kernel_rfl) (by kernel_rfl) ?_))))))
 intro w3 hw3
 have hs:Hst w0 Hl1 wl1 Hl1 w3:=by rw [hw3];exact hs.drew
 have hb:HB Hl1 w3 [(p2,(Ab aV aW bL bM aX bN),107),(p1,(Ab aI aJ aY aZ aK aT),107)]:=by rw [hw3];exact hb.drew
 refine qq 0 path1.v Kp0 (qq 1 (vi i1) Kp1 (qg 2 ?_))
 obtain ⟨a1,hv6,h⟩:=h
 refine sxQ Kp2 (zD rfl) rfl (xi (Tryz.runUnderlying42 _) (Tryz.sizeOf3 _) hv6) (qg 3 ?_)
 have ⟨h,hs⟩:=hs.hr (h w3)
 obtain ⟨v1,hv5,h⟩:=h
 refine sxQ Kp3 (zD rfl) rfl (xl (Tryz.isAgg3 _) hv5) (qq 4 (vp (some (p1.add 5))) Kp4 (qr 5 aT.v Kp5 (xl (Tryz.isAgg66 _) (hb.c 1 5 (gS gZ))) (qq 6 (vi (aT.len:Int)) Kp6 (qq 7 (vb (decide (v1≥(aT.len:Int)))) Kp7 (wn (zO (cbr h ?_ ?_)))))))<;>intro h
 refine eg (q (zK (zD rfl) (xo p2 [(vi 0),(vi 0),(vi 0),(vu 0),(vs ⟨#[]⟩),Sl.nil.v] (Tryz.sizeOf107 _) (hb.k0 0 6 gZ)) ?_))
 intro w4 hn3
 obtain ⟨hs,hb⟩:=hb.st1 0 hs hn3 gZ
 refine ln (er (zY (qN (zY (zY (qN (zY ?_)))))))
 have ⟨h,hs⟩:=hs.hr (h w4)
 refine tI (.inl rfl) (vs:=[(.agg #[(vi 0),(vi 0),(vi 0),(vu 0),(vs ⟨#[]⟩),Sl.nil.v])]) (v:=(.agg #[(vi 0),(vi 0),(vi 0),(vu 0),(vs ⟨#[]⟩),Sl.nil.v])) Tryz.results163 ⟨(rva (Tryz.isAgg107 _) (Tryz.sizeOf107 _) (hb.r0 0 6 gZ)),trivial⟩ (by kernel_rfl) ⟨0,0,0,0,⟨#[]⟩,Sl.nil,rfl,h⟩
 refine zB (zO (tQ (fun x=>∃H',Hst w0 Hl1 w3 H' x∧HB H' x [(p2,(Ab aV aW bL bM aX bN),107),(p1,(Ab aI aJ aY aZ aK aT),107)]) [8] [8] (by kernel_rfl) (by kernel_rfl) (by kernel_rfl) (by kernel_rfl) ⟨_,hs.drew,hb.drew⟩ ?_))
 intro w5 hw5
 have hs:Hst w0 Hl1 w3 Hl1 w5:=by rw [hw5];exact hs.drew
 have hb:HB Hl1 w5 [(p2,(Ab aV aW bL bM aX bN),107),(p1,(Ab aI aJ aY aZ aK aT),107)]:=by rw [hw5];exact hb.drew
 refine qx 0 (vp (some (p1.add 5))) Kp0 (qz 1 aT.v Kp1 (fun w' hw'=>(by obtain ⟨H',hs',hb'⟩:=hw';exact (xl (Tryz.isAgg66 _) (hb'.cell 1 5 (gS gZ) (by kernel_rfl))))) (qx 2 path1.v Kp2 (qx 3 (vi i1) Kp3 (qg 4 ?_))))
 obtain ⟨a2,hv4,h⟩:=h
 refine sy Kp4 (fun _ _=>xi (Tryz.runUnderlying42 _) (Tryz.sizeOf3 _) hv4) (qg 5 ?_)
 obtain ⟨v2,hv3,hnh,h⟩:=h
 refine sy (v:=(vi v2)) Kp5 (fun w' hw'=>by obtain ⟨H',hs',hb'⟩:=hw';exact (xl (Tryz.isAgg3 _) (jIX hv3 hnh hs'))) (qg 6 ?_)
 obtain ⟨a3,hv2,h⟩:=h
 refine sy Kp6 (fun _ _=>xi (Tryz.runUnderlying66 _) (Tryz.sizeOf107 _) hv2) (qg 7 ?_)
 obtain ⟨bF,bG,bH,bI,bJ,bK,hv1,hnh,h⟩:=h
 refine sy (v:=(Aa bF bG bH bI bJ bK)) Kp7 (fun w' hw'=>by obtain ⟨H',hs',hb'⟩:=hw';exact (xa a3 (Ab bF bG bH bI bJ bK) (Tryz.isAgg107 _) (Tryz.sizeOf107 _) (jKV hv1 hnh hs'))) (jOJ (fun ρ wJ=>∃HJ:NP,Hst w0 Hl1 w3 HJ wJ∧HB HJ wJ [(p2,(Ab aV aW bL bM aX bN),107),(p1,(Ab bF bG bH bI bJ bK),107)]∧Has ρ [(1,path1.v),(2,(vp (some p1))),(4,(vp (some p2))),(5,(vi i1))]) ?_ ?_)
 refine lg 8 (xB Kp8 (zD rfl) (by kernel_rfl) (xo p1 (Ab bF bG bH bI bJ bK) (Tryz.sizeOf107 _) (hb.k0 1 6 (gS gZ))) ?_)
 intro w8 hn5
 obtain ⟨hs,hb⟩:=hb.st1 1 hs hn5 (gS gZ)
 refine ⟨.inl (by kernel_rfl),?_⟩
 refine wn ⟨_,hs,hb,hm⟩
 rintro ρ w7 ⟨H3,hs,hb,hH⟩
 refine q_has hH (yQ (zO (rg (qc (zC ?_)))))
 have ⟨h,hs⟩:=hs.hr (h H3 w7)
 refine zO ⟨((q6.wrap (i1+1)),aV,aW,bL,bM,aX,bN,bF,bG,bH,bI,bJ,bK,H3,w7),⟨rfl,hm,hs,hb,h.1⟩,h.2⟩
 refine vF (yM (yM (yK (zO (eg (q2 (Aa aI aJ aY aZ aK aT) (xa p1 (Ab aI aJ aY aZ aK aT) (Tryz.isAgg107 _) (Tryz.sizeOf107 _) (hb.r0 1 6 (gS gZ))) (zK (zD rfl) (xo p2 (Ab aI aJ aY aZ aK aT) (Tryz.sizeOf107 _) (hb.k0 0 6 gZ)) ?_)))))))
 intro w9 hn6
 obtain ⟨hs,hb⟩:=hb.st1 0 hs hn6 gZ
 refine ln (er ?_)
 have ⟨h,hs⟩:=hs.hr (h w9)
 refine tI (.inl rfl) (vs:=[(Aa aI aJ aY aZ aK aT)]) (v:=(Aa aI aJ aY aZ aK aT)) Tryz.results163 ⟨(rva (Tryz.isAgg107 _) (Tryz.sizeOf107 _) (hb.r0 0 6 gZ)),trivial⟩ (by kernel_rfl) ⟨aI,aJ,aY,aZ,aK,aT,rfl,h⟩
def s_B (kind1:Int):Bool :=(((kind1 == 1) || (kind1 == 2)) || (kind1 == 4))
theorem pw_B (kind1:Int) (w0:World) :
  Calls Tryz.prog 164 #[(vi kind1)] w0 (fun e w'=>(e=.returned (vb (((kind1 == 1) || (kind1 == 2)) || (kind1 == 4))))∧Pure w0 w'):=by
 refine cw (args:=[(vi kind1)]) Tryz.func164 Tryz.ntmps164 (eg (q0 (vb false) (ln (zA ?_))))
 refine vQ (fun ρ wJ=>w0=wJ∧Has ρ [(2,(vb (((kind1 == 1) || (kind1 == 2)) || (kind1 == 4))))]) ?_ ?_
 refine rg (qc (zN 3 (fun ρ wJ=>∃b4'0:Bool,((kind1 == 1)=b4'0)∧w0=wJ∧Has ρ [(0,(vi kind1)),(8,(vb (b4'0 || (kind1 == 2))))]) ?_ ?_))
 rintro ρ w4 ⟨b4'0,he0,hw,hH⟩
 subst he0
 subst hw
 refine zQ hH (q (zN 3 (fun ρ wJ=>∃b5'0:Bool,(((kind1 == 1) || (kind1 == 2))=b5'0)∧w0=wJ∧Has ρ [(12,(vb (b5'0 || (kind1 == 4))))]) ?_ ?_))
 rintro ρ w5 ⟨b5'0,he0,hw,hH⟩
 subst he0
 subst hw
 refine zQ hH (q (ln ⟨rfl,hm⟩))
 rcases Bool.eq_false_or_eq_true ((kind1 == 1) || (kind1 == 2)) with hg8 | hg8
 refine sj2 9 hg8 (q2 (vb true) (xT hg8) (zC ⟨true,hg8,rfl,hm⟩))
 refine qk 9 hg8 (qk 9 hg8 (q2 (vb (kind1 == 4)) (xF hg8) (zC ⟨false,hg8,rfl,hm⟩)))
 rcases Bool.eq_false_or_eq_true (kind1 == 1) with hg6 | hg6
 refine sj2 5 hg6 (q2 (vb true) (xT hg6) (zC ⟨true,hg6,rfl,hm⟩))
 refine qk 5 hg6 (qk 5 hg6 (q2 (vb (kind1 == 2)) (xF hg6) (zC ⟨false,hg6,rfl,hm⟩)))
 rintro ρ w3 ⟨hw,hH⟩
 subst hw
 refine vI hH (zO (er (rs1 Tryz.results164 (v:=(vb (((kind1 == 1) || (kind1 == 2)) || (kind1 == 4)))) ⟨by kernel_rfl,Ext.refl _⟩)))
theorem p_B (kind1:Int) (w0:World):Calls Tryz.prog 164 #[(.int .i64 kind1)] w0 (fun e w'=>e=.returned (.bool (s_B kind1))∧Pure w0 w'):=pw_B kind1 w0
def s_O2 (kind1:Int):Bool :=((s_B kind1) || (kind1 == 6))
theorem pw_O2 (kind1:Int) (w0:World) :
  Calls Tryz.prog 165 #[(vi kind1)] w0 (fun e w'=>(e=.returned (vb ((s_B kind1) || (kind1 == 6))))∧Pure w0 w'):=by
 refine cw (args:=[(vi kind1)]) Tryz.func165 Tryz.ntmps165 ?_
 obtain ⟨hs,hb⟩:=st0 w0
 refine eg (q (ln (zA (vQ (fun ρ wJ=>∃HJ:NP,Hst w0 None w0 HJ wJ∧HB HJ wJ []∧Has ρ [(2,(vb ((s_B kind1) || (kind1 == 6))))]) ?_ ?_))))
 refine rg (q (sc Tryz.call164 ((p_B kind1 w0).mono ?_)))
 rintro e w4 ⟨he,hE⟩
 refine ⟨_,he,?_⟩
 obtain ⟨hs,hb⟩:=hs.pp hb hE
 refine q (zN 3 (fun ρ wJ=>∃b3'0:Bool,∃HJ:NP,((s_B kind1)=b3'0)∧Hst w0 None w0 HJ wJ∧HB HJ wJ []∧Has ρ [(8,(vb (b3'0 || (kind1 == 6))))]) ?_ ?_)
 rintro ρ w5 ⟨b3'0,H3,he0,hs,hb,hH⟩
 subst he0
 refine zQ hH (q (ln ⟨_,hs,hb,hm⟩))
 rcases Bool.eq_false_or_eq_true (s_B kind1) with hg4 | hg4
 refine sj2 5 hg4 (q2 (vb true) (xT hg4) (zC ⟨true,_,hg4,hs,hb,hm⟩))
 refine qk 5 hg4 (qk 5 hg4 (q2 (vb (kind1 == 6)) (xF hg4) (zC ⟨false,_,hg4,hs,hb,hm⟩)))
 rintro ρ w3 ⟨H2,hs,hb,hH⟩
 refine vI hH (zO (er (rs1 Tryz.results165 (v:=(vb ((s_B kind1) || (kind1 == 6)))) ⟨by kernel_rfl,(Ext.refl (F:=None) _).hst hs⟩)))
theorem p_O2 (kind1:Int) (w0:World):Calls Tryz.prog 165 #[(.int .i64 kind1)] w0 (fun e w'=>e=.returned (.bool (s_O2 kind1))∧Pure w0 w'):=pw_O2 kind1 w0
def s_A2 (aA aB aU:Int) (aP:ByteArray) (aQ:Bool):Int :=(cond ((((((decide (aA<1)) || (decide (aA>7))) || ((aB != 0) && (aB != 1))) || ((!(s_B aA)) && (aB != 0))) || ((!((s_B aA) || (aA == 6))) && (!(decide (aP=⟨#[]⟩))))) || ((aQ && (aA != 1)) && (aA != 4))) 110 (cond (decide ((aP.size:Int)>64)) 1 0))
theorem pw_A2 (aA aB aU:Int) (aP:ByteArray) (aQ:Bool) (w0:World) :
  Calls Tryz.prog 166 #[(.agg #[(vi aA),(vi aB),(vu aU),(vs aP),(vb aQ)])] w0 (fun e w'=>∃b'0 b'1:Bool,(((((((decide (aA<1)) || (decide (aA>7))) || ((aB != 0) && (aB != 1))) || ((!(s_B aA)) && (aB != 0))) || ((!((s_B aA) || (aA == 6))) && (!(decide (aP=⟨#[]⟩))))) || ((aQ && (aA != 1)) && (aA != 4)))=b'0∧(decide ((aP.size:Int)>64))=b'1)∧(e=.returned (vi (cond b'0 110 (cond b'1 1 0))))∧Pure w0 w'):=by
 refine cw (args:=[(Af aA aB aU aP aQ)]) Tryz.func166 Tryz.ntmps166 ?_
 obtain ⟨hs,hb⟩:=st0 w0
 refine eg (nw3 (Ac aA aB aU aP aQ) 35 hs hb xb fun p1 w1 H1 hs hb=>q (ln (zA (zA (vQ (fun ρ wJ=>∃b13'0:Bool,∃HJ:NP,((((((decide (aA<1)) || (decide (aA>7))) || ((aB != 0) && (aB != 1))) || ((!(s_B aA)) && (aB != 0))) || ((!((s_B aA) || (aA == 6))) && (!(decide (aP=⟨#[]⟩)))))=b13'0)∧Hst w0 None w0 HJ wJ∧HB HJ wJ [(p1,(Ac aA aB aU aP aQ),35)]∧Has ρ [(1,(vp (some p1))),(56,(vb (b13'0 || ((aQ && (aA != 1)) && (aA != 4)))))]) ?_ ?_)))))
 refine rg (q (q3 (xl (Tryz.isAgg3 _) (hb.d0 0 gZ)) (qb (zN 4 (fun ρ wJ=>∃b14'0:Bool,∃HJ:NP,((decide (aA<1))=b14'0)∧Hst w0 None w0 HJ wJ∧HB HJ wJ [(p1,(Ac aA aB aU aP aQ),35)]∧Has ρ [(1,(vp (some p1))),(10,(vb (b14'0 || (decide (aA>7)))))]) ?_ ?_))))
 rintro ρ w19 ⟨b14'0,H15,he0,hs,hb,hH⟩
 subst he0
 refine zQ hH (q (zN 9 (fun ρ wJ=>∃b16'0:Bool,∃HJ:NP,(((decide (aA<1)) || (decide (aA>7)))=b16'0)∧Hst w0 None w0 HJ wJ∧HB HJ wJ [(p1,(Ac aA aB aU aP aQ),35)]∧Has ρ [(1,(vp (some p1))),(20,(vb (b16'0 || ((aB != 0) && (aB != 1)))))]) ?_ ?_))
 rintro ρ w21 ⟨b16'0,H17,he0,hs,hb,hH⟩
 subst he0
 refine zQ hH (q (zN 10 (fun ρ wJ=>∃b19'0:Bool,∃HJ:NP,((((decide (aA<1)) || (decide (aA>7))) || ((aB != 0) && (aB != 1)))=b19'0)∧Hst w0 None w0 HJ wJ∧HB HJ wJ [(p1,(Ac aA aB aU aP aQ),35)]∧Has ρ [(1,(vp (some p1))),(31,(vb (b19'0 || ((!(s_B aA)) && (aB != 0)))))]) ?_ ?_))
 rintro ρ w25 ⟨b19'0,H20,he0,hs,hb,hH⟩
 subst he0
 refine zQ hH (q (zN 10 (fun ρ wJ=>∃b22'0:Bool,∃HJ:NP,(((((decide (aA<1)) || (decide (aA>7))) || ((aB != 0) && (aB != 1))) || ((!(s_B aA)) && (aB != 0)))=b22'0)∧Hst w0 None w0 HJ wJ∧HB HJ wJ [(p1,(Ac aA aB aU aP aQ),35)]∧Has ρ [(1,(vp (some p1))),(42,(vb (b22'0 || ((!((s_B aA) || (aA == 6))) && (!(decide (aP=⟨#[]⟩)))))))]) ?_ ?_))
 rintro ρ w30 ⟨b22'0,H23,he0,hs,hb,hH⟩
 subst he0
 refine zQ hH (q ?_)
 rcases Bool.eq_false_or_eq_true (((((decide (aA<1)) || (decide (aA>7))) || ((aB != 0) && (aB != 1))) || ((!(s_B aA)) && (aB != 0))) || ((!((s_B aA) || (aA == 6))) && (!(decide (aP=⟨#[]⟩))))) with hg46 | hg46
 refine sj3 43 hg46 (sm (sm (sm (sj2 43 hg46 (sm (sm (sm (sj 43 hg46 (q2 (vb true) (xT hg46) (ln ⟨true,_,hg46,hs,hb,hm⟩))))))))))
 refine qk 43 hg46 (q4 43 hg46 (xl (Tryz.isAgg4 _) (hb.d 0 4 gZ)) (qk 43 hg46 (zN 4 (fun ρ wJ=>∃b24'0:Bool,∃HJ:NP,(aQ=b24'0)∧Hst w0 None w0 HJ wJ∧HB HJ wJ [(p1,(Ac aA aB aU aP aQ),35)]∧Has ρ [(1,(vp (some p1))),(43,(vb (((((decide (aA<1)) || (decide (aA>7))) || ((aB != 0) && (aB != 1))) || ((!(s_B aA)) && (aB != 0))) || ((!((s_B aA) || (aA == 6))) && (!(decide (aP=⟨#[]⟩))))))),(50,(vb (b24'0 && (aA != 1))))]) ?_ ?_)))
 rintro ρ w33 ⟨b24'0,H25,he0,hs,hb,hH⟩
 subst he0
 refine zQ hH (qk 43 hg46 (zN 4 (fun ρ wJ=>∃b25'0:Bool,∃HJ:NP,((aQ && (aA != 1))=b25'0)∧Hst w0 None w0 HJ wJ∧HB HJ wJ [(p1,(Ac aA aB aU aP aQ),35)]∧Has ρ [(1,(vp (some p1))),(43,(vb (((((decide (aA<1)) || (decide (aA>7))) || ((aB != 0) && (aB != 1))) || ((!(s_B aA)) && (aB != 0))) || ((!((s_B aA) || (aA == 6))) && (!(decide (aP=⟨#[]⟩))))))),(55,(vb (b25'0 && (aA != 4))))]) ?_ ?_))
 rintro ρ w34 ⟨b25'0,H26,he0,hs,hb,hH⟩
 subst he0
 refine zQ hH (q2 (vb ((aQ && (aA != 1)) && (aA != 4))) (xF hg46) (ln ⟨false,_,hg46,hs,hb,hm⟩))
 rcases Bool.eq_false_or_eq_true (aQ && (aA != 1)) with hg50 | hg50
 refine qk 51 hg50 (q4 51 hg50 (xl (Tryz.isAgg3 _) (hb.d0 0 gZ)) (qk 51 hg50 (stq (v:=(vb (aA != 4))) (wy 43 hg46) (xT hg50) (zC ⟨true,_,hg50,hs,hb,hm⟩))))
 refine sj3 51 hg50 (stq (v:=(vb false)) (wy 43 hg46) (xF hg50) (zC ⟨false,_,hg50,hs,hb,hm⟩))
 rcases Bool.eq_false_or_eq_true aQ with hg48 | hg48
 refine qk 46 hg48 (q4 46 hg48 (xl (Tryz.isAgg3 _) (hb.d0 0 gZ)) (qk 46 hg48 (stq (v:=(vb (aA != 1))) (wy 43 hg46) (xT hg48) (zC ⟨true,_,hg48,hs,hb,hm⟩))))
 refine sj3 46 hg48 (stq (v:=(vb false)) (wy 43 hg46) (xF hg48) (zC ⟨false,_,hg48,hs,hb,hm⟩))
 rcases Bool.eq_false_or_eq_true ((((decide (aA<1)) || (decide (aA>7))) || ((aB != 0) && (aB != 1))) || ((!(s_B aA)) && (aB != 0))) with hg43 | hg43
 refine sj5 32 hg43 (sm (sm (sm (sj 32 hg43 (q2 (vb true) (xT hg43) (zC ⟨true,_,hg43,hs,hb,hm⟩))))))
 refine qk 32 hg43 (q4 32 hg43 (xl (Tryz.isAgg3 _) (hb.d0 0 gZ)) (vN (wy 32 hg43) (xc Tryz.call165) ((p_O2 aA w25).mono ?_)))
 rintro e w31 ⟨he,hE⟩
 refine ⟨_,he,?_⟩
 obtain ⟨hs,hb⟩:=hs.pp hb hE
 refine qk 32 hg43 (qk 32 hg43 (zN 4 (fun ρ wJ=>∃b23'0:Bool,∃HJ:NP,((!((s_B aA) || (aA == 6)))=b23'0)∧Hst w0 None w0 HJ wJ∧HB HJ wJ [(p1,(Ac aA aB aU aP aQ),35)]∧Has ρ [(1,(vp (some p1))),(32,(vb ((((decide (aA<1)) || (decide (aA>7))) || ((aB != 0) && (aB != 1))) || ((!(s_B aA)) && (aB != 0))))),(41,(vb (b23'0 && (!(decide (aP=⟨#[]⟩))))))]) ?_ ?_))
 rintro ρ w32 ⟨b23'0,H24,he0,hs,hb,hH⟩
 subst he0
 refine zQ hH (q2 (vb ((!((s_B aA) || (aA == 6))) && (!(decide (aP=⟨#[]⟩))))) (xF hg43) (zC ⟨false,_,hg43,hs,hb,hm⟩))
 rcases Bool.eq_false_or_eq_true (!((s_B aA) || (aA == 6))) with hg45 | hg45
 refine qk 37 hg45 (q4 37 hg45 (xl (Tryz.isAgg9 _) (hb.d 0 3 gZ)) (stq (v:=(vb (!(decide (aP=⟨#[]⟩))))) (wy 37 hg45) (uM (by kernel_rfl) (by kernel_rfl)) (stq (v:=(vb (!(decide (aP=⟨#[]⟩))))) (wy 32 hg43) (xT hg45) (zC ⟨true,_,hg45,hs,hb,hm⟩))))
 refine sj3 37 hg45 (stq (v:=(vb false)) (wy 32 hg43) (xF hg45) (zC ⟨false,_,hg45,hs,hb,hm⟩))
 rcases Bool.eq_false_or_eq_true (((decide (aA<1)) || (decide (aA>7))) || ((aB != 0) && (aB != 1))) with hg37 | hg37
 refine sj5 21 hg37 (sm (sm (sm (sj 21 hg37 (q2 (vb true) (xT hg37) (zC ⟨true,_,hg37,hs,hb,hm⟩))))))
 refine qk 21 hg37 (q4 21 hg37 (xl (Tryz.isAgg3 _) (hb.d0 0 gZ)) (vN (wy 21 hg37) (xc Tryz.call164) ((p_B aA w21).mono ?_)))
 rintro e w26 ⟨he,hE⟩
 refine ⟨_,he,?_⟩
 obtain ⟨hs,hb⟩:=hs.pp hb hE
 refine qk 21 hg37 (qk 21 hg37 (zN 4 (fun ρ wJ=>∃b20'0:Bool,∃HJ:NP,((!(s_B aA))=b20'0)∧Hst w0 None w0 HJ wJ∧HB HJ wJ [(p1,(Ac aA aB aU aP aQ),35)]∧Has ρ [(1,(vp (some p1))),(21,(vb (((decide (aA<1)) || (decide (aA>7))) || ((aB != 0) && (aB != 1))))),(30,(vb (b20'0 && (aB != 0))))]) ?_ ?_))
 rintro ρ w27 ⟨b20'0,H21,he0,hs,hb,hH⟩
 subst he0
 refine zQ hH (q2 (vb ((!(s_B aA)) && (aB != 0))) (xF hg37) (zC ⟨false,_,hg37,hs,hb,hm⟩))
 rcases Bool.eq_false_or_eq_true (!(s_B aA)) with hg39 | hg39
 refine qk 26 hg39 (q4 26 hg39 (xl (Tryz.isAgg3 _) (hb.d 0 1 gZ)) (qk 26 hg39 (stq (v:=(vb (aB != 0))) (wy 21 hg37) (xT hg39) (zC ⟨true,_,hg39,hs,hb,hm⟩))))
 refine sj3 26 hg39 (stq (v:=(vb false)) (wy 21 hg37) (xF hg39) (zC ⟨false,_,hg39,hs,hb,hm⟩))
 rcases Bool.eq_false_or_eq_true ((decide (aA<1)) || (decide (aA>7))) with hg31 | hg31
 refine sj4 11 hg31 (sm (sm (sm (sj 11 hg31 (q2 (vb true) (xT hg31) (zC ⟨true,_,hg31,hs,hb,hm⟩))))))
 refine qk 11 hg31 (q4 11 hg31 (xl (Tryz.isAgg3 _) (hb.d 0 1 gZ)) (qk 11 hg31 (qk 11 hg31 (zN 4 (fun ρ wJ=>∃b17'0:Bool,∃HJ:NP,((aB != 0)=b17'0)∧Hst w0 None w0 HJ wJ∧HB HJ wJ [(p1,(Ac aA aB aU aP aQ),35)]∧Has ρ [(1,(vp (some p1))),(11,(vb ((decide (aA<1)) || (decide (aA>7))))),(19,(vb (b17'0 && (aB != 1))))]) ?_ ?_))))
 rintro ρ w22 ⟨b17'0,H18,he0,hs,hb,hH⟩
 subst he0
 refine zQ hH (q2 (vb ((aB != 0) && (aB != 1))) (xF hg31) (zC ⟨false,_,hg31,hs,hb,hm⟩))
 rcases Bool.eq_false_or_eq_true (aB != 0) with hg33 | hg33
 refine qk 15 hg33 (q4 15 hg33 (xl (Tryz.isAgg3 _) (hb.d 0 1 gZ)) (qk 15 hg33 (stq (v:=(vb (aB != 1))) (wy 11 hg31) (xT hg33) (zC ⟨true,_,hg33,hs,hb,hm⟩))))
 refine sj3 15 hg33 (stq (v:=(vb false)) (wy 11 hg31) (xF hg33) (zC ⟨false,_,hg33,hs,hb,hm⟩))
 rcases Bool.eq_false_or_eq_true (decide (aA<1)) with hg27 | hg27
 refine sj3 6 hg27 (q2 (vb true) (xT hg27) (zC ⟨true,_,hg27,hs,hb,hm⟩))
 refine qk 6 hg27 (q4 6 hg27 (xl (Tryz.isAgg3 _) (hb.d0 0 gZ)) (qk 6 hg27 (q2 (vb (decide (aA>7))) (xF hg27) (zC ⟨false,_,hg27,hs,hb,hm⟩))))
 rintro ρ w18 ⟨b13'0,H14,he0,hs,hb,hH⟩
 subst he0
 refine vI hH (zO (vO (t:=((((((decide (aA<1)) || (decide (aA>7))) || ((aB != 0) && (aB != 1))) || ((!(s_B aA)) && (aB != 0))) || ((!((s_B aA) || (aA == 6))) && (!(decide (aP=⟨#[]⟩))))) || ((aQ && (aA != 1)) && (aA != 4)))) (by kernel_rfl) (fun hc1=>?_) (fun hc1=>?_)))
 refine eg (q (ln (er (zY (rs1 Tryz.results166 (v:=(vi 110)) ⟨true,_,⟨hc1,rfl⟩,by kernel_rfl,(Ext.refl (F:=None) _).hst hs⟩)))))
 refine zB (zO (zA (eg (q (q3 (xl (Tryz.isAgg9 _) (hb.d 0 3 gZ)) (qb (ln (vO (t:=(decide ((aP.size:Int)>64))) (by kernel_rfl) (fun hc2=>?_) (fun hc2=>?_)))))))))
 refine eg (q (ln (er (zY (rs1 Tryz.results166 (v:=(vi 1)) ⟨false,true,⟨hc1,hc2⟩,by kernel_rfl,(Ext.refl (F:=None) _).hst hs⟩)))))
 refine zB (zO (eg (q (ln (er (rs1 Tryz.results166 (v:=(vi 0)) ⟨false,false,⟨hc1,hc2⟩,by kernel_rfl,(Ext.refl (F:=None) _).hst hs⟩))))))
theorem p_A2 (aA aB aU:Int) (aP:ByteArray) (aQ:Bool) (w0:World):Calls Tryz.prog 166 #[(.agg #[(.int .i64 aA),(.int .i64 aB),(.int .u64 aU),(.string aP),(.bool aQ)])] w0 (fun e w'=>e=.returned (.int .i64 (s_A2 aA aB aU aP aQ))∧Pure w0 w'):=by
 refine (pw_A2 aA aB aU aP aQ w0).mono ?_;rintro e w' ⟨b'0,b'1,⟨e0,e1⟩,h,E⟩;subst e0;subst e1;exact ⟨h,E⟩
def m_G_l5 (aD aC:Int) (aE aF:Int) (aG:ByteArray) (aH:Sl) (kind1 i1:Int) (fakes1 aL:Int) (aM aN:Int) (aO:ByteArray) (cF:Bool) (bA bB bC:Int) (bD:ByteArray) (bE:Bool) (w0:World) (Hl3:NP) (wl3:World) (Kc2:Int→Int→Int→Int→ByteArray→Bool→NP→WP) (Kc5:Int→Int→Int→Int→ByteArray→Bool→Int→Int→Int→ByteArray→Bool→NP→WP) (K:Int→Int→Int→ByteArray→Bool→Bool→WP):Prop :=Br (decide (fakes1<4)) (∀w14,Hst w0 Hl3 wl3 Hl3 w14→∃C1:WP,C1 w14.drew∧∀w15,w15=w14.drew→Calls Tryz.prog 166 #[(.agg #[(vi aL),(vi aM),(vu aN),(vs aO),(vb (decide (fakes1>0)))])] w15 (fun e w16=>∃r1,e=.returned (vi r1)∧C1 w16∧Kept Hl3 w15 w16∧Br (r1 == 0) (Br (kind1 == 4) (∃z1,(∀w',C1 w'→(Go.binOp .rem 3 (vi fakes1) (vi 2)).run Tryz.prog w'=.ok (vi z1) w')∧∃z2,(∀w',C1 w'→(Go.binOp .quo 3 (vi fakes1) (vi 2)).run Tryz.prog w'=.ok (vi z2) w')∧Calls Tryz.prog 58 #[(.agg #[(vi aL),(vi aM),(vu aN),(vs aO),(vb (decide (fakes1>0)))]),(vb (z1 == 1)),(vb (z2 == 1))] w16 (fun e w17=>∃bT bU bV bW bX bY,e=.returned (Aa bT bU bV bW bX bY)∧C1 w17∧Kept Hl3 w16 w17∧Calls Tryz.prog 47 #[(.agg #[(vi bT),(vi bU),(vi bV),(vu bW),(vs bX),bY.v]),(.agg #[(vi aD),(vi aC),(vi aE),(vu aF),(vs aG),aH.v])] w17 (fun e w18=>∃r2,e=.returned (vb r2)∧C1 w18∧Kept Hl3 w17 w18∧Br r2 (∀w19,Hst w0 Hl3 w18 Hl3 w19→K aL aM aN aO (decide (fakes1>0)) true w19) (Kc5 (q6.wrap (fakes1+1)) aL aM aN aO (decide (fakes1>0)) bA bB bC bD bE Hl3 w18)))) (Br (fakes1 != 2) (∃z3,(∀w',C1 w'→(Go.binOp .rem 3 (vi fakes1) (vi 2)).run Tryz.prog w'=.ok (vi z3) w')∧∃z4,(∀w',C1 w'→(Go.binOp .quo 3 (vi fakes1) (vi 2)).run Tryz.prog w'=.ok (vi z4) w')∧Calls Tryz.prog 58 #[(.agg #[(vi aL),(vi aM),(vu aN),(vs aO),(vb (decide (fakes1>0)))]),(vb (z3 == 1)),(vb (z4 == 1))] w16 (fun e w20=>∃bO bP dB dC bQ dD,e=.returned (Aa bO bP dB dC bQ dD)∧C1 w20∧Kept Hl3 w16 w20∧Calls Tryz.prog 47 #[(.agg #[(vi bO),(vi bP),(vi dB),(vu dC),(vs bQ),dD.v]),(.agg #[(vi aD),(vi aC),(vi aE),(vu aF),(vs aG),aH.v])] w20 (fun e w21=>∃r3,e=.returned (vb r3)∧C1 w21∧Kept Hl3 w20 w21∧Br r3 (∀w22,Hst w0 Hl3 w21 Hl3 w22→K aL aM aN aO (decide (fakes1>0)) true w22) (Kc5 (q6.wrap (fakes1+1)) aL aM aN aO (decide (fakes1>0)) bA bB bC bD bE Hl3 w21)))) (Kc5 (q6.wrap (fakes1+1)) aL aM aN aO (decide (fakes1>0)) bA bB bC bD bE Hl3 w16))) (Kc5 (q6.wrap (fakes1+1)) aL aM aN aO (decide (fakes1>0)) bA bB bC bD bE Hl3 w16))) (Kc2 (q6.wrap (i1+1)) bA bB bC bD bE Hl3 wl3)
def m_G_j4 (aD aC:Int) (aE aF:Int) (aG:ByteArray) (aH:Sl) (kind1 i1:Int) (aI aJ aR:Int) (aK:ByteArray) (aS:Bool) (aA aB aU:Int) (aP:ByteArray) (aQ:Bool) (w0:World) (H:NP) (w:World) (Kc2:Int→Int→Int→Int→ByteArray→Bool→NP→WP) (K:Int→Int→Int→ByteArray→Bool→Bool→WP):Prop :=∃(I3:Int→Int→Int→Int→ByteArray→Bool→Int→Int→Int→ByteArray→Bool→NP→WP) (mu3:Int→Int→Int→Int→ByteArray→Bool→Int→Int→Int→ByteArray→Bool→World→Nat),I3 0 aA aB aU aP aQ aI aJ aR aK aS H w∧∀(fakes1 aL:Int) (aM aN:Int) (aO:ByteArray) (cF:Bool) (bA bB bC:Int) (bD:ByteArray) (bE:Bool) (Hl3:NP) (wl3:World),Hst w0 Hl3 wl3 Hl3 wl3→I3 fakes1 aL aM aN aO cF bA bB bC bD bE Hl3 wl3→m_G_l5 aD aC aE aF aG aH kind1 i1 fakes1 aL aM aN aO cF bA bB bC bD bE w0 Hl3 wl3 Kc2 (fun y'0 y'1 y'2 y'3 y'4 y'5 y'6 y'7 y'8 y'9 y'10 H' w'=>I3 y'0 y'1 y'2 y'3 y'4 y'5 y'6 y'7 y'8 y'9 y'10 H' w'∧mu3 y'0 y'1 y'2 y'3 y'4 y'5 y'6 y'7 y'8 y'9 y'10 w'<mu3 fakes1 aL aM aN aO cF bA bB bC bD bE wl3) K
def m_G_j3 (aD aC:Int) (aE aF:Int) (aG:ByteArray) (aH:Sl) (kind1 i1:Int) (aI aJ aR:Int) (aK:ByteArray) (aS:Bool) (a1:Addr) (w0:World) (H:NP) (w:World) (Kc2:Int→Int→Int→Int→ByteArray→Bool→NP→WP) (K:Int→Int→Int→ByteArray→Bool→Bool→WP):Prop :=Br ((s_B kind1) || (kind1 == 6)) (∀H4 w13,Hst w0 H w H4 w13→∃bF bG bH bI bJ bK,Row w13 a1 (Ab bF bG bH bI bJ bK)∧∀p8 w23,New w13 (.cells #[(vi 1),(vi 0)] 3) p8 w23→Calls Tryz.prog 163 #[(.agg #[(vi bF),(vi bG),(vi bH),(vu bI),(vs bJ),bK.v]),(Sl.mk (some p8) 2 2).v] w23 (fun e w24=>∃cG cH dE bZ cI dF,e=.returned (Aa cG cH dE bZ cI dF)∧Kept H4 w23 w24∧∀w25,Hst w0 H4 w24 H4 w25→∃cJ cK cL cM cN cO,Row w25 a1 (Ab cJ cK cL cM cN cO)∧∀p9 w26,New w25 (.cells #[(vi 1),(vi 1)] 3) p9 w26→Calls Tryz.prog 163 #[(.agg #[(vi cJ),(vi cK),(vi cL),(vu cM),(vs cN),cO.v]),(Sl.mk (some p9) 2 2).v] w26 (fun e w27=>∃dG dH dI dJ cC dK,e=.returned (Aa dG dH dI dJ cC dK)∧Kept H4 w26 w27∧∀w28,Hst w0 H4 w27 H4 w28→m_G_j4 aD aC aE aF aG aH kind1 i1 aI aJ aR aK aS kind1 (cond (s_B kind1) aC 0) bZ cC false w0 H4 w28 Kc2 K))) (Br (kind1 == 7) (∀H4 w13,Hst w0 H w H4 w13→∀p10 w29,New w13 (.cells #[(vi 1)] 3) p10 w29→Calls Tryz.prog 163 #[(.agg #[(vi aD),(vi aC),(vi aE),(vu aF),(vs aG),aH.v]),(Sl.mk (some p10) 1 1).v] w29 (fun e w30=>∃dL dM dN cD dO dP,e=.returned (Aa dL dM dN cD dO dP)∧Kept H4 w29 w30∧∀w31,Hst w0 H4 w30 H4 w31→m_G_j4 aD aC aE aF aG aH kind1 i1 aI aJ aR aK aS kind1 (cond (s_B kind1) aC 0) cD ⟨#[]⟩ false w0 H4 w31 Kc2 K)) (∀H4 w13,Hst w0 H w H4 w13→∀p11 w32,New w13 (.cells #[(vi 0),(vi 1)] 3) p11 w32→Calls Tryz.prog 163 #[(.agg #[(vi aD),(vi aC),(vi aE),(vu aF),(vs aG),aH.v]),(Sl.mk (some p11) 2 2).v] w32 (fun e w33=>∃dQ dR dS cE dT dU,e=.returned (Aa dQ dR dS cE dT dU)∧Kept H4 w32 w33∧∀w34,Hst w0 H4 w33 H4 w34→m_G_j4 aD aC aE aF aG aH kind1 i1 aI aJ aR aK aS kind1 (cond (s_B kind1) aC 0) cE ⟨#[]⟩ false w0 H4 w34 Kc2 K)))
def m_G_l2 (aD aC:Int) (aE aF:Int) (aG:ByteArray) (aH:Sl) (p6:Addr) (kind1 i1:Int) (aI aJ aR:Int) (aK:ByteArray) (aS:Bool) (w0:World) (Hl2:NP) (wl2:World) (Kc1:Int→Int→Int→Int→ByteArray→Bool→NP→WP) (Kc2:Int→Int→Int→Int→ByteArray→Bool→NP→WP) (K:Int→Int→Int→ByteArray→Bool→Bool→WP):Prop :=Br (decide (i1<((Sl.mk (some p6) 3 3).len:Int))) (∃C2:WP,C2 wl2.drew∧∀w35,w35=wl2.drew→∃a2:Addr,At (Sl.mk (some p6) 3 3) i1 1 a2∧∃v1:Sl,(∀w',C2 w'→w'.cell? a2=some v1.v)∧(Calls Tryz.prog 163 #[(.agg #[(vi aD),(vi aC),(vi aE),(vu aF),(vs aG),aH.v]),v1.v] w35 (fun e w36=>∃cP cQ cR cS cT cU,e=.returned (Aa cP cQ cR cS cT cU)∧Kept Hl2 w35 w36∧∀p12 w37,New w36 (.cells #[(vi 0),(vi 0),(vi 0),(vu 0),(vs ⟨#[]⟩),Sl.nil.v] 107) p12 w37→C2 w37∧(∀j,j<6→vG w37 (p12.add j))∧¬ Hl2 p12.block∧∀w38,w38=storeRow w37 p12 (Ab cP cQ cR cS cT cU)→m_G_j3 aD aC aE aF aG aH kind1 i1 aI aJ aR aK aS p12 w0 Hl2 w38 Kc2 K))∧(∀p13 w39,New w35 (.cells #[(vi 0),(vi 0),(vi 0),(vu 0),(vs ⟨#[]⟩),Sl.nil.v] 107) p13 w39→C2 w39∧Calls Tryz.prog 163 #[(.agg #[(vi aD),(vi aC),(vi aE),(vu aF),(vs aG),aH.v]),v1.v] w39 (fun e w40=>∃cV cW cX cY cZ dA,e=.returned (Aa cV cW cX cY cZ dA)∧Kept Hl2 w39 w40∧(∀j,j<6→vG w40 (p13.add j))∧¬ Hl2 p13.block∧∀w41,w41=storeRow w40 p13 (Ab cV cW cX cY cZ dA)→m_G_j3 aD aC aE aF aG aH kind1 i1 aI aJ aR aK aS p13 w0 Hl2 w41 Kc2 K))) (Kc1 (q6.wrap (kind1+1)) aI aJ aR aK aS Hl2 wl2)
def m_G_l1 (aD aC:Int) (aE aF:Int) (aG:ByteArray) (aH:Sl) (p6:Addr) (kind1 aV:Int) (aW cA:Int) (aX:ByteArray) (cB:Bool) (w0:World) (Hl1:NP) (wl1:World) (Kc1:Int→Int→Int→Int→ByteArray→Bool→NP→WP) (K:Int→Int→Int→ByteArray→Bool→Bool→WP):Prop :=Br (decide (kind1≤7)) (∃(I2:Int→Int→Int→Int→ByteArray→Bool→NP→WP) (mu2:Int→Int→Int→Int→ByteArray→Bool→World→Nat),I2 0 aV aW cA aX cB Hl1 wl1∧∀(i1 aI:Int) (aJ aR:Int) (aK:ByteArray) (aS:Bool) (Hl2:NP) (wl2:World),Hst w0 Hl2 wl2 Hl2 wl2→I2 i1 aI aJ aR aK aS Hl2 wl2→m_G_l2 aD aC aE aF aG aH p6 kind1 i1 aI aJ aR aK aS w0 Hl2 wl2 Kc1 (fun y'0 y'1 y'2 y'3 y'4 y'5 H' w'=>I2 y'0 y'1 y'2 y'3 y'4 y'5 H' w'∧mu2 y'0 y'1 y'2 y'3 y'4 y'5 w'<mu2 i1 aI aJ aR aK aS wl2) K) (∀w42,Hst w0 Hl1 wl1 Hl1 w42→K 0 0 0 ⟨#[]⟩ false false w42)
def m_G (aD aC:Int) (aE aF:Int) (aG:ByteArray) (aH:Sl) (w0:World) (K:Int→Int→Int→ByteArray→Bool→Bool→WP):Prop :=∀H2 w2,Hst w0 None w0 H2 w2→∀p3 w3,New w2 (.cells #[(vi 0)] 3) p3 w3→∀p4 w4,New w3 (.cells #[(vi 0),(vi 1),(vi 0),(vi 0)] 3) p4 w4→∀p5 w5,New w4 (.cells #[(vi 0),(vi 1)] 3) p5 w5→∀p6 w6,New w5 (.cells #[(Sl.mk (some p3) 1 1).v,(Sl.mk (some p4) 4 4).v,(Sl.mk (some p5) 2 2).v] 42) p6 w6→∃(I1:Int→Int→Int→Int→ByteArray→Bool→NP→WP) (mu1:Int→Int→Int→Int→ByteArray→Bool→World→Nat),I1 1 0 0 0 ⟨#[]⟩ false H2 w6∧∀(kind1 aV:Int) (aW cA:Int) (aX:ByteArray) (cB:Bool) (Hl1:NP) (wl1:World),Hst w0 Hl1 wl1 Hl1 wl1→I1 kind1 aV aW cA aX cB Hl1 wl1→m_G_l1 aD aC aE aF aG aH p6 kind1 aV aW cA aX cB w0 Hl1 wl1 (fun y'0 y'1 y'2 y'3 y'4 y'5 H' w'=>I1 y'0 y'1 y'2 y'3 y'4 y'5 H' w'∧mu1 y'0 y'1 y'2 y'3 y'4 y'5 w'<mu1 kind1 aV aW cA aX cB wl1) K
theorem w_G (aD aC aE aF aG aH w0 K) (h:m_G aD aC aE aF aG aH w0 K):
  Calls Tryz.prog 98 #[(.agg #[(vi aD),(vi aC),(vi aE),(vu aF),(vs aG),aH.v])] w0 (fun e w'=>∃dV dW bR dX bS r4,e=.returned (.tuple #[(Af dV dW bR dX bS),(vb r4)])∧K dV dW bR dX bS r4 w'):=by
 refine cw (args:=[(Aa aD aC aE aF aG aH)]) Tryz.func98 Tryz.ntmps98 ?_
 obtain ⟨hs,hb⟩:=st0 w0
 refine eg (nw3 (Ab aD aC aE aF aG aH) 107 hs hb xb fun p1 w1 H1 hs hb=>nw3 (Ac 0 0 0 (⟨#[]⟩) false) 35 hs hb (zM (Tryz.zeroValue35 _) rfl) fun p2 w2 H2 hs hb=>q (ln (eg ?_)))
 have ⟨h,hs⟩:=hs.hr (h H2 w2)
 refine nw5 (fun p=>(Sl.mk (some p) 1 1).v) hs hb h fun p3 w3 hs hb h=>nw5 (fun p=>(Sl.mk (some p) 4 4).v) hs hb h fun p4 w4 hs hb h=>nw5 (fun p=>(Sl.mk (some p) 2 2).v) hs hb h fun p5 w5 hs hb h=>nw5 (fun p=>(Sl.mk (some p) 3 3).v) hs hb h fun p6 w6 hs hb h=>q (ln (zA (eg (q (ln (zJ ?_))))))
 obtain ⟨I1,mu1,h0,hr⟩:=h
 refine vH (σ:=Int×Int×Int×Int×ByteArray×Bool×NP×World) (fun s ρ w=>w=s.2.2.2.2.2.2.2∧Has ρ [(1,(vp (some p1))),(2,(vp (some p2))),(4,(Sl.mk (some p6) 3 3).v),(5,(vi s.1))]∧Hst w0 s.2.2.2.2.2.2.1 w s.2.2.2.2.2.2.1 w∧HB s.2.2.2.2.2.2.1 w [(p2,(Ac (s.2.1) (s.2.2.1) (s.2.2.2.1) (s.2.2.2.2.1) (s.2.2.2.2.2.1)),35),(p1,(Ab aD aC aE aF aG aH),107)]∧I1 s.1 s.2.1 s.2.2.1 s.2.2.2.1 s.2.2.2.2.1 s.2.2.2.2.2.1 s.2.2.2.2.2.2.1 s.2.2.2.2.2.2.2) (fun s=>mu1 s.1 s.2.1 s.2.2.1 s.2.2.2.1 s.2.2.2.2.1 s.2.2.2.2.2.1 s.2.2.2.2.2.2.2) (1,0,0,0,⟨#[]⟩,false,H2,w6) ⟨rfl,hm,hs,hb,h0⟩ ?_
 rintro ⟨kind1,aV,aW,cA,aX,cB,Hl1,wl1⟩ ρ w ⟨hw,hH,hs,hb,hI⟩
 dsimp only at hw hH hs hb;subst w
 have h:=hr kind1 aV aW cA aX cB Hl1 wl1 hs hI
 refine zU hH (zA (eg (qb (ln (cbr h ?_ ?_)))))<;>intro h
 refine zB (zO (zA (zJ (eg (q (ln (zJ ?_)))))))
 obtain ⟨I2,mu2,h0,hr⟩:=h
 refine vH (σ:=Int×Int×Int×Int×ByteArray×Bool×NP×World) (fun s ρ w=>w=s.2.2.2.2.2.2.2∧Has ρ [(1,(vp (some p1))),(2,(vp (some p2))),(4,(Sl.mk (some p6) 3 3).v),(5,(vi kind1)),(6,(vi s.1))]∧Hst w0 s.2.2.2.2.2.2.1 w s.2.2.2.2.2.2.1 w∧HB s.2.2.2.2.2.2.1 w [(p2,(Ac (s.2.1) (s.2.2.1) (s.2.2.2.1) (s.2.2.2.2.1) (s.2.2.2.2.2.1)),35),(p1,(Ab aD aC aE aF aG aH),107)]∧I2 s.1 s.2.1 s.2.2.1 s.2.2.2.1 s.2.2.2.2.1 s.2.2.2.2.2.1 s.2.2.2.2.2.2.1 s.2.2.2.2.2.2.2) (fun s=>mu2 s.1 s.2.1 s.2.2.1 s.2.2.2.1 s.2.2.2.2.1 s.2.2.2.2.2.1 s.2.2.2.2.2.2.2) (0,aV,aW,cA,aX,cB,Hl1,wl1) ⟨rfl,hm,hs,hb,h0⟩ ?_
 rintro ⟨i1,aI,aJ,aR,aK,aS,Hl2,wl2⟩ ρ w ⟨hw,hH,hs,hb,hI⟩
 dsimp only at hw hH hs hb;subst w
 have h:=hr i1 aI aJ aR aK aS Hl2 wl2 hs hI
 refine zU hH (zA (eg (qd (ln (cbr h ?_ ?_)))))<;>intro h
 refine zB (zO (zA (zJ (zA (qQ (fun ρ w=>∃a1:Addr,∃H:NP,Has ρ [(1,(vp (some p1))),(2,(vp (some p2))),(4,(Sl.mk (some p6) 3 3).v),(5,(vi kind1)),(6,(vi i1)),(7,(vp (some a1)))]∧Hst w0 H w H w∧HB H w [(p2,(Ac aI aJ aR aK aS),35),(p1,(Ab aD aC aE aF aG aH),107)]∧m_G_j3 aD aC aE aF aG aH kind1 i1 aI aJ aR aK aS a1 w0 H w (fun y'0 y'1 y'2 y'3 y'4 y'5 H' w'=>I2 y'0 y'1 y'2 y'3 y'4 y'5 H' w'∧mu2 y'0 y'1 y'2 y'3 y'4 y'5 w'<mu2 i1 aI aJ aR aK aS wl2) K) ?_ ?_)))))
 rintro ρ w ⟨a1,H,hH,hs,hb,h⟩
 refine zU hH (eg (qb (nw3 (Ac 0 0 0 (⟨#[]⟩) false) 35 hs hb (zM (Tryz.zeroValue35 _) rfl) fun p7 w7 H3 hs hb=>zK (zD rfl) (xo p7 (Ac kind1 0 0 (⟨#[]⟩) false) (Tryz.sizeOf35 _) (hb.k0 0 5 gZ)) ?_)))
 intro w8 hn4
 obtain ⟨hs,hb⟩:=hb.st1 0 hs hn4 gZ
 refine ln (zA (eg (q (sc Tryz.call164 ((p_B kind1 w8).mono ?_)))))
 rintro e w9 ⟨he,hE⟩
 refine ⟨_,he,?_⟩
 obtain ⟨hs,hb⟩:=hs.pp hb hE
 refine ln (vQ (fun ρ wJ=>∃b1'0:Bool,∃HJ:NP,((s_B kind1)=b1'0)∧Hst w0 H w HJ wJ∧HB HJ wJ [(p7,(Ac kind1 (cond b1'0 aC 0) 0 (⟨#[]⟩) false),35),(p2,(Ac aI aJ aR aK aS),35),(p1,(Ab aD aC aE aF aG aH),107)]∧Has ρ [(1,(vp (some p1))),(2,(vp (some p2))),(4,(Sl.mk (some p6) 3 3).v),(5,(vi kind1)),(6,(vi i1)),(7,(vp (some a1))),(8,(vp (some p7)))]) ?_ ?_)
 refine vO (t:=(s_B kind1)) (by kernel_rfl) (fun hc4=>?_) (fun hc4=>?_)
 refine rg (q (q3 (xl (Tryz.isAgg3 _) (hb.d 2 1 (gS (gS gZ)))) (q (zK (zD rfl) (vL (a:=(p7.add 1)) (v:=(vi aC)) (by kernel_rfl) (by kernel_rfl) rfl (Tryz.sizeOf3 _) (hb.canW 0 1 gZ (by kernel_rfl))) ?_))))
 intro w12 hn6
 have hsb:Hst w0 H w H3 w12∧HB H3 w12 [(p7,(Ac kind1 aC 0 (⟨#[]⟩) false),35),(p2,(Ac aI aJ aR aK aS),35),(p1,(Ab aD aC aE aF aG aH),107)]:=by
  rw [hn6];exact hb.set (i:=0) 1 (v:=(vi aC)) hs gZ (by kernel_rfl)
 obtain ⟨hs,hb⟩:=hsb
 refine ln ⟨true,_,hc4,hs,hb,hm⟩
 refine zB (zO ⟨false,_,hc4,hs,hb,hm⟩)
 rintro ρ w11 ⟨b1'0,H4,he0,hs,hb,hH⟩
 subst he0
 refine vI hH (zO (zA (eg (q (sc Tryz.call165 ((p_O2 kind1 w11).mono ?_))))))
 rintro e w13 ⟨he,hE⟩
 refine ⟨_,he,?_⟩
 obtain ⟨hs,hb⟩:=hs.pp hb hE
 refine ln (qQ (fun ρ w=>∃aA aB aU aP aQ,∃H:NP,Has ρ [(1,(vp (some p1))),(2,(vp (some p2))),(4,(Sl.mk (some p6) 3 3).v),(5,(vi kind1)),(6,(vi i1)),(8,(vp (some p7)))]∧Hst w0 H w H w∧HB H w [(p7,(Ac aA aB aU aP aQ),35),(p2,(Ac aI aJ aR aK aS),35),(p1,(Ab aD aC aE aF aG aH),107)]∧m_G_j4 aD aC aE aF aG aH kind1 i1 aI aJ aR aK aS aA aB aU aP aQ w0 H w (fun y'0 y'1 y'2 y'3 y'4 y'5 H' w'=>I2 y'0 y'1 y'2 y'3 y'4 y'5 H' w'∧mu2 y'0 y'1 y'2 y'3 y'4 y'5 w'<mu2 i1 aI aJ aR aK aS wl2) K) ?_ ?_)
 rintro ρ w ⟨aA,aB,aU,aP,aQ,H,hH,hs,hb,h⟩
 refine zU hH (eg (q (ln (zJ ?_))))
 obtain ⟨I3,mu3,h0,hr⟩:=h
 refine vH (σ:=Int×Int×Int×Int×ByteArray×Bool×Int×Int×Int×ByteArray×Bool×NP×World) (fun s ρ w=>w=s.2.2.2.2.2.2.2.2.2.2.2.2∧Has ρ [(1,(vp (some p1))),(2,(vp (some p2))),(4,(Sl.mk (some p6) 3 3).v),(5,(vi kind1)),(6,(vi i1)),(8,(vp (some p7))),(9,(vi s.1))]∧Hst w0 s.2.2.2.2.2.2.2.2.2.2.2.1 w s.2.2.2.2.2.2.2.2.2.2.2.1 w∧HB s.2.2.2.2.2.2.2.2.2.2.2.1 w [(p7,(Ac (s.2.1) (s.2.2.1) (s.2.2.2.1) (s.2.2.2.2.1) (s.2.2.2.2.2.1)),35),(p2,(Ac (s.2.2.2.2.2.2.1) (s.2.2.2.2.2.2.2.1) (s.2.2.2.2.2.2.2.2.1) (s.2.2.2.2.2.2.2.2.2.1) (s.2.2.2.2.2.2.2.2.2.2.1)),35),(p1,(Ab aD aC aE aF aG aH),107)]∧I3 s.1 s.2.1 s.2.2.1 s.2.2.2.1 s.2.2.2.2.1 s.2.2.2.2.2.1 s.2.2.2.2.2.2.1 s.2.2.2.2.2.2.2.1 s.2.2.2.2.2.2.2.2.1 s.2.2.2.2.2.2.2.2.2.1 s.2.2.2.2.2.2.2.2.2.2.1 s.2.2.2.2.2.2.2.2.2.2.2.1 s.2.2.2.2.2.2.2.2.2.2.2.2) (fun s=>mu3 s.1 s.2.1 s.2.2.1 s.2.2.2.1 s.2.2.2.2.1 s.2.2.2.2.2.1 s.2.2.2.2.2.2.1 s.2.2.2.2.2.2.2.1 s.2.2.2.2.2.2.2.2.1 s.2.2.2.2.2.2.2.2.2.1 s.2.2.2.2.2.2.2.2.2.2.1 s.2.2.2.2.2.2.2.2.2.2.2.2) (0,aA,aB,aU,aP,aQ,aI,aJ,aR,aK,aS,H,w) ⟨rfl,hm,hs,hb,h0⟩ ?_
 rintro ⟨fakes1,aL,aM,aN,aO,cF,bA,bB,bC,bD,bE,Hl3,wl3⟩ ρ w ⟨hw,hH,hs,hb,hI⟩
 dsimp only at hw hH hs hb;subst w
 have h:=hr fakes1 aL aM aN aO cF bA bB bC bD bE Hl3 wl3 hs hI
 refine zU hH (zA (eg (qb (ln (cbr h ?_ ?_)))))<;>intro h
 refine zB (zO (zA (zJ (eg (qc (zK (zD rfl) (vL (a:=(p7.add 4)) (v:=(vb (decide (fakes1>0)))) (by kernel_rfl) (by kernel_rfl) rfl (Tryz.sizeOf4 _) (hb.canW 0 4 gZ (by kernel_rfl))) ?_))))))
 intro w14 hn7
 have hsb:Hst w0 Hl3 wl3 Hl3 w14∧HB Hl3 w14 [(p7,(Ac aL aM aN aO (decide (fakes1>0))),35),(p2,(Ac bA bB bC bD bE),35),(p1,(Ab aD aC aE aF aG aH),107)]:=by
  rw [hn7];exact hb.set (i:=0) 4 (v:=(vb (decide (fakes1>0)))) hs gZ (by kernel_rfl)
 obtain ⟨hs,hb⟩:=hsb
 refine ln (zA ?_)
 have ⟨h,hs⟩:=hs.hr (h w14)
 obtain ⟨C1,hC,h⟩:=h
 refine dr2 (fun x=>C1 x∧HB Hl3 x _) [1,19,21] [] ⟨hC,hb.drew⟩ h hs hb fun w15 hs hb h=>?_
 have hs:=hs.here
 refine qz 0 (Af aL aM aN aO (decide (fakes1>0))) Kp0 (fun w' hw'=>(xa p7 (Ac aL aM aN aO (decide (fakes1>0))) (Tryz.isAgg35 _) (Tryz.sizeOf35 _) (hw'.2.r0 0 5 gZ))) (lg 1 (zL Kp1 (zD rfl) (by kernel_rfl) (xc Tryz.call166) (h.mono ?_)))
 rintro e w16 ⟨r1,rfl,hC,hk,h⟩
 refine ⟨_,rfl,.inr ⟨hC,hb.kept hk⟩,?_⟩
 obtain ⟨hs,hb⟩:=hk.hh hs hb
 refine qx 2 (vb (r1 == 0)) Kp2 (qx 3 (vb (r1 == 0)) Kp3 (qg 4 ?_))
 rcases Bool.eq_false_or_eq_true (r1 == 0) with hg1 | hg1
 have h:=h.1 hg1
 refine sz (v:=(vi kind1)) Kp4 (wy 71 hg1) (fun _ _=>(by kernel_rfl)) (qw 5 (vb (kind1 == 4)) Kp5 (wy 71 hg1) (qw 6 (vb (kind1 == 4)) Kp6 (wy 71 hg1) (qg 7 ?_)))
 rcases Bool.eq_false_or_eq_true (kind1 == 4) with hg2 | hg2
 have h:=h.1 hg2
 refine xK Kp7 (qC rfl (yD 74 hg2) rfl) (qn 8 Kp8 (qC rfl (yD 74 hg2) rfl) (qg 9 (sz (v:=(vb true)) Kp9 (wy 71 hg1) (fun _ _=>(xT hg2)) (qz 10 (vb true) (zS (S8 (zI (zI zR)))) (fun _ _=>(xT hg1)) (qx 11 (vb true) (zS (S8 (zI (zI (zI zR))))) (qg 12 (sz (v:=(Af aL aM aN aO (decide (fakes1>0)))) (zS (S8 (S4 zR))) (jBI rfl (yD (c:=true) 79 rfl)) (fun w' hw'=>(xa p7 (Ac aL aM aN aO (decide (fakes1>0))) (Tryz.isAgg35 _) (Tryz.sizeOf35 _) (hw'.2.r0 0 5 gZ))) (qw 13 (vi fakes1) (zS (S8 (S4 (zI zR)))) (jBI rfl (yD (c:=true) 79 rfl)) (qg 14 ?_)))))))))
 obtain ⟨z1,hv2,h⟩:=h
 refine sz (v:=(vi z1)) (zS (S8 (S4 (zI (zI zR))))) (jBI rfl (yD (c:=true) 79 rfl)) (fun w' hw'=>(jHE (by kernel_rfl) (by kernel_rfl) (by kernel_rfl) (hv2 w' hw'.1))) (qw 15 (vb (z1 == 1)) (zS (S8 (S4 (zI (zI (zI zR)))))) (jBI rfl (yD (c:=true) 79 rfl)) (qw 16 (vi fakes1) (zS (S8 (S8 zR))) (jBI rfl (yD (c:=true) 79 rfl)) (qg 17 ?_)))
 obtain ⟨z2,hv1,h⟩:=h
 refine sz (v:=(vi z2)) (zS (S8 (S8 (zI zR)))) (jBI rfl (yD (c:=true) 79 rfl)) (fun w' hw'=>(jHE (by kernel_rfl) (by kernel_rfl) (by kernel_rfl) (hv1 w' hw'.1))) (qw 18 (vb (z2 == 1)) (zS (S8 (S8 (zI (zI zR))))) (jBI rfl (yD (c:=true) 79 rfl)) (qg 20 (sz (v:=(Aa aD aC aE aF aG aH)) (zS (S8 (S8 (S4 zR)))) (jBI rfl (yD (c:=true) 79 rfl)) (fun w' hw'=>(xa p1 (Ab aD aC aE aF aG aH) (Tryz.isAgg107 _) (Tryz.sizeOf107 _) (hw'.2.r0 2 6 (gS (gS gZ))))) (lg 19 (zL (zS (S8 (S8 (zI (zI (zI zR)))))) (jBI rfl (yD (c:=true) 79 rfl)) (by kernel_rfl) (xc Tryz.call58) (h.mono ?_))))))
 rintro e w17 ⟨bT,bU,bV,bW,bX,bY,rfl,hC,hk,h⟩
 refine ⟨_,rfl,.inr ⟨hC,hb.kept hk⟩,?_⟩
 obtain ⟨hs,hb⟩:=hk.hh hs hb
 refine lg 21 (zL (zS (S8 (S8 (S4 (zI zR))))) (jBI rfl (yD (c:=true) 79 rfl)) (by kernel_rfl) (xc Tryz.call47) (h.mono ?_))
 rintro e w18 ⟨r2,rfl,hC,hk,h⟩
 refine ⟨_,rfl,.inr ⟨hC,hb.kept hk⟩,?_⟩
 obtain ⟨hs,hb⟩:=hk.hh hs hb
 refine qx 22 (vb r2) (zS (S8 (S8 (S4 (zI (zI zR)))))) (wn (zO (cbr h ?_ ?_)))<;>intro h
 refine eg (q2 (Af aL aM aN aO (decide (fakes1>0))) (xa p7 (Ac aL aM aN aO (decide (fakes1>0))) (Tryz.isAgg35 _) (Tryz.sizeOf35 _) (hb.r0 0 5 gZ)) (zK (zD rfl) (xo p2 (Ac aL aM aN aO (decide (fakes1>0))) (Tryz.sizeOf35 _) (hb.k0 1 5 (gS gZ))) ?_))
 intro w19 hn8
 obtain ⟨hs,hb⟩:=hb.st1 1 hs hn8 (gS gZ)
 refine q (ln (er (qN (zY (zY (qN (qN (zY (zY (qN (qN (zY (zY (qN (zY ?_)))))))))))))))
 have ⟨h,hs⟩:=hs.hr (h w19)
 refine tI (.inl rfl) (vs:=[(Af aL aM aN aO (decide (fakes1>0))),(vb true)]) (v:=(.tuple #[(Af aL aM aN aO (decide (fakes1>0))),(vb true)])) Tryz.results98 ⟨(rva (Tryz.isAgg35 _) (Tryz.sizeOf35 _) (hb.r0 1 5 (gS gZ))),(rvT (by kernel_rfl)),trivial⟩ (by kernel_rfl) ⟨aL,aM,aN,aO,(decide (fakes1>0)),true,rfl,h⟩
 refine zB (yQ (zO (rg (qc (ln ⟨((q6.wrap (fakes1+1)),aL,aM,aN,aO,(decide (fakes1>0)),bA,bB,bC,bD,bE,Hl3,w18),⟨rfl,hm,hs,hb,h.1⟩,h.2⟩)))))
 have h:=h.2 hg2
 refine sz (v:=(vi fakes1)) Kp7 (wy 74 hg2) (fun _ _=>(by kernel_rfl)) (qw 8 (vb (fakes1 != 2)) Kp8 (wy 74 hg2) (qg 9 (sz (v:=(vb (fakes1 != 2))) Kp9 (wy 71 hg1) (fun _ _=>(xF hg2)) (qz 10 (vb (fakes1 != 2)) (zS (S8 (zI (zI zR)))) (fun _ _=>(xT hg1)) (qx 11 (vb (fakes1 != 2)) (zS (S8 (zI (zI (zI zR))))) (qg 12 ?_))))))
 rcases Bool.eq_false_or_eq_true (fakes1 != 2) with hg3 | hg3
 have h:=h.1 hg3
 refine sz (v:=(Af aL aM aN aO (decide (fakes1>0)))) (zS (S8 (S4 zR))) (wy 79 hg3) (fun w' hw'=>(xa p7 (Ac aL aM aN aO (decide (fakes1>0))) (Tryz.isAgg35 _) (Tryz.sizeOf35 _) (hw'.2.r0 0 5 gZ))) (qw 13 (vi fakes1) (zS (S8 (S4 (zI zR)))) (wy 79 hg3) (qg 14 ?_))
 obtain ⟨z3,hv4,h⟩:=h
 refine sz (v:=(vi z3)) (zS (S8 (S4 (zI (zI zR))))) (wy 79 hg3) (fun w' hw'=>(jHE (by kernel_rfl) (by kernel_rfl) (by kernel_rfl) (hv4 w' hw'.1))) (qw 15 (vb (z3 == 1)) (zS (S8 (S4 (zI (zI (zI zR)))))) (wy 79 hg3) (qw 16 (vi fakes1) (zS (S8 (S8 zR))) (wy 79 hg3) (qg 17 ?_)))
 obtain ⟨z4,hv3,h⟩:=h
 refine sz (v:=(vi z4)) (zS (S8 (S8 (zI zR)))) (wy 79 hg3) (fun w' hw'=>(jHE (by kernel_rfl) (by kernel_rfl) (by kernel_rfl) (hv3 w' hw'.1))) (qw 18 (vb (z4 == 1)) (zS (S8 (S8 (zI (zI zR))))) (wy 79 hg3) (qg 20 (sz (v:=(Aa aD aC aE aF aG aH)) (zS (S8 (S8 (S4 zR)))) (wy 79 hg3) (fun w' hw'=>(xa p1 (Ab aD aC aE aF aG aH) (Tryz.isAgg107 _) (Tryz.sizeOf107 _) (hw'.2.r0 2 6 (gS (gS gZ))))) (lg 19 (zL (zS (S8 (S8 (zI (zI (zI zR)))))) (wy 79 hg3) (by kernel_rfl) (xc Tryz.call58) (h.mono ?_))))))
 rintro e w20 ⟨bO,bP,dB,dC,bQ,dD,rfl,hC,hk,h⟩
 refine ⟨_,rfl,.inr ⟨hC,hb.kept hk⟩,?_⟩
 obtain ⟨hs,hb⟩:=hk.hh hs hb
 refine lg 21 (zL (zS (S8 (S8 (S4 (zI zR))))) (wy 79 hg3) (by kernel_rfl) (xc Tryz.call47) (h.mono ?_))
 rintro e w21 ⟨r3,rfl,hC,hk,h⟩
 refine ⟨_,rfl,.inr ⟨hC,hb.kept hk⟩,?_⟩
 obtain ⟨hs,hb⟩:=hk.hh hs hb
 refine qz 22 (vb r3) (zS (S8 (S8 (S4 (zI (zI zR)))))) (fun _ _=>(xT hg3)) (wn (zO (cbr h ?_ ?_)))<;>intro h
 refine eg (q2 (Af aL aM aN aO (decide (fakes1>0))) (xa p7 (Ac aL aM aN aO (decide (fakes1>0))) (Tryz.isAgg35 _) (Tryz.sizeOf35 _) (hb.r0 0 5 gZ)) (zK (zD rfl) (xo p2 (Ac aL aM aN aO (decide (fakes1>0))) (Tryz.sizeOf35 _) (hb.k0 1 5 (gS gZ))) ?_))
 intro w22 hn9
 obtain ⟨hs,hb⟩:=hb.st1 1 hs hn9 (gS gZ)
 refine q (ln (er (qN (zY (zY (qN (qN (zY (zY (qN (qN (zY (zY (qN (zY ?_)))))))))))))))
 have ⟨h,hs⟩:=hs.hr (h w22)
 refine tI (.inl rfl) (vs:=[(Af aL aM aN aO (decide (fakes1>0))),(vb true)]) (v:=(.tuple #[(Af aL aM aN aO (decide (fakes1>0))),(vb true)])) Tryz.results98 ⟨(rva (Tryz.isAgg35 _) (Tryz.sizeOf35 _) (hb.r0 1 5 (gS gZ))),(rvT (by kernel_rfl)),trivial⟩ (by kernel_rfl) ⟨aL,aM,aN,aO,(decide (fakes1>0)),true,rfl,h⟩
 refine zB (yQ (zO (rg (qc (ln ⟨((q6.wrap (fakes1+1)),aL,aM,aN,aO,(decide (fakes1>0)),bA,bB,bC,bD,bE,Hl3,w21),⟨rfl,hm,hs,hb,h.1⟩,h.2⟩)))))
 have h:=h.2 hg3
 refine xK (zS (S8 (S4 zR))) (qC rfl (yD 79 hg3) rfl) (qn 13 (zS (S8 (S4 (zI zR)))) (qC rfl (yD 79 hg3) rfl) (qn 14 (zS (S8 (S4 (zI (zI zR))))) (qC rfl (yD 79 hg3) rfl) (qn 15 (zS (S8 (S4 (zI (zI (zI zR)))))) (qC rfl (yD 79 hg3) rfl) (qn 16 (zS (S8 (S8 zR))) (qC rfl (yD 79 hg3) rfl) (qn 17 (zS (S8 (S8 (zI zR)))) (qC rfl (yD 79 hg3) rfl) (qn 18 (zS (S8 (S8 (zI (zI zR))))) (qC rfl (yD 79 hg3) rfl) (qn 20 (zS (S8 (S8 (S4 zR)))) (qC rfl (yD 79 hg3) rfl) (lg 19 (xK (zS (S8 (S8 (zI (zI (zI zR)))))) (qC rfl (yD 79 hg3) rfl) (lg 21 (xK (zS (S8 (S8 (S4 (zI zR))))) (qC rfl (yD 79 hg3) rfl) (qz 22 (vb false) (zS (S8 (S8 (S4 (zI (zI zR)))))) (fun _ _=>(xF hg3)) (wn (zO (yU (by kernel_rfl) (zB (yQ (zO (rg (q0 (vi fakes1) (q0 (vi (q6.wrap (fakes1+1))) (q0 (vi (q6.wrap (fakes1+1))) (zC (zO ⟨((q6.wrap (fakes1+1)),aL,aM,aN,aO,(decide (fakes1>0)),bA,bB,bC,bD,bE,Hl3,w16),⟨rfl,hm,hs,hb,h.1⟩,h.2⟩))))))))))))))))))))))))
 have h:=h.2 hg1
 refine xK Kp4 (qC rfl (yD 71 hg1) rfl) (qn 5 Kp5 (qC rfl (yD 71 hg1) rfl) (qn 6 Kp6 (qC rfl (yD 71 hg1) rfl) (qn 7 Kp7 (by kernel_rfl) (qn 8 Kp8 (by kernel_rfl) (qn 9 Kp9 (qC rfl (yD 71 hg1) rfl) (qz 10 (vb false) (zS (S8 (zI (zI zR)))) (fun _ _=>(xF hg1)) (qx 11 (vb false) (zS (S8 (zI (zI (zI zR))))) (qn 12 (zS (S8 (S4 zR))) (qC rfl (yD (c:=false) 79 rfl) rfl) (qn 13 (zS (S8 (S4 (zI zR)))) (qC rfl (yD (c:=false) 79 rfl) rfl) (qn 14 (zS (S8 (S4 (zI (zI zR))))) (qC rfl (yD (c:=false) 79 rfl) rfl) (qn 15 (zS (S8 (S4 (zI (zI (zI zR)))))) (qC rfl (yD (c:=false) 79 rfl) rfl) (qn 16 (zS (S8 (S8 zR))) (qC rfl (yD (c:=false) 79 rfl) rfl) (qn 17 (zS (S8 (S8 (zI zR)))) (qC rfl (yD (c:=false) 79 rfl) rfl) (qn 18 (zS (S8 (S8 (zI (zI zR))))) (qC rfl (yD (c:=false) 79 rfl) rfl) (qn 20 (zS (S8 (S8 (S4 zR)))) (qC rfl (yD (c:=false) 79 rfl) rfl) (lg 19 (xK (zS (S8 (S8 (zI (zI (zI zR)))))) (qC rfl (yD (c:=false) 79 rfl) rfl) (lg 21 (xK (zS (S8 (S8 (S4 (zI zR))))) (qC rfl (yD (c:=false) 79 rfl) rfl) (qx 22 (vb false) (zS (S8 (S8 (S4 (zI (zI zR)))))) (wn (zO (yU (by kernel_rfl) ?_)))))))))))))))))))))))
 refine zB (yQ (zO (rg (qc (ln ⟨((q6.wrap (fakes1+1)),aL,aM,aN,aO,(decide (fakes1>0)),bA,bB,bC,bD,bE,Hl3,w16),⟨rfl,hm,hs,hb,h.1⟩,h.2⟩)))))
 refine vF (yM (yM (yK (yQ (zO (rg (q0 (vi i1) (q0 (vi (q6.wrap (i1+1))) (q0 (vi (q6.wrap (i1+1))) (ln ⟨((q6.wrap (i1+1)),bA,bB,bC,bD,bE,Hl3,wl3),⟨rfl,hm,hs,hb.drop 1,h.1⟩,h.2⟩))))))))))
 refine cbr h ?_ ?_<;>intro h
 refine eg ?_
 have ⟨h,hs⟩:=hs.hr (h H4 w13)
 obtain ⟨bF,bG,bH,bI,bJ,bK,hv6,h⟩:=h
 refine qa (Tryz.isAgg107 _) (Tryz.sizeOf107 _) hv6 (nw5 (fun p=>(Sl.mk (some p) 2 2).v) hs hb h fun p8 w23 hs hb h=>sc Tryz.call163 (h.mono fun e w24 ⟨cG,cH,dE,bZ,cI,dF,k,hk,h⟩=>have ⟨hs,hb⟩:=hk.hh hs hb;⟨_,k,?_⟩))
 refine qb (zK (zD rfl) (vL (a:=(p7.add 2)) (v:=(vu bZ)) (by kernel_rfl) (by kernel_rfl) rfl (Tryz.sizeOf23 _) (hb.canW 0 2 gZ (by kernel_rfl))) ?_)
 intro w25 hn10
 have hsb:Hst w0 H4 w24 H4 w25∧HB H4 w25 [(p7,(Ac kind1 (cond (s_B kind1) aC 0) bZ (⟨#[]⟩) false),35),(p2,(Ac aI aJ aR aK aS),35),(p1,(Ab aD aC aE aF aG aH),107)]:=by
  rw [hn10];exact hb.set (i:=0) 2 (v:=(vu bZ)) hs gZ (by kernel_rfl)
 obtain ⟨hs,hb⟩:=hsb
 refine ln (rg ?_)
 have ⟨h,hs⟩:=hs.hr (h w25)
 obtain ⟨cJ,cK,cL,cM,cN,cO,hv5,h⟩:=h
 refine qa (Tryz.isAgg107 _) (Tryz.sizeOf107 _) hv5 (nw5 (fun p=>(Sl.mk (some p) 2 2).v) hs hb h fun p9 w26 hs hb h=>sc Tryz.call163 (h.mono fun e w27 ⟨dG,dH,dI,dJ,cC,dK,k,hk,h⟩=>have ⟨hs,hb⟩:=hk.hh hs hb;⟨_,k,?_⟩))
 refine qb (zK (zD rfl) (vL (a:=(p7.add 3)) (v:=(vs cC)) (by kernel_rfl) (by kernel_rfl) rfl (Tryz.sizeOf9 _) (hb.canW 0 3 gZ (by kernel_rfl))) ?_)
 intro w28 hn11
 have hsb:Hst w0 H4 w27 H4 w28∧HB H4 w28 [(p7,(Ac kind1 (cond (s_B kind1) aC 0) bZ cC false),35),(p2,(Ac aI aJ aR aK aS),35),(p1,(Ab aD aC aE aF aG aH),107)]:=by
  rw [hn11];exact hb.set (i:=0) 3 (v:=(vs cC)) hs gZ (by kernel_rfl)
 obtain ⟨hs,hb⟩:=hsb
 refine zC ?_
 have ⟨h,hs⟩:=hs.hr (h w28)
 refine zO ⟨kind1,(cond (s_B kind1) aC 0),bZ,cC,false,H4,hm,hs,hb,h⟩
 refine eg (qb (ln (cbr h ?_ ?_)))<;>intro h
 refine rg (q2 (Aa aD aC aE aF aG aH) (xa p1 (Ab aD aC aE aF aG aH) (Tryz.isAgg107 _) (Tryz.sizeOf107 _) (hb.r0 2 6 (gS (gS gZ)))) ?_)
 have ⟨h,hs⟩:=hs.hr (h H4 w13)
 refine nw5 (fun p=>(Sl.mk (some p) 1 1).v) hs hb h fun p10 w29 hs hb h=>sc Tryz.call163 (h.mono fun e w30 ⟨dL,dM,dN,cD,dO,dP,k,hk,h⟩=>have ⟨hs,hb⟩:=hk.hh hs hb;⟨_,k,?_⟩)
 refine qb (zK (zD rfl) (vL (a:=(p7.add 2)) (v:=(vu cD)) (by kernel_rfl) (by kernel_rfl) rfl (Tryz.sizeOf23 _) (hb.canW 0 2 gZ (by kernel_rfl))) ?_)
 intro w31 hn14
 have hsb:Hst w0 H4 w30 H4 w31∧HB H4 w31 [(p7,(Ac kind1 (cond (s_B kind1) aC 0) cD (⟨#[]⟩) false),35),(p2,(Ac aI aJ aR aK aS),35),(p1,(Ab aD aC aE aF aG aH),107)]:=by
  rw [hn14];exact hb.set (i:=0) 2 (v:=(vu cD)) hs gZ (by kernel_rfl)
 obtain ⟨hs,hb⟩:=hsb
 refine zC ?_
 have ⟨h,hs⟩:=hs.hr (h w31)
 refine zO ⟨kind1,(cond (s_B kind1) aC 0),cD,⟨#[]⟩,false,H4,hm,hs,hb,h⟩
 refine rg (q2 (Aa aD aC aE aF aG aH) (xa p1 (Ab aD aC aE aF aG aH) (Tryz.isAgg107 _) (Tryz.sizeOf107 _) (hb.r0 2 6 (gS (gS gZ)))) ?_)
 have ⟨h,hs⟩:=hs.hr (h H4 w13)
 refine nw5 (fun p=>(Sl.mk (some p) 2 2).v) hs hb h fun p11 w32 hs hb h=>sc Tryz.call163 (h.mono fun e w33 ⟨dQ,dR,dS,cE,dT,dU,k,hk,h⟩=>have ⟨hs,hb⟩:=hk.hh hs hb;⟨_,k,?_⟩)
 refine qb (zK (zD rfl) (vL (a:=(p7.add 2)) (v:=(vu cE)) (by kernel_rfl) (by kernel_rfl) rfl (Tryz.sizeOf23 _) (hb.canW 0 2 gZ (by kernel_rfl))) ?_)
 intro w34 hn16
 have hsb:Hst w0 H4 w33 H4 w34∧HB H4 w34 [(p7,(Ac kind1 (cond (s_B kind1) aC 0) cE (⟨#[]⟩) false),35),(p2,(Ac aI aJ aR aK aS),35),(p1,(Ab aD aC aE aF aG aH),107)]:=by
  rw [hn16];exact hb.set (i:=0) 2 (v:=(vu cE)) hs gZ (by kernel_rfl)
 obtain ⟨hs,hb⟩:=hsb
 refine zC ?_
 have ⟨h,hs⟩:=hs.hr (h w34)
 refine zO ⟨kind1,(cond (s_B kind1) aC 0),cE,⟨#[]⟩,false,H4,hm,hs,hb,h⟩
 obtain ⟨C2,hC,h⟩:=h
 refine dr2 (fun x=>C2 x∧HB Hl2 x _) [5,6,7] [5,7] ⟨hC,hb.drew⟩ h hs hb fun w35 hs hb h=>?_
 have hs:=hs.here
 refine qz 0 (Aa aD aC aE aF aG aH) Kp0 (fun w' hw'=>(xa p1 (Ab aD aC aE aF aG aH) (Tryz.isAgg107 _) (Tryz.sizeOf107 _) (hw'.2.r0 1 6 (gS gZ)))) (qx 1 ((Sl.mk (some p6) 3 3).v) Kp1 (qx 2 (vi i1) Kp2 (qg 3 ?_)))
 obtain ⟨a2,hv8,h⟩:=h
 refine sy Kp3 (fun _ _=>xi (Tryz.runUnderlying246 _) (Tryz.sizeOf42 _) hv8) (qg 4 ?_)
 obtain ⟨v1,hv7,h⟩:=h
 refine sy Kp4 (fun _ k=>xl (Tryz.isAgg42 _) (hv7 _ k.1)) (jMM (k:=5) (k':=6) (by kernel_rfl) ?_ ?_)
 have h:=h.1
 refine zL Kp5 (zD rfl) (by kernel_rfl) (xc Tryz.call163) (h.mono ?_)
 rintro e w36 ⟨cP,cQ,cR,cS,cT,cU,rfl,hk,h⟩
 refine ⟨_,rfl,.inl (by kernel_rfl),?_⟩
 obtain ⟨hs,hb⟩:=hk.hh hs hb
 refine lg 6 (qI (O:=(.cells #[(vi 0),(vi 0),(vi 0),(vu 0),(vs ⟨#[]⟩),Sl.nil.v] 107)) (fun p=>.pointer (some p)) Kp6 (zD rfl) (by kernel_rfl) (zM (Tryz.zeroValue107 _) rfl) ?_)
 intro p12 w37 hn19
 have h:=h p12 w37 hn19
 refine ⟨.inr ⟨h.1,hb.kept (Ext.new (F:=None) hn19).keptP⟩,?_⟩
 have h:=h.2
 obtain ⟨hs,hb⟩:=hs.nw hb hn19
 refine lg 7 ?_
 obtain ⟨hp1,hnh,h⟩:=h
 refine xB Kp7 (zD rfl) (by kernel_rfl) (xo p12 (Ab cP cQ cR cS cT cU) (Tryz.sizeOf107 _) hp1) ?_
 intro w38 hn18
 have h:=h w38 hn18
 refine ⟨.inl (by kernel_rfl),?_⟩
 have hk:Kept Hl2 w37 w38:=by rw [hn18];exact Kept.storeRow hnh
 obtain ⟨hs,hb⟩:=hk.hh hs hb
 refine wn (zO ⟨p12,Hl2,hm,hs,hb,h⟩)
 have h:=h.2
 refine qI (O:=(.cells #[(vi 0),(vi 0),(vi 0),(vu 0),(vs ⟨#[]⟩),Sl.nil.v] 107)) (fun p=>.pointer (some p)) Kp6 (zD rfl) (by kernel_rfl) (zM (Tryz.zeroValue107 _) rfl) ?_
 intro p13 w39 hn21
 have h:=h p13 w39 hn21
 refine ⟨.inr ⟨h.1,hb.kept (Ext.new (F:=None) hn21).keptP⟩,?_⟩
 have h:=h.2
 obtain ⟨hs,hb⟩:=hs.nw hb hn21
 refine lg 5 (zL Kp5 (zD rfl) (by kernel_rfl) (xc Tryz.call163) (h.mono ?_))
 rintro e w40 ⟨cV,cW,cX,cY,cZ,dA,rfl,hk,h⟩
 refine ⟨_,rfl,.inl (by kernel_rfl),?_⟩
 obtain ⟨hs,hb⟩:=hk.hh hs hb
 refine lg 7 ?_
 obtain ⟨hp2,hnh,h⟩:=h
 refine xB Kp7 (zD rfl) (by kernel_rfl) (xo p13 (Ab cV cW cX cY cZ dA) (Tryz.sizeOf107 _) hp2) ?_
 intro w41 hn20
 have h:=h w41 hn20
 refine ⟨.inl (by kernel_rfl),?_⟩
 have hk:Kept Hl2 w40 w41:=by rw [hn20];exact Kept.storeRow hnh
 obtain ⟨hs,hb⟩:=hk.hh hs hb
 refine wn (zO ⟨p13,Hl2,hm,hs,hb,h⟩)
 refine vF (yM (yM (yK (yQ (zO (rg (q0 (vi kind1) (q0 (vi (q6.wrap (kind1+1))) (q0 (vi (q6.wrap (kind1+1))) (ln ⟨((q6.wrap (kind1+1)),aI,aJ,aR,aK,aS,Hl2,wl2),⟨rfl,hm,hs,hb,h.1⟩,h.2⟩))))))))))
 refine vF (yM (yM (yK (zO (eg (q0 (Af 0 0 0 (⟨#[]⟩) false) (zK (zD rfl) (xo p2 (Ac 0 0 0 (⟨#[]⟩) false) (Tryz.sizeOf35 _) (hb.k0 0 5 gZ)) ?_)))))))
 intro w42 hn22
 obtain ⟨hs,hb⟩:=hb.st1 0 hs hn22 gZ
 refine q (ln (er ?_))
 have ⟨h,hs⟩:=hs.hr (h w42)
 refine tI (.inl rfl) (vs:=[(Af 0 0 0 (⟨#[]⟩) false),(vb false)]) (v:=(.tuple #[(Af 0 0 0 (⟨#[]⟩) false),(vb false)])) Tryz.results98 ⟨(rva (Tryz.isAgg35 _) (Tryz.sizeOf35 _) (hb.r0 0 5 gZ)),(rvT (by kernel_rfl)),trivial⟩ (by kernel_rfl) ⟨0,0,0,⟨#[]⟩,false,false,rfl,h⟩
def m_P2 (p1:Option Addr) (t1:Int) (w0:World) (K:Int→Int→Int→ByteArray→Bool→Bool→WP):Prop :=∀H1 w1,Hst w0 None w0 H1 w1→Calls Tryz.prog 87 #[(vp p1),(vi t1)] w1 (fun e w2=>∃r1,e=.returned (vb r1)∧Kept H1 w1 w2∧Br (!r1) (∀w3,Hst w0 H1 w2 H1 w3→K 0 0 0 ⟨#[]⟩ false false w3) (Calls Tryz.prog 97 #[(vp p1),(vi t1)] w2 (fun e w4=>∃r2,e=.returned (vi r2)∧Kept H1 w2 w4∧Br (decide (r2>40)) (∀w5,Hst w0 H1 w4 H1 w5→K 0 0 0 ⟨#[]⟩ false false w5) (Calls Tryz.prog 49 #[(vp p1),(vi t1)] w4 (fun e w6=>∃bT bU bV bW bX bY,e=.returned (Aa bT bU bV bW bX bY)∧Kept H1 w4 w6∧Calls Tryz.prog 98 #[(.agg #[(vi bT),(vi bU),(vi bV),(vu bW),(vs bX),bY.v])] w6 (fun e w7=>∃bO bP bR bQ bS r3,e=.returned (.tuple #[(Af bO bP bR bQ bS),(vb r3)])∧Kept H1 w6 w7∧∀w8,Hst w0 H1 w7 H1 w8→K bO bP bR bQ bS r3 w8))))))
theorem w_P2 (p1 t1 w0 K) (h:m_P2 p1 t1 w0 K):
  Calls Tryz.prog 42 #[(vp p1),(vi t1)] w0 (fun e w'=>∃cG cH dY cI dZ r4,e=.returned (.tuple #[(Af cG cH dY cI dZ),(vb r4)])∧K cG cH dY cI dZ r4 w'):=by
 refine cw (args:=[(vp p1),(vi t1)]) Tryz.func42 Tryz.ntmps42 ?_
 obtain ⟨hs,hb⟩:=st0 w0
 refine eg (nw3 (Ac 0 0 0 (⟨#[]⟩) false) 35 hs hb (zM (Tryz.zeroValue35 _) rfl) fun p2 w1 H1 hs hb=>q (ln (zA (eg (qb ?_)))))
 have ⟨h,hs⟩:=hs.hr (h H1 w1)
 refine sc Tryz.call87 (h.mono fun e w2 ⟨r1,k,hk,h⟩=>have ⟨hs,hb⟩:=hk.hh hs hb;⟨_,k,?_⟩)
 refine qb ?_
 rcases Bool.eq_false_or_eq_true (!r1) with hg1 | hg1
 have h:=h.1 hg1
 refine sj4 10 hg1 (q2 (vb true) (xT hg1) (ln (yH (by kernel_rfl) (eg (q0 (Af 0 0 0 (⟨#[]⟩) false) (zK (zD rfl) (xo p2 (Ac 0 0 0 (⟨#[]⟩) false) (Tryz.sizeOf35 _) (hb.k0 0 5 gZ)) ?_))))))
 intro w3 hn2
 obtain ⟨hs,hb⟩:=hb.st1 0 hs hn2 gZ
 refine q (ln (er (zY ?_)))
 have ⟨h,hs⟩:=hs.hr (h w3)
 refine tI (.inl rfl) (vs:=[(Af 0 0 0 (⟨#[]⟩) false),(vb false)]) (v:=(.tuple #[(Af 0 0 0 (⟨#[]⟩) false),(vb false)])) Tryz.results42 ⟨(rva (Tryz.isAgg35 _) (Tryz.sizeOf35 _) (hb.r0 0 5 gZ)),(rvT (by kernel_rfl)),trivial⟩ (by kernel_rfl) ⟨0,0,0,⟨#[]⟩,false,false,rfl,h⟩
 have h:=h.2 hg1
 refine qk 10 hg1 (qk 10 hg1 (vN (wy 10 hg1) (xc Tryz.call97) (h.mono ?_)))
 rintro e w4 ⟨r2,rfl,hk,h⟩
 refine ⟨_,rfl,?_⟩
 obtain ⟨hs,hb⟩:=hk.hh hs hb
 refine qk 10 hg1 (q2 (vb (decide (r2>40))) (xF hg1) (ln (cbr h ?_ ?_)))<;>intro h
 refine eg (q (zK (zD rfl) (xo p2 (Ac 0 0 0 (⟨#[]⟩) false) (Tryz.sizeOf35 _) (hb.k0 0 5 gZ)) ?_))
 intro w5 hn3
 obtain ⟨hs,hb⟩:=hb.st1 0 hs hn3 gZ
 refine q (ln (er (zY ?_)))
 have ⟨h,hs⟩:=hs.hr (h w5)
 refine tI (.inl rfl) (vs:=[(Af 0 0 0 (⟨#[]⟩) false),(vb false)]) (v:=(.tuple #[(Af 0 0 0 (⟨#[]⟩) false),(vb false)])) Tryz.results42 ⟨(rva (Tryz.isAgg35 _) (Tryz.sizeOf35 _) (hb.r0 0 5 gZ)),(rvT (by kernel_rfl)),trivial⟩ (by kernel_rfl) ⟨0,0,0,⟨#[]⟩,false,false,rfl,h⟩
 refine zB (zO (eg (qb (sc Tryz.call49 (h.mono fun e w6 ⟨bT,bU,bV,bW,bX,bY,k,hk,h⟩=>have ⟨hs,hb⟩:=hk.hh hs hb;⟨_,k,?_⟩)))))
 refine sc Tryz.call98 (h.mono fun e w7 ⟨bO,bP,bR,bQ,bS,r3,k,hk,h⟩=>have ⟨hs,hb⟩:=hk.hh hs hb;⟨_,k,?_⟩)
 refine qb (zK (zD rfl) (xo p2 (Ac bO bP bR bQ bS) (Tryz.sizeOf35 _) (hb.k0 0 5 gZ)) ?_)
 intro w8 hn4
 obtain ⟨hs,hb⟩:=hb.st1 0 hs hn4 gZ
 refine q (ln (er ?_))
 have ⟨h,hs⟩:=hs.hr (h w8)
 refine tI (.inl rfl) (vs:=[(Af bO bP bR bQ bS),(vb r3)]) (v:=(.tuple #[(Af bO bP bR bQ bS),(vb r3)])) Tryz.results42 ⟨(rva (Tryz.isAgg35 _) (Tryz.sizeOf35 _) (hb.r0 0 5 gZ)),(rvT (by kernel_rfl)),trivial⟩ (by kernel_rfl) ⟨bO,bP,bR,bQ,bS,r3,rfl,h⟩
end Go.Proofs
end
section
open Go Go.SE
namespace Go.Proofs
attribute [local irreducible] Calls
theorem jHK (l:Sp.Letter):s_A2 l.kind l.frm l.c l.text l.fake=Sp.qR l:=by
 obtain ⟨k,f,c,x,g⟩:=l;unfold s_A2 Sp.qR;have e1:s_B k=Sp.vU k:=rfl;rw [e1];have e2:(Sp.vU k || k == 6)=Sp.qB k:=rfl;rw [e2];have e3:decide (((x.size:Int))>64)=decide (x.size>64):=decide_eq_decide.2 (by omega);rw [e3];generalize Sp.vU k=a;generalize Sp.qB k=b;have hc:((((((decide (k<1)) || (decide (k>7))) || (((f:Int) != 0) && ((f:Int) != 1))) || ((!a) && ((f:Int) != 0))) || ((!b) && (!(decide (x=(⟨#[]⟩:ByteArray)))))) || ((g && ((k:Int) != 1)) && ((k:Int) != 4)))=decide (k<1∨k>7∨(f≠0∧f≠1)∨(a=false∧f≠0)∨(b=false∧x≠⟨#[]⟩)∨(g=true∧k≠1∧k≠4)):=by
  rw [Bool.eq_iff_iff];simp only [Bool.or_eq_true,Bool.and_eq_true,decide_eq_true_eq,bne_iff_ne,Bool.not_eq_true',decide_eq_false_iff_not];simp only [or_assoc,and_assoc]
 rw [hc];by_cases h:(k<1∨k>7∨(f≠0∧f≠1)∨(a=false∧f≠0)∨(b=false∧x≠⟨#[]⟩)∨(g=true∧k≠1∧k≠4))
 ·rw [decide_eq_true h,if_pos h];rfl
 ·rw [decide_eq_false h,if_neg h];by_cases h2:x.size>64
  ·rw [decide_eq_true h2,if_pos h2];rfl
  ·rw [decide_eq_false h2,if_neg h2];rfl
def jMK (p:List Nat):List (List Value):=p.map fun i:Nat=>[Value.int .i64 (i:Int)]
theorem jAL {S S2:NP} (x:Sp.Tree) (s sp:Sl) (p:List Nat) (w0:World) (hT:TreeAt S w0 s x) (hSw:∀b,S b→b<w0.heap.size) (hp:Lst S2 w0 1 sp (jMK p)) (hS2:∀b,S2 b→b<w0.heap.size) (hpl:p.length≤100) :
  Calls Tryz.prog 163 #[.agg (yL x s).toArray,sp.v] w0 (fun e w'=>∃s',e=.returned (.agg (yL (Sp.jCA x p) s').toArray)∧TreeAt S w0 s' (Sp.jCA x p)∧Pure w0 w'):=by
 obtain ⟨k,f,t,u,tx,ks⟩:=x
 suffices key:∀K:Int→Int→Int→Int→ByteArray→Sl→WP,(∀k' f' t' u' x' s' w' ks',Sp.jCA (.mk k f t u tx ks) p=.mk k' f' t' u' x' ks'→TreeAt S w0 s' (.mk k' f' t' u' x' ks')→Pure w0 w'→K k' f' t' u' x' s' w')→m_P1 k f t u tx s sp w0 K by
  refine (w_P1 _ _ _ _ _ _ _ w0 (fun k' f' t' u' x' s' w'=>∃ks',Sp.jCA (.mk k f t u tx ks) p=.mk k' f' t' u' x' ks'∧TreeAt S w0 s' (.mk k' f' t' u' x' ks')∧Pure w0 w') (key _ (fun k' f' t' u' x' s' w' ks' h1 h2 h3=>⟨ks',h1,h2,h3⟩))).mono ?_;rintro _ w' ⟨k',f',t',u',x',s',rfl,ks',h1,h2,h3⟩;rw [h1];exact ⟨s',rfl,h2,h3⟩
 intro K hK
 have hlen:sp.len=p.length:=by rw [hp.len];simp [jMK]
 unfold m_P1
 intro H2 w2 hs2
 refine ⟨fun i _ _ _ _ _ _ k' f' t' u' x' s' H w'=>∃j:Nat,i=j∧j≤p.length∧Pure w0 w'∧∃ks',TreeAt S w0 s' (.mk k' f' t' u' x' ks')∧Sp.jCA (.mk k f t u tx ks) p=Sp.jCA (.mk k' f' t' u' x' ks') (p.drop j),fun i _ _ _ _ _ _ _ _ _ _ _ _ _=>((p.length:Int) - i).toNat,
  ⟨0,rfl,Nat.zero_le _,hs2.first,ks,hT,rfl⟩,?_⟩
 rintro _ _ _ _ _ _ _ k' f' t' u' x' s' Hl wl hl ⟨j,rfl,hj,El,ks',hT',heq⟩
 unfold m_P1_l1
 refine ⟨fun hc=>?_,fun hc=>?_⟩
 ·have hlt:=vS hlen hc
  rw [List.drop_eq_getElem_cons hlt,Sp.jCA] at heq
  have hpp:∀w',Pure w0 w'→∃a,At sp j 1 a∧S2 a.block∧w'.cell? a=some (.int .i64 (p[j]:Int)):=by
   intro w' E;obtain ⟨a,h1,h2,h3⟩:=(hp.pure E).nth (f:=fun i:Nat=>[Value.int .i64 (i:Int)]) (xs:=p) hlt;exact ⟨a,h1,h2,jAW h3⟩
  obtain ⟨a,hat,_,_⟩:=hpp wl El
  refine ⟨a,hat,?_⟩
  intro w3 hs3
  have E3:=El.hst hs3
  have hs3':=hs3.here
  obtain ⟨a1,hat1,hS1,hc1⟩:=hpp w3 E3
  have haa:a1=a:=by
   obtain ⟨_,_,x,hx,rfl⟩:=hat;obtain ⟨_,_,y,hy,rfl⟩:=hat1;rw [hx] at hy;cases hy;rfl
  subst haa
  have hl':s'.len=ks'.length:=by cases hT';assumption
  refine ⟨_,hc1,fun h=>?_,fun h=>?_⟩
  ·have : ks'[p[j]]? = none := by
    have h:=of_decide_eq_true h;exact List.getElem?_eq_none (by omega)
   rw [show (Sp.Tree.mk k' f' t' u' x' ks').kids=ks' from rfl,this] at heq
   intro w4 hs4
   exact hK _ _ _ _ _ _ _ _ heq TreeAt.leaf (E3.hst hs4)
  ·have hlt2:p[j]<ks'.length:=by have h:=of_decide_eq_false h;omega
   rw [show (Sp.Tree.mk k' f' t' u' x' ks').kids=ks' from rfl,List.getElem?_eq_getElem hlt2] at heq
   have hd:∀b,S b→¬ Hl b:=fun b hb hh=>by have:=hl.old b hh;have:=hSw b hb;omega
   have hd2:∀b,S2 b→¬ Hl b:=fun b hb hh=>by have:=hl.old b hh;have:=hS2 b hb;omega
   cases hT' with
   | mk _ _ _ _ _ _ _ rs len fit row kid =>
   obtain ⟨a3,hat3,hS3,hr3⟩:=row _ hlt2
   refine ⟨a1,hat1,_,hc1,hd2 _ hS1,a3,hat3,_,_,_,_,_,rs p[j],E3.row hr3 id,hd _ hS3,?_⟩
   intro H3 w7 hs7
   rw [zZ hlt (by omega)]
   refine ⟨⟨j+1,rfl,hlt,E3.hst hs7,ks'[p[j]].kids,?_,?_⟩,qX hlt⟩
   ·have:=kid _ hlt2
    generalize ks'[p[j]]=y at *
    obtain ⟨_,_,_,_,_,_⟩:=y
    exact this
   ·rw [heq]
    generalize ks'[p[j]]=y
    obtain ⟨_,_,_,_,_,_⟩:=y
    rfl
 ·have hge:=vT hlen hj hc
  subst hge
  rw [List.drop_length] at heq
  intro w9 hs9
  exact hK _ _ _ _ _ _ _ _ heq hT' (El.hst hs9)
theorem jIO:∀j:Nat,j<4→∀w,(Go.binOp .rem 3 (.int .i64 (j:Int)) (.int .i64 2)).run Tryz.prog w=.ok (.int .i64 ((j % 2:Nat):Int)) w
 | 0,_,w=>by kernel_rfl
 | 1,_,w=>by kernel_rfl
 | 2,_,w=>by kernel_rfl
 | 3,_,w=>by kernel_rfl
 | n+4,h,_=>by omega
theorem jIP:∀j:Nat,j<4→∀w,(Go.binOp .quo 3 (.int .i64 (j:Int)) (.int .i64 2)).run Tryz.prog w=.ok (.int .i64 ((j / 2:Nat):Int)) w
 | 0,_,w=>by kernel_rfl
 | 1,_,w=>by kernel_rfl
 | 2,_,w=>by kernel_rfl
 | 3,_,w=>by kernel_rfl
 | n+4,h,_=>by omega
theorem Lst.of_path {w:World} {p:Addr} {T:TypeId} (ts:List Nat) (h:Box w p (ts.map fun t:Nat=>Value.int .i64 (t:Int)) T):Lst (·=p.block) w 1 ⟨some p,ts.length,ts.length⟩ (jMK ts):=by
 refine ⟨by simp [jMK],fun i hi=>?_⟩;have hi':i<ts.length:=by simpa [jMK] using hi
 refine ⟨p.add (i*1),⟨by omega,by simpa using hi',p,rfl,by simp⟩,by rw [zX],fun j hj=>?_⟩;have hj0:j=0:=by simpa [jMK] using hj
 subst hj0;have:=h.cell (i:=i) (v:=.int .i64 (ts[i]:Int)) (by simp [hi']);rw [uW,Nat.mul_one,Nat.add_zero,this];simp [jMK]
theorem TreeAt.back {S:NP} {w w':World} {s:Sl} {t:Sp.Tree} (h:TreeAt S w' s t) (hE:Pure w w') (hd:∀b,S b→b<w.heap.size):TreeAt S w s t:=by
 induction h with
 | mk k f t u x ks s rs len fit row kid ih =>
  refine .mk k f t u x ks s rs len fit (fun i h=>let ⟨a,h1,h2,h3⟩:=row i h;⟨a,h1,h2,fun j hj=>?_⟩) ih
  rw [← h3 j hj]
  unfold World.cell?
  rw [zX,hE.keep _ (hd _ h2) (fun h=>h)]
theorem jCB {S:NP} (x:Sp.Tree) (s:Sl) (w0:World) (hT:TreeAt S w0 s x) (hSw:∀b,S b→b<w0.heap.size) :
  Calls Tryz.prog 98 #[.agg (yL x s).toArray] w0 (fun e w'=>∃k f c:Int,∃t:ByteArray,∃g r:Bool,e=.returned (.tuple #[.agg #[.int .i64 k,.int .i64 f,.int .u64 c,.string t,.bool g],.bool r])∧(((⟨k,f,c,t,g⟩:Sp.Letter),r)=Sp.qO x∧Pure w0 w')):=by
 obtain ⟨xk,xf,xt,xu,xx,ks⟩:=x
 generalize hx:Sp.Tree.mk xk xf xt xu xx ks=x at *
 have hxr:yL x s=[.int .i64 xk,.int .i64 xf,.int .i64 xt,.int .u64 xu,.string xx,s.v]:=by rw [← hx];rfl
 have hxn:x.node.frm=xf:=by rw [← hx];rfl
 rw [hxr]
 suffices key:∀K:Int→Int→Int→ByteArray→Bool→Bool→WP,(∀k f c t g r w',(((⟨k,f,c,t,g⟩:Sp.Letter),r)=Sp.qO x∧Pure w0 w')→K k f c t g r w')→m_G xk xf xt xu xx s w0 K from
  w_G _ _ _ _ _ _ w0 _ (key _ (fun _ _ _ _ _ _ _ h=>h))
 intro K hK
 have hxv:(Value.agg #[.int .i64 xk,.int .i64 xf,.int .i64 xt,.int .u64 xu,.string xx,s.v])=.agg (yL x s).toArray:=by rw [hxr]
 have tS:∀{w},Pure w0 w→TreeAt S w s x∧∀b,S b→b<w.heap.size:=fun E=>⟨hT.pure E,fun b hb=>by have:=hSw b hb;have:=E.size;omega⟩
 unfold m_G
 intro H2 w2 hs2 p3 w3 h3 p4 w4 h4 p5 w5 h5 p6 w6 h6
 have E2:=hs2.first
 have b3:=(((Box.of_new h3).pure (Ext.new h4)).pure (Ext.new h5)).pure (Ext.new h6)
 have b4:=((Box.of_new h4).pure (Ext.new h5)).pure (Ext.new h6)
 have b5:=(Box.of_new h5).pure (Ext.new h6)
 have b6:=Box.of_new h6
 have E6:Pure w2 w6:=(((Ext.new h3:Pure w2 w3).trans (Ext.new h4)).trans (Ext.new h5)).trans (Ext.new h6)
 have hs6:=hs2.again E6.keptP
 have v3:w2.heap.size≤p3.block:=by have:=h3.at_size;omega
 have v4:w2.heap.size≤p4.block:=by have:=h4.at_size;have:=(Ext.new (F:=None) h3).size;omega
 have v5:w2.heap.size≤p5.block:=by have:=h5.at_size;have:=(Ext.new (F:=None) h3).size;have:=(Ext.new (F:=None) h4).size;omega
 have v6:w2.heap.size≤p6.block:=by have:=h6.at_size;have:=(Ext.new (F:=None) h3).size;have:=(Ext.new (F:=None) h4).size;have:=(Ext.new (F:=None) h5).size;omega
 let B:WP:=fun w=>Box w p3 [.int .i64 0] 3∧Box w p4 [.int .i64 0,.int .i64 1,.int .i64 0,.int .i64 0] 3∧Box w p5 [.int .i64 0,.int .i64 1] 3∧Box w p6 [(Sl.mk (some p3) 1 1).v,(Sl.mk (some p4) 4 4).v,(Sl.mk (some p5) 2 2).v] 42
 let V:NP→Prop:=fun H=>¬ H p3.block∧¬ H p4.block∧¬ H p5.block∧¬ H p6.block
 have B6:B w6:=⟨b3,b4,b5,b6⟩
 have V6:V H2:=⟨fun h=>by have:=hs2.lt _ h;omega,fun h=>by have:=hs2.lt _ h;omega,fun h=>by have:=hs2.lt _ h;omega,fun h=>by have:=hs2.lt _ h;omega⟩
 have Bp:∀{w w'},B w→Pure w w'→B w':=fun h E=>⟨h.1.pure E,h.2.1.pure E,h.2.2.1.pure E,h.2.2.2.pure E⟩
 have BV:∀{H w H' w'},B w∧V H→Hst w0 H w H' w'→B w'∧V H':=by
  rintro H w H' w' ⟨⟨q3,q4,q5,q6⟩,⟨n3,n4,n5,n6⟩⟩ hs;have d:∀(p:Addr),p.block<w.heap.size→¬ H p.block→¬ H' p.block:=fun p h1 h2=>hs.disj (G:=(·=p.block)) (fun b e=>by subst e;exact ⟨h1,h2⟩) _ rfl;have m3:=d p3 q3.lt n3;have m4:=d p4 q4.lt n4;have m5:=d p5 q5.lt n5;have m6:=d p6 q6.lt n6;exact ⟨⟨q3.ext hs.ext m3,q4.ext hs.ext m4,q5.ext hs.ext m5,q6.ext hs.ext m6⟩,⟨m3,m4,m5,m6⟩⟩
 refine ⟨fun kd _ _ _ _ _ H w'=>∃q:Nat,kd=(q:Int)+1∧q≤7∧Pure w0 w'∧(B w'∧V H)∧Sp.yR x 7 1=Sp.yR x (7 - q) ((q:Int)+1),fun kd _ _ _ _ _ _=>(8 - kd).toNat,⟨0,rfl,by omega,E2.trans E6,⟨B6,V6⟩,rfl⟩,?_⟩
 rintro _ d1 d2 d3 d4 d5 Hl wl hl ⟨q,rfl,hq,El,BVl,heq⟩
 unfold m_G_l1
 refine ⟨fun hc=>?_,fun hc=>?_⟩
 ·have hq7:q<7:=by have:=of_decide_eq_true hc;omega
  obtain ⟨n,hn⟩:∃n,7 - q=n+1:=⟨7 - q - 1,by omega⟩
  have hstep:Sp.yR x (n+1) ((q:Int)+1)=(match Sp.qP x ((q:Int)+1) Sp.deals with | some l=>some l | none=>Sp.yR x n ((q:Int)+1+1)):=rfl
  rw [hn,hstep] at heq
  clear hstep
  generalize hkd:((q:Int)+1)=kd at *
  refine ⟨fun i _ _ _ _ _ H w'=>∃j:Nat,i=j∧j≤3∧Pure w0 w'∧(B w'∧V H)∧Sp.qP x kd Sp.deals=Sp.qP x kd (Sp.deals.drop j),fun i _ _ _ _ _ _=>(3 - i).toNat,⟨0,rfl,by omega,El,BVl,rfl⟩,?_⟩
  rintro _ d1 d2 d3 d4 d5 Hm wm hm ⟨j,rfl,hj,Em,BVm,heqd⟩
  unfold m_G_l2
  refine ⟨fun hc2=>?_,fun hc2=>?_⟩
  ·have hj3:j<3:=by have:=of_decide_eq_true hc2;simp only at this;omega
   have hjd:j<Sp.deals.length:=hj3
   have hstep:Sp.qP x kd (Sp.deals[j] :: Sp.deals.drop (j+1))=(match Sp.yF x (Sp.jHB x kd Sp.deals[j]) 4 0 with | some l=>some l | none=>Sp.qP x kd (Sp.deals.drop (j+1))):=rfl
   rw [List.drop_eq_getElem_cons hjd,hstep] at heqd
   clear hstep
   generalize hpp:Sp.deals[j]=pp at *
   have hpath:∃a:Addr,∃sl:Sl,At (Sl.mk (some p6) 3 3) (j:Int) 1 a∧(∀w,B w→w.cell? a=some sl.v∧∃S2:NP,Lst S2 w 1 sl (jMK pp)∧∀b,S2 b→b<w.heap.size):=by
    have hj':j=0∨j=1∨j=2:=by omega
    rcases hj' with rfl | rfl | rfl
    ·have:pp=[0]:=hpp.symm;subst this;refine ⟨p6,⟨some p3,1,1⟩,⟨by omega,by simp,p6,rfl,by simp [Addr.add]⟩,fun w h=>⟨h.2.2.2.cell0,_,Lst.of_path [0] h.1,fun b e=>by subst e;exact h.1.lt⟩⟩
    ·have:pp=[0,1,0,0]:=hpp.symm;subst this;refine ⟨p6.add 1,⟨some p4,4,4⟩,⟨by omega,by simp,p6,rfl,rfl⟩,fun w h=>⟨h.2.2.2.cell rfl,_,Lst.of_path [0,1,0,0] h.2.1,fun b e=>by subst e;exact h.2.1.lt⟩⟩
    ·have:pp=[0,1]:=hpp.symm;subst this;refine ⟨p6.add 2,⟨some p5,2,2⟩,⟨by omega,by simp,p6,rfl,rfl⟩,fun w h=>⟨h.2.2.2.cell rfl,_,Lst.of_path [0,1] h.2.2.1,fun b e=>by subst e;exact h.2.2.1.lt⟩⟩
   obtain ⟨a,sl,hat,hcell⟩:=hpath
   have hppl:pp.length≤100:=by
    have hj':j=0∨j=1∨j=2:=by omega
    rcases hj' with rfl | rfl | rfl <;> (rw [← hpp];simp [Sp.deals])
   have J3 : ∀ (a1 : Addr) (w : World) (sd : Sl) (Td : TypeId), Hst w0 Hm w Hm w → Pure w0 w → (B w ∧ V Hm) → Box w a1 (yL (Sp.jCA x pp) sd) Td → ¬ Hm a1.block → TreeAt S w0 sd (Sp.jCA x pp) →
     m_G_j3 xk xf xt xu xx s kd j d1 d2 d3 d4 d5 a1 w0 Hm w (fun y'0 y'1 y'2 y'3 y'4 y'5 H' w'=>(∃j:Nat,y'0=j∧j≤3∧Pure w0 w'∧(B w'∧V H')∧Sp.qP x kd Sp.deals=Sp.qP x kd (Sp.deals.drop j))∧(3 - y'0).toNat<(3 - (j:Int)).toNat) K:=by
    intro a1 w sd Td hs E hBV hB1 hv1 hTd
    unfold m_G_j3
    have J4 : ∀ (c : Int) (t : ByteArray) (H : NP) (w : World), Hst w0 H w H w → Pure w0 w → (B w ∧ V H) → (⟨kd, cond (s_B kd) xf 0, c, t, false⟩ : Sp.Letter) = Sp.jHB x kd pp →
      m_G_j4 xk xf xt xu xx s kd j d1 d2 d3 d4 d5 kd (cond (s_B kd) xf 0) c t false w0 H w (fun y'0 y'1 y'2 y'3 y'4 y'5 H' w'=>(∃j:Nat,y'0=j∧j≤3∧Pure w0 w'∧(B w'∧V H')∧Sp.qP x kd Sp.deals=Sp.qP x kd (Sp.deals.drop j))∧(3 - y'0).toNat<(3 - (j:Int)).toNat) K:=by
     intro c t H w hs E hBV hcand
     generalize hlf:cond (s_B kd) xf 0=lf at *
     rw [← hcand] at heqd
     unfold m_G_j4
     refine ⟨fun fk lk lf' lc lt lg _ _ _ _ _ H w'=>(kd=lk∧lf=lf'∧c=lc∧t=lt)∧∃f:Nat,fk=f∧f≤4∧Pure w0 w'∧(B w'∧V H)∧Sp.yF x ⟨kd,lf,c,t,false⟩ 4 0=Sp.yF x ⟨kd,lf,c,t,false⟩ (4 - f) f,fun fk _ _ _ _ _ _ _ _ _ _ _=>(4 - fk).toNat,⟨⟨rfl,rfl,rfl,rfl⟩,0,rfl,by omega,E,hBV,rfl⟩,?_⟩
     rintro _ _ _ _ _ lg e1 e2 e3 e4 e5 Hf wf hsf ⟨⟨rfl,rfl,rfl,rfl⟩,f,rfl,hf4,Ef,BVf,heqf⟩
     unfold m_G_l5
     refine ⟨fun hc3=>?_,fun hc3=>?_⟩
     ·have hf:f<4:=by have:=of_decide_eq_true hc3;omega
      obtain ⟨m,hm'⟩:∃m,4 - f=m+1:=⟨4 - f - 1,by omega⟩
      have hstep:Sp.yF x ⟨kd,lf,c,t,false⟩ (m+1) f=(if Sp.jFF x ⟨kd,lf,c,t,false⟩ f then some (Sp.yV ⟨kd,lf,c,t,false⟩ f) else Sp.yF x ⟨kd,lf,c,t,false⟩ m (f+1)):=rfl
      rw [hm',hstep] at heqf
      clear hstep
      intro w14 hs14
      have E14:=Ef.hst hs14
      have BV14:=BV BVf hs14
      have hd14:Pure w14 w14.drew:=Ext.drew w14
      refine ⟨fun w'=>Pure w14 w',hd14,?_⟩
      rintro _ rfl
      have hfd:decide ((f:Int)>0)=decide (f>0):=decide_eq_decide.2 (by omega)
      rw [hfd]
      refine (p_A2 kd lf c t (decide (f>0)) w14.drew).mono ?_
      rintro _ w16 ⟨rfl,E16⟩
      rw [jHK ⟨kd,lf,c,t,decide (f>0)⟩]
      have Ed:=hd14.trans E16
      refine ⟨_,rfl,Ed,E16.keptP,?_⟩
      have hwf:Sp.yV ⟨kd,lf,c,t,false⟩ f=⟨kd,lf,c,t,decide (f>0)⟩:=rfl
      have next:∀w',Pure w14 w'→Sp.jFF x ⟨kd,lf,c,t,false⟩ f=false→((((kd=kd∧lf=lf∧c=c∧t=t)∧∃f':Nat,IntKind.i64.wrap ((f:Int)+1)=f'∧f'≤4∧Pure w0 w'∧(B w'∧V Hf)∧Sp.yF x ⟨kd,lf,c,t,false⟩ 4 0=Sp.yF x ⟨kd,lf,c,t,false⟩ (4 - f') f'))∧(4 - IntKind.i64.wrap ((f:Int)+1)).toNat<(4 - (f:Int)).toNat):=by
       intro w' E' hno;rw [hno,if_neg (by simp)] at heqf;rw [zZ hf (by omega)];exact ⟨⟨⟨rfl,rfl,rfl,rfl⟩,f+1,rfl,hf,E14.trans E',⟨Bp BV14.1 E',BV14.2⟩,by rw [heqf,show m=4 - (f+1) from by omega]⟩,by omega⟩
      have found:∀w',Pure w0 w'→Sp.jFF x ⟨kd,lf,c,t,false⟩ f=true→K kd lf c t (decide (f>0)) true w':=by
       intro w' E' hyes;rw [hyes,if_pos rfl,hwf] at heqf;rw [heqf] at heqd;rw [heqd] at heq;exact hK _ _ _ _ _ _ _ ⟨by unfold Sp.qO;rw [heq],E'⟩
      have cmp : ∀ w, Pure w14 w → Sp.qR ⟨kd, lf, c, t, decide (f > 0)⟩ = 0 → (kd == 4 || decide (f ≠ 2)) = true →
        Calls Tryz.prog 58 #[.agg #[.int .i64 kd,.int .i64 lf,.int .u64 c,.string t,.bool (decide (f>0))],.bool (((f % 2:Nat):Int) == 1),.bool (((f / 2:Nat):Int) == 1)] w (fun e w17=>∃rKind1:Int,∃rFrom1:Int,∃rTo1:Int,∃rNum1:Int,∃rText1:ByteArray,∃rKids1:Sl,e=.returned (.agg #[(.int .i64 rKind1),(.int .i64 rFrom1),(.int .i64 rTo1),(.int .u64 rNum1),(.string rText1),rKids1.v])∧Pure w14 w17∧Kept Hf w w17 ∧
         Calls Tryz.prog 47 #[.agg #[(.int .i64 rKind1),(.int .i64 rFrom1),(.int .i64 rTo1),(.int .u64 rNum1),(.string rText1),rKids1.v],.agg #[.int .i64 xk,.int .i64 xf,.int .i64 xt,.int .u64 xu,.string xx,s.v]] w17 (fun e w18=>∃r2:Bool,e=.returned (.bool r2)∧Pure w14 w18∧Kept Hf w17 w18∧r2=Sp.jFF x ⟨kd,lf,c,t,false⟩ f)):=by
       intro w Ew herr hk4
       have hfr:lf=0∨lf=1:=by
        unfold Sp.qR at herr;simp only at herr;split at herr
        ·cases herr
        ·rename_i h;simp only [not_or,not_and] at h;have:=h.2.2.1;by_cases h0:lf=0
         ·exact .inl h0
         ·exact .inr (Classical.not_not.1 (this h0))
       have hb1:(((f % 2:Nat):Int) == 1)=(f % 2 == 1):=by rw [Bool.eq_iff_iff];simp;omega
       have hb2:(((f / 2:Nat):Int) == 1)=(f / 2 == 1):=by rw [Bool.eq_iff_iff];simp;omega
       rw [hb1,hb2]
       refine (jGJ w.heap.size kd lf c t (decide (f>0)) (f % 2 == 1) (f / 2 == 1) w (Nat.le_refl _) hfr).mono ?_
       rintro _ w17 ⟨s',rfl,hT',E17⟩
       generalize hLT:Sp.vZ ⟨kd,lf,c,t,decide (f>0)⟩ (f % 2 == 1) (f / 2 == 1)=LT at *
       obtain ⟨lk,lff,lt,lu,lx,lks⟩:=LT
       refine ⟨_,_,_,_,_,s',rfl,Ew.trans E17,E17.keptP,?_⟩
       rw [hxv]
       have E017:=(E14.trans Ew).trans E17
       refine (jGO (S:=fun b=>b<w17.heap.size) (.mk lk lff lt lu lx lks) x s' s w17 (hT'.lt.mono (fun b hb=>hb.2)) ((tS E017).1.mono (tS E017).2) (fun b hb=>hb)).mono ?_
       rintro _ w18 ⟨r,rfl,hr,E18⟩
       refine ⟨_,rfl,(Ew.trans E17).trans E18,E18.keptP,?_⟩
       unfold Sp.jFF
       rw [hwf,hLT,hr]
       simp [herr]
       intro _
       simpa using hk4
      refine ⟨fun h1=>⟨fun h2=>?_,fun h2=>⟨fun h3=>?_,fun h3=>?_⟩⟩,fun h1=>?_⟩
      ·refine ⟨_,fun w' _=>jIO f hf w',_,fun w' _=>jIP f hf w',?_⟩
       refine (cmp w16 Ed (by simpa using h1) (by rw [h2];rfl)).mono ?_
       rintro _ w17 ⟨_,_,_,_,_,s',rfl,E17,K17,h17⟩
       refine ⟨_,_,_,_,_,s',rfl,E17,K17,?_⟩
       refine h17.mono ?_
       rintro _ w18 ⟨r,rfl,E18,K18,hr⟩
       refine ⟨_,rfl,E18,K18,fun h=>?_,fun h=>next _ E18 (by rw [← hr];exact h)⟩
       intro w19 hs19
       exact found _ ((E14.trans E18).hst hs19) (by rw [← hr];exact h)
      ·refine ⟨_,fun w' _=>jIO f hf w',_,fun w' _=>jIP f hf w',?_⟩
       have hf2:decide (f≠2)=true:=decide_eq_true (fun e=>by subst e;simp at h3)
       refine (cmp w16 Ed (by simpa using h1) (by rw [hf2];simp)).mono ?_
       rintro _ w17 ⟨_,_,_,_,_,s',rfl,E17,K17,h17⟩
       refine ⟨_,_,_,_,_,s',rfl,E17,K17,?_⟩
       refine h17.mono ?_
       rintro _ w18 ⟨r,rfl,E18,K18,hr⟩
       refine ⟨_,rfl,E18,K18,fun h=>?_,fun h=>next _ E18 (by rw [← hr];exact h)⟩
       intro w19 hs19
       exact found _ ((E14.trans E18).hst hs19) (by rw [← hr];exact h)
      ·refine next _ Ed ?_
       have hf2 : f = 2 := by have : (f : Int) = 2 := by simpa using h3
                              omega
       unfold Sp.jFF
       simp only
       rw [h2,hf2];simp
      ·refine next _ Ed ?_
       unfold Sp.jFF
       rw [hwf]
       have:decide (Sp.qR ⟨kd,lf,c,t,decide (f>0)⟩=0)=false:=decide_eq_false (by simpa using h1)
       rw [this];rfl
     ·have hf:f=4:=by have:=of_decide_eq_false hc3;omega
      subst hf
      rw [Nat.sub_self,Sp.yF] at heqf
      rw [heqf] at heqd
      simp only at heqd
      rw [zZ hj3 (by omega)]
      exact ⟨⟨j+1,rfl,hj3,Ef,BVf,heqd⟩,by omega⟩
    have hsg:s_B kd=Sp.vU kd:=rfl
    have hcf:cond (s_B kd) xf 0=(Sp.jHB x kd pp).frm:=by
     rw [hsg];unfold Sp.jHB;simp only;rw [hxn];cases Sp.vU kd <;> rfl
    have place : ∀ (y : Sp.Tree) (sy : Sl) (pth : List Nat) (w : World) (p8 : Addr) (w23 : World), Pure w0 w → TreeAt S w0 sy y → New w (.cells (pth.map fun t : Nat => Value.int .i64 (t : Int)).toArray 3) p8 w23 → pth.length ≤ 100 →
      Calls Tryz.prog 163 #[.agg (yL y sy).toArray,(Sl.mk (some p8) pth.length pth.length).v] w23 (fun e w'=>∃s',e=.returned (.agg (yL (Sp.jCA y pth) s').toArray)∧TreeAt S w23 s' (Sp.jCA y pth)∧Pure w23 w'):=by
     intro y sy pth w p8 w23 E hTy h8 hpl
     have E23:Pure w0 w23:=E.trans (Ext.new h8)
     exact jAL (S2:=(·=p8.block)) y sy _ pth w23 (hTy.pure E23) (tS E23).2 (Lst.of_path pth (Box.of_new h8)) (fun b e=>by subst e;exact (Box.of_new h8).lt) hpl
    refine ⟨fun htx=>?_,fun htx=>⟨fun h7=>?_,fun h7=>?_⟩⟩
    ·have htx':Sp.qB kd=true:=htx
     intro H4 w13 hs13
     have E13:=E.hst hs13
     have BV13:=BV hBV hs13
     have hv13:¬ H4 a1.block:=hs13.disj (G:=(·=a1.block)) (fun b e=>by subst e;exact ⟨hB1.lt,hv1⟩) _ rfl
     have B13:=hB1.ext hs13.ext hv13
     generalize hD:Sp.jCA x pp=D at *
     obtain ⟨dk,df,dt,du,dx,dks⟩:=D
     refine ⟨_,_,_,_,_,sd,B13.row,?_⟩
     intro p8 w23 h8
     have E23:Pure w13 w23:=Ext.new h8
     refine (place (.mk dk df dt du dx dks) sd [1,0] w13 p8 w23 E13 hTd h8 (by simp)).mono ?_
     rintro _ w24 ⟨s1,rfl,_,E24⟩
     generalize hk1:Sp.jCA (.mk dk df dt du dx dks) [1,0]=y1 at *
     obtain ⟨y1k,y1f,y1t,y1u,y1x,y1s⟩:=y1
     refine ⟨_,_,_,_,_,s1,rfl,E24.keptP,?_⟩
     intro w25 hs25
     have E1324:=E23.trans E24
     have B24:=B13.pure E1324
     have hv25:¬ H4 a1.block:=hv13
     have B25:=B24.ext hs25.ext hv25
     refine ⟨_,_,_,_,_,sd,B25.row,?_⟩
     have E25:=(E13.trans E1324).hst hs25
     have BV25:=BV ⟨Bp BV13.1 E1324,BV13.2⟩ hs25
     intro p9 w26 h9
     have E26:Pure w25 w26:=Ext.new h9
     refine (place (.mk dk df dt du dx dks) sd [1,1] w25 p9 w26 E25 hTd h9 (by simp)).mono ?_
     rintro _ w27 ⟨s2,rfl,_,E27⟩
     generalize hk2:Sp.jCA (.mk dk df dt du dx dks) [1,1]=y2 at *
     obtain ⟨y2k,y2f,y2t,y2u,y2x,y2s⟩:=y2
     refine ⟨_,_,_,_,_,s2,rfl,E27.keptP,?_⟩
     intro w28 hs28
     have E2527:=E26.trans E27
     refine J4 y1u y2x H4 w28 hs28.here ((E25.trans E2527).hst hs28) (BV ⟨Bp BV25.1 E2527,BV25.2⟩ hs28) ?_
     rw [hcf]
     unfold Sp.jHB
     simp only [htx',if_true,hD,hk1,hk2]
     rfl
    ·have h7:kd=7:=by simpa using h7
     intro H4 w13 hs13
     have E13:=E.hst hs13
     have BV13:=BV hBV hs13
     intro p10 w29 h10
     have E29:Pure w13 w29:=Ext.new h10
     rw [hxv]
     refine (place x s [1] w13 p10 w29 E13 hT h10 (by simp)).mono ?_
     rintro _ w30 ⟨s1,rfl,_,E30⟩
     generalize hk1:Sp.jCA x [1]=y1 at *
     obtain ⟨y1k,y1f,y1t,y1u,y1x,y1s⟩:=y1
     refine ⟨_,_,_,_,_,s1,rfl,E30.keptP,?_⟩
     intro w31 hs31
     have E1330:=E29.trans E30
     refine J4 y1u ⟨#[]⟩ H4 w31 hs31.here ((E13.trans E1330).hst hs31) (BV ⟨Bp BV13.1 E1330,BV13.2⟩ hs31) ?_
     rw [hcf]
     unfold Sp.jHB
     subst h7
     simp only [hk1]
     rfl
    ·have h7:kd≠7:=by simpa using h7
     have htx':Sp.qB kd=false:=htx
     intro H4 w13 hs13
     have E13:=E.hst hs13
     have BV13:=BV hBV hs13
     intro p11 w32 h11
     have E32:Pure w13 w32:=Ext.new h11
     rw [hxv]
     refine (place x s [0,1] w13 p11 w32 E13 hT h11 (by simp)).mono ?_
     rintro _ w33 ⟨s1,rfl,_,E33⟩
     generalize hk1:Sp.jCA x [0,1]=y1 at *
     obtain ⟨y1k,y1f,y1t,y1u,y1x,y1s⟩:=y1
     refine ⟨_,_,_,_,_,s1,rfl,E33.keptP,?_⟩
     intro w34 hs34
     have E1333:=E32.trans E33
     refine J4 y1u ⟨#[]⟩ H4 w34 hs34.here ((E13.trans E1333).hst hs34) (BV ⟨Bp BV13.1 E1333,BV13.2⟩ hs34) ?_
     rw [hcf]
     unfold Sp.jHB
     have h7b:(kd == 7)=false:=by simpa using h7
     simp only [htx',h7b,hk1,Bool.false_eq_true,if_false]
     rfl
   have Edr:Pure wm wm.drew:=Ext.drew wm
   have Emd:=Em.trans Edr
   have Bmd:=Bp BVm.1 Edr
   refine ⟨fun w'=>B w',Bmd,?_⟩
   rintro _ rfl
   refine ⟨a,hat,sl,fun w' h=>(hcell w' h).1,?_,?_⟩
   ·rw [hxv]
    obtain ⟨_,S2,hL,hS2⟩:=hcell _ Bmd
    refine (jAL x s sl pp wm.drew (tS Emd).1 (tS Emd).2 hL hS2 hppl).mono ?_
    rintro _ w36 ⟨sd,rfl,hTd,E36⟩
    generalize hD:Sp.jCA x pp=D at *
    obtain ⟨dk,df,dt,du,dx,dks⟩:=D
    refine ⟨_,_,_,_,_,sd,rfl,E36.keptP,?_⟩
    intro p12 w37 h12
    have E37:=E36.trans (Ext.new h12)
    have b12:=Box.of_new h12
    have hnh:¬ Hm p12.block:=by intro hh;have:=hm.lt _ hh;have:=h12.at_size;have:=(Edr.trans E36).size;omega
    have B36:=Bp Bmd E36
    have B37:=Bp Bmd E37
    have hTd0:TreeAt S w0 sd (Sp.Tree.mk dk df dt du dx dks):=hTd.back Emd hSw
    refine ⟨B37,b12.canWs (n:=6) (by simp),hnh,?_⟩
    rintro _ rfl
    have E38:=Ext.storeRow w37 p12 [(.int .i64 dk),(.int .i64 df),(.int .i64 dt),(.int .u64 du),(.string dx),sd.v]
    have b38:=b12.store (vs:=[(.int .i64 dk),(.int .i64 df),(.int .i64 dt),(.int .u64 du),(.string dx),sd.v]) rfl
    exact J3 p12 _ sd _ ((hm.again (Edr.trans E37).keptP).again (E38.kept (fun b hb e=>hnh (e▸hb)))) ((Emd.trans E37).own (by have:=h12.at_size;have:=(Emd.trans E36).size;omega) E38) ⟨⟨B37.1.ext E38 (New.ne h12 B36.1.blk),B37.2.1.ext E38 (New.ne h12 B36.2.1.blk),B37.2.2.1.ext E38 (New.ne h12 B36.2.2.1.blk),B37.2.2.2.ext E38 (New.ne h12 B36.2.2.2.blk)⟩,BVm.2⟩ b38 hnh hTd0
   ·rw [hxv]
    intro p13 w39 h13
    have E39:Pure wm.drew w39:=Ext.new h13
    have B39:=Bp Bmd E39
    have Em39:=Emd.trans E39
    have b13:=Box.of_new h13
    have hnh:¬ Hm p13.block:=by intro hh;have:=hm.lt _ hh;have:=h13.at_size;have:=Edr.size;omega
    obtain ⟨_,S2,hL,hS2⟩:=hcell _ B39
    refine ⟨B39,(jAL x s sl pp w39 (tS Em39).1 (tS Em39).2 hL hS2 hppl).mono ?_⟩
    rintro _ w40 ⟨sd,rfl,hTd,E40⟩
    generalize hD:Sp.jCA x pp=D at *
    obtain ⟨dk,df,dt,du,dx,dks⟩:=D
    have hTd0:TreeAt S w0 sd (Sp.Tree.mk dk df dt du dx dks):=hTd.back Em39 hSw
    have B40:=Bp B39 E40
    have b40:=b13.pure E40
    refine ⟨_,_,_,_,_,sd,rfl,E40.keptP,b40.canWs (n:=6) (by simp),hnh,?_⟩
    rintro _ rfl
    have E41:=Ext.storeRow w40 p13 [(.int .i64 dk),(.int .i64 df),(.int .i64 dt),(.int .u64 du),(.string dx),sd.v]
    have b41:=b40.store (vs:=[(.int .i64 dk),(.int .i64 df),(.int .i64 dt),(.int .u64 du),(.string dx),sd.v]) rfl
    exact J3 p13 _ sd _ ((hm.again ((Edr.trans E39).trans E40).keptP).again (E41.kept (fun b hb e=>hnh (e▸hb)))) ((Em39.trans E40).own (by have:=h13.at_size;have:=Emd.size;omega) E41) ⟨⟨B40.1.ext E41 (New.ne h13 Bmd.1.blk),B40.2.1.ext E41 (New.ne h13 Bmd.2.1.blk),B40.2.2.1.ext E41 (New.ne h13 Bmd.2.2.1.blk),B40.2.2.2.ext E41 (New.ne h13 Bmd.2.2.2.blk)⟩,BVm.2⟩ b41 hnh hTd0
  ·have hj3:j=3:=by have:=of_decide_eq_false hc2;simp only at this;omega
   subst hj3
   have:Sp.deals.drop 3=[]:=rfl
   rw [this,Sp.qP] at heqd
   rw [heqd] at heq
   simp only at heq
   have hkw:IntKind.i64.wrap (kd+1)=((q+1:Nat):Int)+1:=by rw [IntWalk.i64_in _ (by omega)];omega
   rw [hkw]
   exact ⟨⟨q+1,rfl,hq7,Em,BVm,by rw [heq];congr 1 <;> omega⟩,by show (8 - _:Int).toNat<(8 - _:Int).toNat;omega⟩
 ·have hq7:q=7:=by have:=of_decide_eq_false hc;omega
  subst hq7
  rw [Nat.sub_self,Sp.yR] at heq
  intro w42 hs42
  exact hK _ _ _ _ _ _ _ ⟨by unfold Sp.qO;rw [heq];rfl,El.hst hs42⟩
theorem jGK (p:Addr) {L:Sp.Pool} (hW:Sp.Wf L) (t:Int) (w0:World) (F:NP) (hP:yA w0 p L F) :
  Calls Tryz.prog 42 #[.pointer (some p),.int .i64 t] w0 (fun e w'=>∃k f c:Int,∃t':ByteArray,∃g r:Bool,e=.returned (.tuple #[.agg #[.int .i64 k,.int .i64 f,.int .u64 c,.string t',.bool g],.bool r])∧(((⟨k,f,c,t',g⟩:Sp.Letter),r)=Sp.xX L t∧Pure w0 w')):=by
 suffices key:∀K:Int→Int→Int→ByteArray→Bool→Bool→WP,(∀k f c t' g r w',(((⟨k,f,c,t',g⟩:Sp.Letter),r)=Sp.xX L t∧Pure w0 w')→K k f c t' g r w')→m_P2 (some p) t w0 K from
  w_P2 _ _ w0 _ (key _ (fun _ _ _ _ _ _ _ h=>h))
 intro K hK
 have hok:=hW.ok
 unfold m_P2
 intro H1 w1 hs1
 have E1:=hs1.first
 refine (uA p t w1 (hP.pure E1)).mono ?_
 rintro _ w2 ⟨r,rfl,hr,rfl⟩
 refine ⟨_,rfl,(Ext.refl _:Pure w2 w2).keptP,fun h=>?_,fun h=>?_⟩
 ·intro w3 hs3
  refine hK _ _ _ _ _ _ _ ⟨?_,E1.hst hs3⟩
  unfold Sp.xX
  rw [if_neg (fun hh=>by rw [hr,hh.1] at h;cases h)]
  rfl
 ·have hin:Sp.inP L t=true:=by rw [← hr];simpa using h
  refine (tN p t w2 (hP.pure E1) hok).mono ?_
  rintro _ w4 ⟨z,rfl,hz,rfl⟩
  refine ⟨_,rfl,(Ext.refl _:Pure w4 w4).keptP,fun h2=>?_,fun h2=>?_⟩
  ·intro w5 hs5
   refine hK _ _ _ _ _ _ _ ⟨?_,E1.hst hs5⟩
   have h2:=of_decide_eq_true h2
   unfold Sp.xX
   rw [if_neg (fun hh=>hh.2 (hz▸h2))]
   rfl
  ·have h2:=of_decide_eq_false h2
   refine (jGN p hW _ t w4 F rfl (hP.pure E1)).mono ?_
   rintro _ w6 ⟨s',rfl,hT,E6⟩
   generalize hD:Sp.vB L t=D at *
   obtain ⟨dk,df,dt,du,dx,dks⟩:=D
   refine ⟨_,_,_,_,_,s',rfl,E6.keptP,?_⟩
   refine (jCB _ s' w6 hT.lt (fun b hb=>hb.2)).mono ?_
   rintro _ w7 ⟨k,f,c,t',g,r,rfl,hrd,E7⟩
   refine ⟨_,_,_,_,_,_,rfl,E7.keptP,?_⟩
   intro w8 hs8
   refine hK _ _ _ _ _ _ _ ⟨?_,((E1.trans E6).trans E7).hst hs8⟩
   unfold Sp.xX
   rw [if_pos ⟨hin,hz▸h2⟩,hD,hrd]
end Go.Proofs
end
section
namespace Go.Sp
theorem jMT {L:Pool} (hW:Wf L):∀(n:Nat) (t:Int),t.toNat=n→inP L t=true→sizeOf L t=cnt (vB L t):=by
 intro n;induction n using Nat.strongRecOn with
 | _ n ih =>
 intro t hn ht;have h:=hW.node ht;rw [uF hW ht,h.2.2.2.2.2.1,cnt];have:∀l:List Int,(∀k∈l,sizeOf L k=cnt (vB L k))→(l.map (sizeOf L)).sum=(cntAll (l.map (vB L)):Int):=by
  intro l;induction l with
  | nil=>intro _;rfl
  | cons a l ihl=>intro hh;simp only [List.map_cons,List.sum_cons,cntAll,hh a (by simp),ihl (fun k hk=>hh k (by simp [hk]))];omega
 rw [this _ (fun k hk=>?_)]
 ·omega
 ·have hk2:=h.2.2.2.2.1 k hk;have:=qJ.1 hk2.1;exact ih k.toNat (by omega) k rfl hk2.1
theorem uQ {L:Pool} {t k:Int} (h:(vC L t k).2=false):inP L t=true∧(zH L t).kind=k∧vC L t k=(zH L t,false):=by
 unfold vC at h ⊢;split at h
 ·rename_i hh;exact ⟨hh.1,hh.2,by rw [if_pos hh]⟩
 ·cases h
theorem uR {L:Pool} {t k:Int} (h:inP L t=true) (hk:(zH L t).kind=k):vC L t k=(zH L t,false):=by unfold vC;rw [if_pos ⟨h,hk⟩]
section
variable {L:Pool} (hW:Wf L) {t:Int} (ht:inP L t=true)
include hW ht
theorem jOU:(zH L t).text.size≤64:=by
 have:=(hW.node ht).2.2.2.1;unfold vJ at this;split at this
 ·cases this
 split at this
 ·cases this
 ·omega
theorem nd3 (hk:(zH L t).kind=3):vB L t=qM (zH L t).text:=by
 have h:=(hW.node ht).1;rw [uF hW ht,hk,qM];have hkk:vD (zH L t)=[]:=by unfold vD;rw [hk];rfl
 rw [hkk];unfold vM at h;rw [hk] at h;simp [shapeOf,isKind] at h;simp [h]
theorem nd2 (hk:(zH L t).kind=2):vB L t=jBE (zH L t).num:=by
 have h:=(hW.node ht).1;rw [uF hW ht,hk,jBE];have hkk:vD (zH L t)=[]:=by unfold vD;rw [hk];rfl
 rw [hkk];unfold vM at h;rw [hk] at h;simp [shapeOf,isKind] at h;simp [h]
theorem nd4 (hk:(zH L t).kind=4):inP L (zH L t).a=true∧inP L (zH L t).b=true∧vB L t=qW (vB L (zH L t).a) (vB L (zH L t).b):=by
 have h:=(hW.node ht).1;have hp:=(hW.node ht).2.2.2.2.1;have hkk:vD (zH L t)=[(zH L t).a,(zH L t).b]:=by unfold vD;rw [hk];rfl
 rw [hkk] at hp;refine ⟨(hp _ (by simp)).1,(hp _ (by simp)).1,?_⟩;rw [uF hW ht,hk,qW,hkk];unfold vM at h;rw [hk] at h;simp [shapeOf,isKind] at h;simp [h]
theorem nd7 (hk:(zH L t).kind=7):inP L (zH L t).a=true∧0≤(zH L t).frm∧vB L t=xG (zH L t).frm (vB L (zH L t).a):=by
 have h:=(hW.node ht).1;have hf:=(hW.node ht).2.2.2.1;have hp:=(hW.node ht).2.2.2.2.1;have hkk:vD (zH L t)=[(zH L t).a]:=by unfold vD;rw [hk];rfl
 rw [hkk] at hp;refine ⟨(hp _ (by simp)).1,?_,?_⟩
 ·unfold vJ at hf;rw [hk] at hf;split at hf
  ·cases hf
  ·rename_i hh;simp [shapeOf,jAD] at hh;omega
 rw [uF hW ht,hk,xG,hkk];unfold vM at h;rw [hk] at h;simp [shapeOf,isKind] at h;simp [h]
theorem nd89 (hk:(zH L t).kind=8∨(zH L t).kind=9):inP L (zH L t).a=true∧0≤(zH L t).frm∧(zH L t).frm<16∧((zH L t).to=1 - (zH L t).frm→vB L t=yT (zH L t).frm (vB L (zH L t).a) ((zH L t).kind == 9)):=by
 have h:=(hW.node ht).1;have hf:=(hW.node ht).2.2.2.1;have hp:=(hW.node ht).2.2.2.2.1;have hkk:vD (zH L t)=[(zH L t).a]:=by unfold vD;rcases hk with hk | hk <;> (rw [hk];rfl)
 rw [hkk] at hp;have hff:0≤(zH L t).frm∧(zH L t).frm<16:=by
  unfold vJ at hf;rcases hk with hk | hk <;>
  ·rw [hk] at hf;split at hf
   ·cases hf
   ·rename_i hh;simp [shapeOf,jAD] at hh;omega
 refine ⟨(hp _ (by simp)).1,hff.1,hff.2,fun hto=>?_⟩;rw [uF hW ht,yT,hkk,← hto];unfold vM at h;rcases hk with hk | hk <;>
 ·rw [hk] at h ⊢;simp [shapeOf,isKind] at h;simp [h]
theorem uS {k f t' u:Int} {x:ByteArray} {ks:List Tree} (h:vB L t=.mk k f t' u x ks):(zH L t).kind=k∧(zH L t).frm=f∧(zH L t).to=t'∧(zH L t).num=u∧(zH L t).text=x:=by
 rw [uF hW ht] at h;injection h with h1 h2 h3 h4 h5 h6;exact ⟨h1,h2,h3,h4,h5⟩
end
theorem jDW {n:Int} (h:0≤n∧n<16):IntKind.i64.wrap (1 - n)=1 - n:=IntWalk.i64_in _ (by omega)
section
variable {L:Pool} (hW:Wf L) {t:Int}
include hW
theorem yZ (h:(zW L t).2=false):inP L t=true∧inP L (zW L t).1.2=true∧vB L t=qW (qM (zW L t).1.1) (vB L (zW L t).1.2):=by
 unfold zW at h ⊢;simp only [Bool.or_eq_false_iff] at h;obtain ⟨ht,hk,e1⟩:=uQ h.1;rw [e1] at h ⊢;simp only at h ⊢;obtain ⟨ha,hka,e2⟩:=uQ h.2;rw [e2];obtain ⟨_,h2,h3⟩:=nd4 hW ht hk;exact ⟨ht,h2,by rw [h3,nd3 hW ha hka]⟩
theorem jAH (ht:inP L t=true) {g:ByteArray} {y:Tree} (h:vB L t=qW (qM g) y):∃n,zW L t=((g,n),false)∧inP L n=true∧vB L n=y:=by
 have hk:=(uS hW ht (h.trans rfl)).1;obtain ⟨h1,h2,h3⟩:=nd4 hW ht hk;rw [h] at h3;have e1:qM g=vB L (zH L t).a:=by simpa [qW] using (Tree.mk.inj h3).2.2.2.2.2 |> fun e=>(List.cons.inj e).1
 have e2:y=vB L (zH L t).b:=by have:=(Tree.mk.inj h3).2.2.2.2.2;exact (List.cons.inj (List.cons.inj this).2).1
 have hka:=uS hW h1 (e1.symm.trans rfl);refine ⟨(zH L t).b,?_,h2,e2.symm⟩;unfold zW;rw [uR ht hk];simp only;rw [uR h1 hka.1];simp [hka.2.2.2.2]
theorem jDA (h:(vX L t).2=false):inP L t=true∧vB L t=qH (vX L t).1.1 (vX L t).1.2∧(vX L t).1.2.size≤64:=by
 unfold vX at h ⊢;simp only [Bool.or_eq_false_iff,Bool.not_eq_false',decide_eq_true_eq] at h;obtain ⟨⟨⟨⟨h1,h2⟩,h3⟩,h4⟩,h5⟩:=h;obtain ⟨ht,_,e⟩:=yZ hW h1;obtain ⟨hp,hpk,e2⟩:=uQ h2;simp only at h3 ⊢;rw [e2] at h4 h5 ⊢;simp only at h4 h5 ⊢;obtain ⟨ha,hak,e4⟩:=uQ h4;obtain ⟨hb,hbk,e5⟩:=uQ h5;rw [e4,e5];refine ⟨ht,?_,jOU hW hb⟩;rw [e,h3,(nd4 hW hp hpk).2.2,nd2 hW ha hak,nd3 hW hb hbk];rfl
theorem jDB (ht:inP L t=true) {c:Int} {x:ByteArray} (h:vB L t=qH c x):vX L t=((c,x),false):=by
 obtain ⟨n,e1,hn,e⟩:=jAH hW ht h;have hk:=(uS hW hn (e.trans rfl)).1;obtain ⟨h1,h2,h3⟩:=nd4 hW hn hk;rw [e] at h3;have q1:jBE c=vB L (zH L n).a:=(List.cons.inj (Tree.mk.inj h3).2.2.2.2.2).1;have q2:qM x=vB L (zH L n).b:=(List.cons.inj (List.cons.inj (Tree.mk.inj h3).2.2.2.2.2).2).1;have k1:=uS hW h1 (q1.symm.trans rfl);have k2:=uS hW h2 (q2.symm.trans rfl);unfold vX;rw [e1];simp only;rw [uR hn hk];simp only;rw [uR h1 k1.1,uR h2 k2.1];simp [k1.2.2.2.1,k2.2.2.2.2]
theorem jEW (ht:inP L t=true) {c:Int} (h:vB L t=jBE c):(vC L t 2).1.num=c∧(vC L t 2).2=false:=by
 have k:=uS hW ht (h.trans rfl);rw [uR ht k.1];exact ⟨k.2.2.2.1,rfl⟩
theorem jEV (h:(vC L t 2).2=false):inP L t=true∧vB L t=jBE (vC L t 2).1.num:=by
 obtain ⟨h1,h2,e⟩:=uQ h;rw [e];exact ⟨h1,nd2 hW h1 h2⟩
theorem tK (ht:inP L t=true) (h:(zV L t).2=false):(zV L t).1.kind=1∧((zV L t).1.frm=0∨(zV L t).1.frm=1)∧vB L t=yT (zV L t).1.frm (qH (zV L t).1.c (zV L t).1.text) (zV L t).1.fake∧(zV L t).1.text.size≤64:=by
 unfold zV at h ⊢;simp only at h ⊢;split at h
 ·cases h
 rename_i hh;rw [if_neg hh];simp only [not_or,not_and,Classical.not_not] at hh;have hk:(zH L t).kind=8∨(zH L t).kind=9:=by
  by_cases h8:(zH L t).kind=8
  ·exact .inl h8
  ·exact .inr (hh.1 h8)
 obtain ⟨ha,h0,h16,hT⟩:=nd89 hW ht hk;have hto:=hh.2.2;rw [jDW ⟨h0,h16⟩] at hto;obtain ⟨_,e,hx⟩:=jDA hW h;simp only;refine ⟨trivial,by have:=hh.2.1;omega,by rw [hT hto,e],hx⟩
theorem tL (ht:inP L t=true) {n c:Int} {x:ByteArray} {g:Bool} (hn:n=0∨n=1) (h:vB L t=yT n (qH c x) g):zV L t=(⟨1,n,c,x,g⟩,false):=by
 have k:=uS hW ht (h.trans rfl);have hk:(zH L t).kind=8∨(zH L t).kind=9:=by rw [k.1];cases g <;> simp
 obtain ⟨ha,h0,h16,hT⟩:=nd89 hW ht hk;have:=hT (by rw [k.2.2.1,k.2.1]);rw [h,k.2.1] at this;have q1:qH c x=vB L (zH L t).a:=(List.cons.inj (Tree.mk.inj this).2.2.2.2.2).1;unfold zV;simp only;rw [if_neg,jDB hW ha q1.symm,k.1,k.2.1]
 ·cases g <;> rfl
 ·simp only [not_or,not_and,Classical.not_not];refine ⟨fun h8=>hk.resolve_left h8,by rw [k.2.1];omega,?_⟩;rw [k.2.2.1,jDW ⟨h0,h16⟩,k.2.1]
end
def IsL (x:Tree) (l:Letter):Prop:=qR l=0∧∃a b:Bool,(l.kind=4→l.fake=(a || b))∧x=vZ l a b
theorem jED {k f c:Int} {x:ByteArray} {g:Bool} (h:qR ⟨k,f,c,x,g⟩=0):(k=1∨k=2∨k=3∨k=4∨k=5∨k=6∨k=7)∧(f=0∨f=1)∧(vU k=false→f=0)∧(qB k=false→x=⟨#[]⟩)∧(g=true→k=1∨k=4)∧x.size≤64:=by
 unfold qR at h;simp only at h;split at h
 ·cases h
 rename_i hh;split at h
 ·cases h
 simp only [not_or,not_and,Classical.not_not] at hh;obtain ⟨h1,h2,h3,h4,h5,h6⟩:=hh;refine ⟨by omega,?_,h4,h5,?_,by omega⟩
 ·by_cases h0:f=0
  ·exact .inl h0
  ·exact .inr (h3 h0)
 ·intro hg;by_cases h1:k=1
  ·exact .inl h1
  ·exact .inr (h6 hg h1)
theorem uT {k f c:Int} {x:ByteArray} {g:Bool} (hk:1≤k∧k≤7) (hf:f=0∨f=1) (h1:vU k=false→f=0) (h2:qB k=false→x=⟨#[]⟩) (h3:g=true→k=1∨k=4) (hx:x.size≤64):qR ⟨k,f,c,x,g⟩=0:=by
 unfold qR;simp only;rw [if_neg,if_neg (by omega)];simp only [not_or,not_and,Classical.not_not];refine ⟨by omega,by omega,fun h0=>hf.resolve_left h0,h1,h2,fun hg h1=>(h3 hg).resolve_left h1⟩
section
variable {L:Pool} (hW:Wf L) {t:Int}
include hW
theorem jFR {who:Int} (h:(vW L who t).2=false):∃c x a b,(vW L who t).1=⟨4,who,c,x,a || b⟩∧x.size≤64∧vB L t=qW (yT 0 (qH c x) a) (yT 1 (qH c x) b):=by
 unfold vW at h ⊢;simp only [Bool.or_eq_false_iff,Bool.not_eq_false',decide_eq_true_eq,bne_eq_false_iff_eq] at h;obtain ⟨⟨⟨⟨⟨⟨h1,h2⟩,h3⟩,h4⟩,h5⟩,h6⟩,h7⟩:=h;obtain ⟨ht,hk,e⟩:=uQ h1;simp only;rw [e] at h2 h3 h4 h5 h6 h7 ⊢;simp only at h2 h3 h4 h5 h6 h7 ⊢;obtain ⟨ha,hb,hT⟩:=nd4 hW ht hk;obtain ⟨_,_,ea,hx⟩:=tK hW ha h2;obtain ⟨_,_,eb,_⟩:=tK hW hb h3;refine ⟨_,_,_,_,rfl,hx,?_⟩;rw [hT,ea,eb,h4,h5,h6,h7]
theorem jFS (ht:inP L t=true) {who c:Int} {x:ByteArray} {a b:Bool} (h:vB L t=qW (yT 0 (qH c x) a) (yT 1 (qH c x) b)):vW L who t=(⟨4,who,c,x,a || b⟩,false):=by
 have hk:=(uS hW ht (h.trans rfl)).1;obtain ⟨h1,h2,h3⟩:=nd4 hW ht hk;rw [h] at h3;have q1:=(List.cons.inj (Tree.mk.inj h3).2.2.2.2.2).1;have q2:=(List.cons.inj (List.cons.inj (Tree.mk.inj h3).2.2.2.2.2).2).1;unfold vW;simp only;rw [uR ht hk];simp only;rw [tL hW h1 (.inl rfl) q1.symm,tL hW h2 (.inr rfl) q2.symm];simp
theorem jHN {who:Int} (hw:0≤who) (h:(qD L who t).2=false):IsL (xG who (vB L t)) (qD L who t).1:=by
 unfold qD at h ⊢;simp only at h ⊢;by_cases c1:(zW L t).1.1=uK∧who=0
 ·rw [if_pos c1] at h ⊢;simp only [Bool.or_eq_false_iff] at h;obtain ⟨ht,hn,e⟩:=yZ hW h.1;show IsL _ ⟨3,0,_,⟨#[]⟩,false⟩;refine ⟨uT (by omega) (.inl rfl) (fun _=>rfl) (fun _=>rfl) (fun h=>nomatch h) (Nat.zero_le _),false,false,by simp,?_⟩;rw [e,c1.1,c1.2,(jEV hW h.2).2];rfl
 rw [if_neg c1] at h ⊢;by_cases c2:(zW L t).1.1=qT∧who=2
 ·rw [if_pos c2] at h ⊢;simp only [Bool.or_eq_false_iff] at h;obtain ⟨ht,hn,e⟩:=yZ hW h.1;show IsL _ ⟨5,0,_,⟨#[]⟩,false⟩;refine ⟨uT (by omega) (.inl rfl) (fun _=>rfl) (fun _=>rfl) (fun h=>nomatch h) (Nat.zero_le _),false,false,by simp,?_⟩;rw [e,c2.1,c2.2,(jEV hW h.2).2];rfl
 rw [if_neg c2] at h ⊢;by_cases c3:(zW L t).1.1=yC∧who=2
 ·rw [if_pos c3] at h ⊢;simp only [Bool.or_eq_false_iff] at h;obtain ⟨ht,hn,e⟩:=yZ hW h.1;obtain ⟨_,e2,hx⟩:=jDA hW h.2;refine ⟨uT (by omega) (.inl rfl) (fun _=>rfl) (by simp [qB]) (by simp) hx,false,false,by simp,?_⟩;rw [e,c3.1,c3.2,e2];rfl
 rw [if_neg c3] at h ⊢;by_cases c4:(zW L t).1.1=jAG∧who≤1
 ·rw [if_pos c4] at h ⊢;simp only [Bool.or_eq_false_iff] at h;obtain ⟨_,e2,hx⟩:=jDA hW h.2;refine ⟨uT (by omega) (by omega) (by simp [vU]) (by simp [qB,vU]) (by simp) hx,false,false,by simp,?_⟩;rw [e2];rfl
 rw [if_neg c4] at h ⊢;by_cases c5:(zW L t).1.1=yB∧who≤1
 ·rw [if_pos c5] at h ⊢;simp only [Bool.or_eq_false_iff] at h;obtain ⟨ht,hn,e⟩:=yZ hW h.1;obtain ⟨c,x,a,b,e2,hx,e3⟩:=jFR hW h.2;rw [e2];refine ⟨uT (by omega) (by omega) (by simp [vU]) (by simp [qB,vU]) (by simp) hx,a,b,by simp,?_⟩;rw [e,c5.1,e3];cases a <;> cases b <;> rfl
 rw [if_neg c5] at h;cases h
theorem jNA (ht:inP L t=true) (h:(xH L t).2=false):IsL (vB L t) (xH L t).1:=by
 unfold xH at h ⊢;simp only at h ⊢;by_cases c1:(zH L t).kind=7
 ·rw [if_pos c1] at h ⊢;obtain ⟨h1,h2,h3⟩:=nd7 hW ht c1;rw [h3];exact jHN hW h2 h
 rw [if_neg c1] at h ⊢;by_cases c2:(zH L t).kind=8∨(zH L t).kind=9
 ·rw [if_pos c2] at h ⊢;obtain ⟨h1,h2,h3,h4⟩:=tK hW ht h;generalize zV L t=r at *;obtain ⟨⟨k,f,c,x,g⟩,b⟩:=r;simp only at h1 h2 h3 h4 ⊢;subst h1;exact ⟨uT (by omega) h2 (by simp [vU]) (by simp [qB,vU]) (by simp) h4,false,false,by simp,h3⟩
 rw [if_neg c2] at h ⊢;split at h
 ·cases h
 rename_i c3;rw [if_neg c3];simp only [Bool.or_eq_true,Bool.not_eq_true',decide_eq_false_iff_not,not_or,Classical.not_not,Bool.not_eq_true] at c3;obtain ⟨_,hn,e⟩:=yZ hW c3.1;show IsL _ ⟨7,0,_,⟨#[]⟩,false⟩;refine ⟨uT (by omega) (.inl rfl) (fun _=>rfl) (fun _=>rfl) (fun h=>nomatch h) (Nat.zero_le _),false,false,by simp,?_⟩;rw [e,c3.2,(jEV hW h).2];rfl
theorem jIR (ht:inP L t=true) {l:Letter} (h:IsL (vB L t) l):xH L t=(l,false):=by
 obtain ⟨k,f,c,x,g⟩:=l;obtain ⟨h1,a,b,h4,hT⟩:=h;obtain ⟨hk,hf,hs,hx,hg,_⟩:=jED h1;have tagged:∀{who:Int} {gg:ByteArray} {y:Tree},vB L t=xG who (qW (qM gg) y)→(zH L t).kind=7∧(zH L t).frm=who∧inP L (zH L t).a=true∧vB L (zH L t).a=qW (qM gg) y∧∃n,zW L (zH L t).a=((gg,n),false)∧inP L n=true∧vB L n=y:=by
  intro who gg y e;have k:=uS hW ht (e.trans rfl);obtain ⟨q1,_,q3⟩:=nd7 hW ht k.1;rw [e] at q3;have q:=(List.cons.inj (Tree.mk.inj q3).2.2.2.2.2).1;exact ⟨k.1,k.2.1,q1,q.symm,jAH hW q1 q.symm⟩
 rcases hk with rfl | rfl | rfl | rfl | rfl | rfl | rfl
 ·have e:vB L t=yT f (qH c x) g:=hT;have k:=uS hW ht (e.trans rfl);unfold xH;simp only;rw [if_neg (by rw [k.1];cases g <;> decide),if_pos (by rw [k.1];cases g <;> decide),tL hW ht hf e]
 ·have e:vB L t=xG f (qH c x):=hT;have:g=false:=by cases g with
   | false=>rfl
   | true=>exact absurd (hg rfl) (by omega)
  subst this;obtain ⟨k,kf,h1,h2,n,e1,hn,e2⟩:=tagged e;unfold xH qD;simp only;rw [if_pos k,e1,kf];simp only;rw [if_neg (fun q=>absurd q.1 (by decide)),if_neg (fun q=>absurd q.1 (by decide)),if_neg (fun q=>absurd q.1 (by decide)),if_pos ⟨trivial,by omega⟩,jDB hW h1 h2];rfl
 ·obtain rfl:f=0:=hs rfl;obtain rfl:x=⟨#[]⟩:=hx rfl;have:g=false:=by cases g with
   | false=>rfl
   | true=>exact absurd (hg rfl) (by omega)
  subst this;have e:vB L t=xG 0 (qW (qM uK) (jBE c)):=hT;obtain ⟨k,kf,h1,h2,n,e1,hn,e2⟩:=tagged e;obtain ⟨u1,u2⟩:=jEW hW hn e2;unfold xH qD;simp only;rw [if_pos k,e1,kf];simp only;rw [if_pos ⟨trivial,trivial⟩,u1,u2];rfl
 ·have e:vB L t=xG f (qW (qM yB) (qW (yT 0 (qH c x) (g && a)) (yT 1 (qH c x) (g && b)))):=hT;obtain ⟨k,kf,h1,h2,n,e1,hn,e2⟩:=tagged e;have hgg:((g && a) || (g && b))=g:=by
   have:=h4 rfl;simp only at this;subst this;cases a <;> cases b <;> rfl
  unfold xH qD;simp only;rw [if_pos k,e1,kf];simp only;rw [if_neg (fun q=>absurd q.1 (by decide)),if_neg (fun q=>absurd q.1 (by decide)),if_neg (fun q=>absurd q.1 (by decide)),if_neg (fun q=>absurd q.1 (by decide)),if_pos ⟨trivial,by omega⟩,jFS hW hn e2,hgg];rfl
 ·obtain rfl:f=0:=hs rfl;obtain rfl:x=⟨#[]⟩:=hx rfl;have:g=false:=by cases g with
   | false=>rfl
   | true=>exact absurd (hg rfl) (by omega)
  subst this;have e:vB L t=xG 2 (qW (qM qT) (jBE c)):=hT;obtain ⟨k,kf,h1,h2,n,e1,hn,e2⟩:=tagged e;obtain ⟨u1,u2⟩:=jEW hW hn e2;unfold xH qD;simp only;rw [if_pos k,e1,kf];simp only;rw [if_neg (fun q=>absurd q.1 (by decide)),if_pos ⟨trivial,trivial⟩,u1,u2];rfl
 ·obtain rfl:f=0:=hs rfl;have:g=false:=by cases g with
   | false=>rfl
   | true=>exact absurd (hg rfl) (by omega)
  subst this;have e:vB L t=xG 2 (qW (qM yC) (qH c x)):=hT;obtain ⟨k,kf,h1,h2,n,e1,hn,e2⟩:=tagged e;unfold xH qD;simp only;rw [if_pos k,e1,kf];simp only;rw [if_neg (fun q=>absurd q.1 (by decide)),if_neg (fun q=>absurd q.1 (by decide)),if_pos ⟨trivial,trivial⟩,jDB hW hn e2];rfl
 ·obtain rfl:f=0:=hs rfl;obtain rfl:x=⟨#[]⟩:=hx rfl;have:g=false:=by cases g with
   | false=>rfl
   | true=>exact absurd (hg rfl) (by omega)
  subst this;have e:vB L t=qW (qM jFI) (jBE c):=hT;have k:=uS hW ht (e.trans rfl);obtain ⟨n,e1,hn,e2⟩:=jAH hW ht e;obtain ⟨u1,u2⟩:=jEW hW hn e2;unfold xH;simp only;rw [if_neg (by rw [k.1];decide),if_neg (by rw [k.1];decide),e1];simp only;rw [if_neg (by simp),u1,u2]
end
theorem jJS (l:Letter) (a b:Bool):cnt (vZ l a b)≤40:=by
 unfold vZ;simp only [yT,qH,xG,qW,qM,jBE];split
 ·simp [cnt,cntAll]
 split
 ·simp [cnt,cntAll]
 split
 ·simp [cnt,cntAll]
 split
 ·simp [cnt,cntAll]
 split
 ·simp [cnt,cntAll]
 split
 ·simp [cnt,cntAll]
 ·simp [cnt,cntAll]
theorem jAS {x:Tree} {l:Letter}:∀{n i:Nat} {l':Letter},yF x l n i=some l'→∃f,i≤f∧f<i+n∧jFF x l f=true∧l'=yV l f
 | 0,i,l',h=>by cases h
 | n+1,i,l',h=>by
  unfold yF at h;split at h
  ·rename_i hf;cases h;exact ⟨i,by omega,by omega,hf,rfl⟩
  ·obtain ⟨f,h1,h2,h3,h4⟩:=jAS h;exact ⟨f,by omega,by omega,h3,h4⟩
theorem jCN {x:Tree} {l:Letter} {f:Nat} (hf:jFF x l f=true):∀{n i:Nat},i≤f→f<i+n→yF x l n i≠none
 | 0,i,h1,h2=>by omega
 | n+1,i,h1,h2=>by
  unfold yF;split
  ·simp
  ·rename_i h;by_cases e:i=f
   ·subst e;exact absurd hf h
   ·exact jCN hf (by omega) (by omega)
theorem jAT {x:Tree} {k:Int}:∀{ps:List (List Nat)} {l:Letter},qP x k ps=some l→∃p∈ps,∃f,f<4∧jFF x (jHB x k p) f=true∧l=yV (jHB x k p) f
 | [],l,h=>by cases h
 | p :: ps,l,h=>by
  unfold qP at h;split at h
  ·rename_i l' he;cases h;obtain ⟨f,_,h2,h3,h4⟩:=jAS he;exact ⟨p,by simp,f,by omega,h3,h4⟩
  ·obtain ⟨p',h1,h2⟩:=jAT h;exact ⟨p',by simp [h1],h2⟩
theorem jCO {x:Tree} {k:Int} {p:List Nat} {f:Nat} (hf:f<4) (h:jFF x (jHB x k p) f=true):∀{ps:List (List Nat)},p∈ps→qP x k ps≠none
 | [],hp=>by cases hp
 | q :: ps,hp=>by
  unfold qP;split
  ·simp
  ·rename_i he;rcases List.mem_cons.1 hp with e | e
   ·subst e;exact absurd he (jCN h (Nat.zero_le _) (by omega))
   ·exact jCO hf h e
theorem jAR {x:Tree}:∀{n:Nat} {i:Int} {l:Letter},yR x n i=some l→∃k p f,i≤k∧k<i+n∧f<4∧jFF x (jHB x k p) f=true∧l=yV (jHB x k p) f
 | 0,i,l,h=>by cases h
 | n+1,i,l,h=>by
  unfold yR at h;split at h
  ·rename_i l' he;cases h;obtain ⟨p,_,f,h1,h2,h3⟩:=jAT he;exact ⟨i,p,f,by omega,by omega,h1,h2,h3⟩
  ·obtain ⟨k,p,f,h1,h2,h3⟩:=jAR h;exact ⟨k,p,f,by omega,by omega,h3⟩
theorem jCM {x:Tree} {k:Int} {p:List Nat} {f:Nat} (hp:p∈deals) (hf:f<4) (h:jFF x (jHB x k p) f=true):∀{n:Nat} {i:Int},i≤k→k<i+n→yR x n i≠none
 | 0,i,h1,h2=>by omega
 | n+1,i,h1,h2=>by
  unfold yR;split
  ·simp
  ·rename_i he;by_cases e:i=k
   ·subst e;exact absurd he (jCO hf h hp)
   ·exact jCM hp hf h (by omega) (by omega)
theorem jPA {x:Tree} {l:Letter} {f:Nat} (hf:f<4) (h:jFF x l f=true):IsL x (yV l f):=by
 unfold jFF at h;simp only [Bool.and_eq_true,decide_eq_true_eq] at h;obtain ⟨⟨h1,h2⟩,h3⟩:=h;refine ⟨h1,f % 2 == 1,f / 2 == 1,fun _=>?_,((jIN _ _).1 h3).symm⟩;have:f=0∨f=1∨f=2∨f=3:=by omega
 rcases this with rfl | rfl | rfl | rfl <;> rfl
theorem jCY {x:Tree} {l:Letter} (h:qO x=(l,true)):IsL x l:=by
 unfold qO at h;split at h
 ·rename_i l' he;cases h;obtain ⟨k,p,f,_,_,h1,h2,rfl⟩:=jAR he;exact jPA h1 h2
 ·cases h
theorem jCZ {x:Tree} (h:(qO x).2=false):qO x=(yN,false)∧yR x 7 1=none:=by
 unfold qO at h ⊢;split at h
 ·cases h
 ·rename_i he;simp only [he];exact ⟨trivial,trivial⟩
theorem jPB {x:Tree} {l l0:Letter} {f:Nat} (hl:qR l=0) (h1:yV l0 f=l) (h2:l0.kind=4∨f≠2) (h3:vZ l (f % 2 == 1) (f / 2 == 1)=x):jFF x l0 f=true:=by
 unfold jFF;rw [h1,(jIN _ _).2 h3];simp [hl];exact h2
theorem jHM {x:Tree} {l:Letter} (h:IsL x l):(qO x).2=true:=by
 cases hr:(qO x).2 with
 | true=>rfl
 | false =>
  exfalso
  have hno:=(jCZ hr).2
  obtain ⟨k,f,c,tx,g⟩:=l
  obtain ⟨h1,a,b,h4,hT⟩:=h
  obtain ⟨hk,hf,hs,hx,hg,_⟩:=jED h1
  have go:∀(p:List Nat) (fk:Nat),p∈deals→fk<4→yV (jHB x k p) fk=⟨k,f,c,tx,g⟩→(k=4∨fk≠2)→vZ ⟨k,f,c,tx,g⟩ (fk % 2 == 1) (fk / 2 == 1)=x→False:=by
   intro p fk hp hfk e1 e2 e3;exact jCM (x:=x) (k:=k) hp hfk (jPB h1 e1 (by simpa [jHB] using e2) e3) (n:=7) (i:=1) (by omega) (by omega) hno
  have nog:k≠1→k≠4→g=false:=by
   intro n1 n4;cases g with
   | false=>rfl
   | true=>exact absurd (hg rfl) (by omega)
  rcases hk with rfl | rfl | rfl | rfl | rfl | rfl | rfl
  ·subst hT
   cases g with
   | false=>exact go [0] 0 (by simp [deals]) (by omega) rfl (by omega) rfl
   | true=>exact go [0] 1 (by simp [deals]) (by omega) rfl (by omega) rfl
  ·obtain rfl:=nog (by omega) (by omega)
   subst hT
   exact go [0] 0 (by simp [deals]) (by omega) rfl (by omega) rfl
  ·obtain rfl:=nog (by omega) (by omega)
   obtain rfl:f=0:=hs rfl
   obtain rfl:tx=⟨#[]⟩:=hx rfl
   subst hT
   exact go [0] 0 (by simp [deals]) (by omega) rfl (by omega) rfl
  ·have:=h4 rfl
   simp only at this
   subst this
   subst hT
   cases a <;> cases b
   ·exact go [0,1,0,0] 0 (by simp [deals]) (by omega) rfl (by omega) rfl
   ·exact go [0,1,0,0] 2 (by simp [deals]) (by omega) rfl (by omega) rfl
   ·exact go [0,1,0,0] 1 (by simp [deals]) (by omega) rfl (by omega) rfl
   ·exact go [0,1,0,0] 3 (by simp [deals]) (by omega) rfl (by omega) rfl
  ·obtain rfl:=nog (by omega) (by omega)
   obtain rfl:f=0:=hs rfl
   obtain rfl:tx=⟨#[]⟩:=hx rfl
   subst hT
   exact go [0] 0 (by simp [deals]) (by omega) rfl (by omega) rfl
  ·obtain rfl:=nog (by omega) (by omega)
   obtain rfl:f=0:=hs rfl
   subst hT
   exact go [0,1] 0 (by simp [deals]) (by omega) rfl (by omega) rfl
  ·obtain rfl:=nog (by omega) (by omega)
   obtain rfl:f=0:=hs rfl
   obtain rfl:tx=⟨#[]⟩:=hx rfl
   subst hT
   exact go [0] 0 (by simp [deals]) (by omega) rfl (by omega) rfl
theorem jMZ {L:Pool} {t:Int} (h:inP L t=false):tJ L t=(yN,false):=by
 have e:zH L t=jBT:=by simp [zH,uB h]
 have e2:zW L t=((⟨#[]⟩,0),true)∨(zW L t).2=true:=by
  right;unfold zW;have:vC L t 4=(jBT,true):=by unfold vC;rw [if_neg (by rw [h];simp)]
  rw [this];rfl
 have e3:(zW L t).2=true:=by rcases e2 with e2 | e2 <;> simp [e2]
 have:(xH L t).2=true:=by
  unfold xH;simp only;rw [e,if_neg (by decide),if_neg (by decide),if_pos (by simp [e3])]
 unfold tJ;rw [if_pos this]
theorem jMY {L:Pool} (hW:Wf L) (t:Int):tJ L t=xX L t:=by
 cases hi:inP L t with
 | false =>
  rw [jMZ hi]
  unfold xX
  rw [if_neg (by simp [hi])]
 | true =>
  have hsz:=jMT hW _ t rfl hi
  cases hq:(xH L t).2 with
  | false =>
   have h:=jNA hW hi hq
   have hle:¬ sizeOf L t>40:=by
    obtain ⟨_,a,b,_,e⟩:=h;have:=jJS (xH L t).1 a b;rw [← e] at this;omega
   have hr:=jHM h
   have e:qO (vB L t)=((qO (vB L t)).1,true):=Prod.ext rfl hr
   have:=jIR hW hi (jCY e)
   unfold tJ xX
   rw [if_neg (by simp [hq]),if_pos ⟨hi,hle⟩,e,this]
  | true =>
   unfold tJ
   rw [if_pos hq]
   unfold xX
   split
   ·cases hr:(qO (vB L t)).2 with
    | false=>exact (jCZ hr).1.symm
    | true =>
     have e:qO (vB L t)=((qO (vB L t)).1,true):=Prod.ext rfl hr
     have:=jIR hW hi (jCY e)
     rw [this] at hq;cases hq
   ·rfl
end Go.Sp
end
section
open Go Go.SE
namespace Go.Sp
end Go.Sp
namespace Go.Proofs
attribute [local irreducible] Calls
end Go.Proofs
end
section
open Go Go.SE
namespace Go.Sp
def uL (L:Pool) (who t:Int):Bool:=(tJ L t).2 && (((tJ L t).1.kind == 2 && (tJ L t).1.frm == who) || (tJ L t).1.kind == 6)
def jDV (L:Pool) (who t:Int):Fact:=⟨2,who,(tJ L t).1.c,(tJ L t).1.text⟩
theorem jGX {L:Pool} {who t:Int} (hw:who=0∨who=1) (h:uL L who t=true):jDV L who t∈ofS L t:=by
 unfold uL at h;unfold jDV ofS ofR;generalize tJ L t=r at *;obtain ⟨⟨k,f,c,x,g⟩,ok⟩:=r;simp only [Bool.and_eq_true,Bool.or_eq_true,beq_iff_eq] at h ⊢;obtain ⟨rfl,h⟩:=h;rw [if_pos rfl];rcases h with ⟨rfl,rfl⟩ | rfl
 ·simp [qZ,Letter.fact]
 ·rcases hw with rfl | rfl <;> simp [qZ,Letter.fact]
theorem jKB {L:Pool} {who t:Int} {y:Fact} (h:y∈ofS L t) (hk:y.kind=2) (hw:y.who=who):uL L who t=true∧y=jDV L who t:=by
 unfold ofS ofR at h;unfold uL jDV;generalize tJ L t=r at *;obtain ⟨⟨k,f,c,x,g⟩,ok⟩:=r;obtain ⟨yk,yw,yc,yx⟩:=y;simp only at hk hw h ⊢;subst hk;subst hw;cases ok with
 | false=>simp at h
 | true =>
  rw [if_pos rfl] at h
  unfold qZ at h
  simp only [Letter.fact] at h
  split at h
  ·split at h <;> simp at h
  ·split at h
   ·rename_i h2;subst h2;simp at h;simp [h]
   ·split at h
    ·simp at h
    ·split at h
     ·split at h <;> simp at h
     ·split at h
      ·simp at h
      ·split at h
       ·rename_i h6;subst h6;simp at h;rcases h with h | h <;> simp [h]
       ·simp at h
theorem LtF.nodup {l:List Fact} (h:l.Pairwise LtF):l.Nodup:=h.imp fun h e=>by subst e;exact h.irrefl _
theorem jMI {L:Pool} {G y:List Int} {fa:List Fact} {who:Int} (hw:who=0∨who=1) (hA:jIF L G fa) (hy:∀t,Seen L G t→t∈y) (hy':∀t∈y,Seen L G t) :
  (qE who fa).length≤(y.filter (uL L who)).length∧((y.filter (uL L who)).length=0↔(qE who fa).length=0):=by
 have hnd:(qE who fa).Nodup:=(LtF.nodup hA.1).filter _
 have hsub:∀x∈qE who fa,x∈(y.filter (uL L who)).map (jDV L who):=fun x hx=>by
  unfold qE at hx;obtain ⟨hx,hk⟩:=List.mem_filter.1 hx;rw [Bool.and_eq_true,beq_iff_eq,beq_iff_eq] at hk;obtain ⟨t,ht,hx⟩:=(hA.2 x).1 hx;obtain ⟨h1,h2⟩:=jKB hx hk.1 hk.2;exact List.mem_map.2 ⟨t,List.mem_filter.2 ⟨hy t ht,h1⟩,h2.symm⟩
 have hle:=jDF hnd hsub
 rw [List.length_map] at hle
 refine ⟨hle,fun h=>by omega,fun h=>?_⟩
 have hb:qE who fa=[]:=List.length_eq_zero_iff.1 h
 rw [List.length_eq_zero_iff,List.filter_eq_nil_iff]
 intro t ht hp
 have:jDV L who t∈qE who fa:=by
  unfold qE;exact List.mem_filter.2 ⟨(hA.2 _).2 ⟨t,hy' t ht,jGX hw hp⟩,by simp [jDV]⟩
 rw [hb] at this;cases this
end Go.Sp
namespace Go.Proofs
attribute [local irreducible] Calls
theorem tO {S S1:NP} (ts:List Sp.Tree) (l:List Int) (s sl:Sl) (w0:World) (hT:TreeAt S w0 s (.mk 0 0 0 0 ⟨#[]⟩ ts)) (hS:∀b,S b→b<w0.heap.size)
  (hl:Lst S1 w0 1 sl (tmr l)) :
  Calls Tryz.prog 8 #[s.v,sl.v] w0 (fun e w'=>∃r:Bool,e=.returned (.bool r)∧(r=true∧Pure w0 w')):=by
 refine w_K _ _ w0 (fun r w'=>r=true∧Pure w0 w') ?_
 unfold m_K
 have ll:sl.len=l.length:=by rw [hl.len,qF]
 refine (jGT ts s w0 hT hS).mono ?_
 rintro _ w17 ⟨z,rfl,hz,E17⟩
 refine ⟨z,rfl,E17.keptP,fun H w19 hs19=>?_⟩
 have E19:=E17.hst hs19
 unfold m_K_j1
 refine ⟨fun h=>?_,fun h=>?_⟩
 ·refine (jIZ w19).mono ?_
  rintro _ w3 ⟨_,rfl,rfl,E3⟩
  exact ⟨_,rfl,E3.keptP,rfl,E19.trans E3⟩
 rw [Bool.or_eq_false_iff] at h
 obtain ⟨h1,h2⟩:=h
 obtain ⟨hn,hc⟩:=hz h1
 have h2:l.length≤20:=by have:=of_decide_eq_false h2;omega
 refine (jFE ts s w19 (hT.pure E19) (fun b hb=>by have:=hS b hb;have:=E19.size;omega) hn).mono ?_
 rintro _ w2 ⟨_,_,_,rfl,p,q,F1,F2,rfl,rfl,rfl,P2⟩
 refine ⟨_,_,_,rfl,P2.pure.keptP,Br.f rfl fun p1 w3 h3=>?_⟩
 obtain ⟨hW,_⟩:=Sp.jFT ts
 generalize Sp.xD ts=L at *
 have G2:=E19.trans P2.pure
 have hH:∀b,H b→b<w19.heap.size:=hs19.lt
 have z2:=P2.pure.size
 have z19:=E19.size
 have P:Pl2 w0 H w2 p q L L F1 F2:=⟨G2,P2.pool,P2.ref,fun b hb=>⟨by have:=(P2.o1 b hb).1;omega,fun h=>by have:=(P2.o1 b hb).1;have:=hH b h;omega,(P2.o1 b hb).2.2⟩,fun b hb=>⟨by have:=(P2.o2 b hb).1;omega,fun h=>by have:=(P2.o2 b hb).1;have:=hH b h;omega⟩⟩
 have hp1:w2.heap.size≤p1.block:=New.own (Ext.refl w2) h3
 have K0:jID w3 p1 q [] (·=p1.block):=⟨Sl.nil,⟨Box.of_new h3,Rws.nil _ _ _,fun h=>by obtain ⟨a,h,_⟩:=h;cases h⟩,fun b=>⟨fun h=>.inl h,fun h=>h.elim id (fun h=>by obtain ⟨a,h,_⟩:=h;cases h)⟩⟩
 refine ⟨fun i H' w'=>∃j:Nat,i=j∧j≤l.length∧H=H'∧Pure w2 w'∧∃FK,jID w' p1 q (Sp.tA L (l.take j)) FK∧∀b,FK b→w2.heap.size≤b,fun i _=>((l.length:Int) - i).toNat,⟨0,rfl,Nat.zero_le _,rfl,Ext.new h3,_,K0,fun b hb=>by rw [hb];exact hp1⟩,?_⟩
 rintro _ _ wm hl2 ⟨i,rfl,hi,rfl,Em,FK,hK,hFK⟩
 unfold m_K_l2
 refine ⟨fun h=>?_,fun h=>?_⟩
 ·have hlt:=vS ll h
  obtain ⟨a,hat,_,hv⟩:=jAC (hl.pure (G2.trans Em)) hlt
  have:=Sp.jGB L (l.take i)
  have:(l.take i).length≤20:=by rw [List.length_take];omega
  refine ⟨a,hat,_,hv,(jLY p1 q l[i] wm hK (P2.ref.pure Em) (by omega)).mono ?_⟩
  rintro _ w12 ⟨r9,rfl,F',hK',X,hF'⟩
  refine ⟨r9,rfl,X.kept (fun b hb hf=>by have:=hFK b hf;have:=hH b hb;omega),?_⟩
  rw [zZ hlt (by omega)]
  have e:Sp.tA L (l.take (i+1))=Sp.uU L (Sp.tA L (l.take i)) l[i]:=by
   unfold Sp.tA;rw [List.take_succ_eq_append_getElem hlt,List.foldl_append];rfl
  have:=Em.size
  exact ⟨⟨i+1,rfl,hlt,rfl,Em.trans' X (fun k hk hf=>by have:=hFK k hf;omega),F',by rw [e];exact hK',fun b hb=>(hF' b hb).elim (hFK b) (fun h=>by omega)⟩,qX hlt⟩
 have hge:=vT ll hi h
 subst hge
 rw [List.take_length] at hK
 have hGi:∀g∈Sp.tA L l,Sp.inP L g=true:=fun g hg=>(Sp.jLC.1 hg).2
 have:=Sp.jGB L l
 refine (jJW p1 q wm hK (P2.ref.pure Em) hW hGi (by omega)).mono ?_
 rintro _ w5 ⟨r6,rfl,y,h6,hy,hys⟩
 have F5:=Em.trans h6.pure
 have hyl:y.length≤L.length:=Sp.jCD (hys.imp (fun h=>by omega)) (fun t ht=>((hy t).1 ht).1)
 have hL:=hW.ok.few
 refine ⟨r6,rfl,h6.kept,fun p2 w6 h6'=>?_⟩
 have F6:=F5.trans (Ext.new (F:=None) h6')
 have hp2:w2.heap.size≤p2.block:=New.own F5 h6'
 have R4:Rws w6 78 1 ⟨some p2,0,0⟩ (tmr []):=Rws.lit (rs:=[]) h6' rfl (by simp) (by simp)
 have hb4:∀b,(Sl.mk (some p2) 0 0).blk b→w2.heap.size≤b∧w5.heap.size≤b:=fun b h=>by obtain ⟨a,ha,rfl⟩:=h;cases ha;exact ⟨hp2,New.own (Ext.refl w5) h6'⟩
 obtain ⟨s1,w7,hrun7,hR7,hE7,hb7⟩:=R4.appendL (P:=Tryz.prog) jDZ (ty:=46) (hl.pure (G2.trans F6)) (tmr_sz _) (jON _) (by rw [qF,qF];simp;omega) (by rw [qF,qF];simp [maxLen];omega)
 have F57:Pure w5 w7:=(Ext.new (F:=None) h6').trans' hE7 (fun i hi h=>by have:=(hb4 i h).2;omega)
 have F7:=F5.trans F57
 have hR7:Rws w7 78 1 s1 (tmr l):=hR7
 refine ⟨s1,w7,hrun7,hE7.kept (fun b hb h=>by have:=(hb4 b h).1;have:=hH b hb;omega),(jJD p s1 l w7 (P2.pool.pure F7) hW hR7.lst (by omega)).mono ?_⟩
 rintro _ w8 ⟨r7,rfl,fa,h7,hA,nA⟩
 have F58:=F57.trans h7.pure
 have F8:=F5.trans F58
 have z8:=Em.size
 have P8:=P.pureE F8
 have O6:Own H w8 78 1 r6 (tmr y):=⟨h6.rows.pure F58,fun b hb hh=>by have:=h6.own b hb;have:=hH b hh;omega⟩
 have O7:Own H w8 75 4 r7 (fa.map tB):=⟨h7.rows,fun b hb hh=>by have:=h7.own b hb;have:=F7.size;have:=hH b hh;omega⟩
 have l6:r6.len=y.length:=by rw [O6.len,qF]
 have hseen:∀t,Sp.Seen L (Sp.tA L l) t→t∈y:=fun t h=>(hy t).2 ⟨h.inP' hW hGi,h⟩
 refine ⟨r7,rfl,h7.kept,fun who H' w'=>∃k:Nat,who=k∧k≤2∧Pl2 w0 H' w' p q L L F1 F2∧Own H' w' 78 1 r6 (tmr y)∧Own H' w' 75 4 r7 (fa.map tB),fun who _=>(2 - who).toNat,⟨0,rfl,by omega,P8,O6,O7⟩,?_⟩
 rintro _ H2 wl hlH ⟨k,rfl,hk,Pk,Ok6,Ok7⟩
 unfold m_K_l3
 refine ⟨fun hk2=>?_,fun hk2=>?_⟩
 ·have hk2:=of_decide_eq_true hk2
  have hwho:(k:Int)=0∨(k:Int)=1:=by omega
  refine (jJX r7 k fa wl Ok7.rows.lst (fun b hb=>Ok7.rows.lt hb) (by omega)).mono ?_
  rintro _ w9 ⟨r8,rfl,h8⟩
  have hbl:(Sp.qE k fa).length≤fa.length:=List.length_filter_le _ _
  have O8:Own H2 w9 75 4 r8 ((Sp.qE k fa).map tB):=⟨h8.rows,fun b hb hh=>by have:=h8.own b hb;have:=hlH.lt b hh;omega⟩
  have l8:r8.len=(Sp.qE k fa).length:=by rw [O8.len];simp
  obtain ⟨few1,few2⟩:=Sp.jMI hwho hA hseen (fun t ht=>((hy t).1 ht).2)
  refine ⟨r8,rfl,h8.kept,fun n i H' w'=>∃j:Nat,i=j∧j≤y.length∧n=(((y.take j).filter (Sp.uL L k)).length:Nat)∧Pl2 w0 H' w' p q L L F1 F2∧Own H' w' 78 1 r6 (tmr y)∧Own H' w' 75 4 r7 (fa.map tB)∧Own H' w' 75 4 r8 ((Sp.qE k fa).map tB),fun _ i _=>((y.length:Int) - i).toNat,⟨0,rfl,Nat.zero_le _,by simp,Pk.pureE h8.pure,Ok6.pure h8.pure,Ok7.pure h8.pure,O8⟩,?_⟩
  rintro _ _ H3 w3' hl3 ⟨j,rfl,hj,rfl,Pj,Oj6,Oj7,Oj8⟩
  unfold m_K_l4
  refine ⟨fun h=>?_,fun h=>?_⟩
  ·have hlt:=vS l6 h
   obtain ⟨a,hat,_,hv⟩:=jAC Oj6.rows.lst hlt
   have hcl:((y.take j).filter (Sp.uL L k)).length≤j:=Nat.le_trans (List.length_filter_le _ _) (by rw [List.length_take];omega)
   have htk:(y.take (j+1)).filter (Sp.uL L k)=(y.take j).filter (Sp.uL L k)++(if Sp.uL L k y[j]=true then [y[j]] else []):=by
    rw [List.take_succ_eq_append_getElem hlt,List.filter_append];simp only [List.filter_cons,List.filter_nil]
   refine ⟨a,hat,_,hv,(jGK q hW y[j] w3' F2 Pj.ref).mono ?_⟩
   rintro _ w10 ⟨kd,f,c,x,fk,ok,rfl,hrd,E10⟩
   rw [← Sp.jMY hW] at hrd
   have eb:Sp.uL L k y[j]=(ok && ((kd == 2 && f == (k:Int)) || kd == 6)):=by unfold Sp.uL;rw [← hrd]
   have ef:Sp.jDV L k y[j]=⟨2,k,c,x⟩:=by unfold Sp.jDV;rw [← hrd]
   refine ⟨_,_,_,_,_,_,rfl,E10.keptP,fun hb H4 w15 hs15=>?_,fun hb H4 w15 hs15=>?_⟩
   ·rw [← eb] at hb
    have hin:(⟨2,(k:Int),c,x⟩:Sp.Fact)∈Sp.qE k fa:=by
     rw [← ef];unfold Sp.qE;exact List.mem_filter.2 ⟨(hA.2 _).2 ⟨y[j],((hy _).1 (List.getElem_mem hlt)).2,Sp.jGX hwho hb⟩,by simp [Sp.jDV]⟩
    have O15:=(Oj8.pure E10).hst hs15
    refine (jLW r8 (Sp.qE k fa) ⟨2,k,c,x⟩ w15 O15.rows.lst (by omega)).mono ?_
    rintro _ w18 ⟨_,rfl,rfl,E18⟩
    refine ⟨_,rfl,E18.keptP,Br.f (by rw [decide_eq_true hin];rfl) ?_⟩
    unfold m_K_j5
    rw [if_pos hb] at htk
    rw [zZ (show ((y.take j).filter (Sp.uL L k)).length<100000 by omega) (by omega),zZ hlt (by omega)]
    exact ⟨⟨j+1,rfl,hlt,by rw [htk];simp,((Pj.pureE E10).hst hs15).pureE E18,((Oj6.pure E10).hst hs15).pure E18,((Oj7.pure E10).hst hs15).pure E18,O15.pure E18⟩,qX hlt⟩
   ·rw [← eb] at hb
    rw [if_neg (by simp [hb]),List.append_nil] at htk
    unfold m_K_j5
    rw [zZ hlt (by omega)]
    exact ⟨⟨j+1,rfl,hlt,by rw [htk],(Pj.pureE E10).hst hs15,(Oj6.pure E10).hst hs15,(Oj7.pure E10).hst hs15,(Oj8.pure E10).hst hs15⟩,qX hlt⟩
  have hge:=vT l6 hj h
  subst hge
  rw [List.take_length]
  generalize ((y.filter (Sp.uL L k)).length)=c at *
  generalize hbb:(Sp.qE k fa).length=n8 at *
  rintro _ rfl
  refine Br.f ?_ fun H7 w19' hs7=>?_
  ·rw [l8,Bool.or_eq_false_iff]
   refine ⟨?_,by rw [decide_eq_false_iff_not];omega⟩
   by_cases hc0:c=0
   ·have:n8=0:=few2.1 hc0
    subst hc0;subst this;rfl
   ·have:n8≠0:=fun h=>hc0 (few2.2 h)
    have e1:((c:Int) == 0)=false:=by rw [beq_eq_false_iff_ne];omega
    have e2:((n8:Int) == 0)=false:=by rw [beq_eq_false_iff_ne];omega
    rw [e1,e2];rfl
  ·rw [zZ (show k<2 by omega) (by omega)]
   exact ⟨⟨k+1,rfl,by omega,Pj.hst hs7,Oj6.hst hs7,Oj7.hst hs7⟩,by show (2 - ((k+1:Nat):Int)).toNat<(2 - (k:Int)).toNat;omega⟩
 refine (jIZ wl).mono ?_
 rintro _ w20 ⟨_,rfl,rfl,E20⟩
 exact ⟨_,rfl,E20.keptP,rfl,Pk.pure.trans E20⟩
end Go.Proofs
end
section
namespace Go.SE
open Go.ChangeShapes Go.WideShapes Go.ChangeAt Go.RowKit
section
variable {H:Type} {enc:TypeId×Value→H} {P:Program}
theorem jBD (hl:laidOutB P=true) {W W':World} (hb:Below W.heap.size W W'):∀(ts:List TypeId) (vs:List Value) (ds:List (DataW H)) (ps:List MemPlace),(ts.all fun t=>P.readableRec t && decide (t<P.types.size))=true →
  DataW.TrodAll enc P W 0 (fun _=>true) true ts vs ds ps→(∀x∈ps,x.block<W.heap.size)→DataW.TrodAll enc P W' 0 (fun b=>decide (b<W.heap.size)) true ts vs ds ps
 | [],_,_,_,_,h,_=>by
  obtain ⟨rfl,rfl,rfl⟩:=trodAll_nil h;exact h
 | t :: ts,_,_,_,hr,h,hlt=>by
  obtain ⟨v,vs1,d,ds1,a,b,rfl,rfl,rfl,h1,h2⟩:=trodAll_cons h;simp only [List.all_cons,Bool.and_eq_true,decide_eq_true_eq] at hr;exact ⟨a,b,Below.trod hl hr.1.1 hr.1.2 h1 hb (fun x hx=>hlt x (by simp [hx])),jBD hl hb ts vs1 ds1 b (by simpa using hr.2) h2 (fun x hx=>hlt x (by simp [hx])),rfl⟩
theorem jNG {f:Func} {s:ChangeSpec} {W W':World} {args:Array Value} {ds gs:List (DataW H)} {before:List MemPlace} {t:TypeId} (hl:laidOutB P=true)
  (hv:s.vars=[]) (hf:∀ds:List (DataW H),ds.length=f.params.size→s.fn H ds={ results:=[.lit (.bool true)],args:=ds }) (hrt:f.resultTypes=#[t]) (ht:P.underlying t=some .bool)
  (hr:(f.params.toList.all fun t=>P.readableRec t && decide (t<P.types.size))=true)
  (hW:DataW.Whole enc P f.params.toList s.vars false W args.toList ds gs before) (E:Pure W W') :
  s.post enc P f false true false false W args (.bool true) W':=by
 have hW':=hW
 obtain ⟨p,q,hA,hV,rfl,hfz,hnd⟩:=hW
 rw [hv] at hV
 obtain ⟨rfl,rfl⟩:=trodVars_none hV
 have hlen:ds.length=f.params.size:=by
  have:∀(ts:List TypeId) (vs:List Value) (ds:List (DataW H)) (ps:List MemPlace),DataW.TrodAll enc P W 0 (fun _=>true) true ts vs ds ps→ds.length=ts.length:=by
   intro ts;induction ts with
   | nil=>intro vs ds ps h;obtain ⟨_,rfl,_⟩:=trodAll_nil h;rfl
   | cons t ts ih =>
    intro vs ds ps h
    obtain ⟨v,vs1,d,ds1,a,b,_,rfl,_,_,h2⟩:=trodAll_cons h
    simp [ih _ _ _ h2]
  simpa using this _ _ _ _ hA
 have hfn:=hf ds hlen
 have hfn':s.fn H (ds++[])={ results:=[.lit (.bool true)],args:=ds }:=by rw [List.append_nil];exact hfn
 have hlt:∀x∈p,x.block<W.heap.size:=fun x hx=>by simpa using hW'.lt x (by simp [hx])
 have bel:=E.below
 refine ⟨ds,[],p++[],[],p,[],hW',?_,?_,?_,bel.frame _,fun h=>by cases h⟩
 ·rw [hfn',hrt];exact trodAll_mk1 (shut_bool ht _)
 ·rw [hfn'];exact jBD hl bel _ _ _ _ hr hA hlt
 ·rw [hfn',hv];exact hV
theorem jJQ {C:Checked} {os:Os} {f:FuncId} {fn:Func} {s:ChangeSpec} {t:TypeId} (hl:laidOutB C.prog=true)
  (hv:s.vars=[]) (hf:∀ds:List (DataW H),ds.length=fn.params.size→s.fn H ds={ results:=[.lit (.bool true)],args:=ds }) (hrt:fn.resultTypes=#[t]) (ht:C.prog.underlying t=some .bool)
  (hr:(fn.params.toList.all fun t=>C.prog.readableRec t && decide (t<C.prog.types.size))=true)
  (own:ownKnob C.prog.godebug=none) (started:os.Started) (noInit:C.prog.inits.idxOf? f=none) (hfn:C.prog.funcs[f]?=some fn)
  (witness:∃(w:World) (tape:Tape) (i:Input),w.os=os∧(w.forCall tape i).Shaped C.prog∧i.vars=[]∧Input.okWide C.prog (w.forCall tape i) .any w.heap.size f i ∧
   s.pre6 enc C.prog fn [] false (w.forCall tape i).memory i.args∧({}:Assume).holds C.prog (lone (Frame.enter C.prog f i.args .normal) [] (w.forCall tape i)))
  (contract:∀(W:World) (base:Nat) (args:Array Value) (ds:List (DataW H)) (p:List MemPlace),
   (∀(j:Nat) t v,fn.params[j]?=some t→args[j]?=some v→Value.okWide C.prog W .any base t v) →
   DataW.TrodAll enc C.prog W 0 (fun _=>true) true fn.params.toList args.toList ds p→(∀x∈p,x.block<W.heap.size) →
   Calls C.prog f args W (fun e W'=>∃r:Bool,e=.returned (.bool r)∧(r=true∧Pure W W'))) :
  ReturnsInHanded {} C os f .any (s.pre6 enc C.prog fn [] false) (s.post enc C.prog fn false true false false):=by
 refine returnsInHanded_of_change own started noInit hfn witness ?_
 intro W base args ds gs before hval hW _ _
 have hW':=hW
 obtain ⟨p,q,hA,hV,rfl,hfz,hnd⟩:=hW
 refine (contract W base args ds p hval hA (fun x hx=>by simpa using hW'.lt x (by simp [hx]))).mono fun e W' ⟨r,he,h1,h2⟩=>?_
 subst h1
 exact ⟨_,he,jNG hl hv hf hrt ht hr hW' h2⟩
end
end Go.SE
namespace Go.SE
open Go.ChangeShapes Go.WideShapes Go.ChangeAt Go.RowKit
section
variable {P:Program} {W:World} {r:Reach} {b0:Nat} {t:TypeId} {v:Value}
theorem jFU {e:TypeId} (ht:P.underlying t=some (.slice e)) (h:Value.okWide P W r b0 t v):∃a n c,v=.slice a n c:=by
 unfold Value.okWide at h;rw [ht] at h;simp only at h;unfold Cell.okWide at h;rw [ht] at h;cases v <;> simp [Cell.ok,ht] at h;exact ⟨_,_,_,rfl⟩
end
end Go.SE
end
section
open Go Go.SE
namespace Go.Proofs
theorem jBK {α β:Type} {f:α→Option β}:∀{l:List α} {r:List β},l.mapM f=some r→r.length=l.length∧∀(i:Nat) (a:α),l[i]?=some a→∃b,f a=some b∧r[i]?=some b
 | [],r,h=>by
  have:r=[]:=by simpa using h.symm
  subst this;exact ⟨rfl,fun i a h=>by simp at h⟩
 | x :: xs,r,h=>by
  rw [List.mapM_cons] at h;cases hx:f x with
  | none=>simp [hx] at h
  | some y =>
   cases hxs:xs.mapM f with
   | none=>simp [hx,hxs] at h
   | some ys =>
    have:r=y :: ys:=by simpa [hx,hxs] using h.symm
    subst this
    obtain ⟨h1,h2⟩:=jBK hxs
    refine ⟨by simp [h1],fun i a ha=>?_⟩
    cases i with
    | zero=>cases ha;exact ⟨y,hx,rfl⟩
    | succ i=>exact h2 i a (by simpa using ha)
theorem jGG {w:World} {base:Nat} {a:Addr} {n:Nat} {cs:List Value} (h:w.cells? base a n=some cs):cs.length=n∧Row w a cs:=by
 obtain ⟨_,h1,h2⟩:=World.cells?_some h;exact ⟨h1,fun j hj=>h2 j (by omega)⟩
section
variable {H:Type} {enc:TypeId×Value→H} {P:Program} {W:World} {base:Nat} {sp:Nat→Bool} {held:Bool}
theorem jCQ {t:TypeId} {k:IntKind} (ht:P.underlying t=some (.int k)) {n:Nat} {c:Value} {x:DataW H×List MemPlace} (h:DataW.trod enc P W base sp held n t [c]=some x):∃m,c=.int k m:=by
 cases n with
 | zero=>cases h
 | succ n =>
  rw [DataW.trod_step] at h
  unfold DataW.trodStep at h
  rw [ht] at h
  cases c <;> simp at h
  obtain ⟨⟨rfl,_⟩,_⟩:=h
  exact ⟨_,rfl⟩
theorem jMP {t:TypeId} (ht:P.underlying t=some (.int .u64)) {n:Nat} {c:Value} {x:DataW H×List MemPlace} (h:DataW.trod enc P W base sp held n t [c]=some x):∃m,c=.int .u64 m∧Sp.isNum m:=by
 cases n with
 | zero=>cases h
 | succ n =>
  rw [DataW.trod_step] at h
  unfold DataW.trodStep at h
  rw [ht] at h
  cases c with
  | int k z =>
   simp only at h
   split at h
   ·rename_i hw
    obtain ⟨rfl,hw⟩:=hw
    have h1:IntKind.u64.min=0:=by rfl
    have h2:IntKind.u64.max=18446744073709551615:=by rfl
    simp only [Lit.wf,Bool.and_eq_true,decide_eq_true_eq,h1,h2] at hw
    exact ⟨z,rfl,by omega,by omega⟩
   ·cases h
  | _=>simp at h
theorem jKQ {t:TypeId} (ht:P.underlying t=some .string) {n:Nat} {c:Value} {x:DataW H×List MemPlace} (h:DataW.trod enc P W base sp held n t [c]=some x):∃m,c=.string m:=by
 cases n with
 | zero=>cases h
 | succ n =>
  rw [DataW.trod_step] at h
  unfold DataW.trodStep at h
  rw [ht] at h
  cases c <;> simp at h
  exact ⟨_,rfl⟩
theorem jCP {t e:TypeId} (ht:P.underlying t=some (.slice e)) {n:Nat} {c:Value} {x:DataW H×List MemPlace} (h:DataW.trod enc P W base sp held (n+1) t [c]=some x) :
  c=.slice none 0 0∨∃a len cap,c=.slice (some a) len cap∧len≤cap∧cap≤maxLen∧∀i,i<len→∃cs y,W.cells? base (a.add (i*P.cellsOf e)) (P.cellsOf e)=some cs∧DataW.trod enc P W base sp held n e cs=some y:=by
 rw [DataW.trod_step] at h
 unfold DataW.trodStep at h
 rw [ht] at h
 cases c with
 | slice a len cap =>
  cases a with
  | none =>
   cases len with
   | zero=>cases cap with
    | zero=>exact .inl rfl
    | succ c=>simp at h
   | succ l=>simp at h
  | some a =>
   right
   simp only at h
   split at h
   ·rename_i hc
    refine ⟨a,len,cap,rfl,hc.2.1,hc.2.2,fun i hi=>?_⟩
    cases hm:(List.range len).mapM fun i=>(W.cells? base (a.add (i*P.cellsOf e)) (P.cellsOf e)).bind (DataW.trod enc P W base sp held n e) with
    | none=>rw [hm] at h;cases h
    | some r =>
     obtain ⟨b,hb,_⟩:=(jBK hm).2 i i (by simp [hi])
     obtain ⟨cs,h1,h2⟩:=Option.bind_eq_some_iff.1 hb
     exact ⟨cs,b,h1,h2⟩
   ·cases h
 | _=>simp at h
structure TreeTypes (P:Program) (tS tT:TypeId):Prop where
 ex:∃ti tu ts:TypeId,∃f0 f1 f2 f3 f4 f5:Field,P.underlying tS=some (.slice tT)∧P.underlying tT=some (.struct #[f0,f1,f2,f3,f4,f5])∧P.cellsOf tT=6 ∧
  (f0.type=ti∧f1.type=ti∧f2.type=ti∧f3.type=tu∧f4.type=ts∧f5.type=tS)∧(f0.offset=0∧f1.offset=1∧f2.offset=2∧f3.offset=3∧f4.offset=4∧f5.offset=5) ∧
  P.underlying ti=some (.int .i64)∧P.underlying tu=some (.int .u64)∧P.underlying ts=some .string∧P.cellsOf ti=1∧P.cellsOf tu=1∧P.cellsOf ts=1∧P.cellsOf tS=1
theorem jKP {tS tT:TypeId} (hTT:TreeTypes P tS tT):∀n:Nat,
  (∀(c:Value) (x:DataW H×List MemPlace),DataW.trod enc P W base sp held n tS [c]=some x→∃s:Sl,∃ts:List Sp.Tree,c=s.v∧(∀(k f t u:Int) (tx:ByteArray),TreeAt (fun _=>True) W s (.mk k f t u tx ts))∧∀i (hi:i<ts.length),Sp.NumT ts[i]) ∧
  (∀(cs:List Value) (x:DataW H×List MemPlace),DataW.trod enc P W base sp held n tT cs=some x→∃t s,cs=yL t s∧TreeAt (fun _=>True) W s t∧Sp.NumT t):=by
 obtain ⟨ti,tu,tx,f0,f1,f2,f3,f4,f5,hS,hT,hc6,⟨e0,e1,e2,e3,e4,e5⟩,⟨o0,o1,o2,o3,o4,o5⟩,ui,uu,us,ci,cu,cs1,cS⟩:=hTT.ex
 intro n
 induction n with
 | zero=>exact ⟨fun c x h=>(by cases h),fun cs x h=>(by cases h)⟩
 | succ n ih =>
  refine ⟨fun c x h=>?_,fun cs x h=>?_⟩
  ·rcases jCP hS h with rfl | ⟨a,len,cap,rfl,hle,hcm,hel⟩
   ·exact ⟨Sl.nil,[],rfl,fun k f t u tx=>.mk k f t u tx [] Sl.nil (fun _=>Sl.nil) rfl (by simp) (fun i h=>by simp at h) (fun i h=>by simp at h),fun i hi=>absurd hi (Nat.not_lt_zero i)⟩
   ·rw [hc6] at hel
    have hex:∀i,∃q:Sp.Tree×Sl,i<len→Row W (a.add (i*6)) (yL q.1 q.2)∧TreeAt (fun _=>True) W q.2 q.1∧Sp.NumT q.1:=by
     intro i;by_cases hi:i<len
     ·obtain ⟨cs,y,h1,h2⟩:=hel i hi;obtain ⟨tr,s,e,hTr⟩:=ih.2 cs y h2;exact ⟨(tr,s),fun _=>⟨e▸(jGG h1).2,hTr⟩⟩
     ·exact ⟨(Sp.Tree.mk 0 0 0 0 ⟨#[]⟩ [],Sl.nil),fun h=>absurd h hi⟩
    obtain ⟨q,hq⟩:=Classical.axiomOfChoice hex
    refine ⟨⟨some a,len,cap⟩,(List.range len).map fun i=>(q i).1,rfl,?_,fun i hi=>by rw [List.getElem_map,List.getElem_range];exact (hq i (by simpa using hi)).2.2⟩
    refine fun k f t u tx=>.mk k f t u tx _ _ (fun i=>(q i).2) (by simp) (by simp only [maxLen] at hcm;simp;omega) (fun i h=>?_) (fun i h=>?_)
    ·have hi:i<len:=by simpa using h
     refine ⟨a.add (i*6),⟨by omega,by simpa using hi,a,rfl,by simp⟩,trivial,?_⟩
     simpa using (hq i hi).1
    ·have hi:i<len:=by simpa using h
     simpa using (hq i hi).2.1
  ·rw [DataW.trod_step] at h
   unfold DataW.trodStep at h
   rw [hT] at h
   simp only at h
   split at h
   ·rename_i hl
    rw [hc6] at hl
    match cs,hl with
    | [c0,c1,c2,c3,c4,c5],_ =>
     cases hm:([f0,f1,f2,f3,f4,f5]:List Field).mapM (fun f=>DataW.trod enc P W base sp held n f.type ((([c0,c1,c2,c3,c4,c5]:List Value).drop f.offset).take (P.cellsOf f.type))) with
     | none=>rw [hm] at h;cases h
     | some r =>
      have hf:=(jBK hm).2
      obtain ⟨_,h0,_⟩:=hf 0 f0 rfl
      obtain ⟨_,h1,_⟩:=hf 1 f1 rfl
      obtain ⟨_,h2,_⟩:=hf 2 f2 rfl
      obtain ⟨_,h3,_⟩:=hf 3 f3 rfl
      obtain ⟨_,h4,_⟩:=hf 4 f4 rfl
      obtain ⟨_,h5,_⟩:=hf 5 f5 rfl
      rw [e0,o0,ci] at h0;rw [e1,o1,ci] at h1;rw [e2,o2,ci] at h2;rw [e3,o3,cu] at h3;rw [e4,o4,cs1] at h4;rw [e5,o5,cS] at h5
      obtain ⟨m0,rfl⟩:=jCQ ui h0
      obtain ⟨m1,rfl⟩:=jCQ ui h1
      obtain ⟨m2,rfl⟩:=jCQ ui h2
      obtain ⟨m3,rfl,hu⟩:=jMP uu h3
      obtain ⟨m4,rfl⟩:=jKQ us h4
      obtain ⟨s,ts,rfl,hTr,hNr⟩:=ih.1 c5 _ h5
      exact ⟨.mk m0 m1 m2 m3 m4 ts,s,rfl,hTr m0 m1 m2 m3 m4,.mk _ _ _ _ _ _ hu hNr⟩
   ·cases h
theorem jEN {tS tT:TypeId} (hTT:TreeTypes P tS tT) {v:Value} {d:DataW H} {ps:List MemPlace} (h:DataW.Trod enc P W base sp held tS v d ps) (hv:∃a n c,v=.slice a n c) :
  ∃s:Sl,∃ts:List Sp.Tree,v=s.v∧TreeAt (fun b=>b<W.heap.size) W s (.mk 0 0 0 0 ⟨#[]⟩ ts):=by
 obtain ⟨n,h⟩:=h
 obtain ⟨a,m,c,rfl⟩:=hv
 obtain ⟨s,ts,e,hT,_⟩:=(jKP hTT n).1 _ _ h
 exact ⟨s,ts,e,(hT 0 0 0 0 ⟨#[]⟩).lt.mono (fun b hb=>hb.2)⟩
end
theorem jKR:TreeTypes Tryz.prog 66 107 :=
 ⟨3,23,9,_,_,_,_,_,_,Tryz.underlying66,Tryz.underlying107,by kernel_rfl,⟨rfl,rfl,rfl,rfl,rfl,rfl⟩,⟨rfl,rfl,rfl,rfl,rfl,rfl⟩,Tryz.underlying3,Tryz.underlying23,Tryz.underlying9,by kernel_rfl,by kernel_rfl,by kernel_rfl,by kernel_rfl⟩
section
variable {H:Type} {enc:TypeId×Value→H} {P:Program} {W:World} {base:Nat} {sp:Nat→Bool} {held:Bool}
theorem row_lt {a:Addr} {v:Value} {vs:List Value} (h:Row W a (v :: vs)):a.block<W.heap.size:=by
 have:=h 0 (by simp);have:=World.block_lt_of_cell? W (a.add 0) this;rwa [zX] at this
theorem jFY {α:Type} {tS e:TypeId} {sz:Nat} {f:α→List Value} (hS:P.underlying tS=some (.slice e)) (hc:P.cellsOf e=sz) (hf:∀a,∃v vs,f a=v :: vs) (x0:α)
  (hel:∀(n:Nat) (cs:List Value) (x:DataW H×List MemPlace),DataW.trod enc P W base sp held n e cs=some x→∃a,cs=f a) {n:Nat} {c:Value} {x:DataW H×List MemPlace} (h:DataW.trod enc P W base sp held n tS [c]=some x) :
  ∃s:Sl,∃xs:List α,c=s.v∧Lst (fun b=>b<W.heap.size) W sz s (xs.map f):=by
 cases n with
 | zero=>cases h
 | succ n =>
  rcases jCP hS h with rfl | ⟨a,len,cap,rfl,hle,hcm,hall⟩
  ·exact ⟨Sl.nil,[],rfl,⟨rfl,fun i hi=>by simp at hi⟩⟩
  ·rw [hc] at hall
   have hex:∀i,∃q:α,i<len→Row W (a.add (i*sz)) (f q):=by
    intro i;by_cases hi:i<len
    ·obtain ⟨cs,y,h1,h2⟩:=hall i hi;obtain ⟨q,rfl⟩:=hel n cs y h2;exact ⟨q,fun _=>(jGG h1).2⟩
    ·exact ⟨x0,fun h=>absurd h hi⟩
   obtain ⟨q,hq⟩:=Classical.axiomOfChoice hex
   refine ⟨⟨some a,len,cap⟩,(List.range len).map q,rfl,⟨by simp,fun i hi=>?_⟩⟩
   have hi:i<len:=by simpa using hi
   have hr:=hq i hi
   obtain ⟨v,vs,e⟩:=hf (q i)
   refine ⟨a.add (i*sz),⟨by omega,by simpa using hi,a,rfl,by simp⟩,?_,by simpa using hr⟩
   rw [e] at hr;exact row_lt hr
theorem jEQ {tS e:TypeId} (hS:P.underlying tS=some (.slice e)) (he:P.underlying e=some (.int .i64)) (hc:P.cellsOf e=1) {n:Nat} {c:Value} {x:DataW H×List MemPlace} (h:DataW.trod enc P W base sp held n tS [c]=some x) :
  ∃s:Sl,∃ts:List Int,c=s.v∧Lst (fun b=>b<W.heap.size) W 1 s (tmr ts):=by
 have:=jFY (f:=fun t:Int=>[Value.int .i64 t]) hS hc (fun a=>⟨_,_,rfl⟩) 0 (fun n cs x h=>?_) h
 ·exact this
 ·cases n with
  | zero=>cases h
  | succ n =>
   rw [DataW.trod_step] at h
   unfold DataW.trodStep at h
   rw [he] at h
   cases cs with
   | nil=>simp at h
   | cons c l =>
    cases l with
    | cons c2 l2=>cases c <;> simp at h
    | nil =>
     cases c <;> simp at h
     obtain ⟨⟨rfl,_⟩,_⟩:=h
     exact ⟨_,rfl⟩
end
section
variable {H:Type} {enc:TypeId×Value→H} {W:World} {base:Nat} {sp:Nat→Bool} {held:Bool}
theorem jMQ {n:Nat} {c:Value} {x:DataW H×List MemPlace} (h:DataW.trod enc Tryz.prog W base sp held n 46 [c]=some x):∃s:Sl,∃ts:List Int,c=s.v∧Lst (fun b=>b<W.heap.size) W 1 s (tmr ts) :=
 jEQ Tryz.underlying46 Tryz.underlying78 (by kernel_rfl) h
end
end Go.Proofs
end
