import Derived.Test.YtkafbiknboamlaaGreatDoorPa5
import Derived.Test.YtkafbiknboamlaaGreatDoorPa3
import Derived.Test.YtkafbiknboamlaaGreatDoorProg
import Derived.KernelRfl
import Derived.Test.YtkafbiknboamlaaGreatDoorPa2
import Derived.Test.YtkafbiknboamlaaGreatDoorPa4
section
open Go Go.SE
namespace Go.Proofs
open Tryz
attribute [local irreducible] Calls
theorem jEV {P:Program} {t ty e:TypeId} {sz bytes:Nat} (T:SlType P t e sz bytes) {w:World} {p:Addr} {c:List Value} {Tp:TypeId} (hB:Box w p c Tp) {s:Sl} {rs:List (List Value)} (hR:Rws w e sz s rs) (hp:¬ s.blk p.block) {a:Addr} {r:List Value} (hr:Row w a r) (hl:r.length=sz) (h1:r.all vY=true) (hb:(rs.length+1)*bytes≤140737488355328) (hm:rs.length+1≤maxLen) :
  ∃s' w',(Builtin.append_ #[t,t] ty #[s.v,(Sl.mk (some a) 1 1).v]).run P w=.ok s'.v w'∧Rws w' e sz s' (rs++[r])∧Box w' p c Tp∧¬ s'.blk p.block∧Ext s.blk w w'∧(∀b,s'.blk b→s.blk b∨w.heap.size≤b):=by
 obtain ⟨s',w',hr',hR',hE,hb'⟩:=hR.append T (ty:=ty) (c:=1) hr hl h1 hb hm
 exact ⟨s',w',hr',hR',hB.ext hE hp,fun h=>(hb' _ h).elim hp (fun h=>by have:=hB.lt;omega),hE,hb'⟩
theorem jCO (n:Sp.Node):Sp.vG n=53∨Sp.vG n=0:=by
 unfold Sp.vG;simp only;split
 ·exact .inl rfl
 ·exact .inr rfl
theorem jIZ (p:Addr) (n:Sp.Node) (w0:World) {L:Sp.Pool} {F:NP} (hP:qK w0 p L F) (hok:Sp.Ok L):Calls prog 112 #[.pointer (some p),jCZ n] w0
  (fun e w'=>∃r1 r2:Int,e=.returned (.tuple #[.int .i64 r1,.int .i64 r2])∧((r1,r2)=((Sp.make L n).1,(Sp.make L n).2.1)∧∃F',qK w' p (Sp.make L n).2.2 F'∧Ext F w0 w'∧∀b,F' b→F b∨w0.heap.size≤b)):=by
 obtain ⟨k,f,t,u,x,a,b⟩:=n
 generalize hn:(⟨k,f,t,u,x,a,b⟩:Sp.Node)=n
 have hnk:jCZ n=.agg #[.int .i64 k,.int .i64 f,.int .i64 t,.int .u64 u,.string x,.int .i64 a,.int .i64 b]:=by rw [← hn];rfl
 rw [hnk]
 suffices key:∀K:Int→Int→WP,(∀r1 r2 w',((r1,r2)=((Sp.make L n).1,(Sp.make L n).2.1)∧∃F',qK w' p (Sp.make L n).2.2 F'∧Ext F w0 w'∧∀b,F' b→F b∨w0.heap.size≤b)→K r1 r2 w')→m_R (some p) k f t u x a b w0 K from
  w_R _ _ _ _ _ _ _ _ w0 _ (key _ (fun _ _ _ h=>h))
 intro K hK
 have hsh:=jDZ n
 have hkd:=yT k
 rw [← hn] at hsh
 simp only at hsh
 rw [hn] at hsh
 have hna:n.a=a:=by rw [← hn]
 have hnb:n.b=b:=by rw [← hn]
 have hnkk:n.kind=k:=by rw [← hn]
 have hk:=Sp.qX k
 have same:∀(r1 r2:Int) (w':World),Pure w0 w'→Sp.make L n=(r1,r2,L)→K r1 r2 w':=fun r1 r2 w' E h=>hK _ _ _ ⟨by rw [h],F,by rw [h];exact hP.pure E,E.pure,fun b h=>.inl h⟩
 have bad:∀(er:Int) (w':World),er≠0→Pure w0 w'→Sp.check L n=(0,0,er)→K 0 er w':=fun er w' h0 E h=>same 0 er w' E (by unfold Sp.make;simp [h,h0])
 unfold m_R
 rw [hsh,hkd]
 have good:Sp.nodeErr n=0→Sp.check L n=(if (Sp.zM n).any (fun t=>!Sp.inP L t) then (0,0,51) else if 1+((Sp.zM n).map (Sp.sizeOf L)).sum>4096∨(Sp.zM n).foldl (fun d t=>max d (Sp.depthOf L t)) 0+1>64 then (0,0,52) else (1+((Sp.zM n).map (Sp.sizeOf L)).sum,(Sp.zM n).foldl (fun d t=>max d (Sp.depthOf L t)) 0+1,0)):=by
  intro h;unfold Sp.nodeErr at h;unfold Sp.check;split at h
  ·cases h
  ·rename_i h1;simp only;rw [if_neg h1];split at h
   ·cases h
   ·rename_i h2;rw [if_neg h2,if_neg (by simpa using h)]
 refine ⟨fun h=>?_,fun h=>?_⟩
 ·intro H1 w2 hs2
  have h:Sp.nodeErr n≠0:=by simpa using h
  refine bad _ _ h hs2.first ?_
  unfold Sp.nodeErr at h ⊢
  unfold Sp.check
  by_cases h1:Sp.vG n≠0
  ·rw [if_pos h1,if_pos h1]
   have:Sp.vG n=53:=(jCO n).resolve_right h1
   rw [this]
  ·rw [if_neg h1] at h ⊢
   simp only
   rw [if_neg h1]
   by_cases h2:((decide ((Sp.shapeOf n.kind).kids<1) && n.a != 0) || (decide ((Sp.shapeOf n.kind).kids<2) && n.b != 0))=true
   ·rw [if_pos h2,if_pos h2]
   ·rw [if_neg h2] at h ⊢;rw [if_neg h2,if_pos h]
 have h0:Sp.nodeErr n=0:=by simpa using h
 have hchk:=good h0
 have hzero:((Sp.shapeOf k).kids<1→a=0)∧((Sp.shapeOf k).kids<2→b=0):=by
  unfold Sp.nodeErr at h0;split at h0
  ·cases h0
  ·split at h0
   ·cases h0
   ·rename_i _ h2;rw [hnkk,hna,hnb] at h2;simp at h2;exact h2
 have hz0:Sp.inP L 0=false:=by simp [Sp.inP]
 have hs0:Sp.sizeOf L 0=0:=by simp [Sp.sizeOf,Sp.get,hz0]
 have hd0:Sp.depthOf L 0=0:=by simp [Sp.depthOf,Sp.get,hz0]
 have hsa:=hok.sizeOf a
 have hsb:=hok.sizeOf b
 have hda:=hok.depthOf a
 have hdb:=hok.depthOf b
 have hany:(Sp.zM n).any (fun t=>!Sp.inP L t)=((decide (1≤(Sp.shapeOf k).kids) && !Sp.inP L a) || (decide ((Sp.shapeOf k).kids=2) && !Sp.inP L b)):=by
  unfold Sp.zM;rw [hnkk,hna,hnb];rcases hk with h | h | h <;> rw [h] <;> simp
 have hsum:((Sp.zM n).map (Sp.sizeOf L)).sum=Sp.sizeOf L a+Sp.sizeOf L b:=by
  unfold Sp.zM;rw [hnkk,hna,hnb];rcases hk with h | h | h <;> rw [h] <;> simp
  ·rw [hzero.1 (by omega),hzero.2 (by omega),hs0];rfl
  ·rw [hzero.2 (by omega),hs0];omega
 have hmax:(Sp.zM n).foldl (fun d t=>max d (Sp.depthOf L t)) 0=max (Sp.depthOf L a) (Sp.depthOf L b):=by
  unfold Sp.zM;rw [hnkk,hna,hnb];rcases hk with h | h | h <;> rw [h] <;> simp
  ·rw [hzero.1 (by omega),hzero.2 (by omega),hd0];omega
  ·rw [hzero.2 (by omega),hd0];omega
  ·omega
 rw [hany,hsum,hmax] at hchk
 have J1:∀(x1:Bool) (H:NP) (w:World),Hst w0 H w H w→Pure w0 w→x1=((decide (1≤(Sp.shapeOf k).kids) && !Sp.inP L a) || (decide ((Sp.shapeOf k).kids=2) && !Sp.inP L b))→m_R_j1 (some p) k f t u x a b x1 w0 H w K:=by
  intro x1 H w hs E hx;rw [← hx] at hchk;unfold m_R_j1;refine ⟨fun h=>bad 51 w (by omega) E (by rw [hchk,h];rfl),fun h=>?_⟩;rw [h,if_neg (by simp)] at hchk;refine ⟨fun _=>True,trivial,?_⟩;rintro _ rfl;have Ed:Pure w0 w.drew:=E.trans (Ext.drew w);refine (jCV p a w.drew (hP.pure Ed) hok).mono ?_;rintro _ _ ⟨_,rfl,rfl,rfl⟩;refine ⟨_,rfl,trivial,Kept.refl _,?_⟩;refine (jCV p b w.drew (hP.pure Ed) hok).mono ?_;rintro _ _ ⟨_,rfl,rfl,rfl⟩;refine ⟨_,rfl,trivial,Kept.refl _,fun _=>True,trivial,?_⟩;rintro _ rfl;have Ed2:Pure w0 w.drew.drew:=Ed.trans (Ext.drew w.drew);refine (jBT p a w.drew.drew (hP.pure Ed2) hok).mono ?_;rintro _ _ ⟨_,rfl,rfl,rfl⟩;refine ⟨_,rfl,trivial,Kept.refl _,?_⟩;refine (jBT p b w.drew.drew (hP.pure Ed2) hok).mono ?_;rintro _ _ ⟨_,rfl,rfl,rfl⟩;refine ⟨_,rfl,trivial,Kept.refl _,_,fun w' _=>run_max_int2 _ _ _ _ _ _ _,?_⟩;have hmx:(if Sp.depthOf L b>Sp.depthOf L a then Sp.depthOf L b else Sp.depthOf L a)=max (Sp.depthOf L a) (Sp.depthOf L b):=by
   split <;> omega
  generalize hz:(if Sp.depthOf L b>Sp.depthOf L a then Sp.depthOf L b else Sp.depthOf L a)=z at *;have hz64:0≤z∧z≤64:=by rw [hmx];omega
  have e1:IntKind.i64.wrap (IntKind.i64.wrap (1+Sp.sizeOf L a)+Sp.sizeOf L b)=1+(Sp.sizeOf L a+Sp.sizeOf L b):=by
   rw [i64 (n:=1+Sp.sizeOf L a) (by omega) (by omega),i64 (by omega) (by omega)];omega
  have e2:IntKind.i64.wrap (1+z)=z+1:=by rw [i64 (by omega) (by omega)];omega
  rw [e1,e2];rw [← hmx] at hchk;rintro y1 rfl;have hsx:Hst w0 H w.drew.drew H w.drew.drew:=(hs.drew.here.drew).here;refine ⟨fun h=>?_,fun h=>?_⟩
  ·intro H2 w10 hs10;refine bad 52 w10 (by omega) (Ed2.hst hs10) ?_;rw [hchk,if_pos (by simpa using h)]
  ·intro H2 w10 hs10;have hck:Sp.check L n=(1+(Sp.sizeOf L a+Sp.sizeOf L b),z+1,0):=by rw [hchk,if_neg (by simp at h;omega)]
   have E10:=Ed2.hst hs10;rw [← hnk];refine (jKN p n w10 (hP.pure E10) hok).mono ?_;rintro _ w11 ⟨r,ok,rfl,hfd,E11⟩;refine ⟨_,_,rfl,E11.keptP,?_⟩;have E11':=E10.trans E11;have hs11:Hst w0 H2 w11 H2 w11:=hs10.again E11.keptP;cases hf:Sp.find L n with
   | some i =>
    rw [hf] at hfd
    obtain ⟨rfl,rfl⟩:=hfd
    exact Br.t rfl (same _ _ _ E11' (by unfold Sp.make;simp [hck,hf]))
   | none =>
    rw [hf] at hfd
    obtain ⟨rfl,rfl⟩:=hfd
    refine Br.f rfl ?_
    obtain ⟨s1,s2,s3,hS,hF⟩:=hP.pure E11'
    have hlen:s1.len=L.length:=by rw [hS.r1.len];simp
    refine ⟨p,rfl,s1,hS.box.cell0,fun h=>?_,fun h=>?_⟩
    ·have h2:65536≤L.length:=by have h:=of_decide_eq_true h;omega
     exact same _ _ _ E11' (by unfold Sp.make;simp [hck,hf,h2])
    ·have h2:¬ 65536≤L.length:=by have h:=of_decide_eq_false h;omega
     have hmk:Sp.make L n=((L.length:Int)+1,0,L++[⟨n,1+(Sp.sizeOf L a+Sp.sizeOf L b),z+1⟩]):=by unfold Sp.make;simp [hck,hf,h2]
     have hvis:∀b,F b→¬ H2 b:=fun b hb h2=>by have:=hP.lt hb;have:=hs11.old b h2;omega
     have hpF:F p.block:=(hF _).2 (.inl rfl)
     refine ⟨fun w'=>w'.cell? p=some s1.v,hS.box.cell0,?_⟩
     rintro _ rfl
     have E12:Pure w11 w11.drew:=Ext.drew w11
     refine ⟨p,rfl,s1,fun w' h'=>h',?_⟩
     intro p3 w13 h13
     have E13:Pure w11 w13:=E12.trans (Ext.new h13)
     have B13:=hS.box.pure E13
     refine ⟨B13.cell0,?_⟩
     obtain ⟨t1,w14,hr14,R14,B14,np1,X14,nb1⟩:=jEV (P:=prog) (ty:=49) jKU B13 (hS.r1.pure E13) hS.n1 (a:=p3) (r:=xD n) (by rw [← hn];exact (Box.of_new h13).row) rfl rfl (by simp;omega) (by simp [maxLen];omega)
     refine ⟨t1,w14,hr14,B14.cell0,X14.kept (fun b hb h=>hvis b ((hF b).2 (.inr (.inl h))) hb),p,rfl,B14.canW0 (by simp),hvis _ hpF,?_⟩
     rintro w15 hw15
     have B15:Box w15 p [t1.v,s2.v,s3.v] 52:=by rw [hw15];exact B14.set0
     have X15:Ext (·=p.block) w14 w15:=by rw [hw15];exact Ext.setCell p _
     clear hw15
     have R15:=R14.ext X15 (fun b hb e=>np1 (e▸hb))
     have R2:=((hS.r2.pure E13).ext X14 (fun b h2 h1=>hS.d12 b h1 h2)).ext X15 (fun b hb e=>hS.n2 (e▸hb))
     have R3:=((hS.r3.pure E13).ext X14 (fun b h2 h1=>hS.d13 b h1 h2)).ext X15 (fun b hb e=>hS.n3 (e▸hb))
     have d12':∀b,t1.blk b→¬ s2.blk b:=fun b hb h2=>(nb1 b hb).elim (fun h=>hS.d12 b h h2) (fun h=>by have:=hS.r2.lt h2;have:=E13.size;omega)
     have d13':∀b,t1.blk b→¬ s3.blk b:=fun b hb h2=>(nb1 b hb).elim (fun h=>hS.d13 b h h2) (fun h=>by have:=hS.r3.lt h2;have:=E13.size;omega)
     refine ⟨p,rfl,s2,B15.cell rfl,?_⟩
     intro p4 w16 h16
     have E16:Pure w15 w16:=Ext.new h16
     have B16:=B15.pure E16
     obtain ⟨t2,w17,hr17,R17,B17,np2,X17,nb2⟩:=jEV (P:=prog) (ty:=50) jCC B16 (R2.pure E16) hS.n2 (a:=p4) (r:=[.int .i64 (1+(Sp.sizeOf L a+Sp.sizeOf L b))]) (Box.of_new h16).row rfl rfl (by simp;omega) (by simp [maxLen];omega)
     refine ⟨t2,w17,hr17,X17.kept (fun b hb h=>hvis b ((hF b).2 (.inr (.inr (.inl h)))) hb),p,rfl,B17.canW (by simp),by rw [zR];exact hvis _ hpF,?_⟩
     rintro w18 hw18
     have B18:Box w18 p [t1.v,t2.v,s3.v] 52:=by rw [hw18];exact B17.set 1 _
     have X18:Ext (·=p.block) w17 w18:=by rw [hw18];have:=Ext.setCell (w:=w17) (p.add 1) t2.v;rw [zR] at this;exact this
     clear hw18
     have Q1:=((R15.pure E16).ext X17 (fun b h1 h2=>d12' b h1 h2)).ext X18 (fun b hb e=>np1 (e▸hb))
     have Q2:=R17.ext X18 (fun b hb e=>np2 (e▸hb))
     have Q3:=((R3.pure E16).ext X17 (fun b h3 h2=>hS.d23 b h2 h3)).ext X18 (fun b hb e=>hS.n3 (e▸hb))
     have d12'':∀b,t1.blk b→¬ t2.blk b:=fun b hb h2=>(nb2 b h2).elim (fun h=>d12' b hb h) (fun h=>by have:=(R15.pure E16).lt hb;omega)
     have d23':∀b,t2.blk b→¬ s3.blk b:=fun b hb h2=>(nb2 b hb).elim (fun h=>hS.d23 b h h2) (fun h=>by have:=(R3.pure E16).lt h2;omega)
     refine ⟨p,rfl,s3,B18.cell rfl,?_⟩
     intro p5 w19 h19
     have E19:Pure w18 w19:=Ext.new h19
     have B19:=B18.pure E19
     obtain ⟨t3,w20,hr20,R20,B20,np3,X20,nb3⟩:=jEV (P:=prog) (ty:=50) jCC B19 (Q3.pure E19) hS.n3 (a:=p5) (r:=[.int .i64 (z+1)]) (Box.of_new h19).row rfl rfl (by simp;omega) (by simp [maxLen];omega)
     refine ⟨t3,w20,hr20,X20.kept (fun b hb h=>hvis b ((hF b).2 (.inr (.inr (.inr h)))) hb),p,rfl,B20.canW (by simp),by rw [zR];exact hvis _ hpF,?_⟩
     rintro w21 hw21
     have B21:Box w21 p [t1.v,t2.v,t3.v] 52:=by rw [hw21];exact B20.set 2 _
     have X21:Ext (·=p.block) w20 w21:=by rw [hw21];have:=Ext.setCell (w:=w20) (p.add 2) t3.v;rw [zR] at this;exact this
     clear hw21
     have d13'':∀b,t1.blk b→¬ t3.blk b:=fun b hb h2=>(nb3 b h2).elim (fun h=>d13' b hb h) (fun h=>by have:=(Q1.pure E19).lt hb;omega)
     have d23'':∀b,t2.blk b→¬ t3.blk b:=fun b hb h2=>(nb3 b h2).elim (fun h=>d23' b hb h) (fun h=>by have:=(Q2.pure E19).lt hb;omega)
     have Z1:=((Q1.pure E19).ext X20 (fun b h1 h2=>d13' b h1 h2)).ext X21 (fun b hb e=>np1 (e▸hb))
     have Z2:=((Q2.pure E19).ext X20 (fun b h1 h2=>d23' b h1 h2)).ext X21 (fun b hb e=>np2 (e▸hb))
     have Z3:=R20.ext X21 (fun b hb e=>np3 (e▸hb))
     have hl1:(t1.len:Int)=L.length+1:=by rw [R14.len];simp
     refine ⟨p,rfl,t1,B21.cell0,?_⟩
     rw [hl1]
     refine hK _ _ _ ⟨by rw [hmk],fun b=>b=p.block∨t1.blk b∨t2.blk b∨t3.blk b,?_,?_,?_⟩
     ·rw [hmk]
      exact ⟨t1,t2,t3,⟨B21,by simpa [jQS] using Z1,by simpa [jTQ] using Z2,by simpa [jOH] using Z3,np1,np2,np3,d12'',d13'',d23''⟩,fun _=>Iff.rfl⟩
     ·have a1:Ext F w0 w14:=(E11'.trans E13).pure.trans' X14 (fun i _ h=>(hF i).2 (.inr (.inl h)))
      have a2:Ext F w0 w15:=a1.trans' X15 (fun i _ h=>(hF i).2 (.inl h))
      have a3:Ext F w0 w17:=(a2.thenPure E16).trans' X17 (fun i _ h=>(hF i).2 (.inr (.inr (.inl h))))
      have a4:Ext F w0 w18:=a3.trans' X18 (fun i _ h=>(hF i).2 (.inl h))
      have a5:Ext F w0 w20:=(a4.thenPure E19).trans' X20 (fun i _ h=>(hF i).2 (.inr (.inr (.inr h))))
      exact a5.trans' X21 (fun i _ h=>(hF i).2 (.inl h))
     ·have z13:w0.heap.size≤w13.heap.size:=(E11'.trans E13).size
      have z16:w0.heap.size≤w16.heap.size:=by have:=X14.size;have:=X15.size;have:=E16.size;omega
      have z19:w0.heap.size≤w19.heap.size:=by have:=X17.size;have:=X18.size;have:=E19.size;omega
      rintro b (rfl | hb | hb | hb)
      ·exact .inl hpF
      ·exact (nb1 b hb).imp (fun h=>(hF b).2 (.inr (.inl h))) (fun h=>by omega)
      ·exact (nb2 b hb).imp (fun h=>(hF b).2 (.inr (.inr (.inl h)))) (fun h=>by omega)
      ·exact (nb3 b hb).imp (fun h=>(hF b).2 (.inr (.inr (.inr h)))) (fun h=>by omega)
 have J2:∀(x2:Bool) (H:NP) (w:World),Hst w0 H w H w→Pure w0 w→x2=(decide (1≤(Sp.shapeOf k).kids) && !Sp.inP L a)→m_R_j2 (some p) k f t u x a b x2 w0 H w K:=by
  intro x2 H w hs E hx;unfold m_R_j2;rw [hkd];refine ⟨fun h=>J1 true H w hs E (by rw [← hx,h];rfl),fun h=>⟨fun h2=>?_,fun h2=>J1 false H w hs E ?_⟩⟩
  ·refine (uG p b w (hP.pure E)).mono ?_;rintro _ _ ⟨_,rfl,rfl,rfl⟩;refine ⟨_,rfl,Kept.refl _,J1 _ H _ hs E ?_⟩;have h2:(Sp.shapeOf k).kids=2:=by simpa using h2
   rw [← hx,h];simp [h2]
  ·have h2:(Sp.shapeOf k).kids≠2:=by simpa using h2
   rw [← hx,h];simp [h2]
 refine ⟨fun h=>?_,fun h=>?_⟩
 ·intro H1 w3 hs3
  refine (uG p a w3 (hP.pure hs3.first)).mono ?_
  rintro _ _ ⟨_,rfl,rfl,rfl⟩
  refine ⟨_,rfl,Kept.refl _,J2 _ H1 _ hs3.here hs3.first ?_⟩
  have:1≤(Sp.shapeOf k).kids:=by have:=of_decide_eq_true h;omega
  simp [this]
 ·intro H1 w3 hs3
  refine J2 _ H1 _ hs3.here hs3.first ?_
  have:¬ 1≤(Sp.shapeOf k).kids:=by have:=of_decide_eq_false h;omega
  simp [this]
theorem jIH (s:Sp.Shape) (n:Sp.Node):Sp.zZ s n≠53:=by
 unfold Sp.zZ;split
 ·omega
 ·split <;> omega
theorem jOO (k f t u:Int) (x:ByteArray) (len:Nat):Sp.xY ⟨k,f,t,u,x,0,0⟩ len=(if (Sp.nodeErr ⟨k,f,t,u,x,0,0⟩≠53∧(len:Int)≠(Sp.shapeOf k).kids) then 53 else Sp.nodeErr ⟨k,f,t,u,x,0,0⟩):=by
 unfold Sp.xY Sp.nodeErr;simp only;rcases jCO ⟨k,f,t,u,x,0,0⟩ with h | h
 ·rw [h];simp
 ·rw [h];have:=jIH (Sp.shapeOf k) ⟨k,f,t,u,x,0,0⟩;by_cases h2:(len:Int)=(Sp.shapeOf k).kids <;> simp [h2,this]
theorem jFA {S:NP} (q:Addr) (hq:¬ S q.block) (T:TypeId) (t:Sp.Tree):∀(s:Sl) (inside seen:Int) (w0:World),0≤inside→0≤seen→TreeAt S w0 s t→(∀b,S b→b<w0.heap.size)→Box w0 q [.int .i64 seen] T →
  Calls prog 110 #[.agg (yV t s).toArray,.int .i64 inside,.pointer (some q)] w0
   (fun e w'=>∃r:Int,e=.returned (.int .i64 r)∧(r=(Sp.qT inside seen t).1∧Box w' q [.int .i64 (Sp.qT inside seen t).2] T∧Ext (·=q.block) w0 w')):=by
 induction t using Sp.Tree.ind with
 | h k f t u x ks ih =>
 intro s inside seen w0 hi0 hn0 hT hSw hB
 suffices key:∀K:Int→WP,(∀r w',(r=(Sp.qT inside seen (.mk k f t u x ks)).1∧Box w' q [.int .i64 (Sp.qT inside seen (.mk k f t u x ks)).2] T∧Ext (·=q.block) w0 w')→K r w')→m_Y k f t u x s inside (some q) w0 K from
  w_Y _ _ _ _ _ _ _ _ w0 _ (key _ (fun _ _ h=>h))
 intro K hK
 have hql:=hB.lt
 unfold m_Y
 refine ⟨q,rfl,?_⟩
 intro H1 w1 hs1
 have hB1:=hB.pure hs1.first
 refine ⟨seen,hB1.cell0,?_⟩
 intro H5 w13 hs5
 have E13:=hs1.first.hst hs5
 have hB13:=hB.pure E13
 have hq0:∀{H w' H' w''},Hst w0 H w' H' w''→¬ H' q.block:=fun h hh=>by have:=h.old _ hh;omega
 unfold m_Y_j1
 refine ⟨fun h=>?_,fun h=>?_⟩
 ·have : Sp.qT inside seen (.mk k f t u x ks) = (52, seen) := by
   rw [Sp.qT];simp only [Bool.or_eq_true,decide_eq_true_eq] at h;by_cases h1:4096≤seen
   ·rw [if_pos h1]
   ·rw [if_neg h1,if_pos (by omega)]
  rw [this] at hK;exact hK _ _ ⟨rfl,hB13,E13.pure⟩
 ·have h1 : ¬ 4096 ≤ seen ∧ ¬ 64 ≤ inside := by
   simp only [Bool.or_eq_false_iff,decide_eq_false_iff_not] at h;omega
  have hsp:Sp.qT inside seen (.mk k f t u x ks)=Sp.vV (inside+1) (Sp.xY ⟨k,f,t,u,x,0,0⟩ ks.length) (seen+1) ks:=by rw [Sp.qT,if_neg h1.1,if_neg h1.2]
  rw [hsp] at hK
  have hlen:s.len=ks.length:=by cases hT;assumption
  have hfit:ks.length≤9223372036854775807:=by cases hT;assumption
  refine ⟨q,rfl,seen,hB13.cell0,q,rfl,hB13.canW0 (by simp),hq0 hs5,?_⟩
  rw [i64 (n:=seen+1) (by omega) (by omega)]
  rintro w2 hw2
  have hB2:Box w2 q [.int .i64 (seen+1)] T:=by rw [hw2];exact hB13.set0
  have E2:Ext (·=q.block) w0 w2:=by rw [hw2];exact E13.pure.trans (Ext.setCell q _)
  clear hw2
  rintro y1 rfl
  have hsh:=jDZ ⟨k,f,t,u,x,0,0⟩
  simp only at hsh
  rw [hsh,yT,hlen]
  have hown:cond ((Sp.nodeErr ⟨k,f,t,u,x,0,0⟩ != 53) && ((ks.length:Int) != (Sp.shapeOf k).kids)) 53 (Sp.nodeErr ⟨k,f,t,u,x,0,0⟩)=Sp.xY ⟨k,f,t,u,x,0,0⟩ ks.length:=by
   rw [jOO];by_cases h2:Sp.nodeErr ⟨k,f,t,u,x,0,0⟩=53
   ·simp [h2]
   ·by_cases h3:(ks.length:Int)=(Sp.shapeOf k).kids
    ·simp [h3]
    ·have e1:(Sp.nodeErr ⟨k,f,t,u,x,0,0⟩ != 53)=true:=by simpa using h2
     have e2:((ks.length:Int) != (Sp.shapeOf k).kids)=true:=by simpa using h3
     rw [e1,e2,if_pos ⟨h2,h3⟩];rfl
  rw [hown]
  intro H3 w10 hs3
  have E10:Ext (·=q.block) w0 w10:=E2.hst hs3
  have hB10:=hB2.ext hs3.ext (hq0 hs3)
  refine ⟨fun e i H w'=>∃j:Nat,i=j∧j≤ks.length∧∃n:Int,0≤n∧Ext (·=q.block) w0 w'∧Box w' q [.int .i64 n] T∧Sp.vV (inside+1) e n (ks.drop j)=Sp.vV (inside+1) (Sp.xY ⟨k,f,t,u,x,0,0⟩ ks.length) (seen+1) ks,fun _ i _=>((ks.length:Int) - i).toNat,⟨0,rfl,Nat.zero_le _,seen+1,by omega,E10,hB10,rfl⟩,?_⟩
  rintro e1 _ Hl wl hl ⟨j,rfl,hj,n,hn,El,hBl,heq⟩
  unfold m_Y_l2
  have hTl:=hT.ext El (fun b hb e=>hq (e▸hb))
  refine ⟨fun hc=>?_,fun hc=>?_⟩
  ·simp only [Bool.and_eq_true,beq_iff_eq] at hc
   obtain ⟨he,hlt⟩:=hc
   have hlt:=yZ hlen hlt
   subst he
   cases hTl with
   | mk _ _ _ _ _ _ _ rs len fit row kid =>
   obtain ⟨a,hat,ha,hr⟩:=row j hlt
   refine ⟨a,hat,?_⟩
   intro H4 w11 hs4
   have E11:=El.hst hs4
   have hT11:=hT.ext E11 (fun b hb e=>hq (e▸hb))
   have hr11:Row w11 a (yV ks[j] (rs j)):=hs4.ext.row hr (fun hh=>by have:=hs4.old _ hh;have:=hSw _ ha;omega)
   have hk11:TreeAt S w11 (rs j) ks[j]:=(kid j hlt).ext hs4.ext (fun b hb hh=>by have:=hs4.old _ hh;have:=hSw _ hb;omega)
   have hB11:=hBl.ext hs4.ext (hq0 hs4)
   refine ⟨_,_,_,_,_,rs j,hr11,?_⟩
   rw [i64 (n:=inside+1) (by omega) (by omega)]
   refine (ih j hlt (rs j) (inside+1) n w11 (by omega) hn hk11 (fun b hb=>by have:=hSw b hb;have:=E11.size;omega) hB11).mono ?_
   rintro _ w12 ⟨r,rfl,rfl,hB12,E12⟩
   refine ⟨_,rfl,E12.kept (fun b hb e=>hq0 hs4 (e▸hb)),?_⟩
   rw [vK hlt (by omega)]
   refine ⟨⟨j+1,rfl,hlt,_,jFO ks[j] (inside+1) n hn,E11.trans E12,hB12,?_⟩,jAK hlt⟩
   rw [← heq];exact (jBO hlt (inside+1) n).symm
  ·intro H4 w11 hs4
   have hfin:Sp.vV (inside+1) e1 n (ks.drop j)=(e1,n):=by
    by_cases he:e1=0
    ·have hge : j = ks.length := by
      rw [he] at hc;have hc:decide ((j:Int)<(s.len:Int))=false:=by simpa using hc
      exact uL hlen hj hc
     rw [hge,List.drop_length];rfl
    ·exact jCR he _ _
   rw [hfin] at heq
   refine hK _ _ ⟨by rw [← heq],?_,El.hst hs4⟩
   rw [← heq];exact hBl.ext hs4.ext (hq0 hs4)
theorem jGQ {S:NP} (t:Sp.Tree) (s:Sl) (w0:World) (hT:TreeAt S w0 s t) (hSw:∀b,S b→b<w0.heap.size) :
  Calls prog 57 #[.agg (yV t s).toArray] w0 (fun e w'=>∃r:Int,e=.returned (.int .i64 r)∧(r=(Sp.qT 0 0 t).1∧Pure w0 w')):=by
 obtain ⟨k,f,to,u,x,ks⟩:=t
 refine w_T3 _ _ _ _ _ _ w0 (fun r w'=>r=(Sp.qT 0 0 (.mk k f to u x ks)).1∧Pure w0 w') ?_
 unfold m_T3
 intro H1 w1 hs1 p w2 h2
 have b2:=Box.of_new h2
 have E2:Pure w0 w2:=hs1.first.trans (Ext.new h2)
 have o2:=New.own hs1.first h2
 have hpH:¬ H1 p.block:=fun hh=>by have:=hs1.lt _ hh;have:=h2.at_size;omega
 refine ⟨b2.canW0 (by simp),hpH,?_⟩
 rintro w3 hw3
 have b3:Box w3 p [.int .i64 0] 3:=by rw [hw3];exact b2.set0
 have E3:Pure w0 w3:=by rw [hw3];exact E2.own o2 (Ext.setCell p _)
 clear hw3
 refine (jFA p (fun h=>by have:=hSw _ h;omega) _ _ s 0 0 w3 (Int.le_refl _) (Int.le_refl _) (hT.pure E3) (fun b hb=>by have:=hSw b hb;have:=E3.size;omega) b3).mono ?_
 rintro _ w4 ⟨r,rfl,rfl,_,E4⟩
 exact ⟨_,rfl,E4.kept (fun b hb e=>hpH (e▸hb)),rfl,E3.own o2 E4⟩
theorem jKM (p:Addr) (n:Nat) (w0:World) {L:Sp.Pool} {F:NP} (hP:qK w0 p L F) (hn:n≤L.length) :
  Calls prog 59 #[.pointer (some p),.int .i64 n] w0 (fun e w'=>e=.returned (.tuple #[])∧qK w' p (L.take n) F∧Ext F w0 w'):=by
 suffices key:∀K:WP,(∀w',qK w' p (L.take n) F∧Ext F w0 w'→K w')→m_K2 (some p) n w0 K from
  w_K2 _ _ w0 _ (key _ (fun _ h=>h))
 intro K hK
 unfold m_K2
 obtain ⟨s1,s2,s3,hS,hF⟩:=hP
 obtain ⟨t1,hr1,R1,hb1⟩:=Rws.hi (P:=prog) jKU hS.r1 (k:=.i64) (n:=n) (by omega) (by simpa using hn)
 refine ⟨p,rfl,s1,hS.box.cell0,t1,hr1,p,rfl,hS.box.canW0 (by simp),?_⟩
 rintro w1 hw1
 have B1:Box w1 p [t1.v,s2.v,s3.v] 52:=by rw [hw1];exact hS.box.set0
 have X1:Ext (·=p.block) w0 w1:=by rw [hw1];exact Ext.setCell p _
 clear hw1
 obtain ⟨t2,hr2,R2,hb2⟩:=Rws.hi (P:=prog) jCC (hS.r2.ext X1 (fun b hb e=>hS.n2 (e▸hb))) (k:=.i64) (n:=n) (by omega) (by simpa using hn)
 refine ⟨p,rfl,s2,B1.cell rfl,t2,hr2,p,rfl,B1.canW (by simp),?_⟩
 rintro w2 hw2
 have B2:Box w2 p [t1.v,t2.v,s3.v] 52:=by rw [hw2];exact B1.set 1 _
 have X2:Ext (·=p.block) w1 w2:=by rw [hw2];have:=Ext.setCell (w:=w1) (p.add 1) t2.v;rw [zR] at this;exact this
 clear hw2
 obtain ⟨t3,hr3,R3,hb3⟩:=Rws.hi (P:=prog) jCC (hS.r3.ext (X1.trans X2) (fun b hb e=>hS.n3 (e▸hb))) (k:=.i64) (n:=n) (by omega) (by simpa using hn)
 refine ⟨p,rfl,s3,B2.cell rfl,t3,hr3,p,rfl,B2.canW (by simp),?_⟩
 rintro w3 hw3
 have B3:Box w3 p [t1.v,t2.v,t3.v] 52:=by rw [hw3];exact B2.set 2 _
 have X3:Ext (·=p.block) w2 w3:=by rw [hw3];have:=Ext.setCell (w:=w2) (p.add 2) t3.v;rw [zR] at this;exact this
 clear hw3
 have E:=(X1.trans X2).trans X3
 refine hK _ ⟨⟨t1,t2,t3,⟨B3,?_,?_,?_,fun h=>hS.n1 ((hb1 _).1 h),fun h=>hS.n2 ((hb2 _).1 h),fun h=>hS.n3 ((hb3 _).1 h),fun b h1 h2=>hS.d12 b ((hb1 b).1 h1) ((hb2 b).1 h2),fun b h1 h2=>hS.d13 b ((hb1 b).1 h1) ((hb3 b).1 h2),fun b h1 h2=>hS.d23 b ((hb2 b).1 h1) ((hb3 b).1 h2)⟩,fun b=>by rw [hF b,hb1 b,hb2 b,hb3 b]⟩,E.mono (fun i _ h=>(hF i).2 (.inl h))⟩
 ·have:=R1.ext E (fun b hb e=>hS.n1 ((hb1 _).1 (e▸hb)))
  rw [List.map_take];simpa using this
 ·have:=R2.ext (X2.trans X3) (fun b hb e=>hS.n2 ((hb2 _).1 (e▸hb)))
  rw [List.map_take];simpa using this
 ·have:=R3.ext X3 (fun b hb e=>hS.n3 ((hb3 _).1 (e▸hb)))
  rw [List.map_take];simpa using this
theorem jIU {S:NP} (p:Addr) (t:Sp.Tree):∀(s:Sl) (w0:World) (L:Sp.Pool) (F:NP),Sp.Tree.two t→TreeAt S w0 s t→qK w0 p L F→Sp.Ok L→(∀b,F b→¬ S b)→(∀b,S b→b<w0.heap.size) →
  Calls prog 58 #[.pointer (some p),.agg (yV t s).toArray] w0
   (fun e w'=>∃r1:Int,∃r2:Int,e=.returned (.tuple #[.int .i64 r1,.int .i64 r2])∧((r1,r2)=((Sp.grow L t).1,(Sp.grow L t).2.1)∧∃F',qK w' p (Sp.grow L t).2.2 F'∧Ext F w0 w'∧∀b,F' b→F b∨w0.heap.size≤b)):=by
 induction t using Sp.Tree.ind with
 | h k f t u x ks ih =>
 intro s w0 L F h2 hT hP hok hFS hSw
 suffices key:∀K:Int→Int→WP,(∀r1 r2 w',((r1,r2)=((Sp.grow L (.mk k f t u x ks)).1,(Sp.grow L (.mk k f t u x ks)).2.1)∧∃F',qK w' p (Sp.grow L (.mk k f t u x ks)).2.2 F'∧Ext F w0 w'∧∀b,F' b→F b∨w0.heap.size≤b)→K r1 r2 w')→m_O1 (some p) k f t u x s w0 K from
  w_O1 _ _ _ _ _ _ _ w0 _ (key _ (fun _ _ _ h=>h))
 intro K hK
 obtain ⟨hk2,hall⟩:=jNT.1 h2
 have hsp:Sp.grow L (.mk k f t u x ks)=Sp.vP ⟨k,f,t,u,x,0,0⟩ 0 L ks:=by rw [Sp.grow]
 rw [hsp] at hK
 have hlen:s.len=ks.length:=by cases hT;assumption
 unfold m_O1
 intro H2 w4 hs4
 refine ⟨fun i a1 a2 a3 a4 a5 a6 a7 H w'=>∃j:Nat,i=j∧j≤ks.length∧∃(L':Sp.Pool) (F':NP),Sp.vP ⟨k,f,t,u,x,0,0⟩ 0 L ks=Sp.vP ⟨a1,a2,a3,a4,a5,a6,a7⟩ j L' (ks.drop j)∧Sp.Ok L'∧qK w' p L' F'∧(∀b,F' b→F b∨w0.heap.size≤b)∧(∀b,F' b→¬ H b)∧Ext F w0 w',fun i _ _ _ _ _ _ _ _=>((ks.length:Int) - i).toNat,
  ⟨0,rfl,Nat.zero_le _,L,F,by simp,hok,hP.pure hs4.first,fun b h=>.inl h,hs4.disj0 (fun b hb=>hP.lt hb),hs4.first.pure⟩,?_⟩
 rintro _ a1 a2 a3 a4 a5 a6 a7 Hl wl hl ⟨j,rfl,hj,L',F',heq,hok',hPl,hF',hv,El⟩
 unfold m_O1_l1
 refine ⟨fun h=>?_,fun h=>?_⟩
 ·have hlt:=yZ hlen h
  have hTl:TreeAt S wl s (.mk k f t u x ks):=hT.ext El (fun b hs hf=>hFS b hf hs)
  have hkid:∃a r,At s j 6 a∧Row wl a (yV ks[j] r)∧TreeAt S wl r ks[j]:=by
   cases hTl with
   | mk _ _ _ _ _ _ _ rs len fit row kid=>exact let ⟨a,h1,_,h3⟩:=row j hlt;⟨a,rs j,h1,h3,kid j hlt⟩
  obtain ⟨a,r,hat,hrow,hTk⟩:=hkid
  refine ⟨a,hat,_,_,_,_,_,r,hrow,?_⟩
  have hsz:w0.heap.size≤wl.heap.size:=El.size
  refine (ih j hlt r wl L' F' (jFE hall hlt) hTk hPl hok' (fun b hb hs=>(hF' b hb).elim (fun h=>hFS b h hs) (fun h=>by have:=hSw b hs;omega)) (fun b hs=>by have:=hSw b hs;omega)).mono ?_
  rintro _ w8 ⟨r1,r2,rfl,hr,F8,hP8,E8,hF8⟩
  have e1:r1=(Sp.grow L' ks[j]).1:=congrArg Prod.fst hr
  have e2:r2=(Sp.grow L' ks[j]).2.1:=congrArg Prod.snd hr
  rw [List.drop_eq_getElem_cons hlt] at heq
  have hF8':∀b,F8 b→F b∨w0.heap.size≤b:=fun b hb=>(hF8 b hb).elim (hF' b) (fun h=>by right;omega)
  have Ew8:Ext F w0 w8:=El.trans' E8 (fun i hi h=>(hF' i h).elim id (fun h=>by omega))
  refine ⟨_,_,rfl,E8.kept (fun b hH hF=>hv b hF hH),fun h=>?_,fun h=>?_⟩
  ·have h:(Sp.grow L' ks[j]).2.1≠0:=by rw [← e2];simpa using h
   rw [jEL h] at heq
   refine hK _ _ _ ?_
   rw [heq];exact ⟨by rw [e2],F8,hP8,Ew8,hF8'⟩
  ·have h:(Sp.grow L' ks[j]).2.1=0:=by rw [← e2];simpa using h
   rw [jCT h] at heq
   intro H3 w9 hs9
   have hv8:∀b,F8 b→¬ Hl b:=fun b hb hH=>(hF8 b hb).elim (fun h=>hv b h hH) (fun h=>by have:=hl.lt b hH;omega)
   have hv9:∀b,F8 b→¬ H3 b:=hs9.disj (fun b hb=>⟨hP8.lt hb,hv8 b hb⟩)
   rw [vK hlt (by omega)]
   refine ⟨⟨j+1,rfl,hlt,_,F8,?_,(Sp.jAC ks[j] L' hok').1,hP8.ext hs9.ext hv9,hF8',hv9,Ew8.hst hs9⟩,jAK hlt⟩
   rw [heq,e1]
   have hj0:(((j:Int)) == 0)=decide (j=0):=by rw [Bool.eq_iff_iff];simp
   rw [hj0]
   by_cases hj0':j=0
   ·subst hj0';rfl
   ·simp [hj0']
 ·have hge:=uL hlen hj h
  rw [hge,List.drop_length,Sp.vP] at heq
  refine (jIZ p ⟨a1,a2,a3,a4,a5,a6,a7⟩ wl hPl hok').mono ?_
  rintro _ w9 ⟨r1,r2,rfl,hr,F9,hP9,E9,hF9⟩
  have hsz:w0.heap.size≤wl.heap.size:=El.size
  refine ⟨_,_,rfl,E9.kept (fun b hH hF=>hv b hF hH),hK _ _ _ ?_⟩
  rw [heq]
  exact ⟨hr,F9,hP9,El.trans' E9 (fun i hi h=>(hF' i h).elim id (fun h=>by omega)),fun b hb=>(hF9 b hb).elim (hF' b) (fun h=>by right;omega)⟩
theorem jGM (t:Sp.Tree):∀L,(Sp.grow L t).2.1≠0→(Sp.grow L t).1=0:=by
 induction t using Sp.Tree.ind with
 | h k f t u x ks ih =>
  have hmk:∀L n,(Sp.make L n).2.1≠0→(Sp.make L n).1=0:=by
   intro L n h;unfold Sp.make at h ⊢;simp only at h ⊢;split at h
   ·rename_i h1;rw [if_pos h1]
   ·rename_i h1;rw [if_neg h1];split at h
    ·rename_i hf;exact absurd rfl h
    ·split at h
     ·rename_i h2;simp [h2]
     ·exact absurd rfl h
  have:∀(ks:List Sp.Tree),(∀i (hi:i<ks.length),∀L,(Sp.grow L ks[i]).2.1≠0→(Sp.grow L ks[i]).1=0)→∀n i L,(Sp.vP n i L ks).2.1≠0→(Sp.vP n i L ks).1=0:=by
   intro ks;induction ks with
   | nil=>intro _ n i L h;unfold Sp.vP at h ⊢;exact hmk L n h
   | cons t ts iht =>
    intro hh n i L h
    unfold Sp.vP at h ⊢
    split at h
    ·rename_i h1;rw [if_pos h1]
    ·rename_i h1;rw [if_neg h1];exact iht (fun i hi=>hh (i+1) (by simpa using hi)) _ _ _ h
  intro L h
  unfold Sp.grow at h ⊢
  exact this ks ih _ _ L h
theorem jNB {S:NP} (p:Addr) (t:Sp.Tree) (s:Sl) (w0:World) {L:Sp.Pool} {F:NP} (hT:TreeAt S w0 s t) (hP:qK w0 p L F) (hok:Sp.Ok L) (hFS:∀b,F b→¬ S b) (hSw:∀b,S b→b<w0.heap.size) :
  Calls prog 14 #[.pointer (some p),.agg (yV t s).toArray] w0
   (fun e w'=>∃r1:Int,∃r2:Int,e=.returned (.tuple #[.int .i64 r1,.int .i64 r2])∧((r1,r2)=((Sp.of L t).1,(Sp.of L t).2.1)∧∃F',qK w' p (Sp.of L t).2.2 F'∧Ext F w0 w'∧∀b,F' b→F b∨w0.heap.size≤b)):=by
 obtain ⟨k,f,to,u,x,ks⟩:=t
 suffices key:∀K:Int→Int→WP,(∀r1 r2 w',((r1,r2)=((Sp.of L (.mk k f to u x ks)).1,(Sp.of L (.mk k f to u x ks)).2.1)∧∃F',qK w' p (Sp.of L (.mk k f to u x ks)).2.2 F'∧Ext F w0 w'∧∀b,F' b→F b∨w0.heap.size≤b)→K r1 r2 w')→m_L2 (some p) k f to u x s w0 K from
  w_L2 _ _ _ _ _ _ _ w0 _ (key _ (fun _ _ _ h=>h))
 intro K hK
 unfold m_L2
 intro H1 w1 hs1
 have E1:=hs1.first
 generalize ht:Sp.Tree.mk k f to u x ks=t at *
 have htr:(Value.agg #[.int .i64 k,.int .i64 f,.int .i64 to,.int .u64 u,.string x,s.v])=.agg (yV t s).toArray:=by rw [← ht];rfl
 rw [htr]
 refine (jGQ t s w1 (hT.pure E1) (fun b hb=>by have:=hSw b hb;have:=E1.size;omega)).mono ?_
 rintro _ w2 ⟨r1,rfl,rfl,E2⟩
 have E12:=E1.trans E2
 refine ⟨_,rfl,E2.keptP,fun h=>?_,fun h=>?_⟩
 ·have h:(Sp.qT 0 0 t).1≠0:=by simpa using h
  have:Sp.of L t=(0,(Sp.qT 0 0 t).1,L):=by rw [Sp.of,if_pos h]
  refine hK _ _ _ ?_
  rw [this];exact ⟨rfl,F,hP.pure E12,E12.pure,fun _ h=>.inl h⟩
 ·have h:(Sp.qT 0 0 t).1=0:=by simpa using h
  have hP2:=hP.pure E12
  have hv:∀b,F b→¬ H1 b:=hs1.disj0 (fun b hb=>hP.lt hb)
  obtain ⟨s1,s2,s3,hS,hF0⟩:=id hP2
  have hl0:s1.len=L.length:=by rw [hS.r1.len];simp
  refine ⟨p,rfl,s1,hS.box.cell0,?_⟩
  refine (jIU p t s w2 L F (jHZ t _ _ h) (hT.pure E12) hP2 hok hFS (fun b hb=>by have:=hSw b hb;have:=E12.size;omega)).mono ?_
  rintro _ w5 ⟨r1,r2,rfl,hr,F5,hP5,E5,hF5⟩
  have e1:r1=(Sp.grow L t).1:=congrArg Prod.fst hr
  have e2:r2=(Sp.grow L t).2.1:=congrArg Prod.snd hr
  have hs4:w0.heap.size≤w2.heap.size:=E12.size
  have E05:Ext F w0 w5:=E12.pure.trans E5
  have hF5':∀b,F5 b→F b∨w0.heap.size≤b:=fun b hb=>(hF5 b hb).elim .inl (fun h=>.inr (by omega))
  have hs2:=hs1.again E2.keptP
  have hv5:∀b,F5 b→¬ H1 b:=fun b hb hH=>(hF5 b hb).elim (fun h=>hv b h hH) (fun h=>by have:=hs2.lt b hH;omega)
  refine ⟨_,_,rfl,E5.kept (fun b hH hF=>hv b hF hH),fun h'=>?_,fun h'=>?_⟩
  ·have h':(Sp.grow L t).2.1≠0:=by rw [← e2];simpa using h'
   obtain ⟨hok5,M,hM⟩:=Sp.jAC t L hok
   rw [hl0]
   refine (jKM p L.length w5 hP5 (by rw [hM];simp)).mono ?_
   rintro _ w6 ⟨rfl,hP6,E6⟩
   have:Sp.of L t=(0,(Sp.grow L t).2.1,L):=by rw [Sp.of,if_neg (by simp [h]),if_pos h']
   refine ⟨rfl,E6.kept (fun b hH hF=>hv5 b hF hH),hK _ _ _ ?_⟩
   rw [this]
   rw [hM,List.take_left] at hP6
   exact ⟨by rw [e1,e2,jGM t L h'],F5,hP6,E05.trans' E6 (fun i hi h=>(hF5' i h).elim id (fun h=>by omega)),hF5'⟩
  ·have h':(Sp.grow L t).2.1=0:=by rw [← e2];simpa using h'
   have:Sp.of L t=((Sp.grow L t).1,0,(Sp.grow L t).2.2):=by rw [Sp.of,if_neg (by simp [h]),if_neg (by simp [h'])]
   refine hK _ _ _ ?_
   rw [this]
   exact ⟨by rw [e1,e2,h'],F5,hP5,E05,hF5'⟩
theorem TreeAt.hst {S:NP} {w0 w w':World} {H H':NP} {s:Sl} {t:Sp.Tree} (h:TreeAt S w s t) (hs:Hst w0 H w H' w') (hd:∀b,S b→b<w.heap.size∧¬ H b):TreeAt S w' s t :=
 h.ext hs.ext (fun b hb hh=>hs.disj (G:=S) hd b hb hh)
theorem jHI {xs ys:List Sp.Tree} {j:Nat} (hl:xs.length=ys.length) (hj:j<xs.length):Sp.yG (xs.drop j) (ys.drop j)=(Sp.same xs[j] (ys[j]'(by omega)) && Sp.yG (xs.drop (j+1)) (ys.drop (j+1))):=by
 rw [List.drop_eq_getElem_cons hj,List.drop_eq_getElem_cons (show j<ys.length by omega),Sp.yG]
theorem jDW:∀{xs ys:List Sp.Tree},Sp.yG xs ys=true→xs.length=ys.length
 | [],[],_=>rfl
 | a :: xs,b :: ys,h=>by simp only [Sp.yG,Bool.and_eq_true] at h;simp [jDW h.2]
 | [],b :: ys,h=>by simp [Sp.yG] at h
 | a :: xs,[],h=>by simp [Sp.yG] at h
theorem jIX {S:NP} (t:Sp.Tree):∀(t':Sp.Tree) (s s':Sl) (w0:World),TreeAt S w0 s t→TreeAt S w0 s' t'→(∀b,S b→b<w0.heap.size) →
  Calls prog 37 #[.agg (yV t s).toArray,.agg (yV t' s').toArray] w0 (fun e w'=>∃r:Bool,e=.returned (.bool r)∧(r=Sp.same t t'∧Pure w0 w')):=by
 induction t using Sp.Tree.ind with
 | h k f t u x ks ih =>
 intro t' s s' w0 hT hT' hSw
 obtain ⟨k',f',tt',u',x',ks'⟩:=t'
 suffices key:∀K:Bool→WP,(∀r w',(r=Sp.same (.mk k f t u x ks) (.mk k' f' tt' u' x' ks')∧Pure w0 w')→K r w')→m_P1 k f t u x s k' f' tt' u' x' s' w0 K from
  w_P1 _ _ _ _ _ _ _ _ _ _ _ _ w0 _ (key _ (fun _ _ h=>h))
 intro K hK
 have hlen:s.len=ks.length:=by cases hT;assumption
 have hlen':s'.len=ks'.length:=by cases hT';assumption
 have hfit:ks.length≤9223372036854775807:=by cases hT;assumption
 unfold m_P1
 rintro y1 rfl
 refine ⟨fun h=>?_,fun h=>?_⟩
 ·intro H7 w7 hs7
  refine hK _ _ ⟨?_,hs7.first⟩
  symm
  apply Bool.eq_false_iff.2
  intro hs
  simp only [Sp.same,Bool.and_eq_true,decide_eq_true_eq] at hs
  obtain ⟨⟨⟨⟨⟨rfl,rfl⟩,rfl⟩,rfl⟩,rfl⟩,h6⟩:=hs
  have:=jDW h6
  simp [hlen,hlen',this] at h
 ·have hne : k = k' ∧ f = f' ∧ t = tt' ∧ u = u' ∧ x = x' ∧ ks.length = ks'.length := by
   simp only [Bool.or_eq_false_iff,bne_eq_false_iff_eq,Bool.not_eq_false',decide_eq_true_eq] at h;obtain ⟨⟨⟨⟨⟨h1,h2⟩,h3⟩,h4⟩,h5⟩,h6⟩:=h;exact ⟨h1,h2,h3,h4,h5,by omega⟩
  obtain ⟨rfl,rfl,rfl,rfl,rfl,hll⟩:=hne
  have hsp:Sp.same (.mk k f t u x ks) (.mk k f t u x ks')=Sp.yG ks ks':=by simp [Sp.same]
  rw [hsp] at hK
  intro H7 w7 hs7
  refine ⟨fun i H w'=>∃j:Nat,i=j∧j≤ks.length∧Pure w0 w'∧Sp.yG ks ks'=Sp.yG (ks.drop j) (ks'.drop j),fun i _=>((ks.length:Int) - i).toNat,⟨0,rfl,Nat.zero_le _,hs7.first,rfl⟩,?_⟩
  rintro _ Hl wl hl ⟨j,rfl,hj,El,heq⟩
  unfold m_P1_l1
  refine ⟨fun hc=>?_,fun hc=>?_⟩
  ·have hlt:=yZ hlen hc
   have hlt':j<ks'.length:=by omega
   rw [jHI hll hlt] at heq
   have g1:∃a r,At s j 6 a∧S a.block∧(∀w',Pure w0 w'→Row w' a (yV ks[j] r))∧TreeAt S w0 r ks[j]:=by
    cases hT with
    | mk _ _ _ _ _ _ _ rs len fit row kid=>obtain ⟨a,h1,h2,h3⟩:=row j hlt;exact ⟨a,rs j,h1,h2,fun w' E=>E.row h3 id,kid j hlt⟩
   have g2:∃a r,At s' j 6 a∧S a.block∧(∀w',Pure w0 w'→Row w' a (yV ks'[j] r))∧TreeAt S w0 r ks'[j]:=by
    cases hT' with
    | mk _ _ _ _ _ _ _ rs len fit row kid=>obtain ⟨a,h1,h2,h3⟩:=row j hlt';exact ⟨a,rs j,h1,h2,fun w' E=>E.row h3 id,kid j hlt'⟩
   obtain ⟨a,r,hat,_,hr,hk⟩:=g1
   obtain ⟨a',r',hat',_,hr',hk'⟩:=g2
   refine ⟨fun w'=>Pure w0 w',El.trans (Ext.drew wl),?_⟩
   rintro _ rfl
   have Ed:=El.trans (Ext.drew wl)
   refine ⟨a,hat,_,_,_,_,_,r,fun w' h=>hr w' h,a',hat',_,_,_,_,_,r',fun w' h=>hr' w' h,?_⟩
   refine (ih j hlt ks'[j] r r' wl.drew (hk.pure Ed) (hk'.pure Ed) (fun b hb=>by have:=hSw b hb;have:=Ed.size;omega)).mono ?_
   rintro _ w13 ⟨q,rfl,rfl,E13⟩
   refine ⟨_,rfl,Ed.trans E13,E13.keptP,fun h=>?_,fun h=>?_⟩
   ·have h:Sp.same ks[j] ks'[j]=false:=by simpa using h
    exact hK _ _ ⟨by rw [heq,h];rfl,Ed.trans E13⟩
   ·have h:Sp.same ks[j] ks'[j]=true:=by simpa using h
    rw [h,Bool.true_and] at heq
    rw [vK hlt (by omega)]
    exact ⟨⟨j+1,rfl,hlt,Ed.trans E13,heq⟩,jAK hlt⟩
  ·have hge:=uL hlen hj hc
   subst hge
   rw [List.drop_length,hll,List.drop_length] at heq
   exact hK _ _ ⟨heq.symm,El⟩
theorem jGC:SlType prog 22 28 6 72:=by
 refine ⟨underlying22,⟨t28,_,by kernel_rfl,(by kernel_rfl:t28.zero=some (.agg #[.int .i64 0,.int .i64 0,.int .i64 0,.int .u64 0,.string ⟨#[]⟩,.slice none 0 0])),by kernel_rfl,by kernel_rfl,rfl⟩,by omega⟩
def jQY (p:Sp.Tree×Sl):List Value:=yV p.1 p.2
theorem TreeAt.of_pairs {S:NP} {w:World} {s:Sl} {e:TypeId} {ps:List (Sp.Tree×Sl)} {k f t u:Int} {x:ByteArray} (hR:Rws w e 6 s (ps.map jQY)) (hS:∀b,s.blk b→S b) (hk:∀p∈ps,TreeAt S w p.2 p.1) (fit:ps.length≤9223372036854775807):TreeAt S w s (.mk k f t u x (ps.map Prod.fst)):=by
 refine .mk k f t u x _ s (fun i=>(ps.getD i (Sp.jEF,Sl.nil)).2) (by rw [hR.len];simp) (by simpa using fit) (fun i h=>?_) (fun i h=>?_)
 ·have h':i<ps.length:=by simpa using h
  obtain ⟨a,h1,h2,h3⟩:=hR.at (i:=i) (by omega) (by simpa using h');refine ⟨a,h1,hS _ h3,?_⟩;have e1:(ps.map Prod.fst)[i]=ps[i].1:=by simp
  have e2:(ps.getD i (Sp.jEF,Sl.nil)).2=ps[i].2:=by simp [List.getD_eq_getElem?_getD,h']
  rw [e1,e2];simpa [jQY] using h2
 ·have h':i<ps.length:=by simpa using h
  have e1:(ps.map Prod.fst)[i]=ps[i].1:=by simp
  have e2:(ps.getD i (Sp.jEF,Sl.nil)).2=ps[i].2:=by simp [List.getD_eq_getElem?_getD,h']
  rw [e1,e2];exact hk _ (List.getElem_mem h')
theorem jFY (t:Sp.Tree) (s:Sl):(yV t s).all vY=true:=by simp [yV,vY,Sl.v]
theorem jAE (p:Addr) (w:World) {L:Sp.Pool} {F:NP} (hP:zS w p L F):Calls prog 22 #[.pointer (some p)] w (fun e w'=>∃r:Int,e=.returned (.int .i64 r)∧(r=L.length∧w'=w)):=by
 refine w_S2 _ w (fun r w'=>r=L.length∧w'=w) ?_;unfold m_S2;obtain ⟨s,m,h,_⟩:=hP;refine Br.f rfl ⟨p,rfl,s,h.box.cell0,?_,rfl⟩;have:=h.rows.len;rw [this];simp
theorem jSX (p:Addr) (t:Int) (w:World) {L:Sp.Pool} {F:NP} (hP:zS w p L F) (hok:Sp.Ok L):Calls prog 84 #[.pointer (some p),.int .i64 t] w (fun e w'=>∃s:Sl,e=.returned s.v∧(Lst (fun b=>w.heap.size≤b∧b<w'.heap.size) w' 1 s (tmr (Sp.zM (Sp.nodeOf L t)))∧Pure w w')):=by
 refine w_U2 _ _ w (fun s w'=>Lst (fun b=>w.heap.size≤b∧b<w'.heap.size) w' 1 s (tmr (Sp.zM (Sp.nodeOf L t)))∧Pure w w') ?_;unfold m_U2;refine (jFU p t w hP hok).mono ?_;rintro _ w1 ⟨k,f,t',u,x,a,b,r,rfl,⟨hn,_⟩,E1⟩;refine ⟨_,_,_,_,_,_,_,_,rfl,?_⟩;intro p2 w2 h2;have E2:Pure w w2:=E1.trans (Ext.new h2);have o2:=New.own E1 h2;refine bx 7 (Box.of_new h2) rfl rfl (fun w3 b2 E=>?_);have E3:Pure w w3:=E2.own o2 E;refine ⟨k,b2.cell0,?_⟩;refine (jIP k w3).mono ?_;rintro _ w4 ⟨s1,s2,s3,s4,s5,ok,rfl,⟨hs,_⟩,E4⟩;refine ⟨_,_,_,_,_,_,rfl,?_⟩;have b24:=b2.pure E4;intro p3 w5 h5;have E5:Pure w4 w5:=Ext.new h5;have b25:=b24.pure E5;have ne:p2.block≠p3.block:=h5.ne b24.blk;have E05:Pure w w5:=(E3.trans E4).trans E5;have o5:=New.own (E3.trans E4) h5;refine bx 5 (Box.of_new h5) rfl rfl (fun w6 b3 E=>?_);have b26:=b25.ext E ne;have E06:Pure w w6:=E05.own o5 E;refine ⟨a,b26.cell rfl,b,b26.cell rfl,?_⟩;intro p4 w7 h7;have E7:Pure w6 w7:=Ext.new h7;have b4:=Box.of_new h7;have hsh:Sp.shapeOf k=⟨s1,s2,s3,s4,s5⟩:=hs.symm;have hk5:s5=0∨s5=1∨s5=2:=by have:=Sp.qX k;rw [hsh] at this;exact this
 refine ⟨s5,(b3.pure E7).cell rfl,_,jKY p4 s5 w7 hk5,?_,E06.trans E7⟩;have hks:Sp.zM (Sp.nodeOf L t)=[a,b].take s5.toNat:=by rw [← hn];simp [Sp.zM,hsh]
 rw [hks];have z:=h7.at_size;have z6:=E06.size;have zl:=b4.lt;refine ⟨by rcases hk5 with rfl | rfl | rfl <;> rfl,fun i hi=>?_⟩;rw [yW] at hi;have hi2:i<s5.toNat:=by simp at hi;omega
 refine ⟨p4.add (i*1),⟨by omega,by show (i:Int)<(s5.toNat:Int);omega,p4,rfl,rfl⟩,by rw [zR];omega,?_⟩;intro j hj;have hj1:j<1:=by simp only [tmr,List.getElem_map,List.length_cons,List.length_nil] at hj;omega
 have hj0:j=0:=by omega
 subst hj0;rw [xB];have h01:i=0∨i=1:=by omega
 rcases h01 with rfl | rfl
 ·rw [b4.cell (i:=0*1+0) rfl];simp [tmr]
 ·rw [b4.cell (i:=1*1+0) rfl];simp [tmr]
theorem c_Tree (p:Addr) {L:Sp.Pool} (hW:Sp.Wf L):∀(n:Nat) (t:Int) (w0:World) (F:NP),t.toNat=n→zS w0 p L F →
  Calls prog 38 #[.pointer (some p),.int .i64 t] w0 (RetT w0.heap.size w0 (Sp.zU L t)):=by
 intro n
 induction n using Nat.strongRecOn with
 | _ n ih =>
 intro t w0 F hn hP
 suffices key:∀K:Int→Int→Int→Int→ByteArray→Sl→WP,(∀k f t' u x s' w' ks,Sp.zU L t=.mk k f t' u x ks→TreeAt (w0.heap.size≤·) w' s' (.mk k f t' u x ks)→Pure w0 w'→K k f t' u x s' w')→m_J1 (some p) t w0 K by
  refine (w_J1 _ _ w0 (fun k f t' u x s' w'=>∃ks,Sp.zU L t=.mk k f t' u x ks∧TreeAt (w0.heap.size≤·) w' s' (.mk k f t' u x ks)∧Pure w0 w') (key _ (fun k f t' u x s' w' ks h1 h2 h3=>⟨ks,h1,h2,h3⟩))).mono ?_;rintro _ w' ⟨k,f,t',u,x,s',rfl,ks,h1,h2,h3⟩;rw [h1];exact ⟨s',rfl,h2,h3⟩
 intro K hK
 have hok:=hW.ok
 have hnil:∀b,¬ Sl.nil.blk b:=fun b hb=>by obtain ⟨a,h,_⟩:=hb;cases h
 unfold m_J1
 intro p2 w1 h1
 have E1:Pure w0 w1:=Ext.new h1
 have b1:=Box.of_new h1
 have z1:=h1.at_size
 have l1:=b1.lt
 refine (jFU p t w1 (hP.pure E1) hok).mono ?_
 rintro _ w2 ⟨k,f,t',u,x,a,b,r,rfl,⟨hnd,hr⟩,E2⟩
 refine ⟨_,_,_,_,_,_,_,_,rfl,?_⟩
 intro p3 w3 h3
 have b2:=b1.pure E2
 have n23:p2.block≠p3.block:=h3.ne b2.blk
 have E3:Pure w0 w3:=(E1.trans E2).trans (Ext.new h3)
 have o3:=New.own (E1.trans E2) h3
 have b23:=b2.pure (Ext.new h3:Pure w2 w3)
 refine bx 7 (Box.of_new h3) rfl rfl (fun w4 b3 X4=>?_)
 have b24:=b23.ext X4 n23
 have E4:Pure w0 w4:=E3.own o3 X4
 refine ⟨fun h=>?_,fun h=>?_⟩
 ·have hin:Sp.inP L t=false:=by rw [← hr];simpa using h
  refine bx 6 b24 rfl rfl (fun w5 b5 X5=>⟨_,_,_,_,_,Sl.nil,b5.row,?_⟩)
  exact hK _ _ _ _ _ _ _ [] (by rw [Sp.jDR hin];rfl) TreeAt.leaf (E4.own (by omega) X5)
 ·have hin:Sp.inP L t=true:=by rw [← hr];simpa using h
  have htr:=Sp.yJ hW hin
  have hnode:=hW.node hin
  obtain ⟨_,_,_,_,hkid,_,_⟩:=hnode
  have hpos:=Sp.vB.1 hin
  refine ⟨k,b3.cell0,f,b3.cell rfl,t',b3.cell rfl,u,b3.cell rfl,x,b3.cell rfl,?_⟩
  intro p4 w6 h6
  have n24:p2.block≠p4.block:=h6.ne b24.blk
  have E6:Pure w4 w6:=Ext.new h6
  have o6:=New.own E4 h6
  have b26:=b24.pure E6
  refine bx 6 (Box.of_new h6) rfl rfl (fun w7 b4 X7=>?_)
  have b27:=b26.ext X7 n24
  have E7:Pure w0 w7:=(E4.trans E6).own o6 X7
  refine (jSX p t w7 (hP.pure E7) hok).mono ?_
  rintro _ w8 ⟨r2,rfl,hL,E8⟩
  refine ⟨r2,rfl,?_⟩
  generalize hks:Sp.zM (Sp.nodeOf L t)=ks at *
  have hkl:ks.length≤2:=by rw [← hks,Sp.jMT];have:=Sp.qX (Sp.nodeOf L t).kind;omega
  have hrl:r2.len=ks.length:=by rw [hL.len,yW]
  have q7:=b4.lt
  have q8:=E8.size
  refine ⟨fun i w=>∃(j:Nat) (xs:Sl) (ps:List (Sp.Tree×Sl)),i=j∧j≤ks.length∧Pure w0 w∧w8.heap.size≤w.heap.size∧Lst (fun b=>w7.heap.size≤b∧b<w8.heap.size) w 1 r2 (tmr ks)∧Box w p2 [.int .i64 0,.int .i64 0,.int .i64 0,.int .u64 0,.string ⟨#[]⟩,Sl.nil.v] 28∧Box w p4 [.int .i64 k,.int .i64 f,.int .i64 t',.int .u64 u,.string x,xs.v] 28 ∧
   Rws w 28 6 xs (ps.map jQY)∧(∀b,xs.blk b→w8.heap.size≤b)∧(∀q∈ps,TreeAt (fun b=>w8.heap.size≤b∧¬ xs.blk b) w q.2 q.1)∧ps.map Prod.fst=(ks.take j).map (Sp.zU L),fun i _=>((ks.length:Int) - i).toNat,⟨0,Sl.nil,[],rfl,Nat.zero_le _,E7.trans E8,Nat.le_refl _,hL,b27.pure E8,b4.pure E8,Rws.nil _ _ _,fun b hb=>(hnil b hb).elim,fun q hq=>by simp at hq,by simp⟩,?_⟩
  rintro _ w ⟨j,xs,ps,rfl,hj,E,zw,hLw,b2w,b4w,hxs,hxo,hps,hpf⟩
  have hpl:ps.length=j:=by have:=congrArg List.length hpf;simp at this;omega
  unfold m_J1_l1
  refine ⟨fun h=>?_,fun h=>?_⟩
  ·have hlt:=yZ hrl h
   obtain ⟨ad,hat,hSa,hc⟩:=jAJ hLw hlt
   refine ⟨ad,hat,ks[j],hc,fun w=>Box w p4 [.int .i64 k,.int .i64 f,.int .i64 t',.int .u64 u,.string x,xs.v] 28,b4w.pure (Ext.drew w:Pure _ _),?_⟩
   rintro _ rfl
   refine ⟨xs,fun _ h=>h.cell rfl,?_⟩
   have Ed:Pure w w.drew:=Ext.drew w
   have hkj:=hkid ks[j] (List.getElem_mem hlt)
   have hkp:=Sp.vB.1 hkj.1
   refine (ih ks[j].toNat (by omega) ks[j] w.drew F rfl (hP.pure (E.trans Ed))).mono ?_
   rintro _ w10 ⟨s',rfl,hTb,E10⟩
   generalize hTt:Sp.zU L ks[j]=tb at *
   obtain ⟨k2,f2,t2,u2,x2,ks2⟩:=tb
   have E10':Pure w w10:=Ed.trans E10
   refine ⟨_,_,_,_,_,s',rfl,b4w.pure E10',?_⟩
   intro p5 w11 h11
   have E11:Pure w w11:=E10'.trans (Ext.new h11)
   refine ⟨b4w.pure E11,?_⟩
   have zd:w.drew.heap.size=w.heap.size:=rfl
   have z10:=E10.size
   have z11:=(Ext.new h11:Pure w10 w11).size
   have np4:¬ xs.blk p4.block:=fun hb=>by have:=hxo _ hb;omega
   have np2:¬ xs.blk p2.block:=fun hb=>by have:=hxo _ hb;have:=b27.lt;omega
   obtain ⟨s1,w12,hr12,hR12,X12,hb12⟩:=(hxs.pure E11).append (P:=prog) (ty:=22) (c:=1) jGC (r:=yV (.mk k2 f2 t2 u2 x2 ks2) s') (Box.of_new h11).row rfl (jFY _ _) (by simp;omega) (by simp [maxLen];omega)
   have b412:=(b4w.pure E11).ext X12 np4
   refine ⟨s1,w12,hr12,b412,b412.canW (by simp),?_⟩
   rintro _ rfl
   have X13:=Ext.setCell (w:=w12) (p4.add 5) s1.v
   rw [zR] at X13
   have z12:=X12.size
   have z13:=X13.size
   rw [vK hlt (by omega)]
   have hs1:∀b,s1.blk b→xs.blk b∨w.heap.size≤b:=fun b hb=>(hb12 b hb).imp_right (fun h=>by omega)
   have hs1o:∀b,s1.blk b→w8.heap.size≤b:=fun b hb=>(hs1 b hb).elim (hxo b) (fun h=>by omega)
   have np4':¬ s1.blk p4.block:=fun hb=>by have:=hs1o _ hb;omega
   have q12:=b412.lt
   refine ⟨⟨j+1,s1,ps++[(.mk k2 f2 t2 u2 x2 ks2,s')],rfl,hlt,?_,by omega,?_,?_,b412.set 5 s1.v,?_,hs1o,?_,?_⟩,jAK hlt⟩
   ·exact ((E.trans E11).trans' X12 (fun i hi hs=>by have:=hxo i hs;have:=E7.size;omega)).trans' X13 (fun i hi e=>by omega)
   ·exact ((hLw.pure E11).ext X12 (fun b hb hs=>by have:=hxo b hs;omega)).ext X13 (fun b hb e=>by omega)
   ·exact ((b2w.pure E11).ext X12 np2).ext X13 n24
   ·have:=hR12.ext X13 (fun b hb e=>np4' (e▸hb))
    simpa [jQY] using this
   ·intro q hq
    rcases List.mem_append.1 hq with h | h
    ·have h':=((hps q h).lt.pure E11).ext X12 (fun b hb hs=>hb.1.2 hs)
     refine (h'.ext X13 (fun b hb e=>by have:=hb.1.1;omega)).mono (fun b hb=>⟨hb.1.1,fun hs=>(hs1 b hs).elim hb.1.2 (fun h=>by have:=hb.2;omega)⟩)
    ·simp only [List.mem_singleton] at h;subst h
     have h':=((hTb.lt.pure (Ext.new h11:Pure w10 w11)).ext X12 (fun b hb hs=>by have:=hxs.lt hs;have:=hb.1;omega))
     refine (h'.ext X13 (fun b hb e=>by have:=hb.1;omega)).mono (fun b hb=>⟨by have:=hb.1;omega,fun hs=>(hb12 b hs).elim (fun h=>by have:=hxs.lt h;have:=hb.1;omega) (fun h=>by have:=hb.2;omega)⟩)
   ·rw [List.map_append,hpf,List.take_succ_eq_append_getElem hlt,List.map_append]
    simp [hTt]
  ·have hge:=uL hrl hj h
   subst hge
   rw [List.take_length] at hpf
   refine ⟨k,f,t',u,x,xs,b4w.row,bx 6 b2w rfl rfl (fun w14 b14 X14=>⟨k,f,t',u,x,xs,b14.row,?_⟩)⟩
   have np2:¬ xs.blk p2.block:=fun hb=>by have:=hxo _ hb;have:=b27.lt;omega
   have hT:=TreeAt.of_pairs (S:=fun b=>w0.heap.size≤b) (k:=k) (f:=f) (t:=t') (u:=u) (x:=x) (hxs.ext X14 (fun b hb e=>np2 (e▸hb))) (fun b hb=>by have:=hxo b hb;have:=E7.size;omega) (fun q hq=>?_) (by omega)
   ·rw [hpf] at hT
    rw [← hnd] at htr
    exact hK _ _ _ _ _ _ _ _ htr hT (E.own (by omega) X14)
   ·exact ((hps q hq).ext X14 (fun b hb e=>by have:=hb.1;have:=b27.lt;omega)).mono (fun b hb=>by have:=hb.1;have:=E7.size;omega)
end Go.Proofs
end
section
open Go Go.SE
open Go.IntKind renaming i64 → q6
namespace Go.Proofs
open Tryz
set_option maxRecDepth 100000
set_option maxHeartbeats 4000000
attribute [local irreducible] wpL wpX opE wpE Calls
def m_B5 (p1:Option Addr) (aA:Option Addr) (t1:Int) (w0:World) (K:Int→Int→WP):Prop :=∀p2 w1,New w0 (.cells #[(vp p1)] 29) p2 w1→∀p3 w2,New w1 (.cells #[(vp aA)] 29) p3 w2→∀p4 w3,New w2 (.cells #[(vi 0)] 23) p4 w3→∀p5 w4,New w3 (.cells #[(vi 0)] 33) p5 w4→∃v1,w4.cell? p2=some (vp v1)∧Br (Option.isNone v1) (zT w4 p4∧¬ None p4.block∧∀w5,w5=w4.setCell p4 (vi 0)→zT w5 p5∧¬ None p5.block∧∀w6,w6=w5.setCell p5 (vi 0)→∃aB,w6.cell? p4=some (vi aB)∧∃aC,w6.cell? p5=some (vi aC)∧K aB aC w6) (∃v2,w4.cell? p3=some (vp v2)∧Calls prog 115 #[(vp v2),(vi t1)] w4 (fun e w7=>∃r1,e=.returned (vb r1)∧Kept None w4 w7∧Br (!r1) (zT w7 p4∧¬ None p4.block∧∀w8,w8=w7.setCell p4 (vi 0)→zT w8 p5∧¬ None p5.block∧∀w9,w9=w8.setCell p5 (vi 51)→∃aD,w9.cell? p4=some (vi aD)∧∃aE,w9.cell? p5=some (vi aE)∧K aD aE w9) (∃v3,w7.cell? p2=some (vp v3)∧∃a1,v3=some a1∧∃v4:Sl,w7.cell? a1=some v4.v∧∀p6 w10,New w7 (.cells #[(vi 0)] 3) p6 w10→zT w10 p6∧¬ None p6.block∧∀w11,w11=w10.setCell p6 (vi (v4.len:Int))→∀p7 w12,New w11 (.map #[] 0) p7 w12→∀p8 w13,New w12 (.cells #[(.map none)] 233) p8 w13→zT w13 p8∧¬ None p8.block∧∀w14,w14=w13.setCell p8 (.map (some p7.block))→∃v5,w14.cell? p3=some (vp v5)∧Calls prog 139 #[(vp v5),(vi t1)] w14 (fun e w15=>∃r2:Value,e=.returned r2∧Kept None w14 w15∧∃(f1:FuncId) (cs1:Array Value),r2=.func (.func f1) #[] cs1∧(∀args w,(callFunc f1 args).run prog w=.ok (.enter f1 args) w)∧∃(xs1:List (Int)) (Rd1:WP),jQD prog f1 cs1 (fun (z2:Int)=>#[(vi z2)]) xs1 Rd1 w15∧∃(I1 Ir1:List (Int)→NP→WP),RngI w0 Rd1 I1 (fun _ _ _=>False) Ir1∧I1 [] None w15∧(∀(pre1:List (Int)) (z2:Int) (Y1:NP) (A1:World),I1 pre1 Y1 A1→Hst w0 Y1 A1 Y1 A1→(∃post,xs1=pre1++z2 :: post)→∃v6,A1.cell? p3=some (vp v6)∧Calls prog 61 #[(vp v6),(vi z2)] A1 (fun e w17=>∃aF aG aH aI aJ aK aL r3,e=.returned (.tuple #[(Ae aF aG aH aI aJ aK aL),(vb r3)])∧Kept None A1 w17∧∀p9 w18,New w17 (.cells #[(vi 0),(vi 0),(vi 0),(vu 0),ve,(vi 0),(vi 0)] 103) p9 w18→(∀j,j<7→zT w18 (p9.add j))∧¬ None p9.block∧∀w19,w19=storeRow w18 p9 (Ac aF aG aH aI aJ aK aL)→∃C1:WP,C1 w19.drew∧∀w20,w20=w19.drew→∃v7:Option Nat,w20.cell? p8=some (.map v7)∧∃v8,w20.cell? (p9.add 5)=some (vi v8)∧∃v9,(Instr.lookup 233 (.map v7) (vi v8) false).run prog w20=.ok (vi v9) w20∧∃v10:Option Nat,(∀w',C1 w'→w'.cell? p8=some (.map v10))∧∃v11,w20.cell? (p9.add 6)=some (vi v11)∧∃v12,(∀w',C1 w'→(Instr.lookup 233 (.map v10) (vi v11) false).run prog w'=.ok (vi v12) w')∧zT w20 (p9.add 5)∧¬ None (p9.add 5).block∧∀w21,w21=w20.setCell (p9.add 5) (vi v9)→C1 w21∧zT w21 (p9.add 6)∧¬ None (p9.add 6).block∧∀w22,w22=w21.setCell (p9.add 6) (vi v12)→∃v13,w22.cell? p2=some (vp v13)∧∃aQ aR aS aT aU aV aW,Row w22 p9 (Ac aQ aR aS aT aU aV aW)∧Calls prog 97 #[(vp v13),(.agg #[(vi aQ),(vi aR),(vi aS),(vu aT),(vs aU),(vi aV),(vi aW)])] w22 (fun e w23=>∃r4 r5,e=.returned (.tuple #[(vi r4),(vi r5)])∧Kept None w22 w23∧Br (r5 != 0) (∃v14,w23.cell? p2=some (vp v14)∧∃v15,w23.cell? p6=some (vi v15)∧Calls prog 56 #[(vp v14),(vi v15)] w23 (fun e w24=>e=.returned (.tuple #[])∧Kept None w23 w24∧zT w24 p4∧¬ None p4.block∧∀w25,w25=w24.setCell p4 (vi 0)→zT w25 p5∧¬ None p5.block∧∀w26,w26=w25.setCell p5 (vi r5)→Kept Y1 A1 w26∧Ir1 (pre1++[z2]) Y1 w26)) (∃v16:Option Nat,w23.cell? p8=some (.map v16)∧∃w27:World,(Instr.mapUpdate 233 (.map v16) (vi z2) (vi r4)).run prog w23=.ok () w27∧Kept None w23 w27∧Kept Y1 A1 w27∧I1 (pre1++[z2]) Y1 w27))))∧(∀H1 w28,Hst w0 H1 w28 H1 w28→(∀b,None b→H1 b)→Kept None w15 w28→I1 xs1 H1 w28→∃v17:Option Nat,w28.cell? p8=some (.map v17)∧∃v18,(Instr.lookup 233 (.map v17) (vi t1) false).run prog w28=.ok (vi v18) w28∧zT w28 p4∧¬ H1 p4.block∧∀w29,w29=w28.setCell p4 (vi v18)→zT w29 p5∧¬ H1 p5.block∧∀w30,w30=w29.setCell p5 (vi 0)→∀w31,Hst w0 H1 w30 H1 w31→∃aM,w31.cell? p4=some (vi aM)∧∃aN,w31.cell? p5=some (vi aN)∧K aM aN w31)∧(∀(pre2:List (Int)) (H2:NP) (w33:World),Hst w0 H2 w33 H2 w33→Ir1 pre2 H2 w33→∃aO,w33.cell? p4=some (vi aO)∧∃aP,w33.cell? p5=some (vi aP)∧K aO aP w33)))))
theorem w_B5 (p1 aA t1 w0 K) (h:m_B5 p1 aA t1 w0 K):
  Calls prog 122 #[(vp p1),(vp aA),(vi t1)] w0 (fun e w'=>∃r6 r7,e=.returned (.tuple #[(vi r6),(vi r7)])∧K r6 r7 w'):=by
 refine cw (args:=[(vp p1),(vp aA),(vi t1)]) func122 ntmps122 ?_
 obtain ⟨hs,hb⟩:=st0 w0
 refine eg (nw2 hs hb h xb fun p2 w1 hs hb h=>nw2 hs hb h xb fun p3 w2 hs hb h=>nw2 hs hb h (zI (zeroValue23 _) rfl) fun p4 w3 hs hb h=>nw2 hs hb h (zI (zeroValue33 _) rfl) fun p5 w4 hs hb h=>ln (zB (eg (ql (isAgg29 _) h fun v1 h=>q2 (vb (Option.isNone v1)) (uF (by kernel_rfl) rfl underlying29) (ln (cbr h ?_ ?_))))))<;>intro h
 refine eg (st2 (sizeOf23 _) hs hb h fun w5 hs hb h=>st2 (sizeOf33 _) hs hb h fun w6 hs hb h=>ln (er (vA ?_)))
 obtain ⟨aB,hv1,h⟩:=h
 obtain ⟨aC,hv2,h⟩:=h
 refine gg2 results122 (RV.cell1 (A:=p4) (by kernel_rfl) (isAgg23 _) hv1) (RV.cell1 (A:=p5) (by kernel_rfl) (isAgg33 _) hv2) ⟨aB,aC,rfl,h⟩
 refine zD (zN (zB (eg (ql (isAgg29 _) h fun v2 h=>q (sc call115 (h.mono fun e w7 ⟨r1,k,hk,h⟩=>have ⟨hs,hb⟩:=hk.hh hs hb;⟨_,k,?_⟩))))))
 refine q (ln (cbr h ?_ ?_))<;>intro h
 refine eg (st2 (sizeOf23 _) hs hb h fun w8 hs hb h=>st2 (sizeOf33 _) hs hb h fun w9 hs hb h=>ln (er (vA ?_)))
 obtain ⟨aD,hv3,h⟩:=h
 obtain ⟨aE,hv4,h⟩:=h
 refine gg2 results122 (RV.cell1 (A:=p4) (by kernel_rfl) (isAgg23 _) hv3) (RV.cell1 (A:=p5) (by kernel_rfl) (isAgg33 _) hv4) ⟨aD,aE,rfl,h⟩
 refine zD (zN (eg (ql (isAgg29 _) h fun v3 h=>qm h fun a1 h=>q (ql (isAgg94 _) h fun v4 h=>q (sn (O:=(.cells #[(vi 0)] 3)) (zI (zeroValue3 _) rfl) ?_)))))
 intro p6 w10 hn17
 have h:=h p6 w10 hn17
 obtain ⟨hs,hb⟩:=hs.nw hb hn17
 refine st2 (sizeOf3 _) hs hb h fun w11 hs hb h=>ln (eg (nw5 (fun p=>.map (some p.block)) hs hb h fun p7 w12 hs hb h=>nw2 hs hb h (zI (zeroValue233 _) rfl) fun p8 w13 hs hb h=>st2 (sizeOf233 _) hs hb h fun w14 hs hb h=>ln (jFX (rg (ql (isAgg29 _) h fun v5 h=>q (sc call139 (h.mono fun e w15 ⟨r2,k,hk,h⟩=>have ⟨hs,hb⟩:=hk.hh hs hb;⟨_,k,?_⟩)))))))
 refine ln ?_
 obtain ⟨f1,cs1,hv5,hf1,h⟩:=h
 obtain ⟨xs1,Rd1,hit,I1,Ir1,hRI,h0,hbody,h⟩:=h
 refine jDO (encs:=(fun (z2:Int)=>#[(vi z2)])) (Eq.trans (b:=r2) (by kernel_rfl) hv5) hf1 hit (fun _=>rfl) (by decide) hs I1 (fun _ _ _=>False) Ir1 hRI h0 ?ha ?hr ?ht
 case ha =>
  intro l z2 w34
  refine rg (q (ln ⟨rfl,?_⟩))
  intro pre1 Y1 A1 hi hY hpost
  have h:=hbody pre1 z2 Y1 A1 hi hY hpost
  obtain ⟨hs,hb⟩:=st0 A1
  refine zL (eg (ql (isAgg29 _) h fun v6 h=>q (sc call61 (h.mono fun e w17 ⟨aF,aG,aH,aI,aJ,aK,aL,r3,k,hk,h⟩=>have ⟨hs,hb⟩:=hk.hh hs hb;⟨_,k,?_⟩))))
  refine qc (nw2 hs hb h (zI (zeroValue103 _) rfl) fun p9 w18 hs hb h=>?_)
  obtain ⟨hp8,hnh,h⟩:=h
  refine ss (xo p9 (Ac aF aG aH aI aJ aK aL) (sizeOf103 _) hp8) ?_
  intro w19 hn7
  have h:=h w19 hn7
  have hk:Kept None w18 w19:=by rw [hn7];exact Kept.storeRow hnh
  obtain ⟨hs,hb⟩:=hk.hh hs hb
  refine q (ln (zB ?_))
  obtain ⟨C1,hC,h⟩:=h
  refine dr2 C1 [9,11] [11] hC h hs hb fun w20 hs hb h=>?_
  have hs:=hs.here
  refine qg 0 ?_
  obtain ⟨v7,hv17,h⟩:=h
  refine sye Kp0 (xl (isAgg233 _) hv17) (qx 1 (vp (some (p9.add 5))) Kp1 (qg 2 ?_))
  obtain ⟨v8,hv16,h⟩:=h
  refine sye Kp2 (xl (isAgg23 _) hv16) (qg 3 ?_)
  obtain ⟨v9,hv15,h⟩:=h
  refine sye (v:=(vi v9)) Kp3 (yU (by kernel_rfl) (by kernel_rfl) hv15) (qg 4 ?_)
  obtain ⟨v10,hv14,h⟩:=h
  refine sy Kp4 (fun _ k=>xl (isAgg233 _) (hv14 _ k)) (qx 5 (vp (some (p9.add 6))) Kp5 (qg 6 ?_))
  obtain ⟨v11,hv13,h⟩:=h
  refine sye Kp6 (xl (isAgg23 _) hv13) (qg 7 ?_)
  obtain ⟨v12,hv12,h⟩:=h
  refine sy (v:=(vi v12)) Kp7 (fun w' hw'=>(yU (by kernel_rfl) (by kernel_rfl) (hv12 w' hw'))) (qx 8 (vp (some (p9.add 5))) Kp8 (lg 9 ?_))
  obtain ⟨hp9,hnh,h⟩:=h
  refine jQE Kp9 (xs (v:=(vi v9)) (sizeOf23 _) hp9) ?_
  intro w21 hn8
  have h:=h w21 hn8
  refine ⟨.inr h.1,?_⟩
  have h:=h.2
  have hk:=Kept.sc hnh hn8
  obtain ⟨hs,hb⟩:=hk.hh hs hb
  refine qx 10 (vp (some (p9.add 6))) (zG (S8 (zA (zA zF)))) (lg 11 ?_)
  obtain ⟨hp10,hnh,h⟩:=h
  refine jQE (zG (S8 (zA (zA (zA zF))))) (xs (v:=(vi v12)) (sizeOf23 _) hp10) ?_
  intro w22 hn9
  have h:=h w22 hn9
  refine ⟨.inl (by kernel_rfl),?_⟩
  have hk:=Kept.sc hnh hn9
  obtain ⟨hs,hb⟩:=hk.hh hs hb
  refine wn (zN (eg (ql (isAgg29 _) h fun v13 h=>?_)))
  obtain ⟨aQ,aR,aS,aT,aU,aV,aW,hv10,h⟩:=h
  refine qa (isAgg103 _) (sizeOf103 _) hv10 (sc call97 (h.mono fun e w23 ⟨r4,r5,k,hk,h⟩=>have ⟨hs,hb⟩:=hk.hh hs hb;⟨_,k,?_⟩))
  refine q (qd (ln (zB (eg (qb (ln (cbr h ?_ ?_)))))))<;>intro h
  refine eg (ql (isAgg29 _) h fun v14 h=>ql (isAgg3 _) h fun v15 h=>sc call56 (h.mono fun e w24 ⟨k,hk,h⟩=>have ⟨hs,hb⟩:=hk.hh hs hb;⟨_,k,?_⟩))
  refine ln (eg (q (st2 (sizeOf23 _) hs hb h fun w25 hs hb h=>st2 (sizeOf33 _) hs hb h fun w26 hs hb h=>ln (er (vA (yC ?_))))))
  exact rd_r h
  refine zD (zN (rg (ql (isAgg233 _) h fun v16 h=>qb ?_)))
  obtain ⟨w27,hv8,hk,h⟩:=h
  refine qV (zJ rfl) (tD (by kernel_rfl) (by kernel_rfl) (by kernel_rfl) hv8) ?_
  obtain ⟨hs,hb⟩:=hk.hh hs hb
  refine zC (xE ?_)
  exact rd_n h
 case hr =>
  intro D1 H1 w28 hs' hD hDe aX hk1 hio1
  have hb':=hb.behind hk1 aX hD hDe
  have hs:=hs'
  have hb:=hb'
  have h:=h.1 H1 w28 hs aX hk1 (hio1.elim id (fun h=>h.elim (fun _ h=>h.elim)))
  refine eg (ql (isAgg233 _) h fun v17 h=>q ?_)
  obtain ⟨v18,hv21,h⟩:=h
  refine q2 (vi v18) (yU (by kernel_rfl) (by kernel_rfl) hv21) (st2 (sizeOf23 _) hs hb h fun w29 hs hb h=>st2 (sizeOf33 _) hs hb h fun w30 hs hb h=>ln (er (af_r hb.dead ?_)))
  intro w31 hw'
  have hl:=hb.leave hs hw'
  obtain ⟨hs,hb⟩:=hl
  -- behind the loop
  have ⟨h,hs⟩:=hs.hr (h w31)
  obtain ⟨aM,hv19,h⟩:=h
  obtain ⟨aN,hv20,h⟩:=h
  refine gg2 results122 (RV.cell1 (A:=p4) (by kernel_rfl) (isAgg23 _) hv19) (RV.cell1 (A:=p5) (by kernel_rfl) (isAgg33 _) hv20) ⟨aM,aN,rfl,h⟩
 case ht =>
  intro D1 pre2 H2 w32 hs' hD hDe hio
  have hs2:=hs'.putD (o:=.deferred none) hD
  have hio:=hRI.r _ _ _ _ _ hio hs2
  have hs2:=hs2.here
  have hs:=hs2
  generalize World.putObj w32 D1 (.deferred none)=w33 at hs hio ⊢
  have hb:=HB.nil H2 w33
  have h:=h.2 pre2 H2 w33 hs hio
  obtain ⟨aO,hv23,h⟩:=h
  obtain ⟨aP,hv24,h⟩:=h
  refine gg2 results122 (RV.cell1 (A:=p4) (by kernel_rfl) (isAgg23 _) hv23) (RV.cell1 (A:=p5) (by kernel_rfl) (isAgg33 _) hv24) ⟨aO,aP,rfl,h⟩
def m_X1_l1 (yield1:Value) (r1:Sl) (x1:Int) (wl1:World) (Kc1:Int→WP) (K:WP):Prop :=Br (decide (x1<(r1.len:Int))) (∃a1:Addr,At r1 x1 1 a1∧∃v3,wl1.cell? a1=some (vi v3)∧∃(ly1:Nat),yield1=.func (.yield ly1) #[] #[]∧Yld prog ly1 #[(vi v3)] wl1 (fun e w2=>∃b1,e=.returned (vb b1)∧Br (!b1) (K w2) (Kc1 (q6.wrap (x1+1)) w2))) (K wl1)
def m_X1 (yield1:Value) (cap1 cap2:Addr) (w0:World) (K:WP):Prop :=∃v1,w0.cell? cap1=some (vp v1)∧∃v2,w0.cell? cap2=some (vi v2)∧Calls prog 199 #[(vp v1),(vi v2)] w0 (fun e w1=>∃r1:Sl,e=.returned r1.v∧∃(I1:Int→WP) (mu1:Int→World→Nat),I1 0 w1∧∀(x1:Int) (wl1:World),I1 x1 wl1→m_X1_l1 yield1 r1 x1 wl1 (fun y'0 w'=>I1 y'0 w'∧mu1 y'0 w'<mu1 x1 wl1) K)
theorem w_X1 (yield1 cap1 cap2 w0 K) (h:m_X1 yield1 cap1 cap2 w0 K):
  Calls prog 198 #[yield1,(vp (some cap1)),(vp (some cap2))] w0 (fun e w'=>e=.returned (.tuple #[])∧K  w'):=by
 refine cw (args:=[yield1,(vp (some cap1)),(vp (some cap2))]) func198 ntmps198 (eg ?_)
 refine ql (isAgg29 _) h fun v1 h=>ql (isAgg23 _) h fun v2 h=>sc call199 (h.mono fun e w1 ⟨r1,k,h⟩=>⟨_,k,?_⟩)
 refine qb (ln (zL ?_))
 obtain ⟨I1,mu1,h0,hr⟩:=h
 refine vU (σ:=Int×World) (fun s ρ w=>w=s.2∧Has ρ [(0,yield1),(8,r1.v),(9,(vi (r1.len:Int))),(10,(vi s.1))]∧I1 s.1 s.2) (fun s=>mu1 s.1 s.2) (0,w1) ⟨rfl,hm,h0⟩ ?_
 rintro ⟨x1,wl1⟩ ρ w ⟨hw,hH,hI⟩
 dsimp only at hw hH;subst w
 have h:=hr x1 wl1 hI
 refine zQ hH (eg (q (ln (zB (cbr h ?_ ?_)))))<;>intro h
 refine zD (zN (zB (zL (eg (qi (runUnderlying137 _) (sizeOf23 _) h fun a1 h=>ql (isAgg23 _) h fun v3 h=>q (ln (eg (qb ?_))))))))
 obtain ⟨ly1,hy1,h⟩:=h
 refine jQJ (zJ rfl) (by kernel_rfl) hy1 (by kernel_rfl) (h.mono ?_)
 rintro e w2 ⟨b1,rfl,h⟩
 refine ⟨_,rfl,?_⟩
 refine q (ln (cbr h ?_ ?_))<;>intro h
 refine er (yC (vA (vA (yC (jFH (.inl rfl) results198 ⟨rfl,h⟩)))))
 refine zD (xE (zN (rg (qb (ln ⟨((q6.wrap (x1+1)),w2),⟨rfl,hm,h.1⟩,h.2⟩)))))
 refine vQ (xG (xG (xA (jFH (.inr rfl) results198 ⟨rfl,h⟩))))
end Go.Proofs
end
section
open Go Go.SE
namespace Go.SE
theorem Rws.kept {w w':World} {X:NP} {e:TypeId} {sz:Nat} {s:Sl} {rs:List (List Value)} (h:Rws w e sz s rs) (hk:Kept X w w') (hX:∀b,s.blk b→X b):Rws w' e sz s rs:=by
 refine ⟨h.each,h.len,?_⟩;rcases h.own with h' | ⟨g,cur,ha,hg,r⟩
 ·exact .inl h'
 ·exact .inr ⟨g,cur,ha,by rw [hk.keep g (uY hg) (hX g ⟨_,ha,rfl⟩)];exact hg,r⟩
end Go.SE
namespace Go.Sp
theorem jMN {L:Pool} (hW:Wf L) {t:Int} (ht:inP L t=true) (n:Nat) (st:(Int→Bool)×List Int):(zM (nodeOf L t)).foldl (fun st k=>yH L n k st) st=yH L n (nodeOf L t).b (yH L n (nodeOf L t).a st):=by
 have z:∀st,yH L n 0 st=st:=fun st=>by
  cases n with
  | zero=>rfl
  | succ n=>rw [yH,if_neg (by simp [inP])]
 have h1:=(hW.node ht).2.1;have h2:=(hW.node ht).2.2.1;unfold zM;rcases qX (nodeOf L t).kind with e | e | e
 ·rw [e,h1 (by omega),h2 (by omega),z,z];rfl
 ·rw [e,h2 (by omega),z];rfl
 ·rw [e];rfl
end Go.Sp
namespace Go.Proofs
open Tryz
attribute [local irreducible] Calls
def jTM (M:List Int):List (Int×Unit):=M.map fun t=>(t,())
theorem jQH (M:List Int):(jTM M).map Prod.fst=M:=by simp [jTM,Function.comp_def]
def one1 (_:Unit):Value:=.int .i64 1
structure WkAt (w:World) (p c1 c2 c3 c4:Addr) (m:Nat) (so:Sl) (L:Sp.Pool) (FP:NP) (st:(Int→Bool)×List Int):Prop where
 b1:Box w c1 [.map (some m)] 205
 b2:Box w c2 [.pointer (some p)] 29
 b3:Box w c3 [.func (.func 231) #[] #[.pointer (some c1),.pointer (some c2),.pointer (some c3),.pointer (some c4)]] 267
 b4:Box w c4 [so.v] 137
 mp:∃M,IMap one1 w m (jTM M)∧∀x,st.1 x=decide (x∈M)
 out:Rws w 23 1 so (tmr st.2)
 pool:zS w p L FP
 n4:c4.block≠c1.block∧c4.block≠c2.block∧c4.block≠c3.block∧c4.block≠m
 nm:m≠c1.block∧m≠c2.block∧m≠c3.block
 ns:∀b,so.blk b→b≠c1.block∧b≠c2.block∧b≠c3.block∧b≠c4.block∧b≠m
 nf:∀b,FP b→b≠c4.block∧b≠m∧¬ so.blk b
def WkF (c4:Addr) (m:Nat) (so:Sl) (b:Nat):Prop:=b=c4.block∨b=m∨so.blk b
section
variable {w w':World} {p c1 c2 c3 c4:Addr} {m:Nat} {so:Sl} {L:Sp.Pool} {FP:NP} {st:(Int→Bool)×List Int}
theorem WkAt.pure (h:WkAt w p c1 c2 c3 c4 m so L FP st) (E:Pure w w'):WkAt w' p c1 c2 c3 c4 m so L FP st :=
 ⟨h.b1.pure E,h.b2.pure E,h.b3.pure E,h.b4.pure E,let ⟨M,h1,h2⟩:=h.mp;⟨M,h1.pure E,h2⟩,h.out.pure E,h.pool.pure E,h.n4,h.nm,h.ns,h.nf⟩
end
theorem c_walk (p c1 c2 c3 c4:Addr) (m:Nat) {L:Sp.Pool} {FP:NP} (hW:Sp.Wf L):∀(n:Nat) (t:Int) (w0:World) (st:(Int→Bool)×List Int) (so:Sl),t.toNat<n→Sp.inP L t=true→WkAt w0 p c1 c2 c3 c4 m so L FP st→Sp.OvOk L st→(∀y,st.1 y=true→y≤t→y∈st.2) →
  Calls prog 231 #[.int .i64 t,.pointer (some c1),.pointer (some c2),.pointer (some c3),.pointer (some c4)] w0 (fun e w'=>e=.returned (.tuple #[])∧∃so',WkAt w' p c1 c2 c3 c4 m so' L FP (Sp.yH L n t st)∧Ext (WkF c4 m so) w0 w'∧∀b,so'.blk b→so.blk b∨w0.heap.size≤b):=by
 intro n
 induction n with
 | zero=>intro t w0 st so h;omega
 | succ n ih =>
 intro t w0 st so hn hin h hst hm
 have hR:=Sp.xR hW (n+1) t st hn hst hm
 suffices key:∀K:WP,(∀so' w',WkAt w' p c1 c2 c3 c4 m so' L FP (Sp.yH L (n+1) t st)→Ext (WkF c4 m so) w0 w'→(∀b,so'.blk b→so.blk b∨w0.heap.size≤b)→K w')→m_M1 t c1 c2 c3 c4 w0 K from
  w_M1 _ _ _ _ _ w0 _ (key _ (fun so' w' a b c=>⟨so',a,b,c⟩))
 intro K hK
 unfold m_M1
 obtain ⟨M,hM,hV⟩:=h.mp
 have hz:∀w,(zeroValue 3).run prog w=.ok (.int .i64 0) w:=fun w=>zeroValue3 w
 rcases hM.get underlying205 underlying23 (hz w0) t false with ⟨hno,hl⟩ | ⟨u,hyes,hl⟩
 ·have hnot:t ∉ M:=by have:=xZ.1 hno;rwa [jQH] at this
  have hv:st.1 t=false:=by rw [hV];simpa using hnot
  rw [Sp.yH,if_pos ⟨hin,hv⟩] at hK hR
  refine ⟨some m,h.b1.cell0,0,hl,Br.f (by simp) ?_⟩
  obtain ⟨w1,hu,hM1,E1⟩:=hM.put (f:=one1) underlying205 underlying23 hno ()
  refine ⟨some m,h.b1.cell0,0,hl,w1,by rw [i64 (by omega) (by omega)];exact hu,?_⟩
  have A1:WkAt w1 p c1 c2 c3 c4 m so L FP (Sp.upd st.1 t true,st.2) :=
   ⟨h.b1.ext E1 (fun e=>h.nm.1 e.symm),h.b2.ext E1 (fun e=>h.nm.2.1 e.symm),h.b3.ext E1 (fun e=>h.nm.2.2 e.symm),h.b4.ext E1 h.n4.2.2.2,
   ⟨M ++ [t], by rw [show jTM (M ++ [t]) = jTM M ++ [(t, ())] by simp [jTM]]; exact hM1, fun x => by
     simp only [Sp.upd,List.mem_append,List.mem_singleton];by_cases e:x=t
     ·simp [e]
     ·rw [if_neg e,hV];simp [e]⟩,
   h.out.ext E1 (fun b hb=>(h.ns b hb).2.2.2.2),h.pool.ext E1 (fun b hb=>(h.nf b hb).2.1),h.n4,h.nm,h.ns,h.nf⟩
  refine ⟨some p,A1.b2.cell0,?_⟩
  refine (jSX p t w1 A1.pool hW.ok).mono ?_
  rintro _ w2 ⟨r1,rfl,hks,E2⟩
  refine ⟨_,rfl,?_⟩
  have A2:=A1.pure E2
  have o1:Sp.OvOk L (Sp.upd st.1 t true,st.2):=⟨fun y hy=>by simp only [Sp.upd];split <;> simp [hst.marked y hy],hst.closed,hst.nd,hst.inp⟩
  have hkid:=(hW.node hin).2.2.2.2.1
  have hlen:(Sp.zM (Sp.nodeOf L t)).length≤2:=by rw [Sp.zM];simp;omega
  generalize hks0:Sp.zM (Sp.nodeOf L t)=ks at *
  let sj:Nat→(Int→Bool)×List Int:=fun j=>(ks.take j).foldl (fun st k=>Sp.yH L n k st) (Sp.upd st.1 t true,st.2)
  have good:∀j,j≤ks.length→Sp.OvOk L (sj j)∧∀y,(sj j).1 y=true→y<t→y∈(sj j).2:=by
   intro j;induction j with
   | zero =>
    intro _
    refine ⟨o1,fun y hy hlt=>?_⟩
    simp only [sj,List.take_zero,List.foldl_nil,Sp.upd] at hy ⊢
    rw [if_neg (by omega)] at hy
    exact hm y hy (by omega)
   | succ j ihj =>
    intro hj
    obtain ⟨g1,g2⟩:=ihj (by omega)
    have hk:=hkid ks[j] (List.getElem_mem _)
    have hk1:=(Sp.vB.1 hk.1).1
    have e:sj (j+1)=Sp.yH L n ks[j] (sj j):=by simp only [sj];rw [List.take_succ_eq_append_getElem (by omega),List.foldl_append];rfl
    have r:=Sp.xR hW n ks[j] (sj j) (by omega) g1 (fun y hy hle=>g2 y hy (by omega))
    rw [e]
    refine ⟨r.toOvOk,fun y hy hlt=>?_⟩
    rcases r.back y hy with h1 | h1
    ·obtain ⟨M',e',_⟩:=r.app
     rw [e'];exact List.mem_append_left _ (g2 y h1 hlt)
    ·exact h1
  refine ⟨fun x A=>∃(j:Nat) (so':Sl),x=j∧j≤ks.length∧WkAt A p c1 c2 c3 c4 m so' L FP (sj j)∧Ext (WkF c4 m so) w2 A∧∀b,so'.blk b→so.blk b∨w2.heap.size≤b,fun x _=>((ks.length:Int) - x).toNat,⟨0,so,rfl,Nat.zero_le _,A2,Ext.refl _,fun b hb=>.inl hb⟩,?_⟩
  rintro _ w3 ⟨j,so3,rfl,hj,A3,X3,f3⟩
  unfold m_M1_l1
  have hlen1:r1.len=ks.length:=by rw [hks.len,yW]
  have hks3:Lst (fun b=>w1.heap.size≤b∧b<w2.heap.size) w3 1 r1 (tmr ks):=hks.ext X3 (fun b hb hx=>by
   rcases hx with hx | hx | hx
   ·have:=A1.b4.lt;omega
   ·have:m<w1.heap.size:=hM1.lt;omega
   ·have:=A1.out.lt hx;omega)
  obtain ⟨g1,g2⟩:=good j hj
  refine ⟨fun hc=>?_,fun hc=>?_⟩
  ·have hc:j<ks.length:=by have:=of_decide_eq_true hc;omega
   obtain ⟨a,hat,_,hv⟩:=jAJ hks3 hc
   refine ⟨a,hat,_,hv,_,A3.b3.cell0,_,_,_,rfl,call231,?_⟩
   have hk:=hkid ks[j] (List.getElem_mem _)
   have hk1:=(Sp.vB.1 hk.1).1
   refine (ih ks[j] w3 (sj j) so3 (by omega) hk.1 A3 g1 (fun y hy hle=>g2 y hy (by omega))).mono ?_
   rintro _ w4 ⟨rfl,so4,A4,X4,f4⟩
   refine ⟨rfl,⟨j+1,so4,vK hc (by omega),hc,?_,X3.trans' X4 (fun i hi hb=>?_),fun b hb=>?_⟩,?_⟩
   ·have e:sj (j+1)=Sp.yH L n ks[j] (sj j):=by simp only [sj];rw [List.take_succ_eq_append_getElem (by omega),List.foldl_append];rfl
    rw [e];exact A4
   ·rcases hb with hb | hb | hb
    ·exact .inl hb
    ·exact .inr (.inl hb)
    ·exact .inr (.inr ((f3 i hb).elim id (fun h=>by omega)))
   ·rcases f4 b hb with h1 | h1
    ·exact f3 b h1
    ·have:=X3.size;right;omega
   ·rw [vK hc (by omega)]
    show ((ks.length:Int) - ((j+1:Nat):Int)).toNat<((ks.length:Int) - (j:Int)).toNat
    omega
  ·have hc:j=ks.length:=by have:=of_decide_eq_false hc;omega
   subst hc
   have es:sj ks.length=Sp.yH L n (Sp.nodeOf L t).b (Sp.yH L n (Sp.nodeOf L t).a (Sp.upd st.1 t true,st.2)):=by
    rw [← Sp.jMN hW hin,hks0];simp only [sj,List.take_length]
   simp only at hK hR
   rw [← es] at hK hR
   generalize sj ks.length=s3 at *
   refine ⟨so3,A3.b4.cell0,?_⟩
   intro p1 w4 h4
   have E4:Pure w3 w4:=Ext.new h4
   have hfew:s3.2.length≤65536:=by have:=Sp.jBK g1.nd g1.inp;have:=hW.ok.few;omega
   obtain ⟨s1',w5,hr5,R5,X5,f5⟩:=(A3.out.pure E4).append (P:=prog) (ty:=137) (c:=1) jSI (r:=[.int .i64 t]) (Box.of_new h4).row rfl rfl (by rw [yW];omega) (by rw [yW];simp [maxLen];omega)
   have b5:=(A3.b4.pure E4).ext X5 (fun hb=>(A3.ns _ hb).2.2.2.1 rfl)
   refine ⟨s1',w5,hr5,b5.canW0 (by simp),?_⟩
   intro w6 h6
   have E6:Ext (·=c4.block) w5 w6:=by rw [h6];exact Ext.setCell c4 _
   have b6:Box w6 c4 [s1'.v] 137:=by rw [h6];exact b5.set0
   have z1:=E1.size
   have z2:=E2.size
   have z3:=X3.size
   have z4:=E4.size
   have f5':∀b,s1'.blk b→so3.blk b∨w3.heap.size≤b:=fun b hb=>(f5 b hb).imp_right (fun h=>by omega)
   have ns':∀b,s1'.blk b→b≠c1.block∧b≠c2.block∧b≠c3.block∧b≠c4.block∧b≠m:=fun b hb=>(f5' b hb).elim (A3.ns b) (fun hh=>by
    have q1:=A3.b1.lt;have q2:=A3.b2.lt;have q3:=A3.b3.lt;have q4:=A3.b4.lt;have q5:m<w3.heap.size:=by obtain ⟨M',hM',_⟩:=A3.mp;exact hM'.lt
    exact ⟨by omega,by omega,by omega,by omega,by omega⟩)
   have up:∀{T:TypeId} {c:Addr} {vs:List Value},Box w3 c vs T→¬ so3.blk c.block→c.block≠c4.block→Box w6 c vs T:=fun h h1 h2=>((h.pure E4).ext X5 h1).ext E6 h2
   refine hK s1' w6 ⟨up A3.b1 (fun hb=>(A3.ns _ hb).1 rfl) A3.n4.1.symm,up A3.b2 (fun hb=>(A3.ns _ hb).2.1 rfl) A3.n4.2.1.symm,up A3.b3 (fun hb=>(A3.ns _ hb).2.2.1 rfl) A3.n4.2.2.1.symm,b6,?_,?_,((A3.pool.pure E4).ext X5 (fun b hb=>(A3.nf b hb).2.2)).ext E6 (fun b hb e=>(A3.nf b hb).1 e),A3.n4,A3.nm,ns',fun b hb=>⟨(A3.nf b hb).1,(A3.nf b hb).2.1,fun hh=>(f5' b hh).elim (A3.nf b hb).2.2 (fun hh=>by have:=A3.pool.lt hb;omega)⟩⟩ ?_ ?_
   ·obtain ⟨M',hM',hV'⟩:=A3.mp
    exact ⟨M',((hM'.pure E4).ext X5 (fun hb=>(A3.ns _ hb).2.2.2.2 rfl)).ext E6 A3.n4.2.2.2.symm,hV'⟩
   ·show Rws _ _ _ _ (tmr (s3.2++[t]))
    rw [show tmr (s3.2++[t])=tmr s3.2++[[.int .i64 t]] by simp [tmr]]
    exact R5.ext E6 (fun b hb e=>(ns' b hb).2.2.2.1 e)
   ·have f33:∀b,so3.blk b→b<w0.heap.size→so.blk b:=fun b hb hlt=>(f3 b hb).elim id (fun h2=>by omega)
    refine (((E1.mono (fun b _ hb=>.inr (.inl hb))).thenPure E2).trans X3).trans' ((E4.pure (F:=WkF c4 m so3)).trans ((X5.mono (fun b _ hb=>.inr (.inr hb))).trans (E6.mono (fun b _ e=>.inl e)))) (fun i hi hb=>?_)
    rcases hb with hb | hb | hb
    ·exact .inl hb
    ·exact .inr (.inl hb)
    ·exact .inr (.inr (f33 i hb hi))
   ·intro b hb
    rcases f5' b hb with h1 | h1
    ·exact (f3 b h1).imp_right (fun h=>by omega)
    ·right;omega
 ·have hyes':t∈M:=by have:=jBP hyes;simp [jTM] at this;exact this
  have hv:st.1 t=true:=by rw [hV];simpa using hyes'
  rw [Sp.yH,if_neg (by simp [hv])] at hK
  refine ⟨some m,h.b1.cell0,1,hl,Br.t (by simp) ?_⟩
  exact hK so w0 h (Ext.refl _) (fun b hb=>.inl hb)
theorem c_subs (p:Addr) (t:Int) (w0:World) {L:Sp.Pool} {FP:NP} (hW:Sp.Wf L) (hP:zS w0 p L FP) :
  Calls prog 199 #[.pointer (some p),.int .i64 t] w0 (fun e w'=>∃r:Sl,e=.returned r.v∧RetO w0 23 1 (tmr (Sp.subs L t)) r w'):=by
 refine w_B3 _ _ w0 (fun r w'=>RetO w0 23 1 (tmr (Sp.subs L t)) r w') ?_
 unfold m_B3
 intro p2 w1 h1 p3 w2 h2 p4 w3 h3 p5 w4 h4
 have B2:=Box.of_new h1
 have B3:=Box.of_new h2
 have M4:=IMap.of_new (f:=one1) h3
 have B5:=Box.of_new h4
 have E1:Pure w0 w1:=Ext.new h1
 have E2:Pure w1 w2:=Ext.new h2
 have E3:Pure w2 w3:=Ext.new h3
 have E4:Pure w3 w4:=Ext.new h4
 have s1:=h1.at_size;have s2:=h2.at_size;have s3:=h3.at_size;have s4:=h4.at_size
 have z1:=E1.size;have z2:=E2.size;have z3:=E3.size;have z4:=E4.size
 have l1:=B2.lt;have l2:=B3.lt;have l3:=M4.lt;have l4:=B5.lt
 refine ⟨B5.canW0 (by simp),fun w5 h5=>?_⟩
 have E5:Ext (·=p5.block) w4 w5:=by rw [h5];exact Ext.setCell p5 _
 have B5':Box w5 p5 [.map (some p4.block)] 205:=by rw [h5];exact B5.set0
 intro p6 w6 h6
 have B6:=Box.of_new h6
 have E6:Pure w5 w6:=Ext.new h6
 have s6:=h6.at_size;have z5:=E5.size;have z6:=E6.size;have l6:=B6.lt
 refine ⟨B6.canW0 (by simp),fun w7 h7=>?_⟩
 have E7:Ext (·=p6.block) w6 w7:=by rw [h7];exact Ext.setCell p6 _
 have B6':Box w7 p6 [.func (.func 231) #[] #[.pointer (some p5),.pointer (some p2),.pointer (some p6),.pointer (some p3)]] 267:=by rw [h7];exact B6.set0
 have z7:=E7.size
 have EE:Pure w0 w7:=((((((E1.trans E2).trans E3).trans E4).own (by omega) E5).trans E6).own (by omega) E7)
 have up:∀{T:TypeId} {c:Addr} {vs:List Value},Box w4 c vs T→c.block≠p5.block→c.block≠p6.block→Box w7 c vs T:=fun h h1 h2=>((h.ext E5 h1).pure E6).ext E7 h2
 have hnil:∀b,¬ Sl.nil.blk b:=fun b hb=>by obtain ⟨a,h,_⟩:=hb;cases h
 have A:WkAt w7 p p5 p2 p6 p3 p4.block Sl.nil L FP (fun _=>false,[]) :=
  ⟨(B5'.pure E6).ext E7 (by omega),up (((B2.pure E2).pure E3).pure E4) (by omega) (by omega),B6',up ((B3.pure E3).pure E4) (by omega) (by omega),
  ⟨[],(((M4.pure E4).ext E5 (by omega)).pure E6).ext E7 (by omega),fun x=>by simp⟩,Rws.nil _ _ _,hP.pure EE,⟨by omega,by omega,by omega,by omega⟩,⟨by omega,by omega,by omega⟩,fun b hb=>(hnil b hb).elim,fun b hb=>by
   have:=hP.lt hb;exact ⟨by omega,by omega,hnil b⟩⟩
 refine ⟨some p,A.b2.cell0,?_⟩
 refine (c_in p t w7 A.pool).mono ?_
 rintro _ _ ⟨r1,rfl,rfl,rfl⟩
 refine ⟨_,rfl,fun hc=>?_,fun hc=>?_⟩
 ·refine ⟨_,A.b3.cell0,_,_,_,rfl,call231,?_⟩
  refine (c_walk p p5 p2 p6 p3 p4.block hW (t.toNat+1) t w7 _ Sl.nil (by omega) hc A ⟨by simp,by simp,by simp,by simp⟩ (by simp)).mono ?_
  rintro _ w8 ⟨rfl,so,A8,X8,f8⟩
  refine ⟨rfl,so,A8.b4.cell0,A8.out,fun b hb=>?_,EE.trans' X8 (fun i hi hb=>?_)⟩
  ·rcases f8 b hb with h | h
   ·exact (hnil b h).elim
   ·omega
  ·rcases hb with hb | hb | hb
   ·omega
   ·omega
   ·exact hnil _ hb
 ·have : Sp.subs L t = [] := by
   unfold Sp.subs;rw [Sp.yH,if_neg (by simp [hc])]
  rw [this]
  exact ⟨Sl.nil,A.b4.cell0,Rws.nil _ _ _,fun b hb=>(hnil b hb).elim,EE⟩
theorem jPV (p:Addr) (t:Int) (w0:World):Calls prog 139 #[.pointer (some p),.int .i64 t] w0 (fun e w'=>∃r:Value,e=.returned r∧∃p2 p3:Addr,r=.func (.func 198) #[] #[.pointer (some p2),.pointer (some p3)]∧Box w' p2 [.pointer (some p)] 29∧Box w' p3 [.int .i64 t] 23∧Pure w0 w'):=by
 refine w_X2 _ _ w0 (fun r w'=>∃p2 p3:Addr,r=.func (.func 198) #[] #[.pointer (some p2),.pointer (some p3)]∧Box w' p2 [.pointer (some p)] 29∧Box w' p3 [.int .i64 t] 23∧Pure w0 w') ?_;unfold m_X2;intro p2 w1 h1 p3 w2 h2;exact ⟨p2,p3,rfl,(Box.of_new h1).pure (Ext.new h2),Box.of_new h2,(show Pure w0 w1 from Ext.new h1).trans (Ext.new h2)⟩
theorem jKF {p p2 p3:Addr} {t:Int} {w0:World} {L:Sp.Pool} {FP:NP} (hW:Sp.Wf L) (hP:zS w0 p L FP) (B2:Box w0 p2 [.pointer (some p)] 29) (B3:Box w0 p3 [.int .i64 t] 23) :
  jQD prog 198 #[.pointer (some p2),.pointer (some p3)] (fun z:Int=>#[.int .i64 z]) (Sp.subs L t) (fun _=>True) w0:=by
 intro l J Jx W E _ hJ hJx hyield h0
 refine (w_X1 (.func (.yield l) #[] #[]) p2 p3 W (fun A=>∃X,Hst W X A X A∧(J (Sp.subs L t) X A∨∃pre,Jx pre X A)) ?_).mono (fun e A h=>⟨⟨_,h.1⟩,h.2⟩)
 unfold m_X1
 refine ⟨some p,(B2.pure E).cell0,t,(B3.pure E).cell0,?_⟩
 refine (c_subs p t W hW (hP.pure E)).mono ?_
 rintro _ w1 ⟨r,rfl,hr⟩
 refine ⟨_,rfl,?_⟩
 generalize hxs:Sp.subs L t=xs at *
 have hfew:xs.length≤65536:=by rw [← hxs];have:=Sp.jAA hW t;have:=hW.ok.few;omega
 have hs1:Hst W None W (fun b=>W.heap.size≤b∧b<w1.heap.size) w1:=⟨hr.pure.pure,fun _ h=>h.elim,fun b h=>.inr h.1,fun b h=>h.1,fun b h=>h.2,hr.pure.size⟩
 have hX:∀b,r.blk b→W.heap.size≤b∧b<w1.heap.size:=fun b hb=>⟨hr.own b hb,hr.rows.lt hb⟩
 refine ⟨fun x A=>∃j:Nat,x=j∧j≤xs.length∧Hst W (fun b=>W.heap.size≤b∧b<w1.heap.size) A (fun b=>W.heap.size≤b∧b<w1.heap.size) A∧J (xs.take j) (fun b=>W.heap.size≤b∧b<w1.heap.size) A∧Rws A 23 1 r (tmr xs),fun x _=>((xs.length:Int) - x).toNat,⟨0,rfl,Nat.zero_le _,hs1.here,hJ _ _ _ _ _ h0 hs1,hr.rows⟩,?_⟩
 rintro _ A ⟨j,rfl,hj,hA,hJA,hRA⟩
 unfold m_X1_l1
 have hlen:r.len=xs.length:=by rw [hr.rows.len,yW]
 refine ⟨fun hc=>?_,fun hc=>?_⟩
 ·have hc:j<xs.length:=by have:=of_decide_eq_true hc;omega
  obtain ⟨a,hat,_,hv⟩:=jAJ hRA.lst hc
  refine ⟨a,hat,_,hv,l,rfl,?_⟩
  refine (hyield (xs.take j) xs[j] _ A hJA hA ⟨xs.drop (j+1),by rw [← List.drop_eq_getElem_cons hc,List.take_append_drop]⟩).mono ?_
  rintro e A' (⟨rfl,hk,hJ'⟩ | ⟨rfl,hk,hJ'⟩)
  ·refine ⟨_,rfl,Br.f rfl ⟨⟨j+1,vK hc (by omega),hc,hA.again hk,by rw [List.take_succ_eq_append_getElem hc];exact hJ',hRA.kept hk hX⟩,?_⟩⟩
   rw [vK hc (by omega)]
   show ((xs.length:Int) - ((j+1:Nat):Int)).toNat<((xs.length:Int) - (j:Int)).toNat
   omega
  ·exact ⟨_,rfl,Br.t rfl ⟨_,hA.again hk,.inr ⟨_,hJ'⟩⟩⟩
 ·have hc:j=xs.length:=by have:=of_decide_eq_false hc;omega
  subst hc
  rw [List.take_length] at hJA
  exact ⟨_,hA,.inl hJA⟩
end Go.Proofs
end
section
open Go Go.SE
namespace Go.Proofs
open Tryz
attribute [local irreducible] Calls CallsD
theorem jSJ {w:World} {e:TypeId} {sz:Nat} {s:Sl} {rs:List (List Value)} (h:Rws w e sz s rs):s.a=none→s=Sl.nil:=by
 intro ha;rcases h.own with ⟨h,_⟩ | ⟨g,cur,h,_⟩
 ·exact h
 ·rw [ha] at h;cases h
theorem jRX (f:Fld):∀args w,(callFunc f.put args).run prog w=.ok (.enter f.put args) w:=by
 cases f
 ·exact call182
 ·exact call186
 ·exact call188
 ·exact call190
 ·exact call194
 ·exact call196
theorem jPK {P:Program} {T K E Q:TypeId} {w:World} {m:Nat} {es:List (Value×Value)} (h:CMap w m es) (hT:P.underlying T=some (.map K E)):(Builtin.len_ #[T] Q #[.map (some m)]).run P w=.ok (.int .i64 (es.length:Int)) w:=by
 obtain ⟨arr,clock,hm,rfl,_,_⟩:=h.ex;have hg:(getObj m).run P w=.ok (.map arr clock) w:=by simp [getObj,Sem.run,hm]
 simp [Builtin.len_,run_underlying hT,hg,goInt]
theorem jRR {n:Sp.Node} (h:Fld.fst∈uA n.kind):n.a∈Sp.zM n:=by
 unfold uA at h;unfold Sp.zM Sp.shapeOf
 repeat' split at h
 all_goals first | (exfalso;revert h;decide) | skip
 all_goals (rename_i h1;rw [h1];simp)
theorem jRP {n:Sp.Node} (h:Fld.snd∈uA n.kind):n.b∈Sp.zM n:=by
 unfold uA at h;unfold Sp.zM Sp.shapeOf
 repeat' split at h
 all_goals first | (exfalso;revert h;decide) | skip
 all_goals (rename_i h1;rw [h1];simp)
structure LaySep (p2 p3 p4 p6:Addr) (m mb:Nat) (FP F:NP) (B:Nat):Prop where
 lt:p2.block<B∧p3.block<B∧p4.block<B∧p6.block<B∧m<B∧mb<B
 lF:∀b,F b→b<B
 lP:∀b,FP b→b<B
 d3:p2.block≠p3.block∧p4.block≠p3.block∧p6.block≠p3.block∧mb≠p3.block∧m≠p3.block∧¬ F p3.block∧¬ FP p3.block
 db:p2.block≠mb∧p4.block≠mb∧p6.block≠mb∧m≠mb∧¬ F mb∧¬ FP mb
def LayV (p2 p3 p4 p6:Addr) (m mb:Nat) (FP F:NP) (s:Sl) (b:Nat):Prop :=
 b=p2.block∨b=p3.block∨b=p4.block∨b=p6.block∨b=m∨b=mb∨F b∨FP b∨s.blk b
structure LayAt (A:World) (p p2 p3 p4 p6:Addr) (m mb:Nat) (L:Sp.Pool) (FP F:NP) (s:Sl) (bs:List UInt8) (M:List (Int×Int)):Prop where
 b2:Box A p2 [.pointer (some p)] 29
 b3:Box A p3 [s.v] 54
 b4:Box A p4 [.map (some m)] 203
 b6:Box A p6 [.map (some mb)] 205
 rows:Rws A 5 1 s (byr bs)
 nums:IMap (fun i:Int=>.int .i64 i) A mb M
 kinds:Kinds A m F
 pool:zS A p L FP
section
variable {A A':World} {p p2 p3 p4 p6:Addr} {m mb B:Nat} {L:Sp.Pool} {FP F G:NP} {s s':Sl} {bs bs':List UInt8} {M:List (Int×Int)}
theorem LayAt.ext (h:LayAt A p p2 p3 p4 p6 m mb L FP F s bs M) (E:Ext G A A') (hG:∀b,LayV p2 p3 p4 p6 m mb FP F s b→¬ G b):LayAt A' p p2 p3 p4 p6 m mb L FP F s bs M :=
 ⟨h.b2.ext E (hG _ (.inl rfl)),h.b3.ext E (hG _ (.inr (.inl rfl))),h.b4.ext E (hG _ (.inr (.inr (.inl rfl)))),h.b6.ext E (hG _ (.inr (.inr (.inr (.inl rfl))))),
 h.rows.ext E (fun b hb=>hG b (.inr (.inr (.inr (.inr (.inr (.inr (.inr (.inr hb))))))))),h.nums.ext E (hG _ (.inr (.inr (.inr (.inr (.inr (.inl rfl))))))),
 h.kinds.ext E (fun b hb=>hb.elim (fun hb=>hG b (.inr (.inr (.inr (.inr (.inr (.inr (.inl hb)))))))) (fun e=>hG b (.inr (.inr (.inr (.inr (.inl e))))))),
 h.pool.ext E (fun b hb=>hG b (.inr (.inr (.inr (.inr (.inr (.inr (.inr (.inl hb)))))))))⟩
theorem LayAt.pure (h:LayAt A p p2 p3 p4 p6 m mb L FP F s bs M) (E:Pure A A'):LayAt A' p p2 p3 p4 p6 m mb L FP F s bs M:=h.ext E (fun _ _ h=>h)
theorem LayAt.lt (h:LayAt A p p2 p3 p4 p6 m mb L FP F s bs M) {b:Nat} (hb:LayV p2 p3 p4 p6 m mb FP F s b):b<A.heap.size:=by
 rcases hb with rfl | rfl | rfl | rfl | rfl | rfl | hb | hb | hb
 ·exact h.b2.lt
 ·exact h.b3.lt
 ·exact h.b4.lt
 ·exact h.b6.lt
 ·exact h.kinds.mlt
 ·exact h.nums.lt
 ·exact h.kinds.lt _ hb
 ·exact h.pool.lt hb
 ·exact h.rows.lt hb
theorem LayAt.put (h:LayAt A p p2 p3 p4 p6 m mb L FP F s bs M) (S:LaySep p2 p3 p4 p6 m mb FP F B) (hs:∀b,s.blk b→B≤b) (hs':∀b,s'.blk b→B≤b) (E:Ext s.blk A A') (hR:Rws A' 5 1 s' (byr bs')) :
  LayAt (A'.setCell p3 s'.v) p p2 p3 p4 p6 m mb L FP F s' bs' M∧Ext (fun b=>s.blk b∨b=p3.block) A (A'.setCell p3 s'.v):=by
 have E2:Ext (·=p3.block) A' (A'.setCell p3 s'.v):=Ext.setCell p3 _
 have EE:Ext (fun b=>s.blk b∨b=p3.block) A (A'.setCell p3 s'.v):=(E.mono (fun b _ h=>.inl h)).trans (E2.mono (fun b _ h=>.inr h))
 obtain ⟨l2,l3,l4,l6,lm,lb⟩:=S.lt
 obtain ⟨d2,d4,d6,d7,d8,d9,d10⟩:=S.d3
 have ns:∀b,b<B→¬ s.blk b:=fun b hb hh=>by have:=hs b hh;omega
 have b3:=(h.b3.ext E (ns _ l3)).set0 (v:=s'.v)
 refine ⟨⟨h.b2.ext EE ?_,b3,h.b4.ext EE ?_,h.b6.ext EE ?_,hR.ext E2 (fun b hb e=>by have:=hs' b hb;omega),h.nums.ext EE ?_,h.kinds.ext EE ?_,h.pool.ext EE ?_⟩,EE⟩
 ·rintro (hh | hh)
  ·exact ns _ l2 hh
  ·exact d2 hh
 ·rintro (hh | hh)
  ·exact ns _ l4 hh
  ·exact d4 hh
 ·rintro (hh | hh)
  ·exact ns _ l6 hh
  ·exact d6 hh
 ·rintro (hh | hh)
  ·exact ns _ lb hh
  ·exact d7 hh
 ·rintro b (hb | rfl) (hh | hh)
  ·exact ns _ (S.lF b hb) hh
  ·subst hh;exact d9 hb
  ·exact ns _ lm hh
  ·exact d8 hh
 ·rintro b hb (hh | hh)
  ·exact ns _ (S.lP b hb) hh
  ·subst hh;exact d10 hb
end
theorem c_lay (p:Addr) (t:Int) (w0:World) {L:Sp.Pool} {FP:NP} (hW:Sp.Wf L) (hN:Sp.tO L) (hP:zS w0 p L FP) :
  Calls prog 98 #[.pointer (some p),.int .i64 t] w0 (fun e w'=>∃r:Sl,e=.returned r.v∧RetO w0 5 1 (byr (xL L t)) r w'):=by
 refine w_S1 _ _ w0 (fun r w'=>RetO w0 5 1 (byr (xL L t)) r w') ?_
 unfold m_S1
 intro p2 w1 h1 p3 w2 h2
 have E1:Pure w0 w1:=Ext.new h1
 have E2:Pure w1 w2:=Ext.new h2
 have B2:=(Box.of_new h1).pure E2
 have B3:=Box.of_new h2
 have s1:=h1.at_size;have s2:=h2.at_size;have l2:=(Box.of_new h1).lt;have l3:=B3.lt;have z1:=E1.size;have z2:=E2.size
 refine (jPS w2).mono ?_
 rintro _ w3 ⟨_,rfl,m,F,rfl,hK,E3,hm,hF⟩
 have z3:=E3.size
 have lm:=hK.mlt
 refine ⟨_,rfl,E3.keptP,?_⟩
 intro p4 w4 h4
 have E4:Pure w3 w4:=Ext.new h4
 have B4:=Box.of_new h4
 have s4:=h4.at_size;have l4:=B4.lt;have z4:=E4.size
 refine ⟨B4.canW0 (by simp),fun h=>h,?_⟩
 rintro w5 h5
 have X5:Ext (·=p4.block) w4 w5:=by rw [h5];exact Ext.setCell p4 _
 have B4':Box w5 p4 [.map (some m)] 203:=by rw [h5];exact B4.set0
 have z5:=X5.size
 intro p5 w6 h6
 have E6:Pure w5 w6:=Ext.new h6
 have M5:=IMap.of_new (f:=fun i:Int=>.int .i64 i) h6
 have s6:=h6.at_size;have l5:=M5.lt;have z6:=E6.size
 intro p6 w7 h7
 have E7:Pure w6 w7:=Ext.new h7
 have B6:=Box.of_new h7
 have s7:=h7.at_size;have l6:=B6.lt;have z7:=E7.size
 refine ⟨B6.canW0 (by simp),fun h=>h,?_⟩
 rintro w8 h8
 have X8:Ext (·=p6.block) w7 w8:=by rw [h8];exact Ext.setCell p6 _
 have B6':Box w8 p6 [.map (some p5.block)] 205:=by rw [h8];exact B6.set0
 have z8:=X8.size
 have E08:Pure w0 w8:=((((((E1.trans E2).trans E3).trans E4).own (by omega) X5).trans E6).trans E7).own (by omega) X8
 have P8:=hP.pure E08
 have up:∀{T:TypeId} {c:Addr} {vs:List Value},Box w5 c vs T→c.block≠p6.block→Box w8 c vs T:=fun h h2=>((h.pure E6).pure E7).ext X8 h2
 have up3:∀{T:TypeId} {c:Addr} {vs:List Value},Box w2 c vs T→c.block≠p4.block→c.block≠p6.block→Box w8 c vs T:=fun h h1 h2=>up (((h.pure E3).pure E4).ext X5 h1) h2
 have B28:=up3 B2 (by omega) (by omega)
 have B38:=up3 B3 (by omega) (by omega)
 have B48:=up B4' (by omega)
 have M58:=(M5.pure E7).ext X8 (by omega)
 have hFlt:=hK.lt
 have K8:Kinds w8 m F:=(((((hK.pure E4).ext X5 (fun b hb e=>hb.elim (fun hb=>by have:=hFlt b hb;omega) (fun hb=>by omega))).pure E6).pure E7).ext X8 (fun b hb e=>hb.elim (fun hb=>by have:=hFlt b hb;omega) (fun hb=>by omega)))
 refine ⟨some p,B28.cell0,?_⟩
 refine (jPV p t w8).mono ?_
 rintro _ w9 ⟨_,rfl,q2,q3,rfl,Bq2,Bq3,E9⟩
 have z9:=E9.size
 have E09:=E08.trans E9
 refine ⟨_,rfl,E9.keptP,_,_,rfl,call198,_,_,jKF hW (P8.pure E9) Bq2 Bq3,?_⟩
 have hPlt:∀b,FP b→b<w0.heap.size:=fun b hb=>hP.lt hb
 have S:LaySep p2 p3 p4 p6 m p5.block FP F w9.heap.size:=⟨⟨by omega,by omega,by omega,by omega,by omega,by omega⟩,fun b hb=>by have:=hFlt b hb;omega,fun b hb=>by have:=hPlt b hb;omega,
  ⟨by omega,by omega,by omega,by omega,by omega,fun hb=>by have:=hF _ hb;omega,fun hb=>by have:=hPlt _ hb;omega⟩,⟨by omega,by omega,by omega,by omega,fun hb=>by have:=hFlt _ hb;omega,fun hb=>by have:=hPlt _ hb;omega⟩⟩
 have A9:LayAt w9 p p2 p3 p4 p6 m p5.block L FP F Sl.nil [] []:=⟨B28.pure E9,B38.pure E9,B48.pure E9,B6'.pure E9,Rws.nil _ _ _,M58.pure E9,K8.pure E9,P8.pure E9⟩
 have hnil:∀b,¬ Sl.nil.blk b:=fun b hb=>by obtain ⟨a,h,_⟩:=hb;cases h
 have hfew:=Sp.jAA hW t
 have hsub:∀u∈Sp.subs L t,Sp.inP L u=true:=fun u hu=>have h:=(Sp.jDD hW).1 hu;(Sp.Sub.le hW h.1 h.2).1
 have hord:=Sp.jGB hW t
 have hnd:=Sp.jCB hW t
 have htx:xL L t=textFrom L [] (Sp.subs L t):=rfl
 rw [htx]
 generalize hxs:Sp.subs L t=xs at *
 have hL:=hW.ok.few
 generalize hB:w9.heap.size=B at *
 have hw3:w0.heap.size≤p3.block:=by omega
 have hw5:w0.heap.size≤p5.block:=by omega
 have hwB:w0.heap.size≤B:=by omega
 generalize p5.block=mb at *
 clear up up3 B28 B38 B48 M58 K8 P8 B2 B3 B4 B4' M5 B6 B6' X5 X8 E1 E2 E3 E4 E6 E7 h1 h2 h4 h5 h6 h7 h8 hK hF hFlt Bq2 Bq3
 refine ⟨fun pre Y A=>∃s:Sl,LayAt A p p2 p3 p4 p6 m mb L FP F s (textFrom L [] pre) (yQ 0 pre)∧(∀b,s.blk b→B≤b)∧(∀b,LayV p2 p3 p4 p6 m mb FP F s b→¬ Y b)∧B≤A.heap.size∧Pure w0 A,⟨fun _ _ _ _=>trivial,?_,fun _ _ _ _ _ h=>h.elim,fun _ _ _ _ _ h=>h.elim⟩,?_,?_,?_⟩
 ·rintro pre Y A Y' A' ⟨s,hA,hs,hv,hz,hE⟩ hst
  have hv':∀b,LayV p2 p3 p4 p6 m mb FP F s b→¬ Y' b:=hst.disj (fun b hb=>⟨hA.lt hb,hv b hb⟩)
  exact ⟨s,hA.ext hst.ext hv',hs,hv',Nat.le_trans hz hst.ext.size,hE.hst hst⟩
 ·exact ⟨Sl.nil,A9,fun b hb=>(hnil b hb).elim,fun b _ h=>h,by omega,E09⟩
 ·rintro pre z Y A ⟨s,hA,hs,hv,hz,hE⟩ hsA ⟨post,hpost⟩
  have hzin:Sp.inP L z=true:=hsub z (by rw [hpost];simp)
  have hprein:∀u∈pre,Sp.inP L u=true:=fun u hu=>hsub u (by rw [hpost];simp [hu])
  have hplen:pre.length<65536:=by have:=congrArg List.length hpost;simp only [List.length_append,List.length_cons] at this;omega
  have hzn:z ∉ pre:=by
   rw [hpost] at hnd;have:=(List.nodup_append.1 hnd).2.2;exact fun h=>this z h z (by simp) rfl
  have hbs:=jCM hW hN pre [] hprein (by simp only [List.length_nil];omega)
  refine ⟨some p,hA.b2.cell0,?_⟩
  refine (jFU p z A hA.pool hW.ok).mono ?_
  rintro _ w10 ⟨k,r,t',u,x,a,b,r3,rfl,⟨hn,_⟩,E10⟩
  refine ⟨_,_,_,_,_,_,_,_,rfl,E10.keptP,fun H1 w12 hs12=>?_⟩
  obtain ⟨k1,k9,f0,f1,t0,t1,x1⟩:=Sp.jGI hW hzin
  have hnum:=hN.node z
  have hko:=hord pre z post hpost
  have hnt:yY L pre z=UInt8.ofNat k.toNat :: (uA k).flatMap (Fld.bytes ⟨k,r,t',u,x,a,b⟩ (posOf pre a) (posOf pre b)):=by rw [yY,← hn]
  rw [← hn] at k1 k9 f0 f1 t0 t1 x1 hnum hko
  simp only at k1 k9 f0 f1 t0 t1 x1 hnum
  have hold:∀b,H1 b→A.heap.size≤b:=hs12.old
  have A12:=(hA.pure E10).ext hs12.ext (fun b hb hh=>by have:=hold b hh;have:=hA.lt hb;omega)
  have E012:Pure w0 w12:=(hE.trans E10).trans' hs12.ext (fun i hi hh=>by have:=hold i hh;have:=hE.size;omega)
  have k12:Kept Y A w12:=(E10.keptP).trans (hs12.ext.kept (fun b hb hh=>by have:=hold b hh;have:=hsA.lt b hb;omega))
  have z10:=E10.size
  have z12:=hs12.ext.size
  refine ⟨s,A12.b3.cell0,fun p8 w13 h8=>?_⟩
  have E13:Pure w12 w13:=Ext.new h8
  have A13:=A12.pure E13
  have z13:=E13.size
  obtain ⟨kn,rfl⟩:∃kn:Nat,k=kn:=⟨k.toNat,by omega⟩
  simp only [Int.toNat_natCast] at hnt
  rw [tE] at h8
  obtain ⟨s1,w14,hr,hR,hEx,hb⟩:=A13.rows.append (P:=prog) (ty:=54) (c:=1) jBG (Box.of_newA h8).row rfl rfl (by rw [vR];omega) (by rw [vR];simp only [maxLen];omega)
  have hs1:∀b,s1.blk b→B≤b:=fun b hh=>(hb b hh).elim (hs b) (fun h=>by omega)
  have hy1:∀b,s1.blk b→¬ Y b:=fun b hh hY=>(hb b hh).elim (fun h=>hv b (.inr (.inr (.inr (.inr (.inr (.inr (.inr (.inr h)))))))) hY) (fun h=>by have:=hsA.lt b hY;omega)
  have h3A:p3.block<A.heap.size:=hA.b3.lt
  have hH3:¬ H1 p3.block:=fun h=>by have:=hold _ h;omega
  have hHs:∀b,H1 b→¬ s.blk b:=fun b hh hb=>by have:=hold b hh;have:=hA.rows.lt hb;omega
  have hY3:¬ Y p3.block:=hv _ (.inr (.inl rfl))
  have hYs:∀b,Y b→¬ s.blk b:=fun b hY hb=>hv b (.inr (.inr (.inr (.inr (.inr (.inr (.inr (.inr hb)))))))) hY
  refine ⟨s1,w14,hr,hEx.kept hHs,((A13.b3.ext hEx (fun hb=>by have:=hs _ hb;have:=S.lt;omega)).canW0 (by simp)),hH3,?_⟩
  rintro w15 h15
  have hR':Rws w14 5 1 s1 (byr (textFrom L [] pre++[UInt8.ofNat kn])):=by rw [jGS];exact hR
  obtain ⟨A15,X15⟩:=A13.put S hs hs1 hEx hR'
  rw [← h15] at A15 X15
  have E015:Pure w0 w15:=(E012.trans E13).trans' X15 (fun i hi hh=>hh.elim (fun hh=>by have:=hs _ hh;omega) (fun hh=>by omega))
  have k15:Kept Y A w15:=(k12.trans E13.keptP).trans (X15.kept (fun b hY hh=>hh.elim (hYs b hY) (fun e=>by subst e;exact hY3 hY)))
  have z15:=X15.size
  obtain ⟨fs,hlk,hLf⟩:=A15.kinds.get kn k1 k9 false
  refine ⟨some m,A15.b4.cell0,fs,hlk,?_⟩
  have hfl3:=jGN kn
  refine ⟨fun y H w=>∃(j:Nat) (s:Sl),y=j∧j≤(uA kn).length∧H=H1∧LayAt w p p2 p3 p4 p6 m mb L FP F s (textFrom L [] pre++UInt8.ofNat kn :: ((uA kn).take j).flatMap (Fld.bytes ⟨kn,r,t',u,x,a,b⟩ (posOf pre a) (posOf pre b))) (yQ 0 pre)∧Lst F w 2 fs ((uA kn).map Fld.row)∧(∀b,s.blk b→B≤b)∧(∀b,s.blk b→¬ Y b)∧Kept Y A w∧Pure w0 w∧A.heap.size≤w.heap.size,fun y _=>(((uA kn).length:Int) - y).toNat,⟨0,s1,rfl,Nat.zero_le _,rfl,by simpa using A15,hLf,hs1,hy1,k15,E015,by omega⟩,?_⟩
  rintro _ _ wl hst ⟨j,s2,rfl,hj,rfl,A2,hL2,hs2,hy2,k2,E2,z2⟩
  unfold m_S1_l1
  have hlen:fs.len=(uA kn).length:=by rw [hL2.len,List.length_map]
  refine ⟨fun hc=>?_,fun hc=>?_⟩
  ·have hc:=yZ hlen hc
   obtain ⟨a1,hat,hF1,hrow⟩:=hL2.at_ j (by simpa using hc)
   rw [List.getElem_map] at hrow
   refine ⟨a1,hat,.func (.func (uA kn)[j].put) #[] #[],.func (.func (uA kn)[j].get) #[] #[],hrow,fun p9 w16 h9=>?_⟩
   have E16:Pure wl w16:=Ext.new h9
   have B9:=Box.of_newA h9
   have s9:=h9.at_size
   have z16:=E16.size
   refine ⟨⟨rfl,B9.canWs (by simp)⟩,fun hh=>by have:=hst.lt _ hh;omega,?_⟩
   rintro w17 h17
   have X17:Ext (·=p9.block) w16 w17:=by rw [h17];exact Ext.storeRow _ _ _
   have B9':Box w17 p9 [.func (.func (uA kn)[j].put) #[] #[],.func (.func (uA kn)[j].get) #[] #[]] 213:=by rw [h17];exact B9.store rfl
   have A17:=(A2.pure E16).ext X17 (fun b hb e=>by have:=A2.lt hb;omega)
   have L17:=(hL2.pure E16).ext X17 (fun b hb e=>by have:=A2.kinds.lt b hb;omega)
   have z17:=X17.size
   have E017:Pure w0 w17:=(E2.trans E16).own (by have:=E2.size;omega) X17
   have k17:Kept Y A w17:=(k2.trans E16.keptP).trans (X17.kept (fun b hY e=>by have:=hsA.lt b hY;omega))
   refine ⟨_,B9'.cell0,s2,A17.b3.cell0,some mb,A17.b6.cell0,_,#[],#[],rfl,jRX _,?_⟩
   simp only [Array.empty_append,Array.append_empty]
   have hbl:=jIG (Fld.bytes ⟨kn,r,t',u,x,a,b⟩ (posOf pre a) (posOf pre b)) 74 ((uA kn).take j) (fun f _=>jPD _ _ _ f f1 t1 hnum x1 (by have:=tJ pre a;omega) (by have:=tJ pre b;omega))
   have hbl2:((uA kn).take j).length≤3:=by rw [List.length_take];omega
   have hbn:(textFrom L [] pre++UInt8.ofNat kn :: ((uA kn).take j).flatMap (Fld.bytes ⟨kn,r,t',u,x,a,b⟩ (posOf pre a) (posOf pre b))).length≤10000000000:=by
    rw [List.length_append,List.length_cons];omega
   refine (c_put (uA kn)[j] s2 _ ⟨kn,r,t',u,x,a,b⟩ (posOf pre a) (posOf pre b) mb (yQ 0 pre) w17 A17.rows.lst (jSJ A17.rows) hbn ⟨f0,by simp only;omega⟩ ⟨t0,by simp only;omega⟩ hnum (by simp only;omega) A17.nums (fun e=>?_) (fun e=>?_)).mono ?_
   ·have hmem:a∈pre:=hko _ (jRR (n:=⟨kn,r,t',u,x,a,b⟩) (by rw [← e];exact List.getElem_mem _))
    exact ⟨by rw [jCQ pre a hmem 0];simp,by have:=tJ pre a;omega⟩
   ·have hmem:b∈pre:=hko _ (jRP (n:=⟨kn,r,t',u,x,a,b⟩) (by rw [← e];exact List.getElem_mem _))
    exact ⟨by rw [jCQ pre b hmem 0];simp,by have:=tJ pre b;omega⟩
   rintro _ w18 ⟨r4,rfl,hR4⟩
   have E18:=hR4.pure
   have z18:=E18.size
   refine ⟨r4,rfl,hR4.kept,(A17.b3.pure E18).canW0 (by simp),hH3,?_⟩
   rintro w19 h19
   have hs4:∀b,r4.blk b→B≤b:=fun b hb=>by have:=hR4.own b hb;omega
   have hR5:Rws w18 5 1 r4 (byr (textFrom L [] pre++UInt8.ofNat kn :: ((uA kn).take (j+1)).flatMap (Fld.bytes ⟨kn,r,t',u,x,a,b⟩ (posOf pre a) (posOf pre b)))):=by
    have e:textFrom L [] pre++UInt8.ofNat kn :: ((uA kn).take (j+1)).flatMap (Fld.bytes ⟨kn,r,t',u,x,a,b⟩ (posOf pre a) (posOf pre b))=(textFrom L [] pre++UInt8.ofNat kn :: ((uA kn).take j).flatMap (Fld.bytes ⟨kn,r,t',u,x,a,b⟩ (posOf pre a) (posOf pre b)))++(uA kn)[j].bytes ⟨kn,r,t',u,x,a,b⟩ (posOf pre a) (posOf pre b):=by
     rw [List.take_succ_eq_append_getElem hc,List.flatMap_append];simp
    rw [e];exact hR4.rows
   obtain ⟨A19,X19⟩:=A17.put S hs2 hs4 E18.pure hR5
   rw [← h19] at A19 X19
   have z19:=X19.size
   refine ⟨⟨j+1,r4,vK hc (by omega),hc,trivial,A19,L17.ext X19 (fun b hb hh=>?_),hs4,fun b hb hY=>by have:=hR4.own b hb;have:=hsA.lt b hY;omega,k17.trans (X19.kept (fun b hY hh=>hh.elim (fun h=>hy2 b h hY) (fun e=>by subst e;exact hY3 hY))),E017.trans' X19 (fun i hi hh=>hh.elim (fun hh=>by have:=hs2 _ hh;omega) (fun hh=>by omega)),by omega⟩,?_⟩
   ·rcases hh with hh | hh
    ·have:=hs2 b hh;have:=S.lF b hb;omega
    ·subst hh;exact S.d3.2.2.2.2.2.1 hb
   ·rw [vK hc (by omega)];exact jAK hc
  ·have hc:=uL hlen hj hc
   subst hc
   rw [List.take_length] at A2
   have e:textFrom L [] (pre++[z])=textFrom L [] pre++UInt8.ofNat kn :: (uA kn).flatMap (Fld.bytes ⟨kn,r,t',u,x,a,b⟩ (posOf pre a) (posOf pre b)):=by rw [tG,List.nil_append,hnt]
   have hlk0:SE.look (yQ 0 pre) z=none:=xZ.2 (by rw [jHW];exact hzn)
   obtain ⟨w20,hr20,hM20,X20⟩:=A2.nums.put (P:=prog) (T:=205) underlying205 underlying23 hlk0 ((pre.length:Nat):Int)
   have hz3:(Builtin.len_ #[205] 3 #[.map (some mb)]).run prog wl=.ok (.int .i64 ((pre.length:Nat):Int)) wl:=by
    have:=jPK A2.nums.map (P:=prog) (T:=205) (Q:=3) underlying205;rw [List.length_map,jKA] at this;exact this
   have hYb:¬ Y mb:=hv _ (.inr (.inr (.inr (.inr (.inr (.inl rfl))))))
   have kk:∀{H:NP},¬ H mb→Kept H wl w20:=fun h=>X20.kept (fun b hb e=>by subst e;exact h hb)
   have hmbA:mb<A.heap.size:=hA.nums.lt
   refine ⟨some mb,A2.b6.cell0,some mb,A2.b6.cell0,_,hz3,w20,hr20,kk (fun h=>by have:=hold _ h;omega),k2.trans (kk hYb),s2,?_,hs2,fun b hb hY=>?_,by have:=X20.size;have:=E2.size;omega,E2.trans' X20 (fun i hi e=>by omega)⟩
   ·rw [e,jHV,Nat.zero_add]
    obtain ⟨g1,g2,g3,g4,g5,g6⟩:=S.db
    exact ⟨A2.b2.ext X20 g1,A2.b3.ext X20 (fun e=>S.d3.2.2.2.1 e.symm),A2.b4.ext X20 g2,A2.b6.ext X20 g3,A2.rows.ext X20 (fun b hb e=>by have:=hs2 b hb;have:=S.lt;omega),hM20,A2.kinds.ext X20 (fun b hb e=>hb.elim (fun hb=>by subst e;exact g5 hb) (fun hb=>g4 (hb▸e))),A2.pool.ext X20 (fun b hb e=>by subst e;exact g6 hb)⟩
   ·rcases hb with hb | hb | hb | hb | hb | hb | hb | hb | hb
    ·exact hv b (.inl hb) hY
    ·exact hv b (.inr (.inl hb)) hY
    ·exact hv b (.inr (.inr (.inl hb))) hY
    ·exact hv b (.inr (.inr (.inr (.inl hb)))) hY
    ·exact hv b (.inr (.inr (.inr (.inr (.inl hb))))) hY
    ·exact hv b (.inr (.inr (.inr (.inr (.inr (.inl hb)))))) hY
    ·exact hv b (.inr (.inr (.inr (.inr (.inr (.inr (.inl hb))))))) hY
    ·exact hv b (.inr (.inr (.inr (.inr (.inr (.inr (.inr (.inl hb)))))))) hY
    ·exact hy2 b hb hY
 ·rintro H2 w21 hs21 _ _ ⟨s,hA,hs,hv,hz,hE⟩
  refine ⟨s,hA.b3.cell0,fun w22 hs22=>⟨hA.rows.ext hs22.ext (fun b hb=>hv b (.inr (.inr (.inr (.inr (.inr (.inr (.inr (.inr hb))))))))),fun b hb=>by have:=hs b hb;omega,hE.hst hs22⟩⟩
theorem jSE (p:Addr) (t:Int) (w0:World) {L:Sp.Pool} {FP:NP} (hW:Sp.Wf L) (hN:Sp.tO L) (hP:zS w0 p L FP) :
  Calls prog 49 #[.pointer (some p),.int .i64 t] w0 (fun e w'=>∃r:Sl,∃n:Int,e=.returned (.tuple #[r.v,.int .i64 n])∧(n=(jEO L t).2∧RetO w0 5 1 (byr (jEO L t).1) r w')):=by
 refine w_A4 _ _ w0 (fun r n w'=>n=(jEO L t).2∧RetO w0 5 1 (byr (jEO L t).1) r w') ?_
 unfold m_A4
 have hnil:∀b,¬ Sl.nil.blk b:=fun b hb=>by obtain ⟨a,h,_⟩:=hb;cases h
 refine (jFU p t w0 hP hW.ok).mono ?_
 rintro _ w1 ⟨k,r,t',u,x,a,b,r3,rfl,⟨hn,rfl⟩,E1⟩
 refine ⟨_,_,_,_,_,_,_,_,rfl,E1.keptP,fun hc H1 w3 hs3=>?_,fun hc H1 w3 hs3=>?_⟩
 ·have hin:Sp.inP L t=false:=by simpa using hc
  have e:jEO L t=([],51):=by unfold jEO;rw [hin];rfl
  rw [e]
  exact ⟨rfl,Rws.nil _ _ _,fun b hb=>(hnil b hb).elim,E1.hst hs3⟩
 ·have hin:Sp.inP L t=true:=by simpa using hc
  have E3:Pure w0 w3:=E1.hst hs3
  refine (c_lay p t w3 hW hN (hP.pure E3)).mono ?_
  rintro _ w4 ⟨r2,rfl,h⟩
  have hl:r2.len=(xL L t).length:=by rw [h.rows.len,vR]
  refine ⟨r2,rfl,h.kept,fun hc=>?_,fun hc=>?_⟩
  ·have hc:=of_decide_eq_true hc
   have e:jEO L t=([],1):=by unfold jEO;rw [hin,if_pos rfl,if_pos (by omega)]
   rw [e]
   exact ⟨rfl,Rws.nil _ _ _,fun b hb=>(hnil b hb).elim,E3.trans h.pure⟩
  ·have hc:=of_decide_eq_false hc
   have e:jEO L t=(xL L t,0):=by unfold jEO;rw [hin,if_pos rfl,if_neg (by omega)]
   rw [e]
   exact ⟨rfl,h.rows,fun b hb=>by have:=h.own b hb;have:=E3.size;omega,E3.trans h.pure⟩
end Go.Proofs
end
section
open Go Go.SE
namespace Go.Proofs
open Tryz
attribute [local irreducible] Calls
theorem jQK:SlType prog 264 4 1 1:=by
 refine ⟨underlying264,⟨t4,_,by kernel_rfl,(by kernel_rfl:t4.zero=some (.bool false)),by kernel_rfl,by kernel_rfl,rfl⟩,by omega⟩
theorem jNK:∀i z,prog.info? 4=some i→i.zero=some z→z.cells=#[Value.bool false]:=by
 intro i z hi hz;have h1:prog.info? 4=some t4:=by kernel_rfl
 rw [h1] at hi;cases hi;have h2:t4.zero=some (.bool false):=by kernel_rfl
 rw [h2] at hz;cases hz;rfl
def brw (n:Nat) (V:Int→Bool):List (List Value):=(List.range n).map fun i:Nat=>[Value.bool (V (i:Int))]
theorem jGT (n:Nat) (V:Int→Bool):(brw n V).length=n:=by simp [brw]
theorem jQA (n:Nat):List.replicate n [Value.bool false]=brw n (fun _=>false):=by
 unfold brw;rw [List.map_const',List.length_range]
theorem jUN (n:Nat) (V:Int→Bool) (t:Nat) (b:Bool):(brw n V).set t [.bool b]=brw n (Sp.upd V (t:Int) b):=by
 apply List.ext_getElem?;intro i;rw [List.getElem?_set];by_cases h:t=i
 ·subst h;rw [if_pos rfl];by_cases hl:t<n
  ·simp [brw,hl,Sp.upd]
  ·simp [brw,hl]
 ·rw [if_neg h];by_cases hl:i<n
  ·simp [brw,hl,Sp.upd,show ¬ (i:Int)=t by omega]
  ·simp [brw,hl]
section
variable {w w':World} {e:TypeId} {s:Sl} {n:Nat} {V:Int→Bool}
theorem jUP (h:Rws w e 1 s (brw n V)) {t:Int} (h0:0≤t) (ht:t<n):∃a,At s t 1 a∧s.blk a.block∧w.cell? a=some (.bool (V t)):=by
 obtain ⟨a,h1,h2,h3⟩:=h.at h0 (by rw [jGT];omega);refine ⟨a,h1,h3,?_⟩;have:(brw n V)[t.toNat]'(by rw [jGT];omega)=[Value.bool (V t)]:=by
  simp only [brw,List.getElem_map,List.getElem_range];rw [show ((t.toNat:Nat):Int)=t by omega]
 rw [this] at h2;exact jBI h2
theorem jUO (h:Rws w e 1 s (brw n V)) {t:Int} (h0:0≤t) (ht:t<n):∃a,At s t 1 a∧s.blk a.block∧zT w a∧∀b,Rws (w.setCell a (.bool b)) e 1 s (brw n (Sp.upd V t b))∧Ext s.blk w (w.setCell a (.bool b)):=by
 have hset:∀b:Bool,∃a,At s t 1 a∧(∀j,j<1→zT w (a.add j))∧∀w',w'=storeRow w a [Value.bool b]→Rws w' e 1 s ((brw n V).set t.toNat [.bool b])∧Ext s.blk w w':=fun b=>h.set (i:=t.toNat) (by rw [jGT];omega) rfl (by omega);obtain ⟨a,hat,hw,_⟩:=hset true;obtain ⟨a',h1,_,hblk⟩:=h.at h0 (by rw [jGT];omega);have same:∀{x:Addr},At s t 1 x→x=a:=fun hx=>by
  obtain ⟨_,_,b1,hb1,rfl⟩:=hx;obtain ⟨_,_,b2,hb2,rfl⟩:=hat;rw [hb1] at hb2;cases hb2;rfl
 have h00:a.add 0=a:=by simp [Addr.add]
 refine ⟨a,hat,?_,by have:=hw 0 (by omega);rwa [h00] at this,fun b=>?_⟩
 ·have:=same h1;subst this;exact hblk
 ·obtain ⟨x,hx,_,hx2⟩:=hset b;have:=same hx;subst this;have hst:storeRow w x [Value.bool b]=w.setCell x (.bool b):=by show w.setCell (x.add 0) (.bool b)=_;rw [h00]
  obtain ⟨r1,r2⟩:=hx2 _ rfl;rw [hst] at r1 r2;rw [jUN,show ((t.toNat:Nat):Int)=t by omega] at r1;exact ⟨r1,r2⟩
end
structure WalkAt (w:World) (x q:Addr) (L:Sp.Pool) (st:(Int→Bool)×List Int) (FR:NP) (sv so:Sl):Prop where
 box:Box w x [.pointer (some q),sv.v,so.v] 266
 seen:Rws w 4 1 sv (brw (L.length+1) st.1)
 out:Rws w 23 1 so (tmr st.2)
 pool:qK w q L FR
 n1:¬ sv.blk x.block
 n2:¬ so.blk x.block
 n3:∀b,sv.blk b→¬ so.blk b
 n4:∀b,FR b→b≠x.block∧¬ sv.blk b∧¬ so.blk b
def WF (x:Addr) (sv so:Sl) (b:Nat):Prop:=b=x.block∨sv.blk b∨so.blk b
theorem qK.at7 {w:World} {q:Addr} {L:Sp.Pool} {FR:NP} (h:qK w q L FR) {t:Int} (ht:Sp.inP L t=true) (hok:Sp.Ok L):∃v,w.cell? q=some (Sl.v v)∧∃a,At v (IntKind.i64.wrap (t - 1)) 7 a∧w.cell? (a.add 5)=some (.int .i64 (Sp.nodeOf L t).a)∧w.cell? (a.add 6)=some (.int .i64 (Sp.nodeOf L t).b):=by
 obtain ⟨s1,s2,s3,h,_⟩:=h;obtain ⟨i,hi,rfl⟩:=Sp.jBR ht;have:=hok.few;obtain ⟨a,h1,h2⟩:=h.r1.nth hi;rw [IntWalk.i64_in _ (by omega),show (i:Int)+1 - 1=i by omega];have hn:=Sp.qS hi;have e0:jQS L[i]=xD (Sp.nodeOf L ((i:Int)+1)):=by rw [hn];rfl
 rw [e0] at h2;exact ⟨s1,h.box.cell0,a,h1,h2 5 (by simp [xD]),h2 6 (by simp [xD])⟩
theorem jIT (x q:Addr) {L:Sp.Pool} (hW:Sp.Wf L):∀(n:Nat) (t:Int) (w0:World) (st:(Int→Bool)×List Int) (FR:NP) (sv so:Sl),t.toNat<n→WalkAt w0 x q L st FR sv so→Sp.OvOk L st→(∀y,st.1 y=true→y≤t→y∈st.2) →
  Calls prog 221 #[.pointer (some x),.int .i64 t] w0 (fun e w'=>e=.returned (.tuple #[])∧∃so',WalkAt w' x q L (Sp.yH L n t st) FR sv so'∧Ext (WF x sv so) w0 w'∧∀b,so'.blk b→so.blk b∨w0.heap.size≤b):=by
 intro n
 induction n with
 | zero=>intro t w0 st FR sv so h;omega
 | succ n ih =>
 intro t w0 st FR sv so hn h hst hm
 have hR:=Sp.xR hW (n+1) t st hn hst hm
 suffices key:∀K:WP,(∀so' w',WalkAt w' x q L (Sp.yH L (n+1) t st) FR sv so'→Ext (WF x sv so) w0 w'→(∀b,so'.blk b→so.blk b∨w0.heap.size≤b)→K w')→m_D1 (some x) t w0 K from
  w_D1 _ _ w0 _ (key _ (fun so' w' a b c=>⟨so',a,b,c⟩))
 intro K hK
 unfold m_D1
 refine ⟨x,rfl,_,h.box.cell0,?_⟩
 refine (uG q t w0 h.pool).mono ?_
 rintro _ w0 ⟨r1,rfl,rfl,rfl⟩
 refine ⟨_,rfl,fun hc=>?_,fun hc=>?_⟩
 ·have hin:Sp.inP L t=false:=by simpa using hc
  unfold m_D1_j1
  refine Br.t rfl ?_
  rw [Sp.yH,if_neg (by simp [hin])] at hK
  exact hK so w0 h (Ext.refl _) (fun b hb=>.inl hb)
 have hin:Sp.inP L t=true:=by simpa using hc
 obtain ⟨t1,tL⟩:=Sp.vB.1 hin
 obtain ⟨a13,at13,_,c13⟩:=jUP h.seen (t:=t) (by omega) (by omega)
 refine ⟨x,rfl,sv,h.box.cell rfl,a13,at13,_,c13,?_⟩
 unfold m_D1_j1
 refine ⟨fun hv=>?_,fun hv=>?_⟩
 ·rw [Sp.yH,if_neg (by simp [hv])] at hK
  exact hK so w0 h (Ext.refl _) (fun b hb=>.inl hb)
 rw [Sp.yH,if_pos ⟨hin,hv⟩] at hK hR
 obtain ⟨a2,at2,hb2,cw2,hput⟩:=jUO h.seen (t:=t) (by omega) (by omega)
 refine ⟨x,rfl,sv,h.box.cell rfl,a2,at2,cw2,?_⟩
 rintro _ rfl
 obtain ⟨R2,E2⟩:=hput true
 have A2:WalkAt (w0.setCell a2 (.bool true)) x q L (Sp.upd st.1 t true,st.2) FR sv so :=
  ⟨h.box.ext E2 h.n1,R2,h.out.ext E2 (fun b hb hb2=>h.n3 b hb2 hb),h.pool.ext E2 (fun b hb hb2=>(h.n4 b hb).2.1 hb2),h.n1,h.n2,h.n3,h.n4⟩
 generalize w0.setCell a2 (.bool true)=w2 at *
 obtain ⟨v3,c3,a5,at5,ca,cb⟩:=A2.pool.at7 hin hW.ok
 refine ⟨x,rfl,_,A2.box.cell0,q,rfl,v3,c3,a5,at5,_,ca,?_⟩
 have low:∀k,k=(Sp.nodeOf L t).a∨k=(Sp.nodeOf L t).b→k<t:=by
  intro k hk;have hkid:=(hW.node hin).2.2.2.2.1;cases hp:Sp.inP L k with
  | true=>exact (hkid k (Sp.jID hW hin hk hp)).2
  | false =>
   have h1:=(hW.node hin).2.1
   have h2:=(hW.node hin).2.2.1
   rcases Sp.qX (Sp.nodeOf L t).kind with e | e | e
   ·have:=h1 (by omega);have:=h2 (by omega);rcases hk with hk | hk <;> omega
   ·have b0:=h2 (by omega)
    rcases hk with hk | hk
    ·have:=(hkid k (by unfold Sp.zM;rw [e,hk];simp)).2;exact this
    ·omega
   ·exact (hkid k (by unfold Sp.zM;rw [e];rcases hk with hk | hk <;> simp [hk])).2
 have la:=low _ (.inl rfl)
 have lb:=low _ (.inr rfl)
 have o1:Sp.OvOk L (Sp.upd st.1 t true,st.2):=⟨fun y hy=>by simp only [Sp.upd];split <;> simp [hst.marked y hy],hst.closed,hst.nd,hst.inp⟩
 have m1:∀y,(Sp.upd st.1 t true,st.2).1 y=true→y≤(Sp.nodeOf L t).a→y∈(Sp.upd st.1 t true,st.2).2:=fun y hy hle=>by
  simp only [Sp.upd] at hy;rw [if_neg (by omega)] at hy;exact hm y hy (by omega)
 have r1:=Sp.xR hW n (Sp.nodeOf L t).a _ (by omega) o1 m1
 refine (ih (Sp.nodeOf L t).a w2 _ FR sv so (by omega) A2 o1 m1).mono ?_
 rintro _ w3 ⟨rfl,so3,A3,X3,f3⟩
 generalize hs1:Sp.yH L n (Sp.nodeOf L t).a (Sp.upd st.1 t true,st.2)=s1 at *
 obtain ⟨v6,c6,a8,at8,_,cb3⟩:=A3.pool.at7 hin hW.ok
 refine ⟨rfl,x,rfl,_,A3.box.cell0,q,rfl,v6,c6,a8,at8,_,cb3,?_⟩
 have m2:∀y,s1.1 y=true→y≤(Sp.nodeOf L t).b→y∈s1.2:=fun y hy hle=>by
  rcases r1.back y hy with h' | h'
  ·simp only [Sp.upd] at h';rw [if_neg (by omega)] at h';have:=hm y h' (by omega);obtain ⟨M,e,_⟩:=r1.app;simp only at e;rw [e];exact List.mem_append_left _ this
  ·exact h'
 have r2:=Sp.xR hW n (Sp.nodeOf L t).b s1 (by omega) r1.toOvOk m2
 refine (ih (Sp.nodeOf L t).b w3 s1 FR sv so3 (by omega) A3 r1.toOvOk m2).mono ?_
 rintro _ w4 ⟨rfl,so4,A4,X4,f4⟩
 generalize hs2:Sp.yH L n (Sp.nodeOf L t).b s1=s2 at *
 refine ⟨rfl,x,rfl,so4,A4.box.cell rfl,?_⟩
 intro p1 w5 h5
 have E5:Pure w4 w5:=Ext.new h5
 have hfew:s2.2.length≤65536:=by have:=Sp.jBK r2.nd r2.inp;have:=hW.ok.few;omega
 obtain ⟨s1',w6,hr6,R6,X6,f6⟩:=(A4.out.pure E5).append (P:=prog) (ty:=137) (c:=1) jSI (r:=[.int .i64 t]) (Box.of_new h5).row rfl rfl (by rw [yW];omega) (by rw [yW];simp [maxLen];omega)
 have b6:=(A4.box.pure E5).ext X6 A4.n2
 refine ⟨s1',w6,hr6,x,rfl,b6.canW (by simp),?_⟩
 rintro _ rfl
 have E7:=Ext.setCell (w:=w6) (x.add 2) s1'.v
 rw [zR] at E7
 have z2:w0.heap.size≤w2.heap.size:=E2.size
 have z3:=X3.size
 have z4:=X4.size
 have z5:=E5.size
 have f6':∀b,s1'.blk b→so4.blk b∨w4.heap.size≤b:=fun b hb=>(f6 b hb).imp_right (fun h=>by omega)
 have nx:¬ s1'.blk x.block:=fun hh=>(f6' _ hh).elim A4.n2 (fun hh=>by have:=A4.box.lt;omega)
 have nv:∀b,sv.blk b→¬ s1'.blk b:=fun b hb hh=>(f6' b hh).elim (A4.n3 b hb) (fun hh=>by have:=A4.seen.lt hb;omega)
 have hfin:=hK s1' (w6.setCell (x.add 2) s1'.v)
 refine hfin ⟨b6.set 2 s1'.v,((A4.seen.pure E5).ext X6 A4.n3).ext E7 (fun b hb e=>A4.n1 (e▸hb)),?_,((A4.pool.pure E5).ext X6 (fun b hb=>(A4.n4 b hb).2.2)).ext E7 (fun b hb e=>(A4.n4 b hb).1 e),A4.n1,nx,nv,fun b hb=>⟨(A4.n4 b hb).1,(A4.n4 b hb).2.1,fun hh=>(f6' b hh).elim (A4.n4 b hb).2.2 (fun hh=>by have:=A4.pool.lt hb;omega)⟩⟩ ?_ ?_
 ·show Rws _ _ _ _ (tmr (s2.2++[t]))
  rw [show tmr (s2.2++[t])=tmr s2.2++[[.int .i64 t]] by simp [tmr]]
  exact R6.ext E7 (fun b hb e=>nx (e▸hb))
 ·have f34 : ∀ b, so4.blk b → b < w0.heap.size → so.blk b := fun b hb hlt => by
   rcases f4 b hb with h1 | h1
   ·exact (f3 b h1).elim id (fun h2=>by omega)
   ·omega
  have f33:∀b,so3.blk b→b<w0.heap.size→so.blk b:=fun b hb hlt=>(f3 b hb).elim id (fun h2=>by omega)
  refine ((((E2.mono (fun b _ hb=>.inr (.inl hb))).trans X3).trans' X4 (fun i hi hb=>?_)).trans' (E5.pure (F:=WF x sv so4)) (fun i hi hb=>?_)).trans' ((X6.mono (fun b _ hb=>.inr (.inr hb))).trans (E7.mono (fun b _ e=>.inl e))) (fun i hi (hb:WF x sv so4 i)=>?_)
  ·rcases hb with hb | hb | hb
   ·exact .inl hb
   ·exact .inr (.inl hb)
   ·exact .inr (.inr (f33 i hb hi))
  ·rcases hb with hb | hb | hb
   ·exact .inl hb
   ·exact .inr (.inl hb)
   ·exact .inr (.inr (f34 i hb hi))
  ·rcases hb with hb | hb | hb
   ·exact .inl hb
   ·exact .inr (.inl hb)
   ·exact .inr (.inr (f34 i hb hi))
 ·intro b hb
  rcases f6' b hb with h1 | h1
  ·rcases f4 b h1 with h2 | h2
   ·exact (f3 b h2).imp_right (fun h=>by omega)
   ·right;omega
  ·right;omega
theorem jIW (q:Addr) (t:Int) (w0:World) {L:Sp.Pool} {FR:NP} (hW:Sp.Wf L) (hP:qK w0 q L FR) :
  Calls prog 170 #[.pointer (some q),.int .i64 t] w0 (fun e w'=>∃r:Sl,e=.returned r.v∧RetO w0 23 1 (tmr (Sp.subs L t)) r w'):=by
 refine w_Y3 _ _ w0 (fun r w'=>RetO w0 23 1 (tmr (Sp.subs L t)) r w') ?_
 unfold m_Y3
 obtain ⟨v1,hv1,hv1l⟩:∃v1:Sl,w0.cell? q=some v1.v∧v1.len=L.length:=by
  obtain ⟨s1,s2,s3,h,_⟩:=hP;exact ⟨s1,h.box.cell0,by rw [h.r1.len];simp⟩
 have hL:=hW.ok.few
 refine ⟨q,rfl,v1,hv1,?_⟩
 rw [hv1l,IntWalk.i64_in _ (by omega),show ((L.length:Int)+1)=((L.length+1:Nat):Int) by omega]
 obtain ⟨w1,hr1,R1,E1⟩:=Rws.make (P:=prog) jQK jNK (k:=.i64) (k':=.i64) (n:=L.length+1) (by omega) (by simp [maxLen];omega) w0
 rw [jQA] at R1
 refine ⟨_,w1,hr1,?_⟩
 intro p2 w2 h2
 have E2:Pure w1 w2:=Ext.new h2
 have hp2:=h2.at_size
 have hnil:∀b,¬ Sl.nil.blk b:=fun b hb=>by obtain ⟨a,h,_⟩:=hb;cases h
 have hsv:∀b,(Sl.mk (some ⟨w0.heap.size,0,none⟩) (L.length+1) (L.length+1)).blk b→b=w0.heap.size:=by rintro b ⟨a,ha,rfl⟩;cases ha;rfl
 have z1:=E1.size
 have l1:w0.heap.size<w1.heap.size:=R1.lt ⟨_,rfl,rfl⟩
 have A2:WalkAt w2 p2 q L (fun _=>false,[]) FR ⟨some ⟨w0.heap.size,0,none⟩,L.length+1,L.length+1⟩ Sl.nil:=by
  refine ⟨Box.of_new h2,R1.pure E2,Rws.nil _ _ _,(hP.pure E1).pure E2,fun hb=>by have:=hsv _ hb;omega,hnil _,fun b _=>hnil b,fun b hb=>⟨fun e=>?_,fun hh=>?_,hnil b⟩⟩
  ·have:=hP.lt hb;omega
  ·have:=hsv _ hh;have:=hP.lt hb;omega
 refine (jIT p2 q hW (t.toNat+1) t w2 _ FR _ Sl.nil (by omega) A2 ⟨by simp,by simp,by simp,by simp⟩ (by simp)).mono ?_
 rintro _ w3 ⟨rfl,so,A3,X3,f3⟩
 refine ⟨rfl,so,A3.box.cell rfl,A3.out,fun b hb=>?_,(E1.trans E2).trans' X3 (fun i hi hb=>?_)⟩
 ·rcases f3 b hb with h | h
  ·exact (hnil b h).elim
  ·have:=E2.size;omega
 ·rcases hb with hb | hb | hb
  ·omega
  ·have:=hsv _ hb;omega
  ·exact hnil _ hb
end Go.Proofs
end
section
open Go Go.SE
namespace Go.Proofs
open Tryz
attribute [local irreducible] Calls CallsD
theorem jQB {s:Sl} {i:Int} {sz:Nat} {a:Addr} (h:At s i sz a):s.blk a.block:=by
 obtain ⟨_,_,b,hb,rfl⟩:=h;exact ⟨b,hb,(zR _ _).symm⟩
theorem jTN {w:World} {e:TypeId} {s:Sl} {A:List Int} (h:Rws w e 1 s (tmr A)) {k:Int} {j:Nat} (hk:k=j) (hj:j<A.length) :
  ∃a,At s k 1 a∧s.blk a.block∧zT w a∧∀v,Rws (w.setCell a (.int .i64 v)) e 1 s (tmr (A.set j v))∧Ext s.blk w (w.setCell a (.int .i64 v)):=by
 have hset:∀v:Int,∃a,At s k 1 a∧(∀j,j<1→zT w (a.add j))∧∀w',w'=storeRow w a [Value.int .i64 v]→Rws w' e 1 s ((tmr A).set j [.int .i64 v])∧Ext s.blk w w':=fun v=>h.set (i:=j) (by rw [yW];omega) rfl hk
 obtain ⟨a,hat,hw,_⟩:=hset 0
 have same:∀{x:Addr},At s k 1 x→x=a:=fun hx=>by
  obtain ⟨_,_,b1,hb1,rfl⟩:=hx;obtain ⟨_,_,b2,hb2,rfl⟩:=hat;rw [hb1] at hb2;cases hb2;rfl
 have h00:a.add 0=a:=by simp [Addr.add]
 refine ⟨a,hat,jQB hat,by have:=hw 0 (by omega);rwa [h00] at this,fun v=>?_⟩
 obtain ⟨x,hx,_,hx2⟩:=hset v
 have:=same hx;subst this
 have hst:storeRow w x [Value.int .i64 v]=w.setCell x (.int .i64 v):=by show w.setCell (x.add 0) (.int .i64 v)=_;rw [h00]
 obtain ⟨r1,r2⟩:=hx2 _ rfl
 rw [hst] at r1 r2
 have e0:(tmr A).set j [.int .i64 v]=tmr (A.set j v):=by simp [tmr,List.map_set]
 rw [e0] at r1
 exact ⟨r1,r2⟩
def Sp.opt (c:Bool) (f:Fld) (n:Sp.Node) (na nb:Nat):List UInt8:=if c then f.bytes n na nb else []
theorem jRQ (n:Sp.Node) (na nb:Nat) (h1:1≤n.kind) (h9:n.kind≤9):(uA n.kind).flatMap (Fld.bytes n na nb) =
  Sp.opt (s_H1 n.kind) .from_ n na nb++Sp.opt ((n.kind == 8) || (n.kind == 9)) .to_ n na nb++Sp.opt (n.kind == 2) .num n na nb++Sp.opt (n.kind == 3) .text n na nb++Sp.opt (decide (s_A n.kind≥1)) .fst n na nb++Sp.opt (s_A n.kind == 2) .snd n na nb:=by
 rw [yT]
 have:n.kind=1∨n.kind=2∨n.kind=3∨n.kind=4∨n.kind=5∨n.kind=6∨n.kind=7∨n.kind=8∨n.kind=9:=by omega
 rcases this with e | e | e | e | e | e | e | e | e <;> simp [e,uA,Sp.opt,s_H1,Sp.shapeOf]
theorem jRL {n:Sp.Node} (h:s_A n.kind≥1):n.a∈Sp.zM n:=by
 rw [yT] at h;unfold Sp.zM;rcases Sp.qX n.kind with e | e | e <;> rw [e] at h ⊢ <;> simp at h ⊢
theorem jRK {n:Sp.Node} (h:s_A n.kind=2):n.b∈Sp.zM n:=by
 rw [yT] at h;unfold Sp.zM;rw [h];simp
structure TxSep (w0:World) (q:Addr) (FR:NP) (s1 r1:Sl) (B:Nat):Prop where
 lR:∀x,FR x→x<B
 lr:∀x,r1.blk x→x<B
 ls:∀x,s1.blk x→x<B∧w0.heap.size≤x∧¬ FR x∧¬ r1.blk x
 base:w0.heap.size≤B
structure TxAt (w0 w:World) (H:NP) (q:Addr) (L:Sp.Pool) (FR:NP) (s1 r1:Sl) (A xs:List Int) (B:Nat) (b:Sl) (bs:List UInt8):Prop where
 pool:qK w q L FR
 at_:Rws w 3 1 s1 (tmr A)
 subs:Rws w 23 1 r1 (tmr xs)
 rows:Rws w 5 1 b (byr bs)
 pure:Pure w0 w
 hB:∀x,H x→B≤x∧x<w.heap.size
 own:∀x,b.blk x→B≤x∧¬ H x
 lt:B≤w.heap.size
section
variable {w0 w w':World} {H H':NP} {q:Addr} {L:Sp.Pool} {FR:NP} {s1 r1:Sl} {A xs:List Int} {B:Nat} {b b':Sl} {bs bs':List UInt8}
theorem TxAt.hst (h:TxAt w0 w H q L FR s1 r1 A xs B b bs) (S:TxSep w0 q FR s1 r1 B) (hs:Hst w0 H w H' w'):TxAt w0 w' H' q L FR s1 r1 A xs B b bs:=by
 have hB':∀x,H' x→B≤x:=fun x hx=>(hs.new x hx).elim (fun h1=>(h.hB x h1).1) (fun h1=>by have:=h.lt;omega);have hv:∀x,b.blk x→¬ H' x:=hs.disj (fun x hx=>⟨h.rows.lt hx,(h.own x hx).2⟩);exact ⟨h.pool.ext hs.ext (fun x hx hh=>by have:=S.lR x hx;have:=hB' x hh;omega),h.at_.ext hs.ext (fun x hx hh=>by have:=S.ls x hx;have:=hB' x hh;omega),h.subs.ext hs.ext (fun x hx hh=>by have:=S.lr x hx;have:=hB' x hh;omega),h.rows.ext hs.ext hv,h.pure.hst hs,fun x hx=>⟨hB' x hx,hs.lt x hx⟩,fun x hx=>⟨(h.own x hx).1,hv x hx⟩,Nat.le_trans h.lt hs.ext.size⟩
theorem TxAt.call (h:TxAt w0 w H q L FR s1 r1 A xs B b bs) (hr:RetO w 5 1 (byr bs') b' w'):TxAt w0 w' H q L FR s1 r1 A xs B b' bs' :=
 ⟨h.pool.pure hr.pure,h.at_.pure hr.pure,h.subs.pure hr.pure,hr.rows,h.pure.trans hr.pure,fun x hx=>⟨(h.hB x hx).1,Nat.lt_of_lt_of_le (h.hB x hx).2 hr.pure.size⟩,fun x hx=>⟨Nat.le_trans h.lt (hr.own x hx),fun hh=>by have:=hr.own x hx;have:=(h.hB x hh).2;omega⟩,Nat.le_trans h.lt hr.pure.size⟩
end
section
variable (w0:World) (q:Addr) {L:Sp.Pool} (hW:Sp.Wf L) (hN:Sp.tO L) {FR:NP} {s1 r1:Sl} {A xs:List Int} {B:Nat} (S:TxSep w0 q FR s1 r1 B) (i1:Int) (n:Sp.Node) (na nb:Nat)
include S
theorem c_tx6 (hb:s_A n.kind=2→0≤n.b∧A[n.b.toNat]?=some (nb:Int)∧nb<65537) {H:NP} {w:World} {b:Sl} {bs:List UInt8} (h:TxAt w0 w H q L FR s1 r1 A xs B b bs) (hl:bs.length≤1000000000)
  (Kc:Sl→Int→NP→WP) (K:Sl→WP) (hK:∀b' H' w',TxAt w0 w' H' q L FR s1 r1 A xs B b' (bs++Sp.opt (s_A n.kind == 2) .snd n na nb)→Kc b' (IntKind.i64.wrap (i1+1)) H' w'):m_G_j6 s1 i1 n.kind n.b b w0 H w Kc K:=by
 unfold m_G_j6
 refine ⟨fun hc=>?_,fun hc=>?_⟩
 ·rw [hc] at hK
  obtain ⟨h0,hA,h2⟩:=hb (by simpa using hc)
  obtain ⟨hj,hA'⟩:=List.getElem?_eq_some_iff.1 hA
  obtain ⟨a,hat,_,hv⟩:=jAJ h.at_.lst hj
  rw [show ((n.b.toNat:Nat):Int)=n.b by omega] at hat
  refine ⟨a,hat,fun w15 hs=>?_⟩
  have h':=h.hst S hs
  obtain ⟨a',hat',_,hv'⟩:=jAJ h'.at_.lst hj
  rw [show ((n.b.toNat:Nat):Int)=n.b by omega] at hat'
  have:a'=a:=by
   obtain ⟨_,_,b1,hb1,rfl⟩:=hat;obtain ⟨_,_,b2,hb2,rfl⟩:=hat';rw [hb1] at hb2;cases hb2;rfl
  subst this
  refine ⟨_,hv',?_⟩
  rw [hA',vX (by omega)]
  refine (tA b bs nb w15 h'.rows.lst (by omega) (by omega)).mono ?_
  rintro _ w16 ⟨r,rfl,hr⟩
  exact ⟨r,rfl,hr.kept,hK _ _ _ (h'.call hr)⟩
 ·rw [hc] at hK
  simp only [Sp.opt,Bool.false_eq_true,if_false,List.append_nil] at hK
  exact fun w15 hs=>hK _ _ _ (h.hst S hs)
theorem c_tx5 (ha:s_A n.kind≥1→0≤n.a∧A[n.a.toNat]?=some (na:Int)∧na<65537) (hb:s_A n.kind=2→0≤n.b∧A[n.b.toNat]?=some (nb:Int)∧nb<65537) {H:NP} {w:World} {b:Sl} {bs:List UInt8} (h:TxAt w0 w H q L FR s1 r1 A xs B b bs) (hl:bs.length≤900000000)
  (Kc:Sl→Int→NP→WP) (K:Sl→WP) (hK:∀b' H' w',TxAt w0 w' H' q L FR s1 r1 A xs B b' (bs++Sp.opt (decide (s_A n.kind≥1)) .fst n na nb++Sp.opt (s_A n.kind == 2) .snd n na nb)→Kc b' (IntKind.i64.wrap (i1+1)) H' w'):m_G_j5 s1 i1 n.kind n.a n.b b w0 H w Kc K:=by
 unfold m_G_j5
 refine ⟨fun hc=>?_,fun hc=>?_⟩
 ·rw [hc] at hK
  obtain ⟨h0,hA,h2⟩:=ha (of_decide_eq_true hc)
  obtain ⟨hj,hA'⟩:=List.getElem?_eq_some_iff.1 hA
  obtain ⟨a,hat,_,hv⟩:=jAJ h.at_.lst hj
  rw [show ((n.a.toNat:Nat):Int)=n.a by omega] at hat
  refine ⟨a,hat,fun w15 hs=>?_⟩
  have h':=h.hst S hs
  obtain ⟨a',hat',_,hv'⟩:=jAJ h'.at_.lst hj
  rw [show ((n.a.toNat:Nat):Int)=n.a by omega] at hat'
  have:a'=a:=by
   obtain ⟨_,_,b1,hb1,rfl⟩:=hat;obtain ⟨_,_,b2,hb2,rfl⟩:=hat';rw [hb1] at hb2;cases hb2;rfl
  subst this
  refine ⟨_,hv',?_⟩
  rw [hA',vX (by omega)]
  refine (tA b bs na w15 h'.rows.lst (by omega) (by omega)).mono ?_
  rintro _ w16 ⟨r,rfl,hr⟩
  have:=vS (n:=na) (by omega)
  exact ⟨r,rfl,hr.kept,c_tx6 w0 q S i1 n na nb hb (h'.call hr) (by rw [List.length_append];omega) Kc K hK⟩
 ·rw [hc] at hK
  simp only [Sp.opt,Bool.false_eq_true,if_false,List.append_nil] at hK
  exact fun w15 hs=>c_tx6 w0 q S i1 n na nb hb (h.hst S hs) (by omega) Kc K hK
theorem c_tx4 (hx:n.text.size≤64) (ha:s_A n.kind≥1→0≤n.a∧A[n.a.toNat]?=some (na:Int)∧na<65537) (hb:s_A n.kind=2→0≤n.b∧A[n.b.toNat]?=some (nb:Int)∧nb<65537) {H:NP} {w:World} {b:Sl} {bs:List UInt8} (h:TxAt w0 w H q L FR s1 r1 A xs B b bs) (hl:bs.length≤800000000)
  (Kc:Sl→Int→NP→WP) (K:Sl→WP) (hK:∀b' H' w',TxAt w0 w' H' q L FR s1 r1 A xs B b' (bs++Sp.opt (n.kind == 3) .text n na nb++Sp.opt (decide (s_A n.kind≥1)) .fst n na nb++Sp.opt (s_A n.kind == 2) .snd n na nb)→Kc b' (IntKind.i64.wrap (i1+1)) H' w'):m_G_j4 s1 i1 n.kind n.text n.a n.b b w0 H w Kc K:=by
 unfold m_G_j4
 refine ⟨fun hc=>?_,fun hc=>?_⟩
 ·rw [hc] at hK
  refine (jNC b bs n.text w h.rows.lst (by omega) (by omega)).mono ?_
  rintro _ w16 ⟨r,rfl,hr⟩
  have:=vS (n:=n.text.size) (by omega)
  have e:n.text.data.toList.length=n.text.size:=Array.length_toList
  exact ⟨r,rfl,hr.kept,c_tx5 w0 q S i1 n na nb ha hb (h.call hr) (by rw [List.length_append,qH,List.length_append];omega) Kc K hK⟩
 ·rw [hc] at hK
  simp only [Sp.opt,Bool.false_eq_true,if_false,List.append_nil] at hK
  exact c_tx5 w0 q S i1 n na nb ha hb h (by omega) Kc K hK
theorem c_tx3 (hu:Sp.uJ n.num) (hx:n.text.size≤64) (ha:s_A n.kind≥1→0≤n.a∧A[n.a.toNat]?=some (na:Int)∧na<65537) (hb:s_A n.kind=2→0≤n.b∧A[n.b.toNat]?=some (nb:Int)∧nb<65537) {H:NP} {w:World} {b:Sl} {bs:List UInt8} (h:TxAt w0 w H q L FR s1 r1 A xs B b bs) (hl:bs.length≤700000000)
  (Kc:Sl→Int→NP→WP) (K:Sl→WP) (hK:∀b' H' w',TxAt w0 w' H' q L FR s1 r1 A xs B b' (bs++Sp.opt (n.kind == 2) .num n na nb++Sp.opt (n.kind == 3) .text n na nb++Sp.opt (decide (s_A n.kind≥1)) .fst n na nb++Sp.opt (s_A n.kind == 2) .snd n na nb)→Kc b' (IntKind.i64.wrap (i1+1)) H' w'):m_G_j3 s1 i1 n.kind n.num n.text n.a n.b b w0 H w Kc K:=by
 unfold m_G_j3
 refine ⟨fun hc=>?_,fun hc=>?_⟩
 ·rw [hc] at hK
  obtain ⟨u0,u1⟩:=hu
  have e:n.num=((n.num.toNat:Nat):Int):=by omega
  rw [e]
  refine (tA b bs n.num.toNat w h.rows.lst (by omega) (by omega)).mono ?_
  rintro _ w16 ⟨r,rfl,hr⟩
  have:=vS (n:=n.num.toNat) (by omega)
  exact ⟨r,rfl,hr.kept,c_tx4 w0 q S i1 n na nb hx ha hb (h.call hr) (by rw [List.length_append];omega) Kc K hK⟩
 ·rw [hc] at hK
  simp only [Sp.opt,Bool.false_eq_true,if_false,List.append_nil] at hK
  exact c_tx4 w0 q S i1 n na nb hx ha hb h (by omega) Kc K hK
theorem c_tx2 (ht:0≤n.to∧n.to<16) (hu:Sp.uJ n.num) (hx:n.text.size≤64) (ha:s_A n.kind≥1→0≤n.a∧A[n.a.toNat]?=some (na:Int)∧na<65537) (hb:s_A n.kind=2→0≤n.b∧A[n.b.toNat]?=some (nb:Int)∧nb<65537) {H:NP} {w:World} {b:Sl} {bs:List UInt8} (h:TxAt w0 w H q L FR s1 r1 A xs B b bs) (hl:bs.length≤600000000)
  (Kc:Sl→Int→NP→WP) (K:Sl→WP) (hK:∀b' H' w',TxAt w0 w' H' q L FR s1 r1 A xs B b' (bs++Sp.opt ((n.kind == 8) || (n.kind == 9)) .to_ n na nb++Sp.opt (n.kind == 2) .num n na nb++Sp.opt (n.kind == 3) .text n na nb++Sp.opt (decide (s_A n.kind≥1)) .fst n na nb++Sp.opt (s_A n.kind == 2) .snd n na nb)→Kc b' (IntKind.i64.wrap (i1+1)) H' w'):m_G_j2 s1 i1 n.kind n.to n.num n.text n.a n.b b w0 H w Kc K:=by
 unfold m_G_j2
 refine ⟨fun hc H4 w13 hs=>?_,fun hc H4 w13 hs=>?_⟩
 ·rw [hc] at hK
  have h':=h.hst S hs
  have e:n.to=((n.to.toNat:Nat):Int):=by omega
  rw [e,vX (by omega)]
  refine (tA b bs n.to.toNat w13 h'.rows.lst (by omega) (by omega)).mono ?_
  rintro _ w16 ⟨r,rfl,hr⟩
  have:=vS (n:=n.to.toNat) (by omega)
  exact ⟨r,rfl,hr.kept,c_tx3 w0 q S i1 n na nb hu hx ha hb (h'.call hr) (by rw [List.length_append];omega) Kc K hK⟩
 ·rw [hc] at hK
  simp only [Sp.opt,Bool.false_eq_true,if_false,List.append_nil] at hK
  exact c_tx3 w0 q S i1 n na nb hu hx ha hb (h.hst S hs) (by omega) Kc K hK
end
theorem jIS (q:Addr) (t:Int) (w0:World) {L:Sp.Pool} {FR:NP} (hW:Sp.Wf L) (hN:Sp.tO L) (hP:qK w0 q L FR) :
  Calls prog 132 #[.pointer (some q),.int .i64 t] w0 (fun e w'=>∃r:Sl,e=.returned r.v∧RetO w0 5 1 (byr (xL L t)) r w'):=by
 refine w_G _ _ w0 (fun r w'=>RetO w0 5 1 (byr (xL L t)) r w') ?_
 unfold m_G
 refine (jIW q t w0 hW hP).mono ?_
 rintro _ w1 ⟨r1,rfl,hr1⟩
 have P1:=hP.pure hr1.pure
 have hfew:=Sp.jAA hW t
 have hsub:∀u∈Sp.subs L t,Sp.inP L u=true:=fun u hu=>have h:=(Sp.jDD hW).1 hu;(Sp.Sub.le hW h.1 h.2).1
 have hord:=Sp.jGB hW t
 have hnd:=Sp.jCB hW t
 have htx:xL L t=textFrom L [] (Sp.subs L t):=rfl
 rw [htx]
 generalize hxs:Sp.subs L t=xs at *
 have hL:=hW.ok.few
 have hv1:∃v1:Sl,w1.cell? q=some v1.v∧v1.len=L.length:=by
  obtain ⟨sa,sb,sc,h,_⟩:=P1;exact ⟨sa,h.box.cell0,by rw [h.r1.len];simp⟩
 obtain ⟨v1,hv1,hv1l⟩:=hv1
 refine ⟨r1,rfl,hr1.kept,q,rfl,v1,hv1,?_⟩
 rw [hv1l,show IntKind.i64.wrap ((L.length:Int)+1)=((L.length+1:Nat):Int) by rw [i64 (by omega) (by omega)];omega]
 obtain ⟨w2, hmk, hR2, E2⟩ := Rws.make (P := prog) jCC (zr := [.int .i64 0]) (fun i z hi hz => by
   have h1:prog.info? 3=some t3:=by kernel_rfl
   rw [h1] at hi;cases hi;have h2:t3.zero=some (.int .i64 0):=by kernel_rfl
   rw [h2] at hz;cases hz;rfl) (k:=.i64) (k':=.i64) (n:=L.length+1) (by omega) (by simp only [maxLen];omega) w1
 refine ⟨_,w2,hmk,E2.keptP,?_⟩
 generalize hs1e:(Sl.mk (some ⟨w1.heap.size,0,none⟩) (L.length+1) (L.length+1))=s1 at *
 have hs1b:∀x,s1.blk x→x=w1.heap.size:=fun x hx=>by subst hs1e;obtain ⟨a,ha,rfl⟩:=hx;cases ha;rfl
 have hrep:List.replicate (L.length+1) [Value.int .i64 0]=tmr (List.replicate (L.length+1) 0):=by simp [tmr]
 rw [hrep] at hR2
 have z1:=hr1.pure.size
 have z2:=E2.size
 have hs1lt:∀x,s1.blk x→x<w2.heap.size:=fun x hx=>hR2.lt hx
 have hnil:∀b,¬ Sl.nil.blk b:=fun b hb=>by obtain ⟨a,h,_⟩:=hb;cases h
 have S:TxSep w0 q FR s1 r1 w2.heap.size:=⟨fun x hx=>by have:=hP.lt hx;omega,fun x hx=>by have:=hr1.rows.lt hx;omega,fun x hx=>⟨hs1lt x hx,by have:=hs1b x hx;omega,fun hh=>by have:=hP.lt hh;have:=hs1b x hx;omega,fun hh=>by have:=hr1.rows.lt hh;have:=hs1b x hx;omega⟩,by omega⟩
 have T2:TxAt w0 w2 None q L FR s1 r1 (List.replicate (L.length+1) 0) xs w2.heap.size Sl.nil []:=⟨P1.pure E2,hR2,hr1.rows.pure E2,Rws.nil _ _ _,hr1.pure.trans E2,fun x hx=>hx.elim,fun x hx=>(hnil x hx).elim,Nat.le_refl _⟩
 generalize w2.heap.size=B at *
 refine ⟨fun b i H w=>∃(j:Nat) (A:List Int),i=j∧j≤xs.length∧A.length=L.length+1∧(∀u∈xs.take j,A[u.toNat]?=some ((posOf (xs.take j) u:Nat):Int))∧TxAt w0 w H q L FR s1 r1 A xs B b (textFrom L [] (xs.take j)),fun _ i _=>((xs.length:Int) - i).toNat,⟨0,_,rfl,Nat.zero_le _,by simp,by simp,T2⟩,?_⟩
 rintro b _ Hl wl hst ⟨j,A,rfl,hj,hAl,hA,hT⟩
 unfold m_G_l1
 have hlen:r1.len=xs.length:=by rw [hT.subs.len,yW]
 refine ⟨fun hc=>?_,fun hc=>?_⟩
 ·have hc:=yZ hlen hc
  have hzin:=hsub xs[j] (List.getElem_mem _)
  have hz:=Sp.vB.1 hzin
  have hsplit:xs=xs.take j++xs[j] :: xs.drop (j+1):=by rw [← List.drop_eq_getElem_cons hc,List.take_append_drop]
  have hko:=hord _ _ _ hsplit
  have hzn:xs[j] ∉ xs.take j:=by
   rw [hsplit] at hnd;have:=(List.nodup_append.1 hnd).2.2;exact fun h=>this _ h _ (.head _) rfl
  have htk:xs.take (j+1)=xs.take j++[xs[j]]:=List.take_succ_eq_append_getElem hc
  have hbs:=jCM hW hN (xs.take j) [] (fun u hu=>hsub u (List.mem_of_mem_take hu)) (by simp only [List.length_nil,List.length_take];omega)
  have hjl:(xs.take j).length=j:=by rw [List.length_take];omega
  rw [hjl] at hbs
  obtain ⟨k1,k9,f0,f1,t0,t1,x1⟩:=Sp.jGI hW hzin
  have hnum:=hN.node xs[j]
  obtain ⟨a3,hat3,_,hv3⟩:=jAJ hT.subs.lst hc
  have hnode:∃(v2:Sl) (a4:Addr),wl.cell? q=some v2.v∧FR q.block∧At v2 (IntKind.i64.wrap (xs[j] - 1)) 7 a4∧Row wl a4 (xD (Sp.nodeOf L xs[j]))∧FR a4.block:=by
   obtain ⟨sa,sb,sc,h,hF⟩:=hT.pool;obtain ⟨e,he,⟨a,g1,g2⟩,_⟩:=h.at1 hzin hW.ok;refine ⟨sa,a,h.box.cell0,(hF _).2 (.inl rfl),g1,?_,(hF _).2 (.inr (.inl (jQB g1)))⟩;have:Sp.nodeOf L xs[j]=e.node:=by simp only [Sp.nodeOf,he,Option.map_some,Option.getD_some]
   rw [this];exact g2
  obtain ⟨v2,a4,hv2,hFq,hat4,hrow4,hF4⟩:=hnode
  have hHR:∀x,FR x→¬ Hl x:=fun x hx hh=>by have:=S.lR x hx;have:=(hT.hB x hh).1;omega
  refine ⟨q,rfl,v2,hv2,hHR _ hFq,a3,hat3,_,hv3,fun hh=>by have:=S.lr _ (jQB hat3);have:=(hT.hB _ hh).1;omega,a4,hat4,_,_,_,_,_,_,_,hrow4,hHR _ hF4,a3,hat3,fun H2 w6 hs6=>?_⟩
  have T6:=hT.hst S hs6
  obtain ⟨a3',hat3',_,hv3'⟩:=jAJ T6.subs.lst hc
  have:a3'=a3:=by
   obtain ⟨_,_,b1,hb1,rfl⟩:=hat3;obtain ⟨_,_,b2,hb2,rfl⟩:=hat3';rw [hb1] at hb2;cases hb2;rfl
  subst this
  obtain ⟨a6,hat6,hb6,hw6,hset⟩:=jTN T6.at_ (k:=xs[j]) (j:=xs[j].toNat) (by omega) (by omega)
  refine ⟨_,hv3',a6,hat6,hw6,fun hh=>by have:=S.ls _ hb6;have:=(T6.hB _ hh).1;omega,?_⟩
  rintro w9 h9
  obtain ⟨hA9,X9⟩:=hset (j:Int)
  rw [← h9] at hA9 X9
  have T9:TxAt w0 w9 H2 q L FR s1 r1 (A.set xs[j].toNat j) xs B b (textFrom L [] (xs.take j)) :=
   ⟨T6.pool.ext X9 (fun x hx hh=>(S.ls x hh).2.2.1 hx),hA9,T6.subs.ext X9 (fun x hx hh=>(S.ls x hh).2.2.2 hx),T6.rows.ext X9 (fun x hx hh=>by have:=(T6.own x hx).1;have:=(S.ls x hh).1;omega),T6.pure.trans' X9 (fun i hi hh=>by have:=(S.ls i hh).2.1;omega),fun x hx=>⟨(T6.hB x hx).1,by have:=(T6.hB x hx).2;have:=X9.size;omega⟩,T6.own,by have:=T6.lt;have:=X9.size;omega⟩
  generalize hz':xs[j]=z at *
  have hnt:yY L (xs.take j) z=UInt8.ofNat (Sp.nodeOf L z).kind.toNat :: (uA (Sp.nodeOf L z).kind).flatMap (Fld.bytes (Sp.nodeOf L z) (posOf (xs.take j) (Sp.nodeOf L z).a) (posOf (xs.take j) (Sp.nodeOf L z).b)):=rfl
  rw [jRQ _ _ _ k1 k9] at hnt
  have hkin:∀u∈Sp.zM (Sp.nodeOf L z),0≤u∧(A.set z.toNat (j:Int))[u.toNat]?=some ((posOf (xs.take j) u:Nat):Int)∧posOf (xs.take j) u<65537:=fun u hu=>by
   have hm:=hko u hu;have hin:=Sp.vB.1 (hsub u (List.mem_of_mem_take hm));refine ⟨by omega,?_,by have:=tJ (xs.take j) u;rw [hjl] at this;omega⟩;rw [List.getElem?_set_ne (fun e=>hzn (by rw [show z=u by omega];exact hm))];exact hA u hm
  have hA':∀u∈xs.take (j+1),(A.set z.toNat (j:Int))[u.toNat]?=some ((posOf (xs.take (j+1)) u:Nat):Int):=fun u hu=>by
   rw [htk] at hu ⊢;rcases List.mem_append.1 hu with hu | hu
   ·rw [jHU hu,List.getElem?_set_ne (fun e=>hzn (by have:=Sp.vB.1 (hsub u (List.mem_of_mem_take hu));rw [show z=u by omega];exact hu))];exact hA u hu
   ·rw [List.mem_singleton] at hu;subst hu;rw [jHT hzn,hjl,List.getElem?_set_self (by omega)]
  have hlA':(A.set z.toNat (j:Int)).length=L.length+1:=by rw [List.length_set];exact hAl
  have htxt:textFrom L [] (xs.take (j+1))=textFrom L [] (xs.take j)++yY L (xs.take j) z:=by rw [htk,tG,List.nil_append]
  rw [hnt] at htxt
  generalize hnz:Sp.nodeOf L z=n at *
  obtain ⟨kn,hkn⟩:∃kn:Nat,n.kind=kn:=⟨n.kind.toNat,by omega⟩
  intro p5 w10 h10
  have E10:Pure w9 w10:=Ext.new h10
  rw [hkn,tE] at h10
  obtain ⟨s2,w11,hr11,hR11,X11,hb11⟩:=(T9.rows.pure E10).append (P:=prog) (ty:=54) (c:=1) jBG (Box.of_newA h10).row rfl rfl (by rw [vR];omega) (by rw [vR];simp only [maxLen];omega)
  have z10:=E10.size
  have z11:=X11.size
  have nb:∀x,x<B→¬ b.blk x:=fun x hx hh=>by have:=(T9.own x hh).1;omega
  have T11:TxAt w0 w11 H2 q L FR s1 r1 (A.set z.toNat j) xs B s2 (textFrom L [] (xs.take j)++[UInt8.ofNat kn]) :=
   ⟨(T9.pool.pure E10).ext X11 (fun x hx hh=>nb x (S.lR x hx) hh),(T9.at_.pure E10).ext X11 (fun x hx hh=>nb x (S.ls x hx).1 hh),(T9.subs.pure E10).ext X11 (fun x hx hh=>nb x (S.lr x hx) hh),by rw [jGS];exact hR11,(T9.pure.trans E10).trans' X11 (fun i hi hh=>by have:=(T9.own i hh).1;have:=S.base;omega),fun x hx=>⟨(T9.hB x hx).1,by have:=(T9.hB x hx).2;omega⟩,fun x hx=>⟨(hb11 x hx).elim (fun h=>(T9.own x h).1) (fun h=>by have:=T9.lt;omega),(hb11 x hx).elim (fun h=>(T9.own x h).2) (fun h hh=>by have:=(T9.hB x hh).2;omega)⟩,by have:=T9.lt;omega⟩
  refine ⟨s2,w11,hr11,X11.kept (fun x hx hh=>(T9.own x hh).2 hx),?_⟩
  have hcn:n.kind.toNat=kn:=by omega
  rw [hcn] at htxt
  have hfin : ∀ (b' : Sl) (H' : NP) (w' : World), TxAt w0 w' H' q L FR s1 r1 (A.set z.toNat j) xs B b' (textFrom L [] (xs.take j) ++ [UInt8.ofNat kn] ++ Sp.opt (s_H1 n.kind) .from_ n (posOf (xs.take j) n.a) (posOf (xs.take j) n.b) ++ Sp.opt ((n.kind == 8) || (n.kind == 9)) .to_ n (posOf (xs.take j) n.a) (posOf (xs.take j) n.b) ++ Sp.opt (n.kind == 2) .num n (posOf (xs.take j) n.a) (posOf (xs.take j) n.b) ++ Sp.opt (n.kind == 3) .text n (posOf (xs.take j) n.a) (posOf (xs.take j) n.b) ++ Sp.opt (decide (s_A n.kind ≥ 1)) .fst n (posOf (xs.take j) n.a) (posOf (xs.take j) n.b) ++ Sp.opt (s_A n.kind == 2) .snd n (posOf (xs.take j) n.a) (posOf (xs.take j) n.b)) →
    (∃(j':Nat) (A':List Int),IntKind.i64.wrap ((j:Int)+1)=j'∧j'≤xs.length∧A'.length=L.length+1∧(∀u∈xs.take j',A'[u.toNat]?=some ((posOf (xs.take j') u:Nat):Int))∧TxAt w0 w' H' q L FR s1 r1 A' xs B b' (textFrom L [] (xs.take j')))∧((xs.length:Int) - IntKind.i64.wrap ((j:Int)+1)).toNat<((xs.length:Int) - (j:Int)).toNat:=fun b' H' w' h=>by
   refine ⟨⟨j+1,_,vK hc (by omega),hc,hlA',hA',?_⟩,by rw [vK hc (by omega)];exact jAK hc⟩
   rw [htxt]
   simpa using h
  have hfstk:s_A n.kind≥1→0≤n.a∧(A.set z.toNat (j:Int))[n.a.toNat]?=some ((posOf (xs.take j) n.a:Nat):Int)∧posOf (xs.take j) n.a<65537:=fun h=>hkin _ (jRL h)
  have hsndk:s_A n.kind=2→0≤n.b∧(A.set z.toNat (j:Int))[n.b.toNat]?=some ((posOf (xs.take j) n.b:Nat):Int)∧posOf (xs.take j) n.b<65537:=fun h=>hkin _ (jRK h)
  refine ⟨fun hcn w12 hs12=>?_,fun hcn w12 hs12=>?_⟩
  ·have T12:=T11.hst S hs12
   have e:n.frm=((n.frm.toNat:Nat):Int):=by omega
   rw [e,vX (by omega)]
   refine (tA s2 _ n.frm.toNat w12 T12.rows.lst (by rw [List.length_append,List.length_singleton];omega) (by omega)).mono ?_
   rintro _ w16 ⟨r,rfl,hr⟩
   have:=vS (n:=n.frm.toNat) (by omega)
   refine ⟨r,rfl,hr.kept,?_⟩
   refine c_tx2 w0 q S j n (posOf (xs.take j) n.a) (posOf (xs.take j) n.b) ⟨t0,t1⟩ hnum x1 hfstk hsndk (T12.call hr) (by rw [List.length_append,List.length_append,List.length_singleton];omega) _ _ (fun b' H' w' h=>hfin b' H' w' ?_)
   rw [hcn];exact h
  ·have T12:=T11.hst S hs12
   refine c_tx2 w0 q S j n (posOf (xs.take j) n.a) (posOf (xs.take j) n.b) ⟨t0,t1⟩ hnum x1 hfstk hsndk T12 (by rw [List.length_append,List.length_singleton];omega) _ _ (fun b' H' w' h=>hfin b' H' w' ?_)
   rw [hcn]
   simp only [Sp.opt,Bool.false_eq_true,if_false,List.append_nil] at h ⊢
   exact h
 ·have hc:=uL hlen hj hc
  subst hc
  rw [List.take_length] at hT
  exact ⟨hT.rows,fun x hx=>by have:=(hT.own x hx).1;have:=S.base;omega,hT.pure⟩
theorem jEZ (q:Addr) (t:Int) (w0:World) {L:Sp.Pool} {FR:NP} (hW:Sp.Wf L) (hN:Sp.tO L) (hP:qK w0 q L FR) :
  Calls prog 72 #[.pointer (some q),.int .i64 t] w0 (fun e w'=>∃r:Sl,∃n:Int,e=.returned (.tuple #[r.v,.int .i64 n])∧(n=(jEO L t).2∧RetO w0 5 1 (byr (jEO L t).1) r w')):=by
 refine w_J4 _ _ w0 (fun r n w'=>n=(jEO L t).2∧RetO w0 5 1 (byr (jEO L t).1) r w') ?_
 unfold m_J4
 have hnil:∀b,¬ Sl.nil.blk b:=fun b hb=>by obtain ⟨a,h,_⟩:=hb;cases h
 refine (uG q t w0 hP).mono ?_
 rintro _ _ ⟨_,rfl,rfl,rfl⟩
 refine ⟨_,rfl,fun hc=>?_,fun hc=>?_⟩
 ·have hin:Sp.inP L t=false:=by simpa using hc
  have e:jEO L t=([],51):=by unfold jEO;rw [hin];rfl
  rw [e]
  exact ⟨rfl,Rws.nil _ _ _,fun b hb=>(hnil b hb).elim,Ext.refl _⟩
 ·have hin:Sp.inP L t=true:=by simpa using hc
  refine (jIS q t _ hW hN hP).mono ?_
  rintro _ w4 ⟨r2,rfl,h⟩
  have hl:r2.len=(xL L t).length:=by rw [h.rows.len,vR]
  refine ⟨r2,rfl,fun hc=>?_,fun hc=>?_⟩
  ·have hc:=of_decide_eq_true hc
   have e:jEO L t=([],1):=by unfold jEO;rw [hin,if_pos rfl,if_pos (by omega)]
   rw [e]
   exact ⟨rfl,Rws.nil _ _ _,fun b hb=>(hnil b hb).elim,h.pure⟩
  ·have hc:=of_decide_eq_false hc
   have e:jEO L t=(xL L t,0):=by unfold jEO;rw [hin,if_pos rfl,if_neg (by omega)]
   rw [e]
   exact ⟨rfl,h⟩
end Go.Proofs
end
section
open Go Go.SE
namespace Go.Sp
theorem jBX {L:Pool} (h:Wf L) (l:Letter):Wf (Go.Proofs.vO L l).2.2:=by
 unfold Go.Proofs.vO;split
 ·exact h
 ·exact of_wf h _
end Go.Sp
end
section
open Go Go.SE
namespace Go.Sp
open Go.Proofs
def tS (l:Letter):List UInt8×Int:=if (vO [] l).2.1≠0 then ([],(vO [] l).2.1) else jEO (vO [] l).2.2 (vO [] l).1
theorem xN {k f t u:Int} {x:ByteArray} {a:Tree} (h:uJ u) (ha:NumT a):NumT (.mk k f t u x [a]):=.mk _ _ _ _ _ _ h (fun i hi=>by
 have:i=0:=by simpa using hi
 subst this;exact ha)
theorem xM {k f t u:Int} {x:ByteArray} {a b:Tree} (h:uJ u) (ha:NumT a) (hb:NumT b):NumT (.mk k f t u x [a,b]):=.mk _ _ _ _ _ _ h (fun i hi=>by
 have:i=0∨i=1:=by simp at hi;omega
 rcases this with rfl | rfl
 ·exact ha
 ·exact hb)
theorem qW {k f t u:Int} {x:ByteArray} (h:uJ u):NumT (.mk k f t u x []):=.mk _ _ _ _ _ _ h (fun i hi=>by simp at hi)
theorem jED:uJ 0:=⟨by decide,by decide⟩
theorem jOQ {c:Int} {x:ByteArray} (h:uJ c):NumT (yB c x):=xM jED (qW jED) (xM jED (qW h) (qW jED))
theorem jJZ {l:Letter} (h:uJ l.c) (a b:Bool):NumT (vW l a b):=by
 unfold vW;have hd:=jOQ (x:=l.text) h;split;· exact xN jED hd
 split;· exact xN jED hd
 split;· exact xN jED (xM jED (qW jED) (qW h))
 split;· exact xN jED (xM jED (qW jED) (xM jED (xN jED hd) (xN jED hd)))
 split;· exact xN jED (xM jED (qW jED) (qW h))
 split;· exact xN jED (xM jED (qW jED) hd)
 exact xM jED (qW jED) (qW h)
theorem tN {L:Pool} (hN:tO L) {l:Letter} (h:uJ l.c):tO (vO L l).2.2:=by
 unfold vO;split
 ·exact hN
 ·exact hN.of (jJZ h _ _)
end Go.Sp
end
section
open Go Go.SE
namespace Go.Sp
def vH (L:Pool) (t kind:Int):Node×Bool:=if inP L t=true∧(nodeOf L t).kind=kind then (nodeOf L t,false) else (jFL,true)
def vF (L:Pool) (t:Int):(ByteArray×Int)×Bool :=
 (((vH L (vH L t 4).1.a 3).1.text,(vH L t 4).1.b),(vH L t 4).2 || (vH L (vH L t 4).1.a 3).2)
def qA (L:Pool) (t:Int):(Int×ByteArray)×Bool :=
 let g:=vF L t
 let n:=vH L g.1.2 4
 (((vH L n.1.a 2).1.num,(vH L n.1.b 3).1.text),g.2 || n.2 || !decide (g.1.1=jBC) || (vH L n.1.a 2).2 || (vH L n.1.b 3).2)
end Go.Sp
namespace Go.Proofs
open Tryz
attribute [local irreducible] Calls
def jEW (w:World) (q:Option Addr) (L:Sp.Pool) (F:NP):Prop:=match q with
 | some p=>zS w p L F
 | none=>L=[]∧∀b,¬ F b
theorem jEW.ext {G:NP} {w w':World} {p:Option Addr} {L:Sp.Pool} {F:NP} (h:jEW w p L F) (hE:Ext G w w') (hd:∀b,F b→¬ G b):jEW w' p L F:=by
 cases p with
 | none=>exact h
 | some p=>exact zS.ext h hE hd
theorem jEW.pure {w w':World} {p:Option Addr} {L:Sp.Pool} {F:NP} (h:jEW w p L F) (hE:Pure w w'):jEW w' p L F:=h.ext hE (fun _ _ h=>h)
theorem jEW.lt {w:World} {p:Option Addr} {L:Sp.Pool} {F:NP} (h:jEW w p L F) {b:Nat} (hb:F b):b<w.heap.size:=by
 cases p with
 | none=>exact absurd hb (h.2 b)
 | some p=>exact zS.lt h hb
theorem jKR (p:Option Addr) (t:Int) (w:World) {L:Sp.Pool} {F:NP} (hP:jEW w p L F) (hok:Sp.Ok L):Calls prog 61 #[.pointer p,.int .i64 t] w
  (fun e w'=>∃k:Int,∃f:Int,∃t':Int,∃u:Int,∃x:ByteArray,∃a:Int,∃b:Int,∃r:Bool,e=.returned (.tuple #[.agg #[.int .i64 k,.int .i64 f,.int .i64 t',.int .u64 u,.string x,.int .i64 a,.int .i64 b],.bool r])∧(((⟨k,f,t',u,x,a,b⟩:Sp.Node)=Sp.nodeOf L t∧r=Sp.inP L t)∧Pure w w')):=by
 cases p with
 | some p=>exact jFU p t w hP hok
 | none =>
  obtain ⟨rfl,_⟩:=hP
  have hin0:Sp.inP [] t=false:=by cases h:Sp.inP [] t;rfl;have:=Sp.vB.1 h;simp at this;omega
  have hno:Sp.nodeOf [] t=⟨0,0,0,0,⟨#[]⟩,0,0⟩:=by unfold Sp.nodeOf Sp.get;split <;> simp [Sp.jFL]
  rw [hin0,hno]
  refine w_A2 none t w (fun k f t' u x a b r w'=>((⟨k,f,t',u,x,a,b⟩:Sp.Node)=⟨0,0,0,0,⟨#[]⟩,0,0⟩∧r=false)∧Pure w w') ?_
  unfold m_A2
  intro p1 w1 h1
  have E1:Pure w w1:=Ext.new h1
  have b1:=Box.of_new h1
  have hp:=New.own (Ext.refl w) h1
  have hin:Calls prog 115 #[.pointer none,.int .i64 t] w1 (fun e w'=>∃r,e=.returned (.bool r)∧(r=false∧w'=w1)):=by
   refine w_W _ _ w1 (fun r w'=>r=false∧w'=w1) ?_;unfold m_W;have j1:m_W_j1 none t false w1 (fun r w'=>r=false∧w'=w1):=by
    unfold m_W_j1
    first
     | exact Br.f rfl ⟨rfl,rfl⟩
     | exact ⟨rfl,rfl⟩
     | (unfold m_W_j2;exact Br.f rfl ⟨rfl,rfl⟩)
     | (refine Br.f rfl ?_;unfold m_W_j2;exact ⟨rfl,rfl⟩)
   first
    | exact Br.f rfl j1
    | exact Br.t rfl j1
  refine hin.mono ?_
  rintro _ _ ⟨_,rfl,rfl,rfl⟩
  exact ⟨_,rfl,fun h1=>bx 7 b1 rfl rfl (fun w' b E=>⟨_,_,_,_,_,_,_,b.row,⟨rfl,rfl⟩,E1.own hp E⟩),fun h1=>by cases h1⟩
structure ReaderAt (w:World) (r:Addr) (p:Option Addr) (bad:Bool) (L:Sp.Pool) (F:NP):Prop where
 box:Box w r [.pointer p,.bool bad] 141
 pool:jEW w p L F
 ok:Sp.Ok L
 out:¬ F r.block
theorem ReaderAt.pure {w w':World} {r:Addr} {p:Option Addr} {bad:Bool} {L:Sp.Pool} {F:NP} (h:ReaderAt w r p bad L F) (E:Pure w w'):ReaderAt w' r p bad L F:=⟨h.box.pure E,h.pool.pure E,h.ok,h.out⟩
theorem uN (r:Addr) (p:Option Addr) (t kind:Int) (bad:Bool) (w:World) {L:Sp.Pool} {F:NP} (hR:ReaderAt w r p bad L F) :
  Calls prog 88 #[.pointer (some r),.int .i64 t,.int .i64 kind] w
   (fun e w'=>∃k':Int,∃f':Int,∃t':Int,∃u':Int,∃x':ByteArray,∃a':Int,∃b':Int,e=.returned (.agg #[.int .i64 k',.int .i64 f',.int .i64 t',.int .u64 u',.string x',.int .i64 a',.int .i64 b'])∧((⟨k',f',t',u',x',a',b'⟩:Sp.Node)=(Sp.vH L t kind).1∧ReaderAt w' r p (bad || (Sp.vH L t kind).2) L F∧Ext (·=r.block) w w')):=by
 suffices key:∀K:Int→Int→Int→Int→ByteArray→Int→Int→WP,(∀k' f' t' u' x' a' b' w',((⟨k',f',t',u',x',a',b'⟩:Sp.Node)=(Sp.vH L t kind).1∧ReaderAt w' r p (bad || (Sp.vH L t kind).2) L F∧Ext (·=r.block) w w')→K k' f' t' u' x' a' b' w')→m_I2 (some r) t kind w K from
  w_I2 _ _ _ w _ (key _ (fun _ _ _ _ _ _ _ _ h=>h))
 intro K hK
 unfold m_I2
 intro p1 w1 h1
 have E1:Pure w w1:=Ext.new h1
 have o1:=New.own (Ext.refl w) h1
 have lr:=hR.box.lt
 have b1:=Box.of_new h1
 refine ⟨r,rfl,p,(hR.box.pure E1).cell0,?_⟩
 refine (jKR p t w1 (hR.pool.pure E1) hR.ok).mono ?_
 rintro _ w2 ⟨k',f',t',u',x',a',b',ok,rfl,⟨hn,hok⟩,E12⟩
 refine ⟨_,_,_,_,_,_,_,_,rfl,?_⟩
 intro p2 w3 h3
 have E2:Pure w w2:=E1.trans E12
 have o3:=New.own E2 h3
 have n12:p1.block≠p2.block:=New.ne h3 (b1.pure E12).blk
 refine bx 7 (Box.of_new h3) rfl rfl (fun w4 b2 E'=>?_)
 have E4:Pure w w4:=(E2.trans (Ext.new h3)).own o3 E'
 have c1:=((b1.pure E12).pure (Ext.new h3)).ext E' n12
 have hR4:=hR.pure E4
 clear E' E2 E12 b1 h1 h3
 have bad1 : Sp.vH L t kind = (Sp.jFL, true) → zT w4 (r.add 1) ∧ ∀ w5 : World, w5 = w4.setCell (r.add 1) (.bool true) →
   (∀j,j<7→zT w5 (p1.add j))∧∀w6:World,w6=storeRow w5 p1 [(.int .i64 0),(.int .i64 0),(.int .i64 0),(.int .u64 0),(.string (⟨#[]⟩:ByteArray)),(.int .i64 0),(.int .i64 0)] →
   ∃qKind1:Int,∃qFrom1:Int,∃qTo1:Int,∃qNum1:Int,∃qText1:ByteArray,∃qA1:Int,∃qB1:Int,Row w6 p1 [(.int .i64 qKind1),(.int .i64 qFrom1),(.int .i64 qTo1),(.int .u64 qNum1),(.string qText1),(.int .i64 qA1),(.int .i64 qB1)] ∧
   K qKind1 qFrom1 qTo1 qNum1 qText1 qA1 qB1 w6:=by
  intro hrd
  refine ⟨hR4.box.canW (by simp),?_⟩
  intro w5 hw5
  have d5:Box w5 r [.pointer p,.bool true] 141:=by rw [hw5];exact hR4.box.set 1 _
  have E5:Ext (·=r.block) w4 w5:=by rw [hw5];have:=Ext.setCell (w:=w4) (r.add 1) (.bool true);rw [zR] at this;exact this
  clear hw5
  have n1r:p1.block≠r.block:=by omega
  refine bx 7 (c1.ext E5 n1r) rfl rfl (fun w6 b6 E6=>⟨_,_,_,_,_,_,_,b6.row,hK _ _ _ _ _ _ _ _ ⟨by rw [hrd];rfl,⟨?_,?_,hR.ok,hR.out⟩,?_⟩⟩)
  ·rw [hrd];simp only [Bool.or_true];exact d5.ext E6 n1r.symm
  ·exact (hR4.pool.ext E5 (fun b hb e=>hR.out (e▸hb))).ext E6 (fun b hb e=>by have:=hR.pool.lt hb;omega)
  ·exact (E4.pure.trans E5).trans' E6 (fun i hi h=>by omega)
 refine ⟨fun h=>⟨r,rfl,?_⟩,fun h=>⟨k',b2.cell0,fun h2=>⟨r,rfl,?_⟩,fun h2=>?_⟩⟩
 ·refine bad1 ?_
  have:¬ Sp.inP L t=true:=by rw [← hok];simpa using h
  unfold Sp.vH;rw [if_neg (fun h=>this h.1)]
 ·refine bad1 ?_
  have:(Sp.nodeOf L t).kind≠kind:=by rw [← hn];simpa using h2
  unfold Sp.vH;rw [if_neg (fun h=>this h.2)]
 ·have hi:Sp.inP L t=true:=by rw [← hok];simpa using h
  have hk:(Sp.nodeOf L t).kind=kind:=by rw [← hn];simpa using h2
  have hrd:Sp.vH L t kind=(Sp.nodeOf L t,false):=by unfold Sp.vH;rw [if_pos ⟨hi,hk⟩]
  refine ⟨_,_,_,_,_,_,_,b2.row,bx 7 c1 rfl rfl (fun w6 b6 E6=>⟨_,_,_,_,_,_,_,b6.row,hK _ _ _ _ _ _ _ _ ⟨by rw [hrd];exact hn,?_,?_⟩⟩)⟩
  ·rw [hrd];simp only [Bool.or_false]
   exact hR.pure (E4.own o1 E6)
  ·exact (E4.own o1 E6).pure
theorem jAW (r:Addr) (p:Option Addr) (t:Int) (bad:Bool) (w:World) {L:Sp.Pool} {F:NP} (hR:ReaderAt w r p bad L F) :
  Calls prog 87 #[.pointer (some r),.int .i64 t] w
   (fun e w'=>∃x:ByteArray,∃b:Int,e=.returned (.tuple #[.string x,.int .i64 b])∧((x,b)=(Sp.vF L t).1∧ReaderAt w' r p (bad || (Sp.vF L t).2) L F∧Ext (·=r.block) w w')):=by
 suffices key:∀K:ByteArray→Int→WP,(∀x b w',((x,b)=(Sp.vF L t).1∧ReaderAt w' r p (bad || (Sp.vF L t).2) L F∧Ext (·=r.block) w w')→K x b w')→m_H2 (some r) t w K from
  w_H2 _ _ w _ (key _ (fun _ _ _ h=>h))
 intro K hK
 unfold m_H2
 refine (uN r p t 4 bad w hR).mono ?_
 rintro _ w1 ⟨k1,f1,t1,u1,x1,a1,b1,rfl,hn,hR1,E1⟩
 refine ⟨_,_,_,_,_,_,_,rfl,?_⟩
 intro p1 w2 h2
 have o2:=New.own (Ext.refl w1) h2
 refine bx 7 (Box.of_new h2) rfl rfl (fun w3 b3 E'=>?_)
 have E3:Pure w1 w3:=Ext.own (Ext.new h2) o2 E'
 have l1:=hR1.box.lt
 refine ⟨fun w'=>Box w' p1 [.int .i64 k1,.int .i64 f1,.int .i64 t1,.int .u64 u1,.string x1,.int .i64 a1,.int .i64 b1] 103,b3.pure (Ext.drew w3),?_⟩
 intro w4 hw4
 have E4:Pure w1 w4:=by rw [hw4];exact E3.thenPure (Ext.drew w3)
 have c4:Box w4 p1 [.int .i64 k1,.int .i64 f1,.int .i64 t1,.int .u64 u1,.string x1,.int .i64 a1,.int .i64 b1] 103:=by rw [hw4];exact b3.pure (Ext.drew w3)
 clear hw4
 refine ⟨a1,fun w' h=>h.cell rfl,b1,fun w' h=>h.cell rfl,?_⟩
 refine (uN r p a1 3 _ w4 (hR1.pure E4)).mono ?_
 rintro _ w5 ⟨k2,f2,t2,u2,x2,a2,b2,rfl,hn2,hR2,E5⟩
 refine ⟨_,_,_,_,_,_,_,rfl,c4.ext E5 (by omega),hK _ _ _ ⟨?_,?_,?_⟩⟩
 ·have ea:a1=(Sp.vH L t 4).1.a:=by rw [← hn]
  have eb:b1=(Sp.vH L t 4).1.b:=by rw [← hn]
  simp only [Sp.vF,← ea,← eb,← hn2]
 ·have ea:a1=(Sp.vH L t 4).1.a:=by rw [← hn]
  rw [ea] at hR2
  simp only [Sp.vF,← Bool.or_assoc]
  exact hR2
 ·exact (E1.thenPure E4).trans E5
end Go.Proofs
end
section
open Go Go.SE
namespace Go.Sp
def zX (L:Pool) (t:Int):Letter×Bool :=
 let n:=nodeOf L t
 if (n.kind≠8∧n.kind≠9)∨1<n.frm∨n.to≠IntKind.i64.wrap (1 - n.frm) then (xO,true)
 else (⟨1,n.frm,(qA L n.a).1.1,(qA L n.a).1.2,n.kind == 9⟩,(qA L n.a).2)
end Go.Sp
namespace Go.Proofs
open Tryz
attribute [local irreducible] Calls
theorem jJB (r:Addr) (p:Option Addr) (t:Int) (bad:Bool) (w:World) {L:Sp.Pool} {F:NP} (hR:ReaderAt w r p bad L F) :
  Calls prog 91 #[.pointer (some r),.int .i64 t] w
   (fun e w'=>∃c:Int,∃x:ByteArray,e=.returned (.tuple #[.int .u64 c,.string x])∧((c,x)=(Sp.qA L t).1∧ReaderAt w' r p (bad || (Sp.qA L t).2) L F∧Ext (·=r.block) w w')):=by
 suffices key:∀K:Int→ByteArray→WP,(∀c x w',((c,x)=(Sp.qA L t).1∧ReaderAt w' r p (bad || (Sp.qA L t).2) L F∧Ext (·=r.block) w w')→K c x w')→m_A1 (some r) t w K from
  w_A1 _ _ w _ (key _ (fun _ _ _ h=>h))
 intro K hK
 unfold m_A1
 refine (jAW r p t bad w hR).mono ?_
 rintro _ w1 ⟨x1,y1,rfl,hg,hR1,E1⟩
 refine ⟨_,_,rfl,?_⟩
 refine (uN r p y1 4 _ w1 hR1).mono ?_
 rintro _ w2 ⟨k2,f2,t2,u2,x2,a2,b2,rfl,hn,hR2,E2⟩
 refine ⟨_,_,_,_,_,_,_,rfl,?_⟩
 intro p1 w3 h3
 have o3:=New.own (Ext.refl w2) h3
 have l2:=hR2.box.lt
 refine bx 7 (Box.of_new h3) rfl rfl (fun w4 b4 E'=>?_)
 have E4:Pure w2 w4:=Ext.own (Ext.new h3) o3 E'
 have hR4:=hR2.pure E4
 clear E' h3
 have ey:y1=(Sp.vF L t).1.2:=congrArg Prod.snd hg
 have ex:x1=(Sp.vF L t).1.1:=congrArg Prod.fst hg
 have ea:a2=(Sp.vH L y1 4).1.a:=by rw [← hn]
 have eb:b2=(Sp.vH L y1 4).1.b:=by rw [← hn]
 generalize hb4:(bad || (Sp.vF L t).2 || (Sp.vH L y1 4).2)=bad4 at *
 have fin:∀(v:Bool) (w5:World),(v=(bad4 || !decide (x1=Sp.jBC)))→Box w5 r [.pointer p,.bool v] 141→Ext (·=r.block) w4 w5→m_A1_j1 (some r) p1 w5 K:=by
  intro v w5 hv B5 E5;have hR5:ReaderAt w5 r p v L F:=⟨B5,hR4.pool.ext E5 (fun b hb e=>hR.out (e▸hb)),hR.ok,hR.out⟩;have c5:=b4.ext E5 (by omega);unfold m_A1_j1;refine ⟨fun w'=>Box w' p1 [.int .i64 k2,.int .i64 f2,.int .i64 t2,.int .u64 u2,.string x2,.int .i64 a2,.int .i64 b2] 103,c5.pure (Ext.drew w5),?_⟩;intro w6 hw6;have E6:Pure w5 w6:=by rw [hw6];exact Ext.drew w5
  clear hw6;have c6:=c5.pure E6;refine ⟨a2,fun w' h=>h.cell rfl,b2,fun w' h=>h.cell rfl,?_⟩;refine (uN r p a2 2 _ w6 (hR5.pure E6)).mono ?_;rintro _ w7 ⟨k3,f3,t3,u3,x3,a3,b3,rfl,hn3,hR7,E7⟩;have c7:=c6.ext E7 (by omega);refine ⟨_,_,_,_,_,_,_,rfl,c7,?_⟩;refine (uN r p b2 3 _ w7 hR7).mono ?_;rintro _ w8 ⟨k4,f4,t4,u4,x4,a4,b4',rfl,hn4,hR8,E8⟩;have e3:u3=(Sp.vH L a2 2).1.num:=by rw [← hn3]
  have e4:x4=(Sp.vH L b2 3).1.text:=by rw [← hn4]
  refine ⟨_,_,_,_,_,_,_,rfl,c7.ext E8 (by omega),hK _ _ _ ⟨?_,?_,?_⟩⟩
  ·simp only [Sp.qA,← ey,← ea,← eb,← e3,← e4]
  ·have : (bad || (Sp.qA L t).2) = (v || (Sp.vH L a2 2).2 || (Sp.vH L b2 3).2) := by
    simp only [Sp.qA,← ey,← ea,← eb,← ex,hv,← hb4,Bool.or_assoc]
   rw [this];exact hR8
  ·exact ((((E1.trans E2).thenPure E4).trans E5).thenPure E6 |>.trans E7).trans E8
 have setr:∀v:Bool,Box (w4.setCell (r.add 1) (.bool v)) r [.pointer p,.bool v] 141∧Ext (·=r.block) w4 (w4.setCell (r.add 1) (.bool v)):=fun v =>
  ⟨hR4.box.set 1 _,by have:=Ext.setCell (w:=w4) (r.add 1) (.bool v);rw [zR] at this;exact this⟩
 refine ⟨r,rfl,bad4,hR4.box.cell rfl,fun h=>⟨r,rfl,hR4.box.canW (by simp),?_⟩,fun h=>⟨r,rfl,hR4.box.canW (by simp),?_⟩⟩
 ·intro w8 hw8
  have:=setr true
  exact fin true w8 (by rw [h];rfl) (by rw [hw8];exact this.1) (by rw [hw8];exact this.2)
 ·intro w8 hw8
  have:=setr (!decide (x1=Sp.jBC))
  exact fin (!decide (x1=Sp.jBC)) w8 (by rw [h];rfl) (by rw [hw8];exact this.1) (by rw [hw8];exact this.2)
theorem vE (r:Addr) (p:Option Addr) (t:Int) (bad:Bool) (w:World) {L:Sp.Pool} {F:NP} (hR:ReaderAt w r p bad L F) :
  Calls prog 86 #[.pointer (some r),.int .i64 t] w
   (fun e w'=>∃k:Int,∃f:Int,∃c:Int,∃x:ByteArray,∃fk:Bool,e=.returned (.agg #[.int .i64 k,.int .i64 f,.int .u64 c,.string x,.bool fk])∧((⟨k,f,c,x,fk⟩:Sp.Letter)=(Sp.zX L t).1∧ReaderAt w' r p (bad || (Sp.zX L t).2) L F∧Ext (·=r.block) w w')):=by
 suffices key:∀K:Int→Int→Int→ByteArray→Bool→WP,(∀k f c x fk w',((⟨k,f,c,x,fk⟩:Sp.Letter)=(Sp.zX L t).1∧ReaderAt w' r p (bad || (Sp.zX L t).2) L F∧Ext (·=r.block) w w')→K k f c x fk w')→m_N (some r) t w K from
  w_N _ _ w _ (key _ (fun _ _ _ _ _ _ h=>h))
 intro K hK
 unfold m_N
 intro p1 w1 h1
 have E1:Pure w w1:=Ext.new h1
 have o1:=New.own (Ext.refl w) h1
 have lr:=hR.box.lt
 have b1:=Box.of_new h1
 refine ⟨r,rfl,p,(hR.box.pure E1).cell0,?_⟩
 refine (jKR p t w1 (hR.pool.pure E1) hR.ok).mono ?_
 rintro _ w2 ⟨k,f,t',u,x,a,b,ok,rfl,⟨hn,hok⟩,E12⟩
 refine ⟨_,_,_,_,_,_,_,_,rfl,?_⟩
 intro p2 w3 h3
 have E2:Pure w w2:=E1.trans E12
 have o3:=New.own E2 h3
 have n12:p1.block≠p2.block:=New.ne h3 (b1.pure E12).blk
 refine bx 7 (Box.of_new h3) rfl rfl (fun w4 b2 E'=>?_)
 have E4:Pure w w4:=(E2.trans (Ext.new h3)).own o3 E'
 have c1:=((b1.pure E12).pure (Ext.new h3)).ext E' n12
 have hR4:=hR.pure E4
 clear E' E2 E12 b1 h1 h3
 have n1r:p1.block≠r.block:=by omega
 have hsp:Sp.zX L t=if (k≠8∧k≠9)∨1<f∨t'≠IntKind.i64.wrap (1 - f) then (Sp.xO,true) else (⟨1,f,(Sp.qA L a).1.1,(Sp.qA L a).1.2,k == 9⟩,(Sp.qA L a).2):=by
  simp only [Sp.zX,← hn]
 have bad1 : ((k ≠ 8 ∧ k ≠ 9) ∨ 1 < f ∨ t' ≠ IntKind.i64.wrap (1 - f)) → zT w4 (r.add 1) ∧ ∀ w5 : World, w5 = w4.setCell (r.add 1) (.bool true) →
   (∀j,j<5→zT w5 (p1.add j))∧∀w6:World,w6=storeRow w5 p1 [(.int .i64 0),(.int .i64 0),(.int .u64 0),(.string (⟨#[]⟩:ByteArray)),(.bool false)] →
   ∃qKind1:Int,∃qFrom1:Int,∃qC1:Int,∃qText1:ByteArray,∃qFake1:Bool,Row w6 p1 [(.int .i64 qKind1),(.int .i64 qFrom1),(.int .u64 qC1),(.string qText1),(.bool qFake1)] ∧
   K qKind1 qFrom1 qC1 qText1 qFake1 w6:=by
  intro hc
  rw [if_pos hc] at hsp
  refine ⟨hR4.box.canW (by simp),?_⟩
  intro w5 hw5
  have d5:Box w5 r [.pointer p,.bool true] 141:=by rw [hw5];exact hR4.box.set 1 _
  have E5:Ext (·=r.block) w4 w5:=by rw [hw5];have:=Ext.setCell (w:=w4) (r.add 1) (.bool true);rw [zR] at this;exact this
  clear hw5
  refine bx 5 (c1.ext E5 n1r) rfl rfl (fun w6 b6 E6=>⟨0,0,0,⟨#[]⟩,false,b6.row,hK _ _ _ _ _ _ ⟨by rw [hsp];rfl,⟨?_,?_,hR.ok,hR.out⟩,?_⟩⟩)
  ·rw [hsp];simp only [Bool.or_true];exact d5.ext E6 n1r.symm
  ·exact (hR4.pool.ext E5 (fun b hb e=>hR.out (e▸hb))).ext E6 (fun b hb e=>by have:=hR.pool.lt hb;omega)
  ·exact (E4.pure.trans E5).trans' E6 (fun i hi h=>by omega)
 have J1:¬ ((k≠8∧k≠9)∨1<f∨t'≠IntKind.i64.wrap (1 - f))→m_N_j1 (some r) p1 p2 w4 K:=by
  intro hc;rw [if_neg hc] at hsp;unfold m_N_j1;refine ⟨a,b2.cell rfl,?_⟩;refine (jJB r p a bad w4 hR4).mono ?_;rintro _ w5 ⟨c,y,rfl,hd,hR5,E5⟩;have d2:=b2.ext E5 (by omega);have d1:=c1.ext E5 n1r;have ec:c=(Sp.qA L a).1.1:=congrArg Prod.fst hd;have ey:y=(Sp.qA L a).1.2:=congrArg Prod.snd hd;refine ⟨_,_,rfl,f,d2.cell rfl,k,d2.cell0,bx 5 d1 rfl rfl (fun w6 b6 E6=>⟨1,f,c,y,k == 9,b6.row,hK _ _ _ _ _ _ ⟨?_,?_,?_⟩⟩)⟩
  ·rw [hsp];simp only [← ec,← ey]
  ·rw [hsp];exact ⟨hR5.box.ext E6 n1r.symm,hR5.pool.ext E6 (fun b hb e=>by have:=hR.pool.lt hb;omega),hR.ok,hR.out⟩
  ·exact (E4.pure.trans E5).trans' E6 (fun i hi h=>by omega)
 have J3:∀x2,x2=((k != 8 && k != 9) || decide (1<f))→m_N_j3 (some r) p1 p2 x2 w4 K:=by
  intro x2 hx;unfold m_N_j3;refine ⟨fun h=>⟨r,rfl,bad1 ?_⟩,fun h=>⟨t',b2.cell rfl,f,b2.cell rfl,fun h2=>⟨r,rfl,bad1 ?_⟩,fun h2=>J1 ?_⟩⟩
  ·rw [h] at hx;have hx:=hx.symm;simp at hx;rcases hx with hx | hx
   ·exact .inl hx
   ·exact .inr (.inl hx)
  ·exact .inr (.inr (by simpa using h2))
  ·rw [h] at hx;have hx:=hx.symm;simp only [Bool.or_eq_false_iff,decide_eq_false_iff_not] at hx;rintro (h3 | h3 | h3)
   ·have:=hx.1;simp [h3.1,h3.2] at this
   ·exact hx.2 h3
   ·have h2:t'=IntKind.i64.wrap (1 - f):=by simpa using h2
    exact h3 h2
 have J2:∀x1,x1=(k != 8 && k != 9)→m_N_j2 (some r) p1 p2 x1 w4 K:=by
  intro x1 hx;unfold m_N_j2;exact ⟨fun h=>J3 _ (by rw [← hx,h];rfl),fun h=>⟨f,b2.cell rfl,J3 _ (by rw [← hx,h];rfl)⟩⟩
 exact ⟨k,b2.cell0,fun h=>⟨k,b2.cell0,J2 _ (by rw [h];rfl)⟩,fun h=>J2 _ (by rw [h];rfl)⟩
end Go.Proofs
end
section
open Go Go.SE
namespace Go.Sp
def qI (L:Pool) (who n:Int):Letter×Bool :=
 let m:=vH L n 4
 let a:=zX L m.1.a
 let b:=zX L m.1.b
 (⟨4,who,a.1.c,a.1.text,a.1.fake || b.1.fake⟩,m.2 || a.2 || b.2 || a.1.frm != 0 || b.1.frm != 1 || a.1.c != b.1.c || !decide (a.1.text=b.1.text))
def yN (L:Pool) (who body:Int):Letter×Bool :=
 let g:=vF L body
 if g.1.1=xK∧who=0 then (⟨3,0,(vH L g.1.2 2).1.num,⟨#[]⟩,false⟩,g.2 || (vH L g.1.2 2).2)
 else if g.1.1=yA∧who=2 then (⟨5,0,(vH L g.1.2 2).1.num,⟨#[]⟩,false⟩,g.2 || (vH L g.1.2 2).2)
 else if g.1.1=yM∧who=2 then (⟨6,0,(qA L g.1.2).1.1,(qA L g.1.2).1.2,false⟩,g.2 || (qA L g.1.2).2)
 else if g.1.1=jBC∧who≤1 then (⟨2,who,(qA L body).1.1,(qA L body).1.2,false⟩,g.2 || (qA L body).2)
 else if g.1.1=yL∧who≤1 then ((qI L who g.1.2).1,g.2 || (qI L who g.1.2).2)
 else (xO,true)
end Go.Sp
namespace Go.Proofs
attribute [local irreducible] Calls
def lz:List Value:=[.int .i64 0,.int .i64 0,.int .u64 0,.string ⟨#[]⟩,.bool false]
theorem jJA (r:Addr) (p:Option Addr) (p1:Addr) (who n:Int) (bad:Bool) (w:World) {L:Sp.Pool} {F:NP} (hR:ReaderAt w r p bad L F) (hB:Box w p1 lz 56) (hne:p1.block≠r.block) (K:Int→Int→Int→ByteArray→Bool→WP)
  (hK:∀w6 w',ReaderAt w6 r p (bad || (Sp.qI L who n).2) L F→Ext (·=r.block) w w6→Box w' p1 [.int .i64 4,.int .i64 who,.int .u64 (Sp.qI L who n).1.c,.string (Sp.qI L who n).1.text,.bool (Sp.qI L who n).1.fake] 56→Ext (·=p1.block) w6 w'→K 4 who (Sp.qI L who n).1.c (Sp.qI L who n).1.text (Sp.qI L who n).1.fake w') :
  m_B_j5 (some r) who p1 n true w K:=by
 unfold m_B_j5
 refine Br.t rfl ?_
 refine (uN r p n 4 bad w hR).mono ?_
 rintro _ w11 ⟨k2,f2,t2,u2,x2,a2,b2,rfl,hn,hR11,E11⟩
 refine ⟨_,_,_,_,_,_,_,rfl,?_⟩
 intro p2 w12 h12
 have o12:=New.own (Ext.refl w11) h12
 have l11:=hR11.box.lt
 have l1:=hB.lt
 have s11:=E11.size
 refine bx 7 (Box.of_new h12) rfl rfl (fun w13 b13 E'=>?_)
 have E13:Pure w11 w13:=Ext.own (Ext.new h12) o12 E'
 have hB11:=hB.ext E11 hne
 clear E' h12
 refine ⟨fun w'=>Box w' p2 [.int .i64 k2,.int .i64 f2,.int .i64 t2,.int .u64 u2,.string x2,.int .i64 a2,.int .i64 b2] 103,b13.pure (Ext.drew w13),?_⟩
 intro w18 hw18
 have E18:Pure w11 w18:=by rw [hw18];exact E13.thenPure (Ext.drew w13)
 have cN:Box w18 p2 [.int .i64 k2,.int .i64 f2,.int .i64 t2,.int .u64 u2,.string x2,.int .i64 a2,.int .i64 b2] 103:=by rw [hw18];exact b13.pure (Ext.drew w13)
 clear hw18
 have hR18:=hR11.pure E18
 have hB18:=hB11.pure E18
 have s18:=E18.size
 have Ew18:Ext (·=r.block) w w18:=E11.thenPure E18
 have ea:a2=(Sp.vH L n 4).1.a:=by rw [← hn]
 have eb:b2=(Sp.vH L n 4).1.b:=by rw [← hn]
 generalize hbad:(bad || (Sp.vH L n 4).2)=bad2 at *
 have leaf : ∀ (pA pB : Addr) (w' : World) (ka fa ca : Int) (xa : ByteArray) (ga : Bool) (kb fb cb : Int) (xb : ByteArray) (gb : Bool), (⟨ka, fa, ca, xa, ga⟩ : Sp.Letter) = (Sp.zX L a2).1 → (⟨kb, fb, cb, xb, gb⟩ : Sp.Letter) = (Sp.zX L b2).1 →
   ReaderAt w' r p (bad2 || (Sp.zX L a2).2 || (Sp.zX L b2).2) L F→Ext (·=r.block) w18 w'→Box w' pA [.int .i64 0,.int .i64 0,.int .u64 0,.string ⟨#[]⟩,.bool false] 56→Box w' pB [.int .i64 0,.int .i64 0,.int .u64 0,.string ⟨#[]⟩,.bool false] 56→pA.block≠pB.block→w18.heap.size≤pA.block→w18.heap.size≤pB.block →
   (∀j,j<5→zT w' (pA.add j))∧∀w23:World,w23=storeRow w' pA [.int .i64 ka,.int .i64 fa,.int .u64 ca,.string xa,.bool ga] →
   (∀j,j<5→zT w23 (pB.add j))∧∀w24:World,w24=storeRow w23 pB [.int .i64 kb,.int .i64 fb,.int .u64 cb,.string xb,.bool gb]→m_B_j6 (some r) who p1 pA pB w24 K:=by
  intro pA pB w' ka fa ca xa ga kb fb cb xb gb hla hlb hR' E' hA hBb hAB hoA hoB
  have s':=E'.size
  refine bx 5 hA rfl rfl (fun w23 bA E23=>?_)
  refine bx 5 (hBb.ext E23 hAB.symm) rfl rfl (fun w24 bB E24=>?_)
  have dA:=bA.ext E24 hAB
  have hR24:ReaderAt w24 r p (bad2 || (Sp.zX L a2).2 || (Sp.zX L b2).2) L F:=⟨(hR'.box.ext E23 (by omega)).ext E24 (by omega),(hR'.pool.ext E23 (fun b hb e=>by have:=hR.pool.lt hb;omega)).ext E24 (fun b hb e=>by have:=hR.pool.lt hb;omega),hR'.ok,hR'.out⟩
  have hB24:Box w24 p1 lz 56:=((hB18.ext E' hne).ext E23 (by omega)).ext E24 (by omega)
  have E24':Ext (·=r.block) w w24:=((Ew18.trans E').trans' E23 (fun i hi h=>by omega)).trans' E24 (fun i hi h=>by omega)
  have e1:fa=(Sp.zX L a2).1.frm:=by rw [← hla]
  have e2:fb=(Sp.zX L b2).1.frm:=by rw [← hlb]
  have e3:ca=(Sp.zX L a2).1.c:=by rw [← hla]
  have e4:cb=(Sp.zX L b2).1.c:=by rw [← hlb]
  have e5:xa=(Sp.zX L a2).1.text:=by rw [← hla]
  have e6:xb=(Sp.zX L b2).1.text:=by rw [← hlb]
  have e7:ga=(Sp.zX L a2).1.fake:=by rw [← hla]
  have e8:gb=(Sp.zX L b2).1.fake:=by rw [← hlb]
  generalize hb3:(bad2 || (Sp.zX L a2).2 || (Sp.zX L b2).2)=bad3 at *
  have hsp:Sp.qI L who n=(⟨4,who,ca,xa,ga || gb⟩,(Sp.vH L n 4).2 || (Sp.zX L a2).2 || (Sp.zX L b2).2 || fa != 0 || fb != 1 || ca != cb || !decide (xa=xb)):=by
   simp only [Sp.qI,← ea,← eb,← e1,← e2,← e3,← e4,← e5,← e6,← e7,← e8]
  have hbb:(bad || (Sp.qI L who n).2)=(bad3 || fa != 0 || fb != 1 || ca != cb || !decide (xa=xb)):=by
   rw [hsp,← hb3,← hbad];simp only [Bool.or_assoc]
  rw [hbb] at hK
  rw [hsp] at hK
  have J7:∀(v:Bool) (w5:World),v=(bad3 || fa != 0 || fb != 1 || ca != cb || !decide (xa=xb))→Box w5 r [.pointer p,.bool v] 141→Ext (·=r.block) w24 w5→m_B_j7 who p1 pA pB w5 K:=by
   intro v w5 hv B5 E5;have hR5:ReaderAt w5 r p v L F:=⟨B5,hR24.pool.ext E5 (fun b hb e=>hR.out (e▸hb)),hR.ok,hR.out⟩;have dA5:=dA.ext E5 (by omega);have dB5:=bB.ext E5 (by omega);have h15:=hB24.ext E5 hne;unfold m_B_j7;refine ⟨ca,dA5.cell rfl,xa,dA5.cell rfl,ga,dA5.cell rfl,fun hg=>?_,fun hg=>⟨gb,dB5.cell rfl,?_⟩⟩
   ·refine bx 5 h15 rfl rfl (fun w6 b6 E6=>⟨4,who,ca,xa,true,b6.row,?_⟩);have:=hK w5 w6 (by rw [← hv];exact hR5) (E24'.trans E5) (by rw [hg];exact b6) E6;rw [hg] at this;exact this
   ·refine bx 5 h15 rfl rfl (fun w6 b6 E6=>⟨4,who,ca,xa,gb,b6.row,?_⟩);have:=hK w5 w6 (by rw [← hv];exact hR5) (E24'.trans E5) (by rw [hg];exact b6) E6;rw [hg] at this;exact this
  have setr:∀v:Bool,Box (w24.setCell (r.add 1) (.bool v)) r [.pointer p,.bool v] 141∧Ext (·=r.block) w24 (w24.setCell (r.add 1) (.bool v)):=fun v =>
   ⟨hR24.box.set 1 _,by have:=Ext.setCell (w:=w24) (r.add 1) (.bool v);rw [zR] at this;exact this⟩
  have J10:∀x,x=(bad3 || fa != 0 || fb != 1 || ca != cb)→m_B_j10 (some r) who p1 pA pB x w24 K:=by
   intro x hx;unfold m_B_j10;refine ⟨fun h=>⟨r,rfl,hR24.box.canW (by simp),?_⟩,fun h=>⟨xa,dA.cell rfl,xb,bB.cell rfl,r,rfl,hR24.box.canW (by simp),?_⟩⟩
   ·intro w16 hw;exact J7 true w16 (by rw [← hx,h];rfl) (by rw [hw];exact (setr _).1) (by rw [hw];exact (setr _).2)
   ·intro w16 hw;exact J7 (!decide (xa=xb)) w16 (by rw [← hx,h];rfl) (by rw [hw];exact (setr _).1) (by rw [hw];exact (setr _).2)
  have J9:∀x,x=(bad3 || fa != 0 || fb != 1)→m_B_j9 (some r) who p1 pA pB x w24 K:=by
   intro x hx;unfold m_B_j9;exact ⟨fun h=>J10 _ (by rw [← hx,h];rfl),fun h=>⟨ca,dA.cell rfl,cb,bB.cell rfl,J10 _ (by rw [← hx,h];rfl)⟩⟩
  have J8:∀x,x=(bad3 || fa != 0)→m_B_j8 (some r) who p1 pA pB x w24 K:=by
   intro x hx;unfold m_B_j8;exact ⟨fun h=>J9 _ (by rw [← hx,h];rfl),fun h=>⟨fb,bB.cell rfl,J9 _ (by rw [← hx,h];rfl)⟩⟩
  unfold m_B_j6
  exact ⟨r,rfl,bad3,hR24.box.cell rfl,fun h=>J8 _ (by rw [h];rfl),fun h=>⟨fa,dA.cell rfl,J8 _ (by rw [h];rfl)⟩⟩
 have l18:=hR18.box.lt
 have Er18:Ext (·=r.block) w18 w18:=Ext.refl w18
 refine ⟨a2,fun w' h=>h.cell rfl,b2,fun w' h=>h.cell rfl,?_⟩
 ·skip
  refine ⟨?_,?_,?_⟩
  ·skip
   refine (vE r p a2 _ w18 hR18).mono ?_
   rintro _ v1 ⟨k1,f1,c1,x1,g1,rfl,hl1,R1,e1⟩
   have E1:=Er18.trans e1
   have s1:=E1.size
   refine ⟨_,_,_,_,_,rfl,cN.ext E1 (by omega),?_⟩
   refine ⟨?_,?_,?_⟩
   ·skip
    refine (vE r p b2 _ v1 R1).mono ?_
    rintro _ v2 ⟨k2,f2,c2,x2,g2,rfl,hl2,R2,e2⟩
    have E2:=E1.trans e2
    have s2:=E2.size
    refine ⟨_,_,_,_,_,rfl,?_⟩
    refine ⟨?_,?_⟩
    ·skip
     intro q3 v3 h3
     have e3:Pure v2 v3:=Ext.new h3
     have o3:=h3.at_size
     have R3:=R2.pure e3
     have E3:=E2.thenPure e3
     have s3:=E3.size
     have t3:=(E2).size
     have bA3:=Box.of_new h3
     refine ⟨cN.ext E3 (by omega),?_⟩
     intro q4 v4 h4
     have e4:Pure v3 v4:=Ext.new h4
     have o4:=h4.at_size
     have R4:=R3.pure e4
     have E4:=E3.thenPure e4
     have s4:=E4.size
     have t4:=(E3).size
     have bA4:=bA3.pure e4
     have lA4:=bA3.lt
     have bB4:=Box.of_new h4
     refine ⟨cN.ext E4 (by omega),?_⟩
     exact leaf q3 q4 v4 _ _ _ _ _ _ _ _ _ _ hl1 hl2 R4 E4 bA4 bB4 (by omega) (by omega) (by omega)
    ·skip
     intro q5 v5 h5
     have e5:Pure v2 v5:=Ext.new h5
     have o5:=h5.at_size
     have R5:=R2.pure e5
     have E5:=E2.thenPure e5
     have s5:=E5.size
     have t5:=(E2).size
     have bB5:=Box.of_new h5
     refine ⟨cN.ext E5 (by omega),?_⟩
     intro q6 v6 h6
     have e6:Pure v5 v6:=Ext.new h6
     have o6:=h6.at_size
     have R6:=R5.pure e6
     have E6:=E5.thenPure e6
     have s6:=E6.size
     have t6:=(E5).size
     have bB6:=bB5.pure e6
     have lB6:=bB5.lt
     have bA6:=Box.of_new h6
     refine ⟨cN.ext E6 (by omega),?_⟩
     exact leaf q6 q5 v6 _ _ _ _ _ _ _ _ _ _ hl1 hl2 R6 E6 bA6 bB6 (by omega) (by omega) (by omega)
   ·skip
    intro q7 v7 h7
    have e7:Pure v1 v7:=Ext.new h7
    have o7:=h7.at_size
    have R7:=R1.pure e7
    have E7:=E1.thenPure e7
    have s7:=E7.size
    have t7:=(E1).size
    have bA7:=Box.of_new h7
    refine ⟨cN.ext E7 (by omega),?_⟩
    refine ⟨?_,?_⟩
    ·skip
     refine (vE r p b2 _ v7 R7).mono ?_
     rintro _ v8 ⟨k8,f8,c8,x8,g8,rfl,hl2,R8,e8⟩
     have E8:=E7.trans e8
     have bA8:=bA7.ext e8 (by omega)
     have s8:=E8.size
     refine ⟨_,_,_,_,_,rfl,?_⟩
     intro q9 v9 h9
     have e9:Pure v8 v9:=Ext.new h9
     have o9:=h9.at_size
     have R9:=R8.pure e9
     have E9:=E8.thenPure e9
     have s9:=E9.size
     have t9:=(E8).size
     have bA9:=bA8.pure e9
     have lA9:=bA8.lt
     have bB9:=Box.of_new h9
     refine ⟨cN.ext E9 (by omega),?_⟩
     exact leaf q7 q9 v9 _ _ _ _ _ _ _ _ _ _ hl1 hl2 R9 E9 bA9 bB9 (by omega) (by omega) (by omega)
    ·skip
     intro q10 v10 h10
     have e10:Pure v7 v10:=Ext.new h10
     have o10:=h10.at_size
     have R10:=R7.pure e10
     have E10:=E7.thenPure e10
     have s10:=E10.size
     have t10:=(E7).size
     have bA10:=bA7.pure e10
     have lA10:=bA7.lt
     have bB10:=Box.of_new h10
     refine ⟨cN.ext E10 (by omega),?_⟩
     refine (vE r p b2 _ v10 R10).mono ?_
     rintro _ v11 ⟨k11,f11,c11,x11,g11,rfl,hl2,R11,e11⟩
     have E11:=E10.trans e11
     have bA11:=bA10.ext e11 (by omega)
     have bB11:=bB10.ext e11 (by omega)
     have s11:=E11.size
     refine ⟨_,_,_,_,_,rfl,?_⟩
     exact leaf q7 q10 v11 _ _ _ _ _ _ _ _ _ _ hl1 hl2 R11 E11 bA11 bB11 (by omega) (by omega) (by omega)
   ·skip
    intro q12 v12 h12
    have e12:Pure v1 v12:=Ext.new h12
    have o12:=h12.at_size
    have R12:=R1.pure e12
    have E12:=E1.thenPure e12
    have s12:=E12.size
    have t12:=(E1).size
    have bB12:=Box.of_new h12
    refine ⟨cN.ext E12 (by omega),?_⟩
    refine ⟨?_,?_⟩
    ·skip
     refine (vE r p b2 _ v12 R12).mono ?_
     rintro _ v13 ⟨k13,f13,c13,x13,g13,rfl,hl2,R13,e13⟩
     have E13:=E12.trans e13
     have bB13:=bB12.ext e13 (by omega)
     have s13:=E13.size
     refine ⟨_,_,_,_,_,rfl,?_⟩
     intro q14 v14 h14
     have e14:Pure v13 v14:=Ext.new h14
     have o14:=h14.at_size
     have R14:=R13.pure e14
     have E14:=E13.thenPure e14
     have s14:=E14.size
     have t14:=(E13).size
     have bB14:=bB13.pure e14
     have lB14:=bB13.lt
     have bA14:=Box.of_new h14
     refine ⟨cN.ext E14 (by omega),?_⟩
     exact leaf q14 q12 v14 _ _ _ _ _ _ _ _ _ _ hl1 hl2 R14 E14 bA14 bB14 (by omega) (by omega) (by omega)
    ·skip
     intro q15 v15 h15
     have e15:Pure v12 v15:=Ext.new h15
     have o15:=h15.at_size
     have R15:=R12.pure e15
     have E15:=E12.thenPure e15
     have s15:=E15.size
     have t15:=(E12).size
     have bB15:=bB12.pure e15
     have lB15:=bB12.lt
     have bA15:=Box.of_new h15
     refine ⟨cN.ext E15 (by omega),?_⟩
     refine (vE r p b2 _ v15 R15).mono ?_
     rintro _ v16 ⟨k16,f16,c16,x16,g16,rfl,hl2,R16,e16⟩
     have E16:=E15.trans e16
     have bA16:=bA15.ext e16 (by omega)
     have bB16:=bB15.ext e16 (by omega)
     have s16:=E16.size
     refine ⟨_,_,_,_,_,rfl,?_⟩
     exact leaf q15 q12 v16 _ _ _ _ _ _ _ _ _ _ hl1 hl2 R16 E16 bA16 bB16 (by omega) (by omega) (by omega)
  ·skip
   intro q17 v17 h17
   have e17:Pure w18 v17:=Ext.new h17
   have o17:=h17.at_size
   have R17:=hR18.pure e17
   have E17:=Er18.thenPure e17
   have s17:=E17.size
   have t17:=(Er18).size
   have bA17:=Box.of_new h17
   refine ⟨cN.ext E17 (by omega),?_⟩
   refine ⟨?_,?_⟩
   ·skip
    refine (vE r p a2 _ v17 R17).mono ?_
    rintro _ v18 ⟨k18,f18,c18,x18,g18,rfl,hl1,R18,e18⟩
    have E18:=E17.trans e18
    have bA18:=bA17.ext e18 (by omega)
    have s18:=E18.size
    refine ⟨_,_,_,_,_,rfl,cN.ext E18 (by omega),?_⟩
    refine ⟨?_,?_⟩
    ·skip
     refine (vE r p b2 _ v18 R18).mono ?_
     rintro _ v19 ⟨k19,f19,c19,x19,g19,rfl,hl2,R19,e19⟩
     have E19:=E18.trans e19
     have bA19:=bA18.ext e19 (by omega)
     have s19:=E19.size
     refine ⟨_,_,_,_,_,rfl,?_⟩
     intro q20 v20 h20
     have e20:Pure v19 v20:=Ext.new h20
     have o20:=h20.at_size
     have R20:=R19.pure e20
     have E20:=E19.thenPure e20
     have s20:=E20.size
     have t20:=(E19).size
     have bA20:=bA19.pure e20
     have lA20:=bA19.lt
     have bB20:=Box.of_new h20
     refine ⟨cN.ext E20 (by omega),?_⟩
     exact leaf q17 q20 v20 _ _ _ _ _ _ _ _ _ _ hl1 hl2 R20 E20 bA20 bB20 (by omega) (by omega) (by omega)
    ·skip
     intro q21 v21 h21
     have e21:Pure v18 v21:=Ext.new h21
     have o21:=h21.at_size
     have R21:=R18.pure e21
     have E21:=E18.thenPure e21
     have s21:=E21.size
     have t21:=(E18).size
     have bA21:=bA18.pure e21
     have lA21:=bA18.lt
     have bB21:=Box.of_new h21
     refine ⟨cN.ext E21 (by omega),?_⟩
     refine (vE r p b2 _ v21 R21).mono ?_
     rintro _ v22 ⟨k22,f22,c22,x22,g22,rfl,hl2,R22,e22⟩
     have E22:=E21.trans e22
     have bA22:=bA21.ext e22 (by omega)
     have bB22:=bB21.ext e22 (by omega)
     have s22:=E22.size
     refine ⟨_,_,_,_,_,rfl,?_⟩
     exact leaf q17 q21 v22 _ _ _ _ _ _ _ _ _ _ hl1 hl2 R22 E22 bA22 bB22 (by omega) (by omega) (by omega)
   ·skip
    intro q23 v23 h23
    have e23:Pure v17 v23:=Ext.new h23
    have o23:=h23.at_size
    have R23:=R17.pure e23
    have E23:=E17.thenPure e23
    have s23:=E23.size
    have t23:=(E17).size
    have bA23:=bA17.pure e23
    have lA23:=bA17.lt
    have bB23:=Box.of_new h23
    refine ⟨cN.ext E23 (by omega),?_⟩
    refine (vE r p a2 _ v23 R23).mono ?_
    rintro _ v24 ⟨k24,f24,c24,x24,g24,rfl,hl1,R24,e24⟩
    have E24:=E23.trans e24
    have bA24:=bA23.ext e24 (by omega)
    have bB24:=bB23.ext e24 (by omega)
    have s24:=E24.size
    refine ⟨_,_,_,_,_,rfl,cN.ext E24 (by omega),?_⟩
    refine (vE r p b2 _ v24 R24).mono ?_
    rintro _ v25 ⟨k25,f25,c25,x25,g25,rfl,hl2,R25,e25⟩
    have E25:=E24.trans e25
    have bA25:=bA24.ext e25 (by omega)
    have bB25:=bB24.ext e25 (by omega)
    have s25:=E25.size
    refine ⟨_,_,_,_,_,rfl,?_⟩
    exact leaf q17 q23 v25 _ _ _ _ _ _ _ _ _ _ hl1 hl2 R25 E25 bA25 bB25 (by omega) (by omega) (by omega)
  ·skip
   intro q26 v26 h26
   have e26:Pure w18 v26:=Ext.new h26
   have o26:=h26.at_size
   have R26:=hR18.pure e26
   have E26:=Er18.thenPure e26
   have s26:=E26.size
   have t26:=(Er18).size
   have bB26:=Box.of_new h26
   refine ⟨cN.ext E26 (by omega),?_⟩
   refine ⟨?_,?_⟩
   ·skip
    refine (vE r p a2 _ v26 R26).mono ?_
    rintro _ v27 ⟨k27,f27,c27,x27,g27,rfl,hl1,R27,e27⟩
    have E27:=E26.trans e27
    have bB27:=bB26.ext e27 (by omega)
    have s27:=E27.size
    refine ⟨_,_,_,_,_,rfl,cN.ext E27 (by omega),?_⟩
    refine ⟨?_,?_⟩
    ·skip
     refine (vE r p b2 _ v27 R27).mono ?_
     rintro _ v28 ⟨k28,f28,c28,x28,g28,rfl,hl2,R28,e28⟩
     have E28:=E27.trans e28
     have bB28:=bB27.ext e28 (by omega)
     have s28:=E28.size
     refine ⟨_,_,_,_,_,rfl,?_⟩
     intro q29 v29 h29
     have e29:Pure v28 v29:=Ext.new h29
     have o29:=h29.at_size
     have R29:=R28.pure e29
     have E29:=E28.thenPure e29
     have s29:=E29.size
     have t29:=(E28).size
     have bB29:=bB28.pure e29
     have lB29:=bB28.lt
     have bA29:=Box.of_new h29
     refine ⟨cN.ext E29 (by omega),?_⟩
     exact leaf q29 q26 v29 _ _ _ _ _ _ _ _ _ _ hl1 hl2 R29 E29 bA29 bB29 (by omega) (by omega) (by omega)
    ·skip
     intro q30 v30 h30
     have e30:Pure v27 v30:=Ext.new h30
     have o30:=h30.at_size
     have R30:=R27.pure e30
     have E30:=E27.thenPure e30
     have s30:=E30.size
     have t30:=(E27).size
     have bB30:=bB27.pure e30
     have lB30:=bB27.lt
     have bA30:=Box.of_new h30
     refine ⟨cN.ext E30 (by omega),?_⟩
     refine (vE r p b2 _ v30 R30).mono ?_
     rintro _ v31 ⟨k31,f31,c31,x31,g31,rfl,hl2,R31,e31⟩
     have E31:=E30.trans e31
     have bA31:=bA30.ext e31 (by omega)
     have bB31:=bB30.ext e31 (by omega)
     have s31:=E31.size
     refine ⟨_,_,_,_,_,rfl,?_⟩
     exact leaf q30 q26 v31 _ _ _ _ _ _ _ _ _ _ hl1 hl2 R31 E31 bA31 bB31 (by omega) (by omega) (by omega)
   ·skip
    intro q32 v32 h32
    have e32:Pure v26 v32:=Ext.new h32
    have o32:=h32.at_size
    have R32:=R26.pure e32
    have E32:=E26.thenPure e32
    have s32:=E32.size
    have t32:=(E26).size
    have bB32:=bB26.pure e32
    have lB32:=bB26.lt
    have bA32:=Box.of_new h32
    refine ⟨cN.ext E32 (by omega),?_⟩
    refine (vE r p a2 _ v32 R32).mono ?_
    rintro _ v33 ⟨k33,f33,c33,x33,g33,rfl,hl1,R33,e33⟩
    have E33:=E32.trans e33
    have bA33:=bA32.ext e33 (by omega)
    have bB33:=bB32.ext e33 (by omega)
    have s33:=E33.size
    refine ⟨_,_,_,_,_,rfl,cN.ext E33 (by omega),?_⟩
    refine (vE r p b2 _ v33 R33).mono ?_
    rintro _ v34 ⟨k34,f34,c34,x34,g34,rfl,hl2,R34,e34⟩
    have E34:=E33.trans e34
    have bA34:=bA33.ext e34 (by omega)
    have bB34:=bB33.ext e34 (by omega)
    have s34:=E34.size
    refine ⟨_,_,_,_,_,rfl,?_⟩
    exact leaf q32 q26 v34 _ _ _ _ _ _ _ _ _ _ hl1 hl2 R34 E34 bA34 bB34 (by omega) (by omega) (by omega)
end Go.Proofs
end
section
open Go Go.SE
namespace Go.Sp
def jMI (L:Pool) (t:Int):Letter×Bool :=
 let n:=nodeOf L t
 if n.kind=7 then yN L n.frm n.a else if n.kind=8∨n.kind=9 then zX L t
 else if ((vF L t).2 || !decide ((vF L t).1.1=jJO))=true then (xO,true)
 else (⟨7,0,(vH L (vF L t).1.2 2).1.num,⟨#[]⟩,false⟩,(vH L (vF L t).1.2 2).2)
def jSL (L:Pool) (t:Int):Letter×Bool:=if (jMI L t).2=true then (xO,false) else ((jMI L t).1,true)
end Go.Sp
namespace Go.Proofs
open Tryz
attribute [local irreducible] Calls
theorem jKP (r:Addr) (p:Option Addr) (who body:Int) (bad:Bool) (w:World) {L:Sp.Pool} {F:NP} (hR:ReaderAt w r p bad L F) :
  Calls prog 85 #[.pointer (some r),.int .i64 who,.int .i64 body] w
   (fun e w'=>∃k:Int,∃f:Int,∃c:Int,∃x:ByteArray,∃fk:Bool,e=.returned (.agg #[.int .i64 k,.int .i64 f,.int .u64 c,.string x,.bool fk])∧((⟨k,f,c,x,fk⟩:Sp.Letter)=(Sp.yN L who body).1∧ReaderAt w' r p (bad || (Sp.yN L who body).2) L F∧Ext (·=r.block) w w')):=by
 suffices key:∀K:Int→Int→Int→ByteArray→Bool→WP,(∀k f c x fk w',((⟨k,f,c,x,fk⟩:Sp.Letter)=(Sp.yN L who body).1∧ReaderAt w' r p (bad || (Sp.yN L who body).2) L F∧Ext (·=r.block) w w')→K k f c x fk w')→m_B (some r) who body w K from
  w_B _ _ _ w _ (key _ (fun _ _ _ _ _ _ h=>h))
 intro K hK
 unfold m_B
 intro p1 w1 h1
 have E1:Pure w w1:=Ext.new h1
 have o1:=New.own (Ext.refl w) h1
 have lr:=hR.box.lt
 have b1:Box w1 p1 lz 56:=Box.of_new h1
 have ne:p1.block≠r.block:=by omega
 refine (jAW r p body bad w1 (hR.pure E1)).mono ?_
 rintro _ w2 ⟨x,y,rfl,hg,hR2,E12⟩
 refine ⟨_,_,rfl,?_⟩
 have b2:=b1.ext E12 ne
 have E2:Ext (·=r.block) w w2:=E1.pure.trans E12
 have ex:x=(Sp.vF L body).1.1:=congrArg Prod.fst hg
 have ey:y=(Sp.vF L body).1.2:=congrArg Prod.snd hg
 have hsp:Sp.yN L who body=if x=Sp.xK∧who=0 then (⟨3,0,(Sp.vH L y 2).1.num,⟨#[]⟩,false⟩,(Sp.vF L body).2 || (Sp.vH L y 2).2)
  else if x=Sp.yA∧who=2 then (⟨5,0,(Sp.vH L y 2).1.num,⟨#[]⟩,false⟩,(Sp.vF L body).2 || (Sp.vH L y 2).2)
  else if x=Sp.yM∧who=2 then (⟨6,0,(Sp.qA L y).1.1,(Sp.qA L y).1.2,false⟩,(Sp.vF L body).2 || (Sp.qA L y).2)
  else if x=Sp.jBC∧who≤1 then (⟨2,who,(Sp.qA L body).1.1,(Sp.qA L body).1.2,false⟩,(Sp.vF L body).2 || (Sp.qA L body).2)
  else if x=Sp.yL∧who≤1 then ((Sp.qI L who y).1,(Sp.vF L body).2 || (Sp.qI L who y).2)
  else (Sp.xO,true):=by
  simp only [Sp.yN,← ex,← ey]
 clear ex ey hg
 generalize hbg:(Sp.vF L body).2=g2 at *
 have fin : ∀ (k f c : Int) (z : ByteArray) (fk v : Bool) (w5 : World), Sp.yN L who body = (⟨k, f, c, z, fk⟩, v) → ReaderAt w5 r p (bad || v) L F → Ext (· = r.block) w2 w5 →
   (∀j,j<5→zT w5 (p1.add j))∧∀w6:World,w6=storeRow w5 p1 [(.int .i64 k),(.int .i64 f),(.int .u64 c),(.string z),(.bool fk)] →
   ∃qKind1:Int,∃qFrom1:Int,∃qC1:Int,∃qText1:ByteArray,∃qFake1:Bool,Row w6 p1 [(.int .i64 qKind1),(.int .i64 qFrom1),(.int .u64 qC1),(.string qText1),(.bool qFake1)] ∧
   K qKind1 qFrom1 qC1 qText1 qFake1 w6:=by
  intro k f c z fk v w5 hs hR5 E5
  refine bx 5 (b2.ext E5 ne) rfl rfl (fun w6 b6 E6=>⟨k,f,c,z,fk,b6.row,hK _ _ _ _ _ _ ⟨by rw [hs],?_,?_⟩⟩)
  ·rw [hs];exact ⟨hR5.box.ext E6 ne.symm,hR5.pool.ext E6 (fun b hb e=>by have:=hR.pool.lt hb;omega),hR.ok,hR.out⟩
  ·exact (E2.trans E5).trans' E6 (fun i hi h=>by omega)
 have nodeCase : ∀ (k : Int), Sp.yN L who body = (⟨k, 0, (Sp.vH L y 2).1.num, ⟨#[]⟩, false⟩, g2 || (Sp.vH L y 2).2) →
   Calls prog 88 #[.pointer (some r),.int .i64 y,.int .i64 2] w2 (fun e w3=>∃rKind1:Int,∃rFrom1:Int,∃rTo1:Int,∃rNum1:Int,∃rText1:ByteArray,∃rA1:Int,∃rB1:Int,e=.returned (.agg #[(.int .i64 rKind1),(.int .i64 rFrom1),(.int .i64 rTo1),(.int .u64 rNum1),(.string rText1),(.int .i64 rA1),(.int .i64 rB1)]) ∧
    (∀j,j<5→zT w3 (p1.add j))∧∀w4:World,w4=storeRow w3 p1 [(.int .i64 k),(.int .i64 0),(.int .u64 rNum1),(.string (⟨#[]⟩:ByteArray)),(.bool false)] →
    ∃qKind1:Int,∃qFrom1:Int,∃qC1:Int,∃qText1:ByteArray,∃qFake1:Bool,Row w4 p1 [(.int .i64 qKind1),(.int .i64 qFrom1),(.int .u64 qC1),(.string qText1),(.bool qFake1)] ∧
    K qKind1 qFrom1 qC1 qText1 qFake1 w4):=by
  intro k hs
  refine (uN r p y 2 _ w2 hR2).mono ?_
  rintro _ w3 ⟨k3,f3,t3,u3,x3,a3,b3,rfl,hn3,hR3,E3⟩
  have e3:u3=(Sp.vH L y 2).1.num:=by rw [← hn3]
  refine ⟨_,_,_,_,_,_,_,rfl,?_⟩
  rw [← e3] at hs
  exact fin _ _ _ _ _ _ w3 hs (by rw [← Bool.or_assoc];exact hR3) E3
 have dealCase : ∀ (k f t : Int), Sp.yN L who body = (⟨k, f, (Sp.qA L t).1.1, (Sp.qA L t).1.2, false⟩, g2 || (Sp.qA L t).2) →
   Calls prog 91 #[.pointer (some r),.int .i64 t] w2 (fun e w7=>∃r4:Int,∃r5:ByteArray,e=.returned (.tuple #[(.int .u64 r4),(.string r5)]) ∧
    (∀j,j<5→zT w7 (p1.add j))∧∀w8:World,w8=storeRow w7 p1 [(.int .i64 k),(.int .i64 f),(.int .u64 r4),(.string r5),(.bool false)] →
    ∃qKind1:Int,∃qFrom1:Int,∃qC1:Int,∃qText1:ByteArray,∃qFake1:Bool,Row w8 p1 [(.int .i64 qKind1),(.int .i64 qFrom1),(.int .u64 qC1),(.string qText1),(.bool qFake1)] ∧
    K qKind1 qFrom1 qC1 qText1 qFake1 w8):=by
  intro k f t hs
  refine (jJB r p t _ w2 hR2).mono ?_
  rintro _ w3 ⟨c,z,rfl,hd,hR3,E3⟩
  have e1:c=(Sp.qA L t).1.1:=congrArg Prod.fst hd
  have e2:z=(Sp.qA L t).1.2:=congrArg Prod.snd hd
  refine ⟨_,_,rfl,?_⟩
  rw [← e1,← e2] at hs
  exact fin _ _ _ _ _ _ w3 hs (by rw [← Bool.or_assoc];exact hR3) E3
 have J5:∀b,b=decide (x=Sp.yL∧who≤1)→¬ (x=Sp.xK∧who=0)→¬ (x=Sp.yA∧who=2)→¬ (x=Sp.yM∧who=2)→¬ (x=Sp.jBC∧who≤1)→m_B_j5 (some r) who p1 y b w2 K:=by
  intro b hb h1 h2 h3 h4;rw [if_neg h1,if_neg h2,if_neg h3,if_neg h4] at hsp;cases hbv:b with
  | true =>
   have hc:x=Sp.yL∧who≤1:=of_decide_eq_true (by rw [← hb,hbv])
   rw [if_pos hc] at hsp
   refine jJA r p p1 who y _ w2 hR2 b2 ne K (fun w6 w' hR6 E6 b' E'=>hK _ _ _ _ _ _ ⟨by rw [hsp];rfl,?_,?_⟩)
   ·rw [hsp];simp only [← Bool.or_assoc]
    exact ⟨hR6.box.ext E' ne.symm,hR6.pool.ext E' (fun b hb e=>by have:=hR.pool.lt hb;omega),hR.ok,hR.out⟩
   ·exact (E2.trans E6).trans' E' (fun i hi h=>by omega)
  | false =>
   have hc:¬ (x=Sp.yL∧who≤1):=of_decide_eq_false (by rw [← hb,hbv])
   rw [if_neg hc] at hsp
   unfold m_B_j5
   refine Br.f rfl ⟨r,rfl,hR2.box.canW (by simp),?_⟩
   intro w77 hw
   have d5:Box w77 r [.pointer p,.bool true] 141:=by rw [hw];exact hR2.box.set 1 _
   have E5:Ext (·=r.block) w2 w77:=by rw [hw];have:=Ext.setCell (w:=w2) (r.add 1) (.bool true);rw [zR] at this;exact this
   exact fin 0 0 0 ⟨#[]⟩ false true w77 hsp (by rw [Bool.or_true];exact ⟨d5,hR2.pool.ext E5 (fun b hb e=>hR.out (e▸hb)),hR.ok,hR.out⟩) E5
 have J4:∀b,b=decide (x=Sp.jBC∧who≤1)→¬ (x=Sp.xK∧who=0)→¬ (x=Sp.yA∧who=2)→¬ (x=Sp.yM∧who=2)→m_B_j4 (some r) who body p1 x y b w2 K:=by
  intro b hb h1 h2 h3;unfold m_B_j4;refine ⟨fun h=>dealCase 2 who body ?_,fun h=>?_⟩
  ·rw [hsp,if_neg h1,if_neg h2,if_neg h3,if_pos (of_decide_eq_true (by rw [← hb,h]))]
  ·have h4:¬ (x=Sp.jBC∧who≤1):=of_decide_eq_false (by rw [← hb,h]);exact ⟨fun hw=>J5 _ (by have:x=Sp.yL:=of_decide_eq_true hw;simp [this]) h1 h2 h3 h4,fun hw=>J5 _ (by have:¬ x=Sp.yL:=of_decide_eq_false hw;simp [this]) h1 h2 h3 h4⟩
 have J3:∀b,b=decide (x=Sp.yM∧who=2)→¬ (x=Sp.xK∧who=0)→¬ (x=Sp.yA∧who=2)→m_B_j3 (some r) who body p1 x y b w2 K:=by
  intro b hb h1 h2;unfold m_B_j3;refine ⟨fun h=>dealCase 6 0 y ?_,fun h=>?_⟩
  ·rw [hsp,if_neg h1,if_neg h2,if_pos (of_decide_eq_true (by rw [← hb,h]))]
  ·have h3:¬ (x=Sp.yM∧who=2):=of_decide_eq_false (by rw [← hb,h]);exact ⟨fun hw=>J4 _ (by have:x=Sp.jBC:=of_decide_eq_true hw;simp [this]) h1 h2 h3,fun hw=>J4 _ (by have:¬ x=Sp.jBC:=of_decide_eq_false hw;simp [this]) h1 h2 h3⟩
 have J2:∀b,b=decide (x=Sp.yA∧who=2)→¬ (x=Sp.xK∧who=0)→m_B_j2 (some r) who body p1 x y b w2 K:=by
  intro b hb h1;unfold m_B_j2;refine ⟨fun h=>nodeCase 5 ?_,fun h=>?_⟩
  ·rw [hsp,if_neg h1,if_pos (of_decide_eq_true (by rw [← hb,h]))]
  ·have h2:¬ (x=Sp.yA∧who=2):=of_decide_eq_false (by rw [← hb,h]);exact ⟨fun hw=>J3 _ (by have:x=Sp.yM:=of_decide_eq_true hw;simp [this];rfl) h1 h2,fun hw=>J3 _ (by have:¬ x=Sp.yM:=of_decide_eq_false hw;simp [this]) h1 h2⟩
 have J1:∀b,b=decide (x=Sp.xK∧who=0)→m_B_j1 (some r) who body p1 x y b w2 K:=by
  intro b hb;unfold m_B_j1;refine ⟨fun h=>nodeCase 3 ?_,fun h=>?_⟩
  ·rw [hsp,if_pos (of_decide_eq_true (by rw [← hb,h]))]
  ·have h1:¬ (x=Sp.xK∧who=0):=of_decide_eq_false (by rw [← hb,h]);exact ⟨fun hw=>J2 _ (by have:x=Sp.yA:=of_decide_eq_true hw;simp [this];rfl) h1,fun hw=>J2 _ (by have:¬ x=Sp.yA:=of_decide_eq_false hw;simp [this]) h1⟩
 exact ⟨fun hw=>J1 _ (by have:x=Sp.xK:=of_decide_eq_true hw;simp [this];rfl),fun hw=>J1 _ (by have:¬ x=Sp.xK:=of_decide_eq_false hw;simp [this])⟩
end Go.Proofs
end
section
open Go Go.SE
namespace Go.Proofs
open Tryz
attribute [local irreducible] Calls
theorem jFB (p:Option Addr) (t:Int) (w:World) {L:Sp.Pool} {F:NP} (hP:jEW w p L F) (hok:Sp.Ok L) :
  Calls prog 40 #[.pointer p,.int .i64 t] w
   (fun e w'=>∃k:Int,∃f:Int,∃c:Int,∃x:ByteArray,∃fk:Bool,∃ok:Bool,e=.returned (.tuple #[.agg #[.int .i64 k,.int .i64 f,.int .u64 c,.string x,.bool fk],.bool ok])∧(((⟨k,f,c,x,fk⟩:Sp.Letter),ok)=Sp.jSL L t∧Pure w w')):=by
 suffices key:∀K:Int→Int→Int→ByteArray→Bool→Bool→WP,(∀k f c x fk ok w',(((⟨k,f,c,x,fk⟩:Sp.Letter),ok)=Sp.jSL L t∧Pure w w')→K k f c x fk ok w')→m_M p t w K from
  w_M _ _ w _ (key _ (fun _ _ _ _ _ _ _ h=>h))
 intro K hK
 unfold m_M
 intro p2 w1 h1 p3 w2 h2
 have E1:Pure w w1:=Ext.new h1
 have E2:Pure w w2:=E1.trans (Ext.new h2)
 have o2:=New.own (Ext.refl w) h1
 have o3:=New.own E1 h2
 have n23:p2.block≠p3.block:=New.ne h2 (Box.of_new h1).blk
 have b2:Box w2 p2 lz 56:=(Box.of_new h1).pure (Ext.new h2)
 have hout:¬ F p3.block:=fun h=>by have:=hP.lt h;omega
 have hR2:ReaderAt w2 p3 p false L F:=⟨Box.of_new h2,hP.pure E2,hok,hout⟩
 refine (jKR p t w2 hR2.pool hok).mono ?_
 rintro _ w3 ⟨k,f,t',u,x,a,b,ok,rfl,⟨hn,_⟩,E23⟩
 refine ⟨_,_,_,_,_,_,_,_,rfl,?_⟩
 intro p4 w4 h4
 have E3:Pure w2 w3:=E23
 have o4:=New.own (Ext.refl w3) h4
 have l3:=(hR2.pure E3).box.lt
 have l2:=(b2.pure E3).lt
 refine bx 7 (Box.of_new h4) rfl rfl (fun w5 b4 E'=>?_)
 have E5:Pure w3 w5:=Ext.own (Ext.new h4) o4 E'
 intro p5 w6 h6
 have E6:Pure w3 w6:=E5.trans (Ext.new h6)
 have o5:=New.own E5 h6
 have n45:p4.block≠p5.block:=New.ne h6 b4.blk
 have c4:=b4.pure (Ext.new h6:Pure w5 w6)
 have c5:Box w6 p5 lz 56:=Box.of_new h6
 have c2:=b2.pure (E3.trans E6)
 have hR6:=hR2.pure (E3.trans E6)
 have E26:Pure w w6:=(E2.trans E3).trans E6
 clear E' h1 h2 h4 h6
 have n35:p3.block≠p5.block:=by omega
 have n25:p2.block≠p5.block:=by omega
 have hq:Sp.jMI L t=if k=7 then Sp.yN L f a else if k=8∨k=9 then Sp.zX L t else if ((Sp.vF L t).2 || !decide ((Sp.vF L t).1.1=Sp.jJO))=true then (Sp.xO,true) else (⟨7,0,(Sp.vH L (Sp.vF L t).1.2 2).1.num,⟨#[]⟩,false⟩,(Sp.vH L (Sp.vF L t).1.2 2).2):=by
  simp only [Sp.jMI,← hn]
 have bad1 : ∀ (w8 : World), (Sp.jMI L t).2 = true → Ext (fun b => b = p3.block ∨ b = p5.block) w6 w8 → (∀ j, j < 5 → zT w8 (p2.add j)) ∧ ∀ w9 : World, w9 = storeRow w8 p2 [(.int .i64 0), (.int .i64 0), (.int .u64 0), (.string (⟨#[]⟩ : ByteArray)), (.bool false)] →
   ∃qKind1:Int,∃qFrom1:Int,∃qC1:Int,∃qText1:ByteArray,∃qFake1:Bool,Row w9 p2 [(.int .i64 qKind1),(.int .i64 qFrom1),(.int .u64 qC1),(.string qText1),(.bool qFake1)]∧K qKind1 qFrom1 qC1 qText1 qFake1 false w9:=by
  intro w8 hb E8
  refine bx 5 (c2.ext E8 (by rintro (h | h) <;> omega)) rfl rfl (fun w9 b9 E9=>⟨0,0,0,⟨#[]⟩,false,b9.row,hK _ _ _ _ _ _ _ ⟨?_,?_⟩⟩)
  ·rw [Sp.jSL,if_pos hb];rfl
  ·exact (E26.trans' E8 (fun i hi h=>by rcases h with h | h <;> omega)).trans' E9 (fun i hi h=>by omega)
 have good1 : ∀ (w8 : World) (l : Sp.Letter), Sp.jMI L t = (l, false) → Ext (fun b => b = p3.block ∨ b = p5.block) w6 w8 → Box w8 p5 [.int .i64 l.kind, .int .i64 l.frm, .int .u64 l.c, .string l.text, .bool l.fake] 56 →
   ∃vKind1:Int,∃vFrom1:Int,∃vC1:Int,∃vText1:ByteArray,∃vFake1:Bool,Row w8 p5 [(.int .i64 vKind1),(.int .i64 vFrom1),(.int .u64 vC1),(.string vText1),(.bool vFake1)] ∧
   (∀j,j<5→zT w8 (p2.add j))∧∀w9:World,w9=storeRow w8 p2 [(.int .i64 vKind1),(.int .i64 vFrom1),(.int .u64 vC1),(.string vText1),(.bool vFake1)] →
   ∃qKind1:Int,∃qFrom1:Int,∃qC1:Int,∃qText1:ByteArray,∃qFake1:Bool,Row w9 p2 [(.int .i64 qKind1),(.int .i64 qFrom1),(.int .u64 qC1),(.string qText1),(.bool qFake1)]∧K qKind1 qFrom1 qC1 qText1 qFake1 true w9:=by
  intro w8 l hb E8 B8
  refine ⟨_,_,_,_,_,B8.row,?_⟩
  refine bx 5 (c2.ext E8 (by rintro (h | h) <;> omega)) rfl rfl (fun w9 b9 E9=>⟨l.kind,l.frm,l.c,l.text,l.fake,b9.row,hK _ _ _ _ _ _ _ ⟨?_,?_⟩⟩)
  ·rw [Sp.jSL,if_neg (by rw [hb];simp),hb]
  ·exact (E26.trans' E8 (fun i hi h=>by rcases h with h | h <;> omega)).trans' E9 (fun i hi h=>by omega)
 have up:∀{w7 w8:World},Ext (·=p3.block) w6 w7→Ext (·=p5.block) w7 w8→Ext (fun b=>b=p3.block∨b=p5.block) w6 w8:=fun h h'=>(h.mono (fun _ _ h=>.inl h)).trans' h' (fun _ _ h=>.inr h)
 have J1p:∀b,b=true→k≠7→(k=8∨k=9)→m_M_j1 t p2 p3 p5 b w6 K:=by
  rintro _ rfl h7 h89;rw [if_neg h7,if_pos h89] at hq;unfold m_M_j1;refine Br.t rfl ?_;refine (vE p3 p t false w6 hR6).mono ?_;rintro _ w7 ⟨k7,f7,c7,x7,g7,rfl,hl,hR7,E7⟩;refine ⟨_,_,_,_,_,rfl,bx 5 (c5.ext E7 n35.symm) rfl rfl (fun w8 b8 E8=>⟨(Sp.zX L t).2,?_,fun h=>bad1 w8 (by rw [hq];exact h) (up E7 E8),fun h=>good1 w8 ⟨k7,f7,c7,x7,g7⟩ (by rw [hq,hl,← h]) (up E7 E8) b8⟩)⟩;have:=(hR7.box.ext E8 n35).cell (i:=1) rfl;simpa using this
 have J1t:∀b,b=false→k≠7→¬ (k=8∨k=9)→m_M_j1 t p2 p3 p5 b w6 K:=by
  rintro _ rfl h7 h89;rw [if_neg h7,if_neg h89] at hq;unfold m_M_j1;refine Br.f rfl ?_;refine (jAW p3 p t false w6 hR6).mono ?_;rintro _ w7 ⟨x7,y7,rfl,hg,hR7,E7⟩;have ex:x7=(Sp.vF L t).1.1:=congrArg Prod.fst hg;have ey:y7=(Sp.vF L t).1.2:=congrArg Prod.snd hg;rw [← ex,← ey] at hq;have setr:∀v:Bool,Box (w7.setCell (p3.add 1) (.bool v)) p3 [.pointer p,.bool v] 141∧Ext (·=p3.block) w7 (w7.setCell (p3.add 1) (.bool v)):=fun v =>
   ⟨hR7.box.set 1 _,by have:=Ext.setCell (w:=w7) (p3.add 1) (.bool v);rw [zR] at this;exact this⟩
  have J3:∀(v:Bool) (w8:World),v=((Sp.vF L t).2 || !decide (x7=Sp.jJO))→Box w8 p3 [.pointer p,.bool v] 141→Ext (·=p3.block) w7 w8→m_M_j3 p2 p3 p5 y7 w8 K:=by
   intro v w8 hv B8 E8;have E68:=E7.trans E8;have E68':Ext (fun b=>b=p3.block∨b=p5.block) w6 w8:=E68.mono (fun _ _ h=>.inl h);unfold m_M_j3;refine ⟨v,B8.cell rfl,fun h=>⟨v,B8.cell rfl,fun _=>bad1 w8 (by rw [hq,← hv,if_pos h]) E68',fun h'=>(by rw [h] at h';cases h')⟩,fun h=>?_⟩;rw [← hv,if_neg (by rw [h];simp)] at hq;subst h;unfold m_M_j2;refine (uN p3 p y7 2 false w8 ⟨B8,hR7.pool.ext E8 (fun b hb e=>hout (e▸hb)),hok,hout⟩).mono ?_;rintro _ w16 ⟨k3,f3,t3,u3,x3,a3,b3,rfl,hn3,hR3,E16⟩;have e3:u3=(Sp.vH L y7 2).1.num:=by rw [← hn3]
   rw [← e3] at hq;have E616:=E68.trans E16;refine ⟨_,_,_,_,_,_,_,rfl,bx 5 (c5.ext E616 n35.symm) rfl rfl (fun w17 b17 E17=>⟨(Sp.vH L y7 2).2,?_,fun h=>bad1 w17 (by rw [hq];exact h) (up E616 E17),fun h=>good1 w17 ⟨7,0,u3,⟨#[]⟩,false⟩ (by rw [hq,h]) (up E616 E17) b17⟩)⟩;have:=(hR3.box.ext E17 n35).cell (i:=1) rfl;simpa using this
  refine ⟨_,_,rfl,(Sp.vF L t).2,?_,fun h=>⟨hR7.box.canW (by simp),?_⟩,fun h=>⟨hR7.box.canW (by simp),?_⟩⟩
  ·have:=hR7.box.cell (i:=1) rfl;simpa using this
  ·intro w22 hw;exact J3 true w22 (by rw [h];rfl) (by rw [hw];exact (setr _).1) (by rw [hw];exact (setr _).2)
  ·intro w22 hw;exact J3 (!decide (x7=Sp.jJO)) w22 (by rw [h];rfl) (by rw [hw];exact (setr _).1) (by rw [hw];exact (setr _).2)
 refine ⟨k,c4.cell0,fun h=>⟨f,c4.cell rfl,a,c4.cell rfl,?_⟩,fun h=>⟨fun h8=>?_,fun h8=>?_⟩⟩
 ·have h7:k=7:=by simpa using h
  rw [if_pos h7] at hq
  refine (jKP p3 p f a false w6 hR6).mono ?_
  rintro _ w7 ⟨k7,f7,c7,x7,g7,rfl,hl,hR7,E7⟩
  refine ⟨_,_,_,_,_,rfl,bx 5 (c5.ext E7 n35.symm) rfl rfl (fun w8 b8 E8=>⟨(Sp.yN L f a).2,?_,fun h=>bad1 w8 (by rw [hq];exact h) (up E7 E8),fun h=>good1 w8 ⟨k7,f7,c7,x7,g7⟩ (by rw [hq,hl,← h]) (up E7 E8) b8⟩)⟩
  have:=(hR7.box.ext E8 n35).cell (i:=1) rfl
  simpa using this
 ·have h7:k≠7:=by simpa using h
  have h8:k=8:=by simpa using h8
  exact J1p _ (by simp [h8]) h7 (.inl h8)
 ·have h7:k≠7:=by simpa using h
  have h8:k≠8:=by simpa using h8
  by_cases h9:k=9
  ·exact J1p _ (by simp [h9]) h7 (.inr h9)
  ·exact J1t _ (by simpa using h9) h7 (by rintro (h | h) <;> omega)
theorem tM (p:Addr) (t:Int) (w:World) {L:Sp.Pool} {F:NP} (hP:zS w p L F) (hok:Sp.Ok L) :
  Calls prog 40 #[.pointer (some p),.int .i64 t] w
   (fun e w'=>∃k:Int,∃f:Int,∃c:Int,∃x:ByteArray,∃fk:Bool,∃ok:Bool,e=.returned (.tuple #[.agg #[.int .i64 k,.int .i64 f,.int .u64 c,.string x,.bool fk],.bool ok])∧(((⟨k,f,c,x,fk⟩:Sp.Letter),ok)=Sp.jSL L t∧Pure w w')):=jFB (some p) t w hP hok
end Go.Proofs
end
section
open Go Go.SE
namespace Go.Proofs
attribute [local irreducible] wpL wpX opE wpE Calls
end Go.Proofs
end
section
open Go Go.SE
namespace Go.Proofs
attribute [local irreducible] Calls
section
variable {w w':World} {k p:Addr} {G:List Int} {S:List Sp.Way} {ks:List Int} {sg sl:Sl} {m:Nat} {F:NP}
end
section
variable {w w':World} {k p:Addr} {G:List Int} {S:List Sp.Way} {F:NP}
end
section
variable {w0 w w':World} {H H':NP} {k p p1:Addr} {L:Sp.Pool} {G:List Int} {S S':List Sp.Way} {F F' F0 FP:NP}
end
end Go.Proofs
end
section
open Go Go.SE
namespace Go.Sp
def jTY (L:Pool) (S:List Way) (t:Int):Int×Int×Bool×Bool :=
 if inP L t=false then (0,0,false,false)
 else if jPC (nodeOf L t).kind=true then (0,0,true,true)
 else if (nodeOf L t).kind=4 then ((nodeOf L t).a,(nodeOf L t).b,false,true)
 else if (nodeOf L t).kind=5 then ((nodeOf L t).a,0,false,true)
 else if (nodeOf L t).kind=6 then (0,0,false,false)
 else ((nodeOf L t).a,(jEX L (jJN (nodeOf L t))).1,false,(jEX L (jJN (nodeOf L t))).2 && decide ((jEX L (jJN (nodeOf L t))).1∈jAG S))
end Go.Sp
namespace Go.Proofs
open Tryz
attribute [local irreducible] Calls
theorem c_Has (p:Addr) (n:Sp.Node) (w0:World) {L:Sp.Pool} {F:NP} (hP:zS w0 p L F) (hok:Sp.Ok L) :
  Calls prog 216 #[.pointer (some p),jCZ n] w0 (fun e w'=>∃r:Int,∃ok:Bool,e=.returned (.tuple #[.int .i64 r,.bool ok])∧((match Sp.find L n with | some i=>r=(i:Int)+1∧ok=true | none=>r=0∧ok=false)∧Pure w0 w')):=by
 obtain ⟨k,f,t,u,x,a,b⟩:=n
 generalize hn:(⟨k,f,t,u,x,a,b⟩:Sp.Node)=n
 have hkey:(Value.agg #[.int .i64 k,.int .i64 f,.int .i64 t,.int .u64 u,.string x,.int .i64 a,.int .i64 b])=jCZ n:=by rw [← hn];rfl
 rw [← hkey]
 refine w_C3 _ _ _ _ _ _ _ _ w0 (fun r ok w'=>(match Sp.find L n with | some i=>r=(i:Int)+1∧ok=true | none=>r=0∧ok=false)∧Pure w0 w') ?_
 unfold m_C3
 intro p2 w1 h1
 have b1:=Box.of_new h1
 have E1:Pure w0 w1:=Ext.new h1
 refine Br.f rfl ?_
 rintro _ rfl
 have Ed:Pure w1 w1.drew:=Ext.drew w1
 have E2:=E1.trans Ed
 obtain ⟨s,m,hS,hF⟩:=hP.pure E2
 refine ⟨p,rfl,_,hS.box.cell (i:=1) rfl,_,_,_,_,_,_,_,(b1.pure Ed).row,?_⟩
 rw [hkey]
 rcases hS.map.lookup (P:=prog) (T:=93) (E:=23) underlying93 jAB jBL ⟨n,rfl⟩ (zeroValue23 _) true with ⟨hnot,hrun⟩ | ⟨i,v,hi,hrun⟩
 ·refine ⟨_,_,hrun,?_,E2⟩
  rw [find_none (jLD hnot)];exact ⟨rfl,rfl⟩
 ·obtain ⟨e,he,hen,rfl⟩:=jLE hi
  refine ⟨_,_,hrun,?_,E2⟩
  rw [← hen,jPE hok he];exact ⟨by simp,rfl⟩
section
variable (p:Addr) (w0:World) {L:Sp.Pool} {F:NP} (hP:zS w0 p L F) (hok:Sp.Ok L)
include hP hok
end
end Go.Proofs
end
section
namespace Go.Proofs
theorem jTT {i y m:Nat} (hi:i≤8) (hy:y≤127) (hb:m*128 ^ (i+1)<18446744073709551616):(y+128*m)*128 ^ i<18446744073709551616:=by
 rw [Nat.pow_succ] at hb;obtain ⟨q,hq⟩:∃q,18446744073709551616=q*(128 ^ i*128):=by
  refine ⟨2 ^ (64 - 7*(i+1)),?_⟩;rw [show 128 ^ i*128=2 ^ (7*(i+1)) by rw [Nat.pow_mul];rfl,← Nat.pow_add,show 64 - 7*(i+1)+7*(i+1)=64 by omega]
 have hp:0<128 ^ i:=Nat.pow_pos (by omega);generalize 128 ^ i=P at *;rw [hq] at hb ⊢;have hm:m<q:=Nat.lt_of_mul_lt_mul_right hb;have h1:(y+128*m)*P<128*(m+1)*P:=Nat.mul_lt_mul_of_pos_right (by omega) hp;have h2:128*(m+1)*P≤128*q*P:=Nat.mul_le_mul_right _ (Nat.mul_le_mul_left _ hm);have h3:q*(P*128)=128*q*P:=by rw [Nat.mul_comm P,← Nat.mul_assoc,Nat.mul_comm q]
 omega
theorem jOJ:∀(l:List UInt8) (i acc n k:Nat),i≤9→uX i acc l=.ok (n,k)→∃m c,l=vN m++c∧n=acc+m*128 ^ i∧k=i+(vN m).length∧(0<i→0<m)∧m*128 ^ i<18446744073709551616:=by
 intro l;induction l with
 | nil=>intro i acc n k _ h;simp [uX] at h
 | cons x l ih =>
  intro i acc n k hi h
  have hx:=x.toNat_lt
  have hx8:UInt8.ofNat x.toNat=x:=by simp
  rw [xX] at h
  split at h
  ·cases h
  ·rename_i h9
   split at h
   ·rename_i h128
    split at h
    ·cases h
    ·rename_i hz
     cases h
     refine ⟨x.toNat,l,by rw [uW h128,hx8];rfl,rfl,by rw [uW h128];rfl,by omega,?_⟩
     have:i=0∨i=1∨i=2∨i=3∨i=4∨i=5∨i=6∨i=7∨i=8∨i=9:=by omega
     rcases this with rfl | rfl | rfl | rfl | rfl | rfl | rfl | rfl | rfl | rfl <;> omega
   ·rename_i h128
    have hi8:i≤8:=by omega
    obtain ⟨m,c,rfl,rfl,rfl,hp,hb⟩:=ih _ _ _ _ (by omega) h
    have hp:=hp (by omega)
    have hxm:0<x.toNat % 128+128*m:=by omega
    have e:x.toNat % 128+128*m=x.toNat % 128+128*m:=rfl
    refine ⟨x.toNat % 128+128*m,c,?_,?_,?_,fun _=>hxm,?_⟩
    ·rw [tV (n:=x.toNat % 128+128*m) (by omega),List.cons_append]
     have e1:(x.toNat % 128+128*m) % 128+128=x.toNat:=by omega
     have e2:(x.toNat % 128+128*m) / 128=m:=by omega
     rw [e1,e2,hx8]
    ·rw [Nat.add_mul,Nat.pow_succ]
     have:m*(128 ^ i*128)=128*m*128 ^ i:=by rw [Nat.mul_comm (128 ^ i),← Nat.mul_assoc,Nat.mul_comm m]
     omega
    ·rw [tV (n:=x.toNat % 128+128*m) (by omega),List.length_cons]
     have e2:(x.toNat % 128+128*m) / 128=m:=by omega
     rw [e2];omega
    ·exact jTT hi8 (by omega) hb
theorem jHR {l:List UInt8} {n k:Nat} (h:uX 0 0 l=.ok (n,k)):∃c,l=vN n++c∧k=(vN n).length∧n<18446744073709551616:=by
 obtain ⟨m,c,h1,h2,h3,_,h5⟩:=jOJ l 0 0 n k (by omega) h;simp at h2 h3 h5;subst h2;exact ⟨c,h1,h3,h5⟩
def Fld.same (n m:Sp.Node) (na nb ma mb:Nat):Fld→Prop
 | .from_=>n.frm.toNat=m.frm.toNat | .to_=>n.to.toNat=m.to.toNat | .num=>n.num.toNat=m.num.toNat | .text=>n.text=m.text | .fst=>na=ma | .snd=>nb=mb
theorem jPB {n:Sp.Node} (h:Fld.fst∈uA n.kind):n.a∈Sp.zM n:=by
 unfold uA at h;unfold Sp.zM Sp.shapeOf
 repeat' split at h
 all_goals first | (exfalso;revert h;decide) | skip
 all_goals (rename_i h1;rw [h1];simp)
theorem jNZ {n:Sp.Node} (h:Fld.snd∈uA n.kind):n.b∈Sp.zM n:=by
 unfold uA at h;unfold Sp.zM Sp.shapeOf
 repeat' split at h
 all_goals first | (exfalso;revert h;decide) | skip
 all_goals (rename_i h1;rw [h1];simp)
theorem jMP {L:Sp.Pool} (hW:Sp.Wf L) {s t:Int} (hs:Sp.inP L s=true) (ht:Sp.inP L t=true) (h:Sp.nodeOf L s=Sp.nodeOf L t):s=t:=by
 obtain ⟨i,hi,rfl⟩:=Sp.jBR hs;obtain ⟨j,hj,rfl⟩:=Sp.jBR ht;rw [Sp.qS hi,Sp.qS hj] at h;have:=hW.ok.nodup;have e:i=j:=by
  refine (List.getElem_inj (h₀:=by simpa using hi) (h₁:=by simpa using hj) this).1 ?_;simpa using h
 rw [e]
def OrdF (L:Sp.Pool):List Int→List Int→Prop
 | _,[]=>True
 | seen,z :: l=>(∀k∈Sp.zM (Sp.nodeOf L z),k∈seen)∧OrdF L (seen++[z]) l
theorem jTU {L:Sp.Pool}:∀(l seen:List Int),(∀pre z post,l=pre++z :: post→∀k∈Sp.zM (Sp.nodeOf L z),k∈seen++pre)→OrdF L seen l:=by
 intro l;induction l with
 | nil=>intro _ _;trivial
 | cons z l ih =>
  intro seen h
  refine ⟨fun k hk=>by simpa using h [] z l rfl k hk,ih _ (fun pre y post e k hk=>?_)⟩
  have:=h (z :: pre) y post (by rw [e];rfl) k hk
  simpa using this
theorem jOP {L:Sp.Pool} (hW:Sp.Wf L) (t:Int):OrdF L [] (Sp.subs L t):=jTU _ _ (fun pre z post e k hk=>by rw [List.nil_append];exact Sp.jGB hW t pre z post e k hk)
theorem jNW {L:Sp.Pool} (hW:Sp.Wf L) {t u:Int} (h:u∈Sp.subs L t):Sp.inP L u=true:=have h:=(Sp.jDD hW).1 h;(Sp.Sub.le hW h.1 h.2).1
theorem jKV {L:Sp.Pool} (hW:Sp.Wf L) {t:Int} (h:Sp.inP L t=true):t∈Sp.subs L t:=(Sp.jDD hW).2 ⟨h,.refl _⟩
end Go.Proofs
end
section
namespace Go.Sp
theorem jDG {α β γ δ:Type} {f:α→γ} {g:β→γ} {f':α→δ} {g':β→δ}:∀{K1:List α} {K2:List β},K1.map f=K2.map g→(∀a∈K1,∀b∈K2,f a=g b→f' a=g' b)→K1.map f'=K2.map g':=by
 intro K1;induction K1 with
 | nil=>intro K2 h _;cases K2 with
  | nil=>rfl
  | cons b K2=>simp at h
 | cons a K1 ih=>intro K2 h hh;cases K2 with
  | nil=>simp at h
  | cons b K2 =>
   simp only [List.map_cons,List.cons.injEq] at h ⊢
   exact ⟨hh a (by simp) b (by simp) h.1,ih h.2 (fun x hx y hy=>hh x (List.mem_cons_of_mem _ hx) y (List.mem_cons_of_mem _ hy))⟩
theorem jDQ {L M:Pool} (hL:Wf L) (hM:Wf M) {s t:Int} (hs:inP L s=true) (ht:inP M t=true) (h:zU L s=zU M t) :
  (nodeOf L s).kind=(nodeOf M t).kind∧(nodeOf L s).frm=(nodeOf M t).frm∧(nodeOf L s).to=(nodeOf M t).to∧(nodeOf L s).num=(nodeOf M t).num∧(nodeOf L s).text=(nodeOf M t).text∧(zM (nodeOf L s)).map (zU L)=(zM (nodeOf M t)).map (zU M):=by
 rw [yJ hL hs,yJ hM ht] at h
 simpa using h
theorem jNV {L M:Pool} (hL:Wf L) (hM:Wf M):∀(n:Nat) (s t:Int),s.toNat=n→inP L s=true→inP M t=true→zU L s=zU M t→sizeOf L s=sizeOf M t∧depthOf L s=depthOf M t:=by
 intro n;induction n using Nat.strongRecOn with
 | _ n ih =>
 intro s t hn hs ht h;have hk:=(jDQ hL hM hs ht h).2.2.2.2.2;obtain ⟨_,_,_,_,c1,c2,c3⟩:=hL.node hs;obtain ⟨_,_,_,_,d1,d2,d3⟩:=hM.node ht;have key:∀a∈zM (nodeOf L s),∀b∈zM (nodeOf M t),zU L a=zU M b→sizeOf L a=sizeOf M b∧depthOf L a=depthOf M b:=fun a ha b hb e=>by
  have:=vB.1 (c1 a ha).1;exact ih a.toNat (by have:=(c1 a ha).2;omega) a b rfl (c1 a ha).1 (d1 b hb).1 e
 refine ⟨?_,?_⟩
 ·rw [c2,d2,jDG hk (fun a ha b hb e=>(key a ha b hb e).1)]
 ·have e:=jDG hk (fun a ha b hb e=>(key a ha b hb e).2);rw [c3,d3];have f1:∀(l:List Int) (P:Pool),l.foldl (fun d k=>max d (depthOf P k)) 0=(l.map (depthOf P)).foldl max 0:=fun l P=>by rw [List.foldl_map]
  rw [f1,f1,e]
theorem jTX {L:Pool} (hL:Wf L):∀{K1 K2:List Int},(∀k∈K1,inP L k=true)→(∀k∈K2,inP L k=true)→K1.map (zU L)=K2.map (zU L)→K1=K2:=by
 intro K1;induction K1 with
 | nil=>intro K2 _ _ h;cases K2 with
  | nil=>rfl
  | cons b K2=>simp at h
 | cons a K1 ih=>intro K2 h1 h2 h;cases K2 with
  | nil=>simp at h
  | cons b K2 =>
   simp only [List.map_cons,List.cons.injEq] at h
   rw [jCA hL _ a b rfl (h1 a (by simp)) (h2 b (by simp)) h.1,ih (fun k hk=>h1 k (List.mem_cons_of_mem _ hk)) (fun k hk=>h2 k (List.mem_cons_of_mem _ hk)) h.2]
structure Ren (L q:Pool) (z:Int) (n:Node):Prop where
 kind:n.kind=(nodeOf L z).kind
 frm:n.frm=(nodeOf L z).frm
 to:n.to=(nodeOf L z).to
 num:n.num=(nodeOf L z).num
 text:n.text=(nodeOf L z).text
 kin:∀k∈zM n,inP q k=true
 kids:(zM n).map (zU q)=(zM (nodeOf L z)).map (zU L)
 a0:(shapeOf n.kind).kids<1→n.a=0
 b0:(shapeOf n.kind).kids<2→n.b=0
theorem jOX {n m:Node} (hk:n.kind=m.kind) (h:zM n=zM m) (a1:(shapeOf n.kind).kids<1→n.a=0) (b1:(shapeOf n.kind).kids<2→n.b=0) (a2:(shapeOf m.kind).kids<1→m.a=0) (b2:(shapeOf m.kind).kids<2→m.b=0):n.a=m.a∧n.b=m.b:=by
 unfold zM at h;rw [← hk] at h a2 b2;rcases qX n.kind with e | e | e
 ·exact ⟨by rw [a1 (by omega),a2 (by omega)],by rw [b1 (by omega),b2 (by omega)]⟩
 ·rw [e] at h;simp at h;exact ⟨h,by rw [b1 (by omega),b2 (by omega)]⟩
 ·rw [e] at h;simpa using h
section
variable {L q:Pool} (hL:Wf L) (hq:Wf q) {z:Int} (hz:inP L z=true) {n:Node} (h:Ren L q z n)
include hL hq hz h
theorem Ren.check:check q n=(sizeOf L z,depthOf L z,0):=by
 obtain ⟨p1,p2,p3,p4,p5,p6,p7⟩:=hL.node hz;have e1:vG n=0:=by
  have:vG n=vG (nodeOf L z):=by unfold vG;rw [h.kind,h.frm,h.to,h.num,h.text]
  rw [this,p1]
 have e2:zZ (shapeOf n.kind) n=0:=by
  have:zZ (shapeOf n.kind) n=zZ (shapeOf (nodeOf L z).kind) (nodeOf L z):=by unfold zZ;rw [h.kind,h.frm,h.to,h.text]
  rw [this,p4]
 have key:∀a∈zM n,∀b∈zM (nodeOf L z),zU q a=zU L b→sizeOf q a=sizeOf L b∧depthOf q a=depthOf L b:=fun a ha b hb e=>jNV hq hL _ a b rfl (h.kin a ha) (p5 b hb).1 e;have e3:=jDG h.kids (fun a ha b hb e=>(key a ha b hb e).1);have e4:=jDG h.kids (fun a ha b hb e=>(key a ha b hb e).2);have f1:∀(l:List Int) (P:Pool),l.foldl (fun d k=>max d (depthOf P k)) 0=(l.map (depthOf P)).foldl max 0:=fun l P=>by rw [List.foldl_map]
 have s1:1+((zM n).map (sizeOf q)).sum=sizeOf L z:=by rw [e3,p6]
 have s2:(zM n).foldl (fun d k=>max d (depthOf q k)) 0+1=depthOf L z:=by rw [f1,e4,← f1,p7]
 have b1:=hL.ok.sizeOf z;have b2:=hL.ok.depthOf z;unfold Sp.check;simp only;rw [if_neg (by simpa using e1),if_neg,if_neg (by simpa using e2),if_neg,s1,s2,if_neg (by omega)]
 ·simp only [List.any_eq_true,not_exists,not_and];intro k hk;rw [h.kin k hk];decide
 ·have a0:=h.a0;have b0:=h.b0;simp only [Bool.or_eq_true,Bool.and_eq_true,decide_eq_true_eq,bne_iff_ne,ne_eq,not_or,not_and,Decidable.not_not];exact ⟨a0,b0⟩
omit hq in
theorem Ren.tree {v:Int} {M:Pool} (hM:Wf M) (hv:inP M v=true) (hn:nodeOf M v=n) (hk:∀k∈zM n,zU M k=zU q k):zU M v=zU L z:=by
 rw [yJ hM hv,yJ hL hz,hn,h.kind,h.frm,h.to,h.num,h.text,← h.kids];congr 1;exact List.map_congr_left hk
theorem Ren.node {v:Int} (hv:inP q v=true) (ht:zU q v=zU L z):nodeOf q v=n:=by
 obtain ⟨k1,k2,k3,k4,k5,k6⟩:=jDQ hq hL hv hz ht;obtain ⟨_,c2,c3,_,c5,_⟩:=hq.node hv;have hkk:=jTX hq (fun k hk=>(c5 k hk).1) h.kin (k6.trans h.kids.symm);obtain ⟨ea,eb⟩:=jOX (k1.trans h.kind.symm) hkk c2 c3 h.a0 h.b0;have g1:=h.kind;have g2:=h.frm;have g3:=h.to;have g4:=h.num;have g5:=h.text;generalize nodeOf q v=m at *;generalize nodeOf L z=o at *;cases m;cases n;simp_all
theorem Ren.find_none (hn:∀v,inP q v=true→zU q v≠zU L z):find q n=none:=by
 cases hf:find q n with
 | none=>rfl
 | some i =>
  exfalso
  obtain ⟨hi,e⟩:=jEM hf
  have hv:inP q ((i:Int)+1)=true:=vB.2 ⟨by omega,by omega⟩
  exact hn _ hv (h.tree hL hz hq hv (by rw [qS hi,e]) (fun _ _=>rfl))
theorem Ren.find_old {v:Int} (hv:inP q v=true) (ht:zU q v=zU L z):find q n=some (v - 1).toNat:=by
 have hn:=h.node hL hq hz hv ht;cases hf:find q n with
 | none =>
  exfalso
  unfold find at hf
  rw [List.findIdx?_eq_none_iff] at hf
  obtain ⟨i,hi,rfl⟩:=jBR hv
  rw [qS hi] at hn
  have:=hf q[i] (List.getElem_mem hi)
  simp at this;exact this hn
 | some i =>
  obtain ⟨hi,e⟩:=jEM hf
  have hv2:inP q ((i:Int)+1)=true:=vB.2 ⟨by omega,by omega⟩
  have:=Go.Proofs.jMP hq hv2 hv (by rw [qS hi,e,hn])
  rw [← this];simp
theorem Ren.make_old {v:Int} (hv:inP q v=true) (ht:zU q v=zU L z):make q n=(v,0,q):=by
 have hc:=h.check hL hq hz;have hf:=h.find_old hL hq hz hv ht;have h1:=(vB.1 hv).1;unfold make;simp only [hc,hf];rw [if_neg (by simp)];simp only [Prod.mk.injEq,and_true];omega
theorem Ren.make_new (hn:∀v,inP q v=true→zU q v≠zU L z) (hl:q.length<65536):make q n=((q.length:Int)+1,0,q++[⟨n,sizeOf L z,depthOf L z⟩]):=by
 have hc:=h.check hL hq hz;have hf:=h.find_none hL hq hz hn;unfold make;simp only [hc,hf];rw [if_neg (by simp),if_neg (by omega)]
theorem Ren.make_full (hl:¬ q.length<65536) (hn:∀v,inP q v=true→zU q v≠zU L z):make q n=(0,6,q):=by
 have hc:=h.check hL hq hz;have hf:=h.find_none hL hq hz hn;unfold make;simp only [hc,hf];rw [if_neg (by simp),if_pos (by omega)]
theorem Ren.made (h0:(make q n).2.1=0):Wf (make q n).2.2∧inP (make q n).2.2 (make q n).1=true∧zU (make q n).2.2 (make q n).1=zU L z∧∀v,inP q v=true→inP (make q n).2.2 v=true∧zU (make q n).2.2 v=zU q v:=by
 have hw:=jEG hq n;obtain ⟨M,e⟩:=jDH q n;obtain ⟨m1,m2,_⟩:=jBN h0;have hold:∀v,inP q v=true→inP (make q n).2.2 v=true∧zU (make q n).2.2 v=zU q v:=fun v hv=>by
  rw [e] at hw ⊢;exact ⟨jGL hv,jFF hw _ v rfl hv⟩
 exact ⟨hw,m1,h.tree hL hz hw m1 m2 (fun k hk=>(hold k (h.kin k hk)).2),hold⟩
theorem Ren.err:(make q n).2.1=0∨(make q n).2.1=6∧65536≤q.length∧∀v,inP q v=true→zU q v≠zU L z:=by
 by_cases hx:∃v,inP q v=true∧zU q v=zU L z
 ·obtain ⟨v,hv,ht⟩:=hx;rw [h.make_old hL hq hz hv ht];exact .inl rfl
 ·have hx:∀v,inP q v=true→zU q v≠zU L z:=fun v hv e=>hx ⟨v,hv,e⟩;by_cases hl:q.length<65536
  ·rw [h.make_new hL hq hz hx hl];exact .inl rfl
  ·rw [h.make_full hL hq hz hl hx];exact .inr ⟨rfl,by omega,hx⟩
end
end Go.Sp
end
section
namespace Go.Sp
open Go.Proofs
structure Cp (Lq L:Pool) (own:Int→Int) (seen:List Int):Prop where
 wf:Wf L
 inn:∀s∈seen,inP Lq s=true
 at_:∀s∈seen,inP L (own s)=true∧zU L (own s)=zU Lq s
 out:∀x,x ∉ seen→own x=0
theorem jFR (n:Node) (own:Int→Int):zM { n with a:=own n.a,b:=own n.b }=(zM n).map own:=by
 unfold zM;simp only [List.map_take,List.map_cons,List.map_nil]
theorem Cp.ren {Lq L:Pool} {own:Int→Int} {seen:List Int} (h:Cp Lq L own seen) (hq:Wf Lq) {z:Int} (hz:inP Lq z=true) (hk:∀k∈zM (nodeOf Lq z),k∈seen) :
  Ren Lq L z { nodeOf Lq z with a:=own (nodeOf Lq z).a,b:=own (nodeOf Lq z).b }:=by
 obtain ⟨_,c2,c3,_⟩:=hq.node hz
 have o0:own 0=0:=h.out 0 (fun h0=>by have:=(vB.1 (h.inn 0 h0)).1;omega)
 refine ⟨rfl,rfl,rfl,rfl,rfl,?_,?_,fun e=>by simp only;rw [c2 e,o0],fun e=>by simp only;rw [c3 e,o0]⟩
 ·intro k hk2
  rw [jFR] at hk2
  obtain ⟨x,hx,rfl⟩:=List.mem_map.1 hk2
  exact (h.at_ x (hk x hx)).1
 ·rw [jFR,List.map_map]
  exact List.map_congr_left (fun x hx=>(h.at_ x (hk x hx)).2)
theorem Cp.step {Lq L:Pool} {own:Int→Int} {seen:List Int} (h:Cp Lq L own seen) (hq:Wf Lq) {z:Int} (hz:inP Lq z=true) (hk:∀k∈zM (nodeOf Lq z),k∈seen) {n:Node} (hn:Ren Lq L z n) (h0:(make L n).2.1=0) :
  Cp Lq (make L n).2.2 (fun x=>if x=z then (make L n).1 else own x) (seen++[z]):=by
 obtain ⟨m1,m2,m3,m4⟩:=hn.made hq h.wf hz h0
 refine ⟨m1,fun s hs=>?_,fun s hs=>?_,fun x hx=>?_⟩
 ·rcases List.mem_append.1 hs with hs | hs
  ·exact h.inn s hs
  ·rw [List.mem_singleton] at hs;subst hs;exact hz
 ·by_cases e:s=z
  ·subst e;simp only [if_true];exact ⟨m2,m3⟩
  ·simp only [if_neg e]
   have hs:s∈seen:=(List.mem_append.1 hs).resolve_right (fun hs=>e (List.mem_singleton.1 hs))
   obtain ⟨a1,a2⟩:=h.at_ s hs
   exact ⟨(m4 _ a1).1,(m4 _ a1).2.trans a2⟩
 ·simp only [List.mem_append,List.mem_singleton,not_or] at hx
  rw [if_neg hx.2];exact h.out x hx.1
theorem jOR (L:Pool) (n:Node):(make L n).2.2.length≤L.length+1:=by
 rcases jEH L n with e | ⟨_,e⟩ <;> rw [e] <;> simp
theorem yS (Lq:Pool) (z:Int) (l:List Int) (L:Pool) (own:Int→Int) {n:Node} (hn:{ nodeOf Lq z with a:=own (nodeOf Lq z).a,b:=own (nodeOf Lq z).b }=n) {x e:Int} {L':Pool} (hm:make L n=(x,e,L')) :
  vM Lq (z :: l) L own=if e≠0 then (L,e,own) else vM Lq l L' (fun y=>if y=z then x else own y):=by
 subst hn
 show (if (make L _).2.1≠0 then _ else _)=_
 rw [hm]
theorem jPJ {Lq:Pool} (hq:Wf Lq):∀(l seen:List Int) (L:Pool) (own:Int→Int),Cp Lq L own seen→(∀z∈l,inP Lq z=true)→OrdF Lq seen l →
  ((vM Lq l L own).2.1=0∧Cp Lq (vM Lq l L own).1 (vM Lq l L own).2.2 (seen++l))∨((vM Lq l L own).2.1=6∧¬ (L.length+l.length≤65536)):=by
 intro l
 induction l with
 | nil=>intro seen L own h _ _;exact .inl ⟨rfl,by rw [List.append_nil];exact h⟩
 | cons z l ih =>
  intro seen L own h hl ho
  have hz:=hl z (by simp)
  have hn:=h.ren hq hz ho.1
  generalize hnn:({ nodeOf Lq z with a:=own (nodeOf Lq z).a,b:=own (nodeOf Lq z).b }:Node)=n at hn
  have hf:=jOR L n
  have he:=hn.err hq h.wf hz
  have hs:=fun h0=>h.step hq hz ho.1 hn h0
  obtain ⟨x,e,L',hm⟩:∃x e L',make L n=(x,e,L'):=⟨_,_,_,rfl⟩
  rw [yS Lq z l L own hnn hm]
  rw [hm] at hf he hs
  simp only at hf he hs
  rcases he with rfl | ⟨rfl,hg,_⟩
  ·rw [if_neg (by simp)]
   rcases ih _ _ _ (hs rfl) (fun x hx=>hl x (List.mem_cons_of_mem _ hx)) ho.2 with ⟨e1,e2⟩ | ⟨e1,e2⟩
   ·exact .inl ⟨e1,by rw [List.append_assoc,List.singleton_append] at e2;exact e2⟩
   ·refine .inr ⟨e1,fun hle=>e2 ?_⟩
    rw [List.length_cons] at hle;omega
  ·rw [if_pos (by simp)]
   exact .inr ⟨rfl,by rw [List.length_cons];omega⟩
theorem Cp.start {Lq L:Pool} (hL:Wf L):Cp Lq L (fun _=>0) []:=⟨hL,fun _ h=>(by cases h),fun _ h=>(by cases h),fun _ _=>rfl⟩
theorem jPH {L Lq:Pool} (hL:Wf L) (hq:Wf Lq) (t:Int):(uE L Lq t).2.1=0∨((uE L Lq t).1=0∧(uE L Lq t).2.2=L):=by
 unfold uE;split
 ·simp only;split
  ·exact .inr ⟨rfl,rfl⟩
  ·exact .inl rfl
 ·exact .inr ⟨rfl,rfl⟩
theorem jRU {L Lq:Pool} (hL:Wf L) (hq:Wf Lq) {t:Int} (ht:inP Lq t=true) (h0:(uE L Lq t).2.1=0) :
  Wf (uE L Lq t).2.2∧inP (uE L Lq t).2.2 (uE L Lq t).1=true∧zU (uE L Lq t).2.2 (uE L Lq t).1=zU Lq t:=by
 have h:=jPJ hq (subs Lq t) [] L (fun _=>0) (Cp.start hL) (fun z hz=>jNW hq hz) (jOP hq t)
 unfold uE at *
 rw [if_pos ht] at *
 simp only at *
 split at h0
 ·rename_i h1;exact absurd h0 h1
 ·rename_i h1
  rw [if_neg h1]
  simp only
  rcases h with ⟨_,h⟩ | ⟨h6,_⟩
  ·rw [List.nil_append] at h
   have:=h.at_ t (jKV hq ht)
   exact ⟨h.wf,this.1,this.2⟩
  ·exact absurd (by rw [h6];decide) h1
theorem jFJ {L M:Pool} (hL:Wf L) (hM:Wf M) {a b:Int} (ha:inP L a=true) (hb:inP M b=true) (e:zU L a=zU M b):∀(l1 l2:List Int),(∀x∈l1,inP L x=true)→(∀x∈l2,inP M x=true)→l1.map (zU L)=l2.map (zU M)→posOf l1 a=posOf l2 b:=by
 intro l1;induction l1 with
 | nil=>intro l2 _ _ h;cases l2 with
  | nil=>rfl
  | cons y l2=>simp at h
 | cons x l1 ih=>intro l2 h1 h2 h;cases l2 with
  | nil=>simp at h
  | cons y l2 =>
   simp only [List.map_cons,List.cons.injEq] at h
   have hi:=ih l2 (fun k hk=>h1 k (List.mem_cons_of_mem _ hk)) (fun k hk=>h2 k (List.mem_cons_of_mem _ hk)) h.2
   have hxy:(x == a)=(y == b):=by
    by_cases ex:x=a
    ·have:y=b:=jCA hM _ y b rfl (h2 y (by simp)) hb (by rw [← h.1,ex,e]);simp [ex,this]
    ·have:y≠b:=fun ey=>ex (jCA hL _ x a rfl (h1 x (by simp)) ha (by rw [h.1,ey,e]));rw [beq_false_of_ne ex,beq_false_of_ne this]
   unfold posOf at *
   rw [List.idxOf_cons,List.idxOf_cons,hxy,hi]
theorem jGA {L M:Pool} (hL:Wf L) (hM:Wf M):∀(l1 l2 s1 s2:List Int),(∀x∈l1,inP L x=true)→(∀x∈l2,inP M x=true)→(∀x∈s1,inP L x=true)→(∀x∈s2,inP M x=true)→l1.map (zU L)=l2.map (zU M)→s1.map (zU L)=s2.map (zU M)→textFrom L s1 l1=textFrom M s2 l2:=by
 intro l1;induction l1 with
 | nil=>intro l2 s1 s2 _ _ _ _ h _;cases l2 with
  | nil=>rfl
  | cons y l2=>simp at h
 | cons x l1 ih=>intro l2 s1 s2 h1 h2 h3 h4 h h5;cases l2 with
  | nil=>simp at h
  | cons y l2 =>
   simp only [List.map_cons,List.cons.injEq] at h
   have hx:=h1 x (by simp)
   have hy:=h2 y (by simp)
   obtain ⟨k1,k2,k3,k4,k5,k6⟩:=jDQ hL hM hx hy h.1
   obtain ⟨_,_,_,_,c5,_⟩:=hL.node hx
   obtain ⟨_,_,_,_,d5,_⟩:=hM.node hy
   have hi:=ih l2 (s1++[x]) (s2++[y]) (fun k hk=>h1 k (List.mem_cons_of_mem _ hk)) (fun k hk=>h2 k (List.mem_cons_of_mem _ hk))
    (fun k hk=>by rcases List.mem_append.1 hk with hk | hk;exact h3 k hk;rw [List.mem_singleton] at hk;subst hk;exact hx)
    (fun k hk=>by rcases List.mem_append.1 hk with hk | hk;exact h4 k hk;rw [List.mem_singleton] at hk;subst hk;exact hy) h.2 (by simp [h5,h.1])
   rw [textFrom,textFrom,hi]
   congr 1
   unfold yY
   rw [k1]
   congr 1
   have hf:∀f∈uA (nodeOf M y).kind,f.bytes (nodeOf L x) (posOf s1 (nodeOf L x).a) (posOf s1 (nodeOf L x).b)=f.bytes (nodeOf M y) (posOf s2 (nodeOf M y).a) (posOf s2 (nodeOf M y).b):=by
    intro f hf;have hk1:Fld.fst∈uA (nodeOf M y).kind→posOf s1 (nodeOf L x).a=posOf s2 (nodeOf M y).a:=fun hf=>by
     have m1:=jPB (n:=nodeOf L x) (by rw [k1];exact hf);have m2:=jPB hf;refine jFJ hL hM (c5 _ m1).1 (d5 _ m2).1 ?_ s1 s2 h3 h4 h5;unfold zM at k6 m1;rw [k1] at k6 m1;rcases qX (nodeOf M y).kind with e | e | e <;> rw [e] at k6 m1 <;> simp at k6 m1
     ·exact k6
     ·exact k6.1
    have hk2:Fld.snd∈uA (nodeOf M y).kind→posOf s1 (nodeOf L x).b=posOf s2 (nodeOf M y).b:=fun hf=>by
     have m1:=jNZ (n:=nodeOf L x) (by rw [k1];exact hf);have m2:=jNZ hf;have e:(shapeOf (nodeOf M y).kind).kids=2:=by
      unfold uA at hf
      repeat' split at hf
      all_goals first | (exfalso;revert hf;decide) | skip
      all_goals (rename_i h4;rw [h4];rfl)
     refine jFJ hL hM (c5 _ m1).1 (d5 _ m2).1 ?_ s1 s2 h3 h4 h5;unfold zM at k6;rw [k1,e] at k6;simp at k6;exact k6.2
    cases f
    ·simp only [Fld.bytes,k2]
    ·simp only [Fld.bytes,k3]
    ·simp only [Fld.bytes,k4]
    ·simp only [Fld.bytes,k5]
    ·simp only [Fld.bytes,hk1 hf]
    ·simp only [Fld.bytes,hk2 hf]
   have cg:∀(fs:List Fld) (g1 g2:Fld→List UInt8),(∀f∈fs,g1 f=g2 f)→fs.flatMap g1=fs.flatMap g2:=by
    intro fs g1 g2;induction fs with
    | nil=>intro _;rfl
    | cons f fs ihf=>intro hh;rw [List.flatMap_cons,List.flatMap_cons,hh f (by simp),ihf (fun x hx=>hh x (List.mem_cons_of_mem _ hx))]
   exact cg _ _ _ hf
def jEC:Nat→List Int
 | 0=>[]
 | n+1=>jEC n++[(n:Int)+1]
theorem jDF (n:Nat):(jEC n).length=n:=by induction n with
 | zero=>rfl
 | succ n ih=>simp [jEC,ih]
theorem jGG {n:Nat} {x:Int}:x∈jEC n↔1≤x∧x≤n:=by
 induction n with
 | zero=>simp [jEC];omega
 | succ n ih=>simp only [jEC,List.mem_append,ih,List.mem_singleton];omega
theorem jLG {n:Nat}:∀{x:Int},1≤x→x≤n→posOf (jEC n) x=(x - 1).toNat:=by
 induction n with
 | zero=>intro x h1 h2;omega
 | succ n ih =>
  intro x h1 h2
  rw [jEC]
  by_cases h:x≤n
  ·rw [jHU (jGG.2 ⟨h1,h⟩),ih h1 h]
  ·have:x=(n:Int)+1:=by omega
   subst this
   rw [jHT (by rw [jGG];omega),jDF];omega
theorem jRC {n:Nat} {j:Nat} (h:j<(jEC n).length):(jEC n)[j]=(j:Int)+1:=by
 induction n with
 | zero=>simp [jEC] at h
 | succ n ih =>
  simp only [jEC]
  rw [List.getElem_append]
  split
  ·exact ih _
  ·rename_i h1
   have:j=n:=by rw [jDF] at h h1;omega
   subst this;simp
def _root_.Go.Proofs.Fld.said (x:Raw):Fld→List UInt8
 | .from_=>vN x.frm | .to_=>vN x.to | .num=>vN x.num | .text=>qH ⟨x.text.toArray⟩ | .fst=>vN x.a | .snd=>vN x.b
theorem jOK:∀{l:List UInt8} {i n x:Nat},uX i n l=.error x→x≠0:=by
 intro l;induction l with
 | nil=>intro i n x h;simp [uX] at h;omega
 | cons c l ih =>
  intro i n x h
  rw [xX] at h
  split at h
  ·cases h;decide
  ·split at h
   ·split at h
    ·cases h;decide
    ·cases h
   ·exact ih h
theorem yO {bs:List UInt8} {r:Rd} (h:(qM bs r).2.err=0):r.err=0∧bs.drop r.at_=vN (qM bs r).1++bs.drop (qM bs r).2.at_∧(qM bs r).1<18446744073709551616:=by
 unfold qM at h ⊢;by_cases he:r.err=0
 ·rw [if_pos he] at h ⊢;cases hr:uX 0 0 (bs.drop r.at_) with
  | error x =>
   rw [hr] at h
   simp only at h
   exact absurd h (jOK hr)
  | ok p =>
   obtain ⟨n,k⟩:=p
   obtain ⟨c,h1,h2,h3⟩:=jHR hr
   refine ⟨he,?_,h3⟩
   simp only
   rw [← List.drop_drop,h1,h2,List.drop_left]
 ·rw [if_neg he] at h;exact absurd h he
theorem jOL {bs:List UInt8} {r:Rd} (h:(qQ bs 64 r).2.err=0):r.err=0∧bs.drop r.at_=qH ⟨(qQ bs 64 r).1.toArray⟩++bs.drop (qQ bs 64 r).2.at_:=by
 have hn:=@yO bs r;unfold qM at hn;unfold qQ at h ⊢;by_cases he:r.err=0
 ·rw [if_pos he] at h hn ⊢;cases hr:uX 0 0 (bs.drop r.at_) with
  | error x =>
   rw [hr] at h hn
   simp only at h hn
   exact absurd (hn h).2.1 (by
    have:=(hn h).2.1;intro _;have hl:=congrArg List.length this;rw [List.length_append,uW (by omega)] at hl;simp at hl)
  | ok p =>
   obtain ⟨n,k⟩:=p
   rw [hr] at h hn
   simp only at h hn ⊢
   obtain ⟨c,h1,h2,h3⟩:=jHR hr
   split at h
   ·simp at h
   ·rename_i h64
    rw [if_neg h64]
    split at h
    ·simp at h
    ·rename_i hlen
     rw [if_neg hlen]
     refine ⟨he,?_⟩
     simp only
     have hd:bs.drop (r.at_+k)=c:=by rw [← List.drop_drop,h1,h2,List.drop_left]
     have hcl:n≤c.length:=by rw [← hd,List.length_drop];omega
     have hs:(ByteArray.mk (c.take n).toArray).size=n:=by show (c.take n).toArray.size=n;simp;omega
     have hd2:bs.drop (r.at_+k+n)=c.drop n:=by rw [← List.drop_drop,hd]
     rw [hd,hd2]
     unfold qH
     rw [hs,h1,List.append_assoc]
     congr 1
     simp
 ·rw [if_neg he] at h;exact absurd h he
theorem jUD {bs:List UInt8} {r:Rd} {x:Raw} (f:Fld) (h:(f.rd bs r).err=0):r.err=0∧bs.drop r.at_=f.said (f.raw bs r x)++bs.drop (f.rd bs r).at_:=by
 cases f
 ·exact ⟨(yO h).1,(yO h).2.1⟩
 ·exact ⟨(yO h).1,(yO h).2.1⟩
 ·exact ⟨(yO h).1,(yO h).2.1⟩
 ·exact jOL h
 ·exact ⟨(yO h).1,(yO h).2.1⟩
 ·exact ⟨(yO h).1,(yO h).2.1⟩
theorem jOC {bs:List UInt8} {r:Rd} {x:Raw} {f g:Fld} (h:f≠g):f.said (g.raw bs r x)=f.said x:=by
 cases f <;> cases g <;> first | rfl | exact absurd rfl h
theorem jJW {bs:List UInt8} {f:Fld}:∀(fs:List Fld) (x:Raw) (r:Rd),f ∉ fs→f.said (qD bs fs (x,r)).1=f.said x:=by
 intro fs;induction fs with
 | nil=>intro x r _;rfl
 | cons g fs ih =>
  intro x r h
  simp only [List.mem_cons,not_or] at h
  rw [qD,ih _ _ h.2,jOC h.1]
theorem jML {bs:List UInt8}:∀(fs:List Fld) (x:Raw) (r:Rd),fs.Nodup→(qD bs fs (x,r)).2.err=0→r.err=0∧bs.drop r.at_=fs.flatMap (fun f=>f.said (qD bs fs (x,r)).1)++bs.drop (qD bs fs (x,r)).2.at_:=by
 intro fs;induction fs with
 | nil=>intro x r _ h;exact ⟨h,rfl⟩
 | cons f fs ih =>
  intro x r hn h
  rw [qD] at h ⊢
  rw [List.nodup_cons] at hn
  obtain ⟨h1,h2⟩:=ih _ _ hn.2 h
  obtain ⟨h3,h4⟩:=jUD (x:=x) f h1
  refine ⟨h3,?_⟩
  rw [List.flatMap_cons,h4,h2,jJW fs _ _ hn.1,List.append_assoc]
theorem jMY (k:Int):(uA k).Nodup:=by
 unfold uA;repeat' split
 all_goals decide
theorem jTW {bs:List UInt8}:∀(fs:List Fld) (x:Raw) (r:Rd),(x.num<18446744073709551616)→(qD bs fs (x,r)).1.num<18446744073709551616:=by
 intro fs;induction fs with
 | nil=>intro x r h;exact h
 | cons f fs ih =>
  intro x r h
  rw [qD]
  refine ih _ _ ?_
  cases f <;> try exact h
  simp only [Fld.raw]
  by_cases he:(qM bs r).2.err=0
  ·exact (yO he).2.2
  ·unfold qM at he ⊢
   split
   ·rename_i h1
    rw [if_pos h1] at he
    split
    ·rename_i hk
     rw [hk] at he
     exact absurd rfl he
    ·simp
   ·simp
theorem jIF {bs:List UInt8} {k:Int} (h1:1≤k) (h9:k≤9) (r:Rd):(qD bs (uA k) (jAS,r)).1.kids=(shapeOf k).kids.toNat∧(Fld.fst∈uA k↔0<(shapeOf k).kids)∧(Fld.snd∈uA k↔1<(shapeOf k).kids):=by
 have:k=1∨k=2∨k=3∨k=4∨k=5∨k=6∨k=7∨k=8∨k=9:=by omega
 rcases this with rfl | rfl | rfl | rfl | rfl | rfl | rfl | rfl | rfl <;> simp [uA,qD,Fld.raw,jAS,shapeOf]
theorem jMK {bs:List UInt8} {q:Pool} {r:Rd} (hW:Wf q) (hN:tO q) (hl:r.at_<bs.length) (he:r.err=0) (h0:(vT bs q r).2.1=0) :
  Wf (vT bs q r).1∧tO (vT bs q r).1∧(vT bs q r).1.length=q.length+1∧(∀v,inP q v=true→inP (vT bs q r).1 v=true∧zU (vT bs q r).1 v=zU q v) ∧
  bs.drop r.at_=yY (vT bs q r).1 (jEC q.length) ((q.length:Int)+1)++bs.drop (vT bs q r).2.2.at_:=by
 rw [jBJ bs q r hl he] at h0 ⊢
 have hcons:bs.drop r.at_=bs[r.at_] :: bs.drop (r.at_+1):=List.drop_eq_getElem_cons hl
 have hb8:UInt8.ofNat bs[r.at_].toNat=bs[r.at_]:=by simp
 generalize bs[r.at_]=c at *
 split at h0
 ·rename_i hk
  rw [if_pos hk]
  have hk1:1≤c.toNat∧c.toNat≤9:=by unfold jCH at hk;simpa using hk
  have hfl:=@jML bs (uA c.toNat) jAS ⟨r.at_+1,0,r.spot⟩ (jMY _)
  have hnum:=@jTW bs (uA c.toNat) jAS ⟨r.at_+1,0,r.spot⟩ (by decide)
  obtain ⟨hkd,hk2,hk3⟩:=@jIF bs (c.toNat:Int) (by omega) (by omega) ⟨r.at_+1,0,r.spot⟩
  generalize qD bs (uA c.toNat) (jAS,⟨r.at_+1,0,r.spot⟩)=s at *
  obtain ⟨x,r'⟩:=s
  simp only at *
  obtain ⟨e1,e2,e3,e4,e5⟩:=jEB h0
  simp only at e1 e2 e3 e4 e5
  rw [e5]
  simp only
  obtain ⟨_,hfl⟩:=hfl e1
  obtain ⟨m1,m2,m3⟩:=jBN e4
  have hw:=jEG hW (x.node c.toNat)
  have hnn:tO (make q (x.node c.toNat)).2.2:=hN.make (by simp only [Raw.node,uJ];omega)
  have hmk:(make q (x.node c.toNat)).1=(q.length:Int)+1∧(make q (x.node c.toNat)).2.2.length=q.length+1:=by
   have hc:=m3;unfold make at e4 ⊢;simp only [e3] at e4 ⊢;rw [if_neg (by rw [hc];simp)] at e4 ⊢;split at e4
   ·simp at e4
   ·rename_i hf;rw [if_neg hf];exact ⟨rfl,by simp⟩
  obtain ⟨M,eM⟩:=jDH q (x.node c.toNat)
  refine ⟨hw,hnn,hmk.2,fun v hv=>?_,?_⟩
  ·rw [eM] at hw ⊢;exact ⟨jGL hv,jFF hw _ v rfl hv⟩
  ·rw [hmk.1] at m2
   rw [hcons,hfl]
   unfold yY
   rw [m2]
   have hkk:(x.node c.toNat).kind=c.toNat:=rfl
   rw [hkk,Int.toNat_natCast,hb8,List.cons_append]
   congr 1
   congr 1
   have hne:nodeErr c.toNat q.length x r'.err=0:=e2
   unfold nodeErr at hne
   rw [if_neg (by omega)] at hne
   split at hne
   ·simp at hne
   ·split at hne
    ·simp at hne
    ·rename_i href
     have cg:∀(fs:List Fld) (g1 g2:Fld→List UInt8),(∀f∈fs,g1 f=g2 f)→fs.flatMap g1=fs.flatMap g2:=by
      intro fs g1 g2;induction fs with
      | nil=>intro _;rfl
      | cons f fs ihf=>intro hh;rw [List.flatMap_cons,List.flatMap_cons,hh f (by simp),ihf (fun x hx=>hh x (List.mem_cons_of_mem _ hx))]
     refine cg _ _ _ (fun f hf=>?_)
     cases f
     ·simp [Fld.said,Fld.bytes,Raw.node]
     ·simp [Fld.said,Fld.bytes,Raw.node]
     ·simp [Fld.said,Fld.bytes,Raw.node]
     ·simp [Fld.said,Fld.bytes,Raw.node]
     ·have h2:=hk2.1 hf
      have hx:0<x.kids:=by omega
      have ha:x.a<q.length:=by omega
      simp only [Fld.said,Fld.bytes,Raw.node,if_pos hx]
      rw [jLG (by omega) (by omega)]
      congr 1;omega
     ·have h2:=hk3.1 hf
      have hx:1<x.kids:=by omega
      have ha:x.b<q.length:=by omega
      simp only [Fld.said,Fld.bytes,Raw.node,if_pos hx]
      rw [jLG (by omega) (by omega)]
      congr 1;omega
 ·simp at h0
theorem jQU {bs:List UInt8}:∀(fuel:Nat) (q:Pool) (r:Rd) (ps:List Nat) (q':Pool),Wf q→tO q→ps.length=q.length→r.err=0→r.at_≤bs.length→bs.length - r.at_≤fuel→bs.take r.at_=textFrom q [] (jEC q.length)→(jJU bs fuel q r ps).1=some q' →
  Wf q'∧tO q'∧q.length≤q'.length∧bs=textFrom q' [] (jEC q'.length)∧q'.length≤inRow 0 (subs q' q'.length):=by
 have hend:∀(q:Pool) (ps:List Nat) (q':Pool),ps.length=q.length→(jCY q ps).1=some q'→q=q'∧q.length≤inRow 0 (subs q q.length):=by
  intro q ps q' hp h;unfold jCY at h;simp only at h;split at h
  ·cases h
  ·cases h;exact ⟨rfl,by omega⟩
 intro fuel
 induction fuel with
 | zero =>
  intro q r ps q' hW hN hp he hat hf ht h
  obtain ⟨rfl,h2⟩:=hend q ps q' hp h
  rw [List.take_of_length_le (by omega)] at ht
  exact ⟨hW,hN,Nat.le_refl _,ht,h2⟩
 | succ fuel ih =>
  intro q r ps q' hW hN hp he hat hf ht h
  by_cases hl:r.at_<bs.length
  ·rw [jJU,if_pos hl] at h
   by_cases h0:(vT bs q r).2.1=0
   ·rw [if_neg (by simpa using h0)] at h
    obtain ⟨s1,s2,s3,s4,s5⟩:=jMK hW hN hl he h0
    obtain ⟨a1,a2,a3⟩:=jHQ bs q r hl he h0
    have htake:bs.take (vT bs q r).2.2.at_=textFrom (vT bs q r).1 [] (jEC (vT bs q r).1.length):=by
     have hold:∀z∈jEC q.length,inP q z=true:=fun z hz=>vB.2 (jGG.1 hz);have hsame:textFrom q [] (jEC q.length)=textFrom (vT bs q r).1 [] (jEC q.length) :=
      jGA hW s1 _ _ [] [] hold (fun z hz=>(s4 z (hold z hz)).1) (by simp) (by simp) (List.map_congr_left (fun z hz=>((s4 z (hold z hz)).2).symm)) rfl
     rw [s3,jEC,tG,List.nil_append,← hsame,← ht];have hsplit:bs.take (vT bs q r).2.2.at_=bs.take r.at_++(bs.drop r.at_).take ((vT bs q r).2.2.at_ - r.at_):=by
      rw [← List.take_add];congr 1;omega
     rw [hsplit];congr 1;have hlen:=congrArg List.length s5;rw [List.length_drop,List.length_append,List.length_drop] at hlen;rw [s5,List.take_append_of_le_length (by omega),List.take_of_length_le (by omega)]
    obtain ⟨g1,g2,g3,g4,g5⟩:=ih _ _ _ q' s1 s2 (by simp [hp,s3]) a3 a2 (by omega) htake h
    exact ⟨g1,g2,by omega,g4,g5⟩
   ·rw [if_pos h0] at h;cases h
  ·rw [jLB hl] at h
   obtain ⟨rfl,h2⟩:=hend q ps q' hp h
   rw [List.take_of_length_le (by omega)] at ht
   exact ⟨hW,hN,Nat.le_refl _,ht,h2⟩
theorem jOY:∀(l:List Int) (i m:Nat),i+m≤inRow i l→m≤l.length∧∀j (h:j<l.length),j<m→l[j]=((i+j:Nat):Int)+1:=by
 intro l;induction l with
 | nil=>intro i m h;rw [inRow] at h;exact ⟨by simp;omega,fun j h=>(by simp at h)⟩
 | cons s l ih =>
  intro i m h
  rw [inRow] at h
  split at h
  ·rename_i hs
   cases m with
   | zero=>exact ⟨by simp,fun j _ hj=>(by omega)⟩
   | succ m =>
    obtain ⟨h1,h2⟩:=ih (i+1) m (by omega)
    refine ⟨by rw [List.length_cons];omega,fun j hj hjm=>?_⟩
    cases j with
    | zero=>simp [hs]
    | succ j=>simp only [List.getElem_cons_succ];rw [h2 j (by simpa using hj) (by omega)];congr 2;omega
  ·exact ⟨by simp;omega,fun j _ hj=>by omega⟩
theorem jFI {bs:List UInt8} {q:Pool} (h:(qF bs).1=some q):Wf q∧tO q∧inP q q.length=true∧xL q q.length=bs∧bs.length≤4096:=by
 unfold qF at h;split at h
 ·cases h
 ·split at h
  ·cases h
  ·rename_i h1 h2;obtain ⟨g1,g2,_,g4,g5⟩:=jQU bs.length [] ⟨0,0,0⟩ [] q Wf.nil tO.nil rfl rfl (Nat.zero_le _) (Nat.le_refl _) (by simp [jEC,textFrom]) h;have hpos:0<q.length:=by
    rcases Nat.eq_zero_or_pos q.length with e | e
    ·rw [e,jEC,textFrom] at g4;rw [g4] at h2;simp at h2
    ·exact e
   have hin:inP q q.length=true:=vB.2 ⟨by omega,by omega⟩;obtain ⟨k1,k2⟩:=jOY (subs q q.length) 0 q.length (by omega);have hfew:=jAA g1 q.length;have hs:subs q q.length=jEC q.length:=by
    refine List.ext_getElem (by rw [jDF];omega) (fun j h1 h2=>?_);rw [k2 j h1 (by rw [jDF] at h2;exact h2),jRC];simp
   refine ⟨g1,g2,hin,?_,by omega⟩;unfold xL;rw [hs];exact g4.symm
theorem jUE {L:Pool} (h:Wf L) (bs:List UInt8):Wf (jGV L bs).2.2.2:=by
 unfold jGV;cases hq:(qF bs).1 with
 | none=>exact h
 | some q =>
  obtain ⟨g1,_,g3,_⟩:=jFI hq
  by_cases h0:(uE L q q.length).2.1=0
  ·exact (jRU h g1 g3 h0).1
  ·simp only;rw [((jPH h g1 _).resolve_left h0).2];exact h
theorem jMJ {bs:List UInt8} (h:(qF bs).1=none):(qF bs).2.1≠0:=by
 have hend:∀(q:Pool) (ps:List Nat),(jCY q ps).1=none→(jCY q ps).2.1≠0:=by
  intro q ps h;unfold jCY at h ⊢;simp only at h ⊢;split at h
  ·rename_i hh;rw [dif_pos hh];show (73:Int)≠0;decide
  ·cases h
 have hgo:∀(bs:List UInt8) (fuel:Nat) (q:Pool) (r:Rd) (ps:List Nat),(jJU bs fuel q r ps).1=none→(jJU bs fuel q r ps).2.1≠0:=by
  intro bs fuel;induction fuel with
  | zero=>intro q r ps h;exact hend _ _ h
  | succ fuel ih =>
   intro q r ps h
   rw [jJU] at h ⊢
   split at h
   ·rename_i h1
    rw [if_pos h1]
    split at h
    ·rename_i h2;rw [if_pos h2];exact h2
    ·rename_i h2;rw [if_neg h2];exact ih _ _ _ h
   ·rename_i h1;rw [if_neg h1];exact hend _ _ h
 unfold qF at h ⊢;split at h
 ·rename_i h1;rw [if_pos h1];decide
 ·rename_i h1;rw [if_neg h1];split at h
  ·rename_i h2;rw [if_pos h2];decide
  ·rename_i h2;rw [if_neg h2];exact hgo _ _ _ _ _ h
theorem jOI {bs:List UInt8} {q:Pool} (h:(qF bs).1=some q):(qF bs).2.1=0:=by
 have hend:∀(q:Pool) (ps:List Nat) (x:Pool),(jCY q ps).1=some x→(jCY q ps).2.1=0:=by
  intro q ps x h;unfold jCY at h ⊢;simp only at h ⊢;split at h
  ·cases h
  ·rename_i hh;rw [dif_neg hh]
 have hgo:∀(fuel:Nat) (q:Pool) (r:Rd) (ps:List Nat) (x:Pool),(jJU bs fuel q r ps).1=some x→(jJU bs fuel q r ps).2.1=0:=by
  intro fuel;induction fuel with
  | zero=>intro q r ps x h;exact hend _ _ _ h
  | succ fuel ih =>
   intro q r ps x h
   rw [jJU] at h ⊢
   split at h
   ·rename_i h1
    rw [if_pos h1]
    split at h
    ·cases h
    ·rename_i h2;rw [if_neg h2];exact ih _ _ _ _ h
   ·rename_i h1;rw [if_neg h1];exact hend _ _ _ h
 unfold qF at h ⊢;split at h
 ·cases h
 ·rename_i h1;rw [if_neg h1];split at h
  ·cases h
  ·rename_i h2;rw [if_neg h2];exact hgo _ _ _ _ _ h
end Go.Sp
end
section
open Go Go.SE
namespace Go.Proofs
open Tryz
attribute [local irreducible] Calls CallsD
def Raw.cells (k:Nat) (x:Raw):List Value:=[.int .i64 k,.int .i64 0,.int .i64 0,.int .u64 x.num,.string ⟨x.text.toArray⟩,.int .i64 0,.int .i64 0,.int .u64 x.frm,.int .u64 x.to,.int .u64 x.a,.int .u64 x.b,.int .i64 x.kids]
theorem jNS (bs:List UInt8) (r:Rd) (k:Nat) (x:Raw) (f:Fld):f.upd bs r (x.cells k)=(f.raw bs r x).cells k:=by cases f <;> rfl
theorem jMM (bs:List UInt8):∀(l1 l2:List Fld) (s:Raw×Rd),qD bs (l1++l2) s=qD bs l2 (qD bs l1 s):=by
 intro l1;induction l1 with
 | nil=>intro l2 s;rfl
 | cons f l1 ih=>intro l2 s;obtain ⟨x,r⟩:=s;rw [List.cons_append,qD,qD,ih]
theorem jJV (bs:List UInt8) (fs:List Fld) (j:Nat) (hj:j<fs.length) (s:Raw×Rd):qD bs (fs.take (j+1)) s=(fs[j].raw bs (qD bs (fs.take j) s).2 (qD bs (fs.take j) s).1,fs[j].rd bs (qD bs (fs.take j) s).2):=by
 rw [List.take_succ_eq_append_getElem hj,jMM];obtain ⟨x,r⟩:=qD bs (fs.take j) s;rfl
theorem jRY (f:Fld):∀args w,(callFunc f.get args).run prog w=.ok (.enter f.get args) w:=by
 cases f
 ·exact call184
 ·exact call187
 ·exact call189
 ·exact call192
 ·exact call195
 ·exact call197
structure StAt (w:World) (q a:Addr) (s:Sl) (bs:List UInt8) (L:Sp.Pool) (r:Rd) (m:Nat) (S FP F:NP):Prop where
 pool:zS w q L FP
 rd:RdS S w a s bs r
 kinds:Kinds w m F
 lS:∀b,S b→b<w.heap.size
 la:a.block<w.heap.size
 dP:∀b,FP b→b≠a.block∧¬ S b∧¬ F b∧b≠m
 dF:∀b,F b→b≠a.block∧¬ S b
 dm:m≠a.block∧¬ S m
theorem StAt.ext {w w':World} {q a:Addr} {s:Sl} {bs:List UInt8} {L:Sp.Pool} {r:Rd} {m:Nat} {S FP F G:NP} (h:StAt w q a s bs L r m S FP F) (E:Ext G w w') (hG:∀b,b<w.heap.size→¬ G b):StAt w' q a s bs L r m S FP F :=
 ⟨h.pool.ext E (fun b hb=>hG b (h.pool.lt hb)),h.rd.ext E (fun b hb=>hG b (h.lS b hb)) (hG _ h.la),h.kinds.ext E (fun b hb=>hG b (hb.elim (h.kinds.lt b) (fun e=>e▸h.kinds.mlt))),fun b hb=>Nat.lt_of_lt_of_le (h.lS b hb) E.size,Nat.lt_of_lt_of_le h.la E.size,h.dP,h.dF,h.dm⟩
theorem StAt.pure {w w':World} {q a:Addr} {s:Sl} {bs:List UInt8} {L:Sp.Pool} {r:Rd} {m:Nat} {S FP F:NP} (h:StAt w q a s bs L r m S FP F) (E:Pure w w'):StAt w' q a s bs L r m S FP F:=h.ext E (fun _ _ h=>h)
theorem jJL {n:Nat} (h:n<9223372036854775808):IntKind.i64.wrap (n:Int)=(n:Int):=IntWalk.i64_in _ (by omega)
theorem jBB (n:Nat):s_Q (n:Int)=if 2147483647<n then -1 else (n:Int):=by
 unfold s_Q;by_cases h:2147483647<n
 ·rw [if_pos h,show decide ((n:Int)>2147483647)=true by simp;omega];rfl
 ·rw [if_neg h,show decide ((n:Int)>2147483647)=false by simp;omega];exact jJL (by omega)
theorem jLW (k f t:Nat) (u:Int) (x:ByteArray) (a b:Int):s_U (k:Int) (s_Q (f:Int)) (s_Q (t:Int)) u x a b=if 16≤f∨16≤t∨((k=8∨k=9)∧f=t) then 50 else 0:=by
 unfold s_U;rw [jBB,jBB];have key:((((decide ((if 2147483647<f then -1 else (f:Int))<0) || decide ((if 2147483647<f then -1 else (f:Int))≥16)) || decide ((if 2147483647<t then -1 else (t:Int))<0)) || decide ((if 2147483647<t then -1 else (t:Int))≥16)) || ((((k:Int) == 8) || ((k:Int) == 9)) && ((if 2147483647<f then -1 else (f:Int)) == (if 2147483647<t then -1 else (t:Int)))))=decide (16≤f∨16≤t∨((k=8∨k=9)∧f=t)):=by
  rw [Bool.eq_iff_iff];simp only [Bool.or_eq_true,Bool.and_eq_true,decide_eq_true_eq,beq_iff_eq];by_cases h1:2147483647<f
  ·rw [if_pos h1];exact ⟨fun _=>.inl (by omega),fun _=>.inl (.inl (.inl (.inl (by omega))))⟩
  ·by_cases h2:2147483647<t
   ·rw [if_pos h2];exact ⟨fun _=>.inr (.inl (by omega)),fun _=>.inl (.inl (.inr (by omega)))⟩
   ·rw [if_neg h1,if_neg h2];omega
 rw [key];by_cases h:16≤f∨16≤t∨((k=8∨k=9)∧f=t)
 ·rw [decide_eq_true h,if_pos h];rfl
 ·rw [decide_eq_false h,if_neg h];rfl
theorem jGF {w:World} {p:Addr} {n:Sp.Node} {cs:List Value} {T:TypeId} (h:Box w p (xD n++cs) T):Row w p (xD n):=fun i hi=>by
 have:=h.row i (by rw [List.length_append];omega);rw [List.getElem?_append_left hi] at this;exact this
theorem c_sub4 (q a:Addr) (s:Sl) (bs:List UInt8) (r:Rd) (m:Nat) {S FP F:NP} {L:Sp.Pool} (p:Addr) (n:Sp.Node) (cs:List Value) {w:World} (h:StAt w q a s bs L r m S FP F) (hok:Sp.Ok L) (hB:Box w p (xD n++cs) 253) (hp:¬ FP p.block) (K:Int→WP)
  (hK:∀x w',x=(if (Sp.find L n).isSome=true then 72 else (Sp.make L n).2.1)→(∃F',zS w' q (if (Sp.find L n).isSome=true then L else (Sp.make L n).2.2) F'∧RdS S w' a s bs r∧Ext FP w w'∧∀b,F' b→FP b∨w.heap.size≤b)→K x w') :
  m_H_j4 (some q) p None w K:=by
 unfold m_H_j4
 refine ⟨n.kind,n.frm,n.to,n.num,n.text,n.a,n.b,jGF hB,?_⟩
 refine (c_Has q n w h.pool hok).mono ?_
 rintro _ w1 ⟨x,ok,rfl,hf,E1⟩
 refine ⟨_,_,rfl,E1.keptP,fun hok1=>?_,fun hok1=>?_⟩
 ·have : (Sp.find L n).isSome = true := by
   cases hn:Sp.find L n with
   | some i=>rfl
   | none=>rw [hn] at hf;simp only at hf;rw [hf.2] at hok1;cases hok1
  rw [if_pos this,if_pos this] at hK
  exact hK _ _ rfl ⟨FP,h.pool.pure E1,h.rd.pure E1,Ext.pure E1,fun b hb=>.inl hb⟩
 ·have : ¬ (Sp.find L n).isSome = true := by
   cases hn:Sp.find L n with
   | some i=>rw [hn] at hf;simp only at hf;rw [hf.2] at hok1;cases hok1
   | none=>simp
  rw [if_neg this,if_neg this] at hK
  refine ⟨n.kind,n.frm,n.to,n.num,n.text,n.a,n.b,jGF (hB.pure E1),?_⟩
  refine (jPX q n.kind n.frm n.to n.num n.text n.a n.b w1 (h.pool.pure E1) hok).mono ?_
  rintro _ w2 ⟨x1,x2,rfl,he,F',hP,E2,hF'⟩
  have he2:=congrArg Prod.snd he
  simp only at he2
  refine ⟨x1,x2,rfl,E2.kept (fun b hb=>hb.elim),hK _ _ he2 ⟨F',hP,(h.rd.pure E1).ext E2 (fun b hb hh=>(h.dP b hh).2.1 hb) (fun hh=>(h.dP _ hh).1 rfl),(Ext.pure E1).trans E2,fun b hb=>(hF' b hb).elim .inl (fun hb=>.inr (by have:=E1.size;omega))⟩⟩
theorem jTS (k:Nat) (x:Raw):(((x.cells k).set 1 (.int .i64 (s_Q x.frm))).set 2 (.int .i64 (s_Q x.to)))=xD ⟨k,s_Q x.frm,s_Q x.to,x.num,⟨x.text.toArray⟩,0,0⟩++[.int .u64 x.frm,.int .u64 x.to,.int .u64 x.a,.int .u64 x.b,.int .i64 x.kids]:=rfl
theorem jQW (n:Sp.Node) (cs:List Value) (v:Int):(xD n++cs).set 5 (.int .i64 v)=xD { n with a:=v }++cs:=rfl
theorem jQV (n:Sp.Node) (cs:List Value) (v:Int):(xD n++cs).set 6 (.int .i64 v)=xD { n with b:=v }++cs:=rfl
theorem c_sub3 (q a:Addr) (s:Sl) (bs:List UInt8) (r:Rd) (m:Nat) {S FP F:NP} {L:Sp.Pool} (p:Addr) (k:Nat) (x:Raw) {w:World} (h:StAt w q a s bs L r m S FP F) (hok:Sp.Ok L)
  (h1:x.frm<16) (h2:x.to<16) (ha:0<x.kids→x.a<L.length) (hb:1<x.kids→x.b<L.length)
  (hB:Box w p (xD ⟨k,s_Q x.frm,s_Q x.to,x.num,⟨x.text.toArray⟩,0,0⟩++[.int .u64 x.frm,.int .u64 x.to,.int .u64 x.a,.int .u64 x.b,.int .i64 x.kids]) 253) (hpS:p.block≠a.block∧¬ S p.block∧¬ FP p.block∧¬ F p.block∧p.block≠m) (K:Int→WP)
  (hK:∀y w',y=(if (Sp.find L (x.node k)).isSome=true then 72 else (Sp.make L (x.node k)).2.1)→(∃F',zS w' q (if (Sp.find L (x.node k)).isSome=true then L else (Sp.make L (x.node k)).2.2) F'∧RdS S w' a s bs r∧Ext (fun b=>FP b∨b=p.block) w w'∧∀b,F' b→FP b∨w.heap.size≤b)→K y w') :
  m_H_j2 (some q) p false None w K:=by
 have hok2:=hok.few
 have fs:s_Q (x.frm:Int)=(x.frm:Int):=by rw [jBB,if_neg (by omega)]
 have ts:s_Q (x.to:Int)=(x.to:Int):=by rw [jBB,if_neg (by omega)]
 rw [fs,ts] at hB
 have st5:∀{w w':World} {i:Nat} {v:Value},StAt w q a s bs L r m S FP F→w'=w.setCell (p.add i) v→StAt w' q a s bs L r m S FP F∧Ext (·=p.block) w w':=fun {w w' i v} h e=>by
  have E:Ext (·=p.block) w w':=by rw [e];exact qP
  refine ⟨⟨h.pool.ext E (fun b hb e=>hpS.2.2.1 (e▸hb)),h.rd.ext E (fun b hb e=>hpS.2.1 (e▸hb)) (fun e=>hpS.1 e.symm),h.kinds.ext E (fun b hb e=>hb.elim (fun hb=>hpS.2.2.2.1 (e▸hb)) (fun hb=>hpS.2.2.2.2 (e.symm.trans hb))),fun b hb=>Nat.lt_of_lt_of_le (h.lS b hb) E.size,Nat.lt_of_lt_of_le h.la E.size,h.dP,h.dF,h.dm⟩,E⟩
 have wr:∀n:Nat,n<L.length→IntKind.i64.wrap (IntKind.u64.wrap ((n:Int)+1))=(n:Int)+1:=fun n hn=>by
  rw [show (n:Int)+1=((n+1:Nat):Int) by omega,vX (by omega),jJL (by omega)]
 have fin : ∀ (va vb : Int) (w1 : World), StAt w1 q a s bs L r m S FP F → Box w1 p (xD ⟨k, x.frm, x.to, x.num, ⟨x.text.toArray⟩, va, vb⟩ ++ [.int .u64 x.frm, .int .u64 x.to, .int .u64 x.a, .int .u64 x.b, .int .i64 x.kids]) 253 → Ext (· = p.block) w w1 →
   va=(if 0<x.kids then (x.a:Int)+1 else 0)→vb=(if 1<x.kids then (x.b:Int)+1 else 0)→m_H_j4 (some q) p None w1 K:=by
  intro va vb w1 h1 hB1 E1 hva hvb
  have hn:(⟨k,x.frm,x.to,x.num,⟨x.text.toArray⟩,va,vb⟩:Sp.Node)=x.node k:=by subst hva hvb;rfl
  rw [hn] at hB1
  refine c_sub4 q a s bs r m p (x.node k) _ h1 hok hB1 hpS.2.2.1 K (fun y w' hy ⟨F',g1,g2,g3,g4⟩=>hK y w' hy ⟨F',g1,g2,(E1.mono (fun b _ h=>.inr h)).trans (g3.mono (fun b _ h=>.inl h)),fun b hb=>(g4 b hb).imp id (fun h=>by have:=E1.size;omega)⟩)
 unfold m_H_j2
 refine ⟨fun hc=>(by cases hc),fun _=>⟨x.kids,hB.cell (i:=11) rfl,?_⟩⟩
 have j3 : ∀ (va : Int) (w1 : World), StAt w1 q a s bs L r m S FP F → Box w1 p (xD ⟨k, x.frm, x.to, x.num, ⟨x.text.toArray⟩, va, 0⟩ ++ [.int .u64 x.frm, .int .u64 x.to, .int .u64 x.a, .int .u64 x.b, .int .i64 x.kids]) 253 → Ext (· = p.block) w w1 →
   va=(if 0<x.kids then (x.a:Int)+1 else 0)→m_H_j3 (some q) p None w1 K:=by
  intro va w1 h1 hB1 E1 hva
  unfold m_H_j3
  refine ⟨x.kids,hB1.cell (i:=11) rfl,fun hc=>?_,fun hc=>?_⟩
  ·have hc:1<x.kids:=by have:=of_decide_eq_true hc;omega
   refine ⟨x.b,hB1.cell (i:=10) rfl,hB1.canW (i:=6) (by simp [xD]),id,?_⟩
   rintro w2 e2
   obtain ⟨h2,E2⟩:=st5 h1 e2
   have hB2:=hB1.set 6 (.int .i64 (IntKind.i64.wrap (IntKind.u64.wrap ((x.b:Int)+1))))
   rw [← e2,jQV,wr _ (hb hc)] at hB2
   exact fin va _ w2 h2 hB2 (E1.trans E2) hva (by rw [if_pos hc])
  ·have hc:¬ 1<x.kids:=by have:=of_decide_eq_false hc;omega
   exact fin va 0 w1 h1 hB1 E1 hva (by rw [if_neg hc])
 refine ⟨fun hc=>?_,fun hc=>?_⟩
 ·have hc:0<x.kids:=by have:=of_decide_eq_true hc;omega
  refine ⟨x.a,hB.cell (i:=9) rfl,hB.canW (i:=5) (by simp [xD]),id,?_⟩
  rintro w2 e2
  obtain ⟨h2,E2⟩:=st5 h e2
  have hB2:=hB.set 5 (.int .i64 (IntKind.i64.wrap (IntKind.u64.wrap ((x.a:Int)+1))))
  rw [← e2,jQW,wr _ (ha hc)] at hB2
  exact j3 _ w2 h2 hB2 E2 (by rw [if_pos hc])
 ·have hc:¬ 0<x.kids:=by have:=of_decide_eq_false hc;omega
  exact j3 0 w h hB (Ext.refl _) (by rw [if_neg hc])
theorem jPM (q a:Addr) (s:Sl) (bs:List UInt8) (r:Rd) (m:Nat) {S FP F:NP} {L:Sp.Pool} {w0:World} (h:StAt w0 q a s bs L r m S FP F) (hok:Sp.Ok L) (hlt:r.at_<bs.length) (he:r.err=0) :
  Calls prog 166 #[.pointer (some q),.pointer (some a),.map (some m)] w0 (fun e w'=>∃y:Int,e=.returned (.int .i64 y)∧(y=(vT bs L r).2.1∧∃F',zS w' q (vT bs L r).1 F'∧RdS S w' a s bs (vT bs L r).2.2∧Ext (fun b=>FP b∨b=a.block) w0 w'∧∀b,F' b→FP b∨w0.heap.size≤b)):=by
 refine w_H (some q) (some a) (some m) w0 (fun y w'=>y=(vT bs L r).2.1∧∃F',zS w' q (vT bs L r).1 F'∧RdS S w' a s bs (vT bs L r).2.2∧Ext (fun b=>FP b∨b=a.block) w0 w'∧∀b,F' b→FP b∨w0.heap.size≤b) ?_
 unfold m_H
 refine (c_Byte a s bs r w0 h.rd (Nat.le_of_lt hlt) h.lS).mono ?_
 rintro _ w1 ⟨_,rfl,rfl,hR1,E1⟩
 refine ⟨_,rfl,E1.kept (fun b hb=>hb.elim),?_⟩
 rw [jBJ bs L r hlt he]
 rw [jLC bs r hlt he] at hR1 ⊢
 simp only at hR1 ⊢
 generalize hk:bs[r.at_].toNat=k at *
 have hk256:k<256:=by rw [← hk];exact bs[r.at_].toNat_lt
 have S1:StAt w1 q a s bs L ⟨r.at_+1,0,r.spot⟩ m S FP F:=⟨h.pool.ext E1 (fun b hb e=>(h.dP b hb).1 e),hR1,h.kinds.ext E1 (fun b hb e=>hb.elim (fun hb=>(h.dF b hb).1 e) (fun hb=>h.dm.1 (hb.symm.trans e))),fun b hb=>Nat.lt_of_lt_of_le (h.lS b hb) E1.size,Nat.lt_of_lt_of_le h.la E1.size,h.dP,h.dF,h.dm⟩
 intro p1 w2 n2
 rw [jJL (by omega)] at n2
 have E2:Pure w1 w2:=Ext.new n2
 have S2:=S1.pure E2
 have B2:Box w2 p1 (jAS.cells k) 253:=Box.of_newA n2
 have bp:=n2.at_size
 have z1:=E1.size
 have E02:Ext (·=a.block) w0 w2:=E1.thenPure E2
 refine ⟨k,B2.cell0,?_⟩
 by_cases hkk:jCH k=true
 ·have hk19:1≤k∧k≤9:=by unfold jCH at hkk;simpa using hkk
  obtain ⟨v2,hlook,hLst⟩:=S2.kinds.get (k:Int) (by omega) (by omega) true
  refine ⟨v2,true,hlook,fun hc=>(by cases hc),fun _=>?_⟩
  rw [if_pos hkk]
  generalize hfs:uA (k:Int)=fs at *
  have hf3:fs.length≤3:=by rw [← hfs];exact jGN _
  have hrat:∀j,(qD bs (fs.take j) (jAS,⟨r.at_+1,0,r.spot⟩)).2.at_≤bs.length:=fun j=>(jHS bs (fs.take j) jAS ⟨r.at_+1,0,r.spot⟩ (by simp only;omega)).2
  refine ⟨fun x1 Hl w=>∃j:Nat,x1=j∧j≤fs.length∧Hl=None∧StAt w q a s bs L (qD bs (fs.take j) (jAS,⟨r.at_+1,0,r.spot⟩)).2 m S FP F∧Box w p1 ((qD bs (fs.take j) (jAS,⟨r.at_+1,0,r.spot⟩)).1.cells k) 253∧Lst F w 2 v2 (fs.map Fld.row)∧Ext (·=a.block) w0 w,fun x1 _=>((fs.length:Int) - x1).toNat,⟨0,rfl,Nat.zero_le _,rfl,S2,B2,hLst,E02⟩,?_⟩
  rintro _ _ wl _ ⟨j,rfl,hj,rfl,hS,hB,hL,hE⟩
  unfold m_H_l1
  have hlen:v2.len=fs.length:=by rw [hL.len,List.length_map]
  have ple:p1.block<wl.heap.size:=hB.lt
  have zE:=hE.size
  have nS:¬ S p1.block:=fun hh=>by have:=h.lS _ hh;omega
  have nF:¬ F p1.block:=fun hh=>by have:=h.kinds.lt _ hh;omega
  have nP:¬ FP p1.block:=fun hh=>by have:=h.pool.lt hh;omega
  have na:p1.block≠a.block:=fun hh=>by have:=h.la;omega
  have nm:p1.block≠m:=fun hh=>by have:=h.kinds.mlt;omega
  refine ⟨fun hc=>?_,fun hc=>?_⟩
  ·have hc:=yZ hlen hc
   obtain ⟨a1,hat,_,hrow⟩:=hL.nth hc
   refine ⟨a1,hat,_,_,hrow,?_⟩
   intro p2 w3 n3
   have E3:Pure wl w3:=Ext.new n3
   refine ⟨⟨rfl,fun i hi=>(Box.of_newA n3).canW (by simpa using hi)⟩,id,?_⟩
   rintro w4 e4
   have X4:Ext (·=p2.block) w3 w4:=by rw [e4];exact Ext.storeRow _ _ _
   have B4:Box w4 p2 [.func (.func fs[j].put) #[] #[],.func (.func fs[j].get) #[] #[]] 213:=by rw [e4];exact (Box.of_newA n3).store rfl
   have hp2:=n3.at_size
   have E34:Pure wl w4:=E3.own (by rw [hp2];exact Nat.le_refl _) X4
   have S4:=hS.pure E34
   refine ⟨_,B4.cell (i:=1) rfl,fs[j].get,#[],#[],rfl,jRY fs[j],?_⟩
   refine (c_get fs[j] a p1 s bs _ _ w4 S4.rd (hrat j) S4.lS (hB.pure E34) rfl (fun e=>na e.symm) (fun b hb e=>nS (e▸hb))).mono ?_
   rintro _ w5 ⟨rfl,hR5,hB5,E5⟩
   rw [jNS] at hB5
   have hsn:=jJV bs fs j hc (jAS,⟨r.at_+1,0,r.spot⟩)
   refine ⟨rfl,E5.kept (fun b hb=>hb.elim),⟨j+1,vK hc (by omega),hc,rfl,?_,?_,?_,?_⟩,by rw [vK hc (by omega)];exact jAK hc⟩
   ·rw [hsn]
    exact ⟨S4.pool.ext E5 (fun b hb e=>e.elim (fun e=>(h.dP b hb).1 e) (fun e=>nP (e▸hb))),hR5,S4.kinds.ext E5 (fun b hb e=>hb.elim (fun hb=>e.elim (fun e=>(h.dF b hb).1 e) (fun e=>nF (e▸hb))) (fun hb=>e.elim (fun e=>h.dm.1 (hb.symm.trans e)) (fun e=>nm (e.symm.trans hb)))),fun b hb=>Nat.lt_of_lt_of_le (S4.lS b hb) E5.size,Nat.lt_of_lt_of_le S4.la E5.size,h.dP,h.dF,h.dm⟩
   ·rw [hsn];exact hB5
   ·exact (hL.pure E34).ext E5 (fun b hb e=>e.elim (fun e=>(h.dF b hb).1 e) (fun e=>nF (e▸hb)))
   ·exact (hE.thenPure E34).trans' E5 (fun i hi e=>e.elim id (fun e=>by omega))
  ·have hc:=uL hlen hj hc
   subst hc
   rw [List.take_length] at hS hB
   have hkd:=(@Sp.jIF bs (k:Int) (by omega) (by omega) ⟨r.at_+1,0,r.spot⟩).1
   rw [hfs] at hkd
   generalize qD bs fs (jAS,⟨r.at_+1,0,r.spot⟩)=st at *
   obtain ⟨x,r'⟩:=st
   simp only at hS hB hkd
   have fin : ∀ (y : Int) (w : World) (F' : NP), zS w q (jCE L k (x, r')).1 F' → RdS S w a s bs (jCE L k (x, r')).2.2 → Ext (fun b => FP b ∨ b = a.block) w0 w → (∀ b, F' b → FP b ∨ w0.heap.size ≤ b) → y = (jCE L k (x, r')).2.1 →
     y=(jCE L k (x,r')).2.1∧∃F',zS w q (jCE L k (x,r')).1 F'∧RdS S w a s bs (jCE L k (x,r')).2.2∧Ext (fun b=>FP b∨b=a.block) w0 w∧∀b,F' b→FP b∨w0.heap.size≤b:=fun y w F' a1 a2 a3 a4 a5=>⟨a5,F',a1,a2,a3,a4⟩
   have hEo:Ext (fun b=>FP b∨b=a.block) w0 wl:=hE.mono (fun b _ h=>.inr h)
   have bad:∀(e:Nat) (w:World),nodeErr k L.length x r'.err=e→e≠0→Ext (·=p1.block) wl w→(((e:Nat):Int)=(jCE L k (x,r')).2.1∧∃F',zS w q (jCE L k (x,r')).1 F'∧RdS S w a s bs (jCE L k (x,r')).2.2∧Ext (fun b=>FP b∨b=a.block) w0 w∧∀b,F' b→FP b∨w0.heap.size≤b):=by
    intro e w hne h0 E;have hr:jCE L k (x,r')=(L,(e:Int),r'):=by
     unfold jCE;simp only;rw [if_pos (by rw [hne];exact h0),hne]
    rw [hr];exact ⟨rfl,FP,hS.pool.ext E (fun b hb e=>nP (e▸hb)),hS.rd.ext E (fun b hb e=>nS (e▸hb)) (fun e=>na e.symm),hEo.trans' E (fun i hi e=>by omega),fun b hb=>.inl hb⟩
   refine (c_Why a s bs r' wl hS.rd).mono ?_
   rintro _ w6 ⟨_,_,rfl,rfl,rfl,E6⟩
   have S6:=hS.pure E6
   have B6:=hB.pure E6
   refine ⟨_,_,rfl,E6.keptP,fun hc=>?_,fun hc=>?_⟩
   ·have hc:r'.err≠0:=by have:=bne_iff_ne.1 hc;omega
    exact bad r'.err w6 (by unfold nodeErr;rw [if_pos hc]) hc (Ext.pure E6)
   ·have hc : r'.err = 0 := by
     have:((r'.err:Int) != 0)=false:=hc;simpa using this
    refine ⟨fun w'=>w'.cell? (p1.add 8)=some (.int .u64 x.to),(B6.pure (Ext.drew w6)).cell (i:=8) rfl,?_⟩
    rintro w7 e7
    have E7:Pure w6 w7:=by rw [e7];exact Ext.drew w6
    have B7:=B6.pure E7
    refine ⟨x.frm,B7.cell (i:=7) rfl,x.to,fun w' hw'=>hw',?_⟩
    refine (p_Q (x.frm:Int) w7).mono ?_
    rintro _ w8 ⟨rfl,E8⟩
    have B8:=B7.pure E8
    refine ⟨_,rfl,B8.cell (i:=8) rfl,E8.keptP,?_⟩
    refine (p_Q (x.to:Int) w8).mono ?_
    rintro _ w9 ⟨rfl,E9⟩
    have B9:=B8.pure E9
    refine ⟨_,rfl,B9.cell (i:=8) rfl,E9.keptP,B9.canW (i:=1) (by simp [Raw.cells]),id,?_⟩
    rintro w10 e10
    have X10:Ext (·=p1.block) w9 w10:=by rw [e10];exact qP
    have B10:=B9.set 1 (.int .i64 (s_Q x.frm))
    rw [← e10] at B10
    refine ⟨B10.cell (i:=8) rfl,B10.canW (i:=2) (by simp [Raw.cells]),id,?_⟩
    rintro w11 e11
    have X11:Ext (·=p1.block) w10 w11:=by rw [e11];exact qP
    have B11:=B10.set 2 (.int .i64 (s_Q x.to))
    rw [← e11,jTS] at B11
    have E11:Ext (·=p1.block) wl w11:=((Ext.pure (((E6.trans E7).trans E8).trans E9)).trans X10).trans X11
    have S11:StAt w11 q a s bs L r' m S FP F:=⟨hS.pool.ext E11 (fun b hb e=>nP (e▸hb)),hS.rd.ext E11 (fun b hb e=>nS (e▸hb)) (fun e=>na e.symm),hS.kinds.ext E11 (fun b hb e=>hb.elim (fun hb=>nF (e▸hb)) (fun hb=>nm (e.symm.trans hb))),fun b hb=>Nat.lt_of_lt_of_le (hS.lS b hb) E11.size,Nat.lt_of_lt_of_le hS.la E11.size,h.dP,h.dF,h.dm⟩
    refine ⟨k,s_Q x.frm,s_Q x.to,x.num,⟨x.text.toArray⟩,0,0,jGF B11,?_⟩
    rw [jLW]
    by_cases hnm:16≤x.frm∨16≤x.to∨((k=8∨k=9)∧x.frm=x.to)
    ·rw [if_pos hnm]
     refine ⟨fun _ w12 hs12=>?_,fun hc=>(by cases hc)⟩
     exact bad 50 w12 (by unfold nodeErr;rw [if_neg (by omega),if_pos hnm]) (by decide) (E11.thenPure hs12.ext)
    ·rw [if_neg hnm]
     refine ⟨fun hc=>(by cases hc),fun _ w12 hs12=>?_⟩
     have E12:Pure w11 w12:=hs12.ext
     have S12:=S11.pure E12
     refine (jAE q w12 S12.pool).mono ?_
     rintro _ w13 ⟨_,rfl,rfl,rfl⟩
     have B12:=B11.pure E12
     have hLs:=hok.few
     refine ⟨_,rfl,Kept.refl _,x.kids,B12.cell (i:=11) rfl,?_⟩
     rw [vX (by omega)]
     have bad71:((0<x.kids∧L.length≤x.a)∨(1<x.kids∧L.length≤x.b))→((71:Int)=(jCE L k (x,r')).2.1∧∃F',zS w13 q (jCE L k (x,r')).1 F'∧RdS S w13 a s bs (jCE L k (x,r')).2.2∧Ext (fun b=>FP b∨b=a.block) w0 w13∧∀b,F' b→FP b∨w0.heap.size≤b):=fun hh =>
      bad 71 w13 (by unfold nodeErr;rw [if_neg (by omega),if_neg hnm,if_pos hh]) (by decide) (E11.thenPure E12)
     have good:¬ ((0<x.kids∧L.length≤x.a)∨(1<x.kids∧L.length≤x.b))→m_H_j2 (some q) p1 false None w13 (fun y w'=>y=(jCE L k (x,r')).2.1∧∃F',zS w' q (jCE L k (x,r')).1 F'∧RdS S w' a s bs (jCE L k (x,r')).2.2∧Ext (fun b=>FP b∨b=a.block) w0 w'∧∀b,F' b→FP b∨w0.heap.size≤b):=fun hh=>by
      have hr:jCE L k (x,r')=(if (Sp.find L (x.node k)).isSome=true then L else (Sp.make L (x.node k)).2.2,if (Sp.find L (x.node k)).isSome=true then 72 else (Sp.make L (x.node k)).2.1,r'):=by
       have hne:nodeErr k L.length x r'.err=0:=by unfold nodeErr;rw [if_neg (by omega),if_neg hnm,if_neg hh]
       unfold jCE;simp only;rw [if_neg (by rw [hne];simp)];split <;> rfl
      rw [hr];refine c_sub3 q a s bs r' m p1 k x S12 hok (by omega) (by omega) (by omega) (by omega) B12 ⟨na,nS,nP,nF,nm⟩ _ ?_;rintro y w' hy ⟨F',g1,g2,g3,g4⟩;exact ⟨hy,F',g1,g2,(hEo.trans' (E11.thenPure E12) (fun i hi e=>by omega)).trans' g3 (fun i hi e=>e.elim .inl (fun e=>by omega)),fun b hb=>(g4 b hb).imp id (fun hh=>by have:=E11.size;have:=E12.size;omega)⟩
     have j5:∀x3:Bool,x3=decide (0<x.kids∧L.length≤x.a)→m_H_j5 (some q) p1 (L.length:Int) x3 None w13 (fun y w'=>y=(jCE L k (x,r')).2.1∧∃F',zS w' q (jCE L k (x,r')).1 F'∧RdS S w' a s bs (jCE L k (x,r')).2.2∧Ext (fun b=>FP b∨b=a.block) w0 w'∧∀b,F' b→FP b∨w0.heap.size≤b):=by
      intro x3 h3;unfold m_H_j5;refine ⟨fun hc=>?_,fun hc=>?_⟩
      ·rw [hc] at h3;have h3:=of_decide_eq_true h3.symm;unfold m_H_j2;exact ⟨fun _=>bad71 (.inl h3),fun hc=>(by cases hc)⟩
      ·rw [hc] at h3;have h3:=of_decide_eq_false h3.symm;refine ⟨x.kids,B12.cell (i:=11) rfl,fun hc=>?_,fun hc=>?_⟩
       ·have hc:=of_decide_eq_true hc;refine ⟨x.b,B12.cell (i:=10) rfl,?_⟩;rw [vX (by omega)];by_cases hb:L.length≤x.b
        ·rw [decide_eq_true (show (x.b:Int)≥(L.length:Int) by omega)];unfold m_H_j2;exact ⟨fun _=>bad71 (.inr ⟨by omega,hb⟩),fun hc=>(by cases hc)⟩
        ·rw [decide_eq_false (show ¬ (x.b:Int)≥(L.length:Int) by omega)];exact good (by omega)
       ·have hc:=of_decide_eq_false hc;exact good (by omega)
     refine ⟨fun hc=>?_,fun hc=>?_⟩
     ·have hc:=of_decide_eq_true hc
      refine ⟨x.a,B12.cell (i:=9) rfl,j5 _ ?_⟩
      rw [decide_eq_decide];omega
     ·have hc:=of_decide_eq_false hc
      refine j5 _ ?_
      rw [decide_eq_false];omega
 ·have hnk:¬ (1≤(k:Int)∧(k:Int)≤9):=fun hh=>hkk (by unfold jCH;simp;omega)
  refine ⟨_,false,S2.kinds.none (k:Int) hnk,fun _=>?_,fun hc=>(by cases hc)⟩
  rw [if_neg hkk]
  exact ⟨rfl,FP,S2.pool,S2.rd,E02.mono (fun b _ h=>.inr h),fun b hb=>.inl hb⟩
def jQC (w0 w':World) (bs:List UInt8) (x:Option Addr):Prop :=
 (∀q,(qF bs).1=some q→∃p F,x=some p∧zS w' p q F∧∀b,F b→w0.heap.size≤b)∧((qF bs).1=none→x=none)
structure ReAt (w0 w:World) (q a:Addr) (s:Sl) (bs:List UInt8) (L:Sp.Pool) (r:Rd) (m:Nat) (S FP F:NP) (ps:List Nat) (pl:Sl):Prop where
 st:StAt w q a s bs L r m S FP F
 pure:Pure w0 w
 oP:∀b,FP b→w0.heap.size≤b
 oa:w0.heap.size≤a.block
 rows:Rws w 3 1 pl (tmr (ps.map Int.ofNat))
 own:∀b,pl.blk b→w0.heap.size≤b∧¬ FP b∧b≠a.block∧¬ S b∧¬ F b∧b≠m
theorem jMW:∀(l:List Int) (i:Nat) (z:Int),inRow i l=i+l.length→inRow i (l++[z])=if z=((i+l.length:Nat):Int)+1 then i+l.length+1 else i+l.length:=by
 intro l;induction l with
 | nil=>intro i z _;simp only [List.nil_append,inRow,List.length_nil,Nat.add_zero]
 | cons s l ih =>
  intro i z h
  rw [inRow] at h
  rw [List.cons_append,inRow]
  split
  ·rename_i hs
   rw [if_pos hs,List.length_cons] at h
   rw [ih (i+1) z (by omega),List.length_cons]
   rw [show i+1+l.length=i+(l.length+1) by omega]
  ·rename_i hs
   rw [if_neg hs,List.length_cons] at h;omega
theorem jMV:∀(l:List Int) (i:Nat) (z:Int) (post:List Int),inRow i l=i+l.length→z≠((i+l.length:Nat):Int)+1→inRow i (l++z :: post)=i+l.length:=by
 intro l;induction l with
 | nil=>intro i z post _ hz;simp only [List.nil_append,inRow,List.length_nil,Nat.add_zero] at *;rw [if_neg hz]
 | cons s l ih =>
  intro i z post h hz
  rw [inRow] at h
  rw [List.cons_append,inRow]
  split
  ·rename_i hs
   rw [if_pos hs,List.length_cons] at h
   rw [List.length_cons] at hz
   rw [ih (i+1) z post (by omega) (by rw [show i+1+l.length=i+(l.length+1) by omega];exact hz),List.length_cons];omega
  ·rename_i hs
   rw [if_neg hs,List.length_cons] at h;omega
theorem c_read {S0:NP} (sb:Sl) (bs:List UInt8) (w0:World) (hs:Lst S0 w0 1 sb (byr bs)) (hz:sb.a=none→sb=Sl.nil) :
  Calls prog 121 #[sb.v] w0 (fun e w'=>∃x:Option Addr,∃y z:Int,e=.returned (.tuple #[.pointer x,.int .i64 y,.int .i64 z])∧(y=(qF bs).2.1∧z=((qF bs).2.2:Int)∧jQC w0 w' bs x∧Pure w0 w')):=by
 refine w_T1 sb w0 (fun x y z w'=>y=(qF bs).2.1∧z=((qF bs).2.2:Int)∧jQC w0 w' bs x∧Pure w0 w') ?_
 unfold m_T1
 have hl:sb.len=bs.length:=by rw [hs.len,vR]
 have bad:∀(e:Int) (n:Nat) (w':World),qF bs=(none,e,n)→Pure w0 w'→e=(qF bs).2.1∧(n:Int)=((qF bs).2.2:Int)∧jQC w0 w' bs none∧Pure w0 w':=fun e n w' h E=>by
  rw [h];exact ⟨rfl,rfl,⟨fun q hq=>(by rw [h] at hq;cases hq),fun _=>rfl⟩,E⟩
 refine ⟨fun hc=>?_,fun hc=>?_⟩
 ·have hc:4096<bs.length:=by have:=of_decide_eq_true hc;omega
  exact bad 1 0 w0 (by unfold qF;rw [if_pos hc]) (Ext.refl _)
 have hc:bs.length≤4096:=by have:=of_decide_eq_false hc;omega
 refine ⟨fun hc2=>?_,fun hc2=>?_⟩
 ·have hc2:bs.length=0:=by have:=beq_iff_eq.1 hc2;omega
  exact bad 3 0 w0 (by unfold qF;rw [if_neg (by omega),if_pos hc2]) (Ext.refl _)
 have hc2:bs.length≠0:=by have:=beq_eq_false_iff_ne.1 hc2;omega
 have htxt:qF bs=jJU bs bs.length [] ⟨0,0,0⟩ []:=by unfold qF;rw [if_neg (by omega),if_neg hc2]
 refine (jPW w0).mono ?_
 rintro _ w1 ⟨_,rfl,q,rfl,E1,FP0,hP,hFP⟩
 refine ⟨_,rfl,E1.keptP,?_⟩
 refine (c_cNew sb bs w1 (hs.pure E1) hz (by omega)).mono ?_
 rintro _ w2 ⟨_,rfl,a,s,rfl,hR,E2,ha,hsb⟩
 refine ⟨_,rfl,E2.keptP,?_⟩
 refine (jPS w2).mono ?_
 rintro _ w3 ⟨_,rfl,m,F,rfl,hK,E3,hm,hF⟩
 refine ⟨_,rfl,E3.keptP,?_⟩
 have z1:=E1.size;have z2:=E2.size;have z3:=E3.size
 have la:a.block<w2.heap.size:=hR.box.lt
 have hnil:∀b,¬ Sl.nil.blk b:=fun b hb=>by obtain ⟨a,h,_⟩:=hb;cases h
 have R3:ReAt w0 w3 q a s bs [] ⟨0,0,0⟩ m s.blk FP0 F [] Sl.nil :=
  ⟨⟨(hP.pure E2).pure E3,hR.pure E3,hK,fun b hb=>by have:=hsb b hb;omega,by omega,fun b hb=>by have h1:=hP.lt hb;exact ⟨by omega,fun hh=>by have:=hsb b hh;omega,fun hh=>by have:=hF b hh;omega,by omega⟩,fun b hb=>by have:=hF b hb;exact ⟨by omega,fun hh=>by have:=hsb b hh;omega⟩,by omega,fun hh=>by have:=hsb _ hh;omega⟩,(E1.trans E2).trans E3,hFP,by omega,Rws.nil _ _ _,fun b hb=>(hnil b hb).elim⟩
 refine ⟨fun pl Hl w=>∃(L:Sp.Pool) (r:Rd) (ps:List Nat) (FP:NP) (n:Nat),Hl=None∧ReAt w0 w q a s bs L r m s.blk FP F ps pl∧Sp.Wf L∧ps.length=L.length∧ps.length≤r.at_∧r.at_≤bs.length∧r.err=0∧bs.length - r.at_≤n∧jJU bs n L r ps=qF bs,fun pl _=>bs.length+1 - pl.len,⟨[],⟨0,0,0⟩,[],FP0,bs.length,rfl,R3,Sp.Wf.nil,rfl,Nat.zero_le _,Nat.zero_le _,rfl,Nat.le_refl _,htxt.symm⟩,?_⟩
 rintro pl _ wl _ ⟨L,r,ps,FP,n,rfl,hRe,hW,hps,hpr,hra,hre,hn,hgo⟩
 unfold m_T1_l1
 have hpl:pl.len=ps.length:=by rw [hRe.rows.len,yW,List.length_map]
 refine (c_Left a s bs r wl hRe.st.rd hra).mono ?_
 rintro _ w4 ⟨_,rfl,rfl,E4⟩
 refine ⟨_,rfl,E4.keptP,fun hc3=>?_,fun hc3=>?_⟩
 ·have hlt:r.at_<bs.length:=by have:=of_decide_eq_true hc3;omega
  obtain ⟨n,rfl⟩:∃k,n=k+1:=⟨n - 1,by omega⟩
  rw [jJU,if_pos hlt] at hgo
  have S4:=hRe.st.pure E4
  refine (c_At a s bs r w4 S4.rd).mono ?_
  rintro _ _ ⟨_,rfl,rfl,rfl⟩
  refine ⟨_,rfl,Kept.refl _,?_⟩
  refine (jPM q a s bs r m S4 hW.ok hlt hre).mono ?_
  rintro _ w6 ⟨_,rfl,rfl,F',hP6,hR6,E6,hF6⟩
  have z4:=E4.size;have z6:=E6.size
  have E06:Pure w0 w6:=(hRe.pure.trans E4).trans' E6 (fun i hi hh=>hh.elim (fun hh=>by have:=hRe.oP i hh;omega) (fun hh=>by have:=hRe.oa;omega))
  refine ⟨_,rfl,E6.kept (fun b hb=>hb.elim),fun hc4=>?_,fun hc4=>?_⟩
  ·have h0:(vT bs L r).2.1≠0:=bne_iff_ne.1 hc4
   rw [if_pos h0] at hgo
   exact bad _ _ _ hgo.symm E06
  ·have h0:(vT bs L r).2.1=0:=by simpa using hc4
   rw [if_neg (by simpa using h0)] at hgo
   obtain ⟨a1,a2,a3⟩:=jHQ bs L r hlt hre h0
   have hw6:Sp.Wf (vT bs L r).1∧(vT bs L r).1.length=L.length+1:=by
    rw [jBJ bs L r hlt hre] at h0 ⊢;split at h0
    ·rename_i hk;rw [if_pos hk];obtain ⟨_,_,e3,e4,e5⟩:=jEB h0;rw [e5];simp only;refine ⟨Sp.jEG hW _,?_⟩;have hc:=(Sp.jBN e4).2.2;unfold Sp.make at e4 ⊢;simp only [e3] at e4 ⊢;rw [if_neg (by rw [hc];simp)] at e4 ⊢;split at e4
     ·simp at e4
     ·rename_i hf;rw [if_neg hf];simp
    ·simp at h0
   intro p1 w7 n7
   have E7:Pure w6 w7:=Ext.new n7
   have z7:=E7.size
   have R7:Rws w7 3 1 pl (tmr (ps.map Int.ofNat)):=((hRe.rows.pure E4).ext E6 (fun b hb hh=>hh.elim (hRe.own b hb).2.1 (hRe.own b hb).2.2.1)).pure E7
   obtain ⟨s1,w8,hr8,hR8,hE8,hb8⟩:=R7.append (P:=prog) (ty:=50) (c:=1) jCC (Box.of_newA n7).row rfl rfl (by rw [yW,List.length_map];omega) (by rw [yW,List.length_map];simp only [maxLen];omega)
   have hpw:∀b,pl.blk b→b<wl.heap.size:=fun b hb=>hRe.rows.lt hb
   have z8:=hE8.size
   have E08:Pure w0 w8:=(E06.trans E7).trans' hE8 (fun i hi hh=>by have:=(hRe.own i hh).1;omega)
   have hnew:∀b,F' b→¬ pl.blk b:=fun b hb hh=>(hF6 b hb).elim (fun h=>(hRe.own b hh).2.1 h) (fun h=>by have:=hpw b hh;omega)
   have S0:=S4
   have S8:StAt w8 q a s bs (vT bs L r).1 (vT bs L r).2.2 m s.blk F' F:=by
    refine ⟨(hP6.pure E7).ext hE8 hnew,(hR6.pure E7).ext hE8 (fun b hb hh=>(hRe.own b hh).2.2.2.1 hb) (fun hh=>(hRe.own _ hh).2.2.1 rfl),((S0.kinds.ext E6 (fun b hb hh=>?_)).pure E7).ext hE8 (fun b hb hh=>?_),fun b hb=>by have:=S0.lS b hb;omega,by have:=S0.la;omega,fun b hb=>?_,S0.dF,S0.dm⟩
    ·rcases hb with hb | rfl
     ·exact hh.elim (fun hh=>(S0.dP b hh).2.2.1 hb) (fun hh=>(S0.dF b hb).1 hh)
     ·exact hh.elim (fun hh=>(S0.dP _ hh).2.2.2 rfl) (fun hh=>S0.dm.1 hh)
    ·rcases hb with hb | rfl
     ·exact (hRe.own b hh).2.2.2.2.1 hb
     ·exact (hRe.own _ hh).2.2.2.2.2 rfl
    ·rcases hF6 b hb with h | h
     ·exact S0.dP b h
     ·exact ⟨by have:=S0.la;omega,fun hh=>by have:=S0.lS b hh;omega,fun hh=>by have:=S0.kinds.lt b hh;omega,by have:=S0.kinds.mlt;omega⟩
   refine ⟨s1,w8,hr8,hE8.kept (fun b hb=>hb.elim),⟨(vT bs L r).1,(vT bs L r).2.2,ps++[r.at_],F',n,rfl,⟨S8,E08,fun b hb=>(hF6 b hb).elim (hRe.oP b) (fun h=>by have:=hRe.pure.size;omega),hRe.oa,?_,fun b hb=>?_⟩,hw6.1,by rw [List.length_append,List.length_singleton,hw6.2];omega,by rw [List.length_append,List.length_singleton];omega,a2,a3,by omega,hgo⟩,?_⟩
   ·have:tmr ((ps++[r.at_]).map Int.ofNat)=tmr (ps.map Int.ofNat)++[[.int .i64 (r.at_:Int)]]:=by simp [tmr]
    rw [this];exact hR8
   ·rcases hb8 b hb with h | h
    ·have:=hRe.own b h
     exact ⟨this.1,fun hh=>hnew b hh h,this.2.2⟩
    ·have h1:=hRe.pure.size
     exact ⟨by omega,fun hh=>by have:=hP6.lt hh;omega,by have:=S0.la;omega,fun hh=>by have:=S0.lS b hh;omega,fun hh=>by have:=S0.kinds.lt b hh;omega,by have:=S0.kinds.mlt;omega⟩
   ·have h1:s1.len=ps.length+1:=by rw [hR8.len,List.length_append,yW,List.length_map];rfl
    show bs.length+1 - s1.len<bs.length+1 - pl.len
    omega
 ·have hge:¬ r.at_<bs.length:=by have:=of_decide_eq_false hc3;omega
  rw [jLB hge] at hgo
  intro p2 w9 n9
  have E9:Pure w4 w9:=Ext.new n9
  have B9:=Box.of_newA n9
  have b9:=n9.at_size
  refine ⟨B9.canW0 (by simp),id,?_⟩
  rintro w10 e10
  have X10:Ext (·=p2.block) w9 w10:=by rw [e10];exact Ext.setCell _ _
  have B10:Box w10 p2 [.int .i64 0] 3:=by rw [e10];exact B9.set0
  have z4:=E4.size;have z9:=E9.size;have z10:=X10.size
  have E4':Pure wl w10:=(E4.trans E9).own (by omega) X10
  have zw:=hRe.pure.size
  have P10:=hRe.st.pool.pure E4'
  have R10:=hRe.rows.pure E4'
  refine (jAE q w10 P10).mono ?_
  rintro _ w10 ⟨_,rfl,rfl,rfl⟩
  refine ⟨_,rfl,Kept.refl _,?_⟩
  refine (jPV q L.length w10).mono ?_
  rintro _ w12 ⟨_,rfl,q2,q3,rfl,Bq2,Bq3,E12⟩
  have z12:=E12.size
  refine ⟨_,rfl,E12.keptP,_,_,rfl,call198,_,_,jKF hW (P10.pure E12) Bq2 Bq3,?_⟩
  have hfew:=Sp.jAA hW L.length
  have hlf:=hW.ok.few
  unfold jCY at hgo
  simp only at hgo
  generalize hxs:Sp.subs L L.length=xs at *
  have E012:Pure w0 w12:=(hRe.pure.trans E4').trans E12
  have vb:∀b,(b=p2.block∨FP b∨pl.blk b)→w0.heap.size≤b:=fun b hb=>hb.elim (fun h=>by omega) (fun hb=>hb.elim (hRe.oP b) (fun h=>(hRe.own b h).1))
  have dP2:¬ FP p2.block∧¬ pl.blk p2.block:=⟨fun hh=>by have:=hRe.st.pool.lt hh;omega,fun hh=>by have:=hRe.rows.lt hh;omega⟩
  refine ⟨fun pre Y A=>Box A p2 [.int .i64 (pre.length:Int)] 3∧inRow 0 pre=pre.length∧zS A q L FP∧Rws A 3 1 pl (tmr (ps.map Int.ofNat))∧(∀b,(b=p2.block∨FP b∨pl.blk b)→¬ Y b)∧Pure w0 A,
   fun pre Y A=>Box A p2 [.int .i64 (inRow 0 xs:Int)] 3∧zS A q L FP∧Rws A 3 1 pl (tmr (ps.map Int.ofNat))∧(∀b,(b=p2.block∨FP b∨pl.blk b)→¬ Y b)∧Pure w0 A,⟨fun _ _ _ _=>trivial,?_,?_,fun _ _ _ _ _ h=>h.elim⟩,?_,?_,?_⟩
  ·rintro pre Y A Y' A' ⟨g1,g2,g3,g4,g5,g6⟩ hst
   have hv:∀b,(b=p2.block∨FP b∨pl.blk b)→¬ Y' b:=hst.disj (fun b hb=>⟨hb.elim (fun e=>e▸g1.lt) (fun hb=>hb.elim (fun h=>g3.lt h) (fun h=>g4.lt h)),g5 b hb⟩)
   exact ⟨g1.ext hst.ext (hv _ (.inl rfl)),g2,g3.ext hst.ext (fun b hb=>hv b (.inr (.inl hb))),g4.ext hst.ext (fun b hb=>hv b (.inr (.inr hb))),hv,g6.hst hst⟩
  ·rintro pre Y A Y' A' ⟨g1,g3,g4,g5,g6⟩ hst
   have hv:∀b,(b=p2.block∨FP b∨pl.blk b)→¬ Y' b:=hst.disj (fun b hb=>⟨hb.elim (fun e=>e▸g1.lt) (fun hb=>hb.elim (fun h=>g3.lt h) (fun h=>g4.lt h)),g5 b hb⟩)
   exact ⟨g1.ext hst.ext (hv _ (.inl rfl)),g3.ext hst.ext (fun b hb=>hv b (.inr (.inl hb))),g4.ext hst.ext (fun b hb=>hv b (.inr (.inr hb))),hv,g6.hst hst⟩
  ·exact ⟨B10.pure E12,rfl,P10.pure E12,R10.pure E12,fun _ _ h=>h,E012⟩
  ·rintro pre z Y A ⟨g1,g2,g3,g4,g5,g6⟩ hsA ⟨post,hpost⟩
   have hpl2:pre.length<65536:=by have:=congrArg List.length hpost;simp only [List.length_append,List.length_cons] at this;omega
   have hw:IntKind.i64.wrap ((pre.length:Int)+1)=((pre.length+1:Nat):Int):=vK (n:=pre.length+1) (by omega) (by omega)
   refine ⟨_,g1.cell0,fun hc=>?_,fun hc=>?_⟩
   ·have hc:z≠((pre.length+1:Nat):Int):=by rw [hw] at hc;exact bne_iff_ne.1 hc
    have hst:=jMV pre 0 z post (by omega) (by omega)
    rw [← hpost,Nat.zero_add] at hst
    exact ⟨Kept.refl _,by rw [hst];exact g1,g3,g4,g5,g6⟩
   ·have hc:z=((pre.length+1:Nat):Int):=by rw [hw] at hc;simpa using hc
    have hsn:=jMW pre 0 z (by omega)
    rw [if_pos (by omega)] at hsn
    refine ⟨_,g1.cell0,g1.canW0 (by simp),id,?_⟩
    rintro w13 e13
    have X13:Ext (·=p2.block) A w13:=by rw [e13];exact Ext.setCell _ _
    have B13:Box w13 p2 [.int .i64 ((pre++[z]).length:Int)] 3:=by
     rw [e13,List.length_append,List.length_singleton,← hw];exact g1.set0
    exact ⟨X13.kept (fun b hb e=>g5 b (.inl e) hb),B13,by rw [hsn,List.length_append,List.length_singleton];omega,g3.ext X13 (fun b hb e=>dP2.1 (e▸hb)),g4.ext X13 (fun b hb e=>dP2.2 (e▸hb)),g5,g6.trans' X13 (fun i hi e=>by omega)⟩
  ·rintro H1 w14 hs14 _ _ hI
   have hI:Box w14 p2 [.int .i64 (inRow 0 xs:Int)] 3∧zS w14 q L FP∧Rws w14 3 1 pl (tmr (ps.map Int.ofNat))∧(∀b,(b=p2.block∨FP b∨pl.blk b)→¬ H1 b)∧Pure w0 w14:=by
    rcases hI with ⟨g1,g2,g3,g4,g5,g6⟩ | ⟨_,g1,g3,g4,g5,g6⟩
    ·exact ⟨by rw [g2];exact g1,g3,g4,g5,g6⟩
    ·exact ⟨g1,g3,g4,g5,g6⟩
   obtain ⟨g1,g3,g4,g5,g6⟩:=hI
   refine ⟨_,g1.cell0,fun hc=>?_,fun hc=>?_⟩
   ·have hc:=yZ hpl hc
    rw [dif_pos hc] at hgo
    intro w15 hs15
    have hv15:∀b,(b=p2.block∨FP b∨pl.blk b)→¬ H1 b:=g5
    have g1':=g1.ext hs15.ext (hv15 _ (.inl rfl))
    have g4':=g4.ext hs15.ext (fun b hb=>hv15 b (.inr (.inr hb)))
    obtain ⟨a1,hat,_,hv5⟩:=jAJ g4'.lst (j:=inRow 0 xs) (by simpa using hc)
    refine ⟨_,g1'.cell0,a1,hat,_,hv5,fun w16 hs16=>?_⟩
    have:=bad _ _ w16 hgo.symm ((g6.hst hs15).hst hs16)
    rw [List.getElem_map]
    exact this
   ·have hc:¬ inRow 0 xs<ps.length:=by have:=of_decide_eq_false hc;omega
    rw [dif_neg hc] at hgo
    intro w17 hs17
    have hF17:zS w17 q L FP:=g3.ext hs17.ext (fun b hb=>g5 b (.inr (.inl hb)))
    rw [← hgo]
    exact ⟨rfl,rfl,⟨fun q' hq'=>by rw [← hgo] at hq';cases hq';exact ⟨q,FP,rfl,hF17,hRe.oP⟩,fun hn=>by rw [← hgo] at hn;cases hn⟩,g6.hst hs17⟩
theorem jQC.pool {w0 w':World} {bs:List UInt8} {x:Option Addr} (h:jQC w0 w' bs x) {q:Sp.Pool} (hq:(qF bs).1=some q):∃p F,x=some p∧zS w' p q F∧∀b,F b→w0.heap.size≤b:=h.1 q hq
end Go.Proofs
end
