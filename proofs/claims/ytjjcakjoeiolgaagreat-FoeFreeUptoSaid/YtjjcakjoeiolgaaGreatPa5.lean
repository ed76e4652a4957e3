import Derived.Test.YtjjcakjoeiolgaaGreatPa4
import Derived.Test.YtjjcakjoeiolgaaGreatPa3
import Derived.Test.YtjjcakjoeiolgaaGreatProg
import Derived.KernelRfl
import Derived.Laws.IdiomStrings
import Init.Data.Nat
import Derived.Recover
set_option linter.defProp false
section
open Go Go.SE List
namespace Go.Proofs
def vV(L:aw)(ao n:Int):dy×Bool:=
 let m:=vC L n 4
 let a:=zN L m.1.a
 let b:=zN L m.1.b
 (⟨4,ao,a.1.c,a.1.bb,a.1.dz ||b.1.dz⟩,m.2 ||a.2 ||b.2 ||a.1.az !=0 ||b.1.az !=1 ||a.1.c !=b.1.c ||!decide (a.1.bb=b.1.bb))
def qJ(L:aw)(ao body:Int):dy×Bool:=
 let g:=zR L body
 if g.1.1=tM/\ao=0 then(⟨3,0,(vC L g.1.2 2).1.num,⟨#[]⟩,false⟩,g.2 ||(vC L g.1.2 2).2)
 else if g.1.1=yS/\ao=2 then(⟨5,0,(vC L g.1.2 2).1.num,⟨#[]⟩,false⟩,g.2 ||(vC L g.1.2 2).2)
 else if g.1.1=yG/\ao=2 then(⟨6,0,(vW L g.1.2).1.1,(vW L g.1.2).1.2,false⟩,g.2 ||(vW L g.1.2).2)
 else if g.1.1=pU/\ao<=1 then(⟨2,ao,(vW L body).1.1,(vW L body).1.2,false⟩,g.2 ||(vW L body).2)
 else if g.1.1=uF/\ao<=1 then((vV L ao g.1.2).1,g.2 ||(vV L ao g.1.2).2)
 else(vx,true)
end Go.Proofs
namespace Go.Proofs
attribute [local irreducible] Calls
def lz:List Value:=[vi 0,vi 0,vu 0,vs ⟨#[]⟩,vb false]
def RH(r p p1 ao n bad w){L F}(hR:lj w r p bad L F)(hB:ai w p1 lz 35)(hne:p1.block≠r.block)(K:Int->Int->Int->ByteArray->Bool->WP)(hK:∀w6 w',lj w6 r p (bad || (vV L ao n).2) L F->ab (·=r.block) w w6->ai w' p1 [vi 4,vi ao,vu (vV L ao n).1.c,vs (vV L ao n).1.bb,vb (vV L ao n).1.dz] 35->ab (·=p1.block) w6 w'->K 4 ao (vV L ao n).1.c (vV L ao n).1.bb (vV L ao n).1.dz w'):
  Bz (some r) ao p1 n true w K:=by
 refine Br.t rfl ?_
 refine(tG r p n 4 bad w hR).mono ?_
 rintro _ w11 ⟨k2,f2,t2,u2,x2,a2,b2,rfl,hn,hR11,A⟩
 refine⟨_,_,_,_,_,_,_,rfl,?_⟩
 intro p2 w12 y
 have o12:=av.ak (ab.refl w11) y
 have l11:=hR11.box.lt
 have l1:=hB.lt
 have s11:=A.size
 refine bx 7 (ai.bj y) rfl rfl fun Y b13 E'=>?_
 have H:Pure w11 Y:=ab.ak (ab.ax y) o12 E'
 have hB11:=hB.ext A hne
 clear E' y
 refine⟨fun w'=>ai w' p2 [vi k2,vi f2,vi t2,vu u2,vs x2,vi a2,vi b2] 119,b13.pure<|ab.drew Y,?_⟩
 intro k S
 have m:Pure w11 k:=by rw[S];exact H.fb<|ab.drew Y
 have l:ai k p2 [vi k2,vi f2,vi t2,vu u2,vs x2,vi a2,vi b2] 119:=by rw[S];exact b13.pure<|ab.drew Y
 clear S
 have z:=hR11.pure m
 have hB18:=hB11.pure m
 have s18:=m.size
 have Ew18:ab (·=r.block) w k:=A.fb m
 have ea:a2=(vC L n 4).1.a:=by rw[<-hn]
 have eb:b2=(vC L n 4).1.b:=by rw[<-hn]
 generalize hbad:(bad ||(vC L n 4).2)=M at *
 have leaf : ∀ (E I : Addr) (w' : World) (ka R C : Int) (xa : ByteArray) (ga : Bool) (kb W cb : Int) (xb : ByteArray) (gb : Bool), (⟨ka, R, C, xa, ga⟩ : dy) = (zN L a2).1 -> (⟨kb, W, cb, xb, gb⟩ : dy) = (zN L b2).1 ->
   lj w' r p (M ||(zN L a2).2 ||(zN L b2).2) L F->ab (·=r.block) k w'->ai w' E [vi 0,vi 0,vu 0,vs ⟨#[]⟩,vb false] 35->ai w' I [vi 0,vi 0,vu 0,vs ⟨#[]⟩,vb false] 35->E.block≠I.block->k.heap.size<=E.block->k.heap.size<=I.block ->
   (∀j,j<5->zL w' (E.add j))/\∀Z:World,Z=bd w' E [vi ka,vi R,vu C,vs xa,vb ga] ->
   (∀j,j<5->zL Z (I.add j))/\∀g:World,g=bd Z I [vi kb,vi W,vu cb,vs xb,vb gb]->rq (some r) ao p1 E I g K:=by
  intro E I w' ka R C xa ga kb W cb xb gb hla X hR' E' hA hBb hAB hoA hoB
  have s':=E'.size
  refine bx 5 hA rfl rfl fun Z bA s=>?_
  refine bx 5 (hBb.ext s hAB.symm) rfl rfl fun g bB q=>?_
  have dA:=bA.ext q hAB
  have u:lj g r p (M ||(zN L a2).2 ||(zN L b2).2) L F:=⟨(hR'.box.ext s Om).ext q Om,(hR'.bl.ext s fun b hb e=>Oh<|hR.bl.lt hb).ext q fun b hb e=>Oh<|hR.bl.lt hb,hR'.ok,hR'.iw⟩
  have hB24:ai g p1 lz 35:=((hB18.ext E' hne).ext s Om).ext q Om
  have E24':ab (·=r.block) w g:=((Ew18.trans E').cg s fun i hi h=>Om).cg q fun i hi h=>Om
  have e1:R=(zN L a2).1.az:=by rw[<-hla]
  have e2:W=(zN L b2).1.az:=by rw[<-X]
  have e3:C=(zN L a2).1.c:=by rw[<-hla]
  have e4:cb=(zN L b2).1.c:=by rw[<-X]
  have e5:xa=(zN L a2).1.bb:=by rw[<-hla]
  have e6:xb=(zN L b2).1.bb:=by rw[<-X]
  have e7:ga=(zN L a2).1.dz:=by rw[<-hla]
  have e8:gb=(zN L b2).1.dz:=by rw[<-X]
  generalize hb3:(M ||(zN L a2).2 ||(zN L b2).2)=o at *
  have hsp:vV L ao n=(⟨4,ao,C,xa,ga ||gb⟩,(vC L n 4).2 ||(zN L a2).2 ||(zN L b2).2 ||R !=0 ||W !=1 ||C !=cb ||!decide (xa=xb)):=by
   simp only[vV,<-ea,<-eb,<-e1,<-e2,<-e3,<-e4,<-e5,<-e6,<-e7,<-e8]
  have hbb:(bad ||(vV L ao n).2)=(o ||R !=0 ||W !=1 ||C !=cb ||!decide (xa=xb)):=Gd
  rw[hbb]at hK
  rw[hsp]at hK
  have J7:∀(v:Bool) (w5:World),v=(o ||R !=0 ||W !=1 ||C !=cb ||!decide (xa=xb))->ai w5 r [vp p,vb v] 212->ab (·=r.block) g w5->EY ao p1 E I w5 K:=by
   intro v w5 hv B5 P;have hR5:lj w5 r p v L F:=⟨B5,u.bl.ext P fun b hb e=>hR.iw<|e▸hb,hR.ok,hR.iw⟩;have dA5:=dA.ext P Om;have dB5:=bB.ext P Om;have B:=hB24.ext P hne;refine⟨C,dA5.cell rfl,xa,dA5.cell rfl,ga,dA5.cell rfl,fun hg=>?_,fun hg=>⟨gb,dB5.cell rfl,?_⟩⟩;refine bx 5 B rfl rfl fun w6 b6 E6=>⟨4,ao,C,xa,true,b6.row,?_⟩;have:=hK w5 w6 (by rw[<-hv];exact hR5) (E24'.trans P) (by rw[hg];exact b6) E6;rw[hg]at this;exact this;refine bx 5 B rfl rfl fun w6 b6 E6=>⟨4,ao,C,xa,gb,b6.row,?_⟩;have:=hK w5 w6 (by rw[<-hv];exact hR5) (E24'.trans P) (by rw[hg];exact b6) E6;rw[hg]at this;exact this
  have setr:∀v:Bool,ai (g.setCell (r.add 1)<|vb v) r [vp p,vb v] 212/\ab (·=r.block) g (g.setCell (r.add 1)<|vb v):=fun v =>
   ⟨u.box.set 1 _,by have:=ab.setCell (w:=g) (r.add 1)<|vb v;rw[zC]at this;exact this⟩
  have J10:∀x,x=(o ||R !=0 ||W !=1 ||C !=cb)->C7 (some r) ao p1 E I x g K:=by
   intro x hx;refine⟨fun h=>⟨r,rfl,u.box.eh Sm,?_⟩,fun h=>⟨xa,dA.cell rfl,xb,bB.cell rfl,r,rfl,u.box.eh Sm,?_⟩⟩;grind;grind
  have J9:∀x,x=(o ||R !=0 ||W !=1)->Cy (some r) ao p1 E I x g K:=by
   intro x hx;exact⟨fun h=>J10 _ (by rw[<-hx,h];rfl),fun h=>⟨C,dA.cell rfl,cb,bB.cell rfl,J10 _ (by rw[<-hx,h];rfl)⟩⟩
  have J8:∀x,x=(o ||R !=0)->DB (some r) ao p1 E I x g K:=by
   intro x hx;exact⟨fun h=>J9 _ (by rw[<-hx,h];rfl),fun h=>⟨W,bB.cell rfl,J9 _ (by rw[<-hx,h];rfl)⟩⟩
  exact⟨r,rfl,o,u.box.cell rfl,fun h=>J8 _ (by rw[h];rfl),fun h=>⟨R,dA.cell rfl,J8 _ (by rw[h];rfl)⟩⟩
 have l18:=z.box.lt
 have Er18:ab (·=r.block) k k:=ab.refl k
 refine⟨a2,fun w' h=>h.cell rfl,b2,fun w' h=>h.cell rfl,?_⟩
 skip
 refine⟨?_,?_,?_⟩
 skip
 refine(vG r p a2 _ k z).mono ?_
 rintro _ v1 ⟨k1,f1,c1,x1,g1,rfl,f,R1,e1⟩
 have E1:=Er18.trans e1
 have s1:=E1.size
 refine⟨_,_,_,_,_,rfl,l.ext E1 Om,?_⟩
 refine⟨?_,?_,?_⟩
 skip
 refine(vG r p b2 _ v1 R1).mono ?_
 rintro _ v2 ⟨k2,f2,c2,x2,g2,rfl,d,R2,e2⟩
 have E2:=E1.trans e2
 have s2:=E2.size
 refine⟨_,_,_,_,_,rfl,?_⟩
 refine⟨?_,?_⟩
 skip
 intro q3 v3 h3
 have e3:Pure v2 v3:=ab.ax h3
 have o3:=h3.cu
 have R3:=R2.pure e3
 have E3:=E2.fb e3
 have s3:=E3.size
 have t3:=(E2).size
 have bA3:=ai.bj h3
 refine⟨l.ext E3 Om,?_⟩
 intro q4 v4 h4
 have e4:Pure v3 v4:=ab.ax h4
 have o4:=h4.cu
 have R4:=R3.pure e4
 have E4:=E3.fb e4
 have s4:=E4.size
 have t4:=(E3).size
 have bA4:=bA3.pure e4
 have lA4:=bA3.lt
 have bB4:=ai.bj h4
 refine⟨l.ext E4 Om,?_⟩
 exact leaf q3 q4 v4 _ _ _ _ _ _ _ _ _ _ f d R4 E4 bA4 bB4 Om Om Om
 skip
 intro q5 v5 h5
 have e5:Pure v2 v5:=ab.ax h5
 have o5:=h5.cu
 have R5:=R2.pure e5
 have P:=E2.fb e5
 have s5:=P.size
 have t5:=(E2).size
 have bB5:=ai.bj h5
 refine⟨l.ext P Om,?_⟩
 intro q6 v6 h6
 have e6:Pure v5 v6:=ab.ax h6
 have o6:=h6.cu
 have R6:=R5.pure e6
 have E6:=P.fb e6
 have s6:=E6.size
 have t6:=(P).size
 have bB6:=bB5.pure e6
 have lB6:=bB5.lt
 have bA6:=ai.bj h6
 refine⟨l.ext E6 Om,?_⟩
 exact leaf q6 q5 v6 _ _ _ _ _ _ _ _ _ _ f d R6 E6 bA6 bB6 Om Om Om
 skip
 intro q7 v7 h7
 have e7:Pure v1 v7:=ab.ax h7
 have o7:=h7.cu
 have R7:=R1.pure e7
 have E7:=E1.fb e7
 have s7:=E7.size
 have t7:=(E1).size
 have bA7:=ai.bj h7
 refine⟨l.ext E7 Om,?_⟩
 refine⟨?_,?_⟩
 skip
 refine(vG r p b2 _ v7 R7).mono ?_
 rintro _ v8 ⟨k8,f8,c8,x8,g8,rfl,d,R8,e8⟩
 have E8:=E7.trans e8
 have bA8:=bA7.ext e8 Om
 have s8:=E8.size
 refine⟨_,_,_,_,_,rfl,?_⟩
 intro q9 v9 h9
 have e9:Pure v8 v9:=ab.ax h9
 have o9:=h9.cu
 have R9:=R8.pure e9
 have E9:=E8.fb e9
 have s9:=E9.size
 have t9:=(E8).size
 have bA9:=bA8.pure e9
 have lA9:=bA8.lt
 have bB9:=ai.bj h9
 refine⟨l.ext E9 Om,?_⟩
 exact leaf q7 q9 v9 _ _ _ _ _ _ _ _ _ _ f d R9 E9 bA9 bB9 Om Om Om
 skip
 intro q10 v10 h10
 have e10:Pure v7 v10:=ab.ax h10
 have o10:=h10.cu
 have R10:=R7.pure e10
 have E10:=E7.fb e10
 have s10:=E10.size
 have t10:=(E7).size
 have bA10:=bA7.pure e10
 have lA10:=bA7.lt
 have bB10:=ai.bj h10
 refine⟨l.ext E10 Om,?_⟩
 refine(vG r p b2 _ v10 R10).mono ?_
 rintro _ v11 ⟨k11,f11,c11,x11,g11,rfl,d,R11,e11⟩
 have A:=E10.trans e11
 have bA11:=bA10.ext e11 Om
 have bB11:=bB10.ext e11 Om
 have s11:=A.size
 refine⟨_,_,_,_,_,rfl,?_⟩
 exact leaf q7 q10 v11 _ _ _ _ _ _ _ _ _ _ f d R11 A bA11 bB11 Om Om Om
 skip
 intro q12 v12 y
 have e12:Pure v1 v12:=ab.ax y
 have o12:=y.cu
 have R12:=R1.pure e12
 have G:=E1.fb e12
 have s12:=G.size
 have t12:=(E1).size
 have J:=ai.bj y
 refine⟨l.ext G Om,?_⟩
 refine⟨?_,?_⟩
 skip
 refine(vG r p b2 _ v12 R12).mono ?_
 rintro _ v13 ⟨k13,f13,c13,x13,g13,rfl,d,R13,e13⟩
 have H:=G.trans e13
 have bB13:=J.ext e13 Om
 have s13:=H.size
 refine⟨_,_,_,_,_,rfl,?_⟩
 intro q14 v14 h14
 have e14:Pure v13 v14:=ab.ax h14
 have o14:=h14.cu
 have R14:=R13.pure e14
 have E14:=H.fb e14
 have s14:=E14.size
 have t14:=(H).size
 have bB14:=bB13.pure e14
 have lB14:=bB13.lt
 have bA14:=ai.bj h14
 refine⟨l.ext E14 Om,?_⟩
 exact leaf q14 q12 v14 _ _ _ _ _ _ _ _ _ _ f d R14 E14 bA14 bB14 Om Om Om
 skip
 intro q15 v15 B
 have e15:Pure v12 v15:=ab.ax B
 have o15:=B.cu
 have R15:=R12.pure e15
 have E15:=G.fb e15
 have s15:=E15.size
 have t15:=(G).size
 have bB15:=J.pure e15
 have lB15:=J.lt
 have bA15:=ai.bj B
 refine⟨l.ext E15 Om,?_⟩
 refine(vG r p b2 _ v15 R15).mono ?_
 rintro _ v16 ⟨k16,f16,c16,x16,g16,rfl,d,R16,e16⟩
 have E16:=E15.trans e16
 have bA16:=bA15.ext e16 Om
 have bB16:=bB15.ext e16 Om
 have s16:=E16.size
 refine⟨_,_,_,_,_,rfl,?_⟩
 exact leaf q15 q12 v16 _ _ _ _ _ _ _ _ _ _ f d R16 E16 bA16 bB16 Om Om Om
 skip
 intro q17 v17 h17
 have e17:Pure k v17:=ab.ax h17
 have o17:=h17.cu
 have R17:=z.pure e17
 have Q:=Er18.fb e17
 have s17:=Q.size
 have t17:=(Er18).size
 have V:=ai.bj h17
 refine⟨l.ext Q Om,?_⟩
 refine⟨?_,?_⟩
 skip
 refine(vG r p a2 _ v17 R17).mono ?_
 rintro _ v18 ⟨k18,f18,c18,x18,g18,rfl,f,R18,e18⟩
 have m:=Q.trans e18
 have D:=V.ext e18 Om
 have s18:=m.size
 refine⟨_,_,_,_,_,rfl,l.ext m Om,?_⟩
 refine⟨?_,?_⟩
 skip
 refine(vG r p b2 _ v18 R18).mono ?_
 rintro _ v19 ⟨k19,f19,c19,x19,g19,rfl,d,R19,e19⟩
 have E19:=m.trans e19
 have bA19:=D.ext e19 Om
 have s19:=E19.size
 refine⟨_,_,_,_,_,rfl,?_⟩
 intro q20 v20 h20
 have e20:Pure v19 v20:=ab.ax h20
 have o20:=h20.cu
 have R20:=R19.pure e20
 have E20:=E19.fb e20
 have s20:=E20.size
 have t20:=(E19).size
 have bA20:=bA19.pure e20
 have lA20:=bA19.lt
 have bB20:=ai.bj h20
 refine⟨l.ext E20 Om,?_⟩
 exact leaf q17 q20 v20 _ _ _ _ _ _ _ _ _ _ f d R20 E20 bA20 bB20 Om Om Om
 skip
 intro q21 v21 h21
 have e21:Pure v18 v21:=ab.ax h21
 have o21:=h21.cu
 have R21:=R18.pure e21
 have E21:=m.fb e21
 have s21:=E21.size
 have t21:=(m).size
 have bA21:=D.pure e21
 have lA21:=D.lt
 have bB21:=ai.bj h21
 refine⟨l.ext E21 Om,?_⟩
 refine(vG r p b2 _ v21 R21).mono ?_
 rintro _ v22 ⟨k22,f22,c22,x22,g22,rfl,d,R22,e22⟩
 have E22:=E21.trans e22
 have bA22:=bA21.ext e22 Om
 have bB22:=bB21.ext e22 Om
 have s22:=E22.size
 refine⟨_,_,_,_,_,rfl,?_⟩
 exact leaf q17 q21 v22 _ _ _ _ _ _ _ _ _ _ f d R22 E22 bA22 bB22 Om Om Om
 skip
 intro q23 v23 h23
 have e23:Pure v17 v23:=ab.ax h23
 have o23:=h23.cu
 have R23:=R17.pure e23
 have s:=Q.fb e23
 have s23:=s.size
 have t23:=(Q).size
 have bA23:=V.pure e23
 have lA23:=V.lt
 have bB23:=ai.bj h23
 refine⟨l.ext s Om,?_⟩
 refine(vG r p a2 _ v23 R23).mono ?_
 rintro _ v24 ⟨k24,f24,c24,x24,g24,rfl,f,R24,e24⟩
 have q:=s.trans e24
 have bA24:=bA23.ext e24 Om
 have bB24:=bB23.ext e24 Om
 have s24:=q.size
 refine⟨_,_,_,_,_,rfl,l.ext q Om,?_⟩
 refine(vG r p b2 _ v24 R24).mono ?_
 rintro _ v25 ⟨k25,f25,c25,x25,g25,rfl,d,R25,e25⟩
 have E25:=q.trans e25
 have bA25:=bA24.ext e25 Om
 have bB25:=bB24.ext e25 Om
 have s25:=E25.size
 refine⟨_,_,_,_,_,rfl,?_⟩
 exact leaf q17 q23 v25 _ _ _ _ _ _ _ _ _ _ f d R25 E25 bA25 bB25 Om Om Om
 skip
 intro q26 v26 h26
 have e26:Pure k v26:=ab.ax h26
 have o26:=h26.cu
 have R26:=z.pure e26
 have T:=Er18.fb e26
 have s26:=T.size
 have t26:=(Er18).size
 have N:=ai.bj h26
 refine⟨l.ext T Om,?_⟩
 refine⟨?_,?_⟩
 skip
 refine(vG r p a2 _ v26 R26).mono ?_
 rintro _ v27 ⟨k27,f27,c27,x27,g27,rfl,f,R27,e27⟩
 have U:=T.trans e27
 have O:=N.ext e27 Om
 have s27:=U.size
 refine⟨_,_,_,_,_,rfl,l.ext U Om,?_⟩
 refine⟨?_,?_⟩
 skip
 refine(vG r p b2 _ v27 R27).mono ?_
 rintro _ v28 ⟨k28,f28,c28,x28,g28,rfl,d,R28,e28⟩
 have E28:=U.trans e28
 have bB28:=O.ext e28 Om
 have s28:=E28.size
 refine⟨_,_,_,_,_,rfl,?_⟩
 intro q29 v29 h29
 have e29:Pure v28 v29:=ab.ax h29
 have o29:=h29.cu
 have R29:=R28.pure e29
 have E29:=E28.fb e29
 have s29:=E29.size
 have t29:=(E28).size
 have bB29:=bB28.pure e29
 have lB29:=bB28.lt
 have bA29:=ai.bj h29
 refine⟨l.ext E29 Om,?_⟩
 exact leaf q29 q26 v29 _ _ _ _ _ _ _ _ _ _ f d R29 E29 bA29 bB29 Om Om Om
 skip
 intro q30 v30 h30
 have e30:Pure v27 v30:=ab.ax h30
 have o30:=h30.cu
 have R30:=R27.pure e30
 have E30:=U.fb e30
 have s30:=E30.size
 have t30:=(U).size
 have bB30:=O.pure e30
 have lB30:=O.lt
 have bA30:=ai.bj h30
 refine⟨l.ext E30 Om,?_⟩
 refine(vG r p b2 _ v30 R30).mono ?_
 rintro _ v31 ⟨k31,f31,c31,x31,g31,rfl,d,R31,e31⟩
 have E31:=E30.trans e31
 have bA31:=bA30.ext e31 Om
 have bB31:=bB30.ext e31 Om
 have s31:=E31.size
 refine⟨_,_,_,_,_,rfl,?_⟩
 exact leaf q30 q26 v31 _ _ _ _ _ _ _ _ _ _ f d R31 E31 bA31 bB31 Om Om Om
 skip
 intro q32 v32 h32
 have e32:Pure v26 v32:=ab.ax h32
 have o32:=h32.cu
 have R32:=R26.pure e32
 have E32:=T.fb e32
 have s32:=E32.size
 have t32:=(T).size
 have bB32:=N.pure e32
 have lB32:=N.lt
 have bA32:=ai.bj h32
 refine⟨l.ext E32 Om,?_⟩
 refine(vG r p a2 _ v32 R32).mono ?_
 rintro _ v33 ⟨k33,f33,c33,x33,g33,rfl,f,R33,e33⟩
 have E33:=E32.trans e33
 have bA33:=bA32.ext e33 Om
 have bB33:=bB32.ext e33 Om
 have s33:=E33.size
 refine⟨_,_,_,_,_,rfl,l.ext E33 Om,?_⟩
 refine(vG r p b2 _ v33 R33).mono ?_
 rintro _ v34 ⟨k34,f34,c34,x34,g34,rfl,d,R34,e34⟩
 have E34:=E33.trans e34
 have bA34:=bA33.ext e34 Om
 have bB34:=bB33.ext e34 Om
 have s34:=E34.size
 refine⟨_,_,_,_,_,rfl,?_⟩
 exact leaf q32 q26 v34 _ _ _ _ _ _ _ _ _ _ f d R34 E34 bA34 bB34 Om Om Om
end Go.Proofs
end
section
open Go Go.SE List
namespace Go.Proofs
def nz(L:aw)(t:Int):dy×Bool:=
 let n:=ad L t
 if n.kind=7 then qJ L n.az n.a else if n.kind=8\/n.kind=9 then zN L t
 else if((zR L t).2 ||!decide ((zR L t).1.1=wE))=true then(vx,true)
 else(⟨7,0,(vC L (zR L t).1.2 2).1.num,⟨#[]⟩,false⟩,(vC L (zR L t).1.2 2).2)
def mo(L:aw)(t:Int):dy×Bool:=if(nz L t).2=true then(vx,false)else((nz L t).1,true)
end Go.Proofs
namespace Go.Proofs
open Tryz
attribute [local irreducible] Calls
def VD(r p ao body bad w){L F}(D:lj w r p bad L F):
  cl 139 #[vp<|some r,vi ao,vi body] w
   (XQ fun k f c x I w'=>(⟨k,f,c,x,I⟩:dy)=(qJ L ao body).1/\lj w' r p (bad ||(qJ L ao body).2) L F/\ab (·=r.block) w w'):=by
 suffices key:∀K:Int->Int->Int->ByteArray->Bool->WP,(∀k f c x I w',((⟨k,f,c,x,I⟩:dy)=(qJ L ao body).1/\lj w' r p (bad ||(qJ L ao body).2) L F/\ab (·=r.block) w w')->K k f c x I w')->N8 (some r) ao body w K from
  Y8 _ _ _ w _<|key _ fun _ _ _ _ _ _ h=>h
 intro K hK
 intro q w1 h1
 have E1:Pure w w1:=ab.ax h1
 have o1:=av.ak (ab.refl w) h1
 have lr:=D.box.lt
 have b1:ai w1 q lz 35:=ai.bj h1
 have ne:q.block≠r.block:=Om
 refine(FB r p body bad w1<|D.pure E1).mono ?_
 rintro _ A ⟨x,y,rfl,hg,B,Y⟩
 refine⟨_,_,rfl,?_⟩
 have b2:=b1.ext Y ne
 have E2:ab (·=r.block) w A:=E1.pure.trans Y
 have ex:x=(zR L body).1.1:=congrArg Prod.fst hg
 have ey:y=(zR L body).1.2:=congrArg Prod.snd hg
 have C:qJ L ao body=if x=tM/\ao=0 then(⟨3,0,(vC L y 2).1.num,⟨#[]⟩,false⟩,(zR L body).2 ||(vC L y 2).2)
  else if x=yS/\ao=2 then(⟨5,0,(vC L y 2).1.num,⟨#[]⟩,false⟩,(zR L body).2 ||(vC L y 2).2)
  else if x=yG/\ao=2 then(⟨6,0,(vW L y).1.1,(vW L y).1.2,false⟩,(zR L body).2 ||(vW L y).2)
  else if x=pU/\ao<=1 then(⟨2,ao,(vW L body).1.1,(vW L body).1.2,false⟩,(zR L body).2 ||(vW L body).2)
  else if x=uF/\ao<=1 then((vV L ao y).1,(zR L body).2 ||(vV L ao y).2)
  else(vx,true):=by
  simp only[qJ,<-ex,<-ey]
 clear ex ey hg
 generalize hbg:(zR L body).2=g2 at *
 have M : ∀ (k f c : Int) (z : ByteArray) (I v : Bool) (V : World), qJ L ao body = (⟨k, f, c, z, I⟩, v) -> lj V r p (bad || v) L F -> ab (· = r.block) A V ->
   (∀j,j<5->zL V (q.add j))/\∀Q:World,Q=bd V q [(vi k),(vi f),(vu c),(vs z),(vb I)] ->
   ∃l:Int,∃g:Int,∃s:Int,∃a:ByteArray,∃d:Bool,Row Q q [(vi l),(vi g),(vu s),(vs a),(vb d)] /\
   K l g s a d Q:=by
  intro k f c z I v V hs P X
  refine bx 5 (b2.ext X ne) rfl rfl fun Q b6 S=>⟨k,f,c,z,I,b6.row,hK _ _ _ _ _ _ ⟨by rw[hs],?_,?_⟩⟩
  rw[hs];exact⟨P.box.ext S ne.symm,P.bl.ext S fun b u e=>Oh<|D.bl.lt u,D.ok,D.iw⟩
  exact(E2.trans X).cg S fun i hi h=>Om
 have n : ∀ (k : Int), qJ L ao body = (⟨k, 0, (vC L y 2).1.num, ⟨#[]⟩, false⟩, g2 || (vC L y 2).2) ->
   cl 142 #[vp<|some r,vi y,vi 2] A (fun e O=>∃H:Int,∃J:Int,∃U:Int,∃E:Int,∃G:ByteArray,∃rA1:Int,∃rB1:Int,e=.returned (.agg #[(vi H),(vi J),(vi U),(vu E),(vs G),(vi rA1),(vi rB1)]) /\
    (∀j,j<5->zL O (q.add j))/\∀w4:World,w4=bd O q [(vi k),(vi 0),(vu E),(vs (⟨#[]⟩:ByteArray)),(vb false)] ->
    ∃l:Int,∃g:Int,∃s:Int,∃a:ByteArray,∃d:Bool,Row w4 q [(vi l),(vi g),(vu s),(vs a),(vb d)] /\
    K l g s a d w4):=by
  intro k hs
  refine(tG r p y 2 _ A B).mono ?_
  rintro _ O ⟨k3,f3,t3,u3,x3,a3,b3,rfl,hn3,T,E3⟩
  have e3:u3=(vC L y 2).1.num:=by rw[<-hn3]
  refine⟨_,_,_,_,_,_,_,rfl,?_⟩
  rw[<-e3]at hs
  exact M _ _ _ _ _ _ O hs Gd E3
 have o : ∀ (k f t : Int), qJ L ao body = (⟨k, f, (vW L t).1.1, (vW L t).1.2, false⟩, g2 || (vW L t).2) ->
   cl 189 #[vp<|some r,vi t] A (fun e w7=>∃r4:Int,∃r5:ByteArray,e=.returned (.tuple #[(vu r4),(vs r5)]) /\
    (∀j,j<5->zL w7 (q.add j))/\∀w8:World,w8=bd w7 q [(vi k),(vi f),(vu r4),(vs r5),(vb false)] ->
    ∃l:Int,∃g:Int,∃s:Int,∃a:ByteArray,∃d:Bool,Row w8 q [(vi l),(vi g),(vu s),(vs a),(vb d)] /\
    K l g s a d w8):=by
  intro k f t hs
  refine(Qt r p t _ A B).mono ?_
  rintro _ O ⟨c,z,rfl,hd,T,E3⟩
  have e1:c=(vW L t).1.1:=congrArg Prod.fst hd
  have e2:z=(vW L t).1.2:=congrArg Prod.snd hd
  refine⟨_,_,rfl,?_⟩
  rw[<-e1,<-e2]at hs
  exact M _ _ _ _ _ _ O hs (by rw[<-Bool.or_assoc];exact T) E3
 have J5:∀b,b=decide (x=uF/\ao<=1)->¬(x=tM/\ao=0)->¬(x=yS/\ao=2)->¬(x=yG/\ao=2)->¬(x=pU/\ao<=1)->Bz (some r) ao q y b A K:=by
  intro b u h1 h2 h3 Z;rw[if_neg h1,if_neg h2,if_neg h3,if_neg Z]at C;cases R:b with
  |true =>
   have hc:x=uF/\ao<=1:=of_decide_eq_true (by rw[<-u,R])
   rw[if_pos hc]at C
   refine RH r p q ao y _ A B b2 ne K fun Q w' W S b' E'=>hK _ _ _ _ _ _ ⟨by rw[C];rfl,?_,?_⟩
   rw[C];simp only[<-Bool.or_assoc]
   exact⟨W.box.ext E' ne.symm,W.bl.ext E' fun b u e=>Oh<|D.bl.lt u,D.ok,D.iw⟩
   exact(E2.trans S).cg E' fun i hi h=>Om
  |false =>
   have hc:¬(x=uF/\ao<=1):=of_decide_eq_false (by rw[<-u,R])
   rw[if_neg hc]at C
   refine Br.f rfl ⟨r,rfl,B.box.eh Sm,?_⟩
   intro N m
   have d5:ai N r [vp p,vb true] 212:=by rw[m];exact B.box.set 1 _
   have X:ab (·=r.block) A N:=by rw[m];have:=ab.setCell (w:=A) (r.add 1)<|vb true;rw[zC]at this;exact this
   exact M 0 0 0 ⟨#[]⟩ false true N C (by rw[Bool.or_true];exact⟨d5,B.bl.ext X fun b u e=>D.iw<|e▸u,D.ok,D.iw⟩) X
 have J4:∀b,b=decide (x=pU/\ao<=1)->¬(x=tM/\ao=0)->¬(x=yS/\ao=2)->¬(x=yG/\ao=2)->CL (some r) ao body q x y b A K:=by
  intro b u h1 h2 h3;refine⟨fun h=>o 2 ao body ?_,fun h=>?_⟩;grind;have Z:¬(x=pU/\ao<=1):=of_decide_eq_false (by rw[<-u,h]);exact⟨fun m=>J5 _ (by have:x=uF:=of_decide_eq_true m;simp[this]) h1 h2 h3 Z,fun m=>J5 _ (by have:¬x=uF:=of_decide_eq_false m;simp[this]) h1 h2 h3 Z⟩
 have J3:∀b,b=decide (x=yG/\ao=2)->¬(x=tM/\ao=0)->¬(x=yS/\ao=2)->Du (some r) ao body q x y b A K:=by
  intro b u h1 h2;refine⟨fun h=>o 6 0 y ?_,fun h=>?_⟩;grind;have h3:¬(x=yG/\ao=2):=of_decide_eq_false (by rw[<-u,h]);exact⟨fun m=>J4 _ (by have:x=pU:=of_decide_eq_true m;simp[this]) h1 h2 h3,fun m=>J4 _ (by have:¬x=pU:=of_decide_eq_false m;simp[this]) h1 h2 h3⟩
 have J2:∀b,b=decide (x=yS/\ao=2)->¬(x=tM/\ao=0)->Df (some r) ao body q x y b A K:=by
  intro b u h1;refine⟨fun h=>n 5 ?_,fun h=>?_⟩;grind;have h2:¬(x=yS/\ao=2):=of_decide_eq_false (by rw[<-u,h]);exact⟨fun m=>J3 _ (by have:x=yG:=of_decide_eq_true m;simp[this];rfl) h1 h2,fun m=>J3 _ (by have:¬x=yG:=of_decide_eq_false m;simp[this]) h1 h2⟩
 have J1:∀b,b=decide (x=tM/\ao=0)->EN (some r) ao body q x y b A K:=by
  intro b u;refine⟨fun h=>n 3 ?_,fun h=>?_⟩;grind;have h1:¬(x=tM/\ao=0):=of_decide_eq_false (by rw[<-u,h]);exact⟨fun m=>J2 _ (by have:x=yS:=of_decide_eq_true m;simp[this];rfl) h1,fun m=>J2 _ (by have:¬x=yS:=of_decide_eq_false m;simp[this]) h1⟩
 exact⟨fun m=>J1 _ (by have:x=tM:=of_decide_eq_true m;simp[this];rfl),fun m=>J1 _ (by have:¬x=tM:=of_decide_eq_false m;simp[this])⟩
end Go.Proofs
end
section
open Go Go.SE List
namespace Go.Proofs
open Tryz
attribute [local irreducible] Calls
def jLF(p t w){L F}(hP:sS w p L F)(T:Ok L):
  cl 73 #[vp p,vi t] w
   (XR fun k f c x fk ok w'=>((⟨k,f,c,x,fk⟩:dy),ok)=mo L t/\Pure w w'):=by
 suffices key:∀K:Int->Int->Int->ByteArray->Bool->Bool->WP,(∀k f c x fk ok w',(((⟨k,f,c,x,fk⟩:dy),ok)=mo L t/\Pure w w')->K k f c x fk ok w')->JK p t w K from
  w_K _ _ w _<|key _ fun _ _ _ _ _ _ _ h=>h
 intro K hK
 intro J w1 h1 q w2 h2
 have E1:Pure w w1:=ab.ax h1
 have E2:Pure w w2:=E1.trans<|ab.ax h2
 have o2:=av.ak (ab.refl w) h1
 have o3:=av.ak E1 h2
 have n23:J.block≠q.block:=av.ne h2 (ai.bj h1).aq
 have b2:ai w2 J lz 35:=(ai.bj h1).pure<|ab.ax h2
 have M:¬F q.block:=fun h=>Oh<|hP.lt h
 have V:lj w2 q p false L F:=⟨ai.bj h2,hP.pure E2,T,M⟩
 refine(Hs p t w2 V.bl T).mono ?_
 rintro _ w3 ⟨k,f,t',u,x,a,b,ok,rfl,⟨hn,_⟩,E23⟩
 refine⟨_,_,_,_,_,_,_,_,rfl,?_⟩
 intro p4 w4 h4
 have E3:Pure w2 w3:=E23
 have o4:=av.ak (ab.refl w3) h4
 have l3:=(V.pure E3).box.lt
 have l2:=(b2.pure E3).lt
 refine bx 7 (ai.bj h4) rfl rfl fun w5 b4 E'=>?_
 have E5:Pure w3 w5:=ab.ak (ab.ax h4) o4 E'
 intro G C h6
 have E6:Pure w3 C:=E5.trans<|ab.ax h6
 have o5:=av.ak E5 h6
 have n45:p4.block≠G.block:=av.ne h6 b4.aq
 have c4:=b4.pure (ab.ax h6:Pure w5 C)
 have c5:ai C G lz 35:=ai.bj h6
 have c2:=b2.pure<|E3.trans E6
 have X:=V.pure<|E3.trans E6
 have E26:Pure w C:=(E2.trans E3).trans E6
 clear E' h1 h2 h4 h6
 have H:q.block≠G.block:=Om
 have n25:J.block≠G.block:=Om
 have I:nz L t=if k=7 then qJ L f a else if k=8\/k=9 then zN L t else if((zR L t).2 ||!decide ((zR L t).1.1=wE))=true then(vx,true)else(⟨7,0,(vC L (zR L t).1.2 2).1.num,⟨#[]⟩,false⟩,(vC L (zR L t).1.2 2).2):=by
  simp only[nz,<-hn]
 have B : ∀ (o : World), (nz L t).2 = true -> ab (fun b => b = q.block \/ b = G.block) C o -> (∀ j, j < 5 -> zL o (J.add j)) /\ ∀ Q : World, Q = bd o J [(vi 0), (vi 0), (vu 0), (vs (⟨#[]⟩ : ByteArray)), (vb false)] ->
   ∃n:Int,∃g:Int,∃N:Int,∃d:ByteArray,∃m:Bool,Row Q J [(vi n),(vi g),(vu N),(vs d),(vb m)]/\K n g N d m false Q:=by
  intro o Z s
  refine bx 5 (c2.ext s (by rintro(h|h)<;>omega)) rfl rfl fun Q b9 E9=>⟨0,0,0,⟨#[]⟩,false,b9.row,hK _ _ _ _ _ _ _ ⟨?_,?_⟩⟩
  rw[mo,if_pos Z];rfl
  exact(E26.cg s Gd).cg E9 fun i hi h=>Om
 have y : ∀ (o : World) (l : dy), nz L t = (l, false) -> ab (fun b => b = q.block \/ b = G.block) C o -> ai o G [vi l.kind, vi l.az, vu l.c, vs l.bb, vb l.dz] 35 ->
   ∃A:Int,∃z:Int,∃vC1:Int,∃E:ByteArray,∃D:Bool,Row o G [(vi A),(vi z),(vu vC1),(vs E),(vb D)] /\
   (∀j,j<5->zL o (J.add j))/\∀Q:World,Q=bd o J [(vi A),(vi z),(vu vC1),(vs E),(vb D)] ->
   ∃n:Int,∃g:Int,∃N:Int,∃d:ByteArray,∃m:Bool,Row Q J [(vi n),(vi g),(vu N),(vs d),(vb m)]/\K n g N d m true Q:=by
  intro o l Z s B8
  refine⟨_,_,_,_,_,B8.row,?_⟩
  refine bx 5 (c2.ext s (by rintro(h|h)<;>omega)) rfl rfl fun Q b9 E9=>⟨l.kind,l.az,l.c,l.bb,l.dz,b9.row,hK _ _ _ _ _ _ _ ⟨?_,?_⟩⟩
  rw[mo,if_neg (by rw[Z];simp),Z]
  exact(E26.cg s fun i hi h=>by rcases h with h|h<;>omega).cg E9 fun i hi h=>Om
 have Y:∀{O o:World},ab (·=q.block) C O->ab (·=G.block) O o->ab (fun b=>b=q.block\/b=G.block) C o:=fun h h'=>(h.mono fun _ _ h=>.inl h).cg h' fun _ _ h=>.inr h
 have J1p:∀b,b=true->k≠7->(k=8\/k=9)->Cq t J q G b C K:=by
  rintro _ rfl h7 S;rw[if_neg h7,if_pos S]at I;refine Br.t rfl ?_;refine(vG q p t false C X).mono ?_;rintro _ O ⟨k7,f7,c7,U,g7,rfl,hl,r,P⟩;refine⟨_,_,_,_,_,rfl,bx 5 (c5.ext P H.symm) rfl rfl fun o b8 s=>⟨(zN L t).2,?_,fun h=>B o (by rw[I];exact h) (Y P s),fun h=>y o ⟨k7,f7,c7,U,g7⟩ (by rw[I,hl,<-h]) (Y P s) b8⟩⟩;have:=(r.box.ext s H).cell (i:=1) rfl;simpa using this
 have J1t:∀b,b=false->k≠7->¬(k=8\/k=9)->Cq t J q G b C K:=by
  rintro _ rfl h7 S;rw[if_neg h7,if_neg S]at I;refine Br.f rfl ?_;refine(FB q p t false C X).mono ?_;rintro _ O ⟨U,y7,rfl,hg,r,P⟩;have ex:U=(zR L t).1.1:=congrArg Prod.fst hg;have ey:y7=(zR L t).1.2:=congrArg Prod.snd hg;rw[<-ex,<-ey]at I;have R:∀v:Bool,ai (O.setCell (q.add 1)<|vb v) q [vp p,vb v] 212/\ab (·=q.block) O (O.setCell (q.add 1)<|vb v):=fun v =>
   ⟨r.box.set 1 _,by have:=ab.setCell (w:=O) (q.add 1)<|vb v;rw[zC]at this;exact this⟩
  have J3:∀(v:Bool) (o:World),v=((zR L t).2 ||!decide (U=wE))->ai o q [vp p,vb v] 212->ab (·=q.block) O o->CX J q G y7 o K:=by
   intro v o hv B8 s;have E68:=P.trans s;have E68':ab (fun b=>b=q.block\/b=G.block) C o:=E68.mono fun _ _ h=>.inl h;refine⟨v,B8.cell rfl,fun h=>⟨v,B8.cell rfl,fun _=>B o (by rw[I,<-hv,if_pos h]) E68',fun h'=>(by rw[h]at h';cases h')⟩,fun h=>?_⟩;rw[<-hv,if_neg (by rw[h];simp)]at I;subst h;refine(tG q p y7 2 false o ⟨B8,r.bl.ext s fun b Z e=>M<|e▸Z,T,M⟩).mono ?_;rintro _ w16 ⟨k3,f3,t3,u3,x3,a3,b3,rfl,hn3,hR3,E16⟩;have e3:u3=(vC L y7 2).1.num:=by rw[<-hn3]
   rw[<-e3]at I;have E616:=E68.trans E16;refine⟨_,_,_,_,_,_,_,rfl,bx 5 (c5.ext E616 H.symm) rfl rfl fun w17 b17 W=>⟨(vC L y7 2).2,?_,fun h=>B w17 (by rw[I];exact h) (Y E616 W),fun h=>y w17 ⟨7,0,u3,⟨#[]⟩,false⟩ (by rw[I,h]) (Y E616 W) b17⟩⟩;have:=(hR3.box.ext W H).cell (i:=1) rfl;simpa using this
  refine⟨_,_,rfl,(zR L t).2,?_,fun h=>⟨r.box.eh Sm,?_⟩,fun h=>⟨r.box.eh Sm,?_⟩⟩;have:=r.box.cell (i:=1) rfl;simpa using this;grind;intro w22 hw;exact J3 (!decide (U=wE)) w22 (by rw[h];rfl) (by rw[hw];exact(R _).1) (by rw[hw];exact(R _).2)
 refine⟨k,c4.bf,fun h=>⟨f,c4.cell rfl,a,c4.cell rfl,?_⟩,fun h=>⟨fun h8=>?_,fun h8=>?_⟩⟩
 have h7:k=7:=by simpa using h
 rw[if_pos h7]at I
 refine(VD q p f a false C X).mono ?_
 rintro _ O ⟨k7,f7,c7,U,g7,rfl,hl,r,P⟩
 refine⟨_,_,_,_,_,rfl,bx 5 (c5.ext P H.symm) rfl rfl fun o b8 s=>⟨(qJ L f a).2,?_,fun h=>B o (by rw[I];exact h) (Y P s),fun h=>y o ⟨k7,f7,c7,U,g7⟩ (by rw[I,hl,<-h]) (Y P s) b8⟩⟩
 have:=(r.box.ext s H).cell (i:=1) rfl
 simpa using this
 grind
 grind
def VS(p t w){L F}(d:zD w p L F)(a:Ok L):
  cl 73 #[vp<|some p,vi t] w
   (XR fun k f c x b ok w'=>((⟨k,f,c,x,b⟩:dy),ok)=mo L t/\Pure w w'):=jLF (some p) t w d a
end Go.Proofs
end
section
open Go Go.SE List
namespace Go.SE
def bg.lit{w w' p cs e sz rs}(f:av w (.cells cs e) p w')(c:cs.toList=rs.flatten)(b:∀r∈rs,r.length=sz)(hm:rs.length<=maxLen):bg w' e sz ⟨some p,rs.length,rs.length⟩ rs:=by
 have⟨d,g⟩:=f;have a:cs.size=rs.length*sz:=by rw[<-vL b,<-c,Array.length_toList]
 refine⟨b,rfl,.inr ⟨w.heap.size,cs,by rw[d],?_,Nat.le_refl _,hm,a,?_⟩⟩;rw[g];exact heap_alloc_new w _;rw[c,take_of_length_le Gd]
end Go.SE
namespace Go.Proofs
open Tryz
def mf(l:dy):List Value:=[vi l.kind,vi l.az,vu l.c,vs l.bb,vb l.dz]
def CZ:km prog 64 35 5 48:=by
 refine⟨underlying64,⟨t35,_,Kf,(by kernel_rfl:t35.zero=some (.agg #[vi 0,vi 0,vu 0,vs ⟨#[]⟩,vb false])),Kf,Kf,rfl⟩,Om⟩
end Go.Proofs
end
section
open Go Go.SE List
open Go.IntKind renaming i64 -> q6
namespace Go.Proofs
open Tryz
set_option maxRecDepth 100000
set_option maxHeartbeats 4000000
attribute [local irreducible] bu fw fg dv Calls
attribute [local irreducible] jq W WV WR uC pv ku jn oe ka mm kq ll np my iy ez ij nn kz kp uS xD yC bn ub
def J6(c:Sl)(i1 n2:Int)(H:NP)(w:World)(a:Int->Int->NP->WP)(K:Bool->WP):Prop:=∃a4:Addr,At c i1 9 a4/\∃b:Sl,w.cell? (a4.add 8)=some b.v/\Br (decide ((b.len:Int)>265)) (K true w) (a n2 (q6.wrap<|i1+1) H w)
def L5(f:Sl)(i1 n3 d:Int)(h:Bool)(H:NP)(w:World)(a:Int->Int->NP->WP)(b:Int->Int->NP->WP)(K:Bool->WP):Prop:=Br h (∃a5:Addr,At f i1 9 a5/\∃e:Sl,w.cell? (a5.add 8)=some e.v/\∃c:Addr,At e d 5 c/\∃g,w.cell? (c.add 4)=some (vs g)/\b (q6.wrap<|n3+(g.size:Int)) (q6.wrap<|d+1) H w)<|J6 f i1 n3 H w a K
def U8(j:Sl)(i1 n3 c:Int)(k:World)(d:NP)(a:World)(b:Int->Int->NP->WP)(e:Int->Int->NP->WP)(K:Bool->WP):Prop:=∃f:Addr,At j i1 9 f/\∃g:Sl,a.cell? (f.add 8)=some g.v/\∀h i,af k d a h i->L5 j i1 n3 c ((decide (c<(g.len:Int)))&&(decide (c<=256))) h i b e K
def UB(c:Sl)(n1 i1:Int)(j:World)(h:NP)(e:World)(l:Int->Int->NP->WP)(K:Bool->WP):Prop:=Br ((decide (i1<(c.len:Int)))&&(decide (i1<=60))) (∃a1:Addr,At c i1 9 a1/\∀n i,af j h e n i->∃r,i.cell? (a1.add 1)=some (vs r)/\∃a2:Addr,At c i1 9 a2/\∃p,i.cell? ((a2.add 2).add 3)=some (vs p)/\∃a3:Addr,At c i1 9 a3/\∃o:Sl,i.cell? (a3.add 8)=some o.v/\∃(k:Int->Int->NP->WP) (g:Int->Int->World->Nat),k (q6.wrap<|(q6.wrap<|(q6.wrap<|n1+(r.size:Int))+(p.size:Int))+(o.len:Int)) 0 n i/\∀(n3 m:Int) (b:NP) (a:World),af j b a b a->k n3 m b a->U8 c i1 n3 m j b a l (fun f d s w'=>k f d s w'/\g f d w'<g n3 m a) K)<|∀t q,af j h e t q->K ((decide ((c.len:Int)>60)) ||(decide (n1>60000))) q
def Jn(i:Sl)(g:World)(K:Bool->WP):Prop:=∃(f:Int->Int->NP->WP) (e:Int->Int->World->Nat),f 0 0 ar g/\∀(n1 i1:Int) (b:NP) (a:World),af g b a b a->f n1 i1 b a->UB i n1 i1 g b a (fun d c h w'=>f d c h w'/\e d c w'<e n1 i1 a) K
def Rx(l1 w0 K)(h:Jn l1 w0 K):
  cl 7 #[l1.v] w0<|XC K:=
 du func7 h<|vh 3 [0] (fun n1 i1=>[(3,(vi n1)),(4,(vi i1))])<|fun {_ _ n1 i1}=>fun l=>pj 0 0 [(decide (i1<(l1.len:Int)))] [0,3,4] (fun b=>[(13,(vb<|(b 0)&&(decide (i1<=60))))]) (fun c=>pb 1 5 0 c (fun c=>pe 3 0 c)<|fun c=>pe 3 0 c)<|br 0 0 (dq 1<|ix 3<|ah<|ld 1<|ix 4<|ld 2<|ix 4<|ld 1<|ke 4 1 [0,4] (fun n2=>[(3,(vi n2))]) (fun n2 H w=>J6 _ _ n2 H w _ _) (fun k=>vh 0 [0,4] (fun n3 f=>[(3,(vi n3)),(5,(vi f))])<|fun {_ _ n3 f}=>fun g=>ke 0 0 [0,3,4,5] (fun e=>[(50,(vb e))]) (fun e H w=>L5 _ _ _ _ e H w _ _ _) (fun m=>ix 3<|ld 1<|fun {i}=>ct 3 3<|pj 0 0 [(decide (f<(i.len:Int)))] [0,3,4,5] (fun b=>[(50,(vb<|(b 0)&&(decide (f<=256))))]) (fun a=>pb 1 0 0 a (fun a=>pe 3 0 a)<|fun a=>pe 3 0 a)<|ah<|je 0 0 m)<|fun {e}=>br 0 0 (ix 4<|ld 1<|ix 1<|ld 1<|je 6 0 g)<|je 1 0 k)<|fun {n2}=>ix 2<|ld 1<|br 0 2 (rr 2)<|je 4 0 l)<|pj 1 0 [] [] (fun b=>[(2,(vb<|(decide ((l1.len:Int)>60)) ||(decide (n1>60000))))]) (fun j=>ct 4 3<|pj 0 0 [(decide ((l1.len:Int)>60))] [] (fun b=>[(78,(vb<|(b 0) ||(decide (n1>60000))))]) (fun d=>pb 1 0 0 d (fun d=>pe 3 0 d)<|fun d=>pe 3 0 d)<|pe 1 0 j)<|ah<|rr 0
def Wm(g h j:Int)(f:ByteArray)(i:Bool)(e:World)(K:ByteArray->WP):Prop:=∀c b,af e ar e c b->cl 98 #[(.agg #[(vi g),(vi h),(vu j),(vs f),(vb i)])] b (XM fun r1 r2 a=>aj c b a/\∃d,(convert 59 9 r1.v).run prog a=.ok (vs d) a/\K d a)
def jbf(aA aB aC aD aE w0 K)(h:Wm aA aB aC aD aE w0 K):
  cl 40 #[(.agg #[(vi aA),(vi aB),(vu aC),(vs aD),(vb aE)])] w0<|XS K:=
 du func40 h<|nh 0<|iu 1 0 [] 5<|ah<|im 0 call98<|xe<|rn 6<|rr 1
def Nl(a:Int):Int:=a
def Bv(a:Int)(c:World):cl 16 #[(.int .i64 a)] c (fun e w'=>e=.returned (.int .i64<|Nl a)/\Pure c w'):=
 jr func16 [] (fun b=>(vi a)) fun d=>fe 3 d
def Iq(r1:Option Addr)(b:Bool)(H:NP)(w:World)(K:Bool->WP):Prop:=Br b (cl 13 #[(vp r1),(.agg #[(vi 0),(vu 9),(vs (⟨#[120]⟩:ByteArray))])] w<|XC fun r2 a=>aj H w a/\K r2 a) (K false w)
def FL(r1:Option Addr)(b:Bool)(H:NP)(w:World)(K:Bool->WP):Prop:=Br b (cl 21 #[(vp r1),(vi 0)] w<|XC fun r3 a=>aj H w a/\Iq r1 r3 H a K) (Iq r1 false H w K)
def Gl(r1:Option Addr)(c:Bool)(e:World)(H:NP)(w:World)(K:Bool->WP):Prop:=Br c (cl 41 #[(vp r1),(vi 2)] w<|XB fun d b=>aj H w b/\∀a,af e H b H a->FL r1 (d==2) H a K) (FL r1 false H w K)
def HV(r1:Option Addr)(a1:Bool)(a:World)(H:NP)(w:World)(K:Bool->WP):Prop:=Br a1 (cl 41 #[(vp r1),(vi 0)] w<|XB fun d c=>aj H w c/\∀b,af a H c H b->Gl r1 (d==0) a H b K) (Gl r1 false a H w K)
def Gp(r1:Option Addr)(d:Bool)(b:World)(H:NP)(w:World)(K:Bool->WP):Prop:=Br d (cl 21 #[(vp r1),(vi 1)] w<|XC fun c a=>aj H w a/\HV r1 (!c) b H a K) (HV r1 false b H w K)
def FS(r1:Option Addr)(g:Bool)(c:World)(H:NP)(w:World)(K:Bool->WP):Prop:=Br g (K false w)<|cl 13 #[(vp r1),(.agg #[(vi 1),(vu 7),(vs (⟨#[116]⟩:ByteArray))])] w fun e b=>∃d,e=.returned (vb d)/\aj H w b/\Br d (cl 13 #[(vp r1),(.agg #[(vi 0),(vu 7),(vs (⟨#[116]⟩:ByteArray))])] b<|XC fun f a=>aj H b a/\Gp r1 (!f) c H a K) (Gp r1 false c H b K)
def m_H(g:World)(K:Bool->WP):Prop:=cl 9 #[] g fun e f=>∃r1,e=.returned (vp r1)/\aj ar g f/\Br (Option.isNone r1) (K false f) (cl 40 #[(.agg #[(vi 2),(vi 1),(vu 7),(vs (⟨#[116]⟩:ByteArray)),(vb false)])] f fun e b=>∃i,e=.returned (vs i)/\aj ar f b/\cl 23 #[(vp r1),(vs i)] b fun e a=>∃c,e=.returned (vb c)/\aj ar b a/\Br (!c) (FS r1 true g ar a K) (cl 23 #[(vp r1),(vs (⟨#[120]⟩:ByteArray))] a<|XC fun h d=>aj ar a d/\FS r1 h g ar d K))
def w_H(j:World)(K:Bool->WP)(h:m_H  j K):
  cl 8 #[] j<|XC K:=
 du func8 h<|dw 1 call9<|br 0 3 (rr 2)<|ke 1 0 [1] (fun b=>[(14,(vb b))]) (fun b H w=>FS _ b _ H w _) (fun l=>dw 2 call40<|dw 0 call23<|br 1 2 (je 3 0 l)<|dw 1 call23<|je 1 0 l)<|fun {b}=>br 0 0 (rr 2)<|ke 1 0 [1] (fun a1=>[(2,(vb a1))]) (fun a1 H w=>HV _ a1 _ H w _) (fun i=>dw 2 call13<|ct 1 5<|ke 0 0 [1] (fun c=>[(23,(vb c))]) (fun c H w=>Gp _ c _ H w _) (fun g=>br 1 0 (dw 2 call13<|je 2 0 g)<|je 5 0 g)<|fun {c}=>br 1 1 (dw 1 call21<|je 3 0 i)<|je 5 0 i)<|fun {a1}=>ct 2 5<|ke 0 0 [1] (fun a=>[(35,(vb a))]) (fun a H w=>Gl _ a _ H w _) (fun k=>br 1 0 (dw 1 call41<|fun {o}=>cp 0 call16 (Bv o)<|an<|je 2 0 k)<|je 5 0 k)<|fun {a}=>ct 1 5<|ke 0 0 [1] (fun e=>[(41,(vb e))]) (fun e H w=>FL _ e H w _) (fun f=>br 1 0 (dw 1 call41<|fun {n}=>cp 0 call16 (Bv n)<|an<|je 2 0 f)<|je 5 0 f)<|fun {e}=>ct 1 3<|ke 0 0 [1] (fun d=>[(45,(vb d))]) (fun d H w=>Iq _ d H w _) (fun m=>br 1 0 (dw 1 call21<|je 1 0 m)<|je 3 0 m)<|fun {d}=>br 1 1 (dw 2 call13<|rr 2)<|rr 5
end Go.Proofs
end
section
open Go Go.SE List
open Go.IntKind renaming i64 -> q6
namespace Go.Proofs
open Tryz
set_option maxRecDepth 100000
set_option maxHeartbeats 4000000
attribute [local irreducible] bu fw fg dv Calls
attribute [local irreducible] jq W WV WR uC pv ku jn oe ka mm kq ll np my iy ez ij nn kz kp uS xD yC bn ub
def Ig(d:Option Addr)(f:Option Addr)(b:ByteArray)(e:Bool)(H:NP)(w:World)(K:(Option Addr)->Bool->WP):Prop:=Br e (cl 45 #[(vp f),(vs b)] w<|XC fun c a=>aj H w a/\K d c a) (K d false w)
def KE(b:Option Addr)(y:Option Addr)(p:Int)(Y:ByteArray)(aH aI aJ:Int)(aK:ByteArray)(aL:Bool)(V:Int)(X:Sl)(c:World)(K:(Option Addr)->Bool->WP):Prop:=Br (p==0) (∀f i,af c ar c f i->∃J:WP,J i.drew/\∀R,R=i.drew->cl 23 #[(vp b),(vs Y)] R fun e I=>∃r1,e=.returned (vb r1)/\J I/\aj f R I/\cl 45 #[(vp y),(vs Y)] I (XC fun r2 P=>J P/\aj f I P/\K b (r1==r2) P)) (Br (p==1) (∀f i,af c ar c f i->cl 40 #[(.agg #[(vi aH),(vi aI),(vu aJ),(vs aK),(vb aL)])] i fun e M=>∃r3,e=.returned (vs r3)/\aj f i M/\cl 23 #[(vp b),(vs r3)] M fun e L=>∃S,e=.returned (vb S)/\aj f M L/\cl 45 #[(vp y),(vs r3)] L (XC fun r5 U=>aj f L U/\K b (S==r5) U)) (Br (p==2) (∀f i,af c ar c f i->∃H:WP,H i.drew/\∀Q,Q=i.drew->cl 41 #[(vp b),(vi V)] Q fun e n=>∃Z,e=.returned (vi Z)/\H n/\aj f Q n/\cl 16 #[(vi Z)] n fun e o=>∃W,e=.returned (vi W)/\H o/\aj f n o/\cl 46 #[(vp y),(vi V)] o (XB fun r8 t=>H t/\aj f o t/\K b (W==r8) t)) (Br (cond (p==3) (p==3)<|p==4) (∀d a,af c ar c d a->∀T x,av a (.cells #[] 88) T x->∃s1:Sl,∃m:World,(Builtin.append_ #[36,36] 36 #[(Sl.mk (some T) 0 0).v,X.v]).run prog x=.ok s1.v m/\aj d x m/\cl 14 #[(vp b),s1.v] m fun e s=>∃G w C,e=.returned (.tuple #[(vs G),(vi w),(vi C)])/\aj d m s/\cl 47 #[(vp y),X.v] s fun e k=>∃h l A,e=.returned (.tuple #[(vs h),(vi l),(vi A)])/\aj d s k/\Br ((p==4)&&(l==0)) (Br ((decide (G=h))&&(w==l)) (∀z g,af c d k z g->cl 23 #[(vp b),(vs G)] g (XC fun O B=>aj z g B/\Ig b y h O z B K))<|∀z g,af c d k z g->Ig b y h false z g K) (∀H7 F,af c d k H7 F->K b (((decide (G=h))&&(w==l))&&(C==A)) F)) (Br (p==5) (∀d a,af c ar c d a->cl 22 #[(vp b)] a fun e j=>∃u,e=.returned (vp u)/\aj d a j/\Br (Option.isNone u) (K none false j) (cl 41 #[(vp b),(vi 0)] j fun e q=>∃N,e=.returned (vi N)/\aj d j q/\cl 40 #[(.agg #[(vi 6),(vi 0),(vu 77),(vs (⟨#[122,122]⟩:ByteArray)),(vb false)])] q fun e r=>∃D,e=.returned (vs D)/\aj d q r/\cl 23 #[(vp b),(vs D)] r (XC fun r20 E=>aj d r E/\K u true E))) (∀d a,af c ar c d a->K b true a)))))
def Rh(f1 w1 aB aE aH aI aJ aK aL aF aG w0 K)(h:KE f1 w1 aB aE aH aI aJ aK aL aF aG w0 K):
  cl 11 #[(vp f1),(vp w1),(.agg #[(vi aB),(vs aE),(vi aH),(vi aI),(vu aJ),(vs aK),(vb aL),(vi aF),aG.v])] w0<|XT K:=
 du func11 h<|nh 0<|lh 3 0 []<|br 0 2 (ah<|dC 1 [4,8] []<|ju 3 0 [1]<|ju 2 0 [1]<|mg 0 call23<|mg 0 call45<|rr 3)<|br 0 3 (iu 2 0 [2] 5<|ah<|dw 0 call40<|dw 4 call23<|dw 2 call45<|rr 3)<|br 0 3 (ah<|dC 1 [4,5,9] []<|ju 3 0 [7]<|ju 2 0 [7]<|mg 0 call41<|mg 0 call16<|mg 0 call46<|rr 3)<|pj 3 0 [(aB==3)] [0,1,5,17] (fun b=>[(56,(vb<|cond (b 0) (aB==3)<|aB==4))]) (fun j=>pb 0 0 0 j (fun j=>pe 1 0 j)<|fun j=>pe 3 0 j)<|br 0 0 (ah<|ot 2<|lh 1 0 [8]<|dt<|ef 0<|iv<|NQ 0 call14<|fun {n a l}=>lh 9 0 [8]<|NQ 0 call47<|fun {d c e}=>pj 7 0 [(aB==4)] [0,1,9,10,11,12,13,14] (fun b=>[(83,(vb<|(b 0)&&(c==0)))]) (fun f=>lh 1 0 []<|pb 1 2 0 f (fun f=>pe 3 0 f)<|fun f=>pe 3 0 f)<|br 0 0 (ct 6 5<|pj 0 0 [(decide (n=d))] [0,1,9,12,84] (fun b=>[(93,(vb<|(b 0)&&(a==c)))]) (fun k=>pb 1 0 0 k (fun k=>cp 1 call16 (Bv a)<|pe 3 0 k)<|fun k=>pe 5 0 k)<|ct 1 4<|ke 0 0 [1,12,84] (fun m=>[(98,(vb m))]) (fun m H w=>Ig _ _ _ m H w _) (fun o=>br 1 0 (ah<|dw 2 call23<|je 1 0 o)<|ah<|je 4 0 o)<|fun {m}=>br 1 1 (dw 2 call45<|rr 3)<|rr 6)<|pj 1 0 [] [] (fun b=>[(6,(vp f1)),(7,(vb<|((decide (n=d))&&(a==c))&&(l==e)))]) (fun p=>ct 5 5<|pj 0 0 [(decide (n=d))] [11,14,104] (fun b=>[(113,(vb<|(b 0)&&(a==c)))]) (fun g=>pb 1 0 0 g (fun g=>cp 1 call16 (Bv a)<|pe 3 0 g)<|fun g=>pe 5 0 g)<|ct 1 4<|pj 0 0 [((decide (n=d))&&(a==c))] [104] (fun b=>[(118,(vb<|(b 0)&&(l==e)))]) (fun i=>pb 1 0 0 i (fun i=>pe 4 0 i)<|fun i=>pe 4 0 i)<|pe 2 0 p)<|ah<|rr 0)<|br 0 3 (ah<|dw 2 call22<|br 0 3 (rr 3)<|dw 2 call41<|dw 2 call40<|dw 0 call23<|rr 3)<|ah<|rr 4
def GI(i1:Int)(b:Option Addr)(H:NP)(w:World)(a:(Option Addr)->Int->NP->WP)(c:Bool->WP):Prop:=a b (q6.wrap<|i1+1) H w
def D4(h i:Int)(f:Option Addr)(k:Sl)(i2:Int)(d:Bool)(H:NP)(w:World)(c:Bool->Int->NP->WP)(K:Bool->WP):Prop:=∃e:WP,e w.drew/\∀b,b=w.drew->∃a2:Addr,At k i2 1 a2/\ls b a2 fun j=>cl 13 #[(vp f),(.agg #[(vi h),(vu i),(vs j)])] b<|XC fun g a=>e a/\aj H b a/\Br (!g) (K false a) (c d (q6.wrap<|i2+1) H a)
def G7(c d:Bool)(H:NP)(w:World)(K:Bool->WP):Prop:=Br (c==d) (cl 8 #[] w<|XC fun b a=>aj H w a/\K b a) (K false w)
def VM(k n:Int)(o:ByteArray)(j:Option Addr)(i:Sl)(h:Bool)(i2:Int)(p:World)(a:NP)(d:World)(f:Bool->Int->NP->WP)(K:Bool->WP):Prop:=Br (decide (i2<(i.len:Int))) (Br h (∀b,af p a d a b->D4 k n j i i2 true a b f K)<|∃a3:Addr,At i i2 1 a3/\∀b,af p a d a b->ls b a3 fun q=>D4 k n j i i2 (decide (q=o)) a b f K) (cl 13 #[(vp j),(.agg #[(vi k),(vu n),(vs o)])] d fun e c=>∃l,e=.returned (vb l)/\aj a d c/\Br h (G7 l true a c K) (cl 21 #[(vp j),(vi k)] c<|XC fun m g=>aj a c g/\G7 l m a g K))
def jbW(s:Sl)(w D:Int)(F:ByteArray)(r3:Option Addr)(g:Option Addr)(i1:Int)(k:World)(c:NP)(a:World)(m:(Option Addr)->Int->NP->WP)(K:Bool->WP):Prop:=Br (decide (i1<(s.len:Int))) (Br (Option.isNone g) (K false a)<|∃a1:Addr,At s i1 9 a1/\∃p C z y t u B A,∃x:Sl,Row a a1 [(vi p),(vs C),(vi z),(vi y),(vu t),(vs u),(vb B),(vi A),x.v]/\cl 11 #[(vp g),(vp r3),(.agg #[(vi p),(vs C),(vi z),(vi y),(vu t),(vs u),(vb B),(vi A),x.v])] a (XT fun q E o=>aj c a o/\Br ((!E) ||(Option.isNone q)) (∀l h,af k c o l h->K false h) (∀l h,af k c o l h->GI i1 q l h m K)))<|Br (Option.isNone g) (K false a)<|cl 26 #[(vp g),(vi w),(vu D)] a<|XA fun H r=>aj c a r/\∃(n:Bool->Int->NP->WP) (j:Bool->Int->World->Nat),n false 0 c r/\∀(e:Bool) (i2:Int) (d:NP) (b:World),af k d b d b->n e i2 d b->VM w D F g H e i2 k d b (fun i f G w'=>n i f G w'/\j i f w'<j e i2 b) K
def Jz(r:Sl)(o q:Int)(m:ByteArray)(n:Bool)(j:World)(H:NP)(w:World)(K:Bool->WP):Prop:=Br n (cl 8 #[] w<|XC fun r1 l=>aj H w l/\K r1 l) (cl 9 #[] w fun e i=>∃r2,e=.returned (vp r2)/\aj H w i/\cl 10 #[] i (XD fun r3 k=>aj H i k/\∃(h:(Option Addr)->Int->NP->WP) (f:(Option Addr)->Int->World->Nat),h r2 0 H k/\∀(g:Option Addr) (i1:Int) (b:NP) (a:World),af j b a b a->h g i1 b a->jbW r o q m r3 g i1 j b a (fun d c p w'=>h d c p w'/\f d c w'<f g i1 a) K))
def Mh(j:Sl)(e l:Int)(h:ByteArray)(c:World)(K:Bool->WP):Prop:=∀d f,af c ar c d f->cl 7 #[j.v] f (XC fun g b=>aj d f b/\∀i:Bool,i=((g ||(decide ((h.size:Int)>64))) ||((e !=0)&&(e !=1)))->∀k a,af c d b k a->Jz j e l h i c k a K)
def Ue(l1 aA aC aD w0 K)(h:Mh l1 aA aC aD w0 K):
  cl 5 #[l1.v,(.agg #[(vi aA),(vu aC),(vs aD)])] w0<|XC K:=
 du func5 h<|nh 0<|ke 1 0 [0,3] (fun l=>[(30,(vb l))]) (fun l H w=>Jz _ _ _ _ l _ H w _) (fun u=>ah<|dw 1 call7<|fun {e}=>ct 1 5<|pj 0 0 [e] [0,3] (fun b=>[(20,(vb<|(b 0) ||(decide ((aD.size:Int)>64))))]) (fun f=>pb 1 0 0 f (fun f=>pe 5 0 f)<|fun f=>lh 1 0 [2]<|pe 3 0 f)<|ct 1 9<|pj 0 0 [(e ||(decide ((aD.size:Int)>64)))] [0,3] (fun b=>[(30,(vb<|(b 0) ||((aA !=0)&&(aA !=1))))]) (fun a=>pb 1 0 0 a (fun a=>pe 9 0 a)<|fun a=>lh 1 0 []<|ct 2 4<|pj 0 0 [(aA !=0)] [0,3,21] (fun b=>[(29,(vb<|(b 0)&&(aA !=1)))]) (fun c=>pb 1 0 0 c (fun c=>lh 1 0 []<|pe 2 0 c)<|fun c=>pe 4 0 c)<|pe 1 0 a)<|yy<|ah<|je 0 0 u)<|fun {l}=>br 0 0 (dw 1 call8<|rr 1)<|dw 1 call9<|dw 1 call10<|vh 2 [0,3,6] (fun n i1=>[(5,(vp n)),(7,(vi i1))])<|fun {_ _ n i1}=>fun r=>br 0 4 (ke 1 3 [0,3,6,7] (fun k=>[(5,(vp k))]) (fun k H w=>GI _ k H w _ _) (fun s=>br 0 2 (rr 2)<|ix 5<|cj<|uy<|lr 0<|im 0 call11<|fun {p q}=>pj 5 0 [(!q)] [0,3,6,7,8] (fun b=>[(57,(vb<|(b 0) ||(Option.isNone p)))]) (fun g=>pb 1 3 0 g (fun g=>pe 3 0 g)<|fun g=>pe 3 0 g)<|br 0 0 (ah<|rr 2)<|ah<|je 3 0 s)<|fun {k}=>je 3 0 r)<|br 0 3 (rr 2)<|lh 3 0 []<|lh 1 0 [1]<|dw 0 call26<|vh 3 [3,5,10] (fun i i2=>[(11,(vb i)),(12,(vi i2))])<|fun {_ _ i i2}=>fun t=>br 0 4 (ke 1 0 [3,5,10,12] (fun d=>[(11,(vb d))]) (fun d H w=>D4 _ _ _ _ _ d H w _ _) (fun m=>dq 0<|br 1 2 (an<|je 9 0 m)<|ix 2<|an<|ld 0<|lh 1 0 [2]<|je 3 0 m)<|fun {d}=>dC 0 [10] []<|ju 2 0 []<|ju 1 0 [1]<|ix 2<|sV 0<|mg 1 call13<|br 0 1 (rr 2)<|je 4 0 t)<|iu 2 0 [] 3<|dw 0 call13<|ct 2 5<|ke 0 0 [97] (fun j=>[(104,(vb j))]) (fun j H w=>G7 _ j H w _) (fun o=>br 1 0 (je 5 0 o)<|lh 2 0 []<|dw 0 call21<|je 1 0 o)<|fun {j}=>br 1 2 (dw 0 call8<|rr 2)<|rr 3
end Go.Proofs
end
section
open Go Go.SE
namespace Go.Proofs
open Tryz
attribute [local irreducible] Calls
structure Act where
 kind:Int
 body:ByteArray
 l:dy
 ao:Int
 so:Sl
 ops:List Op
def rj(x:Act):List Value:=[vi x.kind,vs x.body,vi x.l.kind,vi x.l.az,vu x.l.c,vs x.l.bb,vb x.l.dz,vi x.ao,x.so.v]
structure tp(S:NP)(w:World)(x:Act):Prop where
 num:yY x.l.c
 rG:∀o∈x.ops,yY o.num
 ops:dr S w 5 x.so (x.ops.map pD)
 body:x.body.size<=1048576
 bb:x.l.bb.size<=1048576
 ft:x.ops.length<=1048576
 RJ:∀o∈x.ops,o.bb.size<=1048576
def uU(l:List Act):Nat:=(l.map (·.body.size)).sum
structure IC(l:List Act):Prop where
 ft:l.length<=60
 ops:∀x∈l,x.ops.length<=265
 bytes:uU l<=60000
def tp.ext{S X w w' x}(h:tp S w x)(E:ab X w w')(a:∀y,S y->¬X y):tp S w' x:={ h with ops:=h.ops.ext E a }
def jcv{S w sz s}{α:Type}{g:α->List Value}{xs:List α}(h:dr S w sz s (xs.map g)){j}(d:j<xs.length){a}(e:At s j sz a):Row w a (g xs[j]):=by
 have⟨b,h1,_,h2⟩:=h.kg d;obtain⟨_,_,y,f,rfl⟩:=e;obtain⟨_,_,z,c,rfl⟩:=h1;rw[f]at c;cases c;exact h2
def YR{S}(l1 ls w0)(s:dr S w0 9 l1 (ls.map rj))(B:∀x∈ls,tp S w0 x):
  cl 7 #[l1.v] w0<|XC fun r w'=>(r=false->IC ls)/\Pure w0 w':=by
 refine Rx l1 w0 _ ?_
 unfold Jn
 have V:l1.len=ls.length:=by rw[s.len];simp
 refine⟨fun n i H w=>∃j:Nat,i=j/\j<=ls.length/\j<=61/\(uU (ls.take j):Int)<=n/\n<=j*300000000/\(∀x∈ls.take j,x.ops.length<=265)/\Pure w0 w,fun _ i _=>(100-i).toNat,⟨0,rfl,Nat.zero_le _,Om,by simp[uU],Sm,Sm,ab.refl _⟩,?_⟩
 rintro n1 _ Hl wl K ⟨j,rfl,hj,O,z,M,C,F⟩
 refine⟨fun A=>?_,fun A H4 w5 hs=>⟨fun h=>?_,F.au hs⟩⟩
 simp only[Bool.and_eq_true,decide_eq_true_eq]at A
 have d:j<ls.length:=Om
 have I:j<=60:=Om
 have g:=B _<|List.getElem_mem d
 have f:ls.take (j+1)=ls.take j++[ls[j]]:=by rw[List.take_succ_eq_append_getElem d]
 have⟨a,b,_⟩:=s.kg d
 have one:∀{w},Pure w0 w->Row w a (rj ls[j]):=fun E=>jcv (s.pure E) d b
 generalize ls[j]=x at *
 refine⟨a,b,fun X w2 t=>?_⟩
 have D:=F.au t
 have r2:=one D
 have hb:=g.body;have ht:=g.bb;have Y:=g.ft
 refine⟨x.body,r2 1<|by simp[rj],a,b,x.l.bb,by rw[yO];exact r2 5<|by simp[rj],a,b,x.so,r2 8<|by simp[rj],?_⟩
 have R:x.so.len=x.ops.length:=by rw[g.ops.len];simp
 have U:0<=n1:=Om
 have hm:(uU (ls.take j):Int)+x.body.size<=IntKind.i64.wrap ((IntKind.i64.wrap<|(IntKind.i64.wrap<|n1+(x.body.size:Int))+(x.l.bb.size:Int))+(x.so.len:Int))/\IntKind.i64.wrap ((IntKind.i64.wrap<|(IntKind.i64.wrap<|n1+(x.body.size:Int))+(x.l.bb.size:Int))+(x.so.len:Int))<=j*300000000+3145728:=by
  rw[IntWalk.i64_in (n1+_) Om,IntWalk.i64_in (n1+_+_) Om,IntWalk.i64_in _ Om];omega
 generalize IntKind.i64.wrap ((IntKind.i64.wrap<|(IntKind.i64.wrap<|n1+(x.body.size:Int))+(x.l.bb.size:Int))+(x.so.len:Int))=n2 at *
 refine⟨fun n k H w=>∃i:Nat,k=i/\i<=x.ops.length/\i<=257/\n2<=n/\n<=n2+i*1048576/\Pure w0 w,fun _ k _=>(1000-k).toNat,⟨0,rfl,Nat.zero_le _,Om,Int.le_refl _,Om,D⟩,?_⟩
 rintro n3 _ Q J G ⟨k,rfl,Z,W,T,L,o⟩
 refine⟨a,b,x.so,one o 8<|by simp[rj],fun H2 w3 y=>?_⟩
 have m:=o.au y
 refine⟨fun q=>?_,fun q=>?_⟩
 simp only[Bool.and_eq_true,decide_eq_true_eq]at q
 have c:k<x.ops.length:=Om
 have⟨N,p,_,u⟩:=(g.ops.pure m).kg c
 have P:=g.RJ _<|List.getElem_mem c
 refine⟨a,b,x.so,one m 8<|by simp[rj],N,p,x.ops[k].bb,u 4<|by simp[pD],?_⟩
 rw[IntWalk.i64_in (n3+_) Om,zM c Om]
 exact⟨⟨k+1,rfl,c,Om,Om,Om,m⟩,by show(1000-((k+1:Nat):Int)).toNat<(1000-(k:Int)).toNat;omega⟩
 refine⟨a,b,x.so,one m 8<|by simp[rj],fun _=>⟨fun h=>(by cases h),m⟩,fun e=>?_⟩
 have e:=of_decide_eq_false e
 rw[zM (n:=100) Om Om]
 refine⟨⟨j+1,rfl,d,Om,?_,Om,?_,m⟩,by show(100-((j+1:Nat):Int)).toNat<(100-(j:Int)).toNat;omega⟩
 rw[f];simp only[uU,List.map_append,List.sum_append,List.map_cons,List.map_nil,List.sum_cons,List.sum_nil]at *;omega
 grind
 simp only[Bool.or_eq_false_iff,decide_eq_false_iff_not]at h
 simp only[Bool.and_eq_false_iff,decide_eq_false_iff_not]at A
 have:j=ls.length:=Om
 subst this
 rw[List.take_length]at z C
 exact⟨Om,C,Om⟩
end Go.Proofs
end
section
open Go Go.SE List
namespace Go.Proofs
open Tryz
set_option maxRecDepth 100000
set_option maxHeartbeats 4000000
attribute [local irreducible] bu fw fg dv Calls
attribute [local irreducible] jq W WV WR uC pv ku jn oe ka mm kq ll np my iy ez ij nn kz kp uS xD yC bn ub
def Zq(f:World)(K:(Option Addr)->WP):Prop:=cl 44 #[] f<|XD fun r1 e=>∀b d,av e (.cells #[(vp r1),Sl.nil.v] 48) b d->∀a c,av d (.cells #[(vp<|some b),(vb false),(vb false)] 52) a c->K (some a) c
theorem Uz(a:World)(K:(Option Addr)->WP)(h:Zq  a K):
  cl 10 #[] a<|XD K:=
 cy func10 h<|gd 1 call44<|cf 1<|cf 1<|rr 1
def KN(d:Option Addr)(a:ByteArray)(b:World)(K:Bool->WP):Prop:=∃a1,d=some a1/\lp b a1 fun k=>∃a2,k=some a2/\lp b a2 fun i=>∃f:Sl,∃g:World,(convert 9 59<|vs a).run prog b=.ok f.v g/\cl 54 #[(vp i),f.v] g fun e c=>∃r1 r2 r3,e=.returned (.tuple #[(vi r1),(vi r2),(vi r3)])/\Br (r2 !=0) (K false c) (∃a3,d=some a3/\lp c a3 fun h=>cl 100 #[(vp h),(vi r1)] c<|XB fun l j=>K true j)
theorem jbV(f1 body1 w0 K)(h:KN f1 body1 w0 K):
  cl 45 #[(vp f1),(vs body1)] w0<|XC K:=
 cy func45 h<|nc 2<|ld 1<|nc 0<|ld 1<|dt<|ef 1<|eo<|BR 0 call54<|br 0 9 (rr 2)<|nc 2<|ld 1<|gd 1 call100<|rr 1
def Xs(c:Option Addr)(a:Int)(b:World)(K:Int->WP):Prop:=Br ((a !=0)&&(a !=1)) (K 2 b)<|∃a1,c=some a1/\lp b a1 fun j=>∃a2,j=some a2/\lp b a2 fun i=>cl 60 #[(vp i),(.agg #[(vi 6),(vi a),(vi 0),(vu 0),ve,(vi 0),(vi 0)])] b fun e g=>∃r1 r2,e=.returned (.tuple #[(vi r1),(vi r2)])/\∃a3,c=some a3/\lp g a3 fun h=>cl 100 #[(vp h),(vi r1)] g<|XB fun r3 f=>∃a4,c=some a4/\∃a5:Addr,DJ (a4.add 1) a 2 1 a5/\zL f a5/\∀d,d=f.setCell a5 (vb true)->K 0 d
theorem jbC(f1 who1 w0 K)(h:Xs f1 who1 w0 K):
  cl 46 #[(vp f1),(vi who1)] w0<|XB K:=
 cy func46 h<|pjn 1 0 [(who1 !=0)] [0,1] (fun b=>[(12,(vb<|(b 0)&&(who1 !=1)))]) (fun a=>pb 1 3 0 a (fun a=>Nr 3 a)<|fun a=>Nr 3 a)<|br 0 0 (rr 2)<|nc 2<|ld 1<|nc 0<|ld 1<|lv 2 call60<|nc 6<|ld 1<|gd 1 call100<|nc 2<|OB 1<|gr 0<|rr 1
def Nn(d:Option Addr)(r:Sl)(i:World)(K:ByteArray->Int->Int->WP):Prop:=∃f:WP,f i.drew/\∀a,a=i.drew->∃a1,d=some a1/\lp a a1 fun q=>∃a2,q=some a2/\lp a a2 fun n=>∃a3,d=some a3/\lp a a3 fun k=>∃a4,k=some a4/\lx a (a4.add 1) fun l=>cl 101 #[(vp n),l.v,r.v] a fun e b=>∃r1 r2 r3,e=.returned (.tuple #[(vi r1),(vi r2),(vi r3)])/\f b/\aj ar a b/\Br (r2 !=0) (K ⟨#[]⟩ r2 r3 b) (∃a5,d=some a5/\lp b a5 fun o=>∃h,o=some h/\lp b h fun p=>cl 102 #[(vp p),(vi r1)] b<|XM fun m j c=>aj ar b c/\Br (j !=0) (K ⟨#[]⟩ j 0 c) (∃g,(convert 59 9 m.v).run prog c=.ok (vs g) c/\K g 0 0 c))
theorem VI(f1 l1 w0 K)(h:Nn f1 l1 w0 K):
  cl 47 #[(vp f1),l1.v] w0<|XU K:=
 du func47 h<|dC 3 [15] []<|nc 1<|sV 1<|nc 0<|sV 1<|nc 1<|sV 1<|nc 0<|sV 1<|Ma 1 call101<|br 0 9 (rr 6)<|nc 2<|ld 1<|nc 0<|ld 1<|im 1 call102<|br 0 7 (rr 5)<|xe<|rn 2<|rr 3
end Go.Proofs
end
section
open Go Go.SE List
namespace Go.Proofs
open Tryz
set_option maxRecDepth 100000
set_option maxHeartbeats 4000000
attribute [local irreducible] bu fw fg dv Calls
attribute [local irreducible] jq W WV WR uC pv ku jn oe ka mm kq ll np my iy ez ij nn kz kp uS xD yC bn ub
def Wn(s1:Sl)(a:World)(K:Sl->WP):Prop:=∃b1,(Go.binOp .eql 59 s1.v Sl.nil.v).run prog a=.ok (vb b1) a/\Br b1 (K Sl.nil a) (∀c d,av a (.cells #[] 5) c d->∃b:Sl,∃e:World,(Builtin.append_ #[59,59] 59 #[(Sl.mk (some c) 0 0).v,s1.v]).run prog d=.ok b.v e/\K b e)
def WD(s1 w0 K)(h:Wn s1 w0 K):
  cl 271 #[s1.v] w0<|XA K:=
 cy func271 h<|xe<|rb 2<|br 0 0 (rr 2)<|cf 1<|dt<|ef 1<|eo<|rr 1
end Go.Proofs
end
section
namespace Go.SE
variable {P:Program}
def Au(P:Program)(o:Oper)(ε:Operand->Value)(w:World)(R:Value->World->Prop)(X:List PanicEntry->World->Prop):Prop:=
 (∀c,o.op≠.defer c)/\match(execOp ε o).run P w with
 |.ok (.value v) w'=>R v w'
 |.ok .skip w'=>R undef w'
 |.ok (.enter f args) w'=>Calls P f args w' fun e a=>(∃v,e=.returned v/\R v a)\/∃b,e=.panicked b/\X b a
 |.ok (.row row args) w'=>Rows P row args w' R
 |.ok (.round l f tmps assign body) w'=>RoundIn Fence.wide 0 P l f tmps assign body w' fun e a=>∃v,e=.returned v/\R v a
 |.halt (.panic v) w'=>X [{ v,recovered:=false }] w'
 |_=>False
def Nq{o}{ε:Operand->Value}{w}{R d:Value->World->Prop}{X c:List PanicEntry->World->Prop}(h:Au P o ε w R X)(hr:∀v w',R v w'->d v w')(i:∀b w',X b w'->c b w'):Au P o ε w d c:=by
 unfold Au at *;refine⟨h.1,?_⟩;have h:=h.2;generalize (execOp ε o).run P w=r at *;cases r with
 |ok n w' =>
  cases n<;>simp only at h|-<;>first
   |exact hr _ _ h
   |exact RoundIn.mono h fun e a ⟨v,f,g⟩=>⟨v,f,hr _ _ g⟩
   |exact Calls.mono h fun e a hh=>hh.elim Gd Gd
   |exact h.mono hr
 |halt x w'=>cases x<;>simp only at h|-<;> exact i _ _ h
def jOH{o}{ε:Operand->Value}{w}{R:Value->World->Prop}{X:List PanicEntry->World->Prop}(h:nj P o ε w R):Au P o ε w R X:=by
 refine⟨ND h,?_⟩;unfold nj at h;generalize (execOp ε o).run P w=r at *;cases r with
 |ok n w' =>
  cases n<;>simp only at h|-<;>first
   |exact h
   |exact Calls.mono h fun e b ⟨v,a,c⟩=>.inl ⟨v,a,c⟩
 |halt x w'=>exact h.elim
def JB{ro:Option Nat}{m o a w}{K:Act->World->Prop}{Q:Exit->Act->World->Prop}(h:Au P o a.eval w (fun v w'=>K (a.put o.dst v) w') fun g w'=>Q (.panic g) a w'):o.wpIn (jz ro) m P a w K Q:=by
 have⟨k,h⟩:=h;refine⟨fun f _=>Ce ro f,?_⟩;rw[KL,Oper.semAt_eq _ _ _ k];have b:(jz ro).depth.isSome=true->1<=m:=fun h=>by rw[Kv]at h;cases h
 generalize (execOp a.eval o).run P w=r at *;cases r with
 |ok n w' =>
  cases n<;>simp only at h<;>simp only[Oper.uponIn]
  case value=>exact h
  case skip=>exact h
  case enter =>
   refine⟨b,(Calls.jz h).mono ?_⟩
   rintro e d (⟨v,rfl,c⟩|⟨g,rfl,j⟩)
   .exact c
   .exact j
  case row=>exact⟨b,Rows.jz h⟩
  case round=>exact⟨b,(RoundIn.jz h).mono fun e d ⟨v,i,c⟩=>by subst i;exact c⟩
 |halt x w'=>cases x<;>simp only at h<;>simp only[Oper.uponIn];exact h
def qe(P:Program)(ops:Array Oper)(Q:bh->World->Prop)(X:List PanicEntry->World->Prop):List Oper->bh->World->Prop
 |[],ρ,w=>Q ρ w
 |o :: rest,ρ,w =>
  if Region.wanted o (zJ ops ρ)then Au P o (bw ρ) w (fun v w'=>qe P ops Q X rest (put ρ o.dst v) w') X
  else qe P ops Q X rest (put ρ o.dst undef) w
section
variable {x:Cx} {n:Nat} {Q:Exit->bh->World->Prop} {ρ:bh} {w:World}
def GL{ops Q'}{X:List PanicEntry->World->Prop}(c:∀ρ a w,gn x.ds n ρ a->Q' ρ w->rM x n Q .normal a w)(g:∀ρ a e w,gn x.ds n ρ a->X e w->rM x n Q (.panic e) a w):
  ∀(l:List Oper) (ρ:bh) (a:Act) (w:World),tN n l=true->gn x.ds n ρ a->qe P ops Q' X l ρ w->wpListIn (jz x.ro) 0 P ops (rM x n Q) l a w
 |[],ρ,a,w,_,hr,h=>c _ _ _ hr h
 |o :: l,ρ,a,w,j,hr,h=>by
  have⟨i,b⟩:=Nh j;unfold qe at h;unfold wpListIn;rw[hr.yielded];split;rename_i d;rw[if_pos d]at h;apply JB;rw[hr.eval];exact Nq h (fun v w' hh=>GL c g l _ _ _ b (hr.put i v) hh) Gd;rename_i d;rw[if_neg d]at h;exact⟨fun f _=>Ce x.ro f,GL c g l _ _ _ b (hr.put i undef) h⟩
def qZ{id l}(d:tN n l=true)(h:qe P l.toArray (fun ρ w=>Q .normal ρ w) (fun e w=>∀ρ,Q (.panic e) ρ w) l ρ w):dv (x:=x) P n (.region id l.toArray false) Q ρ w:=fun a f =>
 wpIn_region_lit<|GL (fun b _ _ hr c=>⟨b,.inl ⟨hr,c⟩⟩) (fun b _ _ _ hr c=>⟨b,.inl ⟨hr,c b⟩⟩) l ρ a w d f h
end
def O7(P:Program)(fn:Func)(n:Nat)(R:Ending->World->Prop):Exit->bh->World->Prop
 |.normal,ρ,w|.ret,ρ,w=>∃v,(∀ds a,gn ds n ρ a->(results fn a.tmps).run P w=.ok v w)/\R (.returned v) w
 |.panic b,_,w=>R (.panicked b) w
 |_,_,_=>False
def xJ{n w f fn c args R}(m:P.funcs[f]?=some fn)(k:fn.body=some c)(l:fn.ntmps=n)(j:args.length<=n)(h:dv (x:=⟨none,[]⟩) P n c (O7 P fn n R) (xD args) w):Calls P f args.toArray w R:=by
 subst l;refine callsIn_wide.1<|callsIn_of_wp_marks (n:=0) m k trivial ?_;refine wpIn_mono (h _<|Eo args j) ?_;rintro e a w' ⟨p,⟨hr,b⟩|⟨rfl,_,_,D,hr,o,b⟩⟩;have d:a.defers=[]:=hr.defers;cases e with
 |normal=>have⟨v,i,g⟩:=b;simp only[bodyPostM,d];exact tW (i _ a hr) g
 |ret=>have⟨v,i,g⟩:=b;simp only[bodyPostM,d];exact tW (i _ a hr) g
 |exit _=>exact b.elim
 |goto _=>exact b.elim
 |panic q=>simp only[bodyPostM,d];exact b
 |outgrown=>exact b.elim
 have⟨v,i,g⟩:=b;have d:a.defers=[mark D]:=hr.defers;simp only[bodyPostM,d];exact⟨Sm,.inl ⟨D,_,rfl,run_takeDeferred o,tW (i _ a hr) g⟩⟩
def ep{n fn R e ρ w}(h:re P fn n R e ρ w):O7 P fn n R e ρ w:=by
 cases e<;>first|exact h|exact h.elim
def qQ{ops Q}{X:List PanicEntry->World->Prop}:∀(k:Nat) {l:List Oper} {ρ:bh} {w:World},bu P ops (fun ρ w=>qe P ops Q X (l.drop k) ρ w) (l.take k) ρ w->qe P ops Q X l ρ w
 |0,l,ρ,w,h=>by simpa[bu]using h
 |k+1,[],ρ,w,h=>by simpa[bu]using h
 |k+1,o :: l,ρ,w,h=>by
  simp only[List.take_succ_cons,List.drop_succ_cons]at h;unfold bu at h;unfold qe;split;rename_i a;rw[if_pos a]at h;exact Nq (jOH (X:=X) h) (fun v w' hh=>qQ k hh) fun _ _ h=>h;rename_i a;rw[if_neg a]at h;exact qQ k h
def Dz{ops Q}{X:List PanicEntry->World->Prop}{l ρ w}(h:bu P ops Q l ρ w):qe P ops Q X l ρ w:=
 qQ l.length (by rw[List.take_length,List.drop_length];exact Cb (fun ρ w a=>a) h)
section
variable {ε:Operand->Value} {w:World} {d:Option Tmp} {ty:TypeId} {pos:String} {aft:Array Edge} {g:Option (Nat×Bool)}
def Cs{x t v}(a:ε x=.iface t v):(execOp ε ⟨d,.panic x,ty,pos,aft,g⟩).run P w=.halt (.panic<|.iface t v) w:=by
 simp[execOp,a];rfl
end
section
variable {ops:Array Oper} {Q:bh->World->Prop} {X:List PanicEntry->World->Prop} {ρ:bh} {w w':World} {rest:List Oper} {o:Oper} {v:Value}
def Y2(h:Q ρ w):qe P ops Q X [] ρ w:=h
def Cc{f args}(d:Region.wanted o (zJ ops ρ)=true)(g:∀c,o.op≠.defer c)(hr:(execOp (bw ρ) o).run P w=.ok (.enter f args) w')(h:Calls P f args w' fun e a=>(∃v,e=.returned v/\qe P ops Q X rest (put ρ o.dst v) a)\/∃b,e=.panicked b/\X b a):qe P ops Q X (o ::rest) ρ w:=by
 unfold qe;rw[if_pos d];exact⟨g,by rw[hr];exact h⟩
def BK{pv}(b:Region.wanted o (zJ ops ρ)=true)(a:∀c,o.op≠.defer c)(hr:(execOp (bw ρ) o).run P w=.halt (.panic pv) w')(h:X [{ v:=pv,recovered:=false }] w'):qe P ops Q X (o ::rest) ρ w:=by
 unfold qe;rw[if_pos b];exact⟨a,by rw[hr];exact h⟩
end
section
variable {ε:Operand->Value} {w:World} {d:Option Tmp} {ty:TypeId} {pos:String} {aft:Array Edge} {g:Option (Nat×Bool)}
end
end Go.SE
end
section
open Go Go.SE List
open Go.IntKind renaming i64 -> q6
namespace Go.Proofs
open Tryz
set_option maxRecDepth 100000
set_option maxHeartbeats 4000000
attribute [local irreducible] bu fw fg dv Calls
attribute [local irreducible] jq W WV WR uC pv ku jn oe ka mm kq ll np my iy ez ij nn kz kp uS xD yC bn ub
def Qr(d:Option Addr)(b:Int)(a:World)(K:Bool->WP):Prop:=Br (decide (b>=1)) (∃a1,d=some a1/\lx a a1 fun c=>K (decide (b<=(c.len:Int))) a)<|K false a
def ZS(p1 t1 w0 K)(h:Qr p1 t1 w0 K):
  cl 112 #[(vp p1),(vi t1)] w0<|XC K:=
 cy func112 h<|br 1 4 (nc 2<|ld 1<|rr 4)<|rr 9
def V9(g:Option Addr)(i:Int)(c:World)(K:Int->Int->Int->Int->ByteArray->Int->Int->Bool->WP):Prop:=∀a d,af c ar c a d->cl 112 #[(vp g),(vi i)] d (XC fun r1 b=>aj a d b/\Br (!r1) (∀n,af c a b a n->K 0 0 0 0 ⟨#[]⟩ 0 0 false n) (∃a1,g=some a1/\lx b a1 fun p=>∃a2:Addr,At p (q6.wrap<|i-1) 7 a2/\∃k o l e f j h,Row b a2 (Ab k o l e f j h)/\∀m,af c a b a m->K k o l e f j h true m))
def QL(p1 t1 w0 K)(h:V9 p1 t1 w0 K):
  cl 64 #[(vp p1),(vi t1)] w0<|fun e w'=>∃c a d b i f g r2,e=.returned (.tuple #[(Ac c a d b i f g),(vb r2)])/\K c a d b i f g r2 w':=
 du func64 h<|nh 0<|ah<|dw 3 call112<|br 0 1 (sg 2 0 []<|an<|dx 1<|pw 0 [] 7<|ee)<|nc 2<|ld 1<|ix 2<|cj<|xe<|lr 0<|sg 0 0 []<|an<|dx 1<|pw 0 [] 7<|ee
def dj(a:Int):Int:=(cond (a==4) 2<|cond (cond (a==5) (a==5)<|cond (a==7) (a==7)<|cond (a==8) (a==8)<|a==9) 1 0)
def rS(a:Int)(f:World):cl 65 #[(.int .i64 a)] f (fun e w'=>e=.returned (.int .i64<|dj a)/\Pure f w'):=
 jr func65 [(a==4),(cond (a==5) (a==5)<|cond (a==7) (a==7)<|cond (a==8) (a==8)<|a==9)] (fun b=>(vi<|cond (b 0) 2<|cond (b 1) 1 0)) fun d=>pb 0 4 0 d (fun d=>fe 2 d)<|fun d=>pj 3 0 [(a==5),(a==7),(a==8)] [] (fun b=>[(6,(vb<|cond (b 0) (a==5)<|cond (b 1) (a==7)<|cond (b 2) (a==8)<|a==9))]) (fun c=>pb 0 0 0 c (fun c=>pe 1 0 c)<|fun c=>pb 0 3 1 c (fun c=>pe 1 0 c)<|fun c=>pb 0 3 2 c (fun c=>pe 1 0 c)<|fun c=>pe 3 0 c)<|pb 0 0 1 d (fun d=>fe 2 d)<|fun d=>fe 2 d
def Pp(c:World)(K:(Option Addr)->WP):Prop:=∀a b,av c (.cells #[Sl.nil.v,Sl.nil.v,Sl.nil.v] 44) a b->K (some a) b
def We(a:World)(K:(Option Addr)->WP)(h:Pp  a K):
  cl 44 #[] a<|XD K:=
 cy func44 h<|cf 2<|rr 1
def jci(a:Int):Bool:=((a==8) ||(a==9))
def GZ(a:Int)(d:World):cl 174 #[(.int .i64 a)] d (fun e w'=>e=.returned (.bool<|jci a)/\Pure d w'):=
 jr func174 [] (fun b=>(vb<|(a==8) ||(a==9))) fun f=>pj 1 0 [] [] (fun b=>[(2,(vb<|(a==8) ||(a==9)))]) (fun g=>ct 3 3<|pj 0 0 [(a==8)] [] (fun b=>[(8,(vb<|(b 0) ||(a==9)))]) (fun c=>pb 1 0 0 c (fun c=>pe 3 0 c)<|fun c=>pe 3 0 c)<|pe 1 0 g)<|fe 0 f
def pI(a:Int):Bool:=((((a==1) ||(a==6)) ||(a==7)) ||((a==8) ||(a==9)))
def Ox(a:Int)(g:World):cl 172 #[(.int .i64 a)] g (fun e w'=>e=.returned (.bool<|pI a)/\Pure g w'):=
 jr func172 [] (fun b=>(vb<|(((a==1) ||(a==6)) ||(a==7)) ||((a==8) ||(a==9)))) fun i=>pj 1 0 [] [] (fun b=>[(2,(vb<|(((a==1) ||(a==6)) ||(a==7)) ||((a==8) ||(a==9))))]) (fun h=>ct 3 3<|pj 0 0 [(a==1)] [0] (fun b=>[(8,(vb<|(b 0) ||(a==6)))]) (fun f=>pb 1 0 0 f (fun f=>pe 3 0 f)<|fun f=>pe 3 0 f)<|ct 1 3<|pj 0 0 [((a==1) ||(a==6))] [0] (fun b=>[(12,(vb<|(b 0) ||(a==7)))]) (fun c=>pb 1 0 0 c (fun c=>pe 3 0 c)<|fun c=>pe 3 0 c)<|ct 1 3<|pj 0 0 [(((a==1) ||(a==6)) ||(a==7))] [] (fun b=>[(16,(vb<|(b 0) ||((a==8) ||(a==9))))]) (fun d=>pb 1 0 0 d (fun d=>pe 3 0 d)<|fun d=>cp 1 call174 (GZ a)<|pe 1 0 d)<|pe 1 0 h)<|fe 0 i
def Bs(a f:Int)(b d:Int)(g:ByteArray)(e c:Int):Bool:=(!((decide (a<1)) ||(decide (a>9)))&&(((((((pI a) ||(f==0))&&(((a==8) ||(a==9)) ||(b==0)))&&((a==2) ||(d==0)))&&((a==3) ||(decide (g=⟨#[]⟩))))&&((decide ((dj a)>=1)) ||(e==0)))&&((((dj a):Int)==2) ||(c==0))))
def jcn(a p:Int)(o q:Int)(r:ByteArray)(s t:Int)(x:World):cl 171 #[(.agg #[(.int .i64 a),(.int .i64 p),(.int .i64 o),(.int .u64 q),(.string r),(.int .i64 s),(.int .i64 t)])] x (fun e w'=>e=.returned (.bool<|Bs a p o q r s t)/\Pure x w'):=
 jr func171 [((decide (a<1)) ||(decide (a>9)))] (fun b=>(vb<|!(b 0)&&(((((((pI a) ||(p==0))&&(((a==8) ||(a==9)) ||(o==0)))&&((a==2) ||(q==0)))&&((a==3) ||(decide (r=⟨#[]⟩))))&&((decide ((dj a)>=1)) ||(s==0)))&&((((dj a):Int)==2) ||(t==0))))) fun u=>nh 0<|pj 1 0 [(decide (a<1))] [1] (fun b=>[(10,(vb<|(b 0) ||(decide (a>9))))]) (fun v=>lh 1 0 []<|pb 1 2 0 v (fun v=>pe 4 0 v)<|fun v=>lh 1 0 []<|pe 2 0 v)<|pb 0 0 0 u (fun u=>fe 2 u)<|fun u=>pj 1 0 [] [] (fun b=>[(2,(vb<|((((((pI a) ||(p==0))&&(((a==8) ||(a==9)) ||(o==0)))&&((a==2) ||(q==0)))&&((a==3) ||(decide (r=⟨#[]⟩))))&&((decide ((dj a)>=1)) ||(s==0)))&&((((dj a):Int)==2) ||(t==0))))]) (fun w=>lh 1 0 []<|cp 0 call172 (Ox a)<|ct 1 4<|pj 0 0 [(pI a)] [1] (fun b=>[(18,(vb<|(b 0) ||(p==0)))]) (fun c=>pb 1 0 0 c (fun c=>pe 4 0 c)<|fun c=>lh 1 0 [1]<|pe 2 0 c)<|ct 1 9<|pj 0 0 [((pI a) ||(p==0))] [1] (fun b=>[(28,(vb<|(b 0)&&(((a==8) ||(a==9)) ||(o==0))))]) (fun j=>pb 1 0 0 j (fun j=>lh 1 0 []<|cp 0 call174 (GZ a)<|ct 1 4<|pj 0 0 [((a==8) ||(a==9))] [1,19] (fun b=>[(27,(vb<|(b 0) ||(o==0)))]) (fun g=>pb 1 0 0 g (fun g=>pe 4 0 g)<|fun g=>lh 1 0 [2]<|pe 2 0 g)<|pe 1 0 j)<|fun j=>pe 9 0 j)<|ct 1 9<|pj 0 0 [(((pI a) ||(p==0))&&(((a==8) ||(a==9)) ||(o==0)))] [1] (fun b=>[(38,(vb<|(b 0)&&((a==2) ||(q==0))))]) (fun h=>pb 1 0 0 h (fun h=>lh 1 0 []<|ct 2 4<|pj 0 0 [(a==2)] [1,29] (fun b=>[(37,(vb<|(b 0) ||(q==0)))]) (fun m=>pb 1 0 0 m (fun m=>pe 4 0 m)<|fun m=>lh 1 0 [3]<|pe 2 0 m)<|pe 1 0 h)<|fun h=>pe 9 0 h)<|ct 1 9<|pj 0 0 [((((pI a) ||(p==0))&&(((a==8) ||(a==9)) ||(o==0)))&&((a==2) ||(q==0)))] [1] (fun b=>[(48,(vb<|(b 0)&&((a==3) ||(decide (r=⟨#[]⟩)))))]) (fun i=>pb 1 0 0 i (fun i=>lh 1 0 []<|ct 2 4<|pj 0 0 [(a==3)] [1,39] (fun b=>[(47,(vb<|(b 0) ||(decide (r=⟨#[]⟩))))]) (fun d=>pb 1 0 0 d (fun d=>pe 4 0 d)<|fun d=>lh 1 0 [4]<|pe 2 0 d)<|pe 1 0 i)<|fun i=>pe 9 0 i)<|ct 1 10<|pj 0 0 [(((((pI a) ||(p==0))&&(((a==8) ||(a==9)) ||(o==0)))&&((a==2) ||(q==0)))&&((a==3) ||(decide (r=⟨#[]⟩))))] [1] (fun b=>[(59,(vb<|(b 0)&&((decide ((dj a)>=1)) ||(s==0))))]) (fun l=>pb 1 0 0 l (fun l=>lh 1 0 []<|cp 0 call65 (rS a)<|ct 2 4<|pj 0 0 [(decide ((dj a)>=1))] [1,49] (fun b=>[(58,(vb<|(b 0) ||(s==0)))]) (fun k=>pb 1 0 0 k (fun k=>pe 4 0 k)<|fun k=>lh 1 0 [5]<|pe 2 0 k)<|pe 1 0 l)<|fun l=>pe 10 0 l)<|ct 1 10<|pj 0 0 [((((((pI a) ||(p==0))&&(((a==8) ||(a==9)) ||(o==0)))&&((a==2) ||(q==0)))&&((a==3) ||(decide (r=⟨#[]⟩))))&&((decide ((dj a)>=1)) ||(s==0)))] [] (fun b=>[(70,(vb<|(b 0)&&((((dj a):Int)==2) ||(t==0))))]) (fun f=>pb 1 0 0 f (fun f=>lh 1 0 []<|cp 0 call65 (rS a)<|ct 2 4<|pj 0 0 [(((dj a):Int)==2)] [60] (fun b=>[(69,(vb<|(b 0) ||(t==0)))]) (fun n=>pb 1 0 0 n (fun n=>pe 4 0 n)<|fun n=>lh 1 0 [6]<|pe 2 0 n)<|pe 1 0 f)<|fun f=>pe 10 0 f)<|pe 1 0 w)<|fe 0 u
def Vp(n1:Int):Bool:=((decide (n1>=0))&&(decide (n1<16)))
def Qd(n1:Int)(c:World):cl 173 #[(.int .i64 n1)] c (fun e w'=>e=.returned (.bool<|Vp n1)/\Pure c w'):=
 jr func173 [] (fun b=>(vb<|(decide (n1>=0))&&(decide (n1<16)))) fun d=>pj 1 0 [] [] (fun b=>[(2,(vb<|(decide (n1>=0))&&(decide (n1<16))))]) (fun f=>ct 3 3<|pj 0 0 [(decide (n1>=0))] [] (fun b=>[(8,(vb<|(b 0)&&(decide (n1<16))))]) (fun a=>pb 1 0 0 a (fun a=>pe 3 0 a)<|fun a=>pe 3 0 a)<|pe 1 0 f)<|fe 0 d
def sX(a c:Int)(b f:Int)(d:ByteArray)(g e:Int):Int:=(cond (!(Bs a c b f d g e)) 53<|cond (((pI a)&&(!((decide (c>=0))&&(decide (c<16))))) ||(((a==8) ||(a==9))&&((!((decide (b>=0))&&(decide (b<16)))) ||(c==b)))) 50<|cond (decide ((d.size:Int)>64)) 1 0)
def Km(c d:Int)(a l:Int)(k:ByteArray)(n m:Int)(o:World):cl 120 #[(.agg #[(.int .i64 c),(.int .i64 d),(.int .i64 a),(.int .u64 l),(.string k),(.int .i64 n),(.int .i64 m)])] o (fun e w'=>e=.returned (.int .i64<|sX c d a l k n m)/\Pure o w'):=
 jr func120 [(!(Bs c d a l k n m)),(((pI c)&&(!((decide (d>=0))&&(decide (d<16))))) ||(((c==8) ||(c==9))&&((!((decide (a>=0))&&(decide (a<16)))) ||(d==a)))),(decide ((k.size:Int)>64))] (fun b=>(vi<|cond (b 0) 53<|cond (b 1) 50<|cond (b 2) 1 0)) fun f=>nh 0<|iu 1 0 [] 7<|cp 0 call171 (jcn c d a l k n m)<|pb 0 1 0 f (fun f=>fe 2 f)<|fun f=>pj 1 0 [((pI c)&&(!((decide (d>=0))&&(decide (d<16)))))] [1] (fun b=>[(32,(vb<|(b 0) ||(((c==8) ||(c==9))&&((!((decide (a>=0))&&(decide (a<16)))) ||(d==a)))))]) (fun j=>lh 1 0 []<|cp 0 call172 (Ox c)<|ct 1 5<|pj 0 0 [(pI c)] [1] (fun b=>[(14,(vb<|(b 0)&&(!((decide (d>=0))&&(decide (d<16))))))]) (fun g=>pb 1 0 0 g (fun g=>lh 1 0 [1]<|cp 0 call173 (Qd d)<|pe 2 0 g)<|fun g=>pe 5 0 g)<|pb 1 1 0 j (fun j=>pe 17 0 j)<|fun j=>lh 1 0 []<|cp 0 call174 (GZ c)<|ct 1 12<|pj 0 0 [((c==8) ||(c==9))] [1,15] (fun b=>[(31,(vb<|(b 0)&&((!((decide (a>=0))&&(decide (a<16)))) ||(d==a))))]) (fun h=>pb 1 0 0 h (fun h=>lh 1 0 [2]<|cp 0 call173 (Qd a)<|ct 2 6<|pj 0 0 [(!((decide (a>=0))&&(decide (a<16))))] [1,15,19] (fun b=>[(30,(vb<|(b 0) ||(d==a)))]) (fun i=>pb 1 0 0 i (fun i=>pe 6 0 i)<|fun i=>lh 1 0 [1]<|lh 1 0 [2]<|pe 2 0 i)<|pe 1 0 h)<|fun h=>pe 12 0 h)<|pe 1 0 j)<|pb 0 0 1 f (fun f=>fe 2 f)<|fun f=>lh 2 0 [4]<|pb 0 2 2 f (fun f=>fe 2 f)<|fun f=>fe 2 f
def VW(b:Option Addr)(c:Int)(e:World)(K:Int->WP):Prop:=cl 112 #[(vp b),(vi c)] e<|XC fun r1 a=>Br (!r1) (K 0 a)<|∃a1,b=some a1/\lx a (a1.add 1) fun f=>∃a2:Addr,At f (q6.wrap<|c-1) 1 a2/\li a a2 fun d=>K d a
def jbN(p1 t1 w0 K)(h:VW p1 t1 w0 K):
  cl 113 #[(vp p1),(vi t1)] w0<|XB K:=
 cy func113 h<|gd 3 call112<|br 0 1 (rr 2)<|nc 2<|ld 1<|ix 2<|ld 0<|rr 1
def V3(b:Option Addr)(c:Int)(e:World)(K:Int->WP):Prop:=cl 112 #[(vp b),(vi c)] e<|XC fun r1 a=>Br (!r1) (K 0 a)<|∃a1,b=some a1/\lx a (a1.add 2) fun f=>∃a2:Addr,At f (q6.wrap<|c-1) 1 a2/\li a a2 fun d=>K d a
def V5(p1 t1 w0 K)(h:V3 p1 t1 w0 K):
  cl 121 #[(vp p1),(vi t1)] w0<|XB K:=
 cy func121 h<|gd 3 call112<|br 0 1 (rr 2)<|nc 2<|ld 1<|ix 2<|ld 0<|rr 1
def jAH(a0 a1:Int)(a2 a3:Int)(a4:ByteArray)(a5 a:Int)(b0 b1:Int)(b2 b3:Int)(b4:ByteArray)(b5 b6:Int)(w:World):(Go.binOp .eql 119 (.agg #[(.int .i64 a0),(.int .i64 a1),(.int .i64 a2),(.int .u64 a3),(.string a4),(.int .i64 a5),(.int .i64 a)])<|.agg #[(.int .i64 b0),(.int .i64 b1),(.int .i64 b2),(.int .u64 b3),(.string b4),(.int .i64 b5),(.int .i64 b6)]).run prog w=.ok (.bool<|(a0==b0)&&((a1==b1)&&((a2==b2)&&((a3==b3)&&((decide (a4=b4))&&((a5==b5)&&(a==b6))))))) w:=by
 simp[Go.binOp,Op.equal,Op.maxDepth,go_sem,zp,bne]
 repeat' split
 all_goals simp_all
def NI(e:Option Addr)(m v:Int)(p n:Int)(s:ByteArray)(u t i1:Int)(o:World)(b:NP)(a:World)(d:Int->NP->WP)(K:Int->Bool->WP):Prop:=∃a1,e=some a1/\lx a a1 fun r=>Br (decide (i1<(r.len:Int))) (∃a2,e=some a2/\∀c,af o b a b c->lx c a2 fun q=>∃a3:Addr,At q i1 7 a3/\∃l i h f g k j,Row c a3 (Ab l i h f g k j)/\Br ((l==m)&&((i==v)&&((h==p)&&((f==n)&&((decide (g=s))&&((k==u)&&(j==t))))))) (K (q6.wrap<|i1+1) true c) (d (q6.wrap<|i1+1) b c))<|K 0 false a
def KJ(i:Option Addr)(j p:Int)(l k:Int)(q:ByteArray)(o n:Int)(e:World)(K:Int->Bool->WP):Prop:=∀g h,af e ar e g h->∃(f:Int->NP->WP) (d:Int->World->Nat),f 0 g h/\∀(i1:Int) (b:NP) (a:World),af e b a b a->f i1 b a->NI i j p l k q o n i1 e b a (fun c m w'=>f c m w'/\d c w'<d i1 a) K
def jat(p1 aA aC aB aI aG aH aE w0 K)(h:KJ p1 aA aC aB aI aG aH aE w0 K):
  cl 122 #[(vp p1),(.agg #[(vi aA),(vi aC),(vi aB),(vu aI),(vs aG),(vi aH),(vi aE)])] w0<|XE K:=
 du func122 h<|nh 0<|ah<|uw 3 [0,3] (fun i1=>[(6,(vi i1))])<|fun {_ _ i1}=>fun f=>nc 2<|ld 1<|br 0 2 (dq 1<|nc 1<|an<|ld 1<|ix 1<|cj<|fun {d g e a b c}=>xe<|fun {i}=>lr 0<|iu 0 0 [] 7<|ae 0 (jAH d g e a b c i aA aC aB aI aG aH aE)<|br 0 0 (rr 5)<|je 4 0 f)<|rr 3
def Cu(a:Option Addr)(N Y:Int)(U O:Int)(Z:ByteArray)(y x:Int)(x1:Bool)(T:World)(H:NP)(w:World)(K:Int->Int->WP):Prop:=Br x1 (K 0 51 w)<|∃B:WP,B w.drew/\∀D,D=w.drew->cl 113 #[(vp a),(vi y)] D fun e u=>∃r1,e=.returned (vi r1)/\B u/\aj H D u/\cl 113 #[(vp a),(vi x)] u fun e r=>∃r2,e=.returned (vi r2)/\B r/\aj H u r/\∃s:WP,s r.drew/\∀C,C=r.drew->cl 121 #[(vp a),(vi y)] C fun e q=>∃r3,e=.returned (vi r3)/\s q/\aj H C q/\cl 121 #[(vp a),(vi x)] q fun e z=>∃G,e=.returned (vi G)/\s z/\aj H q z/\∃A,(∀w',s w'->(Builtin.max_ #[3,3] 3 #[(vi r3),(vi G)]).run prog w'=.ok (vi A) w')/\∀W:Bool,W=((decide ((q6.wrap<|(q6.wrap<|1+r1)+r2)>4096)) ||(decide ((q6.wrap<|1+A)>64)))->Br W (∀f b,af T H z f b->K 0 52 b) (∀f b,af T H z f b->cl 122 #[(vp a),(.agg #[(vi N),(vi Y),(vi U),(vu O),(vs Z),(vi y),(vi x)])] b (XE fun r5 r6 c=>aj f b c/\Br r6 (K r5 0 c) (∃a1,a=some a1/\∃X:Sl,c.cell? a1=some X.v/\Br (decide ((X.len:Int)>=65536)) (K 0 6 c) (∃t:WP,t c.drew/\∀o,o=c.drew->∃a2,a=some a2/\∃V:Sl,(∀w',t w'->w'.cell? a2=some V.v)/\∀S i,av o (.cells #[(vi N),(vi Y),(vi U),(vu O),(vs Z),(vi y),(vi x)] 119) S i->t i/\∃s1:Sl,∃d:World,(Builtin.append_ #[41,41] 41 #[V.v,(Sl.mk (some S) 1 1).v]).run prog i=.ok s1.v d/\t d/\aj f i d/\∃a3,a=some a3/\zL d a3/\¬f a3.block/\∀m,m=d.setCell a3 s1.v->∃a4,a=some a4/\∃R:Sl,m.cell? (a4.add 1)=some R.v/\∀J l,av m (.cells #[(vi<|q6.wrap<|(q6.wrap<|1+r1)+r2)] 3) J l->∃E:Sl,∃g:World,(Builtin.append_ #[42,42] 42 #[R.v,(Sl.mk (some J) 1 1).v]).run prog l=.ok E.v g/\aj f l g/\∃a5,a=some a5/\zL g (a5.add 1)/\¬f (a5.add 1).block/\∀j,j=g.setCell (a5.add 1) E.v->∃M,a=some M/\∃L:Sl,j.cell? (M.add 2)=some L.v/\∀F n,av j (.cells #[(vi<|q6.wrap<|1+A)] 3) F n->∃Q:Sl,∃h:World,(Builtin.append_ #[42,42] 42 #[L.v,(Sl.mk (some F) 1 1).v]).run prog n=.ok Q.v h/\aj f n h/\∃p,a=some p/\zL h (p.add 2)/\¬f (p.add 2).block/\∀k,k=h.setCell (p.add 2) Q.v->∃P,a=some P/\∃I:Sl,k.cell? P=some I.v/\K (I.len:Int) 0 k))))
def BN(b:Option Addr)(c i:Int)(f g:Int)(j:ByteArray)(h d:Int)(k:Bool)(e:World)(H:NP)(w:World)(K:Int->Int->WP):Prop:=Br k (Cu b c i f g j h d true e H w K)<|Br (((dj c):Int)==2) (cl 112 #[(vp b),(vi d)] w<|XC fun l a=>aj H w a/\Cu b c i f g j h d (!l) e H a K) (Cu b c i f g j h d false e H w K)
def Hf(l:Option Addr)(d j:Int)(g h:Int)(k:ByteArray)(e i:Int)(b:World)(K:Int->Int->WP):Prop:=Br (((sX d j g h k e i):Int) !=0) (∀a m,af b ar b a m->K 0 (sX d j g h k e i) m)<|Br (decide ((dj d)>=1)) (∀a c,af b ar b a c->cl 112 #[(vp l),(vi e)] c (XC fun n f=>aj a c f/\BN l d j g h k e i (!n) b a f K))<|∀a c,af b ar b a c->BN l d j g h k e i false b a c K
def w_V(p1 aA aC aB aI aG aH aE w0 K)(h:Hf p1 aA aC aB aI aG aH aE w0 K):
  cl 60 #[(vp p1),(.agg #[(vi aA),(vi aC),(vi aB),(vu aI),(vs aG),(vi aH),(vi aE)])] w0<|XH K:=
 du func60 h<|nh 0<|iu 2 0 [] 7<|cp 0 call120 (Km aA aC aB aI aG aH aE)<|br 0 3 (ah<|rr 4)<|lh 2 0 []<|cp 0 call65 (rS aA)<|ke 1 0 [0,3] (fun d=>[(39,(vb d))]) (fun d H w=>Cu _ _ _ _ _ _ _ _ d _ H w _) (fun e=>ct 3 6<|ke 0 0 [0,3,7] (fun c=>[(28,(vb c))]) (fun c H w=>BN _ _ _ _ _ _ _ _ c _ H w _) (fun f=>br 1 0 (lh 2 0 [5]<|ah<|dw 0 call112<|je 2 0 f)<|ah<|je 6 0 f)<|fun {c}=>br 1 1 (je 10 0 e)<|br 1 3 (lh 2 0 [6]<|dw 0 call112<|je 3 0 e)<|je 7 0 e)<|fun {d}=>br 0 0 (rr 3)<|dC 1 [3,8] []<|ju 2 0 [5]<|ju 2 0 [6]<|mg 0 call113<|fun {r1}=>mg 1 call113<|fun {r2}=>dC 2 [3,7] []<|ju 2 0 [5]<|ju 2 0 [6]<|mg 0 call121<|mg 0 call121<|xe<|fun {g}=>Ib 0<|pj 2 0 [(decide ((q6.wrap<|(q6.wrap<|1+r1)+r2)>4096))] [0,3,8,9] (fun b=>[(65,(vb<|(b 0) ||(decide ((q6.wrap<|1+g)>64))))]) (fun a=>pb 1 3 0 a (fun a=>pe 3 0 a)<|fun a=>pe 3 0 a)<|yy<|br 0 0 (ah<|rr 3)<|iu 2 0 [] 7<|ah<|im 0 call122<|br 0 6 (rr 4)<|nc 2<|ld 1<|br 0 2 (rr 3)<|dC 1 [6,7,10] [10]<|nc 2<|il 1<|uz 0 0 [] 7<|wI 0<|dt<|ef 0<|sM<|nc 0<|ow 1<|nc 2<|ld 1<|ot 1<|dt<|ef 0<|iv<|nc 0<|ow 1<|nc 2<|ld 1<|ot 1<|dt<|ef 0<|iv<|nc 0<|ow 1<|nc 1<|ld 1<|rr 3
def Iv(b:Option Addr)(d:Int)(u:Bool)(w:World)(K:WP):Prop:=Br u (K w)<|∃a1,b=some a1/\lx w (a1.add 1) fun y=>∃a2:Addr,At y d 1 a2/\zL w a2/\∀c,c=w.setCell a2 (vb true)->∃a3,b=some a3/\lp c a3 fun x=>∃a4,x=some a4/\lx c a4 fun t=>∃a5:Addr,At t (q6.wrap<|d-1) 7 a5/\li c (a5.add 5) fun r=>cl 123 #[(vp b),(vi r)] c fun e f=>e=.returned (.tuple #[])/\∃k,b=some k/\lp f k fun p=>∃h,p=some h/\lx f h fun z=>∃l:Addr,At z (q6.wrap<|d-1) 7 l/\li f (l.add 6) fun q=>cl 123 #[(vp b),(vi q)] f fun e o=>e=.returned (.tuple #[])/\∃n,b=some n/\lx o (n.add 2) fun s=>∀i m,av o (.cells #[(vi d)] 73) i m->∃s1:Sl,∃g:World,(Builtin.append_ #[46,46] 46 #[s.v,(Sl.mk (some i) 1 1).v]).run prog m=.ok s1.v g/\∃a,b=some a/\zL g (a.add 2)/\∀j,j=g.setCell (a.add 2) s1.v->K j
def Px(d:Option Addr)(e:Int)(i:World)(K:WP):Prop:=∃a,d=some a/\lp i a fun j=>cl 112 #[(vp j),(vi e)] i<|XC fun r1 f=>Br (!r1) (Iv d e true f K)<|∃c,d=some c/\lx f (c.add 1) fun h=>∃b:Addr,At h e 1 b/\lb f b fun g=>Iv d e g f K
def UG(w1 t1 w0 K)(h:Px w1 t1 w0 K):
  cl 123 #[(vp w1),(vi t1)] w0<|fun e w'=>e=.returned (.tuple #[])/\K  w':=
 cy func123 h<|me 0 0 [0,1] (fun a=>[(19,(vb a))]) (fun a w=>Iv _ _ a w _) (fun b=>nc 1<|ld 1<|gd 1 call112<|br 1 2 (df 8 b)<|nc 1<|ld 1<|ix 1<|ld 0<|df 1 b)<|fun {a}=>br 0 0 (rr 1)<|nc 2<|ld 1<|ix 1<|gr 0<|nc 2<|ld 1<|nc 0<|ld 1<|ix 2<|ld 1<|wF 0 call123<|nc 2<|ld 1<|nc 0<|ld 1<|ix 2<|ld 1<|wF 0 call123<|nc 2<|ld 1<|cf 1<|dt<|ef 0<|eo<|nc 0<|gr 1<|rr 0
def Qp(c:Option Addr)(j:Int)(f:World)(K:Sl->WP):Prop:=∃a1,c=some a1/\∃b:Sl,f.cell? a1=some b.v/\∃s1:Sl,∃d:World,(Instr.makeSlice 189 (vi<|q6.wrap<|(b.len:Int)+1)<|vi<|q6.wrap<|(b.len:Int)+1).run prog f=.ok s1.v d/\∀a i,av d (.cells #[(vp c),s1.v,Sl.nil.v] 191) a i->cl 123 #[(vp<|some a),(vi j)] i fun e h=>e=.returned (.tuple #[])/\∃g:Sl,h.cell? (a.add 2)=some g.v/\K g h
def jaT(p1 t1 w0 K)(h:Qp p1 t1 w0 K):
  cl 61 #[(vp p1),(vi t1)] w0<|XA K:=
 cy func61 h<|nc 3<|ld 1<|dt<|ef 2<|eo<|cf 1<|wF 3 call123<|ld 3<|rr 1
def xr(d c:Int)(e a:Int)(b:ByteArray)(f:Sl):Int×Int×Int×Int×ByteArray×Int×Int:=(d,c,e,a,b,0,0)
def Ku(f d:Int)(g a:Int)(c:ByteArray)(h:Sl)(i:World):cl 211 #[(.agg #[(.int .i64 f),(.int .i64 d),(.int .i64 g),(.int .u64 a),(.string c),h.v])] i (fun e w'=>e=.returned (.agg #[(.int .i64 (xr f d g a c h).1),(.int .i64 (xr f d g a c h).2.1),(.int .i64 (xr f d g a c h).2.2.1),(.int .u64 (xr f d g a c h).2.2.2.1),(.string (xr f d g a c h).2.2.2.2.1),(.int .i64 (xr f d g a c h).2.2.2.2.2.1),(.int .i64 (xr f d g a c h).2.2.2.2.2.2)])/\Pure i w'):=
 jr func211 [] (fun b=>(Ac f d g a c 0 0)) fun j=>nh 0<|nh 0<|lh 1 1 []<|lh 1 1 [1]<|lh 1 1 [2]<|lh 1 1 [3]<|lh 1 1 [4]<|sg 1 0 []<|dx 0<|pw 0 [] 7<|I4 j
def Ld(l:Sl)(b:Int)(c:Option Addr)(m i1:Int)(n:World)(f:NP)(g:World)(h:Int->Int->NP->WP)(K:Int->WP):Prop:=Br ((m==0)&&(decide (i1<(l.len:Int)))) (∃a3:Addr,At l i1 6 a3/\∀d a,af n f g d a->∃o q p i k j,Row a a3 (Af o q p i k j)/\cl 210 #[(.agg #[(vi o),(vi q),(vi p),(vu i),(vs k),j.v]),(vi<|q6.wrap<|b+1),(vp c)] a (XB fun r1 e=>aj d a e/\h r1 (q6.wrap<|i1+1) d e))<|∀d a,af n f g d a->K m a
def P2(j s:Int)(n o:Int)(m:ByteArray)(p:Sl)(d:Int)(a:Option Addr)(u:Bool)(k:World)(H:NP)(w:World)(K:Int->WP):Prop:=Br u (K 52 w)<|∃a1,a=some a1/\li w a1 fun x=>∃a2,a=some a2/\zL w a2/\¬H a2.block/\∀t,t=w.setCell a2 (vi<|q6.wrap<|x+1)->∀r:Bool,r=((((sX j s n o m 0 0):Int) !=53)&&(((p.len:Int):Int) !=(dj j)))->∀q h,af k H t q h->∃(i:Int->Int->NP->WP) (g:Int->Int->World->Nat),i (cond r 53<|sX j s n o m 0 0) 0 q h/\∀(l i1:Int) (c:NP) (b:World),af k c b c b->i l i1 c b->Ld p d a l i1 k c b (fun f e v w'=>i f e v w'/\g f e w'<g l i1 b) K
def Lv(m j:Int)(n h:Int)(i:ByteArray)(k:Sl)(b:Int)(a:Option Addr)(d:World)(K:Int->WP):Prop:=∃a4,a=some a4/\∀f e,af d ar d f e->li e a4 fun l=>∀g c,af d f e g c->P2 m j n h i k b a ((decide (l>=4096)) ||(decide (b>=64))) d g c K
def jcq(aF aJ aK aL aM aD deep1 seen1 w0 K)(h:Lv aF aJ aK aL aM aD deep1 seen1 w0 K):
  cl 210 #[(.agg #[(vi aF),(vi aJ),(vi aK),(vu aL),(vs aM),aD.v]),(vi deep1),(vp seen1)] w0<|XB K:=
 du func210 h<|nh 0<|ke 1 0 [1,2,3] (fun f=>[(16,(vb f))]) (fun f H w=>P2 _ _ _ _ _ _ _ _ f _ H w _) (fun k=>nc 1<|ah<|ld 0<|fun {j}=>ct 2 3<|pj 0 0 [(decide (j>=4096))] [1,2,3] (fun b=>[(16,(vb<|(b 0) ||(decide (deep1>=64))))]) (fun a=>pb 1 0 0 a (fun a=>pe 3 0 a)<|fun a=>pe 3 0 a)<|ah<|je 0 0 k)<|fun {f}=>br 0 0 (rr 2)<|nc 3<|ld 0<|nc 1<|ow 0<|iu 0 0 [] 6<|cp 0 call211 (Ku aF aJ aK aL aM aD)<|cp 0 call120 (Km aF aJ aK aL aM 0 0)<|pj 1 0 [(((sX aF aJ aK aL aM 0 0):Int) !=53)] [1,2,3,7] (fun b=>[(36,(vb<|(b 0)&&(((aD.len:Int):Int) !=(dj aF))))]) (fun c=>Zi 0 [8] []<|pb 1 3 0 c (fun c=>lhs 1 0 0 [5]<|lhs 2 0 0 []<|XX 0 0 call65 (rS aF)<|pe 2 0 c)<|fun c=>pe 8 0 c)<|yy<|pj 0 0 [((((sX aF aJ aK aL aM 0 0):Int) !=53)&&(((aD.len:Int):Int) !=(dj aF)))] [1,2,3] (fun b=>[(7,(vi<|cond (b 0) 53<|sX aF aJ aK aL aM 0 0))]) (fun d=>pb 0 0 0 d (fun d=>pe 2 0 d)<|fun d=>pe 1 0 d)<|ah<|vh 1 [1,2,3] (fun g i1=>[(7,(vi g)),(8,(vi i1))])<|fun {_ _ g i1}=>fun i=>pj 0 0 [(g==0)] [1,2,3,7,8] (fun b=>[(45,(vb<|(b 0)&&(decide (i1<(aD.len:Int)))))]) (fun e=>pb 1 3 0 e (fun e=>lh 2 0 [5]<|pe 3 0 e)<|fun e=>pe 6 0 e)<|br 0 0 (lh 2 0 [5]<|ix 1<|ah<|cj<|lr 0<|dw 3 call210<|je 4 0 i)<|ah<|rr 3
def SJ(l j:Int)(m h:Int)(i:ByteArray)(k:Sl)(f:World)(K:Int->WP):Prop:=∀b e,af f ar f b e->∀a d,av e (.cells #[(vi 0)] 3) a d->zL d a/\¬b a.block/\∀c,c=d.setCell a (vi 0)->cl 210 #[(.agg #[(vi l),(vi j),(vi m),(vu h),(vs i),k.v]),(vi 0),(vp<|some a)] c (XB fun r1 g=>aj b c g/\K r1 g)
def jcb(aF aJ aK aL aM aD w0 K)(h:SJ aF aJ aK aL aM aD w0 K):
  cl 152 #[(.agg #[(vi aF),(vi aJ),(vi aK),(vu aL),(vs aM),aD.v])] w0<|XB K:=
 du func152 h<|nh 0<|ah<|ot 1<|ow 0<|iu 0 0 [] 6<|dw 0 call210<|rr 1
def Vy(f:Option Addr)(k:Sl)(i1 m:Int)(t o n:Int)(w:ByteArray)(s r:Int)(y:World)(b:NP)(a:World)(d:Int->Int->Int->Int->Int->ByteArray->Int->Int->NP->WP)(K:Int->Int->WP):Prop:=Br (decide (i1<(k.len:Int))) (∃a1:Addr,At k i1 6 a1/\∃u q p h i j,Row a a1 (Af u q p h i j)/\cl 153 #[(vp f),(.agg #[(vi u),(vi q),(vi p),(vu h),(vs i),j.v])] a (XH fun r1 r2 e=>aj b a e/\Br (r2 !=0) (K 0 r2 e) (∀l g,af y b e l g->d (q6.wrap<|i1+1) m t o n w (cond (i1==0) r1 s) (cond (i1==0) r r1) l g)))<|cl 60 #[(vp f),(.agg #[(vi m),(vi t),(vi o),(vu n),(vs w),(vi s),(vi r)])] a<|XH fun r3 x c=>aj b a c/\K r3 x c
def Jq(x:Option Addr)(B D:Int)(y z:Int)(w:ByteArray)(A:Sl)(l:World)(K:Int->Int->WP):Prop:=∀u v,af l ar l u v->∃(n:Int->Int->Int->Int->Int->ByteArray->Int->Int->NP->WP) (k:Int->Int->Int->Int->Int->ByteArray->Int->Int->World->Nat),n 0 B D y z w 0 0 u v/\∀(i1 m:Int) (s p o:Int) (t:ByteArray) (r q:Int) (b:NP) (a:World),af l b a b a->n i1 m s p o t r q b a->Vy x A i1 m s p o t r q l b a (fun d c f j g i e h C w'=>n d c f j g i e h C w'/\k d c f j g i e h w'<k i1 m s p o t r q a) K
def Rs(p1 aF aJ aK aL aM aD w0 K)(h:Jq p1 aF aJ aK aL aM aD w0 K):
  cl 153 #[(vp p1),(.agg #[(vi aF),(vi aJ),(vi aK),(vu aL),(vs aM),aD.v])] w0<|XH K:=
 du func153 h<|nh 0<|iu 2 0 [] 6<|cp 0 call211 (Ku aF aJ aK aL aM aD)<|nh 0<|sg 0 0 []<|ah<|wb8 1 [0,3,6] (fun i1 c i d f j g e=>[(7,(vi i1))]) (fun i1 c i d f j g e l=>ij l 0 0<|Ab c i d f j g e)<|fun {_ _ i1 c i d f j g e}=>fun k=>lh 2 1 [5]<|br 0 2 (lh 3 1 [5]<|ix 1<|cj<|lr 0<|im 0 call153<|fun {r1}=>br 0 7 (rr 4)<|ph (fun b l=>ij l 0 0<|Ab c i d f j (cond (b 0) r1 g)<|cond (b 0) e r1) 3 0 [(i1==0)] [0,3,6,7] (fun b=>[]) (fun a=>pb 0 0 0 a (fun a=>sh 3 0 [5]<|pe 0 0 a)<|fun a=>sh 3 0 [6]<|pe 0 0 a)<|ah<|je 3 0 k)<|iu 2 0 [] 7<|im 0 call60<|rr 4
def HP(a:Option Addr)(n1:Int)(d:World)(K:WP):Prop:=∃a1,a=some a1/\lx d a1 fun k=>∃s1:Sl,(Instr.sliceAt 41 k.v none (some<|vi n1) none).run prog d=.ok s1.v d/\∃a2,a=some a2/\zL d a2/\∀b,b=d.setCell a2 s1.v->∃a3,a=some a3/\lx b (a3.add 1) fun j=>∃f:Sl,(Instr.sliceAt 42 j.v none (some<|vi n1) none).run prog b=.ok f.v b/\∃a4,a=some a4/\zL b (a4.add 1)/\∀c,c=b.setCell (a4.add 1) f.v->∃a5,a=some a5/\lx c (a5.add 2) fun i=>∃h:Sl,(Instr.sliceAt 42 i.v none (some<|vi n1) none).run prog c=.ok h.v c/\∃e,a=some e/\zL c (e.add 2)/\∀g,g=c.setCell (e.add 2) h.v->K g
def U3(p1 n1 w0 K)(h:HP p1 n1 w0 K):
  cl 154 #[(vp p1),(vi n1)] w0<|fun e w'=>e=.returned (.tuple #[])/\K  w':=
 cy func154 h<|nc 2<|ld 1<|xe<|rn 1<|nc 0<|gr 1<|nc 2<|ld 1<|xe<|rn 1<|nc 0<|gr 1<|nc 2<|ld 1<|xe<|rn 1<|nc 0<|gr 1<|rr 0
def Pg(d:Option Addr)(l i:Int)(n g:Int)(h:ByteArray)(j:Sl)(k:World)(K:Int->Int->WP):Prop:=∀b f,af k ar k b f->cl 152 #[(.agg #[(vi l),(vi i),(vi n),(vu g),(vs h),j.v])] f fun e a=>∃r1,e=.returned (vi r1)/\aj b f a/\Br (r1 !=0) (K 0 r1 a) (∃a1,d=some a1/\lx a a1 fun o=>cl 153 #[(vp d),(.agg #[(vi l),(vi i),(vi n),(vu g),(vs h),j.v])] a fun e c=>∃r2 r3,e=.returned (.tuple #[(vi r2),(vi r3)])/\aj b a c/\Br (r3 !=0) (cl 154 #[(vp d),(vi (o.len:Int))] c fun e m=>e=.returned (.tuple #[])/\aj b c m/\K r2 r3 m) (K r2 r3 c))
def jbl(p1 aF aJ aK aL aM aD w0 K)(h:Pg p1 aF aJ aK aL aM aD w0 K):
  cl 96 #[(vp p1),(.agg #[(vi aF),(vi aJ),(vi aK),(vu aL),(vs aM),aD.v])] w0<|XH K:=
 du func96 h<|nh 0<|iu 2 0 [] 6<|ah<|dw 0 call152<|br 0 3 (rr 4)<|nc 2<|ld 1<|iu 3 0 [] 6<|im 0 call153<|br 0 7 (ri 3 call154<|rr 4)<|rr 5
def Eh(h:Option Addr)(r2 s1 n:Sl)(i1 p:Int)(k l r:Int)(m:ByteArray)(o q:Int)(H:NP)(w:World)(g:Int->NP->WP)(K:Int->Int->WP):Prop:=cl 60 #[(vp h),(.agg #[(vi p),(vi k),(vi l),(vu r),(vs m),(vi o),(vi q)])] w fun e a=>∃r3 f,e=.returned (.tuple #[(vi r3),(vi f)])/\aj H w a/\Br (f !=0) (cl 154 #[(vp h),(vi (n.len:Int))] a fun e b=>e=.returned (.tuple #[])/\aj H a b/\K 0 f b) (∃i:Addr,At r2 i1 1 i/\∃j,a.cell? i=some (vi j)/\∃d:Addr,At s1 j 1 d/\zL a d/\¬H d.block/\∀c,c=a.setCell d (vi r3)->g (q6.wrap<|i1+1) H c)
def Db(d:Option Addr)(r2 s1 f:Sl)(i1 e:Int)(k h g:Int)(m:ByteArray)(i c:Int)(n:World)(H:NP)(w:World)(a:Int->NP->WP)(K:Int->Int->WP):Prop:=Br (decide (c>0)) (∃j:Addr,At s1 c 1 j/\∃l,w.cell? j=some (vi l)/\∀b,af n H w H b->Eh d r2 s1 f i1 e k h g m i l H b a K)<|Eh d r2 s1 f i1 e k h g m i c H w a K
def PS(p:Option Addr)(y:Option Addr)(x:Int)(r2 s1 u:Sl)(i1:Int)(g:World)(b:NP)(a:World)(f:Int->NP->WP)(K:Int->Int->WP):Prop:=Br (decide (i1<(r2.len:Int))) (∃a3,y=some a3/\∃t:Sl,a.cell? a3=some t.v/\¬b a3.block/\∃a4:Addr,At r2 i1 1 a4/\∃r,a.cell? a4=some (vi r)/\¬b a4.block/\∃a5:Addr,At t (q6.wrap<|r-1) 7 a5/\∃o m l j k i n,Row a a5 (Ab o m l j k i n)/\¬b a5.block/\Br (decide (i>0)) (∃w:Addr,At s1 i 1 w/\∀c d,af g b a c d->∃q,d.cell? w=some (vi q)/\∀h,af g c d c h->Db p r2 s1 u i1 o m l j k q n g c h f K) (∀c d,af g b a c d->Db p r2 s1 u i1 o m l j k i n g c d f K))<|∃e:Addr,At s1 x 1 e/\∃s,a.cell? e=some (vi s)/\K s 0 a
def SD(n:Option Addr)(h:Option Addr)(l:Int)(g:World)(K:Int->Int->WP):Prop:=cl 112 #[(vp h),(vi l)] g fun e f=>∃r1,e=.returned (vb r1)/\aj ar g f/\Br (!r1) (K 0 51 f) (cl 61 #[(vp h),(vi l)] f<|XA fun r2 j=>aj ar f j/\∃a1,h=some a1/\∃m:Sl,j.cell? a1=some m.v/\∃s1:Sl,∃i:World,(Instr.makeSlice 46 (vi<|q6.wrap<|(m.len:Int)+1)<|vi<|q6.wrap<|(m.len:Int)+1).run prog j=.ok s1.v i/\aj ar j i/\∃a2,n=some a2/\∃o:Sl,i.cell? a2=some o.v/\∃(k:Int->NP->WP) (d:Int->World->Nat),k 0 ar i/\∀(i1:Int) (b:NP) (a:World),af g b a b a->k i1 b a->PS n h l r2 s1 o i1 g b a (fun c p w'=>k c p w'/\d c w'<d i1 a) K)
def Zw(p1 aU t1 w0 K)(h:SD p1 aU t1 w0 K):
  cl 111 #[(vp p1),(vp aU),(vi t1)] w0<|XH K:=by
 refine cw (args:=[(vp p1),(vp aU),(vi t1)]) func111 ntmps111 ?_
 have⟨hs,b⟩:=su w0
 refine eg<|qb<|ln<|zK<|eg<|qb<|sc call112 (h.mono fun e w1 ⟨r1,k,r,h⟩=>have⟨hs,b⟩:=r.hh hs b;⟨_,k,?_⟩)
 refine q (ln<|gw h ?_ ?_)<;>intro h
 refine eg<|qb<|ln<|er<|l0<|HT (.inl rfl) results111 (v:=(vi 0)) Kf (v':=(vi 51)) Kf ⟨0,51,rfl,h⟩
 refine zY<|uH<|eg<|qb<|sc call61 (h.mono fun e w2 ⟨r2,k,r,h⟩=>have⟨hs,b⟩:=r.hh hs b;⟨_,k,?_⟩)
 refine q<|ln<|eg<|q<|qm h fun a1 h=>q<|ql (isAgg41 _) h fun v1 h=>qb ?_
 have⟨s1,w3,U,r,h⟩:=h
 refine st (v:=s1.v) (qE rfl) (Ob Kf Kf U) ?_
 have⟨hs,b⟩:=r.hh hs b
 refine q<|ln<|eg<|q<|qm h fun a2 h=>q<|ql (isAgg41 _) h fun Q h=>qb<|ln<|zK<|eg<|q<|ln<|vN ?_
 have⟨I1,m,h0,hr⟩:=h
 refine wN (σ:=Int×NP×World) (fun s ρ w=>w=s.2.2/\ek ρ [(0,(vp p1)),(1,(vp aU)),(2,(vi t1)),(8,r2.v),(9,s1.v),(10,(vi (Q.len:Int))),(11,(vi s.1))]/\af w0 s.2.1 w s.2.1 w/\HB s.2.1 w []/\I1 s.1 s.2.1 s.2.2) (fun s=>m s.1 s.2.2) (0,ar,w3) ⟨rfl,hm,hs,b,h0⟩ ?_
 rintro⟨i1,c,f⟩ ρ w ⟨hw,u,hs,b,hI⟩
 dsimp only at hw u hs b;subst w
 have h:=hr i1 c f hs hI
 refine qW u (zK<|eg<|qd<|ln<|gw h ?_ ?_)<;>intro h
 refine zY<|uH<|zK<|vN<|zK<|Iu (fun x=>∃t,af w0 c f t x/\HB t x []) [11,12] [12] Kf Kf Kf Kf ⟨_,hs.drew,b.drew⟩ ?_
 intro w4 T
 have hs:af w0 c f c w4:=by rw[T];exact hs.drew
 have b:HB c w4 []:=by rw[T];exact b.drew
 refine qx 0 (vp aU) vt<|qg 1 ?_
 have⟨a3,hp3,h⟩:=h
 refine sy wi (fun _ _=>xn hp3)<|qx 2 (vp<|some a3) wg<|qg 3 ?_
 have⟨v3,hv12,l,h⟩:=h
 refine sy (v:=v3.v) wV (fun w' o=>by have⟨t,n,hb'⟩:=o;exact(xl (isAgg41 _)<|Cj hv12 l n)) (qx 4 r2.v vz<|qx 5 (vi i1) wq<|qg 6 ?_)
 have⟨a4,V,h⟩:=h
 refine sy vw (fun _ _=>xi (runUnderlying46 _) (sizeOf73 _) V)<|qg 7 ?_
 have⟨v4,hv10,l,h⟩:=h
 refine sy (v:=(vi v4)) xq (fun w' o=>by have⟨t,n,hb'⟩:=o;exact(xl (isAgg73 _)<|Cj hv10 l n)) (qx 8 (vi<|q6.wrap<|v4-1) yj<|qg 9 ?_)
 have⟨a5,hv9,h⟩:=h
 refine sy ye (fun _ _=>xi (runUnderlying41 _) (sizeOf119 _) hv9)<|qg 10 ?_
 have⟨G,F,D,y,C,aS,B,hv8,l,h⟩:=h
 refine sy (v:=(Ac G F D y C aS B)) (oy<|S8<|uB<|uB oh) (fun w' o=>by have⟨t,n,hb'⟩:=o;exact(xa a5 (Ab G F D y C aS B) (isAgg119 _) (sizeOf119 _)<|IE hv8 l n)) (Kb (fun ρ wJ=>∃g:Addr,∃HJ:NP,af w0 c f HJ wJ/\HB HJ wJ [(g,(Ab G F D y C aS B),119)]/\ek ρ [(0,(vp p1)),(1,(vp aU)),(2,(vi t1)),(8,r2.v),(9,s1.v),(10,(vi (Q.len:Int))),(11,(vi i1)),(12,(vp<|some g))]) ?_ ?_)
 refine lg 11<|N3 (O:=(.cells #[(vi 0),(vi 0),(vi 0),(vu 0),ve,(vi 0),(vi 0)] 119)) (fun p=>.pointer<|some p) (oy<|S8<|uB<|uB<|uB oh) (qE rfl) Kf (uI (zeroValue119 _) rfl) ?_
 intro p4 w8 hn3
 have⟨H3,hs,b⟩:=hs.alloc b hn3
 refine⟨.inr ⟨_,hs,b.drop 1⟩,?_⟩
 refine lg 12<|FC (oy<|S8<|S4 oh) (qE rfl) Kf (xo p4 (Ab G F D y C aS B) (sizeOf119 _)<|b.k0 0 7 gZ) ?_
 intro w9 hn4
 have⟨hs,b⟩:=b.qh 0 hs hn4 gZ
 refine⟨.inl Kf,?_⟩
 refine wn ⟨p4,_,hs,b,hm⟩
 rintro ρ w7 ⟨g,E,hs,b,u⟩
 refine JH u<|uH<|zK<|eg<|q<|q3 (xl (isAgg73 _)<|b.d 0 5 gZ)<|q<|ln<|yV (fun ρ w=>∃J P L M R N aE,∃H:NP,ek ρ [(0,(vp p1)),(1,(vp aU)),(2,(vi t1)),(8,r2.v),(9,s1.v),(10,(vi (Q.len:Int))),(11,(vi i1)),(12,(vp<|some g))]/\af w0 H w H w/\HB H w [(g,(Ab J P L M R N aE),119)]/\Db p1 r2 s1 Q i1 J P L M R N aE w0 H w (fun j t w'=>I1 j t w'/\m j w'<m i1 f) K) ?_ ?_
 rintro ρ w ⟨J,P,L,M,R,N,aE,H,u,hs,b,h⟩
 refine qW u<|zK<|eg<|q<|q3 (xl (isAgg73 _)<|b.d 0 6 gZ)<|q<|ln<|yV (fun ρ w=>∃Z Y S W bU X bW,∃H:NP,ek ρ [(0,(vp p1)),(1,(vp aU)),(2,(vi t1)),(8,r2.v),(9,s1.v),(10,(vi (Q.len:Int))),(11,(vi i1)),(12,(vp<|some g))]/\af w0 H w H w/\HB H w [(g,(Ab Z Y S W bU X bW),119)]/\Eh p1 r2 s1 Q i1 Z Y S W bU X bW H w (fun j t w'=>I1 j t w'/\m j w'<m i1 f) K) ?_ ?_
 rintro ρ w ⟨Z,Y,S,W,bU,X,bW,H,u,hs,b,h⟩
 refine qW u<|eg<|q<|q2 (Ac Z Y S W bU X bW) (xa g (Ab Z Y S W bU X bW) (isAgg119 _) (sizeOf119 _)<|b.r0 0 7 gZ)<|sc call60 (h.mono fun e w10 ⟨r3,r4,k,r,h⟩=>have⟨hs,b⟩:=r.hh hs b;⟨_,k,?_⟩)
 refine q (qd<|ln<|zK<|eg<|qb<|ln<|gw h ?_ ?_)<;>intro h
 refine eg<|qb<|sc call154 (h.mono fun e w11 ⟨k,r,h⟩=>have⟨hs,b⟩:=r.hh hs b;⟨_,k,?_⟩)
 refine ln<|eg<|qc<|ln<|er<|l0<|rF<|l0<|l0<|rF<|l0<|HT (.inl rfl) results111 (v:=(vi 0)) Kf (v':=(vi r4)) Kf ⟨0,r4,rfl,h⟩
 refine zY<|uH<|rg<|qc<|qi (runUnderlying46 _) (sizeOf73 _) h fun a6 h=>ql (isAgg73 _) h fun v5 h=>q<|qi (runUnderlying46 _) (sizeOf73 _) h fun a7 h=>j6 (sizeOf73 _) hs b h fun w12 hs b h=>vI<|pQ<|uH<|rg<|qc<|ln ⟨((q6.wrap<|i1+1),H,w12),⟨rfl,hm,hs,b.drop 1,h.1⟩,h.2⟩
 refine gw h ?_ ?_<;>intro h
 refine rg<|qb<|q3 (xl (isAgg73 _)<|b.d 0 6 gZ)<|qi (runUnderlying46 _) (sizeOf73 _) h fun a8 h=>ql (isAgg73 _) h fun v6 h=>q<|yg (qE rfl) (uf (a:=(g.add 6)) (v:=(vi v6)) Kf Kf rfl (sizeOf73 _) (b.eh 0 6 gZ Kf)) ?_
 intro I hn6
 have z:af w0 H w H I/\HB H I [(g,(Ab J P L M R N v6),119)]:=by
  rw[hn6];exact b.set (i:=0) 6 (v:=(vi v6)) hs gZ Kf
 have⟨hs,b⟩:=z
 refine vI ?_
 have⟨h,hs⟩:=hs.hr<|h I
 refine uH ⟨J,P,L,M,R,N,v6,H,hm,hs,b,h⟩
 refine zY<|uH ⟨J,P,L,M,R,N,aE,H,hm,hs,b,h⟩
 refine gw h ?_ ?_<;>intro h
 refine rg<|qb<|q3 (xl (isAgg73 _)<|b.d 0 5 gZ)<|qi (runUnderlying46 _) (sizeOf73 _) h fun a9 h=>?_
 have⟨h,hs⟩:=hs.hr<|h E w7
 refine ql (isAgg73 _) h fun v7 h=>q<|yg (qE rfl) (uf (a:=(g.add 5)) (v:=(vi v7)) Kf Kf rfl (sizeOf73 _) (b.eh 0 5 gZ Kf)) ?_
 intro A hn7
 have z:af w0 E w7 E A/\HB E A [(g,(Ab G F D y C v7 B),119)]:=by
  rw[hn7];exact b.set (i:=0) 5 (v:=(vi v7)) hs gZ Kf
 have⟨hs,b⟩:=z
 refine vI ?_
 have⟨h,hs⟩:=hs.hr<|h A
 refine uH ⟨G,F,D,y,C,v7,B,E,hm,hs,b,h⟩
 refine zY ?_
 have⟨h,hs⟩:=hs.hr<|h E w7
 refine uH ⟨G,F,D,y,C,aS,B,E,hm,hs,b,h⟩
 refine tQ<|ry<|ry<|vn<|uH<|eg<|q0 s1.v<|q0 (vi t1)<|qi (runUnderlying46 _) (sizeOf73 _) h fun a10 h=>ql (isAgg73 _) h fun v8 h=>qb<|ln<|er<|HT (.inl rfl) results111 (v:=(vi v8)) Kf (v':=(vi 0)) Kf ⟨v8,0,rfl,h⟩
end Go.Proofs
end
section
open Go Go.SE List
open Go.IntKind renaming i64 -> q6
namespace Go.Proofs
open Tryz
set_option maxRecDepth 100000
set_option maxHeartbeats 4000000
attribute [local irreducible] bu fw fg dv Calls
attribute [local irreducible] jq W WV WR uC pv ku jn oe ka mm kq ll np my iy ez ij nn kz kp uS xD yC bn ub
def Uh(f:Sl)(g:World)(K:(Option Addr)->WP):Prop:=∀b c,av g (.cells #[] 5) b c->∃s1:Sl,∃e:World,(Builtin.append_ #[59,59] 59 #[(Sl.mk (some b) 0 0).v,f.v]).run prog c=.ok s1.v e/\∀a d,av e (.cells #[s1.v,(vi 0),(vi 0),(vi 0)] 117) a d->K (some a) d
def jcJ(p1 w0 K)(h:Uh p1 w0 K):
  cl 57 #[p1.v] w0<|XD K:=
 cy func57 h<|cf 1<|dt<|ef 1<|eo<|cf 1<|rr 1
def Tm(r1:Option Addr)(b:World)(K:Int->WP):Prop:=∃a1,r1=some a1/\∀a,af b ar b ar a->lx a a1 fun c=>∃a2,r1=some a2/\li a (a2.add 1) fun d=>K (q6.wrap<|(c.len:Int)-d) a
def Wb(r1 w0 K)(h:Tm r1 w0 K):
  cl 58 #[(vp r1)] w0<|XB K:=
 du func58 h<|dq 1<|nc 1<|an<|ld 1<|nc 2<|ld 1<|rr 2
def WI(r1:Option Addr)(d kr:Int)(a:World)(K:WP):Prop:=∃a1,r1=some a1/\li a (a1.add 2) fun e=>Br (e==0) (∃a2,r1=some a2/\zL a (a2.add 2)/\∀b,b=a.setCell (a2.add 2) (vi d)->∃a3,r1=some a3/\zL b (a3.add 3)/\∀c,c=b.setCell (a3.add 3) (vi kr)->K c)<|K a
def Tj(r1 e1 kr w0 K)(h:WI r1 e1 kr w0 K):
  cl 170 #[(vp r1),(vi e1),(vi kr)] w0<|fun e w'=>e=.returned (.tuple #[])/\K  w':=
 cy func170 h<|nc 1<|ld 1<|br 0 1 (nc 3<|gr 1<|nc 2<|gr 1<|rr 0)<|rr 1
def KM(r1:Option Addr)(b:World)(K:Int->WP):Prop:=∃a1,r1=some a1/\li b (a1.add 2) fun q=>Br (q !=0) (K 0 b)<|∃a2,r1=some a2/\∀a,af b ar b ar a->li a (a2.add 1) fun o=>∃a3,r1=some a3/\lx a a3 fun l=>Br (o==(l.len:Int)) (∃a4,r1=some a4/\li a (a4.add 1) fun m=>cl 170 #[(vp r1),(vi 3),(vi m)] a fun e k=>e=.returned (.tuple #[])/\aj ar a k/\K 0 k) (∃a5,r1=some a5/\li a (a5.add 1) fun p=>∃d,r1=some d/\zL a (d.add 1)/\¬ar (d.add 1).block/\∀j,j=a.setCell (d.add 1) (vi<|q6.wrap<|p+1)->∃f,r1=some f/\∀c,af b ar j ar c->lx c f fun r=>∃i,r1=some i/\li c (i.add 1) fun n=>∃h:Addr,At r (q6.wrap<|n-1) 1 h/\∃g:Int,c.cell? h=some (.int .u8 g)/\K g c)
def jaJ(r1 w0 K)(h:KM r1 w0 K):
  cl 115 #[(vp r1)] w0<|XV K:=
 du func115 h<|nc 2<|ld 1<|br 0 1 (rr 2)<|dq 1<|nc 1<|an<|ld 1<|nc 1<|ld 1<|br 0 2 (nc 3<|ld 1<|ri 0 call170<|rr 1)<|nc 2<|ld 1<|nc 1<|ow 1<|dq 0<|nc 1<|an<|ld 1<|nc 1<|ld 1<|ix 1<|ld 0<|rr 1
def rf(a:Int):Bool:=(((((a==1) ||(a==6)) ||(a==7)) ||(a==8)) ||(a==9))
def FU(a:Int)(h:World):cl 116 #[(.int .i64 a)] h (fun e w'=>e=.returned (.bool<|rf a)/\Pure h w'):=
 jr func116 [] (fun b=>(vb<|((((a==1) ||(a==6)) ||(a==7)) ||(a==8)) ||(a==9))) fun i=>pj 1 0 [] [] (fun b=>[(2,(vb<|((((a==1) ||(a==6)) ||(a==7)) ||(a==8)) ||(a==9)))]) (fun j=>ct 3 3<|pj 0 0 [(a==1)] [0] (fun b=>[(8,(vb<|(b 0) ||(a==6)))]) (fun c=>pb 1 0 0 c (fun c=>pe 3 0 c)<|fun c=>pe 3 0 c)<|ct 1 3<|pj 0 0 [((a==1) ||(a==6))] [0] (fun b=>[(12,(vb<|(b 0) ||(a==7)))]) (fun d=>pb 1 0 0 d (fun d=>pe 3 0 d)<|fun d=>pe 3 0 d)<|ct 1 3<|pj 0 0 [(((a==1) ||(a==6)) ||(a==7))] [0] (fun b=>[(16,(vb<|(b 0) ||(a==8)))]) (fun f=>pb 1 0 0 f (fun f=>pe 3 0 f)<|fun f=>pe 3 0 f)<|ct 1 3<|pj 0 0 [((((a==1) ||(a==6)) ||(a==7)) ||(a==8))] [] (fun b=>[(20,(vb<|(b 0) ||(a==9)))]) (fun g=>pb 1 0 0 g (fun g=>pe 3 0 g)<|fun g=>pe 3 0 g)<|pe 1 0 j)<|fe 0 i
def Jf(r1:Option Addr)(n1 i1:Int)(h:World)(a:NP)(n:World)(p:Int->Int->NP->WP)(K:Int->WP):Prop:=∃a2,r1=some a2/\∀g,af h a n a g->li g (a2.add 1) fun E=>∃a3,r1=some a3/\lx g a3 fun D=>Br (decide ((q6.wrap<|E+i1)>=(D.len:Int))) (∃a4,r1=some a4/\li g (a4.add 1) fun B=>cl 170 #[(vp r1),(vi 3),(vi B)] g fun e y=>e=.returned (.tuple #[])/\aj a g y/\K 0 y) (∃a5,r1=some a5/\∀i,af h a g a i->lx i a5 fun z=>∃u,r1=some u/\li i (u.add 1) fun F=>∃r:Addr,At z (q6.wrap<|F+i1) 1 r/\∃k:Int,i.cell? r=some (.int .u8 k)/\Br ((i1==9)&&(decide (k>1))) (∃v,r1=some v/\∀f b,af h a i f b->li b (v.add 1) fun C=>cl 170 #[(vp r1),(vi 11),(vi C)] b fun e w=>e=.returned (.tuple #[])/\aj f b w/\K 0 w) (∀f b,af h a i f b->∃q:Int,(Go.binOp .rem 5 (.int .u8 k)<|.int .u8 128).run prog b=.ok (.int .u8 q) b/\∃m,(Go.binOp .shl 23 (vu<|IntKind.u64.wrap q)<|vu<|IntKind.u64.wrap<|q6.wrap<|7*i1).run prog b=.ok (vu m) b/\Br (decide (k>=128)) (p (IntKind.u64.wrap<|n1+m) (q6.wrap<|i1+1) f b) (Br ((k==0)&&(decide (i1>0))) (∃x,r1=some x/\∀l c,af h f b l c->li c (x.add 1) fun A=>cl 170 #[(vp r1),(vi 10),(vi A)] c fun e s=>e=.returned (.tuple #[])/\aj l c s/\K 0 s) (∃j,r1=some j/\∀l c,af h f b l c->li c (j.add 1) fun o=>∃d,r1=some d/\zL c (d.add 1)/\¬l (d.add 1).block/\∀t,t=c.setCell (d.add 1) (vi<|q6.wrap<|(q6.wrap<|o+i1)+1)->K (IntKind.u64.wrap<|n1+m) t))))
def Pq(r1:Option Addr)(e:World)(K:Int->WP):Prop:=∃a1,r1=some a1/\li e (a1.add 2) fun i=>Br (i !=0) (K 0 e)<|∃(g:Int->Int->NP->WP) (f:Int->Int->World->Nat),g 0 0 ar e/\∀(n1 i1:Int) (b:NP) (a:World),af e b a b a->g n1 i1 b a->Jf r1 n1 i1 e b a (fun d c h w'=>g d c h w'/\f d c w'<f n1 i1 a) K
def Yw(r1 w0 K)(h:Pq r1 w0 K):
  cl 118 #[(vp r1)] w0<|XW K:=
 du func118 h<|nc 2<|ld 1<|br 0 1 (rr 2)<|vh 3 [0] (fun n1 i1=>[(3,(vu n1)),(4,(vi i1))])<|fun {_ _ n1 i1}=>fun e=>dq 0<|nc 1<|an<|ld 1<|nc 3<|ld 1<|br 0 2 (nc 3<|ld 1<|ri 0 call170<|rr 1)<|dq 1<|nc 1<|an<|ld 1<|nc 1<|ld 1<|ix 2<|ld 0<|fun {d}=>pj 1 0 [(i1==9)] [0,3,4,5] (fun b=>[(48,(vb<|(b 0)&&(decide (d>1))))]) (fun c=>pb 1 3 0 c (fun c=>pe 3 0 c)<|fun c=>pe 3 0 c)<|br 0 0 (nc 3<|ah<|ld 1<|ri 0 call170<|rr 1)<|ah<|xe<|rb 3<|xe<|rb 4<|br 0 4 (je 4 0 e)<|pj 1 0 [(d==0)] [0,3,4] (fun b=>[(71,(vb<|(b 0)&&(decide (i1>0))))]) (fun a=>pb 1 3 0 a (fun a=>pe 3 0 a)<|fun a=>pe 3 0 a)<|br 0 0 (nc 3<|ah<|ld 1<|ri 0 call170<|rr 1)<|nc 3<|ah<|ld 1<|nc 3<|ow 1<|rr 2
def jx(n1:Int):Int:=(cond (decide (n1>1073741824)) 1073741824<|q6.wrap n1)
def CW(n1:Int)(c:World):cl 117 #[(.int .u64 n1)] c (fun e w'=>e=.returned (.int .i64<|jx n1)/\Pure c w'):=
 jr func117 [(decide (n1>1073741824))] (fun b=>(vi<|cond (b 0) 1073741824<|q6.wrap n1)) fun a=>pb 0 3 0 a (fun a=>fe 2 a)<|fun a=>fe 4 a
def NB(r1:Option Addr)(b:Int)(f:World)(K:ByteArray->WP):Prop:=∃a1,r1=some a1/\li f (a1.add 1) fun k=>cl 118 #[(vp r1)] f fun e i=>∃r2,e=.returned (vu r2)/\aj ar f i/\∃a2,r1=some a2/\li i (a2.add 2) fun B=>Br (B !=0) (K ⟨#[]⟩ i)<|Br ((decide (b<0)) ||(decide (r2>(IntKind.u64.wrap b)))) (∃a3,r1=some a3/\∀c n,af f ar i c n->zL n (a3.add 1)/\¬c (a3.add 1).block/\∀m,m=n.setCell (a3.add 1) (vi k)->cl 170 #[(vp r1),(vi 1),(vi k)] m fun e u=>e=.returned (.tuple #[])/\aj c m u/\K ⟨#[]⟩ u) (∃a4,r1=some a4/\∀c g,af f ar i c g->lx g a4 fun A=>∃a5,r1=some a5/\li g (a5.add 1) fun y=>Br (decide (r2>(IntKind.u64.wrap<|q6.wrap<|(A.len:Int)-y))) (∃j,r1=some j/\zL g (j.add 1)/\¬c (j.add 1).block/\∀l,l=g.setCell (j.add 1) (vi k)->cl 170 #[(vp r1),(vi 3),(vi k)] l fun e p=>e=.returned (.tuple #[])/\aj c l p/\K ⟨#[]⟩ p) (∃o,r1=some o/\∀a,af f c g c a->lx a o fun w=>∃q,r1=some q/\li a (q.add 1) fun C=>∃r,r1=some r/\li a (r.add 1) fun x=>∃s1:Sl,(Instr.sliceAt 59 w.v (some<|vi C) (some<|vi<|q6.wrap<|x+(q6.wrap r2)) none).run prog a=.ok s1.v a/\∃s,(convert 59 9 s1.v).run prog a=.ok (vs s) a/\∃h,r1=some h/\li a (h.add 1) fun z=>∃d,r1=some d/\zL a (d.add 1)/\¬c (d.add 1).block/\∀t,t=a.setCell (d.add 1) (vi<|q6.wrap<|z+(q6.wrap r2))->K s t))
def jbi(r1 most1 w0 K)(h:NB r1 most1 w0 K):
  cl 119 #[(vp r1),(vi most1)] w0<|XS K:=
 du func119 h<|nc 2<|ld 1<|dw 2 call118<|fun {r2}=>nc 2<|ld 1<|br 0 1 (rr 2)<|pj 1 0 [(decide (most1<0))] [0,5,6] (fun b=>[(26,(vb<|(b 0) ||(decide (r2>(IntKind.u64.wrap most1)))))]) (fun a=>pb 1 3 0 a (fun a=>pe 5 0 a)<|fun a=>pe 5 0 a)<|br 0 0 (nc 3<|ah<|ow 1<|ri 2 call170<|rr 1)<|dq 1<|nc 2<|ah<|ld 1<|nc 2<|ld 1<|br 0 3 (nc 3<|ow 1<|ri 2 call170<|rr 1)<|dq 1<|nc 1<|an<|ld 1<|nc 1<|ld 1<|nc 1<|ld 1<|xe<|rn 3<|xe<|rn 0<|nc 3<|ld 1<|nc 3<|ow 1<|rr 2
def Bf(r1:Option Addr)(i1:Int)(a:Addr)(r2 r:Int)(k l q:Int)(p:ByteArray)(s o:Int)(a1 b3:Int)(u:World)(H:NP)(w:World)(K:Int->Int->Int->Int->ByteArray->Int->Int->Int->WP):Prop:=∃a2,r1=some a2/\li w (a2.add 2) fun v1=>Br (v1 !=0) (∃t:WP,t w.drew/\∀f,f=w.drew->∃a3,r1=some a3/\∃R,(∀w',t w'->w'.cell? (a3.add 2)=some (vi R))/\(∀j,j<7->zL f (a.add j))/\¬H a.block/\∀b,b=bd f a (Ab r k l q p s o)->t b/\∃x W bU bV E M P,Row b a (Ab x W bU bV E M P)/\K x W bU bV E M P R b)<|∀U:Bool,U=(((rf<|q6.wrap r2)&&(decide (k>=16))) ||(((((q6.wrap r2):Int)==8) ||(((q6.wrap r2):Int)==9))&&((decide (l>=16)) ||(l==k))))->Br U (∀Y i,af u H w Y i->(∀j,j<7->zL i (a.add j))/\¬Y a.block/\∀d,d=bd i a (Ab r k l q p s o)->∃Q cA cB z A y S,Row d a (Ab Q cA cB z A y S)/\K Q cA cB z A y S 50 d) (∀V:Bool,V=(((decide ((dj<|q6.wrap r2)>=1))&&(decide (a1>=i1))) ||((((dj<|q6.wrap r2):Int)==2)&&(decide (b3>=i1))))->Br V (∀m c,af u H w m c->(∀j,j<7->zL c (a.add j))/\¬m a.block/\∀e,e=bd c a (Ab r k l q p s o)->∃C v T F N G I,Row e a (Ab C v T F N G I)/\K C v T F N G I 71 e) (∀n g,af u H w n g->(∀j,j<7->zL g (a.add j))/\¬n a.block/\∀h,h=bd g a (Ab r k l q p (cond (decide ((dj<|q6.wrap r2)>=1)) (q6.wrap<|a1+1) s)<|cond (((dj<|q6.wrap r2):Int)==2) (q6.wrap<|b3+1) o)->∃L D B J X Z O,Row h a (Ab L D B J X Z O)/\K L D B J X Z O 0 h))
def Bi(r1:Option Addr)(i1:Int)(i:Addr)(r2 g:Int)(e k j:Int)(h:ByteArray)(l f a1:Int)(b:World)(H:NP)(w:World)(K:Int->Int->Int->Int->ByteArray->Int->Int->Int->WP):Prop:=Br (((dj<|q6.wrap r2):Int)==2) (∀a,af b H w H a->cl 118 #[(vp r1)] a (XW fun r3 d=>aj H a d/\∀c,af b H d H c->Bf r1 i1 i r2 g e k j h l f a1 (jx r3) b H c K))<|∀a,af b H w H a->Bf r1 i1 i r2 g e k j h l f a1 0 b H a K
def BL(r1:Option Addr)(i1:Int)(h:Addr)(r2 i:Int)(e k j:Int)(g:ByteArray)(l f:Int)(d:World)(H:NP)(w:World)(K:Int->Int->Int->Int->ByteArray->Int->Int->Int->WP):Prop:=Br (decide ((dj<|q6.wrap r2)>=1)) (∀a,af d H w H a->cl 118 #[(vp r1)] a (XW fun m c=>aj H a c/\∀b,af d H c H b->Bi r1 i1 h r2 i e k j g l f (jx m) d H b K))<|∀a,af d H w H a->Bi r1 i1 h r2 i e k j g l f 0 d H a K
def AX(r1:Option Addr)(i1:Int)(g:Addr)(r2 f:Int)(j i d:Int)(k:ByteArray)(h e:Int)(c:World)(H:NP)(w:World)(K:Int->Int->Int->Int->ByteArray->Int->Int->Int->WP):Prop:=Br (((q6.wrap r2):Int)==3) (cl 119 #[(vp r1),(vi 64)] w<|XS fun l a=>aj H w a/\∀b,af c H a H b->BL r1 i1 g r2 f j i d l h e c H b K) (BL r1 i1 g r2 f j i d k h e c H w K)
def Ck(r1:Option Addr)(i1:Int)(e:Addr)(r2 g:Int)(bK h j:Int)(i:ByteArray)(f d:Int)(c:World)(H:NP)(w:World)(K:Int->Int->Int->Int->ByteArray->Int->Int->Int->WP):Prop:=Br (((q6.wrap r2):Int)==2) (cl 118 #[(vp r1)] w<|XW fun k b=>aj H w b/\∀a,af c H b H a->AX r1 i1 e r2 g bK h k i f d c H a K) (AX r1 i1 e r2 g bK h j i f d c H w K)
def AN(r1:Option Addr)(i1:Int)(h:Addr)(r2 g:Int)(j n l:Int)(k:ByteArray)(i f:Int)(e:World)(H:NP)(w:World)(K:Int->Int->Int->Int->ByteArray->Int->Int->Int->WP):Prop:=Br ((((q6.wrap r2):Int)==8) ||(((q6.wrap r2):Int)==9)) (∀a b,af e H w a b->cl 118 #[(vp r1)] b (XW fun m d=>aj a b d/\∀c,af e a d a c->Ck r1 i1 h r2 g j (jx m) l k i f e a c K))<|∀a b,af e H w a b->Ck r1 i1 h r2 g j n l k i f e a b K
def m_D(r1:Option Addr)(i1:Int)(c:World)(K:Int->Int->Int->Int->ByteArray->Int->Int->Int->WP):Prop:=∀b k,av c (.cells #[(vi 0),(vi 0),(vi 0),(vu 0),ve,(vi 0),(vi 0)] 119) b k->cl 115 #[(vp r1)] k fun e h=>∃r2:Int,e=.returned (.int .u8 r2)/\aj ar k h/\Br ((decide ((q6.wrap r2)<1)) ||(decide ((q6.wrap r2)>9))) (∀a l,af c ar h a l->(∀j,j<7->zL l (b.add j))/\¬a b.block/\∀i,i=bd l b [(vi<|q6.wrap r2),(vi 0),(vi 0),(vu 0),ve,(vi 0),(vi 0)]->∃o r q p m n s,Row i b (Ab o r q p m n s)/\K o r q p m n s 70 i) (Br (rf<|q6.wrap r2) (∀a d,af c ar h a d->cl 118 #[(vp r1)] d (XW fun t f=>aj a d f/\∀g,af c a f a g->AN r1 i1 b r2 (q6.wrap r2) (jx t) 0 0 ⟨#[]⟩ 0 0 c a g K))<|∀a d,af c ar h a d->AN r1 i1 b r2 (q6.wrap r2) 0 0 0 ⟨#[]⟩ 0 0 c a d K)
def Tu(r1 i1 w0 K)(h:m_D r1 i1 w0 K):
  cl 59 #[(vp r1),(vi i1)] w0<|fun e w'=>∃X Y aS aT aU V Z W,e=.returned (.tuple #[(Ac X Y aS aT aU V Z),(vi W)])/\K X Y aS aT aU V Z W w':=
 du func59 h<|ot 0<|dw 2 call115<|fun {r2}=>nh 4<|sg 0 0 []<|pj 0 0 [(decide ((q6.wrap r2)<1))] [0,1,4,6,7] (fun b=>[(20,(vb<|(b 0) ||(decide ((q6.wrap r2)>9))))]) (fun S=>pb 1 3 0 S (fun S=>pe 3 0 S)<|fun S=>pe 3 0 S)<|br 0 0 (iu 1 0 [] 7<|ah<|wP 0<|dx 1<|cj<|xe<|gj<|ee)<|cp 2 call116 (FU<|q6.wrap r2)<|Bb 0 0 [0,1,4,6,7] (fun B G Q T P D M=>[]) (fun B G Q T P D M l=>ij l 0 0<|Ab B G Q T P D M) (fun B G Q T P D M H w=>AN _ _ _ _ B G Q T P D M _ H w _) (fun j2=>br 0 0 (ah<|dw 2 call118<|fun {r8}=>cp 0 call117 (CW r8)<|sh 1 0 [1]<|an<|je 0 0 j2)<|ah<|je 1 0 j2)<|fun {B G Q T P D M}=>pj 0 0 [(((q6.wrap r2):Int)==8)] [0,1,4,6,7] (fun b=>[(33,(vb<|(b 0) ||(((q6.wrap r2):Int)==9)))]) (fun E=>pb 1 3 0 E (fun E=>pe 3 0 E)<|fun E=>pe 3 0 E)<|Bb 0 0 [0,1,4,6,7] (fun I bK R F y O v=>[]) (fun I bK R F y O v l=>ij l 0 0<|Ab I bK R F y O v) (fun I bK R F y O v H w=>Ck _ _ _ _ I bK R F y O v _ H w _) (fun j4=>br 0 0 (ah<|dw 2 call118<|fun {r7}=>cp 0 call117 (CW r7)<|sh 1 0 [2]<|an<|je 0 0 j4)<|ah<|je 1 0 j4)<|fun {I bK R F y O v}=>Bb 2 0 [0,1,4,6,7] (fun N z J A L C x=>[]) (fun N z J A L C x l=>ij l 0 0<|Ab N z J A L C x) (fun N z J A L C x H w=>AX _ _ _ _ N z J A L C x _ H w _) (fun j5=>br 0 0 (dw 2 call118<|sh 1 0 [3]<|an<|je 0 0 j5)<|je 1 0 j5)<|fun {N z J A L C x}=>Bb 2 0 [0,1,4,6,7] (fun t c a s r u q=>[]) (fun t c a s r u q l=>ij l 0 0<|Ab t c a s r u q) (fun t c a s r u q H w=>BL _ _ _ _ t c a s r u q _ H w _) (fun U=>br 0 0 (dw 2 call119<|sh 1 0 [4]<|an<|je 0 0 U)<|je 1 0 U)<|fun {t c a s r u q}=>cp 3 call65 (rS<|q6.wrap r2)<|ke 1 0 [0,1,4,6,7,9] (fun a1=>[(8,(vi a1))]) (fun a1 H w=>Bi _ _ _ _ _ _ _ _ _ _ _ a1 _ H w _) (fun j7=>br 0 0 (an<|dw 2 call118<|fun {r4}=>cp 0 call117 (CW r4)<|an<|je 1 0 j7)<|an<|je 1 0 j7)<|fun {a1}=>cp 1 call65 (rS<|q6.wrap r2)<|ke 1 0 [0,1,4,6,7,8] (fun b3=>[(9,(vi b3))]) (fun b3 H w=>Bf _ _ _ _ _ _ _ _ _ _ _ _ b3 _ H w _) (fun j8=>br 0 0 (an<|dw 2 call118<|fun {r3}=>cp 0 call117 (CW r3)<|an<|je 1 0 j8)<|an<|je 1 0 j8)<|fun {b3}=>nc 1<|ld 1<|br 0 1 (dC 1 [5] []<|uz 0 0 [] 7<|nc 1<|il 1<|Ge 0<|dx 1<|cj<|xe<|gj<|ee)<|pj 1 0 [((rf<|q6.wrap r2)&&(decide (c>=16)))] [1,4,6,7,8,9] (fun b=>[(96,(vb<|(b 0) ||(((((q6.wrap r2):Int)==8) ||(((q6.wrap r2):Int)==9))&&((decide (a>=16)) ||(a==c)))))]) (fun n=>cp 1 call116 (FU<|q6.wrap r2)<|ct 1 4<|pj 0 0 [(rf<|q6.wrap r2)] [1,4,6,7,8,9] (fun b=>[(76,(vb<|(b 0)&&(decide (c>=16))))]) (fun f=>pb 1 0 0 f (fun f=>lh 1 0 [1]<|pe 2 0 f)<|fun f=>pe 4 0 f)<|pb 1 1 0 n (fun n=>pe 19 0 n)<|fun n=>ct 3 3<|pj 0 0 [(((q6.wrap r2):Int)==8)] [1,4,6,7,8,9,77] (fun b=>[(83,(vb<|(b 0) ||(((q6.wrap r2):Int)==9)))]) (fun i=>pb 1 0 0 i (fun i=>pe 3 0 i)<|fun i=>pe 3 0 i)<|ct 1 11<|pj 0 0 [((((q6.wrap r2):Int)==8) ||(((q6.wrap r2):Int)==9))] [1,4,6,7,8,9,77] (fun b=>[(95,(vb<|(b 0)&&((decide (a>=16)) ||(a==c))))]) (fun k=>pb 1 0 0 k (fun k=>lh 1 0 [2]<|ct 2 6<|pj 0 0 [(decide (a>=16))] [1,4,6,7,8,9,77,84] (fun b=>[(94,(vb<|(b 0) ||(a==c)))]) (fun d=>pb 1 0 0 d (fun d=>pe 6 0 d)<|fun d=>lh 1 0 [2]<|lh 1 0 [1]<|pe 2 0 d)<|pe 1 0 k)<|fun k=>pe 11 0 k)<|pe 1 0 n)<|yy<|br 0 0 (iu 1 0 [] 7<|ah<|wP 0<|dx 1<|cj<|xe<|gj<|ee)<|pj 1 0 [((decide ((dj<|q6.wrap r2)>=1))&&(decide (a1>=i1)))] [4,6,7,8,9] (fun b=>[(115,(vb<|(b 0) ||((((dj<|q6.wrap r2):Int)==2)&&(decide (b3>=i1)))))]) (fun g=>cp 1 call65 (rS<|q6.wrap r2)<|ct 2 4<|pj 0 0 [(decide ((dj<|q6.wrap r2)>=1))] [1,4,6,7,8,9] (fun b=>[(105,(vb<|(b 0)&&(decide (a1>=i1))))]) (fun m=>pb 1 0 0 m (fun m=>pe 4 0 m)<|fun m=>pe 4 0 m)<|pb 1 1 0 g (fun g=>pe 9 0 g)<|fun g=>cp 1 call65 (rS<|q6.wrap r2)<|ct 2 4<|pj 0 0 [(((dj<|q6.wrap r2):Int)==2)] [4,6,7,8,9,106] (fun b=>[(114,(vb<|(b 0)&&(decide (b3>=i1))))]) (fun j=>pb 1 0 0 j (fun j=>pe 4 0 j)<|fun j=>pe 4 0 j)<|pe 1 0 g)<|yy<|br 0 0 (iu 1 0 [] 7<|ah<|wP 0<|dx 1<|cj<|xe<|gj<|ee)<|cp 2 call65 (rS<|q6.wrap r2)<|ph (fun b l=>ij l 0 0<|Ab t c a s r (cond (b 0) (q6.wrap<|a1+1) u) q) 1 0 [(decide ((dj<|q6.wrap r2)>=1))] [4,6,7,9] (fun b=>[]) (fun p=>pb 0 0 0 p (fun p=>sh 4 0 [5]<|pe 0 0 p)<|fun p=>pe 1 0 p)<|cp 1 call65 (rS<|q6.wrap r2)<|ph (fun b l=>ij l 0 0<|Ab t c a s r (cond (decide ((dj<|q6.wrap r2)>=1)) (q6.wrap<|a1+1) u)<|cond (b 0) (q6.wrap<|b3+1) q) 1 0 [(((dj<|q6.wrap r2):Int)==2)] [4,7] (fun b=>[]) (fun o=>pb 0 0 0 o (fun o=>sh 4 0 [6]<|pe 0 0 o)<|fun o=>pe 1 0 o)<|iu 0 0 [] 7<|ah<|wP 0<|dx 1<|cj<|xe<|gj<|ee
def Pl(r1:Option Addr)(a l:Sl)(i1:Int)(m:World)(c:NP)(b:World)(f:Int->NP->WP)(K:(Option Addr)->Int->Int->WP):Prop:=∃j,r1=some j/\∃p:Sl,b.cell? j=some p.v/\Br (decide (i1<(p.len:Int))) (Br (decide (i1>=(l.len:Int))) (∃h:Addr,At a i1 1 h/\∀d,af m c b c d->∃i,d.cell? h=some (vi i)/\K none 73 i d)<|∃o:Addr,At l i1 1 o/\∃k,b.cell? o=some (vi k)/\Br (k !=(q6.wrap<|i1+1)) (∃n:Addr,At a i1 1 n/\∀e,af m c b c e->∃g,e.cell? n=some (vi g)/\K none 73 g e) (f (q6.wrap<|i1+1) c b)) (K r1 0 0 b)
def Js(r1:Option Addr)(r2:Option Addr)(a:Sl)(o:World)(b:NP)(j:World)(s:Sl->NP->WP)(K:(Option Addr)->Int->Int->WP):Prop:=cl 58 #[(vp r2)] j fun e f=>∃r3,e=.returned (vi r3)/\aj b j f/\Br (decide (r3>0)) (∃a1,r2=some a1/\∃m,f.cell? (a1.add 1)=some (vi m)/\∃a2,r1=some a2/\∃E:Sl,f.cell? a2=some E.v/\cl 59 #[(vp r2),(vi (E.len:Int))] f fun e u=>∃z B H G F x C p,e=.returned (.tuple #[(Ac z B H G F x C),(vi p)])/\aj b f u/\Br (p !=0) (∀h g,af o b u h g->K none p m g) (∃a3,r1=some a3/\∀h g,af o b u h g->∃D:Sl,g.cell? a3=some D.v/\cl 60 #[(vp r1),(.agg #[(vi z),(vi B),(vi H),(vu G),(vs F),(vi x),(vi C)])] g (XH fun M I i=>aj h g i/\Br (I !=0) (K none I m i) (∃a4,r1=some a4/\∃A:Sl,i.cell? a4=some A.v/\Br (((A.len:Int):Int)==(D.len:Int)) (K none 72 m i) (∀w r,av i (.cells #[(vi m)] 3) w r->∃s1:Sl,∃t:World,(Builtin.append_ #[42,42] 42 #[a.v,(Sl.mk (some w) 1 1).v]).run prog r=.ok s1.v t/\aj h r t/\s s1 h t))))) (∃a5,r1=some a5/\∃y:Sl,f.cell? a5=some y.v/\cl 61 #[(vp r1),(vi (y.len:Int))] f (XA fun J n=>aj b f n/\∃(q:Int->NP->WP) (k:Int->World->Nat),q 0 b n/\∀(i1:Int) (d:NP) (c:World),af o d c d c->q i1 d c->Pl r1 a J i1 o d c (fun l L w'=>q l L w'/\k l w'<k i1 c) K))
def Qa(b1:Sl)(h:World)(K:(Option Addr)->Int->Int->WP):Prop:=cl 44 #[] h fun e f=>∃r1,e=.returned (vp r1)/\aj ar h f/\Br (decide ((b1.len:Int)>4096)) (K none 1 0 f) (Br (((b1.len:Int):Int)==0) (K none 3 0 f)<|cl 57 #[b1.v] f<|XD fun r2 j=>aj ar f j/\∃(i:Sl->NP->WP) (g:Sl->World->Nat),i Sl.nil ar j/\∀(a:Sl) (c:NP) (b:World),af h c b c b->i a c b->Js r1 r2 a h c b (fun d k w'=>i d k w'/\g d w'<g a b) K)
def VK(b1 w0 K)(h:Qa b1 w0 K):
  cl 18 #[b1.v] w0<|XY K:=
 du func18 h<|dw 3 call44<|br 0 4 (rr 4)<|br 0 4 (rr 4)<|dw 2 call57<|uw 2 [5,6] (fun a=>[(7,(Sl.v a))])<|fun {_ _ a}=>fun b=>dw 1 call58<|br 0 1 (nc 2<|ld 1<|nc 3<|ld 1<|cc 1 call59<|cj<|dt<|rt<|iv<|nh 3<|sg 0 0 []<|br 0 3 (ah<|rr 6)<|nc 2<|ah<|ld 1<|iu 3 0 [] 7<|im 0 call60<|br 0 6 (rr 6)<|nc 2<|ld 1<|br 0 3 (rr 5)<|ot 3<|dt<|ef 0<|iv<|je 1 1 b)<|nc 3<|ld 1<|dw 1 call61<|uw 2 [5,7,12] (fun i1=>[(13,(vi i1))])<|fun {_ _ i1}=>fun c=>nc 2<|ld 1<|br 0 2 (br 1 6 (dq 9<|ix 2<|an<|ld 0<|rr 3)<|ix 2<|ld 0<|br 0 4 (dq 1<|ix 2<|an<|ld 0<|rr 3)<|je 4 0 c)<|rr 5
def MK(w0:World)(K:(Option Nat)->WP):Prop:=∀M w1,av w0 (.cells #[(.nilFunc:Value),(.nilFunc:Value)] 255) M w1->(∀j,j<2->zL w1 (M.add j))/\∀w2,w2=bd w1 M [(.func (.func 249) #[] #[]),(.func (.func 251) #[] #[])]->∀p2 w3,av w2 (.cells #[(.nilFunc:Value),(.nilFunc:Value)] 255) p2 w3->(∀j,j<2->zL w3 (p2.add j))/\∀w4,w4=bd w3 p2 [(.func (.func 253) #[] #[]),(.func (.func 254) #[] #[])]->∀p3 w5,av w4 (.cells #[(.nilFunc:Value),(.nilFunc:Value)] 255) p3 w5->(∀j,j<2->zL w5 (p3.add j))/\∀w6,w6=bd w5 p3 [(.func (.func 255) #[] #[]),(.func (.func 256) #[] #[])]->∀p4 w7,av w6 (.cells #[(.nilFunc:Value),(.nilFunc:Value)] 255) p4 w7->(∀j,j<2->zL w7 (p4.add j))/\∀w8,w8=bd w7 p4 [(.func (.func 257) #[] #[]),(.func (.func 259) #[] #[])]->∀N w9,av w8 (.cells #[(.nilFunc:Value),(.nilFunc:Value)] 255) N w9->(∀j,j<2->zL w9 (N.add j))/\∀w10,w10=bd w9 N [(.func (.func 261) #[] #[]),(.func (.func 262) #[] #[])]->∀p6 Q,av w10 (.cells #[(.nilFunc:Value),(.nilFunc:Value)] 255) p6 Q->(∀j,j<2->zL Q (p6.add j))/\∀w12,w12=bd Q p6 [(.func (.func 263) #[] #[]),(.func (.func 264) #[] #[])]->∀r T,av w12 (.map #[] 0) r T->∃D:Value,∃A:Value,Row T M [D,A]/\∀p8 w14,av T (.cells #[D,A] 255) p8 w14->∃R:World,(Instr.mapUpdate 249 (.map<|some r.block) (vi 1) (Sl.mk (some p8) 1 1).v).run prog w14=.ok () R/\∃s:Value,∃t:Value,Row R p3 [s,t]/\∀p9 X,av R (.cells #[s,t] 255) p9 X->∃S:World,(Instr.mapUpdate 249 (.map<|some r.block) (vi 2) (Sl.mk (some p9) 1 1).v).run prog X=.ok () S/\∃G:Value,∃n:Value,Row S p4 [G,n]/\∀p10 w18,av S (.cells #[G,n] 255) p10 w18->∃L:World,(Instr.mapUpdate 249 (.map<|some r.block) (vi 3) (Sl.mk (some p10) 1 1).v).run prog w18=.ok () L/\∃E:Value,∃o:Value,Row L N [E,o]/\∃B:Value,∃y:Value,Row L p6 [B,y]/\∀W Y,av L (.cells #[E,o,B,y] 255) W Y->∃O:World,(Instr.mapUpdate 249 (.map<|some r.block) (vi 4) (Sl.mk (some W) 2 2).v).run prog Y=.ok () O/\∃x:Value,∃p:Value,Row O N [x,p]/\∀V Z,av O (.cells #[x,p] 255) V Z->∃P:World,(Instr.mapUpdate 249 (.map<|some r.block) (vi 5) (Sl.mk (some V) 1 1).v).run prog Z=.ok () P/\∃I:Value,∃u:Value,Row P M [I,u]/\∀p13 w24,av P (.cells #[I,u] 255) p13 w24->∃J:World,(Instr.mapUpdate 249 (.map<|some r.block) (vi 6) (Sl.mk (some p13) 1 1).v).run prog w24=.ok () J/\∃w:Value,∃H:Value,Row J M [w,H]/\∃F:Value,∃q:Value,Row J N [F,q]/\∀p14 U,av J (.cells #[w,H,F,q] 255) p14 U->∃z:World,(Instr.mapUpdate 249 (.map<|some r.block) (vi 7) (Sl.mk (some p14) 2 2).v).run prog U=.ok () z/\∃b:Value,∃c:Value,Row z M [b,c]/\∃h:Value,∃m:Value,Row z p2 [h,m]/\∃e:Value,∃l:Value,Row z N [e,l]/\∀p15 w28,av z (.cells #[b,c,h,m,e,l] 255) p15 w28->∃C:World,(Instr.mapUpdate 249 (.map<|some r.block) (vi 8) (Sl.mk (some p15) 3 3).v).run prog w28=.ok () C/\∃a:Value,∃d:Value,Row C M [a,d]/\∃i:Value,∃k:Value,Row C p2 [i,k]/\∃g:Value,∃f:Value,Row C N [g,f]/\∀p16 w30,av C (.cells #[a,d,i,k,g,f] 255) p16 w30->∃w31:World,(Instr.mapUpdate 249 (.map<|some r.block) (vi 9) (Sl.mk (some p16) 3 3).v).run prog w30=.ok () w31/\K (some r.block) w31
def Wc(a:World)(K:(Option Nat)->WP)(h:MK  a K):
  cl 164 #[] a<|fun e w'=>∃r1:Option Nat,e=.returned (.map r1)/\K r1 w':=
 cy func164 h<|cf 2<|dh 0<|cf 1<|dh 0<|cf 1<|dh 0<|cf 1<|dh 0<|cf 1<|dh 0<|cf 1<|dh 0<|cf 0<|dt<|lr 0<|cf 0<|xe<|es 0<|eo<|dt<|lr 0<|cf 0<|xe<|es 0<|eo<|dt<|lr 0<|cf 0<|xe<|es 0<|eo<|dt<|lr 0<|dt<|lr 0<|cf 0<|xe<|es 0<|eo<|dt<|lr 0<|cf 0<|xe<|es 0<|eo<|dt<|lr 0<|cf 0<|xe<|es 0<|eo<|dt<|lr 0<|dt<|lr 0<|cf 0<|xe<|es 0<|eo<|dt<|lr 0<|dt<|lr 0<|dt<|lr 0<|cf 0<|xe<|es 0<|eo<|dt<|lr 0<|dt<|lr 0<|dt<|lr 0<|cf 0<|xe<|es 0<|eo<|rr 2
def JL(q r:Addr)(J:List (Int)->NP->WP)(o:List (Int))(u:Int)(z:NP)(M:World)(F H:Int)(N L:Int)(K:ByteArray)(E I:Int)(x:Sl)(t:Int)(e:NP)(a:World)(s:Int->NP->WP)(O:Sl->WP):Prop:=Br (decide (t<(x.len:Int))) (∃a1:Addr,At x t 2 a1/\∃b:Value,∃c:Value,Row a a1 [b,c]/\∀m g,av a (.cells #[(.nilFunc:Value),(.nilFunc:Value)] 255) m g->([b,c].all vJ=true/\∀j,j<2->zL g (m.add j))/\¬e m.block/\∀d,d=bd g m [b,c]->∃C:Value,d.cell? m=some C/\lx d q fun G=>∃A:Option Nat,d.cell? r=some (.map A)/\∃(p:FuncId) (k n:Array Value),C=.func (.func p) k n/\(∀args w,(callFunc p args).run prog w=.ok (.enter p args) w)/\Calls prog p (k++#[G.v,(.agg #[(vi F),(vi H),(vi N),(vu L),(vs K),(vi E),(vi I)]),(.map A)]++n) d (XA fun D h=>aj e d h/\zL h q/\¬e q.block/\∀l,l=h.setCell q D.v->s (q6.wrap<|t+1) e l)) (∃y:Option Nat,a.cell? r=some (.map y)/\∃i:Option Nat,a.cell? r=some (.map i)/\∃B,(Builtin.len_ #[231] 3 #[(.map i)]).run prog a=.ok (vi B) a/\∃f:World,(Instr.mapUpdate 231 (.map y) (vi u)<|vi B).run prog a=.ok () f/\aj e a f/\aj z M f/\J (o++[u]) z f)
def Y0(p1:Option Addr)(t1:Int)(z:World)(K:Sl->WP):Prop:=∀I S,av z (.cells #[(vp p1)] 91) I S->∀l P,av S (.cells #[Sl.nil.v] 59) l P->cl 164 #[] P fun e w3=>∃r1:Option Nat,e=.returned (.map r1)/\aj ar P w3/\∀t O,av w3 (.cells #[(.map none)] 249) t O->zL O t/\¬ar t.block/\∀Z,Z=O.setCell t (.map r1)->∀Q U,av Z (.map #[] 0) Q U->∀x L,av U (.cells #[(.map none)] 231) x L->zL L x/\¬ar x.block/\∀E,E=L.setCell x (.map<|some Q.block)->lp E I fun v1=>cl 131 #[(vp v1),(vi t1)] E fun e H=>∃r2:Value,e=.returned r2/\aj ar E H/\∃(D:FuncId) (q:Array Value),r2=.func (.func D) #[] q/\(∀args w,(callFunc D args).run prog w=.ok (.enter D args) w)/\∃(k:List (Int)) (p:WP),sK prog D q (fun(o:Int)=>#[(vi o)]) k p H/\∃(y:List (Int)->NP->WP),AA z p y (fun _ _ _=>False) (fun _ _ _=>False)/\y [] ar H/\(∀(f:List (Int)) (o:Int) (G:NP) (i:World),y f G i->af z G i G i->(∃r,k=f++o ::r)->lp i I fun v2=>cl 109 #[(vp v2),(vi o)] i fun e B=>∃F W aS aT Y R X r3,e=.returned (.tuple #[(Ac F W aS aT Y R X),(vb r3)])/\aj ar i B/\∀C m,af i ar B C m->lx m l fun v3=>∀p8 j,av m (.cells #[(.int .u8<|IntKind.u8.wrap F)] 5) p8 j->∃s1:Sl,∃h:World,(Builtin.append_ #[59,59] 59 #[v3.v,(Sl.mk (some p8) 1 1).v]).run prog j=.ok s1.v h/\aj C j h/\zL h l/\¬C l.block/\∀d,d=h.setCell l s1.v->∃V:Option Nat,d.cell? t=some (.map V)/\∃T:Sl,(Instr.lookup 249 (.map V) (vi F) false).run prog d=.ok T.v d/\∃(J:Int->NP->WP) (A:Int->World->Nat),J 0 C d/\∀(M:Int) (g:NP) (c:World),af i g c g c->J M g c->JL l x y f o G i F W aS aT Y R X T M g c (fun u H' w'=>J u H' w'/\A u w'<A M c) K)/\∀n a,af z n a n a->(∀b,ar b->n b)->aj ar H a->y k n a->lx a l fun N=>∀s,af z n a n s->K N s
def jcm(p1 t1 w0 K)(h:Y0 p1 t1 w0 K):
  cl 110 #[(vp p1),(vi t1)] w0<|XA K:=by
 refine cw (args:=[(vp p1),(vi t1)]) func110 ntmps110 ?_
 have⟨hs,c⟩:=su w0
 refine eg<|sq hs c h xb fun p2 w1 hs c h=>q<|ln<|eg<|sq hs c h (uI (zeroValue59 _) rfl) fun p3 w2 hs c h=>ln<|eg<|sc call164 (h.mono fun e w3 ⟨r1,k,d,h⟩=>have⟨hs,c⟩:=d.hh hs c;⟨_,k,?_⟩)
 refine sq hs c h (uI (zeroValue249 _) rfl) fun p4 w4 hs c h=>j6 (sizeOf249 _) hs c h fun w5 hs c h=>ln<|eg<|EJ (fun p=>.map<|some p.block) hs c h fun p5 w6 hs c h=>sq hs c h (uI (zeroValue231 _) rfl) fun p6 w7 hs c h=>j6 (sizeOf231 _) hs c h fun w8 hs c h=>ln<|Fa<|rg<|ql (isAgg91 _) h fun v1 h=>q<|sc call131 (h.mono fun e w9 ⟨r2,k,d,h⟩=>have⟨hs,c⟩:=d.hh hs c;⟨_,k,?_⟩)
 refine ln ?_
 have⟨f1,cs1,N,X,h⟩:=h
 have⟨xs1,Rd1,ie,I1,T,h0,j,h⟩:=h
 refine D3 (encs:=(fun(I:Int)=>#[(vi I)])) (Eq.trans (b:=r2) Kf N) X ie (fun _=>rfl) De hs I1 (fun _ _ _=>False) (fun _ _ _=>False) T h0 ?ha ?hr ?ht
 case ha =>
  intro l I w24
  refine rg<|q<|ln ⟨rfl,?_⟩
  intro r Y1 Y hi hY m
  have h:=j r I Y1 Y hi hY m
  have⟨hs,c⟩:=su Y
  refine vN<|eg<|ql (isAgg91 _) h fun v2 h=>q<|sc call109 (h.mono fun e w11 ⟨g,C,H,z,G,u,D,r3,k,d,h⟩=>have⟨hs,c⟩:=d.hh hs c;⟨_,k,?_⟩)
  refine qc<|UP [(vi 0),(vi 0),(vi 0),(vu 0),ve,(vi 0),(vi 0)] 119 hs c (uI (zeroValue119 _) rfl) fun M w12 H1 hs c=>Sr 0 (Ab g C H z G u D) (sizeOf119 _) hs c gZ fun w13 hs c=>q<|ln<|eg ?_
  have⟨h,hs⟩:=hs.hr<|h H1 w13
  refine ql (isAgg59 _) h fun v3 h=>q<|q3 (xl (isAgg3 _)<|c.d0 0 gZ)<|q<|xP (O:=(.cells #[(.int .u8<|IntKind.u8.wrap g)] 5)) (fun p=>(Sl.mk (some p) 1 1).v) (qE rfl) (Of (vs:=#[(0,(.int .u8<|IntKind.u8.wrap g))]) Kf Kf) ?_
  intro p8 U o
  have h:=h p8 U o
  have⟨hs,c⟩:=hs.nw c o
  have⟨s1,w15,t,d,h⟩:=h
  refine st (v:=s1.v) (qE rfl) (Bq (args:=#[v3.v,(Sl.mk (some p8) 1 1).v]) Kf (fun _=>rfl) t) ?_
  have⟨hs,c⟩:=d.hh hs c
  refine j6 (sizeOf59 _) hs c h fun L hs c h=>ln<|zK<|eg<|ql (isAgg249 _) h fun v4 h=>q<|q3 (xl (isAgg3 _)<|c.d0 0 gZ) ?_
  have⟨J,x,h⟩:=h
  refine q2 J.v (Fg Kf Kf x)<|qb<|ln<|vN ?_
  have⟨I2,mu1,h0,hr⟩:=h
  refine wN (σ:=Int×NP×World) (fun s ρ w=>w=s.2.2/\ek ρ [(5,(vp<|some p3)),(7,(vp<|some p6)),(8,(vi I)),(9,(vp<|some M)),(34,J.v),(35,(vi (J.len:Int))),(36,(vi s.1))]/\af Y s.2.1 w s.2.1 w/\HB s.2.1 w [(M,(Ab g C H z G u D),119)]/\I2 s.1 s.2.1 s.2.2) (fun s=>mu1 s.1 s.2.2) (0,H1,L) ⟨rfl,hm,hs,c,h0⟩ ?_
  rintro⟨x1,f,wl1⟩ ρ w ⟨hw,hH,hs,c,hI⟩
  dsimp only at hw hH hs c;subst w
  have h:=hr x1 f wl1 hs hI
  refine qW hH (eg<|q<|ln<|zK<|gw h ?_ ?_)<;>intro h
  refine zY<|uH<|zK<|vN<|eg<|qi (runUnderlying251 _) (sizeOf255 _) h fun a1 h=>?_
  have⟨n,i,S,h⟩:=h
  refine qa (isAgg255 _) (sizeOf255 _) S<|sq hs c h (uI (zeroValue255 _) rfl) fun p9 w17 hs c h=>?_
  have⟨A,hnh,h⟩:=h
  refine ss (BC (a:=p9) (vs:=[n,i]) Kf Kf A.1 (sizeOf255 _) rfl A.2) ?_
  intro B y
  have h:=h B y
  have d:aj f w17 B:=by rw[y];exact aj.bd hnh
  have⟨hs,c⟩:=d.hh hs c
  refine ln<|rg<|q<|ql (isAgg252 _) h fun v6 h=>ql (isAgg59 _) h fun v7 h=>q2 (Ac g C H z G u D) (xa M (Ab g C H z G u D) (isAgg119 _) (sizeOf119 _)<|c.r0 0 7 gZ)<|ql (isAgg231 _) h fun v8 h=>?_
  have⟨f2,P,Z,hp5,h⟩:=h
  have⟨hf2,h⟩:=h
  refine G2 (qE rfl) (ZR (fs:=P) (caps:=Z) (args:=#[v7.v,(Ac g C H z G u D),(.map v8)]) Kf hp5 hf2 Kf rfl) (h.mono ?_)
  rintro e w19 ⟨r4,rfl,d,h⟩
  refine⟨_,rfl,?_⟩
  have⟨hs,c⟩:=d.hh hs c
  refine j6 (sizeOf59 _) hs c h fun Q hs c h=>vI<|pQ<|uH<|rg<|qb<|ln ⟨((q6.wrap<|x1+1),f,Q),⟨rfl,hm,hs,c,h.1⟩,h.2⟩
  refine tQ<|ry<|ry<|vn<|uH<|rg<|ql (isAgg231 _) h fun v9 h=>q<|ql (isAgg231 _) h fun W h=>?_
  have⟨z3,hv8,h⟩:=h
  refine q2 (vi z3) (Bq (args:=#[(.map W)]) Kf (fun _=>rfl) hv8) ?_
  have⟨w21,hv7,d,h⟩:=h
  refine wj (qE rfl) (MS Kf Kf Kf hv7) ?_
  have⟨hs,c⟩:=d.hh hs c
  refine vI<|pQ ?_
  exact EV h
 case hr =>
  intro D1 H2 R hs' hD hDe bR E F
  have hb':=c.tk E bR hD hDe
  have hs:=hs'
  have c:=hb'
  have h:=h H2 R hs bR E<|F.elim id fun h=>h.elim fun _ h=>h.elim
  refine eg<|ql (isAgg59 _) h fun v11 h=>q<|ln<|er<|AO c.Bg ?_
  intro V hw'
  have hl:=c.AJ hs hw'
  have⟨hs,c⟩:=hl
  -- tk the loop
  have⟨h,hs⟩:=hs.hr<|h V
  refine Bw results110 ⟨v11,rfl,h⟩
 case ht =>
  intro _ _ _ _ _ _ _ h
  exact h.elim
def K3(g:Option Addr)(h:Int)(c:World)(K:Sl->Int->WP):Prop:=cl 109 #[(vp g),(vi h)] c fun e d=>∃i j m o n l k r1,e=.returned (.tuple #[(Ac i j m o n l k),(vb r1)])/\aj ar c d/\Br (!r1) (∀b a,af c ar d b a->K Sl.nil 51 a) (∀b a,af c ar d b a->cl 110 #[(vp g),(vi h)] a (XA fun r2 f=>aj b a f/\Br (decide ((r2.len:Int)>4096)) (K Sl.nil 1 f) (K r2 0 f)))
def W8(p1 t1 w0 K)(h:K3 p1 t1 w0 K):
  cl 53 #[(vp p1),(vi t1)] w0<|XM K:=
 du func53 h<|cc 4 call109<|cj<|dt<|rt<|iv<|nh 3<|sg 0 0 []<|br 0 3 (ah<|rr 3)<|ah<|dw 3 call110<|br 0 4 (rr 3)<|rr 4
def jbG(d:Option Addr)(b1:Sl)(f:World)(K:Int->Int->Int->WP):Prop:=cl 18 #[b1.v] f fun e a=>∃r1 r2 r3,e=.returned (.tuple #[(vp r1),(vi r2),(vi r3)])/\Br (r2 !=0) (K 0 r2 r3 a) (∃a1,r1=some a1/\∃b:Sl,a.cell? a1=some b.v/\cl 111 #[(vp d),(vp r1),(vi (b.len:Int))] a (XH fun c g h=>K c g 0 h))
def Uy(p1 b1 w0 K)(h:jbG p1 b1 w0 K):
  cl 54 #[(vp p1),b1.v] w0<|XJ K:=
 cy func54 h<|BR 4 call18<|br 0 9 (rr 6)<|nc 4<|ld 1<|lv 1 call111<|rr 10
def jch(c:Sl)(e:World)(K:(Option Addr)->WP):Prop:=cl 271 #[c.v] e<|XA fun r1 d=>∀a b,av d (.cells #[r1.v,(vi 0),(vi 0),(vi 0)] 319) a b->K (some a) b
def ZA(p1 w0 K)(h:jch p1 w0 K):
  cl 182 #[p1.v] w0<|XD K:=
 cy func182 h<|gd 2 call271<|cf 1<|rr 1
def TE(r1:Option Addr)(b:World)(K:Int->WP):Prop:=Br (Option.isNone r1) (K 0 b)<|∃a1,r1=some a1/\∀a,af b ar b ar a->lx a a1 fun c=>∃a2,r1=some a2/\li a (a2.add 1) fun d=>K (q6.wrap<|(c.len:Int)-d) a
def UT(r1 w0 K)(h:TE r1 w0 K):
  cl 183 #[(vp r1)] w0<|XB K:=
 du func183 h<|br 0 3 (rr 2)<|dq 1<|nc 1<|an<|ld 1<|nc 2<|ld 1<|rr 2
def jbw(r1:Option Addr)(a:World)(K:Int->WP):Prop:=Br (Option.isNone r1) (K 0 a)<|∃a1,r1=some a1/\li a (a1.add 1) fun b=>K b a
def Sv(r1 w0 K)(h:jbw r1 w0 K):
  cl 184 #[(vp r1)] w0<|XB K:=
 cy func184 h<|br 0 3 (rr 2)<|nc 2<|ld 1<|rr 1
def Vu(r1:Option Addr)(j:World)(K:Int->WP):Prop:=∀b h,av j (.cells #[(vp r1)] 272) b h->∀a f,av h (.cells #[(.int .u8 0)] 5) a f->lp f b fun k=>cl 290 #[(vp k),(.func (.func 295) #[] #[(vp<|some b),(vp<|some a)])] f fun e d=>e=.returned (.tuple #[])/\∃i:Int,d.cell? a=some (.int .u8 i)/\zL d a/\∀c,c=d.setCell a (.int .u8 i)->∃g:Int,c.cell? a=some (.int .u8 g)/\K g c
def SF(r1 w0 K)(h:Vu r1 w0 K):
  cl 272 #[(vp r1)] w0<|XV K:=
 cy func272 h<|cf 0<|cf 0<|ld 0<|wF 1 call290<|ld 0<|gr 0<|dx 0<|HY<|ee
def jag(r1:Option Addr)(b:World)(K:Int->Int->WP):Prop:=Br (Option.isNone r1) (K 0 0 b)<|∃a1,r1=some a1/\∀a,af b ar b ar a->li a (a1.add 2) fun c=>∃a2,r1=some a2/\li a (a2.add 3) fun d=>K c d a
def VL(r1 w0 K)(h:jag r1 w0 K):
  cl 273 #[(vp r1)] w0<|XH K:=
 du func273 h<|br 0 4 (rr 3)<|dq 1<|nc 1<|an<|ld 1<|nc 1<|ld 1<|rr 2
def py(n1:Int):Int:=(cond (decide (n1>2147483647)) (-1)<|q6.wrap n1)
def MX(n1:Int)(c:World):cl 274 #[(.int .u64 n1)] c (fun e w'=>e=.returned (.int .i64<|py n1)/\Pure c w'):=
 jr func274 [(decide (n1>2147483647))] (fun b=>(vi<|cond (b 0) (-1)<|q6.wrap n1)) fun a=>pb 0 3 0 a (fun a=>fe 2 a)<|fun a=>fe 4 a
def BJ(c a:Int)(b g:Int)(f:ByteArray)(e d:Int):Int:=(cond (((((decide (a<0)) ||(decide (a>=16))) ||(decide (b<0))) ||(decide (b>=16))) ||(((c==8) ||(c==9))&&(a==b))) 50 0)
def Ta(c a:Int)(d q:Int)(p:ByteArray)(o m:Int)(n:World):cl 275 #[(.agg #[(.int .i64 c),(.int .i64 a),(.int .i64 d),(.int .u64 q),(.string p),(.int .i64 o),(.int .i64 m)])] n (fun e w'=>e=.returned (.int .i64<|BJ c a d q p o m)/\Pure n w'):=
 jr func275 [(((((decide (a<0)) ||(decide (a>=16))) ||(decide (d<0))) ||(decide (d>=16))) ||(((c==8) ||(c==9))&&(a==d)))] (fun b=>(vi<|cond (b 0) 50 0)) fun i=>nh 0<|pj 1 0 [] [1] (fun b=>[(3,(vb<|(c==8) ||(c==9)))]) (fun r=>lh 1 0 []<|ct 2 4<|pj 0 0 [(c==8)] [1] (fun b=>[(11,(vb<|(b 0) ||(c==9)))]) (fun l=>pb 1 0 0 l (fun l=>pe 4 0 l)<|fun l=>lh 1 0 []<|pe 2 0 l)<|pe 1 0 r)<|pj 0 0 [((((decide (a<0)) ||(decide (a>=16))) ||(decide (d<0))) ||(decide (d>=16)))] [] (fun b=>[(39,(vb<|(b 0) ||(((c==8) ||(c==9))&&(a==d))))]) (fun j=>lh 1 0 [1]<|ct 2 4<|pj 0 0 [(decide (a<0))] [1,3] (fun b=>[(19,(vb<|(b 0) ||(decide (a>=16))))]) (fun k=>pb 1 0 0 k (fun k=>pe 4 0 k)<|fun k=>lh 1 0 [1]<|pe 2 0 k)<|ct 1 4<|pj 0 0 [((decide (a<0)) ||(decide (a>=16)))] [1,3] (fun b=>[(24,(vb<|(b 0) ||(decide (d<0))))]) (fun f=>pb 1 0 0 f (fun f=>pe 4 0 f)<|fun f=>lh 1 0 [2]<|pe 2 0 f)<|ct 1 4<|pj 0 0 [(((decide (a<0)) ||(decide (a>=16))) ||(decide (d<0)))] [1,3] (fun b=>[(29,(vb<|(b 0) ||(decide (d>=16))))]) (fun h=>pb 1 0 0 h (fun h=>pe 4 0 h)<|fun h=>lh 1 0 [2]<|pe 2 0 h)<|pb 1 1 0 j (fun j=>pe 9 0 j)<|fun j=>ct 2 6<|pj 0 0 [((c==8) ||(c==9))] [30] (fun b=>[(38,(vb<|(b 0)&&(a==d)))]) (fun g=>pb 1 0 0 g (fun g=>lh 1 0 [1]<|lh 1 0 [2]<|pe 2 0 g)<|fun g=>pe 6 0 g)<|pe 1 0 j)<|pb 0 0 0 i (fun i=>fe 2 i)<|fun i=>fe 2 i
def BV(f:Option Addr)(h:Addr)(H:NP)(w:World)(K:Int->WP):Prop:=∃k d m dF r p n,Row w h (Ab k d m dF r p n)/\cl 127 #[(vp f),(.agg #[(vi k),(vi d),(vi m),(vu dF),(vs r),(vi p),(vi n)])] w fun e a=>∃t i,e=.returned (.tuple #[(vi t),(vb i)])/\aj H w a/\Br i (K 72 a) (∃j l q s o g dP,Row a h (Ab j l q s o g dP)/\cl 132 #[(vp f),(.agg #[(vi j),(vi l),(vi q),(vu s),(vs o),(vi g),(vi dP)])] a (XH fun u c b=>aj H a b/\K c b))
def DC(d:Option Addr)(a:Addr)(H:NP)(w:World)(K:Int->WP):Prop:=∃c,w.cell? (a.add 11)=some (vi c)/\Br (decide (c>1)) (∃e,w.cell? (a.add 10)=some (vu e)/\zL w (a.add 6)/\¬H (a.add 6).block/\∀b,b=w.setCell (a.add 6) (vi<|q6.wrap<|IntKind.u64.wrap<|e+1)->BV d a H b K) (BV d a H w K)
def zk(d:Option Addr)(a:Addr)(f:Bool)(H:NP)(w:World)(K:Int->WP):Prop:=Br f (K 71 w)<|∃e,w.cell? (a.add 11)=some (vi e)/\Br (decide (e>0)) (∃c,w.cell? (a.add 9)=some (vu c)/\zL w (a.add 5)/\¬H (a.add 5).block/\∀b,b=w.setCell (a.add 5) (vi<|q6.wrap<|IntKind.u64.wrap<|c+1)->DC d a H b K) (DC d a H w K)
def CI(d:Option Addr)(a:Addr)(e:Int)(f:Bool)(H:NP)(w:World)(K:Int->WP):Prop:=Br f (zk d a true H w K)<|∃b,w.cell? (a.add 11)=some (vi b)/\Br (decide (b>1)) (∃c,w.cell? (a.add 10)=some (vu c)/\zk d a (decide (c>=(IntKind.u64.wrap e))) H w K) (zk d a false H w K)
def LB(y:Option Addr)(r1:Option Addr)(d:Addr)(P:Sl)(D:Int)(Q:World)(a:NP)(h:World)(A:Int->NP->WP)(K:Int->WP):Prop:=Br (decide (D<(P.len:Int))) (∃a1:Addr,At P D 2 a1/\∃b:Value,∃c:Value,Row h a1 [b,c]/\∀m J,av h (.cells #[(.nilFunc:Value),(.nilFunc:Value)] 255) m J->([b,c].all vJ=true/\∀j,j<2->zL J (m.add j))/\¬a m.block/\∀x,x=bd J m [b,c]->∃O:Value,x.cell? (m.add 1)=some O/\∃(r:FuncId) (p n:Array Value),O=.func (.func r) p n/\(∀args w,(callFunc r args).run prog w=.ok (.enter r args) w)/\Calls prog r (p++#[(vp r1),(vp<|some d)]++n) x fun e R=>e=.returned (.tuple #[])/\aj a x R/\A (q6.wrap<|D+1) a R) (cl 273 #[(vp r1)] h fun e u=>∃r3 T,e=.returned (.tuple #[(vi r3),(vi T)])/\aj a h u/\Br (r3 !=0) (K r3 u) (∃l:WP,l u.drew/\∀s,s=u.drew->∃N,s.cell? (d.add 7)=some (vu N)/\∃L,(∀w',l w'->w'.cell? (d.add 8)=some (vu L))/\cl 274 #[(vu N)] s fun e t=>∃M,e=.returned (vi M)/\l t/\aj a s t/\cl 274 #[(vu L)] t fun e v=>∃S,e=.returned (vi S)/\l v/\aj a t v/\zL v (d.add 1)/\¬a (d.add 1).block/\∀i,i=v.setCell (d.add 1) (vi M)->l i/\zL i (d.add 2)/\¬a (d.add 2).block/\∀k,k=i.setCell (d.add 2) (vi S)->∃B F G I z C H,Row k d (Ab B F G I z C H)/\Br (((BJ B F G I z C H):Int) !=0) (∀f,af Q a k a f->K (BJ B F G I z C H) f) (∀f,af Q a k a f->cl 136 #[(vp y)] f (XB fun E g=>aj a f g/\∃o,g.cell? (d.add 11)=some (vi o)/\Br (decide (o>0)) (∃q,g.cell? (d.add 9)=some (vu q)/\CI y d E (decide (q>=(IntKind.u64.wrap E))) a g K) (CI y d E false a g K)))))
def TI(o:Option Addr)(r1:Option Addr)(c:Option Nat)(h:World)(K:Int->WP):Prop:=cl 272 #[(vp r1)] h<|XV fun r2 l=>aj ar h l/\∀j d,av l (.cells #[(vi<|q6.wrap r2),(vi 0),(vi 0),(vu 0),ve,(vi 0),(vi 0),(vu 0),(vu 0),(vu 0),(vu 0),(vi 0)] 314) j d->∃n,d.cell? j=some (vi n)/\∃m:Sl,∃e,(Instr.lookup 249 (.map c) (vi n) true).run prog d=.ok (.tuple #[m.v,(vb e)]) d/\Br (!e) (K 70 d) (∃(k:Int->NP->WP) (g:Int->World->Nat),k 0 ar d/\∀(i:Int) (b:NP) (a:World),af h b a b a->k i b a->LB o r1 j m i h b a (fun f p w'=>k f p w'/\g f w'<g i a) K)
def RO(aM r1 kinds1 w0 K)(h:TI aM r1 kinds1 w0 K):
  cl 185 #[(vp aM),(vp r1),(.map kinds1)] w0<|XB K:=
 du func185 h<|dw 2 call272<|ot 3<|ld 6<|dt<|rn 0<|br 0 7 (rr 2)<|uw 4 [0,1,7,38,39] (fun f=>[(40,(vi f))])<|fun {_ _ f}=>fun p=>br 0 1 (ix 1<|dt<|lr 0<|ot 0<|vsh 0<|ld 1<|fo<|fun c=>cv 2 c<|rt<|iv<|je 2 0 p)<|im 2 call273<|br 0 7 (rr 3)<|dC 1 [6,11,15,19] [19]<|sV 5<|il 3<|mg 0 call274<|mg 0 call274<|WA 3<|ow 3<|cj<|fun {j n o l q m}=>xe<|fun {k}=>lr 3<|cp 0 call275 (Ta j n o l q m k)<|br 0 3 (an<|rr 3)<|an<|dw 2 call136<|ke 2 0 [0,7] (fun a=>[(114,(vb a))]) (fun a H w=>zk _ _ a H w _) (fun d=>ld 3<|ct 2 7<|ke 0 0 [0,7,15] (fun b=>[(99,(vb b))]) (fun b H w=>CI _ _ _ b H w _) (fun i=>br 1 0 (ld 3<|je 3 0 i)<|je 7 0 i)<|fun {b}=>br 1 1 (je 14 0 d)<|ld 3<|br 1 2 (ld 3<|je 4 0 d)<|je 8 0 d)<|fun {a}=>br 0 0 (rr 2)<|ld 4<|Pd 1 0 [0,7] ([]) (fun H w=>DC _ _ H w _) (fun g=>br 0 0 (ld 5<|ow 5<|je 0 0 g)<|je 1 0 g)<|ld 3<|Pd 1 0 [0,7] ([]) (fun H w=>BV _ _ H w _) (fun e=>br 0 0 (ld 5<|ow 5<|je 0 0 e)<|je 1 0 e)<|cj<|xe<|lr 4<|im 0 call127<|br 0 6 (rr 2)<|cj<|xe<|lr 5<|im 0 call132<|rr 7
def Nu(r1:Option Addr)(r2:Option Addr)(r3:Option Nat)(c:Sl)(s:World)(a:NP)(A:World)(I:Sl->NP->WP)(K:(Option Addr)->Int->Int->WP):Prop:=cl 183 #[(vp r2)] A fun e D=>∃M,e=.returned (vi M)/\aj a A D/\Br (decide (M>0)) (cl 184 #[(vp r2)] D fun e J=>∃E,e=.returned (vi E)/\aj a D J/\cl 185 #[(vp r1),(vp r2),(.map r3)] J (XB fun Q H=>aj a J H/\Br (Q !=0) (K none Q E H) (∀N F,av H (.cells #[(vi E)] 3) N F->∃s1:Sl,∃G:World,(Builtin.append_ #[42,42] 42 #[c.v,(Sl.mk (some N) 1 1).v]).run prog F=.ok s1.v G/\aj a F G/\I s1 a G))) (∀h L,av D (.cells #[(vi 0)] 3) h L->zL L h/\¬a h.block/\∀p,p=L.setCell h (vi 0)->cl 136 #[(vp r1)] p fun e q=>∃O,e=.returned (vi O)/\aj a p q/\cl 131 #[(vp r1),(vi O)] q fun e k=>∃P:Value,e=.returned P/\aj a q k/\∃(C:FuncId) (x:Array Value),P=.func (.func C) #[] x/\(∀args w,(callFunc C args).run prog w=.ok (.enter C args) w)/\∃(o:List (Int)) (u:WP),sK prog C x (fun(r:Int)=>#[(vi r)]) o u k/\∃(y l:List (Int)->NP->WP),AA s u y l (fun _ _ _=>False)/\y [] a k/\(∀(f:List (Int)) (r:Int) (n:NP) (i:World),y f n i->af s n i n i->(∃z,o=f++r ::z)->li i h fun V=>Br (r !=(q6.wrap<|V+1)) (aj n i i/\l (f++[r]) n i)<|li i h fun U=>zL i h/\¬ar h.block/\∀m,m=i.setCell h (vi<|q6.wrap<|U+1)->aj n i m/\y (f++[r]) n m)/\∀g d,af s g d g d->(∀b,a b->g b)->aj a k d->(y o g d\/∃ba,l ba g d)->li d h fun T=>Br (decide (T<(c.len:Int))) (∀j,af s g d g j->li j h fun S=>∃a1:Addr,At c S 1 a1/\li j a1 fun R=>∀B,af s g j g B->K none 73 R B)<|∀t,af s g d g t->K r1 0 0 t)
def NM(b1:Sl)(d:World)(K:(Option Addr)->Int->Int->WP):Prop:=Br (decide ((b1.len:Int)>4096)) (K none 1 0 d)<|Br (((b1.len:Int):Int)==0) (K none 3 0 d)<|cl 42 #[] d fun e i=>∃r1,e=.returned (vp r1)/\aj ar d i/\cl 182 #[b1.v] i fun e j=>∃r2,e=.returned (vp r2)/\aj ar i j/\cl 164 #[] j fun e k=>∃r3:Option Nat,e=.returned (.map r3)/\aj ar j k/\∃(h:Sl->NP->WP) (g:Sl->World->Nat),h Sl.nil ar k/\∀(a:Sl) (c:NP) (b:World),af d c b c b->h a c b->Nu r1 r2 r3 a d c b (fun f l w'=>h f l w'/\g f w'<g a b) K
def jcQ(b1 w0 K)(h:NM b1 w0 K):
  cl 135 #[b1.v] w0<|XY K:=by
 refine cw (args:=[b1.v]) func135 ntmps135 ?_
 have⟨hs,a⟩:=su w0
 refine eg (qc<|ln<|Gc rfl (fun _ _ _ h=>h) (zK<|vN<|eg<|qd<|ln<|gw h ?_ ?_))<;>intro h
 refine eg<|qc<|ln<|er<|rF<|l0<|Cr (.inl rfl) results135 (v:=(vp none)) Kf (v':=(vi 1)) Kf (v'':=(vi 0)) Kf ⟨none,1,0,rfl,h⟩
 refine eg (qd<|ln<|gw h ?_ ?_)<;>intro h
 refine eg<|qc<|ln<|er<|rF<|l0<|Cr (.inl rfl) results135 (v:=(vp none)) Kf (v':=(vi 3)) Kf (v'':=(vi 0)) Kf ⟨none,3,0,rfl,h⟩
 refine zY<|pQ<|uH<|eg<|sc call42 (h.mono fun e w1 ⟨r1,k,d,h⟩=>have⟨hs,a⟩:=d.hh hs a;⟨_,k,?_⟩)
 refine q<|ln<|eg<|q<|sc call182 (h.mono fun e w2 ⟨r2,k,d,h⟩=>have⟨hs,a⟩:=d.hh hs a;⟨_,k,?_⟩)
 refine q<|ln<|eg<|sc call164 (h.mono fun e w3 ⟨r3,k,d,h⟩=>have⟨hs,a⟩:=d.hh hs a;⟨_,k,?_⟩)
 refine q<|ln<|eg<|q<|ln<|zK<|vN ?_
 have⟨I1,N,J,hr⟩:=h
 refine wN (σ:=Sl×NP×World) (fun s ρ w=>w=s.2.2/\ek ρ [(5,(vp r1)),(6,(vp r2)),(7,(.map r3)),(8,s.1.v)]/\af w0 s.2.1 w s.2.1 w/\HB s.2.1 w []/\I1 s.1 s.2.1 s.2.2) (fun s=>N s.1 s.2.2) (Sl.nil,ar,w3) ⟨rfl,hm,hs,a,J⟩ ?_
 rintro⟨c,o,E⟩ ρ w ⟨hw,W,hs,a,hI⟩
 dsimp only at hw W hs a;subst w
 have h:=hr c o E hs hI
 refine qW W<|zK<|eg<|q<|sc call183 (h.mono fun e w4 ⟨r4,k,d,h⟩=>have⟨hs,a⟩:=d.hh hs a;⟨_,k,?_⟩)
 refine q (ln<|gw h ?_ ?_)<;>intro h
 refine zY<|uH<|vN<|eg<|q<|sc call184 (h.mono fun e w5 ⟨V,k,d,h⟩=>have⟨hs,a⟩:=d.hh hs a;⟨_,k,?_⟩)
 refine q<|ln<|zK<|eg<|qc<|sc call185 (h.mono fun e w6 ⟨Y,k,d,h⟩=>have⟨hs,a⟩:=d.hh hs a;⟨_,k,?_⟩)
 refine q (ln<|eg<|qb<|ln<|gw h ?_ ?_)<;>intro h
 refine eg<|q<|qd<|ln<|er<|l0<|rF<|l0<|rF<|l0<|Cr (.inl rfl) results135 (v:=(vp none)) Kf (v':=(vi Y)) Kf (v'':=(vi V)) Kf ⟨none,Y,V,rfl,h⟩
 refine zY<|uH<|rg<|qb<|EJ (fun p=>(Sl.mk (some p) 1 1).v) hs a h fun p1 w7 hs a h=>?_
 have⟨s1,w8,I,d,h⟩:=h
 refine st (v:=s1.v) (qE rfl) (Bq (args:=#[c.v,(Sl.mk (some p1) 1 1).v]) Kf (fun _=>rfl) I) ?_
 have⟨hs,a⟩:=d.hh hs a
 refine q<|vI<|pQ<|uH ⟨(s1,o,w8),⟨rfl,hm,hs,a,h.1⟩,h.2⟩
 refine tQ<|ry<|ry<|vn<|uH<|eg<|sn (O:=(.cells #[(vi 0)] 3)) (uI (zeroValue3 _) rfl) ?_
 intro Z w9 n
 have h:=h Z w9 n
 have⟨hs,a⟩:=hs.nw a n
 refine j6 (sizeOf3 _) hs a h fun w10 hs a h=>ln<|zK<|Gx<|uH<|Fa<|rg<|q0 (vp r1)<|q0 (vp r1)<|sc call136 (h.mono fun e w11 ⟨r7,k,d,h⟩=>have⟨hs,a⟩:=d.hh hs a;⟨_,k,?_⟩)
 refine sc call131 (h.mono fun e w12 ⟨r8,k,d,h⟩=>have⟨hs,a⟩:=d.hh hs a;⟨_,k,?_⟩)
 refine ln ?_
 have⟨f1,cs1,L,M,h⟩:=h
 have⟨xs1,Rd1,ie,I2,C,T,J,i,h⟩:=h
 refine D3 (encs:=(fun(A:Int)=>#[(vi A)])) (Eq.trans (b:=r8) Kf L) M ie (fun _=>rfl) De hs I2 C (fun _ _ _=>False) T J ?ha ?hr ?ht
 case ha =>
  intro l A w19
  refine rg<|q<|ln ⟨rfl,?_⟩
  intro x Y1 X hi hY m
  have h:=i x A Y1 X hi hY m
  have⟨hs,a⟩:=su X
  refine vN (zK<|eg<|q<|ql (isAgg3 _) h fun v1 h=>qb<|ln<|gw h ?_ ?_)<;>intro h
  refine tQ<|ry<|PQ rfl ?_
  exact W4 h
  refine zY<|uH<|rg<|ql (isAgg3 _) h fun v2 h=>q<|j6 (sizeOf3 _) hs a h fun w14 hs a h=>vI<|pQ ?_
  exact EV h
 case hr =>
  intro D1 y u F hD P U t r
  have G:=a.tk t U hD P
  have hs:=F
  have a:=G
  have h:=h y u hs U t r
  refine zK (eg<|ql (isAgg3 _) h fun v3 h=>qc<|ln<|gw h ?_ ?_)<;>intro h
  refine zK<|DX Kf Kf Kf Kf ?_
  intro g f
  have hs:af w0 y u y g:=by rw[f];exact hs.drew
  have a:de [(D1,.deferred<|some [])] y g []:=by rw[f];exact a.drew
  refine qq 0 c.v vt<|qg 1 ?_
  have⟨h,hs⟩:=hs.hr<|h g
  have⟨v4,R,h⟩:=h
  refine oz wi (qE rfl) rfl (xl (isAgg3 _) R) (qg 2 ?_)
  have⟨a1,Q,h⟩:=h
  refine oz wg (qE rfl) rfl (xi (runUnderlying42 _) (sizeOf3 _) Q) (qg 3 ?_)
  have⟨D,S,h⟩:=h
  refine oz wV (qE rfl) rfl (xl (isAgg3 _) S) (qq 4 (vp none) vz<|qq 5 (vi 73) wq<|qq 6 (vi D) vw<|wn<|uH<|er<|l0<|AO a.Bg ?_)
  intro H j
  have B:=a.AJ hs j
  have⟨hs,a⟩:=B
  -- tk the loop
  have⟨h,hs⟩:=hs.hr<|h H
  refine Cr (.inl rfl) results135 (v:=(vp none)) Kf (v':=(vi 73)) Kf (v'':=(vi D)) Kf ⟨none,73,D,rfl,h⟩
  refine zY<|uH<|eg<|qd<|ln<|er<|AO a.Bg ?_
  intro z j
  have B:=a.AJ hs j
  have⟨hs,a⟩:=B
  -- tk the loop
  have⟨h,hs⟩:=hs.hr<|h z
  refine Cr (.inl rfl) results135 (v:=(vp r1)) Kf (v':=(vi 0)) Kf (v'':=(vi 0)) Kf ⟨r1,0,0,rfl,h⟩
 case ht =>
  intro _ _ _ _ _ _ _ h
  exact h.elim
def Uv(b:Option Addr)(b1:Sl)(d:World)(K:Int->Int->Int->WP):Prop:=Br (Option.isNone b) (K 0 2 0 d)<|cl 135 #[b1.v] d fun e c=>∃r1 r2 r3,e=.returned (.tuple #[(vp r1),(vi r2),(vi r3)])/\Br (r2 !=0) (K 0 r2 r3 c) (cl 136 #[(vp r1)] c fun e i=>∃a,e=.returned (vi a)/\cl 69 #[(vp b),(vp r1),(vi a)] i (XH fun f h g=>K f h 0 g))
def jaK(p1 b1 w0 K)(h:Uv p1 b1 w0 K):
  cl 71 #[(vp p1),b1.v] w0<|XJ K:=
 cy func71 h<|br 0 5 (rr 4)<|BR 2 call135<|br 0 9 (rr 6)<|gd 4 call136<|lv 0 call69<|rr 10
def TJ(n2:Int)(b:Sl)(a:World)(d:Int->Sl->WP)(K:Sl->WP):Prop:=Br (decide (n2>=128)) (∃e,(Go.binOp .rem 23 (vu n2)<|vu 128).run prog a=.ok (vu e) a/\∀j l,av a (.cells #[(.int .u8<|IntKind.u8.wrap<|IntKind.u64.wrap<|e+128)] 5) j l->∃f:Sl,∃c:World,(Builtin.append_ #[59,59] 59 #[b.v,(Sl.mk (some j) 1 1).v]).run prog l=.ok f.v c/\∃h,(Go.binOp .quo 23 (vu n2)<|vu 128).run prog c=.ok (vu h) c/\d h f c)<|∀i k,av a (.cells #[(.int .u8<|IntKind.u8.wrap n2)] 5) i k->∃m:Sl,∃g:World,(Builtin.append_ #[59,59] 59 #[b.v,(Sl.mk (some i) 1 1).v]).run prog k=.ok m.v g/\K m g
def R0(b1:Sl)(n1:Int)(j:World)(K:Sl->WP):Prop:=∀g h,av j (.cells #[] 5) g h->∃s1:Sl,∃i:World,(Builtin.append_ #[59,59] 59 #[(Sl.mk (some g) 0 0).v,b1.v]).run prog h=.ok s1.v i/\∃(f:Int->Sl->WP) (e:Int->Sl->World->Nat),f n1 s1 i/\∀(n2:Int) (a:Sl) (b:World),f n2 a b->TJ n2 a b (fun d c w'=>f d c w'/\e d c w'<e n2 a b) K
def jbK(b1 n1 w0 K)(h:R0 b1 n1 w0 K):
  cl 214 #[b1.v,(vu n1)] w0<|XA K:=
 cy func214 h<|cf 1<|dt<|ef 1<|eo<|Dr 1 [] (fun n2 a=>[(1,(vu n2)),(5,(Sl.v a))])<|fun {_ _ n2 a}=>fun b=>br 0 2 (xe<|rb 3<|cf 2<|dt<|ef 0<|eo<|xe<|rb 2<|df 1 b)<|cf 4<|dt<|ef 0<|eo<|rr 1
def Pu(b1:Sl)(s1:ByteArray)(d:World)(K:Sl->WP):Prop:=cl 214 #[b1.v,(vu<|IntKind.u64.wrap (s1.size:Int))] d<|XA fun r1 c=>∃b:Sl,∃a:World,(Builtin.append_ #[59,9] 59 #[r1.v,(vs s1)]).run prog c=.ok b.v a/\K b a
def Zo(b1 s1 w0 K)(h:Pu b1 s1 w0 K):
  cl 215 #[b1.v,(vs s1)] w0<|XA K:=
 cy func215 h<|gd 5 call214<|dt<|ef 1<|eo<|rr 1
def D0(s1:Sl)(i1 g h:Int)(b8:Sl)(e:World)(H:NP)(w:World)(c:Sl->Int->NP->WP)(i:Sl->WP):Prop:=Br (((dj g):Int)==2) (∃d:Addr,At s1 h 1 d/\∀a,af e H w H a->∃f,a.cell? d=some (vi f)/\cl 214 #[b8.v,(vu<|IntKind.u64.wrap f)] a (XA fun r2 b=>aj H a b/\c r2 (q6.wrap<|i1+1) H b))<|∀a,af e H w H a->c b8 (q6.wrap<|i1+1) H a
def CR(s1:Sl)(i1 e:Int)(j f:Int)(h:Sl)(d:World)(H:NP)(w:World)(b:Sl->Int->NP->WP)(K:Sl->WP):Prop:=Br (decide ((dj e)>=1)) (∃g:Addr,At s1 j 1 g/\∀a,af d H w H a->∃i,a.cell? g=some (vi i)/\cl 214 #[h.v,(vu<|IntKind.u64.wrap i)] a (XA fun r3 c=>aj H a c/\D0 s1 i1 e f r3 d H c b K))<|∀a,af d H w H a->D0 s1 i1 e f h d H a b K
def En(s1:Sl)(i1 c:Int)(h:ByteArray)(f e:Int)(b6:Sl)(d:World)(H:NP)(w:World)(b:Sl->Int->NP->WP)(K:Sl->WP):Prop:=Br (c==3) (cl 215 #[b6.v,(vs h)] w<|XA fun g a=>aj H w a/\CR s1 i1 c f e g d H a b K) (CR s1 i1 c f e b6 d H w b K)
def DQ(s1:Sl)(i1 c i:Int)(g:ByteArray)(f e:Int)(b5:Sl)(d:World)(H:NP)(w:World)(a:Sl->Int->NP->WP)(K:Sl->WP):Prop:=Br (c==2) (cl 214 #[b5.v,(vu i)] w<|XA fun h b=>aj H w b/\En s1 i1 c g f e h d H b a K) (En s1 i1 c g f e b5 d H w a K)
def DG(s1:Sl)(i1 e:Int)(k h:Int)(j:ByteArray)(i g:Int)(b3:Sl)(f:World)(H:NP)(w:World)(c:Sl->Int->NP->WP)(K:Sl->WP):Prop:=Br ((e==8) ||(e==9)) (∀b a,af f H w b a->cl 214 #[b3.v,(vu<|IntKind.u64.wrap k)] a (XA fun l d=>aj b a d/\DQ s1 i1 e h j i g l f b d c K))<|∀b a,af f H w b a->DQ s1 i1 e h j i g b3 f b a c K
def JT(z:Option Addr)(r1 s1 b1:Sl)(i1:Int)(j:World)(d:NP)(b:World)(h:Sl->Int->NP->WP)(K:Sl->WP):Prop:=Br (decide (i1<(r1.len:Int))) (∃a2,z=some a2/\∃u:Sl,b.cell? a2=some u.v/\¬d a2.block/\∃a3:Addr,At r1 i1 1 a3/\∃t,b.cell? a3=some (vi t)/\¬d a3.block/\∃a4:Addr,At u (q6.wrap<|t-1) 7 a4/\∃i w p r n o q,Row b a4 (Ab i w p r n o q)/\¬d a4.block/\∃a5:Addr,At r1 i1 1 a5/\∀c k,af j d b c k->∃s,k.cell? a5=some (vi s)/\∃l:Addr,At s1 s 1 l/\zL k l/\¬c l.block/\∀x,x=k.setCell l (vi i1)->∀y f,av x (.cells #[(.int .u8<|IntKind.u8.wrap i)] 5) y f->∃m:Sl,∃e:World,(Builtin.append_ #[59,59] 59 #[b1.v,(Sl.mk (some y) 1 1).v]).run prog f=.ok m.v e/\aj c f e/\Br (rf i) (∀a,af j c e c a->cl 214 #[m.v,(vu<|IntKind.u64.wrap w)] a (XA fun A g=>aj c a g/\DG s1 i1 i p r n o q A j c g h K)) (∀a,af j c e c a->DG s1 i1 i p r n o q m j c a h K))<|K b1 b
def m_C(h:Option Addr)(l:Int)(g:World)(K:Sl->WP):Prop:=cl 61 #[(vp h),(vi l)] g<|XA fun r1 f=>aj ar g f/\∃a1,h=some a1/\∃j:Sl,f.cell? a1=some j.v/\∃s1:Sl,∃k:World,(Instr.makeSlice 42 (vi<|q6.wrap<|(j.len:Int)+1)<|vi<|q6.wrap<|(j.len:Int)+1).run prog f=.ok s1.v k/\aj ar f k/\∃(i:Sl->Int->NP->WP) (e:Sl->Int->World->Nat),i Sl.nil 0 ar k/\∀(b1:Sl) (i1:Int) (b:NP) (a:World),af g b a b a->i b1 i1 b a->JT h r1 s1 b1 i1 g b a (fun d c m w'=>i d c m w'/\e d c w'<e b1 i1 a) K
def U9(p1 t1 w0 K)(h:m_C p1 t1 w0 K):
  cl 157 #[(vp p1),(vi t1)] w0<|XA K:=by
 refine cw (args:=[(vp p1),(vi t1)]) func157 ntmps157 ?_
 have⟨hs,a⟩:=su w0
 refine eg<|q<|ln<|eg<|qb<|sc call61 (h.mono fun e w1 ⟨r1,k,l,h⟩=>have⟨hs,a⟩:=l.hh hs a;⟨_,k,?_⟩)
 refine q<|ln<|eg<|q<|qm h fun a1 h=>q<|ql (isAgg41 _) h fun v1 h=>qb ?_
 have⟨s1,w2,W,l,h⟩:=h
 refine st (v:=s1.v) (qE rfl) (Ob Kf Kf W) ?_
 have⟨hs,a⟩:=l.hh hs a
 refine q<|ln<|eg<|q<|ln<|zK<|eg<|q<|ln<|vN ?_
 have⟨I,f,h0,hr⟩:=h
 refine wN (σ:=Sl×Int×NP×World) (fun s ρ w=>w=s.2.2.2/\ek ρ [(0,(vp p1)),(5,r1.v),(6,s1.v),(7,s.1.v),(8,(vi s.2.1))]/\af w0 s.2.2.1 w s.2.2.1 w/\HB s.2.2.1 w []/\I s.1 s.2.1 s.2.2.1 s.2.2.2) (fun s=>f s.1 s.2.1 s.2.2.2) (Sl.nil,0,ar,w2) ⟨rfl,hm,hs,a,h0⟩ ?_
 rintro⟨b1,i1,u,i⟩ ρ w ⟨hw,m,hs,a,hI⟩
 dsimp only at hw m hs a;subst w
 have h:=hr b1 i1 u i hs hI
 refine qW m (zK<|eg<|qd<|ln<|gw h ?_ ?_)<;>intro h
 refine zY<|uH<|zK<|vN<|zK<|Iu (fun x=>∃n,af w0 u i n x/\HB n x []) [11,12] [12] Kf Kf Kf Kf ⟨_,hs.drew,a.drew⟩ ?_
 intro w3 S
 have hs:af w0 u i u w3:=by rw[S];exact hs.drew
 have a:HB u w3 []:=by rw[S];exact a.drew
 refine qx 0 (vp p1) vt<|qg 1 ?_
 have⟨a2,hp2,h⟩:=h
 refine sy wi (fun _ _=>xn hp2)<|qx 2 (vp<|some a2) wg<|qg 3 ?_
 have⟨v2,N,A,h⟩:=h
 refine sy (v:=v2.v) wV (fun w' D=>by have⟨n,B,Y⟩:=D;exact(xl (isAgg41 _)<|Cj N A B)) (qx 4 r1.v vz<|qx 5 (vi i1) wq<|qg 6 ?_)
 have⟨a3,R,h⟩:=h
 refine sy vw (fun _ _=>xi (runUnderlying46 _) (sizeOf73 _) R)<|qg 7 ?_
 have⟨v3,P,A,h⟩:=h
 refine sy (v:=(vi v3)) xq (fun w' D=>by have⟨n,B,Y⟩:=D;exact(xl (isAgg73 _)<|Cj P A B)) (qx 8 (vi<|q6.wrap<|v3-1) yj<|qg 9 ?_)
 have⟨a4,U,h⟩:=h
 refine sy ye (fun _ _=>xi (runUnderlying41 _) (sizeOf119 _) U)<|qg 10 ?_
 have⟨g,F,C,z,y,t,o,hv9,A,h⟩:=h
 refine sy (v:=(Ac g F C z y t o)) (oy<|S8<|uB<|uB oh) (fun w' D=>by have⟨n,B,Y⟩:=D;exact(xa a4 (Ab g F C z y t o) (isAgg119 _) (sizeOf119 _)<|IE hv9 A B)) (Kb (fun ρ T=>∃r:Addr,∃J:NP,af w0 u i J T/\HB J T [(r,(Ab g F C z y t o),119)]/\ek ρ [(0,(vp p1)),(5,r1.v),(6,s1.v),(7,b1.v),(8,(vi i1)),(9,(vp<|some r))]) ?_ ?_)
 refine lg 11<|N3 (O:=(.cells #[(vi 0),(vi 0),(vi 0),(vu 0),ve,(vi 0),(vi 0)] 119)) (fun p=>.pointer<|some p) (oy<|S8<|uB<|uB<|uB oh) (qE rfl) Kf (uI (zeroValue119 _) rfl) ?_
 intro p4 w7 hn3
 have⟨H3,hs,a⟩:=hs.alloc a hn3
 refine⟨.inr ⟨_,hs,a.drop 1⟩,?_⟩
 refine lg 12<|FC (oy<|S8<|S4 oh) (qE rfl) Kf (xo p4 (Ab g F C z y t o) (sizeOf119 _)<|a.k0 0 7 gZ) ?_
 intro w8 hn4
 have⟨hs,a⟩:=a.qh 0 hs hn4 gZ
 refine⟨.inl Kf,?_⟩
 refine wn ⟨p4,_,hs,a,hm⟩
 rintro ρ w6 ⟨r,H2,hs,a,m⟩
 refine JH m<|uH<|eg<|qc<|qi (runUnderlying46 _) (sizeOf73 _) h fun a5 h=>?_
 have⟨h,hs⟩:=hs.hr<|h H2 w6
 refine ql (isAgg73 _) h fun v4 h=>q<|qi (runUnderlying42 _) (sizeOf3 _) h fun a6 h=>j6 (sizeOf3 _) hs a h fun w9 hs a h=>ln<|eg<|qb<|q3 (xl (isAgg3 _)<|a.d0 0 gZ)<|q<|EJ (fun p=>(Sl.mk (some p) 1 1).v) hs a h fun p5 w10 hs a h=>?_
 have⟨s2,w11,hv5,l,h⟩:=h
 refine st (v:=s2.v) (qE rfl) (Bq (args:=#[b1.v,(Sl.mk (some p5) 1 1).v]) Kf (fun _=>rfl) hv5) ?_
 have⟨hs,a⟩:=l.hh hs a
 refine q<|ln<|zK<|eg<|q<|q3 (xl (isAgg3 _)<|a.d0 0 gZ)<|sc call116<|(FU g w11).mono ?_
 rintro e Q ⟨M,V⟩
 refine⟨_,M,?_⟩
 have⟨hs,a⟩:=hs.pp a V
 refine ln<|yV (fun ρ w=>∃b3:Sl,∃H:NP,ek ρ [(0,(vp p1)),(5,r1.v),(6,s1.v),(7,b3.v),(8,(vi i1)),(9,(vp<|some r))]/\af w0 H w H w/\HB H w [(r,(Ab g F C z y t o),119)]/\DG s1 i1 g C z y t o b3 w0 H w (fun b c n w'=>I b c n w'/\f b c w'<f b1 i1 i) K) ?_ ?_
 rintro ρ w ⟨b3,H,m,hs,a,h⟩
 refine qW m<|zK<|zK<|G6 (fun ρ T=>∃E:Bool,∃J:NP,((g==8)=E)/\af w0 H w J T/\HB J T [(r,(Ab g F C z y t o),119)]/\ek ρ [(0,(vp p1)),(5,r1.v),(6,s1.v),(7,b3.v),(8,(vi i1)),(9,(vp<|some r)),(65,(vb<|E ||(g==9)))]) ?_ ?_
 refine rg<|q<|q3 (xl (isAgg3 _)<|a.d0 0 gZ)<|qb ?_
 rcases Ho (g==8)with j|j
 refine Xf 61 j<|q2 (vb true) (xT j)<|ln ⟨true,_,j,hs,a,hm⟩
 refine qk 61 j<|q4 61 j (xl (isAgg3 _)<|a.d0 0 gZ)<|qk 61 j<|q2 (vb<|g==9) (xF j)<|ln ⟨false,_,j,hs,a,hm⟩
 rintro ρ X ⟨E,H4,he0,hs,a,m⟩
 subst he0
 refine Ft m<|uH<|yV (fun ρ w=>∃b5:Sl,∃H:NP,ek ρ [(0,(vp p1)),(5,r1.v),(6,s1.v),(7,b5.v),(8,(vi i1)),(9,(vp<|some r))]/\af w0 H w H w/\HB H w [(r,(Ab g F C z y t o),119)]/\DQ s1 i1 g z y t o b5 w0 H w (fun b c n w'=>I b c n w'/\f b c w'<f b1 i1 i) K) ?_ ?_
 rintro ρ w ⟨b5,H,m,hs,a,h⟩
 refine qW m<|zK<|eg<|q<|q3 (xl (isAgg3 _)<|a.d0 0 gZ)<|q<|ln<|yV (fun ρ w=>∃b6:Sl,∃H:NP,ek ρ [(0,(vp p1)),(5,r1.v),(6,s1.v),(7,b6.v),(8,(vi i1)),(9,(vp<|some r))]/\af w0 H w H w/\HB H w [(r,(Ab g F C z y t o),119)]/\En s1 i1 g y t o b6 w0 H w (fun b c n w'=>I b c n w'/\f b c w'<f b1 i1 i) K) ?_ ?_
 rintro ρ w ⟨b6,H,m,hs,a,h⟩
 refine qW m<|zK<|eg<|q<|q3 (xl (isAgg3 _)<|a.d0 0 gZ)<|q<|ln<|yV (fun ρ w=>∃Z:Sl,∃H:NP,ek ρ [(0,(vp p1)),(5,r1.v),(6,s1.v),(7,Z.v),(8,(vi i1)),(9,(vp<|some r))]/\af w0 H w H w/\HB H w [(r,(Ab g F C z y t o),119)]/\CR s1 i1 g t o Z w0 H w (fun b c n w'=>I b c n w'/\f b c w'<f b1 i1 i) K) ?_ ?_
 rintro ρ w ⟨Z,H,m,hs,a,h⟩
 refine qW m<|zK<|eg<|q<|q3 (xl (isAgg3 _)<|a.d0 0 gZ)<|sc call65<|(rS g w).mono ?_
 rintro e L ⟨M,V⟩
 refine⟨_,M,?_⟩
 have⟨hs,a⟩:=hs.pp a V
 refine q<|ln<|yV (fun ρ w=>∃b8:Sl,∃H:NP,ek ρ [(0,(vp p1)),(5,r1.v),(6,s1.v),(7,b8.v),(8,(vi i1)),(9,(vp<|some r))]/\af w0 H w H w/\HB H w [(r,(Ab g F C z y t o),119)]/\D0 s1 i1 g o b8 w0 H w (fun b c n w'=>I b c n w'/\f b c w'<f b1 i1 i) K) ?_ ?_
 rintro ρ w ⟨b8,H,m,hs,a,h⟩
 refine qW m<|eg<|q<|q3 (xl (isAgg3 _)<|a.d0 0 gZ)<|sc call65<|(rS g w).mono ?_
 rintro e G ⟨M,V⟩
 refine⟨_,M,?_⟩
 have⟨hs,a⟩:=hs.pp a V
 refine q (ln<|gw h ?_ ?_)<;>intro h
 refine rg<|qc<|q3 (xl (isAgg73 _)<|a.d 0 6 gZ)<|qi (runUnderlying42 _) (sizeOf3 _) h fun a7 h=>?_
 have⟨h,hs⟩:=hs.hr<|h G
 refine ql (isAgg3 _) h fun v5 h=>q<|sc call214 (h.mono fun e w16 ⟨r2,k,l,h⟩=>have⟨hs,a⟩:=l.hh hs a;⟨_,k,?_⟩)
 refine q<|vI<|pQ<|uH<|rg<|qc<|ln ⟨(r2,(q6.wrap<|i1+1),H,w16),⟨rfl,hm,hs,a.drop 1,h.1⟩,h.2⟩
 refine zY<|pQ<|uH<|rg<|qc<|vI ?_
 have⟨h,hs⟩:=hs.hr<|h G
 refine uH ⟨(b8,(q6.wrap<|i1+1),H,G),⟨rfl,hm,hs,a.drop 1,h.1⟩,h.2⟩
 refine gw h ?_ ?_<;>intro h
 refine rg<|qc<|q3 (xl (isAgg73 _)<|a.d 0 5 gZ)<|qi (runUnderlying42 _) (sizeOf3 _) h fun a8 h=>?_
 have⟨h,hs⟩:=hs.hr<|h L
 refine ql (isAgg3 _) h fun v6 h=>q<|sc call214 (h.mono fun e w17 ⟨r3,k,l,h⟩=>have⟨hs,a⟩:=l.hh hs a;⟨_,k,?_⟩)
 refine q<|ln ⟨r3,H,hm,hs,a,h⟩
 refine zY ?_
 have⟨h,hs⟩:=hs.hr<|h L
 refine uH ⟨Z,H,hm,hs,a,h⟩
 refine gw h ?_ ?_<;>intro h
 refine rg<|qb<|q3 (xl (isAgg9 _)<|a.d 0 4 gZ)<|sc call215 (h.mono fun e w18 ⟨r4,k,l,h⟩=>have⟨hs,a⟩:=l.hh hs a;⟨_,k,?_⟩)
 refine q<|ln ⟨r4,H,hm,hs,a,h⟩
 refine zY<|uH ⟨b6,H,hm,hs,a,h⟩
 refine gw h ?_ ?_<;>intro h
 refine rg<|qb<|q3 (xl (isAgg23 _)<|a.d 0 3 gZ)<|sc call214 (h.mono fun e w19 ⟨r5,k,l,h⟩=>have⟨hs,a⟩:=l.hh hs a;⟨_,k,?_⟩)
 refine q<|ln ⟨r5,H,hm,hs,a,h⟩
 refine zY<|uH ⟨b5,H,hm,hs,a,h⟩
 refine gw h ?_ ?_<;>intro h
 refine rg<|qb<|q3 (xl (isAgg3 _)<|a.d 0 2 gZ)<|q ?_
 have⟨h,hs⟩:=hs.hr<|h H4 X
 refine sc call214 (h.mono fun e w20 ⟨r6,k,l,h⟩=>have⟨hs,a⟩:=l.hh hs a;⟨_,k,?_⟩)
 refine q<|ln ⟨r6,H4,hm,hs,a,h⟩
 refine zY ?_
 have⟨h,hs⟩:=hs.hr<|h H4 X
 refine uH ⟨b3,H4,hm,hs,a,h⟩
 refine gw h ?_ ?_<;>intro h
 refine rg<|qb<|q3 (xl (isAgg3 _)<|a.d 0 1 gZ)<|q ?_
 have⟨h,hs⟩:=hs.hr<|h Q
 refine sc call214 (h.mono fun e w21 ⟨r7,k,l,h⟩=>have⟨hs,a⟩:=l.hh hs a;⟨_,k,?_⟩)
 refine q<|ln ⟨r7,H2,hm,hs,a,h⟩
 refine zY ?_
 have⟨h,hs⟩:=hs.hr<|h Q
 refine uH ⟨s2,H2,hm,hs,a,h⟩
 refine tQ<|ry<|ry<|vn<|uH<|eg<|q0 b1.v<|q0 b1.v<|ln<|er<|Bw results157 ⟨b1,rfl,h⟩
def N5(a:Option Addr)(c:Int)(f:World)(K:Sl->Int->WP):Prop:=cl 112 #[(vp a),(vi c)] f fun e b=>∃r1,e=.returned (vb r1)/\Br (!r1) (K Sl.nil 51 b) (cl 157 #[(vp a),(vi c)] b<|XA fun r2 d=>Br (decide ((r2.len:Int)>4096)) (K Sl.nil 1 d)<|K r2 0 d)
def V6(p1 t1 w0 K)(h:N5 p1 t1 w0 K):
  cl 102 #[(vp p1),(vi t1)] w0<|XM K:=
 cy func102 h<|gd 4 call112<|br 0 1 (rr 3)<|gd 3 call157<|br 0 4 (rr 3)<|rr 4
def jby(b2:Sl)(n2:Int)(a:World)(c:Sl->Int->WP)(K:Sl->WP):Prop:=Br (decide (n2>=128)) (∃d:Int,(Go.binOp .or 5 (.int .u8<|IntKind.u8.wrap n2)<|.int .u8 128).run prog a=.ok (.int .u8 d) a/\∀g k,av a (.cells #[(.int .u8 d)] 5) g k->∃s1:Sl,∃b:World,(Builtin.append_ #[59,59] 59 #[b2.v,(Sl.mk (some g) 1 1).v]).run prog k=.ok s1.v b/\∃f,(Go.binOp .shr 23 (vu n2)<|vu 7).run prog b=.ok (vu f) b/\c s1 f b)<|∀h j,av a (.cells #[(.int .u8<|IntKind.u8.wrap n2)] 5) h j->∃e:Sl,∃i:World,(Builtin.append_ #[59,59] 59 #[b2.v,(Sl.mk (some h) 1 1).v]).run prog j=.ok e.v i/\K e i
def jbd(b1:Sl)(n1:Int)(g:World)(K:Sl->WP):Prop:=cl 271 #[b1.v] g<|XA fun r1 f=>∃(e:Sl->Int->WP) (d:Sl->Int->World->Nat),e r1 n1 f/\∀(b2:Sl) (n2:Int) (a:World),e b2 n2 a->jby b2 n2 a (fun c b w'=>e c b w'/\d c b w'<d b2 n2 a) K
def jbD(b1 n1 w0 K)(h:jbd b1 n1 w0 K):
  cl 250 #[b1.v,(vu n1)] w0<|XA K:=
 cy func250 h<|gd 2 call271<|Dr 1 [] (fun b2 n2=>[(0,(Sl.v b2)),(1,(vu n2))])<|fun {_ _ b2 n2}=>fun a=>br 0 2 (xe<|rb 4<|cf 0<|dt<|ef 0<|eo<|xe<|rb 2<|df 1 a)<|cf 4<|dt<|ef 0<|eo<|rr 1
def Wl(b1:Sl)(h e:Int)(k l:Int)(j:ByteArray)(i f:Int)(g:Option Nat)(d:World)(K:Sl->WP):Prop:=∀b a,af d ar d b a->cl 250 #[b1.v,(vu<|IntKind.u64.wrap e)] a (XA fun r1 c=>aj b a c/\K r1 c)
def TB(b1 aD aB aC aG aH aI aJ x1 w0 K)(h:Wl b1 aD aB aC aG aH aI aJ x1 w0 K):
  cl 249 #[b1.v,(.agg #[(vi aD),(vi aB),(vi aC),(vu aG),(vs aH),(vi aI),(vi aJ)]),(.map x1)] w0<|XA K:=
 du func249 h<|nh 0<|lh 3 0 [1]<|ah<|dw 1 call250<|rr 1
def jbz(r1:Option Addr)(i:World)(K:Int->WP):Prop:=∀b g,av i (.cells #[(vp r1)] 272) b g->∀a f,av g (.cells #[(vu 0)] 23) a f->lp f b fun k=>cl 290 #[(vp k),(.func (.func 291) #[] #[(vp<|some b),(vp<|some a)])] f fun e d=>e=.returned (.tuple #[])/\lu d a fun j=>zL d a/\∀c,c=d.setCell a (vu j)->lu c a fun h=>K h c
def jbp(r1 w0 K)(h:jbz r1 w0 K):
  cl 252 #[(vp r1)] w0<|XW K:=
 cy func252 h<|cf 0<|cf 0<|ld 0<|wF 1 call290<|ld 0<|gr 0<|dx 0<|HY<|ee
def Xi(r1:Option Addr)(n1:Option Addr)(c:World)(K:WP):Prop:=cl 252 #[(vp r1)] c<|XW fun r2 b=>∃a1,n1=some a1/\zL b (a1.add 7)/\∀a,a=b.setCell (a1.add 7) (vu r2)->K a
def Tw(r1 n1 w0 K)(h:Xi r1 n1 w0 K):
  cl 251 #[(vp r1),(vp n1)] w0<|fun e w'=>e=.returned (.tuple #[])/\K  w':=
 cy func251 h<|gd 2 call252<|nc 0<|gr 1<|rr 0
def SI(b1:Sl)(h i:Int)(e l:Int)(k:ByteArray)(j f:Int)(g:Option Nat)(d:World)(K:Sl->WP):Prop:=∀b a,af d ar d b a->cl 250 #[b1.v,(vu<|IntKind.u64.wrap e)] a (XA fun r1 c=>aj b a c/\K r1 c)
def Td(b1 aD aB aC aG aH aI aJ x1 w0 K)(h:SI b1 aD aB aC aG aH aI aJ x1 w0 K):
  cl 253 #[b1.v,(.agg #[(vi aD),(vi aB),(vi aC),(vu aG),(vs aH),(vi aI),(vi aJ)]),(.map x1)] w0<|XA K:=
 du func253 h<|nh 0<|lh 3 0 [2]<|ah<|dw 1 call250<|rr 1
def jbE(r1:Option Addr)(n1:Option Addr)(c:World)(K:WP):Prop:=cl 252 #[(vp r1)] c<|XW fun r2 b=>∃a1,n1=some a1/\zL b (a1.add 8)/\∀a,a=b.setCell (a1.add 8) (vu r2)->K a
def ZH(r1 n1 w0 K)(h:jbE r1 n1 w0 K):
  cl 254 #[(vp r1),(vp n1)] w0<|fun e w'=>e=.returned (.tuple #[])/\K  w':=
 cy func254 h<|gd 2 call252<|nc 0<|gr 1<|rr 0
def Y7(b1:Sl)(h i:Int)(l e:Int)(k:ByteArray)(j f:Int)(g:Option Nat)(d:World)(K:Sl->WP):Prop:=∀b a,af d ar d b a->cl 250 #[b1.v,(vu e)] a (XA fun r1 c=>aj b a c/\K r1 c)
def Xg(b1 aD aB aC aG aH aI aJ x1 w0 K)(h:Y7 b1 aD aB aC aG aH aI aJ x1 w0 K):
  cl 255 #[b1.v,(.agg #[(vi aD),(vi aB),(vi aC),(vu aG),(vs aH),(vi aI),(vi aJ)]),(.map x1)] w0<|XA K:=
 du func255 h<|nh 0<|lh 3 0 [3]<|ah<|dw 0 call250<|rr 1
def jcL(r1:Option Addr)(n1:Option Addr)(c:World)(K:WP):Prop:=cl 252 #[(vp r1)] c<|XW fun r2 b=>∃a1,n1=some a1/\zL b (a1.add 3)/\∀a,a=b.setCell (a1.add 3) (vu r2)->K a
def Yz(r1 n1 w0 K)(h:jcL r1 n1 w0 K):
  cl 256 #[(vp r1),(vp n1)] w0<|fun e w'=>e=.returned (.tuple #[])/\K  w':=
 cy func256 h<|gd 2 call252<|nc 0<|gr 2<|rr 0
def PZ(b1:Sl)(s1:ByteArray)(d:World)(K:Sl->WP):Prop:=cl 250 #[b1.v,(vu<|IntKind.u64.wrap (s1.size:Int))] d<|XA fun r1 c=>∃b:Sl,∃a:World,(Builtin.append_ #[59,9] 59 #[r1.v,(vs s1)]).run prog c=.ok b.v a/\K b a
def Tb(b1 s1 w0 K)(h:PZ b1 s1 w0 K):
  cl 258 #[b1.v,(vs s1)] w0<|XA K:=
 cy func258 h<|gd 5 call250<|dt<|ef 1<|eo<|rr 1
def jbe(b1:Sl)(h i:Int)(k l:Int)(e:ByteArray)(j f:Int)(g:Option Nat)(d:World)(K:Sl->WP):Prop:=∀b a,af d ar d b a->cl 258 #[b1.v,(vs e)] a (XA fun r1 c=>aj b a c/\K r1 c)
def Uk(b1 aD aB aC aG aH aI aJ x1 w0 K)(h:jbe b1 aD aB aC aG aH aI aJ x1 w0 K):
  cl 257 #[b1.v,(.agg #[(vi aD),(vi aB),(vi aC),(vu aG),(vs aH),(vi aI),(vi aJ)]),(.map x1)] w0<|XA K:=
 du func257 h<|nh 0<|lh 3 0 [4]<|ah<|dw 0 call258<|rr 1
def ZJ(r1:Option Addr)(a:Int)(n:World)(K:ByteArray->WP):Prop:=∀c j,av n (.cells #[(vp r1)] 272) c j->∀i m,av j (.cells #[(vi a)] 3) i m->∀b g,av m (.cells #[ve] 9) b g->∃l,g.cell? c=some (vp l)/\cl 290 #[(vp l),(.func (.func 293) #[] #[(vp<|some c),(vp<|some i),(vp<|some b)])] g fun e f=>e=.returned (.tuple #[])/\∃k,f.cell? b=some (vs k)/\zL f b/\∀d,d=f.setCell b (vs k)->∃h,d.cell? b=some (vs h)/\K h d
def VA(r1 most1 w0 K)(h:ZJ r1 most1 w0 K):
  cl 260 #[(vp r1),(vi most1)] w0<|XS K:=
 cy func260 h<|cf 0<|cf 0<|cf 0<|ld 0<|wF 1 call290<|ld 0<|gr 0<|dx 0<|HY<|ee
def Z4(r1:Option Addr)(n1:Option Addr)(c:World)(K:WP):Prop:=cl 260 #[(vp r1),(vi 64)] c<|XS fun r2 b=>∃a1,n1=some a1/\zL b (a1.add 4)/\∀a,a=b.setCell (a1.add 4) (vs r2)->K a
def jan(r1 n1 w0 K)(h:Z4 r1 n1 w0 K):
  cl 259 #[(vp r1),(vp n1)] w0<|fun e w'=>e=.returned (.tuple #[])/\K  w':=
 cy func259 h<|gd 2 call260<|nc 0<|gr 2<|rr 0
def Rm(b1:Sl)(i j:Int)(l m:Int)(k:ByteArray)(g h:Int)(a:Option Nat)(e:World)(K:Sl->WP):Prop:=∀c b,af e ar e c b->∃f,(Instr.lookup 231 (.map a) (vi g) false).run prog b=.ok (vi f) b/\cl 250 #[b1.v,(vu<|IntKind.u64.wrap f)] b (XA fun r1 d=>aj c b d/\K r1 d)
def Tz(b1 aD aB aC aG aH aI aJ number1 w0 K)(h:Rm b1 aD aB aC aG aH aI aJ number1 w0 K):
  cl 261 #[b1.v,(.agg #[(vi aD),(vi aB),(vi aC),(vu aG),(vs aH),(vi aI),(vi aJ)]),(.map number1)] w0<|XA K:=
 du func261 h<|nh 0<|lh 4 0 [5]<|ah<|xe<|rn 0<|dw 1 call250<|rr 1
def Q5(r1:Option Addr)(n1:Option Addr)(d:World)(K:WP):Prop:=cl 252 #[(vp r1)] d<|XW fun r2 c=>∃a1,n1=some a1/\zL c (a1.add 9)/\∀a,a=c.setCell (a1.add 9) (vu r2)->∃a2,n1=some a2/\zL a (a2.add 11)/\∀b,b=a.setCell (a2.add 11) (vi 1)->K b
def VB(r1 n1 w0 K)(h:Q5 r1 n1 w0 K):
  cl 262 #[(vp r1),(vp n1)] w0<|fun e w'=>e=.returned (.tuple #[])/\K  w':=
 cy func262 h<|gd 3 call252<|nc 0<|gr 1<|nc 0<|gr 1<|rr 0
def jbo(b1:Sl)(h i:Int)(l m:Int)(k:ByteArray)(j g:Int)(a:Option Nat)(e:World)(K:Sl->WP):Prop:=∀c b,af e ar e c b->∃f,(Instr.lookup 231 (.map a) (vi g) false).run prog b=.ok (vi f) b/\cl 250 #[b1.v,(vu<|IntKind.u64.wrap f)] b (XA fun r1 d=>aj c b d/\K r1 d)
def Qw(b1 aD aB aC aG aH aI aJ number1 w0 K)(h:jbo b1 aD aB aC aG aH aI aJ number1 w0 K):
  cl 263 #[b1.v,(.agg #[(vi aD),(vi aB),(vi aC),(vu aG),(vs aH),(vi aI),(vi aJ)]),(.map number1)] w0<|XA K:=
 du func263 h<|nh 0<|lh 4 0 [6]<|ah<|xe<|rn 0<|dw 1 call250<|rr 1
def Vj(r1:Option Addr)(n1:Option Addr)(d:World)(K:WP):Prop:=cl 252 #[(vp r1)] d<|XW fun r2 c=>∃a1,n1=some a1/\zL c (a1.add 10)/\∀a,a=c.setCell (a1.add 10) (vu r2)->∃a2,n1=some a2/\zL a (a2.add 11)/\∀b,b=a.setCell (a2.add 11) (vi 2)->K b
def SS(r1 n1 w0 K)(h:Vj r1 n1 w0 K):
  cl 264 #[(vp r1),(vp n1)] w0<|fun e w'=>e=.returned (.tuple #[])/\K  w':=
 cy func264 h<|gd 3 call252<|nc 0<|gr 1<|nc 0<|gr 1<|rr 0
def Mf(r1:Option Addr)(h:World)(H:NP)(w:World)(K:Option (List PanicEntry)->Int->WP):Prop:=∃a3,r1=some a3/\li w (a3.add 1) fun f=>∃a4,r1=some a4/\zL w (a4.add 1)/\¬H (a4.add 1).block/\∀e,e=w.setCell (a4.add 1) (vi<|q6.wrap<|f+1)->∃a5,r1=some a5/\∀a,af h H e H a->lx a a5 fun g=>∃c,r1=some c/\li a (c.add 1) fun i=>∃b:Addr,At g (q6.wrap<|i-1) 1 b/\∃d:Int,a.cell? b=some (.int .u8 d)/\K none d a
def UI(r1:Option Addr)(b:World)(K:Option (List PanicEntry)->Int->WP):Prop:=∃a1,r1=some a1/\∀a,af b ar b ar a->li a (a1.add 1) fun c=>∃a2,r1=some a2/\lx a a2 fun d=>Br (c==(d.len:Int)) (K (some [{ v:=(.iface 334<|vi 3),recovered:=false }]) 0 a)<|Mf r1 b ar a K
def Vo(r1 w0 K)(h:UI r1 w0 K):
  cl 296 #[(vp r1)] w0<|fun e w'=>(∃r2:Int,e=.returned (.int .u8 r2)/\K none r2 w')\/∃u,e=.panicked u/\K (some u) 0 w':=by
 refine xJ (args:=[(vp r1)]) func296 rfl ntmps296 (Nat.le_of_ble_eq_true rfl) ?_
 have⟨hs,a⟩:=su w0
 refine eg<|q<|ln<|zK<|zK<|DX Kf Kf Kf Kf ?_
 intro f d
 have hs:af w0 ar w0 ar f:=by rw[d];exact hs.drew
 have a:HB ar f []:=by rw[d];exact a.drew
 refine qq 0 (vp r1) vt<|qg 1 ?_
 have⟨a1,k,h⟩:=h
 refine oz wi (qE rfl) rfl (xn k) (qq 2 (vp<|some<|a1.add 1) wg<|qg 3 ?_)
 have⟨h,hs⟩:=hs.hr<|h f
 have⟨C,l,h⟩:=h
 refine oz wV (qE rfl) rfl (xl (isAgg3 _) l) (qq 4 (vp r1) vz<|qg 5 ?_)
 have⟨a2,m,h⟩:=h
 refine oz wq (qE rfl) rfl (xn m) (qq 6 (vp<|some a2) vw<|qg 7 ?_)
 have⟨x,p,h⟩:=h
 refine oz xq (qE rfl) rfl (xl (isAgg59 _) p) (qq 8 (vi (x.len:Int)) yj<|qq 9 (vb<|C==(x.len:Int)) ye<|wn<|uH<|yV (fun ρ w=>∃H:NP,ek ρ [(0,(vp r1))]/\af w0 H w H w/\HB H w []/\Mf r1 w0 H w K) ?_ ?_)
 rintro ρ w ⟨H,z,hs,a,h⟩
 refine qW z<|eg<|q<|qm h fun a3 h=>q<|ql (isAgg3 _) h fun G h=>q<|qm h fun a4 h=>q<|j6 (sizeOf3 _) hs a h fun D hs a h=>ln<|zK<|DX Kf Kf Kf Kf ?_
 intro s b
 have hs:af w0 H D H s:=by rw[b];exact hs.drew
 have a:HB H s []:=by rw[b];exact a.drew
 refine qq 0 (vp r1) vt<|qg 1 ?_
 have⟨a5,r,h⟩:=h
 refine oz wi (qE rfl) rfl (xn r) (qq 2 (vp<|some a5) wg<|qg 3 ?_)
 have⟨h,hs⟩:=hs.hr<|h s
 have⟨F,i,h⟩:=h
 refine oz wV (qE rfl) rfl (xl (isAgg59 _) i) (qq 4 (vp r1) vz<|qg 5 ?_)
 have⟨A,n,h⟩:=h
 refine oz wq (qE rfl) rfl (xn n) (qq 6 (vp<|some<|A.add 1) vw<|qg 7 ?_)
 have⟨y,o,h⟩:=h
 refine oz xq (qE rfl) rfl (xl (isAgg3 _) o) (qq 8 (vi<|q6.wrap<|y-1) yj<|qg 9 ?_)
 have⟨E,j,h⟩:=h
 refine oz ye (qE rfl) rfl (xi (runUnderlying59 _) (sizeOf5 _) j) (qg 10 ?_)
 have⟨t,g,h⟩:=h
 refine oz (oy<|S8<|uB<|uB oh) (qE rfl) rfl (xl (isAgg5 _) g) (qq 11 (.int .u8 t) (oy<|S8<|uB<|uB<|uB oh)<|wn<|uH<|er<|ep<|Bw results296 (v:=(.int .u8 t)) ?_)
 exact .inl ⟨t,rfl,h⟩
 refine gw h ?_ ?_<;>intro h
 refine qZ Kf<|qQ 1<|q0 (.iface 334<|vi 3)<|vI<|BK (qE rfl) (by intro c B;cases B) (Cs Kf) fun I=>.inr ⟨_,rfl,h⟩
 refine zY<|uH ⟨ar,hm,hs,a,h⟩
def HK(n1 i1 r2:Int)(w:World)(a:Int->Int->WP)(K:Option (List PanicEntry)->Int->WP):Prop:=∃c:Int,(Go.binOp .and 5 (.int .u8 r2)<|.int .u8 127).run prog w=.ok (.int .u8 c) w/\∃d,(Go.binOp .shl 23 (vu<|IntKind.u64.wrap c)<|vi<|q6.wrap<|7*i1).run prog w=.ok (vu d) w/\∃b,(Go.binOp .or 23 (vu n1)<|vu d).run prog w=.ok (vu b) w/\Br (decide (r2<128)) (Br ((r2==0)&&(decide (i1>0))) (K (some [{ v:=(.iface 334<|vi 10),recovered:=false }]) 0 w)<|K none b w) (a b (q6.wrap<|i1+1) w)
def UZ(r1:Option Addr)(n1 i1:Int)(b:World)(a:Int->Int->WP)(K:Option (List PanicEntry)->Int->WP):Prop:=cl 296 #[(vp r1)] b fun e c=>(∃r2:Int,e=.returned (.int .u8 r2)/\Br ((i1==9)&&(decide (r2>1))) (K (some [{ v:=(.iface 334<|vi 11),recovered:=false }]) 0 c) (HK n1 i1 r2 c a K))\/∃d,e=.panicked d/\K (some d) 0 c
def Ri(r1:Option Addr)(f:World)(K:Option (List PanicEntry)->Int->WP):Prop:=∃(e:Int->Int->WP) (d:Int->Int->World->Nat),e 0 0 f/\∀(n1 i1:Int) (a:World),e n1 i1 a->UZ r1 n1 i1 a (fun c b w'=>e c b w'/\d c b w'<d n1 i1 a) K
def jaM(r1 w0 K)(h:Ri r1 w0 K):
  cl 292 #[(vp r1)] w0<|fun e w'=>(∃r3,e=.returned (vu r3)/\K none r3 w')\/∃k,e=.panicked k/\K (some k) 0 w':=by
 refine xJ (args:=[(vp r1)]) func292 rfl ntmps292 (Nat.le_of_ble_eq_true rfl) (eg<|q0 (vu 0)<|ln<|eg<|q0 (vu 0)<|ln<|zK<|rg<|q<|ln<|vN ?_)
 have⟨z,j,E,hr⟩:=h
 refine wN (σ:=Int×Int×World) (fun s ρ w=>w=s.2.2/\ek ρ [(0,(vp r1)),(3,(vu s.1)),(4,(vi s.2.1))]/\z s.1 s.2.1 s.2.2) (fun s=>j s.1 s.2.1 s.2.2) (0,0,w0) ⟨rfl,hm,E⟩ ?_
 rintro⟨n1,i1,m⟩ ρ w ⟨r,g,F⟩
 dsimp only at r g;subst w
 have h:=hr n1 i1 m F
 refine qW g<|zK<|vN<|zK<|qZ Kf<|qQ 1<|q0 (vp r1)<|vI<|Cc (qE rfl) (by intro c o;cases o) (xc call296)<|h.mono fun e D hh=>hh.elim ?_ (by rintro⟨k,rfl,h⟩;exact .inr ⟨k,rfl,fun A=>.inr ⟨k,rfl,h⟩⟩)
 rintro⟨r2,rfl,h⟩
 refine .inl ⟨_,rfl,?_⟩
 refine Dz<|q0 (.int .u8 r2)<|ln<|zK<|zK<|G6 (fun ρ x=>∃d:Bool,((i1==9)=d)/\D=x/\ek ρ [(0,(vp r1)),(3,(vu n1)),(4,(vi i1)),(5,(.int .u8 r2)),(15,(vb<|d&&(decide (r2>1))))]) ?_ ?_
 refine rg<|qc ?_
 rcases Ho (i1==9)with a|a
 refine qk 12 a<|qk 12 a<|q2 (vb<|decide (r2>1)) (xT a)<|ln ⟨true,a,rfl,hm⟩
 refine HR 12 a<|q2 (vb false) (xF a)<|ln ⟨false,a,rfl,hm⟩
 rintro ρ H ⟨d,i,r,g⟩
 subst i
 subst r
 refine Ft g<|uH<|yV (fun ρ w=>ek ρ [(0,(vp r1)),(3,(vu n1)),(4,(vi i1)),(5,(.int .u8 r2))]/\HK n1 i1 r2 w (fun n l w'=>z n l w'/\j n l w'<j n1 i1 m) K) ?_ ?_
 rintro ρ w ⟨g,h⟩
 refine qW g<|eg<|qb ?_
 have⟨B,y,h⟩:=h
 refine q2 (.int .u8 B) (DS Kf Kf Kf y)<|qc ?_
 have⟨C,u,h⟩:=h
 refine q2 (vu C) (DS Kf Kf Kf u) ?_
 have⟨p,t,h⟩:=h
 refine q2 (vu p) (DS Kf Kf Kf t) (q<|ln<|eg<|qb<|ln<|gw h ?_ ?_)<;>intro h
 refine zK<|zK<|G6 (fun ρ x=>∃f:Bool,((r2==0)=f)/\w=x/\ek ρ [(3,(vu p)),(32,(vb<|f&&(decide (i1>0))))]) ?_ ?_
 refine rg<|qc ?_
 rcases Ho (r2==0)with b|b
 refine qk 29 b<|qk 29 b<|q2 (vb<|decide (i1>0)) (xT b)<|ln ⟨true,b,rfl,hm⟩
 refine HR 29 b<|q2 (vb false) (xF b)<|ln ⟨false,b,rfl,hm⟩
 rintro ρ G ⟨f,i,r,g⟩
 subst i
 subst r
 refine Ft g (uH<|gw h ?_ ?_)<;>intro h
 refine qZ Kf<|qQ 1<|q0 (.iface 334<|vi 10)<|vI<|BK (qE rfl) (by intro c o;cases o) (Cs Kf) fun A=>.inr ⟨_,rfl,h⟩
 refine zY<|uH<|eg<|qb<|ln<|er<|rF<|l0<|l0<|rF<|ep<|Bw results292 (v:=(vu p)) ?_
 exact .inl ⟨p,rfl,h⟩
 refine zY<|pQ<|uH<|rg<|qc<|ln ⟨(p,(q6.wrap<|i1+1),w),⟨rfl,hm,h.1⟩,h.2⟩
 refine gw h ?_ ?_<;>intro h
 refine qZ Kf<|qQ 1<|q0 (.iface 334<|vi 11)<|vI<|BK (qE rfl) (by intro c o;cases o) (Cs Kf) fun A=>.inr ⟨_,rfl,h⟩
 refine zY<|uH ⟨hm,h⟩
def jbc(b a:Addr)(g:World)(K:Option (List PanicEntry)->WP):Prop:=lp g b fun h=>cl 292 #[(vp h)] g fun e c=>(∃r1,e=.returned (vu r1)/\zL c a/\∀f,f=c.setCell a (vu r1)->K none f)\/∃d,e=.panicked d/\K (some d)  c
def QM(cap1 cap2 w0 K)(h:jbc cap1 cap2 w0 K):
  cl 291 #[(vp<|some cap1),(vp<|some cap2)] w0<|fun e w'=>(e=.returned (.tuple #[])/\K none  w')\/∃a,e=.panicked a/\K (some a)  w':=by
 refine xJ (args:=[(vp<|some cap1),(vp<|some cap2)]) func291 rfl ntmps291 (Nat.le_of_ble_eq_true rfl) (qZ Kf<|qQ 1<|ql (isAgg272 _) h fun g h=>vI<|Cc (qE rfl) (by intro c b;cases b) (xc call292)<|h.mono fun e f hh=>hh.elim ?_ (by rintro⟨a,rfl,h⟩;exact .inr ⟨a,rfl,fun d=>.inr ⟨a,rfl,h⟩⟩))
 rintro⟨r1,rfl,h⟩
 refine .inl ⟨_,rfl,?_⟩
 refine Dz<|qh (sizeOf23 _) h fun i h=>vI<|ep<|wo (.inr rfl) results291 ?_
 exact .inl ⟨rfl,h⟩
def Mx(a c:Addr)(r1:Int)(H:NP)(w:World)(K:Option (List PanicEntry)->WP):Prop:=∃q:WP,q w.drew/\∀b,b=w.drew->∃p,b.cell? a=some (vp p)/\∃a3,p=some a3/\∃k:Sl,b.cell? a3=some k.v/\∃m,b.cell? a=some (vp m)/\∃a4,m=some a4/\∃j,b.cell? (a4.add 1)=some (vi j)/\∃h,b.cell? a=some (vp h)/\∃a5,h=some a5/\∃g,b.cell? (a5.add 1)=some (vi g)/\∃s1:Sl,(Instr.sliceAt 59 k.v (some<|vi j) (some<|vi<|q6.wrap<|g+(q6.wrap r1)) none).run prog b=.ok s1.v b/\∃l,(convert 59 9 s1.v).run prog b=.ok (vs l) b/\zL b c/\¬H c.block/\∀f,f=b.setCell c (vs l)->∃d,f.cell? a=some (vp d)/\∃n,d=some n/\∃e,f.cell? (n.add 1)=some (vi e)/\∃i,d=some i/\zL f (i.add 1)/\¬H (i.add 1).block/\∀o,o=f.setCell (i.add 1) (vi<|q6.wrap<|e+(q6.wrap r1))->K none o
def NY(a c:Addr)(r1:Int)(h:World)(H:NP)(w:World)(K:Option (List PanicEntry)->WP):Prop:=∀b,af h H w H b->∃f,b.cell? a=some (vp f)/\∃a1,f=some a1/\∃d:Sl,b.cell? a1=some d.v/\∃e,b.cell? a=some (vp e)/\∃a2,e=some a2/\∃g,b.cell? (a2.add 1)=some (vi g)/\Br (decide (r1>(IntKind.u64.wrap<|q6.wrap<|(d.len:Int)-g))) (K (some [{ v:=(.iface 334<|vi 3),recovered:=false }])  b) (Mx a c r1 H b K)
def Gn(b a:Addr)(r1:Int)(d:Bool)(c:World)(H:NP)(w:World)(K:Option (List PanicEntry)->WP):Prop:=Br d (K (some [{ v:=(.iface 334<|vi 1),recovered:=false }])  w)<|NY b a r1 c H w K
def m_R(a b c:Addr)(g:World)(K:Option (List PanicEntry)->WP):Prop:=∃j,g.cell? a=some (vp j)/\cl 292 #[(vp j)] g fun e d=>(∃r1,e=.returned (vu r1)/\aj ar g d/\∃h,d.cell? b=some (vi h)/\Br (decide (h<0)) (Gn a c r1 true g ar d K) (∃f,d.cell? b=some (vi f)/\Gn a c r1 (decide (r1>(IntKind.u64.wrap f))) g ar d K))\/∃i,e=.panicked i/\K (some i)  d
def Qv(cap1 cap2 cap3 w0 K)(h:m_R cap1 cap2 cap3 w0 K):
  cl 293 #[(vp<|some cap1),(vp<|some cap2),(vp<|some cap3)] w0<|fun e w'=>(e=.returned (.tuple #[])/\K none  w')\/∃f,e=.panicked f/\K (some f)  w':=by
 refine xJ (args:=[(vp<|some cap1),(vp<|some cap2),(vp<|some cap3)]) func293 rfl ntmps293 (Nat.le_of_ble_eq_true rfl) ?_
 have⟨hs,a⟩:=su w0
 refine zK<|qZ Kf<|qQ 1<|ql (isAgg272 _) h fun v1 h=>vI<|Cc (qE rfl) (by intro c n;cases n) (xc call292)<|h.mono fun e w1 hh=>hh.elim ?_ (by rintro⟨f,rfl,h⟩;exact .inr ⟨f,rfl,fun Q=>.inr ⟨f,rfl,h⟩⟩)
 rintro⟨r1,rfl,x,h⟩
 refine .inl ⟨_,rfl,?_⟩
 have⟨hs,a⟩:=x.hh hs a
 refine Dz<|q0 (vu r1)<|ln<|zK<|zK<|yV (fun ρ w=>∃C,∃H:NP,ek ρ [(0,(vp<|some cap1)),(2,(vp<|some cap3)),(3,(vu r1)),(13,(vb C))]/\af w0 H w H w/\HB H w []/\Gn cap1 cap3 r1 C w0 H w K) ?_ ?_
 rintro ρ w ⟨C,H,j,hs,a,h⟩
 refine qW j<|yV (fun ρ w=>∃H:NP,ek ρ [(0,(vp<|some cap1)),(2,(vp<|some cap3)),(3,(vu r1))]/\af w0 H w H w/\HB H w []/\NY cap1 cap3 r1 w0 H w K) ?_ ?_
 rintro ρ w ⟨H,j,hs,a,h⟩
 refine qW j<|zK<|zK<|DX Kf Kf Kf Kf ?_
 intro P o
 have hs:af w0 H w H P:=by rw[o];exact hs.drew
 have a:HB H P []:=by rw[o];exact a.drew
 refine qq 0 (vu r1) vt<|qg 1 ?_
 have⟨h,hs⟩:=hs.hr<|h P
 have⟨v2,r,h⟩:=h
 refine oz wi (qE rfl) rfl (xl (isAgg272 _) r) (qg 2 ?_)
 have⟨a1,G,h⟩:=h
 refine oz wg (qE rfl) rfl (xn G) (qq 3 (vp<|some a1) wV<|qg 4 ?_)
 have⟨s,g,h⟩:=h
 refine oz vz (qE rfl) rfl (xl (isAgg59 _) g) (qq 5 (vi (s.len:Int)) wq<|qg 6 ?_)
 have⟨v4,m,h⟩:=h
 refine oz vw (qE rfl) rfl (xl (isAgg272 _) m) (qg 7 ?_)
 have⟨a2,I,h⟩:=h
 refine oz xq (qE rfl) rfl (xn I) (qq 8 (vp<|some<|a2.add 1) yj<|qg 9 ?_)
 have⟨u,i,h⟩:=h
 refine oz ye (qE rfl) rfl (xl (isAgg3 _) i) (qq 10 (vi<|q6.wrap<|(s.len:Int)-u) (oy<|S8<|uB<|uB oh)<|qq 11 (vu<|IntKind.u64.wrap<|q6.wrap<|(s.len:Int)-u) (oy<|S8<|uB<|uB<|uB oh)<|qq 12 (vb<|decide (r1>(IntKind.u64.wrap<|q6.wrap<|(s.len:Int)-u))) (oy<|S8<|S4 oh)<|wn<|uH<|yV (fun ρ w=>∃H:NP,ek ρ [(0,(vp<|some cap1)),(2,(vp<|some cap3)),(3,(vu r1))]/\af w0 H w H w/\HB H w []/\Mx cap1 cap3 r1 H w K) ?_ ?_)
 rintro ρ w ⟨H,j,hs,a,h⟩
 refine qW j<|zK ?_
 have⟨S,X,h⟩:=h
 refine Pb S [17] [17] X h hs a fun w3 hs a h=>?_
 have hs:=hs.fm
 refine qg 0 ?_
 have⟨v6,k,h⟩:=h
 refine rO vt (xl (isAgg272 _) k)<|qg 1 ?_
 have⟨a3,A,h⟩:=h
 refine sy wi (fun _ _=>xn A)<|qx 2 (vp<|some a3) wg<|qg 3 ?_
 have⟨v7,t,h⟩:=h
 refine rO wV (xl (isAgg59 _) t)<|qg 4 ?_
 have⟨v8,y,h⟩:=h
 refine rO vz (xl (isAgg272 _) y)<|qg 5 ?_
 have⟨a4,F,h⟩:=h
 refine sy wq (fun _ _=>xn F)<|qx 6 (vp<|some<|a4.add 1) vw<|qg 7 ?_
 have⟨v9,J,h⟩:=h
 refine rO xq (xl (isAgg3 _) J)<|qg 8 ?_
 have⟨T,O,h⟩:=h
 refine rO yj (xl (isAgg272 _) O)<|qg 9 ?_
 have⟨a5,z,h⟩:=h
 refine sy ye (fun _ _=>xn z)<|qx 10 (vp<|some<|a5.add 1) (oy<|S8<|uB<|uB oh)<|qg 11 ?_
 have⟨E,M,h⟩:=h
 refine rO (oy<|S8<|uB<|uB<|uB oh) (xl (isAgg3 _) M)<|qx 12 (vu r1) (oy<|S8<|S4 oh)<|qx 13 (vi<|q6.wrap r1) (oy<|S8<|S4<|uB oh)<|qx 14 (vi<|q6.wrap<|E+(q6.wrap r1)) (oy<|S8<|S4<|uB<|uB oh)<|qg 15 ?_
 have⟨s1,B,h⟩:=h
 refine rO (v:=s1.v) (oy<|S8<|S4<|uB<|uB<|uB oh) (Rk Kf Kf Kf Kf B)<|qg 16 ?_
 have⟨R,L,h⟩:=h
 refine rO (v:=(vs R)) (oy<|S8<|S8 oh) (Xo Kf L)<|lg 17 ?_
 have⟨N,D,h⟩:=h
 refine I7 (oy<|S8<|S8<|uB oh) (xs (v:=(vs R)) (sizeOf9 _) N) ?_
 intro Y l
 have h:=h Y l
 refine⟨.inl Kf,?_⟩
 have x:=aj.sc D l
 have⟨hs,a⟩:=x.hh hs a
 refine wn<|uH<|rg<|ql (isAgg272 _) h fun V h=>qm h fun a6 h=>q<|ql (isAgg3 _) h fun W h=>qc<|qm h fun Z h=>q<|j6 (sizeOf3 _) hs a h fun w5 hs a h=>vI<|ep<|wo (.inr rfl) results293 ?_
 exact .inl ⟨rfl,h⟩
 refine gw h ?_ ?_<;>intro h
 refine qZ Kf<|qQ 1<|q0 (.iface 334<|vi 3)<|vI<|BK (qE rfl) (by intro c n;cases n) (Cs Kf) fun Q=>.inr ⟨_,rfl,h⟩
 refine zY<|uH ⟨H,hm,hs,a,h⟩
 refine gw h ?_ ?_<;>intro h
 refine qZ Kf<|qQ 1<|q0 (.iface 334<|vi 1)<|vI<|BK (qE rfl) (by intro c n;cases n) (Cs Kf) fun Q=>.inr ⟨_,rfl,h⟩
 refine zY<|uH ⟨H,hm,hs,a,h⟩
 refine rg<|ql (isAgg3 _) h fun U h=>qb ?_
 obtain⟨b,h⟩|⟨b,h⟩:=h.br
 refine Sa 8 b<|q2 (vb true) (xT b)<|ln ⟨true,ar,hm,hs,a,h⟩
 refine qk 8 b ?_
 have⟨d,p,h⟩:=h
 refine q4 8 b (xl (isAgg3 _) p)<|qk 8 b<|qk 8 b<|q2 (vb<|decide (r1>(IntKind.u64.wrap d))) (xF b)<|ln ⟨(decide (r1>(IntKind.u64.wrap d))),ar,hm,hs,a,h⟩
def jcy(b a:Addr)(g:World)(K:Option (List PanicEntry)->WP):Prop:=lp g b fun h=>cl 296 #[(vp h)] g fun e c=>(∃r1:Int,e=.returned (.int .u8 r1)/\zL c a/\∀f,f=c.setCell a (.int .u8 r1)->K none f)\/∃d,e=.panicked d/\K (some d)  c
def jcg(cap1 cap2 w0 K)(h:jcy cap1 cap2 w0 K):
  cl 295 #[(vp<|some cap1),(vp<|some cap2)] w0<|fun e w'=>(e=.returned (.tuple #[])/\K none  w')\/∃a,e=.panicked a/\K (some a)  w':=by
 refine xJ (args:=[(vp<|some cap1),(vp<|some cap2)]) func295 rfl ntmps295 (Nat.le_of_ble_eq_true rfl) (qZ Kf<|qQ 1<|ql (isAgg272 _) h fun g h=>vI<|Cc (qE rfl) (by intro c b;cases b) (xc call296)<|h.mono fun e f hh=>hh.elim ?_ (by rintro⟨a,rfl,h⟩;exact .inr ⟨a,rfl,fun d=>.inr ⟨a,rfl,h⟩⟩))
 rintro⟨r1,rfl,h⟩
 refine .inl ⟨_,rfl,?_⟩
 refine Dz<|qh (sizeOf5 _) h fun i h=>vI<|ep<|wo (.inr rfl) results295 ?_
 exact .inl ⟨rfl,h⟩
end Go.Proofs
end
section
open Go Go.SE List
namespace Go.SE
def dn(bs:List UInt8):List (List Value):=bs.map fun b=>[.int .u8 (b.toNat:Int)]
def qC(bs):(dn bs).length=bs.length:=by simp[dn]
def Gw(bs):∀q∈dn bs,q.all vJ=true:=by intro q a;obtain⟨t,_,rfl⟩:=mem_map.1 a;rfl
def zv(bs):∀q∈dn bs,q.length=1:=by intro q a;obtain⟨t,_,rfl⟩:=mem_map.1 a;rfl
def Gg(bs):(dn bs).flatten=bs.map fun b=>Value.int .u8 (b.toNat:Int):=by
 induction bs with
 |nil=>rfl
 |cons b bs a=>simp only[dn,map_cons,flatten_cons]at a|-;rw[a];rfl
def CT(a b):dn (a++b)=dn a++dn b:=by simp[dn]
def Ch{S w s bs}(h:dr S w 1 s (dn bs)){j}(b:j<bs.length):∃a,At s j 1 a/\S a.block/\w.cell? a=some (.int .u8 (bs[j].toNat:Int)):=by
 have⟨a,h1,h2,h3⟩:=h.at_ j (by simpa[dn]using b);exact⟨a,h1,h2,zi<|by simpa[dn]using h3⟩
def wz(n:Nat):IntKind.u8.wrap (n:Int)=((UInt8.ofNat n).toNat:Int):=by
 rw[UInt8.toNat_ofNat'];simp[IntKind.wrap,IntKind.bits,IntKind.signed]
def A8{P src dst e}(hs:P.underlying src=some (.slice e))(f:P.underlying e=some (.int .u8))(g:P.underlying dst=some .string){S w s bs}(h:dr S w 1 s (dn bs)):
  (convert src dst s.v).run P w=.ok (.string ⟨bs.toArray⟩) w:=by
 have i:s.len=bs.length:=by rw[h.len,qC]
 cases d:s.a with
 |none =>
  have c:bs=[]:=by
   cases bs with
   |nil=>rfl
   |cons b bs=>have⟨_,⟨_,_,p,k,_⟩,_⟩:=Ch h (j:=0) Sm;rw[d]at k;cases k
  subst c
  have:s.v=.slice none 0 s.cap:=by unfold Sl.v;rw[d,i];rfl
  rw[this,run_convert_bytes_string w src dst e none 0 s.cap hs f g];rfl
 |some p =>
  have:s.v=.slice (some p) bs.length s.cap:=by unfold Sl.v;rw[d,i]
  rw[this]
  refine run_convert_bytes_back w src dst e p s.cap bs hs f g fun j m=>?_
  obtain⟨a,⟨_,_,b,c,rfl⟩,_,l⟩:=Ch h m
  rw[d]at c;cases c
  simpa using l
section
variable {P:Program} {t u e ty:TypeId} {w:World}
def Pw(b):(Builtin.firstCells 1 b.size<|.string b).run P w=.ok (b.data.map fun x=>Value.int .u8 (x.toNat:Int)) w:=by
 have a:(Array.map (fun b:UInt8=>Value.int IntKind.u8 (b.toNat:Int)) b.data).extract 0 b.size=Array.map (fun b:UInt8=>Value.int IntKind.u8 (b.toNat:Int)) b.data:=by
  have hs:b.size=(Array.map (fun b:UInt8=>Value.int IntKind.u8 (b.toNat:Int)) b.data).size:=by rw[Array.size_map];rfl
  rw[hs,Array.extract_size]
 simp[Builtin.firstCells,a]
def YV(T:km P t e 1 1)(h:P.underlying u=some .string)(s:Sl)(g:s.len<=s.cap)(b:ByteArray)(f:b.size=0):(Builtin.append_ #[t,u] ty #[s.v,.string b]).run P w=.ok s.v w:=by
 have⟨a,n,c⟩:=s;simp only at g;have d:b=⟨#[]⟩:=by cases b;simp only[ByteArray.size]at f;congr;exact Array.eq_empty_of_size_eq_zero f
 subst d;cases a<;>simp[Builtin.append_,Sl.v,run_underlying T.ht,run_underlying h,T.sizeOf,Builtin.lenOf,Builtin.firstCells,storeCells,g,ByteArray.size]
def bg.VP(T:km P t e 1 1)(k:P.underlying u=some .string){s rs}(h:bg w e 1 s rs)(b)(f:rs.length+b.size<=140737488355328)(hm:rs.length+b.size<=maxLen):
  ∃s' w',(Builtin.append_ #[t,u] ty #[s.v,.string b]).run P w=.ok s'.v w'/\bg w' e 1 s' (rs++dn b.data.toList)/\ab s.aq w w'/\(∀b,s'.aq b->s.aq b\/w.heap.size<=b):=by
 have⟨i,z,hi,U,y,G,H⟩:=T.hi
 have K:b.data.toList.length=b.size:=by rw[Array.length_toList];rfl
 by_cases Y:b.size=0
 .have Q : s.len <= s.cap:=by
   rcases h.ak with⟨rfl,_⟩|⟨g,cur,_,_,Q,_⟩
   .exact Nat.le_refl _
   .rw[h.len];exact Q
  have:b.data.toList=[]:=length_eq_zero_iff.1 Om
  rw[this]
  exact⟨s,w,YV T k s Q b Y,by simpa[dn]using h,ab.refl w,fun b f=>.inl f⟩
 have O:rs.length+b.size<=9223372036854775807:=by simp only[maxLen]at hm;omega
 have S:=vL h.mx
 have d:(dn b.data.toList).length=b.size:=by rw[qC,K]
 have l:∀q∈rs++dn b.data.toList,q.length=1:=fun q W=>(mem_append.1 W).elim (h.mx q)<|zv _ q
 have J:(b.data.map fun x=>Value.int .u8 (x.toNat:Int)).toList=(dn b.data.toList).flatten:=by rw[Gg];simp
 have X:(b.data.map fun x=>Value.int .u8 (x.toNat:Int)).size=b.size:=by rw[Array.size_map];rfl
 rcases h.ak with⟨rfl,rfl⟩|⟨g,cur,p,N,V,M,ez,A⟩
 .simp only[length_nil,Nat.zero_add]at f O hm
  have c:=run_append_nil_string (P:=P) w t u ty e i z T.ht k hi U b Om Om (by rw[G];omega)
  have n:=bg.qp (w:=w) (e:=e) (sz:=1) (rs:=dn b.data.toList) (zv _) (cur:=b.data.map fun x=>Value.int .u8 (x.toNat:Int)) (by rw[H]) J (cap:=grownCap w b.size 0 e) (by rw[d];exact grownCap_ge w _ 0 e) (grownCap_le_maxLen w _ 0 e hm)
  rw[d]at n
  exact⟨⟨some ⟨w.heap.size,0,none⟩,b.size,grownCap w b.size 0 e⟩,_,c,by simpa using n,⟨rfl,rfl,rfl,Fe,Sm,fun b f _=>Cd w.drew _ b f⟩,fun b f=>by obtain⟨a,p,rfl⟩:=f;cases p;right;exact Nat.le_refl _⟩
 .have F:s.v=.slice (some ⟨g,0,none⟩) rs.length s.cap:=by unfold Sl.v;rw[p,h.len]
  by_cases m:rs.length+b.size<=s.cap
  .have o:rs.length+(dn b.data.toList).flatten.length<=cur.size:=by rw[vL<|zv _,d,ez];omega
   have L:∀u∈(dn b.data.toList).flatten,u.oneCell'=true:=fun u k=>by
    rw[Gg]at k;obtain⟨x,_,rfl⟩:=mem_map.1 k;rfl
   have au:=run_storeCells_at P g rs.length e (dn b.data.toList).flatten 0 cur w N (by simpa using o) L
   have c:(Builtin.append_ #[t,u] ty #[s.v,.string b]).run P w=.ok (.slice (some ⟨g,0,none⟩) (rs.length+b.size) s.cap) (w.setRow g (cur.toList.take rs.length++(dn b.data.toList).flatten++cur.toList.drop (rs.length+(dn b.data.toList).flatten.length)).toArray):=by
    rw[F];simp only[Nat.add_zero]at au;have B:=Pw (P:=P) (w:=w) b;rw[Gg]at au|-;simp[Builtin.append_,run_underlying T.ht,run_underlying k,T.sizeOf,Builtin.lenOf,m,B,Addr.add_lit,au]
   refine⟨⟨some ⟨g,0,none⟩,rs.length+b.size,s.cap⟩,_,c,⟨l,by simp[d],.inr ⟨g,_,rfl,setRow_heap w g cur _ e _ N,by simpa[d]using m,M,?_,?_⟩⟩,⟨rfl,rfl,rfl,Fe,Sm,fun b f B=>setRow_other w g b _ fun e=>B ⟨_,p,e.symm⟩⟩,fun b f=>by obtain⟨a,R,rfl⟩:=f;cases R;exact .inl ⟨_,p,rfl⟩⟩
   .grind
   .grind
  .have r : ∀ j u, rs.flatten[j]? = some u -> w.cell? ((⟨g, 0, none⟩ : Addr).add j) = some u:=fun j u k => by
    have E:(⟨g,0,none⟩:Addr).add j=⟨g,j,none⟩:=by unfold Addr.add;split<;>simp_all
    rw[E,cell_of_row w g j cur e (0,0) N];rw[<-A,getElem?_take]at k;split at k
    .simpa using k
    .cases k
   have o:=growslice_fits (need:=rs.length+b.size) (old:=s.cap) (bytes:=1) Om Om
   have n:=bg.qp (w:=w) (e:=e) (sz:=1) (rs:=rs++dn b.data.toList) l (cur:=rs.flatten.toArray++b.data.map fun x=>Value.int .u8 (x.toNat:Int)) (by rw[H]) (by simp[<-J]) (cap:=grownCap w (rs.length+b.size) s.cap e) (by rw[length_append,d];exact grownCap_ge w _ s.cap e) (grownCap_le_maxLen w _ _ e hm)
   have c:(Builtin.append_ #[t,u] ty #[s.v,.string b]).run P w=.ok (.slice (some ⟨w.heap.size,0,none⟩) (rs.length+b.size)<|grownCap w (rs.length+b.size) s.cap e) (w.drew.alloc<|.cells (rs.flatten.toArray++b.data.map (fun x=>Value.int .u8 (x.toNat:Int))++Builtin.zeroCells z.cells (grownCap w (rs.length+b.size) s.cap e-(rs.length+b.size))) e):=by
    rw[F];have Z:¬(rs.length+b.size<=s.cap):=Om;have D:¬(9223372036854775807<((rs.length:Int)+(b.size:Int))):=Om;have I:¬(281474976710656<Builtin.nextslicecap (rs.length+b.size) s.cap*i.bytes):=by rw[G];omega
    have C:=run_firstCells_some (P:=P) w.drew i.size rs.length ⟨g,0,none⟩ rs.length s.cap rs.flatten (by rw[y];exact S) (by simpa using r);have B:=Pw (P:=P) (w:=w.drew) b;rw[y]at C;simp[Builtin.append_,run_underlying T.ht,run_underlying k,sizeOf,typeInfo,zeroValue,hi,U,Builtin.lenOf,Z,D,I,Question.forced,B,C,newRow,grownCap,y]
    try (congr 2;apply Array.ext';simp[append_assoc])
   rw[length_append,d]at n
   exact⟨⟨some ⟨w.heap.size,0,none⟩,rs.length+b.size,grownCap w (rs.length+b.size) s.cap e⟩,_,c,n,⟨rfl,rfl,rfl,Fe,Sm,fun b f _=>Cd w.drew _ b f⟩,fun b f=>by obtain⟨a,p,rfl⟩:=f;cases p;right;exact Nat.le_refl _⟩
end
section
variable {P:Program} {w:World} {t:TypeId}
set_option maxRecDepth 4000 in
def jaY:∀m:Fin 256,m.val |||128=m.val%128+128:=De
def Y9(n:Nat):(Go.binOp .or t (.int .u8<|IntKind.u8.wrap (n:Int))<|.int .u8 128).run P w=.ok (.int .u8 ((UInt8.ofNat<|n%128+128).toNat:Int)) w:=by
 have h:IntKind.u8.wrap ((BitVec.ofInt IntKind.u8.bits (IntKind.u8.wrap (n:Int)) |||BitVec.ofInt IntKind.u8.bits 128).toNat:Int)=((UInt8.ofNat<|n%128+128).toNat:Int):=by
  have b:(BitVec.ofInt IntKind.u8.bits<|IntKind.u8.wrap (n:Int)).toNat=n%256:=by
   rw[wz,UInt8.toNat_ofNat',BitVec.toNat_ofInt];simp[IntKind.bits];omega
  have a:(BitVec.ofInt IntKind.u8.bits 128).toNat=128:=De;rw[BitVec.toNat_or,b,a,jaY ⟨n%256,Nat.mod_lt _ Om⟩,wz];simp only[UInt8.toNat_ofNat'];omega
 show((pure (Value.int .u8 _):Sem Value)).run P w=_;rw[h];rfl
def zDB(n:Nat):(Go.binOp .shr t (.int .u64 (n:Int))<|.int .u64 7).run P w=.ok (.int .u64 ((n/128:Nat):Int)) w:=by
 simp[Go.binOp,go_sem,IntKind.bits]
def Vk(n:Nat)(h:n<18446744073709551616):(Go.binOp .quo t (.int .u64 (n:Int))<|.int .u64 128).run P w=.ok (.int .u64 ((n/128:Nat):Int)) w:=by
 have:IntKind.u64.wrap ((n:Int).tdiv 128)=((n/128:Nat):Int):=by
  rw[Int.tdiv_eq_ediv_of_nonneg Om];simp only[IntKind.wrap,IntKind.bits,IntKind.signed];simp;omega
 show((pure (Value.int .u64<|IntKind.u64.wrap<|(n:Int).tdiv 128):Sem Value)).run P w=_;rw[this];rfl
def YF(n:Nat):(Go.binOp .rem t (.int .u64 (n:Int))<|.int .u64 128).run P w=.ok (.int .u64 ((n%128:Nat):Int)) w:=by
 have:(n:Int).tmod 128=((n%128:Nat):Int):=Gd;simp[Go.binOp,Op.intDiv,this]
def VH(c:Nat)(h:c<256):(Go.binOp .and t (.int .u8 (c:Int))<|.int .u8 127).run P w=.ok (.int .u8 ((c%128:Nat):Int)) w:=by
 have hr:IntKind.u8.wrap ((BitVec.ofInt IntKind.u8.bits (c:Int) &&& BitVec.ofInt IntKind.u8.bits 127).toNat:Int)=((c%128:Nat):Int):=by
  have b:(BitVec.ofInt IntKind.u8.bits (c:Int)).toNat=c:=by
   rw[BitVec.toNat_ofInt];simp[IntKind.bits];omega
  have a:(BitVec.ofInt IntKind.u8.bits 127).toNat=2^7-1:=De;rw[BitVec.toNat_and,b,a,Nat.and_two_pow_sub_one_eq_mod,wz];simp only[UInt8.toNat_ofNat'];omega
 show((pure (Value.int .u8 _):Sem Value)).run P w=_;rw[hr];rfl
def qD{n:Nat}(h:n<18446744073709551616):IntKind.u64.wrap (n:Int)=(n:Int):=by
 simp[IntKind.wrap,IntKind.bits,IntKind.signed];omega
def Vn(x k:Nat)(b:k<64)(h:x*2^k<18446744073709551616):(Go.binOp .shl t (.int .u64 (x:Int))<|.int .i64 (k:Int)).run P w=.ok (.int .u64 ((x*2^k:Nat):Int)) w:=by
 have hr:IntKind.u64.wrap ((x:Int)*2^min (k:Int).toNat IntKind.u64.bits)=((x*2^k:Nat):Int):=by
  have:min (k:Int).toNat IntKind.u64.bits=k:=by simp[IntKind.bits];omega
  rw[this,<-qD h];simp
 have a:¬((k:Int)<0):=Om;show(Op.shift .shl .u64 (x:Int) .i64 (k:Int)).run P w=_;unfold Op.shift;rw[if_neg a];show((pure (Value.int .u64<|IntKind.u64.wrap<|(x:Int)*2^min (k:Int).toNat IntKind.u64.bits):Sem Value)).run P w=_;rw[hr];rfl
def SL(x y:Nat)(a:x<18446744073709551616)(b:y<18446744073709551616):(Go.binOp .or t (.int .u64 (x:Int))<|.int .u64 (y:Int)).run P w=.ok (.int .u64 ((x |||y:Nat):Int)) w:=by
 have hr:IntKind.u64.wrap ((BitVec.ofInt IntKind.u64.bits (x:Int) |||BitVec.ofInt IntKind.u64.bits (y:Int)).toNat:Int)=((x |||y:Nat):Int):=by
  have e (z:Nat) (c:z<18446744073709551616):(BitVec.ofInt IntKind.u64.bits (z:Int)).toNat=z:=by
   rw[BitVec.toNat_ofInt];simp[IntKind.bits];omega
  rw[BitVec.toNat_or,e x a,e y b,qD<|Nat.or_lt_two_pow (n:=64) a b]
 show((pure (Value.int .u64 _):Sem Value)).run P w=_;rw[hr];rfl
def LC{x y k}(h:x<2^k):x |||(y*2^k)=x+y*2^k:=by
 have:=Nat.shiftLeft_add_eq_or_of_lt h y;rw[Nat.shiftLeft_eq]at this;rw[Nat.or_comm,<-this,Nat.add_comm]
end
def dr.sub{P t e sz bytes S}(T:km P t e sz bytes){w s rs}(h:dr S w sz s rs)(b:s.len<=s.cap){k lo n}(g:lo+n<=rs.length):
  ∃s':Sl,(Instr.sliceAt t s.v (some<|.int k (lo:Int)) (some<|.int k ((lo+n:Nat):Int)) none).run P w=.ok s'.v w/\dr S w sz s' ((rs.drop lo).take n):=by
 have h1:((lo+n:Nat):Int)<=(s.cap:Int):=by rw[h.len]at b;omega
 have h2:(lo:Int)<=((lo+n:Nat):Int):=Om
 refine⟨⟨if s.cap=lo then s.a else s.a.map (·.add<|lo*sz),n,s.cap-lo⟩,?_,⟨So,fun i hi=>?_⟩⟩
 simp[Instr.sliceAt,Instr.slice,Sl.v,run_underlying T.ht,Instr.sliceBounds,Instr.sliceBound,asIntOf,T.sizeOf]
 rw[if_pos Om,if_pos Om,show((lo:Int)+(n:Int)).toNat-lo=n by omega]
 have c:lo+i<rs.length:=by simp at hi;omega
 obtain⟨a,⟨_,d,p,f,rfl⟩,hS,hr⟩:=h.at_ (lo+i) c
 refine⟨_,⟨Om,by simp at hi|-;omega,p.add<|lo*sz,?_,rfl⟩,?_,?_⟩
 grind
 simpa[zC]using hS
 have:(p.add<|lo*sz).add ((i:Int).toNat*sz)=p.add (((lo+i:Nat):Int).toNat*sz):=by
  rw[yO,Int.toNat_natCast,Int.toNat_natCast,Nat.add_mul]
 rw[this,getElem_take,getElem_drop];exact hr
end Go.SE
end
section
open Nat
namespace Go.Proofs
def vF(n:Nat):List UInt8:=if h:n<128 then[UInt8.ofNat n]else UInt8.ofNat (n%128+128) ::vF (n/128)
def tB{n}(h:n<128):vF n=[UInt8.ofNat n]:=by rw[vF,dif_pos h]
def Ao{n}(h:128<=n):vF n=UInt8.ofNat (n%128+128) ::vF (n/128):=by rw[vF,dif_neg Om]
def jWH(k):∀n,n<128^(k+1)->(vF n).length<=k+1:=by
 induction k with
 |zero=>intro n h;rw[tB<|by simpa using h];simp
 |succ k a =>
  intro n h
  by_cases h1:n<128
  rw[tB h1];simp
  rw[Ao Om,List.length_cons]
  have:=a (n/128) Gd
  omega
def vT{n}(h:n<18446744073709551616):(vF n).length<=10:=jWH 9 n Om
def vU(s:ByteArray):List UInt8:=vF s.size++s.data.toList
def xS:Nat->Nat->List UInt8->Except Nat (Nat×Nat)
 |_,_,[]=>.error 3
 |i,n,c :: l =>
  if i=9/\1<c.toNat then .error 11
  else if c.toNat<128 then(if c.toNat=0/\0<i then .error 10 else .ok (n+c.toNat*128^i,i+1))
  else xS (i+1) (n+c.toNat%128*128^i) l
def xR(i n c l):xS i n (c :: l)=(if i=9/\1<c.toNat then .error 11
  else if c.toNat<128 then(if c.toNat=0/\0<i then .error 10 else .ok (n+c.toNat*128^i,i+1))
  else xS (i+1) (n+c.toNat%128*128^i) l):=rfl
structure Rd where
 at_:Nat
 cq:Nat
 spot:Nat
def vY(bs:List UInt8)(r:Rd):Nat×Rd:=
 if r.cq=0 then match xS 0 0 (bs.drop r.at_)with
  |.ok (n,k)=>(n,⟨r.at_+k,0,r.spot⟩)
  |.error x=>(0,⟨r.at_,x,r.at_⟩)
 else(0,r)
def xM(bs:List UInt8)(r:Rd):Nat×Rd:=
 if r.cq=0 then(if h:r.at_<bs.length then(bs[r.at_].toNat,⟨r.at_+1,0,r.spot⟩)else(0,⟨r.at_,3,r.at_⟩))
 else(0,r)
def qH(bs:List UInt8)(a:Nat)(r:Rd):List UInt8×Rd:=
 if r.cq=0 then match xS 0 0 (bs.drop r.at_)with
  |.ok (n,k)=>if a<n then([],⟨r.at_,1,r.at_⟩)else if bs.length<r.at_+k+n then([],⟨r.at_,3,r.at_⟩)else((bs.drop<|r.at_+k).take n,⟨r.at_+k+n,0,r.spot⟩)
  |.error x=>([],⟨r.at_,x,r.at_⟩)
 else([],r)
end Go.Proofs
end
section
open Go Go.SE List
namespace Go.Proofs
open Tryz
attribute [local irreducible] Calls
def uk:km prog 59 5 1 1:=by
 refine⟨underlying59,⟨t5,_,Kf,(by kernel_rfl:t5.zero=some (.int .u8 0)),Kf,Kf,rfl⟩,Om⟩
def Mb{S:NP}(s:Sl)(bs:List UInt8)(c:World)(hs:dr S c 1 s (dn bs))(l:s.a=none->s=Sl.nil)(u:bs.length<=100000000000):
  cl 271 #[s.v] c<|XA fun r w'=>fv c 5 1 (dn bs) r w':=by
 refine WD _ c _ ?_
 refine⟨s.a.isNone,?_,fun h=>?_,fun h=>?_⟩
 exact KB c s.a s.len s.cap underlying59
 have f:=l<|Option.isNone_iff_eq_none.1 h
 subst f
 have:bs=[]:=by have:=hs.len;rw[qC]at this;exact length_eq_zero_iff.1 this.symm
 subst this
 exact⟨bg.nil _ _ _,fun b d=>(by have⟨a,j,_⟩:=d;cases j),ab.refl _⟩
 intro n o h1
 have i:Pure c o:=ab.ax h1
 have⟨k,q,hr,m,p,d⟩:=(bg.empty (sz:=1) h1).AM (P:=prog) (ty:=59) uk (hs.pure i) (zv _) (Gw _) (by rw[qC];simp;omega) (by rw[qC];simp[maxLen];omega)
 have t:=h1.cu
 have g:∀b,(Sl.mk (some n) 0 0).aq b->c.heap.size<=b:=fun b d=>(by have⟨a,j,e⟩:=d;cases j;omega)
 exact⟨k,q,hr,by simpa using m,fun b h=>(d b h).elim (g b) fun h=>Oh i.size,i.cg p Gd⟩
def fv.put{w0 w w1 s bs x p}(h:fv w0 5 1 (dn bs) s w)(f:av w (.cells #[.int .u8 (x.toNat:Int)] 5) p w1)(l:bs.length<=100000000000):
  ∃s' w',(Builtin.append_ #[59,59] 59 #[s.v,(Sl.mk (some p) 1 1).v]).run prog w1=.ok s'.v w'/\fv w0 5 1 (dn<|bs++[x]) s' w':=by
 have e:Pure w w1:=ab.ax f
 have a:Row w1 p [.int .u8 (x.toNat:Int)]:=(ai.fp f).row
 have⟨s',w',hr,g,k,j⟩:=(h.cm.pure e).append (ty:=59) (c:=1) uk a rfl rfl (by rw[qC];omega) (by rw[qC];simp[maxLen];omega)
 have h1:=(h.pure.trans e)
 exact⟨s',w',hr,by rw[CT];exact g,fun b d=>(j b d).elim (h.ak b) fun h2=>Oh h1.size,h1.cg k fun i hi h2=>Oh<|h.ak i h2⟩
def fv.bb{c w:World}{s:Sl}{bs:List UInt8}{x:ByteArray}(h:fv c 5 1 (dn<|bs++vF x.size) s w)(k:bs.length<=10000000000)(g:x.size<=10000000000):
  ∃s' w',(Builtin.append_ #[59,9] 59 #[s.v,vs x]).run prog w=.ok s'.v w'/\fv c 5 1 (dn<|bs++vU x) s' w':=by
 have j:=vT (n:=x.size) Om
 have⟨s',w',hr,d,f,e⟩:=h.cm.VP (ty:=59) uk underlying9 x (by rw[qC,length_append];omega) (by rw[qC,length_append];simp[maxLen];omega)
 refine⟨s',w',hr,?_,fun b a=>(e b a).elim (h.ak b) fun h2=>Oh h.pure.size,h.pure.cg f fun i hi h2=>Oh<|h.ak i h2⟩
 rw[vU,<-append_assoc,CT];exact d
def zy{S}(s bs)(n:Nat)(w0)(hs:dr S w0 1 s (dn bs))(j:s.a=none->s=Sl.nil)(p:bs.length<=10000000000)(e:n<18446744073709551616):
  cl 250 #[s.v,vu (n:Int)] w0<|XA fun r w'=>fv w0 5 1 (dn<|bs++vF n) r w':=by
 refine jbD _ _ w0 _ ?_
 refine(Mb s bs w0 hs j Om).mono ?_
 rintro _ o ⟨r1,rfl,h1⟩
 refine⟨r1,rfl,fun b m w=>∃k:Nat,∃xs:List UInt8,m=(k:Int)/\k<18446744073709551616/\xs++vF k=bs++vF n/\fv w0 5 1 (dn xs) b w,fun _ m _=>m.toNat,⟨n,bs,rfl,e,rfl,h1⟩,?_⟩
 rintro b _ w ⟨k,xs,rfl,q,d,f⟩
 have g:xs.length<=10000000010:=by
  have:=congrArg List.length d;have:=vT e;simp only[length_append]at *;omega
 refine⟨fun h=>?_,fun h=>?_⟩
 have h:=of_decide_eq_true h
 refine⟨_,Y9 k,fun l i h2=>?_⟩
 have⟨s',w',hr,c⟩:=f.put h2 Om
 refine⟨s',w',hr,_,zDB k,⟨k/128,xs++[UInt8.ofNat<|k%128+128],rfl,Om,?_,c⟩,by show(((k/128:Nat):Int)).toNat<((k:Int)).toNat;omega⟩
 rw[<-d,Ao (n:=k) Om];simp
 have h:=of_decide_eq_false h
 intro l i h2
 rw[wz]at h2
 have⟨s',w',hr,c⟩:=f.put h2 Om
 refine⟨s',w',hr,?_⟩
 rw[<-d,tB (n:=k) Om];exact c
def yx{S}(s bs)(n:Nat)(w0)(hs:dr S w0 1 s (dn bs))(D:bs.length<=10000000000)(t:n<18446744073709551616):
  cl 214 #[s.v,vu (n:Int)] w0<|XA fun r w'=>fv w0 5 1 (dn<|bs++vF n) r w':=by
 refine jbK _ _ w0 _ ?_
 intro x y h1
 have l:Pure w0 y:=ab.ax h1
 have⟨p,f,hr,d,A,o⟩:=(bg.empty (sz:=1) h1).AM (P:=prog) (ty:=59) uk (hs.pure l) (zv _) (Gw _) (by rw[qC];simp;omega) (by rw[qC];simp[maxLen];omega)
 have C:=h1.cu
 have g:∀b,(Sl.mk (some x) 0 0).aq b->w0.heap.size<=b:=fun b o=>(by have⟨a,B,e⟩:=o;cases B;omega)
 have j:fv w0 5 1 (dn bs) p f:=⟨by simpa using d,fun b h=>(o b h).elim (g b) fun h=>Oh l.size,l.cg A Gd⟩
 refine⟨p,f,hr,fun m b w=>∃k:Nat,∃xs:List UInt8,m=(k:Int)/\k<18446744073709551616/\xs++vF k=bs++vF n/\fv w0 5 1 (dn xs) b w,fun m _ _=>m.toNat,⟨n,bs,rfl,t,rfl,j⟩,?_⟩
 rintro _ b w ⟨k,xs,rfl,z,i,d⟩
 have q:xs.length<=10000000010:=by
  have:=congrArg List.length i;have:=vT t;simp only[length_append]at *;omega
 refine⟨fun h=>?_,fun h=>?_⟩
 have h:=of_decide_eq_true h
 refine⟨_,YF k,fun u f h2=>?_⟩
 rw[show IntKind.u64.wrap (((k%128:Nat):Int)+128)=((k%128+128:Nat):Int) by simp[IntKind.wrap,IntKind.bits,IntKind.signed];omega,wz]at h2
 have⟨s',w',hr,c⟩:=d.put h2 Om
 refine⟨s',w',hr,_,Vk k z,⟨k/128,xs++[UInt8.ofNat<|k%128+128],rfl,Om,?_,c⟩,by show(((k/128:Nat):Int)).toNat<((k:Int)).toNat;omega⟩
 rw[<-i,Ao (n:=k) Om];simp
 have h:=of_decide_eq_false h
 intro u f h2
 rw[wz]at h2
 have⟨s',w',hr,c⟩:=d.put h2 Om
 refine⟨s',w',hr,?_⟩
 rw[<-i,tB (n:=k) Om];exact c
def U1{S}(s bs x w0)(hs:dr S w0 1 s (dn bs))(c:s.a=none->s=Sl.nil)(b:bs.length<=10000000000)(d:x.size<=10000000000):
  cl 258 #[s.v,vs x] w0<|XA fun r w'=>fv w0 5 1 (dn<|bs++vU x) r w':=by
 refine Tb _ _ w0 _ ?_
 unfold PZ
 rw[show IntKind.u64.wrap (x.size:Int)=(x.size:Int) by simp[IntKind.wrap,IntKind.bits,IntKind.signed];omega]
 refine(zy s bs x.size w0 hs c b Om).mono ?_
 rintro _ e ⟨r1,rfl,h1⟩
 exact⟨r1,rfl,h1.bb b d⟩
def jXU{S}(s bs x w0)(hs:dr S w0 1 s (dn bs))(a:bs.length<=10000000000)(b:x.size<=10000000000):
  cl 215 #[s.v,vs x] w0<|XA fun r w'=>fv w0 5 1 (dn<|bs++vU x) r w':=by
 refine Zo _ _ w0 _ ?_
 unfold Pu
 rw[show IntKind.u64.wrap (x.size:Int)=(x.size:Int) by simp[IntKind.wrap,IntKind.bits,IntKind.signed];omega]
 refine(yx s bs x.size w0 hs a Om).mono ?_
 rintro _ c ⟨r1,rfl,h1⟩
 exact⟨r1,rfl,h1.bb a b⟩
end Go.Proofs
end
section
namespace Go.SE
section
variable {P:Program} {n:Nat} {ρ:bh} {w:World} {ds:List Deferred} {Q:Exit->Act->World->Prop} {a:Act}
def Ip{c1 c2}(f:gn ds n ρ a)(h:dv (x:=⟨none,ds⟩) P n c1 (fun e d w'=>match e with|.normal=>∀b,gn ds n d b->c2.wp P Q b w'|.panic ch=>∀b,gn ds n d b->Q (.panic ch) b w'|_=>False) ρ w):(Code.seq c1 c2).wp P Q a w:=by
 refine wp_seq<|wpIn_wide.1<|wpIn_mono (h a f) ?_;rintro e b w' ⟨d,⟨hr,c⟩|⟨rfl,_,_,D,hr,g,c⟩⟩
 .cases e<;>first|exact c.elim|exact c _ hr
 .exact c.elim
def OD{c}(g:gn ds n ρ a)(h:dv (x:=⟨none,ds⟩) P n c (fun e d w'=>match e with|.normal=>∀b,gn ds n d b->Q .normal b w'|.panic ch=>∀b,gn ds n d b->Q (.panic ch) b w'|_=>False) ρ w):c.wp P Q a w:=by
 refine wpIn_wide.1<|wpIn_mono (h a g) ?_;rintro e b w' ⟨d,⟨hr,f⟩|⟨rfl,_,_,D,hr,i,f⟩⟩;grind;exact f.elim
def Uf{id t f}{caps:Array Operand}{ty ty'}{pos c:String}{aft b:Array Edge}{c2}(e:gn ds n ρ a)(ht:t<n)(h:∀g,gn (⟨.fn (.func f)<|caps.map<|bw ρ,#[]⟩ :: ds) n (put ρ (some t)<|.func (.func f) #[]<|caps.map<|bw ρ) g->c2.wp P Q g w):
  (Code.seq (.region id #[⟨some t,.makeFunc (.func f) #[] caps,ty,pos,aft,none⟩,⟨none,.defer ⟨.value<|.tmp t,#[],#[]⟩,ty',c,b,none⟩] false) c2).wp P Q a w:=by
 have h1:gn ds n (put ρ (some t)<|.func (.func f) #[]<|caps.map<|bw ρ) (a.put (some t)<|.func (.func f) #[]<|caps.map<|bw ρ):=e.put Gd _
 have h2:=h ({ (a.put (some t)<|.func (.func f) #[]<|caps.map<|bw ρ)with defers:=⟨.fn (.func f)<|caps.map<|bw ρ,#[]⟩ ::ds }.put none undef) ⟨rfl,h1.size,h1.get⟩
 refine wp_seq<|(wpIn_wide (n:=0)).1<|wpIn_region_lit (l:=[_,_]) ?_
 unfold wpListIn
 rw[if_pos<|by simp[Region.wanted]]
 refine JB (ro:=none) ⟨Sm,?_⟩
 rw[e.eval]
 simp only[execOp,Instr.makeFunc]
 show wpListIn _ 0 P _ _ _ _ _
 unfold wpListIn
 rw[if_pos<|by simp[Region.wanted]]
 refine⟨fun f _=>trivial,?_⟩
 have d:(a.put (some t)<|.func (.func f) #[]<|caps.map<|bw ρ).eval (.tmp t)=.func (.func f) #[] (caps.map<|bw ρ):=by
  rw[h1.eval];simp[bw,put,rK]
 have i:=h1.defers
 simp[Oper.semAt,Fence.wide,execOp,resolve,d,Deferred.ofValue,Oper.uponIn,wpListIn,Exit.then,i]
 exact h2
def VT{f fn c args R}(d:P.funcs[f]?=some fn)(e:fn.body=some c)(b:fn.ntmps=n)(g:args.length<=n)(h:∀a,gn [] n (xD args) a->c.wp P (bodyPostD P fn R) a w):Calls P f args.toArray w R:=by
 subst b;exact calls_of_wp_defers d e<|h _<|Eo args g
inductive IW:FrameMode->Value->FrameMode->Prop
 |KZ:IW .returning .nilIface .returning
 |ie (v:Value) (a:List PanicEntry):IW (.panicking ({ v:=v,recovered:=false } :: a)) v (.panicking ({ v:=v,recovered:=true } :: a))
def jcZ(P:Program)(fn:Func)(n:Nat)(R:Ending->World->Prop):Exit->bh->World->Prop
 |.normal,ρ,w=>∃v,(∀ds a,gn ds n ρ a->(results fn a.tmps).run P w=.ok v w)/\R (.returned v) w
 |.panic b,_,w=>R (.panicked b) w
 |_,_,_=>False
def Nt{id t t2:Nat}{f:FuncId}{fn:Func}{c:Code}{args:List Value}{v:Value}{u u':FrameMode}{R:Ending->World->Prop}{ty ty':TypeId}{pos pos':String}{aft aft':Array Edge}(hu:IW u v u')(hf:P.funcs[f]?=some fn)(hb:fn.body=some (Code.seq (.region id #[⟨some t,.call ⟨.builtin .recover,#[],#[]⟩,ty,pos,aft,none⟩,⟨some t2,.assign<|.tmp t,ty',pos',aft',none⟩] false) c))(hn:fn.ntmps=n)(hl:args.length<=n)(ht:t<n)(ht2:t2<n)(h:dv (x:=⟨none,[]⟩) P n c (jcZ P fn n R) (put (put (xD args) (some t) v) (some t2) v) w):
  CallsD P f args.toArray u w<|fun e u1 w'=>u1=u'/\R e w':=by
 subst hn
 refine callsD_of_wpS hf hb fun c₀ cs hm=>?_
 apply wpS_seq
 apply wpS_region
 have hr:=Eo args hl
 have h1:gn [] fn.ntmps (put (xD args) (some t) v) _:=hr.put (d:=some t) Gd v
 have h2:gn [] fn.ntmps (put (put (xD args) (some t) v) (some t2) v) _:=h1.put (d:=some t2) Gd v
 have hv:((Act.mk (args.toArray++Array.replicate (fn.ntmps-args.toArray.size) undef) []).put (some t) v).eval (.tmp t)=v:=by
  rw[h1.eval];simp[bw,put,rK]
 have key:∀cs',cs'={ c₀ with mode:=u' } ::cs->c.wpS P (bodyPostS P fn c₀ cs fun e u1 w'=>u1=u'/\R e w') ((((Act.mk (args.toArray++Array.replicate (fn.ntmps-args.toArray.size) undef) []).put (some t) v)).put (some t2) v) cs' w:=by
  rintro cs' rfl;refine wpS_of_wp<|OD h2<|Aq ?_ h;intro e ρ' w' hq;cases e with
  |normal =>
   intro a' ha'
   have⟨x,hx,hR⟩:=hq
   exact⟨ha'.defers,u',rfl,x,hx _ a' ha',rfl,hR⟩
  |panic ch =>
   intro a' ha'
   exact⟨ha'.defers,u',rfl,rfl,hq⟩
  |_=>exact hq.elim
 have h0:(execOp (Act.mk (args.toArray++Array.replicate (fn.ntmps-args.toArray.size) undef) []).eval ⟨some t,.call ⟨.builtin .recover,#[],#[]⟩,ty,pos,aft,none⟩).run P w=.ok .recover w:=by
  simp[execOp,resolve,invoke,builtin]
 show wpOpsS P _ _ [0,1] _ _ _
 cases hu with
 |KZ =>
  have hrd:recoverD (c₀ ::cs)=none:=by simp[recoverD,hm]
  simp only[wpOpsS,List.getElem?_toArray,List.getElem?_cons_zero,List.getElem?_cons_succ]
  rw[if_pos<|by simp[Region.wanted],h0]
  simp only[hrd]
  rw[if_pos<|by simp[Region.wanted]]
  simp only[execOp,hv,Oper.upon]
  exact key _ (by cases c₀;simp_all)
 |ie v older =>
  have hrd:recoverD (c₀ ::cs)=some (v,{ c₀ with mode:=.panicking ({ v:=v,recovered:=true } ::older) } ::cs):=by simp[recoverD,hm]
  simp only[wpOpsS,List.getElem?_toArray,List.getElem?_cons_zero,List.getElem?_cons_succ]
  rw[if_pos<|by simp[Region.wanted],h0]
  simp only[hrd]
  rw[if_pos<|by simp[Region.wanted]]
  simp only[execOp,hv,Oper.upon]
  exact key _ rfl
end
section
variable {P:Program} {x:Cx} {n:Nat} {Q:Exit->bh->World->Prop} {ρ:bh} {w:World}
end
end Go.SE
end
section
open Go Go.SE List
namespace Go.Proofs
open Tryz
attribute [local irreducible] Calls CallsD
def SX{P}{ε:Operand->Value}{w}{d:Option Tmp}{ty}{pos:String}{aft:Array Edge}{g:Option (Nat×Bool)}{x X T v}{a:TypeDesc}(b:ε x=.iface T v)(ht:P.underlying T=some a)(hi:∀m,a≠.interface m):
  (execOp ε ⟨d,.typeAssert x X T true,ty,pos,aft,g⟩).run P w=.ok (.value<|.tuple #[v,vb true]) w:=by
 simp only[execOp,b]
 have:(Instr.typeAssert (.iface T v) X T true).run P w=.ok (.tuple #[v,vb true]) w:=by
  unfold Instr.typeAssert;simp only[Sem.run_bind,run_underlying ht,Result.andThen];cases a<;>first|exact absurd rfl (hi _)|simp
 simp[this]
set_option maxRecDepth 100000 in
def QS(d c:Addr)(w:World):CallsD prog 308 #[vp<|some d,vp<|some c] .returning w (fun e f w'=>f=.returning/\(e=.returned (.tuple #[])/\w'=w)):=by
 refine Nt (args:=[vp<|some d,vp<|some c]) (R:=fun e w'=>e=.returned (.tuple #[])/\w'=w) .KZ func308 rfl ntmps308 (Nat.le_of_ble_eq_true rfl) De De ?_;refine zK ?_;refine rg ?_;refine q0 .nilIface ?_;refine q0 (vb false) ?_;refine vI ?_;refine uH ?_;refine Ak (t:=false) Kf (fun b=>by cases b) fun b=>?_;refine zY ?_;exact⟨.tuple #[],fun ds a g=>by rw[results_none results308],rfl,rfl⟩
set_option maxRecDepth 100000 in
def Ry(g f r:Addr)(b e:Int)(c:List PanicEntry)(w:World)(i:w.cell? g=some (vi b))(hr:w.cell? f=some (vp<|some r))(h1:zL w (r.add 1))(h2:zL w (r.add 2))(h3:zL w (r.add 3)):
  CallsD prog 308 #[vp<|some g,vp<|some f] (.panicking ({ v:=.iface 334<|vi e,recovered:=false } ::c)) w (fun h j w'=>j=.panicking ({ v:=.iface 334<|vi e,recovered:=true } ::c) /\
   (h=.returned (.tuple #[])/\w'=((w.setCell (r.add 1)<|vi b).setCell (r.add 2)<|vi e).setCell (r.add 3) (vi b))):=by
 refine Nt (args:=[vp<|some g,vp<|some f]) (R:=fun h w'=>h=.returned (.tuple #[])/\w'=((w.setCell (r.add 1)<|vi b).setCell (r.add 2)<|vi e).setCell (r.add 3) (vi b)) (.ie _ c) func308 rfl ntmps308 (Nat.le_of_ble_eq_true rfl) De De ?_
 refine zK ?_
 refine rg ?_
 refine q0 (.iface 334<|vi e) ?_
 refine q0 (vb true) ?_
 refine vI ?_
 refine uH ?_
 refine Ak (t:=true) Kf (fun d=>?_) (fun d=>by cases d)
 refine zK ?_
 refine rg ?_
 refine q0 (.iface 334<|vi e) ?_
 refine q2 (.tuple #[vi e,vb true]) (SX Kf underlying334 (by intro m;simp)) ?_
 refine q0 (.tuple #[vi e,vb true]) ?_
 refine q0 (vi e) ?_
 refine q0 (vb true) ?_
 refine q0 (vi e) ?_
 refine q0 (vb true) ?_
 refine vI ?_
 refine uH ?_
 refine zK ?_
 refine zK ?_
 refine rg ?_
 refine q0 (vb true) ?_
 refine q0 (vb false) ?_
 refine vI ?_
 refine uH ?_
 refine Ak (t:=false) Kf (fun d=>by cases d) fun d=>?_
 refine zY ?_
 refine uH ?_
 refine rg ?_
 refine q2 (vp<|some r) (tA (a:=f) Kf (isAgg272 _) hr) ?_
 refine q2 (vp<|some r) (tA (a:=f) Kf (isAgg272 _) hr) ?_
 refine q2 (vp<|some r) (tA (a:=f) Kf (isAgg272 _) hr) ?_
 refine q2 (vi b) (tA (a:=g) Kf (isAgg3 _) i) ?_
 refine q0 (vi e) ?_
 refine q2 (vi b) (tA (a:=g) Kf (isAgg3 _) i) ?_
 refine q0 (vp<|some r) ?_
 refine q0 (vp<|some<|r.add 1) ?_
 refine yg (qE rfl) (uf (a:=r.add 1) (v:=vi b) Kf Kf rfl (sizeOf3 _) h1) ?_
 rintro k rfl
 refine q0 (vp<|some r) ?_
 refine q0 (vp<|some<|r.add 2) ?_
 refine yg (qE rfl) (uf (a:=r.add 2) (v:=vi e) Kf Kf rfl (sizeOf54 _) (zL.setCell h2)) ?_
 rintro o rfl
 refine q0 (vp<|some r) ?_
 refine q0 (vp<|some<|r.add 3) ?_
 refine yg (qE rfl) (uf (a:=r.add 3) (v:=vi b) Kf Kf rfl (sizeOf3 _) (zL.setCell<|zL.setCell h3)) ?_
 rintro n rfl
 refine vI ?_
 exact⟨.tuple #[],fun ds a l=>by rw[results_none results308],rfl,rfl⟩
def K6{P w f cap args}(a:∀args w,(callFunc f args).run P w=.ok (.enter f args) w)(h:cap=args):(invoke (.fn (.func f) cap) #[]).run P w=.ok (.enter f args) w:=by
 subst h;simp[invoke,a]
set_option maxRecDepth 100000 in
def HD(r:Addr)(d:Value)(e:Int)(g:World)(l:g.cell? (r.add 2)=some (vi e))(m:e≠0):
  cl 290 #[vp<|some r,d] g<|fun e w'=>e=.returned (.tuple #[])/\Pure g w':=by
 refine H0 (args:=[vp<|some r,d]) func290 rfl ntmps290 (Nat.le_of_ble_eq_true rfl) ?_
 refine zK ?_
 refine rg ?_
 refine xP (O:=(.cells #[(vp<|some r)] 272)) (fun p=>vp<|some p) (qE rfl) (IT (cs:=#[(vp<|some r)]) Kf) ?_
 intro h k f
 have j:Pure g k:=ab.ax f
 have b:k.cell? h=some (vp<|some r):=(ai.fp f).bf
 have i:=j.cell l id
 refine vI ?_
 refine uH ?_
 refine zK ?_
 refine zK ?_
 refine rg ?_
 refine q2 (vp<|some r) (tA (a:=h) Kf (isAgg272 _) b) ?_
 refine q2 (vb false) (EU (x:=some r) Kf rfl underlying272) ?_
 refine q0 (vb false) ?_
 refine q2 (vp<|some r) (tA (a:=h) Kf (isAgg272 _) b) ?_
 refine q0 (vp<|some r) ?_
 refine q0 (vp<|some<|r.add 2) ?_
 refine q2 (vi e) (tA (a:=r.add 2) Kf (isAgg54 _) i) ?_
 refine q0 (vb<|(e:Int) !=0) ?_
 refine q0 (vb<|(e:Int) !=0) ?_
 refine vI ?_
 refine uH ?_
 refine Ak (t:=true) (by rw[show((e:Int) !=0)=true by simpa using m];kernel_rfl) (fun c=>?_) (fun c=>by cases c)
 refine Fv ?_
 refine l0 ?_
 exact wo (.inl rfl) results290 ⟨rfl,j⟩
set_option maxRecDepth 100000 in
def Hr(r:Addr)(o:FuncId)(caps:Array Value)(at_:Int)(j:World)(K:WP)(h1:j.cell? (r.add 1)=some (vi at_))(h2:j.cell? (r.add 2)=some (vi 0))(D:∀args w,(callFunc o args).run prog w=.ok (.enter o args) w)(rW:∀l p B,Pure j l->j.heap.size<=Addr.block p->j.heap.size<=Addr.block B->l.cell? p=some (vp (some r))->l.cell? B=some (vi at_) ->
   Calls prog o caps l (fun e k=>(e=.returned (.tuple #[])/\K k)\/∃x,e=.panicked [{ v:=.iface 334 (vi x),recovered:=false }]/\k.cell? p=some (vp (some r))/\k.cell? B=some (vi at_)/\zL k (r.add 1)/\zL k (r.add 2)/\zL k (r.add 3) /\
    K (((k.setCell (r.add 1) (vi at_)).setCell (r.add 2) (vi x)).setCell (r.add 3) (vi at_)))):
  cl 290 #[vp (some r),.func (.func o) #[] caps] j (fun e w'=>e=.returned (.tuple #[])/\K w'):=by
 refine VT (args:=[vp (some r),.func (.func o) #[] caps]) func290 rfl ntmps290 (Nat.le_of_ble_eq_true rfl) ?_
 intro a b
 refine Ip b ?_
 refine rg ?_
 refine xP (O:=(.cells #[(vp (some r))] 272)) (fun p=>vp (some p)) (qE rfl) (IT (cs:=#[(vp (some r))]) Kf) ?_
 intro d l m
 have s:Pure j l:=ab.ax m
 have g:l.cell? d=some (vp (some r)):=(ai.fp m).bf
 have E:=s.cell h2 id
 have P:=m.cu
 clear b
 refine vI ?_
 intro a b
 refine Ip b ?_
 refine zK ?_
 refine rg ?_
 refine q2 (vp (some r)) (tA (a:=d) Kf (isAgg272 _) g) ?_
 refine q2 (vb false) (EU (x:=some r) Kf rfl underlying272) ?_
 refine q0 (vb false) ?_
 refine q2 (vp (some r)) (tA (a:=d) Kf (isAgg272 _) g) ?_
 refine q0 (vp (some r)) ?_
 refine q0 (vp (some (r.add 2))) ?_
 refine q2 (vi 0) (tA (a:=r.add 2) Kf (isAgg54 _) E) ?_
 refine q0 (vb false) ?_
 refine q0 (vb false) ?_
 refine vI ?_
 refine uH ?_
 refine Ak (t:=false) Kf (fun q=>by cases q) fun q=>?_
 refine zY ?_
 clear b
 intro a b
 refine Ip b ?_
 refine rg ?_
 refine q2 (vp (some r)) (tA (a:=d) Kf (isAgg272 _) g) ?_
 refine q0 (vp (some r)) ?_
 refine q0 (vp (some (r.add 1))) ?_
 refine q2 (vi at_) (tA (a:=r.add 1) Kf (isAgg3 _) (s.cell h1 id)) ?_
 refine xP (O:=(.cells #[(vi 0)] 3)) (fun p=>vp (some p)) (qE rfl) (uI (zeroValue3 _) rfl) ?_
 intro h k i
 have N:Pure j k:=s.trans (ab.ax i)
 have T:=i.cu
 have L:=ai.fp i
 refine yg (qE rfl) (uf (a:=h) (v:=vi at_) Kf Kf rfl (sizeOf3 _) (L.gx Sm)) ?_
 intro y n
 have U:=World.block_lt_of_cell? l d g
 have Q:Pure j y:=N.ak (p:=h) (Oh s.size) (n▸ab.setCell h _)
 have C:y.cell? d=some (vp (some r)):=by
  rw[n];exact(ab.setCell h _).cell ((ab.ax (F:=ar) i).cell g id) fun e=>Om
 have I:y.cell? h=some (vi at_):=by
  rw[n];exact(L.jh).bf
 refine vI ?_
 clear b
 intro a b
 refine Uf b De ?_
 clear b
 intro a b
 refine OD b ?_
 refine qZ Kf ?_
 refine qQ 1 ?_
 refine q0 (.func (.func o) #[] caps) ?_
 refine vI ?_
 refine Cc (qE rfl) (by intro c D;cases D) (Pn (caps:=caps) (args:=#[]) (args':=caps) Kf D rfl Sm) ((rW y d h Q Om (Oh s.size) C I).mono ?_)
 rintro e M (⟨rfl,z⟩|⟨x,rfl,A,H,J,G,u,z⟩)
 refine .inl ⟨_,rfl,?_⟩
 refine Y2 ?_
 clear b
 intro a b
 show Leaves _ _ _ _ _ _ _
 rw[b.defers]
 refine leaves_cons (f:=308) (args:=#[vp (some h),vp (some d)]) Sm (K6 call308 (by simp[bw,put,rK])) ?_
 refine(QS h d M).mono ?_
 rintro e R S ⟨rfl,rfl,rfl⟩
 exact⟨_,results_none results290 _ _ _,rfl,z⟩
 refine .inr ⟨_,rfl,?_⟩
 intro V
 clear b
 intro a b
 show Leaves _ _ _ _ _ _ _
 rw[b.defers]
 refine leaves_cons (f:=308) (args:=#[vp (some h),vp (some d)]) Sm (K6 call308 (by simp[bw,put,rK])) ?_
 refine(Ry h d r at_ x [] M H A J G u).mono ?_
 rintro e R S ⟨rfl,rfl,rfl⟩
 exact⟨_,results_none results290 _ _ _,rfl,z⟩
structure jc(S:NP)(w:World)(a:Addr)(s:Sl)(bs:List UInt8)(at_ cq spot:Int):Prop where
 box:ai w a [s.v,vi at_,vi cq,vi spot] 319
 el:dr S w 1 s (dn bs)
 apart:∀b,S b->b≠a.block
 pF:bs.length<=100000000000
 room:s.len<=s.cap
def uv(e:Int):List PanicEntry:=[{ v:=.iface 334<|vi e,recovered:=false }]
section
variable {S:NP} {w w':World} {a:Addr} {s:Sl} {bs:List UInt8} {at_ cq spot:Int}
def jc.ext{F}(h:jc S w a s bs at_ cq spot)(E:ab F w w')(d:∀b,S b->¬F b)(c:¬F a.block):jc S w' a s bs at_ cq spot:=
 ⟨h.box.ext E c,h.el.ext E d,h.apart,h.pF,h.room⟩
def jc.pure(h:jc S w a s bs at_ cq spot)(E:Pure w w'):jc S w' a s bs at_ cq spot:=h.ext E (fun _ _ h=>h) id
def jc.j0(h:jc S w a s bs at_ cq spot):w.cell? (a.add 1)=some (vi at_):=h.box.cell (i:=1) rfl
def jc.rA(h:jc S w a s bs at_ cq spot):w.cell? (a.add 2)=some (vi cq):=h.box.cell (i:=2) rfl
def jc.wu(h:jc S w a s bs at_ cq spot)(k):jc S (w.setCell (a.add 1)<|vi k) a s bs k cq spot:=
 ⟨h.box.set 1 _,h.el.ext (ab.setCell _ _) fun b c e=>h.apart b c (by rw[zC]at e;exact e),h.apart,h.pF,h.room⟩
def jc.IZ(h:jc S w a s bs at_ cq spot)(k):jc S (w.setCell (a.add 2)<|vi k) a s bs at_ k spot:=
 ⟨h.box.set 2 _,h.el.ext (ab.setCell _ _) fun b c e=>h.apart b c (by rw[zC]at e;exact e),h.apart,h.pF,h.room⟩
def jc.FE(h:jc S w a s bs at_ cq spot)(k):jc S (w.setCell (a.add 3)<|vi k) a s bs at_ cq k:=
 ⟨h.box.set 3 _,h.el.ext (ab.setCell _ _) fun b c e=>h.apart b c (by rw[zC]at e;exact e),h.apart,h.pF,h.room⟩
def qT{k v}:ab (·=a.block) w (w.setCell (a.add k) v):=(ab.setCell _ _).mono (fun i _ e=>by rw[zC]at e;exact e)
end
def Lx{S}(a s bs)(at_:Nat)(cq spot:Int)(w0)(h:jc S w0 a s bs at_ cq spot)(m:at_<=bs.length):
  cl 296 #[vp<|some a] w0 (fun e w'=>(∃b:at_<bs.length,e=.returned (.int .u8 (bs[at_].toNat:Int))/\jc S w' a s bs ((at_+1:Nat):Int) cq spot/\ab (·=a.block) w0 w') \/
   (at_=bs.length/\e=.panicked (uv 3)/\jc S w' a s bs at_ cq spot/\ab (·=a.block) w0 w')):=by
 refine(Vo (some a) w0 (fun o r w'=>(∃b:at_<bs.length,o=none/\r=(bs[at_].toNat:Int)/\jc S w' a s bs ((at_+1:Nat):Int) cq spot/\ab (·=a.block) w0 w')\/(at_=bs.length/\o=some (uv 3)/\jc S w' a s bs at_ cq spot/\ab (·=a.block) w0 w')) ?_).mono ?_
 .refine⟨a,rfl,fun q hs=>?_⟩
  have h1:=h.pure hs.first
  have p:s.len=bs.length:=by rw[h.el.len,qC]
  refine⟨_,h1.j0,a,rfl,s,h1.box.bf,fun j=>?_,fun j=>?_⟩
  .have:at_=bs.length:=Oh<|beq_iff_eq.1 j
   exact .inr ⟨this,rfl,h1,ab.pure hs.first⟩
  .have n:at_≠bs.length:=Oh<|beq_eq_false_iff_ne.1 j
   have b:at_<bs.length:=Om
   refine⟨a,rfl,_,h1.j0,a,rfl,h1.box.eh (i:=1) Sm,id,?_⟩
   rintro u rfl
   have l:IntKind.i64.wrap ((at_:Int)+1)=((at_+1:Nat):Int):=zM b<|Oh h.pF
   rw[l]
   have h2:=h1.wu ((at_+1:Nat):Int)
   refine⟨a,rfl,fun t d=>?_⟩
   have h3:=h2.pure d.ext
   have g:IntKind.i64.wrap (((at_+1:Nat):Int)-1)=(at_:Int):=by
    rw[IntWalk.i64_in _<|Oh h.pF];omega
   have⟨c,k,_,f⟩:=Ch h3.el b
   refine⟨s,h3.box.bf,a,rfl,_,h3.j0,c,?_,_,f,.inl ⟨b,rfl,rfl,h3,((ab.pure hs.first).trans qT).fb d.ext⟩⟩
   rw[g];exact k
 .grind
def Mi{S}(a s bs)(at_:Nat)(cq spot:Int)(w0)(h:jc S w0 a s bs at_ cq spot)(F:at_<=bs.length):
  cl 292 #[vp<|some a] w0 (fun e w'=>(∃n k:Nat,xS 0 0 (bs.drop at_)=.ok (n,k)/\e=.returned (vu (n:Int))/\n<18446744073709551616/\at_+k<=bs.length/\jc S w' a s bs ((at_+k:Nat):Int) cq spot/\ab (·=a.block) w0 w') \/
   (∃x:Nat,∃sD:Int,xS 0 0 (bs.drop at_)=.error x/\e=.panicked (uv x)/\jc S w' a s bs sD cq spot/\ab (·=a.block) w0 w')):=by
 refine (jaM (some a) w0 (fun o r w' => (∃ n k : Nat, xS 0 0 (bs.drop at_) = .ok (n, k) /\ o = none /\ r = (n : Int) /\ n < 18446744073709551616 /\ at_ + k <= bs.length /\ jc S w' a s bs ((at_ + k : Nat) : Int) cq spot /\ ab (· = a.block) w0 w') \/
   (∃x:Nat,∃sD:Int,xS 0 0 (bs.drop at_)=.error x/\o=some (uv x)/\jc S w' a s bs sD cq spot/\ab (·=a.block) w0 w')) ?_).mono ?_
 refine⟨fun n i w=>∃d k:Nat,n=(d:Int)/\i=(k:Int)/\k<=9/\d<2^(7*k)/\at_+k<=bs.length/\xS k d (bs.drop<|at_+k)=xS 0 0 (bs.drop at_)/\jc S w a s bs ((at_+k:Nat):Int) cq spot/\ab (·=a.block) w0 w,fun _ i _=>(10-i).toNat,⟨0,0,rfl,rfl,Om,Sm,by simpa using F,rfl,by simpa using h,ab.refl _⟩,?_⟩
 rintro _ _ wl ⟨d,k,rfl,rfl,Q,p,E,b,L,A⟩
 refine(Lx a s bs (at_+k) cq spot wl L E).mono ?_
 rintro e P (⟨H,rfl,g,f⟩|⟨G,rfl,g,f⟩)
 refine .inl ⟨_,rfl,?_⟩
 have v:bs.drop (at_+k)=bs[at_+k] ::bs.drop (at_+k+1):=drop_eq_getElem_cons H
 generalize O:bs[at_+k]=c at *
 have N:=c.toNat_lt
 rw[v,xR]at b
 refine⟨fun D=>?_,fun D=>?_⟩
 have y:k=9/\1<c.toNat:=by simp at D;omega
 rw[if_pos y]at b
 exact .inr ⟨11,_,b.symm,rfl,g,A.trans f⟩
 have y:¬(k=9/\1<c.toNat):=by intro hh;simp at D;omega
 rw[if_neg y]at b
 have u:c.toNat%128*2^(7*k)<18446744073709551616:=by
  by_cases M:k=9;subst M;omega;have I:2^(7*k)<=2^56:=Nat.pow_le_pow_right Om Om;have l:c.toNat%128<=127:=Om
  calc c.toNat%128*2^(7*k)<=127*2^56:=Nat.mul_le_mul l I
   _<18446744073709551616:=De
 have B:d<18446744073709551616:=Nat.lt_of_lt_of_le p (by
  calc 2^(7*k)<=2^63:=Nat.pow_le_pow_right Om Om
   _<=18446744073709551616:=by decide)
 have K:IntKind.i64.wrap (7*(k:Int))=((7*k:Nat):Int):=by rw[IntWalk.i64_in _ Om];simp
 have q:128^k=2^(7*k):=by rw[Nat.pow_mul]
 have m:d |||(c.toNat%128*2^(7*k))=d+c.toNat%128*2^(7*k):=LC p
 have z:d+c.toNat%128*2^(7*k)<18446744073709551616:=by
  rw[<-m];exact Nat.or_lt_two_pow (n:=64) B u
 unfold HK
 rw[K]
 refine⟨_,VH c.toNat N,_,by rw[qD Om];exact Vn _ _ Om u,_,SL _ _ B u,?_⟩
 rw[m]
 refine⟨fun hs=>?_,fun hs=>?_⟩
 have j:c.toNat<128:=Oh<|of_decide_eq_true hs
 rw[if_pos j]at b
 refine⟨fun C=>?_,fun C=>?_⟩
 have t:c.toNat=0/\0<k:=by simp at C;omega
 rw[if_pos t]at b
 exact .inr ⟨10,_,b.symm,rfl,g,A.trans f⟩
 have t:¬(c.toNat=0/\0<k):=by intro hh;simp at C;omega
 rw[if_neg t,q]at b
 rw[Nat.mod_eq_of_lt j]at z|-
 exact .inl ⟨_,k+1,b.symm,rfl,rfl,z,Om,g,A.trans f⟩
 have j:¬c.toNat<128:=Oh<|of_decide_eq_false hs
 rw[if_neg j,q]at b
 have J:k≠9:=Om
 rw[zM (n:=10) Om Om]
 refine⟨⟨_,k+1,rfl,rfl,Om,?_,Om,b,g,A.trans f⟩,by show(10-((k+1:Nat):Int)).toNat<(10-(k:Int)).toNat;omega⟩
 have:2^(7*(k+1))=128*2^(7*k):=by rw[Nat.mul_add,Nat.pow_add];omega
 rw[this]
 have l:c.toNat%128*2^(7*k)<=127*2^(7*k):=Nat.mul_le_mul_right _ Om
 omega
 refine .inr ⟨_,rfl,.inr ⟨3,_,?_,rfl,g,A.trans f⟩⟩
 rw[<-b,G,drop_length];rfl
 grind
abbrev fi(S:NP)(w:World)(a:Addr)(s:Sl)(bs:List UInt8)(r:Rd):Prop:=jc S w a s bs r.at_ r.cq r.spot
def zm{w p u v T}(h:ai w p [u] T):ai (w.setCell p v) p [v] T:=h.jh
def jc.IR{S w a s bs at_ cq spot}(h:jc S w a s bs at_ cq spot)(f e):
  zL w (a.add 1)/\zL w (a.add 2)/\zL w (a.add 3)/\jc S (((w.setCell (a.add 1)<|vi f).setCell (a.add 2)<|vi e).setCell (a.add 3)<|vi f) a s bs f e f:=
 ⟨h.box.eh (i:=1) Sm,h.box.eh (i:=2) Sm,h.box.eh (i:=3) Sm,((h.wu f).IZ e).FE f⟩
def zg{w:World}{a:Addr}{u v x:Value}:ab (·=a.block) w (((w.setCell (a.add 1) u).setCell (a.add 2) v).setCell (a.add 3) x):=(qT.trans qT).trans qT
def AB{S:NP}(a:Addr)(s:Sl)(bs:List UInt8)(r:Rd)(g:World)(h:fi S g a s bs r)(K:r.at_<=bs.length)(hS:∀b,S b->b<g.heap.size):
  cl 252 #[vp<|some a] g<|XW fun x w'=>x=((vY bs r).1:Int)/\fi S w' a s bs (vY bs r).2/\ab (·=a.block) g w':=by
 refine jbp (some a) g _ ?_
 intro C M n1 f D n2
 have l:Pure g M:=ab.ax n1
 have u:Pure g D:=l.trans<|ab.ax n2
 have B:D.cell? C=some (vp<|some a):=(ab.ax (F:=ar) n2).cell (ai.fp n1).bf id
 have b1:=n1.cu
 have b2:=n2.cu
 have X:C.block≠f.block:=Oh<|World.block_lt_of_cell? M C (ai.fp n1).bf
 have R:=World.block_lt_of_cell? g a h.box.bf
 have H:=ai.fp n2
 have h2:=h.pure u
 refine⟨some a,B,?_⟩
 have E:∀d,(ai d f [vu ((vY bs r).1:Int)] 23/\fi S d a s bs (vY bs r).2/\ab (·=a.block) g d)->∃N:Int,d.cell? f=some (vu N)/\zL d f/\∀c:World,c=d.setCell f (vu N)->∃w:Int,c.cell? f=some (vu w)/\(w=((vY bs r).1:Int)/\fi S c a s bs (vY bs r).2/\ab (·=a.block) g c):=by
  rintro d ⟨hB,z,q⟩;refine⟨_,hB.bf,hB.gx Sm,?_⟩;rintro c rfl;have y:ab (·=f.block) d (d.setCell f<|vu ((vY bs r).1:Int)):=ab.setCell _ _;exact⟨_,(zm hB).bf,rfl,z.ext y (fun b G e=>Oi (hS b G) l.size) fun e=>Oh l.size,q.cg y fun i hi e=>Oh l.size⟩
 by_cases v:r.cq=0
 refine(Hr a 291 _ r.at_ D (fun d=>ai d f [vu ((vY bs r).1:Int)] 23/\fi S d a s bs (vY bs r).2/\ab (·=a.block) g d) h2.j0 (by have:=h2.rA;rw[v]at this;exact this) call291 ?_).mono ?_
 intro d p P m Z T L A
 have h3:=h2.pure m
 refine(QM C f d (fun o c=>(o=none/\(ai c f [vu ((vY bs r).1:Int)] 23/\fi S c a s bs (vY bs r).2/\ab (·=a.block) g c))\/(∃x,o=some (uv x)/\c.cell? p=some (vp<|some a)/\c.cell? P=some (vi r.at_)/\zL c (a.add 1)/\zL c (a.add 2)/\zL c (a.add 3) /\
  (ai (((c.setCell (a.add 1)<|vi r.at_).setCell (a.add 2)<|vi x).setCell (a.add 3)<|vi r.at_) f [vu ((vY bs r).1:Int)] 23/\fi S (((c.setCell (a.add 1)<|vi r.at_).setCell (a.add 2)<|vi x).setCell (a.add 3)<|vi r.at_) a s bs (vY bs r).2/\ab (·=a.block) g (((c.setCell (a.add 1)<|vi r.at_).setCell (a.add 2)<|vi x).setCell (a.add 3)<|vi r.at_)))) ?_).mono ?_
 refine⟨some a,m.cell B id,?_⟩
 refine(Mi a s bs r.at_ r.cq r.spot d h3 K).mono ?_
 rintro e c (⟨n,k,J,rfl,V,Q,z,q⟩|⟨x,sD,J,rfl,z,q⟩)
 refine .inl ⟨_,rfl,?_⟩
 have t:ai c f [vu 0] 23:=(H.pure m).ext q fun e=>Oh l.size
 refine⟨t.gx Sm,?_⟩
 rintro w5 rfl
 have y:ab (·=f.block) c (c.setCell f<|vu (n:Int)):=ab.setCell _ _
 have j:vY bs r=(n,⟨r.at_+k,0,r.spot⟩):=by simp[vY,v,J]
 rw[j]
 refine .inl ⟨rfl,zm t,?_,((ab.pure<|u.trans m).trans q).cg y fun i hi e=>Oh l.size⟩
 have:=z.ext y (fun b G e=>Oi (hS b G) l.size) fun e=>Oh l.size
 rw[v]at this
 exact this
 refine .inr ⟨_,rfl,.inr ⟨x,rfl,?_⟩⟩
 have j:vY bs r=(0,⟨r.at_,x,r.at_⟩):=by simp[vY,v,J]
 have t:ai c f [vu 0] 23:=(H.pure m).ext q fun e=>Oh l.size
 have⟨U,W,O,I⟩:=z.IR r.at_ x
 rw[j]
 exact⟨q.cell L fun e=>Oh u.size,q.cell A fun e=>Oh u.size,U,W,O,t.ext zg fun e=>Oh l.size,I,((ab.pure<|u.trans m).trans q).trans zg⟩
 rintro e c (⟨rfl,h⟩|⟨Y,rfl,h⟩)
 grind
 rcases h with⟨h,_⟩|⟨x,h1,h⟩
 cases h
 cases h1;exact .inr ⟨x,rfl,h⟩
 grind
 refine(HD a _ r.cq D h2.rA Om).mono ?_
 rintro e d ⟨rfl,m⟩
 have j:vY bs r=(0,r):=by simp[vY,v]
 refine⟨rfl,E d ?_⟩
 rw[j]
 exact⟨H.pure m,h2.pure m,ab.pure<|u.trans m⟩
def jaU{S:NP}(a:Addr)(s:Sl)(bs:List UInt8)(r:Rd)(g:World)(h:fi S g a s bs r)(H:r.at_<=bs.length)(hS:∀b,S b->b<g.heap.size):
  cl 272 #[vp<|some a] g<|XV fun x w'=>x=((xM bs r).1:Int)/\fi S w' a s bs (xM bs r).2/\ab (·=a.block) g w':=by
 refine SF (some a) g _ ?_
 intro A L n1 f B n2
 have k:Pure g L:=ab.ax n1
 have q:Pure g B:=k.trans<|ab.ax n2
 have z:B.cell? A=some (vp<|some a):=(ab.ax (F:=ar) n2).cell (ai.fp n1).bf id
 have b1:=n1.cu
 have b2:=n2.cu
 have U:A.block≠f.block:=Oh<|World.block_lt_of_cell? L A (ai.fp n1).bf
 have P:=World.block_lt_of_cell? g a h.box.bf
 have E:=ai.fp n2
 have h2:=h.pure q
 refine⟨some a,z,?_⟩
 have C:∀d,(ai d f [.int .u8 ((xM bs r).1:Int)] 5/\fi S d a s bs (xM bs r).2/\ab (·=a.block) g d)->∃M:Int,d.cell? f=some (.int .u8 M)/\zL d f/\∀c:World,c=d.setCell f (.int .u8 M)->∃u:Int,c.cell? f=some (.int .u8 u)/\(u=((xM bs r).1:Int)/\fi S c a s bs (xM bs r).2/\ab (·=a.block) g c):=by
  rintro d ⟨hB,w,m⟩;refine⟨_,hB.bf,hB.gx Sm,?_⟩;rintro c rfl;have v:ab (·=f.block) d (d.setCell f<|.int .u8 ((xM bs r).1:Int)):=ab.setCell _ _;exact⟨_,(zm hB).bf,rfl,w.ext v (fun b D e=>Oi (hS b D) k.size) fun e=>Oh k.size,m.cg v fun i hi e=>Oh k.size⟩
 by_cases t:r.cq=0
 refine(Hr a 295 _ r.at_ B (fun d=>ai d f [.int .u8 ((xM bs r).1:Int)] 5/\fi S d a s bs (xM bs r).2/\ab (·=a.block) g d) h2.j0 (by have:=h2.rA;rw[t]at this;exact this) call295 ?_).mono ?_
 intro d p O l W Q K y
 have h3:=h2.pure l
 refine(jcg A f d (fun o c=>(o=none/\(ai c f [.int .u8 ((xM bs r).1:Int)] 5/\fi S c a s bs (xM bs r).2/\ab (·=a.block) g c))\/(∃x,o=some (uv x)/\c.cell? p=some (vp<|some a)/\c.cell? O=some (vi r.at_)/\zL c (a.add 1)/\zL c (a.add 2)/\zL c (a.add 3) /\
  (ai (((c.setCell (a.add 1)<|vi r.at_).setCell (a.add 2)<|vi x).setCell (a.add 3)<|vi r.at_) f [.int .u8 ((xM bs r).1:Int)] 5/\fi S (((c.setCell (a.add 1)<|vi r.at_).setCell (a.add 2)<|vi x).setCell (a.add 3)<|vi r.at_) a s bs (xM bs r).2/\ab (·=a.block) g (((c.setCell (a.add 1)<|vi r.at_).setCell (a.add 2)<|vi x).setCell (a.add 3)<|vi r.at_)))) ?_).mono ?_
 refine⟨some a,l.cell z id,?_⟩
 refine(Lx a s bs r.at_ r.cq r.spot d h3 H).mono ?_
 rintro e c (⟨J,rfl,w,m⟩|⟨I,rfl,w,m⟩)
 refine .inl ⟨_,rfl,?_⟩
 have n:ai c f [.int .u8 0] 5:=(E.pure l).ext m fun e=>Oh k.size
 refine⟨n.gx Sm,?_⟩
 rintro X rfl
 have v:ab (·=f.block) c (c.setCell f<|.int .u8 (bs[r.at_].toNat:Int)):=ab.setCell _ _
 have j:xM bs r=(bs[r.at_].toNat,⟨r.at_+1,0,r.spot⟩):=by simp[xM,t,J]
 rw[j]
 refine .inl ⟨rfl,zm n,?_,((ab.pure<|q.trans l).trans m).cg v fun i hi e=>Oh k.size⟩
 have:=w.ext v (fun b D e=>Oi (hS b D) k.size) fun e=>Oh k.size
 rw[t]at this
 exact this
 refine .inr ⟨_,rfl,.inr ⟨3,rfl,?_⟩⟩
 have j:xM bs r=(0,⟨r.at_,3,r.at_⟩):=by simp[xM,t,I]
 have n:ai c f [.int .u8 0] 5:=(E.pure l).ext m fun e=>Oh k.size
 have⟨R,T,N,G⟩:=w.IR r.at_ 3
 rw[j]
 exact⟨m.cell K fun e=>Oh q.size,m.cell y fun e=>Oh q.size,R,T,N,n.ext zg fun e=>Oh k.size,G,((ab.pure<|q.trans l).trans m).trans zg⟩
 rintro e c (⟨rfl,h⟩|⟨V,rfl,h⟩)
 grind
 rcases h with⟨h,_⟩|⟨x,h1,h⟩
 cases h
 cases h1;exact .inr ⟨x,rfl,h⟩
 grind
 refine(HD a _ r.cq B h2.rA Om).mono ?_
 rintro e d ⟨rfl,l⟩
 have j:xM bs r=(0,r):=by simp[xM,t]
 refine⟨rfl,C d ?_⟩
 rw[j]
 exact⟨E.pure l,h2.pure l,ab.pure<|q.trans l⟩
end Go.Proofs
end
section
open Go Go.SE
namespace Go.Proofs
open Tryz
attribute [local irreducible] Calls CallsD
def Tv{S:NP}(a:Addr)(s:Sl)(bs:List UInt8)(c:Nat)(r:Rd)(j:World)(h:fi S j a s bs r)(hat:r.at_<=bs.length)(hS:∀b,S b->b<j.heap.size)(hm:c<=1000000000):
  cl 260 #[vp<|some a,vi (c:Int)] j<|XS fun x w'=>x=⟨(qH bs c r).1.toArray⟩/\fi S w' a s bs (qH bs c r).2/\ab (·=a.block) j w':=by
 refine VA (some a) c j _ ?_
 intro E w1 n1 pm I nm g Z n2
 have E1:Pure j w1:=ab.ax n1
 have U:Pure j I:=E1.trans<|ab.ax nm
 have N:Pure j Z:=U.trans<|ab.ax n2
 have C:I.cell? E=some (vp<|some a):=(ab.ax (F:=ar) nm).cell (ai.fp n1).bf id
 have K:Z.cell? E=some (vp<|some a):=(ab.ax (F:=ar) n2).cell C id
 have X:Z.cell? pm=some (vi (c:Int)):=(ab.ax (F:=ar) n2).cell (ai.fp nm).bf id
 have b1:=n1.cu
 have bm:=nm.cu
 have b2:=n2.cu
 have b12:E.block≠g.block:=Oh<|World.block_lt_of_cell? I E C
 have ha0:=World.block_lt_of_cell? j a h.box.bf
 have B2:=ai.fp n2
 have h2:=h.pure N
 have g1:j.heap.size<=g.block:=Oh U.size
 have g2:j.heap.size<=E.block:=Om
 have g3:j.heap.size<=pm.block:=Oh E1.size
 refine⟨some a,K,?_⟩
 have fin:∀f,(ai f g [vs ⟨(qH bs c r).1.toArray⟩] 9/\fi S f a s bs (qH bs c r).2/\ab (·=a.block) j f)->∃v2:ByteArray,f.cell? g=some (vs v2)/\zL f g/\∀d:World,d=f.setCell g (vs v2)->∃O:ByteArray,d.cell? g=some (vs O)/\(O=⟨(qH bs c r).1.toArray⟩/\fi S d a s bs (qH bs c r).2/\ab (·=a.block) j d):=by
  rintro f ⟨hB,A,l⟩;refine⟨_,hB.bf,hB.gx Sm,?_⟩;rintro d rfl;have M:ab (·=g.block) f (f.setCell g<|vs ⟨(qH bs c r).1.toArray⟩):=ab.setCell _ _;exact⟨_,(zm hB).bf,rfl,A.ext M Gd fun e=>Om,l.cg M fun i hi e=>Om⟩
 by_cases D:r.cq=0
 refine(Hr a 293 _ r.at_ Z (fun f=>ai f g [vs ⟨(qH bs c r).1.toArray⟩] 9/\fi S f a s bs (qH bs c r).2/\ab (·=a.block) j f) h2.j0 (by have:=h2.rA;rw[D]at this;exact this) call293 ?_).mono ?_
 intro f p pf q hp hpf hpc T
 have h3:=h2.pure q
 refine(Qv E pm g f (fun o d=>(o=none/\(ai d g [vs ⟨(qH bs c r).1.toArray⟩] 9/\fi S d a s bs (qH bs c r).2/\ab (·=a.block) j d))\/(∃x,o=some (uv x)/\d.cell? p=some (vp<|some a)/\d.cell? pf=some (vi r.at_)/\zL d (a.add 1)/\zL d (a.add 2)/\zL d (a.add 3) /\
  (ai (((d.setCell (a.add 1)<|vi r.at_).setCell (a.add 2)<|vi x).setCell (a.add 3)<|vi r.at_) g [vs ⟨(qH bs c r).1.toArray⟩] 9/\fi S (((d.setCell (a.add 1)<|vi r.at_).setCell (a.add 2)<|vi x).setCell (a.add 3)<|vi r.at_) a s bs (qH bs c r).2/\ab (·=a.block) j (((d.setCell (a.add 1)<|vi r.at_).setCell (a.add 2)<|vi x).setCell (a.add 3)<|vi r.at_)))) ?_).mono ?_
 refine⟨some a,q.cell K id,?_⟩
 refine(Mi a s bs r.at_ r.cq r.spot f h3 hat).mono ?_
 have v:∀(x:Nat) (sD:Int) (d:World),qH bs c r=([],⟨r.at_,x,r.at_⟩)->jc S d a s bs sD r.cq r.spot->ab (·=a.block) f d->(∃y,some (uv x)=some (uv y)/\d.cell? p=some (vp<|some a)/\d.cell? pf=some (vi r.at_)/\zL d (a.add 1)/\zL d (a.add 2)/\zL d (a.add 3) /\
  (ai (((d.setCell (a.add 1)<|vi r.at_).setCell (a.add 2)<|vi y).setCell (a.add 3)<|vi r.at_) g [vs ⟨(qH bs c r).1.toArray⟩] 9/\fi S (((d.setCell (a.add 1)<|vi r.at_).setCell (a.add 2)<|vi y).setCell (a.add 3)<|vi r.at_) a s bs (qH bs c r).2/\ab (·=a.block) j (((d.setCell (a.add 1)<|vi r.at_).setCell (a.add 2)<|vi y).setCell (a.add 3)<|vi r.at_))):=by
  intro x sD d u A l
  have hB4:ai d g [vs ⟨#[]⟩] 9:=(B2.pure q).ext l fun e=>Om
  have⟨c1,c2,c3,hR'⟩:=A.IR r.at_ x
  rw[u]
  exact⟨x,rfl,l.cell hpc fun e=>Oh N.size,l.cell T fun e=>Oh N.size,c1,c2,c3,hB4.ext zg fun e=>Om,hR',((ab.pure<|N.trans q).trans l).trans zg⟩
 rintro e d (⟨n,k,V,rfl,hlt,hle,A,l⟩|⟨x,sD,V,rfl,A,l⟩)
 refine .inl ⟨_,rfl,l.bk fun b B=>B.elim,_,l.cell (q.cell X id) fun e=>Om,fun B=>?_,fun _=>⟨_,l.cell (q.cell X id) fun e=>Om,?_⟩⟩
 grind
 rw[qD Om]
 refine⟨fun B=>?_,fun B=>?_⟩
 have m:c<n:=Oh<|of_decide_eq_true B
 exact .inr<|v 1 _ d (by simp[qH,D,V,m]) A l
 have m:¬c<n:=Oh<|of_decide_eq_false B
 intro w5 hs5
 have E5:=hs5.ext
 have w:=A.pure E5
 have H:w5.cell? E=some (vp<|some a):=E5.cell (l.cell (q.cell K id) fun e=>Om) id
 have hl:s.len=bs.length:=by rw[h.el.len,qC]
 have hsm:=h.pF
 have G:ab (·=a.block) f w5:=l.fb E5
 refine⟨_,H,a,rfl,s,w.box.bf,_,H,a,rfl,_,w.j0,?_⟩
 have hw1:IntKind.u64.wrap (IntKind.i64.wrap<|(s.len:Int)-((r.at_+k:Nat):Int))=((bs.length-(r.at_+k):Nat):Int):=by
  rw[hl,IntWalk.i64_in _ Om,show((bs.length:Int)-((r.at_+k:Nat):Int))=((bs.length-(r.at_+k):Nat):Int) by omega,qD Om]
 rw[hw1]
 refine⟨fun J=>?_,fun J=>?_⟩
 have hg:bs.length<r.at_+k+n:=Oh<|of_decide_eq_true J
 exact .inr<|v 3 _ w5 (by simp[qH,D,V,m,hg]) w G
 have hg:¬bs.length<r.at_+k+n:=Oh<|of_decide_eq_false J
 have u:qH bs c r=((bs.drop<|r.at_+k).take n,⟨r.at_+k+n,0,r.spot⟩):=by simp[qH,D,V,m,hg]
 refine⟨fun _=>True,trivial,?_⟩
 intro P hw6
 have E6:Pure w5 P:=by rw[hw6];exact ab.drew _
 have t:=w.pure E6
 have z:=E6.cell H id
 have R:IntKind.i64.wrap (n:Int)=(n:Int):=IntWalk.i64_in _ Om
 have Q:IntKind.i64.wrap (((r.at_+k:Nat):Int)+(n:Int))=((r.at_+k+n:Nat):Int):=by rw[IntWalk.i64_in _ Om];simp
 have⟨s1,hr1,hL1⟩:=t.el.sub (k:=.i64) (lo:=r.at_+k) (n:=n) uk h.room (by rw[qC];omega)
 have W:ai P g [vs ⟨#[]⟩] 9:=((B2.pure q).ext G fun e=>Om).pure E6
 have hL2:dr S P 1 s1 (dn<|(bs.drop<|r.at_+k).take n):=by
  have e:(List.drop (r.at_+k)<|dn bs).take n=dn ((bs.drop<|r.at_+k).take n):=by simp[dn,List.map_take,List.map_drop]
  rw[<-e];exact hL1
 refine⟨_,z,a,rfl,s,t.box.bf,_,z,a,rfl,_,t.j0,_,z,a,rfl,_,t.j0,s1,by rw[R,Q];exact hr1,_,A8 underlying59 underlying5 underlying9 hL2,W.gx Sm,id,?_⟩
 rintro w7 rfl
 have M:ab (·=g.block) P (P.setCell g<|vs ⟨((bs.drop<|r.at_+k).take n).toArray⟩):=ab.setCell _ _
 have L:=t.ext M (fun b B e=>Oh<|hS b B) fun e=>Om
 refine⟨_,M.cell z fun e=>b12 e,a,rfl,_,L.j0,a,rfl,L.box.eh (i:=1) Sm,id,?_⟩
 rintro w8 rfl
 rw[R,Q,u]
 have Y:=L.wu ((r.at_+k+n:Nat):Int)
 rw[D]at Y
 exact .inl ⟨rfl,(zm W).ext qT fun e=>Om,Y,((((ab.pure<|N.trans q).trans G).fb E6).cg M fun i hi e=>Om).trans qT⟩
 exact .inr ⟨_,rfl,.inr<|v x sD d (by simp[qH,D,V]) A l⟩
 rintro e d (⟨rfl,h⟩|⟨ch,rfl,h⟩)
 grind
 rcases h with⟨h,_⟩|⟨x,h1,h⟩
 cases h
 cases h1;exact .inr ⟨x,rfl,h⟩
 grind
 refine(HD a _ r.cq Z h2.rA Om).mono ?_
 rintro e f ⟨rfl,q⟩
 have u:qH bs c r=([],r):=by simp[qH,D]
 refine⟨rfl,fin f ?_⟩
 rw[u]
 exact⟨B2.pure q,h2.pure q,ab.pure<|N.trans q⟩
end Go.Proofs
end
section
open Go Go.SE List
namespace Go.Proofs
open Tryz
attribute [local irreducible] Calls CallsD
def V4{w e sz s rs}(h:bg w e sz s rs):s.len<=s.cap:=by
 rcases h.ak with⟨rfl,_⟩|⟨g,cur,_,_,a,_⟩;exact Nat.le_refl _;rw[h.len];exact a
def jcK{S}(s bs w0)(hs:dr S w0 1 s (dn bs))(h:s.a=none->s=Sl.nil)(g:bs.length<=100000000000):
  cl 182 #[s.v] w0<|XD fun x w'=>∃a s',x=some a/\fi s'.aq w' a s' bs ⟨0,0,0⟩/\Pure w0 w'/\w0.heap.size<=a.block/\(∀b,s'.aq b->w0.heap.size<=b/\b<w'.heap.size):=by
 refine ZA _ w0 _ ?_
 refine(Mb s bs w0 hs h g).mono ?_
 rintro _ j ⟨r1,rfl,c⟩
 refine⟨r1,rfl,fun i k n2=>⟨i,r1,rfl,?_,c.pure.trans<|ab.ax n2,by rw[n2.cu];exact c.pure.size,fun b d=>⟨c.ak b d,?_⟩⟩⟩
 have f:∀b,r1.aq b->b<j.heap.size:=fun b d=>c.cm.lt d
 exact⟨ai.fp n2,(c.cm.pure<|ab.ax n2).el,fun b d e=>Oi (f b d) n2.cu,g,V4 c.cm⟩
 exact(c.cm.pure<|ab.ax n2).lt d
def Wd{S}(a s bs r w0)(h:fi S w0 a s bs r)(b:r.at_<=bs.length):
  cl 183 #[vp<|some a] w0<|XB fun x w'=>x=((bs.length-r.at_:Nat):Int)/\Pure w0 w':=by
 refine UT (some a) w0 _ ?_
 refine⟨fun c=>(by cases c),fun _=>⟨a,rfl,fun e hs=>?_⟩⟩
 have h1:=h.pure hs.first
 have d:s.len=bs.length:=by rw[h.el.len,qC]
 refine⟨s,h1.box.bf,a,rfl,_,h1.j0,?_,hs.first⟩
 rw[d,IntWalk.i64_in _<|Oh h.pF];omega
def jaw{S}(a s bs r w0)(h:fi S w0 a s bs r):
  cl 184 #[vp<|some a] w0<|XB fun x w'=>x=(r.at_:Int)/\w'=w0:=by
 refine Sv (some a) w0 _ ?_
 exact⟨fun b=>(by cases b),fun _=>⟨a,rfl,_,h.j0,rfl,rfl⟩⟩
def S2{S}(a s bs r w0)(h:fi S w0 a s bs r):
  cl 273 #[vp<|some a] w0<|XH fun x y w'=>x=(r.cq:Int)/\y=(r.spot:Int)/\Pure w0 w':=by
 refine VL (some a) w0 _ ?_
 refine⟨fun b=>(by cases b),fun _=>⟨a,rfl,fun c hs=>?_⟩⟩
 have h1:=h.pure hs.first
 exact⟨_,h1.rA,a,rfl,_,h1.box.cell (i:=3) rfl,rfl,rfl,hs.first⟩
def fv.after{w w1 w2 e sz rs s}(E:Pure w w1)(h:fv w1 e sz rs s w2):fv w e sz rs s w2:=
 ⟨h.cm,fun b a=>Nat.le_trans E.size<|h.ak b a,E.trans h.pure⟩
section
variable {S:NP} (s:Sl) (bs:List UInt8) (k f t x a b:Int) (y:ByteArray) (m:Option Nat) (w0:World) (hs:dr S w0 1 s (dn bs)) (hz:s.a=none->s=Sl.nil) (hn:bs.length<=10000000000)
include hs hz hn
def Yu(n:Nat)(g:f=n)(h:n<9223372036854775808):
  cl 249 #[s.v,.agg #[vi k,vi f,vi t,vu x,vs y,vi a,vi b],.map m] w0<|XA fun r w'=>fv w0 5 1 (dn<|bs++vF n) r w':=by
 subst g
 refine TB s k n t x y a b m w0 _ ?_
 intro i e c
 rw[qD Om]
 refine(zy s bs n e (hs.pure c.first) hz hn Om).mono ?_
 rintro _ j ⟨r,rfl,d⟩
 exact⟨r,rfl,d.bk,d.after c.first⟩
def zJC(n:Nat)(ht:t=n)(g:n<9223372036854775808):
  cl 253 #[s.v,.agg #[vi k,vi f,vi t,vu x,vs y,vi a,vi b],.map m] w0<|XA fun r w'=>fv w0 5 1 (dn<|bs++vF n) r w':=by
 subst ht
 refine Td s k f n x y a b m w0 _ ?_
 intro h e c
 rw[qD Om]
 refine(zy s bs n e (hs.pure c.first) hz hn Om).mono ?_
 rintro _ i ⟨r,rfl,d⟩
 exact⟨r,rfl,d.bk,d.after c.first⟩
def Zd(n:Nat)(e:x=n)(h:n<18446744073709551616):
  cl 255 #[s.v,.agg #[vi k,vi f,vi t,vu x,vs y,vi a,vi b],.map m] w0<|XA fun r w'=>fv w0 5 1 (dn<|bs++vF n) r w':=by
 subst e
 refine Xg s k f t n y a b m w0 _ ?_
 intro i g c
 refine(zy s bs n g (hs.pure c.first) hz hn Om).mono ?_
 rintro _ j ⟨r,rfl,d⟩
 exact⟨r,rfl,d.bk,d.after c.first⟩
def ZN(e:y.size<=10000000000):
  cl 257 #[s.v,.agg #[vi k,vi f,vi t,vu x,vs y,vi a,vi b],.map m] w0<|XA fun r w'=>fv w0 5 1 (dn<|bs++vU y) r w':=by
 refine Uk s k f t x y a b m w0 _ ?_
 intro h g c
 refine(U1 s bs y g (hs.pure c.first) hz hn e).mono ?_
 rintro _ i ⟨r,rfl,d⟩
 exact⟨r,rfl,d.bk,d.after c.first⟩
def jcz(d:Nat)(M:List (Int×Int))(n:Nat)(h:fc (fun i:Int=>vi i) w0 d M)(g:SE.eu M a=some (n:Int))(m:n<9223372036854775808):
  cl 261 #[s.v,.agg #[vi k,vi f,vi t,vu x,vs y,vi a,vi b],.map<|some d] w0<|XA fun r w'=>fv w0 5 1 (dn<|bs++vF n) r w':=by
 refine Tz s k f t x y a b (some d) w0 _ ?_
 intro o l c
 rcases(h.pure c.first).get (P:=prog) (T:=231) underlying231 underlying73 (zeroValue3 _) a false with⟨h1,_⟩|⟨v,h1,j⟩
 .rw[g]at h1;cases h1
 rw[g]at h1;cases h1
 refine⟨_,j,?_⟩
 rw[qD Om]
 refine(zy s bs n l (hs.pure c.first) hz hn Om).mono ?_
 rintro _ p ⟨r,rfl,e⟩
 exact⟨r,rfl,e.bk,e.after c.first⟩
def jcc(d:Nat)(M:List (Int×Int))(n:Nat)(h:fc (fun i:Int=>vi i) w0 d M)(g:SE.eu M b=some (n:Int))(m:n<9223372036854775808):
  cl 263 #[s.v,.agg #[vi k,vi f,vi t,vu x,vs y,vi a,vi b],.map<|some d] w0<|XA fun r w'=>fv w0 5 1 (dn<|bs++vF n) r w':=by
 refine Qw s k f t x y a b (some d) w0 _ ?_
 intro o l c
 rcases(h.pure c.first).get (P:=prog) (T:=231) underlying231 underlying73 (zeroValue3 _) b false with⟨h1,_⟩|⟨v,h1,j⟩
 .rw[g]at h1;cases h1
 rw[g]at h1;cases h1
 refine⟨_,j,?_⟩
 rw[qD Om]
 refine(zy s bs n l (hs.pure c.first) hz hn Om).mono ?_
 rintro _ p ⟨r,rfl,e⟩
 exact⟨r,rfl,e.bk,e.after c.first⟩
end
section
variable {S:NP} (a q:Addr) (s:Sl) (bs:List UInt8) (r:Rd) (cells:List Value) (w0:World) (h:fi S w0 a s bs r) (hat:r.at_<=bs.length) (hS:∀b,S b->b<w0.heap.size) (hq:ai w0 q cells 314) (hl:cells.length=12) (haq:a.block≠q.block) (hSq:∀b,S b->b≠q.block)
include h hat hS hq hl haq hSq
def V1:cl 251 #[vp<|some a,vp<|some q] w0 (fun e w'=>e=.returned (.tuple #[])/\fi S w' a s bs (vY bs r).2/\ai w' q (cells.set 7<|vu ((vY bs r).1:Int)) 314/\ab (fun b=>b=a.block\/b=q.block) w0 w'):=by
 refine Tw (some a) (some q) w0 (fun w'=>fi S w' a s bs (vY bs r).2/\ai w' q (cells.set 7<|vu ((vY bs r).1:Int)) 314/\ab (fun b=>b=a.block\/b=q.block) w0 w') ?_;refine(AB a s bs r w0 h hat hS).mono ?_;rintro e f ⟨x,rfl,rfl,j,g⟩;have c:=hq.ext g fun e=>haq e.symm;refine⟨_,rfl,q,rfl,c.eh (i:=7) Om,?_⟩;rintro l rfl;have d:ab (·=q.block) f (f.setCell (q.add 7)<|vu ((vY bs r).1:Int)):=qT;exact⟨j.ext d (fun b k e=>hSq b k e) haq,c.set 7 _,(g.mono fun _ _ e=>.inl e).trans<|d.mono fun _ _ e=>.inr e⟩
def Qy:cl 254 #[vp<|some a,vp<|some q] w0 (fun e w'=>e=.returned (.tuple #[])/\fi S w' a s bs (vY bs r).2/\ai w' q (cells.set 8<|vu ((vY bs r).1:Int)) 314/\ab (fun b=>b=a.block\/b=q.block) w0 w'):=by
 refine ZH (some a) (some q) w0 (fun w'=>fi S w' a s bs (vY bs r).2/\ai w' q (cells.set 8<|vu ((vY bs r).1:Int)) 314/\ab (fun b=>b=a.block\/b=q.block) w0 w') ?_;refine(AB a s bs r w0 h hat hS).mono ?_;rintro e f ⟨x,rfl,rfl,j,g⟩;have c:=hq.ext g fun e=>haq e.symm;refine⟨_,rfl,q,rfl,c.eh (i:=8) Om,?_⟩;rintro l rfl;have d:ab (·=q.block) f (f.setCell (q.add 8)<|vu ((vY bs r).1:Int)):=qT;exact⟨j.ext d (fun b k e=>hSq b k e) haq,c.set 8 _,(g.mono fun _ _ e=>.inl e).trans<|d.mono fun _ _ e=>.inr e⟩
def zFK:cl 256 #[vp<|some a,vp<|some q] w0 (fun e w'=>e=.returned (.tuple #[])/\fi S w' a s bs (vY bs r).2/\ai w' q (cells.set 3<|vu ((vY bs r).1:Int)) 314/\ab (fun b=>b=a.block\/b=q.block) w0 w'):=by
 refine Yz (some a) (some q) w0 (fun w'=>fi S w' a s bs (vY bs r).2/\ai w' q (cells.set 3<|vu ((vY bs r).1:Int)) 314/\ab (fun b=>b=a.block\/b=q.block) w0 w') ?_;refine(AB a s bs r w0 h hat hS).mono ?_;rintro e f ⟨x,rfl,rfl,j,g⟩;have c:=hq.ext g fun e=>haq e.symm;refine⟨_,rfl,q,rfl,c.eh (i:=3) Om,?_⟩;rintro l rfl;have d:ab (·=q.block) f (f.setCell (q.add 3)<|vu ((vY bs r).1:Int)):=qT;exact⟨j.ext d (fun b k e=>hSq b k e) haq,c.set 3 _,(g.mono fun _ _ e=>.inl e).trans<|d.mono fun _ _ e=>.inr e⟩
def YM:cl 259 #[vp<|some a,vp<|some q] w0 (fun e w'=>e=.returned (.tuple #[])/\fi S w' a s bs (qH bs 64 r).2/\ai w' q (cells.set 4<|vs ⟨(qH bs 64 r).1.toArray⟩) 314/\ab (fun b=>b=a.block\/b=q.block) w0 w'):=by
 refine jan (some a) (some q) w0 (fun w'=>fi S w' a s bs (qH bs 64 r).2/\ai w' q (cells.set 4<|vs ⟨(qH bs 64 r).1.toArray⟩) 314/\ab (fun b=>b=a.block\/b=q.block) w0 w') ?_;refine(Tv a s bs 64 r w0 h hat hS Om).mono ?_;rintro e f ⟨x,rfl,rfl,j,g⟩;have c:=hq.ext g fun e=>haq e.symm;refine⟨_,rfl,q,rfl,c.eh (i:=4) Om,?_⟩;rintro l rfl;have d:ab (·=q.block) f (f.setCell (q.add 4)<|vs ⟨(qH bs 64 r).1.toArray⟩):=qT;exact⟨j.ext d (fun b k e=>hSq b k e) haq,c.set 4 _,(g.mono fun _ _ e=>.inl e).trans<|d.mono fun _ _ e=>.inr e⟩
def Yi:cl 262 #[vp<|some a,vp<|some q] w0 (fun e w'=>e=.returned (.tuple #[])/\fi S w' a s bs (vY bs r).2/\ai w' q ((cells.set 9<|vu ((vY bs r).1:Int)).set 11<|vi 1) 314/\ab (fun b=>b=a.block\/b=q.block) w0 w'):=by
 refine VB (some a) (some q) w0 (fun w'=>fi S w' a s bs (vY bs r).2/\ai w' q ((cells.set 9<|vu ((vY bs r).1:Int)).set 11<|vi 1) 314/\ab (fun b=>b=a.block\/b=q.block) w0 w') ?_;refine(AB a s bs r w0 h hat hS).mono ?_;rintro e g ⟨x,rfl,rfl,k,j⟩;have d:=hq.ext j fun e=>haq e.symm;refine⟨_,rfl,q,rfl,d.eh (i:=9) Om,?_⟩;rintro n rfl;have f:ab (·=q.block) g ((g.setCell (q.add 9)<|vu ((vY bs r).1:Int)).setCell (q.add 11)<|vi 1):=qT.trans qT;have c:=d.set 9<|vu ((vY bs r).1:Int);refine⟨q,rfl,c.eh (i:=11) Gd,?_⟩;rintro m rfl;exact⟨k.ext f (fun b l e=>hSq b l e) haq,c.set 11 _,(j.mono fun _ _ e=>.inl e).trans<|f.mono fun _ _ e=>.inr e⟩
def jdb:cl 264 #[vp<|some a,vp<|some q] w0 (fun e w'=>e=.returned (.tuple #[])/\fi S w' a s bs (vY bs r).2/\ai w' q ((cells.set 10<|vu ((vY bs r).1:Int)).set 11<|vi 2) 314/\ab (fun b=>b=a.block\/b=q.block) w0 w'):=by
 refine SS (some a) (some q) w0 (fun w'=>fi S w' a s bs (vY bs r).2/\ai w' q ((cells.set 10<|vu ((vY bs r).1:Int)).set 11<|vi 2) 314/\ab (fun b=>b=a.block\/b=q.block) w0 w') ?_;refine(AB a s bs r w0 h hat hS).mono ?_;rintro e g ⟨x,rfl,rfl,k,j⟩;have d:=hq.ext j fun e=>haq e.symm;refine⟨_,rfl,q,rfl,d.eh (i:=10) Om,?_⟩;rintro n rfl;have f:ab (·=q.block) g ((g.setCell (q.add 10)<|vu ((vY bs r).1:Int)).setCell (q.add 11)<|vi 2):=qT.trans qT;have c:=d.set 10<|vu ((vY bs r).1:Int);refine⟨q,rfl,c.eh (i:=11) Gd,?_⟩;rintro m rfl;exact⟨k.ext f (fun b l e=>hSq b l e) haq,c.set 11 _,(j.mono fun _ _ e=>.inl e).trans<|f.mono fun _ _ e=>.inr e⟩
end
end Go.Proofs
end
section
open Go.SE
namespace Go.Proofs
def gu(V:Int->Bool)(t:Int)(b:Bool):Int->Bool:=fun x=>if x=t then b else V x
def yX(L:aw):Nat->Int->(Int->Bool)×List Int->(Int->Bool)×List Int
 |0,_,st=>st
 | n + 1, t, st => if al L t = true /\ st.1 t = false then
   let c:=yX L n (ad L t).b<|yX L n (ad L t).a (gu st.1 t true,st.2)
   (c.1,c.2++[t])
  else st
def dd(L:aw)(t:Int):List Int:=(yX L (t.toNat+1) t (fun _=>false,[])).2
def ja.head{L t y}(h:ja L t y):y=t\/∃k∈zB (ad L t),ja L k y:=by
 induction h with
 |refl=>exact .inl rfl
 |fj _ a b =>
  rcases b with rfl|⟨k,h1,h2⟩
  exact .inr ⟨_,a,.refl _⟩
  exact .inr ⟨k,h1,h2.fj a⟩
def ja.le{L}(b:Wf L){t y}(ht:al L t=true)(h:ja L t y):al L y=true/\y<=t:=by
 induction h with
 |refl=>exact⟨ht,Int.le_refl _⟩
 |fj _ c a =>
  have:=(b.node a.1).2.2.2.2.1 _ c
  exact⟨this.1,Om⟩
def OO{n k}(h:k∈zB n):k=n.a\/k=n.b:=by
 unfold zB at h;have:=List.mem_of_mem_take h;simpa using this
def BP{L}(c:Wf L){t k}(ht:al L t=true)(h:k=(ad L t).a\/k=(ad L t).b)(d:al L k=true):k∈zB (ad L t):=by
 have h1:=(c.node ht).2.1;have h2:=(c.node ht).2.2.1;have f:k≠0:=Oh<|(zI.1 d).1;unfold zB;rcases yM (ad L t).kind with e|e|e;grind;have b0:=h2 Om;rcases h with h|h;rw[e,h];simp;grind;rw[e];rcases h with h|h<;>simp[h]
structure td(L:aw)(st:(Int->Bool)×List Int):Prop where
 Av:∀x∈st.2,st.1 x=true
 sL:∀x∈st.2,∀y,ja L x y->y∈st.2
 nd:st.2.Nodup
 iq:∀x∈st.2,al L x=true
structure ZZ(L:aw)(t:Int)(st a:(Int->Bool)×List Int):Prop extends td L a where
 jf:∃M,a.2=st.2++M/\∀x∈M,ja L t x/\al L t=true
 gq:∀x,st.1 x=true->a.1 x=true
 ue:∀x,a.1 x=true->st.1 x=true\/x∈a.2
 all:al L t=true->∀y,ja L t y->y∈a.2
def tb{L}(m:Wf L):∀(n:Nat) (t:Int) (st:(Int->Bool)×List Int),t.toNat<n->td L st->(∀x,st.1 x=true->x<=t->x∈st.2)->ZZ L t st (yX L n t st):=by
 intro n;induction n with
 |zero=>intro t st h;omega
 |succ n B =>
  intro t st I au hm
  rw[yX]
  by_cases v:al L t=true/\st.1 t=false
  rw[if_pos v]
  have⟨d,s⟩:=v
  have G:=(zI.1 d).1
  have f:=(m.node d).2.2.2.2.1
  have g:∀k,k=(ad L t).a\/k=(ad L t).b->k<t:=by
   intro k i;cases F:al L k with
   |true=>exact(f k<|BP m d i F).2
   |false =>
    have h1:=(m.node d).2.1
    have h2:=(m.node d).2.2.1
    rcases yM (ad L t).kind with e|e|e
    grind
    have b0:=h2 Om
    rcases i with i|i
    have:=(f k (by unfold zB;rw[e,i];simp)).2;exact this
    omega
    exact(f k (by unfold zB;rw[e];rcases i with i|i<;>simp[i])).2
  have o1:td L (gu st.1 t true,st.2):=⟨fun x c=>by simp only[gu];split<;>simp[au.Av x c],au.sL,au.nd,au.iq⟩
  have r1:=B (ad L t).a (gu st.1 t true,st.2) (Oh<|g _<|.inl rfl) o1 (fun x c r=>by
   have:=g _<|.inl rfl;simp only[gu]at c;rw[if_neg Om]at c;exact hm x c Om)
  generalize yX L n (ad L t).a (gu st.1 t true,st.2)=s1 at *
  have r2:=B (ad L t).b s1 (Oh<|g _<|.inr rfl) r1.totd (fun x c r=>by
   have:=g _<|.inr rfl;rcases r1.ue x c with h|h;simp only[gu]at h;rw[if_neg Om]at h;have:=hm x h Om;have⟨M,e,_⟩:=r1.jf;simp only at e;rw[e];exact List.mem_append_left _ this;exact h)
  generalize yX L n (ad L t).b s1=q at *
  have⟨E,A,D⟩:=r1.jf
  have⟨H,z,C⟩:=r2.jf
  simp only at A
  have u:q.1 t=true:=r2.gq t<|r1.gq t (by simp[gu])
  have w:t∉q.2:=by
   rw[z,A];intro h;rcases List.mem_append.1 h with h|h;rcases List.mem_append.1 h with h|h;have:=au.Av t h;rw[s]at this;cases this;have⟨h1,h2⟩:=D t h;have:=(h1.le m h2).2;have:=g _<|.inl rfl;omega;have⟨h1,h2⟩:=C t h;have:=(h1.le m h2).2;have:=g _<|.inr rfl;omega
  have l:∀y,ja L t y->y∈q.2++[t]:=by
   intro y j;rcases j.head with rfl|⟨k,i,hs⟩;simp;refine List.mem_append_left _ ?_;have o:=(f k i).1;rcases OO i with rfl|rfl;rw[z];exact List.mem_append_left _<|r1.all o y hs;exact r2.all o y hs
  refine⟨⟨fun x c=>?_,fun x c y j=>?_,?_,fun x c=>?_⟩,⟨E++H++[t],by simp[z,A],fun x c=>?_⟩,fun x c=>?_,fun x c=>?_,fun _=>l⟩
  simp only[List.mem_append,List.mem_singleton]at c
  rcases c with c|rfl
  exact r2.Av x c
  exact u
  simp only[List.mem_append,List.mem_singleton]at c
  rcases c with c|rfl
  exact List.mem_append_left _<|r2.sL x c y j
  exact l y j
  rw[List.nodup_append]
  exact⟨r2.nd,Sm,fun x c y j e=>by simp at j;subst j;exact w<|e▸c⟩
  simp only[List.mem_append,List.mem_singleton]at c
  rcases c with c|rfl
  exact r2.iq x c
  exact d
  refine⟨?_,d⟩
  simp only[List.mem_append,List.mem_singleton]at c
  rcases c with(c|c)|rfl
  have⟨h1,h2⟩:=D x c
  exact(ja.fj (.refl t)<|BP m d (.inl rfl) h2).trans h1
  have⟨h1,h2⟩:=C x c
  exact(ja.fj (.refl t)<|BP m d (.inr rfl) h2).trans h1
  exact .refl _
  exact r2.gq x<|r1.gq x (by simp only[gu];split<;>simp[c])
  rcases r2.ue x c with h|h
  rcases r1.ue x h with p|p
  simp only[gu]at p
  split at p
  grind
  exact .inl p
  grind
  grind
  rw[if_neg v]
  refine⟨au,⟨[],Sm,Sm⟩,fun x h=>h,fun x h=>.inl h,fun d y j=>?_⟩
  have s:st.1 t=true:=Gd
  exact au.sL t (hm t s<|Int.le_refl _) y j
def y8{L}(a:Wf L){t x}:x∈dd L t↔al L t=true/\ja L t x:=by
 have r:=tb a (t.toNat+1) t (fun _=>false,[]) Om ⟨Sm,Sm,Sm,Sm⟩ Sm;constructor;intro h;have⟨M,e,hm⟩:=r.jf;unfold dd at h;rw[e]at h;simp only[List.nil_append]at h;exact⟨(hm x h).2,(hm x h).1⟩;intro h;exact r.all h.1 x h.2
def uW{L}(a:Wf L)(t):(dd L t).length<=L.length:=by
 have r:=tb a (t.toNat+1) t (fun _=>false,[]) Om ⟨Sm,Sm,Sm,Sm⟩ Sm;exact xW r.nd r.iq
end Go.Proofs
end
section
namespace Go.Proofs
def Ord(L:aw)(l:List Int):Prop:=∀ba z a,l=ba++z ::a->∀k∈zB (ad L z),k∈ba
def Ord.sd{L l t}(h:Ord L l)(ht:∀k∈zB (ad L t),k∈l):Ord L (l++[t]):=by
 intro ba z b e k d;rcases List.eq_nil_or_concat b with rfl|⟨a,y,rfl⟩;have:=List.append_inj' e rfl;obtain⟨rfl,c⟩:=this;simp only[List.cons.injEq,and_true]at c;subst c;exact ht k d;have f:l++[t]=(ba++z ::a)++[y]:=by rw[e];simp
 have:=List.append_inj' f rfl;exact h ba z a this.1 k d
def ZL{L}(j:Wf L):∀(n:Nat) (t:Int) (st:(Int->Bool)×List Int),t.toNat<n->td L st->(∀x,st.1 x=true->x<=t->x∈st.2)->Ord L st.2->Ord L (yX L n t st).2:=by
 intro n;induction n with
 |zero=>intro t st h;omega
 |succ n q =>
  intro t st A au hm p
  rw[yX]
  by_cases o:al L t=true/\st.1 t=false
  rw[if_pos o]
  have⟨f,z⟩:=o
  have v:=(zI.1 f).1
  have c:=(j.node f).2.2.2.2.1
  have g:∀k,k=(ad L t).a\/k=(ad L t).b->k<t:=by
   intro k d;cases u:al L k with
   |true=>exact(c k<|BP j f d u).2
   |false =>
    have h1:=(j.node f).2.1
    have h2:=(j.node f).2.2.1
    rcases yM (ad L t).kind with e|e|e
    grind
    have b0:=h2 Om
    rcases d with d|d
    have:=(c k (by unfold zB;rw[e,d];simp)).2;exact this
    omega
    exact(c k (by unfold zB;rw[e];rcases d with d|d<;>simp[d])).2
  have o1:td L (gu st.1 t true,st.2):=⟨fun x i=>by simp only[gu];split<;>simp[au.Av x i],au.sL,au.nd,au.iq⟩
  have s:∀x,(gu st.1 t true,st.2).1 x=true->x<=(ad L t).a->x∈(gu st.1 t true,st.2).2:=fun x i m=>by
   have:=g _<|.inl rfl;simp only[gu]at i;rw[if_neg Om]at i;exact hm x i Om
  have n1:(ad L t).a.toNat<n:=Oh<|g _<|.inl rfl
  have n2:(ad L t).b.toNat<n:=Oh<|g _<|.inr rfl
  have r1:=tb j n (ad L t).a (gu st.1 t true,st.2) n1 o1 s
  have d1:=q (ad L t).a (gu st.1 t true,st.2) n1 o1 s p
  generalize yX L n (ad L t).a (gu st.1 t true,st.2)=s1 at *
  have r:∀x,s1.1 x=true->x<=(ad L t).b->x∈s1.2:=fun x i m=>by
   have:=g _<|.inr rfl;rcases r1.ue x i with h|h;simp only[gu]at h;rw[if_neg Om]at h;have:=hm x h Om;have⟨M,e,_⟩:=r1.jf;simp only at e;rw[e];exact List.mem_append_left _ this;exact h
  have r2:=tb j n (ad L t).b s1 n2 r1.totd r
  have d2:=q (ad L t).b s1 n2 r1.totd r d1
  generalize yX L n (ad L t).b s1=y at *
  have⟨B,w,_⟩:=r2.jf
  refine d2.sd fun k d=>?_
  have l:=(c k d).1
  rcases OO d with rfl|rfl
  rw[w];exact List.mem_append_left _<|r1.all l _<|.refl _
  exact r2.all l _<|.refl _
  rw[if_neg o];exact p
def Gb{L}(b:Wf L)(t):Ord L (dd L t):=
 ZL b (t.toNat+1) t (fun _=>false,[]) Om ⟨Sm,Sm,Sm,Sm⟩ Sm (fun ba z a e=>by simp at e)
def AW{L}(a:Wf L)(t):(dd L t).Nodup:=
 (tb a (t.toNat+1) t (fun _=>false,[]) Om ⟨Sm,Sm,Sm,Sm⟩ Sm).nd
inductive bo|mv|oD|num|bb|fst|snd
deriving DecidableEq
def qP(k:Int):List bo:=
 if k=1 then[.mv]else if k=2 then[.num]else if k=3 then[.bb]else if k=4 then[.fst,.snd]else if k=5 then[.fst]else if k=6 then[.mv]else if k=7 then[.mv,.fst]else if k=8 then[.mv,.oD,.fst]else if k=9 then[.mv,.oD,.fst]else[]
def bo.bytes(n:di)(a b:Nat):bo->List UInt8
 |.mv=>vF n.az.toNat|.oD=>vF n.to.toNat|.num=>vF n.num.toNat|.bb=>vU n.bb|.fst=>vF a|.snd=>vF b
def dc(seen:List Int)(t:Int):Nat:=seen.idxOf t
def yH(L:aw)(seen:List Int)(t:Int):List UInt8:=
 UInt8.ofNat (ad L t).kind.toNat ::(qP (ad L t).kind).flatMap (bo.bytes (ad L t) (dc seen (ad L t).a)<|dc seen (ad L t).b)
def fx(L:aw):List Int->List Int->List UInt8
 |_,[]=>[]
 |seen,t :: l=>yH L seen t++fx L (seen++[t]) l
def FM(L l t):∀seen,fx L seen (l++[t])=fx L seen l++yH L (seen++l) t:=by
 induction l with
 |nil=>intro seen;simp[fx]
 |cons x l a=>intro seen;simp only[List.cons_append,fx];rw[a];simp
def qL(L:aw)(t:Int):List UInt8:=fx L []<|dd L t
def IB{l l' u}(h:u∈l):dc (l++l') u=dc l u:=by unfold dc;rw[List.idxOf_append,if_pos h]
def DK{l z}(h:z∉l):dc (l++[z]) z=l.length:=by unfold dc;rw[List.idxOf_append,if_neg h];simp
def CK{l t}(ht:t∈l):dc l t<l.length:=List.idxOf_lt_length_of_mem ht
def iz(L:aw)(t:Int):List UInt8×Int:=if al L t then(if(qL L t).length>4096 then([],1)else(qL L t,0))else([],51)
end Go.Proofs
end
section
open Go Go.SE List
namespace Go.Proofs
open Tryz
attribute [local irreducible] Calls CallsD
def bo.put:bo->FuncId
 |.mv=>249|.oD=>253|.num=>255|.bb=>257|.fst=>261|.snd=>263
def bo.get:bo->FuncId
 |.mv=>251|.oD=>254|.num=>256|.bb=>259|.fst=>262|.snd=>264
def bo.row(f:bo):List Value:=[.func (.func f.put) #[] #[],.func (.func f.get) #[] #[]]
structure wB(a w:World)(m:Nat)(c:List (Addr×bo))(M:List (Int×Sl)):Prop where
 box:∀b∈c,ai w b.1 b.2.row 255/\b.1.block≠m
 map:fc Sl.v w m M
 el:∀p∈M,dr (fun b=>a.heap.size<=b/\b≠m) w 2 p.2<|(qP p.1).map bo.row
 pure:Pure a w
 ak:a.heap.size<=m
def wB.step{z w t:World}{m:Nat}{y:List (Addr×bo)}{M:List (Int×Sl)}(h:wB z w m y M){cs:Array Value}{p:Addr}(n1:av w (.cells cs 255) p t)(k:Int)(n:Nat)(E:(qP k).length=n)(ez:cs.toList=((qP k).map bo.row).flatten)(B:SE.eu M k=none):
  ∃l,(Instr.mapUpdate 249 (.map<|some m) (vi k) (Sl.mk (some p) n n).v).run prog t=.ok () l/\wB z l m y (M++[(k,Sl.mk (some p) n n)]):=by
 have o:Pure w t:=ab.ax n1
 have⟨l,hr,C,s⟩:=(h.map.pure o).put (P:=prog) (T:=249) underlying249 underlying3 B<|Sl.mk (some p) n n
 have G:=ai.fp n1
 have d:=n1.cu
 have hm:=h.map.lt
 refine⟨l,hr,⟨fun b d=>⟨((h.box b d).1.pure o).ext s (h.box b d).2,(h.box b d).2⟩,C,?_,(h.pure.trans o).cg s fun i hi e=>Oh h.ak,h.ak⟩⟩
 intro q c
 rcases mem_append.1 c with c|c
 exact((h.el q c).pure o).ext s fun b d=>d.2
 simp only[mem_singleton]at c
 subst c
 refine⟨by simp[E],fun i hi=>?_⟩
 have F:i<(qP k).length:=by simpa using hi
 refine⟨p.add<|i*2,⟨Om,So,p,rfl,Sm⟩,?_,?_⟩
 rw[zC];exact⟨Oh h.pure.size,Om⟩
 have g:Row l p cs.toList:=s.row (G.row) Om
 intro j A
 rw[yO]
 have a:∀r∈(qP k).map bo.row,r.length=2:=by intro r hr;obtain⟨f,_,rfl⟩:=mem_map.1 hr;rfl
 have u:j<2:=by rw[a _<|getElem_mem hi]at A;exact A
 have D:=DW a hi u
 have x:i*2+j<cs.toList.length:=by rw[ez,vL a,length_map];omega
 rw[g _ x,ez,D]
structure ER(c w:World)(a:List (Addr×bo)):Prop where
 box:∀b∈a,ai w b.1 b.2.row 255
 pure:Pure c w
def ER.step{i w d:World}{l:List (Addr×bo)}(h:ER i w l){p:Addr}(n1:av w (.cells #[.nilFunc,.nilFunc] 255) p d)(f:bo){A:WP}(k:∀w',ER i w' (l++[(p,f)])->A w'):(∀j,j<2->zL d (p.add j))/\∀w',w'=bd d p f.row->A w':=by
 have g:Pure w d:=ab.ax n1;refine bx 2 (ai.fp n1) rfl rfl fun m b E=>k m ⟨fun c a=>?_,h.pure.ak (p:=p) (by rw[n1.cu];exact h.pure.size) ((ab.pure g).trans E)⟩;rcases mem_append.1 a with a|a;have hB:=h.box c a;exact(hB.pure g).ext E fun e=>Oi (World.block_lt_of_cell? w c.1 hB.bf) n1.cu;grind
def wB.get{w0 w m}{a:List (Addr×bo)}{M:List (Int×Sl)}(h:wB w0 w m a M){p f}(b:(p,f)∈a):Row w p [.func (.func f.put) #[] #[],.func (.func f.get) #[] #[]]:=(h.box _ b).1.row
def ZV(a:World):cl 164 #[] a (fun e w'=>∃x:Option Nat,e=.returned (.map x)/\∃m M,x=some m/\(∃k,wB a w' m k M)/\M.map Prod.fst=[1,2,3,4,5,6,7,8,9]):=by
 refine Wc a (fun x w'=>∃m M,x=some m/\(∃k,wB a w' m k M)/\M.map Prod.fst=[1,2,3,4,5,6,7,8,9]) ?_;unfold MK;have U:ER a a []:=⟨fun b d=>(by cases d),ab.refl _⟩;intro p1 v1 n1;refine U.step n1 .mv fun u1 h1=>?_;intro p2 v2 n2;refine h1.step n2 .oD fun u2 h2=>?_;intro p3 v3 n3;refine h2.step n3 .num fun u3 h3=>?_;intro p4 v4 n4;refine h3.step n4 .bb fun u4 N=>?_;intro p5 v5 n5;refine N.step n5 .fst fun u5 S=>?_;intro p6 v6 n6;refine S.step n6 .snd fun W h=>?_;intro n F c;have s:wB a F n.block _ []:=⟨fun b d=>⟨(h.box b d).pure<|ab.ax c,fun e=>Oi (World.block_lt_of_cell? W b.1 (h.box b d).bf) c.cu⟩,fc.bj c,fun p Y=>(by cases Y),h.pure.trans<|ab.ax c,by rw[c.cu];exact h.pure.size⟩;refine⟨_,_,s.get (f:=.mv) Sm,?_⟩;intro q1 x1 J;have⟨R,r1,r⟩:=s.step J 1 1 rfl rfl (by simp[SE.eu]);refine⟨R,r1,?_⟩;refine⟨_,_,r.get (f:=.num) Sm,?_⟩;intro q2 x2 K;have⟨u,r2,t⟩:=r.step K 2 1 rfl rfl (by simp[SE.eu]);refine⟨u,r2,?_⟩;refine⟨_,_,t.get (f:=.bb) Sm,?_⟩;intro q3 x3 H;have⟨B,r3,l⟩:=t.step H 3 1 rfl rfl (by simp[SE.eu]);refine⟨B,r3,?_⟩;refine⟨_,_,l.get (f:=.fst) Sm,?_⟩;refine⟨_,_,l.get (f:=.snd) Sm,?_⟩;intro q4 x4 T;have⟨D,E,o⟩:=l.step T 4 2 rfl rfl (by simp[SE.eu]);refine⟨D,E,?_⟩;refine⟨_,_,o.get (f:=.fst) Sm,?_⟩;intro q5 x5 Z;have⟨A,G,q⟩:=o.step Z 5 1 rfl rfl (by simp[SE.eu]);refine⟨A,G,?_⟩;refine⟨_,_,q.get (f:=.mv) Sm,?_⟩;intro q6 x6 z;have⟨P,Q,j⟩:=q.step z 6 1 rfl rfl (by simp[SE.eu]);refine⟨P,Q,?_⟩;refine⟨_,_,j.get (f:=.mv) Sm,?_⟩;refine⟨_,_,j.get (f:=.fst) Sm,?_⟩;intro q7 x7 X;have⟨z7,I,g⟩:=j.step X 7 2 rfl rfl (by simp[SE.eu]);refine⟨z7,I,?_⟩;refine⟨_,_,g.get (f:=.mv) Sm,?_⟩;refine⟨_,_,g.get (f:=.oD) Sm,?_⟩;refine⟨_,_,g.get (f:=.fst) Sm,?_⟩;intro q8 x8 w;have⟨y,O,i⟩:=g.step w 8 3 rfl rfl (by simp[SE.eu]);refine⟨y,O,?_⟩;refine⟨_,_,i.get (f:=.mv) Sm,?_⟩;refine⟨_,_,i.get (f:=.oD) Sm,?_⟩;refine⟨_,_,i.get (f:=.fst) Sm,?_⟩;intro q9 x9 C;have⟨V,v,L⟩:=i.step C 9 3 rfl rfl (by simp[SE.eu]);refine⟨V,v,?_⟩;exact⟨n.block,_,rfl,⟨_,L⟩,rfl⟩
end Go.Proofs
end
section
namespace Go.Proofs
def bo.rd(bs:List UInt8)(r:Rd):bo->Rd
 |.bb=>(qH bs 64 r).2
 |_=>(vY bs r).2
structure gm where
 num:Nat
 bb:List UInt8
 az:Nat
 to:Nat
 a:Nat
 b:Nat
 kids:Nat
def yF:gm:=⟨0,[],0,0,0,0,0⟩
def bo.pa(bs:List UInt8)(r:Rd)(x:gm):bo->gm
 |.mv=>{ x with az:=(vY bs r).1 }
 |.oD=>{ x with to:=(vY bs r).1 }
 |.num=>{ x with num:=(vY bs r).1 }
 |.bb=>{ x with bb:=(qH bs 64 r).1 }
 |.fst=>{ x with a:=(vY bs r).1,kids:=1 }
 |.snd=>{ x with b:=(vY bs r).1,kids:=2 }
def vD(bs:List UInt8):List bo->gm×Rd->gm×Rd
 |[],s=>s
 |f :: l,(x,r)=>vD bs l (f.pa bs r x,f.rd bs r)
def lf(k n:Nat)(x:gm)(e:Nat):Nat:=
 if e≠0 then e
 else if 16<=x.az\/16<=x.to\/((k=8\/k=9)/\x.az=x.to)then 50
 else if(0<x.kids/\n<=x.a)\/(1<x.kids/\n<=x.b)then 71
 else 0
def gm.node(k:Nat)(x:gm):di:=⟨k,x.az,x.to,x.num,⟨x.bb.toArray⟩,if 0<x.kids then(x.a:Int)+1 else 0,if 1<x.kids then(x.b:Int)+1 else 0⟩
def uL(k:Nat):Bool:=decide (1<=k)&&decide (k<=9)
def jo(L:aw)(k:Nat)(s:gm×Rd):aw×Int×Rd:=
 if lf k L.length s.1 s.2.cq≠0 then(L,((lf k L.length s.1 s.2.cq:Nat):Int),s.2)
 else if(find L<|s.1.node k).isSome=true then(L,72,s.2)
 else((ay L<|s.1.node k).2.2,(ay L<|s.1.node k).2.1,s.2)
def vS(bs:List UInt8)(L:aw)(r:Rd):aw×Int×Rd:=
 if uL (xM bs r).1=true then jo L (xM bs r).1 (vD bs (qP (xM bs r).1) (yF,(xM bs r).2))
 else(L,70,(xM bs r).2)
def ia:Nat->List Int->Nat
 |i,[]=>i
 |i,s :: l=>if s=(i:Int)+1 then ia (i+1) l else i
def pZ(L:aw)(a:List Nat):Option aw×Int×Nat:=
 let i:=ia 0<|dd L L.length
 if h:i<a.length then(none,73,a[i])else(some L,0,0)
def oB(bs:List UInt8):Nat->aw->Rd->List Nat->Option aw×Int×Nat
 |0,L,_,a=>pZ L a
 |n+1,L,r,a =>
  if r.at_<bs.length then
   if(vS bs L r).2.1≠0 then(none,(vS bs L r).2.1,r.at_)
   else oB bs n (vS bs L r).1 (vS bs L r).2.2 (a++[r.at_])
  else pZ L a
def vB(bs:List UInt8):Option aw×Int×Nat:=
 if 4096<bs.length then(none,1,0)else if bs.length=0 then(none,3,0)else oB bs bs.length [] ⟨0,0,0⟩ []
def zU(Lq:aw):List Int->aw->(Int->Int)->aw×Int×(Int->Int)
 |[],L,ak=>(L,0,ak)
 |s :: l,L,ak =>
  let m:=ay L { ad Lq s with a:=ak (ad Lq s).a,b:=ak (ad Lq s).b }
  if m.2.1≠0 then(L,m.2.1,ak)else zU Lq l m.2.2 fun x=>if x=s then m.1 else ak x
def vH(L Lq:aw)(t:Int):Int×Int×aw:=
 if al Lq t=true then
  let c:=zU Lq (dd Lq t) L fun _=>0
  if c.2.1≠0 then(0,c.2.1,L)else(c.2.2 t,0,c.1)
 else(0,51,L)
def yP(L:aw)(bs:List UInt8):Int×Int×Nat×aw:=
 match(vB bs).1 with
 |none=>(0,(vB bs).2.1,(vB bs).2.2,L)
 |some q=>((vH L q q.length).1,(vH L q q.length).2.1,0,(vH L q q.length).2.2)
def E0(bs r)(h:r.at_<=bs.length):r.at_<=(vY bs r).2.at_/\(vY bs r).2.at_<=bs.length:=by
 have key:∀(l:List UInt8) (i n:Nat) (m k:Nat),xS i n l=.ok (m,k)->k<=i+l.length/\i<k:=by
  intro l;induction l with
  |nil=>intro i n m k h;simp[xS]at h
  |cons c l a =>
   intro i n m k h
   rw[xR]at h
   split at h
   cases h
   grind
 unfold vY;split;grind;exact⟨Nat.le_refl _,h⟩
def MC(bs m r)(h:r.at_<=bs.length):r.at_<=(qH bs m r).2.at_/\(qH bs m r).2.at_<=bs.length:=by
 have a:=E0 bs r h;unfold vY at a;unfold qH;split;grind;exact⟨Nat.le_refl _,h⟩
def bo.jaS(bs:List UInt8)(r:Rd)(f:bo)(h:r.at_<=bs.length):r.at_<=(f.rd bs r).at_/\(f.rd bs r).at_<=bs.length:=by
 cases f<;>first|exact MC bs 64 r h|exact E0 bs r h
def Nj(bs:List UInt8):∀(l:List bo) (x:gm) (r:Rd),r.at_<=bs.length->r.at_<=(vD bs l (x,r)).2.at_/\(vD bs l (x,r)).2.at_<=bs.length:=by
 intro l;induction l with
 |nil=>intro x r h;exact⟨Nat.le_refl _,h⟩
 |cons f l a =>
  intro x r h
  have h1:=f.jaS bs r h
  have h2:=a (f.pa bs r x) (f.rd bs r) h1.2
  rw[vD];omega
def Li(bs r)(h:r.at_<bs.length)(a:r.cq=0):xM bs r=(bs[r.at_].toNat,⟨r.at_+1,0,r.spot⟩):=by
 unfold xM;rw[if_pos a,dif_pos h]
def Ar(bs L r)(h:r.at_<bs.length)(a:r.cq=0):vS bs L r =
  (if uL bs[r.at_].toNat=true then jo L bs[r.at_].toNat (vD bs (qP bs[r.at_].toNat) (yF,⟨r.at_+1,0,r.spot⟩))else(L,70,⟨r.at_+1,0,r.spot⟩)):=by
 unfold vS
 rw[Li bs r h a]
def GW{L k}{s:gm×Rd}(h:(jo L k s).2.1=0):s.2.cq=0/\lf k L.length s.1 s.2.cq=0/\find L (s.1.node k)=none/\(ay L<|s.1.node k).2.1=0/\jo L k s=((ay L<|s.1.node k).2.2,0,s.2):=by
 unfold jo at *;split at h;grind;rename_i h1;rw[if_neg h1];have h1:lf k L.length s.1 s.2.cq=0:=Om;have a:s.2.cq=0:=by
  by_cases h2:s.2.cq=0;exact h2;exfalso;unfold lf at h1;rw[if_pos h2]at h1;exact h2 h1
 split at h;simp at h;rename_i h3;rw[if_neg h3];simp only at h;exact⟨a,h1,by simpa using h3,h,by rw[h]⟩
def IY(bs L r)(h:r.at_<bs.length)(c:r.cq=0)(a:(vS bs L r).2.1=0):r.at_<(vS bs L r).2.2.at_/\(vS bs L r).2.2.at_<=bs.length/\(vS bs L r).2.2.cq=0:=by
 have b:=Nj bs (qP bs[r.at_].toNat) yF ⟨r.at_+1,0,r.spot⟩ Sy;simp only at b;rw[Ar bs L r h c]at *;split at a;rename_i e;rw[if_pos e];have⟨h1,_,_,_,d⟩:=GW a;rw[d];exact⟨Sy,b.2,h1⟩;simp at a
def DH{bs L r ps}(h:¬r.at_<bs.length):∀n,oB bs n L r ps=pZ L ps:=by
 intro n;cases n with
 |zero=>rfl
 |succ n=>rw[oB,if_neg h]
end Go.Proofs
end
section
open Go Go.SE List
namespace Go.Proofs
open Tryz
attribute [local irreducible] Calls CallsD
def RC{S:NP}(f:bo)(s:Sl)(bs:List UInt8)(n:di)(j g h:Nat)(M:List (Int×Int))(c:World)(hs:dr S c 1 s (dn bs))(d:s.a=none->s=Sl.nil)(e:bs.length<=10000000000)(h1:0<=n.az/\n.az<9223372036854775808)(h2:0<=n.to/\n.to<9223372036854775808)(h3:0<=n.num/\n.num<18446744073709551616)(o:n.bb.size<=10000000000)(k:fc (fun i:Int=>vi i) c h M)(m:f=.fst->SE.eu M n.a=some (j:Int)/\j<9223372036854775808)(l:f=.snd->SE.eu M n.b=some (g:Int)/\g<9223372036854775808):
  Calls prog f.put #[s.v,.agg #[vi n.kind,vi n.az,vi n.to,vu n.num,vs n.bb,vi n.a,vi n.b],.map<|some h] c<|XA fun r w'=>fv c 5 1 (dn<|bs++f.bytes n j g) r w':=by
 cases f
 exact Yu s bs _ _ _ _ _ _ _ _ c hs d e n.az.toNat Om Om
 exact zJC s bs _ _ _ _ _ _ _ _ c hs d e n.to.toNat Om Om
 exact Zd s bs _ _ _ _ _ _ _ _ c hs d e n.num.toNat Om Om
 exact ZN s bs _ _ _ _ _ _ _ _ c hs d e o
 exact jcz s bs _ _ _ _ _ _ _ c hs d e h M j k (m rfl).1 (m rfl).2
 exact jcc s bs _ _ _ _ _ _ _ c hs d e h M g k (l rfl).1 (l rfl).2
def bo.rK(bs:List UInt8)(r:Rd)(cells:List Value):bo->List Value
 |.mv=>cells.set 7<|vu ((vY bs r).1:Int)
 |.oD=>cells.set 8<|vu ((vY bs r).1:Int)
 |.num=>cells.set 3<|vu ((vY bs r).1:Int)
 |.bb=>cells.set 4<|vs ⟨(qH bs 64 r).1.toArray⟩
 |.fst=>(cells.set 9<|vu ((vY bs r).1:Int)).set 11<|vi 1
 |.snd=>(cells.set 10<|vu ((vY bs r).1:Int)).set 11<|vi 2
def jbh{S:NP}(f:bo)(a q:Addr)(s:Sl)(bs:List UInt8)(r:Rd)(cells:List Value)(i:World)(h:fi S i a s bs r)(d:r.at_<=bs.length)(hS:∀b,S b->b<i.heap.size)(k:ai i q cells 314)(j:cells.length=12)(c:a.block≠q.block)(g:∀b,S b->b≠q.block):
  Calls prog f.get #[vp<|some a,vp<|some q] i<|fun e w'=>e=.returned (.tuple #[])/\fi S w' a s bs (f.rd bs r)/\ai w' q (f.rK bs r cells) 314/\ab (fun b=>b=a.block\/b=q.block) i w':=by
 cases f
 exact V1 a q s bs r cells i h d hS k j c g
 exact Qy a q s bs r cells i h d hS k j c g
 exact zFK a q s bs r cells i h d hS k j c g
 exact YM a q s bs r cells i h d hS k j c g
 exact Yi a q s bs r cells i h d hS k j c g
 exact jdb a q s bs r cells i h d hS k j c g
structure pS(w:World)(m:Nat)(F:NP):Prop where
 ex:∃M:List (Int×Sl),fc Sl.v w m M/\(∀p∈M,dr F w 2 p.2<|(qP p.1).map bo.row)/\M.map Prod.fst=[1,2,3,4,5,6,7,8,9]
 lt:∀b,F b->b<w.heap.size
 ne:∀b,F b->b≠m
def pS.ext{w w' m F G}(h:pS w m F)(E:ab G w w')(c:∀b,F b\/b=m->¬G b):pS w' m F:=by
 have⟨M,h1,h2,h3⟩:=h.ex;exact⟨⟨M,h1.ext E<|c m<|.inr rfl,fun p d=>(h2 p d).ext E fun b a=>c b<|.inl a,h3⟩,fun b a=>Nat.lt_of_lt_of_le (h.lt b a) E.size,h.ne⟩
def pS.pure{w w' m F}(h:pS w m F)(E:Pure w w'):pS w' m F:=h.ext E fun _ _ h=>h
def pS.ze{w m F}(h:pS w m F):m<w.heap.size:=by have⟨M,h1,_⟩:=h.ex;exact h1.lt
def UQ{S w s rs sz}(h:dr S w sz s rs)(hr:∀r∈rs,0<r.length):dr (fun b=>S b/\b<w.heap.size) w sz s rs:=
 ⟨h.len,fun i hi=>let ⟨a,h1,h2,h3⟩:=h.at_ i hi;⟨a,h1,⟨h2,by
  have c:=hr _<|getElem_mem hi;have:=h3 0 c;rw[getElem?_eq_getElem c]at this;have:=World.block_lt_of_cell? w (a.add 0) this;rwa [zC]at this⟩,h3⟩⟩
def NV(w0):cl 164 #[] w0 (fun e w'=>∃x:Option Nat,e=.returned (.map x)/\∃m F,x=some m/\pS w' m F/\Pure w0 w'/\w0.heap.size<=m/\∀b,F b->w0.heap.size<=b):=by
 refine(ZV w0).mono ?_;rintro _ w' ⟨x,rfl,m,M,rfl,⟨g,h⟩,d⟩;refine⟨_,rfl,m,fun b=>(w0.heap.size<=b/\b≠m)/\b<w'.heap.size,rfl,⟨⟨M,h.map,fun p c=>UQ (h.el p c) fun r hr=>by obtain⟨f,_,rfl⟩:=mem_map.1 hr;simp[bo.row],d⟩,fun b a=>a.2,fun b a=>a.1.2⟩,h.pure,h.ak,fun b a=>a.1.1⟩
def pS.get{w:World}{m:Nat}{F:NP}(h:pS w m F)(k:Int)(h1:1<=k)(e:k<=9)(ok:Bool):
  ∃s:Sl,(Instr.lookup 249 (.map<|some m) (vi k) ok).run prog w=.ok (if ok then .tuple #[s.v,vb true]else s.v) w/\dr F w 2 s ((qP k).map bo.row):=by
 have⟨M,b,a,d⟩:=h.ex
 rcases b.get (P:=prog) (T:=249) underlying249 underlying3 (zeroValue251 _) k ok with⟨c,_⟩|⟨s,hs,hr⟩
 have:=uV.1 c
 rw[d]at this
 simp at this;omega
 exact⟨s,hr,a _<|tT hs⟩
def pS.none{w:World}{m:Nat}{F:NP}(h:pS w m F)(k:Int)(d:¬(1<=k/\k<=9)):(Instr.lookup 249 (.map<|some m) (vi k) true).run prog w=.ok (.tuple #[Sl.nil.v,vb false]) w:=by
 have⟨M,b,c,a⟩:=h.ex;rcases b.get (P:=prog) (T:=249) underlying249 underlying3 (zeroValue251 _) k true with⟨_,hr⟩|⟨s,hs,_⟩;exact hr;have:k∈M.map Prod.fst:=mem_map.2 ⟨_,tT hs,rfl⟩;rw[a]at this;simp at this;omega
def uY:Nat->List Int->List (Int×Int)
 |_,[]=>[]
 |i,t :: l=>(t,(i:Int)) :: uY (i+1) l
def Sb(l t):∀i,uY i (l++[t])=uY i l++[(t,((i+l.length:Nat):Int))]:=by
 induction l with
 |nil=>intro i;simp[uY]
 |cons x l a=>intro i;simp only[cons_append,uY,a,length_cons];congr 3;simp;omega
def jPF(l):∀i,(uY i l).map Prod.fst=l:=by
 induction l with
 |nil=>intro i;rfl
 |cons x l a=>intro i;simp[uY,a]
def Ui(l):∀i,(uY i l).length=l.length:=by
 induction l with
 |nil=>intro i;rfl
 |cons x l a=>intro i;simp[uY,a]
def Jy(l t)(ht:t∈l):∀i,SE.eu (uY i l) t=some ((i+dc l t:Nat):Int):=by
 induction l with
 |nil=>cases ht
 |cons x l b =>
  intro i
  rw[uY,SE.eu]
  by_cases e:x=t
  subst e;rw[if_pos rfl];simp[dc]
  rw[if_neg e]
  have a:t∈l:=(mem_cons.1 ht).resolve_left fun h=>e h.symm
  rw[b a]
  have:dc (x ::l) t=dc l t+1:=by
   have c:(x==t)=false:=by simpa using e
   simp[dc,idxOf_cons,c]
  rw[this];congr 2;omega
end Go.Proofs
end
section
open Go Go.SE List
namespace Go.Proofs
attribute [local irreducible] Calls
def xV(k):(k=1\/k=2\/k=3\/k=4\/k=5\/k=6\/k=7\/k=8\/k=9)\/(bq k=sB/\ou k=false/\∀m:Int,1<=m->m<=9->(k==m)=false):=by
 by_cases h:k=1\/k=2\/k=3\/k=4\/k=5\/k=6\/k=7\/k=8\/k=9
 .exact .inl h
 .right;refine⟨?_,?_,fun m h1 h2=>?_⟩
  .unfold bq;repeat rw[if_neg Om]
  .unfold ou;apply Bool.eq_false_iff.2;intro h3;simp at h3;omega
  .grind
def yZ(k):dj k=(bq k).kids:=by
 rcases xV k with h|⟨h,_,hm⟩;rcases h with rfl|rfl|rfl|rfl|rfl|rfl|rfl|rfl|rfl<;>decide;rw[h];unfold dj;simp[hm,sB]
def Nd(k):pI k=(bq k).az:=by
 rcases xV k with h|⟨h,_,hm⟩;rcases h with rfl|rfl|rfl|rfl|rfl|rfl|rfl|rfl|rfl<;>decide;rw[h];unfold pI;simp[hm,sB]
def PG(k):((k==8) ||(k==9))=(bq k).to:=by
 rcases xV k with h|⟨h,_,hm⟩;rcases h with rfl|rfl|rfl|rfl|rfl|rfl|rfl|rfl|rfl<;>decide;rw[h];simp[hm,sB]
def jZK(k):(k==2)=(bq k).num:=by
 rcases xV k with h|⟨h,_,hm⟩;rcases h with rfl|rfl|rfl|rfl|rfl|rfl|rfl|rfl|rfl<;>decide;rw[h];simp[hm,sB]
def Xk(k):(k==3)=(bq k).bb:=by
 rcases xV k with h|⟨h,_,hm⟩;rcases h with rfl|rfl|rfl|rfl|rfl|rfl|rfl|rfl|rfl<;>decide;rw[h];simp[hm,sB]
def WG(k):(!(decide (k<1) ||decide (k>9)))=ou k:=by
 unfold ou;by_cases h1:k<1<;>by_cases h2:k>9<;>simp[h1,h2]<;>omega
def Rq(q):decide ((if q=true then(53:Int)else 0)=0)=!q:=by cases q<;>rfl
def qz(n:di):Int:=
 if zO n≠0 then 53 else if(decide ((bq n.kind).kids<1)&&n.a !=0) ||(decide ((bq n.kind).kids<2)&&n.b !=0)then 53 else zQ (bq n.kind) n
def ZP(n):Bs n.kind n.az n.to n.num n.bb n.a n.b=(decide (zO n=0)&&!((decide ((bq n.kind).kids<1)&&n.a !=0) ||(decide ((bq n.kind).kids<2)&&n.b !=0))):=by
 have⟨k,f,t,u,x,a,b⟩:=n;unfold Bs zO;simp only[yZ,Nd,PG k,jZK k,Xk k,WG];have y:=yM k;generalize bq k=s at *;have⟨s1,d,q,g,c⟩:=s;generalize ou k=i;have l:decide (c>=1)=!decide (c<1):=by by_cases h:c<1<;>simp[h]<;>omega
 have p:(c==2)=!decide (c<2):=Gd;simp only[l,p,bne,Rq];generalize (f==0)=j;generalize (t==0)=m;generalize (u==0)=e;generalize decide (x=⟨#[]⟩)=o;generalize (a==0)=z;generalize (b==0)=v;generalize decide (c<1)=r;generalize decide (c<2)=w;cases i<;>cases s1<;>cases d<;>cases q<;>cases g<;>cases j<;>cases m<;>cases e<;>cases o<;>simp
def Ll(n):sX n.kind n.az n.to n.num n.bb n.a n.b=qz n:=by
 unfold sX qz;rw[ZP,Nd,PG];by_cases h1:zO n=0;by_cases h2:((decide ((bq n.kind).kids<1)&&n.a !=0) ||(decide ((bq n.kind).kids<2)&&n.b !=0))=true;rw[h2];simp[h1];have h2:((decide ((bq n.kind).kids<1)&&n.a !=0) ||(decide ((bq n.kind).kids<2)&&n.b !=0))=false:=by simpa using h2
 rw[h2];simp only[h1,ne_eq,not_true_eq_false,if_false,Bool.false_eq_true,decide_true,Bool.not_false,Bool.and_true,Bool.not_true,cond_false];unfold zQ qw;have g:(decide (n.az>=0)&&decide (n.az<16))=(decide (0<=n.az)&&decide (n.az<16)):=rfl;have d:(decide (n.to>=0)&&decide (n.to<16))=(decide (0<=n.to)&&decide (n.to<16)):=rfl;have f:(n.az==n.to)=(n.to==n.az):=by rw[Bool.eq_iff_iff];simp only[beq_iff_eq];exact eq_comm
 rw[g,d,f];have e:decide (((n.bb.size:Int))>64)=decide (n.bb.size>64):=decide_eq_decide.2 Om;rw[e];generalize ((bq n.kind).az&&!(decide (0<=n.az)&&decide (n.az<16)) ||(bq n.kind).to&&(!(decide (0<=n.to)&&decide (n.to<16)) ||n.to==n.az))=c;cases c;grind;rfl;simp[h1]
end Go.Proofs
end
section
open Go Go.SE List
namespace Go.Proofs
open Tryz
attribute [local irreducible] Calls
def Qq:km prog 41 119 7 64:=by
 refine⟨underlying41,⟨t119,_,Kf,(by kernel_rfl:t119.zero=some (.agg #[vi 0,vi 0,vi 0,vu 0,vs ⟨#[]⟩,vi 0,vi 0])),Kf,Kf,rfl⟩,Om⟩
def yb:km prog 42 3 1 8:=by
 refine⟨underlying42,⟨t3,_,Kf,(by kernel_rfl:t3.zero=some (vi 0)),Kf,Kf,rfl⟩,Om⟩
def Ek(e:tf):List Value:=tI e.node
def Fz(e:tf):List Value:=[vi e.size]
def If(e:tf):List Value:=[vi e.depth]
structure GQ(w:World)(p:Addr)(L:aw)(s1 a c:Sl):Prop where
 box:ai w p [s1.v,a.v,c.v] 44
 r1:bg w 119 7 s1 (L.map Ek)
 r2:bg w 3 1 a (L.map Fz)
 r3:bg w 3 1 c (L.map If)
 n1:¬s1.aq p.block
 n2:¬a.aq p.block
 n3:¬c.aq p.block
 DI:∀b,s1.aq b->¬a.aq b
 Ej:∀b,s1.aq b->¬c.aq b
 CF:∀b,a.aq b->¬c.aq b
def vP(w:World)(p:Addr)(L:aw)(F:NP):Prop:=∃s1 a c,GQ w p L s1 a c/\∀b,F b↔(b=p.block\/s1.aq b\/a.aq b\/c.aq b)
def vP.ext{G w w' p L F}(h:vP w p L F)(a:ab G w w')(d:∀b,F b->¬G b):vP w' p L F:=by
 have⟨s1,e,g,h,c⟩:=h;exact⟨s1,e,g,⟨h.box.ext a<|d _<|(c _).2<|.inl rfl,h.r1.ext a fun b f=>d _<|(c _).2<|.inr<|.inl f,h.r2.ext a Gd,h.r3.ext a Gd,h.n1,h.n2,h.n3,h.DI,h.Ej,h.CF⟩,c⟩
def vP.pure{w w' p L F}(h:vP w p L F)(a:Pure w w'):vP w' p L F:=h.ext a fun _ _ h=>h
def vP.lt{w p L F}(h:vP w p L F){b}(a:F b):b<w.heap.size:=by
 have⟨s1,d,e,h,c⟩:=h;rcases(c b).1 a with rfl|a|a|a;exact h.box.lt;exact h.r1.lt a;exact h.r2.lt a;exact h.r3.lt a
def HA(w0):cl 44 #[] w0 (XD fun r w'=>∃p F,r=some p/\vP w' p [] F/\Pure w0 w'/\∀b,F b->w0.heap.size<=b):=by
 refine We w0 (fun r w'=>∃p F,r=some p/\vP w' p [] F/\Pure w0 w'/\∀b,F b->w0.heap.size<=b) ?_;unfold Pp;have c:∀b,¬Sl.nil.aq b:=fun b d=>by have⟨a,h,_⟩:=d;cases h
 intro p f h1;have b1:=ai.bj h1;have e:Pure w0 f:=ab.ax h1
 first
  |exact⟨p,(·=p.block),rfl,⟨Sl.nil,Sl.nil,Sl.nil,⟨b1,bg.nil _ _ _,bg.nil _ _ _,bg.nil _ _ _,c _,c _,c _,fun b h=>(c b h).elim,fun b h=>(c b h).elim,fun b h=>(c b h).elim⟩,fun b=>by simp[c]⟩,e,fun b d=>by subst d;exact av.ak (ab.refl w0) h1⟩
  |skip
def uR(p t w0){L F}(c:vP w0 p L F):cl 112 #[vp<|some p,vi t] w0 (XC fun r w'=>r=al L t/\w'=w0):=by
 refine ZS _ _ w0 (fun r w'=>r=al L t/\w'=w0) ?_;unfold Qr;have⟨s1,d,f,h,e⟩:=c;have b:s1.len=L.length:=by rw[h.r1.len];simp
 refine⟨fun a=>⟨p,rfl,s1,h.box.bf,?_,rfl⟩,fun a=>⟨?_,rfl⟩⟩;have:=of_decide_eq_true a;rw[b];simp[al,this];have:=of_decide_eq_false a;simp[al];omega
def GQ.kr{w p L s1 s2 s3}(h:GQ w p L s1 s2 s3){t}(ht:al L t=true)(b:Ok L):∃e,get L t=some e /\
  (∃a,At s1 (IntKind.i64.wrap<|t-1) 7 a/\Row w a (Ek e))/\(∃a,At s2 (IntKind.i64.wrap<|t-1) 1 a/\Row w a (Fz e))/\(∃a,At s3 (IntKind.i64.wrap<|t-1) 1 a/\Row w a (If e)):=by
 have⟨e,i,_,hi,c⟩:=Ay ht
 have k:=zI.1 ht
 have m:=b.ft
 have l:IntKind.i64.wrap (t-1)=((t-1).toNat:Int):=by rw[i64 Om Om];omega
 have⟨a1,h1,g⟩:=h.r1.kg (j:=(t-1).toNat) hi
 have⟨a2,h2,f⟩:=h.r2.kg (j:=(t-1).toNat) hi
 have⟨a3,h3,d⟩:=h.r3.kg (j:=(t-1).toNat) hi
 rw[c]at g f d
 rw[l]
 exact⟨e,i,⟨a1,h1,g⟩,⟨a2,h2,f⟩,⟨a3,h3,d⟩⟩
def PA(p t w0){L F}(d:vP w0 p L F)(b:Ok L):cl 113 #[vp<|some p,vi t] w0 (XB fun r w'=>r=sizeOf L t/\w'=w0):=by
 refine jbN _ _ w0 (fun r w'=>r=sizeOf L t/\w'=w0) ?_;refine(uR p t w0 d).mono ?_;rintro _ _ ⟨_,rfl,rfl,rfl⟩;refine⟨_,rfl,fun h=>⟨?_,rfl⟩,fun h=>?_⟩;have h:al L t=false:=by simpa using h
 simp[sizeOf,yI h];have h:al L t=true:=by simpa using h
 have⟨s1,g,j,hS,i⟩:=d;have⟨e,f,_,⟨a,c,hr⟩,_⟩:=hS.kr h b;exact⟨p,rfl,g,hS.box.cell rfl,a,c,_,zi hr,by simp[sizeOf,f],rfl⟩
def PE(p t w0){L F}(d:vP w0 p L F)(b:Ok L):cl 121 #[vp<|some p,vi t] w0 (XB fun r w'=>r=c9 L t/\w'=w0):=by
 refine V5 _ _ w0 (fun r w'=>r=c9 L t/\w'=w0) ?_;refine(uR p t w0 d).mono ?_;rintro _ _ ⟨_,rfl,rfl,rfl⟩;refine⟨_,rfl,fun h=>⟨?_,rfl⟩,fun h=>?_⟩;have h:al L t=false:=by simpa using h
 simp[c9,yI h];have h:al L t=true:=by simpa using h
 have⟨s1,i,g,hS,j⟩:=d;have⟨e,f,_,_,⟨a,c,hr⟩⟩:=hS.kr h b;exact⟨p,rfl,g,hS.box.cell rfl,a,c,_,zi hr,by simp[c9,f],rfl⟩
def Jo(p t w0){L F}(o:vP w0 p L F)(j:Ok L):cl 64 #[vp<|some p,vi t] w0
  (XL fun k f n u x a b r w'=>((⟨k,f,n,u,x,a,b⟩:di)=ad L t/\r=al L t)/\Pure w0 w'):=by
 refine QL _ _ w0 _ ?_
 intro v q c
 have d:=o.pure c.first
 refine(uR p t q d).mono ?_
 rintro _ _ ⟨_,rfl,rfl,rfl⟩
 refine⟨_,rfl,aj.refl _,fun h=>?_,fun h=>?_⟩
 .intro z g
  have h:al L t=false:=by simpa using h
  exact⟨⟨by simp[ad,yI h,xC],h.symm⟩,c.first.au g⟩
 .have h:al L t=true:=by simpa using h
  have⟨s1,s,A,hS,w⟩:=d
  have⟨e,m,⟨a,l,hr⟩,_,_⟩:=hS.kr h j
  refine⟨p,rfl,s1,hS.box.bf,a,l,_,_,_,_,_,_,_,hr,?_⟩
  intro y i
  exact⟨⟨by simp[ad,m],h.symm⟩,c.first.au i⟩
def zDY(m n:di):((m.kind==n.kind)&&((m.az==n.az)&&((m.to==n.to)&&((m.num==n.num)&&((decide (m.bb=n.bb))&&((m.a==n.a)&&(m.b==n.b)))))))=decide (m=n):=by
 have⟨k,f,t,u,x,a,b⟩:=m;have⟨k',e,c,d,i,h,g⟩:=n;rw[Bool.eq_iff_iff];simp
def Tr(p n w0){L F}(M:vP w0 p L F)(z:Ok L):cl 122 #[vp<|some p,mc n] w0
  (XE fun r ok w'=>(match find L n with|some i=>r=(i:Int)+1/\ok=true|none=>r=0/\ok=false)/\Pure w0 w'):=by
 have⟨k,f,t,u,x,a,b⟩:=n
 generalize A:(⟨k,f,t,u,x,a,b⟩:di)=n
 have G:mc n=.agg #[vi k,vi f,vi t,vu u,vs x,vi a,vi b]:=by rw[<-A];rfl
 rw[G]
 suffices key:∀K:Int->Bool->WP,(∀r ok w',((match find L n with|some i=>r=(i:Int)+1/\ok=true|none=>r=0/\ok=false)/\Pure w0 w')->K r ok w')->KJ (some p) k f t u x a b w0 K from
  jat _ _ _ _ _ _ _ _ w0 _<|key _ fun _ _ _ h=>h
 intro K J
 intro S U y
 refine⟨fun i H w'=>∃j:Nat,i=j/\j<=L.length/\Pure w0 w'/\∀q,q<j->∀e,L[q]?=some e->e.node≠n,fun i _=>((L.length:Int)-i).toNat,⟨0,rfl,Nat.zero_le _,y.first,fun q g=>absurd g Om⟩,?_⟩
 rintro _ X wl T ⟨j,rfl,Q,B,o⟩
 unfold NI
 have⟨s1,R,Y,hS,W⟩:=M.pure B
 have V:=z.ft
 have d:s1.len=L.length:=by rw[hS.r1.len];simp
 refine⟨p,rfl,s1,hS.box.bf,fun h=>?_,fun h=>?_⟩
 .have c:=vQ d h
  refine⟨p,rfl,?_⟩
  intro Z v
  have I:=B.au v
  have⟨E,N,O,m,_⟩:=M.pure I
  have⟨P,C,hr⟩:=m.r1.kg c
  refine⟨E,m.box.bf,P,C,_,_,_,_,_,_,_,hr,?_⟩
  have hB:=zDY L[j].node n
  rw[<-A]at hB
  simp only at hB
  rw[hB,A]
  refine⟨fun h=>?_,fun h=>?_⟩
  .have h:=of_decide_eq_true h
   rw[zM c Om]
   refine J _ _ _ ⟨?_,I⟩
   have l:find L n=some j:=by
    unfold find;rw[findIdx?_eq_some_iff_getElem];exact⟨c,by simp[h],fun q g=>by simpa using o q g _ (getElem?_eq_getElem Om)⟩
   rw[l];exact⟨Om,rfl⟩
  .have h:=of_decide_eq_false h
   rw[zM c Om]
   refine⟨⟨j+1,rfl,c,I,fun q g e s=>?_⟩,yQ c⟩
   by_cases D:q=j
   .subst D;rw[getElem?_eq_getElem c]at s;cases s;exact h
   .grind
 .have w:=qU d Q h
  subst w
  refine J _ _ _ ⟨?_,B⟩
  have l:find L n=none:=wZ (fun e s=>by
   obtain⟨q,g,rfl⟩:=mem_iff_getElem.1 s;exact o q g _<|getElem?_eq_getElem g)
  rw[l];exact⟨rfl,rfl⟩
end Go.Proofs
end
