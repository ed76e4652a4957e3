import Derived.Test.YtjjcakjoeiolgaaGreatPa4
import Derived.Test.YtjjcakjoeiolgaaGreatPa3
import Derived.Test.YtjjcakjoeiolgaaGreatProg
import Derived.KernelRfl
import Derived.Laws.IdiomStrings
import Init.Data.Nat
import Derived.Recover
set_option linter.defProp false
section
open Go Go.SE List
namespace Go.Proofs
def qH(L:av)(who n:Int):eo×Bool:=
 let m:=vE L n 4
 let a:=zQ L m.1.a
 let b:=zQ L m.1.b
 (⟨4,who,a.1.c,a.1.ba,a.1.dz ||b.1.dz⟩,m.2 ||a.2 ||b.2 ||a.1.ay !=0 ||b.1.ay !=1 ||a.1.c !=b.1.c ||!decide (a.1.ba=b.1.ba))
def yQ(L:av)(who body:Int):eo×Bool:=
 let g:=zY L body
 if g.1.1=qj/\who=0 then(⟨3,0,(vE L g.1.2 2).1.num,⟨#[]⟩,false⟩,g.2 ||(vE L g.1.2 2).2)
 else if g.1.1=yX/\who=2 then(⟨5,0,(vE L g.1.2 2).1.num,⟨#[]⟩,false⟩,g.2 ||(vE L g.1.2 2).2)
 else if g.1.1=uK/\who=2 then(⟨6,0,(qE L g.1.2).1.1,(qE L g.1.2).1.2,false⟩,g.2 ||(qE L g.1.2).2)
 else if g.1.1=qe/\who<=1 then(⟨2,who,(qE L body).1.1,(qE L body).1.2,false⟩,g.2 ||(qE L body).2)
 else if g.1.1=uJ/\who<=1 then((qH L who g.1.2).1,g.2 ||(qH L who g.1.2).2)
 else(xq,true)
end Go.Proofs
namespace Go.Proofs
attribute [local irreducible] Calls
def lz:List Value:=[vi 0,vi 0,vu 0,vs ⟨#[]⟩,vb false]
def Yp(r p p1 who n bad w){L F}(hR:lk w r p bad L F)(hB:ai w p1 lz 35)(hne:p1.block≠r.block)(K:Int->Int->Int->ByteArray->Bool->WP)(hK:∀w6 w',lk w6 r p (bad || (qH L who n).2) L F->ab (·=r.block) w w6->ai w' p1 [vi 4,vi who,vu (qH L who n).1.c,vs (qH L who n).1.ba,vb (qH L who n).1.dz] 35->ab (·=p1.block) w6 w'->K 4 who (qH L who n).1.c (qH L who n).1.ba (qH L who n).1.dz w'):
  BZ (some r) who p1 n true w K:=by
 refine Br.t rfl ?_
 refine(tI r p n 4 bad w hR).mono ?_
 rintro _ w11 ⟨k2,f2,t2,u2,x2,a2,b2,rfl,hn,hR11,B⟩
 refine⟨_,_,_,_,_,_,_,rfl,?_⟩
 intro p2 w12 y
 have o12:=au.ak (ab.refl w11) y
 have l11:=hR11.box.lt
 have l1:=hB.lt
 have s11:=B.size
 refine bx 7 (ai.bh y) rfl rfl fun w13 b13 E'=>?_
 have H:Pure w11 w13:=ab.ak (ab.aw y) o12 E'
 have hB11:=hB.ext B hne
 clear E' y
 refine⟨fun w'=>ai w' p2 [vi k2,vi f2,vi t2,vu u2,vs x2,vi a2,vi b2] 119,b13.pure<|ab.drew w13,?_⟩
 intro k O
 have m:Pure w11 k:=by rw[O];exact H.fb<|ab.drew w13
 have l:ai k p2 [vi k2,vi f2,vi t2,vu u2,vs x2,vi a2,vi b2] 119:=by rw[O];exact b13.pure<|ab.drew w13
 clear O
 have z:=hR11.pure m
 have hB18:=hB11.pure m
 have s18:=m.size
 have Ew18:ab (·=r.block) w k:=B.fb m
 have ea:a2=(vE L n 4).1.a:=by rw[<-hn]
 have eb:b2=(vE L n 4).1.b:=by rw[<-hn]
 generalize hbad:(bad ||(vE L n 4).2)=U at *
 have leaf : ∀ (N Q : Addr) (w' : World) (ka V C : Int) (xa : ByteArray) (ga : Bool) (kb W cb : Int) (xb : ByteArray) (gb : Bool), (⟨ka, V, C, xa, ga⟩ : eo) = (zQ L a2).1 -> (⟨kb, W, cb, xb, gb⟩ : eo) = (zQ L b2).1 ->
   lk w' r p (U ||(zQ L a2).2 ||(zQ L b2).2) L F->ab (·=r.block) k w'->ai w' N [vi 0,vi 0,vu 0,vs ⟨#[]⟩,vb false] 35->ai w' Q [vi 0,vi 0,vu 0,vs ⟨#[]⟩,vb false] 35->N.block≠Q.block->k.heap.size<=N.block->k.heap.size<=Q.block ->
   (∀j,j<5->zL w' (N.add j))/\∀Z:World,Z=bb w' N [vi ka,vi V,vu C,vs xa,vb ga] ->
   (∀j,j<5->zL Z (Q.add j))/\∀g:World,g=bb Z Q [vi kb,vi W,vu cb,vs xb,vb gb]->ry (some r) who p1 N Q g K:=by
  intro N Q w' ka V C xa ga kb W cb xb gb X hlb Y E' hA hBb hAB hoA hoB
  have s':=E'.size
  refine bx 5 hA rfl rfl fun Z bA q=>?_
  refine bx 5 (hBb.ext q hAB.symm) rfl rfl fun g bB s=>?_
  have dA:=bA.ext s hAB
  have u:lk g r p (U ||(zQ L a2).2 ||(zQ L b2).2) L F:=⟨(Y.box.ext q Om).ext s Om,(Y.bj.ext q fun b hb e=>Oh<|hR.bj.lt hb).ext s fun b hb e=>Oh<|hR.bj.lt hb,Y.ok,Y.ji⟩
  have hB24:ai g p1 lz 35:=((hB18.ext E' hne).ext q Om).ext s Om
  have E24':ab (·=r.block) w g:=((Ew18.trans E').cg q fun i hi h=>Om).cg s fun i hi h=>Om
  have e1:V=(zQ L a2).1.ay:=by rw[<-X]
  have e2:W=(zQ L b2).1.ay:=by rw[<-hlb]
  have e3:C=(zQ L a2).1.c:=by rw[<-X]
  have e4:cb=(zQ L b2).1.c:=by rw[<-hlb]
  have e5:xa=(zQ L a2).1.ba:=by rw[<-X]
  have e6:xb=(zQ L b2).1.ba:=by rw[<-hlb]
  have e7:ga=(zQ L a2).1.dz:=by rw[<-X]
  have e8:gb=(zQ L b2).1.dz:=by rw[<-hlb]
  generalize hb3:(U ||(zQ L a2).2 ||(zQ L b2).2)=o at *
  have hsp:qH L who n=(⟨4,who,C,xa,ga ||gb⟩,(vE L n 4).2 ||(zQ L a2).2 ||(zQ L b2).2 ||V !=0 ||W !=1 ||C !=cb ||!decide (xa=xb)):=by
   simp only[qH,<-ea,<-eb,<-e1,<-e2,<-e3,<-e4,<-e5,<-e6,<-e7,<-e8]
  have hbb:(bad ||(qH L who n).2)=(o ||V !=0 ||W !=1 ||C !=cb ||!decide (xa=xb)):=Gd
  rw[hbb]at hK
  rw[hsp]at hK
  have J7:∀(v:Bool) (w5:World),v=(o ||V !=0 ||W !=1 ||C !=cb ||!decide (xa=xb))->ai w5 r [vp p,vb v] 212->ab (·=r.block) g w5->Do who p1 N Q w5 K:=by
   intro v w5 hv B5 P;have hR5:lk w5 r p v L F:=⟨B5,u.bj.ext P fun b hb e=>hR.ji<|e▸hb,hR.ok,hR.ji⟩;have dA5:=dA.ext P Om;have dB5:=bB.ext P Om;have A:=hB24.ext P hne;refine⟨C,dA5.cell rfl,xa,dA5.cell rfl,ga,dA5.cell rfl,fun hg=>?_,fun hg=>⟨gb,dB5.cell rfl,?_⟩⟩;refine bx 5 A rfl rfl fun w6 b6 E6=>⟨4,who,C,xa,true,b6.row,?_⟩;have:=hK w5 w6 (by rw[<-hv];exact hR5) (E24'.trans P) (by rw[hg];exact b6) E6;rw[hg]at this;exact this;refine bx 5 A rfl rfl fun w6 b6 E6=>⟨4,who,C,xa,gb,b6.row,?_⟩;have:=hK w5 w6 (by rw[<-hv];exact hR5) (E24'.trans P) (by rw[hg];exact b6) E6;rw[hg]at this;exact this
  have setr:∀v:Bool,ai (g.setCell (r.add 1)<|vb v) r [vp p,vb v] 212/\ab (·=r.block) g (g.setCell (r.add 1)<|vb v):=fun v =>
   ⟨u.box.set 1 _,by have:=ab.setCell (w:=g) (r.add 1)<|vb v;rw[zC]at this;exact this⟩
  have J10:∀x,x=(o ||V !=0 ||W !=1 ||C !=cb)->DK (some r) who p1 N Q x g K:=by
   intro x hx;refine⟨fun h=>⟨r,rfl,u.box.ee Sm,?_⟩,fun h=>⟨xa,dA.cell rfl,xb,bB.cell rfl,r,rfl,u.box.ee Sm,?_⟩⟩;grind;grind
  have J9:∀x,x=(o ||V !=0 ||W !=1)->CM (some r) who p1 N Q x g K:=by
   intro x hx;exact⟨fun h=>J10 _ (by rw[<-hx,h];rfl),fun h=>⟨C,dA.cell rfl,cb,bB.cell rfl,J10 _ (by rw[<-hx,h];rfl)⟩⟩
  have J8:∀x,x=(o ||V !=0)->D2 (some r) who p1 N Q x g K:=by
   intro x hx;exact⟨fun h=>J9 _ (by rw[<-hx,h];rfl),fun h=>⟨W,bB.cell rfl,J9 _ (by rw[<-hx,h];rfl)⟩⟩
  exact⟨r,rfl,o,u.box.cell rfl,fun h=>J8 _ (by rw[h];rfl),fun h=>⟨V,dA.cell rfl,J8 _ (by rw[h];rfl)⟩⟩
 have l18:=z.box.lt
 have Er18:ab (·=r.block) k k:=ab.refl k
 refine⟨a2,fun w' h=>h.cell rfl,b2,fun w' h=>h.cell rfl,?_⟩
 skip
 refine⟨?_,?_,?_⟩
 skip
 refine(vH r p a2 _ k z).mono ?_
 rintro _ v1 ⟨k1,f1,c1,x1,g1,rfl,f,R1,e1⟩
 have E1:=Er18.trans e1
 have s1:=E1.size
 refine⟨_,_,_,_,_,rfl,l.ext E1 Om,?_⟩
 refine⟨?_,?_,?_⟩
 skip
 refine(vH r p b2 _ v1 R1).mono ?_
 rintro _ v2 ⟨k2,f2,c2,x2,g2,rfl,d,R2,e2⟩
 have E2:=E1.trans e2
 have s2:=E2.size
 refine⟨_,_,_,_,_,rfl,?_⟩
 refine⟨?_,?_⟩
 skip
 intro q3 v3 h3
 have e3:Pure v2 v3:=ab.aw h3
 have o3:=h3.cu
 have R3:=R2.pure e3
 have E3:=E2.fb e3
 have s3:=E3.size
 have t3:=(E2).size
 have bA3:=ai.bh h3
 refine⟨l.ext E3 Om,?_⟩
 intro q4 v4 h4
 have e4:Pure v3 v4:=ab.aw h4
 have o4:=h4.cu
 have R4:=R3.pure e4
 have E4:=E3.fb e4
 have s4:=E4.size
 have t4:=(E3).size
 have bA4:=bA3.pure e4
 have lA4:=bA3.lt
 have bB4:=ai.bh h4
 refine⟨l.ext E4 Om,?_⟩
 exact leaf q3 q4 v4 _ _ _ _ _ _ _ _ _ _ f d R4 E4 bA4 bB4 Om Om Om
 skip
 intro q5 v5 h5
 have e5:Pure v2 v5:=ab.aw h5
 have o5:=h5.cu
 have R5:=R2.pure e5
 have P:=E2.fb e5
 have s5:=P.size
 have t5:=(E2).size
 have bB5:=ai.bh h5
 refine⟨l.ext P Om,?_⟩
 intro q6 v6 h6
 have e6:Pure v5 v6:=ab.aw h6
 have o6:=h6.cu
 have R6:=R5.pure e6
 have E6:=P.fb e6
 have s6:=E6.size
 have t6:=(P).size
 have bB6:=bB5.pure e6
 have lB6:=bB5.lt
 have bA6:=ai.bh h6
 refine⟨l.ext E6 Om,?_⟩
 exact leaf q6 q5 v6 _ _ _ _ _ _ _ _ _ _ f d R6 E6 bA6 bB6 Om Om Om
 skip
 intro q7 v7 h7
 have e7:Pure v1 v7:=ab.aw h7
 have o7:=h7.cu
 have R7:=R1.pure e7
 have E7:=E1.fb e7
 have s7:=E7.size
 have t7:=(E1).size
 have bA7:=ai.bh h7
 refine⟨l.ext E7 Om,?_⟩
 refine⟨?_,?_⟩
 skip
 refine(vH r p b2 _ v7 R7).mono ?_
 rintro _ v8 ⟨k8,f8,c8,x8,g8,rfl,d,R8,e8⟩
 have E8:=E7.trans e8
 have bA8:=bA7.ext e8 Om
 have s8:=E8.size
 refine⟨_,_,_,_,_,rfl,?_⟩
 intro q9 v9 h9
 have e9:Pure v8 v9:=ab.aw h9
 have o9:=h9.cu
 have R9:=R8.pure e9
 have E9:=E8.fb e9
 have s9:=E9.size
 have t9:=(E8).size
 have bA9:=bA8.pure e9
 have lA9:=bA8.lt
 have bB9:=ai.bh h9
 refine⟨l.ext E9 Om,?_⟩
 exact leaf q7 q9 v9 _ _ _ _ _ _ _ _ _ _ f d R9 E9 bA9 bB9 Om Om Om
 skip
 intro q10 v10 h10
 have e10:Pure v7 v10:=ab.aw h10
 have o10:=h10.cu
 have R10:=R7.pure e10
 have E10:=E7.fb e10
 have s10:=E10.size
 have t10:=(E7).size
 have bA10:=bA7.pure e10
 have lA10:=bA7.lt
 have bB10:=ai.bh h10
 refine⟨l.ext E10 Om,?_⟩
 refine(vH r p b2 _ v10 R10).mono ?_
 rintro _ v11 ⟨k11,f11,c11,x11,g11,rfl,d,R11,e11⟩
 have B:=E10.trans e11
 have bA11:=bA10.ext e11 Om
 have bB11:=bB10.ext e11 Om
 have s11:=B.size
 refine⟨_,_,_,_,_,rfl,?_⟩
 exact leaf q7 q10 v11 _ _ _ _ _ _ _ _ _ _ f d R11 B bA11 bB11 Om Om Om
 skip
 intro q12 v12 y
 have e12:Pure v1 v12:=ab.aw y
 have o12:=y.cu
 have R12:=R1.pure e12
 have M:=E1.fb e12
 have s12:=M.size
 have t12:=(E1).size
 have R:=ai.bh y
 refine⟨l.ext M Om,?_⟩
 refine⟨?_,?_⟩
 skip
 refine(vH r p b2 _ v12 R12).mono ?_
 rintro _ v13 ⟨k13,f13,c13,x13,g13,rfl,d,R13,e13⟩
 have H:=M.trans e13
 have bB13:=R.ext e13 Om
 have s13:=H.size
 refine⟨_,_,_,_,_,rfl,?_⟩
 intro q14 v14 h14
 have e14:Pure v13 v14:=ab.aw h14
 have o14:=h14.cu
 have R14:=R13.pure e14
 have E14:=H.fb e14
 have s14:=E14.size
 have t14:=(H).size
 have bB14:=bB13.pure e14
 have lB14:=bB13.lt
 have bA14:=ai.bh h14
 refine⟨l.ext E14 Om,?_⟩
 exact leaf q14 q12 v14 _ _ _ _ _ _ _ _ _ _ f d R14 E14 bA14 bB14 Om Om Om
 skip
 intro q15 v15 A
 have e15:Pure v12 v15:=ab.aw A
 have o15:=A.cu
 have R15:=R12.pure e15
 have E15:=M.fb e15
 have s15:=E15.size
 have t15:=(M).size
 have bB15:=R.pure e15
 have lB15:=R.lt
 have bA15:=ai.bh A
 refine⟨l.ext E15 Om,?_⟩
 refine(vH r p b2 _ v15 R15).mono ?_
 rintro _ v16 ⟨k16,f16,c16,x16,g16,rfl,d,R16,e16⟩
 have E16:=E15.trans e16
 have bA16:=bA15.ext e16 Om
 have bB16:=bB15.ext e16 Om
 have s16:=E16.size
 refine⟨_,_,_,_,_,rfl,?_⟩
 exact leaf q15 q12 v16 _ _ _ _ _ _ _ _ _ _ f d R16 E16 bA16 bB16 Om Om Om
 skip
 intro q17 v17 h17
 have e17:Pure k v17:=ab.aw h17
 have o17:=h17.cu
 have R17:=z.pure e17
 have S:=Er18.fb e17
 have s17:=S.size
 have t17:=(Er18).size
 have G:=ai.bh h17
 refine⟨l.ext S Om,?_⟩
 refine⟨?_,?_⟩
 skip
 refine(vH r p a2 _ v17 R17).mono ?_
 rintro _ v18 ⟨k18,f18,c18,x18,g18,rfl,f,R18,e18⟩
 have m:=S.trans e18
 have J:=G.ext e18 Om
 have s18:=m.size
 refine⟨_,_,_,_,_,rfl,l.ext m Om,?_⟩
 refine⟨?_,?_⟩
 skip
 refine(vH r p b2 _ v18 R18).mono ?_
 rintro _ v19 ⟨k19,f19,c19,x19,g19,rfl,d,R19,e19⟩
 have E19:=m.trans e19
 have bA19:=J.ext e19 Om
 have s19:=E19.size
 refine⟨_,_,_,_,_,rfl,?_⟩
 intro q20 v20 h20
 have e20:Pure v19 v20:=ab.aw h20
 have o20:=h20.cu
 have R20:=R19.pure e20
 have E20:=E19.fb e20
 have s20:=E20.size
 have t20:=(E19).size
 have bA20:=bA19.pure e20
 have lA20:=bA19.lt
 have bB20:=ai.bh h20
 refine⟨l.ext E20 Om,?_⟩
 exact leaf q17 q20 v20 _ _ _ _ _ _ _ _ _ _ f d R20 E20 bA20 bB20 Om Om Om
 skip
 intro q21 v21 h21
 have e21:Pure v18 v21:=ab.aw h21
 have o21:=h21.cu
 have R21:=R18.pure e21
 have E21:=m.fb e21
 have s21:=E21.size
 have t21:=(m).size
 have bA21:=J.pure e21
 have lA21:=J.lt
 have bB21:=ai.bh h21
 refine⟨l.ext E21 Om,?_⟩
 refine(vH r p b2 _ v21 R21).mono ?_
 rintro _ v22 ⟨k22,f22,c22,x22,g22,rfl,d,R22,e22⟩
 have E22:=E21.trans e22
 have bA22:=bA21.ext e22 Om
 have bB22:=bB21.ext e22 Om
 have s22:=E22.size
 refine⟨_,_,_,_,_,rfl,?_⟩
 exact leaf q17 q21 v22 _ _ _ _ _ _ _ _ _ _ f d R22 E22 bA22 bB22 Om Om Om
 skip
 intro q23 v23 h23
 have e23:Pure v17 v23:=ab.aw h23
 have o23:=h23.cu
 have R23:=R17.pure e23
 have q:=S.fb e23
 have s23:=q.size
 have t23:=(S).size
 have bA23:=G.pure e23
 have lA23:=G.lt
 have bB23:=ai.bh h23
 refine⟨l.ext q Om,?_⟩
 refine(vH r p a2 _ v23 R23).mono ?_
 rintro _ v24 ⟨k24,f24,c24,x24,g24,rfl,f,R24,e24⟩
 have s:=q.trans e24
 have bA24:=bA23.ext e24 Om
 have bB24:=bB23.ext e24 Om
 have s24:=s.size
 refine⟨_,_,_,_,_,rfl,l.ext s Om,?_⟩
 refine(vH r p b2 _ v24 R24).mono ?_
 rintro _ v25 ⟨k25,f25,c25,x25,g25,rfl,d,R25,e25⟩
 have E25:=s.trans e25
 have bA25:=bA24.ext e25 Om
 have bB25:=bB24.ext e25 Om
 have s25:=E25.size
 refine⟨_,_,_,_,_,rfl,?_⟩
 exact leaf q17 q23 v25 _ _ _ _ _ _ _ _ _ _ f d R25 E25 bA25 bB25 Om Om Om
 skip
 intro q26 v26 h26
 have e26:Pure k v26:=ab.aw h26
 have o26:=h26.cu
 have R26:=z.pure e26
 have D:=Er18.fb e26
 have s26:=D.size
 have t26:=(Er18).size
 have I:=ai.bh h26
 refine⟨l.ext D Om,?_⟩
 refine⟨?_,?_⟩
 skip
 refine(vH r p a2 _ v26 R26).mono ?_
 rintro _ v27 ⟨k27,f27,c27,x27,g27,rfl,f,R27,e27⟩
 have T:=D.trans e27
 have E:=I.ext e27 Om
 have s27:=T.size
 refine⟨_,_,_,_,_,rfl,l.ext T Om,?_⟩
 refine⟨?_,?_⟩
 skip
 refine(vH r p b2 _ v27 R27).mono ?_
 rintro _ v28 ⟨k28,f28,c28,x28,g28,rfl,d,R28,e28⟩
 have E28:=T.trans e28
 have bB28:=E.ext e28 Om
 have s28:=E28.size
 refine⟨_,_,_,_,_,rfl,?_⟩
 intro q29 v29 h29
 have e29:Pure v28 v29:=ab.aw h29
 have o29:=h29.cu
 have R29:=R28.pure e29
 have E29:=E28.fb e29
 have s29:=E29.size
 have t29:=(E28).size
 have bB29:=bB28.pure e29
 have lB29:=bB28.lt
 have bA29:=ai.bh h29
 refine⟨l.ext E29 Om,?_⟩
 exact leaf q29 q26 v29 _ _ _ _ _ _ _ _ _ _ f d R29 E29 bA29 bB29 Om Om Om
 skip
 intro q30 v30 h30
 have e30:Pure v27 v30:=ab.aw h30
 have o30:=h30.cu
 have R30:=R27.pure e30
 have E30:=T.fb e30
 have s30:=E30.size
 have t30:=(T).size
 have bB30:=E.pure e30
 have lB30:=E.lt
 have bA30:=ai.bh h30
 refine⟨l.ext E30 Om,?_⟩
 refine(vH r p b2 _ v30 R30).mono ?_
 rintro _ v31 ⟨k31,f31,c31,x31,g31,rfl,d,R31,e31⟩
 have E31:=E30.trans e31
 have bA31:=bA30.ext e31 Om
 have bB31:=bB30.ext e31 Om
 have s31:=E31.size
 refine⟨_,_,_,_,_,rfl,?_⟩
 exact leaf q30 q26 v31 _ _ _ _ _ _ _ _ _ _ f d R31 E31 bA31 bB31 Om Om Om
 skip
 intro q32 v32 h32
 have e32:Pure v26 v32:=ab.aw h32
 have o32:=h32.cu
 have R32:=R26.pure e32
 have E32:=D.fb e32
 have s32:=E32.size
 have t32:=(D).size
 have bB32:=I.pure e32
 have lB32:=I.lt
 have bA32:=ai.bh h32
 refine⟨l.ext E32 Om,?_⟩
 refine(vH r p a2 _ v32 R32).mono ?_
 rintro _ v33 ⟨k33,f33,c33,x33,g33,rfl,f,R33,e33⟩
 have E33:=E32.trans e33
 have bA33:=bA32.ext e33 Om
 have bB33:=bB32.ext e33 Om
 have s33:=E33.size
 refine⟨_,_,_,_,_,rfl,l.ext E33 Om,?_⟩
 refine(vH r p b2 _ v33 R33).mono ?_
 rintro _ v34 ⟨k34,f34,c34,x34,g34,rfl,d,R34,e34⟩
 have E34:=E33.trans e34
 have bA34:=bA33.ext e34 Om
 have bB34:=bB33.ext e34 Om
 have s34:=E34.size
 refine⟨_,_,_,_,_,rfl,?_⟩
 exact leaf q32 q26 v34 _ _ _ _ _ _ _ _ _ _ f d R34 E34 bA34 bB34 Om Om Om
end Go.Proofs
end
section
open Go Go.SE List
namespace Go.Proofs
def ui(L:av)(t:Int):eo×Bool:=
 let n:=ad L t
 if n.kind=7 then yQ L n.ay n.a else if n.kind=8\/n.kind=9 then zQ L t
 else if((zY L t).2 ||!decide ((zY L t).1.1=xz))=true then(xq,true)
 else(⟨7,0,(vE L (zY L t).1.2 2).1.num,⟨#[]⟩,false⟩,(vE L (zY L t).1.2 2).2)
def ri(L:av)(t:Int):eo×Bool:=if(ui L t).2=true then(xq,false)else((ui L t).1,true)
end Go.Proofs
namespace Go.Proofs
open Tryz
attribute [local irreducible] Calls
def Ya(r p who body bad w){L F}(D:lk w r p bad L F):
  cl 139 #[vp<|some r,vi who,vi body] w
   (XQ fun k f c x H w'=>(⟨k,f,c,x,H⟩:eo)=(yQ L who body).1/\lk w' r p (bad ||(yQ L who body).2) L F/\ab (·=r.block) w w'):=by
 suffices key:∀K:Int->Int->Int->ByteArray->Bool->WP,(∀k f c x H w',((⟨k,f,c,x,H⟩:eo)=(yQ L who body).1/\lk w' r p (bad ||(yQ L who body).2) L F/\ab (·=r.block) w w')->K k f c x H w')->LL (some r) who body w K from
  VQ _ _ _ w _<|key _ fun _ _ _ _ _ _ h=>h
 intro K hK
 intro q w1 h1
 have E1:Pure w w1:=ab.aw h1
 have o1:=au.ak (ab.refl w) h1
 have lr:=D.box.lt
 have b1:ai w1 q lz 35:=ai.bh h1
 have ne:q.block≠r.block:=Om
 refine(Ga r p body bad w1<|D.pure E1).mono ?_
 rintro _ A ⟨x,y,rfl,hg,C,U⟩
 refine⟨_,_,rfl,?_⟩
 have b2:=b1.ext U ne
 have E2:ab (·=r.block) w A:=E1.pure.trans U
 have ex:x=(zY L body).1.1:=congrArg Prod.fst hg
 have ey:y=(zY L body).1.2:=congrArg Prod.snd hg
 have B:yQ L who body=if x=qj/\who=0 then(⟨3,0,(vE L y 2).1.num,⟨#[]⟩,false⟩,(zY L body).2 ||(vE L y 2).2)
  else if x=yX/\who=2 then(⟨5,0,(vE L y 2).1.num,⟨#[]⟩,false⟩,(zY L body).2 ||(vE L y 2).2)
  else if x=uK/\who=2 then(⟨6,0,(qE L y).1.1,(qE L y).1.2,false⟩,(zY L body).2 ||(qE L y).2)
  else if x=qe/\who<=1 then(⟨2,who,(qE L body).1.1,(qE L body).1.2,false⟩,(zY L body).2 ||(qE L body).2)
  else if x=uJ/\who<=1 then((qH L who y).1,(zY L body).2 ||(qH L who y).2)
  else(xq,true):=by
  simp only[yQ,<-ex,<-ey]
 clear ex ey hg
 generalize hbg:(zY L body).2=g2 at *
 have M : ∀ (k f c : Int) (z : ByteArray) (H v : Bool) (P : World), yQ L who body = (⟨k, f, c, z, H⟩, v) -> lk P r p (bad || v) L F -> ab (· = r.block) A P ->
   (∀j,j<5->zL P (q.add j))/\∀R:World,R=bb P q [(vi k),(vi f),(vu c),(vs z),(vb H)] ->
   ∃d:Int,∃g:Int,∃s:Int,∃l:ByteArray,∃a:Bool,Row R q [(vi d),(vi g),(vu s),(vs l),(vb a)] /\
   K d g s l a R:=by
  intro k f c z H v P hs Y S
  refine bx 5 (b2.ext S ne) rfl rfl fun R b6 W=>⟨k,f,c,z,H,b6.row,hK _ _ _ _ _ _ ⟨by rw[hs],?_,?_⟩⟩
  rw[hs];exact⟨Y.box.ext W ne.symm,Y.bj.ext W fun b u e=>Oh<|D.bj.lt u,D.ok,D.ji⟩
  exact(E2.trans S).cg W fun i hi h=>Om
 have n : ∀ (k : Int), yQ L who body = (⟨k, 0, (vE L y 2).1.num, ⟨#[]⟩, false⟩, g2 || (vE L y 2).2) ->
   cl 142 #[vp<|some r,vi y,vi 2] A (fun e O=>∃I:Int,∃G:Int,∃V:Int,∃E:Int,∃J:ByteArray,∃rA1:Int,∃rB1:Int,e=.returned (.agg #[(vi I),(vi G),(vi V),(vu E),(vs J),(vi rA1),(vi rB1)]) /\
    (∀j,j<5->zL O (q.add j))/\∀w4:World,w4=bb O q [(vi k),(vi 0),(vu E),(vs (⟨#[]⟩:ByteArray)),(vb false)] ->
    ∃d:Int,∃g:Int,∃s:Int,∃l:ByteArray,∃a:Bool,Row w4 q [(vi d),(vi g),(vu s),(vs l),(vb a)] /\
    K d g s l a w4):=by
  intro k hs
  refine(tI r p y 2 _ A C).mono ?_
  rintro _ O ⟨k3,f3,t3,u3,x3,a3,b3,rfl,hn3,T,E3⟩
  have e3:u3=(vE L y 2).1.num:=by rw[<-hn3]
  refine⟨_,_,_,_,_,_,_,rfl,?_⟩
  rw[<-e3]at hs
  exact M _ _ _ _ _ _ O hs Gd E3
 have o : ∀ (k f t : Int), yQ L who body = (⟨k, f, (qE L t).1.1, (qE L t).1.2, false⟩, g2 || (qE L t).2) ->
   cl 189 #[vp<|some r,vi t] A (fun e w7=>∃r4:Int,∃r5:ByteArray,e=.returned (.tuple #[(vu r4),(vs r5)]) /\
    (∀j,j<5->zL w7 (q.add j))/\∀w8:World,w8=bb w7 q [(vi k),(vi f),(vu r4),(vs r5),(vb false)] ->
    ∃d:Int,∃g:Int,∃s:Int,∃l:ByteArray,∃a:Bool,Row w8 q [(vi d),(vi g),(vu s),(vs l),(vb a)] /\
    K d g s l a w8):=by
  intro k f t hs
  refine(OW r p t _ A C).mono ?_
  rintro _ O ⟨c,z,rfl,hd,T,E3⟩
  have e1:c=(qE L t).1.1:=congrArg Prod.fst hd
  have e2:z=(qE L t).1.2:=congrArg Prod.snd hd
  refine⟨_,_,rfl,?_⟩
  rw[<-e1,<-e2]at hs
  exact M _ _ _ _ _ _ O hs (by rw[<-Bool.or_assoc];exact T) E3
 have J5:∀b,b=decide (x=uJ/\who<=1)->¬(x=qj/\who=0)->¬(x=yX/\who=2)->¬(x=uK/\who=2)->¬(x=qe/\who<=1)->BZ (some r) who q y b A K:=by
  intro b u h1 h2 h3 Z;rw[if_neg h1,if_neg h2,if_neg h3,if_neg Z]at B;cases Q:b with
  |true =>
   have hc:x=uJ/\who<=1:=of_decide_eq_true (by rw[<-u,Q])
   rw[if_pos hc]at B
   refine Yp r p q who y _ A C b2 ne K fun R w' X W b' E'=>hK _ _ _ _ _ _ ⟨by rw[B];rfl,?_,?_⟩
   rw[B];simp only[<-Bool.or_assoc]
   exact⟨X.box.ext E' ne.symm,X.bj.ext E' fun b u e=>Oh<|D.bj.lt u,D.ok,D.ji⟩
   exact(E2.trans W).cg E' fun i hi h=>Om
  |false =>
   have hc:¬(x=uJ/\who<=1):=of_decide_eq_false (by rw[<-u,Q])
   rw[if_neg hc]at B
   refine Br.f rfl ⟨r,rfl,C.box.ee Sm,?_⟩
   intro N m
   have d5:ai N r [vp p,vb true] 212:=by rw[m];exact C.box.set 1 _
   have S:ab (·=r.block) A N:=by rw[m];have:=ab.setCell (w:=A) (r.add 1)<|vb true;rw[zC]at this;exact this
   exact M 0 0 0 ⟨#[]⟩ false true N B (by rw[Bool.or_true];exact⟨d5,C.bj.ext S fun b u e=>D.ji<|e▸u,D.ok,D.ji⟩) S
 have J4:∀b,b=decide (x=qe/\who<=1)->¬(x=qj/\who=0)->¬(x=yX/\who=2)->¬(x=uK/\who=2)->ET (some r) who body q x y b A K:=by
  intro b u h1 h2 h3;refine⟨fun h=>o 2 who body ?_,fun h=>?_⟩;grind;have Z:¬(x=qe/\who<=1):=of_decide_eq_false (by rw[<-u,h]);exact⟨fun m=>J5 _ (by have:x=uJ:=of_decide_eq_true m;simp[this]) h1 h2 h3 Z,fun m=>J5 _ (by have:¬x=uJ:=of_decide_eq_false m;simp[this]) h1 h2 h3 Z⟩
 have J3:∀b,b=decide (x=uK/\who=2)->¬(x=qj/\who=0)->¬(x=yX/\who=2)->EY (some r) who body q x y b A K:=by
  intro b u h1 h2;refine⟨fun h=>o 6 0 y ?_,fun h=>?_⟩;grind;have h3:¬(x=uK/\who=2):=of_decide_eq_false (by rw[<-u,h]);exact⟨fun m=>J4 _ (by have:x=qe:=of_decide_eq_true m;simp[this]) h1 h2 h3,fun m=>J4 _ (by have:¬x=qe:=of_decide_eq_false m;simp[this]) h1 h2 h3⟩
 have J2:∀b,b=decide (x=yX/\who=2)->¬(x=qj/\who=0)->Dv (some r) who body q x y b A K:=by
  intro b u h1;refine⟨fun h=>n 5 ?_,fun h=>?_⟩;grind;have h2:¬(x=yX/\who=2):=of_decide_eq_false (by rw[<-u,h]);exact⟨fun m=>J3 _ (by have:x=uK:=of_decide_eq_true m;simp[this];rfl) h1 h2,fun m=>J3 _ (by have:¬x=uK:=of_decide_eq_false m;simp[this]) h1 h2⟩
 have J1:∀b,b=decide (x=qj/\who=0)->FB (some r) who body q x y b A K:=by
  intro b u;refine⟨fun h=>n 3 ?_,fun h=>?_⟩;grind;have h1:¬(x=qj/\who=0):=of_decide_eq_false (by rw[<-u,h]);exact⟨fun m=>J2 _ (by have:x=yX:=of_decide_eq_true m;simp[this];rfl) h1,fun m=>J2 _ (by have:¬x=yX:=of_decide_eq_false m;simp[this]) h1⟩
 exact⟨fun m=>J1 _ (by have:x=qj:=of_decide_eq_true m;simp[this];rfl),fun m=>J1 _ (by have:¬x=qj:=of_decide_eq_false m;simp[this])⟩
end Go.Proofs
end
section
open Go Go.SE List
namespace Go.Proofs
open Tryz
attribute [local irreducible] Calls
def Vz(p t w){L F}(hP:sF w p L F)(V:Ok L):
  cl 73 #[vp p,vi t] w
   (XR fun k f c x fk ok w'=>((⟨k,f,c,x,fk⟩:eo),ok)=ri L t/\Pure w w'):=by
 suffices key:∀K:Int->Int->Int->ByteArray->Bool->Bool->WP,(∀k f c x fk ok w',(((⟨k,f,c,x,fk⟩:eo),ok)=ri L t/\Pure w w')->K k f c x fk ok w')->NW p t w K from
  w_K _ _ w _<|key _ fun _ _ _ _ _ _ _ h=>h
 intro K hK
 intro J w1 h1 q w2 h2
 have E1:Pure w w1:=ab.aw h1
 have E2:Pure w w2:=E1.trans<|ab.aw h2
 have o2:=au.ak (ab.refl w) h1
 have o3:=au.ak E1 h2
 have n23:J.block≠q.block:=au.ne h2 (ai.bh h1).ao
 have b2:ai w2 J lz 35:=(ai.bh h1).pure<|ab.aw h2
 have M:¬F q.block:=fun h=>Oh<|hP.lt h
 have S:lk w2 q p false L F:=⟨ai.bh h2,hP.pure E2,V,M⟩
 refine(IQ p t w2 S.bj V).mono ?_
 rintro _ w3 ⟨k,f,t',u,x,a,b,ok,rfl,⟨hn,_⟩,E23⟩
 refine⟨_,_,_,_,_,_,_,_,rfl,?_⟩
 intro p4 w4 h4
 have E3:Pure w2 w3:=E23
 have o4:=au.ak (ab.refl w3) h4
 have l3:=(S.pure E3).box.lt
 have l2:=(b2.pure E3).lt
 refine bx 7 (ai.bh h4) rfl rfl fun w5 b4 E'=>?_
 have E5:Pure w3 w5:=ab.ak (ab.aw h4) o4 E'
 intro E D Z
 have E6:Pure w3 D:=E5.trans<|ab.aw Z
 have o5:=au.ak E5 Z
 have n45:p4.block≠E.block:=au.ne Z b4.ao
 have c4:=b4.pure (ab.aw Z:Pure w5 D)
 have c5:ai D E lz 35:=ai.bh Z
 have c2:=b2.pure<|E3.trans E6
 have U:=S.pure<|E3.trans E6
 have E26:Pure w D:=(E2.trans E3).trans E6
 clear E' h1 h2 h4 Z
 have H:q.block≠E.block:=Om
 have n25:J.block≠E.block:=Om
 have I:ui L t=if k=7 then yQ L f a else if k=8\/k=9 then zQ L t else if((zY L t).2 ||!decide ((zY L t).1.1=xz))=true then(xq,true)else(⟨7,0,(vE L (zY L t).1.2 2).1.num,⟨#[]⟩,false⟩,(vE L (zY L t).1.2 2).2):=by
  simp only[ui,<-hn]
 have C : ∀ (o : World), (ui L t).2 = true -> ab (fun b => b = q.block \/ b = E.block) D o -> (∀ j, j < 5 -> zL o (J.add j)) /\ ∀ P : World, P = bb o J [(vi 0), (vi 0), (vu 0), (vs (⟨#[]⟩ : ByteArray)), (vb false)] ->
   ∃d:Int,∃g:Int,∃N:Int,∃n:ByteArray,∃m:Bool,Row P J [(vi d),(vi g),(vu N),(vs n),(vb m)]/\K d g N n m false P:=by
  intro o Y s
  refine bx 5 (c2.ext s (by rintro(h|h)<;>omega)) rfl rfl fun P b9 E9=>⟨0,0,0,⟨#[]⟩,false,b9.row,hK _ _ _ _ _ _ _ ⟨?_,?_⟩⟩
  rw[ri,if_pos Y];rfl
  exact(E26.cg s Gd).cg E9 fun i hi h=>Om
 have y : ∀ (o : World) (l : eo), ui L t = (l, false) -> ab (fun b => b = q.block \/ b = E.block) D o -> ai o E [vi l.kind, vi l.ay, vu l.c, vs l.ba, vb l.dz] 35 ->
   ∃z:Int,∃G:Int,∃vC1:Int,∃A:ByteArray,∃B:Bool,Row o E [(vi z),(vi G),(vu vC1),(vs A),(vb B)] /\
   (∀j,j<5->zL o (J.add j))/\∀P:World,P=bb o J [(vi z),(vi G),(vu vC1),(vs A),(vb B)] ->
   ∃d:Int,∃g:Int,∃N:Int,∃n:ByteArray,∃m:Bool,Row P J [(vi d),(vi g),(vu N),(vs n),(vb m)]/\K d g N n m true P:=by
  intro o l Y s B8
  refine⟨_,_,_,_,_,B8.row,?_⟩
  refine bx 5 (c2.ext s (by rintro(h|h)<;>omega)) rfl rfl fun P b9 E9=>⟨l.kind,l.ay,l.c,l.ba,l.dz,b9.row,hK _ _ _ _ _ _ _ ⟨?_,?_⟩⟩
  rw[ri,if_neg (by rw[Y];simp),Y]
  exact(E26.cg s fun i hi h=>by rcases h with h|h<;>omega).cg E9 fun i hi h=>Om
 have up:∀{O o:World},ab (·=q.block) D O->ab (·=E.block) O o->ab (fun b=>b=q.block\/b=E.block) D o:=fun h h'=>(h.mono fun _ _ h=>.inl h).cg h' fun _ _ h=>.inr h
 have J1p:∀b,b=true->k≠7->(k=8\/k=9)->A8 t J q E b D K:=by
  rintro _ rfl h7 W;rw[if_neg h7,if_pos W]at I;refine Br.t rfl ?_;refine(vH q p t false D U).mono ?_;rintro _ O ⟨k7,f7,c7,X,g7,rfl,hl,r,Q⟩;refine⟨_,_,_,_,_,rfl,bx 5 (c5.ext Q H.symm) rfl rfl fun o b8 s=>⟨(zQ L t).2,?_,fun h=>C o (by rw[I];exact h) (up Q s),fun h=>y o ⟨k7,f7,c7,X,g7⟩ (by rw[I,hl,<-h]) (up Q s) b8⟩⟩;have:=(r.box.ext s H).cell (i:=1) rfl;simpa using this
 have J1t:∀b,b=false->k≠7->¬(k=8\/k=9)->A8 t J q E b D K:=by
  rintro _ rfl h7 W;rw[if_neg h7,if_neg W]at I;refine Br.f rfl ?_;refine(Ga q p t false D U).mono ?_;rintro _ O ⟨X,y7,rfl,hg,r,Q⟩;have ex:X=(zY L t).1.1:=congrArg Prod.fst hg;have ey:y7=(zY L t).1.2:=congrArg Prod.snd hg;rw[<-ex,<-ey]at I;have R:∀v:Bool,ai (O.setCell (q.add 1)<|vb v) q [vp p,vb v] 212/\ab (·=q.block) O (O.setCell (q.add 1)<|vb v):=fun v =>
   ⟨r.box.set 1 _,by have:=ab.setCell (w:=O) (q.add 1)<|vb v;rw[zC]at this;exact this⟩
  have J3:∀(v:Bool) (o:World),v=((zY L t).2 ||!decide (X=xz))->ai o q [vp p,vb v] 212->ab (·=q.block) O o->ER J q E y7 o K:=by
   intro v o hv B8 s;have E68:=Q.trans s;have E68':ab (fun b=>b=q.block\/b=E.block) D o:=E68.mono fun _ _ h=>.inl h;refine⟨v,B8.cell rfl,fun h=>⟨v,B8.cell rfl,fun _=>C o (by rw[I,<-hv,if_pos h]) E68',fun h'=>(by rw[h]at h';cases h')⟩,fun h=>?_⟩;rw[<-hv,if_neg (by rw[h];simp)]at I;subst h;refine(tI q p y7 2 false o ⟨B8,r.bj.ext s fun b Y e=>M<|e▸Y,V,M⟩).mono ?_;rintro _ w16 ⟨k3,f3,t3,u3,x3,a3,b3,rfl,hn3,hR3,E16⟩;have e3:u3=(vE L y7 2).1.num:=by rw[<-hn3]
   rw[<-e3]at I;have E616:=E68.trans E16;refine⟨_,_,_,_,_,_,_,rfl,bx 5 (c5.ext E616 H.symm) rfl rfl fun w17 b17 T=>⟨(vE L y7 2).2,?_,fun h=>C w17 (by rw[I];exact h) (up E616 T),fun h=>y w17 ⟨7,0,u3,⟨#[]⟩,false⟩ (by rw[I,h]) (up E616 T) b17⟩⟩;have:=(hR3.box.ext T H).cell (i:=1) rfl;simpa using this
  refine⟨_,_,rfl,(zY L t).2,?_,fun h=>⟨r.box.ee Sm,?_⟩,fun h=>⟨r.box.ee Sm,?_⟩⟩;have:=r.box.cell (i:=1) rfl;simpa using this;grind;intro w22 hw;exact J3 (!decide (X=xz)) w22 (by rw[h];rfl) (by rw[hw];exact(R _).1) (by rw[hw];exact(R _).2)
 refine⟨k,c4.bd,fun h=>⟨f,c4.cell rfl,a,c4.cell rfl,?_⟩,fun h=>⟨fun h8=>?_,fun h8=>?_⟩⟩
 have h7:k=7:=by simpa using h
 rw[if_pos h7]at I
 refine(Ya q p f a false D U).mono ?_
 rintro _ O ⟨k7,f7,c7,X,g7,rfl,hl,r,Q⟩
 refine⟨_,_,_,_,_,rfl,bx 5 (c5.ext Q H.symm) rfl rfl fun o b8 s=>⟨(yQ L f a).2,?_,fun h=>C o (by rw[I];exact h) (up Q s),fun h=>y o ⟨k7,f7,c7,X,g7⟩ (by rw[I,hl,<-h]) (up Q s) b8⟩⟩
 have:=(r.box.ext s H).cell (i:=1) rfl
 simpa using this
 grind
 grind
def jOG(p t w){L F}(d:zD w p L F)(a:Ok L):
  cl 73 #[vp<|some p,vi t] w
   (XR fun k f c x b ok w'=>((⟨k,f,c,x,b⟩:eo),ok)=ri L t/\Pure w w'):=Vz (some p) t w d a
end Go.Proofs
end
section
open Go Go.SE List
namespace Go.SE
def bf.lit{w w' p cs e sz rs}(g:au w (.cells cs e) p w')(c:cs.toList=rs.flatten)(b:∀r∈rs,r.length=sz)(hm:rs.length<=maxLen):bf w' e sz ⟨some p,rs.length,rs.length⟩ rs:=by
 have⟨f,d⟩:=g;have a:cs.size=rs.length*sz:=by rw[<-vM b,<-c,Array.length_toList]
 refine⟨b,rfl,.inr ⟨w.heap.size,cs,by rw[f],?_,Nat.le_refl _,hm,a,?_⟩⟩;rw[d];exact heap_alloc_new w _;rw[c,take_of_length_le Gd]
end Go.SE
namespace Go.Proofs
open Tryz
def jh(l:eo):List Value:=[vi l.kind,vi l.ay,vu l.c,vs l.ba,vb l.dz]
def Ds:j1 prog 64 35 5 48:=by
 refine⟨underlying64,⟨t35,_,Kf,(by kernel_rfl:t35.zero=some (.agg #[vi 0,vi 0,vu 0,vs ⟨#[]⟩,vb false])),Kf,Kf,rfl⟩,Om⟩
end Go.Proofs
end
section
open Go Go.SE List
open Go.IntKind renaming i64 -> q6
namespace Go.Proofs
open Tryz
set_option maxRecDepth 100000
set_option maxHeartbeats 4000000
attribute [local irreducible] bu ft fg dw Calls
attribute [local irreducible] jq W WV WR yW pv ku jd nz ka lq ky lj mz mo iq fa im mv kq kp uP xG yA bn ub
def PT(c:Sl)(i1 n2:Int)(H:NP)(w:World)(a:Int->Int->NP->WP)(K:Bool->WP):Prop:=∃a4:Addr,At c i1 9 a4/\∃b:Sl,w.cell? (a4.add 8)=some b.v/\Br (decide ((b.len:Int)>265)) (K true w) (a n2 (q6.wrap<|i1+1) H w)
def Kp(f:Sl)(i1 n3 e:Int)(h:Bool)(H:NP)(w:World)(a:Int->Int->NP->WP)(b:Int->Int->NP->WP)(K:Bool->WP):Prop:=Br h (∃a5:Addr,At f i1 9 a5/\∃d:Sl,w.cell? (a5.add 8)=some d.v/\∃g:Addr,At d e 5 g/\∃c,w.cell? (g.add 4)=some (vs c)/\b (q6.wrap<|n3+(c.size:Int)) (q6.wrap<|e+1) H w)<|PT f i1 n3 H w a K
def Ze(g:Sl)(i1 n3 c:Int)(k:World)(d:NP)(a:World)(b:Int->Int->NP->WP)(e:Int->Int->NP->WP)(K:Bool->WP):Prop:=∃j:Addr,At g i1 9 j/\∃h:Sl,a.cell? (j.add 8)=some h.v/\∀f i,af k d a f i->Kp g i1 n3 c ((decide (c<(h.len:Int)))&&(decide (c<=256))) f i b e K
def jcv(c:Sl)(n1 i1:Int)(j:World)(e:NP)(d:World)(l:Int->Int->NP->WP)(K:Bool->WP):Prop:=Br ((decide (i1<(c.len:Int)))&&(decide (i1<=60))) (∃a1:Addr,At c i1 9 a1/\∀q g,af j e d q g->∃p,g.cell? (a1.add 1)=some (vs p)/\∃a2:Addr,At c i1 9 a2/\∃o,g.cell? ((a2.add 2).add 3)=some (vs o)/\∃a3:Addr,At c i1 9 a3/\∃r:Sl,g.cell? (a3.add 8)=some r.v/\∃(m:Int->Int->NP->WP) (i:Int->Int->World->Nat),m (q6.wrap<|(q6.wrap<|(q6.wrap<|n1+(p.size:Int))+(o.size:Int))+(r.len:Int)) 0 q g/\∀(n3 k:Int) (b:NP) (a:World),af j b a b a->m n3 k b a->Ze c i1 n3 k j b a l (fun f h s w'=>m f h s w'/\i f h w'<i n3 k a) K)<|∀t n,af j e d t n->K ((decide ((c.len:Int)>60)) ||(decide (n1>60000))) n
def Qa(i:Sl)(f:World)(K:Bool->WP):Prop:=∃(g:Int->Int->NP->WP) (d:Int->Int->World->Nat),g 0 0 ar f/\∀(n1 i1:Int) (b:NP) (a:World),af f b a b a->g n1 i1 b a->jcv i n1 i1 f b a (fun c e h w'=>g c e h w'/\d c e w'<d n1 i1 a) K
def Xw(l1 w0 K)(h:Qa l1 w0 K):
  cl 7 #[l1.v] w0<|XC K:=
 dv func7 h<|ye 3 [0] (fun n1 i1=>[(3,(vi n1)),(4,(vi i1))])<|fun {_ _ n1 i1}=>fun i=>pj 0 0 [(decide (i1<(l1.len:Int)))] [0,3,4] (fun b=>[(13,(vb<|(b 0)&&(decide (i1<=60))))]) (fun c=>pb 1 5 0 c (fun c=>pe 3 0 c)<|fun c=>pe 3 0 c)<|br 0 0 (dq 1<|ix 3<|ah<|ld 1<|ix 4<|ld 2<|ix 4<|ld 1<|jk 4 1 [0,4] (fun n2=>[(3,(vi n2))]) (fun n2 H w=>PT _ _ n2 H w _ _) (fun g=>ye 0 [0,4] (fun n3 e=>[(3,(vi n3)),(5,(vi e))])<|fun {_ _ n3 e}=>fun k=>jk 0 0 [0,3,4,5] (fun f=>[(50,(vb f))]) (fun f H w=>Kp _ _ _ _ f H w _ _ _) (fun m=>ix 3<|ld 1<|fun {l}=>ct 3 3<|pj 0 0 [(decide (e<(l.len:Int)))] [0,3,4,5] (fun b=>[(50,(vb<|(b 0)&&(decide (e<=256))))]) (fun d=>pb 1 0 0 d (fun d=>pe 3 0 d)<|fun d=>pe 3 0 d)<|ah<|je 0 0 m)<|fun {f}=>br 0 0 (ix 4<|ld 1<|ix 1<|ld 1<|je 6 0 k)<|je 1 0 g)<|fun {n2}=>ix 2<|ld 1<|br 0 2 (rr 2)<|je 4 0 i)<|pj 1 0 [] [] (fun b=>[(2,(vb<|(decide ((l1.len:Int)>60)) ||(decide (n1>60000))))]) (fun j=>ct 4 3<|pj 0 0 [(decide ((l1.len:Int)>60))] [] (fun b=>[(78,(vb<|(b 0) ||(decide (n1>60000))))]) (fun a=>pb 1 0 0 a (fun a=>pe 3 0 a)<|fun a=>pe 3 0 a)<|pe 1 0 j)<|ah<|rr 0
def TO(j i f:Int)(g:ByteArray)(h:Bool)(c:World)(K:ByteArray->WP):Prop:=∀d b,af c ar c d b->cl 98 #[(.agg #[(vi j),(vi i),(vu f),(vs g),(vb h)])] b (XM fun r1 r2 a=>aj d b a/\∃e,(convert 59 9 r1.v).run prog a=.ok (vs e) a/\K e a)
def To(aA aB aC aD aE w0 K)(h:TO aA aB aC aD aE w0 K):
  cl 40 #[(.agg #[(vi aA),(vi aB),(vu aC),(vs aD),(vb aE)])] w0<|XS K:=
 dv func40 h<|nh 0<|ij 1 0 [] 5<|ah<|il 0 call98<|xe<|rn 6<|rr 1
def Kc(a:Int):Int:=a
def zs(a:Int)(c:World):cl 16 #[(.int .i64 a)] c (fun e w'=>e=.returned (.int .i64<|Kc a)/\Pure c w'):=
 jr func16 [] (fun b=>(vi a)) fun d=>ff 3 d
def I3(r1:Option Addr)(b:Bool)(H:NP)(w:World)(K:Bool->WP):Prop:=Br b (cl 13 #[(vp r1),(.agg #[(vi 0),(vu 9),(vs (⟨#[120]⟩:ByteArray))])] w<|XC fun r2 a=>aj H w a/\K r2 a) (K false w)
def FD(r1:Option Addr)(b:Bool)(H:NP)(w:World)(K:Bool->WP):Prop:=Br b (cl 21 #[(vp r1),(vi 0)] w<|XC fun r3 a=>aj H w a/\I3 r1 r3 H a K) (I3 r1 false H w K)
def Hn(r1:Option Addr)(c:Bool)(e:World)(H:NP)(w:World)(K:Bool->WP):Prop:=Br c (cl 41 #[(vp r1),(vi 2)] w<|XB fun d b=>aj H w b/\∀a,af e H b H a->FD r1 (d==2) H a K) (FD r1 false H w K)
def It(r1:Option Addr)(a1:Bool)(a:World)(H:NP)(w:World)(K:Bool->WP):Prop:=Br a1 (cl 41 #[(vp r1),(vi 0)] w<|XB fun d b=>aj H w b/\∀c,af a H b H c->Hn r1 (d==0) a H c K) (Hn r1 false a H w K)
def FY(r1:Option Addr)(d:Bool)(b:World)(H:NP)(w:World)(K:Bool->WP):Prop:=Br d (cl 21 #[(vp r1),(vi 1)] w<|XC fun c a=>aj H w a/\It r1 (!c) b H a K) (It r1 false b H w K)
def FG(r1:Option Addr)(g:Bool)(c:World)(H:NP)(w:World)(K:Bool->WP):Prop:=Br g (K false w)<|cl 13 #[(vp r1),(.agg #[(vi 1),(vu 7),(vs (⟨#[116]⟩:ByteArray))])] w fun e b=>∃d,e=.returned (vb d)/\aj H w b/\Br d (cl 13 #[(vp r1),(.agg #[(vi 0),(vu 7),(vs (⟨#[116]⟩:ByteArray))])] b<|XC fun f a=>aj H b a/\FY r1 (!f) c H a K) (FY r1 false c H b K)
def YN(f:World)(K:Bool->WP):Prop:=cl 9 #[] f fun e g=>∃r1,e=.returned (vp r1)/\aj ar f g/\Br (Option.isNone r1) (K false g) (cl 40 #[(.agg #[(vi 2),(vi 1),(vu 7),(vs (⟨#[116]⟩:ByteArray)),(vb false)])] g fun e b=>∃i,e=.returned (vs i)/\aj ar g b/\cl 23 #[(vp r1),(vs i)] b fun e a=>∃d,e=.returned (vb d)/\aj ar b a/\Br (!d) (FG r1 true f ar a K) (cl 23 #[(vp r1),(vs (⟨#[120]⟩:ByteArray))] a<|XC fun h c=>aj ar a c/\FG r1 h f ar c K))
def TH(g:World)(K:Bool->WP)(h:YN  g K):
  cl 8 #[] g<|XC K:=
 dv func8 h<|du 1 call9<|br 0 3 (rr 2)<|jk 1 0 [1] (fun e=>[(14,(vb e))]) (fun e H w=>FG _ e _ H w _) (fun i=>du 2 call40<|du 0 call23<|br 1 2 (je 3 0 i)<|du 1 call23<|je 1 0 i)<|fun {e}=>br 0 0 (rr 2)<|jk 1 0 [1] (fun a1=>[(2,(vb a1))]) (fun a1 H w=>It _ a1 _ H w _) (fun j=>du 2 call13<|ct 1 5<|jk 0 0 [1] (fun d=>[(23,(vb d))]) (fun d H w=>FY _ d _ H w _) (fun k=>br 1 0 (du 2 call13<|je 2 0 k)<|je 5 0 k)<|fun {d}=>br 1 1 (du 1 call21<|je 3 0 j)<|je 5 0 j)<|fun {a1}=>ct 2 5<|jk 0 0 [1] (fun a=>[(35,(vb a))]) (fun a H w=>Hn _ a _ H w _) (fun f=>br 1 0 (du 1 call41<|fun {o}=>cp 0 call16 (zs o)<|an<|je 2 0 f)<|je 5 0 f)<|fun {a}=>ct 1 5<|jk 0 0 [1] (fun b=>[(41,(vb b))]) (fun b H w=>FD _ b H w _) (fun l=>br 1 0 (du 1 call41<|fun {n}=>cp 0 call16 (zs n)<|an<|je 2 0 l)<|je 5 0 l)<|fun {b}=>ct 1 3<|jk 0 0 [1] (fun c=>[(45,(vb c))]) (fun c H w=>I3 _ c H w _) (fun m=>br 1 0 (du 1 call21<|je 1 0 m)<|je 3 0 m)<|fun {c}=>br 1 1 (du 2 call13<|rr 2)<|rr 5
end Go.Proofs
end
section
open Go Go.SE List
open Go.IntKind renaming i64 -> q6
namespace Go.Proofs
open Tryz
set_option maxRecDepth 100000
set_option maxHeartbeats 4000000
attribute [local irreducible] bu ft fg dw Calls
attribute [local irreducible] jq W WV WR yW pv ku jd nz ka lq ky lj mz mo iq fa im mv kq kp uP xG yA bn ub
def FX(d:Option Addr)(e:Option Addr)(c:ByteArray)(f:Bool)(H:NP)(w:World)(K:(Option Addr)->Bool->WP):Prop:=Br f (cl 45 #[(vp e),(vs c)] w<|XC fun b a=>aj H w a/\K d b a) (K d false w)
def K7(c:Option Addr)(z:Option Addr)(p:Int)(Z:ByteArray)(aH aI aJ:Int)(aK:ByteArray)(aL:Bool)(W:Int)(X:Sl)(d:World)(K:(Option Addr)->Bool->WP):Prop:=Br (p==0) (∀g i,af d ar d g i->∃L:WP,L i.drew/\∀P,P=i.drew->cl 23 #[(vp c),(vs Z)] P fun e H=>∃r1,e=.returned (vb r1)/\L H/\aj g P H/\cl 45 #[(vp z),(vs Z)] H (XC fun r2 M=>L M/\aj g H M/\K c (r1==r2) M)) (Br (p==1) (∀g i,af d ar d g i->cl 40 #[(.agg #[(vi aH),(vi aI),(vu aJ),(vs aK),(vb aL)])] i fun e O=>∃r3,e=.returned (vs r3)/\aj g i O/\cl 23 #[(vp c),(vs r3)] O fun e Q=>∃S,e=.returned (vb S)/\aj g O Q/\cl 45 #[(vp z),(vs r3)] Q (XC fun r5 U=>aj g Q U/\K c (S==r5) U)) (Br (p==2) (∀g i,af d ar d g i->∃I:WP,I i.drew/\∀R,R=i.drew->cl 41 #[(vp c),(vi W)] R fun e m=>∃T,e=.returned (vi T)/\I m/\aj g R m/\cl 16 #[(vi T)] m fun e k=>∃V,e=.returned (vi V)/\I k/\aj g m k/\cl 46 #[(vp z),(vi W)] k (XB fun r8 s=>I s/\aj g k s/\K c (V==r8) s)) (Br (cond (p==3) (p==3)<|p==4) (∀b a,af d ar d b a->∀Y x,au a (.cells #[] 88) Y x->∃s1:Sl,∃l:World,(Builtin.append_ #[36,36] 36 #[(Sl.mk (some Y) 0 0).v,X.v]).run prog x=.ok s1.v l/\aj b x l/\cl 14 #[(vp c),s1.v] l fun e u=>∃G q C,e=.returned (.tuple #[(vs G),(vi q),(vi C)])/\aj b l u/\cl 47 #[(vp z),X.v] u fun e j=>∃h o F,e=.returned (.tuple #[(vs h),(vi o),(vi F)])/\aj b u j/\Br ((p==4)&&(o==0)) (Br ((decide (G=h))&&(q==o)) (∀y f,af d b j y f->cl 23 #[(vp c),(vs G)] f (XC fun J A=>aj y f A/\FX c z h J y A K))<|∀y f,af d b j y f->FX c z h false y f K) (∀H7 D,af d b j H7 D->K c (((decide (G=h))&&(q==o))&&(C==F)) D)) (Br (p==5) (∀b a,af d ar d b a->cl 22 #[(vp c)] a fun e n=>∃r,e=.returned (vp r)/\aj b a n/\Br (Option.isNone r) (K none false n) (cl 41 #[(vp c),(vi 0)] n fun e t=>∃N,e=.returned (vi N)/\aj b n t/\cl 40 #[(.agg #[(vi 6),(vi 0),(vu 77),(vs (⟨#[122,122]⟩:ByteArray)),(vb false)])] t fun e w=>∃B,e=.returned (vs B)/\aj b t w/\cl 23 #[(vp c),(vs B)] w (XC fun r20 E=>aj b w E/\K r true E))) (∀b a,af d ar d b a->K c true a)))))
def YK(f1 w1 aD aE aH aI aJ aK aL aF aG w0 K)(h:K7 f1 w1 aD aE aH aI aJ aK aL aF aG w0 K):
  cl 11 #[(vp f1),(vp w1),(.agg #[(vi aD),(vs aE),(vi aH),(vi aI),(vu aJ),(vs aK),(vb aL),(vi aF),aG.v])] w0<|XT K:=
 dv func11 h<|nh 0<|lh 3 0 []<|br 0 2 (ah<|dC 1 [4,8] []<|jg 3 0 [1]<|jg 2 0 [1]<|kr 0 call23<|kr 0 call45<|rr 3)<|br 0 3 (ij 2 0 [2] 5<|ah<|du 0 call40<|du 4 call23<|du 2 call45<|rr 3)<|br 0 3 (ah<|dC 1 [4,5,9] []<|jg 3 0 [7]<|jg 2 0 [7]<|kr 0 call41<|kr 0 call16<|kr 0 call46<|rr 3)<|pj 3 0 [(aD==3)] [0,1,5,17] (fun b=>[(56,(vb<|cond (b 0) (aD==3)<|aD==4))]) (fun f=>pb 0 0 0 f (fun f=>pe 1 0 f)<|fun f=>pe 3 0 f)<|br 0 0 (ah<|my 2<|lh 1 0 [8]<|dt<|ef 0<|ie<|Ei 0 call14<|fun {m a k}=>lh 9 0 [8]<|Ei 0 call47<|fun {d c l}=>pj 7 0 [(aD==4)] [0,1,9,10,11,12,13,14] (fun b=>[(83,(vb<|(b 0)&&(c==0)))]) (fun i=>lh 1 0 []<|pb 1 2 0 i (fun i=>pe 3 0 i)<|fun i=>pe 3 0 i)<|br 0 0 (ct 6 5<|pj 0 0 [(decide (m=d))] [0,1,9,12,84] (fun b=>[(93,(vb<|(b 0)&&(a==c)))]) (fun e=>pb 1 0 0 e (fun e=>cp 1 call16 (zs a)<|pe 3 0 e)<|fun e=>pe 5 0 e)<|ct 1 4<|jk 0 0 [1,12,84] (fun n=>[(98,(vb n))]) (fun n H w=>FX _ _ _ n H w _) (fun o=>br 1 0 (ah<|du 2 call23<|je 1 0 o)<|ah<|je 4 0 o)<|fun {n}=>br 1 1 (du 2 call45<|rr 3)<|rr 6)<|pj 1 0 [] [] (fun b=>[(6,(vp f1)),(7,(vb<|((decide (m=d))&&(a==c))&&(k==l)))]) (fun p=>ct 5 5<|pj 0 0 [(decide (m=d))] [11,14,104] (fun b=>[(113,(vb<|(b 0)&&(a==c)))]) (fun g=>pb 1 0 0 g (fun g=>cp 1 call16 (zs a)<|pe 3 0 g)<|fun g=>pe 5 0 g)<|ct 1 4<|pj 0 0 [((decide (m=d))&&(a==c))] [104] (fun b=>[(118,(vb<|(b 0)&&(k==l)))]) (fun j=>pb 1 0 0 j (fun j=>pe 4 0 j)<|fun j=>pe 4 0 j)<|pe 2 0 p)<|ah<|rr 0)<|br 0 3 (ah<|du 2 call22<|br 0 3 (rr 3)<|du 2 call41<|du 2 call40<|du 0 call23<|rr 3)<|ah<|rr 4
def H0(i1:Int)(b:Option Addr)(H:NP)(w:World)(a:(Option Addr)->Int->NP->WP)(c:Bool->WP):Prop:=a b (q6.wrap<|i1+1) H w
def N1(x:Option Addr)(c:Sl)(i2:Int)(b:NP)(a:World)(h:Int->NP->WP)(K:Bool->WP):Prop:=Br (decide (i2<(c.len:Int))) (∃a2:Addr,At c i2 5 a2/\lb a (a2.add 4) fun w=>Br (!w) (∃a3:Addr,At c i2 5 a3/\∃k r s m q,Row a a3 (Ae k r s m q)/\cl 25 #[(.agg #[(vi k),(vi r),(vu s),(vs m),(vb q)]),(vb false),(vb false)] a fun e f=>∃l o u t n p,e=.returned (Aa l o u t n p)/\aj b a f/\cl 19 #[(vp x),(.agg #[(vi l),(vi o),(vi u),(vu t),(vs n),p.v])] f (XC fun j d=>aj b f d/\Br (!j) (K false d) (h (q6.wrap<|i2+1) b d))) (h (q6.wrap<|i2+1) b a)) (cl 8 #[] a<|XC fun i g=>aj b a g/\K i g)
def DB(l:Option Addr)(g:Option Addr)(j:Bool)(k:World)(H:NP)(w:World)(K:Bool->WP):Prop:=Br j (K false w)<|cl 24 #[(vp g)] w<|XA fun f e=>aj H w e/\∃(h:Int->NP->WP) (c:Int->World->Nat),h 0 H e/\∀(i2:Int) (b:NP) (a:World),af k b a b a->h i2 b a->N1 l f i2 b a (fun d i w'=>h d i w'/\c d w'<c i2 a) K
def Ef(h:Int)(f:Option Addr)(d:Bool)(a:Option Addr)(g:Bool)(e:World)(H:NP)(w:World)(K:Bool->WP):Prop:=Br g (DB f a true e H w K)<|cl 21 #[(vp a),(vi h)] w<|XC fun c b=>aj H w b/\DB f a (!(c==d)) e H b K
def DY(f i:Int)(k:ByteArray)(g:Option Addr)(d c:Bool)(a:Option Addr)(j:Bool)(h:World)(H:NP)(w:World)(K:Bool->WP):Prop:=Br j (Ef f g c a true h H w K)<|cl 13 #[(vp a),(.agg #[(vi f),(vu i),(vs k)])] w<|XC fun e b=>aj H w b/\Ef f g c a (!(e==d)) h H b K
def Ep(k m:Int)(n:ByteArray)(i:Option Addr)(r:ByteArray)(q:Bool)(p:World)(H:NP)(w:World)(K:Bool->WP):Prop:=Br q (K false w)<|∃l:WP,l w.drew/\∀g,g=w.drew->cl 13 #[(vp i),(.agg #[(vi k),(vu m),(vs n)])] g fun e d=>∃f,e=.returned (vb f)/\l d/\aj H g d/\cl 21 #[(vp i),(vi k)] d fun e c=>∃h,e=.returned (vb h)/\l c/\aj H d c/\cl 22 #[(vp i)] c fun e b=>∃a,e=.returned (vp a)/\aj H c b/\Br (Option.isNone a) (DY k m n i f h a true p H b K) (cl 23 #[(vp a),(vs r)] b<|XC fun o j=>aj H b j/\DY k m n i f h a (!o) p H j K)
def NN(V o:Sl)(P L:Int)(B:ByteArray)(r3:Option Addr)(i:Option Addr)(i1:Int)(j:World)(a:NP)(c:World)(y:(Option Addr)->Int->NP->WP)(K:Bool->WP):Prop:=Br (decide (i1<(V.len:Int))) (Br (Option.isNone i) (K false c)<|∃a1:Addr,At V i1 9 a1/\∃D N H A R M E Q,∃T:Sl,Row c a1 [(vi D),(vs N),(vi H),(vi A),(vu R),(vs M),(vb E),(vi Q),T.v]/\cl 11 #[(vp i),(vp r3),(.agg #[(vi D),(vs N),(vi H),(vi A),(vu R),(vs M),(vb E),(vi Q),T.v])] c (XT fun z Y t=>aj a c t/\Br ((!Y) ||(Option.isNone z)) (∀p l,af j a t p l->K false l) (∀p l,af j a t p l->H0 i1 z p l y K)))<|Br (Option.isNone i) (K false c)<|∀S w,au c (.cells #[] 88) S w->∃s1:Sl,∃r:World,(Builtin.append_ #[36,36] 36 #[(Sl.mk (some S) 0 0).v,o.v]).run prog w=.ok s1.v r/\aj a w r/\cl 14 #[(vp i),s1.v] r fun e x=>∃q I Z,e=.returned (.tuple #[(vs q),(vi I),(vi Z)])/\aj a r x/\Br (I !=0) (∀b,af j a x a b->cl 8 #[] b (XC fun X k=>aj a b k/\K X k)) (∀b,af j a x a b->∃W:Sl,∃f:World,(convert 9 59<|vs q).run prog b=.ok W.v f/\aj a b f/\cl 18 #[W.v] f fun e d=>∃g m u,e=.returned (.tuple #[(vp g),(vi m),(vi u)])/\aj a f d/\Br (m !=0) (Ep P L B i q true j a d K) (∃a4,g=some a4/\∃F:Sl,d.cell? a4=some F.v/\cl 20 #[(vp g),(vi (F.len:Int))] d fun e h=>∃U O G C bK J,e=.returned (Aa U O G C bK J)/\aj a d h/\cl 19 #[(vp i),(.agg #[(vi U),(vi O),(vi G),(vu C),(vs bK),J.v])] h (XC fun s n=>aj a h n/\Ep P L B i q (!s) j a n K)))
def Ht(q d:Sl)(o p:Int)(r:ByteArray)(s:Bool)(k:World)(H:NP)(w:World)(K:Bool->WP):Prop:=Br s (cl 8 #[] w<|XC fun r1 l=>aj H w l/\K r1 l) (cl 9 #[] w fun e i=>∃r2,e=.returned (vp r2)/\aj H w i/\cl 10 #[] i (XD fun r3 m=>aj H i m/\∃(j:(Option Addr)->Int->NP->WP) (f:(Option Addr)->Int->World->Nat),j r2 0 H m/\∀(h:Option Addr) (i1:Int) (b:NP) (a:World),af k b a b a->j h i1 b a->NN q d o p r r3 h i1 k b a (fun c g n w'=>j c g n w'/\f c g w'<f h i1 a) K))
def EE(h a:Sl)(i f:Int)(d:ByteArray)(g:Bool)(c:World)(H:NP)(w:World)(K:Bool->WP):Prop:=∀e b,af c H w e b->Ht h a i f d (g ||(decide ((d.size:Int)>60000))) c e b K
def IY(j a:Sl)(o l:Int)(n:ByteArray)(h:World)(K:Bool->WP):Prop:=∀d i,af h ar h d i->cl 7 #[j.v] i fun e c=>∃f,e=.returned (vb f)/\aj d i c/\Br f (EE j a o l n true h d c K) (∀m b,au c (.cells #[(vi 0),ve,(vi 0),(vi 0),(vu 0),ve,(vb false),(vi 0),a.v] 38) m b->cl 7 #[(Sl.mk (some m) 1 1).v] b (XC fun k g=>aj d b g/\EE j a o l n k h d g K))
def Uj(l1 ops1 aA aC aB w0 K)(h:IY l1 ops1 aA aC aB w0 K):
  cl 4 #[l1.v,ops1.v,(.agg #[(vi aA),(vu aC),(vs aB)])] w0<|XC K:=
 dv func4 h<|nh 0<|jk 1 0 [0,1,5] (fun l=>[(36,(vb l))]) (fun l H w=>Ht _ _ _ _ _ l _ H w _) (fun z=>ah<|du 1 call7<|ct 1 5<|jk 0 0 [0,1,5] (fun c=>[(30,(vb c))]) (fun c H w=>EE _ _ _ _ _ c _ H w _) (fun d=>br 1 0 (je 5 0 d)<|my 2<|du 0 call7<|je 1 0 d)<|fun {c}=>ct 1 5<|pj 0 0 [c] [0,1,5] (fun b=>[(36,(vb<|(b 0) ||(decide ((aB.size:Int)>60000))))]) (fun a=>pb 1 0 0 a (fun a=>pe 5 0 a)<|fun a=>lh 1 0 [2]<|pe 3 0 a)<|ah<|je 0 0 z)<|fun {l}=>br 0 0 (du 1 call8<|rr 1)<|du 1 call9<|du 1 call10<|ye 2 [0,1,5,8] (fun q i1=>[(7,(vp q)),(9,(vi i1))])<|fun {_ _ q i1}=>fun y=>br 0 4 (jk 1 3 [0,1,5,8,9] (fun g=>[(7,(vp g))]) (fun g H w=>H0 _ g H w _ _) (fun u=>br 0 2 (rr 2)<|ix 5<|cf<|um<|lr 0<|il 0 call11<|fun {s t}=>pj 5 0 [(!t)] [0,1,5,8,9,10] (fun b=>[(63,(vb<|(b 0) ||(Option.isNone s)))]) (fun e=>pb 1 3 0 e (fun e=>pe 3 0 e)<|fun e=>pe 3 0 e)<|br 0 0 (ah<|rr 2)<|ah<|je 3 0 u)<|fun {g}=>je 3 0 y)<|br 0 3 (rr 2)<|my 2<|dt<|ef 1<|ie<|Ei 0 call14<|fun {_ x}=>cp 8 call16 (zs x)<|br 0 1 (an<|du 1 call8<|rr 1)<|an<|dt<|ef 2<|ie<|Ei 0 call18<|jk 7 0 [5,7,12] (fun f=>[(100,(vb f))]) (fun f H w=>Ep _ _ _ _ _ f _ H w _) (fun o=>br 1 3 (je 11 0 o)<|nc 3<|ld 1<|ow 1 call20<|du 0 call19<|je 2 0 o)<|fun {f}=>br 0 0 (rr 2)<|dC 1 [2,6] []<|sJ 1 0 [] 3<|jg 2 0 []<|kr 0 call13<|kr 0 call21<|du 3 call22<|jk 1 0 [7,20] (fun k=>[(132,(vb k))]) (fun k H w=>DB _ _ k _ H w _) (fun p=>ct 3 5<|jk 0 0 [5,7,18,19,20] (fun i=>[(117,(vb i))]) (fun i H w=>DY _ _ _ _ _ _ _ i _ H w _) (fun m=>br 1 0 (je 5 0 m)<|du 2 call23<|je 2 0 m)<|fun {i}=>ct 1 6<|jk 0 0 [5,7,19,20] (fun j=>[(124,(vb j))]) (fun j H w=>Ef _ _ _ _ j _ H w _) (fun n=>br 1 0 (je 6 0 n)<|ij 1 0 [] 3<|du 0 call13<|je 3 0 n)<|fun {j}=>br 1 1 (je 7 0 p)<|lh 2 0 []<|du 0 call21<|je 3 0 p)<|fun {k}=>br 0 0 (rr 2)<|du 2 call24<|td 2 [7,21] (fun i2=>[(22,(vi i2))])<|fun {_ _ i2}=>fun r=>br 0 4 (ix 3<|ld 1<|br 1 2 (ix 3<|gw<|lr 0<|ow 0 call25<|du 0 call19<|br 0 2 (rr 2)<|je 4 0 r)<|je 13 0 r)<|du 1 call8<|rr 1
end Go.Proofs
end
section
open Go Go.SE
namespace Go.Proofs
open Tryz
attribute [local irreducible] Calls
structure Act where
 kind:Int
 body:ByteArray
 l:eo
 who:Int
 so:Sl
 ops:List Op
def pT(x:Act):List Value:=[vi x.kind,vs x.body,vi x.l.kind,vi x.l.ay,vu x.l.c,vs x.l.ba,vb x.l.dz,vi x.who,x.so.v]
structure uc(S:NP)(w:World)(x:Act):Prop where
 num:qW x.l.c
 re:∀o∈x.ops,qW o.num
 ops:dn S w 5 x.so (x.ops.map pn)
 body:x.body.size<=1048576
 ba:x.l.ba.size<=1048576
 fm:x.ops.length<=1048576
 Uf:∀o∈x.ops,o.ba.size<=1048576
def uS(l:List Act):Nat:=(l.map (·.body.size)).sum
structure G6(l:List Act):Prop where
 fm:l.length<=60
 ops:∀x∈l,x.ops.length<=265
 bytes:uS l<=60000
def uc.ext{S X w w' x}(h:uc S w x)(E:ab X w w')(a:∀y,S y->¬X y):uc S w' x:={ h with ops:=h.ops.ext E a }
def UO{S w sz s}{α:Type}{g:α->List Value}{xs:List α}(h:dn S w sz s (xs.map g)){j}(f:j<xs.length){a}(e:At s j sz a):Row w a (g xs[j]):=by
 have⟨b,h1,_,h2⟩:=h.mm f;obtain⟨_,_,y,d,rfl⟩:=e;obtain⟨_,_,z,c,rfl⟩:=h1;rw[d]at c;cases c;exact h2
def JB{S}(l1 ls w0)(u:dn S w0 9 l1 (ls.map pT))(t:∀x∈ls,uc S w0 x):
  cl 7 #[l1.v] w0<|XC fun r w'=>(r=false->G6 ls)/\Pure w0 w':=by
 refine Xw l1 w0 _ ?_
 unfold Qa
 have W:l1.len=ls.length:=by rw[u.len];simp
 refine⟨fun n i H w=>∃j:Nat,i=j/\j<=ls.length/\j<=61/\(uS (ls.take j):Int)<=n/\n<=j*300000000/\(∀x∈ls.take j,x.ops.length<=265)/\Pure w0 w,fun _ i _=>(100-i).toNat,⟨0,rfl,Nat.zero_le _,Om,by simp[uS],Sm,Sm,ab.refl _⟩,?_⟩
 rintro n1 _ Y wl P ⟨j,rfl,hj,M,z,U,I,G⟩
 refine⟨fun y=>?_,fun y H4 Z hs=>⟨fun h=>?_,G.aq hs⟩⟩
 simp only[Bool.and_eq_true,decide_eq_true_eq]at y
 have d:j<ls.length:=Om
 have C:j<=60:=Om
 have m:=t _<|List.getElem_mem d
 have f:ls.take (j+1)=ls.take j++[ls[j]]:=by rw[List.take_succ_eq_append_getElem d]
 have⟨a,b,_⟩:=u.mm d
 have one:∀{w},Pure w0 w->Row w a (pT ls[j]):=fun E=>UO (u.pure E) d b
 generalize ls[j]=x at *
 refine⟨a,b,fun H1 w2 A=>?_⟩
 have F:=G.aq A
 have r2:=one F
 have hb:=m.body;have ht:=m.ba;have hf:=m.fm
 refine⟨x.body,r2 1<|by simp[pT],a,b,x.l.ba,by rw[yL];exact r2 5<|by simp[pT],a,b,x.so,r2 8<|by simp[pT],?_⟩
 have J:x.so.len=x.ops.length:=by rw[m.ops.len];simp
 have R:0<=n1:=Om
 have hm:(uS (ls.take j):Int)+x.body.size<=IntKind.i64.wrap ((IntKind.i64.wrap<|(IntKind.i64.wrap<|n1+(x.body.size:Int))+(x.l.ba.size:Int))+(x.so.len:Int))/\IntKind.i64.wrap ((IntKind.i64.wrap<|(IntKind.i64.wrap<|n1+(x.body.size:Int))+(x.l.ba.size:Int))+(x.so.len:Int))<=j*300000000+3145728:=by
  rw[IntWalk.i64_in (n1+_) Om,IntWalk.i64_in (n1+_+_) Om,IntWalk.i64_in _ Om];omega
 generalize IntKind.i64.wrap ((IntKind.i64.wrap<|(IntKind.i64.wrap<|n1+(x.body.size:Int))+(x.l.ba.size:Int))+(x.so.len:Int))=n2 at *
 refine⟨fun n k H w=>∃i:Nat,k=i/\i<=x.ops.length/\i<=257/\n2<=n/\n<=n2+i*1048576/\Pure w0 w,fun _ k _=>(1000-k).toNat,⟨0,rfl,Nat.zero_le _,Om,Int.le_refl _,Om,F⟩,?_⟩
 rintro n3 _ Q L D ⟨k,rfl,hk,K,N,O,p⟩
 refine⟨a,b,x.so,one p 8<|by simp[pT],fun X w3 B=>?_⟩
 have g:=p.aq B
 refine⟨fun o=>?_,fun o=>?_⟩
 simp only[Bool.and_eq_true,decide_eq_true_eq]at o
 have c:k<x.ops.length:=Om
 have⟨T,q,_,s⟩:=(m.ops.pure g).mm c
 have V:=m.Uf _<|List.getElem_mem c
 refine⟨a,b,x.so,one g 8<|by simp[pT],T,q,x.ops[k].ba,s 4<|by simp[pn],?_⟩
 rw[IntWalk.i64_in (n3+_) Om,zN c Om]
 exact⟨⟨k+1,rfl,c,Om,Om,Om,g⟩,by show(1000-((k+1:Nat):Int)).toNat<(1000-(k:Int)).toNat;omega⟩
 refine⟨a,b,x.so,one g 8<|by simp[pT],fun _=>⟨fun h=>(by cases h),g⟩,fun e=>?_⟩
 have e:=of_decide_eq_false e
 rw[zN (n:=100) Om Om]
 refine⟨⟨j+1,rfl,d,Om,?_,Om,?_,g⟩,by show(100-((j+1:Nat):Int)).toNat<(100-(j:Int)).toNat;omega⟩
 rw[f];simp only[uS,List.map_append,List.sum_append,List.map_cons,List.map_nil,List.sum_cons,List.sum_nil]at *;omega
 grind
 simp only[Bool.or_eq_false_iff,decide_eq_false_iff_not]at h
 simp only[Bool.and_eq_false_iff,decide_eq_false_iff_not]at y
 have:j=ls.length:=Om
 subst this
 rw[List.take_length]at z I
 exact⟨Om,I,Om⟩
end Go.Proofs
end
section
open Go Go.SE List
namespace Go.Proofs
open Tryz
set_option maxRecDepth 100000
set_option maxHeartbeats 4000000
attribute [local irreducible] bu ft fg dw Calls
attribute [local irreducible] jq W WV WR yW pv ku jd nz ka lq ky lj mz mo iq fa im mv kq kp uP xG yA bn ub
def VY(e:World)(K:(Option Addr)->WP):Prop:=cl 44 #[] e<|XD fun r1 f=>∀b d,au f (.cells #[(vp r1),Sl.nil.v] 48) b d->∀a c,au d (.cells #[(vp<|some b),(vb false),(vb false)] 52) a c->K (some a) c
theorem Yx(a:World)(K:(Option Addr)->WP)(h:VY  a K):
  cl 10 #[] a<|XD K:=
 cy func10 h<|fy 1 call44<|cd 1<|cd 1<|rr 1
def Kw(d:Option Addr)(a:ByteArray)(b:World)(K:Bool->WP):Prop:=∃a1,d=some a1/\lp b a1 fun i=>∃a2,i=some a2/\lp b a2 fun h=>∃g:Sl,∃f:World,(convert 9 59<|vs a).run prog b=.ok g.v f/\cl 54 #[(vp h),g.v] f fun e c=>∃r1 r2 r3,e=.returned (.tuple #[(vi r1),(vi r2),(vi r3)])/\Br (r2 !=0) (K false c) (∃a3,d=some a3/\lp c a3 fun k=>cl 100 #[(vp k),(vi r1)] c<|XB fun l j=>K true j)
theorem jcM(f1 body1 w0 K)(h:Kw f1 body1 w0 K):
  cl 45 #[(vp f1),(vs body1)] w0<|XC K:=
 cy func45 h<|nc 2<|ld 1<|nc 0<|ld 1<|dt<|ef 1<|ev<|BS 0 call54<|br 0 9 (rr 2)<|nc 2<|ld 1<|fy 1 call100<|rr 1
def Ym(c:Option Addr)(a:Int)(b:World)(K:Int->WP):Prop:=Br ((a !=0)&&(a !=1)) (K 2 b)<|∃a1,c=some a1/\lp b a1 fun i=>∃a2,i=some a2/\lp b a2 fun h=>cl 60 #[(vp h),(.agg #[(vi 6),(vi a),(vi 0),(vu 0),ve,(vi 0),(vi 0)])] b fun e f=>∃r1 r2,e=.returned (.tuple #[(vi r1),(vi r2)])/\∃a3,c=some a3/\lp f a3 fun j=>cl 100 #[(vp j),(vi r1)] f<|XB fun r3 d=>∃a4,c=some a4/\∃a5:Addr,EZ (a4.add 1) a 2 1 a5/\zL d a5/\∀g,g=d.setCell a5 (vb true)->K 0 g
theorem jaS(f1 who1 w0 K)(h:Ym f1 who1 w0 K):
  cl 46 #[(vp f1),(vi who1)] w0<|XB K:=
 cy func46 h<|pjn 1 0 [(who1 !=0)] [0,1] (fun b=>[(12,(vb<|(b 0)&&(who1 !=1)))]) (fun a=>pb 1 3 0 a (fun a=>LN 3 a)<|fun a=>LN 3 a)<|br 0 0 (rr 2)<|nc 2<|ld 1<|nc 0<|ld 1<|kz 2 call60<|nc 6<|ld 1<|fy 1 call100<|nc 2<|Qv 1<|gv 0<|rr 1
def Pb(d:Option Addr)(q:Sl)(g:World)(K:ByteArray->Int->Int->WP):Prop:=∃f:WP,f g.drew/\∀a,a=g.drew->∃a1,d=some a1/\lp a a1 fun o=>∃a2,o=some a2/\lp a a2 fun m=>∃a3,d=some a3/\lp a a3 fun r=>∃a4,r=some a4/\lx a (a4.add 1) fun k=>cl 101 #[(vp m),k.v,q.v] a fun e b=>∃r1 r2 r3,e=.returned (.tuple #[(vi r1),(vi r2),(vi r3)])/\f b/\aj ar a b/\Br (r2 !=0) (K ⟨#[]⟩ r2 r3 b) (∃a5,d=some a5/\lp b a5 fun p=>∃i,p=some i/\lp b i fun n=>cl 102 #[(vp n),(vi r1)] b<|XM fun l h c=>aj ar b c/\Br (h !=0) (K ⟨#[]⟩ h 0 c) (∃j,(convert 59 9 l.v).run prog c=.ok (vs j) c/\K j 0 0 c))
theorem Xq(f1 l1 w0 K)(h:Pb f1 l1 w0 K):
  cl 47 #[(vp f1),l1.v] w0<|XU K:=
 dv func47 h<|dC 3 [15] []<|nc 1<|sC 1<|nc 0<|sC 1<|nc 1<|sC 1<|nc 0<|sC 1<|JC 1 call101<|br 0 9 (rr 6)<|nc 2<|ld 1<|nc 0<|ld 1<|il 1 call102<|br 0 7 (rr 5)<|xe<|rn 2<|rr 3
end Go.Proofs
end
section
open Go Go.SE List
namespace Go.Proofs
open Tryz
set_option maxRecDepth 100000
set_option maxHeartbeats 4000000
attribute [local irreducible] bu ft fg dw Calls
attribute [local irreducible] jq W WV WR yW pv ku jd nz ka lq ky lj mz mo iq fa im mv kq kp uP xG yA bn ub
def QS(s1:Sl)(a:World)(K:Sl->WP):Prop:=∃b1,(Go.binOp .eql 59 s1.v Sl.nil.v).run prog a=.ok (vb b1) a/\Br b1 (K Sl.nil a) (∀b c,au a (.cells #[] 5) b c->∃d:Sl,∃e:World,(Builtin.append_ #[59,59] 59 #[(Sl.mk (some b) 0 0).v,s1.v]).run prog c=.ok d.v e/\K d e)
def Xl(s1 w0 K)(h:QS s1 w0 K):
  cl 271 #[s1.v] w0<|XA K:=
 cy func271 h<|xe<|rb 2<|br 0 0 (rr 2)<|cd 1<|dt<|ef 1<|ev<|rr 1
end Go.Proofs
end
section
namespace Go.SE
variable {P:Program}
def zn(P:Program)(o:Oper)(ε:Operand->Value)(w:World)(R:Value->World->Prop)(X:List PanicEntry->World->Prop):Prop:=
 (∀c,o.op≠.defer c)/\match(execOp ε o).run P w with
 |.ok (.value v) w'=>R v w'
 |.ok .skip w'=>R undef w'
 |.ok (.enter f args) w'=>Calls P f args w' fun e a=>(∃v,e=.returned v/\R v a)\/∃b,e=.panicked b/\X b a
 |.ok (.row row args) w'=>Rows P row args w' R
 |.ok (.round l f tmps assign body) w'=>RoundIn Fence.wide 0 P l f tmps assign body w' fun e a=>∃v,e=.returned v/\R v a
 |.halt (.panic v) w'=>X [{ v,recovered:=false }] w'
 |_=>False
def PK{o}{ε:Operand->Value}{w}{R d:Value->World->Prop}{X b:List PanicEntry->World->Prop}(h:zn P o ε w R X)(hr:∀v w',R v w'->d v w')(f:∀c w',X c w'->b c w'):zn P o ε w d b:=by
 unfold zn at *;refine⟨h.1,?_⟩;have h:=h.2;generalize (execOp ε o).run P w=r at *;cases r with
 |ok n w' =>
  cases n<;>simp only at h|-<;>first
   |exact hr _ _ h
   |exact RoundIn.mono h fun e a ⟨v,g,i⟩=>⟨v,g,hr _ _ i⟩
   |exact Calls.mono h fun e a hh=>hh.elim Gd Gd
   |exact h.mono hr
 |halt x w'=>cases x<;>simp only at h|-<;> exact f _ _ h
def jOM{o}{ε:Operand->Value}{w}{R:Value->World->Prop}{X:List PanicEntry->World->Prop}(h:mr P o ε w R):zn P o ε w R X:=by
 refine⟨JO h,?_⟩;unfold mr at h;generalize (execOp ε o).run P w=r at *;cases r with
 |ok n w' =>
  cases n<;>simp only at h|-<;>first
   |exact h
   |exact Calls.mono h fun e a ⟨v,c,b⟩=>.inl ⟨v,c,b⟩
 |halt x w'=>exact h.elim
def LO{ro:Option Nat}{m o a w}{K:Act->World->Prop}{Q:Exit->Act->World->Prop}(h:zn P o a.eval w (fun v w'=>K (a.put o.dst v) w') fun g w'=>Q (.panic g) a w'):o.wpIn (jt ro) m P a w K Q:=by
 have⟨i,h⟩:=h;refine⟨fun f _=>AN ro f,?_⟩;rw[QI,Oper.semAt_eq _ _ _ i];have c:(jt ro).depth.isSome=true->1<=m:=fun h=>by rw[PB]at h;cases h
 generalize (execOp a.eval o).run P w=r at *;cases r with
 |ok n w' =>
  cases n<;>simp only at h<;>simp only[Oper.uponIn]
  case value=>exact h
  case skip=>exact h
  case enter =>
   refine⟨c,(Calls.jt h).mono ?_⟩
   rintro e b (⟨v,rfl,d⟩|⟨g,rfl,k⟩)
   .exact d
   .exact k
  case row=>exact⟨c,Rows.jt h⟩
  case round=>exact⟨c,(RoundIn.jt h).mono fun e b ⟨v,j,d⟩=>by subst j;exact d⟩
 |halt x w'=>cases x<;>simp only at h<;>simp only[Oper.uponIn];exact h
def pX(P:Program)(ops:Array Oper)(Q:bg->World->Prop)(X:List PanicEntry->World->Prop):List Oper->bg->World->Prop
 |[],ρ,w=>Q ρ w
 |o :: rest,ρ,w =>
  if Region.wanted o (zJ ops ρ)then zn P o (bw ρ) w (fun v w'=>pX P ops Q X rest (put ρ o.dst v) w') X
  else pX P ops Q X rest (put ρ o.dst undef) w
section
variable {x:Cx} {n:Nat} {Q:Exit->bg->World->Prop} {ρ:bg} {w:World}
def Jn{ops Q'}{X:List PanicEntry->World->Prop}(c:∀ρ a w,gp x.ds n ρ a->Q' ρ w->rI x n Q .normal a w)(i:∀ρ a e w,gp x.ds n ρ a->X e w->rI x n Q (.panic e) a w):
  ∀(l:List Oper) (ρ:bg) (a:Act) (w:World),tO n l=true->gp x.ds n ρ a->pX P ops Q' X l ρ w->wpListIn (jt x.ro) 0 P ops (rI x n Q) l a w
 |[],ρ,a,w,_,hr,h=>c _ _ _ hr h
 |o :: l,ρ,a,w,j,hr,h=>by
  have⟨g,b⟩:=Oq j;unfold pX at h;unfold wpListIn;rw[hr.yielded];split;rename_i d;rw[if_pos d]at h;apply LO;rw[hr.eval];exact PK h (fun v w' hh=>Jn c i l _ _ _ b (hr.put g v) hh) Gd;rename_i d;rw[if_neg d]at h;exact⟨fun f _=>AN x.ro f,Jn c i l _ _ _ b (hr.put g undef) h⟩
def qU{id l}(d:tO n l=true)(h:pX P l.toArray (fun ρ w=>Q .normal ρ w) (fun f w=>∀ρ,Q (.panic f) ρ w) l ρ w):dw (x:=x) P n (.region id l.toArray false) Q ρ w:=fun a e =>
 wpIn_region_lit<|Jn (fun b _ _ hr c=>⟨b,.inl ⟨hr,c⟩⟩) (fun b _ _ _ hr c=>⟨b,.inl ⟨hr,c b⟩⟩) l ρ a w d e h
end
def Po(P:Program)(fn:Func)(n:Nat)(R:Ending->World->Prop):Exit->bg->World->Prop
 |.normal,ρ,w|.ret,ρ,w=>∃v,(∀ds a,gp ds n ρ a->(results fn a.tmps).run P w=.ok v w)/\R (.returned v) w
 |.panic b,_,w=>R (.panicked b) w
 |_,_,_=>False
def xL{n w f fn c args R}(k:P.funcs[f]?=some fn)(o:fn.body=some c)(m:fn.ntmps=n)(j:args.length<=n)(h:dw (x:=⟨none,[]⟩) P n c (Po P fn n R) (xG args) w):Calls P f args.toArray w R:=by
 subst m;refine callsIn_wide.1<|callsIn_of_wp_marks (n:=0) k o trivial ?_;refine wpIn_mono (h _<|D0 args j) ?_;rintro e a w' ⟨p,⟨hr,b⟩|⟨rfl,_,_,D,hr,l,b⟩⟩;have d:a.defers=[]:=hr.defers;cases e with
 |normal=>have⟨v,g,i⟩:=b;simp only[bodyPostM,d];exact za (g _ a hr) i
 |ret=>have⟨v,g,i⟩:=b;simp only[bodyPostM,d];exact za (g _ a hr) i
 |exit _=>exact b.elim
 |goto _=>exact b.elim
 |panic q=>simp only[bodyPostM,d];exact b
 |outgrown=>exact b.elim
 have⟨v,g,i⟩:=b;have d:a.defers=[mark D]:=hr.defers;simp only[bodyPostM,d];exact⟨Sm,.inl ⟨D,_,rfl,run_takeDeferred l,za (g _ a hr) i⟩⟩
def ep{n fn R e ρ w}(h:qz P fn n R e ρ w):Po P fn n R e ρ w:=by
 cases e<;>first|exact h|exact h.elim
def qO{ops Q}{X:List PanicEntry->World->Prop}:∀(k:Nat) {l:List Oper} {ρ:bg} {w:World},bu P ops (fun ρ w=>pX P ops Q X (l.drop k) ρ w) (l.take k) ρ w->pX P ops Q X l ρ w
 |0,l,ρ,w,h=>by simpa[bu]using h
 |k+1,[],ρ,w,h=>by simpa[bu]using h
 |k+1,o :: l,ρ,w,h=>by
  simp only[List.take_succ_cons,List.drop_succ_cons]at h;unfold bu at h;unfold pX;split;rename_i a;rw[if_pos a]at h;exact PK (jOM (X:=X) h) (fun v w' hh=>qO k hh) fun _ _ h=>h;rename_i a;rw[if_neg a]at h;exact qO k h
def DC{ops Q}{X:List PanicEntry->World->Prop}{l ρ w}(h:bu P ops Q l ρ w):pX P ops Q X l ρ w:=
 qO l.length (by rw[List.take_length,List.drop_length];exact Be (fun ρ w a=>a) h)
section
variable {ε:Operand->Value} {w:World} {d:Option Tmp} {ty:TypeId} {pos:String} {aft:Array Edge} {g:Option (Nat×Bool)}
def Cz{x t v}(a:ε x=.iface t v):(execOp ε ⟨d,.panic x,ty,pos,aft,g⟩).run P w=.halt (.panic<|.iface t v) w:=by
 simp[execOp,a];rfl
end
section
variable {ops:Array Oper} {Q:bg->World->Prop} {X:List PanicEntry->World->Prop} {ρ:bg} {w w':World} {rest:List Oper} {o:Oper} {v:Value}
def zCL(h:Q ρ w):pX P ops Q X [] ρ w:=h
def AV{f args}(g:Region.wanted o (zJ ops ρ)=true)(d:∀c,o.op≠.defer c)(hr:(execOp (bw ρ) o).run P w=.ok (.enter f args) w')(h:Calls P f args w' fun e a=>(∃v,e=.returned v/\pX P ops Q X rest (put ρ o.dst v) a)\/∃b,e=.panicked b/\X b a):pX P ops Q X (o ::rest) ρ w:=by
 unfold pX;rw[if_pos g];exact⟨d,by rw[hr];exact h⟩
def Ct{pv}(b:Region.wanted o (zJ ops ρ)=true)(a:∀c,o.op≠.defer c)(hr:(execOp (bw ρ) o).run P w=.halt (.panic pv) w')(h:X [{ v:=pv,recovered:=false }] w'):pX P ops Q X (o ::rest) ρ w:=by
 unfold pX;rw[if_pos b];exact⟨a,by rw[hr];exact h⟩
end
section
variable {ε:Operand->Value} {w:World} {d:Option Tmp} {ty:TypeId} {pos:String} {aft:Array Edge} {g:Option (Nat×Bool)}
end
end Go.SE
end
section
open Go Go.SE List
open Go.IntKind renaming i64 -> q6
namespace Go.Proofs
open Tryz
set_option maxRecDepth 100000
set_option maxHeartbeats 4000000
attribute [local irreducible] bu ft fg dw Calls
attribute [local irreducible] jq W WV WR yW pv ku jd nz ka lq ky lj mz mo iq fa im mv kq kp uP xG yA bn ub
def Lj(c:Option Addr)(b:Int)(a:World)(K:Bool->WP):Prop:=Br (decide (b>=1)) (∃a1,c=some a1/\lx a a1 fun d=>K (decide (b<=(d.len:Int))) a)<|K false a
def Zd(p1 t1 w0 K)(h:Lj p1 t1 w0 K):
  cl 112 #[(vp p1),(vi t1)] w0<|XC K:=
 cy func112 h<|br 1 4 (nc 2<|ld 1<|rr 4)<|rr 9
def jae(g:Option Addr)(l:Int)(c:World)(K:Int->Int->Int->Int->ByteArray->Int->Int->Bool->WP):Prop:=∀a d,af c ar c a d->cl 112 #[(vp g),(vi l)] d (XC fun r1 b=>aj a d b/\Br (!r1) (∀k,af c a b a k->K 0 0 0 0 ⟨#[]⟩ 0 0 false k) (∃a1,g=some a1/\lx b a1 fun p=>∃a2:Addr,At p (q6.wrap<|l-1) 7 a2/\∃i o f e j h n,Row b a2 (Ab i o f e j h n)/\∀m,af c a b a m->K i o f e j h n true m))
def TV(p1 t1 w0 K)(h:jae p1 t1 w0 K):
  cl 64 #[(vp p1),(vi t1)] w0<|fun e w'=>∃b i c d f a g r2,e=.returned (.tuple #[(Ac b i c d f a g),(vb r2)])/\K b i c d f a g r2 w':=
 dv func64 h<|nh 0<|ah<|du 3 call112<|br 0 1 (sg 2 0 []<|an<|dx 1<|oe 0 [] 7<|dy)<|nc 2<|ld 1<|ix 2<|cf<|xe<|lr 0<|sg 0 0 []<|an<|dx 1<|oe 0 [] 7<|dy
def di(a:Int):Int:=(cond (a==4) 2<|cond (cond (a==5) (a==5)<|cond (a==7) (a==7)<|cond (a==8) (a==8)<|a==9) 1 0)
def qu(a:Int)(f:World):cl 65 #[(.int .i64 a)] f (fun e w'=>e=.returned (.int .i64<|di a)/\Pure f w'):=
 jr func65 [(a==4),(cond (a==5) (a==5)<|cond (a==7) (a==7)<|cond (a==8) (a==8)<|a==9)] (fun b=>(vi<|cond (b 0) 2<|cond (b 1) 1 0)) fun d=>pb 0 4 0 d (fun d=>ff 2 d)<|fun d=>pj 3 0 [(a==5),(a==7),(a==8)] [] (fun b=>[(6,(vb<|cond (b 0) (a==5)<|cond (b 1) (a==7)<|cond (b 2) (a==8)<|a==9))]) (fun c=>pb 0 0 0 c (fun c=>pe 1 0 c)<|fun c=>pb 0 3 1 c (fun c=>pe 1 0 c)<|fun c=>pb 0 3 2 c (fun c=>pe 1 0 c)<|fun c=>pe 3 0 c)<|pb 0 0 1 d (fun d=>ff 2 d)<|fun d=>ff 2 d
def Ci(z:Option Addr)(y A:Int)(n t:Int)(p x:Int)(k:ByteArray)(m:Sl)(j:World)(H:NP)(w:World)(K:Int->Int->Int->Int->ByteArray->Sl->WP):Prop:=Br (((di y):Int)==2) (∀i,af j H w H i->∃h:WP,h i.drew/\∀d,d=i.drew->cl 20 #[(vp z),(vi A)] d fun e c=>∃bK o s l u r,e=.returned (Aa bK o s l u r)/\h c/\aj H d c/\∀q b,au c (.cells #[(vi bK),(vi o),(vi s),(vu l),(vs u),r.v] 71) q b->h b/\∃s1:Sl,∃a:World,(Builtin.append_ #[69,69] 69 #[m.v,(Sl.mk (some q) 1 1).v]).run prog b=.ok s1.v a/\h a/\aj H b a/\∀f,af j H a H f->K n t p x k s1 f) (∀g,af j H w H g->K n t p x k m g)
def LV(l:Option Addr)(G:Int)(d:World)(K:Int->Int->Int->Int->ByteArray->Sl->WP):Prop:=∀k r,af d ar d k r->cl 64 #[(vp l),(vi G)] r fun e m=>∃h q s t p A o r1,e=.returned (.tuple #[(Ac h q s t p A o),(vb r1)])/\aj k r m/\Br (!r1) (∀F y,af d k m F y->K 0 0 0 0 ⟨#[]⟩ Sl.nil y) (Br (decide ((di h)>=1)) (∀c i,af d k m c i->∃n:WP,n i.drew/\∀f,f=i.drew->cl 20 #[(vp l),(vi A)] f fun e g=>∃E w u x z B,e=.returned (Aa E w u x z B)/\n g/\aj c f g/\∀C b,au g (.cells #[(vi E),(vi w),(vi u),(vu x),(vs z),B.v] 71) C b->n b/\∃D:Sl,∃a:World,(Builtin.append_ #[69,69] 69 #[Sl.nil.v,(Sl.mk (some C) 1 1).v]).run prog b=.ok D.v a/\n a/\aj c b a/\∀j,af d c a c j->Ci l h o h q s t p D d c j K) (∀c i,af d k m c i->Ci l h o h q s t p Sl.nil d c i K))
def Rt(p1 t1 w0 K)(h:LV p1 t1 w0 K):
  cl 20 #[(vp p1),(vi t1)] w0<|fun e w'=>∃p m i o q k,e=.returned (Aa p m i o q k)/\K p m i o q k w':=
 dv func20 h<|nh 0<|ah<|cc 2 call64<|cf<|fun {j}=>dt<|rt<|ie<|nh 3<|sg 0 0 []<|br 0 3 (sg 2 1 []<|ah<|dx 0<|oe 1 [] 6<|dy)<|lh 2 0 []<|lh 1 0 [1]<|lh 1 0 [2]<|lh 1 0 [3]<|lh 1 0 [4]<|nh 1<|sg 0 0 []<|lh 1 1 []<|cp 0 call65 (qu j)<|Yf 1 0 [0,4,5,7] (fun g f b d a c=>[]) (fun g f b d a c l=>im l 0 0 [(vi g),(vi f),(vi b),(vu d),(vs a),(Sl.v c)]) (fun g f b d a c H w=>Ci _ _ _ g f b d a c _ H w _) (fun n=>br 0 0 (ah<|dC 1 [5,6,7,9] [9]<|jg 1 0 [5]<|jg 2 1 [5]<|sR 0 call20<|sZ 0<|dt<|ef 0<|rM<|sh 1 0 [5]<|an<|je 0 0 n)<|ah<|je 1 0 n)<|fun {g f b d a c}=>lh 1 1 []<|cp 0 call65 (qu j)<|br 0 1 (an<|dC 1 [5,6,7,9] [9]<|jg 1 0 [5]<|jg 2 1 [6]<|sR 0 call20<|sZ 0<|dt<|ef 0<|rM<|sh 1 0 [5]<|ij 0 0 [] 6<|sg 0 2 []<|an<|dx 0<|oe 2 [] 6<|dy)<|ij 1 0 [] 6<|sg 0 2 []<|an<|dx 0<|oe 2 [] 6<|dy
def LZ(c:World)(K:(Option Addr)->WP):Prop:=∀b a,au c (.cells #[Sl.nil.v,Sl.nil.v,Sl.nil.v] 44) b a->K (some b) a
def Zr(a:World)(K:(Option Addr)->WP)(h:LZ  a K):
  cl 44 #[] a<|XD K:=
 cy func44 h<|cd 2<|rr 1
def V2(a:Int):Bool:=((a==8) ||(a==9))
def GR(a:Int)(d:World):cl 174 #[(.int .i64 a)] d (fun e w'=>e=.returned (.bool<|V2 a)/\Pure d w'):=
 jr func174 [] (fun b=>(vb<|(a==8) ||(a==9))) fun f=>pj 1 0 [] [] (fun b=>[(2,(vb<|(a==8) ||(a==9)))]) (fun g=>ct 3 3<|pj 0 0 [(a==8)] [] (fun b=>[(8,(vb<|(b 0) ||(a==9)))]) (fun c=>pb 1 0 0 c (fun c=>pe 3 0 c)<|fun c=>pe 3 0 c)<|pe 1 0 g)<|ff 0 f
def pK(a:Int):Bool:=((((a==1) ||(a==6)) ||(a==7)) ||((a==8) ||(a==9)))
def Oo(a:Int)(g:World):cl 172 #[(.int .i64 a)] g (fun e w'=>e=.returned (.bool<|pK a)/\Pure g w'):=
 jr func172 [] (fun b=>(vb<|(((a==1) ||(a==6)) ||(a==7)) ||((a==8) ||(a==9)))) fun i=>pj 1 0 [] [] (fun b=>[(2,(vb<|(((a==1) ||(a==6)) ||(a==7)) ||((a==8) ||(a==9))))]) (fun h=>ct 3 3<|pj 0 0 [(a==1)] [0] (fun b=>[(8,(vb<|(b 0) ||(a==6)))]) (fun f=>pb 1 0 0 f (fun f=>pe 3 0 f)<|fun f=>pe 3 0 f)<|ct 1 3<|pj 0 0 [((a==1) ||(a==6))] [0] (fun b=>[(12,(vb<|(b 0) ||(a==7)))]) (fun d=>pb 1 0 0 d (fun d=>pe 3 0 d)<|fun d=>pe 3 0 d)<|ct 1 3<|pj 0 0 [(((a==1) ||(a==6)) ||(a==7))] [] (fun b=>[(16,(vb<|(b 0) ||((a==8) ||(a==9))))]) (fun c=>pb 1 0 0 c (fun c=>pe 3 0 c)<|fun c=>cp 1 call174 (GR a)<|pe 1 0 c)<|pe 1 0 h)<|ff 0 i
def AM(a b:Int)(e f:Int)(d:ByteArray)(g c:Int):Bool:=(!((decide (a<1)) ||(decide (a>9)))&&(((((((pK a) ||(b==0))&&(((a==8) ||(a==9)) ||(e==0)))&&((a==2) ||(f==0)))&&((a==3) ||(decide (d=⟨#[]⟩))))&&((decide ((di a)>=1)) ||(g==0)))&&((((di a):Int)==2) ||(c==0))))
def Ug(a p:Int)(o q:Int)(r:ByteArray)(s t:Int)(x:World):cl 171 #[(.agg #[(.int .i64 a),(.int .i64 p),(.int .i64 o),(.int .u64 q),(.string r),(.int .i64 s),(.int .i64 t)])] x (fun e w'=>e=.returned (.bool<|AM a p o q r s t)/\Pure x w'):=
 jr func171 [((decide (a<1)) ||(decide (a>9)))] (fun b=>(vb<|!(b 0)&&(((((((pK a) ||(p==0))&&(((a==8) ||(a==9)) ||(o==0)))&&((a==2) ||(q==0)))&&((a==3) ||(decide (r=⟨#[]⟩))))&&((decide ((di a)>=1)) ||(s==0)))&&((((di a):Int)==2) ||(t==0))))) fun u=>nh 0<|pj 1 0 [(decide (a<1))] [1] (fun b=>[(10,(vb<|(b 0) ||(decide (a>9))))]) (fun v=>lh 1 0 []<|pb 1 2 0 v (fun v=>pe 4 0 v)<|fun v=>lh 1 0 []<|pe 2 0 v)<|pb 0 0 0 u (fun u=>ff 2 u)<|fun u=>pj 1 0 [] [] (fun b=>[(2,(vb<|((((((pK a) ||(p==0))&&(((a==8) ||(a==9)) ||(o==0)))&&((a==2) ||(q==0)))&&((a==3) ||(decide (r=⟨#[]⟩))))&&((decide ((di a)>=1)) ||(s==0)))&&((((di a):Int)==2) ||(t==0))))]) (fun w=>lh 1 0 []<|cp 0 call172 (Oo a)<|ct 1 4<|pj 0 0 [(pK a)] [1] (fun b=>[(18,(vb<|(b 0) ||(p==0)))]) (fun g=>pb 1 0 0 g (fun g=>pe 4 0 g)<|fun g=>lh 1 0 [1]<|pe 2 0 g)<|ct 1 9<|pj 0 0 [((pK a) ||(p==0))] [1] (fun b=>[(28,(vb<|(b 0)&&(((a==8) ||(a==9)) ||(o==0))))]) (fun i=>pb 1 0 0 i (fun i=>lh 1 0 []<|cp 0 call174 (GR a)<|ct 1 4<|pj 0 0 [((a==8) ||(a==9))] [1,19] (fun b=>[(27,(vb<|(b 0) ||(o==0)))]) (fun d=>pb 1 0 0 d (fun d=>pe 4 0 d)<|fun d=>lh 1 0 [2]<|pe 2 0 d)<|pe 1 0 i)<|fun i=>pe 9 0 i)<|ct 1 9<|pj 0 0 [(((pK a) ||(p==0))&&(((a==8) ||(a==9)) ||(o==0)))] [1] (fun b=>[(38,(vb<|(b 0)&&((a==2) ||(q==0))))]) (fun l=>pb 1 0 0 l (fun l=>lh 1 0 []<|ct 2 4<|pj 0 0 [(a==2)] [1,29] (fun b=>[(37,(vb<|(b 0) ||(q==0)))]) (fun n=>pb 1 0 0 n (fun n=>pe 4 0 n)<|fun n=>lh 1 0 [3]<|pe 2 0 n)<|pe 1 0 l)<|fun l=>pe 9 0 l)<|ct 1 9<|pj 0 0 [((((pK a) ||(p==0))&&(((a==8) ||(a==9)) ||(o==0)))&&((a==2) ||(q==0)))] [1] (fun b=>[(48,(vb<|(b 0)&&((a==3) ||(decide (r=⟨#[]⟩)))))]) (fun j=>pb 1 0 0 j (fun j=>lh 1 0 []<|ct 2 4<|pj 0 0 [(a==3)] [1,39] (fun b=>[(47,(vb<|(b 0) ||(decide (r=⟨#[]⟩))))]) (fun m=>pb 1 0 0 m (fun m=>pe 4 0 m)<|fun m=>lh 1 0 [4]<|pe 2 0 m)<|pe 1 0 j)<|fun j=>pe 9 0 j)<|ct 1 10<|pj 0 0 [(((((pK a) ||(p==0))&&(((a==8) ||(a==9)) ||(o==0)))&&((a==2) ||(q==0)))&&((a==3) ||(decide (r=⟨#[]⟩))))] [1] (fun b=>[(59,(vb<|(b 0)&&((decide ((di a)>=1)) ||(s==0))))]) (fun f=>pb 1 0 0 f (fun f=>lh 1 0 []<|cp 0 call65 (qu a)<|ct 2 4<|pj 0 0 [(decide ((di a)>=1))] [1,49] (fun b=>[(58,(vb<|(b 0) ||(s==0)))]) (fun h=>pb 1 0 0 h (fun h=>pe 4 0 h)<|fun h=>lh 1 0 [5]<|pe 2 0 h)<|pe 1 0 f)<|fun f=>pe 10 0 f)<|ct 1 10<|pj 0 0 [((((((pK a) ||(p==0))&&(((a==8) ||(a==9)) ||(o==0)))&&((a==2) ||(q==0)))&&((a==3) ||(decide (r=⟨#[]⟩))))&&((decide ((di a)>=1)) ||(s==0)))] [] (fun b=>[(70,(vb<|(b 0)&&((((di a):Int)==2) ||(t==0))))]) (fun c=>pb 1 0 0 c (fun c=>lh 1 0 []<|cp 0 call65 (qu a)<|ct 2 4<|pj 0 0 [(((di a):Int)==2)] [60] (fun b=>[(69,(vb<|(b 0) ||(t==0)))]) (fun k=>pb 1 0 0 k (fun k=>pe 4 0 k)<|fun k=>lh 1 0 [6]<|pe 2 0 k)<|pe 1 0 c)<|fun c=>pe 10 0 c)<|pe 1 0 w)<|ff 0 u
def Wi(n1:Int):Bool:=((decide (n1>=0))&&(decide (n1<16)))
def KK(n1:Int)(c:World):cl 173 #[(.int .i64 n1)] c (fun e w'=>e=.returned (.bool<|Wi n1)/\Pure c w'):=
 jr func173 [] (fun b=>(vb<|(decide (n1>=0))&&(decide (n1<16)))) fun d=>pj 1 0 [] [] (fun b=>[(2,(vb<|(decide (n1>=0))&&(decide (n1<16))))]) (fun f=>ct 3 3<|pj 0 0 [(decide (n1>=0))] [] (fun b=>[(8,(vb<|(b 0)&&(decide (n1<16))))]) (fun a=>pb 1 0 0 a (fun a=>pe 3 0 a)<|fun a=>pe 3 0 a)<|pe 1 0 f)<|ff 0 d
def sU(c a:Int)(b f:Int)(d:ByteArray)(g e:Int):Int:=(cond (!(AM c a b f d g e)) 53<|cond (((pK c)&&(!((decide (a>=0))&&(decide (a<16))))) ||(((c==8) ||(c==9))&&((!((decide (b>=0))&&(decide (b<16)))) ||(a==b)))) 50<|cond (decide ((d.size:Int)>64)) 1 0)
def OE(d c:Int)(a m:Int)(j:ByteArray)(n l:Int)(o:World):cl 120 #[(.agg #[(.int .i64 d),(.int .i64 c),(.int .i64 a),(.int .u64 m),(.string j),(.int .i64 n),(.int .i64 l)])] o (fun e w'=>e=.returned (.int .i64<|sU d c a m j n l)/\Pure o w'):=
 jr func120 [(!(AM d c a m j n l)),(((pK d)&&(!((decide (c>=0))&&(decide (c<16))))) ||(((d==8) ||(d==9))&&((!((decide (a>=0))&&(decide (a<16)))) ||(c==a)))),(decide ((j.size:Int)>64))] (fun b=>(vi<|cond (b 0) 53<|cond (b 1) 50<|cond (b 2) 1 0)) fun f=>nh 0<|ij 1 0 [] 7<|cp 0 call171 (Ug d c a m j n l)<|pb 0 1 0 f (fun f=>ff 2 f)<|fun f=>pj 1 0 [((pK d)&&(!((decide (c>=0))&&(decide (c<16)))))] [1] (fun b=>[(32,(vb<|(b 0) ||(((d==8) ||(d==9))&&((!((decide (a>=0))&&(decide (a<16)))) ||(c==a)))))]) (fun i=>lh 1 0 []<|cp 0 call172 (Oo d)<|ct 1 5<|pj 0 0 [(pK d)] [1] (fun b=>[(14,(vb<|(b 0)&&(!((decide (c>=0))&&(decide (c<16))))))]) (fun k=>pb 1 0 0 k (fun k=>lh 1 0 [1]<|cp 0 call173 (KK c)<|pe 2 0 k)<|fun k=>pe 5 0 k)<|pb 1 1 0 i (fun i=>pe 17 0 i)<|fun i=>lh 1 0 []<|cp 0 call174 (GR d)<|ct 1 12<|pj 0 0 [((d==8) ||(d==9))] [1,15] (fun b=>[(31,(vb<|(b 0)&&((!((decide (a>=0))&&(decide (a<16)))) ||(c==a))))]) (fun g=>pb 1 0 0 g (fun g=>lh 1 0 [2]<|cp 0 call173 (KK a)<|ct 2 6<|pj 0 0 [(!((decide (a>=0))&&(decide (a<16))))] [1,15,19] (fun b=>[(30,(vb<|(b 0) ||(c==a)))]) (fun h=>pb 1 0 0 h (fun h=>pe 6 0 h)<|fun h=>lh 1 0 [1]<|lh 1 0 [2]<|pe 2 0 h)<|pe 1 0 g)<|fun g=>pe 12 0 g)<|pe 1 0 i)<|pb 0 0 1 f (fun f=>ff 2 f)<|fun f=>lh 2 0 [4]<|pb 0 2 2 f (fun f=>ff 2 f)<|fun f=>ff 2 f
def SO(b:Option Addr)(c:Int)(f:World)(K:Int->WP):Prop:=cl 112 #[(vp b),(vi c)] f<|XC fun r1 a=>Br (!r1) (K 0 a)<|∃a1,b=some a1/\lx a (a1.add 1) fun e=>∃a2:Addr,At e (q6.wrap<|c-1) 1 a2/\li a a2 fun d=>K d a
def jbw(p1 t1 w0 K)(h:SO p1 t1 w0 K):
  cl 113 #[(vp p1),(vi t1)] w0<|XB K:=
 cy func113 h<|fy 3 call112<|br 0 1 (rr 2)<|nc 2<|ld 1<|ix 2<|ld 0<|rr 1
def jbv(b:Option Addr)(c:Int)(f:World)(K:Int->WP):Prop:=cl 112 #[(vp b),(vi c)] f<|XC fun r1 a=>Br (!r1) (K 0 a)<|∃a1,b=some a1/\lx a (a1.add 2) fun e=>∃a2:Addr,At e (q6.wrap<|c-1) 1 a2/\li a a2 fun d=>K d a
def VK(p1 t1 w0 K)(h:jbv p1 t1 w0 K):
  cl 121 #[(vp p1),(vi t1)] w0<|XB K:=
 cy func121 h<|fy 3 call112<|br 0 1 (rr 2)<|nc 2<|ld 1<|ix 2<|ld 0<|rr 1
def jAK(a0 a1:Int)(a2 a3:Int)(a4:ByteArray)(a5 a:Int)(b0 b1:Int)(b2 b3:Int)(b4:ByteArray)(b5 b6:Int)(w:World):(Go.binOp .eql 119 (.agg #[(.int .i64 a0),(.int .i64 a1),(.int .i64 a2),(.int .u64 a3),(.string a4),(.int .i64 a5),(.int .i64 a)])<|.agg #[(.int .i64 b0),(.int .i64 b1),(.int .i64 b2),(.int .u64 b3),(.string b4),(.int .i64 b5),(.int .i64 b6)]).run prog w=.ok (.bool<|(a0==b0)&&((a1==b1)&&((a2==b2)&&((a3==b3)&&((decide (a4=b4))&&((a5==b5)&&(a==b6))))))) w:=by
 simp[Go.binOp,Op.equal,Op.maxDepth,go_sem,y4,bne]
 repeat' split
 all_goals simp_all
def NV(g:Option Addr)(t r:Int)(m s:Int)(v:ByteArray)(p o i1:Int)(u:World)(b:NP)(a:World)(d:Int->NP->WP)(K:Int->Bool->WP):Prop:=∃a1,g=some a1/\lx a a1 fun q=>Br (decide (i1<(q.len:Int))) (∃a2,g=some a2/\∀c,af u b a b c->lx c a2 fun n=>∃a3:Addr,At n i1 7 a3/\∃j k f i e h l,Row c a3 (Ab j k f i e h l)/\Br ((j==t)&&((k==r)&&((f==m)&&((i==s)&&((decide (e=v))&&((h==p)&&(l==o))))))) (K (q6.wrap<|i1+1) true c) (d (q6.wrap<|i1+1) b c))<|K 0 false a
def Qc(j:Option Addr)(l k:Int)(o p:Int)(n:ByteArray)(q m:Int)(e:World)(K:Int->Bool->WP):Prop:=∀g h,af e ar e g h->∃(f:Int->NP->WP) (d:Int->World->Nat),f 0 g h/\∀(i1:Int) (b:NP) (a:World),af e b a b a->f i1 b a->NV j l k o p n q m i1 e b a (fun c i w'=>f c i w'/\d c w'<d i1 a) K
def Rb(p1 aA aC aB aG aE aF aD w0 K)(h:Qc p1 aA aC aB aG aE aF aD w0 K):
  cl 122 #[(vp p1),(.agg #[(vi aA),(vi aC),(vi aB),(vu aG),(vs aE),(vi aF),(vi aD)])] w0<|XE K:=
 dv func122 h<|nh 0<|ah<|td 3 [0,3] (fun i1=>[(6,(vi i1))])<|fun {_ _ i1}=>fun c=>nc 2<|ld 1<|br 0 2 (dq 1<|nc 1<|an<|ld 1<|ix 1<|cf<|fun {e i b a f d}=>xe<|fun {g}=>lr 0<|ij 0 0 [] 7<|ae 0 (jAK e i b a f d g aA aC aB aG aE aF aD)<|br 0 0 (rr 5)<|je 4 0 c)<|rr 3
def BX(b:Option Addr)(U P:Int)(G T:Int)(Z:ByteArray)(u s:Int)(x1:Bool)(W:World)(H:NP)(w:World)(K:Int->Int->WP):Prop:=Br x1 (K 0 51 w)<|∃A:WP,A w.drew/\∀C,C=w.drew->cl 113 #[(vp b),(vi u)] C fun e p=>∃r1,e=.returned (vi r1)/\A p/\aj H C p/\cl 113 #[(vp b),(vi s)] p fun e r=>∃r2,e=.returned (vi r2)/\A r/\aj H p r/\∃z:WP,z r.drew/\∀B,B=r.drew->cl 121 #[(vp b),(vi u)] B fun e t=>∃r3,e=.returned (vi r3)/\z t/\aj H B t/\cl 121 #[(vp b),(vi s)] t fun e y=>∃E,e=.returned (vi E)/\z y/\aj H t y/\∃D,(∀w',z w'->(Builtin.max_ #[3,3] 3 #[(vi r3),(vi E)]).run prog w'=.ok (vi D) w')/\∀F:Bool,F=((decide ((q6.wrap<|(q6.wrap<|1+r1)+r2)>4096)) ||(decide ((q6.wrap<|1+D)>64)))->Br F (∀f c,af W H y f c->K 0 52 c) (∀f c,af W H y f c->cl 122 #[(vp b),(.agg #[(vi U),(vi P),(vi G),(vu T),(vs Z),(vi u),(vi s)])] c (XE fun r5 r6 a=>aj f c a/\Br r6 (K r5 0 a) (∃a1,b=some a1/\∃O:Sl,a.cell? a1=some O.v/\Br (decide ((O.len:Int)>=65536)) (K 0 6 a) (∃x:WP,x a.drew/\∀o,o=a.drew->∃a2,b=some a2/\∃I:Sl,(∀w',x w'->w'.cell? a2=some I.v)/\∀J h,au o (.cells #[(vi U),(vi P),(vi G),(vu T),(vs Z),(vi u),(vi s)] 119) J h->x h/\∃s1:Sl,∃d:World,(Builtin.append_ #[41,41] 41 #[I.v,(Sl.mk (some J) 1 1).v]).run prog h=.ok s1.v d/\x d/\aj f h d/\∃a3,b=some a3/\zL d a3/\¬f a3.block/\∀k,k=d.setCell a3 s1.v->∃a4,b=some a4/\∃V:Sl,k.cell? (a4.add 1)=some V.v/\∀Q l,au k (.cells #[(vi<|q6.wrap<|(q6.wrap<|1+r1)+r2)] 3) Q l->∃S:Sl,∃g:World,(Builtin.append_ #[42,42] 42 #[V.v,(Sl.mk (some Q) 1 1).v]).run prog l=.ok S.v g/\aj f l g/\∃a5,b=some a5/\zL g (a5.add 1)/\¬f (a5.add 1).block/\∀j,j=g.setCell (a5.add 1) S.v->∃M,b=some M/\∃N:Sl,j.cell? (M.add 2)=some N.v/\∀R n,au j (.cells #[(vi<|q6.wrap<|1+D)] 3) R n->∃X:Sl,∃i:World,(Builtin.append_ #[42,42] 42 #[N.v,(Sl.mk (some R) 1 1).v]).run prog n=.ok X.v i/\aj f n i/\∃q,b=some q/\zL i (q.add 2)/\¬f (q.add 2).block/\∀m,m=i.setCell (q.add 2) X.v->∃L,b=some L/\∃Y:Sl,m.cell? L=some Y.v/\K (Y.len:Int) 0 m))))
def Cv(b:Option Addr)(d f:Int)(h i:Int)(g:ByteArray)(j c:Int)(k:Bool)(e:World)(H:NP)(w:World)(K:Int->Int->WP):Prop:=Br k (BX b d f h i g j c true e H w K)<|Br (((di d):Int)==2) (cl 112 #[(vp b),(vi c)] w<|XC fun l a=>aj H w a/\BX b d f h i g j c (!l) e H a K) (BX b d f h i g j c false e H w K)
def Hh(l:Option Addr)(e g:Int)(j k:Int)(i:ByteArray)(f h:Int)(a:World)(K:Int->Int->WP):Prop:=Br (((sU e g j k i f h):Int) !=0) (∀b m,af a ar a b m->K 0 (sU e g j k i f h) m)<|Br (decide ((di e)>=1)) (∀b c,af a ar a b c->cl 112 #[(vp l),(vi f)] c (XC fun n d=>aj b c d/\Cv l e g j k i f h (!n) a b d K))<|∀b c,af a ar a b c->Cv l e g j k i f h false a b c K
def w_V(p1 aA aC aB aG aE aF aD w0 K)(h:Hh p1 aA aC aB aG aE aF aD w0 K):
  cl 60 #[(vp p1),(.agg #[(vi aA),(vi aC),(vi aB),(vu aG),(vs aE),(vi aF),(vi aD)])] w0<|XH K:=
 dv func60 h<|nh 0<|ij 2 0 [] 7<|cp 0 call120 (OE aA aC aB aG aE aF aD)<|br 0 3 (ah<|rr 4)<|lh 2 0 []<|cp 0 call65 (qu aA)<|jk 1 0 [0,3] (fun d=>[(39,(vb d))]) (fun d H w=>BX _ _ _ _ _ _ _ _ d _ H w _) (fun e=>ct 3 6<|jk 0 0 [0,3,7] (fun c=>[(28,(vb c))]) (fun c H w=>Cv _ _ _ _ _ _ _ _ c _ H w _) (fun f=>br 1 0 (lh 2 0 [5]<|ah<|du 0 call112<|je 2 0 f)<|ah<|je 6 0 f)<|fun {c}=>br 1 1 (je 10 0 e)<|br 1 3 (lh 2 0 [6]<|du 0 call112<|je 3 0 e)<|je 7 0 e)<|fun {d}=>br 0 0 (rr 3)<|dC 1 [3,8] []<|jg 2 0 [5]<|jg 2 0 [6]<|kr 0 call113<|fun {r1}=>kr 1 call113<|fun {r2}=>dC 2 [3,7] []<|jg 2 0 [5]<|jg 2 0 [6]<|kr 0 call121<|kr 0 call121<|xe<|fun {g}=>Hd 0<|pj 2 0 [(decide ((q6.wrap<|(q6.wrap<|1+r1)+r2)>4096))] [0,3,8,9] (fun b=>[(65,(vb<|(b 0) ||(decide ((q6.wrap<|1+g)>64))))]) (fun a=>pb 1 3 0 a (fun a=>pe 3 0 a)<|fun a=>pe 3 0 a)<|yy<|br 0 0 (ah<|rr 3)<|ij 2 0 [] 7<|ah<|il 0 call122<|br 0 6 (rr 4)<|nc 2<|ld 1<|br 0 2 (rr 3)<|dC 1 [6,7,10] [10]<|nc 2<|ik 1<|sJ 0 0 [] 7<|sZ 0<|dt<|ef 0<|rM<|nc 0<|np 1<|nc 2<|ld 1<|my 1<|dt<|ef 0<|ie<|nc 0<|np 1<|nc 2<|ld 1<|my 1<|dt<|ef 0<|ie<|nc 0<|np 1<|nc 1<|ld 1<|rr 3
def Ge(b:Option Addr)(f:Int)(u:Bool)(w:World)(K:WP):Prop:=Br u (K w)<|∃a1,b=some a1/\lx w (a1.add 1) fun t=>∃a2:Addr,At t f 1 a2/\zL w a2/\∀c,c=w.setCell a2 (vb true)->∃a3,b=some a3/\lp c a3 fun q=>∃a4,q=some a4/\lx c a4 fun x=>∃a5:Addr,At x (q6.wrap<|f-1) 7 a5/\li c (a5.add 5) fun s=>cl 123 #[(vp b),(vi s)] c fun e d=>e=.returned (.tuple #[])/\∃m,b=some m/\lp d m fun y=>∃j,y=some j/\lx d j fun p=>∃l:Addr,At p (q6.wrap<|f-1) 7 l/\li d (l.add 6) fun z=>cl 123 #[(vp b),(vi z)] d fun e o=>e=.returned (.tuple #[])/\∃h,b=some h/\lx o (h.add 2) fun r=>∀k i,au o (.cells #[(vi f)] 73) k i->∃s1:Sl,∃g:World,(Builtin.append_ #[46,46] 46 #[r.v,(Sl.mk (some k) 1 1).v]).run prog i=.ok s1.v g/\∃a,b=some a/\zL g (a.add 2)/\∀n,n=g.setCell (a.add 2) s1.v->K n
def LA(d:Option Addr)(f:Int)(i:World)(K:WP):Prop:=∃b,d=some b/\lp i b fun j=>cl 112 #[(vp j),(vi f)] i<|XC fun r1 e=>Br (!r1) (Ge d f true e K)<|∃a,d=some a/\lx e (a.add 1) fun g=>∃c:Addr,At g f 1 c/\lb e c fun h=>Ge d f h e K
def YV(w1 t1 w0 K)(h:LA w1 t1 w0 K):
  cl 123 #[(vp w1),(vi t1)] w0<|fun e w'=>e=.returned (.tuple #[])/\K  w':=
 cy func123 h<|mc 0 0 [0,1] (fun a=>[(19,(vb a))]) (fun a w=>Ge _ _ a w _) (fun b=>nc 1<|ld 1<|fy 1 call112<|br 1 2 (de 8 b)<|nc 1<|ld 1<|ix 1<|ld 0<|de 1 b)<|fun {a}=>br 0 0 (rr 1)<|nc 2<|ld 1<|ix 1<|gv 0<|nc 2<|ld 1<|nc 0<|ld 1<|ix 2<|ld 1<|wT 0 call123<|nc 2<|ld 1<|nc 0<|ld 1<|ix 2<|ld 1<|wT 0 call123<|nc 2<|ld 1<|cd 1<|dt<|ef 0<|ev<|nc 0<|gv 1<|rr 0
def Ns(f:Option Addr)(j:Int)(d:World)(K:Sl->WP):Prop:=∃a1,f=some a1/\∃b:Sl,d.cell? a1=some b.v/\∃s1:Sl,∃g:World,(Instr.makeSlice 189 (vi<|q6.wrap<|(b.len:Int)+1)<|vi<|q6.wrap<|(b.len:Int)+1).run prog d=.ok s1.v g/\∀a i,au g (.cells #[(vp f),s1.v,Sl.nil.v] 191) a i->cl 123 #[(vp<|some a),(vi j)] i fun e h=>e=.returned (.tuple #[])/\∃c:Sl,h.cell? (a.add 2)=some c.v/\K c h
def jbm(p1 t1 w0 K)(h:Ns p1 t1 w0 K):
  cl 61 #[(vp p1),(vi t1)] w0<|XA K:=
 cy func61 h<|nc 3<|ld 1<|dt<|ef 2<|ev<|cd 1<|wT 3 call123<|ld 3<|rr 1
def yp(e d:Int)(b c:Int)(a:ByteArray)(f:Sl):Int×Int×Int×Int×ByteArray×Int×Int:=(e,d,b,c,a,0,0)
def MG(g f:Int)(c d:Int)(a:ByteArray)(h:Sl)(i:World):cl 211 #[(.agg #[(.int .i64 g),(.int .i64 f),(.int .i64 c),(.int .u64 d),(.string a),h.v])] i (fun e w'=>e=.returned (.agg #[(.int .i64 (yp g f c d a h).1),(.int .i64 (yp g f c d a h).2.1),(.int .i64 (yp g f c d a h).2.2.1),(.int .u64 (yp g f c d a h).2.2.2.1),(.string (yp g f c d a h).2.2.2.2.1),(.int .i64 (yp g f c d a h).2.2.2.2.2.1),(.int .i64 (yp g f c d a h).2.2.2.2.2.2)])/\Pure i w'):=
 jr func211 [] (fun b=>(Ac g f c d a 0 0)) fun j=>nh 0<|nh 0<|lh 1 1 []<|lh 1 1 [1]<|lh 1 1 [2]<|lh 1 1 [3]<|lh 1 1 [4]<|sg 1 0 []<|dx 0<|oe 0 [] 7<|Gy j
def ON(l:Sl)(b:Int)(c:Option Addr)(m i1:Int)(k:World)(g:NP)(f:World)(h:Int->Int->NP->WP)(K:Int->WP):Prop:=Br ((m==0)&&(decide (i1<(l.len:Int)))) (∃a3:Addr,At l i1 6 a3/\∀e a,af k g f e a->∃n q j i o p,Row a a3 (Af n q j i o p)/\cl 210 #[(.agg #[(vi n),(vi q),(vi j),(vu i),(vs o),p.v]),(vi<|q6.wrap<|b+1),(vp c)] a (XB fun r1 d=>aj e a d/\h r1 (q6.wrap<|i1+1) e d))<|∀e a,af k g f e a->K m a
def Ox(j r:Int)(p s:Int)(m:ByteArray)(n:Sl)(d:Int)(a:Option Addr)(x:Bool)(k:World)(H:NP)(w:World)(K:Int->WP):Prop:=Br x (K 52 w)<|∃a1,a=some a1/\li w a1 fun v=>∃a2,a=some a2/\zL w a2/\¬H a2.block/\∀q,q=w.setCell a2 (vi<|q6.wrap<|v+1)->∀o:Bool,o=((((sU j r p s m 0 0):Int) !=53)&&(((n.len:Int):Int) !=(di j)))->∀t g,af k H q t g->∃(i:Int->Int->NP->WP) (f:Int->Int->World->Nat),i (cond o 53<|sU j r p s m 0 0) 0 t g/\∀(l i1:Int) (c:NP) (b:World),af k c b c b->i l i1 c b->ON n d a l i1 k c b (fun e h u w'=>i e h u w'/\f e h w'<f l i1 b) K
def N6(n m:Int)(j l:Int)(h:ByteArray)(k:Sl)(a:Int)(b:Option Addr)(d:World)(K:Int->WP):Prop:=∃a4,b=some a4/\∀f e,af d ar d f e->li e a4 fun i=>∀g c,af d f e g c->Ox n m j l h k a b ((decide (i>=4096)) ||(decide (a>=64))) d g c K
def U7(aH aJ aK aL aM aI deep1 seen1 w0 K)(h:N6 aH aJ aK aL aM aI deep1 seen1 w0 K):
  cl 210 #[(.agg #[(vi aH),(vi aJ),(vi aK),(vu aL),(vs aM),aI.v]),(vi deep1),(vp seen1)] w0<|XB K:=
 dv func210 h<|nh 0<|jk 1 0 [1,2,3] (fun f=>[(16,(vb f))]) (fun f H w=>Ox _ _ _ _ _ _ _ _ f _ H w _) (fun j=>nc 1<|ah<|ld 0<|fun {i}=>ct 2 3<|pj 0 0 [(decide (i>=4096))] [1,2,3] (fun b=>[(16,(vb<|(b 0) ||(decide (deep1>=64))))]) (fun c=>pb 1 0 0 c (fun c=>pe 3 0 c)<|fun c=>pe 3 0 c)<|ah<|je 0 0 j)<|fun {f}=>br 0 0 (rr 2)<|nc 3<|ld 0<|nc 1<|np 0<|ij 0 0 [] 6<|cp 0 call211 (MG aH aJ aK aL aM aI)<|cp 0 call120 (OE aH aJ aK aL aM 0 0)<|pj 1 0 [(((sU aH aJ aK aL aM 0 0):Int) !=53)] [1,2,3,7] (fun b=>[(36,(vb<|(b 0)&&(((aI.len:Int):Int) !=(di aH))))]) (fun d=>W9 0 [8] []<|pb 1 3 0 d (fun d=>lhs 1 0 0 [5]<|lhs 2 0 0 []<|Tm 0 0 call65 (qu aH)<|pe 2 0 d)<|fun d=>pe 8 0 d)<|yy<|pj 0 0 [((((sU aH aJ aK aL aM 0 0):Int) !=53)&&(((aI.len:Int):Int) !=(di aH)))] [1,2,3] (fun b=>[(7,(vi<|cond (b 0) 53<|sU aH aJ aK aL aM 0 0))]) (fun a=>pb 0 0 0 a (fun a=>pe 2 0 a)<|fun a=>pe 1 0 a)<|ah<|ye 1 [1,2,3] (fun g i1=>[(7,(vi g)),(8,(vi i1))])<|fun {_ _ g i1}=>fun k=>pj 0 0 [(g==0)] [1,2,3,7,8] (fun b=>[(45,(vb<|(b 0)&&(decide (i1<(aI.len:Int)))))]) (fun e=>pb 1 3 0 e (fun e=>lh 2 0 [5]<|pe 3 0 e)<|fun e=>pe 6 0 e)<|br 0 0 (lh 2 0 [5]<|ix 1<|ah<|cf<|lr 0<|du 3 call210<|je 4 0 k)<|ah<|rr 3
def RM(m l:Int)(i k:Int)(h:ByteArray)(j:Sl)(e:World)(K:Int->WP):Prop:=∀b f,af e ar e b f->∀a d,au f (.cells #[(vi 0)] 3) a d->zL d a/\¬b a.block/\∀c,c=d.setCell a (vi 0)->cl 210 #[(.agg #[(vi m),(vi l),(vi i),(vu k),(vs h),j.v]),(vi 0),(vp<|some a)] c (XB fun r1 g=>aj b c g/\K r1 g)
def TZ(aH aJ aK aL aM aI w0 K)(h:RM aH aJ aK aL aM aI w0 K):
  cl 152 #[(.agg #[(vi aH),(vi aJ),(vi aK),(vu aL),(vs aM),aI.v])] w0<|XB K:=
 dv func152 h<|nh 0<|ah<|my 1<|np 0<|ij 0 0 [] 6<|du 0 call210<|rr 1
def Q7(k:Option Addr)(f:Sl)(i1 s:Int)(p h r:Int)(w:ByteArray)(n l:Int)(y:World)(b:NP)(a:World)(e:Int->Int->Int->Int->Int->ByteArray->Int->Int->NP->WP)(K:Int->Int->WP):Prop:=Br (decide (i1<(f.len:Int))) (∃a1:Addr,At f i1 6 a1/\∃q t j o g i,Row a a1 (Af q t j o g i)/\cl 153 #[(vp k),(.agg #[(vi q),(vi t),(vi j),(vu o),(vs g),i.v])] a (XH fun r1 r2 d=>aj b a d/\Br (r2 !=0) (K 0 r2 d) (∀u m,af y b d u m->e (q6.wrap<|i1+1) s p h r w (cond (i1==0) r1 n) (cond (i1==0) l r1) u m)))<|cl 60 #[(vp k),(.agg #[(vi s),(vi p),(vi h),(vu r),(vs w),(vi n),(vi l)])] a<|XH fun r3 x c=>aj b a c/\K r3 x c
def QC(A:Option Addr)(z C:Int)(B D:Int)(w:ByteArray)(y:Sl)(l:World)(K:Int->Int->WP):Prop:=∀u v,af l ar l u v->∃(n:Int->Int->Int->Int->Int->ByteArray->Int->Int->NP->WP) (f:Int->Int->Int->Int->Int->ByteArray->Int->Int->World->Nat),n 0 z C B D w 0 0 u v/\∀(i1 s:Int) (q m r:Int) (t:ByteArray) (p o:Int) (b:NP) (a:World),af l b a b a->n i1 s q m r t p o b a->Q7 A y i1 s q m r t p o l b a (fun d i k e h j g c x w'=>n d i k e h j g c x w'/\f d i k e h j g c w'<f i1 s q m r t p o a) K
def ZL(p1 aH aJ aK aL aM aI w0 K)(h:QC p1 aH aJ aK aL aM aI w0 K):
  cl 153 #[(vp p1),(.agg #[(vi aH),(vi aJ),(vi aK),(vu aL),(vs aM),aI.v])] w0<|XH K:=
 dv func153 h<|nh 0<|ij 2 0 [] 6<|cp 0 call211 (MG aH aJ aK aL aM aI)<|nh 0<|sg 0 0 []<|ah<|Wz 1 [0,3,6] (fun i1 c d f g i j e=>[(7,(vi i1))]) (fun i1 c d f g i j e l=>im l 0 0<|Ab c d f g i j e)<|fun {_ _ i1 c d f g i j e}=>fun k=>lh 2 1 [5]<|br 0 2 (lh 3 1 [5]<|ix 1<|cf<|lr 0<|il 0 call153<|fun {r1}=>br 0 7 (rr 4)<|ph (fun b l=>im l 0 0<|Ab c d f g i (cond (b 0) r1 j)<|cond (b 0) e r1) 3 0 [(i1==0)] [0,3,6,7] (fun b=>[]) (fun a=>pb 0 0 0 a (fun a=>sh 3 0 [5]<|pe 0 0 a)<|fun a=>sh 3 0 [6]<|pe 0 0 a)<|ah<|je 3 0 k)<|ij 2 0 [] 7<|il 0 call60<|rr 4
def Jq(a:Option Addr)(n1:Int)(d:World)(K:WP):Prop:=∃a1,a=some a1/\lx d a1 fun j=>∃s1:Sl,(Instr.sliceAt 41 j.v none (some<|vi n1) none).run prog d=.ok s1.v d/\∃a2,a=some a2/\zL d a2/\∀b,b=d.setCell a2 s1.v->∃a3,a=some a3/\lx b (a3.add 1) fun i=>∃g:Sl,(Instr.sliceAt 42 i.v none (some<|vi n1) none).run prog b=.ok g.v b/\∃a4,a=some a4/\zL b (a4.add 1)/\∀c,c=b.setCell (a4.add 1) g.v->∃a5,a=some a5/\lx c (a5.add 2) fun k=>∃f:Sl,(Instr.sliceAt 42 k.v none (some<|vi n1) none).run prog c=.ok f.v c/\∃e,a=some e/\zL c (e.add 2)/\∀h,h=c.setCell (e.add 2) f.v->K h
def Vu(p1 n1 w0 K)(h:Jq p1 n1 w0 K):
  cl 154 #[(vp p1),(vi n1)] w0<|fun e w'=>e=.returned (.tuple #[])/\K  w':=
 cy func154 h<|nc 2<|ld 1<|xe<|rn 1<|nc 0<|gv 1<|nc 2<|ld 1<|xe<|rn 1<|nc 0<|gv 1<|nc 2<|ld 1<|xe<|rn 1<|nc 0<|gv 1<|rr 0
def NX(d:Option Addr)(n l:Int)(h k:Int)(g:ByteArray)(j:Sl)(i:World)(K:Int->Int->WP):Prop:=∀b f,af i ar i b f->cl 152 #[(.agg #[(vi n),(vi l),(vi h),(vu k),(vs g),j.v])] f fun e a=>∃r1,e=.returned (vi r1)/\aj b f a/\Br (r1 !=0) (K 0 r1 a) (∃a1,d=some a1/\lx a a1 fun o=>cl 153 #[(vp d),(.agg #[(vi n),(vi l),(vi h),(vu k),(vs g),j.v])] a fun e c=>∃r2 r3,e=.returned (.tuple #[(vi r2),(vi r3)])/\aj b a c/\Br (r3 !=0) (cl 154 #[(vp d),(vi (o.len:Int))] c fun e m=>e=.returned (.tuple #[])/\aj b c m/\K r2 r3 m) (K r2 r3 c))
def jcX(p1 aH aJ aK aL aM aI w0 K)(h:NX p1 aH aJ aK aL aM aI w0 K):
  cl 96 #[(vp p1),(.agg #[(vi aH),(vi aJ),(vi aK),(vu aL),(vs aM),aI.v])] w0<|XH K:=
 dv func96 h<|nh 0<|ij 2 0 [] 6<|ah<|du 0 call152<|br 0 3 (rr 4)<|nc 2<|ld 1<|ij 3 0 [] 6<|il 0 call153<|br 0 7 (rA 3 call154<|rr 4)<|rr 5
def ED(h:Option Addr)(r2 s1 k:Sl)(i1 q:Int)(o p n:Int)(r:ByteArray)(m l:Int)(H:NP)(w:World)(g:Int->NP->WP)(K:Int->Int->WP):Prop:=cl 60 #[(vp h),(.agg #[(vi q),(vi o),(vi p),(vu n),(vs r),(vi m),(vi l)])] w fun e a=>∃r3 f,e=.returned (.tuple #[(vi r3),(vi f)])/\aj H w a/\Br (f !=0) (cl 154 #[(vp h),(vi (k.len:Int))] a fun e c=>e=.returned (.tuple #[])/\aj H a c/\K 0 f c) (∃j:Addr,At r2 i1 1 j/\∃i,a.cell? j=some (vi i)/\∃d:Addr,At s1 i 1 d/\zL a d/\¬H d.block/\∀b,b=a.setCell d (vi r3)->g (q6.wrap<|i1+1) H b)
def Dc(f:Option Addr)(r2 s1 e:Sl)(i1 l:Int)(g j k:Int)(h:ByteArray)(m c:Int)(n:World)(H:NP)(w:World)(b:Int->NP->WP)(K:Int->Int->WP):Prop:=Br (decide (c>0)) (∃i:Addr,At s1 c 1 i/\∃d,w.cell? i=some (vi d)/\∀a,af n H w H a->ED f r2 s1 e i1 l g j k h m d H a b K)<|ED f r2 s1 e i1 l g j k h m c H w b K
def NL(r:Option Addr)(x:Option Addr)(y:Int)(r2 s1 q:Sl)(i1:Int)(f:World)(b:NP)(a:World)(g:Int->NP->WP)(K:Int->Int->WP):Prop:=Br (decide (i1<(r2.len:Int))) (∃a3,x=some a3/\∃u:Sl,a.cell? a3=some u.v/\¬b a3.block/\∃a4:Addr,At r2 i1 1 a4/\∃t,a.cell? a4=some (vi t)/\¬b a4.block/\∃a5:Addr,At u (q6.wrap<|t-1) 7 a5/\∃m n k l j i o,Row a a5 (Ab m n k l j i o)/\¬b a5.block/\Br (decide (i>0)) (∃p:Addr,At s1 i 1 p/\∀c d,af f b a c d->∃w,d.cell? p=some (vi w)/\∀h,af f c d c h->Dc r r2 s1 q i1 m n k l j w o f c h g K) (∀c d,af f b a c d->Dc r r2 s1 q i1 m n k l j i o f c d g K))<|∃e:Addr,At s1 y 1 e/\∃s,a.cell? e=some (vi s)/\K s 0 a
def m_M(o:Option Addr)(f:Option Addr)(l:Int)(g:World)(K:Int->Int->WP):Prop:=cl 112 #[(vp f),(vi l)] g fun e h=>∃r1,e=.returned (vb r1)/\aj ar g h/\Br (!r1) (K 0 51 h) (cl 61 #[(vp f),(vi l)] h<|XA fun r2 j=>aj ar h j/\∃a1,f=some a1/\∃k:Sl,j.cell? a1=some k.v/\∃s1:Sl,∃i:World,(Instr.makeSlice 46 (vi<|q6.wrap<|(k.len:Int)+1)<|vi<|q6.wrap<|(k.len:Int)+1).run prog j=.ok s1.v i/\aj ar j i/\∃a2,o=some a2/\∃n:Sl,i.cell? a2=some n.v/\∃(m:Int->NP->WP) (d:Int->World->Nat),m 0 ar i/\∀(i1:Int) (b:NP) (a:World),af g b a b a->m i1 b a->NL o f l r2 s1 n i1 g b a (fun c p w'=>m c p w'/\d c w'<d i1 a) K)
def RT(p1 aU t1 w0 K)(h:m_M p1 aU t1 w0 K):
  cl 111 #[(vp p1),(vp aU),(vi t1)] w0<|XH K:=by
 refine cw (args:=[(vp p1),(vp aU),(vi t1)]) func111 ntmps111 ?_
 have⟨hs,b⟩:=sr w0
 refine eg<|qb<|ln<|zK<|eg<|qb<|sc call112 (h.mono fun e w1 ⟨r1,k,r,h⟩=>have⟨hs,b⟩:=r.hh hs b;⟨_,k,?_⟩)
 refine q (ln<|ib h ?_ ?_)<;>intro h
 refine eg<|qb<|ln<|er<|l0<|Jp (.inl rfl) results111 (v:=(vi 0)) Kf (v':=(vi 51)) Kf ⟨0,51,rfl,h⟩
 refine zW<|yZ<|eg<|qb<|sc call61 (h.mono fun e w2 ⟨r2,k,r,h⟩=>have⟨hs,b⟩:=r.hh hs b;⟨_,k,?_⟩)
 refine q<|ln<|eg<|q<|qm h fun a1 h=>q<|ql (isAgg41 _) h fun v1 h=>qb ?_
 have⟨s1,w3,hv16,r,h⟩:=h
 refine st (v:=s1.v) (qC rfl) (KY Kf Kf hv16) ?_
 have⟨hs,b⟩:=r.hh hs b
 refine q<|ln<|eg<|q<|qm h fun a2 h=>q<|ql (isAgg41 _) h fun L h=>qb<|ln<|zK<|eg<|q<|ln<|vP ?_
 have⟨I1,o,h0,hr⟩:=h
 refine vn (σ:=Int×NP×World) (fun s ρ w=>w=s.2.2/\ed ρ [(0,(vp p1)),(1,(vp aU)),(2,(vi t1)),(8,r2.v),(9,s1.v),(10,(vi (L.len:Int))),(11,(vi s.1))]/\af w0 s.2.1 w s.2.1 w/\HB s.2.1 w []/\I1 s.1 s.2.1 s.2.2) (fun s=>o s.1 s.2.2) (0,ar,w3) ⟨rfl,hm,hs,b,h0⟩ ?_
 rintro⟨i1,c,f⟩ ρ w ⟨hw,u,hs,b,hI⟩
 dsimp only at hw u hs b;subst w
 have h:=hr i1 c f hs hI
 refine qS u (zK<|eg<|qd<|ln<|ib h ?_ ?_)<;>intro h
 refine zW<|yZ<|zK<|vP<|zK<|G7 (fun x=>∃t,af w0 c f t x/\HB t x []) [11,12] [12] Kf Kf Kf Kf ⟨_,hs.drew,b.drew⟩ ?_
 intro w4 T
 have hs:af w0 c f c w4:=by rw[T];exact hs.drew
 have b:HB c w4 []:=by rw[T];exact b.drew
 refine qx 0 (vp aU) wi<|qg 1 ?_
 have⟨a3,hp3,h⟩:=h
 refine sy vm (fun _ _=>xn hp3)<|qx 2 (vp<|some a3) wQ<|qg 3 ?_
 have⟨v3,V,l,h⟩:=h
 refine sy (v:=v3.v) vq (fun w' j=>by have⟨t,n,S⟩:=j;exact(xl (isAgg41 _)<|BQ V l n)) (qx 4 r2.v wB<|qx 5 (vi i1) wO<|qg 6 ?_)
 have⟨a4,Y,h⟩:=h
 refine sy wK (fun _ _=>xi (runUnderlying46 _) (sizeOf73 _) Y)<|qg 7 ?_
 have⟨v4,Z,l,h⟩:=h
 refine sy (v:=(vi v4)) yt (fun w' j=>by have⟨t,n,S⟩:=j;exact(xl (isAgg73 _)<|BQ Z l n)) (qx 8 (vi<|q6.wrap<|v4-1) xk<|qg 9 ?_)
 have⟨a5,hv9,h⟩:=h
 refine sy yv (fun _ _=>xi (runUnderlying41 _) (sizeOf119 _) hv9)<|qg 10 ?_
 have⟨y,G,D,E,C,W,B,hv8,l,h⟩:=h
 refine sy (v:=(Ac y G D E C W B)) (od<|S8<|yV<|yV ni) (fun w' j=>by have⟨t,n,S⟩:=j;exact(xa a5 (Ab y G D E C W B) (isAgg119 _) (sizeOf119 _)<|Ho hv8 l n)) (Ke (fun ρ wJ=>∃g:Addr,∃HJ:NP,af w0 c f HJ wJ/\HB HJ wJ [(g,(Ab y G D E C W B),119)]/\ed ρ [(0,(vp p1)),(1,(vp aU)),(2,(vi t1)),(8,r2.v),(9,s1.v),(10,(vi (L.len:Int))),(11,(vi i1)),(12,(vp<|some g))]) ?_ ?_)
 refine lg 11<|N8 (O:=(.cells #[(vi 0),(vi 0),(vi 0),(vu 0),ve,(vi 0),(vi 0)] 119)) (fun p=>.pointer<|some p) (od<|S8<|yV<|yV<|yV ni) (qC rfl) Kf (uA (zeroValue119 _) rfl) ?_
 intro p4 w8 hn3
 have⟨H3,hs,b⟩:=hs.alloc b hn3
 refine⟨.inr ⟨_,hs,b.drop 1⟩,?_⟩
 refine lg 12<|HL (od<|S8<|S4 ni) (qC rfl) Kf (xo p4 (Ab y G D E C W B) (sizeOf119 _)<|b.k0 0 7 gZ) ?_
 intro w9 hn4
 have⟨hs,b⟩:=b.qn 0 hs hn4 gZ
 refine⟨.inl Kf,?_⟩
 refine wn ⟨p4,_,hs,b,hm⟩
 rintro ρ w7 ⟨g,F,hs,b,u⟩
 refine Pv u<|yZ<|zK<|eg<|q<|q3 (xl (isAgg73 _)<|b.d 0 5 gZ)<|q<|ln<|yS (fun ρ w=>∃N M J Q R P aD,∃H:NP,ed ρ [(0,(vp p1)),(1,(vp aU)),(2,(vi t1)),(8,r2.v),(9,s1.v),(10,(vi (L.len:Int))),(11,(vi i1)),(12,(vp<|some g))]/\af w0 H w H w/\HB H w [(g,(Ab N M J Q R P aD),119)]/\Dc p1 r2 s1 L i1 N M J Q R P aD w0 H w (fun m t w'=>I1 m t w'/\o m w'<o i1 f) K) ?_ ?_
 rintro ρ w ⟨N,M,J,Q,R,P,aD,H,u,hs,b,h⟩
 refine qS u<|zK<|eg<|q<|q3 (xl (isAgg73 _)<|b.d 0 6 gZ)<|q<|ln<|yS (fun ρ w=>∃aX aY aZ U bB X bD,∃H:NP,ed ρ [(0,(vp p1)),(1,(vp aU)),(2,(vi t1)),(8,r2.v),(9,s1.v),(10,(vi (L.len:Int))),(11,(vi i1)),(12,(vp<|some g))]/\af w0 H w H w/\HB H w [(g,(Ab aX aY aZ U bB X bD),119)]/\ED p1 r2 s1 L i1 aX aY aZ U bB X bD H w (fun m t w'=>I1 m t w'/\o m w'<o i1 f) K) ?_ ?_
 rintro ρ w ⟨aX,aY,aZ,U,bB,X,bD,H,u,hs,b,h⟩
 refine qS u<|eg<|q<|q2 (Ac aX aY aZ U bB X bD) (xa g (Ab aX aY aZ U bB X bD) (isAgg119 _) (sizeOf119 _)<|b.r0 0 7 gZ)<|sc call60 (h.mono fun e w10 ⟨r3,r4,k,r,h⟩=>have⟨hs,b⟩:=r.hh hs b;⟨_,k,?_⟩)
 refine q (qd<|ln<|zK<|eg<|qb<|ln<|ib h ?_ ?_)<;>intro h
 refine eg<|qb<|sc call154 (h.mono fun e w11 ⟨k,r,h⟩=>have⟨hs,b⟩:=r.hh hs b;⟨_,k,?_⟩)
 refine ln<|eg<|qc<|ln<|er<|l0<|rJ<|l0<|l0<|rJ<|l0<|Jp (.inl rfl) results111 (v:=(vi 0)) Kf (v':=(vi r4)) Kf ⟨0,r4,rfl,h⟩
 refine zW<|yZ<|rg<|qc<|qi (runUnderlying46 _) (sizeOf73 _) h fun a6 h=>ql (isAgg73 _) h fun v5 h=>q<|qi (runUnderlying46 _) (sizeOf73 _) h fun a7 h=>jy (sizeOf73 _) hs b h fun w12 hs b h=>vJ<|pO<|yZ<|rg<|qc<|ln ⟨((q6.wrap<|i1+1),H,w12),⟨rfl,hm,hs,b.drop 1,h.1⟩,h.2⟩
 refine ib h ?_ ?_<;>intro h
 refine rg<|qb<|q3 (xl (isAgg73 _)<|b.d 0 6 gZ)<|qi (runUnderlying46 _) (sizeOf73 _) h fun a8 h=>ql (isAgg73 _) h fun v6 h=>q<|xj (qC rfl) (sX (a:=(g.add 6)) (v:=(vi v6)) Kf Kf rfl (sizeOf73 _) (b.ee 0 6 gZ Kf)) ?_
 intro I hn6
 have z:af w0 H w H I/\HB H I [(g,(Ab N M J Q R P v6),119)]:=by
  rw[hn6];exact b.set (i:=0) 6 (v:=(vi v6)) hs gZ Kf
 have⟨hs,b⟩:=z
 refine vJ ?_
 have⟨h,hs⟩:=hs.hr<|h I
 refine yZ ⟨N,M,J,Q,R,P,v6,H,hm,hs,b,h⟩
 refine zW<|yZ ⟨N,M,J,Q,R,P,aD,H,hm,hs,b,h⟩
 refine ib h ?_ ?_<;>intro h
 refine rg<|qb<|q3 (xl (isAgg73 _)<|b.d 0 5 gZ)<|qi (runUnderlying46 _) (sizeOf73 _) h fun a9 h=>?_
 have⟨h,hs⟩:=hs.hr<|h F w7
 refine ql (isAgg73 _) h fun v7 h=>q<|xj (qC rfl) (sX (a:=(g.add 5)) (v:=(vi v7)) Kf Kf rfl (sizeOf73 _) (b.ee 0 5 gZ Kf)) ?_
 intro A hn7
 have z:af w0 F w7 F A/\HB F A [(g,(Ab y G D E C v7 B),119)]:=by
  rw[hn7];exact b.set (i:=0) 5 (v:=(vi v7)) hs gZ Kf
 have⟨hs,b⟩:=z
 refine vJ ?_
 have⟨h,hs⟩:=hs.hr<|h A
 refine yZ ⟨y,G,D,E,C,v7,B,F,hm,hs,b,h⟩
 refine zW ?_
 have⟨h,hs⟩:=hs.hr<|h F w7
 refine yZ ⟨y,G,D,E,C,W,B,F,hm,hs,b,h⟩
 refine tQ<|qv<|qv<|wU<|yZ<|eg<|q0 s1.v<|q0 (vi t1)<|qi (runUnderlying46 _) (sizeOf73 _) h fun a10 h=>ql (isAgg73 _) h fun v8 h=>qb<|ln<|er<|Jp (.inl rfl) results111 (v:=(vi v8)) Kf (v':=(vi 0)) Kf ⟨v8,0,rfl,h⟩
end Go.Proofs
end
section
open Go Go.SE List
open Go.IntKind renaming i64 -> q6
namespace Go.Proofs
open Tryz
set_option maxRecDepth 100000
set_option maxHeartbeats 4000000
attribute [local irreducible] bu ft fg dw Calls
attribute [local irreducible] jq W WV WR yW pv ku jd nz ka lq ky lj mz mo iq fa im mv kq kp uP xG yA bn ub
def jaj(g:Sl)(f:World)(K:(Option Addr)->WP):Prop:=∀a b,au f (.cells #[] 5) a b->∃s1:Sl,∃e:World,(Builtin.append_ #[59,59] 59 #[(Sl.mk (some a) 0 0).v,g.v]).run prog b=.ok s1.v e/\∀c d,au e (.cells #[s1.v,(vi 0),(vi 0),(vi 0)] 117) c d->K (some c) d
def Xm(p1 w0 K)(h:jaj p1 w0 K):
  cl 57 #[p1.v] w0<|XD K:=
 cy func57 h<|cd 1<|dt<|ef 1<|ev<|cd 1<|rr 1
def SS(r1:Option Addr)(b:World)(K:Int->WP):Prop:=∃a1,r1=some a1/\∀a,af b ar b ar a->lx a a1 fun d=>∃a2,r1=some a2/\li a (a2.add 1) fun c=>K (q6.wrap<|(d.len:Int)-c) a
def UH(r1 w0 K)(h:SS r1 w0 K):
  cl 58 #[(vp r1)] w0<|XB K:=
 dv func58 h<|dq 1<|nc 1<|an<|ld 1<|nc 2<|ld 1<|rr 2
def Yu(r1:Option Addr)(e kh:Int)(a:World)(K:WP):Prop:=∃a1,r1=some a1/\li a (a1.add 2) fun d=>Br (d==0) (∃a2,r1=some a2/\zL a (a2.add 2)/\∀b,b=a.setCell (a2.add 2) (vi e)->∃a3,r1=some a3/\zL b (a3.add 3)/\∀c,c=b.setCell (a3.add 3) (vi kh)->K c)<|K a
def jaM(r1 e1 kh w0 K)(h:Yu r1 e1 kh w0 K):
  cl 170 #[(vp r1),(vi e1),(vi kh)] w0<|fun e w'=>e=.returned (.tuple #[])/\K  w':=
 cy func170 h<|nc 1<|ld 1<|br 0 1 (nc 3<|gv 1<|nc 2<|gv 1<|rr 0)<|rr 1
def OI(r1:Option Addr)(c:World)(K:Int->WP):Prop:=∃a1,r1=some a1/\li c (a1.add 2) fun o=>Br (o !=0) (K 0 c)<|∃a2,r1=some a2/\∀a,af c ar c ar a->li a (a2.add 1) fun n=>∃a3,r1=some a3/\lx a a3 fun r=>Br (n==(r.len:Int)) (∃a4,r1=some a4/\li a (a4.add 1) fun l=>cl 170 #[(vp r1),(vi 3),(vi l)] a fun e i=>e=.returned (.tuple #[])/\aj ar a i/\K 0 i) (∃a5,r1=some a5/\li a (a5.add 1) fun p=>∃d,r1=some d/\zL a (d.add 1)/\¬ar (d.add 1).block/\∀g,g=a.setCell (d.add 1) (vi<|q6.wrap<|p+1)->∃j,r1=some j/\∀b,af c ar g ar b->lx b j fun m=>∃h,r1=some h/\li b (h.add 1) fun q=>∃f:Addr,At m (q6.wrap<|q-1) 1 f/\∃k:Int,b.cell? f=some (.int .u8 k)/\K k b)
def WE(r1 w0 K)(h:OI r1 w0 K):
  cl 115 #[(vp r1)] w0<|XV K:=
 dv func115 h<|nc 2<|ld 1<|br 0 1 (rr 2)<|dq 1<|nc 1<|an<|ld 1<|nc 1<|ld 1<|br 0 2 (nc 3<|ld 1<|rA 0 call170<|rr 1)<|nc 2<|ld 1<|nc 1<|np 1<|dq 0<|nc 1<|an<|ld 1<|nc 1<|ld 1<|ix 1<|ld 0<|rr 1
def rz(a:Int):Bool:=(((((a==1) ||(a==6)) ||(a==7)) ||(a==8)) ||(a==9))
def IP(a:Int)(h:World):cl 116 #[(.int .i64 a)] h (fun e w'=>e=.returned (.bool<|rz a)/\Pure h w'):=
 jr func116 [] (fun b=>(vb<|((((a==1) ||(a==6)) ||(a==7)) ||(a==8)) ||(a==9))) fun i=>pj 1 0 [] [] (fun b=>[(2,(vb<|((((a==1) ||(a==6)) ||(a==7)) ||(a==8)) ||(a==9)))]) (fun j=>ct 3 3<|pj 0 0 [(a==1)] [0] (fun b=>[(8,(vb<|(b 0) ||(a==6)))]) (fun g=>pb 1 0 0 g (fun g=>pe 3 0 g)<|fun g=>pe 3 0 g)<|ct 1 3<|pj 0 0 [((a==1) ||(a==6))] [0] (fun b=>[(12,(vb<|(b 0) ||(a==7)))]) (fun d=>pb 1 0 0 d (fun d=>pe 3 0 d)<|fun d=>pe 3 0 d)<|ct 1 3<|pj 0 0 [(((a==1) ||(a==6)) ||(a==7))] [0] (fun b=>[(16,(vb<|(b 0) ||(a==8)))]) (fun c=>pb 1 0 0 c (fun c=>pe 3 0 c)<|fun c=>pe 3 0 c)<|ct 1 3<|pj 0 0 [((((a==1) ||(a==6)) ||(a==7)) ||(a==8))] [] (fun b=>[(20,(vb<|(b 0) ||(a==9)))]) (fun f=>pb 1 0 0 f (fun f=>pe 3 0 f)<|fun f=>pe 3 0 f)<|pe 1 0 j)<|ff 0 i
def Ou(r1:Option Addr)(n1 i1:Int)(i:World)(a:NP)(m:World)(p:Int->Int->NP->WP)(K:Int->WP):Prop:=∃a2,r1=some a2/\∀g,af i a m a g->li g (a2.add 1) fun B=>∃a3,r1=some a3/\lx g a3 fun E=>Br (decide ((q6.wrap<|B+i1)>=(E.len:Int))) (∃a4,r1=some a4/\li g (a4.add 1) fun D=>cl 170 #[(vp r1),(vi 3),(vi D)] g fun e x=>e=.returned (.tuple #[])/\aj a g x/\K 0 x) (∃a5,r1=some a5/\∀h,af i a g a h->lx h a5 fun F=>∃v,r1=some v/\li h (v.add 1) fun A=>∃s:Addr,At F (q6.wrap<|A+i1) 1 s/\∃l:Int,h.cell? s=some (.int .u8 l)/\Br ((i1==9)&&(decide (l>1))) (∃t,r1=some t/\∀f b,af i a h f b->li b (t.add 1) fun C=>cl 170 #[(vp r1),(vi 11),(vi C)] b fun e r=>e=.returned (.tuple #[])/\aj f b r/\K 0 r) (∀f b,af i a h f b->∃y:Int,(Go.binOp .rem 5 (.int .u8 l)<|.int .u8 128).run prog b=.ok (.int .u8 y) b/\∃n,(Go.binOp .shl 23 (vu<|IntKind.u64.wrap y)<|vu<|IntKind.u64.wrap<|q6.wrap<|7*i1).run prog b=.ok (vu n) b/\Br (decide (l>=128)) (p (IntKind.u64.wrap<|n1+n) (q6.wrap<|i1+1) f b) (Br ((l==0)&&(decide (i1>0))) (∃q,r1=some q/\∀j c,af i f b j c->li c (q.add 1) fun z=>cl 170 #[(vp r1),(vi 10),(vi z)] c fun e w=>e=.returned (.tuple #[])/\aj j c w/\K 0 w) (∃k,r1=some k/\∀j c,af i f b j c->li c (k.add 1) fun o=>∃d,r1=some d/\zL c (d.add 1)/\¬j (d.add 1).block/\∀u,u=c.setCell (d.add 1) (vi<|q6.wrap<|(q6.wrap<|o+i1)+1)->K (IntKind.u64.wrap<|n1+n) u))))
def Kk(r1:Option Addr)(c:World)(K:Int->WP):Prop:=∃a1,r1=some a1/\li c (a1.add 2) fun i=>Br (i !=0) (K 0 c)<|∃(g:Int->Int->NP->WP) (e:Int->Int->World->Nat),g 0 0 ar c/\∀(n1 i1:Int) (b:NP) (a:World),af c b a b a->g n1 i1 b a->Ou r1 n1 i1 c b a (fun d f h w'=>g d f h w'/\e d f w'<e n1 i1 a) K
def YO(r1 w0 K)(h:Kk r1 w0 K):
  cl 118 #[(vp r1)] w0<|XW K:=
 dv func118 h<|nc 2<|ld 1<|br 0 1 (rr 2)<|ye 3 [0] (fun n1 i1=>[(3,(vu n1)),(4,(vi i1))])<|fun {_ _ n1 i1}=>fun e=>dq 0<|nc 1<|an<|ld 1<|nc 3<|ld 1<|br 0 2 (nc 3<|ld 1<|rA 0 call170<|rr 1)<|dq 1<|nc 1<|an<|ld 1<|nc 1<|ld 1<|ix 2<|ld 0<|fun {d}=>pj 1 0 [(i1==9)] [0,3,4,5] (fun b=>[(48,(vb<|(b 0)&&(decide (d>1))))]) (fun c=>pb 1 3 0 c (fun c=>pe 3 0 c)<|fun c=>pe 3 0 c)<|br 0 0 (nc 3<|ah<|ld 1<|rA 0 call170<|rr 1)<|ah<|xe<|rb 3<|xe<|rb 4<|br 0 4 (je 4 0 e)<|pj 1 0 [(d==0)] [0,3,4] (fun b=>[(71,(vb<|(b 0)&&(decide (i1>0))))]) (fun a=>pb 1 3 0 a (fun a=>pe 3 0 a)<|fun a=>pe 3 0 a)<|br 0 0 (nc 3<|ah<|ld 1<|rA 0 call170<|rr 1)<|nc 3<|ah<|ld 1<|nc 3<|np 1<|rr 2
def jw(n1:Int):Int:=(cond (decide (n1>1073741824)) 1073741824<|q6.wrap n1)
def D8(n1:Int)(c:World):cl 117 #[(.int .u64 n1)] c (fun e w'=>e=.returned (.int .i64<|jw n1)/\Pure c w'):=
 jr func117 [(decide (n1>1073741824))] (fun b=>(vi<|cond (b 0) 1073741824<|q6.wrap n1)) fun a=>pb 0 3 0 a (fun a=>ff 2 a)<|fun a=>ff 4 a
def PP(r1:Option Addr)(a:Int)(g:World)(K:ByteArray->WP):Prop:=∃a1,r1=some a1/\li g (a1.add 1) fun k=>cl 118 #[(vp r1)] g fun e i=>∃r2,e=.returned (vu r2)/\aj ar g i/\∃a2,r1=some a2/\li i (a2.add 2) fun x=>Br (x !=0) (K ⟨#[]⟩ i)<|Br ((decide (a<0)) ||(decide (r2>(IntKind.u64.wrap a)))) (∃a3,r1=some a3/\∀c n,af g ar i c n->zL n (a3.add 1)/\¬c (a3.add 1).block/\∀m,m=n.setCell (a3.add 1) (vi k)->cl 170 #[(vp r1),(vi 1),(vi k)] m fun e t=>e=.returned (.tuple #[])/\aj c m t/\K ⟨#[]⟩ t) (∃a4,r1=some a4/\∀c f,af g ar i c f->lx f a4 fun A=>∃a5,r1=some a5/\li f (a5.add 1) fun z=>Br (decide (r2>(IntKind.u64.wrap<|q6.wrap<|(A.len:Int)-z))) (∃j,r1=some j/\zL f (j.add 1)/\¬c (j.add 1).block/\∀l,l=f.setCell (j.add 1) (vi k)->cl 170 #[(vp r1),(vi 3),(vi k)] l fun e r=>e=.returned (.tuple #[])/\aj c l r/\K ⟨#[]⟩ r) (∃p,r1=some p/\∀b,af g c f c b->lx b p fun B=>∃q,r1=some q/\li b (q.add 1) fun w=>∃o,r1=some o/\li b (o.add 1) fun C=>∃s1:Sl,(Instr.sliceAt 59 B.v (some<|vi w) (some<|vi<|q6.wrap<|C+(q6.wrap r2)) none).run prog b=.ok s1.v b/\∃u,(convert 59 9 s1.v).run prog b=.ok (vs u) b/\∃h,r1=some h/\li b (h.add 1) fun y=>∃d,r1=some d/\zL b (d.add 1)/\¬c (d.add 1).block/\∀s,s=b.setCell (d.add 1) (vi<|q6.wrap<|y+(q6.wrap r2))->K u s))
def Rf(r1 most1 w0 K)(h:PP r1 most1 w0 K):
  cl 119 #[(vp r1),(vi most1)] w0<|XS K:=
 dv func119 h<|nc 2<|ld 1<|du 2 call118<|fun {r2}=>nc 2<|ld 1<|br 0 1 (rr 2)<|pj 1 0 [(decide (most1<0))] [0,5,6] (fun b=>[(26,(vb<|(b 0) ||(decide (r2>(IntKind.u64.wrap most1)))))]) (fun a=>pb 1 3 0 a (fun a=>pe 5 0 a)<|fun a=>pe 5 0 a)<|br 0 0 (nc 3<|ah<|np 1<|rA 2 call170<|rr 1)<|dq 1<|nc 2<|ah<|ld 1<|nc 2<|ld 1<|br 0 3 (nc 3<|np 1<|rA 2 call170<|rr 1)<|dq 1<|nc 1<|an<|ld 1<|nc 1<|ld 1<|nc 1<|ld 1<|xe<|rn 3<|xe<|rn 0<|nc 3<|ld 1<|nc 3<|np 1<|rr 2
def A0(r1:Option Addr)(i1:Int)(a:Addr)(r2 r:Int)(l k p:Int)(o:ByteArray)(s q:Int)(a1 b3:Int)(u:World)(H:NP)(w:World)(K:Int->Int->Int->Int->ByteArray->Int->Int->Int->WP):Prop:=∃a2,r1=some a2/\li w (a2.add 2) fun v1=>Br (v1 !=0) (∃t:WP,t w.drew/\∀c,c=w.drew->∃a3,r1=some a3/\∃J,(∀w',t w'->w'.cell? (a3.add 2)=some (vi J))/\(∀j,j<7->zL c (a.add j))/\¬H a.block/\∀b,b=bb c a (Ab r l k p o s q)->t b/\∃A C bU O Z R P,Row b a (Ab A C bU O Z R P)/\K A C bU O Z R P J b)<|∀B:Bool,B=(((rz<|q6.wrap r2)&&(decide (l>=16))) ||(((((q6.wrap r2):Int)==8) ||(((q6.wrap r2):Int)==9))&&((decide (k>=16)) ||(k==l))))->Br B (∀x h,af u H w x h->(∀j,j<7->zL h (a.add j))/\¬x a.block/\∀f,f=bb h a (Ab r l k p o s q)->∃T W L Y y M V,Row f a (Ab T W L Y y M V)/\K T W L Y y M V 50 f) (∀v:Bool,v=(((decide ((di<|q6.wrap r2)>=1))&&(decide (a1>=i1))) ||((((di<|q6.wrap r2):Int)==2)&&(decide (b3>=i1))))->Br v (∀n d,af u H w n d->(∀j,j<7->zL d (a.add j))/\¬n a.block/\∀i,i=bb d a (Ab r l k p o s q)->∃cG U z D cK I cM,Row i a (Ab cG U z D cK I cM)/\K cG U z D cK I cM 71 i) (∀m e,af u H w m e->(∀j,j<7->zL e (a.add j))/\¬m a.block/\∀g,g=bb e a (Ab r l k p o (cond (decide ((di<|q6.wrap r2)>=1)) (q6.wrap<|a1+1) s)<|cond (((di<|q6.wrap r2):Int)==2) (q6.wrap<|b3+1) q)->∃E N Q F G X S,Row g a (Ab E N Q F G X S)/\K E N Q F G X S 0 g))
def BW(r1:Option Addr)(i1:Int)(g:Addr)(r2 k:Int)(e f i:Int)(j:ByteArray)(l h a1:Int)(b:World)(H:NP)(w:World)(K:Int->Int->Int->Int->ByteArray->Int->Int->Int->WP):Prop:=Br (((di<|q6.wrap r2):Int)==2) (∀a,af b H w H a->cl 118 #[(vp r1)] a (XW fun r3 c=>aj H a c/\∀d,af b H c H d->A0 r1 i1 g r2 k e f i j l h a1 (jw r3) b H d K))<|∀a,af b H w H a->A0 r1 i1 g r2 k e f i j l h a1 0 b H a K
def Ch(r1:Option Addr)(i1:Int)(g:Addr)(r2 j:Int)(e f k:Int)(i:ByteArray)(l h:Int)(b:World)(H:NP)(w:World)(K:Int->Int->Int->Int->ByteArray->Int->Int->Int->WP):Prop:=Br (decide ((di<|q6.wrap r2)>=1)) (∀a,af b H w H a->cl 118 #[(vp r1)] a (XW fun m d=>aj H a d/\∀c,af b H d H c->BW r1 i1 g r2 j e f k i l h (jw m) b H c K))<|∀a,af b H w H a->BW r1 i1 g r2 j e f k i l h 0 b H a K
def Bs(r1:Option Addr)(i1:Int)(f:Addr)(r2 e:Int)(j g h:Int)(l:ByteArray)(i d:Int)(c:World)(H:NP)(w:World)(K:Int->Int->Int->Int->ByteArray->Int->Int->Int->WP):Prop:=Br (((q6.wrap r2):Int)==3) (cl 119 #[(vp r1),(vi 64)] w<|XS fun k a=>aj H w a/\∀b,af c H a H b->Ch r1 i1 f r2 e j g h k i d c H b K) (Ch r1 i1 f r2 e j g h l i d c H w K)
def CE(r1:Option Addr)(i1:Int)(e:Addr)(r2 h:Int)(bK i j:Int)(f:ByteArray)(d g:Int)(c:World)(H:NP)(w:World)(K:Int->Int->Int->Int->ByteArray->Int->Int->Int->WP):Prop:=Br (((q6.wrap r2):Int)==2) (cl 118 #[(vp r1)] w<|XW fun k a=>aj H w a/\∀b,af c H a H b->Bs r1 i1 e r2 h bK i k f d g c H b K) (Bs r1 i1 e r2 h bK i j f d g c H w K)
def Bd(r1:Option Addr)(i1:Int)(f:Addr)(r2 h:Int)(j m k:Int)(l:ByteArray)(g i:Int)(d:World)(H:NP)(w:World)(K:Int->Int->Int->Int->ByteArray->Int->Int->Int->WP):Prop:=Br ((((q6.wrap r2):Int)==8) ||(((q6.wrap r2):Int)==9)) (∀a b,af d H w a b->cl 118 #[(vp r1)] b (XW fun n e=>aj a b e/\∀c,af d a e a c->CE r1 i1 f r2 h j (jw n) k l g i d a c K))<|∀a b,af d H w a b->CE r1 i1 f r2 h j m k l g i d a b K
def m_E(r1:Option Addr)(i1:Int)(c:World)(K:Int->Int->Int->Int->ByteArray->Int->Int->Int->WP):Prop:=∀b k,au c (.cells #[(vi 0),(vi 0),(vi 0),(vu 0),ve,(vi 0),(vi 0)] 119) b k->cl 115 #[(vp r1)] k fun e h=>∃r2:Int,e=.returned (.int .u8 r2)/\aj ar k h/\Br ((decide ((q6.wrap r2)<1)) ||(decide ((q6.wrap r2)>9))) (∀a l,af c ar h a l->(∀j,j<7->zL l (b.add j))/\¬a b.block/\∀i,i=bb l b [(vi<|q6.wrap r2),(vi 0),(vi 0),(vu 0),ve,(vi 0),(vi 0)]->∃o n p m s r q,Row i b (Ab o n p m s r q)/\K o n p m s r q 70 i) (Br (rz<|q6.wrap r2) (∀a d,af c ar h a d->cl 118 #[(vp r1)] d (XW fun t f=>aj a d f/\∀g,af c a f a g->Bd r1 i1 b r2 (q6.wrap r2) (jw t) 0 0 ⟨#[]⟩ 0 0 c a g K))<|∀a d,af c ar h a d->Bd r1 i1 b r2 (q6.wrap r2) 0 0 0 ⟨#[]⟩ 0 0 c a d K)
def RF(r1 i1 w0 K)(h:m_E r1 i1 w0 K):
  cl 59 #[(vp r1),(vi i1)] w0<|fun e w'=>∃aL W Z aT aU Y aW U,e=.returned (.tuple #[(Ac aL W Z aT aU Y aW),(vi U)])/\K aL W Z aT aU Y aW U w':=
 dv func59 h<|my 0<|du 2 call115<|fun {r2}=>nh 4<|sg 0 0 []<|pj 0 0 [(decide ((q6.wrap r2)<1))] [0,1,4,6,7] (fun b=>[(20,(vb<|(b 0) ||(decide ((q6.wrap r2)>9))))]) (fun R=>pb 1 3 0 R (fun R=>pe 3 0 R)<|fun R=>pe 3 0 R)<|br 0 0 (ij 1 0 [] 7<|ah<|vy 0<|dx 1<|cf<|xe<|gh<|dy)<|cp 2 call116 (IP<|q6.wrap r2)<|BK 0 0 [0,1,4,6,7] (fun E y G L A x N=>[]) (fun E y G L A x N l=>im l 0 0<|Ab E y G L A x N) (fun E y G L A x N H w=>Bd _ _ _ _ E y G L A x N _ H w _) (fun j2=>br 0 0 (ah<|du 2 call118<|fun {r8}=>cp 0 call117 (D8 r8)<|sh 1 0 [1]<|an<|je 0 0 j2)<|ah<|je 1 0 j2)<|fun {E y G L A x N}=>pj 0 0 [(((q6.wrap r2):Int)==8)] [0,1,4,6,7] (fun b=>[(33,(vb<|(b 0) ||(((q6.wrap r2):Int)==9)))]) (fun B=>pb 1 3 0 B (fun B=>pe 3 0 B)<|fun B=>pe 3 0 B)<|BK 0 0 [0,1,4,6,7] (fun z bK F Q M v O=>[]) (fun z bK F Q M v O l=>im l 0 0<|Ab z bK F Q M v O) (fun z bK F Q M v O H w=>CE _ _ _ _ z bK F Q M v O _ H w _) (fun j4=>br 0 0 (ah<|du 2 call118<|fun {r7}=>cp 0 call117 (D8 r7)<|sh 1 0 [2]<|an<|je 0 0 j4)<|ah<|je 1 0 j4)<|fun {z bK F Q M v O}=>BK 2 0 [0,1,4,6,7] (fun D P S T J I C=>[]) (fun D P S T J I C l=>im l 0 0<|Ab D P S T J I C) (fun D P S T J I C H w=>Bs _ _ _ _ D P S T J I C _ H w _) (fun X=>br 0 0 (du 2 call118<|sh 1 0 [3]<|an<|je 0 0 X)<|je 1 0 X)<|fun {D P S T J I C}=>BK 2 0 [0,1,4,6,7] (fun t c a r q u s=>[]) (fun t c a r q u s l=>im l 0 0<|Ab t c a r q u s) (fun t c a r q u s H w=>Ch _ _ _ _ t c a r q u s _ H w _) (fun j6=>br 0 0 (du 2 call119<|sh 1 0 [4]<|an<|je 0 0 j6)<|je 1 0 j6)<|fun {t c a r q u s}=>cp 3 call65 (qu<|q6.wrap r2)<|jk 1 0 [0,1,4,6,7,9] (fun a1=>[(8,(vi a1))]) (fun a1 H w=>BW _ _ _ _ _ _ _ _ _ _ _ a1 _ H w _) (fun j7=>br 0 0 (an<|du 2 call118<|fun {r4}=>cp 0 call117 (D8 r4)<|an<|je 1 0 j7)<|an<|je 1 0 j7)<|fun {a1}=>cp 1 call65 (qu<|q6.wrap r2)<|jk 1 0 [0,1,4,6,7,8] (fun b3=>[(9,(vi b3))]) (fun b3 H w=>A0 _ _ _ _ _ _ _ _ _ _ _ _ b3 _ H w _) (fun V=>br 0 0 (an<|du 2 call118<|fun {r3}=>cp 0 call117 (D8 r3)<|an<|je 1 0 V)<|an<|je 1 0 V)<|fun {b3}=>nc 1<|ld 1<|br 0 1 (dC 1 [5] []<|sJ 0 0 [] 7<|nc 1<|ik 1<|I6 0<|dx 1<|cf<|xe<|gh<|dy)<|pj 1 0 [((rz<|q6.wrap r2)&&(decide (c>=16)))] [1,4,6,7,8,9] (fun b=>[(96,(vb<|(b 0) ||(((((q6.wrap r2):Int)==8) ||(((q6.wrap r2):Int)==9))&&((decide (a>=16)) ||(a==c)))))]) (fun n=>cp 1 call116 (IP<|q6.wrap r2)<|ct 1 4<|pj 0 0 [(rz<|q6.wrap r2)] [1,4,6,7,8,9] (fun b=>[(76,(vb<|(b 0)&&(decide (c>=16))))]) (fun p=>pb 1 0 0 p (fun p=>lh 1 0 [1]<|pe 2 0 p)<|fun p=>pe 4 0 p)<|pb 1 1 0 n (fun n=>pe 19 0 n)<|fun n=>ct 3 3<|pj 0 0 [(((q6.wrap r2):Int)==8)] [1,4,6,7,8,9,77] (fun b=>[(83,(vb<|(b 0) ||(((q6.wrap r2):Int)==9)))]) (fun i=>pb 1 0 0 i (fun i=>pe 3 0 i)<|fun i=>pe 3 0 i)<|ct 1 11<|pj 0 0 [((((q6.wrap r2):Int)==8) ||(((q6.wrap r2):Int)==9))] [1,4,6,7,8,9,77] (fun b=>[(95,(vb<|(b 0)&&((decide (a>=16)) ||(a==c))))]) (fun f=>pb 1 0 0 f (fun f=>lh 1 0 [2]<|ct 2 6<|pj 0 0 [(decide (a>=16))] [1,4,6,7,8,9,77,84] (fun b=>[(94,(vb<|(b 0) ||(a==c)))]) (fun g=>pb 1 0 0 g (fun g=>pe 6 0 g)<|fun g=>lh 1 0 [2]<|lh 1 0 [1]<|pe 2 0 g)<|pe 1 0 f)<|fun f=>pe 11 0 f)<|pe 1 0 n)<|yy<|br 0 0 (ij 1 0 [] 7<|ah<|vy 0<|dx 1<|cf<|xe<|gh<|dy)<|pj 1 0 [((decide ((di<|q6.wrap r2)>=1))&&(decide (a1>=i1)))] [4,6,7,8,9] (fun b=>[(115,(vb<|(b 0) ||((((di<|q6.wrap r2):Int)==2)&&(decide (b3>=i1)))))]) (fun d=>cp 1 call65 (qu<|q6.wrap r2)<|ct 2 4<|pj 0 0 [(decide ((di<|q6.wrap r2)>=1))] [1,4,6,7,8,9] (fun b=>[(105,(vb<|(b 0)&&(decide (a1>=i1))))]) (fun j=>pb 1 0 0 j (fun j=>pe 4 0 j)<|fun j=>pe 4 0 j)<|pb 1 1 0 d (fun d=>pe 9 0 d)<|fun d=>cp 1 call65 (qu<|q6.wrap r2)<|ct 2 4<|pj 0 0 [(((di<|q6.wrap r2):Int)==2)] [4,6,7,8,9,106] (fun b=>[(114,(vb<|(b 0)&&(decide (b3>=i1))))]) (fun k=>pb 1 0 0 k (fun k=>pe 4 0 k)<|fun k=>pe 4 0 k)<|pe 1 0 d)<|yy<|br 0 0 (ij 1 0 [] 7<|ah<|vy 0<|dx 1<|cf<|xe<|gh<|dy)<|cp 2 call65 (qu<|q6.wrap r2)<|ph (fun b l=>im l 0 0<|Ab t c a r q (cond (b 0) (q6.wrap<|a1+1) u) s) 1 0 [(decide ((di<|q6.wrap r2)>=1))] [4,6,7,9] (fun b=>[]) (fun o=>pb 0 0 0 o (fun o=>sh 4 0 [5]<|pe 0 0 o)<|fun o=>pe 1 0 o)<|cp 1 call65 (qu<|q6.wrap r2)<|ph (fun b l=>im l 0 0<|Ab t c a r q (cond (decide ((di<|q6.wrap r2)>=1)) (q6.wrap<|a1+1) u)<|cond (b 0) (q6.wrap<|b3+1) s) 1 0 [(((di<|q6.wrap r2):Int)==2)] [4,7] (fun b=>[]) (fun m=>pb 0 0 0 m (fun m=>sh 4 0 [6]<|pe 0 0 m)<|fun m=>pe 1 0 m)<|ij 0 0 [] 7<|ah<|vy 0<|dx 1<|cf<|xe<|gh<|dy
def NU(r1:Option Addr)(a n:Sl)(i1:Int)(j:World)(c:NP)(b:World)(f:Int->NP->WP)(K:(Option Addr)->Int->Int->WP):Prop:=∃l,r1=some l/\∃i:Sl,b.cell? l=some i.v/\Br (decide (i1<(i.len:Int))) (Br (decide (i1>=(n.len:Int))) (∃o:Addr,At a i1 1 o/\∀e,af j c b c e->∃k,e.cell? o=some (vi k)/\K none 73 k e)<|∃m:Addr,At n i1 1 m/\∃p,b.cell? m=some (vi p)/\Br (p !=(q6.wrap<|i1+1)) (∃h:Addr,At a i1 1 h/\∀d,af j c b c d->∃g,d.cell? h=some (vi g)/\K none 73 g d) (f (q6.wrap<|i1+1) c b)) (K r1 0 0 b)
def Lm(r1:Option Addr)(r2:Option Addr)(a:Sl)(o:World)(b:NP)(i:World)(t:Sl->NP->WP)(K:(Option Addr)->Int->Int->WP):Prop:=cl 58 #[(vp r2)] i fun e f=>∃r3,e=.returned (vi r3)/\aj b i f/\Br (decide (r3>0)) (∃a1,r2=some a1/\∃m,f.cell? (a1.add 1)=some (vi m)/\∃a2,r1=some a2/\∃x:Sl,f.cell? a2=some x.v/\cl 59 #[(vp r2),(vi (x.len:Int))] f fun e s=>∃I w A E F y B p,e=.returned (.tuple #[(Ac I w A E F y B),(vi p)])/\aj b f s/\Br (p !=0) (∀h g,af o b s h g->K none p m g) (∃a3,r1=some a3/\∀h g,af o b s h g->∃D:Sl,g.cell? a3=some D.v/\cl 60 #[(vp r1),(.agg #[(vi I),(vi w),(vi A),(vu E),(vs F),(vi y),(vi B)])] g (XH fun M z l=>aj h g l/\Br (z !=0) (K none z m l) (∃a4,r1=some a4/\∃C:Sl,l.cell? a4=some C.v/\Br (((C.len:Int):Int)==(D.len:Int)) (K none 72 m l) (∀G q,au l (.cells #[(vi m)] 3) G q->∃s1:Sl,∃r:World,(Builtin.append_ #[42,42] 42 #[a.v,(Sl.mk (some G) 1 1).v]).run prog q=.ok s1.v r/\aj h q r/\t s1 h r))))) (∃a5,r1=some a5/\∃H:Sl,f.cell? a5=some H.v/\cl 61 #[(vp r1),(vi (H.len:Int))] f (XA fun L k=>aj b f k/\∃(u:Int->NP->WP) (n:Int->World->Nat),u 0 b k/\∀(i1:Int) (d:NP) (c:World),af o d c d c->u i1 d c->NU r1 a L i1 o d c (fun j J w'=>u j J w'/\n j w'<n i1 c) K))
def N2(b1:Sl)(h:World)(K:(Option Addr)->Int->Int->WP):Prop:=cl 44 #[] h fun e f=>∃r1,e=.returned (vp r1)/\aj ar h f/\Br (decide ((b1.len:Int)>4096)) (K none 1 0 f) (Br (((b1.len:Int):Int)==0) (K none 3 0 f)<|cl 57 #[b1.v] f<|XD fun r2 j=>aj ar f j/\∃(i:Sl->NP->WP) (g:Sl->World->Nat),i Sl.nil ar j/\∀(a:Sl) (c:NP) (b:World),af h c b c b->i a c b->Lm r1 r2 a h c b (fun d k w'=>i d k w'/\g d w'<g a b) K)
def jby(b1 w0 K)(h:N2 b1 w0 K):
  cl 18 #[b1.v] w0<|XY K:=
 dv func18 h<|du 3 call44<|br 0 4 (rr 4)<|br 0 4 (rr 4)<|du 2 call57<|td 2 [5,6] (fun a=>[(7,(Sl.v a))])<|fun {_ _ a}=>fun b=>du 1 call58<|br 0 1 (nc 2<|ld 1<|nc 3<|ld 1<|cc 1 call59<|cf<|dt<|rt<|ie<|nh 3<|sg 0 0 []<|br 0 3 (ah<|rr 6)<|nc 2<|ah<|ld 1<|ij 3 0 [] 7<|il 0 call60<|br 0 6 (rr 6)<|nc 2<|ld 1<|br 0 3 (rr 5)<|my 3<|dt<|ef 0<|ie<|je 1 1 b)<|nc 3<|ld 1<|du 1 call61<|td 2 [5,7,12] (fun i1=>[(13,(vi i1))])<|fun {_ _ i1}=>fun c=>nc 2<|ld 1<|br 0 2 (br 1 6 (dq 9<|ix 2<|an<|ld 0<|rr 3)<|ix 2<|ld 0<|br 0 4 (dq 1<|ix 2<|an<|ld 0<|rr 3)<|je 4 0 c)<|rr 5
def Og(w0:World)(K:(Option Nat)->WP):Prop:=∀M w1,au w0 (.cells #[(.nilFunc:Value),(.nilFunc:Value)] 255) M w1->(∀j,j<2->zL w1 (M.add j))/\∀w2,w2=bb w1 M [(.func (.func 249) #[] #[]),(.func (.func 251) #[] #[])]->∀p2 w3,au w2 (.cells #[(.nilFunc:Value),(.nilFunc:Value)] 255) p2 w3->(∀j,j<2->zL w3 (p2.add j))/\∀w4,w4=bb w3 p2 [(.func (.func 253) #[] #[]),(.func (.func 254) #[] #[])]->∀p3 w5,au w4 (.cells #[(.nilFunc:Value),(.nilFunc:Value)] 255) p3 w5->(∀j,j<2->zL w5 (p3.add j))/\∀w6,w6=bb w5 p3 [(.func (.func 255) #[] #[]),(.func (.func 256) #[] #[])]->∀p4 w7,au w6 (.cells #[(.nilFunc:Value),(.nilFunc:Value)] 255) p4 w7->(∀j,j<2->zL w7 (p4.add j))/\∀w8,w8=bb w7 p4 [(.func (.func 257) #[] #[]),(.func (.func 259) #[] #[])]->∀N w9,au w8 (.cells #[(.nilFunc:Value),(.nilFunc:Value)] 255) N w9->(∀j,j<2->zL w9 (N.add j))/\∀w10,w10=bb w9 N [(.func (.func 261) #[] #[]),(.func (.func 262) #[] #[])]->∀p6 P,au w10 (.cells #[(.nilFunc:Value),(.nilFunc:Value)] 255) p6 P->(∀j,j<2->zL P (p6.add j))/\∀Z,Z=bb P p6 [(.func (.func 263) #[] #[]),(.func (.func 264) #[] #[])]->∀t S,au Z (.map #[] 0) t S->∃w:Value,∃F:Value,Row S M [w,F]/\∀p8 w14,au S (.cells #[w,F] 255) p8 w14->∃T:World,(Instr.mapUpdate 249 (.map<|some t.block) (vi 1) (Sl.mk (some p8) 1 1).v).run prog w14=.ok () T/\∃B:Value,∃r:Value,Row T p3 [B,r]/\∀p9 w16,au T (.cells #[B,r] 255) p9 w16->∃R:World,(Instr.mapUpdate 249 (.map<|some t.block) (vi 2) (Sl.mk (some p9) 1 1).v).run prog w16=.ok () R/\∃s:Value,∃p:Value,Row R p4 [s,p]/\∀p10 W,au R (.cells #[s,p] 255) p10 W->∃L:World,(Instr.mapUpdate 249 (.map<|some t.block) (vi 3) (Sl.mk (some p10) 1 1).v).run prog W=.ok () L/\∃C:Value,∃A:Value,Row L N [C,A]/\∃I:Value,∃u:Value,Row L p6 [I,u]/\∀U w20,au L (.cells #[C,A,I,u] 255) U w20->∃Q:World,(Instr.mapUpdate 249 (.map<|some t.block) (vi 4) (Sl.mk (some U) 2 2).v).run prog w20=.ok () Q/\∃q:Value,∃z:Value,Row Q N [q,z]/\∀p12 V,au Q (.cells #[q,z] 255) p12 V->∃O:World,(Instr.mapUpdate 249 (.map<|some t.block) (vi 5) (Sl.mk (some p12) 1 1).v).run prog V=.ok () O/\∃H:Value,∃E:Value,Row O M [H,E]/\∀p13 X,au O (.cells #[H,E] 255) p13 X->∃J:World,(Instr.mapUpdate 249 (.map<|some t.block) (vi 6) (Sl.mk (some p13) 1 1).v).run prog X=.ok () J/\∃y:Value,∃o:Value,Row J M [y,o]/\∃D:Value,∃n:Value,Row J N [D,n]/\∀p14 w26,au J (.cells #[y,o,D,n] 255) p14 w26->∃x:World,(Instr.mapUpdate 249 (.map<|some t.block) (vi 7) (Sl.mk (some p14) 2 2).v).run prog w26=.ok () x/\∃i:Value,∃e:Value,Row x M [i,e]/\∃f:Value,∃a:Value,Row x p2 [f,a]/\∃b:Value,∃m:Value,Row x N [b,m]/\∀p15 w28,au x (.cells #[i,e,f,a,b,m] 255) p15 w28->∃G:World,(Instr.mapUpdate 249 (.map<|some t.block) (vi 8) (Sl.mk (some p15) 3 3).v).run prog w28=.ok () G/\∃k:Value,∃h:Value,Row G M [k,h]/\∃g:Value,∃l:Value,Row G p2 [g,l]/\∃c:Value,∃d:Value,Row G N [c,d]/\∀p16 w30,au G (.cells #[k,h,g,l,c,d] 255) p16 w30->∃Y:World,(Instr.mapUpdate 249 (.map<|some t.block) (vi 9) (Sl.mk (some p16) 3 3).v).run prog w30=.ok () Y/\K (some t.block) Y
def Zy(a:World)(K:(Option Nat)->WP)(h:Og  a K):
  cl 164 #[] a<|fun e w'=>∃r1:Option Nat,e=.returned (.map r1)/\K r1 w':=
 cy func164 h<|cd 2<|dh 0<|cd 1<|dh 0<|cd 1<|dh 0<|cd 1<|dh 0<|cd 1<|dh 0<|cd 1<|dh 0<|cd 0<|dt<|lr 0<|cd 0<|xe<|es 0<|ev<|dt<|lr 0<|cd 0<|xe<|es 0<|ev<|dt<|lr 0<|cd 0<|xe<|es 0<|ev<|dt<|lr 0<|dt<|lr 0<|cd 0<|xe<|es 0<|ev<|dt<|lr 0<|cd 0<|xe<|es 0<|ev<|dt<|lr 0<|cd 0<|xe<|es 0<|ev<|dt<|lr 0<|dt<|lr 0<|cd 0<|xe<|es 0<|ev<|dt<|lr 0<|dt<|lr 0<|dt<|lr 0<|cd 0<|xe<|es 0<|ev<|dt<|lr 0<|dt<|lr 0<|dt<|lr 0<|cd 0<|xe<|es 0<|ev<|rr 2
def P6(q r:Addr)(G:List (Int)->NP->WP)(n:List (Int))(y:Int)(z:NP)(E:World)(M F:Int)(I N:Int)(K:ByteArray)(H J:Int)(B:Sl)(s:Int)(e:NP)(a:World)(t:Int->NP->WP)(O:Sl->WP):Prop:=Br (decide (s<(B.len:Int))) (∃a1:Addr,At B s 2 a1/\∃c:Value,∃b:Value,Row a a1 [c,b]/\∀k g,au a (.cells #[(.nilFunc:Value),(.nilFunc:Value)] 255) k g->([c,b].all vG=true/\∀j,j<2->zL g (k.add j))/\¬e k.block/\∀d,d=bb g k [c,b]->∃u:Value,d.cell? k=some u/\lx d q fun L=>∃A:Option Nat,d.cell? r=some (.map A)/\∃(p:FuncId) (o m:Array Value),u=.func (.func p) o m/\(∀args w,(callFunc p args).run prog w=.ok (.enter p args) w)/\Calls prog p (o++#[L.v,(.agg #[(vi M),(vi F),(vi I),(vu N),(vs K),(vi H),(vi J)]),(.map A)]++m) d (XA fun D h=>aj e d h/\zL h q/\¬e q.block/\∀l,l=h.setCell q D.v->t (q6.wrap<|s+1) e l)) (∃x:Option Nat,a.cell? r=some (.map x)/\∃i:Option Nat,a.cell? r=some (.map i)/\∃C,(Builtin.len_ #[231] 3 #[(.map i)]).run prog a=.ok (vi C) a/\∃f:World,(Instr.mapUpdate 231 (.map x) (vi y)<|vi C).run prog a=.ok () f/\aj e a f/\aj z E f/\G (n++[y]) z f)
def Rq(p1:Option Addr)(t1:Int)(B:World)(K:Sl->WP):Prop:=∀O w1,au B (.cells #[(vp p1)] 91) O w1->∀l J,au w1 (.cells #[Sl.nil.v] 59) l J->cl 164 #[] J fun e W=>∃r1:Option Nat,e=.returned (.map r1)/\aj ar J W/\∀z M,au W (.cells #[(.map none)] 249) z M->zL M z/\¬ar z.block/\∀S,S=M.setCell z (.map r1)->∀Z T,au S (.map #[] 0) Z T->∀y I,au T (.cells #[(.map none)] 231) y I->zL I y/\¬ar y.block/\∀D,D=I.setCell y (.map<|some Z.block)->lp D O fun v1=>cl 131 #[(vp v1),(vi t1)] D fun e F=>∃r2:Value,e=.returned r2/\aj ar D F/\∃(G:FuncId) (x:Array Value),r2=.func (.func G) #[] x/\(∀args w,(callFunc G args).run prog w=.ok (.enter G args) w)/\∃(k:List (Int)) (A:WP),sK prog G x (fun(p:Int)=>#[(vi p)]) k A F/\∃(r:List (Int)->NP->WP),Bg B A r (fun _ _ _=>False) (fun _ _ _=>False)/\r [] ar F/\(∀(f:List (Int)) (p:Int) (C:NP) (g:World),r f C g->af B C g C g->(∃u,k=f++p ::u)->lp g O fun v2=>cl 109 #[(vp v2),(vi p)] g fun e q=>∃H R V aT aU U X r3,e=.returned (.tuple #[(Ac H R V aT aU U X),(vb r3)])/\aj ar g q/\∀E j,af g ar q E j->lx j l fun v3=>∀Q m,au j (.cells #[(.int .u8<|IntKind.u8.wrap H)] 5) Q m->∃s1:Sl,∃i:World,(Builtin.append_ #[59,59] 59 #[v3.v,(Sl.mk (some Q) 1 1).v]).run prog m=.ok s1.v i/\aj E m i/\zL i l/\¬E l.block/\∀d,d=i.setCell l s1.v->∃Y:Option Nat,d.cell? z=some (.map Y)/\∃v5:Sl,(Instr.lookup 249 (.map Y) (vi H) false).run prog d=.ok v5.v d/\∃(P:Int->NP->WP) (t:Int->World->Nat),P 0 E d/\∀(L:Int) (h:NP) (c:World),af g h c h c->P L h c->P6 l y r f p C g H R V aT aU U X v5 L h c (fun s H' w'=>P s H' w'/\t s w'<t L c) K)/\∀n a,af B n a n a->(∀b,ar b->n b)->aj ar F a->r k n a->lx a l fun N=>∀o,af B n a n o->K N o
def jbt(p1 t1 w0 K)(h:Rq p1 t1 w0 K):
  cl 110 #[(vp p1),(vi t1)] w0<|XA K:=by
 refine cw (args:=[(vp p1),(vi t1)]) func110 ntmps110 ?_
 have⟨hs,c⟩:=sr w0
 refine eg<|rZ hs c h xb fun p2 w1 hs c h=>q<|ln<|eg<|rZ hs c h (uA (zeroValue59 _) rfl) fun p3 w2 hs c h=>ln<|eg<|sc call164 (h.mono fun e w3 ⟨r1,k,d,h⟩=>have⟨hs,c⟩:=d.hh hs c;⟨_,k,?_⟩)
 refine rZ hs c h (uA (zeroValue249 _) rfl) fun p4 w4 hs c h=>jy (sizeOf249 _) hs c h fun w5 hs c h=>ln<|eg<|Fo (fun p=>.map<|some p.block) hs c h fun p5 w6 hs c h=>rZ hs c h (uA (zeroValue231 _) rfl) fun p6 w7 hs c h=>jy (sizeOf231 _) hs c h fun w8 hs c h=>ln<|EF<|rg<|ql (isAgg91 _) h fun v1 h=>q<|sc call131 (h.mono fun e w9 ⟨r2,k,d,h⟩=>have⟨hs,c⟩:=d.hh hs c;⟨_,k,?_⟩)
 refine ln ?_
 have⟨f1,cs1,Y,hf1,h⟩:=h
 have⟨xs1,Rd1,iu,I1,hRI,R,f,h⟩:=h
 refine Er (encs:=(fun(I:Int)=>#[(vi I)])) (Eq.trans (b:=r2) Kf Y) hf1 iu (fun _=>rfl) De hs I1 (fun _ _ _=>False) (fun _ _ _=>False) hRI R ?ha ?hr ?ht
 case ha =>
  intro l I w24
  refine rg<|q<|ln ⟨rfl,?_⟩
  intro t Y1 M hi hY m
  have h:=f t I Y1 M hi hY m
  have⟨hs,c⟩:=sr M
  refine vP<|eg<|ql (isAgg91 _) h fun v2 h=>q<|sc call109 (h.mono fun e w11 ⟨j,z,A,y,H,G,B,r3,k,d,h⟩=>have⟨hs,c⟩:=d.hh hs c;⟨_,k,?_⟩)
  refine qc<|UR [(vi 0),(vi 0),(vi 0),(vu 0),ve,(vi 0),(vi 0)] 119 hs c (uA (zeroValue119 _) rfl) fun W w12 H1 hs c=>Wg 0 (Ab j z A y H G B) (sizeOf119 _) hs c gZ fun w13 hs c=>q<|ln<|eg ?_
  have⟨h,hs⟩:=hs.hr<|h H1 w13
  refine ql (isAgg59 _) h fun v3 h=>q<|q3 (xl (isAgg3 _)<|c.d0 0 gZ)<|q<|ym (O:=(.cells #[(.int .u8<|IntKind.u8.wrap j)] 5)) (fun p=>(Sl.mk (some p) 1 1).v) (qC rfl) (LH (vs:=#[(0,(.int .u8<|IntKind.u8.wrap j))]) Kf Kf) ?_
  intro p8 T u
  have h:=h p8 T u
  have⟨hs,c⟩:=hs.nw c u
  have⟨s1,w15,x,d,h⟩:=h
  refine st (v:=s1.v) (qC rfl) (BB (args:=#[v3.v,(Sl.mk (some p8) 1 1).v]) Kf (fun _=>rfl) x) ?_
  have⟨hs,c⟩:=d.hh hs c
  refine jy (sizeOf59 _) hs c h fun w16 hs c h=>ln<|zK<|eg<|ql (isAgg249 _) h fun v4 h=>q<|q3 (xl (isAgg3 _)<|c.d0 0 gZ) ?_
  have⟨X,D,h⟩:=h
  refine q2 X.v (Dj Kf Kf D)<|qb<|ln<|vP ?_
  have⟨I2,mu1,R,hr⟩:=h
  refine vn (σ:=Int×NP×World) (fun s ρ w=>w=s.2.2/\ed ρ [(5,(vp<|some p3)),(7,(vp<|some p6)),(8,(vi I)),(9,(vp<|some W)),(34,X.v),(35,(vi (X.len:Int))),(36,(vi s.1))]/\af M s.2.1 w s.2.1 w/\HB s.2.1 w [(W,(Ab j z A y H G B),119)]/\I2 s.1 s.2.1 s.2.2) (fun s=>mu1 s.1 s.2.2) (0,H1,w16) ⟨rfl,hm,hs,c,R⟩ ?_
  rintro⟨x1,g,wl1⟩ ρ w ⟨hw,hH,hs,c,hI⟩
  dsimp only at hw hH hs c;subst w
  have h:=hr x1 g wl1 hs hI
  refine qS hH (eg<|q<|ln<|zK<|ib h ?_ ?_)<;>intro h
  refine zW<|yZ<|zK<|vP<|eg<|qi (runUnderlying251 _) (sizeOf255 _) h fun a1 h=>?_
  have⟨i,n,Z,h⟩:=h
  refine qa (isAgg255 _) (sizeOf255 _) Z<|rZ hs c h (uA (zeroValue255 _) rfl) fun p9 w17 hs c h=>?_
  have⟨o,hnh,h⟩:=h
  refine ss (AO (a:=p9) (vs:=[i,n]) Kf Kf o.1 (sizeOf255 _) rfl o.2) ?_
  intro r C
  have h:=h r C
  have d:aj g w17 r:=by rw[C];exact aj.bb hnh
  have⟨hs,c⟩:=d.hh hs c
  refine ln<|rg<|q<|ql (isAgg252 _) h fun v6 h=>ql (isAgg59 _) h fun v7 h=>q2 (Ac j z A y H G B) (xa W (Ab j z A y H G B) (isAgg119 _) (sizeOf119 _)<|c.r0 0 7 gZ)<|ql (isAgg231 _) h fun v8 h=>?_
  have⟨f2,fs1,cs2,S,h⟩:=h
  have⟨hf2,h⟩:=h
  refine Hc (qC rfl) (zCJ (fs:=fs1) (caps:=cs2) (args:=#[v7.v,(Ac j z A y H G B),(.map v8)]) Kf S hf2 Kf rfl) (h.mono ?_)
  rintro e w19 ⟨r4,rfl,d,h⟩
  refine⟨_,rfl,?_⟩
  have⟨hs,c⟩:=d.hh hs c
  refine jy (sizeOf59 _) hs c h fun U hs c h=>vJ<|pO<|yZ<|rg<|qb<|ln ⟨((q6.wrap<|x1+1),g,U),⟨rfl,hm,hs,c,h.1⟩,h.2⟩
  refine tQ<|qv<|qv<|wU<|yZ<|rg<|ql (isAgg231 _) h fun v9 h=>q<|ql (isAgg231 _) h fun P h=>?_
  have⟨z3,V,h⟩:=h
  refine q2 (vi z3) (BB (args:=#[(.map P)]) Kf (fun _=>rfl) V) ?_
  have⟨w21,hv7,d,h⟩:=h
  refine wx (qC rfl) (JS Kf Kf Kf hv7) ?_
  have⟨hs,c⟩:=d.hh hs c
  refine vJ<|pO ?_
  exact DR h
 case hr =>
  intro D1 H2 N hs' hD hDe bR E F
  have L:=c.tv E bR hD hDe
  have hs:=hs'
  have c:=L
  have h:=h H2 N hs bR E<|F.elim id fun h=>h.elim fun _ h=>h.elim
  refine eg<|ql (isAgg59 _) h fun v11 h=>q<|ln<|er<|Ba c.By ?_
  intro J Q
  have hl:=c.Co hs Q
  have⟨hs,c⟩:=hl
  -- tv the loop
  have⟨h,hs⟩:=hs.hr<|h J
  refine BL results110 ⟨v11,rfl,h⟩
 case ht =>
  intro _ _ _ _ _ _ _ h
  exact h.elim
def Nr(g:Option Addr)(h:Int)(b:World)(K:Sl->Int->WP):Prop:=cl 109 #[(vp g),(vi h)] b fun e d=>∃m l k o i j n r1,e=.returned (.tuple #[(Ac m l k o i j n),(vb r1)])/\aj ar b d/\Br (!r1) (∀c a,af b ar d c a->K Sl.nil 51 a) (∀c a,af b ar d c a->cl 110 #[(vp g),(vi h)] a (XA fun r2 f=>aj c a f/\Br (decide ((r2.len:Int)>4096)) (K Sl.nil 1 f) (K r2 0 f)))
def SB(p1 t1 w0 K)(h:Nr p1 t1 w0 K):
  cl 53 #[(vp p1),(vi t1)] w0<|XM K:=
 dv func53 h<|cc 4 call109<|cf<|dt<|rt<|ie<|nh 3<|sg 0 0 []<|br 0 3 (ah<|rr 3)<|ah<|du 3 call110<|br 0 4 (rr 3)<|rr 4
def QT(f:Option Addr)(b1:Sl)(d:World)(K:Int->Int->Int->WP):Prop:=cl 18 #[b1.v] d fun e a=>∃r1 r2 r3,e=.returned (.tuple #[(vp r1),(vi r2),(vi r3)])/\Br (r2 !=0) (K 0 r2 r3 a) (∃a1,r1=some a1/\∃b:Sl,a.cell? a1=some b.v/\cl 111 #[(vp f),(vp r1),(vi (b.len:Int))] a (XH fun c g h=>K c g 0 h))
def jao(p1 b1 w0 K)(h:QT p1 b1 w0 K):
  cl 54 #[(vp p1),b1.v] w0<|XJ K:=
 cy func54 h<|BS 4 call18<|br 0 9 (rr 6)<|nc 4<|ld 1<|kz 1 call111<|rr 10
def Tg(d:Sl)(c:World)(K:(Option Addr)->WP):Prop:=cl 271 #[d.v] c<|XA fun r1 e=>∀a b,au e (.cells #[r1.v,(vi 0),(vi 0),(vi 0)] 319) a b->K (some a) b
def Xd(p1 w0 K)(h:Tg p1 w0 K):
  cl 182 #[p1.v] w0<|XD K:=
 cy func182 h<|fy 2 call271<|cd 1<|rr 1
def RK(r1:Option Addr)(b:World)(K:Int->WP):Prop:=Br (Option.isNone r1) (K 0 b)<|∃a1,r1=some a1/\∀a,af b ar b ar a->lx a a1 fun d=>∃a2,r1=some a2/\li a (a2.add 1) fun c=>K (q6.wrap<|(d.len:Int)-c) a
def TX(r1 w0 K)(h:RK r1 w0 K):
  cl 183 #[(vp r1)] w0<|XB K:=
 dv func183 h<|br 0 3 (rr 2)<|dq 1<|nc 1<|an<|ld 1<|nc 2<|ld 1<|rr 2
def Za(r1:Option Addr)(a:World)(K:Int->WP):Prop:=Br (Option.isNone r1) (K 0 a)<|∃a1,r1=some a1/\li a (a1.add 1) fun b=>K b a
def jbh(r1 w0 K)(h:Za r1 w0 K):
  cl 184 #[(vp r1)] w0<|XB K:=
 cy func184 h<|br 0 3 (rr 2)<|nc 2<|ld 1<|rr 1
def jbS(r1:Option Addr)(j:World)(K:Int->WP):Prop:=∀b i,au j (.cells #[(vp r1)] 272) b i->∀a d,au i (.cells #[(.int .u8 0)] 5) a d->lp d b fun k=>cl 290 #[(vp k),(.func (.func 295) #[] #[(vp<|some b),(vp<|some a)])] d fun e c=>e=.returned (.tuple #[])/\∃h:Int,c.cell? a=some (.int .u8 h)/\zL c a/\∀f,f=c.setCell a (.int .u8 h)->∃g:Int,f.cell? a=some (.int .u8 g)/\K g f
def jcJ(r1 w0 K)(h:jbS r1 w0 K):
  cl 272 #[(vp r1)] w0<|XV K:=
 cy func272 h<|cd 0<|cd 0<|ld 0<|wT 1 call290<|ld 0<|gv 0<|dx 0<|Ig<|dy
def jar(r1:Option Addr)(b:World)(K:Int->Int->WP):Prop:=Br (Option.isNone r1) (K 0 0 b)<|∃a1,r1=some a1/\∀a,af b ar b ar a->li a (a1.add 2) fun d=>∃a2,r1=some a2/\li a (a2.add 3) fun c=>K d c a
def jcV(r1 w0 K)(h:jar r1 w0 K):
  cl 273 #[(vp r1)] w0<|XH K:=
 dv func273 h<|br 0 4 (rr 3)<|dq 1<|nc 1<|an<|ld 1<|nc 1<|ld 1<|rr 2
def pG(n1:Int):Int:=(cond (decide (n1>2147483647)) (-1)<|q6.wrap n1)
def Nw(n1:Int)(c:World):cl 274 #[(.int .u64 n1)] c (fun e w'=>e=.returned (.int .i64<|pG n1)/\Pure c w'):=
 jr func274 [(decide (n1>2147483647))] (fun b=>(vi<|cond (b 0) (-1)<|q6.wrap n1)) fun a=>pb 0 3 0 a (fun a=>ff 2 a)<|fun a=>ff 4 a
def AS(c b:Int)(a e:Int)(g:ByteArray)(d f:Int):Int:=(cond (((((decide (b<0)) ||(decide (b>=16))) ||(decide (a<0))) ||(decide (a>=16))) ||(((c==8) ||(c==9))&&(b==a))) 50 0)
def jaU(d a:Int)(c o:Int)(q:ByteArray)(n p:Int)(m:World):cl 275 #[(.agg #[(.int .i64 d),(.int .i64 a),(.int .i64 c),(.int .u64 o),(.string q),(.int .i64 n),(.int .i64 p)])] m (fun e w'=>e=.returned (.int .i64<|AS d a c o q n p)/\Pure m w'):=
 jr func275 [(((((decide (a<0)) ||(decide (a>=16))) ||(decide (c<0))) ||(decide (c>=16))) ||(((d==8) ||(d==9))&&(a==c)))] (fun b=>(vi<|cond (b 0) 50 0)) fun l=>nh 0<|pj 1 0 [] [1] (fun b=>[(3,(vb<|(d==8) ||(d==9)))]) (fun r=>lh 1 0 []<|ct 2 4<|pj 0 0 [(d==8)] [1] (fun b=>[(11,(vb<|(b 0) ||(d==9)))]) (fun i=>pb 1 0 0 i (fun i=>pe 4 0 i)<|fun i=>lh 1 0 []<|pe 2 0 i)<|pe 1 0 r)<|pj 0 0 [((((decide (a<0)) ||(decide (a>=16))) ||(decide (c<0))) ||(decide (c>=16)))] [] (fun b=>[(39,(vb<|(b 0) ||(((d==8) ||(d==9))&&(a==c))))]) (fun j=>lh 1 0 [1]<|ct 2 4<|pj 0 0 [(decide (a<0))] [1,3] (fun b=>[(19,(vb<|(b 0) ||(decide (a>=16))))]) (fun k=>pb 1 0 0 k (fun k=>pe 4 0 k)<|fun k=>lh 1 0 [1]<|pe 2 0 k)<|ct 1 4<|pj 0 0 [((decide (a<0)) ||(decide (a>=16)))] [1,3] (fun b=>[(24,(vb<|(b 0) ||(decide (c<0))))]) (fun h=>pb 1 0 0 h (fun h=>pe 4 0 h)<|fun h=>lh 1 0 [2]<|pe 2 0 h)<|ct 1 4<|pj 0 0 [(((decide (a<0)) ||(decide (a>=16))) ||(decide (c<0)))] [1,3] (fun b=>[(29,(vb<|(b 0) ||(decide (c>=16))))]) (fun g=>pb 1 0 0 g (fun g=>pe 4 0 g)<|fun g=>lh 1 0 [2]<|pe 2 0 g)<|pb 1 1 0 j (fun j=>pe 9 0 j)<|fun j=>ct 2 6<|pj 0 0 [((d==8) ||(d==9))] [30] (fun b=>[(38,(vb<|(b 0)&&(a==c)))]) (fun f=>pb 1 0 0 f (fun f=>lh 1 0 [1]<|lh 1 0 [2]<|pe 2 0 f)<|fun f=>pe 6 0 f)<|pe 1 0 j)<|pb 0 0 0 l (fun l=>ff 2 l)<|fun l=>ff 2 l
def Ck(d:Option Addr)(n:Addr)(H:NP)(w:World)(K:Int->WP):Prop:=∃o s i dF f h j,Row w n (Ab o s i dF f h j)/\cl 127 #[(vp d),(.agg #[(vi o),(vi s),(vi i),(vu dF),(vs f),(vi h),(vi j)])] w fun e a=>∃u g,e=.returned (.tuple #[(vi u),(vb g)])/\aj H w a/\Br g (K 72 a) (∃k l m p r q dP,Row a n (Ab k l m p r q dP)/\cl 132 #[(vp d),(.agg #[(vi k),(vi l),(vi m),(vu p),(vs r),(vi q),(vi dP)])] a (XH fun t c b=>aj H a b/\K c b))
def Fb(c:Option Addr)(a:Addr)(H:NP)(w:World)(K:Int->WP):Prop:=∃d,w.cell? (a.add 11)=some (vi d)/\Br (decide (d>1)) (∃e,w.cell? (a.add 10)=some (vu e)/\zL w (a.add 6)/\¬H (a.add 6).block/\∀b,b=w.setCell (a.add 6) (vi<|q6.wrap<|IntKind.u64.wrap<|e+1)->Ck c a H b K) (Ck c a H w K)
def Ax(c:Option Addr)(a:Addr)(f:Bool)(H:NP)(w:World)(K:Int->WP):Prop:=Br f (K 71 w)<|∃d,w.cell? (a.add 11)=some (vi d)/\Br (decide (d>0)) (∃e,w.cell? (a.add 9)=some (vu e)/\zL w (a.add 5)/\¬H (a.add 5).block/\∀b,b=w.setCell (a.add 5) (vi<|q6.wrap<|IntKind.u64.wrap<|e+1)->Fb c a H b K) (Fb c a H w K)
def Dm(d:Option Addr)(a:Addr)(f:Int)(e:Bool)(H:NP)(w:World)(K:Int->WP):Prop:=Br e (Ax d a true H w K)<|∃c,w.cell? (a.add 11)=some (vi c)/\Br (decide (c>1)) (∃b,w.cell? (a.add 10)=some (vu b)/\Ax d a (decide (b>=(IntKind.u64.wrap f))) H w K) (Ax d a false H w K)
def QA(y:Option Addr)(r1:Option Addr)(d:Addr)(N:Sl)(F:Int)(R:World)(a:NP)(h:World)(I:Int->NP->WP)(K:Int->WP):Prop:=Br (decide (F<(N.len:Int))) (∃a1:Addr,At N F 2 a1/\∃c:Value,∃b:Value,Row h a1 [c,b]/\∀q A,au h (.cells #[(.nilFunc:Value),(.nilFunc:Value)] 255) q A->([c,b].all vG=true/\∀j,j<2->zL A (q.add j))/\¬a q.block/\∀v,v=bb A q [c,b]->∃Q:Value,v.cell? (q.add 1)=some Q/\∃(x:FuncId) (p o:Array Value),Q=.func (.func x) p o/\(∀args w,(callFunc x args).run prog w=.ok (.enter x args) w)/\Calls prog x (p++#[(vp r1),(vp<|some d)]++o) v fun e M=>e=.returned (.tuple #[])/\aj a v M/\I (q6.wrap<|F+1) a M) (cl 273 #[(vp r1)] h fun e r=>∃r3 T,e=.returned (.tuple #[(vi r3),(vi T)])/\aj a h r/\Br (r3 !=0) (K r3 r) (∃l:WP,l r.drew/\∀t,t=r.drew->∃P,t.cell? (d.add 7)=some (vu P)/\∃S,(∀w',l w'->w'.cell? (d.add 8)=some (vu S))/\cl 274 #[(vu P)] t fun e s=>∃L,e=.returned (vi L)/\l s/\aj a t s/\cl 274 #[(vu S)] s fun e u=>∃O,e=.returned (vi O)/\l u/\aj a s u/\zL u (d.add 1)/\¬a (d.add 1).block/\∀k,k=u.setCell (d.add 1) (vi L)->l k/\zL k (d.add 2)/\¬a (d.add 2).block/\∀i,i=k.setCell (d.add 2) (vi O)->∃G z H E D C J,Row i d (Ab G z H E D C J)/\Br (((AS G z H E D C J):Int) !=0) (∀f,af R a i a f->K (AS G z H E D C J) f) (∀f,af R a i a f->cl 136 #[(vp y)] f (XB fun B g=>aj a f g/\∃m,g.cell? (d.add 11)=some (vi m)/\Br (decide (m>0)) (∃n,g.cell? (d.add 9)=some (vu n)/\Dm y d B (decide (n>=(IntKind.u64.wrap B))) a g K) (Dm y d B false a g K)))))
def Uy(o:Option Addr)(r1:Option Addr)(b:Option Nat)(h:World)(K:Int->WP):Prop:=cl 272 #[(vp r1)] h<|XV fun r2 n=>aj ar h n/\∀i d,au n (.cells #[(vi<|q6.wrap r2),(vi 0),(vi 0),(vu 0),ve,(vi 0),(vi 0),(vu 0),(vu 0),(vu 0),(vu 0),(vi 0)] 314) i d->∃m,d.cell? i=some (vi m)/\∃l:Sl,∃e,(Instr.lookup 249 (.map b) (vi m) true).run prog d=.ok (.tuple #[l.v,(vb e)]) d/\Br (!e) (K 70 d) (∃(k:Int->NP->WP) (g:Int->World->Nat),k 0 ar d/\∀(j:Int) (c:NP) (a:World),af h c a c a->k j c a->QA o r1 i l j h c a (fun f p w'=>k f p w'/\g f w'<g j a) K)
def w_H(aM r1 kinds1 w0 K)(h:Uy aM r1 kinds1 w0 K):
  cl 185 #[(vp aM),(vp r1),(.map kinds1)] w0<|XB K:=
 dv func185 h<|du 2 call272<|my 3<|ld 6<|dt<|rn 0<|br 0 7 (rr 2)<|td 4 [0,1,7,38,39] (fun e=>[(40,(vi e))])<|fun {_ _ e}=>fun m=>br 0 1 (ix 1<|dt<|lr 0<|my 0<|TG 0<|ld 1<|fo<|fun c=>cv 2 c<|rt<|ie<|je 2 0 m)<|il 2 call273<|br 0 7 (rr 3)<|dC 1 [6,11,15,19] [19]<|sC 5<|ik 3<|kr 0 call274<|kr 0 call274<|UQ 3<|np 3<|cf<|fun {l q j o k p}=>xe<|fun {n}=>lr 3<|cp 0 call275 (jaU l q j o k p n)<|br 0 3 (an<|rr 3)<|an<|du 2 call136<|jk 2 0 [0,7] (fun a=>[(114,(vb a))]) (fun a H w=>Ax _ _ a H w _) (fun d=>ld 3<|ct 2 7<|jk 0 0 [0,7,15] (fun b=>[(99,(vb b))]) (fun b H w=>Dm _ _ _ b H w _) (fun i=>br 1 0 (ld 3<|je 3 0 i)<|je 7 0 i)<|fun {b}=>br 1 1 (je 14 0 d)<|ld 3<|br 1 2 (ld 3<|je 4 0 d)<|je 8 0 d)<|fun {a}=>br 0 0 (rr 2)<|ld 4<|KI 1 0 [0,7] ([]) (fun H w=>Fb _ _ H w _) (fun f=>br 0 0 (ld 5<|np 5<|je 0 0 f)<|je 1 0 f)<|ld 3<|KI 1 0 [0,7] ([]) (fun H w=>Ck _ _ H w _) (fun g=>br 0 0 (ld 5<|np 5<|je 0 0 g)<|je 1 0 g)<|cf<|xe<|lr 4<|il 0 call127<|br 0 6 (rr 2)<|cf<|xe<|lr 5<|il 0 call132<|rr 7
def KG(r1:Option Addr)(r2:Option Addr)(r3:Option Nat)(c:Sl)(s:World)(a:NP)(x:World)(L:Sl->NP->WP)(K:(Option Addr)->Int->Int->WP):Prop:=cl 183 #[(vp r2)] x fun e C=>∃M,e=.returned (vi M)/\aj a x C/\Br (decide (M>0)) (cl 184 #[(vp r2)] C fun e F=>∃E,e=.returned (vi E)/\aj a C F/\cl 185 #[(vp r1),(vp r2),(.map r3)] F (XB fun O G=>aj a F G/\Br (O !=0) (K none O E G) (∀N I,au G (.cells #[(vi E)] 3) N I->∃s1:Sl,∃H:World,(Builtin.append_ #[42,42] 42 #[c.v,(Sl.mk (some N) 1 1).v]).run prog I=.ok s1.v H/\aj a I H/\L s1 a H))) (∀i J,au C (.cells #[(vi 0)] 3) i J->zL J i/\¬a i.block/\∀p,p=J.setCell i (vi 0)->cl 136 #[(vp r1)] p fun e m=>∃P,e=.returned (vi P)/\aj a p m/\cl 131 #[(vp r1),(vi P)] m fun e j=>∃Q:Value,e=.returned Q/\aj a m j/\∃(D:FuncId) (z:Array Value),Q=.func (.func D) #[] z/\(∀args w,(callFunc D args).run prog w=.ok (.enter D args) w)/\∃(o:List (Int)) (A:WP),sK prog D z (fun(r:Int)=>#[(vi r)]) o A j/\∃(B l:List (Int)->NP->WP),Bg s A B l (fun _ _ _=>False)/\B [] a j/\(∀(f:List (Int)) (r:Int) (n:NP) (g:World),B f n g->af s n g n g->(∃y,o=f++r ::y)->li g i fun T=>Br (r !=(q6.wrap<|T+1)) (aj n g g/\l (f++[r]) n g)<|li g i fun R=>zL g i/\¬ar i.block/\∀q,q=g.setCell i (vi<|q6.wrap<|R+1)->aj n g q/\B (f++[r]) n q)/\∀h d,af s h d h d->(∀b,a b->h b)->aj a j d->(B o h d\/∃az,l az h d)->li d i fun U=>Br (decide (U<(c.len:Int))) (∀k,af s h d h k->li k i fun S=>∃a1:Addr,At c S 1 a1/\li k a1 fun V=>∀t,af s h k h t->K none 73 V t)<|∀u,af s h d h u->K r1 0 0 u)
def NT(b1:Sl)(d:World)(K:(Option Addr)->Int->Int->WP):Prop:=Br (decide ((b1.len:Int)>4096)) (K none 1 0 d)<|Br (((b1.len:Int):Int)==0) (K none 3 0 d)<|cl 42 #[] d fun e h=>∃r1,e=.returned (vp r1)/\aj ar d h/\cl 182 #[b1.v] h fun e i=>∃r2,e=.returned (vp r2)/\aj ar h i/\cl 164 #[] i fun e k=>∃r3:Option Nat,e=.returned (.map r3)/\aj ar i k/\∃(j:Sl->NP->WP) (g:Sl->World->Nat),j Sl.nil ar k/\∀(a:Sl) (c:NP) (b:World),af d c b c b->j a c b->KG r1 r2 r3 a d c b (fun f l w'=>j f l w'/\g f w'<g a b) K
def jaG(b1 w0 K)(h:NT b1 w0 K):
  cl 135 #[b1.v] w0<|XY K:=by
 refine cw (args:=[b1.v]) func135 ntmps135 ?_
 have⟨hs,a⟩:=sr w0
 refine eg (qc<|ln<|GA rfl (fun _ _ _ h=>h) (zK<|vP<|eg<|qd<|ln<|ib h ?_ ?_))<;>intro h
 refine eg<|qc<|ln<|er<|rJ<|l0<|BR (.inl rfl) results135 (v:=(vp none)) Kf (v':=(vi 1)) Kf (v'':=(vi 0)) Kf ⟨none,1,0,rfl,h⟩
 refine eg (qd<|ln<|ib h ?_ ?_)<;>intro h
 refine eg<|qc<|ln<|er<|rJ<|l0<|BR (.inl rfl) results135 (v:=(vp none)) Kf (v':=(vi 3)) Kf (v'':=(vi 0)) Kf ⟨none,3,0,rfl,h⟩
 refine zW<|pO<|yZ<|eg<|sc call42 (h.mono fun e w1 ⟨r1,k,d,h⟩=>have⟨hs,a⟩:=d.hh hs a;⟨_,k,?_⟩)
 refine q<|ln<|eg<|q<|sc call182 (h.mono fun e w2 ⟨r2,k,d,h⟩=>have⟨hs,a⟩:=d.hh hs a;⟨_,k,?_⟩)
 refine q<|ln<|eg<|sc call164 (h.mono fun e w3 ⟨r3,k,d,h⟩=>have⟨hs,a⟩:=d.hh hs a;⟨_,k,?_⟩)
 refine q<|ln<|eg<|q<|ln<|zK<|vP ?_
 have⟨I1,I,M,hr⟩:=h
 refine vn (σ:=Sl×NP×World) (fun s ρ w=>w=s.2.2/\ed ρ [(5,(vp r1)),(6,(vp r2)),(7,(.map r3)),(8,s.1.v)]/\af w0 s.2.1 w s.2.1 w/\HB s.2.1 w []/\I1 s.1 s.2.1 s.2.2) (fun s=>I s.1 s.2.2) (Sl.nil,ar,w3) ⟨rfl,hm,hs,a,M⟩ ?_
 rintro⟨c,o,F⟩ ρ w ⟨hw,Y,hs,a,hI⟩
 dsimp only at hw Y hs a;subst w
 have h:=hr c o F hs hI
 refine qS Y<|zK<|eg<|q<|sc call183 (h.mono fun e w4 ⟨r4,k,d,h⟩=>have⟨hs,a⟩:=d.hh hs a;⟨_,k,?_⟩)
 refine q (ln<|ib h ?_ ?_)<;>intro h
 refine zW<|yZ<|vP<|eg<|q<|sc call184 (h.mono fun e w5 ⟨W,k,d,h⟩=>have⟨hs,a⟩:=d.hh hs a;⟨_,k,?_⟩)
 refine q<|ln<|zK<|eg<|qc<|sc call185 (h.mono fun e w6 ⟨X,k,d,h⟩=>have⟨hs,a⟩:=d.hh hs a;⟨_,k,?_⟩)
 refine q (ln<|eg<|qb<|ln<|ib h ?_ ?_)<;>intro h
 refine eg<|q<|qd<|ln<|er<|l0<|rJ<|l0<|rJ<|l0<|BR (.inl rfl) results135 (v:=(vp none)) Kf (v':=(vi X)) Kf (v'':=(vi W)) Kf ⟨none,X,W,rfl,h⟩
 refine zW<|yZ<|rg<|qb<|Fo (fun p=>(Sl.mk (some p) 1 1).v) hs a h fun p1 w7 hs a h=>?_
 have⟨s1,w8,R,d,h⟩:=h
 refine st (v:=s1.v) (qC rfl) (BB (args:=#[c.v,(Sl.mk (some p1) 1 1).v]) Kf (fun _=>rfl) R) ?_
 have⟨hs,a⟩:=d.hh hs a
 refine q<|vJ<|pO<|yZ ⟨(s1,o,w8),⟨rfl,hm,hs,a,h.1⟩,h.2⟩
 refine tQ<|qv<|qv<|wU<|yZ<|eg<|sn (O:=(.cells #[(vi 0)] 3)) (uA (zeroValue3 _) rfl) ?_
 intro p2 w9 r
 have h:=h p2 w9 r
 have⟨hs,a⟩:=hs.nw a r
 refine jy (sizeOf3 _) hs a h fun w10 hs a h=>ln<|zK<|Im<|yZ<|EF<|rg<|q0 (vp r1)<|q0 (vp r1)<|sc call136 (h.mono fun e w11 ⟨r7,k,d,h⟩=>have⟨hs,a⟩:=d.hh hs a;⟨_,k,?_⟩)
 refine sc call131 (h.mono fun e w12 ⟨r8,k,d,h⟩=>have⟨hs,a⟩:=d.hh hs a;⟨_,k,?_⟩)
 refine ln ?_
 have⟨f1,cs1,B,L,h⟩:=h
 have⟨xs1,Rd1,iu,I2,G,T,M,g,h⟩:=h
 refine Er (encs:=(fun(H:Int)=>#[(vi H)])) (Eq.trans (b:=r8) Kf B) L iu (fun _=>rfl) De hs I2 G (fun _ _ _=>False) T M ?ha ?hr ?ht
 case ha =>
  intro l H w19
  refine rg<|q<|ln ⟨rfl,?_⟩
  intro u Y1 U hi Z m
  have h:=g u H Y1 U hi Z m
  have⟨hs,a⟩:=sr U
  refine vP (zK<|eg<|q<|ql (isAgg3 _) h fun v1 h=>qb<|ln<|ib h ?_ ?_)<;>intro h
  refine tQ<|qv<|K5 rfl ?_
  exact UK h
  refine zW<|yZ<|rg<|ql (isAgg3 _) h fun v2 h=>q<|jy (sizeOf3 _) hs a h fun w14 hs a h=>vJ<|pO ?_
  exact DR h
 case hr =>
  intro D1 y t P hD N V x n
  have A:=a.tv x V hD N
  have hs:=P
  have a:=A
  have h:=h y t hs V x n
  refine zK (eg<|ql (isAgg3 _) h fun v3 h=>qc<|ln<|ib h ?_ ?_)<;>intro h
  refine zK<|Eg Kf Kf Kf Kf ?_
  intro j f
  have hs:af w0 y t y j:=by rw[f];exact hs.drew
  have a:dd [(D1,.deferred<|some [])] y j []:=by rw[f];exact a.drew
  refine qq 0 c.v wi<|qg 1 ?_
  have⟨h,hs⟩:=hs.hr<|h j
  have⟨v4,J,h⟩:=h
  refine oz vm (qC rfl) rfl (xl (isAgg3 _) J) (qg 2 ?_)
  have⟨a1,S,h⟩:=h
  refine oz wQ (qC rfl) rfl (xi (runUnderlying42 _) (sizeOf3 _) S) (qg 3 ?_)
  have⟨Q,D,h⟩:=h
  refine oz vq (qC rfl) rfl (xl (isAgg3 _) D) (qq 4 (vp none) wB<|qq 5 (vi 73) wO<|qq 6 (vi Q) wK<|wn<|yZ<|er<|l0<|Ba a.By ?_)
  intro z i
  have C:=a.Co hs i
  have⟨hs,a⟩:=C
  -- tv the loop
  have⟨h,hs⟩:=hs.hr<|h z
  refine BR (.inl rfl) results135 (v:=(vp none)) Kf (v':=(vi 73)) Kf (v'':=(vi Q)) Kf ⟨none,73,Q,rfl,h⟩
  refine zW<|yZ<|eg<|qd<|ln<|er<|Ba a.By ?_
  intro E i
  have C:=a.Co hs i
  have⟨hs,a⟩:=C
  -- tv the loop
  have⟨h,hs⟩:=hs.hr<|h E
  refine BR (.inl rfl) results135 (v:=(vp r1)) Kf (v':=(vi 0)) Kf (v'':=(vi 0)) Kf ⟨r1,0,0,rfl,h⟩
 case ht =>
  intro _ _ _ _ _ _ _ h
  exact h.elim
def Ye(c:Option Addr)(b1:Sl)(b:World)(K:Int->Int->Int->WP):Prop:=Br (Option.isNone c) (K 0 2 0 b)<|cl 135 #[b1.v] b fun e d=>∃r1 r2 r3,e=.returned (.tuple #[(vp r1),(vi r2),(vi r3)])/\Br (r2 !=0) (K 0 r2 r3 d) (cl 136 #[(vp r1)] d fun e i=>∃a,e=.returned (vi a)/\cl 69 #[(vp c),(vp r1),(vi a)] i (XH fun g f h=>K g f 0 h))
def jak(p1 b1 w0 K)(h:Ye p1 b1 w0 K):
  cl 71 #[(vp p1),b1.v] w0<|XJ K:=
 cy func71 h<|br 0 5 (rr 4)<|BS 2 call135<|br 0 9 (rr 6)<|fy 4 call136<|kz 0 call69<|rr 10
def jcS(n2:Int)(b:Sl)(a:World)(d:Int->Sl->WP)(K:Sl->WP):Prop:=Br (decide (n2>=128)) (∃k,(Go.binOp .rem 23 (vu n2)<|vu 128).run prog a=.ok (vu k) a/\∀f j,au a (.cells #[(.int .u8<|IntKind.u8.wrap<|IntKind.u64.wrap<|k+128)] 5) f j->∃i:Sl,∃c:World,(Builtin.append_ #[59,59] 59 #[b.v,(Sl.mk (some f) 1 1).v]).run prog j=.ok i.v c/\∃m,(Go.binOp .quo 23 (vu n2)<|vu 128).run prog c=.ok (vu m) c/\d m i c)<|∀h l,au a (.cells #[(.int .u8<|IntKind.u8.wrap n2)] 5) h l->∃g:Sl,∃e:World,(Builtin.append_ #[59,59] 59 #[b.v,(Sl.mk (some h) 1 1).v]).run prog l=.ok g.v e/\K g e
def Ra(b1:Sl)(n1:Int)(j:World)(K:Sl->WP):Prop:=∀g h,au j (.cells #[] 5) g h->∃s1:Sl,∃i:World,(Builtin.append_ #[59,59] 59 #[(Sl.mk (some g) 0 0).v,b1.v]).run prog h=.ok s1.v i/\∃(f:Int->Sl->WP) (d:Int->Sl->World->Nat),f n1 s1 i/\∀(n2:Int) (a:Sl) (b:World),f n2 a b->jcS n2 a b (fun c e w'=>f c e w'/\d c e w'<d n2 a b) K
def WZ(b1 n1 w0 K)(h:Ra b1 n1 w0 K):
  cl 214 #[b1.v,(vu n1)] w0<|XA K:=
 cy func214 h<|cd 1<|dt<|ef 1<|ev<|Dy 1 [] (fun n2 a=>[(1,(vu n2)),(5,(Sl.v a))])<|fun {_ _ n2 a}=>fun b=>br 0 2 (xe<|rb 3<|cd 2<|dt<|ef 0<|ev<|xe<|rb 2<|de 1 b)<|cd 4<|dt<|ef 0<|ev<|rr 1
def MB(b1:Sl)(s1:ByteArray)(d:World)(K:Sl->WP):Prop:=cl 214 #[b1.v,(vu<|IntKind.u64.wrap (s1.size:Int))] d<|XA fun r1 c=>∃a:Sl,∃b:World,(Builtin.append_ #[59,9] 59 #[r1.v,(vs s1)]).run prog c=.ok a.v b/\K a b
def jch(b1 s1 w0 K)(h:MB b1 s1 w0 K):
  cl 215 #[b1.v,(vs s1)] w0<|XA K:=
 cy func215 h<|fy 5 call214<|dt<|ef 1<|ev<|rr 1
def DZ(s1:Sl)(i1 h g:Int)(b8:Sl)(e:World)(H:NP)(w:World)(c:Sl->Int->NP->WP)(i:Sl->WP):Prop:=Br (((di h):Int)==2) (∃f:Addr,At s1 g 1 f/\∀a,af e H w H a->∃d,a.cell? f=some (vi d)/\cl 214 #[b8.v,(vu<|IntKind.u64.wrap d)] a (XA fun r2 b=>aj H a b/\c r2 (q6.wrap<|i1+1) H b))<|∀a,af e H w H a->c b8 (q6.wrap<|i1+1) H a
def Dh(s1:Sl)(i1 e:Int)(j g:Int)(i:Sl)(d:World)(H:NP)(w:World)(c:Sl->Int->NP->WP)(K:Sl->WP):Prop:=Br (decide ((di e)>=1)) (∃h:Addr,At s1 j 1 h/\∀a,af d H w H a->∃f,a.cell? h=some (vi f)/\cl 214 #[i.v,(vu<|IntKind.u64.wrap f)] a (XA fun r3 b=>aj H a b/\DZ s1 i1 e g r3 d H b c K))<|∀a,af d H w H a->DZ s1 i1 e g i d H a c K
def CS(s1:Sl)(i1 c:Int)(h:ByteArray)(f e:Int)(b6:Sl)(d:World)(H:NP)(w:World)(a:Sl->Int->NP->WP)(K:Sl->WP):Prop:=Br (c==3) (cl 215 #[b6.v,(vs h)] w<|XA fun g b=>aj H w b/\Dh s1 i1 c f e g d H b a K) (Dh s1 i1 c f e b6 d H w a K)
def CU(s1:Sl)(i1 c i:Int)(d:ByteArray)(g f:Int)(b5:Sl)(e:World)(H:NP)(w:World)(b:Sl->Int->NP->WP)(K:Sl->WP):Prop:=Br (c==2) (cl 214 #[b5.v,(vu i)] w<|XA fun h a=>aj H w a/\CS s1 i1 c d g f h e H a b K) (CS s1 i1 c d g f b5 e H w b K)
def Fa(s1:Sl)(i1 f:Int)(l i:Int)(g:ByteArray)(j h:Int)(b3:Sl)(e:World)(H:NP)(w:World)(c:Sl->Int->NP->WP)(K:Sl->WP):Prop:=Br ((f==8) ||(f==9)) (∀b a,af e H w b a->cl 214 #[b3.v,(vu<|IntKind.u64.wrap l)] a (XA fun k d=>aj b a d/\CU s1 i1 f i g j h k e b d c K))<|∀b a,af e H w b a->CU s1 i1 f i g j h b3 e b a c K
def Pw(z:Option Addr)(r1 s1 b1:Sl)(i1:Int)(i:World)(d:NP)(b:World)(j:Sl->Int->NP->WP)(K:Sl->WP):Prop:=Br (decide (i1<(r1.len:Int))) (∃a2,z=some a2/\∃t:Sl,b.cell? a2=some t.v/\¬d a2.block/\∃a3:Addr,At r1 i1 1 a3/\∃y,b.cell? a3=some (vi y)/\¬d a3.block/\∃a4:Addr,At t (q6.wrap<|y-1) 7 a4/\∃h s q o n m r,Row b a4 (Ab h s q o n m r)/\¬d a4.block/\∃a5:Addr,At r1 i1 1 a5/\∀c k,af i d b c k->∃u,k.cell? a5=some (vi u)/\∃l:Addr,At s1 u 1 l/\zL k l/\¬c l.block/\∀x,x=k.setCell l (vi i1)->∀w f,au x (.cells #[(.int .u8<|IntKind.u8.wrap h)] 5) w f->∃p:Sl,∃e:World,(Builtin.append_ #[59,59] 59 #[b1.v,(Sl.mk (some w) 1 1).v]).run prog f=.ok p.v e/\aj c f e/\Br (rz h) (∀a,af i c e c a->cl 214 #[p.v,(vu<|IntKind.u64.wrap s)] a (XA fun A g=>aj c a g/\Fa s1 i1 h q o n m r A i c g j K)) (∀a,af i c e c a->Fa s1 i1 h q o n m r p i c a j K))<|K b1 b
def m_D(h:Option Addr)(m:Int)(f:World)(K:Sl->WP):Prop:=cl 61 #[(vp h),(vi m)] f<|XA fun r1 g=>aj ar f g/\∃a1,h=some a1/\∃i:Sl,g.cell? a1=some i.v/\∃s1:Sl,∃j:World,(Instr.makeSlice 42 (vi<|q6.wrap<|(i.len:Int)+1)<|vi<|q6.wrap<|(i.len:Int)+1).run prog g=.ok s1.v j/\aj ar g j/\∃(k:Sl->Int->NP->WP) (d:Sl->Int->World->Nat),k Sl.nil 0 ar j/\∀(b1:Sl) (i1:Int) (b:NP) (a:World),af f b a b a->k b1 i1 b a->Pw h r1 s1 b1 i1 f b a (fun c e l w'=>k c e l w'/\d c e w'<d b1 i1 a) K
def w_D(p1 t1 w0 K)(h:m_D p1 t1 w0 K):
  cl 157 #[(vp p1),(vi t1)] w0<|XA K:=by
 refine cw (args:=[(vp p1),(vi t1)]) func157 ntmps157 ?_
 have⟨hs,a⟩:=sr w0
 refine eg<|q<|ln<|eg<|qb<|sc call61 (h.mono fun e w1 ⟨r1,k,l,h⟩=>have⟨hs,a⟩:=l.hh hs a;⟨_,k,?_⟩)
 refine q<|ln<|eg<|q<|qm h fun a1 h=>q<|ql (isAgg41 _) h fun v1 h=>qb ?_
 have⟨s1,w2,W,l,h⟩:=h
 refine st (v:=s1.v) (qC rfl) (KY Kf Kf W) ?_
 have⟨hs,a⟩:=l.hh hs a
 refine q<|ln<|eg<|q<|ln<|zK<|eg<|q<|ln<|vP ?_
 have⟨I,f,h0,hr⟩:=h
 refine vn (σ:=Sl×Int×NP×World) (fun s ρ w=>w=s.2.2.2/\ed ρ [(0,(vp p1)),(5,r1.v),(6,s1.v),(7,s.1.v),(8,(vi s.2.1))]/\af w0 s.2.2.1 w s.2.2.1 w/\HB s.2.2.1 w []/\I s.1 s.2.1 s.2.2.1 s.2.2.2) (fun s=>f s.1 s.2.1 s.2.2.2) (Sl.nil,0,ar,w2) ⟨rfl,hm,hs,a,h0⟩ ?_
 rintro⟨b1,i1,u,j⟩ ρ w ⟨hw,m,hs,a,hI⟩
 dsimp only at hw m hs a;subst w
 have h:=hr b1 i1 u j hs hI
 refine qS m (zK<|eg<|qd<|ln<|ib h ?_ ?_)<;>intro h
 refine zW<|yZ<|zK<|vP<|zK<|G7 (fun x=>∃o,af w0 u j o x/\HB o x []) [11,12] [12] Kf Kf Kf Kf ⟨_,hs.drew,a.drew⟩ ?_
 intro w3 V
 have hs:af w0 u j u w3:=by rw[V];exact hs.drew
 have a:HB u w3 []:=by rw[V];exact a.drew
 refine qx 0 (vp p1) wi<|qg 1 ?_
 have⟨a2,hp2,h⟩:=h
 refine sy vm (fun _ _=>xn hp2)<|qx 2 (vp<|some a2) wQ<|qg 3 ?_
 have⟨v2,P,B,h⟩:=h
 refine sy (v:=v2.v) vq (fun w' A=>by have⟨o,D,J⟩:=A;exact(xl (isAgg41 _)<|BQ P B D)) (qx 4 r1.v wB<|qx 5 (vi i1) wO<|qg 6 ?_)
 have⟨a3,Q,h⟩:=h
 refine sy wK (fun _ _=>xi (runUnderlying46 _) (sizeOf73 _) Q)<|qg 7 ?_
 have⟨v3,S,B,h⟩:=h
 refine sy (v:=(vi v3)) yt (fun w' A=>by have⟨o,D,J⟩:=A;exact(xl (isAgg73 _)<|BQ S B D)) (qx 8 (vi<|q6.wrap<|v3-1) xk<|qg 9 ?_)
 have⟨a4,T,h⟩:=h
 refine sy yv (fun _ _=>xi (runUnderlying41 _) (sizeOf119 _) T)<|qg 10 ?_
 have⟨g,F,C,z,y,t,r,hv9,B,h⟩:=h
 refine sy (v:=(Ac g F C z y t r)) (od<|S8<|yV<|yV ni) (fun w' A=>by have⟨o,D,J⟩:=A;exact(xa a4 (Ab g F C z y t r) (isAgg119 _) (sizeOf119 _)<|Ho hv9 B D)) (Ke (fun ρ Y=>∃n:Addr,∃M:NP,af w0 u j M Y/\HB M Y [(n,(Ab g F C z y t r),119)]/\ed ρ [(0,(vp p1)),(5,r1.v),(6,s1.v),(7,b1.v),(8,(vi i1)),(9,(vp<|some n))]) ?_ ?_)
 refine lg 11<|N8 (O:=(.cells #[(vi 0),(vi 0),(vi 0),(vu 0),ve,(vi 0),(vi 0)] 119)) (fun p=>.pointer<|some p) (od<|S8<|yV<|yV<|yV ni) (qC rfl) Kf (uA (zeroValue119 _) rfl) ?_
 intro p4 w7 hn3
 have⟨H3,hs,a⟩:=hs.alloc a hn3
 refine⟨.inr ⟨_,hs,a.drop 1⟩,?_⟩
 refine lg 12<|HL (od<|S8<|S4 ni) (qC rfl) Kf (xo p4 (Ab g F C z y t r) (sizeOf119 _)<|a.k0 0 7 gZ) ?_
 intro w8 hn4
 have⟨hs,a⟩:=a.qn 0 hs hn4 gZ
 refine⟨.inl Kf,?_⟩
 refine wn ⟨p4,_,hs,a,hm⟩
 rintro ρ w6 ⟨n,H2,hs,a,m⟩
 refine Pv m<|yZ<|eg<|qc<|qi (runUnderlying46 _) (sizeOf73 _) h fun a5 h=>?_
 have⟨h,hs⟩:=hs.hr<|h H2 w6
 refine ql (isAgg73 _) h fun v4 h=>q<|qi (runUnderlying42 _) (sizeOf3 _) h fun a6 h=>jy (sizeOf3 _) hs a h fun w9 hs a h=>ln<|eg<|qb<|q3 (xl (isAgg3 _)<|a.d0 0 gZ)<|q<|Fo (fun p=>(Sl.mk (some p) 1 1).v) hs a h fun p5 w10 hs a h=>?_
 have⟨s2,w11,hv5,l,h⟩:=h
 refine st (v:=s2.v) (qC rfl) (BB (args:=#[b1.v,(Sl.mk (some p5) 1 1).v]) Kf (fun _=>rfl) hv5) ?_
 have⟨hs,a⟩:=l.hh hs a
 refine q<|ln<|zK<|eg<|q<|q3 (xl (isAgg3 _)<|a.d0 0 gZ)<|sc call116<|(IP g w11).mono ?_
 rintro e L ⟨R,U⟩
 refine⟨_,R,?_⟩
 have⟨hs,a⟩:=hs.pp a U
 refine ln<|yS (fun ρ w=>∃b3:Sl,∃H:NP,ed ρ [(0,(vp p1)),(5,r1.v),(6,s1.v),(7,b3.v),(8,(vi i1)),(9,(vp<|some n))]/\af w0 H w H w/\HB H w [(n,(Ab g F C z y t r),119)]/\Fa s1 i1 g C z y t r b3 w0 H w (fun b c o w'=>I b c o w'/\f b c w'<f b1 i1 j) K) ?_ ?_
 rintro ρ w ⟨b3,H,m,hs,a,h⟩
 refine qS m<|zK<|zK<|Jb (fun ρ Y=>∃E:Bool,∃M:NP,((g==8)=E)/\af w0 H w M Y/\HB M Y [(n,(Ab g F C z y t r),119)]/\ed ρ [(0,(vp p1)),(5,r1.v),(6,s1.v),(7,b3.v),(8,(vi i1)),(9,(vp<|some n)),(65,(vb<|E ||(g==9)))]) ?_ ?_
 refine rg<|q<|q3 (xl (isAgg3 _)<|a.d0 0 gZ)<|qb ?_
 rcases GM (g==8)with i|i
 refine sj3 61 i<|q2 (vb true) (xT i)<|ln ⟨true,_,i,hs,a,hm⟩
 refine qk 61 i<|q4 61 i (xl (isAgg3 _)<|a.d0 0 gZ)<|qk 61 i<|q2 (vb<|g==9) (xF i)<|ln ⟨false,_,i,hs,a,hm⟩
 rintro ρ X ⟨E,Z,he0,hs,a,m⟩
 subst he0
 refine Gc m<|yZ<|yS (fun ρ w=>∃b5:Sl,∃H:NP,ed ρ [(0,(vp p1)),(5,r1.v),(6,s1.v),(7,b5.v),(8,(vi i1)),(9,(vp<|some n))]/\af w0 H w H w/\HB H w [(n,(Ab g F C z y t r),119)]/\CU s1 i1 g z y t r b5 w0 H w (fun b c o w'=>I b c o w'/\f b c w'<f b1 i1 j) K) ?_ ?_
 rintro ρ w ⟨b5,H,m,hs,a,h⟩
 refine qS m<|zK<|eg<|q<|q3 (xl (isAgg3 _)<|a.d0 0 gZ)<|q<|ln<|yS (fun ρ w=>∃b6:Sl,∃H:NP,ed ρ [(0,(vp p1)),(5,r1.v),(6,s1.v),(7,b6.v),(8,(vi i1)),(9,(vp<|some n))]/\af w0 H w H w/\HB H w [(n,(Ab g F C z y t r),119)]/\CS s1 i1 g y t r b6 w0 H w (fun b c o w'=>I b c o w'/\f b c w'<f b1 i1 j) K) ?_ ?_
 rintro ρ w ⟨b6,H,m,hs,a,h⟩
 refine qS m<|zK<|eg<|q<|q3 (xl (isAgg3 _)<|a.d0 0 gZ)<|q<|ln<|yS (fun ρ w=>∃b7:Sl,∃H:NP,ed ρ [(0,(vp p1)),(5,r1.v),(6,s1.v),(7,b7.v),(8,(vi i1)),(9,(vp<|some n))]/\af w0 H w H w/\HB H w [(n,(Ab g F C z y t r),119)]/\Dh s1 i1 g t r b7 w0 H w (fun b c o w'=>I b c o w'/\f b c w'<f b1 i1 j) K) ?_ ?_
 rintro ρ w ⟨b7,H,m,hs,a,h⟩
 refine qS m<|zK<|eg<|q<|q3 (xl (isAgg3 _)<|a.d0 0 gZ)<|sc call65<|(qu g w).mono ?_
 rintro e N ⟨R,U⟩
 refine⟨_,R,?_⟩
 have⟨hs,a⟩:=hs.pp a U
 refine q<|ln<|yS (fun ρ w=>∃b8:Sl,∃H:NP,ed ρ [(0,(vp p1)),(5,r1.v),(6,s1.v),(7,b8.v),(8,(vi i1)),(9,(vp<|some n))]/\af w0 H w H w/\HB H w [(n,(Ab g F C z y t r),119)]/\DZ s1 i1 g r b8 w0 H w (fun b c o w'=>I b c o w'/\f b c w'<f b1 i1 j) K) ?_ ?_
 rintro ρ w ⟨b8,H,m,hs,a,h⟩
 refine qS m<|eg<|q<|q3 (xl (isAgg3 _)<|a.d0 0 gZ)<|sc call65<|(qu g w).mono ?_
 rintro e G ⟨R,U⟩
 refine⟨_,R,?_⟩
 have⟨hs,a⟩:=hs.pp a U
 refine q (ln<|ib h ?_ ?_)<;>intro h
 refine rg<|qc<|q3 (xl (isAgg73 _)<|a.d 0 6 gZ)<|qi (runUnderlying42 _) (sizeOf3 _) h fun a7 h=>?_
 have⟨h,hs⟩:=hs.hr<|h G
 refine ql (isAgg3 _) h fun v5 h=>q<|sc call214 (h.mono fun e w16 ⟨r2,k,l,h⟩=>have⟨hs,a⟩:=l.hh hs a;⟨_,k,?_⟩)
 refine q<|vJ<|pO<|yZ<|rg<|qc<|ln ⟨(r2,(q6.wrap<|i1+1),H,w16),⟨rfl,hm,hs,a.drop 1,h.1⟩,h.2⟩
 refine zW<|pO<|yZ<|rg<|qc<|vJ ?_
 have⟨h,hs⟩:=hs.hr<|h G
 refine yZ ⟨(b8,(q6.wrap<|i1+1),H,G),⟨rfl,hm,hs,a.drop 1,h.1⟩,h.2⟩
 refine ib h ?_ ?_<;>intro h
 refine rg<|qc<|q3 (xl (isAgg73 _)<|a.d 0 5 gZ)<|qi (runUnderlying42 _) (sizeOf3 _) h fun a8 h=>?_
 have⟨h,hs⟩:=hs.hr<|h N
 refine ql (isAgg3 _) h fun v6 h=>q<|sc call214 (h.mono fun e w17 ⟨r3,k,l,h⟩=>have⟨hs,a⟩:=l.hh hs a;⟨_,k,?_⟩)
 refine q<|ln ⟨r3,H,hm,hs,a,h⟩
 refine zW ?_
 have⟨h,hs⟩:=hs.hr<|h N
 refine yZ ⟨b7,H,hm,hs,a,h⟩
 refine ib h ?_ ?_<;>intro h
 refine rg<|qb<|q3 (xl (isAgg9 _)<|a.d 0 4 gZ)<|sc call215 (h.mono fun e w18 ⟨r4,k,l,h⟩=>have⟨hs,a⟩:=l.hh hs a;⟨_,k,?_⟩)
 refine q<|ln ⟨r4,H,hm,hs,a,h⟩
 refine zW<|yZ ⟨b6,H,hm,hs,a,h⟩
 refine ib h ?_ ?_<;>intro h
 refine rg<|qb<|q3 (xl (isAgg23 _)<|a.d 0 3 gZ)<|sc call214 (h.mono fun e w19 ⟨r5,k,l,h⟩=>have⟨hs,a⟩:=l.hh hs a;⟨_,k,?_⟩)
 refine q<|ln ⟨r5,H,hm,hs,a,h⟩
 refine zW<|yZ ⟨b5,H,hm,hs,a,h⟩
 refine ib h ?_ ?_<;>intro h
 refine rg<|qb<|q3 (xl (isAgg3 _)<|a.d 0 2 gZ)<|q ?_
 have⟨h,hs⟩:=hs.hr<|h Z X
 refine sc call214 (h.mono fun e w20 ⟨r6,k,l,h⟩=>have⟨hs,a⟩:=l.hh hs a;⟨_,k,?_⟩)
 refine q<|ln ⟨r6,Z,hm,hs,a,h⟩
 refine zW ?_
 have⟨h,hs⟩:=hs.hr<|h Z X
 refine yZ ⟨b3,Z,hm,hs,a,h⟩
 refine ib h ?_ ?_<;>intro h
 refine rg<|qb<|q3 (xl (isAgg3 _)<|a.d 0 1 gZ)<|q ?_
 have⟨h,hs⟩:=hs.hr<|h L
 refine sc call214 (h.mono fun e w21 ⟨r7,k,l,h⟩=>have⟨hs,a⟩:=l.hh hs a;⟨_,k,?_⟩)
 refine q<|ln ⟨r7,H2,hm,hs,a,h⟩
 refine zW ?_
 have⟨h,hs⟩:=hs.hr<|h L
 refine yZ ⟨s2,H2,hm,hs,a,h⟩
 refine tQ<|qv<|qv<|wU<|yZ<|eg<|q0 b1.v<|q0 b1.v<|ln<|er<|BL results157 ⟨b1,rfl,h⟩
def NG(a:Option Addr)(c:Int)(f:World)(K:Sl->Int->WP):Prop:=cl 112 #[(vp a),(vi c)] f fun e b=>∃r1,e=.returned (vb r1)/\Br (!r1) (K Sl.nil 51 b) (cl 157 #[(vp a),(vi c)] b<|XA fun r2 d=>Br (decide ((r2.len:Int)>4096)) (K Sl.nil 1 d)<|K r2 0 d)
def jaw(p1 t1 w0 K)(h:NG p1 t1 w0 K):
  cl 102 #[(vp p1),(vi t1)] w0<|XM K:=
 cy func102 h<|fy 4 call112<|br 0 1 (rr 3)<|fy 3 call157<|br 0 4 (rr 3)<|rr 4
def jau(b2:Sl)(n2:Int)(a:World)(c:Sl->Int->WP)(K:Sl->WP):Prop:=Br (decide (n2>=128)) (∃g:Int,(Go.binOp .or 5 (.int .u8<|IntKind.u8.wrap n2)<|.int .u8 128).run prog a=.ok (.int .u8 g) a/\∀e i,au a (.cells #[(.int .u8 g)] 5) e i->∃s1:Sl,∃b:World,(Builtin.append_ #[59,59] 59 #[b2.v,(Sl.mk (some e) 1 1).v]).run prog i=.ok s1.v b/\∃j,(Go.binOp .shr 23 (vu n2)<|vu 7).run prog b=.ok (vu j) b/\c s1 j b)<|∀d k,au a (.cells #[(.int .u8<|IntKind.u8.wrap n2)] 5) d k->∃f:Sl,∃h:World,(Builtin.append_ #[59,59] 59 #[b2.v,(Sl.mk (some d) 1 1).v]).run prog k=.ok f.v h/\K f h
def jcs(b1:Sl)(n1:Int)(f:World)(K:Sl->WP):Prop:=cl 271 #[b1.v] f<|XA fun r1 g=>∃(e:Sl->Int->WP) (c:Sl->Int->World->Nat),e r1 n1 g/\∀(b2:Sl) (n2:Int) (a:World),e b2 n2 a->jau b2 n2 a (fun b d w'=>e b d w'/\c b d w'<c b2 n2 a) K
def jal(b1 n1 w0 K)(h:jcs b1 n1 w0 K):
  cl 250 #[b1.v,(vu n1)] w0<|XA K:=
 cy func250 h<|fy 2 call271<|Dy 1 [] (fun b2 n2=>[(0,(Sl.v b2)),(1,(vu n2))])<|fun {_ _ b2 n2}=>fun a=>br 0 2 (xe<|rb 4<|cd 0<|dt<|ef 0<|ev<|xe<|rb 2<|de 1 a)<|cd 4<|dt<|ef 0<|ev<|rr 1
def jaY(b1:Sl)(h e:Int)(f i:Int)(l:ByteArray)(g j:Int)(k:Option Nat)(b:World)(K:Sl->WP):Prop:=∀c a,af b ar b c a->cl 250 #[b1.v,(vu<|IntKind.u64.wrap e)] a (XA fun r1 d=>aj c a d/\K r1 d)
def Wj(b1 aD aB aC aG aH aI aJ x1 w0 K)(h:jaY b1 aD aB aC aG aH aI aJ x1 w0 K):
  cl 249 #[b1.v,(.agg #[(vi aD),(vi aB),(vi aC),(vu aG),(vs aH),(vi aI),(vi aJ)]),(.map x1)] w0<|XA K:=
 dv func249 h<|nh 0<|lh 3 0 [1]<|ah<|du 1 call250<|rr 1
def jbs(r1:Option Addr)(j:World)(K:Int->WP):Prop:=∀b g,au j (.cells #[(vp r1)] 272) b g->∀a d,au g (.cells #[(vu 0)] 23) a d->lp d b fun k=>cl 290 #[(vp k),(.func (.func 291) #[] #[(vp<|some b),(vp<|some a)])] d fun e c=>e=.returned (.tuple #[])/\lu c a fun i=>zL c a/\∀f,f=c.setCell a (vu i)->lu f a fun h=>K h f
def Q4(r1 w0 K)(h:jbs r1 w0 K):
  cl 252 #[(vp r1)] w0<|XW K:=
 cy func252 h<|cd 0<|cd 0<|ld 0<|wT 1 call290<|ld 0<|gv 0<|dx 0<|Ig<|dy
def Yy(r1:Option Addr)(n1:Option Addr)(c:World)(K:WP):Prop:=cl 252 #[(vp r1)] c<|XW fun r2 b=>∃a1,n1=some a1/\zL b (a1.add 7)/\∀a,a=b.setCell (a1.add 7) (vu r2)->K a
def jaX(r1 n1 w0 K)(h:Yy r1 n1 w0 K):
  cl 251 #[(vp r1),(vp n1)] w0<|fun e w'=>e=.returned (.tuple #[])/\K  w':=
 cy func251 h<|fy 2 call252<|nc 0<|gv 1<|rr 0
def Um(b1:Sl)(g h:Int)(e i:Int)(l:ByteArray)(f j:Int)(k:Option Nat)(b:World)(K:Sl->WP):Prop:=∀c a,af b ar b c a->cl 250 #[b1.v,(vu<|IntKind.u64.wrap e)] a (XA fun r1 d=>aj c a d/\K r1 d)
def jbR(b1 aD aB aC aG aH aI aJ x1 w0 K)(h:Um b1 aD aB aC aG aH aI aJ x1 w0 K):
  cl 253 #[b1.v,(.agg #[(vi aD),(vi aB),(vi aC),(vu aG),(vs aH),(vi aI),(vi aJ)]),(.map x1)] w0<|XA K:=
 dv func253 h<|nh 0<|lh 3 0 [2]<|ah<|du 1 call250<|rr 1
def VZ(r1:Option Addr)(n1:Option Addr)(c:World)(K:WP):Prop:=cl 252 #[(vp r1)] c<|XW fun r2 b=>∃a1,n1=some a1/\zL b (a1.add 8)/\∀a,a=b.setCell (a1.add 8) (vu r2)->K a
def Z9(r1 n1 w0 K)(h:VZ r1 n1 w0 K):
  cl 254 #[(vp r1),(vp n1)] w0<|fun e w'=>e=.returned (.tuple #[])/\K  w':=
 cy func254 h<|fy 2 call252<|nc 0<|gv 1<|rr 0
def jaF(b1:Sl)(h i:Int)(f e:Int)(l:ByteArray)(g j:Int)(k:Option Nat)(b:World)(K:Sl->WP):Prop:=∀c a,af b ar b c a->cl 250 #[b1.v,(vu e)] a (XA fun r1 d=>aj c a d/\K r1 d)
def Q6(b1 aD aB aC aG aH aI aJ x1 w0 K)(h:jaF b1 aD aB aC aG aH aI aJ x1 w0 K):
  cl 255 #[b1.v,(.agg #[(vi aD),(vi aB),(vi aC),(vu aG),(vs aH),(vi aI),(vi aJ)]),(.map x1)] w0<|XA K:=
 dv func255 h<|nh 0<|lh 3 0 [3]<|ah<|du 0 call250<|rr 1
def Zi(r1:Option Addr)(n1:Option Addr)(c:World)(K:WP):Prop:=cl 252 #[(vp r1)] c<|XW fun r2 b=>∃a1,n1=some a1/\zL b (a1.add 3)/\∀a,a=b.setCell (a1.add 3) (vu r2)->K a
def jab(r1 n1 w0 K)(h:Zi r1 n1 w0 K):
  cl 256 #[(vp r1),(vp n1)] w0<|fun e w'=>e=.returned (.tuple #[])/\K  w':=
 cy func256 h<|fy 2 call252<|nc 0<|gv 2<|rr 0
def Pt(b1:Sl)(s1:ByteArray)(d:World)(K:Sl->WP):Prop:=cl 250 #[b1.v,(vu<|IntKind.u64.wrap (s1.size:Int))] d<|XA fun r1 c=>∃a:Sl,∃b:World,(Builtin.append_ #[59,9] 59 #[r1.v,(vs s1)]).run prog c=.ok a.v b/\K a b
def jcw(b1 s1 w0 K)(h:Pt b1 s1 w0 K):
  cl 258 #[b1.v,(vs s1)] w0<|XA K:=
 cy func258 h<|fy 5 call250<|dt<|ef 1<|ev<|rr 1
def VU(b1:Sl)(h i:Int)(f j:Int)(e:ByteArray)(g k:Int)(l:Option Nat)(b:World)(K:Sl->WP):Prop:=∀c a,af b ar b c a->cl 258 #[b1.v,(vs e)] a (XA fun r1 d=>aj c a d/\K r1 d)
def jaL(b1 aD aB aC aG aH aI aJ x1 w0 K)(h:VU b1 aD aB aC aG aH aI aJ x1 w0 K):
  cl 257 #[b1.v,(.agg #[(vi aD),(vi aB),(vi aC),(vu aG),(vs aH),(vi aI),(vi aJ)]),(.map x1)] w0<|XA K:=
 dv func257 h<|nh 0<|lh 3 0 [4]<|ah<|du 0 call258<|rr 1
def WX(r1:Option Addr)(a:Int)(n:World)(K:ByteArray->WP):Prop:=∀c l,au n (.cells #[(vp r1)] 272) c l->∀i m,au l (.cells #[(vi a)] 3) i m->∀b d,au m (.cells #[ve] 9) b d->∃k,d.cell? c=some (vp k)/\cl 290 #[(vp k),(.func (.func 293) #[] #[(vp<|some c),(vp<|some i),(vp<|some b)])] d fun e g=>e=.returned (.tuple #[])/\∃j,g.cell? b=some (vs j)/\zL g b/\∀f,f=g.setCell b (vs j)->∃h,f.cell? b=some (vs h)/\K h f
def WB(r1 most1 w0 K)(h:WX r1 most1 w0 K):
  cl 260 #[(vp r1),(vi most1)] w0<|XS K:=
 cy func260 h<|cd 0<|cd 0<|cd 0<|ld 0<|wT 1 call290<|ld 0<|gv 0<|dx 0<|Ig<|dy
def WK(r1:Option Addr)(n1:Option Addr)(c:World)(K:WP):Prop:=cl 260 #[(vp r1),(vi 64)] c<|XS fun r2 b=>∃a1,n1=some a1/\zL b (a1.add 4)/\∀a,a=b.setCell (a1.add 4) (vs r2)->K a
def jac(r1 n1 w0 K)(h:WK r1 n1 w0 K):
  cl 259 #[(vp r1),(vp n1)] w0<|fun e w'=>e=.returned (.tuple #[])/\K  w':=
 cy func259 h<|fy 2 call260<|nc 0<|gv 2<|rr 0
def Zk(b1:Sl)(i j:Int)(h k:Int)(m:ByteArray)(g l:Int)(a:Option Nat)(c:World)(K:Sl->WP):Prop:=∀e b,af c ar c e b->∃d,(Instr.lookup 231 (.map a) (vi g) false).run prog b=.ok (vi d) b/\cl 250 #[b1.v,(vu<|IntKind.u64.wrap d)] b (XA fun r1 f=>aj e b f/\K r1 f)
def Yr(b1 aD aB aC aG aH aI aJ number1 w0 K)(h:Zk b1 aD aB aC aG aH aI aJ number1 w0 K):
  cl 261 #[b1.v,(.agg #[(vi aD),(vi aB),(vi aC),(vu aG),(vs aH),(vi aI),(vi aJ)]),(.map number1)] w0<|XA K:=
 dv func261 h<|nh 0<|lh 4 0 [5]<|ah<|xe<|rn 0<|du 1 call250<|rr 1
def jct(r1:Option Addr)(n1:Option Addr)(d:World)(K:WP):Prop:=cl 252 #[(vp r1)] d<|XW fun r2 c=>∃a1,n1=some a1/\zL c (a1.add 9)/\∀a,a=c.setCell (a1.add 9) (vu r2)->∃a2,n1=some a2/\zL a (a2.add 11)/\∀b,b=a.setCell (a2.add 11) (vi 1)->K b
def TW(r1 n1 w0 K)(h:jct r1 n1 w0 K):
  cl 262 #[(vp r1),(vp n1)] w0<|fun e w'=>e=.returned (.tuple #[])/\K  w':=
 cy func262 h<|fy 3 call252<|nc 0<|gv 1<|nc 0<|gv 1<|rr 0
def Sr(b1:Sl)(j k:Int)(h l:Int)(m:ByteArray)(i g:Int)(a:Option Nat)(c:World)(K:Sl->WP):Prop:=∀e b,af c ar c e b->∃d,(Instr.lookup 231 (.map a) (vi g) false).run prog b=.ok (vi d) b/\cl 250 #[b1.v,(vu<|IntKind.u64.wrap d)] b (XA fun r1 f=>aj e b f/\K r1 f)
def Uu(b1 aD aB aC aG aH aI aJ number1 w0 K)(h:Sr b1 aD aB aC aG aH aI aJ number1 w0 K):
  cl 263 #[b1.v,(.agg #[(vi aD),(vi aB),(vi aC),(vu aG),(vs aH),(vi aI),(vi aJ)]),(.map number1)] w0<|XA K:=
 dv func263 h<|nh 0<|lh 4 0 [6]<|ah<|xe<|rn 0<|du 1 call250<|rr 1
def jcI(r1:Option Addr)(n1:Option Addr)(d:World)(K:WP):Prop:=cl 252 #[(vp r1)] d<|XW fun r2 c=>∃a1,n1=some a1/\zL c (a1.add 10)/\∀a,a=c.setCell (a1.add 10) (vu r2)->∃a2,n1=some a2/\zL a (a2.add 11)/\∀b,b=a.setCell (a2.add 11) (vi 2)->K b
def UV(r1 n1 w0 K)(h:jcI r1 n1 w0 K):
  cl 264 #[(vp r1),(vp n1)] w0<|fun e w'=>e=.returned (.tuple #[])/\K  w':=
 cy func264 h<|fy 3 call252<|nc 0<|gv 1<|nc 0<|gv 1<|rr 0
def Na(r1:Option Addr)(h:World)(H:NP)(w:World)(K:Option (List PanicEntry)->Int->WP):Prop:=∃a3,r1=some a3/\li w (a3.add 1) fun i=>∃a4,r1=some a4/\zL w (a4.add 1)/\¬H (a4.add 1).block/\∀c,c=w.setCell (a4.add 1) (vi<|q6.wrap<|i+1)->∃a5,r1=some a5/\∀a,af h H c H a->lx a a5 fun f=>∃e,r1=some e/\li a (e.add 1) fun g=>∃d:Addr,At f (q6.wrap<|g-1) 1 d/\∃b:Int,a.cell? d=some (.int .u8 b)/\K none b a
def jaC(r1:Option Addr)(b:World)(K:Option (List PanicEntry)->Int->WP):Prop:=∃a1,r1=some a1/\∀a,af b ar b ar a->li a (a1.add 1) fun d=>∃a2,r1=some a2/\lx a a2 fun c=>Br (d==(c.len:Int)) (K (some [{ v:=(.iface 334<|vi 3),recovered:=false }]) 0 a)<|Na r1 b ar a K
def jcg(r1 w0 K)(h:jaC r1 w0 K):
  cl 296 #[(vp r1)] w0<|fun e w'=>(∃r2:Int,e=.returned (.int .u8 r2)/\K none r2 w')\/∃x,e=.panicked x/\K (some x) 0 w':=by
 refine xL (args:=[(vp r1)]) func296 rfl ntmps296 (Nat.le_of_ble_eq_true rfl) ?_
 have⟨hs,a⟩:=sr w0
 refine eg<|q<|ln<|zK<|zK<|Eg Kf Kf Kf Kf ?_
 intro r b
 have hs:af w0 ar w0 ar r:=by rw[b];exact hs.drew
 have a:HB ar r []:=by rw[b];exact a.drew
 refine qq 0 (vp r1) wi<|qg 1 ?_
 have⟨a1,j,h⟩:=h
 refine oz vm (qC rfl) rfl (xn j) (qq 2 (vp<|some<|a1.add 1) wQ<|qg 3 ?_)
 have⟨h,hs⟩:=hs.hr<|h r
 have⟨B,m,h⟩:=h
 refine oz vq (qC rfl) rfl (xl (isAgg3 _) m) (qq 4 (vp r1) wB<|qg 5 ?_)
 have⟨a2,k,h⟩:=h
 refine oz wO (qC rfl) rfl (xn k) (qq 6 (vp<|some a2) wK<|qg 7 ?_)
 have⟨u,s,h⟩:=h
 refine oz yt (qC rfl) rfl (xl (isAgg59 _) s) (qq 8 (vi (u.len:Int)) xk<|qq 9 (vb<|B==(u.len:Int)) yv<|wn<|yZ<|yS (fun ρ w=>∃H:NP,ed ρ [(0,(vp r1))]/\af w0 H w H w/\HB H w []/\Na r1 w0 H w K) ?_ ?_)
 rintro ρ w ⟨H,y,hs,a,h⟩
 refine qS y<|eg<|q<|qm h fun a3 h=>q<|ql (isAgg3 _) h fun G h=>q<|qm h fun a4 h=>q<|jy (sizeOf3 _) hs a h fun C hs a h=>ln<|zK<|Eg Kf Kf Kf Kf ?_
 intro l d
 have hs:af w0 H C H l:=by rw[d];exact hs.drew
 have a:HB H l []:=by rw[d];exact a.drew
 refine qq 0 (vp r1) wi<|qg 1 ?_
 have⟨a5,o,h⟩:=h
 refine oz vm (qC rfl) rfl (xn o) (qq 2 (vp<|some a5) wQ<|qg 3 ?_)
 have⟨h,hs⟩:=hs.hr<|h l
 have⟨F,t,h⟩:=h
 refine oz vq (qC rfl) rfl (xl (isAgg59 _) t) (qq 4 (vp r1) wB<|qg 5 ?_)
 have⟨A,n,h⟩:=h
 refine oz wO (qC rfl) rfl (xn n) (qq 6 (vp<|some<|A.add 1) wK<|qg 7 ?_)
 have⟨D,i,h⟩:=h
 refine oz yt (qC rfl) rfl (xl (isAgg3 _) i) (qq 8 (vi<|q6.wrap<|D-1) xk<|qg 9 ?_)
 have⟨E,g,h⟩:=h
 refine oz yv (qC rfl) rfl (xi (runUnderlying59 _) (sizeOf5 _) g) (qg 10 ?_)
 have⟨f,p,h⟩:=h
 refine oz (od<|S8<|yV<|yV ni) (qC rfl) rfl (xl (isAgg5 _) p) (qq 11 (.int .u8 f) (od<|S8<|yV<|yV<|yV ni)<|wn<|yZ<|er<|ep<|BL results296 (v:=(.int .u8 f)) ?_)
 exact .inl ⟨f,rfl,h⟩
 refine ib h ?_ ?_<;>intro h
 refine qU Kf<|qO 1<|q0 (.iface 334<|vi 3)<|vJ<|Ct (qC rfl) (by intro c z;cases z) (Cz Kf) fun I=>.inr ⟨_,rfl,h⟩
 refine zW<|yZ ⟨ar,hm,hs,a,h⟩
def Gl(n1 i1 r2:Int)(w:World)(a:Int->Int->WP)(K:Option (List PanicEntry)->Int->WP):Prop:=∃d:Int,(Go.binOp .and 5 (.int .u8 r2)<|.int .u8 127).run prog w=.ok (.int .u8 d) w/\∃c,(Go.binOp .shl 23 (vu<|IntKind.u64.wrap d)<|vi<|q6.wrap<|7*i1).run prog w=.ok (vu c) w/\∃b,(Go.binOp .or 23 (vu n1)<|vu c).run prog w=.ok (vu b) w/\Br (decide (r2<128)) (Br ((r2==0)&&(decide (i1>0))) (K (some [{ v:=(.iface 334<|vi 10),recovered:=false }]) 0 w)<|K none b w) (a b (q6.wrap<|i1+1) w)
def V3(r1:Option Addr)(n1 i1:Int)(c:World)(a:Int->Int->WP)(K:Option (List PanicEntry)->Int->WP):Prop:=cl 296 #[(vp r1)] c fun e b=>(∃r2:Int,e=.returned (.int .u8 r2)/\Br ((i1==9)&&(decide (r2>1))) (K (some [{ v:=(.iface 334<|vi 11),recovered:=false }]) 0 b) (Gl n1 i1 r2 b a K))\/∃d,e=.panicked d/\K (some d) 0 b
def jbN(r1:Option Addr)(f:World)(K:Option (List PanicEntry)->Int->WP):Prop:=∃(e:Int->Int->WP) (c:Int->Int->World->Nat),e 0 0 f/\∀(n1 i1:Int) (a:World),e n1 i1 a->V3 r1 n1 i1 a (fun b d w'=>e b d w'/\c b d w'<c n1 i1 a) K
def jai(r1 w0 K)(h:jbN r1 w0 K):
  cl 292 #[(vp r1)] w0<|fun e w'=>(∃r3,e=.returned (vu r3)/\K none r3 w')\/∃m,e=.panicked m/\K (some m) 0 w':=by
 refine xL (args:=[(vp r1)]) func292 rfl ntmps292 (Nat.le_of_ble_eq_true rfl) (eg<|q0 (vu 0)<|ln<|eg<|q0 (vu 0)<|ln<|zK<|rg<|q<|ln<|vP ?_)
 have⟨z,i,C,hr⟩:=h
 refine vn (σ:=Int×Int×World) (fun s ρ w=>w=s.2.2/\ed ρ [(0,(vp r1)),(3,(vu s.1)),(4,(vi s.2.1))]/\z s.1 s.2.1 s.2.2) (fun s=>i s.1 s.2.1 s.2.2) (0,0,w0) ⟨rfl,hm,C⟩ ?_
 rintro⟨n1,i1,k⟩ ρ w ⟨o,g,E⟩
 dsimp only at o g;subst w
 have h:=hr n1 i1 k E
 refine qS g<|zK<|vP<|zK<|qU Kf<|qO 1<|q0 (vp r1)<|vJ<|AV (qC rfl) (by intro c n;cases n) (xc call296)<|h.mono fun e D hh=>hh.elim ?_ (by rintro⟨m,rfl,h⟩;exact .inr ⟨m,rfl,fun A=>.inr ⟨m,rfl,h⟩⟩)
 rintro⟨r2,rfl,h⟩
 refine .inl ⟨_,rfl,?_⟩
 refine DC<|q0 (.int .u8 r2)<|ln<|zK<|zK<|Jb (fun ρ x=>∃f:Bool,((i1==9)=f)/\D=x/\ed ρ [(0,(vp r1)),(3,(vu n1)),(4,(vi i1)),(5,(.int .u8 r2)),(15,(vb<|f&&(decide (r2>1))))]) ?_ ?_
 refine rg<|qc ?_
 rcases GM (i1==9)with b|b
 refine qk 12 b<|qk 12 b<|q2 (vb<|decide (r2>1)) (xT b)<|ln ⟨true,b,rfl,hm⟩
 refine FM 12 b<|q2 (vb false) (xF b)<|ln ⟨false,b,rfl,hm⟩
 rintro ρ H ⟨f,j,o,g⟩
 subst j
 subst o
 refine Gc g<|yZ<|yS (fun ρ w=>ed ρ [(0,(vp r1)),(3,(vu n1)),(4,(vi i1)),(5,(.int .u8 r2))]/\Gl n1 i1 r2 w (fun l p w'=>z l p w'/\i l p w'<i n1 i1 k) K) ?_ ?_
 rintro ρ w ⟨g,h⟩
 refine qS g<|eg<|qb ?_
 have⟨F,u,h⟩:=h
 refine q2 (.int .u8 F) (C6 Kf Kf Kf u)<|qc ?_
 have⟨B,t,h⟩:=h
 refine q2 (vu B) (C6 Kf Kf Kf t) ?_
 have⟨r,y,h⟩:=h
 refine q2 (vu r) (C6 Kf Kf Kf y) (q<|ln<|eg<|qb<|ln<|ib h ?_ ?_)<;>intro h
 refine zK<|zK<|Jb (fun ρ x=>∃d:Bool,((r2==0)=d)/\w=x/\ed ρ [(3,(vu r)),(32,(vb<|d&&(decide (i1>0))))]) ?_ ?_
 refine rg<|qc ?_
 rcases GM (r2==0)with a|a
 refine qk 29 a<|qk 29 a<|q2 (vb<|decide (i1>0)) (xT a)<|ln ⟨true,a,rfl,hm⟩
 refine FM 29 a<|q2 (vb false) (xF a)<|ln ⟨false,a,rfl,hm⟩
 rintro ρ G ⟨d,j,o,g⟩
 subst j
 subst o
 refine Gc g (yZ<|ib h ?_ ?_)<;>intro h
 refine qU Kf<|qO 1<|q0 (.iface 334<|vi 10)<|vJ<|Ct (qC rfl) (by intro c n;cases n) (Cz Kf) fun A=>.inr ⟨_,rfl,h⟩
 refine zW<|yZ<|eg<|qb<|ln<|er<|rJ<|l0<|l0<|rJ<|ep<|BL results292 (v:=(vu r)) ?_
 exact .inl ⟨r,rfl,h⟩
 refine zW<|pO<|yZ<|rg<|qc<|ln ⟨(r,(q6.wrap<|i1+1),w),⟨rfl,hm,h.1⟩,h.2⟩
 refine ib h ?_ ?_<;>intro h
 refine qU Kf<|qO 1<|q0 (.iface 334<|vi 11)<|vJ<|Ct (qC rfl) (by intro c n;cases n) (Cz Kf) fun A=>.inr ⟨_,rfl,h⟩
 refine zW<|yZ ⟨hm,h⟩
def W8(b a:Addr)(d:World)(K:Option (List PanicEntry)->WP):Prop:=lp d b fun h=>cl 292 #[(vp h)] d fun e c=>(∃r1,e=.returned (vu r1)/\zL c a/\∀g,g=c.setCell a (vu r1)->K none g)\/∃f,e=.panicked f/\K (some f)  c
def jcm(cap1 cap2 w0 K)(h:W8 cap1 cap2 w0 K):
  cl 291 #[(vp<|some cap1),(vp<|some cap2)] w0<|fun e w'=>(e=.returned (.tuple #[])/\K none  w')\/∃a,e=.panicked a/\K (some a)  w':=by
 refine xL (args:=[(vp<|some cap1),(vp<|some cap2)]) func291 rfl ntmps291 (Nat.le_of_ble_eq_true rfl) (qU Kf<|qO 1<|ql (isAgg272 _) h fun d h=>vJ<|AV (qC rfl) (by intro c b;cases b) (xc call292)<|h.mono fun e f hh=>hh.elim ?_ (by rintro⟨a,rfl,h⟩;exact .inr ⟨a,rfl,fun g=>.inr ⟨a,rfl,h⟩⟩))
 rintro⟨r1,rfl,h⟩
 refine .inl ⟨_,rfl,?_⟩
 refine DC<|qn (sizeOf23 _) h fun i h=>vJ<|ep<|wV (.inr rfl) results291 ?_
 exact .inl ⟨rfl,h⟩
def Nq(a c:Addr)(r1:Int)(H:NP)(w:World)(K:Option (List PanicEntry)->WP):Prop:=∃q:WP,q w.drew/\∀b,b=w.drew->∃k,b.cell? a=some (vp k)/\∃a3,k=some a3/\∃l:Sl,b.cell? a3=some l.v/\∃p,b.cell? a=some (vp p)/\∃a4,p=some a4/\∃j,b.cell? (a4.add 1)=some (vi j)/\∃f,b.cell? a=some (vp f)/\∃a5,f=some a5/\∃h,b.cell? (a5.add 1)=some (vi h)/\∃s1:Sl,(Instr.sliceAt 59 l.v (some<|vi j) (some<|vi<|q6.wrap<|h+(q6.wrap r1)) none).run prog b=.ok s1.v b/\∃m,(convert 59 9 s1.v).run prog b=.ok (vs m) b/\zL b c/\¬H c.block/\∀e,e=b.setCell c (vs m)->∃d,e.cell? a=some (vp d)/\∃o,d=some o/\∃g,e.cell? (o.add 1)=some (vi g)/\∃i,d=some i/\zL e (i.add 1)/\¬H (i.add 1).block/\∀n,n=e.setCell (i.add 1) (vi<|q6.wrap<|g+(q6.wrap r1))->K none n
def MX(a c:Addr)(r1:Int)(h:World)(H:NP)(w:World)(K:Option (List PanicEntry)->WP):Prop:=∀b,af h H w H b->∃e,b.cell? a=some (vp e)/\∃a1,e=some a1/\∃g:Sl,b.cell? a1=some g.v/\∃d,b.cell? a=some (vp d)/\∃a2,d=some a2/\∃f,b.cell? (a2.add 1)=some (vi f)/\Br (decide (r1>(IntKind.u64.wrap<|q6.wrap<|(g.len:Int)-f))) (K (some [{ v:=(.iface 334<|vi 3),recovered:=false }])  b) (Nq a c r1 H b K)
def FH(a b:Addr)(r1:Int)(c:Bool)(d:World)(H:NP)(w:World)(K:Option (List PanicEntry)->WP):Prop:=Br c (K (some [{ v:=(.iface 334<|vi 1),recovered:=false }])  w)<|MX a b r1 d H w K
def m_R(a c b:Addr)(f:World)(K:Option (List PanicEntry)->WP):Prop:=∃i,f.cell? a=some (vp i)/\cl 292 #[(vp i)] f fun e d=>(∃r1,e=.returned (vu r1)/\aj ar f d/\∃g,d.cell? c=some (vi g)/\Br (decide (g<0)) (FH a b r1 true f ar d K) (∃h,d.cell? c=some (vi h)/\FH a b r1 (decide (r1>(IntKind.u64.wrap h))) f ar d K))\/∃j,e=.panicked j/\K (some j)  d
def ZQ(cap1 cap2 cap3 w0 K)(h:m_R cap1 cap2 cap3 w0 K):
  cl 293 #[(vp<|some cap1),(vp<|some cap2),(vp<|some cap3)] w0<|fun e w'=>(e=.returned (.tuple #[])/\K none  w')\/∃l,e=.panicked l/\K (some l)  w':=by
 refine xL (args:=[(vp<|some cap1),(vp<|some cap2),(vp<|some cap3)]) func293 rfl ntmps293 (Nat.le_of_ble_eq_true rfl) ?_
 have⟨hs,a⟩:=sr w0
 refine zK<|qU Kf<|qO 1<|ql (isAgg272 _) h fun v1 h=>vJ<|AV (qC rfl) (by intro c m;cases m) (xc call292)<|h.mono fun e w1 hh=>hh.elim ?_ (by rintro⟨l,rfl,h⟩;exact .inr ⟨l,rfl,fun Q=>.inr ⟨l,rfl,h⟩⟩)
 rintro⟨r1,rfl,C,h⟩
 refine .inl ⟨_,rfl,?_⟩
 have⟨hs,a⟩:=C.hh hs a
 refine DC<|q0 (vu r1)<|ln<|zK<|zK<|yS (fun ρ w=>∃J,∃H:NP,ed ρ [(0,(vp<|some cap1)),(2,(vp<|some cap3)),(3,(vu r1)),(13,(vb J))]/\af w0 H w H w/\HB H w []/\FH cap1 cap3 r1 J w0 H w K) ?_ ?_
 rintro ρ w ⟨J,H,k,hs,a,h⟩
 refine qS k<|yS (fun ρ w=>∃H:NP,ed ρ [(0,(vp<|some cap1)),(2,(vp<|some cap3)),(3,(vu r1))]/\af w0 H w H w/\HB H w []/\MX cap1 cap3 r1 w0 H w K) ?_ ?_
 rintro ρ w ⟨H,k,hs,a,h⟩
 refine qS k<|zK<|zK<|Eg Kf Kf Kf Kf ?_
 intro I f
 have hs:af w0 H w H I:=by rw[f];exact hs.drew
 have a:HB H I []:=by rw[f];exact a.drew
 refine qq 0 (vu r1) wi<|qg 1 ?_
 have⟨h,hs⟩:=hs.hr<|h I
 have⟨v2,r,h⟩:=h
 refine oz vm (qC rfl) rfl (xl (isAgg272 _) r) (qg 2 ?_)
 have⟨a1,z,h⟩:=h
 refine oz wQ (qC rfl) rfl (xn z) (qq 3 (vp<|some a1) vq<|qg 4 ?_)
 have⟨s,p,h⟩:=h
 refine oz wB (qC rfl) rfl (xl (isAgg59 _) p) (qq 5 (vi (s.len:Int)) wO<|qg 6 ?_)
 have⟨v4,j,h⟩:=h
 refine oz wK (qC rfl) rfl (xl (isAgg272 _) j) (qg 7 ?_)
 have⟨a2,A,h⟩:=h
 refine oz yt (qC rfl) rfl (xn A) (qq 8 (vp<|some<|a2.add 1) xk<|qg 9 ?_)
 have⟨M,o,h⟩:=h
 refine oz yv (qC rfl) rfl (xl (isAgg3 _) o) (qq 10 (vi<|q6.wrap<|(s.len:Int)-M) (od<|S8<|yV<|yV ni)<|qq 11 (vu<|IntKind.u64.wrap<|q6.wrap<|(s.len:Int)-M) (od<|S8<|yV<|yV<|yV ni)<|qq 12 (vb<|decide (r1>(IntKind.u64.wrap<|q6.wrap<|(s.len:Int)-M))) (od<|S8<|S4 ni)<|wn<|yZ<|yS (fun ρ w=>∃H:NP,ed ρ [(0,(vp<|some cap1)),(2,(vp<|some cap3)),(3,(vu r1))]/\af w0 H w H w/\HB H w []/\Nq cap1 cap3 r1 H w K) ?_ ?_)
 rintro ρ w ⟨H,k,hs,a,h⟩
 refine qS k<|zK ?_
 have⟨S,X,h⟩:=h
 refine Qu S [17] [17] X h hs a fun w3 hs a h=>?_
 have hs:=hs.fi
 refine qg 0 ?_
 have⟨v6,g,h⟩:=h
 refine sf wi (xl (isAgg272 _) g)<|qg 1 ?_
 have⟨a3,D,h⟩:=h
 refine sy vm (fun _ _=>xn D)<|qx 2 (vp<|some a3) wQ<|qg 3 ?_
 have⟨v7,B,h⟩:=h
 refine sf vq (xl (isAgg59 _) B)<|qg 4 ?_
 have⟨v8,F,h⟩:=h
 refine sf wB (xl (isAgg272 _) F)<|qg 5 ?_
 have⟨a4,t,h⟩:=h
 refine sy wO (fun _ _=>xn t)<|qx 6 (vp<|some<|a4.add 1) wK<|qg 7 ?_
 have⟨Z,E,h⟩:=h
 refine sf yt (xl (isAgg3 _) E)<|qg 8 ?_
 have⟨V,O,h⟩:=h
 refine sf xk (xl (isAgg272 _) O)<|qg 9 ?_
 have⟨a5,N,h⟩:=h
 refine sy yv (fun _ _=>xn N)<|qx 10 (vp<|some<|a5.add 1) (od<|S8<|yV<|yV ni)<|qg 11 ?_
 have⟨L,u,h⟩:=h
 refine sf (od<|S8<|yV<|yV<|yV ni) (xl (isAgg3 _) u)<|qx 12 (vu r1) (od<|S8<|S4 ni)<|qx 13 (vi<|q6.wrap r1) (od<|S8<|S4<|yV ni)<|qx 14 (vi<|q6.wrap<|L+(q6.wrap r1)) (od<|S8<|S4<|yV<|yV ni)<|qg 15 ?_
 have⟨s1,P,h⟩:=h
 refine sf (v:=s1.v) (od<|S8<|S4<|yV<|yV<|yV ni) (SG Kf Kf Kf Kf P)<|qg 16 ?_
 have⟨R,x,h⟩:=h
 refine sf (v:=(vs R)) (od<|S8<|S8 ni) (jYH Kf x)<|lg 17 ?_
 have⟨G,y,h⟩:=h
 refine IB (od<|S8<|S8<|yV ni) (xs (v:=(vs R)) (sizeOf9 _) G) ?_
 intro Y n
 have h:=h Y n
 refine⟨.inl Kf,?_⟩
 have C:=aj.sc y n
 have⟨hs,a⟩:=C.hh hs a
 refine wn<|yZ<|rg<|ql (isAgg272 _) h fun U h=>qm h fun a6 h=>q<|ql (isAgg3 _) h fun W h=>qc<|qm h fun a7 h=>q<|jy (sizeOf3 _) hs a h fun w5 hs a h=>vJ<|ep<|wV (.inr rfl) results293 ?_
 exact .inl ⟨rfl,h⟩
 refine ib h ?_ ?_<;>intro h
 refine qU Kf<|qO 1<|q0 (.iface 334<|vi 3)<|vJ<|Ct (qC rfl) (by intro c m;cases m) (Cz Kf) fun Q=>.inr ⟨_,rfl,h⟩
 refine zW<|yZ ⟨H,hm,hs,a,h⟩
 refine ib h ?_ ?_<;>intro h
 refine qU Kf<|qO 1<|q0 (.iface 334<|vi 1)<|vJ<|Ct (qC rfl) (by intro c m;cases m) (Cz Kf) fun Q=>.inr ⟨_,rfl,h⟩
 refine zW<|yZ ⟨H,hm,hs,a,h⟩
 refine rg<|ql (isAgg3 _) h fun T h=>qb ?_
 obtain⟨b,h⟩|⟨b,h⟩:=h.br
 refine sj4 8 b<|q2 (vb true) (xT b)<|ln ⟨true,ar,hm,hs,a,h⟩
 refine qk 8 b ?_
 have⟨i,d,h⟩:=h
 refine q4 8 b (xl (isAgg3 _) d)<|qk 8 b<|qk 8 b<|q2 (vb<|decide (r1>(IntKind.u64.wrap i))) (xF b)<|ln ⟨(decide (r1>(IntKind.u64.wrap i))),ar,hm,hs,a,h⟩
def jbG(b a:Addr)(d:World)(K:Option (List PanicEntry)->WP):Prop:=lp d b fun h=>cl 296 #[(vp h)] d fun e c=>(∃r1:Int,e=.returned (.int .u8 r1)/\zL c a/\∀g,g=c.setCell a (.int .u8 r1)->K none g)\/∃f,e=.panicked f/\K (some f)  c
def jci(cap1 cap2 w0 K)(h:jbG cap1 cap2 w0 K):
  cl 295 #[(vp<|some cap1),(vp<|some cap2)] w0<|fun e w'=>(e=.returned (.tuple #[])/\K none  w')\/∃a,e=.panicked a/\K (some a)  w':=by
 refine xL (args:=[(vp<|some cap1),(vp<|some cap2)]) func295 rfl ntmps295 (Nat.le_of_ble_eq_true rfl) (qU Kf<|qO 1<|ql (isAgg272 _) h fun d h=>vJ<|AV (qC rfl) (by intro c b;cases b) (xc call296)<|h.mono fun e f hh=>hh.elim ?_ (by rintro⟨a,rfl,h⟩;exact .inr ⟨a,rfl,fun g=>.inr ⟨a,rfl,h⟩⟩))
 rintro⟨r1,rfl,h⟩
 refine .inl ⟨_,rfl,?_⟩
 refine DC<|qn (sizeOf5 _) h fun i h=>vJ<|ep<|wV (.inr rfl) results295 ?_
 exact .inl ⟨rfl,h⟩
end Go.Proofs
end
section
open Go Go.SE List
namespace Go.SE
def dj(bs:List UInt8):List (List Value):=bs.map fun b=>[.int .u8 (b.toNat:Int)]
def qA(bs):(dj bs).length=bs.length:=by simp[dj]
def Iv(bs):∀q∈dj bs,q.all vG=true:=by intro q a;obtain⟨t,_,rfl⟩:=mem_map.1 a;rfl
def zk(bs):∀q∈dj bs,q.length=1:=by intro q a;obtain⟨t,_,rfl⟩:=mem_map.1 a;rfl
def GU(bs):(dj bs).flatten=bs.map fun b=>Value.int .u8 (b.toNat:Int):=by
 induction bs with
 |nil=>rfl
 |cons b bs a=>simp only[dj,map_cons,flatten_cons]at a|-;rw[a];rfl
def DP(a b):dj (a++b)=dj a++dj b:=by simp[dj]
def BY{S w s bs}(h:dn S w 1 s (dj bs)){j}(b:j<bs.length):∃a,At s j 1 a/\S a.block/\w.cell? a=some (.int .u8 (bs[j].toNat:Int)):=by
 have⟨a,h1,h2,h3⟩:=h.at_ j (by simpa[dj]using b);exact⟨a,h1,h2,Ap<|by simpa[dj]using h3⟩
def vz(n:Nat):IntKind.u8.wrap (n:Int)=((UInt8.ofNat n).toNat:Int):=by
 rw[UInt8.toNat_ofNat'];simp[IntKind.wrap,IntKind.bits,IntKind.signed]
def Cj{P src dst e}(hs:P.underlying src=some (.slice e))(k:P.underlying e=some (.int .u8))(f:P.underlying dst=some .string){S w s bs}(h:dn S w 1 s (dj bs)):
  (convert src dst s.v).run P w=.ok (.string ⟨bs.toArray⟩) w:=by
 have g:s.len=bs.length:=by rw[h.len,qA]
 cases c:s.a with
 |none =>
  have d:bs=[]:=by
   cases bs with
   |nil=>rfl
   |cons b bs=>have⟨_,⟨_,_,p,i,_⟩,_⟩:=BY h (j:=0) Sm;rw[c]at i;cases i
  subst d
  have:s.v=.slice none 0 s.cap:=by unfold Sl.v;rw[c,g];rfl
  rw[this,run_convert_bytes_string w src dst e none 0 s.cap hs k f];rfl
 |some p =>
  have:s.v=.slice (some p) bs.length s.cap:=by unfold Sl.v;rw[c,g]
  rw[this]
  refine run_convert_bytes_back w src dst e p s.cap bs hs k f fun j m=>?_
  obtain⟨a,⟨_,_,b,d,rfl⟩,_,l⟩:=BY h m
  rw[c]at d;cases d
  simpa using l
section
variable {P:Program} {t u e ty:TypeId} {w:World}
def Qd(b):(Builtin.firstCells 1 b.size<|.string b).run P w=.ok (b.data.map fun x=>Value.int .u8 (x.toNat:Int)) w:=by
 have a:(Array.map (fun b:UInt8=>Value.int IntKind.u8 (b.toNat:Int)) b.data).extract 0 b.size=Array.map (fun b:UInt8=>Value.int IntKind.u8 (b.toNat:Int)) b.data:=by
  have hs:b.size=(Array.map (fun b:UInt8=>Value.int IntKind.u8 (b.toNat:Int)) b.data).size:=by rw[Array.size_map];rfl
  rw[hs,Array.extract_size]
 simp[Builtin.firstCells,a]
def RC(T:j1 P t e 1 1)(h:P.underlying u=some .string)(s:Sl)(g:s.len<=s.cap)(b:ByteArray)(f:b.size=0):(Builtin.append_ #[t,u] ty #[s.v,.string b]).run P w=.ok s.v w:=by
 have⟨a,n,c⟩:=s;simp only at g;have d:b=⟨#[]⟩:=by cases b;simp only[ByteArray.size]at f;congr;exact Array.eq_empty_of_size_eq_zero f
 subst d;cases a<;>simp[Builtin.append_,Sl.v,run_underlying T.ht,run_underlying h,T.sizeOf,Builtin.lenOf,Builtin.firstCells,storeCells,g,ByteArray.size]
def bf.WN(T:j1 P t e 1 1)(k:P.underlying u=some .string){s rs}(h:bf w e 1 s rs)(b)(f:rs.length+b.size<=140737488355328)(hm:rs.length+b.size<=maxLen):
  ∃s' w',(Builtin.append_ #[t,u] ty #[s.v,.string b]).run P w=.ok s'.v w'/\bf w' e 1 s' (rs++dj b.data.toList)/\ab s.ao w w'/\(∀b,s'.ao b->s.ao b\/w.heap.size<=b):=by
 have⟨i,z,hi,U,A,C,B⟩:=T.hi
 have N:b.data.toList.length=b.size:=by rw[Array.length_toList];rfl
 by_cases X:b.size=0
 .have L : s.len <= s.cap:=by
   rcases h.ak with⟨rfl,_⟩|⟨g,cur,_,_,L,_⟩
   .exact Nat.le_refl _
   .rw[h.len];exact L
  have:b.data.toList=[]:=length_eq_zero_iff.1 Om
  rw[this]
  exact⟨s,w,RC T k s L b X,by simpa[dj]using h,ab.refl w,fun b f=>.inl f⟩
 have Q:rs.length+b.size<=9223372036854775807:=by simp only[maxLen]at hm;omega
 have O:=vM h.mi
 have d:(dj b.data.toList).length=b.size:=by rw[qA,N]
 have l:∀q∈rs++dj b.data.toList,q.length=1:=fun q Y=>(mem_append.1 Y).elim (h.mi q)<|zk _ q
 have J:(b.data.map fun x=>Value.int .u8 (x.toNat:Int)).toList=(dj b.data.toList).flatten:=by rw[GU];simp
 have Z:(b.data.map fun x=>Value.int .u8 (x.toNat:Int)).size=b.size:=by rw[Array.size_map];rfl
 rcases h.ak with⟨rfl,rfl⟩|⟨g,cur,y,M,V,S,fa,r⟩
 .simp only[length_nil,Nat.zero_add]at f Q hm
  have c:=run_append_nil_string (P:=P) w t u ty e i z T.ht k hi U b Om Om (by rw[C];omega)
  have m:=bf.pW (w:=w) (e:=e) (sz:=1) (rs:=dj b.data.toList) (zk _) (cur:=b.data.map fun x=>Value.int .u8 (x.toNat:Int)) (by rw[B]) J (cap:=grownCap w b.size 0 e) (by rw[d];exact grownCap_ge w _ 0 e) (grownCap_le_maxLen w _ 0 e hm)
  rw[d]at m
  exact⟨⟨some ⟨w.heap.size,0,none⟩,b.size,grownCap w b.size 0 e⟩,_,c,by simpa using m,⟨rfl,rfl,rfl,Fe,Sm,fun b f _=>AL w.drew _ b f⟩,fun b f=>by obtain⟨a,y,rfl⟩:=f;cases y;right;exact Nat.le_refl _⟩
 .have F:s.v=.slice (some ⟨g,0,none⟩) rs.length s.cap:=by unfold Sl.v;rw[y,h.len]
  by_cases n:rs.length+b.size<=s.cap
  .have o:rs.length+(dj b.data.toList).flatten.length<=cur.size:=by rw[vM<|zk _,d,fa];omega
   have K:∀u∈(dj b.data.toList).flatten,u.oneCell'=true:=fun u k=>by
    rw[GU]at k;obtain⟨x,_,rfl⟩:=mem_map.1 k;rfl
   have aq:=run_storeCells_at P g rs.length e (dj b.data.toList).flatten 0 cur w M (by simpa using o) K
   have c:(Builtin.append_ #[t,u] ty #[s.v,.string b]).run P w=.ok (.slice (some ⟨g,0,none⟩) (rs.length+b.size) s.cap) (w.setRow g (cur.toList.take rs.length++(dj b.data.toList).flatten++cur.toList.drop (rs.length+(dj b.data.toList).flatten.length)).toArray):=by
    rw[F];simp only[Nat.add_zero]at aq;have H:=Qd (P:=P) (w:=w) b;rw[GU]at aq|-;simp[Builtin.append_,run_underlying T.ht,run_underlying k,T.sizeOf,Builtin.lenOf,n,H,Addr.add_lit,aq]
   refine⟨⟨some ⟨g,0,none⟩,rs.length+b.size,s.cap⟩,_,c,⟨l,by simp[d],.inr ⟨g,_,rfl,setRow_heap w g cur _ e _ M,by simpa[d]using n,S,?_,?_⟩⟩,⟨rfl,rfl,rfl,Fe,Sm,fun b f H=>setRow_other w g b _ fun e=>H ⟨_,y,e.symm⟩⟩,fun b f=>by obtain⟨a,R,rfl⟩:=f;cases R;exact .inl ⟨_,y,rfl⟩⟩
   .grind
   .grind
  .have p : ∀ j u, rs.flatten[j]? = some u -> w.cell? ((⟨g, 0, none⟩ : Addr).add j) = some u:=fun j u k => by
    have I:(⟨g,0,none⟩:Addr).add j=⟨g,j,none⟩:=by unfold Addr.add;split<;>simp_all
    rw[I,cell_of_row w g j cur e (0,0) M];rw[<-r,getElem?_take]at k;split at k
    .simpa using k
    .cases k
   have o:=growslice_fits (need:=rs.length+b.size) (old:=s.cap) (bytes:=1) Om Om
   have m:=bf.pW (w:=w) (e:=e) (sz:=1) (rs:=rs++dj b.data.toList) l (cur:=rs.flatten.toArray++b.data.map fun x=>Value.int .u8 (x.toNat:Int)) (by rw[B]) (by simp[<-J]) (cap:=grownCap w (rs.length+b.size) s.cap e) (by rw[length_append,d];exact grownCap_ge w _ s.cap e) (grownCap_le_maxLen w _ _ e hm)
   have c:(Builtin.append_ #[t,u] ty #[s.v,.string b]).run P w=.ok (.slice (some ⟨w.heap.size,0,none⟩) (rs.length+b.size)<|grownCap w (rs.length+b.size) s.cap e) (w.drew.alloc<|.cells (rs.flatten.toArray++b.data.map (fun x=>Value.int .u8 (x.toNat:Int))++Builtin.zeroCells z.cells (grownCap w (rs.length+b.size) s.cap e-(rs.length+b.size))) e):=by
    rw[F];have W:¬(rs.length+b.size<=s.cap):=Om;have D:¬(9223372036854775807<((rs.length:Int)+(b.size:Int))):=Om;have E:¬(281474976710656<Builtin.nextslicecap (rs.length+b.size) s.cap*i.bytes):=by rw[C];omega
    have G:=run_firstCells_some (P:=P) w.drew i.size rs.length ⟨g,0,none⟩ rs.length s.cap rs.flatten (by rw[A];exact O) (by simpa using p);have H:=Qd (P:=P) (w:=w.drew) b;rw[A]at G;simp[Builtin.append_,run_underlying T.ht,run_underlying k,sizeOf,typeInfo,zeroValue,hi,U,Builtin.lenOf,W,D,E,Question.forced,H,G,newRow,grownCap,A]
    try (congr 2;apply Array.ext';simp[append_assoc])
   rw[length_append,d]at m
   exact⟨⟨some ⟨w.heap.size,0,none⟩,rs.length+b.size,grownCap w (rs.length+b.size) s.cap e⟩,_,c,m,⟨rfl,rfl,rfl,Fe,Sm,fun b f _=>AL w.drew _ b f⟩,fun b f=>by obtain⟨a,y,rfl⟩:=f;cases y;right;exact Nat.le_refl _⟩
end
section
variable {P:Program} {w:World} {t:TypeId}
set_option maxRecDepth 4000 in
def jbH:∀m:Fin 256,m.val |||128=m.val%128+128:=De
def jZH(n:Nat):(Go.binOp .or t (.int .u8<|IntKind.u8.wrap (n:Int))<|.int .u8 128).run P w=.ok (.int .u8 ((UInt8.ofNat<|n%128+128).toNat:Int)) w:=by
 have h:IntKind.u8.wrap ((BitVec.ofInt IntKind.u8.bits (IntKind.u8.wrap (n:Int)) |||BitVec.ofInt IntKind.u8.bits 128).toNat:Int)=((UInt8.ofNat<|n%128+128).toNat:Int):=by
  have b:(BitVec.ofInt IntKind.u8.bits<|IntKind.u8.wrap (n:Int)).toNat=n%256:=by
   rw[vz,UInt8.toNat_ofNat',BitVec.toNat_ofInt];simp[IntKind.bits];omega
  have a:(BitVec.ofInt IntKind.u8.bits 128).toNat=128:=De;rw[BitVec.toNat_or,b,a,jbH ⟨n%256,Nat.mod_lt _ Om⟩,vz];simp only[UInt8.toNat_ofNat'];omega
 show((pure (Value.int .u8 _):Sem Value)).run P w=_;rw[h];rfl
def zCV(n:Nat):(Go.binOp .shr t (.int .u64 (n:Int))<|.int .u64 7).run P w=.ok (.int .u64 ((n/128:Nat):Int)) w:=by
 simp[Go.binOp,go_sem,IntKind.bits]
def jWK(n:Nat)(h:n<18446744073709551616):(Go.binOp .quo t (.int .u64 (n:Int))<|.int .u64 128).run P w=.ok (.int .u64 ((n/128:Nat):Int)) w:=by
 have:IntKind.u64.wrap ((n:Int).tdiv 128)=((n/128:Nat):Int):=by
  rw[Int.tdiv_eq_ediv_of_nonneg Om];simp only[IntKind.wrap,IntKind.bits,IntKind.signed];simp;omega
 show((pure (Value.int .u64<|IntKind.u64.wrap<|(n:Int).tdiv 128):Sem Value)).run P w=_;rw[this];rfl
def jWJ(n:Nat):(Go.binOp .rem t (.int .u64 (n:Int))<|.int .u64 128).run P w=.ok (.int .u64 ((n%128:Nat):Int)) w:=by
 have:(n:Int).tmod 128=((n%128:Nat):Int):=Gd;simp[Go.binOp,Op.intDiv,this]
def Ua(c:Nat)(h:c<256):(Go.binOp .and t (.int .u8 (c:Int))<|.int .u8 127).run P w=.ok (.int .u8 ((c%128:Nat):Int)) w:=by
 have hr:IntKind.u8.wrap ((BitVec.ofInt IntKind.u8.bits (c:Int) &&& BitVec.ofInt IntKind.u8.bits 127).toNat:Int)=((c%128:Nat):Int):=by
  have b:(BitVec.ofInt IntKind.u8.bits (c:Int)).toNat=c:=by
   rw[BitVec.toNat_ofInt];simp[IntKind.bits];omega
  have a:(BitVec.ofInt IntKind.u8.bits 127).toNat=2^7-1:=De;rw[BitVec.toNat_and,b,a,Nat.and_two_pow_sub_one_eq_mod,vz];simp only[UInt8.toNat_ofNat'];omega
 show((pure (Value.int .u8 _):Sem Value)).run P w=_;rw[hr];rfl
def qB{n:Nat}(h:n<18446744073709551616):IntKind.u64.wrap (n:Int)=(n:Int):=by
 simp[IntKind.wrap,IntKind.bits,IntKind.signed];omega
def Y0(x k:Nat)(b:k<64)(h:x*2^k<18446744073709551616):(Go.binOp .shl t (.int .u64 (x:Int))<|.int .i64 (k:Int)).run P w=.ok (.int .u64 ((x*2^k:Nat):Int)) w:=by
 have hr:IntKind.u64.wrap ((x:Int)*2^min (k:Int).toNat IntKind.u64.bits)=((x*2^k:Nat):Int):=by
  have:min (k:Int).toNat IntKind.u64.bits=k:=by simp[IntKind.bits];omega
  rw[this,<-qB h];simp
 have a:¬((k:Int)<0):=Om;show(Op.shift .shl .u64 (x:Int) .i64 (k:Int)).run P w=_;unfold Op.shift;rw[if_neg a];show((pure (Value.int .u64<|IntKind.u64.wrap<|(x:Int)*2^min (k:Int).toNat IntKind.u64.bits):Sem Value)).run P w=_;rw[hr];rfl
def zCY(x y:Nat)(b:x<18446744073709551616)(a:y<18446744073709551616):(Go.binOp .or t (.int .u64 (x:Int))<|.int .u64 (y:Int)).run P w=.ok (.int .u64 ((x |||y:Nat):Int)) w:=by
 have hr:IntKind.u64.wrap ((BitVec.ofInt IntKind.u64.bits (x:Int) |||BitVec.ofInt IntKind.u64.bits (y:Int)).toNat:Int)=((x |||y:Nat):Int):=by
  have e (z:Nat) (c:z<18446744073709551616):(BitVec.ofInt IntKind.u64.bits (z:Int)).toNat=z:=by
   rw[BitVec.toNat_ofInt];simp[IntKind.bits];omega
  rw[BitVec.toNat_or,e x b,e y a,qB<|Nat.or_lt_two_pow (n:=64) b a]
 show((pure (Value.int .u64 _):Sem Value)).run P w=_;rw[hr];rfl
def Nz{x y k}(h:x<2^k):x |||(y*2^k)=x+y*2^k:=by
 have:=Nat.shiftLeft_add_eq_or_of_lt h y;rw[Nat.shiftLeft_eq]at this;rw[Nat.or_comm,<-this,Nat.add_comm]
end
def dn.sub{P t e sz bytes S}(T:j1 P t e sz bytes){w s rs}(h:dn S w sz s rs)(b:s.len<=s.cap){k lo n}(g:lo+n<=rs.length):
  ∃s':Sl,(Instr.sliceAt t s.v (some<|.int k (lo:Int)) (some<|.int k ((lo+n:Nat):Int)) none).run P w=.ok s'.v w/\dn S w sz s' ((rs.drop lo).take n):=by
 have h1:((lo+n:Nat):Int)<=(s.cap:Int):=by rw[h.len]at b;omega
 have h2:(lo:Int)<=((lo+n:Nat):Int):=Om
 refine⟨⟨if s.cap=lo then s.a else s.a.map (·.add<|lo*sz),n,s.cap-lo⟩,?_,⟨So,fun i hi=>?_⟩⟩
 simp[Instr.sliceAt,Instr.slice,Sl.v,run_underlying T.ht,Instr.sliceBounds,Instr.sliceBound,asIntOf,T.sizeOf]
 rw[if_pos Om,if_pos Om,show((lo:Int)+(n:Int)).toNat-lo=n by omega]
 have c:lo+i<rs.length:=by simp at hi;omega
 obtain⟨a,⟨_,d,p,f,rfl⟩,hS,hr⟩:=h.at_ (lo+i) c
 refine⟨_,⟨Om,by simp at hi|-;omega,p.add<|lo*sz,?_,rfl⟩,?_,?_⟩
 grind
 simpa[zC]using hS
 have:(p.add<|lo*sz).add ((i:Int).toNat*sz)=p.add (((lo+i:Nat):Int).toNat*sz):=by
  rw[yL,Int.toNat_natCast,Int.toNat_natCast,Nat.add_mul]
 rw[this,getElem_take,getElem_drop];exact hr
end Go.SE
end
section
open Nat
namespace Go.Proofs
def vF(n:Nat):List UInt8:=if h:n<128 then[UInt8.ofNat n]else UInt8.ofNat (n%128+128) ::vF (n/128)
def tD{n}(h:n<128):vF n=[UInt8.ofNat n]:=by rw[vF,dif_pos h]
def AE{n}(h:128<=n):vF n=UInt8.ofNat (n%128+128) ::vF (n/128):=by rw[vF,dif_neg Om]
def Yh(k):∀n,n<128^(k+1)->(vF n).length<=k+1:=by
 induction k with
 |zero=>intro n h;rw[tD<|by simpa using h];simp
 |succ k a =>
  intro n h
  by_cases h1:n<128
  rw[tD h1];simp
  rw[AE Om,List.length_cons]
  have:=a (n/128) Gd
  omega
def vU{n}(h:n<18446744073709551616):(vF n).length<=10:=Yh 9 n Om
def vV(s:ByteArray):List UInt8:=vF s.size++s.data.toList
def xU:Nat->Nat->List UInt8->Except Nat (Nat×Nat)
 |_,_,[]=>.error 3
 |i,n,c :: l =>
  if i=9/\1<c.toNat then .error 11
  else if c.toNat<128 then(if c.toNat=0/\0<i then .error 10 else .ok (n+c.toNat*128^i,i+1))
  else xU (i+1) (n+c.toNat%128*128^i) l
def xS(i n c l):xU i n (c :: l)=(if i=9/\1<c.toNat then .error 11
  else if c.toNat<128 then(if c.toNat=0/\0<i then .error 10 else .ok (n+c.toNat*128^i,i+1))
  else xU (i+1) (n+c.toNat%128*128^i) l):=rfl
structure Rd where
 at_:Nat
 cm:Nat
 spot:Nat
def vY(bs:List UInt8)(r:Rd):Nat×Rd:=
 if r.cm=0 then match xU 0 0 (bs.drop r.at_)with
  |.ok (n,k)=>(n,⟨r.at_+k,0,r.spot⟩)
  |.error x=>(0,⟨r.at_,x,r.at_⟩)
 else(0,r)
def xN(bs:List UInt8)(r:Rd):Nat×Rd:=
 if r.cm=0 then(if h:r.at_<bs.length then(bs[r.at_].toNat,⟨r.at_+1,0,r.spot⟩)else(0,⟨r.at_,3,r.at_⟩))
 else(0,r)
def qI(bs:List UInt8)(a:Nat)(r:Rd):List UInt8×Rd:=
 if r.cm=0 then match xU 0 0 (bs.drop r.at_)with
  |.ok (n,k)=>if a<n then([],⟨r.at_,1,r.at_⟩)else if bs.length<r.at_+k+n then([],⟨r.at_,3,r.at_⟩)else((bs.drop<|r.at_+k).take n,⟨r.at_+k+n,0,r.spot⟩)
  |.error x=>([],⟨r.at_,x,r.at_⟩)
 else([],r)
end Go.Proofs
end
section
open Go Go.SE List
namespace Go.Proofs
open Tryz
attribute [local irreducible] Calls
def uu:j1 prog 59 5 1 1:=by
 refine⟨underlying59,⟨t5,_,Kf,(by kernel_rfl:t5.zero=some (.int .u8 0)),Kf,Kf,rfl⟩,Om⟩
def QJ{S:NP}(s:Sl)(bs:List UInt8)(c:World)(hs:dn S c 1 s (dj bs))(q:s.a=none->s=Sl.nil)(u:bs.length<=100000000000):
  cl 271 #[s.v] c<|XA fun r w'=>fx c 5 1 (dj bs) r w':=by
 refine Xl _ c _ ?_
 refine⟨s.a.isNone,?_,fun h=>?_,fun h=>?_⟩
 exact Qg c s.a s.len s.cap underlying59
 have g:=q<|Option.isNone_iff_eq_none.1 h
 subst g
 have:bs=[]:=by have:=hs.len;rw[qA]at this;exact length_eq_zero_iff.1 this.symm
 subst this
 exact⟨bf.nil _ _ _,fun b d=>(by have⟨a,f,_⟩:=d;cases f),ab.refl _⟩
 intro l m h1
 have i:Pure c m:=ab.aw h1
 have⟨n,o,hr,p,k,d⟩:=(bf.empty (sz:=1) h1).Bb (P:=prog) (ty:=59) uu (hs.pure i) (zk _) (Iv _) (by rw[qA];simp;omega) (by rw[qA];simp[maxLen];omega)
 have t:=h1.cu
 have j:∀b,(Sl.mk (some l) 0 0).ao b->c.heap.size<=b:=fun b d=>(by have⟨a,f,e⟩:=d;cases f;omega)
 exact⟨n,o,hr,by simpa using p,fun b h=>(d b h).elim (j b) fun h=>Oh i.size,i.cg k Gd⟩
def fx.put{w0 w w1 s bs x p}(h:fx w0 5 1 (dj bs) s w)(f:au w (.cells #[.int .u8 (x.toNat:Int)] 5) p w1)(l:bs.length<=100000000000):
  ∃s' w',(Builtin.append_ #[59,59] 59 #[s.v,(Sl.mk (some p) 1 1).v]).run prog w1=.ok s'.v w'/\fx w0 5 1 (dj<|bs++[x]) s' w':=by
 have e:Pure w w1:=ab.aw f
 have a:Row w1 p [.int .u8 (x.toNat:Int)]:=(ai.fp f).row
 have⟨s',w',hr,j,g,k⟩:=(h.cj.pure e).append (ty:=59) (c:=1) uu a rfl rfl (by rw[qA];omega) (by rw[qA];simp[maxLen];omega)
 have h1:=(h.pure.trans e)
 exact⟨s',w',hr,by rw[DP];exact j,fun b d=>(k b d).elim (h.ak b) fun h2=>Oh h1.size,h1.cg g fun i hi h2=>Oh<|h.ak i h2⟩
def fx.ba{c w:World}{s:Sl}{bs:List UInt8}{x:ByteArray}(h:fx c 5 1 (dj<|bs++vF x.size) s w)(k:bs.length<=10000000000)(g:x.size<=10000000000):
  ∃s' w',(Builtin.append_ #[59,9] 59 #[s.v,vs x]).run prog w=.ok s'.v w'/\fx c 5 1 (dj<|bs++vV x) s' w':=by
 have j:=vU (n:=x.size) Om
 have⟨s',w',hr,e,d,f⟩:=h.cj.WN (ty:=59) uu underlying9 x (by rw[qA,length_append];omega) (by rw[qA,length_append];simp[maxLen];omega)
 refine⟨s',w',hr,?_,fun b a=>(f b a).elim (h.ak b) fun h2=>Oh h.pure.size,h.pure.cg d fun i hi h2=>Oh<|h.ak i h2⟩
 rw[vV,<-append_assoc,DP];exact e
def Ao{S}(s bs)(n:Nat)(w0)(hs:dn S w0 1 s (dj bs))(l:s.a=none->s=Sl.nil)(q:bs.length<=10000000000)(e:n<18446744073709551616):
  cl 250 #[s.v,vu (n:Int)] w0<|XA fun r w'=>fx w0 5 1 (dj<|bs++vF n) r w':=by
 refine jal _ _ w0 _ ?_
 refine(QJ s bs w0 hs l Om).mono ?_
 rintro _ o ⟨r1,rfl,h1⟩
 refine⟨r1,rfl,fun b m w=>∃k:Nat,∃xs:List UInt8,m=(k:Int)/\k<18446744073709551616/\xs++vF k=bs++vF n/\fx w0 5 1 (dj xs) b w,fun _ m _=>m.toNat,⟨n,bs,rfl,e,rfl,h1⟩,?_⟩
 rintro b _ w ⟨k,xs,rfl,p,d,g⟩
 have f:xs.length<=10000000010:=by
  have:=congrArg List.length d;have:=vU e;simp only[length_append]at *;omega
 refine⟨fun h=>?_,fun h=>?_⟩
 have h:=of_decide_eq_true h
 refine⟨_,jZH k,fun i j h2=>?_⟩
 have⟨s',w',hr,c⟩:=g.put h2 Om
 refine⟨s',w',hr,_,zCV k,⟨k/128,xs++[UInt8.ofNat<|k%128+128],rfl,Om,?_,c⟩,by show(((k/128:Nat):Int)).toNat<((k:Int)).toNat;omega⟩
 rw[<-d,AE (n:=k) Om];simp
 have h:=of_decide_eq_false h
 intro i j h2
 rw[vz]at h2
 have⟨s',w',hr,c⟩:=g.put h2 Om
 refine⟨s',w',hr,?_⟩
 rw[<-d,tD (n:=k) Om];exact c
def Ay{S}(s bs)(n:Nat)(w0)(hs:dn S w0 1 s (dj bs))(C:bs.length<=10000000000)(p:n<18446744073709551616):
  cl 214 #[s.v,vu (n:Int)] w0<|XA fun r w'=>fx w0 5 1 (dj<|bs++vF n) r w':=by
 refine WZ _ _ w0 _ ?_
 intro x B h1
 have l:Pure w0 B:=ab.aw h1
 have⟨t,f,hr,d,z,j⟩:=(bf.empty (sz:=1) h1).Bb (P:=prog) (ty:=59) uu (hs.pure l) (zk _) (Iv _) (by rw[qA];simp;omega) (by rw[qA];simp[maxLen];omega)
 have D:=h1.cu
 have o:∀b,(Sl.mk (some x) 0 0).ao b->w0.heap.size<=b:=fun b j=>(by have⟨a,u,e⟩:=j;cases u;omega)
 have g:fx w0 5 1 (dj bs) t f:=⟨by simpa using d,fun b h=>(j b h).elim (o b) fun h=>Oh l.size,l.cg z Gd⟩
 refine⟨t,f,hr,fun m b w=>∃k:Nat,∃xs:List UInt8,m=(k:Int)/\k<18446744073709551616/\xs++vF k=bs++vF n/\fx w0 5 1 (dj xs) b w,fun m _ _=>m.toNat,⟨n,bs,rfl,p,rfl,g⟩,?_⟩
 rintro _ b w ⟨k,xs,rfl,y,i,d⟩
 have q:xs.length<=10000000010:=by
  have:=congrArg List.length i;have:=vU p;simp only[length_append]at *;omega
 refine⟨fun h=>?_,fun h=>?_⟩
 have h:=of_decide_eq_true h
 refine⟨_,jWJ k,fun A f h2=>?_⟩
 rw[show IntKind.u64.wrap (((k%128:Nat):Int)+128)=((k%128+128:Nat):Int) by simp[IntKind.wrap,IntKind.bits,IntKind.signed];omega,vz]at h2
 have⟨s',w',hr,c⟩:=d.put h2 Om
 refine⟨s',w',hr,_,jWK k y,⟨k/128,xs++[UInt8.ofNat<|k%128+128],rfl,Om,?_,c⟩,by show(((k/128:Nat):Int)).toNat<((k:Int)).toNat;omega⟩
 rw[<-i,AE (n:=k) Om];simp
 have h:=of_decide_eq_false h
 intro A f h2
 rw[vz]at h2
 have⟨s',w',hr,c⟩:=d.put h2 Om
 refine⟨s',w',hr,?_⟩
 rw[<-i,tD (n:=k) Om];exact c
def Vc{S}(s bs x w0)(hs:dn S w0 1 s (dj bs))(c:s.a=none->s=Sl.nil)(b:bs.length<=10000000000)(d:x.size<=10000000000):
  cl 258 #[s.v,vs x] w0<|XA fun r w'=>fx w0 5 1 (dj<|bs++vV x) r w':=by
 refine jcw _ _ w0 _ ?_
 unfold Pt
 rw[show IntKind.u64.wrap (x.size:Int)=(x.size:Int) by simp[IntKind.wrap,IntKind.bits,IntKind.signed];omega]
 refine(Ao s bs x.size w0 hs c b Om).mono ?_
 rintro _ e ⟨r1,rfl,h1⟩
 exact⟨r1,rfl,h1.ba b d⟩
def ZY{S}(s bs x w0)(hs:dn S w0 1 s (dj bs))(a:bs.length<=10000000000)(b:x.size<=10000000000):
  cl 215 #[s.v,vs x] w0<|XA fun r w'=>fx w0 5 1 (dj<|bs++vV x) r w':=by
 refine jch _ _ w0 _ ?_
 unfold MB
 rw[show IntKind.u64.wrap (x.size:Int)=(x.size:Int) by simp[IntKind.wrap,IntKind.bits,IntKind.signed];omega]
 refine(Ay s bs x.size w0 hs a Om).mono ?_
 rintro _ c ⟨r1,rfl,h1⟩
 exact⟨r1,rfl,h1.ba a b⟩
end Go.Proofs
end
section
namespace Go.SE
section
variable {P:Program} {n:Nat} {ρ:bg} {w:World} {ds:List Deferred} {Q:Exit->Act->World->Prop} {a:Act}
def GD{c1 c2}(f:gp ds n ρ a)(h:dw (x:=⟨none,ds⟩) P n c1 (fun e d w'=>match e with|.normal=>∀b,gp ds n d b->c2.wp P Q b w'|.panic ch=>∀b,gp ds n d b->Q (.panic ch) b w'|_=>False) ρ w):(Code.seq c1 c2).wp P Q a w:=by
 refine wp_seq<|wpIn_wide.1<|wpIn_mono (h a f) ?_;rintro e b w' ⟨d,⟨hr,c⟩|⟨rfl,_,_,D,hr,g,c⟩⟩
 .cases e<;>first|exact c.elim|exact c _ hr
 .exact c.elim
def Kx{c}(g:gp ds n ρ a)(h:dw (x:=⟨none,ds⟩) P n c (fun e d w'=>match e with|.normal=>∀b,gp ds n d b->Q .normal b w'|.panic ch=>∀b,gp ds n d b->Q (.panic ch) b w'|_=>False) ρ w):c.wp P Q a w:=by
 refine wpIn_wide.1<|wpIn_mono (h a g) ?_;rintro e b w' ⟨d,⟨hr,f⟩|⟨rfl,_,_,D,hr,i,f⟩⟩;grind;exact f.elim
def jYP{id t f}{caps:Array Operand}{ty ty'}{pos b:String}{aft c:Array Edge}{c2}(e:gp ds n ρ a)(ht:t<n)(h:∀g,gp (⟨.fn (.func f)<|caps.map<|bw ρ,#[]⟩ :: ds) n (put ρ (some t)<|.func (.func f) #[]<|caps.map<|bw ρ) g->c2.wp P Q g w):
  (Code.seq (.region id #[⟨some t,.makeFunc (.func f) #[] caps,ty,pos,aft,none⟩,⟨none,.defer ⟨.value<|.tmp t,#[],#[]⟩,ty',b,c,none⟩] false) c2).wp P Q a w:=by
 have h1:gp ds n (put ρ (some t)<|.func (.func f) #[]<|caps.map<|bw ρ) (a.put (some t)<|.func (.func f) #[]<|caps.map<|bw ρ):=e.put Gd _
 have h2:=h ({ (a.put (some t)<|.func (.func f) #[]<|caps.map<|bw ρ)with defers:=⟨.fn (.func f)<|caps.map<|bw ρ,#[]⟩ ::ds }.put none undef) ⟨rfl,h1.size,h1.get⟩
 refine wp_seq<|(wpIn_wide (n:=0)).1<|wpIn_region_lit (l:=[_,_]) ?_
 unfold wpListIn
 rw[if_pos<|by simp[Region.wanted]]
 refine LO (ro:=none) ⟨Sm,?_⟩
 rw[e.eval]
 simp only[execOp,Instr.makeFunc]
 show wpListIn _ 0 P _ _ _ _ _
 unfold wpListIn
 rw[if_pos<|by simp[Region.wanted]]
 refine⟨fun f _=>trivial,?_⟩
 have d:(a.put (some t)<|.func (.func f) #[]<|caps.map<|bw ρ).eval (.tmp t)=.func (.func f) #[] (caps.map<|bw ρ):=by
  rw[h1.eval];simp[bw,put,rH]
 have i:=h1.defers
 simp[Oper.semAt,Fence.wide,execOp,resolve,d,Deferred.ofValue,Oper.uponIn,wpListIn,Exit.then,i]
 exact h2
def jQK{f fn c args R}(e:P.funcs[f]?=some fn)(g:fn.body=some c)(b:fn.ntmps=n)(d:args.length<=n)(h:∀a,gp [] n (xG args) a->c.wp P (bodyPostD P fn R) a w):Calls P f args.toArray w R:=by
 subst b;exact calls_of_wp_defers e g<|h _<|D0 args d
inductive FU:FrameMode->Value->FrameMode->Prop
 |Pf:FU .returning .nilIface .returning
 |iu (v:Value) (a:List PanicEntry):FU (.panicking ({ v:=v,recovered:=false } :: a)) v (.panicking ({ v:=v,recovered:=true } :: a))
def S3(P:Program)(fn:Func)(n:Nat)(R:Ending->World->Prop):Exit->bg->World->Prop
 |.normal,ρ,w=>∃v,(∀ds a,gp ds n ρ a->(results fn a.tmps).run P w=.ok v w)/\R (.returned v) w
 |.panic b,_,w=>R (.panicked b) w
 |_,_,_=>False
def OX{id t t2:Nat}{f:FuncId}{fn:Func}{c:Code}{args:List Value}{v:Value}{u u':FrameMode}{R:Ending->World->Prop}{ty ty':TypeId}{pos pos':String}{aft aft':Array Edge}(hu:FU u v u')(hf:P.funcs[f]?=some fn)(hb:fn.body=some (Code.seq (.region id #[⟨some t,.call ⟨.builtin .recover,#[],#[]⟩,ty,pos,aft,none⟩,⟨some t2,.assign<|.tmp t,ty',pos',aft',none⟩] false) c))(hn:fn.ntmps=n)(hl:args.length<=n)(ht:t<n)(ht2:t2<n)(h:dw (x:=⟨none,[]⟩) P n c (S3 P fn n R) (put (put (xG args) (some t) v) (some t2) v) w):
  CallsD P f args.toArray u w<|fun e u1 w'=>u1=u'/\R e w':=by
 subst hn
 refine callsD_of_wpS hf hb fun c₀ cs hm=>?_
 apply wpS_seq
 apply wpS_region
 have hr:=D0 args hl
 have h1:gp [] fn.ntmps (put (xG args) (some t) v) _:=hr.put (d:=some t) Gd v
 have h2:gp [] fn.ntmps (put (put (xG args) (some t) v) (some t2) v) _:=h1.put (d:=some t2) Gd v
 have hv:((Act.mk (args.toArray++Array.replicate (fn.ntmps-args.toArray.size) undef) []).put (some t) v).eval (.tmp t)=v:=by
  rw[h1.eval];simp[bw,put,rH]
 have key:∀cs',cs'={ c₀ with mode:=u' } ::cs->c.wpS P (bodyPostS P fn c₀ cs fun e u1 w'=>u1=u'/\R e w') ((((Act.mk (args.toArray++Array.replicate (fn.ntmps-args.toArray.size) undef) []).put (some t) v)).put (some t2) v) cs' w:=by
  rintro cs' rfl;refine wpS_of_wp<|Kx h2<|Av ?_ h;intro e ρ' w' hq;cases e with
  |normal =>
   intro a' ha'
   have⟨x,hx,hR⟩:=hq
   exact⟨ha'.defers,u',rfl,x,hx _ a' ha',rfl,hR⟩
  |panic ch =>
   intro a' ha'
   exact⟨ha'.defers,u',rfl,rfl,hq⟩
  |_=>exact hq.elim
 have h0:(execOp (Act.mk (args.toArray++Array.replicate (fn.ntmps-args.toArray.size) undef) []).eval ⟨some t,.call ⟨.builtin .recover,#[],#[]⟩,ty,pos,aft,none⟩).run P w=.ok .recover w:=by
  simp[execOp,resolve,invoke,builtin]
 show wpOpsS P _ _ [0,1] _ _ _
 cases hu with
 |Pf =>
  have hrd:recoverD (c₀ ::cs)=none:=by simp[recoverD,hm]
  simp only[wpOpsS,List.getElem?_toArray,List.getElem?_cons_zero,List.getElem?_cons_succ]
  rw[if_pos<|by simp[Region.wanted],h0]
  simp only[hrd]
  rw[if_pos<|by simp[Region.wanted]]
  simp only[execOp,hv,Oper.upon]
  exact key _ (by cases c₀;simp_all)
 |iu v older =>
  have hrd:recoverD (c₀ ::cs)=some (v,{ c₀ with mode:=.panicking ({ v:=v,recovered:=true } ::older) } ::cs):=by simp[recoverD,hm]
  simp only[wpOpsS,List.getElem?_toArray,List.getElem?_cons_zero,List.getElem?_cons_succ]
  rw[if_pos<|by simp[Region.wanted],h0]
  simp only[hrd]
  rw[if_pos<|by simp[Region.wanted]]
  simp only[execOp,hv,Oper.upon]
  exact key _ rfl
end
section
variable {P:Program} {x:Cx} {n:Nat} {Q:Exit->bg->World->Prop} {ρ:bg} {w:World}
end
end Go.SE
end
section
open Go Go.SE List
namespace Go.Proofs
open Tryz
attribute [local irreducible] Calls CallsD
def jVU{P}{ε:Operand->Value}{w}{d:Option Tmp}{ty}{pos:String}{aft:Array Edge}{g:Option (Nat×Bool)}{x X T v}{a:TypeDesc}(b:ε x=.iface T v)(ht:P.underlying T=some a)(hi:∀m,a≠.interface m):
  (execOp ε ⟨d,.typeAssert x X T true,ty,pos,aft,g⟩).run P w=.ok (.value<|.tuple #[v,vb true]) w:=by
 simp only[execOp,b]
 have:(Instr.typeAssert (.iface T v) X T true).run P w=.ok (.tuple #[v,vb true]) w:=by
  unfold Instr.typeAssert;simp only[Sem.run_bind,run_underlying ht,Result.andThen];cases a<;>first|exact absurd rfl (hi _)|simp
 simp[this]
set_option maxRecDepth 100000 in
def Uh(c d:Addr)(w:World):CallsD prog 308 #[vp<|some c,vp<|some d] .returning w (fun e f w'=>f=.returning/\(e=.returned (.tuple #[])/\w'=w)):=by
 refine OX (args:=[vp<|some c,vp<|some d]) (R:=fun e w'=>e=.returned (.tuple #[])/\w'=w) .Pf func308 rfl ntmps308 (Nat.le_of_ble_eq_true rfl) De De ?_;refine zK ?_;refine rg ?_;refine q0 .nilIface ?_;refine q0 (vb false) ?_;refine vJ ?_;refine yZ ?_;refine zp (t:=false) Kf (fun b=>by cases b) fun b=>?_;refine zW ?_;exact⟨.tuple #[],fun ds a g=>by rw[results_none results308],rfl,rfl⟩
set_option maxRecDepth 100000 in
def zEZ(g f r:Addr)(b e:Int)(c:List PanicEntry)(w:World)(i:w.cell? g=some (vi b))(hr:w.cell? f=some (vp<|some r))(h1:zL w (r.add 1))(h2:zL w (r.add 2))(h3:zL w (r.add 3)):
  CallsD prog 308 #[vp<|some g,vp<|some f] (.panicking ({ v:=.iface 334<|vi e,recovered:=false } ::c)) w (fun h j w'=>j=.panicking ({ v:=.iface 334<|vi e,recovered:=true } ::c) /\
   (h=.returned (.tuple #[])/\w'=((w.setCell (r.add 1)<|vi b).setCell (r.add 2)<|vi e).setCell (r.add 3) (vi b))):=by
 refine OX (args:=[vp<|some g,vp<|some f]) (R:=fun h w'=>h=.returned (.tuple #[])/\w'=((w.setCell (r.add 1)<|vi b).setCell (r.add 2)<|vi e).setCell (r.add 3) (vi b)) (.iu _ c) func308 rfl ntmps308 (Nat.le_of_ble_eq_true rfl) De De ?_
 refine zK ?_
 refine rg ?_
 refine q0 (.iface 334<|vi e) ?_
 refine q0 (vb true) ?_
 refine vJ ?_
 refine yZ ?_
 refine zp (t:=true) Kf (fun d=>?_) (fun d=>by cases d)
 refine zK ?_
 refine rg ?_
 refine q0 (.iface 334<|vi e) ?_
 refine q2 (.tuple #[vi e,vb true]) (jVU Kf underlying334 (by intro m;simp)) ?_
 refine q0 (.tuple #[vi e,vb true]) ?_
 refine q0 (vi e) ?_
 refine q0 (vb true) ?_
 refine q0 (vi e) ?_
 refine q0 (vb true) ?_
 refine vJ ?_
 refine yZ ?_
 refine zK ?_
 refine zK ?_
 refine rg ?_
 refine q0 (vb true) ?_
 refine q0 (vb false) ?_
 refine vJ ?_
 refine yZ ?_
 refine zp (t:=false) Kf (fun d=>by cases d) fun d=>?_
 refine zW ?_
 refine yZ ?_
 refine rg ?_
 refine q2 (vp<|some r) (tC (a:=f) Kf (isAgg272 _) hr) ?_
 refine q2 (vp<|some r) (tC (a:=f) Kf (isAgg272 _) hr) ?_
 refine q2 (vp<|some r) (tC (a:=f) Kf (isAgg272 _) hr) ?_
 refine q2 (vi b) (tC (a:=g) Kf (isAgg3 _) i) ?_
 refine q0 (vi e) ?_
 refine q2 (vi b) (tC (a:=g) Kf (isAgg3 _) i) ?_
 refine q0 (vp<|some r) ?_
 refine q0 (vp<|some<|r.add 1) ?_
 refine xj (qC rfl) (sX (a:=r.add 1) (v:=vi b) Kf Kf rfl (sizeOf3 _) h1) ?_
 rintro l rfl
 refine q0 (vp<|some r) ?_
 refine q0 (vp<|some<|r.add 2) ?_
 refine xj (qC rfl) (sX (a:=r.add 2) (v:=vi e) Kf Kf rfl (sizeOf54 _) (zL.setCell h2)) ?_
 rintro o rfl
 refine q0 (vp<|some r) ?_
 refine q0 (vp<|some<|r.add 3) ?_
 refine xj (qC rfl) (sX (a:=r.add 3) (v:=vi b) Kf Kf rfl (sizeOf3 _) (zL.setCell<|zL.setCell h3)) ?_
 rintro n rfl
 refine vJ ?_
 exact⟨.tuple #[],fun ds a k=>by rw[results_none results308],rfl,rfl⟩
def Pz{P w f cap args}(a:∀args w,(callFunc f args).run P w=.ok (.enter f args) w)(h:cap=args):(invoke (.fn (.func f) cap) #[]).run P w=.ok (.enter f args) w:=by
 subst h;simp[invoke,a]
set_option maxRecDepth 100000 in
def FL(r:Addr)(f:Value)(e:Int)(g:World)(m:g.cell? (r.add 2)=some (vi e))(l:e≠0):
  cl 290 #[vp<|some r,f] g<|fun e w'=>e=.returned (.tuple #[])/\Pure g w':=by
 refine Jd (args:=[vp<|some r,f]) func290 rfl ntmps290 (Nat.le_of_ble_eq_true rfl) ?_
 refine zK ?_
 refine rg ?_
 refine ym (O:=(.cells #[(vp<|some r)] 272)) (fun p=>vp<|some p) (qC rfl) (GQ (cs:=#[(vp<|some r)]) Kf) ?_
 intro i j d
 have k:Pure g j:=ab.aw d
 have b:j.cell? i=some (vp<|some r):=(ai.fp d).bd
 have h:=k.cell m id
 refine vJ ?_
 refine yZ ?_
 refine zK ?_
 refine zK ?_
 refine rg ?_
 refine q2 (vp<|some r) (tC (a:=i) Kf (isAgg272 _) b) ?_
 refine q2 (vb false) (Du (x:=some r) Kf rfl underlying272) ?_
 refine q0 (vb false) ?_
 refine q2 (vp<|some r) (tC (a:=i) Kf (isAgg272 _) b) ?_
 refine q0 (vp<|some r) ?_
 refine q0 (vp<|some<|r.add 2) ?_
 refine q2 (vi e) (tC (a:=r.add 2) Kf (isAgg54 _) h) ?_
 refine q0 (vb<|(e:Int) !=0) ?_
 refine q0 (vb<|(e:Int) !=0) ?_
 refine vJ ?_
 refine yZ ?_
 refine zp (t:=true) (by rw[show((e:Int) !=0)=true by simpa using l];kernel_rfl) (fun c=>?_) (fun c=>by cases c)
 refine GI ?_
 refine l0 ?_
 exact wV (.inl rfl) results290 ⟨rfl,k⟩
set_option maxRecDepth 100000 in
def HC(r:Addr)(o:FuncId)(caps:Array Value)(at_:Int)(k:World)(K:WP)(h1:k.cell? (r.add 1)=some (vi at_))(h2:k.cell? (r.add 2)=some (vi 0))(G:∀args w,(callFunc o args).run prog w=.ok (.enter o args) w)(rR:∀l p A,Pure k l->k.heap.size<=Addr.block p->k.heap.size<=Addr.block A->l.cell? p=some (vp (some r))->l.cell? A=some (vi at_) ->
   Calls prog o caps l (fun e i=>(e=.returned (.tuple #[])/\K i)\/∃x,e=.panicked [{ v:=.iface 334 (vi x),recovered:=false }]/\i.cell? p=some (vp (some r))/\i.cell? A=some (vi at_)/\zL i (r.add 1)/\zL i (r.add 2)/\zL i (r.add 3) /\
    K (((i.setCell (r.add 1) (vi at_)).setCell (r.add 2) (vi x)).setCell (r.add 3) (vi at_)))):
  cl 290 #[vp (some r),.func (.func o) #[] caps] k (fun e w'=>e=.returned (.tuple #[])/\K w'):=by
 refine jQK (args:=[vp (some r),.func (.func o) #[] caps]) func290 rfl ntmps290 (Nat.le_of_ble_eq_true rfl) ?_
 intro a b
 refine GD b ?_
 refine rg ?_
 refine ym (O:=(.cells #[(vp (some r))] 272)) (fun p=>vp (some p)) (qC rfl) (GQ (cs:=#[(vp (some r))]) Kf) ?_
 intro d l m
 have u:Pure k l:=ab.aw m
 have g:l.cell? d=some (vp (some r)):=(ai.fp m).bd
 have z:=u.cell h2 id
 have T:=m.cu
 clear b
 refine vJ ?_
 intro a b
 refine GD b ?_
 refine zK ?_
 refine rg ?_
 refine q2 (vp (some r)) (tC (a:=d) Kf (isAgg272 _) g) ?_
 refine q2 (vb false) (Du (x:=some r) Kf rfl underlying272) ?_
 refine q0 (vb false) ?_
 refine q2 (vp (some r)) (tC (a:=d) Kf (isAgg272 _) g) ?_
 refine q0 (vp (some r)) ?_
 refine q0 (vp (some (r.add 2))) ?_
 refine q2 (vi 0) (tC (a:=r.add 2) Kf (isAgg54 _) z) ?_
 refine q0 (vb false) ?_
 refine q0 (vb false) ?_
 refine vJ ?_
 refine yZ ?_
 refine zp (t:=false) Kf (fun q=>by cases q) fun q=>?_
 refine zW ?_
 clear b
 intro a b
 refine GD b ?_
 refine rg ?_
 refine q2 (vp (some r)) (tC (a:=d) Kf (isAgg272 _) g) ?_
 refine q0 (vp (some r)) ?_
 refine q0 (vp (some (r.add 1))) ?_
 refine q2 (vi at_) (tC (a:=r.add 1) Kf (isAgg3 _) (u.cell h1 id)) ?_
 refine ym (O:=(.cells #[(vi 0)] 3)) (fun p=>vp (some p)) (qC rfl) (uA (zeroValue3 _) rfl) ?_
 intro h i j
 have S:Pure k i:=u.trans (ab.aw j)
 have R:=j.cu
 have L:=ai.fp j
 refine xj (qC rfl) (sX (a:=h) (v:=vi at_) Kf Kf rfl (sizeOf3 _) (L.ia Sm)) ?_
 intro y n
 have P:=World.block_lt_of_cell? l d g
 have Q:Pure k y:=S.ak (p:=h) (Oh u.size) (n▸ab.setCell h _)
 have E:y.cell? d=some (vp (some r)):=by
  rw[n];exact(ab.setCell h _).cell ((ab.aw (F:=ar) j).cell g id) fun e=>Om
 have J:y.cell? h=some (vi at_):=by
  rw[n];exact(L.jb).bd
 refine vJ ?_
 clear b
 intro a b
 refine jYP b De ?_
 clear b
 intro a b
 refine Kx b ?_
 refine qU Kf ?_
 refine qO 1 ?_
 refine q0 (.func (.func o) #[] caps) ?_
 refine vJ ?_
 refine AV (qC rfl) (by intro c G;cases G) (N5 (caps:=caps) (args:=#[]) (args':=caps) Kf G rfl Sm) ((rR y d h Q Om (Oh u.size) E J).mono ?_)
 rintro e M (⟨rfl,H⟩|⟨x,rfl,D,C,I,B,s,H⟩)
 refine .inl ⟨_,rfl,?_⟩
 refine zCL ?_
 clear b
 intro a b
 show Leaves _ _ _ _ _ _ _
 rw[b.defers]
 refine leaves_cons (f:=308) (args:=#[vp (some h),vp (some d)]) Sm (Pz call308 (by simp[bw,put,rH])) ?_
 refine(Uh h d M).mono ?_
 rintro e U N ⟨rfl,rfl,rfl⟩
 exact⟨_,results_none results290 _ _ _,rfl,H⟩
 refine .inr ⟨_,rfl,?_⟩
 intro V
 clear b
 intro a b
 show Leaves _ _ _ _ _ _ _
 rw[b.defers]
 refine leaves_cons (f:=308) (args:=#[vp (some h),vp (some d)]) Sm (Pz call308 (by simp[bw,put,rH])) ?_
 refine(zEZ h d r at_ x [] M C D I B s).mono ?_
 rintro e U N ⟨rfl,rfl,rfl⟩
 exact⟨_,results_none results290 _ _ _,rfl,H⟩
structure iy(S:NP)(w:World)(a:Addr)(s:Sl)(bs:List UInt8)(at_ cm spot:Int):Prop where
 box:ai w a [s.v,vi at_,vi cm,vi spot] 319
 ei:dn S w 1 s (dj bs)
 apart:∀b,S b->b≠a.block
 pE:bs.length<=100000000000
 room:s.len<=s.cap
def uv(e:Int):List PanicEntry:=[{ v:=.iface 334<|vi e,recovered:=false }]
section
variable {S:NP} {w w':World} {a:Addr} {s:Sl} {bs:List UInt8} {at_ cm spot:Int}
def iy.ext{F}(h:iy S w a s bs at_ cm spot)(E:ab F w w')(c:∀b,S b->¬F b)(d:¬F a.block):iy S w' a s bs at_ cm spot:=
 ⟨h.box.ext E d,h.ei.ext E c,h.apart,h.pE,h.room⟩
def iy.pure(h:iy S w a s bs at_ cm spot)(E:Pure w w'):iy S w' a s bs at_ cm spot:=h.ext E (fun _ _ h=>h) id
def iy.jv(h:iy S w a s bs at_ cm spot):w.cell? (a.add 1)=some (vi at_):=h.box.cell (i:=1) rfl
def iy.rm(h:iy S w a s bs at_ cm spot):w.cell? (a.add 2)=some (vi cm):=h.box.cell (i:=2) rfl
def iy.wL(h:iy S w a s bs at_ cm spot)(k):iy S (w.setCell (a.add 1)<|vi k) a s bs k cm spot:=
 ⟨h.box.set 1 _,h.ei.ext (ab.setCell _ _) fun b c e=>h.apart b c (by rw[zC]at e;exact e),h.apart,h.pE,h.room⟩
def iy.Hu(h:iy S w a s bs at_ cm spot)(k):iy S (w.setCell (a.add 2)<|vi k) a s bs at_ k spot:=
 ⟨h.box.set 2 _,h.ei.ext (ab.setCell _ _) fun b c e=>h.apart b c (by rw[zC]at e;exact e),h.apart,h.pE,h.room⟩
def iy.GZ(h:iy S w a s bs at_ cm spot)(k):iy S (w.setCell (a.add 3)<|vi k) a s bs at_ cm k:=
 ⟨h.box.set 3 _,h.ei.ext (ab.setCell _ _) fun b c e=>h.apart b c (by rw[zC]at e;exact e),h.apart,h.pE,h.room⟩
def qR{k v}:ab (·=a.block) w (w.setCell (a.add k) v):=(ab.setCell _ _).mono (fun i _ e=>by rw[zC]at e;exact e)
end
def Pk{S}(a s bs)(at_:Nat)(cm spot:Int)(w0)(h:iy S w0 a s bs at_ cm spot)(m:at_<=bs.length):
  cl 296 #[vp<|some a] w0 (fun e w'=>(∃b:at_<bs.length,e=.returned (.int .u8 (bs[at_].toNat:Int))/\iy S w' a s bs ((at_+1:Nat):Int) cm spot/\ab (·=a.block) w0 w') \/
   (at_=bs.length/\e=.panicked (uv 3)/\iy S w' a s bs at_ cm spot/\ab (·=a.block) w0 w')):=by
 refine(jcg (some a) w0 (fun o r w'=>(∃b:at_<bs.length,o=none/\r=(bs[at_].toNat:Int)/\iy S w' a s bs ((at_+1:Nat):Int) cm spot/\ab (·=a.block) w0 w')\/(at_=bs.length/\o=some (uv 3)/\iy S w' a s bs at_ cm spot/\ab (·=a.block) w0 w')) ?_).mono ?_
 .refine⟨a,rfl,fun q hs=>?_⟩
  have h1:=h.pure hs.first
  have p:s.len=bs.length:=by rw[h.ei.len,qA]
  refine⟨_,h1.jv,a,rfl,s,h1.box.bd,fun j=>?_,fun j=>?_⟩
  .have:at_=bs.length:=Oh<|beq_iff_eq.1 j
   exact .inr ⟨this,rfl,h1,ab.pure hs.first⟩
  .have n:at_≠bs.length:=Oh<|beq_eq_false_iff_ne.1 j
   have b:at_<bs.length:=Om
   refine⟨a,rfl,_,h1.jv,a,rfl,h1.box.ee (i:=1) Sm,id,?_⟩
   rintro u rfl
   have l:IntKind.i64.wrap ((at_:Int)+1)=((at_+1:Nat):Int):=zN b<|Oh h.pE
   rw[l]
   have h2:=h1.wL ((at_+1:Nat):Int)
   refine⟨a,rfl,fun t d=>?_⟩
   have h3:=h2.pure d.ext
   have g:IntKind.i64.wrap (((at_+1:Nat):Int)-1)=(at_:Int):=by
    rw[IntWalk.i64_in _<|Oh h.pE];omega
   have⟨c,f,_,k⟩:=BY h3.ei b
   refine⟨s,h3.box.bd,a,rfl,_,h3.jv,c,?_,_,k,.inl ⟨b,rfl,rfl,h3,((ab.pure hs.first).trans qR).fb d.ext⟩⟩
   rw[g];exact f
 .grind
def O4{S}(a s bs)(at_:Nat)(cm spot:Int)(w0)(h:iy S w0 a s bs at_ cm spot)(F:at_<=bs.length):
  cl 292 #[vp<|some a] w0 (fun e w'=>(∃n k:Nat,xU 0 0 (bs.drop at_)=.ok (n,k)/\e=.returned (vu (n:Int))/\n<18446744073709551616/\at_+k<=bs.length/\iy S w' a s bs ((at_+k:Nat):Int) cm spot/\ab (·=a.block) w0 w') \/
   (∃x:Nat,∃sA:Int,xU 0 0 (bs.drop at_)=.error x/\e=.panicked (uv x)/\iy S w' a s bs sA cm spot/\ab (·=a.block) w0 w')):=by
 refine (jai (some a) w0 (fun o r w' => (∃ n k : Nat, xU 0 0 (bs.drop at_) = .ok (n, k) /\ o = none /\ r = (n : Int) /\ n < 18446744073709551616 /\ at_ + k <= bs.length /\ iy S w' a s bs ((at_ + k : Nat) : Int) cm spot /\ ab (· = a.block) w0 w') \/
   (∃x:Nat,∃sA:Int,xU 0 0 (bs.drop at_)=.error x/\o=some (uv x)/\iy S w' a s bs sA cm spot/\ab (·=a.block) w0 w')) ?_).mono ?_
 refine⟨fun n i w=>∃d k:Nat,n=(d:Int)/\i=(k:Int)/\k<=9/\d<2^(7*k)/\at_+k<=bs.length/\xU k d (bs.drop<|at_+k)=xU 0 0 (bs.drop at_)/\iy S w a s bs ((at_+k:Nat):Int) cm spot/\ab (·=a.block) w0 w,fun _ i _=>(10-i).toNat,⟨0,0,rfl,rfl,Om,Sm,by simpa using F,rfl,by simpa using h,ab.refl _⟩,?_⟩
 rintro _ _ wl ⟨d,k,rfl,rfl,P,l,H,b,I,B⟩
 refine(Pk a s bs (at_+k) cm spot wl I H).mono ?_
 rintro e Q (⟨D,rfl,g,f⟩|⟨C,rfl,g,f⟩)
 refine .inl ⟨_,rfl,?_⟩
 have v:bs.drop (at_+k)=bs[at_+k] ::bs.drop (at_+k+1):=drop_eq_getElem_cons D
 generalize O:bs[at_+k]=c at *
 have K:=c.toNat_lt
 rw[v,xS]at b
 refine⟨fun E=>?_,fun E=>?_⟩
 have t:k=9/\1<c.toNat:=by simp at E;omega
 rw[if_pos t]at b
 exact .inr ⟨11,_,b.symm,rfl,g,B.trans f⟩
 have t:¬(k=9/\1<c.toNat):=by intro hh;simp at E;omega
 rw[if_neg t]at b
 have u:c.toNat%128*2^(7*k)<18446744073709551616:=by
  by_cases M:k=9;subst M;omega;have J:2^(7*k)<=2^56:=Nat.pow_le_pow_right Om Om;have m:c.toNat%128<=127:=Om
  calc c.toNat%128*2^(7*k)<=127*2^56:=Nat.mul_le_mul m J
   _<18446744073709551616:=De
 have A:d<18446744073709551616:=Nat.lt_of_lt_of_le l (by
  calc 2^(7*k)<=2^63:=Nat.pow_le_pow_right Om Om
   _<=18446744073709551616:=by decide)
 have L:IntKind.i64.wrap (7*(k:Int))=((7*k:Nat):Int):=by rw[IntWalk.i64_in _ Om];simp
 have p:128^k=2^(7*k):=by rw[Nat.pow_mul]
 have q:d |||(c.toNat%128*2^(7*k))=d+c.toNat%128*2^(7*k):=Nz l
 have z:d+c.toNat%128*2^(7*k)<18446744073709551616:=by
  rw[<-q];exact Nat.or_lt_two_pow (n:=64) A u
 unfold Gl
 rw[L]
 refine⟨_,Ua c.toNat K,_,by rw[qB Om];exact Y0 _ _ Om u,_,zCY _ _ A u,?_⟩
 rw[q]
 refine⟨fun hs=>?_,fun hs=>?_⟩
 have j:c.toNat<128:=Oh<|of_decide_eq_true hs
 rw[if_pos j]at b
 refine⟨fun G=>?_,fun G=>?_⟩
 have y:c.toNat=0/\0<k:=by simp at G;omega
 rw[if_pos y]at b
 exact .inr ⟨10,_,b.symm,rfl,g,B.trans f⟩
 have y:¬(c.toNat=0/\0<k):=by intro hh;simp at G;omega
 rw[if_neg y,p]at b
 rw[Nat.mod_eq_of_lt j]at z|-
 exact .inl ⟨_,k+1,b.symm,rfl,rfl,z,Om,g,B.trans f⟩
 have j:¬c.toNat<128:=Oh<|of_decide_eq_false hs
 rw[if_neg j,p]at b
 have N:k≠9:=Om
 rw[zN (n:=10) Om Om]
 refine⟨⟨_,k+1,rfl,rfl,Om,?_,Om,b,g,B.trans f⟩,by show(10-((k+1:Nat):Int)).toNat<(10-(k:Int)).toNat;omega⟩
 have:2^(7*(k+1))=128*2^(7*k):=by rw[Nat.mul_add,Nat.pow_add];omega
 rw[this]
 have m:c.toNat%128*2^(7*k)<=127*2^(7*k):=Nat.mul_le_mul_right _ Om
 omega
 refine .inr ⟨_,rfl,.inr ⟨3,_,?_,rfl,g,B.trans f⟩⟩
 rw[<-b,C,drop_length];rfl
 grind
abbrev fj(S:NP)(w:World)(a:Addr)(s:Sl)(bs:List UInt8)(r:Rd):Prop:=iy S w a s bs r.at_ r.cm r.spot
def y6{w p u v T}(h:ai w p [u] T):ai (w.setCell p v) p [v] T:=h.jb
def iy.Gu{S w a s bs at_ cm spot}(h:iy S w a s bs at_ cm spot)(f e):
  zL w (a.add 1)/\zL w (a.add 2)/\zL w (a.add 3)/\iy S (((w.setCell (a.add 1)<|vi f).setCell (a.add 2)<|vi e).setCell (a.add 3)<|vi f) a s bs f e f:=
 ⟨h.box.ee (i:=1) Sm,h.box.ee (i:=2) Sm,h.box.ee (i:=3) Sm,((h.wL f).Hu e).GZ f⟩
def zu{w:World}{a:Addr}{u v x:Value}:ab (·=a.block) w (((w.setCell (a.add 1) u).setCell (a.add 2) v).setCell (a.add 3) x):=(qR.trans qR).trans qR
def Bu{S:NP}(a:Addr)(s:Sl)(bs:List UInt8)(r:Rd)(g:World)(h:fj S g a s bs r)(K:r.at_<=bs.length)(hS:∀b,S b->b<g.heap.size):
  cl 252 #[vp<|some a] g<|XW fun x w'=>x=((vY bs r).1:Int)/\fj S w' a s bs (vY bs r).2/\ab (·=a.block) g w':=by
 refine Q4 (some a) g _ ?_
 intro C N n1 f D n2
 have m:Pure g N:=ab.aw n1
 have u:Pure g D:=m.trans<|ab.aw n2
 have y:D.cell? C=some (vp<|some a):=(ab.aw (F:=ar) n2).cell (ai.fp n1).bd id
 have b1:=n1.cu
 have b2:=n2.cu
 have T:C.block≠f.block:=Oh<|World.block_lt_of_cell? N C (ai.fp n1).bd
 have Q:=World.block_lt_of_cell? g a h.box.bd
 have H:=ai.fp n2
 have h2:=h.pure u
 refine⟨some a,y,?_⟩
 have E:∀d,(ai d f [vu ((vY bs r).1:Int)] 23/\fj S d a s bs (vY bs r).2/\ab (·=a.block) g d)->∃M:Int,d.cell? f=some (vu M)/\zL d f/\∀c:World,c=d.setCell f (vu M)->∃B:Int,c.cell? f=some (vu B)/\(B=((vY bs r).1:Int)/\fj S c a s bs (vY bs r).2/\ab (·=a.block) g c):=by
  rintro d ⟨hB,v,t⟩;refine⟨_,hB.bd,hB.ia Sm,?_⟩;rintro c rfl;have A:ab (·=f.block) d (d.setCell f<|vu ((vY bs r).1:Int)):=ab.setCell _ _;exact⟨_,(y6 hB).bd,rfl,v.ext A (fun b J e=>Oi (hS b J) m.size) fun e=>Oh m.size,t.cg A fun i hi e=>Oh m.size⟩
 by_cases z:r.cm=0
 refine(HC a 291 _ r.at_ D (fun d=>ai d f [vu ((vY bs r).1:Int)] 23/\fj S d a s bs (vY bs r).2/\ab (·=a.block) g d) h2.jv (by have:=h2.rm;rw[z]at this;exact this) call291 ?_).mono ?_
 intro d p P l Z V L w
 have h3:=h2.pure l
 refine(jcm C f d (fun o c=>(o=none/\(ai c f [vu ((vY bs r).1:Int)] 23/\fj S c a s bs (vY bs r).2/\ab (·=a.block) g c))\/(∃x,o=some (uv x)/\c.cell? p=some (vp<|some a)/\c.cell? P=some (vi r.at_)/\zL c (a.add 1)/\zL c (a.add 2)/\zL c (a.add 3) /\
  (ai (((c.setCell (a.add 1)<|vi r.at_).setCell (a.add 2)<|vi x).setCell (a.add 3)<|vi r.at_) f [vu ((vY bs r).1:Int)] 23/\fj S (((c.setCell (a.add 1)<|vi r.at_).setCell (a.add 2)<|vi x).setCell (a.add 3)<|vi r.at_) a s bs (vY bs r).2/\ab (·=a.block) g (((c.setCell (a.add 1)<|vi r.at_).setCell (a.add 2)<|vi x).setCell (a.add 3)<|vi r.at_)))) ?_).mono ?_
 refine⟨some a,l.cell y id,?_⟩
 refine(O4 a s bs r.at_ r.cm r.spot d h3 K).mono ?_
 rintro e c (⟨n,k,G,rfl,O,W,v,t⟩|⟨x,sA,G,rfl,v,t⟩)
 refine .inl ⟨_,rfl,?_⟩
 have q:ai c f [vu 0] 23:=(H.pure l).ext t fun e=>Oh m.size
 refine⟨q.ia Sm,?_⟩
 rintro Y rfl
 have A:ab (·=f.block) c (c.setCell f<|vu (n:Int)):=ab.setCell _ _
 have j:vY bs r=(n,⟨r.at_+k,0,r.spot⟩):=by simp[vY,z,G]
 rw[j]
 refine .inl ⟨rfl,y6 q,?_,((ab.pure<|u.trans l).trans t).cg A fun i hi e=>Oh m.size⟩
 have:=v.ext A (fun b J e=>Oi (hS b J) m.size) fun e=>Oh m.size
 rw[z]at this
 exact this
 refine .inr ⟨_,rfl,.inr ⟨x,rfl,?_⟩⟩
 have j:vY bs r=(0,⟨r.at_,x,r.at_⟩):=by simp[vY,z,G]
 have q:ai c f [vu 0] 23:=(H.pure l).ext t fun e=>Oh m.size
 have⟨X,U,R,I⟩:=v.Gu r.at_ x
 rw[j]
 exact⟨t.cell L fun e=>Oh u.size,t.cell w fun e=>Oh u.size,X,U,R,q.ext zu fun e=>Oh m.size,I,((ab.pure<|u.trans l).trans t).trans zu⟩
 rintro e c (⟨rfl,h⟩|⟨ch,rfl,h⟩)
 grind
 rcases h with⟨h,_⟩|⟨x,h1,h⟩
 cases h
 cases h1;exact .inr ⟨x,rfl,h⟩
 grind
 refine(FL a _ r.cm D h2.rm Om).mono ?_
 rintro e d ⟨rfl,l⟩
 have j:vY bs r=(0,r):=by simp[vY,z]
 refine⟨rfl,E d ?_⟩
 rw[j]
 exact⟨H.pure l,h2.pure l,ab.pure<|u.trans l⟩
def jaQ{S:NP}(a:Addr)(s:Sl)(bs:List UInt8)(r:Rd)(g:World)(h:fj S g a s bs r)(J:r.at_<=bs.length)(hS:∀b,S b->b<g.heap.size):
  cl 272 #[vp<|some a] g<|XV fun x w'=>x=((xN bs r).1:Int)/\fj S w' a s bs (xN bs r).2/\ab (·=a.block) g w':=by
 refine jcJ (some a) g _ ?_
 intro A M n1 f B n2
 have l:Pure g M:=ab.aw n1
 have q:Pure g B:=l.trans<|ab.aw n2
 have v:B.cell? A=some (vp<|some a):=(ab.aw (F:=ar) n2).cell (ai.fp n1).bd id
 have b1:=n1.cu
 have b2:=n2.cu
 have Q:A.block≠f.block:=Oh<|World.block_lt_of_cell? M A (ai.fp n1).bd
 have O:=World.block_lt_of_cell? g a h.box.bd
 have G:=ai.fp n2
 have h2:=h.pure q
 refine⟨some a,v,?_⟩
 have E:∀d,(ai d f [.int .u8 ((xN bs r).1:Int)] 5/\fj S d a s bs (xN bs r).2/\ab (·=a.block) g d)->∃L:Int,d.cell? f=some (.int .u8 L)/\zL d f/\∀c:World,c=d.setCell f (.int .u8 L)->∃z:Int,c.cell? f=some (.int .u8 z)/\(z=((xN bs r).1:Int)/\fj S c a s bs (xN bs r).2/\ab (·=a.block) g c):=by
  rintro d ⟨hB,t,n⟩;refine⟨_,hB.bd,hB.ia Sm,?_⟩;rintro c rfl;have y:ab (·=f.block) d (d.setCell f<|.int .u8 ((xN bs r).1:Int)):=ab.setCell _ _;exact⟨_,(y6 hB).bd,rfl,t.ext y (fun b I e=>Oi (hS b I) l.size) fun e=>Oh l.size,n.cg y fun i hi e=>Oh l.size⟩
 by_cases w:r.cm=0
 refine(HC a 295 _ r.at_ B (fun d=>ai d f [.int .u8 ((xN bs r).1:Int)] 5/\fj S d a s bs (xN bs r).2/\ab (·=a.block) g d) h2.jv (by have:=h2.rm;rw[w]at this;exact this) call295 ?_).mono ?_
 intro d p N k W T K u
 have h3:=h2.pure k
 refine(jci A f d (fun o c=>(o=none/\(ai c f [.int .u8 ((xN bs r).1:Int)] 5/\fj S c a s bs (xN bs r).2/\ab (·=a.block) g c))\/(∃x,o=some (uv x)/\c.cell? p=some (vp<|some a)/\c.cell? N=some (vi r.at_)/\zL c (a.add 1)/\zL c (a.add 2)/\zL c (a.add 3) /\
  (ai (((c.setCell (a.add 1)<|vi r.at_).setCell (a.add 2)<|vi x).setCell (a.add 3)<|vi r.at_) f [.int .u8 ((xN bs r).1:Int)] 5/\fj S (((c.setCell (a.add 1)<|vi r.at_).setCell (a.add 2)<|vi x).setCell (a.add 3)<|vi r.at_) a s bs (xN bs r).2/\ab (·=a.block) g (((c.setCell (a.add 1)<|vi r.at_).setCell (a.add 2)<|vi x).setCell (a.add 3)<|vi r.at_)))) ?_).mono ?_
 refine⟨some a,k.cell v id,?_⟩
 refine(Pk a s bs r.at_ r.cm r.spot d h3 J).mono ?_
 rintro e c (⟨D,rfl,t,n⟩|⟨C,rfl,t,n⟩)
 refine .inl ⟨_,rfl,?_⟩
 have m:ai c f [.int .u8 0] 5:=(G.pure k).ext n fun e=>Oh l.size
 refine⟨m.ia Sm,?_⟩
 rintro V rfl
 have y:ab (·=f.block) c (c.setCell f<|.int .u8 (bs[r.at_].toNat:Int)):=ab.setCell _ _
 have j:xN bs r=(bs[r.at_].toNat,⟨r.at_+1,0,r.spot⟩):=by simp[xN,w,D]
 rw[j]
 refine .inl ⟨rfl,y6 m,?_,((ab.pure<|q.trans k).trans n).cg y fun i hi e=>Oh l.size⟩
 have:=t.ext y (fun b I e=>Oi (hS b I) l.size) fun e=>Oh l.size
 rw[w]at this
 exact this
 refine .inr ⟨_,rfl,.inr ⟨3,rfl,?_⟩⟩
 have j:xN bs r=(0,⟨r.at_,3,r.at_⟩):=by simp[xN,w,C]
 have m:ai c f [.int .u8 0] 5:=(G.pure k).ext n fun e=>Oh l.size
 have⟨U,R,P,H⟩:=t.Gu r.at_ 3
 rw[j]
 exact⟨n.cell K fun e=>Oh q.size,n.cell u fun e=>Oh q.size,U,R,P,m.ext zu fun e=>Oh l.size,H,((ab.pure<|q.trans k).trans n).trans zu⟩
 rintro e c (⟨rfl,h⟩|⟨X,rfl,h⟩)
 grind
 rcases h with⟨h,_⟩|⟨x,h1,h⟩
 cases h
 cases h1;exact .inr ⟨x,rfl,h⟩
 grind
 refine(FL a _ r.cm B h2.rm Om).mono ?_
 rintro e d ⟨rfl,k⟩
 have j:xN bs r=(0,r):=by simp[xN,w]
 refine⟨rfl,E d ?_⟩
 rw[j]
 exact⟨G.pure k,h2.pure k,ab.pure<|q.trans k⟩
end Go.Proofs
end
section
open Go Go.SE
namespace Go.Proofs
open Tryz
attribute [local irreducible] Calls CallsD
def jcp{S:NP}(a:Addr)(s:Sl)(bs:List UInt8)(c:Nat)(r:Rd)(j:World)(h:fj S j a s bs r)(hat:r.at_<=bs.length)(hS:∀b,S b->b<j.heap.size)(hm:c<=1000000000):
  cl 260 #[vp<|some a,vi (c:Int)] j<|XS fun x w'=>x=⟨(qI bs c r).1.toArray⟩/\fj S w' a s bs (qI bs c r).2/\ab (·=a.block) j w':=by
 refine WB (some a) c j _ ?_
 intro E w1 n1 pm L nm g W n2
 have E1:Pure j w1:=ab.aw n1
 have T:Pure j L:=E1.trans<|ab.aw nm
 have N:Pure j W:=T.trans<|ab.aw n2
 have C:L.cell? E=some (vp<|some a):=(ab.aw (F:=ar) nm).cell (ai.fp n1).bd id
 have D:W.cell? E=some (vp<|some a):=(ab.aw (F:=ar) n2).cell C id
 have V:W.cell? pm=some (vi (c:Int)):=(ab.aw (F:=ar) n2).cell (ai.fp nm).bd id
 have b1:=n1.cu
 have bm:=nm.cu
 have b2:=n2.cu
 have b12:E.block≠g.block:=Oh<|World.block_lt_of_cell? L E C
 have ha0:=World.block_lt_of_cell? j a h.box.bd
 have B2:=ai.fp n2
 have h2:=h.pure N
 have g1:j.heap.size<=g.block:=Oh T.size
 have g2:j.heap.size<=E.block:=Om
 have g3:j.heap.size<=pm.block:=Oh E1.size
 refine⟨some a,D,?_⟩
 have fin:∀f,(ai f g [vs ⟨(qI bs c r).1.toArray⟩] 9/\fj S f a s bs (qI bs c r).2/\ab (·=a.block) j f)->∃v2:ByteArray,f.cell? g=some (vs v2)/\zL f g/\∀d:World,d=f.setCell g (vs v2)->∃Y:ByteArray,d.cell? g=some (vs Y)/\(Y=⟨(qI bs c r).1.toArray⟩/\fj S d a s bs (qI bs c r).2/\ab (·=a.block) j d):=by
  rintro f ⟨hB,A,l⟩;refine⟨_,hB.bd,hB.ia Sm,?_⟩;rintro d rfl;have M:ab (·=g.block) f (f.setCell g<|vs ⟨(qI bs c r).1.toArray⟩):=ab.setCell _ _;exact⟨_,(y6 hB).bd,rfl,A.ext M Gd fun e=>Om,l.cg M fun i hi e=>Om⟩
 by_cases G:r.cm=0
 refine(HC a 293 _ r.at_ W (fun f=>ai f g [vs ⟨(qI bs c r).1.toArray⟩] 9/\fj S f a s bs (qI bs c r).2/\ab (·=a.block) j f) h2.jv (by have:=h2.rm;rw[G]at this;exact this) call293 ?_).mono ?_
 intro f p pf q hp hpf hpc Q
 have h3:=h2.pure q
 refine(ZQ E pm g f (fun o d=>(o=none/\(ai d g [vs ⟨(qI bs c r).1.toArray⟩] 9/\fj S d a s bs (qI bs c r).2/\ab (·=a.block) j d))\/(∃x,o=some (uv x)/\d.cell? p=some (vp<|some a)/\d.cell? pf=some (vi r.at_)/\zL d (a.add 1)/\zL d (a.add 2)/\zL d (a.add 3) /\
  (ai (((d.setCell (a.add 1)<|vi r.at_).setCell (a.add 2)<|vi x).setCell (a.add 3)<|vi r.at_) g [vs ⟨(qI bs c r).1.toArray⟩] 9/\fj S (((d.setCell (a.add 1)<|vi r.at_).setCell (a.add 2)<|vi x).setCell (a.add 3)<|vi r.at_) a s bs (qI bs c r).2/\ab (·=a.block) j (((d.setCell (a.add 1)<|vi r.at_).setCell (a.add 2)<|vi x).setCell (a.add 3)<|vi r.at_)))) ?_).mono ?_
 refine⟨some a,q.cell D id,?_⟩
 refine(O4 a s bs r.at_ r.cm r.spot f h3 hat).mono ?_
 have u:∀(x:Nat) (sA:Int) (d:World),qI bs c r=([],⟨r.at_,x,r.at_⟩)->iy S d a s bs sA r.cm r.spot->ab (·=a.block) f d->(∃y,some (uv x)=some (uv y)/\d.cell? p=some (vp<|some a)/\d.cell? pf=some (vi r.at_)/\zL d (a.add 1)/\zL d (a.add 2)/\zL d (a.add 3) /\
  (ai (((d.setCell (a.add 1)<|vi r.at_).setCell (a.add 2)<|vi y).setCell (a.add 3)<|vi r.at_) g [vs ⟨(qI bs c r).1.toArray⟩] 9/\fj S (((d.setCell (a.add 1)<|vi r.at_).setCell (a.add 2)<|vi y).setCell (a.add 3)<|vi r.at_) a s bs (qI bs c r).2/\ab (·=a.block) j (((d.setCell (a.add 1)<|vi r.at_).setCell (a.add 2)<|vi y).setCell (a.add 3)<|vi r.at_))):=by
  intro x sA d v A l
  have hB4:ai d g [vs ⟨#[]⟩] 9:=(B2.pure q).ext l fun e=>Om
  have⟨c1,c2,c3,hR'⟩:=A.Gu r.at_ x
  rw[v]
  exact⟨x,rfl,l.cell hpc fun e=>Oh N.size,l.cell Q fun e=>Oh N.size,c1,c2,c3,hB4.ext zu fun e=>Om,hR',((ab.pure<|N.trans q).trans l).trans zu⟩
 rintro e d (⟨n,k,P,rfl,hlt,hle,A,l⟩|⟨x,sA,P,rfl,A,l⟩)
 refine .inl ⟨_,rfl,l.bl fun b B=>B.elim,_,l.cell (q.cell V id) fun e=>Om,fun B=>?_,fun _=>⟨_,l.cell (q.cell V id) fun e=>Om,?_⟩⟩
 grind
 rw[qB Om]
 refine⟨fun B=>?_,fun B=>?_⟩
 have m:c<n:=Oh<|of_decide_eq_true B
 exact .inr<|u 1 _ d (by simp[qI,G,P,m]) A l
 have m:¬c<n:=Oh<|of_decide_eq_false B
 intro w5 hs5
 have E5:=hs5.ext
 have z:=A.pure E5
 have K:w5.cell? E=some (vp<|some a):=E5.cell (l.cell (q.cell D id) fun e=>Om) id
 have hl:s.len=bs.length:=by rw[h.ei.len,qA]
 have hsm:=h.pE
 have J:ab (·=a.block) f w5:=l.fb E5
 refine⟨_,K,a,rfl,s,z.box.bd,_,K,a,rfl,_,z.jv,?_⟩
 have hw1:IntKind.u64.wrap (IntKind.i64.wrap<|(s.len:Int)-((r.at_+k:Nat):Int))=((bs.length-(r.at_+k):Nat):Int):=by
  rw[hl,IntWalk.i64_in _ Om,show((bs.length:Int)-((r.at_+k:Nat):Int))=((bs.length-(r.at_+k):Nat):Int) by omega,qB Om]
 rw[hw1]
 refine⟨fun H=>?_,fun H=>?_⟩
 have hg:bs.length<r.at_+k+n:=Oh<|of_decide_eq_true H
 exact .inr<|u 3 _ w5 (by simp[qI,G,P,m,hg]) z J
 have hg:¬bs.length<r.at_+k+n:=Oh<|of_decide_eq_false H
 have v:qI bs c r=((bs.drop<|r.at_+k).take n,⟨r.at_+k+n,0,r.spot⟩):=by simp[qI,G,P,m,hg]
 refine⟨fun _=>True,trivial,?_⟩
 intro R hw6
 have E6:Pure w5 R:=by rw[hw6];exact ab.drew _
 have t:=z.pure E6
 have w:=E6.cell K id
 have U:IntKind.i64.wrap (n:Int)=(n:Int):=IntWalk.i64_in _ Om
 have X:IntKind.i64.wrap (((r.at_+k:Nat):Int)+(n:Int))=((r.at_+k+n:Nat):Int):=by rw[IntWalk.i64_in _ Om];simp
 have⟨s1,hr1,hL1⟩:=t.ei.sub (k:=.i64) (lo:=r.at_+k) (n:=n) uu h.room (by rw[qA];omega)
 have Z:ai R g [vs ⟨#[]⟩] 9:=((B2.pure q).ext J fun e=>Om).pure E6
 have hL2:dn S R 1 s1 (dj<|(bs.drop<|r.at_+k).take n):=by
  have e:(List.drop (r.at_+k)<|dj bs).take n=dj ((bs.drop<|r.at_+k).take n):=by simp[dj,List.map_take,List.map_drop]
  rw[<-e];exact hL1
 refine⟨_,w,a,rfl,s,t.box.bd,_,w,a,rfl,_,t.jv,_,w,a,rfl,_,t.jv,s1,by rw[U,X];exact hr1,_,Cj underlying59 underlying5 underlying9 hL2,Z.ia Sm,id,?_⟩
 rintro w7 rfl
 have M:ab (·=g.block) R (R.setCell g<|vs ⟨((bs.drop<|r.at_+k).take n).toArray⟩):=ab.setCell _ _
 have I:=t.ext M (fun b B e=>Oh<|hS b B) fun e=>Om
 refine⟨_,M.cell w fun e=>b12 e,a,rfl,_,I.jv,a,rfl,I.box.ee (i:=1) Sm,id,?_⟩
 rintro w8 rfl
 rw[U,X,v]
 have O:=I.wL ((r.at_+k+n:Nat):Int)
 rw[G]at O
 exact .inl ⟨rfl,(y6 Z).ext qR fun e=>Om,O,((((ab.pure<|N.trans q).trans J).fb E6).cg M fun i hi e=>Om).trans qR⟩
 exact .inr ⟨_,rfl,.inr<|u x sA d (by simp[qI,G,P]) A l⟩
 rintro e d (⟨rfl,h⟩|⟨ch,rfl,h⟩)
 grind
 rcases h with⟨h,_⟩|⟨x,h1,h⟩
 cases h
 cases h1;exact .inr ⟨x,rfl,h⟩
 grind
 refine(FL a _ r.cm W h2.rm Om).mono ?_
 rintro e f ⟨rfl,q⟩
 have v:qI bs c r=([],r):=by simp[qI,G]
 refine⟨rfl,fin f ?_⟩
 rw[v]
 exact⟨B2.pure q,h2.pure q,ab.pure<|N.trans q⟩
end Go.Proofs
end
section
open Go Go.SE List
namespace Go.Proofs
open Tryz
attribute [local irreducible] Calls CallsD
def zCU{w e sz s rs}(h:bf w e sz s rs):s.len<=s.cap:=by
 rcases h.ak with⟨rfl,_⟩|⟨g,cur,_,_,a,_⟩;exact Nat.le_refl _;rw[h.len];exact a
def Tc{S}(s bs w0)(hs:dn S w0 1 s (dj bs))(j:s.a=none->s=Sl.nil)(g:bs.length<=100000000000):
  cl 182 #[s.v] w0<|XD fun x w'=>∃a s',x=some a/\fj s'.ao w' a s' bs ⟨0,0,0⟩/\Pure w0 w'/\w0.heap.size<=a.block/\(∀b,s'.ao b->w0.heap.size<=b/\b<w'.heap.size):=by
 refine Xd _ w0 _ ?_
 refine(QJ s bs w0 hs j g).mono ?_
 rintro _ i ⟨r1,rfl,c⟩
 refine⟨r1,rfl,fun h k n2=>⟨h,r1,rfl,?_,c.pure.trans<|ab.aw n2,by rw[n2.cu];exact c.pure.size,fun b d=>⟨c.ak b d,?_⟩⟩⟩
 have f:∀b,r1.ao b->b<i.heap.size:=fun b d=>c.cj.lt d
 exact⟨ai.fp n2,(c.cj.pure<|ab.aw n2).ei,fun b d e=>Oi (f b d) n2.cu,g,zCU c.cj⟩
 exact(c.cj.pure<|ab.aw n2).lt d
def Vy{S}(a s bs r w0)(h:fj S w0 a s bs r)(b:r.at_<=bs.length):
  cl 183 #[vp<|some a] w0<|XB fun x w'=>x=((bs.length-r.at_:Nat):Int)/\Pure w0 w':=by
 refine TX (some a) w0 _ ?_
 refine⟨fun d=>(by cases d),fun _=>⟨a,rfl,fun e hs=>?_⟩⟩
 have h1:=h.pure hs.first
 have c:s.len=bs.length:=by rw[h.ei.len,qA]
 refine⟨s,h1.box.bd,a,rfl,_,h1.jv,?_,hs.first⟩
 rw[c,IntWalk.i64_in _<|Oh h.pE];omega
def jaz{S}(a s bs r w0)(h:fj S w0 a s bs r):
  cl 184 #[vp<|some a] w0<|XB fun x w'=>x=(r.at_:Int)/\w'=w0:=by
 refine jbh (some a) w0 _ ?_
 exact⟨fun b=>(by cases b),fun _=>⟨a,rfl,_,h.jv,rfl,rfl⟩⟩
def jcG{S}(a s bs r w0)(h:fj S w0 a s bs r):
  cl 273 #[vp<|some a] w0<|XH fun x y w'=>x=(r.cm:Int)/\y=(r.spot:Int)/\Pure w0 w':=by
 refine jcV (some a) w0 _ ?_
 refine⟨fun b=>(by cases b),fun _=>⟨a,rfl,fun c hs=>?_⟩⟩
 have h1:=h.pure hs.first
 exact⟨_,h1.rm,a,rfl,_,h1.box.cell (i:=3) rfl,rfl,rfl,hs.first⟩
def fx.after{w w1 w2 e sz rs s}(E:Pure w w1)(h:fx w1 e sz rs s w2):fx w e sz rs s w2:=
 ⟨h.cj,fun b a=>Nat.le_trans E.size<|h.ak b a,E.trans h.pure⟩
section
variable {S:NP} (s:Sl) (bs:List UInt8) (k f t x a b:Int) (y:ByteArray) (m:Option Nat) (w0:World) (hs:dn S w0 1 s (dj bs)) (hz:s.a=none->s=Sl.nil) (hn:bs.length<=10000000000)
include hs hz hn
def X0(n:Nat)(g:f=n)(h:n<9223372036854775808):
  cl 249 #[s.v,.agg #[vi k,vi f,vi t,vu x,vs y,vi a,vi b],.map m] w0<|XA fun r w'=>fx w0 5 1 (dj<|bs++vF n) r w':=by
 subst g
 refine Wj s k n t x y a b m w0 _ ?_
 intro i e c
 rw[qB Om]
 refine(Ao s bs n e (hs.pure c.first) hz hn Om).mono ?_
 rintro _ j ⟨r,rfl,d⟩
 exact⟨r,rfl,d.bl,d.after c.first⟩
def zIH(n:Nat)(ht:t=n)(g:n<9223372036854775808):
  cl 253 #[s.v,.agg #[vi k,vi f,vi t,vu x,vs y,vi a,vi b],.map m] w0<|XA fun r w'=>fx w0 5 1 (dj<|bs++vF n) r w':=by
 subst ht
 refine jbR s k f n x y a b m w0 _ ?_
 intro h e c
 rw[qB Om]
 refine(Ao s bs n e (hs.pure c.first) hz hn Om).mono ?_
 rintro _ i ⟨r,rfl,d⟩
 exact⟨r,rfl,d.bl,d.after c.first⟩
def Ri(n:Nat)(g:x=n)(h:n<18446744073709551616):
  cl 255 #[s.v,.agg #[vi k,vi f,vi t,vu x,vs y,vi a,vi b],.map m] w0<|XA fun r w'=>fx w0 5 1 (dj<|bs++vF n) r w':=by
 subst g
 refine Q6 s k f t n y a b m w0 _ ?_
 intro i e c
 refine(Ao s bs n e (hs.pure c.first) hz hn Om).mono ?_
 rintro _ j ⟨r,rfl,d⟩
 exact⟨r,rfl,d.bl,d.after c.first⟩
def V0(e:y.size<=10000000000):
  cl 257 #[s.v,.agg #[vi k,vi f,vi t,vu x,vs y,vi a,vi b],.map m] w0<|XA fun r w'=>fx w0 5 1 (dj<|bs++vV y) r w':=by
 refine jaL s k f t x y a b m w0 _ ?_
 intro h g c
 refine(Vc s bs y g (hs.pure c.first) hz hn e).mono ?_
 rintro _ i ⟨r,rfl,d⟩
 exact⟨r,rfl,d.bl,d.after c.first⟩
def Vj(d:Nat)(M:List (Int×Int))(n:Nat)(j:fc (fun i:Int=>vi i) w0 d M)(e:SE.eu M a=some (n:Int))(m:n<9223372036854775808):
  cl 261 #[s.v,.agg #[vi k,vi f,vi t,vu x,vs y,vi a,vi b],.map<|some d] w0<|XA fun r w'=>fx w0 5 1 (dj<|bs++vF n) r w':=by
 refine Yr s k f t x y a b (some d) w0 _ ?_
 intro o l c
 rcases(j.pure c.first).get (P:=prog) (T:=231) underlying231 underlying73 (zeroValue3 _) a false with⟨h1,_⟩|⟨v,h1,h⟩
 .rw[e]at h1;cases h1
 rw[e]at h1;cases h1
 refine⟨_,h,?_⟩
 rw[qB Om]
 refine(Ao s bs n l (hs.pure c.first) hz hn Om).mono ?_
 rintro _ p ⟨r,rfl,g⟩
 exact⟨r,rfl,g.bl,g.after c.first⟩
def Xh(d:Nat)(M:List (Int×Int))(n:Nat)(j:fc (fun i:Int=>vi i) w0 d M)(e:SE.eu M b=some (n:Int))(m:n<9223372036854775808):
  cl 263 #[s.v,.agg #[vi k,vi f,vi t,vu x,vs y,vi a,vi b],.map<|some d] w0<|XA fun r w'=>fx w0 5 1 (dj<|bs++vF n) r w':=by
 refine Uu s k f t x y a b (some d) w0 _ ?_
 intro o l c
 rcases(j.pure c.first).get (P:=prog) (T:=231) underlying231 underlying73 (zeroValue3 _) b false with⟨h1,_⟩|⟨v,h1,h⟩
 .rw[e]at h1;cases h1
 rw[e]at h1;cases h1
 refine⟨_,h,?_⟩
 rw[qB Om]
 refine(Ao s bs n l (hs.pure c.first) hz hn Om).mono ?_
 rintro _ p ⟨r,rfl,g⟩
 exact⟨r,rfl,g.bl,g.after c.first⟩
end
section
variable {S:NP} (a q:Addr) (s:Sl) (bs:List UInt8) (r:Rd) (cells:List Value) (w0:World) (h:fj S w0 a s bs r) (hat:r.at_<=bs.length) (hS:∀b,S b->b<w0.heap.size) (hq:ai w0 q cells 314) (hl:cells.length=12) (haq:a.block≠q.block) (hSq:∀b,S b->b≠q.block)
include h hat hS hq hl haq hSq
def zBS:cl 251 #[vp<|some a,vp<|some q] w0 (fun e w'=>e=.returned (.tuple #[])/\fj S w' a s bs (vY bs r).2/\ai w' q (cells.set 7<|vu ((vY bs r).1:Int)) 314/\ab (fun b=>b=a.block\/b=q.block) w0 w'):=by
 refine jaX (some a) (some q) w0 (fun w'=>fj S w' a s bs (vY bs r).2/\ai w' q (cells.set 7<|vu ((vY bs r).1:Int)) 314/\ab (fun b=>b=a.block\/b=q.block) w0 w') ?_;refine(Bu a s bs r w0 h hat hS).mono ?_;rintro e f ⟨x,rfl,rfl,j,d⟩;have c:=hq.ext d fun e=>haq e.symm;refine⟨_,rfl,q,rfl,c.ee (i:=7) Om,?_⟩;rintro l rfl;have g:ab (·=q.block) f (f.setCell (q.add 7)<|vu ((vY bs r).1:Int)):=qR;exact⟨j.ext g (fun b k e=>hSq b k e) haq,c.set 7 _,(d.mono fun _ _ e=>.inl e).trans<|g.mono fun _ _ e=>.inr e⟩
def YY:cl 254 #[vp<|some a,vp<|some q] w0 (fun e w'=>e=.returned (.tuple #[])/\fj S w' a s bs (vY bs r).2/\ai w' q (cells.set 8<|vu ((vY bs r).1:Int)) 314/\ab (fun b=>b=a.block\/b=q.block) w0 w'):=by
 refine Z9 (some a) (some q) w0 (fun w'=>fj S w' a s bs (vY bs r).2/\ai w' q (cells.set 8<|vu ((vY bs r).1:Int)) 314/\ab (fun b=>b=a.block\/b=q.block) w0 w') ?_;refine(Bu a s bs r w0 h hat hS).mono ?_;rintro e f ⟨x,rfl,rfl,j,d⟩;have c:=hq.ext d fun e=>haq e.symm;refine⟨_,rfl,q,rfl,c.ee (i:=8) Om,?_⟩;rintro l rfl;have g:ab (·=q.block) f (f.setCell (q.add 8)<|vu ((vY bs r).1:Int)):=qR;exact⟨j.ext g (fun b k e=>hSq b k e) haq,c.set 8 _,(d.mono fun _ _ e=>.inl e).trans<|g.mono fun _ _ e=>.inr e⟩
def Uc:cl 256 #[vp<|some a,vp<|some q] w0 (fun e w'=>e=.returned (.tuple #[])/\fj S w' a s bs (vY bs r).2/\ai w' q (cells.set 3<|vu ((vY bs r).1:Int)) 314/\ab (fun b=>b=a.block\/b=q.block) w0 w'):=by
 refine jab (some a) (some q) w0 (fun w'=>fj S w' a s bs (vY bs r).2/\ai w' q (cells.set 3<|vu ((vY bs r).1:Int)) 314/\ab (fun b=>b=a.block\/b=q.block) w0 w') ?_;refine(Bu a s bs r w0 h hat hS).mono ?_;rintro e f ⟨x,rfl,rfl,j,d⟩;have c:=hq.ext d fun e=>haq e.symm;refine⟨_,rfl,q,rfl,c.ee (i:=3) Om,?_⟩;rintro l rfl;have g:ab (·=q.block) f (f.setCell (q.add 3)<|vu ((vY bs r).1:Int)):=qR;exact⟨j.ext g (fun b k e=>hSq b k e) haq,c.set 3 _,(d.mono fun _ _ e=>.inl e).trans<|g.mono fun _ _ e=>.inr e⟩
def ZI:cl 259 #[vp<|some a,vp<|some q] w0 (fun e w'=>e=.returned (.tuple #[])/\fj S w' a s bs (qI bs 64 r).2/\ai w' q (cells.set 4<|vs ⟨(qI bs 64 r).1.toArray⟩) 314/\ab (fun b=>b=a.block\/b=q.block) w0 w'):=by
 refine jac (some a) (some q) w0 (fun w'=>fj S w' a s bs (qI bs 64 r).2/\ai w' q (cells.set 4<|vs ⟨(qI bs 64 r).1.toArray⟩) 314/\ab (fun b=>b=a.block\/b=q.block) w0 w') ?_;refine(jcp a s bs 64 r w0 h hat hS Om).mono ?_;rintro e f ⟨x,rfl,rfl,j,d⟩;have c:=hq.ext d fun e=>haq e.symm;refine⟨_,rfl,q,rfl,c.ee (i:=4) Om,?_⟩;rintro l rfl;have g:ab (·=q.block) f (f.setCell (q.add 4)<|vs ⟨(qI bs 64 r).1.toArray⟩):=qR;exact⟨j.ext g (fun b k e=>hSq b k e) haq,c.set 4 _,(d.mono fun _ _ e=>.inl e).trans<|g.mono fun _ _ e=>.inr e⟩
def Ur:cl 262 #[vp<|some a,vp<|some q] w0 (fun e w'=>e=.returned (.tuple #[])/\fj S w' a s bs (vY bs r).2/\ai w' q ((cells.set 9<|vu ((vY bs r).1:Int)).set 11<|vi 1) 314/\ab (fun b=>b=a.block\/b=q.block) w0 w'):=by
 refine TW (some a) (some q) w0 (fun w'=>fj S w' a s bs (vY bs r).2/\ai w' q ((cells.set 9<|vu ((vY bs r).1:Int)).set 11<|vi 1) 314/\ab (fun b=>b=a.block\/b=q.block) w0 w') ?_;refine(Bu a s bs r w0 h hat hS).mono ?_;rintro e g ⟨x,rfl,rfl,k,f⟩;have c:=hq.ext f fun e=>haq e.symm;refine⟨_,rfl,q,rfl,c.ee (i:=9) Om,?_⟩;rintro n rfl;have j:ab (·=q.block) g ((g.setCell (q.add 9)<|vu ((vY bs r).1:Int)).setCell (q.add 11)<|vi 1):=qR.trans qR;have d:=c.set 9<|vu ((vY bs r).1:Int);refine⟨q,rfl,d.ee (i:=11) Gd,?_⟩;rintro m rfl;exact⟨k.ext j (fun b l e=>hSq b l e) haq,d.set 11 _,(f.mono fun _ _ e=>.inl e).trans<|j.mono fun _ _ e=>.inr e⟩
def Q8:cl 264 #[vp<|some a,vp<|some q] w0 (fun e w'=>e=.returned (.tuple #[])/\fj S w' a s bs (vY bs r).2/\ai w' q ((cells.set 10<|vu ((vY bs r).1:Int)).set 11<|vi 2) 314/\ab (fun b=>b=a.block\/b=q.block) w0 w'):=by
 refine UV (some a) (some q) w0 (fun w'=>fj S w' a s bs (vY bs r).2/\ai w' q ((cells.set 10<|vu ((vY bs r).1:Int)).set 11<|vi 2) 314/\ab (fun b=>b=a.block\/b=q.block) w0 w') ?_;refine(Bu a s bs r w0 h hat hS).mono ?_;rintro e g ⟨x,rfl,rfl,k,f⟩;have c:=hq.ext f fun e=>haq e.symm;refine⟨_,rfl,q,rfl,c.ee (i:=10) Om,?_⟩;rintro n rfl;have j:ab (·=q.block) g ((g.setCell (q.add 10)<|vu ((vY bs r).1:Int)).setCell (q.add 11)<|vi 2):=qR.trans qR;have d:=c.set 10<|vu ((vY bs r).1:Int);refine⟨q,rfl,d.ee (i:=11) Gd,?_⟩;rintro m rfl;exact⟨k.ext j (fun b l e=>hSq b l e) haq,d.set 11 _,(f.mono fun _ _ e=>.inl e).trans<|j.mono fun _ _ e=>.inr e⟩
end
end Go.Proofs
end
section
open Go.SE
namespace Go.Proofs
def gu(V:Int->Bool)(t:Int)(b:Bool):Int->Bool:=fun x=>if x=t then b else V x
def yU(L:av):Nat->Int->(Int->Bool)×List Int->(Int->Bool)×List Int
 |0,_,st=>st
 | n + 1, t, st => if al L t = true /\ st.1 t = false then
   let c:=yU L n (ad L t).b<|yU L n (ad L t).a (gu st.1 t true,st.2)
   (c.1,c.2++[t])
  else st
def dc(L:av)(t:Int):List Int:=(yU L (t.toNat+1) t (fun _=>false,[])).2
def iw.head{L t y}(h:iw L t y):y=t\/∃k∈zB (ad L t),iw L k y:=by
 induction h with
 |refl=>exact .inl rfl
 |fl _ a b =>
  rcases b with rfl|⟨k,h1,h2⟩
  exact .inr ⟨_,a,.refl _⟩
  exact .inr ⟨k,h1,h2.fl a⟩
def iw.le{L}(b:Wf L){t y}(ht:al L t=true)(h:iw L t y):al L y=true/\y<=t:=by
 induction h with
 |refl=>exact⟨ht,Int.le_refl _⟩
 |fl _ a c =>
  have:=(b.node c.1).2.2.2.2.1 _ a
  exact⟨this.1,Om⟩
def Ow{n k}(h:k∈zB n):k=n.a\/k=n.b:=by
 unfold zB at h;have:=List.mem_of_mem_take h;simpa using this
def BA{L}(c:Wf L){t k}(ht:al L t=true)(h:k=(ad L t).a\/k=(ad L t).b)(f:al L k=true):k∈zB (ad L t):=by
 have h1:=(c.node ht).2.1;have h2:=(c.node ht).2.2.1;have d:k≠0:=Oh<|(zI.1 f).1;unfold zB;rcases qV (ad L t).kind with e|e|e;grind;have b0:=h2 Om;rcases h with h|h;rw[e,h];simp;grind;rw[e];rcases h with h|h<;>simp[h]
structure tp(L:av)(st:(Int->Bool)×List Int):Prop where
 AB:∀x∈st.2,st.1 x=true
 rW:∀x∈st.2,∀y,iw L x y->y∈st.2
 nd:st.2.Nodup
 gm:∀x∈st.2,al L x=true
structure YU(L:av)(t:Int)(st a:(Int->Bool)×List Int):Prop extends tp L a where
 gn:∃M,a.2=st.2++M/\∀x∈M,iw L t x/\al L t=true
 gq:∀x,st.1 x=true->a.1 x=true
 ue:∀x,a.1 x=true->st.1 x=true\/x∈a.2
 all:al L t=true->∀y,iw L t y->y∈a.2
def tw{L}(l:Wf L):∀(n:Nat) (t:Int) (st:(Int->Bool)×List Int),t.toNat<n->tp L st->(∀x,st.1 x=true->x<=t->x∈st.2)->YU L t st (yU L n t st):=by
 intro n;induction n with
 |zero=>intro t st h;omega
 |succ n D =>
  intro t st I aq hm
  rw[yU]
  by_cases u:al L t=true/\st.1 t=false
  rw[if_pos u]
  have⟨d,s⟩:=u
  have G:=(zI.1 d).1
  have f:=(l.node d).2.2.2.2.1
  have g:∀k,k=(ad L t).a\/k=(ad L t).b->k<t:=by
   intro k i;cases H:al L k with
   |true=>exact(f k<|BA l d i H).2
   |false =>
    have h1:=(l.node d).2.1
    have h2:=(l.node d).2.2.1
    rcases qV (ad L t).kind with e|e|e
    grind
    have b0:=h2 Om
    rcases i with i|i
    have:=(f k (by unfold zB;rw[e,i];simp)).2;exact this
    omega
    exact(f k (by unfold zB;rw[e];rcases i with i|i<;>simp[i])).2
  have o1:tp L (gu st.1 t true,st.2):=⟨fun x c=>by simp only[gu];split<;>simp[aq.AB x c],aq.rW,aq.nd,aq.gm⟩
  have r1:=D (ad L t).a (gu st.1 t true,st.2) (Oh<|g _<|.inl rfl) o1 (fun x c A=>by
   have:=g _<|.inl rfl;simp only[gu]at c;rw[if_neg Om]at c;exact hm x c Om)
  generalize yU L n (ad L t).a (gu st.1 t true,st.2)=s1 at *
  have r2:=D (ad L t).b s1 (Oh<|g _<|.inr rfl) r1.totp (fun x c A=>by
   have:=g _<|.inr rfl;rcases r1.ue x c with h|h;simp only[gu]at h;rw[if_neg Om]at h;have:=hm x h Om;have⟨M,e,_⟩:=r1.gn;simp only at e;rw[e];exact List.mem_append_left _ this;exact h)
  generalize yU L n (ad L t).b s1=v at *
  have⟨F,w,B⟩:=r1.gn
  have⟨E,r,C⟩:=r2.gn
  simp only at w
  have q:v.1 t=true:=r2.gq t<|r1.gq t (by simp[gu])
  have z:t∉v.2:=by
   rw[r,w];intro h;rcases List.mem_append.1 h with h|h;rcases List.mem_append.1 h with h|h;have:=aq.AB t h;rw[s]at this;cases this;have⟨h1,h2⟩:=B t h;have:=(h1.le l h2).2;have:=g _<|.inl rfl;omega;have⟨h1,h2⟩:=C t h;have:=(h1.le l h2).2;have:=g _<|.inr rfl;omega
  have m:∀y,iw L t y->y∈v.2++[t]:=by
   intro y j;rcases j.head with rfl|⟨k,i,hs⟩;simp;refine List.mem_append_left _ ?_;have o:=(f k i).1;rcases Ow i with rfl|rfl;rw[r];exact List.mem_append_left _<|r1.all o y hs;exact r2.all o y hs
  refine⟨⟨fun x c=>?_,fun x c y j=>?_,?_,fun x c=>?_⟩,⟨F++E++[t],by simp[r,w],fun x c=>?_⟩,fun x c=>?_,fun x c=>?_,fun _=>m⟩
  simp only[List.mem_append,List.mem_singleton]at c
  rcases c with c|rfl
  exact r2.AB x c
  exact q
  simp only[List.mem_append,List.mem_singleton]at c
  rcases c with c|rfl
  exact List.mem_append_left _<|r2.rW x c y j
  exact m y j
  rw[List.nodup_append]
  exact⟨r2.nd,Sm,fun x c y j e=>by simp at j;subst j;exact z<|e▸c⟩
  simp only[List.mem_append,List.mem_singleton]at c
  rcases c with c|rfl
  exact r2.gm x c
  exact d
  refine⟨?_,d⟩
  simp only[List.mem_append,List.mem_singleton]at c
  rcases c with(c|c)|rfl
  have⟨h1,h2⟩:=B x c
  exact(iw.fl (.refl t)<|BA l d (.inl rfl) h2).trans h1
  have⟨h1,h2⟩:=C x c
  exact(iw.fl (.refl t)<|BA l d (.inr rfl) h2).trans h1
  exact .refl _
  exact r2.gq x<|r1.gq x (by simp only[gu];split<;>simp[c])
  rcases r2.ue x c with h|h
  rcases r1.ue x h with p|p
  simp only[gu]at p
  split at p
  grind
  exact .inl p
  grind
  grind
  rw[if_neg u]
  refine⟨aq,⟨[],Sm,Sm⟩,fun x h=>h,fun x h=>.inl h,fun d y j=>?_⟩
  have s:st.1 t=true:=Gd
  exact aq.rW t (hm t s<|Int.le_refl _) y j
def zt{L}(a:Wf L){t x}:x∈dc L t↔al L t=true/\iw L t x:=by
 have r:=tw a (t.toNat+1) t (fun _=>false,[]) Om ⟨Sm,Sm,Sm,Sm⟩ Sm;constructor;intro h;have⟨M,e,hm⟩:=r.gn;unfold dc at h;rw[e]at h;simp only[List.nil_append]at h;exact⟨(hm x h).2,(hm x h).1⟩;intro h;exact r.all h.1 x h.2
def uW{L}(a:Wf L)(t):(dc L t).length<=L.length:=by
 have r:=tw a (t.toNat+1) t (fun _=>false,[]) Om ⟨Sm,Sm,Sm,Sm⟩ Sm;exact tT r.nd r.gm
end Go.Proofs
end
section
namespace Go.Proofs
def Ord(L:av)(l:List Int):Prop:=∀az z a,l=az++z ::a->∀k∈zB (ad L z),k∈az
def Ord.sd{L l t}(h:Ord L l)(ht:∀k∈zB (ad L t),k∈l):Ord L (l++[t]):=by
 intro az z b e k d;rcases List.eq_nil_or_concat b with rfl|⟨a,y,rfl⟩;have:=List.append_inj' e rfl;obtain⟨rfl,c⟩:=this;simp only[List.cons.injEq,and_true]at c;subst c;exact ht k d;have f:l++[t]=(az++z ::a)++[y]:=by rw[e];simp
 have:=List.append_inj' f rfl;exact h az z a this.1 k d
def WY{L}(j:Wf L):∀(n:Nat) (t:Int) (st:(Int->Bool)×List Int),t.toNat<n->tp L st->(∀x,st.1 x=true->x<=t->x∈st.2)->Ord L st.2->Ord L (yU L n t st).2:=by
 intro n;induction n with
 |zero=>intro t st h;omega
 |succ n r =>
  intro t st z aq hm s
  rw[yU]
  by_cases m:al L t=true/\st.1 t=false
  rw[if_pos m]
  have⟨f,A⟩:=m
  have u:=(zI.1 f).1
  have c:=(j.node f).2.2.2.2.1
  have g:∀k,k=(ad L t).a\/k=(ad L t).b->k<t:=by
   intro k d;cases w:al L k with
   |true=>exact(c k<|BA j f d w).2
   |false =>
    have h1:=(j.node f).2.1
    have h2:=(j.node f).2.2.1
    rcases qV (ad L t).kind with e|e|e
    grind
    have b0:=h2 Om
    rcases d with d|d
    have:=(c k (by unfold zB;rw[e,d];simp)).2;exact this
    omega
    exact(c k (by unfold zB;rw[e];rcases d with d|d<;>simp[d])).2
  have o1:tp L (gu st.1 t true,st.2):=⟨fun x i=>by simp only[gu];split<;>simp[aq.AB x i],aq.rW,aq.nd,aq.gm⟩
  have p:∀x,(gu st.1 t true,st.2).1 x=true->x<=(ad L t).a->x∈(gu st.1 t true,st.2).2:=fun x i o=>by
   have:=g _<|.inl rfl;simp only[gu]at i;rw[if_neg Om]at i;exact hm x i Om
  have n1:(ad L t).a.toNat<n:=Oh<|g _<|.inl rfl
  have n2:(ad L t).b.toNat<n:=Oh<|g _<|.inr rfl
  have r1:=tw j n (ad L t).a (gu st.1 t true,st.2) n1 o1 p
  have d1:=r (ad L t).a (gu st.1 t true,st.2) n1 o1 p s
  generalize yU L n (ad L t).a (gu st.1 t true,st.2)=s1 at *
  have q:∀x,s1.1 x=true->x<=(ad L t).b->x∈s1.2:=fun x i o=>by
   have:=g _<|.inr rfl;rcases r1.ue x i with h|h;simp only[gu]at h;rw[if_neg Om]at h;have:=hm x h Om;have⟨M,e,_⟩:=r1.gn;simp only at e;rw[e];exact List.mem_append_left _ this;exact h
  have r2:=tw j n (ad L t).b s1 n2 r1.totp q
  have d2:=r (ad L t).b s1 n2 r1.totp q d1
  generalize yU L n (ad L t).b s1=B at *
  have⟨y,v,_⟩:=r2.gn
  refine d2.sd fun k d=>?_
  have l:=(c k d).1
  rcases Ow d with rfl|rfl
  rw[v];exact List.mem_append_left _<|r1.all l _<|.refl _
  exact r2.all l _<|.refl _
  rw[if_neg m];exact s
def GL{L}(b:Wf L)(t):Ord L (dc L t):=
 WY b (t.toNat+1) t (fun _=>false,[]) Om ⟨Sm,Sm,Sm,Sm⟩ Sm (fun az z a e=>by simp at e)
def BU{L}(a:Wf L)(t):(dc L t).Nodup:=
 (tw a (t.toNat+1) t (fun _=>false,[]) Om ⟨Sm,Sm,Sm,Sm⟩ Sm).nd
inductive bq|mn|oG|num|ba|fst|snd
deriving DecidableEq
def qN(k:Int):List bq:=
 if k=1 then[.mn]else if k=2 then[.num]else if k=3 then[.ba]else if k=4 then[.fst,.snd]else if k=5 then[.fst]else if k=6 then[.mn]else if k=7 then[.mn,.fst]else if k=8 then[.mn,.oG,.fst]else if k=9 then[.mn,.oG,.fst]else[]
def bq.bytes(n:df)(b a:Nat):bq->List UInt8
 |.mn=>vF n.ay.toNat|.oG=>vF n.to.toNat|.num=>vF n.num.toNat|.ba=>vV n.ba|.fst=>vF b|.snd=>vF a
def c9(seen:List Int)(t:Int):Nat:=seen.idxOf t
def yF(L:av)(seen:List Int)(t:Int):List UInt8:=
 UInt8.ofNat (ad L t).kind.toNat ::(qN (ad L t).kind).flatMap (bq.bytes (ad L t) (c9 seen (ad L t).a)<|c9 seen (ad L t).b)
def fv(L:av):List Int->List Int->List UInt8
 |_,[]=>[]
 |seen,t :: l=>yF L seen t++fv L (seen++[t]) l
def H6(L l t):∀seen,fv L seen (l++[t])=fv L seen l++yF L (seen++l) t:=by
 induction l with
 |nil=>intro seen;simp[fv]
 |cons x l a=>intro seen;simp only[List.cons_append,fv];rw[a];simp
def qD(L:av)(t:Int):List UInt8:=fv L []<|dc L t
def Gh{l l' u}(h:u∈l):c9 (l++l') u=c9 l u:=by unfold c9;rw[List.idxOf_append,if_pos h]
def CK{l z}(h:z∉l):c9 (l++[z]) z=l.length:=by unfold c9;rw[List.idxOf_append,if_neg h];simp
def EO{l t}(ht:t∈l):c9 l t<l.length:=List.idxOf_lt_length_of_mem ht
def iv(L:av)(t:Int):List UInt8×Int:=if al L t then(if(qD L t).length>4096 then([],1)else(qD L t,0))else([],51)
end Go.Proofs
end
section
open Go Go.SE List
namespace Go.Proofs
open Tryz
attribute [local irreducible] Calls CallsD
def bq.put:bq->FuncId
 |.mn=>249|.oG=>253|.num=>255|.ba=>257|.fst=>261|.snd=>263
def bq.get:bq->FuncId
 |.mn=>251|.oG=>254|.num=>256|.ba=>259|.fst=>262|.snd=>264
def bq.row(f:bq):List Value:=[.func (.func f.put) #[] #[],.func (.func f.get) #[] #[]]
structure we(a w:World)(m:Nat)(c:List (Addr×bq))(M:List (Int×Sl)):Prop where
 box:∀b∈c,ai w b.1 b.2.row 255/\b.1.block≠m
 map:fc Sl.v w m M
 ei:∀p∈M,dn (fun b=>a.heap.size<=b/\b≠m) w 2 p.2<|(qN p.1).map bq.row
 pure:Pure a w
 ak:a.heap.size<=m
def we.step{A w x:World}{m:Nat}{z:List (Addr×bq)}{M:List (Int×Sl)}(h:we A w m z M){cs:Array Value}{p:Addr}(n1:au w (.cells cs 255) p x)(k:Int)(n:Nat)(C:(qN k).length=n)(fa:cs.toList=((qN k).map bq.row).flatten)(D:SE.eu M k=none):
  ∃l,(Instr.mapUpdate 249 (.map<|some m) (vi k) (Sl.mk (some p) n n).v).run prog x=.ok () l/\we A l m z (M++[(k,Sl.mk (some p) n n)]):=by
 have s:Pure w x:=ab.aw n1
 have⟨l,hr,B,o⟩:=(h.map.pure s).put (P:=prog) (T:=249) underlying249 underlying3 D<|Sl.mk (some p) n n
 have E:=ai.fp n1
 have d:=n1.cu
 have hm:=h.map.lt
 refine⟨l,hr,⟨fun b d=>⟨((h.box b d).1.pure s).ext o (h.box b d).2,(h.box b d).2⟩,B,?_,(h.pure.trans s).cg o fun i hi e=>Oh h.ak,h.ak⟩⟩
 intro q c
 rcases mem_append.1 c with c|c
 exact((h.ei q c).pure s).ext o fun b d=>d.2
 simp only[mem_singleton]at c
 subst c
 refine⟨by simp[C],fun i hi=>?_⟩
 have G:i<(qN k).length:=by simpa using hi
 refine⟨p.add<|i*2,⟨Om,So,p,rfl,Sm⟩,?_,?_⟩
 rw[zC];exact⟨Oh h.pure.size,Om⟩
 have g:Row l p cs.toList:=o.row (E.row) Om
 intro j y
 rw[yL]
 have a:∀r∈(qN k).map bq.row,r.length=2:=by intro r hr;obtain⟨f,_,rfl⟩:=mem_map.1 hr;rfl
 have u:j<2:=by rw[a _<|getElem_mem hi]at y;exact y
 have F:=DV a hi u
 have t:i*2+j<cs.toList.length:=by rw[fa,vM a,length_map];omega
 rw[g _ t,fa,F]
structure Dn(c w:World)(a:List (Addr×bq)):Prop where
 box:∀b∈a,ai w b.1 b.2.row 255
 pure:Pure c w
def Dn.step{g w a:World}{l:List (Addr×bq)}(h:Dn g w l){p:Addr}(n1:au w (.cells #[.nilFunc,.nilFunc] 255) p a)(f:bq){A:WP}(k:∀w',Dn g w' (l++[(p,f)])->A w'):(∀j,j<2->zL a (p.add j))/\∀w',w'=bb a p f.row->A w':=by
 have i:Pure w a:=ab.aw n1;refine bx 2 (ai.fp n1) rfl rfl fun m b E=>k m ⟨fun c d=>?_,h.pure.ak (p:=p) (by rw[n1.cu];exact h.pure.size) ((ab.pure i).trans E)⟩;rcases mem_append.1 d with d|d;have hB:=h.box c d;exact(hB.pure i).ext E fun e=>Oi (World.block_lt_of_cell? w c.1 hB.bd) n1.cu;grind
def we.get{w0 w m}{a:List (Addr×bq)}{M:List (Int×Sl)}(h:we w0 w m a M){p f}(b:(p,f)∈a):Row w p [.func (.func f.put) #[] #[],.func (.func f.get) #[] #[]]:=(h.box _ b).1.row
def ZC(a:World):cl 164 #[] a (fun e w'=>∃x:Option Nat,e=.returned (.map x)/\∃m M,x=some m/\(∃l,we a w' m l M)/\M.map Prod.fst=[1,2,3,4,5,6,7,8,9]):=by
 refine Zy a (fun x w'=>∃m M,x=some m/\(∃l,we a w' m l M)/\M.map Prod.fst=[1,2,3,4,5,6,7,8,9]) ?_;unfold Og;have D:Dn a a []:=⟨fun b g=>(by cases g),ab.refl _⟩;intro p1 v1 n1;refine D.step n1 .mn fun u1 h1=>?_;intro p2 v2 n2;refine h1.step n2 .oG fun u2 h2=>?_;intro p3 v3 n3;refine h2.step n3 .num fun u3 h3=>?_;intro p4 v4 n4;refine h3.step n4 .ba fun u4 O=>?_;intro p5 v5 n5;refine O.step n5 .fst fun u5 F=>?_;intro p6 v6 n6;refine F.step n6 .snd fun L i=>?_;intro o E c;have t:we a E o.block _ []:=⟨fun b g=>⟨(i.box b g).pure<|ab.aw c,fun e=>Oi (World.block_lt_of_cell? L b.1 (i.box b g).bd) c.cu⟩,fc.bh c,fun p B=>(by cases B),i.pure.trans<|ab.aw c,by rw[c.cu];exact i.pure.size⟩;refine⟨_,_,t.get (f:=.mn) Sm,?_⟩;intro q1 x1 w;have⟨G,r1,q⟩:=t.step w 1 1 rfl rfl (by simp[SE.eu]);refine⟨G,r1,?_⟩;refine⟨_,_,q.get (f:=.num) Sm,?_⟩;intro q2 x2 u;have⟨V,r2,n⟩:=q.step u 2 1 rfl rfl (by simp[SE.eu]);refine⟨V,r2,?_⟩;refine⟨_,_,n.get (f:=.ba) Sm,?_⟩;intro q3 x3 W;have⟨P,r3,j⟩:=n.step W 3 1 rfl rfl (by simp[SE.eu]);refine⟨P,r3,?_⟩;refine⟨_,_,j.get (f:=.fst) Sm,?_⟩;refine⟨_,_,j.get (f:=.snd) Sm,?_⟩;intro q4 x4 H;have⟨C,Q,s⟩:=j.step H 4 2 rfl rfl (by simp[SE.eu]);refine⟨C,Q,?_⟩;refine⟨_,_,s.get (f:=.fst) Sm,?_⟩;intro q5 x5 J;have⟨z,K,r⟩:=s.step J 5 1 rfl rfl (by simp[SE.eu]);refine⟨z,K,?_⟩;refine⟨_,_,r.get (f:=.mn) Sm,?_⟩;intro q6 x6 A;have⟨Y,R,k⟩:=r.step A 6 1 rfl rfl (by simp[SE.eu]);refine⟨Y,R,?_⟩;refine⟨_,_,k.get (f:=.mn) Sm,?_⟩;refine⟨_,_,k.get (f:=.fst) Sm,?_⟩;intro q7 x7 U;have⟨I,X,d⟩:=k.step U 7 2 rfl rfl (by simp[SE.eu]);refine⟨I,X,?_⟩;refine⟨_,_,d.get (f:=.mn) Sm,?_⟩;refine⟨_,_,d.get (f:=.oG) Sm,?_⟩;refine⟨_,_,d.get (f:=.fst) Sm,?_⟩;intro q8 x8 Z;have⟨T,r8,h⟩:=d.step Z 8 3 rfl rfl (by simp[SE.eu]);refine⟨T,r8,?_⟩;refine⟨_,_,h.get (f:=.mn) Sm,?_⟩;refine⟨_,_,h.get (f:=.oG) Sm,?_⟩;refine⟨_,_,h.get (f:=.fst) Sm,?_⟩;intro q9 x9 N;have⟨v,y,S⟩:=h.step N 9 3 rfl rfl (by simp[SE.eu]);refine⟨v,y,?_⟩;exact⟨o.block,_,rfl,⟨_,S⟩,rfl⟩
end Go.Proofs
end
section
namespace Go.Proofs
def bq.rd(bs:List UInt8)(r:Rd):bq->Rd
 |.ba=>(qI bs 64 r).2
 |_=>(vY bs r).2
structure gk where
 num:Nat
 ba:List UInt8
 ay:Nat
 to:Nat
 a:Nat
 b:Nat
 kids:Nat
def yC:gk:=⟨0,[],0,0,0,0,0⟩
def bq.pg(bs:List UInt8)(r:Rd)(x:gk):bq->gk
 |.mn=>{ x with ay:=(vY bs r).1 }
 |.oG=>{ x with to:=(vY bs r).1 }
 |.num=>{ x with num:=(vY bs r).1 }
 |.ba=>{ x with ba:=(qI bs 64 r).1 }
 |.fst=>{ x with a:=(vY bs r).1,kids:=1 }
 |.snd=>{ x with b:=(vY bs r).1,kids:=2 }
def vD(bs:List UInt8):List bq->gk×Rd->gk×Rd
 |[],s=>s
 |f :: l,(x,r)=>vD bs l (f.pg bs r x,f.rd bs r)
def kv(k n:Nat)(x:gk)(e:Nat):Nat:=
 if e≠0 then e
 else if 16<=x.ay\/16<=x.to\/((k=8\/k=9)/\x.ay=x.to)then 50
 else if(0<x.kids/\n<=x.a)\/(1<x.kids/\n<=x.b)then 71
 else 0
def gk.node(k:Nat)(x:gk):df:=⟨k,x.ay,x.to,x.num,⟨x.ba.toArray⟩,if 0<x.kids then(x.a:Int)+1 else 0,if 1<x.kids then(x.b:Int)+1 else 0⟩
def uE(k:Nat):Bool:=decide (1<=k)&&decide (k<=9)
def jl(L:av)(k:Nat)(s:gk×Rd):av×Int×Rd:=
 if kv k L.length s.1 s.2.cm≠0 then(L,((kv k L.length s.1 s.2.cm:Nat):Int),s.2)
 else if(find L<|s.1.node k).isSome=true then(L,72,s.2)
 else((ax L<|s.1.node k).2.2,(ax L<|s.1.node k).2.1,s.2)
def vT(bs:List UInt8)(L:av)(r:Rd):av×Int×Rd:=
 if uE (xN bs r).1=true then jl L (xN bs r).1 (vD bs (qN (xN bs r).1) (yC,(xN bs r).2))
 else(L,70,(xN bs r).2)
def gy:Nat->List Int->Nat
 |i,[]=>i
 |i,s :: l=>if s=(i:Int)+1 then gy (i+1) l else i
def qh(L:av)(a:List Nat):Option av×Int×Nat:=
 let i:=gy 0<|dc L L.length
 if h:i<a.length then(none,73,a[i])else(some L,0,0)
def oB(bs:List UInt8):Nat->av->Rd->List Nat->Option av×Int×Nat
 |0,L,_,a=>qh L a
 |n+1,L,r,a =>
  if r.at_<bs.length then
   if(vT bs L r).2.1≠0 then(none,(vT bs L r).2.1,r.at_)
   else oB bs n (vT bs L r).1 (vT bs L r).2.2 (a++[r.at_])
  else qh L a
def vB(bs:List UInt8):Option av×Int×Nat:=
 if 4096<bs.length then(none,1,0)else if bs.length=0 then(none,3,0)else oB bs bs.length [] ⟨0,0,0⟩ []
def zT(Lq:av):List Int->av->(Int->Int)->av×Int×(Int->Int)
 |[],L,ak=>(L,0,ak)
 |s :: l,L,ak =>
  let m:=ax L { ad Lq s with a:=ak (ad Lq s).a,b:=ak (ad Lq s).b }
  if m.2.1≠0 then(L,m.2.1,ak)else zT Lq l m.2.2 fun x=>if x=s then m.1 else ak x
def vI(L Lq:av)(t:Int):Int×Int×av:=
 if al Lq t=true then
  let c:=zT Lq (dc Lq t) L fun _=>0
  if c.2.1≠0 then(0,c.2.1,L)else(c.2.2 t,0,c.1)
 else(0,51,L)
def yM(L:av)(bs:List UInt8):Int×Int×Nat×av:=
 match(vB bs).1 with
 |none=>(0,(vB bs).2.1,(vB bs).2.2,L)
 |some q=>((vI L q q.length).1,(vI L q q.length).2.1,0,(vI L q q.length).2.2)
def EP(bs r)(h:r.at_<=bs.length):r.at_<=(vY bs r).2.at_/\(vY bs r).2.at_<=bs.length:=by
 have key:∀(l:List UInt8) (i n:Nat) (m k:Nat),xU i n l=.ok (m,k)->k<=i+l.length/\i<k:=by
  intro l;induction l with
  |nil=>intro i n m k h;simp[xU]at h
  |cons c l a =>
   intro i n m k h
   rw[xS]at h
   split at h
   cases h
   grind
 unfold vY;split;grind;exact⟨Nat.le_refl _,h⟩
def O7(bs m r)(h:r.at_<=bs.length):r.at_<=(qI bs m r).2.at_/\(qI bs m r).2.at_<=bs.length:=by
 have a:=EP bs r h;unfold vY at a;unfold qI;split;grind;exact⟨Nat.le_refl _,h⟩
def bq.jbV(bs:List UInt8)(r:Rd)(f:bq)(h:r.at_<=bs.length):r.at_<=(f.rd bs r).at_/\(f.rd bs r).at_<=bs.length:=by
 cases f<;>first|exact O7 bs 64 r h|exact EP bs r h
def QO(bs:List UInt8):∀(l:List bq) (x:gk) (r:Rd),r.at_<=bs.length->r.at_<=(vD bs l (x,r)).2.at_/\(vD bs l (x,r)).2.at_<=bs.length:=by
 intro l;induction l with
 |nil=>intro x r h;exact⟨Nat.le_refl _,h⟩
 |cons f l a =>
  intro x r h
  have h1:=f.jbV bs r h
  have h2:=a (f.pg bs r x) (f.rd bs r) h1.2
  rw[vD];omega
def PD(bs r)(h:r.at_<bs.length)(a:r.cm=0):xN bs r=(bs[r.at_].toNat,⟨r.at_+1,0,r.spot⟩):=by
 unfold xN;rw[if_pos a,dif_pos h]
def zv(bs L r)(h:r.at_<bs.length)(a:r.cm=0):vT bs L r =
  (if uE bs[r.at_].toNat=true then jl L bs[r.at_].toNat (vD bs (qN bs[r.at_].toNat) (yC,⟨r.at_+1,0,r.spot⟩))else(L,70,⟨r.at_+1,0,r.spot⟩)):=by
 unfold vT
 rw[PD bs r h a]
def HV{L k}{s:gk×Rd}(h:(jl L k s).2.1=0):s.2.cm=0/\kv k L.length s.1 s.2.cm=0/\find L (s.1.node k)=none/\(ax L<|s.1.node k).2.1=0/\jl L k s=((ax L<|s.1.node k).2.2,0,s.2):=by
 unfold jl at *;split at h;grind;rename_i h1;rw[if_neg h1];have h1:kv k L.length s.1 s.2.cm=0:=Om;have a:s.2.cm=0:=by
  by_cases h2:s.2.cm=0;exact h2;exfalso;unfold kv at h1;rw[if_pos h2]at h1;exact h2 h1
 split at h;simp at h;rename_i h3;rw[if_neg h3];simp only at h;exact⟨a,h1,by simpa using h3,h,by rw[h]⟩
def Iu(bs L r)(h:r.at_<bs.length)(e:r.cm=0)(a:(vT bs L r).2.1=0):r.at_<(vT bs L r).2.2.at_/\(vT bs L r).2.2.at_<=bs.length/\(vT bs L r).2.2.cm=0:=by
 have b:=QO bs (qN bs[r.at_].toNat) yC ⟨r.at_+1,0,r.spot⟩ Sy;simp only at b;rw[zv bs L r h e]at *;split at a;rename_i d;rw[if_pos d];have⟨h1,_,_,_,c⟩:=HV a;rw[c];exact⟨Sy,b.2,h1⟩;simp at a
def Fz{bs L r ps}(h:¬r.at_<bs.length):∀n,oB bs n L r ps=qh L ps:=by
 intro n;cases n with
 |zero=>rfl
 |succ n=>rw[oB,if_neg h]
end Go.Proofs
end
section
open Go Go.SE List
namespace Go.Proofs
open Tryz
attribute [local irreducible] Calls CallsD
def QY{S:NP}(f:bq)(s:Sl)(bs:List UInt8)(n:df)(g h j:Nat)(M:List (Int×Int))(c:World)(hs:dn S c 1 s (dj bs))(d:s.a=none->s=Sl.nil)(e:bs.length<=10000000000)(h1:0<=n.ay/\n.ay<9223372036854775808)(h2:0<=n.to/\n.to<9223372036854775808)(h3:0<=n.num/\n.num<18446744073709551616)(o:n.ba.size<=10000000000)(l:fc (fun i:Int=>vi i) c j M)(k:f=.fst->SE.eu M n.a=some (g:Int)/\g<9223372036854775808)(m:f=.snd->SE.eu M n.b=some (h:Int)/\h<9223372036854775808):
  Calls prog f.put #[s.v,.agg #[vi n.kind,vi n.ay,vi n.to,vu n.num,vs n.ba,vi n.a,vi n.b],.map<|some j] c<|XA fun r w'=>fx c 5 1 (dj<|bs++f.bytes n g h) r w':=by
 cases f
 exact X0 s bs _ _ _ _ _ _ _ _ c hs d e n.ay.toNat Om Om
 exact zIH s bs _ _ _ _ _ _ _ _ c hs d e n.to.toNat Om Om
 exact Ri s bs _ _ _ _ _ _ _ _ c hs d e n.num.toNat Om Om
 exact V0 s bs _ _ _ _ _ _ _ _ c hs d e o
 exact Vj s bs _ _ _ _ _ _ _ c hs d e j M g l (k rfl).1 (k rfl).2
 exact Xh s bs _ _ _ _ _ _ _ c hs d e j M h l (m rfl).1 (m rfl).2
def bq.rH(bs:List UInt8)(r:Rd)(cells:List Value):bq->List Value
 |.mn=>cells.set 7<|vu ((vY bs r).1:Int)
 |.oG=>cells.set 8<|vu ((vY bs r).1:Int)
 |.num=>cells.set 3<|vu ((vY bs r).1:Int)
 |.ba=>cells.set 4<|vs ⟨(qI bs 64 r).1.toArray⟩
 |.fst=>(cells.set 9<|vu ((vY bs r).1:Int)).set 11<|vi 1
 |.snd=>(cells.set 10<|vu ((vY bs r).1:Int)).set 11<|vi 2
def jcR{S:NP}(f:bq)(a q:Addr)(s:Sl)(bs:List UInt8)(r:Rd)(cells:List Value)(i:World)(h:fj S i a s bs r)(g:r.at_<=bs.length)(hS:∀b,S b->b<i.heap.size)(k:ai i q cells 314)(j:cells.length=12)(c:a.block≠q.block)(d:∀b,S b->b≠q.block):
  Calls prog f.get #[vp<|some a,vp<|some q] i<|fun e w'=>e=.returned (.tuple #[])/\fj S w' a s bs (f.rd bs r)/\ai w' q (f.rH bs r cells) 314/\ab (fun b=>b=a.block\/b=q.block) i w':=by
 cases f
 exact zBS a q s bs r cells i h g hS k j c d
 exact YY a q s bs r cells i h g hS k j c d
 exact Uc a q s bs r cells i h g hS k j c d
 exact ZI a q s bs r cells i h g hS k j c d
 exact Ur a q s bs r cells i h g hS k j c d
 exact Q8 a q s bs r cells i h g hS k j c d
structure pQ(w:World)(m:Nat)(F:NP):Prop where
 ex:∃M:List (Int×Sl),fc Sl.v w m M/\(∀p∈M,dn F w 2 p.2<|(qN p.1).map bq.row)/\M.map Prod.fst=[1,2,3,4,5,6,7,8,9]
 lt:∀b,F b->b<w.heap.size
 ne:∀b,F b->b≠m
def pQ.ext{w w' m F G}(h:pQ w m F)(E:ab G w w')(c:∀b,F b\/b=m->¬G b):pQ w' m F:=by
 have⟨M,h1,h2,h3⟩:=h.ex;exact⟨⟨M,h1.ext E<|c m<|.inr rfl,fun p d=>(h2 p d).ext E fun b a=>c b<|.inl a,h3⟩,fun b a=>Nat.lt_of_lt_of_le (h.lt b a) E.size,h.ne⟩
def pQ.pure{w w' m F}(h:pQ w m F)(E:Pure w w'):pQ w' m F:=h.ext E fun _ _ h=>h
def pQ.Ar{w m F}(h:pQ w m F):m<w.heap.size:=by have⟨M,h1,_⟩:=h.ex;exact h1.lt
def jcC{S w s rs sz}(h:dn S w sz s rs)(hr:∀r∈rs,0<r.length):dn (fun b=>S b/\b<w.heap.size) w sz s rs:=
 ⟨h.len,fun i hi=>let ⟨a,h1,h2,h3⟩:=h.at_ i hi;⟨a,h1,⟨h2,by
  have c:=hr _<|getElem_mem hi;have:=h3 0 c;rw[getElem?_eq_getElem c]at this;have:=World.block_lt_of_cell? w (a.add 0) this;rwa [zC]at this⟩,h3⟩⟩
def N9(w0):cl 164 #[] w0 (fun e w'=>∃x:Option Nat,e=.returned (.map x)/\∃m F,x=some m/\pQ w' m F/\Pure w0 w'/\w0.heap.size<=m/\∀b,F b->w0.heap.size<=b):=by
 refine(ZC w0).mono ?_;rintro _ w' ⟨x,rfl,m,M,rfl,⟨g,h⟩,d⟩;refine⟨_,rfl,m,fun b=>(w0.heap.size<=b/\b≠m)/\b<w'.heap.size,rfl,⟨⟨M,h.map,fun p c=>jcC (h.ei p c) fun r hr=>by obtain⟨f,_,rfl⟩:=mem_map.1 hr;simp[bq.row],d⟩,fun b a=>a.2,fun b a=>a.1.2⟩,h.pure,h.ak,fun b a=>a.1.1⟩
def pQ.get{w:World}{m:Nat}{F:NP}(h:pQ w m F)(k:Int)(h1:1<=k)(e:k<=9)(ok:Bool):
  ∃s:Sl,(Instr.lookup 249 (.map<|some m) (vi k) ok).run prog w=.ok (if ok then .tuple #[s.v,vb true]else s.v) w/\dn F w 2 s ((qN k).map bq.row):=by
 have⟨M,a,c,b⟩:=h.ex
 rcases a.get (P:=prog) (T:=249) underlying249 underlying3 (zeroValue251 _) k ok with⟨d,_⟩|⟨s,hs,hr⟩
 have:=uV.1 d
 rw[b]at this
 simp at this;omega
 exact⟨s,hr,c _<|tU hs⟩
def pQ.none{w:World}{m:Nat}{F:NP}(h:pQ w m F)(k:Int)(c:¬(1<=k/\k<=9)):(Instr.lookup 249 (.map<|some m) (vi k) true).run prog w=.ok (.tuple #[Sl.nil.v,vb false]) w:=by
 have⟨M,b,d,a⟩:=h.ex;rcases b.get (P:=prog) (T:=249) underlying249 underlying3 (zeroValue251 _) k true with⟨_,hr⟩|⟨s,hs,_⟩;exact hr;have:k∈M.map Prod.fst:=mem_map.2 ⟨_,tU hs,rfl⟩;rw[a]at this;simp at this;omega
def uZ:Nat->List Int->List (Int×Int)
 |_,[]=>[]
 |i,t :: l=>(t,(i:Int)) :: uZ (i+1) l
def jPG(l t):∀i,uZ i (l++[t])=uZ i l++[(t,((i+l.length:Nat):Int))]:=by
 induction l with
 |nil=>intro i;simp[uZ]
 |cons x l a=>intro i;simp only[cons_append,uZ,a,length_cons];congr 3;simp;omega
def Ts(l):∀i,(uZ i l).map Prod.fst=l:=by
 induction l with
 |nil=>intro i;rfl
 |cons x l a=>intro i;simp[uZ,a]
def TI(l):∀i,(uZ i l).length=l.length:=by
 induction l with
 |nil=>intro i;rfl
 |cons x l a=>intro i;simp[uZ,a]
def KP(l t)(ht:t∈l):∀i,SE.eu (uZ i l) t=some ((i+c9 l t:Nat):Int):=by
 induction l with
 |nil=>cases ht
 |cons x l c =>
  intro i
  rw[uZ,SE.eu]
  by_cases e:x=t
  subst e;rw[if_pos rfl];simp[c9]
  rw[if_neg e]
  have a:t∈l:=(mem_cons.1 ht).resolve_left fun h=>e h.symm
  rw[c a]
  have:c9 (x ::l) t=c9 l t+1:=by
   have b:(x==t)=false:=by simpa using e
   simp[c9,idxOf_cons,b]
  rw[this];congr 2;omega
end Go.Proofs
end
section
open Go Go.SE List
namespace Go.Proofs
attribute [local irreducible] Calls
def xW(k):(k=1\/k=2\/k=3\/k=4\/k=5\/k=6\/k=7\/k=8\/k=9)\/(bk k=sw/\oh k=false/\∀m:Int,1<=m->m<=9->(k==m)=false):=by
 by_cases h:k=1\/k=2\/k=3\/k=4\/k=5\/k=6\/k=7\/k=8\/k=9
 .exact .inl h
 .right;refine⟨?_,?_,fun m h1 h2=>?_⟩
  .unfold bk;repeat rw[if_neg Om]
  .unfold oh;apply Bool.eq_false_iff.2;intro h3;simp at h3;omega
  .grind
def qT(k):di k=(bk k).kids:=by
 rcases xW k with h|⟨h,_,hm⟩;rcases h with rfl|rfl|rfl|rfl|rfl|rfl|rfl|rfl|rfl<;>decide;rw[h];unfold di;simp[hm,sw]
def Nk(k):pK k=(bk k).ay:=by
 rcases xW k with h|⟨h,_,hm⟩;rcases h with rfl|rfl|rfl|rfl|rfl|rfl|rfl|rfl|rfl<;>decide;rw[h];unfold pK;simp[hm,sw]
def JZ(k):((k==8) ||(k==9))=(bk k).to:=by
 rcases xW k with h|⟨h,_,hm⟩;rcases h with rfl|rfl|rfl|rfl|rfl|rfl|rfl|rfl|rfl<;>decide;rw[h];simp[hm,sw]
def jZD(k):(k==2)=(bk k).num:=by
 rcases xW k with h|⟨h,_,hm⟩;rcases h with rfl|rfl|rfl|rfl|rfl|rfl|rfl|rfl|rfl<;>decide;rw[h];simp[hm,sw]
def Zp(k):(k==3)=(bk k).ba:=by
 rcases xW k with h|⟨h,_,hm⟩;rcases h with rfl|rfl|rfl|rfl|rfl|rfl|rfl|rfl|rfl<;>decide;rw[h];simp[hm,sw]
def RJ(k):(!(decide (k<1) ||decide (k>9)))=oh k:=by
 unfold oh;by_cases h1:k<1<;>by_cases h2:k>9<;>simp[h1,h2]<;>omega
def jad(q):decide ((if q=true then(53:Int)else 0)=0)=!q:=by cases q<;>rfl
def rh(n:df):Int:=
 if zO n≠0 then 53 else if(decide ((bk n.kind).kids<1)&&n.a !=0) ||(decide ((bk n.kind).kids<2)&&n.b !=0)then 53 else zR (bk n.kind) n
def Ub(n):AM n.kind n.ay n.to n.num n.ba n.a n.b=(decide (zO n=0)&&!((decide ((bk n.kind).kids<1)&&n.a !=0) ||(decide ((bk n.kind).kids<2)&&n.b !=0))):=by
 have⟨k,f,t,u,x,a,b⟩:=n;unfold AM zO;simp only[qT,Nk,JZ k,jZD k,Zp k,RJ];have y:=qV k;generalize bk k=s at *;have⟨s1,m,g,e,c⟩:=s;generalize oh k=i;have l:decide (c>=1)=!decide (c<1):=by by_cases h:c<1<;>simp[h]<;>omega
 have d:(c==2)=!decide (c<2):=Gd;simp only[l,d,bne,jad];generalize (f==0)=q;generalize (t==0)=j;generalize (u==0)=p;generalize decide (x=⟨#[]⟩)=o;generalize (a==0)=z;generalize (b==0)=w;generalize decide (c<1)=v;generalize decide (c<2)=r;cases i<;>cases s1<;>cases m<;>cases g<;>cases e<;>cases q<;>cases j<;>cases p<;>cases o<;>simp
def KS(n):sU n.kind n.ay n.to n.num n.ba n.a n.b=rh n:=by
 unfold sU rh;rw[Ub,Nk,JZ];by_cases h1:zO n=0;by_cases h2:((decide ((bk n.kind).kids<1)&&n.a !=0) ||(decide ((bk n.kind).kids<2)&&n.b !=0))=true;rw[h2];simp[h1];have h2:((decide ((bk n.kind).kids<1)&&n.a !=0) ||(decide ((bk n.kind).kids<2)&&n.b !=0))=false:=by simpa using h2
 rw[h2];simp only[h1,ne_eq,not_true_eq_false,if_false,Bool.false_eq_true,decide_true,Bool.not_false,Bool.and_true,Bool.not_true,cond_false];unfold zR rp;have g:(decide (n.ay>=0)&&decide (n.ay<16))=(decide (0<=n.ay)&&decide (n.ay<16)):=rfl;have f:(decide (n.to>=0)&&decide (n.to<16))=(decide (0<=n.to)&&decide (n.to<16)):=rfl;have d:(n.ay==n.to)=(n.to==n.ay):=by rw[Bool.eq_iff_iff];simp only[beq_iff_eq];exact eq_comm
 rw[g,f,d];have e:decide (((n.ba.size:Int))>64)=decide (n.ba.size>64):=decide_eq_decide.2 Om;rw[e];generalize ((bk n.kind).ay&&!(decide (0<=n.ay)&&decide (n.ay<16)) ||(bk n.kind).to&&(!(decide (0<=n.to)&&decide (n.to<16)) ||n.to==n.ay))=c;cases c;grind;rfl;simp[h1]
end Go.Proofs
end
section
open Go Go.SE List
namespace Go.Proofs
open Tryz
attribute [local irreducible] Calls
def PY:j1 prog 41 119 7 64:=by
 refine⟨underlying41,⟨t119,_,Kf,(by kernel_rfl:t119.zero=some (.agg #[vi 0,vi 0,vi 0,vu 0,vs ⟨#[]⟩,vi 0,vi 0])),Kf,Kf,rfl⟩,Om⟩
def yc:j1 prog 42 3 1 8:=by
 refine⟨underlying42,⟨t3,_,Kf,(by kernel_rfl:t3.zero=some (vi 0)),Kf,Kf,rfl⟩,Om⟩
def CX(e:sV):List Value:=tK e.node
def Jk(e:sV):List Value:=[vi e.size]
def I7(e:sV):List Value:=[vi e.depth]
structure Ib(w:World)(p:Addr)(L:av)(s1 a c:Sl):Prop where
 box:ai w p [s1.v,a.v,c.v] 44
 r1:bf w 119 7 s1 (L.map CX)
 r2:bf w 3 1 a (L.map Jk)
 r3:bf w 3 1 c (L.map I7)
 n1:¬s1.ao p.block
 n2:¬a.ao p.block
 n3:¬c.ao p.block
 EW:∀b,s1.ao b->¬a.ao b
 EX:∀b,s1.ao b->¬c.ao b
 Ew:∀b,a.ao b->¬c.ao b
def vR(w:World)(p:Addr)(L:av)(F:NP):Prop:=∃s1 a c,Ib w p L s1 a c/\∀b,F b↔(b=p.block\/s1.ao b\/a.ao b\/c.ao b)
def vR.ext{G w w' p L F}(h:vR w p L F)(a:ab G w w')(d:∀b,F b->¬G b):vR w' p L F:=by
 have⟨s1,f,e,h,c⟩:=h;exact⟨s1,f,e,⟨h.box.ext a<|d _<|(c _).2<|.inl rfl,h.r1.ext a fun b g=>d _<|(c _).2<|.inr<|.inl g,h.r2.ext a Gd,h.r3.ext a Gd,h.n1,h.n2,h.n3,h.EW,h.EX,h.Ew⟩,c⟩
def vR.pure{w w' p L F}(h:vR w p L F)(a:Pure w w'):vR w' p L F:=h.ext a fun _ _ h=>h
def vR.lt{w p L F}(h:vR w p L F){b}(a:F b):b<w.heap.size:=by
 have⟨s1,d,e,h,c⟩:=h;rcases(c b).1 a with rfl|a|a|a;exact h.box.lt;exact h.r1.lt a;exact h.r2.lt a;exact h.r3.lt a
def HU(w0):cl 44 #[] w0 (XD fun r w'=>∃p F,r=some p/\vR w' p [] F/\Pure w0 w'/\∀b,F b->w0.heap.size<=b):=by
 refine Zr w0 (fun r w'=>∃p F,r=some p/\vR w' p [] F/\Pure w0 w'/\∀b,F b->w0.heap.size<=b) ?_;unfold LZ;have c:∀b,¬Sl.nil.ao b:=fun b d=>by have⟨a,h,_⟩:=d;cases h
 intro p e h1;have b1:=ai.bh h1;have f:Pure w0 e:=ab.aw h1
 first
  |exact⟨p,(·=p.block),rfl,⟨Sl.nil,Sl.nil,Sl.nil,⟨b1,bf.nil _ _ _,bf.nil _ _ _,bf.nil _ _ _,c _,c _,c _,fun b h=>(c b h).elim,fun b h=>(c b h).elim,fun b h=>(c b h).elim⟩,fun b=>by simp[c]⟩,f,fun b d=>by subst d;exact au.ak (ab.refl w0) h1⟩
  |skip
def uO(p t w0){L F}(c:vR w0 p L F):cl 112 #[vp<|some p,vi t] w0 (XC fun r w'=>r=al L t/\w'=w0):=by
 refine Zd _ _ w0 (fun r w'=>r=al L t/\w'=w0) ?_;unfold Lj;have⟨s1,f,d,h,e⟩:=c;have b:s1.len=L.length:=by rw[h.r1.len];simp
 refine⟨fun a=>⟨p,rfl,s1,h.box.bd,?_,rfl⟩,fun a=>⟨?_,rfl⟩⟩;have:=of_decide_eq_true a;rw[b];simp[al,this];have:=of_decide_eq_false a;simp[al];omega
def Ib.kh{w p L s1 s2 s3}(h:Ib w p L s1 s2 s3){t}(ht:al L t=true)(c:Ok L):∃e,get L t=some e /\
  (∃a,At s1 (IntKind.i64.wrap<|t-1) 7 a/\Row w a (CX e))/\(∃a,At s2 (IntKind.i64.wrap<|t-1) 1 a/\Row w a (Jk e))/\(∃a,At s3 (IntKind.i64.wrap<|t-1) 1 a/\Row w a (I7 e)):=by
 have⟨e,l,_,hi,b⟩:=Cy ht
 have k:=zI.1 ht
 have m:=c.fm
 have i:IntKind.i64.wrap (t-1)=((t-1).toNat:Int):=by rw[i64 Om Om];omega
 have⟨a1,h1,g⟩:=h.r1.mm (j:=(t-1).toNat) hi
 have⟨a2,h2,d⟩:=h.r2.mm (j:=(t-1).toNat) hi
 have⟨a3,h3,f⟩:=h.r3.mm (j:=(t-1).toNat) hi
 rw[b]at g d f
 rw[i]
 exact⟨e,l,⟨a1,h1,g⟩,⟨a2,h2,d⟩,⟨a3,h3,f⟩⟩
def Md(p t w0){L F}(d:vR w0 p L F)(c:Ok L):cl 113 #[vp<|some p,vi t] w0 (XB fun r w'=>r=sizeOf L t/\w'=w0):=by
 refine jbw _ _ w0 (fun r w'=>r=sizeOf L t/\w'=w0) ?_;refine(uO p t w0 d).mono ?_;rintro _ _ ⟨_,rfl,rfl,rfl⟩;refine⟨_,rfl,fun h=>⟨?_,rfl⟩,fun h=>?_⟩;have h:al L t=false:=by simpa using h
 simp[sizeOf,yR h];have h:al L t=true:=by simpa using h
 have⟨s1,f,i,hS,j⟩:=d;have⟨e,g,_,⟨a,b,hr⟩,_⟩:=hS.kh h c;exact⟨p,rfl,f,hS.box.cell rfl,a,b,_,Ap hr,by simp[sizeOf,g],rfl⟩
def Od(p t w0){L F}(d:vR w0 p L F)(c:Ok L):cl 121 #[vp<|some p,vi t] w0 (XB fun r w'=>r=cz L t/\w'=w0):=by
 refine VK _ _ w0 (fun r w'=>r=cz L t/\w'=w0) ?_;refine(uO p t w0 d).mono ?_;rintro _ _ ⟨_,rfl,rfl,rfl⟩;refine⟨_,rfl,fun h=>⟨?_,rfl⟩,fun h=>?_⟩;have h:al L t=false:=by simpa using h
 simp[cz,yR h];have h:al L t=true:=by simpa using h
 have⟨s1,j,f,hS,i⟩:=d;have⟨e,g,_,_,⟨a,b,hr⟩⟩:=hS.kh h c;exact⟨p,rfl,f,hS.box.cell rfl,a,b,_,Ap hr,by simp[cz,g],rfl⟩
def FV(p t w0){L F}(q:vR w0 p L F)(l:Ok L):cl 64 #[vp<|some p,vi t] w0
  (XL fun k f m u x a b r w'=>((⟨k,f,m,u,x,a,b⟩:df)=ad L t/\r=al L t)/\Pure w0 w'):=by
 refine TV _ _ w0 _ ?_
 intro v n c
 have d:=q.pure c.first
 refine(uO p t n d).mono ?_
 rintro _ _ ⟨_,rfl,rfl,rfl⟩
 refine⟨_,rfl,aj.refl _,fun h=>?_,fun h=>?_⟩
 .intro z i
  have h:al L t=false:=by simpa using h
  exact⟨⟨by simp[ad,yR h,xC],h.symm⟩,c.first.aq i⟩
 .have h:al L t=true:=by simpa using h
  have⟨s1,y,s,hS,w⟩:=d
  have⟨e,o,⟨a,j,hr⟩,_,_⟩:=hS.kh h l
  refine⟨p,rfl,s1,hS.box.bd,a,j,_,_,_,_,_,_,_,hr,?_⟩
  intro A g
  exact⟨⟨by simp[ad,o],h.symm⟩,c.first.aq g⟩
def zDO(m n:df):((m.kind==n.kind)&&((m.ay==n.ay)&&((m.to==n.to)&&((m.num==n.num)&&((decide (m.ba=n.ba))&&((m.a==n.a)&&(m.b==n.b)))))))=decide (m=n):=by
 have⟨k,f,t,u,x,a,b⟩:=m;have⟨k',h,d,i,e,g,c⟩:=n;rw[Bool.eq_iff_iff];simp
def jTJ(p n w0){L F}(J:vR w0 p L F)(v:Ok L):cl 122 #[vp<|some p,ly n] w0
  (XE fun r ok w'=>(match find L n with|some i=>r=(i:Int)+1/\ok=true|none=>r=0/\ok=false)/\Pure w0 w'):=by
 have⟨k,f,t,u,x,a,b⟩:=n
 generalize w:(⟨k,f,t,u,x,a,b⟩:df)=n
 have C:ly n=.agg #[vi k,vi f,vi t,vu u,vs x,vi a,vi b]:=by rw[<-w];rfl
 rw[C]
 suffices key:∀K:Int->Bool->WP,(∀r ok w',((match find L n with|some i=>r=(i:Int)+1/\ok=true|none=>r=0/\ok=false)/\Pure w0 w')->K r ok w')->Qc (some p) k f t u x a b w0 K from
  Rb _ _ _ _ _ _ _ _ w0 _<|key _ fun _ _ _ h=>h
 intro K M
 intro T X y
 refine⟨fun i H w'=>∃j:Nat,i=j/\j<=L.length/\Pure w0 w'/\∀q,q<j->∀e,L[q]?=some e->e.node≠n,fun i _=>((L.length:Int)-i).toNat,⟨0,rfl,Nat.zero_le _,y.first,fun q l=>absurd l Om⟩,?_⟩
 rintro _ S wl R ⟨j,rfl,N,D,m⟩
 unfold NV
 have⟨s1,U,W,hS,Y⟩:=J.pure D
 have Z:=v.fm
 have d:s1.len=L.length:=by rw[hS.r1.len];simp
 refine⟨p,rfl,s1,hS.box.bd,fun h=>?_,fun h=>?_⟩
 .have c:=vW d h
  refine⟨p,rfl,?_⟩
  intro V A
  have B:=D.aq A
  have⟨z,O,P,o,_⟩:=J.pure B
  have⟨Q,G,hr⟩:=o.r1.mm c
  refine⟨z,o.box.bd,Q,G,_,_,_,_,_,_,_,hr,?_⟩
  have hB:=zDO L[j].node n
  rw[<-w]at hB
  simp only at hB
  rw[hB,w]
  refine⟨fun h=>?_,fun h=>?_⟩
  .have h:=of_decide_eq_true h
   rw[zN c Om]
   refine M _ _ _ ⟨?_,B⟩
   have g:find L n=some j:=by
    unfold find;rw[findIdx?_eq_some_iff_getElem];exact⟨c,by simp[h],fun q l=>by simpa using m q l _ (getElem?_eq_getElem Om)⟩
   rw[g];exact⟨Om,rfl⟩
  .have h:=of_decide_eq_false h
   rw[zN c Om]
   refine⟨⟨j+1,rfl,c,B,fun q l e s=>?_⟩,yY c⟩
   by_cases E:q=j
   .subst E;rw[getElem?_eq_getElem c]at s;cases s;exact h
   .grind
 .have I:=yJ d N h
  subst I
  refine M _ _ _ ⟨?_,D⟩
  have g:find L n=none:=yr (fun e s=>by
   obtain⟨q,l,rfl⟩:=mem_iff_getElem.1 s;exact m q l _<|getElem?_eq_getElem l)
  rw[g];exact⟨rfl,rfl⟩
end Go.Proofs
end
