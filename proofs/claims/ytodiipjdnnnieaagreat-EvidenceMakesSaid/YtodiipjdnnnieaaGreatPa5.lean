import Derived.Test.YtodiipjdnnnieaaGreatPa4
import Derived.Test.YtodiipjdnnnieaaGreatProg
import Derived.KernelRfl
import Derived.Test.YtodiipjdnnnieaaGreatPa3
import Derived.RangeFuncSeq
import Derived.RangeFuncIn
import Derived.Sort.Walk0
import Derived.Sort.Statements
import Derived.Shelf.SlSortCmp.Insertion
import Init.Data.List.Lex
import Derived.Shelf.SlSortCmp.NoneTotal
import Derived.Test.YtodiipjdnnnieaaGreatPa2
import Derived.Laws.Strings
import Derived.Test.YtodiipjdnnnieaaGreatPa1
section
open Go Go.SE
namespace Go.Sp
def vV (L:Pool) (who n:Int):Letter×Bool :=
 let m:=zY L n 4
 let a:=zT L m.1.a
 let b:=zT L m.1.b
 (⟨4,who,a.1.c,a.1.text,a.1.fake || b.1.fake⟩,m.2 || a.2 || b.2 || a.1.frm != 0 || b.1.frm != 1 || a.1.c != b.1.c || !decide (a.1.text=b.1.text))
def qH (L:Pool) (who body:Int):Letter×Bool :=
 let g:=zU L body
 if g.1.1=uQ∧who=0 then (⟨3,0,(zY L g.1.2 2).1.num,⟨#[]⟩,false⟩,g.2 || (zY L g.1.2 2).2)
 else if g.1.1=qX∧who=2 then (⟨5,0,(zY L g.1.2 2).1.num,⟨#[]⟩,false⟩,g.2 || (zY L g.1.2 2).2)
 else if g.1.1=qG∧who=2 then (⟨6,0,(vW L g.1.2).1.1,(vW L g.1.2).1.2,false⟩,g.2 || (vW L g.1.2).2)
 else if g.1.1=jAI∧who≤1 then (⟨2,who,(vW L body).1.1,(vW L body).1.2,false⟩,g.2 || (vW L body).2)
 else if g.1.1=yB∧who≤1 then ((vV L who g.1.2).1,g.2 || (vV L who g.1.2).2)
 else (yG,true)
end Go.Sp
namespace Go.Proofs
attribute [local irreducible] Calls
def lz:List Value:=[.int .i64 0,.int .i64 0,.int .u64 0,.string ⟨#[]⟩,.bool false]
theorem jHY (r:Addr) (p:Option Addr) (p1:Addr) (who n:Int) (bad:Bool) (w:World) {L:Sp.Pool} {F:NP} (hR:ReaderAt w r p bad L F) (hB:Box w p1 lz 35) (hne:p1.block≠r.block) (K:Int→Int→Int→ByteArray→Bool→WP)
  (hK:∀w6 w',ReaderAt w6 r p (bad || (Sp.vV L who n).2) L F→Ext (·=r.block) w w6→Box w' p1 [.int .i64 4,.int .i64 who,.int .u64 (Sp.vV L who n).1.c,.string (Sp.vV L who n).1.text,.bool (Sp.vV L who n).1.fake] 35→Ext (·=p1.block) w6 w'→K 4 who (Sp.vV L who n).1.c (Sp.vV L who n).1.text (Sp.vV L who n).1.fake w') :
  m_A_j5 (some r) who p1 n true w K:=by
 unfold m_A_j5
 refine Br.t rfl ?_
 refine (uL r p n 4 bad w hR).mono ?_
 rintro _ w11 ⟨k2,f2,t2,u2,x2,a2,b2,rfl,hn,hR11,E11⟩
 refine ⟨_,_,_,_,_,_,_,rfl,?_⟩
 intro p2 w12 h12
 have o12:=New.own (Ext.refl w11) h12
 have l11:=hR11.box.lt
 have l1:=hB.lt
 have s11:=E11.size
 refine bx 7 (Box.of_new h12) rfl rfl (fun w13 b13 E'=>?_)
 have E13:Pure w11 w13:=Ext.own (Ext.new h12) o12 E'
 have hB11:=hB.ext E11 hne
 clear E' h12
 refine ⟨fun w'=>Box w' p2 [.int .i64 k2,.int .i64 f2,.int .i64 t2,.int .u64 u2,.string x2,.int .i64 a2,.int .i64 b2] 176,b13.pure (Ext.drew w13),?_⟩
 intro w18 hw18
 have E18:Pure w11 w18:=by rw [hw18];exact E13.thenPure (Ext.drew w13)
 have cN:Box w18 p2 [.int .i64 k2,.int .i64 f2,.int .i64 t2,.int .u64 u2,.string x2,.int .i64 a2,.int .i64 b2] 176:=by rw [hw18];exact b13.pure (Ext.drew w13)
 clear hw18
 have hR18:=hR11.pure E18
 have hB18:=hB11.pure E18
 have s18:=E18.size
 have Ew18:Ext (·=r.block) w w18:=E11.thenPure E18
 have ea:a2=(Sp.zY L n 4).1.a:=by rw [← hn]
 have eb:b2=(Sp.zY L n 4).1.b:=by rw [← hn]
 generalize hbad:(bad || (Sp.zY L n 4).2)=bad2 at *
 have leaf : ∀ (pA pB : Addr) (w' : World) (ka fa ca : Int) (xa : ByteArray) (ga : Bool) (kb fb cb : Int) (xb : ByteArray) (gb : Bool), (⟨ka, fa, ca, xa, ga⟩ : Sp.Letter) = (Sp.zT L a2).1 → (⟨kb, fb, cb, xb, gb⟩ : Sp.Letter) = (Sp.zT L b2).1 →
   ReaderAt w' r p (bad2 || (Sp.zT L a2).2 || (Sp.zT L b2).2) L F→Ext (·=r.block) w18 w'→Box w' pA [.int .i64 0,.int .i64 0,.int .u64 0,.string ⟨#[]⟩,.bool false] 35→Box w' pB [.int .i64 0,.int .i64 0,.int .u64 0,.string ⟨#[]⟩,.bool false] 35→pA.block≠pB.block→w18.heap.size≤pA.block→w18.heap.size≤pB.block →
   (∀j,j<5→vF w' (pA.add j))∧∀w23:World,w23=storeRow w' pA [.int .i64 ka,.int .i64 fa,.int .u64 ca,.string xa,.bool ga] →
   (∀j,j<5→vF w23 (pB.add j))∧∀w24:World,w24=storeRow w23 pB [.int .i64 kb,.int .i64 fb,.int .u64 cb,.string xb,.bool gb]→m_A_j6 (some r) who p1 pA pB w24 K:=by
  intro pA pB w' ka fa ca xa ga kb fb cb xb gb hla hlb hR' E' hA hBb hAB hoA hoB
  have s':=E'.size
  refine bx 5 hA rfl rfl (fun w23 bA E23=>?_)
  refine bx 5 (hBb.ext E23 hAB.symm) rfl rfl (fun w24 bB E24=>?_)
  have dA:=bA.ext E24 hAB
  have hR24:ReaderAt w24 r p (bad2 || (Sp.zT L a2).2 || (Sp.zT L b2).2) L F:=⟨(hR'.box.ext E23 (by omega)).ext E24 (by omega),(hR'.pool.ext E23 (fun b hb e=>by have:=hR.pool.lt hb;omega)).ext E24 (fun b hb e=>by have:=hR.pool.lt hb;omega),hR'.ok,hR'.out⟩
  have hB24:Box w24 p1 lz 35:=((hB18.ext E' hne).ext E23 (by omega)).ext E24 (by omega)
  have E24':Ext (·=r.block) w w24:=((Ew18.trans E').trans' E23 (fun i hi h=>by omega)).trans' E24 (fun i hi h=>by omega)
  have e1:fa=(Sp.zT L a2).1.frm:=by rw [← hla]
  have e2:fb=(Sp.zT L b2).1.frm:=by rw [← hlb]
  have e3:ca=(Sp.zT L a2).1.c:=by rw [← hla]
  have e4:cb=(Sp.zT L b2).1.c:=by rw [← hlb]
  have e5:xa=(Sp.zT L a2).1.text:=by rw [← hla]
  have e6:xb=(Sp.zT L b2).1.text:=by rw [← hlb]
  have e7:ga=(Sp.zT L a2).1.fake:=by rw [← hla]
  have e8:gb=(Sp.zT L b2).1.fake:=by rw [← hlb]
  generalize hb3:(bad2 || (Sp.zT L a2).2 || (Sp.zT L b2).2)=bad3 at *
  have hsp:Sp.vV L who n=(⟨4,who,ca,xa,ga || gb⟩,(Sp.zY L n 4).2 || (Sp.zT L a2).2 || (Sp.zT L b2).2 || fa != 0 || fb != 1 || ca != cb || !decide (xa=xb)):=by
   simp only [Sp.vV,← ea,← eb,← e1,← e2,← e3,← e4,← e5,← e6,← e7,← e8]
  have hbb:(bad || (Sp.vV L who n).2)=(bad3 || fa != 0 || fb != 1 || ca != cb || !decide (xa=xb)):=by
   rw [hsp,← hb3,← hbad];simp only [Bool.or_assoc]
  rw [hbb] at hK
  rw [hsp] at hK
  have J7:∀(v:Bool) (w5:World),v=(bad3 || fa != 0 || fb != 1 || ca != cb || !decide (xa=xb))→Box w5 r [.pointer p,.bool v] 182→Ext (·=r.block) w24 w5→m_A_j7 who p1 pA pB w5 K:=by
   intro v w5 hv B5 E5;have hR5:ReaderAt w5 r p v L F:=⟨B5,hR24.pool.ext E5 (fun b hb e=>hR.out (e▸hb)),hR.ok,hR.out⟩;have dA5:=dA.ext E5 (by omega);have dB5:=bB.ext E5 (by omega);have h15:=hB24.ext E5 hne;unfold m_A_j7;refine ⟨ca,dA5.cell rfl,xa,dA5.cell rfl,ga,dA5.cell rfl,fun hg=>?_,fun hg=>⟨gb,dB5.cell rfl,?_⟩⟩
   ·refine bx 5 h15 rfl rfl (fun w6 b6 E6=>⟨4,who,ca,xa,true,b6.row,?_⟩);have:=hK w5 w6 (by rw [← hv];exact hR5) (E24'.trans E5) (by rw [hg];exact b6) E6;rw [hg] at this;exact this
   ·refine bx 5 h15 rfl rfl (fun w6 b6 E6=>⟨4,who,ca,xa,gb,b6.row,?_⟩);have:=hK w5 w6 (by rw [← hv];exact hR5) (E24'.trans E5) (by rw [hg];exact b6) E6;rw [hg] at this;exact this
  have setr:∀v:Bool,Box (w24.setCell (r.add 1) (.bool v)) r [.pointer p,.bool v] 182∧Ext (·=r.block) w24 (w24.setCell (r.add 1) (.bool v)):=fun v =>
   ⟨hR24.box.set 1 _,by have:=Ext.setCell (w:=w24) (r.add 1) (.bool v);rw [zW] at this;exact this⟩
  have J10:∀x,x=(bad3 || fa != 0 || fb != 1 || ca != cb)→m_A_j10 (some r) who p1 pA pB x w24 K:=by
   intro x hx;unfold m_A_j10;refine ⟨fun h=>⟨r,rfl,hR24.box.canW (by simp),?_⟩,fun h=>⟨xa,dA.cell rfl,xb,bB.cell rfl,r,rfl,hR24.box.canW (by simp),?_⟩⟩
   ·intro w16 hw;exact J7 true w16 (by rw [← hx,h];rfl) (by rw [hw];exact (setr _).1) (by rw [hw];exact (setr _).2)
   ·intro w16 hw;exact J7 (!decide (xa=xb)) w16 (by rw [← hx,h];rfl) (by rw [hw];exact (setr _).1) (by rw [hw];exact (setr _).2)
  have J9:∀x,x=(bad3 || fa != 0 || fb != 1)→m_A_j9 (some r) who p1 pA pB x w24 K:=by
   intro x hx;unfold m_A_j9;exact ⟨fun h=>J10 _ (by rw [← hx,h];rfl),fun h=>⟨ca,dA.cell rfl,cb,bB.cell rfl,J10 _ (by rw [← hx,h];rfl)⟩⟩
  have J8:∀x,x=(bad3 || fa != 0)→m_A_j8 (some r) who p1 pA pB x w24 K:=by
   intro x hx;unfold m_A_j8;exact ⟨fun h=>J9 _ (by rw [← hx,h];rfl),fun h=>⟨fb,bB.cell rfl,J9 _ (by rw [← hx,h];rfl)⟩⟩
  unfold m_A_j6
  exact ⟨r,rfl,bad3,hR24.box.cell rfl,fun h=>J8 _ (by rw [h];rfl),fun h=>⟨fa,dA.cell rfl,J8 _ (by rw [h];rfl)⟩⟩
 have l18:=hR18.box.lt
 have Er18:Ext (·=r.block) w18 w18:=Ext.refl w18
 refine ⟨a2,fun w' h=>h.cell rfl,b2,fun w' h=>h.cell rfl,?_⟩
 ·skip
  refine ⟨?_,?_,?_⟩
  ·skip
   refine (vH r p a2 _ w18 hR18).mono ?_
   rintro _ v1 ⟨k1,f1,c1,x1,g1,rfl,hl1,R1,e1⟩
   have E1:=Er18.trans e1
   have s1:=E1.size
   refine ⟨_,_,_,_,_,rfl,cN.ext E1 (by omega),?_⟩
   refine ⟨?_,?_,?_⟩
   ·skip
    refine (vH r p b2 _ v1 R1).mono ?_
    rintro _ v2 ⟨k2,f2,c2,x2,g2,rfl,hl2,R2,e2⟩
    have E2:=E1.trans e2
    have s2:=E2.size
    refine ⟨_,_,_,_,_,rfl,?_⟩
    refine ⟨?_,?_⟩
    ·skip
     intro q3 v3 h3
     have e3:Pure v2 v3:=Ext.new h3
     have o3:=h3.at_size
     have R3:=R2.pure e3
     have E3:=E2.thenPure e3
     have s3:=E3.size
     have t3:=(E2).size
     have bA3:=Box.of_new h3
     refine ⟨cN.ext E3 (by omega),?_⟩
     intro q4 v4 h4
     have e4:Pure v3 v4:=Ext.new h4
     have o4:=h4.at_size
     have R4:=R3.pure e4
     have E4:=E3.thenPure e4
     have s4:=E4.size
     have t4:=(E3).size
     have bA4:=bA3.pure e4
     have lA4:=bA3.lt
     have bB4:=Box.of_new h4
     refine ⟨cN.ext E4 (by omega),?_⟩
     exact leaf q3 q4 v4 _ _ _ _ _ _ _ _ _ _ hl1 hl2 R4 E4 bA4 bB4 (by omega) (by omega) (by omega)
    ·skip
     intro q5 v5 h5
     have e5:Pure v2 v5:=Ext.new h5
     have o5:=h5.at_size
     have R5:=R2.pure e5
     have E5:=E2.thenPure e5
     have s5:=E5.size
     have t5:=(E2).size
     have bB5:=Box.of_new h5
     refine ⟨cN.ext E5 (by omega),?_⟩
     intro q6 v6 h6
     have e6:Pure v5 v6:=Ext.new h6
     have o6:=h6.at_size
     have R6:=R5.pure e6
     have E6:=E5.thenPure e6
     have s6:=E6.size
     have t6:=(E5).size
     have bB6:=bB5.pure e6
     have lB6:=bB5.lt
     have bA6:=Box.of_new h6
     refine ⟨cN.ext E6 (by omega),?_⟩
     exact leaf q6 q5 v6 _ _ _ _ _ _ _ _ _ _ hl1 hl2 R6 E6 bA6 bB6 (by omega) (by omega) (by omega)
   ·skip
    intro q7 v7 h7
    have e7:Pure v1 v7:=Ext.new h7
    have o7:=h7.at_size
    have R7:=R1.pure e7
    have E7:=E1.thenPure e7
    have s7:=E7.size
    have t7:=(E1).size
    have bA7:=Box.of_new h7
    refine ⟨cN.ext E7 (by omega),?_⟩
    refine ⟨?_,?_⟩
    ·skip
     refine (vH r p b2 _ v7 R7).mono ?_
     rintro _ v8 ⟨k8,f8,c8,x8,g8,rfl,hl2,R8,e8⟩
     have E8:=E7.trans e8
     have bA8:=bA7.ext e8 (by omega)
     have s8:=E8.size
     refine ⟨_,_,_,_,_,rfl,?_⟩
     intro q9 v9 h9
     have e9:Pure v8 v9:=Ext.new h9
     have o9:=h9.at_size
     have R9:=R8.pure e9
     have E9:=E8.thenPure e9
     have s9:=E9.size
     have t9:=(E8).size
     have bA9:=bA8.pure e9
     have lA9:=bA8.lt
     have bB9:=Box.of_new h9
     refine ⟨cN.ext E9 (by omega),?_⟩
     exact leaf q7 q9 v9 _ _ _ _ _ _ _ _ _ _ hl1 hl2 R9 E9 bA9 bB9 (by omega) (by omega) (by omega)
    ·skip
     intro q10 v10 h10
     have e10:Pure v7 v10:=Ext.new h10
     have o10:=h10.at_size
     have R10:=R7.pure e10
     have E10:=E7.thenPure e10
     have s10:=E10.size
     have t10:=(E7).size
     have bA10:=bA7.pure e10
     have lA10:=bA7.lt
     have bB10:=Box.of_new h10
     refine ⟨cN.ext E10 (by omega),?_⟩
     refine (vH r p b2 _ v10 R10).mono ?_
     rintro _ v11 ⟨k11,f11,c11,x11,g11,rfl,hl2,R11,e11⟩
     have E11:=E10.trans e11
     have bA11:=bA10.ext e11 (by omega)
     have bB11:=bB10.ext e11 (by omega)
     have s11:=E11.size
     refine ⟨_,_,_,_,_,rfl,?_⟩
     exact leaf q7 q10 v11 _ _ _ _ _ _ _ _ _ _ hl1 hl2 R11 E11 bA11 bB11 (by omega) (by omega) (by omega)
   ·skip
    intro q12 v12 h12
    have e12:Pure v1 v12:=Ext.new h12
    have o12:=h12.at_size
    have R12:=R1.pure e12
    have E12:=E1.thenPure e12
    have s12:=E12.size
    have t12:=(E1).size
    have bB12:=Box.of_new h12
    refine ⟨cN.ext E12 (by omega),?_⟩
    refine ⟨?_,?_⟩
    ·skip
     refine (vH r p b2 _ v12 R12).mono ?_
     rintro _ v13 ⟨k13,f13,c13,x13,g13,rfl,hl2,R13,e13⟩
     have E13:=E12.trans e13
     have bB13:=bB12.ext e13 (by omega)
     have s13:=E13.size
     refine ⟨_,_,_,_,_,rfl,?_⟩
     intro q14 v14 h14
     have e14:Pure v13 v14:=Ext.new h14
     have o14:=h14.at_size
     have R14:=R13.pure e14
     have E14:=E13.thenPure e14
     have s14:=E14.size
     have t14:=(E13).size
     have bB14:=bB13.pure e14
     have lB14:=bB13.lt
     have bA14:=Box.of_new h14
     refine ⟨cN.ext E14 (by omega),?_⟩
     exact leaf q14 q12 v14 _ _ _ _ _ _ _ _ _ _ hl1 hl2 R14 E14 bA14 bB14 (by omega) (by omega) (by omega)
    ·skip
     intro q15 v15 h15
     have e15:Pure v12 v15:=Ext.new h15
     have o15:=h15.at_size
     have R15:=R12.pure e15
     have E15:=E12.thenPure e15
     have s15:=E15.size
     have t15:=(E12).size
     have bB15:=bB12.pure e15
     have lB15:=bB12.lt
     have bA15:=Box.of_new h15
     refine ⟨cN.ext E15 (by omega),?_⟩
     refine (vH r p b2 _ v15 R15).mono ?_
     rintro _ v16 ⟨k16,f16,c16,x16,g16,rfl,hl2,R16,e16⟩
     have E16:=E15.trans e16
     have bA16:=bA15.ext e16 (by omega)
     have bB16:=bB15.ext e16 (by omega)
     have s16:=E16.size
     refine ⟨_,_,_,_,_,rfl,?_⟩
     exact leaf q15 q12 v16 _ _ _ _ _ _ _ _ _ _ hl1 hl2 R16 E16 bA16 bB16 (by omega) (by omega) (by omega)
  ·skip
   intro q17 v17 h17
   have e17:Pure w18 v17:=Ext.new h17
   have o17:=h17.at_size
   have R17:=hR18.pure e17
   have E17:=Er18.thenPure e17
   have s17:=E17.size
   have t17:=(Er18).size
   have bA17:=Box.of_new h17
   refine ⟨cN.ext E17 (by omega),?_⟩
   refine ⟨?_,?_⟩
   ·skip
    refine (vH r p a2 _ v17 R17).mono ?_
    rintro _ v18 ⟨k18,f18,c18,x18,g18,rfl,hl1,R18,e18⟩
    have E18:=E17.trans e18
    have bA18:=bA17.ext e18 (by omega)
    have s18:=E18.size
    refine ⟨_,_,_,_,_,rfl,cN.ext E18 (by omega),?_⟩
    refine ⟨?_,?_⟩
    ·skip
     refine (vH r p b2 _ v18 R18).mono ?_
     rintro _ v19 ⟨k19,f19,c19,x19,g19,rfl,hl2,R19,e19⟩
     have E19:=E18.trans e19
     have bA19:=bA18.ext e19 (by omega)
     have s19:=E19.size
     refine ⟨_,_,_,_,_,rfl,?_⟩
     intro q20 v20 h20
     have e20:Pure v19 v20:=Ext.new h20
     have o20:=h20.at_size
     have R20:=R19.pure e20
     have E20:=E19.thenPure e20
     have s20:=E20.size
     have t20:=(E19).size
     have bA20:=bA19.pure e20
     have lA20:=bA19.lt
     have bB20:=Box.of_new h20
     refine ⟨cN.ext E20 (by omega),?_⟩
     exact leaf q17 q20 v20 _ _ _ _ _ _ _ _ _ _ hl1 hl2 R20 E20 bA20 bB20 (by omega) (by omega) (by omega)
    ·skip
     intro q21 v21 h21
     have e21:Pure v18 v21:=Ext.new h21
     have o21:=h21.at_size
     have R21:=R18.pure e21
     have E21:=E18.thenPure e21
     have s21:=E21.size
     have t21:=(E18).size
     have bA21:=bA18.pure e21
     have lA21:=bA18.lt
     have bB21:=Box.of_new h21
     refine ⟨cN.ext E21 (by omega),?_⟩
     refine (vH r p b2 _ v21 R21).mono ?_
     rintro _ v22 ⟨k22,f22,c22,x22,g22,rfl,hl2,R22,e22⟩
     have E22:=E21.trans e22
     have bA22:=bA21.ext e22 (by omega)
     have bB22:=bB21.ext e22 (by omega)
     have s22:=E22.size
     refine ⟨_,_,_,_,_,rfl,?_⟩
     exact leaf q17 q21 v22 _ _ _ _ _ _ _ _ _ _ hl1 hl2 R22 E22 bA22 bB22 (by omega) (by omega) (by omega)
   ·skip
    intro q23 v23 h23
    have e23:Pure v17 v23:=Ext.new h23
    have o23:=h23.at_size
    have R23:=R17.pure e23
    have E23:=E17.thenPure e23
    have s23:=E23.size
    have t23:=(E17).size
    have bA23:=bA17.pure e23
    have lA23:=bA17.lt
    have bB23:=Box.of_new h23
    refine ⟨cN.ext E23 (by omega),?_⟩
    refine (vH r p a2 _ v23 R23).mono ?_
    rintro _ v24 ⟨k24,f24,c24,x24,g24,rfl,hl1,R24,e24⟩
    have E24:=E23.trans e24
    have bA24:=bA23.ext e24 (by omega)
    have bB24:=bB23.ext e24 (by omega)
    have s24:=E24.size
    refine ⟨_,_,_,_,_,rfl,cN.ext E24 (by omega),?_⟩
    refine (vH r p b2 _ v24 R24).mono ?_
    rintro _ v25 ⟨k25,f25,c25,x25,g25,rfl,hl2,R25,e25⟩
    have E25:=E24.trans e25
    have bA25:=bA24.ext e25 (by omega)
    have bB25:=bB24.ext e25 (by omega)
    have s25:=E25.size
    refine ⟨_,_,_,_,_,rfl,?_⟩
    exact leaf q17 q23 v25 _ _ _ _ _ _ _ _ _ _ hl1 hl2 R25 E25 bA25 bB25 (by omega) (by omega) (by omega)
  ·skip
   intro q26 v26 h26
   have e26:Pure w18 v26:=Ext.new h26
   have o26:=h26.at_size
   have R26:=hR18.pure e26
   have E26:=Er18.thenPure e26
   have s26:=E26.size
   have t26:=(Er18).size
   have bB26:=Box.of_new h26
   refine ⟨cN.ext E26 (by omega),?_⟩
   refine ⟨?_,?_⟩
   ·skip
    refine (vH r p a2 _ v26 R26).mono ?_
    rintro _ v27 ⟨k27,f27,c27,x27,g27,rfl,hl1,R27,e27⟩
    have E27:=E26.trans e27
    have bB27:=bB26.ext e27 (by omega)
    have s27:=E27.size
    refine ⟨_,_,_,_,_,rfl,cN.ext E27 (by omega),?_⟩
    refine ⟨?_,?_⟩
    ·skip
     refine (vH r p b2 _ v27 R27).mono ?_
     rintro _ v28 ⟨k28,f28,c28,x28,g28,rfl,hl2,R28,e28⟩
     have E28:=E27.trans e28
     have bB28:=bB27.ext e28 (by omega)
     have s28:=E28.size
     refine ⟨_,_,_,_,_,rfl,?_⟩
     intro q29 v29 h29
     have e29:Pure v28 v29:=Ext.new h29
     have o29:=h29.at_size
     have R29:=R28.pure e29
     have E29:=E28.thenPure e29
     have s29:=E29.size
     have t29:=(E28).size
     have bB29:=bB28.pure e29
     have lB29:=bB28.lt
     have bA29:=Box.of_new h29
     refine ⟨cN.ext E29 (by omega),?_⟩
     exact leaf q29 q26 v29 _ _ _ _ _ _ _ _ _ _ hl1 hl2 R29 E29 bA29 bB29 (by omega) (by omega) (by omega)
    ·skip
     intro q30 v30 h30
     have e30:Pure v27 v30:=Ext.new h30
     have o30:=h30.at_size
     have R30:=R27.pure e30
     have E30:=E27.thenPure e30
     have s30:=E30.size
     have t30:=(E27).size
     have bB30:=bB27.pure e30
     have lB30:=bB27.lt
     have bA30:=Box.of_new h30
     refine ⟨cN.ext E30 (by omega),?_⟩
     refine (vH r p b2 _ v30 R30).mono ?_
     rintro _ v31 ⟨k31,f31,c31,x31,g31,rfl,hl2,R31,e31⟩
     have E31:=E30.trans e31
     have bA31:=bA30.ext e31 (by omega)
     have bB31:=bB30.ext e31 (by omega)
     have s31:=E31.size
     refine ⟨_,_,_,_,_,rfl,?_⟩
     exact leaf q30 q26 v31 _ _ _ _ _ _ _ _ _ _ hl1 hl2 R31 E31 bA31 bB31 (by omega) (by omega) (by omega)
   ·skip
    intro q32 v32 h32
    have e32:Pure v26 v32:=Ext.new h32
    have o32:=h32.at_size
    have R32:=R26.pure e32
    have E32:=E26.thenPure e32
    have s32:=E32.size
    have t32:=(E26).size
    have bB32:=bB26.pure e32
    have lB32:=bB26.lt
    have bA32:=Box.of_new h32
    refine ⟨cN.ext E32 (by omega),?_⟩
    refine (vH r p a2 _ v32 R32).mono ?_
    rintro _ v33 ⟨k33,f33,c33,x33,g33,rfl,hl1,R33,e33⟩
    have E33:=E32.trans e33
    have bA33:=bA32.ext e33 (by omega)
    have bB33:=bB32.ext e33 (by omega)
    have s33:=E33.size
    refine ⟨_,_,_,_,_,rfl,cN.ext E33 (by omega),?_⟩
    refine (vH r p b2 _ v33 R33).mono ?_
    rintro _ v34 ⟨k34,f34,c34,x34,g34,rfl,hl2,R34,e34⟩
    have E34:=E33.trans e34
    have bA34:=bA33.ext e34 (by omega)
    have bB34:=bB33.ext e34 (by omega)
    have s34:=E34.size
    refine ⟨_,_,_,_,_,rfl,?_⟩
    exact leaf q32 q26 v34 _ _ _ _ _ _ _ _ _ _ hl1 hl2 R34 E34 bA34 bB34 (by omega) (by omega) (by omega)
end Go.Proofs
end
section
open Go Go.SE
namespace Go.Sp
def xB (L:Pool) (t:Int):Letter×Bool :=
 let n:=zD L t
 if n.kind=7 then qH L n.frm n.a else if n.kind=8∨n.kind=9 then zT L t
 else if ((zU L t).2 || !decide ((zU L t).1.1=jGP))=true then (yG,true)
 else (⟨7,0,(zY L (zU L t).1.2 2).1.num,⟨#[]⟩,false⟩,(zY L (zU L t).1.2 2).2)
def qD (L:Pool) (t:Int):Letter×Bool:=if (xB L t).2=true then (yG,false) else ((xB L t).1,true)
end Go.Sp
namespace Go.Proofs
open Tryz
attribute [local irreducible] Calls
theorem jJJ (r:Addr) (p:Option Addr) (who body:Int) (bad:Bool) (w:World) {L:Sp.Pool} {F:NP} (hR:ReaderAt w r p bad L F) :
  Calls prog 106 #[.pointer (some r),.int .i64 who,.int .i64 body] w
   (fun e w'=>∃k:Int,∃f:Int,∃c:Int,∃x:ByteArray,∃fk:Bool,e=.returned (.agg #[.int .i64 k,.int .i64 f,.int .u64 c,.string x,.bool fk])∧((⟨k,f,c,x,fk⟩:Sp.Letter)=(Sp.qH L who body).1∧ReaderAt w' r p (bad || (Sp.qH L who body).2) L F∧Ext (·=r.block) w w')):=by
 suffices key:∀K:Int→Int→Int→ByteArray→Bool→WP,(∀k f c x fk w',((⟨k,f,c,x,fk⟩:Sp.Letter)=(Sp.qH L who body).1∧ReaderAt w' r p (bad || (Sp.qH L who body).2) L F∧Ext (·=r.block) w w')→K k f c x fk w')→m_A (some r) who body w K from
  w_A _ _ _ w _ (key _ (fun _ _ _ _ _ _ h=>h))
 intro K hK
 unfold m_A
 intro p1 w1 h1
 have E1:Pure w w1:=Ext.new h1
 have o1:=New.own (Ext.refl w) h1
 have lr:=hR.box.lt
 have b1:Box w1 p1 lz 35:=Box.of_new h1
 have ne:p1.block≠r.block:=by omega
 refine (jAV r p body bad w1 (hR.pure E1)).mono ?_
 rintro _ w2 ⟨x,y,rfl,hg,hR2,E12⟩
 refine ⟨_,_,rfl,?_⟩
 have b2:=b1.ext E12 ne
 have E2:Ext (·=r.block) w w2:=E1.pure.trans E12
 have ex:x=(Sp.zU L body).1.1:=congrArg Prod.fst hg
 have ey:y=(Sp.zU L body).1.2:=congrArg Prod.snd hg
 have hsp:Sp.qH L who body=if x=Sp.uQ∧who=0 then (⟨3,0,(Sp.zY L y 2).1.num,⟨#[]⟩,false⟩,(Sp.zU L body).2 || (Sp.zY L y 2).2)
  else if x=Sp.qX∧who=2 then (⟨5,0,(Sp.zY L y 2).1.num,⟨#[]⟩,false⟩,(Sp.zU L body).2 || (Sp.zY L y 2).2)
  else if x=Sp.qG∧who=2 then (⟨6,0,(Sp.vW L y).1.1,(Sp.vW L y).1.2,false⟩,(Sp.zU L body).2 || (Sp.vW L y).2)
  else if x=Sp.jAI∧who≤1 then (⟨2,who,(Sp.vW L body).1.1,(Sp.vW L body).1.2,false⟩,(Sp.zU L body).2 || (Sp.vW L body).2)
  else if x=Sp.yB∧who≤1 then ((Sp.vV L who y).1,(Sp.zU L body).2 || (Sp.vV L who y).2)
  else (Sp.yG,true):=by
  simp only [Sp.qH,← ex,← ey]
 clear ex ey hg
 generalize hbg:(Sp.zU L body).2=g2 at *
 have fin : ∀ (k f c : Int) (z : ByteArray) (fk v : Bool) (w5 : World), Sp.qH L who body = (⟨k, f, c, z, fk⟩, v) → ReaderAt w5 r p (bad || v) L F → Ext (· = r.block) w2 w5 →
   (∀j,j<5→vF w5 (p1.add j))∧∀w6:World,w6=storeRow w5 p1 [(.int .i64 k),(.int .i64 f),(.int .u64 c),(.string z),(.bool fk)] →
   ∃qKind1:Int,∃qFrom1:Int,∃qC1:Int,∃qText1:ByteArray,∃qFake1:Bool,Row w6 p1 [(.int .i64 qKind1),(.int .i64 qFrom1),(.int .u64 qC1),(.string qText1),(.bool qFake1)] ∧
   K qKind1 qFrom1 qC1 qText1 qFake1 w6:=by
  intro k f c z fk v w5 hs hR5 E5
  refine bx 5 (b2.ext E5 ne) rfl rfl (fun w6 b6 E6=>⟨k,f,c,z,fk,b6.row,hK _ _ _ _ _ _ ⟨by rw [hs],?_,?_⟩⟩)
  ·rw [hs];exact ⟨hR5.box.ext E6 ne.symm,hR5.pool.ext E6 (fun b hb e=>by have:=hR.pool.lt hb;omega),hR.ok,hR.out⟩
  ·exact (E2.trans E5).trans' E6 (fun i hi h=>by omega)
 have nodeCase : ∀ (k : Int), Sp.qH L who body = (⟨k, 0, (Sp.zY L y 2).1.num, ⟨#[]⟩, false⟩, g2 || (Sp.zY L y 2).2) →
   Calls prog 109 #[.pointer (some r),.int .i64 y,.int .i64 2] w2 (fun e w3=>∃rKind1:Int,∃rFrom1:Int,∃rTo1:Int,∃rNum1:Int,∃rText1:ByteArray,∃rA1:Int,∃rB1:Int,e=.returned (.agg #[(.int .i64 rKind1),(.int .i64 rFrom1),(.int .i64 rTo1),(.int .u64 rNum1),(.string rText1),(.int .i64 rA1),(.int .i64 rB1)]) ∧
    (∀j,j<5→vF w3 (p1.add j))∧∀w4:World,w4=storeRow w3 p1 [(.int .i64 k),(.int .i64 0),(.int .u64 rNum1),(.string (⟨#[]⟩:ByteArray)),(.bool false)] →
    ∃qKind1:Int,∃qFrom1:Int,∃qC1:Int,∃qText1:ByteArray,∃qFake1:Bool,Row w4 p1 [(.int .i64 qKind1),(.int .i64 qFrom1),(.int .u64 qC1),(.string qText1),(.bool qFake1)] ∧
    K qKind1 qFrom1 qC1 qText1 qFake1 w4):=by
  intro k hs
  refine (uL r p y 2 _ w2 hR2).mono ?_
  rintro _ w3 ⟨k3,f3,t3,u3,x3,a3,b3,rfl,hn3,hR3,E3⟩
  have e3:u3=(Sp.zY L y 2).1.num:=by rw [← hn3]
  refine ⟨_,_,_,_,_,_,_,rfl,?_⟩
  rw [← e3] at hs
  exact fin _ _ _ _ _ _ w3 hs (by rw [← Bool.or_assoc];exact hR3) E3
 have dealCase : ∀ (k f t : Int), Sp.qH L who body = (⟨k, f, (Sp.vW L t).1.1, (Sp.vW L t).1.2, false⟩, g2 || (Sp.vW L t).2) →
   Calls prog 170 #[.pointer (some r),.int .i64 t] w2 (fun e w7=>∃r4:Int,∃r5:ByteArray,e=.returned (.tuple #[(.int .u64 r4),(.string r5)]) ∧
    (∀j,j<5→vF w7 (p1.add j))∧∀w8:World,w8=storeRow w7 p1 [(.int .i64 k),(.int .i64 f),(.int .u64 r4),(.string r5),(.bool false)] →
    ∃qKind1:Int,∃qFrom1:Int,∃qC1:Int,∃qText1:ByteArray,∃qFake1:Bool,Row w8 p1 [(.int .i64 qKind1),(.int .i64 qFrom1),(.int .u64 qC1),(.string qText1),(.bool qFake1)] ∧
    K qKind1 qFrom1 qC1 qText1 qFake1 w8):=by
  intro k f t hs
  refine (jHZ r p t _ w2 hR2).mono ?_
  rintro _ w3 ⟨c,z,rfl,hd,hR3,E3⟩
  have e1:c=(Sp.vW L t).1.1:=congrArg Prod.fst hd
  have e2:z=(Sp.vW L t).1.2:=congrArg Prod.snd hd
  refine ⟨_,_,rfl,?_⟩
  rw [← e1,← e2] at hs
  exact fin _ _ _ _ _ _ w3 hs (by rw [← Bool.or_assoc];exact hR3) E3
 have J5:∀b,b=decide (x=Sp.yB∧who≤1)→¬ (x=Sp.uQ∧who=0)→¬ (x=Sp.qX∧who=2)→¬ (x=Sp.qG∧who=2)→¬ (x=Sp.jAI∧who≤1)→m_A_j5 (some r) who p1 y b w2 K:=by
  intro b hb h1 h2 h3 h4;rw [if_neg h1,if_neg h2,if_neg h3,if_neg h4] at hsp;cases hbv:b with
  | true =>
   have hc:x=Sp.yB∧who≤1:=of_decide_eq_true (by rw [← hb,hbv])
   rw [if_pos hc] at hsp
   refine jHY r p p1 who y _ w2 hR2 b2 ne K (fun w6 w' hR6 E6 b' E'=>hK _ _ _ _ _ _ ⟨by rw [hsp];rfl,?_,?_⟩)
   ·rw [hsp];simp only [← Bool.or_assoc]
    exact ⟨hR6.box.ext E' ne.symm,hR6.pool.ext E' (fun b hb e=>by have:=hR.pool.lt hb;omega),hR.ok,hR.out⟩
   ·exact (E2.trans E6).trans' E' (fun i hi h=>by omega)
  | false =>
   have hc:¬ (x=Sp.yB∧who≤1):=of_decide_eq_false (by rw [← hb,hbv])
   rw [if_neg hc] at hsp
   unfold m_A_j5
   refine Br.f rfl ⟨r,rfl,hR2.box.canW (by simp),?_⟩
   intro w77 hw
   have d5:Box w77 r [.pointer p,.bool true] 182:=by rw [hw];exact hR2.box.set 1 _
   have E5:Ext (·=r.block) w2 w77:=by rw [hw];have:=Ext.setCell (w:=w2) (r.add 1) (.bool true);rw [zW] at this;exact this
   exact fin 0 0 0 ⟨#[]⟩ false true w77 hsp (by rw [Bool.or_true];exact ⟨d5,hR2.pool.ext E5 (fun b hb e=>hR.out (e▸hb)),hR.ok,hR.out⟩) E5
 have J4:∀b,b=decide (x=Sp.jAI∧who≤1)→¬ (x=Sp.uQ∧who=0)→¬ (x=Sp.qX∧who=2)→¬ (x=Sp.qG∧who=2)→m_A_j4 (some r) who body p1 x y b w2 K:=by
  intro b hb h1 h2 h3;unfold m_A_j4;refine ⟨fun h=>dealCase 2 who body ?_,fun h=>?_⟩
  ·rw [hsp,if_neg h1,if_neg h2,if_neg h3,if_pos (of_decide_eq_true (by rw [← hb,h]))]
  ·have h4:¬ (x=Sp.jAI∧who≤1):=of_decide_eq_false (by rw [← hb,h]);exact ⟨fun hw=>J5 _ (by have:x=Sp.yB:=of_decide_eq_true hw;simp [this]) h1 h2 h3 h4,fun hw=>J5 _ (by have:¬ x=Sp.yB:=of_decide_eq_false hw;simp [this]) h1 h2 h3 h4⟩
 have J3:∀b,b=decide (x=Sp.qG∧who=2)→¬ (x=Sp.uQ∧who=0)→¬ (x=Sp.qX∧who=2)→m_A_j3 (some r) who body p1 x y b w2 K:=by
  intro b hb h1 h2;unfold m_A_j3;refine ⟨fun h=>dealCase 6 0 y ?_,fun h=>?_⟩
  ·rw [hsp,if_neg h1,if_neg h2,if_pos (of_decide_eq_true (by rw [← hb,h]))]
  ·have h3:¬ (x=Sp.qG∧who=2):=of_decide_eq_false (by rw [← hb,h]);exact ⟨fun hw=>J4 _ (by have:x=Sp.jAI:=of_decide_eq_true hw;simp [this]) h1 h2 h3,fun hw=>J4 _ (by have:¬ x=Sp.jAI:=of_decide_eq_false hw;simp [this]) h1 h2 h3⟩
 have J2:∀b,b=decide (x=Sp.qX∧who=2)→¬ (x=Sp.uQ∧who=0)→m_A_j2 (some r) who body p1 x y b w2 K:=by
  intro b hb h1;unfold m_A_j2;refine ⟨fun h=>nodeCase 5 ?_,fun h=>?_⟩
  ·rw [hsp,if_neg h1,if_pos (of_decide_eq_true (by rw [← hb,h]))]
  ·have h2:¬ (x=Sp.qX∧who=2):=of_decide_eq_false (by rw [← hb,h]);exact ⟨fun hw=>J3 _ (by have:x=Sp.qG:=of_decide_eq_true hw;simp [this];rfl) h1 h2,fun hw=>J3 _ (by have:¬ x=Sp.qG:=of_decide_eq_false hw;simp [this]) h1 h2⟩
 have J1:∀b,b=decide (x=Sp.uQ∧who=0)→m_A_j1 (some r) who body p1 x y b w2 K:=by
  intro b hb;unfold m_A_j1;refine ⟨fun h=>nodeCase 3 ?_,fun h=>?_⟩
  ·rw [hsp,if_pos (of_decide_eq_true (by rw [← hb,h]))]
  ·have h1:¬ (x=Sp.uQ∧who=0):=of_decide_eq_false (by rw [← hb,h]);exact ⟨fun hw=>J2 _ (by have:x=Sp.qX:=of_decide_eq_true hw;simp [this];rfl) h1,fun hw=>J2 _ (by have:¬ x=Sp.qX:=of_decide_eq_false hw;simp [this]) h1⟩
 exact ⟨fun hw=>J1 _ (by have:x=Sp.uQ:=of_decide_eq_true hw;simp [this];rfl),fun hw=>J1 _ (by have:¬ x=Sp.uQ:=of_decide_eq_false hw;simp [this])⟩
end Go.Proofs
end
section
open Go Go.SE
namespace Go.Proofs
open Tryz
attribute [local irreducible] Calls
theorem xW (p:Option Addr) (t:Int) (w:World) {L:Sp.Pool} {F:NP} (hP:jCD w p L F) (hok:Sp.Ok L) :
  Calls prog 51 #[.pointer p,.int .i64 t] w
   (fun e w'=>∃k:Int,∃f:Int,∃c:Int,∃x:ByteArray,∃fk:Bool,∃ok:Bool,e=.returned (.tuple #[.agg #[.int .i64 k,.int .i64 f,.int .u64 c,.string x,.bool fk],.bool ok])∧(((⟨k,f,c,x,fk⟩:Sp.Letter),ok)=Sp.qD L t∧Pure w w')):=by
 suffices key:∀K:Int→Int→Int→ByteArray→Bool→Bool→WP,(∀k f c x fk ok w',(((⟨k,f,c,x,fk⟩:Sp.Letter),ok)=Sp.qD L t∧Pure w w')→K k f c x fk ok w')→m_K p t w K from
  w_K _ _ w _ (key _ (fun _ _ _ _ _ _ _ h=>h))
 intro K hK
 unfold m_K
 intro p2 w1 h1 p3 w2 h2
 have E1:Pure w w1:=Ext.new h1
 have E2:Pure w w2:=E1.trans (Ext.new h2)
 have o2:=New.own (Ext.refl w) h1
 have o3:=New.own E1 h2
 have n23:p2.block≠p3.block:=New.ne h2 (Box.of_new h1).blk
 have b2:Box w2 p2 lz 35:=(Box.of_new h1).pure (Ext.new h2)
 have hout:¬ F p3.block:=fun h=>by have:=hP.lt h;omega
 have hR2:ReaderAt w2 p3 p false L F:=⟨Box.of_new h2,hP.pure E2,hok,hout⟩
 refine (jJL p t w2 hR2.pool hok).mono ?_
 rintro _ w3 ⟨k,f,t',u,x,a,b,ok,rfl,⟨hn,_⟩,E23⟩
 refine ⟨_,_,_,_,_,_,_,_,rfl,?_⟩
 intro p4 w4 h4
 have E3:Pure w2 w3:=E23
 have o4:=New.own (Ext.refl w3) h4
 have l3:=(hR2.pure E3).box.lt
 have l2:=(b2.pure E3).lt
 refine bx 7 (Box.of_new h4) rfl rfl (fun w5 b4 E'=>?_)
 have E5:Pure w3 w5:=Ext.own (Ext.new h4) o4 E'
 intro p5 w6 h6
 have E6:Pure w3 w6:=E5.trans (Ext.new h6)
 have o5:=New.own E5 h6
 have n45:p4.block≠p5.block:=New.ne h6 b4.blk
 have c4:=b4.pure (Ext.new h6:Pure w5 w6)
 have c5:Box w6 p5 lz 35:=Box.of_new h6
 have c2:=b2.pure (E3.trans E6)
 have hR6:=hR2.pure (E3.trans E6)
 have E26:Pure w w6:=(E2.trans E3).trans E6
 clear E' h1 h2 h4 h6
 have n35:p3.block≠p5.block:=by omega
 have n25:p2.block≠p5.block:=by omega
 have hq:Sp.xB L t=if k=7 then Sp.qH L f a else if k=8∨k=9 then Sp.zT L t else if ((Sp.zU L t).2 || !decide ((Sp.zU L t).1.1=Sp.jGP))=true then (Sp.yG,true) else (⟨7,0,(Sp.zY L (Sp.zU L t).1.2 2).1.num,⟨#[]⟩,false⟩,(Sp.zY L (Sp.zU L t).1.2 2).2):=by
  simp only [Sp.xB,← hn]
 have bad1 : ∀ (w8 : World), (Sp.xB L t).2 = true → Ext (fun b => b = p3.block ∨ b = p5.block) w6 w8 → (∀ j, j < 5 → vF w8 (p2.add j)) ∧ ∀ w9 : World, w9 = storeRow w8 p2 [(.int .i64 0), (.int .i64 0), (.int .u64 0), (.string (⟨#[]⟩ : ByteArray)), (.bool false)] →
   ∃qKind1:Int,∃qFrom1:Int,∃qC1:Int,∃qText1:ByteArray,∃qFake1:Bool,Row w9 p2 [(.int .i64 qKind1),(.int .i64 qFrom1),(.int .u64 qC1),(.string qText1),(.bool qFake1)]∧K qKind1 qFrom1 qC1 qText1 qFake1 false w9:=by
  intro w8 hb E8
  refine bx 5 (c2.ext E8 (by rintro (h | h) <;> omega)) rfl rfl (fun w9 b9 E9=>⟨0,0,0,⟨#[]⟩,false,b9.row,hK _ _ _ _ _ _ _ ⟨?_,?_⟩⟩)
  ·rw [Sp.qD,if_pos hb];rfl
  ·exact (E26.trans' E8 (fun i hi h=>by rcases h with h | h <;> omega)).trans' E9 (fun i hi h=>by omega)
 have good1 : ∀ (w8 : World) (l : Sp.Letter), Sp.xB L t = (l, false) → Ext (fun b => b = p3.block ∨ b = p5.block) w6 w8 → Box w8 p5 [.int .i64 l.kind, .int .i64 l.frm, .int .u64 l.c, .string l.text, .bool l.fake] 35 →
   ∃vKind1:Int,∃vFrom1:Int,∃vC1:Int,∃vText1:ByteArray,∃vFake1:Bool,Row w8 p5 [(.int .i64 vKind1),(.int .i64 vFrom1),(.int .u64 vC1),(.string vText1),(.bool vFake1)] ∧
   (∀j,j<5→vF w8 (p2.add j))∧∀w9:World,w9=storeRow w8 p2 [(.int .i64 vKind1),(.int .i64 vFrom1),(.int .u64 vC1),(.string vText1),(.bool vFake1)] →
   ∃qKind1:Int,∃qFrom1:Int,∃qC1:Int,∃qText1:ByteArray,∃qFake1:Bool,Row w9 p2 [(.int .i64 qKind1),(.int .i64 qFrom1),(.int .u64 qC1),(.string qText1),(.bool qFake1)]∧K qKind1 qFrom1 qC1 qText1 qFake1 true w9:=by
  intro w8 l hb E8 B8
  refine ⟨_,_,_,_,_,B8.row,?_⟩
  refine bx 5 (c2.ext E8 (by rintro (h | h) <;> omega)) rfl rfl (fun w9 b9 E9=>⟨l.kind,l.frm,l.c,l.text,l.fake,b9.row,hK _ _ _ _ _ _ _ ⟨?_,?_⟩⟩)
  ·rw [Sp.qD,if_neg (by rw [hb];simp),hb]
  ·exact (E26.trans' E8 (fun i hi h=>by rcases h with h | h <;> omega)).trans' E9 (fun i hi h=>by omega)
 have up:∀{w7 w8:World},Ext (·=p3.block) w6 w7→Ext (·=p5.block) w7 w8→Ext (fun b=>b=p3.block∨b=p5.block) w6 w8:=fun h h'=>(h.mono (fun _ _ h=>.inl h)).trans' h' (fun _ _ h=>.inr h)
 have J1p:∀b,b=true→k≠7→(k=8∨k=9)→m_K_j1 t p2 p3 p5 b w6 K:=by
  rintro _ rfl h7 h89;rw [if_neg h7,if_pos h89] at hq;unfold m_K_j1;refine Br.t rfl ?_;refine (vH p3 p t false w6 hR6).mono ?_;rintro _ w7 ⟨k7,f7,c7,x7,g7,rfl,hl,hR7,E7⟩;refine ⟨_,_,_,_,_,rfl,bx 5 (c5.ext E7 n35.symm) rfl rfl (fun w8 b8 E8=>⟨(Sp.zT L t).2,?_,fun h=>bad1 w8 (by rw [hq];exact h) (up E7 E8),fun h=>good1 w8 ⟨k7,f7,c7,x7,g7⟩ (by rw [hq,hl,← h]) (up E7 E8) b8⟩)⟩;have:=(hR7.box.ext E8 n35).cell (i:=1) rfl;simpa using this
 have J1t:∀b,b=false→k≠7→¬ (k=8∨k=9)→m_K_j1 t p2 p3 p5 b w6 K:=by
  rintro _ rfl h7 h89;rw [if_neg h7,if_neg h89] at hq;unfold m_K_j1;refine Br.f rfl ?_;refine (jAV p3 p t false w6 hR6).mono ?_;rintro _ w7 ⟨x7,y7,rfl,hg,hR7,E7⟩;have ex:x7=(Sp.zU L t).1.1:=congrArg Prod.fst hg;have ey:y7=(Sp.zU L t).1.2:=congrArg Prod.snd hg;rw [← ex,← ey] at hq;have setr:∀v:Bool,Box (w7.setCell (p3.add 1) (.bool v)) p3 [.pointer p,.bool v] 182∧Ext (·=p3.block) w7 (w7.setCell (p3.add 1) (.bool v)):=fun v =>
   ⟨hR7.box.set 1 _,by have:=Ext.setCell (w:=w7) (p3.add 1) (.bool v);rw [zW] at this;exact this⟩
  have J3:∀(v:Bool) (w8:World),v=((Sp.zU L t).2 || !decide (x7=Sp.jGP))→Box w8 p3 [.pointer p,.bool v] 182→Ext (·=p3.block) w7 w8→m_K_j3 p2 p3 p5 y7 w8 K:=by
   intro v w8 hv B8 E8;have E68:=E7.trans E8;have E68':Ext (fun b=>b=p3.block∨b=p5.block) w6 w8:=E68.mono (fun _ _ h=>.inl h);unfold m_K_j3;refine ⟨v,B8.cell rfl,fun h=>⟨v,B8.cell rfl,fun _=>bad1 w8 (by rw [hq,← hv,if_pos h]) E68',fun h'=>(by rw [h] at h';cases h')⟩,fun h=>?_⟩;rw [← hv,if_neg (by rw [h];simp)] at hq;subst h;unfold m_K_j2;refine (uL p3 p y7 2 false w8 ⟨B8,hR7.pool.ext E8 (fun b hb e=>hout (e▸hb)),hok,hout⟩).mono ?_;rintro _ w16 ⟨k3,f3,t3,u3,x3,a3,b3,rfl,hn3,hR3,E16⟩;have e3:u3=(Sp.zY L y7 2).1.num:=by rw [← hn3]
   rw [← e3] at hq;have E616:=E68.trans E16;refine ⟨_,_,_,_,_,_,_,rfl,bx 5 (c5.ext E616 n35.symm) rfl rfl (fun w17 b17 E17=>⟨(Sp.zY L y7 2).2,?_,fun h=>bad1 w17 (by rw [hq];exact h) (up E616 E17),fun h=>good1 w17 ⟨7,0,u3,⟨#[]⟩,false⟩ (by rw [hq,h]) (up E616 E17) b17⟩)⟩;have:=(hR3.box.ext E17 n35).cell (i:=1) rfl;simpa using this
  refine ⟨_,_,rfl,(Sp.zU L t).2,?_,fun h=>⟨hR7.box.canW (by simp),?_⟩,fun h=>⟨hR7.box.canW (by simp),?_⟩⟩
  ·have:=hR7.box.cell (i:=1) rfl;simpa using this
  ·intro w22 hw;exact J3 true w22 (by rw [h];rfl) (by rw [hw];exact (setr _).1) (by rw [hw];exact (setr _).2)
  ·intro w22 hw;exact J3 (!decide (x7=Sp.jGP)) w22 (by rw [h];rfl) (by rw [hw];exact (setr _).1) (by rw [hw];exact (setr _).2)
 refine ⟨k,c4.cell0,fun h=>⟨f,c4.cell rfl,a,c4.cell rfl,?_⟩,fun h=>⟨fun h8=>?_,fun h8=>?_⟩⟩
 ·have h7:k=7:=by simpa using h
  rw [if_pos h7] at hq
  refine (jJJ p3 p f a false w6 hR6).mono ?_
  rintro _ w7 ⟨k7,f7,c7,x7,g7,rfl,hl,hR7,E7⟩
  refine ⟨_,_,_,_,_,rfl,bx 5 (c5.ext E7 n35.symm) rfl rfl (fun w8 b8 E8=>⟨(Sp.qH L f a).2,?_,fun h=>bad1 w8 (by rw [hq];exact h) (up E7 E8),fun h=>good1 w8 ⟨k7,f7,c7,x7,g7⟩ (by rw [hq,hl,← h]) (up E7 E8) b8⟩)⟩
  have:=(hR7.box.ext E8 n35).cell (i:=1) rfl
  simpa using this
 ·have h7:k≠7:=by simpa using h
  have h8:k=8:=by simpa using h8
  exact J1p _ (by simp [h8]) h7 (.inl h8)
 ·have h7:k≠7:=by simpa using h
  have h8:k≠8:=by simpa using h8
  by_cases h9:k=9
  ·exact J1p _ (by simp [h9]) h7 (.inr h9)
  ·exact J1t _ (by simpa using h9) h7 (by rintro (h | h) <;> omega)
theorem uT (p:Addr) (t:Int) (w:World) {L:Sp.Pool} {F:NP} (hP:vD w p L F) (hok:Sp.Ok L) :
  Calls prog 51 #[.pointer (some p),.int .i64 t] w
   (fun e w'=>∃k:Int,∃f:Int,∃c:Int,∃x:ByteArray,∃fk:Bool,∃ok:Bool,e=.returned (.tuple #[.agg #[.int .i64 k,.int .i64 f,.int .u64 c,.string x,.bool fk],.bool ok])∧(((⟨k,f,c,x,fk⟩:Sp.Letter),ok)=Sp.qD L t∧Pure w w')):=xW (some p) t w hP hok
end Go.Proofs
end
section
open Go Go.SE
open Go.IntKind renaming i64 → q6
namespace Go.Proofs
open Tryz
set_option maxRecDepth 100000
set_option maxHeartbeats 4000000
attribute [local irreducible] wpL wpX opE wpE Calls
def m_Q1_l1 (s1:Sl) (v1 x1:Int) (wl1:World) (Kc1:Int→WP) (K:Int→WP):Prop :=Br (decide (x1<(s1.len:Int))) (∃a1:Addr,At s1 x1 1 a1∧∃v2,wl1.cell? a1=some (vi v2)∧Br (v1 == v2) (K x1 wl1) (Kc1 (q6.wrap (x1+1)) wl1)) (K (-1) wl1)
def m_Q1 (s1:Sl) (v1:Int) (w0:World) (K:Int→WP):Prop :=∃(I1:Int→WP) (mu1:Int→World→Nat),I1 0 w0∧∀(x1:Int) (wl1:World),I1 x1 wl1→m_Q1_l1 s1 v1 x1 wl1 (fun y'0 w'=>I1 y'0 w'∧mu1 y'0 w'<mu1 x1 wl1) K
theorem w_Q1 (s1 v1 w0 K) (h:m_Q1 s1 v1 w0 K):
  Calls prog 190 #[s1.v,(vi v1)] w0 (fun e w'=>∃r1,e=.returned (vi r1)∧K r1 w'):=by
 refine cw (args:=[s1.v,(vi v1)]) func190 ntmps190 (eg (q0 (vi 0) (ln (zA (eg (q0 s1.v (q0 (vi (s1.len:Int)) (q0 (vi 0) ?_))))))))
 refine ln (zK ?_)
 obtain ⟨I1,mu1,h0,hr⟩:=h
 refine vQ (σ:=Int×World) (fun s ρ w=>w=s.2∧Has ρ [(0,s1.v),(1,(vi v1)),(7,(vi (s1.len:Int))),(8,(vi s.1))]∧I1 s.1 s.2) (fun s=>mu1 s.1 s.2) (0,w0) ⟨rfl,hm,h0⟩ ?_
 rintro ⟨x1,wl1⟩ ρ w ⟨hw,hH,hI⟩
 dsimp only at hw hH;subst w
 have h:=hr x1 wl1 hI
 refine zV hH (eg (q (ln (zA (cbr h ?_ ?_)))))<;>intro h
 refine zB (zL (zA (zK (eg (qb (ln (eg (qc (qi (runUnderlying46 _) (sizeOf78 _) h fun a1 h=>ql (isAgg78 _) h fun v2 h=>q (ln (cbr h ?_ ?_)))))))))))<;>intro h
 refine eg (qb (ln (er (qW (zX (zX (qW (zX (rs1 results190 ⟨x1,rfl,h⟩)))))))))
 refine zB (uM (zL (rg (qb (ln ⟨((q6.wrap (x1+1)),wl1),⟨rfl,hm,h.1⟩,h.2⟩)))))
 refine vO (uI (uI (uD (zL (eg (q0 (vi (-1)) (ln (er (rs1 results190 ⟨(-1),rfl,h⟩)))))))))
def m_K3 (s1:Sl) (v1:Int) (w0:World) (K:Bool→WP):Prop :=Calls prog 190 #[s1.v,(vi v1)] w0 (fun e w1=>∃r1,e=.returned (vi r1)∧K (decide (r1≥0)) w1)
theorem w_K3 (s1 v1 w0 K) (h:m_K3 s1 v1 w0 K):
  Calls prog 150 #[s1.v,(vi v1)] w0 (fun e w'=>∃r2,e=.returned (vb r2)∧K r2 w'):=by
 refine cw (args:=[s1.v,(vi v1)]) func150 ntmps150 (eg (q0 (vb false) (ln (eg (q0 s1.v (q0 (vi v1) ?_))))))
 refine sc call190 (h.mono fun e w1 ⟨r1,k,h⟩=>⟨_,k,?_⟩)
 refine qb (ln (er (rs1 results150 ⟨(decide (r1≥0)),rfl,h⟩)))
end Go.Proofs
end
section
open Go Go.SE
namespace Go.SE
section
variable {P:Program} {t e:TypeId} {sz bytes:Nat}
theorem jDN (T:SlType P t e sz bytes) (w:World) (ty:TypeId) (s x:Sl) (hc:s.len≤s.cap) (hx:x.len=0):(Builtin.append_ #[t,t] ty #[s.v,x.v]).run P w=.ok s.v w:=by
 obtain ⟨a,n,c⟩:=s;obtain ⟨b,m,d⟩:=x;simp only at hc hx;subst hx;cases b <;> cases a <;> simp [Builtin.append_,Sl.v,run_underlying T.ht,T.sizeOf,Builtin.lenOf,Builtin.firstCells,loadCells,loadCellsFrom,storeCells,hc]
end
theorem jJY {w:World} {sz:Nat}:∀{rs:List (List Value)} {p:Addr},(∀r∈rs,r.length=sz)→(∀i (h:i<rs.length),Row w (p.add (i*sz)) rs[i])→Row w p rs.flatten
 | [],p,_,_=>fun i h=>by simp at h
 | r :: rs,p,hl,h=>by
  have hr:Row w p r:=by have:=h 0 (by simp);simpa [Addr.add] using this
  have hsz:=hl r (by simp);have ih:=jJY (rs:=rs) (p:=p.add sz) (fun q hq=>hl q (List.mem_cons_of_mem _ hq)) (fun i hi=>by
   have:=h (i+1) (by simpa using hi);rw [uP,show sz+i*sz=(i+1)*sz by rw [Nat.succ_mul];omega];simpa using this)
  intro i hi;rw [List.flatten_cons] at hi ⊢;by_cases hlt:i<r.length
  ·rw [hr i hlt,List.getElem?_append_left hlt]
  ·have:=ih (i - r.length) (by rw [List.length_append] at hi;omega);rw [uP,show sz+(i - r.length)=i by omega] at this;rw [this,List.getElem?_append_right (by omega)]
section
variable {P:Program} {t e:TypeId} {sz bytes:Nat}
theorem Rws.appendL (T:SlType P t e sz bytes) {w:World} {ty:TypeId} {s x:Sl} {rs qs:List (List Value)} (h:Rws w e sz s rs) {S:NP} (hx:Lst S w sz x qs) (hl:∀q∈qs,q.length=sz) (h1:∀q∈qs,q.all qE=true) (hb:(rs.length+qs.length)*bytes≤140737488355328) (hm:rs.length+qs.length≤maxLen) :
  ∃s' w',(Builtin.append_ #[t,t] ty #[s.v,x.v]).run P w=.ok s'.v w'∧Rws w' e sz s' (rs++qs)∧Ext s.blk w w'∧(∀b,s'.blk b→s.blk b∨w.heap.size≤b):=by
 cases hq:qs with
 | nil =>
  subst hq
  have hc:s.len≤s.cap:=by
   rcases h.own with ⟨rfl,_⟩ | ⟨g,cur,_,_,hc,_⟩
   ·exact Nat.le_refl _
   ·rw [h.len];exact hc
  exact ⟨s,w,jDN T w ty s x hc hx.len,by simpa using h,Ext.refl w,fun b hb=>.inl hb⟩
 | cons q0 rest =>
  rw [← hq]
  have hne:qs≠[]:=by rw [hq];simp
  have hpos:=List.length_pos_iff.2 hne
  obtain ⟨_,⟨_,_,p,hp,_⟩,_,_⟩:=hx.at_ 0 hpos
  have hrow:Row w p qs.flatten:=jJY hl (fun i hi=>by
   obtain ⟨a,⟨_,_,b,hb',rfl⟩,_,hr⟩:=hx.at_ i hi;rw [hp] at hb';cases hb';simpa using hr)
  have hxv:x.v=(Sl.mk (some p) qs.length x.cap).v:=by unfold Sl.v;rw [hp,hx.len]
  rw [hxv]
  exact h.appends T hrow hl h1 hne hb hm
end
def look {α:Type}:List (Int×α)→Int→Option α
 | [],_=>none
 | p :: M,k=>if p.1=k then some p.2 else look M k
theorem jBM {α:Type} {M:List (Int×α)} {k:Int}:look M k=none↔k ∉ M.map Prod.fst:=by
 induction M with
 | nil=>simp [look]
 | cons p M ih =>
  rw [look]
  split
  ·rename_i h;simp [h]
  ·rename_i h;rw [ih,List.map_cons,List.mem_cons];exact ⟨fun h1 h2=>h2.elim (fun e=>h e.symm) h1,fun h1 h2=>h1 (.inr h2)⟩
theorem jFZ {α:Type} {M:List (Int×α)} {k:Int} {v:α} (h:look M k=some v):(k,v)∈M:=by
 induction M with
 | nil=>cases h
 | cons p M ih =>
  rw [look] at h
  split at h
  ·rename_i e;cases h;subst e;simp
  ·exact List.mem_cons_of_mem _ (ih h)
theorem jMO {α:Type} {M:List (Int×α)} (hn:(M.map Prod.fst).Nodup) {i:Nat} {k:Int} {v:α} (h:M[i]?=some (k,v)):look M k=some v:=by
 induction M generalizing i with
 | nil=>simp at h
 | cons p M ih =>
  rw [List.map_cons,List.nodup_cons] at hn
  rw [look]
  cases i with
  | zero=>simp at h;subst h;simp
  | succ i =>
   have h':M[i]?=some (k,v):=by simpa using h
   have hne:p.1≠k:=fun e=>hn.1 (by rw [e];exact List.mem_map.2 ⟨_,List.mem_of_getElem? h',rfl⟩)
   rw [if_neg hne]
   exact ih hn.2 h'
theorem jIX {α:Type} {M:List (Int×α)} (hn:(M.map Prod.fst).Nodup) {k:Int} {v:α} (h:(k,v)∈M):look M k=some v:=by
 obtain ⟨i,hi,e⟩:=List.getElem_of_mem h;exact jMO hn (by rw [List.getElem?_eq_getElem hi,e])
def jKD (k:Int):Value:=.int .i64 k
structure IMap {α:Type} (f:α→Value) (w:World) (m:Nat) (M:List (Int×α)):Prop where
 map:CMap w m (M.map fun p=>(jKD p.1,f p.2))
 nd:(M.map Prod.fst).Nodup
section
variable {α:Type} {f:α→Value} {w w':World} {m:Nat} {M:List (Int×α)} {P:Program} {T K E:TypeId}
theorem IMap.ext {F:NP} (h:IMap f w m M) (hE:Ext F w w') (hf:¬ F m):IMap f w' m M:=⟨h.map.ext hE hf,h.nd⟩
theorem IMap.pure (h:IMap f w m M) (hE:Pure w w'):IMap f w' m M:=h.ext hE id
theorem IMap.lt (h:IMap f w m M):m<w.heap.size:=h.map.lt
theorem IMap.of_new {p:Addr} (h:New w (.map #[] 0) p w'):IMap f w' p.block []:=⟨CMap.of_new h,List.nodup_nil⟩
theorem IMap.keys (M:List (Int×α)):∀p∈M.map (fun p=>(jKD p.1,f p.2)),∃n,p.1=.int .i64 n:=by
 intro p hp;obtain ⟨q,_,rfl⟩:=List.mem_map.1 hp;exact ⟨_,rfl⟩
theorem IMap.get (h:IMap f w m M) (hT:P.underlying T=some (.map K E)) (hK:P.underlying K=some (.int .i64)) {z:Value} (hz:(zeroValue E).run P w=.ok z w) (k:Int) (ok:Bool) :
  (look M k=none∧(Instr.lookup T (.map (some m)) (.int .i64 k) ok).run P w=.ok (if ok then .tuple #[z,.bool false] else z) w)∨∃v,look M k=some v∧(Instr.lookup T (.map (some m)) (.int .i64 k) ok).run P w=.ok (if ok then .tuple #[f v,.bool true] else f v) w:=by
 rcases h.map.lookup hT (KeyOK.of_int hK) (IMap.keys M) (k:=jKD k) ⟨k,rfl⟩ hz ok with ⟨h1,h2⟩ | ⟨i,v,h1,h2⟩
 ·refine .inl ⟨jBM.2 fun hm=>?_,h2⟩
  obtain ⟨q,hq,rfl⟩:=List.mem_map.1 hm
  exact h1 _ (List.mem_map.2 ⟨q,hq,rfl⟩) rfl
 ·rw [List.getElem?_map] at h1
  cases hi:M[i]? with
  | none=>rw [hi] at h1;cases h1
  | some q =>
   rw [hi] at h1
   obtain ⟨a,b⟩:=q
   simp [jKD] at h1
   obtain ⟨rfl,rfl⟩:=h1
   exact .inr ⟨b,jMO h.nd hi,h2⟩
theorem IMap.put (h:IMap f w m M) (hT:P.underlying T=some (.map K E)) (hK:P.underlying K=some (.int .i64)) {k:Int} (hn:look M k=none) (v:α) :
  ∃w',(Instr.mapUpdate T (.map (some m)) (.int .i64 k) (f v)).run P w=.ok () w'∧IMap f w' m (M++[(k,v)])∧Ext (·=m) w w':=by
 have hn':=jBM.1 hn
 obtain ⟨w',h1,h2,h3⟩:=h.map.insert hT (KeyOK.of_int hK) (IMap.keys M) (k:=jKD k) (v:=f v) ⟨k,rfl⟩ (fun p hp e=>by
  obtain ⟨q,hq,rfl⟩:=List.mem_map.1 hp;simp only [jKD,Value.int.injEq,true_and] at e;exact hn' (List.mem_map.2 ⟨q,hq,e⟩))
 refine ⟨w',h1,⟨by simpa using h2,?_⟩,h3⟩
 rw [List.map_append,List.nodup_append]
 exact ⟨h.nd,by simp,fun x hx y hy e=>by simp at hy;subst hy;exact hn' (e▸hx)⟩
theorem IMap.again (h:IMap f w m M) (hT:P.underlying T=some (.map K E)) (hK:P.underlying K=some (.int .i64)) {k:Int} {v:α} (hv:look M k=some v) :
  ∃w',(Instr.mapUpdate T (.map (some m)) (.int .i64 k) (f v)).run P w=.ok () w'∧IMap f w' m M∧Ext (·=m) w w':=by
 obtain ⟨i,hi,e⟩:=List.getElem_of_mem (jFZ hv)
 have hes:(M.map fun p=>(jKD p.1,f p.2))[i]?=some (jKD k,f v):=by simp [hi,e]
 obtain ⟨w',h1,h2,h3⟩:=h.map.update hT (KeyOK.of_int hK) (IMap.keys M) (k:=jKD k) (v:=f v) (v':=f v) ⟨k,rfl⟩ hes (fun j u hj=>by
  rw [List.getElem?_map] at hj;cases hq:M[j]? with
  | none=>rw [hq] at hj;cases hj
  | some q =>
   rw [hq] at hj
   simp [jKD] at hj
   obtain ⟨hj',hje⟩:=List.getElem?_eq_some_iff.1 hq
   have h4:(M.map Prod.fst)[j]'(by simpa using hj')=(M.map Prod.fst)[i]'(by simpa using hi):=by simp [hje,e,hj.1]
   exact (List.getElem_inj h.nd).1 h4)
 have hset:(M.map fun p=>(jKD p.1,f p.2)).set i (jKD k,f v)=M.map fun p=>(jKD p.1,f p.2):=by
  apply List.ext_getElem?;intro n;rw [List.getElem?_set];by_cases hn:i=n
  ·subst hn;rw [if_pos rfl];simp [hi,e]
  ·rw [if_neg hn]
 rw [hset] at h2
 exact ⟨w',h1,⟨h2,h.nd⟩,h3⟩
end
end Go.SE
end
section
open Go Go.SE
namespace Go.Proofs
open Tryz
attribute [local irreducible] Calls
def tmr (ts:List Int):List (List Value):=ts.map fun t=>[.int .i64 t]
theorem yW (ts:List Int):(tmr ts).length=ts.length:=by simp [tmr]
theorem jLZ:SlType prog 46 78 1 8:=by
 refine ⟨underlying46,⟨t78,_,by kernel_rfl,(by kernel_rfl:t78.zero=some (.int .i64 0)),by kernel_rfl,by kernel_rfl,rfl⟩,by omega⟩
structure RetO (w:World) (e:TypeId) (sz:Nat) (rs:List (List Value)) (s:Sl) (w':World):Prop where
 rows:Rws w' e sz s rs
 own:∀b,s.blk b→w.heap.size≤b
 pure:Pure w w'
theorem RetO.kept {w:World} {H:NP} {e:TypeId} {sz:Nat} {rs:List (List Value)} {s:Sl} {w':World} (h:RetO w e sz rs s w'):Kept H w w':=h.pure.keptP
theorem jDH {S:NP} {w:World} {s:Sl} {ts:List Int} (h:Lst S w 1 s (tmr ts)) {j:Nat} (hj:j<ts.length):∃a,At s j 1 a∧S a.block∧w.cell? a=some (.int .i64 ts[j]):=by
 obtain ⟨a,h1,h2,h3⟩:=h.at_ j (by simpa [tmr] using hj);exact ⟨a,h1,h2,jCT (by simpa [tmr] using h3)⟩
theorem jND {S:NP} (s:Sl) (ts:List Int) (v:Int) (w0:World) (hs:Lst S w0 1 s (tmr ts)) (hn:ts.length≤1000000) :
  Calls prog 190 #[s.v,.int .i64 v] w0 (fun e w'=>∃r:Int,e=.returned (.int .i64 r)∧((decide (r≥0)=decide (v∈ts))∧w'=w0)):=by
 refine w_Q1 _ _ w0 (fun r w'=>(decide (r≥0)=decide (v∈ts))∧w'=w0) ?_
 unfold m_Q1
 have hl:s.len=ts.length:=by rw [hs.len,yW]
 refine ⟨fun i w'=>w'=w0∧∃j:Nat,i=j∧j≤ts.length∧v ∉ ts.take j,fun i _=>((ts.length:Int) - i).toNat,⟨rfl,0,rfl,Nat.zero_le _,by simp⟩,?_⟩
 rintro _ _ ⟨rfl,j,rfl,hj,hv⟩
 unfold m_Q1_l1
 refine ⟨fun h=>?_,fun h=>?_⟩
 ·have hlt:=qI hl h
  obtain ⟨a,hat,_,hc⟩:=jDH hs hlt
  have htk:ts.take (j+1)=ts.take j++[ts[j]]:=List.take_succ_eq_append_getElem hlt
  refine ⟨a,hat,_,hc,fun h=>⟨?_,rfl⟩,fun h=>?_⟩
  ·have:v=ts[j]:=by simpa using h
   rw [decide_eq_true (by omega),decide_eq_true]
   rw [this];exact List.getElem_mem hlt
  ·rw [vM hlt (by omega)]
   refine ⟨⟨rfl,j+1,rfl,hlt,?_⟩,uA hlt⟩
   rw [htk,List.mem_append,List.mem_singleton]
   rintro (h' | h')
   ·exact hv h'
   ·simp [h'] at h
 ·have hge:=qK hl hj h
  subst hge
  rw [List.take_length] at hv
  exact ⟨by simp [hv],rfl⟩
theorem jHS {S:NP} (s:Sl) (ts:List Int) (v:Int) (w0:World) (hs:Lst S w0 1 s (tmr ts)) (hn:ts.length≤1000000) :
  Calls prog 150 #[s.v,.int .i64 v] w0 (fun e w'=>∃r:Bool,e=.returned (.bool r)∧(r=decide (v∈ts)∧w'=w0)):=by
 refine w_K3 _ _ w0 (fun r w'=>r=decide (v∈ts)∧w'=w0) ?_
 unfold m_K3
 refine (jND s ts v w0 hs hn).mono ?_
 rintro _ _ ⟨r,rfl,hr,rfl⟩
 exact ⟨_,rfl,hr,rfl⟩
end Go.Proofs
end
section
open Go Go.SE
namespace Go.SE
theorem Ext.putObj (w:World) (r:Nat) (o:Obj):Ext (·=r) w (w.putObj r o):=⟨rfl,rfl,rfl,(by first | exact Nat.le_refl _ | exact Nat.le_succ _),by simp,fun b _ hne=>World.putObj_heap_other hne⟩
abbrev Yld (P:Program) (l:Nat) (args:Array Value) (w:World) (R:Ending→WP):Prop:=YieldAt Fence.wide 0 P l args w R
def jJP (P:Program) (gf:FuncId) (lb:Array Value) {α:Type} (encs:α→Array Value) (xs:List α) (Rd:WP) (w:World):Prop :=
 ∀(l:Nat) (J Jx:List α→NP→WP) (W:World),Pure w W →
  (∀pre X A,J pre X A→Rd A) →
  (∀pre X A X' A',J pre X A→Hst W X A X' A'→J pre X' A') →
  (∀pre X A X' A',Jx pre X A→Hst W X A X' A'→Jx pre X' A') →
  (∀pre y X A,J pre X A→Hst W X A X A→(∃post,xs=pre++y :: post)→Yld P l (encs y) A (fun e A'=>(e=.returned (.bool true)∧Kept X A A'∧J (pre++[y]) X A')∨(e=.returned (.bool false)∧Kept X A A'∧Jx (pre++[y]) X A'))) →
  J [] None W →
  Calls P gf (#[.func (.yield l) #[] #[]]++lb) W (fun e A=>(∃v,e=.returned v)∧∃X,Hst W X A X A∧(J xs X A∨∃pre,Jx pre X A))
def jNW:List Nat→List Value→Env→Env
 | p :: ps,v :: vs,ρ=>jNW ps vs (upd ρ p v)
 | _,_,ρ=>ρ
theorem jHA {n:Nat}:∀(ps:List Nat) (vs:List Value) (ρ:Env) (t:Array Value),(∀p∈ps,p<n)→Rep [] n ρ { tmps:=t,defers:=[] } →
  Rep [] n (jNW ps vs ρ) { tmps:=(ps.zip vs).foldl (fun t (x:Nat×Value)=>t.setIfInBounds x.1 x.2) t,defers:=[] }
 | [],vs,ρ,t,_,h=>by cases vs <;> exact h
 | p :: ps,[],ρ,t,_,h=>h
 | p :: ps,v :: vs,ρ,t,hp,h=>by
  rw [List.zip_cons_cons,List.foldl_cons];exact jHA ps vs _ _ (fun q hq=>hp q (by simp [hq])) (h.put (d:=some p) (fun k hk=>by cases hk;exact hp p (by simp)) v)
def jPB (id:Nat) (Y:NP) (A:World) (I Ix Ir:NP→WP):Exit→Env→WP
 | .normal,_,A'=>Kept Y A A'∧I Y A'
 | .exit id',_,A'=>id'=id∧Kept Y A A'∧Ix Y A'
 | .ret,_,A'=>Kept Y A A'∧Ir Y A'
 | _,_,_=>False
def jPJ (D:Nat) (Q:Exit→Env→WP):Exit→Env→WP
 | .ret,ρ,w=>w.heap[D]?=some (.deferred (some []))∧Q .ret ρ (w.putObj D (.deferred none))
 | _,_,_=>False
theorem Kept.trans {H:NP} {a b c:World} (h:Kept H a b) (k:Kept H b c):Kept H a c:=⟨Nat.le_trans h.size k.size,fun i hi hH=>(k.keep i (Nat.lt_of_lt_of_le hi h.size) hH).trans (h.keep i hi hH)⟩
theorem Kept.mono {H H':NP} {a b:World} (h:Kept H a b) (hs:∀b,H' b→H b):Kept H' a b:=⟨h.size,fun i hi hH=>h.keep i hi (hs i hH)⟩
structure RngI {α:Type} (w0:World) (Rd:WP) (I Ix Ir:List α→NP→WP):Prop where
 rd:∀pre Y A,I pre Y A→Rd A
 i:∀pre Y A Y' A',I pre Y A→Hst w0 Y A Y' A'→I pre Y' A'
 x:∀pre Y A Y' A',Ix pre Y A→Hst w0 Y A Y' A'→Ix pre Y' A'
 r:∀pre Y A Y' A',Ir pre Y A→Hst w0 Y A Y' A'→Ir pre Y' A'
def wpB (P:Program) (n:Nat) (c y:Code) (Q:Exit→Env→WP) (ρ:Env) (w:World):Prop:=∀a,Rep [] n ρ a→c.wpIn (fen none) 0 P (Exit.then (fun a w=>y.wpIn (fen none) 0 P (jNP ⟨none,[]⟩ n Q) a w) (jNP ⟨none,[]⟩ n Q)) a w
theorem jNT {P:Program} {n:Nat} {Q:Exit→Env→WP} {ρ:Env} {w:World} {a c y:Code} (h:wpE (x:=⟨none,[]⟩) P n a (jBW (fun ρ w=>wpB P n c y Q ρ w) Q) ρ w):wpE (x:=⟨none,[]⟩) P n (.seq (.seq a c) y) Q ρ w:=fun a ha =>
 wpIn_seq (wpIn_seq (wpIn_mono (h a ha) (fun e a w hl=>by
  cases e with
  | normal=>obtain ⟨ρ',hr,hq⟩:=jED hl;exact hq a hr
  | _=>exact hl)))
theorem af_r {D:Nat} {Q:Exit→Env→WP} {ρ:Env} {w:World} (h1:w.heap[D]?=some (.deferred (some []))) (h:∀w1,w1=w.putObj D (.deferred none)→Q .ret ρ w1):jPJ D Q .ret ρ w:=⟨h1,h _ rfl⟩
theorem rd_n {id:Nat} {Y:NP} {A A':World} {I Ix Ir:NP→WP} {ρ:Env} (h:Kept Y A A'∧I Y A'):jPB id Y A I Ix Ir .normal ρ A':=h
theorem HBZ.behind {H Y:NP} {w A:World} {l:List HBx} {D:Nat} (hb:HB H w l) (hk:Kept H w A) (hH:∀b,H b→Y b) (hD:Y D) (hDe:A.heap[D]?=some (.deferred (some []))):HBZ [(D,.deferred (some []))] Y A l :=
 ⟨(hb.kept hk).box,fun x hx=>hH _ (hb.hid x hx),hb.ne,fun x hx=>by
  cases List.mem_singleton.1 hx;exact ⟨hD,hDe,rfl⟩⟩
theorem HBZ.leave {w0 wv:World} {Hv H:NP} {w:World} {l:List HBx} {D:Nat} (hb:HBZ [(D,.deferred (some []))] H w l) (hs:Hst w0 Hv wv H w) {w1:World} (h1:w1=w.putObj D (.deferred none)):Hst w0 Hv wv H w1∧HB H w1 l:=by
 have hz:=hb.fz _ (List.mem_singleton.2 rfl);have E:Ext (·=D) w w1:=by rw [h1];exact Ext.putObj w D _
 refine ⟨⟨h1▸hs.ext.trans' (Ext.putObj w D _) (fun b _ e=>by subst e;exact hz.1),hs.sub,hs.new,hs.old,fun b hb=>Nat.lt_of_lt_of_le (hs.lt b hb) E.size,Nat.le_trans hs.base E.size⟩,?_⟩;refine ⟨fun x hx=>(hb.box x hx).ext E (fun e=>?_),hb.hid,hb.ne,fun x hx=>by cases hx⟩;have h2:=(hb.box x hx).blk;rw [e,hz.2.1] at h2;cases h2
theorem HBZ.dead {H:NP} {w:World} {l:List HBx} {D:Nat} (hb:HBZ [(D,.deferred (some []))] H w l):w.heap[D]?=some (.deferred (some [])):=(hb.fz _ (List.mem_singleton.2 rfl)).2.1
theorem jPK {P:Program} {ε:Operand→Value} {w w':World} {d:Option Tmp} {ty:TypeId} {pos:String} {aft:Array Edge} {g:Option (Nat×Bool)} {l:Nat} {x:Operand} {v:Value} {c:List Operand} {ts:Array TypeId} {args:Array Value} {r:Next} (hx:ε x=v) (hv:v=.func (.yield l) #[] #[]) (ha:(c.map ε).toArray=args) (hr:(Instr.yield l args).run P w=.ok r w') :
  (execOp ε ⟨d,.call ⟨.value x,c.toArray,ts⟩,ty,pos,aft,g⟩).run P w=.ok r w':=by
 subst hv;subst ha
 simp [execOp,resolve,hx,Deferred.ofValue,invoke,hr]
theorem jNV {P:Program} {ops:Array Oper} {Q:Env→WP} {ρ:Env} {w:World} {rest:List Oper} {d:Option Tmp} {ty:TypeId} {pos:String} {aft:Array Edge} {g:Option (Nat×Bool)} {l:Nat} {x:Operand} {v:Value} {c:List Operand} {ts:Array TypeId} {args:Array Value}
  (hw:Region.wanted ⟨d,.call ⟨.value x,c.toArray,ts⟩,ty,pos,aft,g⟩ (zQ ops ρ)=true) (hx:evE ρ x=v) (hv:v=.func (.yield l) #[] #[]) (ha:(c.map (evE ρ)).toArray=args)
  (h:Yld P l args w (fun e w''=>∃v,e=.returned v∧wpL P ops Q rest (put ρ d v) w'')):wpL P ops Q (⟨d,.call ⟨.value x,c.toArray,ts⟩,ty,pos,aft,g⟩ :: rest) ρ w:=by
 obtain ⟨fn,tmps,assign,body,hr,hR⟩:=h
 unfold wpL
 rw [if_pos hw]
 unfold yld
 rw [jPK hx hv ha hr]
 exact hR
theorem Yld.mono {P:Program} {l:Nat} {args:Array Value} {w:World} {R R':Ending→WP} (h:Yld P l args w R) (hr:∀e w,R e w→R' e w):Yld P l args w R':=by
 obtain ⟨fn,tmps,assign,body,h1,h2⟩:=h;exact ⟨fn,tmps,assign,body,h1,RoundIn.mono h2 hr⟩
section
variable {P:Program} {n:Nat} {Q:Exit→Env→WP} {ρ:Env} {w w0:World} {H Hv:NP} {wv:World}
theorem jLN {id:Nat} {g:Operand} {ps:Array Tmp} {assign body y:Code} {gf:FuncId} {lb:Array Value} {α:Type} {encs:α→Array Value} {xs:List α} {Rd:WP}
  (hg:evE ρ g=.func (.func gf) #[] lb) (eg:∀args w,(callFunc gf args).run P w=.ok (.enter gf args) w) (hit:jJP P gf lb encs xs Rd w) (hps:∀z,(encs z).size=ps.size) (hpn:∀p∈ps.toList,p<n)
  (hs:Hst w0 Hv wv H w) (I Ix Ir:List α→NP→WP) (hRI:RngI w0 Rd I Ix Ir)
  (h0:I [] H w)
  (hround:∀l z A,wpE (x:=⟨some l,[]⟩) P n assign (jBW (fun ρ' A'=>A'=A∧∀pre Y A,I pre Y A→Hst w0 Y A Y A→(∃post,xs=pre++z :: post)→wpE (x:=⟨some l,[]⟩) P n body (jPB id Y A (I (pre++[z])) (Ix (pre++[z])) (Ir (pre++[z]))) ρ' A) (fun _ _ _=>False)) (jNW ps.toList (encs z).toList ρ) A)
  (hrest:∀D Y A,Hst w0 Y A Y A→Y D→A.heap[D]?=some (.deferred (some []))→(∀b,H b→Y b)→Kept H w A→(I xs Y A∨∃pre,Ix pre Y A)→wpE (x:=⟨none,[jPY D]⟩) P n y (jPJ D Q) ρ A)
  (hret:∀D pre Y A,Hst w0 Y A Y A→Y D→A.heap[D]?=some (.deferred (some []))→Ir pre Y A→Q .ret ρ (A.putObj D (.deferred none))) :
  wpB P n (.block id (.rangeFunc g ps assign body)) y Q ρ w:=by
 obtain ⟨hRd,hI,hIx,hIr⟩:=hRI
 intro a ha
 refine wpIn_block (wpIn_rangeFunc ?_)
 intro fn _
 obtain ⟨rec,hrec⟩:∃rec:LoopState→Option Code→Loop,rec=fun st pe=>{ state:=st,pending:=pe,fn,tmps:=a.tmps,params:=ps,assign,body,defers:=w.heap.size }:=⟨_,rfl⟩
 obtain ⟨W1,hW1⟩:∃W1,(w.alloc (.deferred (some []))).alloc (.loop (rec .ready none))=W1:=⟨_,rfl⟩
 have hL1:W1.heap[w.heap.size+1]?=some (.loop (rec .ready none)):=by
  rw [← hW1];have:=World.alloc_heap_new (w.alloc (.deferred (some []))) (.loop (rec .ready none));rwa [World.size_alloc] at this
 have hK1:W1.heap[w.heap.size]?=some (.deferred (some [])):=by
  rw [← hW1];exact (RowKit.Below.heap_alloc _ _ _ (by simp)).trans (World.alloc_heap_new w _)
 have hsz:W1.heap.size=w.heap.size+2:=by rw [← hW1];simp
 have E1:Pure w W1:=by
  rw [← hW1];exact ⟨rfl,rfl,rfl,(by first | exact Nat.le_refl _ | exact Nat.le_succ _),by simp;omega,fun b hb _=>(RowKit.Below.heap_alloc _ _ _ (by simp;omega)).trans (RowKit.Below.heap_alloc _ _ _ hb)⟩
 let Yo:NP→NP:=fun X b=>H b∨b=w.heap.size∨b=w.heap.size+1∨X b
 have hHlt:∀b,H b→b<w.heap.size:=hs.lt
 have here:∀{X:NP} {A:World},Hst W1 X A X A→Hst w0 (Yo X) A (Yo X) A:=fun {X A} h =>
  ⟨Ext.refl _,fun _ h=>h,fun _ h=>.inl h,fun b hb=>by
   rcases hb with hb | rfl | rfl | hb
   ·exact hs.old b hb
   ·exact hs.base
   ·have:=hs.base;omega
   ·have:=h.old b hb;have:=hs.base;omega,fun b hb=>by
   have z:=h.base;rcases hb with hb | rfl | rfl | hb
   ·have:=hHlt b hb;omega
   ·omega
   ·omega
   ·exact h.lt b hb,by have:=h.base;have:=hs.base;omega⟩
 have up:∀{X X':NP} {A A':World},Hst W1 X A X A→Hst W1 X A X' A'→Hst w0 (Yo X) A (Yo X') A':=fun {X X' A A'} h k =>
  ⟨k.ext.mono (fun b _ hb=>.inr (.inr (.inr hb))),fun b hb=>by
   rcases hb with hb | hb | hb | hb
   ·exact .inl hb
   ·exact .inr (.inl hb)
   ·exact .inr (.inr (.inl hb))
   ·exact .inr (.inr (.inr (k.sub b hb))),fun b hb=>by
   rcases hb with hb | hb | hb | hb
   ·exact .inl (.inl hb)
   ·exact .inl (.inr (.inl hb))
   ·exact .inl (.inr (.inr (.inl hb)))
   ·exact (k.new b hb).imp_left (fun h=>.inr (.inr (.inr h))),(here k.here).old,(here k.here).lt,(here k.here).base⟩
 have nX:∀{X:NP} {A:World},Hst W1 X A X A→∀b,b<w.heap.size+2→¬ X b:=fun h b hb hx=>by have:=h.old b hx;omega
 have keepH:∀{X X':NP} {A A':World},Kept H w A→Hst W1 X A X' A'→Kept H w A':=fun {X X' A A'} hk k =>
  hk.trans (k.ext.kept (fun b hb hx=>nX k.here b (by have:=hHlt b hb;omega) hx))
 have turn:∀{X:NP} {A:World} (o:Obj),Hst W1 X A X A→Hst w0 (Yo X) A (Yo X) (A.putObj (w.heap.size+1) o):=fun {X A} o h =>
  ⟨(Ext.putObj A _ o).mono (fun b _ e=>by subst e;exact .inr (.inr (.inl rfl))),fun _ h=>h,fun _ h=>.inl h,(here h).old,fun b hb=>by have:=(here h).lt b hb;simpa using this,by simpa using (here h).base⟩
 have hstW:∀{X:NP} {A:World} (o:Obj),Hst W1 X A X A→Hst W1 X (A.putObj (w.heap.size+1) o) X (A.putObj (w.heap.size+1) o):=fun o h =>
  ⟨Ext.refl _,fun _ h=>h,fun _ h=>.inl h,h.old,fun b hb=>by have:=h.lt b hb;simpa using this,by simpa using h.base⟩
 have keepT:∀{A:World} (o:Obj),Kept H w A→Kept H w (A.putObj (w.heap.size+1) o):=fun {A} o hk=>hk.trans ((Ext.putObj A _ o).kept (fun b hb e=>by have:=hHlt b hb;omega))
 let Jc:Code→List α→NP→WP:=fun c pre Y A=>match c with
  | .ret=>Ir pre Y A
  | .exit id'=>id'=id∧Ix pre Y A
  | _=>False
 have hJc:∀c pre Y A Y' A',Jc c pre Y A→Hst w0 Y A Y' A'→Jc c pre Y' A':=by
  intro c pre Y A Y' A' h k;cases c <;> first | exact hIr _ _ _ _ _ h k | exact ⟨h.1,hIx _ _ _ _ _ h.2 k⟩ | exact h
 refine ⟨w.heap.size+1,[jPY w.heap.size],W1,{ target:=.fn (.func gf) lb,args:=#[.func (.yield (w.heap.size+1)) #[] #[]] },W1,gf,
  #[.func (.yield (w.heap.size+1)) #[] #[]]++lb,W1,?_,?_,fun _ _=>trivial,?_,(fun h=>by cases h),callsIn_wide.2 ?_⟩
 ·rw [← hW1,hrec];exact run_enterLoop_outer _ _ _ _ _
 ·have hev:a.eval g=.func (.func gf) #[] lb:=by rw [ha.eval];exact hg
  simp only [resolve,hev]
  simp [go_sem]
 ·simp [invoke,go_sem,eg]
 have hst1:Hst W1 None W1 None W1:=Hst.start W1
 refine (hit (w.heap.size+1)
  (fun pre X A=>Hst W1 X A X A∧I pre (Yo X) A∧A.heap[w.heap.size+1]?=some (.loop (rec .ready none))∧A.heap[w.heap.size]?=some (.deferred (some []))∧Kept H w A)
  (fun pre X A=>Hst W1 X A X A∧∃c,Jc c pre (Yo X) A∧A.heap[w.heap.size+1]?=some (.loop (rec .done (some c)))∧A.heap[w.heap.size]?=some (.deferred (some []))∧Kept H w A)
  W1 E1 (fun pre X A h=>hRd _ _ _ h.2.1)
  (fun pre X A X' A' h k=>⟨k.here,hI _ _ _ _ _ h.2.1 (up h.1 k),k.ext.heap h.2.2.1 (nX k.here _ (by omega)),k.ext.heap h.2.2.2.1 (nX k.here _ (by omega)),keepH h.2.2.2.2 k⟩)
  (fun pre X A X' A' h k=>by
   obtain ⟨h1,c,h2,h3,h4,h5⟩:=h;exact ⟨k.here,c,hJc _ _ _ _ _ _ h2 (up h1 k),k.ext.heap h3 (nX k.here _ (by omega)),k.ext.heap h4 (nX k.here _ (by omega)),keepH h5 k⟩)
  ?_ ⟨hst1,hI _ _ _ _ _ h0 ⟨E1.pure,fun b hb=>.inl hb,fun b hb=>?_,(here hst1).old,(here hst1).lt,(here hst1).base⟩,hL1,hK1,E1.keptP⟩).mono ?_
 ·-- one round
  rintro pre z X A ⟨hX,hi,hl,hk,hkH⟩ _ hpost
  have hlt:w.heap.size+1<A.heap.size:=(Array.getElem?_eq_some_iff.1 hl).1
  have hy:=run_yield (P:=P) (args:=encs z) hl (by rw [hrec];exact hps z)
  rw [hrec] at hy
  refine ⟨fn,_,assign,body,hy,roundIn_of_wpIn (F:=Fence.wide) trivial ?_⟩
  have hrep:Rep [] n (jNW ps.toList (encs z).toList ρ) { tmps:=(ps.zip (encs z)).foldl (fun t (x:Nat×Value)=>t.setIfInBounds x.1 x.2) a.tmps,defers:=[] }:=by
   have:=jHA ps.toList (encs z).toList ρ a.tmps hpn ⟨rfl,ha.size,ha.get⟩;rw [← Array.foldl_toList,Array.toList_zip];exact this
  refine wpIn_mono (hround (w.heap.size+1) z A _ hrep) ?_
  rintro e a1 A1 ⟨ρ',hor⟩
  have hor:=hor.resolve_right (fun h=>by cases h.2.1)
  obtain ⟨hr1,hq⟩:=hor
  cases e <;> first | exact hq.elim | skip
  obtain ⟨rfl,hbody⟩:=hq
  refine ⟨_,run_beginRound hl (by rw [hrec]),?_⟩
  have T1:=turn (.loop { rec .ready none with state:=.busy }) hX
  have hX1:=hstW (.loop { rec .ready none with state:=.busy }) hX
  have hl2:(A1.putObj (w.heap.size+1) (.loop { rec .ready none with state:=.busy })).heap[w.heap.size+1]?=some (.loop { rec .ready none with state:=.busy }):=World.putObj_heap_same hlt
  have hk2:(A1.putObj (w.heap.size+1) (.loop { rec .ready none with state:=.busy })).heap[w.heap.size]?=some (.deferred (some [])):=(World.putObj_heap_other (by omega)).trans hk
  have hkH2:=keepT (.loop { rec .ready none with state:=.busy }) hkH
  have hi2:=hI _ _ _ _ _ hi T1
  refine wpIn_mono (hbody pre (Yo X) _ hi2 T1.here hpost a1 hr1) ?_
  have fin : ∀ (jump : Option Code) (A3 : World), Kept (Yo X) (A1.putObj (w.heap.size + 1) (.loop { rec .ready none with state := .busy })) A3 →
    (Instr.endRound (w.heap.size+1) jump).run P A3=.ok (.bool jump.isNone) (A3.putObj (w.heap.size+1) (.loop (rec (if jump.isNone then .ready else .done) jump))) ∧
    Hst W1 X (A3.putObj (w.heap.size+1) (.loop (rec (if jump.isNone then .ready else .done) jump))) X (A3.putObj (w.heap.size+1) (.loop (rec (if jump.isNone then .ready else .done) jump))) ∧
    Hst w0 (Yo X) A3 (Yo X) (A3.putObj (w.heap.size+1) (.loop (rec (if jump.isNone then .ready else .done) jump))) ∧
    (A3.putObj (w.heap.size+1) (.loop (rec (if jump.isNone then .ready else .done) jump))).heap[w.heap.size+1]?=some (.loop (rec (if jump.isNone then .ready else .done) jump)) ∧
    (A3.putObj (w.heap.size+1) (.loop (rec (if jump.isNone then .ready else .done) jump))).heap[w.heap.size]?=some (.deferred (some [])) ∧
    Kept H w (A3.putObj (w.heap.size+1) (.loop (rec (if jump.isNone then .ready else .done) jump))) ∧
    Kept X A1 (A3.putObj (w.heap.size+1) (.loop (rec (if jump.isNone then .ready else .done) jump))):=fun jump A3 hk3=>by
   have hl3:A3.heap[w.heap.size+1]?=some (.loop { rec .ready none with state:=.busy }):=by
    rw [hk3.keep _ (by simpa using hlt) (.inr (.inr (.inl rfl)))];exact hl2
   have hD3:A3.heap[w.heap.size]?=some (.deferred (some [])):=by
    rw [hk3.keep _ (by simp;omega) (.inr (.inl rfl))];exact hk2
   have hX3:Hst W1 X A3 X A3:=hX1.again (hk3.mono (fun b hb=>.inr (.inr (.inr hb))))
   have hrun:=run_endRound (P:=P) jump hl3
   rw [hrec] at hrun
   refine ⟨by rw [hrec];exact hrun,hstW _ hX3,turn _ hX3,World.putObj_heap_same (Array.getElem?_eq_some_iff.1 hl3).1,(World.putObj_heap_other (by omega)).trans hD3,keepT _ (hkH2.trans (hk3.mono (fun b hb=>.inl hb))),?_⟩
   have k1:Kept X A1 (A1.putObj (w.heap.size+1) (.loop { rec .ready none with state:=.busy })):=(Ext.putObj A1 _ _).kept (fun b hb e=>by have:=hX.old b hb;omega)
   exact (k1.trans (hk3.mono (fun b hb=>.inr (.inr (.inr hb))))).trans ((Ext.putObj A3 _ _).kept (fun b hb e=>by have:=hX.old b hb;omega))
  rintro e a3 A3 ⟨ρ3,hor⟩
  have hor:=hor.resolve_right (fun h=>by cases h.2.1)
  obtain ⟨hr3,hq⟩:=hor
  cases e with
  | normal =>
   obtain ⟨hk3,hi3⟩:=hq
   obtain ⟨f1,f2,f3,f4,f5,f6,f7⟩:=fin none A3 hk3
   exact ⟨_,_,f1,.inl ⟨rfl,f7,f2,hI _ _ _ _ _ hi3 f3,f4,f5,f6⟩⟩
  | ret =>
   obtain ⟨hk3,hi3⟩:=hq
   obtain ⟨f1,f2,f3,f4,f5,f6,f7⟩:=fin (some .ret) A3 hk3
   exact ⟨_,_,f1,.inr ⟨rfl,f7,f2,.ret,hIr _ _ _ _ _ hi3 f3,f4,f5,f6⟩⟩
  | exit id' =>
   obtain ⟨rfl,hk3,hi3⟩:=hq
   obtain ⟨f1,f2,f3,f4,f5,f6,f7⟩:=fin (some (.exit id')) A3 hk3
   exact ⟨_,_,f1,.inr ⟨rfl,f7,f2,.exit id',⟨rfl,hIx _ _ _ _ _ hi3 f3⟩,f4,f5,f6⟩⟩
  | goto t=>exact hq.elim
  | panic ch=>exact hq.elim
  | outgrown=>exact hq.elim
 ·rcases hb with hb | rfl | rfl | hb
  ·exact .inl hb
  ·exact .inr (Nat.le_refl _)
  ·exact .inr (by omega)
  ·exact hb.elim
 ·-- behind the iterator
  have hrepM:Rep [jPY w.heap.size] n ρ { a with defers:=[jPY w.heap.size]++a.defers }:=⟨by rw [show a.defers=[] from ha.defers];rfl,ha.size,ha.get⟩
  have go:∀(A:World),Hst w0 (Yo fun b=>H b∨b=w.heap.size∨b=w.heap.size+1) A (Yo fun b=>H b∨b=w.heap.size∨b=w.heap.size+1) A→True:=fun _ _=>trivial
  have rest : ∀ (X : NP) (A : World), Hst w0 (Yo X) A (Yo X) A → A.heap[w.heap.size]? = some (.deferred (some [])) → Kept H w A → (I xs (Yo X) A ∨ ∃ pre, Ix pre (Yo X) A) →
    y.wpIn (fen none) 0 P (jNP ⟨none,[]⟩ n Q) { a with defers:=[jPY w.heap.size]++a.defers } A:=by
   intro X A hA hD hkA hIA
   refine wpIn_mono (hrest w.heap.size (Yo X) A hA (.inr (.inl rfl)) hD (fun b hb=>.inl hb) hkA hIA _ hrepM) ?_
   rintro e a2 A2 ⟨ρ2,⟨hr2,hq⟩ | ⟨_,_,h,_⟩⟩
   ·cases e <;> first | exact hq.elim | skip
    exact ⟨ρ2,.inr ⟨rfl,rfl,rfl,w.heap.size,hr2,hq.1,hq.2⟩⟩
   ·cases h
  rintro e A ⟨⟨v,rfl⟩,X,_,⟨hX,hi,hl,hk,hkH⟩ | ⟨pre,hX,c,hc,hl,hk,hkH⟩⟩
  ·obtain ⟨o, hrun⟩ : ∃ o, (Instr.endLoop (w.heap.size + 1)).run P A = .ok none (A.putObj (w.heap.size + 1) o) := by
    have:=run_endLoop (P:=P) hl (by rw [hrec];simp);rw [hrec] at this;exact ⟨_,this⟩
   have T:=turn o hX
   exact ⟨none,_,hrun,rest X _ T.here ((World.putObj_heap_other (by omega)).trans hk) (keepT _ hkH) (.inl (hI _ _ _ _ _ hi T))⟩
  ·obtain ⟨o, hrun⟩ : ∃ o, (Instr.endLoop (w.heap.size + 1)).run P A = .ok (some c) (A.putObj (w.heap.size + 1) o) := by
    have:=run_endLoop (P:=P) hl (by rw [hrec];simp);rw [hrec] at this;exact ⟨_,this⟩
   have T:=turn o hX
   refine ⟨some c,_,hrun,?_⟩
   have hc':=hJc _ _ _ _ _ _ hc T
   have hD:=(World.putObj_heap_other (w:=A) (r:=w.heap.size+1) (o:=o) (k:=w.heap.size) (by omega)).trans hk
   cases c <;> first | exact hc.elim | skip
   case exit id' =>
    obtain ⟨rfl,hx⟩:=hc'
    refine wpIn_exit ?_
    simp only [Exit.inBlock,if_true]
    exact rest X _ T.here hD (keepT _ hkH) (.inr ⟨pre,hx⟩)
   case ret =>
    refine wpIn_ret ?_
    exact ⟨ρ,.inr ⟨rfl,rfl,rfl,w.heap.size,hrepM,hD,hret w.heap.size pre (Yo X) _ T.here (.inr (.inl rfl)) hD hc'⟩⟩
end
end Go.SE
namespace Go.SE
end Go.SE
end
section
open Go Go.SE
open Go.IntKind renaming i64 → q6
namespace Go.Proofs
open Tryz
set_option maxRecDepth 100000
set_option maxHeartbeats 4000000
attribute [local irreducible] wpL wpX opE wpE Calls
def m_R1_l1 (l1:Sl) (n1 i1:Int) (wl1:World) (Kc1:Int→Int→WP) (K:Bool→WP):Prop :=Br ((decide (i1<(l1.len:Int))) && (decide (i1≤10))) (∃a1:Addr,At l1 i1 6 a1∧∃aK aV aW aX aM aY,Row wl1 a1 (Ab aK aV aW aX aM aY)∧Calls prog 75 #[(.agg #[(vi aK),(vi aV),(vi aW),(vu aX),(vs aM),aY.v]),(vi 500)] wl1 (fun e w2=>∃r1,e=.returned (vi r1)∧Br (decide ((q6.wrap (n1+r1))≥500)) (K true w2) (Kc1 (q6.wrap (n1+r1)) (q6.wrap (i1+1)) w2))) (K (decide ((l1.len:Int)>10)) wl1)
def m_R1 (l1:Sl) (w0:World) (K:Bool→WP):Prop :=∃(I1:Int→Int→WP) (mu1:Int→Int→World→Nat),I1 0 0 w0∧∀(n1 i1:Int) (wl1:World),I1 n1 i1 wl1→m_R1_l1 l1 n1 i1 wl1 (fun y'0 y'1 w'=>I1 y'0 y'1 w'∧mu1 y'0 y'1 w'<mu1 n1 i1 wl1) K
theorem w_R1 (l1 w0 K) (h:m_R1 l1 w0 K):
  Calls prog 23 #[l1.v] w0 (fun e w'=>∃r2,e=.returned (vb r2)∧K r2 w'):=by
 refine cw (args:=[l1.v]) func23 ntmps23 (eg (q0 (vb false) (ln (eg (q0 (vi 0) (ln (zA ?_)))))))
 refine eg (q (ln (zK ?_)))
 obtain ⟨I1,mu1,h0,hr⟩:=h
 refine vQ (σ:=Int×Int×World) (fun s ρ w=>w=s.2.2∧Has ρ [(0,l1.v),(3,(vi s.1)),(4,(vi s.2.1))]∧I1 s.1 s.2.1 s.2.2) (fun s=>mu1 s.1 s.2.1 s.2.2) (0,0,w0) ⟨rfl,hm,h0⟩ ?_
 rintro ⟨n1,i1,wl1⟩ ρ w ⟨hw,hH,hI⟩
 dsimp only at hw hH;subst w
 have h:=hr n1 i1 wl1 hI
 refine zV hH (zA (zA (vN (fun ρ wJ=>∃b1'0:Bool,((decide (i1<(l1.len:Int)))=b1'0)∧wl1=wJ∧Has ρ [(0,l1.v),(3,(vi n1)),(4,(vi i1)),(12,(vb (b1'0 && (decide (i1≤10)))))]) ?_ ?_)))
 refine rg (q (qd ?_))
 rcases bte (decide (i1<(l1.len:Int))) with hg2 | hg2
 refine qk 9 hg2 (qk 9 hg2 (q2 (vb (decide (i1≤10))) (xT hg2) (ln ⟨true,hg2,rfl,hm⟩)))
 refine sj2 9 hg2 (q2 (vb false) (xF hg2) (ln ⟨false,hg2,rfl,hm⟩))
 rintro ρ w1 ⟨b1'0,he0,hw,hH⟩
 subst he0
 subst hw
 refine vE hH (zL (cbr h ?_ ?_))<;>intro h
 refine zB (zL (zA (zK (eg (qc (qi (runUnderlying66 _) (sizeOf107 _) h fun a1 h=>?_))))))
 obtain ⟨aK,aV,aW,aX,aM,aY,hv1,h⟩:=h
 refine qa (isAgg107 _) (sizeOf107 _) hv1 (sc call75 (h.mono fun e w2 ⟨r1,k,h⟩=>⟨_,k,?_⟩))
 refine qb (ln (eg (qb (ln (cbr h ?_ ?_)))))<;>intro h
 refine eg (q (ln (er (qW (zX (zX (qW (zX (rs1 results23 ⟨true,rfl,h⟩)))))))))
 refine zB (uM (zL (rg (qc (ln ⟨((q6.wrap (n1+r1)),(q6.wrap (i1+1)),w2),⟨rfl,hm,h.1⟩,h.2⟩)))))
 refine vO (uI (uI (uD (zL (eg (q0 l1.v (q0 (vi (l1.len:Int)) (q0 (vb (decide ((l1.len:Int)>10))) (q0 (vb (decide ((l1.len:Int)>10))) (zC (zL (er (rs1 results23 ⟨(decide ((l1.len:Int)>10)),rfl,h⟩)))))))))))))
def m_Y_j1 (p1:Option Addr) (a1 b1:Int) (x1:Bool) (w0:World) (H:NP) (w:World) (K:Int→Int→Int→ByteArray→Bool→Bool→Int→WP):Prop :=Br x1 (∀w3,Hst w0 H w H w3→K 0 0 0 ⟨#[]⟩ false false 51 w3) (Calls prog 51 #[(vp p1),(vi a1)] w (fun e w4=>∃aA aB aD aE aC r1,e=.returned (.tuple #[(Af aA aB aD aE aC),(vb r1)])∧Kept H w w4∧∀H2 w6,Hst w0 H w4 H2 w6→Calls prog 51 #[(vp p1),(vi b1)] w6 (fun e w7=>∃aJ aF aH aI aG r2,e=.returned (.tuple #[(Af aJ aF aH aI aG),(vb r2)])∧Kept H2 w6 w7∧Br ((aA != 1) || (aJ != 1)) (∀H4 w11,Hst w0 H2 w7 H4 w11→K 0 0 0 ⟨#[]⟩ false false 120 w11) (∀y1:Bool,y1=((((aB != 0) || (aF != 1)) || (aD != aH)) || (!(decide (aE=aI))))→Br y1 (∀H10 w20,Hst w0 H2 w7 H10 w20→K aA aB aD aE aC (aC || aG) 122 w20) (∀H10 w21,Hst w0 H2 w7 H10 w21→K aA aB aD aE aC (aC || aG) 0 w21)))))
def m_Y (p1:Option Addr) (a1 b1:Int) (w0:World) (K:Int→Int→Int→ByteArray→Bool→Bool→Int→WP):Prop :=Br (Option.isNone p1) (∀H1 w2,Hst w0 None w0 H1 w2→K 0 0 0 ⟨#[]⟩ false false 7 w2) (∀H1 w1,Hst w0 None w0 H1 w1→Calls prog 160 #[(vp p1),(vi a1)] w1 (fun e w22=>∃r3,e=.returned (vi r3)∧Kept H1 w1 w22∧Br (r3 == 0) (m_Y_j1 p1 a1 b1 true w0 H1 w22 K) (Calls prog 160 #[(vp p1),(vi b1)] w22 (fun e w23=>∃r4,e=.returned (vi r4)∧Kept H1 w22 w23∧m_Y_j1 p1 a1 b1 (r4 == 0) w0 H1 w23 K))))
theorem w_Y (p1 a1 b1 w0 K) (h:m_Y p1 a1 b1 w0 K):
  Calls prog 90 #[(vp p1),(vi a1),(vi b1)] w0 (fun e w'=>∃aR aU aZ aS cA r5 r6,e=.returned (.tuple #[(Af aR aU aZ aS cA),(vb r5),(vi r6)])∧K aR aU aZ aS cA r5 r6 w'):=by
 refine cw (args:=[(vp p1),(vi a1),(vi b1)]) func90 ntmps90 ?_
 obtain ⟨hs,hb⟩:=st0 w0
 refine eg (nw3 (Ag 0 0 0 false) 35 hs hb (zH (zeroValue35 _) rfl) fun p2 w1 H1 hs hb=>qb (ln (zA (eg (q (q2 (vb (Option.isNone p1)) (tI (by kernel_rfl) rfl underlying68) (ln (cbr h ?_ ?_))))))))<;>intro h
 refine eg (q (vU (zR rfl) (xo p2 (Ag 0 0 0 false) (sizeOf35 _) (hb.k0 0 5 gZ)) ?_))
 intro w2 hn2
 obtain ⟨hs,hb⟩:=hb.st1 0 hs hn2 gZ
 refine qb (ln (er (zX ?_)))
 have ⟨h,hs⟩:=hs.hr (h H1 w2)
 refine tH (.inl rfl) (vs:=[(Ah 0 0 0 false),(vb false),(vi 7)]) (v:=(.tuple #[(Ah 0 0 0 false),(vb false),(vi 7)])) results90 ⟨(rva (isAgg35 _) (sizeOf35 _) (hb.r0 0 5 gZ)),(rvT (by kernel_rfl)),(rvT (by kernel_rfl)),trivial⟩ (by kernel_rfl) ⟨0,0,0,⟨#[]⟩,false,false,7,rfl,h⟩
 refine zB (zL (zA (zA (qT (fun ρ w=>∃x1,∃H:NP,Has ρ [(0,(vp p1)),(1,(vi a1)),(2,(vi b1)),(6,(vp (some p2))),(26,(vb x1))]∧Hst w0 H w H w∧HB H w [(p2,(Ag 0 0 0 false),35)]∧m_Y_j1 p1 a1 b1 x1 w0 H w K) ?_ ?_))))
 rintro ρ w ⟨x1,H,hH,hs,hb,h⟩
 refine zV hH (cbr h ?_ ?_)<;>intro h
 refine eg (q (vU (zR rfl) (xo p2 (Ag 0 0 0 false) (sizeOf35 _) (hb.k0 0 5 gZ)) ?_))
 intro w3 hn3
 obtain ⟨hs,hb⟩:=hb.st1 0 hs hn3 gZ
 refine qb (ln (er (zX ?_)))
 have ⟨h,hs⟩:=hs.hr (h w3)
 refine tH (.inl rfl) (vs:=[(Ah 0 0 0 false),(vb false),(vi 51)]) (v:=(.tuple #[(Ah 0 0 0 false),(vb false),(vi 51)])) results90 ⟨(rva (isAgg35 _) (sizeOf35 _) (hb.r0 0 5 gZ)),(rvT (by kernel_rfl)),(rvT (by kernel_rfl)),trivial⟩ (by kernel_rfl) ⟨0,0,0,⟨#[]⟩,false,false,51,rfl,h⟩
 refine zB (zL (eg (qb (sc call51 (h.mono fun e w4 ⟨aA,aB,aD,aE,aC,r1,k,hk,h⟩=>have ⟨hs,hb⟩:=hk.hh hs hb;⟨_,k,?_⟩)))))
 refine qc (nw3 (Ag 0 0 0 false) 35 hs hb (zH (zeroValue35 _) rfl) fun p3 w5 H2 hs hb=>sbx 0 (Ac aA aB aD aE aC) (sizeOf35 _) hs hb gZ fun w6 hs hb=>q (ln (eg (qb ?_))))
 have ⟨h,hs⟩:=hs.hr (h H2 w6)
 refine sc call51 (h.mono fun e w7 ⟨aJ,aF,aH,aI,aG,r2,k,hk,h⟩=>have ⟨hs,hb⟩:=hk.hh hs hb;⟨_,k,?_⟩)
 refine qc (nw3 (Ag 0 0 0 false) 35 hs hb (zH (zeroValue35 _) rfl) fun p4 w8 H3 hs hb=>sbx 0 (Ac aJ aF aH aI aG) (sizeOf35 _) hs hb gZ fun w9 hs hb=>q (ln (zA (zA (vN (fun ρ wJ=>∃b2'0:Bool,∃HJ:NP,((aA != 1)=b2'0)∧Hst w0 H2 w7 HJ wJ∧HB HJ wJ [(p4,(Ac aJ aF aH aI aG),35),(p3,(Ac aA aB aD aE aC),35),(p2,(Ag 0 0 0 false),35)]∧Has ρ [(6,(vp (some p2))),(9,(vp (some p3))),(11,(vp (some p4))),(47,(vb (b2'0 || (aJ != 1))))]) ?_ ?_)))))
 refine rg (q (q3 (xl (isAgg3 _) (hb.d0 1 (gS gZ))) (qb ?_)))
 rcases bte (aA != 1) with hg2 | hg2
 refine sj3 43 hg2 (q2 (vb true) (xT hg2) (ln ⟨true,_,hg2,hs,hb,hm⟩))
 refine qk 43 hg2 (q4 43 hg2 (xl (isAgg3 _) (hb.d0 0 gZ)) (qk 43 hg2 (q2 (vb (aJ != 1)) (xF hg2) (ln ⟨false,_,hg2,hs,hb,hm⟩))))
 rintro ρ w10 ⟨b2'0,H4,he0,hs,hb,hH⟩
 subst he0
 refine vE hH (zL (cbr h ?_ ?_))<;>intro h
 refine eg (q (vU (zR rfl) (xo p2 (Ag 0 0 0 false) (sizeOf35 _) (hb.k0 2 5 (gS (gS gZ)))) ?_))
 intro w11 hn8
 obtain ⟨hs,hb⟩:=hb.st1 2 hs hn8 (gS (gS gZ))
 refine qb (ln (er (zX ?_)))
 have ⟨h,hs⟩:=hs.hr (h H4 w11)
 refine tH (.inl rfl) (vs:=[(Ah 0 0 0 false),(vb false),(vi 120)]) (v:=(.tuple #[(Ah 0 0 0 false),(vb false),(vi 120)])) results90 ⟨(rva (isAgg35 _) (sizeOf35 _) (hb.r0 2 5 (gS (gS gZ)))),(rvT (by kernel_rfl)),(rvT (by kernel_rfl)),trivial⟩ (by kernel_rfl) ⟨0,0,0,⟨#[]⟩,false,false,120,rfl,h⟩
 refine zB (zL (zA (vN (fun ρ wJ=>∃HJ:NP,Hst w0 H2 w7 HJ wJ∧HB HJ wJ [(p4,(Ac aJ aF aH aI aG),35),(p3,(Ac aA aB aD aE aC),35),(p2,(Ag 0 0 0 false),35)]∧Has ρ [(6,(vp (some p2))),(9,(vp (some p3))),(11,(vp (some p4))),(13,(vb (aC || aG)))]) ?_ ?_)))
 refine rg (q (q3 (xl (isAgg4 _) (hb.d 1 4 (gS gZ))) (q (zI 3 (fun ρ wJ=>∃b5'0:Bool,∃HJ:NP,(aC=b5'0)∧Hst w0 H2 w7 HJ wJ∧HB HJ wJ [(p4,(Ac aJ aF aH aI aG),35),(p3,(Ac aA aB aD aE aC),35),(p2,(Ag 0 0 0 false),35)]∧Has ρ [(6,(vp (some p2))),(9,(vp (some p3))),(11,(vp (some p4))),(54,(vb (b5'0 || aG)))]) ?_ ?_))))
 rintro ρ w14 ⟨b5'0,H7,he0,hs,hb,hH⟩
 subst he0
 refine zM hH (q (ln ⟨_,hs,hb,hm⟩))
 rcases bte aC with hg6 | hg6
 refine sj2 51 hg6 (q2 (vb true) (xT hg6) (zC ⟨true,_,hg6,hs,hb,hm⟩))
 refine qk 51 hg6 (q4 51 hg6 (xl (isAgg4 _) (hb.d 0 4 gZ)) (q2 (vb aG) (xF hg6) (zC ⟨false,_,hg6,hs,hb,hm⟩)))
 rintro ρ w13 ⟨H6,hs,hb,hH⟩
 refine vE hH (zL (zA (zA (vN (fun ρ wJ=>∃b8'0 y1:Bool,∃HJ:NP,((((aB != 0) || (aF != 1)) || (aD != aH))=b8'0)∧(y1=(b8'0 || (!(decide (aE=aI)))))∧Hst w0 H2 w7 HJ wJ∧HB HJ wJ [(p4,(Ac aJ aF aH aI aG),35),(p3,(Ac aA aB aD aE aC),35),(p2,(Ag 0 0 0 false),35)]∧Has ρ [(6,(vp (some p2))),(9,(vp (some p3))),(13,(vb (aC || aG))),(76,(vb y1))]) ?_ ?_))))
 refine rg (q (q3 (xl (isAgg3 _) (hb.d 1 1 (gS gZ))) (qb (zI 4 (fun ρ wJ=>∃b9'0:Bool,∃HJ:NP,((aB != 0)=b9'0)∧Hst w0 H2 w7 HJ wJ∧HB HJ wJ [(p4,(Ac aJ aF aH aI aG),35),(p3,(Ac aA aB aD aE aC),35),(p2,(Ag 0 0 0 false),35)]∧Has ρ [(6,(vp (some p2))),(9,(vp (some p3))),(11,(vp (some p4))),(13,(vb (aC || aG))),(62,(vb (b9'0 || (aF != 1))))]) ?_ ?_))))
 rintro ρ w18 ⟨b9'0,H11,he0,hs,hb,hH⟩
 subst he0
 refine zM hH (q (zI 6 (fun ρ wJ=>∃b10'0:Bool,∃HJ:NP,(((aB != 0) || (aF != 1))=b10'0)∧Hst w0 H2 w7 HJ wJ∧HB HJ wJ [(p4,(Ac aJ aF aH aI aG),35),(p3,(Ac aA aB aD aE aC),35),(p2,(Ag 0 0 0 false),35)]∧Has ρ [(6,(vp (some p2))),(9,(vp (some p3))),(11,(vp (some p4))),(13,(vb (aC || aG))),(69,(vb (b10'0 || (aD != aH))))]) ?_ ?_))
 rintro ρ w19 ⟨b10'0,H12,he0,hs,hb,hH⟩
 subst he0
 refine zM hH (q ?_)
 rcases bte (((aB != 0) || (aF != 1)) || (aD != aH)) with hg16 | hg16
 refine sj5 70 hg16 (q2 (vb true) (xT hg16) (ln ⟨true,_,_,hg16,rfl,hs,hb,hm⟩))
 refine qk 70 hg16 (q4 70 hg16 (xl (isAgg9 _) (hb.d 1 3 (gS gZ))) (qk 70 hg16 (q4 70 hg16 (xl (isAgg9 _) (hb.d 0 3 gZ)) (stq (v:=(vb (!(decide (aE=aI))))) (wy 70 hg16) (uE (by kernel_rfl) (by kernel_rfl)) (q2 (vb (!(decide (aE=aI)))) (xF hg16) (ln ⟨false,_,_,hg16,rfl,hs,hb,hm⟩))))))
 rcases bte ((aB != 0) || (aF != 1)) with hg15 | hg15
 refine sj5 63 hg15 (q2 (vb true) (xT hg15) (zC ⟨true,_,hg15,hs,hb,hm⟩))
 refine qk 63 hg15 (q4 63 hg15 (xl (isAgg23 _) (hb.d 1 2 (gS gZ))) (qk 63 hg15 (q4 63 hg15 (xl (isAgg23 _) (hb.d 0 2 gZ)) (qk 63 hg15 (q2 (vb (aD != aH)) (xF hg15) (zC ⟨false,_,hg15,hs,hb,hm⟩))))))
 rcases bte (aB != 0) with hg13 | hg13
 refine sj3 58 hg13 (q2 (vb true) (xT hg13) (zC ⟨true,_,hg13,hs,hb,hm⟩))
 refine qk 58 hg13 (q4 58 hg13 (xl (isAgg3 _) (hb.d 0 1 gZ)) (qk 58 hg13 (q2 (vb (aF != 1)) (xF hg13) (zC ⟨false,_,hg13,hs,hb,hm⟩))))
 rintro ρ w17 ⟨b8'0,y1,H10,he0,hy1,hs,hb,hH⟩
 subst he0
 have h:=h y1 hy1
 refine vE hH (zL (cbr h ?_ ?_))<;>intro h
 refine eg (q2 (Af aA aB aD aE aC) (xa p3 (Ac aA aB aD aE aC) (isAgg35 _) (sizeOf35 _) (hb.r0 1 5 (gS gZ))) (q (vU (zR rfl) (xo p2 (Ac aA aB aD aE aC) (sizeOf35 _) (hb.k0 2 5 (gS (gS gZ)))) ?_)))
 intro w20 hn9
 obtain ⟨hs,hb⟩:=hb.st1 2 hs hn9 (gS (gS gZ))
 refine qb (ln (er (zX ?_)))
 have ⟨h,hs⟩:=hs.hr (h H10 w20)
 refine tH (.inl rfl) (vs:=[(Af aA aB aD aE aC),(vb (aC || aG)),(vi 122)]) (v:=(.tuple #[(Af aA aB aD aE aC),(vb (aC || aG)),(vi 122)])) results90 ⟨(rva (isAgg35 _) (sizeOf35 _) (hb.r0 2 5 (gS (gS gZ)))),(rvT (by kernel_rfl)),(rvT (by kernel_rfl)),trivial⟩ (by kernel_rfl) ⟨aA,aB,aD,aE,aC,(aC || aG),122,rfl,h⟩
 refine zB (zL (eg (q2 (Af aA aB aD aE aC) (xa p3 (Ac aA aB aD aE aC) (isAgg35 _) (sizeOf35 _) (hb.r0 1 5 (gS gZ))) (q (vU (zR rfl) (xo p2 (Ac aA aB aD aE aC) (sizeOf35 _) (hb.k0 2 5 (gS (gS gZ)))) ?_)))))
 intro w21 hn10
 obtain ⟨hs,hb⟩:=hb.st1 2 hs hn10 (gS (gS gZ))
 refine qb (ln (er ?_))
 have ⟨h,hs⟩:=hs.hr (h H10 w21)
 refine tH (.inl rfl) (vs:=[(Af aA aB aD aE aC),(vb (aC || aG)),(vi 0)]) (v:=(.tuple #[(Af aA aB aD aE aC),(vb (aC || aG)),(vi 0)])) results90 ⟨(rva (isAgg35 _) (sizeOf35 _) (hb.r0 2 5 (gS (gS gZ)))),(rvT (by kernel_rfl)),(rvT (by kernel_rfl)),trivial⟩ (by kernel_rfl) ⟨aA,aB,aD,aE,aC,(aC || aG),0,rfl,h⟩
 refine rg (qb ?_)
 have ⟨h,hs⟩:=hs.hr (h H1 w1)
 refine sc call160 (h.mono fun e w22 ⟨r3,k,hk,h⟩=>have ⟨hs,hb⟩:=hk.hh hs hb;⟨_,k,?_⟩)
 refine qb ?_
 obtain ⟨hg17,h⟩|⟨hg17,h⟩:=h.br
 refine sj4 21 hg17 (q2 (vb true) (xT hg17) (ln ⟨true,H1,hm,hs,hb,h⟩))
 refine qk 21 hg17 (qk 21 hg17 (vA (wy 21 hg17) (xc call160) (h.mono ?_)))
 rintro e w23 ⟨r4,rfl,hk,h⟩
 refine ⟨_,rfl,?_⟩
 obtain ⟨hs,hb⟩:=hk.hh hs hb
 refine qk 21 hg17 (q2 (vb (r4 == 0)) (xF hg17) (ln ⟨(r4 == 0),H1,hm,hs,hb,h⟩))
def m_L3 (p1:Option Addr) (a1 b1:Int) (w0:World) (K:Int→Int→WP):Prop :=Calls prog 90 #[(vp p1),(vi a1),(vi b1)] w0 (fun e w1=>∃aA aB aD aE aC r1 r2,e=.returned (.tuple #[(Af aA aB aD aE aC),(vb r1),(vi r2)])∧Kept None w0 w1∧Br (((cond r1 121 r2):Int) != 0) (∀H2 w4,Hst w0 None w1 H2 w4→K 0 (cond r1 121 r2) w4) (∀H2 w4,Hst w0 None w1 H2 w4→Calls prog 76 #[(vp p1),(.agg #[(vi 6),(vi 0),(vu aD),(vs aE),(vb false)])] w4 (fun e w5=>∃r3 r4,e=.returned (.tuple #[(vi r3),(vi r4)])∧Kept H2 w4 w5∧K r3 r4 w5)))
theorem w_L3 (p1 a1 b1 w0 K) (h:m_L3 p1 a1 b1 w0 K):
  Calls prog 32 #[(vp p1),(vi a1),(vi b1)] w0 (fun e w'=>∃r5 r6,e=.returned (.tuple #[(vi r5),(vi r6)])∧K r5 r6 w'):=by
 refine cw (args:=[(vp p1),(vi a1),(vi b1)]) func32 ntmps32 ?_
 obtain ⟨hs,hb⟩:=st0 w0
 refine eg (qb (ln (eg (qc (sc call90 (h.mono fun e w1 ⟨aA,aB,aD,aE,aC,r1,r2,k,hk,h⟩=>have ⟨hs,hb⟩:=hk.hh hs hb;⟨_,k,?_⟩))))))
 refine qd (nw3 (Ag 0 0 0 false) 35 hs hb (zH (zeroValue35 _) rfl) fun p2 w2 H1 hs hb=>sbx 0 (Ac aA aB aD aE aC) (sizeOf35 _) hs hb gZ fun w3 hs hb=>qb (ln (zA (eg (q (ln (vN (fun ρ wJ=>∃b2'0:Bool,∃HJ:NP,(r1=b2'0)∧Hst w0 None w1 HJ wJ∧HB HJ wJ [(p2,(Ac aA aB aD aE aC),35)]∧Has ρ [(0,(vp p1)),(8,(vp (some p2))),(10,(vi (cond b2'0 121 r2)))]) ?_ ?_)))))))
 refine vI (t:=r1) (by kernel_rfl) (fun hc2=>?_) (fun hc2=>?_)
 refine rg (q (ln ⟨true,_,hc2,hs,hb,hm⟩))
 refine zB (zL ⟨false,_,hc2,hs,hb,hm⟩)
 rintro ρ w4 ⟨b2'0,H2,he0,hs,hb,hH⟩
 subst he0
 refine vE hH (zL (zA (eg (qb (ln (cbr h ?_ ?_))))))<;>intro h
 refine eg (qc (ln (er (zX ?_))))
 have ⟨h,hs⟩:=hs.hr (h H2 w4)
 refine xA (.inl rfl) results32 (v:=(vi 0)) (by kernel_rfl) (v':=(vi (cond r1 121 r2))) (by kernel_rfl) ⟨0,(cond r1 121 r2),rfl,h⟩
 refine zB (zL (eg (qb (q3 (xl (isAgg23 _) (hb.d 0 2 gZ)) (q (q3 (xl (isAgg9 _) (hb.d 0 3 gZ)) (q ?_)))))))
 have ⟨h,hs⟩:=hs.hr (h H2 w4)
 refine sc call76 (h.mono fun e w5 ⟨r3,r4,k,hk,h⟩=>have ⟨hs,hb⟩:=hk.hh hs hb;⟨_,k,?_⟩)
 refine qd (ln (er (xA (.inl rfl) results32 (v:=(vi r3)) (by kernel_rfl) (v':=(vi r4)) (by kernel_rfl) ⟨r3,r4,rfl,h⟩)))
def m_M3 (p1:Option Addr) (who1 a1 b1:Int) (w0:World) (K:Int→Int→WP):Prop :=Br ((who1 != 0) && (who1 != 1)) (∀H1 w1,Hst w0 None w0 H1 w1→K 0 2 w1) (∀H1 w1,Hst w0 None w0 H1 w1→Calls prog 90 #[(vp p1),(vi a1),(vi b1)] w1 (fun e w2=>∃aA aB aD aE aC r1 r2,e=.returned (.tuple #[(Af aA aB aD aE aC),(vb r1),(vi r2)])∧Kept H1 w1 w2∧Br (r2 != 0) (∀H2 w4,Hst w0 H1 w2 H2 w4→K 0 r2 w4) (∀H2 w4,Hst w0 H1 w2 H2 w4→Calls prog 91 #[(vp p1),(vi a1),(vi b1)] w4 (fun e w5=>∃r3 r4,e=.returned (.tuple #[(vi r3),(vi r4)])∧Kept H2 w4 w5∧Br (r4 != 0) (K 0 r4 w5) (Calls prog 92 #[(vp p1),(vs (⟨#[114,101,115,111,108,118,101]⟩:ByteArray))] w5 (fun e w6=>∃r5 r6,e=.returned (.tuple #[(vi r5),(vi r6)])∧Kept H2 w5 w6∧Br (r6 != 0) (K 0 r6 w6) (Calls prog 91 #[(vp p1),(vi r5),(vi r3)] w6 (fun e w7=>∃r7 r8,e=.returned (.tuple #[(vi r7),(vi r8)])∧Kept H2 w6 w7∧Br (r8 != 0) (K 0 r8 w7) (Calls prog 93 #[(vp p1),(vi who1),(vi r7)] w7 (fun e w8=>∃r9 r10,e=.returned (.tuple #[(vi r9),(vi r10)])∧Kept H2 w7 w8∧K r9 r10 w8))))))))))
theorem w_M3 (p1 who1 a1 b1 w0 K) (h:m_M3 p1 who1 a1 b1 w0 K):
  Calls prog 33 #[(vp p1),(vi who1),(vi a1),(vi b1)] w0 (fun e w'=>∃r11 r12,e=.returned (.tuple #[(vi r11),(vi r12)])∧K r11 r12 w'):=by
 refine cw (args:=[(vp p1),(vi who1),(vi a1),(vi b1)]) func33 ntmps33 ?_
 obtain ⟨hs,hb⟩:=st0 w0
 refine eg (qb (ln (zA (zA (vN (fun ρ wJ=>∃b2'0:Bool,∃HJ:NP,((who1 != 0)=b2'0)∧Hst w0 None w0 HJ wJ∧HB HJ wJ []∧Has ρ [(0,(vp p1)),(1,(vi who1)),(2,(vi a1)),(3,(vi b1)),(21,(vb (b2'0 && (who1 != 1))))]) ?_ ?_)))))
 refine rg (qc ?_)
 rcases bte (who1 != 0) with hg2 | hg2
 refine qk 18 hg2 (qk 18 hg2 (q2 (vb (who1 != 1)) (xT hg2) (ln ⟨true,_,hg2,hs,hb,hm⟩)))
 refine sj2 18 hg2 (q2 (vb false) (xF hg2) (ln ⟨false,_,hg2,hs,hb,hm⟩))
 rintro ρ w1 ⟨b2'0,H1,he0,hs,hb,hH⟩
 subst he0
 refine vE hH (zL (cbr h ?_ ?_))<;>intro h
 refine eg (qb (ln (er (zX ?_))))
 have ⟨h,hs⟩:=hs.hr (h H1 w1)
 refine xA (.inl rfl) results33 (v:=(vi 0)) (by kernel_rfl) (v':=(vi 2)) (by kernel_rfl) ⟨0,2,rfl,h⟩
 refine zB (zL (zA (eg (qc ?_))))
 have ⟨h,hs⟩:=hs.hr (h H1 w1)
 refine sc call90 (h.mono fun e w2 ⟨aA,aB,aD,aE,aC,r1,r2,k,hk,h⟩=>have ⟨hs,hb⟩:=hk.hh hs hb;⟨_,k,?_⟩)
 refine qd (nw3 (Ag 0 0 0 false) 35 hs hb (zH (zeroValue35 _) rfl) fun p2 w3 H2 hs hb=>sbx 0 (Ac aA aB aD aE aC) (sizeOf35 _) hs hb gZ fun w4 hs hb=>qb (ln (eg (qb (ln (cbr h ?_ ?_))))))<;>intro h
 refine eg (qc (ln (er (zX ?_))))
 have ⟨h,hs⟩:=hs.hr (h H2 w4)
 refine xA (.inl rfl) results33 (v:=(vi 0)) (by kernel_rfl) (v':=(vi r2)) (by kernel_rfl) ⟨0,r2,rfl,h⟩
 refine zB (zL (eg (qc ?_)))
 have ⟨h,hs⟩:=hs.hr (h H2 w4)
 refine sc call91 (h.mono fun e w5 ⟨r3,r4,k,hk,h⟩=>have ⟨hs,hb⟩:=hk.hh hs hb;⟨_,k,?_⟩)
 refine q (qd (ln (zA (eg (qb (ln (cbr h ?_ ?_)))))))<;>intro h
 refine eg (qc (ln (er (zX (xA (.inl rfl) results33 (v:=(vi 0)) (by kernel_rfl) (v':=(vi r4)) (by kernel_rfl) ⟨0,r4,rfl,h⟩)))))
 refine zB (zL (eg (q (sc call92 (h.mono fun e w6 ⟨r5,r6,k,hk,h⟩=>have ⟨hs,hb⟩:=hk.hh hs hb;⟨_,k,?_⟩)))))
 refine q (qd (ln (zA (eg (qb (ln (cbr h ?_ ?_)))))))<;>intro h
 refine eg (qc (ln (er (zX (xA (.inl rfl) results33 (v:=(vi 0)) (by kernel_rfl) (v':=(vi r6)) (by kernel_rfl) ⟨0,r6,rfl,h⟩)))))
 refine zB (zL (zA (eg (qc (sc call91 (h.mono fun e w7 ⟨r7,r8,k,hk,h⟩=>have ⟨hs,hb⟩:=hk.hh hs hb;⟨_,k,?_⟩))))))
 refine q (qd (ln (eg (qb (zC (zL (cbr h ?_ ?_)))))))<;>intro h
 refine eg (qc (ln (er (zX (xA (.inl rfl) results33 (v:=(vi 0)) (by kernel_rfl) (v':=(vi r8)) (by kernel_rfl) ⟨0,r8,rfl,h⟩)))))
 refine zB (zL (eg (qc (sc call93 (h.mono fun e w8 ⟨r9,r10,k,hk,h⟩=>have ⟨hs,hb⟩:=hk.hh hs hb;⟨_,k,?_⟩)))))
 refine qd (ln (er (xA (.inl rfl) results33 (v:=(vi r9)) (by kernel_rfl) (v':=(vi r10)) (by kernel_rfl) ⟨r9,r10,rfl,h⟩)))
def s_E1 (e1:Int):Int :=e1
theorem pw_E1 (e1:Int) (w0:World) :
  Calls prog 36 #[(vi e1)] w0 (fun e w'=>(e=.returned (vi e1))∧Pure w0 w'):=by
 refine cw (args:=[(vi e1)]) func36 ntmps36 (eg (q0 (vi 0) (ln (eg (q0 (vi e1) (q0 (vi e1) (ln ?_)))))))
 refine er (rs1 results36 (v:=(vi e1)) ⟨by kernel_rfl,Ext.refl _⟩)
theorem p_E1 (e1:Int) (w0:World):Calls prog 36 #[(.int .i64 e1)] w0 (fun e w'=>e=.returned (.int .i64 (s_E1 e1))∧Pure w0 w'):=pw_E1 e1 w0
def m_C2 (bV bW bX:Int) (bY:ByteArray) (bZ:Bool) (w0:World) (K:Sl→WP):Prop :=∀p1 w1,New w0 (.cells #[(vi bV),(vi bW),(vu bX),(vs bY),(vb bZ)] 35) p1 w1→∃v1,w1.cell? p1=some (vi v1)∧Br (v1 == 1) (∃v2,w1.cell? (p1.add 4)=some (vb v2)∧Br v2 (K Sl.nil w1) (∃v3,w1.cell? (p1.add 1)=some (vi v3)∧Calls prog 162 #[(vi 1),(vi v3),(vp (some p1))] w1 (fun e w2=>∃aA bU aD aE,e=.returned (Aj aA bU aD aE)∧∀p2 w3,New w2 (.cells #[(vi aA),(vi bU),(vu aD),(vs aE)] 75) p2 w3→K (Sl.mk (some p2) 1 1) w3))) (Br (v1 == 2) (∃v4,w1.cell? (p1.add 1)=some (vi v4)∧Calls prog 162 #[(vi 2),(vi v4),(vp (some p1))] w1 (fun e w4=>∃aJ cB aH aI,e=.returned (Aj aJ cB aH aI)∧∀p3 w5,New w4 (.cells #[(vi aJ),(vi cB),(vu aH),(vs aI)] 75) p3 w5→K (Sl.mk (some p3) 1 1) w5)) (Br (v1 == 3) (Calls prog 162 #[(vi 3),(vi 0),(vp (some p1))] w1 (fun e w6=>∃aR cC aZ aS,e=.returned (Aj aR cC aZ aS)∧∀p4 w7,New w6 (.cells #[(vi aR),(vi cC),(vu aZ),(vs aS)] 75) p4 w7→K (Sl.mk (some p4) 1 1) w7)) (Br (v1 == 4) (∃v5,w1.cell? (p1.add 1)=some (vi v5)∧Calls prog 162 #[(vi 4),(vi v5),(vp (some p1))] w1 (fun e w8=>∃bA cD cE bB,e=.returned (Aj bA cD cE bB)∧∀p5 w9,New w8 (.cells #[(vi bA),(vi cD),(vu cE),(vs bB)] 75) p5 w9→∃v6,w9.cell? (p1.add 4)=some (vb v6)∧Br (!v6) (Calls prog 162 #[(vi 1),(vi 0),(vp (some p1))] w9 (fun e w10=>∃bC cF cG bD,e=.returned (Aj bC cF cG bD)∧Calls prog 162 #[(vi 1),(vi 1),(vp (some p1))] w10 (fun e w11=>∃bE cH cI bF,e=.returned (Aj bE cH cI bF)∧∀p6 w12,New w11 (.cells #[(vi bC),(vi cF),(vu cG),(vs bD),(vi bE),(vi cH),(vu cI),(vs bF)] 75) p6 w12→∃s1:Sl,∃w13:World,(Builtin.append_ #[71,71] 71 #[(Sl.mk (some p5) 1 1).v,(Sl.mk (some p6) 2 2).v]).run prog w12=.ok s1.v w13∧K s1 w13))) (K (Sl.mk (some p5) 1 1) w9))) (Br (v1 == 5) (Calls prog 162 #[(vi 5),(vi 2),(vp (some p1))] w1 (fun e w14=>∃cJ cK cL cM,e=.returned (Aj cJ cK cL cM)∧∀p7 w15,New w14 (.cells #[(vi cJ),(vi cK),(vu cL),(vs cM)] 75) p7 w15→K (Sl.mk (some p7) 1 1) w15)) (Br (v1 == 6) (Calls prog 162 #[(vi 6),(vi 2),(vp (some p1))] w1 (fun e w16=>∃cN cO cP cQ,e=.returned (Aj cN cO cP cQ)∧Calls prog 162 #[(vi 2),(vi 0),(vp (some p1))] w16 (fun e w17=>∃cR cS cT cU,e=.returned (Aj cR cS cT cU)∧Calls prog 162 #[(vi 2),(vi 1),(vp (some p1))] w17 (fun e w18=>∃cV cW cX cY,e=.returned (Aj cV cW cX cY)∧∀p8 w19,New w18 (.cells #[(vi cN),(vi cO),(vu cP),(vs cQ),(vi cR),(vi cS),(vu cT),(vs cU),(vi cV),(vi cW),(vu cX),(vs cY)] 75) p8 w19→K (Sl.mk (some p8) 3 3) w19)))) (K Sl.nil w1))))))
theorem w_C2 (bV bW bX bY bZ w0 K) (h:m_C2 bV bW bX bY bZ w0 K):
  Calls prog 94 #[(.agg #[(vi bV),(vi bW),(vu bX),(vs bY),(vb bZ)])] w0 (fun e w'=>∃r1:Sl,e=.returned r1.v∧K r1 w'):=by
 refine cw (args:=[(Af bV bW bX bY bZ)]) func94 ntmps94 (eg (sn (O:=(.cells #[(vi bV),(vi bW),(vu bX),(vs bY),(vb bZ)] 35)) xb ?_))
 intro p1 w1 hn8
 have h:=h p1 w1 hn8
 refine q (ln (eg (qb (ln (zA (eg (q (ql (isAgg3 _) h fun v1 h=>ln (zK (eg (qb (ln (cbr h ?_ ?_)))))))))))))<;>intro h
 refine zA (eg (q (ql (isAgg4 _) h fun v2 h=>ln (cbr h ?_ ?_))))<;>intro h
 refine eg (q (ln (er (zX (qW (zX (rs1 results94 ⟨Sl.nil,rfl,h⟩)))))))
 refine zB (zL (eg (qb (ql (isAgg3 _) h fun v3 h=>vA (zR rfl) (uB (fs:=#[]) (caps:=#[(vp (some p1))]) (args:=#[(vi 1),(vi v3)]) (args':=#[(vi 1),(vi v3),(vp (some p1))]) (by kernel_rfl) call162 (by kernel_rfl) (by kernel_rfl)) (h.mono ?_)))))
 rintro e w2 ⟨aA,bU,aD,aE,rfl,h⟩
 refine ⟨_,rfl,?_⟩
 refine nw4 (fun p=>(Sl.mk (some p) 1 1).v) h fun p2 w3 h=>q (ln (er (qW (zX (rs1 results94 ⟨(Sl.mk (some p2) 1 1),rfl,h⟩)))))
 refine eg (qb (ln (cbr h ?_ ?_)))<;>intro h
 refine eg (qb (ql (isAgg3 _) h fun v4 h=>vA (zR rfl) (uB (fs:=#[]) (caps:=#[(vp (some p1))]) (args:=#[(vi 2),(vi v4)]) (args':=#[(vi 2),(vi v4),(vp (some p1))]) (by kernel_rfl) call162 (by kernel_rfl) (by kernel_rfl)) (h.mono ?_)))
 rintro e w4 ⟨aJ,cB,aH,aI,rfl,h⟩
 refine ⟨_,rfl,?_⟩
 refine nw4 (fun p=>(Sl.mk (some p) 1 1).v) h fun p3 w5 h=>q (ln (er (qW (zX (rs1 results94 ⟨(Sl.mk (some p3) 1 1),rfl,h⟩)))))
 refine eg (qb (ln (cbr h ?_ ?_)))<;>intro h
 refine eg (q (vA (zR rfl) (uB (fs:=#[]) (caps:=#[(vp (some p1))]) (args:=#[(vi 3),(vi 0)]) (args':=#[(vi 3),(vi 0),(vp (some p1))]) (by kernel_rfl) call162 (by kernel_rfl) (by kernel_rfl)) (h.mono ?_)))
 rintro e w6 ⟨aR,cC,aZ,aS,rfl,h⟩
 refine ⟨_,rfl,?_⟩
 refine nw4 (fun p=>(Sl.mk (some p) 1 1).v) h fun p4 w7 h=>q (ln (er (qW (zX (rs1 results94 ⟨(Sl.mk (some p4) 1 1),rfl,h⟩)))))
 refine eg (qb (ln (cbr h ?_ ?_)))<;>intro h
 refine eg (qb (ql (isAgg3 _) h fun v5 h=>vA (zR rfl) (uB (fs:=#[]) (caps:=#[(vp (some p1))]) (args:=#[(vi 4),(vi v5)]) (args':=#[(vi 4),(vi v5),(vp (some p1))]) (by kernel_rfl) call162 (by kernel_rfl) (by kernel_rfl)) (h.mono ?_)))
 rintro e w8 ⟨bA,cD,cE,bB,rfl,h⟩
 refine ⟨_,rfl,?_⟩
 refine nw4 (fun p=>(Sl.mk (some p) 1 1).v) h fun p5 w9 h=>q (ln (zA (eg (q (ql (isAgg4 _) h fun v6 h=>q (ln (cbr h ?_ ?_)))))))<;>intro h
 refine rg (qb (vA (zR rfl) (uB (fs:=#[]) (caps:=#[(vp (some p1))]) (args:=#[(vi 1),(vi 0)]) (args':=#[(vi 1),(vi 0),(vp (some p1))]) (by kernel_rfl) call162 (by kernel_rfl) (by kernel_rfl)) (h.mono ?_)))
 rintro e w10 ⟨bC,cF,cG,bD,rfl,h⟩
 refine ⟨_,rfl,?_⟩
 refine q (vA (zR rfl) (uB (fs:=#[]) (caps:=#[(vp (some p1))]) (args:=#[(vi 1),(vi 1)]) (args':=#[(vi 1),(vi 1),(vp (some p1))]) (by kernel_rfl) call162 (by kernel_rfl) (by kernel_rfl)) (h.mono ?_))
 rintro e w11 ⟨bE,cH,cI,bF,rfl,h⟩
 refine ⟨_,rfl,?_⟩
 refine nw4 (fun p=>(Sl.mk (some p) 2 2).v) h fun p6 w12 h=>?_
 obtain ⟨s1,w13,hv4,h⟩:=h
 refine st (v:=s1.v) (zR rfl) (vT (args:=#[(Sl.mk (some p5) 1 1).v,(Sl.mk (some p6) 2 2).v]) (by kernel_rfl) (fun _=>rfl) hv4) (q0 s1.v (ln (eg (q0 s1.v (q0 s1.v (ln (er (qW (zX (rs1 results94 ⟨s1,rfl,h⟩))))))))))
 refine zB (zL (eg (qb (ln (er (qW (zX (rs1 results94 ⟨(Sl.mk (some p5) 1 1),rfl,h⟩))))))))
 refine eg (qb (ln (cbr h ?_ ?_)))<;>intro h
 refine eg (q (vA (zR rfl) (uB (fs:=#[]) (caps:=#[(vp (some p1))]) (args:=#[(vi 5),(vi 2)]) (args':=#[(vi 5),(vi 2),(vp (some p1))]) (by kernel_rfl) call162 (by kernel_rfl) (by kernel_rfl)) (h.mono ?_)))
 rintro e w14 ⟨cJ,cK,cL,cM,rfl,h⟩
 refine ⟨_,rfl,?_⟩
 refine nw4 (fun p=>(Sl.mk (some p) 1 1).v) h fun p7 w15 h=>q (ln (er (qW (zX (rs1 results94 ⟨(Sl.mk (some p7) 1 1),rfl,h⟩)))))
 refine eg (qb (ln (cbr h ?_ ?_)))<;>intro h
 refine eg (q (vA (zR rfl) (uB (fs:=#[]) (caps:=#[(vp (some p1))]) (args:=#[(vi 6),(vi 2)]) (args':=#[(vi 6),(vi 2),(vp (some p1))]) (by kernel_rfl) call162 (by kernel_rfl) (by kernel_rfl)) (h.mono ?_)))
 rintro e w16 ⟨cN,cO,cP,cQ,rfl,h⟩
 refine ⟨_,rfl,?_⟩
 refine q (vA (zR rfl) (uB (fs:=#[]) (caps:=#[(vp (some p1))]) (args:=#[(vi 2),(vi 0)]) (args':=#[(vi 2),(vi 0),(vp (some p1))]) (by kernel_rfl) call162 (by kernel_rfl) (by kernel_rfl)) (h.mono ?_))
 rintro e w17 ⟨cR,cS,cT,cU,rfl,h⟩
 refine ⟨_,rfl,?_⟩
 refine q (vA (zR rfl) (uB (fs:=#[]) (caps:=#[(vp (some p1))]) (args:=#[(vi 2),(vi 1)]) (args':=#[(vi 2),(vi 1),(vp (some p1))]) (by kernel_rfl) call162 (by kernel_rfl) (by kernel_rfl)) (h.mono ?_))
 rintro e w18 ⟨cV,cW,cX,cY,rfl,h⟩
 refine ⟨_,rfl,?_⟩
 refine nw4 (fun p=>(Sl.mk (some p) 3 3).v) h fun p8 w19 h=>q (ln (er (qW (zX (rs1 results94 ⟨(Sl.mk (some p8) 3 3),rfl,h⟩)))))
 refine zB (uM (zL (eg (q (ln (er (rs1 results94 ⟨Sl.nil,rfl,h⟩)))))))
theorem tN (a0 a1 a2:Int) (a3:ByteArray) (b0 b1 b2:Int) (b3:ByteArray) (w:World):(Go.binOp .eql 75 (.agg #[(.int .i64 a0),(.int .i64 a1),(.int .u64 a2),(.string a3)]) (.agg #[(.int .i64 b0),(.int .i64 b1),(.int .u64 b2),(.string b3)])).run prog w=.ok (.bool ((a0 == b0) && ((a1 == b1) && ((a2 == b2) && (decide (a3=b3)))))) w:=by
 simp [Go.binOp,Op.equal,Op.maxDepth,go_sem,jGR,bne]
 repeat' split
 all_goals simp_all
def m_I1_l1 (who1 c1:Int) (text1:ByteArray) (r2:Sl) (why1 x1:Int) (w0:World) (Hl1:NP) (wl1:World) (Kc1:Int→Int→NP→WP) (K:Int→WP):Prop :=Br (decide (x1<(r2.len:Int))) (∃a1:Addr,At r2 x1 4 a1∧∃aK aN aO aM,Row wl1 a1 (Ak aK aN aO aM)∧Br (aK != 2) (∀H3 w8,Hst w0 Hl1 wl1 H3 w8→Kc1 why1 (q6.wrap (x1+1)) H3 w8) (Br ((aK == 2) && ((aN == who1) && ((aO == c1) && (decide (aM=text1))))) (∀H3 w8,Hst w0 Hl1 wl1 H3 w8→K 0 w8) (Br (aN != who1) (∀H3 w8,Hst w0 Hl1 wl1 H3 w8→∃z1,(Builtin.max_ #[3,3] 3 #[(vi why1),(vi 3)]).run prog w8=.ok (vi z1) w8∧Kc1 z1 (q6.wrap (x1+1)) H3 w8) (Br (aO != c1) (∀H3 w8,Hst w0 Hl1 wl1 H3 w8→∃z2,(Builtin.max_ #[3,3] 3 #[(vi why1),(vi 4)]).run prog w8=.ok (vi z2) w8∧Kc1 z2 (q6.wrap (x1+1)) H3 w8) (∀H3 w8,Hst w0 Hl1 wl1 H3 w8→∃z3,(Builtin.max_ #[3,3] 3 #[(vi why1),(vi 5)]).run prog w8=.ok (vi z3) w8∧Kc1 z3 (q6.wrap (x1+1)) H3 w8))))) (K why1 wl1)
def m_I1 (p1:Option Addr) (t1 who1 c1:Int) (text1:ByteArray) (w0:World) (K:Int→WP):Prop :=Calls prog 51 #[(vp p1),(vi t1)] w0 (fun e w1=>∃aA aB aD aE aC r1,e=.returned (.tuple #[(Af aA aB aD aE aC),(vb r1)])∧Kept None w0 w1∧Br (!r1) (∀H1 w3,Hst w0 None w1 H1 w3→K 1 w3) (∀H2 w5,Hst w0 None w1 H2 w5→Calls prog 94 #[(.agg #[(vi aA),(vi aB),(vu aD),(vs aE),(vb aC)])] w5 (fun e w6=>∃r2:Sl,e=.returned r2.v∧Kept H2 w5 w6∧∃(I1:Int→Int→NP→WP) (mu1:Int→Int→World→Nat),I1 2 0 H2 w6∧∀(why1 x1:Int) (Hl1:NP) (wl1:World),Hst w0 Hl1 wl1 Hl1 wl1→I1 why1 x1 Hl1 wl1→m_I1_l1 who1 c1 text1 r2 why1 x1 w0 Hl1 wl1 (fun y'0 y'1 H' w'=>I1 y'0 y'1 H' w'∧mu1 y'0 y'1 w'<mu1 why1 x1 wl1) K)))
theorem w_I1 (p1 t1 who1 c1 text1 w0 K) (h:m_I1 p1 t1 who1 c1 text1 w0 K):
  Calls prog 35 #[(vp p1),(vi t1),(vi who1),(vu c1),(vs text1)] w0 (fun e w'=>∃r3,e=.returned (vi r3)∧K r3 w'):=by
 refine cw (args:=[(vp p1),(vi t1),(vi who1),(vu c1),(vs text1)]) func35 ntmps35 ?_
 obtain ⟨hs,hb⟩:=st0 w0
 refine eg (q (ln (eg (qb (sc call51 (h.mono fun e w1 ⟨aA,aB,aD,aE,aC,r1,k,hk,h⟩=>have ⟨hs,hb⟩:=hk.hh hs hb;⟨_,k,?_⟩))))))
 refine qc (nw3 (Ag 0 0 0 false) 35 hs hb (zH (zeroValue35 _) rfl) fun p2 w2 H1 hs hb=>sbx 0 (Ac aA aB aD aE aC) (sizeOf35 _) hs hb gZ fun w3 hs hb=>q (ln (zA (eg (qb (ln (cbr h ?_ ?_)))))))<;>intro h
 refine eg (q (ln (er (zX ?_))))
 have ⟨h,hs⟩:=hs.hr (h H1 w3)
 refine rs1 results35 ⟨1,rfl,h⟩
 refine zB (zL (eg (qd (nw3 [(vi 0),(vi 0),(vu 0),ve] 75 hs hb (zH (zeroValue75 _) rfl) fun p3 w4 H2 hs hb=>sbx 0 (Ak 2 who1 c1 text1) (sizeOf75 _) hs hb gZ fun w5 hs hb=>ln (eg (q (ln (zA (eg (q2 (Af aA aB aD aE aC) (xa p2 (Ac aA aB aD aE aC) (isAgg35 _) (sizeOf35 _) (hb.r0 1 5 (gS gZ))) ?_))))))))))
 have ⟨h,hs⟩:=hs.hr (h H2 w5)
 refine sc call94 (h.mono fun e w6 ⟨r2,k,hk,h⟩=>have ⟨hs,hb⟩:=hk.hh hs hb;⟨_,k,?_⟩)
 refine qb (ln (zK ?_))
 obtain ⟨I1,mu1,h0,hr⟩:=h
 refine vQ (σ:=Int×Int×NP×World) (fun s ρ w=>w=s.2.2.2∧Has ρ [(2,(vi who1)),(3,(vu c1)),(13,(vp (some p3))),(14,(vi s.1)),(30,r2.v),(31,(vi (r2.len:Int))),(32,(vi s.2.1))]∧Hst w0 s.2.2.1 w s.2.2.1 w∧HB s.2.2.1 w [(p3,(Ak 2 who1 c1 text1),75),(p2,(Ac aA aB aD aE aC),35)]∧I1 s.1 s.2.1 s.2.2.1 s.2.2.2) (fun s=>mu1 s.1 s.2.1 s.2.2.2) (2,0,H2,w6) ⟨rfl,hm,hs,hb,h0⟩ ?_
 rintro ⟨why1,x1,Hl1,wl1⟩ ρ w ⟨hw,hH,hs,hb,hI⟩
 dsimp only at hw hH hs hb;subst w
 have h:=hr why1 x1 Hl1 wl1 hs hI
 refine zV hH (eg (q (ln (zA (cbr h ?_ ?_)))))<;>intro h
 refine zB (zL (zA (zK (eg (qi (runUnderlying71 _) (sizeOf75 _) h fun a1 h=>?_)))))
 obtain ⟨aK,aN,aO,aM,hv4,h⟩:=h
 refine qa (isAgg75 _) (sizeOf75 _) hv4 (nw3 [(vi 0),(vi 0),(vu 0),ve] 75 hs hb (zH (zeroValue75 _) rfl) fun p4 w7 H3 hs hb=>sbx 0 (Ak aK aN aO aM) (sizeOf75 _) hs hb gZ fun w8 hs hb=>ln (zK (eg (q (q3 (xl (isAgg3 _) (hb.d0 0 gZ)) (qb (ln (cbr h ?_ ?_))))))))<;>intro h
 refine zB (uM (uM (zL (rg (qb (zC ?_))))))
 have ⟨h,hs⟩:=hs.hr (h H3 w8)
 refine zL ⟨(why1,(q6.wrap (x1+1)),H3,w8),⟨rfl,hm,hs,hb.drop 1,h.1⟩,h.2⟩
 refine eg (q2 (Aj aK aN aO aM) (xa p4 (Ak aK aN aO aM) (isAgg75 _) (sizeOf75 _) (hb.r0 0 4 gZ)) (q2 (Aj 2 who1 c1 text1) (xa p3 (Ak 2 who1 c1 text1) (isAgg75 _) (sizeOf75 _) (hb.r0 1 4 (gS gZ))) (q2 (vb ((aK == 2) && ((aN == who1) && ((aO == c1) && (decide (aM=text1)))))) (jFI (by kernel_rfl) (by kernel_rfl) (by kernel_rfl) (tN aK aN aO aM 2 who1 c1 text1 _)) (q (ln (cbr h ?_ ?_))))))<;>intro h
 refine eg (q (ln (er (qW (qW (zX (zX (qW (zX ?_)))))))))
 have ⟨h,hs⟩:=hs.hr (h H3 w8)
 refine rs1 results35 ⟨0,rfl,h⟩
 refine eg (q (q3 (xl (isAgg3 _) (hb.d 0 1 gZ)) (qc (ln (cbr h ?_ ?_)))))<;>intro h
 refine rg (q ?_)
 have ⟨h,hs⟩:=hs.hr (h H3 w8)
 obtain ⟨z1,hv1,h⟩:=h
 refine q2 (vi z1) (vT (args:=#[(vi why1),(vi 3)]) (by kernel_rfl) (fun _=>rfl) hv1) (q (zC (uM (uM (zL (rg (qb (ln ⟨(z1,(q6.wrap (x1+1)),H3,w8),⟨rfl,hm,hs,hb.drop 1,h.1⟩,h.2⟩))))))))
 refine eg (q (q3 (xl (isAgg23 _) (hb.d 0 2 gZ)) (qc (ln (cbr h ?_ ?_)))))<;>intro h
 refine rg (q ?_)
 have ⟨h,hs⟩:=hs.hr (h H3 w8)
 obtain ⟨z2,hv2,h⟩:=h
 refine q2 (vi z2) (vT (args:=#[(vi why1),(vi 4)]) (by kernel_rfl) (fun _=>rfl) hv2) (q (zC (uM (uM (zL (rg (qb (ln ⟨(z2,(q6.wrap (x1+1)),H3,w8),⟨rfl,hm,hs,hb.drop 1,h.1⟩,h.2⟩))))))))
 refine rg (q ?_)
 have ⟨h,hs⟩:=hs.hr (h H3 w8)
 obtain ⟨z3,hv3,h⟩:=h
 refine q2 (vi z3) (vT (args:=#[(vi why1),(vi 5)]) (by kernel_rfl) (fun _=>rfl) hv3) (q (zC (uM (uM (zL (rg (qb (ln ⟨(z3,(q6.wrap (x1+1)),H3,w8),⟨rfl,hm,hs,hb.drop 1,h.1⟩,h.2⟩))))))))
 refine vO (uI (uI (uD (zL (eg (q0 (vi why1) (q0 (vi why1) (ln (er (rs1 results35 ⟨why1,rfl,h⟩))))))))))
def m_N3 (p1:Option Addr) (t1 who1 c1:Int) (text1:ByteArray) (w0:World) (K:Bool→WP):Prop :=Calls prog 35 #[(vp p1),(vi t1),(vi who1),(vu c1),(vs text1)] w0 (fun e w1=>∃r1,e=.returned (vi r1)∧K (r1 == 0) w1)
theorem w_N3 (p1 t1 who1 c1 text1 w0 K) (h:m_N3 p1 t1 who1 c1 text1 w0 K):
  Calls prog 45 #[(vp p1),(vi t1),(vi who1),(vu c1),(vs text1)] w0 (fun e w'=>∃r2,e=.returned (vb r2)∧K r2 w'):=by
 refine cw (args:=[(vp p1),(vi t1),(vi who1),(vu c1),(vs text1)]) func45 ntmps45 (eg (q0 (vb false) (ln (eg (q0 (vp p1) (q0 (vi t1) (q0 (vi who1) (q0 (vu c1) ?_))))))))
 refine q (sc call35 (h.mono fun e w1 ⟨r1,k,h⟩=>⟨_,k,?_⟩))
 refine qb (ln (er (rs1 results45 ⟨(r1 == 0),rfl,h⟩)))
def m_O3 (p1:Option Addr) (t1:Int) (w0:World) (K:Sl→WP):Prop :=Calls prog 51 #[(vp p1),(vi t1)] w0 (fun e w1=>∃aA aB aD aE aC r1,e=.returned (.tuple #[(Af aA aB aD aE aC),(vb r1)])∧Kept None w0 w1∧Br (!r1) (∀H1 w3,Hst w0 None w1 H1 w3→K Sl.nil w3) (∀H1 w3,Hst w0 None w1 H1 w3→Calls prog 94 #[(.agg #[(vi aA),(vi aB),(vu aD),(vs aE),(vb aC)])] w3 (fun e w4=>∃r2:Sl,e=.returned r2.v∧Kept H1 w3 w4∧K r2 w4)))
theorem w_O3 (p1 t1 w0 K) (h:m_O3 p1 t1 w0 K):
  Calls prog 34 #[(vp p1),(vi t1)] w0 (fun e w'=>∃r3:Sl,e=.returned r3.v∧K r3 w'):=by
 refine cw (args:=[(vp p1),(vi t1)]) func34 ntmps34 ?_
 obtain ⟨hs,hb⟩:=st0 w0
 refine eg (q (ln (eg (qb (sc call51 (h.mono fun e w1 ⟨aA,aB,aD,aE,aC,r1,k,hk,h⟩=>have ⟨hs,hb⟩:=hk.hh hs hb;⟨_,k,?_⟩))))))
 refine qc (nw3 (Ag 0 0 0 false) 35 hs hb (zH (zeroValue35 _) rfl) fun p2 w2 H1 hs hb=>sbx 0 (Ac aA aB aD aE aC) (sizeOf35 _) hs hb gZ fun w3 hs hb=>q (ln (zA (eg (qb (ln (cbr h ?_ ?_)))))))<;>intro h
 refine eg (q (ln (er (zX ?_))))
 have ⟨h,hs⟩:=hs.hr (h H1 w3)
 refine rs1 results34 ⟨Sl.nil,rfl,h⟩
 refine zB (zL (eg (q2 (Af aA aB aD aE aC) (xa p2 (Ac aA aB aD aE aC) (isAgg35 _) (sizeOf35 _) (hb.r0 0 5 gZ)) ?_)))
 have ⟨h,hs⟩:=hs.hr (h H1 w3)
 refine sc call94 (h.mono fun e w4 ⟨r2,k,hk,h⟩=>have ⟨hs,hb⟩:=hk.hh hs hb;⟨_,k,?_⟩)
 refine q (ln (er (rs1 results34 ⟨r2,rfl,h⟩)))
def m_U_l2 (p1:Option Addr) (r3 out1:Sl) (x2:Int) (wl2:World) (Kc2:Sl→Int→WP) (K:Sl→WP):Prop :=Br (decide (x2<(r3.len:Int))) (∃a2:Addr,At r3 x2 1 a2∧∃v2,wl2.cell? a2=some (vi v2)∧Calls prog 34 #[(vp p1),(vi v2)] wl2 (fun e w4=>∃r4:Sl,e=.returned r4.v∧∃s1:Sl,∃w5:World,(Builtin.append_ #[71,71] 71 #[out1.v,r4.v]).run prog w4=.ok s1.v w5∧Kc2 s1 (q6.wrap (x2+1)) w5)) (Calls prog 81 #[out1.v,(.func (.func 28) #[] #[])] wl2 (fun e w6=>e=.returned (.tuple #[])∧Calls prog 82 #[out1.v] w6 (fun e w7=>∃r5:Sl,e=.returned r5.v∧K r5 w7)))
def m_U_l1 (p1:Option Addr) (l1:Sl) (r1:Option Addr) (x1:Int) (wl1:World) (Kc1:Int→WP) (K:Sl→WP):Prop :=Br (decide (x1<(l1.len:Int))) (∃a1:Addr,At l1 x1 1 a1∧∃v1,wl1.cell? a1=some (vi v1)∧Calls prog 79 #[(vp r1),(vi v1)] wl1 (fun e w2=>∃r2,e=.returned (vi r2)∧Kc1 (q6.wrap (x1+1)) w2)) (Calls prog 80 #[(vp r1)] wl1 (fun e w3=>∃r3:Sl,e=.returned r3.v∧∃(I2:Sl→Int→WP) (mu2:Sl→Int→World→Nat),I2 Sl.nil 0 w3∧∀(out1:Sl) (x2:Int) (wl2:World),I2 out1 x2 wl2→m_U_l2 p1 r3 out1 x2 wl2 (fun y'0 y'1 w'=>I2 y'0 y'1 w'∧mu2 y'0 y'1 w'<mu2 out1 x2 wl2) K))
def m_U (p1:Option Addr) (l1:Sl) (w0:World) (K:Sl→WP):Prop :=Calls prog 62 #[(vp p1)] w0 (fun e w1=>∃r1,e=.returned (vp r1)∧∃(I1:Int→WP) (mu1:Int→World→Nat),I1 0 w1∧∀(x1:Int) (wl1:World),I1 x1 wl1→m_U_l1 p1 l1 r1 x1 wl1 (fun y'0 w'=>I1 y'0 w'∧mu1 y'0 w'<mu1 x1 wl1) K)
theorem w_U (p1 l1 w0 K) (h:m_U p1 l1 w0 K):
  Calls prog 26 #[(vp p1),l1.v] w0 (fun e w'=>∃r6:Sl,e=.returned r6.v∧K r6 w'):=by
 refine cw (args:=[(vp p1),l1.v]) func26 ntmps26 (eg (q0 Sl.nil.v (ln (eg (q0 (vp p1) ?_)))))
 refine sc call62 (h.mono fun e w1 ⟨r1,k,h⟩=>⟨_,k,?_⟩)
 refine q (ln (zA (eg (qc (ln (zK ?_))))))
 obtain ⟨I1,mu1,h0,hr⟩:=h
 refine vQ (σ:=Int×World) (fun s ρ w=>w=s.2∧Has ρ [(0,(vp p1)),(5,(vp r1)),(13,l1.v),(14,(vi (l1.len:Int))),(15,(vi s.1))]∧I1 s.1 s.2) (fun s=>mu1 s.1 s.2) (0,w1) ⟨rfl,hm,h0⟩ ?_
 rintro ⟨x1,wl1⟩ ρ w ⟨hw,hH,hI⟩
 dsimp only at hw hH;subst w
 have h:=hr x1 wl1 hI
 refine zV hH (eg (q (ln (zA (cbr h ?_ ?_)))))<;>intro h
 refine zB (zL (zA (zK (eg (qi (runUnderlying46 _) (sizeOf78 _) h fun a1 h=>ql (isAgg78 _) h fun v1 h=>q (ln (rg (qb (sc call79 (h.mono fun e w2 ⟨r2,k,h⟩=>⟨_,k,?_⟩))))))))))
 refine zC (uM (zL (rg (qb (ln ⟨((q6.wrap (x1+1)),w2),⟨rfl,hm,h.1⟩,h.2⟩)))))
 refine vO (uI (uI (uD (zL (eg (q0 Sl.nil.v (ln (zA (zA (rg (q (sc call80 (h.mono fun e w3 ⟨r3,k,h⟩=>⟨_,k,?_⟩)))))))))))))
 refine qb (ln (zK ?_))
 obtain ⟨I2,mu2,h0,hr⟩:=h
 refine vQ (σ:=Sl×Int×World) (fun s ρ w=>w=s.2.2∧Has ρ [(0,(vp p1)),(8,s.1.v),(24,r3.v),(25,(vi (r3.len:Int))),(26,(vi s.2.1))]∧I2 s.1 s.2.1 s.2.2) (fun s=>mu2 s.1 s.2.1 s.2.2) (Sl.nil,0,w3) ⟨rfl,hm,h0⟩ ?_
 rintro ⟨out1,x2,wl2⟩ ρ w ⟨hw,hH,hI⟩
 dsimp only at hw hH;subst w
 have h:=hr out1 x2 wl2 hI
 refine zV hH (eg (q (ln (zA (cbr h ?_ ?_)))))<;>intro h
 refine zB (zL (zA (zK (eg (qi (runUnderlying46 _) (sizeOf78 _) h fun a2 h=>ql (isAgg78 _) h fun v2 h=>q (ln (rg (qc (sc call34 (h.mono fun e w4 ⟨r4,k,h⟩=>⟨_,k,?_⟩))))))))))
 obtain ⟨s1,w5,hv3,h⟩:=h
 refine st (v:=s1.v) (zR rfl) (vT (args:=#[out1.v,r4.v]) (by kernel_rfl) (fun _=>rfl) hv3) (q0 s1.v (zC (uM (zL (rg (q0 (vi (q6.wrap (x2+1))) (q0 (vi (q6.wrap (x2+1))) (ln ⟨(s1,(q6.wrap (x2+1)),w5),⟨rfl,hm,h.1⟩,h.2⟩))))))))
 refine vO (uI (uI (uD (zL (eg (q0 out1.v (sc call81 (h.mono fun e w6 ⟨k,h⟩=>⟨_,k,?_⟩))))))))
 refine ln (eg (q (sc call82 (h.mono fun e w7 ⟨r5,k,h⟩=>⟨_,k,?_⟩))))
 refine q (ln (er (rs1 results26 ⟨r5,rfl,h⟩)))
def m_J_j4 (r1:Option Addr) (r12:Int) (x4:Bool) (H:NP) (w:World) (K:Bool→WP):Prop :=Br x4 (∀p2 w24,New w (.cells #[(vi r12)] 78) p2 w24→Calls prog 26 #[(vp r1),(Sl.mk (some p2) 1 1).v] w24 (fun e w25=>∃r15:Sl,e=.returned r15.v∧Kept H w24 w25∧K (((r15.len:Int):Int) == 3) w25)) (K false w)
def m_J_j3 (r1:Option Addr) (r6 r12:Int) (x3:Bool) (H:NP) (w:World) (K:Bool→WP):Prop :=Br x3 (Calls prog 34 #[(vp r1),(vi r6)] w (fun e w26=>∃r16:Sl,e=.returned r16.v∧Kept H w w26∧m_J_j4 r1 r12 (((r16.len:Int):Int) == 3) H w26 K)) (m_J_j4 r1 r12 false H w K)
def m_J_j2 (r1:Option Addr) (r2 r6 r12:Int) (x2:Bool) (H:NP) (w:World) (K:Bool→WP):Prop :=Br x2 (Calls prog 35 #[(vp r1),(vi r2),(vi 0),(vu 7),(vs (⟨#[120]⟩:ByteArray))] w (fun e w27=>∃r17,e=.returned (vi r17)∧Kept H w w27∧m_J_j3 r1 r6 r12 (r17 == 2) H w27 K)) (m_J_j3 r1 r6 r12 false H w K)
def m_J_j1 (r1:Option Addr) (r2 r6 r12:Int) (x1:Bool) (H:NP) (w:World) (K:Bool→WP):Prop :=Br x1 (Calls prog 45 #[(vp r1),(vi r2),(vi 0),(vu 7),(vs (⟨#[120]⟩:ByteArray))] w (fun e w28=>∃r18,e=.returned (vb r18)∧Kept H w w28∧m_J_j2 r1 r2 r6 r12 (!r18) H w28 K)) (m_J_j2 r1 r2 r6 r12 false H w K)
def m_J  (w0:World) (K:Bool→WP):Prop :=Calls prog 61 #[] w0 (fun e w1=>∃r1,e=.returned (vp r1)∧Kept None w0 w1∧Br (Option.isNone r1) (K false w1) (Calls prog 76 #[(vp r1),(.agg #[(vi 1),(vi 0),(vu 7),(vs (⟨#[120]⟩:ByteArray)),(vb false)])] w1 (fun e w2=>∃r2 r3,e=.returned (.tuple #[(vi r2),(vi r3)])∧Kept None w1 w2∧Calls prog 76 #[(vp r1),(.agg #[(vi 1),(vi 1),(vu 7),(vs (⟨#[120]⟩:ByteArray)),(vb false)])] w2 (fun e w3=>∃r4 r5,e=.returned (.tuple #[(vi r4),(vi r5)])∧Kept None w2 w3∧Calls prog 32 #[(vp r1),(vi r2),(vi r4)] w3 (fun e w4=>∃r6 r7,e=.returned (.tuple #[(vi r6),(vi r7)])∧Kept None w3 w4∧Calls prog 32 #[(vp r1),(vi r2),(vi r2)] w4 (fun e w5=>∃r8 r9,e=.returned (.tuple #[(vi r8),(vi r9)])∧Kept None w4 w5∧Calls prog 32 #[(vp r1),(vi r2),(vi r6)] w5 (fun e w6=>∃r10 r11,e=.returned (.tuple #[(vi r10),(vi r11)])∧Kept None w5 w6∧Calls prog 33 #[(vp r1),(vi 1),(vi r2),(vi r4)] w6 (fun e w7=>∃r12 r13,e=.returned (.tuple #[(vi r12),(vi r13)])∧Kept None w6 w7∧Calls prog 51 #[(vp r1),(vi r12)] w7 (fun e w8=>∃aA aB aD aE aC r14,e=.returned (.tuple #[(Af aA aB aD aE aC),(vb r14)])∧Kept None w7 w8∧∀y1:Bool,y1=((((r7 == 0) && (r9 == 122)) && (r11 == 120)) && (r13 == 0))→Br (((y1 && r14) && (aA == 4)) && (aB == 1)) (∀H7 w23,Hst w0 None w8 H7 w23→Calls prog 45 #[(vp r1),(vi r6),(vi 0),(vu 7),(vs (⟨#[120]⟩:ByteArray))] w23 (fun e w29=>∃r19,e=.returned (vb r19)∧Kept H7 w23 w29∧m_J_j1 r1 r2 r6 r12 r19 H7 w29 K)) (∀H7 w23,Hst w0 None w8 H7 w23→m_J_j1 r1 r2 r6 r12 false H7 w23 K))))))))))
theorem w_J  (w0:World) (K:Bool→WP) (h:m_J  w0 K) :
  Calls prog 24 #[] w0 (fun e w'=>∃r20,e=.returned (vb r20)∧K r20 w'):=by
 refine cw (args:=[]) func24 ntmps24 ?_
 obtain ⟨hs,hb⟩:=st0 w0
 refine eg (q (ln (eg (sc call61 (h.mono fun e w1 ⟨r1,k,hk,h⟩=>have ⟨hs,hb⟩:=hk.hh hs hb;⟨_,k,?_⟩)))))
 refine q (ln (zA (eg (q (q2 (vb (Option.isNone r1)) (tI (by kernel_rfl) rfl underlying68) (ln (cbr h ?_ ?_)))))))<;>intro h
 refine eg (q (ln (er (zX (rs1 results24 ⟨false,rfl,h⟩)))))
 refine zB (zL (eg (qb (sc call76 (h.mono fun e w2 ⟨r2,r3,k,hk,h⟩=>have ⟨hs,hb⟩:=hk.hh hs hb;⟨_,k,?_⟩)))))
 refine q (qd (ln (eg (qb (sc call76 (h.mono fun e w3 ⟨r4,r5,k,hk,h⟩=>have ⟨hs,hb⟩:=hk.hh hs hb;⟨_,k,?_⟩))))))
 refine q (qd (ln (eg (qc (sc call32 (h.mono fun e w4 ⟨r6,r7,k,hk,h⟩=>have ⟨hs,hb⟩:=hk.hh hs hb;⟨_,k,?_⟩))))))
 refine q (qd (ln (eg (qc (sc call32 (h.mono fun e w5 ⟨r8,r9,k,hk,h⟩=>have ⟨hs,hb⟩:=hk.hh hs hb;⟨_,k,?_⟩))))))
 refine q (qd (ln (eg (qc (sc call32 (h.mono fun e w6 ⟨r10,r11,k,hk,h⟩=>have ⟨hs,hb⟩:=hk.hh hs hb;⟨_,k,?_⟩))))))
 refine q (qd (ln (eg (qc (sc call33 (h.mono fun e w7 ⟨r12,r13,k,hk,h⟩=>have ⟨hs,hb⟩:=hk.hh hs hb;⟨_,k,?_⟩))))))
 refine q (qd (ln (eg (qb (sc call51 (h.mono fun e w8 ⟨aA,aB,aD,aE,aC,r14,k,hk,h⟩=>have ⟨hs,hb⟩:=hk.hh hs hb;⟨_,k,?_⟩))))))
 refine qc (nw3 (Ag 0 0 0 false) 35 hs hb (zH (zeroValue35 _) rfl) fun p1 w9 H1 hs hb=>sbx 0 (Ac aA aB aD aE aC) (sizeOf35 _) hs hb gZ fun w10 hs hb=>q (ln (eg (q (sc call36 ((p_E1 r7 w10).mono ?_))))))
 rintro e w11 ⟨he,hE⟩
 refine ⟨_,he,?_⟩
 obtain ⟨hs,hb⟩:=hs.pp hb hE
 refine qb (zI 4 (fun ρ wJ=>∃b1'0:Bool,∃HJ:NP,((r7 == 0)=b1'0)∧Hst w0 None w8 HJ wJ∧HB HJ wJ [(p1,(Ac aA aB aD aE aC),35)]∧Has ρ [(1,(vp r1)),(2,(vi r2)),(6,(vi r6)),(11,(vi r11)),(12,(vi r12)),(13,(vi r13)),(14,(vp (some p1))),(15,(vb r14)),(72,(vb (b1'0 && (r9 == 122))))]) ?_ ?_)
 rintro ρ w13 ⟨b1'0,H2,he0,hs,hb,hH⟩
 subst he0
 refine zM hH (q (zI 4 (fun ρ wJ=>∃b2'0:Bool,∃HJ:NP,(((r7 == 0) && (r9 == 122))=b2'0)∧Hst w0 None w8 HJ wJ∧HB HJ wJ [(p1,(Ac aA aB aD aE aC),35)]∧Has ρ [(1,(vp r1)),(2,(vi r2)),(6,(vi r6)),(12,(vi r12)),(13,(vi r13)),(14,(vp (some p1))),(15,(vb r14)),(77,(vb (b2'0 && (r11 == 120))))]) ?_ ?_))
 rintro ρ w16 ⟨b2'0,H3,he0,hs,hb,hH⟩
 subst he0
 refine zM hH (q (zI 4 (fun ρ wJ=>∃b3'0 y1:Bool,∃HJ:NP,((((r7 == 0) && (r9 == 122)) && (r11 == 120))=b3'0)∧(y1=(b3'0 && (r13 == 0)))∧Hst w0 None w8 HJ wJ∧HB HJ wJ [(p1,(Ac aA aB aD aE aC),35)]∧Has ρ [(1,(vp r1)),(2,(vi r2)),(6,(vi r6)),(12,(vi r12)),(14,(vp (some p1))),(15,(vb r14)),(82,(vb y1))]) ?_ ?_))
 rintro ρ w19 ⟨b3'0,y1,H4,he0,hy1,hs,hb,hH⟩
 subst he0
 have h:=h y1 hy1
 refine zM hH (q (zI 2 (fun ρ wJ=>∃b4'0:Bool,∃HJ:NP,(y1=b4'0)∧Hst w0 None w8 HJ wJ∧HB HJ wJ [(p1,(Ac aA aB aD aE aC),35)]∧Has ρ [(1,(vp r1)),(2,(vi r2)),(6,(vi r6)),(12,(vi r12)),(14,(vp (some p1))),(85,(vb (b4'0 && r14)))]) ?_ ?_))
 rintro ρ w21 ⟨b4'0,H5,he0,hs,hb,hH⟩
 subst he0
 refine zM hH (q (zI 4 (fun ρ wJ=>∃b5'0:Bool,∃HJ:NP,((y1 && r14)=b5'0)∧Hst w0 None w8 HJ wJ∧HB HJ wJ [(p1,(Ac aA aB aD aE aC),35)]∧Has ρ [(1,(vp r1)),(2,(vi r2)),(6,(vi r6)),(12,(vi r12)),(14,(vp (some p1))),(90,(vb (b5'0 && (aA == 4))))]) ?_ ?_))
 rintro ρ w22 ⟨b5'0,H6,he0,hs,hb,hH⟩
 subst he0
 refine zM hH (q (zI 4 (fun ρ wJ=>∃b6'0:Bool,∃HJ:NP,(((y1 && r14) && (aA == 4))=b6'0)∧Hst w0 None w8 HJ wJ∧HB HJ wJ [(p1,(Ac aA aB aD aE aC),35)]∧Has ρ [(1,(vp r1)),(2,(vi r2)),(6,(vi r6)),(12,(vi r12)),(95,(vb (b6'0 && (aB == 1))))]) ?_ ?_))
 rintro ρ w23 ⟨b6'0,H7,he0,hs,hb,hH⟩
 subst he0
 refine zM hH (q (zI 4 (fun ρ w=>∃x1,∃H:NP,Has ρ [(1,(vp r1)),(2,(vi r2)),(6,(vi r6)),(12,(vi r12)),(100,(vb x1))]∧Hst w0 H w H w∧HB H w [(p1,(Ac aA aB aD aE aC),35)]∧m_J_j1 r1 r2 r6 r12 x1 H w K) ?_ ?_))
 rintro ρ w ⟨x1,H,hH,hs,hb,h⟩
 refine zM hH (q (zI 5 (fun ρ w=>∃x2,∃H:NP,Has ρ [(1,(vp r1)),(2,(vi r2)),(6,(vi r6)),(12,(vi r12)),(106,(vb x2))]∧Hst w0 H w H w∧HB H w [(p1,(Ac aA aB aD aE aC),35)]∧m_J_j2 r1 r2 r6 r12 x2 H w K) ?_ ?_))
 rintro ρ w ⟨x2,H,hH,hs,hb,h⟩
 refine zM hH (q (zI 5 (fun ρ w=>∃x3,∃H:NP,Has ρ [(1,(vp r1)),(6,(vi r6)),(12,(vi r12)),(112,(vb x3))]∧Hst w0 H w H w∧HB H w [(p1,(Ac aA aB aD aE aC),35)]∧m_J_j3 r1 r6 r12 x3 H w K) ?_ ?_))
 rintro ρ w ⟨x3,H,hH,hs,hb,h⟩
 refine zM hH (q (zI 6 (fun ρ w=>∃x4,∃H:NP,Has ρ [(1,(vp r1)),(12,(vi r12)),(119,(vb x4))]∧Hst w0 H w H w∧HB H w [(p1,(Ac aA aB aD aE aC),35)]∧m_J_j4 r1 r12 x4 H w K) ?_ ?_))
 rintro ρ w ⟨x4,H,hH,hs,hb,h⟩
 refine zM hH (q ?_)
 obtain ⟨hg13,h⟩|⟨hg13,h⟩:=h.br
 refine qk 120 hg13 (qk 120 hg13 (tR (O:=(.cells #[(vi r12)] 78)) (fun p=>(Sl.mk (some p) 1 1).v) (wy 120 hg13) (vL (vs:=#[(0,(vi r12))]) (by kernel_rfl) (by kernel_rfl)) ?_))
 intro p2 w24 hn3
 have h:=h p2 w24 hn3
 obtain ⟨hs,hb⟩:=hs.nw hb hn3
 refine vA (wy 120 hg13) (xc call26) (h.mono ?_)
 rintro e w25 ⟨r15,rfl,hk,h⟩
 refine ⟨_,rfl,?_⟩
 obtain ⟨hs,hb⟩:=hk.hh hs hb
 refine qk 120 hg13 (qk 120 hg13 (q2 (vb (((r15.len:Int):Int) == 3)) (xT hg13) (q (ln (er (rs1 results24 ⟨(((r15.len:Int):Int) == 3),rfl,h⟩))))))
 refine sj 120 hg13 (sj5 120 hg13 (q2 (vb false) (xF hg13) (q (ln (er (rs1 results24 ⟨false,rfl,h⟩))))))
 obtain ⟨hg14,h⟩|⟨hg14,h⟩:=h.br
 refine qk 113 hg14 (qk 113 hg14 (vA (wy 113 hg14) (xc call34) (h.mono ?_)))
 rintro e w26 ⟨r16,rfl,hk,h⟩
 refine ⟨_,rfl,?_⟩
 obtain ⟨hs,hb⟩:=hk.hh hs hb
 refine qk 113 hg14 (qk 113 hg14 (q2 (vb (((r16.len:Int):Int) == 3)) (xT hg14) (zC ⟨(((r16.len:Int):Int) == 3),H,hm,hs,hb,h⟩)))
 refine sj5 113 hg14 (q2 (vb false) (xF hg14) (zC ⟨false,H,hm,hs,hb,h⟩))
 obtain ⟨hg15,h⟩|⟨hg15,h⟩:=h.br
 refine qk 107 hg15 (qk 107 hg15 (vA (wy 107 hg15) (xc call35) (h.mono ?_)))
 rintro e w27 ⟨r17,rfl,hk,h⟩
 refine ⟨_,rfl,?_⟩
 obtain ⟨hs,hb⟩:=hk.hh hs hb
 refine qk 107 hg15 (q2 (vb (r17 == 2)) (xT hg15) (zC ⟨(r17 == 2),H,hm,hs,hb,h⟩))
 refine sj4 107 hg15 (q2 (vb false) (xF hg15) (zC ⟨false,H,hm,hs,hb,h⟩))
 obtain ⟨hg16,h⟩|⟨hg16,h⟩:=h.br
 refine qk 101 hg16 (qk 101 hg16 (vA (wy 101 hg16) (xc call45) (h.mono ?_)))
 rintro e w28 ⟨r18,rfl,hk,h⟩
 refine ⟨_,rfl,?_⟩
 obtain ⟨hs,hb⟩:=hk.hh hs hb
 refine qk 101 hg16 (q2 (vb (!r18)) (xT hg16) (zC ⟨(!r18),H,hm,hs,hb,h⟩))
 refine sj4 101 hg16 (q2 (vb false) (xF hg16) (zC ⟨false,H,hm,hs,hb,h⟩))
 obtain ⟨hg17,h⟩|⟨hg17,h⟩:=h.br
 refine qk 96 hg17 (qk 96 hg17 ?_)
 have ⟨h,hs⟩:=hs.hr (h H7 w23)
 refine vA (wy 96 hg17) (xc call45) (h.mono ?_)
 rintro e w29 ⟨r19,rfl,hk,h⟩
 refine ⟨_,rfl,?_⟩
 obtain ⟨hs,hb⟩:=hk.hh hs hb
 refine q2 (vb r19) (xT hg17) (zC ⟨r19,H7,hm,hs,hb,h⟩)
 refine sj3 96 hg17 (q2 (vb false) (xF hg17) (zC ?_))
 have ⟨h,hs⟩:=hs.hr (h H7 w23)
 exact ⟨false,H7,hm,hs,hb,h⟩
 rcases bte ((y1 && r14) && (aA == 4)) with hg12 | hg12
 refine qk 91 hg12 (q4 91 hg12 (xl (isAgg3 _) (hb.d 0 1 gZ)) (qk 91 hg12 (q2 (vb (aB == 1)) (xT hg12) (zC ⟨true,_,hg12,hs,hb,hm⟩))))
 refine sj3 91 hg12 (q2 (vb false) (xF hg12) (zC ⟨false,_,hg12,hs,hb,hm⟩))
 rcases bte (y1 && r14) with hg10 | hg10
 refine qk 86 hg10 (q4 86 hg10 (xl (isAgg3 _) (hb.d0 0 gZ)) (qk 86 hg10 (q2 (vb (aA == 4)) (xT hg10) (zC ⟨true,_,hg10,hs,hb,hm⟩))))
 refine sj3 86 hg10 (q2 (vb false) (xF hg10) (zC ⟨false,_,hg10,hs,hb,hm⟩))
 rcases bte y1 with hg8 | hg8
 refine qk 83 hg8 (q2 (vb r14) (xT hg8) (zC ⟨true,_,hg8,hs,hb,hm⟩))
 refine sj 83 hg8 (q2 (vb false) (xF hg8) (zC ⟨false,_,hg8,hs,hb,hm⟩))
 rcases bte (((r7 == 0) && (r9 == 122)) && (r11 == 120)) with hg6 | hg6
 refine qk 78 hg6 (vA (wy 78 hg6) (xc call36) ((p_E1 r13 w16).mono ?_))
 rintro e w20 ⟨he,hE⟩
 refine ⟨_,he,?_⟩
 obtain ⟨hs,hb⟩:=hs.pp hb hE
 refine qk 78 hg6 (q2 (vb (r13 == 0)) (xT hg6) (zC ⟨true,_,_,hg6,rfl,hs,hb,hm⟩))
 refine sj3 78 hg6 (q2 (vb false) (xF hg6) (zC ⟨false,_,_,hg6,rfl,hs,hb,hm⟩))
 rcases bte ((r7 == 0) && (r9 == 122)) with hg4 | hg4
 refine qk 73 hg4 (vA (wy 73 hg4) (xc call36) ((p_E1 r11 w13).mono ?_))
 rintro e w17 ⟨he,hE⟩
 refine ⟨_,he,?_⟩
 obtain ⟨hs,hb⟩:=hs.pp hb hE
 refine qk 73 hg4 (q2 (vb (r11 == 120)) (xT hg4) (zC ⟨true,_,hg4,hs,hb,hm⟩))
 refine sj3 73 hg4 (q2 (vb false) (xF hg4) (zC ⟨false,_,hg4,hs,hb,hm⟩))
 rcases bte (r7 == 0) with hg2 | hg2
 refine qk 68 hg2 (vA (wy 68 hg2) (xc call36) ((p_E1 r9 w11).mono ?_))
 rintro e w14 ⟨he,hE⟩
 refine ⟨_,he,?_⟩
 obtain ⟨hs,hb⟩:=hs.pp hb hE
 refine qk 68 hg2 (q2 (vb (r9 == 122)) (xT hg2) (zC ⟨true,_,hg2,hs,hb,hm⟩))
 refine sj3 68 hg2 (q2 (vb false) (xF hg2) (zC ⟨false,_,hg2,hs,hb,hm⟩))
def m_J1_l1 (l1:Sl) (r1:Option Addr) (r2:Option Addr) (i1:Int) (w0:World) (Hl1:NP) (wl1:World) (Kc1:Int→NP→WP) (K:(Option Addr)→(Option Addr)→Bool→WP):Prop :=Br (decide (i1<(l1.len:Int))) (∃a1:Addr,At l1 i1 6 a1∧∃aK aV aW aX aM aY,Row wl1 a1 (Ab aK aV aW aX aM aY)∧Calls prog 77 #[(vp r1),(.agg #[(vi aK),(vi aV),(vi aW),(vu aX),(vs aM),aY.v])] wl1 (fun e w3=>∃r3 r4,e=.returned (.tuple #[(vi r3),(vi r4)])∧Kept Hl1 wl1 w3∧∃a2:Addr,At l1 i1 6 a2∧∃cZ dA dB dC dD dE,Row w3 a2 (Ab cZ dA dB dC dD dE)∧Calls prog 78 #[(vp r2),(.agg #[(vi cZ),(vi dA),(vi dB),(vu dC),(vs dD),dE.v])] w3 (fun e w4=>∃r5 r6,e=.returned (.tuple #[(vi r5),(vi r6)])∧Kept Hl1 w3 w4∧Br ((r4 != r6) || (r3 != r5)) (∀H1 w6,Hst w0 Hl1 w4 H1 w6→K none none false w6) (∀H1 w6,Hst w0 Hl1 w4 H1 w6→Kc1 (q6.wrap (i1+1)) H1 w6)))) (K r1 r2 true wl1)
def m_J1 (l1:Sl) (w0:World) (K:(Option Addr)→(Option Addr)→Bool→WP):Prop :=Calls prog 61 #[] w0 (fun e w1=>∃r1,e=.returned (vp r1)∧Kept None w0 w1∧Calls prog 63 #[] w1 (fun e w2=>∃r2,e=.returned (vp r2)∧Kept None w1 w2∧Br (Option.isNone r1) (K none none false w2) (∃(I1:Int→NP→WP) (mu1:Int→World→Nat),I1 0 None w2∧∀(i1:Int) (Hl1:NP) (wl1:World),Hst w0 Hl1 wl1 Hl1 wl1→I1 i1 Hl1 wl1→m_J1_l1 l1 r1 r2 i1 w0 Hl1 wl1 (fun y'0 H' w'=>I1 y'0 H' w'∧mu1 y'0 w'<mu1 i1 wl1) K)))
theorem w_J1 (l1 w0 K) (h:m_J1 l1 w0 K):
  Calls prog 25 #[l1.v] w0 (fun e w'=>∃r7 r8 r9,e=.returned (.tuple #[(vp r7),(vp r8),(vb r9)])∧K r7 r8 r9 w'):=by
 refine cw (args:=[l1.v]) func25 ntmps25 ?_
 obtain ⟨hs,hb⟩:=st0 w0
 refine eg (qc (ln (eg (sc call61 (h.mono fun e w1 ⟨r1,k,hk,h⟩=>have ⟨hs,hb⟩:=hk.hh hs hb;⟨_,k,?_⟩)))))
 refine q (ln (eg (sc call63 (h.mono fun e w2 ⟨r2,k,hk,h⟩=>have ⟨hs,hb⟩:=hk.hh hs hb;⟨_,k,?_⟩))))
 refine q (ln (zA (eg (q (q2 (vb (Option.isNone r1)) (tI (by kernel_rfl) rfl underlying68) (ln (cbr h ?_ ?_)))))))<;>intro h
 refine eg (qc (ln (er (zX (jPC (.inl rfl) results25 (v:=(vp none)) (by kernel_rfl) (v':=(vp none)) (by kernel_rfl) (v'':=(vb false)) (by kernel_rfl) ⟨none,none,false,rfl,h⟩)))))
 refine zB (zL (zA (eg (q (ln (zK ?_))))))
 obtain ⟨I1,mu1,h0,hr⟩:=h
 refine vQ (σ:=Int×NP×World) (fun s ρ w=>w=s.2.2∧Has ρ [(0,l1.v),(5,(vp r1)),(6,(vp r2)),(7,(vi s.1))]∧Hst w0 s.2.1 w s.2.1 w∧HB s.2.1 w []∧I1 s.1 s.2.1 s.2.2) (fun s=>mu1 s.1 s.2.2) (0,None,w2) ⟨rfl,hm,hs,hb,h0⟩ ?_
 rintro ⟨i1,Hl1,wl1⟩ ρ w ⟨hw,hH,hs,hb,hI⟩
 dsimp only at hw hH hs hb;subst w
 have h:=hr i1 Hl1 wl1 hs hI
 refine zV hH (zA (eg (qd (ln (cbr h ?_ ?_)))))<;>intro h
 refine zB (zL (zA (zK (eg (qc (qi (runUnderlying66 _) (sizeOf107 _) h fun a1 h=>?_))))))
 obtain ⟨aK,aV,aW,aX,aM,aY,hv3,h⟩:=h
 refine qa (isAgg107 _) (sizeOf107 _) hv3 (sc call77 (h.mono fun e w3 ⟨r3,r4,k,hk,h⟩=>have ⟨hs,hb⟩:=hk.hh hs hb;⟨_,k,?_⟩))
 refine q (qd (ln (eg (qc (qi (runUnderlying66 _) (sizeOf107 _) h fun a2 h=>?_)))))
 obtain ⟨cZ,dA,dB,dC,dD,dE,hv1,h⟩:=h
 refine qa (isAgg107 _) (sizeOf107 _) hv1 (sc call78 (h.mono fun e w4 ⟨r5,r6,k,hk,h⟩=>have ⟨hs,hb⟩:=hk.hh hs hb;⟨_,k,?_⟩))
 refine q (qd (ln (zA (vN (fun ρ wJ=>∃b1'0:Bool,∃HJ:NP,((r4 != r6)=b1'0)∧Hst w0 Hl1 w4 HJ wJ∧HB HJ wJ []∧Has ρ [(0,l1.v),(5,(vp r1)),(6,(vp r2)),(7,(vi i1)),(48,(vb (b1'0 || (r3 != r5))))]) ?_ ?_))))
 refine rg (q (sc call36 ((p_E1 r4 w4).mono ?_)))
 rintro e w7 ⟨he,hE⟩
 refine ⟨_,he,?_⟩
 obtain ⟨hs,hb⟩:=hs.pp hb hE
 refine qc ?_
 rcases bte (r4 != r6) with hg2 | hg2
 refine sj3 44 hg2 (q2 (vb true) (xT hg2) (ln ⟨true,_,hg2,hs,hb,hm⟩))
 refine qk 44 hg2 (qk 44 hg2 (qk 44 hg2 (q2 (vb (r3 != r5)) (xF hg2) (ln ⟨false,_,hg2,hs,hb,hm⟩))))
 rintro ρ w6 ⟨b1'0,H1,he0,hs,hb,hH⟩
 subst he0
 refine vE hH (zL (cbr h ?_ ?_))<;>intro h
 refine eg (qc (ln (er (qW (zX (zX (qW (zX ?_))))))))
 have ⟨h,hs⟩:=hs.hr (h H1 w6)
 refine jPC (.inl rfl) results25 (v:=(vp none)) (by kernel_rfl) (v':=(vp none)) (by kernel_rfl) (v'':=(vb false)) (by kernel_rfl) ⟨none,none,false,rfl,h⟩
 refine zB (uM (zL (rg (qc (zC ?_)))))
 have ⟨h,hs⟩:=hs.hr (h H1 w6)
 refine zL ⟨((q6.wrap (i1+1)),H1,w6),⟨rfl,hm,hs,hb,h.1⟩,h.2⟩
 refine vO (uI (uI (uD (zL (eg (q0 (vp r1) (q0 (vp r2) (q0 (vp r1) (q0 (vp r2) (q0 (vb true) (ln (er (jPC (.inl rfl) results25 (v:=(vp r1)) (by kernel_rfl) (v':=(vp r2)) (by kernel_rfl) (v'':=(vb true)) (by kernel_rfl) ⟨r1,r2,true,rfl,h⟩)))))))))))))
def m_P3 (bG bH bI:Int) (bJ:ByteArray) (bK bL bM:Int) (bN:ByteArray) (w0:World) (K:Int→WP):Prop :=∀H2 w2,Hst w0 None w0 H2 w2→∃C1:WP,C1 w2.drew∧∀w3,w3=w2.drew→Calls prog 84 #[(vu bI),(vu bM)] w3 (fun e w4=>∃r1,e=.returned (vi r1)∧C1 w4∧Kept H2 w3 w4∧Calls prog 85 #[(vi bG),(vi bK)] w4 (fun e w5=>∃r2,e=.returned (vi r2)∧C1 w5∧Kept H2 w4 w5∧Calls prog 85 #[(vi bH),(vi bL)] w5 (fun e w6=>∃r3,e=.returned (vi r3)∧C1 w6∧Kept H2 w5 w6∧Calls prog 86 #[(vs bJ),(vs bN)] w6 (fun e w7=>∃r4,e=.returned (vi r4)∧C1 w7∧Kept H2 w6 w7∧∀p3 w8,New w7 (.cells #[(vi r1),(vi r2),(vi r3),(vi r4)] 3) p3 w8→C1 w8∧Calls prog 83 #[(Sl.mk (some p3) 4 4).v] w8 (fun e w9=>∃r5,e=.returned (vi r5)∧C1 w9∧Kept H2 w8 w9∧K r5 w9)))))
theorem w_P3 (bG bH bI bJ bK bL bM bN w0 K) (h:m_P3 bG bH bI bJ bK bL bM bN w0 K):
  Calls prog 28 #[(.agg #[(vi bG),(vi bH),(vu bI),(vs bJ)]),(.agg #[(vi bK),(vi bL),(vu bM),(vs bN)])] w0 (fun e w'=>∃r6,e=.returned (vi r6)∧K r6 w'):=by
 refine cw (args:=[(Aj bG bH bI bJ),(Aj bK bL bM bN)]) func28 ntmps28 ?_
 obtain ⟨hs,hb⟩:=st0 w0
 refine eg (nw3 (Ak bG bH bI bJ) 75 hs hb xb fun p1 w1 H1 hs hb=>nw3 (Ak bK bL bM bN) 75 hs hb xb fun p2 w2 H2 hs hb=>q (ln (zA ?_)))
 have ⟨h,hs⟩:=hs.hr (h H2 w2)
 obtain ⟨C1,hC,h⟩:=h
 refine dr2 (fun x=>C1 x∧HB H2 x _) [4,9,14,19,20,21] [] ⟨hC,hb.drew⟩ h hs hb fun w3 hs hb h=>?_
 have hs:=hs.here
 refine qx 0 (vp (some (p1.add 2))) Kp0 (qz 1 (vu bI) Kp1 (fun w' hw'=>(xl (isAgg23 _) (hw'.2.cell 1 2 (gS gZ) (by kernel_rfl)))) (qx 2 (vp (some (p2.add 2))) Kp2 (qz 3 (vu bM) Kp3 (fun w' hw'=>(xl (isAgg23 _) (hw'.2.cell 0 2 gZ (by kernel_rfl)))) (qx 5 (vp (some p1)) Kp5 (qz 6 (vi bG) Kp6 (fun w' hw'=>(xl (isAgg3 _) (hw'.2.cell0 1 (gS gZ) (by kernel_rfl)))) (qx 7 (vp (some p2)) Kp7 (qz 8 (vi bK) Kp8 (fun w' hw'=>(xl (isAgg3 _) (hw'.2.cell0 0 gZ (by kernel_rfl)))) (qx 10 (vp (some (p1.add 1))) (zO (S8 (zG (zG zN)))) (qz 11 (vi bH) (zO (S8 (zG (zG (zG zN))))) (fun w' hw'=>(xl (isAgg3 _) (hw'.2.cell 1 1 (gS gZ) (by kernel_rfl)))) (qx 12 (vp (some (p2.add 1))) (zO (S8 (S4 zN))) (qz 13 (vi bL) (zO (S8 (S4 (zG zN)))) (fun w' hw'=>(xl (isAgg3 _) (hw'.2.cell 0 1 gZ (by kernel_rfl)))) (qx 15 (vp (some (p1.add 3))) (zO (S8 (S4 (zG (zG (zG zN)))))) (qz 16 (vs bJ) (zO (S8 (S8 zN))) (fun w' hw'=>(xl (isAgg9 _) (hw'.2.cell 1 3 (gS gZ) (by kernel_rfl)))) (qx 17 (vp (some (p2.add 3))) (zO (S8 (S8 (zG zN)))) (qz 18 (vs bN) (zO (S8 (S8 (zG (zG zN))))) (fun w' hw'=>(xl (isAgg9 _) (hw'.2.cell 0 3 gZ (by kernel_rfl)))) (lg 4 ?_))))))))))))))))
 refine slc Kp4 call84 (h.mono ?_)
 rintro e w4 ⟨r1,rfl,hC,hk,h⟩
 refine ⟨_,rfl,.inr ⟨hC,hb.kept hk⟩,?_⟩
 obtain ⟨hs,hb⟩:=hk.hh hs hb
 refine lg 9 (slc Kp9 call85 (h.mono ?_))
 rintro e w5 ⟨r2,rfl,hC,hk,h⟩
 refine ⟨_,rfl,.inr ⟨hC,hb.kept hk⟩,?_⟩
 obtain ⟨hs,hb⟩:=hk.hh hs hb
 refine lg 14 (slc (zO (S8 (S4 (zG (zG zN))))) call85 (h.mono ?_))
 rintro e w6 ⟨r3,rfl,hC,hk,h⟩
 refine ⟨_,rfl,.inr ⟨hC,hb.kept hk⟩,?_⟩
 obtain ⟨hs,hb⟩:=hk.hh hs hb
 refine lg 19 (slc (zO (S8 (S8 (zG (zG (zG zN)))))) call86 (h.mono ?_))
 rintro e w7 ⟨r4,rfl,hC,hk,h⟩
 refine ⟨_,rfl,.inr ⟨hC,hb.kept hk⟩,?_⟩
 obtain ⟨hs,hb⟩:=hk.hh hs hb
 refine lg 20 (qL (O:=(.cells #[(vi r1),(vi r2),(vi r3),(vi r4)] 3)) (fun p=>(Sl.mk (some p) 4 4).v) (zO (S8 (S8 (S4 zN)))) (zR rfl) (by kernel_rfl) (vL (vs:=#[(0,(vi r1)),(1,(vi r2)),(2,(vi r3)),(3,(vi r4))]) (by kernel_rfl) (by kernel_rfl)) ?_)
 intro p3 w8 hn3
 have h:=h p3 w8 hn3
 refine ⟨.inr ⟨h.1,hb.kept (Ext.new (F:=None) hn3).keptP⟩,?_⟩
 have h:=h.2
 obtain ⟨hs,hb⟩:=hs.nw hb hn3
 refine lg 21 (slc (zO (S8 (S8 (S4 (zG zN))))) call83 (h.mono ?_))
 rintro e w9 ⟨r5,rfl,hC,hk,h⟩
 refine ⟨_,rfl,.inr ⟨hC,hb.kept hk⟩,?_⟩
 obtain ⟨hs,hb⟩:=hk.hh hs hb
 refine qx 22 (vi r5) (zO (S8 (S8 (S4 (zG (zG zN)))))) (wn (zL (er (rs1 results28 ⟨r5,rfl,h⟩))))
def m_Z_j1 (p1:Option Addr) (a1 b1:Int) (fakes1 x1:Bool) (w0:World) (H:NP) (w:World) (K:Int→Int→Int→ByteArray→Bool→Int→WP):Prop :=Br x1 (∀w2,Hst w0 H w H w2→K 0 0 0 ⟨#[]⟩ false 51 w2) (Calls prog 42 #[(vp p1),(vi a1)] w (fun e w3=>∃aA aB aD aE aC r1,e=.returned (.tuple #[(Af aA aB aD aE aC),(vb r1)])∧Kept H w w3∧∀H2 w5,Hst w0 H w3 H2 w5→Calls prog 42 #[(vp p1),(vi b1)] w5 (fun e w6=>∃aJ aF aH aI aG r2,e=.returned (.tuple #[(Af aJ aF aH aI aG),(vb r2)])∧Kept H2 w5 w6∧Br ((((!r1) || (!r2)) || (aA != 1)) || (aJ != 1)) (∀H6 w14,Hst w0 H2 w6 H6 w14→K 0 0 0 ⟨#[]⟩ false 120 w14) (Br ((!fakes1) && (aC || aG)) (∀H10 w18,Hst w0 H2 w6 H10 w18→K 0 0 0 ⟨#[]⟩ false 121 w18) (∀y1:Bool,y1=((((aB != 0) || (aF != 1)) || (aD != aH)) || (!(decide (aE=aI))))→Br y1 (∀H14 w24,Hst w0 H2 w6 H14 w24→K 0 0 0 ⟨#[]⟩ false 122 w24) (∀H14 w25,Hst w0 H2 w6 H14 w25→K aA aB aD aE aC 0 w25))))))
def m_Z (p1:Option Addr) (a1 b1:Int) (fakes1:Bool) (w0:World) (K:Int→Int→Int→ByteArray→Bool→Int→WP):Prop :=∀H1 w1,Hst w0 None w0 H1 w1→Calls prog 87 #[(vp p1),(vi a1)] w1 (fun e w26=>∃r3,e=.returned (vb r3)∧Kept H1 w1 w26∧Br (!r3) (m_Z_j1 p1 a1 b1 fakes1 true w0 H1 w26 K) (Calls prog 87 #[(vp p1),(vi b1)] w26 (fun e w27=>∃r4,e=.returned (vb r4)∧Kept H1 w26 w27∧m_Z_j1 p1 a1 b1 fakes1 (!r4) w0 H1 w27 K)))
theorem w_Z (p1 a1 b1 fakes1 w0 K) (h:m_Z p1 a1 b1 fakes1 w0 K):
  Calls prog 100 #[(vp p1),(vi a1),(vi b1),(vb fakes1)] w0 (fun e w'=>∃aR aU aZ aS cA r5,e=.returned (.tuple #[(Af aR aU aZ aS cA),(vi r5)])∧K aR aU aZ aS cA r5 w'):=by
 refine cw (args:=[(vp p1),(vi a1),(vi b1),(vb fakes1)]) func100 ntmps100 ?_
 obtain ⟨hs,hb⟩:=st0 w0
 refine eg (nw3 (Ag 0 0 0 false) 35 hs hb (zH (zeroValue35 _) rfl) fun p2 w1 H1 hs hb=>q (ln (zA (zA (qT (fun ρ w=>∃x1,∃H:NP,Has ρ [(0,(vp p1)),(1,(vi a1)),(2,(vi b1)),(3,(vb fakes1)),(8,(vp (some p2))),(23,(vb x1))]∧Hst w0 H w H w∧HB H w [(p2,(Ag 0 0 0 false),35)]∧m_Z_j1 p1 a1 b1 fakes1 x1 w0 H w K) ?_ ?_)))))
 rintro ρ w ⟨x1,H,hH,hs,hb,h⟩
 refine zV hH (cbr h ?_ ?_)<;>intro h
 refine eg (q (vU (zR rfl) (xo p2 (Ag 0 0 0 false) (sizeOf35 _) (hb.k0 0 5 gZ)) ?_))
 intro w2 hn2
 obtain ⟨hs,hb⟩:=hb.st1 0 hs hn2 gZ
 refine q (ln (er (zX ?_)))
 have ⟨h,hs⟩:=hs.hr (h w2)
 refine tH (.inl rfl) (vs:=[(Ah 0 0 0 false),(vi 51)]) (v:=(.tuple #[(Ah 0 0 0 false),(vi 51)])) results100 ⟨(rva (isAgg35 _) (sizeOf35 _) (hb.r0 0 5 gZ)),(rvT (by kernel_rfl)),trivial⟩ (by kernel_rfl) ⟨0,0,0,⟨#[]⟩,false,51,rfl,h⟩
 refine zB (zL (eg (qb (sc call42 (h.mono fun e w3 ⟨aA,aB,aD,aE,aC,r1,k,hk,h⟩=>have ⟨hs,hb⟩:=hk.hh hs hb;⟨_,k,?_⟩)))))
 refine qc (nw3 (Ag 0 0 0 false) 35 hs hb (zH (zeroValue35 _) rfl) fun p3 w4 H2 hs hb=>sbx 0 (Ac aA aB aD aE aC) (sizeOf35 _) hs hb gZ fun w5 hs hb=>q (ln (eg (qb ?_))))
 have ⟨h,hs⟩:=hs.hr (h H2 w5)
 refine sc call42 (h.mono fun e w6 ⟨aJ,aF,aH,aI,aG,r2,k,hk,h⟩=>have ⟨hs,hb⟩:=hk.hh hs hb;⟨_,k,?_⟩)
 refine qc (nw3 (Ag 0 0 0 false) 35 hs hb (zH (zeroValue35 _) rfl) fun p4 w7 H3 hs hb=>sbx 0 (Ac aJ aF aH aI aG) (sizeOf35 _) hs hb gZ fun w8 hs hb=>q (ln (zA (zA (vN (fun ρ wJ=>∃b4'0:Bool,∃HJ:NP,((((!r1) || (!r2)) || (aA != 1))=b4'0)∧Hst w0 H2 w6 HJ wJ∧HB HJ wJ [(p4,(Ac aJ aF aH aI aG),35),(p3,(Ac aA aB aD aE aC),35),(p2,(Ag 0 0 0 false),35)]∧Has ρ [(3,(vb fakes1)),(8,(vp (some p2))),(10,(vp (some p3))),(12,(vp (some p4))),(52,(vb (b4'0 || (aJ != 1))))]) ?_ ?_)))))
 refine rg (qc (zI 3 (fun ρ wJ=>∃b5'0:Bool,∃HJ:NP,((!r1)=b5'0)∧Hst w0 H2 w6 HJ wJ∧HB HJ wJ [(p4,(Ac aJ aF aH aI aG),35),(p3,(Ac aA aB aD aE aC),35),(p2,(Ag 0 0 0 false),35)]∧Has ρ [(3,(vb fakes1)),(8,(vp (some p2))),(10,(vp (some p3))),(12,(vp (some p4))),(42,(vb (b5'0 || (!r2))))]) ?_ ?_))
 rintro ρ w12 ⟨b5'0,H7,he0,hs,hb,hH⟩
 subst he0
 refine zM hH (q (zI 4 (fun ρ wJ=>∃b6'0:Bool,∃HJ:NP,(((!r1) || (!r2))=b6'0)∧Hst w0 H2 w6 HJ wJ∧HB HJ wJ [(p4,(Ac aJ aF aH aI aG),35),(p3,(Ac aA aB aD aE aC),35),(p2,(Ag 0 0 0 false),35)]∧Has ρ [(3,(vb fakes1)),(8,(vp (some p2))),(10,(vp (some p3))),(12,(vp (some p4))),(47,(vb (b6'0 || (aA != 1))))]) ?_ ?_))
 rintro ρ w13 ⟨b6'0,H8,he0,hs,hb,hH⟩
 subst he0
 refine zM hH (q ?_)
 rcases bte (((!r1) || (!r2)) || (aA != 1)) with hg10 | hg10
 refine sj3 48 hg10 (q2 (vb true) (xT hg10) (ln ⟨true,_,hg10,hs,hb,hm⟩))
 refine qk 48 hg10 (q4 48 hg10 (xl (isAgg3 _) (hb.d0 0 gZ)) (qk 48 hg10 (q2 (vb (aJ != 1)) (xF hg10) (ln ⟨false,_,hg10,hs,hb,hm⟩))))
 rcases bte ((!r1) || (!r2)) with hg9 | hg9
 refine sj3 43 hg9 (q2 (vb true) (xT hg9) (zC ⟨true,_,hg9,hs,hb,hm⟩))
 refine qk 43 hg9 (q4 43 hg9 (xl (isAgg3 _) (hb.d0 1 (gS gZ))) (qk 43 hg9 (q2 (vb (aA != 1)) (xF hg9) (zC ⟨false,_,hg9,hs,hb,hm⟩))))
 rcases bte (!r1) with hg7 | hg7
 refine sj2 39 hg7 (q2 (vb true) (xT hg7) (zC ⟨true,_,hg7,hs,hb,hm⟩))
 refine qk 39 hg7 (qk 39 hg7 (q2 (vb (!r2)) (xF hg7) (zC ⟨false,_,hg7,hs,hb,hm⟩)))
 rintro ρ w11 ⟨b4'0,H6,he0,hs,hb,hH⟩
 subst he0
 refine vE hH (zL (cbr h ?_ ?_))<;>intro h
 refine eg (q (vU (zR rfl) (xo p2 (Ag 0 0 0 false) (sizeOf35 _) (hb.k0 2 5 (gS (gS gZ)))) ?_))
 intro w14 hn7
 obtain ⟨hs,hb⟩:=hb.st1 2 hs hn7 (gS (gS gZ))
 refine q (ln (er (zX ?_)))
 have ⟨h,hs⟩:=hs.hr (h H6 w14)
 refine tH (.inl rfl) (vs:=[(Ah 0 0 0 false),(vi 120)]) (v:=(.tuple #[(Ah 0 0 0 false),(vi 120)])) results100 ⟨(rva (isAgg35 _) (sizeOf35 _) (hb.r0 2 5 (gS (gS gZ)))),(rvT (by kernel_rfl)),trivial⟩ (by kernel_rfl) ⟨0,0,0,⟨#[]⟩,false,120,rfl,h⟩
 refine zB (zL (zA (zA (vN (fun ρ wJ=>∃b8'0:Bool,∃HJ:NP,((!fakes1)=b8'0)∧Hst w0 H2 w6 HJ wJ∧HB HJ wJ [(p4,(Ac aJ aF aH aI aG),35),(p3,(Ac aA aB aD aE aC),35),(p2,(Ag 0 0 0 false),35)]∧Has ρ [(8,(vp (some p2))),(10,(vp (some p3))),(12,(vp (some p4))),(63,(vb (b8'0 && (aC || aG))))]) ?_ ?_))))
 refine rg (qc ?_)
 rcases bte (!fakes1) with hg14 | hg14
 refine qk 56 hg14 (q4 56 hg14 (xl (isAgg4 _) (hb.d 1 4 (gS gZ))) (qk 56 hg14 (zI 3 (fun ρ wJ=>∃b9'0:Bool,∃HJ:NP,(aC=b9'0)∧Hst w0 H2 w6 HJ wJ∧HB HJ wJ [(p4,(Ac aJ aF aH aI aG),35),(p3,(Ac aA aB aD aE aC),35),(p2,(Ag 0 0 0 false),35)]∧Has ρ [(8,(vp (some p2))),(10,(vp (some p3))),(12,(vp (some p4))),(56,(vb (!fakes1))),(62,(vb (b9'0 || aG)))]) ?_ ?_)))
 rintro ρ w17 ⟨b9'0,H11,he0,hs,hb,hH⟩
 subst he0
 refine zM hH (q2 (vb (aC || aG)) (xT hg14) (ln ⟨true,_,hg14,hs,hb,hm⟩))
 rcases bte aC with hg16 | hg16
 refine sj2 59 hg16 (stq (v:=(vb true)) (wy 56 hg14) (xT hg16) (zC ⟨true,_,hg16,hs,hb,hm⟩))
 refine qk 59 hg16 (q4 59 hg16 (xl (isAgg4 _) (hb.d 0 4 gZ)) (stq (v:=(vb aG)) (wy 56 hg14) (xF hg16) (zC ⟨false,_,hg16,hs,hb,hm⟩)))
 refine sj3 56 hg14 (sm (sm (sj 56 hg14 (q2 (vb false) (xF hg14) (ln ⟨false,_,hg14,hs,hb,hm⟩)))))
 rintro ρ w16 ⟨b8'0,H10,he0,hs,hb,hH⟩
 subst he0
 refine vE hH (zL (cbr h ?_ ?_))<;>intro h
 refine eg (q (vU (zR rfl) (xo p2 (Ag 0 0 0 false) (sizeOf35 _) (hb.k0 2 5 (gS (gS gZ)))) ?_))
 intro w18 hn8
 obtain ⟨hs,hb⟩:=hb.st1 2 hs hn8 (gS (gS gZ))
 refine q (ln (er (zX ?_)))
 have ⟨h,hs⟩:=hs.hr (h H10 w18)
 refine tH (.inl rfl) (vs:=[(Ah 0 0 0 false),(vi 121)]) (v:=(.tuple #[(Ah 0 0 0 false),(vi 121)])) results100 ⟨(rva (isAgg35 _) (sizeOf35 _) (hb.r0 2 5 (gS (gS gZ)))),(rvT (by kernel_rfl)),trivial⟩ (by kernel_rfl) ⟨0,0,0,⟨#[]⟩,false,121,rfl,h⟩
 refine zB (zL (zA (zA (vN (fun ρ wJ=>∃b12'0 y1:Bool,∃HJ:NP,((((aB != 0) || (aF != 1)) || (aD != aH))=b12'0)∧(y1=(b12'0 || (!(decide (aE=aI)))))∧Hst w0 H2 w6 HJ wJ∧HB HJ wJ [(p4,(Ac aJ aF aH aI aG),35),(p3,(Ac aA aB aD aE aC),35),(p2,(Ag 0 0 0 false),35)]∧Has ρ [(8,(vp (some p2))),(10,(vp (some p3))),(86,(vb y1))]) ?_ ?_))))
 refine rg (q (q3 (xl (isAgg3 _) (hb.d 1 1 (gS gZ))) (qb (zI 4 (fun ρ wJ=>∃b13'0:Bool,∃HJ:NP,((aB != 0)=b13'0)∧Hst w0 H2 w6 HJ wJ∧HB HJ wJ [(p4,(Ac aJ aF aH aI aG),35),(p3,(Ac aA aB aD aE aC),35),(p2,(Ag 0 0 0 false),35)]∧Has ρ [(8,(vp (some p2))),(10,(vp (some p3))),(12,(vp (some p4))),(72,(vb (b13'0 || (aF != 1))))]) ?_ ?_))))
 rintro ρ w22 ⟨b13'0,H15,he0,hs,hb,hH⟩
 subst he0
 refine zM hH (q (zI 6 (fun ρ wJ=>∃b14'0:Bool,∃HJ:NP,(((aB != 0) || (aF != 1))=b14'0)∧Hst w0 H2 w6 HJ wJ∧HB HJ wJ [(p4,(Ac aJ aF aH aI aG),35),(p3,(Ac aA aB aD aE aC),35),(p2,(Ag 0 0 0 false),35)]∧Has ρ [(8,(vp (some p2))),(10,(vp (some p3))),(12,(vp (some p4))),(79,(vb (b14'0 || (aD != aH))))]) ?_ ?_))
 rintro ρ w23 ⟨b14'0,H16,he0,hs,hb,hH⟩
 subst he0
 refine zM hH (q ?_)
 rcases bte (((aB != 0) || (aF != 1)) || (aD != aH)) with hg26 | hg26
 refine sj5 80 hg26 (q2 (vb true) (xT hg26) (ln ⟨true,_,_,hg26,rfl,hs,hb,hm⟩))
 refine qk 80 hg26 (q4 80 hg26 (xl (isAgg9 _) (hb.d 1 3 (gS gZ))) (qk 80 hg26 (q4 80 hg26 (xl (isAgg9 _) (hb.d 0 3 gZ)) (stq (v:=(vb (!(decide (aE=aI))))) (wy 80 hg26) (uE (by kernel_rfl) (by kernel_rfl)) (q2 (vb (!(decide (aE=aI)))) (xF hg26) (ln ⟨false,_,_,hg26,rfl,hs,hb,hm⟩))))))
 rcases bte ((aB != 0) || (aF != 1)) with hg25 | hg25
 refine sj5 73 hg25 (q2 (vb true) (xT hg25) (zC ⟨true,_,hg25,hs,hb,hm⟩))
 refine qk 73 hg25 (q4 73 hg25 (xl (isAgg23 _) (hb.d 1 2 (gS gZ))) (qk 73 hg25 (q4 73 hg25 (xl (isAgg23 _) (hb.d 0 2 gZ)) (qk 73 hg25 (q2 (vb (aD != aH)) (xF hg25) (zC ⟨false,_,hg25,hs,hb,hm⟩))))))
 rcases bte (aB != 0) with hg23 | hg23
 refine sj3 68 hg23 (q2 (vb true) (xT hg23) (zC ⟨true,_,hg23,hs,hb,hm⟩))
 refine qk 68 hg23 (q4 68 hg23 (xl (isAgg3 _) (hb.d 0 1 gZ)) (qk 68 hg23 (q2 (vb (aF != 1)) (xF hg23) (zC ⟨false,_,hg23,hs,hb,hm⟩))))
 rintro ρ w21 ⟨b12'0,y1,H14,he0,hy1,hs,hb,hH⟩
 subst he0
 have h:=h y1 hy1
 refine vE hH (zL (cbr h ?_ ?_))<;>intro h
 refine eg (q (vU (zR rfl) (xo p2 (Ag 0 0 0 false) (sizeOf35 _) (hb.k0 2 5 (gS (gS gZ)))) ?_))
 intro w24 hn9
 obtain ⟨hs,hb⟩:=hb.st1 2 hs hn9 (gS (gS gZ))
 refine q (ln (er (zX ?_)))
 have ⟨h,hs⟩:=hs.hr (h H14 w24)
 refine tH (.inl rfl) (vs:=[(Ah 0 0 0 false),(vi 122)]) (v:=(.tuple #[(Ah 0 0 0 false),(vi 122)])) results100 ⟨(rva (isAgg35 _) (sizeOf35 _) (hb.r0 2 5 (gS (gS gZ)))),(rvT (by kernel_rfl)),trivial⟩ (by kernel_rfl) ⟨0,0,0,⟨#[]⟩,false,122,rfl,h⟩
 refine zB (zL (eg (q2 (Af aA aB aD aE aC) (xa p3 (Ac aA aB aD aE aC) (isAgg35 _) (sizeOf35 _) (hb.r0 1 5 (gS gZ))) (vU (zR rfl) (xo p2 (Ac aA aB aD aE aC) (sizeOf35 _) (hb.k0 2 5 (gS (gS gZ)))) ?_))))
 intro w25 hn10
 obtain ⟨hs,hb⟩:=hb.st1 2 hs hn10 (gS (gS gZ))
 refine q (ln (er ?_))
 have ⟨h,hs⟩:=hs.hr (h H14 w25)
 refine tH (.inl rfl) (vs:=[(Af aA aB aD aE aC),(vi 0)]) (v:=(.tuple #[(Af aA aB aD aE aC),(vi 0)])) results100 ⟨(rva (isAgg35 _) (sizeOf35 _) (hb.r0 2 5 (gS (gS gZ)))),(rvT (by kernel_rfl)),trivial⟩ (by kernel_rfl) ⟨aA,aB,aD,aE,aC,0,rfl,h⟩
 refine rg (qb ?_)
 have ⟨h,hs⟩:=hs.hr (h H1 w1)
 refine sc call87 (h.mono fun e w26 ⟨r3,k,hk,h⟩=>have ⟨hs,hb⟩:=hk.hh hs hb;⟨_,k,?_⟩)
 refine qb ?_
 obtain ⟨hg27,h⟩|⟨hg27,h⟩:=h.br
 refine sj4 18 hg27 (q2 (vb true) (xT hg27) (ln ⟨true,H1,hm,hs,hb,h⟩))
 refine qk 18 hg27 (qk 18 hg27 (vA (wy 18 hg27) (xc call87) (h.mono ?_)))
 rintro e w27 ⟨r4,rfl,hk,h⟩
 refine ⟨_,rfl,?_⟩
 obtain ⟨hs,hb⟩:=hk.hh hs hb
 refine qk 18 hg27 (q2 (vb (!r4)) (xF hg27) (ln ⟨(!r4),H1,hm,hs,hb,h⟩))
def m_Q3 (p1:Option Addr) (a1 b1:Int) (w0:World) (K:Int→Int→WP):Prop :=Calls prog 100 #[(vp p1),(vi a1),(vi b1),(vb false)] w0 (fun e w1=>∃aA aB aD aE aC r1,e=.returned (.tuple #[(Af aA aB aD aE aC),(vi r1)])∧Kept None w0 w1∧Br (r1 != 0) (∀H1 w3,Hst w0 None w1 H1 w3→K 0 r1 w3) (∀H1 w3,Hst w0 None w1 H1 w3→Calls prog 101 #[(vp p1),(.agg #[(vi 6),(vi 0),(vu aD),(vs aE),(vb false)])] w3 (fun e w4=>∃r2 r3,e=.returned (.tuple #[(vi r2),(vi r3)])∧Kept H1 w3 w4∧K r2 r3 w4)))
theorem w_Q3 (p1 a1 b1 w0 K) (h:m_Q3 p1 a1 b1 w0 K):
  Calls prog 46 #[(vp p1),(vi a1),(vi b1)] w0 (fun e w'=>∃r4 r5,e=.returned (.tuple #[(vi r4),(vi r5)])∧K r4 r5 w'):=by
 refine cw (args:=[(vp p1),(vi a1),(vi b1)]) func46 ntmps46 ?_
 obtain ⟨hs,hb⟩:=st0 w0
 refine eg (qb (ln (eg (qc (sc call100 (h.mono fun e w1 ⟨aA,aB,aD,aE,aC,r1,k,hk,h⟩=>have ⟨hs,hb⟩:=hk.hh hs hb;⟨_,k,?_⟩))))))
 refine qc (nw3 (Ag 0 0 0 false) 35 hs hb (zH (zeroValue35 _) rfl) fun p2 w2 H1 hs hb=>sbx 0 (Ac aA aB aD aE aC) (sizeOf35 _) hs hb gZ fun w3 hs hb=>q (ln (zA (eg (qb (ln (cbr h ?_ ?_)))))))<;>intro h
 refine eg (qc (ln (er (zX ?_))))
 have ⟨h,hs⟩:=hs.hr (h H1 w3)
 refine xA (.inl rfl) results46 (v:=(vi 0)) (by kernel_rfl) (v':=(vi r1)) (by kernel_rfl) ⟨0,r1,rfl,h⟩
 refine zB (zL (eg (qb (q3 (xl (isAgg23 _) (hb.d 0 2 gZ)) (q (q3 (xl (isAgg9 _) (hb.d 0 3 gZ)) (q ?_)))))))
 have ⟨h,hs⟩:=hs.hr (h H1 w3)
 refine sc call101 (h.mono fun e w4 ⟨r2,r3,k,hk,h⟩=>have ⟨hs,hb⟩:=hk.hh hs hb;⟨_,k,?_⟩)
 refine qd (ln (er (xA (.inl rfl) results46 (v:=(vi r2)) (by kernel_rfl) (v':=(vi r3)) (by kernel_rfl) ⟨r2,r3,rfl,h⟩)))
def m_R3 (p1:Option Addr) (who1 a1 b1:Int) (w0:World) (K:Int→Int→WP):Prop :=Br ((who1 != 0) && (who1 != 1)) (∀H1 w1,Hst w0 None w0 H1 w1→K 0 2 w1) (∀H1 w1,Hst w0 None w0 H1 w1→Calls prog 100 #[(vp p1),(vi a1),(vi b1),(vb true)] w1 (fun e w2=>∃aA aB aD aE aC r1,e=.returned (.tuple #[(Af aA aB aD aE aC),(vi r1)])∧Kept H1 w1 w2∧Br (r1 != 0) (∀H2 w4,Hst w0 H1 w2 H2 w4→K 0 r1 w4) (∀H3 w6,Hst w0 H1 w2 H3 w6→Calls prog 49 #[(vp p1),(vi a1)] w6 (fun e w7=>∃aJ aF bO bP aI bQ,e=.returned (Aa aJ aF bO bP aI bQ)∧Kept H3 w6 w7∧Calls prog 49 #[(vp p1),(vi b1)] w7 (fun e w8=>∃aR aU bR bS aS bT,e=.returned (Aa aR aU bR bS aS bT)∧Kept H3 w7 w8∧∀p4 w9,New w8 (.cells #[(vi aJ),(vi aF),(vi bO),(vu bP),(vs aI),bQ.v,(vi aR),(vi aU),(vi bR),(vu bS),(vs aS),bT.v] 107) p4 w9→∀H4 w11,Hst w0 H3 w9 H4 w11→∀p6 w12,New w11 (.cells #[(vi 3),(vi 0),(vi 0),(vu 0),(vs (⟨#[114,101,115,111,108,118,101]⟩:ByteArray)),Sl.nil.v,(vi 4),(vi 0),(vi 0),(vu 0),ve,(Sl.mk (some p4) 2 2).v] 107) p6 w12→∀H5 w14,Hst w0 H4 w12 H5 w14→∀p8 w15,New w14 (.cells #[(vi 4),(vi 0),(vi 0),(vu 0),ve,(Sl.mk (some p6) 2 2).v] 107) p8 w15→Calls prog 78 #[(vp p1),(.agg #[(vi 7),(vi who1),(vi 0),(vu 0),ve,(Sl.mk (some p8) 1 1).v])] w15 (fun e w16=>∃r2 r3,e=.returned (.tuple #[(vi r2),(vi r3)])∧Kept H5 w15 w16∧K r2 r3 w16))))))
theorem w_R3 (p1 who1 a1 b1 w0 K) (h:m_R3 p1 who1 a1 b1 w0 K):
  Calls prog 50 #[(vp p1),(vi who1),(vi a1),(vi b1)] w0 (fun e w'=>∃r4 r5,e=.returned (.tuple #[(vi r4),(vi r5)])∧K r4 r5 w'):=by
 refine cw (args:=[(vp p1),(vi who1),(vi a1),(vi b1)]) func50 ntmps50 ?_
 obtain ⟨hs,hb⟩:=st0 w0
 refine eg (qb (ln (zA (zA (vN (fun ρ wJ=>∃b2'0:Bool,∃HJ:NP,((who1 != 0)=b2'0)∧Hst w0 None w0 HJ wJ∧HB HJ wJ []∧Has ρ [(0,(vp p1)),(1,(vi who1)),(2,(vi a1)),(3,(vi b1)),(20,(vb (b2'0 && (who1 != 1))))]) ?_ ?_)))))
 refine rg (qc ?_)
 rcases bte (who1 != 0) with hg2 | hg2
 refine qk 17 hg2 (qk 17 hg2 (q2 (vb (who1 != 1)) (xT hg2) (ln ⟨true,_,hg2,hs,hb,hm⟩)))
 refine sj2 17 hg2 (q2 (vb false) (xF hg2) (ln ⟨false,_,hg2,hs,hb,hm⟩))
 rintro ρ w1 ⟨b2'0,H1,he0,hs,hb,hH⟩
 subst he0
 refine vE hH (zL (cbr h ?_ ?_))<;>intro h
 refine eg (qb (ln (er (zX ?_))))
 have ⟨h,hs⟩:=hs.hr (h H1 w1)
 refine xA (.inl rfl) results50 (v:=(vi 0)) (by kernel_rfl) (v':=(vi 2)) (by kernel_rfl) ⟨0,2,rfl,h⟩
 refine zB (zL (eg (qc ?_)))
 have ⟨h,hs⟩:=hs.hr (h H1 w1)
 refine sc call100 (h.mono fun e w2 ⟨aA,aB,aD,aE,aC,r1,k,hk,h⟩=>have ⟨hs,hb⟩:=hk.hh hs hb;⟨_,k,?_⟩)
 refine qc (nw3 (Ag 0 0 0 false) 35 hs hb (zH (zeroValue35 _) rfl) fun p2 w3 H2 hs hb=>sbx 0 (Ac aA aB aD aE aC) (sizeOf35 _) hs hb gZ fun w4 hs hb=>q (ln (zA (eg (qb (ln (cbr h ?_ ?_)))))))<;>intro h
 refine eg (qc (ln (er (zX ?_))))
 have ⟨h,hs⟩:=hs.hr (h H2 w4)
 refine xA (.inl rfl) results50 (v:=(vi 0)) (by kernel_rfl) (v':=(vi r1)) (by kernel_rfl) ⟨0,r1,rfl,h⟩
 refine zB (zL (eg (q (nw3 [(vi 0),(vi 0),(vi 0),(vu 0),ve,Sl.nil.v] 107 hs hb (zH (zeroValue107 _) rfl) fun p3 w5 H3 hs hb=>sbx 0 [(vi 3),(vi 0),(vi 0),(vu 0),(vs (⟨#[114,101,115,111,108,118,101]⟩:ByteArray)),Sl.nil.v] (sizeOf107 _) hs hb gZ fun w6 hs hb=>ln (eg (qb ?_))))))
 have ⟨h,hs⟩:=hs.hr (h H3 w6)
 refine sc call49 (h.mono fun e w7 ⟨aJ,aF,bO,bP,aI,bQ,k,hk,h⟩=>have ⟨hs,hb⟩:=hk.hh hs hb;⟨_,k,?_⟩)
 refine qb (sc call49 (h.mono fun e w8 ⟨aR,aU,bR,bS,aS,bT,k,hk,h⟩=>have ⟨hs,hb⟩:=hk.hh hs hb;⟨_,k,?_⟩))
 refine nw5 (fun p=>(Sl.mk (some p) 2 2).v) hs hb h fun p4 w9 hs hb h=>q (nw3 [(vi 0),(vi 0),(vi 0),(vu 0),ve,Sl.nil.v] 107 hs hb (zH (zeroValue107 _) rfl) fun p5 w10 H4 hs hb=>sbx 0 [(vi 4),(vi 0),(vi 0),(vu 0),ve,(Sl.mk (some p4) 2 2).v] (sizeOf107 _) hs hb gZ fun w11 hs hb=>ln (eg (q2 (.agg #[(vi 3),(vi 0),(vi 0),(vu 0),(vs (⟨#[114,101,115,111,108,118,101]⟩:ByteArray)),Sl.nil.v]) (xa p3 [(vi 3),(vi 0),(vi 0),(vu 0),(vs (⟨#[114,101,115,111,108,118,101]⟩:ByteArray)),Sl.nil.v] (isAgg107 _) (sizeOf107 _) (hb.r0 1 6 (gS gZ))) (q2 (.agg #[(vi 4),(vi 0),(vi 0),(vu 0),ve,(Sl.mk (some p4) 2 2).v]) (xa p5 [(vi 4),(vi 0),(vi 0),(vu 0),ve,(Sl.mk (some p4) 2 2).v] (isAgg107 _) (sizeOf107 _) (hb.r0 0 6 gZ)) ?_))))
 have ⟨h,hs⟩:=hs.hr (h H4 w11)
 refine nw5 (fun p=>(Sl.mk (some p) 2 2).v) hs hb h fun p6 w12 hs hb h=>q (nw3 [(vi 0),(vi 0),(vi 0),(vu 0),ve,Sl.nil.v] 107 hs hb (zH (zeroValue107 _) rfl) fun p7 w13 H5 hs hb=>sbx 0 [(vi 4),(vi 0),(vi 0),(vu 0),ve,(Sl.mk (some p6) 2 2).v] (sizeOf107 _) hs hb gZ fun w14 hs hb=>ln (eg (qb (q2 (.agg #[(vi 4),(vi 0),(vi 0),(vu 0),ve,(Sl.mk (some p6) 2 2).v]) (xa p7 [(vi 4),(vi 0),(vi 0),(vu 0),ve,(Sl.mk (some p6) 2 2).v] (isAgg107 _) (sizeOf107 _) (hb.r0 0 6 gZ)) ?_))))
 have ⟨h,hs⟩:=hs.hr (h H5 w14)
 refine nw5 (fun p=>(Sl.mk (some p) 1 1).v) hs hb h fun p8 w15 hs hb h=>q (sc call78 (h.mono fun e w16 ⟨r2,r3,k,hk,h⟩=>have ⟨hs,hb⟩:=hk.hh hs hb;⟨_,k,?_⟩))
 refine qd (ln (er (xA (.inl rfl) results50 (v:=(vi r2)) (by kernel_rfl) (v':=(vi r3)) (by kernel_rfl) ⟨r2,r3,rfl,h⟩)))
theorem uO (a0 b0:Bool) (w:World):(Go.binOp .eql 4 (.bool a0) (.bool b0)).run prog w=.ok (.bool (a0 == b0)) w:=by
 simp [Go.binOp,Op.equal,Op.maxDepth,go_sem,jGR,bne]
def m_M_j3 (x3:Bool) (H:NP) (w:World) (K:Bool→WP):Prop :=Br x3 (Calls prog 24 #[] w (fun e w24=>∃r17,e=.returned (vb r17)∧Kept H w w24∧K r17 w24)) (K false w)
def m_M_j2 (aL:Int) (r3:Option Addr) (r4:Option Addr) (r6 r8:Int) (r9 r10 r13:Int) (x2:Bool) (w0:World) (H:NP) (w:World) (K:Bool→WP):Prop :=Br x2 (K false w) (Calls prog 51 #[(vp r3),(vi r10)] w (fun e w10=>∃aA aB aD aE aC r14,e=.returned (.tuple #[(Af aA aB aD aE aC),(vb r14)])∧Kept H w w10∧∀y1:Bool,y1=((r13 == 0) && ((((!r14) || (aA != 4)) || (aB != aL)) || (aC == (r9 == 0))))→Br y1 (∀H6 w16,Hst w0 H w10 H6 w16→K false w16) (Br (r9 == 0) (∀H6 w16,Hst w0 H w10 H6 w16→Calls prog 42 #[(vp r4),(vi r8)] w16 (fun e w20=>∃aJ aF aH aI aG r15,e=.returned (.tuple #[(Af aJ aF aH aI aG),(vb r15)])∧Kept H6 w16 w20∧∀H10 w22,Hst w0 H6 w20 H10 w22→Calls prog 45 #[(vp r3),(vi r6),(vi 0),(vu aH),(vs aI)] w22 (fun e w23=>∃r16,e=.returned (vb r16)∧Kept H10 w22 w23∧Br r16 (Calls prog 45 #[(vp r3),(vi r6),(vi 1),(vu aH),(vs aI)] w23 (fun e w25=>∃r18,e=.returned (vb r18)∧Kept H10 w23 w25∧m_M_j3 r18 H10 w25 K)) (m_M_j3 false H10 w23 K)))) (∀H6 w16,Hst w0 H w10 H6 w16→Calls prog 24 #[] w16 (fun e w26=>∃r19,e=.returned (vb r19)∧Kept H6 w16 w26∧K r19 w26)))))
def m_M_j1 (aP aQ aL:Int) (r3:Option Addr) (r4:Option Addr) (r6 r8 r9:Int) (x1:Bool) (w0:World) (H:NP) (w:World) (K:Bool→WP):Prop :=Br x1 (K false w) (Calls prog 33 #[(vp r3),(vi aL),(vi aP),(vi aQ)] w (fun e w8=>∃r10 r11,e=.returned (.tuple #[(vi r10),(vi r11)])∧Kept H w w8∧Calls prog 50 #[(vp r4),(vi aL),(vi aP),(vi aQ)] w8 (fun e w9=>∃r12 r13,e=.returned (.tuple #[(vi r12),(vi r13)])∧Kept H w8 w9∧Br (r11 != r13) (∀w27,Hst w0 H w9 H w27→m_M_j2 aL r3 r4 r6 r8 r9 r10 r13 true w0 H w27 K) (∀w27,Hst w0 H w9 H w27→Calls prog 48 #[(vp r3),(vi r10)] w27 (fun e w28=>∃aR aU bO bP aS bQ,e=.returned (Aa aR aU bO bP aS bQ)∧Kept H w27 w28∧Calls prog 49 #[(vp r4),(vi r12)] w28 (fun e w29=>∃bA dF bR bS bB bT,e=.returned (Aa bA dF bR bS bB bT)∧Kept H w28 w29∧Calls prog 47 #[(.agg #[(vi aR),(vi aU),(vi bO),(vu bP),(vs aS),bQ.v]),(.agg #[(vi bA),(vi dF),(vi bR),(vu bS),(vs bB),bT.v])] w29 (fun e w30=>∃r20,e=.returned (vb r20)∧Kept H w29 w30∧m_M_j2 aL r3 r4 r6 r8 r9 r10 r13 (!r20) w0 H w30 K)))))))
def m_M (aT:Sl) (aP aQ aL:Int) (w0:World) (K:Bool→WP):Prop :=∀H1 w2,Hst w0 None w0 H1 w2→Calls prog 23 #[aT.v] w2 (fun e w3=>∃r1,e=.returned (vb r1)∧Kept H1 w2 w3∧Br r1 (Calls prog 24 #[] w3 (fun e w4=>∃r2,e=.returned (vb r2)∧Kept H1 w3 w4∧K r2 w4)) (Calls prog 25 #[aT.v] w3 (fun e w5=>∃r3 r4 r5,e=.returned (.tuple #[(vp r3),(vp r4),(vb r5)])∧Kept H1 w3 w5∧Br (!r5) (K false w5) (Calls prog 32 #[(vp r3),(vi aP),(vi aQ)] w5 (fun e w6=>∃r6 r7,e=.returned (.tuple #[(vi r6),(vi r7)])∧Kept H1 w5 w6∧Calls prog 46 #[(vp r4),(vi aP),(vi aQ)] w6 (fun e w7=>∃r8 r9,e=.returned (.tuple #[(vi r8),(vi r9)])∧Kept H1 w6 w7∧Br (r7 != r9) (∀w31,Hst w0 H1 w7 H1 w31→m_M_j1 aP aQ aL r3 r4 r6 r8 r9 true w0 H1 w31 K) (∀w31,Hst w0 H1 w7 H1 w31→Calls prog 48 #[(vp r3),(vi r6)] w31 (fun e w32=>∃bC dG dH dI bD dJ,e=.returned (Aa bC dG dH dI bD dJ)∧Kept H1 w31 w32∧Calls prog 49 #[(vp r4),(vi r8)] w32 (fun e w33=>∃bE dK dL dM bF dN,e=.returned (Aa bE dK dL dM bF dN)∧Kept H1 w32 w33∧Calls prog 47 #[(.agg #[(vi bC),(vi dG),(vi dH),(vu dI),(vs bD),dJ.v]),(.agg #[(vi bE),(vi dK),(vi dL),(vu dM),(vs bF),dN.v])] w33 (fun e w34=>∃r21,e=.returned (vb r21)∧Kept H1 w33 w34∧m_M_j1 aP aQ aL r3 r4 r6 r8 r9 (!r21) w0 H1 w34 K))))))))))
theorem w_M (aT aP aQ aL w0 K) (h:m_M aT aP aQ aL w0 K):
  Calls prog 10 #[(.agg #[aT.v,(vi aP),(vi aQ),(vi aL)])] w0 (fun e w'=>∃r22,e=.returned (vb r22)∧K r22 w'):=by
 refine cw (args:=[(.agg #[aT.v,(vi aP),(vi aQ),(vi aL)])]) func10 ntmps10 ?_
 obtain ⟨hs,hb⟩:=st0 w0
 refine eg (nw3 [aT.v,(vi aP),(vi aQ),(vi aL)] 102 hs hb xb fun p1 w1 H1 hs hb=>q (ln (zA (uU (by kernel_rfl) (by kernel_rfl) (by kernel_rfl) (by kernel_rfl) ?_))))
 intro w2 hw2
 have hs:Hst w0 None w0 H1 w2:=by rw [hw2];exact hs.drew
 have hb:HB H1 w2 [(p1,[aT.v,(vi aP),(vi aQ),(vi aL)],102)]:=by rw [hw2];exact hb.drew
 refine qq 0 (vp (some p1)) Kp0 (qr 1 aT.v Kp1 (xl (isAgg66 _) (hb.c0 0 gZ)) (qq 2 (vp (some (p1.add 1))) Kp2 (qr 3 (vi aP) Kp3 (xl (isAgg78 _) (hb.c 0 1 gZ)) (qq 4 (vp (some (p1.add 2))) Kp4 (qr 5 (vi aQ) Kp5 (xl (isAgg78 _) (hb.c 0 2 gZ)) (qq 6 (vp (some (p1.add 3))) Kp6 (qr 7 (vi aL) Kp7 (xl (isAgg3 _) (hb.c 0 3 gZ)) (qq 8 aT.v Kp8 (qq 9 (vi aP) Kp9 (qq 10 (vi aQ) (zO (S8 (zG (zG zN)))) (qq 11 (vi aL) (zO (S8 (zG (zG (zG zN))))) (wn (zL (zA (eg (q ?_))))))))))))))))
 have ⟨h,hs⟩:=hs.hr (h H1 w2)
 refine sc call23 (h.mono fun e w3 ⟨r1,k,hk,h⟩=>have ⟨hs,hb⟩:=hk.hh hs hb;⟨_,k,?_⟩)
 refine ln (cbr h ?_ ?_)<;>intro h
 refine eg (sc call24 (h.mono fun e w4 ⟨r2,k,hk,h⟩=>have ⟨hs,hb⟩:=hk.hh hs hb;⟨_,k,?_⟩))
 refine q (ln (er (zX (rs1 results10 ⟨r2,rfl,h⟩))))
 refine zB (zL (eg (q (sc call25 (h.mono fun e w5 ⟨r3,r4,r5,k,hk,h⟩=>have ⟨hs,hb⟩:=hk.hh hs hb;⟨_,k,?_⟩)))))
 refine qc (qd (ln (zA (eg (qb (ln (cbr h ?_ ?_)))))))<;>intro h
 refine eg (q (ln (er (zX (rs1 results10 ⟨false,rfl,h⟩)))))
 refine zB (zL (eg (qc (sc call32 (h.mono fun e w6 ⟨r6,r7,k,hk,h⟩=>have ⟨hs,hb⟩:=hk.hh hs hb;⟨_,k,?_⟩)))))
 refine q (qd (ln (eg (qc (sc call46 (h.mono fun e w7 ⟨r8,r9,k,hk,h⟩=>have ⟨hs,hb⟩:=hk.hh hs hb;⟨_,k,?_⟩))))))
 refine q (qd (ln (zA (zA (qT (fun ρ w=>∃x1,∃H:NP,Has ρ [(4,(vi aP)),(5,(vi aQ)),(6,(vi aL)),(7,(vp r3)),(8,(vp r4)),(10,(vi r6)),(12,(vi r8)),(13,(vi r9)),(68,(vb x1))]∧Hst w0 H w H w∧HB H w [(p1,[aT.v,(vi aP),(vi aQ),(vi aL)],102)]∧m_M_j1 aP aQ aL r3 r4 r6 r8 r9 x1 w0 H w K) ?_ ?_)))))
 rintro ρ w ⟨x1,H,hH,hs,hb,h⟩
 refine zV hH (cbr h ?_ ?_)<;>intro h
 refine eg (q (ln (er (zX (rs1 results10 ⟨false,rfl,h⟩)))))
 refine zB (zL (eg (qd (sc call33 (h.mono fun e w8 ⟨r10,r11,k,hk,h⟩=>have ⟨hs,hb⟩:=hk.hh hs hb;⟨_,k,?_⟩)))))
 refine q (qd (ln (eg (qc (q (sc call50 (h.mono fun e w9 ⟨r12,r13,k,hk,h⟩=>have ⟨hs,hb⟩:=hk.hh hs hb;⟨_,k,?_⟩)))))))
 refine q (qd (ln (zA (zA (qT (fun ρ w=>∃x2,∃H:NP,Has ρ [(6,(vi aL)),(7,(vp r3)),(8,(vp r4)),(10,(vi r6)),(12,(vi r8)),(13,(vi r9)),(14,(vi r10)),(17,(vi r13)),(98,(vb x2))]∧Hst w0 H w H w∧HB H w [(p1,[aT.v,(vi aP),(vi aQ),(vi aL)],102)]∧m_M_j2 aL r3 r4 r6 r8 r9 r10 r13 x2 w0 H w K) ?_ ?_)))))
 rintro ρ w ⟨x2,H,hH,hs,hb,h⟩
 refine zV hH (cbr h ?_ ?_)<;>intro h
 refine eg (q (ln (er (zX (rs1 results10 ⟨false,rfl,h⟩)))))
 refine zB (zL (eg (qb (sc call51 (h.mono fun e w10 ⟨aA,aB,aD,aE,aC,r14,k,hk,h⟩=>have ⟨hs,hb⟩:=hk.hh hs hb;⟨_,k,?_⟩)))))
 refine qc (nw3 (Ag 0 0 0 false) 35 hs hb (zH (zeroValue35 _) rfl) fun p2 w11 H2 hs hb=>sbx 0 (Ac aA aB aD aE aC) (sizeOf35 _) hs hb gZ fun w12 hs hb=>q (ln (zA (zA (vN (fun ρ wJ=>∃b4'0 y1:Bool,∃HJ:NP,((r13 == 0)=b4'0)∧(y1=(b4'0 && ((((!r14) || (aA != 4)) || (aB != aL)) || (aC == (r9 == 0)))))∧Hst w0 H w10 HJ wJ∧HB HJ wJ [(p2,(Ac aA aB aD aE aC),35),(p1,[aT.v,(vi aP),(vi aQ),(vi aL)],102)]∧Has ρ [(7,(vp r3)),(8,(vp r4)),(10,(vi r6)),(12,(vi r8)),(13,(vi r9)),(128,(vb y1))]) ?_ ?_)))))
 refine rg (qc ?_)
 rcases bte (r13 == 0) with hg8 | hg8
 refine qk 107 hg8 (qk 107 hg8 (qk 107 hg8 (zI 4 (fun ρ wJ=>∃b5'0:Bool,∃HJ:NP,((!r14)=b5'0)∧Hst w0 H w10 HJ wJ∧HB HJ wJ [(p2,(Ac aA aB aD aE aC),35),(p1,[aT.v,(vi aP),(vi aQ),(vi aL)],102)]∧Has ρ [(6,(vi aL)),(7,(vp r3)),(8,(vp r4)),(10,(vi r6)),(12,(vi r8)),(13,(vi r9)),(18,(vp (some p2))),(107,(vb (r13 == 0))),(114,(vb (b5'0 || (aA != 4))))]) ?_ ?_)))
 rintro ρ w17 ⟨b5'0,H7,he0,hs,hb,hH⟩
 subst he0
 refine zM hH (qk 107 hg8 (zI 5 (fun ρ wJ=>∃b6'0:Bool,∃HJ:NP,(((!r14) || (aA != 4))=b6'0)∧Hst w0 H w10 HJ wJ∧HB HJ wJ [(p2,(Ac aA aB aD aE aC),35),(p1,[aT.v,(vi aP),(vi aQ),(vi aL)],102)]∧Has ρ [(7,(vp r3)),(8,(vp r4)),(10,(vi r6)),(12,(vi r8)),(13,(vi r9)),(18,(vp (some p2))),(107,(vb (r13 == 0))),(120,(vb (b6'0 || (aB != aL))))]) ?_ ?_))
 rintro ρ w18 ⟨b6'0,H8,he0,hs,hb,hH⟩
 subst he0
 refine zM hH (qk 107 hg8 (zI 6 (fun ρ wJ=>∃b7'0:Bool,∃HJ:NP,((((!r14) || (aA != 4)) || (aB != aL))=b7'0)∧Hst w0 H w10 HJ wJ∧HB HJ wJ [(p2,(Ac aA aB aD aE aC),35),(p1,[aT.v,(vi aP),(vi aQ),(vi aL)],102)]∧Has ρ [(7,(vp r3)),(8,(vp r4)),(10,(vi r6)),(12,(vi r8)),(13,(vi r9)),(107,(vb (r13 == 0))),(127,(vb (b7'0 || (aC == (r9 == 0)))))]) ?_ ?_))
 rintro ρ w19 ⟨b7'0,H9,he0,hs,hb,hH⟩
 subst he0
 refine zM hH (q2 (vb ((((!r14) || (aA != 4)) || (aB != aL)) || (aC == (r9 == 0)))) (xT hg8) (ln ⟨true,_,_,hg8,rfl,hs,hb,hm⟩))
 rcases bte (((!r14) || (aA != 4)) || (aB != aL)) with hg14 | hg14
 refine sj5 121 hg14 (stq (v:=(vb true)) (wy 107 hg8) (xT hg14) (zC ⟨true,_,hg14,hs,hb,hm⟩))
 refine qk 121 hg14 (q4 121 hg14 (xl (isAgg4 _) (hb.d 0 4 gZ)) (qk 121 hg14 (qk 121 hg14 (stq (v:=(vb (aC == (r9 == 0)))) (wy 121 hg14) (jIL (by kernel_rfl) (by kernel_rfl) (by kernel_rfl) (uO aC (r9 == 0) _)) (stq (v:=(vb (aC == (r9 == 0)))) (wy 107 hg8) (xF hg14) (zC ⟨false,_,hg14,hs,hb,hm⟩))))))
 rcases bte ((!r14) || (aA != 4)) with hg12 | hg12
 refine sj4 115 hg12 (stq (v:=(vb true)) (wy 107 hg8) (xT hg12) (zC ⟨true,_,hg12,hs,hb,hm⟩))
 refine qk 115 hg12 (q4 115 hg12 (xl (isAgg3 _) (hb.d 0 1 gZ)) (qk 115 hg12 (qk 115 hg12 (stq (v:=(vb (aB != aL))) (wy 107 hg8) (xF hg12) (zC ⟨false,_,hg12,hs,hb,hm⟩)))))
 rcases bte (!r14) with hg10 | hg10
 refine sj3 110 hg10 (stq (v:=(vb true)) (wy 107 hg8) (xT hg10) (zC ⟨true,_,hg10,hs,hb,hm⟩))
 refine qk 110 hg10 (q4 110 hg10 (xl (isAgg3 _) (hb.d0 0 gZ)) (qk 110 hg10 (stq (v:=(vb (aA != 4))) (wy 107 hg8) (xF hg10) (zC ⟨false,_,hg10,hs,hb,hm⟩))))
 refine sj3 107 hg8 (sm (sm (sm (sj2 107 hg8 (sm (sm (sm (sm (sj2 107 hg8 (sm (sm (sm (sm (sm (sj 107 hg8 (q2 (vb false) (xF hg8) (ln ⟨false,_,_,hg8,rfl,hs,hb,hm⟩)))))))))))))))))
 rintro ρ w16 ⟨b4'0,y1,H6,he0,hy1,hs,hb,hH⟩
 subst he0
 have h:=h y1 hy1
 refine vE hH (zL (cbr h ?_ ?_))<;>intro h
 refine eg (q (ln (er (zX ?_))))
 have ⟨h,hs⟩:=hs.hr (h H6 w16)
 refine rs1 results10 ⟨false,rfl,h⟩
 refine zB (zL (zA (eg (qb (ln (cbr h ?_ ?_))))))<;>intro h
 refine eg (qb ?_)
 have ⟨h,hs⟩:=hs.hr (h H6 w16)
 refine sc call42 (h.mono fun e w20 ⟨aJ,aF,aH,aI,aG,r15,k,hk,h⟩=>have ⟨hs,hb⟩:=hk.hh hs hb;⟨_,k,?_⟩)
 refine qc (nw3 (Ag 0 0 0 false) 35 hs hb (zH (zeroValue35 _) rfl) fun p3 w21 H10 hs hb=>sbx 0 (Ac aJ aF aH aI aG) (sizeOf35 _) hs hb gZ fun w22 hs hb=>q (ln (eg (qc (q3 (xl (isAgg23 _) (hb.d 0 2 gZ)) (q (q3 (xl (isAgg9 _) (hb.d 0 3 gZ)) ?_)))))))
 have ⟨h,hs⟩:=hs.hr (h H10 w22)
 refine sc call45 (h.mono fun e w23 ⟨r16,k,hk,h⟩=>have ⟨hs,hb⟩:=hk.hh hs hb;⟨_,k,?_⟩)
 refine q (zI 8 (fun ρ w=>∃x3,∃H:NP,Has ρ [(152,(vb x3))]∧Hst w0 H w H w∧HB H w [(p3,(Ac aJ aF aH aI aG),35),(p2,(Ac aA aB aD aE aC),35),(p1,[aT.v,(vi aP),(vi aQ),(vi aL)],102)]∧m_M_j3 x3 H w K) ?_ ?_)
 rintro ρ w ⟨x3,H,hH,hs,hb,h⟩
 refine zM hH (q ?_)
 obtain ⟨hg15,h⟩|⟨hg15,h⟩:=h.br
 refine vA (wy 153 hg15) (xc call24) (h.mono ?_)
 rintro e w24 ⟨r17,rfl,hk,h⟩
 refine ⟨_,rfl,?_⟩
 obtain ⟨hs,hb⟩:=hk.hh hs hb
 refine q2 (vb r17) (xT hg15) (q (ln (er (zX (rs1 results10 ⟨r17,rfl,h⟩)))))
 refine sj 153 hg15 (q2 (vb false) (xF hg15) (q (ln (er (zX (rs1 results10 ⟨false,rfl,h⟩))))))
 obtain ⟨hg16,h⟩|⟨hg16,h⟩:=h.br
 refine qk 144 hg16 (qk 144 hg16 (qk 144 hg16 (q4 144 hg16 (xl (isAgg23 _) (hb.d 0 2 gZ)) (qk 144 hg16 (q4 144 hg16 (xl (isAgg9 _) (hb.d 0 3 gZ)) (vA (wy 144 hg16) (xc call45) (h.mono ?_)))))))
 rintro e w25 ⟨r18,rfl,hk,h⟩
 refine ⟨_,rfl,?_⟩
 obtain ⟨hs,hb⟩:=hk.hh hs hb
 refine q2 (vb r18) (xT hg16) (zC ⟨r18,H10,hm,hs,hb,h⟩)
 refine sj2 144 hg16 (sj5 144 hg16 (q2 (vb false) (xF hg16) (zC ⟨false,H10,hm,hs,hb,h⟩)))
 refine zB (zL (eg ?_))
 have ⟨h,hs⟩:=hs.hr (h H6 w16)
 refine sc call24 (h.mono fun e w26 ⟨r19,k,hk,h⟩=>have ⟨hs,hb⟩:=hk.hh hs hb;⟨_,k,?_⟩)
 refine q (ln (er (rs1 results10 ⟨r19,rfl,h⟩)))
 refine rg (q (sc call36 ((p_E1 r11 w9).mono ?_)))
 rintro e w27 ⟨he,hE⟩
 refine ⟨_,he,?_⟩
 obtain ⟨hs,hb⟩:=hs.pp hb hE
 refine qc ?_
 obtain ⟨hg17,h⟩|⟨hg17,h⟩:=h.br
 refine sj3 89 hg17 (sj5 89 hg17 (q2 (vb true) (xT hg17) (zC ?_)))
 have ⟨h,hs⟩:=hs.hr (h w27)
 refine zL ⟨true,H,hm,hs,hb,h⟩
 refine qk 89 hg17 (qk 89 hg17 ?_)
 have ⟨h,hs⟩:=hs.hr (h w27)
 refine vA (wy 89 hg17) (xc call48) (h.mono ?_)
 rintro e w28 ⟨aR,aU,bO,bP,aS,bQ,rfl,hk,h⟩
 refine ⟨_,rfl,?_⟩
 obtain ⟨hs,hb⟩:=hk.hh hs hb
 refine qk 89 hg17 (qk 89 hg17 (vA (wy 89 hg17) (xc call49) (h.mono ?_)))
 rintro e w29 ⟨bA,dF,bR,bS,bB,bT,rfl,hk,h⟩
 refine ⟨_,rfl,?_⟩
 obtain ⟨hs,hb⟩:=hk.hh hs hb
 refine vA (wy 89 hg17) (xc call47) (h.mono ?_)
 rintro e w30 ⟨r20,rfl,hk,h⟩
 refine ⟨_,rfl,?_⟩
 obtain ⟨hs,hb⟩:=hk.hh hs hb
 refine qk 89 hg17 (q2 (vb (!r20)) (xF hg17) (ln ⟨(!r20),H,hm,hs,hb,h⟩))
 refine rg (q (sc call36 ((p_E1 r7 w7).mono ?_)))
 rintro e w31 ⟨he,hE⟩
 refine ⟨_,he,?_⟩
 obtain ⟨hs,hb⟩:=hs.pp hb hE
 refine qc ?_
 obtain ⟨hg18,h⟩|⟨hg18,h⟩:=h.br
 refine sj3 59 hg18 (sj5 59 hg18 (q2 (vb true) (xT hg18) (zC ?_)))
 have ⟨h,hs⟩:=hs.hr (h w31)
 refine zL ⟨true,H1,hm,hs,hb,h⟩
 refine qk 59 hg18 (qk 59 hg18 ?_)
 have ⟨h,hs⟩:=hs.hr (h w31)
 refine vA (wy 59 hg18) (xc call48) (h.mono ?_)
 rintro e w32 ⟨bC,dG,dH,dI,bD,dJ,rfl,hk,h⟩
 refine ⟨_,rfl,?_⟩
 obtain ⟨hs,hb⟩:=hk.hh hs hb
 refine qk 59 hg18 (qk 59 hg18 (vA (wy 59 hg18) (xc call49) (h.mono ?_)))
 rintro e w33 ⟨bE,dK,dL,dM,bF,dN,rfl,hk,h⟩
 refine ⟨_,rfl,?_⟩
 obtain ⟨hs,hb⟩:=hk.hh hs hb
 refine vA (wy 59 hg18) (xc call47) (h.mono ?_)
 rintro e w34 ⟨r21,rfl,hk,h⟩
 refine ⟨_,rfl,?_⟩
 obtain ⟨hs,hb⟩:=hk.hh hs hb
 refine qk 59 hg18 (q2 (vb (!r21)) (xF hg18) (ln ⟨(!r21),H1,hm,hs,hb,h⟩))
def m_S3 (kind1 who1:Int) (cap1:Addr) (w0:World) (K:Int→Int→Int→ByteArray→WP):Prop :=∀H1 w1,Hst w0 None w0 H1 w1→∃v1,w1.cell? (cap1.add 2)=some (vu v1)∧∃v2,w1.cell? (cap1.add 3)=some (vs v2)∧∀w2,Hst w0 H1 w1 H1 w2→K kind1 who1 v1 v2 w2
theorem w_S3 (kind1 who1 cap1 w0 K) (h:m_S3 kind1 who1 cap1 w0 K):
  Calls prog 162 #[(vi kind1),(vi who1),(vp (some cap1))] w0 (fun e w'=>∃aA bU aD aE,e=.returned (Aj aA bU aD aE)∧K aA bU aD aE w'):=by
 refine cw (args:=[(vi kind1),(vi who1),(vp (some cap1))]) func162 ntmps162 ?_
 obtain ⟨hs,hb⟩:=st0 w0
 refine eg (nw3 [(vi 0),(vi 0),(vu 0),ve] 75 hs hb (zH (zeroValue75 _) rfl) fun p1 w1 H1 hs hb=>ln (eg (qc ?_)))
 have ⟨h,hs⟩:=hs.hr (h H1 w1)
 refine ql (isAgg23 _) h fun v1 h=>q (ql (isAgg9 _) h fun v2 h=>q (vU (zR rfl) (xo p1 (Ak kind1 who1 v1 v2) (sizeOf75 _) (hb.k0 0 4 gZ)) ?_))
 intro w2 hn2
 obtain ⟨hs,hb⟩:=hb.st1 0 hs hn2 gZ
 refine ln (er ?_)
 have ⟨h,hs⟩:=hs.hr (h w2)
 refine tH (.inl rfl) (vs:=[(Aj kind1 who1 v1 v2)]) (v:=(Aj kind1 who1 v1 v2)) results162 ⟨(rva (isAgg75 _) (sizeOf75 _) (hb.r0 0 4 gZ)),trivial⟩ (by kernel_rfl) ⟨kind1,who1,v1,v2,rfl,h⟩
end Go.Proofs
end
section
open Go
namespace Go.Sp
structure Fact where
 kind:Int
 who:Int
 c:Int
 text:ByteArray
deriving DecidableEq
def jBT (a b:Int):Int:=if a<b then -1 else if b<a then 1 else 0
def jIH (a b:ByteArray):Int:=if Op.bytesLess a.toList b.toList=true then -1 else if a=b then 0 else 1
def jIG (a b:Fact):Int:=if jBT a.c b.c≠0 then jBT a.c b.c else if jBT a.kind b.kind≠0 then jBT a.kind b.kind else if jBT a.who b.who≠0 then jBT a.who b.who else jIH a.text b.text
theorem toList_inj {a b:ByteArray} (h:a.toList=b.toList):a=b:=by
 rw [Lib.toList_data,Lib.toList_data] at h;obtain ⟨a⟩:=a;obtain ⟨b⟩:=b;simp only at h;congr 1;exact Array.toList_inj.1 h
def LtF (a b:Fact):Prop:=a.c<b.c∨(a.c=b.c∧(a.kind<b.kind∨(a.kind=b.kind∧(a.who<b.who∨(a.who=b.who∧a.text.toList<b.text.toList)))))
theorem tG {a b:Int}:jBT a b=0↔a=b:=by unfold jBT;split <;> (try split) <;> omega
theorem jGG (a b:Int):jBT b a=- jBT a b:=by unfold jBT;split <;> split <;> (try split) <;> omega
theorem tL {a b:ByteArray}:Op.bytesLess a.toList b.toList=true↔a.toList<b.toList:=by rw [Go.Proofs.bytesLess_eq];simp
theorem jNB {a b:ByteArray}:jIH a b=0↔a=b:=by
 unfold jIH;split
 ·rename_i h;refine ⟨fun h'=>by omega,fun e=>?_⟩;subst e;exact absurd (tL.1 h) (List.lt_irrefl _)
 ·split <;> simp_all
theorem jON (a b:ByteArray):jIH b a=- jIH a b:=by
 unfold jIH;by_cases h1:a.toList<b.toList
 ·rw [if_pos (tL.2 h1),if_neg (fun h=>List.lt_asymm h1 (tL.1 h)),if_neg (fun e=>by subst e;exact List.lt_irrefl _ h1)];rfl
 ·rw [if_neg (fun h=>h1 (tL.1 h))];by_cases h2:b.toList<a.toList
  ·rw [if_pos (tL.2 h2),if_neg (fun e=>by subst e;exact List.lt_irrefl _ h2)]
  ·have e:a=b:=toList_inj (List.le_antisymm (List.not_lt.1 h2) (List.not_lt.1 h1));subst e;rw [if_neg (fun h=>h1 (tL.1 h))];simp
theorem jEH {a b:Fact}:jIG a b=0↔a=b:=by
 obtain ⟨k,w,c,x⟩:=a;obtain ⟨k',w',c',x'⟩:=b;unfold jIG;simp only [Fact.mk.injEq,← tG (a:=k),← tG (a:=w),← tG (a:=c),← jNB (a:=x)];split
 ·omega
 ·split
  ·omega
  ·split <;> omega
theorem jOM (a b:Fact):jIG b a=- jIG a b:=by
 unfold jIG;rw [jGG a.c,jGG a.kind,jGG a.who,jON a.text]
 repeat' split
 all_goals omega
theorem jCA {a b:Fact}:jIG a b<0↔LtF a b:=by
 have hI:∀{x y:Int},jBT x y<0↔x<y:=fun {x y}=>by unfold jBT;split <;> (try split) <;> omega
 have hB:∀{x y:ByteArray},jIH x y<0↔x.toList<y.toList:=fun {x y}=>by
  rw [← tL];unfold jIH;split
  ·simp_all
  ·split <;> simp_all
 unfold jIG LtF;rw [← hI (x:=a.c),← hI (x:=a.kind),← hI (x:=a.who),← hB,← tG (a:=a.c),← tG (a:=a.kind),← tG (a:=a.who)];split
 ·omega
 ·split
  ·omega
  ·split <;> omega
theorem LtF.trans {a b c:Fact} (h1:LtF a b) (h2:LtF b c):LtF a c:=by
 unfold LtF at *;rcases h1 with h1 | ⟨e1,h1⟩
 ·left;omega
 rcases h2 with h2 | ⟨e2,h2⟩
 ·left;omega
 refine .inr ⟨by omega,?_⟩;rcases h1 with h1 | ⟨e1,h1⟩
 ·left;omega
 rcases h2 with h2 | ⟨e2,h2⟩
 ·left;omega
 refine .inr ⟨by omega,?_⟩;rcases h1 with h1 | ⟨e1,h1⟩
 ·left;omega
 rcases h2 with h2 | ⟨e2,h2⟩
 ·left;omega
 exact .inr ⟨by omega,List.lt_trans h1 h2⟩
theorem LtF.irrefl (a:Fact):¬ LtF a a:=fun h=>by
 have:=jCA.2 h;rw [jEH.2 rfl] at this;omega
theorem LtF.tri (a b:Fact):LtF a b∨a=b∨LtF b a:=by
 rw [← jCA,← jCA,← jEH,jOM a b];omega
theorem swoF:Go.Sort.SWO (Go.Proofs.ltOf jIG):={
 irrefl x:=by unfold Go.Proofs.ltOf;simp [jEH.2]
 trans x y z h1 h2:=by
  unfold Go.Proofs.ltOf at *;simp only [decide_eq_true_eq,jCA] at *;exact h1.trans h2
 ntrans x y z h1 h2:=by
  unfold Go.Proofs.ltOf at *;simp only [decide_eq_false_iff_not,jCA] at *;intro h;rcases LtF.tri x y with h3 | rfl | h3
  ·exact h1 h3
  ·exact h2 h
  ·exact h2 (h3.trans h) }
def tF (a:Fact):List Fact→List Fact
 | []=>[]
 | b :: l=>if a=b then tF b l else b :: tF b l
def jAT:List Fact→List Fact
 | []=>[]
 | a :: l=>a :: tF a l
theorem jHG {x:Fact}:∀{l:List Fact} {a:Fact},(x=a∨x∈tF a l)↔(x=a∨x∈l)
 | [],_=>by simp [tF]
 | b :: l,a=>by
  have h:=jHG (x:=x) (l:=l) (a:=b);unfold tF;split
  ·rename_i e;subst e;rw [h];simp
  ·simp only [List.mem_cons,h]
theorem jMN {l:List Fact} {x:Fact}:x∈jAT l↔x∈l:=by
 cases l with
 | nil=>simp [jAT]
 | cons a l=>simp only [jAT,List.mem_cons];exact jHG
theorem jMZ (a:Fact) (l:List Fact):(tF a l).length≤l.length:=by
 induction l generalizing a with
 | nil=>simp [tF]
 | cons b l ih =>
  have:=ih b
  unfold tF
  split <;> simp only [List.length_cons] <;> omega
theorem jNA (l:List Fact):(jAT l).length≤l.length:=by
 cases l with
 | nil=>simp [jAT]
 | cons a l=>have:=jMZ a l;simp only [jAT,List.length_cons];omega
theorem jCL:∀{l:List Fact} {a:Fact},(a :: l).Pairwise (fun a b=>¬ jIG b a<0)→(a :: tF a l).Pairwise LtF
 | [],_,_=>by simp [tF]
 | b :: l,a,h=>by
  have h':=(List.pairwise_cons.1 h);unfold tF;have hs:=jCL h'.2;split
  ·rename_i e;subst e;exact hs
  ·rename_i hne;have hab:LtF a b:=by
    have:=h'.1 b (by simp);rw [jCA] at this;rcases LtF.tri a b with h | h | h
    ·exact h
    ·exact absurd h hne
    ·exact absurd h this
   refine List.pairwise_cons.2 ⟨fun x hx=>?_,hs⟩;rcases List.mem_cons.1 hx with rfl | hx
   ·exact hab
   ·exact hab.trans ((List.pairwise_cons.1 hs).1 x hx)
theorem jHP {l:List Fact} (h:l.Pairwise (fun a b=>¬ jIG b a<0)):(jAT l).Pairwise LtF:=by
 cases l with
 | nil=>simp [jAT]
 | cons a l=>exact jCL h
theorem jGS:∀{l m:List Fact},l.Pairwise LtF→m.Pairwise LtF→(∀x,x∈l↔x∈m)→l=m
 | [],[],_,_,_=>rfl
 | [],b :: m,_,_,h=>by have:=(h b).2 (by simp);simp at this
 | a :: l,[],_,_,h=>by have:=(h a).1 (by simp);simp at this
 | a :: l,b :: m,h1,h2,h=>by
  have p1:=List.pairwise_cons.1 h1;have p2:=List.pairwise_cons.1 h2;have hab:a=b:=by
   rcases List.mem_cons.1 ((h a).1 (by simp)) with e | ha
   ·exact e
   ·rcases List.mem_cons.1 ((h b).2 (by simp)) with e | hb
    ·exact e.symm
    ·exact absurd ((p1.1 b hb).trans (p2.1 a ha)) (LtF.irrefl a)
  subst hab;congr 1;refine jGS p1.2 p2.2 fun x=>⟨fun hx=>?_,fun hx=>?_⟩
  ·rcases List.mem_cons.1 ((h x).1 (by simp [hx])) with rfl | h'
   ·exact absurd (p1.1 x hx) (LtF.irrefl x)
   ·exact h'
  ·rcases List.mem_cons.1 ((h x).2 (by simp [hx])) with rfl | h'
   ·exact absurd (p2.1 x hx) (LtF.irrefl x)
   ·exact h'
end Go.Sp
end
section
open Go Go.SE
namespace Go.SE
theorem Rws.lit {w w':World} {p:Addr} {cs:Array Value} {e:TypeId} {sz:Nat} {rs:List (List Value)} (hn:New w (.cells cs e) p w') (hc:cs.toList=rs.flatten) (hl:∀r∈rs,r.length=sz) (hm:rs.length≤maxLen):Rws w' e sz ⟨some p,rs.length,rs.length⟩ rs:=by
 obtain ⟨hp,hw⟩:=hn;have hsz:cs.size=rs.length*sz:=by rw [← vX hl,← hc,Array.length_toList]
 refine ⟨hl,rfl,.inr ⟨w.heap.size,cs,by rw [hp],?_,Nat.le_refl _,hm,hsz,?_⟩⟩
 ·rw [hw];exact heap_alloc_new w _
 ·rw [hc,List.take_of_length_le (by rw [vX hl];exact Nat.le_refl _)]
end Go.SE
namespace Go.Proofs
end Go.Proofs
end
section
open Go Go.SE
namespace Go.Sp
def Letter.fact (l:Letter) (k who:Int):Fact:=⟨k,who,l.c,l.text⟩
def yI (l:Letter):List Fact :=
 if l.kind=1 then (if l.fake=true then [] else [l.fact 1 l.frm])
 else if l.kind=2 then [l.fact 2 l.frm]
 else if l.kind=3 then [l.fact 3 0]
 else if l.kind=4 then l.fact 4 l.frm :: (if l.fake=true then [] else [l.fact 1 0,l.fact 1 1])
 else if l.kind=5 then [l.fact 5 2]
 else if l.kind=6 then [l.fact 6 2,l.fact 2 0,l.fact 2 1]
 else []
def ofR (r:Letter×Bool):List Fact:=if r.2=true then yI r.1 else []
def ofS (L:Pool) (t:Int):List Fact:=ofR (qD L t)
def jIM (who c:Int) (x:ByteArray):Int→List Fact→Int
 | d,[]=>d
 | d,f :: fs=>if f.kind≠2 then jIM who c x d fs else if f.who=who∧f.c=c∧f.text=x then 0
  else if f.who≠who then jIM who c x (if 3>d then 3 else d) fs
  else if f.c≠c then jIM who c x (if 4>d then 4 else d) fs
  else jIM who c x (if 5>d then 5 else d) fs
def jNN (L:Pool) (t who c:Int) (x:ByteArray):Int:=if (qD L t).2=true then jIM who c x 2 (yI (qD L t).1) else 1
def jAY (L:Pool) (a b:Int):Letter×Bool×Int :=
 if sizeOf L a=0∨sizeOf L b=0 then (yG,false,51)
 else if (qD L a).1.kind≠1∨(qD L b).1.kind≠1 then (yG,false,120)
 else ((qD L a).1,(qD L a).1.fake || (qD L b).1.fake,if (qD L a).1.frm≠0∨(qD L b).1.frm≠1∨(qD L a).1.c≠(qD L b).1.c∨(qD L a).1.text≠(qD L b).1.text then 122 else 0)
end Go.Sp
namespace Go.Proofs
open Tryz
attribute [local irreducible] Calls
def jBS (f:Sp.Fact):List Value:=[.int .i64 f.kind,.int .i64 f.who,.int .u64 f.c,.string f.text]
theorem jEF (fs:List Sp.Fact):∀q∈fs.map jBS,q.length=4:=by intro q hq;obtain ⟨t,_,rfl⟩:=List.mem_map.1 hq;rfl
theorem jKE (fs:List Sp.Fact):∀q∈fs.map jBS,q.all qE=true:=by intro q hq;obtain ⟨t,_,rfl⟩:=List.mem_map.1 hq;rfl
theorem jBG:SlType prog 71 75 4 40:=by
 refine ⟨underlying71,⟨t75,_,by kernel_rfl,(by kernel_rfl:t75.zero=some (.agg #[.int .i64 0,.int .i64 0,.int .u64 0,.string ⟨#[]⟩])),by kernel_rfl,by kernel_rfl,rfl⟩,by omega⟩
theorem xG (l:Sp.Letter) (k who:Int) (p:Addr) (w0:World) (hB:Box w0 p [.int .i64 l.kind,.int .i64 l.frm,.int .u64 l.c,.string l.text,.bool l.fake] 35) :
  Calls prog 162 #[.int .i64 k,.int .i64 who,.pointer (some p)] w0 (fun e w'=>e=.returned (.agg #[.int .i64 k,.int .i64 who,.int .u64 l.c,.string l.text])∧Pure w0 w'):=by
 refine (w_S3 k who p w0 (fun a b c x w'=>a=k∧b=who∧c=l.c∧x=l.text∧Pure w0 w') ?_).mono ?_
 ·unfold m_S3
  intro H1 w1 hs1
  have b1:=hB.pure hs1.first
  exact ⟨_,b1.cell (i:=2) rfl,_,b1.cell (i:=3) rfl,fun w2 hs2=>⟨rfl,rfl,rfl,rfl,hs1.first.hst hs2⟩⟩
 ·rintro _ w' ⟨_,_,_,_,rfl,rfl,rfl,rfl,rfl,E⟩
  exact ⟨rfl,E⟩
theorem jFD (l:Sp.Letter) (w0:World) :
  Calls prog 94 #[.agg #[.int .i64 l.kind,.int .i64 l.frm,.int .u64 l.c,.string l.text,.bool l.fake]] w0 (fun e w'=>∃s:Sl,e=.returned s.v∧RetO w0 75 4 ((Sp.yI l).map jBS) s w'):=by
 suffices key:∀K:Sl→WP,(∀s w',RetO w0 75 4 ((Sp.yI l).map jBS) s w'→K s w')→m_C2 l.kind l.frm l.c l.text l.fake w0 K from
  w_C2 _ _ _ _ _ w0 _ (key _ (fun _ _ h=>h))
 intro K hK
 unfold m_C2
 intro p w1 h1
 have E1:Pure w0 w1:=Ext.new h1
 have b1:=Box.of_new h1
 clear h1
 have hnil:∀w',Pure w0 w'→Sp.yI l=[]→K Sl.nil w':=fun w' E h=>hK _ _ (by
  rw [h];exact ⟨Rws.nil _ _ _,fun b h=>(by obtain ⟨a,h,_⟩:=h;cases h),E⟩)
 have lit:∀{w2 w3:World} {p2:Addr} {cs:Array Value} (fs:List Sp.Fact) (n:Nat),Pure w0 w2→New w2 (.cells cs 75) p2 w3→cs.toList=(fs.map jBS).flatten→fs.length=n→n≤3→Sp.yI l=fs→K ⟨some p2,n,n⟩ w3:=by
  intro w2 w3 p2 cs fs n E hn hc hl hm he;have R:=Rws.lit (sz:=4) hn hc (jEF fs) (by simp [maxLen];omega);rw [List.length_map,hl] at R;refine hK _ _ ⟨by rw [he];exact R,fun b hb=>?_,E.trans (Ext.new hn)⟩;obtain ⟨a,ha,rfl⟩:=hb;cases ha;exact New.own E hn
 have one : ∀ k who : Int, Sp.yI l = [l.fact k who] → Calls prog 162 #[.int .i64 k, .int .i64 who, .pointer (some p)] w1 (fun e w2 => ∃ rKind1 : Int, ∃ rWho1 : Int, ∃ rC1 : Int, ∃ rText1 : ByteArray, e = .returned (.agg #[.int .i64 rKind1, .int .i64 rWho1, .int .u64 rC1, .string rText1]) ∧
   ∀(p2:Addr) (w3:World),New w2 (.cells #[.int .i64 rKind1,.int .i64 rWho1,.int .u64 rC1,.string rText1] 75) p2 w3→K (Sl.mk (some p2) 1 1) w3):=by
  intro k who he
  refine (xG l k who p w1 b1).mono ?_
  rintro _ w2 ⟨rfl,E2⟩
  exact ⟨_,_,_,_,rfl,fun p2 w3 h3=>lit [l.fact k who] 1 (E1.trans E2) h3 rfl rfl (by omega) he⟩
 refine ⟨_,b1.cell0,fun hk=>?_,fun hk=>⟨fun hk2=>?_,fun hk2=>⟨fun hk3=>?_,fun hk3=>⟨fun hk4=>?_,fun hk4=>⟨fun hk5=>?_,fun hk5=>⟨fun hk6=>?_,fun hk6=>?_⟩⟩⟩⟩⟩⟩
 ·have hk:l.kind=1:=by simpa using hk
  refine ⟨_,b1.cell (i:=4) rfl,fun hf=>hnil w1 E1 (by simp [Sp.yI,hk,hf]),fun hf=>⟨_,b1.cell (i:=1) rfl,one 1 l.frm (by simp [Sp.yI,hk,hf])⟩⟩
 ·have hk2:l.kind=2:=by simpa using hk2
  exact ⟨_,b1.cell (i:=1) rfl,one 2 l.frm (by simp [Sp.yI,hk2])⟩
 ·have hk3:l.kind=3:=by simpa using hk3
  exact one 3 0 (by simp [Sp.yI,hk3])
 ·have hk4:l.kind=4:=by simpa using hk4
  refine ⟨_,b1.cell (i:=1) rfl,(xG l 4 l.frm p w1 b1).mono ?_⟩
  rintro _ w2 ⟨rfl,E2⟩
  refine ⟨_,_,_,_,rfl,fun p2 w3 h3=>?_⟩
  have E3:Pure w2 w3:=Ext.new h3
  have b3:=b1.pure (E2.trans E3)
  refine ⟨_,b3.cell (i:=4) rfl,fun hf=>?_,fun hf=>lit [l.fact 4 l.frm] 1 (E1.trans E2) h3 rfl rfl (by omega) (by simp at hf;simp [Sp.yI,hk4,hf])⟩
  refine (xG l 1 0 p w3 b3).mono ?_
  rintro _ w4 ⟨rfl,E4⟩
  refine ⟨_,_,_,_,rfl,(xG l 1 1 p w4 (b3.pure E4)).mono ?_⟩
  rintro _ w5 ⟨rfl,E5⟩
  refine ⟨_,_,_,_,rfl,fun p6 w6 h6=>?_⟩
  have E6:Pure w5 w6:=Ext.new h6
  have R1:Rws w3 75 4 ⟨some p2,1,1⟩ [jBS (l.fact 4 l.frm)]:=Rws.lit h3 rfl (jEF [l.fact 4 l.frm]) (by simp [maxLen])
  have R2:Rws w6 75 4 ⟨some p6,2,2⟩ [jBS (l.fact 1 0),jBS (l.fact 1 1)]:=Rws.lit h6 rfl (jEF [l.fact 1 0,l.fact 1 1]) (by simp [maxLen])
  obtain ⟨s,w7,hr,hR,hE,hb⟩:=(R1.pure ((E4.trans E5).trans E6)).appendL (P:=prog) jBG (ty:=71) R2.lst (jEF [l.fact 1 0,l.fact 1 1]) (jKE [l.fact 1 0,l.fact 1 1]) (by simp) (by simp [maxLen])
  have E06:Pure w0 w6:=((((E1.trans E2).trans E3).trans E4).trans E5).trans E6
  have hp2:w0.heap.size≤p2.block:=New.own (E1.trans E2) h3
  have hs1:∀b,(Sl.mk (some p2) 1 1).blk b→w0.heap.size≤b:=by
   rintro b ⟨a,ha,rfl⟩;cases ha;exact hp2
  refine ⟨s,w7,hr,hK _ _ ⟨?_,fun b h=>(hb b h).elim (hs1 b) (fun h=>by have:=E06.size;omega),E06.trans' hE (fun i hi h=>by have:=hs1 i h;omega)⟩⟩
  have hf:l.fake=false:=by simpa using hf
  have e:Sp.yI l=[l.fact 4 l.frm]++[l.fact 1 0,l.fact 1 1]:=by simp [Sp.yI,hk4,hf]
  rw [e];exact hR
 ·have hk5:l.kind=5:=by simpa using hk5
  exact one 5 2 (by simp [Sp.yI,hk5])
 ·have hk6:l.kind=6:=by simpa using hk6
  refine (xG l 6 2 p w1 b1).mono ?_
  rintro _ w2 ⟨rfl,E2⟩
  refine ⟨_,_,_,_,rfl,(xG l 2 0 p w2 (b1.pure E2)).mono ?_⟩
  rintro _ w3 ⟨rfl,E3⟩
  refine ⟨_,_,_,_,rfl,(xG l 2 1 p w3 (b1.pure (E2.trans E3))).mono ?_⟩
  rintro _ w4 ⟨rfl,E4⟩
  exact ⟨_,_,_,_,rfl,fun p5 w5 h5=>lit [l.fact 6 2,l.fact 2 0,l.fact 2 1] 3 (((E1.trans E2).trans E3).trans E4) h5 rfl rfl (by omega) (by simp [Sp.yI,hk6])⟩
 ·refine hnil w1 E1 ?_
  simp at hk hk2 hk3 hk4 hk5 hk6
  simp [Sp.yI,hk,hk2,hk3,hk4,hk5,hk6]
theorem jNG (p:Option Addr) (t:Int) (w0:World) {L:Sp.Pool} {F:NP} (hP:jCD w0 p L F) (hok:Sp.Ok L) :
  Calls prog 34 #[.pointer p,.int .i64 t] w0 (fun e w'=>∃s:Sl,e=.returned s.v∧RetO w0 75 4 ((Sp.ofS L t).map jBS) s w'):=by
 refine w_O3 _ _ w0 (fun s w'=>RetO w0 75 4 ((Sp.ofS L t).map jBS) s w') ?_
 unfold m_O3
 refine (xW p t w0 hP hok).mono ?_
 rintro _ w1 ⟨k,f,c,x,fk,ok,rfl,hrd,E1⟩
 have e:Sp.ofS L t=Sp.ofR (⟨k,f,c,x,fk⟩,ok):=by unfold Sp.ofS;rw [← hrd]
 refine ⟨k,f,c,x,fk,ok,rfl,E1.keptP,fun h H w3 hs=>?_,fun h H w3 hs=>?_⟩
 ·have h:ok=false:=by simpa using h
  rw [e,h]
  exact ⟨Rws.nil _ _ _,fun b h=>(by obtain ⟨a,h,_⟩:=h;cases h),E1.hst hs⟩
 ·have h:ok=true:=by simpa using h
  refine (jFD ⟨k,f,c,x,fk⟩ w3).mono ?_
  rintro _ w4 ⟨s,rfl,hr⟩
  refine ⟨s,rfl,hr.kept,?_⟩
  rw [e,h]
  exact ⟨hr.rows,fun b hb=>by have:=hr.own b hb;have:=(E1.hst hs).size;omega,(E1.hst hs).trans hr.pure⟩
theorem jKL (p:Option Addr) (t who c:Int) (x:ByteArray) (w0:World) {L:Sp.Pool} {F:NP} (hP:jCD w0 p L F) (hok:Sp.Ok L) :
  Calls prog 35 #[.pointer p,.int .i64 t,.int .i64 who,.int .u64 c,.string x] w0 (fun e w'=>∃r:Int,e=.returned (.int .i64 r)∧(r=Sp.jNN L t who c x∧Pure w0 w')):=by
 suffices key:∀K:Int→WP,(∀w',Pure w0 w'→K (Sp.jNN L t who c x) w')→m_I1 p t who c x w0 K from
  w_I1 _ _ _ _ _ w0 _ (key _ (fun _ h=>⟨rfl,h⟩))
 intro K hK
 unfold m_I1
 refine (xW p t w0 hP hok).mono ?_
 rintro _ w1 ⟨k,f,c1,x1,fk,ok,rfl,hrd,E1⟩
 have e:Sp.jNN L t who c x=if ok=true then Sp.jIM who c x 2 (Sp.yI ⟨k,f,c1,x1,fk⟩) else 1:=by unfold Sp.jNN;rw [← hrd]
 rw [e] at hK
 refine ⟨k,f,c1,x1,fk,ok,rfl,E1.keptP,fun h H w3 hs=>?_,fun h H w3 hs=>?_⟩
 ·have h:ok=false:=by simpa using h
  rw [h] at hK
  exact hK w3 (E1.hst hs)
 have h:ok=true:=by simpa using h
 rw [h,if_pos rfl] at hK
 refine (jFD ⟨k,f,c1,x1,fk⟩ w3).mono ?_
 rintro _ w4 ⟨s,rfl,hr⟩
 have hfl:(Sp.yI ⟨k,f,c1,x1,fk⟩).length≤3:=by
  unfold Sp.yI;repeat' split
  all_goals simp
 generalize Sp.yI ⟨k,f,c1,x1,fk⟩=fs at *
 have O4:Own H w4 75 4 s (fs.map jBS):=⟨hr.rows,fun b hb hH=>by have:=hr.own b hb;have:=hs.lt b hH;omega⟩
 have E4:=(E1.hst hs).trans hr.pure
 have hl:s.len=fs.length:=by rw [O4.len];simp
 refine ⟨s,rfl,hr.kept,fun d i H' w'=>∃j:Nat,i=j∧j≤fs.length∧Pure w0 w'∧Own H' w' 75 4 s (fs.map jBS)∧Sp.jIM who c x 2 fs=Sp.jIM who c x d (fs.drop j),fun _ i _=>((fs.length:Int) - i).toNat,⟨0,rfl,Nat.zero_le _,E4,O4,rfl⟩,?_⟩
 rintro d _ Hl wl hl' ⟨j,rfl,hj,El,Ol,hw⟩
 unfold m_I1_l1
 refine ⟨fun h=>?_,fun h=>?_⟩
 ·have hlt:=qI hl h
  obtain ⟨a,hat,hrow⟩:=Ol.nth hlt
  rw [List.drop_eq_getElem_cons hlt,Sp.jIM] at hw
  generalize fs[j]=g at *
  refine ⟨a,hat,_,_,_,_,hrow,?_⟩
  have go:∀(d':Int) (H3:NP) (w8:World),Hst w0 Hl wl H3 w8→Sp.jIM who c x 2 fs=Sp.jIM who c x d' (fs.drop (j+1))→(∃j':Nat,IntKind.i64.wrap ((j:Int)+1)=j'∧j'≤fs.length∧Pure w0 w8∧Own H3 w8 75 4 s (fs.map jBS)∧Sp.jIM who c x 2 fs=Sp.jIM who c x d' (fs.drop j'))∧((fs.length:Int) - IntKind.i64.wrap ((j:Int)+1)).toNat<((fs.length:Int) - (j:Int)).toNat:=by
   intro d' H3 w8 hs8 h';rw [vM hlt (by omega)];exact ⟨⟨j+1,rfl,hlt,El.hst hs8,Ol.hst hs8,h'⟩,uA hlt⟩
  refine ⟨fun h2 H3 w8 hs8=>go d H3 w8 hs8 ?_,fun h2=>⟨fun h3 H3 w8 hs8=>?_,fun h3=>⟨fun h4 H3 w8 hs8=>⟨_,run_max_int2 _ _ _ _ _ _ _,go _ H3 w8 hs8 ?_⟩,fun h4=>⟨fun h5 H3 w8 hs8=>⟨_,run_max_int2 _ _ _ _ _ _ _,go _ H3 w8 hs8 ?_⟩,fun h5 H3 w8 hs8=>⟨_,run_max_int2 _ _ _ _ _ _ _,go _ H3 w8 hs8 ?_⟩⟩⟩⟩⟩
  ·rw [hw,if_pos (bne_iff_ne.1 h2)]
  ·have h2:g.kind=2:=by simpa using h2
   simp at h3
   rw [hw,if_neg (by simp [h2]),if_pos h3.2] at hK
   exact hK w8 (El.hst hs8)
  all_goals
   have h2:g.kind=2:=by simpa using h2
   have h3:¬ (g.who=who∧g.c=c∧g.text=x):=by simpa [h2] using h3
   rw [hw,if_neg (by simp [h2]),if_neg h3]
  ·rw [if_pos (bne_iff_ne.1 h4)]
  ·have h4:g.who=who:=by simpa using h4
   rw [if_neg (by simp [h4]),if_pos (bne_iff_ne.1 h5)]
  ·have h4:g.who=who:=by simpa using h4
   have h5:g.c=c:=by simpa using h5
   rw [if_neg (by simp [h4]),if_neg (by simp [h5])]
 ·have hge:=qK hl hj h
  subst hge
  rw [List.drop_length,Sp.jIM] at hw
  rw [hw] at hK
  exact hK wl El
theorem jID (p:Addr) (a b:Int) (w0:World) {L:Sp.Pool} {F:NP} (hP:vD w0 p L F) (hok:Sp.Ok L) :
  Calls prog 90 #[.pointer (some p),.int .i64 a,.int .i64 b] w0 (fun e w'=>∃k f c:Int,∃x:ByteArray,∃g r:Bool,∃r2:Int,e=.returned (.tuple #[.agg #[.int .i64 k,.int .i64 f,.int .u64 c,.string x,.bool g],.bool r,.int .i64 r2])∧(((⟨k,f,c,x,g⟩:Sp.Letter),r,r2)=Sp.jAY L a b∧Pure w0 w')):=by
 suffices key:∀K:Int→Int→Int→ByteArray→Bool→Bool→Int→WP,(∀k f c x g r r2 w',((⟨k,f,c,x,g⟩:Sp.Letter),r,r2)=Sp.jAY L a b→Pure w0 w'→K k f c x g r r2 w')→m_Y (some p) a b w0 K from
  w_Y _ _ _ w0 _ (key _ (fun _ _ _ _ _ _ _ _ h E=>⟨h,E⟩))
 intro K hK
 unfold m_Y
 refine Br.f rfl ?_
 intro H1 w1 hs1
 have E1:Pure w0 w1:=hs1.first
 have J:∀z:Bool,(z=true↔Sp.sizeOf L a=0∨Sp.sizeOf L b=0)→m_Y_j1 (some p) a b z w0 H1 w1 K:=by
  intro z hz;unfold m_Y_j1;refine ⟨fun h w3 hs3=>hK _ _ _ _ _ _ _ _ ?_ (E1.hst hs3),fun h=>?_⟩
  ·unfold Sp.jAY;rw [if_pos (hz.1 h)];rfl
  have hn:¬ (Sp.sizeOf L a=0∨Sp.sizeOf L b=0):=fun h'=>by rw [hz.2 h'] at h;cases h
  refine (uT p a w1 (hP.pure E1) hok).mono ?_;rintro _ w4 ⟨k,f,c,x,g,ok,rfl,hrd,E4⟩;refine ⟨k,f,c,x,g,ok,rfl,E4.keptP,fun H2 w6 hs6=>?_⟩;have E6:=(E1.trans E4).hst hs6;refine (uT p b w6 (hP.pure E6) hok).mono ?_;rintro _ w7 ⟨k2,f2,c2,x2,g2,ok2,rfl,hrd2,E7⟩;have e1:(Sp.qD L a).1=⟨k,f,c,x,g⟩:=(congrArg Prod.fst hrd).symm;have e2:(Sp.qD L b).1=⟨k2,f2,c2,x2,g2⟩:=(congrArg Prod.fst hrd2).symm;have E67:=E6.trans E7;refine ⟨k2,f2,c2,x2,g2,ok2,rfl,E7.keptP,fun h2 H4 w11 hs11=>hK _ _ _ _ _ _ _ _ ?_ (E67.hst hs11),fun h2 y hy=>?_⟩
  ·rw [Bool.or_eq_true] at h2;unfold Sp.jAY;rw [if_neg hn,e1,e2,if_pos (h2.imp bne_iff_ne.1 bne_iff_ne.1)];rfl
  rw [Bool.or_eq_false_iff] at h2;have hb:¬ (k≠1∨k2≠1):=by simpa using h2
  refine ⟨fun h3 H10 w20 hs20=>hK _ _ _ _ _ _ _ _ ?_ (E67.hst hs20),fun h3 H10 w21 hs21=>hK _ _ _ _ _ _ _ _ ?_ (E67.hst hs21)⟩
  all_goals
   unfold Sp.jAY
   rw [if_neg hn,e1,e2,if_neg hb]
  ·rw [if_pos];rw [h3] at hy;simp at hy;rcases hy with (((h | h) | h) | h)
   ·exact .inl h
   ·exact .inr (.inl h)
   ·exact .inr (.inr (.inl h))
   ·exact .inr (.inr (.inr h))
  ·rw [if_neg];rw [h3] at hy;simp at hy;rintro (h | h | h | h)
   ·exact h hy.1.1.1
   ·exact h hy.1.1.2
   ·exact h hy.1.2
   ·exact h hy.2
 refine (jNK p a w1 (hP.pure E1) hok).mono ?_
 rintro _ w2 ⟨_,rfl,rfl,rfl⟩
 refine ⟨_,rfl,Kept.refl _,fun h=>?_,fun h=>?_⟩
 ·exact J true ⟨fun _=>.inl (by simpa using h),fun _=>rfl⟩
 refine (jNK p b w1 (hP.pure E1) hok).mono ?_
 rintro _ w3 ⟨_,rfl,rfl,rfl⟩
 refine ⟨_,rfl,Kept.refl _,J _ ?_⟩
 have h:¬ Sp.sizeOf L a=0:=by simpa using h
 simp [h]
end Go.Proofs
end
section
open Go Go.SE
open Go.IntKind renaming i64 → q6
namespace Go.Proofs
open Tryz
set_option maxRecDepth 100000
set_option maxHeartbeats 4000000
attribute [local irreducible] wpL wpX opE wpE Calls
theorem qZ (a0 a1 a2:Int) (a3:ByteArray) (b0 b1 b2:Int) (b3:ByteArray) (w:World):(Go.binOp .eql 75 (.agg #[(.int .i64 a0),(.int .i64 a1),(.int .u64 a2),(.string a3)]) (.agg #[(.int .i64 b0),(.int .i64 b1),(.int .u64 b2),(.string b3)])).run prog w=.ok (.bool ((a0 == b0) && ((a1 == b1) && ((a2 == b2) && (decide (a3=b3)))))) w:=by
 simp [Go.binOp,Op.equal,Op.maxDepth,go_sem,jGR,bne]
 repeat' split
 all_goals simp_all
theorem qY (a0 a1 a2:Int) (a3:ByteArray) (b0 b1 b2:Int) (b3:ByteArray) (w:World):(Go.binOp .neq 75 (.agg #[(.int .i64 a0),(.int .i64 a1),(.int .u64 a2),(.string a3)]) (.agg #[(.int .i64 b0),(.int .i64 b1),(.int .u64 b2),(.string b3)])).run prog w=.ok (.bool (!((a0 == b0) && ((a1 == b1) && ((a2 == b2) && (decide (a3=b3))))))) w:=by
 simp [Go.binOp,Op.equal,Op.maxDepth,go_sem,jGR,bne]
 repeat' split
 all_goals simp_all
def m_V_l2 (s1 s2:Sl) (k2 k21:Int) (w0:World) (Hl2:NP) (wl2:World) (Kc2:Int→Int→NP→WP) (K:Sl→WP):Prop :=Br (decide (k21<(s2.len:Int))) (∃a3:Addr,At s2 k21 4 a3∧∀w2,Hst w0 Hl2 wl2 Hl2 w2→∃aA aB aC aD,Row w2 a3 (Ak aA aB aC aD)∧∃a4:Addr,At s2 (q6.wrap (k21 - 1)) 4 a4∧∃aE aF aG aH,Row w2 a4 (Ak aE aF aG aH)∧Br (!((aA == aE) && ((aB == aF) && ((aC == aG) && (decide (aD=aH)))))) (∃a5:Addr,At s2 k21 4 a5∧∃aQ aR aS aT,Row w2 a5 (Ak aQ aR aS aT)∧∃a6:Addr,At s1 k2 4 a6∧(∀j,j<4→vF w2 (a6.add j))∧¬ Hl2 a6.block∧∀w3,w3=storeRow w2 a6 (Ak aQ aR aS aT)→Kc2 (q6.wrap (k2+1)) (q6.wrap (k21+1)) Hl2 w3) (Kc2 k2 (q6.wrap (k21+1)) Hl2 w2)) (∃s3:Sl,(Instr.sliceAt 71 s1.v (some (vi k2)) none none).run prog wl2=.ok s3.v wl2∧∃w4:World,(Builtin.clear_ #[71] 0 #[s3.v]).run prog wl2=.ok (.tuple #[]) w4∧Kept Hl2 wl2 w4∧∃s4:Sl,(Instr.sliceAt 71 s1.v none (some (vi k2)) none).run prog w4=.ok s4.v w4∧K s4 w4)
def m_V_l1 (s1:Sl) (k1:Int) (w0:World) (Hl1:NP) (wl1:World) (Kc1:Int→NP→WP) (K:Sl→WP):Prop :=Br (decide (k1<(s1.len:Int))) (∃a1:Addr,At s1 k1 4 a1∧∀w1,Hst w0 Hl1 wl1 Hl1 w1→∃aI aJ aK aL,Row w1 a1 (Ak aI aJ aK aL)∧∃a2:Addr,At s1 (q6.wrap (k1 - 1)) 4 a2∧∃aM aN aO aP,Row w1 a2 (Ak aM aN aO aP)∧Br ((aI == aM) && ((aJ == aN) && ((aK == aO) && (decide (aL=aP))))) (∃s2:Sl,(Instr.sliceAt 71 s1.v (some (vi k1)) none none).run prog w1=.ok s2.v w1∧∃(I2:Int→Int→NP→WP) (mu2:Int→Int→World→Nat),I2 k1 1 Hl1 w1∧∀(k2 k21:Int) (Hl2:NP) (wl2:World),Hst w0 Hl2 wl2 Hl2 wl2→I2 k2 k21 Hl2 wl2→m_V_l2 s1 s2 k2 k21 w0 Hl2 wl2 (fun y'0 y'1 H' w'=>I2 y'0 y'1 H' w'∧mu2 y'0 y'1 w'<mu2 k2 k21 wl2) K) (Kc1 (q6.wrap (k1+1)) Hl1 w1)) (K s1 wl1)
def m_V (s1:Sl) (w0:World) (K:Sl→WP):Prop :=Br (decide ((s1.len:Int)<2)) (K s1 w0) (∃(I1:Int→NP→WP) (mu1:Int→World→Nat),I1 1 None w0∧∀(k1:Int) (Hl1:NP) (wl1:World),Hst w0 Hl1 wl1 Hl1 wl1→I1 k1 Hl1 wl1→m_V_l1 s1 k1 w0 Hl1 wl1 (fun y'0 H' w'=>I1 y'0 H' w'∧mu1 y'0 w'<mu1 k1 wl1) K)
theorem w_V (s1 w0 K) (h:m_V s1 w0 K):
  Calls prog 82 #[s1.v] w0 (fun e w'=>∃r1:Sl,e=.returned r1.v∧K r1 w'):=by
 refine cw (args:=[s1.v]) func82 ntmps82 ?_
 obtain ⟨hs,hb⟩:=st0 w0
 refine eg (q (ln (zA (eg (qc (zC (zL (cbr h ?_ ?_))))))))<;>intro h
 refine eg (qb (ln (er (zX (rs1 results82 ⟨s1,rfl,h⟩)))))
 refine zB (zL (zA (eg (q (ln (zK ?_))))))
 obtain ⟨I1,mu1,h0,hr⟩:=h
 refine vQ (σ:=Int×NP×World) (fun s ρ w=>w=s.2.2∧Has ρ [(0,s1.v),(3,(vi s.1))]∧Hst w0 s.2.1 w s.2.1 w∧HB s.2.1 w []∧I1 s.1 s.2.1 s.2.2) (fun s=>mu1 s.1 s.2.2) (1,None,w0) ⟨rfl,hm,hs,hb,h0⟩ ?_
 rintro ⟨k1,Hl1,wl1⟩ ρ w ⟨hw,hH,hs,hb,hI⟩
 dsimp only at hw hH hs hb;subst w
 have h:=hr k1 Hl1 wl1 hs hI
 refine zV hH (zA (eg (qd (ln (cbr h ?_ ?_)))))<;>intro h
 refine zB (zL (zA (zK (zA (uU (by kernel_rfl) (by kernel_rfl) (by kernel_rfl) (by kernel_rfl) ?_)))))
 intro w1 hw1
 have hs:Hst w0 Hl1 wl1 Hl1 w1:=by rw [hw1];exact hs.drew
 have hb:HB Hl1 w1 []:=by rw [hw1];exact hb.drew
 refine qq 0 s1.v Kp0 (qq 1 (vi k1) Kp1 (qg 2 ?_))
 obtain ⟨a1,hv15,h⟩:=h
 refine sxQ Kp2 (zR rfl) rfl (xi (runUnderlying71 _) (sizeOf75 _) hv15) (qg 3 ?_)
 have ⟨h,hs⟩:=hs.hr (h w1)
 obtain ⟨aI,aJ,aK,aL,hv14,h⟩:=h
 refine sxQ (v:=(Aj aI aJ aK aL)) Kp3 (zR rfl) rfl (xa a1 (Ak aI aJ aK aL) (isAgg75 _) (sizeOf75 _) hv14) (qq 4 s1.v Kp4 (qq 5 (vi k1) Kp5 (qq 6 (vi (q6.wrap (k1 - 1))) Kp6 (qg 7 ?_))))
 obtain ⟨a2,hv13,h⟩:=h
 refine sxQ Kp7 (zR rfl) rfl (xi (runUnderlying71 _) (sizeOf75 _) hv13) (qg 8 ?_)
 obtain ⟨aM,aN,aO,aP,hv12,h⟩:=h
 refine sxQ (v:=(Aj aM aN aO aP)) Kp8 (zR rfl) rfl (xa a2 (Ak aM aN aO aP) (isAgg75 _) (sizeOf75 _) hv12) (qr 9 (vb ((aI == aM) && ((aJ == aN) && ((aK == aO) && (decide (aL=aP)))))) Kp9 (jFI (by kernel_rfl) (by kernel_rfl) (by kernel_rfl) (qZ aI aJ aK aL aM aN aO aP _)) (wn (zL (cbr h ?_ ?_))))<;>intro h
 refine eg (qb ?_)
 obtain ⟨s2,hv11,h⟩:=h
 refine q2 s2.v (xR (by kernel_rfl) (by kernel_rfl) (by kernel_rfl) (by kernel_rfl) hv11) (q (ln (zA (eg (q (ln (zK ?_)))))))
 obtain ⟨I2,mu2,h0,hr⟩:=h
 refine vQ (σ:=Int×Int×NP×World) (fun s ρ w=>w=s.2.2.2∧Has ρ [(0,s1.v),(3,(vi s.1)),(4,s2.v),(5,(vi s.2.1))]∧Hst w0 s.2.2.1 w s.2.2.1 w∧HB s.2.2.1 w []∧I2 s.1 s.2.1 s.2.2.1 s.2.2.2) (fun s=>mu2 s.1 s.2.1 s.2.2.2) (k1,1,Hl1,w1) ⟨rfl,hm,hs,hb,h0⟩ ?_
 rintro ⟨k2,k21,Hl2,wl2⟩ ρ w ⟨hw,hH,hs,hb,hI⟩
 dsimp only at hw hH hs hb;subst w
 have h:=hr k2 k21 Hl2 wl2 hs hI
 refine zV hH (zA (eg (qd (ln (cbr h ?_ ?_)))))<;>intro h
 refine zB (zL (zA (zK (zA (uU (by kernel_rfl) (by kernel_rfl) (by kernel_rfl) (by kernel_rfl) ?_)))))
 intro w2 hw2
 have hs:Hst w0 Hl2 wl2 Hl2 w2:=by rw [hw2];exact hs.drew
 have hb:HB Hl2 w2 []:=by rw [hw2];exact hb.drew
 refine qq 0 s2.v Kp0 (qq 1 (vi k21) Kp1 (qg 2 ?_))
 obtain ⟨a3,hv7,h⟩:=h
 refine sxQ Kp2 (zR rfl) rfl (xi (runUnderlying71 _) (sizeOf75 _) hv7) (qg 3 ?_)
 have ⟨h,hs⟩:=hs.hr (h w2)
 obtain ⟨aA,aB,aC,aD,hv6,h⟩:=h
 refine sxQ (v:=(Aj aA aB aC aD)) Kp3 (zR rfl) rfl (xa a3 (Ak aA aB aC aD) (isAgg75 _) (sizeOf75 _) hv6) (qq 4 s2.v Kp4 (qq 5 (vi k21) Kp5 (qq 6 (vi (q6.wrap (k21 - 1))) Kp6 (qg 7 ?_))))
 obtain ⟨a4,hv5,h⟩:=h
 refine sxQ Kp7 (zR rfl) rfl (xi (runUnderlying71 _) (sizeOf75 _) hv5) (qg 8 ?_)
 obtain ⟨aE,aF,aG,aH,hv4,h⟩:=h
 refine sxQ (v:=(Aj aE aF aG aH)) Kp8 (zR rfl) rfl (xa a4 (Ak aE aF aG aH) (isAgg75 _) (sizeOf75 _) hv4) (qr 9 (vb (!((aA == aE) && ((aB == aF) && ((aC == aG) && (decide (aD=aH))))))) Kp9 (jFI (by kernel_rfl) (by kernel_rfl) (by kernel_rfl) (qY aA aB aC aD aE aF aG aH _)) (wn (zL (cbr h ?_ ?_))))<;>intro h
 refine eg (qd (qi (runUnderlying71 _) (sizeOf75 _) h fun a5 h=>?_))
 obtain ⟨aQ,aR,aS,aT,hv2,h⟩:=h
 refine qa (isAgg75 _) (sizeOf75 _) hv2 (qi (runUnderlying71 _) (sizeOf75 _) h fun a6 h=>?_)
 obtain ⟨hp1,hnh,h⟩:=h
 refine ss (xo a6 (Ak aQ aR aS aT) (sizeOf75 _) hp1) ?_
 intro w3 hn1
 have h:=h w3 hn1
 have hk:Kept Hl2 w2 w3:=by rw [hn1];exact Kept.storeRow hnh
 obtain ⟨hs,hb⟩:=hk.hh hs hb
 refine ln (rg (qc (zC (uM (zL (rg (qb (q (ln ⟨((q6.wrap (k2+1)),(q6.wrap (k21+1)),Hl2,w3),⟨rfl,hm,hs,hb,h.1⟩,h.2⟩)))))))))
 refine zB (uM (zL (rg (qc (ln ⟨(k2,(q6.wrap (k21+1)),Hl2,w2),⟨rfl,hm,hs,hb,h.1⟩,h.2⟩)))))
 refine vO (uI (uI (uD (zL (eg (q0 s1.v (q0 (vi k2) ?_)))))))
 obtain ⟨s3,hv10,h⟩:=h
 refine q2 s3.v (xR (by kernel_rfl) (by kernel_rfl) (by kernel_rfl) (by kernel_rfl) hv10) ?_
 obtain ⟨w4,hv9,hk,h⟩:=h
 refine st (v:=(.tuple #[])) (zR rfl) (vT (args:=#[s3.v]) (by kernel_rfl) (fun _=>rfl) hv9) ?_
 obtain ⟨hs,hb⟩:=hk.hh hs hb
 refine ln (eg (qb ?_))
 obtain ⟨s4,hv8,h⟩:=h
 refine q2 s4.v (xR (by kernel_rfl) (by kernel_rfl) (by kernel_rfl) (by kernel_rfl) hv8) (q (ln (er (qW (zX (zX (qW (zX (rs1 results82 ⟨s4,rfl,h⟩)))))))))
 refine zB (uM (zL (rg (qc (ln ⟨((q6.wrap (k1+1)),Hl1,w1),⟨rfl,hm,hs,hb,h.1⟩,h.2⟩)))))
 refine vO (uI (uI (uD (zL (eg (q0 s1.v (q0 s1.v (ln (er (rs1 results82 ⟨s1,rfl,h⟩))))))))))
def m_K1_l1 (vals1:Sl) (x1:Int) (wl1:World) (Kc1:Int→WP) (K:Int→WP):Prop :=Br (decide (x1<(vals1.len:Int))) (∃a1:Addr,At vals1 x1 1 a1∧∃v1,wl1.cell? a1=some (vi v1)∧Br (v1 != 0) (K v1 wl1) (Kc1 (q6.wrap (x1+1)) wl1)) (K 0 wl1)
def m_K1 (vals1:Sl) (w0:World) (K:Int→WP):Prop :=∃(I1:Int→WP) (mu1:Int→World→Nat),I1 0 w0∧∀(x1:Int) (wl1:World),I1 x1 wl1→m_K1_l1 vals1 x1 wl1 (fun y'0 w'=>I1 y'0 w'∧mu1 y'0 w'<mu1 x1 wl1) K
theorem w_K1 (vals1 w0 K) (h:m_K1 vals1 w0 K):
  Calls prog 83 #[vals1.v] w0 (fun e w'=>∃r1,e=.returned (vi r1)∧K r1 w'):=by
 refine cw (args:=[vals1.v]) func83 ntmps83 (eg (q0 (vi 0) (ln (eg (q0 (vi 0) (ln (zA ?_)))))))
 refine eg (qc (ln (zK ?_)))
 obtain ⟨I1,mu1,h0,hr⟩:=h
 refine vQ (σ:=Int×World) (fun s ρ w=>w=s.2∧Has ρ [(3,(vi 0)),(6,vals1.v),(7,(vi (vals1.len:Int))),(8,(vi s.1))]∧I1 s.1 s.2) (fun s=>mu1 s.1 s.2) (0,w0) ⟨rfl,hm,h0⟩ ?_
 rintro ⟨x1,wl1⟩ ρ w ⟨hw,hH,hI⟩
 dsimp only at hw hH;subst w
 have h:=hr x1 wl1 hI
 refine zV hH (eg (q (ln (zA (cbr h ?_ ?_)))))<;>intro h
 refine zB (zL (zA (zK (eg (qi (runUnderlying42 _) (sizeOf3 _) h fun a1 h=>ql (isAgg3 _) h fun v1 h=>q (ln (eg (qc (ln (cbr h ?_ ?_))))))))))<;>intro h
 refine eg (qb (ln (er (qW (zX (zX (qW (zX (rs1 results83 ⟨v1,rfl,h⟩)))))))))
 refine zB (uM (zL (rg (qb (ln ⟨((q6.wrap (x1+1)),wl1),⟨rfl,hm,h.1⟩,h.2⟩)))))
 refine vO (uI (uI (uD (zL (eg (q0 (vi 0) (q0 (vi 0) (ln (er (rs1 results83 ⟨0,rfl,h⟩))))))))))
def s_D2 (x1:Int):Bool :=(x1 != x1)
theorem pw_D2 (x1:Int) (w0:World) :
  Calls prog 156 #[(vu x1)] w0 (fun e w'=>(e=.returned (vb (x1 != x1)))∧Pure w0 w'):=by
 refine cw (args:=[(vu x1)]) func156 ntmps156 (eg (q0 (vb false) (ln (eg (q0 (vu x1) (q0 (vu x1) (q0 (vb (x1 != x1)) (q0 (vb (x1 != x1)) ?_))))))))
 refine ln (er (rs1 results156 (v:=(vb (x1 != x1))) ⟨by kernel_rfl,Ext.refl _⟩))
theorem p_D2 (x1:Int) (w0:World):Calls prog 156 #[(.int .u64 x1)] w0 (fun e w'=>e=.returned (.bool (s_D2 x1))∧Pure w0 w'):=pw_D2 x1 w0
def s_U1 (x1 y1:Int):Int :=(cond (x1 != x1) (cond (y1 != y1) 0 (-1)) (cond (y1 != y1) 1 (cond (decide (x1<y1)) (-1) (cond (decide (x1>y1)) 1 0))))
theorem pw_U1 (x1 y1:Int) (w0:World) :
  Calls prog 84 #[(vu x1),(vu y1)] w0 (fun e w'=>∃b'0 b'1 b'2 b'3:Bool,((x1 != x1)=b'0∧(y1 != y1)=b'1∧(decide (x1<y1))=b'2∧(decide (x1>y1))=b'3)∧(e=.returned (vi (cond b'0 (cond b'1 0 (-1)) (cond b'1 1 (cond b'2 (-1) (cond b'3 1 0))))))∧Pure w0 w'):=by
 refine cw (args:=[(vu x1),(vu y1)]) func84 ntmps84 ?_
 obtain ⟨hs,hb⟩:=st0 w0
 refine eg (q (ln (eg (q (sc call156 ((p_D2 x1 w0).mono ?_))))))
 rintro e w1 ⟨he,hE⟩
 refine ⟨_,he,?_⟩
 obtain ⟨hs,hb⟩:=hs.pp hb hE
 refine q (ln (eg (q (sc call156 ((p_D2 y1 w1).mono ?_)))))
 rintro e w2 ⟨he,hE⟩
 refine ⟨_,he,?_⟩
 obtain ⟨hs,hb⟩:=hs.pp hb hE
 refine q (ln (zA (eg (q (ln (vI (t:=(x1 != x1)) (by kernel_rfl) (fun hc1=>?_) (fun hc1=>?_)))))))
 refine zA (eg (q (ln (vI (t:=(y1 != y1)) (by kernel_rfl) (fun hc2=>?_) (fun hc2=>?_)))))
 refine eg (q (ln (er (zX (zX (rs1 results84 (v:=(vi 0)) ⟨true,true,_,_,⟨hc1,hc2,rfl,rfl⟩,by kernel_rfl,(Ext.refl (F:=None) _).hst hs⟩))))))
 refine zB (zL (eg (q (ln (er (zX (rs1 results84 (v:=(vi (-1))) ⟨true,false,_,_,⟨hc1,hc2,rfl,rfl⟩,by kernel_rfl,(Ext.refl (F:=None) _).hst hs⟩)))))))
 refine zB (zL (zA (eg (q (ln (vI (t:=(y1 != y1)) (by kernel_rfl) (fun hc3=>?_) (fun hc3=>?_)))))))
 refine eg (q (ln (er (zX (rs1 results84 (v:=(vi 1)) ⟨false,true,_,_,⟨hc1,hc3,rfl,rfl⟩,by kernel_rfl,(Ext.refl (F:=None) _).hst hs⟩)))))
 refine zB (zL (zA (eg (qc (ln (vI (t:=(decide (x1<y1))) (by kernel_rfl) (fun hc4=>?_) (fun hc4=>?_)))))))
 refine eg (q (ln (er (zX (rs1 results84 (v:=(vi (-1))) ⟨false,false,true,_,⟨hc1,hc3,hc4,rfl⟩,by kernel_rfl,(Ext.refl (F:=None) _).hst hs⟩)))))
 refine zB (zL (zA (eg (qc (ln (vI (t:=(decide (x1>y1))) (by kernel_rfl) (fun hc5=>?_) (fun hc5=>?_)))))))
 refine eg (q (ln (er (zX (rs1 results84 (v:=(vi 1)) ⟨false,false,false,true,⟨hc1,hc3,hc4,hc5⟩,by kernel_rfl,(Ext.refl (F:=None) _).hst hs⟩)))))
 refine zB (zL (eg (q (ln (er (rs1 results84 (v:=(vi 0)) ⟨false,false,false,false,⟨hc1,hc3,hc4,hc5⟩,by kernel_rfl,(Ext.refl (F:=None) _).hst hs⟩))))))
theorem p_U1 (x1 y1:Int) (w0:World):Calls prog 84 #[(.int .u64 x1),(.int .u64 y1)] w0 (fun e w'=>e=.returned (.int .i64 (s_U1 x1 y1))∧Pure w0 w'):=by
 refine (pw_U1 x1 y1 w0).mono ?_;rintro e w' ⟨b'0,b'1,b'2,b'3,⟨e0,e1,e2,e3⟩,h,E⟩;subst e0;subst e1;subst e2;subst e3;exact ⟨h,E⟩
def s_E2 (x1:Int):Bool :=(x1 != x1)
theorem pw_E2 (x1:Int) (w0:World) :
  Calls prog 157 #[(vi x1)] w0 (fun e w'=>(e=.returned (vb (x1 != x1)))∧Pure w0 w'):=by
 refine cw (args:=[(vi x1)]) func157 ntmps157 (eg (q0 (vb false) (ln (eg (q0 (vi x1) (q0 (vi x1) (q0 (vb (x1 != x1)) (q0 (vb (x1 != x1)) ?_))))))))
 refine ln (er (rs1 results157 (v:=(vb (x1 != x1))) ⟨by kernel_rfl,Ext.refl _⟩))
theorem p_E2 (x1:Int) (w0:World):Calls prog 157 #[(.int .i64 x1)] w0 (fun e w'=>e=.returned (.bool (s_E2 x1))∧Pure w0 w'):=pw_E2 x1 w0
def s_V1 (x1 y1:Int):Int :=(cond (x1 != x1) (cond (y1 != y1) 0 (-1)) (cond (y1 != y1) 1 (cond (decide (x1<y1)) (-1) (cond (decide (x1>y1)) 1 0))))
theorem pw_V1 (x1 y1:Int) (w0:World) :
  Calls prog 85 #[(vi x1),(vi y1)] w0 (fun e w'=>∃b'0 b'1 b'2 b'3:Bool,((x1 != x1)=b'0∧(y1 != y1)=b'1∧(decide (x1<y1))=b'2∧(decide (x1>y1))=b'3)∧(e=.returned (vi (cond b'0 (cond b'1 0 (-1)) (cond b'1 1 (cond b'2 (-1) (cond b'3 1 0))))))∧Pure w0 w'):=by
 refine cw (args:=[(vi x1),(vi y1)]) func85 ntmps85 ?_
 obtain ⟨hs,hb⟩:=st0 w0
 refine eg (q (ln (eg (q (sc call157 ((p_E2 x1 w0).mono ?_))))))
 rintro e w1 ⟨he,hE⟩
 refine ⟨_,he,?_⟩
 obtain ⟨hs,hb⟩:=hs.pp hb hE
 refine q (ln (eg (q (sc call157 ((p_E2 y1 w1).mono ?_)))))
 rintro e w2 ⟨he,hE⟩
 refine ⟨_,he,?_⟩
 obtain ⟨hs,hb⟩:=hs.pp hb hE
 refine q (ln (zA (eg (q (ln (vI (t:=(x1 != x1)) (by kernel_rfl) (fun hc1=>?_) (fun hc1=>?_)))))))
 refine zA (eg (q (ln (vI (t:=(y1 != y1)) (by kernel_rfl) (fun hc2=>?_) (fun hc2=>?_)))))
 refine eg (q (ln (er (zX (zX (rs1 results85 (v:=(vi 0)) ⟨true,true,_,_,⟨hc1,hc2,rfl,rfl⟩,by kernel_rfl,(Ext.refl (F:=None) _).hst hs⟩))))))
 refine zB (zL (eg (q (ln (er (zX (rs1 results85 (v:=(vi (-1))) ⟨true,false,_,_,⟨hc1,hc2,rfl,rfl⟩,by kernel_rfl,(Ext.refl (F:=None) _).hst hs⟩)))))))
 refine zB (zL (zA (eg (q (ln (vI (t:=(y1 != y1)) (by kernel_rfl) (fun hc3=>?_) (fun hc3=>?_)))))))
 refine eg (q (ln (er (zX (rs1 results85 (v:=(vi 1)) ⟨false,true,_,_,⟨hc1,hc3,rfl,rfl⟩,by kernel_rfl,(Ext.refl (F:=None) _).hst hs⟩)))))
 refine zB (zL (zA (eg (qc (ln (vI (t:=(decide (x1<y1))) (by kernel_rfl) (fun hc4=>?_) (fun hc4=>?_)))))))
 refine eg (q (ln (er (zX (rs1 results85 (v:=(vi (-1))) ⟨false,false,true,_,⟨hc1,hc3,hc4,rfl⟩,by kernel_rfl,(Ext.refl (F:=None) _).hst hs⟩)))))
 refine zB (zL (zA (eg (qc (ln (vI (t:=(decide (x1>y1))) (by kernel_rfl) (fun hc5=>?_) (fun hc5=>?_)))))))
 refine eg (q (ln (er (zX (rs1 results85 (v:=(vi 1)) ⟨false,false,false,true,⟨hc1,hc3,hc4,hc5⟩,by kernel_rfl,(Ext.refl (F:=None) _).hst hs⟩)))))
 refine zB (zL (eg (q (ln (er (rs1 results85 (v:=(vi 0)) ⟨false,false,false,false,⟨hc1,hc3,hc4,hc5⟩,by kernel_rfl,(Ext.refl (F:=None) _).hst hs⟩))))))
theorem p_V1 (x1 y1:Int) (w0:World):Calls prog 85 #[(.int .i64 x1),(.int .i64 y1)] w0 (fun e w'=>e=.returned (.int .i64 (s_V1 x1 y1))∧Pure w0 w'):=by
 refine (pw_V1 x1 y1 w0).mono ?_;rintro e w' ⟨b'0,b'1,b'2,b'3,⟨e0,e1,e2,e3⟩,h,E⟩;subst e0;subst e1;subst e2;subst e3;exact ⟨h,E⟩
def s_F2 (x1:ByteArray):Bool :=(!(decide (x1=x1)))
theorem pw_F2 (x1:ByteArray) (w0:World) :
  Calls prog 158 #[(vs x1)] w0 (fun e w'=>(e=.returned (vb (!(decide (x1=x1)))))∧Pure w0 w'):=by
 refine cw (args:=[(vs x1)]) func158 ntmps158 (eg (q0 (vb false) (ln (eg (q0 (vs x1) (q0 (vs x1) (q2 (vb (!(decide (x1=x1)))) (uE (by kernel_rfl) (by kernel_rfl)) (q0 (vb (!(decide (x1=x1)))) ?_))))))))
 refine ln (er (rs1 results158 (v:=(vb (!(decide (x1=x1))))) ⟨by kernel_rfl,Ext.refl _⟩))
theorem p_F2 (x1:ByteArray) (w0:World):Calls prog 158 #[(.string x1)] w0 (fun e w'=>e=.returned (.bool (s_F2 x1))∧Pure w0 w'):=pw_F2 x1 w0
def m_T3 (x1 y1:ByteArray) (w0:World) (K:Int→WP):Prop :=Br (!(decide (x1=x1))) (Br (!(decide (y1=y1))) (∀w2,Hst w0 None w0 None w2→K 0 w2) (∀w2,Hst w0 None w0 None w2→K (-1) w2)) (Br (!(decide (y1=y1))) (∀w2,Hst w0 None w0 None w2→K 1 w2) (∀w2,Hst w0 None w0 None w2→∃b1,(Go.binOp .lss 9 (vs x1) (vs y1)).run prog w2=.ok (vb b1) w2∧Br b1 (K (-1) w2) (∃b2,(Go.binOp .gtr 9 (vs x1) (vs y1)).run prog w2=.ok (vb b2) w2∧Br b2 (K 1 w2) (K 0 w2))))
theorem w_T3 (x1 y1 w0 K) (h:m_T3 x1 y1 w0 K):
  Calls prog 86 #[(vs x1),(vs y1)] w0 (fun e w'=>∃r1,e=.returned (vi r1)∧K r1 w'):=by
 refine cw (args:=[(vs x1),(vs y1)]) func86 ntmps86 ?_
 obtain ⟨hs,hb⟩:=st0 w0
 refine eg (q (ln (eg (q (sc call158 ((p_F2 x1 w0).mono ?_))))))
 rintro e w1 ⟨he,hE⟩
 refine ⟨_,he,?_⟩
 obtain ⟨hs,hb⟩:=hs.pp hb hE
 refine q (ln (eg (q (sc call158 ((p_F2 y1 w1).mono ?_)))))
 rintro e w2 ⟨he,hE⟩
 refine ⟨_,he,?_⟩
 obtain ⟨hs,hb⟩:=hs.pp hb hE
 refine q (ln (zA (eg (q (ln (cbr h ?_ ?_))))))<;>intro h
 refine zA (eg (q (ln (cbr h ?_ ?_))))<;>intro h
 refine eg (q (ln (er (zX (zX ?_)))))
 have ⟨h,hs⟩:=hs.hr (h w2)
 refine rs1 results86 ⟨0,rfl,h⟩
 refine zB (zL (eg (q (ln (er (zX ?_))))))
 have ⟨h,hs⟩:=hs.hr (h w2)
 refine rs1 results86 ⟨(-1),rfl,h⟩
 refine zB (zL (zA (eg (q (ln (cbr h ?_ ?_))))))<;>intro h
 refine eg (q (ln (er (zX ?_))))
 have ⟨h,hs⟩:=hs.hr (h w2)
 refine rs1 results86 ⟨1,rfl,h⟩
 refine zB (zL (zA (eg (qb ?_))))
 have ⟨h,hs⟩:=hs.hr (h w2)
 obtain ⟨b1,hv2,h⟩:=h
 refine q2 (vb b1) (jIL (by kernel_rfl) (by kernel_rfl) (by kernel_rfl) hv2) (ln (cbr h ?_ ?_))<;>intro h
 refine eg (q (ln (er (zX (rs1 results86 ⟨(-1),rfl,h⟩)))))
 refine zB (zL (zA (eg (qb ?_))))
 obtain ⟨b2,hv1,h⟩:=h
 refine q2 (vb b2) (jIL (by kernel_rfl) (by kernel_rfl) (by kernel_rfl) hv1) (ln (cbr h ?_ ?_))<;>intro h
 refine eg (q (ln (er (zX (rs1 results86 ⟨1,rfl,h⟩)))))
 refine zB (zL (eg (q (ln (er (rs1 results86 ⟨0,rfl,h⟩))))))
def m_U3 (seq1:Value) (w0:World) (K:Sl→WP):Prop :=Calls prog 283 #[Sl.nil.v,seq1] w0 (fun e w1=>∃r1:Sl,e=.returned r1.v∧K r1 w1)
theorem w_U3 (seq1 w0 K) (h:m_U3 seq1 w0 K):
  Calls prog 206 #[seq1] w0 (fun e w'=>∃r2:Sl,e=.returned r2.v∧K r2 w'):=by
 refine cw (args:=[seq1]) func206 ntmps206 (eg (q0 Sl.nil.v (ln (eg (q0 seq1 ?_)))))
 refine sc call283 (h.mono fun e w1 ⟨r1,k,h⟩=>⟨_,k,?_⟩)
 refine q (ln (er (rs1 results206 ⟨r1,rfl,h⟩)))
def m_V3 (seq1:Value) (w0:World) (K:Sl→WP):Prop :=Calls prog 206 #[seq1] w0 (fun e w1=>∃r1:Sl,e=.returned r1.v∧Calls prog 207 #[r1.v] w1 (fun e w2=>e=.returned (.tuple #[])∧K r1 w2))
theorem w_V3 (seq1 w0 K) (h:m_V3 seq1 w0 K):
  Calls prog 152 #[seq1] w0 (fun e w'=>∃r2:Sl,e=.returned r2.v∧K r2 w'):=by
 refine cw (args:=[seq1]) func152 ntmps152 (eg (q0 Sl.nil.v (ln (eg (q0 seq1 ?_)))))
 refine sc call206 (h.mono fun e w1 ⟨r1,k,h⟩=>⟨_,k,?_⟩)
 refine q (ln (eg (q (sc call207 (h.mono fun e w2 ⟨k,h⟩=>⟨_,k,?_⟩)))))
 refine ln (eg (qb (ln (er (rs1 results152 ⟨r1,rfl,h⟩)))))
def m_W3 (s1:Sl) (w0:World) (K:Value→WP):Prop :=∀p1 w1,New w0 (.cells #[s1.v] 46) p1 w1→K (.func (.func 208) #[] #[(vp (some p1))]) w1
theorem w_W3 (s1 w0 K) (h:m_W3 s1 w0 K):
  Calls prog 153 #[s1.v] w0 (fun e w'=>∃r1:Value,e=.returned r1∧K r1 w'):=by
 refine cw (args:=[s1.v]) func153 ntmps153 (eg (sn (O:=(.cells #[s1.v] 46)) xb ?_))
 intro p1 w1 hn1
 have h:=h p1 w1 hn1
 refine q (ln (eg (qb (ln (er (rs1 results153 ⟨(.func (.func 208) #[] #[(vp (some p1))]),rfl,h⟩))))))
end Go.Proofs
end
section
namespace Go.SE
open Go.Sort Go.Shelf Go.Proofs
theorem jOK (w:World) (q:Nat):w.drewN q={ w with drawn:=w.drawn+q }:=rfl
theorem jHL {w w':World} (h:Pure w w'):∃q os,w'=Sort.grow (w.drewN q) os:=by
 refine ⟨w'.drawn - w.drawn,w'.heap.extract w.heap.size w'.heap.size,?_⟩;have hh:w'.heap=w.heap++w'.heap.extract w.heap.size w'.heap.size:=by
  apply Array.ext_getElem?;intro i;by_cases hi:i<w.heap.size
  ·rw [h.keep i hi id,Array.getElem?_append_left hi]
  ·rw [Array.getElem?_append_right (by omega),Array.getElem?_extract];by_cases h2:i<w'.heap.size
   ·rw [if_pos (by omega)];congr 1;omega
   ·rw [if_neg (by omega),Array.getElem?_eq_none (by omega)]
 have h1:=h.os;have h2:=h.tape;have h3:=h.output;have h4:=h.drawn;clear h;obtain ⟨a,b,c,d,e⟩:=w;obtain ⟨a',b',c',d',e'⟩:=w';simp only at h1 h2 h3 h4 hh;subst h1;subst h2;subst h3;rw [jOK];unfold Sort.grow;simp only [World.mk.injEq,and_true,true_and];exact ⟨hh,by omega⟩
theorem jFA {α:Type} [Inhabited α] (enc:α→List Value) (k:Nat) (hk:∀x,(enc x).length=k) (d:Array α):(flatK enc k d).toList=(d.toList.map enc).flatten:=by
 have hl:∀q∈d.toList.map enc,q.length=k:=by
  intro q hq;obtain ⟨x,_,rfl⟩:=List.mem_map.1 hq;exact hk x
 have hlen:(d.toList.map enc).flatten.length=d.size*k:=by rw [vX hl];simp
 apply List.ext_getElem?;intro t;by_cases ht:t<d.size*k
 ·have k0:0<k:=by rcases Nat.eq_zero_or_pos k with h | h;subst h;simp at ht;exact h
  have hd:t / k<d.size:=by rw [Nat.div_lt_iff_lt_mul k0];exact ht
  have hm:t % k<k:=Nat.mod_lt _ k0;have e:t=(t / k)*k+t % k:=(Nat.div_add_mod' t k).symm;have h1:=get_flatK enc k d t ht;rw [Array.getElem?_toList,Array.getElem?_eq_getElem (by simpa using ht)];rw [getElem!_pos _ t (by simpa using ht),getElem!_pos d _ hd,getElem!_pos _ (t % k) (by rw [hk];exact hm)] at h1;rw [h1];have h2:=jAR hl (i:=t / k) (by simpa using hd) hm;rw [← e] at h2;rw [h2,List.getElem_map,List.getElem?_eq_getElem (by rw [hk];exact hm)];simp
 ·rw [List.getElem?_eq_none (by simp;omega),List.getElem?_eq_none (by omega)]
variable {α:Type} [Inhabited α] {P:Program} {ρ:Ren} {k:Nat} {enc:α→List Value} {e:TypeId}
theorem Rws.holdsK {w:World} {s:Sl} {g:Nat} {cur:Array Value} {ds:List α} (hk:∀x,(enc x).length=k) (hg:w.heap[g]?=some (.cells cur e (0,0))) (ht:cur.toList.take (ds.length*k)=(ds.map enc).flatten):HoldsK enc k w g 0 ds.toArray:=by
 intro j hj;rw [size_flatK] at hj;have hf:=jFA enc k hk ds.toArray;simp only at hf;have hj':j<ds.length*k:=by simpa using hj
 have hsz:(flatK enc k ds.toArray).size=ds.length*k:=by simp
 have h1:cur.toList[j]?=(flatK enc k ds.toArray).toList[j]?:=by
  rw [hf,← ht,List.getElem?_take_of_lt hj']
 rw [Array.getElem?_toList,Array.getElem?_toList,Array.getElem?_eq_getElem (show j<(flatK enc k ds.toArray).size by omega)] at h1;refine ⟨?_,?_⟩
 ·unfold World.cell?;rw [hg];simp only [Option.isSome_none,Bool.false_eq_true,if_false,Nat.zero_add,id];rw [h1,getElem!_pos _ j (by omega)]
 ·unfold World.frozen?;rw [hg];simp
theorem jGT (L:SlLaysF0.n6 P ρ) (aE:∀w,(isAgg (ρ.t 24)).run P w=.ok true w) (zE:∀w,(Go.sizeOf (ρ.t 24)).run P w=.ok k w) (hk:∀x,(enc x).length=k) (h1:∀x,∀v∈enc x,v.oneCell'=true)
  (cf:α→α→Int) (hO:SWO (ltOf cf)) (g:Nat) (eg:∀args w,(callFunc g args).run P w=.ok (.enter g args) w)
  (hc:∀x y W,Calls P g #[.agg (enc x).toArray,.agg (enc y).toArray] W (fun o w'=>o=.returned (.int .i64 (cf x y))∧Pure W w'))
  {w:World} {s:Sl} {ds:List α} (hr:Rws w e k s (ds.map enc)) (hn:ds.length<4611686018427387904) :
  Calls P (ρ.f 6) #[s.v,.func (.func g) #[] #[]] w (fun o w'=>o=.returned (.tuple #[])∧∃ds':List α,ds'.Perm ds∧ds'.Pairwise (fun a b=>¬ cf b a<0)∧Rws w' e k s (ds'.map enc)∧Ext s.blk w w'):=by
 have hl:s.len=ds.length:=by rw [hr.len];simp
 rcases hr.own with ⟨rfl,hnil⟩ | ⟨b,cur,ha,hg,hcap,hm,hsz,ht⟩
 ·have hd:ds=[]:=by simpa using hnil
  subst hd
  refine (AnyF.slices_SortFunc_none L none 0 _ w).mono ?_
  rintro _ w' ⟨rfl,rfl⟩
  exact ⟨rfl,[],.refl _,.nil,hr,Ext.refl _⟩
 ·rw [List.length_map] at hcap ht
  have hH:HoldsK enc k w b 0 ds.toArray:=Rws.holdsK (s:=s) hk hg ht
  have hb:b<w.heap.size:=uN hg
  have hv:s.v=.slice (some ⟨b,0,none⟩) ds.toArray.size s.cap:=by unfold Sl.v;rw [ha,hl];simp
  rw [hv]
  refine (AnyQ.slices_SortFunc L k aE zE enc hk h1 cf hO g #[] b 0 s.cap ds.toArray w eg (fun m os dk _ x y=>?_) hH hb (by simpa using hn)).mono ?_
  ·refine (hc x y _).mono ?_
   rintro o w' ⟨rfl,hp⟩
   exact ⟨rfl,jHL hp⟩
  rintro _ w' ⟨rfl,d',n,os,hp,hs,rfl⟩
  obtain ⟨hps,_,hpp⟩:=hp
  have hps':d'.size=ds.length:=by simpa using hps
  have hperm:d'.toList.Perm ds:=by
   rw [← hps] at hpp;rw [Array.extract_size] at hpp;simpa [hps'] using hpp
  refine ⟨rfl,d'.toList,hperm,?_,?_,?_⟩
  ·rw [List.pairwise_iff_getElem]
   intro i j hi hj hij
   have hj':j<d'.size:=by simpa using hj
   have hi':i<d'.size:=by simpa using hi
   have:=hs i j (Nat.zero_le _) hij (by simp;omega)
   unfold ltOf at this
   rw [getElem!_pos d' i hi',getElem!_pos d' j hj'] at this
   simpa using this
  ·have hl2 : ∀ q ∈ d'.toList.map enc, q.length = k := by
    intro q hq;obtain ⟨x,_,rfl⟩:=List.mem_map.1 hq;exact hk x
   refine ⟨hl2,by rw [hl];simp [hps'],.inr ⟨b,putCells id 0 (flatK enc k d') cur,ha,?_,by simpa [hps'] using hcap,hm,by simp [putCells,hsz],?_⟩⟩
   ·unfold sortWorldK putRowK
    rw [heap_grow_old _ _ (by simpa using hb)]
    simp [putRow,mapBlock,Sort.ahead,Array.getElem?_modify,hg,onCells]
   ·rw [← jFA enc k hk d',List.length_map,Array.length_toList]
    apply List.ext_getElem?
    intro j
    have hle:ds.length*k≤s.cap*k:=Nat.mul_le_mul_right _ hcap
    by_cases hj:j<d'.size*k
    ·rw [List.getElem?_take_of_lt hj,Array.getElem?_toList,Array.getElem?_toList]
     unfold putCells
     rw [Array.getElem?_mapIdx,Array.getElem?_eq_getElem (show j<cur.size by rw [hsz];rw [hps'] at hj;omega),Option.map_some,if_pos ⟨Nat.zero_le _,by rw [size_flatK];omega⟩,Array.getElem?_eq_getElem (by rw [size_flatK];exact hj),Nat.sub_zero,getElem!_pos _ j (by rw [size_flatK];exact hj)]
     rfl
    ·rw [List.getElem?_eq_none (by simp;omega),List.getElem?_eq_none (by simp;omega)]
  ·refine ⟨rfl,rfl,rfl,Nat.le_add_right _ _,by unfold sortWorldK putRowK;simp [size_grow],fun i hi hf=>?_⟩
   have hne:b≠i:=fun e'=>hf ⟨_,ha,e'⟩
   unfold sortWorldK putRowK
   rw [heap_grow_old _ _ (by simpa using hi)]
   simp [putRow,mapBlock,Sort.ahead,Array.getElem?_modify,hne]
theorem jPG {α:Type} {sz:Nat}:∀(m:Nat) (l:List α),l.length=m*sz→∃qs:List (List α),qs.length=m∧(∀q∈qs,q.length=sz)∧qs.flatten=l
 | 0,l,h=>⟨[],rfl,by simp,by rw [Nat.zero_mul] at h;simp [List.length_eq_zero_iff.1 h]⟩
 | m+1,l,h=>by
  rw [Nat.succ_mul] at h;obtain ⟨qs,h1,h2,h3⟩:=jPG m (l.drop sz) (show (l.drop sz).length=m*sz by rw [List.length_drop];omega);refine ⟨l.take sz :: qs,by simp [h1],fun q hq=>?_,by simp [h3]⟩;rcases List.mem_cons.1 hq with rfl | hq
  ·rw [List.length_take];omega
  ·exact h2 q hq
theorem Rws.clearLo {P:Program} {t ty:TypeId} {sz bytes:Nat} {z:Value} (T:SlType P t e sz bytes) (hz:∀w,(zeroValue e).run P w=.ok z w) (hzs:z.cells.size=sz) (hz1:∀v∈z.cells.toList,qE v=true)
  {w:World} {s:Sl} {rs:List (List Value)} (h:Rws w e sz s rs) {k:IntKind} {n:Int} (h0:0≤n) (hn:n<rs.length) :
  ∃s':Sl,∃w':World,(∀w:World,(Instr.sliceAt t s.v (some (.int k n)) none none).run P w=.ok s'.v w)∧(Builtin.clear_ #[t] ty #[s'.v]).run P w=.ok (.tuple #[]) w'∧Ext s.blk w w'∧∃rs',Rws w' e sz s rs'∧rs'.length=rs.length∧rs'.take n.toNat=rs.take n.toNat:=by
 rcases h.own with ⟨rfl,rfl⟩ | ⟨g,cur,ha,hg,hc,hm,hs,ht⟩
 ·simp at hn;omega
 have B:Box w ⟨g,0,none⟩ cur.toList e:=⟨rfl,by simpa using hg⟩
 have hsl:s.len=rs.length:=h.len
 obtain ⟨m,hmm⟩:∃m,s.len - n.toNat=m+1:=⟨s.len - n.toNat - 1,by omega⟩
 have hzl:(Builtin.zeroCells z.cells (m+1)).toList.length=(m+1)*sz:=by simp [Builtin.zeroCells,hzs]
 have hzo:∀v∈(Builtin.zeroCells z.cells (m+1)).toList,qE v=true:=by
  intro v hv;simp only [Builtin.zeroCells,Array.toList_map,List.mem_map] at hv;obtain ⟨i,_,rfl⟩:=hv;have hp:0<z.cells.size:=by rw [hzs];exact T.pos
  rw [getElem!_pos z.cells _ (Nat.mod_lt _ hp)];exact hz1 _ (by simp)
 have hle:n.toNat*sz+(m+1)*sz=rs.length*sz:=by rw [← Nat.add_mul];congr 1;omega
 have hle2:rs.length*sz≤s.cap*sz:=Nat.mul_le_mul_right _ hc
 have hcl:cur.toList.length=s.cap*sz:=by simpa using hs
 generalize hzz:(Builtin.zeroCells z.cells (m+1)).toList=zs at *
 have hst:=xM (P:=P) ((⟨g,0,none⟩:Addr).add (n.toNat*sz)) zs 0 w hzo (fun j hj=>by rw [uP];exact B.canW (by rw [hcl];omega))
 have B2:=Box.storeAt zs 0 (n.toNat*sz) w _ B (by rw [hcl];omega)
 have hE:Ext (·=g) w (storeRowFrom w ((⟨g,0,none⟩:Addr).add (n.toNat*sz)) 0 zs):=by
  have:=Ext.storeRow w ((⟨g,0,none⟩:Addr).add (n.toNat*sz)) zs;rw [zW] at this;exact this
 obtain ⟨qs,q1,q2,q3⟩:=jPG (m+1) zs hzl
 have hcap:s.cap≠n.toNat:=by omega
 have hnl:n≤(s.len:Int):=by omega
 refine ⟨⟨some ((⟨g,0,none⟩:Addr).add (n.toNat*sz)),s.len - n.toNat,s.cap - n.toNat⟩,_,fun w=>?_,?_,hE.mono (fun b _ hb=>⟨_,ha,hb.symm⟩),rs.take n.toNat++qs,⟨?_,?_,.inr ⟨g,_,ha,B2.blk,?_,hm,?_,?_⟩⟩,?_,?_⟩
 ·simp [Instr.sliceAt,Instr.slice,Sl.v,run_underlying T.ht,Instr.sliceBounds,Instr.sliceBound,asIntOf,T.sizeOf,h0,hnl,hcap,ha]
 ·rw [hmm]
  simp [Builtin.clear_,Sl.v,run_underlying T.ht,hz,hzz,hst]
 ·intro q hq
  rcases List.mem_append.1 hq with hq | hq
  ·exact h.each q (List.mem_of_mem_take hq)
  ·exact q2 q hq
 ·rw [List.length_append,List.length_take,q1];omega
 ·rw [List.length_append,List.length_take,q1];omega
 ·simp only [List.size_toArray,List.length_append,List.length_take,List.length_drop,hcl,hzl];omega
 ·rw [List.length_append,List.length_take,q1,show min n.toNat rs.length+(m+1)=rs.length by omega,List.flatten_append,q3]
  have e1:rs=rs.take n.toNat++rs.drop n.toNat:=(List.take_append_drop _ _).symm
  have e2:((rs.take n.toNat).flatten).length=n.toNat*sz:=by rw [vX (fun r hr=>h.each r (List.mem_of_mem_take hr)),List.length_take,Nat.min_eq_left (by omega)]
  have e3:cur.toList.take (n.toNat*sz)=(rs.take n.toNat).flatten:=by
   calc cur.toList.take (n.toNat*sz)=(cur.toList.take (rs.length*sz)).take (n.toNat*sz):=by rw [List.take_take,Nat.min_eq_left (by omega)]
    _=((rs.take n.toNat).flatten++(rs.drop n.toNat).flatten).take (n.toNat*sz):=by rw [ht,← List.flatten_append,← e1]
    _=(rs.take n.toNat).flatten:=by rw [← e2,List.take_left]
  simp only [Nat.add_zero,e3]
  rw [List.take_append_of_le_length (by rw [List.length_append,e2,hzl];omega),List.take_of_length_le (by rw [List.length_append,e2,hzl];omega)]
 ·rw [List.length_append,List.length_take,q1];omega
 ·rw [List.take_append_of_le_length (by rw [List.length_take];omega),List.take_take,Nat.min_self]
theorem Rws.atLo {P:Program} {t:TypeId} {sz bytes:Nat} (T:SlType P t e sz bytes) {w:World} {s:Sl} {rs:List (List Value)} (h:Rws w e sz s rs) {k:IntKind} {n:Int} (h0:0≤n) (hn:n<rs.length) :
  ∃s':Sl,(∀w:World,(Instr.sliceAt t s.v (some (.int k n)) none none).run P w=.ok s'.v w)∧s'.len=rs.length - n.toNat∧∀(i:Nat) (a:Addr),n.toNat+i<rs.length→At s ((n.toNat+i:Nat):Int) sz a→At s' (i:Int) sz a:=by
 rcases h.own with ⟨rfl,rfl⟩ | ⟨g,cur,ha,hg,hc,hm,hs,ht⟩
 ·simp at hn;omega
 have hsl:s.len=rs.length:=h.len
 have hcap:s.cap≠n.toNat:=by omega
 have hnl:n≤(s.len:Int):=by omega
 refine ⟨⟨some ((⟨g,0,none⟩:Addr).add (n.toNat*sz)),s.len - n.toNat,s.cap - n.toNat⟩,fun w=>?_,by simp [hsl],fun i a hi hat=>?_⟩
 ·simp [Instr.sliceAt,Instr.slice,Sl.v,run_underlying T.ht,Instr.sliceBounds,Instr.sliceBound,asIntOf,T.sizeOf,h0,hnl,hcap,ha]
 ·obtain ⟨_,_,b,hb,rfl⟩:=hat
  rw [ha] at hb;cases hb
  refine ⟨by omega,by simp only [hsl];omega,_,rfl,?_⟩
  rw [uP,Int.toNat_natCast,Int.toNat_natCast,Nat.add_mul]
end Go.SE
end
section
open Go Go.SE
namespace Go.Sp
instance:Inhabited Fact:=⟨⟨0,0,0,⟨#[]⟩⟩⟩
def orF:List Int→Int
 | []=>0
 | a :: l=>if a≠0 then a else orF l
theorem jQD (a b:Fact):jIG a b=orF [jBT a.c b.c,jBT a.kind b.kind,jBT a.who b.who,jIH a.text b.text]:=by
 unfold jIG;simp only [orF];by_cases h1:jBT a.c b.c≠0
 ·rw [if_pos h1,if_pos h1]
 rw [if_neg h1,if_neg h1];by_cases h2:jBT a.kind b.kind≠0
 ·rw [if_pos h2,if_pos h2]
 rw [if_neg h2,if_neg h2];by_cases h3:jBT a.who b.who≠0
 ·rw [if_pos h3,if_pos h3]
 rw [if_neg h3,if_neg h3];by_cases h4:jIH a.text b.text=0 <;> simp [h4]
end Go.Sp
namespace Go.Proofs
open Tryz
attribute [local irreducible] Calls
theorem jOZ (x y:Int):s_U1 x y=Sp.jBT x y:=by
 unfold s_U1 Sp.jBT;by_cases h:x<y
 ·simp [h]
 ·by_cases h2:y<x <;> simp [h,h2]
theorem s_cmpN (x y:Int):s_V1 x y=Sp.jBT x y:=jOZ x y
theorem jOV (x y:ByteArray) (w0:World):Calls prog 86 #[.string x,.string y] w0 (fun e w'=>∃r:Int,e=.returned (.int .i64 r)∧(r=Sp.jIH x y∧Pure w0 w')):=by
 refine w_T3 x y w0 (fun r w'=>r=Sp.jIH x y∧Pure w0 w') ?_;unfold m_T3;refine Br.f (by simp) (Br.f (by simp) fun w2 hs2=>?_);have E:=hs2.first;refine ⟨Op.bytesLess x.toList y.toList,by rw [binOp_string_lss];rfl,fun h=>⟨by unfold Sp.jIH;rw [if_pos h],E⟩,fun h=>?_⟩;refine ⟨!(Op.bytesLess x.toList y.toList || x.toList == y.toList),by simp [binOp,Op.stringOp],fun h2=>⟨?_,E⟩,fun h2=>⟨?_,E⟩⟩
 all_goals
  unfold Sp.jIH
  rw [if_neg (by rw [h];simp)]
  rw [h] at h2
 ·rw [if_neg];intro e;subst e;simp at h2
 ·rw [if_pos (Sp.toList_inj (by simpa using h2))]
theorem jQF {S:NP} (p:Addr) (ts:List Int) (hn:ts.length≤1000) (w0:World) (hL:Lst S w0 1 ⟨some p,ts.length,ts.length⟩ (tmr ts)):Calls prog 83 #[(Sl.mk (some p) ts.length ts.length).v] w0 (fun e w'=>∃r:Int,e=.returned (.int .i64 r)∧(r=Sp.orF ts∧Pure w0 w')):=by
 suffices key:∀K:Int→WP,(∀w',Pure w0 w'→K (Sp.orF ts) w')→m_K1 ⟨some p,ts.length,ts.length⟩ w0 K from
  w_K1 _ w0 _ (key _ (fun _ h=>⟨rfl,h⟩))
 intro K hK;unfold m_K1;refine ⟨fun i w'=>∃j:Nat,i=j∧j≤ts.length∧w'=w0∧Sp.orF ts=Sp.orF (ts.drop j),fun i _=>((ts.length:Int) - i).toNat,⟨0,rfl,Nat.zero_le _,rfl,rfl⟩,?_⟩;rintro _ wl ⟨j,rfl,hj,rfl,ho⟩;unfold m_K1_l1;refine ⟨fun h=>?_,fun h=>?_⟩
 ·have hlt:=qI (n:=ts.length) rfl h;obtain ⟨a,hat,_,hc⟩:=jDH hL hlt;rw [List.drop_eq_getElem_cons hlt,Sp.orF] at ho;refine ⟨a,hat,_,hc,fun h2=>?_,fun h2=>?_⟩
  ·rw [if_pos (by simpa using h2)] at ho;rw [ho] at hK;exact hK _ (Ext.refl _)
  ·rw [if_neg (by simpa using h2)] at ho;rw [vM hlt (by omega)];exact ⟨⟨j+1,rfl,hlt,rfl,ho⟩,uA hlt⟩
 ·have hge:=qK (n:=ts.length) rfl hj h;rw [hge,List.drop_length,Sp.orF] at ho;rw [ho] at hK;exact hK _ (Ext.refl _)
theorem jIE (a b:Sp.Fact) (w0:World):Calls prog 28 #[.agg (jBS a).toArray,.agg (jBS b).toArray] w0 (fun e w'=>∃r:Int,e=.returned (.int .i64 r)∧(r=Sp.jIG a b∧Pure w0 w')):=by
 refine w_P3 a.kind a.who a.c a.text b.kind b.who b.c b.text w0 (fun r w'=>r=Sp.jIG a b∧Pure w0 w') ?_;unfold m_P3;intro H2 w2 hs2;have E2:=hs2.first;refine ⟨Pure w0,E2.trans (Ext.drew _),?_⟩;rintro _ rfl;have E3:=E2.trans (Ext.drew (F:=None) w2);refine (p_U1 a.c b.c _).mono ?_;rintro _ w4 ⟨rfl,E4⟩;refine ⟨_,rfl,E3.trans E4,E4.keptP,(p_V1 a.kind b.kind _).mono ?_⟩;rintro _ w5 ⟨rfl,E5⟩;refine ⟨_,rfl,(E3.trans E4).trans E5,E5.keptP,(p_V1 a.who b.who _).mono ?_⟩;rintro _ w6 ⟨rfl,E6⟩;refine ⟨_,rfl,((E3.trans E4).trans E5).trans E6,E6.keptP,(jOV a.text b.text _).mono ?_⟩;rintro _ w7 ⟨_,rfl,rfl,E7⟩;have E07:=(((E3.trans E4).trans E5).trans E6).trans E7;refine ⟨_,rfl,E07,E7.keptP,fun p3 w8 h8=>⟨E07.trans (Ext.new h8),?_⟩⟩;have E08:=E07.trans (Ext.new (F:=None) h8);have R:=Rws.lit (sz:=1) (rs:=tmr [Sp.jBT a.c b.c,Sp.jBT a.kind b.kind,Sp.jBT a.who b.who,Sp.jIH a.text b.text]) h8 (by simp [tmr,jOZ,s_cmpN]) (by simp [tmr]) (by simp [tmr,maxLen]);refine (jQF p3 [Sp.jBT a.c b.c,Sp.jBT a.kind b.kind,Sp.jBT a.who b.who,Sp.jIH a.text b.text] (by simp) w8 R.lst).mono ?_;rintro _ w9 ⟨_,rfl,rfl,E9⟩;exact ⟨_,rfl,E08.trans E9,E9.keptP,(Sp.jQD a b).symm,E08.trans E9⟩
theorem jLG (s:Sl) (fs:List Sp.Fact) (w0:World) (hr:Rws w0 75 4 s (fs.map jBS)) (hn:fs.length≤1000000) :
  Calls prog 81 #[s.v,.func (.func 28) #[] #[]] w0 (fun e w'=>e=.returned (.tuple #[])∧∃fs':List Sp.Fact,fs'.Perm fs∧fs'.Pairwise (fun a b=>¬ Sp.jIG b a<0)∧Rws w' 75 4 s (fs'.map jBS)∧Ext s.blk w0 w'):=by
 have h:=jGT sortF isAgg75 sizeOf75 (enc:=jBS) (fun _=>rfl) (fun x v hv=>by simp [jBS] at hv;rcases hv with rfl | rfl | rfl | rfl <;> rfl) Sp.jIG Sp.swoF 28
  (enters_of func28 (by kernel_rfl) rfl) (fun x y W=>(jIE x y W).mono (by rintro _ w' ⟨_,rfl,rfl,E⟩;exact ⟨rfl,E⟩)) hr (by omega)
 exact h
end Go.Proofs
end
section
open Go Go.SE
namespace Go.Proofs
open Tryz
attribute [local irreducible] Calls
theorem jCX (g h:Sp.Fact):((g.kind == h.kind) && ((g.who == h.who) && ((g.c == h.c) && decide (g.text=h.text))))=decide (g=h):=by
 obtain ⟨a,b,c,d⟩:=g;obtain ⟨a',b',c',d'⟩:=h;rw [Bool.eq_iff_iff];simp [Sp.Fact.mk.injEq]
theorem jNL (s:Sl) (fs:List Sp.Fact) (w0:World) (hr:Rws w0 75 4 s (fs.map jBS)) (hn:fs.length≤1000000) :
  Calls prog 82 #[s.v] w0 (fun e w'=>∃r:Sl,e=.returned r.v∧(Rws w' 75 4 r ((Sp.jAT fs).map jBS)∧Ext s.blk w0 w'∧∀b,r.blk b→s.blk b)):=by
 suffices key:∀K:Sl→WP,(∀r w',Rws w' 75 4 r ((Sp.jAT fs).map jBS)→Ext s.blk w0 w'→(∀b,r.blk b→s.blk b)→K r w')→m_V s w0 K from
  w_V _ w0 _ (key _ (fun _ _ h1 h2 h3=>⟨h1,h2,h3⟩))
 intro K hK
 unfold m_V
 have hl:s.len=fs.length:=by rw [hr.len];simp
 have hsb:∀b,s.blk b→b<w0.heap.size:=fun b hb=>hr.lt hb
 refine ⟨fun h=>?_,fun h=>?_⟩
 ·have h:=of_decide_eq_true h
  refine hK s w0 ?_ (Ext.refl _) (fun _ h=>h)
  have:Sp.jAT fs=fs:=by
   match fs,hl,h with
   | [],_,_=>rfl
   | [a],_,_=>rfl
   | a :: b :: l,hl,h=>simp [hl] at h;omega
  rw [this];exact hr
 have h2:2≤fs.length:=by have h:=of_decide_eq_false h;omega
 obtain ⟨f0,fr,rfl⟩:∃f0 fr,fs=f0 :: fr:=by
  cases fs with
  | nil=>simp at h2
  | cons a l=>exact ⟨a,l,rfl⟩
 generalize hfs:f0 :: fr=fs at *
 have hc0:Sp.jAT fs=fs.take 1++Sp.tF fs[0] (fs.drop 1):=by subst hfs;rfl
 refine ⟨fun k H w'=>∃j:Nat,k=j∧1≤j∧∃hj:j≤fs.length,Pure w0 w'∧Own H w' 75 4 s (fs.map jBS)∧Sp.jAT fs=fs.take j++Sp.tF (fs[j-1]'(by omega)) (fs.drop j),fun k _=>((fs.length:Int) - k).toNat,⟨1,rfl,Nat.le_refl _,by omega,Ext.refl _,⟨hr,fun _ _ h=>h⟩,hc0⟩,?_⟩
 rintro _ Hl wl hl1 ⟨j,rfl,hj1,hj,El,Ol,hc⟩
 unfold m_V_l1
 refine ⟨fun hb=>?_,fun hb=>?_⟩
 ·have hlt:=qI hl hb
  obtain ⟨a1,hat1,_⟩:=Ol.nth hlt
  refine ⟨a1,hat1,fun w1 hs1=>?_⟩
  have O1:=Ol.hst hs1
  have E1:=El.hst hs1
  obtain ⟨a1',hat1',hrow1⟩:=O1.nth hlt
  obtain ⟨a2,hat2,hrow2⟩:=O1.nth (show j - 1<fs.length by omega)
  have hw:IntKind.i64.wrap ((j:Int) - 1)=((j - 1:Nat):Int):=by rw [i64 (by omega) (by omega)];omega
  have ha:a1=a1':=by
   obtain ⟨_,_,b,hb,rfl⟩:=hat1;obtain ⟨_,_,b',hb',rfl⟩:=hat1';rw [hb] at hb';cases hb';rfl
  rw [← ha] at hrow1
  rw [hw]
  refine ⟨_,_,_,_,hrow1,a2,hat2,_,_,_,_,hrow2,fun hd=>?_,fun hd=>?_⟩
  ·rw [jCX] at hd
   have hd:=of_decide_eq_true hd
   obtain ⟨s2,hrun2,hlen2,hat⟩:=O1.rows.atLo jBG (k:=.i64) (n:=(j:Int)) (by omega) (by simp;omega)
   have hlen2:s2.len=fs.length - j:=by simpa using hlen2
   refine ⟨s2,hrun2 w1,fun k2 k21 H w'=>∃a i:Nat,k2=a∧k21=i∧1≤i∧1≤a∧a<j+i∧∃hi:j+i≤fs.length,∃ls:List Sp.Fact,ls.length=fs.length∧ls.drop (j+i - 1)=fs.drop (j+i - 1)∧Ext s.blk w0 w'∧Own H w' 75 4 s (ls.map jBS)∧Sp.jAT fs=ls.take a++Sp.tF (fs[j+i - 1]'(by omega)) (fs.drop (j+i)),fun _ k21 _=>((fs.length:Int) - k21).toNat,?_,?_⟩
   ·refine ⟨j,1,rfl,rfl,Nat.le_refl _,hj1,by omega,hlt,fs,rfl,rfl,Ext.pure E1,O1,?_⟩
    rw [hc,List.drop_eq_getElem_cons hlt,Sp.tF,if_pos hd.symm]
    rfl
   rintro _ _ H2 w2 hs2 ⟨a,i,rfl,rfl,hi1,ha1,hai,hi,ls,hll,hdr,E2,O2,hcc⟩
   unfold m_V_l2
   have hget:∀q,(h:q<fs.length)→j+i - 1≤q→ls[q]'(by omega)=fs[q]:=by
    intro q h hq;have e:=congrArg (fun l=>l[q - (j+i - 1)]?) hdr;simp only [List.getElem?_drop] at e;rw [show j+i - 1+(q - (j+i - 1))=q by omega,List.getElem?_eq_getElem (by omega),List.getElem?_eq_getElem h] at e;exact Option.some.inj e
   refine ⟨fun hb2=>?_,fun hb2=>?_⟩
   ·have hlt2:j+i<fs.length:=by have:=of_decide_eq_true hb2;omega
    obtain ⟨a3,hat3,_⟩:=O2.nth (show j+i<ls.length by omega)
    have up:∀(q:Nat) (x:Addr),j+q<fs.length→At s ((j+q:Nat):Int) 4 x→At s2 (q:Int) 4 x:=fun q x hq hx=>hat q x (by simpa using hq) (by simpa using hx)
    refine ⟨a3,up i a3 hlt2 hat3,fun w3 hs3=>?_⟩
    have O3:=O2.hst hs3
    have E3:=E2.hst hs3
    obtain ⟨a3',hat3',hrow3⟩:=O3.nth (show j+i<ls.length by omega)
    have ha3:a3=a3':=by
     obtain ⟨_,_,b,hb,rfl⟩:=hat3;obtain ⟨_,_,b',hb',rfl⟩:=hat3';rw [hb] at hb';cases hb';rfl
    rw [← ha3] at hrow3
    obtain ⟨a4,hat4,hrow4⟩:=O3.nth (show j+(i - 1)<ls.length by omega)
    have hw2:IntKind.i64.wrap ((i:Int) - 1)=((i - 1:Nat):Int):=by rw [i64 (by omega) (by omega)];omega
    rw [hw2]
    rw [hget (j+i) hlt2 (by omega)] at hrow3
    have e4:ls[j+(i - 1)]'(by omega)=fs[j+i - 1]'(by omega):=by
     rw [hget (j+(i - 1)) (by omega) (by omega)];congr 1;omega
    rw [e4] at hrow4
    rw [List.drop_eq_getElem_cons hlt2,Sp.tF] at hcc
    refine ⟨_,_,_,_,hrow3,a4,up (i - 1) a4 (by omega) hat4,_,_,_,_,hrow4,fun hd2=>?_,fun hd2=>?_⟩
    ·rw [jCX] at hd2
     have hd2:¬ fs[j+i]=fs[j+i - 1]'(by omega):=by simpa using hd2
     rw [if_neg (fun e=>hd2 e.symm)] at hcc
     obtain ⟨a6,hat6,hcw,hset⟩:=O3.rows.set (i:=a) (r:=jBS fs[j+i]) (by simp;omega) rfl rfl
     refine ⟨a3,up i a3 hlt2 hat3,_,_,_,_,hrow3,a6,hat6,hcw,?_,fun w4 hw4=>?_⟩
     ·obtain ⟨_,_,b,hb,rfl⟩:=hat6
      exact O3.vis _ ⟨b,hb,by rw [zW]⟩
     obtain ⟨hR,hE⟩:=hset w4 hw4
     rw [vM (show a<fs.length by omega) (by omega),vM (show i<fs.length by omega) (by omega)]
     refine ⟨⟨a+1,i+1,rfl,rfl,by omega,by omega,by omega,by omega,ls.set a fs[j+i],by simpa using hll,?_,E3.trans hE,⟨by rw [List.map_set];exact hR,O3.vis⟩,?_⟩,uA (show i<fs.length by omega)⟩
     ·rw [List.drop_set_of_lt (by omega)]
      have e:=congrArg (List.drop 1) hdr
      rw [List.drop_drop,List.drop_drop] at e
      rw [show j+(i+1) - 1=j+i - 1+1 by omega];exact e
     ·rw [hcc,List.take_succ_eq_append_getElem (by rw [List.length_set];omega),List.take_set_of_le (Nat.le_refl _),List.getElem_set_self,List.append_assoc]
      rfl
    ·rw [jCX] at hd2
     have hd2:fs[j+i]=fs[j+i - 1]'(by omega):=by simpa using hd2
     rw [if_pos hd2.symm] at hcc
     rw [vM (show i<fs.length by omega) (by omega)]
     refine ⟨⟨a,i+1,rfl,rfl,by omega,by omega,by omega,by omega,ls,hll,?_,E3,O3,?_⟩,uA (show i<fs.length by omega)⟩
     ·have e:=congrArg (List.drop 1) hdr
      rw [List.drop_drop,List.drop_drop] at e
      rw [show j+(i+1) - 1=j+i - 1+1 by omega];exact e
     ·rw [hcc];rfl
   ·have hge:j+i=fs.length:=by have:=of_decide_eq_false hb2;omega
    rw [List.drop_eq_nil_of_le (by omega),Sp.tF,List.append_nil] at hcc
    obtain ⟨s3,w4,hrun3,hclr,hE4,rs',hR',hl',htk⟩:=O2.rows.clearLo (P:=prog) (t:=71) (ty:=0) jBG (z:=.agg #[.int .i64 0,.int .i64 0,.int .u64 0,.string ⟨#[]⟩]) (fun w=>zeroValue75 w) rfl (by intro v hv;simp [Value.cells] at hv;rcases hv with rfl | rfl | rfl | rfl <;> rfl) (k:=.i64) (n:=(a:Int)) (by omega) (by simp;omega)
    obtain ⟨s4,hrun4,hR4,hb4⟩:=hR'.hiA (P:=prog) jBG (k:=.i64) (n:=(a:Int)) (by omega) (by rw [hl'];simp;omega)
    refine ⟨s3,hrun3 w2,w4,hclr,hE4.kept (fun b hb hs=>O2.vis b hs hb),s4,hrun4 w4,hK s4 w4 ?_ (E2.trans hE4) (fun b hb=>(hb4 b).1 hb)⟩
    rw [htk] at hR4
    rw [hcc,List.map_take];simpa using hR4
  ·rw [jCX] at hd
   have hd:¬ fs[j]=fs[j - 1]'(by omega):=by simpa using hd
   rw [List.drop_eq_getElem_cons hlt,Sp.tF,if_neg (fun e=>hd e.symm)] at hc
   rw [vM hlt (by omega)]
   refine ⟨⟨j+1,rfl,by omega,hlt,E1,O1,?_⟩,uA hlt⟩
   rw [hc,List.take_succ_eq_append_getElem hlt,List.append_assoc]
   rfl
 ·have hge:=qK hl hj hb
  subst hge
  rw [List.drop_length,Sp.tF,List.append_nil,List.take_length] at hc
  exact hK s wl (by rw [hc];exact Ol.rows) (Ext.pure El) (fun _ h=>h)
end Go.Proofs
end
section
open Go Go.SE
open Go.IntKind renaming i64 → q6
namespace Go.Proofs
open Tryz
set_option maxRecDepth 100000
set_option maxHeartbeats 4000000
attribute [local irreducible] wpL wpX opE wpE Calls
def m_S1_l1 (yield1:Value) (v1:Sl) (x1:Int) (wl1:World) (Kc1:Int→WP) (K:WP):Prop :=Br (decide (x1<(v1.len:Int))) (∃a1:Addr,At v1 x1 1 a1∧∃v2,wl1.cell? a1=some (vi v2)∧∃(ly1:Nat),yield1=.func (.yield ly1) #[] #[]∧Yld prog ly1 #[(vi v2)] wl1 (fun e w1=>∃b1,e=.returned (vb b1)∧Br (!b1) (K w1) (Kc1 (q6.wrap (x1+1)) w1))) (K wl1)
def m_S1 (yield1:Value) (cap1:Addr) (w0:World) (K:WP):Prop :=∃v1:Sl,w0.cell? cap1=some v1.v∧∃(I1:Int→WP) (mu1:Int→World→Nat),I1 0 w0∧∀(x1:Int) (wl1:World),I1 x1 wl1→m_S1_l1 yield1 v1 x1 wl1 (fun y'0 w'=>I1 y'0 w'∧mu1 y'0 w'<mu1 x1 wl1) K
theorem w_S1 (yield1 cap1 w0 K) (h:m_S1 yield1 cap1 w0 K):
  Calls prog 208 #[yield1,(vp (some cap1))] w0 (fun e w'=>e=.returned (.tuple #[])∧K  w'):=by
 refine cw (args:=[yield1,(vp (some cap1))]) func208 ntmps208 (eg ?_)
 refine ql (isAgg46 _) h fun v1 h=>qb (ln (zK ?_))
 obtain ⟨I1,mu1,h0,hr⟩:=h
 refine vQ (σ:=Int×World) (fun s ρ w=>w=s.2∧Has ρ [(0,yield1),(5,v1.v),(6,(vi (v1.len:Int))),(7,(vi s.1))]∧I1 s.1 s.2) (fun s=>mu1 s.1 s.2) (0,w0) ⟨rfl,hm,h0⟩ ?_
 rintro ⟨x1,wl1⟩ ρ w ⟨hw,hH,hI⟩
 dsimp only at hw hH;subst w
 have h:=hr x1 wl1 hI
 refine zV hH (eg (q (ln (zA (cbr h ?_ ?_)))))<;>intro h
 refine zB (zL (zA (zK (eg (qi (runUnderlying46 _) (sizeOf78 _) h fun a1 h=>ql (isAgg78 _) h fun v2 h=>q (ln (eg (qb ?_))))))))
 obtain ⟨ly1,hy1,h⟩:=h
 refine jNV (zR rfl) (by kernel_rfl) hy1 (by kernel_rfl) (h.mono ?_)
 rintro e w1 ⟨b1,rfl,h⟩
 refine ⟨_,rfl,?_⟩
 refine q (ln (cbr h ?_ ?_))<;>intro h
 refine er (qW (zX (zX (qW (jPD (.inl rfl) results208 ⟨rfl,h⟩)))))
 refine zB (uM (zL (rg (qb (ln ⟨((q6.wrap (x1+1)),w1),⟨rfl,hm,h.1⟩,h.2⟩)))))
 refine vO (uI (uI (uD (jPD (.inr rfl) results208 ⟨rfl,h⟩))))
def m_X3 (s1:Sl) (seq1:Value) (w0:World) (K:Sl→WP):Prop :=∀p1 w1,New w0 (.cells #[s1.v] 46) p1 w1→∃(f1:FuncId) (cs1:Array Value),seq1=.func (.func f1) #[] cs1∧(∀args w,(callFunc f1 args).run prog w=.ok (.enter f1 args) w)∧∃(xs1:List (Int)) (Rd1:WP),jJP prog f1 cs1 (fun (z2:Int)=>#[(vi z2)]) xs1 Rd1 w1∧∃(I1:List (Int)→NP→WP),RngI w0 Rd1 I1 (fun _ _ _=>False) (fun _ _ _=>False)∧I1 [] None w1∧(∀(pre1:List (Int)) (z2:Int) (Y1:NP) (A1:World),I1 pre1 Y1 A1→Hst w0 Y1 A1 Y1 A1→(∃post,xs1=pre1++z2 :: post)→∃v1:Sl,A1.cell? p1=some v1.v∧∀p2 w3,New A1 (.cells #[(vi z2)] 78) p2 w3→∃s2:Sl,∃w4:World,(Builtin.append_ #[46,46] 46 #[v1.v,(Sl.mk (some p2) 1 1).v]).run prog w3=.ok s2.v w4∧Kept None w3 w4∧vF w4 p1∧¬ None p1.block∧∀w5,w5=w4.setCell p1 s2.v→Kept Y1 A1 w5∧I1 (pre1++[z2]) Y1 w5)∧∀H1 w6,Hst w0 H1 w6 H1 w6→(∀b,None b→H1 b)→Kept None w1 w6→I1 xs1 H1 w6→∃v2:Sl,w6.cell? p1=some v2.v∧∀w7,Hst w0 H1 w6 H1 w7→K v2 w7
theorem w_X3 (s1 seq1 w0 K) (h:m_X3 s1 seq1 w0 K):
  Calls prog 283 #[s1.v,seq1] w0 (fun e w'=>∃r1:Sl,e=.returned r1.v∧K r1 w'):=by
 refine cw (args:=[s1.v,seq1]) func283 ntmps283 ?_
 obtain ⟨hs,hb⟩:=st0 w0
 refine eg (nw2 hs hb h xb fun p1 w1 hs hb h=>q (ln (jNT (rg (q0 seq1 (ln ?_))))))
 obtain ⟨f1,cs1,hv1,hf1,h⟩:=h
 obtain ⟨xs1,Rd1,hit,I1,hRI,h0,hbody,h⟩:=h
 refine jLN (encs:=(fun (z2:Int)=>#[(vi z2)])) (Eq.trans (b:=seq1) (by kernel_rfl) hv1) hf1 hit (fun _=>rfl) (by decide) hs I1 (fun _ _ _=>False) (fun _ _ _=>False) hRI h0 ?ha ?hr ?ht
 case ha =>
  intro l z2 w8
  refine rg (q (ln ⟨rfl,?_⟩))
  intro pre1 Y1 A1 hi hY hpost
  have h:=hbody pre1 z2 Y1 A1 hi hY hpost
  obtain ⟨hs,hb⟩:=st0 A1
  refine zK (rg (ql (isAgg46 _) h fun v1 h=>q (tR (O:=(.cells #[(vi z2)] 78)) (fun p=>(Sl.mk (some p) 1 1).v) (zR rfl) (vL (vs:=#[(0,(vi z2))]) (by kernel_rfl) (by kernel_rfl)) ?_)))
  intro p2 w3 hn2
  have h:=h p2 w3 hn2
  obtain ⟨hs,hb⟩:=hs.nw hb hn2
  obtain ⟨s2,w4,hv2,hk,h⟩:=h
  refine st (v:=s2.v) (zR rfl) (vT (args:=#[v1.v,(Sl.mk (some p2) 1 1).v]) (by kernel_rfl) (fun _=>rfl) hv2) ?_
  obtain ⟨hs,hb⟩:=hk.hh hs hb
  refine st2 (sizeOf46 _) hs hb h fun w5 hs hb h=>zC (uM ?_)
  exact rd_n h
 case hr =>
  intro D1 H1 w6 hs' hD hDe aA hk1 hio1
  have hb':=hb.behind hk1 aA hD hDe
  have hs:=hs'
  have hb:=hb'
  have h:=h H1 w6 hs aA hk1 (hio1.elim id (fun h=>h.elim (fun _ h=>h.elim)))
  refine eg (ql (isAgg46 _) h fun v2 h=>q (ln (er (af_r hb.dead ?_))))
  intro w7 hw'
  have hl:=hb.leave hs hw'
  obtain ⟨hs,hb⟩:=hl
  -- behind the loop
  have ⟨h,hs⟩:=hs.hr (h w7)
  refine rs1 results283 ⟨v2,rfl,h⟩
 case ht =>
  intro _ _ _ _ _ _ _ h
  exact h.elim
end Go.Proofs
end
section
open Go Go.SE Go.Sort
namespace Go.Proofs
open Tryz
abbrev SP (w0:World) (s:Sl) (Q:List Int→Prop) (w':World):Prop:=∃l,Rws w' 78 1 s (tmr l)∧Ext s.blk w0 w'∧Q l
theorem jJS (l:List Int):(tmr l).flatten=l.map (Value.int .i64):=by
 induction l with
 | nil=>rfl
 | cons a l ih=>simp only [tmr,List.map_cons,List.flatten_cons] at *;rw [ih];rfl
theorem c_Sort (s:Sl) (l:List Int) (w0:World) (h:Rws w0 78 1 s (tmr l)) (hn:l.length≤1000000) :
  Calls prog 207 #[s.v] w0 (fun e w'=>e=.returned (.tuple #[])∧SP w0 s (fun l'=>l'.Perm l∧l'.Pairwise (·≤·)) w'):=by
 have hl:s.len=l.length:=by rw [h.len];simp [tmr]
 rcases h.own with ⟨rfl,hnil⟩ | ⟨b,cur,ha,hg,hc,hm,hs,ht⟩
 ·have hd:l=[]:=by simpa [tmr] using hnil
  subst hd
  refine (show Calls prog 207 #[Sl.nil.v] w0 _ from AnyG.slices_Sort_int_none sortT none 0 w0).mono ?_
  rintro _ w' ⟨rfl,rfl⟩
  exact ⟨rfl,[],h,Ext.refl _,.refl _,.nil⟩
 have hlen:(tmr l).length=l.length:=by simp [tmr]
 rw [jJS,hlen,Nat.mul_one] at ht
 rw [hlen] at hc
 rw [Nat.mul_one] at hs
 have hb:b<w0.heap.size:=uN hg
 have hget:∀j,j<l.length→∃hj:j<l.length,cur[j]?=some (.int .i64 l[j]):=fun j hj=>⟨hj,by
  have:cur.toList[j]?=(cur.toList.take l.length)[j]?:=by rw [List.getElem?_take_of_lt hj]
  rw [← Array.getElem?_toList,this,ht,List.getElem?_map,List.getElem?_eq_getElem hj];rfl⟩
 have hH:Holds (Value.int .i64) w0 b 0 l.toArray:=by
  intro j hj;have hj:j<l.length:=by simpa using hj
  obtain ⟨_,e⟩:=hget j hj;refine ⟨?_,?_⟩
  ·unfold World.cell?;rw [hg];simp only [Option.isSome_none,Bool.false_eq_true,if_false,Nat.zero_add];rw [e,getElem!_pos l.toArray j (by simpa using hj)];simp
  ·unfold World.frozen?;rw [hg];simp
 have hv:s.v=.slice (some ⟨b,0,none⟩) l.length s.cap:=by unfold Sl.v;rw [ha,hl]
 rw [hv]
 refine (show Calls prog 207 #[.slice (some ⟨b,0,none⟩) l.length s.cap] w0 _ from AnyG.slices_Sort_int sortT b 0 s.cap l w0 hH hb (by omega)).mono ?_
 rintro _ w' ⟨rfl,n,os,rfl⟩
 have hp:(l.mergeSort fun x y=>decide (x≤y)).Perm l:=List.mergeSort_perm l _
 have hsd:(l.mergeSort fun x y=>decide (x≤y)).Pairwise (·≤·):=by
  have:=List.pairwise_mergeSort (le:=fun x y:Int=>decide (x≤y)) (fun a b c h1 h2=>by simp at *;omega) (fun a b=>by simp;omega) l;simpa using this
 have hq:(l.mergeSort fun x y=>decide (x≤y)).length=l.length:=hp.length_eq
 generalize (l.mergeSort fun x y=>decide (x≤y))=q at *
 refine ⟨rfl,q,⟨?_,?_,.inr ⟨b,putCells (Value.int .i64) 0 q.toArray cur,ha,?_,by simp [tmr];omega,hm,by simp [putCells,hs],?_⟩⟩,?_,hp,hsd⟩
 ·intro r hr;simp [tmr] at hr;obtain ⟨t,_,rfl⟩:=hr;rfl
 ·rw [hl];simp [tmr,hq]
 ·rw [heap_grow_old _ _ (by simpa using hb)]
  simp [putRow,mapBlock,Sort.ahead,Array.getElem?_modify,hg,onCells]
 ·rw [jJS]
  apply List.ext_getElem?
  intro j
  have e1:(tmr q).length*1=q.length:=by simp [tmr]
  rw [e1]
  by_cases hj:j<q.length
  ·rw [List.getElem?_take_of_lt hj,Array.getElem?_toList]
   unfold putCells
   rw [Array.getElem?_mapIdx,Array.getElem?_eq_getElem (show j<cur.size by omega),Option.map_some,if_pos ⟨Nat.zero_le _,by simp;omega⟩,Nat.sub_zero,getElem!_pos _ j (by simpa using hj),List.getElem?_map,List.getElem?_eq_getElem hj]
   simp
  ·rw [List.getElem?_eq_none (by simp;omega),List.getElem?_eq_none (by simp;omega)]
 ·refine ⟨rfl,rfl,rfl,Nat.le_add_right _ _,by simp [size_grow],fun i hi hf=>?_⟩
  have hne:b≠i:=fun e'=>hf ⟨_,ha,e'⟩
  rw [heap_grow_old _ _ (by simpa using hi)]
  simp [putRow,mapBlock,Sort.ahead,Array.getElem?_modify,hne]
end Go.Proofs
end
section
open Go Go.SE
open Go.IntKind renaming i64 → q6
namespace Go.Proofs
open Tryz
set_option maxRecDepth 100000
set_option maxHeartbeats 4000000
attribute [local irreducible] wpL wpX opE wpE Calls
def m_Y3 (p1:Option Addr) (w0:World) (K:(Option Addr)→WP):Prop :=Br (Option.isNone p1) (K none w0) (∀p2 w1,New w0 (.map #[] 0) p2 w1→∀p3 w2,New w1 (.cells #[(vp p1),Sl.nil.v,(.map (some p2.block)),Sl.nil.v] 212) p3 w2→K (some p3) w2)
theorem w_Y3 (p1 w0 K) (h:m_Y3 p1 w0 K):
  Calls prog 62 #[(vp p1)] w0 (fun e w'=>∃r1,e=.returned (vp r1)∧K r1 w'):=by
 refine cw (args:=[(vp p1)]) func62 ntmps62 (eg (q0 (vp none) (ln (zA (eg (q0 (vp p1) (q2 (vb (Option.isNone p1)) (tI (by kernel_rfl) rfl underlying68) (zC ?_))))))))
 refine zL (cbr h ?_ ?_)<;>intro h
 refine eg (q (ln (er (zX (rs1 results62 ⟨none,rfl,h⟩)))))
 refine zB (zL (eg (q (nw4 (fun p=>.map (some p.block)) h fun p2 w1 h=>q (nw1 h xb fun p3 w2 h=>q (ln (er (rs1 results62 ⟨(some p3),rfl,h⟩))))))))
def m_Q_j2 (p1:Addr) (at1:Int) (p5 a9:Addr) (w0:World) (H:NP) (w:World) (Kc1:Int→NP→WP) (_K:WP):Prop :=∃v15,w.cell? a9=some (vi v15)∧Br (v15 == 4) (∃v16,w.cell? (a9.add 5)=some (vi v16)∧Calls prog 205 #[(vi v16),(vi 1),(vp (some p1)),(vp (some p5))] w (fun e w13=>e=.returned (.tuple #[])∧Kept H w w13∧∃v17,w13.cell? (a9.add 6)=some (vi v17)∧Calls prog 205 #[(vi v17),(vi 2),(vp (some p1)),(vp (some p5))] w13 (fun e w14=>e=.returned (.tuple #[])∧Kept H w13 w14∧Kc1 (q6.wrap (at1+1)) H w14))) (∀y1:Bool,y1=(cond (v15 == 7) (v15 == 7) (cond (v15 == 8) (v15 == 8) (v15 == 9)))→Br y1 (∀H3 w15,Hst w0 H w H3 w15→∃v18,w15.cell? (a9.add 5)=some (vi v18)∧Calls prog 205 #[(vi v18),(vi 3),(vp (some p1)),(vp (some p5))] w15 (fun e w16=>e=.returned (.tuple #[])∧Kept H3 w15 w16∧Kc1 (q6.wrap (at1+1)) H3 w16)) (∀H3 w15,Hst w0 H w H3 w15→Kc1 (q6.wrap (at1+1)) H3 w15))
def m_Q_l1 (p1:Addr) (at1:Int) (w0:World) (Hl1:NP) (wl1:World) (Kc1:Int→NP→WP) (K:WP):Prop :=∃v10,wl1.cell? p1=some (vp v10)∧∃a6,v10=some a6∧∃v11:Sl,wl1.cell? (a6.add 3)=some v11.v∧Br (decide (at1<(v11.len:Int))) (∃v12,wl1.cell? p1=some (vp v12)∧∃a7,v12=some a7∧∃v13:Sl,wl1.cell? (a7.add 3)=some v13.v∧∃a8:Addr,At v13 at1 1 a8∧∃v14,wl1.cell? a8=some (vi v14)∧∀p5 w11,New wl1 (.cells #[(vi 0)] 78) p5 w11→vF w11 p5∧¬ Hl1 p5.block∧∀w12,w12=w11.setCell p5 (vi v14)→∃C3:WP,C3 w12.drew∧∀w17,w17=w12.drew→∃v19,(∀w',C3 w'→w'.cell? p1=some (vp v19))∧∃a10,v19=some a10∧∃v20,(∀w',C3 w'→w'.cell? a10=some (vp v20))∧∃v21,(∀w',C3 w'→w'.cell? p5=some (vi v21))∧(Calls prog 102 #[(vp v20),(vi v21)] w17 (fun e w18=>∃aA aC aD aF aG aB aE r1,e=.returned (.tuple #[(Ae aA aC aD aF aG aB aE),(vb r1)])∧C3 w18∧Kept Hl1 w17 w18∧∀p6 w19,New w18 (.cells #[(vi 0),(vi 0),(vi 0),(vu 0),ve,(vi 0),(vi 0)] 176) p6 w19→C3 w19∧(∀j,j<7→vF w19 (p6.add j))∧¬ Hl1 p6.block∧∀w20,w20=storeRow w19 p6 (Ad aA aC aD aF aG aB aE)→C3 w20∧m_Q_j2 p1 at1 p5 p6 w0 Hl1 w20 Kc1 K))∧(∀p7 w21,New w17 (.cells #[(vi 0),(vi 0),(vi 0),(vu 0),ve,(vi 0),(vi 0)] 176) p7 w21→C3 w21∧Calls prog 102 #[(vp v20),(vi v21)] w21 (fun e w22=>∃aH aI aJ aK aL aM aN r2,e=.returned (.tuple #[(Ae aH aI aJ aK aL aM aN),(vb r2)])∧C3 w22∧Kept Hl1 w21 w22∧(∀j,j<7→vF w22 (p7.add j))∧¬ Hl1 p7.block∧∀w23,w23=storeRow w22 p7 (Ad aH aI aJ aK aL aM aN)→C3 w23∧m_Q_j2 p1 at1 p5 p7 w0 Hl1 w23 Kc1 K))) (K wl1)
def m_Q (k1:Option Addr) (t1 wrule1 wfrom1:Int) (w0:World) (K:WP):Prop :=∀p1 w1,New w0 (.cells #[(vp k1)] 125) p1 w1→∀H1 w2,Hst w0 None w1 H1 w2→∃v1,w2.cell? p1=some (vp v1)∧∃a1,v1=some a1∧∃v2:Option Nat,w2.cell? (a1.add 2)=some (.map v2)∧∃vrule1 vfrom1 ok1,(Instr.lookup 210 (.map v2) (vi t1) true).run prog w2=.ok (.tuple #[(.agg #[(vi vrule1),(vi vfrom1)]),(vb ok1)]) w2∧Br ok1 (∀H2 w4,Hst w0 H1 w2 H2 w4→K w4) (∀H2 w4,Hst w0 H1 w2 H2 w4→∃C1:WP,C1 w4.drew∧∀w5,w5=w4.drew→∃v3,(∀w',C1 w'→w'.cell? p1=some (vp v3))∧∃a2,v3=some a2∧∃v4:Option Nat,(∀w',C1 w'→w'.cell? (a2.add 2)=some (.map v4))∧∃w6:World,(Instr.mapUpdate 210 (.map v4) (vi t1) (.agg #[(vi wrule1),(vi wfrom1)])).run prog w5=.ok () w6∧Kept H2 w5 w6∧∃v5,w6.cell? p1=some (vp v5)∧∃a3,v5=some a3∧∃v6:Sl,w6.cell? (a3.add 3)=some v6.v∧∃C2:WP,C2 w6.drew∧∀w7,w7=w6.drew→∃v7,(∀w',C2 w'→w'.cell? p1=some (vp v7))∧∃v8,(∀w',C2 w'→w'.cell? p1=some (vp v8))∧∃a4,v8=some a4∧∃v9:Sl,(∀w',C2 w'→w'.cell? (a4.add 3)=some v9.v)∧∀p4 w8,New w7 (.cells #[(vi t1)] 78) p4 w8→C2 w8∧∃s1:Sl,∃w9:World,(Builtin.append_ #[46,46] 46 #[v9.v,(Sl.mk (some p4) 1 1).v]).run prog w8=.ok s1.v w9∧C2 w9∧Kept H2 w8 w9∧∃a5,v7=some a5∧vF w9 (a5.add 3)∧¬ H2 (a5.add 3).block∧∀w10,w10=w9.setCell (a5.add 3) s1.v→∃(I1:Int→NP→WP) (mu1:Int→World→Nat),I1 (v6.len:Int) H2 w10∧∀(at1:Int) (Hl1:NP) (wl1:World),Hst w0 Hl1 wl1 Hl1 wl1→I1 at1 Hl1 wl1→m_Q_l1 p1 at1 w0 Hl1 wl1 (fun y'0 H' w'=>I1 y'0 H' w'∧mu1 y'0 w'<mu1 at1 wl1) K)
theorem w_Q (k1 t1 wrule1 wfrom1 w0 K) (h:m_Q k1 t1 wrule1 wfrom1 w0 K):
  Calls prog 151 #[(vp k1),(vi t1),(.agg #[(vi wrule1),(vi wfrom1)])] w0 (fun e w'=>e=.returned (.tuple #[])∧K  w'):=by
 refine cw (args:=[(vp k1),(vi t1),(.agg #[(vi wrule1),(vi wfrom1)])]) func151 ntmps151 ?_
 obtain ⟨hs,hb⟩:=st0 w0
 refine eg (nw2 hs hb h xb fun p1 w1 hs hb h=>nw3 [(vi wrule1),(vi wfrom1)] 235 hs hb xb fun p2 w2 H1 hs hb=>ln (zA (eg ?_)))
 have ⟨h,hs⟩:=hs.hr (h H1 w2)
 refine ql (isAgg125 _) h fun v1 h=>qm h fun a1 h=>q (ql (isAgg210 _) h fun v2 h=>q ?_)
 obtain ⟨vrule1,vfrom1,ok1,hv23,h⟩:=h
 refine q2 (.tuple #[(.agg #[(vi vrule1),(vi vfrom1)]),(vb ok1)]) (jFH (by kernel_rfl) (by kernel_rfl) hv23) (qc (nw3 [(vi 0),(vi 0)] 235 hs hb (zH (zeroValue235 _) rfl) fun p3 w3 H2 hs hb=>sbx 0 [(vi vrule1),(vi vfrom1)] (sizeOf235 _) hs hb gZ fun w4 hs hb=>q (ln (eg (q (ln (cbr h ?_ ?_)))))))<;>intro h
 refine er (zX ?_)
 have ⟨h,hs⟩:=hs.hr (h H2 w4)
 refine jPD (.inl rfl) results151 ⟨rfl,h⟩
 refine zB (zL (zA ?_))
 have ⟨h,hs⟩:=hs.hr (h H2 w4)
 obtain ⟨C1,hC,h⟩:=h
 refine dr2 (fun x=>C1 x∧HB H2 x _) [6] [6] ⟨hC,hb.drew⟩ h hs hb fun w5 hs hb h=>?_
 have hs:=hs.here
 refine qg 0 ?_
 obtain ⟨v3,hv22,h⟩:=h
 refine sy Kp0 (fun _ k=>xl (isAgg125 _) (hv22 _ k.1)) (qg 1 ?_)
 obtain ⟨a2,hp2,h⟩:=h
 refine sy Kp1 (fun _ _=>xn hp2) (qx 2 (vp (some (a2.add 2))) Kp2 (qg 3 ?_))
 obtain ⟨v4,hv21,h⟩:=h
 refine sy Kp3 (fun _ k=>xl (isAgg210 _) (hv21 _ k.1)) (qx 4 (vi t1) Kp4 (qz 5 (.agg #[(vi wrule1),(vi wfrom1)]) Kp5 (fun w' hw'=>(xa p2 [(vi wrule1),(vi wfrom1)] (isAgg235 _) (sizeOf235 _) (hw'.2.r0 1 2 (gS gZ)))) (lg 6 ?_)))
 obtain ⟨w6,hv20,hk,h⟩:=h
 refine jFP Kp6 (zR rfl) (by kernel_rfl) (jAN (by kernel_rfl) (by kernel_rfl) (by kernel_rfl) hv20) (.inl (by kernel_rfl)) ?_
 obtain ⟨hs,hb⟩:=hk.hh hs hb
 refine wn (zL (eg (ql (isAgg125 _) h fun v5 h=>qm h fun a3 h=>q (ql (isAgg46 _) h fun v6 h=>qb (ln (zA ?_))))))
 obtain ⟨C2,hC,h⟩:=h
 refine dr2 (fun x=>C2 x∧HB H2 x _) [6,7,10] [10] ⟨hC,hb.drew⟩ h hs hb fun w7 hs hb h=>?_
 have hs:=hs.here
 refine qg 0 ?_
 obtain ⟨v7,hv17,h⟩:=h
 refine sy Kp0 (fun _ k=>xl (isAgg125 _) (hv17 _ k.1)) (qg 1 ?_)
 obtain ⟨v8,hv16,h⟩:=h
 refine sy Kp1 (fun _ k=>xl (isAgg125 _) (hv16 _ k.1)) (qg 2 ?_)
 obtain ⟨a4,hp4,h⟩:=h
 refine sy Kp2 (fun _ _=>xn hp4) (qx 3 (vp (some (a4.add 3))) Kp3 (qg 4 ?_))
 obtain ⟨v9,hv15,h⟩:=h
 refine sy Kp4 (fun _ k=>xl (isAgg46 _) (hv15 _ k.1)) (qx 5 (vi t1) Kp5 (lg 6 (qL (O:=(.cells #[(vi t1)] 78)) (fun p=>(Sl.mk (some p) 1 1).v) Kp6 (zR rfl) (by kernel_rfl) (vL (vs:=#[(0,(vi t1))]) (by kernel_rfl) (by kernel_rfl)) ?_)))
 intro p4 w8 hn11
 have h:=h p4 w8 hn11
 refine ⟨.inr ⟨h.1,hb.kept (Ext.new (F:=None) hn11).keptP⟩,?_⟩
 have h:=h.2
 obtain ⟨hs,hb⟩:=hs.nw hb hn11
 refine lg 7 ?_
 obtain ⟨s1,w9,hv14,hC,hk,h⟩:=h
 refine sl (v:=s1.v) Kp7 (zR rfl) (by kernel_rfl) (vT (args:=#[v9.v,(Sl.mk (some p4) 1 1).v]) (by kernel_rfl) (fun _=>rfl) hv14) (.inr ⟨hC,hb.kept hk⟩) ?_
 obtain ⟨hs,hb⟩:=hk.hh hs hb
 refine qg 8 ?_
 obtain ⟨a5,hp5,h⟩:=h
 refine sy Kp8 (fun _ _=>xn hp5) (qx 9 (vp (some (a5.add 3))) Kp9 (lg 10 ?_))
 obtain ⟨hp6,hnh,h⟩:=h
 refine jPS (zO (S8 (zG (zG zN)))) (xs (v:=s1.v) (sizeOf46 _) hp6) ?_
 intro w10 hn4
 have h:=h w10 hn4
 refine ⟨.inl (by kernel_rfl),?_⟩
 have hk:=Kept.sc hnh hn4
 obtain ⟨hs,hb⟩:=hk.hh hs hb
 refine wn (zL (zK ?_))
 obtain ⟨I1,mu1,h0,hr⟩:=h
 refine vQ (σ:=Int×NP×World) (fun s ρ w=>w=s.2.2∧Has ρ [(3,(vp (some p1))),(8,(vi s.1))]∧Hst w0 s.2.1 w s.2.1 w∧HB s.2.1 w [(p3,[(vi vrule1),(vi vfrom1)],235),(p2,[(vi wrule1),(vi wfrom1)],235)]∧I1 s.1 s.2.1 s.2.2) (fun s=>mu1 s.1 s.2.2) ((v6.len:Int),H2,w10) ⟨rfl,hm,hs,hb,h0⟩ ?_
 rintro ⟨at1,Hl1,wl1⟩ ρ w ⟨hw,hH,hs,hb,hI⟩
 dsimp only at hw hH hs hb;subst w
 have h:=hr at1 Hl1 wl1 hs hI
 refine zV hH (zA (eg (q (ql (isAgg125 _) h fun v10 h=>qm h fun a6 h=>q (ql (isAgg46 _) h fun v11 h=>qb (ln (cbr h ?_ ?_)))))))<;>intro h
 refine zB (zL (zA (zK (eg (ql (isAgg125 _) h fun v12 h=>qm h fun a7 h=>q (ql (isAgg46 _) h fun v13 h=>q (qi (runUnderlying46 _) (sizeOf78 _) h fun a8 h=>ql (isAgg78 _) h fun v14 h=>sn (O:=(.cells #[(vi 0)] 78)) (zH (zeroValue78 _) rfl) ?_)))))))
 intro p5 w11 hn10
 have h:=h p5 w11 hn10
 obtain ⟨hs,hb⟩:=hs.nw hb hn10
 refine st2 (sizeOf78 _) hs hb h fun w12 hs hb h=>ln (zA (qT (fun ρ w=>∃a9:Addr,∃H:NP,Has ρ [(3,(vp (some p1))),(8,(vi at1)),(9,(vp (some p5))),(10,(vp (some a9)))]∧Hst w0 H w H w∧HB H w [(p3,[(vi vrule1),(vi vfrom1)],235),(p2,[(vi wrule1),(vi wfrom1)],235)]∧m_Q_j2 p1 at1 p5 a9 w0 H w (fun y'0 H' w'=>I1 y'0 H' w'∧mu1 y'0 w'<mu1 at1 wl1) K) ?_ ?_))
 rintro ρ w ⟨a9,H,hH,hs,hb,h⟩
 refine zV hH (eg (qb (ln (eg (q (ql (isAgg3 _) h fun v15 h=>ln (zK (eg (qb (ln (cbr h ?_ ?_)))))))))))<;>intro h
 refine eg (qb (ql (isAgg78 _) h fun v16 h=>vA (zR rfl) (uB (fs:=#[]) (caps:=#[(vp (some p1)),(vp (some p5))]) (args:=#[(vi v16),(vi 1)]) (args':=#[(vi v16),(vi 1),(vp (some p1)),(vp (some p5))]) (by kernel_rfl) call205 (by kernel_rfl) (by kernel_rfl)) (h.mono ?_)))
 rintro e w13 ⟨rfl,hk,h⟩
 refine ⟨_,rfl,?_⟩
 obtain ⟨hs,hb⟩:=hk.hh hs hb
 refine ln (rg (qb (ql (isAgg78 _) h fun v17 h=>vA (zR rfl) (uB (fs:=#[]) (caps:=#[(vp (some p1)),(vp (some p5))]) (args:=#[(vi v17),(vi 2)]) (args':=#[(vi v17),(vi 2),(vp (some p1)),(vp (some p5))]) (by kernel_rfl) call205 (by kernel_rfl) (by kernel_rfl)) (h.mono ?_))))
 rintro e w14 ⟨rfl,hk,h⟩
 refine ⟨_,rfl,?_⟩
 obtain ⟨hs,hb⟩:=hk.hh hs hb
 refine zC (uM (uM (zL (rg (qc (ln ⟨((q6.wrap (at1+1)),H,w14),⟨rfl,hm,hs,hb,h.1⟩,h.2⟩))))))
 refine zA (eg (qb (ln (vN (fun ρ wJ=>∃b1'0 b1'1 y1:Bool,∃HJ:NP,((v15 == 7)=b1'0)∧((v15 == 8)=b1'1)∧(y1=(cond b1'0 (v15 == 7) (cond b1'1 (v15 == 8) (v15 == 9))))∧Hst w0 H w HJ wJ∧HB HJ wJ [(p3,[(vi vrule1),(vi vfrom1)],235),(p2,[(vi wrule1),(vi wfrom1)],235)]∧Has ρ [(3,(vp (some p1))),(8,(vi at1)),(10,(vp (some a9))),(12,(.func (.func 205) #[] #[(vp (some p1)),(vp (some p5))])),(82,(vb y1))]) ?_ ?_))))
 refine vI (t:=(v15 == 7)) (by kernel_rfl) (fun hc6=>?_) (fun hc6=>?_)
 refine zB (zL ⟨true,_,_,_,hc6,rfl,rfl,hs,hb,hm⟩)
 refine eg (qb (ln (vI (t:=(v15 == 8)) (by kernel_rfl) (fun hc7=>?_) (fun hc7=>?_))))
 refine zB (zL ⟨false,true,_,_,hc6,hc7,rfl,hs,hb,hm⟩)
 refine rg (qb (ln ⟨false,false,_,_,hc6,hc7,rfl,hs,hb,hm⟩))
 rintro ρ w15 ⟨b1'0,b1'1,y1,H3,he0,he1,hy1,hs,hb,hH⟩
 subst he0
 subst he1
 have h:=h y1 hy1
 refine vE hH (zL (cbr h ?_ ?_))<;>intro h
 refine rg (qb ?_)
 have ⟨h,hs⟩:=hs.hr (h H3 w15)
 refine ql (isAgg78 _) h fun v18 h=>vA (zR rfl) (uB (fs:=#[]) (caps:=#[(vp (some p1)),(vp (some p5))]) (args:=#[(vi v18),(vi 3)]) (args':=#[(vi v18),(vi 3),(vp (some p1)),(vp (some p5))]) (by kernel_rfl) call205 (by kernel_rfl) (by kernel_rfl)) (h.mono ?_)
 rintro e w16 ⟨rfl,hk,h⟩
 refine ⟨_,rfl,?_⟩
 obtain ⟨hs,hb⟩:=hk.hh hs hb
 refine zC (uM (uM (zL (rg (qc (ln ⟨((q6.wrap (at1+1)),H3,w16),⟨rfl,hm,hs,hb,h.1⟩,h.2⟩))))))
 refine zB (uM (uM (zL (rg (qc (zC ?_))))))
 have ⟨h,hs⟩:=hs.hr (h H3 w15)
 refine zL ⟨((q6.wrap (at1+1)),H3,w15),⟨rfl,hm,hs,hb,h.1⟩,h.2⟩
 obtain ⟨C3,hC,h⟩:=h
 refine dr2 (fun x=>C3 x∧HB Hl1 x _) [5,9,10] [] ⟨hC,hb.drew⟩ h hs hb fun w17 hs hb h=>?_
 have hs:=hs.here
 refine qg 0 ?_
 obtain ⟨v19,hv7,h⟩:=h
 refine sy Kp0 (fun _ k=>xl (isAgg125 _) (hv7 _ k.1)) (qg 1 ?_)
 obtain ⟨a10,hp10,h⟩:=h
 refine sy Kp1 (fun _ _=>xn hp10) (qx 2 (vp (some a10)) Kp2 (qg 3 ?_))
 obtain ⟨v20,hv6,h⟩:=h
 refine sy Kp3 (fun _ k=>xl (isAgg68 _) (hv6 _ k.1)) (qg 4 ?_)
 obtain ⟨v21,hv5,h⟩:=h
 refine sy Kp4 (fun _ k=>xl (isAgg78 _) (hv5 _ k.1)) (jNQ (k:=5) (k':=9) (by kernel_rfl) ?_ ?_)
 have h:=h.1
 refine slc Kp5 call102 (h.mono ?_)
 rintro e w18 ⟨aA,aC,aD,aF,aG,aB,aE,r1,rfl,hC,hk,h⟩
 refine ⟨_,rfl,.inr ⟨hC,hb.kept hk⟩,?_⟩
 obtain ⟨hs,hb⟩:=hk.hh hs hb
 refine qx 6 (.tuple #[(Ae aA aC aD aF aG aB aE),(vb r1)]) Kp6 (qx 7 (Ae aA aC aD aF aG aB aE) Kp7 (qx 8 (vb r1) Kp8 (lg 9 (qL (O:=(.cells #[(vi 0),(vi 0),(vi 0),(vu 0),ve,(vi 0),(vi 0)] 176)) (fun p=>.pointer (some p)) Kp9 (zR rfl) (by kernel_rfl) (zH (zeroValue176 _) rfl) ?_))))
 intro p6 w19 hn7
 have h:=h p6 w19 hn7
 refine ⟨.inr ⟨h.1,hb.kept (Ext.new (F:=None) hn7).keptP⟩,?_⟩
 have h:=h.2
 obtain ⟨hs,hb⟩:=hs.nw hb hn7
 refine lg 10 ?_
 obtain ⟨hp11,hnh,h⟩:=h
 refine xL (zO (S8 (zG (zG zN)))) (zR rfl) (by kernel_rfl) (xo p6 (Ad aA aC aD aF aG aB aE) (sizeOf176 _) hp11) ?_
 intro w20 hn6
 have h:=h w20 hn6
 refine ⟨.inr ⟨h.1,hb.kept (by rw [hn6];exact Kept.storeRow hnh)⟩,?_⟩
 have h:=h.2
 have hk:Kept Hl1 w19 w20:=by rw [hn6];exact Kept.storeRow hnh
 obtain ⟨hs,hb⟩:=hk.hh hs hb
 refine qx 11 (vb r1) (zO (S8 (zG (zG (zG zN))))) (wn (zL ⟨p6,Hl1,hm,hs,hb,h⟩))
 have h:=h.2
 refine qL (O:=(.cells #[(vi 0),(vi 0),(vi 0),(vu 0),ve,(vi 0),(vi 0)] 176)) (fun p=>.pointer (some p)) Kp9 (zR rfl) (by kernel_rfl) (zH (zeroValue176 _) rfl) ?_
 intro p7 w21 hn9
 have h:=h p7 w21 hn9
 refine ⟨.inr ⟨h.1,hb.kept (Ext.new (F:=None) hn9).keptP⟩,?_⟩
 have h:=h.2
 obtain ⟨hs,hb⟩:=hs.nw hb hn9
 refine lg 5 (slc Kp5 call102 (h.mono ?_))
 rintro e w22 ⟨aH,aI,aJ,aK,aL,aM,aN,r2,rfl,hC,hk,h⟩
 refine ⟨_,rfl,.inr ⟨hC,hb.kept hk⟩,?_⟩
 obtain ⟨hs,hb⟩:=hk.hh hs hb
 refine qx 6 (.tuple #[(Ae aH aI aJ aK aL aM aN),(vb r2)]) Kp6 (qx 7 (Ae aH aI aJ aK aL aM aN) Kp7 (qx 8 (vb r2) Kp8 (lg 10 ?_)))
 obtain ⟨hp12,hnh,h⟩:=h
 refine xL (zO (S8 (zG (zG zN)))) (zR rfl) (by kernel_rfl) (xo p7 (Ad aH aI aJ aK aL aM aN) (sizeOf176 _) hp12) ?_
 intro w23 hn8
 have h:=h w23 hn8
 refine ⟨.inr ⟨h.1,hb.kept (by rw [hn8];exact Kept.storeRow hnh)⟩,?_⟩
 have h:=h.2
 have hk:Kept Hl1 w22 w23:=by rw [hn8];exact Kept.storeRow hnh
 obtain ⟨hs,hb⟩:=hk.hh hs hb
 refine qx 11 (vb r2) (zO (S8 (zG (zG (zG zN))))) (wn (zL ⟨p7,Hl1,hm,hs,hb,h⟩))
 refine vO (uI (uI (uD (jPD (.inr rfl) results151 ⟨rfl,h⟩))))
def m_G2 (k1:Option Addr) (t1:Int) (w0:World) (K:Int→WP):Prop :=Br (Option.isNone k1) (K 7 w0) (∃a1,k1=some a1∧∃v1,w0.cell? a1=some (vp v1)∧Calls prog 102 #[(vp v1),(vi t1)] w0 (fun e w1=>∃aA aC aD aF aG aB aE r1,e=.returned (.tuple #[(Ae aA aC aD aF aG aB aE),(vb r1)])∧Kept None w0 w1∧Br (!r1) (∀H1 w3,Hst w0 None w1 H1 w3→K 51 w3) (∃a2,k1=some a2∧∀H1 w3,Hst w0 None w1 H1 w3→∃v2:Sl,w3.cell? (a2.add 1)=some v2.v∧Calls prog 150 #[v2.v,(vi t1)] w3 (fun e w4=>∃r2,e=.returned (vb r2)∧Kept H1 w3 w4∧Br (!r2) (∃a3,k1=some a3∧∃v3:Sl,w4.cell? (a3.add 1)=some v3.v∧∀p2 w5,New w4 (.cells #[(vi t1)] 78) p2 w5→∃s1:Sl,∃w6:World,(Builtin.append_ #[46,46] 46 #[v3.v,(Sl.mk (some p2) 1 1).v]).run prog w5=.ok s1.v w6∧Kept H1 w5 w6∧∃a4,k1=some a4∧vF w6 (a4.add 1)∧¬ H1 (a4.add 1).block∧∀w7,w7=w6.setCell (a4.add 1) s1.v→Calls prog 151 #[(vp k1),(vi t1),(.agg #[(vi 0),(vi 0)])] w7 (fun e w8=>e=.returned (.tuple #[])∧Kept H1 w7 w8∧K 0 w8)) (Calls prog 151 #[(vp k1),(vi t1),(.agg #[(vi 0),(vi 0)])] w4 (fun e w9=>e=.returned (.tuple #[])∧Kept H1 w4 w9∧K 0 w9))))))
theorem w_G2 (k1 t1 w0 K) (h:m_G2 k1 t1 w0 K):
  Calls prog 79 #[(vp k1),(vi t1)] w0 (fun e w'=>∃r3,e=.returned (vi r3)∧K r3 w'):=by
 refine cw (args:=[(vp k1),(vi t1)]) func79 ntmps79 ?_
 obtain ⟨hs,hb⟩:=st0 w0
 refine eg (q (ln (zA (eg (q (q2 (vb (Option.isNone k1)) (tI (by kernel_rfl) rfl underlying125) (ln (cbr h ?_ ?_))))))))<;>intro h
 refine eg (q (ln (er (zX (rs1 results79 ⟨7,rfl,h⟩)))))
 refine zB (zL (zA (eg (q (qm h fun a1 h=>q (ql (isAgg68 _) h fun v1 h=>q (sc call102 (h.mono fun e w1 ⟨aA,aC,aD,aF,aG,aB,aE,r1,k,hk,h⟩=>have ⟨hs,hb⟩:=hk.hh hs hb;⟨_,k,?_⟩))))))))
 refine qc (nw3 (Al 0 0 0 0 0 0) 176 hs hb (zH (zeroValue176 _) rfl) fun p1 w2 H1 hs hb=>sbx 0 (Ad aA aC aD aF aG aB aE) (sizeOf176 _) hs hb gZ fun w3 hs hb=>q (ln (eg (qb (ln (cbr h ?_ ?_))))))<;>intro h
 refine eg (q (ln (er (zX ?_))))
 have ⟨h,hs⟩:=hs.hr (h H1 w3)
 refine rs1 results79 ⟨51,rfl,h⟩
 refine zB (zL (zA (eg (q (qm h fun a2 h=>q ?_)))))
 have ⟨h,hs⟩:=hs.hr (h H1 w3)
 refine ql (isAgg46 _) h fun v2 h=>q (sc call150 (h.mono fun e w4 ⟨r2,k,hk,h⟩=>have ⟨hs,hb⟩:=hk.hh hs hb;⟨_,k,?_⟩))
 refine q (ln (cbr h ?_ ?_))<;>intro h
 refine rg (qb (qm h fun a3 h=>q (ql (isAgg46 _) h fun v3 h=>q (tR (O:=(.cells #[(vi t1)] 78)) (fun p=>(Sl.mk (some p) 1 1).v) (zR rfl) (vL (vs:=#[(0,(vi t1))]) (by kernel_rfl) (by kernel_rfl)) ?_))))
 intro p2 w5 hn4
 have h:=h p2 w5 hn4
 obtain ⟨hs,hb⟩:=hs.nw hb hn4
 obtain ⟨s1,w6,hv1,hk,h⟩:=h
 refine st (v:=s1.v) (zR rfl) (vT (args:=#[v3.v,(Sl.mk (some p2) 1 1).v]) (by kernel_rfl) (fun _=>rfl) hv1) ?_
 obtain ⟨hs,hb⟩:=hk.hh hs hb
 refine qm h fun a4 h=>q (st2 (sizeOf46 _) hs hb h fun w7 hs hb h=>ln (eg (qc (sc call151 (h.mono fun e w8 ⟨k,hk,h⟩=>have ⟨hs,hb⟩:=hk.hh hs hb;⟨_,k,?_⟩)))))
 refine ln (eg (q (ln (er (rs1 results79 ⟨0,rfl,h⟩)))))
 refine zB (zL (eg (qc (sc call151 (h.mono fun e w9 ⟨k,hk,h⟩=>have ⟨hs,hb⟩:=hk.hh hs hb;⟨_,k,?_⟩)))))
 refine ln (eg (q (ln (er (rs1 results79 ⟨0,rfl,h⟩)))))
def m_Z3 (k1:Option Addr) (w0:World) (K:Sl→WP):Prop :=Br (Option.isNone k1) (K Sl.nil w0) (∃a1,k1=some a1∧∃v1:Sl,w0.cell? (a1.add 3)=some v1.v∧Calls prog 153 #[v1.v] w0 (fun e w1=>∃r1:Value,e=.returned r1∧Calls prog 152 #[r1] w1 (fun e w2=>∃r2:Sl,e=.returned r2.v∧K r2 w2)))
theorem w_Z3 (k1 w0 K) (h:m_Z3 k1 w0 K):
  Calls prog 80 #[(vp k1)] w0 (fun e w'=>∃r3:Sl,e=.returned r3.v∧K r3 w'):=by
 refine cw (args:=[(vp k1)]) func80 ntmps80 (eg (q0 Sl.nil.v (ln (zA (eg (q0 (vp k1) (q2 (vb (Option.isNone k1)) (tI (by kernel_rfl) rfl underlying125) (zC ?_))))))))
 refine zL (cbr h ?_ ?_)<;>intro h
 refine eg (q (ln (er (zX (rs1 results80 ⟨Sl.nil,rfl,h⟩)))))
 refine zB (zL (eg (q (qm h fun a1 h=>q (ql (isAgg46 _) h fun v1 h=>sc call153 (h.mono fun e w1 ⟨r1,k,h⟩=>⟨_,k,?_⟩))))))
 refine sc call152 (h.mono fun e w2 ⟨r2,k,h⟩=>⟨_,k,?_⟩)
 refine q (ln (er (rs1 results80 ⟨r2,rfl,h⟩)))
def m_A4 (t1 rule1:Int) (cap1 cap2:Addr) (w0:World) (K:WP):Prop :=∃v1,w0.cell? cap1=some (vp v1)∧∃a1,v1=some a1∧∃v2:Option Nat,w0.cell? (a1.add 2)=some (.map v2)∧∃vrule1 vfrom1 ok1,(Instr.lookup 210 (.map v2) (vi t1) true).run prog w0=.ok (.tuple #[(.agg #[(vi vrule1),(vi vfrom1)]),(vb ok1)]) w0∧Br (!ok1) (∀H1 w2,Hst w0 None w0 H1 w2→∃C1:WP,C1 w2.drew∧∀w3,w3=w2.drew→∃v3,(∀w',C1 w'→w'.cell? cap1=some (vp v3))∧∃a2,v3=some a2∧∃v4:Option Nat,(∀w',C1 w'→w'.cell? (a2.add 2)=some (.map v4))∧∃v5,(∀w',C1 w'→w'.cell? cap2=some (vi v5))∧∃w4:World,(Instr.mapUpdate 210 (.map v4) (vi t1) (.agg #[(vi rule1),(vi v5)])).run prog w3=.ok () w4∧Kept H1 w3 w4∧∃C2:WP,C2 w4.drew∧∀w5,w5=w4.drew→∃v6,(∀w',C2 w'→w'.cell? cap1=some (vp v6))∧∃v7,(∀w',C2 w'→w'.cell? cap1=some (vp v7))∧∃a3,v7=some a3∧∃v8:Sl,(∀w',C2 w'→w'.cell? (a3.add 3)=some v8.v)∧∀p2 w6,New w5 (.cells #[(vi t1)] 78) p2 w6→C2 w6∧∃s1:Sl,∃w7:World,(Builtin.append_ #[46,46] 46 #[v8.v,(Sl.mk (some p2) 1 1).v]).run prog w6=.ok s1.v w7∧C2 w7∧Kept H1 w6 w7∧∃a4,v6=some a4∧vF w7 (a4.add 3)∧¬ H1 (a4.add 3).block∧∀w8,w8=w7.setCell (a4.add 3) s1.v→K w8) (∀H1 w2,Hst w0 None w0 H1 w2→K w2)
theorem w_A4 (t1 rule1 cap1 cap2 w0 K) (h:m_A4 t1 rule1 cap1 cap2 w0 K):
  Calls prog 205 #[(vi t1),(vi rule1),(vp (some cap1)),(vp (some cap2))] w0 (fun e w'=>e=.returned (.tuple #[])∧K  w'):=by
 refine cw (args:=[(vi t1),(vi rule1),(vp (some cap1)),(vp (some cap2))]) func205 ntmps205 ?_
 obtain ⟨hs,hb⟩:=st0 w0
 refine eg (ql (isAgg125 _) h fun v1 h=>qm h fun a1 h=>q (ql (isAgg210 _) h fun v2 h=>q ?_))
 obtain ⟨vrule1,vfrom1,ok1,hv9,h⟩:=h
 refine q2 (.tuple #[(.agg #[(vi vrule1),(vi vfrom1)]),(vb ok1)]) (jFH (by kernel_rfl) (by kernel_rfl) hv9) (qc (nw3 [(vi 0),(vi 0)] 235 hs hb (zH (zeroValue235 _) rfl) fun p1 w1 H1 hs hb=>sbx 0 [(vi vrule1),(vi vfrom1)] (sizeOf235 _) hs hb gZ fun w2 hs hb=>q (ln (eg (qb (ln (cbr h ?_ ?_)))))))<;>intro h
 refine zA ?_
 have ⟨h,hs⟩:=hs.hr (h H1 w2)
 obtain ⟨C1,hC,h⟩:=h
 refine dr2 (fun x=>C1 x∧HB H1 x _) [8] [8] ⟨hC,hb.drew⟩ h hs hb fun w3 hs hb h=>?_
 have hs:=hs.here
 refine qg 0 ?_
 obtain ⟨v3,hv8,h⟩:=h
 refine sy Kp0 (fun _ k=>xl (isAgg125 _) (hv8 _ k.1)) (qg 1 ?_)
 obtain ⟨a2,hp2,h⟩:=h
 refine sy Kp1 (fun _ _=>xn hp2) (qx 2 (vp (some (a2.add 2))) Kp2 (qg 3 ?_))
 obtain ⟨v4,hv7,h⟩:=h
 refine sy Kp3 (fun _ k=>xl (isAgg210 _) (hv7 _ k.1)) (qx 4 (vi t1) Kp4 (qx 5 (vi rule1) Kp5 (qg 6 ?_)))
 obtain ⟨v5,hv6,h⟩:=h
 refine sy Kp6 (fun _ k=>xl (isAgg78 _) (hv6 _ k.1)) (qx 7 (.agg #[(vi rule1),(vi v5)]) Kp7 (lg 8 ?_))
 obtain ⟨w4,hv5,hk,h⟩:=h
 refine jFP Kp8 (zR rfl) (by kernel_rfl) (jAN (by kernel_rfl) (by kernel_rfl) (by kernel_rfl) hv5) (.inl (by kernel_rfl)) ?_
 obtain ⟨hs,hb⟩:=hk.hh hs hb
 refine wn (zL ?_)
 obtain ⟨C2,hC,h⟩:=h
 refine dr2 (fun x=>C2 x∧HB H1 x _) [6,7,10] [10] ⟨hC,hb.drew⟩ h hs hb fun w5 hs hb h=>?_
 have hs:=hs.here
 refine qg 0 ?_
 obtain ⟨v6,hv4,h⟩:=h
 refine sy Kp0 (fun _ k=>xl (isAgg125 _) (hv4 _ k.1)) (qg 1 ?_)
 obtain ⟨v7,hv3,h⟩:=h
 refine sy Kp1 (fun _ k=>xl (isAgg125 _) (hv3 _ k.1)) (qg 2 ?_)
 obtain ⟨a3,hp3,h⟩:=h
 refine sy Kp2 (fun _ _=>xn hp3) (qx 3 (vp (some (a3.add 3))) Kp3 (qg 4 ?_))
 obtain ⟨v8,hv2,h⟩:=h
 refine sy Kp4 (fun _ k=>xl (isAgg46 _) (hv2 _ k.1)) (qx 5 (vi t1) Kp5 (lg 6 (qL (O:=(.cells #[(vi t1)] 78)) (fun p=>(Sl.mk (some p) 1 1).v) Kp6 (zR rfl) (by kernel_rfl) (vL (vs:=#[(0,(vi t1))]) (by kernel_rfl) (by kernel_rfl)) ?_)))
 intro p2 w6 hn4
 have h:=h p2 w6 hn4
 refine ⟨.inr ⟨h.1,hb.kept (Ext.new (F:=None) hn4).keptP⟩,?_⟩
 have h:=h.2
 obtain ⟨hs,hb⟩:=hs.nw hb hn4
 refine lg 7 ?_
 obtain ⟨s1,w7,hv1,hC,hk,h⟩:=h
 refine sl (v:=s1.v) Kp7 (zR rfl) (by kernel_rfl) (vT (args:=#[v8.v,(Sl.mk (some p2) 1 1).v]) (by kernel_rfl) (fun _=>rfl) hv1) (.inr ⟨hC,hb.kept hk⟩) ?_
 obtain ⟨hs,hb⟩:=hk.hh hs hb
 refine qg 8 ?_
 obtain ⟨a4,hp4,h⟩:=h
 refine sy Kp8 (fun _ _=>xn hp4) (qx 9 (vp (some (a4.add 3))) Kp9 (lg 10 ?_))
 obtain ⟨hp5,hnh,h⟩:=h
 refine jPS (zO (S8 (zG (zG zN)))) (xs (v:=s1.v) (sizeOf46 _) hp5) ?_
 intro w8 hn3
 have h:=h w8 hn3
 refine ⟨.inl (by kernel_rfl),?_⟩
 have hk:=Kept.sc hnh hn3
 obtain ⟨hs,hb⟩:=hk.hh hs hb
 refine wn (jPD (.inr rfl) results205 ⟨rfl,h⟩)
 refine zB ?_
 have ⟨h,hs⟩:=hs.hr (h H1 w2)
 refine jPD (.inr rfl) results205 ⟨rfl,h⟩
end Go.Proofs
end
section
namespace Go.Sp
def yF (k:Int):Bool:=k == 7 || k == 8 || k == 9
def jLC (k:Int):Bool:=k == 1 || k == 2 || k == 3
def jIZ (n:Int):Node:=⟨6,n,0,0,⟨#[]⟩,0,0⟩
def jIN (n:Node):Int:=if n.kind=9 then n.to else n.frm
def xQ (L:Pool) (r u t:Int):Prop :=
 (r=1∧(zD L u).kind=4∧(zD L u).a=t)∨(r=2∧(zD L u).kind=4∧(zD L u).b=t)∨(r=3∧yF (zD L u).kind=true∧(zD L u).a=t)
inductive Seen (L:Pool) (G:List Int):Int→Prop
 | given {t:Int}:t∈G→Seen L G t
 | aris {r u t:Int}:Seen L G u→xQ L r u t→Seen L G t
inductive Drv (L:Pool) (K:Int→Prop):Int→Prop
 | seen {t:Int}:K t→Drv L K t
 | free {t:Int}:jLC (zD L t).kind=true→Drv L K t
 | pair {t:Int}:(zD L t).kind=4→Drv L K (zD L t).a→Drv L K (zD L t).b→Drv L K t
 | hash {t:Int}:(zD L t).kind=5→Drv L K (zD L t).a→Drv L K t
 | sign {t:Int} {i:Nat}:yF (zD L t).kind=true→Drv L K (zD L t).a→find L (jIZ (jIN (zD L t)))=some i→K ((i:Int)+1)→Drv L K t
structure Way where
 t:Int
 rule:Int
 frm:Int
deriving DecidableEq
def zZ (S:List Way):List Int:=S.map Way.t
def jJO (L:Pool) (G:List Int) (pre:List Way) (v:Way):Prop:=(v.rule=0∧v.frm=0∧v.t∈G)∨(v.rule≠0∧xQ L v.rule v.frm v.t∧v.frm∈zZ pre)
structure WaysOk (L:Pool) (G:List Int) (S:List Way):Prop where
 nodup:(zZ S).Nodup
 inp:∀t∈zZ S,inP L t=true
 way:∀i (h:i<S.length),jJO L G (S.take i) S[i]
def jEJ (L:Pool) (S:List Way) (u:Int):Prop:=∀r t,xQ L r u t→t∈zZ S
structure KnowOk (L:Pool) (G:List Int) (S:List Way):Prop extends WaysOk L G S where
 closed:∀u∈zZ S,jEJ L S u
 giv:∀t∈G,t∈zZ S
 gnd:G.Nodup
theorem uH (S:List Way):(zZ S).length=S.length:=by simp [zZ]
theorem jJO.mono {L:Pool} {G G':List Int} {pre:List Way} {v:Way} (h:jJO L G pre v) (hG:∀t∈G,t∈G'):jJO L G' pre v:=by
 rcases h with ⟨a,b,c⟩ | h
 ·exact .inl ⟨a,b,hG _ c⟩
 ·exact .inr h
theorem WaysOk.mono {L:Pool} {G G':List Int} {S:List Way} (h:WaysOk L G S) (hG:∀t∈G,t∈G'):WaysOk L G' S:=⟨h.nodup,h.inp,fun i hi=>(h.way i hi).mono hG⟩
theorem WaysOk.snoc {L:Pool} {G:List Int} {S:List Way} (h:WaysOk L G S) {v:Way} (hn:v.t ∉ zZ S) (hi:inP L v.t=true) (hv:jJO L G S v):WaysOk L G (S++[v]):=by
 refine ⟨?_,?_,fun i hlt=>?_⟩
 ·unfold zZ at hn ⊢;rw [List.map_append,List.nodup_append];exact ⟨h.nodup,by simp,fun x hx y hy e=>by simp at hy;subst hy;exact hn (e▸hx)⟩
 ·intro t ht;unfold zZ at ht;rw [List.map_append,List.mem_append] at ht;rcases ht with ht | ht
  ·exact h.inp t ht
  ·simp at ht;rw [ht];exact hi
 ·rw [List.length_append] at hlt;simp only [List.length_cons,List.length_nil] at hlt;by_cases hl:i<S.length
  ·rw [List.getElem_append_left hl,List.take_append_of_le_length (by omega)];exact h.way i hl
  ·have:i=S.length:=by omega
   subst this;rw [List.getElem_append_right (Nat.le_refl _),List.take_left];simpa using hv
theorem jEJ.snoc {L:Pool} {S:List Way} {u:Int} {v:Way} (h:jEJ L S u):jEJ L (S++[v]) u:=fun r t ha=>by
 unfold zZ;rw [List.map_append];exact List.mem_append_left _ (h r t ha)
theorem jJQ {S:List Way} {t:Int} (h:t∈zZ S):∃i,∃hi:i<S.length,S[i].t=t∧(zZ S).idxOf t=i:=by
 have hlt:=List.idxOf_lt_length_iff.2 h;refine ⟨(zZ S).idxOf t,by simpa [zZ] using hlt,?_,rfl⟩;have:=List.getElem_idxOf hlt;simp only [zZ,List.getElem_map] at this ⊢;exact this
theorem KnowOk.seen_iff {L:Pool} {G:List Int} {S:List Way} (h:KnowOk L G S) (t:Int):t∈zZ S↔Seen L G t:=by
 constructor
 ·intro ht;obtain ⟨i,hi,e,_⟩:=jJQ ht;subst e;have:∀(n i:Nat) (hi:i<S.length),i≤n→Seen L G S[i].t:=by
   intro n;induction n with
   | zero =>
    intro i hi h0
    have:i=0:=by omega
    subst this
    rcases h.way 0 hi with ⟨_,_,hg⟩ | ⟨_,_,hm⟩
    ·exact .given hg
    ·simp [zZ] at hm
   | succ n ih =>
    intro i hi hn
    rcases h.way i hi with ⟨_,_,hg⟩ | ⟨_,ha,hm⟩
    ·exact .given hg
    ·obtain ⟨j,hj,e,_⟩:=jJQ hm
     rw [List.length_take] at hj
     have:=ih j (by omega) (by omega)
     rw [List.getElem_take] at e
     rw [e] at this
     exact .aris this ha
  exact this i i hi (Nat.le_refl _)
 ·intro hs;induction hs with
  | given hg=>exact h.giv _ hg
  | aris _ ha ih=>exact h.closed _ ih _ _ ha
theorem Seen.mono {L:Pool} {G G':List Int} (hG:∀t∈G,t∈G') {t:Int} (h:Seen L G t):Seen L G' t:=by
 induction h with
 | given hg=>exact .given (hG _ hg)
 | aris _ ha ih=>exact .aris ih ha
theorem Drv.mono {L:Pool} {K K':Int→Prop} (hK:∀t,K t→K' t) {t:Int} (h:Drv L K t):Drv L K' t:=by
 induction h with
 | seen h=>exact .seen (hK _ h)
 | free h=>exact .free h
 | pair h _ _ iha ihb=>exact .pair h iha ihb
 | hash h _ ih=>exact .hash h ih
 | sign h _ hf hk ih=>exact .sign h ih hf (hK _ hk)
structure Step where
 rule:Int
 a:Int
 b:Int
 t:Int
deriving DecidableEq
def ahead (i:Nat) (v:Int):Bool:=decide (0≤v) && decide (v<i)
def tAt (pre:List Step) (v:Int):Int:=(pre[v.toNat]?.map Step.t).getD 0
def jQI (L:Pool) (r u t:Int):Bool :=
 if r=1 then (zD L u).kind == 4 && (zD L u).a == t else if r=2 then (zD L u).kind == 4 && (zD L u).b == t else yF (zD L u).kind && (zD L u).a == t
def fol (L:Pool) (G:List Int) (pre:List Step) (s:Step):Bool :=
 if inP L s.t=false then false
 else if s.rule=0 then s.a == 0 && s.b == 0 && decide (s.t∈G)
 else if s.rule=1∨s.rule=2∨s.rule=3 then ahead pre.length s.a && s.b == 0 && jQI L s.rule (tAt pre s.a) s.t
 else if s.rule=4 then s.a == 0 && s.b == 0 && jLC (zD L s.t).kind
 else if s.rule=5 then
  if (zD L s.t).kind=4 then ahead pre.length s.a && ahead pre.length s.b && tAt pre s.a == (zD L s.t).a && tAt pre s.b == (zD L s.t).b
  else if (zD L s.t).kind=5 then ahead pre.length s.a && s.b == 0 && tAt pre s.a == (zD L s.t).a
  else if yF (zD L s.t).kind=true then ahead pre.length s.a && ahead pre.length s.b && tAt pre s.a == (zD L s.t).a && (zD L (tAt pre s.b)).kind == 6 && (zD L (tAt pre s.b)).frm == jIN (zD L s.t)
  else false
 else false
end Go.Sp
namespace Go.Sp
theorem jHF {α:Type} [DecidableEq α]:∀{l m:List α},l.Nodup→(∀x∈l,x∈m)→l.length≤m.length
 | [],m,_,_=>by simp
 | x :: l,m,hn,hs=>by
  have hx:=hs x (by simp);rw [List.nodup_cons] at hn;have:=jHF (m:=m.erase x) hn.2 (fun y hy=>(List.mem_erase_of_ne (fun h=>hn.1 (by rw [← h];exact hy))).2 (hs y (List.mem_cons_of_mem _ hy)));rw [List.length_erase_of_mem hx] at this;have:=List.length_pos_of_mem hx;simp only [List.length_cons];omega
theorem jFW {L:Pool} {l:List Int} (hn:l.Nodup) (hi:∀t∈l,inP L t=true):l.length≤L.length:=by
 have:=jHF (m:=(List.range L.length).map fun i:Nat=>(i:Int)+1) hn (fun t ht=>by
  obtain ⟨i,h1,h2⟩:=jEZ (hi t ht);exact List.mem_map.2 ⟨i,List.mem_range.2 h1,h2.symm⟩)
 simpa using this
theorem WaysOk.few {L:Pool} {G:List Int} {S:List Way} (h:WaysOk L G S):S.length≤L.length:=by
 have:=jFW h.nodup h.inp;rwa [uH] at this
theorem jPZ {L:Pool} (h:Wf L) {t:Int} (ht:inP L t=true) (hk:(zD L t).kind=4):(inP L (zD L t).a=true∧(zD L t).a<t)∧(inP L (zD L t).b=true∧(zD L t).b<t):=by
 have:=(h.node ht).2.2.2.2.1;simp only [zS,hk,shapeOf] at this;exact ⟨this _ (by simp),this _ (by simp)⟩
theorem kids7 {L:Pool} (h:Wf L) {t:Int} (ht:inP L t=true) (hk:yF (zD L t).kind=true):inP L (zD L t).a=true∧(zD L t).a<t:=by
 have:=(h.node ht).2.2.2.2.1;simp only [yF,Bool.or_eq_true,beq_iff_eq] at hk;rcases hk with (hk | hk) | hk <;> simp only [zS,hk,shapeOf] at this <;> exact this _ (by simp)
theorem xQ.inp {L:Pool} (h:Wf L) {r u t:Int} (hu:inP L u=true) (ha:xQ L r u t):inP L t=true∧t<u:=by
 rcases ha with ⟨_,hk,rfl⟩ | ⟨_,hk,rfl⟩ | ⟨_,hk,rfl⟩
 ·exact (jPZ h hu hk).1
 ·exact (jPZ h hu hk).2
 ·exact kids7 h hu hk
def tP (S:List Way) (v:Way):List Way:=if v.t∈zZ S then S else S++[v]
theorem uV (S:List Way) (v:Way):zZ (S++[v])=zZ S++[v.t]:=by simp [zZ]
theorem xH (S:List Way) (v:Way):v.t∈zZ (tP S v)∧∀t∈zZ S,t∈zZ (tP S v):=by
 unfold tP;split
 ·rename_i h;exact ⟨h,fun _ h=>h⟩
 ·rw [uV];exact ⟨by simp,fun t ht=>List.mem_append_left _ ht⟩
theorem jAZ (S:List Way) (v:Way):∃M,tP S v=S++M:=by
 unfold tP;split
 ·exact ⟨[],by simp⟩
 ·exact ⟨[v],rfl⟩
theorem WaysOk.add {L:Pool} {G:List Int} {S:List Way} (h:WaysOk L G S) {v:Way} (hi:inP L v.t=true) (hv:jJO L G S v):WaysOk L G (tP S v):=by
 unfold tP;split
 ·exact h
 ·rename_i hn;exact h.snoc hn hi hv
end Go.Sp
end
