import Derived.Test.YtodiipjdnnnieaaGreatPa4
import Derived.Test.YtodiipjdnnnieaaGreatProg
import Derived.KernelRfl
import Derived.Test.YtodiipjdnnnieaaGreatPa3
import Derived.RangeFuncSeq
import Derived.RangeFuncIn
import Derived.Sort.Walk0
import Derived.Sort.Statements
import Derived.Shelf.SlSortCmp.Insertion
import Init.Data.List.Lex
section
open Go Go.SE
namespace Go.Sp
def rdResolve (L:Pool) (who n:Int):Letter×Bool :=
 let m:=rdNode L n 4
 let a:=rdPromise L m.1.a
 let b:=rdPromise L m.1.b
 (⟨4,who,a.1.c,a.1.text,a.1.fake || b.1.fake⟩,m.2 || a.2 || b.2 || a.1.frm != 0 || b.1.frm != 1 || a.1.c != b.1.c || !decide (a.1.text=b.1.text))
def rdSigned (L:Pool) (who body:Int):Letter×Bool :=
 let g:=rdTagged L body
 if g.1.1=wAbort∧who=0 then (⟨3,0,(rdNode L g.1.2 2).1.num,⟨#[]⟩,false⟩,g.2 || (rdNode L g.1.2 2).2)
 else if g.1.1=wAborted∧who=2 then (⟨5,0,(rdNode L g.1.2 2).1.num,⟨#[]⟩,false⟩,g.2 || (rdNode L g.1.2 2).2)
 else if g.1.1=wInstead∧who=2 then (⟨6,0,(rdDeal L g.1.2).1.1,(rdDeal L g.1.2).1.2,false⟩,g.2 || (rdDeal L g.1.2).2)
 else if g.1.1=wDeal∧who≤1 then (⟨2,who,(rdDeal L body).1.1,(rdDeal L body).1.2,false⟩,g.2 || (rdDeal L body).2)
 else if g.1.1=wResolve∧who≤1 then ((rdResolve L who g.1.2).1,g.2 || (rdResolve L who g.1.2).2)
 else (noLetter,true)
end Go.Sp
namespace Go.Proofs
attribute [local irreducible] Calls
def lz:List Value:=[.int .i64 0,.int .i64 0,.int .u64 0,.string ⟨#[]⟩,.bool false]
theorem c_rd_resolve (r : Addr) (p : Option Addr) (p1 : Addr) (who n : Int) (bad : Bool) (w : World) {L : Sp.Pool} {F : NP} (hR : ReaderAt w r p bad L F) (hB : Box w p1 lz 35) (hne : p1.block ≠ r.block) (K : Int → Int → Int → ByteArray → Bool → WP)
  (hK:∀w6 w',ReaderAt w6 r p (bad || (Sp.rdResolve L who n).2) L F→Ext (·=r.block) w w6→Box w' p1 [.int .i64 4,.int .i64 who,.int .u64 (Sp.rdResolve L who n).1.c,.string (Sp.rdResolve L who n).1.text,.bool (Sp.rdResolve L who n).1.fake] 35→Ext (·=p1.block) w6 w'→K 4 who (Sp.rdResolve L who n).1.c (Sp.rdResolve L who n).1.text (Sp.rdResolve L who n).1.fake w') :
  m_A_j5 (some r) who p1 n true w K:=by
 unfold m_A_j5
 refine Br.t rfl ?_
 refine (c_rd_node r p n 4 bad w hR).mono ?_
 rintro _ w11 ⟨k2,f2,t2,u2,x2,a2,b2,rfl,hn,hR11,E11⟩
 refine ⟨_,_,_,_,_,_,_,rfl,?_⟩
 intro p2 w12 h12
 have o12:=New.own (Ext.refl w11) h12
 have l11:=hR11.box.lt
 have l1:=hB.lt
 have s11:=E11.size
 refine bx 7 (Box.of_new h12) rfl rfl (fun w13 b13 E'=>?_)
 have E13:Pure w11 w13:=Ext.own (Ext.new h12) o12 E'
 have hB11:=hB.ext E11 hne
 clear E' h12
 refine ⟨fun w'=>Box w' p2 [.int .i64 k2,.int .i64 f2,.int .i64 t2,.int .u64 u2,.string x2,.int .i64 a2,.int .i64 b2] 176,b13.pure (Ext.drew w13),?_⟩
 intro w18 hw18
 have E18:Pure w11 w18:=by rw [hw18];exact E13.thenPure (Ext.drew w13)
 have cN:Box w18 p2 [.int .i64 k2,.int .i64 f2,.int .i64 t2,.int .u64 u2,.string x2,.int .i64 a2,.int .i64 b2] 176:=by rw [hw18];exact b13.pure (Ext.drew w13)
 clear hw18
 have hR18:=hR11.pure E18
 have hB18:=hB11.pure E18
 have s18:=E18.size
 have Ew18:Ext (·=r.block) w w18:=E11.thenPure E18
 have ea:a2=(Sp.rdNode L n 4).1.a:=by rw [← hn]
 have eb:b2=(Sp.rdNode L n 4).1.b:=by rw [← hn]
 generalize hbad:(bad || (Sp.rdNode L n 4).2)=bad2 at *
 have leaf : ∀ (pA pB : Addr) (w' : World) (ka fa ca : Int) (xa : ByteArray) (ga : Bool) (kb fb cb : Int) (xb : ByteArray) (gb : Bool), (⟨ka, fa, ca, xa, ga⟩ : Sp.Letter) = (Sp.rdPromise L a2).1 → (⟨kb, fb, cb, xb, gb⟩ : Sp.Letter) = (Sp.rdPromise L b2).1 →
   ReaderAt w' r p (bad2 || (Sp.rdPromise L a2).2 || (Sp.rdPromise L b2).2) L F→Ext (·=r.block) w18 w'→Box w' pA [.int .i64 0,.int .i64 0,.int .u64 0,.string ⟨#[]⟩,.bool false] 35→Box w' pB [.int .i64 0,.int .i64 0,.int .u64 0,.string ⟨#[]⟩,.bool false] 35→pA.block≠pB.block→w18.heap.size≤pA.block→w18.heap.size≤pB.block →
   (∀j,j<5→CanW w' (pA.add j))∧∀w23:World,w23=storeRow w' pA [.int .i64 ka,.int .i64 fa,.int .u64 ca,.string xa,.bool ga] →
   (∀j,j<5→CanW w23 (pB.add j))∧∀w24:World,w24=storeRow w23 pB [.int .i64 kb,.int .i64 fb,.int .u64 cb,.string xb,.bool gb]→m_A_j6 (some r) who p1 pA pB w24 K:=by
  intro pA pB w' ka fa ca xa ga kb fb cb xb gb hla hlb hR' E' hA hBb hAB hoA hoB
  have s':=E'.size
  refine bx 5 hA rfl rfl (fun w23 bA E23=>?_)
  refine bx 5 (hBb.ext E23 hAB.symm) rfl rfl (fun w24 bB E24=>?_)
  have dA:=bA.ext E24 hAB
  have hR24:ReaderAt w24 r p (bad2 || (Sp.rdPromise L a2).2 || (Sp.rdPromise L b2).2) L F:=⟨(hR'.box.ext E23 (by omega)).ext E24 (by omega),(hR'.pool.ext E23 (fun b hb e=>by have:=hR.pool.lt hb;omega)).ext E24 (fun b hb e=>by have:=hR.pool.lt hb;omega),hR'.ok,hR'.out⟩
  have hB24:Box w24 p1 lz 35:=((hB18.ext E' hne).ext E23 (by omega)).ext E24 (by omega)
  have E24':Ext (·=r.block) w w24:=((Ew18.trans E').trans' E23 (fun i hi h=>by omega)).trans' E24 (fun i hi h=>by omega)
  have e1:fa=(Sp.rdPromise L a2).1.frm:=by rw [← hla]
  have e2:fb=(Sp.rdPromise L b2).1.frm:=by rw [← hlb]
  have e3:ca=(Sp.rdPromise L a2).1.c:=by rw [← hla]
  have e4:cb=(Sp.rdPromise L b2).1.c:=by rw [← hlb]
  have e5:xa=(Sp.rdPromise L a2).1.text:=by rw [← hla]
  have e6:xb=(Sp.rdPromise L b2).1.text:=by rw [← hlb]
  have e7:ga=(Sp.rdPromise L a2).1.fake:=by rw [← hla]
  have e8:gb=(Sp.rdPromise L b2).1.fake:=by rw [← hlb]
  generalize hb3:(bad2 || (Sp.rdPromise L a2).2 || (Sp.rdPromise L b2).2)=bad3 at *
  have hsp:Sp.rdResolve L who n=(⟨4,who,ca,xa,ga || gb⟩,(Sp.rdNode L n 4).2 || (Sp.rdPromise L a2).2 || (Sp.rdPromise L b2).2 || fa != 0 || fb != 1 || ca != cb || !decide (xa=xb)):=by
   simp only [Sp.rdResolve,← ea,← eb,← e1,← e2,← e3,← e4,← e5,← e6,← e7,← e8]
  have hbb:(bad || (Sp.rdResolve L who n).2)=(bad3 || fa != 0 || fb != 1 || ca != cb || !decide (xa=xb)):=by
   rw [hsp,← hb3,← hbad];simp only [Bool.or_assoc]
  rw [hbb] at hK
  rw [hsp] at hK
  have J7:∀(v:Bool) (w5:World),v=(bad3 || fa != 0 || fb != 1 || ca != cb || !decide (xa=xb))→Box w5 r [.pointer p,.bool v] 182→Ext (·=r.block) w24 w5→m_A_j7 who p1 pA pB w5 K:=by
   intro v w5 hv B5 E5
   have hR5:ReaderAt w5 r p v L F:=⟨B5,hR24.pool.ext E5 (fun b hb e=>hR.out (e▸hb)),hR.ok,hR.out⟩
   have dA5:=dA.ext E5 (by omega)
   have dB5:=bB.ext E5 (by omega)
   have h15:=hB24.ext E5 hne
   unfold m_A_j7
   refine ⟨ca,dA5.cell rfl,xa,dA5.cell rfl,ga,dA5.cell rfl,fun hg=>?_,fun hg=>⟨gb,dB5.cell rfl,?_⟩⟩
   ·refine bx 5 h15 rfl rfl (fun w6 b6 E6=>⟨4,who,ca,xa,true,b6.row,?_⟩)
    have:=hK w5 w6 (by rw [← hv];exact hR5) (E24'.trans E5) (by rw [hg];exact b6) E6
    rw [hg] at this;exact this
   ·refine bx 5 h15 rfl rfl (fun w6 b6 E6=>⟨4,who,ca,xa,gb,b6.row,?_⟩)
    have:=hK w5 w6 (by rw [← hv];exact hR5) (E24'.trans E5) (by rw [hg];exact b6) E6
    rw [hg] at this;exact this
  have setr:∀v:Bool,Box (w24.setCell (r.add 1) (.bool v)) r [.pointer p,.bool v] 182∧Ext (·=r.block) w24 (w24.setCell (r.add 1) (.bool v)):=fun v =>
   ⟨hR24.box.set 1 _,by have:=Ext.setCell (w:=w24) (r.add 1) (.bool v);rw [add_block] at this;exact this⟩
  have J10:∀x,x=(bad3 || fa != 0 || fb != 1 || ca != cb)→m_A_j10 (some r) who p1 pA pB x w24 K:=by
   intro x hx
   unfold m_A_j10
   refine ⟨fun h=>⟨r,rfl,hR24.box.canW (by simp),?_⟩,fun h=>⟨xa,dA.cell rfl,xb,bB.cell rfl,r,rfl,hR24.box.canW (by simp),?_⟩⟩
   ·intro w16 hw
    exact J7 true w16 (by rw [← hx,h];rfl) (by rw [hw];exact (setr _).1) (by rw [hw];exact (setr _).2)
   ·intro w16 hw
    exact J7 (!decide (xa=xb)) w16 (by rw [← hx,h];rfl) (by rw [hw];exact (setr _).1) (by rw [hw];exact (setr _).2)
  have J9:∀x,x=(bad3 || fa != 0 || fb != 1)→m_A_j9 (some r) who p1 pA pB x w24 K:=by
   intro x hx
   unfold m_A_j9
   exact ⟨fun h=>J10 _ (by rw [← hx,h];rfl),fun h=>⟨ca,dA.cell rfl,cb,bB.cell rfl,J10 _ (by rw [← hx,h];rfl)⟩⟩
  have J8:∀x,x=(bad3 || fa != 0)→m_A_j8 (some r) who p1 pA pB x w24 K:=by
   intro x hx
   unfold m_A_j8
   exact ⟨fun h=>J9 _ (by rw [← hx,h];rfl),fun h=>⟨fb,bB.cell rfl,J9 _ (by rw [← hx,h];rfl)⟩⟩
  unfold m_A_j6
  exact ⟨r,rfl,bad3,hR24.box.cell rfl,fun h=>J8 _ (by rw [h];rfl),fun h=>⟨fa,dA.cell rfl,J8 _ (by rw [h];rfl)⟩⟩
 have l18:=hR18.box.lt
 have Er18:Ext (·=r.block) w18 w18:=Ext.refl w18
 refine ⟨a2,fun w' h=>h.cell rfl,b2,fun w' h=>h.cell rfl,?_⟩
 ·skip
  refine ⟨?_,?_,?_⟩
  ·skip
   refine (c_rd_promise r p a2 _ w18 hR18).mono ?_
   rintro _ v1 ⟨k1,f1,c1,x1,g1,rfl,hl1,R1,e1⟩
   have E1:=Er18.trans e1
   have s1:=E1.size
   refine ⟨_,_,_,_,_,rfl,cN.ext E1 (by omega),?_⟩
   refine ⟨?_,?_,?_⟩
   ·skip
    refine (c_rd_promise r p b2 _ v1 R1).mono ?_
    rintro _ v2 ⟨k2,f2,c2,x2,g2,rfl,hl2,R2,e2⟩
    have E2:=E1.trans e2
    have s2:=E2.size
    refine ⟨_,_,_,_,_,rfl,?_⟩
    refine ⟨?_,?_⟩
    ·skip
     intro q3 v3 h3
     have e3:Pure v2 v3:=Ext.new h3
     have o3:=h3.at_size
     have R3:=R2.pure e3
     have E3:=E2.thenPure e3
     have s3:=E3.size
     have t3:=(E2).size
     have bA3:=Box.of_new h3
     refine ⟨cN.ext E3 (by omega),?_⟩
     intro q4 v4 h4
     have e4:Pure v3 v4:=Ext.new h4
     have o4:=h4.at_size
     have R4:=R3.pure e4
     have E4:=E3.thenPure e4
     have s4:=E4.size
     have t4:=(E3).size
     have bA4:=bA3.pure e4
     have lA4:=bA3.lt
     have bB4:=Box.of_new h4
     refine ⟨cN.ext E4 (by omega),?_⟩
     exact leaf q3 q4 v4 _ _ _ _ _ _ _ _ _ _ hl1 hl2 R4 E4 bA4 bB4 (by omega) (by omega) (by omega)
    ·skip
     intro q5 v5 h5
     have e5:Pure v2 v5:=Ext.new h5
     have o5:=h5.at_size
     have R5:=R2.pure e5
     have E5:=E2.thenPure e5
     have s5:=E5.size
     have t5:=(E2).size
     have bB5:=Box.of_new h5
     refine ⟨cN.ext E5 (by omega),?_⟩
     intro q6 v6 h6
     have e6:Pure v5 v6:=Ext.new h6
     have o6:=h6.at_size
     have R6:=R5.pure e6
     have E6:=E5.thenPure e6
     have s6:=E6.size
     have t6:=(E5).size
     have bB6:=bB5.pure e6
     have lB6:=bB5.lt
     have bA6:=Box.of_new h6
     refine ⟨cN.ext E6 (by omega),?_⟩
     exact leaf q6 q5 v6 _ _ _ _ _ _ _ _ _ _ hl1 hl2 R6 E6 bA6 bB6 (by omega) (by omega) (by omega)
   ·skip
    intro q7 v7 h7
    have e7:Pure v1 v7:=Ext.new h7
    have o7:=h7.at_size
    have R7:=R1.pure e7
    have E7:=E1.thenPure e7
    have s7:=E7.size
    have t7:=(E1).size
    have bA7:=Box.of_new h7
    refine ⟨cN.ext E7 (by omega),?_⟩
    refine ⟨?_,?_⟩
    ·skip
     refine (c_rd_promise r p b2 _ v7 R7).mono ?_
     rintro _ v8 ⟨k8,f8,c8,x8,g8,rfl,hl2,R8,e8⟩
     have E8:=E7.trans e8
     have bA8:=bA7.ext e8 (by omega)
     have s8:=E8.size
     refine ⟨_,_,_,_,_,rfl,?_⟩
     intro q9 v9 h9
     have e9:Pure v8 v9:=Ext.new h9
     have o9:=h9.at_size
     have R9:=R8.pure e9
     have E9:=E8.thenPure e9
     have s9:=E9.size
     have t9:=(E8).size
     have bA9:=bA8.pure e9
     have lA9:=bA8.lt
     have bB9:=Box.of_new h9
     refine ⟨cN.ext E9 (by omega),?_⟩
     exact leaf q7 q9 v9 _ _ _ _ _ _ _ _ _ _ hl1 hl2 R9 E9 bA9 bB9 (by omega) (by omega) (by omega)
    ·skip
     intro q10 v10 h10
     have e10:Pure v7 v10:=Ext.new h10
     have o10:=h10.at_size
     have R10:=R7.pure e10
     have E10:=E7.thenPure e10
     have s10:=E10.size
     have t10:=(E7).size
     have bA10:=bA7.pure e10
     have lA10:=bA7.lt
     have bB10:=Box.of_new h10
     refine ⟨cN.ext E10 (by omega),?_⟩
     refine (c_rd_promise r p b2 _ v10 R10).mono ?_
     rintro _ v11 ⟨k11,f11,c11,x11,g11,rfl,hl2,R11,e11⟩
     have E11:=E10.trans e11
     have bA11:=bA10.ext e11 (by omega)
     have bB11:=bB10.ext e11 (by omega)
     have s11:=E11.size
     refine ⟨_,_,_,_,_,rfl,?_⟩
     exact leaf q7 q10 v11 _ _ _ _ _ _ _ _ _ _ hl1 hl2 R11 E11 bA11 bB11 (by omega) (by omega) (by omega)
   ·skip
    intro q12 v12 h12
    have e12:Pure v1 v12:=Ext.new h12
    have o12:=h12.at_size
    have R12:=R1.pure e12
    have E12:=E1.thenPure e12
    have s12:=E12.size
    have t12:=(E1).size
    have bB12:=Box.of_new h12
    refine ⟨cN.ext E12 (by omega),?_⟩
    refine ⟨?_,?_⟩
    ·skip
     refine (c_rd_promise r p b2 _ v12 R12).mono ?_
     rintro _ v13 ⟨k13,f13,c13,x13,g13,rfl,hl2,R13,e13⟩
     have E13:=E12.trans e13
     have bB13:=bB12.ext e13 (by omega)
     have s13:=E13.size
     refine ⟨_,_,_,_,_,rfl,?_⟩
     intro q14 v14 h14
     have e14:Pure v13 v14:=Ext.new h14
     have o14:=h14.at_size
     have R14:=R13.pure e14
     have E14:=E13.thenPure e14
     have s14:=E14.size
     have t14:=(E13).size
     have bB14:=bB13.pure e14
     have lB14:=bB13.lt
     have bA14:=Box.of_new h14
     refine ⟨cN.ext E14 (by omega),?_⟩
     exact leaf q14 q12 v14 _ _ _ _ _ _ _ _ _ _ hl1 hl2 R14 E14 bA14 bB14 (by omega) (by omega) (by omega)
    ·skip
     intro q15 v15 h15
     have e15:Pure v12 v15:=Ext.new h15
     have o15:=h15.at_size
     have R15:=R12.pure e15
     have E15:=E12.thenPure e15
     have s15:=E15.size
     have t15:=(E12).size
     have bB15:=bB12.pure e15
     have lB15:=bB12.lt
     have bA15:=Box.of_new h15
     refine ⟨cN.ext E15 (by omega),?_⟩
     refine (c_rd_promise r p b2 _ v15 R15).mono ?_
     rintro _ v16 ⟨k16,f16,c16,x16,g16,rfl,hl2,R16,e16⟩
     have E16:=E15.trans e16
     have bA16:=bA15.ext e16 (by omega)
     have bB16:=bB15.ext e16 (by omega)
     have s16:=E16.size
     refine ⟨_,_,_,_,_,rfl,?_⟩
     exact leaf q15 q12 v16 _ _ _ _ _ _ _ _ _ _ hl1 hl2 R16 E16 bA16 bB16 (by omega) (by omega) (by omega)
  ·skip
   intro q17 v17 h17
   have e17:Pure w18 v17:=Ext.new h17
   have o17:=h17.at_size
   have R17:=hR18.pure e17
   have E17:=Er18.thenPure e17
   have s17:=E17.size
   have t17:=(Er18).size
   have bA17:=Box.of_new h17
   refine ⟨cN.ext E17 (by omega),?_⟩
   refine ⟨?_,?_⟩
   ·skip
    refine (c_rd_promise r p a2 _ v17 R17).mono ?_
    rintro _ v18 ⟨k18,f18,c18,x18,g18,rfl,hl1,R18,e18⟩
    have E18:=E17.trans e18
    have bA18:=bA17.ext e18 (by omega)
    have s18:=E18.size
    refine ⟨_,_,_,_,_,rfl,cN.ext E18 (by omega),?_⟩
    refine ⟨?_,?_⟩
    ·skip
     refine (c_rd_promise r p b2 _ v18 R18).mono ?_
     rintro _ v19 ⟨k19,f19,c19,x19,g19,rfl,hl2,R19,e19⟩
     have E19:=E18.trans e19
     have bA19:=bA18.ext e19 (by omega)
     have s19:=E19.size
     refine ⟨_,_,_,_,_,rfl,?_⟩
     intro q20 v20 h20
     have e20:Pure v19 v20:=Ext.new h20
     have o20:=h20.at_size
     have R20:=R19.pure e20
     have E20:=E19.thenPure e20
     have s20:=E20.size
     have t20:=(E19).size
     have bA20:=bA19.pure e20
     have lA20:=bA19.lt
     have bB20:=Box.of_new h20
     refine ⟨cN.ext E20 (by omega),?_⟩
     exact leaf q17 q20 v20 _ _ _ _ _ _ _ _ _ _ hl1 hl2 R20 E20 bA20 bB20 (by omega) (by omega) (by omega)
    ·skip
     intro q21 v21 h21
     have e21:Pure v18 v21:=Ext.new h21
     have o21:=h21.at_size
     have R21:=R18.pure e21
     have E21:=E18.thenPure e21
     have s21:=E21.size
     have t21:=(E18).size
     have bA21:=bA18.pure e21
     have lA21:=bA18.lt
     have bB21:=Box.of_new h21
     refine ⟨cN.ext E21 (by omega),?_⟩
     refine (c_rd_promise r p b2 _ v21 R21).mono ?_
     rintro _ v22 ⟨k22,f22,c22,x22,g22,rfl,hl2,R22,e22⟩
     have E22:=E21.trans e22
     have bA22:=bA21.ext e22 (by omega)
     have bB22:=bB21.ext e22 (by omega)
     have s22:=E22.size
     refine ⟨_,_,_,_,_,rfl,?_⟩
     exact leaf q17 q21 v22 _ _ _ _ _ _ _ _ _ _ hl1 hl2 R22 E22 bA22 bB22 (by omega) (by omega) (by omega)
   ·skip
    intro q23 v23 h23
    have e23:Pure v17 v23:=Ext.new h23
    have o23:=h23.at_size
    have R23:=R17.pure e23
    have E23:=E17.thenPure e23
    have s23:=E23.size
    have t23:=(E17).size
    have bA23:=bA17.pure e23
    have lA23:=bA17.lt
    have bB23:=Box.of_new h23
    refine ⟨cN.ext E23 (by omega),?_⟩
    refine (c_rd_promise r p a2 _ v23 R23).mono ?_
    rintro _ v24 ⟨k24,f24,c24,x24,g24,rfl,hl1,R24,e24⟩
    have E24:=E23.trans e24
    have bA24:=bA23.ext e24 (by omega)
    have bB24:=bB23.ext e24 (by omega)
    have s24:=E24.size
    refine ⟨_,_,_,_,_,rfl,cN.ext E24 (by omega),?_⟩
    refine (c_rd_promise r p b2 _ v24 R24).mono ?_
    rintro _ v25 ⟨k25,f25,c25,x25,g25,rfl,hl2,R25,e25⟩
    have E25:=E24.trans e25
    have bA25:=bA24.ext e25 (by omega)
    have bB25:=bB24.ext e25 (by omega)
    have s25:=E25.size
    refine ⟨_,_,_,_,_,rfl,?_⟩
    exact leaf q17 q23 v25 _ _ _ _ _ _ _ _ _ _ hl1 hl2 R25 E25 bA25 bB25 (by omega) (by omega) (by omega)
  ·skip
   intro q26 v26 h26
   have e26:Pure w18 v26:=Ext.new h26
   have o26:=h26.at_size
   have R26:=hR18.pure e26
   have E26:=Er18.thenPure e26
   have s26:=E26.size
   have t26:=(Er18).size
   have bB26:=Box.of_new h26
   refine ⟨cN.ext E26 (by omega),?_⟩
   refine ⟨?_,?_⟩
   ·skip
    refine (c_rd_promise r p a2 _ v26 R26).mono ?_
    rintro _ v27 ⟨k27,f27,c27,x27,g27,rfl,hl1,R27,e27⟩
    have E27:=E26.trans e27
    have bB27:=bB26.ext e27 (by omega)
    have s27:=E27.size
    refine ⟨_,_,_,_,_,rfl,cN.ext E27 (by omega),?_⟩
    refine ⟨?_,?_⟩
    ·skip
     refine (c_rd_promise r p b2 _ v27 R27).mono ?_
     rintro _ v28 ⟨k28,f28,c28,x28,g28,rfl,hl2,R28,e28⟩
     have E28:=E27.trans e28
     have bB28:=bB27.ext e28 (by omega)
     have s28:=E28.size
     refine ⟨_,_,_,_,_,rfl,?_⟩
     intro q29 v29 h29
     have e29:Pure v28 v29:=Ext.new h29
     have o29:=h29.at_size
     have R29:=R28.pure e29
     have E29:=E28.thenPure e29
     have s29:=E29.size
     have t29:=(E28).size
     have bB29:=bB28.pure e29
     have lB29:=bB28.lt
     have bA29:=Box.of_new h29
     refine ⟨cN.ext E29 (by omega),?_⟩
     exact leaf q29 q26 v29 _ _ _ _ _ _ _ _ _ _ hl1 hl2 R29 E29 bA29 bB29 (by omega) (by omega) (by omega)
    ·skip
     intro q30 v30 h30
     have e30:Pure v27 v30:=Ext.new h30
     have o30:=h30.at_size
     have R30:=R27.pure e30
     have E30:=E27.thenPure e30
     have s30:=E30.size
     have t30:=(E27).size
     have bB30:=bB27.pure e30
     have lB30:=bB27.lt
     have bA30:=Box.of_new h30
     refine ⟨cN.ext E30 (by omega),?_⟩
     refine (c_rd_promise r p b2 _ v30 R30).mono ?_
     rintro _ v31 ⟨k31,f31,c31,x31,g31,rfl,hl2,R31,e31⟩
     have E31:=E30.trans e31
     have bA31:=bA30.ext e31 (by omega)
     have bB31:=bB30.ext e31 (by omega)
     have s31:=E31.size
     refine ⟨_,_,_,_,_,rfl,?_⟩
     exact leaf q30 q26 v31 _ _ _ _ _ _ _ _ _ _ hl1 hl2 R31 E31 bA31 bB31 (by omega) (by omega) (by omega)
   ·skip
    intro q32 v32 h32
    have e32:Pure v26 v32:=Ext.new h32
    have o32:=h32.at_size
    have R32:=R26.pure e32
    have E32:=E26.thenPure e32
    have s32:=E32.size
    have t32:=(E26).size
    have bB32:=bB26.pure e32
    have lB32:=bB26.lt
    have bA32:=Box.of_new h32
    refine ⟨cN.ext E32 (by omega),?_⟩
    refine (c_rd_promise r p a2 _ v32 R32).mono ?_
    rintro _ v33 ⟨k33,f33,c33,x33,g33,rfl,hl1,R33,e33⟩
    have E33:=E32.trans e33
    have bA33:=bA32.ext e33 (by omega)
    have bB33:=bB32.ext e33 (by omega)
    have s33:=E33.size
    refine ⟨_,_,_,_,_,rfl,cN.ext E33 (by omega),?_⟩
    refine (c_rd_promise r p b2 _ v33 R33).mono ?_
    rintro _ v34 ⟨k34,f34,c34,x34,g34,rfl,hl2,R34,e34⟩
    have E34:=E33.trans e34
    have bA34:=bA33.ext e34 (by omega)
    have bB34:=bB33.ext e34 (by omega)
    have s34:=E34.size
    refine ⟨_,_,_,_,_,rfl,?_⟩
    exact leaf q32 q26 v34 _ _ _ _ _ _ _ _ _ _ hl1 hl2 R34 E34 bA34 bB34 (by omega) (by omega) (by omega)
end Go.Proofs
end
section
open Go Go.SE
namespace Go.Sp
def readQ (L:Pool) (t:Int):Letter×Bool :=
 let n:=nodeOf L t
 if n.kind=7 then rdSigned L n.frm n.a else if n.kind=8∨n.kind=9 then rdPromise L t
 else if ((rdTagged L t).2 || !decide ((rdTagged L t).1.1=wFull))=true then (noLetter,true)
 else (⟨7,0,(rdNode L (rdTagged L t).1.2 2).1.num,⟨#[]⟩,false⟩,(rdNode L (rdTagged L t).1.2 2).2)
def read (L:Pool) (t:Int):Letter×Bool:=if (readQ L t).2=true then (noLetter,false) else ((readQ L t).1,true)
end Go.Sp
namespace Go.Proofs
attribute [local irreducible] Calls
theorem c_rd_signed (r : Addr) (p : Option Addr) (who body : Int) (bad : Bool) (w : World) {L : Sp.Pool} {F : NP} (hR : ReaderAt w r p bad L F) :
  Calls Tryz.prog 106 #[.pointer (some r),.int .i64 who,.int .i64 body] w
   (fun e w'=>∃k:Int,∃f:Int,∃c:Int,∃x:ByteArray,∃fk:Bool,e=.returned (.agg #[.int .i64 k,.int .i64 f,.int .u64 c,.string x,.bool fk])∧((⟨k,f,c,x,fk⟩:Sp.Letter)=(Sp.rdSigned L who body).1∧ReaderAt w' r p (bad || (Sp.rdSigned L who body).2) L F∧Ext (·=r.block) w w')):=by
 suffices key:∀K:Int→Int→Int→ByteArray→Bool→WP,(∀k f c x fk w',((⟨k,f,c,x,fk⟩:Sp.Letter)=(Sp.rdSigned L who body).1∧ReaderAt w' r p (bad || (Sp.rdSigned L who body).2) L F∧Ext (·=r.block) w w')→K k f c x fk w')→m_A (some r) who body w K from
  w_A _ _ _ w _ (key _ (fun _ _ _ _ _ _ h=>h))
 intro K hK
 unfold m_A
 intro p1 w1 h1
 have E1:Pure w w1:=Ext.new h1
 have o1:=New.own (Ext.refl w) h1
 have lr:=hR.box.lt
 have b1:Box w1 p1 lz 35:=Box.of_new h1
 have ne:p1.block≠r.block:=by omega
 refine (c_rd_tagged r p body bad w1 (hR.pure E1)).mono ?_
 rintro _ w2 ⟨x,y,rfl,hg,hR2,E12⟩
 refine ⟨_,_,rfl,?_⟩
 have b2:=b1.ext E12 ne
 have E2:Ext (·=r.block) w w2:=E1.pure.trans E12
 have ex:x=(Sp.rdTagged L body).1.1:=congrArg Prod.fst hg
 have ey:y=(Sp.rdTagged L body).1.2:=congrArg Prod.snd hg
 have hsp:Sp.rdSigned L who body=if x=Sp.wAbort∧who=0 then (⟨3,0,(Sp.rdNode L y 2).1.num,⟨#[]⟩,false⟩,(Sp.rdTagged L body).2 || (Sp.rdNode L y 2).2)
  else if x=Sp.wAborted∧who=2 then (⟨5,0,(Sp.rdNode L y 2).1.num,⟨#[]⟩,false⟩,(Sp.rdTagged L body).2 || (Sp.rdNode L y 2).2)
  else if x=Sp.wInstead∧who=2 then (⟨6,0,(Sp.rdDeal L y).1.1,(Sp.rdDeal L y).1.2,false⟩,(Sp.rdTagged L body).2 || (Sp.rdDeal L y).2)
  else if x=Sp.wDeal∧who≤1 then (⟨2,who,(Sp.rdDeal L body).1.1,(Sp.rdDeal L body).1.2,false⟩,(Sp.rdTagged L body).2 || (Sp.rdDeal L body).2)
  else if x=Sp.wResolve∧who≤1 then ((Sp.rdResolve L who y).1,(Sp.rdTagged L body).2 || (Sp.rdResolve L who y).2)
  else (Sp.noLetter,true):=by
  simp only [Sp.rdSigned,← ex,← ey]
 clear ex ey hg
 generalize hbg:(Sp.rdTagged L body).2=g2 at *
 have fin : ∀ (k f c : Int) (z : ByteArray) (fk v : Bool) (w5 : World), Sp.rdSigned L who body = (⟨k, f, c, z, fk⟩, v) → ReaderAt w5 r p (bad || v) L F → Ext (· = r.block) w2 w5 →
   (∀j,j<5→CanW w5 (p1.add j))∧∀w6:World,w6=storeRow w5 p1 [(.int .i64 k),(.int .i64 f),(.int .u64 c),(.string z),(.bool fk)] →
   ∃qKind1:Int,∃qFrom1:Int,∃qC1:Int,∃qText1:ByteArray,∃qFake1:Bool,Row w6 p1 [(.int .i64 qKind1),(.int .i64 qFrom1),(.int .u64 qC1),(.string qText1),(.bool qFake1)] ∧
   K qKind1 qFrom1 qC1 qText1 qFake1 w6:=by
  intro k f c z fk v w5 hs hR5 E5
  refine bx 5 (b2.ext E5 ne) rfl rfl (fun w6 b6 E6=>⟨k,f,c,z,fk,b6.row,hK _ _ _ _ _ _ ⟨by rw [hs],?_,?_⟩⟩)
  ·rw [hs];exact ⟨hR5.box.ext E6 ne.symm,hR5.pool.ext E6 (fun b hb e=>by have:=hR.pool.lt hb;omega),hR.ok,hR.out⟩
  ·exact (E2.trans E5).trans' E6 (fun i hi h=>by omega)
 have nodeCase : ∀ (k : Int), Sp.rdSigned L who body = (⟨k, 0, (Sp.rdNode L y 2).1.num, ⟨#[]⟩, false⟩, g2 || (Sp.rdNode L y 2).2) →
   Calls Tryz.prog 109 #[.pointer (some r),.int .i64 y,.int .i64 2] w2 (fun e w3=>∃rKind1:Int,∃rFrom1:Int,∃rTo1:Int,∃rNum1:Int,∃rText1:ByteArray,∃rA1:Int,∃rB1:Int,e=.returned (.agg #[(.int .i64 rKind1),(.int .i64 rFrom1),(.int .i64 rTo1),(.int .u64 rNum1),(.string rText1),(.int .i64 rA1),(.int .i64 rB1)]) ∧
    (∀j,j<5→CanW w3 (p1.add j))∧∀w4:World,w4=storeRow w3 p1 [(.int .i64 k),(.int .i64 0),(.int .u64 rNum1),(.string (⟨#[]⟩:ByteArray)),(.bool false)] →
    ∃qKind1:Int,∃qFrom1:Int,∃qC1:Int,∃qText1:ByteArray,∃qFake1:Bool,Row w4 p1 [(.int .i64 qKind1),(.int .i64 qFrom1),(.int .u64 qC1),(.string qText1),(.bool qFake1)] ∧
    K qKind1 qFrom1 qC1 qText1 qFake1 w4):=by
  intro k hs
  refine (c_rd_node r p y 2 _ w2 hR2).mono ?_
  rintro _ w3 ⟨k3,f3,t3,u3,x3,a3,b3,rfl,hn3,hR3,E3⟩
  have e3:u3=(Sp.rdNode L y 2).1.num:=by rw [← hn3]
  refine ⟨_,_,_,_,_,_,_,rfl,?_⟩
  rw [← e3] at hs
  exact fin _ _ _ _ _ _ w3 hs (by rw [← Bool.or_assoc];exact hR3) E3
 have dealCase : ∀ (k f t : Int), Sp.rdSigned L who body = (⟨k, f, (Sp.rdDeal L t).1.1, (Sp.rdDeal L t).1.2, false⟩, g2 || (Sp.rdDeal L t).2) →
   Calls Tryz.prog 170 #[.pointer (some r),.int .i64 t] w2 (fun e w7=>∃r4:Int,∃r5:ByteArray,e=.returned (.tuple #[(.int .u64 r4),(.string r5)]) ∧
    (∀j,j<5→CanW w7 (p1.add j))∧∀w8:World,w8=storeRow w7 p1 [(.int .i64 k),(.int .i64 f),(.int .u64 r4),(.string r5),(.bool false)] →
    ∃qKind1:Int,∃qFrom1:Int,∃qC1:Int,∃qText1:ByteArray,∃qFake1:Bool,Row w8 p1 [(.int .i64 qKind1),(.int .i64 qFrom1),(.int .u64 qC1),(.string qText1),(.bool qFake1)] ∧
    K qKind1 qFrom1 qC1 qText1 qFake1 w8):=by
  intro k f t hs
  refine (c_rd_deal r p t _ w2 hR2).mono ?_
  rintro _ w3 ⟨c,z,rfl,hd,hR3,E3⟩
  have e1:c=(Sp.rdDeal L t).1.1:=congrArg Prod.fst hd
  have e2:z=(Sp.rdDeal L t).1.2:=congrArg Prod.snd hd
  refine ⟨_,_,rfl,?_⟩
  rw [← e1,← e2] at hs
  exact fin _ _ _ _ _ _ w3 hs (by rw [← Bool.or_assoc];exact hR3) E3
 have J5:∀b,b=decide (x=Sp.wResolve∧who≤1)→¬ (x=Sp.wAbort∧who=0)→¬ (x=Sp.wAborted∧who=2)→¬ (x=Sp.wInstead∧who=2)→¬ (x=Sp.wDeal∧who≤1)→m_A_j5 (some r) who p1 y b w2 K:=by
  intro b hb h1 h2 h3 h4
  rw [if_neg h1,if_neg h2,if_neg h3,if_neg h4] at hsp
  cases hbv:b with
  | true =>
   have hc:x=Sp.wResolve∧who≤1:=of_decide_eq_true (by rw [← hb,hbv])
   rw [if_pos hc] at hsp
   refine c_rd_resolve r p p1 who y _ w2 hR2 b2 ne K (fun w6 w' hR6 E6 b' E'=>hK _ _ _ _ _ _ ⟨by rw [hsp];rfl,?_,?_⟩)
   ·rw [hsp];simp only [← Bool.or_assoc]
    exact ⟨hR6.box.ext E' ne.symm,hR6.pool.ext E' (fun b hb e=>by have:=hR.pool.lt hb;omega),hR.ok,hR.out⟩
   ·exact (E2.trans E6).trans' E' (fun i hi h=>by omega)
  | false =>
   have hc:¬ (x=Sp.wResolve∧who≤1):=of_decide_eq_false (by rw [← hb,hbv])
   rw [if_neg hc] at hsp
   unfold m_A_j5
   refine Br.f rfl ⟨r,rfl,hR2.box.canW (by simp),?_⟩
   intro w77 hw
   have d5:Box w77 r [.pointer p,.bool true] 182:=by rw [hw];exact hR2.box.set 1 _
   have E5:Ext (·=r.block) w2 w77:=by rw [hw];have:=Ext.setCell (w:=w2) (r.add 1) (.bool true);rw [add_block] at this;exact this
   exact fin 0 0 0 ⟨#[]⟩ false true w77 hsp (by rw [Bool.or_true];exact ⟨d5,hR2.pool.ext E5 (fun b hb e=>hR.out (e▸hb)),hR.ok,hR.out⟩) E5
 have J4:∀b,b=decide (x=Sp.wDeal∧who≤1)→¬ (x=Sp.wAbort∧who=0)→¬ (x=Sp.wAborted∧who=2)→¬ (x=Sp.wInstead∧who=2)→m_A_j4 (some r) who body p1 x y b w2 K:=by
  intro b hb h1 h2 h3
  unfold m_A_j4
  refine ⟨fun h=>dealCase 2 who body ?_,fun h=>?_⟩
  ·rw [hsp,if_neg h1,if_neg h2,if_neg h3,if_pos (of_decide_eq_true (by rw [← hb,h]))]
  ·have h4:¬ (x=Sp.wDeal∧who≤1):=of_decide_eq_false (by rw [← hb,h])
   exact ⟨fun hw=>J5 _ (by have:x=Sp.wResolve:=of_decide_eq_true hw;simp [this]) h1 h2 h3 h4,fun hw=>J5 _ (by have:¬ x=Sp.wResolve:=of_decide_eq_false hw;simp [this]) h1 h2 h3 h4⟩
 have J3:∀b,b=decide (x=Sp.wInstead∧who=2)→¬ (x=Sp.wAbort∧who=0)→¬ (x=Sp.wAborted∧who=2)→m_A_j3 (some r) who body p1 x y b w2 K:=by
  intro b hb h1 h2
  unfold m_A_j3
  refine ⟨fun h=>dealCase 6 0 y ?_,fun h=>?_⟩
  ·rw [hsp,if_neg h1,if_neg h2,if_pos (of_decide_eq_true (by rw [← hb,h]))]
  ·have h3:¬ (x=Sp.wInstead∧who=2):=of_decide_eq_false (by rw [← hb,h])
   exact ⟨fun hw=>J4 _ (by have:x=Sp.wDeal:=of_decide_eq_true hw;simp [this]) h1 h2 h3,fun hw=>J4 _ (by have:¬ x=Sp.wDeal:=of_decide_eq_false hw;simp [this]) h1 h2 h3⟩
 have J2:∀b,b=decide (x=Sp.wAborted∧who=2)→¬ (x=Sp.wAbort∧who=0)→m_A_j2 (some r) who body p1 x y b w2 K:=by
  intro b hb h1
  unfold m_A_j2
  refine ⟨fun h=>nodeCase 5 ?_,fun h=>?_⟩
  ·rw [hsp,if_neg h1,if_pos (of_decide_eq_true (by rw [← hb,h]))]
  ·have h2:¬ (x=Sp.wAborted∧who=2):=of_decide_eq_false (by rw [← hb,h])
   exact ⟨fun hw=>J3 _ (by have:x=Sp.wInstead:=of_decide_eq_true hw;simp [this];rfl) h1 h2,fun hw=>J3 _ (by have:¬ x=Sp.wInstead:=of_decide_eq_false hw;simp [this]) h1 h2⟩
 have J1:∀b,b=decide (x=Sp.wAbort∧who=0)→m_A_j1 (some r) who body p1 x y b w2 K:=by
  intro b hb
  unfold m_A_j1
  refine ⟨fun h=>nodeCase 3 ?_,fun h=>?_⟩
  ·rw [hsp,if_pos (of_decide_eq_true (by rw [← hb,h]))]
  ·have h1:¬ (x=Sp.wAbort∧who=0):=of_decide_eq_false (by rw [← hb,h])
   exact ⟨fun hw=>J2 _ (by have:x=Sp.wAborted:=of_decide_eq_true hw;simp [this];rfl) h1,fun hw=>J2 _ (by have:¬ x=Sp.wAborted:=of_decide_eq_false hw;simp [this]) h1⟩
 exact ⟨fun hw=>J1 _ (by have:x=Sp.wAbort:=of_decide_eq_true hw;simp [this];rfl),fun hw=>J1 _ (by have:¬ x=Sp.wAbort:=of_decide_eq_false hw;simp [this])⟩
end Go.Proofs
end
section
open Go Go.SE
namespace Go.Proofs
attribute [local irreducible] Calls
theorem c_letter_ReadN (p : Option Addr) (t : Int) (w : World) {L : Sp.Pool} {F : NP} (hP : PoolN w p L F) (hok : Sp.Ok L) :
  Calls Tryz.prog 51 #[.pointer p,.int .i64 t] w
   (fun e w'=>∃k:Int,∃f:Int,∃c:Int,∃x:ByteArray,∃fk:Bool,∃ok:Bool,e=.returned (.tuple #[.agg #[.int .i64 k,.int .i64 f,.int .u64 c,.string x,.bool fk],.bool ok])∧(((⟨k,f,c,x,fk⟩:Sp.Letter),ok)=Sp.read L t∧Pure w w')):=by
 suffices key:∀K:Int→Int→Int→ByteArray→Bool→Bool→WP,(∀k f c x fk ok w',(((⟨k,f,c,x,fk⟩:Sp.Letter),ok)=Sp.read L t∧Pure w w')→K k f c x fk ok w')→m_L p t w K from
  w_L _ _ w _ (key _ (fun _ _ _ _ _ _ _ h=>h))
 intro K hK
 unfold m_L
 intro p2 w1 h1 p3 w2 h2
 have E1:Pure w w1:=Ext.new h1
 have E2:Pure w w2:=E1.trans (Ext.new h2)
 have o2:=New.own (Ext.refl w) h1
 have o3:=New.own E1 h2
 have n23:p2.block≠p3.block:=New.ne h2 (Box.of_new h1).blk
 have b2:Box w2 p2 lz 35:=(Box.of_new h1).pure (Ext.new h2)
 have hout:¬ F p3.block:=fun h=>by have:=hP.lt h;omega
 have hR2:ReaderAt w2 p3 p false L F:=⟨Box.of_new h2,hP.pure E2,hok,hout⟩
 refine (c_NodeN p t w2 hR2.pool hok).mono ?_
 rintro _ w3 ⟨k,f,t',u,x,a,b,ok,rfl,⟨hn,_⟩,E23⟩
 refine ⟨_,_,_,_,_,_,_,_,rfl,?_⟩
 intro p4 w4 h4
 have E3:Pure w2 w3:=E23
 have o4:=New.own (Ext.refl w3) h4
 have l3:=(hR2.pure E3).box.lt
 have l2:=(b2.pure E3).lt
 refine bx 7 (Box.of_new h4) rfl rfl (fun w5 b4 E'=>?_)
 have E5:Pure w3 w5:=Ext.own (Ext.new h4) o4 E'
 intro p5 w6 h6
 have E6:Pure w3 w6:=E5.trans (Ext.new h6)
 have o5:=New.own E5 h6
 have n45:p4.block≠p5.block:=New.ne h6 b4.blk
 have c4:=b4.pure (Ext.new h6:Pure w5 w6)
 have c5:Box w6 p5 lz 35:=Box.of_new h6
 have c2:=b2.pure (E3.trans E6)
 have hR6:=hR2.pure (E3.trans E6)
 have E26:Pure w w6:=(E2.trans E3).trans E6
 clear E' h1 h2 h4 h6
 have n35:p3.block≠p5.block:=by omega
 have n25:p2.block≠p5.block:=by omega
 have hq:Sp.readQ L t=if k=7 then Sp.rdSigned L f a else if k=8∨k=9 then Sp.rdPromise L t else if ((Sp.rdTagged L t).2 || !decide ((Sp.rdTagged L t).1.1=Sp.wFull))=true then (Sp.noLetter,true) else (⟨7,0,(Sp.rdNode L (Sp.rdTagged L t).1.2 2).1.num,⟨#[]⟩,false⟩,(Sp.rdNode L (Sp.rdTagged L t).1.2 2).2):=by
  simp only [Sp.readQ,← hn]
 have bad1 : ∀ (w8 : World), (Sp.readQ L t).2 = true → Ext (fun b => b = p3.block ∨ b = p5.block) w6 w8 → (∀ j, j < 5 → CanW w8 (p2.add j)) ∧ ∀ w9 : World, w9 = storeRow w8 p2 [(.int .i64 0), (.int .i64 0), (.int .u64 0), (.string (⟨#[]⟩ : ByteArray)), (.bool false)] →
   ∃qKind1:Int,∃qFrom1:Int,∃qC1:Int,∃qText1:ByteArray,∃qFake1:Bool,Row w9 p2 [(.int .i64 qKind1),(.int .i64 qFrom1),(.int .u64 qC1),(.string qText1),(.bool qFake1)]∧K qKind1 qFrom1 qC1 qText1 qFake1 false w9:=by
  intro w8 hb E8
  refine bx 5 (c2.ext E8 (by rintro (h | h) <;> omega)) rfl rfl (fun w9 b9 E9=>⟨0,0,0,⟨#[]⟩,false,b9.row,hK _ _ _ _ _ _ _ ⟨?_,?_⟩⟩)
  ·rw [Sp.read,if_pos hb];rfl
  ·exact (E26.trans' E8 (fun i hi h=>by rcases h with h | h <;> omega)).trans' E9 (fun i hi h=>by omega)
 have good1 : ∀ (w8 : World) (l : Sp.Letter), Sp.readQ L t = (l, false) → Ext (fun b => b = p3.block ∨ b = p5.block) w6 w8 → Box w8 p5 [.int .i64 l.kind, .int .i64 l.frm, .int .u64 l.c, .string l.text, .bool l.fake] 35 →
   ∃vKind1:Int,∃vFrom1:Int,∃vC1:Int,∃vText1:ByteArray,∃vFake1:Bool,Row w8 p5 [(.int .i64 vKind1),(.int .i64 vFrom1),(.int .u64 vC1),(.string vText1),(.bool vFake1)] ∧
   (∀j,j<5→CanW w8 (p2.add j))∧∀w9:World,w9=storeRow w8 p2 [(.int .i64 vKind1),(.int .i64 vFrom1),(.int .u64 vC1),(.string vText1),(.bool vFake1)] →
   ∃qKind1:Int,∃qFrom1:Int,∃qC1:Int,∃qText1:ByteArray,∃qFake1:Bool,Row w9 p2 [(.int .i64 qKind1),(.int .i64 qFrom1),(.int .u64 qC1),(.string qText1),(.bool qFake1)]∧K qKind1 qFrom1 qC1 qText1 qFake1 true w9:=by
  intro w8 l hb E8 B8
  refine ⟨_,_,_,_,_,B8.row,?_⟩
  refine bx 5 (c2.ext E8 (by rintro (h | h) <;> omega)) rfl rfl (fun w9 b9 E9=>⟨l.kind,l.frm,l.c,l.text,l.fake,b9.row,hK _ _ _ _ _ _ _ ⟨?_,?_⟩⟩)
  ·rw [Sp.read,if_neg (by rw [hb];simp),hb]
  ·exact (E26.trans' E8 (fun i hi h=>by rcases h with h | h <;> omega)).trans' E9 (fun i hi h=>by omega)
 have up:∀{w7 w8:World},Ext (·=p3.block) w6 w7→Ext (·=p5.block) w7 w8→Ext (fun b=>b=p3.block∨b=p5.block) w6 w8:=fun h h'=>(h.mono (fun _ _ h=>.inl h)).trans' h' (fun _ _ h=>.inr h)
 have J1p:∀b,b=true→k≠7→(k=8∨k=9)→m_L_j1 t p2 p3 p5 b w6 K:=by
  rintro _ rfl h7 h89
  rw [if_neg h7,if_pos h89] at hq
  unfold m_L_j1
  refine Br.t rfl ?_
  refine (c_rd_promise p3 p t false w6 hR6).mono ?_
  rintro _ w7 ⟨k7,f7,c7,x7,g7,rfl,hl,hR7,E7⟩
  refine ⟨_,_,_,_,_,rfl,bx 5 (c5.ext E7 n35.symm) rfl rfl (fun w8 b8 E8=>⟨(Sp.rdPromise L t).2,?_,fun h=>bad1 w8 (by rw [hq];exact h) (up E7 E8),fun h=>good1 w8 ⟨k7,f7,c7,x7,g7⟩ (by rw [hq,hl,← h]) (up E7 E8) b8⟩)⟩
  have:=(hR7.box.ext E8 n35).cell (i:=1) rfl
  simpa using this
 have J1t:∀b,b=false→k≠7→¬ (k=8∨k=9)→m_L_j1 t p2 p3 p5 b w6 K:=by
  rintro _ rfl h7 h89
  rw [if_neg h7,if_neg h89] at hq
  unfold m_L_j1
  refine Br.f rfl ?_
  refine (c_rd_tagged p3 p t false w6 hR6).mono ?_
  rintro _ w7 ⟨x7,y7,rfl,hg,hR7,E7⟩
  have ex:x7=(Sp.rdTagged L t).1.1:=congrArg Prod.fst hg
  have ey:y7=(Sp.rdTagged L t).1.2:=congrArg Prod.snd hg
  rw [← ex,← ey] at hq
  have setr:∀v:Bool,Box (w7.setCell (p3.add 1) (.bool v)) p3 [.pointer p,.bool v] 182∧Ext (·=p3.block) w7 (w7.setCell (p3.add 1) (.bool v)):=fun v =>
   ⟨hR7.box.set 1 _,by have:=Ext.setCell (w:=w7) (p3.add 1) (.bool v);rw [add_block] at this;exact this⟩
  have J3:∀(v:Bool) (w8:World),v=((Sp.rdTagged L t).2 || !decide (x7=Sp.wFull))→Box w8 p3 [.pointer p,.bool v] 182→Ext (·=p3.block) w7 w8→m_L_j3 p2 p3 p5 y7 w8 K:=by
   intro v w8 hv B8 E8
   have E68:=E7.trans E8
   have E68':Ext (fun b=>b=p3.block∨b=p5.block) w6 w8:=E68.mono (fun _ _ h=>.inl h)
   unfold m_L_j3
   refine ⟨v,B8.cell rfl,fun h=>⟨v,B8.cell rfl,fun _=>bad1 w8 (by rw [hq,← hv,if_pos h]) E68',fun h'=>(by rw [h] at h';cases h')⟩,fun h=>?_⟩
   rw [← hv,if_neg (by rw [h];simp)] at hq
   subst h
   unfold m_L_j2
   refine (c_rd_node p3 p y7 2 false w8 ⟨B8,hR7.pool.ext E8 (fun b hb e=>hout (e▸hb)),hok,hout⟩).mono ?_
   rintro _ w16 ⟨k3,f3,t3,u3,x3,a3,b3,rfl,hn3,hR3,E16⟩
   have e3:u3=(Sp.rdNode L y7 2).1.num:=by rw [← hn3]
   rw [← e3] at hq
   have E616:=E68.trans E16
   refine ⟨_,_,_,_,_,_,_,rfl,bx 5 (c5.ext E616 n35.symm) rfl rfl (fun w17 b17 E17=>⟨(Sp.rdNode L y7 2).2,?_,fun h=>bad1 w17 (by rw [hq];exact h) (up E616 E17),fun h=>good1 w17 ⟨7,0,u3,⟨#[]⟩,false⟩ (by rw [hq,h]) (up E616 E17) b17⟩)⟩
   have:=(hR3.box.ext E17 n35).cell (i:=1) rfl
   simpa using this
  refine ⟨_,_,rfl,(Sp.rdTagged L t).2,?_,fun h=>⟨hR7.box.canW (by simp),?_⟩,fun h=>⟨hR7.box.canW (by simp),?_⟩⟩
  ·have:=hR7.box.cell (i:=1) rfl
   simpa using this
  ·intro w22 hw
   exact J3 true w22 (by rw [h];rfl) (by rw [hw];exact (setr _).1) (by rw [hw];exact (setr _).2)
  ·intro w22 hw
   exact J3 (!decide (x7=Sp.wFull)) w22 (by rw [h];rfl) (by rw [hw];exact (setr _).1) (by rw [hw];exact (setr _).2)
 refine ⟨k,c4.cell0,fun h=>⟨f,c4.cell rfl,a,c4.cell rfl,?_⟩,fun h=>⟨fun h8=>?_,fun h8=>?_⟩⟩
 ·have h7:k=7:=by simpa using h
  rw [if_pos h7] at hq
  refine (c_rd_signed p3 p f a false w6 hR6).mono ?_
  rintro _ w7 ⟨k7,f7,c7,x7,g7,rfl,hl,hR7,E7⟩
  refine ⟨_,_,_,_,_,rfl,bx 5 (c5.ext E7 n35.symm) rfl rfl (fun w8 b8 E8=>⟨(Sp.rdSigned L f a).2,?_,fun h=>bad1 w8 (by rw [hq];exact h) (up E7 E8),fun h=>good1 w8 ⟨k7,f7,c7,x7,g7⟩ (by rw [hq,hl,← h]) (up E7 E8) b8⟩)⟩
  have:=(hR7.box.ext E8 n35).cell (i:=1) rfl
  simpa using this
 ·have h7:k≠7:=by simpa using h
  have h8:k=8:=by simpa using h8
  exact J1p _ (by simp [h8]) h7 (.inl h8)
 ·have h7:k≠7:=by simpa using h
  have h8:k≠8:=by simpa using h8
  by_cases h9:k=9
  ·exact J1p _ (by simp [h9]) h7 (.inr h9)
  ·exact J1t _ (by simpa using h9) h7 (by rintro (h | h) <;> omega)
theorem c_letter_Read (p : Addr) (t : Int) (w : World) {L : Sp.Pool} {F : NP} (hP : PoolAt w p L F) (hok : Sp.Ok L) :
  Calls Tryz.prog 51 #[.pointer (some p),.int .i64 t] w
   (fun e w'=>∃k:Int,∃f:Int,∃c:Int,∃x:ByteArray,∃fk:Bool,∃ok:Bool,e=.returned (.tuple #[.agg #[.int .i64 k,.int .i64 f,.int .u64 c,.string x,.bool fk],.bool ok])∧(((⟨k,f,c,x,fk⟩:Sp.Letter),ok)=Sp.read L t∧Pure w w')):=c_letter_ReadN (some p) t w hP hok
end Go.Proofs
end
section
open Go Go.SE
open Go.IntKind renaming i64 → q6
namespace Go.Proofs
set_option maxRecDepth 100000
set_option maxHeartbeats 4000000
attribute [local irreducible] wpL wpX opE wpE Calls
def m_Q1_l1 (s1:Sl) (v1 x1:Int) (wl1:World) (Kc1:Int→WP) (K:Int→WP):Prop :=
 Br (decide (x1<(s1.len:Int)))
  (∃a1:Addr,At s1 x1 1 a1 ∧
  ∃v2:Int,wl1.cell? a1=some (vi v2) ∧
  Br (v1 == v2)
   (K x1 wl1)
   (Kc1 (q6.wrap (x1+1)) wl1))
  (K (-1) wl1)
def m_Q1 (s1:Sl) (v1:Int) (w0:World) (K:Int→WP):Prop :=
 ∃(I1:Int→WP) (mu1:Int→World→Nat),I1 0 w0 ∧
  ∀(x1:Int) (wl1:World),I1 x1 wl1→m_Q1_l1 s1 v1 x1 wl1 (fun y'0 w'=>I1 y'0 w'∧mu1 y'0 w'<mu1 x1 wl1) K
theorem w_Q1 (s1 : Sl) (v1 : Int) (w0 : World) (K : Int → WP) (h : m_Q1 s1 v1 w0 K) :
  Calls Tryz.prog 190 #[s1.v,(vi v1)] w0 (fun e w'=>∃r1:Int,e=.returned (vi r1)∧K r1 w'):=by
 unfold m_Q1 at h
 refine cw (args:=[s1.v,(vi v1)]) Tryz.func190 Tryz.ntmps190 (eg (q0 (vi 0) (ln (wpE_seq (eg (q0 s1.v (q0 (vi (s1.len:Int)) (q0 (vi 0) ?_))))))))
 refine ln (wpE_block ?_)
 obtain ⟨I1,mu1,h0,hr⟩:=h
 refine wpE_loop (σ:=Int×World) (fun s ρ w=>w=s.2∧Has ρ [(0,s1.v),(1,(vi v1)),(7,(vi (s1.len:Int))),(8,(vi s.1))]∧I1 s.1 s.2) (fun s=>mu1 s.1 s.2) (0,w0) ⟨rfl,hm,h0⟩ ?_
 rintro ⟨x1,wl1⟩ ρ w ⟨hw,hH,hI⟩
 obtain rfl:wl1=w:=(show w=wl1 from hw).symm
 have hH:Has ρ [(0,s1.v),(1,(vi v1)),(7,(vi (s1.len:Int))),(8,(vi x1))]:=hH
 have h:=hr x1 wl1 hI
 unfold m_Q1_l1 at h
 refine wpE_has hH ?_
 refine eg (q0 (vb (decide (x1<(s1.len:Int)))) (ln (wpE_seq ?_)))
 refine wpE_cond (t:=(decide (x1<(s1.len:Int)))) (by kernel_rfl) (fun hc1=>?_) (fun hc1=>?_)
 ·have h:=h.1 hc1
  refine wpE_skip (th_n (wpE_seq (wpE_block (eg (q0 (vi x1) (q0 (vi x1) (ln (eg ?_))))))))
  refine q0 (vi v1) (q0 s1.v (q0 (vi x1) ?_))
  obtain ⟨a1,hv2,h⟩:=h
  refine q2 (vp (some a1)) (xi (Tryz.runUnderlying46 _) (Tryz.sizeOf78 _) hv2) ?_
  obtain ⟨v2,hv1,h⟩:=h
  refine q2 (vi v2) (xl (Tryz.isAgg78 _) hv1) (q0 (vb (v1 == v2)) (ln ?_))
  refine wpE_cond (t:=(v1 == v2)) (by kernel_rfl) (fun hc2=>?_) (fun hc2=>?_)
  ·have h:=h.1 hc2
   refine eg (q0 (vi x1) (q0 (vi x1) (ln (er (bl_r (th_r (th_r (bl_r (th_r ?_)))))))))
   refine rs1 Tryz.results190 (v:=(vi x1)) ?_
   exact ⟨x1,rfl,h⟩
  ·have h:=h.2 hc2
   refine wpE_skip (bl_n (th_n (rg (q0 (vi (q6.wrap (x1+1))) (q0 (vi (q6.wrap (x1+1))) (ln ?_))))))
   exact ⟨((q6.wrap (x1+1)),wl1),⟨rfl,hm,h.1⟩,h.2⟩
 ·have h:=h.2 hc1
  refine wpE_exit (th_x (th_x (bl_eq (th_n (eg (q0 (vi (-1)) (ln (er (rs1 Tryz.results190 (v:=(vi (-1))) ?_)))))))))
  exact ⟨(-1),rfl,h⟩
def m_G3 (s1:Sl) (v1:Int) (w0:World) (K:Bool→WP):Prop :=
 Calls Tryz.prog 190 #[s1.v,(vi v1)] w0 (fun e w1=>∃r1:Int,e=.returned (vi r1)∧
  K (decide (r1≥0)) w1)
theorem w_G3 (s1 : Sl) (v1 : Int) (w0 : World) (K : Bool → WP) (h : m_G3 s1 v1 w0 K) :
  Calls Tryz.prog 150 #[s1.v,(vi v1)] w0 (fun e w'=>∃r2:Bool,e=.returned (vb r2)∧K r2 w'):=by
 unfold m_G3 at h
 refine cw (args:=[s1.v,(vi v1)]) Tryz.func150 Tryz.ntmps150 (eg (q0 (vb false) (ln (eg (q0 s1.v (q0 (vi v1) ?_))))))
 refine sc Tryz.call190 (h.mono ?_)
 rintro e w1 ⟨r1,rfl,h⟩
 refine ⟨_,rfl,?_⟩
 refine q0 (vb (decide (r1≥0))) (q0 (vb (decide (r1≥0))) (ln (er (rs1 Tryz.results150 (v:=(vb (decide (r1≥0)))) ?_))))
 exact ⟨(decide (r1≥0)),rfl,h⟩
end Go.Proofs
end
section
open Go Go.SE
namespace Go.SE
section
variable {P:Program} {t e:TypeId} {sz bytes:Nat}
theorem run_append_none (T:SlType P t e sz bytes) (w:World) (ty:TypeId) (s x:Sl) (hc:s.len≤s.cap) (hx:x.len=0):(Builtin.append_ #[t,t] ty #[s.v,x.v]).run P w=.ok s.v w:=by
 obtain ⟨a,n,c⟩:=s
 obtain ⟨b,m,d⟩:=x
 simp only at hc hx
 subst hx
 cases b <;> cases a <;> simp [Builtin.append_,Sl.v,run_underlying T.ht,T.sizeOf,Builtin.lenOf,Builtin.firstCells,loadCells,loadCellsFrom,storeCells,hc]
end
end Go.SE
end
section
open Go Go.SE
namespace Go.SE
theorem row_flat {w:World} {sz:Nat}:∀{rs:List (List Value)} {p:Addr},(∀r∈rs,r.length=sz)→(∀i (h:i<rs.length),Row w (p.add (i*sz)) rs[i])→Row w p rs.flatten
 | [],p,_,_=>fun i h=>by simp at h
 | r :: rs,p,hl,h=>by
  have hr:Row w p r:=by have:=h 0 (by simp);simpa [Addr.add] using this
  have hsz:=hl r (by simp)
  have ih:=row_flat (rs:=rs) (p:=p.add sz) (fun q hq=>hl q (List.mem_cons_of_mem _ hq)) (fun i hi=>by
   have:=h (i+1) (by simpa using hi)
   rw [add_add,show sz+i*sz=(i+1)*sz by rw [Nat.succ_mul];omega]
   simpa using this)
  intro i hi
  rw [List.flatten_cons] at hi ⊢
  by_cases hlt:i<r.length
  ·rw [hr i hlt,List.getElem?_append_left hlt]
  ·have:=ih (i - r.length) (by rw [List.length_append] at hi;omega)
   rw [add_add,show sz+(i - r.length)=i by omega] at this
   rw [this,List.getElem?_append_right (by omega)]
section
variable {P:Program} {t e:TypeId} {sz bytes:Nat}
theorem Rws.appendL (T : SlType P t e sz bytes) {w : World} {ty : TypeId} {s x : Sl} {rs qs : List (List Value)} (h : Rws w e sz s rs) {S : NP} (hx : Lst S w sz x qs) (hl : ∀ q ∈ qs, q.length = sz) (h1 : ∀ q ∈ qs, q.all oneCell = true) (hb : (rs.length + qs.length) * bytes ≤ 140737488355328) (hm : rs.length + qs.length ≤ maxLen) :
  ∃s' w',(Builtin.append_ #[t,t] ty #[s.v,x.v]).run P w=.ok s'.v w'∧Rws w' e sz s' (rs++qs)∧Ext s.blk w w'∧(∀b,s'.blk b→s.blk b∨w.heap.size≤b):=by
 cases hq:qs with
 | nil =>
  subst hq
  have hc:s.len≤s.cap:=by
   rcases h.own with ⟨rfl,_⟩ | ⟨g,cur,_,_,hc,_⟩
   ·exact Nat.le_refl _
   ·rw [h.len];exact hc
  exact ⟨s,w,run_append_none T w ty s x hc hx.len,by simpa using h,Ext.refl w,fun b hb=>.inl hb⟩
 | cons q0 rest =>
  rw [← hq]
  have hne:qs≠[]:=by rw [hq];simp
  have hpos:=List.length_pos_iff.2 hne
  obtain ⟨_,⟨_,_,p,hp,_⟩,_,_⟩:=hx.at_ 0 hpos
  have hrow:Row w p qs.flatten:=row_flat hl (fun i hi=>by
   obtain ⟨a,⟨_,_,b,hb',rfl⟩,_,hr⟩:=hx.at_ i hi
   rw [hp] at hb';cases hb'
   simpa using hr)
  have hxv:x.v=(Sl.mk (some p) qs.length x.cap).v:=by unfold Sl.v;rw [hp,hx.len]
  rw [hxv]
  exact h.appends T hrow hl h1 hne hb hm
end
end Go.SE
end
section
open Go Go.SE
namespace Go.SE
def look {α:Type}:List (Int×α)→Int→Option α
 | [],_=>none
 | p :: M,k=>if p.1=k then some p.2 else look M k
theorem look_none {α:Type} {M:List (Int×α)} {k:Int}:look M k=none↔k ∉ M.map Prod.fst:=by
 induction M with
 | nil=>simp [look]
 | cons p M ih =>
  rw [look]
  split
  ·rename_i h;simp [h]
  ·rename_i h;rw [ih,List.map_cons,List.mem_cons];exact ⟨fun h1 h2=>h2.elim (fun e=>h e.symm) h1,fun h1 h2=>h1 (.inr h2)⟩
theorem look_mem {α:Type} {M:List (Int×α)} {k:Int} {v:α} (h:look M k=some v):(k,v)∈M:=by
 induction M with
 | nil=>cases h
 | cons p M ih =>
  rw [look] at h
  split at h
  ·rename_i e;cases h;subst e;simp
  ·exact List.mem_cons_of_mem _ (ih h)
theorem look_at {α:Type} {M:List (Int×α)} (hn:(M.map Prod.fst).Nodup) {i:Nat} {k:Int} {v:α} (h:M[i]?=some (k,v)):look M k=some v:=by
 induction M generalizing i with
 | nil=>simp at h
 | cons p M ih =>
  rw [List.map_cons,List.nodup_cons] at hn
  rw [look]
  cases i with
  | zero=>simp at h;subst h;simp
  | succ i =>
   have h':M[i]?=some (k,v):=by simpa using h
   have hne:p.1≠k:=fun e=>hn.1 (by rw [e];exact List.mem_map.2 ⟨_,List.mem_of_getElem? h',rfl⟩)
   rw [if_neg hne]
   exact ih hn.2 h'
theorem look_of_mem {α:Type} {M:List (Int×α)} (hn:(M.map Prod.fst).Nodup) {k:Int} {v:α} (h:(k,v)∈M):look M k=some v:=by
 obtain ⟨i,hi,e⟩:=List.getElem_of_mem h
 exact look_at hn (by rw [List.getElem?_eq_getElem hi,e])
def ikey (k:Int):Value:=.int .i64 k
structure IMap {α:Type} (f:α→Value) (w:World) (m:Nat) (M:List (Int×α)):Prop where
 map:CMap w m (M.map fun p=>(ikey p.1,f p.2))
 nd:(M.map Prod.fst).Nodup
section
variable {α:Type} {f:α→Value} {w w':World} {m:Nat} {M:List (Int×α)} {P:Program} {T K E:TypeId}
theorem IMap.ext {F:NP} (h:IMap f w m M) (hE:Ext F w w') (hf:¬ F m):IMap f w' m M:=⟨h.map.ext hE hf,h.nd⟩
theorem IMap.pure (h:IMap f w m M) (hE:Pure w w'):IMap f w' m M:=h.ext hE id
theorem IMap.lt (h:IMap f w m M):m<w.heap.size:=h.map.lt
theorem IMap.of_new {p:Addr} (h:New w (.map #[] 0) p w'):IMap f w' p.block []:=⟨CMap.of_new h,List.nodup_nil⟩
theorem IMap.keys (M:List (Int×α)):∀p∈M.map (fun p=>(ikey p.1,f p.2)),∃n,p.1=.int .i64 n:=by
 intro p hp;obtain ⟨q,_,rfl⟩:=List.mem_map.1 hp;exact ⟨_,rfl⟩
theorem IMap.get (h : IMap f w m M) (hT : P.underlying T = some (.map K E)) (hK : P.underlying K = some (.int .i64)) {z : Value} (hz : (zeroValue E).run P w = .ok z w) (k : Int) (ok : Bool) :
  (look M k=none∧(Instr.lookup T (.map (some m)) (.int .i64 k) ok).run P w=.ok (if ok then .tuple #[z,.bool false] else z) w)∨∃v,look M k=some v∧(Instr.lookup T (.map (some m)) (.int .i64 k) ok).run P w=.ok (if ok then .tuple #[f v,.bool true] else f v) w:=by
 rcases h.map.lookup hT (KeyOK.of_int hK) (IMap.keys M) (k:=ikey k) ⟨k,rfl⟩ hz ok with ⟨h1,h2⟩ | ⟨i,v,h1,h2⟩
 ·refine .inl ⟨look_none.2 fun hm=>?_,h2⟩
  obtain ⟨q,hq,rfl⟩:=List.mem_map.1 hm
  exact h1 _ (List.mem_map.2 ⟨q,hq,rfl⟩) rfl
 ·rw [List.getElem?_map] at h1
  cases hi:M[i]? with
  | none=>rw [hi] at h1;cases h1
  | some q =>
   rw [hi] at h1
   obtain ⟨a,b⟩:=q
   simp [ikey] at h1
   obtain ⟨rfl,rfl⟩:=h1
   exact .inr ⟨b,look_at h.nd hi,h2⟩
theorem IMap.put (h : IMap f w m M) (hT : P.underlying T = some (.map K E)) (hK : P.underlying K = some (.int .i64)) {k : Int} (hn : look M k = none) (v : α) :
  ∃w',(Instr.mapUpdate T (.map (some m)) (.int .i64 k) (f v)).run P w=.ok () w'∧IMap f w' m (M++[(k,v)])∧Ext (·=m) w w':=by
 have hn':=look_none.1 hn
 obtain ⟨w',h1,h2,h3⟩:=h.map.insert hT (KeyOK.of_int hK) (IMap.keys M) (k:=ikey k) (v:=f v) ⟨k,rfl⟩ (fun p hp e=>by
  obtain ⟨q,hq,rfl⟩:=List.mem_map.1 hp
  simp only [ikey,Value.int.injEq,true_and] at e
  exact hn' (List.mem_map.2 ⟨q,hq,e⟩))
 refine ⟨w',h1,⟨by simpa using h2,?_⟩,h3⟩
 rw [List.map_append,List.nodup_append]
 exact ⟨h.nd,by simp,fun x hx y hy e=>by simp at hy;subst hy;exact hn' (e▸hx)⟩
theorem IMap.again (h : IMap f w m M) (hT : P.underlying T = some (.map K E)) (hK : P.underlying K = some (.int .i64)) {k : Int} {v : α} (hv : look M k = some v) :
  ∃w',(Instr.mapUpdate T (.map (some m)) (.int .i64 k) (f v)).run P w=.ok () w'∧IMap f w' m M∧Ext (·=m) w w':=by
 obtain ⟨i,hi,e⟩:=List.getElem_of_mem (look_mem hv)
 have hes:(M.map fun p=>(ikey p.1,f p.2))[i]?=some (ikey k,f v):=by simp [hi,e]
 obtain ⟨w',h1,h2,h3⟩:=h.map.update hT (KeyOK.of_int hK) (IMap.keys M) (k:=ikey k) (v:=f v) (v':=f v) ⟨k,rfl⟩ hes (fun j u hj=>by
  rw [List.getElem?_map] at hj
  cases hq:M[j]? with
  | none=>rw [hq] at hj;cases hj
  | some q =>
   rw [hq] at hj
   simp [ikey] at hj
   obtain ⟨hj',hje⟩:=List.getElem?_eq_some_iff.1 hq
   have h4:(M.map Prod.fst)[j]'(by simpa using hj')=(M.map Prod.fst)[i]'(by simpa using hi):=by simp [hje,e,hj.1]
   exact (List.getElem_inj h.nd).1 h4)
 have hset:(M.map fun p=>(ikey p.1,f p.2)).set i (ikey k,f v)=M.map fun p=>(ikey p.1,f p.2):=by
  apply List.ext_getElem?
  intro n
  rw [List.getElem?_set]
  by_cases hn:i=n
  ·subst hn;rw [if_pos rfl];simp [hi,e]
  ·rw [if_neg hn]
 rw [hset] at h2
 exact ⟨w',h1,⟨h2,h.nd⟩,h3⟩
end
end Go.SE
end
section
open Go Go.SE
namespace Go.Proofs
attribute [local irreducible] Calls
def tmr (ts:List Int):List (List Value):=ts.map fun t=>[.int .i64 t]
theorem tmr_len (ts:List Int):(tmr ts).length=ts.length:=by simp [tmr]
theorem slT_tm:SlType Tryz.prog 46 78 1 8:=by
 refine ⟨Tryz.underlying46,⟨Tryz.t78,_,by kernel_rfl,(by kernel_rfl:Tryz.t78.zero=some (.int .i64 0)),by kernel_rfl,by kernel_rfl,rfl⟩,by omega⟩
structure RetO (w:World) (e:TypeId) (sz:Nat) (rs:List (List Value)) (s:Sl) (w':World):Prop where
 rows:Rws w' e sz s rs
 own:∀b,s.blk b→w.heap.size≤b
 pure:Pure w w'
theorem RetO.kept {w:World} {H:NP} {e:TypeId} {sz:Nat} {rs:List (List Value)} {s:Sl} {w':World} (h:RetO w e sz rs s w'):Kept H w w':=h.pure.keptP
theorem tm_nth {S:NP} {w:World} {s:Sl} {ts:List Int} (h:Lst S w 1 s (tmr ts)) {j:Nat} (hj:j<ts.length):∃a,At s j 1 a∧S a.block∧w.cell? a=some (.int .i64 ts[j]):=by
 obtain ⟨a,h1,h2,h3⟩:=h.at_ j (by simpa [tmr] using hj)
 exact ⟨a,h1,h2,row_cell (by simpa [tmr] using h3)⟩
theorem c_slIndex {S : NP} (s : Sl) (ts : List Int) (v : Int) (w0 : World) (hs : Lst S w0 1 s (tmr ts)) (hn : ts.length ≤ 1000000) :
  Calls Tryz.prog 190 #[s.v,.int .i64 v] w0 (fun e w'=>∃r:Int,e=.returned (.int .i64 r)∧((decide (r≥0)=decide (v∈ts))∧w'=w0)):=by
 refine w_Q1 _ _ w0 (fun r w'=>(decide (r≥0)=decide (v∈ts))∧w'=w0) ?_
 unfold m_Q1
 have hl:s.len=ts.length:=by rw [hs.len,tmr_len]
 refine ⟨fun i w'=>w'=w0∧∃j:Nat,i=j∧j≤ts.length∧v ∉ ts.take j,fun i _=>((ts.length:Int) - i).toNat,⟨rfl,0,rfl,Nat.zero_le _,by simp⟩,?_⟩
 rintro _ _ ⟨rfl,j,rfl,hj,hv⟩
 unfold m_Q1_l1
 refine ⟨fun h=>?_,fun h=>?_⟩
 ·have hlt:=lt_of_dec hl h
  obtain ⟨a,hat,_,hc⟩:=tm_nth hs hlt
  have htk:ts.take (j+1)=ts.take j++[ts[j]]:=List.take_succ_eq_append_getElem hlt
  refine ⟨a,hat,_,hc,fun h=>⟨?_,rfl⟩,fun h=>?_⟩
  ·have:v=ts[j]:=by simpa using h
   rw [decide_eq_true (by omega),decide_eq_true]
   rw [this];exact List.getElem_mem hlt
  ·rw [wrap_succ hlt (by omega)]
   refine ⟨⟨rfl,j+1,rfl,hlt,?_⟩,lt_dec hlt⟩
   rw [htk,List.mem_append,List.mem_singleton]
   rintro (h' | h')
   ·exact hv h'
   ·simp [h'] at h
 ·have hge:=eq_of_dec hl hj h
  subst hge
  rw [List.take_length] at hv
  exact ⟨by simp [hv],rfl⟩
theorem c_slContains {S : NP} (s : Sl) (ts : List Int) (v : Int) (w0 : World) (hs : Lst S w0 1 s (tmr ts)) (hn : ts.length ≤ 1000000) :
  Calls Tryz.prog 150 #[s.v,.int .i64 v] w0 (fun e w'=>∃r:Bool,e=.returned (.bool r)∧(r=decide (v∈ts)∧w'=w0)):=by
 refine w_G3 _ _ w0 (fun r w'=>r=decide (v∈ts)∧w'=w0) ?_
 unfold m_G3
 refine (c_slIndex s ts v w0 hs hn).mono ?_
 rintro _ _ ⟨r,rfl,hr,rfl⟩
 exact ⟨_,rfl,hr,rfl⟩
end Go.Proofs
end
section
open Go Go.SE
namespace Go.SE
theorem Ext.putObj (w:World) (r:Nat) (o:Obj):Ext (·=r) w (w.putObj r o):=⟨rfl,rfl,rfl,(by first | exact Nat.le_refl _ | exact Nat.le_succ _),by simp,fun b _ hne=>World.putObj_heap_other hne⟩
abbrev Yld (P:Program) (l:Nat) (args:Array Value) (w:World) (R:Ending→WP):Prop:=YieldAt Fence.wide 0 P l args w R
def IterC (P:Program) (gf:FuncId) (lb:Array Value) {α:Type} (encs:α→Array Value) (xs:List α) (Rd:WP) (w:World):Prop :=
 ∀(l:Nat) (J Jx:List α→NP→WP) (W:World),Pure w W →
  (∀pre X A,J pre X A→Rd A) →
  (∀pre X A X' A',J pre X A→Hst W X A X' A'→J pre X' A') →
  (∀pre X A X' A',Jx pre X A→Hst W X A X' A'→Jx pre X' A') →
  (∀pre y X A,J pre X A→Hst W X A X A→(∃post,xs=pre++y :: post)→Yld P l (encs y) A (fun e A'=>(e=.returned (.bool true)∧Kept X A A'∧J (pre++[y]) X A')∨(e=.returned (.bool false)∧Kept X A A'∧Jx (pre++[y]) X A'))) →
  J [] None W →
  Calls P gf (#[.func (.yield l) #[] #[]]++lb) W (fun e A=>(∃v,e=.returned v)∧∃X,Hst W X A X A∧(J xs X A∨∃pre,Jx pre X A))
def setPs:List Nat→List Value→Env→Env
 | p :: ps,v :: vs,ρ=>setPs ps vs (upd ρ p v)
 | _,_,ρ=>ρ
theorem rep_setPs {n : Nat} : ∀ (ps : List Nat) (vs : List Value) (ρ : Env) (t : Array Value), (∀ p ∈ ps, p < n) → Rep [] n ρ { tmps := t, defers := [] } →
  Rep [] n (setPs ps vs ρ) { tmps:=(ps.zip vs).foldl (fun t (x:Nat×Value)=>t.setIfInBounds x.1 x.2) t,defers:=[] }
 | [],vs,ρ,t,_,h=>by cases vs <;> exact h
 | p :: ps,[],ρ,t,_,h=>h
 | p :: ps,v :: vs,ρ,t,hp,h=>by
  rw [List.zip_cons_cons,List.foldl_cons]
  exact rep_setPs ps vs _ _ (fun q hq=>hp q (by simp [hq])) (h.put (d:=some p) (fun k hk=>by cases hk;exact hp p (by simp)) v)
def roundE (id:Nat) (Y:NP) (A:World) (I Ix Ir:NP→WP):Exit→Env→WP
 | .normal,_,A'=>Kept Y A A'∧I Y A'
 | .exit id',_,A'=>id'=id∧Kept Y A A'∧Ix Y A'
 | .ret,_,A'=>Kept Y A A'∧Ir Y A'
 | _,_,_=>False
def afterE (D:Nat) (Q:Exit→Env→WP):Exit→Env→WP
 | .ret,ρ,w=>w.heap[D]?=some (.deferred (some []))∧Q .ret ρ (w.putObj D (.deferred none))
 | _,_,_=>False
theorem Kept.trans {H:NP} {a b c:World} (h:Kept H a b) (k:Kept H b c):Kept H a c:=⟨Nat.le_trans h.size k.size,fun i hi hH=>(k.keep i (Nat.lt_of_lt_of_le hi h.size) hH).trans (h.keep i hi hH)⟩
theorem Kept.mono {H H':NP} {a b:World} (h:Kept H a b) (hs:∀b,H' b→H b):Kept H' a b:=⟨h.size,fun i hi hH=>h.keep i hi (hs i hH)⟩
structure RngI {α:Type} (w0:World) (Rd:WP) (I Ix Ir:List α→NP→WP):Prop where
 rd:∀pre Y A,I pre Y A→Rd A
 i:∀pre Y A Y' A',I pre Y A→Hst w0 Y A Y' A'→I pre Y' A'
 x:∀pre Y A Y' A',Ix pre Y A→Hst w0 Y A Y' A'→Ix pre Y' A'
 r:∀pre Y A Y' A',Ir pre Y A→Hst w0 Y A Y' A'→Ir pre Y' A'
def wpB (P:Program) (n:Nat) (c y:Code) (Q:Exit→Env→WP) (ρ:Env) (w:World):Prop:=∀a,Rep [] n ρ a→c.wpIn (fen none) 0 P (Exit.then (fun a w=>y.wpIn (fen none) 0 P (lift ⟨none,[]⟩ n Q) a w) (lift ⟨none,[]⟩ n Q)) a w
theorem wpE_seqC {P:Program} {n:Nat} {Q:Exit→Env→WP} {ρ:Env} {w:World} {a c y:Code} (h:wpE (x:=⟨none,[]⟩) P n a (thenE (fun ρ w=>wpB P n c y Q ρ w) Q) ρ w):wpE (x:=⟨none,[]⟩) P n (.seq (.seq a c) y) Q ρ w:=fun a ha =>
 wpIn_seq (wpIn_seq (wpIn_mono (h a ha) (fun e a w hl=>by
  cases e with
  | normal=>obtain ⟨ρ',hr,hq⟩:=lift_norm hl;exact hq a hr
  | _=>exact hl)))
theorem af_r {D:Nat} {Q:Exit→Env→WP} {ρ:Env} {w:World} (h1:w.heap[D]?=some (.deferred (some []))) (h:∀w1,w1=w.putObj D (.deferred none)→Q .ret ρ w1):afterE D Q .ret ρ w:=⟨h1,h _ rfl⟩
theorem rd_n {id:Nat} {Y:NP} {A A':World} {I Ix Ir:NP→WP} {ρ:Env} (h:Kept Y A A'∧I Y A'):roundE id Y A I Ix Ir .normal ρ A':=h
theorem HBZ.behind {H Y:NP} {w A:World} {l:List HBx} {D:Nat} (hb:HB H w l) (hk:Kept H w A) (hH:∀b,H b→Y b) (hD:Y D) (hDe:A.heap[D]?=some (.deferred (some []))):HBZ [(D,.deferred (some []))] Y A l :=
 ⟨(hb.kept hk).box,fun x hx=>hH _ (hb.hid x hx),hb.ne,fun x hx=>by
  cases List.mem_singleton.1 hx;exact ⟨hD,hDe,rfl⟩⟩
theorem HBZ.leave {w0 wv:World} {Hv H:NP} {w:World} {l:List HBx} {D:Nat} (hb:HBZ [(D,.deferred (some []))] H w l) (hs:Hst w0 Hv wv H w) {w1:World} (h1:w1=w.putObj D (.deferred none)):Hst w0 Hv wv H w1∧HB H w1 l:=by
 have hz:=hb.fz _ (List.mem_singleton.2 rfl)
 have E:Ext (·=D) w w1:=by rw [h1];exact Ext.putObj w D _
 refine ⟨⟨h1▸hs.ext.trans' (Ext.putObj w D _) (fun b _ e=>by subst e;exact hz.1),hs.sub,hs.new,hs.old,fun b hb=>Nat.lt_of_lt_of_le (hs.lt b hb) E.size,Nat.le_trans hs.base E.size⟩,?_⟩
 refine ⟨fun x hx=>(hb.box x hx).ext E (fun e=>?_),hb.hid,hb.ne,fun x hx=>by cases hx⟩
 have h2:=(hb.box x hx).blk
 rw [e,hz.2.1] at h2
 cases h2
theorem HBZ.dead {H:NP} {w:World} {l:List HBx} {D:Nat} (hb:HBZ [(D,.deferred (some []))] H w l):w.heap[D]?=some (.deferred (some [])):=(hb.fz _ (List.mem_singleton.2 rfl)).2.1
theorem x_yield {P : Program} {ε : Operand → Value} {w w' : World} {d : Option Tmp} {ty : TypeId} {pos : String} {aft : Array Edge} {g : Option (Nat × Bool)} {l : Nat} {x : Operand} {v : Value} {c : List Operand} {ts : Array TypeId} {args : Array Value} {r : Next} (hx : ε x = v) (hv : v = .func (.yield l) #[] #[]) (ha : (c.map ε).toArray = args) (hr : (Instr.yield l args).run P w = .ok r w') :
  (execOp ε ⟨d,.call ⟨.value x,c.toArray,ts⟩,ty,pos,aft,g⟩).run P w=.ok r w':=by
 subst hv;subst ha
 simp [execOp,resolve,hx,Deferred.ofValue,invoke,hr]
theorem st_yield {P : Program} {ops : Array Oper} {Q : Env → WP} {ρ : Env} {w : World} {rest : List Oper} {d : Option Tmp} {ty : TypeId} {pos : String} {aft : Array Edge} {g : Option (Nat × Bool)} {l : Nat} {x : Operand} {v : Value} {c : List Operand} {ts : Array TypeId} {args : Array Value}
  (hw:Region.wanted ⟨d,.call ⟨.value x,c.toArray,ts⟩,ty,pos,aft,g⟩ (yieldedE ops ρ)=true) (hx:evE ρ x=v) (hv:v=.func (.yield l) #[] #[]) (ha:(c.map (evE ρ)).toArray=args)
  (h:Yld P l args w (fun e w''=>∃v,e=.returned v∧wpL P ops Q rest (put ρ d v) w'')):wpL P ops Q (⟨d,.call ⟨.value x,c.toArray,ts⟩,ty,pos,aft,g⟩ :: rest) ρ w:=by
 obtain ⟨fn,tmps,assign,body,hr,hR⟩:=h
 unfold wpL
 rw [if_pos hw]
 unfold yld
 rw [x_yield hx hv ha hr]
 exact hR
theorem Yld.mono {P:Program} {l:Nat} {args:Array Value} {w:World} {R R':Ending→WP} (h:Yld P l args w R) (hr:∀e w,R e w→R' e w):Yld P l args w R':=by
 obtain ⟨fn,tmps,assign,body,h1,h2⟩:=h
 exact ⟨fn,tmps,assign,body,h1,RoundIn.mono h2 hr⟩
section
variable {P:Program} {n:Nat} {Q:Exit→Env→WP} {ρ:Env} {w w0:World} {H Hv:NP} {wv:World}
theorem wpB_range {id : Nat} {g : Operand} {ps : Array Tmp} {assign body y : Code} {gf : FuncId} {lb : Array Value} {α : Type} {encs : α → Array Value} {xs : List α} {Rd : WP}
  (hg:evE ρ g=.func (.func gf) #[] lb) (eg:∀args w,(callFunc gf args).run P w=.ok (.enter gf args) w) (hit:IterC P gf lb encs xs Rd w) (hps:∀z,(encs z).size=ps.size) (hpn:∀p∈ps.toList,p<n)
  (hs:Hst w0 Hv wv H w) (I Ix Ir:List α→NP→WP) (hRI:RngI w0 Rd I Ix Ir)
  (h0:I [] H w)
  (hround:∀l z A,wpE (x:=⟨some l,[]⟩) P n assign (thenE (fun ρ' A'=>A'=A∧∀pre Y A,I pre Y A→Hst w0 Y A Y A→(∃post,xs=pre++z :: post)→wpE (x:=⟨some l,[]⟩) P n body (roundE id Y A (I (pre++[z])) (Ix (pre++[z])) (Ir (pre++[z]))) ρ' A) (fun _ _ _=>False)) (setPs ps.toList (encs z).toList ρ) A)
  (hrest:∀D Y A,Hst w0 Y A Y A→Y D→A.heap[D]?=some (.deferred (some []))→(∀b,H b→Y b)→Kept H w A→(I xs Y A∨∃pre,Ix pre Y A)→wpE (x:=⟨none,[mark D]⟩) P n y (afterE D Q) ρ A)
  (hret:∀D pre Y A,Hst w0 Y A Y A→Y D→A.heap[D]?=some (.deferred (some []))→Ir pre Y A→Q .ret ρ (A.putObj D (.deferred none))) :
  wpB P n (.block id (.rangeFunc g ps assign body)) y Q ρ w:=by
 obtain ⟨hRd,hI,hIx,hIr⟩:=hRI
 intro a ha
 refine wpIn_block (wpIn_rangeFunc ?_)
 intro fn _
 obtain ⟨rec,hrec⟩:∃rec:LoopState→Option Code→Loop,rec=fun st pe=>{ state:=st,pending:=pe,fn,tmps:=a.tmps,params:=ps,assign,body,defers:=w.heap.size }:=⟨_,rfl⟩
 obtain ⟨W1,hW1⟩:∃W1,(w.alloc (.deferred (some []))).alloc (.loop (rec .ready none))=W1:=⟨_,rfl⟩
 have hL1:W1.heap[w.heap.size+1]?=some (.loop (rec .ready none)):=by
  rw [← hW1];have:=World.alloc_heap_new (w.alloc (.deferred (some []))) (.loop (rec .ready none));rwa [World.size_alloc] at this
 have hK1:W1.heap[w.heap.size]?=some (.deferred (some [])):=by
  rw [← hW1];exact (RowKit.Below.heap_alloc _ _ _ (by simp)).trans (World.alloc_heap_new w _)
 have hsz:W1.heap.size=w.heap.size+2:=by rw [← hW1];simp
 have E1:Pure w W1:=by
  rw [← hW1]
  exact ⟨rfl,rfl,rfl,(by first | exact Nat.le_refl _ | exact Nat.le_succ _),by simp;omega,fun b hb _=>(RowKit.Below.heap_alloc _ _ _ (by simp;omega)).trans (RowKit.Below.heap_alloc _ _ _ hb)⟩
 let Yo:NP→NP:=fun X b=>H b∨b=w.heap.size∨b=w.heap.size+1∨X b
 have hHlt:∀b,H b→b<w.heap.size:=hs.lt
 have here:∀{X:NP} {A:World},Hst W1 X A X A→Hst w0 (Yo X) A (Yo X) A:=fun {X A} h =>
  ⟨Ext.refl _,fun _ h=>h,fun _ h=>.inl h,fun b hb=>by
   rcases hb with hb | rfl | rfl | hb
   ·exact hs.old b hb
   ·exact hs.base
   ·have:=hs.base;omega
   ·have:=h.old b hb;have:=hs.base;omega,fun b hb=>by
   have z:=h.base
   rcases hb with hb | rfl | rfl | hb
   ·have:=hHlt b hb;omega
   ·omega
   ·omega
   ·exact h.lt b hb,by have:=h.base;have:=hs.base;omega⟩
 have up:∀{X X':NP} {A A':World},Hst W1 X A X A→Hst W1 X A X' A'→Hst w0 (Yo X) A (Yo X') A':=fun {X X' A A'} h k =>
  ⟨k.ext.mono (fun b _ hb=>.inr (.inr (.inr hb))),fun b hb=>by
   rcases hb with hb | hb | hb | hb
   ·exact .inl hb
   ·exact .inr (.inl hb)
   ·exact .inr (.inr (.inl hb))
   ·exact .inr (.inr (.inr (k.sub b hb))),fun b hb=>by
   rcases hb with hb | hb | hb | hb
   ·exact .inl (.inl hb)
   ·exact .inl (.inr (.inl hb))
   ·exact .inl (.inr (.inr (.inl hb)))
   ·exact (k.new b hb).imp_left (fun h=>.inr (.inr (.inr h))),(here k.here).old,(here k.here).lt,(here k.here).base⟩
 have nX:∀{X:NP} {A:World},Hst W1 X A X A→∀b,b<w.heap.size+2→¬ X b:=fun h b hb hx=>by have:=h.old b hx;omega
 have keepH:∀{X X':NP} {A A':World},Kept H w A→Hst W1 X A X' A'→Kept H w A':=fun {X X' A A'} hk k =>
  hk.trans (k.ext.kept (fun b hb hx=>nX k.here b (by have:=hHlt b hb;omega) hx))
 have turn:∀{X:NP} {A:World} (o:Obj),Hst W1 X A X A→Hst w0 (Yo X) A (Yo X) (A.putObj (w.heap.size+1) o):=fun {X A} o h =>
  ⟨(Ext.putObj A _ o).mono (fun b _ e=>by subst e;exact .inr (.inr (.inl rfl))),fun _ h=>h,fun _ h=>.inl h,(here h).old,fun b hb=>by have:=(here h).lt b hb;simpa using this,by simpa using (here h).base⟩
 have hstW:∀{X:NP} {A:World} (o:Obj),Hst W1 X A X A→Hst W1 X (A.putObj (w.heap.size+1) o) X (A.putObj (w.heap.size+1) o):=fun o h =>
  ⟨Ext.refl _,fun _ h=>h,fun _ h=>.inl h,h.old,fun b hb=>by have:=h.lt b hb;simpa using this,by simpa using h.base⟩
 have keepT:∀{A:World} (o:Obj),Kept H w A→Kept H w (A.putObj (w.heap.size+1) o):=fun {A} o hk=>hk.trans ((Ext.putObj A _ o).kept (fun b hb e=>by have:=hHlt b hb;omega))
 let Jc:Code→List α→NP→WP:=fun c pre Y A=>match c with
  | .ret=>Ir pre Y A
  | .exit id'=>id'=id∧Ix pre Y A
  | _=>False
 have hJc:∀c pre Y A Y' A',Jc c pre Y A→Hst w0 Y A Y' A'→Jc c pre Y' A':=by
  intro c pre Y A Y' A' h k
  cases c <;> first | exact hIr _ _ _ _ _ h k | exact ⟨h.1,hIx _ _ _ _ _ h.2 k⟩ | exact h
 refine ⟨w.heap.size+1,[mark w.heap.size],W1,{ target:=.fn (.func gf) lb,args:=#[.func (.yield (w.heap.size+1)) #[] #[]] },W1,gf,
  #[.func (.yield (w.heap.size+1)) #[] #[]]++lb,W1,?_,?_,fun _ _=>trivial,?_,(fun h=>by cases h),callsIn_wide.2 ?_⟩
 ·rw [← hW1,hrec];exact run_enterLoop_outer _ _ _ _ _
 ·have hev:a.eval g=.func (.func gf) #[] lb:=by rw [ha.eval];exact hg
  simp only [resolve,hev]
  simp [go_sem]
 ·simp [invoke,go_sem,eg]
 have hst1:Hst W1 None W1 None W1:=Hst.start W1
 refine (hit (w.heap.size+1)
  (fun pre X A=>Hst W1 X A X A∧I pre (Yo X) A∧A.heap[w.heap.size+1]?=some (.loop (rec .ready none))∧A.heap[w.heap.size]?=some (.deferred (some []))∧Kept H w A)
  (fun pre X A=>Hst W1 X A X A∧∃c,Jc c pre (Yo X) A∧A.heap[w.heap.size+1]?=some (.loop (rec .done (some c)))∧A.heap[w.heap.size]?=some (.deferred (some []))∧Kept H w A)
  W1 E1 (fun pre X A h=>hRd _ _ _ h.2.1)
  (fun pre X A X' A' h k=>⟨k.here,hI _ _ _ _ _ h.2.1 (up h.1 k),k.ext.heap h.2.2.1 (nX k.here _ (by omega)),k.ext.heap h.2.2.2.1 (nX k.here _ (by omega)),keepH h.2.2.2.2 k⟩)
  (fun pre X A X' A' h k=>by
   obtain ⟨h1,c,h2,h3,h4,h5⟩:=h
   exact ⟨k.here,c,hJc _ _ _ _ _ _ h2 (up h1 k),k.ext.heap h3 (nX k.here _ (by omega)),k.ext.heap h4 (nX k.here _ (by omega)),keepH h5 k⟩)
  ?_ ⟨hst1,hI _ _ _ _ _ h0 ⟨E1.pure,fun b hb=>.inl hb,fun b hb=>?_,(here hst1).old,(here hst1).lt,(here hst1).base⟩,hL1,hK1,E1.keptP⟩).mono ?_
 ·-- one round
  rintro pre z X A ⟨hX,hi,hl,hk,hkH⟩ _ hpost
  have hlt:w.heap.size+1<A.heap.size:=(Array.getElem?_eq_some_iff.1 hl).1
  have hy:=run_yield (P:=P) (args:=encs z) hl (by rw [hrec];exact hps z)
  rw [hrec] at hy
  refine ⟨fn,_,assign,body,hy,roundIn_of_wpIn (F:=Fence.wide) trivial ?_⟩
  have hrep:Rep [] n (setPs ps.toList (encs z).toList ρ) { tmps:=(ps.zip (encs z)).foldl (fun t (x:Nat×Value)=>t.setIfInBounds x.1 x.2) a.tmps,defers:=[] }:=by
   have:=rep_setPs ps.toList (encs z).toList ρ a.tmps hpn ⟨rfl,ha.size,ha.get⟩
   rw [← Array.foldl_toList,Array.toList_zip]
   exact this
  refine wpIn_mono (hround (w.heap.size+1) z A _ hrep) ?_
  rintro e a1 A1 ⟨ρ',hor⟩
  have hor:=hor.resolve_right (fun h=>by cases h.2.1)
  obtain ⟨hr1,hq⟩:=hor
  cases e <;> first | exact hq.elim | skip
  obtain ⟨rfl,hbody⟩:=hq
  refine ⟨_,run_beginRound hl (by rw [hrec]),?_⟩
  have T1:=turn (.loop { rec .ready none with state:=.busy }) hX
  have hX1:=hstW (.loop { rec .ready none with state:=.busy }) hX
  have hl2:(A1.putObj (w.heap.size+1) (.loop { rec .ready none with state:=.busy })).heap[w.heap.size+1]?=some (.loop { rec .ready none with state:=.busy }):=World.putObj_heap_same hlt
  have hk2:(A1.putObj (w.heap.size+1) (.loop { rec .ready none with state:=.busy })).heap[w.heap.size]?=some (.deferred (some [])):=(World.putObj_heap_other (by omega)).trans hk
  have hkH2:=keepT (.loop { rec .ready none with state:=.busy }) hkH
  have hi2:=hI _ _ _ _ _ hi T1
  refine wpIn_mono (hbody pre (Yo X) _ hi2 T1.here hpost a1 hr1) ?_
  have fin : ∀ (jump : Option Code) (A3 : World), Kept (Yo X) (A1.putObj (w.heap.size + 1) (.loop { rec .ready none with state := .busy })) A3 →
    (Instr.endRound (w.heap.size+1) jump).run P A3=.ok (.bool jump.isNone) (A3.putObj (w.heap.size+1) (.loop (rec (if jump.isNone then .ready else .done) jump))) ∧
    Hst W1 X (A3.putObj (w.heap.size+1) (.loop (rec (if jump.isNone then .ready else .done) jump))) X (A3.putObj (w.heap.size+1) (.loop (rec (if jump.isNone then .ready else .done) jump))) ∧
    Hst w0 (Yo X) A3 (Yo X) (A3.putObj (w.heap.size+1) (.loop (rec (if jump.isNone then .ready else .done) jump))) ∧
    (A3.putObj (w.heap.size+1) (.loop (rec (if jump.isNone then .ready else .done) jump))).heap[w.heap.size+1]?=some (.loop (rec (if jump.isNone then .ready else .done) jump)) ∧
    (A3.putObj (w.heap.size+1) (.loop (rec (if jump.isNone then .ready else .done) jump))).heap[w.heap.size]?=some (.deferred (some [])) ∧
    Kept H w (A3.putObj (w.heap.size+1) (.loop (rec (if jump.isNone then .ready else .done) jump))) ∧
    Kept X A1 (A3.putObj (w.heap.size+1) (.loop (rec (if jump.isNone then .ready else .done) jump))):=fun jump A3 hk3=>by
   have hl3:A3.heap[w.heap.size+1]?=some (.loop { rec .ready none with state:=.busy }):=by
    rw [hk3.keep _ (by simpa using hlt) (.inr (.inr (.inl rfl)))];exact hl2
   have hD3:A3.heap[w.heap.size]?=some (.deferred (some [])):=by
    rw [hk3.keep _ (by simp;omega) (.inr (.inl rfl))];exact hk2
   have hX3:Hst W1 X A3 X A3:=hX1.again (hk3.mono (fun b hb=>.inr (.inr (.inr hb))))
   have hrun:=run_endRound (P:=P) jump hl3
   rw [hrec] at hrun
   refine ⟨by rw [hrec];exact hrun,hstW _ hX3,turn _ hX3,World.putObj_heap_same (Array.getElem?_eq_some_iff.1 hl3).1,(World.putObj_heap_other (by omega)).trans hD3,keepT _ (hkH2.trans (hk3.mono (fun b hb=>.inl hb))),?_⟩
   have k1:Kept X A1 (A1.putObj (w.heap.size+1) (.loop { rec .ready none with state:=.busy })):=(Ext.putObj A1 _ _).kept (fun b hb e=>by have:=hX.old b hb;omega)
   exact (k1.trans (hk3.mono (fun b hb=>.inr (.inr (.inr hb))))).trans ((Ext.putObj A3 _ _).kept (fun b hb e=>by have:=hX.old b hb;omega))
  rintro e a3 A3 ⟨ρ3,hor⟩
  have hor:=hor.resolve_right (fun h=>by cases h.2.1)
  obtain ⟨hr3,hq⟩:=hor
  cases e with
  | normal =>
   obtain ⟨hk3,hi3⟩:=hq
   obtain ⟨f1,f2,f3,f4,f5,f6,f7⟩:=fin none A3 hk3
   exact ⟨_,_,f1,.inl ⟨rfl,f7,f2,hI _ _ _ _ _ hi3 f3,f4,f5,f6⟩⟩
  | ret =>
   obtain ⟨hk3,hi3⟩:=hq
   obtain ⟨f1,f2,f3,f4,f5,f6,f7⟩:=fin (some .ret) A3 hk3
   exact ⟨_,_,f1,.inr ⟨rfl,f7,f2,.ret,hIr _ _ _ _ _ hi3 f3,f4,f5,f6⟩⟩
  | exit id' =>
   obtain ⟨rfl,hk3,hi3⟩:=hq
   obtain ⟨f1,f2,f3,f4,f5,f6,f7⟩:=fin (some (.exit id')) A3 hk3
   exact ⟨_,_,f1,.inr ⟨rfl,f7,f2,.exit id',⟨rfl,hIx _ _ _ _ _ hi3 f3⟩,f4,f5,f6⟩⟩
  | goto t=>exact hq.elim
  | panic ch=>exact hq.elim
  | outgrown=>exact hq.elim
 ·rcases hb with hb | rfl | rfl | hb
  ·exact .inl hb
  ·exact .inr (Nat.le_refl _)
  ·exact .inr (by omega)
  ·exact hb.elim
 ·-- behind the iterator
  have hrepM:Rep [mark w.heap.size] n ρ { a with defers:=[mark w.heap.size]++a.defers }:=⟨by rw [show a.defers=[] from ha.defers];rfl,ha.size,ha.get⟩
  have go:∀(A:World),Hst w0 (Yo fun b=>H b∨b=w.heap.size∨b=w.heap.size+1) A (Yo fun b=>H b∨b=w.heap.size∨b=w.heap.size+1) A→True:=fun _ _=>trivial
  have rest : ∀ (X : NP) (A : World), Hst w0 (Yo X) A (Yo X) A → A.heap[w.heap.size]? = some (.deferred (some [])) → Kept H w A → (I xs (Yo X) A ∨ ∃ pre, Ix pre (Yo X) A) →
    y.wpIn (fen none) 0 P (lift ⟨none,[]⟩ n Q) { a with defers:=[mark w.heap.size]++a.defers } A:=by
   intro X A hA hD hkA hIA
   refine wpIn_mono (hrest w.heap.size (Yo X) A hA (.inr (.inl rfl)) hD (fun b hb=>.inl hb) hkA hIA _ hrepM) ?_
   rintro e a2 A2 ⟨ρ2,⟨hr2,hq⟩ | ⟨_,_,h,_⟩⟩
   ·cases e <;> first | exact hq.elim | skip
    exact ⟨ρ2,.inr ⟨rfl,rfl,rfl,w.heap.size,hr2,hq.1,hq.2⟩⟩
   ·cases h
  rintro e A ⟨⟨v,rfl⟩,X,_,⟨hX,hi,hl,hk,hkH⟩ | ⟨pre,hX,c,hc,hl,hk,hkH⟩⟩
  ·obtain ⟨o, hrun⟩ : ∃ o, (Instr.endLoop (w.heap.size + 1)).run P A = .ok none (A.putObj (w.heap.size + 1) o) := by
    have:=run_endLoop (P:=P) hl (by rw [hrec];simp)
    rw [hrec] at this
    exact ⟨_,this⟩
   have T:=turn o hX
   exact ⟨none,_,hrun,rest X _ T.here ((World.putObj_heap_other (by omega)).trans hk) (keepT _ hkH) (.inl (hI _ _ _ _ _ hi T))⟩
  ·obtain ⟨o, hrun⟩ : ∃ o, (Instr.endLoop (w.heap.size + 1)).run P A = .ok (some c) (A.putObj (w.heap.size + 1) o) := by
    have:=run_endLoop (P:=P) hl (by rw [hrec];simp)
    rw [hrec] at this
    exact ⟨_,this⟩
   have T:=turn o hX
   refine ⟨some c,_,hrun,?_⟩
   have hc':=hJc _ _ _ _ _ _ hc T
   have hD:=(World.putObj_heap_other (w:=A) (r:=w.heap.size+1) (o:=o) (k:=w.heap.size) (by omega)).trans hk
   cases c <;> first | exact hc.elim | skip
   case exit id' =>
    obtain ⟨rfl,hx⟩:=hc'
    refine wpIn_exit ?_
    simp only [Exit.inBlock,if_true]
    exact rest X _ T.here hD (keepT _ hkH) (.inr ⟨pre,hx⟩)
   case ret =>
    refine wpIn_ret ?_
    exact ⟨ρ,.inr ⟨rfl,rfl,rfl,w.heap.size,hrepM,hD,hret w.heap.size pre (Yo X) _ T.here (.inr (.inl rfl)) hD hc'⟩⟩
end
end Go.SE
namespace Go.SE
end Go.SE
end
section
open Go Go.SE
open Go.IntKind renaming i64 → q6
namespace Go.Proofs
set_option maxRecDepth 100000
set_option maxHeartbeats 4000000
attribute [local irreducible] wpL wpX opE wpE Calls
def m_R1_l1 (l1:Sl) (n1 i1:Int) (wl1:World) (Kc1:Int→Int→WP) (K:Bool→WP):Prop :=
 Br ((decide (i1<(l1.len:Int))) && (decide (i1≤10)))
  (∃a1:Addr,At l1 i1 6 a1 ∧
  ∃aJ bM:Int,∃bN bO:Int,∃aL:ByteArray,∃bP:Sl,Row wl1 a1 [(vi aJ),(vi bM),(vi bN),(vu bO),(vs aL),bP.v] ∧
  Calls Tryz.prog 75 #[(.agg #[(vi aJ),(vi bM),(vi bN),(vu bO),(vs aL),bP.v]),(vi 500)] wl1 (fun e w2=>∃r1:Int,e=.returned (vi r1)∧
   Br (decide ((q6.wrap (n1+r1))≥500))
    (K true w2)
    (Kc1 (q6.wrap (n1+r1)) (q6.wrap (i1+1)) w2)))
  (K (decide ((l1.len:Int)>10)) wl1)
def m_R1 (l1:Sl) (w0:World) (K:Bool→WP):Prop :=
 ∃(I1:Int→Int→WP) (mu1:Int→Int→World→Nat),I1 0 0 w0 ∧
  ∀(n1 i1:Int) (wl1:World),I1 n1 i1 wl1→m_R1_l1 l1 n1 i1 wl1 (fun y'0 y'1 w'=>I1 y'0 y'1 w'∧mu1 y'0 y'1 w'<mu1 n1 i1 wl1) K
theorem w_R1 (l1 : Sl) (w0 : World) (K : Bool → WP) (h : m_R1 l1 w0 K) :
  Calls Tryz.prog 23 #[l1.v] w0 (fun e w'=>∃r2:Bool,e=.returned (vb r2)∧K r2 w'):=by
 unfold m_R1 at h
 refine cw (args:=[l1.v]) Tryz.func23 Tryz.ntmps23 (eg (q0 (vb false) (ln (eg (q0 (vi 0) (ln (wpE_seq ?_)))))))
 refine eg (q0 (vi 0) (ln (wpE_block ?_)))
 obtain ⟨I1,mu1,h0,hr⟩:=h
 refine wpE_loop (σ:=Int×Int×World) (fun s ρ w=>w=s.2.2∧Has ρ [(0,l1.v),(3,(vi s.1)),(4,(vi s.2.1))]∧I1 s.1 s.2.1 s.2.2) (fun s=>mu1 s.1 s.2.1 s.2.2) (0,0,w0) ⟨rfl,hm,h0⟩ ?_
 rintro ⟨n1,i1,wl1⟩ ρ w ⟨hw,hH,hI⟩
 obtain rfl:wl1=w:=(show w=wl1 from hw).symm
 have hH:Has ρ [(0,l1.v),(3,(vi n1)),(4,(vi i1))]:=hH
 have h:=hr n1 i1 wl1 hI
 unfold m_R1_l1 at h
 refine wpE_has hH ?_
 refine wpE_seq (wpE_seq ?_)
 refine wpE_via (fun ρ wJ=>∃b1'0:Bool,((decide (i1<(l1.len:Int)))=b1'0)∧wl1=wJ∧Has ρ [(0,l1.v),(3,(vi n1)),(4,(vi i1)),(12,(vb (b1'0 && (decide (i1≤10)))))]) ?_ ?_
 ·refine rg (q0 (vi i1) (q0 l1.v (q0 (vi (l1.len:Int)) (q0 (vb (decide (i1<(l1.len:Int)))) (q0 (vb (decide (i1<(l1.len:Int)))) ?_)))))
  rcases Bool.eq_false_or_eq_true (decide (i1<(l1.len:Int))) with hg2 | hg2
  ·refine q1 (vi i1) (wy 9 hg2) (q1 (vb (decide (i1≤10))) (wy 9 hg2) (q2 (vb (decide (i1≤10))) (xT hg2) (ln ?_)))
   exact ⟨true,hg2,rfl,hm⟩
  ·refine sk (yD 9 hg2) (sk (yD 9 hg2) (q2 (vb false) (xF hg2) (ln ?_)))
   exact ⟨false,hg2,rfl,hm⟩
 ·rintro ρ w1 ⟨b1'0,he0,hw,hH⟩
  subst he0
  subst hw
  refine norm_has hH ?_
  refine th_n ?_
  refine wpE_cond (t:=((decide (i1<(l1.len:Int))) && (decide (i1≤10)))) (by kernel_rfl) (fun hc1=>?_) (fun hc1=>?_)
  ·have h:=h.1 hc1
   refine wpE_skip (th_n (wpE_seq (wpE_block (eg (q0 (vi n1) (q0 l1.v (q0 (vi i1) ?_)))))))
   obtain ⟨a1,hv2,h⟩:=h
   refine q2 (vp (some a1)) (xi (Tryz.runUnderlying66 _) (Tryz.sizeOf107 _) hv2) ?_
   obtain ⟨aJ,bM,bN,bO,aL,bP,hv1,h⟩:=h
   refine q2 (.agg #[(vi aJ),(vi bM),(vi bN),(vu bO),(vs aL),bP.v]) (xa a1 [(vi aJ),(vi bM),(vi bN),(vu bO),(vs aL),bP.v] (Tryz.isAgg107 _) (Tryz.sizeOf107 _) hv1) ?_
   refine sc Tryz.call75 (h.mono ?_)
   rintro e w2 ⟨r1,rfl,h⟩
   refine ⟨_,rfl,?_⟩
   refine q0 (vi (q6.wrap (n1+r1))) (q0 (vi (q6.wrap (n1+r1))) (ln (eg (q0 (vi (q6.wrap (n1+r1))) (q0 (vb (decide ((q6.wrap (n1+r1))≥500))) (ln ?_))))))
   refine wpE_cond (t:=(decide ((q6.wrap (n1+r1))≥500))) (by kernel_rfl) (fun hc2=>?_) (fun hc2=>?_)
   ·have h:=h.1 hc2
    refine eg (q0 (vb true) (ln (er (bl_r (th_r (th_r (bl_r (th_r (rs1 Tryz.results23 (v:=(vb true)) ?_)))))))))
    exact ⟨true,rfl,h⟩
   ·have h:=h.2 hc2
    refine wpE_skip (bl_n (th_n (rg (q0 (vi i1) (q0 (vi (q6.wrap (i1+1))) (q0 (vi (q6.wrap (i1+1))) (ln ?_)))))))
    exact ⟨((q6.wrap (n1+r1)),(q6.wrap (i1+1)),w2),⟨rfl,hm,h.1⟩,h.2⟩
  ·have h:=h.2 hc1
   refine wpE_exit (th_x (th_x (bl_eq (th_n (eg (q0 l1.v (q0 (vi (l1.len:Int)) (q0 (vb (decide ((l1.len:Int)>10))) (q0 (vb (decide ((l1.len:Int)>10))) (wpL_nil ?_))))))))))
   refine th_n (er (rs1 Tryz.results23 (v:=(vb (decide ((l1.len:Int)>10)))) ?_))
   exact ⟨(decide ((l1.len:Int)>10)),rfl,h⟩
def m_X_j1 (p1:Option Addr) (a1 b1:Int) (x1:Bool) (w0:World) (H:NP) (w:World) (K:Int→Int→Int→ByteArray→Bool→Bool→Int→WP):Prop :=
 Br x1
  (∀(w3:World),Hst w0 H w H w3 →
  K 0 0 0 ⟨#[]⟩ false false 51 w3)
  (Calls Tryz.prog 51 #[(vp p1),(vi a1)] w (fun e w4=>∃aA aE aB:Int,∃aC:ByteArray,∃aD r1:Bool,e=.returned (.tuple #[(.agg #[(vi aA),(vi aE),(vu aB),(vs aC),(vb aD)]),(vb r1)])∧
   Kept H w w4 ∧
   ∀(H2:NP) (w6:World),Hst w0 H w4 H2 w6 →
   Calls Tryz.prog 51 #[(vp p1),(vi b1)] w6 (fun e w7=>∃aT bC aR:Int,∃aV:ByteArray,∃aS r2:Bool,e=.returned (.tuple #[(.agg #[(vi aT),(vi bC),(vu aR),(vs aV),(vb aS)]),(vb r2)])∧
    Kept H2 w6 w7 ∧
    Br ((aA != 1) || (aT != 1))
     (∀(H4:NP) (w11:World),Hst w0 H2 w7 H4 w11 →
     K 0 0 0 ⟨#[]⟩ false false 120 w11)
     (∀y1:Bool,y1=((((aE != 0) || (bC != 1)) || (aB != aR)) || (!(decide (aC=aV)))) →
     Br y1
      (∀(H10:NP) (w20:World),Hst w0 H2 w7 H10 w20 →
      K aA aE aB aC aD (aD || aS) 122 w20)
      (∀(H10:NP) (w21:World),Hst w0 H2 w7 H10 w21 →
      K aA aE aB aC aD (aD || aS) 0 w21)))))
def m_X (p1:Option Addr) (a1 b1:Int) (w0:World) (K:Int→Int→Int→ByteArray→Bool→Bool→Int→WP):Prop :=
 Br (Option.isNone p1)
  (∀(H1:NP) (w2:World),Hst w0 None w0 H1 w2 →
  K 0 0 0 ⟨#[]⟩ false false 7 w2)
  (∀(H1:NP) (w1:World),Hst w0 None w0 H1 w1 →
  Calls Tryz.prog 160 #[(vp p1),(vi a1)] w1 (fun e w22=>∃r3:Int,e=.returned (vi r3)∧
   Kept H1 w1 w22 ∧
   Br (r3 == 0)
    (m_X_j1 p1 a1 b1 true w0 H1 w22 K)
    (Calls Tryz.prog 160 #[(vp p1),(vi b1)] w22 (fun e w23=>∃r4:Int,e=.returned (vi r4)∧
     Kept H1 w22 w23 ∧
     m_X_j1 p1 a1 b1 (r4 == 0) w0 H1 w23 K))))
theorem w_X (p1 : Option Addr) (a1 b1 : Int) (w0 : World) (K : Int → Int → Int → ByteArray → Bool → Bool → Int → WP) (h : m_X p1 a1 b1 w0 K) :
  Calls Tryz.prog 90 #[(vp p1),(vi a1),(vi b1)] w0 (fun e w'=>∃bG dA bH:Int,∃bI:ByteArray,∃dB r5:Bool,∃r6:Int,e=.returned (.tuple #[(.agg #[(vi bG),(vi dA),(vu bH),(vs bI),(vb dB)]),(vb r5),(vi r6)])∧K bG dA bH bI dB r5 r6 w'):=by
 unfold m_X at h
 refine cw (args:=[(vp p1),(vi a1),(vi b1)]) Tryz.func90 Tryz.ntmps90 ?_
 have hs:=Hst.start w0
 have hb:=HB.nil None w0
 refine eg (sn (O:=(.cells #[(vi 0),(vi 0),(vu 0),(vs ⟨#[]⟩),(vb false)] 35)) (x_alloc (Tryz.zeroValue35 _) rfl) ?_)
 intro p2 w1 hn1
 obtain ⟨H1,hs,hb⟩:=hs.alloc hb hn1
 refine q0 (vb false) (q0 (vi 0) (ln (wpE_seq (eg (q0 (vp p1) (q2 (vb (Option.isNone p1)) (x_ptreq (by kernel_rfl) rfl Tryz.underlying68) (ln ?_)))))))
 refine wpE_cond (t:=(Option.isNone p1)) (by kernel_rfl) (fun hc1=>?_) (fun hc1=>?_)
 ·have h:=h.1 hc1
  refine eg (q0 (.agg #[(vi 0),(vi 0),(vu 0),(vs ⟨#[]⟩),(vb false)]) (st_set (want0 rfl) (xo p2 [(vi 0),(vi 0),(vu 0),(vs ⟨#[]⟩),(vb false)] (Tryz.sizeOf35 _) (hb.k0 0 5 gZ)) ?_))
  intro w2 hn2
  obtain ⟨hs,hb⟩:=hb.s0 (l':=[(p2,[(vi 0),(vi 0),(vu 0),(vs ⟨#[]⟩),(vb false)],35)]) 0 [(vi 0),(vi 0),(vu 0),(vs ⟨#[]⟩),(vb false)] hs hn2 gZ
  refine q0 (vb false) (q0 (vi 7) (ln (er (th_r ?_))))
  have h:=h H1 w2 hs
  have hs:=hs.here
  refine resG (.inl rfl) (vs:=[(.agg #[(vi 0),(vi 0),(vu 0),(vs ⟨#[]⟩),(vb false)]),(vb false),(vi 7)]) (v:=(.tuple #[(.agg #[(vi 0),(vi 0),(vu 0),(vs ⟨#[]⟩),(vb false)]),(vb false),(vi 7)])) Tryz.results90 ⟨(rA (Tryz.isAgg35 _) (Tryz.sizeOf35 _) (hb.r0 0 5 gZ)),(rvT (by kernel_rfl)),(rvT (by kernel_rfl)),trivial⟩ (by kernel_rfl) ?_
  exact ⟨0,0,0,⟨#[]⟩,false,false,7,rfl,h⟩
 ·have h:=h.2 hc1
  refine wpE_skip (th_n (wpE_seq (wpE_seq ?_)))
  refine wpE_joinT (fun ρ w=>∃x1:Bool,∃H:NP,Has ρ [(0,(vp p1)),(1,(vi a1)),(2,(vi b1)),(6,(vp (some p2))),(26,(vb x1))]∧Hst w0 H w H w∧HB H w [(p2,[(vi 0),(vi 0),(vu 0),(vs ⟨#[]⟩),(vb false)],35)]∧m_X_j1 p1 a1 b1 x1 w0 H w K) ?_ ?_
  ·rintro ρ w ⟨x1,H,hH,hs,hb,h⟩
   unfold m_X_j1 at h
   refine wpE_has hH ?_
   refine wpE_cond (t:=x1) (by kernel_rfl) (fun hc2=>?_) (fun hc2=>?_)
   ·have h:=h.1 hc2
    refine eg (q0 (.agg #[(vi 0),(vi 0),(vu 0),(vs ⟨#[]⟩),(vb false)]) (st_set (want0 rfl) (xo p2 [(vi 0),(vi 0),(vu 0),(vs ⟨#[]⟩),(vb false)] (Tryz.sizeOf35 _) (hb.k0 0 5 gZ)) ?_))
    intro w3 hn3
    obtain ⟨hs,hb⟩:=hb.s0 (l':=[(p2,[(vi 0),(vi 0),(vu 0),(vs ⟨#[]⟩),(vb false)],35)]) 0 [(vi 0),(vi 0),(vu 0),(vs ⟨#[]⟩),(vb false)] hs hn3 gZ
    refine q0 (vb false) (q0 (vi 51) (ln (er (th_r ?_))))
    have h:=h w3 hs
    have hs:=hs.here
    refine resG (.inl rfl) (vs:=[(.agg #[(vi 0),(vi 0),(vu 0),(vs ⟨#[]⟩),(vb false)]),(vb false),(vi 51)]) (v:=(.tuple #[(.agg #[(vi 0),(vi 0),(vu 0),(vs ⟨#[]⟩),(vb false)]),(vb false),(vi 51)])) Tryz.results90 ⟨(rA (Tryz.isAgg35 _) (Tryz.sizeOf35 _) (hb.r0 0 5 gZ)),(rvT (by kernel_rfl)),(rvT (by kernel_rfl)),trivial⟩ (by kernel_rfl) ?_
    exact ⟨0,0,0,⟨#[]⟩,false,false,51,rfl,h⟩
   ·have h:=h.2 hc2
    refine wpE_skip (th_n (eg (q0 (vp p1) (q0 (vi a1) ?_))))
    refine sc Tryz.call51 (h.mono ?_)
    rintro e w4 ⟨aA,aE,aB,aC,aD,r1,rfl,hk,h⟩
    refine ⟨_,rfl,?_⟩
    obtain ⟨hs,hb⟩:=hk.hh hs hb
    refine q0 (.tuple #[(.agg #[(vi aA),(vi aE),(vu aB),(vs aC),(vb aD)]),(vb r1)]) (q0 (.agg #[(vi aA),(vi aE),(vu aB),(vs aC),(vb aD)]) (q0 (vb r1) (sn (O:=(.cells #[(vi 0),(vi 0),(vu 0),(vs ⟨#[]⟩),(vb false)] 35)) (x_alloc (Tryz.zeroValue35 _) rfl) ?_)))
    intro p3 w5 hn4
    obtain ⟨H2,hs,hb⟩:=hs.alloc hb hn4
    refine st_set (want0 rfl) (xo p3 [(vi aA),(vi aE),(vu aB),(vs aC),(vb aD)] (Tryz.sizeOf35 _) (hb.k0 0 5 gZ)) ?_
    intro w6 hn5
    obtain ⟨hs,hb⟩:=hb.s0 (l':=[(p3,[(vi aA),(vi aE),(vu aB),(vs aC),(vb aD)],35),(p2,[(vi 0),(vi 0),(vu 0),(vs ⟨#[]⟩),(vb false)],35)]) 0 [(vi aA),(vi aE),(vu aB),(vs aC),(vb aD)] hs hn5 gZ
    refine q0 (vb r1) (ln (eg (q0 (vp p1) (q0 (vi b1) ?_))))
    have h:=h H2 w6 hs
    have hs:=hs.here
    refine sc Tryz.call51 (h.mono ?_)
    rintro e w7 ⟨aT,bC,aR,aV,aS,r2,rfl,hk,h⟩
    refine ⟨_,rfl,?_⟩
    obtain ⟨hs,hb⟩:=hk.hh hs hb
    refine q0 (.tuple #[(.agg #[(vi aT),(vi bC),(vu aR),(vs aV),(vb aS)]),(vb r2)]) (q0 (.agg #[(vi aT),(vi bC),(vu aR),(vs aV),(vb aS)]) (q0 (vb r2) (sn (O:=(.cells #[(vi 0),(vi 0),(vu 0),(vs ⟨#[]⟩),(vb false)] 35)) (x_alloc (Tryz.zeroValue35 _) rfl) ?_)))
    intro p4 w8 hn6
    obtain ⟨H3,hs,hb⟩:=hs.alloc hb hn6
    refine st_set (want0 rfl) (xo p4 [(vi aT),(vi bC),(vu aR),(vs aV),(vb aS)] (Tryz.sizeOf35 _) (hb.k0 0 5 gZ)) ?_
    intro w9 hn7
    obtain ⟨hs,hb⟩:=hb.s0 (l':=[(p4,[(vi aT),(vi bC),(vu aR),(vs aV),(vb aS)],35),(p3,[(vi aA),(vi aE),(vu aB),(vs aC),(vb aD)],35),(p2,[(vi 0),(vi 0),(vu 0),(vs ⟨#[]⟩),(vb false)],35)]) 0 [(vi aT),(vi bC),(vu aR),(vs aV),(vb aS)] hs hn7 gZ
    refine q0 (vb r2) (ln (wpE_seq (wpE_seq ?_)))
    refine wpE_via (fun ρ wJ=>∃b2'0:Bool,∃HJ:NP,((aA != 1)=b2'0)∧Hst w0 H2 w7 HJ wJ∧HB HJ wJ [(p4,[(vi aT),(vi bC),(vu aR),(vs aV),(vb aS)],35),(p3,[(vi aA),(vi aE),(vu aB),(vs aC),(vb aD)],35),(p2,[(vi 0),(vi 0),(vu 0),(vs ⟨#[]⟩),(vb false)],35)]∧Has ρ [(6,(vp (some p2))),(9,(vp (some p3))),(11,(vp (some p4))),(47,(vb (b2'0 || (aT != 1))))]) ?_ ?_
    ·refine rg (q0 (vp (some p3)) (q2 (vi aA) (xl (Tryz.isAgg3 _) (hb.c0 1 (gS gZ))) (q0 (vb (aA != 1)) (q0 (vb (aA != 1)) ?_))))
     rcases Bool.eq_false_or_eq_true (aA != 1) with hg2 | hg2
     ·refine sk (yD 43 hg2) (sk (yD 43 hg2) (sk (yD 43 hg2) (q2 (vb true) (xT hg2) (ln ?_))))
      exact ⟨true,_,hg2,hs,hb,hm⟩
     ·refine q1 (vp (some p4)) (wy 43 hg2) (stp (v:=(vi aT)) (wy 43 hg2) (xl (Tryz.isAgg3 _) (hb.c0 0 gZ)) (q1 (vb (aT != 1)) (wy 43 hg2) (q2 (vb (aT != 1)) (xF hg2) (ln ?_))))
      exact ⟨false,_,hg2,hs,hb,hm⟩
    ·rintro ρ w10 ⟨b2'0,H4,he0,hs,hb,hH⟩
     subst he0
     refine norm_has hH ?_
     refine th_n ?_
     refine wpE_cond (t:=((aA != 1) || (aT != 1))) (by kernel_rfl) (fun hc3=>?_) (fun hc3=>?_)
     ·have h:=h.1 hc3
      refine eg (q0 (.agg #[(vi 0),(vi 0),(vu 0),(vs ⟨#[]⟩),(vb false)]) (st_set (want0 rfl) (xo p2 [(vi 0),(vi 0),(vu 0),(vs ⟨#[]⟩),(vb false)] (Tryz.sizeOf35 _) (hb.k0 2 5 (gS (gS gZ)))) ?_))
      intro w11 hn8
      obtain ⟨hs,hb⟩:=hb.s0 (l':=[(p4,[(vi aT),(vi bC),(vu aR),(vs aV),(vb aS)],35),(p3,[(vi aA),(vi aE),(vu aB),(vs aC),(vb aD)],35),(p2,[(vi 0),(vi 0),(vu 0),(vs ⟨#[]⟩),(vb false)],35)]) 2 [(vi 0),(vi 0),(vu 0),(vs ⟨#[]⟩),(vb false)] hs hn8 (gS (gS gZ))
      refine q0 (vb false) (q0 (vi 120) (ln (er (th_r ?_))))
      have h:=h H4 w11 hs
      have hs:=hs.here
      refine resG (.inl rfl) (vs:=[(.agg #[(vi 0),(vi 0),(vu 0),(vs ⟨#[]⟩),(vb false)]),(vb false),(vi 120)]) (v:=(.tuple #[(.agg #[(vi 0),(vi 0),(vu 0),(vs ⟨#[]⟩),(vb false)]),(vb false),(vi 120)])) Tryz.results90 ⟨(rA (Tryz.isAgg35 _) (Tryz.sizeOf35 _) (hb.r0 2 5 (gS (gS gZ)))),(rvT (by kernel_rfl)),(rvT (by kernel_rfl)),trivial⟩ (by kernel_rfl) ?_
      exact ⟨0,0,0,⟨#[]⟩,false,false,120,rfl,h⟩
     ·have h:=h.2 hc3
      refine wpE_skip (th_n (wpE_seq ?_))
      refine wpE_via (fun ρ wJ=>∃HJ:NP,Hst w0 H2 w7 HJ wJ∧HB HJ wJ [(p4,[(vi aT),(vi bC),(vu aR),(vs aV),(vb aS)],35),(p3,[(vi aA),(vi aE),(vu aB),(vs aC),(vb aD)],35),(p2,[(vi 0),(vi 0),(vu 0),(vs ⟨#[]⟩),(vb false)],35)]∧Has ρ [(6,(vp (some p2))),(9,(vp (some p3))),(11,(vp (some p4))),(13,(vb (aD || aS)))]) ?_ ?_
      ·refine rg (q0 (vp (some (p3.add 4))) (q2 (vb aD) (xl (Tryz.isAgg4 _) (hb.c 1 4 (gS gZ))) (q0 (vb aD) ?_)))
       refine wpL_join 3 (fun ρ wJ=>∃b5'0:Bool,∃HJ:NP,(aD=b5'0)∧Hst w0 H2 w7 HJ wJ∧HB HJ wJ [(p4,[(vi aT),(vi bC),(vu aR),(vs aV),(vb aS)],35),(p3,[(vi aA),(vi aE),(vu aB),(vs aC),(vb aD)],35),(p2,[(vi 0),(vi 0),(vu 0),(vs ⟨#[]⟩),(vb false)],35)]∧Has ρ [(6,(vp (some p2))),(9,(vp (some p3))),(11,(vp (some p4))),(54,(vb (b5'0 || aS)))]) ?_ ?_
       ·rintro ρ w14 ⟨b5'0,H7,he0,hs,hb,hH⟩
        subst he0
        refine wpL_has hH ?_
        refine q0 (vb (aD || aS)) (ln ?_)
        exact ⟨_,hs,hb,hm⟩
       ·rcases Bool.eq_false_or_eq_true aD with hg6 | hg6
        ·refine sk (yD 51 hg6) (sk (yD 51 hg6) (q2 (vb true) (xT hg6) (wpL_nil ?_)))
         exact ⟨true,_,hg6,hs,hb,hm⟩
        ·refine q1 (vp (some (p4.add 4))) (wy 51 hg6) (stp (v:=(vb aS)) (wy 51 hg6) (xl (Tryz.isAgg4 _) (hb.c 0 4 gZ)) (q2 (vb aS) (xF hg6) (wpL_nil ?_)))
         exact ⟨false,_,hg6,hs,hb,hm⟩
      ·rintro ρ w13 ⟨H6,hs,hb,hH⟩
       refine norm_has hH ?_
       refine th_n (wpE_seq (wpE_seq ?_))
       refine wpE_via (fun ρ wJ=>∃b8'0 y1:Bool,∃HJ:NP,((((aE != 0) || (bC != 1)) || (aB != aR))=b8'0)∧(y1=(b8'0 || (!(decide (aC=aV)))))∧Hst w0 H2 w7 HJ wJ∧HB HJ wJ [(p4,[(vi aT),(vi bC),(vu aR),(vs aV),(vb aS)],35),(p3,[(vi aA),(vi aE),(vu aB),(vs aC),(vb aD)],35),(p2,[(vi 0),(vi 0),(vu 0),(vs ⟨#[]⟩),(vb false)],35)]∧Has ρ [(6,(vp (some p2))),(9,(vp (some p3))),(13,(vb (aD || aS))),(76,(vb y1))]) ?_ ?_
       ·refine rg (q0 (vp (some (p3.add 1))) (q2 (vi aE) (xl (Tryz.isAgg3 _) (hb.c 1 1 (gS gZ))) (q0 (vb (aE != 0)) (q0 (vb (aE != 0)) ?_))))
        refine wpL_join 4 (fun ρ wJ=>∃b9'0:Bool,∃HJ:NP,((aE != 0)=b9'0)∧Hst w0 H2 w7 HJ wJ∧HB HJ wJ [(p4,[(vi aT),(vi bC),(vu aR),(vs aV),(vb aS)],35),(p3,[(vi aA),(vi aE),(vu aB),(vs aC),(vb aD)],35),(p2,[(vi 0),(vi 0),(vu 0),(vs ⟨#[]⟩),(vb false)],35)]∧Has ρ [(6,(vp (some p2))),(9,(vp (some p3))),(11,(vp (some p4))),(13,(vb (aD || aS))),(62,(vb (b9'0 || (bC != 1))))]) ?_ ?_
        ·rintro ρ w18 ⟨b9'0,H11,he0,hs,hb,hH⟩
         subst he0
         refine wpL_has hH ?_
         refine q0 (vb ((aE != 0) || (bC != 1))) ?_
         refine wpL_join 6 (fun ρ wJ=>∃b10'0:Bool,∃HJ:NP,(((aE != 0) || (bC != 1))=b10'0)∧Hst w0 H2 w7 HJ wJ∧HB HJ wJ [(p4,[(vi aT),(vi bC),(vu aR),(vs aV),(vb aS)],35),(p3,[(vi aA),(vi aE),(vu aB),(vs aC),(vb aD)],35),(p2,[(vi 0),(vi 0),(vu 0),(vs ⟨#[]⟩),(vb false)],35)]∧Has ρ [(6,(vp (some p2))),(9,(vp (some p3))),(11,(vp (some p4))),(13,(vb (aD || aS))),(69,(vb (b10'0 || (aB != aR))))]) ?_ ?_
         ·rintro ρ w19 ⟨b10'0,H12,he0,hs,hb,hH⟩
          subst he0
          refine wpL_has hH ?_
          refine q0 (vb (((aE != 0) || (bC != 1)) || (aB != aR))) ?_
          rcases Bool.eq_false_or_eq_true (((aE != 0) || (bC != 1)) || (aB != aR)) with hg16 | hg16
          ·refine sk (yD 70 hg16) (sk (yD 70 hg16) (sk (yD 70 hg16) (sk (yD 70 hg16) (sk (yD 70 hg16) (q2 (vb true) (xT hg16) (ln ?_))))))
           exact ⟨true,_,_,hg16,rfl,hs,hb,hm⟩
          ·refine q1 (vp (some (p3.add 3))) (wy 70 hg16) (stp (v:=(vs aC)) (wy 70 hg16) (xl (Tryz.isAgg9 _) (hb.c 1 3 (gS gZ))) (q1 (vp (some (p4.add 3))) (wy 70 hg16) (stp (v:=(vs aV)) (wy 70 hg16) (xl (Tryz.isAgg9 _) (hb.c 0 3 gZ)) (stp (v:=(vb (!(decide (aC=aV))))) (wy 70 hg16) (x_strneq (by kernel_rfl) (by kernel_rfl)) (q2 (vb (!(decide (aC=aV)))) (xF hg16) (ln ?_))))))
           exact ⟨false,_,_,hg16,rfl,hs,hb,hm⟩
         ·rcases Bool.eq_false_or_eq_true ((aE != 0) || (bC != 1)) with hg15 | hg15
          ·refine sk (yD 63 hg15) (sk (yD 63 hg15) (sk (yD 63 hg15) (sk (yD 63 hg15) (sk (yD 63 hg15) (q2 (vb true) (xT hg15) (wpL_nil ?_))))))
           exact ⟨true,_,hg15,hs,hb,hm⟩
          ·refine q1 (vp (some (p3.add 2))) (wy 63 hg15) (stp (v:=(vu aB)) (wy 63 hg15) (xl (Tryz.isAgg23 _) (hb.c 1 2 (gS gZ))) (q1 (vp (some (p4.add 2))) (wy 63 hg15) (stp (v:=(vu aR)) (wy 63 hg15) (xl (Tryz.isAgg23 _) (hb.c 0 2 gZ)) (q1 (vb (aB != aR)) (wy 63 hg15) (q2 (vb (aB != aR)) (xF hg15) (wpL_nil ?_))))))
           exact ⟨false,_,hg15,hs,hb,hm⟩
        ·rcases Bool.eq_false_or_eq_true (aE != 0) with hg13 | hg13
         ·refine sk (yD 58 hg13) (sk (yD 58 hg13) (sk (yD 58 hg13) (q2 (vb true) (xT hg13) (wpL_nil ?_))))
          exact ⟨true,_,hg13,hs,hb,hm⟩
         ·refine q1 (vp (some (p4.add 1))) (wy 58 hg13) (stp (v:=(vi bC)) (wy 58 hg13) (xl (Tryz.isAgg3 _) (hb.c 0 1 gZ)) (q1 (vb (bC != 1)) (wy 58 hg13) (q2 (vb (bC != 1)) (xF hg13) (wpL_nil ?_))))
          exact ⟨false,_,hg13,hs,hb,hm⟩
       ·rintro ρ w17 ⟨b8'0,y1,H10,he0,hy1,hs,hb,hH⟩
        subst he0
        have h:=h y1 hy1
        refine norm_has hH ?_
        refine th_n ?_
        refine wpE_cond (t:=y1) (by kernel_rfl) (fun hc4=>?_) (fun hc4=>?_)
        ·have h:=h.1 hc4
         refine eg (q2 (.agg #[(vi aA),(vi aE),(vu aB),(vs aC),(vb aD)]) (xa p3 [(vi aA),(vi aE),(vu aB),(vs aC),(vb aD)] (Tryz.isAgg35 _) (Tryz.sizeOf35 _) (hb.r0 1 5 (gS gZ))) (q0 (vb (aD || aS)) (st_set (want0 rfl) (xo p2 [(vi aA),(vi aE),(vu aB),(vs aC),(vb aD)] (Tryz.sizeOf35 _) (hb.k0 2 5 (gS (gS gZ)))) ?_)))
         intro w20 hn9
         obtain ⟨hs,hb⟩:=hb.s0 (l':=[(p4,[(vi aT),(vi bC),(vu aR),(vs aV),(vb aS)],35),(p3,[(vi aA),(vi aE),(vu aB),(vs aC),(vb aD)],35),(p2,[(vi aA),(vi aE),(vu aB),(vs aC),(vb aD)],35)]) 2 [(vi aA),(vi aE),(vu aB),(vs aC),(vb aD)] hs hn9 (gS (gS gZ))
         refine q0 (vb (aD || aS)) (q0 (vi 122) (ln (er (th_r ?_))))
         have h:=h H10 w20 hs
         have hs:=hs.here
         refine resG (.inl rfl) (vs:=[(.agg #[(vi aA),(vi aE),(vu aB),(vs aC),(vb aD)]),(vb (aD || aS)),(vi 122)]) (v:=(.tuple #[(.agg #[(vi aA),(vi aE),(vu aB),(vs aC),(vb aD)]),(vb (aD || aS)),(vi 122)])) Tryz.results90 ⟨(rA (Tryz.isAgg35 _) (Tryz.sizeOf35 _) (hb.r0 2 5 (gS (gS gZ)))),(rvT (by kernel_rfl)),(rvT (by kernel_rfl)),trivial⟩ (by kernel_rfl) ?_
         exact ⟨aA,aE,aB,aC,aD,(aD || aS),122,rfl,h⟩
        ·have h:=h.2 hc4
         refine wpE_skip (th_n (eg (q2 (.agg #[(vi aA),(vi aE),(vu aB),(vs aC),(vb aD)]) (xa p3 [(vi aA),(vi aE),(vu aB),(vs aC),(vb aD)] (Tryz.isAgg35 _) (Tryz.sizeOf35 _) (hb.r0 1 5 (gS gZ))) (q0 (vb (aD || aS)) (st_set (want0 rfl) (xo p2 [(vi aA),(vi aE),(vu aB),(vs aC),(vb aD)] (Tryz.sizeOf35 _) (hb.k0 2 5 (gS (gS gZ)))) ?_)))))
         intro w21 hn10
         obtain ⟨hs,hb⟩:=hb.s0 (l':=[(p4,[(vi aT),(vi bC),(vu aR),(vs aV),(vb aS)],35),(p3,[(vi aA),(vi aE),(vu aB),(vs aC),(vb aD)],35),(p2,[(vi aA),(vi aE),(vu aB),(vs aC),(vb aD)],35)]) 2 [(vi aA),(vi aE),(vu aB),(vs aC),(vb aD)] hs hn10 (gS (gS gZ))
         refine q0 (vb (aD || aS)) (q0 (vi 0) (ln (er ?_)))
         have h:=h H10 w21 hs
         have hs:=hs.here
         refine resG (.inl rfl) (vs:=[(.agg #[(vi aA),(vi aE),(vu aB),(vs aC),(vb aD)]),(vb (aD || aS)),(vi 0)]) (v:=(.tuple #[(.agg #[(vi aA),(vi aE),(vu aB),(vs aC),(vb aD)]),(vb (aD || aS)),(vi 0)])) Tryz.results90 ⟨(rA (Tryz.isAgg35 _) (Tryz.sizeOf35 _) (hb.r0 2 5 (gS (gS gZ)))),(rvT (by kernel_rfl)),(rvT (by kernel_rfl)),trivial⟩ (by kernel_rfl) ?_
         exact ⟨aA,aE,aB,aC,aD,(aD || aS),0,rfl,h⟩
  ·refine rg (q0 (vp p1) (q0 (vi a1) ?_))
   have h:=h H1 w1 hs
   have hs:=hs.here
   refine sc Tryz.call160 (h.mono ?_)
   rintro e w22 ⟨r3,rfl,hk,h⟩
   refine ⟨_,rfl,?_⟩
   obtain ⟨hs,hb⟩:=hk.hh hs hb
   refine q0 (vb (r3 == 0)) (q0 (vb (r3 == 0)) ?_)
   rcases Bool.eq_false_or_eq_true (r3 == 0) with hg17 | hg17
   ·have h:=h.1 hg17
    refine sk (yD 21 hg17) (sk (yD 21 hg17) (sk (yD 21 hg17) (sk (yD 21 hg17) (q2 (vb true) (xT hg17) (ln ?_)))))
    exact ⟨true,H1,hm,hs,hb,h⟩
   ·have h:=h.2 hg17
    refine q1 (vp p1) (wy 21 hg17) (q1 (vi b1) (wy 21 hg17) ?_)
    refine st_call (wy 21 hg17) (xc Tryz.call160) (h.mono ?_)
    rintro e w23 ⟨r4,rfl,hk,h⟩
    refine ⟨_,rfl,?_⟩
    obtain ⟨hs,hb⟩:=hk.hh hs hb
    refine q1 (vb (r4 == 0)) (wy 21 hg17) (q2 (vb (r4 == 0)) (xF hg17) (ln ?_))
    exact ⟨(r4 == 0),H1,hm,hs,hb,h⟩
def m_H3 (p1:Option Addr) (a1 b1:Int) (w0:World) (K:Int→Int→WP):Prop :=
 Calls Tryz.prog 90 #[(vp p1),(vi a1),(vi b1)] w0 (fun e w1=>∃aA aE aB:Int,∃aC:ByteArray,∃aD r1:Bool,∃r2:Int,e=.returned (.tuple #[(.agg #[(vi aA),(vi aE),(vu aB),(vs aC),(vb aD)]),(vb r1),(vi r2)])∧
  Kept None w0 w1 ∧
  Br (((cond r1 121 r2):Int) != 0)
   (∀(H2:NP) (w4:World),Hst w0 None w1 H2 w4 →
   K 0 (cond r1 121 r2) w4)
   (∀(H2:NP) (w4:World),Hst w0 None w1 H2 w4 →
   Calls Tryz.prog 76 #[(vp p1),(.agg #[(vi 6),(vi 0),(vu aB),(vs aC),(vb false)])] w4 (fun e w5=>∃r3 r4:Int,e=.returned (.tuple #[(vi r3),(vi r4)])∧
    Kept H2 w4 w5 ∧
    K r3 r4 w5)))
theorem w_H3 (p1 : Option Addr) (a1 b1 : Int) (w0 : World) (K : Int → Int → WP) (h : m_H3 p1 a1 b1 w0 K) :
  Calls Tryz.prog 32 #[(vp p1),(vi a1),(vi b1)] w0 (fun e w'=>∃r5 r6:Int,e=.returned (.tuple #[(vi r5),(vi r6)])∧K r5 r6 w'):=by
 unfold m_H3 at h
 refine cw (args:=[(vp p1),(vi a1),(vi b1)]) Tryz.func32 Tryz.ntmps32 ?_
 have hs:=Hst.start w0
 have hb:=HB.nil None w0
 refine eg (q0 (vi 0) (q0 (vi 0) (ln (eg (q0 (vp p1) (q0 (vi a1) (q0 (vi b1) ?_)))))))
 refine sc Tryz.call90 (h.mono ?_)
 rintro e w1 ⟨aA,aE,aB,aC,aD,r1,r2,rfl,hk,h⟩
 refine ⟨_,rfl,?_⟩
 obtain ⟨hs,hb⟩:=hk.hh hs hb
 refine q0 (.tuple #[(.agg #[(vi aA),(vi aE),(vu aB),(vs aC),(vb aD)]),(vb r1),(vi r2)]) (q0 (.agg #[(vi aA),(vi aE),(vu aB),(vs aC),(vb aD)]) (q0 (vb r1) (q0 (vi r2) (sn (O:=(.cells #[(vi 0),(vi 0),(vu 0),(vs ⟨#[]⟩),(vb false)] 35)) (x_alloc (Tryz.zeroValue35 _) rfl) ?_))))
 intro p2 w2 hn1
 obtain ⟨H1,hs,hb⟩:=hs.alloc hb hn1
 refine st_set (want0 rfl) (xo p2 [(vi aA),(vi aE),(vu aB),(vs aC),(vb aD)] (Tryz.sizeOf35 _) (hb.k0 0 5 gZ)) ?_
 intro w3 hn2
 obtain ⟨hs,hb⟩:=hb.s0 (l':=[(p2,[(vi aA),(vi aE),(vu aB),(vs aC),(vb aD)],35)]) 0 [(vi aA),(vi aE),(vu aB),(vs aC),(vb aD)] hs hn2 gZ
 refine q0 (vb r1) (q0 (vi r2) (ln (wpE_seq (eg (q0 (vb r1) (ln ?_))))))
 refine wpE_via (fun ρ wJ=>∃b2'0:Bool,∃HJ:NP,(r1=b2'0)∧Hst w0 None w1 HJ wJ∧HB HJ wJ [(p2,[(vi aA),(vi aE),(vu aB),(vs aC),(vb aD)],35)]∧Has ρ [(0,(vp p1)),(8,(vp (some p2))),(10,(vi (cond b2'0 121 r2)))]) ?_ ?_
 ·refine wpE_cond (t:=r1) (by kernel_rfl) (fun hc2=>?_) (fun hc2=>?_)
  ·refine rg (q0 (vi 121) (ln ?_))
   exact ⟨true,_,hc2,hs,hb,hm⟩
  ·refine wpE_skip (th_n ?_)
   exact ⟨false,_,hc2,hs,hb,hm⟩
 ·rintro ρ w4 ⟨b2'0,H2,he0,hs,hb,hH⟩
  subst he0
  refine norm_has hH ?_
  refine th_n (wpE_seq (eg (q0 (vi (cond r1 121 r2)) (q0 (vb (((cond r1 121 r2):Int) != 0)) (ln ?_)))))
  refine wpE_cond (t:=(((cond r1 121 r2):Int) != 0)) (by kernel_rfl) (fun hc3=>?_) (fun hc3=>?_)
  ·have h:=h.1 hc3
   refine eg (q0 (vi (cond r1 121 r2)) (q0 (vi 0) (q0 (vi (cond r1 121 r2)) (ln (er (th_r ?_))))))
   have h:=h H2 w4 hs
   have hs:=hs.here
   refine res2 (.inl rfl) Tryz.results32 (v:=(vi 0)) (by kernel_rfl) (v':=(vi (cond r1 121 r2))) (by kernel_rfl) ?_
   exact ⟨0,(cond r1 121 r2),rfl,h⟩
  ·have h:=h.2 hc3
   refine wpE_skip (th_n (eg (q0 (vp p1) (q0 (vp (some (p2.add 2))) (q2 (vu aB) (xl (Tryz.isAgg23 _) (hb.c 0 2 gZ)) (q0 (vp (some (p2.add 3))) (q2 (vs aC) (xl (Tryz.isAgg9 _) (hb.c 0 3 gZ)) (q0 (.agg #[(vi 6),(vi 0),(vu aB),(vs aC),(vb false)]) ?_))))))))
   have h:=h H2 w4 hs
   have hs:=hs.here
   refine sc Tryz.call76 (h.mono ?_)
   rintro e w5 ⟨r3,r4,rfl,hk,h⟩
   refine ⟨_,rfl,?_⟩
   obtain ⟨hs,hb⟩:=hk.hh hs hb
   refine q0 (vi r3) (q0 (vi r4) (q0 (vi r3) (q0 (vi r4) (ln (er (res2 (.inl rfl) Tryz.results32 (v:=(vi r3)) (by kernel_rfl) (v':=(vi r4)) (by kernel_rfl) ?_))))))
   exact ⟨r3,r4,rfl,h⟩
def m_I3 (p1:Option Addr) (who1 a1 b1:Int) (w0:World) (K:Int→Int→WP):Prop :=
 Br ((who1 != 0) && (who1 != 1))
  (∀(H1:NP) (w1:World),Hst w0 None w0 H1 w1 →
  K 0 2 w1)
  (∀(H1:NP) (w1:World),Hst w0 None w0 H1 w1 →
  Calls Tryz.prog 90 #[(vp p1),(vi a1),(vi b1)] w1 (fun e w2=>∃aA aE aB:Int,∃aC:ByteArray,∃aD r1:Bool,∃r2:Int,e=.returned (.tuple #[(.agg #[(vi aA),(vi aE),(vu aB),(vs aC),(vb aD)]),(vb r1),(vi r2)])∧
   Kept H1 w1 w2 ∧
   Br (r2 != 0)
    (∀(H2:NP) (w4:World),Hst w0 H1 w2 H2 w4 →
    K 0 r2 w4)
    (∀(H2:NP) (w4:World),Hst w0 H1 w2 H2 w4 →
    Calls Tryz.prog 91 #[(vp p1),(vi a1),(vi b1)] w4 (fun e w5=>∃r3 r4:Int,e=.returned (.tuple #[(vi r3),(vi r4)])∧
     Kept H2 w4 w5 ∧
     Br (r4 != 0)
      (K 0 r4 w5)
      (Calls Tryz.prog 92 #[(vp p1),(vs (⟨#[114,101,115,111,108,118,101]⟩:ByteArray))] w5 (fun e w6=>∃r5 r6:Int,e=.returned (.tuple #[(vi r5),(vi r6)])∧
       Kept H2 w5 w6 ∧
       Br (r6 != 0)
        (K 0 r6 w6)
        (Calls Tryz.prog 91 #[(vp p1),(vi r5),(vi r3)] w6 (fun e w7=>∃r7 r8:Int,e=.returned (.tuple #[(vi r7),(vi r8)])∧
         Kept H2 w6 w7 ∧
         Br (r8 != 0)
          (K 0 r8 w7)
          (Calls Tryz.prog 93 #[(vp p1),(vi who1),(vi r7)] w7 (fun e w8=>∃r9 r10:Int,e=.returned (.tuple #[(vi r9),(vi r10)])∧
           Kept H2 w7 w8 ∧
           K r9 r10 w8))))))))))
theorem w_I3 (p1 : Option Addr) (who1 a1 b1 : Int) (w0 : World) (K : Int → Int → WP) (h : m_I3 p1 who1 a1 b1 w0 K) :
  Calls Tryz.prog 33 #[(vp p1),(vi who1),(vi a1),(vi b1)] w0 (fun e w'=>∃r11 r12:Int,e=.returned (.tuple #[(vi r11),(vi r12)])∧K r11 r12 w'):=by
 unfold m_I3 at h
 refine cw (args:=[(vp p1),(vi who1),(vi a1),(vi b1)]) Tryz.func33 Tryz.ntmps33 ?_
 have hs:=Hst.start w0
 have hb:=HB.nil None w0
 refine eg (q0 (vi 0) (q0 (vi 0) (ln (wpE_seq (wpE_seq ?_)))))
 refine wpE_via (fun ρ wJ=>∃b2'0:Bool,∃HJ:NP,((who1 != 0)=b2'0)∧Hst w0 None w0 HJ wJ∧HB HJ wJ []∧Has ρ [(0,(vp p1)),(1,(vi who1)),(2,(vi a1)),(3,(vi b1)),(21,(vb (b2'0 && (who1 != 1))))]) ?_ ?_
 ·refine rg (q0 (vi who1) (q0 (vb (who1 != 0)) (q0 (vb (who1 != 0)) ?_)))
  rcases Bool.eq_false_or_eq_true (who1 != 0) with hg2 | hg2
  ·refine q1 (vi who1) (wy 18 hg2) (q1 (vb (who1 != 1)) (wy 18 hg2) (q2 (vb (who1 != 1)) (xT hg2) (ln ?_)))
   exact ⟨true,_,hg2,hs,hb,hm⟩
  ·refine sk (yD 18 hg2) (sk (yD 18 hg2) (q2 (vb false) (xF hg2) (ln ?_)))
   exact ⟨false,_,hg2,hs,hb,hm⟩
 ·rintro ρ w1 ⟨b2'0,H1,he0,hs,hb,hH⟩
  subst he0
  refine norm_has hH ?_
  refine th_n ?_
  refine wpE_cond (t:=((who1 != 0) && (who1 != 1))) (by kernel_rfl) (fun hc1=>?_) (fun hc1=>?_)
  ·have h:=h.1 hc1
   refine eg (q0 (vi 0) (q0 (vi 2) (ln (er (th_r ?_)))))
   have h:=h H1 w1 hs
   have hs:=hs.here
   refine res2 (.inl rfl) Tryz.results33 (v:=(vi 0)) (by kernel_rfl) (v':=(vi 2)) (by kernel_rfl) ?_
   exact ⟨0,2,rfl,h⟩
  ·have h:=h.2 hc1
   refine wpE_skip (th_n (wpE_seq (eg (q0 (vp p1) (q0 (vi a1) (q0 (vi b1) ?_))))))
   have h:=h H1 w1 hs
   have hs:=hs.here
   refine sc Tryz.call90 (h.mono ?_)
   rintro e w2 ⟨aA,aE,aB,aC,aD,r1,r2,rfl,hk,h⟩
   refine ⟨_,rfl,?_⟩
   obtain ⟨hs,hb⟩:=hk.hh hs hb
   refine q0 (.tuple #[(.agg #[(vi aA),(vi aE),(vu aB),(vs aC),(vb aD)]),(vb r1),(vi r2)]) (q0 (.agg #[(vi aA),(vi aE),(vu aB),(vs aC),(vb aD)]) (q0 (vb r1) (q0 (vi r2) (sn (O:=(.cells #[(vi 0),(vi 0),(vu 0),(vs ⟨#[]⟩),(vb false)] 35)) (x_alloc (Tryz.zeroValue35 _) rfl) ?_))))
   intro p2 w3 hn1
   obtain ⟨H2,hs,hb⟩:=hs.alloc hb hn1
   refine st_set (want0 rfl) (xo p2 [(vi aA),(vi aE),(vu aB),(vs aC),(vb aD)] (Tryz.sizeOf35 _) (hb.k0 0 5 gZ)) ?_
   intro w4 hn2
   obtain ⟨hs,hb⟩:=hb.s0 (l':=[(p2,[(vi aA),(vi aE),(vu aB),(vs aC),(vb aD)],35)]) 0 [(vi aA),(vi aE),(vu aB),(vs aC),(vb aD)] hs hn2 gZ
   refine q0 (vb r1) (q0 (vi r2) (ln (eg (q0 (vi r2) (q0 (vb (r2 != 0)) (ln ?_))))))
   refine wpE_cond (t:=(r2 != 0)) (by kernel_rfl) (fun hc2=>?_) (fun hc2=>?_)
   ·have h:=h.1 hc2
    refine eg (q0 (vi r2) (q0 (vi 0) (q0 (vi r2) (ln (er (th_r ?_))))))
    have h:=h H2 w4 hs
    have hs:=hs.here
    refine res2 (.inl rfl) Tryz.results33 (v:=(vi 0)) (by kernel_rfl) (v':=(vi r2)) (by kernel_rfl) ?_
    exact ⟨0,r2,rfl,h⟩
   ·have h:=h.2 hc2
    refine wpE_skip (th_n (eg (q0 (vp p1) (q0 (vi a1) (q0 (vi b1) ?_)))))
    have h:=h H2 w4 hs
    have hs:=hs.here
    refine sc Tryz.call91 (h.mono ?_)
    rintro e w5 ⟨r3,r4,rfl,hk,h⟩
    refine ⟨_,rfl,?_⟩
    obtain ⟨hs,hb⟩:=hk.hh hs hb
    refine q0 (.tuple #[(vi r3),(vi r4)]) (q0 (vi r3) (q0 (vi r4) (q0 (vi r3) (q0 (vi r4) (ln (wpE_seq (eg (q0 (vi r4) (q0 (vb (r4 != 0)) ?_)))))))))
    refine ln ?_
    refine wpE_cond (t:=(r4 != 0)) (by kernel_rfl) (fun hc3=>?_) (fun hc3=>?_)
    ·have h:=h.1 hc3
     refine eg (q0 (vi r4) (q0 (vi 0) (q0 (vi r4) (ln (er (th_r (res2 (.inl rfl) Tryz.results33 (v:=(vi 0)) (by kernel_rfl) (v':=(vi r4)) (by kernel_rfl) ?_)))))))
     exact ⟨0,r4,rfl,h⟩
    ·have h:=h.2 hc3
     refine wpE_skip (th_n (eg (q0 (vp p1) ?_)))
     refine sc Tryz.call92 (h.mono ?_)
     rintro e w6 ⟨r5,r6,rfl,hk,h⟩
     refine ⟨_,rfl,?_⟩
     obtain ⟨hs,hb⟩:=hk.hh hs hb
     refine q0 (.tuple #[(vi r5),(vi r6)]) (q0 (vi r5) (q0 (vi r6) (q0 (vi r5) (q0 (vi r6) (ln (wpE_seq (eg (q0 (vi r6) (q0 (vb (r6 != 0)) ?_)))))))))
     refine ln ?_
     refine wpE_cond (t:=(r6 != 0)) (by kernel_rfl) (fun hc4=>?_) (fun hc4=>?_)
     ·have h:=h.1 hc4
      refine eg (q0 (vi r6) (q0 (vi 0) (q0 (vi r6) (ln (er (th_r (res2 (.inl rfl) Tryz.results33 (v:=(vi 0)) (by kernel_rfl) (v':=(vi r6)) (by kernel_rfl) ?_)))))))
      exact ⟨0,r6,rfl,h⟩
     ·have h:=h.2 hc4
      refine wpE_skip (th_n (wpE_seq (eg (q0 (vp p1) (q0 (vi r5) (q0 (vi r3) ?_))))))
      refine sc Tryz.call91 (h.mono ?_)
      rintro e w7 ⟨r7,r8,rfl,hk,h⟩
      refine ⟨_,rfl,?_⟩
      obtain ⟨hs,hb⟩:=hk.hh hs hb
      refine q0 (.tuple #[(vi r7),(vi r8)]) (q0 (vi r7) (q0 (vi r8) (q0 (vi r7) (q0 (vi r8) (ln (eg (q0 (vi r8) (q0 (vb (r8 != 0)) (wpL_nil ?_)))))))))
      refine th_n ?_
      refine wpE_cond (t:=(r8 != 0)) (by kernel_rfl) (fun hc5=>?_) (fun hc5=>?_)
      ·have h:=h.1 hc5
       refine eg (q0 (vi r8) (q0 (vi 0) (q0 (vi r8) (ln (er (th_r (res2 (.inl rfl) Tryz.results33 (v:=(vi 0)) (by kernel_rfl) (v':=(vi r8)) (by kernel_rfl) ?_)))))))
       exact ⟨0,r8,rfl,h⟩
      ·have h:=h.2 hc5
       refine wpE_skip (th_n (eg (q0 (vp p1) (q0 (vi who1) (q0 (vi r7) ?_)))))
       refine sc Tryz.call93 (h.mono ?_)
       rintro e w8 ⟨r9,r10,rfl,hk,h⟩
       refine ⟨_,rfl,?_⟩
       obtain ⟨hs,hb⟩:=hk.hh hs hb
       refine q0 (vi r9) (q0 (vi r10) (q0 (vi r9) (q0 (vi r10) (ln (er (res2 (.inl rfl) Tryz.results33 (v:=(vi r9)) (by kernel_rfl) (v':=(vi r10)) (by kernel_rfl) ?_))))))
       exact ⟨r9,r10,rfl,h⟩
def s_S1 (e1:Int):Int :=
 e1
theorem pw_S1 (e1 : Int) (w0 : World) :
  Calls Tryz.prog 36 #[(vi e1)] w0 (fun e w'=>(e=.returned (vi e1))∧Pure w0 w'):=by
 refine cw (args:=[(vi e1)]) Tryz.func36 Tryz.ntmps36 (eg (q0 (vi 0) (ln (eg (q0 (vi e1) (q0 (vi e1) (ln ?_)))))))
 refine er (rs1 Tryz.results36 (v:=(vi e1)) ?_)
 exact ⟨by kernel_rfl,Ext.refl _⟩
theorem p_S1 (e1:Int) (w0:World):Calls Tryz.prog 36 #[(.int .i64 e1)] w0 (fun e w'=>e=.returned (.int .i64 (s_S1 e1))∧Pure w0 w'):=pw_S1 e1 w0
def m_E2 (aH aI aF:Int) (aG:ByteArray) (aK:Bool) (w0:World) (K:Sl→WP):Prop :=
 ∀(p1:Addr) (w1:World),New w0 (.cells #[(vi aH),(vi aI),(vu aF),(vs aG),(vb aK)] 35) p1 w1 →
 ∃v1:Int,w1.cell? p1=some (vi v1) ∧
 Br (v1 == 1)
  (∃v2:Bool,w1.cell? (p1.add 4)=some (vb v2) ∧
  Br v2
   (K Sl.nil w1)
   (∃v3:Int,w1.cell? (p1.add 1)=some (vi v3) ∧
   Calls Tryz.prog 162 #[(vi 1),(vi v3),(vp (some p1))] w1 (fun e w2=>∃aA bJ aB:Int,∃aC:ByteArray,e=.returned (.agg #[(vi aA),(vi bJ),(vu aB),(vs aC)])∧
    ∀(p2:Addr) (w3:World),New w2 (.cells #[(vi aA),(vi bJ),(vu aB),(vs aC)] 75) p2 w3 →
    K (Sl.mk (some p2) 1 1) w3)))
  (Br (v1 == 2)
   (∃v4:Int,w1.cell? (p1.add 1)=some (vi v4) ∧
   Calls Tryz.prog 162 #[(vi 2),(vi v4),(vp (some p1))] w1 (fun e w4=>∃aT bQ aR:Int,∃aV:ByteArray,e=.returned (.agg #[(vi aT),(vi bQ),(vu aR),(vs aV)])∧
    ∀(p3:Addr) (w5:World),New w4 (.cells #[(vi aT),(vi bQ),(vu aR),(vs aV)] 75) p3 w5 →
    K (Sl.mk (some p3) 1 1) w5))
   (Br (v1 == 3)
    (Calls Tryz.prog 162 #[(vi 3),(vi 0),(vp (some p1))] w1 (fun e w6=>∃bG bR bH:Int,∃bI:ByteArray,e=.returned (.agg #[(vi bG),(vi bR),(vu bH),(vs bI)])∧
     ∀(p4:Addr) (w7:World),New w6 (.cells #[(vi bG),(vi bR),(vu bH),(vs bI)] 75) p4 w7 →
     K (Sl.mk (some p4) 1 1) w7))
    (Br (v1 == 4)
     (∃v5:Int,w1.cell? (p1.add 1)=some (vi v5) ∧
     Calls Tryz.prog 162 #[(vi 4),(vi v5),(vp (some p1))] w1 (fun e w8=>∃bS bT bU:Int,∃bV:ByteArray,e=.returned (.agg #[(vi bS),(vi bT),(vu bU),(vs bV)])∧
      ∀(p5:Addr) (w9:World),New w8 (.cells #[(vi bS),(vi bT),(vu bU),(vs bV)] 75) p5 w9 →
      ∃v6:Bool,w9.cell? (p1.add 4)=some (vb v6) ∧
      Br (!v6)
       (Calls Tryz.prog 162 #[(vi 1),(vi 0),(vp (some p1))] w9 (fun e w10=>∃bW bX bY:Int,∃bZ:ByteArray,e=.returned (.agg #[(vi bW),(vi bX),(vu bY),(vs bZ)])∧
        Calls Tryz.prog 162 #[(vi 1),(vi 1),(vp (some p1))] w10 (fun e w11=>∃cC cD cE:Int,∃cF:ByteArray,e=.returned (.agg #[(vi cC),(vi cD),(vu cE),(vs cF)])∧
         ∀(p6:Addr) (w12:World),New w11 (.cells #[(vi bW),(vi bX),(vu bY),(vs bZ),(vi cC),(vi cD),(vu cE),(vs cF)] 75) p6 w12 →
         ∃s1:Sl,∃w13:World,(Builtin.append_ #[71,71] 71 #[(Sl.mk (some p5) 1 1).v,(Sl.mk (some p6) 2 2).v]).run Tryz.prog w12=.ok s1.v w13 ∧
         K s1 w13)))
       (K (Sl.mk (some p5) 1 1) w9)))
     (Br (v1 == 5)
      (Calls Tryz.prog 162 #[(vi 5),(vi 2),(vp (some p1))] w1 (fun e w14=>∃cG cH cI:Int,∃cJ:ByteArray,e=.returned (.agg #[(vi cG),(vi cH),(vu cI),(vs cJ)])∧
       ∀(p7:Addr) (w15:World),New w14 (.cells #[(vi cG),(vi cH),(vu cI),(vs cJ)] 75) p7 w15 →
       K (Sl.mk (some p7) 1 1) w15))
      (Br (v1 == 6)
       (Calls Tryz.prog 162 #[(vi 6),(vi 2),(vp (some p1))] w1 (fun e w16=>∃cK cL cM:Int,∃cN:ByteArray,e=.returned (.agg #[(vi cK),(vi cL),(vu cM),(vs cN)])∧
        Calls Tryz.prog 162 #[(vi 2),(vi 0),(vp (some p1))] w16 (fun e w17=>∃cO cP cQ:Int,∃cR:ByteArray,e=.returned (.agg #[(vi cO),(vi cP),(vu cQ),(vs cR)])∧
         Calls Tryz.prog 162 #[(vi 2),(vi 1),(vp (some p1))] w17 (fun e w18=>∃cS cT cU:Int,∃cV:ByteArray,e=.returned (.agg #[(vi cS),(vi cT),(vu cU),(vs cV)])∧
          ∀(p8:Addr) (w19:World),New w18 (.cells #[(vi cK),(vi cL),(vu cM),(vs cN),(vi cO),(vi cP),(vu cQ),(vs cR),(vi cS),(vi cT),(vu cU),(vs cV)] 75) p8 w19 →
          K (Sl.mk (some p8) 3 3) w19))))
       (K Sl.nil w1))))))
theorem w_E2 (aH aI aF : Int) (aG : ByteArray) (aK : Bool) (w0 : World) (K : Sl → WP) (h : m_E2 aH aI aF aG aK w0 K) :
  Calls Tryz.prog 94 #[(.agg #[(vi aH),(vi aI),(vu aF),(vs aG),(vb aK)])] w0 (fun e w'=>∃r1:Sl,e=.returned r1.v∧K r1 w'):=by
 unfold m_E2 at h
 refine cw (args:=[(.agg #[(vi aH),(vi aI),(vu aF),(vs aG),(vb aK)])]) Tryz.func94 Tryz.ntmps94 (eg (sn (O:=(.cells #[(vi aH),(vi aI),(vu aF),(vs aG),(vb aK)] 35)) xb ?_))
 intro p1 w1 hn8
 have h:=h p1 w1 hn8
 refine q0 Sl.nil.v (ln (eg (q0 (.func (.func 162) #[] #[(vp (some p1))]) (q0 (.func (.func 162) #[] #[(vp (some p1))]) (ln (wpE_seq (eg ?_)))))))
 refine q0 (vp (some p1)) ?_
 obtain ⟨v1,hv7,h⟩:=h
 refine q2 (vi v1) (xl (Tryz.isAgg3 _) hv7) (ln (wpE_block (eg (q0 (vb (v1 == 1)) (q0 (vb (v1 == 1)) (ln ?_))))))
 refine wpE_cond (t:=(v1 == 1)) (by kernel_rfl) (fun hc1=>?_) (fun hc1=>?_)
 ·have h:=h.1 hc1
  refine wpE_seq (eg (q0 (vp (some (p1.add 4))) ?_))
  obtain ⟨v2,hv2,h⟩:=h
  refine q2 (vb v2) (xl (Tryz.isAgg4 _) hv2) (ln ?_)
  refine wpE_cond (t:=v2) (by kernel_rfl) (fun hc2=>?_) (fun hc2=>?_)
  ·have h:=h.1 hc2
   refine eg (q0 Sl.nil.v (ln (er (th_r (bl_r (th_r (rs1 Tryz.results94 (v:=Sl.nil.v) ?_)))))))
   exact ⟨Sl.nil,rfl,h⟩
  ·have h:=h.2 hc2
   refine wpE_skip (th_n (eg (q0 (.func (.func 162) #[] #[(vp (some p1))]) (q0 (vp (some (p1.add 1))) ?_))))
   obtain ⟨v3,hv1,h⟩:=h
   refine q2 (vi v3) (xl (Tryz.isAgg3 _) hv1) ?_
   refine st_call (want0 rfl) (x_callm (fs:=#[]) (caps:=#[(vp (some p1))]) (args:=#[(vi 1),(vi v3)]) (args':=#[(vi 1),(vi v3),(vp (some p1))]) (by kernel_rfl) Tryz.call162 (by kernel_rfl) (by kernel_rfl)) (h.mono ?_)
   rintro e w2 ⟨aA,bJ,aB,aC,rfl,h⟩
   refine ⟨_,rfl,?_⟩
   refine st_new (O:=(.cells #[(vi aA),(vi bJ),(vu aB),(vs aC)] 75)) (fun p=>(Sl.mk (some p) 1 1).v) (want0 rfl) (x_buildSlice (vs:=#[(0,(.agg #[(vi aA),(vi bJ),(vu aB),(vs aC)]))]) (by kernel_rfl) (by kernel_rfl)) ?_
   intro p2 w3 hn1
   have h:=h p2 w3 hn1
   refine q0 ((Sl.mk (some p2) 1 1).v) (ln (er (bl_r (th_r (rs1 Tryz.results94 (v:=(Sl.mk (some p2) 1 1).v) ?_)))))
   exact ⟨(Sl.mk (some p2) 1 1),rfl,h⟩
 ·have h:=h.2 hc1
  refine eg (q0 (vb (v1 == 2)) (q0 (vb (v1 == 2)) (ln ?_)))
  refine wpE_cond (t:=(v1 == 2)) (by kernel_rfl) (fun hc3=>?_) (fun hc3=>?_)
  ·have h:=h.1 hc3
   refine eg (q0 (.func (.func 162) #[] #[(vp (some p1))]) (q0 (vp (some (p1.add 1))) ?_))
   obtain ⟨v4,hv3,h⟩:=h
   refine q2 (vi v4) (xl (Tryz.isAgg3 _) hv3) ?_
   refine st_call (want0 rfl) (x_callm (fs:=#[]) (caps:=#[(vp (some p1))]) (args:=#[(vi 2),(vi v4)]) (args':=#[(vi 2),(vi v4),(vp (some p1))]) (by kernel_rfl) Tryz.call162 (by kernel_rfl) (by kernel_rfl)) (h.mono ?_)
   rintro e w4 ⟨aT,bQ,aR,aV,rfl,h⟩
   refine ⟨_,rfl,?_⟩
   refine st_new (O:=(.cells #[(vi aT),(vi bQ),(vu aR),(vs aV)] 75)) (fun p=>(Sl.mk (some p) 1 1).v) (want0 rfl) (x_buildSlice (vs:=#[(0,(.agg #[(vi aT),(vi bQ),(vu aR),(vs aV)]))]) (by kernel_rfl) (by kernel_rfl)) ?_
   intro p3 w5 hn2
   have h:=h p3 w5 hn2
   refine q0 ((Sl.mk (some p3) 1 1).v) (ln (er (bl_r (th_r (rs1 Tryz.results94 (v:=(Sl.mk (some p3) 1 1).v) ?_)))))
   exact ⟨(Sl.mk (some p3) 1 1),rfl,h⟩
  ·have h:=h.2 hc3
   refine eg (q0 (vb (v1 == 3)) (q0 (vb (v1 == 3)) (ln ?_)))
   refine wpE_cond (t:=(v1 == 3)) (by kernel_rfl) (fun hc4=>?_) (fun hc4=>?_)
   ·have h:=h.1 hc4
    refine eg (q0 (.func (.func 162) #[] #[(vp (some p1))]) ?_)
    refine st_call (want0 rfl) (x_callm (fs:=#[]) (caps:=#[(vp (some p1))]) (args:=#[(vi 3),(vi 0)]) (args':=#[(vi 3),(vi 0),(vp (some p1))]) (by kernel_rfl) Tryz.call162 (by kernel_rfl) (by kernel_rfl)) (h.mono ?_)
    rintro e w6 ⟨bG,bR,bH,bI,rfl,h⟩
    refine ⟨_,rfl,?_⟩
    refine st_new (O:=(.cells #[(vi bG),(vi bR),(vu bH),(vs bI)] 75)) (fun p=>(Sl.mk (some p) 1 1).v) (want0 rfl) (x_buildSlice (vs:=#[(0,(.agg #[(vi bG),(vi bR),(vu bH),(vs bI)]))]) (by kernel_rfl) (by kernel_rfl)) ?_
    intro p4 w7 hn3
    have h:=h p4 w7 hn3
    refine q0 ((Sl.mk (some p4) 1 1).v) (ln (er (bl_r (th_r (rs1 Tryz.results94 (v:=(Sl.mk (some p4) 1 1).v) ?_)))))
    exact ⟨(Sl.mk (some p4) 1 1),rfl,h⟩
   ·have h:=h.2 hc4
    refine eg (q0 (vb (v1 == 4)) (q0 (vb (v1 == 4)) (ln ?_)))
    refine wpE_cond (t:=(v1 == 4)) (by kernel_rfl) (fun hc5=>?_) (fun hc5=>?_)
    ·have h:=h.1 hc5
     refine eg (q0 (.func (.func 162) #[] #[(vp (some p1))]) (q0 (vp (some (p1.add 1))) ?_))
     obtain ⟨v5,hv6,h⟩:=h
     refine q2 (vi v5) (xl (Tryz.isAgg3 _) hv6) ?_
     refine st_call (want0 rfl) (x_callm (fs:=#[]) (caps:=#[(vp (some p1))]) (args:=#[(vi 4),(vi v5)]) (args':=#[(vi 4),(vi v5),(vp (some p1))]) (by kernel_rfl) Tryz.call162 (by kernel_rfl) (by kernel_rfl)) (h.mono ?_)
     rintro e w8 ⟨bS,bT,bU,bV,rfl,h⟩
     refine ⟨_,rfl,?_⟩
     refine st_new (O:=(.cells #[(vi bS),(vi bT),(vu bU),(vs bV)] 75)) (fun p=>(Sl.mk (some p) 1 1).v) (want0 rfl) (x_buildSlice (vs:=#[(0,(.agg #[(vi bS),(vi bT),(vu bU),(vs bV)]))]) (by kernel_rfl) (by kernel_rfl)) ?_
     intro p5 w9 hn5
     have h:=h p5 w9 hn5
     refine q0 ((Sl.mk (some p5) 1 1).v) (ln (wpE_seq (eg (q0 (vp (some (p1.add 4))) ?_))))
     obtain ⟨v6,hv5,h⟩:=h
     refine q2 (vb v6) (xl (Tryz.isAgg4 _) hv5) (q0 (vb (!v6)) (ln ?_))
     refine wpE_cond (t:=(!v6)) (by kernel_rfl) (fun hc6=>?_) (fun hc6=>?_)
     ·have h:=h.1 hc6
      refine rg (q0 ((Sl.mk (some p5) 1 1).v) (q0 (.func (.func 162) #[] #[(vp (some p1))]) ?_))
      refine st_call (want0 rfl) (x_callm (fs:=#[]) (caps:=#[(vp (some p1))]) (args:=#[(vi 1),(vi 0)]) (args':=#[(vi 1),(vi 0),(vp (some p1))]) (by kernel_rfl) Tryz.call162 (by kernel_rfl) (by kernel_rfl)) (h.mono ?_)
      rintro e w10 ⟨bW,bX,bY,bZ,rfl,h⟩
      refine ⟨_,rfl,?_⟩
      refine q0 (.func (.func 162) #[] #[(vp (some p1))]) ?_
      refine st_call (want0 rfl) (x_callm (fs:=#[]) (caps:=#[(vp (some p1))]) (args:=#[(vi 1),(vi 1)]) (args':=#[(vi 1),(vi 1),(vp (some p1))]) (by kernel_rfl) Tryz.call162 (by kernel_rfl) (by kernel_rfl)) (h.mono ?_)
      rintro e w11 ⟨cC,cD,cE,cF,rfl,h⟩
      refine ⟨_,rfl,?_⟩
      refine st_new (O:=(.cells #[(vi bW),(vi bX),(vu bY),(vs bZ),(vi cC),(vi cD),(vu cE),(vs cF)] 75)) (fun p=>(Sl.mk (some p) 2 2).v) (want0 rfl) (x_buildSlice (vs:=#[(0,(.agg #[(vi bW),(vi bX),(vu bY),(vs bZ)])),(1,(.agg #[(vi cC),(vi cD),(vu cE),(vs cF)]))]) (by kernel_rfl) (by kernel_rfl)) ?_
      intro p6 w12 hn4
      have h:=h p6 w12 hn4
      obtain ⟨s1,w13,hv4,h⟩:=h
      refine st (v:=s1.v) (want0 rfl) (x_builtin (args:=#[(Sl.mk (some p5) 1 1).v,(Sl.mk (some p6) 2 2).v]) (by kernel_rfl) (fun _=>rfl) hv4) (q0 s1.v (ln (eg (q0 s1.v (q0 s1.v (ln (er (bl_r ?_))))))))
      refine th_r (rs1 Tryz.results94 (v:=s1.v) ?_)
      exact ⟨s1,rfl,h⟩
     ·have h:=h.2 hc6
      refine wpE_skip (th_n (eg (q0 ((Sl.mk (some p5) 1 1).v) (q0 ((Sl.mk (some p5) 1 1).v) (ln (er (bl_r (th_r (rs1 Tryz.results94 (v:=(Sl.mk (some p5) 1 1).v) ?_)))))))))
      exact ⟨(Sl.mk (some p5) 1 1),rfl,h⟩
    ·have h:=h.2 hc5
     refine eg (q0 (vb (v1 == 5)) (q0 (vb (v1 == 5)) (ln ?_)))
     refine wpE_cond (t:=(v1 == 5)) (by kernel_rfl) (fun hc7=>?_) (fun hc7=>?_)
     ·have h:=h.1 hc7
      refine eg (q0 (.func (.func 162) #[] #[(vp (some p1))]) ?_)
      refine st_call (want0 rfl) (x_callm (fs:=#[]) (caps:=#[(vp (some p1))]) (args:=#[(vi 5),(vi 2)]) (args':=#[(vi 5),(vi 2),(vp (some p1))]) (by kernel_rfl) Tryz.call162 (by kernel_rfl) (by kernel_rfl)) (h.mono ?_)
      rintro e w14 ⟨cG,cH,cI,cJ,rfl,h⟩
      refine ⟨_,rfl,?_⟩
      refine st_new (O:=(.cells #[(vi cG),(vi cH),(vu cI),(vs cJ)] 75)) (fun p=>(Sl.mk (some p) 1 1).v) (want0 rfl) (x_buildSlice (vs:=#[(0,(.agg #[(vi cG),(vi cH),(vu cI),(vs cJ)]))]) (by kernel_rfl) (by kernel_rfl)) ?_
      intro p7 w15 hn6
      have h:=h p7 w15 hn6
      refine q0 ((Sl.mk (some p7) 1 1).v) (ln (er (bl_r (th_r (rs1 Tryz.results94 (v:=(Sl.mk (some p7) 1 1).v) ?_)))))
      exact ⟨(Sl.mk (some p7) 1 1),rfl,h⟩
     ·have h:=h.2 hc7
      refine eg (q0 (vb (v1 == 6)) (q0 (vb (v1 == 6)) (ln ?_)))
      refine wpE_cond (t:=(v1 == 6)) (by kernel_rfl) (fun hc8=>?_) (fun hc8=>?_)
      ·have h:=h.1 hc8
       refine eg (q0 (.func (.func 162) #[] #[(vp (some p1))]) ?_)
       refine st_call (want0 rfl) (x_callm (fs:=#[]) (caps:=#[(vp (some p1))]) (args:=#[(vi 6),(vi 2)]) (args':=#[(vi 6),(vi 2),(vp (some p1))]) (by kernel_rfl) Tryz.call162 (by kernel_rfl) (by kernel_rfl)) (h.mono ?_)
       rintro e w16 ⟨cK,cL,cM,cN,rfl,h⟩
       refine ⟨_,rfl,?_⟩
       refine q0 (.func (.func 162) #[] #[(vp (some p1))]) ?_
       refine st_call (want0 rfl) (x_callm (fs:=#[]) (caps:=#[(vp (some p1))]) (args:=#[(vi 2),(vi 0)]) (args':=#[(vi 2),(vi 0),(vp (some p1))]) (by kernel_rfl) Tryz.call162 (by kernel_rfl) (by kernel_rfl)) (h.mono ?_)
       rintro e w17 ⟨cO,cP,cQ,cR,rfl,h⟩
       refine ⟨_,rfl,?_⟩
       refine q0 (.func (.func 162) #[] #[(vp (some p1))]) ?_
       refine st_call (want0 rfl) (x_callm (fs:=#[]) (caps:=#[(vp (some p1))]) (args:=#[(vi 2),(vi 1)]) (args':=#[(vi 2),(vi 1),(vp (some p1))]) (by kernel_rfl) Tryz.call162 (by kernel_rfl) (by kernel_rfl)) (h.mono ?_)
       rintro e w18 ⟨cS,cT,cU,cV,rfl,h⟩
       refine ⟨_,rfl,?_⟩
       refine st_new (O:=(.cells #[(vi cK),(vi cL),(vu cM),(vs cN),(vi cO),(vi cP),(vu cQ),(vs cR),(vi cS),(vi cT),(vu cU),(vs cV)] 75)) (fun p=>(Sl.mk (some p) 3 3).v) (want0 rfl) (x_buildSlice (vs:=#[(0,(.agg #[(vi cK),(vi cL),(vu cM),(vs cN)])),(1,(.agg #[(vi cO),(vi cP),(vu cQ),(vs cR)])),(2,(.agg #[(vi cS),(vi cT),(vu cU),(vs cV)]))]) (by kernel_rfl) (by kernel_rfl)) ?_
       intro p8 w19 hn7
       have h:=h p8 w19 hn7
       refine q0 ((Sl.mk (some p8) 3 3).v) (ln (er (bl_r (th_r (rs1 Tryz.results94 (v:=(Sl.mk (some p8) 3 3).v) ?_)))))
       exact ⟨(Sl.mk (some p8) 3 3),rfl,h⟩
      ·have h:=h.2 hc8
       refine wpE_skip (bl_n (th_n (eg (q0 Sl.nil.v (ln (er (rs1 Tryz.results94 (v:=Sl.nil.v) ?_)))))))
       exact ⟨Sl.nil,rfl,h⟩
theorem eqt_evidence_Why_eql_75 (a0 a1 a2:Int) (a3:ByteArray) (b0 b1 b2:Int) (b3:ByteArray) (w:World):(Go.binOp .eql 75 (.agg #[(.int .i64 a0),(.int .i64 a1),(.int .u64 a2),(.string a3)]) (.agg #[(.int .i64 b0),(.int .i64 b1),(.int .u64 b2),(.string b3)])).run Tryz.prog w=.ok (.bool ((a0 == b0) && ((a1 == b1) && ((a2 == b2) && (decide (a3=b3)))))) w:=by
 simp [Go.binOp,Op.equal,Op.maxDepth,go_sem,streq,bne]
 repeat' split
 all_goals simp_all
def m_F1_l1 (who1 c1:Int) (text1:ByteArray) (r2:Sl) (why1 x1:Int) (w0:World) (Hl1:NP) (wl1:World) (Kc1:Int→Int→NP→WP) (K:Int→WP):Prop :=
 Br (decide (x1<(r2.len:Int)))
  (∃a1:Addr,At r2 x1 4 a1 ∧
  ∃aJ aM aN:Int,∃aL:ByteArray,Row wl1 a1 [(vi aJ),(vi aM),(vu aN),(vs aL)] ∧
  Br (aJ != 2)
   (∀(H3:NP) (w8:World),Hst w0 Hl1 wl1 H3 w8 →
   Kc1 why1 (q6.wrap (x1+1)) H3 w8)
   (Br ((aJ == 2) && ((aM == who1) && ((aN == c1) && (decide (aL=text1)))))
    (∀(H3:NP) (w8:World),Hst w0 Hl1 wl1 H3 w8 →
    K 0 w8)
    (Br (aM != who1)
     (∀(H3:NP) (w8:World),Hst w0 Hl1 wl1 H3 w8 →
     ∃z1:Int,(Builtin.max_ #[3,3] 3 #[(vi why1),(vi 3)]).run Tryz.prog w8=.ok (vi z1) w8 ∧
     Kc1 z1 (q6.wrap (x1+1)) H3 w8)
     (Br (aN != c1)
      (∀(H3:NP) (w8:World),Hst w0 Hl1 wl1 H3 w8 →
      ∃z2:Int,(Builtin.max_ #[3,3] 3 #[(vi why1),(vi 4)]).run Tryz.prog w8=.ok (vi z2) w8 ∧
      Kc1 z2 (q6.wrap (x1+1)) H3 w8)
      (∀(H3:NP) (w8:World),Hst w0 Hl1 wl1 H3 w8 →
      ∃z3:Int,(Builtin.max_ #[3,3] 3 #[(vi why1),(vi 5)]).run Tryz.prog w8=.ok (vi z3) w8 ∧
      Kc1 z3 (q6.wrap (x1+1)) H3 w8)))))
  (K why1 wl1)
def m_F1 (p1:Option Addr) (t1 who1 c1:Int) (text1:ByteArray) (w0:World) (K:Int→WP):Prop :=
 Calls Tryz.prog 51 #[(vp p1),(vi t1)] w0 (fun e w1=>∃aA aE aB:Int,∃aC:ByteArray,∃aD r1:Bool,e=.returned (.tuple #[(.agg #[(vi aA),(vi aE),(vu aB),(vs aC),(vb aD)]),(vb r1)])∧
  Kept None w0 w1 ∧
  Br (!r1)
   (∀(H1:NP) (w3:World),Hst w0 None w1 H1 w3 →
   K 1 w3)
   (∀(H2:NP) (w5:World),Hst w0 None w1 H2 w5 →
   Calls Tryz.prog 94 #[(.agg #[(vi aA),(vi aE),(vu aB),(vs aC),(vb aD)])] w5 (fun e w6=>∃r2:Sl,e=.returned r2.v∧
    Kept H2 w5 w6 ∧
    ∃(I1:Int→Int→NP→WP) (mu1:Int→Int→World→Nat),I1 2 0 H2 w6 ∧
     ∀(why1 x1:Int) (Hl1:NP) (wl1:World),Hst w0 Hl1 wl1 Hl1 wl1→I1 why1 x1 Hl1 wl1→m_F1_l1 who1 c1 text1 r2 why1 x1 w0 Hl1 wl1 (fun y'0 y'1 H' w'=>I1 y'0 y'1 H' w'∧mu1 y'0 y'1 w'<mu1 why1 x1 wl1) K)))
theorem w_F1 (p1 : Option Addr) (t1 who1 c1 : Int) (text1 : ByteArray) (w0 : World) (K : Int → WP) (h : m_F1 p1 t1 who1 c1 text1 w0 K) :
  Calls Tryz.prog 35 #[(vp p1),(vi t1),(vi who1),(vu c1),(vs text1)] w0 (fun e w'=>∃r3:Int,e=.returned (vi r3)∧K r3 w'):=by
 unfold m_F1 at h
 refine cw (args:=[(vp p1),(vi t1),(vi who1),(vu c1),(vs text1)]) Tryz.func35 Tryz.ntmps35 ?_
 have hs:=Hst.start w0
 have hb:=HB.nil None w0
 refine eg (q0 (vi 0) (ln (eg (q0 (vp p1) (q0 (vi t1) ?_)))))
 refine sc Tryz.call51 (h.mono ?_)
 rintro e w1 ⟨aA,aE,aB,aC,aD,r1,rfl,hk,h⟩
 refine ⟨_,rfl,?_⟩
 obtain ⟨hs,hb⟩:=hk.hh hs hb
 refine q0 (.tuple #[(.agg #[(vi aA),(vi aE),(vu aB),(vs aC),(vb aD)]),(vb r1)]) (q0 (.agg #[(vi aA),(vi aE),(vu aB),(vs aC),(vb aD)]) (q0 (vb r1) (sn (O:=(.cells #[(vi 0),(vi 0),(vu 0),(vs ⟨#[]⟩),(vb false)] 35)) (x_alloc (Tryz.zeroValue35 _) rfl) ?_)))
 intro p2 w2 hn1
 obtain ⟨H1,hs,hb⟩:=hs.alloc hb hn1
 refine st_set (want0 rfl) (xo p2 [(vi aA),(vi aE),(vu aB),(vs aC),(vb aD)] (Tryz.sizeOf35 _) (hb.k0 0 5 gZ)) ?_
 intro w3 hn2
 obtain ⟨hs,hb⟩:=hb.s0 (l':=[(p2,[(vi aA),(vi aE),(vu aB),(vs aC),(vb aD)],35)]) 0 [(vi aA),(vi aE),(vu aB),(vs aC),(vb aD)] hs hn2 gZ
 refine q0 (vb r1) (ln (wpE_seq (eg (q0 (vb r1) (q0 (vb (!r1)) (ln ?_))))))
 refine wpE_cond (t:=(!r1)) (by kernel_rfl) (fun hc1=>?_) (fun hc1=>?_)
 ·have h:=h.1 hc1
  refine eg (q0 (vi 1) (ln (er (th_r ?_))))
  have h:=h H1 w3 hs
  have hs:=hs.here
  refine rs1 Tryz.results35 (v:=(vi 1)) ?_
  exact ⟨1,rfl,h⟩
 ·have h:=h.2 hc1
  refine wpE_skip (th_n (eg (q0 (vi who1) (q0 (vu c1) (q0 (vs text1) (q0 (.agg #[(vi 2),(vi who1),(vu c1),(vs text1)]) (sn (O:=(.cells #[(vi 0),(vi 0),(vu 0),(vs ⟨#[]⟩)] 75)) (x_alloc (Tryz.zeroValue75 _) rfl) ?_)))))))
  intro p3 w4 hn3
  obtain ⟨H2,hs,hb⟩:=hs.alloc hb hn3
  refine st_set (want0 rfl) (xo p3 [(vi 2),(vi who1),(vu c1),(vs text1)] (Tryz.sizeOf75 _) (hb.k0 0 4 gZ)) ?_
  intro w5 hn4
  obtain ⟨hs,hb⟩:=hb.s0 (l':=[(p3,[(vi 2),(vi who1),(vu c1),(vs text1)],75),(p2,[(vi aA),(vi aE),(vu aB),(vs aC),(vb aD)],35)]) 0 [(vi 2),(vi who1),(vu c1),(vs text1)] hs hn4 gZ
  refine ln (eg (q0 (vi 2) (ln (wpE_seq (eg (q2 (.agg #[(vi aA),(vi aE),(vu aB),(vs aC),(vb aD)]) (xa p2 [(vi aA),(vi aE),(vu aB),(vs aC),(vb aD)] (Tryz.isAgg35 _) (Tryz.sizeOf35 _) (hb.r0 1 5 (gS gZ))) ?_))))))
  have h:=h H2 w5 hs
  have hs:=hs.here
  refine sc Tryz.call94 (h.mono ?_)
  rintro e w6 ⟨r2,rfl,hk,h⟩
  refine ⟨_,rfl,?_⟩
  obtain ⟨hs,hb⟩:=hk.hh hs hb
  refine q0 (vi (r2.len:Int)) (q0 (vi 0) (ln (wpE_block ?_)))
  obtain ⟨I1,mu1,h0,hr⟩:=h
  refine wpE_loop (σ:=Int×Int×NP×World) (fun s ρ w=>w=s.2.2.2∧Has ρ [(2,(vi who1)),(3,(vu c1)),(13,(vp (some p3))),(14,(vi s.1)),(30,r2.v),(31,(vi (r2.len:Int))),(32,(vi s.2.1))]∧Hst w0 s.2.2.1 w s.2.2.1 w∧HB s.2.2.1 w [(p3,[(vi 2),(vi who1),(vu c1),(vs text1)],75),(p2,[(vi aA),(vi aE),(vu aB),(vs aC),(vb aD)],35)]∧I1 s.1 s.2.1 s.2.2.1 s.2.2.2) (fun s=>mu1 s.1 s.2.1 s.2.2.2) (2,0,H2,w6) ⟨rfl,hm,hs,hb,h0⟩ ?_
  rintro ⟨why1,x1,Hl1,wl1⟩ ρ w ⟨hw,hH,hs,hb,hI⟩
  obtain rfl:wl1=w:=(show w=wl1 from hw).symm
  have hH:Has ρ [(2,(vi who1)),(3,(vu c1)),(13,(vp (some p3))),(14,(vi why1)),(30,r2.v),(31,(vi (r2.len:Int))),(32,(vi x1))]:=hH
  have hs:Hst w0 Hl1 wl1 Hl1 wl1:=hs
  have hb:HB Hl1 wl1 [(p3,[(vi 2),(vi who1),(vu c1),(vs text1)],75),(p2,[(vi aA),(vi aE),(vu aB),(vs aC),(vb aD)],35)]:=hb
  have h:=hr why1 x1 Hl1 wl1 hs hI
  unfold m_F1_l1 at h
  refine wpE_has hH ?_
  refine eg (q0 (vb (decide (x1<(r2.len:Int)))) (ln (wpE_seq ?_)))
  refine wpE_cond (t:=(decide (x1<(r2.len:Int)))) (by kernel_rfl) (fun hc2=>?_) (fun hc2=>?_)
  ·have h:=h.1 hc2
   refine wpE_skip (th_n (wpE_seq (wpE_block (eg ?_))))
   obtain ⟨a1,hv5,h⟩:=h
   refine q2 (vp (some a1)) (xi (Tryz.runUnderlying71 _) (Tryz.sizeOf75 _) hv5) ?_
   obtain ⟨aJ,aM,aN,aL,hv4,h⟩:=h
   refine q2 (.agg #[(vi aJ),(vi aM),(vu aN),(vs aL)]) (xa a1 [(vi aJ),(vi aM),(vu aN),(vs aL)] (Tryz.isAgg75 _) (Tryz.sizeOf75 _) hv4) (sn (O:=(.cells #[(vi 0),(vi 0),(vu 0),(vs ⟨#[]⟩)] 75)) (x_alloc (Tryz.zeroValue75 _) rfl) ?_)
   intro p4 w7 hn5
   obtain ⟨H3,hs,hb⟩:=hs.alloc hb hn5
   refine st_set (want0 rfl) (xo p4 [(vi aJ),(vi aM),(vu aN),(vs aL)] (Tryz.sizeOf75 _) (hb.k0 0 4 gZ)) ?_
   intro w8 hn6
   obtain ⟨hs,hb⟩:=hb.s0 (l':=[(p4,[(vi aJ),(vi aM),(vu aN),(vs aL)],75),(p3,[(vi 2),(vi who1),(vu c1),(vs text1)],75),(p2,[(vi aA),(vi aE),(vu aB),(vs aC),(vb aD)],35)]) 0 [(vi aJ),(vi aM),(vu aN),(vs aL)] hs hn6 gZ
   refine ln (wpE_block (eg (q0 (vp (some p4)) (q2 (vi aJ) (xl (Tryz.isAgg3 _) (hb.c0 0 gZ)) (q0 (vb (aJ != 2)) (q0 (vb (aJ != 2)) (ln ?_)))))))
   refine wpE_cond (t:=(aJ != 2)) (by kernel_rfl) (fun hc3=>?_) (fun hc3=>?_)
   ·have h:=h.1 hc3
    refine wpE_skip (bl_n (bl_n (th_n (rg (q0 (vi (q6.wrap (x1+1))) (q0 (vi (q6.wrap (x1+1))) (wpL_nil ?_)))))))
    have h:=h H3 w8 hs
    have hs:=hs.here
    refine th_n ?_
    exact ⟨(why1,(q6.wrap (x1+1)),H3,w8),⟨rfl,hm,hs,hb.drop 1,h.1⟩,h.2⟩
   ·have h:=h.2 hc3
    refine eg (q2 (.agg #[(vi aJ),(vi aM),(vu aN),(vs aL)]) (xa p4 [(vi aJ),(vi aM),(vu aN),(vs aL)] (Tryz.isAgg75 _) (Tryz.sizeOf75 _) (hb.r0 0 4 gZ)) (q2 (.agg #[(vi 2),(vi who1),(vu c1),(vs text1)]) (xa p3 [(vi 2),(vi who1),(vu c1),(vs text1)] (Tryz.isAgg75 _) (Tryz.sizeOf75 _) (hb.r0 1 4 (gS gZ))) (q2 (vb ((aJ == 2) && ((aM == who1) && ((aN == c1) && (decide (aL=text1)))))) (x_aggeq (by kernel_rfl) (by kernel_rfl) (by kernel_rfl) (eqt_evidence_Why_eql_75 aJ aM aN aL 2 who1 c1 text1 _)) (q0 (vb ((aJ == 2) && ((aM == who1) && ((aN == c1) && (decide (aL=text1)))))) (ln ?_)))))
    refine wpE_cond (t:=((aJ == 2) && ((aM == who1) && ((aN == c1) && (decide (aL=text1)))))) (by kernel_rfl) (fun hc4=>?_) (fun hc4=>?_)
    ·have h:=h.1 hc4
     refine eg (q0 (vi 0) (ln (er (bl_r (bl_r (th_r (th_r (bl_r (th_r ?_)))))))))
     have h:=h H3 w8 hs
     have hs:=hs.here
     refine rs1 Tryz.results35 (v:=(vi 0)) ?_
     exact ⟨0,rfl,h⟩
    ·have h:=h.2 hc4
     refine eg (q0 (vp (some (p4.add 1))) (q2 (vi aM) (xl (Tryz.isAgg3 _) (hb.c 0 1 gZ)) (q0 (vi who1) (q0 (vb (aM != who1)) (q0 (vb (aM != who1)) (ln ?_))))))
     refine wpE_cond (t:=(aM != who1)) (by kernel_rfl) (fun hc5=>?_) (fun hc5=>?_)
     ·have h:=h.1 hc5
      refine rg (q0 (vi why1) ?_)
      have h:=h H3 w8 hs
      have hs:=hs.here
      obtain ⟨z1,hv1,h⟩:=h
      refine q2 (vi z1) (x_builtin (args:=#[(vi why1),(vi 3)]) (by kernel_rfl) (fun _=>rfl) hv1) (q0 (vi z1) (wpL_nil (bl_n (bl_n (th_n (rg (q0 (vi (q6.wrap (x1+1))) (q0 (vi (q6.wrap (x1+1))) (ln ?_)))))))))
      exact ⟨(z1,(q6.wrap (x1+1)),H3,w8),⟨rfl,hm,hs,hb.drop 1,h.1⟩,h.2⟩
     ·have h:=h.2 hc5
      refine eg (q0 (vp (some (p4.add 2))) (q2 (vu aN) (xl (Tryz.isAgg23 _) (hb.c 0 2 gZ)) (q0 (vu c1) (q0 (vb (aN != c1)) (q0 (vb (aN != c1)) (ln ?_))))))
      refine wpE_cond (t:=(aN != c1)) (by kernel_rfl) (fun hc6=>?_) (fun hc6=>?_)
      ·have h:=h.1 hc6
       refine rg (q0 (vi why1) ?_)
       have h:=h H3 w8 hs
       have hs:=hs.here
       obtain ⟨z2,hv2,h⟩:=h
       refine q2 (vi z2) (x_builtin (args:=#[(vi why1),(vi 4)]) (by kernel_rfl) (fun _=>rfl) hv2) (q0 (vi z2) (wpL_nil (bl_n (bl_n (th_n (rg (q0 (vi (q6.wrap (x1+1))) (q0 (vi (q6.wrap (x1+1))) (ln ?_)))))))))
       exact ⟨(z2,(q6.wrap (x1+1)),H3,w8),⟨rfl,hm,hs,hb.drop 1,h.1⟩,h.2⟩
      ·have h:=h.2 hc6
       refine rg (q0 (vi why1) ?_)
       have h:=h H3 w8 hs
       have hs:=hs.here
       obtain ⟨z3,hv3,h⟩:=h
       refine q2 (vi z3) (x_builtin (args:=#[(vi why1),(vi 5)]) (by kernel_rfl) (fun _=>rfl) hv3) (q0 (vi z3) (wpL_nil (bl_n (bl_n (th_n (rg (q0 (vi (q6.wrap (x1+1))) (q0 (vi (q6.wrap (x1+1))) (ln ?_)))))))))
       exact ⟨(z3,(q6.wrap (x1+1)),H3,w8),⟨rfl,hm,hs,hb.drop 1,h.1⟩,h.2⟩
  ·have h:=h.2 hc2
   refine wpE_exit (th_x (th_x (bl_eq (th_n (eg (q0 (vi why1) (q0 (vi why1) (ln (er ?_)))))))))
   refine rs1 Tryz.results35 (v:=(vi why1)) ?_
   exact ⟨why1,rfl,h⟩
def m_J3 (p1:Option Addr) (t1 who1 c1:Int) (text1:ByteArray) (w0:World) (K:Bool→WP):Prop :=
 Calls Tryz.prog 35 #[(vp p1),(vi t1),(vi who1),(vu c1),(vs text1)] w0 (fun e w1=>∃r1:Int,e=.returned (vi r1)∧
  K (r1 == 0) w1)
theorem w_J3 (p1 : Option Addr) (t1 who1 c1 : Int) (text1 : ByteArray) (w0 : World) (K : Bool → WP) (h : m_J3 p1 t1 who1 c1 text1 w0 K) :
  Calls Tryz.prog 45 #[(vp p1),(vi t1),(vi who1),(vu c1),(vs text1)] w0 (fun e w'=>∃r2:Bool,e=.returned (vb r2)∧K r2 w'):=by
 unfold m_J3 at h
 refine cw (args:=[(vp p1),(vi t1),(vi who1),(vu c1),(vs text1)]) Tryz.func45 Tryz.ntmps45 (eg (q0 (vb false) (ln (eg (q0 (vp p1) (q0 (vi t1) (q0 (vi who1) (q0 (vu c1) ?_))))))))
 refine q0 (vs text1) ?_
 refine sc Tryz.call35 (h.mono ?_)
 rintro e w1 ⟨r1,rfl,h⟩
 refine ⟨_,rfl,?_⟩
 refine q0 (vb (r1 == 0)) (q0 (vb (r1 == 0)) (ln (er (rs1 Tryz.results45 (v:=(vb (r1 == 0))) ?_))))
 exact ⟨(r1 == 0),rfl,h⟩
def m_K3 (p1:Option Addr) (t1:Int) (w0:World) (K:Sl→WP):Prop :=
 Calls Tryz.prog 51 #[(vp p1),(vi t1)] w0 (fun e w1=>∃aA aE aB:Int,∃aC:ByteArray,∃aD r1:Bool,e=.returned (.tuple #[(.agg #[(vi aA),(vi aE),(vu aB),(vs aC),(vb aD)]),(vb r1)])∧
  Kept None w0 w1 ∧
  Br (!r1)
   (∀(H1:NP) (w3:World),Hst w0 None w1 H1 w3 →
   K Sl.nil w3)
   (∀(H1:NP) (w3:World),Hst w0 None w1 H1 w3 →
   Calls Tryz.prog 94 #[(.agg #[(vi aA),(vi aE),(vu aB),(vs aC),(vb aD)])] w3 (fun e w4=>∃r2:Sl,e=.returned r2.v∧
    Kept H1 w3 w4 ∧
    K r2 w4)))
theorem w_K3 (p1 : Option Addr) (t1 : Int) (w0 : World) (K : Sl → WP) (h : m_K3 p1 t1 w0 K) :
  Calls Tryz.prog 34 #[(vp p1),(vi t1)] w0 (fun e w'=>∃r3:Sl,e=.returned r3.v∧K r3 w'):=by
 unfold m_K3 at h
 refine cw (args:=[(vp p1),(vi t1)]) Tryz.func34 Tryz.ntmps34 ?_
 have hs:=Hst.start w0
 have hb:=HB.nil None w0
 refine eg (q0 Sl.nil.v (ln (eg (q0 (vp p1) (q0 (vi t1) ?_)))))
 refine sc Tryz.call51 (h.mono ?_)
 rintro e w1 ⟨aA,aE,aB,aC,aD,r1,rfl,hk,h⟩
 refine ⟨_,rfl,?_⟩
 obtain ⟨hs,hb⟩:=hk.hh hs hb
 refine q0 (.tuple #[(.agg #[(vi aA),(vi aE),(vu aB),(vs aC),(vb aD)]),(vb r1)]) (q0 (.agg #[(vi aA),(vi aE),(vu aB),(vs aC),(vb aD)]) (q0 (vb r1) (sn (O:=(.cells #[(vi 0),(vi 0),(vu 0),(vs ⟨#[]⟩),(vb false)] 35)) (x_alloc (Tryz.zeroValue35 _) rfl) ?_)))
 intro p2 w2 hn1
 obtain ⟨H1,hs,hb⟩:=hs.alloc hb hn1
 refine st_set (want0 rfl) (xo p2 [(vi aA),(vi aE),(vu aB),(vs aC),(vb aD)] (Tryz.sizeOf35 _) (hb.k0 0 5 gZ)) ?_
 intro w3 hn2
 obtain ⟨hs,hb⟩:=hb.s0 (l':=[(p2,[(vi aA),(vi aE),(vu aB),(vs aC),(vb aD)],35)]) 0 [(vi aA),(vi aE),(vu aB),(vs aC),(vb aD)] hs hn2 gZ
 refine q0 (vb r1) (ln (wpE_seq (eg (q0 (vb r1) (q0 (vb (!r1)) (ln ?_))))))
 refine wpE_cond (t:=(!r1)) (by kernel_rfl) (fun hc1=>?_) (fun hc1=>?_)
 ·have h:=h.1 hc1
  refine eg (q0 Sl.nil.v (ln (er (th_r ?_))))
  have h:=h H1 w3 hs
  have hs:=hs.here
  refine rs1 Tryz.results34 (v:=Sl.nil.v) ?_
  exact ⟨Sl.nil,rfl,h⟩
 ·have h:=h.2 hc1
  refine wpE_skip (th_n (eg (q2 (.agg #[(vi aA),(vi aE),(vu aB),(vs aC),(vb aD)]) (xa p2 [(vi aA),(vi aE),(vu aB),(vs aC),(vb aD)] (Tryz.isAgg35 _) (Tryz.sizeOf35 _) (hb.r0 0 5 gZ)) ?_)))
  have h:=h H1 w3 hs
  have hs:=hs.here
  refine sc Tryz.call94 (h.mono ?_)
  rintro e w4 ⟨r2,rfl,hk,h⟩
  refine ⟨_,rfl,?_⟩
  obtain ⟨hs,hb⟩:=hk.hh hs hb
  refine q0 r2.v (ln (er (rs1 Tryz.results34 (v:=r2.v) ?_)))
  exact ⟨r2,rfl,h⟩
def m_U_l2 (p1:Option Addr) (r3 out1:Sl) (x2:Int) (wl2:World) (Kc2:Sl→Int→WP) (K:Sl→WP):Prop :=
 Br (decide (x2<(r3.len:Int)))
  (∃a2:Addr,At r3 x2 1 a2 ∧
  ∃v2:Int,wl2.cell? a2=some (vi v2) ∧
  Calls Tryz.prog 34 #[(vp p1),(vi v2)] wl2 (fun e w4=>∃r4:Sl,e=.returned r4.v∧
   ∃s1:Sl,∃w5:World,(Builtin.append_ #[71,71] 71 #[out1.v,r4.v]).run Tryz.prog w4=.ok s1.v w5 ∧
   Kc2 s1 (q6.wrap (x2+1)) w5))
  (Calls Tryz.prog 81 #[out1.v,(.func (.func 28) #[] #[])] wl2 (fun e w6=>e=.returned (.tuple #[])∧
   Calls Tryz.prog 82 #[out1.v] w6 (fun e w7=>∃r5:Sl,e=.returned r5.v∧
    K r5 w7)))
def m_U_l1 (p1:Option Addr) (l1:Sl) (r1:Option Addr) (x1:Int) (wl1:World) (Kc1:Int→WP) (K:Sl→WP):Prop :=
 Br (decide (x1<(l1.len:Int)))
  (∃a1:Addr,At l1 x1 1 a1 ∧
  ∃v1:Int,wl1.cell? a1=some (vi v1) ∧
  Calls Tryz.prog 79 #[(vp r1),(vi v1)] wl1 (fun e w2=>∃r2:Int,e=.returned (vi r2)∧
   Kc1 (q6.wrap (x1+1)) w2))
  (Calls Tryz.prog 80 #[(vp r1)] wl1 (fun e w3=>∃r3:Sl,e=.returned r3.v∧
   ∃(I2:Sl→Int→WP) (mu2:Sl→Int→World→Nat),I2 Sl.nil 0 w3 ∧
    ∀(out1:Sl) (x2:Int) (wl2:World),I2 out1 x2 wl2→m_U_l2 p1 r3 out1 x2 wl2 (fun y'0 y'1 w'=>I2 y'0 y'1 w'∧mu2 y'0 y'1 w'<mu2 out1 x2 wl2) K))
def m_U (p1:Option Addr) (l1:Sl) (w0:World) (K:Sl→WP):Prop :=
 Calls Tryz.prog 62 #[(vp p1)] w0 (fun e w1=>∃r1:Option Addr,e=.returned (vp r1)∧
  ∃(I1:Int→WP) (mu1:Int→World→Nat),I1 0 w1 ∧
   ∀(x1:Int) (wl1:World),I1 x1 wl1→m_U_l1 p1 l1 r1 x1 wl1 (fun y'0 w'=>I1 y'0 w'∧mu1 y'0 w'<mu1 x1 wl1) K)
theorem w_U (p1 : Option Addr) (l1 : Sl) (w0 : World) (K : Sl → WP) (h : m_U p1 l1 w0 K) :
  Calls Tryz.prog 26 #[(vp p1),l1.v] w0 (fun e w'=>∃r6:Sl,e=.returned r6.v∧K r6 w'):=by
 unfold m_U at h
 refine cw (args:=[(vp p1),l1.v]) Tryz.func26 Tryz.ntmps26 (eg (q0 Sl.nil.v (ln (eg (q0 (vp p1) ?_)))))
 refine sc Tryz.call62 (h.mono ?_)
 rintro e w1 ⟨r1,rfl,h⟩
 refine ⟨_,rfl,?_⟩
 refine q0 (vp r1) (ln (wpE_seq (eg (q0 l1.v (q0 (vi (l1.len:Int)) (q0 (vi 0) (ln (wpE_block ?_))))))))
 obtain ⟨I1,mu1,h0,hr⟩:=h
 refine wpE_loop (σ:=Int×World) (fun s ρ w=>w=s.2∧Has ρ [(0,(vp p1)),(5,(vp r1)),(13,l1.v),(14,(vi (l1.len:Int))),(15,(vi s.1))]∧I1 s.1 s.2) (fun s=>mu1 s.1 s.2) (0,w1) ⟨rfl,hm,h0⟩ ?_
 rintro ⟨x1,wl1⟩ ρ w ⟨hw,hH,hI⟩
 obtain rfl:wl1=w:=(show w=wl1 from hw).symm
 have hH:Has ρ [(0,(vp p1)),(5,(vp r1)),(13,l1.v),(14,(vi (l1.len:Int))),(15,(vi x1))]:=hH
 have h:=hr x1 wl1 hI
 unfold m_U_l1 at h
 refine wpE_has hH ?_
 refine eg (q0 (vb (decide (x1<(l1.len:Int)))) (ln (wpE_seq ?_)))
 refine wpE_cond (t:=(decide (x1<(l1.len:Int)))) (by kernel_rfl) (fun hc1=>?_) (fun hc1=>?_)
 ·have h:=h.1 hc1
  refine wpE_skip (th_n (wpE_seq (wpE_block (eg ?_))))
  obtain ⟨a1,hv2,h⟩:=h
  refine q2 (vp (some a1)) (xi (Tryz.runUnderlying46 _) (Tryz.sizeOf78 _) hv2) ?_
  obtain ⟨v1,hv1,h⟩:=h
  refine q2 (vi v1) (xl (Tryz.isAgg78 _) hv1) (q0 (vi v1) (ln (rg (q0 (vp r1) (q0 (vi v1) ?_)))))
  refine sc Tryz.call79 (h.mono ?_)
  rintro e w2 ⟨r2,rfl,h⟩
  refine ⟨_,rfl,?_⟩
  refine wpL_nil (bl_n (th_n (rg (q0 (vi (q6.wrap (x1+1))) (q0 (vi (q6.wrap (x1+1))) (ln ?_))))))
  exact ⟨((q6.wrap (x1+1)),w2),⟨rfl,hm,h.1⟩,h.2⟩
 ·have h:=h.2 hc1
  refine wpE_exit (th_x (th_x (bl_eq (th_n (eg (q0 Sl.nil.v (ln (wpE_seq (wpE_seq ?_)))))))))
  refine rg (q0 (vp r1) ?_)
  refine sc Tryz.call80 (h.mono ?_)
  rintro e w3 ⟨r3,rfl,h⟩
  refine ⟨_,rfl,?_⟩
  refine q0 (vi (r3.len:Int)) (q0 (vi 0) (ln (wpE_block ?_)))
  obtain ⟨I2,mu2,h0,hr⟩:=h
  refine wpE_loop (σ:=Sl×Int×World) (fun s ρ w=>w=s.2.2∧Has ρ [(0,(vp p1)),(8,s.1.v),(24,r3.v),(25,(vi (r3.len:Int))),(26,(vi s.2.1))]∧I2 s.1 s.2.1 s.2.2) (fun s=>mu2 s.1 s.2.1 s.2.2) (Sl.nil,0,w3) ⟨rfl,hm,h0⟩ ?_
  rintro ⟨out1,x2,wl2⟩ ρ w ⟨hw,hH,hI⟩
  obtain rfl:wl2=w:=(show w=wl2 from hw).symm
  have hH:Has ρ [(0,(vp p1)),(8,out1.v),(24,r3.v),(25,(vi (r3.len:Int))),(26,(vi x2))]:=hH
  have h:=hr out1 x2 wl2 hI
  unfold m_U_l2 at h
  refine wpE_has hH ?_
  refine eg (q0 (vb (decide (x2<(r3.len:Int)))) (ln (wpE_seq ?_)))
  refine wpE_cond (t:=(decide (x2<(r3.len:Int)))) (by kernel_rfl) (fun hc2=>?_) (fun hc2=>?_)
  ·have h:=h.1 hc2
   refine wpE_skip (th_n (wpE_seq (wpE_block (eg ?_))))
   obtain ⟨a2,hv5,h⟩:=h
   refine q2 (vp (some a2)) (xi (Tryz.runUnderlying46 _) (Tryz.sizeOf78 _) hv5) ?_
   obtain ⟨v2,hv4,h⟩:=h
   refine q2 (vi v2) (xl (Tryz.isAgg78 _) hv4) (q0 (vi v2) (ln (rg (q0 out1.v (q0 (vp p1) (q0 (vi v2) ?_))))))
   refine sc Tryz.call34 (h.mono ?_)
   rintro e w4 ⟨r4,rfl,h⟩
   refine ⟨_,rfl,?_⟩
   obtain ⟨s1,w5,hv3,h⟩:=h
   refine st (v:=s1.v) (want0 rfl) (x_builtin (args:=#[out1.v,r4.v]) (by kernel_rfl) (fun _=>rfl) hv3) (q0 s1.v (wpL_nil (bl_n (th_n (rg (q0 (vi (q6.wrap (x2+1))) (q0 (vi (q6.wrap (x2+1))) (ln ?_))))))))
   exact ⟨(s1,(q6.wrap (x2+1)),w5),⟨rfl,hm,h.1⟩,h.2⟩
  ·have h:=h.2 hc2
   refine wpE_exit (th_x (th_x (bl_eq (th_n (eg (q0 out1.v ?_))))))
   refine sc Tryz.call81 (h.mono ?_)
   rintro e w6 ⟨rfl,h⟩
   refine ⟨_,rfl,?_⟩
   refine ln (eg (q0 out1.v ?_))
   refine sc Tryz.call82 (h.mono ?_)
   rintro e w7 ⟨r5,rfl,h⟩
   refine ⟨_,rfl,?_⟩
   refine q0 r5.v (ln (er (rs1 Tryz.results26 (v:=r5.v) ?_)))
   exact ⟨r5,rfl,h⟩
def m_K_j4 (r1:Option Addr) (r12:Int) (x4:Bool) (H:NP) (w:World) (K:Bool→WP):Prop :=
 Br x4
  (∀(p2:Addr) (w24:World),New w (.cells #[(vi r12)] 78) p2 w24 →
  Calls Tryz.prog 26 #[(vp r1),(Sl.mk (some p2) 1 1).v] w24 (fun e w25=>∃r15:Sl,e=.returned r15.v∧
   Kept H w24 w25 ∧
   K (((r15.len:Int):Int) == 3) w25))
  (K false w)
def m_K_j3 (r1:Option Addr) (r6 r12:Int) (x3:Bool) (H:NP) (w:World) (K:Bool→WP):Prop :=
 Br x3
  (Calls Tryz.prog 34 #[(vp r1),(vi r6)] w (fun e w26=>∃r16:Sl,e=.returned r16.v∧
   Kept H w w26 ∧
   m_K_j4 r1 r12 (((r16.len:Int):Int) == 3) H w26 K))
  (m_K_j4 r1 r12 false H w K)
def m_K_j2 (r1:Option Addr) (r2 r6 r12:Int) (x2:Bool) (H:NP) (w:World) (K:Bool→WP):Prop :=
 Br x2
  (Calls Tryz.prog 35 #[(vp r1),(vi r2),(vi 0),(vu 7),(vs (⟨#[120]⟩:ByteArray))] w (fun e w27=>∃r17:Int,e=.returned (vi r17)∧
   Kept H w w27 ∧
   m_K_j3 r1 r6 r12 (r17 == 2) H w27 K))
  (m_K_j3 r1 r6 r12 false H w K)
def m_K_j1 (r1:Option Addr) (r2 r6 r12:Int) (x1:Bool) (H:NP) (w:World) (K:Bool→WP):Prop :=
 Br x1
  (Calls Tryz.prog 45 #[(vp r1),(vi r2),(vi 0),(vu 7),(vs (⟨#[120]⟩:ByteArray))] w (fun e w28=>∃r18:Bool,e=.returned (vb r18)∧
   Kept H w w28 ∧
   m_K_j2 r1 r2 r6 r12 (!r18) H w28 K))
  (m_K_j2 r1 r2 r6 r12 false H w K)
def m_K  (w0:World) (K:Bool→WP):Prop :=
 Calls Tryz.prog 61 #[] w0 (fun e w1=>∃r1:Option Addr,e=.returned (vp r1)∧
  Kept None w0 w1 ∧
  Br (Option.isNone r1)
   (K false w1)
   (Calls Tryz.prog 76 #[(vp r1),(.agg #[(vi 1),(vi 0),(vu 7),(vs (⟨#[120]⟩:ByteArray)),(vb false)])] w1 (fun e w2=>∃r2 r3:Int,e=.returned (.tuple #[(vi r2),(vi r3)])∧
    Kept None w1 w2 ∧
    Calls Tryz.prog 76 #[(vp r1),(.agg #[(vi 1),(vi 1),(vu 7),(vs (⟨#[120]⟩:ByteArray)),(vb false)])] w2 (fun e w3=>∃r4 r5:Int,e=.returned (.tuple #[(vi r4),(vi r5)])∧
     Kept None w2 w3 ∧
     Calls Tryz.prog 32 #[(vp r1),(vi r2),(vi r4)] w3 (fun e w4=>∃r6 r7:Int,e=.returned (.tuple #[(vi r6),(vi r7)])∧
      Kept None w3 w4 ∧
      Calls Tryz.prog 32 #[(vp r1),(vi r2),(vi r2)] w4 (fun e w5=>∃r8 r9:Int,e=.returned (.tuple #[(vi r8),(vi r9)])∧
       Kept None w4 w5 ∧
       Calls Tryz.prog 32 #[(vp r1),(vi r2),(vi r6)] w5 (fun e w6=>∃r10 r11:Int,e=.returned (.tuple #[(vi r10),(vi r11)])∧
        Kept None w5 w6 ∧
        Calls Tryz.prog 33 #[(vp r1),(vi 1),(vi r2),(vi r4)] w6 (fun e w7=>∃r12 r13:Int,e=.returned (.tuple #[(vi r12),(vi r13)])∧
         Kept None w6 w7 ∧
         Calls Tryz.prog 51 #[(vp r1),(vi r12)] w7 (fun e w8=>∃aA aE aB:Int,∃aC:ByteArray,∃aD r14:Bool,e=.returned (.tuple #[(.agg #[(vi aA),(vi aE),(vu aB),(vs aC),(vb aD)]),(vb r14)])∧
          Kept None w7 w8 ∧
          ∀y1:Bool,y1=((((r7 == 0) && (r9 == 122)) && (r11 == 120)) && (r13 == 0)) →
          Br (((y1 && r14) && (aA == 4)) && (aE == 1))
           (∀(H7:NP) (w23:World),Hst w0 None w8 H7 w23 →
           Calls Tryz.prog 45 #[(vp r1),(vi r6),(vi 0),(vu 7),(vs (⟨#[120]⟩:ByteArray))] w23 (fun e w29=>∃r19:Bool,e=.returned (vb r19)∧
            Kept H7 w23 w29 ∧
            m_K_j1 r1 r2 r6 r12 r19 H7 w29 K))
           (∀(H7:NP) (w23:World),Hst w0 None w8 H7 w23 →
           m_K_j1 r1 r2 r6 r12 false H7 w23 K))))))))))
theorem w_K  (w0 : World) (K : Bool → WP) (h : m_K  w0 K) :
  Calls Tryz.prog 24 #[] w0 (fun e w'=>∃r20:Bool,e=.returned (vb r20)∧K r20 w'):=by
 unfold m_K at h
 refine cw (args:=[]) Tryz.func24 Tryz.ntmps24 ?_
 have hs:=Hst.start w0
 have hb:=HB.nil None w0
 refine eg (q0 (vb false) (ln (eg ?_)))
 refine sc Tryz.call61 (h.mono ?_)
 rintro e w1 ⟨r1,rfl,hk,h⟩
 refine ⟨_,rfl,?_⟩
 obtain ⟨hs,hb⟩:=hk.hh hs hb
 refine q0 (vp r1) (ln (wpE_seq (eg (q0 (vp r1) (q2 (vb (Option.isNone r1)) (x_ptreq (by kernel_rfl) rfl Tryz.underlying68) (ln ?_))))))
 refine wpE_cond (t:=(Option.isNone r1)) (by kernel_rfl) (fun hc1=>?_) (fun hc1=>?_)
 ·have h:=h.1 hc1
  refine eg (q0 (vb false) (ln (er (th_r (rs1 Tryz.results24 (v:=(vb false)) ?_)))))
  exact ⟨false,rfl,h⟩
 ·have h:=h.2 hc1
  refine wpE_skip (th_n (eg (q0 (vp r1) (q0 (.agg #[(vi 1),(vi 0),(vu 7),(vs (⟨#[120]⟩:ByteArray)),(vb false)]) ?_))))
  refine sc Tryz.call76 (h.mono ?_)
  rintro e w2 ⟨r2,r3,rfl,hk,h⟩
  refine ⟨_,rfl,?_⟩
  obtain ⟨hs,hb⟩:=hk.hh hs hb
  refine q0 (.tuple #[(vi r2),(vi r3)]) (q0 (vi r2) (q0 (vi r3) (q0 (vi r2) (q0 (vi r3) (ln (eg (q0 (vp r1) (q0 (.agg #[(vi 1),(vi 1),(vu 7),(vs (⟨#[120]⟩:ByteArray)),(vb false)]) ?_))))))))
  refine sc Tryz.call76 (h.mono ?_)
  rintro e w3 ⟨r4,r5,rfl,hk,h⟩
  refine ⟨_,rfl,?_⟩
  obtain ⟨hs,hb⟩:=hk.hh hs hb
  refine q0 (.tuple #[(vi r4),(vi r5)]) (q0 (vi r4) (q0 (vi r5) (q0 (vi r4) (q0 (vi r5) (ln (eg (q0 (vp r1) (q0 (vi r2) (q0 (vi r4) ?_)))))))))
  refine sc Tryz.call32 (h.mono ?_)
  rintro e w4 ⟨r6,r7,rfl,hk,h⟩
  refine ⟨_,rfl,?_⟩
  obtain ⟨hs,hb⟩:=hk.hh hs hb
  refine q0 (.tuple #[(vi r6),(vi r7)]) (q0 (vi r6) (q0 (vi r7) (q0 (vi r6) (q0 (vi r7) (ln (eg (q0 (vp r1) (q0 (vi r2) (q0 (vi r2) ?_)))))))))
  refine sc Tryz.call32 (h.mono ?_)
  rintro e w5 ⟨r8,r9,rfl,hk,h⟩
  refine ⟨_,rfl,?_⟩
  obtain ⟨hs,hb⟩:=hk.hh hs hb
  refine q0 (.tuple #[(vi r8),(vi r9)]) (q0 (vi r8) (q0 (vi r9) (q0 (vi r8) (q0 (vi r9) (ln (eg (q0 (vp r1) (q0 (vi r2) (q0 (vi r6) ?_)))))))))
  refine sc Tryz.call32 (h.mono ?_)
  rintro e w6 ⟨r10,r11,rfl,hk,h⟩
  refine ⟨_,rfl,?_⟩
  obtain ⟨hs,hb⟩:=hk.hh hs hb
  refine q0 (.tuple #[(vi r10),(vi r11)]) (q0 (vi r10) (q0 (vi r11) (q0 (vi r10) (q0 (vi r11) (ln (eg (q0 (vp r1) (q0 (vi r2) (q0 (vi r4) ?_)))))))))
  refine sc Tryz.call33 (h.mono ?_)
  rintro e w7 ⟨r12,r13,rfl,hk,h⟩
  refine ⟨_,rfl,?_⟩
  obtain ⟨hs,hb⟩:=hk.hh hs hb
  refine q0 (.tuple #[(vi r12),(vi r13)]) (q0 (vi r12) (q0 (vi r13) (q0 (vi r12) (q0 (vi r13) (ln (eg (q0 (vp r1) (q0 (vi r12) ?_))))))))
  refine sc Tryz.call51 (h.mono ?_)
  rintro e w8 ⟨aA,aE,aB,aC,aD,r14,rfl,hk,h⟩
  refine ⟨_,rfl,?_⟩
  obtain ⟨hs,hb⟩:=hk.hh hs hb
  refine q0 (.tuple #[(.agg #[(vi aA),(vi aE),(vu aB),(vs aC),(vb aD)]),(vb r14)]) (q0 (.agg #[(vi aA),(vi aE),(vu aB),(vs aC),(vb aD)]) (q0 (vb r14) (sn (O:=(.cells #[(vi 0),(vi 0),(vu 0),(vs ⟨#[]⟩),(vb false)] 35)) (x_alloc (Tryz.zeroValue35 _) rfl) ?_)))
  intro p1 w9 hn1
  obtain ⟨H1,hs,hb⟩:=hs.alloc hb hn1
  refine st_set (want0 rfl) (xo p1 [(vi aA),(vi aE),(vu aB),(vs aC),(vb aD)] (Tryz.sizeOf35 _) (hb.k0 0 5 gZ)) ?_
  intro w10 hn2
  obtain ⟨hs,hb⟩:=hb.s0 (l':=[(p1,[(vi aA),(vi aE),(vu aB),(vs aC),(vb aD)],35)]) 0 [(vi aA),(vi aE),(vu aB),(vs aC),(vb aD)] hs hn2 gZ
  refine q0 (vb r14) (ln (eg (q0 (vi r7) ?_)))
  refine sc Tryz.call36 ((p_S1 r7 w10).mono ?_)
  rintro e w11 ⟨he,hE⟩
  refine ⟨(vi r7),he.trans (by kernel_rfl),?_⟩
  have hs:=hs.pure hE
  have hb:=hb.pure hE
  refine q0 (vb (r7 == 0)) (q0 (vb (r7 == 0)) ?_)
  refine wpL_join 4 (fun ρ wJ=>∃b1'0:Bool,∃HJ:NP,((r7 == 0)=b1'0)∧Hst w0 None w8 HJ wJ∧HB HJ wJ [(p1,[(vi aA),(vi aE),(vu aB),(vs aC),(vb aD)],35)]∧Has ρ [(1,(vp r1)),(2,(vi r2)),(6,(vi r6)),(11,(vi r11)),(12,(vi r12)),(13,(vi r13)),(14,(vp (some p1))),(15,(vb r14)),(72,(vb (b1'0 && (r9 == 122))))]) ?_ ?_
  ·rintro ρ w13 ⟨b1'0,H2,he0,hs,hb,hH⟩
   subst he0
   refine wpL_has hH ?_
   refine q0 (vb ((r7 == 0) && (r9 == 122))) ?_
   refine wpL_join 4 (fun ρ wJ=>∃b2'0:Bool,∃HJ:NP,(((r7 == 0) && (r9 == 122))=b2'0)∧Hst w0 None w8 HJ wJ∧HB HJ wJ [(p1,[(vi aA),(vi aE),(vu aB),(vs aC),(vb aD)],35)]∧Has ρ [(1,(vp r1)),(2,(vi r2)),(6,(vi r6)),(12,(vi r12)),(13,(vi r13)),(14,(vp (some p1))),(15,(vb r14)),(77,(vb (b2'0 && (r11 == 120))))]) ?_ ?_
   ·rintro ρ w16 ⟨b2'0,H3,he0,hs,hb,hH⟩
    subst he0
    refine wpL_has hH ?_
    refine q0 (vb (((r7 == 0) && (r9 == 122)) && (r11 == 120))) ?_
    refine wpL_join 4 (fun ρ wJ=>∃b3'0 y1:Bool,∃HJ:NP,((((r7 == 0) && (r9 == 122)) && (r11 == 120))=b3'0)∧(y1=(b3'0 && (r13 == 0)))∧Hst w0 None w8 HJ wJ∧HB HJ wJ [(p1,[(vi aA),(vi aE),(vu aB),(vs aC),(vb aD)],35)]∧Has ρ [(1,(vp r1)),(2,(vi r2)),(6,(vi r6)),(12,(vi r12)),(14,(vp (some p1))),(15,(vb r14)),(82,(vb y1))]) ?_ ?_
    ·rintro ρ w19 ⟨b3'0,y1,H4,he0,hy1,hs,hb,hH⟩
     subst he0
     have h:=h y1 hy1
     refine wpL_has hH ?_
     refine q0 (vb y1) ?_
     refine wpL_join 2 (fun ρ wJ=>∃b4'0:Bool,∃HJ:NP,(y1=b4'0)∧Hst w0 None w8 HJ wJ∧HB HJ wJ [(p1,[(vi aA),(vi aE),(vu aB),(vs aC),(vb aD)],35)]∧Has ρ [(1,(vp r1)),(2,(vi r2)),(6,(vi r6)),(12,(vi r12)),(14,(vp (some p1))),(85,(vb (b4'0 && r14)))]) ?_ ?_
     ·rintro ρ w21 ⟨b4'0,H5,he0,hs,hb,hH⟩
      subst he0
      refine wpL_has hH ?_
      refine q0 (vb (y1 && r14)) ?_
      refine wpL_join 4 (fun ρ wJ=>∃b5'0:Bool,∃HJ:NP,((y1 && r14)=b5'0)∧Hst w0 None w8 HJ wJ∧HB HJ wJ [(p1,[(vi aA),(vi aE),(vu aB),(vs aC),(vb aD)],35)]∧Has ρ [(1,(vp r1)),(2,(vi r2)),(6,(vi r6)),(12,(vi r12)),(14,(vp (some p1))),(90,(vb (b5'0 && (aA == 4))))]) ?_ ?_
      ·rintro ρ w22 ⟨b5'0,H6,he0,hs,hb,hH⟩
       subst he0
       refine wpL_has hH ?_
       refine q0 (vb ((y1 && r14) && (aA == 4))) ?_
       refine wpL_join 4 (fun ρ wJ=>∃b6'0:Bool,∃HJ:NP,(((y1 && r14) && (aA == 4))=b6'0)∧Hst w0 None w8 HJ wJ∧HB HJ wJ [(p1,[(vi aA),(vi aE),(vu aB),(vs aC),(vb aD)],35)]∧Has ρ [(1,(vp r1)),(2,(vi r2)),(6,(vi r6)),(12,(vi r12)),(95,(vb (b6'0 && (aE == 1))))]) ?_ ?_
       ·rintro ρ w23 ⟨b6'0,H7,he0,hs,hb,hH⟩
        subst he0
        refine wpL_has hH ?_
        refine q0 (vb (((y1 && r14) && (aA == 4)) && (aE == 1))) ?_
        refine wpL_join 4 (fun ρ w=>∃x1:Bool,∃H:NP,Has ρ [(1,(vp r1)),(2,(vi r2)),(6,(vi r6)),(12,(vi r12)),(100,(vb x1))]∧Hst w0 H w H w∧HB H w [(p1,[(vi aA),(vi aE),(vu aB),(vs aC),(vb aD)],35)]∧m_K_j1 r1 r2 r6 r12 x1 H w K) ?_ ?_
        ·rintro ρ w ⟨x1,H,hH,hs,hb,h⟩
         unfold m_K_j1 at h
         refine wpL_has hH ?_
         refine q0 (vb x1) ?_
         refine wpL_join 5 (fun ρ w=>∃x2:Bool,∃H:NP,Has ρ [(1,(vp r1)),(2,(vi r2)),(6,(vi r6)),(12,(vi r12)),(106,(vb x2))]∧Hst w0 H w H w∧HB H w [(p1,[(vi aA),(vi aE),(vu aB),(vs aC),(vb aD)],35)]∧m_K_j2 r1 r2 r6 r12 x2 H w K) ?_ ?_
         ·rintro ρ w ⟨x2,H,hH,hs,hb,h⟩
          unfold m_K_j2 at h
          refine wpL_has hH ?_
          refine q0 (vb x2) ?_
          refine wpL_join 5 (fun ρ w=>∃x3:Bool,∃H:NP,Has ρ [(1,(vp r1)),(6,(vi r6)),(12,(vi r12)),(112,(vb x3))]∧Hst w0 H w H w∧HB H w [(p1,[(vi aA),(vi aE),(vu aB),(vs aC),(vb aD)],35)]∧m_K_j3 r1 r6 r12 x3 H w K) ?_ ?_
          ·rintro ρ w ⟨x3,H,hH,hs,hb,h⟩
           unfold m_K_j3 at h
           refine wpL_has hH ?_
           refine q0 (vb x3) ?_
           refine wpL_join 6 (fun ρ w=>∃x4:Bool,∃H:NP,Has ρ [(1,(vp r1)),(12,(vi r12)),(119,(vb x4))]∧Hst w0 H w H w∧HB H w [(p1,[(vi aA),(vi aE),(vu aB),(vs aC),(vb aD)],35)]∧m_K_j4 r1 r12 x4 H w K) ?_ ?_
           ·rintro ρ w ⟨x4,H,hH,hs,hb,h⟩
            unfold m_K_j4 at h
            refine wpL_has hH ?_
            refine q0 (vb x4) ?_
            rcases Bool.eq_false_or_eq_true x4 with hg13 | hg13
            ·have h:=h.1 hg13
             refine q1 (vp r1) (wy 120 hg13) (q1 (vi r12) (wy 120 hg13) (st_new (O:=(.cells #[(vi r12)] 78)) (fun p=>(Sl.mk (some p) 1 1).v) (wy 120 hg13) (x_buildSlice (vs:=#[(0,(vi r12))]) (by kernel_rfl) (by kernel_rfl)) ?_))
             intro p2 w24 hn3
             have h:=h p2 w24 hn3
             have hs:=hs.again (Ext.new (F:=None) hn3).keptP
             have hb:=hb.kept (Ext.new (F:=None) hn3).keptP
             refine st_call (wy 120 hg13) (xc Tryz.call26) (h.mono ?_)
             rintro e w25 ⟨r15,rfl,hk,h⟩
             refine ⟨_,rfl,?_⟩
             obtain ⟨hs,hb⟩:=hk.hh hs hb
             refine q1 (vi (r15.len:Int)) (wy 120 hg13) (q1 (vb (((r15.len:Int):Int) == 3)) (wy 120 hg13) (q2 (vb (((r15.len:Int):Int) == 3)) (xT hg13) (q0 (vb (((r15.len:Int):Int) == 3)) (ln (er (rs1 Tryz.results24 (v:=(vb (((r15.len:Int):Int) == 3))) ?_))))))
             exact ⟨(((r15.len:Int):Int) == 3),rfl,h⟩
            ·have h:=h.2 hg13
             refine sk (yD 120 hg13) (sk (yD 120 hg13) (sk (yD 120 hg13) (sk (yD 120 hg13) (sk (yD 120 hg13) (sk (yD 120 hg13) (q2 (vb false) (xF hg13) (q0 (vb false) (ln (er (rs1 Tryz.results24 (v:=(vb false)) ?_))))))))))
             exact ⟨false,rfl,h⟩
           ·rcases Bool.eq_false_or_eq_true x3 with hg14 | hg14
            ·have h:=h.1 hg14
             refine q1 (vp r1) (wy 113 hg14) (q1 (vi r6) (wy 113 hg14) ?_)
             refine st_call (wy 113 hg14) (xc Tryz.call34) (h.mono ?_)
             rintro e w26 ⟨r16,rfl,hk,h⟩
             refine ⟨_,rfl,?_⟩
             obtain ⟨hs,hb⟩:=hk.hh hs hb
             refine q1 (vi (r16.len:Int)) (wy 113 hg14) (q1 (vb (((r16.len:Int):Int) == 3)) (wy 113 hg14) (q2 (vb (((r16.len:Int):Int) == 3)) (xT hg14) (wpL_nil ?_)))
             exact ⟨(((r16.len:Int):Int) == 3),H,hm,hs,hb,h⟩
            ·have h:=h.2 hg14
             refine sk (yD 113 hg14) (sk (yD 113 hg14) (sk (yD 113 hg14) (sk (yD 113 hg14) (sk (yD 113 hg14) (q2 (vb false) (xF hg14) (wpL_nil ?_))))))
             exact ⟨false,H,hm,hs,hb,h⟩
          ·rcases Bool.eq_false_or_eq_true x2 with hg15 | hg15
           ·have h:=h.1 hg15
            refine q1 (vp r1) (wy 107 hg15) (q1 (vi r2) (wy 107 hg15) ?_)
            refine st_call (wy 107 hg15) (xc Tryz.call35) (h.mono ?_)
            rintro e w27 ⟨r17,rfl,hk,h⟩
            refine ⟨_,rfl,?_⟩
            obtain ⟨hs,hb⟩:=hk.hh hs hb
            refine q1 (vb (r17 == 2)) (wy 107 hg15) (q2 (vb (r17 == 2)) (xT hg15) (wpL_nil ?_))
            exact ⟨(r17 == 2),H,hm,hs,hb,h⟩
           ·have h:=h.2 hg15
            refine sk (yD 107 hg15) (sk (yD 107 hg15) (sk (yD 107 hg15) (sk (yD 107 hg15) (q2 (vb false) (xF hg15) (wpL_nil ?_)))))
            exact ⟨false,H,hm,hs,hb,h⟩
         ·rcases Bool.eq_false_or_eq_true x1 with hg16 | hg16
          ·have h:=h.1 hg16
           refine q1 (vp r1) (wy 101 hg16) (q1 (vi r2) (wy 101 hg16) ?_)
           refine st_call (wy 101 hg16) (xc Tryz.call45) (h.mono ?_)
           rintro e w28 ⟨r18,rfl,hk,h⟩
           refine ⟨_,rfl,?_⟩
           obtain ⟨hs,hb⟩:=hk.hh hs hb
           refine q1 (vb (!r18)) (wy 101 hg16) (q2 (vb (!r18)) (xT hg16) (wpL_nil ?_))
           exact ⟨(!r18),H,hm,hs,hb,h⟩
          ·have h:=h.2 hg16
           refine sk (yD 101 hg16) (sk (yD 101 hg16) (sk (yD 101 hg16) (sk (yD 101 hg16) (q2 (vb false) (xF hg16) (wpL_nil ?_)))))
           exact ⟨false,H,hm,hs,hb,h⟩
        ·rcases Bool.eq_false_or_eq_true (((y1 && r14) && (aA == 4)) && (aE == 1)) with hg17 | hg17
         ·have h:=h.1 hg17
          refine q1 (vp r1) (wy 96 hg17) (q1 (vi r6) (wy 96 hg17) ?_)
          have h:=h H7 w23 hs
          have hs:=hs.here
          refine st_call (wy 96 hg17) (xc Tryz.call45) (h.mono ?_)
          rintro e w29 ⟨r19,rfl,hk,h⟩
          refine ⟨_,rfl,?_⟩
          obtain ⟨hs,hb⟩:=hk.hh hs hb
          refine q2 (vb r19) (xT hg17) (wpL_nil ?_)
          exact ⟨r19,H7,hm,hs,hb,h⟩
         ·have h:=h.2 hg17
          refine sk (yD 96 hg17) (sk (yD 96 hg17) (sk (yD 96 hg17) (q2 (vb false) (xF hg17) (wpL_nil ?_))))
          have h:=h H7 w23 hs
          have hs:=hs.here
          exact ⟨false,H7,hm,hs,hb,h⟩
       ·rcases Bool.eq_false_or_eq_true ((y1 && r14) && (aA == 4)) with hg12 | hg12
        ·refine q1 (vp (some (p1.add 1))) (wy 91 hg12) (stp (v:=(vi aE)) (wy 91 hg12) (xl (Tryz.isAgg3 _) (hb.c 0 1 gZ)) (q1 (vb (aE == 1)) (wy 91 hg12) (q2 (vb (aE == 1)) (xT hg12) (wpL_nil ?_))))
         exact ⟨true,_,hg12,hs,hb,hm⟩
        ·refine sk (yD 91 hg12) (sk (yD 91 hg12) (sk (yD 91 hg12) (q2 (vb false) (xF hg12) (wpL_nil ?_))))
         exact ⟨false,_,hg12,hs,hb,hm⟩
      ·rcases Bool.eq_false_or_eq_true (y1 && r14) with hg10 | hg10
       ·refine q1 (vp (some p1)) (wy 86 hg10) (stp (v:=(vi aA)) (wy 86 hg10) (xl (Tryz.isAgg3 _) (hb.c0 0 gZ)) (q1 (vb (aA == 4)) (wy 86 hg10) (q2 (vb (aA == 4)) (xT hg10) (wpL_nil ?_))))
        exact ⟨true,_,hg10,hs,hb,hm⟩
       ·refine sk (yD 86 hg10) (sk (yD 86 hg10) (sk (yD 86 hg10) (q2 (vb false) (xF hg10) (wpL_nil ?_))))
        exact ⟨false,_,hg10,hs,hb,hm⟩
     ·rcases Bool.eq_false_or_eq_true y1 with hg8 | hg8
      ·refine q1 (vb r14) (wy 83 hg8) (q2 (vb r14) (xT hg8) (wpL_nil ?_))
       exact ⟨true,_,hg8,hs,hb,hm⟩
      ·refine sk (yD 83 hg8) (q2 (vb false) (xF hg8) (wpL_nil ?_))
       exact ⟨false,_,hg8,hs,hb,hm⟩
    ·rcases Bool.eq_false_or_eq_true (((r7 == 0) && (r9 == 122)) && (r11 == 120)) with hg6 | hg6
     ·refine q1 (vi r13) (wy 78 hg6) ?_
      refine st_call (wy 78 hg6) (xc Tryz.call36) ((p_S1 r13 w16).mono ?_)
      rintro e w20 ⟨he,hE⟩
      refine ⟨(vi r13),he.trans (by kernel_rfl),?_⟩
      have hs:=hs.pure hE
      have hb:=hb.pure hE
      refine q1 (vb (r13 == 0)) (wy 78 hg6) (q2 (vb (r13 == 0)) (xT hg6) (wpL_nil ?_))
      exact ⟨true,_,_,hg6,rfl,hs,hb,hm⟩
     ·refine sk (yD 78 hg6) (sk (yD 78 hg6) (sk (yD 78 hg6) (q2 (vb false) (xF hg6) (wpL_nil ?_))))
      exact ⟨false,_,_,hg6,rfl,hs,hb,hm⟩
   ·rcases Bool.eq_false_or_eq_true ((r7 == 0) && (r9 == 122)) with hg4 | hg4
    ·refine q1 (vi r11) (wy 73 hg4) ?_
     refine st_call (wy 73 hg4) (xc Tryz.call36) ((p_S1 r11 w13).mono ?_)
     rintro e w17 ⟨he,hE⟩
     refine ⟨(vi r11),he.trans (by kernel_rfl),?_⟩
     have hs:=hs.pure hE
     have hb:=hb.pure hE
     refine q1 (vb (r11 == 120)) (wy 73 hg4) (q2 (vb (r11 == 120)) (xT hg4) (wpL_nil ?_))
     exact ⟨true,_,hg4,hs,hb,hm⟩
    ·refine sk (yD 73 hg4) (sk (yD 73 hg4) (sk (yD 73 hg4) (q2 (vb false) (xF hg4) (wpL_nil ?_))))
     exact ⟨false,_,hg4,hs,hb,hm⟩
  ·rcases Bool.eq_false_or_eq_true (r7 == 0) with hg2 | hg2
   ·refine q1 (vi r9) (wy 68 hg2) ?_
    refine st_call (wy 68 hg2) (xc Tryz.call36) ((p_S1 r9 w11).mono ?_)
    rintro e w14 ⟨he,hE⟩
    refine ⟨(vi r9),he.trans (by kernel_rfl),?_⟩
    have hs:=hs.pure hE
    have hb:=hb.pure hE
    refine q1 (vb (r9 == 122)) (wy 68 hg2) (q2 (vb (r9 == 122)) (xT hg2) (wpL_nil ?_))
    exact ⟨true,_,hg2,hs,hb,hm⟩
   ·refine sk (yD 68 hg2) (sk (yD 68 hg2) (sk (yD 68 hg2) (q2 (vb false) (xF hg2) (wpL_nil ?_))))
    exact ⟨false,_,hg2,hs,hb,hm⟩
def m_G1_l1 (l1:Sl) (r1:Option Addr) (r2:Option Addr) (i1:Int) (w0:World) (Hl1:NP) (wl1:World) (Kc1:Int→NP→WP) (K:(Option Addr)→(Option Addr)→Bool→WP):Prop :=
 Br (decide (i1<(l1.len:Int)))
  (∃a1:Addr,At l1 i1 6 a1 ∧
  ∃aJ bM:Int,∃bN bO:Int,∃aL:ByteArray,∃bP:Sl,Row wl1 a1 [(vi aJ),(vi bM),(vi bN),(vu bO),(vs aL),bP.v] ∧
  Calls Tryz.prog 77 #[(vp r1),(.agg #[(vi aJ),(vi bM),(vi bN),(vu bO),(vs aL),bP.v])] wl1 (fun e w3=>∃r3 r4:Int,e=.returned (.tuple #[(vi r3),(vi r4)])∧
   Kept Hl1 wl1 w3 ∧
   ∃a2:Addr,At l1 i1 6 a2 ∧
   ∃bK cW:Int,∃cX cY:Int,∃bL:ByteArray,∃cZ:Sl,Row w3 a2 [(vi bK),(vi cW),(vi cX),(vu cY),(vs bL),cZ.v] ∧
   Calls Tryz.prog 78 #[(vp r2),(.agg #[(vi bK),(vi cW),(vi cX),(vu cY),(vs bL),cZ.v])] w3 (fun e w4=>∃r5 r6:Int,e=.returned (.tuple #[(vi r5),(vi r6)])∧
    Kept Hl1 w3 w4 ∧
    Br ((r4 != r6) || (r3 != r5))
     (∀(H1:NP) (w6:World),Hst w0 Hl1 w4 H1 w6 →
     K none none false w6)
     (∀(H1:NP) (w6:World),Hst w0 Hl1 w4 H1 w6 →
     Kc1 (q6.wrap (i1+1)) H1 w6))))
  (K r1 r2 true wl1)
def m_G1 (l1:Sl) (w0:World) (K:(Option Addr)→(Option Addr)→Bool→WP):Prop :=
 Calls Tryz.prog 61 #[] w0 (fun e w1=>∃r1:Option Addr,e=.returned (vp r1)∧
  Kept None w0 w1 ∧
  Calls Tryz.prog 63 #[] w1 (fun e w2=>∃r2:Option Addr,e=.returned (vp r2)∧
   Kept None w1 w2 ∧
   Br (Option.isNone r1)
    (K none none false w2)
    (∃(I1:Int→NP→WP) (mu1:Int→World→Nat),I1 0 None w2 ∧
     ∀(i1:Int) (Hl1:NP) (wl1:World),Hst w0 Hl1 wl1 Hl1 wl1→I1 i1 Hl1 wl1→m_G1_l1 l1 r1 r2 i1 w0 Hl1 wl1 (fun y'0 H' w'=>I1 y'0 H' w'∧mu1 y'0 w'<mu1 i1 wl1) K)))
theorem w_G1 (l1 : Sl) (w0 : World) (K : (Option Addr) → (Option Addr) → Bool → WP) (h : m_G1 l1 w0 K) :
  Calls Tryz.prog 25 #[l1.v] w0 (fun e w'=>∃r7:Option Addr,∃r8:Option Addr,∃r9:Bool,e=.returned (.tuple #[(vp r7),(vp r8),(vb r9)])∧K r7 r8 r9 w'):=by
 unfold m_G1 at h
 refine cw (args:=[l1.v]) Tryz.func25 Tryz.ntmps25 ?_
 have hs:=Hst.start w0
 have hb:=HB.nil None w0
 refine eg (q0 (vp none) (q0 (vp none) (q0 (vb false) (ln (eg ?_)))))
 refine sc Tryz.call61 (h.mono ?_)
 rintro e w1 ⟨r1,rfl,hk,h⟩
 refine ⟨_,rfl,?_⟩
 obtain ⟨hs,hb⟩:=hk.hh hs hb
 refine q0 (vp r1) (ln (eg ?_))
 refine sc Tryz.call63 (h.mono ?_)
 rintro e w2 ⟨r2,rfl,hk,h⟩
 refine ⟨_,rfl,?_⟩
 obtain ⟨hs,hb⟩:=hk.hh hs hb
 refine q0 (vp r2) (ln (wpE_seq (eg (q0 (vp r1) (q2 (vb (Option.isNone r1)) (x_ptreq (by kernel_rfl) rfl Tryz.underlying68) (ln ?_))))))
 refine wpE_cond (t:=(Option.isNone r1)) (by kernel_rfl) (fun hc1=>?_) (fun hc1=>?_)
 ·have h:=h.1 hc1
  refine eg (q0 (vp none) (q0 (vp none) (q0 (vb false) (ln (er (th_r (res3 (.inl rfl) Tryz.results25 (v:=(vp none)) (by kernel_rfl) (v':=(vp none)) (by kernel_rfl) (v'':=(vb false)) (by kernel_rfl) ?_)))))))
  exact ⟨none,none,false,rfl,h⟩
 ·have h:=h.2 hc1
  refine wpE_skip (th_n (wpE_seq (eg (q0 (vi 0) (ln (wpE_block ?_))))))
  obtain ⟨I1,mu1,h0,hr⟩:=h
  refine wpE_loop (σ:=Int×NP×World) (fun s ρ w=>w=s.2.2∧Has ρ [(0,l1.v),(5,(vp r1)),(6,(vp r2)),(7,(vi s.1))]∧Hst w0 s.2.1 w s.2.1 w∧HB s.2.1 w []∧I1 s.1 s.2.1 s.2.2) (fun s=>mu1 s.1 s.2.2) (0,None,w2) ⟨rfl,hm,hs,hb,h0⟩ ?_
  rintro ⟨i1,Hl1,wl1⟩ ρ w ⟨hw,hH,hs,hb,hI⟩
  obtain rfl:wl1=w:=(show w=wl1 from hw).symm
  have hH:Has ρ [(0,l1.v),(5,(vp r1)),(6,(vp r2)),(7,(vi i1))]:=hH
  have hs:Hst w0 Hl1 wl1 Hl1 wl1:=hs
  have hb:HB Hl1 wl1 []:=hb
  have h:=hr i1 Hl1 wl1 hs hI
  unfold m_G1_l1 at h
  refine wpE_has hH ?_
  refine wpE_seq (eg (q0 (vi i1) (q0 l1.v (q0 (vi (l1.len:Int)) (q0 (vb (decide (i1<(l1.len:Int)))) (ln ?_))))))
  refine wpE_cond (t:=(decide (i1<(l1.len:Int)))) (by kernel_rfl) (fun hc2=>?_) (fun hc2=>?_)
  ·have h:=h.1 hc2
   refine wpE_skip (th_n (wpE_seq (wpE_block (eg (q0 (vp r1) (q0 l1.v (q0 (vi i1) ?_)))))))
   obtain ⟨a1,hv4,h⟩:=h
   refine q2 (vp (some a1)) (xi (Tryz.runUnderlying66 _) (Tryz.sizeOf107 _) hv4) ?_
   obtain ⟨aJ,bM,bN,bO,aL,bP,hv3,h⟩:=h
   refine q2 (.agg #[(vi aJ),(vi bM),(vi bN),(vu bO),(vs aL),bP.v]) (xa a1 [(vi aJ),(vi bM),(vi bN),(vu bO),(vs aL),bP.v] (Tryz.isAgg107 _) (Tryz.sizeOf107 _) hv3) ?_
   refine sc Tryz.call77 (h.mono ?_)
   rintro e w3 ⟨r3,r4,rfl,hk,h⟩
   refine ⟨_,rfl,?_⟩
   obtain ⟨hs,hb⟩:=hk.hh hs hb
   refine q0 (.tuple #[(vi r3),(vi r4)]) (q0 (vi r3) (q0 (vi r4) (q0 (vi r3) (q0 (vi r4) (ln (eg (q0 (vp r2) (q0 l1.v (q0 (vi i1) ?_)))))))))
   obtain ⟨a2,hv2,h⟩:=h
   refine q2 (vp (some a2)) (xi (Tryz.runUnderlying66 _) (Tryz.sizeOf107 _) hv2) ?_
   obtain ⟨bK,cW,cX,cY,bL,cZ,hv1,h⟩:=h
   refine q2 (.agg #[(vi bK),(vi cW),(vi cX),(vu cY),(vs bL),cZ.v]) (xa a2 [(vi bK),(vi cW),(vi cX),(vu cY),(vs bL),cZ.v] (Tryz.isAgg107 _) (Tryz.sizeOf107 _) hv1) ?_
   refine sc Tryz.call78 (h.mono ?_)
   rintro e w4 ⟨r5,r6,rfl,hk,h⟩
   refine ⟨_,rfl,?_⟩
   obtain ⟨hs,hb⟩:=hk.hh hs hb
   refine q0 (.tuple #[(vi r5),(vi r6)]) (q0 (vi r5) (q0 (vi r6) (q0 (vi r5) (q0 (vi r6) (ln (wpE_seq ?_))))))
   refine wpE_via (fun ρ wJ=>∃b1'0:Bool,∃HJ:NP,((r4 != r6)=b1'0)∧Hst w0 Hl1 w4 HJ wJ∧HB HJ wJ []∧Has ρ [(0,l1.v),(5,(vp r1)),(6,(vp r2)),(7,(vi i1)),(48,(vb (b1'0 || (r3 != r5))))]) ?_ ?_
   ·refine rg (q0 (vi r4) ?_)
    refine sc Tryz.call36 ((p_S1 r4 w4).mono ?_)
    rintro e w7 ⟨he,hE⟩
    refine ⟨(vi r4),he.trans (by kernel_rfl),?_⟩
    have hs:=hs.pure hE
    have hb:=hb.pure hE
    refine q0 (vi r6) (q0 (vb (r4 != r6)) (q0 (vb (r4 != r6)) ?_))
    rcases Bool.eq_false_or_eq_true (r4 != r6) with hg2 | hg2
    ·refine sk (yD 44 hg2) (sk (yD 44 hg2) (sk (yD 44 hg2) (q2 (vb true) (xT hg2) (ln ?_))))
     exact ⟨true,_,hg2,hs,hb,hm⟩
    ·refine q1 (vi r3) (wy 44 hg2) (q1 (vi r5) (wy 44 hg2) (q1 (vb (r3 != r5)) (wy 44 hg2) (q2 (vb (r3 != r5)) (xF hg2) (ln ?_))))
     exact ⟨false,_,hg2,hs,hb,hm⟩
   ·rintro ρ w6 ⟨b1'0,H1,he0,hs,hb,hH⟩
    subst he0
    refine norm_has hH ?_
    refine th_n ?_
    refine wpE_cond (t:=((r4 != r6) || (r3 != r5))) (by kernel_rfl) (fun hc3=>?_) (fun hc3=>?_)
    ·have h:=h.1 hc3
     refine eg (q0 (vp none) (q0 (vp none) (q0 (vb false) (ln (er (bl_r (th_r (th_r (bl_r ?_)))))))))
     refine th_r ?_
     have h:=h H1 w6 hs
     have hs:=hs.here
     refine res3 (.inl rfl) Tryz.results25 (v:=(vp none)) (by kernel_rfl) (v':=(vp none)) (by kernel_rfl) (v'':=(vb false)) (by kernel_rfl) ?_
     exact ⟨none,none,false,rfl,h⟩
    ·have h:=h.2 hc3
     refine wpE_skip (bl_n (th_n (rg (q0 (vi i1) (q0 (vi (q6.wrap (i1+1))) (q0 (vi (q6.wrap (i1+1))) (wpL_nil ?_)))))))
     have h:=h H1 w6 hs
     have hs:=hs.here
     refine th_n ?_
     exact ⟨((q6.wrap (i1+1)),H1,w6),⟨rfl,hm,hs,hb,h.1⟩,h.2⟩
  ·have h:=h.2 hc2
   refine wpE_exit (th_x (th_x (bl_eq (th_n (eg (q0 (vp r1) (q0 (vp r2) (q0 (vp r1) (q0 (vp r2) (q0 (vb true) ?_))))))))))
   refine ln (er (res3 (.inl rfl) Tryz.results25 (v:=(vp r1)) (by kernel_rfl) (v':=(vp r2)) (by kernel_rfl) (v'':=(vb true)) (by kernel_rfl) ?_))
   exact ⟨r1,r2,true,rfl,h⟩
def m_L3 (aW aX aY:Int) (bD:ByteArray) (aZ bA bB:Int) (bE:ByteArray) (w0:World) (K:Int→WP):Prop :=
 ∀(H2:NP) (w2:World),Hst w0 None w0 H2 w2 →
 ∃C1:WP,C1 w2.drew∧∀w3,w3=w2.drew →
 Calls Tryz.prog 84 #[(vu aY),(vu bB)] w3 (fun e w4=>∃r1:Int,e=.returned (vi r1)∧C1 w4∧
  Kept H2 w3 w4 ∧
  Calls Tryz.prog 85 #[(vi aW),(vi aZ)] w4 (fun e w5=>∃r2:Int,e=.returned (vi r2)∧C1 w5∧
   Kept H2 w4 w5 ∧
   Calls Tryz.prog 85 #[(vi aX),(vi bA)] w5 (fun e w6=>∃r3:Int,e=.returned (vi r3)∧C1 w6∧
    Kept H2 w5 w6 ∧
    Calls Tryz.prog 86 #[(vs bD),(vs bE)] w6 (fun e w7=>∃r4:Int,e=.returned (vi r4)∧C1 w7∧
     Kept H2 w6 w7 ∧
     ∀(p3:Addr) (w8:World),New w7 (.cells #[(vi r1),(vi r2),(vi r3),(vi r4)] 3) p3 w8→C1 w8 ∧
     Calls Tryz.prog 83 #[(Sl.mk (some p3) 4 4).v] w8 (fun e w9=>∃r5:Int,e=.returned (vi r5)∧C1 w9∧
      Kept H2 w8 w9 ∧
      K r5 w9)))))
theorem w_L3 (aW aX aY : Int) (bD : ByteArray) (aZ bA bB : Int) (bE : ByteArray) (w0 : World) (K : Int → WP) (h : m_L3 aW aX aY bD aZ bA bB bE w0 K) :
  Calls Tryz.prog 28 #[(.agg #[(vi aW),(vi aX),(vu aY),(vs bD)]),(.agg #[(vi aZ),(vi bA),(vu bB),(vs bE)])] w0 (fun e w'=>∃r6:Int,e=.returned (vi r6)∧K r6 w'):=by
 unfold m_L3 at h
 refine cw (args:=[(.agg #[(vi aW),(vi aX),(vu aY),(vs bD)]),(.agg #[(vi aZ),(vi bA),(vu bB),(vs bE)])]) Tryz.func28 Tryz.ntmps28 ?_
 have hs:=Hst.start w0
 have hb:=HB.nil None w0
 refine eg (sn (O:=(.cells #[(vi aW),(vi aX),(vu aY),(vs bD)] 75)) xb ?_)
 intro p1 w1 hn1
 obtain ⟨H1,hs,hb⟩:=hs.alloc hb hn1
 refine sn (O:=(.cells #[(vi aZ),(vi bA),(vu bB),(vs bE)] 75)) xb ?_
 intro p2 w2 hn2
 obtain ⟨H2,hs,hb⟩:=hs.alloc hb hn2
 refine q0 (vi 0) (ln (wpE_seq ?_))
 have h:=h H2 w2 hs
 have hs:=hs.here
 obtain ⟨C1,hC,h⟩:=h
 refine wpE_drawnC (fun x=>C1 x∧HB H2 x [(p2,[(vi aZ),(vi bA),(vu bB),(vs bE)],75),(p1,[(vi aW),(vi aX),(vu aY),(vs bD)],75)]) [4,9,14,19,20,21] [] (by kernel_rfl) (by kernel_rfl) (by kernel_rfl) (by kernel_rfl) ⟨hC,hb.drew⟩ ?_
 intro w3 hw3
 have h:=h w3 hw3
 have hs:Hst w0 H2 w2 H2 w3:=by rw [hw3];exact hs.drew
 have hb:HB H2 w3 [(p2,[(vi aZ),(vi bA),(vu bB),(vs bE)],75),(p1,[(vi aW),(vi aX),(vu aY),(vs bD)],75)]:=by rw [hw3];exact hb.drew
 have hs:=hs.here
 refine qx 0 (vp (some (p1.add 2))) Kp0 (qz 1 (vu aY) Kp1 (fun w' hw'=>(xl (Tryz.isAgg23 _) (hw'.2.cell 1 2 (gS gZ) (by kernel_rfl)))) (qx 2 (vp (some (p2.add 2))) Kp2 (qz 3 (vu bB) Kp3 (fun w' hw'=>(xl (Tryz.isAgg23 _) (hw'.2.cell 0 2 gZ (by kernel_rfl)))) (qx 5 (vp (some p1)) Kp5 (qz 6 (vi aW) Kp6 (fun w' hw'=>(xl (Tryz.isAgg3 _) (hw'.2.cell0 1 (gS gZ) (by kernel_rfl)))) (qx 7 (vp (some p2)) Kp7 (qz 8 (vi aZ) Kp8 (fun w' hw'=>(xl (Tryz.isAgg3 _) (hw'.2.cell0 0 gZ (by kernel_rfl)))) (qx 10 (vp (some (p1.add 1))) (pickA (S8 (pickS (pickS pickZ)))) (qz 11 (vi aX) (pickA (S8 (pickS (pickS (pickS pickZ))))) (fun w' hw'=>(xl (Tryz.isAgg3 _) (hw'.2.cell 1 1 (gS gZ) (by kernel_rfl)))) (qx 12 (vp (some (p2.add 1))) (pickA (S8 (S4 pickZ))) (qz 13 (vi bA) (pickA (S8 (S4 (pickS pickZ)))) (fun w' hw'=>(xl (Tryz.isAgg3 _) (hw'.2.cell 0 1 gZ (by kernel_rfl)))) ?_)))))))))))
 refine qx 15 (vp (some (p1.add 3))) (pickA (S8 (S4 (pickS (pickS (pickS pickZ)))))) (qz 16 (vs bD) (pickA (S8 (S8 pickZ))) (fun w' hw'=>(xl (Tryz.isAgg9 _) (hw'.2.cell 1 3 (gS gZ) (by kernel_rfl)))) (qx 17 (vp (some (p2.add 3))) (pickA (S8 (S8 (pickS pickZ)))) (qz 18 (vs bE) (pickA (S8 (S8 (pickS (pickS pickZ))))) (fun w' hw'=>(xl (Tryz.isAgg9 _) (hw'.2.cell 0 3 gZ (by kernel_rfl)))) (lg 4 ?_))))
 refine sl_call Kp4 (want0 rfl) (by kernel_rfl) (xc Tryz.call84) (h.mono ?_)
 rintro e w4 ⟨r1,rfl,hC,hk,h⟩
 refine ⟨_,rfl,.inr ⟨hC,hb.kept hk⟩,?_⟩
 obtain ⟨hs,hb⟩:=hk.hh hs hb
 refine lg 9 ?_
 refine sl_call Kp9 (want0 rfl) (by kernel_rfl) (xc Tryz.call85) (h.mono ?_)
 rintro e w5 ⟨r2,rfl,hC,hk,h⟩
 refine ⟨_,rfl,.inr ⟨hC,hb.kept hk⟩,?_⟩
 obtain ⟨hs,hb⟩:=hk.hh hs hb
 refine lg 14 ?_
 refine sl_call (pickA (S8 (S4 (pickS (pickS pickZ))))) (want0 rfl) (by kernel_rfl) (xc Tryz.call85) (h.mono ?_)
 rintro e w6 ⟨r3,rfl,hC,hk,h⟩
 refine ⟨_,rfl,.inr ⟨hC,hb.kept hk⟩,?_⟩
 obtain ⟨hs,hb⟩:=hk.hh hs hb
 refine lg 19 ?_
 refine sl_call (pickA (S8 (S8 (pickS (pickS (pickS pickZ)))))) (want0 rfl) (by kernel_rfl) (xc Tryz.call86) (h.mono ?_)
 rintro e w7 ⟨r4,rfl,hC,hk,h⟩
 refine ⟨_,rfl,.inr ⟨hC,hb.kept hk⟩,?_⟩
 obtain ⟨hs,hb⟩:=hk.hh hs hb
 refine lg 20 (sl_new (O:=(.cells #[(vi r1),(vi r2),(vi r3),(vi r4)] 3)) (fun p=>(Sl.mk (some p) 4 4).v) (pickA (S8 (S8 (S4 pickZ)))) (want0 rfl) (by kernel_rfl) (x_buildSlice (vs:=#[(0,(vi r1)),(1,(vi r2)),(2,(vi r3)),(3,(vi r4))]) (by kernel_rfl) (by kernel_rfl)) ?_)
 intro p3 w8 hn3
 have h:=h p3 w8 hn3
 refine ⟨.inr ⟨h.1,hb.kept (Ext.new (F:=None) hn3).keptP⟩,?_⟩
 have h:=h.2
 have hs:=hs.again (Ext.new (F:=None) hn3).keptP
 have hb:=hb.kept (Ext.new (F:=None) hn3).keptP
 refine lg 21 ?_
 refine sl_call (pickA (S8 (S8 (S4 (pickS pickZ))))) (want0 rfl) (by kernel_rfl) (xc Tryz.call83) (h.mono ?_)
 rintro e w9 ⟨r5,rfl,hC,hk,h⟩
 refine ⟨_,rfl,.inr ⟨hC,hb.kept hk⟩,?_⟩
 obtain ⟨hs,hb⟩:=hk.hh hs hb
 refine qx 22 (vi r5) (pickA (S8 (S8 (S4 (pickS (pickS pickZ)))))) (wn (th_n (er (rs1 Tryz.results28 (v:=(vi r5)) ?_))))
 exact ⟨r5,rfl,h⟩
theorem eqt_ref12_Same_neq_75 (a0 a1 a2:Int) (a3:ByteArray) (b0 b1 b2:Int) (b3:ByteArray) (w:World):(Go.binOp .neq 75 (.agg #[(.int .i64 a0),(.int .i64 a1),(.int .u64 a2),(.string a3)]) (.agg #[(.int .i64 b0),(.int .i64 b1),(.int .u64 b2),(.string b3)])).run Tryz.prog w=.ok (.bool (!((a0 == b0) && ((a1 == b1) && ((a2 == b2) && (decide (a3=b3))))))) w:=by
 simp [Go.binOp,Op.equal,Op.maxDepth,go_sem,streq,bne]
 repeat' split
 all_goals simp_all
def m_H1_l1 (a1 b1:Sl) (i1:Int) (w0:World) (Hl1:NP) (wl1:World) (Kc1:Int→NP→WP) (K:Bool→WP):Prop :=
 Br (decide (i1<(a1.len:Int)))
  (∃a2:Addr,At a1 i1 4 a2 ∧
  ∀(w1:World),Hst w0 Hl1 wl1 Hl1 w1 →
  ∃aJ aM aN:Int,∃aL:ByteArray,Row w1 a2 [(vi aJ),(vi aM),(vu aN),(vs aL)] ∧
  ∃a3:Addr,At b1 i1 4 a3 ∧
  ∃bK cA cB:Int,∃bL:ByteArray,Row w1 a3 [(vi bK),(vi cA),(vu cB),(vs bL)] ∧
  Br (!((aJ == bK) && ((aM == cA) && ((aN == cB) && (decide (aL=bL))))))
   (K false w1)
   (Kc1 (q6.wrap (i1+1)) Hl1 w1))
  (K true wl1)
def m_H1 (a1 b1:Sl) (w0:World) (K:Bool→WP):Prop :=
 Br (((a1.len:Int):Int) != (b1.len:Int))
  (K false w0)
  (∃(I1:Int→NP→WP) (mu1:Int→World→Nat),I1 0 None w0 ∧
   ∀(i1:Int) (Hl1:NP) (wl1:World),Hst w0 Hl1 wl1 Hl1 wl1→I1 i1 Hl1 wl1→m_H1_l1 a1 b1 i1 w0 Hl1 wl1 (fun y'0 H' w'=>I1 y'0 H' w'∧mu1 y'0 w'<mu1 i1 wl1) K)
theorem w_H1 (a1 b1 : Sl) (w0 : World) (K : Bool → WP) (h : m_H1 a1 b1 w0 K) :
  Calls Tryz.prog 30 #[a1.v,b1.v] w0 (fun e w'=>∃r1:Bool,e=.returned (vb r1)∧K r1 w'):=by
 unfold m_H1 at h
 refine cw (args:=[a1.v,b1.v]) Tryz.func30 Tryz.ntmps30 ?_
 have hs:=Hst.start w0
 have hb:=HB.nil None w0
 refine eg (q0 (vb false) (ln (wpE_seq (eg (q0 a1.v (q0 (vi (a1.len:Int)) (q0 b1.v (q0 (vi (b1.len:Int)) ?_))))))))
 refine q0 (vb (((a1.len:Int):Int) != (b1.len:Int))) (ln ?_)
 refine wpE_cond (t:=(((a1.len:Int):Int) != (b1.len:Int))) (by kernel_rfl) (fun hc1=>?_) (fun hc1=>?_)
 ·have h:=h.1 hc1
  refine eg (q0 (vb false) (ln (er (th_r (rs1 Tryz.results30 (v:=(vb false)) ?_)))))
  exact ⟨false,rfl,h⟩
 ·have h:=h.2 hc1
  refine wpE_skip (th_n (wpE_seq (eg (q0 (vi 0) (ln (wpE_block ?_))))))
  obtain ⟨I1,mu1,h0,hr⟩:=h
  refine wpE_loop (σ:=Int×NP×World) (fun s ρ w=>w=s.2.2∧Has ρ [(0,a1.v),(1,b1.v),(5,(vi s.1))]∧Hst w0 s.2.1 w s.2.1 w∧HB s.2.1 w []∧I1 s.1 s.2.1 s.2.2) (fun s=>mu1 s.1 s.2.2) (0,None,w0) ⟨rfl,hm,hs,hb,h0⟩ ?_
  rintro ⟨i1,Hl1,wl1⟩ ρ w ⟨hw,hH,hs,hb,hI⟩
  obtain rfl:wl1=w:=(show w=wl1 from hw).symm
  have hH:Has ρ [(0,a1.v),(1,b1.v),(5,(vi i1))]:=hH
  have hs:Hst w0 Hl1 wl1 Hl1 wl1:=hs
  have hb:HB Hl1 wl1 []:=hb
  have h:=hr i1 Hl1 wl1 hs hI
  unfold m_H1_l1 at h
  refine wpE_has hH ?_
  refine wpE_seq (eg (q0 (vi i1) (q0 a1.v (q0 (vi (a1.len:Int)) (q0 (vb (decide (i1<(a1.len:Int)))) (ln ?_))))))
  refine wpE_cond (t:=(decide (i1<(a1.len:Int)))) (by kernel_rfl) (fun hc2=>?_) (fun hc2=>?_)
  ·have h:=h.1 hc2
   refine wpE_skip (th_n (wpE_seq (wpE_block (wpE_seq (wpE_drawnQ (by kernel_rfl) (by kernel_rfl) (by kernel_rfl) (by kernel_rfl) ?_)))))
   intro w1 hw1
   have hs:Hst w0 Hl1 wl1 Hl1 w1:=by rw [hw1];exact hs.drew
   have hb:HB Hl1 w1 []:=by rw [hw1];exact hb.drew
   refine qq 0 a1.v Kp0 (qq 1 (vi i1) Kp1 (qg 2 ?_))
   obtain ⟨a2,hv4,h⟩:=h
   refine sxQ (v:=(vp (some a2))) Kp2 (want0 rfl) rfl (xi (Tryz.runUnderlying71 _) (Tryz.sizeOf75 _) hv4) (qg 3 ?_)
   have h:=h w1 hs
   have hs:=hs.here
   obtain ⟨aJ,aM,aN,aL,hv3,h⟩:=h
   refine sxQ (v:=(.agg #[(vi aJ),(vi aM),(vu aN),(vs aL)])) Kp3 (want0 rfl) rfl (xa a2 [(vi aJ),(vi aM),(vu aN),(vs aL)] (Tryz.isAgg75 _) (Tryz.sizeOf75 _) hv3) (qq 4 b1.v Kp4 (qq 5 (vi i1) Kp5 (qg 6 ?_)))
   obtain ⟨a3,hv2,h⟩:=h
   refine sxQ (v:=(vp (some a3))) Kp6 (want0 rfl) rfl (xi (Tryz.runUnderlying71 _) (Tryz.sizeOf75 _) hv2) (qg 7 ?_)
   obtain ⟨bK,cA,cB,bL,hv1,h⟩:=h
   refine sxQ (v:=(.agg #[(vi bK),(vi cA),(vu cB),(vs bL)])) Kp7 (want0 rfl) rfl (xa a3 [(vi bK),(vi cA),(vu cB),(vs bL)] (Tryz.isAgg75 _) (Tryz.sizeOf75 _) hv1) (qr 8 (vb (!((aJ == bK) && ((aM == cA) && ((aN == cB) && (decide (aL=bL))))))) Kp8 (x_aggeq (by kernel_rfl) (by kernel_rfl) (by kernel_rfl) (eqt_ref12_Same_neq_75 aJ aM aN aL bK cA cB bL _)) (wn (th_n ?_)))
   refine wpE_cond (t:=(!((aJ == bK) && ((aM == cA) && ((aN == cB) && (decide (aL=bL))))))) (by kernel_rfl) (fun hc3=>?_) (fun hc3=>?_)
   ·have h:=h.1 hc3
    refine eg (q0 (vb false) (ln (er (bl_r (th_r (th_r (bl_r (th_r (rs1 Tryz.results30 (v:=(vb false)) ?_)))))))))
    exact ⟨false,rfl,h⟩
   ·have h:=h.2 hc3
    refine wpE_skip (bl_n (th_n (rg (q0 (vi i1) (q0 (vi (q6.wrap (i1+1))) (q0 (vi (q6.wrap (i1+1))) (ln ?_)))))))
    exact ⟨((q6.wrap (i1+1)),Hl1,w1),⟨rfl,hm,hs,hb,h.1⟩,h.2⟩
  ·have h:=h.2 hc2
   refine wpE_exit (th_x (th_x (bl_eq (th_n (eg (q0 (vb true) (ln (er (rs1 Tryz.results30 (v:=(vb true)) ?_)))))))))
   exact ⟨true,rfl,h⟩
def s_P (kind1 who1:Int) (aH aI aF:Int) (aG:ByteArray) (aK:Bool):Int×Int×Int×ByteArray :=
 (kind1,who1,aF,aG)
theorem pw_P (kind1 who1 : Int) (aH aI aF : Int) (aG : ByteArray) (aK : Bool) (w0 : World) :
  Calls Tryz.prog 167 #[(vi kind1),(vi who1),(.agg #[(vi aH),(vi aI),(vu aF),(vs aG),(vb aK)])] w0 (fun e w'=>(e=.returned (.agg #[(vi kind1),(vi who1),(vu aF),(vs aG)]))∧Pure w0 w'):=by
 refine cw (args:=[(vi kind1),(vi who1),(.agg #[(vi aH),(vi aI),(vu aF),(vs aG),(vb aK)])]) Tryz.func167 Tryz.ntmps167 ?_
 have hs:=Hst.start w0
 have hb:=HB.nil None w0
 refine eg (sn (O:=(.cells #[(vi aH),(vi aI),(vu aF),(vs aG),(vb aK)] 35)) xb ?_)
 intro p1 w1 hn1
 obtain ⟨H1,hs,hb⟩:=hs.alloc hb hn1
 refine sn (O:=(.cells #[(vi 0),(vi 0),(vu 0),(vs ⟨#[]⟩)] 75)) (x_alloc (Tryz.zeroValue75 _) rfl) ?_
 intro p2 w2 hn2
 obtain ⟨H2,hs,hb⟩:=hs.alloc hb hn2
 refine ln (eg (q0 (vi kind1) (q0 (vi who1) (q0 (vp (some (p1.add 2))) (q2 (vu aF) (xl (Tryz.isAgg23 _) (hb.c 1 2 (gS gZ))) (q0 (vp (some (p1.add 3))) (q2 (vs aG) (xl (Tryz.isAgg9 _) (hb.c 1 3 (gS gZ))) (q0 (.agg #[(vi kind1),(vi who1),(vu aF),(vs aG)]) (st_set (want0 rfl) (xo p2 [(vi kind1),(vi who1),(vu aF),(vs aG)] (Tryz.sizeOf75 _) (hb.k0 0 4 gZ)) ?_)))))))))
 intro w3 hn3
 obtain ⟨hs,hb⟩:=hb.s0 (l':=[(p2,[(vi kind1),(vi who1),(vu aF),(vs aG)],75),(p1,[(vi aH),(vi aI),(vu aF),(vs aG),(vb aK)],35)]) 0 [(vi kind1),(vi who1),(vu aF),(vs aG)] hs hn3 gZ
 refine ln (er (resG (.inl rfl) (vs:=[(.agg #[(vi kind1),(vi who1),(vu aF),(vs aG)])]) (v:=(.agg #[(vi kind1),(vi who1),(vu aF),(vs aG)])) Tryz.results167 ⟨(rA (Tryz.isAgg75 _) (Tryz.sizeOf75 _) (hb.r0 0 4 gZ)),trivial⟩ (by kernel_rfl) ?_))
 exact ⟨by kernel_rfl,(Ext.refl (F:=None) _).hst hs⟩
theorem p_P (kind1 who1:Int) (aH aI aF:Int) (aG:ByteArray) (aK:Bool) (w0:World):Calls Tryz.prog 167 #[(.int .i64 kind1),(.int .i64 who1),(.agg #[(.int .i64 aH),(.int .i64 aI),(.int .u64 aF),(.string aG),(.bool aK)])] w0 (fun e w'=>e=.returned (.agg #[(.int .i64 (s_P kind1 who1 aH aI aF aG aK).1),(.int .i64 (s_P kind1 who1 aH aI aF aG aK).2.1),(.int .u64 (s_P kind1 who1 aH aI aF aG aK).2.2.1),(.string (s_P kind1 who1 aH aI aF aG aK).2.2.2)])∧Pure w0 w'):=pw_P kind1 who1 aH aI aF aG aK w0
def m_M3 (aH aI aF:Int) (aG:ByteArray) (aK:Bool) (w0:World) (K:Sl→WP):Prop :=
 Br (aH == 1)
  (Br (!aK)
   (∀(H1:NP) (w2:World),Hst w0 None w0 H1 w2 →
   ∀(p2:Addr) (w3:World),New w2 (.cells #[(vi 1),(vi aI),(vu aF),(vs aG)] 75) p2 w3 →
   K (Sl.mk (some p2) 1 1) w3)
   (∀(H1:NP) (w1:World),Hst w0 None w0 H1 w1 →
   K Sl.nil w1))
  (Br (aH == 2)
   (∀(H1:NP) (w4:World),Hst w0 None w0 H1 w4 →
   ∀(p3:Addr) (w5:World),New w4 (.cells #[(vi 2),(vi aI),(vu aF),(vs aG)] 75) p3 w5 →
   K (Sl.mk (some p3) 1 1) w5)
   (Br (aH == 3)
    (∀(H1:NP) (w6:World),Hst w0 None w0 H1 w6 →
    ∀(p4:Addr) (w7:World),New w6 (.cells #[(vi 3),(vi 0),(vu aF),(vs aG)] 75) p4 w7 →
    K (Sl.mk (some p4) 1 1) w7)
    (Br (aH == 4)
     (∀(H1:NP) (w8:World),Hst w0 None w0 H1 w8 →
     ∀(p5:Addr) (w9:World),New w8 (.cells #[(vi 4),(vi aI),(vu aF),(vs aG)] 75) p5 w9 →
     Br (!aK)
      (∃C1:WP,C1 w9.drew∧∀w10,w10=w9.drew →
      Calls Tryz.prog 167 #[(vi 1),(vi 0),(.agg #[(vi aH),(vi aI),(vu aF),(vs aG),(vb aK)])] w10 (fun e w11=>∃aA bJ aB:Int,∃aC:ByteArray,e=.returned (.agg #[(vi aA),(vi bJ),(vu aB),(vs aC)])∧C1 w11∧
       Kept H1 w10 w11 ∧
       Calls Tryz.prog 167 #[(vi 1),(vi 1),(.agg #[(vi aH),(vi aI),(vu aF),(vs aG),(vb aK)])] w11 (fun e w12=>∃aT bQ aR:Int,∃aV:ByteArray,e=.returned (.agg #[(vi aT),(vi bQ),(vu aR),(vs aV)])∧C1 w12∧
        Kept H1 w11 w12 ∧
        ∀(p6:Addr) (w13:World),New w12 (.cells #[(vi aA),(vi bJ),(vu aB),(vs aC),(vi aT),(vi bQ),(vu aR),(vs aV)] 75) p6 w13→C1 w13 ∧
        ∃s1:Sl,∃w14:World,(Builtin.append_ #[71,71] 71 #[(Sl.mk (some p5) 1 1).v,(Sl.mk (some p6) 2 2).v]).run Tryz.prog w13=.ok s1.v w14∧C1 w14 ∧
        Kept H1 w13 w14 ∧
        K s1 w14)))
      (K (Sl.mk (some p5) 1 1) w9))
     (Br (aH == 5)
      (∀(H1:NP) (w15:World),Hst w0 None w0 H1 w15 →
      ∀(p7:Addr) (w16:World),New w15 (.cells #[(vi 5),(vi 2),(vu aF),(vs aG)] 75) p7 w16 →
      K (Sl.mk (some p7) 1 1) w16)
      (Br (aH == 6)
       (∀(H1:NP) (w1:World),Hst w0 None w0 H1 w1 →
       ∃C2:WP,C2 w1.drew∧∀w17,w17=w1.drew →
       Calls Tryz.prog 167 #[(vi 6),(vi 2),(.agg #[(vi aH),(vi aI),(vu aF),(vs aG),(vb aK)])] w17 (fun e w18=>∃bG bR bH:Int,∃bI:ByteArray,e=.returned (.agg #[(vi bG),(vi bR),(vu bH),(vs bI)])∧C2 w18∧
        Kept H1 w17 w18 ∧
        Calls Tryz.prog 167 #[(vi 2),(vi 0),(.agg #[(vi aH),(vi aI),(vu aF),(vs aG),(vb aK)])] w18 (fun e w19=>∃bS bT bU:Int,∃bV:ByteArray,e=.returned (.agg #[(vi bS),(vi bT),(vu bU),(vs bV)])∧C2 w19∧
         Kept H1 w18 w19 ∧
         Calls Tryz.prog 167 #[(vi 2),(vi 1),(.agg #[(vi aH),(vi aI),(vu aF),(vs aG),(vb aK)])] w19 (fun e w20=>∃bW bX bY:Int,∃bZ:ByteArray,e=.returned (.agg #[(vi bW),(vi bX),(vu bY),(vs bZ)])∧C2 w20∧
          Kept H1 w19 w20 ∧
          ∀(p8:Addr) (w21:World),New w20 (.cells #[(vi bG),(vi bR),(vu bH),(vs bI),(vi bS),(vi bT),(vu bU),(vs bV),(vi bW),(vi bX),(vu bY),(vs bZ)] 75) p8 w21→C2 w21 ∧
          K (Sl.mk (some p8) 3 3) w21))))
       (∀(H1:NP) (w1:World),Hst w0 None w0 H1 w1 →
       K Sl.nil w1))))))
theorem w_M3 (aH aI aF : Int) (aG : ByteArray) (aK : Bool) (w0 : World) (K : Sl → WP) (h : m_M3 aH aI aF aG aK w0 K) :
  Calls Tryz.prog 99 #[(.agg #[(vi aH),(vi aI),(vu aF),(vs aG),(vb aK)])] w0 (fun e w'=>∃r1:Sl,e=.returned r1.v∧K r1 w'):=by
 unfold m_M3 at h
 refine cw (args:=[(.agg #[(vi aH),(vi aI),(vu aF),(vs aG),(vb aK)])]) Tryz.func99 Tryz.ntmps99 ?_
 have hs:=Hst.start w0
 have hb:=HB.nil None w0
 refine eg (sn (O:=(.cells #[(vi aH),(vi aI),(vu aF),(vs aG),(vb aK)] 35)) xb ?_)
 intro p1 w1 hn1
 obtain ⟨H1,hs,hb⟩:=hs.alloc hb hn1
 refine q0 Sl.nil.v (ln (wpE_seq (eg (q0 (vp (some p1)) (q2 (vi aH) (xl (Tryz.isAgg3 _) (hb.c0 0 gZ)) (ln (wpE_block (wpE_seq ?_))))))))
 refine rg (q0 (vb (aH == 1)) (q0 (vb (aH == 1)) (ln ?_)))
 refine wpE_cond (t:=(aH == 1)) (by kernel_rfl) (fun hc1=>?_) (fun hc1=>?_)
 ·have h:=h.1 hc1
  refine eg (q0 (vp (some (p1.add 4))) (q2 (vb aK) (xl (Tryz.isAgg4 _) (hb.c 0 4 gZ)) (q0 (vb (!aK)) (ln ?_))))
  refine wpE_cond (t:=(!aK)) (by kernel_rfl) (fun hc2=>?_) (fun hc2=>?_)
  ·have h:=h.1 hc2
   refine eg (q0 (vp (some (p1.add 1))) (q2 (vi aI) (xl (Tryz.isAgg3 _) (hb.c 0 1 gZ)) (q2 (.agg #[(vi aH),(vi aI),(vu aF),(vs aG),(vb aK)]) (xa p1 [(vi aH),(vi aI),(vu aF),(vs aG),(vb aK)] (Tryz.isAgg35 _) (Tryz.sizeOf35 _) (hb.r0 0 5 gZ)) ?_)))
   refine sc Tryz.call167 ((p_P 1 aI aH aI aF aG aK w1).mono ?_)
   rintro e w2 ⟨he,hE⟩
   refine ⟨(.agg #[(vi 1),(vi aI),(vu aF),(vs aG)]),he.trans (by kernel_rfl),?_⟩
   have hs:=hs.pure hE
   have hb:=hb.pure hE
   have h:=h H1 w2 hs
   have hs:=hs.here
   refine st_new (O:=(.cells #[(vi 1),(vi aI),(vu aF),(vs aG)] 75)) (fun p=>(Sl.mk (some p) 1 1).v) (want0 rfl) (x_buildSlice (vs:=#[(0,(.agg #[(vi 1),(vi aI),(vu aF),(vs aG)]))]) (by kernel_rfl) (by kernel_rfl)) ?_
   intro p2 w3 hn2
   have h:=h p2 w3 hn2
   have hs:=hs.again (Ext.new (F:=None) hn2).keptP
   have hb:=hb.kept (Ext.new (F:=None) hn2).keptP
   refine q0 ((Sl.mk (some p2) 1 1).v) (ln (er (bl_r (th_r (rs1 Tryz.results99 (v:=(Sl.mk (some p2) 1 1).v) ?_)))))
   exact ⟨(Sl.mk (some p2) 1 1),rfl,h⟩
  ·have h:=h.2 hc2
   refine wpE_skip (bl_n (th_n (eg (q0 Sl.nil.v (ln (er ?_))))))
   have h:=h H1 w1 hs
   have hs:=hs.here
   refine rs1 Tryz.results99 (v:=Sl.nil.v) ?_
   exact ⟨Sl.nil,rfl,h⟩
 ·have h:=h.2 hc1
  refine eg (q0 (vb (aH == 2)) (q0 (vb (aH == 2)) (ln ?_)))
  refine wpE_cond (t:=(aH == 2)) (by kernel_rfl) (fun hc3=>?_) (fun hc3=>?_)
  ·have h:=h.1 hc3
   refine eg (q0 (vp (some (p1.add 1))) (q2 (vi aI) (xl (Tryz.isAgg3 _) (hb.c 0 1 gZ)) (q2 (.agg #[(vi aH),(vi aI),(vu aF),(vs aG),(vb aK)]) (xa p1 [(vi aH),(vi aI),(vu aF),(vs aG),(vb aK)] (Tryz.isAgg35 _) (Tryz.sizeOf35 _) (hb.r0 0 5 gZ)) ?_)))
   refine sc Tryz.call167 ((p_P 2 aI aH aI aF aG aK w1).mono ?_)
   rintro e w4 ⟨he,hE⟩
   refine ⟨(.agg #[(vi 2),(vi aI),(vu aF),(vs aG)]),he.trans (by kernel_rfl),?_⟩
   have hs:=hs.pure hE
   have hb:=hb.pure hE
   have h:=h H1 w4 hs
   have hs:=hs.here
   refine st_new (O:=(.cells #[(vi 2),(vi aI),(vu aF),(vs aG)] 75)) (fun p=>(Sl.mk (some p) 1 1).v) (want0 rfl) (x_buildSlice (vs:=#[(0,(.agg #[(vi 2),(vi aI),(vu aF),(vs aG)]))]) (by kernel_rfl) (by kernel_rfl)) ?_
   intro p3 w5 hn3
   have h:=h p3 w5 hn3
   have hs:=hs.again (Ext.new (F:=None) hn3).keptP
   have hb:=hb.kept (Ext.new (F:=None) hn3).keptP
   refine q0 ((Sl.mk (some p3) 1 1).v) (ln (er (bl_r (th_r (rs1 Tryz.results99 (v:=(Sl.mk (some p3) 1 1).v) ?_)))))
   exact ⟨(Sl.mk (some p3) 1 1),rfl,h⟩
  ·have h:=h.2 hc3
   refine eg (q0 (vb (aH == 3)) (q0 (vb (aH == 3)) (ln ?_)))
   refine wpE_cond (t:=(aH == 3)) (by kernel_rfl) (fun hc4=>?_) (fun hc4=>?_)
   ·have h:=h.1 hc4
    refine eg (q2 (.agg #[(vi aH),(vi aI),(vu aF),(vs aG),(vb aK)]) (xa p1 [(vi aH),(vi aI),(vu aF),(vs aG),(vb aK)] (Tryz.isAgg35 _) (Tryz.sizeOf35 _) (hb.r0 0 5 gZ)) ?_)
    refine sc Tryz.call167 ((p_P 3 0 aH aI aF aG aK w1).mono ?_)
    rintro e w6 ⟨he,hE⟩
    refine ⟨(.agg #[(vi 3),(vi 0),(vu aF),(vs aG)]),he.trans (by kernel_rfl),?_⟩
    have hs:=hs.pure hE
    have hb:=hb.pure hE
    have h:=h H1 w6 hs
    have hs:=hs.here
    refine st_new (O:=(.cells #[(vi 3),(vi 0),(vu aF),(vs aG)] 75)) (fun p=>(Sl.mk (some p) 1 1).v) (want0 rfl) (x_buildSlice (vs:=#[(0,(.agg #[(vi 3),(vi 0),(vu aF),(vs aG)]))]) (by kernel_rfl) (by kernel_rfl)) ?_
    intro p4 w7 hn4
    have h:=h p4 w7 hn4
    have hs:=hs.again (Ext.new (F:=None) hn4).keptP
    have hb:=hb.kept (Ext.new (F:=None) hn4).keptP
    refine q0 ((Sl.mk (some p4) 1 1).v) (ln (er (bl_r (th_r (rs1 Tryz.results99 (v:=(Sl.mk (some p4) 1 1).v) ?_)))))
    exact ⟨(Sl.mk (some p4) 1 1),rfl,h⟩
   ·have h:=h.2 hc4
    refine eg (q0 (vb (aH == 4)) (q0 (vb (aH == 4)) (ln ?_)))
    refine wpE_cond (t:=(aH == 4)) (by kernel_rfl) (fun hc5=>?_) (fun hc5=>?_)
    ·have h:=h.1 hc5
     refine eg (q0 (vp (some (p1.add 1))) (q2 (vi aI) (xl (Tryz.isAgg3 _) (hb.c 0 1 gZ)) (q2 (.agg #[(vi aH),(vi aI),(vu aF),(vs aG),(vb aK)]) (xa p1 [(vi aH),(vi aI),(vu aF),(vs aG),(vb aK)] (Tryz.isAgg35 _) (Tryz.sizeOf35 _) (hb.r0 0 5 gZ)) ?_)))
     refine sc Tryz.call167 ((p_P 4 aI aH aI aF aG aK w1).mono ?_)
     rintro e w8 ⟨he,hE⟩
     refine ⟨(.agg #[(vi 4),(vi aI),(vu aF),(vs aG)]),he.trans (by kernel_rfl),?_⟩
     have hs:=hs.pure hE
     have hb:=hb.pure hE
     have h:=h H1 w8 hs
     have hs:=hs.here
     refine st_new (O:=(.cells #[(vi 4),(vi aI),(vu aF),(vs aG)] 75)) (fun p=>(Sl.mk (some p) 1 1).v) (want0 rfl) (x_buildSlice (vs:=#[(0,(.agg #[(vi 4),(vi aI),(vu aF),(vs aG)]))]) (by kernel_rfl) (by kernel_rfl)) ?_
     intro p5 w9 hn6
     have h:=h p5 w9 hn6
     have hs:=hs.again (Ext.new (F:=None) hn6).keptP
     have hb:=hb.kept (Ext.new (F:=None) hn6).keptP
     refine q0 ((Sl.mk (some p5) 1 1).v) (ln (wpE_seq (eg (q0 (vp (some (p1.add 4))) (q2 (vb aK) (xl (Tryz.isAgg4 _) (hb.c 0 4 gZ)) (q0 (vb (!aK)) (ln ?_)))))))
     refine wpE_cond (t:=(!aK)) (by kernel_rfl) (fun hc6=>?_) (fun hc6=>?_)
     ·have h:=h.1 hc6
      obtain ⟨C1,hC,h⟩:=h
      refine wpE_drawnC (fun x=>C1 x∧HB H1 x [(p1,[(vi aH),(vi aI),(vu aF),(vs aG),(vb aK)],35)]) [2,4,5,6] [] (by kernel_rfl) (by kernel_rfl) (by kernel_rfl) (by kernel_rfl) ⟨hC,hb.drew⟩ ?_
      intro w10 hw10
      have h:=h w10 hw10
      have hs:Hst w0 H1 w9 H1 w10:=by rw [hw10];exact hs.drew
      have hb:HB H1 w10 [(p1,[(vi aH),(vi aI),(vu aF),(vs aG),(vb aK)],35)]:=by rw [hw10];exact hb.drew
      have hs:=hs.here
      refine qx 0 ((Sl.mk (some p5) 1 1).v) Kp0 (qz 1 (.agg #[(vi aH),(vi aI),(vu aF),(vs aG),(vb aK)]) Kp1 (fun w' hw'=>(xa p1 [(vi aH),(vi aI),(vu aF),(vs aG),(vb aK)] (Tryz.isAgg35 _) (Tryz.sizeOf35 _) (hw'.2.r0 0 5 gZ))) (qz 3 (.agg #[(vi aH),(vi aI),(vu aF),(vs aG),(vb aK)]) Kp3 (fun w' hw'=>(xa p1 [(vi aH),(vi aI),(vu aF),(vs aG),(vb aK)] (Tryz.isAgg35 _) (Tryz.sizeOf35 _) (hw'.2.r0 0 5 gZ))) (lg 2 ?_)))
      refine sl_call Kp2 (want0 rfl) (by kernel_rfl) (xc Tryz.call167) (h.mono ?_)
      rintro e w11 ⟨aA,bJ,aB,aC,rfl,hC,hk,h⟩
      refine ⟨_,rfl,.inr ⟨hC,hb.kept hk⟩,?_⟩
      obtain ⟨hs,hb⟩:=hk.hh hs hb
      refine lg 4 ?_
      refine sl_call Kp4 (want0 rfl) (by kernel_rfl) (xc Tryz.call167) (h.mono ?_)
      rintro e w12 ⟨aT,bQ,aR,aV,rfl,hC,hk,h⟩
      refine ⟨_,rfl,.inr ⟨hC,hb.kept hk⟩,?_⟩
      obtain ⟨hs,hb⟩:=hk.hh hs hb
      refine lg 5 (sl_new (O:=(.cells #[(vi aA),(vi bJ),(vu aB),(vs aC),(vi aT),(vi bQ),(vu aR),(vs aV)] 75)) (fun p=>(Sl.mk (some p) 2 2).v) Kp5 (want0 rfl) (by kernel_rfl) (x_buildSlice (vs:=#[(0,(.agg #[(vi aA),(vi bJ),(vu aB),(vs aC)])),(1,(.agg #[(vi aT),(vi bQ),(vu aR),(vs aV)]))]) (by kernel_rfl) (by kernel_rfl)) ?_)
      intro p6 w13 hn5
      have h:=h p6 w13 hn5
      refine ⟨.inr ⟨h.1,hb.kept (Ext.new (F:=None) hn5).keptP⟩,?_⟩
      have h:=h.2
      have hs:=hs.again (Ext.new (F:=None) hn5).keptP
      have hb:=hb.kept (Ext.new (F:=None) hn5).keptP
      refine lg 6 ?_
      obtain ⟨s1,w14,hv1,hC,hk,h⟩:=h
      refine sl (v:=s1.v) Kp6 (want0 rfl) (by kernel_rfl) (x_builtin (args:=#[(Sl.mk (some p5) 1 1).v,(Sl.mk (some p6) 2 2).v]) (by kernel_rfl) (fun _=>rfl) hv1) (.inr ⟨hC,hb.kept hk⟩) ?_
      obtain ⟨hs,hb⟩:=hk.hh hs hb
      refine qx 7 s1.v Kp7 (wn (th_n (eg (q0 s1.v (q0 s1.v (ln (er (bl_r (th_r ?_)))))))))
      refine rs1 Tryz.results99 (v:=s1.v) ?_
      exact ⟨s1,rfl,h⟩
     ·have h:=h.2 hc6
      refine wpE_skip (th_n (eg (q0 ((Sl.mk (some p5) 1 1).v) (q0 ((Sl.mk (some p5) 1 1).v) (ln (er (bl_r (th_r (rs1 Tryz.results99 (v:=(Sl.mk (some p5) 1 1).v) ?_)))))))))
      exact ⟨(Sl.mk (some p5) 1 1),rfl,h⟩
    ·have h:=h.2 hc5
     refine eg (q0 (vb (aH == 5)) (q0 (vb (aH == 5)) (ln ?_)))
     refine wpE_cond (t:=(aH == 5)) (by kernel_rfl) (fun hc7=>?_) (fun hc7=>?_)
     ·have h:=h.1 hc7
      refine eg (q2 (.agg #[(vi aH),(vi aI),(vu aF),(vs aG),(vb aK)]) (xa p1 [(vi aH),(vi aI),(vu aF),(vs aG),(vb aK)] (Tryz.isAgg35 _) (Tryz.sizeOf35 _) (hb.r0 0 5 gZ)) ?_)
      refine sc Tryz.call167 ((p_P 5 2 aH aI aF aG aK w1).mono ?_)
      rintro e w15 ⟨he,hE⟩
      refine ⟨(.agg #[(vi 5),(vi 2),(vu aF),(vs aG)]),he.trans (by kernel_rfl),?_⟩
      have hs:=hs.pure hE
      have hb:=hb.pure hE
      have h:=h H1 w15 hs
      have hs:=hs.here
      refine st_new (O:=(.cells #[(vi 5),(vi 2),(vu aF),(vs aG)] 75)) (fun p=>(Sl.mk (some p) 1 1).v) (want0 rfl) (x_buildSlice (vs:=#[(0,(.agg #[(vi 5),(vi 2),(vu aF),(vs aG)]))]) (by kernel_rfl) (by kernel_rfl)) ?_
      intro p7 w16 hn7
      have h:=h p7 w16 hn7
      have hs:=hs.again (Ext.new (F:=None) hn7).keptP
      have hb:=hb.kept (Ext.new (F:=None) hn7).keptP
      refine q0 ((Sl.mk (some p7) 1 1).v) (ln (er (bl_r (th_r (rs1 Tryz.results99 (v:=(Sl.mk (some p7) 1 1).v) ?_)))))
      exact ⟨(Sl.mk (some p7) 1 1),rfl,h⟩
     ·have h:=h.2 hc7
      refine eg (q0 (vb (aH == 6)) (q0 (vb (aH == 6)) (ln ?_)))
      refine wpE_cond (t:=(aH == 6)) (by kernel_rfl) (fun hc8=>?_) (fun hc8=>?_)
      ·have h:=h.1 hc8
       refine wpE_seq ?_
       have h:=h H1 w1 hs
       have hs:=hs.here
       obtain ⟨C2,hC,h⟩:=h
       refine wpE_drawnC (fun x=>C2 x∧HB H1 x [(p1,[(vi aH),(vi aI),(vu aF),(vs aG),(vb aK)],35)]) [1,3,5,6] [] (by kernel_rfl) (by kernel_rfl) (by kernel_rfl) (by kernel_rfl) ⟨hC,hb.drew⟩ ?_
       intro w17 hw17
       have h:=h w17 hw17
       have hs:Hst w0 H1 w1 H1 w17:=by rw [hw17];exact hs.drew
       have hb:HB H1 w17 [(p1,[(vi aH),(vi aI),(vu aF),(vs aG),(vb aK)],35)]:=by rw [hw17];exact hb.drew
       have hs:=hs.here
       refine qz 0 (.agg #[(vi aH),(vi aI),(vu aF),(vs aG),(vb aK)]) Kp0 (fun w' hw'=>(xa p1 [(vi aH),(vi aI),(vu aF),(vs aG),(vb aK)] (Tryz.isAgg35 _) (Tryz.sizeOf35 _) (hw'.2.r0 0 5 gZ))) (qz 2 (.agg #[(vi aH),(vi aI),(vu aF),(vs aG),(vb aK)]) Kp2 (fun w' hw'=>(xa p1 [(vi aH),(vi aI),(vu aF),(vs aG),(vb aK)] (Tryz.isAgg35 _) (Tryz.sizeOf35 _) (hw'.2.r0 0 5 gZ))) (qz 4 (.agg #[(vi aH),(vi aI),(vu aF),(vs aG),(vb aK)]) Kp4 (fun w' hw'=>(xa p1 [(vi aH),(vi aI),(vu aF),(vs aG),(vb aK)] (Tryz.isAgg35 _) (Tryz.sizeOf35 _) (hw'.2.r0 0 5 gZ))) (lg 1 ?_)))
       refine sl_call Kp1 (want0 rfl) (by kernel_rfl) (xc Tryz.call167) (h.mono ?_)
       rintro e w18 ⟨bG,bR,bH,bI,rfl,hC,hk,h⟩
       refine ⟨_,rfl,.inr ⟨hC,hb.kept hk⟩,?_⟩
       obtain ⟨hs,hb⟩:=hk.hh hs hb
       refine lg 3 ?_
       refine sl_call Kp3 (want0 rfl) (by kernel_rfl) (xc Tryz.call167) (h.mono ?_)
       rintro e w19 ⟨bS,bT,bU,bV,rfl,hC,hk,h⟩
       refine ⟨_,rfl,.inr ⟨hC,hb.kept hk⟩,?_⟩
       obtain ⟨hs,hb⟩:=hk.hh hs hb
       refine lg 5 ?_
       refine sl_call Kp5 (want0 rfl) (by kernel_rfl) (xc Tryz.call167) (h.mono ?_)
       rintro e w20 ⟨bW,bX,bY,bZ,rfl,hC,hk,h⟩
       refine ⟨_,rfl,.inr ⟨hC,hb.kept hk⟩,?_⟩
       obtain ⟨hs,hb⟩:=hk.hh hs hb
       refine lg 6 (sl_new (O:=(.cells #[(vi bG),(vi bR),(vu bH),(vs bI),(vi bS),(vi bT),(vu bU),(vs bV),(vi bW),(vi bX),(vu bY),(vs bZ)] 75)) (fun p=>(Sl.mk (some p) 3 3).v) Kp6 (want0 rfl) (by kernel_rfl) (x_buildSlice (vs:=#[(0,(.agg #[(vi bG),(vi bR),(vu bH),(vs bI)])),(1,(.agg #[(vi bS),(vi bT),(vu bU),(vs bV)])),(2,(.agg #[(vi bW),(vi bX),(vu bY),(vs bZ)]))]) (by kernel_rfl) (by kernel_rfl)) ?_)
       intro p8 w21 hn8
       have h:=h p8 w21 hn8
       refine ⟨.inr ⟨h.1,hb.kept (Ext.new (F:=None) hn8).keptP⟩,?_⟩
       have h:=h.2
       have hs:=hs.again (Ext.new (F:=None) hn8).keptP
       have hb:=hb.kept (Ext.new (F:=None) hn8).keptP
       refine qx 7 ((Sl.mk (some p8) 3 3).v) Kp7 (wn (th_n (er (bl_r (th_r (rs1 Tryz.results99 (v:=(Sl.mk (some p8) 3 3).v) ?_))))))
       exact ⟨(Sl.mk (some p8) 3 3),rfl,h⟩
      ·have h:=h.2 hc8
       refine wpE_skip (bl_n (th_n (eg (q0 Sl.nil.v (ln (er ?_))))))
       have h:=h H1 w1 hs
       have hs:=hs.here
       refine rs1 Tryz.results99 (v:=Sl.nil.v) ?_
       exact ⟨Sl.nil,rfl,h⟩
def m_N3 (p1:Option Addr) (t1:Int) (w0:World) (K:Sl→WP):Prop :=
 Calls Tryz.prog 87 #[(vp p1),(vi t1)] w0 (fun e w1=>∃r1:Bool,e=.returned (vb r1)∧
  Kept None w0 w1 ∧
  Br (!r1)
   (K Sl.nil w1)
   (Calls Tryz.prog 42 #[(vp p1),(vi t1)] w1 (fun e w2=>∃aA aE aB:Int,∃aC:ByteArray,∃aD r2:Bool,e=.returned (.tuple #[(.agg #[(vi aA),(vi aE),(vu aB),(vs aC),(vb aD)]),(vb r2)])∧
    Kept None w1 w2 ∧
    Br (!r2)
     (∀(H1:NP) (w4:World),Hst w0 None w2 H1 w4 →
     K Sl.nil w4)
     (∀(H1:NP) (w4:World),Hst w0 None w2 H1 w4 →
     Calls Tryz.prog 99 #[(.agg #[(vi aA),(vi aE),(vu aB),(vs aC),(vb aD)])] w4 (fun e w5=>∃r3:Sl,e=.returned r3.v∧
      Kept H1 w4 w5 ∧
      K r3 w5)))))
theorem w_N3 (p1 : Option Addr) (t1 : Int) (w0 : World) (K : Sl → WP) (h : m_N3 p1 t1 w0 K) :
  Calls Tryz.prog 43 #[(vp p1),(vi t1)] w0 (fun e w'=>∃r4:Sl,e=.returned r4.v∧K r4 w'):=by
 unfold m_N3 at h
 refine cw (args:=[(vp p1),(vi t1)]) Tryz.func43 Tryz.ntmps43 ?_
 have hs:=Hst.start w0
 have hb:=HB.nil None w0
 refine eg (q0 Sl.nil.v (ln (wpE_seq (eg (q0 (vp p1) (q0 (vi t1) ?_))))))
 refine sc Tryz.call87 (h.mono ?_)
 rintro e w1 ⟨r1,rfl,hk,h⟩
 refine ⟨_,rfl,?_⟩
 obtain ⟨hs,hb⟩:=hk.hh hs hb
 refine q0 (vb (!r1)) (ln ?_)
 refine wpE_cond (t:=(!r1)) (by kernel_rfl) (fun hc1=>?_) (fun hc1=>?_)
 ·have h:=h.1 hc1
  refine eg (q0 Sl.nil.v (ln (er (th_r (rs1 Tryz.results43 (v:=Sl.nil.v) ?_)))))
  exact ⟨Sl.nil,rfl,h⟩
 ·have h:=h.2 hc1
  refine wpE_skip (th_n (eg (q0 (vp p1) (q0 (vi t1) ?_))))
  refine sc Tryz.call42 (h.mono ?_)
  rintro e w2 ⟨aA,aE,aB,aC,aD,r2,rfl,hk,h⟩
  refine ⟨_,rfl,?_⟩
  obtain ⟨hs,hb⟩:=hk.hh hs hb
  refine q0 (.tuple #[(.agg #[(vi aA),(vi aE),(vu aB),(vs aC),(vb aD)]),(vb r2)]) (q0 (.agg #[(vi aA),(vi aE),(vu aB),(vs aC),(vb aD)]) (q0 (vb r2) (sn (O:=(.cells #[(vi 0),(vi 0),(vu 0),(vs ⟨#[]⟩),(vb false)] 35)) (x_alloc (Tryz.zeroValue35 _) rfl) ?_)))
  intro p2 w3 hn1
  obtain ⟨H1,hs,hb⟩:=hs.alloc hb hn1
  refine st_set (want0 rfl) (xo p2 [(vi aA),(vi aE),(vu aB),(vs aC),(vb aD)] (Tryz.sizeOf35 _) (hb.k0 0 5 gZ)) ?_
  intro w4 hn2
  obtain ⟨hs,hb⟩:=hb.s0 (l':=[(p2,[(vi aA),(vi aE),(vu aB),(vs aC),(vb aD)],35)]) 0 [(vi aA),(vi aE),(vu aB),(vs aC),(vb aD)] hs hn2 gZ
  refine q0 (vb r2) (ln (wpE_seq (eg (q0 (vb r2) (q0 (vb (!r2)) (ln ?_))))))
  refine wpE_cond (t:=(!r2)) (by kernel_rfl) (fun hc2=>?_) (fun hc2=>?_)
  ·have h:=h.1 hc2
   refine eg (q0 Sl.nil.v (ln (er (th_r ?_))))
   have h:=h H1 w4 hs
   have hs:=hs.here
   refine rs1 Tryz.results43 (v:=Sl.nil.v) ?_
   exact ⟨Sl.nil,rfl,h⟩
  ·have h:=h.2 hc2
   refine wpE_skip (th_n (eg (q2 (.agg #[(vi aA),(vi aE),(vu aB),(vs aC),(vb aD)]) (xa p2 [(vi aA),(vi aE),(vu aB),(vs aC),(vb aD)] (Tryz.isAgg35 _) (Tryz.sizeOf35 _) (hb.r0 0 5 gZ)) ?_)))
   have h:=h H1 w4 hs
   have hs:=hs.here
   refine sc Tryz.call99 (h.mono ?_)
   rintro e w5 ⟨r3,rfl,hk,h⟩
   refine ⟨_,rfl,?_⟩
   obtain ⟨hs,hb⟩:=hk.hh hs hb
   refine q0 r3.v (ln (er (rs1 Tryz.results43 (v:=r3.v) ?_)))
   exact ⟨r3,rfl,h⟩
def m_I1_l1 (l1:Sl) (who1:Int) (out1:Sl) (x1:Int) (w0:World) (Hl1:NP) (wl1:World) (Kc1:Sl→Int→NP→WP) (K:Sl→WP):Prop :=
 Br (decide (x1<(l1.len:Int)))
  (∃a1:Addr,At l1 x1 4 a1 ∧
  ∃aJ aM aN:Int,∃aL:ByteArray,Row wl1 a1 [(vi aJ),(vi aM),(vu aN),(vs aL)] ∧
  Br ((aJ == 2) && (aM == who1))
   (∀(H2:NP) (w3:World),Hst w0 Hl1 wl1 H2 w3 →
   ∀(p2:Addr) (w4:World),New w3 (.cells #[(vi aJ),(vi aM),(vu aN),(vs aL)] 75) p2 w4 →
   ∃s1:Sl,∃w5:World,(Builtin.append_ #[71,71] 71 #[out1.v,(Sl.mk (some p2) 1 1).v]).run Tryz.prog w4=.ok s1.v w5 ∧
   Kept H2 w4 w5 ∧
   Kc1 s1 (q6.wrap (x1+1)) H2 w5)
   (∀(H2:NP) (w3:World),Hst w0 Hl1 wl1 H2 w3 →
   Kc1 out1 (q6.wrap (x1+1)) H2 w3))
  (K out1 wl1)
def m_I1 (l1:Sl) (who1:Int) (w0:World) (K:Sl→WP):Prop :=
 ∃(I1:Sl→Int→NP→WP) (mu1:Sl→Int→World→Nat),I1 Sl.nil 0 None w0 ∧
  ∀(out1:Sl) (x1:Int) (Hl1:NP) (wl1:World),Hst w0 Hl1 wl1 Hl1 wl1→I1 out1 x1 Hl1 wl1→m_I1_l1 l1 who1 out1 x1 w0 Hl1 wl1 (fun y'0 y'1 H' w'=>I1 y'0 y'1 H' w'∧mu1 y'0 y'1 w'<mu1 out1 x1 wl1) K
theorem w_I1 (l1 : Sl) (who1 : Int) (w0 : World) (K : Sl → WP) (h : m_I1 l1 who1 w0 K) :
  Calls Tryz.prog 40 #[l1.v,(vi who1)] w0 (fun e w'=>∃r1:Sl,e=.returned r1.v∧K r1 w'):=by
 unfold m_I1 at h
 refine cw (args:=[l1.v,(vi who1)]) Tryz.func40 Tryz.ntmps40 ?_
 have hs:=Hst.start w0
 have hb:=HB.nil None w0
 refine eg (q0 Sl.nil.v (ln (eg (q0 Sl.nil.v (ln (wpE_seq (wpE_seq ?_)))))))
 refine rg (q0 l1.v (q0 (vi (l1.len:Int)) (q0 (vi 0) (ln (wpE_block ?_)))))
 obtain ⟨I1,mu1,h0,hr⟩:=h
 refine wpE_loop (σ:=Sl×Int×NP×World) (fun s ρ w=>w=s.2.2.2∧Has ρ [(1,(vi who1)),(5,s.1.v),(8,l1.v),(9,(vi (l1.len:Int))),(10,(vi s.2.1))]∧Hst w0 s.2.2.1 w s.2.2.1 w∧HB s.2.2.1 w []∧I1 s.1 s.2.1 s.2.2.1 s.2.2.2) (fun s=>mu1 s.1 s.2.1 s.2.2.2) (Sl.nil,0,None,w0) ⟨rfl,hm,hs,hb,h0⟩ ?_
 rintro ⟨out1,x1,Hl1,wl1⟩ ρ w ⟨hw,hH,hs,hb,hI⟩
 obtain rfl:wl1=w:=(show w=wl1 from hw).symm
 have hH:Has ρ [(1,(vi who1)),(5,out1.v),(8,l1.v),(9,(vi (l1.len:Int))),(10,(vi x1))]:=hH
 have hs:Hst w0 Hl1 wl1 Hl1 wl1:=hs
 have hb:HB Hl1 wl1 []:=hb
 have h:=hr out1 x1 Hl1 wl1 hs hI
 unfold m_I1_l1 at h
 refine wpE_has hH ?_
 refine eg (q0 (vb (decide (x1<(l1.len:Int)))) (ln (wpE_seq ?_)))
 refine wpE_cond (t:=(decide (x1<(l1.len:Int)))) (by kernel_rfl) (fun hc1=>?_) (fun hc1=>?_)
 ·have h:=h.1 hc1
  refine wpE_skip (th_n (wpE_seq (wpE_block (eg ?_))))
  obtain ⟨a1,hv3,h⟩:=h
  refine q2 (vp (some a1)) (xi (Tryz.runUnderlying71 _) (Tryz.sizeOf75 _) hv3) ?_
  obtain ⟨aJ,aM,aN,aL,hv2,h⟩:=h
  refine q2 (.agg #[(vi aJ),(vi aM),(vu aN),(vs aL)]) (xa a1 [(vi aJ),(vi aM),(vu aN),(vs aL)] (Tryz.isAgg75 _) (Tryz.sizeOf75 _) hv2) (sn (O:=(.cells #[(vi 0),(vi 0),(vu 0),(vs ⟨#[]⟩)] 75)) (x_alloc (Tryz.zeroValue75 _) rfl) ?_)
  intro p1 w1 hn1
  obtain ⟨H1,hs,hb⟩:=hs.alloc hb hn1
  refine st_set (want0 rfl) (xo p1 [(vi aJ),(vi aM),(vu aN),(vs aL)] (Tryz.sizeOf75 _) (hb.k0 0 4 gZ)) ?_
  intro w2 hn2
  obtain ⟨hs,hb⟩:=hb.s0 (l':=[(p1,[(vi aJ),(vi aM),(vu aN),(vs aL)],75)]) 0 [(vi aJ),(vi aM),(vu aN),(vs aL)] hs hn2 gZ
  refine ln (wpE_seq ?_)
  refine wpE_via (fun ρ wJ=>∃b1'0:Bool,∃HJ:NP,((aJ == 2)=b1'0)∧Hst w0 Hl1 wl1 HJ wJ∧HB HJ wJ [(p1,[(vi aJ),(vi aM),(vu aN),(vs aL)],75)]∧Has ρ [(1,(vi who1)),(5,out1.v),(7,(vp (some p1))),(8,l1.v),(9,(vi (l1.len:Int))),(10,(vi x1)),(22,(vb (b1'0 && (aM == who1))))]) ?_ ?_
  ·refine rg (q0 (vp (some p1)) (q2 (vi aJ) (xl (Tryz.isAgg3 _) (hb.c0 0 gZ)) (q0 (vb (aJ == 2)) (q0 (vb (aJ == 2)) ?_))))
   rcases Bool.eq_false_or_eq_true (aJ == 2) with hg2 | hg2
   ·refine q1 (vp (some (p1.add 1))) (wy 17 hg2) (stp (v:=(vi aM)) (wy 17 hg2) (xl (Tryz.isAgg3 _) (hb.c 0 1 gZ)) (q1 (vi who1) (wy 17 hg2) (q1 (vb (aM == who1)) (wy 17 hg2) (q2 (vb (aM == who1)) (xT hg2) (ln ?_)))))
    exact ⟨true,_,hg2,hs,hb,hm⟩
   ·refine sk (yD 17 hg2) (sk (yD 17 hg2) (sk (yD 17 hg2) (sk (yD 17 hg2) (q2 (vb false) (xF hg2) (ln ?_)))))
    exact ⟨false,_,hg2,hs,hb,hm⟩
  ·rintro ρ w3 ⟨b1'0,H2,he0,hs,hb,hH⟩
   subst he0
   refine norm_has hH ?_
   refine th_n ?_
   refine wpE_cond (t:=((aJ == 2) && (aM == who1))) (by kernel_rfl) (fun hc2=>?_) (fun hc2=>?_)
   ·have h:=h.1 hc2
    refine rg (q0 out1.v (q2 (.agg #[(vi aJ),(vi aM),(vu aN),(vs aL)]) (xa p1 [(vi aJ),(vi aM),(vu aN),(vs aL)] (Tryz.isAgg75 _) (Tryz.sizeOf75 _) (hb.r0 0 4 gZ)) ?_))
    have h:=h H2 w3 hs
    have hs:=hs.here
    refine st_new (O:=(.cells #[(vi aJ),(vi aM),(vu aN),(vs aL)] 75)) (fun p=>(Sl.mk (some p) 1 1).v) (want0 rfl) (x_buildSlice (vs:=#[(0,(.agg #[(vi aJ),(vi aM),(vu aN),(vs aL)]))]) (by kernel_rfl) (by kernel_rfl)) ?_
    intro p2 w4 hn3
    have h:=h p2 w4 hn3
    have hs:=hs.again (Ext.new (F:=None) hn3).keptP
    have hb:=hb.kept (Ext.new (F:=None) hn3).keptP
    obtain ⟨s1,w5,hv1,hk,h⟩:=h
    refine st (v:=s1.v) (want0 rfl) (x_builtin (args:=#[out1.v,(Sl.mk (some p2) 1 1).v]) (by kernel_rfl) (fun _=>rfl) hv1) ?_
    obtain ⟨hs,hb⟩:=hk.hh hs hb
    refine q0 s1.v (wpL_nil (bl_n (th_n (rg (q0 (vi (q6.wrap (x1+1))) (q0 (vi (q6.wrap (x1+1))) (ln ?_)))))))
    exact ⟨(s1,(q6.wrap (x1+1)),H2,w5),⟨rfl,hm,hs,hb.drop 1,h.1⟩,h.2⟩
   ·have h:=h.2 hc2
    refine wpE_skip (bl_n (th_n (rg (q0 (vi (q6.wrap (x1+1))) (q0 (vi (q6.wrap (x1+1))) (wpL_nil ?_))))))
    have h:=h H2 w3 hs
    have hs:=hs.here
    refine th_n ?_
    exact ⟨(out1,(q6.wrap (x1+1)),H2,w3),⟨rfl,hm,hs,hb.drop 1,h.1⟩,h.2⟩
 ·have h:=h.2 hc1
  refine wpE_exit (th_x (th_x (bl_eq (th_n (eg (q0 out1.v (q0 out1.v (ln (er ?_)))))))))
  refine rs1 Tryz.results40 (v:=out1.v) ?_
  exact ⟨out1,rfl,h⟩
def m_J1_l1 (l1:Sl) (who1:Int) (out1:Sl) (i1:Int) (wl1:World) (Kc1:Sl→Int→WP) (K:Sl→WP):Prop :=
 Br (decide (i1<(l1.len:Int)))
  (∃a1:Addr,At l1 i1 4 a1 ∧
  ∃v1:Int,wl1.cell? a1=some (vi v1) ∧
  Br (v1 == 2)
   (∃a2:Addr,At l1 i1 4 a2 ∧
   ∃v2:Int,wl1.cell? (a2.add 1)=some (vi v2) ∧
   Br (v2 == who1)
    (∃a3:Addr,At l1 i1 4 a3 ∧
    ∃aJ aM aN:Int,∃aL:ByteArray,Row wl1 a3 [(vi aJ),(vi aM),(vu aN),(vs aL)] ∧
    ∀(p1:Addr) (w1:World),New wl1 (.cells #[(vi aJ),(vi aM),(vu aN),(vs aL)] 75) p1 w1 →
    ∃s1:Sl,∃w2:World,(Builtin.append_ #[71,71] 71 #[out1.v,(Sl.mk (some p1) 1 1).v]).run Tryz.prog w1=.ok s1.v w2 ∧
    Kc1 s1 (q6.wrap (i1+1)) w2)
    (Kc1 out1 (q6.wrap (i1+1)) wl1))
   (Kc1 out1 (q6.wrap (i1+1)) wl1))
  (K out1 wl1)
def m_J1 (l1:Sl) (who1:Int) (w0:World) (K:Sl→WP):Prop :=
 ∃(I1:Sl→Int→WP) (mu1:Sl→Int→World→Nat),I1 Sl.nil 0 w0 ∧
  ∀(out1:Sl) (i1:Int) (wl1:World),I1 out1 i1 wl1→m_J1_l1 l1 who1 out1 i1 wl1 (fun y'0 y'1 w'=>I1 y'0 y'1 w'∧mu1 y'0 y'1 w'<mu1 out1 i1 wl1) K
theorem w_J1 (l1 : Sl) (who1 : Int) (w0 : World) (K : Sl → WP) (h : m_J1 l1 who1 w0 K) :
  Calls Tryz.prog 41 #[l1.v,(vi who1)] w0 (fun e w'=>∃r1:Sl,e=.returned r1.v∧K r1 w'):=by
 unfold m_J1 at h
 refine cw (args:=[l1.v,(vi who1)]) Tryz.func41 Tryz.ntmps41 (eg (q0 Sl.nil.v (ln (eg (q0 Sl.nil.v (ln (wpE_seq ?_)))))))
 refine eg (q0 (vi 0) (ln (wpE_block ?_)))
 obtain ⟨I1,mu1,h0,hr⟩:=h
 refine wpE_loop (σ:=Sl×Int×World) (fun s ρ w=>w=s.2.2∧Has ρ [(0,l1.v),(1,(vi who1)),(5,s.1.v),(6,(vi s.2.1))]∧I1 s.1 s.2.1 s.2.2) (fun s=>mu1 s.1 s.2.1 s.2.2) (Sl.nil,0,w0) ⟨rfl,hm,h0⟩ ?_
 rintro ⟨out1,i1,wl1⟩ ρ w ⟨hw,hH,hI⟩
 obtain rfl:wl1=w:=(show w=wl1 from hw).symm
 have hH:Has ρ [(0,l1.v),(1,(vi who1)),(5,out1.v),(6,(vi i1))]:=hH
 have h:=hr out1 i1 wl1 hI
 unfold m_J1_l1 at h
 refine wpE_has hH ?_
 refine wpE_seq (eg (q0 (vi i1) (q0 l1.v (q0 (vi (l1.len:Int)) (q0 (vb (decide (i1<(l1.len:Int)))) (ln ?_))))))
 refine wpE_cond (t:=(decide (i1<(l1.len:Int)))) (by kernel_rfl) (fun hc1=>?_) (fun hc1=>?_)
 ·have h:=h.1 hc1
  refine wpE_skip (th_n (wpE_seq (wpE_block (eg (q0 l1.v (q0 (vi i1) ?_))))))
  obtain ⟨a1,hv7,h⟩:=h
  refine q2 (vp (some a1)) (xi (Tryz.runUnderlying71 _) (Tryz.sizeOf75 _) hv7) (q0 (vp (some a1)) ?_)
  obtain ⟨v1,hv6,h⟩:=h
  refine q2 (vi v1) (xl (Tryz.isAgg3 _) hv6) (q0 (vb (v1 == 2)) (q0 (vb (v1 == 2)) ?_))
  rcases Bool.eq_false_or_eq_true (v1 == 2) with hg1 | hg1
  ·have h:=h.1 hg1
   refine q1 l1.v (wy 19 hg1) (q1 (vi i1) (wy 19 hg1) ?_)
   obtain ⟨a2,hv5,h⟩:=h
   refine stp (v:=(vp (some a2))) (wy 19 hg1) (xi (Tryz.runUnderlying71 _) (Tryz.sizeOf75 _) hv5) (q1 (vp (some (a2.add 1))) (wy 19 hg1) ?_)
   obtain ⟨v2,hv4,h⟩:=h
   refine stp (v:=(vi v2)) (wy 19 hg1) (xl (Tryz.isAgg3 _) hv4) (q1 (vi who1) (wy 19 hg1) (q1 (vb (v2 == who1)) (wy 19 hg1) (q2 (vb (v2 == who1)) (xT hg1) (ln ?_))))
   refine wpE_cond (t:=(v2 == who1)) (by kernel_rfl) (fun hc2=>?_) (fun hc2=>?_)
   ·have h:=h.1 hc2
    refine rg (q0 out1.v (q0 l1.v (q0 (vi i1) ?_)))
    obtain ⟨a3,hv3,h⟩:=h
    refine q2 (vp (some a3)) (xi (Tryz.runUnderlying71 _) (Tryz.sizeOf75 _) hv3) ?_
    obtain ⟨aJ,aM,aN,aL,hv2,h⟩:=h
    refine q2 (.agg #[(vi aJ),(vi aM),(vu aN),(vs aL)]) (xa a3 [(vi aJ),(vi aM),(vu aN),(vs aL)] (Tryz.isAgg75 _) (Tryz.sizeOf75 _) hv2) (st_new (O:=(.cells #[(vi aJ),(vi aM),(vu aN),(vs aL)] 75)) (fun p=>(Sl.mk (some p) 1 1).v) (want0 rfl) (x_buildSlice (vs:=#[(0,(.agg #[(vi aJ),(vi aM),(vu aN),(vs aL)]))]) (by kernel_rfl) (by kernel_rfl)) ?_)
    intro p1 w1 hn1
    have h:=h p1 w1 hn1
    obtain ⟨s1,w2,hv1,h⟩:=h
    refine st (v:=s1.v) (want0 rfl) (x_builtin (args:=#[out1.v,(Sl.mk (some p1) 1 1).v]) (by kernel_rfl) (fun _=>rfl) hv1) (q0 s1.v (wpL_nil (bl_n (th_n (rg (q0 (vi i1) (q0 (vi (q6.wrap (i1+1))) (q0 (vi (q6.wrap (i1+1))) (ln ?_)))))))))
    exact ⟨(s1,(q6.wrap (i1+1)),w2),⟨rfl,hm,h.1⟩,h.2⟩
   ·have h:=h.2 hc2
    refine wpE_skip (bl_n (th_n (rg (q0 (vi i1) (q0 (vi (q6.wrap (i1+1))) (q0 (vi (q6.wrap (i1+1))) (ln ?_)))))))
    exact ⟨(out1,(q6.wrap (i1+1)),wl1),⟨rfl,hm,h.1⟩,h.2⟩
  ·have h:=h.2 hg1
   refine sk (yD 19 hg1) (sk (yD 19 hg1) (sk (yD 19 hg1) (sk (yD 19 hg1) (sk (yD 19 hg1) (sk (yD 19 hg1) (sk (yD 19 hg1) (q2 (vb false) (xF hg1) (ln (wpE_condF (by kernel_rfl) (wpE_skip ?_))))))))))
   refine bl_n (th_n (rg (q0 (vi i1) (q0 (vi (q6.wrap (i1+1))) (q0 (vi (q6.wrap (i1+1))) (ln ?_))))))
   exact ⟨(out1,(q6.wrap (i1+1)),wl1),⟨rfl,hm,h.1⟩,h.2⟩
 ·have h:=h.2 hc1
  refine wpE_exit (th_x (th_x (bl_eq (th_n (eg (q0 out1.v (q0 out1.v (ln (er ?_)))))))))
  refine rs1 Tryz.results41 (v:=out1.v) ?_
  exact ⟨out1,rfl,h⟩
def m_F2 (p1:Option Addr) (t1 who1 c1:Int) (text1:ByteArray) (w0:World) (K:Int→WP):Prop :=
 Calls Tryz.prog 87 #[(vp p1),(vi t1)] w0 (fun e w1=>∃r1:Bool,e=.returned (vb r1)∧
  Kept None w0 w1 ∧
  Br (!r1)
   (K 1 w1)
   (Calls Tryz.prog 42 #[(vp p1),(vi t1)] w1 (fun e w2=>∃aA aE aB:Int,∃aC:ByteArray,∃aD r2:Bool,e=.returned (.tuple #[(.agg #[(vi aA),(vi aE),(vu aB),(vs aC),(vb aD)]),(vb r2)])∧
    Kept None w1 w2 ∧
    Br (!r2)
     (∀(H1:NP) (w4:World),Hst w0 None w2 H1 w4 →
     K 1 w4)
     (∀(H1:NP) (w4:World),Hst w0 None w2 H1 w4 →
     Calls Tryz.prog 43 #[(vp p1),(vi t1)] w4 (fun e w5=>∃r3:Sl,e=.returned r3.v∧
      Kept H1 w4 w5 ∧
      Calls Tryz.prog 41 #[r3.v,(vi 0)] w5 (fun e w6=>∃r4:Sl,e=.returned r4.v∧
       Kept H1 w5 w6 ∧
       Calls Tryz.prog 41 #[r3.v,(vi 1)] w6 (fun e w7=>∃r5:Sl,e=.returned r5.v∧
        Kept H1 w6 w7 ∧
        Br (((q6.wrap ((r4.len:Int)+(r5.len:Int))):Int) == 0)
         (K 2 w7)
         (Calls Tryz.prog 41 #[r3.v,(vi who1)] w7 (fun e w8=>∃r6:Sl,e=.returned r6.v∧
          Kept H1 w7 w8 ∧
          Br (((r6.len:Int):Int) == 0)
           (K 3 w8)
           (∃a1:Addr,At r6 0 4 a1 ∧
           ∃v1:Int,w8.cell? (a1.add 2)=some (vu v1) ∧
           Br (v1 != c1)
            (K 4 w8)
            (∃a2:Addr,At r6 0 4 a2 ∧
            ∃v2:ByteArray,w8.cell? (a2.add 3)=some (vs v2) ∧
            Br (!(decide (v2=text1)))
             (K 5 w8)
             (K 0 w8))))))))))))
theorem w_F2 (p1 : Option Addr) (t1 who1 c1 : Int) (text1 : ByteArray) (w0 : World) (K : Int → WP) (h : m_F2 p1 t1 who1 c1 text1 w0 K) :
  Calls Tryz.prog 44 #[(vp p1),(vi t1),(vi who1),(vu c1),(vs text1)] w0 (fun e w'=>∃r7:Int,e=.returned (vi r7)∧K r7 w'):=by
 unfold m_F2 at h
 refine cw (args:=[(vp p1),(vi t1),(vi who1),(vu c1),(vs text1)]) Tryz.func44 Tryz.ntmps44 ?_
 have hs:=Hst.start w0
 have hb:=HB.nil None w0
 refine eg (q0 (vi 0) (ln (wpE_seq (eg (q0 (vp p1) (q0 (vi t1) ?_))))))
 refine sc Tryz.call87 (h.mono ?_)
 rintro e w1 ⟨r1,rfl,hk,h⟩
 refine ⟨_,rfl,?_⟩
 obtain ⟨hs,hb⟩:=hk.hh hs hb
 refine q0 (vb (!r1)) (ln ?_)
 refine wpE_cond (t:=(!r1)) (by kernel_rfl) (fun hc1=>?_) (fun hc1=>?_)
 ·have h:=h.1 hc1
  refine eg (q0 (vi 1) (ln (er (th_r (rs1 Tryz.results44 (v:=(vi 1)) ?_)))))
  exact ⟨1,rfl,h⟩
 ·have h:=h.2 hc1
  refine wpE_skip (th_n (eg (q0 (vp p1) (q0 (vi t1) ?_))))
  refine sc Tryz.call42 (h.mono ?_)
  rintro e w2 ⟨aA,aE,aB,aC,aD,r2,rfl,hk,h⟩
  refine ⟨_,rfl,?_⟩
  obtain ⟨hs,hb⟩:=hk.hh hs hb
  refine q0 (.tuple #[(.agg #[(vi aA),(vi aE),(vu aB),(vs aC),(vb aD)]),(vb r2)]) (q0 (.agg #[(vi aA),(vi aE),(vu aB),(vs aC),(vb aD)]) (q0 (vb r2) (sn (O:=(.cells #[(vi 0),(vi 0),(vu 0),(vs ⟨#[]⟩),(vb false)] 35)) (x_alloc (Tryz.zeroValue35 _) rfl) ?_)))
  intro p2 w3 hn1
  obtain ⟨H1,hs,hb⟩:=hs.alloc hb hn1
  refine st_set (want0 rfl) (xo p2 [(vi aA),(vi aE),(vu aB),(vs aC),(vb aD)] (Tryz.sizeOf35 _) (hb.k0 0 5 gZ)) ?_
  intro w4 hn2
  obtain ⟨hs,hb⟩:=hb.s0 (l':=[(p2,[(vi aA),(vi aE),(vu aB),(vs aC),(vb aD)],35)]) 0 [(vi aA),(vi aE),(vu aB),(vs aC),(vb aD)] hs hn2 gZ
  refine q0 (vb r2) (ln (wpE_seq (eg (q0 (vb r2) (q0 (vb (!r2)) (ln ?_))))))
  refine wpE_cond (t:=(!r2)) (by kernel_rfl) (fun hc2=>?_) (fun hc2=>?_)
  ·have h:=h.1 hc2
   refine eg (q0 (vi 1) (ln (er (th_r ?_))))
   have h:=h H1 w4 hs
   have hs:=hs.here
   refine rs1 Tryz.results44 (v:=(vi 1)) ?_
   exact ⟨1,rfl,h⟩
  ·have h:=h.2 hc2
   refine wpE_skip (th_n (eg (q0 (vp p1) (q0 (vi t1) ?_))))
   have h:=h H1 w4 hs
   have hs:=hs.here
   refine sc Tryz.call43 (h.mono ?_)
   rintro e w5 ⟨r3,rfl,hk,h⟩
   refine ⟨_,rfl,?_⟩
   obtain ⟨hs,hb⟩:=hk.hh hs hb
   refine q0 r3.v (ln (wpE_seq (eg (q0 r3.v ?_))))
   refine sc Tryz.call41 (h.mono ?_)
   rintro e w6 ⟨r4,rfl,hk,h⟩
   refine ⟨_,rfl,?_⟩
   obtain ⟨hs,hb⟩:=hk.hh hs hb
   refine q0 (vi (r4.len:Int)) (q0 r3.v ?_)
   refine sc Tryz.call41 (h.mono ?_)
   rintro e w7 ⟨r5,rfl,hk,h⟩
   refine ⟨_,rfl,?_⟩
   obtain ⟨hs,hb⟩:=hk.hh hs hb
   refine q0 (vi (r5.len:Int)) (q0 (vi (q6.wrap ((r4.len:Int)+(r5.len:Int)))) (q0 (vb (((q6.wrap ((r4.len:Int)+(r5.len:Int))):Int) == 0)) (ln ?_)))
   refine wpE_cond (t:=(((q6.wrap ((r4.len:Int)+(r5.len:Int))):Int) == 0)) (by kernel_rfl) (fun hc3=>?_) (fun hc3=>?_)
   ·have h:=h.1 hc3
    refine eg (q0 (vi 2) (ln (er (th_r (rs1 Tryz.results44 (v:=(vi 2)) ?_)))))
    exact ⟨2,rfl,h⟩
   ·have h:=h.2 hc3
    refine wpE_skip (th_n (eg (q0 r3.v (q0 (vi who1) ?_))))
    refine sc Tryz.call41 (h.mono ?_)
    rintro e w8 ⟨r6,rfl,hk,h⟩
    refine ⟨_,rfl,?_⟩
    obtain ⟨hs,hb⟩:=hk.hh hs hb
    refine q0 r6.v (ln (wpE_seq (wpE_block (eg (q0 r6.v (q0 (vi (r6.len:Int)) (q0 (vb (((r6.len:Int):Int) == 0)) (q0 (vb (((r6.len:Int):Int) == 0)) (wpL_nil ?_)))))))))
    refine th_n ?_
    refine wpE_cond (t:=(((r6.len:Int):Int) == 0)) (by kernel_rfl) (fun hc4=>?_) (fun hc4=>?_)
    ·have h:=h.1 hc4
     refine eg (q0 (vi 3) (ln (er (bl_r (th_r (rs1 Tryz.results44 (v:=(vi 3)) ?_))))))
     exact ⟨3,rfl,h⟩
    ·have h:=h.2 hc4
     refine eg (q0 r6.v ?_)
     obtain ⟨a1,hv4,h⟩:=h
     refine q2 (vp (some a1)) (xi (Tryz.runUnderlying71 _) (Tryz.sizeOf75 _) hv4) (q0 (vp (some (a1.add 2))) ?_)
     obtain ⟨v1,hv3,h⟩:=h
     refine q2 (vu v1) (xl (Tryz.isAgg23 _) hv3) (q0 (vu c1) (q0 (vb (v1 != c1)) (q0 (vb (v1 != c1)) (ln ?_))))
     refine wpE_cond (t:=(v1 != c1)) (by kernel_rfl) (fun hc5=>?_) (fun hc5=>?_)
     ·have h:=h.1 hc5
      refine eg (q0 (vi 4) (ln (er (bl_r (th_r (rs1 Tryz.results44 (v:=(vi 4)) ?_))))))
      exact ⟨4,rfl,h⟩
     ·have h:=h.2 hc5
      refine eg (q0 r6.v ?_)
      obtain ⟨a2,hv2,h⟩:=h
      refine q2 (vp (some a2)) (xi (Tryz.runUnderlying71 _) (Tryz.sizeOf75 _) hv2) (q0 (vp (some (a2.add 3))) ?_)
      obtain ⟨v2,hv1,h⟩:=h
      refine q2 (vs v2) (xl (Tryz.isAgg9 _) hv1) (q0 (vs text1) (q2 (vb (!(decide (v2=text1)))) (x_strneq (by kernel_rfl) (by kernel_rfl)) (q0 (vb (!(decide (v2=text1)))) (ln ?_))))
      refine wpE_cond (t:=(!(decide (v2=text1)))) (by kernel_rfl) (fun hc6=>?_) (fun hc6=>?_)
      ·have h:=h.1 hc6
       refine eg (q0 (vi 5) (ln (er (bl_r (th_r (rs1 Tryz.results44 (v:=(vi 5)) ?_))))))
       exact ⟨5,rfl,h⟩
      ·have h:=h.2 hc6
       refine wpE_skip (bl_n (th_n (eg (q0 (vi 0) (ln (er (rs1 Tryz.results44 (v:=(vi 0)) ?_)))))))
       exact ⟨0,rfl,h⟩
theorem eqt_law12_EvidenceOf_eql_4 (a0 b0:Bool) (w:World):(Go.binOp .eql 4 (.bool a0) (.bool b0)).run Tryz.prog w=.ok (.bool (a0 == b0)) w:=by
 simp [Go.binOp,Op.equal,Op.maxDepth,go_sem,streq,bne]
def m_G_j5 (x4:Bool) (H:NP) (w:World) (K:Bool→WP):Prop :=
 Br x4
  (Calls Tryz.prog 24 #[] w (fun e w10=>∃r10:Bool,e=.returned (vb r10)∧
   Kept H w w10 ∧
   K r10 w10))
  (K false w)
def m_G_j4 (aP aQ aU:Int) (aO:ByteArray) (r2:Option Addr) (r6:Int) (x3:Bool) (H:NP) (w:World) (K:Bool→WP):Prop :=
 Br x3
  (Calls Tryz.prog 45 #[(vp r2),(vi aP),(vi aQ),(vu aU),(vs aO)] w (fun e w11=>∃r11:Bool,e=.returned (vb r11)∧
   Kept H w w11 ∧
   m_G_j5 (r11 == (r6 == 0)) H w11 K))
  (m_G_j5 false H w K)
def m_G_l3 (aP aQ aU:Int) (aO:ByteArray) (r2:Option Addr) (r5:Sl) (r6:Int) (r7:Sl) (i1:Int) (Hl1:NP) (wl1:World) (Kc3:Int→NP→WP) (K:Bool→WP):Prop :=
 Br (decide (i1<(r7.len:Int)))
  (∃a1:Addr,At r7 i1 4 a1 ∧
  (∀j,j<4→CanW wl1 (a1.add j))∧¬ Hl1 a1.block∧∀w7:World,w7=storeRow wl1 a1 [(vi (-1)),(vi 0),(vu 0),(vs ⟨#[]⟩)] →
  Kc3 (q6.wrap (i1+1)) Hl1 w7)
  (Calls Tryz.prog 34 #[(vp r2),(vi aP)] wl1 (fun e w8=>∃r8:Sl,e=.returned r8.v∧
   Kept Hl1 wl1 w8 ∧
   Calls Tryz.prog 30 #[r8.v,r5.v] w8 (fun e w9=>∃r9:Bool,e=.returned (vb r9)∧
    Kept Hl1 w8 w9 ∧
    Br r9
     (Calls Tryz.prog 35 #[(vp r2),(vi aP),(vi aQ),(vu aU),(vs aO)] w9 (fun e w12=>∃r12:Int,e=.returned (vi r12)∧
      Kept Hl1 w9 w12 ∧
      m_G_j4 aP aQ aU aO r2 r6 (r12 == r6) Hl1 w12 K))
     (m_G_j4 aP aQ aU aO r2 r6 false Hl1 w9 K))))
def m_G_j2 (aP aQ aU:Int) (aO:ByteArray) (r2:Option Addr) (r5:Sl) (r6:Int) (r7:Sl) (x2:Bool) (w0:World) (H:NP) (w:World) (K:Bool→WP):Prop :=
 Br x2
  (K false w)
  (∃(I1:Int→NP→WP) (mu1:Int→World→Nat),I1 0 H w ∧
   ∀(i1:Int) (Hl1:NP) (wl1:World),Hst w0 Hl1 wl1 Hl1 wl1→I1 i1 Hl1 wl1→m_G_l3 aP aQ aU aO r2 r5 r6 r7 i1 Hl1 wl1 (fun y'0 H' w'=>I1 y'0 H' w'∧mu1 y'0 w'<mu1 i1 wl1) K)
def m_G_j1 (bF:Sl) (aP aQ aU:Int) (aO:ByteArray) (x1:Bool) (w0:World) (H:NP) (w:World) (K:Bool→WP):Prop :=
 Br x1
  (Calls Tryz.prog 24 #[] w (fun e w2=>∃r1:Bool,e=.returned (vb r1)∧
   Kept H w w2 ∧
   K r1 w2))
  (Calls Tryz.prog 25 #[bF.v] w (fun e w3=>∃r2:Option Addr,∃r3:Option Addr,∃r4:Bool,e=.returned (.tuple #[(vp r2),(vp r3),(vb r4)])∧
   Kept H w w3 ∧
   Br (!r4)
    (K false w3)
    (Calls Tryz.prog 43 #[(vp r3),(vi aP)] w3 (fun e w4=>∃r5:Sl,e=.returned r5.v∧
     Kept H w3 w4 ∧
     Calls Tryz.prog 44 #[(vp r3),(vi aP),(vi aQ),(vu aU),(vs aO)] w4 (fun e w5=>∃r6:Int,e=.returned (vi r6)∧
      Kept H w4 w5 ∧
      Calls Tryz.prog 34 #[(vp r2),(vi aP)] w5 (fun e w6=>∃r7:Sl,e=.returned r7.v∧
       Kept H w5 w6 ∧
       ∃C1:WP,C1 w6.drew∧∀w13,w13=w6.drew →
       Calls Tryz.prog 30 #[r7.v,r5.v] w13 (fun e w14=>∃r13:Bool,e=.returned (vb r13)∧C1 w14∧
        Kept H w13 w14 ∧
        Br (!r13)
         (m_G_j2 aP aQ aU aO r2 r5 r6 r7 true w0 H w14 K)
         (∀(p2:Addr) (w15:World),New w14 (.cells #[] 75) p2 w15→C1 w15 ∧
         ∃s1:Sl,∃w16:World,(Builtin.append_ #[71,71] 71 #[(Sl.mk (some p2) 0 0).v,r5.v]).run Tryz.prog w15=.ok s1.v w16∧C1 w16 ∧
         Kept H w15 w16 ∧
         Calls Tryz.prog 40 #[s1.v,(vi aQ)] w16 (fun e w17=>∃r14:Sl,e=.returned r14.v∧C1 w17∧
          Kept H w16 w17 ∧
          Calls Tryz.prog 41 #[r5.v,(vi aQ)] w17 (fun e w18=>∃r15:Sl,e=.returned r15.v∧C1 w18∧
           Kept H w17 w18 ∧
           Calls Tryz.prog 30 #[r14.v,r15.v] w18 (fun e w19=>∃r16:Bool,e=.returned (vb r16)∧C1 w19∧
            Kept H w18 w19 ∧
            Br (!r16)
             (m_G_j2 aP aQ aU aO r2 r5 r6 r7 true w0 H w19 K)
             (∃a2:Addr,r3=some a2 ∧
             ∃v1:Sl,(∀w',C1 w'→w'.cell? a2=some v1.v) ∧
             Calls Tryz.prog 38 #[(vp r2)] w19 (fun e w20=>∃r17:Int,e=.returned (vi r17)∧C1 w20∧
              Kept H w19 w20 ∧
              m_G_j2 aP aQ aU aO r2 r5 r6 r7 (r17 != (v1.len:Int)) w0 H w20 K)))))))))))))
def m_G (bF:Sl) (aP aQ aU:Int) (aO:ByteArray) (w0:World) (K:Bool→WP):Prop :=
 ∀(H1:NP) (w1:World),Hst w0 None w0 H1 w1 →
 Calls Tryz.prog 23 #[bF.v] w1 (fun e w21=>∃r18:Bool,e=.returned (vb r18)∧
  Kept H1 w1 w21 ∧
  ∀(H2:NP) (w22:World),Hst w0 H1 w21 H2 w22 →
  m_G_j1 bF aP aQ aU aO (r18 || (decide ((aO.size:Int)>4000))) w0 H2 w22 K)
theorem w_G (bF : Sl) (aP aQ aU : Int) (aO : ByteArray) (w0 : World) (K : Bool → WP) (h : m_G bF aP aQ aU aO w0 K) :
  Calls Tryz.prog 9 #[(.agg #[bF.v,(vi aP),(vi aQ),(vu aU),(vs aO)])] w0 (fun e w'=>∃r19:Bool,e=.returned (vb r19)∧K r19 w'):=by
 unfold m_G at h
 refine cw (args:=[(.agg #[bF.v,(vi aP),(vi aQ),(vu aU),(vs aO)])]) Tryz.func9 Tryz.ntmps9 ?_
 have hs:=Hst.start w0
 have hb:=HB.nil None w0
 refine eg (sn (O:=(.cells #[bF.v,(vi aP),(vi aQ),(vu aU),(vs aO)] 96)) xb ?_)
 intro p1 w1 hn1
 obtain ⟨H1,hs,hb⟩:=hs.alloc hb hn1
 refine q0 (vb false) (ln (wpE_seq (wpE_seq ?_)))
 refine wpE_joinT (fun ρ w=>∃x1:Bool,∃H:NP,Has ρ [(1,(vp (some p1))),(18,(vb x1))]∧Hst w0 H w H w∧HB H w [(p1,[bF.v,(vi aP),(vi aQ),(vu aU),(vs aO)],96)]∧m_G_j1 bF aP aQ aU aO x1 w0 H w K) ?_ ?_
 ·rintro ρ w ⟨x1,H,hH,hs,hb,h⟩
  unfold m_G_j1 at h
  refine wpE_has hH ?_
  refine wpE_cond (t:=x1) (by kernel_rfl) (fun hc1=>?_) (fun hc1=>?_)
  ·have h:=h.1 hc1
   refine eg ?_
   refine sc Tryz.call24 (h.mono ?_)
   rintro e w2 ⟨r1,rfl,hk,h⟩
   refine ⟨_,rfl,?_⟩
   obtain ⟨hs,hb⟩:=hk.hh hs hb
   refine q0 (vb r1) (ln (er (th_r (rs1 Tryz.results9 (v:=(vb r1)) ?_))))
   exact ⟨r1,rfl,h⟩
  ·have h:=h.2 hc1
   refine wpE_skip (th_n (eg (q0 (vp (some p1)) (q2 bF.v (xl (Tryz.isAgg66 _) (hb.c0 0 gZ)) ?_))))
   refine sc Tryz.call25 (h.mono ?_)
   rintro e w3 ⟨r2,r3,r4,rfl,hk,h⟩
   refine ⟨_,rfl,?_⟩
   obtain ⟨hs,hb⟩:=hk.hh hs hb
   refine q0 (.tuple #[(vp r2),(vp r3),(vb r4)]) (q0 (vp r2) (q0 (vp r3) (q0 (vb r4) (q0 (vp r2) (q0 (vp r3) (q0 (vb r4) (ln (wpE_seq (eg ?_)))))))))
   refine q0 (vb r4) (q0 (vb (!r4)) (ln ?_))
   refine wpE_cond (t:=(!r4)) (by kernel_rfl) (fun hc2=>?_) (fun hc2=>?_)
   ·have h:=h.1 hc2
    refine eg (q0 (vb false) (ln (er (th_r (rs1 Tryz.results9 (v:=(vb false)) ?_)))))
    exact ⟨false,rfl,h⟩
   ·have h:=h.2 hc2
    refine wpE_skip (th_n (eg (q0 (vp r3) (q0 (vp (some (p1.add 1))) (q2 (vi aP) (xl (Tryz.isAgg78 _) (hb.c 0 1 gZ)) ?_)))))
    refine sc Tryz.call43 (h.mono ?_)
    rintro e w4 ⟨r5,rfl,hk,h⟩
    refine ⟨_,rfl,?_⟩
    obtain ⟨hs,hb⟩:=hk.hh hs hb
    refine q0 r5.v (ln (eg (q0 (vp r3) (q0 (vp (some (p1.add 1))) (q2 (vi aP) (xl (Tryz.isAgg78 _) (hb.c 0 1 gZ)) (q0 (vp (some (p1.add 2))) (q2 (vi aQ) (xl (Tryz.isAgg3 _) (hb.c 0 2 gZ)) (q0 (vp (some (p1.add 3))) (q2 (vu aU) (xl (Tryz.isAgg23 _) (hb.c 0 3 gZ)) ?_)))))))))
    refine q0 (vp (some (p1.add 4))) (q2 (vs aO) (xl (Tryz.isAgg9 _) (hb.c 0 4 gZ)) ?_)
    refine sc Tryz.call44 (h.mono ?_)
    rintro e w5 ⟨r6,rfl,hk,h⟩
    refine ⟨_,rfl,?_⟩
    obtain ⟨hs,hb⟩:=hk.hh hs hb
    refine q0 (vi r6) (ln (eg (q0 (vp r2) (q0 (vp (some (p1.add 1))) (q2 (vi aP) (xl (Tryz.isAgg78 _) (hb.c 0 1 gZ)) ?_)))))
    refine sc Tryz.call34 (h.mono ?_)
    rintro e w6 ⟨r7,rfl,hk,h⟩
    refine ⟨_,rfl,?_⟩
    obtain ⟨hs,hb⟩:=hk.hh hs hb
    refine q0 r7.v (ln (wpE_seq (wpE_seq ?_)))
    refine wpE_joinT (fun ρ w=>∃x2:Bool,∃H:NP,Has ρ [(1,(vp (some p1))),(3,(vp r2)),(6,r5.v),(7,(vi r6)),(8,r7.v),(74,(vb x2))]∧Hst w0 H w H w∧HB H w [(p1,[bF.v,(vi aP),(vi aQ),(vu aU),(vs aO)],96)]∧m_G_j2 aP aQ aU aO r2 r5 r6 r7 x2 w0 H w K) ?_ ?_
    ·rintro ρ w ⟨x2,H,hH,hs,hb,h⟩
     unfold m_G_j2 at h
     refine wpE_has hH ?_
     refine wpE_cond (t:=x2) (by kernel_rfl) (fun hc3=>?_) (fun hc3=>?_)
     ·have h:=h.1 hc3
      refine eg (q0 (vb false) (ln (er (th_r (rs1 Tryz.results9 (v:=(vb false)) ?_)))))
      exact ⟨false,rfl,h⟩
     ·have h:=h.2 hc3
      refine wpE_skip (th_n (wpE_seq (eg (q0 (vi 0) (ln (wpE_block ?_))))))
      obtain ⟨I1,mu1,h0,hr⟩:=h
      refine wpE_loop (σ:=Int×NP×World) (fun s ρ w=>w=s.2.2∧Has ρ [(1,(vp (some p1))),(3,(vp r2)),(6,r5.v),(7,(vi r6)),(8,r7.v),(9,(vi s.1))]∧Hst w0 s.2.1 w s.2.1 w∧HB s.2.1 w [(p1,[bF.v,(vi aP),(vi aQ),(vu aU),(vs aO)],96)]∧I1 s.1 s.2.1 s.2.2) (fun s=>mu1 s.1 s.2.2) (0,H,w) ⟨rfl,hm,hs,hb,h0⟩ ?_
      rintro ⟨i1,Hl1,wl1⟩ ρ w ⟨hw,hH,hs,hb,hI⟩
      obtain rfl:wl1=w:=(show w=wl1 from hw).symm
      have hH:Has ρ [(1,(vp (some p1))),(3,(vp r2)),(6,r5.v),(7,(vi r6)),(8,r7.v),(9,(vi i1))]:=hH
      have hs:Hst w0 Hl1 wl1 Hl1 wl1:=hs
      have hb:HB Hl1 wl1 [(p1,[bF.v,(vi aP),(vi aQ),(vu aU),(vs aO)],96)]:=hb
      have h:=hr i1 Hl1 wl1 hs hI
      unfold m_G_l3 at h
      refine wpE_has hH ?_
      refine wpE_seq (eg (q0 (vi i1) (q0 r7.v (q0 (vi (r7.len:Int)) (q0 (vb (decide (i1<(r7.len:Int)))) (ln ?_))))))
      refine wpE_cond (t:=(decide (i1<(r7.len:Int)))) (by kernel_rfl) (fun hc4=>?_) (fun hc4=>?_)
      ·have h:=h.1 hc4
       refine wpE_skip (th_n (wpE_seq (wpE_block (rg (q0 r7.v (q0 (vi i1) (q0 (.agg #[(vi (-1)),(vi 0),(vu 0),(vs ⟨#[]⟩)]) ?_)))))))
       obtain ⟨a1,hv1,h⟩:=h
       refine q2 (vp (some a1)) (xi (Tryz.runUnderlying71 _) (Tryz.sizeOf75 _) hv1) ?_
       obtain ⟨hp1,hnh,h⟩:=h
       refine st_set (want0 rfl) (xo a1 [(vi (-1)),(vi 0),(vu 0),(vs ⟨#[]⟩)] (Tryz.sizeOf75 _) hp1) ?_
       intro w7 hn2
       have h:=h w7 hn2
       have hk:Kept Hl1 wl1 w7:=by rw [hn2];exact Kept.storeRow hnh
       obtain ⟨hs,hb⟩:=hk.hh hs hb
       refine wpL_nil (bl_n (th_n (rg (q0 (vi i1) (q0 (vi (q6.wrap (i1+1))) (q0 (vi (q6.wrap (i1+1))) (ln ?_)))))))
       exact ⟨((q6.wrap (i1+1)),Hl1,w7),⟨rfl,hm,hs,hb,h.1⟩,h.2⟩
      ·have h:=h.2 hc4
       refine wpE_exit (th_x (th_x (bl_eq (th_n (eg (q0 (vp r2) (q0 (vp (some (p1.add 1))) (q2 (vi aP) (xl (Tryz.isAgg78 _) (hb.c 0 1 gZ)) ?_))))))))
       refine sc Tryz.call34 (h.mono ?_)
       rintro e w8 ⟨r8,rfl,hk,h⟩
       refine ⟨_,rfl,?_⟩
       obtain ⟨hs,hb⟩:=hk.hh hs hb
       refine q0 r5.v ?_
       refine sc Tryz.call30 (h.mono ?_)
       rintro e w9 ⟨r9,rfl,hk,h⟩
       refine ⟨_,rfl,?_⟩
       obtain ⟨hs,hb⟩:=hk.hh hs hb
       refine q0 (vb r9) ?_
       refine wpL_join 13 (fun ρ w=>∃x3:Bool,∃H:NP,Has ρ [(1,(vp (some p1))),(3,(vp r2)),(7,(vi r6)),(104,(vb x3))]∧Hst w0 H w H w∧HB H w [(p1,[bF.v,(vi aP),(vi aQ),(vu aU),(vs aO)],96)]∧m_G_j4 aP aQ aU aO r2 r6 x3 H w K) ?_ ?_
       ·rintro ρ w ⟨x3,H,hH,hs,hb,h⟩
        unfold m_G_j4 at h
        refine wpL_has hH ?_
        refine q0 (vb x3) ?_
        refine wpL_join 14 (fun ρ w=>∃x4:Bool,∃H:NP,Has ρ [(119,(vb x4))]∧Hst w0 H w H w∧HB H w [(p1,[bF.v,(vi aP),(vi aQ),(vu aU),(vs aO)],96)]∧m_G_j5 x4 H w K) ?_ ?_
        ·rintro ρ w ⟨x4,H,hH,hs,hb,h⟩
         unfold m_G_j5 at h
         refine wpL_has hH ?_
         refine q0 (vb x4) ?_
         rcases Bool.eq_false_or_eq_true x4 with hg1 | hg1
         ·have h:=h.1 hg1
          refine st_call (wy 120 hg1) (xc Tryz.call24) (h.mono ?_)
          rintro e w10 ⟨r10,rfl,hk,h⟩
          refine ⟨_,rfl,?_⟩
          obtain ⟨hs,hb⟩:=hk.hh hs hb
          refine q2 (vb r10) (xT hg1) (q0 (vb r10) (ln (er (rs1 Tryz.results9 (v:=(vb r10)) ?_))))
          exact ⟨r10,rfl,h⟩
         ·have h:=h.2 hg1
          refine sk (yD 120 hg1) (q2 (vb false) (xF hg1) (q0 (vb false) (ln (er (rs1 Tryz.results9 (v:=(vb false)) ?_)))))
          exact ⟨false,rfl,h⟩
        ·rcases Bool.eq_false_or_eq_true x3 with hg2 | hg2
         ·have h:=h.1 hg2
          refine q1 (vp r2) (wy 105 hg2) (q1 (vp (some (p1.add 1))) (wy 105 hg2) (stp (v:=(vi aP)) (wy 105 hg2) (xl (Tryz.isAgg78 _) (hb.c 0 1 gZ)) (q1 (vp (some (p1.add 2))) (wy 105 hg2) (stp (v:=(vi aQ)) (wy 105 hg2) (xl (Tryz.isAgg3 _) (hb.c 0 2 gZ)) (q1 (vp (some (p1.add 3))) (wy 105 hg2) (stp (v:=(vu aU)) (wy 105 hg2) (xl (Tryz.isAgg23 _) (hb.c 0 3 gZ)) (q1 (vp (some (p1.add 4))) (wy 105 hg2) (stp (v:=(vs aO)) (wy 105 hg2) (xl (Tryz.isAgg9 _) (hb.c 0 4 gZ)) ?_))))))))
          refine st_call (wy 105 hg2) (xc Tryz.call45) (h.mono ?_)
          rintro e w11 ⟨r11,rfl,hk,h⟩
          refine ⟨_,rfl,?_⟩
          obtain ⟨hs,hb⟩:=hk.hh hs hb
          refine q1 (vi r6) (wy 105 hg2) (q1 (vb (r6 == 0)) (wy 105 hg2) (stp (v:=(vb (r11 == (r6 == 0)))) (wy 105 hg2) (x_bin (by kernel_rfl) (by kernel_rfl) (by kernel_rfl) (eqt_law12_EvidenceOf_eql_4 r11 (r6 == 0) _)) (q2 (vb (r11 == (r6 == 0))) (xT hg2) (wpL_nil ?_))))
          exact ⟨(r11 == (r6 == 0)),H,hm,hs,hb,h⟩
         ·have h:=h.2 hg2
          refine sk (yD 105 hg2) (sk (yD 105 hg2) (sk (yD 105 hg2) (sk (yD 105 hg2) (sk (yD 105 hg2) (sk (yD 105 hg2) (sk (yD 105 hg2) (sk (yD 105 hg2) (sk (yD 105 hg2) (sk (yD 105 hg2) (sk (yD 105 hg2) (sk (yD 105 hg2) ?_)))))))))))
          refine sk (yD 105 hg2) (q2 (vb false) (xF hg2) (wpL_nil ?_))
          exact ⟨false,H,hm,hs,hb,h⟩
       ·rcases Bool.eq_false_or_eq_true r9 with hg3 | hg3
        ·have h:=h.1 hg3
         refine q1 (vp r2) (wy 91 hg3) (q1 (vp (some (p1.add 1))) (wy 91 hg3) (stp (v:=(vi aP)) (wy 91 hg3) (xl (Tryz.isAgg78 _) (hb.c 0 1 gZ)) (q1 (vp (some (p1.add 2))) (wy 91 hg3) (stp (v:=(vi aQ)) (wy 91 hg3) (xl (Tryz.isAgg3 _) (hb.c 0 2 gZ)) (q1 (vp (some (p1.add 3))) (wy 91 hg3) (stp (v:=(vu aU)) (wy 91 hg3) (xl (Tryz.isAgg23 _) (hb.c 0 3 gZ)) (q1 (vp (some (p1.add 4))) (wy 91 hg3) (stp (v:=(vs aO)) (wy 91 hg3) (xl (Tryz.isAgg9 _) (hb.c 0 4 gZ)) ?_))))))))
         refine st_call (wy 91 hg3) (xc Tryz.call35) (h.mono ?_)
         rintro e w12 ⟨r12,rfl,hk,h⟩
         refine ⟨_,rfl,?_⟩
         obtain ⟨hs,hb⟩:=hk.hh hs hb
         refine q1 (vi r6) (wy 91 hg3) (q1 (vb (r12 == r6)) (wy 91 hg3) (q2 (vb (r12 == r6)) (xT hg3) (wpL_nil ?_)))
         exact ⟨(r12 == r6),Hl1,hm,hs,hb,h⟩
        ·have h:=h.2 hg3
         refine sk (yD 91 hg3) (sk (yD 91 hg3) (sk (yD 91 hg3) (sk (yD 91 hg3) (sk (yD 91 hg3) (sk (yD 91 hg3) (sk (yD 91 hg3) (sk (yD 91 hg3) (sk (yD 91 hg3) (sk (yD 91 hg3) (sk (yD 91 hg3) (sk (yD 91 hg3) ?_)))))))))))
         refine q2 (vb false) (xF hg3) (wpL_nil ?_)
         exact ⟨false,Hl1,hm,hs,hb,h⟩
    ·obtain ⟨C1,hC,h⟩:=h
     refine wpE_drawnC (fun x=>C1 x∧HB H x [(p1,[bF.v,(vi aP),(vi aQ),(vu aU),(vs aO)],96)]) [2,5,7,10,14,15,20] [] (by kernel_rfl) (by kernel_rfl) (by kernel_rfl) (by kernel_rfl) ⟨hC,hb.drew⟩ ?_
     intro w13 hw13
     have h:=h w13 hw13
     have hs:Hst w0 H w6 H w13:=by rw [hw13];exact hs.drew
     have hb:HB H w13 [(p1,[bF.v,(vi aP),(vi aQ),(vu aU),(vs aO)],96)]:=by rw [hw13];exact hb.drew
     have hs:=hs.here
     refine qx 0 r7.v Kp0 (qx 1 r5.v Kp1 (lg 2 ?_))
     refine sl_call Kp2 (want0 rfl) (by kernel_rfl) (xc Tryz.call30) (h.mono ?_)
     rintro e w14 ⟨r13,rfl,hC,hk,h⟩
     refine ⟨_,rfl,.inr ⟨hC,hb.kept hk⟩,?_⟩
     obtain ⟨hs,hb⟩:=hk.hh hs hb
     refine qx 3 (vb (!r13)) Kp3 (qx 4 (vb (!r13)) Kp4 (qg 6 ?_))
     rcases Bool.eq_false_or_eq_true (!r13) with hg4 | hg4
     ·have h:=h.1 hg4
      refine sx_not Kp6 (unwant rfl (yD 51 hg4) rfl) (qn 8 Kp8 (unwant rfl (yD 51 hg4) rfl) (qn 9 Kp9 (unwant rfl (yD 51 hg4) rfl) (qn 11 (pickA (S8 (pickS (pickS (pickS pickZ))))) (unwant rfl (yD 51 hg4) rfl) (qn 12 (pickA (S8 (S4 pickZ))) (unwant rfl (yD 51 hg4) rfl) (qn 13 (pickA (S8 (S4 (pickS pickZ)))) (unwant rfl (yD 51 hg4) rfl) (lg 5 (sx_not Kp5 (unwant rfl (yD 51 hg4) rfl) (lg 7 (sx_not Kp7 (unwant rfl (yD 51 hg4) rfl) (lg 10 (sx_not (pickA (S8 (pickS (pickS pickZ)))) (unwant rfl (yD 51 hg4) rfl) ?_)))))))))))
      refine lg 14 (sx_not (pickA (S8 (S4 (pickS (pickS pickZ))))) (unwant rfl (yD 51 hg4) rfl) (lg 15 (sx_not (pickA (S8 (S4 (pickS (pickS (pickS pickZ)))))) (unwant rfl (yD 51 hg4) rfl) (qn 16 (pickA (S8 (S8 pickZ))) (unwant rfl (yD 51 hg4) rfl) (qz 17 (vb true) (pickA (S8 (S8 (pickS pickZ)))) (fun _ _=>(xT hg4)) (qx 18 (vb true) (pickA (S8 (S8 (pickS (pickS pickZ))))) (qn 19 (pickA (S8 (S8 (pickS (pickS (pickS pickZ)))))) (unwant rfl (yD (c:=true) 65 rfl) rfl) (qn 21 (pickA (S8 (S8 (S4 (pickS pickZ))))) (unwant rfl (yD (c:=true) 65 rfl) rfl) (qn 22 (pickA (S8 (S8 (S4 (pickS (pickS pickZ)))))) (unwant rfl (yD (c:=true) 65 rfl) rfl) (qn 23 (pickA (S8 (S8 (S4 (pickS (pickS (pickS pickZ))))))) (unwant rfl (yD (c:=true) 65 rfl) rfl) (qn 24 (pickA (S8 (S8 (S8 pickZ)))) (unwant rfl (yD (c:=true) 65 rfl) rfl) ?_)))))))))))
      refine qn 25 (pickA (S8 (S8 (S8 (pickS pickZ))))) (unwant rfl (yD (c:=true) 65 rfl) rfl) (lg 20 (sx_not (pickA (S8 (S8 (S4 pickZ)))) (unwant rfl (yD (c:=true) 65 rfl) rfl) (qn 26 (pickA (S8 (S8 (S8 (pickS (pickS pickZ)))))) (unwant rfl (yD (c:=true) 65 rfl) rfl) (qx 27 (vb true) (pickA (S8 (S8 (S8 (pickS (pickS (pickS pickZ))))))) (wn (th_n ?_))))))
      exact ⟨true,H,hm,hs,hb,h⟩
     ·have h:=h.2 hg4
      refine sz (v:=r5.v) Kp6 (wy 51 hg4) (fun _ _=>(by kernel_rfl)) (qw 8 (vp (some (p1.add 2))) Kp8 (wy 51 hg4) (qg 9 (sz (v:=(vi aQ)) Kp9 (wy 51 hg4) (fun w' hw'=>(xl (Tryz.isAgg3 _) (hw'.2.cell 0 2 gZ (by kernel_rfl)))) (qw 11 r5.v (pickA (S8 (pickS (pickS (pickS pickZ))))) (wy 51 hg4) (qw 12 (vp (some (p1.add 2))) (pickA (S8 (S4 pickZ))) (wy 51 hg4) (qg 13 (sz (v:=(vi aQ)) (pickA (S8 (S4 (pickS pickZ)))) (wy 51 hg4) (fun w' hw'=>(xl (Tryz.isAgg3 _) (hw'.2.cell 0 2 gZ (by kernel_rfl)))) (lg 5 (sl_new (O:=(.cells #[] 75)) (fun p=>(Sl.mk (some p) 0 0).v) Kp5 (wy 51 hg4) (by kernel_rfl) (x_buildSlice (vs:=#[]) (by kernel_rfl) (by kernel_rfl)) ?_)))))))))
      intro p2 w15 hn3
      have h:=h p2 w15 hn3
      refine ⟨.inr ⟨h.1,hb.kept (Ext.new (F:=None) hn3).keptP⟩,?_⟩
      have h:=h.2
      have hs:=hs.again (Ext.new (F:=None) hn3).keptP
      have hb:=hb.kept (Ext.new (F:=None) hn3).keptP
      refine lg 7 ?_
      obtain ⟨s1,w16,hv3,hC,hk,h⟩:=h
      refine sl (v:=s1.v) Kp7 (wy 51 hg4) (by kernel_rfl) (x_builtin (args:=#[(Sl.mk (some p2) 0 0).v,r5.v]) (by kernel_rfl) (fun _=>rfl) hv3) (.inr ⟨hC,hb.kept hk⟩) ?_
      obtain ⟨hs,hb⟩:=hk.hh hs hb
      refine lg 10 ?_
      refine sl_call (pickA (S8 (pickS (pickS pickZ)))) (wy 51 hg4) (by kernel_rfl) (xc Tryz.call40) (h.mono ?_)
      rintro e w17 ⟨r14,rfl,hC,hk,h⟩
      refine ⟨_,rfl,.inr ⟨hC,hb.kept hk⟩,?_⟩
      obtain ⟨hs,hb⟩:=hk.hh hs hb
      refine lg 14 ?_
      refine sl_call (pickA (S8 (S4 (pickS (pickS pickZ))))) (wy 51 hg4) (by kernel_rfl) (xc Tryz.call41) (h.mono ?_)
      rintro e w18 ⟨r15,rfl,hC,hk,h⟩
      refine ⟨_,rfl,.inr ⟨hC,hb.kept hk⟩,?_⟩
      obtain ⟨hs,hb⟩:=hk.hh hs hb
      refine lg 15 ?_
      refine sl_call (pickA (S8 (S4 (pickS (pickS (pickS pickZ)))))) (wy 51 hg4) (by kernel_rfl) (xc Tryz.call30) (h.mono ?_)
      rintro e w19 ⟨r16,rfl,hC,hk,h⟩
      refine ⟨_,rfl,.inr ⟨hC,hb.kept hk⟩,?_⟩
      obtain ⟨hs,hb⟩:=hk.hh hs hb
      refine qw 16 (vb (!r16)) (pickA (S8 (S8 pickZ))) (wy 51 hg4) (qz 17 (vb (!r16)) (pickA (S8 (S8 (pickS pickZ)))) (fun _ _=>(xF hg4)) (qx 18 (vb (!r16)) (pickA (S8 (S8 (pickS (pickS pickZ))))) (qg 19 ?_)))
      rcases Bool.eq_false_or_eq_true (!r16) with hg5 | hg5
      ·have h:=h.1 hg5
       refine sx_not (pickA (S8 (S8 (pickS (pickS (pickS pickZ)))))) (unwant rfl (yD 65 hg5) rfl) (qn 21 (pickA (S8 (S8 (S4 (pickS pickZ))))) (unwant rfl (yD 65 hg5) rfl) (qn 22 (pickA (S8 (S8 (S4 (pickS (pickS pickZ)))))) (unwant rfl (yD 65 hg5) rfl) (qn 23 (pickA (S8 (S8 (S4 (pickS (pickS (pickS pickZ))))))) (unwant rfl (yD 65 hg5) rfl) (qn 24 (pickA (S8 (S8 (S8 pickZ)))) (unwant rfl (yD 65 hg5) rfl) (qn 25 (pickA (S8 (S8 (S8 (pickS pickZ))))) (unwant rfl (yD 65 hg5) rfl) (lg 20 (sx_not (pickA (S8 (S8 (S4 pickZ)))) (unwant rfl (yD 65 hg5) rfl) (qn 26 (pickA (S8 (S8 (S8 (pickS (pickS pickZ)))))) (unwant rfl (yD 65 hg5) rfl) (qz 27 (vb true) (pickA (S8 (S8 (S8 (pickS (pickS (pickS pickZ))))))) (fun _ _=>(xT hg5)) (wn (th_n ?_)))))))))))
       exact ⟨true,H,hm,hs,hb,h⟩
      ·have h:=h.2 hg5
       refine sz (v:=(vp r2)) (pickA (S8 (S8 (pickS (pickS (pickS pickZ)))))) (wy 65 hg5) (fun _ _=>(by kernel_rfl)) (qw 21 (vp r3) (pickA (S8 (S8 (S4 (pickS pickZ))))) (wy 65 hg5) (qg 22 ?_))
       obtain ⟨a2,hp2,h⟩:=h
       refine sz (v:=(vp (some a2))) (pickA (S8 (S8 (S4 (pickS (pickS pickZ)))))) (wy 65 hg5) (fun _ _=>(x_nilCheck (p:=r3) (by kernel_rfl) hp2)) (qw 23 (vp (some a2)) (pickA (S8 (S8 (S4 (pickS (pickS (pickS pickZ))))))) (wy 65 hg5) (qg 24 ?_))
       obtain ⟨v1,hv2,h⟩:=h
       refine sz (v:=v1.v) (pickA (S8 (S8 (S8 pickZ)))) (wy 65 hg5) (fun w' hw'=>(xl (Tryz.isAgg41 _) (hv2 w' hw'.1))) (qw 25 (vi (v1.len:Int)) (pickA (S8 (S8 (S8 (pickS pickZ))))) (wy 65 hg5) (lg 20 ?_))
       refine sl_call (pickA (S8 (S8 (S4 pickZ)))) (wy 65 hg5) (by kernel_rfl) (xc Tryz.call38) (h.mono ?_)
       rintro e w20 ⟨r17,rfl,hC,hk,h⟩
       refine ⟨_,rfl,.inr ⟨hC,hb.kept hk⟩,?_⟩
       obtain ⟨hs,hb⟩:=hk.hh hs hb
       refine qw 26 (vb (r17 != (v1.len:Int))) (pickA (S8 (S8 (S8 (pickS (pickS pickZ)))))) (wy 65 hg5) (qz 27 (vb (r17 != (v1.len:Int))) (pickA (S8 (S8 (S8 (pickS (pickS (pickS pickZ))))))) (fun _ _=>(xF hg5)) (wn (th_n ?_)))
       exact ⟨(r17 != (v1.len:Int)),H,hm,hs,hb,h⟩
 ·refine rg (q0 (vp (some p1)) (q2 bF.v (xl (Tryz.isAgg66 _) (hb.c0 0 gZ)) ?_))
  have h:=h H1 w1 hs
  have hs:=hs.here
  refine sc Tryz.call23 (h.mono ?_)
  rintro e w21 ⟨r18,rfl,hk,h⟩
  refine ⟨_,rfl,?_⟩
  obtain ⟨hs,hb⟩:=hk.hh hs hb
  refine q0 (vb r18) ?_
  refine wpL_join 5 (fun ρ wJ=>∃b1'0:Bool,∃HJ:NP,(r18=b1'0)∧Hst w0 H1 w21 HJ wJ∧HB HJ wJ [(p1,[bF.v,(vi aP),(vi aQ),(vu aU),(vs aO)],96)]∧Has ρ [(1,(vp (some p1))),(18,(vb (b1'0 || (decide ((aO.size:Int)>4000)))))]) ?_ ?_
  ·rintro ρ w22 ⟨b1'0,H2,he0,hs,hb,hH⟩
   subst he0
   refine wpL_has hH ?_
   refine wpL_nil ?_
   have h:=h H2 w22 hs
   have hs:=hs.here
   refine th_n ?_
   exact ⟨(r18 || (decide ((aO.size:Int)>4000))),H2,hm,hs,hb,h⟩
  ·rcases Bool.eq_false_or_eq_true r18 with hg7 | hg7
   ·refine sk (yD 13 hg7) (sk (yD 13 hg7) (sk (yD 13 hg7) (sk (yD 13 hg7) (q2 (vb true) (xT hg7) (wpL_nil ?_)))))
    exact ⟨true,_,hg7,hs,hb,hm⟩
   ·refine q1 (vp (some (p1.add 4))) (wy 13 hg7) (stp (v:=(vs aO)) (wy 13 hg7) (xl (Tryz.isAgg9 _) (hb.c 0 4 gZ)) (q1 (vi (aO.size:Int)) (wy 13 hg7) (q1 (vb (decide ((aO.size:Int)>4000))) (wy 13 hg7) (q2 (vb (decide ((aO.size:Int)>4000))) (xF hg7) (wpL_nil ?_)))))
    exact ⟨false,_,hg7,hs,hb,hm⟩
def m_O3 (kind1 who1:Int) (cap1:Addr) (w0:World) (K:Int→Int→Int→ByteArray→WP):Prop :=
 ∀(H1:NP) (w1:World),Hst w0 None w0 H1 w1 →
 ∃v1:Int,w1.cell? (cap1.add 2)=some (vu v1) ∧
 ∃v2:ByteArray,w1.cell? (cap1.add 3)=some (vs v2) ∧
 ∀(w2:World),Hst w0 H1 w1 H1 w2 →
 K kind1 who1 v1 v2 w2
theorem w_O3 (kind1 who1 : Int) (cap1 : Addr) (w0 : World) (K : Int → Int → Int → ByteArray → WP) (h : m_O3 kind1 who1 cap1 w0 K) :
  Calls Tryz.prog 162 #[(vi kind1),(vi who1),(vp (some cap1))] w0 (fun e w'=>∃aA bJ aB:Int,∃aC:ByteArray,e=.returned (.agg #[(vi aA),(vi bJ),(vu aB),(vs aC)])∧K aA bJ aB aC w'):=by
 unfold m_O3 at h
 refine cw (args:=[(vi kind1),(vi who1),(vp (some cap1))]) Tryz.func162 Tryz.ntmps162 ?_
 have hs:=Hst.start w0
 have hb:=HB.nil None w0
 refine eg (sn (O:=(.cells #[(vi 0),(vi 0),(vu 0),(vs ⟨#[]⟩)] 75)) (x_alloc (Tryz.zeroValue75 _) rfl) ?_)
 intro p1 w1 hn1
 obtain ⟨H1,hs,hb⟩:=hs.alloc hb hn1
 refine ln (eg (q0 (vi kind1) (q0 (vi who1) (q0 (vp (some (cap1.add 2))) ?_))))
 have h:=h H1 w1 hs
 have hs:=hs.here
 obtain ⟨v1,hv2,h⟩:=h
 refine q2 (vu v1) (xl (Tryz.isAgg23 _) hv2) (q0 (vp (some (cap1.add 3))) ?_)
 obtain ⟨v2,hv1,h⟩:=h
 refine q2 (vs v2) (xl (Tryz.isAgg9 _) hv1) (q0 (.agg #[(vi kind1),(vi who1),(vu v1),(vs v2)]) (st_set (want0 rfl) (xo p1 [(vi kind1),(vi who1),(vu v1),(vs v2)] (Tryz.sizeOf75 _) (hb.k0 0 4 gZ)) ?_))
 intro w2 hn2
 obtain ⟨hs,hb⟩:=hb.s0 (l':=[(p1,[(vi kind1),(vi who1),(vu v1),(vs v2)],75)]) 0 [(vi kind1),(vi who1),(vu v1),(vs v2)] hs hn2 gZ
 refine ln (er ?_)
 have h:=h w2 hs
 have hs:=hs.here
 refine resG (.inl rfl) (vs:=[(.agg #[(vi kind1),(vi who1),(vu v1),(vs v2)])]) (v:=(.agg #[(vi kind1),(vi who1),(vu v1),(vs v2)])) Tryz.results162 ⟨(rA (Tryz.isAgg75 _) (Tryz.sizeOf75 _) (hb.r0 0 4 gZ)),trivial⟩ (by kernel_rfl) ?_
 exact ⟨kind1,who1,v1,v2,rfl,h⟩
end Go.Proofs
end
section
open Go
namespace Go.Sp
structure Fact where
 kind:Int
 who:Int
 c:Int
 text:ByteArray
deriving DecidableEq
def cmpI (a b:Int):Int:=if a<b then -1 else if b<a then 1 else 0
def cmpB (a b:ByteArray):Int:=if Op.bytesLess a.toList b.toList=true then -1 else if a=b then 0 else 1
def cmpF (a b:Fact):Int:=if cmpI a.c b.c≠0 then cmpI a.c b.c else if cmpI a.kind b.kind≠0 then cmpI a.kind b.kind else if cmpI a.who b.who≠0 then cmpI a.who b.who else cmpB a.text b.text
theorem toList_inj {a b:ByteArray} (h:a.toList=b.toList):a=b:=by
 rw [Lib.toList_data,Lib.toList_data] at h
 obtain ⟨a⟩:=a;obtain ⟨b⟩:=b
 simp only at h
 congr 1
 exact Array.toList_inj.1 h
def LtF (a b:Fact):Prop:=a.c<b.c∨(a.c=b.c∧(a.kind<b.kind∨(a.kind=b.kind∧(a.who<b.who∨(a.who=b.who∧a.text.toList<b.text.toList)))))
theorem cmpI_zero {a b:Int}:cmpI a b=0↔a=b:=by unfold cmpI;split <;> (try split) <;> omega
theorem cmpI_neg (a b:Int):cmpI b a=- cmpI a b:=by unfold cmpI;split <;> split <;> (try split) <;> omega
theorem less_iff {a b:ByteArray}:Op.bytesLess a.toList b.toList=true↔a.toList<b.toList:=by rw [Go.Proofs.bytesLess_eq];simp
theorem cmpB_zero {a b:ByteArray}:cmpB a b=0↔a=b:=by
 unfold cmpB
 split
 ·rename_i h
  refine ⟨fun h'=>by omega,fun e=>?_⟩
  subst e
  exact absurd (less_iff.1 h) (List.lt_irrefl _)
 ·split <;> simp_all
theorem cmpB_neg (a b:ByteArray):cmpB b a=- cmpB a b:=by
 unfold cmpB
 by_cases h1:a.toList<b.toList
 ·rw [if_pos (less_iff.2 h1),if_neg (fun h=>List.lt_asymm h1 (less_iff.1 h)),if_neg (fun e=>by subst e;exact List.lt_irrefl _ h1)];rfl
 ·rw [if_neg (fun h=>h1 (less_iff.1 h))]
  by_cases h2:b.toList<a.toList
  ·rw [if_pos (less_iff.2 h2),if_neg (fun e=>by subst e;exact List.lt_irrefl _ h2)]
  ·have e:a=b:=toList_inj (List.le_antisymm (List.not_lt.1 h2) (List.not_lt.1 h1))
   subst e
   rw [if_neg (fun h=>h1 (less_iff.1 h))]
   simp
theorem cmpF_zero {a b:Fact}:cmpF a b=0↔a=b:=by
 obtain ⟨k,w,c,x⟩:=a
 obtain ⟨k',w',c',x'⟩:=b
 unfold cmpF
 simp only [Fact.mk.injEq,← cmpI_zero (a:=k),← cmpI_zero (a:=w),← cmpI_zero (a:=c),← cmpB_zero (a:=x)]
 split
 ·omega
 ·split
  ·omega
  ·split <;> omega
theorem cmpF_neg (a b:Fact):cmpF b a=- cmpF a b:=by
 unfold cmpF
 rw [cmpI_neg a.c,cmpI_neg a.kind,cmpI_neg a.who,cmpB_neg a.text]
 repeat' split
 all_goals omega
theorem cmpF_lt {a b:Fact}:cmpF a b<0↔LtF a b:=by
 have hI:∀{x y:Int},cmpI x y<0↔x<y:=fun {x y}=>by unfold cmpI;split <;> (try split) <;> omega
 have hB:∀{x y:ByteArray},cmpB x y<0↔x.toList<y.toList:=fun {x y}=>by
  rw [← less_iff];unfold cmpB;split
  ·simp_all
  ·split <;> simp_all
 unfold cmpF LtF
 rw [← hI (x:=a.c),← hI (x:=a.kind),← hI (x:=a.who),← hB,← cmpI_zero (a:=a.c),← cmpI_zero (a:=a.kind),← cmpI_zero (a:=a.who)]
 split
 ·omega
 ·split
  ·omega
  ·split <;> omega
theorem LtF.trans {a b c:Fact} (h1:LtF a b) (h2:LtF b c):LtF a c:=by
 unfold LtF at *
 rcases h1 with h1 | ⟨e1,h1⟩
 ·left;omega
 rcases h2 with h2 | ⟨e2,h2⟩
 ·left;omega
 refine .inr ⟨by omega,?_⟩
 rcases h1 with h1 | ⟨e1,h1⟩
 ·left;omega
 rcases h2 with h2 | ⟨e2,h2⟩
 ·left;omega
 refine .inr ⟨by omega,?_⟩
 rcases h1 with h1 | ⟨e1,h1⟩
 ·left;omega
 rcases h2 with h2 | ⟨e2,h2⟩
 ·left;omega
 exact .inr ⟨by omega,List.lt_trans h1 h2⟩
theorem LtF.irrefl (a:Fact):¬ LtF a a:=fun h=>by
 have:=cmpF_lt.2 h
 rw [cmpF_zero.2 rfl] at this;omega
theorem LtF.tri (a b:Fact):LtF a b∨a=b∨LtF b a:=by
 rw [← cmpF_lt,← cmpF_lt,← cmpF_zero,cmpF_neg a b];omega
theorem swoF:Go.Sort.SWO (Go.Proofs.ltOf cmpF) where
 irrefl x:=by unfold Go.Proofs.ltOf;simp [cmpF_zero.2]
 trans x y z h1 h2:=by
  unfold Go.Proofs.ltOf at *
  simp only [decide_eq_true_eq,cmpF_lt] at *
  exact h1.trans h2
 ntrans x y z h1 h2:=by
  unfold Go.Proofs.ltOf at *
  simp only [decide_eq_false_iff_not,cmpF_lt] at *
  intro h
  rcases LtF.tri x y with h3 | rfl | h3
  ·exact h1 h3
  ·exact h2 h
  ·exact h2 (h3.trans h)
def compT (a:Fact):List Fact→List Fact
 | []=>[]
 | b :: l=>if a=b then compT b l else b :: compT b l
def compF:List Fact→List Fact
 | []=>[]
 | a :: l=>a :: compT a l
theorem mem_compT {x:Fact}:∀{l:List Fact} {a:Fact},(x=a∨x∈compT a l)↔(x=a∨x∈l)
 | [],_=>by simp [compT]
 | b :: l,a=>by
  have h:=mem_compT (x:=x) (l:=l) (a:=b)
  unfold compT
  split
  ·rename_i e;subst e;rw [h];simp
  ·simp only [List.mem_cons,h]
theorem mem_compF {l:List Fact} {x:Fact}:x∈compF l↔x∈l:=by
 cases l with
 | nil=>simp [compF]
 | cons a l=>simp only [compF,List.mem_cons];exact mem_compT
theorem compT_len (a:Fact) (l:List Fact):(compT a l).length≤l.length:=by
 induction l generalizing a with
 | nil=>simp [compT]
 | cons b l ih =>
  have:=ih b
  unfold compT
  split <;> simp only [List.length_cons] <;> omega
theorem compF_len (l:List Fact):(compF l).length≤l.length:=by
 cases l with
 | nil=>simp [compF]
 | cons a l=>have:=compT_len a l;simp only [compF,List.length_cons];omega
theorem compT_sorted:∀{l:List Fact} {a:Fact},(a :: l).Pairwise (fun a b=>¬ cmpF b a<0)→(a :: compT a l).Pairwise LtF
 | [],_,_=>by simp [compT]
 | b :: l,a,h=>by
  have h':=(List.pairwise_cons.1 h)
  unfold compT
  have hs:=compT_sorted h'.2
  split
  ·rename_i e;subst e;exact hs
  ·rename_i hne
   have hab:LtF a b:=by
    have:=h'.1 b (by simp)
    rw [cmpF_lt] at this
    rcases LtF.tri a b with h | h | h
    ·exact h
    ·exact absurd h hne
    ·exact absurd h this
   refine List.pairwise_cons.2 ⟨fun x hx=>?_,hs⟩
   rcases List.mem_cons.1 hx with rfl | hx
   ·exact hab
   ·exact hab.trans ((List.pairwise_cons.1 hs).1 x hx)
theorem compF_sorted {l:List Fact} (h:l.Pairwise (fun a b=>¬ cmpF b a<0)):(compF l).Pairwise LtF:=by
 cases l with
 | nil=>simp [compF]
 | cons a l=>exact compT_sorted h
theorem sorted_eq:∀{l m:List Fact},l.Pairwise LtF→m.Pairwise LtF→(∀x,x∈l↔x∈m)→l=m
 | [],[],_,_,_=>rfl
 | [],b :: m,_,_,h=>by have:=(h b).2 (by simp);simp at this
 | a :: l,[],_,_,h=>by have:=(h a).1 (by simp);simp at this
 | a :: l,b :: m,h1,h2,h=>by
  have p1:=List.pairwise_cons.1 h1
  have p2:=List.pairwise_cons.1 h2
  have hab:a=b:=by
   rcases List.mem_cons.1 ((h a).1 (by simp)) with e | ha
   ·exact e
   ·rcases List.mem_cons.1 ((h b).2 (by simp)) with e | hb
    ·exact e.symm
    ·exact absurd ((p1.1 b hb).trans (p2.1 a ha)) (LtF.irrefl a)
  subst hab
  congr 1
  refine sorted_eq p1.2 p2.2 fun x=>⟨fun hx=>?_,fun hx=>?_⟩
  ·rcases List.mem_cons.1 ((h x).1 (by simp [hx])) with rfl | h'
   ·exact absurd (p1.1 x hx) (LtF.irrefl x)
   ·exact h'
  ·rcases List.mem_cons.1 ((h x).2 (by simp [hx])) with rfl | h'
   ·exact absurd (p2.1 x hx) (LtF.irrefl x)
   ·exact h'
end Go.Sp
end
section
open Go Go.SE
namespace Go.Sp
def Letter.fact (l:Letter) (k who:Int):Fact:=⟨k,who,l.c,l.text⟩
def factsS (l:Letter):List Fact :=
 if l.kind=1 then (if l.fake=true then [] else [l.fact 1 l.frm])
 else if l.kind=2 then [l.fact 2 l.frm]
 else if l.kind=3 then [l.fact 3 0]
 else if l.kind=4 then l.fact 4 l.frm :: (if l.fake=true then [] else [l.fact 1 0,l.fact 1 1])
 else if l.kind=5 then [l.fact 5 2]
 else if l.kind=6 then [l.fact 6 2,l.fact 2 0,l.fact 2 1]
 else []
def ofR (r:Letter×Bool):List Fact:=if r.2=true then factsS r.1 else []
def ofS (L:Pool) (t:Int):List Fact:=ofR (read L t)
def whyF (who c:Int) (x:ByteArray):Int→List Fact→Int
 | d,[]=>d
 | d,f :: fs=>if f.kind≠2 then whyF who c x d fs else if f.who=who∧f.c=c∧f.text=x then 0
  else if f.who≠who then whyF who c x (if 3>d then 3 else d) fs
  else if f.c≠c then whyF who c x (if 4>d then 4 else d) fs
  else whyF who c x (if 5>d then 5 else d) fs
def whyS (L:Pool) (t who c:Int) (x:ByteArray):Int:=if (read L t).2=true then whyF who c x 2 (factsS (read L t).1) else 1
def bonds12 (who:Int) (fs:List Fact):List Fact:=fs.filter fun f=>f.kind == 2 && f.who == who
def bothS (L:Pool) (a b:Int):Letter×Bool×Int :=
 if sizeOf L a=0∨sizeOf L b=0 then (noLetter,false,51)
 else if (read L a).1.kind≠1∨(read L b).1.kind≠1 then (noLetter,false,120)
 else ((read L a).1,(read L a).1.fake || (read L b).1.fake,if (read L a).1.frm≠0∨(read L b).1.frm≠1∨(read L a).1.c≠(read L b).1.c∨(read L a).1.text≠(read L b).1.text then 122 else 0)
end Go.Sp
namespace Go.SE
theorem Rws.lit {w w':World} {p:Addr} {cs:Array Value} {e:TypeId} {sz:Nat} {rs:List (List Value)} (hn:New w (.cells cs e) p w') (hc:cs.toList=rs.flatten) (hl:∀r∈rs,r.length=sz) (hm:rs.length≤maxLen):Rws w' e sz ⟨some p,rs.length,rs.length⟩ rs:=by
 obtain ⟨hp,hw⟩:=hn
 have hsz:cs.size=rs.length*sz:=by rw [← flatten_len hl,← hc,Array.length_toList]
 refine ⟨hl,rfl,.inr ⟨w.heap.size,cs,by rw [hp],?_,Nat.le_refl _,hm,hsz,?_⟩⟩
 ·rw [hw];exact heap_alloc_new w _
 ·rw [hc,List.take_of_length_le (by rw [flatten_len hl];exact Nat.le_refl _)]
end Go.SE
namespace Go.Proofs
attribute [local irreducible] Calls
def frow (f:Sp.Fact):List Value:=[.int .i64 f.kind,.int .i64 f.who,.int .u64 f.c,.string f.text]
theorem frow_sz (fs:List Sp.Fact):∀q∈fs.map frow,q.length=4:=by intro q hq;obtain ⟨t,_,rfl⟩:=List.mem_map.1 hq;rfl
theorem frow_one (fs:List Sp.Fact):∀q∈fs.map frow,q.all oneCell=true:=by intro q hq;obtain ⟨t,_,rfl⟩:=List.mem_map.1 hq;rfl
theorem slT_fact:SlType Tryz.prog 71 75 4 40:=by
 refine ⟨Tryz.underlying71,⟨Tryz.t75,_,by kernel_rfl,(by kernel_rfl:Tryz.t75.zero=some (.agg #[.int .i64 0,.int .i64 0,.int .u64 0,.string ⟨#[]⟩])),by kernel_rfl,by kernel_rfl,rfl⟩,by omega⟩
theorem c_ev_fact (l : Sp.Letter) (k who : Int) (p : Addr) (w0 : World) (hB : Box w0 p [.int .i64 l.kind, .int .i64 l.frm, .int .u64 l.c, .string l.text, .bool l.fake] 35) :
  Calls Tryz.prog 162 #[.int .i64 k,.int .i64 who,.pointer (some p)] w0 (fun e w'=>e=.returned (.agg #[.int .i64 k,.int .i64 who,.int .u64 l.c,.string l.text])∧Pure w0 w'):=by
 refine (w_O3 k who p w0 (fun a b c x w'=>a=k∧b=who∧c=l.c∧x=l.text∧Pure w0 w') ?_).mono ?_
 ·unfold m_O3
  intro H1 w1 hs1
  have b1:=hB.pure hs1.first
  exact ⟨_,b1.cell (i:=2) rfl,_,b1.cell (i:=3) rfl,fun w2 hs2=>⟨rfl,rfl,rfl,rfl,hs1.first.hst hs2⟩⟩
 ·rintro _ w' ⟨_,_,_,_,rfl,rfl,rfl,rfl,rfl,E⟩
  exact ⟨rfl,E⟩
theorem c_ev_facts (l : Sp.Letter) (w0 : World) :
  Calls Tryz.prog 94 #[.agg #[.int .i64 l.kind,.int .i64 l.frm,.int .u64 l.c,.string l.text,.bool l.fake]] w0 (fun e w'=>∃s:Sl,e=.returned s.v∧RetO w0 75 4 ((Sp.factsS l).map frow) s w'):=by
 suffices key:∀K:Sl→WP,(∀s w',RetO w0 75 4 ((Sp.factsS l).map frow) s w'→K s w')→m_E2 l.kind l.frm l.c l.text l.fake w0 K from
  w_E2 _ _ _ _ _ w0 _ (key _ (fun _ _ h=>h))
 intro K hK
 unfold m_E2
 intro p w1 h1
 have E1:Pure w0 w1:=Ext.new h1
 have b1:=Box.of_new h1
 clear h1
 have hnil:∀w',Pure w0 w'→Sp.factsS l=[]→K Sl.nil w':=fun w' E h=>hK _ _ (by
  rw [h];exact ⟨Rws.nil _ _ _,fun b h=>(by obtain ⟨a,h,_⟩:=h;cases h),E⟩)
 have lit:∀{w2 w3:World} {p2:Addr} {cs:Array Value} (fs:List Sp.Fact) (n:Nat),Pure w0 w2→New w2 (.cells cs 75) p2 w3→cs.toList=(fs.map frow).flatten→fs.length=n→n≤3→Sp.factsS l=fs→K ⟨some p2,n,n⟩ w3:=by
  intro w2 w3 p2 cs fs n E hn hc hl hm he
  have R:=Rws.lit (sz:=4) hn hc (frow_sz fs) (by simp [maxLen];omega)
  rw [List.length_map,hl] at R
  refine hK _ _ ⟨by rw [he];exact R,fun b hb=>?_,E.trans (Ext.new hn)⟩
  obtain ⟨a,ha,rfl⟩:=hb
  cases ha
  exact New.own E hn
 have one : ∀ k who : Int, Sp.factsS l = [l.fact k who] → Calls Tryz.prog 162 #[.int .i64 k, .int .i64 who, .pointer (some p)] w1 (fun e w2 => ∃ rKind1 : Int, ∃ rWho1 : Int, ∃ rC1 : Int, ∃ rText1 : ByteArray, e = .returned (.agg #[.int .i64 rKind1, .int .i64 rWho1, .int .u64 rC1, .string rText1]) ∧
   ∀(p2:Addr) (w3:World),New w2 (.cells #[.int .i64 rKind1,.int .i64 rWho1,.int .u64 rC1,.string rText1] 75) p2 w3→K (Sl.mk (some p2) 1 1) w3):=by
  intro k who he
  refine (c_ev_fact l k who p w1 b1).mono ?_
  rintro _ w2 ⟨rfl,E2⟩
  exact ⟨_,_,_,_,rfl,fun p2 w3 h3=>lit [l.fact k who] 1 (E1.trans E2) h3 rfl rfl (by omega) he⟩
 refine ⟨_,b1.cell0,fun hk=>?_,fun hk=>⟨fun hk2=>?_,fun hk2=>⟨fun hk3=>?_,fun hk3=>⟨fun hk4=>?_,fun hk4=>⟨fun hk5=>?_,fun hk5=>⟨fun hk6=>?_,fun hk6=>?_⟩⟩⟩⟩⟩⟩
 ·have hk:l.kind=1:=by simpa using hk
  refine ⟨_,b1.cell (i:=4) rfl,fun hf=>hnil w1 E1 (by simp [Sp.factsS,hk,hf]),fun hf=>⟨_,b1.cell (i:=1) rfl,one 1 l.frm (by simp [Sp.factsS,hk,hf])⟩⟩
 ·have hk2:l.kind=2:=by simpa using hk2
  exact ⟨_,b1.cell (i:=1) rfl,one 2 l.frm (by simp [Sp.factsS,hk2])⟩
 ·have hk3:l.kind=3:=by simpa using hk3
  exact one 3 0 (by simp [Sp.factsS,hk3])
 ·have hk4:l.kind=4:=by simpa using hk4
  refine ⟨_,b1.cell (i:=1) rfl,(c_ev_fact l 4 l.frm p w1 b1).mono ?_⟩
  rintro _ w2 ⟨rfl,E2⟩
  refine ⟨_,_,_,_,rfl,fun p2 w3 h3=>?_⟩
  have E3:Pure w2 w3:=Ext.new h3
  have b3:=b1.pure (E2.trans E3)
  refine ⟨_,b3.cell (i:=4) rfl,fun hf=>?_,fun hf=>lit [l.fact 4 l.frm] 1 (E1.trans E2) h3 rfl rfl (by omega) (by simp at hf;simp [Sp.factsS,hk4,hf])⟩
  refine (c_ev_fact l 1 0 p w3 b3).mono ?_
  rintro _ w4 ⟨rfl,E4⟩
  refine ⟨_,_,_,_,rfl,(c_ev_fact l 1 1 p w4 (b3.pure E4)).mono ?_⟩
  rintro _ w5 ⟨rfl,E5⟩
  refine ⟨_,_,_,_,rfl,fun p6 w6 h6=>?_⟩
  have E6:Pure w5 w6:=Ext.new h6
  have R1:Rws w3 75 4 ⟨some p2,1,1⟩ [frow (l.fact 4 l.frm)]:=Rws.lit h3 rfl (frow_sz [l.fact 4 l.frm]) (by simp [maxLen])
  have R2:Rws w6 75 4 ⟨some p6,2,2⟩ [frow (l.fact 1 0),frow (l.fact 1 1)]:=Rws.lit h6 rfl (frow_sz [l.fact 1 0,l.fact 1 1]) (by simp [maxLen])
  obtain ⟨s,w7,hr,hR,hE,hb⟩:=(R1.pure ((E4.trans E5).trans E6)).appendL (P:=Tryz.prog) slT_fact (ty:=71) R2.lst (frow_sz [l.fact 1 0,l.fact 1 1]) (frow_one [l.fact 1 0,l.fact 1 1]) (by simp) (by simp [maxLen])
  have E06:Pure w0 w6:=((((E1.trans E2).trans E3).trans E4).trans E5).trans E6
  have hp2:w0.heap.size≤p2.block:=New.own (E1.trans E2) h3
  have hs1:∀b,(Sl.mk (some p2) 1 1).blk b→w0.heap.size≤b:=by
   rintro b ⟨a,ha,rfl⟩;cases ha;exact hp2
  refine ⟨s,w7,hr,hK _ _ ⟨?_,fun b h=>(hb b h).elim (hs1 b) (fun h=>by have:=E06.size;omega),E06.trans' hE (fun i hi h=>by have:=hs1 i h;omega)⟩⟩
  have hf:l.fake=false:=by simpa using hf
  have e:Sp.factsS l=[l.fact 4 l.frm]++[l.fact 1 0,l.fact 1 1]:=by simp [Sp.factsS,hk4,hf]
  rw [e];exact hR
 ·have hk5:l.kind=5:=by simpa using hk5
  exact one 5 2 (by simp [Sp.factsS,hk5])
 ·have hk6:l.kind=6:=by simpa using hk6
  refine (c_ev_fact l 6 2 p w1 b1).mono ?_
  rintro _ w2 ⟨rfl,E2⟩
  refine ⟨_,_,_,_,rfl,(c_ev_fact l 2 0 p w2 (b1.pure E2)).mono ?_⟩
  rintro _ w3 ⟨rfl,E3⟩
  refine ⟨_,_,_,_,rfl,(c_ev_fact l 2 1 p w3 (b1.pure (E2.trans E3))).mono ?_⟩
  rintro _ w4 ⟨rfl,E4⟩
  exact ⟨_,_,_,_,rfl,fun p5 w5 h5=>lit [l.fact 6 2,l.fact 2 0,l.fact 2 1] 3 (((E1.trans E2).trans E3).trans E4) h5 rfl rfl (by omega) (by simp [Sp.factsS,hk6])⟩
 ·refine hnil w1 E1 ?_
  simp at hk hk2 hk3 hk4 hk5 hk6
  simp [Sp.factsS,hk,hk2,hk3,hk4,hk5,hk6]
theorem c_ev_Of (p : Option Addr) (t : Int) (w0 : World) {L : Sp.Pool} {F : NP} (hP : PoolN w0 p L F) (hok : Sp.Ok L) :
  Calls Tryz.prog 34 #[.pointer p,.int .i64 t] w0 (fun e w'=>∃s:Sl,e=.returned s.v∧RetO w0 75 4 ((Sp.ofS L t).map frow) s w'):=by
 refine w_K3 _ _ w0 (fun s w'=>RetO w0 75 4 ((Sp.ofS L t).map frow) s w') ?_
 unfold m_K3
 refine (c_letter_ReadN p t w0 hP hok).mono ?_
 rintro _ w1 ⟨k,f,c,x,fk,ok,rfl,hrd,E1⟩
 have e:Sp.ofS L t=Sp.ofR (⟨k,f,c,x,fk⟩,ok):=by unfold Sp.ofS;rw [← hrd]
 refine ⟨k,f,c,x,fk,ok,rfl,E1.keptP,fun h H w3 hs=>?_,fun h H w3 hs=>?_⟩
 ·have h:ok=false:=by simpa using h
  rw [e,h]
  exact ⟨Rws.nil _ _ _,fun b h=>(by obtain ⟨a,h,_⟩:=h;cases h),E1.hst hs⟩
 ·have h:ok=true:=by simpa using h
  refine (c_ev_facts ⟨k,f,c,x,fk⟩ w3).mono ?_
  rintro _ w4 ⟨s,rfl,hr⟩
  refine ⟨s,rfl,hr.kept,?_⟩
  rw [e,h]
  exact ⟨hr.rows,fun b hb=>by have:=hr.own b hb;have:=(E1.hst hs).size;omega,(E1.hst hs).trans hr.pure⟩
theorem c_ev_Why (p : Option Addr) (t who c : Int) (x : ByteArray) (w0 : World) {L : Sp.Pool} {F : NP} (hP : PoolN w0 p L F) (hok : Sp.Ok L) :
  Calls Tryz.prog 35 #[.pointer p,.int .i64 t,.int .i64 who,.int .u64 c,.string x] w0 (fun e w'=>∃r:Int,e=.returned (.int .i64 r)∧(r=Sp.whyS L t who c x∧Pure w0 w')):=by
 suffices key:∀K:Int→WP,(∀w',Pure w0 w'→K (Sp.whyS L t who c x) w')→m_F1 p t who c x w0 K from
  w_F1 _ _ _ _ _ w0 _ (key _ (fun _ h=>⟨rfl,h⟩))
 intro K hK
 unfold m_F1
 refine (c_letter_ReadN p t w0 hP hok).mono ?_
 rintro _ w1 ⟨k,f,c1,x1,fk,ok,rfl,hrd,E1⟩
 have e:Sp.whyS L t who c x=if ok=true then Sp.whyF who c x 2 (Sp.factsS ⟨k,f,c1,x1,fk⟩) else 1:=by unfold Sp.whyS;rw [← hrd]
 rw [e] at hK
 refine ⟨k,f,c1,x1,fk,ok,rfl,E1.keptP,fun h H w3 hs=>?_,fun h H w3 hs=>?_⟩
 ·have h:ok=false:=by simpa using h
  rw [h] at hK
  exact hK w3 (E1.hst hs)
 have h:ok=true:=by simpa using h
 rw [h,if_pos rfl] at hK
 refine (c_ev_facts ⟨k,f,c1,x1,fk⟩ w3).mono ?_
 rintro _ w4 ⟨s,rfl,hr⟩
 have hfl:(Sp.factsS ⟨k,f,c1,x1,fk⟩).length≤3:=by
  unfold Sp.factsS;repeat' split
  all_goals simp
 generalize Sp.factsS ⟨k,f,c1,x1,fk⟩=fs at *
 have O4:Own H w4 75 4 s (fs.map frow):=⟨hr.rows,fun b hb hH=>by have:=hr.own b hb;have:=hs.lt b hH;omega⟩
 have E4:=(E1.hst hs).trans hr.pure
 have hl:s.len=fs.length:=by rw [O4.len];simp
 refine ⟨s,rfl,hr.kept,fun d i H' w'=>∃j:Nat,i=j∧j≤fs.length∧Pure w0 w'∧Own H' w' 75 4 s (fs.map frow)∧Sp.whyF who c x 2 fs=Sp.whyF who c x d (fs.drop j),fun _ i _=>((fs.length:Int) - i).toNat,⟨0,rfl,Nat.zero_le _,E4,O4,rfl⟩,?_⟩
 rintro d _ Hl wl hl' ⟨j,rfl,hj,El,Ol,hw⟩
 unfold m_F1_l1
 refine ⟨fun h=>?_,fun h=>?_⟩
 ·have hlt:=lt_of_dec hl h
  obtain ⟨a,hat,hrow⟩:=Ol.nth hlt
  rw [List.drop_eq_getElem_cons hlt,Sp.whyF] at hw
  generalize fs[j]=g at *
  refine ⟨a,hat,_,_,_,_,hrow,?_⟩
  have go:∀(d':Int) (H3:NP) (w8:World),Hst w0 Hl wl H3 w8→Sp.whyF who c x 2 fs=Sp.whyF who c x d' (fs.drop (j+1))→(∃j':Nat,IntKind.i64.wrap ((j:Int)+1)=j'∧j'≤fs.length∧Pure w0 w8∧Own H3 w8 75 4 s (fs.map frow)∧Sp.whyF who c x 2 fs=Sp.whyF who c x d' (fs.drop j'))∧((fs.length:Int) - IntKind.i64.wrap ((j:Int)+1)).toNat<((fs.length:Int) - (j:Int)).toNat:=by
   intro d' H3 w8 hs8 h'
   rw [wrap_succ hlt (by omega)]
   exact ⟨⟨j+1,rfl,hlt,El.hst hs8,Ol.hst hs8,h'⟩,lt_dec hlt⟩
  refine ⟨fun h2 H3 w8 hs8=>go d H3 w8 hs8 ?_,fun h2=>⟨fun h3 H3 w8 hs8=>?_,fun h3=>⟨fun h4 H3 w8 hs8=>⟨_,run_max_int2 _ _ _ _ _ _ _,go _ H3 w8 hs8 ?_⟩,fun h4=>⟨fun h5 H3 w8 hs8=>⟨_,run_max_int2 _ _ _ _ _ _ _,go _ H3 w8 hs8 ?_⟩,fun h5 H3 w8 hs8=>⟨_,run_max_int2 _ _ _ _ _ _ _,go _ H3 w8 hs8 ?_⟩⟩⟩⟩⟩
  ·rw [hw,if_pos (bne_iff_ne.1 h2)]
  ·have h2:g.kind=2:=by simpa using h2
   simp at h3
   rw [hw,if_neg (by simp [h2]),if_pos h3.2] at hK
   exact hK w8 (El.hst hs8)
  all_goals
   have h2:g.kind=2:=by simpa using h2
   have h3:¬ (g.who=who∧g.c=c∧g.text=x):=by simpa [h2] using h3
   rw [hw,if_neg (by simp [h2]),if_neg h3]
  ·rw [if_pos (bne_iff_ne.1 h4)]
  ·have h4:g.who=who:=by simpa using h4
   rw [if_neg (by simp [h4]),if_pos (bne_iff_ne.1 h5)]
  ·have h4:g.who=who:=by simpa using h4
   have h5:g.c=c:=by simpa using h5
   rw [if_neg (by simp [h4]),if_neg (by simp [h5])]
 ·have hge:=eq_of_dec hl hj h
  subst hge
  rw [List.drop_length,Sp.whyF] at hw
  rw [hw] at hK
  exact hK wl El
theorem c_ev_both (p : Addr) (a b : Int) (w0 : World) {L : Sp.Pool} {F : NP} (hP : PoolAt w0 p L F) (hok : Sp.Ok L) :
  Calls Tryz.prog 90 #[.pointer (some p),.int .i64 a,.int .i64 b] w0 (fun e w'=>∃k f c:Int,∃x:ByteArray,∃g r:Bool,∃r2:Int,e=.returned (.tuple #[.agg #[.int .i64 k,.int .i64 f,.int .u64 c,.string x,.bool g],.bool r,.int .i64 r2])∧(((⟨k,f,c,x,g⟩:Sp.Letter),r,r2)=Sp.bothS L a b∧Pure w0 w')):=by
 suffices key:∀K:Int→Int→Int→ByteArray→Bool→Bool→Int→WP,(∀k f c x g r r2 w',((⟨k,f,c,x,g⟩:Sp.Letter),r,r2)=Sp.bothS L a b→Pure w0 w'→K k f c x g r r2 w')→m_X (some p) a b w0 K from
  w_X _ _ _ w0 _ (key _ (fun _ _ _ _ _ _ _ _ h E=>⟨h,E⟩))
 intro K hK
 unfold m_X
 refine Br.f rfl ?_
 intro H1 w1 hs1
 have E1:Pure w0 w1:=hs1.first
 have J:∀z:Bool,(z=true↔Sp.sizeOf L a=0∨Sp.sizeOf L b=0)→m_X_j1 (some p) a b z w0 H1 w1 K:=by
  intro z hz
  unfold m_X_j1
  refine ⟨fun h w3 hs3=>hK _ _ _ _ _ _ _ _ ?_ (E1.hst hs3),fun h=>?_⟩
  ·unfold Sp.bothS;rw [if_pos (hz.1 h)];rfl
  have hn:¬ (Sp.sizeOf L a=0∨Sp.sizeOf L b=0):=fun h'=>by rw [hz.2 h'] at h;cases h
  refine (c_letter_Read p a w1 (hP.pure E1) hok).mono ?_
  rintro _ w4 ⟨k,f,c,x,g,ok,rfl,hrd,E4⟩
  refine ⟨k,f,c,x,g,ok,rfl,E4.keptP,fun H2 w6 hs6=>?_⟩
  have E6:=(E1.trans E4).hst hs6
  refine (c_letter_Read p b w6 (hP.pure E6) hok).mono ?_
  rintro _ w7 ⟨k2,f2,c2,x2,g2,ok2,rfl,hrd2,E7⟩
  have e1:(Sp.read L a).1=⟨k,f,c,x,g⟩:=(congrArg Prod.fst hrd).symm
  have e2:(Sp.read L b).1=⟨k2,f2,c2,x2,g2⟩:=(congrArg Prod.fst hrd2).symm
  have E67:=E6.trans E7
  refine ⟨k2,f2,c2,x2,g2,ok2,rfl,E7.keptP,fun h2 H4 w11 hs11=>hK _ _ _ _ _ _ _ _ ?_ (E67.hst hs11),fun h2 y hy=>?_⟩
  ·rw [Bool.or_eq_true] at h2
   unfold Sp.bothS;rw [if_neg hn,e1,e2,if_pos (h2.imp bne_iff_ne.1 bne_iff_ne.1)];rfl
  rw [Bool.or_eq_false_iff] at h2
  have hb:¬ (k≠1∨k2≠1):=by simpa using h2
  refine ⟨fun h3 H10 w20 hs20=>hK _ _ _ _ _ _ _ _ ?_ (E67.hst hs20),fun h3 H10 w21 hs21=>hK _ _ _ _ _ _ _ _ ?_ (E67.hst hs21)⟩
  all_goals
   unfold Sp.bothS
   rw [if_neg hn,e1,e2,if_neg hb]
  ·rw [if_pos]
   rw [h3] at hy
   simp at hy
   rcases hy with (((h | h) | h) | h)
   ·exact .inl h
   ·exact .inr (.inl h)
   ·exact .inr (.inr (.inl h))
   ·exact .inr (.inr (.inr h))
  ·rw [if_neg]
   rw [h3] at hy
   simp at hy
   rintro (h | h | h | h)
   ·exact h hy.1.1.1
   ·exact h hy.1.1.2
   ·exact h hy.1.2
   ·exact h hy.2
 refine (c_Size p a w1 (hP.pure E1) hok).mono ?_
 rintro _ w2 ⟨_,rfl,rfl,rfl⟩
 refine ⟨_,rfl,Kept.refl _,fun h=>?_,fun h=>?_⟩
 ·exact J true ⟨fun _=>.inl (by simpa using h),fun _=>rfl⟩
 refine (c_Size p b w1 (hP.pure E1) hok).mono ?_
 rintro _ w3 ⟨_,rfl,rfl,rfl⟩
 refine ⟨_,rfl,Kept.refl _,J _ ?_⟩
 have h:¬ Sp.sizeOf L a=0:=by simpa using h
 simp [h]
theorem c_ev_Bonds {S : NP} (s : Sl) (who : Int) (fs : List Sp.Fact) (w0 : World) (hs : Lst S w0 4 s (fs.map frow)) (hS : ∀ b, S b → b < w0.heap.size) (hn : fs.length ≤ 1000000) :
  Calls Tryz.prog 40 #[s.v,.int .i64 who] w0 (fun e w'=>∃r:Sl,e=.returned r.v∧RetO w0 75 4 ((Sp.bonds12 who fs).map frow) r w'):=by
 suffices key:∀K:Sl→WP,(∀r w',RetO w0 75 4 ((Sp.bonds12 who fs).map frow) r w'→K r w')→m_I1 s who w0 K from
  w_I1 _ _ w0 _ (key _ (fun _ _ h=>h))
 intro K hK
 unfold m_I1
 have hl:s.len=fs.length:=by rw [hs.len];simp
 refine ⟨fun o i H w'=>∃j:Nat,i=j∧j≤fs.length∧Pure w0 w'∧(∀b,o.blk b→w0.heap.size≤b)∧Own H w' 75 4 o ((Sp.bonds12 who (fs.take j)).map frow),fun _ i _=>((fs.length:Int) - i).toNat,⟨0,rfl,Nat.zero_le _,Ext.refl _,fun b h=>(by obtain ⟨a,h,_⟩:=h;cases h),Own.nil _ _⟩,?_⟩
 rintro o _ Hl wl hl' ⟨j,rfl,hj,El,hown,Ol⟩
 unfold m_I1_l1
 refine ⟨fun h=>?_,fun h=>?_⟩
 ·have hlt:=lt_of_dec hl h
  obtain ⟨a,hat,_,hrow⟩:=(hs.pure El).nth hlt
  have htk:Sp.bonds12 who (fs.take (j+1))=Sp.bonds12 who (fs.take j)++(if (fs[j].kind == 2 && fs[j].who == who)=true then [fs[j]] else []):=by
   rw [List.take_succ_eq_append_getElem hlt,Sp.bonds12,Sp.bonds12,List.filter_append];simp only [List.filter_cons,List.filter_nil]
  have hbl:(Sp.bonds12 who (fs.take j)).length≤j:=by
   have:=List.length_filter_le (fun f:Sp.Fact=>f.kind == 2 && f.who == who) (fs.take j)
   unfold Sp.bonds12;rw [List.length_take] at this;omega
  generalize fs[j]=g at *
  refine ⟨a,hat,_,_,_,_,hrow,fun h2 H2 w3 hs3 p2 w4 h4=>?_,fun h2 H2 w3 hs3=>?_⟩
  ·rw [if_pos h2] at htk
   have E4:Pure w3 w4:=Ext.new h4
   have O4:=(Ol.hst hs3).pure E4
   have hE4:=(El.hst hs3).trans E4
   have hrow4:Row w4 p2 (frow g):=(Box.of_new h4).row
   obtain ⟨s',w5,hr,hO,hE,hk,hb⟩:=O4.append (P:=Tryz.prog) (ty:=71) (c:=1) slT_fact (hl'.trans hs3 |>.again E4.keptP) hrow4 rfl rfl (by simp;omega) (by simp [maxLen];omega)
   refine ⟨s',w5,hr,hk,?_⟩
   rw [wrap_succ hlt (by omega)]
   refine ⟨⟨j+1,rfl,hlt,append_own O4 hE4 hE hown,fun b h=>(hb b h).elim (hown b) (fun h=>by have:=hE4.size;omega),?_⟩,lt_dec hlt⟩
   rw [htk,List.map_append];exact hO
  ·rw [if_neg (by simp [h2]),List.append_nil] at htk
   rw [wrap_succ hlt (by omega)]
   exact ⟨⟨j+1,rfl,hlt,El.hst hs3,hown,by rw [htk];exact Ol.hst hs3⟩,lt_dec hlt⟩
 ·have hge:=eq_of_dec hl hj h
  subst hge
  rw [List.take_length] at Ol
  exact hK _ _ ⟨Ol.rows,hown,El⟩
end Go.Proofs
end
