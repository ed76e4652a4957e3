import Derived.Test.YtkafbiknboamlaaGreatDoorPa3
import Derived.Test.YtkafbiknboamlaaGreatDoorProg
import Derived.KernelRfl
import Derived.Test.YtkafbiknboamlaaGreatDoorPa2
import Derived.Test.YtkafbiknboamlaaGreatDoorPa5
import Derived.Shelf.Strconv.Itoa3
import Derived.Test.YtkafbiknboamlaaGreatDoorPa1
import Derived.Test.YtkafbiknboamlaaGreatDoorPa0
import Derived.Laws.DeepStrings4
import Derived.Test.YtkafbiknboamlaaGreatDoorPa4
section
open Go Go.SE
namespace Go.Sp
def vB (L:Pool) (t kind:Int):Node×Bool:=if inP L t=true∧(nodeOf L t).kind=kind then (nodeOf L t,false) else (jDC,true)
def zZ (L:Pool) (t:Int):(ByteArray×Int)×Bool :=
 (((vB L (vB L t 4).1.a 3).1.text,(vB L t 4).1.b),(vB L t 4).2 || (vB L (vB L t 4).1.a 3).2)
def vT (L:Pool) (t:Int):(Int×ByteArray)×Bool :=
 let g:=zZ L t
 let n:=vB L g.1.2 4
 (((vB L n.1.a 2).1.num,(vB L n.1.b 3).1.text),g.2 || n.2 || !decide (g.1.1=jAU) || (vB L n.1.a 2).2 || (vB L n.1.b 3).2)
end Go.Sp
namespace Go.Proofs
open Tryz
attribute [local irreducible] Calls
def jCG (w:World) (q:Option Addr) (L:Sp.Pool) (F:NP):Prop:=match q with
 | some p=>zO w p L F
 | none=>L=[]∧∀b,¬ F b
theorem jCG.ext {G:NP} {w w':World} {p:Option Addr} {L:Sp.Pool} {F:NP} (h:jCG w p L F) (hE:Ext G w w') (hd:∀b,F b→¬ G b):jCG w' p L F:=by
 cases p with
 | none=>exact h
 | some p=>exact zO.ext h hE hd
theorem jCG.pure {w w':World} {p:Option Addr} {L:Sp.Pool} {F:NP} (h:jCG w p L F) (hE:Pure w w'):jCG w' p L F:=h.ext hE (fun _ _ h=>h)
theorem jCG.lt {w:World} {p:Option Addr} {L:Sp.Pool} {F:NP} (h:jCG w p L F) {b:Nat} (hb:F b):b<w.heap.size:=by
 cases p with
 | none=>exact absurd hb (h.2 b)
 | some p=>exact zO.lt h hb
theorem jLA (p:Option Addr) (t:Int) (w:World) {L:Sp.Pool} {F:NP} (hP:jCG w p L F) (hok:Sp.Ok L):Calls prog 61 #[.pointer p,.int .i64 t] w
  (fun e w'=>∃k:Int,∃f:Int,∃t':Int,∃u:Int,∃x:ByteArray,∃a:Int,∃b:Int,∃r:Bool,e=.returned (.tuple #[.agg #[.int .i64 k,.int .i64 f,.int .i64 t',.int .u64 u,.string x,.int .i64 a,.int .i64 b],.bool r])∧(((⟨k,f,t',u,x,a,b⟩:Sp.Node)=Sp.nodeOf L t∧r=Sp.inP L t)∧Pure w w')):=by
 cases p with
 | some p=>exact jJK p t w hP hok
 | none =>
  obtain ⟨rfl,_⟩:=hP
  have hin0:Sp.inP [] t=false:=by cases h:Sp.inP [] t;rfl;have:=Sp.vA.1 h;simp at this;omega
  have hno:Sp.nodeOf [] t=⟨0,0,0,0,⟨#[]⟩,0,0⟩:=by unfold Sp.nodeOf Sp.get;split <;> simp [Sp.jDC]
  rw [hin0,hno]
  refine w_U1 none t w (fun k f t' u x a b r w'=>((⟨k,f,t',u,x,a,b⟩:Sp.Node)=⟨0,0,0,0,⟨#[]⟩,0,0⟩∧r=false)∧Pure w w') ?_
  unfold m_U1
  intro p1 w1 h1
  have E1:Pure w w1:=Ext.new h1
  have b1:=Box.of_new h1
  have hp:=New.own (Ext.refl w) h1
  have hin:Calls prog 115 #[.pointer none,.int .i64 t] w1 (fun e w'=>∃r,e=.returned (.bool r)∧(r=false∧w'=w1)):=by
   refine w_V _ _ w1 (fun r w'=>r=false∧w'=w1) ?_;unfold m_V;have j1:m_V_j1 none t false w1 (fun r w'=>r=false∧w'=w1):=by
    unfold m_V_j1
    first
     | exact Br.f rfl ⟨rfl,rfl⟩
     | exact ⟨rfl,rfl⟩
     | (unfold m_V_j2;exact Br.f rfl ⟨rfl,rfl⟩)
     | (refine Br.f rfl ?_;unfold m_V_j2;exact ⟨rfl,rfl⟩)
   first
    | exact Br.f rfl j1
    | exact Br.t rfl j1
  refine hin.mono ?_
  rintro _ _ ⟨_,rfl,rfl,rfl⟩
  exact ⟨_,rfl,fun h1=>bx 7 b1 rfl rfl (fun w' b E=>⟨_,_,_,_,_,_,_,b.row,⟨rfl,rfl⟩,E1.own hp E⟩),fun h1=>by cases h1⟩
structure ReaderAt (w:World) (r:Addr) (p:Option Addr) (bad:Bool) (L:Sp.Pool) (F:NP):Prop where
 box:Box w r [.pointer p,.bool bad] 141
 pool:jCG w p L F
 ok:Sp.Ok L
 out:¬ F r.block
theorem ReaderAt.pure {w w':World} {r:Addr} {p:Option Addr} {bad:Bool} {L:Sp.Pool} {F:NP} (h:ReaderAt w r p bad L F) (E:Pure w w'):ReaderAt w' r p bad L F:=⟨h.box.pure E,h.pool.pure E,h.ok,h.out⟩
theorem uE (r:Addr) (p:Option Addr) (t kind:Int) (bad:Bool) (w:World) {L:Sp.Pool} {F:NP} (hR:ReaderAt w r p bad L F) :
  Calls prog 88 #[.pointer (some r),.int .i64 t,.int .i64 kind] w
   (fun e w'=>∃k':Int,∃f':Int,∃t':Int,∃u':Int,∃x':ByteArray,∃a':Int,∃b':Int,e=.returned (.agg #[.int .i64 k',.int .i64 f',.int .i64 t',.int .u64 u',.string x',.int .i64 a',.int .i64 b'])∧((⟨k',f',t',u',x',a',b'⟩:Sp.Node)=(Sp.vB L t kind).1∧ReaderAt w' r p (bad || (Sp.vB L t kind).2) L F∧Ext (·=r.block) w w')):=by
 suffices key:∀K:Int→Int→Int→Int→ByteArray→Int→Int→WP,(∀k' f' t' u' x' a' b' w',((⟨k',f',t',u',x',a',b'⟩:Sp.Node)=(Sp.vB L t kind).1∧ReaderAt w' r p (bad || (Sp.vB L t kind).2) L F∧Ext (·=r.block) w w')→K k' f' t' u' x' a' b' w')→m_C2 (some r) t kind w K from
  w_C2 _ _ _ w _ (key _ (fun _ _ _ _ _ _ _ _ h=>h))
 intro K hK
 unfold m_C2
 intro p1 w1 h1
 have E1:Pure w w1:=Ext.new h1
 have o1:=New.own (Ext.refl w) h1
 have lr:=hR.box.lt
 have b1:=Box.of_new h1
 refine ⟨r,rfl,p,(hR.box.pure E1).cell0,?_⟩
 refine (jLA p t w1 (hR.pool.pure E1) hR.ok).mono ?_
 rintro _ w2 ⟨k',f',t',u',x',a',b',ok,rfl,⟨hn,hok⟩,E12⟩
 refine ⟨_,_,_,_,_,_,_,_,rfl,?_⟩
 intro p2 w3 h3
 have E2:Pure w w2:=E1.trans E12
 have o3:=New.own E2 h3
 have n12:p1.block≠p2.block:=New.ne h3 (b1.pure E12).blk
 refine bx 7 (Box.of_new h3) rfl rfl (fun w4 b2 E'=>?_)
 have E4:Pure w w4:=(E2.trans (Ext.new h3)).own o3 E'
 have c1:=((b1.pure E12).pure (Ext.new h3)).ext E' n12
 have hR4:=hR.pure E4
 clear E' E2 E12 b1 h1 h3
 have bad1 : Sp.vB L t kind = (Sp.jDC, true) → zQ w4 (r.add 1) ∧ ∀ w5 : World, w5 = w4.setCell (r.add 1) (.bool true) →
   (∀j,j<7→zQ w5 (p1.add j))∧∀w6:World,w6=storeRow w5 p1 [(.int .i64 0),(.int .i64 0),(.int .i64 0),(.int .u64 0),(.string (⟨#[]⟩:ByteArray)),(.int .i64 0),(.int .i64 0)] →
   ∃qKind1:Int,∃qFrom1:Int,∃qTo1:Int,∃qNum1:Int,∃qText1:ByteArray,∃qA1:Int,∃qB1:Int,Row w6 p1 [(.int .i64 qKind1),(.int .i64 qFrom1),(.int .i64 qTo1),(.int .u64 qNum1),(.string qText1),(.int .i64 qA1),(.int .i64 qB1)] ∧
   K qKind1 qFrom1 qTo1 qNum1 qText1 qA1 qB1 w6:=by
  intro hrd
  refine ⟨hR4.box.canW (by simp),?_⟩
  intro w5 hw5
  have d5:Box w5 r [.pointer p,.bool true] 141:=by rw [hw5];exact hR4.box.set 1 _
  have E5:Ext (·=r.block) w4 w5:=by rw [hw5];have:=Ext.setCell (w:=w4) (r.add 1) (.bool true);rw [zP] at this;exact this
  clear hw5
  have n1r:p1.block≠r.block:=by omega
  refine bx 7 (c1.ext E5 n1r) rfl rfl (fun w6 b6 E6=>⟨_,_,_,_,_,_,_,b6.row,hK _ _ _ _ _ _ _ _ ⟨by rw [hrd];rfl,⟨?_,?_,hR.ok,hR.out⟩,?_⟩⟩)
  ·rw [hrd];simp only [Bool.or_true];exact d5.ext E6 n1r.symm
  ·exact (hR4.pool.ext E5 (fun b hb e=>hR.out (e▸hb))).ext E6 (fun b hb e=>by have:=hR.pool.lt hb;omega)
  ·exact (E4.pure.trans E5).trans' E6 (fun i hi h=>by omega)
 refine ⟨fun h=>⟨r,rfl,?_⟩,fun h=>⟨k',b2.cell0,fun h2=>⟨r,rfl,?_⟩,fun h2=>?_⟩⟩
 ·refine bad1 ?_
  have:¬ Sp.inP L t=true:=by rw [← hok];simpa using h
  unfold Sp.vB;rw [if_neg (fun h=>this h.1)]
 ·refine bad1 ?_
  have:(Sp.nodeOf L t).kind≠kind:=by rw [← hn];simpa using h2
  unfold Sp.vB;rw [if_neg (fun h=>this h.2)]
 ·have hi:Sp.inP L t=true:=by rw [← hok];simpa using h
  have hk:(Sp.nodeOf L t).kind=kind:=by rw [← hn];simpa using h2
  have hrd:Sp.vB L t kind=(Sp.nodeOf L t,false):=by unfold Sp.vB;rw [if_pos ⟨hi,hk⟩]
  refine ⟨_,_,_,_,_,_,_,b2.row,bx 7 c1 rfl rfl (fun w6 b6 E6=>⟨_,_,_,_,_,_,_,b6.row,hK _ _ _ _ _ _ _ _ ⟨by rw [hrd];exact hn,?_,?_⟩⟩)⟩
  ·rw [hrd];simp only [Bool.or_false]
   exact hR.pure (E4.own o1 E6)
  ·exact (E4.own o1 E6).pure
theorem jBC (r:Addr) (p:Option Addr) (t:Int) (bad:Bool) (w:World) {L:Sp.Pool} {F:NP} (hR:ReaderAt w r p bad L F) :
  Calls prog 87 #[.pointer (some r),.int .i64 t] w
   (fun e w'=>∃x:ByteArray,∃b:Int,e=.returned (.tuple #[.string x,.int .i64 b])∧((x,b)=(Sp.zZ L t).1∧ReaderAt w' r p (bad || (Sp.zZ L t).2) L F∧Ext (·=r.block) w w')):=by
 suffices key:∀K:ByteArray→Int→WP,(∀x b w',((x,b)=(Sp.zZ L t).1∧ReaderAt w' r p (bad || (Sp.zZ L t).2) L F∧Ext (·=r.block) w w')→K x b w')→m_B2 (some r) t w K from
  w_B2 _ _ w _ (key _ (fun _ _ _ h=>h))
 intro K hK
 unfold m_B2
 refine (uE r p t 4 bad w hR).mono ?_
 rintro _ w1 ⟨k1,f1,t1,u1,x1,a1,b1,rfl,hn,hR1,E1⟩
 refine ⟨_,_,_,_,_,_,_,rfl,?_⟩
 intro p1 w2 h2
 have o2:=New.own (Ext.refl w1) h2
 refine bx 7 (Box.of_new h2) rfl rfl (fun w3 b3 E'=>?_)
 have E3:Pure w1 w3:=Ext.own (Ext.new h2) o2 E'
 have l1:=hR1.box.lt
 refine ⟨fun w'=>Box w' p1 [.int .i64 k1,.int .i64 f1,.int .i64 t1,.int .u64 u1,.string x1,.int .i64 a1,.int .i64 b1] 103,b3.pure (Ext.drew w3),?_⟩
 intro w4 hw4
 have E4:Pure w1 w4:=by rw [hw4];exact E3.thenPure (Ext.drew w3)
 have c4:Box w4 p1 [.int .i64 k1,.int .i64 f1,.int .i64 t1,.int .u64 u1,.string x1,.int .i64 a1,.int .i64 b1] 103:=by rw [hw4];exact b3.pure (Ext.drew w3)
 clear hw4
 refine ⟨a1,fun w' h=>h.cell rfl,b1,fun w' h=>h.cell rfl,?_⟩
 refine (uE r p a1 3 _ w4 (hR1.pure E4)).mono ?_
 rintro _ w5 ⟨k2,f2,t2,u2,x2,a2,b2,rfl,hn2,hR2,E5⟩
 refine ⟨_,_,_,_,_,_,_,rfl,c4.ext E5 (by omega),hK _ _ _ ⟨?_,?_,?_⟩⟩
 ·have ea:a1=(Sp.vB L t 4).1.a:=by rw [← hn]
  have eb:b1=(Sp.vB L t 4).1.b:=by rw [← hn]
  simp only [Sp.zZ,← ea,← eb,← hn2]
 ·have ea:a1=(Sp.vB L t 4).1.a:=by rw [← hn]
  rw [ea] at hR2
  simp only [Sp.zZ,← Bool.or_assoc]
  exact hR2
 ·exact (E1.thenPure E4).trans E5
end Go.Proofs
end
section
open Go Go.SE
namespace Go.Sp
def zW (L:Pool) (t:Int):Letter×Bool :=
 let n:=nodeOf L t
 if (n.kind≠8∧n.kind≠9)∨1<n.frm∨n.to≠IntKind.i64.wrap (1 - n.frm) then (yZ,true)
 else (⟨1,n.frm,(vT L n.a).1.1,(vT L n.a).1.2,n.kind == 9⟩,(vT L n.a).2)
end Go.Sp
namespace Go.Proofs
open Tryz
attribute [local irreducible] Calls
theorem jFB (r:Addr) (p:Option Addr) (t:Int) (bad:Bool) (w:World) {L:Sp.Pool} {F:NP} (hR:ReaderAt w r p bad L F) :
  Calls prog 91 #[.pointer (some r),.int .i64 t] w
   (fun e w'=>∃c:Int,∃x:ByteArray,e=.returned (.tuple #[.int .u64 c,.string x])∧((c,x)=(Sp.vT L t).1∧ReaderAt w' r p (bad || (Sp.vT L t).2) L F∧Ext (·=r.block) w w')):=by
 suffices key:∀K:Int→ByteArray→WP,(∀c x w',((c,x)=(Sp.vT L t).1∧ReaderAt w' r p (bad || (Sp.vT L t).2) L F∧Ext (·=r.block) w w')→K c x w')→m_Z (some r) t w K from
  w_Z _ _ w _ (key _ (fun _ _ _ h=>h))
 intro K hK
 unfold m_Z
 refine (jBC r p t bad w hR).mono ?_
 rintro _ w1 ⟨x1,y1,rfl,hg,hR1,E1⟩
 refine ⟨_,_,rfl,?_⟩
 refine (uE r p y1 4 _ w1 hR1).mono ?_
 rintro _ w2 ⟨k2,f2,t2,u2,x2,a2,b2,rfl,hn,hR2,E2⟩
 refine ⟨_,_,_,_,_,_,_,rfl,?_⟩
 intro p1 w3 h3
 have o3:=New.own (Ext.refl w2) h3
 have l2:=hR2.box.lt
 refine bx 7 (Box.of_new h3) rfl rfl (fun w4 b4 E'=>?_)
 have E4:Pure w2 w4:=Ext.own (Ext.new h3) o3 E'
 have hR4:=hR2.pure E4
 clear E' h3
 have ey:y1=(Sp.zZ L t).1.2:=congrArg Prod.snd hg
 have ex:x1=(Sp.zZ L t).1.1:=congrArg Prod.fst hg
 have ea:a2=(Sp.vB L y1 4).1.a:=by rw [← hn]
 have eb:b2=(Sp.vB L y1 4).1.b:=by rw [← hn]
 generalize hb4:(bad || (Sp.zZ L t).2 || (Sp.vB L y1 4).2)=bad4 at *
 have fin:∀(v:Bool) (w5:World),(v=(bad4 || !decide (x1=Sp.jAU)))→Box w5 r [.pointer p,.bool v] 141→Ext (·=r.block) w4 w5→m_Z_j1 (some r) p1 w5 K:=by
  intro v w5 hv B5 E5;have hR5:ReaderAt w5 r p v L F:=⟨B5,hR4.pool.ext E5 (fun b hb e=>hR.out (e▸hb)),hR.ok,hR.out⟩;have c5:=b4.ext E5 (by omega);unfold m_Z_j1;refine ⟨fun w'=>Box w' p1 [.int .i64 k2,.int .i64 f2,.int .i64 t2,.int .u64 u2,.string x2,.int .i64 a2,.int .i64 b2] 103,c5.pure (Ext.drew w5),?_⟩;intro w6 hw6;have E6:Pure w5 w6:=by rw [hw6];exact Ext.drew w5
  clear hw6;have c6:=c5.pure E6;refine ⟨a2,fun w' h=>h.cell rfl,b2,fun w' h=>h.cell rfl,?_⟩;refine (uE r p a2 2 _ w6 (hR5.pure E6)).mono ?_;rintro _ w7 ⟨k3,f3,t3,u3,x3,a3,b3,rfl,hn3,hR7,E7⟩;have c7:=c6.ext E7 (by omega);refine ⟨_,_,_,_,_,_,_,rfl,c7,?_⟩;refine (uE r p b2 3 _ w7 hR7).mono ?_;rintro _ w8 ⟨k4,f4,t4,u4,x4,a4,b4',rfl,hn4,hR8,E8⟩;have e3:u3=(Sp.vB L a2 2).1.num:=by rw [← hn3]
  have e4:x4=(Sp.vB L b2 3).1.text:=by rw [← hn4]
  refine ⟨_,_,_,_,_,_,_,rfl,c7.ext E8 (by omega),hK _ _ _ ⟨?_,?_,?_⟩⟩
  ·simp only [Sp.vT,← ey,← ea,← eb,← e3,← e4]
  ·have : (bad || (Sp.vT L t).2) = (v || (Sp.vB L a2 2).2 || (Sp.vB L b2 3).2) := by
    simp only [Sp.vT,← ey,← ea,← eb,← ex,hv,← hb4,Bool.or_assoc]
   rw [this];exact hR8
  ·exact ((((E1.trans E2).thenPure E4).trans E5).thenPure E6 |>.trans E7).trans E8
 have setr:∀v:Bool,Box (w4.setCell (r.add 1) (.bool v)) r [.pointer p,.bool v] 141∧Ext (·=r.block) w4 (w4.setCell (r.add 1) (.bool v)):=fun v =>
  ⟨hR4.box.set 1 _,by have:=Ext.setCell (w:=w4) (r.add 1) (.bool v);rw [zP] at this;exact this⟩
 refine ⟨r,rfl,bad4,hR4.box.cell rfl,fun h=>⟨r,rfl,hR4.box.canW (by simp),?_⟩,fun h=>⟨r,rfl,hR4.box.canW (by simp),?_⟩⟩
 ·intro w8 hw8
  have:=setr true
  exact fin true w8 (by rw [h];rfl) (by rw [hw8];exact this.1) (by rw [hw8];exact this.2)
 ·intro w8 hw8
  have:=setr (!decide (x1=Sp.jAU))
  exact fin (!decide (x1=Sp.jAU)) w8 (by rw [h];rfl) (by rw [hw8];exact this.1) (by rw [hw8];exact this.2)
theorem vE (r:Addr) (p:Option Addr) (t:Int) (bad:Bool) (w:World) {L:Sp.Pool} {F:NP} (hR:ReaderAt w r p bad L F) :
  Calls prog 86 #[.pointer (some r),.int .i64 t] w
   (fun e w'=>∃k:Int,∃f:Int,∃c:Int,∃x:ByteArray,∃fk:Bool,e=.returned (.agg #[.int .i64 k,.int .i64 f,.int .u64 c,.string x,.bool fk])∧((⟨k,f,c,x,fk⟩:Sp.Letter)=(Sp.zW L t).1∧ReaderAt w' r p (bad || (Sp.zW L t).2) L F∧Ext (·=r.block) w w')):=by
 suffices key:∀K:Int→Int→Int→ByteArray→Bool→WP,(∀k f c x fk w',((⟨k,f,c,x,fk⟩:Sp.Letter)=(Sp.zW L t).1∧ReaderAt w' r p (bad || (Sp.zW L t).2) L F∧Ext (·=r.block) w w')→K k f c x fk w')→m_O (some r) t w K from
  w_O _ _ w _ (key _ (fun _ _ _ _ _ _ h=>h))
 intro K hK
 unfold m_O
 intro p1 w1 h1
 have E1:Pure w w1:=Ext.new h1
 have o1:=New.own (Ext.refl w) h1
 have lr:=hR.box.lt
 have b1:=Box.of_new h1
 refine ⟨r,rfl,p,(hR.box.pure E1).cell0,?_⟩
 refine (jLA p t w1 (hR.pool.pure E1) hR.ok).mono ?_
 rintro _ w2 ⟨k,f,t',u,x,a,b,ok,rfl,⟨hn,hok⟩,E12⟩
 refine ⟨_,_,_,_,_,_,_,_,rfl,?_⟩
 intro p2 w3 h3
 have E2:Pure w w2:=E1.trans E12
 have o3:=New.own E2 h3
 have n12:p1.block≠p2.block:=New.ne h3 (b1.pure E12).blk
 refine bx 7 (Box.of_new h3) rfl rfl (fun w4 b2 E'=>?_)
 have E4:Pure w w4:=(E2.trans (Ext.new h3)).own o3 E'
 have c1:=((b1.pure E12).pure (Ext.new h3)).ext E' n12
 have hR4:=hR.pure E4
 clear E' E2 E12 b1 h1 h3
 have n1r:p1.block≠r.block:=by omega
 have hsp:Sp.zW L t=if (k≠8∧k≠9)∨1<f∨t'≠IntKind.i64.wrap (1 - f) then (Sp.yZ,true) else (⟨1,f,(Sp.vT L a).1.1,(Sp.vT L a).1.2,k == 9⟩,(Sp.vT L a).2):=by
  simp only [Sp.zW,← hn]
 have bad1 : ((k ≠ 8 ∧ k ≠ 9) ∨ 1 < f ∨ t' ≠ IntKind.i64.wrap (1 - f)) → zQ w4 (r.add 1) ∧ ∀ w5 : World, w5 = w4.setCell (r.add 1) (.bool true) →
   (∀j,j<5→zQ w5 (p1.add j))∧∀w6:World,w6=storeRow w5 p1 [(.int .i64 0),(.int .i64 0),(.int .u64 0),(.string (⟨#[]⟩:ByteArray)),(.bool false)] →
   ∃qKind1:Int,∃qFrom1:Int,∃qC1:Int,∃qText1:ByteArray,∃qFake1:Bool,Row w6 p1 [(.int .i64 qKind1),(.int .i64 qFrom1),(.int .u64 qC1),(.string qText1),(.bool qFake1)] ∧
   K qKind1 qFrom1 qC1 qText1 qFake1 w6:=by
  intro hc
  rw [if_pos hc] at hsp
  refine ⟨hR4.box.canW (by simp),?_⟩
  intro w5 hw5
  have d5:Box w5 r [.pointer p,.bool true] 141:=by rw [hw5];exact hR4.box.set 1 _
  have E5:Ext (·=r.block) w4 w5:=by rw [hw5];have:=Ext.setCell (w:=w4) (r.add 1) (.bool true);rw [zP] at this;exact this
  clear hw5
  refine bx 5 (c1.ext E5 n1r) rfl rfl (fun w6 b6 E6=>⟨0,0,0,⟨#[]⟩,false,b6.row,hK _ _ _ _ _ _ ⟨by rw [hsp];rfl,⟨?_,?_,hR.ok,hR.out⟩,?_⟩⟩)
  ·rw [hsp];simp only [Bool.or_true];exact d5.ext E6 n1r.symm
  ·exact (hR4.pool.ext E5 (fun b hb e=>hR.out (e▸hb))).ext E6 (fun b hb e=>by have:=hR.pool.lt hb;omega)
  ·exact (E4.pure.trans E5).trans' E6 (fun i hi h=>by omega)
 have J1:¬ ((k≠8∧k≠9)∨1<f∨t'≠IntKind.i64.wrap (1 - f))→m_O_j1 (some r) p1 p2 w4 K:=by
  intro hc;rw [if_neg hc] at hsp;unfold m_O_j1;refine ⟨a,b2.cell rfl,?_⟩;refine (jFB r p a bad w4 hR4).mono ?_;rintro _ w5 ⟨c,y,rfl,hd,hR5,E5⟩;have d2:=b2.ext E5 (by omega);have d1:=c1.ext E5 n1r;have ec:c=(Sp.vT L a).1.1:=congrArg Prod.fst hd;have ey:y=(Sp.vT L a).1.2:=congrArg Prod.snd hd;refine ⟨_,_,rfl,f,d2.cell rfl,k,d2.cell0,bx 5 d1 rfl rfl (fun w6 b6 E6=>⟨1,f,c,y,k == 9,b6.row,hK _ _ _ _ _ _ ⟨?_,?_,?_⟩⟩)⟩
  ·rw [hsp];simp only [← ec,← ey]
  ·rw [hsp];exact ⟨hR5.box.ext E6 n1r.symm,hR5.pool.ext E6 (fun b hb e=>by have:=hR.pool.lt hb;omega),hR.ok,hR.out⟩
  ·exact (E4.pure.trans E5).trans' E6 (fun i hi h=>by omega)
 have J3:∀x2,x2=((k != 8 && k != 9) || decide (1<f))→m_O_j3 (some r) p1 p2 x2 w4 K:=by
  intro x2 hx;unfold m_O_j3;refine ⟨fun h=>⟨r,rfl,bad1 ?_⟩,fun h=>⟨t',b2.cell rfl,f,b2.cell rfl,fun h2=>⟨r,rfl,bad1 ?_⟩,fun h2=>J1 ?_⟩⟩
  ·rw [h] at hx;have hx:=hx.symm;simp at hx;rcases hx with hx | hx
   ·exact .inl hx
   ·exact .inr (.inl hx)
  ·exact .inr (.inr (by simpa using h2))
  ·rw [h] at hx;have hx:=hx.symm;simp only [Bool.or_eq_false_iff,decide_eq_false_iff_not] at hx;rintro (h3 | h3 | h3)
   ·have:=hx.1;simp [h3.1,h3.2] at this
   ·exact hx.2 h3
   ·have h2:t'=IntKind.i64.wrap (1 - f):=by simpa using h2
    exact h3 h2
 have J2:∀x1,x1=(k != 8 && k != 9)→m_O_j2 (some r) p1 p2 x1 w4 K:=by
  intro x1 hx;unfold m_O_j2;exact ⟨fun h=>J3 _ (by rw [← hx,h];rfl),fun h=>⟨f,b2.cell rfl,J3 _ (by rw [← hx,h];rfl)⟩⟩
 exact ⟨k,b2.cell0,fun h=>⟨k,b2.cell0,J2 _ (by rw [h];rfl)⟩,fun h=>J2 _ (by rw [h];rfl)⟩
end Go.Proofs
end
section
open Go Go.SE
namespace Go.Sp
def vZ (L:Pool) (who n:Int):Letter×Bool :=
 let m:=vB L n 4
 let a:=zW L m.1.a
 let b:=zW L m.1.b
 (⟨4,who,a.1.c,a.1.text,a.1.fake || b.1.fake⟩,m.2 || a.2 || b.2 || a.1.frm != 0 || b.1.frm != 1 || a.1.c != b.1.c || !decide (a.1.text=b.1.text))
def qI (L:Pool) (who body:Int):Letter×Bool :=
 let g:=zZ L body
 if g.1.1=uR∧who=0 then (⟨3,0,(vB L g.1.2 2).1.num,⟨#[]⟩,false⟩,g.2 || (vB L g.1.2 2).2)
 else if g.1.1=qW∧who=2 then (⟨5,0,(vB L g.1.2 2).1.num,⟨#[]⟩,false⟩,g.2 || (vB L g.1.2 2).2)
 else if g.1.1=yC∧who=2 then (⟨6,0,(vT L g.1.2).1.1,(vT L g.1.2).1.2,false⟩,g.2 || (vT L g.1.2).2)
 else if g.1.1=jAU∧who≤1 then (⟨2,who,(vT L body).1.1,(vT L body).1.2,false⟩,g.2 || (vT L body).2)
 else if g.1.1=yB∧who≤1 then ((vZ L who g.1.2).1,g.2 || (vZ L who g.1.2).2)
 else (yZ,true)
end Go.Sp
namespace Go.Proofs
attribute [local irreducible] Calls
def lz:List Value:=[.int .i64 0,.int .i64 0,.int .u64 0,.string ⟨#[]⟩,.bool false]
theorem jJF (r:Addr) (p:Option Addr) (p1:Addr) (who n:Int) (bad:Bool) (w:World) {L:Sp.Pool} {F:NP} (hR:ReaderAt w r p bad L F) (hB:Box w p1 lz 56) (hne:p1.block≠r.block) (K:Int→Int→Int→ByteArray→Bool→WP)
  (hK:∀w6 w',ReaderAt w6 r p (bad || (Sp.vZ L who n).2) L F→Ext (·=r.block) w w6→Box w' p1 [.int .i64 4,.int .i64 who,.int .u64 (Sp.vZ L who n).1.c,.string (Sp.vZ L who n).1.text,.bool (Sp.vZ L who n).1.fake] 56→Ext (·=p1.block) w6 w'→K 4 who (Sp.vZ L who n).1.c (Sp.vZ L who n).1.text (Sp.vZ L who n).1.fake w') :
  m_B_j5 (some r) who p1 n true w K:=by
 unfold m_B_j5
 refine Br.t rfl ?_
 refine (uE r p n 4 bad w hR).mono ?_
 rintro _ w11 ⟨k2,f2,t2,u2,x2,a2,b2,rfl,hn,hR11,E11⟩
 refine ⟨_,_,_,_,_,_,_,rfl,?_⟩
 intro p2 w12 h12
 have o12:=New.own (Ext.refl w11) h12
 have l11:=hR11.box.lt
 have l1:=hB.lt
 have s11:=E11.size
 refine bx 7 (Box.of_new h12) rfl rfl (fun w13 b13 E'=>?_)
 have E13:Pure w11 w13:=Ext.own (Ext.new h12) o12 E'
 have hB11:=hB.ext E11 hne
 clear E' h12
 refine ⟨fun w'=>Box w' p2 [.int .i64 k2,.int .i64 f2,.int .i64 t2,.int .u64 u2,.string x2,.int .i64 a2,.int .i64 b2] 103,b13.pure (Ext.drew w13),?_⟩
 intro w18 hw18
 have E18:Pure w11 w18:=by rw [hw18];exact E13.thenPure (Ext.drew w13)
 have cN:Box w18 p2 [.int .i64 k2,.int .i64 f2,.int .i64 t2,.int .u64 u2,.string x2,.int .i64 a2,.int .i64 b2] 103:=by rw [hw18];exact b13.pure (Ext.drew w13)
 clear hw18
 have hR18:=hR11.pure E18
 have hB18:=hB11.pure E18
 have s18:=E18.size
 have Ew18:Ext (·=r.block) w w18:=E11.thenPure E18
 have ea:a2=(Sp.vB L n 4).1.a:=by rw [← hn]
 have eb:b2=(Sp.vB L n 4).1.b:=by rw [← hn]
 generalize hbad:(bad || (Sp.vB L n 4).2)=bad2 at *
 have leaf : ∀ (pA pB : Addr) (w' : World) (ka fa ca : Int) (xa : ByteArray) (ga : Bool) (kb fb cb : Int) (xb : ByteArray) (gb : Bool), (⟨ka, fa, ca, xa, ga⟩ : Sp.Letter) = (Sp.zW L a2).1 → (⟨kb, fb, cb, xb, gb⟩ : Sp.Letter) = (Sp.zW L b2).1 →
   ReaderAt w' r p (bad2 || (Sp.zW L a2).2 || (Sp.zW L b2).2) L F→Ext (·=r.block) w18 w'→Box w' pA [.int .i64 0,.int .i64 0,.int .u64 0,.string ⟨#[]⟩,.bool false] 56→Box w' pB [.int .i64 0,.int .i64 0,.int .u64 0,.string ⟨#[]⟩,.bool false] 56→pA.block≠pB.block→w18.heap.size≤pA.block→w18.heap.size≤pB.block →
   (∀j,j<5→zQ w' (pA.add j))∧∀w23:World,w23=storeRow w' pA [.int .i64 ka,.int .i64 fa,.int .u64 ca,.string xa,.bool ga] →
   (∀j,j<5→zQ w23 (pB.add j))∧∀w24:World,w24=storeRow w23 pB [.int .i64 kb,.int .i64 fb,.int .u64 cb,.string xb,.bool gb]→m_B_j6 (some r) who p1 pA pB w24 K:=by
  intro pA pB w' ka fa ca xa ga kb fb cb xb gb hla hlb hR' E' hA hBb hAB hoA hoB
  have s':=E'.size
  refine bx 5 hA rfl rfl (fun w23 bA E23=>?_)
  refine bx 5 (hBb.ext E23 hAB.symm) rfl rfl (fun w24 bB E24=>?_)
  have dA:=bA.ext E24 hAB
  have hR24:ReaderAt w24 r p (bad2 || (Sp.zW L a2).2 || (Sp.zW L b2).2) L F:=⟨(hR'.box.ext E23 (by omega)).ext E24 (by omega),(hR'.pool.ext E23 (fun b hb e=>by have:=hR.pool.lt hb;omega)).ext E24 (fun b hb e=>by have:=hR.pool.lt hb;omega),hR'.ok,hR'.out⟩
  have hB24:Box w24 p1 lz 56:=((hB18.ext E' hne).ext E23 (by omega)).ext E24 (by omega)
  have E24':Ext (·=r.block) w w24:=((Ew18.trans E').trans' E23 (fun i hi h=>by omega)).trans' E24 (fun i hi h=>by omega)
  have e1:fa=(Sp.zW L a2).1.frm:=by rw [← hla]
  have e2:fb=(Sp.zW L b2).1.frm:=by rw [← hlb]
  have e3:ca=(Sp.zW L a2).1.c:=by rw [← hla]
  have e4:cb=(Sp.zW L b2).1.c:=by rw [← hlb]
  have e5:xa=(Sp.zW L a2).1.text:=by rw [← hla]
  have e6:xb=(Sp.zW L b2).1.text:=by rw [← hlb]
  have e7:ga=(Sp.zW L a2).1.fake:=by rw [← hla]
  have e8:gb=(Sp.zW L b2).1.fake:=by rw [← hlb]
  generalize hb3:(bad2 || (Sp.zW L a2).2 || (Sp.zW L b2).2)=bad3 at *
  have hsp:Sp.vZ L who n=(⟨4,who,ca,xa,ga || gb⟩,(Sp.vB L n 4).2 || (Sp.zW L a2).2 || (Sp.zW L b2).2 || fa != 0 || fb != 1 || ca != cb || !decide (xa=xb)):=by
   simp only [Sp.vZ,← ea,← eb,← e1,← e2,← e3,← e4,← e5,← e6,← e7,← e8]
  have hbb:(bad || (Sp.vZ L who n).2)=(bad3 || fa != 0 || fb != 1 || ca != cb || !decide (xa=xb)):=by
   rw [hsp,← hb3,← hbad];simp only [Bool.or_assoc]
  rw [hbb] at hK
  rw [hsp] at hK
  have J7:∀(v:Bool) (w5:World),v=(bad3 || fa != 0 || fb != 1 || ca != cb || !decide (xa=xb))→Box w5 r [.pointer p,.bool v] 141→Ext (·=r.block) w24 w5→m_B_j7 who p1 pA pB w5 K:=by
   intro v w5 hv B5 E5;have hR5:ReaderAt w5 r p v L F:=⟨B5,hR24.pool.ext E5 (fun b hb e=>hR.out (e▸hb)),hR.ok,hR.out⟩;have dA5:=dA.ext E5 (by omega);have dB5:=bB.ext E5 (by omega);have h15:=hB24.ext E5 hne;unfold m_B_j7;refine ⟨ca,dA5.cell rfl,xa,dA5.cell rfl,ga,dA5.cell rfl,fun hg=>?_,fun hg=>⟨gb,dB5.cell rfl,?_⟩⟩
   ·refine bx 5 h15 rfl rfl (fun w6 b6 E6=>⟨4,who,ca,xa,true,b6.row,?_⟩);have:=hK w5 w6 (by rw [← hv];exact hR5) (E24'.trans E5) (by rw [hg];exact b6) E6;rw [hg] at this;exact this
   ·refine bx 5 h15 rfl rfl (fun w6 b6 E6=>⟨4,who,ca,xa,gb,b6.row,?_⟩);have:=hK w5 w6 (by rw [← hv];exact hR5) (E24'.trans E5) (by rw [hg];exact b6) E6;rw [hg] at this;exact this
  have setr:∀v:Bool,Box (w24.setCell (r.add 1) (.bool v)) r [.pointer p,.bool v] 141∧Ext (·=r.block) w24 (w24.setCell (r.add 1) (.bool v)):=fun v =>
   ⟨hR24.box.set 1 _,by have:=Ext.setCell (w:=w24) (r.add 1) (.bool v);rw [zP] at this;exact this⟩
  have J10:∀x,x=(bad3 || fa != 0 || fb != 1 || ca != cb)→m_B_j10 (some r) who p1 pA pB x w24 K:=by
   intro x hx;unfold m_B_j10;refine ⟨fun h=>⟨r,rfl,hR24.box.canW (by simp),?_⟩,fun h=>⟨xa,dA.cell rfl,xb,bB.cell rfl,r,rfl,hR24.box.canW (by simp),?_⟩⟩
   ·intro w16 hw;exact J7 true w16 (by rw [← hx,h];rfl) (by rw [hw];exact (setr _).1) (by rw [hw];exact (setr _).2)
   ·intro w16 hw;exact J7 (!decide (xa=xb)) w16 (by rw [← hx,h];rfl) (by rw [hw];exact (setr _).1) (by rw [hw];exact (setr _).2)
  have J9:∀x,x=(bad3 || fa != 0 || fb != 1)→m_B_j9 (some r) who p1 pA pB x w24 K:=by
   intro x hx;unfold m_B_j9;exact ⟨fun h=>J10 _ (by rw [← hx,h];rfl),fun h=>⟨ca,dA.cell rfl,cb,bB.cell rfl,J10 _ (by rw [← hx,h];rfl)⟩⟩
  have J8:∀x,x=(bad3 || fa != 0)→m_B_j8 (some r) who p1 pA pB x w24 K:=by
   intro x hx;unfold m_B_j8;exact ⟨fun h=>J9 _ (by rw [← hx,h];rfl),fun h=>⟨fb,bB.cell rfl,J9 _ (by rw [← hx,h];rfl)⟩⟩
  unfold m_B_j6
  exact ⟨r,rfl,bad3,hR24.box.cell rfl,fun h=>J8 _ (by rw [h];rfl),fun h=>⟨fa,dA.cell rfl,J8 _ (by rw [h];rfl)⟩⟩
 have l18:=hR18.box.lt
 have Er18:Ext (·=r.block) w18 w18:=Ext.refl w18
 refine ⟨a2,fun w' h=>h.cell rfl,b2,fun w' h=>h.cell rfl,?_⟩
 ·skip
  refine ⟨?_,?_,?_⟩
  ·skip
   refine (vE r p a2 _ w18 hR18).mono ?_
   rintro _ v1 ⟨k1,f1,c1,x1,g1,rfl,hl1,R1,e1⟩
   have E1:=Er18.trans e1
   have s1:=E1.size
   refine ⟨_,_,_,_,_,rfl,cN.ext E1 (by omega),?_⟩
   refine ⟨?_,?_,?_⟩
   ·skip
    refine (vE r p b2 _ v1 R1).mono ?_
    rintro _ v2 ⟨k2,f2,c2,x2,g2,rfl,hl2,R2,e2⟩
    have E2:=E1.trans e2
    have s2:=E2.size
    refine ⟨_,_,_,_,_,rfl,?_⟩
    refine ⟨?_,?_⟩
    ·skip
     intro q3 v3 h3
     have e3:Pure v2 v3:=Ext.new h3
     have o3:=h3.at_size
     have R3:=R2.pure e3
     have E3:=E2.thenPure e3
     have s3:=E3.size
     have t3:=(E2).size
     have bA3:=Box.of_new h3
     refine ⟨cN.ext E3 (by omega),?_⟩
     intro q4 v4 h4
     have e4:Pure v3 v4:=Ext.new h4
     have o4:=h4.at_size
     have R4:=R3.pure e4
     have E4:=E3.thenPure e4
     have s4:=E4.size
     have t4:=(E3).size
     have bA4:=bA3.pure e4
     have lA4:=bA3.lt
     have bB4:=Box.of_new h4
     refine ⟨cN.ext E4 (by omega),?_⟩
     exact leaf q3 q4 v4 _ _ _ _ _ _ _ _ _ _ hl1 hl2 R4 E4 bA4 bB4 (by omega) (by omega) (by omega)
    ·skip
     intro q5 v5 h5
     have e5:Pure v2 v5:=Ext.new h5
     have o5:=h5.at_size
     have R5:=R2.pure e5
     have E5:=E2.thenPure e5
     have s5:=E5.size
     have t5:=(E2).size
     have bB5:=Box.of_new h5
     refine ⟨cN.ext E5 (by omega),?_⟩
     intro q6 v6 h6
     have e6:Pure v5 v6:=Ext.new h6
     have o6:=h6.at_size
     have R6:=R5.pure e6
     have E6:=E5.thenPure e6
     have s6:=E6.size
     have t6:=(E5).size
     have bB6:=bB5.pure e6
     have lB6:=bB5.lt
     have bA6:=Box.of_new h6
     refine ⟨cN.ext E6 (by omega),?_⟩
     exact leaf q6 q5 v6 _ _ _ _ _ _ _ _ _ _ hl1 hl2 R6 E6 bA6 bB6 (by omega) (by omega) (by omega)
   ·skip
    intro q7 v7 h7
    have e7:Pure v1 v7:=Ext.new h7
    have o7:=h7.at_size
    have R7:=R1.pure e7
    have E7:=E1.thenPure e7
    have s7:=E7.size
    have t7:=(E1).size
    have bA7:=Box.of_new h7
    refine ⟨cN.ext E7 (by omega),?_⟩
    refine ⟨?_,?_⟩
    ·skip
     refine (vE r p b2 _ v7 R7).mono ?_
     rintro _ v8 ⟨k8,f8,c8,x8,g8,rfl,hl2,R8,e8⟩
     have E8:=E7.trans e8
     have bA8:=bA7.ext e8 (by omega)
     have s8:=E8.size
     refine ⟨_,_,_,_,_,rfl,?_⟩
     intro q9 v9 h9
     have e9:Pure v8 v9:=Ext.new h9
     have o9:=h9.at_size
     have R9:=R8.pure e9
     have E9:=E8.thenPure e9
     have s9:=E9.size
     have t9:=(E8).size
     have bA9:=bA8.pure e9
     have lA9:=bA8.lt
     have bB9:=Box.of_new h9
     refine ⟨cN.ext E9 (by omega),?_⟩
     exact leaf q7 q9 v9 _ _ _ _ _ _ _ _ _ _ hl1 hl2 R9 E9 bA9 bB9 (by omega) (by omega) (by omega)
    ·skip
     intro q10 v10 h10
     have e10:Pure v7 v10:=Ext.new h10
     have o10:=h10.at_size
     have R10:=R7.pure e10
     have E10:=E7.thenPure e10
     have s10:=E10.size
     have t10:=(E7).size
     have bA10:=bA7.pure e10
     have lA10:=bA7.lt
     have bB10:=Box.of_new h10
     refine ⟨cN.ext E10 (by omega),?_⟩
     refine (vE r p b2 _ v10 R10).mono ?_
     rintro _ v11 ⟨k11,f11,c11,x11,g11,rfl,hl2,R11,e11⟩
     have E11:=E10.trans e11
     have bA11:=bA10.ext e11 (by omega)
     have bB11:=bB10.ext e11 (by omega)
     have s11:=E11.size
     refine ⟨_,_,_,_,_,rfl,?_⟩
     exact leaf q7 q10 v11 _ _ _ _ _ _ _ _ _ _ hl1 hl2 R11 E11 bA11 bB11 (by omega) (by omega) (by omega)
   ·skip
    intro q12 v12 h12
    have e12:Pure v1 v12:=Ext.new h12
    have o12:=h12.at_size
    have R12:=R1.pure e12
    have E12:=E1.thenPure e12
    have s12:=E12.size
    have t12:=(E1).size
    have bB12:=Box.of_new h12
    refine ⟨cN.ext E12 (by omega),?_⟩
    refine ⟨?_,?_⟩
    ·skip
     refine (vE r p b2 _ v12 R12).mono ?_
     rintro _ v13 ⟨k13,f13,c13,x13,g13,rfl,hl2,R13,e13⟩
     have E13:=E12.trans e13
     have bB13:=bB12.ext e13 (by omega)
     have s13:=E13.size
     refine ⟨_,_,_,_,_,rfl,?_⟩
     intro q14 v14 h14
     have e14:Pure v13 v14:=Ext.new h14
     have o14:=h14.at_size
     have R14:=R13.pure e14
     have E14:=E13.thenPure e14
     have s14:=E14.size
     have t14:=(E13).size
     have bB14:=bB13.pure e14
     have lB14:=bB13.lt
     have bA14:=Box.of_new h14
     refine ⟨cN.ext E14 (by omega),?_⟩
     exact leaf q14 q12 v14 _ _ _ _ _ _ _ _ _ _ hl1 hl2 R14 E14 bA14 bB14 (by omega) (by omega) (by omega)
    ·skip
     intro q15 v15 h15
     have e15:Pure v12 v15:=Ext.new h15
     have o15:=h15.at_size
     have R15:=R12.pure e15
     have E15:=E12.thenPure e15
     have s15:=E15.size
     have t15:=(E12).size
     have bB15:=bB12.pure e15
     have lB15:=bB12.lt
     have bA15:=Box.of_new h15
     refine ⟨cN.ext E15 (by omega),?_⟩
     refine (vE r p b2 _ v15 R15).mono ?_
     rintro _ v16 ⟨k16,f16,c16,x16,g16,rfl,hl2,R16,e16⟩
     have E16:=E15.trans e16
     have bA16:=bA15.ext e16 (by omega)
     have bB16:=bB15.ext e16 (by omega)
     have s16:=E16.size
     refine ⟨_,_,_,_,_,rfl,?_⟩
     exact leaf q15 q12 v16 _ _ _ _ _ _ _ _ _ _ hl1 hl2 R16 E16 bA16 bB16 (by omega) (by omega) (by omega)
  ·skip
   intro q17 v17 h17
   have e17:Pure w18 v17:=Ext.new h17
   have o17:=h17.at_size
   have R17:=hR18.pure e17
   have E17:=Er18.thenPure e17
   have s17:=E17.size
   have t17:=(Er18).size
   have bA17:=Box.of_new h17
   refine ⟨cN.ext E17 (by omega),?_⟩
   refine ⟨?_,?_⟩
   ·skip
    refine (vE r p a2 _ v17 R17).mono ?_
    rintro _ v18 ⟨k18,f18,c18,x18,g18,rfl,hl1,R18,e18⟩
    have E18:=E17.trans e18
    have bA18:=bA17.ext e18 (by omega)
    have s18:=E18.size
    refine ⟨_,_,_,_,_,rfl,cN.ext E18 (by omega),?_⟩
    refine ⟨?_,?_⟩
    ·skip
     refine (vE r p b2 _ v18 R18).mono ?_
     rintro _ v19 ⟨k19,f19,c19,x19,g19,rfl,hl2,R19,e19⟩
     have E19:=E18.trans e19
     have bA19:=bA18.ext e19 (by omega)
     have s19:=E19.size
     refine ⟨_,_,_,_,_,rfl,?_⟩
     intro q20 v20 h20
     have e20:Pure v19 v20:=Ext.new h20
     have o20:=h20.at_size
     have R20:=R19.pure e20
     have E20:=E19.thenPure e20
     have s20:=E20.size
     have t20:=(E19).size
     have bA20:=bA19.pure e20
     have lA20:=bA19.lt
     have bB20:=Box.of_new h20
     refine ⟨cN.ext E20 (by omega),?_⟩
     exact leaf q17 q20 v20 _ _ _ _ _ _ _ _ _ _ hl1 hl2 R20 E20 bA20 bB20 (by omega) (by omega) (by omega)
    ·skip
     intro q21 v21 h21
     have e21:Pure v18 v21:=Ext.new h21
     have o21:=h21.at_size
     have R21:=R18.pure e21
     have E21:=E18.thenPure e21
     have s21:=E21.size
     have t21:=(E18).size
     have bA21:=bA18.pure e21
     have lA21:=bA18.lt
     have bB21:=Box.of_new h21
     refine ⟨cN.ext E21 (by omega),?_⟩
     refine (vE r p b2 _ v21 R21).mono ?_
     rintro _ v22 ⟨k22,f22,c22,x22,g22,rfl,hl2,R22,e22⟩
     have E22:=E21.trans e22
     have bA22:=bA21.ext e22 (by omega)
     have bB22:=bB21.ext e22 (by omega)
     have s22:=E22.size
     refine ⟨_,_,_,_,_,rfl,?_⟩
     exact leaf q17 q21 v22 _ _ _ _ _ _ _ _ _ _ hl1 hl2 R22 E22 bA22 bB22 (by omega) (by omega) (by omega)
   ·skip
    intro q23 v23 h23
    have e23:Pure v17 v23:=Ext.new h23
    have o23:=h23.at_size
    have R23:=R17.pure e23
    have E23:=E17.thenPure e23
    have s23:=E23.size
    have t23:=(E17).size
    have bA23:=bA17.pure e23
    have lA23:=bA17.lt
    have bB23:=Box.of_new h23
    refine ⟨cN.ext E23 (by omega),?_⟩
    refine (vE r p a2 _ v23 R23).mono ?_
    rintro _ v24 ⟨k24,f24,c24,x24,g24,rfl,hl1,R24,e24⟩
    have E24:=E23.trans e24
    have bA24:=bA23.ext e24 (by omega)
    have bB24:=bB23.ext e24 (by omega)
    have s24:=E24.size
    refine ⟨_,_,_,_,_,rfl,cN.ext E24 (by omega),?_⟩
    refine (vE r p b2 _ v24 R24).mono ?_
    rintro _ v25 ⟨k25,f25,c25,x25,g25,rfl,hl2,R25,e25⟩
    have E25:=E24.trans e25
    have bA25:=bA24.ext e25 (by omega)
    have bB25:=bB24.ext e25 (by omega)
    have s25:=E25.size
    refine ⟨_,_,_,_,_,rfl,?_⟩
    exact leaf q17 q23 v25 _ _ _ _ _ _ _ _ _ _ hl1 hl2 R25 E25 bA25 bB25 (by omega) (by omega) (by omega)
  ·skip
   intro q26 v26 h26
   have e26:Pure w18 v26:=Ext.new h26
   have o26:=h26.at_size
   have R26:=hR18.pure e26
   have E26:=Er18.thenPure e26
   have s26:=E26.size
   have t26:=(Er18).size
   have bB26:=Box.of_new h26
   refine ⟨cN.ext E26 (by omega),?_⟩
   refine ⟨?_,?_⟩
   ·skip
    refine (vE r p a2 _ v26 R26).mono ?_
    rintro _ v27 ⟨k27,f27,c27,x27,g27,rfl,hl1,R27,e27⟩
    have E27:=E26.trans e27
    have bB27:=bB26.ext e27 (by omega)
    have s27:=E27.size
    refine ⟨_,_,_,_,_,rfl,cN.ext E27 (by omega),?_⟩
    refine ⟨?_,?_⟩
    ·skip
     refine (vE r p b2 _ v27 R27).mono ?_
     rintro _ v28 ⟨k28,f28,c28,x28,g28,rfl,hl2,R28,e28⟩
     have E28:=E27.trans e28
     have bB28:=bB27.ext e28 (by omega)
     have s28:=E28.size
     refine ⟨_,_,_,_,_,rfl,?_⟩
     intro q29 v29 h29
     have e29:Pure v28 v29:=Ext.new h29
     have o29:=h29.at_size
     have R29:=R28.pure e29
     have E29:=E28.thenPure e29
     have s29:=E29.size
     have t29:=(E28).size
     have bB29:=bB28.pure e29
     have lB29:=bB28.lt
     have bA29:=Box.of_new h29
     refine ⟨cN.ext E29 (by omega),?_⟩
     exact leaf q29 q26 v29 _ _ _ _ _ _ _ _ _ _ hl1 hl2 R29 E29 bA29 bB29 (by omega) (by omega) (by omega)
    ·skip
     intro q30 v30 h30
     have e30:Pure v27 v30:=Ext.new h30
     have o30:=h30.at_size
     have R30:=R27.pure e30
     have E30:=E27.thenPure e30
     have s30:=E30.size
     have t30:=(E27).size
     have bB30:=bB27.pure e30
     have lB30:=bB27.lt
     have bA30:=Box.of_new h30
     refine ⟨cN.ext E30 (by omega),?_⟩
     refine (vE r p b2 _ v30 R30).mono ?_
     rintro _ v31 ⟨k31,f31,c31,x31,g31,rfl,hl2,R31,e31⟩
     have E31:=E30.trans e31
     have bA31:=bA30.ext e31 (by omega)
     have bB31:=bB30.ext e31 (by omega)
     have s31:=E31.size
     refine ⟨_,_,_,_,_,rfl,?_⟩
     exact leaf q30 q26 v31 _ _ _ _ _ _ _ _ _ _ hl1 hl2 R31 E31 bA31 bB31 (by omega) (by omega) (by omega)
   ·skip
    intro q32 v32 h32
    have e32:Pure v26 v32:=Ext.new h32
    have o32:=h32.at_size
    have R32:=R26.pure e32
    have E32:=E26.thenPure e32
    have s32:=E32.size
    have t32:=(E26).size
    have bB32:=bB26.pure e32
    have lB32:=bB26.lt
    have bA32:=Box.of_new h32
    refine ⟨cN.ext E32 (by omega),?_⟩
    refine (vE r p a2 _ v32 R32).mono ?_
    rintro _ v33 ⟨k33,f33,c33,x33,g33,rfl,hl1,R33,e33⟩
    have E33:=E32.trans e33
    have bA33:=bA32.ext e33 (by omega)
    have bB33:=bB32.ext e33 (by omega)
    have s33:=E33.size
    refine ⟨_,_,_,_,_,rfl,cN.ext E33 (by omega),?_⟩
    refine (vE r p b2 _ v33 R33).mono ?_
    rintro _ v34 ⟨k34,f34,c34,x34,g34,rfl,hl2,R34,e34⟩
    have E34:=E33.trans e34
    have bA34:=bA33.ext e34 (by omega)
    have bB34:=bB33.ext e34 (by omega)
    have s34:=E34.size
    refine ⟨_,_,_,_,_,rfl,?_⟩
    exact leaf q32 q26 v34 _ _ _ _ _ _ _ _ _ _ hl1 hl2 R34 E34 bA34 bB34 (by omega) (by omega) (by omega)
end Go.Proofs
end
section
open Go Go.SE
namespace Go.Sp
def jAW (L:Pool) (t:Int):Letter×Bool :=
 let n:=nodeOf L t
 if n.kind=7 then qI L n.frm n.a else if n.kind=8∨n.kind=9 then zW L t
 else if ((zZ L t).2 || !decide ((zZ L t).1.1=jHK))=true then (yZ,true)
 else (⟨7,0,(vB L (zZ L t).1.2 2).1.num,⟨#[]⟩,false⟩,(vB L (zZ L t).1.2 2).2)
def jNS (L:Pool) (t:Int):Letter×Bool:=if (jAW L t).2=true then (yZ,false) else ((jAW L t).1,true)
end Go.Sp
namespace Go.Proofs
open Tryz
attribute [local irreducible] Calls
theorem jKY (r:Addr) (p:Option Addr) (who body:Int) (bad:Bool) (w:World) {L:Sp.Pool} {F:NP} (hR:ReaderAt w r p bad L F) :
  Calls prog 85 #[.pointer (some r),.int .i64 who,.int .i64 body] w
   (fun e w'=>∃k:Int,∃f:Int,∃c:Int,∃x:ByteArray,∃fk:Bool,e=.returned (.agg #[.int .i64 k,.int .i64 f,.int .u64 c,.string x,.bool fk])∧((⟨k,f,c,x,fk⟩:Sp.Letter)=(Sp.qI L who body).1∧ReaderAt w' r p (bad || (Sp.qI L who body).2) L F∧Ext (·=r.block) w w')):=by
 suffices key:∀K:Int→Int→Int→ByteArray→Bool→WP,(∀k f c x fk w',((⟨k,f,c,x,fk⟩:Sp.Letter)=(Sp.qI L who body).1∧ReaderAt w' r p (bad || (Sp.qI L who body).2) L F∧Ext (·=r.block) w w')→K k f c x fk w')→m_B (some r) who body w K from
  w_B _ _ _ w _ (key _ (fun _ _ _ _ _ _ h=>h))
 intro K hK
 unfold m_B
 intro p1 w1 h1
 have E1:Pure w w1:=Ext.new h1
 have o1:=New.own (Ext.refl w) h1
 have lr:=hR.box.lt
 have b1:Box w1 p1 lz 56:=Box.of_new h1
 have ne:p1.block≠r.block:=by omega
 refine (jBC r p body bad w1 (hR.pure E1)).mono ?_
 rintro _ w2 ⟨x,y,rfl,hg,hR2,E12⟩
 refine ⟨_,_,rfl,?_⟩
 have b2:=b1.ext E12 ne
 have E2:Ext (·=r.block) w w2:=E1.pure.trans E12
 have ex:x=(Sp.zZ L body).1.1:=congrArg Prod.fst hg
 have ey:y=(Sp.zZ L body).1.2:=congrArg Prod.snd hg
 have hsp:Sp.qI L who body=if x=Sp.uR∧who=0 then (⟨3,0,(Sp.vB L y 2).1.num,⟨#[]⟩,false⟩,(Sp.zZ L body).2 || (Sp.vB L y 2).2)
  else if x=Sp.qW∧who=2 then (⟨5,0,(Sp.vB L y 2).1.num,⟨#[]⟩,false⟩,(Sp.zZ L body).2 || (Sp.vB L y 2).2)
  else if x=Sp.yC∧who=2 then (⟨6,0,(Sp.vT L y).1.1,(Sp.vT L y).1.2,false⟩,(Sp.zZ L body).2 || (Sp.vT L y).2)
  else if x=Sp.jAU∧who≤1 then (⟨2,who,(Sp.vT L body).1.1,(Sp.vT L body).1.2,false⟩,(Sp.zZ L body).2 || (Sp.vT L body).2)
  else if x=Sp.yB∧who≤1 then ((Sp.vZ L who y).1,(Sp.zZ L body).2 || (Sp.vZ L who y).2)
  else (Sp.yZ,true):=by
  simp only [Sp.qI,← ex,← ey]
 clear ex ey hg
 generalize hbg:(Sp.zZ L body).2=g2 at *
 have fin : ∀ (k f c : Int) (z : ByteArray) (fk v : Bool) (w5 : World), Sp.qI L who body = (⟨k, f, c, z, fk⟩, v) → ReaderAt w5 r p (bad || v) L F → Ext (· = r.block) w2 w5 →
   (∀j,j<5→zQ w5 (p1.add j))∧∀w6:World,w6=storeRow w5 p1 [(.int .i64 k),(.int .i64 f),(.int .u64 c),(.string z),(.bool fk)] →
   ∃qKind1:Int,∃qFrom1:Int,∃qC1:Int,∃qText1:ByteArray,∃qFake1:Bool,Row w6 p1 [(.int .i64 qKind1),(.int .i64 qFrom1),(.int .u64 qC1),(.string qText1),(.bool qFake1)] ∧
   K qKind1 qFrom1 qC1 qText1 qFake1 w6:=by
  intro k f c z fk v w5 hs hR5 E5
  refine bx 5 (b2.ext E5 ne) rfl rfl (fun w6 b6 E6=>⟨k,f,c,z,fk,b6.row,hK _ _ _ _ _ _ ⟨by rw [hs],?_,?_⟩⟩)
  ·rw [hs];exact ⟨hR5.box.ext E6 ne.symm,hR5.pool.ext E6 (fun b hb e=>by have:=hR.pool.lt hb;omega),hR.ok,hR.out⟩
  ·exact (E2.trans E5).trans' E6 (fun i hi h=>by omega)
 have nodeCase : ∀ (k : Int), Sp.qI L who body = (⟨k, 0, (Sp.vB L y 2).1.num, ⟨#[]⟩, false⟩, g2 || (Sp.vB L y 2).2) →
   Calls prog 88 #[.pointer (some r),.int .i64 y,.int .i64 2] w2 (fun e w3=>∃rKind1:Int,∃rFrom1:Int,∃rTo1:Int,∃rNum1:Int,∃rText1:ByteArray,∃rA1:Int,∃rB1:Int,e=.returned (.agg #[(.int .i64 rKind1),(.int .i64 rFrom1),(.int .i64 rTo1),(.int .u64 rNum1),(.string rText1),(.int .i64 rA1),(.int .i64 rB1)]) ∧
    (∀j,j<5→zQ w3 (p1.add j))∧∀w4:World,w4=storeRow w3 p1 [(.int .i64 k),(.int .i64 0),(.int .u64 rNum1),(.string (⟨#[]⟩:ByteArray)),(.bool false)] →
    ∃qKind1:Int,∃qFrom1:Int,∃qC1:Int,∃qText1:ByteArray,∃qFake1:Bool,Row w4 p1 [(.int .i64 qKind1),(.int .i64 qFrom1),(.int .u64 qC1),(.string qText1),(.bool qFake1)] ∧
    K qKind1 qFrom1 qC1 qText1 qFake1 w4):=by
  intro k hs
  refine (uE r p y 2 _ w2 hR2).mono ?_
  rintro _ w3 ⟨k3,f3,t3,u3,x3,a3,b3,rfl,hn3,hR3,E3⟩
  have e3:u3=(Sp.vB L y 2).1.num:=by rw [← hn3]
  refine ⟨_,_,_,_,_,_,_,rfl,?_⟩
  rw [← e3] at hs
  exact fin _ _ _ _ _ _ w3 hs (by rw [← Bool.or_assoc];exact hR3) E3
 have dealCase : ∀ (k f t : Int), Sp.qI L who body = (⟨k, f, (Sp.vT L t).1.1, (Sp.vT L t).1.2, false⟩, g2 || (Sp.vT L t).2) →
   Calls prog 91 #[.pointer (some r),.int .i64 t] w2 (fun e w7=>∃r4:Int,∃r5:ByteArray,e=.returned (.tuple #[(.int .u64 r4),(.string r5)]) ∧
    (∀j,j<5→zQ w7 (p1.add j))∧∀w8:World,w8=storeRow w7 p1 [(.int .i64 k),(.int .i64 f),(.int .u64 r4),(.string r5),(.bool false)] →
    ∃qKind1:Int,∃qFrom1:Int,∃qC1:Int,∃qText1:ByteArray,∃qFake1:Bool,Row w8 p1 [(.int .i64 qKind1),(.int .i64 qFrom1),(.int .u64 qC1),(.string qText1),(.bool qFake1)] ∧
    K qKind1 qFrom1 qC1 qText1 qFake1 w8):=by
  intro k f t hs
  refine (jFB r p t _ w2 hR2).mono ?_
  rintro _ w3 ⟨c,z,rfl,hd,hR3,E3⟩
  have e1:c=(Sp.vT L t).1.1:=congrArg Prod.fst hd
  have e2:z=(Sp.vT L t).1.2:=congrArg Prod.snd hd
  refine ⟨_,_,rfl,?_⟩
  rw [← e1,← e2] at hs
  exact fin _ _ _ _ _ _ w3 hs (by rw [← Bool.or_assoc];exact hR3) E3
 have J5:∀b,b=decide (x=Sp.yB∧who≤1)→¬ (x=Sp.uR∧who=0)→¬ (x=Sp.qW∧who=2)→¬ (x=Sp.yC∧who=2)→¬ (x=Sp.jAU∧who≤1)→m_B_j5 (some r) who p1 y b w2 K:=by
  intro b hb h1 h2 h3 h4;rw [if_neg h1,if_neg h2,if_neg h3,if_neg h4] at hsp;cases hbv:b with
  | true =>
   have hc:x=Sp.yB∧who≤1:=of_decide_eq_true (by rw [← hb,hbv])
   rw [if_pos hc] at hsp
   refine jJF r p p1 who y _ w2 hR2 b2 ne K (fun w6 w' hR6 E6 b' E'=>hK _ _ _ _ _ _ ⟨by rw [hsp];rfl,?_,?_⟩)
   ·rw [hsp];simp only [← Bool.or_assoc]
    exact ⟨hR6.box.ext E' ne.symm,hR6.pool.ext E' (fun b hb e=>by have:=hR.pool.lt hb;omega),hR.ok,hR.out⟩
   ·exact (E2.trans E6).trans' E' (fun i hi h=>by omega)
  | false =>
   have hc:¬ (x=Sp.yB∧who≤1):=of_decide_eq_false (by rw [← hb,hbv])
   rw [if_neg hc] at hsp
   unfold m_B_j5
   refine Br.f rfl ⟨r,rfl,hR2.box.canW (by simp),?_⟩
   intro w77 hw
   have d5:Box w77 r [.pointer p,.bool true] 141:=by rw [hw];exact hR2.box.set 1 _
   have E5:Ext (·=r.block) w2 w77:=by rw [hw];have:=Ext.setCell (w:=w2) (r.add 1) (.bool true);rw [zP] at this;exact this
   exact fin 0 0 0 ⟨#[]⟩ false true w77 hsp (by rw [Bool.or_true];exact ⟨d5,hR2.pool.ext E5 (fun b hb e=>hR.out (e▸hb)),hR.ok,hR.out⟩) E5
 have J4:∀b,b=decide (x=Sp.jAU∧who≤1)→¬ (x=Sp.uR∧who=0)→¬ (x=Sp.qW∧who=2)→¬ (x=Sp.yC∧who=2)→m_B_j4 (some r) who body p1 x y b w2 K:=by
  intro b hb h1 h2 h3;unfold m_B_j4;refine ⟨fun h=>dealCase 2 who body ?_,fun h=>?_⟩
  ·rw [hsp,if_neg h1,if_neg h2,if_neg h3,if_pos (of_decide_eq_true (by rw [← hb,h]))]
  ·have h4:¬ (x=Sp.jAU∧who≤1):=of_decide_eq_false (by rw [← hb,h]);exact ⟨fun hw=>J5 _ (by have:x=Sp.yB:=of_decide_eq_true hw;simp [this]) h1 h2 h3 h4,fun hw=>J5 _ (by have:¬ x=Sp.yB:=of_decide_eq_false hw;simp [this]) h1 h2 h3 h4⟩
 have J3:∀b,b=decide (x=Sp.yC∧who=2)→¬ (x=Sp.uR∧who=0)→¬ (x=Sp.qW∧who=2)→m_B_j3 (some r) who body p1 x y b w2 K:=by
  intro b hb h1 h2;unfold m_B_j3;refine ⟨fun h=>dealCase 6 0 y ?_,fun h=>?_⟩
  ·rw [hsp,if_neg h1,if_neg h2,if_pos (of_decide_eq_true (by rw [← hb,h]))]
  ·have h3:¬ (x=Sp.yC∧who=2):=of_decide_eq_false (by rw [← hb,h]);exact ⟨fun hw=>J4 _ (by have:x=Sp.jAU:=of_decide_eq_true hw;simp [this]) h1 h2 h3,fun hw=>J4 _ (by have:¬ x=Sp.jAU:=of_decide_eq_false hw;simp [this]) h1 h2 h3⟩
 have J2:∀b,b=decide (x=Sp.qW∧who=2)→¬ (x=Sp.uR∧who=0)→m_B_j2 (some r) who body p1 x y b w2 K:=by
  intro b hb h1;unfold m_B_j2;refine ⟨fun h=>nodeCase 5 ?_,fun h=>?_⟩
  ·rw [hsp,if_neg h1,if_pos (of_decide_eq_true (by rw [← hb,h]))]
  ·have h2:¬ (x=Sp.qW∧who=2):=of_decide_eq_false (by rw [← hb,h]);exact ⟨fun hw=>J3 _ (by have:x=Sp.yC:=of_decide_eq_true hw;simp [this];rfl) h1 h2,fun hw=>J3 _ (by have:¬ x=Sp.yC:=of_decide_eq_false hw;simp [this]) h1 h2⟩
 have J1:∀b,b=decide (x=Sp.uR∧who=0)→m_B_j1 (some r) who body p1 x y b w2 K:=by
  intro b hb;unfold m_B_j1;refine ⟨fun h=>nodeCase 3 ?_,fun h=>?_⟩
  ·rw [hsp,if_pos (of_decide_eq_true (by rw [← hb,h]))]
  ·have h1:¬ (x=Sp.uR∧who=0):=of_decide_eq_false (by rw [← hb,h]);exact ⟨fun hw=>J2 _ (by have:x=Sp.qW:=of_decide_eq_true hw;simp [this];rfl) h1,fun hw=>J2 _ (by have:¬ x=Sp.qW:=of_decide_eq_false hw;simp [this]) h1⟩
 exact ⟨fun hw=>J1 _ (by have:x=Sp.uR:=of_decide_eq_true hw;simp [this];rfl),fun hw=>J1 _ (by have:¬ x=Sp.uR:=of_decide_eq_false hw;simp [this])⟩
end Go.Proofs
end
section
open Go Go.SE
namespace Go.Proofs
open Tryz
attribute [local irreducible] Calls
theorem jAS (p:Option Addr) (t:Int) (w:World) {L:Sp.Pool} {F:NP} (hP:jCG w p L F) (hok:Sp.Ok L) :
  Calls prog 40 #[.pointer p,.int .i64 t] w
   (fun e w'=>∃k:Int,∃f:Int,∃c:Int,∃x:ByteArray,∃fk:Bool,∃ok:Bool,e=.returned (.tuple #[.agg #[.int .i64 k,.int .i64 f,.int .u64 c,.string x,.bool fk],.bool ok])∧(((⟨k,f,c,x,fk⟩:Sp.Letter),ok)=Sp.jNS L t∧Pure w w')):=by
 suffices key:∀K:Int→Int→Int→ByteArray→Bool→Bool→WP,(∀k f c x fk ok w',(((⟨k,f,c,x,fk⟩:Sp.Letter),ok)=Sp.jNS L t∧Pure w w')→K k f c x fk ok w')→m_N p t w K from
  w_N _ _ w _ (key _ (fun _ _ _ _ _ _ _ h=>h))
 intro K hK
 unfold m_N
 intro p2 w1 h1 p3 w2 h2
 have E1:Pure w w1:=Ext.new h1
 have E2:Pure w w2:=E1.trans (Ext.new h2)
 have o2:=New.own (Ext.refl w) h1
 have o3:=New.own E1 h2
 have n23:p2.block≠p3.block:=New.ne h2 (Box.of_new h1).blk
 have b2:Box w2 p2 lz 56:=(Box.of_new h1).pure (Ext.new h2)
 have hout:¬ F p3.block:=fun h=>by have:=hP.lt h;omega
 have hR2:ReaderAt w2 p3 p false L F:=⟨Box.of_new h2,hP.pure E2,hok,hout⟩
 refine (jLA p t w2 hR2.pool hok).mono ?_
 rintro _ w3 ⟨k,f,t',u,x,a,b,ok,rfl,⟨hn,_⟩,E23⟩
 refine ⟨_,_,_,_,_,_,_,_,rfl,?_⟩
 intro p4 w4 h4
 have E3:Pure w2 w3:=E23
 have o4:=New.own (Ext.refl w3) h4
 have l3:=(hR2.pure E3).box.lt
 have l2:=(b2.pure E3).lt
 refine bx 7 (Box.of_new h4) rfl rfl (fun w5 b4 E'=>?_)
 have E5:Pure w3 w5:=Ext.own (Ext.new h4) o4 E'
 intro p5 w6 h6
 have E6:Pure w3 w6:=E5.trans (Ext.new h6)
 have o5:=New.own E5 h6
 have n45:p4.block≠p5.block:=New.ne h6 b4.blk
 have c4:=b4.pure (Ext.new h6:Pure w5 w6)
 have c5:Box w6 p5 lz 56:=Box.of_new h6
 have c2:=b2.pure (E3.trans E6)
 have hR6:=hR2.pure (E3.trans E6)
 have E26:Pure w w6:=(E2.trans E3).trans E6
 clear E' h1 h2 h4 h6
 have n35:p3.block≠p5.block:=by omega
 have n25:p2.block≠p5.block:=by omega
 have hq:Sp.jAW L t=if k=7 then Sp.qI L f a else if k=8∨k=9 then Sp.zW L t else if ((Sp.zZ L t).2 || !decide ((Sp.zZ L t).1.1=Sp.jHK))=true then (Sp.yZ,true) else (⟨7,0,(Sp.vB L (Sp.zZ L t).1.2 2).1.num,⟨#[]⟩,false⟩,(Sp.vB L (Sp.zZ L t).1.2 2).2):=by
  simp only [Sp.jAW,← hn]
 have bad1 : ∀ (w8 : World), (Sp.jAW L t).2 = true → Ext (fun b => b = p3.block ∨ b = p5.block) w6 w8 → (∀ j, j < 5 → zQ w8 (p2.add j)) ∧ ∀ w9 : World, w9 = storeRow w8 p2 [(.int .i64 0), (.int .i64 0), (.int .u64 0), (.string (⟨#[]⟩ : ByteArray)), (.bool false)] →
   ∃qKind1:Int,∃qFrom1:Int,∃qC1:Int,∃qText1:ByteArray,∃qFake1:Bool,Row w9 p2 [(.int .i64 qKind1),(.int .i64 qFrom1),(.int .u64 qC1),(.string qText1),(.bool qFake1)]∧K qKind1 qFrom1 qC1 qText1 qFake1 false w9:=by
  intro w8 hb E8
  refine bx 5 (c2.ext E8 (by rintro (h | h) <;> omega)) rfl rfl (fun w9 b9 E9=>⟨0,0,0,⟨#[]⟩,false,b9.row,hK _ _ _ _ _ _ _ ⟨?_,?_⟩⟩)
  ·rw [Sp.jNS,if_pos hb];rfl
  ·exact (E26.trans' E8 (fun i hi h=>by rcases h with h | h <;> omega)).trans' E9 (fun i hi h=>by omega)
 have good1 : ∀ (w8 : World) (l : Sp.Letter), Sp.jAW L t = (l, false) → Ext (fun b => b = p3.block ∨ b = p5.block) w6 w8 → Box w8 p5 [.int .i64 l.kind, .int .i64 l.frm, .int .u64 l.c, .string l.text, .bool l.fake] 56 →
   ∃vKind1:Int,∃vFrom1:Int,∃vC1:Int,∃vText1:ByteArray,∃vFake1:Bool,Row w8 p5 [(.int .i64 vKind1),(.int .i64 vFrom1),(.int .u64 vC1),(.string vText1),(.bool vFake1)] ∧
   (∀j,j<5→zQ w8 (p2.add j))∧∀w9:World,w9=storeRow w8 p2 [(.int .i64 vKind1),(.int .i64 vFrom1),(.int .u64 vC1),(.string vText1),(.bool vFake1)] →
   ∃qKind1:Int,∃qFrom1:Int,∃qC1:Int,∃qText1:ByteArray,∃qFake1:Bool,Row w9 p2 [(.int .i64 qKind1),(.int .i64 qFrom1),(.int .u64 qC1),(.string qText1),(.bool qFake1)]∧K qKind1 qFrom1 qC1 qText1 qFake1 true w9:=by
  intro w8 l hb E8 B8
  refine ⟨_,_,_,_,_,B8.row,?_⟩
  refine bx 5 (c2.ext E8 (by rintro (h | h) <;> omega)) rfl rfl (fun w9 b9 E9=>⟨l.kind,l.frm,l.c,l.text,l.fake,b9.row,hK _ _ _ _ _ _ _ ⟨?_,?_⟩⟩)
  ·rw [Sp.jNS,if_neg (by rw [hb];simp),hb]
  ·exact (E26.trans' E8 (fun i hi h=>by rcases h with h | h <;> omega)).trans' E9 (fun i hi h=>by omega)
 have up:∀{w7 w8:World},Ext (·=p3.block) w6 w7→Ext (·=p5.block) w7 w8→Ext (fun b=>b=p3.block∨b=p5.block) w6 w8:=fun h h'=>(h.mono (fun _ _ h=>.inl h)).trans' h' (fun _ _ h=>.inr h)
 have J1p:∀b,b=true→k≠7→(k=8∨k=9)→m_N_j1 t p2 p3 p5 b w6 K:=by
  rintro _ rfl h7 h89;rw [if_neg h7,if_pos h89] at hq;unfold m_N_j1;refine Br.t rfl ?_;refine (vE p3 p t false w6 hR6).mono ?_;rintro _ w7 ⟨k7,f7,c7,x7,g7,rfl,hl,hR7,E7⟩;refine ⟨_,_,_,_,_,rfl,bx 5 (c5.ext E7 n35.symm) rfl rfl (fun w8 b8 E8=>⟨(Sp.zW L t).2,?_,fun h=>bad1 w8 (by rw [hq];exact h) (up E7 E8),fun h=>good1 w8 ⟨k7,f7,c7,x7,g7⟩ (by rw [hq,hl,← h]) (up E7 E8) b8⟩)⟩;have:=(hR7.box.ext E8 n35).cell (i:=1) rfl;simpa using this
 have J1t:∀b,b=false→k≠7→¬ (k=8∨k=9)→m_N_j1 t p2 p3 p5 b w6 K:=by
  rintro _ rfl h7 h89;rw [if_neg h7,if_neg h89] at hq;unfold m_N_j1;refine Br.f rfl ?_;refine (jBC p3 p t false w6 hR6).mono ?_;rintro _ w7 ⟨x7,y7,rfl,hg,hR7,E7⟩;have ex:x7=(Sp.zZ L t).1.1:=congrArg Prod.fst hg;have ey:y7=(Sp.zZ L t).1.2:=congrArg Prod.snd hg;rw [← ex,← ey] at hq;have setr:∀v:Bool,Box (w7.setCell (p3.add 1) (.bool v)) p3 [.pointer p,.bool v] 141∧Ext (·=p3.block) w7 (w7.setCell (p3.add 1) (.bool v)):=fun v =>
   ⟨hR7.box.set 1 _,by have:=Ext.setCell (w:=w7) (p3.add 1) (.bool v);rw [zP] at this;exact this⟩
  have J3:∀(v:Bool) (w8:World),v=((Sp.zZ L t).2 || !decide (x7=Sp.jHK))→Box w8 p3 [.pointer p,.bool v] 141→Ext (·=p3.block) w7 w8→m_N_j3 p2 p3 p5 y7 w8 K:=by
   intro v w8 hv B8 E8;have E68:=E7.trans E8;have E68':Ext (fun b=>b=p3.block∨b=p5.block) w6 w8:=E68.mono (fun _ _ h=>.inl h);unfold m_N_j3;refine ⟨v,B8.cell rfl,fun h=>⟨v,B8.cell rfl,fun _=>bad1 w8 (by rw [hq,← hv,if_pos h]) E68',fun h'=>(by rw [h] at h';cases h')⟩,fun h=>?_⟩;rw [← hv,if_neg (by rw [h];simp)] at hq;subst h;unfold m_N_j2;refine (uE p3 p y7 2 false w8 ⟨B8,hR7.pool.ext E8 (fun b hb e=>hout (e▸hb)),hok,hout⟩).mono ?_;rintro _ w16 ⟨k3,f3,t3,u3,x3,a3,b3,rfl,hn3,hR3,E16⟩;have e3:u3=(Sp.vB L y7 2).1.num:=by rw [← hn3]
   rw [← e3] at hq;have E616:=E68.trans E16;refine ⟨_,_,_,_,_,_,_,rfl,bx 5 (c5.ext E616 n35.symm) rfl rfl (fun w17 b17 E17=>⟨(Sp.vB L y7 2).2,?_,fun h=>bad1 w17 (by rw [hq];exact h) (up E616 E17),fun h=>good1 w17 ⟨7,0,u3,⟨#[]⟩,false⟩ (by rw [hq,h]) (up E616 E17) b17⟩)⟩;have:=(hR3.box.ext E17 n35).cell (i:=1) rfl;simpa using this
  refine ⟨_,_,rfl,(Sp.zZ L t).2,?_,fun h=>⟨hR7.box.canW (by simp),?_⟩,fun h=>⟨hR7.box.canW (by simp),?_⟩⟩
  ·have:=hR7.box.cell (i:=1) rfl;simpa using this
  ·intro w22 hw;exact J3 true w22 (by rw [h];rfl) (by rw [hw];exact (setr _).1) (by rw [hw];exact (setr _).2)
  ·intro w22 hw;exact J3 (!decide (x7=Sp.jHK)) w22 (by rw [h];rfl) (by rw [hw];exact (setr _).1) (by rw [hw];exact (setr _).2)
 refine ⟨k,c4.cell0,fun h=>⟨f,c4.cell rfl,a,c4.cell rfl,?_⟩,fun h=>⟨fun h8=>?_,fun h8=>?_⟩⟩
 ·have h7:k=7:=by simpa using h
  rw [if_pos h7] at hq
  refine (jKY p3 p f a false w6 hR6).mono ?_
  rintro _ w7 ⟨k7,f7,c7,x7,g7,rfl,hl,hR7,E7⟩
  refine ⟨_,_,_,_,_,rfl,bx 5 (c5.ext E7 n35.symm) rfl rfl (fun w8 b8 E8=>⟨(Sp.qI L f a).2,?_,fun h=>bad1 w8 (by rw [hq];exact h) (up E7 E8),fun h=>good1 w8 ⟨k7,f7,c7,x7,g7⟩ (by rw [hq,hl,← h]) (up E7 E8) b8⟩)⟩
  have:=(hR7.box.ext E8 n35).cell (i:=1) rfl
  simpa using this
 ·have h7:k≠7:=by simpa using h
  have h8:k=8:=by simpa using h8
  exact J1p _ (by simp [h8]) h7 (.inl h8)
 ·have h7:k≠7:=by simpa using h
  have h8:k≠8:=by simpa using h8
  by_cases h9:k=9
  ·exact J1p _ (by simp [h9]) h7 (.inr h9)
  ·exact J1t _ (by simpa using h9) h7 (by rintro (h | h) <;> omega)
theorem uJ (p:Addr) (t:Int) (w:World) {L:Sp.Pool} {F:NP} (hP:zO w p L F) (hok:Sp.Ok L) :
  Calls prog 40 #[.pointer (some p),.int .i64 t] w
   (fun e w'=>∃k:Int,∃f:Int,∃c:Int,∃x:ByteArray,∃fk:Bool,∃ok:Bool,e=.returned (.tuple #[.agg #[.int .i64 k,.int .i64 f,.int .u64 c,.string x,.bool fk],.bool ok])∧(((⟨k,f,c,x,fk⟩:Sp.Letter),ok)=Sp.jNS L t∧Pure w w')):=jAS (some p) t w hP hok
end Go.Proofs
end
section
open Go Go.SE
namespace Go.Proofs
attribute [local irreducible] wpL wpX opE wpE Calls
end Go.Proofs
end
section
open Go Go.SE
namespace Go.Proofs
attribute [local irreducible] Calls
section
variable {w w':World} {k p:Addr} {G:List Int} {S:List Sp.Way} {ks:List Int} {sg sl:Sl} {m:Nat} {F:NP}
end
section
variable {w w':World} {k p:Addr} {G:List Int} {S:List Sp.Way} {F:NP}
end
section
variable {w0 w w':World} {H H':NP} {k p p1:Addr} {L:Sp.Pool} {G:List Int} {S S':List Sp.Way} {F F' F0 FP:NP}
end
end Go.Proofs
end
section
open Go Go.SE
namespace Go.Sp
def jUL (L:Pool) (S:List Way) (t:Int):Int×Int×Bool×Bool :=
 if inP L t=false then (0,0,false,false)
 else if jNG (nodeOf L t).kind=true then (0,0,true,true)
 else if (nodeOf L t).kind=4 then ((nodeOf L t).a,(nodeOf L t).b,false,true)
 else if (nodeOf L t).kind=5 then ((nodeOf L t).a,0,false,true)
 else if (nodeOf L t).kind=6 then (0,0,false,false)
 else ((nodeOf L t).a,(jBY L (jGF (nodeOf L t))).1,false,(jBY L (jGF (nodeOf L t))).2 && decide ((jBY L (jGF (nodeOf L t))).1∈jAN S))
end Go.Sp
namespace Go.Proofs
open Tryz
attribute [local irreducible] Calls
theorem c_Has (p:Addr) (n:Sp.Node) (w0:World) {L:Sp.Pool} {F:NP} (hP:zO w0 p L F) (hok:Sp.Ok L) :
  Calls prog 216 #[.pointer (some p),jDL n] w0 (fun e w'=>∃r:Int,∃ok:Bool,e=.returned (.tuple #[.int .i64 r,.bool ok])∧((match Sp.find L n with | some i=>r=(i:Int)+1∧ok=true | none=>r=0∧ok=false)∧Pure w0 w')):=by
 obtain ⟨k,f,t,u,x,a,b⟩:=n
 generalize hn:(⟨k,f,t,u,x,a,b⟩:Sp.Node)=n
 have hkey:(Value.agg #[.int .i64 k,.int .i64 f,.int .i64 t,.int .u64 u,.string x,.int .i64 a,.int .i64 b])=jDL n:=by rw [← hn];rfl
 rw [← hkey]
 refine w_Z2 _ _ _ _ _ _ _ _ w0 (fun r ok w'=>(match Sp.find L n with | some i=>r=(i:Int)+1∧ok=true | none=>r=0∧ok=false)∧Pure w0 w') ?_
 unfold m_Z2
 intro p2 w1 h1
 have b1:=Box.of_new h1
 have E1:Pure w0 w1:=Ext.new h1
 refine Br.f rfl ?_
 rintro _ rfl
 have Ed:Pure w1 w1.drew:=Ext.drew w1
 have E2:=E1.trans Ed
 obtain ⟨s,m,hS,hF⟩:=hP.pure E2
 refine ⟨p,rfl,_,hS.box.cell (i:=1) rfl,_,_,_,_,_,_,_,(b1.pure Ed).row,?_⟩
 rw [hkey]
 rcases hS.map.lookup (P:=prog) (T:=93) (E:=23) underlying93 jAK jBT ⟨n,rfl⟩ (zeroValue23 _) true with ⟨hnot,hrun⟩ | ⟨i,v,hi,hrun⟩
 ·refine ⟨_,_,hrun,?_,E2⟩
  rw [find_none (jLM hnot)];exact ⟨rfl,rfl⟩
 ·obtain ⟨e,he,hen,rfl⟩:=jLN hi
  refine ⟨_,_,hrun,?_,E2⟩
  rw [← hen,jKR hok he];exact ⟨by simp,rfl⟩
abbrev MakePost (p:Addr) (L:Sp.Pool) (F:NP) (w:World) (n:Sp.Node) (e:Ending) (w':World):Prop :=
 ∃r1:Int,∃r2:Int,e=.returned (.tuple #[.int .i64 r1,.int .i64 r2])∧((r1,r2)=((Sp.make L n).1,(Sp.make L n).2.1)∧∃F',zO w' p (Sp.make L n).2.2 F'∧Ext F w w'∧∀b,F' b→F b∨w.heap.size≤b)
section
variable (p:Addr) (w0:World) {L:Sp.Pool} {F:NP} (hP:zO w0 p L F) (hok:Sp.Ok L)
include hP hok
theorem c_Hash (a:Int):Calls prog 46 #[.pointer (some p),.int .i64 a] w0 (MakePost p L F w0 ⟨5,0,0,0,⟨#[]⟩,a,0⟩):=by
 refine w_O2 _ _ w0 (fun r1 r2 w'=>(r1,r2)=((Sp.make L ⟨5,0,0,0,⟨#[]⟩,a,0⟩).1,(Sp.make L ⟨5,0,0,0,⟨#[]⟩,a,0⟩).2.1)∧∃F',zO w' p (Sp.make L ⟨5,0,0,0,⟨#[]⟩,a,0⟩).2.2 F'∧Ext F w0 w'∧∀b,F' b→F b∨w0.heap.size≤b) ?_;unfold m_O2;refine (jJL p _ _ _ _ _ _ _ w0 hP hok).mono ?_;rintro _ w1 ⟨r1,r2,rfl,h⟩;exact ⟨r1,r2,rfl,h⟩
end
end Go.Proofs
end
section
namespace Go.Proofs
theorem jUE {i y m:Nat} (hi:i≤8) (hy:y≤127) (hb:m*128 ^ (i+1)<18446744073709551616):(y+128*m)*128 ^ i<18446744073709551616:=by
 rw [Nat.pow_succ] at hb;obtain ⟨q,hq⟩:∃q,18446744073709551616=q*(128 ^ i*128):=by
  refine ⟨2 ^ (64 - 7*(i+1)),?_⟩;rw [show 128 ^ i*128=2 ^ (7*(i+1)) by rw [Nat.pow_mul];rfl,← Nat.pow_add,show 64 - 7*(i+1)+7*(i+1)=64 by omega]
 have hp:0<128 ^ i:=Nat.pow_pos (by omega);generalize 128 ^ i=P at *;rw [hq] at hb ⊢;have hm:m<q:=Nat.lt_of_mul_lt_mul_right hb;have h1:(y+128*m)*P<128*(m+1)*P:=Nat.mul_lt_mul_of_pos_right (by omega) hp;have h2:128*(m+1)*P≤128*q*P:=Nat.mul_le_mul_right _ (Nat.mul_le_mul_left _ hm);have h3:q*(P*128)=128*q*P:=by rw [Nat.mul_comm P,← Nat.mul_assoc,Nat.mul_comm q]
 omega
theorem jOV:∀(l:List UInt8) (i acc n k:Nat),i≤9→uV i acc l=.ok (n,k)→∃m c,l=vN m++c∧n=acc+m*128 ^ i∧k=i+(vN m).length∧(0<i→0<m)∧m*128 ^ i<18446744073709551616:=by
 intro l;induction l with
 | nil=>intro i acc n k _ h;simp [uV] at h
 | cons x l ih =>
  intro i acc n k hi h
  have hx:=x.toNat_lt
  have hx8:UInt8.ofNat x.toNat=x:=by simp
  rw [xZ] at h
  split at h
  ·cases h
  ·rename_i h9
   split at h
   ·rename_i h128
    split at h
    ·cases h
    ·rename_i hz
     cases h
     refine ⟨x.toNat,l,by rw [uS h128,hx8];rfl,rfl,by rw [uS h128];rfl,by omega,?_⟩
     have:i=0∨i=1∨i=2∨i=3∨i=4∨i=5∨i=6∨i=7∨i=8∨i=9:=by omega
     rcases this with rfl | rfl | rfl | rfl | rfl | rfl | rfl | rfl | rfl | rfl <;> omega
   ·rename_i h128
    have hi8:i≤8:=by omega
    obtain ⟨m,c,rfl,rfl,rfl,hp,hb⟩:=ih _ _ _ _ (by omega) h
    have hp:=hp (by omega)
    have hxm:0<x.toNat % 128+128*m:=by omega
    have e:x.toNat % 128+128*m=x.toNat % 128+128*m:=rfl
    refine ⟨x.toNat % 128+128*m,c,?_,?_,?_,fun _=>hxm,?_⟩
    ·rw [tZ (n:=x.toNat % 128+128*m) (by omega),List.cons_append]
     have e1:(x.toNat % 128+128*m) % 128+128=x.toNat:=by omega
     have e2:(x.toNat % 128+128*m) / 128=m:=by omega
     rw [e1,e2,hx8]
    ·rw [Nat.add_mul,Nat.pow_succ]
     have:m*(128 ^ i*128)=128*m*128 ^ i:=by rw [Nat.mul_comm (128 ^ i),← Nat.mul_assoc,Nat.mul_comm m]
     omega
    ·rw [tZ (n:=x.toNat % 128+128*m) (by omega),List.length_cons]
     have e2:(x.toNat % 128+128*m) / 128=m:=by omega
     rw [e2];omega
    ·exact jUE hi8 (by omega) hb
theorem jHW {l:List UInt8} {n k:Nat} (h:uV 0 0 l=.ok (n,k)):∃c,l=vN n++c∧k=(vN n).length∧n<18446744073709551616:=by
 obtain ⟨m,c,h1,h2,h3,_,h5⟩:=jOV l 0 0 n k (by omega) h;simp at h2 h3 h5;subst h2;exact ⟨c,h1,h3,h5⟩
def Fld.same (n m:Sp.Node) (na nb ma mb:Nat):Fld→Prop
 | .from_=>n.frm.toNat=m.frm.toNat | .to_=>n.to.toNat=m.to.toNat | .num=>n.num.toNat=m.num.toNat | .text=>n.text=m.text | .fst=>na=ma | .snd=>nb=mb
theorem jPQ {n:Sp.Node} (h:Fld.fst∈yQ n.kind):n.a∈Sp.zH n:=by
 unfold yQ at h;unfold Sp.zH Sp.shapeOf
 repeat' split at h
 all_goals first | (exfalso;revert h;decide) | skip
 all_goals (rename_i h1;rw [h1];simp)
theorem jOJ {n:Sp.Node} (h:Fld.snd∈yQ n.kind):n.b∈Sp.zH n:=by
 unfold yQ at h;unfold Sp.zH Sp.shapeOf
 repeat' split at h
 all_goals first | (exfalso;revert h;decide) | skip
 all_goals (rename_i h1;rw [h1];simp)
theorem jMW {L:Sp.Pool} (hW:Sp.Wf L) {s t:Int} (hs:Sp.inP L s=true) (ht:Sp.inP L t=true) (h:Sp.nodeOf L s=Sp.nodeOf L t):s=t:=by
 obtain ⟨i,hi,rfl⟩:=Sp.jAO hs;obtain ⟨j,hj,rfl⟩:=Sp.jAO ht;rw [Sp.qJ hi,Sp.qJ hj] at h;have:=hW.ok.nodup;have e:i=j:=by
  refine (List.getElem_inj (h₀:=by simpa using hi) (h₁:=by simpa using hj) this).1 ?_;simpa using h
 rw [e]
def OrdF (L:Sp.Pool):List Int→List Int→Prop
 | _,[]=>True
 | seen,z :: l=>(∀k∈Sp.zH (Sp.nodeOf L z),k∈seen)∧OrdF L (seen++[z]) l
theorem jUF {L:Sp.Pool}:∀(l seen:List Int),(∀pre z post,l=pre++z :: post→∀k∈Sp.zH (Sp.nodeOf L z),k∈seen++pre)→OrdF L seen l:=by
 intro l;induction l with
 | nil=>intro _ _;trivial
 | cons z l ih =>
  intro seen h
  refine ⟨fun k hk=>by simpa using h [] z l rfl k hk,ih _ (fun pre y post e k hk=>?_)⟩
  have:=h (z :: pre) y post (by rw [e];rfl) k hk
  simpa using this
theorem jPC {L:Sp.Pool} (hW:Sp.Wf L) (t:Int):OrdF L [] (Sp.subs L t):=jUF _ _ (fun pre z post e k hk=>by rw [List.nil_append];exact Sp.jGH hW t pre z post e k hk)
theorem jGI {L:Sp.Pool} (hW:Sp.Wf L) {t u:Int} (h:u∈Sp.subs L t):Sp.inP L u=true:=have h:=(Sp.jDS hW).1 h;(Sp.Sub.le hW h.1 h.2).1
theorem jLE {L:Sp.Pool} (hW:Sp.Wf L) {t:Int} (h:Sp.inP L t=true):t∈Sp.subs L t:=(Sp.jDS hW).2 ⟨h,.refl _⟩
end Go.Proofs
end
section
namespace Go.Sp
theorem jDV {α β γ δ:Type} {f:α→γ} {g:β→γ} {f':α→δ} {g':β→δ}:∀{K1:List α} {K2:List β},K1.map f=K2.map g→(∀a∈K1,∀b∈K2,f a=g b→f' a=g' b)→K1.map f'=K2.map g':=by
 intro K1;induction K1 with
 | nil=>intro K2 h _;cases K2 with
  | nil=>rfl
  | cons b K2=>simp at h
 | cons a K1 ih=>intro K2 h hh;cases K2 with
  | nil=>simp at h
  | cons b K2 =>
   simp only [List.map_cons,List.cons.injEq] at h ⊢
   exact ⟨hh a (by simp) b (by simp) h.1,ih h.2 (fun x hx y hy=>hh x (List.mem_cons_of_mem _ hx) y (List.mem_cons_of_mem _ hy))⟩
theorem jBH {L M:Pool} (hL:Wf L) (hM:Wf M) {s t:Int} (hs:inP L s=true) (ht:inP M t=true) (h:zI L s=zI M t) :
  (nodeOf L s).kind=(nodeOf M t).kind∧(nodeOf L s).frm=(nodeOf M t).frm∧(nodeOf L s).to=(nodeOf M t).to∧(nodeOf L s).num=(nodeOf M t).num∧(nodeOf L s).text=(nodeOf M t).text∧(zH (nodeOf L s)).map (zI L)=(zH (nodeOf M t)).map (zI M):=by
 rw [qO hL hs,qO hM ht] at h
 simpa using h
theorem jOG {L M:Pool} (hL:Wf L) (hM:Wf M):∀(n:Nat) (s t:Int),s.toNat=n→inP L s=true→inP M t=true→zI L s=zI M t→sizeOf L s=sizeOf M t∧depthOf L s=depthOf M t:=by
 intro n;induction n using Nat.strongRecOn with
 | _ n ih =>
 intro s t hn hs ht h;have hk:=(jBH hL hM hs ht h).2.2.2.2.2;obtain ⟨_,_,_,_,c1,c2,c3⟩:=hL.node hs;obtain ⟨_,_,_,_,d1,d2,d3⟩:=hM.node ht;have key:∀a∈zH (nodeOf L s),∀b∈zH (nodeOf M t),zI L a=zI M b→sizeOf L a=sizeOf M b∧depthOf L a=depthOf M b:=fun a ha b hb e=>by
  have:=vA.1 (c1 a ha).1;exact ih a.toNat (by have:=(c1 a ha).2;omega) a b rfl (c1 a ha).1 (d1 b hb).1 e
 refine ⟨?_,?_⟩
 ·rw [c2,d2,jDV hk (fun a ha b hb e=>(key a ha b hb e).1)]
 ·have e:=jDV hk (fun a ha b hb e=>(key a ha b hb e).2);rw [c3,d3];have f1:∀(l:List Int) (P:Pool),l.foldl (fun d k=>max d (depthOf P k)) 0=(l.map (depthOf P)).foldl max 0:=fun l P=>by rw [List.foldl_map]
  rw [f1,f1,e]
theorem jUK {L:Pool} (hL:Wf L):∀{K1 K2:List Int},(∀k∈K1,inP L k=true)→(∀k∈K2,inP L k=true)→K1.map (zI L)=K2.map (zI L)→K1=K2:=by
 intro K1;induction K1 with
 | nil=>intro K2 _ _ h;cases K2 with
  | nil=>rfl
  | cons b K2=>simp at h
 | cons a K1 ih=>intro K2 h1 h2 h;cases K2 with
  | nil=>simp at h
  | cons b K2 =>
   simp only [List.map_cons,List.cons.injEq] at h
   rw [xU hL _ a b rfl (h1 a (by simp)) (h2 b (by simp)) h.1,ih (fun k hk=>h1 k (List.mem_cons_of_mem _ hk)) (fun k hk=>h2 k (List.mem_cons_of_mem _ hk)) h.2]
structure Ren (L q:Pool) (z:Int) (n:Node):Prop where
 kind:n.kind=(nodeOf L z).kind
 frm:n.frm=(nodeOf L z).frm
 to:n.to=(nodeOf L z).to
 num:n.num=(nodeOf L z).num
 text:n.text=(nodeOf L z).text
 kin:∀k∈zH n,inP q k=true
 kids:(zH n).map (zI q)=(zH (nodeOf L z)).map (zI L)
 a0:(shapeOf n.kind).kids<1→n.a=0
 b0:(shapeOf n.kind).kids<2→n.b=0
theorem jPM {n m:Node} (hk:n.kind=m.kind) (h:zH n=zH m) (a1:(shapeOf n.kind).kids<1→n.a=0) (b1:(shapeOf n.kind).kids<2→n.b=0) (a2:(shapeOf m.kind).kids<1→m.a=0) (b2:(shapeOf m.kind).kids<2→m.b=0):n.a=m.a∧n.b=m.b:=by
 unfold zH at h;rw [← hk] at h a2 b2;rcases yG n.kind with e | e | e
 ·exact ⟨by rw [a1 (by omega),a2 (by omega)],by rw [b1 (by omega),b2 (by omega)]⟩
 ·rw [e] at h;simp at h;exact ⟨h,by rw [b1 (by omega),b2 (by omega)]⟩
 ·rw [e] at h;simpa using h
section
variable {L q:Pool} (hL:Wf L) (hq:Wf q) {z:Int} (hz:inP L z=true) {n:Node} (h:Ren L q z n)
include hL hq hz h
theorem Ren.check:check q n=(sizeOf L z,depthOf L z,0):=by
 obtain ⟨p1,p2,p3,p4,p5,p6,p7⟩:=hL.node hz;have e1:zV n=0:=by
  have:zV n=zV (nodeOf L z):=by unfold zV;rw [h.kind,h.frm,h.to,h.num,h.text]
  rw [this,p1]
 have e2:zU (shapeOf n.kind) n=0:=by
  have:zU (shapeOf n.kind) n=zU (shapeOf (nodeOf L z).kind) (nodeOf L z):=by unfold zU;rw [h.kind,h.frm,h.to,h.text]
  rw [this,p4]
 have key:∀a∈zH n,∀b∈zH (nodeOf L z),zI q a=zI L b→sizeOf q a=sizeOf L b∧depthOf q a=depthOf L b:=fun a ha b hb e=>jOG hq hL _ a b rfl (h.kin a ha) (p5 b hb).1 e;have e3:=jDV h.kids (fun a ha b hb e=>(key a ha b hb e).1);have e4:=jDV h.kids (fun a ha b hb e=>(key a ha b hb e).2);have f1:∀(l:List Int) (P:Pool),l.foldl (fun d k=>max d (depthOf P k)) 0=(l.map (depthOf P)).foldl max 0:=fun l P=>by rw [List.foldl_map]
 have s1:1+((zH n).map (sizeOf q)).sum=sizeOf L z:=by rw [e3,p6]
 have s2:(zH n).foldl (fun d k=>max d (depthOf q k)) 0+1=depthOf L z:=by rw [f1,e4,← f1,p7]
 have b1:=hL.ok.sizeOf z;have b2:=hL.ok.depthOf z;unfold Sp.check;simp only;rw [if_neg (by simpa using e1),if_neg,if_neg (by simpa using e2),if_neg,s1,s2,if_neg (by omega)]
 ·simp only [List.any_eq_true,not_exists,not_and];intro k hk;rw [h.kin k hk];decide
 ·have a0:=h.a0;have b0:=h.b0;simp only [Bool.or_eq_true,Bool.and_eq_true,decide_eq_true_eq,bne_iff_ne,ne_eq,not_or,not_and,Decidable.not_not];exact ⟨a0,b0⟩
omit hq in
theorem Ren.tree {v:Int} {M:Pool} (hM:Wf M) (hv:inP M v=true) (hn:nodeOf M v=n) (hk:∀k∈zH n,zI M k=zI q k):zI M v=zI L z:=by
 rw [qO hM hv,qO hL hz,hn,h.kind,h.frm,h.to,h.num,h.text,← h.kids];congr 1;exact List.map_congr_left hk
theorem Ren.node {v:Int} (hv:inP q v=true) (ht:zI q v=zI L z):nodeOf q v=n:=by
 obtain ⟨k1,k2,k3,k4,k5,k6⟩:=jBH hq hL hv hz ht;obtain ⟨_,c2,c3,_,c5,_⟩:=hq.node hv;have hkk:=jUK hq (fun k hk=>(c5 k hk).1) h.kin (k6.trans h.kids.symm);obtain ⟨ea,eb⟩:=jPM (k1.trans h.kind.symm) hkk c2 c3 h.a0 h.b0;have g1:=h.kind;have g2:=h.frm;have g3:=h.to;have g4:=h.num;have g5:=h.text;generalize nodeOf q v=m at *;generalize nodeOf L z=o at *;cases m;cases n;simp_all
theorem Ren.find_none (hn:∀v,inP q v=true→zI q v≠zI L z):find q n=none:=by
 cases hf:find q n with
 | none=>rfl
 | some i =>
  exfalso
  obtain ⟨hi,e⟩:=jCA hf
  have hv:inP q ((i:Int)+1)=true:=vA.2 ⟨by omega,by omega⟩
  exact hn _ hv (h.tree hL hz hq hv (by rw [qJ hi,e]) (fun _ _=>rfl))
theorem Ren.find_old {v:Int} (hv:inP q v=true) (ht:zI q v=zI L z):find q n=some (v - 1).toNat:=by
 have hn:=h.node hL hq hz hv ht;cases hf:find q n with
 | none =>
  exfalso
  unfold find at hf
  rw [List.findIdx?_eq_none_iff] at hf
  obtain ⟨i,hi,rfl⟩:=jAO hv
  rw [qJ hi] at hn
  have:=hf q[i] (List.getElem_mem hi)
  simp at this;exact this hn
 | some i =>
  obtain ⟨hi,e⟩:=jCA hf
  have hv2:inP q ((i:Int)+1)=true:=vA.2 ⟨by omega,by omega⟩
  have:=Go.Proofs.jMW hq hv2 hv (by rw [qJ hi,e,hn])
  rw [← this];simp
theorem Ren.make_old {v:Int} (hv:inP q v=true) (ht:zI q v=zI L z):make q n=(v,0,q):=by
 have hc:=h.check hL hq hz;have hf:=h.find_old hL hq hz hv ht;have h1:=(vA.1 hv).1;unfold make;simp only [hc,hf];rw [if_neg (by simp)];simp only [Prod.mk.injEq,and_true];omega
theorem Ren.make_new (hn:∀v,inP q v=true→zI q v≠zI L z) (hl:q.length<65536):make q n=((q.length:Int)+1,0,q++[⟨n,sizeOf L z,depthOf L z⟩]):=by
 have hc:=h.check hL hq hz;have hf:=h.find_none hL hq hz hn;unfold make;simp only [hc,hf];rw [if_neg (by simp),if_neg (by omega)]
theorem Ren.make_full (hl:¬ q.length<65536) (hn:∀v,inP q v=true→zI q v≠zI L z):make q n=(0,6,q):=by
 have hc:=h.check hL hq hz;have hf:=h.find_none hL hq hz hn;unfold make;simp only [hc,hf];rw [if_neg (by simp),if_pos (by omega)]
theorem Ren.made (h0:(make q n).2.1=0):Wf (make q n).2.2∧inP (make q n).2.2 (make q n).1=true∧zI (make q n).2.2 (make q n).1=zI L z∧∀v,inP q v=true→inP (make q n).2.2 v=true∧zI (make q n).2.2 v=zI q v:=by
 have hw:=xQ hq n;obtain ⟨M,e⟩:=jAJ q n;obtain ⟨m1,m2,_⟩:=tA h0;have hold:∀v,inP q v=true→inP (make q n).2.2 v=true∧zI (make q n).2.2 v=zI q v:=fun v hv=>by
  rw [e] at hw ⊢;exact ⟨jEW hv,jAG hw _ v rfl hv⟩
 exact ⟨hw,m1,h.tree hL hz hw m1 m2 (fun k hk=>(hold k (h.kin k hk)).2),hold⟩
theorem Ren.err:(make q n).2.1=0∨(make q n).2.1=6∧65536≤q.length∧∀v,inP q v=true→zI q v≠zI L z:=by
 by_cases hx:∃v,inP q v=true∧zI q v=zI L z
 ·obtain ⟨v,hv,ht⟩:=hx;rw [h.make_old hL hq hz hv ht];exact .inl rfl
 ·have hx:∀v,inP q v=true→zI q v≠zI L z:=fun v hv e=>hx ⟨v,hv,e⟩;by_cases hl:q.length<65536
  ·rw [h.make_new hL hq hz hx hl];exact .inl rfl
  ·rw [h.make_full hL hq hz hl hx];exact .inr ⟨rfl,by omega,hx⟩
end
end Go.Sp
end
section
namespace Go.Sp
open Go.Proofs
structure Cp (Lq L:Pool) (own:Int→Int) (seen:List Int):Prop where
 wf:Wf L
 inn:∀s∈seen,inP Lq s=true
 at_:∀s∈seen,inP L (own s)=true∧zI L (own s)=zI Lq s
 out:∀x,x ∉ seen→own x=0
theorem jFY (n:Node) (own:Int→Int):zH { n with a:=own n.a,b:=own n.b }=(zH n).map own:=by
 unfold zH;simp only [List.map_take,List.map_cons,List.map_nil]
theorem Cp.ren {Lq L:Pool} {own:Int→Int} {seen:List Int} (h:Cp Lq L own seen) (hq:Wf Lq) {z:Int} (hz:inP Lq z=true) (hk:∀k∈zH (nodeOf Lq z),k∈seen) :
  Ren Lq L z { nodeOf Lq z with a:=own (nodeOf Lq z).a,b:=own (nodeOf Lq z).b }:=by
 obtain ⟨_,c2,c3,_⟩:=hq.node hz
 have o0:own 0=0:=h.out 0 (fun h0=>by have:=(vA.1 (h.inn 0 h0)).1;omega)
 refine ⟨rfl,rfl,rfl,rfl,rfl,?_,?_,fun e=>by simp only;rw [c2 e,o0],fun e=>by simp only;rw [c3 e,o0]⟩
 ·intro k hk2
  rw [jFY] at hk2
  obtain ⟨x,hx,rfl⟩:=List.mem_map.1 hk2
  exact (h.at_ x (hk x hx)).1
 ·rw [jFY,List.map_map]
  exact List.map_congr_left (fun x hx=>(h.at_ x (hk x hx)).2)
theorem Cp.step {Lq L:Pool} {own:Int→Int} {seen:List Int} (h:Cp Lq L own seen) (hq:Wf Lq) {z:Int} (hz:inP Lq z=true) (hk:∀k∈zH (nodeOf Lq z),k∈seen) {n:Node} (hn:Ren Lq L z n) (h0:(make L n).2.1=0) :
  Cp Lq (make L n).2.2 (fun x=>if x=z then (make L n).1 else own x) (seen++[z]):=by
 obtain ⟨m1,m2,m3,m4⟩:=hn.made hq h.wf hz h0
 refine ⟨m1,fun s hs=>?_,fun s hs=>?_,fun x hx=>?_⟩
 ·rcases List.mem_append.1 hs with hs | hs
  ·exact h.inn s hs
  ·rw [List.mem_singleton] at hs;subst hs;exact hz
 ·by_cases e:s=z
  ·subst e;simp only [if_true];exact ⟨m2,m3⟩
  ·simp only [if_neg e]
   have hs:s∈seen:=(List.mem_append.1 hs).resolve_right (fun hs=>e (List.mem_singleton.1 hs))
   obtain ⟨a1,a2⟩:=h.at_ s hs
   exact ⟨(m4 _ a1).1,(m4 _ a1).2.trans a2⟩
 ·simp only [List.mem_append,List.mem_singleton,not_or] at hx
  rw [if_neg hx.2];exact h.out x hx.1
theorem jPF (L:Pool) (n:Node):(make L n).2.2.length≤L.length+1:=by
 rcases jBV L n with e | ⟨_,e⟩ <;> rw [e] <;> simp
theorem yL (Lq:Pool) (z:Int) (l:List Int) (L:Pool) (own:Int→Int) {n:Node} (hn:{ nodeOf Lq z with a:=own (nodeOf Lq z).a,b:=own (nodeOf Lq z).b }=n) {x e:Int} {L':Pool} (hm:make L n=(x,e,L')) :
  vM Lq (z :: l) L own=if e≠0 then (L,e,own) else vM Lq l L' (fun y=>if y=z then x else own y):=by
 subst hn
 show (if (make L _).2.1≠0 then _ else _)=_
 rw [hm]
theorem jPY {Lq:Pool} (hq:Wf Lq):∀(l seen:List Int) (L:Pool) (own:Int→Int),Cp Lq L own seen→(∀z∈l,inP Lq z=true)→OrdF Lq seen l →
  ((vM Lq l L own).2.1=0∧Cp Lq (vM Lq l L own).1 (vM Lq l L own).2.2 (seen++l))∨((vM Lq l L own).2.1=6∧¬ (L.length+l.length≤65536)):=by
 intro l
 induction l with
 | nil=>intro seen L own h _ _;exact .inl ⟨rfl,by rw [List.append_nil];exact h⟩
 | cons z l ih =>
  intro seen L own h hl ho
  have hz:=hl z (by simp)
  have hn:=h.ren hq hz ho.1
  generalize hnn:({ nodeOf Lq z with a:=own (nodeOf Lq z).a,b:=own (nodeOf Lq z).b }:Node)=n at hn
  have hf:=jPF L n
  have he:=hn.err hq h.wf hz
  have hs:=fun h0=>h.step hq hz ho.1 hn h0
  obtain ⟨x,e,L',hm⟩:∃x e L',make L n=(x,e,L'):=⟨_,_,_,rfl⟩
  rw [yL Lq z l L own hnn hm]
  rw [hm] at hf he hs
  simp only at hf he hs
  rcases he with rfl | ⟨rfl,hg,_⟩
  ·rw [if_neg (by simp)]
   rcases ih _ _ _ (hs rfl) (fun x hx=>hl x (List.mem_cons_of_mem _ hx)) ho.2 with ⟨e1,e2⟩ | ⟨e1,e2⟩
   ·exact .inl ⟨e1,by rw [List.append_assoc,List.singleton_append] at e2;exact e2⟩
   ·refine .inr ⟨e1,fun hle=>e2 ?_⟩
    rw [List.length_cons] at hle;omega
  ·rw [if_pos (by simp)]
   exact .inr ⟨rfl,by rw [List.length_cons];omega⟩
theorem Cp.start {Lq L:Pool} (hL:Wf L):Cp Lq L (fun _=>0) []:=⟨hL,fun _ h=>(by cases h),fun _ h=>(by cases h),fun _ _=>rfl⟩
theorem jPW {L Lq:Pool} (hL:Wf L) (hq:Wf Lq) (t:Int):(yU L Lq t).2.1=0∨((yU L Lq t).1=0∧(yU L Lq t).2.2=L):=by
 unfold yU;split
 ·simp only;split
  ·exact .inr ⟨rfl,rfl⟩
  ·exact .inl rfl
 ·exact .inr ⟨rfl,rfl⟩
theorem jSH {L Lq:Pool} (hL:Wf L) (hq:Wf Lq) {t:Int} (ht:inP Lq t=true) (h0:(yU L Lq t).2.1=0) :
  Wf (yU L Lq t).2.2∧inP (yU L Lq t).2.2 (yU L Lq t).1=true∧zI (yU L Lq t).2.2 (yU L Lq t).1=zI Lq t:=by
 have h:=jPY hq (subs Lq t) [] L (fun _=>0) (Cp.start hL) (fun z hz=>jGI hq hz) (jPC hq t)
 unfold yU at *
 rw [if_pos ht] at *
 simp only at *
 split at h0
 ·rename_i h1;exact absurd h0 h1
 ·rename_i h1
  rw [if_neg h1]
  simp only
  rcases h with ⟨_,h⟩ | ⟨h6,_⟩
  ·rw [List.nil_append] at h
   have:=h.at_ t (jLE hq ht)
   exact ⟨h.wf,this.1,this.2⟩
  ·exact absurd (by rw [h6];decide) h1
structure OvC (L M:Pool) (s1 s2:(Int→Bool)×List Int):Prop where
 list:s1.2.map (zI L)=s2.2.map (zI M)
 i1:∀x∈s1.2,inP L x=true
 i2:∀x∈s2.2,inP M x=true
 mark:∀x y,inP L x=true→inP M y=true→zI L x=zI M y→s1.1 x=s2.1 y
theorem jPB {L M:Pool} (hL:Wf L) (hM:Wf M):∀(n:Nat) (m:Nat) (s t:Int) (st1 st2:(Int→Bool)×List Int),s.toNat<n→t.toNat<m→((inP L s=false∧inP M t=false)∨(inP L s=true∧inP M t=true∧zI L s=zI M t))→OvC L M st1 st2→OvC L M (qV L n s st1) (qV M m t st2):=by
 intro n;induction n with
 | zero=>intro m s t st1 st2 h;omega
 | succ n ih =>
  intro m s t st1 st2 hn hm hst hC
  cases m with
  | zero=>omega
  | succ m =>
  rw [qV,qV]
  rcases hst with ⟨e1,e2⟩ | ⟨hs,ht,e⟩
  ·rw [if_neg (by rw [e1];simp),if_neg (by rw [e2];simp)];exact hC
  ·have hmk:=hC.mark s t hs ht e
   rw [hs,ht]
   cases hv:st1.1 s with
   | true=>rw [if_neg (by simp),if_neg (by rw [← hmk,hv];simp)];exact hC
   | false =>
    rw [if_pos ⟨rfl,rfl⟩,if_pos ⟨rfl,by rw [← hmk,hv]⟩]
    obtain ⟨k1,_,_,_,_,k6⟩:=jBH hL hM hs ht e
    obtain ⟨_,c2,c3,_,c5,_⟩:=hL.node hs
    obtain ⟨_,d2,d3,_,d5,_⟩:=hM.node ht
    have C1:OvC L M (upd st1.1 s true,st1.2) (upd st2.1 t true,st2.2):=⟨hC.list,hC.i1,hC.i2,fun x y hx hy exy=>by
     simp only [upd];by_cases ex:x=s
     ·subst ex;have:y=t:=xU hM _ y t rfl hy ht (exy.symm.trans e);rw [if_pos rfl,if_pos this]
     ·have:y≠t:=fun ey=>ex (xU hL _ x s rfl hx hs (by rw [exy,ey,e]));rw [if_neg ex,if_neg this];exact hC.mark x y hx hy exy⟩
    have hs1:=(vA.1 hs).1
    have ht1:=(vA.1 ht).1
    have kid : (((inP L (nodeOf L s).a = false ∧ inP M (nodeOf M t).a = false) ∨ (inP L (nodeOf L s).a = true ∧ inP M (nodeOf M t).a = true ∧ zI L (nodeOf L s).a = zI M (nodeOf M t).a)) ∧
      ((inP L (nodeOf L s).b=false∧inP M (nodeOf M t).b=false)∨(inP L (nodeOf L s).b=true∧inP M (nodeOf M t).b=true∧zI L (nodeOf L s).b=zI M (nodeOf M t).b))) ∧
      ((nodeOf L s).a.toNat<n∧(nodeOf L s).b.toNat<n)∧(nodeOf M t).a.toNat<m∧(nodeOf M t).b.toNat<m:=by
     have z0:∀P:Pool,inP P 0=false:=fun P=>by simp [inP]
     unfold zH at k6 c5 d5
     rw [← k1] at k6 d2 d3 d5
     rcases yG (nodeOf L s).kind with h | h | h
     ·rw [c2 (by omega),c3 (by omega),d2 (by omega),d3 (by omega)]
      exact ⟨⟨.inl ⟨z0 _,z0 _⟩,.inl ⟨z0 _,z0 _⟩⟩,⟨by omega,by omega⟩,by omega,by omega⟩
     ·rw [c3 (by omega),d3 (by omega)]
      rw [h] at k6 c5 d5
      simp at k6 c5 d5
      have:=vA.1 c5.1;have:=vA.1 d5.1
      exact ⟨⟨.inr ⟨c5.1,d5.1,k6⟩,.inl ⟨z0 _,z0 _⟩⟩,⟨by omega,by omega⟩,by omega,by omega⟩
     ·rw [h] at k6 c5 d5
      simp at k6 c5 d5
      have:=vA.1 c5.1.1;have:=vA.1 d5.1.1;have:=vA.1 c5.2.1;have:=vA.1 d5.2.1
      exact ⟨⟨.inr ⟨c5.1.1,d5.1.1,k6.1⟩,.inr ⟨c5.2.1,d5.2.1,k6.2⟩⟩,⟨by omega,by omega⟩,by omega,by omega⟩
    have r1:=ih m _ _ _ _ kid.2.1.1 kid.2.2.1 kid.1.1 C1
    have r2:=ih m _ _ _ _ kid.2.1.2 kid.2.2.2 kid.1.2 r1
    refine ⟨?_,?_,?_,r2.mark⟩
    ·simp only [List.map_append,List.map_cons,List.map_nil,r2.list,e]
    ·intro x hx
     rcases List.mem_append.1 hx with hx | hx
     ·exact r2.i1 x hx
     ·rw [List.mem_singleton] at hx;subst hx;exact hs
    ·intro x hx
     rcases List.mem_append.1 hx with hx | hx
     ·exact r2.i2 x hx
     ·rw [List.mem_singleton] at hx;subst hx;exact ht
theorem jOH {L M:Pool} (hL:Wf L) (hM:Wf M) {s t:Int} (hs:inP L s=true) (ht:inP M t=true) (e:zI L s=zI M t):(subs L s).map (zI L)=(subs M t).map (zI M) :=
 (jPB hL hM (s.toNat+1) (t.toNat+1) s t (fun _=>false,[]) (fun _=>false,[]) (by omega) (by omega) (.inr ⟨hs,ht,e⟩) ⟨rfl,by simp,by simp,fun _ _ _ _ _=>rfl⟩).list
theorem jFS {L M:Pool} (hL:Wf L) (hM:Wf M) {a b:Int} (ha:inP L a=true) (hb:inP M b=true) (e:zI L a=zI M b):∀(l1 l2:List Int),(∀x∈l1,inP L x=true)→(∀x∈l2,inP M x=true)→l1.map (zI L)=l2.map (zI M)→posOf l1 a=posOf l2 b:=by
 intro l1;induction l1 with
 | nil=>intro l2 _ _ h;cases l2 with
  | nil=>rfl
  | cons y l2=>simp at h
 | cons x l1 ih=>intro l2 h1 h2 h;cases l2 with
  | nil=>simp at h
  | cons y l2 =>
   simp only [List.map_cons,List.cons.injEq] at h
   have hi:=ih l2 (fun k hk=>h1 k (List.mem_cons_of_mem _ hk)) (fun k hk=>h2 k (List.mem_cons_of_mem _ hk)) h.2
   have hxy:(x == a)=(y == b):=by
    by_cases ex:x=a
    ·have:y=b:=xU hM _ y b rfl (h2 y (by simp)) hb (by rw [← h.1,ex,e]);simp [ex,this]
    ·have:y≠b:=fun ey=>ex (xU hL _ x a rfl (h1 x (by simp)) ha (by rw [h.1,ey,e]));rw [beq_false_of_ne ex,beq_false_of_ne this]
   unfold posOf at *
   rw [List.idxOf_cons,List.idxOf_cons,hxy,hi]
theorem jBL {L M:Pool} (hL:Wf L) (hM:Wf M):∀(l1 l2 s1 s2:List Int),(∀x∈l1,inP L x=true)→(∀x∈l2,inP M x=true)→(∀x∈s1,inP L x=true)→(∀x∈s2,inP M x=true)→l1.map (zI L)=l2.map (zI M)→s1.map (zI L)=s2.map (zI M)→textFrom L s1 l1=textFrom M s2 l2:=by
 intro l1;induction l1 with
 | nil=>intro l2 s1 s2 _ _ _ _ h _;cases l2 with
  | nil=>rfl
  | cons y l2=>simp at h
 | cons x l1 ih=>intro l2 s1 s2 h1 h2 h3 h4 h h5;cases l2 with
  | nil=>simp at h
  | cons y l2 =>
   simp only [List.map_cons,List.cons.injEq] at h
   have hx:=h1 x (by simp)
   have hy:=h2 y (by simp)
   obtain ⟨k1,k2,k3,k4,k5,k6⟩:=jBH hL hM hx hy h.1
   obtain ⟨_,_,_,_,c5,_⟩:=hL.node hx
   obtain ⟨_,_,_,_,d5,_⟩:=hM.node hy
   have hi:=ih l2 (s1++[x]) (s2++[y]) (fun k hk=>h1 k (List.mem_cons_of_mem _ hk)) (fun k hk=>h2 k (List.mem_cons_of_mem _ hk))
    (fun k hk=>by rcases List.mem_append.1 hk with hk | hk;exact h3 k hk;rw [List.mem_singleton] at hk;subst hk;exact hx)
    (fun k hk=>by rcases List.mem_append.1 hk with hk | hk;exact h4 k hk;rw [List.mem_singleton] at hk;subst hk;exact hy) h.2 (by simp [h5,h.1])
   rw [textFrom,textFrom,hi]
   congr 1
   unfold yP
   rw [k1]
   congr 1
   have hf:∀f∈yQ (nodeOf M y).kind,f.bytes (nodeOf L x) (posOf s1 (nodeOf L x).a) (posOf s1 (nodeOf L x).b)=f.bytes (nodeOf M y) (posOf s2 (nodeOf M y).a) (posOf s2 (nodeOf M y).b):=by
    intro f hf;have hk1:Fld.fst∈yQ (nodeOf M y).kind→posOf s1 (nodeOf L x).a=posOf s2 (nodeOf M y).a:=fun hf=>by
     have m1:=jPQ (n:=nodeOf L x) (by rw [k1];exact hf);have m2:=jPQ hf;refine jFS hL hM (c5 _ m1).1 (d5 _ m2).1 ?_ s1 s2 h3 h4 h5;unfold zH at k6 m1;rw [k1] at k6 m1;rcases yG (nodeOf M y).kind with e | e | e <;> rw [e] at k6 m1 <;> simp at k6 m1
     ·exact k6
     ·exact k6.1
    have hk2:Fld.snd∈yQ (nodeOf M y).kind→posOf s1 (nodeOf L x).b=posOf s2 (nodeOf M y).b:=fun hf=>by
     have m1:=jOJ (n:=nodeOf L x) (by rw [k1];exact hf);have m2:=jOJ hf;have e:(shapeOf (nodeOf M y).kind).kids=2:=by
      unfold yQ at hf
      repeat' split at hf
      all_goals first | (exfalso;revert hf;decide) | skip
      all_goals (rename_i h4;rw [h4];rfl)
     refine jFS hL hM (c5 _ m1).1 (d5 _ m2).1 ?_ s1 s2 h3 h4 h5;unfold zH at k6;rw [k1,e] at k6;simp at k6;exact k6.2
    cases f
    ·simp only [Fld.bytes,k2]
    ·simp only [Fld.bytes,k3]
    ·simp only [Fld.bytes,k4]
    ·simp only [Fld.bytes,k5]
    ·simp only [Fld.bytes,hk1 hf]
    ·simp only [Fld.bytes,hk2 hf]
   have cg:∀(fs:List Fld) (g1 g2:Fld→List UInt8),(∀f∈fs,g1 f=g2 f)→fs.flatMap g1=fs.flatMap g2:=by
    intro fs g1 g2;induction fs with
    | nil=>intro _;rfl
    | cons f fs ihf=>intro hh;rw [List.flatMap_cons,List.flatMap_cons,hh f (by simp),ihf (fun x hx=>hh x (List.mem_cons_of_mem _ hx))]
   exact cg _ _ _ hf
theorem jJS {L M:Pool} (hL:Wf L) (hM:Wf M) {s t:Int} (hs:inP L s=true) (ht:inP M t=true) (e:zI L s=zI M t):uG L s=uG M t :=
 jBL hL hM _ _ [] [] (fun _ h=>jGI hL h) (fun _ h=>jGI hM h) (by simp) (by simp) (jOH hL hM hs ht e) rfl
def jEQ:Nat→List Int
 | 0=>[]
 | n+1=>jEQ n++[(n:Int)+1]
theorem jDU (n:Nat):(jEQ n).length=n:=by induction n with
 | zero=>rfl
 | succ n ih=>simp [jEQ,ih]
theorem jGN {n:Nat} {x:Int}:x∈jEQ n↔1≤x∧x≤n:=by
 induction n with
 | zero=>simp [jEQ];omega
 | succ n ih=>simp only [jEQ,List.mem_append,ih,List.mem_singleton];omega
theorem jLP {n:Nat}:∀{x:Int},1≤x→x≤n→posOf (jEQ n) x=(x - 1).toNat:=by
 induction n with
 | zero=>intro x h1 h2;omega
 | succ n ih =>
  intro x h1 h2
  rw [jEQ]
  by_cases h:x≤n
  ·rw [jHZ (jGN.2 ⟨h1,h⟩),ih h1 h]
  ·have:x=(n:Int)+1:=by omega
   subst this
   rw [jHY (by rw [jGN];omega),jDU];omega
theorem jRP {n:Nat} {j:Nat} (h:j<(jEQ n).length):(jEQ n)[j]=(j:Int)+1:=by
 induction n with
 | zero=>simp [jEQ] at h
 | succ n ih =>
  simp only [jEQ]
  rw [List.getElem_append]
  split
  ·exact ih _
  ·rename_i h1
   have:j=n:=by rw [jDU] at h h1;omega
   subst this;simp
def _root_.Go.Proofs.Fld.said (x:Raw):Fld→List UInt8
 | .from_=>vN x.frm | .to_=>vN x.to | .num=>vN x.num | .text=>qH ⟨x.text.toArray⟩ | .fst=>vN x.a | .snd=>vN x.b
theorem jOW:∀{l:List UInt8} {i n x:Nat},uV i n l=.error x→x≠0:=by
 intro l;induction l with
 | nil=>intro i n x h;simp [uV] at h;omega
 | cons c l ih =>
  intro i n x h
  rw [xZ] at h
  split at h
  ·cases h;decide
  ·split at h
   ·split at h
    ·cases h;decide
    ·cases h
   ·exact ih h
theorem yJ {bs:List UInt8} {r:Rd} (h:(qN bs r).2.err=0):r.err=0∧bs.drop r.at_=vN (qN bs r).1++bs.drop (qN bs r).2.at_∧(qN bs r).1<18446744073709551616:=by
 unfold qN at h ⊢;by_cases he:r.err=0
 ·rw [if_pos he] at h ⊢;cases hr:uV 0 0 (bs.drop r.at_) with
  | error x =>
   rw [hr] at h
   simp only at h
   exact absurd h (jOW hr)
  | ok p =>
   obtain ⟨n,k⟩:=p
   obtain ⟨c,h1,h2,h3⟩:=jHW hr
   refine ⟨he,?_,h3⟩
   simp only
   rw [← List.drop_drop,h1,h2,List.drop_left]
 ·rw [if_neg he] at h;exact absurd h he
theorem jOX {bs:List UInt8} {r:Rd} (h:(qQ bs 64 r).2.err=0):r.err=0∧bs.drop r.at_=qH ⟨(qQ bs 64 r).1.toArray⟩++bs.drop (qQ bs 64 r).2.at_:=by
 have hn:=@yJ bs r;unfold qN at hn;unfold qQ at h ⊢;by_cases he:r.err=0
 ·rw [if_pos he] at h hn ⊢;cases hr:uV 0 0 (bs.drop r.at_) with
  | error x =>
   rw [hr] at h hn
   simp only at h hn
   exact absurd (hn h).2.1 (by
    have:=(hn h).2.1;intro _;have hl:=congrArg List.length this;rw [List.length_append,uS (by omega)] at hl;simp at hl)
  | ok p =>
   obtain ⟨n,k⟩:=p
   rw [hr] at h hn
   simp only at h hn ⊢
   obtain ⟨c,h1,h2,h3⟩:=jHW hr
   split at h
   ·simp at h
   ·rename_i h64
    rw [if_neg h64]
    split at h
    ·simp at h
    ·rename_i hlen
     rw [if_neg hlen]
     refine ⟨he,?_⟩
     simp only
     have hd:bs.drop (r.at_+k)=c:=by rw [← List.drop_drop,h1,h2,List.drop_left]
     have hcl:n≤c.length:=by rw [← hd,List.length_drop];omega
     have hs:(ByteArray.mk (c.take n).toArray).size=n:=by show (c.take n).toArray.size=n;simp;omega
     have hd2:bs.drop (r.at_+k+n)=c.drop n:=by rw [← List.drop_drop,hd]
     rw [hd,hd2]
     unfold qH
     rw [hs,h1,List.append_assoc]
     congr 1
     simp
 ·rw [if_neg he] at h;exact absurd h he
theorem jUS {bs:List UInt8} {r:Rd} {x:Raw} (f:Fld) (h:(f.rd bs r).err=0):r.err=0∧bs.drop r.at_=f.said (f.raw bs r x)++bs.drop (f.rd bs r).at_:=by
 cases f
 ·exact ⟨(yJ h).1,(yJ h).2.1⟩
 ·exact ⟨(yJ h).1,(yJ h).2.1⟩
 ·exact ⟨(yJ h).1,(yJ h).2.1⟩
 ·exact jOX h
 ·exact ⟨(yJ h).1,(yJ h).2.1⟩
 ·exact ⟨(yJ h).1,(yJ h).2.1⟩
theorem jOO {bs:List UInt8} {r:Rd} {x:Raw} {f g:Fld} (h:f≠g):f.said (g.raw bs r x)=f.said x:=by
 cases f <;> cases g <;> first | rfl | exact absurd rfl h
theorem jKB {bs:List UInt8} {f:Fld}:∀(fs:List Fld) (x:Raw) (r:Rd),f ∉ fs→f.said (qD bs fs (x,r)).1=f.said x:=by
 intro fs;induction fs with
 | nil=>intro x r _;rfl
 | cons g fs ih =>
  intro x r h
  simp only [List.mem_cons,not_or] at h
  rw [qD,ih _ _ h.2,jOO h.1]
theorem jMS {bs:List UInt8}:∀(fs:List Fld) (x:Raw) (r:Rd),fs.Nodup→(qD bs fs (x,r)).2.err=0→r.err=0∧bs.drop r.at_=fs.flatMap (fun f=>f.said (qD bs fs (x,r)).1)++bs.drop (qD bs fs (x,r)).2.at_:=by
 intro fs;induction fs with
 | nil=>intro x r _ h;exact ⟨h,rfl⟩
 | cons f fs ih =>
  intro x r hn h
  rw [qD] at h ⊢
  rw [List.nodup_cons] at hn
  obtain ⟨h1,h2⟩:=ih _ _ hn.2 h
  obtain ⟨h3,h4⟩:=jUS (x:=x) f h1
  refine ⟨h3,?_⟩
  rw [List.flatMap_cons,h4,h2,jKB fs _ _ hn.1,List.append_assoc]
theorem jNH (k:Int):(yQ k).Nodup:=by
 unfold yQ;repeat' split
 all_goals decide
theorem jUI {bs:List UInt8}:∀(fs:List Fld) (x:Raw) (r:Rd),(x.num<18446744073709551616)→(qD bs fs (x,r)).1.num<18446744073709551616:=by
 intro fs;induction fs with
 | nil=>intro x r h;exact h
 | cons f fs ih =>
  intro x r h
  rw [qD]
  refine ih _ _ ?_
  cases f <;> try exact h
  simp only [Fld.raw]
  by_cases he:(qN bs r).2.err=0
  ·exact (yJ he).2.2
  ·unfold qN at he ⊢
   split
   ·rename_i h1
    rw [if_pos h1] at he
    split
    ·rename_i hk
     rw [hk] at he
     exact absurd rfl he
    ·simp
   ·simp
theorem jIN {bs:List UInt8} {k:Int} (h1:1≤k) (h9:k≤9) (r:Rd):(qD bs (yQ k) (jAY,r)).1.kids=(shapeOf k).kids.toNat∧(Fld.fst∈yQ k↔0<(shapeOf k).kids)∧(Fld.snd∈yQ k↔1<(shapeOf k).kids):=by
 have:k=1∨k=2∨k=3∨k=4∨k=5∨k=6∨k=7∨k=8∨k=9:=by omega
 rcases this with rfl | rfl | rfl | rfl | rfl | rfl | rfl | rfl | rfl <;> simp [yQ,qD,Fld.raw,jAY,shapeOf]
theorem jMR {bs:List UInt8} {q:Pool} {r:Rd} (hW:Wf q) (hN:tI q) (hl:r.at_<bs.length) (he:r.err=0) (h0:(vS bs q r).2.1=0) :
  Wf (vS bs q r).1∧tI (vS bs q r).1∧(vS bs q r).1.length=q.length+1∧(∀v,inP q v=true→inP (vS bs q r).1 v=true∧zI (vS bs q r).1 v=zI q v) ∧
  bs.drop r.at_=yP (vS bs q r).1 (jEQ q.length) ((q.length:Int)+1)++bs.drop (vS bs q r).2.2.at_:=by
 rw [jBR bs q r hl he] at h0 ⊢
 have hcons:bs.drop r.at_=bs[r.at_] :: bs.drop (r.at_+1):=List.drop_eq_getElem_cons hl
 have hb8:UInt8.ofNat bs[r.at_].toNat=bs[r.at_]:=by simp
 generalize bs[r.at_]=c at *
 split at h0
 ·rename_i hk
  rw [if_pos hk]
  have hk1:1≤c.toNat∧c.toNat≤9:=by unfold jCR at hk;simpa using hk
  have hfl:=@jMS bs (yQ c.toNat) jAY ⟨r.at_+1,0,r.spot⟩ (jNH _)
  have hnum:=@jUI bs (yQ c.toNat) jAY ⟨r.at_+1,0,r.spot⟩ (by decide)
  obtain ⟨hkd,hk2,hk3⟩:=@jIN bs (c.toNat:Int) (by omega) (by omega) ⟨r.at_+1,0,r.spot⟩
  generalize qD bs (yQ c.toNat) (jAY,⟨r.at_+1,0,r.spot⟩)=s at *
  obtain ⟨x,r'⟩:=s
  simp only at *
  obtain ⟨e1,e2,e3,e4,e5⟩:=jEN h0
  simp only at e1 e2 e3 e4 e5
  rw [e5]
  simp only
  obtain ⟨_,hfl⟩:=hfl e1
  obtain ⟨m1,m2,m3⟩:=tA e4
  have hw:=xQ hW (x.node c.toNat)
  have hnn:tI (make q (x.node c.toNat)).2.2:=hN.make (by simp only [Raw.node,uI];omega)
  have hmk:(make q (x.node c.toNat)).1=(q.length:Int)+1∧(make q (x.node c.toNat)).2.2.length=q.length+1:=by
   have hc:=m3;unfold make at e4 ⊢;simp only [e3] at e4 ⊢;rw [if_neg (by rw [hc];simp)] at e4 ⊢;split at e4
   ·simp at e4
   ·rename_i hf;rw [if_neg hf];exact ⟨rfl,by simp⟩
  obtain ⟨M,eM⟩:=jAJ q (x.node c.toNat)
  refine ⟨hw,hnn,hmk.2,fun v hv=>?_,?_⟩
  ·rw [eM] at hw ⊢;exact ⟨jEW hv,jAG hw _ v rfl hv⟩
  ·rw [hmk.1] at m2
   rw [hcons,hfl]
   unfold yP
   rw [m2]
   have hkk:(x.node c.toNat).kind=c.toNat:=rfl
   rw [hkk,Int.toNat_natCast,hb8,List.cons_append]
   congr 1
   congr 1
   have hne:nodeErr c.toNat q.length x r'.err=0:=e2
   unfold nodeErr at hne
   rw [if_neg (by omega)] at hne
   split at hne
   ·simp at hne
   ·split at hne
    ·simp at hne
    ·rename_i href
     have cg:∀(fs:List Fld) (g1 g2:Fld→List UInt8),(∀f∈fs,g1 f=g2 f)→fs.flatMap g1=fs.flatMap g2:=by
      intro fs g1 g2;induction fs with
      | nil=>intro _;rfl
      | cons f fs ihf=>intro hh;rw [List.flatMap_cons,List.flatMap_cons,hh f (by simp),ihf (fun x hx=>hh x (List.mem_cons_of_mem _ hx))]
     refine cg _ _ _ (fun f hf=>?_)
     cases f
     ·simp [Fld.said,Fld.bytes,Raw.node]
     ·simp [Fld.said,Fld.bytes,Raw.node]
     ·simp [Fld.said,Fld.bytes,Raw.node]
     ·simp [Fld.said,Fld.bytes,Raw.node]
     ·have h2:=hk2.1 hf
      have hx:0<x.kids:=by omega
      have ha:x.a<q.length:=by omega
      simp only [Fld.said,Fld.bytes,Raw.node,if_pos hx]
      rw [jLP (by omega) (by omega)]
      congr 1;omega
     ·have h2:=hk3.1 hf
      have hx:1<x.kids:=by omega
      have ha:x.b<q.length:=by omega
      simp only [Fld.said,Fld.bytes,Raw.node,if_pos hx]
      rw [jLP (by omega) (by omega)]
      congr 1;omega
 ·simp at h0
theorem jRI {bs:List UInt8}:∀(fuel:Nat) (q:Pool) (r:Rd) (ps:List Nat) (q':Pool),Wf q→tI q→ps.length=q.length→r.err=0→r.at_≤bs.length→bs.length - r.at_≤fuel→bs.take r.at_=textFrom q [] (jEQ q.length)→(jJZ bs fuel q r ps).1=some q' →
  Wf q'∧tI q'∧q.length≤q'.length∧bs=textFrom q' [] (jEQ q'.length)∧q'.length≤inRow 0 (subs q' q'.length):=by
 have hend:∀(q:Pool) (ps:List Nat) (q':Pool),ps.length=q.length→(jDJ q ps).1=some q'→q=q'∧q.length≤inRow 0 (subs q q.length):=by
  intro q ps q' hp h;unfold jDJ at h;simp only at h;split at h
  ·cases h
  ·cases h;exact ⟨rfl,by omega⟩
 intro fuel
 induction fuel with
 | zero =>
  intro q r ps q' hW hN hp he hat hf ht h
  obtain ⟨rfl,h2⟩:=hend q ps q' hp h
  rw [List.take_of_length_le (by omega)] at ht
  exact ⟨hW,hN,Nat.le_refl _,ht,h2⟩
 | succ fuel ih =>
  intro q r ps q' hW hN hp he hat hf ht h
  by_cases hl:r.at_<bs.length
  ·rw [jJZ,if_pos hl] at h
   by_cases h0:(vS bs q r).2.1=0
   ·rw [if_neg (by simpa using h0)] at h
    obtain ⟨s1,s2,s3,s4,s5⟩:=jMR hW hN hl he h0
    obtain ⟨a1,a2,a3⟩:=jHU bs q r hl he h0
    have htake:bs.take (vS bs q r).2.2.at_=textFrom (vS bs q r).1 [] (jEQ (vS bs q r).1.length):=by
     have hold:∀z∈jEQ q.length,inP q z=true:=fun z hz=>vA.2 (jGN.1 hz);have hsame:textFrom q [] (jEQ q.length)=textFrom (vS bs q r).1 [] (jEQ q.length) :=
      jBL hW s1 _ _ [] [] hold (fun z hz=>(s4 z (hold z hz)).1) (by simp) (by simp) (List.map_congr_left (fun z hz=>((s4 z (hold z hz)).2).symm)) rfl
     rw [s3,jEQ,tP,List.nil_append,← hsame,← ht];have hsplit:bs.take (vS bs q r).2.2.at_=bs.take r.at_++(bs.drop r.at_).take ((vS bs q r).2.2.at_ - r.at_):=by
      rw [← List.take_add];congr 1;omega
     rw [hsplit];congr 1;have hlen:=congrArg List.length s5;rw [List.length_drop,List.length_append,List.length_drop] at hlen;rw [s5,List.take_append_of_le_length (by omega),List.take_of_length_le (by omega)]
    obtain ⟨g1,g2,g3,g4,g5⟩:=ih _ _ _ q' s1 s2 (by simp [hp,s3]) a3 a2 (by omega) htake h
    exact ⟨g1,g2,by omega,g4,g5⟩
   ·rw [if_pos h0] at h;cases h
  ·rw [jLK hl] at h
   obtain ⟨rfl,h2⟩:=hend q ps q' hp h
   rw [List.take_of_length_le (by omega)] at ht
   exact ⟨hW,hN,Nat.le_refl _,ht,h2⟩
theorem jPN:∀(l:List Int) (i m:Nat),i+m≤inRow i l→m≤l.length∧∀j (h:j<l.length),j<m→l[j]=((i+j:Nat):Int)+1:=by
 intro l;induction l with
 | nil=>intro i m h;rw [inRow] at h;exact ⟨by simp;omega,fun j h=>(by simp at h)⟩
 | cons s l ih =>
  intro i m h
  rw [inRow] at h
  split at h
  ·rename_i hs
   cases m with
   | zero=>exact ⟨by simp,fun j _ hj=>(by omega)⟩
   | succ m =>
    obtain ⟨h1,h2⟩:=ih (i+1) m (by omega)
    refine ⟨by rw [List.length_cons];omega,fun j hj hjm=>?_⟩
    cases j with
    | zero=>simp [hs]
    | succ j=>simp only [List.getElem_cons_succ];rw [h2 j (by simpa using hj) (by omega)];congr 2;omega
  ·exact ⟨by simp;omega,fun j _ hj=>by omega⟩
theorem jFR {bs:List UInt8} {q:Pool} (h:(qF bs).1=some q):Wf q∧tI q∧inP q q.length=true∧uG q q.length=bs∧bs.length≤4096:=by
 unfold qF at h;split at h
 ·cases h
 ·split at h
  ·cases h
  ·rename_i h1 h2;obtain ⟨g1,g2,_,g4,g5⟩:=jRI bs.length [] ⟨0,0,0⟩ [] q Wf.nil tI.nil rfl rfl (Nat.zero_le _) (Nat.le_refl _) (by simp [jEQ,textFrom]) h;have hpos:0<q.length:=by
    rcases Nat.eq_zero_or_pos q.length with e | e
    ·rw [e,jEQ,textFrom] at g4;rw [g4] at h2;simp at h2
    ·exact e
   have hin:inP q q.length=true:=vA.2 ⟨by omega,by omega⟩;obtain ⟨k1,k2⟩:=jPN (subs q q.length) 0 q.length (by omega);have hfew:=jAI g1 q.length;have hs:subs q q.length=jEQ q.length:=by
    refine List.ext_getElem (by rw [jDU];omega) (fun j h1 h2=>?_);rw [k2 j h1 (by rw [jDU] at h2;exact h2),jRP];simp
   refine ⟨g1,g2,hin,?_,by omega⟩;unfold uG;rw [hs];exact g4.symm
theorem jUT {L:Pool} (h:Wf L) (bs:List UInt8):Wf (jHC L bs).2.2.2:=by
 unfold jHC;cases hq:(qF bs).1 with
 | none=>exact h
 | some q =>
  obtain ⟨g1,_,g3,_⟩:=jFR hq
  by_cases h0:(yU L q q.length).2.1=0
  ·exact (jSH h g1 g3 h0).1
  ·simp only;rw [((jPW h g1 _).resolve_left h0).2];exact h
theorem jMQ {bs:List UInt8} (h:(qF bs).1=none):(qF bs).2.1≠0:=by
 have hend:∀(q:Pool) (ps:List Nat),(jDJ q ps).1=none→(jDJ q ps).2.1≠0:=by
  intro q ps h;unfold jDJ at h ⊢;simp only at h ⊢;split at h
  ·rename_i hh;rw [dif_pos hh];show (73:Int)≠0;decide
  ·cases h
 have hgo:∀(bs:List UInt8) (fuel:Nat) (q:Pool) (r:Rd) (ps:List Nat),(jJZ bs fuel q r ps).1=none→(jJZ bs fuel q r ps).2.1≠0:=by
  intro bs fuel;induction fuel with
  | zero=>intro q r ps h;exact hend _ _ h
  | succ fuel ih =>
   intro q r ps h
   rw [jJZ] at h ⊢
   split at h
   ·rename_i h1
    rw [if_pos h1]
    split at h
    ·rename_i h2;rw [if_pos h2];exact h2
    ·rename_i h2;rw [if_neg h2];exact ih _ _ _ h
   ·rename_i h1;rw [if_neg h1];exact hend _ _ h
 unfold qF at h ⊢;split at h
 ·rename_i h1;rw [if_pos h1];decide
 ·rename_i h1;rw [if_neg h1];split at h
  ·rename_i h2;rw [if_pos h2];decide
  ·rename_i h2;rw [if_neg h2];exact hgo _ _ _ _ _ h
theorem jOU {bs:List UInt8} {q:Pool} (h:(qF bs).1=some q):(qF bs).2.1=0:=by
 have hend:∀(q:Pool) (ps:List Nat) (x:Pool),(jDJ q ps).1=some x→(jDJ q ps).2.1=0:=by
  intro q ps x h;unfold jDJ at h ⊢;simp only at h ⊢;split at h
  ·cases h
  ·rename_i hh;rw [dif_neg hh]
 have hgo:∀(fuel:Nat) (q:Pool) (r:Rd) (ps:List Nat) (x:Pool),(jJZ bs fuel q r ps).1=some x→(jJZ bs fuel q r ps).2.1=0:=by
  intro fuel;induction fuel with
  | zero=>intro q r ps x h;exact hend _ _ _ h
  | succ fuel ih =>
   intro q r ps x h
   rw [jJZ] at h ⊢
   split at h
   ·rename_i h1
    rw [if_pos h1]
    split at h
    ·cases h
    ·rename_i h2;rw [if_neg h2];exact ih _ _ _ _ h
   ·rename_i h1;rw [if_neg h1];exact hend _ _ _ h
 unfold qF at h ⊢;split at h
 ·cases h
 ·rename_i h1;rw [if_neg h1];split at h
  ·cases h
  ·rename_i h2;rw [if_neg h2];exact hgo _ _ _ _ _ h
end Go.Sp
end
section
open Go Go.SE
namespace Go.Proofs
open Tryz
attribute [local irreducible] Calls CallsD
def Raw.cells (k:Nat) (x:Raw):List Value:=[.int .i64 k,.int .i64 0,.int .i64 0,.int .u64 x.num,.string ⟨x.text.toArray⟩,.int .i64 0,.int .i64 0,.int .u64 x.frm,.int .u64 x.to,.int .u64 x.a,.int .u64 x.b,.int .i64 x.kids]
theorem jOD (bs:List UInt8) (r:Rd) (k:Nat) (x:Raw) (f:Fld):f.upd bs r (x.cells k)=(f.raw bs r x).cells k:=by cases f <;> rfl
theorem jMT (bs:List UInt8):∀(l1 l2:List Fld) (s:Raw×Rd),qD bs (l1++l2) s=qD bs l2 (qD bs l1 s):=by
 intro l1;induction l1 with
 | nil=>intro l2 s;rfl
 | cons f l1 ih=>intro l2 s;obtain ⟨x,r⟩:=s;rw [List.cons_append,qD,qD,ih]
theorem jKA (bs:List UInt8) (fs:List Fld) (j:Nat) (hj:j<fs.length) (s:Raw×Rd):qD bs (fs.take (j+1)) s=(fs[j].raw bs (qD bs (fs.take j) s).2 (qD bs (fs.take j) s).1,fs[j].rd bs (qD bs (fs.take j) s).2):=by
 rw [List.take_succ_eq_append_getElem hj,jMT];obtain ⟨x,r⟩:=qD bs (fs.take j) s;rfl
theorem jSL (f:Fld):∀args w,(callFunc f.get args).run prog w=.ok (.enter f.get args) w:=by
 cases f
 ·exact call184
 ·exact call187
 ·exact call189
 ·exact call192
 ·exact call195
 ·exact call197
structure StAt (w:World) (q a:Addr) (s:Sl) (bs:List UInt8) (L:Sp.Pool) (r:Rd) (m:Nat) (S FP F:NP):Prop where
 pool:zO w q L FP
 rd:RdS S w a s bs r
 kinds:Kinds w m F
 lS:∀b,S b→b<w.heap.size
 la:a.block<w.heap.size
 dP:∀b,FP b→b≠a.block∧¬ S b∧¬ F b∧b≠m
 dF:∀b,F b→b≠a.block∧¬ S b
 dm:m≠a.block∧¬ S m
theorem StAt.ext {w w':World} {q a:Addr} {s:Sl} {bs:List UInt8} {L:Sp.Pool} {r:Rd} {m:Nat} {S FP F G:NP} (h:StAt w q a s bs L r m S FP F) (E:Ext G w w') (hG:∀b,b<w.heap.size→¬ G b):StAt w' q a s bs L r m S FP F :=
 ⟨h.pool.ext E (fun b hb=>hG b (h.pool.lt hb)),h.rd.ext E (fun b hb=>hG b (h.lS b hb)) (hG _ h.la),h.kinds.ext E (fun b hb=>hG b (hb.elim (h.kinds.lt b) (fun e=>e▸h.kinds.mlt))),fun b hb=>Nat.lt_of_lt_of_le (h.lS b hb) E.size,Nat.lt_of_lt_of_le h.la E.size,h.dP,h.dF,h.dm⟩
theorem StAt.pure {w w':World} {q a:Addr} {s:Sl} {bs:List UInt8} {L:Sp.Pool} {r:Rd} {m:Nat} {S FP F:NP} (h:StAt w q a s bs L r m S FP F) (E:Pure w w'):StAt w' q a s bs L r m S FP F:=h.ext E (fun _ _ h=>h)
theorem jJP {n:Nat} (h:n<9223372036854775808):IntKind.i64.wrap (n:Int)=(n:Int):=IntWalk.i64_in _ (by omega)
theorem jBG (n:Nat):s_Q (n:Int)=if 2147483647<n then -1 else (n:Int):=by
 unfold s_Q;by_cases h:2147483647<n
 ·rw [if_pos h,show decide ((n:Int)>2147483647)=true by simp;omega];rfl
 ·rw [if_neg h,show decide ((n:Int)>2147483647)=false by simp;omega];exact jJP (by omega)
theorem jMG (k f t:Nat) (u:Int) (x:ByteArray) (a b:Int):s_T (k:Int) (s_Q (f:Int)) (s_Q (t:Int)) u x a b=if 16≤f∨16≤t∨((k=8∨k=9)∧f=t) then 50 else 0:=by
 unfold s_T;rw [jBG,jBG];have key:((((decide ((if 2147483647<f then -1 else (f:Int))<0) || decide ((if 2147483647<f then -1 else (f:Int))≥16)) || decide ((if 2147483647<t then -1 else (t:Int))<0)) || decide ((if 2147483647<t then -1 else (t:Int))≥16)) || ((((k:Int) == 8) || ((k:Int) == 9)) && ((if 2147483647<f then -1 else (f:Int)) == (if 2147483647<t then -1 else (t:Int)))))=decide (16≤f∨16≤t∨((k=8∨k=9)∧f=t)):=by
  rw [Bool.eq_iff_iff];simp only [Bool.or_eq_true,Bool.and_eq_true,decide_eq_true_eq,beq_iff_eq];by_cases h1:2147483647<f
  ·rw [if_pos h1];exact ⟨fun _=>.inl (by omega),fun _=>.inl (.inl (.inl (.inl (by omega))))⟩
  ·by_cases h2:2147483647<t
   ·rw [if_pos h2];exact ⟨fun _=>.inr (.inl (by omega)),fun _=>.inl (.inl (.inr (by omega)))⟩
   ·rw [if_neg h1,if_neg h2];omega
 rw [key];by_cases h:16≤f∨16≤t∨((k=8∨k=9)∧f=t)
 ·rw [decide_eq_true h,if_pos h];rfl
 ·rw [decide_eq_false h,if_neg h];rfl
theorem jGL {w:World} {p:Addr} {n:Sp.Node} {cs:List Value} {T:TypeId} (h:Box w p (xC n++cs) T):Row w p (xC n):=fun i hi=>by
 have:=h.row i (by rw [List.length_append];omega);rw [List.getElem?_append_left hi] at this;exact this
theorem c_sub4 (q a:Addr) (s:Sl) (bs:List UInt8) (r:Rd) (m:Nat) {S FP F:NP} {L:Sp.Pool} (p:Addr) (n:Sp.Node) (cs:List Value) {w:World} (h:StAt w q a s bs L r m S FP F) (hok:Sp.Ok L) (hB:Box w p (xC n++cs) 253) (hp:¬ FP p.block) (K:Int→WP)
  (hK:∀x w',x=(if (Sp.find L n).isSome=true then 72 else (Sp.make L n).2.1)→(∃F',zO w' q (if (Sp.find L n).isSome=true then L else (Sp.make L n).2.2) F'∧RdS S w' a s bs r∧Ext FP w w'∧∀b,F' b→FP b∨w.heap.size≤b)→K x w') :
  m_H_j4 (some q) p None w K:=by
 unfold m_H_j4
 refine ⟨n.kind,n.frm,n.to,n.num,n.text,n.a,n.b,jGL hB,?_⟩
 refine (c_Has q n w h.pool hok).mono ?_
 rintro _ w1 ⟨x,ok,rfl,hf,E1⟩
 refine ⟨_,_,rfl,E1.keptP,fun hok1=>?_,fun hok1=>?_⟩
 ·have : (Sp.find L n).isSome = true := by
   cases hn:Sp.find L n with
   | some i=>rfl
   | none=>rw [hn] at hf;simp only at hf;rw [hf.2] at hok1;cases hok1
  rw [if_pos this,if_pos this] at hK
  exact hK _ _ rfl ⟨FP,h.pool.pure E1,h.rd.pure E1,Ext.pure E1,fun b hb=>.inl hb⟩
 ·have : ¬ (Sp.find L n).isSome = true := by
   cases hn:Sp.find L n with
   | some i=>rw [hn] at hf;simp only at hf;rw [hf.2] at hok1;cases hok1
   | none=>simp
  rw [if_neg this,if_neg this] at hK
  refine ⟨n.kind,n.frm,n.to,n.num,n.text,n.a,n.b,jGL (hB.pure E1),?_⟩
  refine (jJL q n.kind n.frm n.to n.num n.text n.a n.b w1 (h.pool.pure E1) hok).mono ?_
  rintro _ w2 ⟨x1,x2,rfl,he,F',hP,E2,hF'⟩
  have he2:=congrArg Prod.snd he
  simp only at he2
  refine ⟨x1,x2,rfl,E2.kept (fun b hb=>hb.elim),hK _ _ he2 ⟨F',hP,(h.rd.pure E1).ext E2 (fun b hb hh=>(h.dP b hh).2.1 hb) (fun hh=>(h.dP _ hh).1 rfl),(Ext.pure E1).trans E2,fun b hb=>(hF' b hb).elim .inl (fun hb=>.inr (by have:=E1.size;omega))⟩⟩
theorem jUD (k:Nat) (x:Raw):(((x.cells k).set 1 (.int .i64 (s_Q x.frm))).set 2 (.int .i64 (s_Q x.to)))=xC ⟨k,s_Q x.frm,s_Q x.to,x.num,⟨x.text.toArray⟩,0,0⟩++[.int .u64 x.frm,.int .u64 x.to,.int .u64 x.a,.int .u64 x.b,.int .i64 x.kids]:=rfl
theorem jRK (n:Sp.Node) (cs:List Value) (v:Int):(xC n++cs).set 5 (.int .i64 v)=xC { n with a:=v }++cs:=rfl
theorem jRJ (n:Sp.Node) (cs:List Value) (v:Int):(xC n++cs).set 6 (.int .i64 v)=xC { n with b:=v }++cs:=rfl
theorem c_sub3 (q a:Addr) (s:Sl) (bs:List UInt8) (r:Rd) (m:Nat) {S FP F:NP} {L:Sp.Pool} (p:Addr) (k:Nat) (x:Raw) {w:World} (h:StAt w q a s bs L r m S FP F) (hok:Sp.Ok L)
  (h1:x.frm<16) (h2:x.to<16) (ha:0<x.kids→x.a<L.length) (hb:1<x.kids→x.b<L.length)
  (hB:Box w p (xC ⟨k,s_Q x.frm,s_Q x.to,x.num,⟨x.text.toArray⟩,0,0⟩++[.int .u64 x.frm,.int .u64 x.to,.int .u64 x.a,.int .u64 x.b,.int .i64 x.kids]) 253) (hpS:p.block≠a.block∧¬ S p.block∧¬ FP p.block∧¬ F p.block∧p.block≠m) (K:Int→WP)
  (hK:∀y w',y=(if (Sp.find L (x.node k)).isSome=true then 72 else (Sp.make L (x.node k)).2.1)→(∃F',zO w' q (if (Sp.find L (x.node k)).isSome=true then L else (Sp.make L (x.node k)).2.2) F'∧RdS S w' a s bs r∧Ext (fun b=>FP b∨b=p.block) w w'∧∀b,F' b→FP b∨w.heap.size≤b)→K y w') :
  m_H_j2 (some q) p false None w K:=by
 have hok2:=hok.few
 have fs:s_Q (x.frm:Int)=(x.frm:Int):=by rw [jBG,if_neg (by omega)]
 have ts:s_Q (x.to:Int)=(x.to:Int):=by rw [jBG,if_neg (by omega)]
 rw [fs,ts] at hB
 have st5:∀{w w':World} {i:Nat} {v:Value},StAt w q a s bs L r m S FP F→w'=w.setCell (p.add i) v→StAt w' q a s bs L r m S FP F∧Ext (·=p.block) w w':=fun {w w' i v} h e=>by
  have E:Ext (·=p.block) w w':=by rw [e];exact qP
  refine ⟨⟨h.pool.ext E (fun b hb e=>hpS.2.2.1 (e▸hb)),h.rd.ext E (fun b hb e=>hpS.2.1 (e▸hb)) (fun e=>hpS.1 e.symm),h.kinds.ext E (fun b hb e=>hb.elim (fun hb=>hpS.2.2.2.1 (e▸hb)) (fun hb=>hpS.2.2.2.2 (e.symm.trans hb))),fun b hb=>Nat.lt_of_lt_of_le (h.lS b hb) E.size,Nat.lt_of_lt_of_le h.la E.size,h.dP,h.dF,h.dm⟩,E⟩
 have wr:∀n:Nat,n<L.length→IntKind.i64.wrap (IntKind.u64.wrap ((n:Int)+1))=(n:Int)+1:=fun n hn=>by
  rw [show (n:Int)+1=((n+1:Nat):Int) by omega,vV (by omega),jJP (by omega)]
 have fin : ∀ (va vb : Int) (w1 : World), StAt w1 q a s bs L r m S FP F → Box w1 p (xC ⟨k, x.frm, x.to, x.num, ⟨x.text.toArray⟩, va, vb⟩ ++ [.int .u64 x.frm, .int .u64 x.to, .int .u64 x.a, .int .u64 x.b, .int .i64 x.kids]) 253 → Ext (· = p.block) w w1 →
   va=(if 0<x.kids then (x.a:Int)+1 else 0)→vb=(if 1<x.kids then (x.b:Int)+1 else 0)→m_H_j4 (some q) p None w1 K:=by
  intro va vb w1 h1 hB1 E1 hva hvb
  have hn:(⟨k,x.frm,x.to,x.num,⟨x.text.toArray⟩,va,vb⟩:Sp.Node)=x.node k:=by subst hva hvb;rfl
  rw [hn] at hB1
  refine c_sub4 q a s bs r m p (x.node k) _ h1 hok hB1 hpS.2.2.1 K (fun y w' hy ⟨F',g1,g2,g3,g4⟩=>hK y w' hy ⟨F',g1,g2,(E1.mono (fun b _ h=>.inr h)).trans (g3.mono (fun b _ h=>.inl h)),fun b hb=>(g4 b hb).imp id (fun h=>by have:=E1.size;omega)⟩)
 unfold m_H_j2
 refine ⟨fun hc=>(by cases hc),fun _=>⟨x.kids,hB.cell (i:=11) rfl,?_⟩⟩
 have j3 : ∀ (va : Int) (w1 : World), StAt w1 q a s bs L r m S FP F → Box w1 p (xC ⟨k, x.frm, x.to, x.num, ⟨x.text.toArray⟩, va, 0⟩ ++ [.int .u64 x.frm, .int .u64 x.to, .int .u64 x.a, .int .u64 x.b, .int .i64 x.kids]) 253 → Ext (· = p.block) w w1 →
   va=(if 0<x.kids then (x.a:Int)+1 else 0)→m_H_j3 (some q) p None w1 K:=by
  intro va w1 h1 hB1 E1 hva
  unfold m_H_j3
  refine ⟨x.kids,hB1.cell (i:=11) rfl,fun hc=>?_,fun hc=>?_⟩
  ·have hc:1<x.kids:=by have:=of_decide_eq_true hc;omega
   refine ⟨x.b,hB1.cell (i:=10) rfl,hB1.canW (i:=6) (by simp [xC]),id,?_⟩
   rintro w2 e2
   obtain ⟨h2,E2⟩:=st5 h1 e2
   have hB2:=hB1.set 6 (.int .i64 (IntKind.i64.wrap (IntKind.u64.wrap ((x.b:Int)+1))))
   rw [← e2,jRJ,wr _ (hb hc)] at hB2
   exact fin va _ w2 h2 hB2 (E1.trans E2) hva (by rw [if_pos hc])
  ·have hc:¬ 1<x.kids:=by have:=of_decide_eq_false hc;omega
   exact fin va 0 w1 h1 hB1 E1 hva (by rw [if_neg hc])
 refine ⟨fun hc=>?_,fun hc=>?_⟩
 ·have hc:0<x.kids:=by have:=of_decide_eq_true hc;omega
  refine ⟨x.a,hB.cell (i:=9) rfl,hB.canW (i:=5) (by simp [xC]),id,?_⟩
  rintro w2 e2
  obtain ⟨h2,E2⟩:=st5 h e2
  have hB2:=hB.set 5 (.int .i64 (IntKind.i64.wrap (IntKind.u64.wrap ((x.a:Int)+1))))
  rw [← e2,jRK,wr _ (ha hc)] at hB2
  exact j3 _ w2 h2 hB2 E2 (by rw [if_pos hc])
 ·have hc:¬ 0<x.kids:=by have:=of_decide_eq_false hc;omega
  exact j3 0 w h hB (Ext.refl _) (by rw [if_neg hc])
theorem jQB (q a:Addr) (s:Sl) (bs:List UInt8) (r:Rd) (m:Nat) {S FP F:NP} {L:Sp.Pool} {w0:World} (h:StAt w0 q a s bs L r m S FP F) (hok:Sp.Ok L) (hlt:r.at_<bs.length) (he:r.err=0) :
  Calls prog 166 #[.pointer (some q),.pointer (some a),.map (some m)] w0 (fun e w'=>∃y:Int,e=.returned (.int .i64 y)∧(y=(vS bs L r).2.1∧∃F',zO w' q (vS bs L r).1 F'∧RdS S w' a s bs (vS bs L r).2.2∧Ext (fun b=>FP b∨b=a.block) w0 w'∧∀b,F' b→FP b∨w0.heap.size≤b)):=by
 refine w_H (some q) (some a) (some m) w0 (fun y w'=>y=(vS bs L r).2.1∧∃F',zO w' q (vS bs L r).1 F'∧RdS S w' a s bs (vS bs L r).2.2∧Ext (fun b=>FP b∨b=a.block) w0 w'∧∀b,F' b→FP b∨w0.heap.size≤b) ?_
 unfold m_H
 refine (c_Byte a s bs r w0 h.rd (Nat.le_of_lt hlt) h.lS).mono ?_
 rintro _ w1 ⟨_,rfl,rfl,hR1,E1⟩
 refine ⟨_,rfl,E1.kept (fun b hb=>hb.elim),?_⟩
 rw [jBR bs L r hlt he]
 rw [jLL bs r hlt he] at hR1 ⊢
 simp only at hR1 ⊢
 generalize hk:bs[r.at_].toNat=k at *
 have hk256:k<256:=by rw [← hk];exact bs[r.at_].toNat_lt
 have S1:StAt w1 q a s bs L ⟨r.at_+1,0,r.spot⟩ m S FP F:=⟨h.pool.ext E1 (fun b hb e=>(h.dP b hb).1 e),hR1,h.kinds.ext E1 (fun b hb e=>hb.elim (fun hb=>(h.dF b hb).1 e) (fun hb=>h.dm.1 (hb.symm.trans e))),fun b hb=>Nat.lt_of_lt_of_le (h.lS b hb) E1.size,Nat.lt_of_lt_of_le h.la E1.size,h.dP,h.dF,h.dm⟩
 intro p1 w2 n2
 rw [jJP (by omega)] at n2
 have E2:Pure w1 w2:=Ext.new n2
 have S2:=S1.pure E2
 have B2:Box w2 p1 (jAY.cells k) 253:=Box.of_newA n2
 have bp:=n2.at_size
 have z1:=E1.size
 have E02:Ext (·=a.block) w0 w2:=E1.thenPure E2
 refine ⟨k,B2.cell0,?_⟩
 by_cases hkk:jCR k=true
 ·have hk19:1≤k∧k≤9:=by unfold jCR at hkk;simpa using hkk
  obtain ⟨v2,hlook,hLst⟩:=S2.kinds.get (k:Int) (by omega) (by omega) true
  refine ⟨v2,true,hlook,fun hc=>(by cases hc),fun _=>?_⟩
  rw [if_pos hkk]
  generalize hfs:yQ (k:Int)=fs at *
  have hf3:fs.length≤3:=by rw [← hfs];exact jGT _
  have hrat:∀j,(qD bs (fs.take j) (jAY,⟨r.at_+1,0,r.spot⟩)).2.at_≤bs.length:=fun j=>(jHX bs (fs.take j) jAY ⟨r.at_+1,0,r.spot⟩ (by simp only;omega)).2
  refine ⟨fun x1 Hl w=>∃j:Nat,x1=j∧j≤fs.length∧Hl=None∧StAt w q a s bs L (qD bs (fs.take j) (jAY,⟨r.at_+1,0,r.spot⟩)).2 m S FP F∧Box w p1 ((qD bs (fs.take j) (jAY,⟨r.at_+1,0,r.spot⟩)).1.cells k) 253∧Lst F w 2 v2 (fs.map Fld.row)∧Ext (·=a.block) w0 w,fun x1 _=>((fs.length:Int) - x1).toNat,⟨0,rfl,Nat.zero_le _,rfl,S2,B2,hLst,E02⟩,?_⟩
  rintro _ _ wl _ ⟨j,rfl,hj,rfl,hS,hB,hL,hE⟩
  unfold m_H_l1
  have hlen:v2.len=fs.length:=by rw [hL.len,List.length_map]
  have ple:p1.block<wl.heap.size:=hB.lt
  have zE:=hE.size
  have nS:¬ S p1.block:=fun hh=>by have:=h.lS _ hh;omega
  have nF:¬ F p1.block:=fun hh=>by have:=h.kinds.lt _ hh;omega
  have nP:¬ FP p1.block:=fun hh=>by have:=h.pool.lt hh;omega
  have na:p1.block≠a.block:=fun hh=>by have:=h.la;omega
  have nm:p1.block≠m:=fun hh=>by have:=h.kinds.mlt;omega
  refine ⟨fun hc=>?_,fun hc=>?_⟩
  ·have hc:=uY hlen hc
   obtain ⟨a1,hat,_,hrow⟩:=hL.nth hc
   refine ⟨a1,hat,_,_,hrow,?_⟩
   intro p2 w3 n3
   have E3:Pure wl w3:=Ext.new n3
   refine ⟨⟨rfl,fun i hi=>(Box.of_newA n3).canW (by simpa using hi)⟩,id,?_⟩
   rintro w4 e4
   have X4:Ext (·=p2.block) w3 w4:=by rw [e4];exact Ext.storeRow _ _ _
   have B4:Box w4 p2 [.func (.func fs[j].put) #[] #[],.func (.func fs[j].get) #[] #[]] 213:=by rw [e4];exact (Box.of_newA n3).store rfl
   have hp2:=n3.at_size
   have E34:Pure wl w4:=E3.own (by rw [hp2];exact Nat.le_refl _) X4
   have S4:=hS.pure E34
   refine ⟨_,B4.cell (i:=1) rfl,fs[j].get,#[],#[],rfl,jSL fs[j],?_⟩
   refine (c_get fs[j] a p1 s bs _ _ w4 S4.rd (hrat j) S4.lS (hB.pure E34) rfl (fun e=>na e.symm) (fun b hb e=>nS (e▸hb))).mono ?_
   rintro _ w5 ⟨rfl,hR5,hB5,E5⟩
   rw [jOD] at hB5
   have hsn:=jKA bs fs j hc (jAY,⟨r.at_+1,0,r.spot⟩)
   refine ⟨rfl,E5.kept (fun b hb=>hb.elim),⟨j+1,vQ hc (by omega),hc,rfl,?_,?_,?_,?_⟩,by rw [vQ hc (by omega)];exact jES hc⟩
   ·rw [hsn]
    exact ⟨S4.pool.ext E5 (fun b hb e=>e.elim (fun e=>(h.dP b hb).1 e) (fun e=>nP (e▸hb))),hR5,S4.kinds.ext E5 (fun b hb e=>hb.elim (fun hb=>e.elim (fun e=>(h.dF b hb).1 e) (fun e=>nF (e▸hb))) (fun hb=>e.elim (fun e=>h.dm.1 (hb.symm.trans e)) (fun e=>nm (e.symm.trans hb)))),fun b hb=>Nat.lt_of_lt_of_le (S4.lS b hb) E5.size,Nat.lt_of_lt_of_le S4.la E5.size,h.dP,h.dF,h.dm⟩
   ·rw [hsn];exact hB5
   ·exact (hL.pure E34).ext E5 (fun b hb e=>e.elim (fun e=>(h.dF b hb).1 e) (fun e=>nF (e▸hb)))
   ·exact (hE.thenPure E34).trans' E5 (fun i hi e=>e.elim id (fun e=>by omega))
  ·have hc:=tE hlen hj hc
   subst hc
   rw [List.take_length] at hS hB
   have hkd:=(@Sp.jIN bs (k:Int) (by omega) (by omega) ⟨r.at_+1,0,r.spot⟩).1
   rw [hfs] at hkd
   generalize qD bs fs (jAY,⟨r.at_+1,0,r.spot⟩)=st at *
   obtain ⟨x,r'⟩:=st
   simp only at hS hB hkd
   have fin : ∀ (y : Int) (w : World) (F' : NP), zO w q (jCO L k (x, r')).1 F' → RdS S w a s bs (jCO L k (x, r')).2.2 → Ext (fun b => FP b ∨ b = a.block) w0 w → (∀ b, F' b → FP b ∨ w0.heap.size ≤ b) → y = (jCO L k (x, r')).2.1 →
     y=(jCO L k (x,r')).2.1∧∃F',zO w q (jCO L k (x,r')).1 F'∧RdS S w a s bs (jCO L k (x,r')).2.2∧Ext (fun b=>FP b∨b=a.block) w0 w∧∀b,F' b→FP b∨w0.heap.size≤b:=fun y w F' a1 a2 a3 a4 a5=>⟨a5,F',a1,a2,a3,a4⟩
   have hEo:Ext (fun b=>FP b∨b=a.block) w0 wl:=hE.mono (fun b _ h=>.inr h)
   have bad:∀(e:Nat) (w:World),nodeErr k L.length x r'.err=e→e≠0→Ext (·=p1.block) wl w→(((e:Nat):Int)=(jCO L k (x,r')).2.1∧∃F',zO w q (jCO L k (x,r')).1 F'∧RdS S w a s bs (jCO L k (x,r')).2.2∧Ext (fun b=>FP b∨b=a.block) w0 w∧∀b,F' b→FP b∨w0.heap.size≤b):=by
    intro e w hne h0 E;have hr:jCO L k (x,r')=(L,(e:Int),r'):=by
     unfold jCO;simp only;rw [if_pos (by rw [hne];exact h0),hne]
    rw [hr];exact ⟨rfl,FP,hS.pool.ext E (fun b hb e=>nP (e▸hb)),hS.rd.ext E (fun b hb e=>nS (e▸hb)) (fun e=>na e.symm),hEo.trans' E (fun i hi e=>by omega),fun b hb=>.inl hb⟩
   refine (c_Why a s bs r' wl hS.rd).mono ?_
   rintro _ w6 ⟨_,_,rfl,rfl,rfl,E6⟩
   have S6:=hS.pure E6
   have B6:=hB.pure E6
   refine ⟨_,_,rfl,E6.keptP,fun hc=>?_,fun hc=>?_⟩
   ·have hc:r'.err≠0:=by have:=bne_iff_ne.1 hc;omega
    exact bad r'.err w6 (by unfold nodeErr;rw [if_pos hc]) hc (Ext.pure E6)
   ·have hc : r'.err = 0 := by
     have:((r'.err:Int) != 0)=false:=hc;simpa using this
    refine ⟨fun w'=>w'.cell? (p1.add 8)=some (.int .u64 x.to),(B6.pure (Ext.drew w6)).cell (i:=8) rfl,?_⟩
    rintro w7 e7
    have E7:Pure w6 w7:=by rw [e7];exact Ext.drew w6
    have B7:=B6.pure E7
    refine ⟨x.frm,B7.cell (i:=7) rfl,x.to,fun w' hw'=>hw',?_⟩
    refine (p_Q (x.frm:Int) w7).mono ?_
    rintro _ w8 ⟨rfl,E8⟩
    have B8:=B7.pure E8
    refine ⟨_,rfl,B8.cell (i:=8) rfl,E8.keptP,?_⟩
    refine (p_Q (x.to:Int) w8).mono ?_
    rintro _ w9 ⟨rfl,E9⟩
    have B9:=B8.pure E9
    refine ⟨_,rfl,B9.cell (i:=8) rfl,E9.keptP,B9.canW (i:=1) (by simp [Raw.cells]),id,?_⟩
    rintro w10 e10
    have X10:Ext (·=p1.block) w9 w10:=by rw [e10];exact qP
    have B10:=B9.set 1 (.int .i64 (s_Q x.frm))
    rw [← e10] at B10
    refine ⟨B10.cell (i:=8) rfl,B10.canW (i:=2) (by simp [Raw.cells]),id,?_⟩
    rintro w11 e11
    have X11:Ext (·=p1.block) w10 w11:=by rw [e11];exact qP
    have B11:=B10.set 2 (.int .i64 (s_Q x.to))
    rw [← e11,jUD] at B11
    have E11:Ext (·=p1.block) wl w11:=((Ext.pure (((E6.trans E7).trans E8).trans E9)).trans X10).trans X11
    have S11:StAt w11 q a s bs L r' m S FP F:=⟨hS.pool.ext E11 (fun b hb e=>nP (e▸hb)),hS.rd.ext E11 (fun b hb e=>nS (e▸hb)) (fun e=>na e.symm),hS.kinds.ext E11 (fun b hb e=>hb.elim (fun hb=>nF (e▸hb)) (fun hb=>nm (e.symm.trans hb))),fun b hb=>Nat.lt_of_lt_of_le (hS.lS b hb) E11.size,Nat.lt_of_lt_of_le hS.la E11.size,h.dP,h.dF,h.dm⟩
    refine ⟨k,s_Q x.frm,s_Q x.to,x.num,⟨x.text.toArray⟩,0,0,jGL B11,?_⟩
    rw [jMG]
    by_cases hnm:16≤x.frm∨16≤x.to∨((k=8∨k=9)∧x.frm=x.to)
    ·rw [if_pos hnm]
     refine ⟨fun _ w12 hs12=>?_,fun hc=>(by cases hc)⟩
     exact bad 50 w12 (by unfold nodeErr;rw [if_neg (by omega),if_pos hnm]) (by decide) (E11.thenPure hs12.ext)
    ·rw [if_neg hnm]
     refine ⟨fun hc=>(by cases hc),fun _ w12 hs12=>?_⟩
     have E12:Pure w11 w12:=hs12.ext
     have S12:=S11.pure E12
     refine (uN q w12 S12.pool).mono ?_
     rintro _ w13 ⟨_,rfl,rfl,rfl⟩
     have B12:=B11.pure E12
     have hLs:=hok.few
     refine ⟨_,rfl,Kept.refl _,x.kids,B12.cell (i:=11) rfl,?_⟩
     rw [vV (by omega)]
     have bad71:((0<x.kids∧L.length≤x.a)∨(1<x.kids∧L.length≤x.b))→((71:Int)=(jCO L k (x,r')).2.1∧∃F',zO w13 q (jCO L k (x,r')).1 F'∧RdS S w13 a s bs (jCO L k (x,r')).2.2∧Ext (fun b=>FP b∨b=a.block) w0 w13∧∀b,F' b→FP b∨w0.heap.size≤b):=fun hh =>
      bad 71 w13 (by unfold nodeErr;rw [if_neg (by omega),if_neg hnm,if_pos hh]) (by decide) (E11.thenPure E12)
     have good:¬ ((0<x.kids∧L.length≤x.a)∨(1<x.kids∧L.length≤x.b))→m_H_j2 (some q) p1 false None w13 (fun y w'=>y=(jCO L k (x,r')).2.1∧∃F',zO w' q (jCO L k (x,r')).1 F'∧RdS S w' a s bs (jCO L k (x,r')).2.2∧Ext (fun b=>FP b∨b=a.block) w0 w'∧∀b,F' b→FP b∨w0.heap.size≤b):=fun hh=>by
      have hr:jCO L k (x,r')=(if (Sp.find L (x.node k)).isSome=true then L else (Sp.make L (x.node k)).2.2,if (Sp.find L (x.node k)).isSome=true then 72 else (Sp.make L (x.node k)).2.1,r'):=by
       have hne:nodeErr k L.length x r'.err=0:=by unfold nodeErr;rw [if_neg (by omega),if_neg hnm,if_neg hh]
       unfold jCO;simp only;rw [if_neg (by rw [hne];simp)];split <;> rfl
      rw [hr];refine c_sub3 q a s bs r' m p1 k x S12 hok (by omega) (by omega) (by omega) (by omega) B12 ⟨na,nS,nP,nF,nm⟩ _ ?_;rintro y w' hy ⟨F',g1,g2,g3,g4⟩;exact ⟨hy,F',g1,g2,(hEo.trans' (E11.thenPure E12) (fun i hi e=>by omega)).trans' g3 (fun i hi e=>e.elim .inl (fun e=>by omega)),fun b hb=>(g4 b hb).imp id (fun hh=>by have:=E11.size;have:=E12.size;omega)⟩
     have j5:∀x3:Bool,x3=decide (0<x.kids∧L.length≤x.a)→m_H_j5 (some q) p1 (L.length:Int) x3 None w13 (fun y w'=>y=(jCO L k (x,r')).2.1∧∃F',zO w' q (jCO L k (x,r')).1 F'∧RdS S w' a s bs (jCO L k (x,r')).2.2∧Ext (fun b=>FP b∨b=a.block) w0 w'∧∀b,F' b→FP b∨w0.heap.size≤b):=by
      intro x3 h3;unfold m_H_j5;refine ⟨fun hc=>?_,fun hc=>?_⟩
      ·rw [hc] at h3;have h3:=of_decide_eq_true h3.symm;unfold m_H_j2;exact ⟨fun _=>bad71 (.inl h3),fun hc=>(by cases hc)⟩
      ·rw [hc] at h3;have h3:=of_decide_eq_false h3.symm;refine ⟨x.kids,B12.cell (i:=11) rfl,fun hc=>?_,fun hc=>?_⟩
       ·have hc:=of_decide_eq_true hc;refine ⟨x.b,B12.cell (i:=10) rfl,?_⟩;rw [vV (by omega)];by_cases hb:L.length≤x.b
        ·rw [decide_eq_true (show (x.b:Int)≥(L.length:Int) by omega)];unfold m_H_j2;exact ⟨fun _=>bad71 (.inr ⟨by omega,hb⟩),fun hc=>(by cases hc)⟩
        ·rw [decide_eq_false (show ¬ (x.b:Int)≥(L.length:Int) by omega)];exact good (by omega)
       ·have hc:=of_decide_eq_false hc;exact good (by omega)
     refine ⟨fun hc=>?_,fun hc=>?_⟩
     ·have hc:=of_decide_eq_true hc
      refine ⟨x.a,B12.cell (i:=9) rfl,j5 _ ?_⟩
      rw [decide_eq_decide];omega
     ·have hc:=of_decide_eq_false hc
      refine j5 _ ?_
      rw [decide_eq_false];omega
 ·have hnk:¬ (1≤(k:Int)∧(k:Int)≤9):=fun hh=>hkk (by unfold jCR;simp;omega)
  refine ⟨_,false,S2.kinds.none (k:Int) hnk,fun _=>?_,fun hc=>(by cases hc)⟩
  rw [if_neg hkk]
  exact ⟨rfl,FP,S2.pool,S2.rd,E02.mono (fun b _ h=>.inr h),fun b hb=>.inl hb⟩
def jQS (w0 w':World) (bs:List UInt8) (x:Option Addr):Prop :=
 (∀q,(qF bs).1=some q→∃p F,x=some p∧zO w' p q F∧∀b,F b→w0.heap.size≤b)∧((qF bs).1=none→x=none)
structure ReAt (w0 w:World) (q a:Addr) (s:Sl) (bs:List UInt8) (L:Sp.Pool) (r:Rd) (m:Nat) (S FP F:NP) (ps:List Nat) (pl:Sl):Prop where
 st:StAt w q a s bs L r m S FP F
 pure:Pure w0 w
 oP:∀b,FP b→w0.heap.size≤b
 oa:w0.heap.size≤a.block
 rows:Rws w 3 1 pl (tmr (ps.map Int.ofNat))
 own:∀b,pl.blk b→w0.heap.size≤b∧¬ FP b∧b≠a.block∧¬ S b∧¬ F b∧b≠m
theorem jNE:∀(l:List Int) (i:Nat) (z:Int),inRow i l=i+l.length→inRow i (l++[z])=if z=((i+l.length:Nat):Int)+1 then i+l.length+1 else i+l.length:=by
 intro l;induction l with
 | nil=>intro i z _;simp only [List.nil_append,inRow,List.length_nil,Nat.add_zero]
 | cons s l ih =>
  intro i z h
  rw [inRow] at h
  rw [List.cons_append,inRow]
  split
  ·rename_i hs
   rw [if_pos hs,List.length_cons] at h
   rw [ih (i+1) z (by omega),List.length_cons]
   rw [show i+1+l.length=i+(l.length+1) by omega]
  ·rename_i hs
   rw [if_neg hs,List.length_cons] at h;omega
theorem jND:∀(l:List Int) (i:Nat) (z:Int) (post:List Int),inRow i l=i+l.length→z≠((i+l.length:Nat):Int)+1→inRow i (l++z :: post)=i+l.length:=by
 intro l;induction l with
 | nil=>intro i z post _ hz;simp only [List.nil_append,inRow,List.length_nil,Nat.add_zero] at *;rw [if_neg hz]
 | cons s l ih =>
  intro i z post h hz
  rw [inRow] at h
  rw [List.cons_append,inRow]
  split
  ·rename_i hs
   rw [if_pos hs,List.length_cons] at h
   rw [List.length_cons] at hz
   rw [ih (i+1) z post (by omega) (by rw [show i+1+l.length=i+(l.length+1) by omega];exact hz),List.length_cons];omega
  ·rename_i hs
   rw [if_neg hs,List.length_cons] at h;omega
theorem c_read {S0:NP} (sb:Sl) (bs:List UInt8) (w0:World) (hs:Lst S0 w0 1 sb (byr bs)) (hz:sb.a=none→sb=Sl.nil) :
  Calls prog 121 #[sb.v] w0 (fun e w'=>∃x:Option Addr,∃y z:Int,e=.returned (.tuple #[.pointer x,.int .i64 y,.int .i64 z])∧(y=(qF bs).2.1∧z=((qF bs).2.2:Int)∧jQS w0 w' bs x∧Pure w0 w')):=by
 refine w_P1 sb w0 (fun x y z w'=>y=(qF bs).2.1∧z=((qF bs).2.2:Int)∧jQS w0 w' bs x∧Pure w0 w') ?_
 unfold m_P1
 have hl:sb.len=bs.length:=by rw [hs.len,vP]
 have bad:∀(e:Int) (n:Nat) (w':World),qF bs=(none,e,n)→Pure w0 w'→e=(qF bs).2.1∧(n:Int)=((qF bs).2.2:Int)∧jQS w0 w' bs none∧Pure w0 w':=fun e n w' h E=>by
  rw [h];exact ⟨rfl,rfl,⟨fun q hq=>(by rw [h] at hq;cases hq),fun _=>rfl⟩,E⟩
 refine ⟨fun hc=>?_,fun hc=>?_⟩
 ·have hc:4096<bs.length:=by have:=of_decide_eq_true hc;omega
  exact bad 1 0 w0 (by unfold qF;rw [if_pos hc]) (Ext.refl _)
 have hc:bs.length≤4096:=by have:=of_decide_eq_false hc;omega
 refine ⟨fun hc2=>?_,fun hc2=>?_⟩
 ·have hc2:bs.length=0:=by have:=beq_iff_eq.1 hc2;omega
  exact bad 3 0 w0 (by unfold qF;rw [if_neg (by omega),if_pos hc2]) (Ext.refl _)
 have hc2:bs.length≠0:=by have:=beq_eq_false_iff_ne.1 hc2;omega
 have htxt:qF bs=jJZ bs bs.length [] ⟨0,0,0⟩ []:=by unfold qF;rw [if_neg (by omega),if_neg hc2]
 refine (jQN w0).mono ?_
 rintro _ w1 ⟨_,rfl,q,rfl,E1,FP0,hP,hFP⟩
 refine ⟨_,rfl,E1.keptP,?_⟩
 refine (c_cNew sb bs w1 (hs.pure E1) hz (by omega)).mono ?_
 rintro _ w2 ⟨_,rfl,a,s,rfl,hR,E2,ha,hsb⟩
 refine ⟨_,rfl,E2.keptP,?_⟩
 refine (jQJ w2).mono ?_
 rintro _ w3 ⟨_,rfl,m,F,rfl,hK,E3,hm,hF⟩
 refine ⟨_,rfl,E3.keptP,?_⟩
 have z1:=E1.size;have z2:=E2.size;have z3:=E3.size
 have la:a.block<w2.heap.size:=hR.box.lt
 have hnil:∀b,¬ Sl.nil.blk b:=fun b hb=>by obtain ⟨a,h,_⟩:=hb;cases h
 have R3:ReAt w0 w3 q a s bs [] ⟨0,0,0⟩ m s.blk FP0 F [] Sl.nil :=
  ⟨⟨(hP.pure E2).pure E3,hR.pure E3,hK,fun b hb=>by have:=hsb b hb;omega,by omega,fun b hb=>by have h1:=hP.lt hb;exact ⟨by omega,fun hh=>by have:=hsb b hh;omega,fun hh=>by have:=hF b hh;omega,by omega⟩,fun b hb=>by have:=hF b hb;exact ⟨by omega,fun hh=>by have:=hsb b hh;omega⟩,by omega,fun hh=>by have:=hsb _ hh;omega⟩,(E1.trans E2).trans E3,hFP,by omega,Rws.nil _ _ _,fun b hb=>(hnil b hb).elim⟩
 refine ⟨fun pl Hl w=>∃(L:Sp.Pool) (r:Rd) (ps:List Nat) (FP:NP) (n:Nat),Hl=None∧ReAt w0 w q a s bs L r m s.blk FP F ps pl∧Sp.Wf L∧ps.length=L.length∧ps.length≤r.at_∧r.at_≤bs.length∧r.err=0∧bs.length - r.at_≤n∧jJZ bs n L r ps=qF bs,fun pl _=>bs.length+1 - pl.len,⟨[],⟨0,0,0⟩,[],FP0,bs.length,rfl,R3,Sp.Wf.nil,rfl,Nat.zero_le _,Nat.zero_le _,rfl,Nat.le_refl _,htxt.symm⟩,?_⟩
 rintro pl _ wl _ ⟨L,r,ps,FP,n,rfl,hRe,hW,hps,hpr,hra,hre,hn,hgo⟩
 unfold m_P1_l1
 have hpl:pl.len=ps.length:=by rw [hRe.rows.len,yX,List.length_map]
 refine (c_Left a s bs r wl hRe.st.rd hra).mono ?_
 rintro _ w4 ⟨_,rfl,rfl,E4⟩
 refine ⟨_,rfl,E4.keptP,fun hc3=>?_,fun hc3=>?_⟩
 ·have hlt:r.at_<bs.length:=by have:=of_decide_eq_true hc3;omega
  obtain ⟨n,rfl⟩:∃k,n=k+1:=⟨n - 1,by omega⟩
  rw [jJZ,if_pos hlt] at hgo
  have S4:=hRe.st.pure E4
  refine (c_At a s bs r w4 S4.rd).mono ?_
  rintro _ _ ⟨_,rfl,rfl,rfl⟩
  refine ⟨_,rfl,Kept.refl _,?_⟩
  refine (jQB q a s bs r m S4 hW.ok hlt hre).mono ?_
  rintro _ w6 ⟨_,rfl,rfl,F',hP6,hR6,E6,hF6⟩
  have z4:=E4.size;have z6:=E6.size
  have E06:Pure w0 w6:=(hRe.pure.trans E4).trans' E6 (fun i hi hh=>hh.elim (fun hh=>by have:=hRe.oP i hh;omega) (fun hh=>by have:=hRe.oa;omega))
  refine ⟨_,rfl,E6.kept (fun b hb=>hb.elim),fun hc4=>?_,fun hc4=>?_⟩
  ·have h0:(vS bs L r).2.1≠0:=bne_iff_ne.1 hc4
   rw [if_pos h0] at hgo
   exact bad _ _ _ hgo.symm E06
  ·have h0:(vS bs L r).2.1=0:=by simpa using hc4
   rw [if_neg (by simpa using h0)] at hgo
   obtain ⟨a1,a2,a3⟩:=jHU bs L r hlt hre h0
   have hw6:Sp.Wf (vS bs L r).1∧(vS bs L r).1.length=L.length+1:=by
    rw [jBR bs L r hlt hre] at h0 ⊢;split at h0
    ·rename_i hk;rw [if_pos hk];obtain ⟨_,_,e3,e4,e5⟩:=jEN h0;rw [e5];simp only;refine ⟨Sp.xQ hW _,?_⟩;have hc:=(Sp.tA e4).2.2;unfold Sp.make at e4 ⊢;simp only [e3] at e4 ⊢;rw [if_neg (by rw [hc];simp)] at e4 ⊢;split at e4
     ·simp at e4
     ·rename_i hf;rw [if_neg hf];simp
    ·simp at h0
   intro p1 w7 n7
   have E7:Pure w6 w7:=Ext.new n7
   have z7:=E7.size
   have R7:Rws w7 3 1 pl (tmr (ps.map Int.ofNat)):=((hRe.rows.pure E4).ext E6 (fun b hb hh=>hh.elim (hRe.own b hb).2.1 (hRe.own b hb).2.2.1)).pure E7
   obtain ⟨s1,w8,hr8,hR8,hE8,hb8⟩:=R7.append (P:=prog) (ty:=50) (c:=1) jCL (Box.of_newA n7).row rfl rfl (by rw [yX,List.length_map];omega) (by rw [yX,List.length_map];simp only [maxLen];omega)
   have hpw:∀b,pl.blk b→b<wl.heap.size:=fun b hb=>hRe.rows.lt hb
   have z8:=hE8.size
   have E08:Pure w0 w8:=(E06.trans E7).trans' hE8 (fun i hi hh=>by have:=(hRe.own i hh).1;omega)
   have hnew:∀b,F' b→¬ pl.blk b:=fun b hb hh=>(hF6 b hb).elim (fun h=>(hRe.own b hh).2.1 h) (fun h=>by have:=hpw b hh;omega)
   have S0:=S4
   have S8:StAt w8 q a s bs (vS bs L r).1 (vS bs L r).2.2 m s.blk F' F:=by
    refine ⟨(hP6.pure E7).ext hE8 hnew,(hR6.pure E7).ext hE8 (fun b hb hh=>(hRe.own b hh).2.2.2.1 hb) (fun hh=>(hRe.own _ hh).2.2.1 rfl),((S0.kinds.ext E6 (fun b hb hh=>?_)).pure E7).ext hE8 (fun b hb hh=>?_),fun b hb=>by have:=S0.lS b hb;omega,by have:=S0.la;omega,fun b hb=>?_,S0.dF,S0.dm⟩
    ·rcases hb with hb | rfl
     ·exact hh.elim (fun hh=>(S0.dP b hh).2.2.1 hb) (fun hh=>(S0.dF b hb).1 hh)
     ·exact hh.elim (fun hh=>(S0.dP _ hh).2.2.2 rfl) (fun hh=>S0.dm.1 hh)
    ·rcases hb with hb | rfl
     ·exact (hRe.own b hh).2.2.2.2.1 hb
     ·exact (hRe.own _ hh).2.2.2.2.2 rfl
    ·rcases hF6 b hb with h | h
     ·exact S0.dP b h
     ·exact ⟨by have:=S0.la;omega,fun hh=>by have:=S0.lS b hh;omega,fun hh=>by have:=S0.kinds.lt b hh;omega,by have:=S0.kinds.mlt;omega⟩
   refine ⟨s1,w8,hr8,hE8.kept (fun b hb=>hb.elim),⟨(vS bs L r).1,(vS bs L r).2.2,ps++[r.at_],F',n,rfl,⟨S8,E08,fun b hb=>(hF6 b hb).elim (hRe.oP b) (fun h=>by have:=hRe.pure.size;omega),hRe.oa,?_,fun b hb=>?_⟩,hw6.1,by rw [List.length_append,List.length_singleton,hw6.2];omega,by rw [List.length_append,List.length_singleton];omega,a2,a3,by omega,hgo⟩,?_⟩
   ·have:tmr ((ps++[r.at_]).map Int.ofNat)=tmr (ps.map Int.ofNat)++[[.int .i64 (r.at_:Int)]]:=by simp [tmr]
    rw [this];exact hR8
   ·rcases hb8 b hb with h | h
    ·have:=hRe.own b h
     exact ⟨this.1,fun hh=>hnew b hh h,this.2.2⟩
    ·have h1:=hRe.pure.size
     exact ⟨by omega,fun hh=>by have:=hP6.lt hh;omega,by have:=S0.la;omega,fun hh=>by have:=S0.lS b hh;omega,fun hh=>by have:=S0.kinds.lt b hh;omega,by have:=S0.kinds.mlt;omega⟩
   ·have h1:s1.len=ps.length+1:=by rw [hR8.len,List.length_append,yX,List.length_map];rfl
    show bs.length+1 - s1.len<bs.length+1 - pl.len
    omega
 ·have hge:¬ r.at_<bs.length:=by have:=of_decide_eq_false hc3;omega
  rw [jLK hge] at hgo
  intro p2 w9 n9
  have E9:Pure w4 w9:=Ext.new n9
  have B9:=Box.of_newA n9
  have b9:=n9.at_size
  refine ⟨B9.canW0 (by simp),id,?_⟩
  rintro w10 e10
  have X10:Ext (·=p2.block) w9 w10:=by rw [e10];exact Ext.setCell _ _
  have B10:Box w10 p2 [.int .i64 0] 3:=by rw [e10];exact B9.set0
  have z4:=E4.size;have z9:=E9.size;have z10:=X10.size
  have E4':Pure wl w10:=(E4.trans E9).own (by omega) X10
  have zw:=hRe.pure.size
  have P10:=hRe.st.pool.pure E4'
  have R10:=hRe.rows.pure E4'
  refine (uN q w10 P10).mono ?_
  rintro _ w10 ⟨_,rfl,rfl,rfl⟩
  refine ⟨_,rfl,Kept.refl _,?_⟩
  refine (jQM q L.length w10).mono ?_
  rintro _ w12 ⟨_,rfl,q2,q3,rfl,Bq2,Bq3,E12⟩
  have z12:=E12.size
  refine ⟨_,rfl,E12.keptP,_,_,rfl,call198,_,_,jKM hW (P10.pure E12) Bq2 Bq3,?_⟩
  have hfew:=Sp.jAI hW L.length
  have hlf:=hW.ok.few
  unfold jDJ at hgo
  simp only at hgo
  generalize hxs:Sp.subs L L.length=xs at *
  have E012:Pure w0 w12:=(hRe.pure.trans E4').trans E12
  have vb:∀b,(b=p2.block∨FP b∨pl.blk b)→w0.heap.size≤b:=fun b hb=>hb.elim (fun h=>by omega) (fun hb=>hb.elim (hRe.oP b) (fun h=>(hRe.own b h).1))
  have dP2:¬ FP p2.block∧¬ pl.blk p2.block:=⟨fun hh=>by have:=hRe.st.pool.lt hh;omega,fun hh=>by have:=hRe.rows.lt hh;omega⟩
  refine ⟨fun pre Y A=>Box A p2 [.int .i64 (pre.length:Int)] 3∧inRow 0 pre=pre.length∧zO A q L FP∧Rws A 3 1 pl (tmr (ps.map Int.ofNat))∧(∀b,(b=p2.block∨FP b∨pl.blk b)→¬ Y b)∧Pure w0 A,
   fun pre Y A=>Box A p2 [.int .i64 (inRow 0 xs:Int)] 3∧zO A q L FP∧Rws A 3 1 pl (tmr (ps.map Int.ofNat))∧(∀b,(b=p2.block∨FP b∨pl.blk b)→¬ Y b)∧Pure w0 A,⟨fun _ _ _ _=>trivial,?_,?_,fun _ _ _ _ _ h=>h.elim⟩,?_,?_,?_⟩
  ·rintro pre Y A Y' A' ⟨g1,g2,g3,g4,g5,g6⟩ hst
   have hv:∀b,(b=p2.block∨FP b∨pl.blk b)→¬ Y' b:=hst.disj (fun b hb=>⟨hb.elim (fun e=>e▸g1.lt) (fun hb=>hb.elim (fun h=>g3.lt h) (fun h=>g4.lt h)),g5 b hb⟩)
   exact ⟨g1.ext hst.ext (hv _ (.inl rfl)),g2,g3.ext hst.ext (fun b hb=>hv b (.inr (.inl hb))),g4.ext hst.ext (fun b hb=>hv b (.inr (.inr hb))),hv,g6.hst hst⟩
  ·rintro pre Y A Y' A' ⟨g1,g3,g4,g5,g6⟩ hst
   have hv:∀b,(b=p2.block∨FP b∨pl.blk b)→¬ Y' b:=hst.disj (fun b hb=>⟨hb.elim (fun e=>e▸g1.lt) (fun hb=>hb.elim (fun h=>g3.lt h) (fun h=>g4.lt h)),g5 b hb⟩)
   exact ⟨g1.ext hst.ext (hv _ (.inl rfl)),g3.ext hst.ext (fun b hb=>hv b (.inr (.inl hb))),g4.ext hst.ext (fun b hb=>hv b (.inr (.inr hb))),hv,g6.hst hst⟩
  ·exact ⟨B10.pure E12,rfl,P10.pure E12,R10.pure E12,fun _ _ h=>h,E012⟩
  ·rintro pre z Y A ⟨g1,g2,g3,g4,g5,g6⟩ hsA ⟨post,hpost⟩
   have hpl2:pre.length<65536:=by have:=congrArg List.length hpost;simp only [List.length_append,List.length_cons] at this;omega
   have hw:IntKind.i64.wrap ((pre.length:Int)+1)=((pre.length+1:Nat):Int):=vQ (n:=pre.length+1) (by omega) (by omega)
   refine ⟨_,g1.cell0,fun hc=>?_,fun hc=>?_⟩
   ·have hc:z≠((pre.length+1:Nat):Int):=by rw [hw] at hc;exact bne_iff_ne.1 hc
    have hst:=jND pre 0 z post (by omega) (by omega)
    rw [← hpost,Nat.zero_add] at hst
    exact ⟨Kept.refl _,by rw [hst];exact g1,g3,g4,g5,g6⟩
   ·have hc:z=((pre.length+1:Nat):Int):=by rw [hw] at hc;simpa using hc
    have hsn:=jNE pre 0 z (by omega)
    rw [if_pos (by omega)] at hsn
    refine ⟨_,g1.cell0,g1.canW0 (by simp),id,?_⟩
    rintro w13 e13
    have X13:Ext (·=p2.block) A w13:=by rw [e13];exact Ext.setCell _ _
    have B13:Box w13 p2 [.int .i64 ((pre++[z]).length:Int)] 3:=by
     rw [e13,List.length_append,List.length_singleton,← hw];exact g1.set0
    exact ⟨X13.kept (fun b hb e=>g5 b (.inl e) hb),B13,by rw [hsn,List.length_append,List.length_singleton];omega,g3.ext X13 (fun b hb e=>dP2.1 (e▸hb)),g4.ext X13 (fun b hb e=>dP2.2 (e▸hb)),g5,g6.trans' X13 (fun i hi e=>by omega)⟩
  ·rintro H1 w14 hs14 _ _ hI
   have hI:Box w14 p2 [.int .i64 (inRow 0 xs:Int)] 3∧zO w14 q L FP∧Rws w14 3 1 pl (tmr (ps.map Int.ofNat))∧(∀b,(b=p2.block∨FP b∨pl.blk b)→¬ H1 b)∧Pure w0 w14:=by
    rcases hI with ⟨g1,g2,g3,g4,g5,g6⟩ | ⟨_,g1,g3,g4,g5,g6⟩
    ·exact ⟨by rw [g2];exact g1,g3,g4,g5,g6⟩
    ·exact ⟨g1,g3,g4,g5,g6⟩
   obtain ⟨g1,g3,g4,g5,g6⟩:=hI
   refine ⟨_,g1.cell0,fun hc=>?_,fun hc=>?_⟩
   ·have hc:=uY hpl hc
    rw [dif_pos hc] at hgo
    intro w15 hs15
    have hv15:∀b,(b=p2.block∨FP b∨pl.blk b)→¬ H1 b:=g5
    have g1':=g1.ext hs15.ext (hv15 _ (.inl rfl))
    have g4':=g4.ext hs15.ext (fun b hb=>hv15 b (.inr (.inr hb)))
    obtain ⟨a1,hat,_,hv5⟩:=jBJ g4'.lst (j:=inRow 0 xs) (by simpa using hc)
    refine ⟨_,g1'.cell0,a1,hat,_,hv5,fun w16 hs16=>?_⟩
    have:=bad _ _ w16 hgo.symm ((g6.hst hs15).hst hs16)
    rw [List.getElem_map]
    exact this
   ·have hc:¬ inRow 0 xs<ps.length:=by have:=of_decide_eq_false hc;omega
    rw [dif_neg hc] at hgo
    intro w17 hs17
    have hF17:zO w17 q L FP:=g3.ext hs17.ext (fun b hb=>g5 b (.inr (.inl hb)))
    rw [← hgo]
    exact ⟨rfl,rfl,⟨fun q' hq'=>by rw [← hgo] at hq';cases hq';exact ⟨q,FP,rfl,hF17,hRe.oP⟩,fun hn=>by rw [← hgo] at hn;cases hn⟩,g6.hst hs17⟩
theorem jQS.pool {w0 w':World} {bs:List UInt8} {x:Option Addr} (h:jQS w0 w' bs x) {q:Sp.Pool} (hq:(qF bs).1=some q):∃p F,x=some p∧zO w' p q F∧∀b,F b→w0.heap.size≤b:=h.1 q hq
end Go.Proofs
end
section
open Go Go.SE
namespace Go.Sp
open Go.Proofs
theorem jGA (Lq:Pool):∀(l1 l2:List Int) (L:Pool) (own:Int→Int),vM Lq (l1++l2) L own=if (vM Lq l1 L own).2.1≠0 then vM Lq l1 L own else vM Lq l2 (vM Lq l1 L own).1 (vM Lq l1 L own).2.2:=by
 intro l1;induction l1 with
 | nil=>intro l2 L own;rw [List.nil_append];exact (if_neg (fun h=>h rfl)).symm
 | cons z l1 ih =>
  intro l2 L own
  obtain ⟨x,e,L',hm⟩:∃x e L',make L { nodeOf Lq z with a:=own (nodeOf Lq z).a,b:=own (nodeOf Lq z).b }=(x,e,L'):=⟨_,_,_,rfl⟩
  rw [List.cons_append,yL Lq z (l1++l2) L own rfl hm,yL Lq z l1 L own rfl hm]
  by_cases he:e≠0
  ·rw [if_pos he,if_pos he,if_pos he]
  ·rw [if_neg he,if_neg he,ih]
theorem jIT (Lq:Pool):∀(l:List Int) (L:Pool) (own:Int→Int),∃M,(vM Lq l L own).1=L++M:=by
 intro l;induction l with
 | nil=>intro L own;exact ⟨[],(List.append_nil L).symm⟩
 | cons z l ih =>
  intro L own
  obtain ⟨x,e,L',hm⟩:∃x e L',make L { nodeOf Lq z with a:=own (nodeOf Lq z).a,b:=own (nodeOf Lq z).b }=(x,e,L'):=⟨_,_,_,rfl⟩
  rw [yL Lq z l L own rfl hm]
  split
  ·exact ⟨[],by simp⟩
  ·obtain ⟨M1,e1⟩:=jAJ L { nodeOf Lq z with a:=own (nodeOf Lq z).a,b:=own (nodeOf Lq z).b }
   rw [hm] at e1
   obtain ⟨M2,e2⟩:=ih L' (fun y=>if y=z then x else own y)
   simp only at e1
   exact ⟨M1++M2,by rw [e2,e1,List.append_assoc]⟩
theorem jPX {Lq:Pool}:∀(l:List Int) (L:Pool) (own:Int→Int),Wf L→Wf (vM Lq l L own).1:=by
 intro l;induction l with
 | nil=>intro L own h;exact h
 | cons z l ih =>
  intro L own h
  obtain ⟨x,e,L',hm⟩:∃x e L',make L { nodeOf Lq z with a:=own (nodeOf Lq z).a,b:=own (nodeOf Lq z).b }=(x,e,L'):=⟨_,_,_,rfl⟩
  have hw:=xQ h { nodeOf Lq z with a:=own (nodeOf Lq z).a,b:=own (nodeOf Lq z).b }
  rw [yL Lq z l L own rfl hm]
  rw [hm] at hw
  split
  ·exact h
  ·exact ih _ _ hw
theorem jKT {Lq:Pool} {l post:List Int} {z:Int} {L:Pool} {own:Int→Int} (h0:(vM Lq l L own).2.1=0) {n:Node} (hn:{ nodeOf Lq z with a:=(vM Lq l L own).2.2 (nodeOf Lq z).a,b:=(vM Lq l L own).2.2 (nodeOf Lq z).b }=n) (he:(make (vM Lq l L own).1 n).2.1≠0) :
  (vM Lq (l++z :: post) L own).2.1=(make (vM Lq l L own).1 n).2.1:=by
 obtain ⟨x,e,L',hm⟩:∃x e L',make (vM Lq l L own).1 n=(x,e,L'):=⟨_,_,_,rfl⟩
 rw [hm] at he ⊢
 rw [jGA,if_neg (by rw [h0];exact fun h=>h rfl),yL Lq z post _ _ hn hm,if_pos he]
theorem jKS {Lq:Pool} {l:List Int} {z:Int} {L:Pool} {own:Int→Int} (h0:(vM Lq l L own).2.1=0) {n:Node} (hn:{ nodeOf Lq z with a:=(vM Lq l L own).2.2 (nodeOf Lq z).a,b:=(vM Lq l L own).2.2 (nodeOf Lq z).b }=n) (he:(make (vM Lq l L own).1 n).2.1=0) :
  vM Lq (l++[z]) L own=((make (vM Lq l L own).1 n).2.2,0,fun x=>if x=z then (make (vM Lq l L own).1 n).1 else (vM Lq l L own).2.2 x):=by
 obtain ⟨x,e,L',hm⟩:∃x e L',make (vM Lq l L own).1 n=(x,e,L'):=⟨_,_,_,rfl⟩
 rw [hm] at he ⊢
 rw [jGA,if_neg (by rw [h0];exact fun h=>h rfl),yL Lq z [] _ _ hn hm,if_neg (fun h=>h he)]
 rfl
end Go.Sp
namespace Go.Proofs
open Tryz
attribute [local irreducible] Calls CallsD
theorem jLS {w:World} {a:Addr} {k:Nat} {v:Value}:Ext (·=a.block) w (w.setCell (a.add k) v):=(Ext.setCell _ _).mono (fun i _ e=>by rw [zP] at e;exact e)
def ownM (M:List (Int×Int)) (x:Int):Int:=(SE.look M x).getD 0
def CoV (p2 p3 p4 p5 p6 p8:Addr) (mb:Nat) (F' FQ:NP) (b:Nat):Prop:=b=p2.block∨b=p3.block∨b=p4.block∨b=p5.block∨b=p6.block∨b=p8.block∨b=mb∨F' b∨FQ b
structure CoB (A:World) (p q p2 p3 p4 p5 p6 p8:Addr) (mb n:Nat):Prop where
 b2:Box A p2 [.pointer (some p)] 29
 b3:Box A p3 [.pointer (some q)] 29
 b4:Box A p4 [.int .i64 0] 23
 b5:Box A p5 [.int .i64 0] 33
 b6:Box A p6 [.int .i64 (n:Int)] 3
 b8:Box A p8 [.map (some mb)] 233
theorem CoB.ext {A A':World} {p q p2 p3 p4 p5 p6 p8:Addr} {mb n:Nat} {F' FQ G:NP} (h:CoB A p q p2 p3 p4 p5 p6 p8 mb n) (E:Ext G A A') (hG:∀b,(b=p2.block∨b=p3.block∨b=p4.block∨b=p5.block∨b=p6.block∨b=p8.block)→¬ G b):CoB A' p q p2 p3 p4 p5 p6 p8 mb n :=
 ⟨h.b2.ext E (hG _ (.inl rfl)),h.b3.ext E (hG _ (.inr (.inl rfl))),h.b4.ext E (hG _ (.inr (.inr (.inl rfl)))),h.b5.ext E (hG _ (.inr (.inr (.inr (.inl rfl))))),h.b6.ext E (hG _ (.inr (.inr (.inr (.inr (.inl rfl)))))),h.b8.ext E (hG _ (.inr (.inr (.inr (.inr (.inr rfl))))))⟩
theorem CoB.pure {A A':World} {p q p2 p3 p4 p5 p6 p8:Addr} {mb n:Nat} (h:CoB A p q p2 p3 p4 p5 p6 p8 mb n) (E:Pure A A'):CoB A' p q p2 p3 p4 p5 p6 p8 mb n:=h.ext (F':=None) (FQ:=None) E (fun _ _ h=>h)
theorem CoB.lt {A:World} {p q p2 p3 p4 p5 p6 p8:Addr} {mb n b:Nat} (h:CoB A p q p2 p3 p4 p5 p6 p8 mb n) (hb:b=p2.block∨b=p3.block∨b=p4.block∨b=p5.block∨b=p6.block∨b=p8.block):b<A.heap.size:=by
 rcases hb with rfl | rfl | rfl | rfl | rfl | rfl
 ·exact h.b2.lt
 ·exact h.b3.lt
 ·exact h.b4.lt
 ·exact h.b5.lt
 ·exact h.b6.lt
 ·exact h.b8.lt
theorem c_Copy (p q:Addr) (t:Int) (w0:World) {L Lq:Sp.Pool} {FP FQ:NP} (hW:Sp.Wf L) (hQ:Sp.Wf Lq) (hP:zO w0 p L FP) (hPQ:zO w0 q Lq FQ) (hd:∀b,FP b→¬ FQ b) :
  Calls prog 122 #[.pointer (some p),.pointer (some q),.int .i64 t] w0 (fun e w'=>∃r1 r2:Int,e=.returned (.tuple #[.int .i64 r1,.int .i64 r2])∧(r1=(yU L Lq t).1∧r2=(yU L Lq t).2.1∧∃F',zO w' p (yU L Lq t).2.2 F'∧Ext FP w0 w'∧∀b,F' b→FP b∨w0.heap.size≤b)):=by
 refine w_X4 _ _ _ w0 (fun r1 r2 w'=>r1=(yU L Lq t).1∧r2=(yU L Lq t).2.1∧∃F',zO w' p (yU L Lq t).2.2 F'∧Ext FP w0 w'∧∀b,F' b→FP b∨w0.heap.size≤b) ?_
 unfold m_X4
 intro p2 w1 n2 p3 w2 n3 p4 w3 n4 p5 w4 n5
 have E1:Pure w0 w1:=Ext.new n2
 have E2:Pure w1 w2:=Ext.new n3
 have E3:Pure w2 w3:=Ext.new n4
 have E4:Pure w3 w4:=Ext.new n5
 have B2:=(((Box.of_newA n2).pure E2).pure E3).pure E4
 have B3:=((Box.of_newA n3).pure E3).pure E4
 have B4:=(Box.of_newA n4).pure E4
 have B5:=Box.of_newA n5
 have b2:=n2.at_size;have b3:=n3.at_size;have b4:=n4.at_size;have b5:=n5.at_size
 have z1:=E1.size;have z2:=E2.size;have z3:=E3.size;have z4:=E4.size
 have l1:=(Box.of_newA n2).lt;have l2:=(Box.of_newA n3).lt;have l3:=(Box.of_newA n4).lt;have l4:=B5.lt
 have E04:Pure w0 w4:=((E1.trans E2).trans E3).trans E4
 refine ⟨some p,B2.cell0,fun hc=>(by cases hc),fun _=>⟨some q,B3.cell0,?_⟩⟩
 refine (c_in q t w4 (hPQ.pure E04)).mono ?_
 rintro _ _ ⟨_,rfl,rfl,rfl⟩
 refine ⟨_,rfl,Kept.refl _,fun hc=>?_,fun hc=>?_⟩
 ·have hin:Sp.inP Lq t=false:=by simpa using hc
  have e:yU L Lq t=(0,51,L):=by unfold yU;rw [if_neg (by rw [hin];simp)]
  rw [e]
  refine ⟨B4.canW0 (by simp),id,?_⟩
  rintro w8 e8
  have X8:Ext (·=p4.block) w4 w8:=by rw [e8];exact Ext.setCell _ _
  have B48:Box w8 p4 [.int .i64 0] 23:=by rw [e8];exact B4.set0
  have B58:=B5.ext X8 (by omega)
  refine ⟨B58.canW0 (by simp),id,?_⟩
  rintro w9 e9
  have X9:Ext (·=p5.block) w8 w9:=by rw [e9];exact Ext.setCell _ _
  have B59:Box w9 p5 [.int .i64 51] 33:=by rw [e9];exact B58.set0
  have B49:=B48.ext X9 (by omega)
  refine ⟨_,B49.cell0,_,B59.cell0,rfl,rfl,FP,((hP.pure E04).ext X8 (fun b hb e=>by have:=hP.lt hb;omega)).ext X9 (fun b hb e=>by have:=hP.lt hb;omega),Ext.pure ((E04.own (by omega) X8).own (by omega) X9),fun b hb=>.inl hb⟩
 have hin:Sp.inP Lq t=true:=by simpa using hc
 obtain ⟨sl,hsl,hsll⟩:∃v4:Sl,w4.cell? p=some v4.v∧v4.len=L.length:=by
  obtain ⟨s,m,h,_⟩:=hP.pure E04;exact ⟨s,h.box.cell0,by rw [h.rows.len,List.length_map]⟩
 refine ⟨some p,B2.cell0,p,rfl,sl,hsl,?_⟩
 rw [hsll]
 intro p6 w10 n6
 have E10:Pure w4 w10:=Ext.new n6
 have B6:=Box.of_newA n6
 have b6:=n6.at_size
 refine ⟨B6.canW0 (by simp),id,?_⟩
 rintro w11 e11
 have X11:Ext (·=p6.block) w10 w11:=by rw [e11];exact Ext.setCell _ _
 have B6':Box w11 p6 [.int .i64 (L.length:Int)] 3:=by rw [e11];exact B6.set0
 intro p7 w12 n7
 have E12:Pure w11 w12:=Ext.new n7
 have M7:=IMap.of_new (f:=fun i:Int=>.int .i64 i) n7
 have b7:=n7.at_size
 intro p8 w13 n8
 have E13:Pure w12 w13:=Ext.new n8
 have B8:=Box.of_newA n8
 have b8:=n8.at_size
 refine ⟨B8.canW0 (by simp),id,?_⟩
 rintro w14 e14
 have X14:Ext (·=p8.block) w13 w14:=by rw [e14];exact Ext.setCell _ _
 have B8':Box w14 p8 [.map (some p7.block)] 233:=by rw [e14];exact B8.set0
 have z10:=E10.size;have z11:=X11.size;have z12:=E12.size;have z13:=E13.size;have z14:=X14.size
 have l6:=B6'.lt;have l7:=M7.lt;have l8:=B8.lt
 have E07:Pure w0 w14:=((((E04.trans E10).own (by omega) X11).trans E12).trans E13).own (by omega) X14
 have up:∀{T:TypeId} {c:Addr} {vs:List Value},Box w4 c vs T→c.block≠p6.block→c.block≠p8.block→Box w14 c vs T:=fun h h1 h2=>((((h.pure E10).ext X11 h1).pure E12).pure E13).ext X14 h2
 have C14:CoB w14 p q p2 p3 p4 p5 p6 p8 p7.block L.length:=⟨up B2 (by omega) (by omega),up B3 (by omega) (by omega),up B4 (by omega) (by omega),up B5 (by omega) (by omega),((B6'.pure E12).pure E13).ext X14 (by omega),B8'⟩
 have M14:=(M7.pure E13).ext X14 (by omega)
 refine ⟨some q,C14.b3.cell0,?_⟩
 refine (jQM q t w14).mono ?_
 rintro _ w15 ⟨_,rfl,q2,q3,rfl,Bq2,Bq3,E15⟩
 have E015:=E07.trans E15
 have z15:=E15.size
 refine ⟨_,rfl,E15.keptP,_,_,rfl,call198,_,_,jKM hQ (hPQ.pure E015) Bq2 Bq3,?_⟩
 have hfew:=Sp.jAI hQ t
 have hlq:=hQ.ok.few
 have hsub:∀u∈Sp.subs Lq t,Sp.inP Lq u=true:=fun u hu=>jGI hQ hu
 have hnd:=Sp.jCK hQ t
 generalize hcs:yU L Lq t=cs at *
 have hcs':cs=if (vM Lq (Sp.subs Lq t) L (fun _=>0)).2.1≠0 then (0,(vM Lq (Sp.subs Lq t) L (fun _=>0)).2.1,L) else ((vM Lq (Sp.subs Lq t) L (fun _=>0)).2.2 t,0,(vM Lq (Sp.subs Lq t) L (fun _=>0)).1):=by rw [← hcs];unfold yU;rw [if_pos hin]
 have htin:t∈Sp.subs Lq t:=jLE hQ hin
 generalize Sp.subs Lq t=xs at *
 have C15:=C14.pure E15
 have M15:=M14.pure E15
 have o2:w0.heap.size≤p2.block:=by omega
 have o3:w0.heap.size≤p3.block:=by omega
 have o4:w0.heap.size≤p4.block:=by omega
 have o5:w0.heap.size≤p5.block:=by omega
 have o6:w0.heap.size≤p6.block:=by omega
 have o8:w0.heap.size≤p8.block:=by omega
 have om:w0.heap.size≤p7.block:=by omega
 have d45:p4.block≠p5.block:=by omega
 have dm:∀b,(b=p2.block∨b=p3.block∨b=p4.block∨b=p5.block∨b=p6.block∨b=p8.block)→b≠p7.block:=fun b hb=>by rcases hb with rfl | rfl | rfl | rfl | rfl | rfl <;> omega
 have ob:∀b,(b=p2.block∨b=p3.block∨b=p4.block∨b=p5.block∨b=p6.block∨b=p8.block∨b=p7.block)→w0.heap.size≤b∧b<w15.heap.size:=fun b hb=>by rcases hb with rfl | rfl | rfl | rfl | rfl | rfl | rfl <;> omega
 generalize p7.block=mb at *
 clear up B2 B3 B4 B5 B6 B6' B8 B8' M7 M14 C14 n2 n3 n4 n5 n6 n7 n8 X11 X14 E10 E12 E13 e11 e14 Bq2 Bq3 hsl
 have hPq:∀b,FQ b→b<w0.heap.size:=fun b hb=>hPQ.lt hb
 refine ⟨fun pre Y A=>∃(F':NP) (M:List (Int×Int)),(vM Lq pre L (fun _=>0)).2.1=0∧zO A p (vM Lq pre L (fun _=>0)).1 F'∧IMap (fun i:Int=>.int .i64 i) A mb M∧M.map Prod.fst=pre∧(∀x,(vM Lq pre L (fun _=>0)).2.2 x=ownM M x)∧CoB A p q p2 p3 p4 p5 p6 p8 mb L.length∧zO A q Lq FQ∧(∀b,F' b→FP b∨(w0.heap.size≤b∧¬ (b=p2.block∨b=p3.block∨b=p4.block∨b=p5.block∨b=p6.block∨b=p8.block∨b=mb)))∧(∀b,CoV p2 p3 p4 p5 p6 p8 mb F' FQ b→¬ Y b)∧Ext FP w0 A∧w15.heap.size≤A.heap.size,
  fun pre Y A=>∃(F':NP) (e:Int),cs=(0,e,L)∧zO A p L F'∧Box A p4 [.int .i64 0] 23∧Box A p5 [.int .i64 e] 33∧(∀b,F' b→FP b∨w0.heap.size≤b)∧(∀b,(b=p4.block∨b=p5.block∨F' b)→¬ Y b)∧Ext FP w0 A,⟨fun _ _ _ _=>trivial,?_,fun _ _ _ _ _ h=>h.elim,?_⟩,?_,?_,?_,?_⟩
 ·rintro pre Y A Y' A' ⟨F',M,g1,g2,g3,g4,g5,g6,g7,g8,g9,g10,g11⟩ hst
  have hv:∀b,CoV p2 p3 p4 p5 p6 p8 mb F' FQ b→¬ Y' b:=hst.disj (fun b hb=>⟨by
   rcases hb with hb | hb | hb | hb | hb | hb | hb | hb | hb
   ·exact g6.lt (.inl hb)
   ·exact g6.lt (.inr (.inl hb))
   ·exact g6.lt (.inr (.inr (.inl hb)))
   ·exact g6.lt (.inr (.inr (.inr (.inl hb))))
   ·exact g6.lt (.inr (.inr (.inr (.inr (.inl hb)))))
   ·exact g6.lt (.inr (.inr (.inr (.inr (.inr hb)))))
   ·exact hb▸g3.lt
   ·exact g2.lt hb
   ·exact g7.lt hb,g9 b hb⟩)
  exact ⟨F',M,g1,g2.ext hst.ext (fun b hb=>hv b (.inr (.inr (.inr (.inr (.inr (.inr (.inr (.inl hb))))))))),g3.ext hst.ext (hv _ (.inr (.inr (.inr (.inr (.inr (.inr (.inl rfl)))))))),g4,g5,g6.ext (F':=F') (FQ:=FQ) hst.ext (fun b hb=>hv b (by rcases hb with h | h | h | h | h | h <;> simp only [CoV,h,true_or,or_true])),g7.ext hst.ext (fun b hb=>hv b (.inr (.inr (.inr (.inr (.inr (.inr (.inr (.inr hb))))))))),g8,hv,g10.hst hst,Nat.le_trans g11 hst.ext.size⟩
 ·rintro pre Y A Y' A' ⟨F',e,g1,g2,g3,g4,g5,g6,g7⟩ hst
  have hv:∀b,(b=p4.block∨b=p5.block∨F' b)→¬ Y' b:=hst.disj (fun b hb=>⟨by
   rcases hb with hb | hb | hb
   ·exact hb▸g3.lt
   ·exact hb▸g4.lt
   ·exact g2.lt hb,g6 b hb⟩)
  exact ⟨F',e,g1,g2.ext hst.ext (fun b hb=>hv b (.inr (.inr hb))),g3.ext hst.ext (hv _ (.inl rfl)),g4.ext hst.ext (hv _ (.inr (.inl rfl))),g5,hv,g7.hst hst⟩
 ·exact ⟨FP,[],rfl,hP.pure E015,M15,rfl,fun _=>rfl,C15,hPQ.pure E015,fun b hb=>.inl hb,fun _ _ h=>h,Ext.pure E015,Nat.le_refl _⟩
 ·rintro pre z Y A ⟨F',M,g1,g2,g3,g4,g5,g6,g7,g8,g9,g10,g11⟩ hsA ⟨post,hpost⟩
  have hzin:Sp.inP Lq z=true:=hsub z (by rw [hpost];simp)
  have hzn:z ∉ pre:=by
   rw [hpost] at hnd;have:=(List.nodup_append.1 hnd).2.2;exact fun h=>this z h z (by simp) rfl
  generalize hcg:vM Lq pre L (fun _=>0)=cg at *
  have hok:Sp.Ok cg.1:=by rw [← hcg];exact (Sp.jPX pre L _ hW).ok
  have hA0:=hsA.lt
  refine ⟨some q,g6.b3.cell0,?_⟩
  refine (jJK q z A g7 hQ.ok).mono ?_
  rintro _ w16 ⟨k,f,t',u,x,a,b,r3,rfl,⟨hn,_⟩,E16⟩
  have z16:=E16.size
  refine ⟨_,_,_,_,_,_,_,_,rfl,E16.kept (fun b hb=>hb.elim),?_⟩
  intro p9 w17 n9
  have E17:Pure w16 w17:=Ext.new n9
  have B9:=Box.of_newA n9
  have b9:=n9.at_size
  have z17:=E17.size
  refine ⟨B9.canWs (by simp),id,?_⟩
  rintro w18 e18
  have X18:Ext (·=p9.block) w17 w18:=by rw [e18];exact Ext.storeRow _ _ _
  have B18:Box w18 p9 (xC ⟨k,f,t',u,x,a,b⟩) 103:=by rw [e18];exact B9.store rfl
  have z18:=X18.size
  have l9:=B18.lt
  have keep:∀{G:NP} {w':World},Ext G A w'→(∀b,b<A.heap.size→¬ G b)→IMap (fun i:Int=>.int .i64 i) w' mb M∧CoB w' p q p2 p3 p4 p5 p6 p8 mb L.length∧zO w' q Lq FQ∧zO w' p cg.1 F':=fun {G w'} E hG =>
   ⟨g3.ext E (hG _ g3.lt),g6.ext (F':=F') (FQ:=FQ) E (fun b hb=>hG b (g6.lt hb)),g7.ext E (fun b hb=>hG b (g7.lt hb)),g2.ext E (fun b hb=>hG b (g2.lt hb))⟩
  have E18:Ext (·=p9.block) A w18:=(Ext.pure (E16.trans E17)).trans X18
  have hg9:∀b,b<A.heap.size→¬ (b=p9.block):=fun b hb e=>by omega
  have look:∀{w':World},IMap (fun i:Int=>.int .i64 i) w' mb M→∀y,(Instr.lookup 233 (.map (some mb)) (.int .i64 y) false).run prog w'=.ok (.int .i64 (cg.2.2 y)) w':=fun {w'} h y=>by
   rw [g5 y];rcases h.get (P:=prog) (T:=233) underlying233 underlying23 (zeroValue23 _) y false with ⟨hn,hr⟩ | ⟨v,hv,hr⟩
   ·unfold ownM;rw [hn];exact hr
   ·unfold ownM;rw [hv];exact hr
  refine ⟨fun w'=>w'.cell? p8=some (.map (some mb))∧IMap (fun i:Int=>.int .i64 i) w' mb M,?_,?_⟩
  ·obtain ⟨k1,k2,_,_⟩:=keep (E18.thenPure (Ext.drew w18)) hg9
   exact ⟨k2.b8.cell0,k1⟩
  rintro w19 e19
  have E19:Ext (·=p9.block) A w19:=by rw [e19];exact E18.thenPure (Ext.drew w18)
  have B19:Box w19 p9 (xC ⟨k,f,t',u,x,a,b⟩) 103:=by rw [e19];exact B18.pure (Ext.drew w18)
  obtain ⟨k1,k2,k3,k4⟩:=keep E19 hg9
  refine ⟨some mb,k2.b8.cell0,a,B19.cell (i:=5) rfl,_,look k1 a,some mb,fun w' h=>h.1,b,B19.cell (i:=6) rfl,_,fun w' h=>look h.2 b,B19.canW (i:=5) (by simp [xC]),id,?_⟩
  rintro w20 e20
  have X20:Ext (·=p9.block) w19 w20:=by rw [e20];exact jLS
  have B20:Box w20 p9 (xC ⟨k,f,t',u,x,cg.2.2 a,b⟩) 103:=by rw [e20];exact B19.set 5 _
  have E20:=E19.trans X20
  obtain ⟨k1',k2',_,_⟩:=keep E20 hg9
  refine ⟨⟨k2'.b8.cell0,k1'⟩,B20.canW (i:=6) (by simp [xC]),id,?_⟩
  rintro w21 e21
  have X21:Ext (·=p9.block) w20 w21:=by rw [e21];exact jLS
  have B21:Box w21 p9 (xC ⟨k,f,t',u,x,cg.2.2 a,cg.2.2 b⟩) 103:=by rw [e21];exact B20.set 6 _
  have E21:=E20.trans X21
  obtain ⟨m1,m2,m3,m4⟩:=keep E21 hg9
  have z21:=E21.size
  refine ⟨some p,m2.b2.cell0,k,f,t',u,x,cg.2.2 a,cg.2.2 b,B21.row,?_⟩
  have hnn:({ Sp.nodeOf Lq z with a:=cg.2.2 (Sp.nodeOf Lq z).a,b:=cg.2.2 (Sp.nodeOf Lq z).b }:Sp.Node)=⟨k,f,t',u,x,cg.2.2 a,cg.2.2 b⟩:=by rw [← hn]
  refine (jJL p k f t' u x (cg.2.2 a) (cg.2.2 b) w21 m4 hok).mono ?_
  rintro _ w22 ⟨r4,r5,rfl,he,F2,hP2,E22,hF2⟩
  have he1:=congrArg Prod.fst he
  have he2:=congrArg Prod.snd he
  simp only at he1 he2
  have z22:=E22.size
  have hF'o:∀b,F' b→¬ (b=p2.block∨b=p3.block∨b=p4.block∨b=p5.block∨b=p6.block∨b=p8.block∨b=mb):=fun b hb hh=>(g8 b hb).elim (fun h=>by have:=hP.lt h;have:=(ob b hh).1;omega) (fun h=>h.2 hh)
  have n22:CoB w22 p q p2 p3 p4 p5 p6 p8 mb L.length:=m2.ext (F':=F') (FQ:=FQ) E22 (fun b hb hh=>hF'o b hh (by rcases hb with h | h | h | h | h | h <;> simp only [h,true_or,or_true]))
  have M22:=m1.ext E22 (fun hh=>hF'o _ hh (by simp))
  have Q22:=m3.ext E22 (fun b hb hh=>(g8 b hh).elim (fun h=>hd b h hb) (fun h=>by have:=hPq b hb;omega))
  have kY:Kept Y A w22:=(E21.kept (fun b hb e=>by have:=hA0 b hb;omega)).trans (E22.kept (fun b hb hh=>g9 b (.inr (.inr (.inr (.inr (.inr (.inr (.inr (.inl hh)))))))) hb))
  have E022:Ext FP w0 w22:=(g10.trans' E21 (fun i hi e=>by have:=g10.size;omega)).trans' E22 (fun i hi hh=>(g8 i hh).elim id (fun h=>by omega))
  have hF2o:∀b,F2 b→FP b∨(w0.heap.size≤b∧¬ (b=p2.block∨b=p3.block∨b=p4.block∨b=p5.block∨b=p6.block∨b=p8.block∨b=mb)):=fun b hb=>(hF2 b hb).elim (g8 b) (fun h=>.inr ⟨by have:=g10.size;omega,fun hh=>by have:=(ob b hh).2;omega⟩)
  have hF2Y:∀b,F2 b→¬ Y b:=fun b hb hY=>(hF2 b hb).elim (fun h=>g9 b (.inr (.inr (.inr (.inr (.inr (.inr (.inr (.inl h)))))))) hY) (fun h=>by have:=hA0 b hY;omega)
  refine ⟨r4,r5,rfl,E22.kept (fun b hb=>hb.elim),fun hc=>?_,fun hc=>?_⟩
  ·have h5:(Sp.make cg.1 ⟨k,f,t',u,x,cg.2.2 a,cg.2.2 b⟩).2.1≠0:=by rw [← he2];exact bne_iff_ne.1 hc
   have hfail:=@Sp.jKT Lq pre post z L (fun _=>0) (by rw [hcg];exact g1) ⟨k,f,t',u,x,cg.2.2 a,cg.2.2 b⟩ (by rw [hcg];exact hnn) (by rw [hcg];exact h5)
   rw [← hpost,hcg,← he2] at hfail
   have hcs2:cs=(0,r5,L):=by rw [hcs',hfail,if_pos (by rw [he2];exact h5)]
   refine ⟨some p,n22.b2.cell0,_,n22.b6.cell0,?_⟩
   obtain ⟨Mg,hMg⟩:=Sp.jIT Lq pre L (fun _=>0)
   rw [hcg] at hMg
   have hmk:∃M2,(Sp.make cg.1 ⟨k,f,t',u,x,cg.2.2 a,cg.2.2 b⟩).2.2=cg.1++M2:=Sp.jAJ _ _
   obtain ⟨M2,hM2⟩:=hmk
   rw [hM2,hMg,List.append_assoc] at hP2
   have hok2:Sp.Ok (L++(Mg++M2)):=by rw [← List.append_assoc,← hMg,← hM2];exact Sp.jKH hok _
   refine (c_cut p L.length w22 hP2 hok2 (by rw [List.length_append];omega)).mono ?_
   rintro _ w23 ⟨rfl,hP3,E23⟩
   rw [List.take_left] at hP3
   have n23:CoB w23 p q p2 p3 p4 p5 p6 p8 mb L.length:=n22.ext (F':=F') (FQ:=FQ) E23 (fun b hb hh=>(hF2o b hh).elim (fun h=>by have:=hP.lt h;have:=(ob b (by rcases hb with h | h | h | h | h | h <;> simp only [h,true_or,or_true])).1;omega) (fun h=>h.2 (by rcases hb with h | h | h | h | h | h <;> simp only [h,true_or,or_true])))
   refine ⟨rfl,E23.kept (fun b hb=>hb.elim),n23.b4.canW0 (by simp),id,?_⟩
   rintro w24 e24
   have X24:Ext (·=p4.block) w23 w24:=by rw [e24];exact Ext.setCell _ _
   have B24:Box w24 p4 [.int .i64 0] 23:=by rw [e24];exact n23.b4.set0
   have B25:=n23.b5.ext X24 (fun e=>d45 e.symm)
   refine ⟨B25.canW0 (by simp),id,?_⟩
   rintro w25 e25
   have X25:Ext (·=p5.block) w24 w25:=by rw [e25];exact Ext.setCell _ _
   have B25':Box w25 p5 [.int .i64 r5] 33:=by rw [e25];exact B25.set0
   have nF:∀b,F2 b→b≠p4.block∧b≠p5.block:=fun b hb=>(hF2o b hb).elim (fun h=>by have:=hP.lt h;omega) (fun h=>⟨fun e=>h.2 (.inr (.inr (.inl e))),fun e=>h.2 (.inr (.inr (.inr (.inl e))))⟩)
   have nY4:¬ Y p4.block:=g9 _ (.inr (.inr (.inl rfl)))
   have nY5:¬ Y p5.block:=g9 _ (.inr (.inr (.inr (.inl rfl))))
   refine ⟨((kY.trans (E23.kept (fun b hb hh=>hF2Y b hh hb))).trans (X24.kept (fun b hb e=>nY4 (e▸hb)))).trans (X25.kept (fun b hb e=>nY5 (e▸hb))),F2,r5,hcs2,(hP3.ext X24 (fun b hb e=>(nF b hb).1 e)).ext X25 (fun b hb e=>(nF b hb).2 e),B24.ext X25 d45,B25',fun b hb=>(hF2o b hb).imp id (fun h=>h.1),?_,((E022.trans' E23 (fun i hi hh=>(hF2o i hh).elim id (fun h=>by omega))).trans' X24 (fun i hi e=>by omega)).trans' X25 (fun i hi e=>by omega)⟩
   rintro b (rfl | rfl | hb)
   ·exact nY4
   ·exact nY5
   ·exact hF2Y b hb
  ·have h5:(Sp.make cg.1 ⟨k,f,t',u,x,cg.2.2 a,cg.2.2 b⟩).2.1=0:=by rw [← he2];simpa using hc
   have hnext:=@Sp.jKS Lq pre z L (fun _=>0) (by rw [hcg];exact g1) ⟨k,f,t',u,x,cg.2.2 a,cg.2.2 b⟩ (by rw [hcg];exact hnn) (by rw [hcg];exact h5)
   rw [hcg,← he1] at hnext
   have hlk:SE.look M z=none:=tB.2 (by rw [g4];exact hzn)
   obtain ⟨w26,hr26,hM26,X26⟩:=M22.put (P:=prog) (T:=233) underlying233 underlying23 hlk r4
   have nm:∀b,F2 b→b≠mb:=fun b hb=>(hF2o b hb).elim (fun h=>by have:=hP.lt h;have:=(ob mb (by simp)).1;omega) (fun h e=>h.2 (by simp [e]))
   have nYm:¬ Y mb:=g9 _ (.inr (.inr (.inr (.inr (.inr (.inr (.inl rfl)))))))
   have hmbo:=(ob mb (by simp)).1
   refine ⟨some mb,n22.b8.cell0,w26,hr26,X26.kept (fun b hb=>hb.elim),kY.trans (X26.kept (fun b hb e=>nYm (e▸hb))),F2,M++[(z,r4)],by rw [hnext],by rw [hnext];exact hP2.ext X26 (fun b hb e=>nm b hb e),hM26,by simp [g4],?_,n22.ext (F':=F') (FQ:=FQ) X26 (fun b hb e=>dm b hb e),Q22.ext X26 (fun b hb e=>by have:=hPq b hb;omega),hF2o,?_,E022.trans' X26 (fun i hi e=>by omega),by have:=X26.size;omega⟩
   ·intro y
    rw [hnext]
    simp only
    unfold ownM
    rw [jPH (by rw [g4];exact hzn)]
    by_cases e:y=z
    ·rw [if_pos e,if_pos e.symm];rfl
    ·rw [if_neg e,if_neg (fun h=>e h.symm)];exact g5 y
   ·rintro b (hb | hb | hb | hb | hb | hb | hb | hb | hb)
    ·exact g9 b (.inl hb)
    ·exact g9 b (.inr (.inl hb))
    ·exact g9 b (.inr (.inr (.inl hb)))
    ·exact g9 b (.inr (.inr (.inr (.inl hb))))
    ·exact g9 b (.inr (.inr (.inr (.inr (.inl hb)))))
    ·exact g9 b (.inr (.inr (.inr (.inr (.inr (.inl hb))))))
    ·exact g9 b (.inr (.inr (.inr (.inr (.inr (.inr (.inl hb)))))))
    ·exact hF2Y b hb
    ·exact g9 b (.inr (.inr (.inr (.inr (.inr (.inr (.inr (.inr hb))))))))
 ·rintro H1 w27 hs27 _ _ ⟨F',M,g1,g2,g3,g4,g5,g6,g7,g8,g9,g10,g11⟩
  have hcs2:cs=((vM Lq xs L (fun _=>0)).2.2 t,0,(vM Lq xs L (fun _=>0)).1):=by rw [hcs',if_neg (by simpa using g1)]
  have hlk:(Instr.lookup 233 (.map (some mb)) (.int .i64 t) false).run prog w27=.ok (.int .i64 ((vM Lq xs L (fun _=>0)).2.2 t)) w27:=by
   rw [g5 t];rcases g3.get (P:=prog) (T:=233) underlying233 underlying23 (zeroValue23 _) t false with ⟨hn,hr⟩ | ⟨v,hv,hr⟩
   ·unfold ownM;rw [hn];exact hr
   ·unfold ownM;rw [hv];exact hr
  generalize hcg:vM Lq xs L (fun _=>0)=cg at *
  have nY4:¬ H1 p4.block:=g9 _ (.inr (.inr (.inl rfl)))
  have nY5:¬ H1 p5.block:=g9 _ (.inr (.inr (.inr (.inl rfl))))
  refine ⟨some mb,g6.b8.cell0,_,hlk,g6.b4.canW0 (by simp),nY4,?_⟩
  rintro w28 e28
  have X28:Ext (·=p4.block) w27 w28:=by rw [e28];exact Ext.setCell _ _
  have B28:Box w28 p4 [.int .i64 (cg.2.2 t)] 23:=by rw [e28];exact g6.b4.set0
  have B28':=g6.b5.ext X28 (fun e=>d45 e.symm)
  refine ⟨B28'.canW0 (by simp),nY5,?_⟩
  rintro w29 e29
  have X29:Ext (·=p5.block) w28 w29:=by rw [e29];exact Ext.setCell _ _
  have B29:Box w29 p5 [.int .i64 0] 33:=by rw [e29];exact B28'.set0
  have B29':=B28.ext X29 d45
  intro w30 hs30
  have nF:∀b,F' b→b≠p4.block∧b≠p5.block:=fun b hb=>(g8 b hb).elim (fun h=>by have:=hP.lt h;omega) (fun h=>⟨fun e=>h.2 (.inr (.inr (.inl e))),fun e=>h.2 (.inr (.inr (.inr (.inl e))))⟩)
  refine ⟨_,(B29'.ext hs30.ext nY4).cell0,_,(B29.ext hs30.ext nY5).cell0,?_⟩
  rw [hcs2]
  refine ⟨rfl,rfl,F',((g2.ext X28 (fun b hb e=>(nF b hb).1 e)).ext X29 (fun b hb e=>(nF b hb).2 e)).ext hs30.ext (fun b hb=>g9 b (.inr (.inr (.inr (.inr (.inr (.inr (.inr (.inl hb))))))))),((g10.trans' X28 (fun i hi e=>by omega)).trans' X29 (fun i hi e=>by omega)).hst hs30,fun b hb=>(g8 b hb).imp id (fun h=>h.1)⟩
 ·rintro pre H2 w32 hs32 ⟨F',e,g1,g2,g3,g4,g5,g6,g7⟩
  refine ⟨_,g3.cell0,_,g4.cell0,?_⟩
  rw [g1]
  exact ⟨rfl,rfl,F',g2,g7,g5⟩
end Go.Proofs
end
section
open Go Go.SE
namespace Go.Proofs
open Tryz
attribute [local irreducible] Calls CallsD
theorem jSR {S0:NP} (p:Addr) (sb:Sl) (bs:List UInt8) (w0:World) {L:Sp.Pool} {FP:NP} (hW:Sp.Wf L) (hP:zO w0 p L FP) (hs:Lst S0 w0 1 sb (byr bs)) (hz:sb.a=none→sb=Sl.nil) :
  Calls prog 68 #[.pointer (some p),sb.v] w0 (fun e w'=>∃t x y:Int,e=.returned (.tuple #[.int .i64 t,.int .i64 x,.int .i64 y])∧(t=(jHC L bs).1∧x=(jHC L bs).2.1∧y=((jHC L bs).2.2.1:Int)∧∃F',zO w' p (jHC L bs).2.2.2 F'∧Ext FP w0 w'∧∀b,F' b→FP b∨w0.heap.size≤b)):=by
 refine w_C4 _ _ w0 (fun t x y w'=>t=(jHC L bs).1∧x=(jHC L bs).2.1∧y=((jHC L bs).2.2.1:Int)∧∃F',zO w' p (jHC L bs).2.2.2 F'∧Ext FP w0 w'∧∀b,F' b→FP b∨w0.heap.size≤b) ?_
 unfold m_C4
 refine ⟨fun hc=>(by cases hc),fun _=>?_⟩
 refine (c_read sb bs w0 hs hz).mono ?_
 rintro _ w1 ⟨x,y,z,rfl,hy,hz',hout,E1⟩
 refine ⟨_,_,_,rfl,?_⟩
 cases hq:(qF bs).1 with
 | none =>
  have hd:jHC L bs=(0,(qF bs).2.1,(qF bs).2.2,L):=by unfold jHC;rw [hq]
  have he:y≠0:=by rw [hy];exact Sp.jMQ hq
  refine ⟨fun _=>?_,fun hc=>absurd (by simpa using hc) he⟩
  rw [hd]
  exact ⟨rfl,hy,hz',FP,hP.pure E1,Ext.pure E1,fun b hb=>.inl hb⟩
 | some q =>
  obtain ⟨a,F,rfl,hPq,hF⟩:=hout.pool hq
  obtain ⟨g1,_,g3,_⟩:=Sp.jFR hq
  have h0:=Sp.jOU hq
  have hd:jHC L bs=((yU L q q.length).1,(yU L q q.length).2.1,0,(yU L q q.length).2.2):=by unfold jHC;rw [hq]
  rw [h0] at hy
  refine ⟨fun hc=>absurd hy (by simpa using hc),fun _=>?_⟩
  refine (uN a w1 hPq).mono ?_
  rintro _ w2 ⟨_,rfl,rfl,rfl⟩
  refine ⟨_,rfl,?_⟩
  refine (c_Copy p a q.length w2 hW g1 (hP.pure E1) hPq (fun b hb hh=>by have:=hP.lt hb;have:=hF b hh;omega)).mono ?_
  rintro _ w3 ⟨r1,r2,rfl,h1,h2,F',hP',E3,hF'⟩
  refine ⟨_,_,rfl,?_⟩
  rw [hd]
  exact ⟨h1,h2,rfl,F',hP',(Ext.pure E1).trans E3,fun b hb=>(hF' b hb).imp id (fun h=>by have:=E1.size;omega)⟩
end Go.Proofs
end
section
open Go Go.SE
namespace Go.Sp
open Go.Proofs
end Go.Sp
namespace Go.Proofs
open Tryz
attribute [local irreducible] Calls CallsD
theorem jST {w:World} {s:Sl} {bs:List UInt8} {S:NP} (h:Lst S w 1 s (byr bs)):(convert 54 9 s.v).run prog w=.ok (.string ⟨bs.toArray⟩) w :=
 jOP underlying54 underlying5 underlying9 h
end Go.Proofs
end
section
open Go Go.SE
namespace Go.Proofs
open Tryz
attribute [local irreducible] Calls CallsD
structure RfS (S:NP) (w:World) (a:Addr) (s:Sl) (bs:List UInt8) (r:Rd):Prop where
 box:Box w a [s.v,.int .i64 (r.at_:Int),.int .i64 (r.err:Int),.int .i64 (r.spot:Int)] 237
 lst:Lst S w 1 s (byr bs)
 apart:∀b,S b→b≠a.block
 small:bs.length≤100000000
 room:s.len≤s.cap
section
variable {S:NP} {w w':World} {a:Addr} {s:Sl} {bs:List UInt8} {r:Rd}
theorem RfS.ext {F:NP} (h:RfS S w a s bs r) (E:Ext F w w') (hF:∀b,(b=a.block∨S b)→¬ F b):RfS S w' a s bs r :=
 ⟨h.box.ext E (hF _ (.inl rfl)),h.lst.ext E (fun b hb=>hF b (.inr hb)),h.apart,h.small,h.room⟩
theorem RfS.pure (h:RfS S w a s bs r) (E:Pure w w'):RfS S w' a s bs r:=h.ext E (fun _ _ h=>h)
theorem RfS.atC (h:RfS S w a s bs r):w.cell? (a.add 1)=some (.int .i64 (r.at_:Int)):=h.box.cell (i:=1) rfl
theorem RfS.errC (h:RfS S w a s bs r):w.cell? (a.add 2)=some (.int .i64 (r.err:Int)):=h.box.cell (i:=2) rfl
theorem RfS.len (h:RfS S w a s bs r):s.len=bs.length:=by rw [h.lst.len,vP]
theorem RfS.setAt (h:RfS S w a s bs r) (k:Nat):RfS S (w.setCell (a.add 1) (.int .i64 (k:Int))) a s bs ⟨k,r.err,r.spot⟩ :=
 ⟨h.box.set 1 _,h.lst.ext (Ext.setCell _ _) (fun b hb e=>h.apart b hb (by rw [zP] at e;exact e)),h.apart,h.small,h.room⟩
theorem RfS.setErr (h:RfS S w a s bs r) (k:Nat):RfS S (w.setCell (a.add 2) (.int .i64 (k:Int))) a s bs ⟨r.at_,k,r.spot⟩ :=
 ⟨h.box.set 2 _,h.lst.ext (Ext.setCell _ _) (fun b hb e=>h.apart b hb (by rw [zP] at e;exact e)),h.apart,h.small,h.room⟩
theorem RfS.setSpot (h:RfS S w a s bs r) (k:Nat):RfS S (w.setCell (a.add 3) (.int .i64 (k:Int))) a s bs ⟨r.at_,r.err,k⟩ :=
 ⟨h.box.set 3 _,h.lst.ext (Ext.setCell _ _) (fun b hb e=>h.apart b hb (by rw [zP] at e;exact e)),h.apart,h.small,h.room⟩
end
section
variable {S:NP} (a:Addr) (s:Sl) (bs:List UInt8) (r:Rd) (w0:World)
theorem jUV (h:RfS S w0 a s bs r) (he:r.err=0) (e x:Nat) :
  Calls prog 242 #[.pointer (some a),.int .i64 e,.int .i64 x] w0 (fun en w'=>en=.returned (.tuple #[])∧(RfS S w' a s bs ⟨r.at_,e,x⟩∧Ext (·=a.block) w0 w')):=by
 refine w_D4 (some a) _ _ w0 (fun w'=>RfS S w' a s bs ⟨r.at_,e,x⟩∧Ext (·=a.block) w0 w') ?_
 unfold m_D4
 refine ⟨a,rfl,_,h.errC,fun _=>⟨a,rfl,h.box.canW (i:=2) (by simp),?_⟩,fun hc=>absurd (by rw [he];rfl) (beq_eq_false_iff_ne.1 hc)⟩
 rintro w1 rfl
 have h1:=h.setErr e
 refine ⟨a,rfl,h1.box.canW (i:=3) (by simp),?_⟩
 rintro w2 rfl
 exact ⟨h1.setSpot x,qP.trans qP⟩
theorem jRD {P:Program} {t:TypeId} {w:World} (x k:Nat) (hk:k<64) (h:x*2 ^ k<18446744073709551616):(Go.binOp .shl t (.int .u64 (x:Int)) (.int .u64 (k:Int))).run P w=.ok (.int .u64 ((x*2 ^ k:Nat):Int)) w:=by
 have hr:IntKind.u64.wrap ((x:Int)*2 ^ min (k:Int).toNat IntKind.u64.bits)=((x*2 ^ k:Nat):Int):=by
  have:min (k:Int).toNat IntKind.u64.bits=k:=by simp [IntKind.bits];omega
  rw [this,← vV h];simp
 have h0:¬ ((k:Int)<0):=by omega
 show (Op.shift .shl .u64 (x:Int) .u64 (k:Int)).run P w=_;unfold Op.shift;rw [if_neg h0];show ((pure (Value.int .u64 (IntKind.u64.wrap ((x:Int)*2 ^ min (k:Int).toNat IntKind.u64.bits))):Sem Value)).run P w=_;rw [hr];rfl
theorem jRE {P:Program} {t:TypeId} {w:World} (c:Nat) (h:c<256):(Go.binOp .rem t (.int .u8 (c:Int)) (.int .u8 128)).run P w=.ok (.int .u8 ((c % 128:Nat):Int)) w:=by
 have e1:((c:Int).tmod 128)=((c % 128:Nat):Int):=by rw [Int.tmod_eq_emod_of_nonneg (by omega)];omega
 simp [Go.binOp,Op.intDiv,e1]
theorem c_rNum (h:RfS S w0 a s bs r) (hat:r.at_≤bs.length) (hS:∀b,(b=a.block∨S b)→b<w0.heap.size) :
  Calls prog 219 #[.pointer (some a)] w0 (fun e w'=>∃x:Int,e=.returned (.int .u64 x)∧(x=((qN bs r).1:Int)∧RfS S w' a s bs (qN bs r).2∧Ext (·=a.block) w0 w')):=by
 refine w_Q1 (some a) w0 (fun x w'=>x=((qN bs r).1:Int)∧RfS S w' a s bs (qN bs r).2∧Ext (·=a.block) w0 w') ?_
 unfold m_Q1
 have hsm:=h.small
 refine ⟨a,rfl,_,h.errC,fun hc=>?_,fun hc=>?_⟩
 ·have he:r.err≠0:=by have:=bne_iff_ne.1 hc;omega
  have hr:qN bs r=(0,r):=by unfold qN;rw [if_neg he]
  rw [hr];exact ⟨rfl,h,Ext.refl _⟩
 have he:r.err=0:=by
  have:((r.err:Int) != 0)=false:=hc;simpa using this
 have bad : ∀ (x : Nat) (H : NP) (w : World), (∀ b, (b = a.block ∨ S b) → ¬ H b) → RfS S w a s bs r → Ext (· = a.block) w0 w → uV 0 0 (bs.drop r.at_) = .error x →
   Calls prog 242 #[.pointer (some a),.int .i64 x,.int .i64 (r.at_:Int)] w (fun e w'=>e=.returned (.tuple #[])∧Kept H w w'∧((0:Int)=((qN bs r).1:Int)∧RfS S w' a s bs (qN bs r).2∧Ext (·=a.block) w0 w')):=by
  intro x H w hv hR hE hrd
  have hr:qN bs r=(0,⟨r.at_,x,r.at_⟩):=by unfold qN;rw [if_pos he,hrd]
  refine (jUV a s bs r w hR he x r.at_).mono ?_
  rintro _ w' ⟨rfl,hR',X⟩
  rw [hr]
  exact ⟨rfl,X.kept (fun b hb e=>hv _ (.inl rfl) (e▸hb)),rfl,hR',hE.trans X⟩
 refine ⟨fun n i Hl w=>∃acc k:Nat,n=(acc:Int)∧i=(k:Int)∧k≤9∧acc<2 ^ (7*k)∧r.at_+k≤bs.length∧uV k acc (bs.drop (r.at_+k))=uV 0 0 (bs.drop r.at_)∧RfS S w a s bs r∧(∀b,(b=a.block∨S b)→¬ Hl b)∧Pure w0 w,fun _ i _=>(10 - i).toNat,⟨0,0,rfl,rfl,by omega,by simp,by simpa using hat,rfl,h,fun _ _ h=>h,Ext.refl _⟩,?_⟩
 rintro _ _ Hl wl hl ⟨acc,k,rfl,rfl,hk,hacc,hle,hrd,hR,hv,hE⟩
 unfold m_Q1_l1
 have hSl:∀{w:World},Pure w0 w→∀b,(b=a.block∨S b)→b<w.heap.size:=fun E b hb=>by have:=hS b hb;have:=E.size;omega
 refine ⟨a,rfl,fun w1 hs1=>?_⟩
 have R1:=hR.ext hs1.ext (hs1.disj (fun b hb=>⟨hSl hE b hb,hv b hb⟩))
 have E1:=hE.hst hs1
 have hwk:IntKind.i64.wrap ((r.at_:Int)+(k:Int))=((r.at_+k:Nat):Int):=by rw [IntWalk.i64_in _ (by omega)];omega
 refine ⟨_,R1.atC,a,rfl,s,R1.box.cell0,fun hc=>?_,fun hc=>?_⟩
 ·have hge:r.at_+k=bs.length:=by rw [hwk] at hc;have:=of_decide_eq_true hc;have:=R1.len;omega
  refine ⟨a,rfl,_,R1.atC,?_⟩
  exact bad 3 Hl w1 hv R1 (Ext.pure E1) (by rw [← hrd,hge,List.drop_length];rfl)
 ·have hlt:r.at_+k<bs.length:=by rw [hwk] at hc;have:=of_decide_eq_false hc;have:=R1.len;omega
  refine ⟨a,rfl,fun w3 hs3=>?_⟩
  have R3:=R1.ext hs3.ext (hs3.disj (fun b hb=>⟨hSl E1 b hb,hv b hb⟩))
  have E3:=E1.hst hs3
  obtain ⟨a7,hat7,_,hv7⟩:=jMA R3.lst hlt
  have hdrop:bs.drop (r.at_+k)=bs[r.at_+k] :: bs.drop (r.at_+k+1):=List.drop_eq_getElem_cons hlt
  refine ⟨s,R3.box.cell0,a,rfl,_,R3.atC,a7,by rw [hwk];exact hat7,_,hv7,?_⟩
  generalize bs[r.at_+k]=c at *
  have hc256:=c.toNat_lt
  rw [hdrop,xZ] at hrd
  have visH:∀{H H':NP} {w w':World},Pure w0 w→(∀b,(b=a.block∨S b)→¬ H b)→Hst w0 H w H' w'→∀b,(b=a.block∨S b)→¬ H' b:=fun E hv hs=>hs.disj (fun b hb=>⟨hSl E b hb,hv b hb⟩)
  refine ⟨fun hb=>⟨a,rfl,fun H1 w4 hs4=>?_⟩,fun hb H1 w4 hs4=>?_⟩
  ·have hv4:=visH E3 hv hs4
   have R4:=R3.ext hs4.ext hv4
   have hb':k=9∧1<c.toNat:=by simp at hb;omega
   rw [if_pos hb'] at hrd
   exact ⟨_,R4.atC,bad 11 H1 w4 hv4 R4 (Ext.pure (E3.hst hs4)) hrd.symm⟩
  ·have hv4:=visH E3 hv hs4
   have R4:=R3.ext hs4.ext hv4
   have E4:=E3.hst hs4
   have hb':¬ (k=9∧1<c.toNat):=by intro hh;simp at hb;omega
   rw [if_neg hb'] at hrd
   have hpw:c.toNat % 128*2 ^ (7*k)<18446744073709551616:=by
    by_cases h9:k=9
    ·subst h9;omega
    ·have h8:2 ^ (7*k)≤2 ^ 56:=Nat.pow_le_pow_right (by omega) (by omega);have h127:c.toNat % 128≤127:=by omega
     calc c.toNat % 128*2 ^ (7*k)≤127*2 ^ 56:=Nat.mul_le_mul h127 h8
      _<18446744073709551616:=by decide
   have hac:acc<18446744073709551616:=Nat.lt_of_lt_of_le hacc (by
    calc 2 ^ (7*k)≤2 ^ 63:=Nat.pow_le_pow_right (by omega) (by omega)
     _≤18446744073709551616:=by decide)
   have h7:IntKind.u64.wrap (IntKind.i64.wrap (7*(k:Int)))=((7*k:Nat):Int):=by
    rw [IntWalk.i64_in _ (by omega),show (7*(k:Int))=((7*k:Nat):Int) by omega,vV (by omega)]
   have h128:128 ^ k=2 ^ (7*k):=by rw [Nat.pow_mul]
   have hsum:acc ||| (c.toNat % 128*2 ^ (7*k))=acc+c.toNat % 128*2 ^ (7*k):=jSY hacc
   have hsl:acc+c.toNat % 128*2 ^ (7*k)<18446744073709551616:=by rw [← hsum];exact Nat.or_lt_two_pow (n:=64) hac hpw
   have hwn:IntKind.u64.wrap ((acc:Int)+((c.toNat % 128*2 ^ (7*k):Nat):Int))=((acc+c.toNat % 128*2 ^ (7*k):Nat):Int):=by
    rw [show ((acc:Int)+((c.toNat % 128*2 ^ (7*k):Nat):Int))=((acc+c.toNat % 128*2 ^ (7*k):Nat):Int) by omega,vV hsl]
   refine ⟨_,jRE c.toNat hc256,((c.toNat % 128*2 ^ (7*k):Nat):Int),by rw [h7,vV (by omega)];exact jRD _ _ (by omega) hpw,?_⟩
   rw [hwn]
   refine ⟨fun hs=>?_,fun hs=>⟨fun hz=>⟨a,rfl,fun H2 w6 hs6=>?_⟩,fun hz=>⟨a,rfl,fun H2 w6 hs6=>?_⟩⟩⟩
   ·have hs':¬ c.toNat<128:=by have:=of_decide_eq_true hs;omega
    rw [if_neg hs',h128] at hrd
    have hk9:k≠9:=by omega
    rw [vQ (n:=10) (by omega) (by omega)]
    refine ⟨⟨_,k+1,rfl,rfl,by omega,?_,by omega,hrd,R4,hv4,E4⟩,by show (10 - ((k+1:Nat):Int)).toNat<(10 - (k:Int)).toNat;omega⟩
    have:2 ^ (7*(k+1))=128*2 ^ (7*k):=by rw [Nat.mul_add,Nat.pow_add];omega
    rw [this]
    have h127:c.toNat % 128*2 ^ (7*k)≤127*2 ^ (7*k):=Nat.mul_le_mul_right _ (by omega)
    omega
   ·have hs':c.toNat<128:=by have:=of_decide_eq_false hs;omega
    rw [if_pos hs'] at hrd
    have hv6:=visH E4 hv4 hs6
    have R6:=R4.ext hs6.ext hv6
    have hz':c.toNat=0∧0<k:=by simp at hz;omega
    rw [if_pos hz'] at hrd
    exact ⟨_,R6.atC,bad 10 H2 w6 hv6 R6 (Ext.pure (E4.hst hs6)) hrd.symm⟩
   ·have hs':c.toNat<128:=by have:=of_decide_eq_false hs;omega
    rw [if_pos hs'] at hrd
    have hv6:=visH E4 hv4 hs6
    have R6:=R4.ext hs6.ext hv6
    have hz':¬ (c.toNat=0∧0<k):=by intro hh;simp at hz;omega
    rw [if_neg hz',h128] at hrd
    have hr:qN bs r=(acc+c.toNat*2 ^ (7*k),⟨r.at_+(k+1),0,r.spot⟩):=by unfold qN;rw [if_pos he,← hrd]
    rw [hr]
    have hwa:IntKind.i64.wrap (IntKind.i64.wrap ((r.at_:Int)+(k:Int))+1)=((r.at_+(k+1):Nat):Int):=by
     rw [hwk,IntWalk.i64_in _ (by omega)];omega
    refine ⟨_,R6.atC,a,rfl,R6.box.canW (i:=1) (by simp),by rw [zP];exact hv6 _ (.inl rfl),?_⟩
    rintro w8 e8
    rw [hwa] at e8
    have R8:=R6.setAt (r.at_+(k+1))
    rw [← e8,he] at R8
    refine ⟨by rw [Nat.mod_eq_of_lt hs'],R8,?_⟩
    rw [e8]
    exact (Ext.pure (E4.hst hs6)).trans qP
end
def stp (bs:List UInt8) (c:Bool) (f:Fld) (s:Raw×Rd):Raw×Rd:=if c then (f.raw bs s.2 s.1,f.rd bs s.2) else s
def zNode:List Value:=[.int .i64 0,.int .i64 0,.int .i64 0,.int .u64 0,.string ⟨#[]⟩,.int .i64 0,.int .i64 0]
structure NdAt (S:NP) (w0:World) (H:NP) (w:World) (p1 a:Addr) (s:Sl) (bs:List UInt8) (r:Rd):Prop where
 rd:RfS S w a s bs r
 box:Box w p1 zNode 103
 vis:∀b,(b=a.block∨S b∨b=p1.block)→¬ H b∧b<w.heap.size
 ext:Ext (·=a.block) w0 w
 at_:r.at_≤bs.length
 o1:w0.heap.size≤p1.block
 d1:p1.block≠a.block∧¬ S p1.block
section
variable {S:NP} {w0 w w':World} {H H':NP} {p1 a:Addr} {s:Sl} {bs:List UInt8} {r:Rd}
theorem NdAt.hst (h:NdAt S w0 H w p1 a s bs r) (hs:Hst w0 H w H' w'):NdAt S w0 H' w' p1 a s bs r:=by
 have d:∀b,(b=a.block∨S b∨b=p1.block)→¬ H' b:=hs.disj (fun b hb=>⟨(h.vis b hb).2,(h.vis b hb).1⟩);exact ⟨h.rd.ext hs.ext (fun b hb=>d b (hb.elim .inl (fun h=>.inr (.inl h)))),h.box.ext hs.ext (d _ (.inr (.inr rfl))),fun b hb=>⟨d b hb,by have:=(h.vis b hb).2;have:=hs.ext.size;omega⟩,h.ext.hst hs,h.at_,h.o1,h.d1⟩
theorem NdAt.hS (h:NdAt S w0 H w p1 a s bs r):∀b,(b=a.block∨S b)→b<w.heap.size:=fun b hb=>(h.vis b (hb.elim .inl (fun h=>.inr (.inl h)))).2
theorem NdAt.next {r':Rd} (h:NdAt S w0 H w p1 a s bs r) (hR:RfS S w' a s bs r') (E:Ext (·=a.block) w w') (hat:r'.at_≤bs.length):NdAt S w0 H w' p1 a s bs r'∧Kept H w w' :=
 ⟨⟨hR,h.box.ext E h.d1.1,fun b hb=>⟨(h.vis b hb).1,by have:=(h.vis b hb).2;have:=E.size;omega⟩,h.ext.trans E,hat,h.o1,h.d1⟩,E.kept (fun b hb e=>(h.vis _ (.inl rfl)).1 (e▸hb))⟩
theorem NdAt.num (h:NdAt S w0 H w p1 a s bs r) {R:Int→WP} (hR:∀w',NdAt S w0 H w' p1 a s bs (qN bs r).2→R ((qN bs r).1:Int) w') :
  Calls prog 219 #[.pointer (some a)] w (fun e w'=>∃x:Int,e=.returned (.int .u64 x)∧Kept H w w'∧R x w'):=by
 refine (c_rNum a s bs r w h.rd h.at_ h.hS).mono ?_
 rintro _ w' ⟨_,rfl,rfl,hR',E⟩
 obtain ⟨g1,g2⟩:=h.next hR' E (jKC bs r h.at_).2
 exact ⟨_,rfl,g2,hR w' g1⟩
variable (k i:Nat) (hk:1≤k∧k≤9) (hi:i≤100000) {K:Int→Int→Int→Int→ByteArray→Int→Int→Int→WP}
include hk hi
end
end Go.Proofs
end
section
open Go Go.SE
namespace Go.Sp
open Go.Proofs
theorem make_new {L:Pool} {n:Node} (h:find L n=none) (h0:(make L n).2.1=0):(make L n).2.2.length=L.length+1:=by
 have hc:=(tA h0).2.2;unfold make at h0 ⊢;simp only [h] at h0 ⊢;rw [if_neg (by rw [hc];simp)] at h0 ⊢;split at h0
 ·simp at h0
 ·rename_i hf;rw [if_neg hf];simp
end Go.Sp
namespace Go.Proofs
attribute [local irreducible] Calls CallsD
def RrV (a:Addr) (S FR:NP) (pl:Sl) (b:Nat):Prop:=FR b∨b=a.block∨S b∨pl.blk b
structure RrAt (w0:World) (H:NP) (w:World) (q a:Addr) (s:Sl) (bs:List UInt8) (L:Sp.Pool) (r:Rd) (S FR:NP) (ps:List Nat) (pl:Sl):Prop where
 pool:qR w q L FR
 rd:RfS S w a s bs r
 rows:Rws w 3 1 pl (tmr (ps.map Int.ofNat))
 pure:Pure w0 w
 own:∀b,RrV a S FR pl b→w0.heap.size≤b∧¬ H b
 lt:∀b,(b=a.block∨S b)→b<w.heap.size
 dR:∀b,FR b→b≠a.block∧¬ S b∧¬ pl.blk b
 dp:∀b,pl.blk b→b≠a.block∧¬ S b
theorem RrAt.vlt {w0 w:World} {H:NP} {q a:Addr} {s:Sl} {bs:List UInt8} {L:Sp.Pool} {r:Rd} {S FR:NP} {ps:List Nat} {pl:Sl} (h:RrAt w0 H w q a s bs L r S FR ps pl):∀b,RrV a S FR pl b→b<w.heap.size:=by
 rintro b (hb | hb | hb | hb)
 ·exact h.pool.lt hb
 ·exact h.lt b (.inl hb)
 ·exact h.lt b (.inr hb)
 ·exact h.rows.lt hb
theorem RrAt.hst {w0 w w':World} {H H':NP} {q a:Addr} {s:Sl} {bs:List UInt8} {L:Sp.Pool} {r:Rd} {S FR:NP} {ps:List Nat} {pl:Sl} (h:RrAt w0 H w q a s bs L r S FR ps pl) (hs:Hst w0 H w H' w'):RrAt w0 H' w' q a s bs L r S FR ps pl:=by
 have d:∀b,RrV a S FR pl b→¬ H' b:=hs.disj (fun b hb=>⟨h.vlt b hb,(h.own b hb).2⟩);exact ⟨h.pool.ext hs.ext (fun b hb=>d b (.inl hb)),h.rd.ext hs.ext (fun b hb=>d b (hb.elim (fun h=>.inr (.inl h)) (fun h=>.inr (.inr (.inl h))))),h.rows.ext hs.ext (fun b hb=>d b (.inr (.inr (.inr hb)))),h.pure.hst hs,fun b hb=>⟨(h.own b hb).1,d b hb⟩,fun b hb=>by have:=h.lt b hb;have:=hs.ext.size;omega,h.dR,h.dp⟩
end Go.Proofs
end
section
open Go Go.SE
namespace Go.Sp
open Go.Proofs
end Go.Sp
namespace Go.Proofs
attribute [local irreducible] Calls CallsD
structure CrAt (w0:World) (H:NP) (w:World) (p q:Addr) (Lc Lq:Sp.Pool) (s1 r2:Sl) (A xs:List Int) (FP F' FQ:NP):Prop where
 pp:qR w p Lc F'
 pq:qR w q Lq FQ
 at_:Rws w 23 1 s1 (tmr A)
 subs:Rws w 23 1 r2 (tmr xs)
 ext:Ext FP w0 w
 own:∀b,(F' b∨FQ b∨s1.blk b∨r2.blk b)→¬ H b
 oF:∀b,F' b→FP b∨w0.heap.size≤b
 oS:∀b,(s1.blk b∨r2.blk b)→w0.heap.size≤b
 dis:∀b,F' b→¬ FQ b∧¬ s1.blk b∧¬ r2.blk b
 dS:∀b,s1.blk b→¬ FQ b∧¬ r2.blk b
section
variable {w0 w w':World} {H H':NP} {p q:Addr} {Lc Lq:Sp.Pool} {s1 r2:Sl} {A xs:List Int} {FP F' FQ:NP}
theorem CrAt.vlt (h:CrAt w0 H w p q Lc Lq s1 r2 A xs FP F' FQ):∀b,(F' b∨FQ b∨s1.blk b∨r2.blk b)→b<w.heap.size:=by
 rintro b (hb | hb | hb | hb)
 ·exact h.pp.lt hb
 ·exact h.pq.lt hb
 ·exact h.at_.lt hb
 ·exact h.subs.lt hb
theorem CrAt.hst (h:CrAt w0 H w p q Lc Lq s1 r2 A xs FP F' FQ) (hs:Hst w0 H w H' w'):CrAt w0 H' w' p q Lc Lq s1 r2 A xs FP F' FQ:=by
 have d:=hs.disj (fun b hb=>⟨h.vlt b hb,h.own b hb⟩);exact ⟨h.pp.ext hs.ext (fun b hb=>d b (.inl hb)),h.pq.ext hs.ext (fun b hb=>d b (.inr (.inl hb))),h.at_.ext hs.ext (fun b hb=>d b (.inr (.inr (.inl hb)))),h.subs.ext hs.ext (fun b hb=>d b (.inr (.inr (.inr hb)))),h.ext.hst hs,d,h.oF,h.oS,h.dis,h.dS⟩
end
end Go.Proofs
end
section
namespace Go.Sp
theorem jPG (L:Pool) (n:Node):(make L n).2.2.length≤L.length+1:=by
 rcases jBV L n with e | ⟨_,e⟩ <;> rw [e] <;> simp
end Go.Sp
end
section
open Go Go.SE
namespace Go.Sp
end Go.Sp
namespace Go.Proofs
attribute [local irreducible] Calls
structure Pl2 (w0:World) (H:NP) (w:World) (p q:Addr) (L1 L2:Sp.Pool) (F1 F2:NP):Prop where
 pure:Pure w0 w
 pool:zO w p L1 F1
 ref:qR w q L2 F2
 o1:∀b,F1 b→w0.heap.size≤b∧¬ H b∧¬ F2 b
 o2:∀b,F2 b→w0.heap.size≤b∧¬ H b
section
variable {w0 w w':World} {H H':NP} {p q:Addr} {L1 L2:Sp.Pool} {F1 F2:NP}
theorem Pl2.first (h:Pl2 w H w' p q L1 L2 F1 F2) (E:Pure w0 w):Pl2 w0 H w' p q L1 L2 F1 F2 :=
 ⟨E.trans h.pure,h.pool,h.ref,fun b hb=>⟨Nat.le_trans E.size (h.o1 b hb).1,(h.o1 b hb).2⟩,fun b hb=>⟨Nat.le_trans E.size (h.o2 b hb).1,(h.o2 b hb).2⟩⟩
theorem Pl2.hst (h:Pl2 w0 H w p q L1 L2 F1 F2) (hs:Hst w0 H w H' w'):Pl2 w0 H' w' p q L1 L2 F1 F2:=by
 have d:∀b,b<w.heap.size→¬ H b→¬ H' b:=fun b h1 h2=>hs.disj (G:=(·=b)) (fun c e=>by subst e;exact ⟨h1,h2⟩) b rfl;have d1:∀b,F1 b→¬ H' b:=fun b hb=>d b (h.pool.lt hb) (h.o1 b hb).2.1;have d2:∀b,F2 b→¬ H' b:=fun b hb=>d b (h.ref.lt hb) (h.o2 b hb).2;exact ⟨h.pure.hst hs,h.pool.ext hs.ext d1,h.ref.ext hs.ext d2,fun b hb=>⟨(h.o1 b hb).1,d1 b hb,(h.o1 b hb).2.2⟩,fun b hb=>⟨(h.o2 b hb).1,d2 b hb⟩⟩
end
end Go.Proofs
end
section
open Go Go.SE
namespace Go.Sp
open Go.Proofs
end Go.Sp
namespace Go.Proofs
attribute [local irreducible] Calls CallsD
end Go.Proofs
end
section
open Go Go.SE
namespace Go.Proofs
attribute [local irreducible] Calls
end Go.Proofs
end
section
open Go Go.SE
namespace Go.Proofs
attribute [local irreducible] Calls CallsD
end Go.Proofs
end
section
open Go Go.SE
namespace Go.Proofs
attribute [local irreducible] Calls
theorem jEK (l:Sp.Letter):s_I l.kind l.frm l.c l.text l.fake=Sp.letErr l:=by
 obtain ⟨k,f,c,x,g⟩:=l;unfold s_I Sp.letErr;have e1:s_C k=Sp.isSigned k:=rfl;rw [e1];have e2:(Sp.isSigned k || k == 6)=Sp.isTexted k:=rfl;rw [e2];have e3:decide (((x.size:Int))>64)=decide (x.size>64):=decide_eq_decide.2 (by omega);rw [e3];generalize Sp.isSigned k=a;generalize Sp.isTexted k=b;have hc:((((((decide (k<1)) || (decide (k>7))) || (((f:Int) != 0) && ((f:Int) != 1))) || ((!a) && ((f:Int) != 0))) || ((!b) && (!(decide (x=(⟨#[]⟩:ByteArray)))))) || ((g && ((k:Int) != 1)) && ((k:Int) != 4)))=decide (k<1∨k>7∨(f≠0∧f≠1)∨(a=false∧f≠0)∨(b=false∧x≠⟨#[]⟩)∨(g=true∧k≠1∧k≠4)):=by
  rw [Bool.eq_iff_iff];simp only [Bool.or_eq_true,Bool.and_eq_true,decide_eq_true_eq,bne_iff_ne,Bool.not_eq_true',decide_eq_false_iff_not];simp only [or_assoc,and_assoc]
 rw [hc];by_cases h:(k<1∨k>7∨(f≠0∧f≠1)∨(a=false∧f≠0)∨(b=false∧x≠⟨#[]⟩)∨(g=true∧k≠1∧k≠4))
 ·rw [decide_eq_true h,if_pos h];rfl
 ·rw [decide_eq_false h,if_neg h];by_cases h2:x.size>64
  ·rw [decide_eq_true h2,if_pos h2];rfl
  ·rw [decide_eq_false h2,if_neg h2];rfl
theorem TreeAt.back {S:NP} {w w':World} {s:Sl} {t:Sp.Tree} (h:TreeAt S w' s t) (hE:Pure w w') (hd:∀b,S b→b<w.heap.size):TreeAt S w s t:=by
 induction h with
 | mk k f t u x ks s rs len fit row kid ih =>
  refine .mk k f t u x ks s rs len fit (fun i h=>let ⟨a,h1,h2,h3⟩:=row i h;⟨a,h1,h2,fun j hj=>?_⟩) ih
  rw [← h3 j hj]
  unfold World.cell?
  rw [zP,hE.keep _ (hd _ h2) (fun h=>h)]
end Go.Proofs
end
section
namespace Go.Sp
theorem uW {L:Pool} {t k:Int} (h:inP L t=true) (hk:(nodeOf L t).kind=k):vB L t k=(nodeOf L t,false):=by unfold vB;rw [if_pos ⟨h,hk⟩]
section
variable {L:Pool} (hW:Wf L) {t:Int} (ht:inP L t=true)
include hW ht
theorem nd4 (hk:(nodeOf L t).kind=4):inP L (nodeOf L t).a=true∧inP L (nodeOf L t).b=true∧zI L t=qU (zI L (nodeOf L t).a) (zI L (nodeOf L t).b):=by
 have h:=(hW.node ht).1;have hp:=(hW.node ht).2.2.2.2.1;have hkk:zH (nodeOf L t)=[(nodeOf L t).a,(nodeOf L t).b]:=by unfold zH;rw [hk];rfl
 rw [hkk] at hp;refine ⟨(hp _ (by simp)).1,(hp _ (by simp)).1,?_⟩;rw [qO hW ht,hk,qU,hkk];unfold zV at h;rw [hk] at h;simp [shapeOf,isKind] at h;simp [h]
theorem nd7 (hk:(nodeOf L t).kind=7):inP L (nodeOf L t).a=true∧0≤(nodeOf L t).frm∧zI L t=xW (nodeOf L t).frm (zI L (nodeOf L t).a):=by
 have h:=(hW.node ht).1;have hf:=(hW.node ht).2.2.2.1;have hp:=(hW.node ht).2.2.2.2.1;have hkk:zH (nodeOf L t)=[(nodeOf L t).a]:=by unfold zH;rw [hk];rfl
 rw [hkk] at hp;refine ⟨(hp _ (by simp)).1,?_,?_⟩
 ·unfold zU at hf;rw [hk] at hf;split at hf
  ·cases hf
  ·rename_i hh;simp [shapeOf,xL] at hh;omega
 rw [qO hW ht,hk,xW,hkk];unfold zV at h;rw [hk] at h;simp [shapeOf,isKind] at h;simp [h]
theorem nd89 (hk:(nodeOf L t).kind=8∨(nodeOf L t).kind=9):inP L (nodeOf L t).a=true∧0≤(nodeOf L t).frm∧(nodeOf L t).frm<16∧((nodeOf L t).to=1 - (nodeOf L t).frm→zI L t=yO (nodeOf L t).frm (zI L (nodeOf L t).a) ((nodeOf L t).kind == 9)):=by
 have h:=(hW.node ht).1;have hf:=(hW.node ht).2.2.2.1;have hp:=(hW.node ht).2.2.2.2.1;have hkk:zH (nodeOf L t)=[(nodeOf L t).a]:=by unfold zH;rcases hk with hk | hk <;> (rw [hk];rfl)
 rw [hkk] at hp;have hff:0≤(nodeOf L t).frm∧(nodeOf L t).frm<16:=by
  unfold zU at hf;rcases hk with hk | hk <;>
  ·rw [hk] at hf;split at hf
   ·cases hf
   ·rename_i hh;simp [shapeOf,xL] at hh;omega
 refine ⟨(hp _ (by simp)).1,hff.1,hff.2,fun hto=>?_⟩;rw [qO hW ht,yO,hkk,← hto];unfold zV at h;rcases hk with hk | hk <;>
 ·rw [hk] at h ⊢;simp [shapeOf,isKind] at h;simp [h]
theorem uX {k f t' u:Int} {x:ByteArray} {ks:List Tree} (h:zI L t=.mk k f t' u x ks):(nodeOf L t).kind=k∧(nodeOf L t).frm=f∧(nodeOf L t).to=t'∧(nodeOf L t).num=u∧(nodeOf L t).text=x:=by
 rw [qO hW ht] at h;injection h with h1 h2 h3 h4 h5 h6;exact ⟨h1,h2,h3,h4,h5⟩
end
theorem jMD {n:Int} (h:0≤n∧n<16):IntKind.i64.wrap (1 - n)=1 - n:=IntWalk.i64_in _ (by omega)
section
variable {L:Pool} (hW:Wf L) {t:Int}
include hW
theorem jAX (ht:inP L t=true) {g:ByteArray} {y:Tree} (h:zI L t=qU (qL g) y):∃n,zZ L t=((g,n),false)∧inP L n=true∧zI L n=y:=by
 have hk:=(uX hW ht (h.trans rfl)).1;obtain ⟨h1,h2,h3⟩:=nd4 hW ht hk;rw [h] at h3;have e1:qL g=zI L (nodeOf L t).a:=by simpa [qU] using (Tree.mk.inj h3).2.2.2.2.2 |> fun e=>(List.cons.inj e).1
 have e2:y=zI L (nodeOf L t).b:=by have:=(Tree.mk.inj h3).2.2.2.2.2;exact (List.cons.inj (List.cons.inj this).2).1
 have hka:=uX hW h1 (e1.symm.trans rfl);refine ⟨(nodeOf L t).b,?_,h2,e2.symm⟩;unfold zZ;rw [uW ht hk];simp only;rw [uW h1 hka.1];simp [hka.2.2.2.2]
theorem jEO (ht:inP L t=true) {c:Int} {x:ByteArray} (h:zI L t=vX c x):vT L t=((c,x),false):=by
 obtain ⟨n,e1,hn,e⟩:=jAX hW ht h;have hk:=(uX hW hn (e.trans rfl)).1;obtain ⟨h1,h2,h3⟩:=nd4 hW hn hk;rw [e] at h3;have q1:jDA c=zI L (nodeOf L n).a:=(List.cons.inj (Tree.mk.inj h3).2.2.2.2.2).1;have q2:qL x=zI L (nodeOf L n).b:=(List.cons.inj (List.cons.inj (Tree.mk.inj h3).2.2.2.2.2).2).1;have k1:=uX hW h1 (q1.symm.trans rfl);have k2:=uX hW h2 (q2.symm.trans rfl);unfold vT;rw [e1];simp only;rw [uW hn hk];simp only;rw [uW h1 k1.1,uW h2 k2.1];simp [k1.2.2.2.1,k2.2.2.2.2]
theorem jGM (ht:inP L t=true) {c:Int} (h:zI L t=jDA c):(vB L t 2).1.num=c∧(vB L t 2).2=false:=by
 have k:=uX hW ht (h.trans rfl);rw [uW ht k.1];exact ⟨k.2.2.2.1,rfl⟩
theorem jAB (ht:inP L t=true) {n c:Int} {x:ByteArray} {g:Bool} (hn:n=0∨n=1) (h:zI L t=yO n (vX c x) g):zW L t=(⟨1,n,c,x,g⟩,false):=by
 have k:=uX hW ht (h.trans rfl);have hk:(nodeOf L t).kind=8∨(nodeOf L t).kind=9:=by rw [k.1];cases g <;> simp
 obtain ⟨ha,h0,h16,hT⟩:=nd89 hW ht hk;have:=hT (by rw [k.2.2.1,k.2.1]);rw [h,k.2.1] at this;have q1:vX c x=zI L (nodeOf L t).a:=(List.cons.inj (Tree.mk.inj this).2.2.2.2.2).1;unfold zW;simp only;rw [if_neg,jEO hW ha q1.symm,k.1,k.2.1]
 ·cases g <;> rfl
 ·simp only [not_or,not_and,Classical.not_not];refine ⟨fun h8=>hk.resolve_left h8,by rw [k.2.1];omega,?_⟩;rw [k.2.2.1,jMD ⟨h0,h16⟩,k.2.1]
end
def IsL (x:Tree) (l:Letter):Prop:=letErr l=0∧∃a b:Bool,(l.kind=4→l.fake=(a || b))∧x=vK l a b
theorem jCP {k f c:Int} {x:ByteArray} {g:Bool} (h:letErr ⟨k,f,c,x,g⟩=0):(k=1∨k=2∨k=3∨k=4∨k=5∨k=6∨k=7)∧(f=0∨f=1)∧(isSigned k=false→f=0)∧(isTexted k=false→x=⟨#[]⟩)∧(g=true→k=1∨k=4)∧x.size≤64:=by
 unfold letErr at h;simp only at h;split at h
 ·cases h
 rename_i hh;split at h
 ·cases h
 simp only [not_or,not_and,Classical.not_not] at hh;obtain ⟨h1,h2,h3,h4,h5,h6⟩:=hh;refine ⟨by omega,?_,h4,h5,?_,by omega⟩
 ·by_cases h0:f=0
  ·exact .inl h0
  ·exact .inr (h3 h0)
 ·intro hg;by_cases h1:k=1
  ·exact .inl h1
  ·exact .inr (h6 hg h1)
section
variable {L:Pool} (hW:Wf L) {t:Int}
include hW
theorem jHV (ht:inP L t=true) {who c:Int} {x:ByteArray} {a b:Bool} (h:zI L t=qU (yO 0 (vX c x) a) (yO 1 (vX c x) b)):vZ L who t=(⟨4,who,c,x,a || b⟩,false):=by
 have hk:=(uX hW ht (h.trans rfl)).1;obtain ⟨h1,h2,h3⟩:=nd4 hW ht hk;rw [h] at h3;have q1:=(List.cons.inj (Tree.mk.inj h3).2.2.2.2.2).1;have q2:=(List.cons.inj (List.cons.inj (Tree.mk.inj h3).2.2.2.2.2).2).1;unfold vZ;simp only;rw [uW ht hk];simp only;rw [jAB hW h1 (.inl rfl) q1.symm,jAB hW h2 (.inr rfl) q2.symm];simp
theorem jRH (ht:inP L t=true) {l:Letter} (h:IsL (zI L t) l):jAW L t=(l,false):=by
 obtain ⟨k,f,c,x,g⟩:=l;obtain ⟨h1,a,b,h4,hT⟩:=h;obtain ⟨hk,hf,hs,hx,hg,_⟩:=jCP h1;have tagged:∀{who:Int} {gg:ByteArray} {y:Tree},zI L t=xW who (qU (qL gg) y)→(nodeOf L t).kind=7∧(nodeOf L t).frm=who∧inP L (nodeOf L t).a=true∧zI L (nodeOf L t).a=qU (qL gg) y∧∃n,zZ L (nodeOf L t).a=((gg,n),false)∧inP L n=true∧zI L n=y:=by
  intro who gg y e;have k:=uX hW ht (e.trans rfl);obtain ⟨q1,_,q3⟩:=nd7 hW ht k.1;rw [e] at q3;have q:=(List.cons.inj (Tree.mk.inj q3).2.2.2.2.2).1;exact ⟨k.1,k.2.1,q1,q.symm,jAX hW q1 q.symm⟩
 rcases hk with rfl | rfl | rfl | rfl | rfl | rfl | rfl
 ·have e:zI L t=yO f (vX c x) g:=hT;have k:=uX hW ht (e.trans rfl);unfold jAW;simp only;rw [if_neg (by rw [k.1];cases g <;> decide),if_pos (by rw [k.1];cases g <;> decide),jAB hW ht hf e]
 ·have e:zI L t=xW f (vX c x):=hT;have:g=false:=by cases g with
   | false=>rfl
   | true=>exact absurd (hg rfl) (by omega)
  subst this;obtain ⟨k,kf,h1,h2,n,e1,hn,e2⟩:=tagged e;unfold jAW qI;simp only;rw [if_pos k,e1,kf];simp only;rw [if_neg (fun q=>absurd q.1 (by decide)),if_neg (fun q=>absurd q.1 (by decide)),if_neg (fun q=>absurd q.1 (by decide)),if_pos ⟨trivial,by omega⟩,jEO hW h1 h2];rfl
 ·obtain rfl:f=0:=hs rfl;obtain rfl:x=⟨#[]⟩:=hx rfl;have:g=false:=by cases g with
   | false=>rfl
   | true=>exact absurd (hg rfl) (by omega)
  subst this;have e:zI L t=xW 0 (qU (qL uR) (jDA c)):=hT;obtain ⟨k,kf,h1,h2,n,e1,hn,e2⟩:=tagged e;obtain ⟨u1,u2⟩:=jGM hW hn e2;unfold jAW qI;simp only;rw [if_pos k,e1,kf];simp only;rw [if_pos ⟨trivial,trivial⟩,u1,u2];rfl
 ·have e:zI L t=xW f (qU (qL yB) (qU (yO 0 (vX c x) (g && a)) (yO 1 (vX c x) (g && b)))):=hT;obtain ⟨k,kf,h1,h2,n,e1,hn,e2⟩:=tagged e;have hgg:((g && a) || (g && b))=g:=by
   have:=h4 rfl;simp only at this;subst this;cases a <;> cases b <;> rfl
  unfold jAW qI;simp only;rw [if_pos k,e1,kf];simp only;rw [if_neg (fun q=>absurd q.1 (by decide)),if_neg (fun q=>absurd q.1 (by decide)),if_neg (fun q=>absurd q.1 (by decide)),if_neg (fun q=>absurd q.1 (by decide)),if_pos ⟨trivial,by omega⟩,jHV hW hn e2,hgg];rfl
 ·obtain rfl:f=0:=hs rfl;obtain rfl:x=⟨#[]⟩:=hx rfl;have:g=false:=by cases g with
   | false=>rfl
   | true=>exact absurd (hg rfl) (by omega)
  subst this;have e:zI L t=xW 2 (qU (qL qW) (jDA c)):=hT;obtain ⟨k,kf,h1,h2,n,e1,hn,e2⟩:=tagged e;obtain ⟨u1,u2⟩:=jGM hW hn e2;unfold jAW qI;simp only;rw [if_pos k,e1,kf];simp only;rw [if_neg (fun q=>absurd q.1 (by decide)),if_pos ⟨trivial,trivial⟩,u1,u2];rfl
 ·obtain rfl:f=0:=hs rfl;have:g=false:=by cases g with
   | false=>rfl
   | true=>exact absurd (hg rfl) (by omega)
  subst this;have e:zI L t=xW 2 (qU (qL yC) (vX c x)):=hT;obtain ⟨k,kf,h1,h2,n,e1,hn,e2⟩:=tagged e;unfold jAW qI;simp only;rw [if_pos k,e1,kf];simp only;rw [if_neg (fun q=>absurd q.1 (by decide)),if_neg (fun q=>absurd q.1 (by decide)),if_pos ⟨trivial,trivial⟩,jEO hW hn e2];rfl
 ·obtain rfl:f=0:=hs rfl;obtain rfl:x=⟨#[]⟩:=hx rfl;have:g=false:=by cases g with
   | false=>rfl
   | true=>exact absurd (hg rfl) (by omega)
  subst this;have e:zI L t=qU (qL jHK) (jDA c):=hT;have k:=uX hW ht (e.trans rfl);obtain ⟨n,e1,hn,e2⟩:=jAX hW ht e;obtain ⟨u1,u2⟩:=jGM hW hn e2;unfold jAW;simp only;rw [if_neg (by rw [k.1];decide),if_neg (by rw [k.1];decide),e1];simp only;rw [if_neg (by simp),u1,u2]
end
end Go.Sp
end
section
open Go Go.SE
namespace Go.Sp
open Go.Proofs
def toS (l:Letter):Int:=if letErr l≠0 then -1 else if l.kind=1∨l.kind=2 then IntKind.i64.wrap (1 - l.frm) else if l.kind=3∨l.kind=4 then 2 else -1
def jPK (bs:List UInt8):Letter×Bool:=if (jHC [] bs).2.1≠0 then (yZ,false) else jNS (jHC [] bs).2.2.2 (jHC [] bs).1
end Go.Sp
namespace Go.Proofs
open Tryz
attribute [local irreducible] Calls
theorem c_ltTo (l:Sp.Letter) (w0:World):Calls prog 33 #[.agg #[.int .i64 l.kind,.int .i64 l.frm,.int .u64 l.c,.string l.text,.bool l.fake]] w0 (fun e w'=>∃r:Int,e=.returned (.int .i64 r)∧(r=Sp.toS l∧Pure w0 w')):=by
 refine w_M3 _ _ _ _ _ w0 (fun r w'=>r=Sp.toS l∧Pure w0 w') ?_;unfold m_M3;intro H1 w1 hs;have E1:=hs.first;refine (jCE l w1).mono ?_;rintro _ w2 ⟨r1,rfl,hr,E2⟩;have E02:=E1.trans E2;have fin:∀{H3 w3},Hst w0 H1 w2 H3 w3→Pure w0 w3:=fun h=>E02.hst h;refine ⟨_,rfl,E2.keptP,fun h=>⟨?_,E02⟩,fun h=>⟨fun h2=>?_,fun h2=>⟨fun h3=>?_,fun h3=>?_⟩⟩⟩
 ·unfold Sp.toS;rw [if_pos (by rw [← hr];exact bne_iff_ne.1 h)]
 ·intro H2 w3 hs2;refine ⟨?_,fin hs2⟩;unfold Sp.toS;rw [if_neg (by rw [← hr];simpa using h),if_pos (by cases hk:l.kind == 1 <;> simp [hk] at h2 <;> simp at hk <;> omega)]
 ·intro H2 w3 hs2;refine ⟨?_,fin hs2⟩;unfold Sp.toS;rw [if_neg (by rw [← hr];simpa using h),if_neg (by cases hk:l.kind == 1 <;> simp [hk] at h2 <;> simp at hk <;> omega),if_pos (by cases hk:l.kind == 3 <;> simp [hk] at h3 <;> simp at hk <;> omega)]
 ·intro H2 w3 hs2;refine ⟨?_,fin hs2⟩;unfold Sp.toS;rw [if_neg (by rw [← hr];simpa using h),if_neg (by cases hk:l.kind == 1 <;> simp [hk] at h2 <;> simp at hk <;> omega),if_neg (by cases hk:l.kind == 3 <;> simp [hk] at h3 <;> simp at hk <;> omega)]
theorem jNN (l:Sp.Letter) (hl:Sp.uI l.c) (w0:World) :
  Calls prog 28 #[.agg #[.int .i64 l.kind,.int .i64 l.frm,.int .u64 l.c,.string l.text,.bool l.fake]] w0 (fun e w'=>∃r:Sl,∃n:Int,e=.returned (.tuple #[r.v,.int .i64 n])∧(n=(Sp.tC l).2∧RetO w0 5 1 (byr (Sp.tC l).1) r w')):=by
 refine w_H2 _ _ _ _ _ w0 (fun r n w'=>n=(Sp.tC l).2∧RetO w0 5 1 (byr (Sp.tC l).1) r w') ?_
 unfold m_H2
 intro H1 w1 hs
 have E1:=hs.first
 refine (jQN w1).mono ?_
 rintro _ w2 ⟨_,rfl,p,rfl,E2,F,hP,hF⟩
 refine ⟨_,rfl,E2.keptP,?_⟩
 refine (jLB p l w2 hP Sp.Wf.nil.ok).mono ?_
 rintro _ w3 ⟨r2,r3,rfl,e2,e3,F3,hP3,E3,hF3⟩
 have E02:=E1.trans E2
 have E03:Pure w0 w3:=E02.trans' E3 (fun i hi hf=>by have:=hF i hf;have:=E1.size;omega)
 refine ⟨_,_,rfl,E3.kept (fun b hb hf=>by have:=hs.lt b hb;have:=hF b hf;omega),fun hc=>?_,fun hc=>?_⟩
 ·have hc:=bne_iff_ne.1 hc
  have e:Sp.tC l=([],(zX [] l).2.1):=by unfold Sp.tC;rw [if_pos (by rw [← e3];exact hc)]
  rw [e]
  exact ⟨e3,Rws.nil _ _ _,fun b hb=>(by obtain ⟨a,ha,_⟩:=hb;cases ha),E03⟩
 ·have hc:r3=0:=by simpa using hc
  have e:Sp.tC l=jDO (zX [] l).2.2 (zX [] l).1:=by unfold Sp.tC;rw [if_neg (by rw [← e3];simpa using hc)]
  rw [e,← e2]
  refine (jLZ p r2 w3 (Sp.tG Sp.Wf.nil l) (Sp.tS Sp.tI.nil hl) hP3).mono ?_
  rintro _ w4 ⟨r4,r5,rfl,e5,hR⟩
  exact ⟨_,_,rfl,hR.pure.keptP,e5,hR.rows,fun b hb=>by have:=hR.own b hb;have:=E03.size;omega,E03.trans hR.pure⟩
theorem jNO {S0:NP} (sb:Sl) (bs:List UInt8) (w0:World) (hs:Lst S0 w0 1 sb (byr bs)) (hz:sb.a=none→sb=Sl.nil) :
  Calls prog 24 #[sb.v] w0 (fun e w'=>∃k f c:Int,∃x:ByteArray,∃g ok:Bool,e=.returned (.tuple #[.agg #[.int .i64 k,.int .i64 f,.int .u64 c,.string x,.bool g],.bool ok])∧(((⟨k,f,c,x,g⟩:Sp.Letter),ok)=Sp.jPK bs∧Pure w0 w')):=by
 refine w_G2 _ w0 (fun k f c x g ok w'=>((⟨k,f,c,x,g⟩:Sp.Letter),ok)=Sp.jPK bs∧Pure w0 w') ?_
 unfold m_G2
 intro H1 w1 hs1
 have E1:=hs1.first
 refine (jQN w1).mono ?_
 rintro _ w2 ⟨_,rfl,p,rfl,E2,F,hP,hF⟩
 refine ⟨_,rfl,E2.keptP,?_⟩
 have E02:=E1.trans E2
 refine (jSR p sb bs w2 Sp.Wf.nil hP (hs.pure E02) hz).mono ?_
 rintro _ w3 ⟨t,x,y,rfl,rfl,rfl,rfl,F3,hP3,E3,hF3⟩
 have E03:Pure w0 w3:=E02.trans' E3 (fun i hi hf=>by have:=hF i hf;have:=E1.size;omega)
 refine ⟨_,_,_,rfl,E3.kept (fun b hb hf=>by have:=hs1.lt b hb;have:=hF b hf;omega),fun hc=>?_,fun hc=>?_⟩
 ·intro w4 hs4
  refine ⟨?_,E03.hst hs4⟩
  unfold Sp.jPK;rw [if_pos (bne_iff_ne.1 hc)];rfl
 ·refine (uJ p (jHC [] bs).1 w3 hP3 (Sp.jUT Sp.Wf.nil bs).ok).mono ?_
  rintro _ w5 ⟨k,f,c,x,g,ok,rfl,hr,E5⟩
  refine ⟨_,_,_,_,_,_,rfl,E5.keptP,fun w6 hs6=>⟨?_,(E03.trans E5).hst hs6⟩⟩
  unfold Sp.jPK;rw [if_neg (by simpa using hc),hr]
end Go.Proofs
end
section
open Go Go.SE
namespace Go.Sp
open Go.Proofs
def jFQ (L:Pool) (t:Int):Int×ByteArray×Bool:=if (vT L t).2=true then (0,⟨#[]⟩,false) else ((vT L t).1.1,(vT L t).1.2,true)
theorem jPV {L:Pool} (c:Int) {x:ByteArray} (h:x.size>64):of L (vX c x)=(0,1,L):=by
 have e1:zV ⟨3,0,0,0,x,0,0⟩=0:=by kernel_rfl
 have e2:zU (shapeOf 3) ⟨3,0,0,0,x,0,0⟩=1:=by show (if false=true then (50:Int) else if x.size>64 then 1 else 0)=1;rw [if_neg (by simp),if_pos h]
 have e3:qM ⟨3,0,0,0,x,0,0⟩ 0=1:=by
  unfold qM;simp only [e1];simpa [shapeOf] using e2
 have a:qM ⟨4,0,0,0,⟨#[]⟩,0,0⟩ 2=0:=by kernel_rfl
 have b:qM ⟨3,0,0,0,jAU,0,0⟩ 0=0:=by kernel_rfl
 have d:qM ⟨2,0,0,c,⟨#[]⟩,0,0⟩ 0=0:=by kernel_rfl
 have hl:(vY 0 0 (vX c x)).1=1:=by
  simp [vX,qU,qL,jDA,vY,vF,a,b,d,e3]
 unfold of;rw [hl,if_pos (by decide)]
end Go.Sp
namespace Go.Proofs
open Tryz
attribute [local irreducible] Calls
theorem jJH (p:Option Addr) (t:Int) (w0:World) {L:Sp.Pool} {F:NP} (hP:jCG w0 p L F) (hok:Sp.Ok L) :
  Calls prog 42 #[.pointer p,.int .i64 t] w0 (fun e w'=>∃c:Int,∃x:ByteArray,∃g:Bool,e=.returned (.tuple #[.int .u64 c,.string x,.bool g])∧((c,x,g)=Sp.jFQ L t∧Pure w0 w')):=by
 refine w_I2 _ _ w0 (fun c x g w'=>(c,x,g)=Sp.jFQ L t∧Pure w0 w') ?_
 unfold m_I2
 intro p2 w1 n2
 have hp:=n2.at_size
 have E1:Pure w0 w1:=Ext.new n2
 have hR:ReaderAt w1 p2 p false L F:=⟨Box.of_newA n2,hP.pure E1,hok,fun hf=>by have:=hP.lt hf;omega⟩
 refine (jFB p2 p t false w1 hR).mono ?_
 rintro _ w2 ⟨c,x,rfl,hcx,hR2,E2⟩
 have E02:Pure w0 w2:=E1.own (by omega) E2
 refine ⟨c,x,rfl,_,hR2.box.cell (i:=1) rfl,fun h=>⟨?_,E02⟩,fun h=>⟨?_,E02⟩⟩
 ·unfold Sp.jFQ;rw [if_pos (by simpa using h)]
 ·unfold Sp.jFQ;rw [if_neg (by rw [Bool.false_or] at h;rw [h];decide),← hcx]
theorem jQI (p:Option Addr) (c:Int) (x:ByteArray) (w0:World) {L:Sp.Pool} {F:NP} (hP:jCG w0 p L F) (hok:Sp.Ok L) :
  Calls prog 44 #[.pointer p,.int .u64 c,.string x] w0 (fun e w'=>∃r1 r2:Int,e=.returned (.tuple #[.int .i64 r1,.int .i64 r2])∧((match p with
   | none=>r1=0∧r2=(if x.size>64 then 1 else 2)∧Pure w0 w'
   | some q=>r1=(Sp.of L (Sp.vX c x)).1∧r2=(Sp.of L (Sp.vX c x)).2.1∧∃F',zO w' q (Sp.of L (Sp.vX c x)).2.2 F'∧Ext F w0 w'∧∀b,F' b→F b∨w0.heap.size≤b))):=by
 refine w_N3 _ _ _ w0 _ ?_
 unfold m_N3
 have hF:∀b,F b→b<w0.heap.size:=fun b hb=>hP.lt hb
 refine ⟨fun h=>?_,fun h=>⟨fun h2=>?_,fun h2=>?_⟩⟩
 ·have h:x.size>64:=by have:=of_decide_eq_true h;omega
  cases p with
  | none=>exact ⟨rfl,by rw [if_pos h],Ext.refl _⟩
  | some q =>
   simp only [Sp.jPV c h]
   exact ⟨trivial,trivial,F,hP,Ext.refl _,fun b hb=>.inl hb⟩
 ·have h:¬ x.size>64:=by have:=of_decide_eq_false h;omega
  cases p with
  | none=>exact ⟨rfl,by rw [if_neg h],Ext.refl _⟩
  | some q=>cases h2
 ·cases p with
  | none=>cases h2
  | some q =>
   refine (jLW (S:=fun b=>w0.heap.size≤b) w0 (fun _ h=>h) c x).mono ?_
   rintro _ w1 ⟨s,he,hT,E1⟩
   have hT:TreeAt (fun b=>w0.heap.size≤b) w1 s (Sp.vX c x):=hT
   generalize Sp.vX c x=D at *
   obtain ⟨dk,df,dt,du,dx,dks⟩:=D
   refine ⟨dk,df,dt,du,dx,s,he,?_⟩
   refine (c_Of (S:=fun b=>w0.heap.size≤b∧b<w1.heap.size) q _ s w1 hT.lt (hP.pure E1) hok (fun b hb hh=>by have:=hF b hb;omega) (fun b hb=>hb.2)).mono ?_
   rintro _ w2 ⟨r1,r2,rfl,h12,F',hP2,X2,hF2⟩
   obtain ⟨e1,e2⟩:=Prod.mk.inj h12
   exact ⟨r1,r2,rfl,e1,e2,F',hP2,(Ext.pure E1).trans X2,fun b hb=>(hF2 b hb).imp id (fun h=>by have:=E1.size;omega)⟩
end Go.Proofs
end
section
open Go Go.SE
namespace Go.Sp
open Go.Proofs
def hexT:ByteArray:=⟨#[48,49,50,51,52,53,54,55,56,57,97,98,99,100,101,102]⟩
def jUQ (n:Nat):UInt8:=(hexT.data.toList[n]?).getD 0
def jNI (c:UInt8):List UInt8:=if c.toNat=34∨c.toNat=92 then [92,c] else if c.toNat=10 then [92,110] else if 32≤c.toNat∧c.toNat≤126 then [c] else [92,120,jUQ (c.toNat / 16),jUQ (c.toNat % 16)]
def jCJ (k:Int):List UInt8 :=
 if k=1 then [112,114,111,109,105,115,101] else if k=2 then [115,105,103,110] else if k=3 then [97,98,111,114,116] else if k=4 then [114,101,115,111,108,118,101]
 else if k=5 then [116,111,107,101,110] else if k=6 then [105,110,115,116,101,97,100] else if k=7 then [102,117,108,108] else []
def jKD (x:ByteArray):List UInt8:=34 :: (x.data.toList.flatMap jNI++[34])
def jIG (l:Letter):List UInt8 :=
 if letErr l≠0 then [] else
 jCJ l.kind++(if l.fake=true then [33] else [])++(if isSigned l.kind=true then 32 :: Lib.decDigits l.frm.toNat else [])++(32 :: Lib.decDigits l.c.toNat)++(if isTexted l.kind=true then 32 :: jKD l.text else [])
theorem jLT (c:UInt8):(jNI c).length≤4:=by
 unfold jNI;repeat' split
 all_goals simp
theorem jPU:∀l:List UInt8,(l.flatMap jNI).length≤4*l.length
 | []=>by simp
 | c :: l=>by
  have:=jLT c;have:=jPU l;rw [List.flatMap_cons,List.length_append,List.length_cons];omega
theorem jOA (k:Int):(jCJ k).length≤7:=by
 unfold jCJ;repeat' split
 all_goals simp
end Go.Sp
end
section
open Go Go.SE
namespace Go.Proofs
open Tryz
set_option maxRecDepth 100000
set_option maxHeartbeats 4000000
attribute [local irreducible] wpL wpX opE wpE Calls
def m_Y4 (b1:Option Addr) (s1:ByteArray) (w0:World) (K:Int→Value→WP):Prop :=Calls prog 133 #[(vp b1)] w0 (fun e w1=>e=.returned (.tuple #[])∧∃a1,b1=some a1∧∃v1:Sl,w1.cell? (a1.add 1)=some v1.v∧∃s2:Sl,∃w2:World,(Builtin.append_ #[54,9] 54 #[v1.v,(vs s1)]).run prog w1=.ok s2.v w2∧∃a2,b1=some a2∧zQ w2 (a2.add 1)∧∀w3,w3=w2.setCell (a2.add 1) s2.v→K (s1.size:Int) (.nilIface:Value) w3)
theorem w_Y4 (b1 s1 w0 K) (h:m_Y4 b1 s1 w0 K):
  Calls prog 76 #[(vp b1),(vs s1)] w0 (fun e w'=>∃r1,∃r2:Value,e=.returned (.tuple #[(vi r1),r2])∧K r1 r2 w'):=by
 refine cw (args:=[(vp b1),(vs s1)]) func76 ntmps76 (eg (q0 (vi 0) (q0 (.nilIface:Value) (ln (eg (q0 (vp b1) ?_))))))
 refine sc call133 (h.mono fun e w1 ⟨k,h⟩=>⟨_,k,?_⟩)
 refine ln (eg (qb (qm h fun a1 h=>q (ql (isAgg54 _) h fun v1 h=>q ?_))))
 obtain ⟨s2,w2,hv1,h⟩:=h
 refine st (v:=s2.v) (zJ rfl) (vH (args:=#[v1.v,(vs s1)]) (by kernel_rfl) (fun _=>rfl) hv1) (qm h fun a2 h=>q (st1 (sizeOf54 _) h fun w3 h=>ln (eg (qd (ln (er (uF (.inl rfl) results76 (v:=(vi (s1.size:Int))) (by kernel_rfl) (v':=(.nilIface:Value)) (by kernel_rfl) ⟨(s1.size:Int),(.nilIface:Value),rfl,h⟩)))))))
def m_Z4 (b1:Option Addr) (c1:Int) (w0:World) (K:Value→WP):Prop :=Calls prog 133 #[(vp b1)] w0 (fun e w1=>e=.returned (.tuple #[])∧∃a1,b1=some a1∧∃v1:Sl,w1.cell? (a1.add 1)=some v1.v∧∀p1 w2,New w1 (.cells #[(.int .u8 c1)] 5) p1 w2→∃s1:Sl,∃w3:World,(Builtin.append_ #[54,54] 54 #[v1.v,(Sl.mk (some p1) 1 1).v]).run prog w2=.ok s1.v w3∧∃a2,b1=some a2∧zQ w3 (a2.add 1)∧∀w4,w4=w3.setCell (a2.add 1) s1.v→K (.nilIface:Value) w4)
theorem w_Z4 (b1 c1 w0 K) (h:m_Z4 b1 c1 w0 K):
  Calls prog 77 #[(vp b1),(.int .u8 c1)] w0 (fun e w'=>∃r1:Value,e=.returned r1∧K r1 w'):=by
 refine cw (args:=[(vp b1),(.int .u8 c1)]) func77 ntmps77 (eg (q0 (.nilIface:Value) (ln (eg (q0 (vp b1) ?_)))))
 refine sc call133 (h.mono fun e w1 ⟨k,h⟩=>⟨_,k,?_⟩)
 refine ln (eg (qb (qm h fun a1 h=>q (ql (isAgg54 _) h fun v1 h=>q (yV (O:=(.cells #[(.int .u8 c1)] 5)) (fun p=>(Sl.mk (some p) 1 1).v) (zJ rfl) (vO (vs:=#[(0,(.int .u8 c1))]) (by kernel_rfl) (by kernel_rfl)) ?_)))))
 intro p1 w2 hn2
 have h:=h p1 w2 hn2
 obtain ⟨s1,w3,hv1,h⟩:=h
 refine st (v:=s1.v) (zJ rfl) (vH (args:=#[v1.v,(Sl.mk (some p1) 1 1).v]) (by kernel_rfl) (fun _=>rfl) hv1) (qm h fun a2 h=>q (st1 (sizeOf54 _) h fun w4 h=>ln (eg (q (ln (er (rs1 results77 ⟨(.nilIface:Value),rfl,h⟩)))))))
end Go.Proofs
end
section
open Go Go.SE
namespace Go.SE
theorem jPT {B:Nat} {w w':World} (h:RowKit.Below B w w'):Ext (fun b=>B≤b) w w':=⟨h.os,h.tape,h.output,(by first | exact Nat.le_refl _),h.size,fun b _ hf=>h.block b (by omega)⟩
end Go.SE
namespace Go.Proofs
open Tryz
attribute [local irreducible] Calls
def Bld (w:World) (p:Addr) (l:List UInt8):Prop :=
 ∃(q:Value) (s:Sl),Box w p [q,s.v] 126∧(q=.pointer none∨q=.pointer (some p))∧Rws w 5 1 s (byr l)∧∀b,s.blk b→p.block<b
abbrev From (p:Addr) (b:Nat):Prop:=p.block≤b
section
variable {w w':World} {p:Addr} {l:List UInt8}
theorem Bld.pure (h:Bld w p l) (E:Pure w w'):Bld w' p l:=by
 obtain ⟨q,s,hB,hq,hR,hb⟩:=h;exact ⟨q,s,hB.pure E,hq,hR.pure E,hb⟩
theorem Bld.lt (h:Bld w p l):p.block<w.heap.size:=by obtain ⟨q,s,hB,_⟩:=h;exact hB.lt
theorem Bld.new (h:New w (.cells #[.pointer none,Sl.nil.v] 126) p w'):Bld w' p [] :=
 ⟨_,Sl.nil,Box.of_newA h,.inl rfl,Rws.nil _ _ _,fun b hb=>(by obtain ⟨a,h,_⟩:=hb;cases h)⟩
theorem jFC {q:Value} {s:Sl} (hB:Box w p [q,s.v] 126) (hq:q=.pointer none∨q=.pointer (some p)) :
  Calls prog 133 #[.pointer (some p)] w (fun e w'=>e=.returned (.tuple #[])∧Box w' p [.pointer (some p),s.v] 126∧Ext (·=p.block) w w'):=by
 have hp:=hB.addr
 have h0:w.cell? ⟨p.block,0,none⟩=some q:=by have:=hB.cell0;rwa [hp] at this
 rcases hq with rfl | rfl
 ·have h1:=jSJ p.block w h0 (by simp [World.shape?,hB.blk]) (by simp [World.frozen?,hB.blk])
  rw [← hp] at h1
  refine h1.mono ?_
  rintro _ w' ⟨rfl,rfl⟩
  exact ⟨rfl,hB.set0,Ext.setCell _ _⟩
 ·rw [hp] at h0
  have h1:=jUU p.block w h0
  rw [← hp] at h1
  refine h1.mono ?_
  rintro _ w' ⟨rfl,rfl⟩
  exact ⟨rfl,hB,Ext.refl _⟩
theorem jIW (h:Bld w p l) (s:ByteArray) (hl:l.length+s.size≤100000000) :
  Calls prog 76 #[.pointer (some p),.string s] w (fun e w'=>∃r1:Int,∃r2:Value,e=.returned (.tuple #[.int .i64 r1,r2])∧(Bld w' p (l++s.data.toList)∧Ext (From p) w w')):=by
 refine w_Y4 (some p) s w (fun r1 r2 w'=>Bld w' p (l++s.data.toList)∧Ext (From p) w w') ?_
 unfold m_Y4
 obtain ⟨q,sl,hB,hq,hR,hb⟩:=h
 refine (jFC hB hq).mono ?_
 rintro _ w1 ⟨rfl,hB1,E1⟩
 have hR1:=hR.ext E1 (fun b hs e=>by have:=hb b hs;omega)
 obtain ⟨s',w2,hrun,hR2,E2,hn⟩:=hR1.appendStr (P:=prog) (ty:=54) jBN underlying9 s (by rw [vP];omega) (by rw [vP];simp only [maxLen];omega)
 have z1:=E1.size;have hlt:=hB.lt
 have hB2:=hB1.ext E2 (fun hs=>by have:=hb _ hs;omega)
 refine ⟨rfl,p,rfl,sl,hB1.cell rfl,s',w2,hrun,p,rfl,hB2.canW (by simp),?_⟩
 rintro _ rfl
 have E3:Ext (·=p.block) w2 (w2.setCell (p.add 1) s'.v):=by have:=Ext.setCell (w:=w2) (p.add 1) s'.v;rw [zP] at this;exact this
 have hb':∀b,s'.blk b→p.block<b:=fun b hs=>(hn b hs).elim (hb b) (fun h=>by omega)
 refine ⟨⟨_,s',hB2.set 1 _,.inr rfl,?_,hb'⟩,?_⟩
 ·have e:byr l++byr s.data.toList=byr (l++s.data.toList):=by simp [byr]
  rw [← e]
  exact hR2.ext E3 (fun b hs e=>by have:=hb' b hs;omega)
 ·exact ((E1.mono (fun b _ e=>by show p.block≤b;omega)).trans (E2.mono (fun b _ hs=>by have:=hb b hs;show p.block≤b;omega))).trans (E3.mono (fun b _ e=>by show p.block≤b;omega))
theorem jQA (h:Bld w p l) (c:UInt8) (hl:l.length+1≤100000000) :
  Calls prog 77 #[.pointer (some p),.int .u8 (c.toNat:Int)] w (fun e w'=>∃r:Value,e=.returned r∧(Bld w' p (l++[c])∧Ext (From p) w w')):=by
 refine w_Z4 (some p) (c.toNat:Int) w (fun r w'=>Bld w' p (l++[c])∧Ext (From p) w w') ?_
 unfold m_Z4
 obtain ⟨q,sl,hB,hq,hR,hb⟩:=h
 refine (jFC hB hq).mono ?_
 rintro _ w1 ⟨rfl,hB1,E1⟩
 have hR1:=hR.ext E1 (fun b hs e=>by have:=hb b hs;omega)
 refine ⟨rfl,p,rfl,sl,hB1.cell rfl,fun p1 w2 n2=>?_⟩
 have En:Pure w1 w2:=Ext.new n2
 obtain ⟨s',w3,hrun,hR2,E2,hn⟩:=(hR1.pure En).append (P:=prog) (ty:=54) (c:=1) jBN (p:=p1) (r:=[.int .u8 (c.toNat:Int)]) (Box.of_newA n2).row rfl rfl (by rw [vP];omega) (by rw [vP];simp only [maxLen];omega)
 have z1:=E1.size;have hlt:=hB.lt;have zn:=En.size
 have hB2:=(hB1.pure En).ext E2 (fun hs=>by have:=hb _ hs;omega)
 refine ⟨s',w3,hrun,p,rfl,hB2.canW (by simp),?_⟩
 rintro _ rfl
 have E3:Ext (·=p.block) w3 (w3.setCell (p.add 1) s'.v):=by have:=Ext.setCell (w:=w3) (p.add 1) s'.v;rw [zP] at this;exact this
 have hb':∀b,s'.blk b→p.block<b:=fun b hs=>(hn b hs).elim (hb b) (fun h=>by omega)
 refine ⟨⟨_,s',hB2.set 1 _,.inr rfl,?_,hb'⟩,?_⟩
 ·have e:byr l++[[.int .u8 (c.toNat:Int)]]=byr (l++[c]):=by simp [byr]
  rw [← e]
  exact hR2.ext E3 (fun b hs e=>by have:=hb' b hs;omega)
 ·exact (((E1.mono (fun b _ e=>by show p.block≤b;omega)).thenPure En).trans (E2.mono (fun b _ hs=>by have:=hb b hs;show p.block≤b;omega))).trans (E3.mono (fun b _ e=>by show p.block≤b;omega))
theorem jTJ (h:Bld w p l) :
  Calls prog 81 #[.pointer (some p)] w (fun e w'=>∃r:ByteArray,e=.returned (.string r)∧(r=⟨l.toArray⟩∧Ext (From p) w w')):=by
 obtain ⟨q,s,hB,hq,hR,hb⟩:=h
 have hp:=hB.addr
 have hown:w.ownsRow p.block 5 1 s.v (Lib.byteCells l).length (Lib.byteCells l):=by
  have hf:(byr l).flatten=Lib.byteCells l:=by
   unfold byr Lib.byteCells;have:∀l:List UInt8,(l.map fun b=>[Value.int .u8 (b.toNat:Int)]).flatten=l.map fun b=>Value.int .u8 (b.toNat:Int):=fun l=>by
    induction l with
    | nil=>rfl
    | cons a t ih=>rw [List.map_cons,List.flatten_cons,ih];rfl
   exact this l
  have hl:(Lib.byteCells l).length=l.length:=Lib.byteCells_length l;refine ⟨by omega,?_⟩;rcases hR.own with ⟨rfl,hnil⟩ | ⟨g,cur,ha,hg,hc,hm,hs,ht⟩
  ·have:l=[]:=by cases l with | nil=>rfl | cons a t=>simp [byr] at hnil
   subst this;exact .inl ⟨rfl,rfl⟩
  ·refine .inr ⟨g,s.cap,cur,?_,?_,hg,by rw [hl];rw [vP] at hc;exact hc,hm,hs,?_⟩
   ·unfold Sl.v;rw [ha,hR.len,vP,hl]
   ·exact Nat.le_of_lt (hb g ⟨_,ha,rfl⟩)
   ·rw [hl,← hf,← ht,vP]
 have hat:Lib.IsBuilder 126 5 p.block p.block (Lib.byteCells l) w:=by
  have hA:∀q',q=q'→Lib.BuilderAt 126 5 p.block p.block q' (Lib.byteCells l) w:=by
   rintro _ rfl;refine ⟨Nat.le_refl _,s.v,hB.blk,hown,?_⟩;intro e;unfold Value.ownBlock Sl.v at e;cases ha:s.a with
   | none=>rw [ha] at e;cases e
   | some a =>
    rw [ha] at e
    simp at e
    have:=hb a.block ⟨a,ha,rfl⟩
    omega
  rcases hq with h | h
  ·exact .inl (hA _ h)
  ·refine .inr ?_;have:=hA _ h;rwa [hp] at this
 have hlt:=hB.lt
 have:=jRU p.block p.block l w hat (by omega)
 rw [← hp] at this
 refine this.mono ?_
 rintro _ w' ⟨rfl,h2⟩
 exact ⟨_,rfl,rfl,jPT h2⟩
end
end Go.Proofs
end
section
open Go Go.SE
open Go.IntKind renaming i64 → q6
namespace Go.Proofs
open Tryz
set_option maxRecDepth 100000
set_option maxHeartbeats 4000000
attribute [local irreducible] wpL wpX opE wpE Calls
def m_X1 (n1:Int) (w0:World) (K:ByteArray→WP):Prop :=Br (decide (n1<10)) (∃s1,(Instr.sliceAt 9 (vs (⟨#[48,49,50,51,52,53,54,55,56,57]⟩:ByteArray)) (some (vu n1)) (some (vu (IntKind.u64.wrap (n1+1)))) none).run prog w0=.ok (vs s1) w0∧K s1 w0) (∃z1,(Go.binOp .quo 26 (vu n1) (vu 10)).run prog w0=.ok (vu z1) w0∧Calls prog 48 #[(vu z1)] w0 (fun e w1=>∃r1,e=.returned (vs r1)∧∃z2,(Go.binOp .rem 26 (vu n1) (vu 10)).run prog w1=.ok (vu z2) w1∧Calls prog 48 #[(vu z2)] w1 (fun e w2=>∃r2,e=.returned (vs r2)∧∃s2,(Go.binOp .add 9 (vs r1) (vs r2)).run prog w2=.ok (vs s2) w2∧K s2 w2)))
theorem w_X1 (n1 w0 K) (h:m_X1 n1 w0 K):
  Calls prog 48 #[(vu n1)] w0 (fun e w'=>∃r3,e=.returned (vs r3)∧K r3 w'):=by
 refine cw (args:=[(vu n1)]) func48 ntmps48 (eg (q0 ve (ln (zA (eg (q0 (vu n1) (q0 (vb (decide (n1<10))) (zB ?_))))))))
 refine zL (cbr h ?_ ?_)<;>intro h
 refine eg (qc ?_)
 obtain ⟨s1,hv1,h⟩:=h
 refine q2 (vs s1) (yW (by kernel_rfl) (by kernel_rfl) (by kernel_rfl) (by kernel_rfl) hv1) (q (ln (er (vD (rs1 results48 ⟨s1,rfl,h⟩)))))
 refine zC (zL (eg (q ?_)))
 obtain ⟨z1,hv4,h⟩:=h
 refine q2 (vu z1) (xD (by kernel_rfl) (by kernel_rfl) (by kernel_rfl) hv4) (sc call48 (h.mono fun e w1 ⟨r1,k,h⟩=>⟨_,k,?_⟩))
 refine q ?_
 obtain ⟨z2,hv3,h⟩:=h
 refine q2 (vu z2) (xD (by kernel_rfl) (by kernel_rfl) (by kernel_rfl) hv3) (sc call48 (h.mono fun e w2 ⟨r2,k,h⟩=>⟨_,k,?_⟩))
 obtain ⟨s2,hv2,h⟩:=h
 refine q2 (vs s2) (xD (by kernel_rfl) (by kernel_rfl) (by kernel_rfl) hv2) (q (ln (er (rs1 results48 ⟨s2,rfl,h⟩))))
def m_A5 (i1 base1:Int) (w0:World) (K:ByteArray→WP):Prop :=Br (base1 == 10) (Br (decide (i1<100)) (Calls prog 176 #[(vi (q6.wrap i1))] w0 (fun e w1=>∃r1,e=.returned (vs r1)∧K r1 w1)) (∀p1 w2,New w0 (.cells #[(.int .u8 0),(.int .u8 0),(.int .u8 0),(.int .u8 0),(.int .u8 0),(.int .u8 0),(.int .u8 0),(.int .u8 0),(.int .u8 0),(.int .u8 0),(.int .u8 0),(.int .u8 0),(.int .u8 0),(.int .u8 0),(.int .u8 0),(.int .u8 0),(.int .u8 0),(.int .u8 0),(.int .u8 0),(.int .u8 0),(.int .u8 0),(.int .u8 0),(.int .u8 0),(.int .u8 0)] 244) p1 w2→Calls prog 177 #[(vu i1)] w2 (fun e w3=>∃r2,e=.returned (vi r2)∧∃s1:Sl,(Instr.sliceAt 244 (vp (some p1)) none (some (vi r2)) none).run prog w3=.ok s1.v w3∧Calls prog 178 #[s1.v,(vu i1)] w3 (fun e w4=>e=.returned (.tuple #[])∧∃s2:Sl,(Instr.sliceAt 244 (vp (some p1)) none (some (vi r2)) none).run prog w4=.ok s2.v w4∧∃c1,(convert 54 9 s2.v).run prog w4=.ok (vs c1) w4∧K c1 w4)))) (Calls prog 179 #[Sl.nil.v,(vu i1),(vi base1),(vb false),(vb false)] w0 (fun e w5=>∃r3:Sl,∃r4,e=.returned (.tuple #[r3.v,(vs r4)])∧K r4 w5))
theorem w_A5 (i1 base1 w0 K) (h:m_A5 i1 base1 w0 K):
  Calls prog 135 #[(vu i1),(vi base1)] w0 (fun e w'=>∃r5,e=.returned (vs r5)∧K r5 w'):=by
 refine cw (args:=[(vu i1),(vi base1)]) func135 ntmps135 (eg (q0 ve (ln (zA (eg (q0 (vi base1) (q0 (vb (base1 == 10)) (zB ?_))))))))
 refine zL (cbr h ?_ ?_)<;>intro h
 refine zA (eg (qb (ln (cbr h ?_ ?_))))<;>intro h
 refine eg (qb (sc call176 (h.mono fun e w1 ⟨r1,k,h⟩=>⟨_,k,?_⟩)))
 refine q (ln (er (vD (vD (rs1 results135 ⟨r1,rfl,h⟩)))))
 refine zC (zL (eg (nw1 h (zF (zeroValue244 _) rfl) fun p1 w2 h=>ln (eg (q (sc call177 (h.mono fun e w3 ⟨r2,k,h⟩=>⟨_,k,?_⟩)))))))
 refine q (ln (eg (q ?_)))
 obtain ⟨s1,hv3,h⟩:=h
 refine q2 s1.v (yW (by kernel_rfl) (by kernel_rfl) (by kernel_rfl) (by kernel_rfl) hv3) (q (sc call178 (h.mono fun e w4 ⟨k,h⟩=>⟨_,k,?_⟩)))
 refine ln (eg (q ?_))
 obtain ⟨s2,hv2,h⟩:=h
 refine q2 s2.v (yW (by kernel_rfl) (by kernel_rfl) (by kernel_rfl) (by kernel_rfl) hv2) ?_
 obtain ⟨c1,hv1,h⟩:=h
 refine q2 (vs c1) (xS (by kernel_rfl) hv1) (q (ln (er (vD (rs1 results135 ⟨c1,rfl,h⟩)))))
 refine zC (zL (eg (qb (sc call179 (h.mono fun e w5 ⟨r3,r4,k,h⟩=>⟨_,k,?_⟩)))))
 refine q (qd (ln (eg (qb (zB (zL (er (rs1 results135 ⟨r4,rfl,h⟩))))))))
def m_B5 (i1 base1:Int) (w0:World) (K:ByteArray→WP):Prop :=Calls prog 135 #[(vu i1),(vi base1)] w0 (fun e w1=>∃r1,e=.returned (vs r1)∧K r1 w1)
theorem w_B5 (i1 base1 w0 K) (h:m_B5 i1 base1 w0 K):
  Calls prog 79 #[(vu i1),(vi base1)] w0 (fun e w'=>∃r2,e=.returned (vs r2)∧K r2 w'):=by
 refine cw (args:=[(vu i1),(vi base1)]) func79 ntmps79 (eg (q0 ve (ln (eg (q0 (vu i1) (q0 (vi base1) ?_))))))
 refine sc call135 (h.mono fun e w1 ⟨r1,k,h⟩=>⟨_,k,?_⟩)
 refine q (ln (er (rs1 results79 ⟨r1,rfl,h⟩)))
end Go.Proofs
end
section
open Go Go.SE
namespace Go.SE
theorem jCY {w:World} {k:Nat} {os:Array Obj}:Pure w (Sort.grow (w.drewN k) os):=by
 refine ⟨rfl,rfl,rfl,(by first | exact Nat.le_add_right _ _ | exact Nat.le_refl _),by simp [Sort.grow,World.drewN],fun b hb _=>?_⟩;show (w.heap++os)[b]?=w.heap[b]?;exact Array.getElem?_append_left hb
theorem yY {P:Program} {w w':World} {name:String} {k:IntKind} {zs:List Int} (h:Lib.TabIs P w name k zs) (E:Pure w w'):Lib.TabIs P w' name k zs:=by
 unfold Lib.TabIs World.var? at *;cases hg:P.globalNamed name with
 | none=>simp [hg] at h
 | some g =>
  simp only [hg,Option.bind_some] at h ⊢
  have hlt:g<w.heap.size:=by
   rcases Nat.lt_or_ge g w.heap.size with h' | h'
   ·exact h'
   ·rw [Array.getElem?_eq_none h'] at h;simp at h
  rw [E.keep g hlt id]
  exact h
theorem jKN (w:World) (T:TypeId) (nd:Nat) (hs:nd≤24):Sort.Holds (fun (b:UInt8)=>Value.int .u8 (b.toNat:Int)) (w.alloc (.cells Lib.zeros24 T)) w.heap.size 0 (Array.replicate nd (0:UInt8)):=fun j hj=>by
 have hj':j<nd:=by simpa using hj
 refine ⟨?_,World.frozen?_alloc_new _ _ _ _⟩;rw [World.cell?_alloc_new,Lib.zeros24_at _ (by omega),getElem!_pos _ j hj];simp
theorem jSF (w:World) (o:Obj) (dk:Array UInt8) (k:Nat):∃os,(Sort.putRow (fun (b:UInt8)=>Value.int .u8 (b.toNat:Int)) (w.alloc o) w.heap.size 0 dk).drewN k=Sort.grow (w.drewN k) os:=by
 rw [Sort.alloc_eq_grow];obtain ⟨os',_,e⟩:=Sort.putRow_grow_new (fun (b:UInt8)=>Value.int .u8 (b.toNat:Int)) w #[o] w.heap.size 0 dk (Nat.le_refl _);exact ⟨os',by rw [e];rfl⟩
end Go.SE
namespace Go.Proofs
open Tryz
attribute [local irreducible] Calls
abbrev Pow (w : World) : Prop := Lib.TabIs prog w "internal/strconv.uint64pow10" .u64 Lib.pow10Tab
theorem jJM (n:Nat) (hn:n<18446744073709551616) (w0:World) (ht:Pow w0) :
  Calls prog 79 #[.int .u64 (n:Int),.int .i64 10] w0 (fun e w'=>∃r:ByteArray,e=.returned (.string r)∧r=⟨(Lib.decDigits n).toArray⟩∧Pure w0 w'):=by
 refine w_B5 _ _ w0 (fun r w'=>r=⟨(Lib.decDigits n).toArray⟩∧Pure w0 w') ?_
 unfold m_B5
 refine w_A5 _ _ w0 (fun r w'=>r=⟨(Lib.decDigits n).toArray⟩∧Pure w0 w') ?_
 unfold m_A5
 refine ⟨fun _=>⟨fun h=>?_,fun h=>?_⟩,fun h=>absurd h (by decide)⟩
 ·have h:=of_decide_eq_true h
  have hw:IntKind.i64.wrap (n:Int)=(n:Int):=IntWalk.i64_in _ ⟨by omega,by omega⟩
  rw [hw]
  refine (jPL n (by omega) w0).mono ?_
  rintro _ w1 ⟨rfl,rfl⟩
  exact ⟨_,rfl,rfl,Ext.refl _⟩
 ·have h:¬ (n:Int)<100:=of_decide_eq_false h
  intro p1 w2 h2
  obtain ⟨hp,hw⟩:=h2
  subst hp;subst hw
  have hnd:=Lib.numDigits_eq n (by omega) hn
  have hnd20:Lib.nDigits n≤20:=by split at hnd <;> omega
  refine (jGQ n (by omega) hn _ (Lib.tabIs_alloc ht _)).mono ?_
  rintro _ w3 ⟨rfl,rfl⟩
  have hal:prog.arrayLen 244=24:=by simp [Program.arrayLen,underlying244]
  have hsl:∀W,(Instr.sliceAt 244 (.pointer (some ⟨w0.heap.size,0,none⟩)) none (some (.int .i64 (Lib.nDigits n:Int))) none).run prog W=.ok (Sl.mk (some ⟨w0.heap.size,0,none⟩) (Lib.nDigits n) 24).v W:=fun W=>by
   rw [run_sliceAt_array_h W 244 ⟨w0.heap.size,0,none⟩ (by simp [Program.arrayLen,Program.elem,underlying244]) .i64 (Lib.nDigits n:Int) (by omega) (by rw [hal];omega)];go_simp;unfold Sl.v;simp
  refine ⟨_,rfl,Sl.mk (some ⟨w0.heap.size,0,none⟩) (Lib.nDigits n) 24,hsl _,?_⟩
  have hH0:=jKN w0 244 (Lib.nDigits n) (by omega)
  have hf:=jNA w0.heap.size 0 24 n (Array.replicate (Lib.nDigits n) 0) _ hH0 (by rw [Array.size_replicate];exact Lib.lt_pow_nDigits n) hn (by rw [Array.size_replicate];omega)
  rw [Array.size_replicate] at hf
  have hH1:=Lib.hid hH0
  refine Calls.mono hf ?_
  rintro _ w4 ⟨rfl,k,v',dk,rfl,hF⟩
  refine ⟨rfl,Sl.mk (some ⟨w0.heap.size,0,none⟩) (Lib.nDigits n) 24,hsl _,⟨(Lib.decDigits n).toArray⟩,?_,rfl,?_⟩
  ·have h := run_convert_bytes_back (P := prog) ((Sort.putRow (fun (b : UInt8) => Value.int .u8 (b.toNat : Int)) (w0.alloc (.cells Lib.zeros24 244)) w0.heap.size 0 dk).drewN k) 54 9 5 ⟨w0.heap.size, 0, none⟩ 24 (Lib.decDigits n) underlying54 underlying5 underlying9 (fun j hj => by
    rw [Lib.row_is_numeral hF j hj,Lib.add_plain,World.cell?_drewN];exact Sort.cell?_putRow (fun (b:UInt8)=>Value.int .u8 (b.toNat:Int)) _ w0.heap.size 0 _ dk hH1.out (by rw [hF.size,Array.size_replicate]) j (by rw [hF.size];rw [Lib.decDigits_length] at hj;exact hj))
   rw [Lib.decDigits_length] at h
   exact h
  ·obtain ⟨os,eo⟩:=jSF w0 (.cells Lib.zeros24 244) dk k
   have E:Pure w0 (Sort.grow (w0.drewN k) os):=jCY
   rw [← eo] at E
   exact E
theorem c_Itoa (n:Int) (h0:-9223372036854775808≤n) (h1:n≤9223372036854775807) (w0:World) (ht:Pow w0) :
  Calls prog 78 #[.int .i64 n] w0 (fun e w'=>∃r:ByteArray,e=.returned (.string r)∧r=⟨(Lib.itoa n).toArray⟩∧Pure w0 w'):=by
 refine (jRV n h0 h1 w0 ht).mono ?_
 rintro _ w1 ⟨rfl,k,os,rfl⟩
 exact ⟨_,rfl,rfl,jCY⟩
theorem nd20 {n:Nat} (h:n<18446744073709551616):(Lib.decDigits n).length≤20:=by
 rw [Lib.decDigits_length];by_cases h0:n<10
 ·rw [Lib.nDigits_small h0];omega
 ·have:=Lib.numDigits_eq n (by omega) h;split at this <;> omega
theorem jUA {P:Program} {t:TypeId} {w:World} (x y:List UInt8) (hx:x.length≤1000) (hy:y.length≤1000) :
  (Go.binOp .add t (.string ⟨x.toArray⟩) (.string ⟨y.toArray⟩)).run P w=.ok (.string ⟨(x++y).toArray⟩) w:=by
 rw [binOp_string_add]
 exact run_string_add_lists w x y (by omega) (by omega)
theorem jTE (n:Nat) (h:n<10) (w:World):(Instr.sliceAt 9 (.string (⟨#[48,49,50,51,52,53,54,55,56,57]⟩:ByteArray)) (some (.int .u64 (n:Int))) (some (.int .u64 (IntKind.u64.wrap ((n:Int)+1)))) none).run prog w=.ok (.string ⟨(Lib.decDigits n).toArray⟩) w:=by
 have hw:IntKind.u64.wrap ((n:Int)+1)=((n+1:Nat):Int):=by rw [show (n:Int)+1=((n+1:Nat):Int) by omega,vV (by omega)]
 rw [Lib.decDigits_one h,hw,run_sliceAt_string _ _ _ _ _ _ underlying9,run_slice_string_if _ _ _ _ _ _ _ underlying9,if_pos ⟨by omega,by show ((n+1:Nat):Int)≤10;omega⟩,if_pos ⟨by omega,by omega⟩];have he:∀m:Fin 10,(⟨#[48,49,50,51,52,53,54,55,56,57]⟩:ByteArray).extract m.val (m.val+1)=⟨[UInt8.ofNat (48+m.val)].toArray⟩:=by decide +kernel
 have:=he ⟨n,h⟩;simp only [Int.toNat_natCast] at this ⊢;rw [this]
theorem jOR {P:Program} {t:TypeId} {w:World} (n:Nat) (h:n<18446744073709551616):(Go.binOp .quo t (.int .u64 (n:Int)) (.int .u64 10)).run P w=.ok (.int .u64 ((n / 10:Nat):Int)) w:=by
 have:IntKind.u64.wrap ((n:Int).tdiv 10)=((n / 10:Nat):Int):=by
  rw [Int.tdiv_eq_ediv_of_nonneg (by omega)];simp only [IntKind.wrap,IntKind.bits,IntKind.signed];simp;omega
 show ((pure (Value.int .u64 (IntKind.u64.wrap ((n:Int).tdiv 10))):Sem Value)).run P w=_;rw [this];rfl
theorem jOQ {P:Program} {t:TypeId} {w:World} (n:Nat):(Go.binOp .rem t (.int .u64 (n:Int)) (.int .u64 10)).run P w=.ok (.int .u64 ((n % 10:Nat):Int)) w:=by
 have:(n:Int).tmod 10=((n % 10:Nat):Int):=by
  rw [Int.tmod_eq_emod_of_nonneg (by omega)];simp
 simp [Go.binOp,Op.intDiv,this]
theorem jQO:∀(m n:Nat),n≤m→n<18446744073709551616→∀w0:World,
  Calls prog 48 #[.int .u64 (n:Int)] w0 (fun e w'=>∃r:ByteArray,e=.returned (.string r)∧r=⟨(Lib.decDigits n).toArray⟩∧w'=w0):=by
 intro m
 induction m with
 | zero =>
  intro n hm hn w0
  refine w_X1 _ w0 (fun r w'=>r=⟨(Lib.decDigits n).toArray⟩∧w'=w0) ?_
  unfold m_X1
  refine ⟨fun h=>?_,fun h=>?_⟩
  ·exact ⟨_,jTE n (by omega) w0,rfl,rfl⟩
  ·have:=of_decide_eq_false h;omega
 | succ m ih =>
  intro n hm hn w0
  refine w_X1 _ w0 (fun r w'=>r=⟨(Lib.decDigits n).toArray⟩∧w'=w0) ?_
  unfold m_X1
  refine ⟨fun h=>?_,fun h=>?_⟩
  ·have h:=of_decide_eq_true h
   exact ⟨_,jTE n (by omega) w0,rfl,rfl⟩
  ·have h:=of_decide_eq_false h
   refine ⟨_,jOR n hn,?_⟩
   refine (ih (n / 10) (by omega) (by omega) w0).mono ?_
   rintro _ w1 ⟨r1,rfl,rfl,rfl⟩
   refine ⟨_,rfl,_,jOQ n,?_⟩
   refine (ih (n % 10) (by omega) (by omega) w1).mono ?_
   rintro _ w2 ⟨r2,rfl,rfl,rfl⟩
   have h1:=nd20 (n:=n / 10) (by omega)
   have h2:=nd20 (n:=n % 10) (by omega)
   refine ⟨_,rfl,_,jUA _ _ (by omega) (by omega),?_,rfl⟩
   have e:Lib.decDigits n=Lib.decDigits (n / 10)++Lib.decDigits (n % 10):=by
    rw [Lib.decDigits,dif_neg (by omega),Lib.decDigits_one (i:=n % 10) (by omega)]
   rw [e]
theorem jSQ (n:Nat) (hn:n<18446744073709551616) (w0:World) :
  Calls prog 48 #[.int .u64 (n:Int)] w0 (fun e w'=>∃r:ByteArray,e=.returned (.string r)∧r=⟨(Lib.decDigits n).toArray⟩∧w'=w0):=jQO n n (Nat.le_refl _) hn w0
end Go.Proofs
end
section
open Go Go.SE
namespace Go.Proofs
open Tryz
attribute [local irreducible] Calls
theorem jOC:∀n:Fin 128,Utf8.encode (n.val:Int)=⟨#[UInt8.ofNat n.val]⟩:=by decide +kernel
theorem jLG (n:Nat) (h:n<128) (w:World):(convert 21 9 (.int .i32 (IntKind.i32.wrap (n:Int)))).run prog w=.ok (.string ⟨#[UInt8.ofNat n]⟩) w:=by
 have hw:IntKind.i32.wrap (n:Int)=(n:Int):=by simp [IntKind.wrap,IntKind.bits,IntKind.signed];omega
 rw [hw];have:=jOC ⟨n,h⟩;simp only at this;simp [convert,run_underlying underlying21,run_underlying underlying9,Conv.intToString,this]
theorem jTD (n:Nat) (h:n<16) (w:World):(Instr.sliceAt 9 (.string Sp.hexT) (some (.int .u8 (n:Int))) (some (.int .u8 (IntKind.u8.wrap ((n:Int)+1)))) none).run prog w=.ok (.string ⟨#[Sp.jUQ n]⟩) w:=by
 have hw:IntKind.u8.wrap ((n:Int)+1)=((n+1:Nat):Int):=by simp [IntKind.wrap,IntKind.bits,IntKind.signed];omega
 rw [hw,run_sliceAt_string _ _ _ _ _ _ underlying9,run_slice_string_if _ _ _ _ _ _ _ underlying9,if_pos ⟨by omega,by show ((n+1:Nat):Int)≤16;omega⟩,if_pos ⟨by omega,by omega⟩];have he:∀m:Fin 16,Sp.hexT.extract m.val (m.val+1)=⟨#[Sp.jUQ m.val]⟩:=by decide +kernel
 have:=he ⟨n,h⟩;simp only [Int.toNat_natCast] at this ⊢;rw [this]
theorem jLF {P:Program} {t:TypeId} (n:Nat) (w:World):(Go.binOp .shr t (.int .u8 (n:Int)) (.int .u64 4)).run P w=.ok (.int .u8 ((n / 16:Nat):Int)) w:=by
 simp [Go.binOp,go_sem,IntKind.bits]
theorem jHR {P:Program} {t:TypeId} (c:Nat) (h:c<256) (w:World):(Go.binOp .and t (.int .u8 (c:Int)) (.int .u8 15)).run P w=.ok (.int .u8 ((c % 16:Nat):Int)) w:=by
 have hr:IntKind.u8.wrap ((BitVec.ofInt IntKind.u8.bits (c:Int) &&& BitVec.ofInt IntKind.u8.bits 15).toNat:Int)=((c % 16:Nat):Int):=by
  have e1:(BitVec.ofInt IntKind.u8.bits (c:Int)).toNat=c:=by
   rw [BitVec.toNat_ofInt];simp [IntKind.bits];omega
  have e2:(BitVec.ofInt IntKind.u8.bits 15).toNat=2 ^ 4 - 1:=by decide
  rw [BitVec.toNat_and,e1,e2,Nat.and_two_pow_sub_one_eq_mod,tN];simp only [UInt8.toNat_ofNat'];omega
 show ((pure (Value.int .u8 _):Sem Value)).run P w=_;rw [hr];rfl
theorem jBP {P:Program} {t:TypeId} (w:World) (x y:List UInt8) (hx:x.length≤100000) (hy:y.length≤100000) :
  (Go.binOp .add t (.string ⟨x.toArray⟩) (.string ⟨y.toArray⟩)).run P w=.ok (.string ⟨(x++y).toArray⟩) w:=by
 rw [binOp_string_add]
 exact run_string_add_lists w x y (by omega) (by omega)
theorem jNP (c:UInt8) (w0:World):Calls prog 80 #[.int .u8 (c.toNat:Int)] w0 (fun e w'=>∃r:ByteArray,e=.returned (.string r)∧(r=⟨(Sp.jNI c).toArray⟩∧Pure w0 w')):=by
 refine w_G1 _ w0 (fun r w'=>r=⟨(Sp.jNI c).toArray⟩∧Pure w0 w') ?_;unfold m_G1;have hc:c.toNat<256:=c.toNat_lt;have ofN:UInt8.ofNat c.toNat=c:=by simp
 refine ⟨fun h=>?_,fun h=>⟨fun h2=>?_,fun h2=>⟨fun h3=>?_,fun h3=>?_⟩⟩⟩
 ·intro H2 w3 hs;have h:c.toNat=34∨c.toNat=92:=by simp at h;omega
  refine ⟨_,jLG c.toNat (by omega) w3,_,jBP w3 [92] [c] (by simp) (by simp) |> (fun h=>by rw [ofN];exact h),?_,hs.first⟩;unfold Sp.jNI;rw [if_pos h];rfl
 ·intro H2 w3 hs;have h:¬ (c.toNat=34∨c.toNat=92):=by simp at h;omega
  have h2:c.toNat=10:=by simp at h2;omega
  refine ⟨?_,hs.first⟩;unfold Sp.jNI;rw [if_neg h,if_pos h2]
 ·intro H5 w6 hs;have h:¬ (c.toNat=34∨c.toNat=92):=by simp at h;omega
  have h2:¬ c.toNat=10:=by simp at h2;omega
  have h3:32≤c.toNat∧c.toNat≤126:=by simp at h3;omega
  refine ⟨_,jLG c.toNat (by omega) w6,?_,hs.first⟩;unfold Sp.jNI;rw [if_neg h,if_neg h2,if_pos h3,ofN]
 ·intro H5 w6 hs;have h:¬ (c.toNat=34∨c.toNat=92):=by simp at h;omega
  have h2:¬ c.toNat=10:=by simp at h2;omega
  have h3:¬ (32≤c.toNat∧c.toNat≤126):=by simp at h3;omega
  unfold m_G1_j1;intro w1 hs1;refine ⟨_,jLF c.toNat w1,_,jLF c.toNat w1,_,jTD (c.toNat / 16) (by omega) w1,_,jBP w1 [92,120] [Sp.jUQ (c.toNat / 16)] (by simp) (by simp),_,jHR c.toNat hc w1,_,jHR c.toNat hc w1,_,jTD (c.toNat % 16) (by omega) w1,_,jBP w1 [92,120,Sp.jUQ (c.toNat / 16)] [Sp.jUQ (c.toNat % 16)] (by simp) (by simp),?_,hs.first.hst hs1⟩;unfold Sp.jNI;rw [if_neg h,if_neg h2,if_neg h3];rfl
end Go.Proofs
namespace Go.Proofs
open Tryz
attribute [local irreducible] Calls
theorem jUP (x:ByteArray) (n:Nat) (h:n<x.data.toList.length) (w:World):(Instr.index 9 (.string x) (.int .i64 (n:Int))).run prog w=.ok (.int .u8 ((x.data.toList[n]).toNat:Int)) w:=by
 have hs:x.size=x.data.toList.length:=by rw [Array.length_toList];rfl
 have hn:n<x.size:=by omega
 rw [run_index_string w _ _ _ _ underlying9,dif_pos ⟨by omega,by omega⟩];rfl
theorem From.own {p2:Addr} {w0 w w':World} (h2:w0.heap.size≤p2.block) (hE:Pure w0 w) (E:Ext (From p2) w w'):Pure w0 w':=hE.trans' E (fun i hi hf=>by have:p2.block≤i:=hf;omega)
theorem From.kept {p2:Addr} {H:NP} {w w':World} (hH:∀b,H b→b<p2.block) (E:Ext (From p2) w w'):Kept H w w':=E.kept (fun b hb hf=>by have:=hH b hb;have:p2.block≤b:=hf;omega)
abbrev kbox (k:Int) (wd:ByteArray):List Value:=[.bool (Sp.isSigned k),.bool (Sp.isTexted k),.bool (k == 1 || k == 4),.string wd]
theorem jTG (k:Int) (c:Nat) (hc:c<18446744073709551616) (x:ByteArray) (hx:x.size≤64) (wd:ByteArray) (p p2:Addr) {w0 w:World} {H:NP} {T:TypeId} (acc:List UInt8) (ha:acc.length≤1000)
  (hB:Box w p (kbox k wd) T) (hp:p.block<p2.block) (hH:∀b,H b→b<p2.block) (h2:w0.heap.size≤p2.block) (hb:Bld w p2 acc) (hE:Pure w0 w) (ht:Pow w0) :
  m_K_j3 (c:Int) x p p2 w0 H w (fun r w'=>r=⟨(acc++(32 :: Lib.decDigits c)++(if Sp.isTexted k=true then 32 :: Sp.jKD x else [])).toArray⟩∧Pure w0 w'):=by
 unfold m_K_j3
 have hd:=nd20 hc
 have hxl:x.data.toList.length=x.size:=by rw [Array.length_toList];rfl
 refine (jJM c hc w (yY ht hE)).mono ?_
 rintro _ w5 ⟨r4,rfl,rfl,E5⟩
 refine ⟨_,rfl,E5.keptP,_,jBP w5 [32] _ (by simp) (by omega),?_⟩
 have hE5:=hE.trans E5
 refine (jIW (hb.pure E5) ⟨([32]++Lib.decDigits c).toArray⟩ (by simp [ByteArray.size];omega)).mono ?_
 rintro _ w6 ⟨r5,r6,rfl,b6,E6⟩
 have hE6:=From.own h2 hE5 E6
 have B6:=(hB.pure E5).ext E6 (fun hf=>by have:p2.block≤p.block:=hf;omega)
 have ea:acc++(ByteArray.mk ([32]++Lib.decDigits c).toArray).data.toList=acc++(32 :: Lib.decDigits c):=by simp
 rw [ea] at b6
 generalize hacc:acc++(32 :: Lib.decDigits c)=acc2 at *
 have ha2:acc2.length≤1100:=by rw [← hacc];simp;omega
 refine ⟨_,_,rfl,From.kept hH E6,_,B6.cell (i:=1) rfl,fun ht'=>?_,fun ht'=>?_⟩
 ·rw [if_pos ht']
  refine (jIW b6 ⟨#[32,34]⟩ (by simp [ByteArray.size];omega)).mono ?_
  rintro _ w7 ⟨r7,r8,rfl,b7,E7⟩
  have hE7:=From.own h2 hE6 E7
  refine ⟨_,_,rfl,From.kept hH E7,fun i H' w'=>∃n:Nat,i=n∧n≤x.data.toList.length∧(∀b,H' b→b<p2.block)∧Bld w' p2 (acc2++[32,34]++(x.data.toList.take n).flatMap Sp.jNI)∧Pure w0 w',fun i _=>((x.data.toList.length:Int) - i).toNat,⟨0,rfl,Nat.zero_le _,hH,by simpa using b7,hE7⟩,?_⟩
  rintro _ Hl wl hsl ⟨n,rfl,hn,hHl,bl,El⟩
  unfold m_K_l4
  have hfl:((x.data.toList.take n).flatMap Sp.jNI).length≤256:=by
   have:=Sp.jPU (x.data.toList.take n);rw [List.length_take] at this;omega
  refine ⟨fun hlt=>?_,fun hlt=>?_⟩
  ·have hlt:n<x.data.toList.length:=by have:=of_decide_eq_true hlt;omega
   refine ⟨_,jUP x n hlt wl,?_⟩
   refine (jNP x.data.toList[n] wl).mono ?_
   rintro _ w8 ⟨r9,rfl,rfl,E8⟩
   refine ⟨_,rfl,E8.keptP,?_⟩
   have he:=Sp.jLT x.data.toList[n]
   refine (jIW (bl.pure E8) ⟨(Sp.jNI x.data.toList[n]).toArray⟩ (by rw [List.length_append,List.length_append];simp only [ByteArray.size,List.size_toArray,List.length_cons,List.length_nil];omega)).mono ?_
   rintro _ w9 ⟨r10,r11,rfl,b9,E9⟩
   refine ⟨_,_,rfl,From.kept hHl E9,?_⟩
   rw [vQ hlt (by omega)]
   refine ⟨⟨n+1,rfl,hlt,hHl,?_,From.own h2 (El.trans E8) E9⟩,jES hlt⟩
   rw [List.take_succ_eq_append_getElem hlt,List.flatMap_append,← List.append_assoc]
   simpa using b9
  ·have:n=x.data.toList.length:=by have:=of_decide_eq_false hlt;omega
   subst this
   rw [List.take_length] at bl
   refine (jQA bl 34 (by rw [List.take_length] at hfl;rw [List.length_append,List.length_append];simp only [List.length_cons,List.length_nil];omega)).mono ?_
   rintro _ w10 ⟨r12,rfl,b10,E10⟩
   refine ⟨_,rfl,From.kept hHl E10,?_⟩
   refine (jTJ b10).mono ?_
   rintro _ w11 ⟨r13,rfl,rfl,E11⟩
   refine ⟨_,rfl,From.kept hHl E11,?_,From.own h2 (From.own h2 El E10) E11⟩
   simp [Sp.jKD]
 ·rw [if_neg (by rw [ht'];decide),List.append_nil]
  refine (jTJ b6).mono ?_
  rintro _ w12 ⟨r14,rfl,rfl,E12⟩
  exact ⟨_,rfl,From.kept hH E12,rfl,From.own h2 hE6 E12⟩
theorem jNC {n:Int} (h:n=0∨n=1):Lib.itoa n=Lib.decDigits n.toNat:=by rcases h with rfl | rfl <;> kernel_rfl
theorem jTH (k f:Int) (hf:f=0∨f=1) (c:Nat) (hc:c<18446744073709551616) (x:ByteArray) (hx:x.size≤64) (g:Bool) (p:Addr) {w0 w:World} {H:NP} {T:TypeId}
  (hB:Box w p (kbox k ⟨(Sp.jCJ k).toArray⟩) T) (hH:∀b,H b→b<w.heap.size) (hE:Pure w0 w) (ht:Pow w0) :
  m_K_j1 f (c:Int) x g p w0 H w (fun r w'=>r=⟨(Sp.jCJ k++(if g=true then [33] else [])++(if Sp.isSigned k=true then 32 :: Lib.decDigits f.toNat else [])++(32 :: Lib.decDigits c)++(if Sp.isTexted k=true then 32 :: Sp.jKD x else [])).toArray⟩∧Pure w0 w'):=by
 unfold m_K_j1
 intro p2 w3 n2
 have hp2:=n2.at_size
 have E3:Pure w w3:=Ext.new n2
 have B3:=hB.pure E3
 have hpl:=hB.lt
 have h2:w0.heap.size≤p2.block:=by have:=hE.size;omega
 have hH2:∀b,H b→b<p2.block:=fun b hb=>by have:=hH b hb;omega
 have hE3:=hE.trans E3
 have hw:=Sp.jOA k
 refine ⟨_,B3.cell (i:=3) rfl,?_⟩
 refine (jIW (Bld.new n2) ⟨(Sp.jCJ k).toArray⟩ (by simp [ByteArray.size];omega)).mono ?_
 rintro _ w4 ⟨r2,r3,rfl,b4,E4⟩
 have B4:=B3.ext E4 (fun hf=>by have:p2.block≤p.block:=hf;omega)
 have hE4:=From.own h2 hE3 E4
 rw [show []++(ByteArray.mk (Sp.jCJ k).toArray).data.toList=Sp.jCJ k by simp] at b4
 have j2:∀acc w,acc.length≤20→Box w p (kbox k ⟨(Sp.jCJ k).toArray⟩) T→Bld w p2 acc→Pure w0 w→m_K_j2 f (c:Int) x p p2 w0 H w (fun r w'=>r=⟨(acc++(if Sp.isSigned k=true then 32 :: Lib.decDigits f.toNat else [])++(32 :: Lib.decDigits c)++(if Sp.isTexted k=true then 32 :: Sp.jKD x else [])).toArray⟩∧Pure w0 w'):=by
  intro acc w ha B b E;unfold m_K_j2;refine ⟨_,B.cell0,fun hs=>?_,fun hs=>?_⟩
  ·rw [if_pos hs];refine (c_Itoa f (by omega) (by omega) w (yY ht E)).mono ?_;rintro _ w13 ⟨r15,rfl,rfl,E13⟩;rw [jNC hf];have hd:=nd20 (n:=f.toNat) (by omega);refine ⟨_,rfl,E13.keptP,_,jBP w13 [32] _ (by simp) (by omega),?_⟩;refine (jIW (b.pure E13) ⟨([32]++Lib.decDigits f.toNat).toArray⟩ (by simp [ByteArray.size];omega)).mono ?_;rintro _ w14 ⟨r16,r17,rfl,b14,E14⟩;replace b14:Bld w14 p2 (acc++(32 :: Lib.decDigits f.toNat)):=by simpa using b14
   have B14:=(B.pure E13).ext E14 (fun hf=>by have:p2.block≤p.block:=hf;omega);exact ⟨_,_,rfl,From.kept hH2 E14,jTG k c hc x hx _ p p2 _ (by simp;omega) B14 (by omega) hH2 h2 b14 (From.own h2 (E.trans E13) E14) ht⟩
  ·rw [if_neg (by rw [hs];decide),List.append_nil];exact jTG k c hc x hx _ p p2 _ (by omega) B (by omega) hH2 h2 b E ht
 refine ⟨_,_,rfl,From.kept hH2 E4,fun hg=>?_,fun hg=>?_⟩
 ·rw [if_pos hg]
  refine (jQA b4 33 (by omega)).mono ?_
  rintro _ w15 ⟨r18,rfl,b15,E15⟩
  exact ⟨_,rfl,From.kept hH2 E15,j2 _ w15 (by simp;omega) (B4.ext E15 (fun hf=>by have:p2.block≤p.block:=hf;omega)) b15 (From.own h2 hE4 E15)⟩
 ·rw [if_neg (by rw [hg];decide),List.append_nil]
  exact j2 _ w4 (by omega) B4 b4 hE4
set_option maxRecDepth 100000 in
theorem jQH (l:Sp.Letter) (hc:Sp.uI l.c) (w0:World) (ht:Pow w0):Calls prog 35 #[.agg #[.int .i64 l.kind,.int .i64 l.frm,.int .u64 l.c,.string l.text,.bool l.fake]] w0 (fun e w'=>∃r:ByteArray,e=.returned (.string r)∧(r=⟨(Sp.jIG l).toArray⟩∧Pure w0 w')):=by
 refine w_K _ _ _ _ _ w0 (fun r w'=>r=⟨(Sp.jIG l).toArray⟩∧Pure w0 w') ?_;unfold m_K;intro H1 w1 hs;have E1:=hs.first;refine (jCE l w1).mono ?_;rintro _ w2 ⟨r1,rfl,hr,E2⟩;have E02:=E1.trans E2;refine ⟨_,rfl,E2.keptP,fun h=>⟨?_,E02⟩,fun h=>?_⟩
 ·unfold Sp.jIG;rw [if_pos (by rw [← hr];exact bne_iff_ne.1 h)]
 have h0:Sp.letErr l=0:=by rw [← hr];simpa using h
 obtain ⟨k,f,c,x,g⟩:=l;obtain ⟨hk,hf,_,_,_,hx⟩:=Sp.jCP h0;obtain ⟨c,rfl⟩:∃n:Nat,c=(n:Int):=⟨c.toNat,by have:=hc.1;simp only at this;omega⟩;have hc':c<18446744073709551616:=by have:=hc.2;simp only at this;omega
 have e:Sp.jIG ⟨k,f,(c:Int),x,g⟩=Sp.jCJ k++(if g=true then [33] else [])++(if Sp.isSigned k=true then 32 :: Lib.decDigits f.toNat else [])++(32 :: Lib.decDigits c)++(if Sp.isTexted k=true then 32 :: Sp.jKD x else []):=by
  unfold Sp.jIG;rw [if_neg (by simpa using h0)];rfl
 rw [e];simp only;have idx:∀w':World,(Instr.index 121 (.agg jIK) (.int .i64 k)).run prog w'=.ok (.agg #[.bool (Sp.isSigned k),.bool (Sp.isTexted k),.bool (k == 1 || k == 4),.string ⟨(Sp.jCJ k).toArray⟩]) w':=by
  rcases hk with rfl | rfl | rfl | rfl | rfl | rfl | rfl <;> exact fun w'=>by kernel_rfl
 refine ⟨fun _=>True,trivial,?_⟩;rintro w9 e9;have E9:Pure w2 w9:=by rw [e9];exact Ext.drew w2
 have hH:∀b,H1 b→b<w9.heap.size:=fun b hb=>by have:=hs.lt b hb;have:=E9.size;have:=E2.size;omega
 refine ⟨?_,?_⟩
 ·refine (jCD w9).mono ?_;rintro _ w10 ⟨_,rfl,rfl,E10⟩;refine ⟨_,rfl,trivial,E10.keptP,_,_,_,_,fun w' _=>idx w',?_⟩;intro p2 w11 n11;have b11:=n11.at_size;have z10:=E10.size;refine ⟨trivial,(Box.of_newA n11).canWs (by simp),fun hh=>by have:=hH _ hh;omega,?_⟩;rintro w12 e12;have X:Ext (·=p2.block) w11 w12:=by rw [e12];exact Ext.storeRow _ _ _
  have B:Box w12 p2 (kbox k ⟨(Sp.jCJ k).toArray⟩) 120:=by rw [e12];exact (Box.of_newA n11).store rfl
  have z2:=E02.size;have z9:=E9.size;have z11:w11.heap.size≤w12.heap.size:=X.size;have zn:w10.heap.size≤w11.heap.size:=(Ext.new n11:Pure w10 w11).size;exact jTH k f hf c hc' x hx g p2 B (fun b hb=>by have:=hH b hb;omega) ((((E02.trans E9).trans E10).trans (Ext.new n11)).own (by omega) X) ht
 ·intro p3 w13 n13;refine ⟨trivial,?_⟩;have b13:=n13.at_size;have E13:Pure w9 w13:=Ext.new n13;refine (jCD w13).mono ?_;rintro _ w14 ⟨_,rfl,rfl,E14⟩;have B14:=(Box.of_newA n13).pure E14;refine ⟨_,rfl,trivial,E14.keptP,_,_,_,_,fun w' _=>idx w',B14.canWs (by simp),fun hh=>by have:=hH _ hh;omega,?_⟩;rintro w15 e15;have X:Ext (·=p3.block) w14 w15:=by rw [e15];exact Ext.storeRow _ _ _
  have B:Box w15 p3 (kbox k ⟨(Sp.jCJ k).toArray⟩) 120:=by rw [e15];exact B14.store rfl
  have z2:=E02.size;have z9:=E9.size;have z13:=E13.size;have z14:=E14.size;have z15:w14.heap.size≤w15.heap.size:=X.size;exact jTH k f hf c hc' x hx g p3 B (fun b hb=>by have:=hH b hb;omega) ((((E02.trans E9).trans E13).trans E14).own (by omega) X) ht
end Go.Proofs
end
