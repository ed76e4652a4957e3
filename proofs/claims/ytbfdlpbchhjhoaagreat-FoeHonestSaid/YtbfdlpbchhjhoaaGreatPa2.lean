import Derived.Test.YtbfdlpbchhjhoaaGreatPa1
import Derived.Test.YtbfdlpbchhjhoaaGreatPa0
import Derived.Test.YtbfdlpbchhjhoaaGreatProg
import Derived.KernelRfl
import Derived.IntWalk
section
open Go Go.SE
namespace Go.Proofs
open Tryz
attribute [local irreducible] Calls CallsD
abbrev RdS (S:NP) (w:World) (a:Addr) (s:Sl) (bs:List UInt8) (r:Rd):Prop:=RdAt S w a s bs r.at_ r.err r.spot
theorem jDA {w:World} {p:Addr} {u v:Value} {T:TypeId} (h:Box w p [u] T):Box (w.setCell p v) p [v] T:=h.set0
theorem RdAt.gives {S:NP} {w:World} {a:Addr} {s:Sl} {bs:List UInt8} {at_ err spot:Int} (h:RdAt S w a s bs at_ err spot) (f e:Int) :
  CanW w (a.add 1)∧CanW w (a.add 2)∧CanW w (a.add 3)∧RdAt S (((w.setCell (a.add 1) (.int .i64 f)).setCell (a.add 2) (.int .i64 e)).setCell (a.add 3) (.int .i64 f)) a s bs f e f :=
 ⟨h.box.canW (i:=1) (by simp),h.box.canW (i:=2) (by simp),h.box.canW (i:=3) (by simp),((h.setAt f).setErr e).setSpot f⟩
theorem jAM {w:World} {a:Addr} {u v x:Value}:Ext (·=a.block) w (((w.setCell (a.add 1) u).setCell (a.add 2) v).setCell (a.add 3) x):=(yG.trans yG).trans yG
theorem jKI {S:NP} (a:Addr) (s:Sl) (bs:List UInt8) (r:Rd) (w0:World) (h:RdS S w0 a s bs r) (hat:r.at_≤bs.length) (hS:∀b,S b→b<w0.heap.size) :
  Calls prog 219 #[.pointer (some a)] w0 (fun e w'=>∃x:Int,e=.returned (.int .u64 x)∧x=((qZ bs r).1:Int)∧RdS S w' a s bs (qZ bs r).2∧Ext (·=a.block) w0 w'):=by
 refine w_Y2 (some a) w0 (fun x w'=>x=((qZ bs r).1:Int)∧RdS S w' a s bs (qZ bs r).2∧Ext (·=a.block) w0 w') ?_
 unfold m_Y2
 intro p1 w1 n1 p2 w2 n2
 have E1:Pure w0 w1:=Ext.new n1
 have E2:Pure w0 w2:=E1.trans (Ext.new n2)
 have hp1:w2.cell? p1=some (.pointer (some a)):=(Ext.new (F:=None) n2).cell (Box.of_newA n1).cell0 id
 have b1:=n1.at_size
 have b2:=n2.at_size
 have b12:p1.block≠p2.block:=by have:=World.block_lt_of_cell? w1 p1 (Box.of_newA n1).cell0;omega
 have ha0:=World.block_lt_of_cell? w0 a h.box.cell0
 have B2:=Box.of_newA n2
 have h2:=h.pure E2
 refine ⟨some a,hp1,?_⟩
 have fin:∀w3,(Box w3 p2 [.int .u64 ((qZ bs r).1:Int)] 23∧RdS S w3 a s bs (qZ bs r).2∧Ext (·=a.block) w0 w3)→∃v2:Int,w3.cell? p2=some (.int .u64 v2)∧CanW w3 p2∧∀w4:World,w4=w3.setCell p2 (.int .u64 v2)→∃qV1:Int,w4.cell? p2=some (.int .u64 qV1)∧(qV1=((qZ bs r).1:Int)∧RdS S w4 a s bs (qZ bs r).2∧Ext (·=a.block) w0 w4):=by
  rintro w3 ⟨hB,hR,hE⟩;refine ⟨_,hB.cell0,hB.canW0 (by simp),?_⟩;rintro w4 rfl;have hx:Ext (·=p2.block) w3 (w3.setCell p2 (.int .u64 ((qZ bs r).1:Int))):=Ext.setCell _ _;exact ⟨_,(jDA hB).cell0,rfl,hR.ext hx (fun b hb e=>by have:=hS b hb;have:=E1.size;omega) (fun e=>by have:=E1.size;omega),hE.trans' hx (fun i hi e=>by have:=E1.size;omega)⟩
 by_cases he:r.err=0
 ·refine (jLY a 289 _ r.at_ w2 (fun w3=>Box w3 p2 [.int .u64 ((qZ bs r).1:Int)] 23∧RdS S w3 a s bs (qZ bs r).2∧Ext (·=a.block) w0 w3) h2.atC (by have:=h2.errC;rw [he] at this;exact this) call289 ?_).mono ?_
  ·intro w3 p pf E3 hp hpf hpc hpfc
   have h3:=h2.pure E3
   refine (w_G3 p1 p2 w3 (fun o w4=>(o=none∧(Box w4 p2 [.int .u64 ((qZ bs r).1:Int)] 23∧RdS S w4 a s bs (qZ bs r).2∧Ext (·=a.block) w0 w4))∨(∃x,o=some (jTW x)∧w4.cell? p=some (.pointer (some a))∧w4.cell? pf=some (.int .i64 r.at_)∧CanW w4 (a.add 1)∧CanW w4 (a.add 2)∧CanW w4 (a.add 3) ∧
    (Box (((w4.setCell (a.add 1) (.int .i64 r.at_)).setCell (a.add 2) (.int .i64 x)).setCell (a.add 3) (.int .i64 r.at_)) p2 [.int .u64 ((qZ bs r).1:Int)] 23∧RdS S (((w4.setCell (a.add 1) (.int .i64 r.at_)).setCell (a.add 2) (.int .i64 x)).setCell (a.add 3) (.int .i64 r.at_)) a s bs (qZ bs r).2∧Ext (·=a.block) w0 (((w4.setCell (a.add 1) (.int .i64 r.at_)).setCell (a.add 2) (.int .i64 x)).setCell (a.add 3) (.int .i64 r.at_))))) ?_).mono ?_
   ·unfold m_G3
    refine ⟨some a,E3.cell hp1 id,?_⟩
    refine (c_num a s bs r.at_ r.err r.spot w3 h3 hat).mono ?_
    rintro e w4 (⟨n,k,hn,rfl,hlt,hle,hR,hE⟩ | ⟨x,at',hn,rfl,hR,hE⟩)
    ·refine .inl ⟨_,rfl,?_⟩
     have hB4:Box w4 p2 [.int .u64 0] 23:=(B2.pure E3).ext hE (fun e=>by have:=E1.size;omega)
     refine ⟨hB4.canW0 (by simp),?_⟩
     rintro w5 rfl
     have hx:Ext (·=p2.block) w4 (w4.setCell p2 (.int .u64 (n:Int))):=Ext.setCell _ _
     have hrn:qZ bs r=(n,⟨r.at_+k,0,r.spot⟩):=by simp [qZ,he,hn]
     rw [hrn]
     refine .inl ⟨rfl,jDA hB4,?_,((Ext.pure (E2.trans E3)).trans hE).trans' hx (fun i hi e=>by have:=E1.size;omega)⟩
     have:=hR.ext hx (fun b hb e=>by have:=hS b hb;have:=E1.size;omega) (fun e=>by have:=E1.size;omega)
     rw [he] at this
     exact this
    ·refine .inr ⟨_,rfl,.inr ⟨x,rfl,?_⟩⟩
     have hrn:qZ bs r=(0,⟨r.at_,x,r.at_⟩):=by simp [qZ,he,hn]
     have hB4:Box w4 p2 [.int .u64 0] 23:=(B2.pure E3).ext hE (fun e=>by have:=E1.size;omega)
     obtain ⟨c1,c2,c3,hR'⟩:=hR.gives r.at_ x
     rw [hrn]
     exact ⟨hE.cell hpc (fun e=>by have:=E2.size;omega),hE.cell hpfc (fun e=>by have:=E2.size;omega),c1,c2,c3,hB4.ext jAM (fun e=>by have:=E1.size;omega),hR',((Ext.pure (E2.trans E3)).trans hE).trans jAM⟩
   ·rintro e w4 (⟨rfl,h⟩ | ⟨ch,rfl,h⟩)
    ·rcases h with ⟨_,h⟩ | ⟨_,h,_⟩
     ·exact .inl ⟨rfl,h⟩
     ·cases h
    ·rcases h with ⟨h,_⟩ | ⟨x,h1,h⟩
     ·cases h
     ·cases h1;exact .inr ⟨x,rfl,h⟩
  ·rintro e w3 ⟨rfl,hK⟩
   exact ⟨rfl,fin w3 hK⟩
 ·refine (jCY a _ r.err w2 h2.errC (by omega)).mono ?_
  rintro e w3 ⟨rfl,E3⟩
  have hrn:qZ bs r=(0,r):=by simp [qZ,he]
  refine ⟨rfl,fin w3 ?_⟩
  rw [hrn]
  exact ⟨B2.pure E3,h2.pure E3,Ext.pure (E2.trans E3)⟩
theorem c_Byte {S:NP} (a:Addr) (s:Sl) (bs:List UInt8) (r:Rd) (w0:World) (h:RdS S w0 a s bs r) (hat:r.at_≤bs.length) (hS:∀b,S b→b<w0.heap.size) :
  Calls prog 232 #[.pointer (some a)] w0 (fun e w'=>∃x:Int,e=.returned (.int .u8 x)∧x=((uH bs r).1:Int)∧RdS S w' a s bs (uH bs r).2∧Ext (·=a.block) w0 w'):=by
 refine w_T2 (some a) w0 (fun x w'=>x=((uH bs r).1:Int)∧RdS S w' a s bs (uH bs r).2∧Ext (·=a.block) w0 w') ?_
 unfold m_T2
 intro p1 w1 n1 p2 w2 n2
 have E1:Pure w0 w1:=Ext.new n1
 have E2:Pure w0 w2:=E1.trans (Ext.new n2)
 have hp1:w2.cell? p1=some (.pointer (some a)):=(Ext.new (F:=None) n2).cell (Box.of_newA n1).cell0 id
 have b1:=n1.at_size
 have b2:=n2.at_size
 have b12:p1.block≠p2.block:=by have:=World.block_lt_of_cell? w1 p1 (Box.of_newA n1).cell0;omega
 have ha0:=World.block_lt_of_cell? w0 a h.box.cell0
 have B2:=Box.of_newA n2
 have h2:=h.pure E2
 refine ⟨some a,hp1,?_⟩
 have fin:∀w3,(Box w3 p2 [.int .u8 ((uH bs r).1:Int)] 5∧RdS S w3 a s bs (uH bs r).2∧Ext (·=a.block) w0 w3)→∃v2:Int,w3.cell? p2=some (.int .u8 v2)∧CanW w3 p2∧∀w4:World,w4=w3.setCell p2 (.int .u8 v2)→∃qV1:Int,w4.cell? p2=some (.int .u8 qV1)∧(qV1=((uH bs r).1:Int)∧RdS S w4 a s bs (uH bs r).2∧Ext (·=a.block) w0 w4):=by
  rintro w3 ⟨hB,hR,hE⟩;refine ⟨_,hB.cell0,hB.canW0 (by simp),?_⟩;rintro w4 rfl;have hx:Ext (·=p2.block) w3 (w3.setCell p2 (.int .u8 ((uH bs r).1:Int))):=Ext.setCell _ _;exact ⟨_,(jDA hB).cell0,rfl,hR.ext hx (fun b hb e=>by have:=hS b hb;have:=E1.size;omega) (fun e=>by have:=E1.size;omega),hE.trans' hx (fun i hi e=>by have:=E1.size;omega)⟩
 by_cases he:r.err=0
 ·refine (jLY a 292 _ r.at_ w2 (fun w3=>Box w3 p2 [.int .u8 ((uH bs r).1:Int)] 5∧RdS S w3 a s bs (uH bs r).2∧Ext (·=a.block) w0 w3) h2.atC (by have:=h2.errC;rw [he] at this;exact this) call292 ?_).mono ?_
  ·intro w3 p pf E3 hp hpf hpc hpfc
   have h3:=h2.pure E3
   refine (w_H3 p1 p2 w3 (fun o w4=>(o=none∧(Box w4 p2 [.int .u8 ((uH bs r).1:Int)] 5∧RdS S w4 a s bs (uH bs r).2∧Ext (·=a.block) w0 w4))∨(∃x,o=some (jTW x)∧w4.cell? p=some (.pointer (some a))∧w4.cell? pf=some (.int .i64 r.at_)∧CanW w4 (a.add 1)∧CanW w4 (a.add 2)∧CanW w4 (a.add 3) ∧
    (Box (((w4.setCell (a.add 1) (.int .i64 r.at_)).setCell (a.add 2) (.int .i64 x)).setCell (a.add 3) (.int .i64 r.at_)) p2 [.int .u8 ((uH bs r).1:Int)] 5∧RdS S (((w4.setCell (a.add 1) (.int .i64 r.at_)).setCell (a.add 2) (.int .i64 x)).setCell (a.add 3) (.int .i64 r.at_)) a s bs (uH bs r).2∧Ext (·=a.block) w0 (((w4.setCell (a.add 1) (.int .i64 r.at_)).setCell (a.add 2) (.int .i64 x)).setCell (a.add 3) (.int .i64 r.at_))))) ?_).mono ?_
   ·unfold m_H3
    refine ⟨some a,E3.cell hp1 id,?_⟩
    refine (jUP a s bs r.at_ r.err r.spot w3 h3 hat).mono ?_
    rintro e w4 (⟨hlt,rfl,hR,hE⟩ | ⟨heq,rfl,hR,hE⟩)
    ·refine .inl ⟨_,rfl,?_⟩
     have hB4:Box w4 p2 [.int .u8 0] 5:=(B2.pure E3).ext hE (fun e=>by have:=E1.size;omega)
     refine ⟨hB4.canW0 (by simp),?_⟩
     rintro w5 rfl
     have hx:Ext (·=p2.block) w4 (w4.setCell p2 (.int .u8 (bs[r.at_].toNat:Int))):=Ext.setCell _ _
     have hrn:uH bs r=(bs[r.at_].toNat,⟨r.at_+1,0,r.spot⟩):=by simp [uH,he,hlt]
     rw [hrn]
     refine .inl ⟨rfl,jDA hB4,?_,((Ext.pure (E2.trans E3)).trans hE).trans' hx (fun i hi e=>by have:=E1.size;omega)⟩
     have:=hR.ext hx (fun b hb e=>by have:=hS b hb;have:=E1.size;omega) (fun e=>by have:=E1.size;omega)
     rw [he] at this
     exact this
    ·refine .inr ⟨_,rfl,.inr ⟨3,rfl,?_⟩⟩
     have hrn:uH bs r=(0,⟨r.at_,3,r.at_⟩):=by simp [uH,he,heq]
     have hB4:Box w4 p2 [.int .u8 0] 5:=(B2.pure E3).ext hE (fun e=>by have:=E1.size;omega)
     obtain ⟨c1,c2,c3,hR'⟩:=hR.gives r.at_ 3
     rw [hrn]
     exact ⟨hE.cell hpc (fun e=>by have:=E2.size;omega),hE.cell hpfc (fun e=>by have:=E2.size;omega),c1,c2,c3,hB4.ext jAM (fun e=>by have:=E1.size;omega),hR',((Ext.pure (E2.trans E3)).trans hE).trans jAM⟩
   ·rintro e w4 (⟨rfl,h⟩ | ⟨ch,rfl,h⟩)
    ·rcases h with ⟨_,h⟩ | ⟨_,h,_⟩
     ·exact .inl ⟨rfl,h⟩
     ·cases h
    ·rcases h with ⟨h,_⟩ | ⟨x,h1,h⟩
     ·cases h
     ·cases h1;exact .inr ⟨x,rfl,h⟩
  ·rintro e w3 ⟨rfl,hK⟩
   exact ⟨rfl,fin w3 hK⟩
 ·refine (jCY a _ r.err w2 h2.errC (by omega)).mono ?_
  rintro e w3 ⟨rfl,E3⟩
  have hrn:uH bs r=(0,r):=by simp [uH,he]
  refine ⟨rfl,fin w3 ?_⟩
  rw [hrn]
  exact ⟨B2.pure E3,h2.pure E3,Ext.pure (E2.trans E3)⟩
theorem c_Text {S:NP} (a:Addr) (s:Sl) (bs:List UInt8) (most:Nat) (r:Rd) (w0:World) (h:RdS S w0 a s bs r) (hat:r.at_≤bs.length) (hS:∀b,S b→b<w0.heap.size) (hm:most≤1000000000) :
  Calls prog 227 #[.pointer (some a),.int .i64 (most:Int)] w0 (fun e w'=>∃x:ByteArray,e=.returned (.string x)∧x=⟨(qN bs most r).1.toArray⟩∧RdS S w' a s bs (qN bs most r).2∧Ext (·=a.block) w0 w'):=by
 refine w_C3 (some a) most w0 (fun x w'=>x=⟨(qN bs most r).1.toArray⟩∧RdS S w' a s bs (qN bs most r).2∧Ext (·=a.block) w0 w') ?_
 unfold m_C3
 intro p1 w1 n1 pm w1' nm p2 w2 n2
 have E1:Pure w0 w1:=Ext.new n1
 have E1':Pure w0 w1':=E1.trans (Ext.new nm)
 have E2:Pure w0 w2:=E1'.trans (Ext.new n2)
 have hp1':w1'.cell? p1=some (.pointer (some a)):=(Ext.new (F:=None) nm).cell (Box.of_newA n1).cell0 id
 have hp1:w2.cell? p1=some (.pointer (some a)):=(Ext.new (F:=None) n2).cell hp1' id
 have hpm:w2.cell? pm=some (.int .i64 (most:Int)):=(Ext.new (F:=None) n2).cell (Box.of_newA nm).cell0 id
 have b1:=n1.at_size
 have bm:=nm.at_size
 have b2:=n2.at_size
 have b12:p1.block≠p2.block:=by have:=World.block_lt_of_cell? w1' p1 hp1';omega
 have ha0:=World.block_lt_of_cell? w0 a h.box.cell0
 have B2:=Box.of_newA n2
 have h2:=h.pure E2
 have g1:w0.heap.size≤p2.block:=by have:=E1'.size;omega
 have g2:w0.heap.size≤p1.block:=by omega
 have g3:w0.heap.size≤pm.block:=by have:=E1.size;omega
 refine ⟨some a,hp1,?_⟩
 have fin:∀w3,(Box w3 p2 [.string ⟨(qN bs most r).1.toArray⟩] 9∧RdS S w3 a s bs (qN bs most r).2∧Ext (·=a.block) w0 w3)→∃v2:ByteArray,w3.cell? p2=some (.string v2)∧CanW w3 p2∧∀w4:World,w4=w3.setCell p2 (.string v2)→∃qV1:ByteArray,w4.cell? p2=some (.string qV1)∧(qV1=⟨(qN bs most r).1.toArray⟩∧RdS S w4 a s bs (qN bs most r).2∧Ext (·=a.block) w0 w4):=by
  rintro w3 ⟨hB,hR,hE⟩;refine ⟨_,hB.cell0,hB.canW0 (by simp),?_⟩;rintro w4 rfl;have hx:Ext (·=p2.block) w3 (w3.setCell p2 (.string ⟨(qN bs most r).1.toArray⟩)):=Ext.setCell _ _;exact ⟨_,(jDA hB).cell0,rfl,hR.ext hx (fun b hb e=>by have:=hS b hb;omega) (fun e=>by omega),hE.trans' hx (fun i hi e=>by omega)⟩
 by_cases he:r.err=0
 ·refine (jLY a 291 _ r.at_ w2 (fun w3=>Box w3 p2 [.string ⟨(qN bs most r).1.toArray⟩] 9∧RdS S w3 a s bs (qN bs most r).2∧Ext (·=a.block) w0 w3) h2.atC (by have:=h2.errC;rw [he] at this;exact this) call291 ?_).mono ?_
  ·intro w3 p pf E3 hp hpf hpc hpfc
   have h3:=h2.pure E3
   refine (w_P p1 pm p2 w3 (fun o w4=>(o=none∧(Box w4 p2 [.string ⟨(qN bs most r).1.toArray⟩] 9∧RdS S w4 a s bs (qN bs most r).2∧Ext (·=a.block) w0 w4))∨(∃x,o=some (jTW x)∧w4.cell? p=some (.pointer (some a))∧w4.cell? pf=some (.int .i64 r.at_)∧CanW w4 (a.add 1)∧CanW w4 (a.add 2)∧CanW w4 (a.add 3) ∧
    (Box (((w4.setCell (a.add 1) (.int .i64 r.at_)).setCell (a.add 2) (.int .i64 x)).setCell (a.add 3) (.int .i64 r.at_)) p2 [.string ⟨(qN bs most r).1.toArray⟩] 9∧RdS S (((w4.setCell (a.add 1) (.int .i64 r.at_)).setCell (a.add 2) (.int .i64 x)).setCell (a.add 3) (.int .i64 r.at_)) a s bs (qN bs most r).2∧Ext (·=a.block) w0 (((w4.setCell (a.add 1) (.int .i64 r.at_)).setCell (a.add 2) (.int .i64 x)).setCell (a.add 3) (.int .i64 r.at_))))) ?_).mono ?_
   ·unfold m_P
    refine ⟨some a,E3.cell hp1 id,?_⟩
    refine (c_num a s bs r.at_ r.err r.spot w3 h3 hat).mono ?_
    have give:∀(x:Nat) (at':Int) (w4:World),qN bs most r=([],⟨r.at_,x,r.at_⟩)→RdAt S w4 a s bs at' r.err r.spot→Ext (·=a.block) w3 w4→(∃y,some (jTW x)=some (jTW y)∧w4.cell? p=some (.pointer (some a))∧w4.cell? pf=some (.int .i64 r.at_)∧CanW w4 (a.add 1)∧CanW w4 (a.add 2)∧CanW w4 (a.add 3) ∧
     (Box (((w4.setCell (a.add 1) (.int .i64 r.at_)).setCell (a.add 2) (.int .i64 y)).setCell (a.add 3) (.int .i64 r.at_)) p2 [.string ⟨(qN bs most r).1.toArray⟩] 9∧RdS S (((w4.setCell (a.add 1) (.int .i64 r.at_)).setCell (a.add 2) (.int .i64 y)).setCell (a.add 3) (.int .i64 r.at_)) a s bs (qN bs most r).2∧Ext (·=a.block) w0 (((w4.setCell (a.add 1) (.int .i64 r.at_)).setCell (a.add 2) (.int .i64 y)).setCell (a.add 3) (.int .i64 r.at_)))):=by
     intro x at' w4 hrn hR hE
     have hB4:Box w4 p2 [.string ⟨#[]⟩] 9:=(B2.pure E3).ext hE (fun e=>by omega)
     obtain ⟨c1,c2,c3,hR'⟩:=hR.gives r.at_ x
     rw [hrn]
     exact ⟨x,rfl,hE.cell hpc (fun e=>by have:=E2.size;omega),hE.cell hpfc (fun e=>by have:=E2.size;omega),c1,c2,c3,hB4.ext jAM (fun e=>by omega),hR',((Ext.pure (E2.trans E3)).trans hE).trans jAM⟩
    rintro e w4 (⟨n,k,hn,rfl,hlt,hle,hR,hE⟩ | ⟨x,at',hn,rfl,hR,hE⟩)
    ·refine .inl ⟨_,rfl,hE.kept (fun b hb=>hb.elim),_,hE.cell (E3.cell hpm id) (fun e=>by omega),fun hb=>?_,fun _=>⟨_,hE.cell (E3.cell hpm id) (fun e=>by omega),?_⟩⟩
     ·have:=of_decide_eq_true hb;omega
     ·rw [yP (by omega)]
      refine ⟨fun hb=>?_,fun hb=>?_⟩
      ·have hlt':most<n:=by have:=of_decide_eq_true hb;omega
       exact .inr (give 1 _ w4 (by simp [qN,he,hn,hlt']) hR hE)
      ·have hlt':¬ most<n:=by have:=of_decide_eq_false hb;omega
       unfold m_P_j2
       intro w5 hs5
       have E5:=hs5.ext
       have hR5:=hR.pure E5
       have hp5:w5.cell? p1=some (.pointer (some a)):=E5.cell (hE.cell (E3.cell hp1 id) (fun e=>by omega)) id
       have hl:s.len=bs.length:=by rw [h.lst.len,qR]
       have hsm:=h.small
       have hE5:Ext (·=a.block) w3 w5:=hE.thenPure E5
       refine ⟨_,hp5,a,rfl,s,hR5.box.cell0,_,hp5,a,rfl,_,hR5.atC,?_⟩
       have hw1:IntKind.u64.wrap (IntKind.i64.wrap ((s.len:Int) - ((r.at_+k:Nat):Int)))=((bs.length - (r.at_+k):Nat):Int):=by
        rw [hl,IntWalk.i64_in _ (by omega),show ((bs.length:Int) - ((r.at_+k:Nat):Int))=((bs.length - (r.at_+k):Nat):Int) by omega,yP (by omega)]
       rw [hw1]
       refine ⟨fun hb2=>?_,fun hb2=>?_⟩
       ·have hg:bs.length<r.at_+k+n:=by have:=of_decide_eq_true hb2;omega
        exact .inr (give 3 _ w5 (by simp [qN,he,hn,hlt',hg]) hR5 hE5)
       ·have hg:¬ bs.length<r.at_+k+n:=by have:=of_decide_eq_false hb2;omega
        have hrn:qN bs most r=((bs.drop (r.at_+k)).take n,⟨r.at_+k+n,0,r.spot⟩):=by simp [qN,he,hn,hlt',hg]
        unfold m_P_j3
        refine ⟨fun _=>True,trivial,?_⟩
        intro w6 hw6
        have E6:Pure w5 w6:=by rw [hw6];exact Ext.drew _
        have hR6:=hR5.pure E6
        have hp6:=E6.cell hp5 id
        have hn1:IntKind.i64.wrap (n:Int)=(n:Int):=IntWalk.i64_in _ (by omega)
        have hn2:IntKind.i64.wrap (((r.at_+k:Nat):Int)+(n:Int))=((r.at_+k+n:Nat):Int):=by rw [IntWalk.i64_in _ (by omega)];simp
        obtain ⟨s1,hr1,hL1⟩:=hR6.lst.sub (k:=.i64) (lo:=r.at_+k) (n:=n) jGC h.room (by rw [qR];omega)
        have hB6:Box w6 p2 [.string ⟨#[]⟩] 9:=((B2.pure E3).ext hE5 (fun e=>by omega)).pure E6
        have hL2:Lst S w6 1 s1 (byr ((bs.drop (r.at_+k)).take n)):=by
         have e:(List.drop (r.at_+k) (byr bs)).take n=byr ((bs.drop (r.at_+k)).take n):=by simp [byr,List.map_take,List.map_drop]
         rw [← e];exact hL1
        refine ⟨_,hp6,a,rfl,s,hR6.box.cell0,_,hp6,a,rfl,_,hR6.atC,_,hp6,a,rfl,_,hR6.atC,s1,by rw [hn1,hn2];exact hr1,_,jQG underlying65 underlying5 underlying9 hL2,hB6.canW0 (by simp),id,?_⟩
        rintro w7 rfl
        have hx:Ext (·=p2.block) w6 (w6.setCell p2 (.string ⟨((bs.drop (r.at_+k)).take n).toArray⟩)):=Ext.setCell _ _
        have hR7:=hR6.ext hx (fun b hb e=>by have:=hS b hb;omega) (fun e=>by omega)
        refine ⟨_,hx.cell hp6 (fun e=>b12 e),a,rfl,_,hR7.atC,a,rfl,hR7.box.canW (i:=1) (by simp),id,?_⟩
        rintro w8 rfl
        rw [hn1,hn2,hrn]
        have hR8:=hR7.setAt ((r.at_+k+n:Nat):Int)
        rw [he] at hR8
        exact .inl ⟨rfl,(jDA hB6).ext yG (fun e=>by omega),hR8,((((Ext.pure (E2.trans E3)).trans hE5).thenPure E6).trans' hx (fun i hi e=>by omega)).trans yG⟩
    ·exact .inr ⟨_,rfl,.inr (give x at' w4 (by simp [qN,he,hn]) hR hE)⟩
   ·rintro e w4 (⟨rfl,h⟩ | ⟨ch,rfl,h⟩)
    ·rcases h with ⟨_,h⟩ | ⟨_,h,_⟩
     ·exact .inl ⟨rfl,h⟩
     ·cases h
    ·rcases h with ⟨h,_⟩ | ⟨x,h1,h⟩
     ·cases h
     ·cases h1;exact .inr ⟨x,rfl,h⟩
  ·rintro e w3 ⟨rfl,hK⟩
   exact ⟨rfl,fin w3 hK⟩
 ·refine (jCY a _ r.err w2 h2.errC (by omega)).mono ?_
  rintro e w3 ⟨rfl,E3⟩
  have hrn:qN bs most r=([],r):=by simp [qN,he]
  refine ⟨rfl,fin w3 ?_⟩
  rw [hrn]
  exact ⟨B2.pure E3,h2.pure E3,Ext.pure (E2.trans E3)⟩
theorem jSX {w:World} {e:TypeId} {sz:Nat} {s:Sl} {rs:List (List Value)} (h:Rws w e sz s rs):s.len≤s.cap:=by
 rcases h.own with ⟨rfl,_⟩ | ⟨g,cur,_,_,hc,_⟩
 ·exact Nat.le_refl _
 ·rw [h.len];exact hc
theorem c_cNew {S:NP} (s:Sl) (bs:List UInt8) (w0:World) (hs:Lst S w0 1 s (byr bs)) (hz:s.a=none→s=Sl.nil) (hn:bs.length≤100000000000) :
  Calls prog 158 #[s.v] w0 (fun e w'=>∃x:Option Addr,e=.returned (.pointer x)∧∃a s',x=some a∧RdS s'.blk w' a s' bs ⟨0,0,0⟩∧Pure w0 w'∧w0.heap.size≤a.block∧(∀b,s'.blk b→w0.heap.size≤b∧b<w'.heap.size)):=by
 refine w_P2 _ w0 (fun x w'=>∃a s',x=some a∧RdS s'.blk w' a s' bs ⟨0,0,0⟩∧Pure w0 w'∧w0.heap.size≤a.block∧(∀b,s'.blk b→w0.heap.size≤b∧b<w'.heap.size)) ?_
 unfold m_P2
 refine (jSG s bs w0 hs hz hn).mono ?_
 rintro _ w1 ⟨r1,rfl,hR⟩
 refine ⟨r1,rfl,fun p2 w2 n2=>⟨p2,r1,rfl,?_,hR.pure.trans (Ext.new n2),by rw [n2.at_size];exact hR.pure.size,fun b hb=>⟨hR.own b hb,?_⟩⟩⟩
 ·have hb1:∀b,r1.blk b→b<w1.heap.size:=fun b hb=>hR.rows.lt hb
  exact ⟨Box.of_newA n2,(hR.rows.pure (Ext.new n2)).lst,fun b hb e=>by have:=hb1 b hb;have:=n2.at_size;omega,hn,jSX hR.rows⟩
 ·exact (hR.rows.pure (Ext.new n2)).lt hb
theorem c_Left {S:NP} (a:Addr) (s:Sl) (bs:List UInt8) (r:Rd) (w0:World) (h:RdS S w0 a s bs r) (hat:r.at_≤bs.length) :
  Calls prog 160 #[.pointer (some a)] w0 (fun e w'=>∃x:Int,e=.returned (.int .i64 x)∧x=((bs.length - r.at_:Nat):Int)∧Pure w0 w'):=by
 refine w_R2 (some a) w0 (fun x w'=>x=((bs.length - r.at_:Nat):Int)∧Pure w0 w') ?_
 unfold m_R2
 refine ⟨fun hb=>(by cases hb),fun _=>⟨a,rfl,fun w1 hs=>?_⟩⟩
 have h1:=h.pure hs.first
 have hl:s.len=bs.length:=by rw [h.lst.len,qR]
 refine ⟨s,h1.box.cell0,a,rfl,_,h1.atC,?_,hs.first⟩
 rw [hl,IntWalk.i64_in _ (by have:=h.small;omega)];omega
theorem c_At {S:NP} (a:Addr) (s:Sl) (bs:List UInt8) (r:Rd) (w0:World) (h:RdS S w0 a s bs r) :
  Calls prog 161 #[.pointer (some a)] w0 (fun e w'=>∃x:Int,e=.returned (.int .i64 x)∧x=(r.at_:Int)∧w'=w0):=by
 refine w_S2 (some a) w0 (fun x w'=>x=(r.at_:Int)∧w'=w0) ?_
 unfold m_S2
 exact ⟨fun hb=>(by cases hb),fun _=>⟨a,rfl,_,h.atC,rfl,rfl⟩⟩
theorem c_Why {S:NP} (a:Addr) (s:Sl) (bs:List UInt8) (r:Rd) (w0:World) (h:RdS S w0 a s bs r) :
  Calls prog 233 #[.pointer (some a)] w0 (fun e w'=>∃x y:Int,e=.returned (.tuple #[.int .i64 x,.int .i64 y])∧x=(r.err:Int)∧y=(r.spot:Int)∧Pure w0 w'):=by
 refine w_U2 (some a) w0 (fun x y w'=>x=(r.err:Int)∧y=(r.spot:Int)∧Pure w0 w') ?_
 unfold m_U2
 refine ⟨fun hb=>(by cases hb),fun _=>⟨a,rfl,fun w1 hs=>?_⟩⟩
 have h1:=h.pure hs.first
 exact ⟨_,h1.errC,a,rfl,_,h1.box.cell (i:=3) rfl,rfl,rfl,hs.first⟩
end Go.Proofs
end
section
open Go Go.SE
namespace Go.Proofs
attribute [local irreducible] Calls CallsD
theorem RetO.after {w w1 w2:World} {e:TypeId} {sz:Nat} {rs:List (List Value)} {s:Sl} (E:Pure w w1) (h:RetO w1 e sz rs s w2):RetO w e sz rs s w2 :=
 ⟨h.rows,fun b hb=>Nat.le_trans E.size (h.own b hb),E.trans h.pure⟩
section
variable {S:NP} (s:Sl) (bs:List UInt8) (k f t x a b:Int) (y:ByteArray) (m:Option Nat) (w0:World) (hs:Lst S w0 1 s (byr bs)) (hz:s.a=none→s=Sl.nil) (hn:bs.length≤10000000000)
include hs hz hn
end
end Go.Proofs
end
section
open Go Go.SE
namespace Go.Proofs
open Tryz
attribute [local irreducible] Calls CallsD
section
variable {S:NP} (a q:Addr) (s:Sl) (bs:List UInt8) (r:Rd) (cells:List Value) (w0:World) (h:RdS S w0 a s bs r) (hat:r.at_≤bs.length) (hS:∀b,S b→b<w0.heap.size) (hq:Box w0 q cells 303) (hl:cells.length=12) (haq:a.block≠q.block) (hSq:∀b,S b→b≠q.block)
include h hat hS hq hl haq hSq
theorem jSE:Calls prog 218 #[.pointer (some a),.pointer (some q)] w0 (fun e w'=>e=.returned (.tuple #[])∧RdS S w' a s bs (qZ bs r).2∧Box w' q (cells.set 7 (.int .u64 ((qZ bs r).1:Int))) 303∧Ext (fun b=>b=a.block∨b=q.block) w0 w'):=by
 refine w_Z2 (some a) (some q) w0 (fun w'=>RdS S w' a s bs (qZ bs r).2∧Box w' q (cells.set 7 (.int .u64 ((qZ bs r).1:Int))) 303∧Ext (fun b=>b=a.block∨b=q.block) w0 w') ?_;unfold m_Z2;refine (jKI a s bs r w0 h hat hS).mono ?_;rintro e w1 ⟨x,rfl,rfl,hR,hE⟩;have hq1:=hq.ext hE (fun e=>haq e.symm);refine ⟨_,rfl,q,rfl,hq1.canW (i:=7) (by omega),?_⟩;rintro w2 rfl;have hx:Ext (·=q.block) w1 (w1.setCell (q.add 7) (.int .u64 ((qZ bs r).1:Int))):=yG;exact ⟨hR.ext hx (fun b hb e=>hSq b hb e) haq,hq1.set 7 _,(hE.mono (fun _ _ e=>.inl e)).trans (hx.mono (fun _ _ e=>.inr e))⟩
theorem jVY:Calls prog 221 #[.pointer (some a),.pointer (some q)] w0 (fun e w'=>e=.returned (.tuple #[])∧RdS S w' a s bs (qZ bs r).2∧Box w' q (cells.set 8 (.int .u64 ((qZ bs r).1:Int))) 303∧Ext (fun b=>b=a.block∨b=q.block) w0 w'):=by
 refine w_A3 (some a) (some q) w0 (fun w'=>RdS S w' a s bs (qZ bs r).2∧Box w' q (cells.set 8 (.int .u64 ((qZ bs r).1:Int))) 303∧Ext (fun b=>b=a.block∨b=q.block) w0 w') ?_;unfold m_A3;refine (jKI a s bs r w0 h hat hS).mono ?_;rintro e w1 ⟨x,rfl,rfl,hR,hE⟩;have hq1:=hq.ext hE (fun e=>haq e.symm);refine ⟨_,rfl,q,rfl,hq1.canW (i:=8) (by omega),?_⟩;rintro w2 rfl;have hx:Ext (·=q.block) w1 (w1.setCell (q.add 8) (.int .u64 ((qZ bs r).1:Int))):=yG;exact ⟨hR.ext hx (fun b hb e=>hSq b hb e) haq,hq1.set 8 _,(hE.mono (fun _ _ e=>.inl e)).trans (hx.mono (fun _ _ e=>.inr e))⟩
theorem jUG:Calls prog 223 #[.pointer (some a),.pointer (some q)] w0 (fun e w'=>e=.returned (.tuple #[])∧RdS S w' a s bs (qZ bs r).2∧Box w' q (cells.set 3 (.int .u64 ((qZ bs r).1:Int))) 303∧Ext (fun b=>b=a.block∨b=q.block) w0 w'):=by
 refine w_B3 (some a) (some q) w0 (fun w'=>RdS S w' a s bs (qZ bs r).2∧Box w' q (cells.set 3 (.int .u64 ((qZ bs r).1:Int))) 303∧Ext (fun b=>b=a.block∨b=q.block) w0 w') ?_;unfold m_B3;refine (jKI a s bs r w0 h hat hS).mono ?_;rintro e w1 ⟨x,rfl,rfl,hR,hE⟩;have hq1:=hq.ext hE (fun e=>haq e.symm);refine ⟨_,rfl,q,rfl,hq1.canW (i:=3) (by omega),?_⟩;rintro w2 rfl;have hx:Ext (·=q.block) w1 (w1.setCell (q.add 3) (.int .u64 ((qZ bs r).1:Int))):=yG;exact ⟨hR.ext hx (fun b hb e=>hSq b hb e) haq,hq1.set 3 _,(hE.mono (fun _ _ e=>.inl e)).trans (hx.mono (fun _ _ e=>.inr e))⟩
theorem jSD:Calls prog 226 #[.pointer (some a),.pointer (some q)] w0 (fun e w'=>e=.returned (.tuple #[])∧RdS S w' a s bs (qN bs 64 r).2∧Box w' q (cells.set 4 (.string ⟨(qN bs 64 r).1.toArray⟩)) 303∧Ext (fun b=>b=a.block∨b=q.block) w0 w'):=by
 refine w_D3 (some a) (some q) w0 (fun w'=>RdS S w' a s bs (qN bs 64 r).2∧Box w' q (cells.set 4 (.string ⟨(qN bs 64 r).1.toArray⟩)) 303∧Ext (fun b=>b=a.block∨b=q.block) w0 w') ?_;unfold m_D3;refine (c_Text a s bs 64 r w0 h hat hS (by omega)).mono ?_;rintro e w1 ⟨x,rfl,rfl,hR,hE⟩;have hq1:=hq.ext hE (fun e=>haq e.symm);refine ⟨_,rfl,q,rfl,hq1.canW (i:=4) (by omega),?_⟩;rintro w2 rfl;have hx:Ext (·=q.block) w1 (w1.setCell (q.add 4) (.string ⟨(qN bs 64 r).1.toArray⟩)):=yG;exact ⟨hR.ext hx (fun b hb e=>hSq b hb e) haq,hq1.set 4 _,(hE.mono (fun _ _ e=>.inl e)).trans (hx.mono (fun _ _ e=>.inr e))⟩
theorem c_getA:Calls prog 229 #[.pointer (some a),.pointer (some q)] w0 (fun e w'=>e=.returned (.tuple #[])∧RdS S w' a s bs (qZ bs r).2∧Box w' q ((cells.set 9 (.int .u64 ((qZ bs r).1:Int))).set 11 (.int .i64 1)) 303∧Ext (fun b=>b=a.block∨b=q.block) w0 w'):=by
 refine w_E3 (some a) (some q) w0 (fun w'=>RdS S w' a s bs (qZ bs r).2∧Box w' q ((cells.set 9 (.int .u64 ((qZ bs r).1:Int))).set 11 (.int .i64 1)) 303∧Ext (fun b=>b=a.block∨b=q.block) w0 w') ?_;unfold m_E3;refine (jKI a s bs r w0 h hat hS).mono ?_;rintro e w1 ⟨x,rfl,rfl,hR,hE⟩;have hq1:=hq.ext hE (fun e=>haq e.symm);refine ⟨_,rfl,q,rfl,hq1.canW (i:=9) (by omega),?_⟩;rintro w2 rfl;have hx:Ext (·=q.block) w1 ((w1.setCell (q.add 9) (.int .u64 ((qZ bs r).1:Int))).setCell (q.add 11) (.int .i64 1)):=yG.trans yG;have hq2:=hq1.set 9 (.int .u64 ((qZ bs r).1:Int));refine ⟨q,rfl,hq2.canW (i:=11) (by rw [List.length_set];omega),?_⟩;rintro w3 rfl;exact ⟨hR.ext hx (fun b hb e=>hSq b hb e) haq,hq2.set 11 _,(hE.mono (fun _ _ e=>.inl e)).trans (hx.mono (fun _ _ e=>.inr e))⟩
theorem c_getB:Calls prog 231 #[.pointer (some a),.pointer (some q)] w0 (fun e w'=>e=.returned (.tuple #[])∧RdS S w' a s bs (qZ bs r).2∧Box w' q ((cells.set 10 (.int .u64 ((qZ bs r).1:Int))).set 11 (.int .i64 2)) 303∧Ext (fun b=>b=a.block∨b=q.block) w0 w'):=by
 refine w_F3 (some a) (some q) w0 (fun w'=>RdS S w' a s bs (qZ bs r).2∧Box w' q ((cells.set 10 (.int .u64 ((qZ bs r).1:Int))).set 11 (.int .i64 2)) 303∧Ext (fun b=>b=a.block∨b=q.block) w0 w') ?_;unfold m_F3;refine (jKI a s bs r w0 h hat hS).mono ?_;rintro e w1 ⟨x,rfl,rfl,hR,hE⟩;have hq1:=hq.ext hE (fun e=>haq e.symm);refine ⟨_,rfl,q,rfl,hq1.canW (i:=10) (by omega),?_⟩;rintro w2 rfl;have hx:Ext (·=q.block) w1 ((w1.setCell (q.add 10) (.int .u64 ((qZ bs r).1:Int))).setCell (q.add 11) (.int .i64 2)):=yG.trans yG;have hq2:=hq1.set 10 (.int .u64 ((qZ bs r).1:Int));refine ⟨q,rfl,hq2.canW (i:=11) (by rw [List.length_set];omega),?_⟩;rintro w3 rfl;exact ⟨hR.ext hx (fun b hb e=>hSq b hb e) haq,hq2.set 11 _,(hE.mono (fun _ _ e=>.inl e)).trans (hx.mono (fun _ _ e=>.inr e))⟩
end
end Go.Proofs
end
section
namespace Go.Sp
structure Node where
 kind:Int
 frm:Int
 to:Int
 num:Int
 text:ByteArray
 a:Int
 b:Int
deriving DecidableEq
structure Shape where
 frm:Bool
 to:Bool
 num:Bool
 text:Bool
 kids:Int
deriving DecidableEq
def noShape:Shape:=⟨false,false,false,false,0⟩
def shapeOf (k:Int):Shape :=
 if k=1 then ⟨true,false,false,false,0⟩ else if k=2 then ⟨false,false,true,false,0⟩ else if k=3 then ⟨false,false,false,true,0⟩
 else if k=4 then ⟨false,false,false,false,2⟩ else if k=5 then ⟨false,false,false,false,1⟩ else if k=6 then ⟨true,false,false,false,0⟩
 else if k=7 then ⟨true,false,false,false,1⟩ else if k=8 then ⟨true,true,false,false,1⟩ else if k=9 then ⟨true,true,false,false,1⟩ else noShape
def isKind (k:Int):Bool:=decide (1≤k) && decide (k≤9)
def lG (n:Int):Bool:=decide (0≤n) && decide (n<16)
def vA (n:Node):Int :=
 let s:=shapeOf n.kind
 if !isKind n.kind || (!s.frm && n.frm != 0) || (!s.to && n.to != 0) || (!s.num && n.num != 0) || (!s.text && !decide (n.text=⟨#[]⟩)) then 53 else 0
def zZ (s:Shape) (n:Node):Int :=
 if (s.frm && !lG n.frm) || (s.to && (!lG n.to || n.to == n.frm)) then 50 else if n.text.size>64 then 1 else 0
structure Ent where
 node:Node
 size:Int
 depth:Int
deriving DecidableEq
abbrev Pool:=List Ent
def inP (L:Pool) (t:Int):Bool:=decide (1≤t) && decide (t≤L.length)
def get (L:Pool) (t:Int):Option Ent:=if inP L t then L[(t - 1).toNat]? else none
def sizeOf (L:Pool) (t:Int):Int:=((get L t).map (·.size)).getD 0
def depthOf (L:Pool) (t:Int):Int:=((get L t).map (·.depth)).getD 0
def jNA:Node:=⟨0,0,0,0,⟨#[]⟩,0,0⟩
def nodeOf (L:Pool) (t:Int):Node:=((get L t).map (·.node)).getD jNA
def zI (n:Node):List Int:=[n.a,n.b].take (shapeOf n.kind).kids.toNat
def check (L:Pool) (n:Node):Int×Int×Int :=
 let s:=shapeOf n.kind
 if vA n≠0 then (0,0,vA n)
 else if (decide (s.kids<1) && n.a != 0) || (decide (s.kids<2) && n.b != 0) then (0,0,53)
 else if zZ s n≠0 then (0,0,zZ s n)
 else if (zI n).any (fun t=>!inP L t) then (0,0,51)
 else
  let sz:=1+((zI n).map (sizeOf L)).sum
  let d:=(zI n).foldl (fun d t=>max d (depthOf L t)) 0+1
  if sz>4096∨d>64 then (0,0,52) else (sz,d,0)
def find (L:Pool) (n:Node):Option Nat:=L.findIdx? (fun e=>e.node=n)
def make (L:Pool) (n:Node):Int×Int×Pool :=
 let c:=check L n
 if c.2.2≠0 then (0,c.2.2,L)
 else match find L n with
  | some i=>(i+1,0,L)
  | none=>if 65536≤L.length then (0,6,L) else (L.length+1,0,L++[⟨n,c.1,c.2.1⟩])
structure Ok (L:Pool):Prop where
 few:L.length≤65536
 nodup:(L.map (·.node)).Nodup
 size:∀e∈L,1≤e.size∧e.size≤4096
 depth:∀e∈L,1≤e.depth∧e.depth≤64
theorem zY {L:Pool} {t:Int}:inP L t=true↔1≤t∧t≤L.length:=by simp [inP]
theorem jCG {L:Pool} {t:Int} (h:inP L t=true):∃e,get L t=some e∧e∈L∧∃hi:(t - 1).toNat<L.length,L[(t - 1).toNat]=e:=by
 obtain ⟨h1,h2⟩:=zY.1 h;have hi:(t - 1).toNat<L.length:=by omega
 exact ⟨L[(t - 1).toNat],by simp [get,h],List.getElem_mem hi,hi,rfl⟩
theorem xB {L:Pool} {t:Int} (h:inP L t=false):get L t=none:=by simp [get,h]
theorem Ok.sizeOf {L:Pool} (h:Ok L) (t:Int):0≤sizeOf L t∧sizeOf L t≤4096:=by
 cases ht:inP L t with
 | true=>obtain ⟨e,he,hm,_⟩:=jCG ht;have:=h.size e hm;simp [Sp.sizeOf,he];omega
 | false=>simp [Sp.sizeOf,xB ht]
theorem Ok.depthOf {L:Pool} (h:Ok L) (t:Int):0≤depthOf L t∧depthOf L t≤64:=by
 cases ht:inP L t with
 | true=>obtain ⟨e,he,hm,_⟩:=jCG ht;have:=h.depth e hm;simp [Sp.depthOf,he];omega
 | false=>simp [Sp.depthOf,xB ht]
theorem Ok.nil:Ok []:=⟨by simp,by simp,by simp,by simp⟩
theorem yO (k:Int):(shapeOf k).kids=0∨(shapeOf k).kids=1∨(shapeOf k).kids=2:=by
 unfold shapeOf noShape;repeat' split
 all_goals simp
end Go.Sp
end
section
namespace Go.Sp
inductive Tree where
 | mk (k f t u:Int) (x:ByteArray) (kids:List Tree)
def Tree.kids:Tree→List Tree | .mk _ _ _ _ _ ks=>ks
def Tree.node:Tree→Node | .mk k f t u x _=>⟨k,f,t,u,x,0,0⟩
theorem Tree.ind {P:Tree→Prop} (h:∀k f t u x (ks:List Tree),(∀i (hi:i<ks.length),P ks[i])→P (.mk k f t u x ks)) (t:Tree):P t:=by
 refine Tree.rec (motive_1:=P) (motive_2:=fun ks=>∀i (hi:i<ks.length),P ks[i]) ?_ ?_ ?_ t
 ·intro k f t u x ks ih;exact h _ _ _ _ _ _ ih
 ·intro i hi;simp at hi
 ·intro t ks ht hks i hi;cases i with
  | zero=>exact ht
  | succ i=>exact hks i (by simpa using hi)
def qW (n:Node) (len:Nat):Int :=
 let e:=if vA n=0 then if (len:Int)≠(shapeOf n.kind).kids then 53 else 0 else vA n
 if e=0 then zZ (shapeOf n.kind) n else e
mutual
def qD (inside seen:Int):Tree→Int×Int
 | .mk k f t u x ks=>if 4096≤seen then (52,seen) else if 64≤inside then (52,seen) else vK (inside+1) (qW ⟨k,f,t,u,x,0,0⟩ ks.length) (seen+1) ks
def vK (inside e seen:Int):List Tree→Int×Int
 | []=>(e,seen)
 | t :: ts=>if e=0 then vK inside (qD inside seen t).1 (qD inside seen t).2 ts else (e,seen)
end
mutual
def grow (L:Pool):Tree→Int×Int×Pool
 | .mk k f t u x ks=>vE ⟨k,f,t,u,x,0,0⟩ 0 L ks
def vE (n:Node) (i:Nat) (L:Pool):List Tree→Int×Int×Pool
 | []=>make L n
 | t :: ts=>if (grow L t).2.1≠0 then (0,(grow L t).2.1,(grow L t).2.2) else vE (if i=0 then { n with a:=(grow L t).1 } else { n with b:=(grow L t).1 }) (i+1) (grow L t).2.2 ts
end
def of (L:Pool) (t:Tree):Int×Int×Pool :=
 if (qD 0 0 t).1≠0 then (0,(qD 0 0 t).1,L)
 else if (grow L t).2.1≠0 then (0,(grow L t).2.1,L) else ((grow L t).1,0,(grow L t).2.2)
theorem jGI (L:Pool) (n:Node):∃M,(make L n).2.2=L++M:=by
 unfold make;simp only;by_cases hc:(check L n).2.2=0
 ·simp only [hc];rw [if_neg (by simp)];split
  ·exact ⟨[],by simp⟩
  ·split
   ·exact ⟨[],by simp⟩
   ·exact ⟨_,rfl⟩
 ·rw [if_pos hc];exact ⟨[],by simp⟩
theorem jUA {L:Pool} {n:Node} (hok:Ok L) (h:(check L n).2.2=0):1≤(check L n).1∧(check L n).1≤4096∧1≤(check L n).2.1∧(check L n).2.1≤64:=by
 unfold check at h ⊢;simp only at h ⊢;by_cases h1:vA n≠0
 ·rw [if_pos h1] at h;exact absurd h h1
 rw [if_neg h1] at h ⊢;split at h
 ·simp at h
 rename_i h2;rw [if_neg h2];by_cases h3:zZ (shapeOf n.kind) n≠0
 ·rw [if_pos h3] at h;exact absurd h h3
 rw [if_neg h3] at h ⊢;split at h
 ·simp at h
 rename_i h4;rw [if_neg h4];split at h
 ·simp at h
 rename_i h5;rw [if_neg h5];have hs:∀l:List Int,0≤(l.map (sizeOf L)).sum:=by
  intro l;induction l with
  | nil=>simp
  | cons y l ih=>have:=hok.sizeOf y;simp only [List.map_cons,List.sum_cons];omega
 have hd:∀(l:List Int) (d:Int),0≤d→0≤l.foldl (fun d t=>max d (depthOf L t)) d:=by
  intro l;induction l with
  | nil=>intro d h;exact h
  | cons y l ih=>intro d h;exact ih (max d (depthOf L y)) (by omega)
 have:=hs (zI n);have:=hd (zI n) 0 (by omega);simp only;omega
theorem jLM {L:Pool} (hok:Ok L) (n:Node):Ok (make L n).2.2:=by
 by_cases hc:(check L n).2.2=0
 ·have:=jUA hok hc;unfold make;simp only [hc];rw [if_neg (by simp)];split
  ·exact hok
  ·rename_i hf;split
   ·exact hok
   ·rename_i hl;refine ⟨by simp;omega,?_,?_,?_⟩
    ·rw [List.map_append,List.nodup_append];refine ⟨hok.nodup,by simp,?_⟩;intro a ha b hb;simp only [List.map_cons,List.map_nil,List.mem_singleton] at hb;subst hb;obtain ⟨e,he,rfl⟩:=List.mem_map.1 ha;unfold find at hf;rw [List.findIdx?_eq_none_iff] at hf;simpa using hf e he
    ·intro e he;rcases List.mem_append.1 he with h | h
     ·exact hok.size e h
     ·simp only [List.mem_singleton] at h;subst h;simp;omega
    ·intro e he;rcases List.mem_append.1 he with h | h
     ·exact hok.depth e h
     ·simp only [List.mem_singleton] at h;subst h;simp;omega
 ·unfold make;simp only;rw [if_pos hc];exact hok
theorem xJ (t:Tree):∀L,Ok L→Ok (grow L t).2.2∧∃M,(grow L t).2.2=L++M:=by
 induction t using Tree.ind with
 | h k f t u x ks ih =>
  have:∀(ks:List Tree),(∀i (hi:i<ks.length),∀L,Ok L→Ok (grow L ks[i]).2.2∧∃M,(grow L ks[i]).2.2=L++M)→∀n i L,Ok L→Ok (vE n i L ks).2.2∧∃M,(vE n i L ks).2.2=L++M:=by
   intro ks;induction ks with
   | nil=>intro _ n i L h;unfold vE;exact ⟨jLM h n,jGI L n⟩
   | cons t ts iht =>
    intro hh n i L h
    have h0:=hh 0 (by simp) L h
    simp only [List.getElem_cons_zero] at h0
    unfold vE
    split
    ·exact h0
    ·obtain ⟨ho,M,hM⟩:=h0
     have:=iht (fun i hi=>hh (i+1) (by simpa using hi)) (if i=0 then { n with a:=(grow L t).1 } else { n with b:=(grow L t).1 }) (i+1) (grow L t).2.2 ho
     refine ⟨this.1,?_⟩
     obtain ⟨M2,hM2⟩:=this.2
     exact ⟨M++M2,by rw [hM2,hM,List.append_assoc]⟩
  intro L h
  unfold grow
  exact this ks ih _ _ L h
def yV (n:Int):Prop:=0≤n∧n<18446744073709551616
inductive NumT:Tree→Prop
 | mk (k f t u:Int) (x:ByteArray) (ks:List Tree) (own:yV u) (kids:∀i (hi:i<ks.length),NumT ks[i]):NumT (.mk k f t u x ks)
end Go.Sp
end
section
namespace Go.Sp
theorem qC {L:Pool} {i:Nat} (hi:i<L.length):nodeOf L ((i:Int)+1)=L[i].node:=by
 have h:inP L ((i:Int)+1)=true:=zY.2 ⟨by omega,by omega⟩;have e:((i:Int)+1 - 1).toNat=i:=by omega
 simp [nodeOf,get,h,e,hi]
theorem tB {L:Pool} {t:Int} (h:inP L t=true):∃i:Nat,i<L.length∧t=(i:Int)+1:=by
 have:=zY.1 h;exact ⟨(t - 1).toNat,by omega,by omega⟩
theorem jDL {L:Pool} {i:Nat} (hi:i<L.length):get L ((i:Int)+1)=some L[i]:=by
 have h:inP L ((i:Int)+1)=true:=zY.2 ⟨by omega,by omega⟩;have e:((i:Int)+1 - 1).toNat=i:=by omega
 simp [get,h,e,hi]
structure Wf (L:Pool):Prop where
 ok:Ok L
 each:∀i (hi:i<L.length),check (L.take i) L[i].node=(L[i].size,L[i].depth,0)
theorem Wf.nil:Wf []:=⟨Ok.nil,fun i hi=>by simp at hi⟩
theorem jGQ {L:Pool} {n:Node} (h:(check L n).2.2=0):vA n=0∧((shapeOf n.kind).kids<1→n.a=0)∧((shapeOf n.kind).kids<2→n.b=0)∧zZ (shapeOf n.kind) n=0∧(∀t∈zI n,inP L t=true) ∧
  (check L n).1=1+((zI n).map (sizeOf L)).sum∧(check L n).2.1=(zI n).foldl (fun d t=>max d (depthOf L t)) 0+1∧(check L n).1≤4096∧(check L n).2.1≤64:=by
 unfold check at h ⊢
 simp only at h ⊢
 by_cases h1:vA n≠0
 ·rw [if_pos h1] at h;exact absurd h h1
 rw [if_neg h1] at h ⊢
 split at h
 ·simp at h
 rename_i h2;rw [if_neg h2]
 by_cases h3:zZ (shapeOf n.kind) n≠0
 ·rw [if_pos h3] at h;exact absurd h h3
 rw [if_neg h3] at h ⊢
 split at h
 ·simp at h
 rename_i h4;rw [if_neg h4]
 split at h
 ·simp at h
 rename_i h5;rw [if_neg h5]
 simp only [Bool.or_eq_true,Bool.and_eq_true,decide_eq_true_eq,bne_iff_ne,ne_eq,not_or,not_and,Classical.not_not] at h2
 refine ⟨by simpa using h1,h2.1,h2.2,by simpa using h3,fun t ht=>?_,rfl,rfl,by simp only;omega,by simp only;omega⟩
 cases hi:inP L t with
 | true=>rfl
 | false=>exact absurd (List.any_eq_true.2 ⟨t,ht,by simp [hi]⟩) h4
theorem jCD (L:Pool) (n:Node):(make L n).2.2=L∨((check L n).2.2=0∧(make L n).2.2=L++[⟨n,(check L n).1,(check L n).2.1⟩]):=by
 by_cases hc:(check L n).2.2=0
 ·unfold make;simp only [hc];rw [if_neg (by simp)];split
  ·exact .inl rfl
  ·split
   ·exact .inl rfl
   ·exact .inr ⟨trivial,rfl⟩
 ·unfold make;simp only;rw [if_pos hc];exact .inl rfl
theorem jQA {L:Pool} {e:Ent} (h:∀i (hi:i<L.length),check (L.take i) L[i].node=(L[i].size,L[i].depth,0)) (he:check L e.node=(e.size,e.depth,0)):∀i (hi:i<(L++[e]).length),check ((L++[e]).take i) (L++[e])[i].node=((L++[e])[i].size,(L++[e])[i].depth,0):=by
 intro i hi;simp only [List.length_append,List.length_cons,List.length_nil] at hi;by_cases hlt:i<L.length
 ·simp only [List.getElem_append_left hlt];rw [List.take_append_of_le_length (by omega)];exact h i hlt
 ·have:i=L.length:=by omega
  subst this;simp only [List.getElem_append_right (Nat.le_refl _),Nat.sub_self,List.getElem_cons_zero];rw [List.take_left' rfl];exact he
theorem xP {L:Pool} (h:Wf L) (n:Node):Wf (make L n).2.2:=by
 have ho:=jLM h.ok n;rcases jCD L n with e | ⟨hc,e⟩
 ·rw [e];exact h
 ·rw [e] at ho ⊢;exact ⟨ho,jQA h.each (by rw [← hc])⟩
theorem jHP (t:Tree):∀L,Wf L→Wf (grow L t).2.2:=by
 induction t using Tree.ind with
 | h k f t u x ks ih =>
  have:∀(ks:List Tree),(∀i (hi:i<ks.length),∀L,Wf L→Wf (grow L ks[i]).2.2)→∀n i L,Wf L→Wf (vE n i L ks).2.2:=by
   intro ks;induction ks with
   | nil=>intro _ n i L h;unfold vE;exact xP h n
   | cons t ts iht =>
    intro hh n i L h
    have h0:=hh 0 (by simp) L h
    simp only [List.getElem_cons_zero] at h0
    unfold vE
    split
    ·exact h0
    ·exact iht (fun i hi=>hh (i+1) (by simpa using hi)) _ _ _ h0
  intro L h
  unfold grow
  exact this ks ih _ _ L h
theorem of_wf {L:Pool} (h:Wf L) (t:Tree):Wf (of L t).2.2:=by
 unfold of;split
 ·exact h
 ·split
  ·exact h
  ·exact jHP t L h
theorem jTL {L:Pool} (h:Ok L) (t:Tree):∃M,(of L t).2.2=L++M:=by
 unfold of;split
 ·exact ⟨[],by simp⟩
 ·split
  ·exact ⟨[],by simp⟩
  ·exact (xJ t L h).2
theorem jBB {L M:Pool} {t:Int} (h:inP L t=true):inP (L++M) t=true:=by
 have:=zY.1 h;exact zY.2 ⟨this.1,by rw [List.length_append];omega⟩
theorem jLQ {L M:Pool} {t:Int} (h:inP L t=true):get (L++M) t=get L t:=by
 obtain ⟨i,hi,rfl⟩:=tB h;rw [jDL hi,jDL (by rw [List.length_append];omega),List.getElem_append_left hi]
theorem jCT {L M:Pool} {t:Int} (h:inP L t=true):nodeOf (L++M) t=nodeOf L t:=by unfold nodeOf;rw [jLQ h]
theorem jCQ {L M:Pool} {t:Int} (h:inP L t=true):sizeOf (L++M) t=sizeOf L t:=by unfold sizeOf;rw [jLQ h]
theorem jBE {L M:Pool} {t:Int} (h:inP L t=true):depthOf (L++M) t=depthOf L t:=by unfold depthOf;rw [jLQ h]
theorem Wf.node {L:Pool} (h:Wf L) {t:Int} (ht:inP L t=true):vA (nodeOf L t)=0∧((shapeOf (nodeOf L t).kind).kids<1→(nodeOf L t).a=0)∧((shapeOf (nodeOf L t).kind).kids<2→(nodeOf L t).b=0)∧zZ (shapeOf (nodeOf L t).kind) (nodeOf L t)=0 ∧
  (∀k∈zI (nodeOf L t),inP L k=true∧k<t)∧sizeOf L t=1+((zI (nodeOf L t)).map (sizeOf L)).sum∧depthOf L t=(zI (nodeOf L t)).foldl (fun d k=>max d (depthOf L k)) 0+1:=by
 obtain ⟨i,hi,rfl⟩:=tB ht
 have he:=h.each i hi
 have hz:=jGQ (L:=L.take i) (n:=L[i].node) (by rw [he])
 rw [qC hi]
 obtain ⟨h1,h2,h3,h4,h5,h6,h7,_,_⟩:=hz
 have hin:∀k∈zI L[i].node,inP (L.take i) k=true∧inP L k=true∧k<(i:Int)+1:=by
  intro k hk;have hk':=h5 k hk;have hk2:=zY.1 hk';have:L.take i++L.drop i=L:=List.take_append_drop i L;refine ⟨hk',by rw [← this];exact jBB hk',?_⟩;rw [List.length_take] at hk2;omega
 have hsz:∀k∈zI L[i].node,sizeOf (L.take i) k=sizeOf L k∧depthOf (L.take i) k=depthOf L k:=by
  intro k hk;have hk':=(hin k hk).1;have:L.take i++L.drop i=L:=List.take_append_drop i L;exact ⟨by rw [← jCQ (M:=L.drop i) hk',this],by rw [← jBE (M:=L.drop i) hk',this]⟩
 refine ⟨h1,h2,h3,h4,fun k hk=>⟨(hin k hk).2.1,(hin k hk).2.2⟩,?_,?_⟩
 ·have:sizeOf L ((i:Int)+1)=L[i].size:=by simp [sizeOf,jDL hi]
  rw [this]
  rw [he] at h6
  simp only at h6
  rw [h6]
  congr 2
  exact List.map_congr_left (fun k hk=>(hsz k hk).1)
 ·have:depthOf L ((i:Int)+1)=L[i].depth:=by simp [depthOf,jDL hi]
  rw [this]
  rw [he] at h7
  simp only at h7
  rw [h7]
  congr 1
  have:∀(l:List Int) (d:Int),(∀k∈l,depthOf (L.take i) k=depthOf L k)→l.foldl (fun d t=>max d (depthOf (L.take i) t)) d=l.foldl (fun d k=>max d (depthOf L k)) d:=by
   intro l;induction l with
   | nil=>intro d _;rfl
   | cons a l ih=>intro d hh;simp only [List.foldl_cons];rw [hh a (by simp)];exact ih _ (fun k hk=>hh k (by simp [hk]))
  exact this _ _ (fun k hk=>(hsz k hk).2)
def jQY:Tree:=.mk 0 0 0 0 ⟨#[]⟩ []
def jHB (L:Pool):Nat→Int→Tree
 | 0,_=>jQY
 | fuel+1,t=>if inP L t=true then .mk (nodeOf L t).kind (nodeOf L t).frm (nodeOf L t).to (nodeOf L t).num (nodeOf L t).text ((zI (nodeOf L t)).map (jHB L fuel)) else jQY
def zH (L:Pool) (t:Int):Tree:=jHB L t.toNat t
theorem jAG {L:Pool} {t:Int} (h:inP L t=false) (f:Nat):jHB L f t=jQY:=by
 cases f <;> simp [jHB,h]
theorem jNY {L:Pool} (h:Wf L):∀(f:Nat) (t:Int),t.toNat≤f→jHB L f t=zH L t:=by
 have key:∀(f g:Nat) (t:Int),t.toNat≤f→t.toNat≤g→jHB L f t=jHB L g t:=by
  intro f;induction f with
  | zero =>
   intro g t hf hg
   have:inP L t=false:=by
    apply Bool.eq_false_iff.2;intro hi;have:=zY.1 hi;omega
   rw [jAG this,jAG this]
  | succ f ih =>
   intro g t hf hg
   cases hi:inP L t with
   | false=>rw [jAG hi,jAG hi]
   | true =>
    have hpos:=zY.1 hi
    cases g with
    | zero=>omega
    | succ g =>
     simp only [jHB,hi,if_true]
     congr 1
     refine List.map_congr_left (fun k hk=>ih g k ?_ ?_)
     ·have:=((h.node hi).2.2.2.2.1 k hk).2;omega
     ·have:=((h.node hi).2.2.2.2.1 k hk).2;omega
 intro f t hf;exact key f t.toNat t hf (Nat.le_refl _)
theorem vW {L:Pool} (h:Wf L) {t:Int} (ht:inP L t=true):zH L t=.mk (nodeOf L t).kind (nodeOf L t).frm (nodeOf L t).to (nodeOf L t).num (nodeOf L t).text ((zI (nodeOf L t)).map (zH L)):=by
 have hpos:=zY.1 ht;have e:t.toNat=(t.toNat - 1)+1:=by omega
 unfold zH;rw [e];simp only [jHB,ht,if_true];congr 1;refine List.map_congr_left (fun k hk=>?_);have:=((h.node ht).2.2.2.2.1 k hk).2;exact jNY h _ k (by omega)
theorem Wf.first {L M:Pool} (h:Wf (L++M)):Wf L:=by
 refine ⟨⟨by have:=h.ok.few;rw [List.length_append] at this;omega,?_,fun e he=>h.ok.size e (by simp [he]),fun e he=>h.ok.depth e (by simp [he])⟩,fun i hi=>?_⟩
 ·have:=h.ok.nodup;rw [List.map_append] at this;exact (List.nodup_append.1 this).1
 ·have:=h.each i (by rw [List.length_append];omega);rw [List.getElem_append_left hi,List.take_append_of_le_length (by omega)] at this;exact this
theorem lN {L M:Pool} (h:Wf (L++M)):∀(n:Nat) (t:Int),t.toNat=n→inP L t=true→zH (L++M) t=zH L t:=by
 have hL:=h.first;intro n;induction n using Nat.strongRecOn with
 | _ n ih =>
  intro t hn ht
  rw [vW h (jBB ht),vW hL ht,jCT ht]
  congr 1
  refine List.map_congr_left (fun k hk=>?_)
  have hk':=(hL.node ht).2.2.2.2.1 k hk
  have:=zY.1 hk'.1
  exact ih k.toNat (by omega) k rfl hk'.1
end Go.Sp
end
section
namespace Go.Sp
def uI (k:Int):Bool:=k == 7 || k == 8 || k == 9
def jHS (k:Int):Bool:=k == 1 || k == 2 || k == 3
def vJ (n:Int):Node:=⟨6,n,0,0,⟨#[]⟩,0,0⟩
def xL (n:Node):Int:=if n.kind=9 then n.to else n.frm
def uG (L:Pool) (r u t:Int):Prop :=
 (r=1∧(nodeOf L u).kind=4∧(nodeOf L u).a=t)∨(r=2∧(nodeOf L u).kind=4∧(nodeOf L u).b=t)∨(r=3∧uI (nodeOf L u).kind=true∧(nodeOf L u).a=t)
inductive Seen (L:Pool) (G:List Int):Int→Prop
 | given {t:Int}:t∈G→Seen L G t
 | «from» {r u t:Int}:Seen L G u→uG L r u t→Seen L G t
inductive Drv (L:Pool) (K:Int→Prop):Int→Prop
 | seen {t:Int}:K t→Drv L K t
 | free {t:Int}:jHS (nodeOf L t).kind=true→Drv L K t
 | pair {t:Int}:(nodeOf L t).kind=4→Drv L K (nodeOf L t).a→Drv L K (nodeOf L t).b→Drv L K t
 | hash {t:Int}:(nodeOf L t).kind=5→Drv L K (nodeOf L t).a→Drv L K t
 | sign {t:Int} {i:Nat}:uI (nodeOf L t).kind=true→Drv L K (nodeOf L t).a→find L (vJ (xL (nodeOf L t)))=some i→K ((i:Int)+1)→Drv L K t
structure Way where
 t:Int
 rule:Int
 frm:Int
deriving DecidableEq
def zM (S:List Way):List Int:=S.map Way.t
def jFX (L:Pool) (G:List Int) (pre:List Way) (v:Way):Prop:=(v.rule=0∧v.frm=0∧v.t∈G)∨(v.rule≠0∧uG L v.rule v.frm v.t∧v.frm∈zM pre)
structure WaysOk (L:Pool) (G:List Int) (S:List Way):Prop where
 nodup:(zM S).Nodup
 inp:∀t∈zM S,inP L t=true
 way:∀i (h:i<S.length),jFX L G (S.take i) S[i]
def jFO (L:Pool) (S:List Way) (u:Int):Prop:=∀r t,uG L r u t→t∈zM S
structure KnowOk (L:Pool) (G:List Int) (S:List Way):Prop extends WaysOk L G S where
 closed:∀u∈zM S,jFO L S u
 giv:∀t∈G,t∈zM S
 gnd:G.Nodup
theorem qV (S:List Way):(zM S).length=S.length:=by simp [zM]
theorem jFX.mono {L:Pool} {G G':List Int} {pre:List Way} {v:Way} (h:jFX L G pre v) (hG:∀t∈G,t∈G'):jFX L G' pre v:=by
 rcases h with ⟨a,b,c⟩ | h
 ·exact .inl ⟨a,b,hG _ c⟩
 ·exact .inr h
theorem WaysOk.mono {L:Pool} {G G':List Int} {S:List Way} (h:WaysOk L G S) (hG:∀t∈G,t∈G'):WaysOk L G' S:=⟨h.nodup,h.inp,fun i hi=>(h.way i hi).mono hG⟩
theorem WaysOk.snoc {L:Pool} {G:List Int} {S:List Way} (h:WaysOk L G S) {v:Way} (hn:v.t ∉ zM S) (hi:inP L v.t=true) (hv:jFX L G S v):WaysOk L G (S++[v]):=by
 refine ⟨?_,?_,fun i hlt=>?_⟩
 ·unfold zM at hn ⊢;rw [List.map_append,List.nodup_append];exact ⟨h.nodup,by simp,fun x hx y hy e=>by simp at hy;subst hy;exact hn (e▸hx)⟩
 ·intro t ht;unfold zM at ht;rw [List.map_append,List.mem_append] at ht;rcases ht with ht | ht
  ·exact h.inp t ht
  ·simp at ht;rw [ht];exact hi
 ·rw [List.length_append] at hlt;simp only [List.length_cons,List.length_nil] at hlt;by_cases hl:i<S.length
  ·rw [List.getElem_append_left hl,List.take_append_of_le_length (by omega)];exact h.way i hl
  ·have:i=S.length:=by omega
   subst this;rw [List.getElem_append_right (Nat.le_refl _),List.take_left];simpa using hv
theorem jFO.snoc {L:Pool} {S:List Way} {u:Int} {v:Way} (h:jFO L S u):jFO L (S++[v]) u:=fun r t ha=>by
 unfold zM;rw [List.map_append];exact List.mem_append_left _ (h r t ha)
theorem jHA {S:List Way} {t:Int} (h:t∈zM S):∃i,∃hi:i<S.length,S[i].t=t∧(zM S).idxOf t=i:=by
 have hlt:=List.idxOf_lt_length_iff.2 h;refine ⟨(zM S).idxOf t,by simpa [zM] using hlt,?_,rfl⟩;have:=List.getElem_idxOf hlt;simp only [zM,List.getElem_map] at this ⊢;exact this
theorem KnowOk.seen_iff {L:Pool} {G:List Int} {S:List Way} (h:KnowOk L G S) (t:Int):t∈zM S↔Seen L G t:=by
 constructor
 ·intro ht;obtain ⟨i,hi,e,_⟩:=jHA ht;subst e;have:∀(n i:Nat) (hi:i<S.length),i≤n→Seen L G S[i].t:=by
   intro n;induction n with
   | zero =>
    intro i hi h0
    have:i=0:=by omega
    subst this
    rcases h.way 0 hi with ⟨_,_,hg⟩ | ⟨_,_,hm⟩
    ·exact .given hg
    ·simp [zM] at hm
   | succ n ih =>
    intro i hi hn
    rcases h.way i hi with ⟨_,_,hg⟩ | ⟨_,ha,hm⟩
    ·exact .given hg
    ·obtain ⟨j,hj,e,_⟩:=jHA hm
     rw [List.length_take] at hj
     have:=ih j (by omega) (by omega)
     rw [List.getElem_take] at e
     rw [e] at this
     exact .from this ha
  exact this i i hi (Nat.le_refl _)
 ·intro hs;induction hs with
  | given hg=>exact h.giv _ hg
  | «from» _ ha ih=>exact h.closed _ ih _ _ ha
theorem Seen.mono {L:Pool} {G G':List Int} (hG:∀t∈G,t∈G') {t:Int} (h:Seen L G t):Seen L G' t:=by
 induction h with
 | given hg=>exact .given (hG _ hg)
 | «from» _ ha ih=>exact .from ih ha
theorem Drv.mono {L:Pool} {K K':Int→Prop} (hK:∀t,K t→K' t) {t:Int} (h:Drv L K t):Drv L K' t:=by
 induction h with
 | seen h=>exact .seen (hK _ h)
 | free h=>exact .free h
 | pair h _ _ iha ihb=>exact .pair h iha ihb
 | hash h _ ih=>exact .hash h ih
 | sign h _ hf hk ih=>exact .sign h ih hf (hK _ hk)
structure Step where
 rule:Int
 a:Int
 b:Int
 t:Int
deriving DecidableEq
def jKP (i:Nat) (v:Int):Bool:=decide (0≤v) && decide (v<i)
def tAt (pre:List Step) (v:Int):Int:=(pre[v.toNat]?.map Step.t).getD 0
def jMG (L:Pool) (r u t:Int):Bool :=
 if r=1 then (nodeOf L u).kind == 4 && (nodeOf L u).a == t else if r=2 then (nodeOf L u).kind == 4 && (nodeOf L u).b == t else uI (nodeOf L u).kind && (nodeOf L u).a == t
def fol (L:Pool) (G:List Int) (pre:List Step) (s:Step):Bool :=
 if inP L s.t=false then false
 else if s.rule=0 then s.a == 0 && s.b == 0 && decide (s.t∈G)
 else if s.rule=1∨s.rule=2∨s.rule=3 then jKP pre.length s.a && s.b == 0 && jMG L s.rule (tAt pre s.a) s.t
 else if s.rule=4 then s.a == 0 && s.b == 0 && jHS (nodeOf L s.t).kind
 else if s.rule=5 then
  if (nodeOf L s.t).kind=4 then jKP pre.length s.a && jKP pre.length s.b && tAt pre s.a == (nodeOf L s.t).a && tAt pre s.b == (nodeOf L s.t).b
  else if (nodeOf L s.t).kind=5 then jKP pre.length s.a && s.b == 0 && tAt pre s.a == (nodeOf L s.t).a
  else if uI (nodeOf L s.t).kind=true then jKP pre.length s.a && jKP pre.length s.b && tAt pre s.a == (nodeOf L s.t).a && (nodeOf L (tAt pre s.b)).kind == 6 && (nodeOf L (tAt pre s.b)).frm == xL (nodeOf L s.t)
  else false
 else false
end Go.Sp
namespace Go.Sp
theorem jJE {α:Type} [DecidableEq α]:∀{l m:List α},l.Nodup→(∀x∈l,x∈m)→l.length≤m.length
 | [],m,_,_=>by simp
 | x :: l,m,hn,hs=>by
  have hx:=hs x (by simp);rw [List.nodup_cons] at hn;have:=jJE (m:=m.erase x) hn.2 (fun y hy=>(List.mem_erase_of_ne (fun h=>hn.1 (by rw [← h];exact hy))).2 (hs y (List.mem_cons_of_mem _ hy)));rw [List.length_erase_of_mem hx] at this;have:=List.length_pos_of_mem hx;simp only [List.length_cons];omega
theorem jAK {L:Pool} {l:List Int} (hn:l.Nodup) (hi:∀t∈l,inP L t=true):l.length≤L.length:=by
 have:=jJE (m:=(List.range L.length).map fun i:Nat=>(i:Int)+1) hn (fun t ht=>by
  obtain ⟨i,h1,h2⟩:=tB (hi t ht);exact List.mem_map.2 ⟨i,List.mem_range.2 h1,h2.symm⟩)
 simpa using this
theorem WaysOk.few {L:Pool} {G:List Int} {S:List Way} (h:WaysOk L G S):S.length≤L.length:=by
 have:=jAK h.nodup h.inp;rwa [qV] at this
theorem jVO {L:Pool} (h:Wf L) {t:Int} (ht:inP L t=true) (hk:(nodeOf L t).kind=4):(inP L (nodeOf L t).a=true∧(nodeOf L t).a<t)∧(inP L (nodeOf L t).b=true∧(nodeOf L t).b<t):=by
 have:=(h.node ht).2.2.2.2.1;simp only [zI,hk,shapeOf] at this;exact ⟨this _ (by simp),this _ (by simp)⟩
theorem kids7 {L:Pool} (h:Wf L) {t:Int} (ht:inP L t=true) (hk:uI (nodeOf L t).kind=true):inP L (nodeOf L t).a=true∧(nodeOf L t).a<t:=by
 have:=(h.node ht).2.2.2.2.1;simp only [uI,Bool.or_eq_true,beq_iff_eq] at hk;rcases hk with (hk | hk) | hk <;> simp only [zI,hk,shapeOf] at this <;> exact this _ (by simp)
theorem uG.inp {L:Pool} (h:Wf L) {r u t:Int} (hu:inP L u=true) (ha:uG L r u t):inP L t=true∧t<u:=by
 rcases ha with ⟨_,hk,rfl⟩ | ⟨_,hk,rfl⟩ | ⟨_,hk,rfl⟩
 ·exact (jVO h hu hk).1
 ·exact (jVO h hu hk).2
 ·exact kids7 h hu hk
def tM (S:List Way) (v:Way):List Way:=if v.t∈zM S then S else S++[v]
theorem xD (S:List Way) (v:Way):zM (S++[v])=zM S++[v.t]:=by simp [zM]
theorem xV (S:List Way) (v:Way):v.t∈zM (tM S v)∧∀t∈zM S,t∈zM (tM S v):=by
 unfold tM;split
 ·rename_i h;exact ⟨h,fun _ h=>h⟩
 ·rw [xD];exact ⟨by simp,fun t ht=>List.mem_append_left _ ht⟩
theorem jBH (S:List Way) (v:Way):∃M,tM S v=S++M:=by
 unfold tM;split
 ·exact ⟨[],by simp⟩
 ·exact ⟨[v],rfl⟩
theorem WaysOk.add {L:Pool} {G:List Int} {S:List Way} (h:WaysOk L G S) {v:Way} (hi:inP L v.t=true) (hv:jFX L G S v):WaysOk L G (tM S v):=by
 unfold tM;split
 ·exact h
 ·rename_i hn;exact h.snoc hn hi hv
end Go.Sp
end
section
open Go.SE
namespace Go.Sp
def tA (L:Pool) (n:Int):Int×Bool:=match find L (vJ n) with
 | some i=>((i:Int)+1,true)
 | none=>(0,false)
theorem jJO {L:Pool} {n:Node} {i:Nat} (h:find L n=some i):i<L.length∧nodeOf L ((i:Int)+1)=n:=by
 unfold find at h;rw [List.findIdx?_eq_some_iff_getElem] at h;obtain ⟨hi,h1,_⟩:=h;refine ⟨hi,?_⟩;rw [qC hi];simpa using h1
theorem jHO {L:Pool} {n:Int} (h:(tA L n).2=true):inP L (tA L n).1=true∧nodeOf L (tA L n).1=vJ n∧∃i,find L (vJ n)=some i∧(tA L n).1=(i:Int)+1:=by
 unfold tA at h ⊢;cases hf:find L (vJ n) with
 | none=>rw [hf] at h;cases h
 | some i =>
  obtain ⟨hi,hn⟩:=jJO hf
  exact ⟨zY.2 ⟨by simp only;omega,by simp only;omega⟩,hn,i,rfl,rfl⟩
theorem jOX {L:Pool} {n:Int} {i:Nat} (h:find L (vJ n)=some i):tA L n=((i:Int)+1,true):=by unfold tA;rw [h]
theorem Drv.inv {L:Pool} {K:Int→Prop} {t:Int} (h:Drv L K t):K t∨jHS (nodeOf L t).kind=true∨((nodeOf L t).kind=4∧Drv L K (nodeOf L t).a∧Drv L K (nodeOf L t).b)∨((nodeOf L t).kind=5∧Drv L K (nodeOf L t).a) ∨
  (uI (nodeOf L t).kind=true∧Drv L K (nodeOf L t).a∧(tA L (xL (nodeOf L t))).2=true∧K (tA L (xL (nodeOf L t))).1):=by
 cases h with
 | seen h=>exact .inl h
 | free h=>exact .inr (.inl h)
 | pair h a b=>exact .inr (.inr (.inl ⟨h,a,b⟩))
 | hash h a=>exact .inr (.inr (.inr (.inl ⟨h,a⟩)))
 | sign h a hf hk=>rw [jOX hf];exact .inr (.inr (.inr (.inr ⟨h,a,rfl,hk⟩)))
theorem Drv.signed {L:Pool} {K:Int→Prop} {t:Int} (h:uI (nodeOf L t).kind=true) (ha:Drv L K (nodeOf L t).a) (hk:(tA L (xL (nodeOf L t))).2=true) (hK:K (tA L (xL (nodeOf L t))).1):Drv L K t:=by
 obtain ⟨_,_,i,hf,e⟩:=jHO hk;rw [e] at hK;exact .sign h ha hf hK
theorem jSV {k:Int} (h:uI k=true):k≠4∧k≠5∧k≠6∧jHS k=false:=by
 simp only [uI,Bool.or_eq_true,beq_iff_eq] at h;rcases h with (rfl | rfl) | rfl <;> decide
theorem uL {L:Pool} (h:Wf L) {t:Int} (ht:inP L t=true):jHS (nodeOf L t).kind=true∨(nodeOf L t).kind=4∨(nodeOf L t).kind=5∨(nodeOf L t).kind=6∨uI (nodeOf L t).kind=true:=by
 have h1:=(h.node ht).1;unfold vA at h1;simp only at h1;split at h1
 ·cases h1
 ·rename_i hh;simp only [Bool.or_eq_true,Bool.not_eq_true',not_or] at hh;have hk:isKind (nodeOf L t).kind=true:=by simpa using hh.1.1.1.1
  simp only [isKind,Bool.and_eq_true,decide_eq_true_eq] at hk;simp only [jHS,uI,Bool.or_eq_true,beq_iff_eq];omega
inductive Sub (L:Pool):Int→Int→Prop
 | refl (t:Int):Sub L t t
 | kid {t u k:Int}:Sub L t u→k∈zI (nodeOf L u)→Sub L t k
theorem Sub.trans {L:Pool} {a b c:Int} (h:Sub L a b) (k:Sub L b c):Sub L a c:=by
 induction k with
 | refl=>exact h
 | kid _ hk ih=>exact .kid ih hk
theorem jDJ {n:Node} (h:n.kind=4∨n.kind=5∨uI n.kind=true):n.a∈zI n:=by
 simp only [uI,Bool.or_eq_true,beq_iff_eq] at h;rcases h with h | h | (h | h) | h <;> simp [zI,h,shapeOf]
theorem jRG {n:Node} (h:n.kind=4):n.b∈zI n:=by simp [zI,h,shapeOf]
theorem uG.sub {L:Pool} {r u t:Int} (h:uG L r u t):Sub L u t:=by
 rcases h with ⟨_,hk,rfl⟩ | ⟨_,hk,rfl⟩ | ⟨_,hk,rfl⟩
 ·exact .kid (.refl u) (jDJ (.inl hk))
 ·exact .kid (.refl u) (jRG hk)
 ·exact .kid (.refl u) (jDJ (.inr (.inr hk)))
theorem Seen.sub {L:Pool} {G:List Int} {t:Int} (h:Seen L G t):∃g∈G,Sub L g t:=by
 induction h with
 | given hg=>exact ⟨_,hg,.refl _⟩
 | «from» _ ha ih=>obtain ⟨g,hg,hs⟩:=ih;exact ⟨g,hg,hs.trans ha.sub⟩
def jDF (S:List Way) (t:Int):Nat:=(zM S).idxOf t+if t∈zM S then 0 else t.toNat
theorem jEW {S:List Way} {t:Int} (h:t∈zM S):jDF S t<S.length:=by
 have:=List.idxOf_lt_length_iff.2 h;unfold jDF;rw [if_pos h];rw [qV] at this;omega
theorem jHK {S:List Way} {t:Int} (h:t ∉ zM S):jDF S t=S.length+t.toNat:=by
 unfold jDF;rw [if_neg h,List.idxOf_eq_length h,qV]
theorem jDZ {S:List Way} {t a:Int} (h:t ∉ zM S) (h0:1≤a) (ha:a<t):jDF S a<jDF S t:=by
 rw [jHK h];by_cases hm:a∈zM S
 ·have:=jEW hm;omega
 ·rw [jHK hm];omega
theorem jTF {S:List Way} {t a:Int} (h:t ∉ zM S) (ht:1≤t) (hm:a∈zM S):jDF S a<jDF S t:=by
 rw [jHK h];have:=jEW hm;omega
theorem way_of {L:Pool} {G:List Int} {S:List Way} (h:WaysOk L G S) {t r f:Int} (hl:(t,(r,f))∈S.map fun v=>(v.t,(v.rule,v.frm))):(r=0∧f=0∧t∈G)∨(r≠0∧uG L r f t∧f∈zM S∧jDF S f<jDF S t):=by
 obtain ⟨v,hv,e⟩:=List.mem_map.1 hl;obtain ⟨i,hi,rfl⟩:=List.getElem_of_mem hv;simp only [Prod.mk.injEq] at e;obtain ⟨rfl,rfl,rfl⟩:=e;rcases h.way i hi with hw | ⟨h1,h2,h3⟩
 ·exact .inl hw
 ·right;have hsub:S[i].frm∈zM S:=by
   obtain ⟨y,hy,e⟩:=List.mem_map.1 h3;exact List.mem_map.2 ⟨y,List.mem_of_mem_take hy,e⟩
  refine ⟨h1,h2,hsub,?_⟩;have hti:S[i].t∈zM S:=List.mem_map.2 ⟨_,hv,rfl⟩;have hidx:(zM S).idxOf S[i].t=i:=by
   obtain ⟨j,hj,e1,e2⟩:=jHA hti;rw [e2];have h4:(zM S)[j]'(by rw [qV];exact hj)=(zM S)[i]'(by rw [qV];exact hi):=by simp [zM,e1]
   exact (List.getElem_inj h.nodup).1 h4
  have hf:(zM S).idxOf S[i].frm<i:=by
   have e:zM S=zM (S.take i)++zM (S.drop i):=by unfold zM;rw [← List.map_append,List.take_append_drop]
   rw [e,List.idxOf_append,if_pos h3];have:=List.idxOf_lt_length_iff.2 h3;rw [qV,List.length_take] at this;omega
  unfold jDF;rw [if_pos hsub,if_pos hti,hidx];omega
theorem jMF {L:Pool} {r u t:Int} (hr:r=1∨r=2∨r=3):jMG L r u t=true↔uG L r u t:=by
 unfold jMG uG;rcases hr with rfl | rfl | rfl <;> simp
theorem uG.rule {L:Pool} {r u t:Int} (h:uG L r u t):r=1∨r=2∨r=3:=by
 rcases h with ⟨h,_⟩ | ⟨h,_⟩ | ⟨h,_⟩
 ·exact .inl h
 ·exact .inr (.inl h)
 ·exact .inr (.inr h)
def jSO (l:List Step):List (Int×Int):=l.zipIdx.map fun p=>(p.1.t,(p.2:Int))
theorem jKO (l:List Step):(jSO l).map Prod.fst=l.map Step.t:=by
 unfold jSO;rw [List.map_map];show l.zipIdx.map (fun p=>p.1.t)=_;rw [show (fun p:Step×Nat=>p.1.t)=Step.t∘Prod.fst from rfl,← List.map_map,List.zipIdx_map_fst]
theorem jKM (l:List Step) (s:Step):jSO (l++[s])=jSO l++[(s.t,(l.length:Int))]:=by simp [jSO,List.zipIdx_append]
theorem jSM {l:List Step} {t v:Int} (h:SE.look (jSO l) t=some v):∃i,∃hi:i<l.length,v=i∧l[i].t=t:=by
 have:=xA h;obtain ⟨q,hq,e⟩:=List.mem_map.1 this;obtain ⟨s,i⟩:=q;rw [List.mem_zipIdx_iff_getElem?] at hq;obtain ⟨hi,e'⟩:=List.getElem?_eq_some_iff.1 hq;simp only [Prod.mk.injEq] at e;exact ⟨i,hi,e.2.symm,by rw [e'];exact e.1⟩
theorem jKN {l:List Step} {t:Int}:SE.look (jSO l) t=none↔t ∉ l.map Step.t:=by rw [uD,jKO]
structure PrfOk (L:Pool) (G:List Int) (K:Int→Prop) (l:List Step) (B:List Int):Prop where
 fol:∀i (hi:i<l.length),fol L G (l.take i) l[i]=true
 nd:(l.map Step.t).Nodup
 drv:∀s∈l,Drv L K s.t
 bar:∀t∈B,¬ Drv L K t
theorem PrfOk.nil (L:Pool) (G:List Int) (K:Int→Prop):PrfOk L G K [] []:=⟨fun i hi=>by simp at hi,by simp,by simp,by simp⟩
theorem PrfOk.snoc {L:Pool} {G:List Int} {K:Int→Prop} {l:List Step} {B:List Int} (h:PrfOk L G K l B) {s:Step} (hf:Sp.fol L G l s=true) (hn:s.t ∉ l.map Step.t) (hd:Drv L K s.t):PrfOk L G K (l++[s]) B:=by
 refine ⟨fun i hi=>?_,?_,fun x hx=>?_,h.bar⟩
 ·rw [List.length_append] at hi;simp only [List.length_cons,List.length_nil] at hi;by_cases hl:i<l.length
  ·rw [List.getElem_append_left hl,List.take_append_of_le_length (by omega)];exact h.fol i hl
  ·have:i=l.length:=by omega
   subst this;rw [List.getElem_append_right (Nat.le_refl _),List.take_left];simpa using hf
 ·rw [List.map_append,List.nodup_append];exact ⟨h.nd,by simp,fun x hx y hy e=>by simp at hy;subst hy;exact hn (e▸hx)⟩
 ·rcases List.mem_append.1 hx with hx | hx
  ·exact h.drv x hx
  ·simp at hx;subst hx;exact hd
theorem PrfOk.bars {L:Pool} {G:List Int} {K:Int→Prop} {l:List Step} {B:List Int} (h:PrfOk L G K l B) {t:Int} (ht:¬ Drv L K t):PrfOk L G K l (B++[t]) :=
 ⟨h.fol,h.nd,h.drv,fun x hx=>(List.mem_append.1 hx).elim (h.bar x) (fun hx=>by simp at hx;subst hx;exact ht)⟩
theorem fol_in {L:Pool} {G:List Int} {pre:List Step} {s:Step} (h:fol L G pre s=true):inP L s.t=true:=by
 unfold fol at h;split at h
 ·cases h
 ·rename_i hh;simpa using hh
theorem PrfOk.few {L:Pool} {G:List Int} {K:Int→Prop} {l:List Step} {B:List Int} (h:PrfOk L G K l B):l.length≤L.length:=by
 have:=jAK h.nd (fun t ht=>by
  obtain ⟨s,hs,rfl⟩:=List.mem_map.1 ht;obtain ⟨i,hi,rfl⟩:=List.getElem_of_mem hs;exact fol_in (h.fol i hi))
 simpa using this
theorem jGB {l:List Step} {i:Nat} (hi:i<l.length):tAt l (i:Int)=l[i].t:=by simp [tAt,hi]
theorem jAO {n i:Nat} (h:i<n):jKP n (i:Int)=true:=by simp [jKP];omega
theorem jPY {l M:List Step} {i:Nat} (hi:i<l.length):tAt (l++M) (i:Int)=l[i].t:=by
 rw [jGB (by rw [List.length_append];omega),List.getElem_append_left hi]
def upd (V:Int→Bool) (t:Int) (b:Bool):Int→Bool:=fun x=>if x=t then b else V x
def qX (L:Pool):Nat→Int→(Int→Bool)×List Int→(Int→Bool)×List Int
 | 0,_,st=>st
 | n + 1, t, st => if inP L t = true ∧ st.1 t = false then
   let s2:=qX L n (nodeOf L t).b (qX L n (nodeOf L t).a (upd st.1 t true,st.2))
   (s2.1,s2.2++[t])
  else st
def subs (L:Pool) (t:Int):List Int:=(qX L (t.toNat+1) t (fun _=>false,[])).2
theorem Sub.head {L:Pool} {t y:Int} (h:Sub L t y):y=t∨∃k∈zI (nodeOf L t),Sub L k y:=by
 induction h with
 | refl=>exact .inl rfl
 | kid _ hk ih =>
  rcases ih with rfl | ⟨k,h1,h2⟩
  ·exact .inr ⟨_,hk,.refl _⟩
  ·exact .inr ⟨k,h1,h2.kid hk⟩
theorem Sub.le {L:Pool} (hW:Wf L) {t y:Int} (ht:inP L t=true) (h:Sub L t y):inP L y=true∧y≤t:=by
 induction h with
 | refl=>exact ⟨ht,Int.le_refl _⟩
 | kid _ hk ih =>
  have:=(hW.node ih.1).2.2.2.2.1 _ hk
  exact ⟨this.1,by omega⟩
theorem jUL {n:Node} {k:Int} (h:k∈zI n):k=n.a∨k=n.b:=by
 unfold zI at h;have:=List.mem_of_mem_take h;simpa using this
theorem jJJ {L:Pool} (hW:Wf L) {t k:Int} (ht:inP L t=true) (h:k=(nodeOf L t).a∨k=(nodeOf L t).b) (hk:inP L k=true):k∈zI (nodeOf L t):=by
 have h1:=(hW.node ht).2.1;have h2:=(hW.node ht).2.2.1;have hk0:k≠0:=by have:=(zY.1 hk).1;omega
 unfold zI;rcases yO (nodeOf L t).kind with e | e | e
 ·have a0:=h1 (by omega);have b0:=h2 (by omega);rcases h with h | h
  ·exact absurd (h.trans a0) hk0
  ·exact absurd (h.trans b0) hk0
 ·have b0:=h2 (by omega);rcases h with h | h
  ·rw [e,h];simp
  ·exact absurd (h.trans b0) hk0
 ·rw [e];rcases h with h | h <;> simp [h]
structure OvOk (L:Pool) (st:(Int→Bool)×List Int):Prop where
 marked:∀x∈st.2,st.1 x=true
 closed:∀x∈st.2,∀y,Sub L x y→y∈st.2
 nd:st.2.Nodup
 inp:∀x∈st.2,inP L x=true
structure OvRes (L:Pool) (t:Int) (st st':(Int→Bool)×List Int):Prop extends OvOk L st' where
 app:∃M,st'.2=st.2++M∧∀x∈M,Sub L t x∧inP L t=true
 keep:∀x,st.1 x=true→st'.1 x=true
 back:∀x,st'.1 x=true→st.1 x=true∨x∈st'.2
 all:inP L t=true→∀y,Sub L t y→y∈st'.2
theorem lK {L:Pool} (hW:Wf L):∀(n:Nat) (t:Int) (st:(Int→Bool)×List Int),t.toNat<n→OvOk L st→(∀x,st.1 x=true→x≤t→x∈st.2)→OvRes L t st (qX L n t st):=by
 intro n;induction n with
 | zero=>intro t st h;omega
 | succ n ih =>
  intro t st hn hst hm
  rw [qX]
  by_cases hc:inP L t=true∧st.1 t=false
  ·rw [if_pos hc]
   obtain ⟨hin,hv⟩:=hc
   have ht1:=(zY.1 hin).1
   have hkid:=(hW.node hin).2.2.2.2.1
   have low:∀k,k=(nodeOf L t).a∨k=(nodeOf L t).b→k<t:=by
    intro k hk;cases hp:inP L k with
    | true=>exact (hkid k (jJJ hW hin hk hp)).2
    | false =>
     have h1:=(hW.node hin).2.1
     have h2:=(hW.node hin).2.2.1
     rcases yO (nodeOf L t).kind with e | e | e
     ·have:=h1 (by omega);have:=h2 (by omega);rcases hk with hk | hk <;> omega
     ·have b0:=h2 (by omega)
      rcases hk with hk | hk
      ·have:=(hkid k (by unfold zI;rw [e,hk];simp)).2;exact this
      ·omega
     ·exact (hkid k (by unfold zI;rw [e];rcases hk with hk | hk <;> simp [hk])).2
   have o1:OvOk L (upd st.1 t true,st.2):=⟨fun x hx=>by simp only [upd];split <;> simp [hst.marked x hx],hst.closed,hst.nd,hst.inp⟩
   have r1:=ih (nodeOf L t).a (upd st.1 t true,st.2) (by have:=low _ (.inl rfl);omega) o1 (fun x hx hle=>by
    have:=low _ (.inl rfl);simp only [upd] at hx;rw [if_neg (by omega)] at hx;exact hm x hx (by omega))
   generalize qX L n (nodeOf L t).a (upd st.1 t true,st.2)=s1 at *
   have r2:=ih (nodeOf L t).b s1 (by have:=low _ (.inr rfl);omega) r1.toOvOk (fun x hx hle=>by
    have:=low _ (.inr rfl);rcases r1.back x hx with h | h
    ·simp only [upd] at h;rw [if_neg (by omega)] at h;have:=hm x h (by omega);obtain ⟨M,e,_⟩:=r1.app;simp only at e;rw [e];exact List.mem_append_left _ this
    ·exact h)
   generalize qX L n (nodeOf L t).b s1=s2 at *
   obtain ⟨M1,e1,m1⟩:=r1.app
   obtain ⟨M2,e2,m2⟩:=r2.app
   simp only at e1
   have hvt:s2.1 t=true:=r2.keep t (r1.keep t (by simp [upd]))
   have hto:t ∉ s2.2:=by
    rw [e2,e1];intro h;rcases List.mem_append.1 h with h | h
    ·rcases List.mem_append.1 h with h | h
     ·have:=hst.marked t h;rw [hv] at this;cases this
     ·obtain ⟨h1,h2⟩:=m1 t h;have:=(h1.le hW h2).2;have:=low _ (.inl rfl);omega
    ·obtain ⟨h1,h2⟩:=m2 t h;have:=(h1.le hW h2).2;have:=low _ (.inr rfl);omega
   have hall:∀y,Sub L t y→y∈s2.2++[t]:=by
    intro y hy;rcases hy.head with rfl | ⟨k,hk,hs⟩
    ·simp
    ·refine List.mem_append_left _ ?_;have hki:=(hkid k hk).1;rcases jUL hk with rfl | rfl
     ·rw [e2];exact List.mem_append_left _ (r1.all hki y hs)
     ·exact r2.all hki y hs
   refine ⟨⟨fun x hx=>?_,fun x hx y hy=>?_,?_,fun x hx=>?_⟩,⟨M1++M2++[t],by simp [e2,e1],fun x hx=>?_⟩,fun x hx=>?_,fun x hx=>?_,fun _=>hall⟩
   ·simp only [List.mem_append,List.mem_singleton] at hx
    rcases hx with hx | rfl
    ·exact r2.marked x hx
    ·exact hvt
   ·simp only [List.mem_append,List.mem_singleton] at hx
    rcases hx with hx | rfl
    ·exact List.mem_append_left _ (r2.closed x hx y hy)
    ·exact hall y hy
   ·rw [List.nodup_append]
    exact ⟨r2.nd,by simp,fun x hx y hy e=>by simp at hy;subst hy;exact hto (e▸hx)⟩
   ·simp only [List.mem_append,List.mem_singleton] at hx
    rcases hx with hx | rfl
    ·exact r2.inp x hx
    ·exact hin
   ·refine ⟨?_,hin⟩
    simp only [List.mem_append,List.mem_singleton] at hx
    rcases hx with (hx | hx) | rfl
    ·obtain ⟨h1,h2⟩:=m1 x hx
     exact (Sub.kid (.refl t) (jJJ hW hin (.inl rfl) h2)).trans h1
    ·obtain ⟨h1,h2⟩:=m2 x hx
     exact (Sub.kid (.refl t) (jJJ hW hin (.inr rfl) h2)).trans h1
    ·exact .refl _
   ·exact r2.keep x (r1.keep x (by simp only [upd];split <;> simp [hx]))
   ·rcases r2.back x hx with h | h
    ·rcases r1.back x h with h' | h'
     ·simp only [upd] at h'
      split at h'
      ·rename_i e;subst e;right;simp
      ·exact .inl h'
     ·right;show x∈s2.2++[t];rw [e2];exact List.mem_append_left _ (List.mem_append_left _ h')
    ·exact .inr (List.mem_append_left _ h)
  ·rw [if_neg hc]
   refine ⟨hst,⟨[],by simp,by simp⟩,fun x h=>h,fun x h=>.inl h,fun hin y hy=>?_⟩
   have hv:st.1 t=true:=by
    cases h:st.1 t with
    | true=>rfl
    | false=>exact absurd ⟨hin,h⟩ hc
   exact hst.closed t (hm t hv (Int.le_refl _)) y hy
theorem jHC {L:Pool} (hW:Wf L) {t x:Int}:x∈subs L t↔inP L t=true∧Sub L t x:=by
 have r:=lK hW (t.toNat+1) t (fun _=>false,[]) (by omega) ⟨by simp,by simp,by simp,by simp⟩ (by simp);constructor
 ·intro h;obtain ⟨M,e,hm⟩:=r.app;unfold subs at h;rw [e] at h;simp only [List.nil_append] at h;exact ⟨(hm x h).2,(hm x h).1⟩
 ·intro h;exact r.all h.1 x h.2
theorem jBQ {L:Pool} (hW:Wf L) (t:Int):(subs L t).length≤L.length:=by
 have r:=lK hW (t.toNat+1) t (fun _=>false,[]) (by omega) ⟨by simp,by simp,by simp,by simp⟩ (by simp);exact jAK r.nd r.inp
end Go.Sp
end
section
namespace Go.Sp
def Ord (L:Pool) (l:List Int):Prop:=∀pre z post,l=pre++z :: post→∀k∈zI (nodeOf L z),k∈pre
theorem Ord.snoc {L:Pool} {l:List Int} {t:Int} (h:Ord L l) (ht:∀k∈zI (nodeOf L t),k∈l):Ord L (l++[t]):=by
 intro pre z post e k hk;rcases List.eq_nil_or_concat post with rfl | ⟨post',y,rfl⟩
 ·have:=List.append_inj' e rfl;obtain ⟨rfl,e2⟩:=this;simp only [List.cons.injEq,and_true] at e2;subst e2;exact ht k hk
 ·have e':l++[t]=(pre++z :: post')++[y]:=by rw [e];simp
  have:=List.append_inj' e' rfl;exact h pre z post' this.1 k hk
theorem jTI {L:Pool} (hW:Wf L):∀(n:Nat) (t:Int) (st:(Int→Bool)×List Int),t.toNat<n→OvOk L st→(∀x,st.1 x=true→x≤t→x∈st.2)→Ord L st.2→Ord L (qX L n t st).2:=by
 intro n;induction n with
 | zero=>intro t st h;omega
 | succ n ih =>
  intro t st hn hst hm ho
  rw [qX]
  by_cases hc:inP L t=true∧st.1 t=false
  ·rw [if_pos hc]
   obtain ⟨hin,hv⟩:=hc
   have ht1:=(zY.1 hin).1
   have hkid:=(hW.node hin).2.2.2.2.1
   have low:∀k,k=(nodeOf L t).a∨k=(nodeOf L t).b→k<t:=by
    intro k hk;cases hp:inP L k with
    | true=>exact (hkid k (jJJ hW hin hk hp)).2
    | false =>
     have h1:=(hW.node hin).2.1
     have h2:=(hW.node hin).2.2.1
     rcases yO (nodeOf L t).kind with e | e | e
     ·have:=h1 (by omega);have:=h2 (by omega);rcases hk with hk | hk <;> omega
     ·have b0:=h2 (by omega)
      rcases hk with hk | hk
      ·have:=(hkid k (by unfold zI;rw [e,hk];simp)).2;exact this
      ·omega
     ·exact (hkid k (by unfold zI;rw [e];rcases hk with hk | hk <;> simp [hk])).2
   have o1:OvOk L (upd st.1 t true,st.2):=⟨fun x hx=>by simp only [upd];split <;> simp [hst.marked x hx],hst.closed,hst.nd,hst.inp⟩
   have m1:∀x,(upd st.1 t true,st.2).1 x=true→x≤(nodeOf L t).a→x∈(upd st.1 t true,st.2).2:=fun x hx hle=>by
    have:=low _ (.inl rfl);simp only [upd] at hx;rw [if_neg (by omega)] at hx;exact hm x hx (by omega)
   have n1:(nodeOf L t).a.toNat<n:=by have:=low _ (.inl rfl);omega
   have n2:(nodeOf L t).b.toNat<n:=by have:=low _ (.inr rfl);omega
   have r1:=lK hW n (nodeOf L t).a (upd st.1 t true,st.2) n1 o1 m1
   have d1:=ih (nodeOf L t).a (upd st.1 t true,st.2) n1 o1 m1 ho
   generalize qX L n (nodeOf L t).a (upd st.1 t true,st.2)=s1 at *
   have m2:∀x,s1.1 x=true→x≤(nodeOf L t).b→x∈s1.2:=fun x hx hle=>by
    have:=low _ (.inr rfl);rcases r1.back x hx with h | h
    ·simp only [upd] at h;rw [if_neg (by omega)] at h;have:=hm x h (by omega);obtain ⟨M,e,_⟩:=r1.app;simp only at e;rw [e];exact List.mem_append_left _ this
    ·exact h
   have r2:=lK hW n (nodeOf L t).b s1 n2 r1.toOvOk m2
   have d2:=ih (nodeOf L t).b s1 n2 r1.toOvOk m2 d1
   generalize qX L n (nodeOf L t).b s1=s2 at *
   obtain ⟨M2,e2,_⟩:=r2.app
   refine d2.snoc fun k hk=>?_
   have hki:=(hkid k hk).1
   rcases jUL hk with rfl | rfl
   ·rw [e2];exact List.mem_append_left _ (r1.all hki _ (.refl _))
   ·exact r2.all hki _ (.refl _)
  ·rw [if_neg hc];exact ho
theorem jMO {L:Pool} (hW:Wf L) (t:Int):Ord L (subs L t) :=
 jTI hW (t.toNat+1) t (fun _=>false,[]) (by omega) ⟨by simp,by simp,by simp,by simp⟩ (by simp) (fun pre z post e=>by simp at e)
theorem jCN {L:Pool} (hW:Wf L) (t:Int):(subs L t).Nodup :=
 (lK hW (t.toNat+1) t (fun _=>false,[]) (by omega) ⟨by simp,by simp,by simp,by simp⟩ (by simp)).nd
end Go.Sp
end
section
namespace Go.Proofs
inductive Fld | from_ | to_ | num | text | fst | snd
deriving DecidableEq
def uV (k:Int):List Fld :=
 if k=1 then [.from_] else if k=2 then [.num] else if k=3 then [.text] else if k=4 then [.fst,.snd] else if k=5 then [.fst] else if k=6 then [.from_] else if k=7 then [.from_,.fst] else if k=8 then [.from_,.to_,.fst] else if k=9 then [.from_,.to_,.fst] else []
def Fld.bytes (n:Sp.Node) (na nb:Nat):Fld→List UInt8
 | .from_=>vX n.frm.toNat | .to_=>vX n.to.toNat | .num=>vX n.num.toNat | .text=>qQ n.text | .fst=>vX na | .snd=>vX nb
def posOf (seen:List Int) (t:Int):Nat:=seen.idxOf t
def yR (L:Sp.Pool) (seen:List Int) (t:Int):List UInt8 :=
 UInt8.ofNat (Sp.nodeOf L t).kind.toNat :: (uV (Sp.nodeOf L t).kind).flatMap (Fld.bytes (Sp.nodeOf L t) (posOf seen (Sp.nodeOf L t).a) (posOf seen (Sp.nodeOf L t).b))
def vF (L:Sp.Pool):List Int→List Int→List UInt8
 | _,[]=>[]
 | seen,t :: l=>yR L seen t++vF L (seen++[t]) l
theorem jBP (L:Sp.Pool) (l:List Int) (t:Int):∀seen,vF L seen (l++[t])=vF L seen l++yR L (seen++l) t:=by
 induction l with
 | nil=>intro seen;simp [vF]
 | cons x l ih=>intro seen;simp only [List.cons_append,vF];rw [ih];simp
def yY (L:Sp.Pool) (t:Int):List UInt8:=vF L [] (Sp.subs L t)
theorem jEX {l l':List Int} {u:Int} (h:u∈l):posOf (l++l') u=posOf l u:=by unfold posOf;rw [List.idxOf_append,if_pos h]
theorem jBY {l:List Int} {z:Int} (h:z ∉ l):posOf (l++[z]) z=l.length:=by unfold posOf;rw [List.idxOf_append,if_neg h];simp
theorem jEA {l:List Int} {t:Int} (ht:t∈l):posOf l t<l.length:=List.idxOf_lt_length_of_mem ht
def jKS (L:Sp.Pool) (t:Int):List UInt8×Int:=if Sp.inP L t then (if (yY L t).length>4096 then ([],1) else (yY L t,0)) else ([],51)
end Go.Proofs
end
section
open Go Go.SE
namespace Go.Proofs
open Tryz
attribute [local irreducible] Calls CallsD
def Fld.put:Fld→FuncId
 | .from_=>216 | .to_=>220 | .num=>222 | .text=>224 | .fst=>228 | .snd=>230
def Fld.get:Fld→FuncId
 | .from_=>218 | .to_=>221 | .num=>223 | .text=>226 | .fst=>229 | .snd=>231
def Fld.row (f:Fld):List Value:=[.func (.func f.put) #[] #[],.func (.func f.get) #[] #[]]
structure PartsAt (w0 w:World) (m:Nat) (Bs:List (Addr×Fld)) (M:List (Int×Sl)):Prop where
 box:∀b∈Bs,Box w b.1 b.2.row 263∧b.1.block≠m
 map:IMap Sl.v w m M
 lst:∀p∈M,Lst (fun b=>w0.heap.size≤b∧b≠m) w 2 p.2 ((uV p.1).map Fld.row)
 pure:Pure w0 w
 own:w0.heap.size≤m
theorem PartsAt.step {w0 w w1:World} {m:Nat} {Bs:List (Addr×Fld)} {M:List (Int×Sl)} (h:PartsAt w0 w m Bs M) {cs:Array Value} {p:Addr} (n1:New w (.cells cs 263) p w1) (k:Int) (n:Nat) (hn:(uV k).length=n) (hcs:cs.toList=((uV k).map Fld.row).flatten) (hk:SE.look M k=none) :
  ∃w2,(Instr.mapUpdate 230 (.map (some m)) (.int .i64 k) (Sl.mk (some p) n n).v).run prog w1=.ok () w2∧PartsAt w0 w2 m Bs (M++[(k,Sl.mk (some p) n n)]):=by
 have E1:Pure w w1:=Ext.new n1
 obtain ⟨w2,hr,hM,hE⟩:=(h.map.pure E1).put (P:=prog) (T:=230) underlying230 underlying3 hk (Sl.mk (some p) n n)
 have B1:=Box.of_newA n1
 have hb:=n1.at_size
 have hm:=h.map.lt
 refine ⟨w2,hr,⟨fun b hb=>⟨((h.box b hb).1.pure E1).ext hE (h.box b hb).2,(h.box b hb).2⟩,hM,?_,(h.pure.trans E1).trans' hE (fun i hi e=>by have:=h.own;omega),h.own⟩⟩
 intro q hq
 rcases List.mem_append.1 hq with hq | hq
 ·exact ((h.lst q hq).pure E1).ext hE (fun b hb=>hb.2)
 ·simp only [List.mem_singleton] at hq
  subst hq
  refine ⟨by simp [hn],fun i hi=>?_⟩
  have hi':i<(uV k).length:=by simpa using hi
  refine ⟨p.add (i*2),⟨by omega,by simp;omega,p,rfl,by simp⟩,?_,?_⟩
  ·rw [zX];exact ⟨by have:=h.pure.size;omega,by omega⟩
  ·have hrow:Row w2 p cs.toList:=hE.row (B1.row) (by omega)
   intro j hj
   rw [uM]
   have hlen:∀r∈(uV k).map Fld.row,r.length=2:=by intro r hr;obtain ⟨f,_,rfl⟩:=List.mem_map.1 hr;rfl
   have hj2:j<2:=by rw [hlen _ (List.getElem_mem hi)] at hj;exact hj
   have hg:=jBD hlen hi hj2
   have hlt:i*2+j<cs.toList.length:=by rw [hcs,vP hlen,List.length_map];omega
   rw [hrow _ hlt,hcs,hg]
structure BxsAt (w0 w:World) (Bs:List (Addr×Fld)):Prop where
 box:∀b∈Bs,Box w b.1 b.2.row 263
 pure:Pure w0 w
theorem BxsAt.step {w0 w w1:World} {Bs:List (Addr×Fld)} (h:BxsAt w0 w Bs) {p:Addr} (n1:New w (.cells #[.nilFunc,.nilFunc] 263) p w1) (f:Fld) {A:WP} (k:∀w',BxsAt w0 w' (Bs++[(p,f)])→A w'):(∀j,j<2→CanW w1 (p.add j))∧∀w',w'=storeRow w1 p f.row→A w':=by
 have E1:Pure w w1:=Ext.new n1;refine bx 2 (Box.of_newA n1) rfl rfl (fun w2 b E=>k w2 ⟨fun c hc=>?_,h.pure.own (p:=p) (by rw [n1.at_size];exact h.pure.size) ((Ext.pure E1).trans E)⟩);rcases List.mem_append.1 hc with hc | hc
 ·have hB:=h.box c hc;exact (hB.pure E1).ext E (fun e=>by have:=World.block_lt_of_cell? w c.1 hB.cell0;have:=n1.at_size;omega)
 ·simp only [List.mem_singleton] at hc;subst hc;exact b
theorem PartsAt.get {w0 w:World} {m:Nat} {Bs:List (Addr×Fld)} {M:List (Int×Sl)} (h:PartsAt w0 w m Bs M) {p:Addr} {f:Fld} (hb:(p,f)∈Bs):Row w p [.func (.func f.put) #[] #[],.func (.func f.get) #[] #[]]:=(h.box _ hb).1.row
theorem jVV (w0:World):Calls prog 159 #[] w0 (fun e w'=>∃x:Option Nat,e=.returned (.map x)∧∃m M,x=some m∧(∃Bs,PartsAt w0 w' m Bs M)∧M.map Prod.fst=[1,2,3,4,5,6,7,8,9]):=by
 refine w_Q2 w0 (fun x w'=>∃m M,x=some m∧(∃Bs,PartsAt w0 w' m Bs M)∧M.map Prod.fst=[1,2,3,4,5,6,7,8,9]) ?_;unfold m_Q2;have h0:BxsAt w0 w0 []:=⟨fun b hb=>(by cases hb),Ext.refl _⟩;intro p1 v1 n1;refine h0.step n1 .from_ (fun u1 h1=>?_);intro p2 v2 n2;refine h1.step n2 .to_ (fun u2 h2=>?_);intro p3 v3 n3;refine h2.step n3 .num (fun u3 h3=>?_);intro p4 v4 n4;refine h3.step n4 .text (fun u4 h4=>?_);intro p5 v5 n5;refine h4.step n5 .fst (fun u5 h5=>?_);intro p6 v6 n6;refine h5.step n6 .snd (fun u6 h6=>?_);intro p7 w1 n7;have g0:PartsAt w0 w1 p7.block _ []:=⟨fun b hb=>⟨(h6.box b hb).pure (Ext.new n7),fun e=>by have:=World.block_lt_of_cell? u6 b.1 (h6.box b hb).cell0;have:=n7.at_size;omega⟩,IMap.of_new n7,fun p hp=>(by cases hp),h6.pure.trans (Ext.new n7),by rw [n7.at_size];exact h6.pure.size⟩;refine ⟨_,_,g0.get (f:=.from_) (by simp),?_⟩;intro q1 x1 y1;obtain ⟨z1,r1,g1⟩:=g0.step y1 1 1 rfl rfl (by simp [SE.look]);refine ⟨z1,r1,?_⟩;refine ⟨_,_,g1.get (f:=.num) (by simp),?_⟩;intro q2 x2 y2;obtain ⟨z2,r2,g2⟩:=g1.step y2 2 1 rfl rfl (by simp [SE.look]);refine ⟨z2,r2,?_⟩;refine ⟨_,_,g2.get (f:=.text) (by simp),?_⟩;intro q3 x3 y3;obtain ⟨z3,r3,g3⟩:=g2.step y3 3 1 rfl rfl (by simp [SE.look]);refine ⟨z3,r3,?_⟩;refine ⟨_,_,g3.get (f:=.fst) (by simp),?_⟩;refine ⟨_,_,g3.get (f:=.snd) (by simp),?_⟩;intro q4 x4 y4;obtain ⟨z4,r4,g4⟩:=g3.step y4 4 2 rfl rfl (by simp [SE.look]);refine ⟨z4,r4,?_⟩;refine ⟨_,_,g4.get (f:=.fst) (by simp),?_⟩;intro q5 x5 y5;obtain ⟨z5,r5,g5⟩:=g4.step y5 5 1 rfl rfl (by simp [SE.look]);refine ⟨z5,r5,?_⟩;refine ⟨_,_,g5.get (f:=.from_) (by simp),?_⟩;intro q6 x6 y6;obtain ⟨z6,r6,g6⟩:=g5.step y6 6 1 rfl rfl (by simp [SE.look]);refine ⟨z6,r6,?_⟩;refine ⟨_,_,g6.get (f:=.from_) (by simp),?_⟩;refine ⟨_,_,g6.get (f:=.fst) (by simp),?_⟩;intro q7 x7 y7;obtain ⟨z7,r7,g7⟩:=g6.step y7 7 2 rfl rfl (by simp [SE.look]);refine ⟨z7,r7,?_⟩;refine ⟨_,_,g7.get (f:=.from_) (by simp),?_⟩;refine ⟨_,_,g7.get (f:=.to_) (by simp),?_⟩;refine ⟨_,_,g7.get (f:=.fst) (by simp),?_⟩;intro q8 x8 y8;obtain ⟨z8,r8,g8⟩:=g7.step y8 8 3 rfl rfl (by simp [SE.look]);refine ⟨z8,r8,?_⟩;refine ⟨_,_,g8.get (f:=.from_) (by simp),?_⟩;refine ⟨_,_,g8.get (f:=.to_) (by simp),?_⟩;refine ⟨_,_,g8.get (f:=.fst) (by simp),?_⟩;intro q9 x9 y9;obtain ⟨z9,r9,g9⟩:=g8.step y9 9 3 rfl rfl (by simp [SE.look]);refine ⟨z9,r9,?_⟩;exact ⟨p7.block,_,rfl,⟨_,g9⟩,rfl⟩
end Go.Proofs
end
section
namespace Go.Proofs
def Fld.rd (bs:List UInt8) (r:Rd):Fld→Rd
 | .text=>(qN bs 64 r).2
 | _=>(qZ bs r).2
structure Raw where
 num:Nat
 text:List UInt8
 frm:Nat
 to:Nat
 a:Nat
 b:Nat
 kids:Nat
def tO:Raw:=⟨0,[],0,0,0,0,0⟩
def Fld.raw (bs:List UInt8) (r:Rd) (x:Raw):Fld→Raw
 | .from_=>{ x with frm:=(qZ bs r).1 }
 | .to_=>{ x with to:=(qZ bs r).1 }
 | .num=>{ x with num:=(qZ bs r).1 }
 | .text=>{ x with text:=(qN bs 64 r).1 }
 | .fst=>{ x with a:=(qZ bs r).1,kids:=1 }
 | .snd=>{ x with b:=(qZ bs r).1,kids:=2 }
def qA (bs:List UInt8):List Fld→Raw×Rd→Raw×Rd
 | [],s=>s
 | f :: l,(x,r)=>qA bs l (f.raw bs r x,f.rd bs r)
def nodeErr (k n:Nat) (x:Raw) (e:Nat):Nat :=
 if e≠0 then e
 else if 16≤x.frm∨16≤x.to∨((k=8∨k=9)∧x.frm=x.to) then 50
 else if (0<x.kids∧n≤x.a)∨(1<x.kids∧n≤x.b) then 71
 else 0
def Raw.node (k:Nat) (x:Raw):Sp.Node:=⟨k,x.frm,x.to,x.num,⟨x.text.toArray⟩,if 0<x.kids then (x.a:Int)+1 else 0,if 1<x.kids then (x.b:Int)+1 else 0⟩
def jBA (k:Nat):Bool:=decide (1≤k) && decide (k≤9)
def jCM (L:Sp.Pool) (k:Nat) (s:Raw×Rd):Sp.Pool×Int×Rd :=
 if nodeErr k L.length s.1 s.2.err≠0 then (L,((nodeErr k L.length s.1 s.2.err:Nat):Int),s.2)
 else if (Sp.find L (s.1.node k)).isSome=true then (L,72,s.2)
 else ((Sp.make L (s.1.node k)).2.2,(Sp.make L (s.1.node k)).2.1,s.2)
def vU (bs:List UInt8) (L:Sp.Pool) (r:Rd):Sp.Pool×Int×Rd :=
 if jBA (uH bs r).1=true then jCM L (uH bs r).1 (qA bs (uV (uH bs r).1) (tO,(uH bs r).2))
 else (L,70,(uH bs r).2)
def inRow:Nat→List Int→Nat
 | i,[]=>i
 | i,s :: l=>if s=(i:Int)+1 then inRow (i+1) l else i
def jBW (L:Sp.Pool) (ps:List Nat):Option Sp.Pool×Int×Nat :=
 let i:=inRow 0 (Sp.subs L L.length)
 if h:i<ps.length then (none,73,ps[i]) else (some L,0,0)
def jIZ (bs:List UInt8):Nat→Sp.Pool→Rd→List Nat→Option Sp.Pool×Int×Nat
 | 0,L,_,ps=>jBW L ps
 | n+1,L,r,ps =>
  if r.at_<bs.length then
   if (vU bs L r).2.1≠0 then (none,(vU bs L r).2.1,r.at_)
   else jIZ bs n (vU bs L r).1 (vU bs L r).2.2 (ps++[r.at_])
  else jBW L ps
def vT (bs:List UInt8):Option Sp.Pool×Int×Nat :=
 if 4096<bs.length then (none,1,0) else if bs.length=0 then (none,3,0) else jIZ bs bs.length [] ⟨0,0,0⟩ []
def vN (Lq:Sp.Pool):List Int→Sp.Pool→(Int→Int)→Sp.Pool×Int×(Int→Int)
 | [],L,own=>(L,0,own)
 | s :: l,L,own =>
  let m:=Sp.make L { Sp.nodeOf Lq s with a:=own (Sp.nodeOf Lq s).a,b:=own (Sp.nodeOf Lq s).b }
  if m.2.1≠0 then (L,m.2.1,own) else vN Lq l m.2.2 (fun x=>if x=s then m.1 else own x)
def yA (L Lq:Sp.Pool) (t:Int):Int×Int×Sp.Pool :=
 if Sp.inP Lq t=true then
  let c:=vN Lq (Sp.subs Lq t) L (fun _=>0)
  if c.2.1≠0 then (0,c.2.1,L) else (c.2.2 t,0,c.1)
 else (0,51,L)
def lM (L:Sp.Pool) (bs:List UInt8):Int×Int×Nat×Sp.Pool :=
 match (vT bs).1 with
 | none=>(0,(vT bs).2.1,(vT bs).2.2,L)
 | some q=>((yA L q q.length).1,(yA L q q.length).2.1,0,(yA L q q.length).2.2)
theorem jQQ (bs:List UInt8) (r:Rd) (h:r.at_≤bs.length):r.at_≤(qZ bs r).2.at_∧(qZ bs r).2.at_≤bs.length:=by
 have key:∀(l:List UInt8) (i n:Nat) (m k:Nat),xX i n l=.ok (m,k)→k≤i+l.length∧i<k:=by
  intro l;induction l with
  | nil=>intro i n m k h;simp [xX] at h
  | cons c l ih =>
   intro i n m k h
   rw [xH] at h
   split at h
   ·cases h
   ·split at h
    ·split at h
     ·cases h
     ·cases h;simp
    ·have:=ih _ _ _ _ h
     rw [List.length_cons];omega
 unfold qZ;split
 ·split
  ·rename_i n k hk;have:=key _ _ _ _ _ hk;rw [List.length_drop] at this;simp only;omega
  ·exact ⟨Nat.le_refl _,h⟩
 ·exact ⟨Nat.le_refl _,h⟩
theorem jTG (bs:List UInt8) (m:Nat) (r:Rd) (h:r.at_≤bs.length):r.at_≤(qN bs m r).2.at_∧(qN bs m r).2.at_≤bs.length:=by
 have hn:=jQQ bs r h;unfold qZ at hn;unfold qN;split
 ·rename_i he;rw [if_pos he] at hn;split
  ·rename_i n k hk;rw [hk] at hn;simp only at hn;split
   ·exact ⟨Nat.le_refl _,h⟩
   ·split
    ·exact ⟨Nat.le_refl _,h⟩
    ·simp only;omega
  ·exact ⟨Nat.le_refl _,h⟩
 ·exact ⟨Nat.le_refl _,h⟩
theorem Fld.rd_at (bs:List UInt8) (r:Rd) (f:Fld) (h:r.at_≤bs.length):r.at_≤(f.rd bs r).at_∧(f.rd bs r).at_≤bs.length:=by
 cases f <;> first | exact jTG bs 64 r h | exact jQQ bs r h
theorem jJA (bs:List UInt8):∀(l:List Fld) (x:Raw) (r:Rd),r.at_≤bs.length→r.at_≤(qA bs l (x,r)).2.at_∧(qA bs l (x,r)).2.at_≤bs.length:=by
 intro l;induction l with
 | nil=>intro x r h;exact ⟨Nat.le_refl _,h⟩
 | cons f l ih =>
  intro x r h
  have h1:=f.rd_at bs r h
  have h2:=ih (f.raw bs r x) (f.rd bs r) h1.2
  rw [qA];omega
theorem jMV (bs:List UInt8) (r:Rd) (h:r.at_<bs.length) (he:r.err=0):uH bs r=(bs[r.at_].toNat,⟨r.at_+1,0,r.spot⟩):=by
 unfold uH;rw [if_pos he,dif_pos h]
theorem tV (bs:List UInt8) (L:Sp.Pool) (r:Rd) (h:r.at_<bs.length) (he:r.err=0):vU bs L r =
  (if jBA bs[r.at_].toNat=true then jCM L bs[r.at_].toNat (qA bs (uV bs[r.at_].toNat) (tO,⟨r.at_+1,0,r.spot⟩)) else (L,70,⟨r.at_+1,0,r.spot⟩)):=by
 unfold vU
 rw [jMV bs r h he]
theorem jEU {L:Sp.Pool} {k:Nat} {s:Raw×Rd} (h:(jCM L k s).2.1=0):s.2.err=0∧nodeErr k L.length s.1 s.2.err=0∧Sp.find L (s.1.node k)=none∧(Sp.make L (s.1.node k)).2.1=0∧jCM L k s=((Sp.make L (s.1.node k)).2.2,0,s.2):=by
 unfold jCM at *;split at h
 ·rename_i h1;exact absurd (by simpa using h) h1
 ·rename_i h1;rw [if_neg h1];have h1:nodeErr k L.length s.1 s.2.err=0:=by omega
  have he':s.2.err=0:=by
   by_cases h2:s.2.err=0
   ·exact h2
   ·exfalso;unfold nodeErr at h1;rw [if_pos h2] at h1;exact h2 h1
  split at h
  ·simp at h
  ·rename_i h3;rw [if_neg h3];simp only at h;exact ⟨he',h1,by simpa using h3,h,by rw [h]⟩
theorem jIW (bs:List UInt8) (L:Sp.Pool) (r:Rd) (h:r.at_<bs.length) (he:r.err=0) (h0:(vU bs L r).2.1=0):r.at_<(vU bs L r).2.2.at_∧(vU bs L r).2.2.at_≤bs.length∧(vU bs L r).2.2.err=0:=by
 have hl:=jJA bs (uV bs[r.at_].toNat) tO ⟨r.at_+1,0,r.spot⟩ (by simp only;omega);simp only at hl;rw [tV bs L r h he] at *;split at h0
 ·rename_i hk;rw [if_pos hk];obtain ⟨h1,_,_,_,h5⟩:=jEU h0;rw [h5];exact ⟨by simp only;omega,hl.2,h1⟩
 ·simp at h0
theorem jHJ {bs:List UInt8} {L:Sp.Pool} {r:Rd} {ps:List Nat} (h:¬ r.at_<bs.length):∀n,jIZ bs n L r ps=jBW L ps:=by
 intro n;cases n with
 | zero=>rfl
 | succ n=>rw [jIZ,if_neg h]
end Go.Proofs
end
section
open Go Go.SE
open Go.IntKind renaming i64 → q6
namespace Go.Proofs
open Tryz
set_option maxRecDepth 100000
set_option maxHeartbeats 4000000
attribute [local irreducible] wpL wpX opE wpE Calls
def m_J3  (w:World) (K:(Option Addr)→WP):Prop :=∀(p1:Addr) (w1:World),New w (.map #[] 0) p1 w1→∀(p2:Addr) (w2:World),New w1 (.cells #[Sl.nil.v,(.map (some p1.block))] 162) p2 w2→K (some p2) w2
theorem w_J3  (w:World) (K:(Option Addr)→WP) (h:m_J3  w K) :
  Calls prog 44 #[] w (fun e w'=>∃r1:Option Addr,e=.returned (vp r1)∧K r1 w'):=by
 unfold m_J3 at h
 refine cw (args:=[]) func44 ntmps44 (eg (q0 (vp none) (ln (eg (vR (O:=(.map #[] 0)) (fun p=>.map (some p.block)) (zJ rfl) (by kernel_rfl) ?_)))))
 intro p1 w1 hn2
 have h:=h p1 w1 hn2
 refine q0 (.agg #[Sl.nil.v,(.map (some p1.block))]) (sn (O:=(.cells #[Sl.nil.v,(.map (some p1.block))] 162)) xb ?_)
 intro p2 w2 hn1
 have h:=h p2 w2 hn1
 refine q0 (vp (some p2)) (ln (er (rs1 results44 (v:=(vp (some p2))) ?_)))
 exact ⟨(some p2),rfl,h⟩
def m_K3 (p1:Option Addr) (n1:Int) (w:World) (K:Int→Int→WP):Prop :=Calls prog 109 #[(vp p1),(.agg #[(vi 6),(vi n1),(vi 0),(vu 0),ve,(vi 0),(vi 0)])] w (fun e w1=>∃r1 r2:Int,e=.returned (.tuple #[(vi r1),(vi r2)])∧K r1 r2 w1)
theorem w_K3 (p1:Option Addr) (n1:Int) (w:World) (K:Int→Int→WP) (h:m_K3 p1 n1 w K) :
  Calls prog 50 #[(vp p1),(vi n1)] w (fun e w'=>∃r3 r4:Int,e=.returned (.tuple #[(vi r3),(vi r4)])∧K r3 r4 w'):=by
 unfold m_K3 at h
 refine cw (args:=[(vp p1),(vi n1)]) func50 ntmps50 (eg (q0 (vi 0) (q0 (vi 0) (ln (eg (q0 (vp p1) (q0 (vi n1) (q0 (.agg #[(vi 6),(vi n1),(vi 0),(vu 0),ve,(vi 0),(vi 0)]) ?_))))))))
 refine sc call109 (h.mono ?_)
 rintro e w1 ⟨r1,r2,rfl,h⟩
 refine ⟨_,rfl,?_⟩
 refine q0 (vi r1) (q0 (vi r2) (q0 (vi r1) (q0 (vi r2) (ln (er (xW (.inl rfl) results50 (v:=(vi r1)) (by kernel_rfl) (v':=(vi r2)) (by kernel_rfl) ?_))))))
 exact ⟨r1,r2,rfl,h⟩
def m_U1 (p1:Option Addr) (aT aU:Int) (aV aW:Int) (aX:ByteArray) (aY:Sl) (w:World) (K:Int→Int→WP):Prop :=∀(p2:Addr) (w1:World),New w (.cells #[(vi aT),(vi aU),(vi aV),(vu aW),(vs aX),aY.v] 76) p2 w1→Br (Option.isNone p1) (K 0 0 w1) (∀(p3:Addr) (w2:World),New w1 (.cells #[(vi 0)] 3) p3 w2→CanW w2 p3∧∀w3:World,w3=w2.setCell p3 (vi 0)→∃aA aB:Int,∃aC aD:Int,∃aE:ByteArray,∃bM:Sl,Row w3 p2 [(vi aA),(vi aB),(vi aC),(vu aD),(vs aE),bM.v]∧Calls prog 134 #[(.agg #[(vi aA),(vi aB),(vi aC),(vu aD),(vs aE),bM.v]),(vi 0),(vp (some p3))] w3 (fun e w4=>∃r1:Int,e=.returned (vi r1)∧Br (r1 != 0) (K 0 r1 w4) (∃a1:Addr,p1=some a1∧∃v1:Sl,w4.cell? a1=some v1.v∧∃aO aP:Int,∃aQ aR:Int,∃aS:ByteArray,∃bL:Sl,Row w4 p2 [(vi aO),(vi aP),(vi aQ),(vu aR),(vs aS),bL.v]∧Calls prog 135 #[(vp p1),(.agg #[(vi aO),(vi aP),(vi aQ),(vu aR),(vs aS),bL.v])] w4 (fun e w5=>∃r2 r3:Int,e=.returned (.tuple #[(vi r2),(vi r3)])∧Br (r3 != 0) (Calls prog 136 #[(vp p1),(vi (v1.len:Int))] w5 (fun e w6=>e=.returned (.tuple #[])∧K 0 r3 w6)) (K r2 0 w5)))))
theorem w_U1 (p1:Option Addr) (aT aU:Int) (aV aW:Int) (aX:ByteArray) (aY:Sl) (w:World) (K:Int→Int→WP) (h:m_U1 p1 aT aU aV aW aX aY w K) :
  Calls prog 70 #[(vp p1),(.agg #[(vi aT),(vi aU),(vi aV),(vu aW),(vs aX),aY.v])] w (fun e w'=>∃r4 r5:Int,e=.returned (.tuple #[(vi r4),(vi r5)])∧K r4 r5 w'):=by
 unfold m_U1 at h
 refine cw (args:=[(vp p1),(.agg #[(vi aT),(vi aU),(vi aV),(vu aW),(vs aX),aY.v])]) func70 ntmps70 (eg (sn (O:=(.cells #[(vi aT),(vi aU),(vi aV),(vu aW),(vs aX),aY.v] 76)) xb ?_))
 intro p2 w1 hn3
 have h:=h p2 w1 hn3
 refine q0 (vi 0) (q0 (vi 0) (ln (zA (eg (q0 (vp p1) (q2 (vb (Option.isNone p1)) (qL (by kernel_rfl) rfl underlying91) (ln ?_)))))))
 refine zB (t:=(Option.isNone p1)) (by kernel_rfl) (fun hc1=>?_) (fun hc1=>?_)
 have h:=h.1 hc1
 refine eg (q0 (vi 0) (q0 (vi 0) (ln (er (vL (xW (.inl rfl) results70 (v:=(vi 0)) (by kernel_rfl) (v':=(vi 0)) (by kernel_rfl) ?_))))))
 exact ⟨0,0,rfl,h⟩
 have h:=h.2 hc1
 refine zC (zN (eg (sn (O:=(.cells #[(vi 0)] 3)) (zO (zeroValue3 _) rfl) ?_)))
 intro p3 w2 hn2
 have h:=h p3 w2 hn2
 obtain ⟨hp1,h⟩:=h
 refine ss (zT (a:=p3) (v:=(vi 0)) (by kernel_rfl) (by kernel_rfl) rfl (sizeOf3 _) hp1) ?_
 intro w3 hn1
 have h:=h w3 hn1
 refine ln (zA (eg ?_))
 obtain ⟨aA,aB,aC,aD,aE,bM,hv3,h⟩:=h
 refine q2 (.agg #[(vi aA),(vi aB),(vi aC),(vu aD),(vs aE),bM.v]) (xa p2 [(vi aA),(vi aB),(vi aC),(vu aD),(vs aE),bM.v] (isAgg76 _) (sizeOf76 _) hv3) ?_
 refine sc call134 (h.mono ?_)
 rintro e w4 ⟨r1,rfl,h⟩
 refine ⟨_,rfl,?_⟩
 refine q0 (vi r1) (ln (eg (q0 (vi r1) (q0 (vb (r1 != 0)) (ln ?_)))))
 refine zB (t:=(r1 != 0)) (by kernel_rfl) (fun hc2=>?_) (fun hc2=>?_)
 have h:=h.1 hc2
 refine eg (q0 (vi r1) (q0 (vi 0) (q0 (vi r1) (ln (er (vL (xW (.inl rfl) results70 (v:=(vi 0)) (by kernel_rfl) (v':=(vi r1)) (by kernel_rfl) ?_)))))))
 exact ⟨0,r1,rfl,h⟩
 have h:=h.2 hc2
 refine zC (zN (eg (q0 (vp p1) ?_)))
 obtain ⟨a1,hp2,h⟩:=h
 refine q2 (vp (some a1)) (xn hp2) (q0 (vp (some a1)) ?_)
 obtain ⟨v1,hv2,h⟩:=h
 refine q2 v1.v (xl (isAgg160 _) hv2) (q0 (vi (v1.len:Int)) (q0 (vi (v1.len:Int)) (ln (eg (q0 (vp p1) ?_)))))
 obtain ⟨aO,aP,aQ,aR,aS,bL,hv1,h⟩:=h
 refine q2 (.agg #[(vi aO),(vi aP),(vi aQ),(vu aR),(vs aS),bL.v]) (xa p2 [(vi aO),(vi aP),(vi aQ),(vu aR),(vs aS),bL.v] (isAgg76 _) (sizeOf76 _) hv1) ?_
 refine sc call135 (h.mono ?_)
 rintro e w5 ⟨r2,r3,rfl,h⟩
 refine ⟨_,rfl,?_⟩
 refine q0 (.tuple #[(vi r2),(vi r3)]) (q0 (vi r2) (q0 (vi r3) (q0 (vi r2) (q0 (vi r3) (ln (zA (eg (q0 (vi r3) (q0 (vb (r3 != 0)) ?_)))))))))
 refine ln ?_
 refine zB (t:=(r3 != 0)) (by kernel_rfl) (fun hc3=>?_) (fun hc3=>?_)
 have h:=h.1 hc3
 refine eg (q0 (vp p1) (q0 (vi (v1.len:Int)) ?_))
 refine sc call136 (h.mono ?_)
 rintro e w6 ⟨rfl,h⟩
 refine ⟨_,rfl,?_⟩
 refine ln (eg (q0 (vi r3) (q0 (vi 0) (q0 (vi r3) (ln (er (vL (xW (.inl rfl) results70 (v:=(vi 0)) (by kernel_rfl) (v':=(vi r3)) (by kernel_rfl) ?_))))))))
 exact ⟨0,r3,rfl,h⟩
 have h:=h.2 hc3
 refine zC (zN (eg (q0 (vi r2) (q0 (vi r2) (q0 (vi 0) (ln (er (xW (.inl rfl) results70 (v:=(vi r2)) (by kernel_rfl) (v':=(vi 0)) (by kernel_rfl) ?_))))))))
 exact ⟨r2,0,rfl,h⟩
def m_L3 (p1:Option Addr) (w:World) (K:Int→WP):Prop :=Br (Option.isNone p1) (K 0 w) (∃a1:Addr,p1=some a1∧∃v1:Sl,w.cell? a1=some v1.v∧K (v1.len:Int) w)
theorem w_L3 (p1:Option Addr) (w:World) (K:Int→WP) (h:m_L3 p1 w K) :
  Calls prog 103 #[(vp p1)] w (fun e w'=>∃r1:Int,e=.returned (vi r1)∧K r1 w'):=by
 unfold m_L3 at h
 refine cw (args:=[(vp p1)]) func103 ntmps103 (eg (q0 (vi 0) (ln (zA (eg (q0 (vp p1) (q2 (vb (Option.isNone p1)) (qL (by kernel_rfl) rfl underlying91) (zD ?_))))))))
 refine zN ?_
 refine zB (t:=(Option.isNone p1)) (by kernel_rfl) (fun hc1=>?_) (fun hc1=>?_)
 have h:=h.1 hc1
 refine eg (q0 (vi 0) (ln (er (vL (rs1 results103 (v:=(vi 0)) ?_)))))
 exact ⟨0,rfl,h⟩
 have h:=h.2 hc1
 refine zC (zN (eg (q0 (vp p1) ?_)))
 obtain ⟨a1,hp1,h⟩:=h
 refine q2 (vp (some a1)) (xn hp1) (q0 (vp (some a1)) ?_)
 obtain ⟨v1,hv1,h⟩:=h
 refine q2 v1.v (xl (isAgg160 _) hv1) (q0 (vi (v1.len:Int)) (q0 (vi (v1.len:Int)) (ln (er (rs1 results103 (v:=(vi (v1.len:Int))) ?_)))))
 exact ⟨(v1.len:Int),rfl,h⟩
def m_M3 (p1:Option Addr) (t1:Int) (w:World) (K:Int→Int→Int→Int→ByteArray→Int→Int→Bool→WP):Prop :=∀(p2:Addr) (w1:World),New w (.cells #[(vi 0),(vi 0),(vi 0),(vu 0),ve,(vi 0),(vi 0)] 127) p2 w1→Calls prog 138 #[(vp p1),(vi t1)] w1 (fun e w2=>∃r1:Bool,e=.returned (vb r1)∧Br (!r1) ((∀j,j<7→CanW w2 (p2.add j))∧∀w3:World,w3=storeRow w2 p2 [(vi 0),(vi 0),(vi 0),(vu 0),ve,(vi 0),(vi 0)]→∃bU bV:Int,∃bW bX:Int,∃bY:ByteArray,∃bZ cA:Int,Row w3 p2 [(vi bU),(vi bV),(vi bW),(vu bX),(vs bY),(vi bZ),(vi cA)]∧K bU bV bW bX bY bZ cA false w3) (∃a1:Addr,p1=some a1∧∃v1:Sl,w2.cell? a1=some v1.v∧∃a2:Addr,At v1 (q6.wrap (t1 - 1)) 9 a2∧∃aA aB:Int,∃aC aD:Int,∃aE:ByteArray,∃aF aG:Int,Row w2 a2 [(vi aA),(vi aB),(vi aC),(vu aD),(vs aE),(vi aF),(vi aG)]∧(∀j,j<7→CanW w2 (p2.add j))∧∀w4:World,w4=storeRow w2 p2 [(vi aA),(vi aB),(vi aC),(vu aD),(vs aE),(vi aF),(vi aG)]→∃cD cE:Int,∃cF cG:Int,∃cH:ByteArray,∃cI cJ:Int,Row w4 p2 [(vi cD),(vi cE),(vi cF),(vu cG),(vs cH),(vi cI),(vi cJ)]∧K cD cE cF cG cH cI cJ true w4))
theorem w_M3 (p1:Option Addr) (t1:Int) (w:World) (K:Int→Int→Int→Int→ByteArray→Int→Int→Bool→WP) (h:m_M3 p1 t1 w K) :
  Calls prog 104 #[(vp p1),(vi t1)] w (fun e w'=>∃aZ bA:Int,∃bB bC:Int,∃bD:ByteArray,∃bE bF:Int,∃r2:Bool,e=.returned (.tuple #[(.agg #[(vi aZ),(vi bA),(vi bB),(vu bC),(vs bD),(vi bE),(vi bF)]),(vb r2)])∧K aZ bA bB bC bD bE bF r2 w'):=by
 unfold m_M3 at h
 refine cw (args:=[(vp p1),(vi t1)]) func104 ntmps104 (eg (sn (O:=(.cells #[(vi 0),(vi 0),(vi 0),(vu 0),ve,(vi 0),(vi 0)] 127)) (zO (zeroValue127 _) rfl) ?_))
 intro p2 w1 hn3
 have h:=h p2 w1 hn3
 refine q0 (vb false) (ln (zA (eg (q0 (vp p1) (q0 (vi t1) ?_)))))
 refine sc call138 (h.mono ?_)
 rintro e w2 ⟨r1,rfl,h⟩
 refine ⟨_,rfl,?_⟩
 refine q0 (vb (!r1)) (ln ?_)
 refine zB (t:=(!r1)) (by kernel_rfl) (fun hc1=>?_) (fun hc1=>?_)
 have h:=h.1 hc1
 refine eg (q0 (.agg #[(vi 0),(vi 0),(vi 0),(vu 0),ve,(vi 0),(vi 0)]) ?_)
 obtain ⟨hp1,h⟩:=h
 refine ss (xo p2 [(vi 0),(vi 0),(vi 0),(vu 0),ve,(vi 0),(vi 0)] (sizeOf127 _) hp1) ?_
 intro w3 hn1
 have h:=h w3 hn1
 refine q0 (vb false) (ln (er (vL ?_)))
 obtain ⟨bU,bV,bW,bX,bY,bZ,cA,hv1,h⟩:=h
 refine uW (.inl rfl) (vs:=[(.agg #[(vi bU),(vi bV),(vi bW),(vu bX),(vs bY),(vi bZ),(vi cA)]),(vb false)]) (v:=(.tuple #[(.agg #[(vi bU),(vi bV),(vi bW),(vu bX),(vs bY),(vi bZ),(vi cA)]),(vb false)])) results104 ⟨(rva (isAgg127 _) (sizeOf127 _) hv1),(rvT (by kernel_rfl)),trivial⟩ (by kernel_rfl) ?_
 exact ⟨bU,bV,bW,bX,bY,bZ,cA,false,rfl,h⟩
 have h:=h.2 hc1
 refine zC (zN (eg (q0 (vp p1) ?_)))
 obtain ⟨a1,hp2,h⟩:=h
 refine q2 (vp (some a1)) (xn hp2) (q0 (vp (some a1)) ?_)
 obtain ⟨v1,hv5,h⟩:=h
 refine q2 v1.v (xl (isAgg160 _) hv5) (q0 (vi t1) (q0 (vi (q6.wrap (t1 - 1))) ?_))
 obtain ⟨a2,hv4,h⟩:=h
 refine q2 (vp (some a2)) (xi (runUnderlying160 _) (sizeOf234 _) hv4) (q0 (vp (some a2)) ?_)
 obtain ⟨aA,aB,aC,aD,aE,aF,aG,hv3,h⟩:=h
 refine q2 (.agg #[(vi aA),(vi aB),(vi aC),(vu aD),(vs aE),(vi aF),(vi aG)]) (xa a2 [(vi aA),(vi aB),(vi aC),(vu aD),(vs aE),(vi aF),(vi aG)] (isAgg127 _) (sizeOf127 _) hv3) ?_
 obtain ⟨hp3,h⟩:=h
 refine ss (xo p2 [(vi aA),(vi aB),(vi aC),(vu aD),(vs aE),(vi aF),(vi aG)] (sizeOf127 _) hp3) ?_
 intro w4 hn2
 have h:=h w4 hn2
 refine q0 (vb true) (ln (er ?_))
 obtain ⟨cD,cE,cF,cG,cH,cI,cJ,hv2,h⟩:=h
 refine uW (.inl rfl) (vs:=[(.agg #[(vi cD),(vi cE),(vi cF),(vu cG),(vs cH),(vi cI),(vi cJ)]),(vb true)]) (v:=(.tuple #[(.agg #[(vi cD),(vi cE),(vi cF),(vu cG),(vs cH),(vi cI),(vi cJ)]),(vb true)])) results104 ⟨(rva (isAgg127 _) (sizeOf127 _) hv2),(rvT (by kernel_rfl)),trivial⟩ (by kernel_rfl) ?_
 exact ⟨cD,cE,cF,cG,cH,cI,cJ,true,rfl,h⟩
def m_V1 (p1:Option Addr) (aH aI:Int) (aJ aK:Int) (aL:ByteArray) (aM aN:Int) (w:World) (K:Int→Int→WP):Prop :=∀(p2:Addr) (w1:World),New w (.cells #[(vi aH),(vi aI),(vi aJ),(vu aK),(vs aL),(vi aM),(vi aN)] 127) p2 w1→Br (Option.isNone p1) (K 0 0 w1) (∃aA aB:Int,∃aC aD:Int,∃aE:ByteArray,∃aF aG:Int,Row w1 p2 [(vi aA),(vi aB),(vi aC),(vu aD),(vs aE),(vi aF),(vi aG)]∧Calls prog 167 #[(vp p1),(.agg #[(vi aA),(vi aB),(vi aC),(vu aD),(vs aE),(vi aF),(vi aG)])] w1 (fun e w2=>∃r1 r2 r3:Int,e=.returned (.tuple #[(vi r1),(vi r2),(vi r3)])∧Br (r3 != 0) (K 0 r3 w2) (∀w3,w3=w2.drew→∃a1:Addr,p1=some a1∧∃v1:Option Nat,w3.cell? (a1.add 1)=some (.map v1)∧∃aO aP:Int,∃aQ aR:Int,∃aS:ByteArray,∃bN bO:Int,Row w3 p2 [(vi aO),(vi aP),(vi aQ),(vu aR),(vs aS),(vi bN),(vi bO)]∧∃v2:Int,∃ok1:Bool,(Instr.lookup 159 (.map v1) (.agg #[(vi aO),(vi aP),(vi aQ),(vu aR),(vs aS),(vi bN),(vi bO)]) true).run prog w3=.ok (.tuple #[(vi v2),(vb ok1)]) w3∧Br ok1 (K v2 0 w3) (∃a2:Addr,p1=some a2∧∃v3:Sl,w3.cell? a2=some v3.v∧Br (decide ((v3.len:Int)≥65536)) (K 0 6 w3) (∃C1:WP,C1 w3.drew∧∀w4,w4=w3.drew→∃a3:Addr,p1=some a3∧∃v4:Sl,(∀w',C1 w'→w'.cell? a3=some v4.v)∧∃bG bH:Int,∃bI bJ:Int,∃bK:ByteArray,∃cB cC:Int,(∀w',C1 w'→Row w' p2 [(vi bG),(vi bH),(vi bI),(vu bJ),(vs bK),(vi cB),(vi cC)])∧∀(p3:Addr) (w5:World),New w4 (.cells #[(vi bG),(vi bH),(vi bI),(vu bJ),(vs bK),(vi cB),(vi cC),(vi r1),(vi r2)] 234) p3 w5→C1 w5∧∃s1:Sl,∃w6:World,(Builtin.append_ #[160,160] 160 #[v4.v,(Sl.mk (some p3) 1 1).v]).run prog w5=.ok s1.v w6∧C1 w6∧∃a4:Addr,p1=some a4∧CanW w6 a4∧∀w7:World,w7=w6.setCell a4 s1.v→∃a5:Addr,p1=some a5∧∃v5:Sl,w7.cell? a5=some v5.v∧∃C2:WP,C2 w7.drew∧∀w8,w8=w7.drew→∃a6:Addr,p1=some a6∧∃v6:Option Nat,(∀w',C2 w'→w'.cell? (a6.add 1)=some (.map v6))∧∃bP bQ:Int,∃bR bS:Int,∃bT:ByteArray,∃cK cL:Int,(∀w',C2 w'→Row w' p2 [(vi bP),(vi bQ),(vi bR),(vu bS),(vs bT),(vi cK),(vi cL)])∧∃w9:World,(Instr.mapUpdate 159 (.map v6) (.agg #[(vi bP),(vi bQ),(vi bR),(vu bS),(vs bT),(vi cK),(vi cL)]) (vi (v5.len:Int))).run prog w8=.ok () w9∧K (v5.len:Int) 0 w9)))))
theorem w_V1 (p1:Option Addr) (aH aI:Int) (aJ aK:Int) (aL:ByteArray) (aM aN:Int) (w:World) (K:Int→Int→WP) (h:m_V1 p1 aH aI aJ aK aL aM aN w K) :
  Calls prog 109 #[(vp p1),(.agg #[(vi aH),(vi aI),(vi aJ),(vu aK),(vs aL),(vi aM),(vi aN)])] w (fun e w'=>∃r4 r5:Int,e=.returned (.tuple #[(vi r4),(vi r5)])∧K r4 r5 w'):=by
 unfold m_V1 at h
 refine cw (args:=[(vp p1),(.agg #[(vi aH),(vi aI),(vi aJ),(vu aK),(vs aL),(vi aM),(vi aN)])]) func109 ntmps109 (eg (sn (O:=(.cells #[(vi aH),(vi aI),(vi aJ),(vu aK),(vs aL),(vi aM),(vi aN)] 127)) xb ?_))
 intro p2 w1 hn3
 have h:=h p2 w1 hn3
 refine q0 (vi 0) (q0 (vi 0) (ln (zA (eg (q0 (vp p1) (q2 (vb (Option.isNone p1)) (qL (by kernel_rfl) rfl underlying91) (ln ?_)))))))
 refine zB (t:=(Option.isNone p1)) (by kernel_rfl) (fun hc1=>?_) (fun hc1=>?_)
 have h:=h.1 hc1
 refine eg (q0 (vi 0) (q0 (vi 0) (ln (er (vL (xW (.inl rfl) results109 (v:=(vi 0)) (by kernel_rfl) (v':=(vi 0)) (by kernel_rfl) ?_))))))
 exact ⟨0,0,rfl,h⟩
 have h:=h.2 hc1
 refine zC (zN (eg (q0 (vp p1) ?_)))
 obtain ⟨aA,aB,aC,aD,aE,aF,aG,hv12,h⟩:=h
 refine q2 (.agg #[(vi aA),(vi aB),(vi aC),(vu aD),(vs aE),(vi aF),(vi aG)]) (xa p2 [(vi aA),(vi aB),(vi aC),(vu aD),(vs aE),(vi aF),(vi aG)] (isAgg127 _) (sizeOf127 _) hv12) ?_
 refine sc call167 (h.mono ?_)
 rintro e w2 ⟨r1,r2,r3,rfl,h⟩
 refine ⟨_,rfl,?_⟩
 refine q0 (.tuple #[(vi r1),(vi r2),(vi r3)]) (q0 (vi r1) (q0 (vi r2) (q0 (vi r3) (q0 (vi r1) (q0 (vi r2) (q0 (vi r3) (ln (zA (eg ?_)))))))))
 refine q0 (vi r3) (q0 (vb (r3 != 0)) (ln ?_))
 refine zB (t:=(r3 != 0)) (by kernel_rfl) (fun hc2=>?_) (fun hc2=>?_)
 have h:=h.1 hc2
 refine eg (q0 (vi r3) (q0 (vi 0) (q0 (vi r3) (ln (er (vL (xW (.inl rfl) results109 (v:=(vi 0)) (by kernel_rfl) (v':=(vi r3)) (by kernel_rfl) ?_)))))))
 exact ⟨0,r3,rfl,h⟩
 have h:=h.2 hc2
 refine zC (zN (zA (zA (qO (by kernel_rfl) (by kernel_rfl) (by kernel_rfl) (by kernel_rfl) ?_))))
 intro w3 hw3
 have h:=h w3 hw3
 refine qq 0 (vp p1) Kp0 (qg 1 ?_)
 obtain ⟨a1,hp1,h⟩:=h
 refine sxQ (v:=(vp (some a1))) Kp1 (zJ rfl) rfl (xn hp1) (qq 2 (vp (some (a1.add 1))) Kp2 (qg 3 ?_))
 obtain ⟨v1,hv11,h⟩:=h
 refine sxQ (v:=(.map v1)) Kp3 (zJ rfl) rfl (xl (isAgg159 _) hv11) (qg 4 ?_)
 obtain ⟨aO,aP,aQ,aR,aS,bN,bO,hv10,h⟩:=h
 refine sxQ (v:=(.agg #[(vi aO),(vi aP),(vi aQ),(vu aR),(vs aS),(vi bN),(vi bO)])) Kp4 (zJ rfl) rfl (xa p2 [(vi aO),(vi aP),(vi aQ),(vu aR),(vs aS),(vi bN),(vi bO)] (isAgg127 _) (sizeOf127 _) hv10) (qg 5 ?_)
 obtain ⟨v2,ok1,hv9,h⟩:=h
 refine sxQ (v:=(.tuple #[(vi v2),(vb ok1)])) Kp5 (zJ rfl) rfl (qT (by kernel_rfl) (by kernel_rfl) hv9) (qq 6 (.tuple #[(vi v2),(vb ok1)]) Kp6 (qq 7 (vi v2) Kp7 (qq 8 (vb ok1) Kp8 (qq 9 (vi v2) Kp9 (qq 10 (vb ok1) (zS (S8 (zG (zG zR)))) (wn (zN (eg (q0 (vb ok1) (zD ?_))))))))))
 refine zN ?_
 refine zB (t:=ok1) (by kernel_rfl) (fun hc3=>?_) (fun hc3=>?_)
 have h:=h.1 hc3
 refine eg (q0 (vi v2) (q0 (vi v2) (q0 (vi 0) (ln (er (vL (xW (.inl rfl) results109 (v:=(vi v2)) (by kernel_rfl) (v':=(vi 0)) (by kernel_rfl) ?_)))))))
 exact ⟨v2,0,rfl,h⟩
 have h:=h.2 hc3
 refine zC (zN (zA (eg (q0 (vp p1) ?_))))
 obtain ⟨a2,hp2,h⟩:=h
 refine q2 (vp (some a2)) (xn hp2) (q0 (vp (some a2)) ?_)
 obtain ⟨v3,hv8,h⟩:=h
 refine q2 v3.v (xl (isAgg160 _) hv8) (q0 (vi (v3.len:Int)) (q0 (vb (decide ((v3.len:Int)≥65536))) (ln ?_)))
 refine zB (t:=(decide ((v3.len:Int)≥65536))) (by kernel_rfl) (fun hc4=>?_) (fun hc4=>?_)
 have h:=h.1 hc4
 refine eg (q0 (vi 0) (q0 (vi 6) (ln (er (vL (xW (.inl rfl) results109 (v:=(vi 0)) (by kernel_rfl) (v':=(vi 6)) (by kernel_rfl) ?_))))))
 exact ⟨0,6,rfl,h⟩
 have h:=h.2 hc4
 refine zC (zN (zA ?_))
 obtain ⟨C1,hC,h⟩:=h
 refine vB C1 [9,10,13] [13] (by kernel_rfl) (by kernel_rfl) (by kernel_rfl) (by kernel_rfl) hC ?_
 intro w4 hw4
 have h:=h w4 hw4
 refine qx 0 (vp p1) Kp0 (qx 1 (vp p1) Kp1 (qg 2 ?_))
 obtain ⟨a3,hp3,h⟩:=h
 refine sy (v:=(vp (some a3))) Kp2 (fun _ _=>(xn hp3)) (qx 3 (vp (some a3)) Kp3 (qg 4 ?_))
 obtain ⟨v4,hv7,h⟩:=h
 refine sy (v:=v4.v) Kp4 (fun w' hw'=>(xl (isAgg160 _) (hv7 w' hw'))) (qg 5 ?_)
 obtain ⟨bG,bH,bI,bJ,bK,cB,cC,hv6,h⟩:=h
 refine sy (v:=(.agg #[(vi bG),(vi bH),(vi bI),(vu bJ),(vs bK),(vi cB),(vi cC)])) Kp5 (fun w' hw'=>(xa p2 [(vi bG),(vi bH),(vi bI),(vu bJ),(vs bK),(vi cB),(vi cC)] (isAgg127 _) (sizeOf127 _) (hv6 w' hw'))) (qx 6 (vi r1) Kp6 (qx 7 (vi r2) Kp7 (qx 8 (.agg #[(vi bG),(vi bH),(vi bI),(vu bJ),(vs bK),(vi cB),(vi cC),(vi r1),(vi r2)]) Kp8 (lg 9 (jBS (O:=(.cells #[(vi bG),(vi bH),(vi bI),(vu bJ),(vs bK),(vi cB),(vi cC),(vi r1),(vi r2)] 234)) (fun p=>(Sl.mk (some p) 1 1).v) Kp9 (zJ rfl) (by kernel_rfl) (zK (vs:=#[(0,(.agg #[(vi bG),(vi bH),(vi bI),(vu bJ),(vs bK),(vi cB),(vi cC),(vi r1),(vi r2)]))]) (by kernel_rfl) (by kernel_rfl)) ?_)))))
 intro p3 w5 hn2
 have h:=h p3 w5 hn2
 refine ⟨.inr h.1,?_⟩
 have h:=h.2
 refine lg 10 ?_
 obtain ⟨s1,w6,hv5,hC,h⟩:=h
 refine sl (v:=s1.v) (zS (S8 (zG (zG zR)))) (zJ rfl) (by kernel_rfl) (vS (args:=#[v4.v,(Sl.mk (some p3) 1 1).v]) (by kernel_rfl) (fun _=>rfl) hv5) (.inr hC) ?_
 refine qg 11 ?_
 obtain ⟨a4,hp4,h⟩:=h
 refine sy (v:=(vp (some a4))) (zS (S8 (zG (zG (zG zR))))) (fun _ _=>(xn hp4)) (qx 12 (vp (some a4)) (zS (S8 (S4 zR))) (lg 13 ?_))
 obtain ⟨hp5,h⟩:=h
 refine jSS (zS (S8 (S4 (zG zR)))) (xs (v:=s1.v) (sizeOf160 _) hp5) ?_
 intro w7 hn1
 have h:=h w7 hn1
 refine ⟨.inl (by kernel_rfl),?_⟩
 refine wn (zN (eg (q0 (vp p1) ?_)))
 obtain ⟨a5,hp6,h⟩:=h
 refine q2 (vp (some a5)) (xn hp6) (q0 (vp (some a5)) ?_)
 obtain ⟨v5,hv4,h⟩:=h
 refine q2 v5.v (xl (isAgg160 _) hv4) (q0 (vi (v5.len:Int)) (q0 (vi (v5.len:Int)) (ln (zA ?_))))
 obtain ⟨C2,hC,h⟩:=h
 refine vB C2 [6] [6] (by kernel_rfl) (by kernel_rfl) (by kernel_rfl) (by kernel_rfl) hC ?_
 intro w8 hw8
 have h:=h w8 hw8
 refine qx 0 (vp p1) Kp0 (qg 1 ?_)
 obtain ⟨a6,hp7,h⟩:=h
 refine sy (v:=(vp (some a6))) Kp1 (fun _ _=>(xn hp7)) (qx 2 (vp (some (a6.add 1))) Kp2 (qg 3 ?_))
 obtain ⟨v6,hv3,h⟩:=h
 refine sy (v:=(.map v6)) Kp3 (fun w' hw'=>(xl (isAgg159 _) (hv3 w' hw'))) (qg 4 ?_)
 obtain ⟨bP,bQ,bR,bS,bT,cK,cL,hv2,h⟩:=h
 refine sy (v:=(.agg #[(vi bP),(vi bQ),(vi bR),(vu bS),(vs bT),(vi cK),(vi cL)])) Kp4 (fun w' hw'=>(xa p2 [(vi bP),(vi bQ),(vi bR),(vu bS),(vs bT),(vi cK),(vi cL)] (isAgg127 _) (sizeOf127 _) (hv2 w' hw'))) (qx 5 (vi (v5.len:Int)) Kp5 (lg 6 ?_))
 obtain ⟨w9,hv1,h⟩:=h
 refine jHD Kp6 (zJ rfl) (by kernel_rfl) (yT (by kernel_rfl) (by kernel_rfl) (by kernel_rfl) hv1) (.inl (by kernel_rfl)) (wn (zN (eg (q0 (vi (v5.len:Int)) (q0 (vi (v5.len:Int)) (q0 (vi 0) (ln (er (xW (.inl rfl) results109 (v:=(vi (v5.len:Int))) (by kernel_rfl) (v':=(vi 0)) (by kernel_rfl) ?_)))))))))
 exact ⟨(v5.len:Int),0,rfl,h⟩
def m_N3 (p1:Option Addr) (aH aI:Int) (aJ aK:Int) (aL:ByteArray) (aM aN:Int) (w:World) (K:Int→Bool→WP):Prop :=∀(p2:Addr) (w1:World),New w (.cells #[(vi aH),(vi aI),(vi aJ),(vu aK),(vs aL),(vi aM),(vi aN)] 127) p2 w1→Br (Option.isNone p1) (K 0 false w1) (∀w2,w2=w1.drew→∃a1:Addr,p1=some a1∧∃v1:Option Nat,w2.cell? (a1.add 1)=some (.map v1)∧∃aA aB:Int,∃aC aD:Int,∃aE:ByteArray,∃aF aG:Int,Row w2 p2 [(vi aA),(vi aB),(vi aC),(vu aD),(vs aE),(vi aF),(vi aG)]∧∃v2:Int,∃ok1:Bool,(Instr.lookup 159 (.map v1) (.agg #[(vi aA),(vi aB),(vi aC),(vu aD),(vs aE),(vi aF),(vi aG)]) true).run prog w2=.ok (.tuple #[(vi v2),(vb ok1)]) w2∧K v2 ok1 w2)
theorem w_N3 (p1:Option Addr) (aH aI:Int) (aJ aK:Int) (aL:ByteArray) (aM aN:Int) (w:World) (K:Int→Bool→WP) (h:m_N3 p1 aH aI aJ aK aL aM aN w K) :
  Calls prog 112 #[(vp p1),(.agg #[(vi aH),(vi aI),(vi aJ),(vu aK),(vs aL),(vi aM),(vi aN)])] w (fun e w'=>∃r1:Int,∃r2:Bool,e=.returned (.tuple #[(vi r1),(vb r2)])∧K r1 r2 w'):=by
 unfold m_N3 at h
 refine cw (args:=[(vp p1),(.agg #[(vi aH),(vi aI),(vi aJ),(vu aK),(vs aL),(vi aM),(vi aN)])]) func112 ntmps112 (eg (sn (O:=(.cells #[(vi aH),(vi aI),(vi aJ),(vu aK),(vs aL),(vi aM),(vi aN)] 127)) xb ?_))
 intro p2 w1 hn1
 have h:=h p2 w1 hn1
 refine q0 (vi 0) (q0 (vb false) (ln (zA (eg (q0 (vp p1) (q2 (vb (Option.isNone p1)) (qL (by kernel_rfl) rfl underlying91) (ln ?_)))))))
 refine zB (t:=(Option.isNone p1)) (by kernel_rfl) (fun hc1=>?_) (fun hc1=>?_)
 have h:=h.1 hc1
 refine eg (q0 (vi 0) (q0 (vb false) (ln (er (vL (xW (.inl rfl) results112 (v:=(vi 0)) (by kernel_rfl) (v':=(vb false)) (by kernel_rfl) ?_))))))
 exact ⟨0,false,rfl,h⟩
 have h:=h.2 hc1
 refine zC (zN (zA (qO (by kernel_rfl) (by kernel_rfl) (by kernel_rfl) (by kernel_rfl) ?_)))
 intro w2 hw2
 have h:=h w2 hw2
 refine qq 0 (vp p1) Kp0 (qg 1 ?_)
 obtain ⟨a1,hp1,h⟩:=h
 refine sxQ (v:=(vp (some a1))) Kp1 (zJ rfl) rfl (xn hp1) (qq 2 (vp (some (a1.add 1))) Kp2 (qg 3 ?_))
 obtain ⟨v1,hv3,h⟩:=h
 refine sxQ (v:=(.map v1)) Kp3 (zJ rfl) rfl (xl (isAgg159 _) hv3) (qg 4 ?_)
 obtain ⟨aA,aB,aC,aD,aE,aF,aG,hv2,h⟩:=h
 refine sxQ (v:=(.agg #[(vi aA),(vi aB),(vi aC),(vu aD),(vs aE),(vi aF),(vi aG)])) Kp4 (zJ rfl) rfl (xa p2 [(vi aA),(vi aB),(vi aC),(vu aD),(vs aE),(vi aF),(vi aG)] (isAgg127 _) (sizeOf127 _) hv2) (qg 5 ?_)
 obtain ⟨v2,ok1,hv1,h⟩:=h
 refine sxQ (v:=(.tuple #[(vi v2),(vb ok1)])) Kp5 (zJ rfl) rfl (qT (by kernel_rfl) (by kernel_rfl) hv1) (qq 6 (.tuple #[(vi v2),(vb ok1)]) Kp6 (qq 7 (vi v2) Kp7 (qq 8 (vb ok1) Kp8 (qq 9 (vi v2) Kp9 (qq 10 (vb ok1) (zS (S8 (zG (zG zR)))) (wn (zN (eg (q0 (vi v2) (q0 (vb ok1) ?_))))))))))
 refine q0 (vi v2) (q0 (vb ok1) (ln (er (xW (.inl rfl) results112 (v:=(vi v2)) (by kernel_rfl) (v':=(vb ok1)) (by kernel_rfl) ?_))))
 exact ⟨v2,ok1,rfl,h⟩
def m_K_l4 (inside1:Int) (seen1:Option Addr) (p1:Addr) (e3 i1:Int) (wl1:World) (Kc4:Int→Int→WP) (K:Int→WP):Prop :=∃v2:Sl,wl1.cell? (p1.add 5)=some v2.v∧Br (decide (i1<(v2.len:Int))) (Br (e3 == 0) (∃v3:Sl,wl1.cell? (p1.add 5)=some v3.v∧∃a3:Addr,At v3 i1 6 a3∧∃bG bH:Int,∃bI bJ:Int,∃bK:ByteArray,∃bL:Sl,Row wl1 a3 [(vi bG),(vi bH),(vi bI),(vu bJ),(vs bK),bL.v]∧Calls prog 134 #[(.agg #[(vi bG),(vi bH),(vi bI),(vu bJ),(vs bK),bL.v]),(vi (q6.wrap (inside1+1))),(vp seen1)] wl1 (fun e w9=>∃r2:Int,e=.returned (vi r2)∧Kc4 r2 (q6.wrap (i1+1)) w9)) (K e3 wl1)) (K e3 wl1)
def m_K_j3 (inside1:Int) (seen1:Option Addr) (p1:Addr) (e2:Int) (w:World) (K:Int→WP):Prop :=∃(I1:Int→Int→WP) (mu1:Int→Int→World→Nat),I1 e2 0 w∧∀(e3 i1:Int) (wl1:World),I1 e3 i1 wl1→m_K_l4 inside1 seen1 p1 e3 i1 wl1 (fun y'0 y'1 w'=>I1 y'0 y'1 w'∧mu1 y'0 y'1 w'<mu1 e3 i1 wl1) K
def m_K_j2 (inside1:Int) (seen1:Option Addr) (p1 p2 p3:Addr) (e1:Int) (w:World) (K:Int→WP):Prop :=Br (e1 == 0) (∃vfrom1 vto1:Bool,∃vnum1 vtext1:Bool,∃vkids1:Int,Row w p3 [(vb vfrom1),(vb vto1),(vb vnum1),(vb vtext1),(vi vkids1)]∧∃bP bQ:Int,∃bR bS:Int,∃bT:ByteArray,∃bN bO:Int,Row w p2 [(vi bP),(vi bQ),(vi bR),(vu bS),(vs bT),(vi bN),(vi bO)]∧Calls prog 185 #[(.agg #[(vb vfrom1),(vb vto1),(vb vnum1),(vb vtext1),(vi vkids1)]),(.agg #[(vi bP),(vi bQ),(vi bR),(vu bS),(vs bT),(vi bN),(vi bO)])] w (fun e w10=>∃r3:Int,e=.returned (vi r3)∧m_K_j3 inside1 seen1 p1 r3 w10 K)) (m_K_j3 inside1 seen1 p1 e1 w K)
def m_K_j1 (inside1:Int) (seen1:Option Addr) (p1:Addr) (w:World) (K:Int→WP):Prop :=∃a1:Addr,seen1=some a1∧∃v1:Int,w.cell? a1=some (vi v1)∧∃a2:Addr,seen1=some a2∧CanW w a2∧∀w2:World,w2=w.setCell a2 (vi (q6.wrap (v1+1)))→∃aA aB:Int,∃aC aD:Int,∃aE:ByteArray,∃bM:Sl,Row w2 p1 [(vi aA),(vi aB),(vi aC),(vu aD),(vs aE),bM.v]∧Calls prog 183 #[(.agg #[(vi aA),(vi aB),(vi aC),(vu aD),(vs aE),bM.v])] w2 (fun e w3=>∃aZ bA:Int,∃bB bC:Int,∃bD:ByteArray,∃bE bF:Int,e=.returned (.agg #[(vi aZ),(vi bA),(vi bB),(vu bC),(vs bD),(vi bE),(vi bF)])∧∀(p2:Addr) (w4:World),New w3 (.cells #[(vi 0),(vi 0),(vi 0),(vu 0),ve,(vi 0),(vi 0)] 127) p2 w4→(∀j,j<7→CanW w4 (p2.add j))∧∀w5:World,w5=storeRow w4 p2 [(vi aZ),(vi bA),(vi bB),(vu bC),(vs bD),(vi bE),(vi bF)]→∃aO aP:Int,∃aQ aR:Int,∃aS:ByteArray,∃aF aG:Int,Row w5 p2 [(vi aO),(vi aP),(vi aQ),(vu aR),(vs aS),(vi aF),(vi aG)]∧Calls prog 184 #[(.agg #[(vi aO),(vi aP),(vi aQ),(vu aR),(vs aS),(vi aF),(vi aG)])] w5 (fun e w6=>∃rfrom1 rto1:Bool,∃rnum1 rtext1:Bool,∃rkids1 r1:Int,e=.returned (.tuple #[(.agg #[(vb rfrom1),(vb rto1),(vb rnum1),(vb rtext1),(vi rkids1)]),(vi r1)])∧∀(p3:Addr) (w7:World),New w6 (.cells #[(vb false),(vb false),(vb false),(vb false),(vi 0)] 271) p3 w7→(∀j,j<5→CanW w7 (p3.add j))∧∀w8:World,w8=storeRow w7 p3 [(vb rfrom1),(vb rto1),(vb rnum1),(vb rtext1),(vi rkids1)]→Br (r1 == 0) (∃v4:Sl,w8.cell? (p1.add 5)=some v4.v∧∃v5:Int,w8.cell? (p3.add 4)=some (vi v5)∧Br (((v4.len:Int):Int) != v5) (m_K_j2 inside1 seen1 p1 p2 p3 53 w8 K) (m_K_j2 inside1 seen1 p1 p2 p3 r1 w8 K)) (m_K_j2 inside1 seen1 p1 p2 p3 r1 w8 K)))
def m_K (aT aU:Int) (aV aW:Int) (aX:ByteArray) (aY:Sl) (inside1:Int) (seen1:Option Addr) (w:World) (K:Int→WP):Prop :=∀(p1:Addr) (w1:World),New w (.cells #[(vi aT),(vi aU),(vi aV),(vu aW),(vs aX),aY.v] 76) p1 w1→∃a4:Addr,seen1=some a4∧∃v6:Int,w1.cell? a4=some (vi v6)∧Br (decide (v6≥4096)) (K 52 w1) (Br (decide (inside1≥64)) (K 52 w1) (m_K_j1 inside1 seen1 p1 w1 K))
theorem w_K (aT aU:Int) (aV aW:Int) (aX:ByteArray) (aY:Sl) (inside1:Int) (seen1:Option Addr) (w:World) (K:Int→WP) (h:m_K aT aU aV aW aX aY inside1 seen1 w K) :
  Calls prog 134 #[(.agg #[(vi aT),(vi aU),(vi aV),(vu aW),(vs aX),aY.v]),(vi inside1),(vp seen1)] w (fun e w'=>∃r4:Int,e=.returned (vi r4)∧K r4 w'):=by
 unfold m_K at h
 refine cw (args:=[(.agg #[(vi aT),(vi aU),(vi aV),(vu aW),(vs aX),aY.v]),(vi inside1),(vp seen1)]) func134 ntmps134 (eg (sn (O:=(.cells #[(vi aT),(vi aU),(vi aV),(vu aW),(vs aX),aY.v] 76)) xb ?_))
 intro p1 w1 hn6
 have h:=h p1 w1 hn6
 refine q0 (vi 0) (ln ?_)
 refine jAC (fun ρ w=>Has ρ [(1,(vi inside1)),(2,(vp seen1)),(3,(vp (some p1)))]∧m_K_j1 inside1 seen1 p1 w K) ?_ ?_
 rintro ρ w ⟨hH,h⟩
 unfold m_K_j1 at h
 refine vC hH ?_
 refine eg (q0 (vp seen1) ?_)
 obtain ⟨a1,hp1,h⟩:=h
 refine q2 (vp (some a1)) (xn hp1) ?_
 obtain ⟨v1,hv11,h⟩:=h
 refine q2 (vi v1) (xl (isAgg3 _) hv11) (q0 (vi (q6.wrap (v1+1))) ?_)
 obtain ⟨a2,hp2,h⟩:=h
 refine q2 (vp (some a2)) (xn hp2) ?_
 obtain ⟨hp3,h⟩:=h
 refine ss (zT (a:=a2) (v:=(vi (q6.wrap (v1+1)))) (by kernel_rfl) (by kernel_rfl) rfl (sizeOf3 _) hp3) ?_
 intro w2 hn1
 have h:=h w2 hn1
 refine ln (eg ?_)
 obtain ⟨aA,aB,aC,aD,aE,bM,hv10,h⟩:=h
 refine q2 (.agg #[(vi aA),(vi aB),(vi aC),(vu aD),(vs aE),bM.v]) (xa p1 [(vi aA),(vi aB),(vi aC),(vu aD),(vs aE),bM.v] (isAgg76 _) (sizeOf76 _) hv10) ?_
 refine sc call183 (h.mono ?_)
 rintro e w3 ⟨aZ,bA,bB,bC,bD,bE,bF,rfl,h⟩
 refine ⟨_,rfl,?_⟩
 refine sn (O:=(.cells #[(vi 0),(vi 0),(vi 0),(vu 0),ve,(vi 0),(vi 0)] 127)) (zO (zeroValue127 _) rfl) ?_
 intro p2 w4 hn5
 have h:=h p2 w4 hn5
 obtain ⟨hp4,h⟩:=h
 refine ss (xo p2 [(vi aZ),(vi bA),(vi bB),(vu bC),(vs bD),(vi bE),(vi bF)] (sizeOf127 _) hp4) ?_
 intro w5 hn2
 have h:=h w5 hn2
 refine ln (eg ?_)
 obtain ⟨aO,aP,aQ,aR,aS,aF,aG,hv9,h⟩:=h
 refine q2 (.agg #[(vi aO),(vi aP),(vi aQ),(vu aR),(vs aS),(vi aF),(vi aG)]) (xa p2 [(vi aO),(vi aP),(vi aQ),(vu aR),(vs aS),(vi aF),(vi aG)] (isAgg127 _) (sizeOf127 _) hv9) ?_
 refine sc call184 (h.mono ?_)
 rintro e w6 ⟨rfrom1,rto1,rnum1,rtext1,rkids1,r1,rfl,h⟩
 refine ⟨_,rfl,?_⟩
 refine q0 (.tuple #[(.agg #[(vb rfrom1),(vb rto1),(vb rnum1),(vb rtext1),(vi rkids1)]),(vi r1)]) (q0 (.agg #[(vb rfrom1),(vb rto1),(vb rnum1),(vb rtext1),(vi rkids1)]) (q0 (vi r1) (sn (O:=(.cells #[(vb false),(vb false),(vb false),(vb false),(vi 0)] 271)) (zO (zeroValue271 _) rfl) ?_)))
 intro p3 w7 hn4
 have h:=h p3 w7 hn4
 obtain ⟨hp5,h⟩:=h
 refine ss (xo p3 [(vb rfrom1),(vb rto1),(vb rnum1),(vb rtext1),(vi rkids1)] (sizeOf271 _) hp5) ?_
 intro w8 hn3
 have h:=h w8 hn3
 refine q0 (vi r1) (ln ?_)
 refine jAC (fun ρ w=>∃e1:Int,Has ρ [(1,(vi inside1)),(2,(vp seen1)),(3,(vp (some p1))),(7,(vp (some p2))),(8,(vp (some p3))),(9,(vi e1))]∧m_K_j2 inside1 seen1 p1 p2 p3 e1 w K) ?_ ?_
 rintro ρ w ⟨e1,hH,h⟩
 unfold m_K_j2 at h
 refine vC hH ?_
 refine jAC (fun ρ w=>∃e2:Int,Has ρ [(1,(vi inside1)),(2,(vp seen1)),(3,(vp (some p1))),(9,(vi e2))]∧m_K_j3 inside1 seen1 p1 e2 w K) ?_ ?_
 rintro ρ w ⟨e2,hH,h⟩
 unfold m_K_j3 at h
 refine vC hH ?_
 refine zA (eg (q0 (vi 0) (ln (zQ ?_))))
 obtain ⟨I1,mu1,h0,hr⟩:=h
 refine qI (σ:=Int×Int×World) (fun s ρ w=>w=s.2.2∧Has ρ [(1,(vi inside1)),(2,(vp seen1)),(3,(vp (some p1))),(9,(vi s.1)),(10,(vi s.2.1))]∧I1 s.1 s.2.1 s.2.2) (fun s=>mu1 s.1 s.2.1 s.2.2) (e2,0,w) ⟨rfl,hm,h0⟩ ?_
 rintro ⟨e3,i1,wl1⟩ ρ w ⟨hw,hH,hI⟩
 obtain rfl:wl1=w:=(show w=wl1 from hw).symm
 have hH:Has ρ [(1,(vi inside1)),(2,(vp seen1)),(3,(vp (some p1))),(9,(vi e3)),(10,(vi i1))]:=hH
 have h:=hr e3 i1 wl1 hI
 unfold m_K_l4 at h
 refine vC hH ?_
 refine zA (eg (q0 (vi i1) (q0 (vp (some (p1.add 5))) ?_)))
 obtain ⟨v2,hv4,h⟩:=h
 refine q2 v2.v (xl (isAgg74 _) hv4) (q0 (vi (v2.len:Int)) (q0 (vb (decide (i1<(v2.len:Int)))) (q0 (vb (decide (i1<(v2.len:Int)))) ?_)))
 rcases bte (decide (i1<(v2.len:Int))) with hg1 | hg1
 have h:=h.1 hg1
 refine q1 (vi e3) (wy 51 hg1) (q1 (vb (e3 == 0)) (wy 51 hg1) (q2 (vb (e3 == 0)) (xT hg1) (ln ?_)))
 refine zB (t:=(e3 == 0)) (by kernel_rfl) (fun hc1=>?_) (fun hc1=>?_)
 have h:=h.1 hc1
 refine zC (zN (zA (zQ (rg (q0 (vp (some (p1.add 5))) ?_)))))
 obtain ⟨v3,hv3,h⟩:=h
 refine q2 v3.v (xl (isAgg74 _) hv3) (q0 (vi i1) ?_)
 obtain ⟨a3,hv2,h⟩:=h
 refine q2 (vp (some a3)) (xi (runUnderlying74 _) (sizeOf76 _) hv2) ?_
 obtain ⟨bG,bH,bI,bJ,bK,bL,hv1,h⟩:=h
 refine q2 (.agg #[(vi bG),(vi bH),(vi bI),(vu bJ),(vs bK),bL.v]) (xa a3 [(vi bG),(vi bH),(vi bI),(vu bJ),(vs bK),bL.v] (isAgg76 _) (sizeOf76 _) hv1) (q0 (vi inside1) (q0 (vi (q6.wrap (inside1+1))) (q0 (vp seen1) ?_)))
 refine sc call134 (h.mono ?_)
 rintro e w9 ⟨r2,rfl,h⟩
 refine ⟨_,rfl,?_⟩
 refine q0 (vi r2) (zD (tJ (zN (rg (q0 (vi i1) (q0 (vi (q6.wrap (i1+1))) (q0 (vi (q6.wrap (i1+1))) (ln ?_))))))))
 exact ⟨(r2,(q6.wrap (i1+1)),w9),⟨rfl,hm,h.1⟩,h.2⟩
 have h:=h.2 hc1
 refine qE (tN (tN (tP (zN (eg (q0 (vi e3) (q0 (vi e3) (ln (er ?_)))))))))
 refine rs1 results134 (v:=(vi e3)) ?_
 exact ⟨e3,rfl,h⟩
 have h:=h.2 hg1
 refine sk (yD 51 hg1) (sk (yD 51 hg1) (q2 (vb false) (xF hg1) (ln (uR (by kernel_rfl) (qE (tN (tN (tP (zN (zA ?_))))))))))
 refine rg (q0 (vi e3) (q0 (vi e3) (ln (er (rs1 results134 (v:=(vi e3)) ?_)))))
 exact ⟨e3,rfl,h⟩
 refine eg (q0 (vi e1) (q0 (vb (e1 == 0)) (ln ?_)))
 refine zB (t:=(e1 == 0)) (by kernel_rfl) (fun hc2=>?_) (fun hc2=>?_)
 have h:=h.1 hc2
 refine rg ?_
 obtain ⟨vfrom1,vto1,vnum1,vtext1,vkids1,hv6,h⟩:=h
 refine q2 (.agg #[(vb vfrom1),(vb vto1),(vb vnum1),(vb vtext1),(vi vkids1)]) (xa p3 [(vb vfrom1),(vb vto1),(vb vnum1),(vb vtext1),(vi vkids1)] (isAgg271 _) (sizeOf271 _) hv6) ?_
 obtain ⟨bP,bQ,bR,bS,bT,bN,bO,hv5,h⟩:=h
 refine q2 (.agg #[(vi bP),(vi bQ),(vi bR),(vu bS),(vs bT),(vi bN),(vi bO)]) (xa p2 [(vi bP),(vi bQ),(vi bR),(vu bS),(vs bT),(vi bN),(vi bO)] (isAgg127 _) (sizeOf127 _) hv5) ?_
 refine sc call185 (h.mono ?_)
 rintro e w10 ⟨r3,rfl,h⟩
 refine ⟨_,rfl,?_⟩
 refine q0 (vi r3) (ln ?_)
 exact ⟨r3,hm,h⟩
 have h:=h.2 hc2
 refine zC (zN ?_)
 exact ⟨e1,hm,h⟩
 refine eg (q0 (vi r1) (q0 (vb (r1 == 0)) (q0 (vb (r1 == 0)) ?_)))
 rcases bte (r1 == 0) with hg2 | hg2
 have h:=h.1 hg2
 refine q1 (vp (some (p1.add 5))) (wy 33 hg2) ?_
 obtain ⟨v4,hv8,h⟩:=h
 refine stp (v:=v4.v) (wy 33 hg2) (xl (isAgg74 _) hv8) (q1 (vi (v4.len:Int)) (wy 33 hg2) (q1 (vp (some (p3.add 4))) (wy 33 hg2) ?_))
 obtain ⟨v5,hv7,h⟩:=h
 refine stp (v:=(vi v5)) (wy 33 hg2) (xl (isAgg3 _) hv7) (q1 (vb (((v4.len:Int):Int) != v5)) (wy 33 hg2) (q2 (vb (((v4.len:Int):Int) != v5)) (xT hg2) (ln ?_)))
 refine zB (t:=(((v4.len:Int):Int) != v5)) (by kernel_rfl) (fun hc3=>?_) (fun hc3=>?_)
 have h:=h.1 hc3
 refine rg (q0 (vi 53) (ln ?_))
 exact ⟨53,hm,h⟩
 have h:=h.2 hc3
 refine zC (zN ?_)
 exact ⟨r1,hm,h⟩
 have h:=h.2 hg2
 refine sk (yD 33 hg2) (sk (yD 33 hg2) (sk (yD 33 hg2) (sk (yD 33 hg2) (sk (yD 33 hg2) (sk (yD 33 hg2) (q2 (vb false) (xF hg2) (ln (uR (by kernel_rfl) (zC (zN ?_))))))))))
 exact ⟨r1,hm,h⟩
 refine eg (q0 (vp seen1) ?_)
 obtain ⟨a4,hp6,h⟩:=h
 refine q2 (vp (some a4)) (xn hp6) ?_
 obtain ⟨v6,hv12,h⟩:=h
 refine q2 (vi v6) (xl (isAgg3 _) hv12) (q0 (vb (decide (v6≥4096))) (q0 (vb (decide (v6≥4096))) ?_))
 rcases bte (decide (v6≥4096)) with hg3 | hg3
 have h:=h.1 hg3
 refine sk (yD 15 hg3) (sk (yD 15 hg3) (q2 (vb true) (xT hg3) (ln (uQ (by kernel_rfl) (eg (q0 (vi 52) (ln (er ?_))))))))
 refine vL (rs1 results134 (v:=(vi 52)) ?_)
 exact ⟨52,rfl,h⟩
 have h:=h.2 hg3
 refine q1 (vi inside1) (wy 15 hg3) (q1 (vb (decide (inside1≥64))) (wy 15 hg3) (q2 (vb (decide (inside1≥64))) (xF hg3) (ln ?_)))
 refine zB (t:=(decide (inside1≥64))) (by kernel_rfl) (fun hc4=>?_) (fun hc4=>?_)
 have h:=h.1 hc4
 refine eg (q0 (vi 52) (ln (er (vL (rs1 results134 (v:=(vi 52)) ?_)))))
 exact ⟨52,rfl,h⟩
 have h:=h.2 hc4
 refine zC (zN ?_)
 exact ⟨hm,h⟩
def m_G1_l1 (p1:Option Addr) (p3 p4:Addr) (v1:Sl) (x1:Int) (wl1:World) (Kc1:Int→WP) (K:Int→Int→WP):Prop :=Br (decide (x1<(v1.len:Int))) (∃a1:Addr,At v1 x1 6 a1∧∃aO aP:Int,∃aQ aR:Int,∃aS:ByteArray,∃bL:Sl,Row wl1 a1 [(vi aO),(vi aP),(vi aQ),(vu aR),(vs aS),bL.v]∧∀(p5:Addr) (w6:World),New wl1 (.cells #[(vi 0),(vi 0),(vi 0),(vu 0),ve,Sl.nil.v] 76) p5 w6→(∀j,j<6→CanW w6 (p5.add j))∧∀w7:World,w7=storeRow w6 p5 [(vi aO),(vi aP),(vi aQ),(vu aR),(vs aS),bL.v]→∃bG bH:Int,∃bI bJ:Int,∃bK:ByteArray,∃cM:Sl,Row w7 p5 [(vi bG),(vi bH),(vi bI),(vu bJ),(vs bK),cM.v]∧Calls prog 135 #[(vp p1),(.agg #[(vi bG),(vi bH),(vi bI),(vu bJ),(vs bK),cM.v])] w7 (fun e w8=>∃r1 r2:Int,e=.returned (.tuple #[(vi r1),(vi r2)])∧Br (r2 != 0) (K 0 r2 w8) (∃a2:Addr,At (Sl.mk (some p4) 2 2) x1 1 a2∧∃v2:Option Addr,w8.cell? a2=some (vp v2)∧∃a3:Addr,v2=some a3∧CanW w8 a3∧∀w9:World,w9=w8.setCell a3 (vi r1)→Kc1 (q6.wrap (x1+1)) w9))) (∃bP bQ:Int,∃bR bS:Int,∃bT:ByteArray,∃aF aG:Int,Row wl1 p3 [(vi bP),(vi bQ),(vi bR),(vu bS),(vs bT),(vi aF),(vi aG)]∧Calls prog 109 #[(vp p1),(.agg #[(vi bP),(vi bQ),(vi bR),(vu bS),(vs bT),(vi aF),(vi aG)])] wl1 (fun e w10=>∃r3 r4:Int,e=.returned (.tuple #[(vi r3),(vi r4)])∧K r3 r4 w10))
def m_G1 (p1:Option Addr) (aT aU:Int) (aV aW:Int) (aX:ByteArray) (aY:Sl) (w:World) (K:Int→Int→WP):Prop :=∀(p2:Addr) (w1:World),New w (.cells #[(vi aT),(vi aU),(vi aV),(vu aW),(vs aX),aY.v] 76) p2 w1→∃aA aB:Int,∃aC aD:Int,∃aE:ByteArray,∃bM:Sl,Row w1 p2 [(vi aA),(vi aB),(vi aC),(vu aD),(vs aE),bM.v]∧Calls prog 183 #[(.agg #[(vi aA),(vi aB),(vi aC),(vu aD),(vs aE),bM.v])] w1 (fun e w2=>∃aZ bA:Int,∃bB bC:Int,∃bD:ByteArray,∃bE bF:Int,e=.returned (.agg #[(vi aZ),(vi bA),(vi bB),(vu bC),(vs bD),(vi bE),(vi bF)])∧∀(p3:Addr) (w3:World),New w2 (.cells #[(vi 0),(vi 0),(vi 0),(vu 0),ve,(vi 0),(vi 0)] 127) p3 w3→(∀j,j<7→CanW w3 (p3.add j))∧∀w4:World,w4=storeRow w3 p3 [(vi aZ),(vi bA),(vi bB),(vu bC),(vs bD),(vi bE),(vi bF)]→∀(p4:Addr) (w5:World),New w4 (.cells #[(vp (some (p3.add 5))),(vp (some (p3.add 6)))] 275) p4 w5→∃v1:Sl,w5.cell? (p2.add 5)=some v1.v∧∃(I1:Int→WP) (mu1:Int→World→Nat),I1 0 w5∧∀(x1:Int) (wl1:World),I1 x1 wl1→m_G1_l1 p1 p3 p4 v1 x1 wl1 (fun y'0 w'=>I1 y'0 w'∧mu1 y'0 w'<mu1 x1 wl1) K)
theorem w_G1 (p1:Option Addr) (aT aU:Int) (aV aW:Int) (aX:ByteArray) (aY:Sl) (w:World) (K:Int→Int→WP) (h:m_G1 p1 aT aU aV aW aX aY w K) :
  Calls prog 135 #[(vp p1),(.agg #[(vi aT),(vi aU),(vi aV),(vu aW),(vs aX),aY.v])] w (fun e w'=>∃r5 r6:Int,e=.returned (.tuple #[(vi r5),(vi r6)])∧K r5 r6 w'):=by
 unfold m_G1 at h
 refine cw (args:=[(vp p1),(.agg #[(vi aT),(vi aU),(vi aV),(vu aW),(vs aX),aY.v])]) func135 ntmps135 (eg (sn (O:=(.cells #[(vi aT),(vi aU),(vi aV),(vu aW),(vs aX),aY.v] 76)) xb ?_))
 intro p2 w1 hn7
 have h:=h p2 w1 hn7
 refine q0 (vi 0) (q0 (vi 0) (ln (eg ?_)))
 obtain ⟨aA,aB,aC,aD,aE,bM,hv8,h⟩:=h
 refine q2 (.agg #[(vi aA),(vi aB),(vi aC),(vu aD),(vs aE),bM.v]) (xa p2 [(vi aA),(vi aB),(vi aC),(vu aD),(vs aE),bM.v] (isAgg76 _) (sizeOf76 _) hv8) ?_
 refine sc call183 (h.mono ?_)
 rintro e w2 ⟨aZ,bA,bB,bC,bD,bE,bF,rfl,h⟩
 refine ⟨_,rfl,?_⟩
 refine sn (O:=(.cells #[(vi 0),(vi 0),(vi 0),(vu 0),ve,(vi 0),(vi 0)] 127)) (zO (zeroValue127 _) rfl) ?_
 intro p3 w3 hn6
 have h:=h p3 w3 hn6
 obtain ⟨hp1,h⟩:=h
 refine ss (xo p3 [(vi aZ),(vi bA),(vi bB),(vu bC),(vs bD),(vi bE),(vi bF)] (sizeOf127 _) hp1) ?_
 intro w4 hn1
 have h:=h w4 hn1
 refine ln (eg (q0 (vp (some (p3.add 5))) (q0 (vp (some (p3.add 6))) (vR (O:=(.cells #[(vp (some (p3.add 5))),(vp (some (p3.add 6)))] 275)) (fun p=>(Sl.mk (some p) 2 2).v) (zJ rfl) (zK (vs:=#[(0,(vp (some (p3.add 5)))),(1,(vp (some (p3.add 6))))]) (by kernel_rfl) (by kernel_rfl)) ?_))))
 intro p4 w5 hn5
 have h:=h p4 w5 hn5
 refine q0 ((Sl.mk (some p4) 2 2).v) (ln (zA (eg (q0 (vp (some (p2.add 5))) ?_))))
 obtain ⟨v1,hv7,h⟩:=h
 refine q2 v1.v (xl (isAgg74 _) hv7) (q0 (vi (v1.len:Int)) (q0 (vi 0) (ln (zQ ?_))))
 obtain ⟨I1,mu1,h0,hr⟩:=h
 refine qI (σ:=Int×World) (fun s ρ w=>w=s.2∧Has ρ [(0,(vp p1)),(6,(vp (some p3))),(7,(Sl.mk (some p4) 2 2).v),(18,v1.v),(19,(vi (v1.len:Int))),(20,(vi s.1))]∧I1 s.1 s.2) (fun s=>mu1 s.1 s.2) (0,w5) ⟨rfl,hm,h0⟩ ?_
 rintro ⟨x1,wl1⟩ ρ w ⟨hw,hH,hI⟩
 obtain rfl:wl1=w:=(show w=wl1 from hw).symm
 have hH:Has ρ [(0,(vp p1)),(6,(vp (some p3))),(7,(Sl.mk (some p4) 2 2).v),(18,v1.v),(19,(vi (v1.len:Int))),(20,(vi x1))]:=hH
 have h:=hr x1 wl1 hI
 unfold m_G1_l1 at h
 refine vC hH ?_
 refine eg (q0 (vb (decide (x1<(v1.len:Int)))) (ln (zA ?_)))
 refine zB (t:=(decide (x1<(v1.len:Int)))) (by kernel_rfl) (fun hc1=>?_) (fun hc1=>?_)
 have h:=h.1 hc1
 refine zC (zN (zA (zQ (eg (q0 (vi x1) ?_)))))
 obtain ⟨a1,hv5,h⟩:=h
 refine q2 (vp (some a1)) (xi (runUnderlying74 _) (sizeOf76 _) hv5) ?_
 obtain ⟨aO,aP,aQ,aR,aS,bL,hv4,h⟩:=h
 refine q2 (.agg #[(vi aO),(vi aP),(vi aQ),(vu aR),(vs aS),bL.v]) (xa a1 [(vi aO),(vi aP),(vi aQ),(vu aR),(vs aS),bL.v] (isAgg76 _) (sizeOf76 _) hv4) (sn (O:=(.cells #[(vi 0),(vi 0),(vi 0),(vu 0),ve,Sl.nil.v] 76)) (zO (zeroValue76 _) rfl) ?_)
 intro p5 w6 hn4
 have h:=h p5 w6 hn4
 refine q0 (vi x1) ?_
 obtain ⟨hp2,h⟩:=h
 refine ss (xo p5 [(vi aO),(vi aP),(vi aQ),(vu aR),(vs aS),bL.v] (sizeOf76 _) hp2) ?_
 intro w7 hn2
 have h:=h w7 hn2
 refine ln (eg (q0 (vp p1) ?_))
 obtain ⟨bG,bH,bI,bJ,bK,cM,hv3,h⟩:=h
 refine q2 (.agg #[(vi bG),(vi bH),(vi bI),(vu bJ),(vs bK),cM.v]) (xa p5 [(vi bG),(vi bH),(vi bI),(vu bJ),(vs bK),cM.v] (isAgg76 _) (sizeOf76 _) hv3) ?_
 refine sc call135 (h.mono ?_)
 rintro e w8 ⟨r1,r2,rfl,h⟩
 refine ⟨_,rfl,?_⟩
 refine q0 (.tuple #[(vi r1),(vi r2)]) (q0 (vi r1) (q0 (vi r2) (q0 (vi r1) (q0 (vi r2) (ln (zA (eg (q0 (vi r2) (q0 (vb (r2 != 0)) ?_)))))))))
 refine ln ?_
 refine zB (t:=(r2 != 0)) (by kernel_rfl) (fun hc2=>?_) (fun hc2=>?_)
 have h:=h.1 hc2
 refine eg (q0 (vi r2) (q0 (vi 0) (q0 (vi r2) (ln (er (vL (uK (vL (vL ?_)))))))))
 refine uK (vL (xW (.inl rfl) results135 (v:=(vi 0)) (by kernel_rfl) (v':=(vi r2)) (by kernel_rfl) ?_))
 exact ⟨0,r2,rfl,h⟩
 have h:=h.2 hc2
 refine zC (zN (rg (q0 ((Sl.mk (some p4) 2 2).v) (q0 (vi x1) ?_))))
 obtain ⟨a2,hv2,h⟩:=h
 refine q2 (vp (some a2)) (xi (runUnderlying276 _) (sizeOf275 _) hv2) ?_
 obtain ⟨v2,hv1,h⟩:=h
 refine q2 (vp v2) (xl (isAgg275 _) hv1) (q0 (vi r1) ?_)
 obtain ⟨a3,hp3,h⟩:=h
 refine q2 (vp (some a3)) (xn hp3) ?_
 obtain ⟨hp4,h⟩:=h
 refine ss (zT (a:=a3) (v:=(vi r1)) (by kernel_rfl) (by kernel_rfl) rfl (sizeOf78 _) hp4) ?_
 intro w9 hn3
 have h:=h w9 hn3
 refine zD (tJ (zN (rg (q0 (vi (q6.wrap (x1+1))) (q0 (vi (q6.wrap (x1+1))) (ln ?_))))))
 exact ⟨((q6.wrap (x1+1)),w9),⟨rfl,hm,h.1⟩,h.2⟩
 have h:=h.2 hc1
 refine qE (tN (tN (tP (zN (eg (q0 (vp p1) ?_))))))
 obtain ⟨bP,bQ,bR,bS,bT,aF,aG,hv6,h⟩:=h
 refine q2 (.agg #[(vi bP),(vi bQ),(vi bR),(vu bS),(vs bT),(vi aF),(vi aG)]) (xa p3 [(vi bP),(vi bQ),(vi bR),(vu bS),(vs bT),(vi aF),(vi aG)] (isAgg127 _) (sizeOf127 _) hv6) ?_
 refine sc call109 (h.mono ?_)
 rintro e w10 ⟨r3,r4,rfl,h⟩
 refine ⟨_,rfl,?_⟩
 refine q0 (vi r3) (q0 (vi r4) (q0 (vi r3) (q0 (vi r4) (ln (er (xW (.inl rfl) results135 (v:=(vi r3)) (by kernel_rfl) (v':=(vi r4)) (by kernel_rfl) ?_))))))
 exact ⟨r3,r4,rfl,h⟩
def m_H1_l1 (p1:Option Addr) (n1:Int) (s1:Sl) (x1:Int) (wl1:World) (Kc1:Int→WP) (K:WP):Prop :=Br (decide (x1<(s1.len:Int))) (∃a2:Addr,At s1 x1 9 a2∧∃vnodeKind1 vnodeFrom1:Int,∃vnodeTo1 vnodeNum1:Int,∃vnodeText1:ByteArray,∃vnodeA1 vnodeB1:Int,∃vsize1 vdepth1:Int,Row wl1 a2 [(vi vnodeKind1),(vi vnodeFrom1),(vi vnodeTo1),(vu vnodeNum1),(vs vnodeText1),(vi vnodeA1),(vi vnodeB1),(vi vsize1),(vi vdepth1)]∧∀(p2:Addr) (w1:World),New wl1 (.cells #[(vi 0),(vi 0),(vi 0),(vu 0),ve,(vi 0),(vi 0),(vi 0),(vi 0)] 234) p2 w1→(∀j,j<9→CanW w1 (p2.add j))∧∀w2:World,w2=storeRow w1 p2 [(vi vnodeKind1),(vi vnodeFrom1),(vi vnodeTo1),(vu vnodeNum1),(vs vnodeText1),(vi vnodeA1),(vi vnodeB1),(vi vsize1),(vi vdepth1)]→∃C1:WP,C1 w2.drew∧∀w3,w3=w2.drew→∃a3:Addr,p1=some a3∧∃v2:Option Nat,(∀w',C1 w'→w'.cell? (a3.add 1)=some (.map v2))∧∃aA aB:Int,∃aC aD:Int,∃aE:ByteArray,∃aF aG:Int,(∀w',C1 w'→Row w' p2 [(vi aA),(vi aB),(vi aC),(vu aD),(vs aE),(vi aF),(vi aG)])∧∃w4:World,(Builtin.delete_ #[159,127] 0 #[(.map v2),(.agg #[(vi aA),(vi aB),(vi aC),(vu aD),(vs aE),(vi aF),(vi aG)])]).run prog w3=.ok (.tuple #[]) w4∧Kc1 (q6.wrap (x1+1)) w4) (∃a4:Addr,p1=some a4∧∃v3:Sl,wl1.cell? a4=some v3.v∧∃s2:Sl,(Instr.sliceAt 160 v3.v none (some (vi n1)) none).run prog wl1=.ok s2.v wl1∧∃a5:Addr,p1=some a5∧CanW wl1 a5∧∀w5:World,w5=wl1.setCell a5 s2.v→K w5)
def m_H1 (p1:Option Addr) (n1:Int) (w:World) (K:WP):Prop :=∃a1:Addr,p1=some a1∧∃v1:Sl,w.cell? a1=some v1.v∧∃s1:Sl,(Instr.sliceAt 160 v1.v (some (vi n1)) none none).run prog w=.ok s1.v w∧∃(I1:Int→WP) (mu1:Int→World→Nat),I1 0 w∧∀(x1:Int) (wl1:World),I1 x1 wl1→m_H1_l1 p1 n1 s1 x1 wl1 (fun y'0 w'=>I1 y'0 w'∧mu1 y'0 w'<mu1 x1 wl1) K
theorem w_H1 (p1:Option Addr) (n1:Int) (w:World) (K:WP) (h:m_H1 p1 n1 w K) :
  Calls prog 136 #[(vp p1),(vi n1)] w (fun e w'=>e=.returned (.tuple #[])∧K  w'):=by
 unfold m_H1 at h
 refine cw (args:=[(vp p1),(vi n1)]) func136 ntmps136 (zA (eg (q0 (vp p1) ?_)))
 obtain ⟨a1,hp1,h⟩:=h
 refine q2 (vp (some a1)) (xn hp1) (q0 (vp (some a1)) ?_)
 obtain ⟨v1,hv9,h⟩:=h
 refine q2 v1.v (xl (isAgg160 _) hv9) (q0 (vi n1) ?_)
 obtain ⟨s1,hv8,h⟩:=h
 refine q2 s1.v (tQ (by kernel_rfl) (by kernel_rfl) (by kernel_rfl) (by kernel_rfl) hv8) (q0 (vi (s1.len:Int)) (q0 (vi 0) (ln (zQ ?_))))
 obtain ⟨I1,mu1,h0,hr⟩:=h
 refine qI (σ:=Int×World) (fun s ρ w=>w=s.2∧Has ρ [(0,(vp p1)),(1,(vi n1)),(11,s1.v),(12,(vi (s1.len:Int))),(13,(vi s.1))]∧I1 s.1 s.2) (fun s=>mu1 s.1 s.2) (0,w) ⟨rfl,hm,h0⟩ ?_
 rintro ⟨x1,wl1⟩ ρ w ⟨hw,hH,hI⟩
 obtain rfl:wl1=w:=(show w=wl1 from hw).symm
 have hH:Has ρ [(0,(vp p1)),(1,(vi n1)),(11,s1.v),(12,(vi (s1.len:Int))),(13,(vi x1))]:=hH
 have h:=hr x1 wl1 hI
 unfold m_H1_l1 at h
 refine vC hH ?_
 refine eg (q0 (vb (decide (x1<(s1.len:Int)))) (ln (zA ?_)))
 refine zB (t:=(decide (x1<(s1.len:Int)))) (by kernel_rfl) (fun hc1=>?_) (fun hc1=>?_)
 have h:=h.1 hc1
 refine zC (zN (zA (zQ (eg ?_))))
 obtain ⟨a2,hv5,h⟩:=h
 refine q2 (vp (some a2)) (xi (runUnderlying160 _) (sizeOf234 _) hv5) ?_
 obtain ⟨vnodeKind1,vnodeFrom1,vnodeTo1,vnodeNum1,vnodeText1,vnodeA1,vnodeB1,vsize1,vdepth1,hv4,h⟩:=h
 refine q2 (.agg #[(vi vnodeKind1),(vi vnodeFrom1),(vi vnodeTo1),(vu vnodeNum1),(vs vnodeText1),(vi vnodeA1),(vi vnodeB1),(vi vsize1),(vi vdepth1)]) (xa a2 [(vi vnodeKind1),(vi vnodeFrom1),(vi vnodeTo1),(vu vnodeNum1),(vs vnodeText1),(vi vnodeA1),(vi vnodeB1),(vi vsize1),(vi vdepth1)] (isAgg234 _) (sizeOf234 _) hv4) (sn (O:=(.cells #[(vi 0),(vi 0),(vi 0),(vu 0),ve,(vi 0),(vi 0),(vi 0),(vi 0)] 234)) (zO (zeroValue234 _) rfl) ?_)
 intro p2 w1 hn2
 have h:=h p2 w1 hn2
 obtain ⟨hp2,h⟩:=h
 refine ss (xo p2 [(vi vnodeKind1),(vi vnodeFrom1),(vi vnodeTo1),(vu vnodeNum1),(vs vnodeText1),(vi vnodeA1),(vi vnodeB1),(vi vsize1),(vi vdepth1)] (sizeOf234 _) hp2) ?_
 intro w2 hn1
 have h:=h w2 hn1
 refine ln ?_
 obtain ⟨C1,hC,h⟩:=h
 refine vB C1 [6] [6] (by kernel_rfl) (by kernel_rfl) (by kernel_rfl) (by kernel_rfl) hC ?_
 intro w3 hw3
 have h:=h w3 hw3
 refine qx 0 (vp p1) Kp0 (qg 1 ?_)
 obtain ⟨a3,hp3,h⟩:=h
 refine sy (v:=(vp (some a3))) Kp1 (fun _ _=>(xn hp3)) (qx 2 (vp (some (a3.add 1))) Kp2 (qg 3 ?_))
 obtain ⟨v2,hv3,h⟩:=h
 refine sy (v:=(.map v2)) Kp3 (fun w' hw'=>(xl (isAgg159 _) (hv3 w' hw'))) (qx 4 (vp (some p2)) Kp4 (qg 5 ?_))
 obtain ⟨aA,aB,aC,aD,aE,aF,aG,hv2,h⟩:=h
 refine sy (v:=(.agg #[(vi aA),(vi aB),(vi aC),(vu aD),(vs aE),(vi aF),(vi aG)])) Kp5 (fun w' hw'=>(xa p2 [(vi aA),(vi aB),(vi aC),(vu aD),(vs aE),(vi aF),(vi aG)] (isAgg127 _) (sizeOf127 _) (hv2 w' hw'))) (lg 6 ?_)
 obtain ⟨w4,hv1,h⟩:=h
 refine sl (v:=(.tuple #[])) Kp6 (zJ rfl) (by kernel_rfl) (vS (args:=#[(.map v2),(.agg #[(vi aA),(vi aB),(vi aC),(vu aD),(vs aE),(vi aF),(vi aG)])]) (by kernel_rfl) (fun _=>rfl) hv1) (.inl (by kernel_rfl)) (wn (tJ (zN (rg (q0 (vi (q6.wrap (x1+1))) (q0 (vi (q6.wrap (x1+1))) (ln ?_)))))))
 exact ⟨((q6.wrap (x1+1)),w4),⟨rfl,hm,h.1⟩,h.2⟩
 have h:=h.2 hc1
 refine qE (tN (tN (tP (zN (rg (q0 (vp p1) (q0 (vp p1) ?_)))))))
 obtain ⟨a4,hp4,h⟩:=h
 refine q2 (vp (some a4)) (xn hp4) (q0 (vp (some a4)) ?_)
 obtain ⟨v3,hv7,h⟩:=h
 refine q2 v3.v (xl (isAgg160 _) hv7) (q0 (vi n1) ?_)
 obtain ⟨s2,hv6,h⟩:=h
 refine q2 s2.v (tQ (by kernel_rfl) (by kernel_rfl) (by kernel_rfl) (by kernel_rfl) hv6) ?_
 obtain ⟨a5,hp5,h⟩:=h
 refine q2 (vp (some a5)) (xn hp5) (q0 (vp (some a5)) ?_)
 obtain ⟨hp6,h⟩:=h
 refine ss (zT (a:=a5) (v:=s2.v) (by kernel_rfl) (by kernel_rfl) rfl (sizeOf160 _) hp6) ?_
 intro w5 hn3
 have h:=h w5 hn3
 refine zD (jFP (.inr rfl) results136 ?_)
 exact ⟨rfl,h⟩
def m_I1_j1 (p1:Option Addr) (t1:Int) (x1:Bool) (w:World) (K:Bool→WP):Prop :=Br x1 (∃a1:Addr,p1=some a1∧∃v1:Sl,w.cell? a1=some v1.v∧K (decide (t1≤(v1.len:Int))) w) (K false w)
def m_I1 (p1:Option Addr) (t1:Int) (w:World) (K:Bool→WP):Prop :=Br (!(Option.isNone p1)) (m_I1_j1 p1 t1 (decide (t1≥1)) w K) (m_I1_j1 p1 t1 false w K)
theorem w_I1 (p1:Option Addr) (t1:Int) (w:World) (K:Bool→WP) (h:m_I1 p1 t1 w K) :
  Calls prog 138 #[(vp p1),(vi t1)] w (fun e w'=>∃r1:Bool,e=.returned (vb r1)∧K r1 w'):=by
 unfold m_I1 at h
 refine cw (args:=[(vp p1),(vi t1)]) func138 ntmps138 (eg (q0 (vb false) (ln (eg (q0 (vp p1) (q2 (vb (!(Option.isNone p1))) (jMJ (by kernel_rfl) rfl underlying91) (q0 (vb (!(Option.isNone p1))) ?_)))))))
 refine zL 3 (fun ρ w=>∃x1:Bool,Has ρ [(0,(vp p1)),(1,(vi t1)),(10,(vb x1))]∧m_I1_j1 p1 t1 x1 w K) ?_ ?_
 rintro ρ w ⟨x1,hH,h⟩
 unfold m_I1_j1 at h
 refine zU hH ?_
 refine q0 (vb x1) ?_
 rcases bte x1 with hg1 | hg1
 have h:=h.1 hg1
 refine q1 (vi t1) (wy 11 hg1) (q1 (vp p1) (wy 11 hg1) ?_)
 obtain ⟨a1,hp1,h⟩:=h
 refine stp (v:=(vp (some a1))) (wy 11 hg1) (xn hp1) (q1 (vp (some a1)) (wy 11 hg1) ?_)
 obtain ⟨v1,hv1,h⟩:=h
 refine stp (v:=v1.v) (wy 11 hg1) (xl (isAgg160 _) hv1) (q1 (vi (v1.len:Int)) (wy 11 hg1) (q1 (vb (decide (t1≤(v1.len:Int)))) (wy 11 hg1) (q2 (vb (decide (t1≤(v1.len:Int)))) (xT hg1) (q0 (vb (decide (t1≤(v1.len:Int)))) (ln (er (rs1 results138 (v:=(vb (decide (t1≤(v1.len:Int))))) ?_)))))))
 exact ⟨(decide (t1≤(v1.len:Int))),rfl,h⟩
 have h:=h.2 hg1
 refine sk (yD 11 hg1) (sk (yD 11 hg1) (sk (yD 11 hg1) (sk (yD 11 hg1) (sk (yD 11 hg1) (sk (yD 11 hg1) (sk (yD 11 hg1) (q2 (vb false) (xF hg1) (q0 (vb false) (ln (er ?_))))))))))
 refine rs1 results138 (v:=(vb false)) ?_
 exact ⟨false,rfl,h⟩
 rcases bte (!(Option.isNone p1)) with hg2 | hg2
 have h:=h.1 hg2
 refine q1 (vi t1) (wy 7 hg2) (q1 (vb (decide (t1≥1))) (wy 7 hg2) (q2 (vb (decide (t1≥1))) (xT hg2) (zD ?_)))
 exact ⟨(decide (t1≥1)),hm,h⟩
 have h:=h.2 hg2
 refine sk (yD 7 hg2) (sk (yD 7 hg2) (q2 (vb false) (xF hg2) (zD ?_)))
 exact ⟨false,hm,h⟩
def m_O3 (p1:Option Addr) (t1:Int) (w:World) (K:Value→WP):Prop :=∀(p2:Addr) (w1:World),New w (.cells #[(vp p1)] 91) p2 w1→∀(p3:Addr) (w2:World),New w1 (.cells #[(vi t1)] 78) p3 w2→K (.func (.func 186) #[] #[(vp (some p2)),(vp (some p3))]) w2
theorem w_O3 (p1:Option Addr) (t1:Int) (w:World) (K:Value→WP) (h:m_O3 p1 t1 w K) :
  Calls prog 139 #[(vp p1),(vi t1)] w (fun e w'=>∃r1:Value,e=.returned r1∧K r1 w'):=by
 unfold m_O3 at h
 refine cw (args:=[(vp p1),(vi t1)]) func139 ntmps139 (eg (sn (O:=(.cells #[(vp p1)] 91)) xb ?_))
 intro p2 w1 hn2
 have h:=h p2 w1 hn2
 refine sn (O:=(.cells #[(vi t1)] 78)) xb ?_
 intro p3 w2 hn1
 have h:=h p3 w2 hn1
 refine q0 (.nilFunc:Value) (ln (eg (q0 (.func (.func 186) #[] #[(vp (some p2)),(vp (some p3))]) (q0 (.func (.func 186) #[] #[(vp (some p2)),(vp (some p3))]) (ln (er (rs1 results139 (v:=(.func (.func 186) #[] #[(vp (some p2)),(vp (some p3))])) ?_)))))))
 exact ⟨(.func (.func 186) #[] #[(vp (some p2)),(vp (some p3))]),rfl,h⟩
def m_E_l3 (p1:Option Addr) (s1:Sl) (size1 depth1 x1:Int) (wl1:World) (Kc3:Int→Int→Int→WP) (K:Int→Int→Int→WP):Prop :=Br (decide (x1<(s1.len:Int))) (∃a1:Addr,At s1 x1 1 a1∧∃v4:Int,wl1.cell? a1=some (vi v4)∧Calls prog 138 #[(vp p1),(vi v4)] wl1 (fun e w6=>∃r2:Bool,e=.returned (vb r2)∧Br (!r2) (K 0 0 51 w6) (Calls prog 238 #[(vp p1),(vi v4)] w6 (fun e w7=>∃r3:Int,e=.returned (vi r3)∧Calls prog 239 #[(vp p1),(vi v4)] w7 (fun e w8=>∃r4:Int,e=.returned (vi r4)∧∃z1:Int,(Builtin.max_ #[3,3] 3 #[(vi depth1),(vi r4)]).run prog w8=.ok (vi z1) w8∧Kc3 (q6.wrap (size1+r3)) z1 (q6.wrap (x1+1)) w8))))) (Br (decide (size1>4096)) (K 0 0 52 wl1) (Br (decide ((q6.wrap (depth1+1))>64)) (K 0 0 52 wl1) (K size1 (q6.wrap (depth1+1)) 0 wl1)))
def m_E_j2 (p1:Option Addr) (p2 p3:Addr) (e2:Int) (w:World) (K:Int→Int→Int→WP):Prop :=Br (e2 != 0) (K 0 0 e2 w) (∃v1:Int,w.cell? (p2.add 5)=some (vi v1)∧∃v2:Int,w.cell? (p2.add 6)=some (vi v2)∧∀(p4:Addr) (w5:World),New w (.cells #[(vi v1),(vi v2)] 78) p4 w5→∃v3:Int,w5.cell? (p3.add 4)=some (vi v3)∧∃s1:Sl,(Instr.sliceAt 54 (Sl.mk (some p4) 2 2).v none (some (vi v3)) none).run prog w5=.ok s1.v w5∧∃(I1:Int→Int→Int→WP) (mu1:Int→Int→Int→World→Nat),I1 1 0 0 w5∧∀(size1 depth1 x1:Int) (wl1:World),I1 size1 depth1 x1 wl1→m_E_l3 p1 s1 size1 depth1 x1 wl1 (fun y'0 y'1 y'2 w'=>I1 y'0 y'1 y'2 w'∧mu1 y'0 y'1 y'2 w'<mu1 size1 depth1 x1 wl1) K)
def m_E_j1 (p1:Option Addr) (p2 p3:Addr) (e1:Int) (w:World) (K:Int→Int→Int→WP):Prop :=Br (e1 == 0) (∃vfrom1 vto1:Bool,∃vnum1 vtext1:Bool,∃vkids1:Int,Row w p3 [(vb vfrom1),(vb vto1),(vb vnum1),(vb vtext1),(vi vkids1)]∧∃aO aP:Int,∃aQ aR:Int,∃aS:ByteArray,∃bN bO:Int,Row w p2 [(vi aO),(vi aP),(vi aQ),(vu aR),(vs aS),(vi bN),(vi bO)]∧Calls prog 185 #[(.agg #[(vb vfrom1),(vb vto1),(vb vnum1),(vb vtext1),(vi vkids1)]),(.agg #[(vi aO),(vi aP),(vi aQ),(vu aR),(vs aS),(vi bN),(vi bO)])] w (fun e w9=>∃r5:Int,e=.returned (vi r5)∧m_E_j2 p1 p2 p3 r5 w9 K)) (m_E_j2 p1 p2 p3 e1 w K)
def m_E_j5 (p1:Option Addr) (p2:Addr) (r1:Int) (p3:Addr) (x2 x3:Bool) (w:World) (K:Int→Int→Int→WP):Prop :=Br (r1 == 0) (Br x2 (m_E_j1 p1 p2 p3 53 w K) (Br x3 (m_E_j1 p1 p2 p3 53 w K) (m_E_j1 p1 p2 p3 r1 w K))) (m_E_j1 p1 p2 p3 r1 w K)
def m_E_j4 (p1:Option Addr) (p2:Addr) (r1:Int) (p3:Addr) (x2:Bool) (w:World) (K:Int→Int→Int→WP):Prop :=Br (r1 == 0) (Br x2 (m_E_j1 p1 p2 p3 53 w K) (∃v6:Int,w.cell? (p3.add 4)=some (vi v6)∧Br (decide (v6<2)) (∃v7:Int,w.cell? (p2.add 6)=some (vi v7)∧m_E_j5 p1 p2 r1 p3 x2 (v7 != 0) w K) (m_E_j5 p1 p2 r1 p3 x2 false w K))) (m_E_j1 p1 p2 p3 r1 w K)
def m_E (p1:Option Addr) (aH aI:Int) (aJ aK:Int) (aL:ByteArray) (aM aN:Int) (w:World) (K:Int→Int→Int→WP):Prop :=∀(p2:Addr) (w1:World),New w (.cells #[(vi aH),(vi aI),(vi aJ),(vu aK),(vs aL),(vi aM),(vi aN)] 127) p2 w1→∃aA aB:Int,∃aC aD:Int,∃aE:ByteArray,∃aF aG:Int,Row w1 p2 [(vi aA),(vi aB),(vi aC),(vu aD),(vs aE),(vi aF),(vi aG)]∧Calls prog 184 #[(.agg #[(vi aA),(vi aB),(vi aC),(vu aD),(vs aE),(vi aF),(vi aG)])] w1 (fun e w2=>∃rfrom1 rto1:Bool,∃rnum1 rtext1:Bool,∃rkids1 r1:Int,e=.returned (.tuple #[(.agg #[(vb rfrom1),(vb rto1),(vb rnum1),(vb rtext1),(vi rkids1)]),(vi r1)])∧∀(p3:Addr) (w3:World),New w2 (.cells #[(vb false),(vb false),(vb false),(vb false),(vi 0)] 271) p3 w3→(∀j,j<5→CanW w3 (p3.add j))∧∀w4:World,w4=storeRow w3 p3 [(vb rfrom1),(vb rto1),(vb rnum1),(vb rtext1),(vi rkids1)]→Br (r1 == 0) (∃v5:Int,w4.cell? (p3.add 4)=some (vi v5)∧Br (decide (v5<1)) (∃v8:Int,w4.cell? (p2.add 5)=some (vi v8)∧m_E_j4 p1 p2 r1 p3 (v8 != 0) w4 K) (m_E_j4 p1 p2 r1 p3 false w4 K)) (m_E_j1 p1 p2 p3 r1 w4 K))
theorem w_E (p1:Option Addr) (aH aI:Int) (aJ aK:Int) (aL:ByteArray) (aM aN:Int) (w:World) (K:Int→Int→Int→WP) (h:m_E p1 aH aI aJ aK aL aM aN w K) :
  Calls prog 167 #[(vp p1),(.agg #[(vi aH),(vi aI),(vi aJ),(vu aK),(vs aL),(vi aM),(vi aN)])] w (fun e w'=>∃r6 r7 r8:Int,e=.returned (.tuple #[(vi r6),(vi r7),(vi r8)])∧K r6 r7 r8 w'):=by
 unfold m_E at h
 refine cw (args:=[(vp p1),(.agg #[(vi aH),(vi aI),(vi aJ),(vu aK),(vs aL),(vi aM),(vi aN)])]) func167 ntmps167 (eg (sn (O:=(.cells #[(vi aH),(vi aI),(vi aJ),(vu aK),(vs aL),(vi aM),(vi aN)] 127)) xb ?_))
 intro p2 w1 hn4
 have h:=h p2 w1 hn4
 refine q0 (vi 0) (q0 (vi 0) (q0 (vi 0) (ln (eg ?_))))
 obtain ⟨aA,aB,aC,aD,aE,aF,aG,hv14,h⟩:=h
 refine q2 (.agg #[(vi aA),(vi aB),(vi aC),(vu aD),(vs aE),(vi aF),(vi aG)]) (xa p2 [(vi aA),(vi aB),(vi aC),(vu aD),(vs aE),(vi aF),(vi aG)] (isAgg127 _) (sizeOf127 _) hv14) ?_
 refine sc call184 (h.mono ?_)
 rintro e w2 ⟨rfrom1,rto1,rnum1,rtext1,rkids1,r1,rfl,h⟩
 refine ⟨_,rfl,?_⟩
 refine q0 (.tuple #[(.agg #[(vb rfrom1),(vb rto1),(vb rnum1),(vb rtext1),(vi rkids1)]),(vi r1)]) (q0 (.agg #[(vb rfrom1),(vb rto1),(vb rnum1),(vb rtext1),(vi rkids1)]) (q0 (vi r1) (sn (O:=(.cells #[(vb false),(vb false),(vb false),(vb false),(vi 0)] 271)) (zO (zeroValue271 _) rfl) ?_)))
 intro p3 w3 hn3
 have h:=h p3 w3 hn3
 obtain ⟨hp1,h⟩:=h
 refine ss (xo p3 [(vb rfrom1),(vb rto1),(vb rnum1),(vb rtext1),(vi rkids1)] (sizeOf271 _) hp1) ?_
 intro w4 hn1
 have h:=h w4 hn1
 refine q0 (vi r1) (ln ?_)
 refine jAC (fun ρ w=>∃e1:Int,Has ρ [(0,(vp p1)),(3,(vp (some p2))),(7,(vp (some p3))),(8,(vi e1))]∧m_E_j1 p1 p2 p3 e1 w K) ?_ ?_
 rintro ρ w ⟨e1,hH,h⟩
 unfold m_E_j1 at h
 refine vC hH ?_
 refine jAC (fun ρ w=>∃e2:Int,Has ρ [(0,(vp p1)),(3,(vp (some p2))),(7,(vp (some p3))),(8,(vi e2))]∧m_E_j2 p1 p2 p3 e2 w K) ?_ ?_
 rintro ρ w ⟨e2,hH,h⟩
 unfold m_E_j2 at h
 refine vC hH ?_
 refine zA (eg (q0 (vi e2) (q0 (vb (e2 != 0)) (ln ?_))))
 refine zB (t:=(e2 != 0)) (by kernel_rfl) (fun hc1=>?_) (fun hc1=>?_)
 have h:=h.1 hc1
 refine eg (q0 (vi e2) (q0 (vi 0) (q0 (vi 0) (q0 (vi e2) (ln (er (vL (jOH (.inl rfl) results167 (v:=(vi 0)) (by kernel_rfl) (v':=(vi 0)) (by kernel_rfl) (v'':=(vi e2)) (by kernel_rfl) ?_))))))))
 exact ⟨0,0,e2,rfl,h⟩
 have h:=h.2 hc1
 refine zC (zN (eg (q0 (vi 1) (q0 (vi 0) (ln (zA (eg (q0 (vp (some (p2.add 5))) ?_))))))))
 obtain ⟨v1,hv7,h⟩:=h
 refine q2 (vi v1) (xl (isAgg78 _) hv7) (q0 (vp (some (p2.add 6))) ?_)
 obtain ⟨v2,hv6,h⟩:=h
 refine q2 (vi v2) (xl (isAgg78 _) hv6) (vR (O:=(.cells #[(vi v1),(vi v2)] 78)) (fun p=>(Sl.mk (some p) 2 2).v) (zJ rfl) (zK (vs:=#[(0,(vi v1)),(1,(vi v2))]) (by kernel_rfl) (by kernel_rfl)) ?_)
 intro p4 w5 hn2
 have h:=h p4 w5 hn2
 refine q0 (vp (some (p3.add 4))) ?_
 obtain ⟨v3,hv5,h⟩:=h
 refine q2 (vi v3) (xl (isAgg3 _) hv5) ?_
 obtain ⟨s1,hv4,h⟩:=h
 refine q2 s1.v (tQ (by kernel_rfl) (by kernel_rfl) (by kernel_rfl) (by kernel_rfl) hv4) (q0 (vi (s1.len:Int)) (q0 (vi 0) (ln (zQ ?_))))
 obtain ⟨I1,mu1,h0,hr⟩:=h
 refine qI (σ:=Int×Int×Int×World) (fun s ρ w=>w=s.2.2.2∧Has ρ [(0,(vp p1)),(9,(vi s.1)),(10,(vi s.2.1)),(55,s1.v),(56,(vi (s1.len:Int))),(57,(vi s.2.2.1))]∧I1 s.1 s.2.1 s.2.2.1 s.2.2.2) (fun s=>mu1 s.1 s.2.1 s.2.2.1 s.2.2.2) (1,0,0,w5) ⟨rfl,hm,h0⟩ ?_
 rintro ⟨size1,depth1,x1,wl1⟩ ρ w ⟨hw,hH,hI⟩
 obtain rfl:wl1=w:=(show w=wl1 from hw).symm
 have hH:Has ρ [(0,(vp p1)),(9,(vi size1)),(10,(vi depth1)),(55,s1.v),(56,(vi (s1.len:Int))),(57,(vi x1))]:=hH
 have h:=hr size1 depth1 x1 wl1 hI
 unfold m_E_l3 at h
 refine vC hH ?_
 refine eg (q0 (vb (decide (x1<(s1.len:Int)))) (ln (zA ?_)))
 refine zB (t:=(decide (x1<(s1.len:Int)))) (by kernel_rfl) (fun hc2=>?_) (fun hc2=>?_)
 have h:=h.1 hc2
 refine zC (zN (zA (zQ (eg ?_))))
 obtain ⟨a1,hv3,h⟩:=h
 refine q2 (vp (some a1)) (xi (runUnderlying54 _) (sizeOf78 _) hv3) ?_
 obtain ⟨v4,hv2,h⟩:=h
 refine q2 (vi v4) (xl (isAgg78 _) hv2) (q0 (vi v4) (ln (zA (eg (q0 (vp p1) (q0 (vi v4) ?_))))))
 refine sc call138 (h.mono ?_)
 rintro e w6 ⟨r2,rfl,h⟩
 refine ⟨_,rfl,?_⟩
 refine q0 (vb (!r2)) (ln ?_)
 refine zB (t:=(!r2)) (by kernel_rfl) (fun hc3=>?_) (fun hc3=>?_)
 have h:=h.1 hc3
 refine eg (q0 (vi 0) (q0 (vi 0) (q0 (vi 51) (ln (er (vL (uK (vL (vL ?_)))))))))
 refine uK (vL (jOH (.inl rfl) results167 (v:=(vi 0)) (by kernel_rfl) (v':=(vi 0)) (by kernel_rfl) (v'':=(vi 51)) (by kernel_rfl) ?_))
 exact ⟨0,0,51,rfl,h⟩
 have h:=h.2 hc3
 refine zC (zN (eg (q0 (vi size1) (q0 (vp p1) (q0 (vi v4) ?_)))))
 refine sc call238 (h.mono ?_)
 rintro e w7 ⟨r3,rfl,h⟩
 refine ⟨_,rfl,?_⟩
 refine q0 (vi (q6.wrap (size1+r3))) (q0 (vi (q6.wrap (size1+r3))) (ln (rg (q0 (vi depth1) (q0 (vp p1) (q0 (vi v4) ?_))))))
 refine sc call239 (h.mono ?_)
 rintro e w8 ⟨r4,rfl,h⟩
 refine ⟨_,rfl,?_⟩
 obtain ⟨z1,hv1,h⟩:=h
 refine q2 (vi z1) (vS (args:=#[(vi depth1),(vi r4)]) (by kernel_rfl) (fun _=>rfl) hv1) (q0 (vi z1) (zD (tJ (zN (rg (q0 (vi (q6.wrap (x1+1))) (q0 (vi (q6.wrap (x1+1))) (ln ?_))))))))
 exact ⟨((q6.wrap (size1+r3)),z1,(q6.wrap (x1+1)),w8),⟨rfl,hm,h.1⟩,h.2⟩
 have h:=h.2 hc2
 refine qE (tN (tN (tP (zN (eg (q0 (vi depth1) (q0 (vi (q6.wrap (depth1+1))) (q0 (vi (q6.wrap (depth1+1))) (ln ?_)))))))))
 refine zA (eg (q0 (vi size1) (q0 (vb (decide (size1>4096))) (q0 (vb (decide (size1>4096))) ?_))))
 rcases bte (decide (size1>4096)) with hg1 | hg1
 have h:=h.1 hg1
 refine sk (yD 80 hg1) (sk (yD 80 hg1) (q2 (vb true) (xT hg1) (ln (uQ (by kernel_rfl) (eg (q0 (vi 0) (q0 (vi 0) (q0 (vi 52) (zD ?_)))))))))
 refine zN (er (vL (jOH (.inl rfl) results167 (v:=(vi 0)) (by kernel_rfl) (v':=(vi 0)) (by kernel_rfl) (v'':=(vi 52)) (by kernel_rfl) ?_)))
 exact ⟨0,0,52,rfl,h⟩
 have h:=h.2 hg1
 refine q1 (vi (q6.wrap (depth1+1))) (wy 80 hg1) (q1 (vb (decide ((q6.wrap (depth1+1))>64))) (wy 80 hg1) (q2 (vb (decide ((q6.wrap (depth1+1))>64))) (xF hg1) (ln ?_)))
 refine zB (t:=(decide ((q6.wrap (depth1+1))>64))) (by kernel_rfl) (fun hc4=>?_) (fun hc4=>?_)
 have h:=h.1 hc4
 refine eg (q0 (vi 0) (q0 (vi 0) (q0 (vi 52) (ln (er (vL (jOH (.inl rfl) results167 (v:=(vi 0)) (by kernel_rfl) (v':=(vi 0)) (by kernel_rfl) (v'':=(vi 52)) (by kernel_rfl) ?_)))))))
 exact ⟨0,0,52,rfl,h⟩
 have h:=h.2 hc4
 refine zC (zN (eg (q0 (vi size1) (q0 (vi (q6.wrap (depth1+1))) (q0 (vi size1) (q0 (vi (q6.wrap (depth1+1))) (q0 (vi 0) (ln (er ?_)))))))))
 refine jOH (.inl rfl) results167 (v:=(vi size1)) (by kernel_rfl) (v':=(vi (q6.wrap (depth1+1)))) (by kernel_rfl) (v'':=(vi 0)) (by kernel_rfl) ?_
 exact ⟨size1,(q6.wrap (depth1+1)),0,rfl,h⟩
 refine eg (q0 (vi e1) (q0 (vb (e1 == 0)) (ln ?_)))
 refine zB (t:=(e1 == 0)) (by kernel_rfl) (fun hc5=>?_) (fun hc5=>?_)
 have h:=h.1 hc5
 refine rg ?_
 obtain ⟨vfrom1,vto1,vnum1,vtext1,vkids1,hv9,h⟩:=h
 refine q2 (.agg #[(vb vfrom1),(vb vto1),(vb vnum1),(vb vtext1),(vi vkids1)]) (xa p3 [(vb vfrom1),(vb vto1),(vb vnum1),(vb vtext1),(vi vkids1)] (isAgg271 _) (sizeOf271 _) hv9) ?_
 obtain ⟨aO,aP,aQ,aR,aS,bN,bO,hv8,h⟩:=h
 refine q2 (.agg #[(vi aO),(vi aP),(vi aQ),(vu aR),(vs aS),(vi bN),(vi bO)]) (xa p2 [(vi aO),(vi aP),(vi aQ),(vu aR),(vs aS),(vi bN),(vi bO)] (isAgg127 _) (sizeOf127 _) hv8) ?_
 refine sc call185 (h.mono ?_)
 rintro e w9 ⟨r5,rfl,h⟩
 refine ⟨_,rfl,?_⟩
 refine q0 (vi r5) (ln ?_)
 exact ⟨r5,hm,h⟩
 have h:=h.2 hc5
 refine zC (zN ?_)
 exact ⟨e1,hm,h⟩
 refine eg (q0 (vi r1) (q0 (vb (r1 == 0)) (q0 (vb (r1 == 0)) ?_)))
 rcases bte (r1 == 0) with hg2 | hg2
 have h:=h.1 hg2
 refine q1 (vp (some (p3.add 4))) (wy 20 hg2) ?_
 obtain ⟨v5,hv13,h⟩:=h
 refine stp (v:=(vi v5)) (wy 20 hg2) (xl (isAgg3 _) hv13) (q1 (vb (decide (v5<1))) (wy 20 hg2) (q1 (vb (decide (v5<1))) (wy 20 hg2) ?_))
 refine zL 4 (fun ρ w=>∃x2:Bool,Has ρ [(0,(vp p1)),(3,(vp (some p2))),(7,(vp (some p3))),(8,(vi r1)),(20,(vb (r1 == 0))),(28,(vb x2))]∧m_E_j4 p1 p2 r1 p3 x2 w K) ?_ ?_
 rintro ρ w ⟨x2,hH,h⟩
 unfold m_E_j4 at h
 refine zU hH ?_
 rcases bte (r1 == 0) with hg3 | hg3
 have h:=h.1 hg3
 refine q1 (vb x2) (wy 20 hg3) ?_
 rcases bte x2 with hg4 | hg4
 have h:=h.1 hg4
 refine sk (yD 29 hg4) (sk (yD 29 hg4) (sk (yD 29 hg4) (sk (yD 29 hg4) (sm (sm (sm (sk (yD 29 hg4) (stp (v:=(vb true)) (wy 20 hg3) (xT hg4) (q2 (vb true) (xT hg3) (ln ?_))))))))))
 refine uQ (by kernel_rfl) (rg (q0 (vi 53) (ln ?_)))
 exact ⟨53,hm,h⟩
 have h:=h.2 hg4
 refine q1 (vp (some (p3.add 4))) (wy 29 hg4) ?_
 obtain ⟨v6,hv11,h⟩:=h
 refine stp (v:=(vi v6)) (wy 29 hg4) (xl (isAgg3 _) hv11) (q1 (vb (decide (v6<2))) (wy 29 hg4) (q1 (vb (decide (v6<2))) (wy 29 hg4) ?_))
 refine zL 4 (fun ρ w=>∃x3:Bool,Has ρ [(0,(vp p1)),(3,(vp (some p2))),(7,(vp (some p3))),(8,(vi r1)),(20,(vb (r1 == 0))),(29,(vb x2)),(37,(vb x3))]∧m_E_j5 p1 p2 r1 p3 x2 x3 w K) ?_ ?_
 rintro ρ w ⟨x3,hH,h⟩
 unfold m_E_j5 at h
 refine zU hH ?_
 rcases bte (r1 == 0) with hg5 | hg5
 have h:=h.1 hg5
 rcases bte x2 with hg6 | hg6
 have h:=h.1 hg6
 refine stp (v:=(vb true)) (wy 20 hg5) (xT hg6) (q2 (vb true) (xT hg5) (ln (uQ (by kernel_rfl) (rg (q0 (vi 53) (ln ?_))))))
 exact ⟨53,hm,h⟩
 have h:=h.2 hg6
 refine stp (v:=(vb x3)) (wy 20 hg5) (xF hg6) (q2 (vb x3) (xT hg5) (ln ?_))
 refine zB (t:=x3) (by kernel_rfl) (fun hc6=>?_) (fun hc6=>?_)
 have h:=h.1 hc6
 refine rg (q0 (vi 53) (ln ?_))
 exact ⟨53,hm,h⟩
 have h:=h.2 hc6
 refine zC (zN ?_)
 exact ⟨r1,hm,h⟩
 have h:=h.2 hg5
 refine sk (yD 20 hg5) (q2 (vb false) (xF hg5) (ln (uR (by kernel_rfl) (zC (zN ?_)))))
 exact ⟨r1,hm,h⟩
 rcases bte (decide (v6<2)) with hg7 | hg7
 have h:=h.1 hg7
 refine q1 (vp (some (p2.add 6))) (wy 33 hg7) ?_
 obtain ⟨v7,hv10,h⟩:=h
 refine stp (v:=(vi v7)) (wy 33 hg7) (xl (isAgg78 _) hv10) (q1 (vb (v7 != 0)) (wy 33 hg7) (stp (v:=(vb (v7 != 0))) (wy 29 hg4) (xT hg7) (zD ?_)))
 exact ⟨(v7 != 0),hm,h⟩
 have h:=h.2 hg7
 refine sk (yD 33 hg7) (sk (yD 33 hg7) (sk (yD 33 hg7) (stp (v:=(vb false)) (wy 29 hg4) (xF hg7) (zD ?_))))
 exact ⟨false,hm,h⟩
 have h:=h.2 hg3
 refine sk (yD 20 hg3) (sm (sm (sm (sm (sm (sm (sm (sm (sk (yD 20 hg3) (q2 (vb false) (xF hg3) (zD ?_)))))))))))
 refine zN (uR (by kernel_rfl) (zC (zN ?_)))
 exact ⟨r1,hm,h⟩
 rcases bte (decide (v5<1)) with hg8 | hg8
 have h:=h.1 hg8
 refine q1 (vp (some (p2.add 5))) (wy 24 hg8) ?_
 obtain ⟨v8,hv12,h⟩:=h
 refine stp (v:=(vi v8)) (wy 24 hg8) (xl (isAgg78 _) hv12) (q1 (vb (v8 != 0)) (wy 24 hg8) (stp (v:=(vb (v8 != 0))) (wy 20 hg2) (xT hg8) (zD ?_)))
 exact ⟨(v8 != 0),hm,h⟩
 have h:=h.2 hg8
 refine sk (yD 24 hg8) (sk (yD 24 hg8) (sk (yD 24 hg8) (stp (v:=(vb false)) (wy 20 hg2) (xF hg8) (zD ?_))))
 exact ⟨false,hm,h⟩
 have h:=h.2 hg2
 refine sk (yD 20 hg2) (sk (yD 20 hg2) (sk (yD 20 hg2) (sk (yD 20 hg2) (sm (sm (sm (sk (yD 20 hg2) (sk (yD 20 hg2) (sm (sm (sm ?_)))))))))))
 refine sm (sm (sm (sm (sm (sk (yD 20 hg2) (q2 (vb false) (xF hg2) (ln (uR (by kernel_rfl) (zC (zN ?_))))))))))
 exact ⟨r1,hm,h⟩
def m_P3 (aT aU:Int) (aV aW:Int) (aX:ByteArray) (aY:Sl) (w:World) (K:Int→Int→Int→Int→ByteArray→Int→Int→WP):Prop :=∀(p1:Addr) (w1:World),New w (.cells #[(vi aT),(vi aU),(vi aV),(vu aW),(vs aX),aY.v] 76) p1 w1→∀(p2:Addr) (w2:World),New w1 (.cells #[(vi 0),(vi 0),(vi 0),(vu 0),ve,(vi 0),(vi 0)] 127) p2 w2→∃v1:Int,w2.cell? p1=some (vi v1)∧∃v2:Int,w2.cell? (p1.add 1)=some (vi v2)∧∃v3:Int,w2.cell? (p1.add 2)=some (vi v3)∧∃v4:Int,w2.cell? (p1.add 3)=some (vu v4)∧∃v5:ByteArray,w2.cell? (p1.add 4)=some (vs v5)∧(∀j,j<7→CanW w2 (p2.add j))∧∀w3:World,w3=storeRow w2 p2 [(vi v1),(vi v2),(vi v3),(vu v4),(vs v5),(vi 0),(vi 0)]→∃bU bV:Int,∃bW bX:Int,∃bY:ByteArray,∃bZ cA:Int,Row w3 p2 [(vi bU),(vi bV),(vi bW),(vu bX),(vs bY),(vi bZ),(vi cA)]∧K bU bV bW bX bY bZ cA w3
theorem w_P3 (aT aU:Int) (aV aW:Int) (aX:ByteArray) (aY:Sl) (w:World) (K:Int→Int→Int→Int→ByteArray→Int→Int→WP) (h:m_P3 aT aU aV aW aX aY w K) :
  Calls prog 183 #[(.agg #[(vi aT),(vi aU),(vi aV),(vu aW),(vs aX),aY.v])] w (fun e w'=>∃aZ bA:Int,∃bB bC:Int,∃bD:ByteArray,∃bE bF:Int,e=.returned (.agg #[(vi aZ),(vi bA),(vi bB),(vu bC),(vs bD),(vi bE),(vi bF)])∧K aZ bA bB bC bD bE bF w'):=by
 unfold m_P3 at h
 refine cw (args:=[(.agg #[(vi aT),(vi aU),(vi aV),(vu aW),(vs aX),aY.v])]) func183 ntmps183 (eg (sn (O:=(.cells #[(vi aT),(vi aU),(vi aV),(vu aW),(vs aX),aY.v] 76)) xb ?_))
 intro p1 w1 hn3
 have h:=h p1 w1 hn3
 refine sn (O:=(.cells #[(vi 0),(vi 0),(vi 0),(vu 0),ve,(vi 0),(vi 0)] 127)) (zO (zeroValue127 _) rfl) ?_
 intro p2 w2 hn2
 have h:=h p2 w2 hn2
 refine ln (eg (q0 (vp (some p1)) ?_))
 obtain ⟨v1,hv6,h⟩:=h
 refine q2 (vi v1) (xl (isAgg3 _) hv6) (q0 (vp (some (p1.add 1))) ?_)
 obtain ⟨v2,hv5,h⟩:=h
 refine q2 (vi v2) (xl (isAgg3 _) hv5) (q0 (vp (some (p1.add 2))) ?_)
 obtain ⟨v3,hv4,h⟩:=h
 refine q2 (vi v3) (xl (isAgg3 _) hv4) (q0 (vp (some (p1.add 3))) ?_)
 obtain ⟨v4,hv3,h⟩:=h
 refine q2 (vu v4) (xl (isAgg23 _) hv3) (q0 (vp (some (p1.add 4))) ?_)
 obtain ⟨v5,hv2,h⟩:=h
 refine q2 (vs v5) (xl (isAgg9 _) hv2) (q0 (.agg #[(vi v1),(vi v2),(vi v3),(vu v4),(vs v5),(vi 0),(vi 0)]) ?_)
 obtain ⟨hp1,h⟩:=h
 refine ss (xo p2 [(vi v1),(vi v2),(vi v3),(vu v4),(vs v5),(vi 0),(vi 0)] (sizeOf127 _) hp1) ?_
 intro w3 hn1
 have h:=h w3 hn1
 refine ln (er ?_)
 obtain ⟨bU,bV,bW,bX,bY,bZ,cA,hv1,h⟩:=h
 refine uW (.inl rfl) (vs:=[(.agg #[(vi bU),(vi bV),(vi bW),(vu bX),(vs bY),(vi bZ),(vi cA)])]) (v:=(.agg #[(vi bU),(vi bV),(vi bW),(vu bX),(vs bY),(vi bZ),(vi cA)])) results183 ⟨(rva (isAgg127 _) (sizeOf127 _) hv1),trivial⟩ (by kernel_rfl) ?_
 exact ⟨bU,bV,bW,bX,bY,bZ,cA,rfl,h⟩
def m_D_j3 (p1 p2 p3:Addr) (x3:Bool) (w:World) (K:Bool→Bool→Bool→Bool→Int→Int→WP):Prop :=Br x3 (∃vfrom1 vto1:Bool,∃vnum1 vtext1:Bool,∃vkids1:Int,Row w p3 [(vb vfrom1),(vb vto1),(vb vnum1),(vb vtext1),(vi vkids1)]∧(∀j,j<5→CanW w (p2.add j))∧∀w6:World,w6=storeRow w p2 [(vb vfrom1),(vb vto1),(vb vnum1),(vb vtext1),(vi vkids1)]→∃qfrom1 qto1:Bool,∃qnum1 qtext1:Bool,∃qkids1:Int,Row w6 p2 [(vb qfrom1),(vb qto1),(vb qnum1),(vb qtext1),(vi qkids1)]∧K qfrom1 qto1 qnum1 qtext1 qkids1 53 w6) (∃v2:Bool,w.cell? (p3.add 3)=some (vb v2)∧Br (!v2) (∃v3:ByteArray,w.cell? (p1.add 4)=some (vs v3)∧Br (!(decide (v3=⟨#[]⟩))) (∃vfrom2 vto2:Bool,∃vnum2 vtext2:Bool,∃vkids2:Int,Row w p3 [(vb vfrom2),(vb vto2),(vb vnum2),(vb vtext2),(vi vkids2)]∧(∀j,j<5→CanW w (p2.add j))∧∀w7:World,w7=storeRow w p2 [(vb vfrom2),(vb vto2),(vb vnum2),(vb vtext2),(vi vkids2)]→∃qfrom2 qto2:Bool,∃qnum2 qtext2:Bool,∃qkids2:Int,Row w7 p2 [(vb qfrom2),(vb qto2),(vb qnum2),(vb qtext2),(vi qkids2)]∧K qfrom2 qto2 qnum2 qtext2 qkids2 53 w7) (∃vfrom3 vto3:Bool,∃vnum3 vtext3:Bool,∃vkids3:Int,Row w p3 [(vb vfrom3),(vb vto3),(vb vnum3),(vb vtext3),(vi vkids3)]∧(∀j,j<5→CanW w (p2.add j))∧∀w8:World,w8=storeRow w p2 [(vb vfrom3),(vb vto3),(vb vnum3),(vb vtext3),(vi vkids3)]→∃qfrom3 qto3:Bool,∃qnum3 qtext3:Bool,∃qkids3:Int,Row w8 p2 [(vb qfrom3),(vb qto3),(vb qnum3),(vb qtext3),(vi qkids3)]∧K qfrom3 qto3 qnum3 qtext3 qkids3 0 w8)) (∃vfrom4 vto4:Bool,∃vnum4 vtext4:Bool,∃vkids4:Int,Row w p3 [(vb vfrom4),(vb vto4),(vb vnum4),(vb vtext4),(vi vkids4)]∧(∀j,j<5→CanW w (p2.add j))∧∀w9:World,w9=storeRow w p2 [(vb vfrom4),(vb vto4),(vb vnum4),(vb vtext4),(vi vkids4)]→∃qfrom4 qto4:Bool,∃qnum4 qtext4:Bool,∃qkids4:Int,Row w9 p2 [(vb qfrom4),(vb qto4),(vb qnum4),(vb qtext4),(vi qkids4)]∧K qfrom4 qto4 qnum4 qtext4 qkids4 0 w9))
def m_D_j4 (p1 p2 p3:Addr) (x2 x4:Bool) (w:World) (K:Bool→Bool→Bool→Bool→Int→Int→WP):Prop :=Br x2 (m_D_j3 p1 p2 p3 true w K) (m_D_j3 p1 p2 p3 x4 w K)
def m_D_j2 (p1 p2 p3:Addr) (x2:Bool) (w:World) (K:Bool→Bool→Bool→Bool→Int→Int→WP):Prop :=Br x2 (m_D_j3 p1 p2 p3 true w K) (∃v4:Bool,w.cell? (p3.add 2)=some (vb v4)∧Br (!v4) (∃v5:Int,w.cell? (p1.add 3)=some (vu v5)∧m_D_j4 p1 p2 p3 x2 (v5 != 0) w K) (m_D_j4 p1 p2 p3 x2 false w K))
def m_D_j5 (p1 p2 p3:Addr) (x1 x5:Bool) (w:World) (K:Bool→Bool→Bool→Bool→Int→Int→WP):Prop :=Br x1 (m_D_j2 p1 p2 p3 true w K) (m_D_j2 p1 p2 p3 x5 w K)
def m_D_j1 (p1 p2 p3:Addr) (x1:Bool) (w:World) (K:Bool→Bool→Bool→Bool→Int→Int→WP):Prop :=Br x1 (m_D_j2 p1 p2 p3 true w K) (∃v6:Bool,w.cell? (p3.add 1)=some (vb v6)∧Br (!v6) (∃v7:Int,w.cell? (p1.add 2)=some (vi v7)∧m_D_j5 p1 p2 p3 x1 (v7 != 0) w K) (m_D_j5 p1 p2 p3 x1 false w K))
def m_D_j6 (p1 p2:Addr) (r1:Bool) (p3:Addr) (x6:Bool) (w:World) (K:Bool→Bool→Bool→Bool→Int→Int→WP):Prop :=Br (!r1) (m_D_j1 p1 p2 p3 true w K) (m_D_j1 p1 p2 p3 x6 w K)
def m_D (aH aI:Int) (aJ aK:Int) (aL:ByteArray) (aM aN:Int) (w:World) (K:Bool→Bool→Bool→Bool→Int→Int→WP):Prop :=∀(p1:Addr) (w1:World),New w (.cells #[(vi aH),(vi aI),(vi aJ),(vu aK),(vs aL),(vi aM),(vi aN)] 127) p1 w1→∀(p2:Addr) (w2:World),New w1 (.cells #[(vb false),(vb false),(vb false),(vb false),(vi 0)] 271) p2 w2→∃v1:Int,w2.cell? p1=some (vi v1)∧Calls prog 274 #[(vi v1)] w2 (fun e w3=>∃rfrom1 rto1:Bool,∃rnum1 rtext1:Bool,∃rkids1:Int,∃r1:Bool,e=.returned (.tuple #[(.agg #[(vb rfrom1),(vb rto1),(vb rnum1),(vb rtext1),(vi rkids1)]),(vb r1)])∧∀(p3:Addr) (w4:World),New w3 (.cells #[(vb false),(vb false),(vb false),(vb false),(vi 0)] 271) p3 w4→(∀j,j<5→CanW w4 (p3.add j))∧∀w5:World,w5=storeRow w4 p3 [(vb rfrom1),(vb rto1),(vb rnum1),(vb rtext1),(vi rkids1)]→Br (!r1) (m_D_j1 p1 p2 p3 true w5 K) (∃v8:Bool,w5.cell? p3=some (vb v8)∧Br (!v8) (∃v9:Int,w5.cell? (p1.add 1)=some (vi v9)∧m_D_j6 p1 p2 r1 p3 (v9 != 0) w5 K) (m_D_j6 p1 p2 r1 p3 false w5 K)))
theorem w_D (aH aI:Int) (aJ aK:Int) (aL:ByteArray) (aM aN:Int) (w:World) (K:Bool→Bool→Bool→Bool→Int→Int→WP) (h:m_D aH aI aJ aK aL aM aN w K) :
  Calls prog 184 #[(.agg #[(vi aH),(vi aI),(vi aJ),(vu aK),(vs aL),(vi aM),(vi aN)])] w (fun e w'=>∃rfrom2 rto2:Bool,∃rnum2 rtext2:Bool,∃rkids2 r2:Int,e=.returned (.tuple #[(.agg #[(vb rfrom2),(vb rto2),(vb rnum2),(vb rtext2),(vi rkids2)]),(vi r2)])∧K rfrom2 rto2 rnum2 rtext2 rkids2 r2 w'):=by
 unfold m_D at h
 refine cw (args:=[(.agg #[(vi aH),(vi aI),(vi aJ),(vu aK),(vs aL),(vi aM),(vi aN)])]) func184 ntmps184 (eg (sn (O:=(.cells #[(vi aH),(vi aI),(vi aJ),(vu aK),(vs aL),(vi aM),(vi aN)] 127)) xb ?_))
 intro p1 w1 hn8
 have h:=h p1 w1 hn8
 refine sn (O:=(.cells #[(vb false),(vb false),(vb false),(vb false),(vi 0)] 271)) (zO (zeroValue271 _) rfl) ?_
 intro p2 w2 hn7
 have h:=h p2 w2 hn7
 refine q0 (vi 0) (ln (eg (q0 (vp (some p1)) ?_)))
 obtain ⟨v1,hv17,h⟩:=h
 refine q2 (vi v1) (xl (isAgg3 _) hv17) ?_
 refine sc call274 (h.mono ?_)
 rintro e w3 ⟨rfrom1,rto1,rnum1,rtext1,rkids1,r1,rfl,h⟩
 refine ⟨_,rfl,?_⟩
 refine q0 (.tuple #[(.agg #[(vb rfrom1),(vb rto1),(vb rnum1),(vb rtext1),(vi rkids1)]),(vb r1)]) (q0 (.agg #[(vb rfrom1),(vb rto1),(vb rnum1),(vb rtext1),(vi rkids1)]) (q0 (vb r1) (sn (O:=(.cells #[(vb false),(vb false),(vb false),(vb false),(vi 0)] 271)) (zO (zeroValue271 _) rfl) ?_)))
 intro p3 w4 hn6
 have h:=h p3 w4 hn6
 obtain ⟨hp1,h⟩:=h
 refine ss (xo p3 [(vb rfrom1),(vb rto1),(vb rnum1),(vb rtext1),(vi rkids1)] (sizeOf271 _) hp1) ?_
 intro w5 hn1
 have h:=h w5 hn1
 refine q0 (vb r1) (ln (zA (eg (q0 (vb r1) (q0 (vb (!r1)) (q0 (vb (!r1)) ?_))))))
 refine zL 9 (fun ρ w=>∃x1:Bool,Has ρ [(1,(vp (some p1))),(2,(vp (some p2))),(4,(vp (some p3))),(23,(vb x1))]∧m_D_j1 p1 p2 p3 x1 w K) ?_ ?_
 rintro ρ w ⟨x1,hH,h⟩
 unfold m_D_j1 at h
 refine zU hH ?_
 refine q0 (vb x1) ?_
 refine zL 9 (fun ρ w=>∃x2:Bool,Has ρ [(1,(vp (some p1))),(2,(vp (some p2))),(4,(vp (some p3))),(33,(vb x2))]∧m_D_j2 p1 p2 p3 x2 w K) ?_ ?_
 rintro ρ w ⟨x2,hH,h⟩
 unfold m_D_j2 at h
 refine zU hH ?_
 refine q0 (vb x2) ?_
 refine zL 9 (fun ρ w=>∃x3:Bool,Has ρ [(1,(vp (some p1))),(2,(vp (some p2))),(4,(vp (some p3))),(43,(vb x3))]∧m_D_j3 p1 p2 p3 x3 w K) ?_ ?_
 rintro ρ w ⟨x3,hH,h⟩
 unfold m_D_j3 at h
 refine zU hH ?_
 refine q0 (vb x3) ?_
 rcases bte x3 with hg1 | hg1
 have h:=h.1 hg1
 refine sk (yD 44 hg1) (sk (yD 44 hg1) (sk (yD 44 hg1) (sk (yD 44 hg1) (sm (sm (sm (sk (yD 44 hg1) (q2 (vb true) (xT hg1) (ln (uQ (by kernel_rfl) ?_))))))))))
 refine eg ?_
 obtain ⟨vfrom1,vto1,vnum1,vtext1,vkids1,hv2,h⟩:=h
 refine q2 (.agg #[(vb vfrom1),(vb vto1),(vb vnum1),(vb vtext1),(vi vkids1)]) (xa p3 [(vb vfrom1),(vb vto1),(vb vnum1),(vb vtext1),(vi vkids1)] (isAgg271 _) (sizeOf271 _) hv2) ?_
 obtain ⟨hp2,h⟩:=h
 refine ss (xo p2 [(vb vfrom1),(vb vto1),(vb vnum1),(vb vtext1),(vi vkids1)] (sizeOf271 _) hp2) ?_
 intro w6 hn2
 have h:=h w6 hn2
 refine q0 (vi 53) (ln (er (vL ?_)))
 obtain ⟨qfrom1,qto1,qnum1,qtext1,qkids1,hv1,h⟩:=h
 refine uW (.inl rfl) (vs:=[(.agg #[(vb qfrom1),(vb qto1),(vb qnum1),(vb qtext1),(vi qkids1)]),(vi 53)]) (v:=(.tuple #[(.agg #[(vb qfrom1),(vb qto1),(vb qnum1),(vb qtext1),(vi qkids1)]),(vi 53)])) results184 ⟨(rva (isAgg271 _) (sizeOf271 _) hv1),(rvT (by kernel_rfl)),trivial⟩ (by kernel_rfl) ?_
 exact ⟨qfrom1,qto1,qnum1,qtext1,qkids1,53,rfl,h⟩
 have h:=h.2 hg1
 refine q1 (vp (some (p3.add 3))) (wy 44 hg1) ?_
 obtain ⟨v2,hv10,h⟩:=h
 refine stp (v:=(vb v2)) (wy 44 hg1) (xl (isAgg4 _) hv10) (q1 (vb (!v2)) (wy 44 hg1) (q1 (vb (!v2)) (wy 44 hg1) ?_))
 rcases bte (!v2) with hg2 | hg2
 have h:=h.1 hg2
 refine q1 (vp (some (p1.add 4))) (wy 48 hg2) ?_
 obtain ⟨v3,hv7,h⟩:=h
 refine stp (v:=(vs v3)) (wy 48 hg2) (xl (isAgg9 _) hv7) (stp (v:=(vb (!(decide (v3=⟨#[]⟩))))) (wy 48 hg2) (jGW (by kernel_rfl) (by kernel_rfl)) (stp (v:=(vb (!(decide (v3=⟨#[]⟩))))) (wy 44 hg1) (xT hg2) (q2 (vb (!(decide (v3=⟨#[]⟩)))) (xF hg1) (ln ?_))))
 refine zB (t:=(!(decide (v3=⟨#[]⟩)))) (by kernel_rfl) (fun hc1=>?_) (fun hc1=>?_)
 have h:=h.1 hc1
 refine eg ?_
 obtain ⟨vfrom2,vto2,vnum2,vtext2,vkids2,hv4,h⟩:=h
 refine q2 (.agg #[(vb vfrom2),(vb vto2),(vb vnum2),(vb vtext2),(vi vkids2)]) (xa p3 [(vb vfrom2),(vb vto2),(vb vnum2),(vb vtext2),(vi vkids2)] (isAgg271 _) (sizeOf271 _) hv4) ?_
 obtain ⟨hp3,h⟩:=h
 refine ss (xo p2 [(vb vfrom2),(vb vto2),(vb vnum2),(vb vtext2),(vi vkids2)] (sizeOf271 _) hp3) ?_
 intro w7 hn3
 have h:=h w7 hn3
 refine q0 (vi 53) (ln (er (vL ?_)))
 obtain ⟨qfrom2,qto2,qnum2,qtext2,qkids2,hv3,h⟩:=h
 refine uW (.inl rfl) (vs:=[(.agg #[(vb qfrom2),(vb qto2),(vb qnum2),(vb qtext2),(vi qkids2)]),(vi 53)]) (v:=(.tuple #[(.agg #[(vb qfrom2),(vb qto2),(vb qnum2),(vb qtext2),(vi qkids2)]),(vi 53)])) results184 ⟨(rva (isAgg271 _) (sizeOf271 _) hv3),(rvT (by kernel_rfl)),trivial⟩ (by kernel_rfl) ?_
 exact ⟨qfrom2,qto2,qnum2,qtext2,qkids2,53,rfl,h⟩
 have h:=h.2 hc1
 refine zC (zN (eg ?_))
 obtain ⟨vfrom3,vto3,vnum3,vtext3,vkids3,hv6,h⟩:=h
 refine q2 (.agg #[(vb vfrom3),(vb vto3),(vb vnum3),(vb vtext3),(vi vkids3)]) (xa p3 [(vb vfrom3),(vb vto3),(vb vnum3),(vb vtext3),(vi vkids3)] (isAgg271 _) (sizeOf271 _) hv6) ?_
 obtain ⟨hp4,h⟩:=h
 refine ss (xo p2 [(vb vfrom3),(vb vto3),(vb vnum3),(vb vtext3),(vi vkids3)] (sizeOf271 _) hp4) ?_
 intro w8 hn4
 have h:=h w8 hn4
 refine q0 (vi 0) (ln (er ?_))
 obtain ⟨qfrom3,qto3,qnum3,qtext3,qkids3,hv5,h⟩:=h
 refine uW (.inl rfl) (vs:=[(.agg #[(vb qfrom3),(vb qto3),(vb qnum3),(vb qtext3),(vi qkids3)]),(vi 0)]) (v:=(.tuple #[(.agg #[(vb qfrom3),(vb qto3),(vb qnum3),(vb qtext3),(vi qkids3)]),(vi 0)])) results184 ⟨(rva (isAgg271 _) (sizeOf271 _) hv5),(rvT (by kernel_rfl)),trivial⟩ (by kernel_rfl) ?_
 exact ⟨qfrom3,qto3,qnum3,qtext3,qkids3,0,rfl,h⟩
 have h:=h.2 hg2
 refine sk (yD 48 hg2) (sk (yD 48 hg2) (sk (yD 48 hg2) (stp (v:=(vb false)) (wy 44 hg1) (xF hg2) (q2 (vb false) (xF hg1) (ln (uR (by kernel_rfl) (zC (zN (eg ?_)))))))))
 obtain ⟨vfrom4,vto4,vnum4,vtext4,vkids4,hv9,h⟩:=h
 refine q2 (.agg #[(vb vfrom4),(vb vto4),(vb vnum4),(vb vtext4),(vi vkids4)]) (xa p3 [(vb vfrom4),(vb vto4),(vb vnum4),(vb vtext4),(vi vkids4)] (isAgg271 _) (sizeOf271 _) hv9) ?_
 obtain ⟨hp5,h⟩:=h
 refine ss (xo p2 [(vb vfrom4),(vb vto4),(vb vnum4),(vb vtext4),(vi vkids4)] (sizeOf271 _) hp5) ?_
 intro w9 hn5
 have h:=h w9 hn5
 refine q0 (vi 0) (ln (er ?_))
 obtain ⟨qfrom4,qto4,qnum4,qtext4,qkids4,hv8,h⟩:=h
 refine uW (.inl rfl) (vs:=[(.agg #[(vb qfrom4),(vb qto4),(vb qnum4),(vb qtext4),(vi qkids4)]),(vi 0)]) (v:=(.tuple #[(.agg #[(vb qfrom4),(vb qto4),(vb qnum4),(vb qtext4),(vi qkids4)]),(vi 0)])) results184 ⟨(rva (isAgg271 _) (sizeOf271 _) hv8),(rvT (by kernel_rfl)),trivial⟩ (by kernel_rfl) ?_
 exact ⟨qfrom4,qto4,qnum4,qtext4,qkids4,0,rfl,h⟩
 rcases bte x2 with hg3 | hg3
 have h:=h.1 hg3
 refine sk (yD 34 hg3) (sk (yD 34 hg3) (sk (yD 34 hg3) (sk (yD 34 hg3) (sm (sm (sm (sk (yD 34 hg3) (q2 (vb true) (xT hg3) (zD ?_)))))))))
 exact ⟨true,hm,h⟩
 have h:=h.2 hg3
 refine q1 (vp (some (p3.add 2))) (wy 34 hg3) ?_
 obtain ⟨v4,hv12,h⟩:=h
 refine stp (v:=(vb v4)) (wy 34 hg3) (xl (isAgg4 _) hv12) (q1 (vb (!v4)) (wy 34 hg3) (q1 (vb (!v4)) (wy 34 hg3) ?_))
 refine zL 4 (fun ρ w=>∃x4:Bool,Has ρ [(1,(vp (some p1))),(2,(vp (some p2))),(4,(vp (some p3))),(34,(vb x2)),(42,(vb x4))]∧m_D_j4 p1 p2 p3 x2 x4 w K) ?_ ?_
 rintro ρ w ⟨x4,hH,h⟩
 unfold m_D_j4 at h
 refine zU hH ?_
 rcases bte x2 with hg4 | hg4
 have h:=h.1 hg4
 refine q2 (vb true) (xT hg4) (zD ?_)
 exact ⟨true,hm,h⟩
 have h:=h.2 hg4
 refine q2 (vb x4) (xF hg4) (zD ?_)
 exact ⟨x4,hm,h⟩
 rcases bte (!v4) with hg5 | hg5
 have h:=h.1 hg5
 refine q1 (vp (some (p1.add 3))) (wy 38 hg5) ?_
 obtain ⟨v5,hv11,h⟩:=h
 refine stp (v:=(vu v5)) (wy 38 hg5) (xl (isAgg23 _) hv11) (q1 (vb (v5 != 0)) (wy 38 hg5) (stp (v:=(vb (v5 != 0))) (wy 34 hg3) (xT hg5) (zD ?_)))
 exact ⟨(v5 != 0),hm,h⟩
 have h:=h.2 hg5
 refine sk (yD 38 hg5) (sk (yD 38 hg5) (sk (yD 38 hg5) (stp (v:=(vb false)) (wy 34 hg3) (xF hg5) (zD ?_))))
 exact ⟨false,hm,h⟩
 rcases bte x1 with hg6 | hg6
 have h:=h.1 hg6
 refine sk (yD 24 hg6) (sk (yD 24 hg6) (sk (yD 24 hg6) (sk (yD 24 hg6) (sm (sm (sm (sk (yD 24 hg6) (q2 (vb true) (xT hg6) (zD ?_)))))))))
 exact ⟨true,hm,h⟩
 have h:=h.2 hg6
 refine q1 (vp (some (p3.add 1))) (wy 24 hg6) ?_
 obtain ⟨v6,hv14,h⟩:=h
 refine stp (v:=(vb v6)) (wy 24 hg6) (xl (isAgg4 _) hv14) (q1 (vb (!v6)) (wy 24 hg6) (q1 (vb (!v6)) (wy 24 hg6) ?_))
 refine zL 4 (fun ρ w=>∃x5:Bool,Has ρ [(1,(vp (some p1))),(2,(vp (some p2))),(4,(vp (some p3))),(24,(vb x1)),(32,(vb x5))]∧m_D_j5 p1 p2 p3 x1 x5 w K) ?_ ?_
 rintro ρ w ⟨x5,hH,h⟩
 unfold m_D_j5 at h
 refine zU hH ?_
 rcases bte x1 with hg7 | hg7
 have h:=h.1 hg7
 refine q2 (vb true) (xT hg7) (zD ?_)
 exact ⟨true,hm,h⟩
 have h:=h.2 hg7
 refine q2 (vb x5) (xF hg7) (zD ?_)
 exact ⟨x5,hm,h⟩
 rcases bte (!v6) with hg8 | hg8
 have h:=h.1 hg8
 refine q1 (vp (some (p1.add 2))) (wy 28 hg8) ?_
 obtain ⟨v7,hv13,h⟩:=h
 refine stp (v:=(vi v7)) (wy 28 hg8) (xl (isAgg3 _) hv13) (q1 (vb (v7 != 0)) (wy 28 hg8) (stp (v:=(vb (v7 != 0))) (wy 24 hg6) (xT hg8) (zD ?_)))
 exact ⟨(v7 != 0),hm,h⟩
 have h:=h.2 hg8
 refine sk (yD 28 hg8) (sk (yD 28 hg8) (sk (yD 28 hg8) (stp (v:=(vb false)) (wy 24 hg6) (xF hg8) (zD ?_))))
 exact ⟨false,hm,h⟩
 rcases bte (!r1) with hg9 | hg9
 have h:=h.1 hg9
 refine sk (yD 14 hg9) (sk (yD 14 hg9) (sk (yD 14 hg9) (sk (yD 14 hg9) (sm (sm (sm (sk (yD 14 hg9) (q2 (vb true) (xT hg9) (zD ?_)))))))))
 exact ⟨true,hm,h⟩
 have h:=h.2 hg9
 refine q1 (vp (some p3)) (wy 14 hg9) ?_
 obtain ⟨v8,hv16,h⟩:=h
 refine stp (v:=(vb v8)) (wy 14 hg9) (xl (isAgg4 _) hv16) (q1 (vb (!v8)) (wy 14 hg9) (q1 (vb (!v8)) (wy 14 hg9) ?_))
 refine zL 4 (fun ρ w=>∃x6:Bool,Has ρ [(1,(vp (some p1))),(2,(vp (some p2))),(4,(vp (some p3))),(14,(vb (!r1))),(22,(vb x6))]∧m_D_j6 p1 p2 r1 p3 x6 w K) ?_ ?_
 rintro ρ w ⟨x6,hH,h⟩
 unfold m_D_j6 at h
 refine zU hH ?_
 rcases bte (!r1) with hg10 | hg10
 have h:=h.1 hg10
 refine q2 (vb true) (xT hg10) (zD ?_)
 exact ⟨true,hm,h⟩
 have h:=h.2 hg10
 refine q2 (vb x6) (xF hg10) (zD ?_)
 exact ⟨x6,hm,h⟩
 rcases bte (!v8) with hg11 | hg11
 have h:=h.1 hg11
 refine q1 (vp (some (p1.add 1))) (wy 18 hg11) ?_
 obtain ⟨v9,hv15,h⟩:=h
 refine stp (v:=(vi v9)) (wy 18 hg11) (xl (isAgg3 _) hv15) (q1 (vb (v9 != 0)) (wy 18 hg11) (stp (v:=(vb (v9 != 0))) (wy 14 hg9) (xT hg11) (zD ?_)))
 exact ⟨(v9 != 0),hm,h⟩
 have h:=h.2 hg11
 refine sk (yD 18 hg11) (sk (yD 18 hg11) (sk (yD 18 hg11) (stp (v:=(vb false)) (wy 14 hg9) (xF hg11) (zD ?_))))
 exact ⟨false,hm,h⟩
def m_B1_j1 (p1 p2:Addr) (x1:Bool) (w:World) (K:Int→WP):Prop :=Br x1 (K 50 w) (∃v1:Bool,w.cell? (p1.add 1)=some (vb v1)∧Br v1 (∃v2:Int,w.cell? (p2.add 2)=some (vi v2)∧Calls prog 275 #[(vi v2)] w (fun e w3=>∃r1:Bool,e=.returned (vb r1)∧Br (!r1) (K 50 w3) (∃v3:Int,w3.cell? (p2.add 2)=some (vi v3)∧∃v4:Int,w3.cell? (p2.add 1)=some (vi v4)∧Br (v3 == v4) (K 50 w3) (∃v5:ByteArray,w3.cell? (p2.add 4)=some (vs v5)∧Br (decide ((v5.size:Int)>64)) (K 1 w3) (K 0 w3))))) (∃v6:ByteArray,w.cell? (p2.add 4)=some (vs v6)∧Br (decide ((v6.size:Int)>64)) (K 1 w) (K 0 w)))
def m_B1 (sfrom1 sto1:Bool) (snum1 stext1:Bool) (skids1 aH:Int) (aI aJ aK:Int) (aL:ByteArray) (aM aN:Int) (w:World) (K:Int→WP):Prop :=∀(p1:Addr) (w1:World),New w (.cells #[(vb sfrom1),(vb sto1),(vb snum1),(vb stext1),(vi skids1)] 271) p1 w1→∀(p2:Addr) (w2:World),New w1 (.cells #[(vi aH),(vi aI),(vi aJ),(vu aK),(vs aL),(vi aM),(vi aN)] 127) p2 w2→∃v7:Bool,w2.cell? p1=some (vb v7)∧Br v7 (∃v8:Int,w2.cell? (p2.add 1)=some (vi v8)∧Calls prog 275 #[(vi v8)] w2 (fun e w4=>∃r2:Bool,e=.returned (vb r2)∧m_B1_j1 p1 p2 (!r2) w4 K)) (m_B1_j1 p1 p2 false w2 K)
theorem w_B1 (sfrom1 sto1:Bool) (snum1 stext1:Bool) (skids1 aH:Int) (aI aJ aK:Int) (aL:ByteArray) (aM aN:Int) (w:World) (K:Int→WP) (h:m_B1 sfrom1 sto1 snum1 stext1 skids1 aH aI aJ aK aL aM aN w K) :
  Calls prog 185 #[(.agg #[(vb sfrom1),(vb sto1),(vb snum1),(vb stext1),(vi skids1)]),(.agg #[(vi aH),(vi aI),(vi aJ),(vu aK),(vs aL),(vi aM),(vi aN)])] w (fun e w'=>∃r3:Int,e=.returned (vi r3)∧K r3 w'):=by
 unfold m_B1 at h
 refine cw (args:=[(.agg #[(vb sfrom1),(vb sto1),(vb snum1),(vb stext1),(vi skids1)]),(.agg #[(vi aH),(vi aI),(vi aJ),(vu aK),(vs aL),(vi aM),(vi aN)])]) func185 ntmps185 (eg (sn (O:=(.cells #[(vb sfrom1),(vb sto1),(vb snum1),(vb stext1),(vi skids1)] 271)) xb ?_))
 intro p1 w1 hn2
 have h:=h p1 w1 hn2
 refine sn (O:=(.cells #[(vi aH),(vi aI),(vi aJ),(vu aK),(vs aL),(vi aM),(vi aN)] 127)) xb ?_
 intro p2 w2 hn1
 have h:=h p2 w2 hn1
 refine q0 (vi 0) (ln (zA (zQ (zA ?_))))
 refine jAC (fun ρ w=>∃x1:Bool,Has ρ [(2,(vp (some p1))),(3,(vp (some p2))),(5,(vb x1))]∧m_B1_j1 p1 p2 x1 w K) ?_ ?_
 rintro ρ w ⟨x1,hH,h⟩
 unfold m_B1_j1 at h
 refine vC hH ?_
 refine zB (t:=x1) (by kernel_rfl) (fun hc1=>?_) (fun hc1=>?_)
 have h:=h.1 hc1
 refine zC (zN (jAD (t:=x1) (by kernel_rfl) hc1 (eg (q0 (vi 50) (ln (er (uK (vL (rs1 results185 (v:=(vi 50)) ?_)))))))))
 exact ⟨50,rfl,h⟩
 have h:=h.2 hc1
 refine rg (q0 (vp (some (p1.add 1))) ?_)
 obtain ⟨v1,hv6,h⟩:=h
 refine q2 (vb v1) (xl (isAgg4 _) hv6) (q0 (vb v1) ?_)
 rcases bte v1 with hg1 | hg1
 have h:=h.1 hg1
 refine q1 (vp (some (p2.add 2))) (wy 16 hg1) ?_
 obtain ⟨v2,hv4,h⟩:=h
 refine stp (v:=(vi v2)) (wy 16 hg1) (xl (isAgg3 _) hv4) ?_
 refine vG (wy 16 hg1) (xc call275) (h.mono ?_)
 rintro e w3 ⟨r1,rfl,h⟩
 refine ⟨_,rfl,?_⟩
 refine q1 (vb (!r1)) (wy 16 hg1) (q1 (vb (!r1)) (wy 16 hg1) ?_)
 rcases bte (!r1) with hg2 | hg2
 have h:=h.1 hg2
 refine sk (yD 21 hg2) (sk (yD 21 hg2) (sk (yD 21 hg2) (sk (yD 21 hg2) (sk (yD 21 hg2) (stp (v:=(vb true)) (wy 16 hg1) (xT hg2) (q2 (vb true) (xT hg1) (q0 (vb true) (ln (uQ (by kernel_rfl) (zA ?_))))))))))
 refine rg (q0 (vi 50) (ln (er (uK (vL (rs1 results185 (v:=(vi 50)) ?_))))))
 exact ⟨50,rfl,h⟩
 have h:=h.2 hg2
 refine q1 (vp (some (p2.add 2))) (wy 21 hg2) ?_
 obtain ⟨v3,hv3,h⟩:=h
 refine stp (v:=(vi v3)) (wy 21 hg2) (xl (isAgg3 _) hv3) (q1 (vp (some (p2.add 1))) (wy 21 hg2) ?_)
 obtain ⟨v4,hv2,h⟩:=h
 refine stp (v:=(vi v4)) (wy 21 hg2) (xl (isAgg3 _) hv2) (q1 (vb (v3 == v4)) (wy 21 hg2) (stp (v:=(vb (v3 == v4))) (wy 16 hg1) (xF hg2) (q2 (vb (v3 == v4)) (xT hg1) (q0 (vb (v3 == v4)) (ln ?_)))))
 refine zB (t:=(v3 == v4)) (by kernel_rfl) (fun hc2=>?_) (fun hc2=>?_)
 have h:=h.1 hc2
 refine eg (q0 (vi 50) (ln (er (uK (vL (rs1 results185 (v:=(vi 50)) ?_))))))
 exact ⟨50,rfl,h⟩
 have h:=h.2 hc2
 refine eg (q0 (vp (some (p2.add 4))) ?_)
 obtain ⟨v5,hv1,h⟩:=h
 refine q2 (vs v5) (xl (isAgg9 _) hv1) (q0 (vi (v5.size:Int)) (q0 (vb (decide ((v5.size:Int)>64))) (q0 (vb (decide ((v5.size:Int)>64))) (ln ?_))))
 refine zB (t:=(decide ((v5.size:Int)>64))) (by kernel_rfl) (fun hc3=>?_) (fun hc3=>?_)
 have h:=h.1 hc3
 refine eg (q0 (vi 1) (ln (er (uK (vL (rs1 results185 (v:=(vi 1)) ?_))))))
 exact ⟨1,rfl,h⟩
 have h:=h.2 hc3
 refine zC (tJ (zN (eg (q0 (vi 0) (ln (er (rs1 results185 (v:=(vi 0)) ?_)))))))
 exact ⟨0,rfl,h⟩
 have h:=h.2 hg1
 refine sk (yD 16 hg1) (sk (yD 16 hg1) (sk (yD 16 hg1) (sk (yD 16 hg1) (sk (yD 16 hg1) (sm (sm (sm (sm (sm (sk (yD 16 hg1) (q2 (vb false) (xF hg1) ?_)))))))))))
 refine q0 (vb false) (ln (uR (by kernel_rfl) (eg (q0 (vp (some (p2.add 4))) ?_))))
 obtain ⟨v6,hv5,h⟩:=h
 refine q2 (vs v6) (xl (isAgg9 _) hv5) (q0 (vi (v6.size:Int)) (q0 (vb (decide ((v6.size:Int)>64))) (q0 (vb (decide ((v6.size:Int)>64))) (ln ?_))))
 refine zB (t:=(decide ((v6.size:Int)>64))) (by kernel_rfl) (fun hc4=>?_) (fun hc4=>?_)
 have h:=h.1 hc4
 refine eg (q0 (vi 1) (ln (er (uK (vL (rs1 results185 (v:=(vi 1)) ?_))))))
 exact ⟨1,rfl,h⟩
 have h:=h.2 hc4
 refine zC (tJ (zN (eg (q0 (vi 0) (ln (er (rs1 results185 (v:=(vi 0)) ?_)))))))
 exact ⟨0,rfl,h⟩
 refine rg (q0 (vp (some p1)) ?_)
 obtain ⟨v7,hv8,h⟩:=h
 refine q2 (vb v7) (xl (isAgg4 _) hv8) (q0 (vb v7) ?_)
 rcases bte v7 with hg3 | hg3
 have h:=h.1 hg3
 refine q1 (vp (some (p2.add 1))) (wy 8 hg3) ?_
 obtain ⟨v8,hv7,h⟩:=h
 refine stp (v:=(vi v8)) (wy 8 hg3) (xl (isAgg3 _) hv7) ?_
 refine vG (wy 8 hg3) (xc call275) (h.mono ?_)
 rintro e w4 ⟨r2,rfl,h⟩
 refine ⟨_,rfl,?_⟩
 refine q1 (vb (!r2)) (wy 8 hg3) (q2 (vb (!r2)) (xT hg3) (q0 (vb (!r2)) (ln ?_)))
 exact ⟨(!r2),hm,h⟩
 have h:=h.2 hg3
 refine sk (yD 8 hg3) (sk (yD 8 hg3) (sk (yD 8 hg3) (sk (yD 8 hg3) (q2 (vb false) (xF hg3) (q0 (vb false) (ln ?_))))))
 exact ⟨false,hm,h⟩
def m_Q3 (p1:Option Addr) (t1:Int) (w:World) (K:Sl→WP):Prop :=∀(p2:Addr) (w1:World),New w (.cells #[(vp p1)] 91) p2 w1→∀(p3:Addr) (w2:World),New w1 (.cells #[Sl.nil.v] 54) p3 w2→∀(p4:Addr) (w3:World),New w2 (.map #[] 0) p4 w3→∀(p5:Addr) (w4:World),New w3 (.cells #[(.map none)] 245) p5 w4→CanW w4 p5∧∀w5:World,w5=w4.setCell p5 (.map (some p4.block))→∀(p6:Addr) (w6:World),New w5 (.cells #[(.nilFunc:Value)] 202) p6 w6→CanW w6 p6∧∀w7:World,w7=w6.setCell p6 (.func (.func 276) #[] #[(vp (some p5)),(vp (some p2)),(vp (some p6)),(vp (some p3))])→∃v1:Option Addr,w7.cell? p2=some (vp v1)∧Calls prog 138 #[(vp v1),(vi t1)] w7 (fun e w8=>∃r1:Bool,e=.returned (vb r1)∧Br r1 (∃v2:Value,w8.cell? p6=some v2∧∃(f1:FuncId) (fs1 cs1:Array Value),v2=.func (.func f1) fs1 cs1∧(∀args w,(callFunc f1 args).run prog w=.ok (.enter f1 args) w)∧Calls prog f1 (fs1++#[(vi t1)]++cs1) w8 (fun e w9=>e=.returned (.tuple #[])∧∃v3:Sl,w9.cell? p3=some v3.v∧K v3 w9)) (∃v4:Sl,w8.cell? p3=some v4.v∧K v4 w8))
theorem w_Q3 (p1:Option Addr) (t1:Int) (w:World) (K:Sl→WP) (h:m_Q3 p1 t1 w K) :
  Calls prog 187 #[(vp p1),(vi t1)] w (fun e w'=>∃r2:Sl,e=.returned r2.v∧K r2 w'):=by
 unfold m_Q3 at h
 refine cw (args:=[(vp p1),(vi t1)]) func187 ntmps187 (eg (sn (O:=(.cells #[(vp p1)] 91)) xb ?_))
 intro p2 w1 hn7
 have h:=h p2 w1 hn7
 refine q0 Sl.nil.v (ln (eg (sn (O:=(.cells #[Sl.nil.v] 54)) (zO (zeroValue54 _) rfl) ?_)))
 intro p3 w2 hn6
 have h:=h p3 w2 hn6
 refine ln (eg (vR (O:=(.map #[] 0)) (fun p=>.map (some p.block)) (zJ rfl) (by kernel_rfl) ?_))
 intro p4 w3 hn5
 have h:=h p4 w3 hn5
 refine sn (O:=(.cells #[(.map none)] 245)) (zO (zeroValue245 _) rfl) ?_
 intro p5 w4 hn4
 have h:=h p5 w4 hn4
 obtain ⟨hp1,h⟩:=h
 refine ss (zT (a:=p5) (v:=(.map (some p4.block))) (by kernel_rfl) (by kernel_rfl) rfl (sizeOf245 _) hp1) ?_
 intro w5 hn1
 have h:=h w5 hn1
 refine ln (eg (sn (O:=(.cells #[(.nilFunc:Value)] 202)) (zO (zeroValue202 _) rfl) ?_))
 intro p6 w6 hn3
 have h:=h p6 w6 hn3
 refine ln (eg (q0 (.func (.func 276) #[] #[(vp (some p5)),(vp (some p2)),(vp (some p6)),(vp (some p3))]) ?_))
 obtain ⟨hp2,h⟩:=h
 refine ss (zT (a:=p6) (v:=(.func (.func 276) #[] #[(vp (some p5)),(vp (some p2)),(vp (some p6)),(vp (some p3))])) (by kernel_rfl) (by kernel_rfl) rfl (sizeOf202 _) hp2) ?_
 intro w7 hn2
 have h:=h w7 hn2
 refine ln (zA (eg ?_))
 obtain ⟨v1,hv4,h⟩:=h
 refine q2 (vp v1) (xl (isAgg91 _) hv4) (q0 (vi t1) ?_)
 refine sc call138 (h.mono ?_)
 rintro e w8 ⟨r1,rfl,h⟩
 refine ⟨_,rfl,?_⟩
 refine ln ?_
 refine zB (t:=r1) (by kernel_rfl) (fun hc1=>?_) (fun hc1=>?_)
 have h:=h.1 hc1
 refine rg ?_
 obtain ⟨v2,hv2,h⟩:=h
 refine q2 v2 (xl (isAgg202 _) hv2) (q0 (vi t1) ?_)
 obtain ⟨f1,fs1,cs1,hp3,h⟩:=h
 obtain ⟨hf1,h⟩:=h
 refine vG (zJ rfl) (lB (fs:=fs1) (caps:=cs1) (args:=#[(vi t1)]) (by kernel_rfl) hp3 hf1 (by kernel_rfl) rfl) (h.mono ?_)
 rintro e w9 ⟨rfl,h⟩
 refine ⟨_,rfl,?_⟩
 refine ln (eg ?_)
 obtain ⟨v3,hv1,h⟩:=h
 refine q2 v3.v (xl (isAgg54 _) hv1) (q0 v3.v (ln (er (rs1 results187 (v:=v3.v) ?_))))
 exact ⟨v3,rfl,h⟩
 have h:=h.2 hc1
 refine zC (zN (eg ?_))
 obtain ⟨v4,hv3,h⟩:=h
 refine q2 v4.v (xl (isAgg54 _) hv3) (q0 v4.v (ln (er (rs1 results187 (v:=v4.v) ?_))))
 exact ⟨v4,rfl,h⟩
def m_R3 (p1:Option Addr) (t1:Int) (w:World) (K:Int→WP):Prop :=Calls prog 138 #[(vp p1),(vi t1)] w (fun e w1=>∃r1:Bool,e=.returned (vb r1)∧Br (!r1) (K 0 w1) (∃a1:Addr,p1=some a1∧∃v1:Sl,w1.cell? a1=some v1.v∧∃a2:Addr,At v1 (q6.wrap (t1 - 1)) 9 a2∧∃v2:Int,w1.cell? (a2.add 7)=some (vi v2)∧K v2 w1))
theorem w_R3 (p1:Option Addr) (t1:Int) (w:World) (K:Int→WP) (h:m_R3 p1 t1 w K) :
  Calls prog 238 #[(vp p1),(vi t1)] w (fun e w'=>∃r2:Int,e=.returned (vi r2)∧K r2 w'):=by
 unfold m_R3 at h
 refine cw (args:=[(vp p1),(vi t1)]) func238 ntmps238 (eg (q0 (vi 0) (ln (zA (eg (q0 (vp p1) (q0 (vi t1) ?_)))))))
 refine sc call138 (h.mono ?_)
 rintro e w1 ⟨r1,rfl,h⟩
 refine ⟨_,rfl,?_⟩
 refine q0 (vb (!r1)) (ln ?_)
 refine zB (t:=(!r1)) (by kernel_rfl) (fun hc1=>?_) (fun hc1=>?_)
 have h:=h.1 hc1
 refine eg (q0 (vi 0) (ln (er (vL (rs1 results238 (v:=(vi 0)) ?_)))))
 exact ⟨0,rfl,h⟩
 have h:=h.2 hc1
 refine zC (zN (eg (q0 (vp p1) ?_)))
 obtain ⟨a1,hp1,h⟩:=h
 refine q2 (vp (some a1)) (xn hp1) (q0 (vp (some a1)) ?_)
 obtain ⟨v1,hv3,h⟩:=h
 refine q2 v1.v (xl (isAgg160 _) hv3) (q0 (vi t1) (q0 (vi (q6.wrap (t1 - 1))) ?_))
 obtain ⟨a2,hv2,h⟩:=h
 refine q2 (vp (some a2)) (xi (runUnderlying160 _) (sizeOf234 _) hv2) (q0 (vp (some (a2.add 7))) ?_)
 obtain ⟨v2,hv1,h⟩:=h
 refine q2 (vi v2) (xl (isAgg3 _) hv1) (q0 (vi v2) (ln (er (rs1 results238 (v:=(vi v2)) ?_))))
 exact ⟨v2,rfl,h⟩
def m_S3 (p1:Option Addr) (t1:Int) (w:World) (K:Int→WP):Prop :=Calls prog 138 #[(vp p1),(vi t1)] w (fun e w1=>∃r1:Bool,e=.returned (vb r1)∧Br (!r1) (K 0 w1) (∃a1:Addr,p1=some a1∧∃v1:Sl,w1.cell? a1=some v1.v∧∃a2:Addr,At v1 (q6.wrap (t1 - 1)) 9 a2∧∃v2:Int,w1.cell? (a2.add 8)=some (vi v2)∧K v2 w1))
theorem w_S3 (p1:Option Addr) (t1:Int) (w:World) (K:Int→WP) (h:m_S3 p1 t1 w K) :
  Calls prog 239 #[(vp p1),(vi t1)] w (fun e w'=>∃r2:Int,e=.returned (vi r2)∧K r2 w'):=by
 unfold m_S3 at h
 refine cw (args:=[(vp p1),(vi t1)]) func239 ntmps239 (eg (q0 (vi 0) (ln (zA (eg (q0 (vp p1) (q0 (vi t1) ?_)))))))
 refine sc call138 (h.mono ?_)
 rintro e w1 ⟨r1,rfl,h⟩
 refine ⟨_,rfl,?_⟩
 refine q0 (vb (!r1)) (ln ?_)
 refine zB (t:=(!r1)) (by kernel_rfl) (fun hc1=>?_) (fun hc1=>?_)
 have h:=h.1 hc1
 refine eg (q0 (vi 0) (ln (er (vL (rs1 results239 (v:=(vi 0)) ?_)))))
 exact ⟨0,rfl,h⟩
 have h:=h.2 hc1
 refine zC (zN (eg (q0 (vp p1) ?_)))
 obtain ⟨a1,hp1,h⟩:=h
 refine q2 (vp (some a1)) (xn hp1) (q0 (vp (some a1)) ?_)
 obtain ⟨v1,hv3,h⟩:=h
 refine q2 v1.v (xl (isAgg160 _) hv3) (q0 (vi t1) (q0 (vi (q6.wrap (t1 - 1))) ?_))
 obtain ⟨a2,hv2,h⟩:=h
 refine q2 (vp (some a2)) (xi (runUnderlying160 _) (sizeOf234 _) hv2) (q0 (vp (some (a2.add 8))) ?_)
 obtain ⟨v2,hv1,h⟩:=h
 refine q2 (vi v2) (xl (isAgg3 _) hv1) (q0 (vi v2) (ln (er (rs1 results239 (v:=(vi v2)) ?_))))
 exact ⟨v2,rfl,h⟩
def m_T3 (kind1:Int) (w:World) (K:Bool→Bool→Bool→Bool→Int→Bool→WP):Prop :=∀(p1:Addr) (w1:World),New w (.cells #[(vb false),(vb false),(vb false),(vb false),(vi 0)] 271) p1 w1→Br (decide (kind1<1)) ((∀j,j<5→CanW w1 (p1.add j))∧∀w2:World,w2=storeRow w1 p1 [(vb false),(vb false),(vb false),(vb false),(vi 0)]→∃qfrom1 qto1:Bool,∃qnum1 qtext1:Bool,∃qkids1:Int,Row w2 p1 [(vb qfrom1),(vb qto1),(vb qnum1),(vb qtext1),(vi qkids1)]∧K qfrom1 qto1 qnum1 qtext1 qkids1 false w2) (Br (decide (kind1>9)) ((∀j,j<5→CanW w1 (p1.add j))∧∀w3:World,w3=storeRow w1 p1 [(vb false),(vb false),(vb false),(vb false),(vi 0)]→∃qfrom2 qto2:Bool,∃qnum2 qtext2:Bool,∃qkids2:Int,Row w3 p1 [(vb qfrom2),(vb qto2),(vb qnum2),(vb qtext2),(vi qkids2)]∧K qfrom2 qto2 qnum2 qtext2 qkids2 false w3) (Calls prog 298 #[] w1 (fun e w4=>∃r1:Array Value,e=.returned (.agg r1)∧∃efrom1 eto1:Bool,∃enum1 etext1:Bool,∃ekids1:Int,(Instr.index 337 (.agg r1) (vi kind1)).run prog w4=.ok (.agg #[(vb efrom1),(vb eto1),(vb enum1),(vb etext1),(vi ekids1)]) w4∧(∀j,j<5→CanW w4 (p1.add j))∧∀w5:World,w5=storeRow w4 p1 [(vb efrom1),(vb eto1),(vb enum1),(vb etext1),(vi ekids1)]→∃qfrom3 qto3:Bool,∃qnum3 qtext3:Bool,∃qkids3:Int,Row w5 p1 [(vb qfrom3),(vb qto3),(vb qnum3),(vb qtext3),(vi qkids3)]∧K qfrom3 qto3 qnum3 qtext3 qkids3 true w5)))
theorem w_T3 (kind1:Int) (w:World) (K:Bool→Bool→Bool→Bool→Int→Bool→WP) (h:m_T3 kind1 w K) :
  Calls prog 274 #[(vi kind1)] w (fun e w'=>∃rfrom1 rto1:Bool,∃rnum1 rtext1:Bool,∃rkids1:Int,∃r2:Bool,e=.returned (.tuple #[(.agg #[(vb rfrom1),(vb rto1),(vb rnum1),(vb rtext1),(vi rkids1)]),(vb r2)])∧K rfrom1 rto1 rnum1 rtext1 rkids1 r2 w'):=by
 unfold m_T3 at h
 refine cw (args:=[(vi kind1)]) func274 ntmps274 (eg (sn (O:=(.cells #[(vb false),(vb false),(vb false),(vb false),(vi 0)] 271)) (zO (zeroValue271 _) rfl) ?_))
 intro p1 w1 hn4
 have h:=h p1 w1 hn4
 refine q0 (vb false) (ln (zA (eg (q0 (vi kind1) (q0 (vb (decide (kind1<1))) (q0 (vb (decide (kind1<1))) ?_))))))
 rcases bte (decide (kind1<1)) with hg1 | hg1
 have h:=h.1 hg1
 refine sk (yD 6 hg1) (sk (yD 6 hg1) (q2 (vb true) (xT hg1) (ln (uQ (by kernel_rfl) (eg (q0 (.agg #[(vb false),(vb false),(vb false),(vb false),(vi 0)]) ?_))))))
 obtain ⟨hp1,h⟩:=h
 refine ss (xo p1 [(vb false),(vb false),(vb false),(vb false),(vi 0)] (sizeOf271 _) hp1) ?_
 intro w2 hn1
 have h:=h w2 hn1
 refine q0 (vb false) (ln (er (vL ?_)))
 obtain ⟨qfrom1,qto1,qnum1,qtext1,qkids1,hv1,h⟩:=h
 refine uW (.inl rfl) (vs:=[(.agg #[(vb qfrom1),(vb qto1),(vb qnum1),(vb qtext1),(vi qkids1)]),(vb false)]) (v:=(.tuple #[(.agg #[(vb qfrom1),(vb qto1),(vb qnum1),(vb qtext1),(vi qkids1)]),(vb false)])) results274 ⟨(rva (isAgg271 _) (sizeOf271 _) hv1),(rvT (by kernel_rfl)),trivial⟩ (by kernel_rfl) ?_
 exact ⟨qfrom1,qto1,qnum1,qtext1,qkids1,false,rfl,h⟩
 have h:=h.2 hg1
 refine q1 (vi kind1) (wy 6 hg1) (q1 (vb (decide (kind1>9))) (wy 6 hg1) (q2 (vb (decide (kind1>9))) (xF hg1) (ln ?_)))
 refine zB (t:=(decide (kind1>9))) (by kernel_rfl) (fun hc1=>?_) (fun hc1=>?_)
 have h:=h.1 hc1
 refine eg (q0 (.agg #[(vb false),(vb false),(vb false),(vb false),(vi 0)]) ?_)
 obtain ⟨hp2,h⟩:=h
 refine ss (xo p1 [(vb false),(vb false),(vb false),(vb false),(vi 0)] (sizeOf271 _) hp2) ?_
 intro w3 hn2
 have h:=h w3 hn2
 refine q0 (vb false) (ln (er (vL ?_)))
 obtain ⟨qfrom2,qto2,qnum2,qtext2,qkids2,hv2,h⟩:=h
 refine uW (.inl rfl) (vs:=[(.agg #[(vb qfrom2),(vb qto2),(vb qnum2),(vb qtext2),(vi qkids2)]),(vb false)]) (v:=(.tuple #[(.agg #[(vb qfrom2),(vb qto2),(vb qnum2),(vb qtext2),(vi qkids2)]),(vb false)])) results274 ⟨(rva (isAgg271 _) (sizeOf271 _) hv2),(rvT (by kernel_rfl)),trivial⟩ (by kernel_rfl) ?_
 exact ⟨qfrom2,qto2,qnum2,qtext2,qkids2,false,rfl,h⟩
 have h:=h.2 hc1
 refine zC (zN (eg ?_))
 refine sc call298 (h.mono ?_)
 rintro e w4 ⟨r1,rfl,h⟩
 refine ⟨_,rfl,?_⟩
 refine q0 (vi kind1) ?_
 obtain ⟨efrom1,eto1,enum1,etext1,ekids1,hv4,h⟩:=h
 refine q2 (.agg #[(vb efrom1),(vb eto1),(vb enum1),(vb etext1),(vi ekids1)]) (jKU (by kernel_rfl) (by kernel_rfl) hv4) ?_
 obtain ⟨hp3,h⟩:=h
 refine ss (xo p1 [(vb efrom1),(vb eto1),(vb enum1),(vb etext1),(vi ekids1)] (sizeOf271 _) hp3) ?_
 intro w5 hn3
 have h:=h w5 hn3
 refine q0 (vb true) (ln (er ?_))
 obtain ⟨qfrom3,qto3,qnum3,qtext3,qkids3,hv3,h⟩:=h
 refine uW (.inl rfl) (vs:=[(.agg #[(vb qfrom3),(vb qto3),(vb qnum3),(vb qtext3),(vi qkids3)]),(vb true)]) (v:=(.tuple #[(.agg #[(vb qfrom3),(vb qto3),(vb qnum3),(vb qtext3),(vi qkids3)]),(vb true)])) results274 ⟨(rva (isAgg271 _) (sizeOf271 _) hv3),(rvT (by kernel_rfl)),trivial⟩ (by kernel_rfl) ?_
 exact ⟨qfrom3,qto3,qnum3,qtext3,qkids3,true,rfl,h⟩
def m_U3 (n1:Int) (w:World) (K:Bool→WP):Prop :=Br (decide (n1≥0)) (K (decide (n1<16)) w) (K false w)
theorem w_U3 (n1:Int) (w:World) (K:Bool→WP) (h:m_U3 n1 w K) :
  Calls prog 275 #[(vi n1)] w (fun e w'=>∃r1:Bool,e=.returned (vb r1)∧K r1 w'):=by
 unfold m_U3 at h
 refine cw (args:=[(vi n1)]) func275 ntmps275 (eg (q0 (vb false) (ln (eg (q0 (vi n1) (q0 (vb (decide (n1≥0))) (q0 (vb (decide (n1≥0))) ?_)))))))
 rcases bte (decide (n1≥0)) with hg1 | hg1
 have h:=h.1 hg1
 refine q1 (vi n1) (wy 5 hg1) (q1 (vb (decide (n1<16))) (wy 5 hg1) (q2 (vb (decide (n1<16))) (xT hg1) (q0 (vb (decide (n1<16))) (ln (er (rs1 results275 (v:=(vb (decide (n1<16)))) ?_))))))
 exact ⟨(decide (n1<16)),rfl,h⟩
 have h:=h.2 hg1
 refine sk (yD 5 hg1) (sk (yD 5 hg1) (q2 (vb false) (xF hg1) (q0 (vb false) (ln (er (rs1 results275 (v:=(vb false)) ?_))))))
 exact ⟨false,rfl,h⟩
def m_J1_l1 (t1:Int) (cap3 cap4:Addr) (r1:Sl) (x1:Int) (wl1:World) (Kc1:Int→WP) (K:WP):Prop :=Br (decide (x1<(r1.len:Int))) (∃a1:Addr,At r1 x1 1 a1∧∃v6:Int,wl1.cell? a1=some (vi v6)∧∃v7:Value,wl1.cell? cap3=some v7∧∃(f1:FuncId) (fs1 cs1:Array Value),v7=.func (.func f1) fs1 cs1∧(∀args w,(callFunc f1 args).run prog w=.ok (.enter f1 args) w)∧Calls prog f1 (fs1++#[(vi v6)]++cs1) wl1 (fun e w3=>e=.returned (.tuple #[])∧Kc1 (q6.wrap (x1+1)) w3)) (∃v8:Sl,wl1.cell? cap4=some v8.v∧∀(p1:Addr) (w4:World),New wl1 (.cells #[(vi t1)] 78) p1 w4→∃s1:Sl,∃w5:World,(Builtin.append_ #[54,54] 54 #[v8.v,(Sl.mk (some p1) 1 1).v]).run prog w4=.ok s1.v w5∧CanW w5 cap4∧∀w6:World,w6=w5.setCell cap4 s1.v→K w6)
def m_J1 (t1:Int) (cap1 cap2:Addr) (cap3 cap4:Addr) (w:World) (K:WP):Prop :=∃v1:Option Nat,w.cell? cap1=some (.map v1)∧∃v2:Int,(Instr.lookup 245 (.map v1) (vi t1) false).run prog w=.ok (vi v2) w∧Br (decide (v2>0)) (K w) (∃v3:Option Nat,w.cell? cap1=some (.map v3)∧∃v4:Int,(Instr.lookup 245 (.map v3) (vi t1) false).run prog w=.ok (vi v4) w∧∃w1:World,(Instr.mapUpdate 245 (.map v3) (vi t1) (vi (q6.wrap (v4+1)))).run prog w=.ok () w1∧∃v5:Option Addr,w1.cell? cap2=some (vp v5)∧Calls prog 277 #[(vp v5),(vi t1)] w1 (fun e w2=>∃r1:Sl,e=.returned r1.v∧∃(I1:Int→WP) (mu1:Int→World→Nat),I1 0 w2∧∀(x1:Int) (wl1:World),I1 x1 wl1→m_J1_l1 t1 cap3 cap4 r1 x1 wl1 (fun y'0 w'=>I1 y'0 w'∧mu1 y'0 w'<mu1 x1 wl1) K))
theorem w_J1 (t1:Int) (cap1 cap2:Addr) (cap3 cap4:Addr) (w:World) (K:WP) (h:m_J1 t1 cap1 cap2 cap3 cap4 w K) :
  Calls prog 276 #[(vi t1),(vp (some cap1)),(vp (some cap2)),(vp (some cap3)),(vp (some cap4))] w (fun e w'=>e=.returned (.tuple #[])∧K  w'):=by
 unfold m_J1 at h
 refine cw (args:=[(vi t1),(vp (some cap1)),(vp (some cap2)),(vp (some cap3)),(vp (some cap4))]) func276 ntmps276 (zA (eg ?_))
 obtain ⟨v1,hv11,h⟩:=h
 refine q2 (.map v1) (xl (isAgg245 _) hv11) (q0 (vi t1) ?_)
 obtain ⟨v2,hv10,h⟩:=h
 refine q2 (vi v2) (qT (by kernel_rfl) (by kernel_rfl) hv10) (q0 (vb (decide (v2>0))) (ln ?_))
 refine zB (t:=(decide (v2>0))) (by kernel_rfl) (fun hc1=>?_) (fun hc1=>?_)
 have h:=h.1 hc1
 refine er (vL (jFP (.inl rfl) results276 ?_))
 exact ⟨rfl,h⟩
 have h:=h.2 hc1
 refine zC (zN (eg ?_))
 obtain ⟨v3,hv9,h⟩:=h
 refine q2 (.map v3) (xl (isAgg245 _) hv9) (q0 (vi t1) ?_)
 obtain ⟨v4,hv8,h⟩:=h
 refine q2 (vi v4) (qT (by kernel_rfl) (by kernel_rfl) hv8) (q0 (vi (q6.wrap (v4+1))) ?_)
 obtain ⟨w1,hv7,h⟩:=h
 refine yZ (zJ rfl) (yT (by kernel_rfl) (by kernel_rfl) (by kernel_rfl) hv7) (ln (zA (eg ?_)))
 obtain ⟨v5,hv6,h⟩:=h
 refine q2 (vp v5) (xl (isAgg91 _) hv6) (q0 (vi t1) ?_)
 refine sc call277 (h.mono ?_)
 rintro e w2 ⟨r1,rfl,h⟩
 refine ⟨_,rfl,?_⟩
 refine q0 (vi (r1.len:Int)) (q0 (vi 0) (ln (zQ ?_)))
 obtain ⟨I1,mu1,h0,hr⟩:=h
 refine qI (σ:=Int×World) (fun s ρ w=>w=s.2∧Has ρ [(0,(vi t1)),(3,(vp (some cap3))),(4,(vp (some cap4))),(18,r1.v),(19,(vi (r1.len:Int))),(20,(vi s.1))]∧I1 s.1 s.2) (fun s=>mu1 s.1 s.2) (0,w2) ⟨rfl,hm,h0⟩ ?_
 rintro ⟨x1,wl1⟩ ρ w ⟨hw,hH,hI⟩
 obtain rfl:wl1=w:=(show w=wl1 from hw).symm
 have hH:Has ρ [(0,(vi t1)),(3,(vp (some cap3))),(4,(vp (some cap4))),(18,r1.v),(19,(vi (r1.len:Int))),(20,(vi x1))]:=hH
 have h:=hr x1 wl1 hI
 unfold m_J1_l1 at h
 refine vC hH ?_
 refine eg (q0 (vb (decide (x1<(r1.len:Int)))) (ln (zA ?_)))
 refine zB (t:=(decide (x1<(r1.len:Int)))) (by kernel_rfl) (fun hc2=>?_) (fun hc2=>?_)
 have h:=h.1 hc2
 refine zC (zN (zA (zQ (eg ?_))))
 obtain ⟨a1,hv3,h⟩:=h
 refine q2 (vp (some a1)) (xi (runUnderlying54 _) (sizeOf78 _) hv3) ?_
 obtain ⟨v6,hv2,h⟩:=h
 refine q2 (vi v6) (xl (isAgg78 _) hv2) (q0 (vi v6) (ln (rg ?_)))
 obtain ⟨v7,hv1,h⟩:=h
 refine q2 v7 (xl (isAgg202 _) hv1) (q0 (vi v6) ?_)
 obtain ⟨f1,fs1,cs1,hp1,h⟩:=h
 obtain ⟨hf1,h⟩:=h
 refine vG (zJ rfl) (lB (fs:=fs1) (caps:=cs1) (args:=#[(vi v6)]) (by kernel_rfl) hp1 hf1 (by kernel_rfl) rfl) (h.mono ?_)
 rintro e w3 ⟨rfl,h⟩
 refine ⟨_,rfl,?_⟩
 refine zD (tJ (zN (rg (q0 (vi (q6.wrap (x1+1))) (q0 (vi (q6.wrap (x1+1))) (ln ?_))))))
 exact ⟨((q6.wrap (x1+1)),w3),⟨rfl,hm,h.1⟩,h.2⟩
 have h:=h.2 hc2
 refine qE (tN (tN (tP (zN (rg ?_)))))
 obtain ⟨v8,hv5,h⟩:=h
 refine q2 v8.v (xl (isAgg54 _) hv5) (q0 (vi t1) (vR (O:=(.cells #[(vi t1)] 78)) (fun p=>(Sl.mk (some p) 1 1).v) (zJ rfl) (zK (vs:=#[(0,(vi t1))]) (by kernel_rfl) (by kernel_rfl)) ?_))
 intro p1 w4 hn2
 have h:=h p1 w4 hn2
 obtain ⟨s1,w5,hv4,h⟩:=h
 refine st (v:=s1.v) (zJ rfl) (vS (args:=#[v8.v,(Sl.mk (some p1) 1 1).v]) (by kernel_rfl) (fun _=>rfl) hv4) ?_
 obtain ⟨hp2,h⟩:=h
 refine ss (zT (a:=cap4) (v:=s1.v) (by kernel_rfl) (by kernel_rfl) rfl (sizeOf54 _) hp2) ?_
 intro w6 hn1
 have h:=h w6 hn1
 refine zD (jFP (.inr rfl) results276 ?_)
 exact ⟨rfl,h⟩
def m_V3 (p1:Option Addr) (t1:Int) (w:World) (K:Sl→WP):Prop :=Calls prog 104 #[(vp p1),(vi t1)] w (fun e w1=>∃aZ bA:Int,∃bB bC:Int,∃bD:ByteArray,∃bE bF:Int,∃r1:Bool,e=.returned (.tuple #[(.agg #[(vi aZ),(vi bA),(vi bB),(vu bC),(vs bD),(vi bE),(vi bF)]),(vb r1)])∧∀(p2:Addr) (w2:World),New w1 (.cells #[(vi 0),(vi 0),(vi 0),(vu 0),ve,(vi 0),(vi 0)] 127) p2 w2→(∀j,j<7→CanW w2 (p2.add j))∧∀w3:World,w3=storeRow w2 p2 [(vi aZ),(vi bA),(vi bB),(vu bC),(vs bD),(vi bE),(vi bF)]→∃v1:Int,w3.cell? p2=some (vi v1)∧Calls prog 274 #[(vi v1)] w3 (fun e w4=>∃rfrom1 rto1:Bool,∃rnum1 rtext1:Bool,∃rkids1:Int,∃r2:Bool,e=.returned (.tuple #[(.agg #[(vb rfrom1),(vb rto1),(vb rnum1),(vb rtext1),(vi rkids1)]),(vb r2)])∧∀(p3:Addr) (w5:World),New w4 (.cells #[(vb false),(vb false),(vb false),(vb false),(vi 0)] 271) p3 w5→(∀j,j<5→CanW w5 (p3.add j))∧∀w6:World,w6=storeRow w5 p3 [(vb rfrom1),(vb rto1),(vb rnum1),(vb rtext1),(vi rkids1)]→∃v2:Int,w6.cell? (p2.add 5)=some (vi v2)∧∃v3:Int,w6.cell? (p2.add 6)=some (vi v3)∧∀(p4:Addr) (w7:World),New w6 (.cells #[(vi v2),(vi v3)] 78) p4 w7→∃v4:Int,w7.cell? (p3.add 4)=some (vi v4)∧∃s1:Sl,(Instr.sliceAt 54 (Sl.mk (some p4) 2 2).v none (some (vi v4)) none).run prog w7=.ok s1.v w7∧K s1 w7))
theorem w_V3 (p1:Option Addr) (t1:Int) (w:World) (K:Sl→WP) (h:m_V3 p1 t1 w K) :
  Calls prog 277 #[(vp p1),(vi t1)] w (fun e w'=>∃r3:Sl,e=.returned r3.v∧K r3 w'):=by
 unfold m_V3 at h
 refine cw (args:=[(vp p1),(vi t1)]) func277 ntmps277 (eg (q0 Sl.nil.v (ln (eg (q0 (vp p1) (q0 (vi t1) ?_))))))
 refine sc call104 (h.mono ?_)
 rintro e w1 ⟨aZ,bA,bB,bC,bD,bE,bF,r1,rfl,h⟩
 refine ⟨_,rfl,?_⟩
 refine q0 (.tuple #[(.agg #[(vi aZ),(vi bA),(vi bB),(vu bC),(vs bD),(vi bE),(vi bF)]),(vb r1)]) (q0 (.agg #[(vi aZ),(vi bA),(vi bB),(vu bC),(vs bD),(vi bE),(vi bF)]) (q0 (vb r1) (sn (O:=(.cells #[(vi 0),(vi 0),(vi 0),(vu 0),ve,(vi 0),(vi 0)] 127)) (zO (zeroValue127 _) rfl) ?_)))
 intro p2 w2 hn5
 have h:=h p2 w2 hn5
 obtain ⟨hp1,h⟩:=h
 refine ss (xo p2 [(vi aZ),(vi bA),(vi bB),(vu bC),(vs bD),(vi bE),(vi bF)] (sizeOf127 _) hp1) ?_
 intro w3 hn1
 have h:=h w3 hn1
 refine q0 (vb r1) (ln (eg (q0 (vp (some p2)) ?_)))
 obtain ⟨v1,hv5,h⟩:=h
 refine q2 (vi v1) (xl (isAgg3 _) hv5) ?_
 refine sc call274 (h.mono ?_)
 rintro e w4 ⟨rfrom1,rto1,rnum1,rtext1,rkids1,r2,rfl,h⟩
 refine ⟨_,rfl,?_⟩
 refine q0 (.tuple #[(.agg #[(vb rfrom1),(vb rto1),(vb rnum1),(vb rtext1),(vi rkids1)]),(vb r2)]) (q0 (.agg #[(vb rfrom1),(vb rto1),(vb rnum1),(vb rtext1),(vi rkids1)]) (q0 (vb r2) (sn (O:=(.cells #[(vb false),(vb false),(vb false),(vb false),(vi 0)] 271)) (zO (zeroValue271 _) rfl) ?_)))
 intro p3 w5 hn4
 have h:=h p3 w5 hn4
 obtain ⟨hp2,h⟩:=h
 refine ss (xo p3 [(vb rfrom1),(vb rto1),(vb rnum1),(vb rtext1),(vi rkids1)] (sizeOf271 _) hp2) ?_
 intro w6 hn2
 have h:=h w6 hn2
 refine q0 (vb r2) (ln (eg (q0 (vp (some (p2.add 5))) ?_)))
 obtain ⟨v2,hv4,h⟩:=h
 refine q2 (vi v2) (xl (isAgg78 _) hv4) (q0 (vp (some (p2.add 6))) ?_)
 obtain ⟨v3,hv3,h⟩:=h
 refine q2 (vi v3) (xl (isAgg78 _) hv3) (vR (O:=(.cells #[(vi v2),(vi v3)] 78)) (fun p=>(Sl.mk (some p) 2 2).v) (zJ rfl) (zK (vs:=#[(0,(vi v2)),(1,(vi v3))]) (by kernel_rfl) (by kernel_rfl)) ?_)
 intro p4 w7 hn3
 have h:=h p4 w7 hn3
 refine q0 (vp (some (p3.add 4))) ?_
 obtain ⟨v4,hv2,h⟩:=h
 refine q2 (vi v4) (xl (isAgg3 _) hv2) ?_
 obtain ⟨s1,hv1,h⟩:=h
 refine q2 s1.v (tQ (by kernel_rfl) (by kernel_rfl) (by kernel_rfl) (by kernel_rfl) hv1) (q0 s1.v (ln (er (rs1 results277 (v:=s1.v) ?_))))
 exact ⟨s1,rfl,h⟩
def m_W3  (w:World) (K:(Array Value)→WP):Prop :=∀(p1:Addr) (w1:World),New w (.cells #[(vb false),(vb false),(vb false),(vb false),(vi 0),(vb false),(vb false),(vb false),(vb false),(vi 0),(vb false),(vb false),(vb false),(vb false),(vi 0),(vb false),(vb false),(vb false),(vb false),(vi 0),(vb false),(vb false),(vb false),(vb false),(vi 0),(vb false),(vb false),(vb false),(vb false),(vi 0),(vb false),(vb false),(vb false),(vb false),(vi 0),(vb false),(vb false),(vb false),(vb false),(vi 0),(vb false),(vb false),(vb false),(vb false),(vi 0),(vb false),(vb false),(vb false),(vb false),(vi 0)] 337) p1 w1→(∀j,j<50→CanW w1 (p1.add j))∧∀w2:World,w2=storeRow w1 p1 [(vb false),(vb false),(vb false),(vb false),(vi 0),(vb true),(vb false),(vb false),(vb false),(vi 0),(vb false),(vb false),(vb true),(vb false),(vi 0),(vb false),(vb false),(vb false),(vb true),(vi 0),(vb false),(vb false),(vb false),(vb false),(vi 2),(vb false),(vb false),(vb false),(vb false),(vi 1),(vb true),(vb false),(vb false),(vb false),(vi 0),(vb true),(vb false),(vb false),(vb false),(vi 1),(vb true),(vb true),(vb false),(vb false),(vi 1),(vb true),(vb true),(vb false),(vb false),(vi 1)]→∃q1:Array Value,(q1.size=50∧Row w2 p1 q1.toList)∧K q1 w2
theorem w_W3  (w:World) (K:(Array Value)→WP) (h:m_W3  w K) :
  Calls prog 298 #[] w (fun e w'=>∃r1:Array Value,e=.returned (.agg r1)∧K r1 w'):=by
 unfold m_W3 at h
 refine cw (args:=[]) func298 ntmps298 (eg (sn (O:=(.cells #[(vb false),(vb false),(vb false),(vb false),(vi 0),(vb false),(vb false),(vb false),(vb false),(vi 0),(vb false),(vb false),(vb false),(vb false),(vi 0),(vb false),(vb false),(vb false),(vb false),(vi 0),(vb false),(vb false),(vb false),(vb false),(vi 0),(vb false),(vb false),(vb false),(vb false),(vi 0),(vb false),(vb false),(vb false),(vb false),(vi 0),(vb false),(vb false),(vb false),(vb false),(vi 0),(vb false),(vb false),(vb false),(vb false),(vi 0),(vb false),(vb false),(vb false),(vb false),(vi 0)] 337)) (zO (zeroValue337 _) rfl) ?_))
 intro p1 w1 hn2
 have h:=h p1 w1 hn2
 refine ln (eg (q0 (.agg #[(vb true),(vb false),(vb false),(vb false),(vi 0)]) (q0 (.agg #[(vb false),(vb false),(vb true),(vb false),(vi 0)]) (q0 (.agg #[(vb false),(vb false),(vb false),(vb true),(vi 0)]) (q0 (.agg #[(vb false),(vb false),(vb false),(vb false),(vi 2)]) (q0 (.agg #[(vb false),(vb false),(vb false),(vb false),(vi 1)]) (q0 (.agg #[(vb true),(vb false),(vb false),(vb false),(vi 0)]) (q0 (.agg #[(vb true),(vb false),(vb false),(vb false),(vi 1)]) (q0 (.agg #[(vb true),(vb true),(vb false),(vb false),(vi 1)]) ?_)))))))))
 refine q0 (.agg #[(vb true),(vb true),(vb false),(vb false),(vi 1)]) (q0 (.agg #[(vb false),(vb false),(vb false),(vb false),(vi 0),(vb true),(vb false),(vb false),(vb false),(vi 0),(vb false),(vb false),(vb true),(vb false),(vi 0),(vb false),(vb false),(vb false),(vb true),(vi 0),(vb false),(vb false),(vb false),(vb false),(vi 2),(vb false),(vb false),(vb false),(vb false),(vi 1),(vb true),(vb false),(vb false),(vb false),(vi 0),(vb true),(vb false),(vb false),(vb false),(vi 1),(vb true),(vb true),(vb false),(vb false),(vi 1),(vb true),(vb true),(vb false),(vb false),(vi 1)]) ?_)
 obtain ⟨hp1,h⟩:=h
 refine ss (xo p1 [(vb false),(vb false),(vb false),(vb false),(vi 0),(vb true),(vb false),(vb false),(vb false),(vi 0),(vb false),(vb false),(vb true),(vb false),(vi 0),(vb false),(vb false),(vb false),(vb true),(vi 0),(vb false),(vb false),(vb false),(vb false),(vi 2),(vb false),(vb false),(vb false),(vb false),(vi 1),(vb true),(vb false),(vb false),(vb false),(vi 0),(vb true),(vb false),(vb false),(vb false),(vi 1),(vb true),(vb true),(vb false),(vb false),(vi 1),(vb true),(vb true),(vb false),(vb false),(vi 1)] (sizeOf337 _) hp1) ?_
 intro w2 hn1
 have h:=h w2 hn1
 refine ln (er ?_)
 obtain ⟨q1,hv1,h⟩:=h
 refine uW (.inl rfl) (vs:=[(.agg q1)]) (v:=(.agg q1)) results298 ⟨(RV.cellAr (A:=p1) (vs:=q1) (by kernel_rfl) (isAgg337 _) (sizeOf337 _) hv1),trivial⟩ (by kernel_rfl) ?_
 exact ⟨q1,rfl,h⟩
end Go.Proofs
end
section
open Go Go.SE
namespace Go.Proofs
open Tryz
attribute [local irreducible] Calls
theorem jNL (n:Int) (w:World):Calls prog 275 #[.int .i64 n] w (fun e w'=>∃r,e=.returned (.bool r)∧(r=Sp.lG n∧w'=w)):=by
 refine w_U3 n w (fun r w'=>r=Sp.lG n∧w'=w) ?_;unfold m_U3;refine ⟨fun h=>⟨?_,rfl⟩,fun h=>⟨?_,rfl⟩⟩
 ·have:0≤n:=by simpa using h
  simp [Sp.lG,this]
 ·have:¬ 0≤n:=by simpa using h
  simp [Sp.lG,this]
theorem jNM (s1 s2 s3 s4:Bool) (s5 k f t u:Int) (x:ByteArray) (a b:Int) (w:World) :
  Calls prog 185 #[.agg #[.bool s1,.bool s2,.bool s3,.bool s4,.int .i64 s5],.agg #[.int .i64 k,.int .i64 f,.int .i64 t,.int .u64 u,.string x,.int .i64 a,.int .i64 b]] w
   (fun e w'=>∃r,e=.returned (.int .i64 r)∧(r=Sp.zZ ⟨s1,s2,s3,s4,s5⟩ ⟨k,f,t,u,x,a,b⟩∧Pure w w')):=by
 refine w_B1 _ _ _ _ _ _ _ _ _ _ _ _ w (fun r w'=>r=Sp.zZ ⟨s1,s2,s3,s4,s5⟩ ⟨k,f,t,u,x,a,b⟩∧Pure w w') ?_
 unfold m_B1
 intro p1 w1 h1 p2 w2 h2
 have b1:=(Box.of_new h1).pure (Ext.new h2)
 have b2:=Box.of_new h2
 have E:Pure w w2:=(Ext.new h1).trans (Ext.new h2)
 have J:∀c:Bool,c=(s1 && !Sp.lG f)→m_B1_j1 p1 p2 c w2 (fun r w'=>r=Sp.zZ ⟨s1,s2,s3,s4,s5⟩ ⟨k,f,t,u,x,a,b⟩∧Pure w w'):=by
  intro c hc;unfold m_B1_j1;refine ⟨fun h=>⟨?_,E⟩,fun h=>⟨_,b1.cell rfl,fun h'=>⟨_,b2.cell rfl,?_⟩,fun h'=>⟨_,b2.cell rfl,fun h3=>⟨?_,E⟩,fun h3=>⟨?_,E⟩⟩⟩⟩
  ·rw [hc] at h;simp [Sp.zZ,h]
  ·refine (jNL _ _).mono ?_;rintro _ _ ⟨r,rfl,rfl,rfl⟩;rw [hc] at h;refine ⟨_,rfl,fun h2=>⟨?_,E⟩,fun h2=>⟨_,b2.cell rfl,_,b2.cell rfl,fun h3=>⟨?_,E⟩,fun h3=>⟨_,b2.cell rfl,fun h4=>⟨?_,E⟩,fun h4=>⟨?_,E⟩⟩⟩⟩
   ·simp [Sp.zZ,h',h2]
   ·simp [Sp.zZ,h',h3]
   ·simp only [Sp.zZ,h,h',h3];simp at h2 h4;simp [h2];omega
   ·simp only [Sp.zZ,h,h',h3];simp at h2 h4;simp [h2];omega
  ·rw [hc] at h;simp only [Sp.zZ,h,h'];simp at h3;simp;omega
  ·rw [hc] at h;simp only [Sp.zZ,h,h'];simp at h3;simp;omega
 refine ⟨_,b1.cell0,fun h=>⟨_,b2.cell rfl,?_⟩,fun h=>J _ (by simp [h])⟩
 refine (jNL _ _).mono ?_
 rintro _ _ ⟨r,rfl,rfl,rfl⟩
 exact ⟨_,rfl,J _ (by simp [h])⟩
def jLE:Array Value:=#[.bool false,.bool false,.bool false,.bool false,.int .i64 0,.bool true,.bool false,.bool false,.bool false,.int .i64 0,.bool false,.bool false,.bool true,.bool false,.int .i64 0,.bool false,.bool false,.bool false,.bool true,.int .i64 0,.bool false,.bool false,.bool false,.bool false,.int .i64 2,.bool false,.bool false,.bool false,.bool false,.int .i64 1,.bool true,.bool false,.bool false,.bool false,.int .i64 0,.bool true,.bool false,.bool false,.bool false,.int .i64 1,.bool true,.bool true,.bool false,.bool false,.int .i64 1,.bool true,.bool true,.bool false,.bool false,.int .i64 1]
theorem jUC (w:World):Calls prog 298 #[] w (fun e w'=>∃r,e=.returned (.agg r)∧(r=jLE∧Pure w w')):=by
 refine w_W3 w (fun r w'=>r=jLE∧Pure w w') ?_;unfold m_W3;intro p1 w1 h1;have E1:Pure w w1:=Ext.new h1;have hp:=New.own (Ext.refl w) h1;have b1:=Box.of_newA h1;clear h1;refine bx 50 b1 (by kernel_rfl) (by kernel_rfl) (fun w' b E=>?_);refine ⟨jLE,⟨by kernel_rfl,b.row_eq (by kernel_rfl)⟩,rfl,E1.own hp E⟩
theorem jJW (k:Int) (w:World):Calls prog 274 #[.int .i64 k] w (fun e w'=>∃r1:Bool,∃r2:Bool,∃r3:Bool,∃r4:Bool,∃r5:Int,∃r:Bool,e=.returned (.tuple #[.agg #[.bool r1,.bool r2,.bool r3,.bool r4,.int .i64 r5],.bool r])∧(((⟨r1,r2,r3,r4,r5⟩:Sp.Shape)=Sp.shapeOf k∧r=Sp.isKind k)∧Pure w w')):=by
 refine w_T3 k w (fun r1 r2 r3 r4 r5 r w'=>((⟨r1,r2,r3,r4,r5⟩:Sp.Shape)=Sp.shapeOf k∧r=Sp.isKind k)∧Pure w w') ?_;unfold m_T3;intro p1 w1 h1;have E1:Pure w w1:=Ext.new h1;have b1:=Box.of_new h1;have hp:=New.own (Ext.refl w) h1;refine ⟨fun h=>bx 5 b1 rfl rfl (fun w' b E=>⟨_,_,_,_,_,b.row,⟨?_,?_⟩,E1.own hp E⟩),fun h=>⟨fun h2=>bx 5 b1 rfl rfl (fun w' b E=>⟨_,_,_,_,_,b.row,⟨?_,?_⟩,E1.own hp E⟩),fun h2=>?_⟩⟩
 ·have:k<1:=by simpa using h
  simp only [Sp.shapeOf,Sp.noShape];repeat rw [if_neg (by omega)]
 ·have:k<1:=by simpa using h
  simp [Sp.isKind];omega
 ·have:9<k:=by simpa using h2
  simp only [Sp.shapeOf,Sp.noShape];repeat rw [if_neg (by omega)]
 ·have:9<k:=by simpa using h2
  simp [Sp.isKind];omega
 ·have h3:¬ k<1:=by simpa using h
  have h4:¬ 9<k:=by simpa using h2
  refine (jUC _).mono ?_;rintro _ w4 ⟨_,rfl,rfl,E4⟩;refine ⟨_,rfl,?_⟩;have b4:=b1.pure E4;have E5:Pure w w4:=E1.trans E4;have hk:k=1∨k=2∨k=3∨k=4∨k=5∨k=6∨k=7∨k=8∨k=9:=by omega
  rcases hk with rfl | rfl | rfl | rfl | rfl | rfl | rfl | rfl | rfl
  ·exact ⟨true,false,false,false,0,by kernel_rfl,bx 5 b4 rfl rfl (fun w' b E=>⟨_,_,_,_,_,b.row,⟨by decide,by decide⟩,E5.own hp E⟩)⟩
  ·exact ⟨false,false,true,false,0,by kernel_rfl,bx 5 b4 rfl rfl (fun w' b E=>⟨_,_,_,_,_,b.row,⟨by decide,by decide⟩,E5.own hp E⟩)⟩
  ·exact ⟨false,false,false,true,0,by kernel_rfl,bx 5 b4 rfl rfl (fun w' b E=>⟨_,_,_,_,_,b.row,⟨by decide,by decide⟩,E5.own hp E⟩)⟩
  ·exact ⟨false,false,false,false,2,by kernel_rfl,bx 5 b4 rfl rfl (fun w' b E=>⟨_,_,_,_,_,b.row,⟨by decide,by decide⟩,E5.own hp E⟩)⟩
  ·exact ⟨false,false,false,false,1,by kernel_rfl,bx 5 b4 rfl rfl (fun w' b E=>⟨_,_,_,_,_,b.row,⟨by decide,by decide⟩,E5.own hp E⟩)⟩
  ·exact ⟨true,false,false,false,0,by kernel_rfl,bx 5 b4 rfl rfl (fun w' b E=>⟨_,_,_,_,_,b.row,⟨by decide,by decide⟩,E5.own hp E⟩)⟩
  ·exact ⟨true,false,false,false,1,by kernel_rfl,bx 5 b4 rfl rfl (fun w' b E=>⟨_,_,_,_,_,b.row,⟨by decide,by decide⟩,E5.own hp E⟩)⟩
  ·exact ⟨true,true,false,false,1,by kernel_rfl,bx 5 b4 rfl rfl (fun w' b E=>⟨_,_,_,_,_,b.row,⟨by decide,by decide⟩,E5.own hp E⟩)⟩
  ·exact ⟨true,true,false,false,1,by kernel_rfl,bx 5 b4 rfl rfl (fun w' b E=>⟨_,_,_,_,_,b.row,⟨by decide,by decide⟩,E5.own hp E⟩)⟩
theorem jSB (k f t u:Int) (x:ByteArray) (a b:Int) (w:World) :
  Calls prog 184 #[.agg #[.int .i64 k,.int .i64 f,.int .i64 t,.int .u64 u,.string x,.int .i64 a,.int .i64 b]] w
   (fun e w'=>∃r1:Bool,∃r2:Bool,∃r3:Bool,∃r4:Bool,∃r5:Int,∃r:Int,e=.returned (.tuple #[.agg #[.bool r1,.bool r2,.bool r3,.bool r4,.int .i64 r5],.int .i64 r])∧(((⟨r1,r2,r3,r4,r5⟩:Sp.Shape)=Sp.shapeOf k∧r=Sp.vA ⟨k,f,t,u,x,a,b⟩)∧Pure w w')):=by
 suffices key:∀K:Bool→Bool→Bool→Bool→Int→Int→WP,(∀r1 r2 r3 r4 r5 r w',((⟨r1,r2,r3,r4,r5⟩:Sp.Shape)=Sp.shapeOf k∧r=Sp.vA ⟨k,f,t,u,x,a,b⟩)∧Pure w w'→K r1 r2 r3 r4 r5 r w')→m_D k f t u x a b w K from
  w_D _ _ _ _ _ _ _ w _ (key _ (fun _ _ _ _ _ _ _ h=>h))
 intro K hK
 unfold m_D
 intro p1 w1 h1 p2 w2 h2
 have a1:=(Box.of_new h1).pure (Ext.new h2)
 have a2:=Box.of_new h2
 have E2:Pure w w2:=(Ext.new h1).trans (Ext.new h2)
 have o2:=New.own (Ext.new h1:Pure w w1) h2
 have n12:p1.block≠p2.block:=New.ne h2 (Box.of_new h1).blk
 refine ⟨_,a1.cell0,?_⟩
 refine (jJW _ _).mono ?_
 rintro _ w3 ⟨s1,s2,s3,s4,s5,ok,rfl,⟨hs,hok⟩,E3⟩
 refine ⟨_,_,_,_,_,_,rfl,?_⟩
 intro p3 w4 h3
 have E4:Pure w w4:=(E2.trans E3).trans (Ext.new h3)
 have o3:=New.own (E2.trans E3) h3
 have n13:p1.block≠p3.block:=New.ne h3 (a1.pure E3).blk
 have n23:p2.block≠p3.block:=New.ne h3 (a2.pure E3).blk
 refine bx 5 (Box.of_new h3) rfl rfl (fun w5 b3 E=>?_)
 have b1:=((a1.pure E3).pure (Ext.new h3)).ext E n13
 have b2:=((a2.pure E3).pure (Ext.new h3)).ext E n23
 have E5:=E4.own o3 E
 clear E E4 E3 E2 a1 a2 h1 h2 h3
 have fin : ∀ v : Int, v = Sp.vA ⟨k, f, t, u, x, a, b⟩ → (∀ j, j < 5 → CanW w5 (p2.add j)) ∧ ∀ w', w' = storeRow w5 p2 [.bool s1, .bool s2, .bool s3, .bool s4, .int .i64 s5] →
   ∃q1:Bool,∃q2:Bool,∃q3:Bool,∃q4:Bool,∃q5:Int,Row w' p2 [.bool q1,.bool q2,.bool q3,.bool q4,.int .i64 q5]∧K q1 q2 q3 q4 q5 v w':=fun v hv =>
  bx 5 b2 rfl rfl (fun w' b E=>⟨_,_,_,_,_,b.row,hK _ _ _ _ _ _ _ ⟨⟨hs,hv⟩,E5.own o2 E⟩⟩)
 obtain ⟨e1,e2,e3,e4,e5⟩:s1=(Sp.shapeOf k).frm∧s2=(Sp.shapeOf k).to∧s3=(Sp.shapeOf k).num∧s4=(Sp.shapeOf k).text∧s5=(Sp.shapeOf k).kids:=by rw [← hs];simp
 have J3:∀c:Bool,c=(!ok || (!s1 && f != 0) || (!s2 && t != 0) || (!s3 && u != 0))→m_D_j3 p1 p2 p3 c w5 K:=by
  intro c hc;unfold m_D_j3;refine ⟨fun h=>⟨_,_,_,_,_,b3.row,fin _ ?_⟩,fun h=>⟨_,b3.cell rfl,fun h4=>⟨_,b1.cell rfl,fun h5=>⟨_,_,_,_,_,b3.row,fin _ ?_⟩,fun h5=>⟨_,_,_,_,_,b3.row,fin _ ?_⟩⟩,fun h4=>⟨_,_,_,_,_,b3.row,fin _ ?_⟩⟩⟩
  ·rw [h] at hc;simp only [Sp.vA,← e1,← e2,← e3,← e4,← hok,← hc];simp
  ·rw [h] at hc;simp only [Sp.vA,← e1,← e2,← e3,← e4,← hok,← hc];simp at h4 h5;simp [h4,h5]
  ·rw [h] at hc;simp only [Sp.vA,← e1,← e2,← e3,← e4,← hok,← hc];simp at h4 h5;simp [h4,h5]
  ·rw [h] at hc;simp only [Sp.vA,← e1,← e2,← e3,← e4,← hok,← hc];simp at h4;simp [h4]
 have J2:∀c:Bool,c=(!ok || (!s1 && f != 0) || (!s2 && t != 0))→m_D_j2 p1 p2 p3 c w5 K:=by
  intro c hc;have J4:∀d:Bool,d=(!s3 && u != 0)→m_D_j4 p1 p2 p3 c d w5 K:=fun d hd=>⟨fun h=>J3 _ (by rw [← hc,h];rfl),fun h=>J3 _ (by rw [← hc,h];simpa using hd)⟩;exact ⟨fun h=>J3 _ (by rw [← hc,h];rfl),fun h=>⟨_,b3.cell rfl,fun h4=>⟨_,b1.cell rfl,J4 _ (by rw [h4];rfl)⟩,fun h4=>J4 _ (by rw [h4];rfl)⟩⟩
 have J1:∀c:Bool,c=(!ok || (!s1 && f != 0))→m_D_j1 p1 p2 p3 c w5 K:=by
  intro c hc;have J5:∀d:Bool,d=(!s2 && t != 0)→m_D_j5 p1 p2 p3 c d w5 K:=fun d hd=>⟨fun h=>J2 _ (by rw [← hc,h];rfl),fun h=>J2 _ (by rw [← hc,h];simpa using hd)⟩;exact ⟨fun h=>J2 _ (by rw [← hc,h];rfl),fun h=>⟨_,b3.cell rfl,fun h4=>⟨_,b1.cell rfl,J5 _ (by rw [h4];rfl)⟩,fun h4=>J5 _ (by rw [h4];rfl)⟩⟩
 have J6:∀d:Bool,d=(!s1 && f != 0)→m_D_j6 p1 p2 ok p3 d w5 K:=fun d hd=>⟨fun h=>J1 _ (by rw [h];rfl),fun h=>J1 _ (by rw [h];simpa using hd)⟩
 exact ⟨fun h=>J1 _ (by rw [h];rfl),fun h=>⟨_,b3.cell0,fun h4=>⟨_,b1.cell rfl,J6 _ (by rw [h4];rfl)⟩,fun h4=>J6 _ (by rw [h4];rfl)⟩⟩
def uU (n:Sp.Node):List Value:=[.int .i64 n.kind,.int .i64 n.frm,.int .i64 n.to,.int .u64 n.num,.string n.text,.int .i64 n.a,.int .i64 n.b]
def jPK (e:Sp.Ent):List Value:=uU e.node++[.int .i64 e.size,.int .i64 e.depth]
def jDT (n:Sp.Node):Value:=.agg (uU n).toArray
def tH (L:Sp.Pool):List (Value×Value):=L.zipIdx.map fun p=>(jDT p.1.node,.int .i64 (p.2+1:Nat))
structure PoolS (w:World) (p:Addr) (L:Sp.Pool) (s:Sl) (m:Nat):Prop where
 box:Box w p [s.v,.map (some m)] 162
 rows:Rws w 234 9 s (L.map jPK)
 map:CMap w m (tH L)
 n1:m≠p.block
 n2:¬ s.blk p.block
 n3:¬ s.blk m
def zV (w:World) (p:Addr) (L:Sp.Pool) (F:NP):Prop:=∃s m,PoolS w p L s m∧∀b,F b↔(b=p.block∨s.blk b∨b=m)
theorem zV.ext {G:NP} {w w':World} {p:Addr} {L:Sp.Pool} {F:NP} (h:zV w p L F) (hE:Ext G w w') (hd:∀b,F b→¬ G b):zV w' p L F:=by
 obtain ⟨s,m,h,hF⟩:=h;exact ⟨s,m,⟨h.box.ext hE (hd _ ((hF _).2 (.inl rfl))),h.rows.ext hE (fun b hb=>hd _ ((hF _).2 (.inr (.inl hb)))),h.map.ext hE (hd _ ((hF _).2 (.inr (.inr rfl)))),h.n1,h.n2,h.n3⟩,hF⟩
theorem zV.pure {w w':World} {p:Addr} {L:Sp.Pool} {F:NP} (h:zV w p L F) (hE:Pure w w'):zV w' p L F:=h.ext hE (fun _ _ h=>h)
theorem zV.lt {w:World} {p:Addr} {L:Sp.Pool} {F:NP} (h:zV w p L F) {b:Nat} (hb:F b):b<w.heap.size:=by
 obtain ⟨s,m,h,hF⟩:=h;rcases (hF b).1 hb with rfl | hb | rfl
 ·exact h.box.lt
 ·exact h.rows.lt hb
 ·exact h.map.lt
theorem i64 {n:Int} (h:-9223372036854775808≤n) (h':n≤9223372036854775807):IntKind.i64.wrap n=n:=IntWalk.i64_in n ⟨h,h'⟩
theorem c_in (p:Addr) (t:Int) (w:World) {L:Sp.Pool} {F:NP} (hP:zV w p L F):Calls prog 138 #[.pointer (some p),.int .i64 t] w (fun e w'=>∃r,e=.returned (.bool r)∧(r=Sp.inP L t∧w=w')):=by
 obtain ⟨s,m,h,_⟩:=hP;refine w_I1 (some p) t w (fun r w'=>r=Sp.inP L t∧w=w') ?_;unfold m_I1;have hl:(s.len:Int)=L.length:=by rw [h.rows.len];simp
 refine Br.t rfl ⟨fun h1=>⟨p,rfl,s,h.box.cell0,?_,rfl⟩,fun h1=>⟨?_,rfl⟩⟩
 ·have:1≤t:=by simpa using h1
  simp [Sp.inP,hl,this]
 ·have:¬ 1≤t:=by simpa using h1
  simp [Sp.inP,this]
theorem PoolS.at {w:World} {p:Addr} {L:Sp.Pool} {s:Sl} {m:Nat} (h:PoolS w p L s m) {t:Int} (ht:Sp.inP L t=true) (hok:Sp.Ok L):∃a e,At s (IntKind.i64.wrap (t - 1)) 9 a∧Row w a (jPK e)∧s.blk a.block∧Sp.get L t=some e:=by
 obtain ⟨h1,h2⟩:=Sp.zY.1 ht;obtain ⟨e,hg,_,hi,he⟩:=Sp.jCG ht;have:=hok.few;rw [i64 (by omega) (by omega)];obtain ⟨a,hat,hr,hb⟩:=h.rows.at (i:=t - 1) (by omega) (by simpa using hi);exact ⟨a,e,hat,(by rw [List.getElem_map,he] at hr;exact hr),hb,hg⟩
theorem c_Size (p:Addr) (t:Int) (w:World) {L:Sp.Pool} {F:NP} (hP:zV w p L F) (hok:Sp.Ok L):Calls prog 238 #[.pointer (some p),.int .i64 t] w (fun e w'=>∃r,e=.returned (.int .i64 r)∧(r=Sp.sizeOf L t∧w=w')):=by
 refine w_R3 (some p) t w (fun r w'=>r=Sp.sizeOf L t∧w=w') ?_;unfold m_R3;refine (c_in p t w hP).mono ?_;rintro _ _ ⟨_,rfl,rfl,rfl⟩;obtain ⟨s,m,h,_⟩:=hP;refine ⟨_,rfl,fun h1=>⟨?_,rfl⟩,fun h1=>?_⟩
 ·simp [Sp.sizeOf,Sp.xB (show Sp.inP L t=false by simpa using h1)]
 ·obtain ⟨a,e,hat,hr,_,hg⟩:=h.at (show Sp.inP L t=true by simpa using h1) hok;exact ⟨p,rfl,s,h.box.cell0,a,hat,e.size,hr 7 (by simp [jPK,uU]),by simp [Sp.sizeOf,hg],rfl⟩
theorem jWB (p:Addr) (t:Int) (w:World) {L:Sp.Pool} {F:NP} (hP:zV w p L F) (hok:Sp.Ok L):Calls prog 239 #[.pointer (some p),.int .i64 t] w (fun e w'=>∃r,e=.returned (.int .i64 r)∧(r=Sp.depthOf L t∧w=w')):=by
 refine w_S3 (some p) t w (fun r w'=>r=Sp.depthOf L t∧w=w') ?_;unfold m_S3;refine (c_in p t w hP).mono ?_;rintro _ _ ⟨_,rfl,rfl,rfl⟩;obtain ⟨s,m,h,_⟩:=hP;refine ⟨_,rfl,fun h1=>⟨?_,rfl⟩,fun h1=>?_⟩
 ·simp [Sp.depthOf,Sp.xB (show Sp.inP L t=false by simpa using h1)]
 ·obtain ⟨a,e,hat,hr,_,hg⟩:=h.at (show Sp.inP L t=true by simpa using h1) hok;exact ⟨p,rfl,s,h.box.cell0,a,hat,e.depth,hr 8 (by simp [jPK,uU]),by simp [Sp.depthOf,hg],rfl⟩
theorem jGS (p:Addr) (t:Int) (w:World) {L:Sp.Pool} {F:NP} (hP:zV w p L F) (hok:Sp.Ok L):Calls prog 104 #[.pointer (some p),.int .i64 t] w
  (fun e w'=>∃k:Int,∃f:Int,∃t':Int,∃u:Int,∃x:ByteArray,∃a:Int,∃b:Int,∃r:Bool,e=.returned (.tuple #[.agg #[.int .i64 k,.int .i64 f,.int .i64 t',.int .u64 u,.string x,.int .i64 a,.int .i64 b],.bool r])∧(((⟨k,f,t',u,x,a,b⟩:Sp.Node)=Sp.nodeOf L t∧r=Sp.inP L t)∧Pure w w')):=by
 refine w_M3 (some p) t w (fun k f t' u x a b r w'=>((⟨k,f,t',u,x,a,b⟩:Sp.Node)=Sp.nodeOf L t∧r=Sp.inP L t)∧Pure w w') ?_
 unfold m_M3
 intro p1 w1 h1
 have E1:Pure w w1:=Ext.new h1
 have b1:=Box.of_new h1
 have hp:=New.own (Ext.refl w) h1
 refine (c_in p t w1 (hP.pure E1)).mono ?_
 rintro _ _ ⟨_,rfl,rfl,rfl⟩
 obtain ⟨s,m,h,_⟩:=hP.pure E1
 refine ⟨_,rfl,fun h1=>bx 7 b1 rfl rfl (fun w' b E=>⟨_,_,_,_,_,_,_,b.row,⟨?_,?_⟩,E1.own hp E⟩),fun h1=>?_⟩
 ·simp [Sp.nodeOf,Sp.xB (show Sp.inP L t=false by simpa using h1),Sp.jNA]
 ·symm;simpa using h1
 ·have ht:Sp.inP L t=true:=by simpa using h1
  obtain ⟨a,e,hat,hr,_,hg⟩:=h.at ht hok
  have hn:Row w1 a (uU e.node):=fun i hi=>by
   have:=hr i (by simp [jPK];omega);rw [this];unfold jPK;rw [List.getElem?_append_left hi]
  exact ⟨p,rfl,s,h.box.cell0,a,hat,_,_,_,_,_,_,_,hn,bx 7 b1 rfl rfl (fun w' b E=>⟨_,_,_,_,_,_,_,b.row,⟨by simp [Sp.nodeOf,hg],ht.symm⟩,E1.own hp E⟩)⟩
end Go.Proofs
end
section
open Go Go.SE
namespace Go.Proofs
open Tryz
attribute [local irreducible] Calls CallsD
def Fld.upd (bs:List UInt8) (r:Rd) (cells:List Value):Fld→List Value
 | .from_=>cells.set 7 (.int .u64 ((qZ bs r).1:Int))
 | .to_=>cells.set 8 (.int .u64 ((qZ bs r).1:Int))
 | .num=>cells.set 3 (.int .u64 ((qZ bs r).1:Int))
 | .text=>cells.set 4 (.string ⟨(qN bs 64 r).1.toArray⟩)
 | .fst=>(cells.set 9 (.int .u64 ((qZ bs r).1:Int))).set 11 (.int .i64 1)
 | .snd=>(cells.set 10 (.int .u64 ((qZ bs r).1:Int))).set 11 (.int .i64 2)
theorem c_get {S:NP} (f:Fld) (a q:Addr) (s:Sl) (bs:List UInt8) (r:Rd) (cells:List Value) (w0:World) (h:RdS S w0 a s bs r) (hat:r.at_≤bs.length) (hS:∀b,S b→b<w0.heap.size) (hq:Box w0 q cells 303) (hl:cells.length=12) (haq:a.block≠q.block) (hSq:∀b,S b→b≠q.block) :
  Calls prog f.get #[.pointer (some a),.pointer (some q)] w0 (fun e w'=>e=.returned (.tuple #[])∧RdS S w' a s bs (f.rd bs r)∧Box w' q (f.upd bs r cells) 303∧Ext (fun b=>b=a.block∨b=q.block) w0 w'):=by
 cases f
 ·exact jSE a q s bs r cells w0 h hat hS hq hl haq hSq
 ·exact jVY a q s bs r cells w0 h hat hS hq hl haq hSq
 ·exact jUG a q s bs r cells w0 h hat hS hq hl haq hSq
 ·exact jSD a q s bs r cells w0 h hat hS hq hl haq hSq
 ·exact c_getA a q s bs r cells w0 h hat hS hq hl haq hSq
 ·exact c_getB a q s bs r cells w0 h hat hS hq hl haq hSq
structure Kinds (w:World) (m:Nat) (F:NP):Prop where
 ex:∃M:List (Int×Sl),IMap Sl.v w m M∧(∀p∈M,Lst F w 2 p.2 ((uV p.1).map Fld.row))∧M.map Prod.fst=[1,2,3,4,5,6,7,8,9]
 lt:∀b,F b→b<w.heap.size
 ne:∀b,F b→b≠m
theorem Kinds.ext {w w':World} {m:Nat} {F G:NP} (h:Kinds w m F) (E:Ext G w w') (hG:∀b,F b∨b=m→¬ G b):Kinds w' m F:=by
 obtain ⟨M,h1,h2,h3⟩:=h.ex;exact ⟨⟨M,h1.ext E (hG m (.inr rfl)),fun p hp=>(h2 p hp).ext E (fun b hb=>hG b (.inl hb)),h3⟩,fun b hb=>Nat.lt_of_lt_of_le (h.lt b hb) E.size,h.ne⟩
theorem Kinds.pure {w w':World} {m:Nat} {F:NP} (h:Kinds w m F) (E:Pure w w'):Kinds w' m F:=h.ext E (fun _ _ h=>h)
theorem Kinds.mlt {w:World} {m:Nat} {F:NP} (h:Kinds w m F):m<w.heap.size:=by obtain ⟨M,h1,_⟩:=h.ex;exact h1.lt
theorem lst_lt {S:NP} {w:World} {s:Sl} {rs:List (List Value)} {sz:Nat} (h:Lst S w sz s rs) (hr:∀r∈rs,0<r.length):Lst (fun b=>S b∧b<w.heap.size) w sz s rs :=
 ⟨h.len,fun i hi=>let ⟨a,h1,h2,h3⟩:=h.at_ i hi;⟨a,h1,⟨h2,by
  have h0:=hr _ (List.getElem_mem hi);have:=h3 0 h0;rw [List.getElem?_eq_getElem h0] at this;have:=World.block_lt_of_cell? w (a.add 0) this;rwa [zX] at this⟩,h3⟩⟩
theorem jVX (w0:World):Calls prog 159 #[] w0 (fun e w'=>∃x:Option Nat,e=.returned (.map x)∧∃m F,x=some m∧Kinds w' m F∧Pure w0 w'∧w0.heap.size≤m∧∀b,F b→w0.heap.size≤b):=by
 refine (jVV w0).mono ?_;rintro _ w' ⟨x,rfl,m,M,rfl,⟨Bs,h⟩,hM⟩;refine ⟨_,rfl,m,fun b=>(w0.heap.size≤b∧b≠m)∧b<w'.heap.size,rfl,⟨⟨M,h.map,fun p hp=>lst_lt (h.lst p hp) (fun r hr=>by obtain ⟨f,_,rfl⟩:=List.mem_map.1 hr;simp [Fld.row]),hM⟩,fun b hb=>hb.2,fun b hb=>hb.1.2⟩,h.pure,h.own,fun b hb=>hb.1.1⟩
theorem Kinds.get {w:World} {m:Nat} {F:NP} (h:Kinds w m F) (k:Int) (h1:1≤k) (h9:k≤9) (ok:Bool) :
  ∃s:Sl,(Instr.lookup 230 (.map (some m)) (.int .i64 k) ok).run prog w=.ok (if ok then .tuple #[s.v,.bool true] else s.v) w∧Lst F w 2 s ((uV k).map Fld.row):=by
 obtain ⟨M,hM,hL,hk⟩:=h.ex
 rcases hM.get (P:=prog) (T:=230) underlying230 underlying3 (zeroValue259 _) k ok with ⟨hn,_⟩ | ⟨s,hs,hr⟩
 ·have:=uD.1 hn
  rw [hk] at this
  simp at this;omega
 ·exact ⟨s,hr,hL _ (xA hs)⟩
theorem Kinds.none {w:World} {m:Nat} {F:NP} (h:Kinds w m F) (k:Int) (hk:¬ (1≤k∧k≤9)):(Instr.lookup 230 (.map (some m)) (.int .i64 k) true).run prog w=.ok (.tuple #[Sl.nil.v,.bool false]) w:=by
 obtain ⟨M,hM,hL,hks⟩:=h.ex;rcases hM.get (P:=prog) (T:=230) underlying230 underlying3 (zeroValue259 _) k true with ⟨_,hr⟩ | ⟨s,hs,_⟩
 ·exact hr
 ·have:k∈M.map Prod.fst:=List.mem_map.2 ⟨_,xA hs,rfl⟩;rw [hks] at this;simp at this;omega
end Go.Proofs
end
