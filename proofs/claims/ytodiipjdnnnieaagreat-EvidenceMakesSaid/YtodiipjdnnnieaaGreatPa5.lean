import Derived.Test.YtodiipjdnnnieaaGreatPa4
import Derived.Test.YtodiipjdnnnieaaGreatProg
import Derived.KernelRfl
import Derived.Test.YtodiipjdnnnieaaGreatPa3
import Derived.RangeFuncSeq
import Derived.RangeFuncIn
import Derived.Sort.Walk0
import Derived.Sort.Statements
import Derived.Shelf.SlSortCmp.Insertion
import Init.Data.List.Lex
import Derived.Shelf.SlSortCmp.NoneTotal
import Derived.Test.YtodiipjdnnnieaaGreatPa2
import Derived.Laws.Strings
section
open Go Go.SE
namespace Go.Sp
def readQ (L:Pool) (t:Int):Letter×Bool :=
 let n:=nodeOf L t
 if n.kind=7 then rdSigned L n.frm n.a else if n.kind=8∨n.kind=9 then rdPromise L t
 else if ((rdTagged L t).2 || !decide ((rdTagged L t).1.1=wFull))=true then (noLetter,true)
 else (⟨7,0,(rdNode L (rdTagged L t).1.2 2).1.num,⟨#[]⟩,false⟩,(rdNode L (rdTagged L t).1.2 2).2)
def read (L:Pool) (t:Int):Letter×Bool:=if (readQ L t).2=true then (noLetter,false) else ((readQ L t).1,true)
end Go.Sp
namespace Go.Proofs
open Tryz
attribute [local irreducible] Calls
theorem c_rd_signed (r : Addr) (p : Option Addr) (who body : Int) (bad : Bool) (w : World) {L : Sp.Pool} {F : NP} (hR : ReaderAt w r p bad L F) :
  Calls prog 106 #[.pointer (some r),.int .i64 who,.int .i64 body] w
   (fun e w'=>∃k:Int,∃f:Int,∃c:Int,∃x:ByteArray,∃fk:Bool,e=.returned (.agg #[.int .i64 k,.int .i64 f,.int .u64 c,.string x,.bool fk])∧((⟨k,f,c,x,fk⟩:Sp.Letter)=(Sp.rdSigned L who body).1∧ReaderAt w' r p (bad || (Sp.rdSigned L who body).2) L F∧Ext (·=r.block) w w')):=by
 suffices key:∀K:Int→Int→Int→ByteArray→Bool→WP,(∀k f c x fk w',((⟨k,f,c,x,fk⟩:Sp.Letter)=(Sp.rdSigned L who body).1∧ReaderAt w' r p (bad || (Sp.rdSigned L who body).2) L F∧Ext (·=r.block) w w')→K k f c x fk w')→m_A (some r) who body w K from
  w_A _ _ _ w _ (key _ (fun _ _ _ _ _ _ h=>h))
 intro K hK
 unfold m_A
 intro p1 w1 h1
 have E1:Pure w w1:=Ext.new h1
 have o1:=New.own (Ext.refl w) h1
 have lr:=hR.box.lt
 have b1:Box w1 p1 lz 35:=Box.of_new h1
 have ne:p1.block≠r.block:=by omega
 refine (c_rd_tagged r p body bad w1 (hR.pure E1)).mono ?_
 rintro _ w2 ⟨x,y,rfl,hg,hR2,E12⟩
 refine ⟨_,_,rfl,?_⟩
 have b2:=b1.ext E12 ne
 have E2:Ext (·=r.block) w w2:=E1.pure.trans E12
 have ex:x=(Sp.rdTagged L body).1.1:=congrArg Prod.fst hg
 have ey:y=(Sp.rdTagged L body).1.2:=congrArg Prod.snd hg
 have hsp:Sp.rdSigned L who body=if x=Sp.wAbort∧who=0 then (⟨3,0,(Sp.rdNode L y 2).1.num,⟨#[]⟩,false⟩,(Sp.rdTagged L body).2 || (Sp.rdNode L y 2).2)
  else if x=Sp.wAborted∧who=2 then (⟨5,0,(Sp.rdNode L y 2).1.num,⟨#[]⟩,false⟩,(Sp.rdTagged L body).2 || (Sp.rdNode L y 2).2)
  else if x=Sp.wInstead∧who=2 then (⟨6,0,(Sp.rdDeal L y).1.1,(Sp.rdDeal L y).1.2,false⟩,(Sp.rdTagged L body).2 || (Sp.rdDeal L y).2)
  else if x=Sp.wDeal∧who≤1 then (⟨2,who,(Sp.rdDeal L body).1.1,(Sp.rdDeal L body).1.2,false⟩,(Sp.rdTagged L body).2 || (Sp.rdDeal L body).2)
  else if x=Sp.wResolve∧who≤1 then ((Sp.rdResolve L who y).1,(Sp.rdTagged L body).2 || (Sp.rdResolve L who y).2)
  else (Sp.noLetter,true):=by
  simp only [Sp.rdSigned,← ex,← ey]
 clear ex ey hg
 generalize hbg:(Sp.rdTagged L body).2=g2 at *
 have fin : ∀ (k f c : Int) (z : ByteArray) (fk v : Bool) (w5 : World), Sp.rdSigned L who body = (⟨k, f, c, z, fk⟩, v) → ReaderAt w5 r p (bad || v) L F → Ext (· = r.block) w2 w5 →
   (∀j,j<5→CanW w5 (p1.add j))∧∀w6:World,w6=storeRow w5 p1 [(.int .i64 k),(.int .i64 f),(.int .u64 c),(.string z),(.bool fk)] →
   ∃qKind1:Int,∃qFrom1:Int,∃qC1:Int,∃qText1:ByteArray,∃qFake1:Bool,Row w6 p1 [(.int .i64 qKind1),(.int .i64 qFrom1),(.int .u64 qC1),(.string qText1),(.bool qFake1)] ∧
   K qKind1 qFrom1 qC1 qText1 qFake1 w6:=by
  intro k f c z fk v w5 hs hR5 E5
  refine bx 5 (b2.ext E5 ne) rfl rfl (fun w6 b6 E6=>⟨k,f,c,z,fk,b6.row,hK _ _ _ _ _ _ ⟨by rw [hs],?_,?_⟩⟩)
  ·rw [hs];exact ⟨hR5.box.ext E6 ne.symm,hR5.pool.ext E6 (fun b hb e=>by have:=hR.pool.lt hb;omega),hR.ok,hR.out⟩
  ·exact (E2.trans E5).trans' E6 (fun i hi h=>by omega)
 have nodeCase : ∀ (k : Int), Sp.rdSigned L who body = (⟨k, 0, (Sp.rdNode L y 2).1.num, ⟨#[]⟩, false⟩, g2 || (Sp.rdNode L y 2).2) →
   Calls prog 109 #[.pointer (some r),.int .i64 y,.int .i64 2] w2 (fun e w3=>∃rKind1:Int,∃rFrom1:Int,∃rTo1:Int,∃rNum1:Int,∃rText1:ByteArray,∃rA1:Int,∃rB1:Int,e=.returned (.agg #[(.int .i64 rKind1),(.int .i64 rFrom1),(.int .i64 rTo1),(.int .u64 rNum1),(.string rText1),(.int .i64 rA1),(.int .i64 rB1)]) ∧
    (∀j,j<5→CanW w3 (p1.add j))∧∀w4:World,w4=storeRow w3 p1 [(.int .i64 k),(.int .i64 0),(.int .u64 rNum1),(.string (⟨#[]⟩:ByteArray)),(.bool false)] →
    ∃qKind1:Int,∃qFrom1:Int,∃qC1:Int,∃qText1:ByteArray,∃qFake1:Bool,Row w4 p1 [(.int .i64 qKind1),(.int .i64 qFrom1),(.int .u64 qC1),(.string qText1),(.bool qFake1)] ∧
    K qKind1 qFrom1 qC1 qText1 qFake1 w4):=by
  intro k hs
  refine (c_rd_node r p y 2 _ w2 hR2).mono ?_
  rintro _ w3 ⟨k3,f3,t3,u3,x3,a3,b3,rfl,hn3,hR3,E3⟩
  have e3:u3=(Sp.rdNode L y 2).1.num:=by rw [← hn3]
  refine ⟨_,_,_,_,_,_,_,rfl,?_⟩
  rw [← e3] at hs
  exact fin _ _ _ _ _ _ w3 hs (by rw [← Bool.or_assoc];exact hR3) E3
 have dealCase : ∀ (k f t : Int), Sp.rdSigned L who body = (⟨k, f, (Sp.rdDeal L t).1.1, (Sp.rdDeal L t).1.2, false⟩, g2 || (Sp.rdDeal L t).2) →
   Calls prog 170 #[.pointer (some r),.int .i64 t] w2 (fun e w7=>∃r4:Int,∃r5:ByteArray,e=.returned (.tuple #[(.int .u64 r4),(.string r5)]) ∧
    (∀j,j<5→CanW w7 (p1.add j))∧∀w8:World,w8=storeRow w7 p1 [(.int .i64 k),(.int .i64 f),(.int .u64 r4),(.string r5),(.bool false)] →
    ∃qKind1:Int,∃qFrom1:Int,∃qC1:Int,∃qText1:ByteArray,∃qFake1:Bool,Row w8 p1 [(.int .i64 qKind1),(.int .i64 qFrom1),(.int .u64 qC1),(.string qText1),(.bool qFake1)] ∧
    K qKind1 qFrom1 qC1 qText1 qFake1 w8):=by
  intro k f t hs
  refine (c_rd_deal r p t _ w2 hR2).mono ?_
  rintro _ w3 ⟨c,z,rfl,hd,hR3,E3⟩
  have e1:c=(Sp.rdDeal L t).1.1:=congrArg Prod.fst hd
  have e2:z=(Sp.rdDeal L t).1.2:=congrArg Prod.snd hd
  refine ⟨_,_,rfl,?_⟩
  rw [← e1,← e2] at hs
  exact fin _ _ _ _ _ _ w3 hs (by rw [← Bool.or_assoc];exact hR3) E3
 have J5:∀b,b=decide (x=Sp.wResolve∧who≤1)→¬ (x=Sp.wAbort∧who=0)→¬ (x=Sp.wAborted∧who=2)→¬ (x=Sp.wInstead∧who=2)→¬ (x=Sp.wDeal∧who≤1)→m_A_j5 (some r) who p1 y b w2 K:=by
  intro b hb h1 h2 h3 h4
  rw [if_neg h1,if_neg h2,if_neg h3,if_neg h4] at hsp
  cases hbv:b with
  | true =>
   have hc:x=Sp.wResolve∧who≤1:=of_decide_eq_true (by rw [← hb,hbv])
   rw [if_pos hc] at hsp
   refine c_rd_resolve r p p1 who y _ w2 hR2 b2 ne K (fun w6 w' hR6 E6 b' E'=>hK _ _ _ _ _ _ ⟨by rw [hsp];rfl,?_,?_⟩)
   ·rw [hsp];simp only [← Bool.or_assoc]
    exact ⟨hR6.box.ext E' ne.symm,hR6.pool.ext E' (fun b hb e=>by have:=hR.pool.lt hb;omega),hR.ok,hR.out⟩
   ·exact (E2.trans E6).trans' E' (fun i hi h=>by omega)
  | false =>
   have hc:¬ (x=Sp.wResolve∧who≤1):=of_decide_eq_false (by rw [← hb,hbv])
   rw [if_neg hc] at hsp
   unfold m_A_j5
   refine Br.f rfl ⟨r,rfl,hR2.box.canW (by simp),?_⟩
   intro w77 hw
   have d5:Box w77 r [.pointer p,.bool true] 182:=by rw [hw];exact hR2.box.set 1 _
   have E5:Ext (·=r.block) w2 w77:=by rw [hw];have:=Ext.setCell (w:=w2) (r.add 1) (.bool true);rw [add_block] at this;exact this
   exact fin 0 0 0 ⟨#[]⟩ false true w77 hsp (by rw [Bool.or_true];exact ⟨d5,hR2.pool.ext E5 (fun b hb e=>hR.out (e▸hb)),hR.ok,hR.out⟩) E5
 have J4:∀b,b=decide (x=Sp.wDeal∧who≤1)→¬ (x=Sp.wAbort∧who=0)→¬ (x=Sp.wAborted∧who=2)→¬ (x=Sp.wInstead∧who=2)→m_A_j4 (some r) who body p1 x y b w2 K:=by
  intro b hb h1 h2 h3
  unfold m_A_j4
  refine ⟨fun h=>dealCase 2 who body ?_,fun h=>?_⟩
  ·rw [hsp,if_neg h1,if_neg h2,if_neg h3,if_pos (of_decide_eq_true (by rw [← hb,h]))]
  ·have h4:¬ (x=Sp.wDeal∧who≤1):=of_decide_eq_false (by rw [← hb,h])
   exact ⟨fun hw=>J5 _ (by have:x=Sp.wResolve:=of_decide_eq_true hw;simp [this]) h1 h2 h3 h4,fun hw=>J5 _ (by have:¬ x=Sp.wResolve:=of_decide_eq_false hw;simp [this]) h1 h2 h3 h4⟩
 have J3:∀b,b=decide (x=Sp.wInstead∧who=2)→¬ (x=Sp.wAbort∧who=0)→¬ (x=Sp.wAborted∧who=2)→m_A_j3 (some r) who body p1 x y b w2 K:=by
  intro b hb h1 h2
  unfold m_A_j3
  refine ⟨fun h=>dealCase 6 0 y ?_,fun h=>?_⟩
  ·rw [hsp,if_neg h1,if_neg h2,if_pos (of_decide_eq_true (by rw [← hb,h]))]
  ·have h3:¬ (x=Sp.wInstead∧who=2):=of_decide_eq_false (by rw [← hb,h])
   exact ⟨fun hw=>J4 _ (by have:x=Sp.wDeal:=of_decide_eq_true hw;simp [this]) h1 h2 h3,fun hw=>J4 _ (by have:¬ x=Sp.wDeal:=of_decide_eq_false hw;simp [this]) h1 h2 h3⟩
 have J2:∀b,b=decide (x=Sp.wAborted∧who=2)→¬ (x=Sp.wAbort∧who=0)→m_A_j2 (some r) who body p1 x y b w2 K:=by
  intro b hb h1
  unfold m_A_j2
  refine ⟨fun h=>nodeCase 5 ?_,fun h=>?_⟩
  ·rw [hsp,if_neg h1,if_pos (of_decide_eq_true (by rw [← hb,h]))]
  ·have h2:¬ (x=Sp.wAborted∧who=2):=of_decide_eq_false (by rw [← hb,h])
   exact ⟨fun hw=>J3 _ (by have:x=Sp.wInstead:=of_decide_eq_true hw;simp [this];rfl) h1 h2,fun hw=>J3 _ (by have:¬ x=Sp.wInstead:=of_decide_eq_false hw;simp [this]) h1 h2⟩
 have J1:∀b,b=decide (x=Sp.wAbort∧who=0)→m_A_j1 (some r) who body p1 x y b w2 K:=by
  intro b hb
  unfold m_A_j1
  refine ⟨fun h=>nodeCase 3 ?_,fun h=>?_⟩
  ·rw [hsp,if_pos (of_decide_eq_true (by rw [← hb,h]))]
  ·have h1:¬ (x=Sp.wAbort∧who=0):=of_decide_eq_false (by rw [← hb,h])
   exact ⟨fun hw=>J2 _ (by have:x=Sp.wAborted:=of_decide_eq_true hw;simp [this];rfl) h1,fun hw=>J2 _ (by have:¬ x=Sp.wAborted:=of_decide_eq_false hw;simp [this]) h1⟩
 exact ⟨fun hw=>J1 _ (by have:x=Sp.wAbort:=of_decide_eq_true hw;simp [this];rfl),fun hw=>J1 _ (by have:¬ x=Sp.wAbort:=of_decide_eq_false hw;simp [this])⟩
end Go.Proofs
end
section
open Go Go.SE
namespace Go.Proofs
open Tryz
attribute [local irreducible] Calls
theorem c_letter_ReadN (p : Option Addr) (t : Int) (w : World) {L : Sp.Pool} {F : NP} (hP : PoolN w p L F) (hok : Sp.Ok L) :
  Calls prog 51 #[.pointer p,.int .i64 t] w
   (fun e w'=>∃k:Int,∃f:Int,∃c:Int,∃x:ByteArray,∃fk:Bool,∃ok:Bool,e=.returned (.tuple #[.agg #[.int .i64 k,.int .i64 f,.int .u64 c,.string x,.bool fk],.bool ok])∧(((⟨k,f,c,x,fk⟩:Sp.Letter),ok)=Sp.read L t∧Pure w w')):=by
 suffices key:∀K:Int→Int→Int→ByteArray→Bool→Bool→WP,(∀k f c x fk ok w',(((⟨k,f,c,x,fk⟩:Sp.Letter),ok)=Sp.read L t∧Pure w w')→K k f c x fk ok w')→m_K p t w K from
  w_K _ _ w _ (key _ (fun _ _ _ _ _ _ _ h=>h))
 intro K hK
 unfold m_K
 intro p2 w1 h1 p3 w2 h2
 have E1:Pure w w1:=Ext.new h1
 have E2:Pure w w2:=E1.trans (Ext.new h2)
 have o2:=New.own (Ext.refl w) h1
 have o3:=New.own E1 h2
 have n23:p2.block≠p3.block:=New.ne h2 (Box.of_new h1).blk
 have b2:Box w2 p2 lz 35:=(Box.of_new h1).pure (Ext.new h2)
 have hout:¬ F p3.block:=fun h=>by have:=hP.lt h;omega
 have hR2:ReaderAt w2 p3 p false L F:=⟨Box.of_new h2,hP.pure E2,hok,hout⟩
 refine (c_NodeN p t w2 hR2.pool hok).mono ?_
 rintro _ w3 ⟨k,f,t',u,x,a,b,ok,rfl,⟨hn,_⟩,E23⟩
 refine ⟨_,_,_,_,_,_,_,_,rfl,?_⟩
 intro p4 w4 h4
 have E3:Pure w2 w3:=E23
 have o4:=New.own (Ext.refl w3) h4
 have l3:=(hR2.pure E3).box.lt
 have l2:=(b2.pure E3).lt
 refine bx 7 (Box.of_new h4) rfl rfl (fun w5 b4 E'=>?_)
 have E5:Pure w3 w5:=Ext.own (Ext.new h4) o4 E'
 intro p5 w6 h6
 have E6:Pure w3 w6:=E5.trans (Ext.new h6)
 have o5:=New.own E5 h6
 have n45:p4.block≠p5.block:=New.ne h6 b4.blk
 have c4:=b4.pure (Ext.new h6:Pure w5 w6)
 have c5:Box w6 p5 lz 35:=Box.of_new h6
 have c2:=b2.pure (E3.trans E6)
 have hR6:=hR2.pure (E3.trans E6)
 have E26:Pure w w6:=(E2.trans E3).trans E6
 clear E' h1 h2 h4 h6
 have n35:p3.block≠p5.block:=by omega
 have n25:p2.block≠p5.block:=by omega
 have hq:Sp.readQ L t=if k=7 then Sp.rdSigned L f a else if k=8∨k=9 then Sp.rdPromise L t else if ((Sp.rdTagged L t).2 || !decide ((Sp.rdTagged L t).1.1=Sp.wFull))=true then (Sp.noLetter,true) else (⟨7,0,(Sp.rdNode L (Sp.rdTagged L t).1.2 2).1.num,⟨#[]⟩,false⟩,(Sp.rdNode L (Sp.rdTagged L t).1.2 2).2):=by
  simp only [Sp.readQ,← hn]
 have bad1 : ∀ (w8 : World), (Sp.readQ L t).2 = true → Ext (fun b => b = p3.block ∨ b = p5.block) w6 w8 → (∀ j, j < 5 → CanW w8 (p2.add j)) ∧ ∀ w9 : World, w9 = storeRow w8 p2 [(.int .i64 0), (.int .i64 0), (.int .u64 0), (.string (⟨#[]⟩ : ByteArray)), (.bool false)] →
   ∃qKind1:Int,∃qFrom1:Int,∃qC1:Int,∃qText1:ByteArray,∃qFake1:Bool,Row w9 p2 [(.int .i64 qKind1),(.int .i64 qFrom1),(.int .u64 qC1),(.string qText1),(.bool qFake1)]∧K qKind1 qFrom1 qC1 qText1 qFake1 false w9:=by
  intro w8 hb E8
  refine bx 5 (c2.ext E8 (by rintro (h | h) <;> omega)) rfl rfl (fun w9 b9 E9=>⟨0,0,0,⟨#[]⟩,false,b9.row,hK _ _ _ _ _ _ _ ⟨?_,?_⟩⟩)
  ·rw [Sp.read,if_pos hb];rfl
  ·exact (E26.trans' E8 (fun i hi h=>by rcases h with h | h <;> omega)).trans' E9 (fun i hi h=>by omega)
 have good1 : ∀ (w8 : World) (l : Sp.Letter), Sp.readQ L t = (l, false) → Ext (fun b => b = p3.block ∨ b = p5.block) w6 w8 → Box w8 p5 [.int .i64 l.kind, .int .i64 l.frm, .int .u64 l.c, .string l.text, .bool l.fake] 35 →
   ∃vKind1:Int,∃vFrom1:Int,∃vC1:Int,∃vText1:ByteArray,∃vFake1:Bool,Row w8 p5 [(.int .i64 vKind1),(.int .i64 vFrom1),(.int .u64 vC1),(.string vText1),(.bool vFake1)] ∧
   (∀j,j<5→CanW w8 (p2.add j))∧∀w9:World,w9=storeRow w8 p2 [(.int .i64 vKind1),(.int .i64 vFrom1),(.int .u64 vC1),(.string vText1),(.bool vFake1)] →
   ∃qKind1:Int,∃qFrom1:Int,∃qC1:Int,∃qText1:ByteArray,∃qFake1:Bool,Row w9 p2 [(.int .i64 qKind1),(.int .i64 qFrom1),(.int .u64 qC1),(.string qText1),(.bool qFake1)]∧K qKind1 qFrom1 qC1 qText1 qFake1 true w9:=by
  intro w8 l hb E8 B8
  refine ⟨_,_,_,_,_,B8.row,?_⟩
  refine bx 5 (c2.ext E8 (by rintro (h | h) <;> omega)) rfl rfl (fun w9 b9 E9=>⟨l.kind,l.frm,l.c,l.text,l.fake,b9.row,hK _ _ _ _ _ _ _ ⟨?_,?_⟩⟩)
  ·rw [Sp.read,if_neg (by rw [hb];simp),hb]
  ·exact (E26.trans' E8 (fun i hi h=>by rcases h with h | h <;> omega)).trans' E9 (fun i hi h=>by omega)
 have up:∀{w7 w8:World},Ext (·=p3.block) w6 w7→Ext (·=p5.block) w7 w8→Ext (fun b=>b=p3.block∨b=p5.block) w6 w8:=fun h h'=>(h.mono (fun _ _ h=>.inl h)).trans' h' (fun _ _ h=>.inr h)
 have J1p:∀b,b=true→k≠7→(k=8∨k=9)→m_K_j1 t p2 p3 p5 b w6 K:=by
  rintro _ rfl h7 h89
  rw [if_neg h7,if_pos h89] at hq
  unfold m_K_j1
  refine Br.t rfl ?_
  refine (c_rd_promise p3 p t false w6 hR6).mono ?_
  rintro _ w7 ⟨k7,f7,c7,x7,g7,rfl,hl,hR7,E7⟩
  refine ⟨_,_,_,_,_,rfl,bx 5 (c5.ext E7 n35.symm) rfl rfl (fun w8 b8 E8=>⟨(Sp.rdPromise L t).2,?_,fun h=>bad1 w8 (by rw [hq];exact h) (up E7 E8),fun h=>good1 w8 ⟨k7,f7,c7,x7,g7⟩ (by rw [hq,hl,← h]) (up E7 E8) b8⟩)⟩
  have:=(hR7.box.ext E8 n35).cell (i:=1) rfl
  simpa using this
 have J1t:∀b,b=false→k≠7→¬ (k=8∨k=9)→m_K_j1 t p2 p3 p5 b w6 K:=by
  rintro _ rfl h7 h89
  rw [if_neg h7,if_neg h89] at hq
  unfold m_K_j1
  refine Br.f rfl ?_
  refine (c_rd_tagged p3 p t false w6 hR6).mono ?_
  rintro _ w7 ⟨x7,y7,rfl,hg,hR7,E7⟩
  have ex:x7=(Sp.rdTagged L t).1.1:=congrArg Prod.fst hg
  have ey:y7=(Sp.rdTagged L t).1.2:=congrArg Prod.snd hg
  rw [← ex,← ey] at hq
  have setr:∀v:Bool,Box (w7.setCell (p3.add 1) (.bool v)) p3 [.pointer p,.bool v] 182∧Ext (·=p3.block) w7 (w7.setCell (p3.add 1) (.bool v)):=fun v =>
   ⟨hR7.box.set 1 _,by have:=Ext.setCell (w:=w7) (p3.add 1) (.bool v);rw [add_block] at this;exact this⟩
  have J3:∀(v:Bool) (w8:World),v=((Sp.rdTagged L t).2 || !decide (x7=Sp.wFull))→Box w8 p3 [.pointer p,.bool v] 182→Ext (·=p3.block) w7 w8→m_K_j3 p2 p3 p5 y7 w8 K:=by
   intro v w8 hv B8 E8
   have E68:=E7.trans E8
   have E68':Ext (fun b=>b=p3.block∨b=p5.block) w6 w8:=E68.mono (fun _ _ h=>.inl h)
   unfold m_K_j3
   refine ⟨v,B8.cell rfl,fun h=>⟨v,B8.cell rfl,fun _=>bad1 w8 (by rw [hq,← hv,if_pos h]) E68',fun h'=>(by rw [h] at h';cases h')⟩,fun h=>?_⟩
   rw [← hv,if_neg (by rw [h];simp)] at hq
   subst h
   unfold m_K_j2
   refine (c_rd_node p3 p y7 2 false w8 ⟨B8,hR7.pool.ext E8 (fun b hb e=>hout (e▸hb)),hok,hout⟩).mono ?_
   rintro _ w16 ⟨k3,f3,t3,u3,x3,a3,b3,rfl,hn3,hR3,E16⟩
   have e3:u3=(Sp.rdNode L y7 2).1.num:=by rw [← hn3]
   rw [← e3] at hq
   have E616:=E68.trans E16
   refine ⟨_,_,_,_,_,_,_,rfl,bx 5 (c5.ext E616 n35.symm) rfl rfl (fun w17 b17 E17=>⟨(Sp.rdNode L y7 2).2,?_,fun h=>bad1 w17 (by rw [hq];exact h) (up E616 E17),fun h=>good1 w17 ⟨7,0,u3,⟨#[]⟩,false⟩ (by rw [hq,h]) (up E616 E17) b17⟩)⟩
   have:=(hR3.box.ext E17 n35).cell (i:=1) rfl
   simpa using this
  refine ⟨_,_,rfl,(Sp.rdTagged L t).2,?_,fun h=>⟨hR7.box.canW (by simp),?_⟩,fun h=>⟨hR7.box.canW (by simp),?_⟩⟩
  ·have:=hR7.box.cell (i:=1) rfl
   simpa using this
  ·intro w22 hw
   exact J3 true w22 (by rw [h];rfl) (by rw [hw];exact (setr _).1) (by rw [hw];exact (setr _).2)
  ·intro w22 hw
   exact J3 (!decide (x7=Sp.wFull)) w22 (by rw [h];rfl) (by rw [hw];exact (setr _).1) (by rw [hw];exact (setr _).2)
 refine ⟨k,c4.cell0,fun h=>⟨f,c4.cell rfl,a,c4.cell rfl,?_⟩,fun h=>⟨fun h8=>?_,fun h8=>?_⟩⟩
 ·have h7:k=7:=by simpa using h
  rw [if_pos h7] at hq
  refine (c_rd_signed p3 p f a false w6 hR6).mono ?_
  rintro _ w7 ⟨k7,f7,c7,x7,g7,rfl,hl,hR7,E7⟩
  refine ⟨_,_,_,_,_,rfl,bx 5 (c5.ext E7 n35.symm) rfl rfl (fun w8 b8 E8=>⟨(Sp.rdSigned L f a).2,?_,fun h=>bad1 w8 (by rw [hq];exact h) (up E7 E8),fun h=>good1 w8 ⟨k7,f7,c7,x7,g7⟩ (by rw [hq,hl,← h]) (up E7 E8) b8⟩)⟩
  have:=(hR7.box.ext E8 n35).cell (i:=1) rfl
  simpa using this
 ·have h7:k≠7:=by simpa using h
  have h8:k=8:=by simpa using h8
  exact J1p _ (by simp [h8]) h7 (.inl h8)
 ·have h7:k≠7:=by simpa using h
  have h8:k≠8:=by simpa using h8
  by_cases h9:k=9
  ·exact J1p _ (by simp [h9]) h7 (.inr h9)
  ·exact J1t _ (by simpa using h9) h7 (by rintro (h | h) <;> omega)
theorem c_letter_Read (p : Addr) (t : Int) (w : World) {L : Sp.Pool} {F : NP} (hP : PoolAt w p L F) (hok : Sp.Ok L) :
  Calls prog 51 #[.pointer (some p),.int .i64 t] w
   (fun e w'=>∃k:Int,∃f:Int,∃c:Int,∃x:ByteArray,∃fk:Bool,∃ok:Bool,e=.returned (.tuple #[.agg #[.int .i64 k,.int .i64 f,.int .u64 c,.string x,.bool fk],.bool ok])∧(((⟨k,f,c,x,fk⟩:Sp.Letter),ok)=Sp.read L t∧Pure w w')):=c_letter_ReadN (some p) t w hP hok
end Go.Proofs
end
section
open Go Go.SE
open Go.IntKind renaming i64 → q6
namespace Go.Proofs
open Tryz
set_option maxRecDepth 100000
set_option maxHeartbeats 4000000
attribute [local irreducible] wpL wpX opE wpE Calls
def m_Q1_l1 (s1:Sl) (v1 x1:Int) (wl1:World) (Kc1:Int→WP) (K:Int→WP):Prop :=
 Br (decide (x1<(s1.len:Int)))
  (∃a1:Addr,At s1 x1 1 a1 ∧
  ∃v2:Int,wl1.cell? a1=some (vi v2) ∧
  Br (v1 == v2)
   (K x1 wl1)
   (Kc1 (q6.wrap (x1+1)) wl1))
  (K (-1) wl1)
def m_Q1 (s1:Sl) (v1:Int) (w0:World) (K:Int→WP):Prop :=
 ∃(I1:Int→WP) (mu1:Int→World→Nat),I1 0 w0 ∧
  ∀(x1:Int) (wl1:World),I1 x1 wl1→m_Q1_l1 s1 v1 x1 wl1 (fun y'0 w'=>I1 y'0 w'∧mu1 y'0 w'<mu1 x1 wl1) K
theorem w_Q1 (s1 : Sl) (v1 : Int) (w0 : World) (K : Int → WP) (h : m_Q1 s1 v1 w0 K) :
  Calls prog 190 #[s1.v,(vi v1)] w0 (fun e w'=>∃r1:Int,e=.returned (vi r1)∧K r1 w'):=by
 unfold m_Q1 at h
 refine cw (args:=[s1.v,(vi v1)]) func190 ntmps190 (eg (q0 (vi 0) (ln (wpE_seq (eg (q0 s1.v (q0 (vi (s1.len:Int)) (q0 (vi 0) ?_))))))))
 refine ln (wpE_block ?_)
 obtain ⟨I1,mu1,h0,hr⟩:=h
 refine wpE_loop (σ:=Int×World) (fun s ρ w=>w=s.2∧Has ρ [(0,s1.v),(1,(vi v1)),(7,(vi (s1.len:Int))),(8,(vi s.1))]∧I1 s.1 s.2) (fun s=>mu1 s.1 s.2) (0,w0) ⟨rfl,hm,h0⟩ ?_
 rintro ⟨x1,wl1⟩ ρ w ⟨hw,hH,hI⟩
 obtain rfl:wl1=w:=(show w=wl1 from hw).symm
 have hH:Has ρ [(0,s1.v),(1,(vi v1)),(7,(vi (s1.len:Int))),(8,(vi x1))]:=hH
 have h:=hr x1 wl1 hI
 unfold m_Q1_l1 at h
 refine wpE_has hH ?_
 refine eg (q0 (vb (decide (x1<(s1.len:Int)))) (ln (wpE_seq ?_)))
 refine wpE_cond (t:=(decide (x1<(s1.len:Int)))) (by kernel_rfl) (fun hc1=>?_) (fun hc1=>?_)
 have h:=h.1 hc1
 refine wpE_skip (th_n (wpE_seq (wpE_block (eg (q0 (vi x1) (q0 (vi x1) (ln (eg ?_))))))))
 refine q0 (vi v1) (q0 s1.v (q0 (vi x1) ?_))
 obtain ⟨a1,hv2,h⟩:=h
 refine q2 (vp (some a1)) (xi (runUnderlying46 _) (sizeOf78 _) hv2) ?_
 obtain ⟨v2,hv1,h⟩:=h
 refine q2 (vi v2) (xl (isAgg78 _) hv1) (q0 (vb (v1 == v2)) (ln ?_))
 refine wpE_cond (t:=(v1 == v2)) (by kernel_rfl) (fun hc2=>?_) (fun hc2=>?_)
 have h:=h.1 hc2
 refine eg (q0 (vi x1) (q0 (vi x1) (ln (er (bl_r (th_r (th_r (bl_r (th_r ?_)))))))))
 refine rs1 results190 (v:=(vi x1)) ?_
 exact ⟨x1,rfl,h⟩
 have h:=h.2 hc2
 refine wpE_skip (bl_n (th_n (rg (q0 (vi (q6.wrap (x1+1))) (q0 (vi (q6.wrap (x1+1))) (ln ?_))))))
 exact ⟨((q6.wrap (x1+1)),wl1),⟨rfl,hm,h.1⟩,h.2⟩
 have h:=h.2 hc1
 refine wpE_exit (th_x (th_x (bl_eq (th_n (eg (q0 (vi (-1)) (ln (er (rs1 results190 (v:=(vi (-1))) ?_)))))))))
 exact ⟨(-1),rfl,h⟩
def m_D3 (s1:Sl) (v1:Int) (w0:World) (K:Bool→WP):Prop :=
 Calls prog 190 #[s1.v,(vi v1)] w0 (fun e w1=>∃r1:Int,e=.returned (vi r1)∧
  K (decide (r1≥0)) w1)
theorem w_D3 (s1 : Sl) (v1 : Int) (w0 : World) (K : Bool → WP) (h : m_D3 s1 v1 w0 K) :
  Calls prog 150 #[s1.v,(vi v1)] w0 (fun e w'=>∃r2:Bool,e=.returned (vb r2)∧K r2 w'):=by
 unfold m_D3 at h
 refine cw (args:=[s1.v,(vi v1)]) func150 ntmps150 (eg (q0 (vb false) (ln (eg (q0 s1.v (q0 (vi v1) ?_))))))
 refine sc call190 (h.mono ?_)
 rintro e w1 ⟨r1,rfl,h⟩
 refine ⟨_,rfl,?_⟩
 refine q0 (vb (decide (r1≥0))) (q0 (vb (decide (r1≥0))) (ln (er (rs1 results150 (v:=(vb (decide (r1≥0)))) ?_))))
 exact ⟨(decide (r1≥0)),rfl,h⟩
end Go.Proofs
end
section
open Go Go.SE
namespace Go.SE
section
variable {P:Program} {t e:TypeId} {sz bytes:Nat}
theorem run_append_none (T:SlType P t e sz bytes) (w:World) (ty:TypeId) (s x:Sl) (hc:s.len≤s.cap) (hx:x.len=0):(Builtin.append_ #[t,t] ty #[s.v,x.v]).run P w=.ok s.v w:=by
 obtain ⟨a,n,c⟩:=s
 obtain ⟨b,m,d⟩:=x
 simp only at hc hx
 subst hx
 cases b <;> cases a <;> simp [Builtin.append_,Sl.v,run_underlying T.ht,T.sizeOf,Builtin.lenOf,Builtin.firstCells,loadCells,loadCellsFrom,storeCells,hc]
end
end Go.SE
end
section
open Go Go.SE
namespace Go.SE
theorem row_flat {w:World} {sz:Nat}:∀{rs:List (List Value)} {p:Addr},(∀r∈rs,r.length=sz)→(∀i (h:i<rs.length),Row w (p.add (i*sz)) rs[i])→Row w p rs.flatten
 | [],p,_,_=>fun i h=>by simp at h
 | r :: rs,p,hl,h=>by
  have hr:Row w p r:=by have:=h 0 (by simp);simpa [Addr.add] using this
  have hsz:=hl r (by simp)
  have ih:=row_flat (rs:=rs) (p:=p.add sz) (fun q hq=>hl q (List.mem_cons_of_mem _ hq)) (fun i hi=>by
   have:=h (i+1) (by simpa using hi)
   rw [add_add,show sz+i*sz=(i+1)*sz by rw [Nat.succ_mul];omega]
   simpa using this)
  intro i hi
  rw [List.flatten_cons] at hi ⊢
  by_cases hlt:i<r.length
  ·rw [hr i hlt,List.getElem?_append_left hlt]
  ·have:=ih (i - r.length) (by rw [List.length_append] at hi;omega)
   rw [add_add,show sz+(i - r.length)=i by omega] at this
   rw [this,List.getElem?_append_right (by omega)]
section
variable {P:Program} {t e:TypeId} {sz bytes:Nat}
theorem Rws.appendL (T : SlType P t e sz bytes) {w : World} {ty : TypeId} {s x : Sl} {rs qs : List (List Value)} (h : Rws w e sz s rs) {S : NP} (hx : Lst S w sz x qs) (hl : ∀ q ∈ qs, q.length = sz) (h1 : ∀ q ∈ qs, q.all oneCell = true) (hb : (rs.length + qs.length) * bytes ≤ 140737488355328) (hm : rs.length + qs.length ≤ maxLen) :
  ∃s' w',(Builtin.append_ #[t,t] ty #[s.v,x.v]).run P w=.ok s'.v w'∧Rws w' e sz s' (rs++qs)∧Ext s.blk w w'∧(∀b,s'.blk b→s.blk b∨w.heap.size≤b):=by
 cases hq:qs with
 | nil =>
  subst hq
  have hc:s.len≤s.cap:=by
   rcases h.own with ⟨rfl,_⟩ | ⟨g,cur,_,_,hc,_⟩
   ·exact Nat.le_refl _
   ·rw [h.len];exact hc
  exact ⟨s,w,run_append_none T w ty s x hc hx.len,by simpa using h,Ext.refl w,fun b hb=>.inl hb⟩
 | cons q0 rest =>
  rw [← hq]
  have hne:qs≠[]:=by rw [hq];simp
  have hpos:=List.length_pos_iff.2 hne
  obtain ⟨_,⟨_,_,p,hp,_⟩,_,_⟩:=hx.at_ 0 hpos
  have hrow:Row w p qs.flatten:=row_flat hl (fun i hi=>by
   obtain ⟨a,⟨_,_,b,hb',rfl⟩,_,hr⟩:=hx.at_ i hi
   rw [hp] at hb';cases hb'
   simpa using hr)
  have hxv:x.v=(Sl.mk (some p) qs.length x.cap).v:=by unfold Sl.v;rw [hp,hx.len]
  rw [hxv]
  exact h.appends T hrow hl h1 hne hb hm
end
end Go.SE
end
section
open Go Go.SE
namespace Go.SE
def look {α:Type}:List (Int×α)→Int→Option α
 | [],_=>none
 | p :: M,k=>if p.1=k then some p.2 else look M k
theorem look_none {α:Type} {M:List (Int×α)} {k:Int}:look M k=none↔k ∉ M.map Prod.fst:=by
 induction M with
 | nil=>simp [look]
 | cons p M ih =>
  rw [look]
  split
  ·rename_i h;simp [h]
  ·rename_i h;rw [ih,List.map_cons,List.mem_cons];exact ⟨fun h1 h2=>h2.elim (fun e=>h e.symm) h1,fun h1 h2=>h1 (.inr h2)⟩
theorem look_mem {α:Type} {M:List (Int×α)} {k:Int} {v:α} (h:look M k=some v):(k,v)∈M:=by
 induction M with
 | nil=>cases h
 | cons p M ih =>
  rw [look] at h
  split at h
  ·rename_i e;cases h;subst e;simp
  ·exact List.mem_cons_of_mem _ (ih h)
theorem look_at {α:Type} {M:List (Int×α)} (hn:(M.map Prod.fst).Nodup) {i:Nat} {k:Int} {v:α} (h:M[i]?=some (k,v)):look M k=some v:=by
 induction M generalizing i with
 | nil=>simp at h
 | cons p M ih =>
  rw [List.map_cons,List.nodup_cons] at hn
  rw [look]
  cases i with
  | zero=>simp at h;subst h;simp
  | succ i =>
   have h':M[i]?=some (k,v):=by simpa using h
   have hne:p.1≠k:=fun e=>hn.1 (by rw [e];exact List.mem_map.2 ⟨_,List.mem_of_getElem? h',rfl⟩)
   rw [if_neg hne]
   exact ih hn.2 h'
theorem look_of_mem {α:Type} {M:List (Int×α)} (hn:(M.map Prod.fst).Nodup) {k:Int} {v:α} (h:(k,v)∈M):look M k=some v:=by
 obtain ⟨i,hi,e⟩:=List.getElem_of_mem h
 exact look_at hn (by rw [List.getElem?_eq_getElem hi,e])
def ikey (k:Int):Value:=.int .i64 k
structure IMap {α:Type} (f:α→Value) (w:World) (m:Nat) (M:List (Int×α)):Prop where
 map:CMap w m (M.map fun p=>(ikey p.1,f p.2))
 nd:(M.map Prod.fst).Nodup
section
variable {α:Type} {f:α→Value} {w w':World} {m:Nat} {M:List (Int×α)} {P:Program} {T K E:TypeId}
theorem IMap.ext {F:NP} (h:IMap f w m M) (hE:Ext F w w') (hf:¬ F m):IMap f w' m M:=⟨h.map.ext hE hf,h.nd⟩
theorem IMap.pure (h:IMap f w m M) (hE:Pure w w'):IMap f w' m M:=h.ext hE id
theorem IMap.lt (h:IMap f w m M):m<w.heap.size:=h.map.lt
theorem IMap.of_new {p:Addr} (h:New w (.map #[] 0) p w'):IMap f w' p.block []:=⟨CMap.of_new h,List.nodup_nil⟩
theorem IMap.keys (M:List (Int×α)):∀p∈M.map (fun p=>(ikey p.1,f p.2)),∃n,p.1=.int .i64 n:=by
 intro p hp;obtain ⟨q,_,rfl⟩:=List.mem_map.1 hp;exact ⟨_,rfl⟩
theorem IMap.get (h : IMap f w m M) (hT : P.underlying T = some (.map K E)) (hK : P.underlying K = some (.int .i64)) {z : Value} (hz : (zeroValue E).run P w = .ok z w) (k : Int) (ok : Bool) :
  (look M k=none∧(Instr.lookup T (.map (some m)) (.int .i64 k) ok).run P w=.ok (if ok then .tuple #[z,.bool false] else z) w)∨∃v,look M k=some v∧(Instr.lookup T (.map (some m)) (.int .i64 k) ok).run P w=.ok (if ok then .tuple #[f v,.bool true] else f v) w:=by
 rcases h.map.lookup hT (KeyOK.of_int hK) (IMap.keys M) (k:=ikey k) ⟨k,rfl⟩ hz ok with ⟨h1,h2⟩ | ⟨i,v,h1,h2⟩
 ·refine .inl ⟨look_none.2 fun hm=>?_,h2⟩
  obtain ⟨q,hq,rfl⟩:=List.mem_map.1 hm
  exact h1 _ (List.mem_map.2 ⟨q,hq,rfl⟩) rfl
 ·rw [List.getElem?_map] at h1
  cases hi:M[i]? with
  | none=>rw [hi] at h1;cases h1
  | some q =>
   rw [hi] at h1
   obtain ⟨a,b⟩:=q
   simp [ikey] at h1
   obtain ⟨rfl,rfl⟩:=h1
   exact .inr ⟨b,look_at h.nd hi,h2⟩
theorem IMap.put (h : IMap f w m M) (hT : P.underlying T = some (.map K E)) (hK : P.underlying K = some (.int .i64)) {k : Int} (hn : look M k = none) (v : α) :
  ∃w',(Instr.mapUpdate T (.map (some m)) (.int .i64 k) (f v)).run P w=.ok () w'∧IMap f w' m (M++[(k,v)])∧Ext (·=m) w w':=by
 have hn':=look_none.1 hn
 obtain ⟨w',h1,h2,h3⟩:=h.map.insert hT (KeyOK.of_int hK) (IMap.keys M) (k:=ikey k) (v:=f v) ⟨k,rfl⟩ (fun p hp e=>by
  obtain ⟨q,hq,rfl⟩:=List.mem_map.1 hp
  simp only [ikey,Value.int.injEq,true_and] at e
  exact hn' (List.mem_map.2 ⟨q,hq,e⟩))
 refine ⟨w',h1,⟨by simpa using h2,?_⟩,h3⟩
 rw [List.map_append,List.nodup_append]
 exact ⟨h.nd,by simp,fun x hx y hy e=>by simp at hy;subst hy;exact hn' (e▸hx)⟩
theorem IMap.again (h : IMap f w m M) (hT : P.underlying T = some (.map K E)) (hK : P.underlying K = some (.int .i64)) {k : Int} {v : α} (hv : look M k = some v) :
  ∃w',(Instr.mapUpdate T (.map (some m)) (.int .i64 k) (f v)).run P w=.ok () w'∧IMap f w' m M∧Ext (·=m) w w':=by
 obtain ⟨i,hi,e⟩:=List.getElem_of_mem (look_mem hv)
 have hes:(M.map fun p=>(ikey p.1,f p.2))[i]?=some (ikey k,f v):=by simp [hi,e]
 obtain ⟨w',h1,h2,h3⟩:=h.map.update hT (KeyOK.of_int hK) (IMap.keys M) (k:=ikey k) (v:=f v) (v':=f v) ⟨k,rfl⟩ hes (fun j u hj=>by
  rw [List.getElem?_map] at hj
  cases hq:M[j]? with
  | none=>rw [hq] at hj;cases hj
  | some q =>
   rw [hq] at hj
   simp [ikey] at hj
   obtain ⟨hj',hje⟩:=List.getElem?_eq_some_iff.1 hq
   have h4:(M.map Prod.fst)[j]'(by simpa using hj')=(M.map Prod.fst)[i]'(by simpa using hi):=by simp [hje,e,hj.1]
   exact (List.getElem_inj h.nd).1 h4)
 have hset:(M.map fun p=>(ikey p.1,f p.2)).set i (ikey k,f v)=M.map fun p=>(ikey p.1,f p.2):=by
  apply List.ext_getElem?
  intro n
  rw [List.getElem?_set]
  by_cases hn:i=n
  ·subst hn;rw [if_pos rfl];simp [hi,e]
  ·rw [if_neg hn]
 rw [hset] at h2
 exact ⟨w',h1,⟨h2,h.nd⟩,h3⟩
end
end Go.SE
end
section
open Go Go.SE
namespace Go.Proofs
open Tryz
attribute [local irreducible] Calls
def tmr (ts:List Int):List (List Value):=ts.map fun t=>[.int .i64 t]
theorem tmr_len (ts:List Int):(tmr ts).length=ts.length:=by simp [tmr]
theorem slT_tm:SlType prog 46 78 1 8:=by
 refine ⟨underlying46,⟨t78,_,by kernel_rfl,(by kernel_rfl:t78.zero=some (.int .i64 0)),by kernel_rfl,by kernel_rfl,rfl⟩,by omega⟩
structure RetO (w:World) (e:TypeId) (sz:Nat) (rs:List (List Value)) (s:Sl) (w':World):Prop where
 rows:Rws w' e sz s rs
 own:∀b,s.blk b→w.heap.size≤b
 pure:Pure w w'
theorem RetO.kept {w:World} {H:NP} {e:TypeId} {sz:Nat} {rs:List (List Value)} {s:Sl} {w':World} (h:RetO w e sz rs s w'):Kept H w w':=h.pure.keptP
theorem tm_nth {S:NP} {w:World} {s:Sl} {ts:List Int} (h:Lst S w 1 s (tmr ts)) {j:Nat} (hj:j<ts.length):∃a,At s j 1 a∧S a.block∧w.cell? a=some (.int .i64 ts[j]):=by
 obtain ⟨a,h1,h2,h3⟩:=h.at_ j (by simpa [tmr] using hj)
 exact ⟨a,h1,h2,row_cell (by simpa [tmr] using h3)⟩
theorem c_slIndex {S : NP} (s : Sl) (ts : List Int) (v : Int) (w0 : World) (hs : Lst S w0 1 s (tmr ts)) (hn : ts.length ≤ 1000000) :
  Calls prog 190 #[s.v,.int .i64 v] w0 (fun e w'=>∃r:Int,e=.returned (.int .i64 r)∧((decide (r≥0)=decide (v∈ts))∧w'=w0)):=by
 refine w_Q1 _ _ w0 (fun r w'=>(decide (r≥0)=decide (v∈ts))∧w'=w0) ?_
 unfold m_Q1
 have hl:s.len=ts.length:=by rw [hs.len,tmr_len]
 refine ⟨fun i w'=>w'=w0∧∃j:Nat,i=j∧j≤ts.length∧v ∉ ts.take j,fun i _=>((ts.length:Int) - i).toNat,⟨rfl,0,rfl,Nat.zero_le _,by simp⟩,?_⟩
 rintro _ _ ⟨rfl,j,rfl,hj,hv⟩
 unfold m_Q1_l1
 refine ⟨fun h=>?_,fun h=>?_⟩
 ·have hlt:=lt_of_dec hl h
  obtain ⟨a,hat,_,hc⟩:=tm_nth hs hlt
  have htk:ts.take (j+1)=ts.take j++[ts[j]]:=List.take_succ_eq_append_getElem hlt
  refine ⟨a,hat,_,hc,fun h=>⟨?_,rfl⟩,fun h=>?_⟩
  ·have:v=ts[j]:=by simpa using h
   rw [decide_eq_true (by omega),decide_eq_true]
   rw [this];exact List.getElem_mem hlt
  ·rw [wrap_succ hlt (by omega)]
   refine ⟨⟨rfl,j+1,rfl,hlt,?_⟩,lt_dec hlt⟩
   rw [htk,List.mem_append,List.mem_singleton]
   rintro (h' | h')
   ·exact hv h'
   ·simp [h'] at h
 ·have hge:=eq_of_dec hl hj h
  subst hge
  rw [List.take_length] at hv
  exact ⟨by simp [hv],rfl⟩
theorem c_slContains {S : NP} (s : Sl) (ts : List Int) (v : Int) (w0 : World) (hs : Lst S w0 1 s (tmr ts)) (hn : ts.length ≤ 1000000) :
  Calls prog 150 #[s.v,.int .i64 v] w0 (fun e w'=>∃r:Bool,e=.returned (.bool r)∧(r=decide (v∈ts)∧w'=w0)):=by
 refine w_D3 _ _ w0 (fun r w'=>r=decide (v∈ts)∧w'=w0) ?_
 unfold m_D3
 refine (c_slIndex s ts v w0 hs hn).mono ?_
 rintro _ _ ⟨r,rfl,hr,rfl⟩
 exact ⟨_,rfl,hr,rfl⟩
end Go.Proofs
end
section
open Go Go.SE
namespace Go.SE
theorem Ext.putObj (w:World) (r:Nat) (o:Obj):Ext (·=r) w (w.putObj r o):=⟨rfl,rfl,rfl,(by first | exact Nat.le_refl _ | exact Nat.le_succ _),by simp,fun b _ hne=>World.putObj_heap_other hne⟩
abbrev Yld (P:Program) (l:Nat) (args:Array Value) (w:World) (R:Ending→WP):Prop:=YieldAt Fence.wide 0 P l args w R
def IterC (P:Program) (gf:FuncId) (lb:Array Value) {α:Type} (encs:α→Array Value) (xs:List α) (Rd:WP) (w:World):Prop :=
 ∀(l:Nat) (J Jx:List α→NP→WP) (W:World),Pure w W →
  (∀pre X A,J pre X A→Rd A) →
  (∀pre X A X' A',J pre X A→Hst W X A X' A'→J pre X' A') →
  (∀pre X A X' A',Jx pre X A→Hst W X A X' A'→Jx pre X' A') →
  (∀pre y X A,J pre X A→Hst W X A X A→(∃post,xs=pre++y :: post)→Yld P l (encs y) A (fun e A'=>(e=.returned (.bool true)∧Kept X A A'∧J (pre++[y]) X A')∨(e=.returned (.bool false)∧Kept X A A'∧Jx (pre++[y]) X A'))) →
  J [] None W →
  Calls P gf (#[.func (.yield l) #[] #[]]++lb) W (fun e A=>(∃v,e=.returned v)∧∃X,Hst W X A X A∧(J xs X A∨∃pre,Jx pre X A))
def setPs:List Nat→List Value→Env→Env
 | p :: ps,v :: vs,ρ=>setPs ps vs (upd ρ p v)
 | _,_,ρ=>ρ
theorem rep_setPs {n : Nat} : ∀ (ps : List Nat) (vs : List Value) (ρ : Env) (t : Array Value), (∀ p ∈ ps, p < n) → Rep [] n ρ { tmps := t, defers := [] } →
  Rep [] n (setPs ps vs ρ) { tmps:=(ps.zip vs).foldl (fun t (x:Nat×Value)=>t.setIfInBounds x.1 x.2) t,defers:=[] }
 | [],vs,ρ,t,_,h=>by cases vs <;> exact h
 | p :: ps,[],ρ,t,_,h=>h
 | p :: ps,v :: vs,ρ,t,hp,h=>by
  rw [List.zip_cons_cons,List.foldl_cons]
  exact rep_setPs ps vs _ _ (fun q hq=>hp q (by simp [hq])) (h.put (d:=some p) (fun k hk=>by cases hk;exact hp p (by simp)) v)
def roundE (id:Nat) (Y:NP) (A:World) (I Ix Ir:NP→WP):Exit→Env→WP
 | .normal,_,A'=>Kept Y A A'∧I Y A'
 | .exit id',_,A'=>id'=id∧Kept Y A A'∧Ix Y A'
 | .ret,_,A'=>Kept Y A A'∧Ir Y A'
 | _,_,_=>False
def afterE (D:Nat) (Q:Exit→Env→WP):Exit→Env→WP
 | .ret,ρ,w=>w.heap[D]?=some (.deferred (some []))∧Q .ret ρ (w.putObj D (.deferred none))
 | _,_,_=>False
theorem Kept.trans {H:NP} {a b c:World} (h:Kept H a b) (k:Kept H b c):Kept H a c:=⟨Nat.le_trans h.size k.size,fun i hi hH=>(k.keep i (Nat.lt_of_lt_of_le hi h.size) hH).trans (h.keep i hi hH)⟩
theorem Kept.mono {H H':NP} {a b:World} (h:Kept H a b) (hs:∀b,H' b→H b):Kept H' a b:=⟨h.size,fun i hi hH=>h.keep i hi (hs i hH)⟩
structure RngI {α:Type} (w0:World) (Rd:WP) (I Ix Ir:List α→NP→WP):Prop where
 rd:∀pre Y A,I pre Y A→Rd A
 i:∀pre Y A Y' A',I pre Y A→Hst w0 Y A Y' A'→I pre Y' A'
 x:∀pre Y A Y' A',Ix pre Y A→Hst w0 Y A Y' A'→Ix pre Y' A'
 r:∀pre Y A Y' A',Ir pre Y A→Hst w0 Y A Y' A'→Ir pre Y' A'
def wpB (P:Program) (n:Nat) (c y:Code) (Q:Exit→Env→WP) (ρ:Env) (w:World):Prop:=∀a,Rep [] n ρ a→c.wpIn (fen none) 0 P (Exit.then (fun a w=>y.wpIn (fen none) 0 P (lift ⟨none,[]⟩ n Q) a w) (lift ⟨none,[]⟩ n Q)) a w
theorem wpE_seqC {P:Program} {n:Nat} {Q:Exit→Env→WP} {ρ:Env} {w:World} {a c y:Code} (h:wpE (x:=⟨none,[]⟩) P n a (thenE (fun ρ w=>wpB P n c y Q ρ w) Q) ρ w):wpE (x:=⟨none,[]⟩) P n (.seq (.seq a c) y) Q ρ w:=fun a ha =>
 wpIn_seq (wpIn_seq (wpIn_mono (h a ha) (fun e a w hl=>by
  cases e with
  | normal=>obtain ⟨ρ',hr,hq⟩:=lift_norm hl;exact hq a hr
  | _=>exact hl)))
theorem af_r {D:Nat} {Q:Exit→Env→WP} {ρ:Env} {w:World} (h1:w.heap[D]?=some (.deferred (some []))) (h:∀w1,w1=w.putObj D (.deferred none)→Q .ret ρ w1):afterE D Q .ret ρ w:=⟨h1,h _ rfl⟩
theorem rd_n {id:Nat} {Y:NP} {A A':World} {I Ix Ir:NP→WP} {ρ:Env} (h:Kept Y A A'∧I Y A'):roundE id Y A I Ix Ir .normal ρ A':=h
theorem HBZ.behind {H Y:NP} {w A:World} {l:List HBx} {D:Nat} (hb:HB H w l) (hk:Kept H w A) (hH:∀b,H b→Y b) (hD:Y D) (hDe:A.heap[D]?=some (.deferred (some []))):HBZ [(D,.deferred (some []))] Y A l :=
 ⟨(hb.kept hk).box,fun x hx=>hH _ (hb.hid x hx),hb.ne,fun x hx=>by
  cases List.mem_singleton.1 hx;exact ⟨hD,hDe,rfl⟩⟩
theorem HBZ.leave {w0 wv:World} {Hv H:NP} {w:World} {l:List HBx} {D:Nat} (hb:HBZ [(D,.deferred (some []))] H w l) (hs:Hst w0 Hv wv H w) {w1:World} (h1:w1=w.putObj D (.deferred none)):Hst w0 Hv wv H w1∧HB H w1 l:=by
 have hz:=hb.fz _ (List.mem_singleton.2 rfl)
 have E:Ext (·=D) w w1:=by rw [h1];exact Ext.putObj w D _
 refine ⟨⟨h1▸hs.ext.trans' (Ext.putObj w D _) (fun b _ e=>by subst e;exact hz.1),hs.sub,hs.new,hs.old,fun b hb=>Nat.lt_of_lt_of_le (hs.lt b hb) E.size,Nat.le_trans hs.base E.size⟩,?_⟩
 refine ⟨fun x hx=>(hb.box x hx).ext E (fun e=>?_),hb.hid,hb.ne,fun x hx=>by cases hx⟩
 have h2:=(hb.box x hx).blk
 rw [e,hz.2.1] at h2
 cases h2
theorem HBZ.dead {H:NP} {w:World} {l:List HBx} {D:Nat} (hb:HBZ [(D,.deferred (some []))] H w l):w.heap[D]?=some (.deferred (some [])):=(hb.fz _ (List.mem_singleton.2 rfl)).2.1
theorem x_yield {P : Program} {ε : Operand → Value} {w w' : World} {d : Option Tmp} {ty : TypeId} {pos : String} {aft : Array Edge} {g : Option (Nat × Bool)} {l : Nat} {x : Operand} {v : Value} {c : List Operand} {ts : Array TypeId} {args : Array Value} {r : Next} (hx : ε x = v) (hv : v = .func (.yield l) #[] #[]) (ha : (c.map ε).toArray = args) (hr : (Instr.yield l args).run P w = .ok r w') :
  (execOp ε ⟨d,.call ⟨.value x,c.toArray,ts⟩,ty,pos,aft,g⟩).run P w=.ok r w':=by
 subst hv;subst ha
 simp [execOp,resolve,hx,Deferred.ofValue,invoke,hr]
theorem st_yield {P : Program} {ops : Array Oper} {Q : Env → WP} {ρ : Env} {w : World} {rest : List Oper} {d : Option Tmp} {ty : TypeId} {pos : String} {aft : Array Edge} {g : Option (Nat × Bool)} {l : Nat} {x : Operand} {v : Value} {c : List Operand} {ts : Array TypeId} {args : Array Value}
  (hw:Region.wanted ⟨d,.call ⟨.value x,c.toArray,ts⟩,ty,pos,aft,g⟩ (yieldedE ops ρ)=true) (hx:evE ρ x=v) (hv:v=.func (.yield l) #[] #[]) (ha:(c.map (evE ρ)).toArray=args)
  (h:Yld P l args w (fun e w''=>∃v,e=.returned v∧wpL P ops Q rest (put ρ d v) w'')):wpL P ops Q (⟨d,.call ⟨.value x,c.toArray,ts⟩,ty,pos,aft,g⟩ :: rest) ρ w:=by
 obtain ⟨fn,tmps,assign,body,hr,hR⟩:=h
 unfold wpL
 rw [if_pos hw]
 unfold yld
 rw [x_yield hx hv ha hr]
 exact hR
theorem Yld.mono {P:Program} {l:Nat} {args:Array Value} {w:World} {R R':Ending→WP} (h:Yld P l args w R) (hr:∀e w,R e w→R' e w):Yld P l args w R':=by
 obtain ⟨fn,tmps,assign,body,h1,h2⟩:=h
 exact ⟨fn,tmps,assign,body,h1,RoundIn.mono h2 hr⟩
section
variable {P:Program} {n:Nat} {Q:Exit→Env→WP} {ρ:Env} {w w0:World} {H Hv:NP} {wv:World}
theorem wpB_range {id : Nat} {g : Operand} {ps : Array Tmp} {assign body y : Code} {gf : FuncId} {lb : Array Value} {α : Type} {encs : α → Array Value} {xs : List α} {Rd : WP}
  (hg:evE ρ g=.func (.func gf) #[] lb) (eg:∀args w,(callFunc gf args).run P w=.ok (.enter gf args) w) (hit:IterC P gf lb encs xs Rd w) (hps:∀z,(encs z).size=ps.size) (hpn:∀p∈ps.toList,p<n)
  (hs:Hst w0 Hv wv H w) (I Ix Ir:List α→NP→WP) (hRI:RngI w0 Rd I Ix Ir)
  (h0:I [] H w)
  (hround:∀l z A,wpE (x:=⟨some l,[]⟩) P n assign (thenE (fun ρ' A'=>A'=A∧∀pre Y A,I pre Y A→Hst w0 Y A Y A→(∃post,xs=pre++z :: post)→wpE (x:=⟨some l,[]⟩) P n body (roundE id Y A (I (pre++[z])) (Ix (pre++[z])) (Ir (pre++[z]))) ρ' A) (fun _ _ _=>False)) (setPs ps.toList (encs z).toList ρ) A)
  (hrest:∀D Y A,Hst w0 Y A Y A→Y D→A.heap[D]?=some (.deferred (some []))→(∀b,H b→Y b)→Kept H w A→(I xs Y A∨∃pre,Ix pre Y A)→wpE (x:=⟨none,[mark D]⟩) P n y (afterE D Q) ρ A)
  (hret:∀D pre Y A,Hst w0 Y A Y A→Y D→A.heap[D]?=some (.deferred (some []))→Ir pre Y A→Q .ret ρ (A.putObj D (.deferred none))) :
  wpB P n (.block id (.rangeFunc g ps assign body)) y Q ρ w:=by
 obtain ⟨hRd,hI,hIx,hIr⟩:=hRI
 intro a ha
 refine wpIn_block (wpIn_rangeFunc ?_)
 intro fn _
 obtain ⟨rec,hrec⟩:∃rec:LoopState→Option Code→Loop,rec=fun st pe=>{ state:=st,pending:=pe,fn,tmps:=a.tmps,params:=ps,assign,body,defers:=w.heap.size }:=⟨_,rfl⟩
 obtain ⟨W1,hW1⟩:∃W1,(w.alloc (.deferred (some []))).alloc (.loop (rec .ready none))=W1:=⟨_,rfl⟩
 have hL1:W1.heap[w.heap.size+1]?=some (.loop (rec .ready none)):=by
  rw [← hW1];have:=World.alloc_heap_new (w.alloc (.deferred (some []))) (.loop (rec .ready none));rwa [World.size_alloc] at this
 have hK1:W1.heap[w.heap.size]?=some (.deferred (some [])):=by
  rw [← hW1];exact (RowKit.Below.heap_alloc _ _ _ (by simp)).trans (World.alloc_heap_new w _)
 have hsz:W1.heap.size=w.heap.size+2:=by rw [← hW1];simp
 have E1:Pure w W1:=by
  rw [← hW1]
  exact ⟨rfl,rfl,rfl,(by first | exact Nat.le_refl _ | exact Nat.le_succ _),by simp;omega,fun b hb _=>(RowKit.Below.heap_alloc _ _ _ (by simp;omega)).trans (RowKit.Below.heap_alloc _ _ _ hb)⟩
 let Yo:NP→NP:=fun X b=>H b∨b=w.heap.size∨b=w.heap.size+1∨X b
 have hHlt:∀b,H b→b<w.heap.size:=hs.lt
 have here:∀{X:NP} {A:World},Hst W1 X A X A→Hst w0 (Yo X) A (Yo X) A:=fun {X A} h =>
  ⟨Ext.refl _,fun _ h=>h,fun _ h=>.inl h,fun b hb=>by
   rcases hb with hb | rfl | rfl | hb
   ·exact hs.old b hb
   ·exact hs.base
   ·have:=hs.base;omega
   ·have:=h.old b hb;have:=hs.base;omega,fun b hb=>by
   have z:=h.base
   rcases hb with hb | rfl | rfl | hb
   ·have:=hHlt b hb;omega
   ·omega
   ·omega
   ·exact h.lt b hb,by have:=h.base;have:=hs.base;omega⟩
 have up:∀{X X':NP} {A A':World},Hst W1 X A X A→Hst W1 X A X' A'→Hst w0 (Yo X) A (Yo X') A':=fun {X X' A A'} h k =>
  ⟨k.ext.mono (fun b _ hb=>.inr (.inr (.inr hb))),fun b hb=>by
   rcases hb with hb | hb | hb | hb
   ·exact .inl hb
   ·exact .inr (.inl hb)
   ·exact .inr (.inr (.inl hb))
   ·exact .inr (.inr (.inr (k.sub b hb))),fun b hb=>by
   rcases hb with hb | hb | hb | hb
   ·exact .inl (.inl hb)
   ·exact .inl (.inr (.inl hb))
   ·exact .inl (.inr (.inr (.inl hb)))
   ·exact (k.new b hb).imp_left (fun h=>.inr (.inr (.inr h))),(here k.here).old,(here k.here).lt,(here k.here).base⟩
 have nX:∀{X:NP} {A:World},Hst W1 X A X A→∀b,b<w.heap.size+2→¬ X b:=fun h b hb hx=>by have:=h.old b hx;omega
 have keepH:∀{X X':NP} {A A':World},Kept H w A→Hst W1 X A X' A'→Kept H w A':=fun {X X' A A'} hk k =>
  hk.trans (k.ext.kept (fun b hb hx=>nX k.here b (by have:=hHlt b hb;omega) hx))
 have turn:∀{X:NP} {A:World} (o:Obj),Hst W1 X A X A→Hst w0 (Yo X) A (Yo X) (A.putObj (w.heap.size+1) o):=fun {X A} o h =>
  ⟨(Ext.putObj A _ o).mono (fun b _ e=>by subst e;exact .inr (.inr (.inl rfl))),fun _ h=>h,fun _ h=>.inl h,(here h).old,fun b hb=>by have:=(here h).lt b hb;simpa using this,by simpa using (here h).base⟩
 have hstW:∀{X:NP} {A:World} (o:Obj),Hst W1 X A X A→Hst W1 X (A.putObj (w.heap.size+1) o) X (A.putObj (w.heap.size+1) o):=fun o h =>
  ⟨Ext.refl _,fun _ h=>h,fun _ h=>.inl h,h.old,fun b hb=>by have:=h.lt b hb;simpa using this,by simpa using h.base⟩
 have keepT:∀{A:World} (o:Obj),Kept H w A→Kept H w (A.putObj (w.heap.size+1) o):=fun {A} o hk=>hk.trans ((Ext.putObj A _ o).kept (fun b hb e=>by have:=hHlt b hb;omega))
 let Jc:Code→List α→NP→WP:=fun c pre Y A=>match c with
  | .ret=>Ir pre Y A
  | .exit id'=>id'=id∧Ix pre Y A
  | _=>False
 have hJc:∀c pre Y A Y' A',Jc c pre Y A→Hst w0 Y A Y' A'→Jc c pre Y' A':=by
  intro c pre Y A Y' A' h k
  cases c <;> first | exact hIr _ _ _ _ _ h k | exact ⟨h.1,hIx _ _ _ _ _ h.2 k⟩ | exact h
 refine ⟨w.heap.size+1,[mark w.heap.size],W1,{ target:=.fn (.func gf) lb,args:=#[.func (.yield (w.heap.size+1)) #[] #[]] },W1,gf,
  #[.func (.yield (w.heap.size+1)) #[] #[]]++lb,W1,?_,?_,fun _ _=>trivial,?_,(fun h=>by cases h),callsIn_wide.2 ?_⟩
 ·rw [← hW1,hrec];exact run_enterLoop_outer _ _ _ _ _
 ·have hev:a.eval g=.func (.func gf) #[] lb:=by rw [ha.eval];exact hg
  simp only [resolve,hev]
  simp [go_sem]
 ·simp [invoke,go_sem,eg]
 have hst1:Hst W1 None W1 None W1:=Hst.start W1
 refine (hit (w.heap.size+1)
  (fun pre X A=>Hst W1 X A X A∧I pre (Yo X) A∧A.heap[w.heap.size+1]?=some (.loop (rec .ready none))∧A.heap[w.heap.size]?=some (.deferred (some []))∧Kept H w A)
  (fun pre X A=>Hst W1 X A X A∧∃c,Jc c pre (Yo X) A∧A.heap[w.heap.size+1]?=some (.loop (rec .done (some c)))∧A.heap[w.heap.size]?=some (.deferred (some []))∧Kept H w A)
  W1 E1 (fun pre X A h=>hRd _ _ _ h.2.1)
  (fun pre X A X' A' h k=>⟨k.here,hI _ _ _ _ _ h.2.1 (up h.1 k),k.ext.heap h.2.2.1 (nX k.here _ (by omega)),k.ext.heap h.2.2.2.1 (nX k.here _ (by omega)),keepH h.2.2.2.2 k⟩)
  (fun pre X A X' A' h k=>by
   obtain ⟨h1,c,h2,h3,h4,h5⟩:=h
   exact ⟨k.here,c,hJc _ _ _ _ _ _ h2 (up h1 k),k.ext.heap h3 (nX k.here _ (by omega)),k.ext.heap h4 (nX k.here _ (by omega)),keepH h5 k⟩)
  ?_ ⟨hst1,hI _ _ _ _ _ h0 ⟨E1.pure,fun b hb=>.inl hb,fun b hb=>?_,(here hst1).old,(here hst1).lt,(here hst1).base⟩,hL1,hK1,E1.keptP⟩).mono ?_
 ·-- one round
  rintro pre z X A ⟨hX,hi,hl,hk,hkH⟩ _ hpost
  have hlt:w.heap.size+1<A.heap.size:=(Array.getElem?_eq_some_iff.1 hl).1
  have hy:=run_yield (P:=P) (args:=encs z) hl (by rw [hrec];exact hps z)
  rw [hrec] at hy
  refine ⟨fn,_,assign,body,hy,roundIn_of_wpIn (F:=Fence.wide) trivial ?_⟩
  have hrep:Rep [] n (setPs ps.toList (encs z).toList ρ) { tmps:=(ps.zip (encs z)).foldl (fun t (x:Nat×Value)=>t.setIfInBounds x.1 x.2) a.tmps,defers:=[] }:=by
   have:=rep_setPs ps.toList (encs z).toList ρ a.tmps hpn ⟨rfl,ha.size,ha.get⟩
   rw [← Array.foldl_toList,Array.toList_zip]
   exact this
  refine wpIn_mono (hround (w.heap.size+1) z A _ hrep) ?_
  rintro e a1 A1 ⟨ρ',hor⟩
  have hor:=hor.resolve_right (fun h=>by cases h.2.1)
  obtain ⟨hr1,hq⟩:=hor
  cases e <;> first | exact hq.elim | skip
  obtain ⟨rfl,hbody⟩:=hq
  refine ⟨_,run_beginRound hl (by rw [hrec]),?_⟩
  have T1:=turn (.loop { rec .ready none with state:=.busy }) hX
  have hX1:=hstW (.loop { rec .ready none with state:=.busy }) hX
  have hl2:(A1.putObj (w.heap.size+1) (.loop { rec .ready none with state:=.busy })).heap[w.heap.size+1]?=some (.loop { rec .ready none with state:=.busy }):=World.putObj_heap_same hlt
  have hk2:(A1.putObj (w.heap.size+1) (.loop { rec .ready none with state:=.busy })).heap[w.heap.size]?=some (.deferred (some [])):=(World.putObj_heap_other (by omega)).trans hk
  have hkH2:=keepT (.loop { rec .ready none with state:=.busy }) hkH
  have hi2:=hI _ _ _ _ _ hi T1
  refine wpIn_mono (hbody pre (Yo X) _ hi2 T1.here hpost a1 hr1) ?_
  have fin : ∀ (jump : Option Code) (A3 : World), Kept (Yo X) (A1.putObj (w.heap.size + 1) (.loop { rec .ready none with state := .busy })) A3 →
    (Instr.endRound (w.heap.size+1) jump).run P A3=.ok (.bool jump.isNone) (A3.putObj (w.heap.size+1) (.loop (rec (if jump.isNone then .ready else .done) jump))) ∧
    Hst W1 X (A3.putObj (w.heap.size+1) (.loop (rec (if jump.isNone then .ready else .done) jump))) X (A3.putObj (w.heap.size+1) (.loop (rec (if jump.isNone then .ready else .done) jump))) ∧
    Hst w0 (Yo X) A3 (Yo X) (A3.putObj (w.heap.size+1) (.loop (rec (if jump.isNone then .ready else .done) jump))) ∧
    (A3.putObj (w.heap.size+1) (.loop (rec (if jump.isNone then .ready else .done) jump))).heap[w.heap.size+1]?=some (.loop (rec (if jump.isNone then .ready else .done) jump)) ∧
    (A3.putObj (w.heap.size+1) (.loop (rec (if jump.isNone then .ready else .done) jump))).heap[w.heap.size]?=some (.deferred (some [])) ∧
    Kept H w (A3.putObj (w.heap.size+1) (.loop (rec (if jump.isNone then .ready else .done) jump))) ∧
    Kept X A1 (A3.putObj (w.heap.size+1) (.loop (rec (if jump.isNone then .ready else .done) jump))):=fun jump A3 hk3=>by
   have hl3:A3.heap[w.heap.size+1]?=some (.loop { rec .ready none with state:=.busy }):=by
    rw [hk3.keep _ (by simpa using hlt) (.inr (.inr (.inl rfl)))];exact hl2
   have hD3:A3.heap[w.heap.size]?=some (.deferred (some [])):=by
    rw [hk3.keep _ (by simp;omega) (.inr (.inl rfl))];exact hk2
   have hX3:Hst W1 X A3 X A3:=hX1.again (hk3.mono (fun b hb=>.inr (.inr (.inr hb))))
   have hrun:=run_endRound (P:=P) jump hl3
   rw [hrec] at hrun
   refine ⟨by rw [hrec];exact hrun,hstW _ hX3,turn _ hX3,World.putObj_heap_same (Array.getElem?_eq_some_iff.1 hl3).1,(World.putObj_heap_other (by omega)).trans hD3,keepT _ (hkH2.trans (hk3.mono (fun b hb=>.inl hb))),?_⟩
   have k1:Kept X A1 (A1.putObj (w.heap.size+1) (.loop { rec .ready none with state:=.busy })):=(Ext.putObj A1 _ _).kept (fun b hb e=>by have:=hX.old b hb;omega)
   exact (k1.trans (hk3.mono (fun b hb=>.inr (.inr (.inr hb))))).trans ((Ext.putObj A3 _ _).kept (fun b hb e=>by have:=hX.old b hb;omega))
  rintro e a3 A3 ⟨ρ3,hor⟩
  have hor:=hor.resolve_right (fun h=>by cases h.2.1)
  obtain ⟨hr3,hq⟩:=hor
  cases e with
  | normal =>
   obtain ⟨hk3,hi3⟩:=hq
   obtain ⟨f1,f2,f3,f4,f5,f6,f7⟩:=fin none A3 hk3
   exact ⟨_,_,f1,.inl ⟨rfl,f7,f2,hI _ _ _ _ _ hi3 f3,f4,f5,f6⟩⟩
  | ret =>
   obtain ⟨hk3,hi3⟩:=hq
   obtain ⟨f1,f2,f3,f4,f5,f6,f7⟩:=fin (some .ret) A3 hk3
   exact ⟨_,_,f1,.inr ⟨rfl,f7,f2,.ret,hIr _ _ _ _ _ hi3 f3,f4,f5,f6⟩⟩
  | exit id' =>
   obtain ⟨rfl,hk3,hi3⟩:=hq
   obtain ⟨f1,f2,f3,f4,f5,f6,f7⟩:=fin (some (.exit id')) A3 hk3
   exact ⟨_,_,f1,.inr ⟨rfl,f7,f2,.exit id',⟨rfl,hIx _ _ _ _ _ hi3 f3⟩,f4,f5,f6⟩⟩
  | goto t=>exact hq.elim
  | panic ch=>exact hq.elim
  | outgrown=>exact hq.elim
 ·rcases hb with hb | rfl | rfl | hb
  ·exact .inl hb
  ·exact .inr (Nat.le_refl _)
  ·exact .inr (by omega)
  ·exact hb.elim
 ·-- behind the iterator
  have hrepM:Rep [mark w.heap.size] n ρ { a with defers:=[mark w.heap.size]++a.defers }:=⟨by rw [show a.defers=[] from ha.defers];rfl,ha.size,ha.get⟩
  have go:∀(A:World),Hst w0 (Yo fun b=>H b∨b=w.heap.size∨b=w.heap.size+1) A (Yo fun b=>H b∨b=w.heap.size∨b=w.heap.size+1) A→True:=fun _ _=>trivial
  have rest : ∀ (X : NP) (A : World), Hst w0 (Yo X) A (Yo X) A → A.heap[w.heap.size]? = some (.deferred (some [])) → Kept H w A → (I xs (Yo X) A ∨ ∃ pre, Ix pre (Yo X) A) →
    y.wpIn (fen none) 0 P (lift ⟨none,[]⟩ n Q) { a with defers:=[mark w.heap.size]++a.defers } A:=by
   intro X A hA hD hkA hIA
   refine wpIn_mono (hrest w.heap.size (Yo X) A hA (.inr (.inl rfl)) hD (fun b hb=>.inl hb) hkA hIA _ hrepM) ?_
   rintro e a2 A2 ⟨ρ2,⟨hr2,hq⟩ | ⟨_,_,h,_⟩⟩
   ·cases e <;> first | exact hq.elim | skip
    exact ⟨ρ2,.inr ⟨rfl,rfl,rfl,w.heap.size,hr2,hq.1,hq.2⟩⟩
   ·cases h
  rintro e A ⟨⟨v,rfl⟩,X,_,⟨hX,hi,hl,hk,hkH⟩ | ⟨pre,hX,c,hc,hl,hk,hkH⟩⟩
  ·obtain ⟨o, hrun⟩ : ∃ o, (Instr.endLoop (w.heap.size + 1)).run P A = .ok none (A.putObj (w.heap.size + 1) o) := by
    have:=run_endLoop (P:=P) hl (by rw [hrec];simp)
    rw [hrec] at this
    exact ⟨_,this⟩
   have T:=turn o hX
   exact ⟨none,_,hrun,rest X _ T.here ((World.putObj_heap_other (by omega)).trans hk) (keepT _ hkH) (.inl (hI _ _ _ _ _ hi T))⟩
  ·obtain ⟨o, hrun⟩ : ∃ o, (Instr.endLoop (w.heap.size + 1)).run P A = .ok (some c) (A.putObj (w.heap.size + 1) o) := by
    have:=run_endLoop (P:=P) hl (by rw [hrec];simp)
    rw [hrec] at this
    exact ⟨_,this⟩
   have T:=turn o hX
   refine ⟨some c,_,hrun,?_⟩
   have hc':=hJc _ _ _ _ _ _ hc T
   have hD:=(World.putObj_heap_other (w:=A) (r:=w.heap.size+1) (o:=o) (k:=w.heap.size) (by omega)).trans hk
   cases c <;> first | exact hc.elim | skip
   case exit id' =>
    obtain ⟨rfl,hx⟩:=hc'
    refine wpIn_exit ?_
    simp only [Exit.inBlock,if_true]
    exact rest X _ T.here hD (keepT _ hkH) (.inr ⟨pre,hx⟩)
   case ret =>
    refine wpIn_ret ?_
    exact ⟨ρ,.inr ⟨rfl,rfl,rfl,w.heap.size,hrepM,hD,hret w.heap.size pre (Yo X) _ T.here (.inr (.inl rfl)) hD hc'⟩⟩
end
end Go.SE
namespace Go.SE
end Go.SE
end
section
open Go Go.SE
open Go.IntKind renaming i64 → q6
namespace Go.Proofs
open Tryz
set_option maxRecDepth 100000
set_option maxHeartbeats 4000000
attribute [local irreducible] wpL wpX opE wpE Calls
def m_R1_l1 (l1:Sl) (n1 i1:Int) (wl1:World) (Kc1:Int→Int→WP) (K:Bool→WP):Prop :=
 Br ((decide (i1<(l1.len:Int))) && (decide (i1≤10)))
  (∃a1:Addr,At l1 i1 6 a1 ∧
  ∃aK aV:Int,∃aW aX:Int,∃aM:ByteArray,∃aY:Sl,Row wl1 a1 [(vi aK),(vi aV),(vi aW),(vu aX),(vs aM),aY.v] ∧
  Calls prog 75 #[(.agg #[(vi aK),(vi aV),(vi aW),(vu aX),(vs aM),aY.v]),(vi 500)] wl1 (fun e w2=>∃r1:Int,e=.returned (vi r1)∧
   Br (decide ((q6.wrap (n1+r1))≥500))
    (K true w2)
    (Kc1 (q6.wrap (n1+r1)) (q6.wrap (i1+1)) w2)))
  (K (decide ((l1.len:Int)>10)) wl1)
def m_R1 (l1:Sl) (w0:World) (K:Bool→WP):Prop :=
 ∃(I1:Int→Int→WP) (mu1:Int→Int→World→Nat),I1 0 0 w0 ∧
  ∀(n1 i1:Int) (wl1:World),I1 n1 i1 wl1→m_R1_l1 l1 n1 i1 wl1 (fun y'0 y'1 w'=>I1 y'0 y'1 w'∧mu1 y'0 y'1 w'<mu1 n1 i1 wl1) K
theorem w_R1 (l1 : Sl) (w0 : World) (K : Bool → WP) (h : m_R1 l1 w0 K) :
  Calls prog 23 #[l1.v] w0 (fun e w'=>∃r2:Bool,e=.returned (vb r2)∧K r2 w'):=by
 unfold m_R1 at h
 refine cw (args:=[l1.v]) func23 ntmps23 (eg (q0 (vb false) (ln (eg (q0 (vi 0) (ln (wpE_seq ?_)))))))
 refine eg (q0 (vi 0) (ln (wpE_block ?_)))
 obtain ⟨I1,mu1,h0,hr⟩:=h
 refine wpE_loop (σ:=Int×Int×World) (fun s ρ w=>w=s.2.2∧Has ρ [(0,l1.v),(3,(vi s.1)),(4,(vi s.2.1))]∧I1 s.1 s.2.1 s.2.2) (fun s=>mu1 s.1 s.2.1 s.2.2) (0,0,w0) ⟨rfl,hm,h0⟩ ?_
 rintro ⟨n1,i1,wl1⟩ ρ w ⟨hw,hH,hI⟩
 obtain rfl:wl1=w:=(show w=wl1 from hw).symm
 have hH:Has ρ [(0,l1.v),(3,(vi n1)),(4,(vi i1))]:=hH
 have h:=hr n1 i1 wl1 hI
 unfold m_R1_l1 at h
 refine wpE_has hH ?_
 refine wpE_seq (wpE_seq ?_)
 refine wpE_via (fun ρ wJ=>∃b1'0:Bool,((decide (i1<(l1.len:Int)))=b1'0)∧wl1=wJ∧Has ρ [(0,l1.v),(3,(vi n1)),(4,(vi i1)),(12,(vb (b1'0 && (decide (i1≤10)))))]) ?_ ?_
 refine rg (q0 (vi i1) (q0 l1.v (q0 (vi (l1.len:Int)) (q0 (vb (decide (i1<(l1.len:Int)))) (q0 (vb (decide (i1<(l1.len:Int)))) ?_)))))
 rcases bte (decide (i1<(l1.len:Int))) with hg2 | hg2
 refine q1 (vi i1) (wy 9 hg2) (q1 (vb (decide (i1≤10))) (wy 9 hg2) (q2 (vb (decide (i1≤10))) (xT hg2) (ln ?_)))
 exact ⟨true,hg2,rfl,hm⟩
 refine sk (yD 9 hg2) (sk (yD 9 hg2) (q2 (vb false) (xF hg2) (ln ?_)))
 exact ⟨false,hg2,rfl,hm⟩
 rintro ρ w1 ⟨b1'0,he0,hw,hH⟩
 subst he0
 subst hw
 refine norm_has hH ?_
 refine th_n ?_
 refine wpE_cond (t:=((decide (i1<(l1.len:Int))) && (decide (i1≤10)))) (by kernel_rfl) (fun hc1=>?_) (fun hc1=>?_)
 have h:=h.1 hc1
 refine wpE_skip (th_n (wpE_seq (wpE_block (eg (q0 (vi n1) (q0 l1.v (q0 (vi i1) ?_)))))))
 obtain ⟨a1,hv2,h⟩:=h
 refine q2 (vp (some a1)) (xi (runUnderlying66 _) (sizeOf107 _) hv2) ?_
 obtain ⟨aK,aV,aW,aX,aM,aY,hv1,h⟩:=h
 refine q2 (.agg #[(vi aK),(vi aV),(vi aW),(vu aX),(vs aM),aY.v]) (xa a1 [(vi aK),(vi aV),(vi aW),(vu aX),(vs aM),aY.v] (isAgg107 _) (sizeOf107 _) hv1) ?_
 refine sc call75 (h.mono ?_)
 rintro e w2 ⟨r1,rfl,h⟩
 refine ⟨_,rfl,?_⟩
 refine q0 (vi (q6.wrap (n1+r1))) (q0 (vi (q6.wrap (n1+r1))) (ln (eg (q0 (vi (q6.wrap (n1+r1))) (q0 (vb (decide ((q6.wrap (n1+r1))≥500))) (ln ?_))))))
 refine wpE_cond (t:=(decide ((q6.wrap (n1+r1))≥500))) (by kernel_rfl) (fun hc2=>?_) (fun hc2=>?_)
 have h:=h.1 hc2
 refine eg (q0 (vb true) (ln (er (bl_r (th_r (th_r (bl_r (th_r (rs1 results23 (v:=(vb true)) ?_)))))))))
 exact ⟨true,rfl,h⟩
 have h:=h.2 hc2
 refine wpE_skip (bl_n (th_n (rg (q0 (vi i1) (q0 (vi (q6.wrap (i1+1))) (q0 (vi (q6.wrap (i1+1))) (ln ?_)))))))
 exact ⟨((q6.wrap (n1+r1)),(q6.wrap (i1+1)),w2),⟨rfl,hm,h.1⟩,h.2⟩
 have h:=h.2 hc1
 refine wpE_exit (th_x (th_x (bl_eq (th_n (eg (q0 l1.v (q0 (vi (l1.len:Int)) (q0 (vb (decide ((l1.len:Int)>10))) (q0 (vb (decide ((l1.len:Int)>10))) (wpL_nil ?_))))))))))
 refine th_n (er (rs1 results23 (v:=(vb (decide ((l1.len:Int)>10)))) ?_))
 exact ⟨(decide ((l1.len:Int)>10)),rfl,h⟩
def m_X_j1 (p1:Option Addr) (a1 b1:Int) (x1:Bool) (w0:World) (H:NP) (w:World) (K:Int→Int→Int→ByteArray→Bool→Bool→Int→WP):Prop :=
 Br x1
  (∀(w3:World),Hst w0 H w H w3 →
  K 0 0 0 ⟨#[]⟩ false false 51 w3)
  (Calls prog 51 #[(vp p1),(vi a1)] w (fun e w4=>∃aA aB aD:Int,∃aE:ByteArray,∃aC r1:Bool,e=.returned (.tuple #[(.agg #[(vi aA),(vi aB),(vu aD),(vs aE),(vb aC)]),(vb r1)])∧
   Kept H w w4 ∧
   ∀(H2:NP) (w6:World),Hst w0 H w4 H2 w6 →
   Calls prog 51 #[(vp p1),(vi b1)] w6 (fun e w7=>∃aJ aF aH:Int,∃aI:ByteArray,∃aG r2:Bool,e=.returned (.tuple #[(.agg #[(vi aJ),(vi aF),(vu aH),(vs aI),(vb aG)]),(vb r2)])∧
    Kept H2 w6 w7 ∧
    Br ((aA != 1) || (aJ != 1))
     (∀(H4:NP) (w11:World),Hst w0 H2 w7 H4 w11 →
     K 0 0 0 ⟨#[]⟩ false false 120 w11)
     (∀y1:Bool,y1=((((aB != 0) || (aF != 1)) || (aD != aH)) || (!(decide (aE=aI)))) →
     Br y1
      (∀(H10:NP) (w20:World),Hst w0 H2 w7 H10 w20 →
      K aA aB aD aE aC (aC || aG) 122 w20)
      (∀(H10:NP) (w21:World),Hst w0 H2 w7 H10 w21 →
      K aA aB aD aE aC (aC || aG) 0 w21)))))
def m_X (p1:Option Addr) (a1 b1:Int) (w0:World) (K:Int→Int→Int→ByteArray→Bool→Bool→Int→WP):Prop :=
 Br (Option.isNone p1)
  (∀(H1:NP) (w2:World),Hst w0 None w0 H1 w2 →
  K 0 0 0 ⟨#[]⟩ false false 7 w2)
  (∀(H1:NP) (w1:World),Hst w0 None w0 H1 w1 →
  Calls prog 160 #[(vp p1),(vi a1)] w1 (fun e w22=>∃r3:Int,e=.returned (vi r3)∧
   Kept H1 w1 w22 ∧
   Br (r3 == 0)
    (m_X_j1 p1 a1 b1 true w0 H1 w22 K)
    (Calls prog 160 #[(vp p1),(vi b1)] w22 (fun e w23=>∃r4:Int,e=.returned (vi r4)∧
     Kept H1 w22 w23 ∧
     m_X_j1 p1 a1 b1 (r4 == 0) w0 H1 w23 K))))
theorem w_X (p1 : Option Addr) (a1 b1 : Int) (w0 : World) (K : Int → Int → Int → ByteArray → Bool → Bool → Int → WP) (h : m_X p1 a1 b1 w0 K) :
  Calls prog 90 #[(vp p1),(vi a1),(vi b1)] w0 (fun e w'=>∃aR aU aZ:Int,∃aS:ByteArray,∃cA r5:Bool,∃r6:Int,e=.returned (.tuple #[(.agg #[(vi aR),(vi aU),(vu aZ),(vs aS),(vb cA)]),(vb r5),(vi r6)])∧K aR aU aZ aS cA r5 r6 w'):=by
 unfold m_X at h
 refine cw (args:=[(vp p1),(vi a1),(vi b1)]) func90 ntmps90 ?_
 have hs:=Hst.start w0
 have hb:=HB.nil None w0
 refine eg (sn (O:=(.cells #[(vi 0),(vi 0),(vu 0),ve,(vb false)] 35)) (x_alloc (zeroValue35 _) rfl) ?_)
 intro p2 w1 hn1
 obtain ⟨H1,hs,hb⟩:=hs.alloc hb hn1
 refine q0 (vb false) (q0 (vi 0) (ln (wpE_seq (eg (q0 (vp p1) (q2 (vb (Option.isNone p1)) (x_ptreq (by kernel_rfl) rfl underlying68) (ln ?_)))))))
 refine wpE_cond (t:=(Option.isNone p1)) (by kernel_rfl) (fun hc1=>?_) (fun hc1=>?_)
 have h:=h.1 hc1
 refine eg (q0 (.agg #[(vi 0),(vi 0),(vu 0),ve,(vb false)]) (st_set (want0 rfl) (xo p2 [(vi 0),(vi 0),(vu 0),ve,(vb false)] (sizeOf35 _) (hb.k0 0 5 gZ)) ?_))
 intro w2 hn2
 obtain ⟨hs,hb⟩:=hb.s0 (l':=[(p2,[(vi 0),(vi 0),(vu 0),ve,(vb false)],35)]) 0 [(vi 0),(vi 0),(vu 0),ve,(vb false)] hs hn2 gZ
 refine q0 (vb false) (q0 (vi 7) (ln (er (th_r ?_))))
 have h:=h H1 w2 hs
 have hs:=hs.here
 refine resG (.inl rfl) (vs:=[(.agg #[(vi 0),(vi 0),(vu 0),ve,(vb false)]),(vb false),(vi 7)]) (v:=(.tuple #[(.agg #[(vi 0),(vi 0),(vu 0),ve,(vb false)]),(vb false),(vi 7)])) results90 ⟨(rva (isAgg35 _) (sizeOf35 _) (hb.r0 0 5 gZ)),(rvT (by kernel_rfl)),(rvT (by kernel_rfl)),trivial⟩ (by kernel_rfl) ?_
 exact ⟨0,0,0,⟨#[]⟩,false,false,7,rfl,h⟩
 have h:=h.2 hc1
 refine wpE_skip (th_n (wpE_seq (wpE_seq ?_)))
 refine wpE_joinT (fun ρ w=>∃x1:Bool,∃H:NP,Has ρ [(0,(vp p1)),(1,(vi a1)),(2,(vi b1)),(6,(vp (some p2))),(26,(vb x1))]∧Hst w0 H w H w∧HB H w [(p2,[(vi 0),(vi 0),(vu 0),ve,(vb false)],35)]∧m_X_j1 p1 a1 b1 x1 w0 H w K) ?_ ?_
 rintro ρ w ⟨x1,H,hH,hs,hb,h⟩
 unfold m_X_j1 at h
 refine wpE_has hH ?_
 refine wpE_cond (t:=x1) (by kernel_rfl) (fun hc2=>?_) (fun hc2=>?_)
 have h:=h.1 hc2
 refine eg (q0 (.agg #[(vi 0),(vi 0),(vu 0),ve,(vb false)]) (st_set (want0 rfl) (xo p2 [(vi 0),(vi 0),(vu 0),ve,(vb false)] (sizeOf35 _) (hb.k0 0 5 gZ)) ?_))
 intro w3 hn3
 obtain ⟨hs,hb⟩:=hb.s0 (l':=[(p2,[(vi 0),(vi 0),(vu 0),ve,(vb false)],35)]) 0 [(vi 0),(vi 0),(vu 0),ve,(vb false)] hs hn3 gZ
 refine q0 (vb false) (q0 (vi 51) (ln (er (th_r ?_))))
 have h:=h w3 hs
 have hs:=hs.here
 refine resG (.inl rfl) (vs:=[(.agg #[(vi 0),(vi 0),(vu 0),ve,(vb false)]),(vb false),(vi 51)]) (v:=(.tuple #[(.agg #[(vi 0),(vi 0),(vu 0),ve,(vb false)]),(vb false),(vi 51)])) results90 ⟨(rva (isAgg35 _) (sizeOf35 _) (hb.r0 0 5 gZ)),(rvT (by kernel_rfl)),(rvT (by kernel_rfl)),trivial⟩ (by kernel_rfl) ?_
 exact ⟨0,0,0,⟨#[]⟩,false,false,51,rfl,h⟩
 have h:=h.2 hc2
 refine wpE_skip (th_n (eg (q0 (vp p1) (q0 (vi a1) ?_))))
 refine sc call51 (h.mono ?_)
 rintro e w4 ⟨aA,aB,aD,aE,aC,r1,rfl,hk,h⟩
 refine ⟨_,rfl,?_⟩
 obtain ⟨hs,hb⟩:=hk.hh hs hb
 refine q0 (.tuple #[(.agg #[(vi aA),(vi aB),(vu aD),(vs aE),(vb aC)]),(vb r1)]) (q0 (.agg #[(vi aA),(vi aB),(vu aD),(vs aE),(vb aC)]) (q0 (vb r1) (sn (O:=(.cells #[(vi 0),(vi 0),(vu 0),ve,(vb false)] 35)) (x_alloc (zeroValue35 _) rfl) ?_)))
 intro p3 w5 hn4
 obtain ⟨H2,hs,hb⟩:=hs.alloc hb hn4
 refine ss (xo p3 [(vi aA),(vi aB),(vu aD),(vs aE),(vb aC)] (sizeOf35 _) (hb.k0 0 5 gZ)) ?_
 intro w6 hn5
 obtain ⟨hs,hb⟩:=hb.s0 (l':=[(p3,[(vi aA),(vi aB),(vu aD),(vs aE),(vb aC)],35),(p2,[(vi 0),(vi 0),(vu 0),ve,(vb false)],35)]) 0 [(vi aA),(vi aB),(vu aD),(vs aE),(vb aC)] hs hn5 gZ
 refine q0 (vb r1) (ln (eg (q0 (vp p1) (q0 (vi b1) ?_))))
 have h:=h H2 w6 hs
 have hs:=hs.here
 refine sc call51 (h.mono ?_)
 rintro e w7 ⟨aJ,aF,aH,aI,aG,r2,rfl,hk,h⟩
 refine ⟨_,rfl,?_⟩
 obtain ⟨hs,hb⟩:=hk.hh hs hb
 refine q0 (.tuple #[(.agg #[(vi aJ),(vi aF),(vu aH),(vs aI),(vb aG)]),(vb r2)]) (q0 (.agg #[(vi aJ),(vi aF),(vu aH),(vs aI),(vb aG)]) (q0 (vb r2) (sn (O:=(.cells #[(vi 0),(vi 0),(vu 0),ve,(vb false)] 35)) (x_alloc (zeroValue35 _) rfl) ?_)))
 intro p4 w8 hn6
 obtain ⟨H3,hs,hb⟩:=hs.alloc hb hn6
 refine ss (xo p4 [(vi aJ),(vi aF),(vu aH),(vs aI),(vb aG)] (sizeOf35 _) (hb.k0 0 5 gZ)) ?_
 intro w9 hn7
 obtain ⟨hs,hb⟩:=hb.s0 (l':=[(p4,[(vi aJ),(vi aF),(vu aH),(vs aI),(vb aG)],35),(p3,[(vi aA),(vi aB),(vu aD),(vs aE),(vb aC)],35),(p2,[(vi 0),(vi 0),(vu 0),ve,(vb false)],35)]) 0 [(vi aJ),(vi aF),(vu aH),(vs aI),(vb aG)] hs hn7 gZ
 refine q0 (vb r2) (ln (wpE_seq (wpE_seq ?_)))
 refine wpE_via (fun ρ wJ=>∃b2'0:Bool,∃HJ:NP,((aA != 1)=b2'0)∧Hst w0 H2 w7 HJ wJ∧HB HJ wJ [(p4,[(vi aJ),(vi aF),(vu aH),(vs aI),(vb aG)],35),(p3,[(vi aA),(vi aB),(vu aD),(vs aE),(vb aC)],35),(p2,[(vi 0),(vi 0),(vu 0),ve,(vb false)],35)]∧Has ρ [(6,(vp (some p2))),(9,(vp (some p3))),(11,(vp (some p4))),(47,(vb (b2'0 || (aJ != 1))))]) ?_ ?_
 refine rg (q0 (vp (some p3)) (q2 (vi aA) (xl (isAgg3 _) (hb.c0 1 (gS gZ))) (q0 (vb (aA != 1)) (q0 (vb (aA != 1)) ?_))))
 rcases bte (aA != 1) with hg2 | hg2
 refine sk (yD 43 hg2) (sk (yD 43 hg2) (sk (yD 43 hg2) (q2 (vb true) (xT hg2) (ln ?_))))
 exact ⟨true,_,hg2,hs,hb,hm⟩
 refine q1 (vp (some p4)) (wy 43 hg2) (stp (v:=(vi aJ)) (wy 43 hg2) (xl (isAgg3 _) (hb.c0 0 gZ)) (q1 (vb (aJ != 1)) (wy 43 hg2) (q2 (vb (aJ != 1)) (xF hg2) (ln ?_))))
 exact ⟨false,_,hg2,hs,hb,hm⟩
 rintro ρ w10 ⟨b2'0,H4,he0,hs,hb,hH⟩
 subst he0
 refine norm_has hH ?_
 refine th_n ?_
 refine wpE_cond (t:=((aA != 1) || (aJ != 1))) (by kernel_rfl) (fun hc3=>?_) (fun hc3=>?_)
 have h:=h.1 hc3
 refine eg (q0 (.agg #[(vi 0),(vi 0),(vu 0),ve,(vb false)]) (st_set (want0 rfl) (xo p2 [(vi 0),(vi 0),(vu 0),ve,(vb false)] (sizeOf35 _) (hb.k0 2 5 (gS (gS gZ)))) ?_))
 intro w11 hn8
 obtain ⟨hs,hb⟩:=hb.s0 (l':=[(p4,[(vi aJ),(vi aF),(vu aH),(vs aI),(vb aG)],35),(p3,[(vi aA),(vi aB),(vu aD),(vs aE),(vb aC)],35),(p2,[(vi 0),(vi 0),(vu 0),ve,(vb false)],35)]) 2 [(vi 0),(vi 0),(vu 0),ve,(vb false)] hs hn8 (gS (gS gZ))
 refine q0 (vb false) (q0 (vi 120) (ln (er (th_r ?_))))
 have h:=h H4 w11 hs
 have hs:=hs.here
 refine resG (.inl rfl) (vs:=[(.agg #[(vi 0),(vi 0),(vu 0),ve,(vb false)]),(vb false),(vi 120)]) (v:=(.tuple #[(.agg #[(vi 0),(vi 0),(vu 0),ve,(vb false)]),(vb false),(vi 120)])) results90 ⟨(rva (isAgg35 _) (sizeOf35 _) (hb.r0 2 5 (gS (gS gZ)))),(rvT (by kernel_rfl)),(rvT (by kernel_rfl)),trivial⟩ (by kernel_rfl) ?_
 exact ⟨0,0,0,⟨#[]⟩,false,false,120,rfl,h⟩
 have h:=h.2 hc3
 refine wpE_skip (th_n (wpE_seq ?_))
 refine wpE_via (fun ρ wJ=>∃HJ:NP,Hst w0 H2 w7 HJ wJ∧HB HJ wJ [(p4,[(vi aJ),(vi aF),(vu aH),(vs aI),(vb aG)],35),(p3,[(vi aA),(vi aB),(vu aD),(vs aE),(vb aC)],35),(p2,[(vi 0),(vi 0),(vu 0),ve,(vb false)],35)]∧Has ρ [(6,(vp (some p2))),(9,(vp (some p3))),(11,(vp (some p4))),(13,(vb (aC || aG)))]) ?_ ?_
 refine rg (q0 (vp (some (p3.add 4))) (q2 (vb aC) (xl (isAgg4 _) (hb.c 1 4 (gS gZ))) (q0 (vb aC) ?_)))
 refine wpL_join 3 (fun ρ wJ=>∃b5'0:Bool,∃HJ:NP,(aC=b5'0)∧Hst w0 H2 w7 HJ wJ∧HB HJ wJ [(p4,[(vi aJ),(vi aF),(vu aH),(vs aI),(vb aG)],35),(p3,[(vi aA),(vi aB),(vu aD),(vs aE),(vb aC)],35),(p2,[(vi 0),(vi 0),(vu 0),ve,(vb false)],35)]∧Has ρ [(6,(vp (some p2))),(9,(vp (some p3))),(11,(vp (some p4))),(54,(vb (b5'0 || aG)))]) ?_ ?_
 rintro ρ w14 ⟨b5'0,H7,he0,hs,hb,hH⟩
 subst he0
 refine wpL_has hH ?_
 refine q0 (vb (aC || aG)) (ln ?_)
 exact ⟨_,hs,hb,hm⟩
 rcases bte aC with hg6 | hg6
 refine sk (yD 51 hg6) (sk (yD 51 hg6) (q2 (vb true) (xT hg6) (wpL_nil ?_)))
 exact ⟨true,_,hg6,hs,hb,hm⟩
 refine q1 (vp (some (p4.add 4))) (wy 51 hg6) (stp (v:=(vb aG)) (wy 51 hg6) (xl (isAgg4 _) (hb.c 0 4 gZ)) (q2 (vb aG) (xF hg6) (wpL_nil ?_)))
 exact ⟨false,_,hg6,hs,hb,hm⟩
 rintro ρ w13 ⟨H6,hs,hb,hH⟩
 refine norm_has hH ?_
 refine th_n (wpE_seq (wpE_seq ?_))
 refine wpE_via (fun ρ wJ=>∃b8'0 y1:Bool,∃HJ:NP,((((aB != 0) || (aF != 1)) || (aD != aH))=b8'0)∧(y1=(b8'0 || (!(decide (aE=aI)))))∧Hst w0 H2 w7 HJ wJ∧HB HJ wJ [(p4,[(vi aJ),(vi aF),(vu aH),(vs aI),(vb aG)],35),(p3,[(vi aA),(vi aB),(vu aD),(vs aE),(vb aC)],35),(p2,[(vi 0),(vi 0),(vu 0),ve,(vb false)],35)]∧Has ρ [(6,(vp (some p2))),(9,(vp (some p3))),(13,(vb (aC || aG))),(76,(vb y1))]) ?_ ?_
 refine rg (q0 (vp (some (p3.add 1))) (q2 (vi aB) (xl (isAgg3 _) (hb.c 1 1 (gS gZ))) (q0 (vb (aB != 0)) (q0 (vb (aB != 0)) ?_))))
 refine wpL_join 4 (fun ρ wJ=>∃b9'0:Bool,∃HJ:NP,((aB != 0)=b9'0)∧Hst w0 H2 w7 HJ wJ∧HB HJ wJ [(p4,[(vi aJ),(vi aF),(vu aH),(vs aI),(vb aG)],35),(p3,[(vi aA),(vi aB),(vu aD),(vs aE),(vb aC)],35),(p2,[(vi 0),(vi 0),(vu 0),ve,(vb false)],35)]∧Has ρ [(6,(vp (some p2))),(9,(vp (some p3))),(11,(vp (some p4))),(13,(vb (aC || aG))),(62,(vb (b9'0 || (aF != 1))))]) ?_ ?_
 rintro ρ w18 ⟨b9'0,H11,he0,hs,hb,hH⟩
 subst he0
 refine wpL_has hH ?_
 refine q0 (vb ((aB != 0) || (aF != 1))) ?_
 refine wpL_join 6 (fun ρ wJ=>∃b10'0:Bool,∃HJ:NP,(((aB != 0) || (aF != 1))=b10'0)∧Hst w0 H2 w7 HJ wJ∧HB HJ wJ [(p4,[(vi aJ),(vi aF),(vu aH),(vs aI),(vb aG)],35),(p3,[(vi aA),(vi aB),(vu aD),(vs aE),(vb aC)],35),(p2,[(vi 0),(vi 0),(vu 0),ve,(vb false)],35)]∧Has ρ [(6,(vp (some p2))),(9,(vp (some p3))),(11,(vp (some p4))),(13,(vb (aC || aG))),(69,(vb (b10'0 || (aD != aH))))]) ?_ ?_
 rintro ρ w19 ⟨b10'0,H12,he0,hs,hb,hH⟩
 subst he0
 refine wpL_has hH ?_
 refine q0 (vb (((aB != 0) || (aF != 1)) || (aD != aH))) ?_
 rcases bte (((aB != 0) || (aF != 1)) || (aD != aH)) with hg16 | hg16
 refine sk (yD 70 hg16) (sk (yD 70 hg16) (sk (yD 70 hg16) (sk (yD 70 hg16) (sk (yD 70 hg16) (q2 (vb true) (xT hg16) (ln ?_))))))
 exact ⟨true,_,_,hg16,rfl,hs,hb,hm⟩
 refine q1 (vp (some (p3.add 3))) (wy 70 hg16) (stp (v:=(vs aE)) (wy 70 hg16) (xl (isAgg9 _) (hb.c 1 3 (gS gZ))) (q1 (vp (some (p4.add 3))) (wy 70 hg16) (stp (v:=(vs aI)) (wy 70 hg16) (xl (isAgg9 _) (hb.c 0 3 gZ)) (stp (v:=(vb (!(decide (aE=aI))))) (wy 70 hg16) (x_strneq (by kernel_rfl) (by kernel_rfl)) (q2 (vb (!(decide (aE=aI)))) (xF hg16) (ln ?_))))))
 exact ⟨false,_,_,hg16,rfl,hs,hb,hm⟩
 rcases bte ((aB != 0) || (aF != 1)) with hg15 | hg15
 refine sk (yD 63 hg15) (sk (yD 63 hg15) (sk (yD 63 hg15) (sk (yD 63 hg15) (sk (yD 63 hg15) (q2 (vb true) (xT hg15) (wpL_nil ?_))))))
 exact ⟨true,_,hg15,hs,hb,hm⟩
 refine q1 (vp (some (p3.add 2))) (wy 63 hg15) (stp (v:=(vu aD)) (wy 63 hg15) (xl (isAgg23 _) (hb.c 1 2 (gS gZ))) (q1 (vp (some (p4.add 2))) (wy 63 hg15) (stp (v:=(vu aH)) (wy 63 hg15) (xl (isAgg23 _) (hb.c 0 2 gZ)) (q1 (vb (aD != aH)) (wy 63 hg15) (q2 (vb (aD != aH)) (xF hg15) (wpL_nil ?_))))))
 exact ⟨false,_,hg15,hs,hb,hm⟩
 rcases bte (aB != 0) with hg13 | hg13
 refine sk (yD 58 hg13) (sk (yD 58 hg13) (sk (yD 58 hg13) (q2 (vb true) (xT hg13) (wpL_nil ?_))))
 exact ⟨true,_,hg13,hs,hb,hm⟩
 refine q1 (vp (some (p4.add 1))) (wy 58 hg13) (stp (v:=(vi aF)) (wy 58 hg13) (xl (isAgg3 _) (hb.c 0 1 gZ)) (q1 (vb (aF != 1)) (wy 58 hg13) (q2 (vb (aF != 1)) (xF hg13) (wpL_nil ?_))))
 exact ⟨false,_,hg13,hs,hb,hm⟩
 rintro ρ w17 ⟨b8'0,y1,H10,he0,hy1,hs,hb,hH⟩
 subst he0
 have h:=h y1 hy1
 refine norm_has hH ?_
 refine th_n ?_
 refine wpE_cond (t:=y1) (by kernel_rfl) (fun hc4=>?_) (fun hc4=>?_)
 have h:=h.1 hc4
 refine eg (q2 (.agg #[(vi aA),(vi aB),(vu aD),(vs aE),(vb aC)]) (xa p3 [(vi aA),(vi aB),(vu aD),(vs aE),(vb aC)] (isAgg35 _) (sizeOf35 _) (hb.r0 1 5 (gS gZ))) (q0 (vb (aC || aG)) (st_set (want0 rfl) (xo p2 [(vi aA),(vi aB),(vu aD),(vs aE),(vb aC)] (sizeOf35 _) (hb.k0 2 5 (gS (gS gZ)))) ?_)))
 intro w20 hn9
 obtain ⟨hs,hb⟩:=hb.s0 (l':=[(p4,[(vi aJ),(vi aF),(vu aH),(vs aI),(vb aG)],35),(p3,[(vi aA),(vi aB),(vu aD),(vs aE),(vb aC)],35),(p2,[(vi aA),(vi aB),(vu aD),(vs aE),(vb aC)],35)]) 2 [(vi aA),(vi aB),(vu aD),(vs aE),(vb aC)] hs hn9 (gS (gS gZ))
 refine q0 (vb (aC || aG)) (q0 (vi 122) (ln (er (th_r ?_))))
 have h:=h H10 w20 hs
 have hs:=hs.here
 refine resG (.inl rfl) (vs:=[(.agg #[(vi aA),(vi aB),(vu aD),(vs aE),(vb aC)]),(vb (aC || aG)),(vi 122)]) (v:=(.tuple #[(.agg #[(vi aA),(vi aB),(vu aD),(vs aE),(vb aC)]),(vb (aC || aG)),(vi 122)])) results90 ⟨(rva (isAgg35 _) (sizeOf35 _) (hb.r0 2 5 (gS (gS gZ)))),(rvT (by kernel_rfl)),(rvT (by kernel_rfl)),trivial⟩ (by kernel_rfl) ?_
 exact ⟨aA,aB,aD,aE,aC,(aC || aG),122,rfl,h⟩
 have h:=h.2 hc4
 refine wpE_skip (th_n (eg (q2 (.agg #[(vi aA),(vi aB),(vu aD),(vs aE),(vb aC)]) (xa p3 [(vi aA),(vi aB),(vu aD),(vs aE),(vb aC)] (isAgg35 _) (sizeOf35 _) (hb.r0 1 5 (gS gZ))) (q0 (vb (aC || aG)) (st_set (want0 rfl) (xo p2 [(vi aA),(vi aB),(vu aD),(vs aE),(vb aC)] (sizeOf35 _) (hb.k0 2 5 (gS (gS gZ)))) ?_)))))
 intro w21 hn10
 obtain ⟨hs,hb⟩:=hb.s0 (l':=[(p4,[(vi aJ),(vi aF),(vu aH),(vs aI),(vb aG)],35),(p3,[(vi aA),(vi aB),(vu aD),(vs aE),(vb aC)],35),(p2,[(vi aA),(vi aB),(vu aD),(vs aE),(vb aC)],35)]) 2 [(vi aA),(vi aB),(vu aD),(vs aE),(vb aC)] hs hn10 (gS (gS gZ))
 refine q0 (vb (aC || aG)) (q0 (vi 0) (ln (er ?_)))
 have h:=h H10 w21 hs
 have hs:=hs.here
 refine resG (.inl rfl) (vs:=[(.agg #[(vi aA),(vi aB),(vu aD),(vs aE),(vb aC)]),(vb (aC || aG)),(vi 0)]) (v:=(.tuple #[(.agg #[(vi aA),(vi aB),(vu aD),(vs aE),(vb aC)]),(vb (aC || aG)),(vi 0)])) results90 ⟨(rva (isAgg35 _) (sizeOf35 _) (hb.r0 2 5 (gS (gS gZ)))),(rvT (by kernel_rfl)),(rvT (by kernel_rfl)),trivial⟩ (by kernel_rfl) ?_
 exact ⟨aA,aB,aD,aE,aC,(aC || aG),0,rfl,h⟩
 refine rg (q0 (vp p1) (q0 (vi a1) ?_))
 have h:=h H1 w1 hs
 have hs:=hs.here
 refine sc call160 (h.mono ?_)
 rintro e w22 ⟨r3,rfl,hk,h⟩
 refine ⟨_,rfl,?_⟩
 obtain ⟨hs,hb⟩:=hk.hh hs hb
 refine q0 (vb (r3 == 0)) (q0 (vb (r3 == 0)) ?_)
 rcases bte (r3 == 0) with hg17 | hg17
 have h:=h.1 hg17
 refine sk (yD 21 hg17) (sk (yD 21 hg17) (sk (yD 21 hg17) (sk (yD 21 hg17) (q2 (vb true) (xT hg17) (ln ?_)))))
 exact ⟨true,H1,hm,hs,hb,h⟩
 have h:=h.2 hg17
 refine q1 (vp p1) (wy 21 hg17) (q1 (vi b1) (wy 21 hg17) ?_)
 refine st_call (wy 21 hg17) (xc call160) (h.mono ?_)
 rintro e w23 ⟨r4,rfl,hk,h⟩
 refine ⟨_,rfl,?_⟩
 obtain ⟨hs,hb⟩:=hk.hh hs hb
 refine q1 (vb (r4 == 0)) (wy 21 hg17) (q2 (vb (r4 == 0)) (xF hg17) (ln ?_))
 exact ⟨(r4 == 0),H1,hm,hs,hb,h⟩
def m_E3 (p1:Option Addr) (a1 b1:Int) (w0:World) (K:Int→Int→WP):Prop :=
 Calls prog 90 #[(vp p1),(vi a1),(vi b1)] w0 (fun e w1=>∃aA aB aD:Int,∃aE:ByteArray,∃aC r1:Bool,∃r2:Int,e=.returned (.tuple #[(.agg #[(vi aA),(vi aB),(vu aD),(vs aE),(vb aC)]),(vb r1),(vi r2)])∧
  Kept None w0 w1 ∧
  Br (((cond r1 121 r2):Int) != 0)
   (∀(H2:NP) (w4:World),Hst w0 None w1 H2 w4 →
   K 0 (cond r1 121 r2) w4)
   (∀(H2:NP) (w4:World),Hst w0 None w1 H2 w4 →
   Calls prog 76 #[(vp p1),(.agg #[(vi 6),(vi 0),(vu aD),(vs aE),(vb false)])] w4 (fun e w5=>∃r3 r4:Int,e=.returned (.tuple #[(vi r3),(vi r4)])∧
    Kept H2 w4 w5 ∧
    K r3 r4 w5)))
theorem w_E3 (p1 : Option Addr) (a1 b1 : Int) (w0 : World) (K : Int → Int → WP) (h : m_E3 p1 a1 b1 w0 K) :
  Calls prog 32 #[(vp p1),(vi a1),(vi b1)] w0 (fun e w'=>∃r5 r6:Int,e=.returned (.tuple #[(vi r5),(vi r6)])∧K r5 r6 w'):=by
 unfold m_E3 at h
 refine cw (args:=[(vp p1),(vi a1),(vi b1)]) func32 ntmps32 ?_
 have hs:=Hst.start w0
 have hb:=HB.nil None w0
 refine eg (q0 (vi 0) (q0 (vi 0) (ln (eg (q0 (vp p1) (q0 (vi a1) (q0 (vi b1) ?_)))))))
 refine sc call90 (h.mono ?_)
 rintro e w1 ⟨aA,aB,aD,aE,aC,r1,r2,rfl,hk,h⟩
 refine ⟨_,rfl,?_⟩
 obtain ⟨hs,hb⟩:=hk.hh hs hb
 refine q0 (.tuple #[(.agg #[(vi aA),(vi aB),(vu aD),(vs aE),(vb aC)]),(vb r1),(vi r2)]) (q0 (.agg #[(vi aA),(vi aB),(vu aD),(vs aE),(vb aC)]) (q0 (vb r1) (q0 (vi r2) (sn (O:=(.cells #[(vi 0),(vi 0),(vu 0),ve,(vb false)] 35)) (x_alloc (zeroValue35 _) rfl) ?_))))
 intro p2 w2 hn1
 obtain ⟨H1,hs,hb⟩:=hs.alloc hb hn1
 refine ss (xo p2 [(vi aA),(vi aB),(vu aD),(vs aE),(vb aC)] (sizeOf35 _) (hb.k0 0 5 gZ)) ?_
 intro w3 hn2
 obtain ⟨hs,hb⟩:=hb.s0 (l':=[(p2,[(vi aA),(vi aB),(vu aD),(vs aE),(vb aC)],35)]) 0 [(vi aA),(vi aB),(vu aD),(vs aE),(vb aC)] hs hn2 gZ
 refine q0 (vb r1) (q0 (vi r2) (ln (wpE_seq (eg (q0 (vb r1) (ln ?_))))))
 refine wpE_via (fun ρ wJ=>∃b2'0:Bool,∃HJ:NP,(r1=b2'0)∧Hst w0 None w1 HJ wJ∧HB HJ wJ [(p2,[(vi aA),(vi aB),(vu aD),(vs aE),(vb aC)],35)]∧Has ρ [(0,(vp p1)),(8,(vp (some p2))),(10,(vi (cond b2'0 121 r2)))]) ?_ ?_
 refine wpE_cond (t:=r1) (by kernel_rfl) (fun hc2=>?_) (fun hc2=>?_)
 refine rg (q0 (vi 121) (ln ?_))
 exact ⟨true,_,hc2,hs,hb,hm⟩
 refine wpE_skip (th_n ?_)
 exact ⟨false,_,hc2,hs,hb,hm⟩
 rintro ρ w4 ⟨b2'0,H2,he0,hs,hb,hH⟩
 subst he0
 refine norm_has hH ?_
 refine th_n (wpE_seq (eg (q0 (vi (cond r1 121 r2)) (q0 (vb (((cond r1 121 r2):Int) != 0)) (ln ?_)))))
 refine wpE_cond (t:=(((cond r1 121 r2):Int) != 0)) (by kernel_rfl) (fun hc3=>?_) (fun hc3=>?_)
 have h:=h.1 hc3
 refine eg (q0 (vi (cond r1 121 r2)) (q0 (vi 0) (q0 (vi (cond r1 121 r2)) (ln (er (th_r ?_))))))
 have h:=h H2 w4 hs
 have hs:=hs.here
 refine res2 (.inl rfl) results32 (v:=(vi 0)) (by kernel_rfl) (v':=(vi (cond r1 121 r2))) (by kernel_rfl) ?_
 exact ⟨0,(cond r1 121 r2),rfl,h⟩
 have h:=h.2 hc3
 refine wpE_skip (th_n (eg (q0 (vp p1) (q0 (vp (some (p2.add 2))) (q2 (vu aD) (xl (isAgg23 _) (hb.c 0 2 gZ)) (q0 (vp (some (p2.add 3))) (q2 (vs aE) (xl (isAgg9 _) (hb.c 0 3 gZ)) (q0 (.agg #[(vi 6),(vi 0),(vu aD),(vs aE),(vb false)]) ?_))))))))
 have h:=h H2 w4 hs
 have hs:=hs.here
 refine sc call76 (h.mono ?_)
 rintro e w5 ⟨r3,r4,rfl,hk,h⟩
 refine ⟨_,rfl,?_⟩
 obtain ⟨hs,hb⟩:=hk.hh hs hb
 refine q0 (vi r3) (q0 (vi r4) (q0 (vi r3) (q0 (vi r4) (ln (er (res2 (.inl rfl) results32 (v:=(vi r3)) (by kernel_rfl) (v':=(vi r4)) (by kernel_rfl) ?_))))))
 exact ⟨r3,r4,rfl,h⟩
def m_F3 (p1:Option Addr) (who1 a1 b1:Int) (w0:World) (K:Int→Int→WP):Prop :=
 Br ((who1 != 0) && (who1 != 1))
  (∀(H1:NP) (w1:World),Hst w0 None w0 H1 w1 →
  K 0 2 w1)
  (∀(H1:NP) (w1:World),Hst w0 None w0 H1 w1 →
  Calls prog 90 #[(vp p1),(vi a1),(vi b1)] w1 (fun e w2=>∃aA aB aD:Int,∃aE:ByteArray,∃aC r1:Bool,∃r2:Int,e=.returned (.tuple #[(.agg #[(vi aA),(vi aB),(vu aD),(vs aE),(vb aC)]),(vb r1),(vi r2)])∧
   Kept H1 w1 w2 ∧
   Br (r2 != 0)
    (∀(H2:NP) (w4:World),Hst w0 H1 w2 H2 w4 →
    K 0 r2 w4)
    (∀(H2:NP) (w4:World),Hst w0 H1 w2 H2 w4 →
    Calls prog 91 #[(vp p1),(vi a1),(vi b1)] w4 (fun e w5=>∃r3 r4:Int,e=.returned (.tuple #[(vi r3),(vi r4)])∧
     Kept H2 w4 w5 ∧
     Br (r4 != 0)
      (K 0 r4 w5)
      (Calls prog 92 #[(vp p1),(vs (⟨#[114,101,115,111,108,118,101]⟩:ByteArray))] w5 (fun e w6=>∃r5 r6:Int,e=.returned (.tuple #[(vi r5),(vi r6)])∧
       Kept H2 w5 w6 ∧
       Br (r6 != 0)
        (K 0 r6 w6)
        (Calls prog 91 #[(vp p1),(vi r5),(vi r3)] w6 (fun e w7=>∃r7 r8:Int,e=.returned (.tuple #[(vi r7),(vi r8)])∧
         Kept H2 w6 w7 ∧
         Br (r8 != 0)
          (K 0 r8 w7)
          (Calls prog 93 #[(vp p1),(vi who1),(vi r7)] w7 (fun e w8=>∃r9 r10:Int,e=.returned (.tuple #[(vi r9),(vi r10)])∧
           Kept H2 w7 w8 ∧
           K r9 r10 w8))))))))))
theorem w_F3 (p1 : Option Addr) (who1 a1 b1 : Int) (w0 : World) (K : Int → Int → WP) (h : m_F3 p1 who1 a1 b1 w0 K) :
  Calls prog 33 #[(vp p1),(vi who1),(vi a1),(vi b1)] w0 (fun e w'=>∃r11 r12:Int,e=.returned (.tuple #[(vi r11),(vi r12)])∧K r11 r12 w'):=by
 unfold m_F3 at h
 refine cw (args:=[(vp p1),(vi who1),(vi a1),(vi b1)]) func33 ntmps33 ?_
 have hs:=Hst.start w0
 have hb:=HB.nil None w0
 refine eg (q0 (vi 0) (q0 (vi 0) (ln (wpE_seq (wpE_seq ?_)))))
 refine wpE_via (fun ρ wJ=>∃b2'0:Bool,∃HJ:NP,((who1 != 0)=b2'0)∧Hst w0 None w0 HJ wJ∧HB HJ wJ []∧Has ρ [(0,(vp p1)),(1,(vi who1)),(2,(vi a1)),(3,(vi b1)),(21,(vb (b2'0 && (who1 != 1))))]) ?_ ?_
 refine rg (q0 (vi who1) (q0 (vb (who1 != 0)) (q0 (vb (who1 != 0)) ?_)))
 rcases bte (who1 != 0) with hg2 | hg2
 refine q1 (vi who1) (wy 18 hg2) (q1 (vb (who1 != 1)) (wy 18 hg2) (q2 (vb (who1 != 1)) (xT hg2) (ln ?_)))
 exact ⟨true,_,hg2,hs,hb,hm⟩
 refine sk (yD 18 hg2) (sk (yD 18 hg2) (q2 (vb false) (xF hg2) (ln ?_)))
 exact ⟨false,_,hg2,hs,hb,hm⟩
 rintro ρ w1 ⟨b2'0,H1,he0,hs,hb,hH⟩
 subst he0
 refine norm_has hH ?_
 refine th_n ?_
 refine wpE_cond (t:=((who1 != 0) && (who1 != 1))) (by kernel_rfl) (fun hc1=>?_) (fun hc1=>?_)
 have h:=h.1 hc1
 refine eg (q0 (vi 0) (q0 (vi 2) (ln (er (th_r ?_)))))
 have h:=h H1 w1 hs
 have hs:=hs.here
 refine res2 (.inl rfl) results33 (v:=(vi 0)) (by kernel_rfl) (v':=(vi 2)) (by kernel_rfl) ?_
 exact ⟨0,2,rfl,h⟩
 have h:=h.2 hc1
 refine wpE_skip (th_n (wpE_seq (eg (q0 (vp p1) (q0 (vi a1) (q0 (vi b1) ?_))))))
 have h:=h H1 w1 hs
 have hs:=hs.here
 refine sc call90 (h.mono ?_)
 rintro e w2 ⟨aA,aB,aD,aE,aC,r1,r2,rfl,hk,h⟩
 refine ⟨_,rfl,?_⟩
 obtain ⟨hs,hb⟩:=hk.hh hs hb
 refine q0 (.tuple #[(.agg #[(vi aA),(vi aB),(vu aD),(vs aE),(vb aC)]),(vb r1),(vi r2)]) (q0 (.agg #[(vi aA),(vi aB),(vu aD),(vs aE),(vb aC)]) (q0 (vb r1) (q0 (vi r2) (sn (O:=(.cells #[(vi 0),(vi 0),(vu 0),ve,(vb false)] 35)) (x_alloc (zeroValue35 _) rfl) ?_))))
 intro p2 w3 hn1
 obtain ⟨H2,hs,hb⟩:=hs.alloc hb hn1
 refine ss (xo p2 [(vi aA),(vi aB),(vu aD),(vs aE),(vb aC)] (sizeOf35 _) (hb.k0 0 5 gZ)) ?_
 intro w4 hn2
 obtain ⟨hs,hb⟩:=hb.s0 (l':=[(p2,[(vi aA),(vi aB),(vu aD),(vs aE),(vb aC)],35)]) 0 [(vi aA),(vi aB),(vu aD),(vs aE),(vb aC)] hs hn2 gZ
 refine q0 (vb r1) (q0 (vi r2) (ln (eg (q0 (vi r2) (q0 (vb (r2 != 0)) (ln ?_))))))
 refine wpE_cond (t:=(r2 != 0)) (by kernel_rfl) (fun hc2=>?_) (fun hc2=>?_)
 have h:=h.1 hc2
 refine eg (q0 (vi r2) (q0 (vi 0) (q0 (vi r2) (ln (er (th_r ?_))))))
 have h:=h H2 w4 hs
 have hs:=hs.here
 refine res2 (.inl rfl) results33 (v:=(vi 0)) (by kernel_rfl) (v':=(vi r2)) (by kernel_rfl) ?_
 exact ⟨0,r2,rfl,h⟩
 have h:=h.2 hc2
 refine wpE_skip (th_n (eg (q0 (vp p1) (q0 (vi a1) (q0 (vi b1) ?_)))))
 have h:=h H2 w4 hs
 have hs:=hs.here
 refine sc call91 (h.mono ?_)
 rintro e w5 ⟨r3,r4,rfl,hk,h⟩
 refine ⟨_,rfl,?_⟩
 obtain ⟨hs,hb⟩:=hk.hh hs hb
 refine q0 (.tuple #[(vi r3),(vi r4)]) (q0 (vi r3) (q0 (vi r4) (q0 (vi r3) (q0 (vi r4) (ln (wpE_seq (eg (q0 (vi r4) (q0 (vb (r4 != 0)) ?_)))))))))
 refine ln ?_
 refine wpE_cond (t:=(r4 != 0)) (by kernel_rfl) (fun hc3=>?_) (fun hc3=>?_)
 have h:=h.1 hc3
 refine eg (q0 (vi r4) (q0 (vi 0) (q0 (vi r4) (ln (er (th_r (res2 (.inl rfl) results33 (v:=(vi 0)) (by kernel_rfl) (v':=(vi r4)) (by kernel_rfl) ?_)))))))
 exact ⟨0,r4,rfl,h⟩
 have h:=h.2 hc3
 refine wpE_skip (th_n (eg (q0 (vp p1) ?_)))
 refine sc call92 (h.mono ?_)
 rintro e w6 ⟨r5,r6,rfl,hk,h⟩
 refine ⟨_,rfl,?_⟩
 obtain ⟨hs,hb⟩:=hk.hh hs hb
 refine q0 (.tuple #[(vi r5),(vi r6)]) (q0 (vi r5) (q0 (vi r6) (q0 (vi r5) (q0 (vi r6) (ln (wpE_seq (eg (q0 (vi r6) (q0 (vb (r6 != 0)) ?_)))))))))
 refine ln ?_
 refine wpE_cond (t:=(r6 != 0)) (by kernel_rfl) (fun hc4=>?_) (fun hc4=>?_)
 have h:=h.1 hc4
 refine eg (q0 (vi r6) (q0 (vi 0) (q0 (vi r6) (ln (er (th_r (res2 (.inl rfl) results33 (v:=(vi 0)) (by kernel_rfl) (v':=(vi r6)) (by kernel_rfl) ?_)))))))
 exact ⟨0,r6,rfl,h⟩
 have h:=h.2 hc4
 refine wpE_skip (th_n (wpE_seq (eg (q0 (vp p1) (q0 (vi r5) (q0 (vi r3) ?_))))))
 refine sc call91 (h.mono ?_)
 rintro e w7 ⟨r7,r8,rfl,hk,h⟩
 refine ⟨_,rfl,?_⟩
 obtain ⟨hs,hb⟩:=hk.hh hs hb
 refine q0 (.tuple #[(vi r7),(vi r8)]) (q0 (vi r7) (q0 (vi r8) (q0 (vi r7) (q0 (vi r8) (ln (eg (q0 (vi r8) (q0 (vb (r8 != 0)) (wpL_nil ?_)))))))))
 refine th_n ?_
 refine wpE_cond (t:=(r8 != 0)) (by kernel_rfl) (fun hc5=>?_) (fun hc5=>?_)
 have h:=h.1 hc5
 refine eg (q0 (vi r8) (q0 (vi 0) (q0 (vi r8) (ln (er (th_r (res2 (.inl rfl) results33 (v:=(vi 0)) (by kernel_rfl) (v':=(vi r8)) (by kernel_rfl) ?_)))))))
 exact ⟨0,r8,rfl,h⟩
 have h:=h.2 hc5
 refine wpE_skip (th_n (eg (q0 (vp p1) (q0 (vi who1) (q0 (vi r7) ?_)))))
 refine sc call93 (h.mono ?_)
 rintro e w8 ⟨r9,r10,rfl,hk,h⟩
 refine ⟨_,rfl,?_⟩
 obtain ⟨hs,hb⟩:=hk.hh hs hb
 refine q0 (vi r9) (q0 (vi r10) (q0 (vi r9) (q0 (vi r10) (ln (er (res2 (.inl rfl) results33 (v:=(vi r9)) (by kernel_rfl) (v':=(vi r10)) (by kernel_rfl) ?_))))))
 exact ⟨r9,r10,rfl,h⟩
def s_E1 (e1:Int):Int :=
 e1
theorem pw_E1 (e1 : Int) (w0 : World) :
  Calls prog 36 #[(vi e1)] w0 (fun e w'=>(e=.returned (vi e1))∧Pure w0 w'):=by
 refine cw (args:=[(vi e1)]) func36 ntmps36 (eg (q0 (vi 0) (ln (eg (q0 (vi e1) (q0 (vi e1) (ln ?_)))))))
 refine er (rs1 results36 (v:=(vi e1)) ?_)
 exact ⟨by kernel_rfl,Ext.refl _⟩
theorem p_E1 (e1:Int) (w0:World):Calls prog 36 #[(.int .i64 e1)] w0 (fun e w'=>e=.returned (.int .i64 (s_E1 e1))∧Pure w0 w'):=pw_E1 e1 w0
def m_C2 (bV bW bX:Int) (bY:ByteArray) (bZ:Bool) (w0:World) (K:Sl→WP):Prop :=
 ∀(p1:Addr) (w1:World),New w0 (.cells #[(vi bV),(vi bW),(vu bX),(vs bY),(vb bZ)] 35) p1 w1 →
 ∃v1:Int,w1.cell? p1=some (vi v1) ∧
 Br (v1 == 1)
  (∃v2:Bool,w1.cell? (p1.add 4)=some (vb v2) ∧
  Br v2
   (K Sl.nil w1)
   (∃v3:Int,w1.cell? (p1.add 1)=some (vi v3) ∧
   Calls prog 162 #[(vi 1),(vi v3),(vp (some p1))] w1 (fun e w2=>∃aA bU aD:Int,∃aE:ByteArray,e=.returned (.agg #[(vi aA),(vi bU),(vu aD),(vs aE)])∧
    ∀(p2:Addr) (w3:World),New w2 (.cells #[(vi aA),(vi bU),(vu aD),(vs aE)] 75) p2 w3 →
    K (Sl.mk (some p2) 1 1) w3)))
  (Br (v1 == 2)
   (∃v4:Int,w1.cell? (p1.add 1)=some (vi v4) ∧
   Calls prog 162 #[(vi 2),(vi v4),(vp (some p1))] w1 (fun e w4=>∃aJ cB aH:Int,∃aI:ByteArray,e=.returned (.agg #[(vi aJ),(vi cB),(vu aH),(vs aI)])∧
    ∀(p3:Addr) (w5:World),New w4 (.cells #[(vi aJ),(vi cB),(vu aH),(vs aI)] 75) p3 w5 →
    K (Sl.mk (some p3) 1 1) w5))
   (Br (v1 == 3)
    (Calls prog 162 #[(vi 3),(vi 0),(vp (some p1))] w1 (fun e w6=>∃aR cC aZ:Int,∃aS:ByteArray,e=.returned (.agg #[(vi aR),(vi cC),(vu aZ),(vs aS)])∧
     ∀(p4:Addr) (w7:World),New w6 (.cells #[(vi aR),(vi cC),(vu aZ),(vs aS)] 75) p4 w7 →
     K (Sl.mk (some p4) 1 1) w7))
    (Br (v1 == 4)
     (∃v5:Int,w1.cell? (p1.add 1)=some (vi v5) ∧
     Calls prog 162 #[(vi 4),(vi v5),(vp (some p1))] w1 (fun e w8=>∃bA cD cE:Int,∃bB:ByteArray,e=.returned (.agg #[(vi bA),(vi cD),(vu cE),(vs bB)])∧
      ∀(p5:Addr) (w9:World),New w8 (.cells #[(vi bA),(vi cD),(vu cE),(vs bB)] 75) p5 w9 →
      ∃v6:Bool,w9.cell? (p1.add 4)=some (vb v6) ∧
      Br (!v6)
       (Calls prog 162 #[(vi 1),(vi 0),(vp (some p1))] w9 (fun e w10=>∃bC cF cG:Int,∃bD:ByteArray,e=.returned (.agg #[(vi bC),(vi cF),(vu cG),(vs bD)])∧
        Calls prog 162 #[(vi 1),(vi 1),(vp (some p1))] w10 (fun e w11=>∃bE cH cI:Int,∃bF:ByteArray,e=.returned (.agg #[(vi bE),(vi cH),(vu cI),(vs bF)])∧
         ∀(p6:Addr) (w12:World),New w11 (.cells #[(vi bC),(vi cF),(vu cG),(vs bD),(vi bE),(vi cH),(vu cI),(vs bF)] 75) p6 w12 →
         ∃s1:Sl,∃w13:World,(Builtin.append_ #[71,71] 71 #[(Sl.mk (some p5) 1 1).v,(Sl.mk (some p6) 2 2).v]).run prog w12=.ok s1.v w13 ∧
         K s1 w13)))
       (K (Sl.mk (some p5) 1 1) w9)))
     (Br (v1 == 5)
      (Calls prog 162 #[(vi 5),(vi 2),(vp (some p1))] w1 (fun e w14=>∃cJ cK cL:Int,∃cM:ByteArray,e=.returned (.agg #[(vi cJ),(vi cK),(vu cL),(vs cM)])∧
       ∀(p7:Addr) (w15:World),New w14 (.cells #[(vi cJ),(vi cK),(vu cL),(vs cM)] 75) p7 w15 →
       K (Sl.mk (some p7) 1 1) w15))
      (Br (v1 == 6)
       (Calls prog 162 #[(vi 6),(vi 2),(vp (some p1))] w1 (fun e w16=>∃cN cO cP:Int,∃cQ:ByteArray,e=.returned (.agg #[(vi cN),(vi cO),(vu cP),(vs cQ)])∧
        Calls prog 162 #[(vi 2),(vi 0),(vp (some p1))] w16 (fun e w17=>∃cR cS cT:Int,∃cU:ByteArray,e=.returned (.agg #[(vi cR),(vi cS),(vu cT),(vs cU)])∧
         Calls prog 162 #[(vi 2),(vi 1),(vp (some p1))] w17 (fun e w18=>∃cV cW cX:Int,∃cY:ByteArray,e=.returned (.agg #[(vi cV),(vi cW),(vu cX),(vs cY)])∧
          ∀(p8:Addr) (w19:World),New w18 (.cells #[(vi cN),(vi cO),(vu cP),(vs cQ),(vi cR),(vi cS),(vu cT),(vs cU),(vi cV),(vi cW),(vu cX),(vs cY)] 75) p8 w19 →
          K (Sl.mk (some p8) 3 3) w19))))
       (K Sl.nil w1))))))
theorem w_C2 (bV bW bX : Int) (bY : ByteArray) (bZ : Bool) (w0 : World) (K : Sl → WP) (h : m_C2 bV bW bX bY bZ w0 K) :
  Calls prog 94 #[(.agg #[(vi bV),(vi bW),(vu bX),(vs bY),(vb bZ)])] w0 (fun e w'=>∃r1:Sl,e=.returned r1.v∧K r1 w'):=by
 unfold m_C2 at h
 refine cw (args:=[(.agg #[(vi bV),(vi bW),(vu bX),(vs bY),(vb bZ)])]) func94 ntmps94 (eg (sn (O:=(.cells #[(vi bV),(vi bW),(vu bX),(vs bY),(vb bZ)] 35)) xb ?_))
 intro p1 w1 hn8
 have h:=h p1 w1 hn8
 refine q0 Sl.nil.v (ln (eg (q0 (.func (.func 162) #[] #[(vp (some p1))]) (q0 (.func (.func 162) #[] #[(vp (some p1))]) (ln (wpE_seq (eg ?_)))))))
 refine q0 (vp (some p1)) ?_
 obtain ⟨v1,hv7,h⟩:=h
 refine q2 (vi v1) (xl (isAgg3 _) hv7) (ln (wpE_block (eg (q0 (vb (v1 == 1)) (q0 (vb (v1 == 1)) (ln ?_))))))
 refine wpE_cond (t:=(v1 == 1)) (by kernel_rfl) (fun hc1=>?_) (fun hc1=>?_)
 have h:=h.1 hc1
 refine wpE_seq (eg (q0 (vp (some (p1.add 4))) ?_))
 obtain ⟨v2,hv2,h⟩:=h
 refine q2 (vb v2) (xl (isAgg4 _) hv2) (ln ?_)
 refine wpE_cond (t:=v2) (by kernel_rfl) (fun hc2=>?_) (fun hc2=>?_)
 have h:=h.1 hc2
 refine eg (q0 Sl.nil.v (ln (er (th_r (bl_r (th_r (rs1 results94 (v:=Sl.nil.v) ?_)))))))
 exact ⟨Sl.nil,rfl,h⟩
 have h:=h.2 hc2
 refine wpE_skip (th_n (eg (q0 (.func (.func 162) #[] #[(vp (some p1))]) (q0 (vp (some (p1.add 1))) ?_))))
 obtain ⟨v3,hv1,h⟩:=h
 refine q2 (vi v3) (xl (isAgg3 _) hv1) ?_
 refine st_call (want0 rfl) (x_callm (fs:=#[]) (caps:=#[(vp (some p1))]) (args:=#[(vi 1),(vi v3)]) (args':=#[(vi 1),(vi v3),(vp (some p1))]) (by kernel_rfl) call162 (by kernel_rfl) (by kernel_rfl)) (h.mono ?_)
 rintro e w2 ⟨aA,bU,aD,aE,rfl,h⟩
 refine ⟨_,rfl,?_⟩
 refine st_new (O:=(.cells #[(vi aA),(vi bU),(vu aD),(vs aE)] 75)) (fun p=>(Sl.mk (some p) 1 1).v) (want0 rfl) (x_buildSlice (vs:=#[(0,(.agg #[(vi aA),(vi bU),(vu aD),(vs aE)]))]) (by kernel_rfl) (by kernel_rfl)) ?_
 intro p2 w3 hn1
 have h:=h p2 w3 hn1
 refine q0 ((Sl.mk (some p2) 1 1).v) (ln (er (bl_r (th_r (rs1 results94 (v:=(Sl.mk (some p2) 1 1).v) ?_)))))
 exact ⟨(Sl.mk (some p2) 1 1),rfl,h⟩
 have h:=h.2 hc1
 refine eg (q0 (vb (v1 == 2)) (q0 (vb (v1 == 2)) (ln ?_)))
 refine wpE_cond (t:=(v1 == 2)) (by kernel_rfl) (fun hc3=>?_) (fun hc3=>?_)
 have h:=h.1 hc3
 refine eg (q0 (.func (.func 162) #[] #[(vp (some p1))]) (q0 (vp (some (p1.add 1))) ?_))
 obtain ⟨v4,hv3,h⟩:=h
 refine q2 (vi v4) (xl (isAgg3 _) hv3) ?_
 refine st_call (want0 rfl) (x_callm (fs:=#[]) (caps:=#[(vp (some p1))]) (args:=#[(vi 2),(vi v4)]) (args':=#[(vi 2),(vi v4),(vp (some p1))]) (by kernel_rfl) call162 (by kernel_rfl) (by kernel_rfl)) (h.mono ?_)
 rintro e w4 ⟨aJ,cB,aH,aI,rfl,h⟩
 refine ⟨_,rfl,?_⟩
 refine st_new (O:=(.cells #[(vi aJ),(vi cB),(vu aH),(vs aI)] 75)) (fun p=>(Sl.mk (some p) 1 1).v) (want0 rfl) (x_buildSlice (vs:=#[(0,(.agg #[(vi aJ),(vi cB),(vu aH),(vs aI)]))]) (by kernel_rfl) (by kernel_rfl)) ?_
 intro p3 w5 hn2
 have h:=h p3 w5 hn2
 refine q0 ((Sl.mk (some p3) 1 1).v) (ln (er (bl_r (th_r (rs1 results94 (v:=(Sl.mk (some p3) 1 1).v) ?_)))))
 exact ⟨(Sl.mk (some p3) 1 1),rfl,h⟩
 have h:=h.2 hc3
 refine eg (q0 (vb (v1 == 3)) (q0 (vb (v1 == 3)) (ln ?_)))
 refine wpE_cond (t:=(v1 == 3)) (by kernel_rfl) (fun hc4=>?_) (fun hc4=>?_)
 have h:=h.1 hc4
 refine eg (q0 (.func (.func 162) #[] #[(vp (some p1))]) ?_)
 refine st_call (want0 rfl) (x_callm (fs:=#[]) (caps:=#[(vp (some p1))]) (args:=#[(vi 3),(vi 0)]) (args':=#[(vi 3),(vi 0),(vp (some p1))]) (by kernel_rfl) call162 (by kernel_rfl) (by kernel_rfl)) (h.mono ?_)
 rintro e w6 ⟨aR,cC,aZ,aS,rfl,h⟩
 refine ⟨_,rfl,?_⟩
 refine st_new (O:=(.cells #[(vi aR),(vi cC),(vu aZ),(vs aS)] 75)) (fun p=>(Sl.mk (some p) 1 1).v) (want0 rfl) (x_buildSlice (vs:=#[(0,(.agg #[(vi aR),(vi cC),(vu aZ),(vs aS)]))]) (by kernel_rfl) (by kernel_rfl)) ?_
 intro p4 w7 hn3
 have h:=h p4 w7 hn3
 refine q0 ((Sl.mk (some p4) 1 1).v) (ln (er (bl_r (th_r (rs1 results94 (v:=(Sl.mk (some p4) 1 1).v) ?_)))))
 exact ⟨(Sl.mk (some p4) 1 1),rfl,h⟩
 have h:=h.2 hc4
 refine eg (q0 (vb (v1 == 4)) (q0 (vb (v1 == 4)) (ln ?_)))
 refine wpE_cond (t:=(v1 == 4)) (by kernel_rfl) (fun hc5=>?_) (fun hc5=>?_)
 have h:=h.1 hc5
 refine eg (q0 (.func (.func 162) #[] #[(vp (some p1))]) (q0 (vp (some (p1.add 1))) ?_))
 obtain ⟨v5,hv6,h⟩:=h
 refine q2 (vi v5) (xl (isAgg3 _) hv6) ?_
 refine st_call (want0 rfl) (x_callm (fs:=#[]) (caps:=#[(vp (some p1))]) (args:=#[(vi 4),(vi v5)]) (args':=#[(vi 4),(vi v5),(vp (some p1))]) (by kernel_rfl) call162 (by kernel_rfl) (by kernel_rfl)) (h.mono ?_)
 rintro e w8 ⟨bA,cD,cE,bB,rfl,h⟩
 refine ⟨_,rfl,?_⟩
 refine st_new (O:=(.cells #[(vi bA),(vi cD),(vu cE),(vs bB)] 75)) (fun p=>(Sl.mk (some p) 1 1).v) (want0 rfl) (x_buildSlice (vs:=#[(0,(.agg #[(vi bA),(vi cD),(vu cE),(vs bB)]))]) (by kernel_rfl) (by kernel_rfl)) ?_
 intro p5 w9 hn5
 have h:=h p5 w9 hn5
 refine q0 ((Sl.mk (some p5) 1 1).v) (ln (wpE_seq (eg (q0 (vp (some (p1.add 4))) ?_))))
 obtain ⟨v6,hv5,h⟩:=h
 refine q2 (vb v6) (xl (isAgg4 _) hv5) (q0 (vb (!v6)) (ln ?_))
 refine wpE_cond (t:=(!v6)) (by kernel_rfl) (fun hc6=>?_) (fun hc6=>?_)
 have h:=h.1 hc6
 refine rg (q0 ((Sl.mk (some p5) 1 1).v) (q0 (.func (.func 162) #[] #[(vp (some p1))]) ?_))
 refine st_call (want0 rfl) (x_callm (fs:=#[]) (caps:=#[(vp (some p1))]) (args:=#[(vi 1),(vi 0)]) (args':=#[(vi 1),(vi 0),(vp (some p1))]) (by kernel_rfl) call162 (by kernel_rfl) (by kernel_rfl)) (h.mono ?_)
 rintro e w10 ⟨bC,cF,cG,bD,rfl,h⟩
 refine ⟨_,rfl,?_⟩
 refine q0 (.func (.func 162) #[] #[(vp (some p1))]) ?_
 refine st_call (want0 rfl) (x_callm (fs:=#[]) (caps:=#[(vp (some p1))]) (args:=#[(vi 1),(vi 1)]) (args':=#[(vi 1),(vi 1),(vp (some p1))]) (by kernel_rfl) call162 (by kernel_rfl) (by kernel_rfl)) (h.mono ?_)
 rintro e w11 ⟨bE,cH,cI,bF,rfl,h⟩
 refine ⟨_,rfl,?_⟩
 refine st_new (O:=(.cells #[(vi bC),(vi cF),(vu cG),(vs bD),(vi bE),(vi cH),(vu cI),(vs bF)] 75)) (fun p=>(Sl.mk (some p) 2 2).v) (want0 rfl) (x_buildSlice (vs:=#[(0,(.agg #[(vi bC),(vi cF),(vu cG),(vs bD)])),(1,(.agg #[(vi bE),(vi cH),(vu cI),(vs bF)]))]) (by kernel_rfl) (by kernel_rfl)) ?_
 intro p6 w12 hn4
 have h:=h p6 w12 hn4
 obtain ⟨s1,w13,hv4,h⟩:=h
 refine st (v:=s1.v) (want0 rfl) (x_builtin (args:=#[(Sl.mk (some p5) 1 1).v,(Sl.mk (some p6) 2 2).v]) (by kernel_rfl) (fun _=>rfl) hv4) (q0 s1.v (ln (eg (q0 s1.v (q0 s1.v (ln (er (bl_r ?_))))))))
 refine th_r (rs1 results94 (v:=s1.v) ?_)
 exact ⟨s1,rfl,h⟩
 have h:=h.2 hc6
 refine wpE_skip (th_n (eg (q0 ((Sl.mk (some p5) 1 1).v) (q0 ((Sl.mk (some p5) 1 1).v) (ln (er (bl_r (th_r (rs1 results94 (v:=(Sl.mk (some p5) 1 1).v) ?_)))))))))
 exact ⟨(Sl.mk (some p5) 1 1),rfl,h⟩
 have h:=h.2 hc5
 refine eg (q0 (vb (v1 == 5)) (q0 (vb (v1 == 5)) (ln ?_)))
 refine wpE_cond (t:=(v1 == 5)) (by kernel_rfl) (fun hc7=>?_) (fun hc7=>?_)
 have h:=h.1 hc7
 refine eg (q0 (.func (.func 162) #[] #[(vp (some p1))]) ?_)
 refine st_call (want0 rfl) (x_callm (fs:=#[]) (caps:=#[(vp (some p1))]) (args:=#[(vi 5),(vi 2)]) (args':=#[(vi 5),(vi 2),(vp (some p1))]) (by kernel_rfl) call162 (by kernel_rfl) (by kernel_rfl)) (h.mono ?_)
 rintro e w14 ⟨cJ,cK,cL,cM,rfl,h⟩
 refine ⟨_,rfl,?_⟩
 refine st_new (O:=(.cells #[(vi cJ),(vi cK),(vu cL),(vs cM)] 75)) (fun p=>(Sl.mk (some p) 1 1).v) (want0 rfl) (x_buildSlice (vs:=#[(0,(.agg #[(vi cJ),(vi cK),(vu cL),(vs cM)]))]) (by kernel_rfl) (by kernel_rfl)) ?_
 intro p7 w15 hn6
 have h:=h p7 w15 hn6
 refine q0 ((Sl.mk (some p7) 1 1).v) (ln (er (bl_r (th_r (rs1 results94 (v:=(Sl.mk (some p7) 1 1).v) ?_)))))
 exact ⟨(Sl.mk (some p7) 1 1),rfl,h⟩
 have h:=h.2 hc7
 refine eg (q0 (vb (v1 == 6)) (q0 (vb (v1 == 6)) (ln ?_)))
 refine wpE_cond (t:=(v1 == 6)) (by kernel_rfl) (fun hc8=>?_) (fun hc8=>?_)
 have h:=h.1 hc8
 refine eg (q0 (.func (.func 162) #[] #[(vp (some p1))]) ?_)
 refine st_call (want0 rfl) (x_callm (fs:=#[]) (caps:=#[(vp (some p1))]) (args:=#[(vi 6),(vi 2)]) (args':=#[(vi 6),(vi 2),(vp (some p1))]) (by kernel_rfl) call162 (by kernel_rfl) (by kernel_rfl)) (h.mono ?_)
 rintro e w16 ⟨cN,cO,cP,cQ,rfl,h⟩
 refine ⟨_,rfl,?_⟩
 refine q0 (.func (.func 162) #[] #[(vp (some p1))]) ?_
 refine st_call (want0 rfl) (x_callm (fs:=#[]) (caps:=#[(vp (some p1))]) (args:=#[(vi 2),(vi 0)]) (args':=#[(vi 2),(vi 0),(vp (some p1))]) (by kernel_rfl) call162 (by kernel_rfl) (by kernel_rfl)) (h.mono ?_)
 rintro e w17 ⟨cR,cS,cT,cU,rfl,h⟩
 refine ⟨_,rfl,?_⟩
 refine q0 (.func (.func 162) #[] #[(vp (some p1))]) ?_
 refine st_call (want0 rfl) (x_callm (fs:=#[]) (caps:=#[(vp (some p1))]) (args:=#[(vi 2),(vi 1)]) (args':=#[(vi 2),(vi 1),(vp (some p1))]) (by kernel_rfl) call162 (by kernel_rfl) (by kernel_rfl)) (h.mono ?_)
 rintro e w18 ⟨cV,cW,cX,cY,rfl,h⟩
 refine ⟨_,rfl,?_⟩
 refine st_new (O:=(.cells #[(vi cN),(vi cO),(vu cP),(vs cQ),(vi cR),(vi cS),(vu cT),(vs cU),(vi cV),(vi cW),(vu cX),(vs cY)] 75)) (fun p=>(Sl.mk (some p) 3 3).v) (want0 rfl) (x_buildSlice (vs:=#[(0,(.agg #[(vi cN),(vi cO),(vu cP),(vs cQ)])),(1,(.agg #[(vi cR),(vi cS),(vu cT),(vs cU)])),(2,(.agg #[(vi cV),(vi cW),(vu cX),(vs cY)]))]) (by kernel_rfl) (by kernel_rfl)) ?_
 intro p8 w19 hn7
 have h:=h p8 w19 hn7
 refine q0 ((Sl.mk (some p8) 3 3).v) (ln (er (bl_r (th_r (rs1 results94 (v:=(Sl.mk (some p8) 3 3).v) ?_)))))
 exact ⟨(Sl.mk (some p8) 3 3),rfl,h⟩
 have h:=h.2 hc8
 refine wpE_skip (bl_n (th_n (eg (q0 Sl.nil.v (ln (er (rs1 results94 (v:=Sl.nil.v) ?_)))))))
 exact ⟨Sl.nil,rfl,h⟩
theorem eqt_evidence_Why_eql_75 (a0 a1 a2:Int) (a3:ByteArray) (b0 b1 b2:Int) (b3:ByteArray) (w:World):(Go.binOp .eql 75 (.agg #[(.int .i64 a0),(.int .i64 a1),(.int .u64 a2),(.string a3)]) (.agg #[(.int .i64 b0),(.int .i64 b1),(.int .u64 b2),(.string b3)])).run prog w=.ok (.bool ((a0 == b0) && ((a1 == b1) && ((a2 == b2) && (decide (a3=b3)))))) w:=by
 simp [Go.binOp,Op.equal,Op.maxDepth,go_sem,streq,bne]
 repeat' split
 all_goals simp_all
def m_I1_l1 (who1 c1:Int) (text1:ByteArray) (r2:Sl) (why1 x1:Int) (w0:World) (Hl1:NP) (wl1:World) (Kc1:Int→Int→NP→WP) (K:Int→WP):Prop :=
 Br (decide (x1<(r2.len:Int)))
  (∃a1:Addr,At r2 x1 4 a1 ∧
  ∃aK aN aO:Int,∃aM:ByteArray,Row wl1 a1 [(vi aK),(vi aN),(vu aO),(vs aM)] ∧
  Br (aK != 2)
   (∀(H3:NP) (w8:World),Hst w0 Hl1 wl1 H3 w8 →
   Kc1 why1 (q6.wrap (x1+1)) H3 w8)
   (Br ((aK == 2) && ((aN == who1) && ((aO == c1) && (decide (aM=text1)))))
    (∀(H3:NP) (w8:World),Hst w0 Hl1 wl1 H3 w8 →
    K 0 w8)
    (Br (aN != who1)
     (∀(H3:NP) (w8:World),Hst w0 Hl1 wl1 H3 w8 →
     ∃z1:Int,(Builtin.max_ #[3,3] 3 #[(vi why1),(vi 3)]).run prog w8=.ok (vi z1) w8 ∧
     Kc1 z1 (q6.wrap (x1+1)) H3 w8)
     (Br (aO != c1)
      (∀(H3:NP) (w8:World),Hst w0 Hl1 wl1 H3 w8 →
      ∃z2:Int,(Builtin.max_ #[3,3] 3 #[(vi why1),(vi 4)]).run prog w8=.ok (vi z2) w8 ∧
      Kc1 z2 (q6.wrap (x1+1)) H3 w8)
      (∀(H3:NP) (w8:World),Hst w0 Hl1 wl1 H3 w8 →
      ∃z3:Int,(Builtin.max_ #[3,3] 3 #[(vi why1),(vi 5)]).run prog w8=.ok (vi z3) w8 ∧
      Kc1 z3 (q6.wrap (x1+1)) H3 w8)))))
  (K why1 wl1)
def m_I1 (p1:Option Addr) (t1 who1 c1:Int) (text1:ByteArray) (w0:World) (K:Int→WP):Prop :=
 Calls prog 51 #[(vp p1),(vi t1)] w0 (fun e w1=>∃aA aB aD:Int,∃aE:ByteArray,∃aC r1:Bool,e=.returned (.tuple #[(.agg #[(vi aA),(vi aB),(vu aD),(vs aE),(vb aC)]),(vb r1)])∧
  Kept None w0 w1 ∧
  Br (!r1)
   (∀(H1:NP) (w3:World),Hst w0 None w1 H1 w3 →
   K 1 w3)
   (∀(H2:NP) (w5:World),Hst w0 None w1 H2 w5 →
   Calls prog 94 #[(.agg #[(vi aA),(vi aB),(vu aD),(vs aE),(vb aC)])] w5 (fun e w6=>∃r2:Sl,e=.returned r2.v∧
    Kept H2 w5 w6 ∧
    ∃(I1:Int→Int→NP→WP) (mu1:Int→Int→World→Nat),I1 2 0 H2 w6 ∧
     ∀(why1 x1:Int) (Hl1:NP) (wl1:World),Hst w0 Hl1 wl1 Hl1 wl1→I1 why1 x1 Hl1 wl1→m_I1_l1 who1 c1 text1 r2 why1 x1 w0 Hl1 wl1 (fun y'0 y'1 H' w'=>I1 y'0 y'1 H' w'∧mu1 y'0 y'1 w'<mu1 why1 x1 wl1) K)))
theorem w_I1 (p1 : Option Addr) (t1 who1 c1 : Int) (text1 : ByteArray) (w0 : World) (K : Int → WP) (h : m_I1 p1 t1 who1 c1 text1 w0 K) :
  Calls prog 35 #[(vp p1),(vi t1),(vi who1),(vu c1),(vs text1)] w0 (fun e w'=>∃r3:Int,e=.returned (vi r3)∧K r3 w'):=by
 unfold m_I1 at h
 refine cw (args:=[(vp p1),(vi t1),(vi who1),(vu c1),(vs text1)]) func35 ntmps35 ?_
 have hs:=Hst.start w0
 have hb:=HB.nil None w0
 refine eg (q0 (vi 0) (ln (eg (q0 (vp p1) (q0 (vi t1) ?_)))))
 refine sc call51 (h.mono ?_)
 rintro e w1 ⟨aA,aB,aD,aE,aC,r1,rfl,hk,h⟩
 refine ⟨_,rfl,?_⟩
 obtain ⟨hs,hb⟩:=hk.hh hs hb
 refine q0 (.tuple #[(.agg #[(vi aA),(vi aB),(vu aD),(vs aE),(vb aC)]),(vb r1)]) (q0 (.agg #[(vi aA),(vi aB),(vu aD),(vs aE),(vb aC)]) (q0 (vb r1) (sn (O:=(.cells #[(vi 0),(vi 0),(vu 0),ve,(vb false)] 35)) (x_alloc (zeroValue35 _) rfl) ?_)))
 intro p2 w2 hn1
 obtain ⟨H1,hs,hb⟩:=hs.alloc hb hn1
 refine ss (xo p2 [(vi aA),(vi aB),(vu aD),(vs aE),(vb aC)] (sizeOf35 _) (hb.k0 0 5 gZ)) ?_
 intro w3 hn2
 obtain ⟨hs,hb⟩:=hb.s0 (l':=[(p2,[(vi aA),(vi aB),(vu aD),(vs aE),(vb aC)],35)]) 0 [(vi aA),(vi aB),(vu aD),(vs aE),(vb aC)] hs hn2 gZ
 refine q0 (vb r1) (ln (wpE_seq (eg (q0 (vb r1) (q0 (vb (!r1)) (ln ?_))))))
 refine wpE_cond (t:=(!r1)) (by kernel_rfl) (fun hc1=>?_) (fun hc1=>?_)
 have h:=h.1 hc1
 refine eg (q0 (vi 1) (ln (er (th_r ?_))))
 have h:=h H1 w3 hs
 have hs:=hs.here
 refine rs1 results35 (v:=(vi 1)) ?_
 exact ⟨1,rfl,h⟩
 have h:=h.2 hc1
 refine wpE_skip (th_n (eg (q0 (vi who1) (q0 (vu c1) (q0 (vs text1) (q0 (.agg #[(vi 2),(vi who1),(vu c1),(vs text1)]) (sn (O:=(.cells #[(vi 0),(vi 0),(vu 0),ve] 75)) (x_alloc (zeroValue75 _) rfl) ?_)))))))
 intro p3 w4 hn3
 obtain ⟨H2,hs,hb⟩:=hs.alloc hb hn3
 refine ss (xo p3 [(vi 2),(vi who1),(vu c1),(vs text1)] (sizeOf75 _) (hb.k0 0 4 gZ)) ?_
 intro w5 hn4
 obtain ⟨hs,hb⟩:=hb.s0 (l':=[(p3,[(vi 2),(vi who1),(vu c1),(vs text1)],75),(p2,[(vi aA),(vi aB),(vu aD),(vs aE),(vb aC)],35)]) 0 [(vi 2),(vi who1),(vu c1),(vs text1)] hs hn4 gZ
 refine ln (eg (q0 (vi 2) (ln (wpE_seq (eg (q2 (.agg #[(vi aA),(vi aB),(vu aD),(vs aE),(vb aC)]) (xa p2 [(vi aA),(vi aB),(vu aD),(vs aE),(vb aC)] (isAgg35 _) (sizeOf35 _) (hb.r0 1 5 (gS gZ))) ?_))))))
 have h:=h H2 w5 hs
 have hs:=hs.here
 refine sc call94 (h.mono ?_)
 rintro e w6 ⟨r2,rfl,hk,h⟩
 refine ⟨_,rfl,?_⟩
 obtain ⟨hs,hb⟩:=hk.hh hs hb
 refine q0 (vi (r2.len:Int)) (q0 (vi 0) (ln (wpE_block ?_)))
 obtain ⟨I1,mu1,h0,hr⟩:=h
 refine wpE_loop (σ:=Int×Int×NP×World) (fun s ρ w=>w=s.2.2.2∧Has ρ [(2,(vi who1)),(3,(vu c1)),(13,(vp (some p3))),(14,(vi s.1)),(30,r2.v),(31,(vi (r2.len:Int))),(32,(vi s.2.1))]∧Hst w0 s.2.2.1 w s.2.2.1 w∧HB s.2.2.1 w [(p3,[(vi 2),(vi who1),(vu c1),(vs text1)],75),(p2,[(vi aA),(vi aB),(vu aD),(vs aE),(vb aC)],35)]∧I1 s.1 s.2.1 s.2.2.1 s.2.2.2) (fun s=>mu1 s.1 s.2.1 s.2.2.2) (2,0,H2,w6) ⟨rfl,hm,hs,hb,h0⟩ ?_
 rintro ⟨why1,x1,Hl1,wl1⟩ ρ w ⟨hw,hH,hs,hb,hI⟩
 obtain rfl:wl1=w:=(show w=wl1 from hw).symm
 have hH:Has ρ [(2,(vi who1)),(3,(vu c1)),(13,(vp (some p3))),(14,(vi why1)),(30,r2.v),(31,(vi (r2.len:Int))),(32,(vi x1))]:=hH
 have hs:Hst w0 Hl1 wl1 Hl1 wl1:=hs
 have hb:HB Hl1 wl1 [(p3,[(vi 2),(vi who1),(vu c1),(vs text1)],75),(p2,[(vi aA),(vi aB),(vu aD),(vs aE),(vb aC)],35)]:=hb
 have h:=hr why1 x1 Hl1 wl1 hs hI
 unfold m_I1_l1 at h
 refine wpE_has hH ?_
 refine eg (q0 (vb (decide (x1<(r2.len:Int)))) (ln (wpE_seq ?_)))
 refine wpE_cond (t:=(decide (x1<(r2.len:Int)))) (by kernel_rfl) (fun hc2=>?_) (fun hc2=>?_)
 have h:=h.1 hc2
 refine wpE_skip (th_n (wpE_seq (wpE_block (eg ?_))))
 obtain ⟨a1,hv5,h⟩:=h
 refine q2 (vp (some a1)) (xi (runUnderlying71 _) (sizeOf75 _) hv5) ?_
 obtain ⟨aK,aN,aO,aM,hv4,h⟩:=h
 refine q2 (.agg #[(vi aK),(vi aN),(vu aO),(vs aM)]) (xa a1 [(vi aK),(vi aN),(vu aO),(vs aM)] (isAgg75 _) (sizeOf75 _) hv4) (sn (O:=(.cells #[(vi 0),(vi 0),(vu 0),ve] 75)) (x_alloc (zeroValue75 _) rfl) ?_)
 intro p4 w7 hn5
 obtain ⟨H3,hs,hb⟩:=hs.alloc hb hn5
 refine ss (xo p4 [(vi aK),(vi aN),(vu aO),(vs aM)] (sizeOf75 _) (hb.k0 0 4 gZ)) ?_
 intro w8 hn6
 obtain ⟨hs,hb⟩:=hb.s0 (l':=[(p4,[(vi aK),(vi aN),(vu aO),(vs aM)],75),(p3,[(vi 2),(vi who1),(vu c1),(vs text1)],75),(p2,[(vi aA),(vi aB),(vu aD),(vs aE),(vb aC)],35)]) 0 [(vi aK),(vi aN),(vu aO),(vs aM)] hs hn6 gZ
 refine ln (wpE_block (eg (q0 (vp (some p4)) (q2 (vi aK) (xl (isAgg3 _) (hb.c0 0 gZ)) (q0 (vb (aK != 2)) (q0 (vb (aK != 2)) (ln ?_)))))))
 refine wpE_cond (t:=(aK != 2)) (by kernel_rfl) (fun hc3=>?_) (fun hc3=>?_)
 have h:=h.1 hc3
 refine wpE_skip (bl_n (bl_n (th_n (rg (q0 (vi (q6.wrap (x1+1))) (q0 (vi (q6.wrap (x1+1))) (wpL_nil ?_)))))))
 have h:=h H3 w8 hs
 have hs:=hs.here
 refine th_n ?_
 exact ⟨(why1,(q6.wrap (x1+1)),H3,w8),⟨rfl,hm,hs,hb.drop 1,h.1⟩,h.2⟩
 have h:=h.2 hc3
 refine eg (q2 (.agg #[(vi aK),(vi aN),(vu aO),(vs aM)]) (xa p4 [(vi aK),(vi aN),(vu aO),(vs aM)] (isAgg75 _) (sizeOf75 _) (hb.r0 0 4 gZ)) (q2 (.agg #[(vi 2),(vi who1),(vu c1),(vs text1)]) (xa p3 [(vi 2),(vi who1),(vu c1),(vs text1)] (isAgg75 _) (sizeOf75 _) (hb.r0 1 4 (gS gZ))) (q2 (vb ((aK == 2) && ((aN == who1) && ((aO == c1) && (decide (aM=text1)))))) (x_aggeq (by kernel_rfl) (by kernel_rfl) (by kernel_rfl) (eqt_evidence_Why_eql_75 aK aN aO aM 2 who1 c1 text1 _)) (q0 (vb ((aK == 2) && ((aN == who1) && ((aO == c1) && (decide (aM=text1)))))) (ln ?_)))))
 refine wpE_cond (t:=((aK == 2) && ((aN == who1) && ((aO == c1) && (decide (aM=text1)))))) (by kernel_rfl) (fun hc4=>?_) (fun hc4=>?_)
 have h:=h.1 hc4
 refine eg (q0 (vi 0) (ln (er (bl_r (bl_r (th_r (th_r (bl_r (th_r ?_)))))))))
 have h:=h H3 w8 hs
 have hs:=hs.here
 refine rs1 results35 (v:=(vi 0)) ?_
 exact ⟨0,rfl,h⟩
 have h:=h.2 hc4
 refine eg (q0 (vp (some (p4.add 1))) (q2 (vi aN) (xl (isAgg3 _) (hb.c 0 1 gZ)) (q0 (vi who1) (q0 (vb (aN != who1)) (q0 (vb (aN != who1)) (ln ?_))))))
 refine wpE_cond (t:=(aN != who1)) (by kernel_rfl) (fun hc5=>?_) (fun hc5=>?_)
 have h:=h.1 hc5
 refine rg (q0 (vi why1) ?_)
 have h:=h H3 w8 hs
 have hs:=hs.here
 obtain ⟨z1,hv1,h⟩:=h
 refine q2 (vi z1) (x_builtin (args:=#[(vi why1),(vi 3)]) (by kernel_rfl) (fun _=>rfl) hv1) (q0 (vi z1) (wpL_nil (bl_n (bl_n (th_n (rg (q0 (vi (q6.wrap (x1+1))) (q0 (vi (q6.wrap (x1+1))) (ln ?_)))))))))
 exact ⟨(z1,(q6.wrap (x1+1)),H3,w8),⟨rfl,hm,hs,hb.drop 1,h.1⟩,h.2⟩
 have h:=h.2 hc5
 refine eg (q0 (vp (some (p4.add 2))) (q2 (vu aO) (xl (isAgg23 _) (hb.c 0 2 gZ)) (q0 (vu c1) (q0 (vb (aO != c1)) (q0 (vb (aO != c1)) (ln ?_))))))
 refine wpE_cond (t:=(aO != c1)) (by kernel_rfl) (fun hc6=>?_) (fun hc6=>?_)
 have h:=h.1 hc6
 refine rg (q0 (vi why1) ?_)
 have h:=h H3 w8 hs
 have hs:=hs.here
 obtain ⟨z2,hv2,h⟩:=h
 refine q2 (vi z2) (x_builtin (args:=#[(vi why1),(vi 4)]) (by kernel_rfl) (fun _=>rfl) hv2) (q0 (vi z2) (wpL_nil (bl_n (bl_n (th_n (rg (q0 (vi (q6.wrap (x1+1))) (q0 (vi (q6.wrap (x1+1))) (ln ?_)))))))))
 exact ⟨(z2,(q6.wrap (x1+1)),H3,w8),⟨rfl,hm,hs,hb.drop 1,h.1⟩,h.2⟩
 have h:=h.2 hc6
 refine rg (q0 (vi why1) ?_)
 have h:=h H3 w8 hs
 have hs:=hs.here
 obtain ⟨z3,hv3,h⟩:=h
 refine q2 (vi z3) (x_builtin (args:=#[(vi why1),(vi 5)]) (by kernel_rfl) (fun _=>rfl) hv3) (q0 (vi z3) (wpL_nil (bl_n (bl_n (th_n (rg (q0 (vi (q6.wrap (x1+1))) (q0 (vi (q6.wrap (x1+1))) (ln ?_)))))))))
 exact ⟨(z3,(q6.wrap (x1+1)),H3,w8),⟨rfl,hm,hs,hb.drop 1,h.1⟩,h.2⟩
 have h:=h.2 hc2
 refine wpE_exit (th_x (th_x (bl_eq (th_n (eg (q0 (vi why1) (q0 (vi why1) (ln (er ?_)))))))))
 refine rs1 results35 (v:=(vi why1)) ?_
 exact ⟨why1,rfl,h⟩
def m_G3 (p1:Option Addr) (t1 who1 c1:Int) (text1:ByteArray) (w0:World) (K:Bool→WP):Prop :=
 Calls prog 35 #[(vp p1),(vi t1),(vi who1),(vu c1),(vs text1)] w0 (fun e w1=>∃r1:Int,e=.returned (vi r1)∧
  K (r1 == 0) w1)
theorem w_G3 (p1 : Option Addr) (t1 who1 c1 : Int) (text1 : ByteArray) (w0 : World) (K : Bool → WP) (h : m_G3 p1 t1 who1 c1 text1 w0 K) :
  Calls prog 45 #[(vp p1),(vi t1),(vi who1),(vu c1),(vs text1)] w0 (fun e w'=>∃r2:Bool,e=.returned (vb r2)∧K r2 w'):=by
 unfold m_G3 at h
 refine cw (args:=[(vp p1),(vi t1),(vi who1),(vu c1),(vs text1)]) func45 ntmps45 (eg (q0 (vb false) (ln (eg (q0 (vp p1) (q0 (vi t1) (q0 (vi who1) (q0 (vu c1) ?_))))))))
 refine q0 (vs text1) ?_
 refine sc call35 (h.mono ?_)
 rintro e w1 ⟨r1,rfl,h⟩
 refine ⟨_,rfl,?_⟩
 refine q0 (vb (r1 == 0)) (q0 (vb (r1 == 0)) (ln (er (rs1 results45 (v:=(vb (r1 == 0))) ?_))))
 exact ⟨(r1 == 0),rfl,h⟩
def m_H3 (p1:Option Addr) (t1:Int) (w0:World) (K:Sl→WP):Prop :=
 Calls prog 51 #[(vp p1),(vi t1)] w0 (fun e w1=>∃aA aB aD:Int,∃aE:ByteArray,∃aC r1:Bool,e=.returned (.tuple #[(.agg #[(vi aA),(vi aB),(vu aD),(vs aE),(vb aC)]),(vb r1)])∧
  Kept None w0 w1 ∧
  Br (!r1)
   (∀(H1:NP) (w3:World),Hst w0 None w1 H1 w3 →
   K Sl.nil w3)
   (∀(H1:NP) (w3:World),Hst w0 None w1 H1 w3 →
   Calls prog 94 #[(.agg #[(vi aA),(vi aB),(vu aD),(vs aE),(vb aC)])] w3 (fun e w4=>∃r2:Sl,e=.returned r2.v∧
    Kept H1 w3 w4 ∧
    K r2 w4)))
theorem w_H3 (p1 : Option Addr) (t1 : Int) (w0 : World) (K : Sl → WP) (h : m_H3 p1 t1 w0 K) :
  Calls prog 34 #[(vp p1),(vi t1)] w0 (fun e w'=>∃r3:Sl,e=.returned r3.v∧K r3 w'):=by
 unfold m_H3 at h
 refine cw (args:=[(vp p1),(vi t1)]) func34 ntmps34 ?_
 have hs:=Hst.start w0
 have hb:=HB.nil None w0
 refine eg (q0 Sl.nil.v (ln (eg (q0 (vp p1) (q0 (vi t1) ?_)))))
 refine sc call51 (h.mono ?_)
 rintro e w1 ⟨aA,aB,aD,aE,aC,r1,rfl,hk,h⟩
 refine ⟨_,rfl,?_⟩
 obtain ⟨hs,hb⟩:=hk.hh hs hb
 refine q0 (.tuple #[(.agg #[(vi aA),(vi aB),(vu aD),(vs aE),(vb aC)]),(vb r1)]) (q0 (.agg #[(vi aA),(vi aB),(vu aD),(vs aE),(vb aC)]) (q0 (vb r1) (sn (O:=(.cells #[(vi 0),(vi 0),(vu 0),ve,(vb false)] 35)) (x_alloc (zeroValue35 _) rfl) ?_)))
 intro p2 w2 hn1
 obtain ⟨H1,hs,hb⟩:=hs.alloc hb hn1
 refine ss (xo p2 [(vi aA),(vi aB),(vu aD),(vs aE),(vb aC)] (sizeOf35 _) (hb.k0 0 5 gZ)) ?_
 intro w3 hn2
 obtain ⟨hs,hb⟩:=hb.s0 (l':=[(p2,[(vi aA),(vi aB),(vu aD),(vs aE),(vb aC)],35)]) 0 [(vi aA),(vi aB),(vu aD),(vs aE),(vb aC)] hs hn2 gZ
 refine q0 (vb r1) (ln (wpE_seq (eg (q0 (vb r1) (q0 (vb (!r1)) (ln ?_))))))
 refine wpE_cond (t:=(!r1)) (by kernel_rfl) (fun hc1=>?_) (fun hc1=>?_)
 have h:=h.1 hc1
 refine eg (q0 Sl.nil.v (ln (er (th_r ?_))))
 have h:=h H1 w3 hs
 have hs:=hs.here
 refine rs1 results34 (v:=Sl.nil.v) ?_
 exact ⟨Sl.nil,rfl,h⟩
 have h:=h.2 hc1
 refine wpE_skip (th_n (eg (q2 (.agg #[(vi aA),(vi aB),(vu aD),(vs aE),(vb aC)]) (xa p2 [(vi aA),(vi aB),(vu aD),(vs aE),(vb aC)] (isAgg35 _) (sizeOf35 _) (hb.r0 0 5 gZ)) ?_)))
 have h:=h H1 w3 hs
 have hs:=hs.here
 refine sc call94 (h.mono ?_)
 rintro e w4 ⟨r2,rfl,hk,h⟩
 refine ⟨_,rfl,?_⟩
 obtain ⟨hs,hb⟩:=hk.hh hs hb
 refine q0 r2.v (ln (er (rs1 results34 (v:=r2.v) ?_)))
 exact ⟨r2,rfl,h⟩
def m_U_l2 (p1:Option Addr) (r3 out1:Sl) (x2:Int) (wl2:World) (Kc2:Sl→Int→WP) (K:Sl→WP):Prop :=
 Br (decide (x2<(r3.len:Int)))
  (∃a2:Addr,At r3 x2 1 a2 ∧
  ∃v2:Int,wl2.cell? a2=some (vi v2) ∧
  Calls prog 34 #[(vp p1),(vi v2)] wl2 (fun e w4=>∃r4:Sl,e=.returned r4.v∧
   ∃s1:Sl,∃w5:World,(Builtin.append_ #[71,71] 71 #[out1.v,r4.v]).run prog w4=.ok s1.v w5 ∧
   Kc2 s1 (q6.wrap (x2+1)) w5))
  (Calls prog 81 #[out1.v,(.func (.func 28) #[] #[])] wl2 (fun e w6=>e=.returned (.tuple #[])∧
   Calls prog 82 #[out1.v] w6 (fun e w7=>∃r5:Sl,e=.returned r5.v∧
    K r5 w7)))
def m_U_l1 (p1:Option Addr) (l1:Sl) (r1:Option Addr) (x1:Int) (wl1:World) (Kc1:Int→WP) (K:Sl→WP):Prop :=
 Br (decide (x1<(l1.len:Int)))
  (∃a1:Addr,At l1 x1 1 a1 ∧
  ∃v1:Int,wl1.cell? a1=some (vi v1) ∧
  Calls prog 79 #[(vp r1),(vi v1)] wl1 (fun e w2=>∃r2:Int,e=.returned (vi r2)∧
   Kc1 (q6.wrap (x1+1)) w2))
  (Calls prog 80 #[(vp r1)] wl1 (fun e w3=>∃r3:Sl,e=.returned r3.v∧
   ∃(I2:Sl→Int→WP) (mu2:Sl→Int→World→Nat),I2 Sl.nil 0 w3 ∧
    ∀(out1:Sl) (x2:Int) (wl2:World),I2 out1 x2 wl2→m_U_l2 p1 r3 out1 x2 wl2 (fun y'0 y'1 w'=>I2 y'0 y'1 w'∧mu2 y'0 y'1 w'<mu2 out1 x2 wl2) K))
def m_U (p1:Option Addr) (l1:Sl) (w0:World) (K:Sl→WP):Prop :=
 Calls prog 62 #[(vp p1)] w0 (fun e w1=>∃r1:Option Addr,e=.returned (vp r1)∧
  ∃(I1:Int→WP) (mu1:Int→World→Nat),I1 0 w1 ∧
   ∀(x1:Int) (wl1:World),I1 x1 wl1→m_U_l1 p1 l1 r1 x1 wl1 (fun y'0 w'=>I1 y'0 w'∧mu1 y'0 w'<mu1 x1 wl1) K)
theorem w_U (p1 : Option Addr) (l1 : Sl) (w0 : World) (K : Sl → WP) (h : m_U p1 l1 w0 K) :
  Calls prog 26 #[(vp p1),l1.v] w0 (fun e w'=>∃r6:Sl,e=.returned r6.v∧K r6 w'):=by
 unfold m_U at h
 refine cw (args:=[(vp p1),l1.v]) func26 ntmps26 (eg (q0 Sl.nil.v (ln (eg (q0 (vp p1) ?_)))))
 refine sc call62 (h.mono ?_)
 rintro e w1 ⟨r1,rfl,h⟩
 refine ⟨_,rfl,?_⟩
 refine q0 (vp r1) (ln (wpE_seq (eg (q0 l1.v (q0 (vi (l1.len:Int)) (q0 (vi 0) (ln (wpE_block ?_))))))))
 obtain ⟨I1,mu1,h0,hr⟩:=h
 refine wpE_loop (σ:=Int×World) (fun s ρ w=>w=s.2∧Has ρ [(0,(vp p1)),(5,(vp r1)),(13,l1.v),(14,(vi (l1.len:Int))),(15,(vi s.1))]∧I1 s.1 s.2) (fun s=>mu1 s.1 s.2) (0,w1) ⟨rfl,hm,h0⟩ ?_
 rintro ⟨x1,wl1⟩ ρ w ⟨hw,hH,hI⟩
 obtain rfl:wl1=w:=(show w=wl1 from hw).symm
 have hH:Has ρ [(0,(vp p1)),(5,(vp r1)),(13,l1.v),(14,(vi (l1.len:Int))),(15,(vi x1))]:=hH
 have h:=hr x1 wl1 hI
 unfold m_U_l1 at h
 refine wpE_has hH ?_
 refine eg (q0 (vb (decide (x1<(l1.len:Int)))) (ln (wpE_seq ?_)))
 refine wpE_cond (t:=(decide (x1<(l1.len:Int)))) (by kernel_rfl) (fun hc1=>?_) (fun hc1=>?_)
 have h:=h.1 hc1
 refine wpE_skip (th_n (wpE_seq (wpE_block (eg ?_))))
 obtain ⟨a1,hv2,h⟩:=h
 refine q2 (vp (some a1)) (xi (runUnderlying46 _) (sizeOf78 _) hv2) ?_
 obtain ⟨v1,hv1,h⟩:=h
 refine q2 (vi v1) (xl (isAgg78 _) hv1) (q0 (vi v1) (ln (rg (q0 (vp r1) (q0 (vi v1) ?_)))))
 refine sc call79 (h.mono ?_)
 rintro e w2 ⟨r2,rfl,h⟩
 refine ⟨_,rfl,?_⟩
 refine wpL_nil (bl_n (th_n (rg (q0 (vi (q6.wrap (x1+1))) (q0 (vi (q6.wrap (x1+1))) (ln ?_))))))
 exact ⟨((q6.wrap (x1+1)),w2),⟨rfl,hm,h.1⟩,h.2⟩
 have h:=h.2 hc1
 refine wpE_exit (th_x (th_x (bl_eq (th_n (eg (q0 Sl.nil.v (ln (wpE_seq (wpE_seq ?_)))))))))
 refine rg (q0 (vp r1) ?_)
 refine sc call80 (h.mono ?_)
 rintro e w3 ⟨r3,rfl,h⟩
 refine ⟨_,rfl,?_⟩
 refine q0 (vi (r3.len:Int)) (q0 (vi 0) (ln (wpE_block ?_)))
 obtain ⟨I2,mu2,h0,hr⟩:=h
 refine wpE_loop (σ:=Sl×Int×World) (fun s ρ w=>w=s.2.2∧Has ρ [(0,(vp p1)),(8,s.1.v),(24,r3.v),(25,(vi (r3.len:Int))),(26,(vi s.2.1))]∧I2 s.1 s.2.1 s.2.2) (fun s=>mu2 s.1 s.2.1 s.2.2) (Sl.nil,0,w3) ⟨rfl,hm,h0⟩ ?_
 rintro ⟨out1,x2,wl2⟩ ρ w ⟨hw,hH,hI⟩
 obtain rfl:wl2=w:=(show w=wl2 from hw).symm
 have hH:Has ρ [(0,(vp p1)),(8,out1.v),(24,r3.v),(25,(vi (r3.len:Int))),(26,(vi x2))]:=hH
 have h:=hr out1 x2 wl2 hI
 unfold m_U_l2 at h
 refine wpE_has hH ?_
 refine eg (q0 (vb (decide (x2<(r3.len:Int)))) (ln (wpE_seq ?_)))
 refine wpE_cond (t:=(decide (x2<(r3.len:Int)))) (by kernel_rfl) (fun hc2=>?_) (fun hc2=>?_)
 have h:=h.1 hc2
 refine wpE_skip (th_n (wpE_seq (wpE_block (eg ?_))))
 obtain ⟨a2,hv5,h⟩:=h
 refine q2 (vp (some a2)) (xi (runUnderlying46 _) (sizeOf78 _) hv5) ?_
 obtain ⟨v2,hv4,h⟩:=h
 refine q2 (vi v2) (xl (isAgg78 _) hv4) (q0 (vi v2) (ln (rg (q0 out1.v (q0 (vp p1) (q0 (vi v2) ?_))))))
 refine sc call34 (h.mono ?_)
 rintro e w4 ⟨r4,rfl,h⟩
 refine ⟨_,rfl,?_⟩
 obtain ⟨s1,w5,hv3,h⟩:=h
 refine st (v:=s1.v) (want0 rfl) (x_builtin (args:=#[out1.v,r4.v]) (by kernel_rfl) (fun _=>rfl) hv3) (q0 s1.v (wpL_nil (bl_n (th_n (rg (q0 (vi (q6.wrap (x2+1))) (q0 (vi (q6.wrap (x2+1))) (ln ?_))))))))
 exact ⟨(s1,(q6.wrap (x2+1)),w5),⟨rfl,hm,h.1⟩,h.2⟩
 have h:=h.2 hc2
 refine wpE_exit (th_x (th_x (bl_eq (th_n (eg (q0 out1.v ?_))))))
 refine sc call81 (h.mono ?_)
 rintro e w6 ⟨rfl,h⟩
 refine ⟨_,rfl,?_⟩
 refine ln (eg (q0 out1.v ?_))
 refine sc call82 (h.mono ?_)
 rintro e w7 ⟨r5,rfl,h⟩
 refine ⟨_,rfl,?_⟩
 refine q0 r5.v (ln (er (rs1 results26 (v:=r5.v) ?_)))
 exact ⟨r5,rfl,h⟩
def m_J_j4 (r1:Option Addr) (r12:Int) (x4:Bool) (H:NP) (w:World) (K:Bool→WP):Prop :=
 Br x4
  (∀(p2:Addr) (w24:World),New w (.cells #[(vi r12)] 78) p2 w24 →
  Calls prog 26 #[(vp r1),(Sl.mk (some p2) 1 1).v] w24 (fun e w25=>∃r15:Sl,e=.returned r15.v∧
   Kept H w24 w25 ∧
   K (((r15.len:Int):Int) == 3) w25))
  (K false w)
def m_J_j3 (r1:Option Addr) (r6 r12:Int) (x3:Bool) (H:NP) (w:World) (K:Bool→WP):Prop :=
 Br x3
  (Calls prog 34 #[(vp r1),(vi r6)] w (fun e w26=>∃r16:Sl,e=.returned r16.v∧
   Kept H w w26 ∧
   m_J_j4 r1 r12 (((r16.len:Int):Int) == 3) H w26 K))
  (m_J_j4 r1 r12 false H w K)
def m_J_j2 (r1:Option Addr) (r2 r6 r12:Int) (x2:Bool) (H:NP) (w:World) (K:Bool→WP):Prop :=
 Br x2
  (Calls prog 35 #[(vp r1),(vi r2),(vi 0),(vu 7),(vs (⟨#[120]⟩:ByteArray))] w (fun e w27=>∃r17:Int,e=.returned (vi r17)∧
   Kept H w w27 ∧
   m_J_j3 r1 r6 r12 (r17 == 2) H w27 K))
  (m_J_j3 r1 r6 r12 false H w K)
def m_J_j1 (r1:Option Addr) (r2 r6 r12:Int) (x1:Bool) (H:NP) (w:World) (K:Bool→WP):Prop :=
 Br x1
  (Calls prog 45 #[(vp r1),(vi r2),(vi 0),(vu 7),(vs (⟨#[120]⟩:ByteArray))] w (fun e w28=>∃r18:Bool,e=.returned (vb r18)∧
   Kept H w w28 ∧
   m_J_j2 r1 r2 r6 r12 (!r18) H w28 K))
  (m_J_j2 r1 r2 r6 r12 false H w K)
def m_J  (w0:World) (K:Bool→WP):Prop :=
 Calls prog 61 #[] w0 (fun e w1=>∃r1:Option Addr,e=.returned (vp r1)∧
  Kept None w0 w1 ∧
  Br (Option.isNone r1)
   (K false w1)
   (Calls prog 76 #[(vp r1),(.agg #[(vi 1),(vi 0),(vu 7),(vs (⟨#[120]⟩:ByteArray)),(vb false)])] w1 (fun e w2=>∃r2 r3:Int,e=.returned (.tuple #[(vi r2),(vi r3)])∧
    Kept None w1 w2 ∧
    Calls prog 76 #[(vp r1),(.agg #[(vi 1),(vi 1),(vu 7),(vs (⟨#[120]⟩:ByteArray)),(vb false)])] w2 (fun e w3=>∃r4 r5:Int,e=.returned (.tuple #[(vi r4),(vi r5)])∧
     Kept None w2 w3 ∧
     Calls prog 32 #[(vp r1),(vi r2),(vi r4)] w3 (fun e w4=>∃r6 r7:Int,e=.returned (.tuple #[(vi r6),(vi r7)])∧
      Kept None w3 w4 ∧
      Calls prog 32 #[(vp r1),(vi r2),(vi r2)] w4 (fun e w5=>∃r8 r9:Int,e=.returned (.tuple #[(vi r8),(vi r9)])∧
       Kept None w4 w5 ∧
       Calls prog 32 #[(vp r1),(vi r2),(vi r6)] w5 (fun e w6=>∃r10 r11:Int,e=.returned (.tuple #[(vi r10),(vi r11)])∧
        Kept None w5 w6 ∧
        Calls prog 33 #[(vp r1),(vi 1),(vi r2),(vi r4)] w6 (fun e w7=>∃r12 r13:Int,e=.returned (.tuple #[(vi r12),(vi r13)])∧
         Kept None w6 w7 ∧
         Calls prog 51 #[(vp r1),(vi r12)] w7 (fun e w8=>∃aA aB aD:Int,∃aE:ByteArray,∃aC r14:Bool,e=.returned (.tuple #[(.agg #[(vi aA),(vi aB),(vu aD),(vs aE),(vb aC)]),(vb r14)])∧
          Kept None w7 w8 ∧
          ∀y1:Bool,y1=((((r7 == 0) && (r9 == 122)) && (r11 == 120)) && (r13 == 0)) →
          Br (((y1 && r14) && (aA == 4)) && (aB == 1))
           (∀(H7:NP) (w23:World),Hst w0 None w8 H7 w23 →
           Calls prog 45 #[(vp r1),(vi r6),(vi 0),(vu 7),(vs (⟨#[120]⟩:ByteArray))] w23 (fun e w29=>∃r19:Bool,e=.returned (vb r19)∧
            Kept H7 w23 w29 ∧
            m_J_j1 r1 r2 r6 r12 r19 H7 w29 K))
           (∀(H7:NP) (w23:World),Hst w0 None w8 H7 w23 →
           m_J_j1 r1 r2 r6 r12 false H7 w23 K))))))))))
theorem w_J  (w0 : World) (K : Bool → WP) (h : m_J  w0 K) :
  Calls prog 24 #[] w0 (fun e w'=>∃r20:Bool,e=.returned (vb r20)∧K r20 w'):=by
 unfold m_J at h
 refine cw (args:=[]) func24 ntmps24 ?_
 have hs:=Hst.start w0
 have hb:=HB.nil None w0
 refine eg (q0 (vb false) (ln (eg ?_)))
 refine sc call61 (h.mono ?_)
 rintro e w1 ⟨r1,rfl,hk,h⟩
 refine ⟨_,rfl,?_⟩
 obtain ⟨hs,hb⟩:=hk.hh hs hb
 refine q0 (vp r1) (ln (wpE_seq (eg (q0 (vp r1) (q2 (vb (Option.isNone r1)) (x_ptreq (by kernel_rfl) rfl underlying68) (ln ?_))))))
 refine wpE_cond (t:=(Option.isNone r1)) (by kernel_rfl) (fun hc1=>?_) (fun hc1=>?_)
 have h:=h.1 hc1
 refine eg (q0 (vb false) (ln (er (th_r (rs1 results24 (v:=(vb false)) ?_)))))
 exact ⟨false,rfl,h⟩
 have h:=h.2 hc1
 refine wpE_skip (th_n (eg (q0 (vp r1) (q0 (.agg #[(vi 1),(vi 0),(vu 7),(vs (⟨#[120]⟩:ByteArray)),(vb false)]) ?_))))
 refine sc call76 (h.mono ?_)
 rintro e w2 ⟨r2,r3,rfl,hk,h⟩
 refine ⟨_,rfl,?_⟩
 obtain ⟨hs,hb⟩:=hk.hh hs hb
 refine q0 (.tuple #[(vi r2),(vi r3)]) (q0 (vi r2) (q0 (vi r3) (q0 (vi r2) (q0 (vi r3) (ln (eg (q0 (vp r1) (q0 (.agg #[(vi 1),(vi 1),(vu 7),(vs (⟨#[120]⟩:ByteArray)),(vb false)]) ?_))))))))
 refine sc call76 (h.mono ?_)
 rintro e w3 ⟨r4,r5,rfl,hk,h⟩
 refine ⟨_,rfl,?_⟩
 obtain ⟨hs,hb⟩:=hk.hh hs hb
 refine q0 (.tuple #[(vi r4),(vi r5)]) (q0 (vi r4) (q0 (vi r5) (q0 (vi r4) (q0 (vi r5) (ln (eg (q0 (vp r1) (q0 (vi r2) (q0 (vi r4) ?_)))))))))
 refine sc call32 (h.mono ?_)
 rintro e w4 ⟨r6,r7,rfl,hk,h⟩
 refine ⟨_,rfl,?_⟩
 obtain ⟨hs,hb⟩:=hk.hh hs hb
 refine q0 (.tuple #[(vi r6),(vi r7)]) (q0 (vi r6) (q0 (vi r7) (q0 (vi r6) (q0 (vi r7) (ln (eg (q0 (vp r1) (q0 (vi r2) (q0 (vi r2) ?_)))))))))
 refine sc call32 (h.mono ?_)
 rintro e w5 ⟨r8,r9,rfl,hk,h⟩
 refine ⟨_,rfl,?_⟩
 obtain ⟨hs,hb⟩:=hk.hh hs hb
 refine q0 (.tuple #[(vi r8),(vi r9)]) (q0 (vi r8) (q0 (vi r9) (q0 (vi r8) (q0 (vi r9) (ln (eg (q0 (vp r1) (q0 (vi r2) (q0 (vi r6) ?_)))))))))
 refine sc call32 (h.mono ?_)
 rintro e w6 ⟨r10,r11,rfl,hk,h⟩
 refine ⟨_,rfl,?_⟩
 obtain ⟨hs,hb⟩:=hk.hh hs hb
 refine q0 (.tuple #[(vi r10),(vi r11)]) (q0 (vi r10) (q0 (vi r11) (q0 (vi r10) (q0 (vi r11) (ln (eg (q0 (vp r1) (q0 (vi r2) (q0 (vi r4) ?_)))))))))
 refine sc call33 (h.mono ?_)
 rintro e w7 ⟨r12,r13,rfl,hk,h⟩
 refine ⟨_,rfl,?_⟩
 obtain ⟨hs,hb⟩:=hk.hh hs hb
 refine q0 (.tuple #[(vi r12),(vi r13)]) (q0 (vi r12) (q0 (vi r13) (q0 (vi r12) (q0 (vi r13) (ln (eg (q0 (vp r1) (q0 (vi r12) ?_))))))))
 refine sc call51 (h.mono ?_)
 rintro e w8 ⟨aA,aB,aD,aE,aC,r14,rfl,hk,h⟩
 refine ⟨_,rfl,?_⟩
 obtain ⟨hs,hb⟩:=hk.hh hs hb
 refine q0 (.tuple #[(.agg #[(vi aA),(vi aB),(vu aD),(vs aE),(vb aC)]),(vb r14)]) (q0 (.agg #[(vi aA),(vi aB),(vu aD),(vs aE),(vb aC)]) (q0 (vb r14) (sn (O:=(.cells #[(vi 0),(vi 0),(vu 0),ve,(vb false)] 35)) (x_alloc (zeroValue35 _) rfl) ?_)))
 intro p1 w9 hn1
 obtain ⟨H1,hs,hb⟩:=hs.alloc hb hn1
 refine ss (xo p1 [(vi aA),(vi aB),(vu aD),(vs aE),(vb aC)] (sizeOf35 _) (hb.k0 0 5 gZ)) ?_
 intro w10 hn2
 obtain ⟨hs,hb⟩:=hb.s0 (l':=[(p1,[(vi aA),(vi aB),(vu aD),(vs aE),(vb aC)],35)]) 0 [(vi aA),(vi aB),(vu aD),(vs aE),(vb aC)] hs hn2 gZ
 refine q0 (vb r14) (ln (eg (q0 (vi r7) ?_)))
 refine sc call36 ((p_E1 r7 w10).mono ?_)
 rintro e w11 ⟨he,hE⟩
 refine ⟨(vi r7),he.trans (by kernel_rfl),?_⟩
 have hs:=hs.pure hE
 have hb:=hb.pure hE
 refine q0 (vb (r7 == 0)) (q0 (vb (r7 == 0)) ?_)
 refine wpL_join 4 (fun ρ wJ=>∃b1'0:Bool,∃HJ:NP,((r7 == 0)=b1'0)∧Hst w0 None w8 HJ wJ∧HB HJ wJ [(p1,[(vi aA),(vi aB),(vu aD),(vs aE),(vb aC)],35)]∧Has ρ [(1,(vp r1)),(2,(vi r2)),(6,(vi r6)),(11,(vi r11)),(12,(vi r12)),(13,(vi r13)),(14,(vp (some p1))),(15,(vb r14)),(72,(vb (b1'0 && (r9 == 122))))]) ?_ ?_
 rintro ρ w13 ⟨b1'0,H2,he0,hs,hb,hH⟩
 subst he0
 refine wpL_has hH ?_
 refine q0 (vb ((r7 == 0) && (r9 == 122))) ?_
 refine wpL_join 4 (fun ρ wJ=>∃b2'0:Bool,∃HJ:NP,(((r7 == 0) && (r9 == 122))=b2'0)∧Hst w0 None w8 HJ wJ∧HB HJ wJ [(p1,[(vi aA),(vi aB),(vu aD),(vs aE),(vb aC)],35)]∧Has ρ [(1,(vp r1)),(2,(vi r2)),(6,(vi r6)),(12,(vi r12)),(13,(vi r13)),(14,(vp (some p1))),(15,(vb r14)),(77,(vb (b2'0 && (r11 == 120))))]) ?_ ?_
 rintro ρ w16 ⟨b2'0,H3,he0,hs,hb,hH⟩
 subst he0
 refine wpL_has hH ?_
 refine q0 (vb (((r7 == 0) && (r9 == 122)) && (r11 == 120))) ?_
 refine wpL_join 4 (fun ρ wJ=>∃b3'0 y1:Bool,∃HJ:NP,((((r7 == 0) && (r9 == 122)) && (r11 == 120))=b3'0)∧(y1=(b3'0 && (r13 == 0)))∧Hst w0 None w8 HJ wJ∧HB HJ wJ [(p1,[(vi aA),(vi aB),(vu aD),(vs aE),(vb aC)],35)]∧Has ρ [(1,(vp r1)),(2,(vi r2)),(6,(vi r6)),(12,(vi r12)),(14,(vp (some p1))),(15,(vb r14)),(82,(vb y1))]) ?_ ?_
 rintro ρ w19 ⟨b3'0,y1,H4,he0,hy1,hs,hb,hH⟩
 subst he0
 have h:=h y1 hy1
 refine wpL_has hH ?_
 refine q0 (vb y1) ?_
 refine wpL_join 2 (fun ρ wJ=>∃b4'0:Bool,∃HJ:NP,(y1=b4'0)∧Hst w0 None w8 HJ wJ∧HB HJ wJ [(p1,[(vi aA),(vi aB),(vu aD),(vs aE),(vb aC)],35)]∧Has ρ [(1,(vp r1)),(2,(vi r2)),(6,(vi r6)),(12,(vi r12)),(14,(vp (some p1))),(85,(vb (b4'0 && r14)))]) ?_ ?_
 rintro ρ w21 ⟨b4'0,H5,he0,hs,hb,hH⟩
 subst he0
 refine wpL_has hH ?_
 refine q0 (vb (y1 && r14)) ?_
 refine wpL_join 4 (fun ρ wJ=>∃b5'0:Bool,∃HJ:NP,((y1 && r14)=b5'0)∧Hst w0 None w8 HJ wJ∧HB HJ wJ [(p1,[(vi aA),(vi aB),(vu aD),(vs aE),(vb aC)],35)]∧Has ρ [(1,(vp r1)),(2,(vi r2)),(6,(vi r6)),(12,(vi r12)),(14,(vp (some p1))),(90,(vb (b5'0 && (aA == 4))))]) ?_ ?_
 rintro ρ w22 ⟨b5'0,H6,he0,hs,hb,hH⟩
 subst he0
 refine wpL_has hH ?_
 refine q0 (vb ((y1 && r14) && (aA == 4))) ?_
 refine wpL_join 4 (fun ρ wJ=>∃b6'0:Bool,∃HJ:NP,(((y1 && r14) && (aA == 4))=b6'0)∧Hst w0 None w8 HJ wJ∧HB HJ wJ [(p1,[(vi aA),(vi aB),(vu aD),(vs aE),(vb aC)],35)]∧Has ρ [(1,(vp r1)),(2,(vi r2)),(6,(vi r6)),(12,(vi r12)),(95,(vb (b6'0 && (aB == 1))))]) ?_ ?_
 rintro ρ w23 ⟨b6'0,H7,he0,hs,hb,hH⟩
 subst he0
 refine wpL_has hH ?_
 refine q0 (vb (((y1 && r14) && (aA == 4)) && (aB == 1))) ?_
 refine wpL_join 4 (fun ρ w=>∃x1:Bool,∃H:NP,Has ρ [(1,(vp r1)),(2,(vi r2)),(6,(vi r6)),(12,(vi r12)),(100,(vb x1))]∧Hst w0 H w H w∧HB H w [(p1,[(vi aA),(vi aB),(vu aD),(vs aE),(vb aC)],35)]∧m_J_j1 r1 r2 r6 r12 x1 H w K) ?_ ?_
 rintro ρ w ⟨x1,H,hH,hs,hb,h⟩
 unfold m_J_j1 at h
 refine wpL_has hH ?_
 refine q0 (vb x1) ?_
 refine wpL_join 5 (fun ρ w=>∃x2:Bool,∃H:NP,Has ρ [(1,(vp r1)),(2,(vi r2)),(6,(vi r6)),(12,(vi r12)),(106,(vb x2))]∧Hst w0 H w H w∧HB H w [(p1,[(vi aA),(vi aB),(vu aD),(vs aE),(vb aC)],35)]∧m_J_j2 r1 r2 r6 r12 x2 H w K) ?_ ?_
 rintro ρ w ⟨x2,H,hH,hs,hb,h⟩
 unfold m_J_j2 at h
 refine wpL_has hH ?_
 refine q0 (vb x2) ?_
 refine wpL_join 5 (fun ρ w=>∃x3:Bool,∃H:NP,Has ρ [(1,(vp r1)),(6,(vi r6)),(12,(vi r12)),(112,(vb x3))]∧Hst w0 H w H w∧HB H w [(p1,[(vi aA),(vi aB),(vu aD),(vs aE),(vb aC)],35)]∧m_J_j3 r1 r6 r12 x3 H w K) ?_ ?_
 rintro ρ w ⟨x3,H,hH,hs,hb,h⟩
 unfold m_J_j3 at h
 refine wpL_has hH ?_
 refine q0 (vb x3) ?_
 refine wpL_join 6 (fun ρ w=>∃x4:Bool,∃H:NP,Has ρ [(1,(vp r1)),(12,(vi r12)),(119,(vb x4))]∧Hst w0 H w H w∧HB H w [(p1,[(vi aA),(vi aB),(vu aD),(vs aE),(vb aC)],35)]∧m_J_j4 r1 r12 x4 H w K) ?_ ?_
 rintro ρ w ⟨x4,H,hH,hs,hb,h⟩
 unfold m_J_j4 at h
 refine wpL_has hH ?_
 refine q0 (vb x4) ?_
 rcases bte x4 with hg13 | hg13
 have h:=h.1 hg13
 refine q1 (vp r1) (wy 120 hg13) (q1 (vi r12) (wy 120 hg13) (st_new (O:=(.cells #[(vi r12)] 78)) (fun p=>(Sl.mk (some p) 1 1).v) (wy 120 hg13) (x_buildSlice (vs:=#[(0,(vi r12))]) (by kernel_rfl) (by kernel_rfl)) ?_))
 intro p2 w24 hn3
 have h:=h p2 w24 hn3
 have hs:=hs.again (Ext.new (F:=None) hn3).keptP
 have hb:=hb.kept (Ext.new (F:=None) hn3).keptP
 refine st_call (wy 120 hg13) (xc call26) (h.mono ?_)
 rintro e w25 ⟨r15,rfl,hk,h⟩
 refine ⟨_,rfl,?_⟩
 obtain ⟨hs,hb⟩:=hk.hh hs hb
 refine q1 (vi (r15.len:Int)) (wy 120 hg13) (q1 (vb (((r15.len:Int):Int) == 3)) (wy 120 hg13) (q2 (vb (((r15.len:Int):Int) == 3)) (xT hg13) (q0 (vb (((r15.len:Int):Int) == 3)) (ln (er (rs1 results24 (v:=(vb (((r15.len:Int):Int) == 3))) ?_))))))
 exact ⟨(((r15.len:Int):Int) == 3),rfl,h⟩
 have h:=h.2 hg13
 refine sk (yD 120 hg13) (sk (yD 120 hg13) (sk (yD 120 hg13) (sk (yD 120 hg13) (sk (yD 120 hg13) (sk (yD 120 hg13) (q2 (vb false) (xF hg13) (q0 (vb false) (ln (er (rs1 results24 (v:=(vb false)) ?_))))))))))
 exact ⟨false,rfl,h⟩
 rcases bte x3 with hg14 | hg14
 have h:=h.1 hg14
 refine q1 (vp r1) (wy 113 hg14) (q1 (vi r6) (wy 113 hg14) ?_)
 refine st_call (wy 113 hg14) (xc call34) (h.mono ?_)
 rintro e w26 ⟨r16,rfl,hk,h⟩
 refine ⟨_,rfl,?_⟩
 obtain ⟨hs,hb⟩:=hk.hh hs hb
 refine q1 (vi (r16.len:Int)) (wy 113 hg14) (q1 (vb (((r16.len:Int):Int) == 3)) (wy 113 hg14) (q2 (vb (((r16.len:Int):Int) == 3)) (xT hg14) (wpL_nil ?_)))
 exact ⟨(((r16.len:Int):Int) == 3),H,hm,hs,hb,h⟩
 have h:=h.2 hg14
 refine sk (yD 113 hg14) (sk (yD 113 hg14) (sk (yD 113 hg14) (sk (yD 113 hg14) (sk (yD 113 hg14) (q2 (vb false) (xF hg14) (wpL_nil ?_))))))
 exact ⟨false,H,hm,hs,hb,h⟩
 rcases bte x2 with hg15 | hg15
 have h:=h.1 hg15
 refine q1 (vp r1) (wy 107 hg15) (q1 (vi r2) (wy 107 hg15) ?_)
 refine st_call (wy 107 hg15) (xc call35) (h.mono ?_)
 rintro e w27 ⟨r17,rfl,hk,h⟩
 refine ⟨_,rfl,?_⟩
 obtain ⟨hs,hb⟩:=hk.hh hs hb
 refine q1 (vb (r17 == 2)) (wy 107 hg15) (q2 (vb (r17 == 2)) (xT hg15) (wpL_nil ?_))
 exact ⟨(r17 == 2),H,hm,hs,hb,h⟩
 have h:=h.2 hg15
 refine sk (yD 107 hg15) (sk (yD 107 hg15) (sk (yD 107 hg15) (sk (yD 107 hg15) (q2 (vb false) (xF hg15) (wpL_nil ?_)))))
 exact ⟨false,H,hm,hs,hb,h⟩
 rcases bte x1 with hg16 | hg16
 have h:=h.1 hg16
 refine q1 (vp r1) (wy 101 hg16) (q1 (vi r2) (wy 101 hg16) ?_)
 refine st_call (wy 101 hg16) (xc call45) (h.mono ?_)
 rintro e w28 ⟨r18,rfl,hk,h⟩
 refine ⟨_,rfl,?_⟩
 obtain ⟨hs,hb⟩:=hk.hh hs hb
 refine q1 (vb (!r18)) (wy 101 hg16) (q2 (vb (!r18)) (xT hg16) (wpL_nil ?_))
 exact ⟨(!r18),H,hm,hs,hb,h⟩
 have h:=h.2 hg16
 refine sk (yD 101 hg16) (sk (yD 101 hg16) (sk (yD 101 hg16) (sk (yD 101 hg16) (q2 (vb false) (xF hg16) (wpL_nil ?_)))))
 exact ⟨false,H,hm,hs,hb,h⟩
 rcases bte (((y1 && r14) && (aA == 4)) && (aB == 1)) with hg17 | hg17
 have h:=h.1 hg17
 refine q1 (vp r1) (wy 96 hg17) (q1 (vi r6) (wy 96 hg17) ?_)
 have h:=h H7 w23 hs
 have hs:=hs.here
 refine st_call (wy 96 hg17) (xc call45) (h.mono ?_)
 rintro e w29 ⟨r19,rfl,hk,h⟩
 refine ⟨_,rfl,?_⟩
 obtain ⟨hs,hb⟩:=hk.hh hs hb
 refine q2 (vb r19) (xT hg17) (wpL_nil ?_)
 exact ⟨r19,H7,hm,hs,hb,h⟩
 have h:=h.2 hg17
 refine sk (yD 96 hg17) (sk (yD 96 hg17) (sk (yD 96 hg17) (q2 (vb false) (xF hg17) (wpL_nil ?_))))
 have h:=h H7 w23 hs
 have hs:=hs.here
 exact ⟨false,H7,hm,hs,hb,h⟩
 rcases bte ((y1 && r14) && (aA == 4)) with hg12 | hg12
 refine q1 (vp (some (p1.add 1))) (wy 91 hg12) (stp (v:=(vi aB)) (wy 91 hg12) (xl (isAgg3 _) (hb.c 0 1 gZ)) (q1 (vb (aB == 1)) (wy 91 hg12) (q2 (vb (aB == 1)) (xT hg12) (wpL_nil ?_))))
 exact ⟨true,_,hg12,hs,hb,hm⟩
 refine sk (yD 91 hg12) (sk (yD 91 hg12) (sk (yD 91 hg12) (q2 (vb false) (xF hg12) (wpL_nil ?_))))
 exact ⟨false,_,hg12,hs,hb,hm⟩
 rcases bte (y1 && r14) with hg10 | hg10
 refine q1 (vp (some p1)) (wy 86 hg10) (stp (v:=(vi aA)) (wy 86 hg10) (xl (isAgg3 _) (hb.c0 0 gZ)) (q1 (vb (aA == 4)) (wy 86 hg10) (q2 (vb (aA == 4)) (xT hg10) (wpL_nil ?_))))
 exact ⟨true,_,hg10,hs,hb,hm⟩
 refine sk (yD 86 hg10) (sk (yD 86 hg10) (sk (yD 86 hg10) (q2 (vb false) (xF hg10) (wpL_nil ?_))))
 exact ⟨false,_,hg10,hs,hb,hm⟩
 rcases bte y1 with hg8 | hg8
 refine q1 (vb r14) (wy 83 hg8) (q2 (vb r14) (xT hg8) (wpL_nil ?_))
 exact ⟨true,_,hg8,hs,hb,hm⟩
 refine sk (yD 83 hg8) (q2 (vb false) (xF hg8) (wpL_nil ?_))
 exact ⟨false,_,hg8,hs,hb,hm⟩
 rcases bte (((r7 == 0) && (r9 == 122)) && (r11 == 120)) with hg6 | hg6
 refine q1 (vi r13) (wy 78 hg6) ?_
 refine st_call (wy 78 hg6) (xc call36) ((p_E1 r13 w16).mono ?_)
 rintro e w20 ⟨he,hE⟩
 refine ⟨(vi r13),he.trans (by kernel_rfl),?_⟩
 have hs:=hs.pure hE
 have hb:=hb.pure hE
 refine q1 (vb (r13 == 0)) (wy 78 hg6) (q2 (vb (r13 == 0)) (xT hg6) (wpL_nil ?_))
 exact ⟨true,_,_,hg6,rfl,hs,hb,hm⟩
 refine sk (yD 78 hg6) (sk (yD 78 hg6) (sk (yD 78 hg6) (q2 (vb false) (xF hg6) (wpL_nil ?_))))
 exact ⟨false,_,_,hg6,rfl,hs,hb,hm⟩
 rcases bte ((r7 == 0) && (r9 == 122)) with hg4 | hg4
 refine q1 (vi r11) (wy 73 hg4) ?_
 refine st_call (wy 73 hg4) (xc call36) ((p_E1 r11 w13).mono ?_)
 rintro e w17 ⟨he,hE⟩
 refine ⟨(vi r11),he.trans (by kernel_rfl),?_⟩
 have hs:=hs.pure hE
 have hb:=hb.pure hE
 refine q1 (vb (r11 == 120)) (wy 73 hg4) (q2 (vb (r11 == 120)) (xT hg4) (wpL_nil ?_))
 exact ⟨true,_,hg4,hs,hb,hm⟩
 refine sk (yD 73 hg4) (sk (yD 73 hg4) (sk (yD 73 hg4) (q2 (vb false) (xF hg4) (wpL_nil ?_))))
 exact ⟨false,_,hg4,hs,hb,hm⟩
 rcases bte (r7 == 0) with hg2 | hg2
 refine q1 (vi r9) (wy 68 hg2) ?_
 refine st_call (wy 68 hg2) (xc call36) ((p_E1 r9 w11).mono ?_)
 rintro e w14 ⟨he,hE⟩
 refine ⟨(vi r9),he.trans (by kernel_rfl),?_⟩
 have hs:=hs.pure hE
 have hb:=hb.pure hE
 refine q1 (vb (r9 == 122)) (wy 68 hg2) (q2 (vb (r9 == 122)) (xT hg2) (wpL_nil ?_))
 exact ⟨true,_,hg2,hs,hb,hm⟩
 refine sk (yD 68 hg2) (sk (yD 68 hg2) (sk (yD 68 hg2) (q2 (vb false) (xF hg2) (wpL_nil ?_))))
 exact ⟨false,_,hg2,hs,hb,hm⟩
def m_J1_l1 (l1:Sl) (r1:Option Addr) (r2:Option Addr) (i1:Int) (w0:World) (Hl1:NP) (wl1:World) (Kc1:Int→NP→WP) (K:(Option Addr)→(Option Addr)→Bool→WP):Prop :=
 Br (decide (i1<(l1.len:Int)))
  (∃a1:Addr,At l1 i1 6 a1 ∧
  ∃aK aV:Int,∃aW aX:Int,∃aM:ByteArray,∃aY:Sl,Row wl1 a1 [(vi aK),(vi aV),(vi aW),(vu aX),(vs aM),aY.v] ∧
  Calls prog 77 #[(vp r1),(.agg #[(vi aK),(vi aV),(vi aW),(vu aX),(vs aM),aY.v])] wl1 (fun e w3=>∃r3 r4:Int,e=.returned (.tuple #[(vi r3),(vi r4)])∧
   Kept Hl1 wl1 w3 ∧
   ∃a2:Addr,At l1 i1 6 a2 ∧
   ∃cZ dA:Int,∃dB dC:Int,∃dD:ByteArray,∃dE:Sl,Row w3 a2 [(vi cZ),(vi dA),(vi dB),(vu dC),(vs dD),dE.v] ∧
   Calls prog 78 #[(vp r2),(.agg #[(vi cZ),(vi dA),(vi dB),(vu dC),(vs dD),dE.v])] w3 (fun e w4=>∃r5 r6:Int,e=.returned (.tuple #[(vi r5),(vi r6)])∧
    Kept Hl1 w3 w4 ∧
    Br ((r4 != r6) || (r3 != r5))
     (∀(H1:NP) (w6:World),Hst w0 Hl1 w4 H1 w6 →
     K none none false w6)
     (∀(H1:NP) (w6:World),Hst w0 Hl1 w4 H1 w6 →
     Kc1 (q6.wrap (i1+1)) H1 w6))))
  (K r1 r2 true wl1)
def m_J1 (l1:Sl) (w0:World) (K:(Option Addr)→(Option Addr)→Bool→WP):Prop :=
 Calls prog 61 #[] w0 (fun e w1=>∃r1:Option Addr,e=.returned (vp r1)∧
  Kept None w0 w1 ∧
  Calls prog 63 #[] w1 (fun e w2=>∃r2:Option Addr,e=.returned (vp r2)∧
   Kept None w1 w2 ∧
   Br (Option.isNone r1)
    (K none none false w2)
    (∃(I1:Int→NP→WP) (mu1:Int→World→Nat),I1 0 None w2 ∧
     ∀(i1:Int) (Hl1:NP) (wl1:World),Hst w0 Hl1 wl1 Hl1 wl1→I1 i1 Hl1 wl1→m_J1_l1 l1 r1 r2 i1 w0 Hl1 wl1 (fun y'0 H' w'=>I1 y'0 H' w'∧mu1 y'0 w'<mu1 i1 wl1) K)))
theorem w_J1 (l1 : Sl) (w0 : World) (K : (Option Addr) → (Option Addr) → Bool → WP) (h : m_J1 l1 w0 K) :
  Calls prog 25 #[l1.v] w0 (fun e w'=>∃r7:Option Addr,∃r8:Option Addr,∃r9:Bool,e=.returned (.tuple #[(vp r7),(vp r8),(vb r9)])∧K r7 r8 r9 w'):=by
 unfold m_J1 at h
 refine cw (args:=[l1.v]) func25 ntmps25 ?_
 have hs:=Hst.start w0
 have hb:=HB.nil None w0
 refine eg (q0 (vp none) (q0 (vp none) (q0 (vb false) (ln (eg ?_)))))
 refine sc call61 (h.mono ?_)
 rintro e w1 ⟨r1,rfl,hk,h⟩
 refine ⟨_,rfl,?_⟩
 obtain ⟨hs,hb⟩:=hk.hh hs hb
 refine q0 (vp r1) (ln (eg ?_))
 refine sc call63 (h.mono ?_)
 rintro e w2 ⟨r2,rfl,hk,h⟩
 refine ⟨_,rfl,?_⟩
 obtain ⟨hs,hb⟩:=hk.hh hs hb
 refine q0 (vp r2) (ln (wpE_seq (eg (q0 (vp r1) (q2 (vb (Option.isNone r1)) (x_ptreq (by kernel_rfl) rfl underlying68) (ln ?_))))))
 refine wpE_cond (t:=(Option.isNone r1)) (by kernel_rfl) (fun hc1=>?_) (fun hc1=>?_)
 have h:=h.1 hc1
 refine eg (q0 (vp none) (q0 (vp none) (q0 (vb false) (ln (er (th_r (res3 (.inl rfl) results25 (v:=(vp none)) (by kernel_rfl) (v':=(vp none)) (by kernel_rfl) (v'':=(vb false)) (by kernel_rfl) ?_)))))))
 exact ⟨none,none,false,rfl,h⟩
 have h:=h.2 hc1
 refine wpE_skip (th_n (wpE_seq (eg (q0 (vi 0) (ln (wpE_block ?_))))))
 obtain ⟨I1,mu1,h0,hr⟩:=h
 refine wpE_loop (σ:=Int×NP×World) (fun s ρ w=>w=s.2.2∧Has ρ [(0,l1.v),(5,(vp r1)),(6,(vp r2)),(7,(vi s.1))]∧Hst w0 s.2.1 w s.2.1 w∧HB s.2.1 w []∧I1 s.1 s.2.1 s.2.2) (fun s=>mu1 s.1 s.2.2) (0,None,w2) ⟨rfl,hm,hs,hb,h0⟩ ?_
 rintro ⟨i1,Hl1,wl1⟩ ρ w ⟨hw,hH,hs,hb,hI⟩
 obtain rfl:wl1=w:=(show w=wl1 from hw).symm
 have hH:Has ρ [(0,l1.v),(5,(vp r1)),(6,(vp r2)),(7,(vi i1))]:=hH
 have hs:Hst w0 Hl1 wl1 Hl1 wl1:=hs
 have hb:HB Hl1 wl1 []:=hb
 have h:=hr i1 Hl1 wl1 hs hI
 unfold m_J1_l1 at h
 refine wpE_has hH ?_
 refine wpE_seq (eg (q0 (vi i1) (q0 l1.v (q0 (vi (l1.len:Int)) (q0 (vb (decide (i1<(l1.len:Int)))) (ln ?_))))))
 refine wpE_cond (t:=(decide (i1<(l1.len:Int)))) (by kernel_rfl) (fun hc2=>?_) (fun hc2=>?_)
 have h:=h.1 hc2
 refine wpE_skip (th_n (wpE_seq (wpE_block (eg (q0 (vp r1) (q0 l1.v (q0 (vi i1) ?_)))))))
 obtain ⟨a1,hv4,h⟩:=h
 refine q2 (vp (some a1)) (xi (runUnderlying66 _) (sizeOf107 _) hv4) ?_
 obtain ⟨aK,aV,aW,aX,aM,aY,hv3,h⟩:=h
 refine q2 (.agg #[(vi aK),(vi aV),(vi aW),(vu aX),(vs aM),aY.v]) (xa a1 [(vi aK),(vi aV),(vi aW),(vu aX),(vs aM),aY.v] (isAgg107 _) (sizeOf107 _) hv3) ?_
 refine sc call77 (h.mono ?_)
 rintro e w3 ⟨r3,r4,rfl,hk,h⟩
 refine ⟨_,rfl,?_⟩
 obtain ⟨hs,hb⟩:=hk.hh hs hb
 refine q0 (.tuple #[(vi r3),(vi r4)]) (q0 (vi r3) (q0 (vi r4) (q0 (vi r3) (q0 (vi r4) (ln (eg (q0 (vp r2) (q0 l1.v (q0 (vi i1) ?_)))))))))
 obtain ⟨a2,hv2,h⟩:=h
 refine q2 (vp (some a2)) (xi (runUnderlying66 _) (sizeOf107 _) hv2) ?_
 obtain ⟨cZ,dA,dB,dC,dD,dE,hv1,h⟩:=h
 refine q2 (.agg #[(vi cZ),(vi dA),(vi dB),(vu dC),(vs dD),dE.v]) (xa a2 [(vi cZ),(vi dA),(vi dB),(vu dC),(vs dD),dE.v] (isAgg107 _) (sizeOf107 _) hv1) ?_
 refine sc call78 (h.mono ?_)
 rintro e w4 ⟨r5,r6,rfl,hk,h⟩
 refine ⟨_,rfl,?_⟩
 obtain ⟨hs,hb⟩:=hk.hh hs hb
 refine q0 (.tuple #[(vi r5),(vi r6)]) (q0 (vi r5) (q0 (vi r6) (q0 (vi r5) (q0 (vi r6) (ln (wpE_seq ?_))))))
 refine wpE_via (fun ρ wJ=>∃b1'0:Bool,∃HJ:NP,((r4 != r6)=b1'0)∧Hst w0 Hl1 w4 HJ wJ∧HB HJ wJ []∧Has ρ [(0,l1.v),(5,(vp r1)),(6,(vp r2)),(7,(vi i1)),(48,(vb (b1'0 || (r3 != r5))))]) ?_ ?_
 refine rg (q0 (vi r4) ?_)
 refine sc call36 ((p_E1 r4 w4).mono ?_)
 rintro e w7 ⟨he,hE⟩
 refine ⟨(vi r4),he.trans (by kernel_rfl),?_⟩
 have hs:=hs.pure hE
 have hb:=hb.pure hE
 refine q0 (vi r6) (q0 (vb (r4 != r6)) (q0 (vb (r4 != r6)) ?_))
 rcases bte (r4 != r6) with hg2 | hg2
 refine sk (yD 44 hg2) (sk (yD 44 hg2) (sk (yD 44 hg2) (q2 (vb true) (xT hg2) (ln ?_))))
 exact ⟨true,_,hg2,hs,hb,hm⟩
 refine q1 (vi r3) (wy 44 hg2) (q1 (vi r5) (wy 44 hg2) (q1 (vb (r3 != r5)) (wy 44 hg2) (q2 (vb (r3 != r5)) (xF hg2) (ln ?_))))
 exact ⟨false,_,hg2,hs,hb,hm⟩
 rintro ρ w6 ⟨b1'0,H1,he0,hs,hb,hH⟩
 subst he0
 refine norm_has hH ?_
 refine th_n ?_
 refine wpE_cond (t:=((r4 != r6) || (r3 != r5))) (by kernel_rfl) (fun hc3=>?_) (fun hc3=>?_)
 have h:=h.1 hc3
 refine eg (q0 (vp none) (q0 (vp none) (q0 (vb false) (ln (er (bl_r (th_r (th_r (bl_r ?_)))))))))
 refine th_r ?_
 have h:=h H1 w6 hs
 have hs:=hs.here
 refine res3 (.inl rfl) results25 (v:=(vp none)) (by kernel_rfl) (v':=(vp none)) (by kernel_rfl) (v'':=(vb false)) (by kernel_rfl) ?_
 exact ⟨none,none,false,rfl,h⟩
 have h:=h.2 hc3
 refine wpE_skip (bl_n (th_n (rg (q0 (vi i1) (q0 (vi (q6.wrap (i1+1))) (q0 (vi (q6.wrap (i1+1))) (wpL_nil ?_)))))))
 have h:=h H1 w6 hs
 have hs:=hs.here
 refine th_n ?_
 exact ⟨((q6.wrap (i1+1)),H1,w6),⟨rfl,hm,hs,hb,h.1⟩,h.2⟩
 have h:=h.2 hc2
 refine wpE_exit (th_x (th_x (bl_eq (th_n (eg (q0 (vp r1) (q0 (vp r2) (q0 (vp r1) (q0 (vp r2) (q0 (vb true) ?_))))))))))
 refine ln (er (res3 (.inl rfl) results25 (v:=(vp r1)) (by kernel_rfl) (v':=(vp r2)) (by kernel_rfl) (v'':=(vb true)) (by kernel_rfl) ?_))
 exact ⟨r1,r2,true,rfl,h⟩
def m_I3 (bG bH bI:Int) (bJ:ByteArray) (bK bL bM:Int) (bN:ByteArray) (w0:World) (K:Int→WP):Prop :=
 ∀(H2:NP) (w2:World),Hst w0 None w0 H2 w2 →
 ∃C1:WP,C1 w2.drew∧∀w3,w3=w2.drew →
 Calls prog 84 #[(vu bI),(vu bM)] w3 (fun e w4=>∃r1:Int,e=.returned (vi r1)∧C1 w4∧
  Kept H2 w3 w4 ∧
  Calls prog 85 #[(vi bG),(vi bK)] w4 (fun e w5=>∃r2:Int,e=.returned (vi r2)∧C1 w5∧
   Kept H2 w4 w5 ∧
   Calls prog 85 #[(vi bH),(vi bL)] w5 (fun e w6=>∃r3:Int,e=.returned (vi r3)∧C1 w6∧
    Kept H2 w5 w6 ∧
    Calls prog 86 #[(vs bJ),(vs bN)] w6 (fun e w7=>∃r4:Int,e=.returned (vi r4)∧C1 w7∧
     Kept H2 w6 w7 ∧
     ∀(p3:Addr) (w8:World),New w7 (.cells #[(vi r1),(vi r2),(vi r3),(vi r4)] 3) p3 w8→C1 w8 ∧
     Calls prog 83 #[(Sl.mk (some p3) 4 4).v] w8 (fun e w9=>∃r5:Int,e=.returned (vi r5)∧C1 w9∧
      Kept H2 w8 w9 ∧
      K r5 w9)))))
theorem w_I3 (bG bH bI : Int) (bJ : ByteArray) (bK bL bM : Int) (bN : ByteArray) (w0 : World) (K : Int → WP) (h : m_I3 bG bH bI bJ bK bL bM bN w0 K) :
  Calls prog 28 #[(.agg #[(vi bG),(vi bH),(vu bI),(vs bJ)]),(.agg #[(vi bK),(vi bL),(vu bM),(vs bN)])] w0 (fun e w'=>∃r6:Int,e=.returned (vi r6)∧K r6 w'):=by
 unfold m_I3 at h
 refine cw (args:=[(.agg #[(vi bG),(vi bH),(vu bI),(vs bJ)]),(.agg #[(vi bK),(vi bL),(vu bM),(vs bN)])]) func28 ntmps28 ?_
 have hs:=Hst.start w0
 have hb:=HB.nil None w0
 refine eg (sn (O:=(.cells #[(vi bG),(vi bH),(vu bI),(vs bJ)] 75)) xb ?_)
 intro p1 w1 hn1
 obtain ⟨H1,hs,hb⟩:=hs.alloc hb hn1
 refine sn (O:=(.cells #[(vi bK),(vi bL),(vu bM),(vs bN)] 75)) xb ?_
 intro p2 w2 hn2
 obtain ⟨H2,hs,hb⟩:=hs.alloc hb hn2
 refine q0 (vi 0) (ln (wpE_seq ?_))
 have h:=h H2 w2 hs
 have hs:=hs.here
 obtain ⟨C1,hC,h⟩:=h
 refine wpE_drawnC (fun x=>C1 x∧HB H2 x [(p2,[(vi bK),(vi bL),(vu bM),(vs bN)],75),(p1,[(vi bG),(vi bH),(vu bI),(vs bJ)],75)]) [4,9,14,19,20,21] [] (by kernel_rfl) (by kernel_rfl) (by kernel_rfl) (by kernel_rfl) ⟨hC,hb.drew⟩ ?_
 intro w3 hw3
 have h:=h w3 hw3
 have hs:Hst w0 H2 w2 H2 w3:=by rw [hw3];exact hs.drew
 have hb:HB H2 w3 [(p2,[(vi bK),(vi bL),(vu bM),(vs bN)],75),(p1,[(vi bG),(vi bH),(vu bI),(vs bJ)],75)]:=by rw [hw3];exact hb.drew
 have hs:=hs.here
 refine qx 0 (vp (some (p1.add 2))) Kp0 (qz 1 (vu bI) Kp1 (fun w' hw'=>(xl (isAgg23 _) (hw'.2.cell 1 2 (gS gZ) (by kernel_rfl)))) (qx 2 (vp (some (p2.add 2))) Kp2 (qz 3 (vu bM) Kp3 (fun w' hw'=>(xl (isAgg23 _) (hw'.2.cell 0 2 gZ (by kernel_rfl)))) (qx 5 (vp (some p1)) Kp5 (qz 6 (vi bG) Kp6 (fun w' hw'=>(xl (isAgg3 _) (hw'.2.cell0 1 (gS gZ) (by kernel_rfl)))) (qx 7 (vp (some p2)) Kp7 (qz 8 (vi bK) Kp8 (fun w' hw'=>(xl (isAgg3 _) (hw'.2.cell0 0 gZ (by kernel_rfl)))) (qx 10 (vp (some (p1.add 1))) (pickA (S8 (pickS (pickS pickZ)))) (qz 11 (vi bH) (pickA (S8 (pickS (pickS (pickS pickZ))))) (fun w' hw'=>(xl (isAgg3 _) (hw'.2.cell 1 1 (gS gZ) (by kernel_rfl)))) (qx 12 (vp (some (p2.add 1))) (pickA (S8 (S4 pickZ))) (qz 13 (vi bL) (pickA (S8 (S4 (pickS pickZ)))) (fun w' hw'=>(xl (isAgg3 _) (hw'.2.cell 0 1 gZ (by kernel_rfl)))) ?_)))))))))))
 refine qx 15 (vp (some (p1.add 3))) (pickA (S8 (S4 (pickS (pickS (pickS pickZ)))))) (qz 16 (vs bJ) (pickA (S8 (S8 pickZ))) (fun w' hw'=>(xl (isAgg9 _) (hw'.2.cell 1 3 (gS gZ) (by kernel_rfl)))) (qx 17 (vp (some (p2.add 3))) (pickA (S8 (S8 (pickS pickZ)))) (qz 18 (vs bN) (pickA (S8 (S8 (pickS (pickS pickZ))))) (fun w' hw'=>(xl (isAgg9 _) (hw'.2.cell 0 3 gZ (by kernel_rfl)))) (lg 4 ?_))))
 refine slc Kp4 call84 (h.mono ?_)
 rintro e w4 ⟨r1,rfl,hC,hk,h⟩
 refine ⟨_,rfl,.inr ⟨hC,hb.kept hk⟩,?_⟩
 obtain ⟨hs,hb⟩:=hk.hh hs hb
 refine lg 9 ?_
 refine slc Kp9 call85 (h.mono ?_)
 rintro e w5 ⟨r2,rfl,hC,hk,h⟩
 refine ⟨_,rfl,.inr ⟨hC,hb.kept hk⟩,?_⟩
 obtain ⟨hs,hb⟩:=hk.hh hs hb
 refine lg 14 ?_
 refine slc (pickA (S8 (S4 (pickS (pickS pickZ))))) call85 (h.mono ?_)
 rintro e w6 ⟨r3,rfl,hC,hk,h⟩
 refine ⟨_,rfl,.inr ⟨hC,hb.kept hk⟩,?_⟩
 obtain ⟨hs,hb⟩:=hk.hh hs hb
 refine lg 19 ?_
 refine slc (pickA (S8 (S8 (pickS (pickS (pickS pickZ)))))) call86 (h.mono ?_)
 rintro e w7 ⟨r4,rfl,hC,hk,h⟩
 refine ⟨_,rfl,.inr ⟨hC,hb.kept hk⟩,?_⟩
 obtain ⟨hs,hb⟩:=hk.hh hs hb
 refine lg 20 (sl_new (O:=(.cells #[(vi r1),(vi r2),(vi r3),(vi r4)] 3)) (fun p=>(Sl.mk (some p) 4 4).v) (pickA (S8 (S8 (S4 pickZ)))) (want0 rfl) (by kernel_rfl) (x_buildSlice (vs:=#[(0,(vi r1)),(1,(vi r2)),(2,(vi r3)),(3,(vi r4))]) (by kernel_rfl) (by kernel_rfl)) ?_)
 intro p3 w8 hn3
 have h:=h p3 w8 hn3
 refine ⟨.inr ⟨h.1,hb.kept (Ext.new (F:=None) hn3).keptP⟩,?_⟩
 have h:=h.2
 have hs:=hs.again (Ext.new (F:=None) hn3).keptP
 have hb:=hb.kept (Ext.new (F:=None) hn3).keptP
 refine lg 21 ?_
 refine slc (pickA (S8 (S8 (S4 (pickS pickZ))))) call83 (h.mono ?_)
 rintro e w9 ⟨r5,rfl,hC,hk,h⟩
 refine ⟨_,rfl,.inr ⟨hC,hb.kept hk⟩,?_⟩
 obtain ⟨hs,hb⟩:=hk.hh hs hb
 refine qx 22 (vi r5) (pickA (S8 (S8 (S4 (pickS (pickS pickZ)))))) (wn (th_n (er (rs1 results28 (v:=(vi r5)) ?_))))
 exact ⟨r5,rfl,h⟩
def m_Y_j1 (p1:Option Addr) (a1 b1:Int) (fakes1 x1:Bool) (w0:World) (H:NP) (w:World) (K:Int→Int→Int→ByteArray→Bool→Int→WP):Prop :=
 Br x1
  (∀(w2:World),Hst w0 H w H w2 →
  K 0 0 0 ⟨#[]⟩ false 51 w2)
  (Calls prog 42 #[(vp p1),(vi a1)] w (fun e w3=>∃aA aB aD:Int,∃aE:ByteArray,∃aC r1:Bool,e=.returned (.tuple #[(.agg #[(vi aA),(vi aB),(vu aD),(vs aE),(vb aC)]),(vb r1)])∧
   Kept H w w3 ∧
   ∀(H2:NP) (w5:World),Hst w0 H w3 H2 w5 →
   Calls prog 42 #[(vp p1),(vi b1)] w5 (fun e w6=>∃aJ aF aH:Int,∃aI:ByteArray,∃aG r2:Bool,e=.returned (.tuple #[(.agg #[(vi aJ),(vi aF),(vu aH),(vs aI),(vb aG)]),(vb r2)])∧
    Kept H2 w5 w6 ∧
    Br ((((!r1) || (!r2)) || (aA != 1)) || (aJ != 1))
     (∀(H6:NP) (w14:World),Hst w0 H2 w6 H6 w14 →
     K 0 0 0 ⟨#[]⟩ false 120 w14)
     (Br ((!fakes1) && (aC || aG))
      (∀(H10:NP) (w18:World),Hst w0 H2 w6 H10 w18 →
      K 0 0 0 ⟨#[]⟩ false 121 w18)
      (∀y1:Bool,y1=((((aB != 0) || (aF != 1)) || (aD != aH)) || (!(decide (aE=aI)))) →
      Br y1
       (∀(H14:NP) (w24:World),Hst w0 H2 w6 H14 w24 →
       K 0 0 0 ⟨#[]⟩ false 122 w24)
       (∀(H14:NP) (w25:World),Hst w0 H2 w6 H14 w25 →
       K aA aB aD aE aC 0 w25))))))
def m_Y (p1:Option Addr) (a1 b1:Int) (fakes1:Bool) (w0:World) (K:Int→Int→Int→ByteArray→Bool→Int→WP):Prop :=
 ∀(H1:NP) (w1:World),Hst w0 None w0 H1 w1 →
 Calls prog 87 #[(vp p1),(vi a1)] w1 (fun e w26=>∃r3:Bool,e=.returned (vb r3)∧
  Kept H1 w1 w26 ∧
  Br (!r3)
   (m_Y_j1 p1 a1 b1 fakes1 true w0 H1 w26 K)
   (Calls prog 87 #[(vp p1),(vi b1)] w26 (fun e w27=>∃r4:Bool,e=.returned (vb r4)∧
    Kept H1 w26 w27 ∧
    m_Y_j1 p1 a1 b1 fakes1 (!r4) w0 H1 w27 K)))
theorem w_Y (p1 : Option Addr) (a1 b1 : Int) (fakes1 : Bool) (w0 : World) (K : Int → Int → Int → ByteArray → Bool → Int → WP) (h : m_Y p1 a1 b1 fakes1 w0 K) :
  Calls prog 100 #[(vp p1),(vi a1),(vi b1),(vb fakes1)] w0 (fun e w'=>∃aR aU aZ:Int,∃aS:ByteArray,∃cA:Bool,∃r5:Int,e=.returned (.tuple #[(.agg #[(vi aR),(vi aU),(vu aZ),(vs aS),(vb cA)]),(vi r5)])∧K aR aU aZ aS cA r5 w'):=by
 unfold m_Y at h
 refine cw (args:=[(vp p1),(vi a1),(vi b1),(vb fakes1)]) func100 ntmps100 ?_
 have hs:=Hst.start w0
 have hb:=HB.nil None w0
 refine eg (sn (O:=(.cells #[(vi 0),(vi 0),(vu 0),ve,(vb false)] 35)) (x_alloc (zeroValue35 _) rfl) ?_)
 intro p2 w1 hn1
 obtain ⟨H1,hs,hb⟩:=hs.alloc hb hn1
 refine q0 (vi 0) (ln (wpE_seq (wpE_seq ?_)))
 refine wpE_joinT (fun ρ w=>∃x1:Bool,∃H:NP,Has ρ [(0,(vp p1)),(1,(vi a1)),(2,(vi b1)),(3,(vb fakes1)),(8,(vp (some p2))),(23,(vb x1))]∧Hst w0 H w H w∧HB H w [(p2,[(vi 0),(vi 0),(vu 0),ve,(vb false)],35)]∧m_Y_j1 p1 a1 b1 fakes1 x1 w0 H w K) ?_ ?_
 rintro ρ w ⟨x1,H,hH,hs,hb,h⟩
 unfold m_Y_j1 at h
 refine wpE_has hH ?_
 refine wpE_cond (t:=x1) (by kernel_rfl) (fun hc1=>?_) (fun hc1=>?_)
 have h:=h.1 hc1
 refine eg (q0 (.agg #[(vi 0),(vi 0),(vu 0),ve,(vb false)]) (st_set (want0 rfl) (xo p2 [(vi 0),(vi 0),(vu 0),ve,(vb false)] (sizeOf35 _) (hb.k0 0 5 gZ)) ?_))
 intro w2 hn2
 obtain ⟨hs,hb⟩:=hb.s0 (l':=[(p2,[(vi 0),(vi 0),(vu 0),ve,(vb false)],35)]) 0 [(vi 0),(vi 0),(vu 0),ve,(vb false)] hs hn2 gZ
 refine q0 (vi 51) (ln (er (th_r ?_)))
 have h:=h w2 hs
 have hs:=hs.here
 refine resG (.inl rfl) (vs:=[(.agg #[(vi 0),(vi 0),(vu 0),ve,(vb false)]),(vi 51)]) (v:=(.tuple #[(.agg #[(vi 0),(vi 0),(vu 0),ve,(vb false)]),(vi 51)])) results100 ⟨(rva (isAgg35 _) (sizeOf35 _) (hb.r0 0 5 gZ)),(rvT (by kernel_rfl)),trivial⟩ (by kernel_rfl) ?_
 exact ⟨0,0,0,⟨#[]⟩,false,51,rfl,h⟩
 have h:=h.2 hc1
 refine wpE_skip (th_n (eg (q0 (vp p1) (q0 (vi a1) ?_))))
 refine sc call42 (h.mono ?_)
 rintro e w3 ⟨aA,aB,aD,aE,aC,r1,rfl,hk,h⟩
 refine ⟨_,rfl,?_⟩
 obtain ⟨hs,hb⟩:=hk.hh hs hb
 refine q0 (.tuple #[(.agg #[(vi aA),(vi aB),(vu aD),(vs aE),(vb aC)]),(vb r1)]) (q0 (.agg #[(vi aA),(vi aB),(vu aD),(vs aE),(vb aC)]) (q0 (vb r1) (sn (O:=(.cells #[(vi 0),(vi 0),(vu 0),ve,(vb false)] 35)) (x_alloc (zeroValue35 _) rfl) ?_)))
 intro p3 w4 hn3
 obtain ⟨H2,hs,hb⟩:=hs.alloc hb hn3
 refine ss (xo p3 [(vi aA),(vi aB),(vu aD),(vs aE),(vb aC)] (sizeOf35 _) (hb.k0 0 5 gZ)) ?_
 intro w5 hn4
 obtain ⟨hs,hb⟩:=hb.s0 (l':=[(p3,[(vi aA),(vi aB),(vu aD),(vs aE),(vb aC)],35),(p2,[(vi 0),(vi 0),(vu 0),ve,(vb false)],35)]) 0 [(vi aA),(vi aB),(vu aD),(vs aE),(vb aC)] hs hn4 gZ
 refine q0 (vb r1) (ln (eg (q0 (vp p1) (q0 (vi b1) ?_))))
 have h:=h H2 w5 hs
 have hs:=hs.here
 refine sc call42 (h.mono ?_)
 rintro e w6 ⟨aJ,aF,aH,aI,aG,r2,rfl,hk,h⟩
 refine ⟨_,rfl,?_⟩
 obtain ⟨hs,hb⟩:=hk.hh hs hb
 refine q0 (.tuple #[(.agg #[(vi aJ),(vi aF),(vu aH),(vs aI),(vb aG)]),(vb r2)]) (q0 (.agg #[(vi aJ),(vi aF),(vu aH),(vs aI),(vb aG)]) (q0 (vb r2) (sn (O:=(.cells #[(vi 0),(vi 0),(vu 0),ve,(vb false)] 35)) (x_alloc (zeroValue35 _) rfl) ?_)))
 intro p4 w7 hn5
 obtain ⟨H3,hs,hb⟩:=hs.alloc hb hn5
 refine ss (xo p4 [(vi aJ),(vi aF),(vu aH),(vs aI),(vb aG)] (sizeOf35 _) (hb.k0 0 5 gZ)) ?_
 intro w8 hn6
 obtain ⟨hs,hb⟩:=hb.s0 (l':=[(p4,[(vi aJ),(vi aF),(vu aH),(vs aI),(vb aG)],35),(p3,[(vi aA),(vi aB),(vu aD),(vs aE),(vb aC)],35),(p2,[(vi 0),(vi 0),(vu 0),ve,(vb false)],35)]) 0 [(vi aJ),(vi aF),(vu aH),(vs aI),(vb aG)] hs hn6 gZ
 refine q0 (vb r2) (ln (wpE_seq (wpE_seq ?_)))
 refine wpE_via (fun ρ wJ=>∃b4'0:Bool,∃HJ:NP,((((!r1) || (!r2)) || (aA != 1))=b4'0)∧Hst w0 H2 w6 HJ wJ∧HB HJ wJ [(p4,[(vi aJ),(vi aF),(vu aH),(vs aI),(vb aG)],35),(p3,[(vi aA),(vi aB),(vu aD),(vs aE),(vb aC)],35),(p2,[(vi 0),(vi 0),(vu 0),ve,(vb false)],35)]∧Has ρ [(3,(vb fakes1)),(8,(vp (some p2))),(10,(vp (some p3))),(12,(vp (some p4))),(52,(vb (b4'0 || (aJ != 1))))]) ?_ ?_
 refine rg (q0 (vb r1) (q0 (vb (!r1)) (q0 (vb (!r1)) ?_)))
 refine wpL_join 3 (fun ρ wJ=>∃b5'0:Bool,∃HJ:NP,((!r1)=b5'0)∧Hst w0 H2 w6 HJ wJ∧HB HJ wJ [(p4,[(vi aJ),(vi aF),(vu aH),(vs aI),(vb aG)],35),(p3,[(vi aA),(vi aB),(vu aD),(vs aE),(vb aC)],35),(p2,[(vi 0),(vi 0),(vu 0),ve,(vb false)],35)]∧Has ρ [(3,(vb fakes1)),(8,(vp (some p2))),(10,(vp (some p3))),(12,(vp (some p4))),(42,(vb (b5'0 || (!r2))))]) ?_ ?_
 rintro ρ w12 ⟨b5'0,H7,he0,hs,hb,hH⟩
 subst he0
 refine wpL_has hH ?_
 refine q0 (vb ((!r1) || (!r2))) ?_
 refine wpL_join 4 (fun ρ wJ=>∃b6'0:Bool,∃HJ:NP,(((!r1) || (!r2))=b6'0)∧Hst w0 H2 w6 HJ wJ∧HB HJ wJ [(p4,[(vi aJ),(vi aF),(vu aH),(vs aI),(vb aG)],35),(p3,[(vi aA),(vi aB),(vu aD),(vs aE),(vb aC)],35),(p2,[(vi 0),(vi 0),(vu 0),ve,(vb false)],35)]∧Has ρ [(3,(vb fakes1)),(8,(vp (some p2))),(10,(vp (some p3))),(12,(vp (some p4))),(47,(vb (b6'0 || (aA != 1))))]) ?_ ?_
 rintro ρ w13 ⟨b6'0,H8,he0,hs,hb,hH⟩
 subst he0
 refine wpL_has hH ?_
 refine q0 (vb (((!r1) || (!r2)) || (aA != 1))) ?_
 rcases bte (((!r1) || (!r2)) || (aA != 1)) with hg10 | hg10
 refine sk (yD 48 hg10) (sk (yD 48 hg10) (sk (yD 48 hg10) (q2 (vb true) (xT hg10) (ln ?_))))
 exact ⟨true,_,hg10,hs,hb,hm⟩
 refine q1 (vp (some p4)) (wy 48 hg10) (stp (v:=(vi aJ)) (wy 48 hg10) (xl (isAgg3 _) (hb.c0 0 gZ)) (q1 (vb (aJ != 1)) (wy 48 hg10) (q2 (vb (aJ != 1)) (xF hg10) (ln ?_))))
 exact ⟨false,_,hg10,hs,hb,hm⟩
 rcases bte ((!r1) || (!r2)) with hg9 | hg9
 refine sk (yD 43 hg9) (sk (yD 43 hg9) (sk (yD 43 hg9) (q2 (vb true) (xT hg9) (wpL_nil ?_))))
 exact ⟨true,_,hg9,hs,hb,hm⟩
 refine q1 (vp (some p3)) (wy 43 hg9) (stp (v:=(vi aA)) (wy 43 hg9) (xl (isAgg3 _) (hb.c0 1 (gS gZ))) (q1 (vb (aA != 1)) (wy 43 hg9) (q2 (vb (aA != 1)) (xF hg9) (wpL_nil ?_))))
 exact ⟨false,_,hg9,hs,hb,hm⟩
 rcases bte (!r1) with hg7 | hg7
 refine sk (yD 39 hg7) (sk (yD 39 hg7) (q2 (vb true) (xT hg7) (wpL_nil ?_)))
 exact ⟨true,_,hg7,hs,hb,hm⟩
 refine q1 (vb r2) (wy 39 hg7) (q1 (vb (!r2)) (wy 39 hg7) (q2 (vb (!r2)) (xF hg7) (wpL_nil ?_)))
 exact ⟨false,_,hg7,hs,hb,hm⟩
 rintro ρ w11 ⟨b4'0,H6,he0,hs,hb,hH⟩
 subst he0
 refine norm_has hH ?_
 refine th_n ?_
 refine wpE_cond (t:=((((!r1) || (!r2)) || (aA != 1)) || (aJ != 1))) (by kernel_rfl) (fun hc2=>?_) (fun hc2=>?_)
 have h:=h.1 hc2
 refine eg (q0 (.agg #[(vi 0),(vi 0),(vu 0),ve,(vb false)]) (st_set (want0 rfl) (xo p2 [(vi 0),(vi 0),(vu 0),ve,(vb false)] (sizeOf35 _) (hb.k0 2 5 (gS (gS gZ)))) ?_))
 intro w14 hn7
 obtain ⟨hs,hb⟩:=hb.s0 (l':=[(p4,[(vi aJ),(vi aF),(vu aH),(vs aI),(vb aG)],35),(p3,[(vi aA),(vi aB),(vu aD),(vs aE),(vb aC)],35),(p2,[(vi 0),(vi 0),(vu 0),ve,(vb false)],35)]) 2 [(vi 0),(vi 0),(vu 0),ve,(vb false)] hs hn7 (gS (gS gZ))
 refine q0 (vi 120) (ln (er (th_r ?_)))
 have h:=h H6 w14 hs
 have hs:=hs.here
 refine resG (.inl rfl) (vs:=[(.agg #[(vi 0),(vi 0),(vu 0),ve,(vb false)]),(vi 120)]) (v:=(.tuple #[(.agg #[(vi 0),(vi 0),(vu 0),ve,(vb false)]),(vi 120)])) results100 ⟨(rva (isAgg35 _) (sizeOf35 _) (hb.r0 2 5 (gS (gS gZ)))),(rvT (by kernel_rfl)),trivial⟩ (by kernel_rfl) ?_
 exact ⟨0,0,0,⟨#[]⟩,false,120,rfl,h⟩
 have h:=h.2 hc2
 refine wpE_skip (th_n (wpE_seq (wpE_seq ?_)))
 refine wpE_via (fun ρ wJ=>∃b8'0:Bool,∃HJ:NP,((!fakes1)=b8'0)∧Hst w0 H2 w6 HJ wJ∧HB HJ wJ [(p4,[(vi aJ),(vi aF),(vu aH),(vs aI),(vb aG)],35),(p3,[(vi aA),(vi aB),(vu aD),(vs aE),(vb aC)],35),(p2,[(vi 0),(vi 0),(vu 0),ve,(vb false)],35)]∧Has ρ [(8,(vp (some p2))),(10,(vp (some p3))),(12,(vp (some p4))),(63,(vb (b8'0 && (aC || aG))))]) ?_ ?_
 refine rg (q0 (vb fakes1) (q0 (vb (!fakes1)) (q0 (vb (!fakes1)) ?_)))
 rcases bte (!fakes1) with hg14 | hg14
 refine q1 (vp (some (p3.add 4))) (wy 56 hg14) (stp (v:=(vb aC)) (wy 56 hg14) (xl (isAgg4 _) (hb.c 1 4 (gS gZ))) (q1 (vb aC) (wy 56 hg14) ?_))
 refine wpL_join 3 (fun ρ wJ=>∃b9'0:Bool,∃HJ:NP,(aC=b9'0)∧Hst w0 H2 w6 HJ wJ∧HB HJ wJ [(p4,[(vi aJ),(vi aF),(vu aH),(vs aI),(vb aG)],35),(p3,[(vi aA),(vi aB),(vu aD),(vs aE),(vb aC)],35),(p2,[(vi 0),(vi 0),(vu 0),ve,(vb false)],35)]∧Has ρ [(8,(vp (some p2))),(10,(vp (some p3))),(12,(vp (some p4))),(56,(vb (!fakes1))),(62,(vb (b9'0 || aG)))]) ?_ ?_
 rintro ρ w17 ⟨b9'0,H11,he0,hs,hb,hH⟩
 subst he0
 refine wpL_has hH ?_
 refine q2 (vb (aC || aG)) (xT hg14) (ln ?_)
 exact ⟨true,_,hg14,hs,hb,hm⟩
 rcases bte aC with hg16 | hg16
 refine sk (yD 59 hg16) (sk (yD 59 hg16) (stp (v:=(vb true)) (wy 56 hg14) (xT hg16) (wpL_nil ?_)))
 exact ⟨true,_,hg16,hs,hb,hm⟩
 refine q1 (vp (some (p4.add 4))) (wy 59 hg16) (stp (v:=(vb aG)) (wy 59 hg16) (xl (isAgg4 _) (hb.c 0 4 gZ)) (stp (v:=(vb aG)) (wy 56 hg14) (xF hg16) (wpL_nil ?_)))
 exact ⟨false,_,hg16,hs,hb,hm⟩
 refine sk (yD 56 hg14) (sk (yD 56 hg14) (sk (yD 56 hg14) (sm (sm (sk (yD 56 hg14) (q2 (vb false) (xF hg14) (ln ?_)))))))
 exact ⟨false,_,hg14,hs,hb,hm⟩
 rintro ρ w16 ⟨b8'0,H10,he0,hs,hb,hH⟩
 subst he0
 refine norm_has hH ?_
 refine th_n ?_
 refine wpE_cond (t:=((!fakes1) && (aC || aG))) (by kernel_rfl) (fun hc3=>?_) (fun hc3=>?_)
 have h:=h.1 hc3
 refine eg (q0 (.agg #[(vi 0),(vi 0),(vu 0),ve,(vb false)]) (st_set (want0 rfl) (xo p2 [(vi 0),(vi 0),(vu 0),ve,(vb false)] (sizeOf35 _) (hb.k0 2 5 (gS (gS gZ)))) ?_))
 intro w18 hn8
 obtain ⟨hs,hb⟩:=hb.s0 (l':=[(p4,[(vi aJ),(vi aF),(vu aH),(vs aI),(vb aG)],35),(p3,[(vi aA),(vi aB),(vu aD),(vs aE),(vb aC)],35),(p2,[(vi 0),(vi 0),(vu 0),ve,(vb false)],35)]) 2 [(vi 0),(vi 0),(vu 0),ve,(vb false)] hs hn8 (gS (gS gZ))
 refine q0 (vi 121) (ln (er (th_r ?_)))
 have h:=h H10 w18 hs
 have hs:=hs.here
 refine resG (.inl rfl) (vs:=[(.agg #[(vi 0),(vi 0),(vu 0),ve,(vb false)]),(vi 121)]) (v:=(.tuple #[(.agg #[(vi 0),(vi 0),(vu 0),ve,(vb false)]),(vi 121)])) results100 ⟨(rva (isAgg35 _) (sizeOf35 _) (hb.r0 2 5 (gS (gS gZ)))),(rvT (by kernel_rfl)),trivial⟩ (by kernel_rfl) ?_
 exact ⟨0,0,0,⟨#[]⟩,false,121,rfl,h⟩
 have h:=h.2 hc3
 refine wpE_skip (th_n (wpE_seq (wpE_seq ?_)))
 refine wpE_via (fun ρ wJ=>∃b12'0 y1:Bool,∃HJ:NP,((((aB != 0) || (aF != 1)) || (aD != aH))=b12'0)∧(y1=(b12'0 || (!(decide (aE=aI)))))∧Hst w0 H2 w6 HJ wJ∧HB HJ wJ [(p4,[(vi aJ),(vi aF),(vu aH),(vs aI),(vb aG)],35),(p3,[(vi aA),(vi aB),(vu aD),(vs aE),(vb aC)],35),(p2,[(vi 0),(vi 0),(vu 0),ve,(vb false)],35)]∧Has ρ [(8,(vp (some p2))),(10,(vp (some p3))),(86,(vb y1))]) ?_ ?_
 refine rg (q0 (vp (some (p3.add 1))) (q2 (vi aB) (xl (isAgg3 _) (hb.c 1 1 (gS gZ))) (q0 (vb (aB != 0)) (q0 (vb (aB != 0)) ?_))))
 refine wpL_join 4 (fun ρ wJ=>∃b13'0:Bool,∃HJ:NP,((aB != 0)=b13'0)∧Hst w0 H2 w6 HJ wJ∧HB HJ wJ [(p4,[(vi aJ),(vi aF),(vu aH),(vs aI),(vb aG)],35),(p3,[(vi aA),(vi aB),(vu aD),(vs aE),(vb aC)],35),(p2,[(vi 0),(vi 0),(vu 0),ve,(vb false)],35)]∧Has ρ [(8,(vp (some p2))),(10,(vp (some p3))),(12,(vp (some p4))),(72,(vb (b13'0 || (aF != 1))))]) ?_ ?_
 rintro ρ w22 ⟨b13'0,H15,he0,hs,hb,hH⟩
 subst he0
 refine wpL_has hH ?_
 refine q0 (vb ((aB != 0) || (aF != 1))) ?_
 refine wpL_join 6 (fun ρ wJ=>∃b14'0:Bool,∃HJ:NP,(((aB != 0) || (aF != 1))=b14'0)∧Hst w0 H2 w6 HJ wJ∧HB HJ wJ [(p4,[(vi aJ),(vi aF),(vu aH),(vs aI),(vb aG)],35),(p3,[(vi aA),(vi aB),(vu aD),(vs aE),(vb aC)],35),(p2,[(vi 0),(vi 0),(vu 0),ve,(vb false)],35)]∧Has ρ [(8,(vp (some p2))),(10,(vp (some p3))),(12,(vp (some p4))),(79,(vb (b14'0 || (aD != aH))))]) ?_ ?_
 rintro ρ w23 ⟨b14'0,H16,he0,hs,hb,hH⟩
 subst he0
 refine wpL_has hH ?_
 refine q0 (vb (((aB != 0) || (aF != 1)) || (aD != aH))) ?_
 rcases bte (((aB != 0) || (aF != 1)) || (aD != aH)) with hg26 | hg26
 refine sk (yD 80 hg26) (sk (yD 80 hg26) (sk (yD 80 hg26) (sk (yD 80 hg26) (sk (yD 80 hg26) (q2 (vb true) (xT hg26) (ln ?_))))))
 exact ⟨true,_,_,hg26,rfl,hs,hb,hm⟩
 refine q1 (vp (some (p3.add 3))) (wy 80 hg26) (stp (v:=(vs aE)) (wy 80 hg26) (xl (isAgg9 _) (hb.c 1 3 (gS gZ))) (q1 (vp (some (p4.add 3))) (wy 80 hg26) (stp (v:=(vs aI)) (wy 80 hg26) (xl (isAgg9 _) (hb.c 0 3 gZ)) (stp (v:=(vb (!(decide (aE=aI))))) (wy 80 hg26) (x_strneq (by kernel_rfl) (by kernel_rfl)) (q2 (vb (!(decide (aE=aI)))) (xF hg26) (ln ?_))))))
 exact ⟨false,_,_,hg26,rfl,hs,hb,hm⟩
 rcases bte ((aB != 0) || (aF != 1)) with hg25 | hg25
 refine sk (yD 73 hg25) (sk (yD 73 hg25) (sk (yD 73 hg25) (sk (yD 73 hg25) (sk (yD 73 hg25) (q2 (vb true) (xT hg25) (wpL_nil ?_))))))
 exact ⟨true,_,hg25,hs,hb,hm⟩
 refine q1 (vp (some (p3.add 2))) (wy 73 hg25) (stp (v:=(vu aD)) (wy 73 hg25) (xl (isAgg23 _) (hb.c 1 2 (gS gZ))) (q1 (vp (some (p4.add 2))) (wy 73 hg25) (stp (v:=(vu aH)) (wy 73 hg25) (xl (isAgg23 _) (hb.c 0 2 gZ)) (q1 (vb (aD != aH)) (wy 73 hg25) (q2 (vb (aD != aH)) (xF hg25) (wpL_nil ?_))))))
 exact ⟨false,_,hg25,hs,hb,hm⟩
 rcases bte (aB != 0) with hg23 | hg23
 refine sk (yD 68 hg23) (sk (yD 68 hg23) (sk (yD 68 hg23) (q2 (vb true) (xT hg23) (wpL_nil ?_))))
 exact ⟨true,_,hg23,hs,hb,hm⟩
 refine q1 (vp (some (p4.add 1))) (wy 68 hg23) (stp (v:=(vi aF)) (wy 68 hg23) (xl (isAgg3 _) (hb.c 0 1 gZ)) (q1 (vb (aF != 1)) (wy 68 hg23) (q2 (vb (aF != 1)) (xF hg23) (wpL_nil ?_))))
 exact ⟨false,_,hg23,hs,hb,hm⟩
 rintro ρ w21 ⟨b12'0,y1,H14,he0,hy1,hs,hb,hH⟩
 subst he0
 have h:=h y1 hy1
 refine norm_has hH ?_
 refine th_n ?_
 refine wpE_cond (t:=y1) (by kernel_rfl) (fun hc4=>?_) (fun hc4=>?_)
 have h:=h.1 hc4
 refine eg (q0 (.agg #[(vi 0),(vi 0),(vu 0),ve,(vb false)]) (st_set (want0 rfl) (xo p2 [(vi 0),(vi 0),(vu 0),ve,(vb false)] (sizeOf35 _) (hb.k0 2 5 (gS (gS gZ)))) ?_))
 intro w24 hn9
 obtain ⟨hs,hb⟩:=hb.s0 (l':=[(p4,[(vi aJ),(vi aF),(vu aH),(vs aI),(vb aG)],35),(p3,[(vi aA),(vi aB),(vu aD),(vs aE),(vb aC)],35),(p2,[(vi 0),(vi 0),(vu 0),ve,(vb false)],35)]) 2 [(vi 0),(vi 0),(vu 0),ve,(vb false)] hs hn9 (gS (gS gZ))
 refine q0 (vi 122) (ln (er (th_r ?_)))
 have h:=h H14 w24 hs
 have hs:=hs.here
 refine resG (.inl rfl) (vs:=[(.agg #[(vi 0),(vi 0),(vu 0),ve,(vb false)]),(vi 122)]) (v:=(.tuple #[(.agg #[(vi 0),(vi 0),(vu 0),ve,(vb false)]),(vi 122)])) results100 ⟨(rva (isAgg35 _) (sizeOf35 _) (hb.r0 2 5 (gS (gS gZ)))),(rvT (by kernel_rfl)),trivial⟩ (by kernel_rfl) ?_
 exact ⟨0,0,0,⟨#[]⟩,false,122,rfl,h⟩
 have h:=h.2 hc4
 refine wpE_skip (th_n (eg (q2 (.agg #[(vi aA),(vi aB),(vu aD),(vs aE),(vb aC)]) (xa p3 [(vi aA),(vi aB),(vu aD),(vs aE),(vb aC)] (isAgg35 _) (sizeOf35 _) (hb.r0 1 5 (gS gZ))) (st_set (want0 rfl) (xo p2 [(vi aA),(vi aB),(vu aD),(vs aE),(vb aC)] (sizeOf35 _) (hb.k0 2 5 (gS (gS gZ)))) ?_))))
 intro w25 hn10
 obtain ⟨hs,hb⟩:=hb.s0 (l':=[(p4,[(vi aJ),(vi aF),(vu aH),(vs aI),(vb aG)],35),(p3,[(vi aA),(vi aB),(vu aD),(vs aE),(vb aC)],35),(p2,[(vi aA),(vi aB),(vu aD),(vs aE),(vb aC)],35)]) 2 [(vi aA),(vi aB),(vu aD),(vs aE),(vb aC)] hs hn10 (gS (gS gZ))
 refine q0 (vi 0) (ln (er ?_))
 have h:=h H14 w25 hs
 have hs:=hs.here
 refine resG (.inl rfl) (vs:=[(.agg #[(vi aA),(vi aB),(vu aD),(vs aE),(vb aC)]),(vi 0)]) (v:=(.tuple #[(.agg #[(vi aA),(vi aB),(vu aD),(vs aE),(vb aC)]),(vi 0)])) results100 ⟨(rva (isAgg35 _) (sizeOf35 _) (hb.r0 2 5 (gS (gS gZ)))),(rvT (by kernel_rfl)),trivial⟩ (by kernel_rfl) ?_
 exact ⟨aA,aB,aD,aE,aC,0,rfl,h⟩
 refine rg (q0 (vp p1) (q0 (vi a1) ?_))
 have h:=h H1 w1 hs
 have hs:=hs.here
 refine sc call87 (h.mono ?_)
 rintro e w26 ⟨r3,rfl,hk,h⟩
 refine ⟨_,rfl,?_⟩
 obtain ⟨hs,hb⟩:=hk.hh hs hb
 refine q0 (vb (!r3)) (q0 (vb (!r3)) ?_)
 rcases bte (!r3) with hg27 | hg27
 have h:=h.1 hg27
 refine sk (yD 18 hg27) (sk (yD 18 hg27) (sk (yD 18 hg27) (sk (yD 18 hg27) (q2 (vb true) (xT hg27) (ln ?_)))))
 exact ⟨true,H1,hm,hs,hb,h⟩
 have h:=h.2 hg27
 refine q1 (vp p1) (wy 18 hg27) (q1 (vi b1) (wy 18 hg27) ?_)
 refine st_call (wy 18 hg27) (xc call87) (h.mono ?_)
 rintro e w27 ⟨r4,rfl,hk,h⟩
 refine ⟨_,rfl,?_⟩
 obtain ⟨hs,hb⟩:=hk.hh hs hb
 refine q1 (vb (!r4)) (wy 18 hg27) (q2 (vb (!r4)) (xF hg27) (ln ?_))
 exact ⟨(!r4),H1,hm,hs,hb,h⟩
def m_J3 (p1:Option Addr) (a1 b1:Int) (w0:World) (K:Int→Int→WP):Prop :=
 Calls prog 100 #[(vp p1),(vi a1),(vi b1),(vb false)] w0 (fun e w1=>∃aA aB aD:Int,∃aE:ByteArray,∃aC:Bool,∃r1:Int,e=.returned (.tuple #[(.agg #[(vi aA),(vi aB),(vu aD),(vs aE),(vb aC)]),(vi r1)])∧
  Kept None w0 w1 ∧
  Br (r1 != 0)
   (∀(H1:NP) (w3:World),Hst w0 None w1 H1 w3 →
   K 0 r1 w3)
   (∀(H1:NP) (w3:World),Hst w0 None w1 H1 w3 →
   Calls prog 101 #[(vp p1),(.agg #[(vi 6),(vi 0),(vu aD),(vs aE),(vb false)])] w3 (fun e w4=>∃r2 r3:Int,e=.returned (.tuple #[(vi r2),(vi r3)])∧
    Kept H1 w3 w4 ∧
    K r2 r3 w4)))
theorem w_J3 (p1 : Option Addr) (a1 b1 : Int) (w0 : World) (K : Int → Int → WP) (h : m_J3 p1 a1 b1 w0 K) :
  Calls prog 46 #[(vp p1),(vi a1),(vi b1)] w0 (fun e w'=>∃r4 r5:Int,e=.returned (.tuple #[(vi r4),(vi r5)])∧K r4 r5 w'):=by
 unfold m_J3 at h
 refine cw (args:=[(vp p1),(vi a1),(vi b1)]) func46 ntmps46 ?_
 have hs:=Hst.start w0
 have hb:=HB.nil None w0
 refine eg (q0 (vi 0) (q0 (vi 0) (ln (eg (q0 (vp p1) (q0 (vi a1) (q0 (vi b1) ?_)))))))
 refine sc call100 (h.mono ?_)
 rintro e w1 ⟨aA,aB,aD,aE,aC,r1,rfl,hk,h⟩
 refine ⟨_,rfl,?_⟩
 obtain ⟨hs,hb⟩:=hk.hh hs hb
 refine q0 (.tuple #[(.agg #[(vi aA),(vi aB),(vu aD),(vs aE),(vb aC)]),(vi r1)]) (q0 (.agg #[(vi aA),(vi aB),(vu aD),(vs aE),(vb aC)]) (q0 (vi r1) (sn (O:=(.cells #[(vi 0),(vi 0),(vu 0),ve,(vb false)] 35)) (x_alloc (zeroValue35 _) rfl) ?_)))
 intro p2 w2 hn1
 obtain ⟨H1,hs,hb⟩:=hs.alloc hb hn1
 refine ss (xo p2 [(vi aA),(vi aB),(vu aD),(vs aE),(vb aC)] (sizeOf35 _) (hb.k0 0 5 gZ)) ?_
 intro w3 hn2
 obtain ⟨hs,hb⟩:=hb.s0 (l':=[(p2,[(vi aA),(vi aB),(vu aD),(vs aE),(vb aC)],35)]) 0 [(vi aA),(vi aB),(vu aD),(vs aE),(vb aC)] hs hn2 gZ
 refine q0 (vi r1) (ln (wpE_seq (eg (q0 (vi r1) (q0 (vb (r1 != 0)) (ln ?_))))))
 refine wpE_cond (t:=(r1 != 0)) (by kernel_rfl) (fun hc1=>?_) (fun hc1=>?_)
 have h:=h.1 hc1
 refine eg (q0 (vi r1) (q0 (vi 0) (q0 (vi r1) (ln (er (th_r ?_))))))
 have h:=h H1 w3 hs
 have hs:=hs.here
 refine res2 (.inl rfl) results46 (v:=(vi 0)) (by kernel_rfl) (v':=(vi r1)) (by kernel_rfl) ?_
 exact ⟨0,r1,rfl,h⟩
 have h:=h.2 hc1
 refine wpE_skip (th_n (eg (q0 (vp p1) (q0 (vp (some (p2.add 2))) (q2 (vu aD) (xl (isAgg23 _) (hb.c 0 2 gZ)) (q0 (vp (some (p2.add 3))) (q2 (vs aE) (xl (isAgg9 _) (hb.c 0 3 gZ)) (q0 (.agg #[(vi 6),(vi 0),(vu aD),(vs aE),(vb false)]) ?_))))))))
 have h:=h H1 w3 hs
 have hs:=hs.here
 refine sc call101 (h.mono ?_)
 rintro e w4 ⟨r2,r3,rfl,hk,h⟩
 refine ⟨_,rfl,?_⟩
 obtain ⟨hs,hb⟩:=hk.hh hs hb
 refine q0 (vi r2) (q0 (vi r3) (q0 (vi r2) (q0 (vi r3) (ln (er (res2 (.inl rfl) results46 (v:=(vi r2)) (by kernel_rfl) (v':=(vi r3)) (by kernel_rfl) ?_))))))
 exact ⟨r2,r3,rfl,h⟩
def m_K3 (p1:Option Addr) (who1 a1 b1:Int) (w0:World) (K:Int→Int→WP):Prop :=
 Br ((who1 != 0) && (who1 != 1))
  (∀(H1:NP) (w1:World),Hst w0 None w0 H1 w1 →
  K 0 2 w1)
  (∀(H1:NP) (w1:World),Hst w0 None w0 H1 w1 →
  Calls prog 100 #[(vp p1),(vi a1),(vi b1),(vb true)] w1 (fun e w2=>∃aA aB aD:Int,∃aE:ByteArray,∃aC:Bool,∃r1:Int,e=.returned (.tuple #[(.agg #[(vi aA),(vi aB),(vu aD),(vs aE),(vb aC)]),(vi r1)])∧
   Kept H1 w1 w2 ∧
   Br (r1 != 0)
    (∀(H2:NP) (w4:World),Hst w0 H1 w2 H2 w4 →
    K 0 r1 w4)
    (∀(H3:NP) (w6:World),Hst w0 H1 w2 H3 w6 →
    Calls prog 49 #[(vp p1),(vi a1)] w6 (fun e w7=>∃aJ aF:Int,∃bO bP:Int,∃aI:ByteArray,∃bQ:Sl,e=.returned (.agg #[(vi aJ),(vi aF),(vi bO),(vu bP),(vs aI),bQ.v])∧
     Kept H3 w6 w7 ∧
     Calls prog 49 #[(vp p1),(vi b1)] w7 (fun e w8=>∃aR aU:Int,∃bR bS:Int,∃aS:ByteArray,∃bT:Sl,e=.returned (.agg #[(vi aR),(vi aU),(vi bR),(vu bS),(vs aS),bT.v])∧
      Kept H3 w7 w8 ∧
      ∀(p4:Addr) (w9:World),New w8 (.cells #[(vi aJ),(vi aF),(vi bO),(vu bP),(vs aI),bQ.v,(vi aR),(vi aU),(vi bR),(vu bS),(vs aS),bT.v] 107) p4 w9 →
      ∀(H4:NP) (w11:World),Hst w0 H3 w9 H4 w11 →
      ∀(p6:Addr) (w12:World),New w11 (.cells #[(vi 3),(vi 0),(vi 0),(vu 0),(vs (⟨#[114,101,115,111,108,118,101]⟩:ByteArray)),Sl.nil.v,(vi 4),(vi 0),(vi 0),(vu 0),ve,(Sl.mk (some p4) 2 2).v] 107) p6 w12 →
      ∀(H5:NP) (w14:World),Hst w0 H4 w12 H5 w14 →
      ∀(p8:Addr) (w15:World),New w14 (.cells #[(vi 4),(vi 0),(vi 0),(vu 0),ve,(Sl.mk (some p6) 2 2).v] 107) p8 w15 →
      Calls prog 78 #[(vp p1),(.agg #[(vi 7),(vi who1),(vi 0),(vu 0),ve,(Sl.mk (some p8) 1 1).v])] w15 (fun e w16=>∃r2 r3:Int,e=.returned (.tuple #[(vi r2),(vi r3)])∧
       Kept H5 w15 w16 ∧
       K r2 r3 w16))))))
theorem w_K3 (p1 : Option Addr) (who1 a1 b1 : Int) (w0 : World) (K : Int → Int → WP) (h : m_K3 p1 who1 a1 b1 w0 K) :
  Calls prog 50 #[(vp p1),(vi who1),(vi a1),(vi b1)] w0 (fun e w'=>∃r4 r5:Int,e=.returned (.tuple #[(vi r4),(vi r5)])∧K r4 r5 w'):=by
 unfold m_K3 at h
 refine cw (args:=[(vp p1),(vi who1),(vi a1),(vi b1)]) func50 ntmps50 ?_
 have hs:=Hst.start w0
 have hb:=HB.nil None w0
 refine eg (q0 (vi 0) (q0 (vi 0) (ln (wpE_seq (wpE_seq ?_)))))
 refine wpE_via (fun ρ wJ=>∃b2'0:Bool,∃HJ:NP,((who1 != 0)=b2'0)∧Hst w0 None w0 HJ wJ∧HB HJ wJ []∧Has ρ [(0,(vp p1)),(1,(vi who1)),(2,(vi a1)),(3,(vi b1)),(20,(vb (b2'0 && (who1 != 1))))]) ?_ ?_
 refine rg (q0 (vi who1) (q0 (vb (who1 != 0)) (q0 (vb (who1 != 0)) ?_)))
 rcases bte (who1 != 0) with hg2 | hg2
 refine q1 (vi who1) (wy 17 hg2) (q1 (vb (who1 != 1)) (wy 17 hg2) (q2 (vb (who1 != 1)) (xT hg2) (ln ?_)))
 exact ⟨true,_,hg2,hs,hb,hm⟩
 refine sk (yD 17 hg2) (sk (yD 17 hg2) (q2 (vb false) (xF hg2) (ln ?_)))
 exact ⟨false,_,hg2,hs,hb,hm⟩
 rintro ρ w1 ⟨b2'0,H1,he0,hs,hb,hH⟩
 subst he0
 refine norm_has hH ?_
 refine th_n ?_
 refine wpE_cond (t:=((who1 != 0) && (who1 != 1))) (by kernel_rfl) (fun hc1=>?_) (fun hc1=>?_)
 have h:=h.1 hc1
 refine eg (q0 (vi 0) (q0 (vi 2) (ln (er (th_r ?_)))))
 have h:=h H1 w1 hs
 have hs:=hs.here
 refine res2 (.inl rfl) results50 (v:=(vi 0)) (by kernel_rfl) (v':=(vi 2)) (by kernel_rfl) ?_
 exact ⟨0,2,rfl,h⟩
 have h:=h.2 hc1
 refine wpE_skip (th_n (eg (q0 (vp p1) (q0 (vi a1) (q0 (vi b1) ?_)))))
 have h:=h H1 w1 hs
 have hs:=hs.here
 refine sc call100 (h.mono ?_)
 rintro e w2 ⟨aA,aB,aD,aE,aC,r1,rfl,hk,h⟩
 refine ⟨_,rfl,?_⟩
 obtain ⟨hs,hb⟩:=hk.hh hs hb
 refine q0 (.tuple #[(.agg #[(vi aA),(vi aB),(vu aD),(vs aE),(vb aC)]),(vi r1)]) (q0 (.agg #[(vi aA),(vi aB),(vu aD),(vs aE),(vb aC)]) (q0 (vi r1) (sn (O:=(.cells #[(vi 0),(vi 0),(vu 0),ve,(vb false)] 35)) (x_alloc (zeroValue35 _) rfl) ?_)))
 intro p2 w3 hn1
 obtain ⟨H2,hs,hb⟩:=hs.alloc hb hn1
 refine ss (xo p2 [(vi aA),(vi aB),(vu aD),(vs aE),(vb aC)] (sizeOf35 _) (hb.k0 0 5 gZ)) ?_
 intro w4 hn2
 obtain ⟨hs,hb⟩:=hb.s0 (l':=[(p2,[(vi aA),(vi aB),(vu aD),(vs aE),(vb aC)],35)]) 0 [(vi aA),(vi aB),(vu aD),(vs aE),(vb aC)] hs hn2 gZ
 refine q0 (vi r1) (ln (wpE_seq (eg (q0 (vi r1) (q0 (vb (r1 != 0)) (ln ?_))))))
 refine wpE_cond (t:=(r1 != 0)) (by kernel_rfl) (fun hc2=>?_) (fun hc2=>?_)
 have h:=h.1 hc2
 refine eg (q0 (vi r1) (q0 (vi 0) (q0 (vi r1) (ln (er (th_r ?_))))))
 have h:=h H2 w4 hs
 have hs:=hs.here
 refine res2 (.inl rfl) results50 (v:=(vi 0)) (by kernel_rfl) (v':=(vi r1)) (by kernel_rfl) ?_
 exact ⟨0,r1,rfl,h⟩
 have h:=h.2 hc2
 refine wpE_skip (th_n (eg (q0 (.agg #[(vi 3),(vi 0),(vi 0),(vu 0),(vs (⟨#[114,101,115,111,108,118,101]⟩:ByteArray)),Sl.nil.v]) (sn (O:=(.cells #[(vi 0),(vi 0),(vi 0),(vu 0),ve,Sl.nil.v] 107)) (x_alloc (zeroValue107 _) rfl) ?_))))
 intro p3 w5 hn3
 obtain ⟨H3,hs,hb⟩:=hs.alloc hb hn3
 refine ss (xo p3 [(vi 3),(vi 0),(vi 0),(vu 0),(vs (⟨#[114,101,115,111,108,118,101]⟩:ByteArray)),Sl.nil.v] (sizeOf107 _) (hb.k0 0 6 gZ)) ?_
 intro w6 hn4
 obtain ⟨hs,hb⟩:=hb.s0 (l':=[(p3,[(vi 3),(vi 0),(vi 0),(vu 0),(vs (⟨#[114,101,115,111,108,118,101]⟩:ByteArray)),Sl.nil.v],107),(p2,[(vi aA),(vi aB),(vu aD),(vs aE),(vb aC)],35)]) 0 [(vi 3),(vi 0),(vi 0),(vu 0),(vs (⟨#[114,101,115,111,108,118,101]⟩:ByteArray)),Sl.nil.v] hs hn4 gZ
 refine ln (eg (q0 (vp p1) (q0 (vi a1) ?_)))
 have h:=h H3 w6 hs
 have hs:=hs.here
 refine sc call49 (h.mono ?_)
 rintro e w7 ⟨aJ,aF,bO,bP,aI,bQ,rfl,hk,h⟩
 refine ⟨_,rfl,?_⟩
 obtain ⟨hs,hb⟩:=hk.hh hs hb
 refine q0 (vp p1) (q0 (vi b1) ?_)
 refine sc call49 (h.mono ?_)
 rintro e w8 ⟨aR,aU,bR,bS,aS,bT,rfl,hk,h⟩
 refine ⟨_,rfl,?_⟩
 obtain ⟨hs,hb⟩:=hk.hh hs hb
 refine st_new (O:=(.cells #[(vi aJ),(vi aF),(vi bO),(vu bP),(vs aI),bQ.v,(vi aR),(vi aU),(vi bR),(vu bS),(vs aS),bT.v] 107)) (fun p=>(Sl.mk (some p) 2 2).v) (want0 rfl) (x_buildSlice (vs:=#[(0,(.agg #[(vi aJ),(vi aF),(vi bO),(vu bP),(vs aI),bQ.v])),(1,(.agg #[(vi aR),(vi aU),(vi bR),(vu bS),(vs aS),bT.v]))]) (by kernel_rfl) (by kernel_rfl)) ?_
 intro p4 w9 hn11
 have h:=h p4 w9 hn11
 have hs:=hs.again (Ext.new (F:=None) hn11).keptP
 have hb:=hb.kept (Ext.new (F:=None) hn11).keptP
 refine q0 (.agg #[(vi 4),(vi 0),(vi 0),(vu 0),ve,(Sl.mk (some p4) 2 2).v]) (sn (O:=(.cells #[(vi 0),(vi 0),(vi 0),(vu 0),ve,Sl.nil.v] 107)) (x_alloc (zeroValue107 _) rfl) ?_)
 intro p5 w10 hn5
 obtain ⟨H4,hs,hb⟩:=hs.alloc hb hn5
 refine ss (xo p5 [(vi 4),(vi 0),(vi 0),(vu 0),ve,(Sl.mk (some p4) 2 2).v] (sizeOf107 _) (hb.k0 0 6 gZ)) ?_
 intro w11 hn6
 obtain ⟨hs,hb⟩:=hb.s0 (l':=[(p5,[(vi 4),(vi 0),(vi 0),(vu 0),ve,(Sl.mk (some p4) 2 2).v],107),(p3,[(vi 3),(vi 0),(vi 0),(vu 0),(vs (⟨#[114,101,115,111,108,118,101]⟩:ByteArray)),Sl.nil.v],107),(p2,[(vi aA),(vi aB),(vu aD),(vs aE),(vb aC)],35)]) 0 [(vi 4),(vi 0),(vi 0),(vu 0),ve,(Sl.mk (some p4) 2 2).v] hs hn6 gZ
 refine ln (eg (q2 (.agg #[(vi 3),(vi 0),(vi 0),(vu 0),(vs (⟨#[114,101,115,111,108,118,101]⟩:ByteArray)),Sl.nil.v]) (xa p3 [(vi 3),(vi 0),(vi 0),(vu 0),(vs (⟨#[114,101,115,111,108,118,101]⟩:ByteArray)),Sl.nil.v] (isAgg107 _) (sizeOf107 _) (hb.r0 1 6 (gS gZ))) (q2 (.agg #[(vi 4),(vi 0),(vi 0),(vu 0),ve,(Sl.mk (some p4) 2 2).v]) (xa p5 [(vi 4),(vi 0),(vi 0),(vu 0),ve,(Sl.mk (some p4) 2 2).v] (isAgg107 _) (sizeOf107 _) (hb.r0 0 6 gZ)) ?_)))
 have h:=h H4 w11 hs
 have hs:=hs.here
 refine st_new (O:=(.cells #[(vi 3),(vi 0),(vi 0),(vu 0),(vs (⟨#[114,101,115,111,108,118,101]⟩:ByteArray)),Sl.nil.v,(vi 4),(vi 0),(vi 0),(vu 0),ve,(Sl.mk (some p4) 2 2).v] 107)) (fun p=>(Sl.mk (some p) 2 2).v) (want0 rfl) (x_buildSlice (vs:=#[(0,(.agg #[(vi 3),(vi 0),(vi 0),(vu 0),(vs (⟨#[114,101,115,111,108,118,101]⟩:ByteArray)),Sl.nil.v])),(1,(.agg #[(vi 4),(vi 0),(vi 0),(vu 0),ve,(Sl.mk (some p4) 2 2).v]))]) (by kernel_rfl) (by kernel_rfl)) ?_
 intro p6 w12 hn10
 have h:=h p6 w12 hn10
 have hs:=hs.again (Ext.new (F:=None) hn10).keptP
 have hb:=hb.kept (Ext.new (F:=None) hn10).keptP
 refine q0 (.agg #[(vi 4),(vi 0),(vi 0),(vu 0),ve,(Sl.mk (some p6) 2 2).v]) (sn (O:=(.cells #[(vi 0),(vi 0),(vi 0),(vu 0),ve,Sl.nil.v] 107)) (x_alloc (zeroValue107 _) rfl) ?_)
 intro p7 w13 hn7
 obtain ⟨H5,hs,hb⟩:=hs.alloc hb hn7
 refine ss (xo p7 [(vi 4),(vi 0),(vi 0),(vu 0),ve,(Sl.mk (some p6) 2 2).v] (sizeOf107 _) (hb.k0 0 6 gZ)) ?_
 intro w14 hn8
 obtain ⟨hs,hb⟩:=hb.s0 (l':=[(p7,[(vi 4),(vi 0),(vi 0),(vu 0),ve,(Sl.mk (some p6) 2 2).v],107),(p5,[(vi 4),(vi 0),(vi 0),(vu 0),ve,(Sl.mk (some p4) 2 2).v],107),(p3,[(vi 3),(vi 0),(vi 0),(vu 0),(vs (⟨#[114,101,115,111,108,118,101]⟩:ByteArray)),Sl.nil.v],107),(p2,[(vi aA),(vi aB),(vu aD),(vs aE),(vb aC)],35)]) 0 [(vi 4),(vi 0),(vi 0),(vu 0),ve,(Sl.mk (some p6) 2 2).v] hs hn8 gZ
 refine ln (eg (q0 (vp p1) (q0 (vi who1) (q2 (.agg #[(vi 4),(vi 0),(vi 0),(vu 0),ve,(Sl.mk (some p6) 2 2).v]) (xa p7 [(vi 4),(vi 0),(vi 0),(vu 0),ve,(Sl.mk (some p6) 2 2).v] (isAgg107 _) (sizeOf107 _) (hb.r0 0 6 gZ)) ?_))))
 have h:=h H5 w14 hs
 have hs:=hs.here
 refine st_new (O:=(.cells #[(vi 4),(vi 0),(vi 0),(vu 0),ve,(Sl.mk (some p6) 2 2).v] 107)) (fun p=>(Sl.mk (some p) 1 1).v) (want0 rfl) (x_buildSlice (vs:=#[(0,(.agg #[(vi 4),(vi 0),(vi 0),(vu 0),ve,(Sl.mk (some p6) 2 2).v]))]) (by kernel_rfl) (by kernel_rfl)) ?_
 intro p8 w15 hn9
 have h:=h p8 w15 hn9
 have hs:=hs.again (Ext.new (F:=None) hn9).keptP
 have hb:=hb.kept (Ext.new (F:=None) hn9).keptP
 refine q0 (.agg #[(vi 7),(vi who1),(vi 0),(vu 0),ve,(Sl.mk (some p8) 1 1).v]) ?_
 refine sc call78 (h.mono ?_)
 rintro e w16 ⟨r2,r3,rfl,hk,h⟩
 refine ⟨_,rfl,?_⟩
 obtain ⟨hs,hb⟩:=hk.hh hs hb
 refine q0 (vi r2) (q0 (vi r3) (q0 (vi r2) (q0 (vi r3) (ln (er (res2 (.inl rfl) results50 (v:=(vi r2)) (by kernel_rfl) (v':=(vi r3)) (by kernel_rfl) ?_))))))
 exact ⟨r2,r3,rfl,h⟩
theorem eqt_law12_EvidenceMakes_eql_4 (a0 b0:Bool) (w:World):(Go.binOp .eql 4 (.bool a0) (.bool b0)).run prog w=.ok (.bool (a0 == b0)) w:=by
 simp [Go.binOp,Op.equal,Op.maxDepth,go_sem,streq,bne]
def m_M_j3 (x3:Bool) (H:NP) (w:World) (K:Bool→WP):Prop :=
 Br x3
  (Calls prog 24 #[] w (fun e w24=>∃r17:Bool,e=.returned (vb r17)∧
   Kept H w w24 ∧
   K r17 w24))
  (K false w)
def m_M_j2 (aL:Int) (r3:Option Addr) (r4:Option Addr) (r6 r8:Int) (r9 r10 r13:Int) (x2:Bool) (w0:World) (H:NP) (w:World) (K:Bool→WP):Prop :=
 Br x2
  (K false w)
  (Calls prog 51 #[(vp r3),(vi r10)] w (fun e w10=>∃aA aB aD:Int,∃aE:ByteArray,∃aC r14:Bool,e=.returned (.tuple #[(.agg #[(vi aA),(vi aB),(vu aD),(vs aE),(vb aC)]),(vb r14)])∧
   Kept H w w10 ∧
   ∀y1:Bool,y1=((r13 == 0) && ((((!r14) || (aA != 4)) || (aB != aL)) || (aC == (r9 == 0)))) →
   Br y1
    (∀(H6:NP) (w16:World),Hst w0 H w10 H6 w16 →
    K false w16)
    (Br (r9 == 0)
     (∀(H6:NP) (w16:World),Hst w0 H w10 H6 w16 →
     Calls prog 42 #[(vp r4),(vi r8)] w16 (fun e w20=>∃aJ aF aH:Int,∃aI:ByteArray,∃aG r15:Bool,e=.returned (.tuple #[(.agg #[(vi aJ),(vi aF),(vu aH),(vs aI),(vb aG)]),(vb r15)])∧
      Kept H6 w16 w20 ∧
      ∀(H10:NP) (w22:World),Hst w0 H6 w20 H10 w22 →
      Calls prog 45 #[(vp r3),(vi r6),(vi 0),(vu aH),(vs aI)] w22 (fun e w23=>∃r16:Bool,e=.returned (vb r16)∧
       Kept H10 w22 w23 ∧
       Br r16
        (Calls prog 45 #[(vp r3),(vi r6),(vi 1),(vu aH),(vs aI)] w23 (fun e w25=>∃r18:Bool,e=.returned (vb r18)∧
         Kept H10 w23 w25 ∧
         m_M_j3 r18 H10 w25 K))
        (m_M_j3 false H10 w23 K))))
     (∀(H6:NP) (w16:World),Hst w0 H w10 H6 w16 →
     Calls prog 24 #[] w16 (fun e w26=>∃r19:Bool,e=.returned (vb r19)∧
      Kept H6 w16 w26 ∧
      K r19 w26)))))
def m_M_j1 (aP aQ aL:Int) (r3:Option Addr) (r4:Option Addr) (r6 r8 r9:Int) (x1:Bool) (w0:World) (H:NP) (w:World) (K:Bool→WP):Prop :=
 Br x1
  (K false w)
  (Calls prog 33 #[(vp r3),(vi aL),(vi aP),(vi aQ)] w (fun e w8=>∃r10 r11:Int,e=.returned (.tuple #[(vi r10),(vi r11)])∧
   Kept H w w8 ∧
   Calls prog 50 #[(vp r4),(vi aL),(vi aP),(vi aQ)] w8 (fun e w9=>∃r12 r13:Int,e=.returned (.tuple #[(vi r12),(vi r13)])∧
    Kept H w8 w9 ∧
    Br (r11 != r13)
     (∀(w27:World),Hst w0 H w9 H w27 →
     m_M_j2 aL r3 r4 r6 r8 r9 r10 r13 true w0 H w27 K)
     (∀(w27:World),Hst w0 H w9 H w27 →
     Calls prog 48 #[(vp r3),(vi r10)] w27 (fun e w28=>∃aR aU:Int,∃bO bP:Int,∃aS:ByteArray,∃bQ:Sl,e=.returned (.agg #[(vi aR),(vi aU),(vi bO),(vu bP),(vs aS),bQ.v])∧
      Kept H w27 w28 ∧
      Calls prog 49 #[(vp r4),(vi r12)] w28 (fun e w29=>∃bA dF:Int,∃bR bS:Int,∃bB:ByteArray,∃bT:Sl,e=.returned (.agg #[(vi bA),(vi dF),(vi bR),(vu bS),(vs bB),bT.v])∧
       Kept H w28 w29 ∧
       Calls prog 47 #[(.agg #[(vi aR),(vi aU),(vi bO),(vu bP),(vs aS),bQ.v]),(.agg #[(vi bA),(vi dF),(vi bR),(vu bS),(vs bB),bT.v])] w29 (fun e w30=>∃r20:Bool,e=.returned (vb r20)∧
        Kept H w29 w30 ∧
        m_M_j2 aL r3 r4 r6 r8 r9 r10 r13 (!r20) w0 H w30 K)))))))
def m_M (aT:Sl) (aP aQ aL:Int) (w0:World) (K:Bool→WP):Prop :=
 ∀(H1:NP) (w2:World),Hst w0 None w0 H1 w2 →
 Calls prog 23 #[aT.v] w2 (fun e w3=>∃r1:Bool,e=.returned (vb r1)∧
  Kept H1 w2 w3 ∧
  Br r1
   (Calls prog 24 #[] w3 (fun e w4=>∃r2:Bool,e=.returned (vb r2)∧
    Kept H1 w3 w4 ∧
    K r2 w4))
   (Calls prog 25 #[aT.v] w3 (fun e w5=>∃r3:Option Addr,∃r4:Option Addr,∃r5:Bool,e=.returned (.tuple #[(vp r3),(vp r4),(vb r5)])∧
    Kept H1 w3 w5 ∧
    Br (!r5)
     (K false w5)
     (Calls prog 32 #[(vp r3),(vi aP),(vi aQ)] w5 (fun e w6=>∃r6 r7:Int,e=.returned (.tuple #[(vi r6),(vi r7)])∧
      Kept H1 w5 w6 ∧
      Calls prog 46 #[(vp r4),(vi aP),(vi aQ)] w6 (fun e w7=>∃r8 r9:Int,e=.returned (.tuple #[(vi r8),(vi r9)])∧
       Kept H1 w6 w7 ∧
       Br (r7 != r9)
        (∀(w31:World),Hst w0 H1 w7 H1 w31 →
        m_M_j1 aP aQ aL r3 r4 r6 r8 r9 true w0 H1 w31 K)
        (∀(w31:World),Hst w0 H1 w7 H1 w31 →
        Calls prog 48 #[(vp r3),(vi r6)] w31 (fun e w32=>∃bC dG:Int,∃dH dI:Int,∃bD:ByteArray,∃dJ:Sl,e=.returned (.agg #[(vi bC),(vi dG),(vi dH),(vu dI),(vs bD),dJ.v])∧
         Kept H1 w31 w32 ∧
         Calls prog 49 #[(vp r4),(vi r8)] w32 (fun e w33=>∃bE dK:Int,∃dL dM:Int,∃bF:ByteArray,∃dN:Sl,e=.returned (.agg #[(vi bE),(vi dK),(vi dL),(vu dM),(vs bF),dN.v])∧
          Kept H1 w32 w33 ∧
          Calls prog 47 #[(.agg #[(vi bC),(vi dG),(vi dH),(vu dI),(vs bD),dJ.v]),(.agg #[(vi bE),(vi dK),(vi dL),(vu dM),(vs bF),dN.v])] w33 (fun e w34=>∃r21:Bool,e=.returned (vb r21)∧
           Kept H1 w33 w34 ∧
           m_M_j1 aP aQ aL r3 r4 r6 r8 r9 (!r21) w0 H1 w34 K))))))))))
theorem w_M (aT : Sl) (aP aQ aL : Int) (w0 : World) (K : Bool → WP) (h : m_M aT aP aQ aL w0 K) :
  Calls prog 10 #[(.agg #[aT.v,(vi aP),(vi aQ),(vi aL)])] w0 (fun e w'=>∃r22:Bool,e=.returned (vb r22)∧K r22 w'):=by
 unfold m_M at h
 refine cw (args:=[(.agg #[aT.v,(vi aP),(vi aQ),(vi aL)])]) func10 ntmps10 ?_
 have hs:=Hst.start w0
 have hb:=HB.nil None w0
 refine eg (sn (O:=(.cells #[aT.v,(vi aP),(vi aQ),(vi aL)] 102)) xb ?_)
 intro p1 w1 hn1
 obtain ⟨H1,hs,hb⟩:=hs.alloc hb hn1
 refine q0 (vb false) (ln (wpE_seq (wpE_drawnQ (by kernel_rfl) (by kernel_rfl) (by kernel_rfl) (by kernel_rfl) ?_)))
 intro w2 hw2
 have hs:Hst w0 None w0 H1 w2:=by rw [hw2];exact hs.drew
 have hb:HB H1 w2 [(p1,[aT.v,(vi aP),(vi aQ),(vi aL)],102)]:=by rw [hw2];exact hb.drew
 refine qq 0 (vp (some p1)) Kp0 (qr 1 aT.v Kp1 (xl (isAgg66 _) (hb.c0 0 gZ)) (qq 2 (vp (some (p1.add 1))) Kp2 (qr 3 (vi aP) Kp3 (xl (isAgg78 _) (hb.c 0 1 gZ)) (qq 4 (vp (some (p1.add 2))) Kp4 (qr 5 (vi aQ) Kp5 (xl (isAgg78 _) (hb.c 0 2 gZ)) (qq 6 (vp (some (p1.add 3))) Kp6 (qr 7 (vi aL) Kp7 (xl (isAgg3 _) (hb.c 0 3 gZ)) (qq 8 aT.v Kp8 (qq 9 (vi aP) Kp9 (qq 10 (vi aQ) (pickA (S8 (pickS (pickS pickZ)))) (qq 11 (vi aL) (pickA (S8 (pickS (pickS (pickS pickZ))))) ?_)))))))))))
 refine wn (th_n (wpE_seq (eg (q0 aT.v ?_))))
 have h:=h H1 w2 hs
 have hs:=hs.here
 refine sc call23 (h.mono ?_)
 rintro e w3 ⟨r1,rfl,hk,h⟩
 refine ⟨_,rfl,?_⟩
 obtain ⟨hs,hb⟩:=hk.hh hs hb
 refine ln ?_
 refine wpE_cond (t:=r1) (by kernel_rfl) (fun hc1=>?_) (fun hc1=>?_)
 have h:=h.1 hc1
 refine eg ?_
 refine sc call24 (h.mono ?_)
 rintro e w4 ⟨r2,rfl,hk,h⟩
 refine ⟨_,rfl,?_⟩
 obtain ⟨hs,hb⟩:=hk.hh hs hb
 refine q0 (vb r2) (ln (er (th_r (rs1 results10 (v:=(vb r2)) ?_))))
 exact ⟨r2,rfl,h⟩
 have h:=h.2 hc1
 refine wpE_skip (th_n (eg (q0 aT.v ?_)))
 refine sc call25 (h.mono ?_)
 rintro e w5 ⟨r3,r4,r5,rfl,hk,h⟩
 refine ⟨_,rfl,?_⟩
 obtain ⟨hs,hb⟩:=hk.hh hs hb
 refine q0 (.tuple #[(vp r3),(vp r4),(vb r5)]) (q0 (vp r3) (q0 (vp r4) (q0 (vb r5) (q0 (vp r3) (q0 (vp r4) (q0 (vb r5) (ln (wpE_seq (eg ?_)))))))))
 refine q0 (vb r5) (q0 (vb (!r5)) (ln ?_))
 refine wpE_cond (t:=(!r5)) (by kernel_rfl) (fun hc2=>?_) (fun hc2=>?_)
 have h:=h.1 hc2
 refine eg (q0 (vb false) (ln (er (th_r (rs1 results10 (v:=(vb false)) ?_)))))
 exact ⟨false,rfl,h⟩
 have h:=h.2 hc2
 refine wpE_skip (th_n (eg (q0 (vp r3) (q0 (vi aP) (q0 (vi aQ) ?_)))))
 refine sc call32 (h.mono ?_)
 rintro e w6 ⟨r6,r7,rfl,hk,h⟩
 refine ⟨_,rfl,?_⟩
 obtain ⟨hs,hb⟩:=hk.hh hs hb
 refine q0 (.tuple #[(vi r6),(vi r7)]) (q0 (vi r6) (q0 (vi r7) (q0 (vi r6) (q0 (vi r7) (ln (eg (q0 (vp r4) (q0 (vi aP) (q0 (vi aQ) ?_)))))))))
 refine sc call46 (h.mono ?_)
 rintro e w7 ⟨r8,r9,rfl,hk,h⟩
 refine ⟨_,rfl,?_⟩
 obtain ⟨hs,hb⟩:=hk.hh hs hb
 refine q0 (.tuple #[(vi r8),(vi r9)]) (q0 (vi r8) (q0 (vi r9) (q0 (vi r8) (q0 (vi r9) (ln (wpE_seq (wpE_seq ?_)))))))
 refine wpE_joinT (fun ρ w=>∃x1:Bool,∃H:NP,Has ρ [(4,(vi aP)),(5,(vi aQ)),(6,(vi aL)),(7,(vp r3)),(8,(vp r4)),(10,(vi r6)),(12,(vi r8)),(13,(vi r9)),(68,(vb x1))]∧Hst w0 H w H w∧HB H w [(p1,[aT.v,(vi aP),(vi aQ),(vi aL)],102)]∧m_M_j1 aP aQ aL r3 r4 r6 r8 r9 x1 w0 H w K) ?_ ?_
 rintro ρ w ⟨x1,H,hH,hs,hb,h⟩
 unfold m_M_j1 at h
 refine wpE_has hH ?_
 refine wpE_cond (t:=x1) (by kernel_rfl) (fun hc3=>?_) (fun hc3=>?_)
 have h:=h.1 hc3
 refine eg (q0 (vb false) (ln (er (th_r (rs1 results10 (v:=(vb false)) ?_)))))
 exact ⟨false,rfl,h⟩
 have h:=h.2 hc3
 refine wpE_skip (th_n (eg (q0 (vp r3) (q0 (vi aL) (q0 (vi aP) (q0 (vi aQ) ?_))))))
 refine sc call33 (h.mono ?_)
 rintro e w8 ⟨r10,r11,rfl,hk,h⟩
 refine ⟨_,rfl,?_⟩
 obtain ⟨hs,hb⟩:=hk.hh hs hb
 refine q0 (.tuple #[(vi r10),(vi r11)]) (q0 (vi r10) (q0 (vi r11) (q0 (vi r10) (q0 (vi r11) (ln (eg (q0 (vp r4) (q0 (vi aL) (q0 (vi aP) ?_)))))))))
 refine q0 (vi aQ) ?_
 refine sc call50 (h.mono ?_)
 rintro e w9 ⟨r12,r13,rfl,hk,h⟩
 refine ⟨_,rfl,?_⟩
 obtain ⟨hs,hb⟩:=hk.hh hs hb
 refine q0 (.tuple #[(vi r12),(vi r13)]) (q0 (vi r12) (q0 (vi r13) (q0 (vi r12) (q0 (vi r13) (ln (wpE_seq (wpE_seq ?_)))))))
 refine wpE_joinT (fun ρ w=>∃x2:Bool,∃H:NP,Has ρ [(6,(vi aL)),(7,(vp r3)),(8,(vp r4)),(10,(vi r6)),(12,(vi r8)),(13,(vi r9)),(14,(vi r10)),(17,(vi r13)),(98,(vb x2))]∧Hst w0 H w H w∧HB H w [(p1,[aT.v,(vi aP),(vi aQ),(vi aL)],102)]∧m_M_j2 aL r3 r4 r6 r8 r9 r10 r13 x2 w0 H w K) ?_ ?_
 rintro ρ w ⟨x2,H,hH,hs,hb,h⟩
 unfold m_M_j2 at h
 refine wpE_has hH ?_
 refine wpE_cond (t:=x2) (by kernel_rfl) (fun hc4=>?_) (fun hc4=>?_)
 have h:=h.1 hc4
 refine eg (q0 (vb false) (ln (er (th_r (rs1 results10 (v:=(vb false)) ?_)))))
 exact ⟨false,rfl,h⟩
 have h:=h.2 hc4
 refine wpE_skip (th_n (eg (q0 (vp r3) (q0 (vi r10) ?_))))
 refine sc call51 (h.mono ?_)
 rintro e w10 ⟨aA,aB,aD,aE,aC,r14,rfl,hk,h⟩
 refine ⟨_,rfl,?_⟩
 obtain ⟨hs,hb⟩:=hk.hh hs hb
 refine q0 (.tuple #[(.agg #[(vi aA),(vi aB),(vu aD),(vs aE),(vb aC)]),(vb r14)]) (q0 (.agg #[(vi aA),(vi aB),(vu aD),(vs aE),(vb aC)]) (q0 (vb r14) (sn (O:=(.cells #[(vi 0),(vi 0),(vu 0),ve,(vb false)] 35)) (x_alloc (zeroValue35 _) rfl) ?_)))
 intro p2 w11 hn2
 obtain ⟨H2,hs,hb⟩:=hs.alloc hb hn2
 refine ss (xo p2 [(vi aA),(vi aB),(vu aD),(vs aE),(vb aC)] (sizeOf35 _) (hb.k0 0 5 gZ)) ?_
 intro w12 hn3
 obtain ⟨hs,hb⟩:=hb.s0 (l':=[(p2,[(vi aA),(vi aB),(vu aD),(vs aE),(vb aC)],35),(p1,[aT.v,(vi aP),(vi aQ),(vi aL)],102)]) 0 [(vi aA),(vi aB),(vu aD),(vs aE),(vb aC)] hs hn3 gZ
 refine q0 (vb r14) (ln (wpE_seq (wpE_seq ?_)))
 refine wpE_via (fun ρ wJ=>∃b4'0 y1:Bool,∃HJ:NP,((r13 == 0)=b4'0)∧(y1=(b4'0 && ((((!r14) || (aA != 4)) || (aB != aL)) || (aC == (r9 == 0)))))∧Hst w0 H w10 HJ wJ∧HB HJ wJ [(p2,[(vi aA),(vi aB),(vu aD),(vs aE),(vb aC)],35),(p1,[aT.v,(vi aP),(vi aQ),(vi aL)],102)]∧Has ρ [(7,(vp r3)),(8,(vp r4)),(10,(vi r6)),(12,(vi r8)),(13,(vi r9)),(128,(vb y1))]) ?_ ?_
 refine rg (q0 (vi r13) (q0 (vb (r13 == 0)) (q0 (vb (r13 == 0)) ?_)))
 rcases bte (r13 == 0) with hg8 | hg8
 refine q1 (vb r14) (wy 107 hg8) (q1 (vb (!r14)) (wy 107 hg8) (q1 (vb (!r14)) (wy 107 hg8) ?_))
 refine wpL_join 4 (fun ρ wJ=>∃b5'0:Bool,∃HJ:NP,((!r14)=b5'0)∧Hst w0 H w10 HJ wJ∧HB HJ wJ [(p2,[(vi aA),(vi aB),(vu aD),(vs aE),(vb aC)],35),(p1,[aT.v,(vi aP),(vi aQ),(vi aL)],102)]∧Has ρ [(6,(vi aL)),(7,(vp r3)),(8,(vp r4)),(10,(vi r6)),(12,(vi r8)),(13,(vi r9)),(18,(vp (some p2))),(107,(vb (r13 == 0))),(114,(vb (b5'0 || (aA != 4))))]) ?_ ?_
 rintro ρ w17 ⟨b5'0,H7,he0,hs,hb,hH⟩
 subst he0
 refine wpL_has hH ?_
 refine q1 (vb ((!r14) || (aA != 4))) (wy 107 hg8) ?_
 refine wpL_join 5 (fun ρ wJ=>∃b6'0:Bool,∃HJ:NP,(((!r14) || (aA != 4))=b6'0)∧Hst w0 H w10 HJ wJ∧HB HJ wJ [(p2,[(vi aA),(vi aB),(vu aD),(vs aE),(vb aC)],35),(p1,[aT.v,(vi aP),(vi aQ),(vi aL)],102)]∧Has ρ [(7,(vp r3)),(8,(vp r4)),(10,(vi r6)),(12,(vi r8)),(13,(vi r9)),(18,(vp (some p2))),(107,(vb (r13 == 0))),(120,(vb (b6'0 || (aB != aL))))]) ?_ ?_
 rintro ρ w18 ⟨b6'0,H8,he0,hs,hb,hH⟩
 subst he0
 refine wpL_has hH ?_
 refine q1 (vb (((!r14) || (aA != 4)) || (aB != aL))) (wy 107 hg8) ?_
 refine wpL_join 6 (fun ρ wJ=>∃b7'0:Bool,∃HJ:NP,((((!r14) || (aA != 4)) || (aB != aL))=b7'0)∧Hst w0 H w10 HJ wJ∧HB HJ wJ [(p2,[(vi aA),(vi aB),(vu aD),(vs aE),(vb aC)],35),(p1,[aT.v,(vi aP),(vi aQ),(vi aL)],102)]∧Has ρ [(7,(vp r3)),(8,(vp r4)),(10,(vi r6)),(12,(vi r8)),(13,(vi r9)),(107,(vb (r13 == 0))),(127,(vb (b7'0 || (aC == (r9 == 0)))))]) ?_ ?_
 rintro ρ w19 ⟨b7'0,H9,he0,hs,hb,hH⟩
 subst he0
 refine wpL_has hH ?_
 refine q2 (vb ((((!r14) || (aA != 4)) || (aB != aL)) || (aC == (r9 == 0)))) (xT hg8) (ln ?_)
 exact ⟨true,_,_,hg8,rfl,hs,hb,hm⟩
 rcases bte (((!r14) || (aA != 4)) || (aB != aL)) with hg14 | hg14
 refine sk (yD 121 hg14) (sk (yD 121 hg14) (sk (yD 121 hg14) (sk (yD 121 hg14) (sk (yD 121 hg14) (stp (v:=(vb true)) (wy 107 hg8) (xT hg14) (wpL_nil ?_))))))
 exact ⟨true,_,hg14,hs,hb,hm⟩
 refine q1 (vp (some (p2.add 4))) (wy 121 hg14) (stp (v:=(vb aC)) (wy 121 hg14) (xl (isAgg4 _) (hb.c 0 4 gZ)) (q1 (vi r9) (wy 121 hg14) (q1 (vb (r9 == 0)) (wy 121 hg14) (stp (v:=(vb (aC == (r9 == 0)))) (wy 121 hg14) (x_bin (by kernel_rfl) (by kernel_rfl) (by kernel_rfl) (eqt_law12_EvidenceMakes_eql_4 aC (r9 == 0) _)) (stp (v:=(vb (aC == (r9 == 0)))) (wy 107 hg8) (xF hg14) (wpL_nil ?_))))))
 exact ⟨false,_,hg14,hs,hb,hm⟩
 rcases bte ((!r14) || (aA != 4)) with hg12 | hg12
 refine sk (yD 115 hg12) (sk (yD 115 hg12) (sk (yD 115 hg12) (sk (yD 115 hg12) (stp (v:=(vb true)) (wy 107 hg8) (xT hg12) (wpL_nil ?_)))))
 exact ⟨true,_,hg12,hs,hb,hm⟩
 refine q1 (vp (some (p2.add 1))) (wy 115 hg12) (stp (v:=(vi aB)) (wy 115 hg12) (xl (isAgg3 _) (hb.c 0 1 gZ)) (q1 (vi aL) (wy 115 hg12) (q1 (vb (aB != aL)) (wy 115 hg12) (stp (v:=(vb (aB != aL))) (wy 107 hg8) (xF hg12) (wpL_nil ?_)))))
 exact ⟨false,_,hg12,hs,hb,hm⟩
 rcases bte (!r14) with hg10 | hg10
 refine sk (yD 110 hg10) (sk (yD 110 hg10) (sk (yD 110 hg10) (stp (v:=(vb true)) (wy 107 hg8) (xT hg10) (wpL_nil ?_))))
 exact ⟨true,_,hg10,hs,hb,hm⟩
 refine q1 (vp (some p2)) (wy 110 hg10) (stp (v:=(vi aA)) (wy 110 hg10) (xl (isAgg3 _) (hb.c0 0 gZ)) (q1 (vb (aA != 4)) (wy 110 hg10) (stp (v:=(vb (aA != 4))) (wy 107 hg8) (xF hg10) (wpL_nil ?_))))
 exact ⟨false,_,hg10,hs,hb,hm⟩
 refine sk (yD 107 hg8) (sk (yD 107 hg8) (sk (yD 107 hg8) (sm (sm (sm (sk (yD 107 hg8) (sk (yD 107 hg8) (sm (sm (sm (sm ?_)))))))))))
 refine sk (yD 107 hg8) (sk (yD 107 hg8) (sm (sm (sm (sm (sm (sk (yD 107 hg8) (q2 (vb false) (xF hg8) (ln ?_)))))))))
 exact ⟨false,_,_,hg8,rfl,hs,hb,hm⟩
 rintro ρ w16 ⟨b4'0,y1,H6,he0,hy1,hs,hb,hH⟩
 subst he0
 have h:=h y1 hy1
 refine norm_has hH ?_
 refine th_n ?_
 refine wpE_cond (t:=y1) (by kernel_rfl) (fun hc5=>?_) (fun hc5=>?_)
 have h:=h.1 hc5
 refine eg (q0 (vb false) (ln (er (th_r ?_))))
 have h:=h H6 w16 hs
 have hs:=hs.here
 refine rs1 results10 (v:=(vb false)) ?_
 exact ⟨false,rfl,h⟩
 have h:=h.2 hc5
 refine wpE_skip (th_n (wpE_seq (eg (q0 (vi r9) (q0 (vb (r9 == 0)) (ln ?_))))))
 refine wpE_cond (t:=(r9 == 0)) (by kernel_rfl) (fun hc6=>?_) (fun hc6=>?_)
 have h:=h.1 hc6
 refine eg (q0 (vp r4) (q0 (vi r8) ?_))
 have h:=h H6 w16 hs
 have hs:=hs.here
 refine sc call42 (h.mono ?_)
 rintro e w20 ⟨aJ,aF,aH,aI,aG,r15,rfl,hk,h⟩
 refine ⟨_,rfl,?_⟩
 obtain ⟨hs,hb⟩:=hk.hh hs hb
 refine q0 (.tuple #[(.agg #[(vi aJ),(vi aF),(vu aH),(vs aI),(vb aG)]),(vb r15)]) (q0 (.agg #[(vi aJ),(vi aF),(vu aH),(vs aI),(vb aG)]) (q0 (vb r15) (sn (O:=(.cells #[(vi 0),(vi 0),(vu 0),ve,(vb false)] 35)) (x_alloc (zeroValue35 _) rfl) ?_)))
 intro p3 w21 hn4
 obtain ⟨H10,hs,hb⟩:=hs.alloc hb hn4
 refine ss (xo p3 [(vi aJ),(vi aF),(vu aH),(vs aI),(vb aG)] (sizeOf35 _) (hb.k0 0 5 gZ)) ?_
 intro w22 hn5
 obtain ⟨hs,hb⟩:=hb.s0 (l':=[(p3,[(vi aJ),(vi aF),(vu aH),(vs aI),(vb aG)],35),(p2,[(vi aA),(vi aB),(vu aD),(vs aE),(vb aC)],35),(p1,[aT.v,(vi aP),(vi aQ),(vi aL)],102)]) 0 [(vi aJ),(vi aF),(vu aH),(vs aI),(vb aG)] hs hn5 gZ
 refine q0 (vb r15) (ln (eg (q0 (vp r3) (q0 (vi r6) (q0 (vp (some (p3.add 2))) (q2 (vu aH) (xl (isAgg23 _) (hb.c 0 2 gZ)) (q0 (vp (some (p3.add 3))) (q2 (vs aI) (xl (isAgg9 _) (hb.c 0 3 gZ)) ?_))))))))
 have h:=h H10 w22 hs
 have hs:=hs.here
 refine sc call45 (h.mono ?_)
 rintro e w23 ⟨r16,rfl,hk,h⟩
 refine ⟨_,rfl,?_⟩
 obtain ⟨hs,hb⟩:=hk.hh hs hb
 refine q0 (vb r16) ?_
 refine wpL_join 8 (fun ρ w=>∃x3:Bool,∃H:NP,Has ρ [(152,(vb x3))]∧Hst w0 H w H w∧HB H w [(p3,[(vi aJ),(vi aF),(vu aH),(vs aI),(vb aG)],35),(p2,[(vi aA),(vi aB),(vu aD),(vs aE),(vb aC)],35),(p1,[aT.v,(vi aP),(vi aQ),(vi aL)],102)]∧m_M_j3 x3 H w K) ?_ ?_
 rintro ρ w ⟨x3,H,hH,hs,hb,h⟩
 unfold m_M_j3 at h
 refine wpL_has hH ?_
 refine q0 (vb x3) ?_
 rcases bte x3 with hg15 | hg15
 have h:=h.1 hg15
 refine st_call (wy 153 hg15) (xc call24) (h.mono ?_)
 rintro e w24 ⟨r17,rfl,hk,h⟩
 refine ⟨_,rfl,?_⟩
 obtain ⟨hs,hb⟩:=hk.hh hs hb
 refine q2 (vb r17) (xT hg15) (q0 (vb r17) (ln (er (th_r (rs1 results10 (v:=(vb r17)) ?_)))))
 exact ⟨r17,rfl,h⟩
 have h:=h.2 hg15
 refine sk (yD 153 hg15) (q2 (vb false) (xF hg15) (q0 (vb false) (ln (er (th_r (rs1 results10 (v:=(vb false)) ?_))))))
 exact ⟨false,rfl,h⟩
 rcases bte r16 with hg16 | hg16
 have h:=h.1 hg16
 refine q1 (vp r3) (wy 144 hg16) (q1 (vi r6) (wy 144 hg16) (q1 (vp (some (p3.add 2))) (wy 144 hg16) (stp (v:=(vu aH)) (wy 144 hg16) (xl (isAgg23 _) (hb.c 0 2 gZ)) (q1 (vp (some (p3.add 3))) (wy 144 hg16) (stp (v:=(vs aI)) (wy 144 hg16) (xl (isAgg9 _) (hb.c 0 3 gZ)) ?_)))))
 refine st_call (wy 144 hg16) (xc call45) (h.mono ?_)
 rintro e w25 ⟨r18,rfl,hk,h⟩
 refine ⟨_,rfl,?_⟩
 obtain ⟨hs,hb⟩:=hk.hh hs hb
 refine q2 (vb r18) (xT hg16) (wpL_nil ?_)
 exact ⟨r18,H10,hm,hs,hb,h⟩
 have h:=h.2 hg16
 refine sk (yD 144 hg16) (sk (yD 144 hg16) (sk (yD 144 hg16) (sk (yD 144 hg16) (sk (yD 144 hg16) (sk (yD 144 hg16) (sk (yD 144 hg16) (q2 (vb false) (xF hg16) (wpL_nil ?_))))))))
 exact ⟨false,H10,hm,hs,hb,h⟩
 have h:=h.2 hc6
 refine wpE_skip (th_n (eg ?_))
 have h:=h H6 w16 hs
 have hs:=hs.here
 refine sc call24 (h.mono ?_)
 rintro e w26 ⟨r19,rfl,hk,h⟩
 refine ⟨_,rfl,?_⟩
 obtain ⟨hs,hb⟩:=hk.hh hs hb
 refine q0 (vb r19) (ln (er (rs1 results10 (v:=(vb r19)) ?_)))
 exact ⟨r19,rfl,h⟩
 refine rg (q0 (vi r11) ?_)
 refine sc call36 ((p_E1 r11 w9).mono ?_)
 rintro e w27 ⟨he,hE⟩
 refine ⟨(vi r11),he.trans (by kernel_rfl),?_⟩
 have hs:=hs.pure hE
 have hb:=hb.pure hE
 refine q0 (vi r13) (q0 (vb (r11 != r13)) (q0 (vb (r11 != r13)) ?_))
 rcases bte (r11 != r13) with hg17 | hg17
 have h:=h.1 hg17
 refine sk (yD 89 hg17) (sk (yD 89 hg17) (sk (yD 89 hg17) (sk (yD 89 hg17) (sk (yD 89 hg17) (sk (yD 89 hg17) (sk (yD 89 hg17) (sk (yD 89 hg17) (q2 (vb true) (xT hg17) (wpL_nil ?_)))))))))
 have h:=h w27 hs
 have hs:=hs.here
 refine th_n ?_
 exact ⟨true,H,hm,hs,hb,h⟩
 have h:=h.2 hg17
 refine q1 (vp r3) (wy 89 hg17) (q1 (vi r10) (wy 89 hg17) ?_)
 have h:=h w27 hs
 have hs:=hs.here
 refine st_call (wy 89 hg17) (xc call48) (h.mono ?_)
 rintro e w28 ⟨aR,aU,bO,bP,aS,bQ,rfl,hk,h⟩
 refine ⟨_,rfl,?_⟩
 obtain ⟨hs,hb⟩:=hk.hh hs hb
 refine q1 (vp r4) (wy 89 hg17) (q1 (vi r12) (wy 89 hg17) ?_)
 refine st_call (wy 89 hg17) (xc call49) (h.mono ?_)
 rintro e w29 ⟨bA,dF,bR,bS,bB,bT,rfl,hk,h⟩
 refine ⟨_,rfl,?_⟩
 obtain ⟨hs,hb⟩:=hk.hh hs hb
 refine st_call (wy 89 hg17) (xc call47) (h.mono ?_)
 rintro e w30 ⟨r20,rfl,hk,h⟩
 refine ⟨_,rfl,?_⟩
 obtain ⟨hs,hb⟩:=hk.hh hs hb
 refine q1 (vb (!r20)) (wy 89 hg17) (q2 (vb (!r20)) (xF hg17) (ln ?_))
 exact ⟨(!r20),H,hm,hs,hb,h⟩
 refine rg (q0 (vi r7) ?_)
 refine sc call36 ((p_E1 r7 w7).mono ?_)
 rintro e w31 ⟨he,hE⟩
 refine ⟨(vi r7),he.trans (by kernel_rfl),?_⟩
 have hs:=hs.pure hE
 have hb:=hb.pure hE
 refine q0 (vi r9) (q0 (vb (r7 != r9)) (q0 (vb (r7 != r9)) ?_))
 rcases bte (r7 != r9) with hg18 | hg18
 have h:=h.1 hg18
 refine sk (yD 59 hg18) (sk (yD 59 hg18) (sk (yD 59 hg18) (sk (yD 59 hg18) (sk (yD 59 hg18) (sk (yD 59 hg18) (sk (yD 59 hg18) (sk (yD 59 hg18) (q2 (vb true) (xT hg18) (wpL_nil ?_)))))))))
 have h:=h w31 hs
 have hs:=hs.here
 refine th_n ?_
 exact ⟨true,H1,hm,hs,hb,h⟩
 have h:=h.2 hg18
 refine q1 (vp r3) (wy 59 hg18) (q1 (vi r6) (wy 59 hg18) ?_)
 have h:=h w31 hs
 have hs:=hs.here
 refine st_call (wy 59 hg18) (xc call48) (h.mono ?_)
 rintro e w32 ⟨bC,dG,dH,dI,bD,dJ,rfl,hk,h⟩
 refine ⟨_,rfl,?_⟩
 obtain ⟨hs,hb⟩:=hk.hh hs hb
 refine q1 (vp r4) (wy 59 hg18) (q1 (vi r8) (wy 59 hg18) ?_)
 refine st_call (wy 59 hg18) (xc call49) (h.mono ?_)
 rintro e w33 ⟨bE,dK,dL,dM,bF,dN,rfl,hk,h⟩
 refine ⟨_,rfl,?_⟩
 obtain ⟨hs,hb⟩:=hk.hh hs hb
 refine st_call (wy 59 hg18) (xc call47) (h.mono ?_)
 rintro e w34 ⟨r21,rfl,hk,h⟩
 refine ⟨_,rfl,?_⟩
 obtain ⟨hs,hb⟩:=hk.hh hs hb
 refine q1 (vb (!r21)) (wy 59 hg18) (q2 (vb (!r21)) (xF hg18) (ln ?_))
 exact ⟨(!r21),H1,hm,hs,hb,h⟩
def m_L3 (kind1 who1:Int) (cap1:Addr) (w0:World) (K:Int→Int→Int→ByteArray→WP):Prop :=
 ∀(H1:NP) (w1:World),Hst w0 None w0 H1 w1 →
 ∃v1:Int,w1.cell? (cap1.add 2)=some (vu v1) ∧
 ∃v2:ByteArray,w1.cell? (cap1.add 3)=some (vs v2) ∧
 ∀(w2:World),Hst w0 H1 w1 H1 w2 →
 K kind1 who1 v1 v2 w2
theorem w_L3 (kind1 who1 : Int) (cap1 : Addr) (w0 : World) (K : Int → Int → Int → ByteArray → WP) (h : m_L3 kind1 who1 cap1 w0 K) :
  Calls prog 162 #[(vi kind1),(vi who1),(vp (some cap1))] w0 (fun e w'=>∃aA bU aD:Int,∃aE:ByteArray,e=.returned (.agg #[(vi aA),(vi bU),(vu aD),(vs aE)])∧K aA bU aD aE w'):=by
 unfold m_L3 at h
 refine cw (args:=[(vi kind1),(vi who1),(vp (some cap1))]) func162 ntmps162 ?_
 have hs:=Hst.start w0
 have hb:=HB.nil None w0
 refine eg (sn (O:=(.cells #[(vi 0),(vi 0),(vu 0),ve] 75)) (x_alloc (zeroValue75 _) rfl) ?_)
 intro p1 w1 hn1
 obtain ⟨H1,hs,hb⟩:=hs.alloc hb hn1
 refine ln (eg (q0 (vi kind1) (q0 (vi who1) (q0 (vp (some (cap1.add 2))) ?_))))
 have h:=h H1 w1 hs
 have hs:=hs.here
 obtain ⟨v1,hv2,h⟩:=h
 refine q2 (vu v1) (xl (isAgg23 _) hv2) (q0 (vp (some (cap1.add 3))) ?_)
 obtain ⟨v2,hv1,h⟩:=h
 refine q2 (vs v2) (xl (isAgg9 _) hv1) (q0 (.agg #[(vi kind1),(vi who1),(vu v1),(vs v2)]) (st_set (want0 rfl) (xo p1 [(vi kind1),(vi who1),(vu v1),(vs v2)] (sizeOf75 _) (hb.k0 0 4 gZ)) ?_))
 intro w2 hn2
 obtain ⟨hs,hb⟩:=hb.s0 (l':=[(p1,[(vi kind1),(vi who1),(vu v1),(vs v2)],75)]) 0 [(vi kind1),(vi who1),(vu v1),(vs v2)] hs hn2 gZ
 refine ln (er ?_)
 have h:=h w2 hs
 have hs:=hs.here
 refine resG (.inl rfl) (vs:=[(.agg #[(vi kind1),(vi who1),(vu v1),(vs v2)])]) (v:=(.agg #[(vi kind1),(vi who1),(vu v1),(vs v2)])) results162 ⟨(rva (isAgg75 _) (sizeOf75 _) (hb.r0 0 4 gZ)),trivial⟩ (by kernel_rfl) ?_
 exact ⟨kind1,who1,v1,v2,rfl,h⟩
end Go.Proofs
end
section
open Go
namespace Go.Sp
structure Fact where
 kind:Int
 who:Int
 c:Int
 text:ByteArray
deriving DecidableEq
def cmpI (a b:Int):Int:=if a<b then -1 else if b<a then 1 else 0
def cmpB (a b:ByteArray):Int:=if Op.bytesLess a.toList b.toList=true then -1 else if a=b then 0 else 1
def cmpF (a b:Fact):Int:=if cmpI a.c b.c≠0 then cmpI a.c b.c else if cmpI a.kind b.kind≠0 then cmpI a.kind b.kind else if cmpI a.who b.who≠0 then cmpI a.who b.who else cmpB a.text b.text
theorem toList_inj {a b:ByteArray} (h:a.toList=b.toList):a=b:=by
 rw [Lib.toList_data,Lib.toList_data] at h
 obtain ⟨a⟩:=a;obtain ⟨b⟩:=b
 simp only at h
 congr 1
 exact Array.toList_inj.1 h
def LtF (a b:Fact):Prop:=a.c<b.c∨(a.c=b.c∧(a.kind<b.kind∨(a.kind=b.kind∧(a.who<b.who∨(a.who=b.who∧a.text.toList<b.text.toList)))))
theorem cmpI_zero {a b:Int}:cmpI a b=0↔a=b:=by unfold cmpI;split <;> (try split) <;> omega
theorem cmpI_neg (a b:Int):cmpI b a=- cmpI a b:=by unfold cmpI;split <;> split <;> (try split) <;> omega
theorem less_iff {a b:ByteArray}:Op.bytesLess a.toList b.toList=true↔a.toList<b.toList:=by rw [Go.Proofs.bytesLess_eq];simp
theorem cmpB_zero {a b:ByteArray}:cmpB a b=0↔a=b:=by
 unfold cmpB
 split
 ·rename_i h
  refine ⟨fun h'=>by omega,fun e=>?_⟩
  subst e
  exact absurd (less_iff.1 h) (List.lt_irrefl _)
 ·split <;> simp_all
theorem cmpB_neg (a b:ByteArray):cmpB b a=- cmpB a b:=by
 unfold cmpB
 by_cases h1:a.toList<b.toList
 ·rw [if_pos (less_iff.2 h1),if_neg (fun h=>List.lt_asymm h1 (less_iff.1 h)),if_neg (fun e=>by subst e;exact List.lt_irrefl _ h1)];rfl
 ·rw [if_neg (fun h=>h1 (less_iff.1 h))]
  by_cases h2:b.toList<a.toList
  ·rw [if_pos (less_iff.2 h2),if_neg (fun e=>by subst e;exact List.lt_irrefl _ h2)]
  ·have e:a=b:=toList_inj (List.le_antisymm (List.not_lt.1 h2) (List.not_lt.1 h1))
   subst e
   rw [if_neg (fun h=>h1 (less_iff.1 h))]
   simp
theorem cmpF_zero {a b:Fact}:cmpF a b=0↔a=b:=by
 obtain ⟨k,w,c,x⟩:=a
 obtain ⟨k',w',c',x'⟩:=b
 unfold cmpF
 simp only [Fact.mk.injEq,← cmpI_zero (a:=k),← cmpI_zero (a:=w),← cmpI_zero (a:=c),← cmpB_zero (a:=x)]
 split
 ·omega
 ·split
  ·omega
  ·split <;> omega
theorem cmpF_neg (a b:Fact):cmpF b a=- cmpF a b:=by
 unfold cmpF
 rw [cmpI_neg a.c,cmpI_neg a.kind,cmpI_neg a.who,cmpB_neg a.text]
 repeat' split
 all_goals omega
theorem cmpF_lt {a b:Fact}:cmpF a b<0↔LtF a b:=by
 have hI:∀{x y:Int},cmpI x y<0↔x<y:=fun {x y}=>by unfold cmpI;split <;> (try split) <;> omega
 have hB:∀{x y:ByteArray},cmpB x y<0↔x.toList<y.toList:=fun {x y}=>by
  rw [← less_iff];unfold cmpB;split
  ·simp_all
  ·split <;> simp_all
 unfold cmpF LtF
 rw [← hI (x:=a.c),← hI (x:=a.kind),← hI (x:=a.who),← hB,← cmpI_zero (a:=a.c),← cmpI_zero (a:=a.kind),← cmpI_zero (a:=a.who)]
 split
 ·omega
 ·split
  ·omega
  ·split <;> omega
theorem LtF.trans {a b c:Fact} (h1:LtF a b) (h2:LtF b c):LtF a c:=by
 unfold LtF at *
 rcases h1 with h1 | ⟨e1,h1⟩
 ·left;omega
 rcases h2 with h2 | ⟨e2,h2⟩
 ·left;omega
 refine .inr ⟨by omega,?_⟩
 rcases h1 with h1 | ⟨e1,h1⟩
 ·left;omega
 rcases h2 with h2 | ⟨e2,h2⟩
 ·left;omega
 refine .inr ⟨by omega,?_⟩
 rcases h1 with h1 | ⟨e1,h1⟩
 ·left;omega
 rcases h2 with h2 | ⟨e2,h2⟩
 ·left;omega
 exact .inr ⟨by omega,List.lt_trans h1 h2⟩
theorem LtF.irrefl (a:Fact):¬ LtF a a:=fun h=>by
 have:=cmpF_lt.2 h
 rw [cmpF_zero.2 rfl] at this;omega
theorem LtF.tri (a b:Fact):LtF a b∨a=b∨LtF b a:=by
 rw [← cmpF_lt,← cmpF_lt,← cmpF_zero,cmpF_neg a b];omega
theorem swoF:Go.Sort.SWO (Go.Proofs.ltOf cmpF) where
 irrefl x:=by unfold Go.Proofs.ltOf;simp [cmpF_zero.2]
 trans x y z h1 h2:=by
  unfold Go.Proofs.ltOf at *
  simp only [decide_eq_true_eq,cmpF_lt] at *
  exact h1.trans h2
 ntrans x y z h1 h2:=by
  unfold Go.Proofs.ltOf at *
  simp only [decide_eq_false_iff_not,cmpF_lt] at *
  intro h
  rcases LtF.tri x y with h3 | rfl | h3
  ·exact h1 h3
  ·exact h2 h
  ·exact h2 (h3.trans h)
def compT (a:Fact):List Fact→List Fact
 | []=>[]
 | b :: l=>if a=b then compT b l else b :: compT b l
def compF:List Fact→List Fact
 | []=>[]
 | a :: l=>a :: compT a l
theorem mem_compT {x:Fact}:∀{l:List Fact} {a:Fact},(x=a∨x∈compT a l)↔(x=a∨x∈l)
 | [],_=>by simp [compT]
 | b :: l,a=>by
  have h:=mem_compT (x:=x) (l:=l) (a:=b)
  unfold compT
  split
  ·rename_i e;subst e;rw [h];simp
  ·simp only [List.mem_cons,h]
theorem mem_compF {l:List Fact} {x:Fact}:x∈compF l↔x∈l:=by
 cases l with
 | nil=>simp [compF]
 | cons a l=>simp only [compF,List.mem_cons];exact mem_compT
theorem compT_len (a:Fact) (l:List Fact):(compT a l).length≤l.length:=by
 induction l generalizing a with
 | nil=>simp [compT]
 | cons b l ih =>
  have:=ih b
  unfold compT
  split <;> simp only [List.length_cons] <;> omega
theorem compF_len (l:List Fact):(compF l).length≤l.length:=by
 cases l with
 | nil=>simp [compF]
 | cons a l=>have:=compT_len a l;simp only [compF,List.length_cons];omega
theorem compT_sorted:∀{l:List Fact} {a:Fact},(a :: l).Pairwise (fun a b=>¬ cmpF b a<0)→(a :: compT a l).Pairwise LtF
 | [],_,_=>by simp [compT]
 | b :: l,a,h=>by
  have h':=(List.pairwise_cons.1 h)
  unfold compT
  have hs:=compT_sorted h'.2
  split
  ·rename_i e;subst e;exact hs
  ·rename_i hne
   have hab:LtF a b:=by
    have:=h'.1 b (by simp)
    rw [cmpF_lt] at this
    rcases LtF.tri a b with h | h | h
    ·exact h
    ·exact absurd h hne
    ·exact absurd h this
   refine List.pairwise_cons.2 ⟨fun x hx=>?_,hs⟩
   rcases List.mem_cons.1 hx with rfl | hx
   ·exact hab
   ·exact hab.trans ((List.pairwise_cons.1 hs).1 x hx)
theorem compF_sorted {l:List Fact} (h:l.Pairwise (fun a b=>¬ cmpF b a<0)):(compF l).Pairwise LtF:=by
 cases l with
 | nil=>simp [compF]
 | cons a l=>exact compT_sorted h
theorem sorted_eq:∀{l m:List Fact},l.Pairwise LtF→m.Pairwise LtF→(∀x,x∈l↔x∈m)→l=m
 | [],[],_,_,_=>rfl
 | [],b :: m,_,_,h=>by have:=(h b).2 (by simp);simp at this
 | a :: l,[],_,_,h=>by have:=(h a).1 (by simp);simp at this
 | a :: l,b :: m,h1,h2,h=>by
  have p1:=List.pairwise_cons.1 h1
  have p2:=List.pairwise_cons.1 h2
  have hab:a=b:=by
   rcases List.mem_cons.1 ((h a).1 (by simp)) with e | ha
   ·exact e
   ·rcases List.mem_cons.1 ((h b).2 (by simp)) with e | hb
    ·exact e.symm
    ·exact absurd ((p1.1 b hb).trans (p2.1 a ha)) (LtF.irrefl a)
  subst hab
  congr 1
  refine sorted_eq p1.2 p2.2 fun x=>⟨fun hx=>?_,fun hx=>?_⟩
  ·rcases List.mem_cons.1 ((h x).1 (by simp [hx])) with rfl | h'
   ·exact absurd (p1.1 x hx) (LtF.irrefl x)
   ·exact h'
  ·rcases List.mem_cons.1 ((h x).2 (by simp [hx])) with rfl | h'
   ·exact absurd (p2.1 x hx) (LtF.irrefl x)
   ·exact h'
end Go.Sp
end
section
open Go Go.SE
namespace Go.Sp
def Letter.fact (l:Letter) (k who:Int):Fact:=⟨k,who,l.c,l.text⟩
def factsS (l:Letter):List Fact :=
 if l.kind=1 then (if l.fake=true then [] else [l.fact 1 l.frm])
 else if l.kind=2 then [l.fact 2 l.frm]
 else if l.kind=3 then [l.fact 3 0]
 else if l.kind=4 then l.fact 4 l.frm :: (if l.fake=true then [] else [l.fact 1 0,l.fact 1 1])
 else if l.kind=5 then [l.fact 5 2]
 else if l.kind=6 then [l.fact 6 2,l.fact 2 0,l.fact 2 1]
 else []
def ofR (r:Letter×Bool):List Fact:=if r.2=true then factsS r.1 else []
def ofS (L:Pool) (t:Int):List Fact:=ofR (read L t)
def whyF (who c:Int) (x:ByteArray):Int→List Fact→Int
 | d,[]=>d
 | d,f :: fs=>if f.kind≠2 then whyF who c x d fs else if f.who=who∧f.c=c∧f.text=x then 0
  else if f.who≠who then whyF who c x (if 3>d then 3 else d) fs
  else if f.c≠c then whyF who c x (if 4>d then 4 else d) fs
  else whyF who c x (if 5>d then 5 else d) fs
def whyS (L:Pool) (t who c:Int) (x:ByteArray):Int:=if (read L t).2=true then whyF who c x 2 (factsS (read L t).1) else 1
def bothS (L:Pool) (a b:Int):Letter×Bool×Int :=
 if sizeOf L a=0∨sizeOf L b=0 then (noLetter,false,51)
 else if (read L a).1.kind≠1∨(read L b).1.kind≠1 then (noLetter,false,120)
 else ((read L a).1,(read L a).1.fake || (read L b).1.fake,if (read L a).1.frm≠0∨(read L b).1.frm≠1∨(read L a).1.c≠(read L b).1.c∨(read L a).1.text≠(read L b).1.text then 122 else 0)
end Go.Sp
namespace Go.SE
theorem Rws.lit {w w':World} {p:Addr} {cs:Array Value} {e:TypeId} {sz:Nat} {rs:List (List Value)} (hn:New w (.cells cs e) p w') (hc:cs.toList=rs.flatten) (hl:∀r∈rs,r.length=sz) (hm:rs.length≤maxLen):Rws w' e sz ⟨some p,rs.length,rs.length⟩ rs:=by
 obtain ⟨hp,hw⟩:=hn
 have hsz:cs.size=rs.length*sz:=by rw [← flatten_len hl,← hc,Array.length_toList]
 refine ⟨hl,rfl,.inr ⟨w.heap.size,cs,by rw [hp],?_,Nat.le_refl _,hm,hsz,?_⟩⟩
 ·rw [hw];exact heap_alloc_new w _
 ·rw [hc,List.take_of_length_le (by rw [flatten_len hl];exact Nat.le_refl _)]
end Go.SE
namespace Go.Proofs
open Tryz
attribute [local irreducible] Calls
def frow (f:Sp.Fact):List Value:=[.int .i64 f.kind,.int .i64 f.who,.int .u64 f.c,.string f.text]
theorem frow_sz (fs:List Sp.Fact):∀q∈fs.map frow,q.length=4:=by intro q hq;obtain ⟨t,_,rfl⟩:=List.mem_map.1 hq;rfl
theorem frow_one (fs:List Sp.Fact):∀q∈fs.map frow,q.all oneCell=true:=by intro q hq;obtain ⟨t,_,rfl⟩:=List.mem_map.1 hq;rfl
theorem slT_fact:SlType prog 71 75 4 40:=by
 refine ⟨underlying71,⟨t75,_,by kernel_rfl,(by kernel_rfl:t75.zero=some (.agg #[.int .i64 0,.int .i64 0,.int .u64 0,.string ⟨#[]⟩])),by kernel_rfl,by kernel_rfl,rfl⟩,by omega⟩
theorem c_ev_fact (l : Sp.Letter) (k who : Int) (p : Addr) (w0 : World) (hB : Box w0 p [.int .i64 l.kind, .int .i64 l.frm, .int .u64 l.c, .string l.text, .bool l.fake] 35) :
  Calls prog 162 #[.int .i64 k,.int .i64 who,.pointer (some p)] w0 (fun e w'=>e=.returned (.agg #[.int .i64 k,.int .i64 who,.int .u64 l.c,.string l.text])∧Pure w0 w'):=by
 refine (w_L3 k who p w0 (fun a b c x w'=>a=k∧b=who∧c=l.c∧x=l.text∧Pure w0 w') ?_).mono ?_
 ·unfold m_L3
  intro H1 w1 hs1
  have b1:=hB.pure hs1.first
  exact ⟨_,b1.cell (i:=2) rfl,_,b1.cell (i:=3) rfl,fun w2 hs2=>⟨rfl,rfl,rfl,rfl,hs1.first.hst hs2⟩⟩
 ·rintro _ w' ⟨_,_,_,_,rfl,rfl,rfl,rfl,rfl,E⟩
  exact ⟨rfl,E⟩
theorem c_ev_facts (l : Sp.Letter) (w0 : World) :
  Calls prog 94 #[.agg #[.int .i64 l.kind,.int .i64 l.frm,.int .u64 l.c,.string l.text,.bool l.fake]] w0 (fun e w'=>∃s:Sl,e=.returned s.v∧RetO w0 75 4 ((Sp.factsS l).map frow) s w'):=by
 suffices key:∀K:Sl→WP,(∀s w',RetO w0 75 4 ((Sp.factsS l).map frow) s w'→K s w')→m_C2 l.kind l.frm l.c l.text l.fake w0 K from
  w_C2 _ _ _ _ _ w0 _ (key _ (fun _ _ h=>h))
 intro K hK
 unfold m_C2
 intro p w1 h1
 have E1:Pure w0 w1:=Ext.new h1
 have b1:=Box.of_new h1
 clear h1
 have hnil:∀w',Pure w0 w'→Sp.factsS l=[]→K Sl.nil w':=fun w' E h=>hK _ _ (by
  rw [h];exact ⟨Rws.nil _ _ _,fun b h=>(by obtain ⟨a,h,_⟩:=h;cases h),E⟩)
 have lit:∀{w2 w3:World} {p2:Addr} {cs:Array Value} (fs:List Sp.Fact) (n:Nat),Pure w0 w2→New w2 (.cells cs 75) p2 w3→cs.toList=(fs.map frow).flatten→fs.length=n→n≤3→Sp.factsS l=fs→K ⟨some p2,n,n⟩ w3:=by
  intro w2 w3 p2 cs fs n E hn hc hl hm he
  have R:=Rws.lit (sz:=4) hn hc (frow_sz fs) (by simp [maxLen];omega)
  rw [List.length_map,hl] at R
  refine hK _ _ ⟨by rw [he];exact R,fun b hb=>?_,E.trans (Ext.new hn)⟩
  obtain ⟨a,ha,rfl⟩:=hb
  cases ha
  exact New.own E hn
 have one : ∀ k who : Int, Sp.factsS l = [l.fact k who] → Calls prog 162 #[.int .i64 k, .int .i64 who, .pointer (some p)] w1 (fun e w2 => ∃ rKind1 : Int, ∃ rWho1 : Int, ∃ rC1 : Int, ∃ rText1 : ByteArray, e = .returned (.agg #[.int .i64 rKind1, .int .i64 rWho1, .int .u64 rC1, .string rText1]) ∧
   ∀(p2:Addr) (w3:World),New w2 (.cells #[.int .i64 rKind1,.int .i64 rWho1,.int .u64 rC1,.string rText1] 75) p2 w3→K (Sl.mk (some p2) 1 1) w3):=by
  intro k who he
  refine (c_ev_fact l k who p w1 b1).mono ?_
  rintro _ w2 ⟨rfl,E2⟩
  exact ⟨_,_,_,_,rfl,fun p2 w3 h3=>lit [l.fact k who] 1 (E1.trans E2) h3 rfl rfl (by omega) he⟩
 refine ⟨_,b1.cell0,fun hk=>?_,fun hk=>⟨fun hk2=>?_,fun hk2=>⟨fun hk3=>?_,fun hk3=>⟨fun hk4=>?_,fun hk4=>⟨fun hk5=>?_,fun hk5=>⟨fun hk6=>?_,fun hk6=>?_⟩⟩⟩⟩⟩⟩
 ·have hk:l.kind=1:=by simpa using hk
  refine ⟨_,b1.cell (i:=4) rfl,fun hf=>hnil w1 E1 (by simp [Sp.factsS,hk,hf]),fun hf=>⟨_,b1.cell (i:=1) rfl,one 1 l.frm (by simp [Sp.factsS,hk,hf])⟩⟩
 ·have hk2:l.kind=2:=by simpa using hk2
  exact ⟨_,b1.cell (i:=1) rfl,one 2 l.frm (by simp [Sp.factsS,hk2])⟩
 ·have hk3:l.kind=3:=by simpa using hk3
  exact one 3 0 (by simp [Sp.factsS,hk3])
 ·have hk4:l.kind=4:=by simpa using hk4
  refine ⟨_,b1.cell (i:=1) rfl,(c_ev_fact l 4 l.frm p w1 b1).mono ?_⟩
  rintro _ w2 ⟨rfl,E2⟩
  refine ⟨_,_,_,_,rfl,fun p2 w3 h3=>?_⟩
  have E3:Pure w2 w3:=Ext.new h3
  have b3:=b1.pure (E2.trans E3)
  refine ⟨_,b3.cell (i:=4) rfl,fun hf=>?_,fun hf=>lit [l.fact 4 l.frm] 1 (E1.trans E2) h3 rfl rfl (by omega) (by simp at hf;simp [Sp.factsS,hk4,hf])⟩
  refine (c_ev_fact l 1 0 p w3 b3).mono ?_
  rintro _ w4 ⟨rfl,E4⟩
  refine ⟨_,_,_,_,rfl,(c_ev_fact l 1 1 p w4 (b3.pure E4)).mono ?_⟩
  rintro _ w5 ⟨rfl,E5⟩
  refine ⟨_,_,_,_,rfl,fun p6 w6 h6=>?_⟩
  have E6:Pure w5 w6:=Ext.new h6
  have R1:Rws w3 75 4 ⟨some p2,1,1⟩ [frow (l.fact 4 l.frm)]:=Rws.lit h3 rfl (frow_sz [l.fact 4 l.frm]) (by simp [maxLen])
  have R2:Rws w6 75 4 ⟨some p6,2,2⟩ [frow (l.fact 1 0),frow (l.fact 1 1)]:=Rws.lit h6 rfl (frow_sz [l.fact 1 0,l.fact 1 1]) (by simp [maxLen])
  obtain ⟨s,w7,hr,hR,hE,hb⟩:=(R1.pure ((E4.trans E5).trans E6)).appendL (P:=prog) slT_fact (ty:=71) R2.lst (frow_sz [l.fact 1 0,l.fact 1 1]) (frow_one [l.fact 1 0,l.fact 1 1]) (by simp) (by simp [maxLen])
  have E06:Pure w0 w6:=((((E1.trans E2).trans E3).trans E4).trans E5).trans E6
  have hp2:w0.heap.size≤p2.block:=New.own (E1.trans E2) h3
  have hs1:∀b,(Sl.mk (some p2) 1 1).blk b→w0.heap.size≤b:=by
   rintro b ⟨a,ha,rfl⟩;cases ha;exact hp2
  refine ⟨s,w7,hr,hK _ _ ⟨?_,fun b h=>(hb b h).elim (hs1 b) (fun h=>by have:=E06.size;omega),E06.trans' hE (fun i hi h=>by have:=hs1 i h;omega)⟩⟩
  have hf:l.fake=false:=by simpa using hf
  have e:Sp.factsS l=[l.fact 4 l.frm]++[l.fact 1 0,l.fact 1 1]:=by simp [Sp.factsS,hk4,hf]
  rw [e];exact hR
 ·have hk5:l.kind=5:=by simpa using hk5
  exact one 5 2 (by simp [Sp.factsS,hk5])
 ·have hk6:l.kind=6:=by simpa using hk6
  refine (c_ev_fact l 6 2 p w1 b1).mono ?_
  rintro _ w2 ⟨rfl,E2⟩
  refine ⟨_,_,_,_,rfl,(c_ev_fact l 2 0 p w2 (b1.pure E2)).mono ?_⟩
  rintro _ w3 ⟨rfl,E3⟩
  refine ⟨_,_,_,_,rfl,(c_ev_fact l 2 1 p w3 (b1.pure (E2.trans E3))).mono ?_⟩
  rintro _ w4 ⟨rfl,E4⟩
  exact ⟨_,_,_,_,rfl,fun p5 w5 h5=>lit [l.fact 6 2,l.fact 2 0,l.fact 2 1] 3 (((E1.trans E2).trans E3).trans E4) h5 rfl rfl (by omega) (by simp [Sp.factsS,hk6])⟩
 ·refine hnil w1 E1 ?_
  simp at hk hk2 hk3 hk4 hk5 hk6
  simp [Sp.factsS,hk,hk2,hk3,hk4,hk5,hk6]
theorem c_ev_Of (p : Option Addr) (t : Int) (w0 : World) {L : Sp.Pool} {F : NP} (hP : PoolN w0 p L F) (hok : Sp.Ok L) :
  Calls prog 34 #[.pointer p,.int .i64 t] w0 (fun e w'=>∃s:Sl,e=.returned s.v∧RetO w0 75 4 ((Sp.ofS L t).map frow) s w'):=by
 refine w_H3 _ _ w0 (fun s w'=>RetO w0 75 4 ((Sp.ofS L t).map frow) s w') ?_
 unfold m_H3
 refine (c_letter_ReadN p t w0 hP hok).mono ?_
 rintro _ w1 ⟨k,f,c,x,fk,ok,rfl,hrd,E1⟩
 have e:Sp.ofS L t=Sp.ofR (⟨k,f,c,x,fk⟩,ok):=by unfold Sp.ofS;rw [← hrd]
 refine ⟨k,f,c,x,fk,ok,rfl,E1.keptP,fun h H w3 hs=>?_,fun h H w3 hs=>?_⟩
 ·have h:ok=false:=by simpa using h
  rw [e,h]
  exact ⟨Rws.nil _ _ _,fun b h=>(by obtain ⟨a,h,_⟩:=h;cases h),E1.hst hs⟩
 ·have h:ok=true:=by simpa using h
  refine (c_ev_facts ⟨k,f,c,x,fk⟩ w3).mono ?_
  rintro _ w4 ⟨s,rfl,hr⟩
  refine ⟨s,rfl,hr.kept,?_⟩
  rw [e,h]
  exact ⟨hr.rows,fun b hb=>by have:=hr.own b hb;have:=(E1.hst hs).size;omega,(E1.hst hs).trans hr.pure⟩
theorem c_ev_Why (p : Option Addr) (t who c : Int) (x : ByteArray) (w0 : World) {L : Sp.Pool} {F : NP} (hP : PoolN w0 p L F) (hok : Sp.Ok L) :
  Calls prog 35 #[.pointer p,.int .i64 t,.int .i64 who,.int .u64 c,.string x] w0 (fun e w'=>∃r:Int,e=.returned (.int .i64 r)∧(r=Sp.whyS L t who c x∧Pure w0 w')):=by
 suffices key:∀K:Int→WP,(∀w',Pure w0 w'→K (Sp.whyS L t who c x) w')→m_I1 p t who c x w0 K from
  w_I1 _ _ _ _ _ w0 _ (key _ (fun _ h=>⟨rfl,h⟩))
 intro K hK
 unfold m_I1
 refine (c_letter_ReadN p t w0 hP hok).mono ?_
 rintro _ w1 ⟨k,f,c1,x1,fk,ok,rfl,hrd,E1⟩
 have e:Sp.whyS L t who c x=if ok=true then Sp.whyF who c x 2 (Sp.factsS ⟨k,f,c1,x1,fk⟩) else 1:=by unfold Sp.whyS;rw [← hrd]
 rw [e] at hK
 refine ⟨k,f,c1,x1,fk,ok,rfl,E1.keptP,fun h H w3 hs=>?_,fun h H w3 hs=>?_⟩
 ·have h:ok=false:=by simpa using h
  rw [h] at hK
  exact hK w3 (E1.hst hs)
 have h:ok=true:=by simpa using h
 rw [h,if_pos rfl] at hK
 refine (c_ev_facts ⟨k,f,c1,x1,fk⟩ w3).mono ?_
 rintro _ w4 ⟨s,rfl,hr⟩
 have hfl:(Sp.factsS ⟨k,f,c1,x1,fk⟩).length≤3:=by
  unfold Sp.factsS;repeat' split
  all_goals simp
 generalize Sp.factsS ⟨k,f,c1,x1,fk⟩=fs at *
 have O4:Own H w4 75 4 s (fs.map frow):=⟨hr.rows,fun b hb hH=>by have:=hr.own b hb;have:=hs.lt b hH;omega⟩
 have E4:=(E1.hst hs).trans hr.pure
 have hl:s.len=fs.length:=by rw [O4.len];simp
 refine ⟨s,rfl,hr.kept,fun d i H' w'=>∃j:Nat,i=j∧j≤fs.length∧Pure w0 w'∧Own H' w' 75 4 s (fs.map frow)∧Sp.whyF who c x 2 fs=Sp.whyF who c x d (fs.drop j),fun _ i _=>((fs.length:Int) - i).toNat,⟨0,rfl,Nat.zero_le _,E4,O4,rfl⟩,?_⟩
 rintro d _ Hl wl hl' ⟨j,rfl,hj,El,Ol,hw⟩
 unfold m_I1_l1
 refine ⟨fun h=>?_,fun h=>?_⟩
 ·have hlt:=lt_of_dec hl h
  obtain ⟨a,hat,hrow⟩:=Ol.nth hlt
  rw [List.drop_eq_getElem_cons hlt,Sp.whyF] at hw
  generalize fs[j]=g at *
  refine ⟨a,hat,_,_,_,_,hrow,?_⟩
  have go:∀(d':Int) (H3:NP) (w8:World),Hst w0 Hl wl H3 w8→Sp.whyF who c x 2 fs=Sp.whyF who c x d' (fs.drop (j+1))→(∃j':Nat,IntKind.i64.wrap ((j:Int)+1)=j'∧j'≤fs.length∧Pure w0 w8∧Own H3 w8 75 4 s (fs.map frow)∧Sp.whyF who c x 2 fs=Sp.whyF who c x d' (fs.drop j'))∧((fs.length:Int) - IntKind.i64.wrap ((j:Int)+1)).toNat<((fs.length:Int) - (j:Int)).toNat:=by
   intro d' H3 w8 hs8 h'
   rw [wrap_succ hlt (by omega)]
   exact ⟨⟨j+1,rfl,hlt,El.hst hs8,Ol.hst hs8,h'⟩,lt_dec hlt⟩
  refine ⟨fun h2 H3 w8 hs8=>go d H3 w8 hs8 ?_,fun h2=>⟨fun h3 H3 w8 hs8=>?_,fun h3=>⟨fun h4 H3 w8 hs8=>⟨_,run_max_int2 _ _ _ _ _ _ _,go _ H3 w8 hs8 ?_⟩,fun h4=>⟨fun h5 H3 w8 hs8=>⟨_,run_max_int2 _ _ _ _ _ _ _,go _ H3 w8 hs8 ?_⟩,fun h5 H3 w8 hs8=>⟨_,run_max_int2 _ _ _ _ _ _ _,go _ H3 w8 hs8 ?_⟩⟩⟩⟩⟩
  ·rw [hw,if_pos (bne_iff_ne.1 h2)]
  ·have h2:g.kind=2:=by simpa using h2
   simp at h3
   rw [hw,if_neg (by simp [h2]),if_pos h3.2] at hK
   exact hK w8 (El.hst hs8)
  all_goals
   have h2:g.kind=2:=by simpa using h2
   have h3:¬ (g.who=who∧g.c=c∧g.text=x):=by simpa [h2] using h3
   rw [hw,if_neg (by simp [h2]),if_neg h3]
  ·rw [if_pos (bne_iff_ne.1 h4)]
  ·have h4:g.who=who:=by simpa using h4
   rw [if_neg (by simp [h4]),if_pos (bne_iff_ne.1 h5)]
  ·have h4:g.who=who:=by simpa using h4
   have h5:g.c=c:=by simpa using h5
   rw [if_neg (by simp [h4]),if_neg (by simp [h5])]
 ·have hge:=eq_of_dec hl hj h
  subst hge
  rw [List.drop_length,Sp.whyF] at hw
  rw [hw] at hK
  exact hK wl El
theorem c_ev_both (p : Addr) (a b : Int) (w0 : World) {L : Sp.Pool} {F : NP} (hP : PoolAt w0 p L F) (hok : Sp.Ok L) :
  Calls prog 90 #[.pointer (some p),.int .i64 a,.int .i64 b] w0 (fun e w'=>∃k f c:Int,∃x:ByteArray,∃g r:Bool,∃r2:Int,e=.returned (.tuple #[.agg #[.int .i64 k,.int .i64 f,.int .u64 c,.string x,.bool g],.bool r,.int .i64 r2])∧(((⟨k,f,c,x,g⟩:Sp.Letter),r,r2)=Sp.bothS L a b∧Pure w0 w')):=by
 suffices key:∀K:Int→Int→Int→ByteArray→Bool→Bool→Int→WP,(∀k f c x g r r2 w',((⟨k,f,c,x,g⟩:Sp.Letter),r,r2)=Sp.bothS L a b→Pure w0 w'→K k f c x g r r2 w')→m_X (some p) a b w0 K from
  w_X _ _ _ w0 _ (key _ (fun _ _ _ _ _ _ _ _ h E=>⟨h,E⟩))
 intro K hK
 unfold m_X
 refine Br.f rfl ?_
 intro H1 w1 hs1
 have E1:Pure w0 w1:=hs1.first
 have J:∀z:Bool,(z=true↔Sp.sizeOf L a=0∨Sp.sizeOf L b=0)→m_X_j1 (some p) a b z w0 H1 w1 K:=by
  intro z hz
  unfold m_X_j1
  refine ⟨fun h w3 hs3=>hK _ _ _ _ _ _ _ _ ?_ (E1.hst hs3),fun h=>?_⟩
  ·unfold Sp.bothS;rw [if_pos (hz.1 h)];rfl
  have hn:¬ (Sp.sizeOf L a=0∨Sp.sizeOf L b=0):=fun h'=>by rw [hz.2 h'] at h;cases h
  refine (c_letter_Read p a w1 (hP.pure E1) hok).mono ?_
  rintro _ w4 ⟨k,f,c,x,g,ok,rfl,hrd,E4⟩
  refine ⟨k,f,c,x,g,ok,rfl,E4.keptP,fun H2 w6 hs6=>?_⟩
  have E6:=(E1.trans E4).hst hs6
  refine (c_letter_Read p b w6 (hP.pure E6) hok).mono ?_
  rintro _ w7 ⟨k2,f2,c2,x2,g2,ok2,rfl,hrd2,E7⟩
  have e1:(Sp.read L a).1=⟨k,f,c,x,g⟩:=(congrArg Prod.fst hrd).symm
  have e2:(Sp.read L b).1=⟨k2,f2,c2,x2,g2⟩:=(congrArg Prod.fst hrd2).symm
  have E67:=E6.trans E7
  refine ⟨k2,f2,c2,x2,g2,ok2,rfl,E7.keptP,fun h2 H4 w11 hs11=>hK _ _ _ _ _ _ _ _ ?_ (E67.hst hs11),fun h2 y hy=>?_⟩
  ·rw [Bool.or_eq_true] at h2
   unfold Sp.bothS;rw [if_neg hn,e1,e2,if_pos (h2.imp bne_iff_ne.1 bne_iff_ne.1)];rfl
  rw [Bool.or_eq_false_iff] at h2
  have hb:¬ (k≠1∨k2≠1):=by simpa using h2
  refine ⟨fun h3 H10 w20 hs20=>hK _ _ _ _ _ _ _ _ ?_ (E67.hst hs20),fun h3 H10 w21 hs21=>hK _ _ _ _ _ _ _ _ ?_ (E67.hst hs21)⟩
  all_goals
   unfold Sp.bothS
   rw [if_neg hn,e1,e2,if_neg hb]
  ·rw [if_pos]
   rw [h3] at hy
   simp at hy
   rcases hy with (((h | h) | h) | h)
   ·exact .inl h
   ·exact .inr (.inl h)
   ·exact .inr (.inr (.inl h))
   ·exact .inr (.inr (.inr h))
  ·rw [if_neg]
   rw [h3] at hy
   simp at hy
   rintro (h | h | h | h)
   ·exact h hy.1.1.1
   ·exact h hy.1.1.2
   ·exact h hy.1.2
   ·exact h hy.2
 refine (c_Size p a w1 (hP.pure E1) hok).mono ?_
 rintro _ w2 ⟨_,rfl,rfl,rfl⟩
 refine ⟨_,rfl,Kept.refl _,fun h=>?_,fun h=>?_⟩
 ·exact J true ⟨fun _=>.inl (by simpa using h),fun _=>rfl⟩
 refine (c_Size p b w1 (hP.pure E1) hok).mono ?_
 rintro _ w3 ⟨_,rfl,rfl,rfl⟩
 refine ⟨_,rfl,Kept.refl _,J _ ?_⟩
 have h:¬ Sp.sizeOf L a=0:=by simpa using h
 simp [h]
end Go.Proofs
end
section
open Go Go.SE
open Go.IntKind renaming i64 → q6
namespace Go.Proofs
open Tryz
set_option maxRecDepth 100000
set_option maxHeartbeats 4000000
attribute [local irreducible] wpL wpX opE wpE Calls
theorem eqt_slices_Compact_api_Fact_api_Fact_eql_75 (a0 a1 a2:Int) (a3:ByteArray) (b0 b1 b2:Int) (b3:ByteArray) (w:World):(Go.binOp .eql 75 (.agg #[(.int .i64 a0),(.int .i64 a1),(.int .u64 a2),(.string a3)]) (.agg #[(.int .i64 b0),(.int .i64 b1),(.int .u64 b2),(.string b3)])).run prog w=.ok (.bool ((a0 == b0) && ((a1 == b1) && ((a2 == b2) && (decide (a3=b3)))))) w:=by
 simp [Go.binOp,Op.equal,Op.maxDepth,go_sem,streq,bne]
 repeat' split
 all_goals simp_all
theorem eqt_slices_Compact_api_Fact_api_Fact_neq_75 (a0 a1 a2:Int) (a3:ByteArray) (b0 b1 b2:Int) (b3:ByteArray) (w:World):(Go.binOp .neq 75 (.agg #[(.int .i64 a0),(.int .i64 a1),(.int .u64 a2),(.string a3)]) (.agg #[(.int .i64 b0),(.int .i64 b1),(.int .u64 b2),(.string b3)])).run prog w=.ok (.bool (!((a0 == b0) && ((a1 == b1) && ((a2 == b2) && (decide (a3=b3))))))) w:=by
 simp [Go.binOp,Op.equal,Op.maxDepth,go_sem,streq,bne]
 repeat' split
 all_goals simp_all
def m_V_l2 (s1 s2:Sl) (k2 k21:Int) (w0:World) (Hl2:NP) (wl2:World) (Kc2:Int→Int→NP→WP) (K:Sl→WP):Prop :=
 Br (decide (k21<(s2.len:Int)))
  (∃a3:Addr,At s2 k21 4 a3 ∧
  ∀(w2:World),Hst w0 Hl2 wl2 Hl2 w2 →
  ∃aA aB aC:Int,∃aD:ByteArray,Row w2 a3 [(vi aA),(vi aB),(vu aC),(vs aD)] ∧
  ∃a4:Addr,At s2 (q6.wrap (k21 - 1)) 4 a4 ∧
  ∃aE aF aG:Int,∃aH:ByteArray,Row w2 a4 [(vi aE),(vi aF),(vu aG),(vs aH)] ∧
  Br (!((aA == aE) && ((aB == aF) && ((aC == aG) && (decide (aD=aH))))))
   (∃a5:Addr,At s2 k21 4 a5 ∧
   ∃aQ aR aS:Int,∃aT:ByteArray,Row w2 a5 [(vi aQ),(vi aR),(vu aS),(vs aT)] ∧
   ∃a6:Addr,At s1 k2 4 a6 ∧
   (∀j,j<4→CanW w2 (a6.add j))∧¬ Hl2 a6.block∧∀w3:World,w3=storeRow w2 a6 [(vi aQ),(vi aR),(vu aS),(vs aT)] →
   Kc2 (q6.wrap (k2+1)) (q6.wrap (k21+1)) Hl2 w3)
   (Kc2 k2 (q6.wrap (k21+1)) Hl2 w2))
  (∃s3:Sl,(Instr.sliceAt 71 s1.v (some (vi k2)) none none).run prog wl2=.ok s3.v wl2 ∧
  ∃w4:World,(Builtin.clear_ #[71] 0 #[s3.v]).run prog wl2=.ok (.tuple #[]) w4 ∧
  Kept Hl2 wl2 w4 ∧
  ∃s4:Sl,(Instr.sliceAt 71 s1.v none (some (vi k2)) none).run prog w4=.ok s4.v w4 ∧
  K s4 w4)
def m_V_l1 (s1:Sl) (k1:Int) (w0:World) (Hl1:NP) (wl1:World) (Kc1:Int→NP→WP) (K:Sl→WP):Prop :=
 Br (decide (k1<(s1.len:Int)))
  (∃a1:Addr,At s1 k1 4 a1 ∧
  ∀(w1:World),Hst w0 Hl1 wl1 Hl1 w1 →
  ∃aI aJ aK:Int,∃aL:ByteArray,Row w1 a1 [(vi aI),(vi aJ),(vu aK),(vs aL)] ∧
  ∃a2:Addr,At s1 (q6.wrap (k1 - 1)) 4 a2 ∧
  ∃aM aN aO:Int,∃aP:ByteArray,Row w1 a2 [(vi aM),(vi aN),(vu aO),(vs aP)] ∧
  Br ((aI == aM) && ((aJ == aN) && ((aK == aO) && (decide (aL=aP)))))
   (∃s2:Sl,(Instr.sliceAt 71 s1.v (some (vi k1)) none none).run prog w1=.ok s2.v w1 ∧
   ∃(I2:Int→Int→NP→WP) (mu2:Int→Int→World→Nat),I2 k1 1 Hl1 w1 ∧
    ∀(k2 k21:Int) (Hl2:NP) (wl2:World),Hst w0 Hl2 wl2 Hl2 wl2→I2 k2 k21 Hl2 wl2→m_V_l2 s1 s2 k2 k21 w0 Hl2 wl2 (fun y'0 y'1 H' w'=>I2 y'0 y'1 H' w'∧mu2 y'0 y'1 w'<mu2 k2 k21 wl2) K)
   (Kc1 (q6.wrap (k1+1)) Hl1 w1))
  (K s1 wl1)
def m_V (s1:Sl) (w0:World) (K:Sl→WP):Prop :=
 Br (decide ((s1.len:Int)<2))
  (K s1 w0)
  (∃(I1:Int→NP→WP) (mu1:Int→World→Nat),I1 1 None w0 ∧
   ∀(k1:Int) (Hl1:NP) (wl1:World),Hst w0 Hl1 wl1 Hl1 wl1→I1 k1 Hl1 wl1→m_V_l1 s1 k1 w0 Hl1 wl1 (fun y'0 H' w'=>I1 y'0 H' w'∧mu1 y'0 w'<mu1 k1 wl1) K)
theorem w_V (s1 : Sl) (w0 : World) (K : Sl → WP) (h : m_V s1 w0 K) :
  Calls prog 82 #[s1.v] w0 (fun e w'=>∃r1:Sl,e=.returned r1.v∧K r1 w'):=by
 unfold m_V at h
 refine cw (args:=[s1.v]) func82 ntmps82 ?_
 have hs:=Hst.start w0
 have hb:=HB.nil None w0
 refine eg (q0 Sl.nil.v (ln (wpE_seq (eg (q0 s1.v (q0 (vi (s1.len:Int)) (q0 (vb (decide ((s1.len:Int)<2))) (wpL_nil ?_))))))))
 refine th_n ?_
 refine wpE_cond (t:=(decide ((s1.len:Int)<2))) (by kernel_rfl) (fun hc1=>?_) (fun hc1=>?_)
 have h:=h.1 hc1
 refine eg (q0 s1.v (q0 s1.v (ln (er (th_r (rs1 results82 (v:=s1.v) ?_))))))
 exact ⟨s1,rfl,h⟩
 have h:=h.2 hc1
 refine wpE_skip (th_n (wpE_seq (eg (q0 (vi 1) (ln (wpE_block ?_))))))
 obtain ⟨I1,mu1,h0,hr⟩:=h
 refine wpE_loop (σ:=Int×NP×World) (fun s ρ w=>w=s.2.2∧Has ρ [(0,s1.v),(3,(vi s.1))]∧Hst w0 s.2.1 w s.2.1 w∧HB s.2.1 w []∧I1 s.1 s.2.1 s.2.2) (fun s=>mu1 s.1 s.2.2) (1,None,w0) ⟨rfl,hm,hs,hb,h0⟩ ?_
 rintro ⟨k1,Hl1,wl1⟩ ρ w ⟨hw,hH,hs,hb,hI⟩
 obtain rfl:wl1=w:=(show w=wl1 from hw).symm
 have hH:Has ρ [(0,s1.v),(3,(vi k1))]:=hH
 have hs:Hst w0 Hl1 wl1 Hl1 wl1:=hs
 have hb:HB Hl1 wl1 []:=hb
 have h:=hr k1 Hl1 wl1 hs hI
 unfold m_V_l1 at h
 refine wpE_has hH ?_
 refine wpE_seq (eg (q0 (vi k1) (q0 s1.v (q0 (vi (s1.len:Int)) (q0 (vb (decide (k1<(s1.len:Int)))) (ln ?_))))))
 refine wpE_cond (t:=(decide (k1<(s1.len:Int)))) (by kernel_rfl) (fun hc2=>?_) (fun hc2=>?_)
 have h:=h.1 hc2
 refine wpE_skip (th_n (wpE_seq (wpE_block (wpE_seq (wpE_drawnQ (by kernel_rfl) (by kernel_rfl) (by kernel_rfl) (by kernel_rfl) ?_)))))
 intro w1 hw1
 have hs:Hst w0 Hl1 wl1 Hl1 w1:=by rw [hw1];exact hs.drew
 have hb:HB Hl1 w1 []:=by rw [hw1];exact hb.drew
 refine qq 0 s1.v Kp0 (qq 1 (vi k1) Kp1 (qg 2 ?_))
 obtain ⟨a1,hv15,h⟩:=h
 refine sxQ (v:=(vp (some a1))) Kp2 (want0 rfl) rfl (xi (runUnderlying71 _) (sizeOf75 _) hv15) (qg 3 ?_)
 have h:=h w1 hs
 have hs:=hs.here
 obtain ⟨aI,aJ,aK,aL,hv14,h⟩:=h
 refine sxQ (v:=(.agg #[(vi aI),(vi aJ),(vu aK),(vs aL)])) Kp3 (want0 rfl) rfl (xa a1 [(vi aI),(vi aJ),(vu aK),(vs aL)] (isAgg75 _) (sizeOf75 _) hv14) (qq 4 s1.v Kp4 (qq 5 (vi k1) Kp5 (qq 6 (vi (q6.wrap (k1 - 1))) Kp6 (qg 7 ?_))))
 obtain ⟨a2,hv13,h⟩:=h
 refine sxQ (v:=(vp (some a2))) Kp7 (want0 rfl) rfl (xi (runUnderlying71 _) (sizeOf75 _) hv13) (qg 8 ?_)
 obtain ⟨aM,aN,aO,aP,hv12,h⟩:=h
 refine sxQ (v:=(.agg #[(vi aM),(vi aN),(vu aO),(vs aP)])) Kp8 (want0 rfl) rfl (xa a2 [(vi aM),(vi aN),(vu aO),(vs aP)] (isAgg75 _) (sizeOf75 _) hv12) (qr 9 (vb ((aI == aM) && ((aJ == aN) && ((aK == aO) && (decide (aL=aP)))))) Kp9 (x_aggeq (by kernel_rfl) (by kernel_rfl) (by kernel_rfl) (eqt_slices_Compact_api_Fact_api_Fact_eql_75 aI aJ aK aL aM aN aO aP _)) (wn (th_n ?_)))
 refine wpE_cond (t:=((aI == aM) && ((aJ == aN) && ((aK == aO) && (decide (aL=aP)))))) (by kernel_rfl) (fun hc3=>?_) (fun hc3=>?_)
 have h:=h.1 hc3
 refine eg (q0 s1.v (q0 (vi k1) ?_))
 obtain ⟨s2,hv11,h⟩:=h
 refine q2 s2.v (x_slice (by kernel_rfl) (by kernel_rfl) (by kernel_rfl) (by kernel_rfl) hv11) (q0 s2.v (ln (wpE_seq (eg (q0 (vi 1) (ln (wpE_block ?_)))))))
 obtain ⟨I2,mu2,h0,hr⟩:=h
 refine wpE_loop (σ:=Int×Int×NP×World) (fun s ρ w=>w=s.2.2.2∧Has ρ [(0,s1.v),(3,(vi s.1)),(4,s2.v),(5,(vi s.2.1))]∧Hst w0 s.2.2.1 w s.2.2.1 w∧HB s.2.2.1 w []∧I2 s.1 s.2.1 s.2.2.1 s.2.2.2) (fun s=>mu2 s.1 s.2.1 s.2.2.2) (k1,1,Hl1,w1) ⟨rfl,hm,hs,hb,h0⟩ ?_
 rintro ⟨k2,k21,Hl2,wl2⟩ ρ w ⟨hw,hH,hs,hb,hI⟩
 obtain rfl:wl2=w:=(show w=wl2 from hw).symm
 have hH:Has ρ [(0,s1.v),(3,(vi k2)),(4,s2.v),(5,(vi k21))]:=hH
 have hs:Hst w0 Hl2 wl2 Hl2 wl2:=hs
 have hb:HB Hl2 wl2 []:=hb
 have h:=hr k2 k21 Hl2 wl2 hs hI
 unfold m_V_l2 at h
 refine wpE_has hH ?_
 refine wpE_seq (eg (q0 (vi k21) (q0 s2.v (q0 (vi (s2.len:Int)) (q0 (vb (decide (k21<(s2.len:Int)))) (ln ?_))))))
 refine wpE_cond (t:=(decide (k21<(s2.len:Int)))) (by kernel_rfl) (fun hc4=>?_) (fun hc4=>?_)
 have h:=h.1 hc4
 refine wpE_skip (th_n (wpE_seq (wpE_block (wpE_seq (wpE_drawnQ (by kernel_rfl) (by kernel_rfl) (by kernel_rfl) (by kernel_rfl) ?_)))))
 intro w2 hw2
 have hs:Hst w0 Hl2 wl2 Hl2 w2:=by rw [hw2];exact hs.drew
 have hb:HB Hl2 w2 []:=by rw [hw2];exact hb.drew
 refine qq 0 s2.v Kp0 (qq 1 (vi k21) Kp1 (qg 2 ?_))
 obtain ⟨a3,hv7,h⟩:=h
 refine sxQ (v:=(vp (some a3))) Kp2 (want0 rfl) rfl (xi (runUnderlying71 _) (sizeOf75 _) hv7) (qg 3 ?_)
 have h:=h w2 hs
 have hs:=hs.here
 obtain ⟨aA,aB,aC,aD,hv6,h⟩:=h
 refine sxQ (v:=(.agg #[(vi aA),(vi aB),(vu aC),(vs aD)])) Kp3 (want0 rfl) rfl (xa a3 [(vi aA),(vi aB),(vu aC),(vs aD)] (isAgg75 _) (sizeOf75 _) hv6) (qq 4 s2.v Kp4 (qq 5 (vi k21) Kp5 (qq 6 (vi (q6.wrap (k21 - 1))) Kp6 (qg 7 ?_))))
 obtain ⟨a4,hv5,h⟩:=h
 refine sxQ (v:=(vp (some a4))) Kp7 (want0 rfl) rfl (xi (runUnderlying71 _) (sizeOf75 _) hv5) (qg 8 ?_)
 obtain ⟨aE,aF,aG,aH,hv4,h⟩:=h
 refine sxQ (v:=(.agg #[(vi aE),(vi aF),(vu aG),(vs aH)])) Kp8 (want0 rfl) rfl (xa a4 [(vi aE),(vi aF),(vu aG),(vs aH)] (isAgg75 _) (sizeOf75 _) hv4) (qr 9 (vb (!((aA == aE) && ((aB == aF) && ((aC == aG) && (decide (aD=aH))))))) Kp9 (x_aggeq (by kernel_rfl) (by kernel_rfl) (by kernel_rfl) (eqt_slices_Compact_api_Fact_api_Fact_neq_75 aA aB aC aD aE aF aG aH _)) (wn (th_n ?_)))
 refine wpE_cond (t:=(!((aA == aE) && ((aB == aF) && ((aC == aG) && (decide (aD=aH))))))) (by kernel_rfl) (fun hc5=>?_) (fun hc5=>?_)
 have h:=h.1 hc5
 refine eg (q0 s1.v (q0 (vi k2) (q0 s2.v (q0 (vi k21) ?_))))
 obtain ⟨a5,hv3,h⟩:=h
 refine q2 (vp (some a5)) (xi (runUnderlying71 _) (sizeOf75 _) hv3) ?_
 obtain ⟨aQ,aR,aS,aT,hv2,h⟩:=h
 refine q2 (.agg #[(vi aQ),(vi aR),(vu aS),(vs aT)]) (xa a5 [(vi aQ),(vi aR),(vu aS),(vs aT)] (isAgg75 _) (sizeOf75 _) hv2) ?_
 obtain ⟨a6,hv1,h⟩:=h
 refine q2 (vp (some a6)) (xi (runUnderlying71 _) (sizeOf75 _) hv1) ?_
 obtain ⟨hp1,hnh,h⟩:=h
 refine ss (xo a6 [(vi aQ),(vi aR),(vu aS),(vs aT)] (sizeOf75 _) hp1) ?_
 intro w3 hn1
 have h:=h w3 hn1
 have hk:Kept Hl2 w2 w3:=by rw [hn1];exact Kept.storeRow hnh
 obtain ⟨hs,hb⟩:=hk.hh hs hb
 refine ln (rg (q0 (vi k2) (q0 (vi (q6.wrap (k2+1))) (q0 (vi (q6.wrap (k2+1))) (wpL_nil (bl_n (th_n (rg (q0 (vi k21) (q0 (vi (q6.wrap (k21+1))) ?_))))))))))
 refine q0 (vi (q6.wrap (k21+1))) (ln ?_)
 exact ⟨((q6.wrap (k2+1)),(q6.wrap (k21+1)),Hl2,w3),⟨rfl,hm,hs,hb,h.1⟩,h.2⟩
 have h:=h.2 hc5
 refine wpE_skip (bl_n (th_n (rg (q0 (vi k21) (q0 (vi (q6.wrap (k21+1))) (q0 (vi (q6.wrap (k21+1))) (ln ?_)))))))
 exact ⟨(k2,(q6.wrap (k21+1)),Hl2,w2),⟨rfl,hm,hs,hb,h.1⟩,h.2⟩
 have h:=h.2 hc4
 refine wpE_exit (th_x (th_x (bl_eq (th_n (eg (q0 s1.v (q0 (vi k2) ?_)))))))
 obtain ⟨s3,hv10,h⟩:=h
 refine q2 s3.v (x_slice (by kernel_rfl) (by kernel_rfl) (by kernel_rfl) (by kernel_rfl) hv10) ?_
 obtain ⟨w4,hv9,hk,h⟩:=h
 refine st (v:=(.tuple #[])) (want0 rfl) (x_builtin (args:=#[s3.v]) (by kernel_rfl) (fun _=>rfl) hv9) ?_
 obtain ⟨hs,hb⟩:=hk.hh hs hb
 refine ln (eg (q0 s1.v (q0 (vi k2) ?_)))
 obtain ⟨s4,hv8,h⟩:=h
 refine q2 s4.v (x_slice (by kernel_rfl) (by kernel_rfl) (by kernel_rfl) (by kernel_rfl) hv8) (q0 s4.v (ln (er (bl_r (th_r (th_r (bl_r (th_r (rs1 results82 (v:=s4.v) ?_)))))))))
 exact ⟨s4,rfl,h⟩
 have h:=h.2 hc3
 refine wpE_skip (bl_n (th_n (rg (q0 (vi k1) (q0 (vi (q6.wrap (k1+1))) (q0 (vi (q6.wrap (k1+1))) (ln ?_)))))))
 exact ⟨((q6.wrap (k1+1)),Hl1,w1),⟨rfl,hm,hs,hb,h.1⟩,h.2⟩
 have h:=h.2 hc2
 refine wpE_exit (th_x (th_x (bl_eq (th_n (eg (q0 s1.v (q0 s1.v (ln (er ?_)))))))))
 refine rs1 results82 (v:=s1.v) ?_
 exact ⟨s1,rfl,h⟩
def m_K1_l1 (vals1:Sl) (x1:Int) (wl1:World) (Kc1:Int→WP) (K:Int→WP):Prop :=
 Br (decide (x1<(vals1.len:Int)))
  (∃a1:Addr,At vals1 x1 1 a1 ∧
  ∃v1:Int,wl1.cell? a1=some (vi v1) ∧
  Br (v1 != 0)
   (K v1 wl1)
   (Kc1 (q6.wrap (x1+1)) wl1))
  (K 0 wl1)
def m_K1 (vals1:Sl) (w0:World) (K:Int→WP):Prop :=
 ∃(I1:Int→WP) (mu1:Int→World→Nat),I1 0 w0 ∧
  ∀(x1:Int) (wl1:World),I1 x1 wl1→m_K1_l1 vals1 x1 wl1 (fun y'0 w'=>I1 y'0 w'∧mu1 y'0 w'<mu1 x1 wl1) K
theorem w_K1 (vals1 : Sl) (w0 : World) (K : Int → WP) (h : m_K1 vals1 w0 K) :
  Calls prog 83 #[vals1.v] w0 (fun e w'=>∃r1:Int,e=.returned (vi r1)∧K r1 w'):=by
 unfold m_K1 at h
 refine cw (args:=[vals1.v]) func83 ntmps83 (eg (q0 (vi 0) (ln (eg (q0 (vi 0) (ln (wpE_seq ?_)))))))
 refine eg (q0 vals1.v (q0 (vi (vals1.len:Int)) (q0 (vi 0) (ln (wpE_block ?_)))))
 obtain ⟨I1,mu1,h0,hr⟩:=h
 refine wpE_loop (σ:=Int×World) (fun s ρ w=>w=s.2∧Has ρ [(3,(vi 0)),(6,vals1.v),(7,(vi (vals1.len:Int))),(8,(vi s.1))]∧I1 s.1 s.2) (fun s=>mu1 s.1 s.2) (0,w0) ⟨rfl,hm,h0⟩ ?_
 rintro ⟨x1,wl1⟩ ρ w ⟨hw,hH,hI⟩
 obtain rfl:wl1=w:=(show w=wl1 from hw).symm
 have hH:Has ρ [(3,(vi 0)),(6,vals1.v),(7,(vi (vals1.len:Int))),(8,(vi x1))]:=hH
 have h:=hr x1 wl1 hI
 unfold m_K1_l1 at h
 refine wpE_has hH ?_
 refine eg (q0 (vb (decide (x1<(vals1.len:Int)))) (ln (wpE_seq ?_)))
 refine wpE_cond (t:=(decide (x1<(vals1.len:Int)))) (by kernel_rfl) (fun hc1=>?_) (fun hc1=>?_)
 have h:=h.1 hc1
 refine wpE_skip (th_n (wpE_seq (wpE_block (eg ?_))))
 obtain ⟨a1,hv2,h⟩:=h
 refine q2 (vp (some a1)) (xi (runUnderlying42 _) (sizeOf3 _) hv2) ?_
 obtain ⟨v1,hv1,h⟩:=h
 refine q2 (vi v1) (xl (isAgg3 _) hv1) (q0 (vi v1) (ln (eg (q0 (vi v1) (q0 (vi 0) (q0 (vb (v1 != 0)) (ln ?_)))))))
 refine wpE_cond (t:=(v1 != 0)) (by kernel_rfl) (fun hc2=>?_) (fun hc2=>?_)
 have h:=h.1 hc2
 refine eg (q0 (vi v1) (q0 (vi v1) (ln (er (bl_r (th_r (th_r (bl_r (th_r ?_)))))))))
 refine rs1 results83 (v:=(vi v1)) ?_
 exact ⟨v1,rfl,h⟩
 have h:=h.2 hc2
 refine wpE_skip (bl_n (th_n (rg (q0 (vi (q6.wrap (x1+1))) (q0 (vi (q6.wrap (x1+1))) (ln ?_))))))
 exact ⟨((q6.wrap (x1+1)),wl1),⟨rfl,hm,h.1⟩,h.2⟩
 have h:=h.2 hc1
 refine wpE_exit (th_x (th_x (bl_eq (th_n (eg (q0 (vi 0) (q0 (vi 0) (ln (er ?_)))))))))
 refine rs1 results83 (v:=(vi 0)) ?_
 exact ⟨0,rfl,h⟩
def s_D2 (x1:Int):Bool :=
 (x1 != x1)
theorem pw_D2 (x1 : Int) (w0 : World) :
  Calls prog 156 #[(vu x1)] w0 (fun e w'=>(e=.returned (vb (x1 != x1)))∧Pure w0 w'):=by
 refine cw (args:=[(vu x1)]) func156 ntmps156 (eg (q0 (vb false) (ln (eg (q0 (vu x1) (q0 (vu x1) (q0 (vb (x1 != x1)) (q0 (vb (x1 != x1)) ?_))))))))
 refine ln (er (rs1 results156 (v:=(vb (x1 != x1))) ?_))
 exact ⟨by kernel_rfl,Ext.refl _⟩
theorem p_D2 (x1:Int) (w0:World):Calls prog 156 #[(.int .u64 x1)] w0 (fun e w'=>e=.returned (.bool (s_D2 x1))∧Pure w0 w'):=pw_D2 x1 w0
def s_U1 (x1 y1:Int):Int :=
 (cond (x1 != x1) (cond (y1 != y1) 0 (-1)) (cond (y1 != y1) 1 (cond (decide (x1<y1)) (-1) (cond (decide (x1>y1)) 1 0))))
theorem pw_U1 (x1 y1 : Int) (w0 : World) :
  Calls prog 84 #[(vu x1),(vu y1)] w0 (fun e w'=>∃b'0 b'1 b'2 b'3:Bool,((x1 != x1)=b'0∧(y1 != y1)=b'1∧(decide (x1<y1))=b'2∧(decide (x1>y1))=b'3)∧(e=.returned (vi (cond b'0 (cond b'1 0 (-1)) (cond b'1 1 (cond b'2 (-1) (cond b'3 1 0))))))∧Pure w0 w'):=by
 refine cw (args:=[(vu x1),(vu y1)]) func84 ntmps84 ?_
 have hs:=Hst.start w0
 have hb:=HB.nil None w0
 refine eg (q0 (vi 0) (ln (eg (q0 (vu x1) ?_))))
 refine sc call156 ((p_D2 x1 w0).mono ?_)
 rintro e w1 ⟨he,hE⟩
 refine ⟨(vb (x1 != x1)),he.trans (by kernel_rfl),?_⟩
 have hs:=hs.pure hE
 have hb:=hb.pure hE
 refine q0 (vb (x1 != x1)) (ln (eg (q0 (vu y1) ?_)))
 refine sc call156 ((p_D2 y1 w1).mono ?_)
 rintro e w2 ⟨he,hE⟩
 refine ⟨(vb (y1 != y1)),he.trans (by kernel_rfl),?_⟩
 have hs:=hs.pure hE
 have hb:=hb.pure hE
 refine q0 (vb (y1 != y1)) (ln (wpE_seq (eg (q0 (vb (x1 != x1)) (ln ?_)))))
 refine wpE_cond (t:=(x1 != x1)) (by kernel_rfl) (fun hc1=>?_) (fun hc1=>?_)
 refine wpE_seq (eg (q0 (vb (y1 != y1)) (ln ?_)))
 refine wpE_cond (t:=(y1 != y1)) (by kernel_rfl) (fun hc2=>?_) (fun hc2=>?_)
 refine eg (q0 (vi 0) (ln (er (th_r (th_r (rs1 results84 (v:=(vi 0)) ?_))))))
 exact ⟨true,true,_,_,⟨hc1,hc2,rfl,rfl⟩,by kernel_rfl,(Ext.refl (F:=None) _).hst hs⟩
 refine wpE_skip (th_n (eg (q0 (vi (-1)) (ln (er (th_r (rs1 results84 (v:=(vi (-1))) ?_)))))))
 exact ⟨true,false,_,_,⟨hc1,hc2,rfl,rfl⟩,by kernel_rfl,(Ext.refl (F:=None) _).hst hs⟩
 refine wpE_skip (th_n (wpE_seq (eg (q0 (vb (y1 != y1)) (ln ?_)))))
 refine wpE_cond (t:=(y1 != y1)) (by kernel_rfl) (fun hc3=>?_) (fun hc3=>?_)
 refine eg (q0 (vi 1) (ln (er (th_r (rs1 results84 (v:=(vi 1)) ?_)))))
 exact ⟨false,true,_,_,⟨hc1,hc3,rfl,rfl⟩,by kernel_rfl,(Ext.refl (F:=None) _).hst hs⟩
 refine wpE_skip (th_n (wpE_seq (eg (q0 (vu x1) (q0 (vu y1) (q0 (vb (decide (x1<y1))) (ln ?_)))))))
 refine wpE_cond (t:=(decide (x1<y1))) (by kernel_rfl) (fun hc4=>?_) (fun hc4=>?_)
 refine eg (q0 (vi (-1)) (ln (er (th_r (rs1 results84 (v:=(vi (-1))) ?_)))))
 exact ⟨false,false,true,_,⟨hc1,hc3,hc4,rfl⟩,by kernel_rfl,(Ext.refl (F:=None) _).hst hs⟩
 refine wpE_skip (th_n (wpE_seq (eg (q0 (vu x1) (q0 (vu y1) (q0 (vb (decide (x1>y1))) (ln ?_)))))))
 refine wpE_cond (t:=(decide (x1>y1))) (by kernel_rfl) (fun hc5=>?_) (fun hc5=>?_)
 refine eg (q0 (vi 1) (ln (er (th_r (rs1 results84 (v:=(vi 1)) ?_)))))
 exact ⟨false,false,false,true,⟨hc1,hc3,hc4,hc5⟩,by kernel_rfl,(Ext.refl (F:=None) _).hst hs⟩
 refine wpE_skip (th_n (eg (q0 (vi 0) (ln (er (rs1 results84 (v:=(vi 0)) ?_))))))
 exact ⟨false,false,false,false,⟨hc1,hc3,hc4,hc5⟩,by kernel_rfl,(Ext.refl (F:=None) _).hst hs⟩
theorem p_U1 (x1 y1:Int) (w0:World):Calls prog 84 #[(.int .u64 x1),(.int .u64 y1)] w0 (fun e w'=>e=.returned (.int .i64 (s_U1 x1 y1))∧Pure w0 w'):=by
 refine (pw_U1 x1 y1 w0).mono ?_
 rintro e w' ⟨b'0,b'1,b'2,b'3,⟨e0,e1,e2,e3⟩,h,E⟩
 subst e0
 subst e1
 subst e2
 subst e3
 exact ⟨h,E⟩
def s_E2 (x1:Int):Bool :=
 (x1 != x1)
theorem pw_E2 (x1 : Int) (w0 : World) :
  Calls prog 157 #[(vi x1)] w0 (fun e w'=>(e=.returned (vb (x1 != x1)))∧Pure w0 w'):=by
 refine cw (args:=[(vi x1)]) func157 ntmps157 (eg (q0 (vb false) (ln (eg (q0 (vi x1) (q0 (vi x1) (q0 (vb (x1 != x1)) (q0 (vb (x1 != x1)) ?_))))))))
 refine ln (er (rs1 results157 (v:=(vb (x1 != x1))) ?_))
 exact ⟨by kernel_rfl,Ext.refl _⟩
theorem p_E2 (x1:Int) (w0:World):Calls prog 157 #[(.int .i64 x1)] w0 (fun e w'=>e=.returned (.bool (s_E2 x1))∧Pure w0 w'):=pw_E2 x1 w0
def s_V1 (x1 y1:Int):Int :=
 (cond (x1 != x1) (cond (y1 != y1) 0 (-1)) (cond (y1 != y1) 1 (cond (decide (x1<y1)) (-1) (cond (decide (x1>y1)) 1 0))))
theorem pw_V1 (x1 y1 : Int) (w0 : World) :
  Calls prog 85 #[(vi x1),(vi y1)] w0 (fun e w'=>∃b'0 b'1 b'2 b'3:Bool,((x1 != x1)=b'0∧(y1 != y1)=b'1∧(decide (x1<y1))=b'2∧(decide (x1>y1))=b'3)∧(e=.returned (vi (cond b'0 (cond b'1 0 (-1)) (cond b'1 1 (cond b'2 (-1) (cond b'3 1 0))))))∧Pure w0 w'):=by
 refine cw (args:=[(vi x1),(vi y1)]) func85 ntmps85 ?_
 have hs:=Hst.start w0
 have hb:=HB.nil None w0
 refine eg (q0 (vi 0) (ln (eg (q0 (vi x1) ?_))))
 refine sc call157 ((p_E2 x1 w0).mono ?_)
 rintro e w1 ⟨he,hE⟩
 refine ⟨(vb (x1 != x1)),he.trans (by kernel_rfl),?_⟩
 have hs:=hs.pure hE
 have hb:=hb.pure hE
 refine q0 (vb (x1 != x1)) (ln (eg (q0 (vi y1) ?_)))
 refine sc call157 ((p_E2 y1 w1).mono ?_)
 rintro e w2 ⟨he,hE⟩
 refine ⟨(vb (y1 != y1)),he.trans (by kernel_rfl),?_⟩
 have hs:=hs.pure hE
 have hb:=hb.pure hE
 refine q0 (vb (y1 != y1)) (ln (wpE_seq (eg (q0 (vb (x1 != x1)) (ln ?_)))))
 refine wpE_cond (t:=(x1 != x1)) (by kernel_rfl) (fun hc1=>?_) (fun hc1=>?_)
 refine wpE_seq (eg (q0 (vb (y1 != y1)) (ln ?_)))
 refine wpE_cond (t:=(y1 != y1)) (by kernel_rfl) (fun hc2=>?_) (fun hc2=>?_)
 refine eg (q0 (vi 0) (ln (er (th_r (th_r (rs1 results85 (v:=(vi 0)) ?_))))))
 exact ⟨true,true,_,_,⟨hc1,hc2,rfl,rfl⟩,by kernel_rfl,(Ext.refl (F:=None) _).hst hs⟩
 refine wpE_skip (th_n (eg (q0 (vi (-1)) (ln (er (th_r (rs1 results85 (v:=(vi (-1))) ?_)))))))
 exact ⟨true,false,_,_,⟨hc1,hc2,rfl,rfl⟩,by kernel_rfl,(Ext.refl (F:=None) _).hst hs⟩
 refine wpE_skip (th_n (wpE_seq (eg (q0 (vb (y1 != y1)) (ln ?_)))))
 refine wpE_cond (t:=(y1 != y1)) (by kernel_rfl) (fun hc3=>?_) (fun hc3=>?_)
 refine eg (q0 (vi 1) (ln (er (th_r (rs1 results85 (v:=(vi 1)) ?_)))))
 exact ⟨false,true,_,_,⟨hc1,hc3,rfl,rfl⟩,by kernel_rfl,(Ext.refl (F:=None) _).hst hs⟩
 refine wpE_skip (th_n (wpE_seq (eg (q0 (vi x1) (q0 (vi y1) (q0 (vb (decide (x1<y1))) (ln ?_)))))))
 refine wpE_cond (t:=(decide (x1<y1))) (by kernel_rfl) (fun hc4=>?_) (fun hc4=>?_)
 refine eg (q0 (vi (-1)) (ln (er (th_r (rs1 results85 (v:=(vi (-1))) ?_)))))
 exact ⟨false,false,true,_,⟨hc1,hc3,hc4,rfl⟩,by kernel_rfl,(Ext.refl (F:=None) _).hst hs⟩
 refine wpE_skip (th_n (wpE_seq (eg (q0 (vi x1) (q0 (vi y1) (q0 (vb (decide (x1>y1))) (ln ?_)))))))
 refine wpE_cond (t:=(decide (x1>y1))) (by kernel_rfl) (fun hc5=>?_) (fun hc5=>?_)
 refine eg (q0 (vi 1) (ln (er (th_r (rs1 results85 (v:=(vi 1)) ?_)))))
 exact ⟨false,false,false,true,⟨hc1,hc3,hc4,hc5⟩,by kernel_rfl,(Ext.refl (F:=None) _).hst hs⟩
 refine wpE_skip (th_n (eg (q0 (vi 0) (ln (er (rs1 results85 (v:=(vi 0)) ?_))))))
 exact ⟨false,false,false,false,⟨hc1,hc3,hc4,hc5⟩,by kernel_rfl,(Ext.refl (F:=None) _).hst hs⟩
theorem p_V1 (x1 y1:Int) (w0:World):Calls prog 85 #[(.int .i64 x1),(.int .i64 y1)] w0 (fun e w'=>e=.returned (.int .i64 (s_V1 x1 y1))∧Pure w0 w'):=by
 refine (pw_V1 x1 y1 w0).mono ?_
 rintro e w' ⟨b'0,b'1,b'2,b'3,⟨e0,e1,e2,e3⟩,h,E⟩
 subst e0
 subst e1
 subst e2
 subst e3
 exact ⟨h,E⟩
def s_F2 (x1:ByteArray):Bool :=
 (!(decide (x1=x1)))
theorem pw_F2 (x1 : ByteArray) (w0 : World) :
  Calls prog 158 #[(vs x1)] w0 (fun e w'=>(e=.returned (vb (!(decide (x1=x1)))))∧Pure w0 w'):=by
 refine cw (args:=[(vs x1)]) func158 ntmps158 (eg (q0 (vb false) (ln (eg (q0 (vs x1) (q0 (vs x1) (q2 (vb (!(decide (x1=x1)))) (x_strneq (by kernel_rfl) (by kernel_rfl)) (q0 (vb (!(decide (x1=x1)))) ?_))))))))
 refine ln (er (rs1 results158 (v:=(vb (!(decide (x1=x1))))) ?_))
 exact ⟨by kernel_rfl,Ext.refl _⟩
theorem p_F2 (x1:ByteArray) (w0:World):Calls prog 158 #[(.string x1)] w0 (fun e w'=>e=.returned (.bool (s_F2 x1))∧Pure w0 w'):=pw_F2 x1 w0
def m_M3 (x1 y1:ByteArray) (w0:World) (K:Int→WP):Prop :=
 Br (!(decide (x1=x1)))
  (Br (!(decide (y1=y1)))
   (∀(w2:World),Hst w0 None w0 None w2 →
   K 0 w2)
   (∀(w2:World),Hst w0 None w0 None w2 →
   K (-1) w2))
  (Br (!(decide (y1=y1)))
   (∀(w2:World),Hst w0 None w0 None w2 →
   K 1 w2)
   (∀(w2:World),Hst w0 None w0 None w2 →
   ∃b1:Bool,(Go.binOp .lss 9 (vs x1) (vs y1)).run prog w2=.ok (vb b1) w2 ∧
   Br b1
    (K (-1) w2)
    (∃b2:Bool,(Go.binOp .gtr 9 (vs x1) (vs y1)).run prog w2=.ok (vb b2) w2 ∧
    Br b2
     (K 1 w2)
     (K 0 w2))))
theorem w_M3 (x1 y1 : ByteArray) (w0 : World) (K : Int → WP) (h : m_M3 x1 y1 w0 K) :
  Calls prog 86 #[(vs x1),(vs y1)] w0 (fun e w'=>∃r1:Int,e=.returned (vi r1)∧K r1 w'):=by
 unfold m_M3 at h
 refine cw (args:=[(vs x1),(vs y1)]) func86 ntmps86 ?_
 have hs:=Hst.start w0
 have hb:=HB.nil None w0
 refine eg (q0 (vi 0) (ln (eg (q0 (vs x1) ?_))))
 refine sc call158 ((p_F2 x1 w0).mono ?_)
 rintro e w1 ⟨he,hE⟩
 refine ⟨(vb (!(decide (x1=x1)))),he.trans (by kernel_rfl),?_⟩
 have hs:=hs.pure hE
 have hb:=hb.pure hE
 refine q0 (vb (!(decide (x1=x1)))) (ln (eg (q0 (vs y1) ?_)))
 refine sc call158 ((p_F2 y1 w1).mono ?_)
 rintro e w2 ⟨he,hE⟩
 refine ⟨(vb (!(decide (y1=y1)))),he.trans (by kernel_rfl),?_⟩
 have hs:=hs.pure hE
 have hb:=hb.pure hE
 refine q0 (vb (!(decide (y1=y1)))) (ln (wpE_seq (eg (q0 (vb (!(decide (x1=x1)))) (ln ?_)))))
 refine wpE_cond (t:=(!(decide (x1=x1)))) (by kernel_rfl) (fun hc1=>?_) (fun hc1=>?_)
 have h:=h.1 hc1
 refine wpE_seq (eg (q0 (vb (!(decide (y1=y1)))) (ln ?_)))
 refine wpE_cond (t:=(!(decide (y1=y1)))) (by kernel_rfl) (fun hc2=>?_) (fun hc2=>?_)
 have h:=h.1 hc2
 refine eg (q0 (vi 0) (ln (er (th_r (th_r ?_)))))
 have h:=h w2 hs
 have hs:=hs.here
 refine rs1 results86 (v:=(vi 0)) ?_
 exact ⟨0,rfl,h⟩
 have h:=h.2 hc2
 refine wpE_skip (th_n (eg (q0 (vi (-1)) (ln (er (th_r ?_))))))
 have h:=h w2 hs
 have hs:=hs.here
 refine rs1 results86 (v:=(vi (-1))) ?_
 exact ⟨(-1),rfl,h⟩
 have h:=h.2 hc1
 refine wpE_skip (th_n (wpE_seq (eg (q0 (vb (!(decide (y1=y1)))) (ln ?_)))))
 refine wpE_cond (t:=(!(decide (y1=y1)))) (by kernel_rfl) (fun hc3=>?_) (fun hc3=>?_)
 have h:=h.1 hc3
 refine eg (q0 (vi 1) (ln (er (th_r ?_))))
 have h:=h w2 hs
 have hs:=hs.here
 refine rs1 results86 (v:=(vi 1)) ?_
 exact ⟨1,rfl,h⟩
 have h:=h.2 hc3
 refine wpE_skip (th_n (wpE_seq (eg (q0 (vs x1) (q0 (vs y1) ?_)))))
 have h:=h w2 hs
 have hs:=hs.here
 obtain ⟨b1,hv2,h⟩:=h
 refine q2 (vb b1) (x_bin (by kernel_rfl) (by kernel_rfl) (by kernel_rfl) hv2) (ln ?_)
 refine wpE_cond (t:=b1) (by kernel_rfl) (fun hc4=>?_) (fun hc4=>?_)
 have h:=h.1 hc4
 refine eg (q0 (vi (-1)) (ln (er (th_r (rs1 results86 (v:=(vi (-1))) ?_)))))
 exact ⟨(-1),rfl,h⟩
 have h:=h.2 hc4
 refine wpE_skip (th_n (wpE_seq (eg (q0 (vs x1) (q0 (vs y1) ?_)))))
 obtain ⟨b2,hv1,h⟩:=h
 refine q2 (vb b2) (x_bin (by kernel_rfl) (by kernel_rfl) (by kernel_rfl) hv1) (ln ?_)
 refine wpE_cond (t:=b2) (by kernel_rfl) (fun hc5=>?_) (fun hc5=>?_)
 have h:=h.1 hc5
 refine eg (q0 (vi 1) (ln (er (th_r (rs1 results86 (v:=(vi 1)) ?_)))))
 exact ⟨1,rfl,h⟩
 have h:=h.2 hc5
 refine wpE_skip (th_n (eg (q0 (vi 0) (ln (er (rs1 results86 (v:=(vi 0)) ?_))))))
 exact ⟨0,rfl,h⟩
def m_N3 (seq1:Value) (w0:World) (K:Sl→WP):Prop :=
 Calls prog 283 #[Sl.nil.v,seq1] w0 (fun e w1=>∃r1:Sl,e=.returned r1.v∧
  K r1 w1)
theorem w_N3 (seq1 : Value) (w0 : World) (K : Sl → WP) (h : m_N3 seq1 w0 K) :
  Calls prog 206 #[seq1] w0 (fun e w'=>∃r2:Sl,e=.returned r2.v∧K r2 w'):=by
 unfold m_N3 at h
 refine cw (args:=[seq1]) func206 ntmps206 (eg (q0 Sl.nil.v (ln (eg (q0 seq1 ?_)))))
 refine sc call283 (h.mono ?_)
 rintro e w1 ⟨r1,rfl,h⟩
 refine ⟨_,rfl,?_⟩
 refine q0 r1.v (ln (er (rs1 results206 (v:=r1.v) ?_)))
 exact ⟨r1,rfl,h⟩
def m_O3 (seq1:Value) (w0:World) (K:Sl→WP):Prop :=
 Calls prog 206 #[seq1] w0 (fun e w1=>∃r1:Sl,e=.returned r1.v∧
  Calls prog 207 #[r1.v] w1 (fun e w2=>e=.returned (.tuple #[])∧
   K r1 w2))
theorem w_O3 (seq1 : Value) (w0 : World) (K : Sl → WP) (h : m_O3 seq1 w0 K) :
  Calls prog 152 #[seq1] w0 (fun e w'=>∃r2:Sl,e=.returned r2.v∧K r2 w'):=by
 unfold m_O3 at h
 refine cw (args:=[seq1]) func152 ntmps152 (eg (q0 Sl.nil.v (ln (eg (q0 seq1 ?_)))))
 refine sc call206 (h.mono ?_)
 rintro e w1 ⟨r1,rfl,h⟩
 refine ⟨_,rfl,?_⟩
 refine q0 r1.v (ln (eg (q0 r1.v ?_)))
 refine sc call207 (h.mono ?_)
 rintro e w2 ⟨rfl,h⟩
 refine ⟨_,rfl,?_⟩
 refine ln (eg (q0 r1.v (q0 r1.v (ln (er (rs1 results152 (v:=r1.v) ?_))))))
 exact ⟨r1,rfl,h⟩
def m_P3 (s1:Sl) (w0:World) (K:Value→WP):Prop :=
 ∀(p1:Addr) (w1:World),New w0 (.cells #[s1.v] 46) p1 w1 →
 K (.func (.func 208) #[] #[(vp (some p1))]) w1
theorem w_P3 (s1 : Sl) (w0 : World) (K : Value → WP) (h : m_P3 s1 w0 K) :
  Calls prog 153 #[s1.v] w0 (fun e w'=>∃r1:Value,e=.returned r1∧K r1 w'):=by
 unfold m_P3 at h
 refine cw (args:=[s1.v]) func153 ntmps153 (eg (sn (O:=(.cells #[s1.v] 46)) xb ?_))
 intro p1 w1 hn1
 have h:=h p1 w1 hn1
 refine q0 (.nilFunc:Value) (ln (eg (q0 (.func (.func 208) #[] #[(vp (some p1))]) (q0 (.func (.func 208) #[] #[(vp (some p1))]) (ln (er (rs1 results153 (v:=(.func (.func 208) #[] #[(vp (some p1))])) ?_)))))))
 exact ⟨(.func (.func 208) #[] #[(vp (some p1))]),rfl,h⟩
end Go.Proofs
end
section
namespace Go.SE
open Go.Sort Go.Shelf Go.Proofs
theorem drewN_eq (w:World) (q:Nat):w.drewN q={ w with drawn:=w.drawn+q }:=rfl
theorem grow_of_pure {w w':World} (h:Pure w w'):∃q os,w'=grow (w.drewN q) os:=by
 refine ⟨w'.drawn - w.drawn,w'.heap.extract w.heap.size w'.heap.size,?_⟩
 have hh:w'.heap=w.heap++w'.heap.extract w.heap.size w'.heap.size:=by
  apply Array.ext_getElem?
  intro i
  by_cases hi:i<w.heap.size
  ·rw [h.keep i hi id,Array.getElem?_append_left hi]
  ·rw [Array.getElem?_append_right (by omega),Array.getElem?_extract]
   by_cases h2:i<w'.heap.size
   ·rw [if_pos (by omega)];congr 1;omega
   ·rw [if_neg (by omega),Array.getElem?_eq_none (by omega)]
 have h1:=h.os
 have h2:=h.tape
 have h3:=h.output
 have h4:=h.drawn
 clear h
 obtain ⟨a,b,c,d,e⟩:=w
 obtain ⟨a',b',c',d',e'⟩:=w'
 simp only at h1 h2 h3 h4 hh
 subst h1;subst h2;subst h3
 rw [drewN_eq]
 unfold grow
 simp only [World.mk.injEq,and_true,true_and]
 exact ⟨hh,by omega⟩
theorem flatK_list {α:Type} [Inhabited α] (enc:α→List Value) (k:Nat) (hk:∀x,(enc x).length=k) (d:Array α):(flatK enc k d).toList=(d.toList.map enc).flatten:=by
 have hl:∀q∈d.toList.map enc,q.length=k:=by
  intro q hq;obtain ⟨x,_,rfl⟩:=List.mem_map.1 hq;exact hk x
 have hlen:(d.toList.map enc).flatten.length=d.size*k:=by rw [flatten_len hl];simp
 apply List.ext_getElem?
 intro t
 by_cases ht:t<d.size*k
 ·have k0:0<k:=by rcases Nat.eq_zero_or_pos k with h | h;subst h;simp at ht;exact h
  have hd:t / k<d.size:=by rw [Nat.div_lt_iff_lt_mul k0];exact ht
  have hm:t % k<k:=Nat.mod_lt _ k0
  have e:t=(t / k)*k+t % k:=(Nat.div_add_mod' t k).symm
  have h1:=get_flatK enc k d t ht
  rw [Array.getElem?_toList,Array.getElem?_eq_getElem (by simpa using ht)]
  rw [getElem!_pos _ t (by simpa using ht),getElem!_pos d _ hd,getElem!_pos _ (t % k) (by rw [hk];exact hm)] at h1
  rw [h1]
  have h2:=flatten_get hl (i:=t / k) (by simpa using hd) hm
  rw [← e] at h2
  rw [h2,List.getElem_map,List.getElem?_eq_getElem (by rw [hk];exact hm)]
  simp
 ·rw [List.getElem?_eq_none (by simp;omega),List.getElem?_eq_none (by omega)]
variable {α:Type} [Inhabited α] {P:Program} {ρ:Ren} {k:Nat} {enc:α→List Value} {e:TypeId}
theorem Rws.holdsK {w:World} {s:Sl} {g:Nat} {cur:Array Value} {ds:List α} (hk:∀x,(enc x).length=k) (hg:w.heap[g]?=some (.cells cur e (0,0))) (ht:cur.toList.take (ds.length*k)=(ds.map enc).flatten):HoldsK enc k w g 0 ds.toArray:=by
 intro j hj
 rw [size_flatK] at hj
 have hf:=flatK_list enc k hk ds.toArray
 simp only at hf
 have hj':j<ds.length*k:=by simpa using hj
 have hsz:(flatK enc k ds.toArray).size=ds.length*k:=by simp
 have h1:cur.toList[j]?=(flatK enc k ds.toArray).toList[j]?:=by
  rw [hf,← ht,List.getElem?_take_of_lt hj']
 rw [Array.getElem?_toList,Array.getElem?_toList,Array.getElem?_eq_getElem (show j<(flatK enc k ds.toArray).size by omega)] at h1
 refine ⟨?_,?_⟩
 ·unfold World.cell?
  rw [hg]
  simp only [Option.isSome_none,Bool.false_eq_true,if_false,Nat.zero_add,id]
  rw [h1,getElem!_pos _ j (by omega)]
 ·unfold World.frozen?
  rw [hg];simp
theorem sortFunc_rws (L : SlLaysF0.n6 P ρ) (aE : ∀ w, (isAgg (ρ.t 24)).run P w = .ok true w) (zE : ∀ w, (Go.sizeOf (ρ.t 24)).run P w = .ok k w) (hk : ∀ x, (enc x).length = k) (h1 : ∀ x, ∀ v ∈ enc x, v.oneCell' = true)
  (cf:α→α→Int) (hO:SWO (ltOf cf)) (g:Nat) (eg:∀args w,(callFunc g args).run P w=.ok (.enter g args) w)
  (hc:∀x y W,Calls P g #[.agg (enc x).toArray,.agg (enc y).toArray] W (fun o w'=>o=.returned (.int .i64 (cf x y))∧Pure W w'))
  {w:World} {s:Sl} {ds:List α} (hr:Rws w e k s (ds.map enc)) (hn:ds.length<4611686018427387904) :
  Calls P (ρ.f 6) #[s.v,.func (.func g) #[] #[]] w (fun o w'=>o=.returned (.tuple #[])∧∃ds':List α,ds'.Perm ds∧ds'.Pairwise (fun a b=>¬ cf b a<0)∧Rws w' e k s (ds'.map enc)∧Ext s.blk w w'):=by
 have hl:s.len=ds.length:=by rw [hr.len];simp
 rcases hr.own with ⟨rfl,hnil⟩ | ⟨b,cur,ha,hg,hcap,hm,hsz,ht⟩
 ·have hd:ds=[]:=by simpa using hnil
  subst hd
  refine (AnyF.slices_SortFunc_none L none 0 _ w).mono ?_
  rintro _ w' ⟨rfl,rfl⟩
  exact ⟨rfl,[],.refl _,.nil,hr,Ext.refl _⟩
 ·rw [List.length_map] at hcap ht
  have hH:HoldsK enc k w b 0 ds.toArray:=Rws.holdsK (s:=s) hk hg ht
  have hb:b<w.heap.size:=heap_lt hg
  have hv:s.v=.slice (some ⟨b,0,none⟩) ds.toArray.size s.cap:=by unfold Sl.v;rw [ha,hl];simp
  rw [hv]
  refine (AnyQ.slices_SortFunc L k aE zE enc hk h1 cf hO g #[] b 0 s.cap ds.toArray w eg (fun m os dk _ x y=>?_) hH hb (by simpa using hn)).mono ?_
  ·refine (hc x y _).mono ?_
   rintro o w' ⟨rfl,hp⟩
   exact ⟨rfl,grow_of_pure hp⟩
  rintro _ w' ⟨rfl,d',n,os,hp,hs,rfl⟩
  obtain ⟨hps,_,hpp⟩:=hp
  have hps':d'.size=ds.length:=by simpa using hps
  have hperm:d'.toList.Perm ds:=by
   rw [← hps] at hpp
   rw [Array.extract_size] at hpp
   simpa [hps'] using hpp
  refine ⟨rfl,d'.toList,hperm,?_,?_,?_⟩
  ·rw [List.pairwise_iff_getElem]
   intro i j hi hj hij
   have hj':j<d'.size:=by simpa using hj
   have hi':i<d'.size:=by simpa using hi
   have:=hs i j (Nat.zero_le _) hij (by simp;omega)
   unfold ltOf at this
   rw [getElem!_pos d' i hi',getElem!_pos d' j hj'] at this
   simpa using this
  ·have hl2 : ∀ q ∈ d'.toList.map enc, q.length = k := by
    intro q hq;obtain ⟨x,_,rfl⟩:=List.mem_map.1 hq;exact hk x
   refine ⟨hl2,by rw [hl];simp [hps'],.inr ⟨b,putCells id 0 (flatK enc k d') cur,ha,?_,by simpa [hps'] using hcap,hm,by simp [putCells,hsz],?_⟩⟩
   ·unfold sortWorldK putRowK
    rw [heap_grow_old _ _ (by simpa using hb)]
    simp [putRow,mapBlock,Sort.ahead,Array.getElem?_modify,hg,onCells]
   ·rw [← flatK_list enc k hk d',List.length_map,Array.length_toList]
    apply List.ext_getElem?
    intro j
    have hle:ds.length*k≤s.cap*k:=Nat.mul_le_mul_right _ hcap
    by_cases hj:j<d'.size*k
    ·rw [List.getElem?_take_of_lt hj,Array.getElem?_toList,Array.getElem?_toList]
     unfold putCells
     rw [Array.getElem?_mapIdx,Array.getElem?_eq_getElem (show j<cur.size by rw [hsz];rw [hps'] at hj;omega),Option.map_some,if_pos ⟨Nat.zero_le _,by rw [size_flatK];omega⟩,Array.getElem?_eq_getElem (by rw [size_flatK];exact hj),Nat.sub_zero,getElem!_pos _ j (by rw [size_flatK];exact hj)]
     rfl
    ·rw [List.getElem?_eq_none (by simp;omega),List.getElem?_eq_none (by simp;omega)]
  ·refine ⟨rfl,rfl,rfl,Nat.le_add_right _ _,by unfold sortWorldK putRowK;simp [size_grow],fun i hi hf=>?_⟩
   have hne:b≠i:=fun e'=>hf ⟨_,ha,e'⟩
   unfold sortWorldK putRowK
   rw [heap_grow_old _ _ (by simpa using hi)]
   simp [putRow,mapBlock,Sort.ahead,Array.getElem?_modify,hne]
theorem chunks {α:Type} {sz:Nat}:∀(m:Nat) (l:List α),l.length=m*sz→∃qs:List (List α),qs.length=m∧(∀q∈qs,q.length=sz)∧qs.flatten=l
 | 0,l,h=>⟨[],rfl,by simp,by rw [Nat.zero_mul] at h;simp [List.length_eq_zero_iff.1 h]⟩
 | m+1,l,h=>by
  rw [Nat.succ_mul] at h
  obtain ⟨qs,h1,h2,h3⟩:=chunks m (l.drop sz) (show (l.drop sz).length=m*sz by rw [List.length_drop];omega)
  refine ⟨l.take sz :: qs,by simp [h1],fun q hq=>?_,by simp [h3]⟩
  rcases List.mem_cons.1 hq with rfl | hq
  ·rw [List.length_take];omega
  ·exact h2 q hq
theorem Rws.clearLo {P : Program} {t ty : TypeId} {sz bytes : Nat} {z : Value} (T : SlType P t e sz bytes) (hz : ∀ w, (zeroValue e).run P w = .ok z w) (hzs : z.cells.size = sz) (hz1 : ∀ v ∈ z.cells.toList, oneCell v = true)
  {w:World} {s:Sl} {rs:List (List Value)} (h:Rws w e sz s rs) {k:IntKind} {n:Int} (h0:0≤n) (hn:n<rs.length) :
  ∃s':Sl,∃w':World,(∀w:World,(Instr.sliceAt t s.v (some (.int k n)) none none).run P w=.ok s'.v w)∧(Builtin.clear_ #[t] ty #[s'.v]).run P w=.ok (.tuple #[]) w'∧Ext s.blk w w'∧∃rs',Rws w' e sz s rs'∧rs'.length=rs.length∧rs'.take n.toNat=rs.take n.toNat:=by
 rcases h.own with ⟨rfl,rfl⟩ | ⟨g,cur,ha,hg,hc,hm,hs,ht⟩
 ·simp at hn;omega
 have B:Box w ⟨g,0,none⟩ cur.toList e:=⟨rfl,by simpa using hg⟩
 have hsl:s.len=rs.length:=h.len
 obtain ⟨m,hmm⟩:∃m,s.len - n.toNat=m+1:=⟨s.len - n.toNat - 1,by omega⟩
 have hzl:(Builtin.zeroCells z.cells (m+1)).toList.length=(m+1)*sz:=by simp [Builtin.zeroCells,hzs]
 have hzo:∀v∈(Builtin.zeroCells z.cells (m+1)).toList,oneCell v=true:=by
  intro v hv
  simp only [Builtin.zeroCells,Array.toList_map,List.mem_map] at hv
  obtain ⟨i,_,rfl⟩:=hv
  have hp:0<z.cells.size:=by rw [hzs];exact T.pos
  rw [getElem!_pos z.cells _ (Nat.mod_lt _ hp)]
  exact hz1 _ (by simp)
 have hle:n.toNat*sz+(m+1)*sz=rs.length*sz:=by rw [← Nat.add_mul];congr 1;omega
 have hle2:rs.length*sz≤s.cap*sz:=Nat.mul_le_mul_right _ hc
 have hcl:cur.toList.length=s.cap*sz:=by simpa using hs
 generalize hzz:(Builtin.zeroCells z.cells (m+1)).toList=zs at *
 have hst:=run_storeCellsFrom (P:=P) ((⟨g,0,none⟩:Addr).add (n.toNat*sz)) zs 0 w hzo (fun j hj=>by rw [add_add];exact B.canW (by rw [hcl];omega))
 have B2:=Box.storeAt zs 0 (n.toNat*sz) w _ B (by rw [hcl];omega)
 have hE:Ext (·=g) w (storeRowFrom w ((⟨g,0,none⟩:Addr).add (n.toNat*sz)) 0 zs):=by
  have:=Ext.storeRow w ((⟨g,0,none⟩:Addr).add (n.toNat*sz)) zs;rw [add_block] at this;exact this
 obtain ⟨qs,q1,q2,q3⟩:=chunks (m+1) zs hzl
 have hcap:s.cap≠n.toNat:=by omega
 have hnl:n≤(s.len:Int):=by omega
 refine ⟨⟨some ((⟨g,0,none⟩:Addr).add (n.toNat*sz)),s.len - n.toNat,s.cap - n.toNat⟩,_,fun w=>?_,?_,hE.mono (fun b _ hb=>⟨_,ha,hb.symm⟩),rs.take n.toNat++qs,⟨?_,?_,.inr ⟨g,_,ha,B2.blk,?_,hm,?_,?_⟩⟩,?_,?_⟩
 ·simp [Instr.sliceAt,Instr.slice,Sl.v,run_underlying T.ht,Instr.sliceBounds,Instr.sliceBound,asIntOf,T.sizeOf,h0,hnl,hcap,ha]
 ·rw [hmm]
  simp [Builtin.clear_,Sl.v,run_underlying T.ht,hz,hzz,hst]
 ·intro q hq
  rcases List.mem_append.1 hq with hq | hq
  ·exact h.each q (List.mem_of_mem_take hq)
  ·exact q2 q hq
 ·rw [List.length_append,List.length_take,q1];omega
 ·rw [List.length_append,List.length_take,q1];omega
 ·simp only [List.size_toArray,List.length_append,List.length_take,List.length_drop,hcl,hzl];omega
 ·rw [List.length_append,List.length_take,q1,show min n.toNat rs.length+(m+1)=rs.length by omega,List.flatten_append,q3]
  have e1:rs=rs.take n.toNat++rs.drop n.toNat:=(List.take_append_drop _ _).symm
  have e2:((rs.take n.toNat).flatten).length=n.toNat*sz:=by rw [flatten_len (fun r hr=>h.each r (List.mem_of_mem_take hr)),List.length_take,Nat.min_eq_left (by omega)]
  have e3:cur.toList.take (n.toNat*sz)=(rs.take n.toNat).flatten:=by
   calc cur.toList.take (n.toNat*sz)=(cur.toList.take (rs.length*sz)).take (n.toNat*sz):=by rw [List.take_take,Nat.min_eq_left (by omega)]
    _=((rs.take n.toNat).flatten++(rs.drop n.toNat).flatten).take (n.toNat*sz):=by rw [ht,← List.flatten_append,← e1]
    _=(rs.take n.toNat).flatten:=by rw [← e2,List.take_left]
  simp only [Nat.add_zero,e3]
  rw [List.take_append_of_le_length (by rw [List.length_append,e2,hzl];omega),List.take_of_length_le (by rw [List.length_append,e2,hzl];omega)]
 ·rw [List.length_append,List.length_take,q1];omega
 ·rw [List.take_append_of_le_length (by rw [List.length_take];omega),List.take_take,Nat.min_self]
theorem Rws.atLo {P : Program} {t : TypeId} {sz bytes : Nat} (T : SlType P t e sz bytes) {w : World} {s : Sl} {rs : List (List Value)} (h : Rws w e sz s rs) {k : IntKind} {n : Int} (h0 : 0 ≤ n) (hn : n < rs.length) :
  ∃s':Sl,(∀w:World,(Instr.sliceAt t s.v (some (.int k n)) none none).run P w=.ok s'.v w)∧s'.len=rs.length - n.toNat∧∀(i:Nat) (a:Addr),n.toNat+i<rs.length→At s ((n.toNat+i:Nat):Int) sz a→At s' (i:Int) sz a:=by
 rcases h.own with ⟨rfl,rfl⟩ | ⟨g,cur,ha,hg,hc,hm,hs,ht⟩
 ·simp at hn;omega
 have hsl:s.len=rs.length:=h.len
 have hcap:s.cap≠n.toNat:=by omega
 have hnl:n≤(s.len:Int):=by omega
 refine ⟨⟨some ((⟨g,0,none⟩:Addr).add (n.toNat*sz)),s.len - n.toNat,s.cap - n.toNat⟩,fun w=>?_,by simp [hsl],fun i a hi hat=>?_⟩
 ·simp [Instr.sliceAt,Instr.slice,Sl.v,run_underlying T.ht,Instr.sliceBounds,Instr.sliceBound,asIntOf,T.sizeOf,h0,hnl,hcap,ha]
 ·obtain ⟨_,_,b,hb,rfl⟩:=hat
  rw [ha] at hb;cases hb
  refine ⟨by omega,by simp only [hsl];omega,_,rfl,?_⟩
  rw [add_add,Int.toNat_natCast,Int.toNat_natCast,Nat.add_mul]
end Go.SE
end
section
open Go Go.SE
namespace Go.Sp
instance:Inhabited Fact:=⟨⟨0,0,0,⟨#[]⟩⟩⟩
def orF:List Int→Int
 | []=>0
 | a :: l=>if a≠0 then a else orF l
theorem cmpF_or (a b:Fact):cmpF a b=orF [cmpI a.c b.c,cmpI a.kind b.kind,cmpI a.who b.who,cmpB a.text b.text]:=by
 unfold cmpF
 simp only [orF]
 by_cases h1:cmpI a.c b.c≠0
 ·rw [if_pos h1,if_pos h1]
 rw [if_neg h1,if_neg h1]
 by_cases h2:cmpI a.kind b.kind≠0
 ·rw [if_pos h2,if_pos h2]
 rw [if_neg h2,if_neg h2]
 by_cases h3:cmpI a.who b.who≠0
 ·rw [if_pos h3,if_pos h3]
 rw [if_neg h3,if_neg h3]
 by_cases h4:cmpB a.text b.text=0 <;> simp [h4]
end Go.Sp
namespace Go.Proofs
open Tryz
attribute [local irreducible] Calls
theorem s_cmpU (x y:Int):s_U1 x y=Sp.cmpI x y:=by
 unfold s_U1 Sp.cmpI
 by_cases h:x<y
 ·simp [h]
 ·by_cases h2:y<x <;> simp [h,h2]
theorem s_cmpN (x y:Int):s_V1 x y=Sp.cmpI x y:=s_cmpU x y
theorem c_cmpStr (x y:ByteArray) (w0:World):Calls prog 86 #[.string x,.string y] w0 (fun e w'=>∃r:Int,e=.returned (.int .i64 r)∧(r=Sp.cmpB x y∧Pure w0 w')):=by
 refine w_M3 x y w0 (fun r w'=>r=Sp.cmpB x y∧Pure w0 w') ?_
 unfold m_M3
 refine Br.f (by simp) (Br.f (by simp) fun w2 hs2=>?_)
 have E:=hs2.first
 refine ⟨Op.bytesLess x.toList y.toList,by rw [binOp_string_lss];rfl,fun h=>⟨by unfold Sp.cmpB;rw [if_pos h],E⟩,fun h=>?_⟩
 refine ⟨!(Op.bytesLess x.toList y.toList || x.toList == y.toList),by simp [binOp,Op.stringOp],fun h2=>⟨?_,E⟩,fun h2=>⟨?_,E⟩⟩
 all_goals
  unfold Sp.cmpB
  rw [if_neg (by rw [h];simp)]
  rw [h] at h2
 ·rw [if_neg]
  intro e;subst e;simp at h2
 ·rw [if_pos (Sp.toList_inj (by simpa using h2))]
theorem c_cmpOr {S:NP} (p:Addr) (ts:List Int) (hn:ts.length≤1000) (w0:World) (hL:Lst S w0 1 ⟨some p,ts.length,ts.length⟩ (tmr ts)):Calls prog 83 #[(Sl.mk (some p) ts.length ts.length).v] w0 (fun e w'=>∃r:Int,e=.returned (.int .i64 r)∧(r=Sp.orF ts∧Pure w0 w')):=by
 suffices key:∀K:Int→WP,(∀w',Pure w0 w'→K (Sp.orF ts) w')→m_K1 ⟨some p,ts.length,ts.length⟩ w0 K from
  w_K1 _ w0 _ (key _ (fun _ h=>⟨rfl,h⟩))
 intro K hK
 unfold m_K1
 refine ⟨fun i w'=>∃j:Nat,i=j∧j≤ts.length∧w'=w0∧Sp.orF ts=Sp.orF (ts.drop j),fun i _=>((ts.length:Int) - i).toNat,⟨0,rfl,Nat.zero_le _,rfl,rfl⟩,?_⟩
 rintro _ wl ⟨j,rfl,hj,rfl,ho⟩
 unfold m_K1_l1
 refine ⟨fun h=>?_,fun h=>?_⟩
 ·have hlt:=lt_of_dec (n:=ts.length) rfl h
  obtain ⟨a,hat,_,hc⟩:=tm_nth hL hlt
  rw [List.drop_eq_getElem_cons hlt,Sp.orF] at ho
  refine ⟨a,hat,_,hc,fun h2=>?_,fun h2=>?_⟩
  ·rw [if_pos (by simpa using h2)] at ho
   rw [ho] at hK;exact hK _ (Ext.refl _)
  ·rw [if_neg (by simpa using h2)] at ho
   rw [wrap_succ hlt (by omega)]
   exact ⟨⟨j+1,rfl,hlt,rfl,ho⟩,lt_dec hlt⟩
 ·have hge:=eq_of_dec (n:=ts.length) rfl hj h
  rw [hge,List.drop_length,Sp.orF] at ho
  rw [ho] at hK;exact hK _ (Ext.refl _)
theorem c_ev_Compare (a b:Sp.Fact) (w0:World):Calls prog 28 #[.agg (frow a).toArray,.agg (frow b).toArray] w0 (fun e w'=>∃r:Int,e=.returned (.int .i64 r)∧(r=Sp.cmpF a b∧Pure w0 w')):=by
 refine w_I3 a.kind a.who a.c a.text b.kind b.who b.c b.text w0 (fun r w'=>r=Sp.cmpF a b∧Pure w0 w') ?_
 unfold m_I3
 intro H2 w2 hs2
 have E2:=hs2.first
 refine ⟨Pure w0,E2.trans (Ext.drew _),?_⟩
 rintro _ rfl
 have E3:=E2.trans (Ext.drew (F:=None) w2)
 refine (p_U1 a.c b.c _).mono ?_
 rintro _ w4 ⟨rfl,E4⟩
 refine ⟨_,rfl,E3.trans E4,E4.keptP,(p_V1 a.kind b.kind _).mono ?_⟩
 rintro _ w5 ⟨rfl,E5⟩
 refine ⟨_,rfl,(E3.trans E4).trans E5,E5.keptP,(p_V1 a.who b.who _).mono ?_⟩
 rintro _ w6 ⟨rfl,E6⟩
 refine ⟨_,rfl,((E3.trans E4).trans E5).trans E6,E6.keptP,(c_cmpStr a.text b.text _).mono ?_⟩
 rintro _ w7 ⟨_,rfl,rfl,E7⟩
 have E07:=(((E3.trans E4).trans E5).trans E6).trans E7
 refine ⟨_,rfl,E07,E7.keptP,fun p3 w8 h8=>⟨E07.trans (Ext.new h8),?_⟩⟩
 have E08:=E07.trans (Ext.new (F:=None) h8)
 have R:=Rws.lit (sz:=1) (rs:=tmr [Sp.cmpI a.c b.c,Sp.cmpI a.kind b.kind,Sp.cmpI a.who b.who,Sp.cmpB a.text b.text]) h8 (by simp [tmr,s_cmpU,s_cmpN]) (by simp [tmr]) (by simp [tmr,maxLen])
 refine (c_cmpOr p3 [Sp.cmpI a.c b.c,Sp.cmpI a.kind b.kind,Sp.cmpI a.who b.who,Sp.cmpB a.text b.text] (by simp) w8 R.lst).mono ?_
 rintro _ w9 ⟨_,rfl,rfl,E9⟩
 exact ⟨_,rfl,E08.trans E9,E9.keptP,(Sp.cmpF_or a b).symm,E08.trans E9⟩
theorem c_SortFunc (s : Sl) (fs : List Sp.Fact) (w0 : World) (hr : Rws w0 75 4 s (fs.map frow)) (hn : fs.length ≤ 1000000) :
  Calls prog 81 #[s.v,.func (.func 28) #[] #[]] w0 (fun e w'=>e=.returned (.tuple #[])∧∃fs':List Sp.Fact,fs'.Perm fs∧fs'.Pairwise (fun a b=>¬ Sp.cmpF b a<0)∧Rws w' 75 4 s (fs'.map frow)∧Ext s.blk w0 w'):=by
 have h:=sortFunc_rws sortF isAgg75 sizeOf75 (enc:=frow) (fun _=>rfl) (fun x v hv=>by simp [frow] at hv;rcases hv with rfl | rfl | rfl | rfl <;> rfl) Sp.cmpF Sp.swoF 28
  (enters_of func28 (by kernel_rfl) rfl) (fun x y W=>(c_ev_Compare x y W).mono (by rintro _ w' ⟨_,rfl,rfl,E⟩;exact ⟨rfl,E⟩)) hr (by omega)
 exact h
end Go.Proofs
end
section
open Go Go.SE
namespace Go.Proofs
open Tryz
attribute [local irreducible] Calls
theorem fact_dec (g h:Sp.Fact):((g.kind == h.kind) && ((g.who == h.who) && ((g.c == h.c) && decide (g.text=h.text))))=decide (g=h):=by
 obtain ⟨a,b,c,d⟩:=g
 obtain ⟨a',b',c',d'⟩:=h
 rw [Bool.eq_iff_iff]
 simp [Sp.Fact.mk.injEq]
theorem c_Compact (s : Sl) (fs : List Sp.Fact) (w0 : World) (hr : Rws w0 75 4 s (fs.map frow)) (hn : fs.length ≤ 1000000) :
  Calls prog 82 #[s.v] w0 (fun e w'=>∃r:Sl,e=.returned r.v∧(Rws w' 75 4 r ((Sp.compF fs).map frow)∧Ext s.blk w0 w'∧∀b,r.blk b→s.blk b)):=by
 suffices key:∀K:Sl→WP,(∀r w',Rws w' 75 4 r ((Sp.compF fs).map frow)→Ext s.blk w0 w'→(∀b,r.blk b→s.blk b)→K r w')→m_V s w0 K from
  w_V _ w0 _ (key _ (fun _ _ h1 h2 h3=>⟨h1,h2,h3⟩))
 intro K hK
 unfold m_V
 have hl:s.len=fs.length:=by rw [hr.len];simp
 have hsb:∀b,s.blk b→b<w0.heap.size:=fun b hb=>hr.lt hb
 refine ⟨fun h=>?_,fun h=>?_⟩
 ·have h:=of_decide_eq_true h
  refine hK s w0 ?_ (Ext.refl _) (fun _ h=>h)
  have:Sp.compF fs=fs:=by
   match fs,hl,h with
   | [],_,_=>rfl
   | [a],_,_=>rfl
   | a :: b :: l,hl,h=>simp [hl] at h;omega
  rw [this];exact hr
 have h2:2≤fs.length:=by have h:=of_decide_eq_false h;omega
 obtain ⟨f0,fr,rfl⟩:∃f0 fr,fs=f0 :: fr:=by
  cases fs with
  | nil=>simp at h2
  | cons a l=>exact ⟨a,l,rfl⟩
 generalize hfs:f0 :: fr=fs at *
 have hc0:Sp.compF fs=fs.take 1++Sp.compT fs[0] (fs.drop 1):=by subst hfs;rfl
 refine ⟨fun k H w'=>∃j:Nat,k=j∧1≤j∧∃hj:j≤fs.length,Pure w0 w'∧Own H w' 75 4 s (fs.map frow)∧Sp.compF fs=fs.take j++Sp.compT (fs[j-1]'(by omega)) (fs.drop j),fun k _=>((fs.length:Int) - k).toNat,⟨1,rfl,Nat.le_refl _,by omega,Ext.refl _,⟨hr,fun _ _ h=>h⟩,hc0⟩,?_⟩
 rintro _ Hl wl hl1 ⟨j,rfl,hj1,hj,El,Ol,hc⟩
 unfold m_V_l1
 refine ⟨fun hb=>?_,fun hb=>?_⟩
 ·have hlt:=lt_of_dec hl hb
  obtain ⟨a1,hat1,_⟩:=Ol.nth hlt
  refine ⟨a1,hat1,fun w1 hs1=>?_⟩
  have O1:=Ol.hst hs1
  have E1:=El.hst hs1
  obtain ⟨a1',hat1',hrow1⟩:=O1.nth hlt
  obtain ⟨a2,hat2,hrow2⟩:=O1.nth (show j - 1<fs.length by omega)
  have hw:IntKind.i64.wrap ((j:Int) - 1)=((j - 1:Nat):Int):=by rw [i64 (by omega) (by omega)];omega
  have ha:a1=a1':=by
   obtain ⟨_,_,b,hb,rfl⟩:=hat1
   obtain ⟨_,_,b',hb',rfl⟩:=hat1'
   rw [hb] at hb';cases hb';rfl
  rw [← ha] at hrow1
  rw [hw]
  refine ⟨_,_,_,_,hrow1,a2,hat2,_,_,_,_,hrow2,fun hd=>?_,fun hd=>?_⟩
  ·rw [fact_dec] at hd
   have hd:=of_decide_eq_true hd
   obtain ⟨s2,hrun2,hlen2,hat⟩:=O1.rows.atLo slT_fact (k:=.i64) (n:=(j:Int)) (by omega) (by simp;omega)
   have hlen2:s2.len=fs.length - j:=by simpa using hlen2
   refine ⟨s2,hrun2 w1,fun k2 k21 H w'=>∃a i:Nat,k2=a∧k21=i∧1≤i∧1≤a∧a<j+i∧∃hi:j+i≤fs.length,∃ls:List Sp.Fact,ls.length=fs.length∧ls.drop (j+i - 1)=fs.drop (j+i - 1)∧Ext s.blk w0 w'∧Own H w' 75 4 s (ls.map frow)∧Sp.compF fs=ls.take a++Sp.compT (fs[j+i - 1]'(by omega)) (fs.drop (j+i)),fun _ k21 _=>((fs.length:Int) - k21).toNat,?_,?_⟩
   ·refine ⟨j,1,rfl,rfl,Nat.le_refl _,hj1,by omega,hlt,fs,rfl,rfl,Ext.pure E1,O1,?_⟩
    rw [hc,List.drop_eq_getElem_cons hlt,Sp.compT,if_pos hd.symm]
    rfl
   rintro _ _ H2 w2 hs2 ⟨a,i,rfl,rfl,hi1,ha1,hai,hi,ls,hll,hdr,E2,O2,hcc⟩
   unfold m_V_l2
   have hget:∀q,(h:q<fs.length)→j+i - 1≤q→ls[q]'(by omega)=fs[q]:=by
    intro q h hq
    have e:=congrArg (fun l=>l[q - (j+i - 1)]?) hdr
    simp only [List.getElem?_drop] at e
    rw [show j+i - 1+(q - (j+i - 1))=q by omega,List.getElem?_eq_getElem (by omega),List.getElem?_eq_getElem h] at e
    exact Option.some.inj e
   refine ⟨fun hb2=>?_,fun hb2=>?_⟩
   ·have hlt2:j+i<fs.length:=by have:=of_decide_eq_true hb2;omega
    obtain ⟨a3,hat3,_⟩:=O2.nth (show j+i<ls.length by omega)
    have up:∀(q:Nat) (x:Addr),j+q<fs.length→At s ((j+q:Nat):Int) 4 x→At s2 (q:Int) 4 x:=fun q x hq hx=>hat q x (by simpa using hq) (by simpa using hx)
    refine ⟨a3,up i a3 hlt2 hat3,fun w3 hs3=>?_⟩
    have O3:=O2.hst hs3
    have E3:=E2.hst hs3
    obtain ⟨a3',hat3',hrow3⟩:=O3.nth (show j+i<ls.length by omega)
    have ha3:a3=a3':=by
     obtain ⟨_,_,b,hb,rfl⟩:=hat3
     obtain ⟨_,_,b',hb',rfl⟩:=hat3'
     rw [hb] at hb';cases hb';rfl
    rw [← ha3] at hrow3
    obtain ⟨a4,hat4,hrow4⟩:=O3.nth (show j+(i - 1)<ls.length by omega)
    have hw2:IntKind.i64.wrap ((i:Int) - 1)=((i - 1:Nat):Int):=by rw [i64 (by omega) (by omega)];omega
    rw [hw2]
    rw [hget (j+i) hlt2 (by omega)] at hrow3
    have e4:ls[j+(i - 1)]'(by omega)=fs[j+i - 1]'(by omega):=by
     rw [hget (j+(i - 1)) (by omega) (by omega)];congr 1;omega
    rw [e4] at hrow4
    rw [List.drop_eq_getElem_cons hlt2,Sp.compT] at hcc
    refine ⟨_,_,_,_,hrow3,a4,up (i - 1) a4 (by omega) hat4,_,_,_,_,hrow4,fun hd2=>?_,fun hd2=>?_⟩
    ·rw [fact_dec] at hd2
     have hd2:¬ fs[j+i]=fs[j+i - 1]'(by omega):=by simpa using hd2
     rw [if_neg (fun e=>hd2 e.symm)] at hcc
     obtain ⟨a6,hat6,hcw,hset⟩:=O3.rows.set (i:=a) (r:=frow fs[j+i]) (by simp;omega) rfl rfl
     refine ⟨a3,up i a3 hlt2 hat3,_,_,_,_,hrow3,a6,hat6,hcw,?_,fun w4 hw4=>?_⟩
     ·obtain ⟨_,_,b,hb,rfl⟩:=hat6
      exact O3.vis _ ⟨b,hb,by rw [add_block]⟩
     obtain ⟨hR,hE⟩:=hset w4 hw4
     rw [wrap_succ (show a<fs.length by omega) (by omega),wrap_succ (show i<fs.length by omega) (by omega)]
     refine ⟨⟨a+1,i+1,rfl,rfl,by omega,by omega,by omega,by omega,ls.set a fs[j+i],by simpa using hll,?_,E3.trans hE,⟨by rw [List.map_set];exact hR,O3.vis⟩,?_⟩,lt_dec (show i<fs.length by omega)⟩
     ·rw [List.drop_set_of_lt (by omega)]
      have e:=congrArg (List.drop 1) hdr
      rw [List.drop_drop,List.drop_drop] at e
      rw [show j+(i+1) - 1=j+i - 1+1 by omega];exact e
     ·rw [hcc,List.take_succ_eq_append_getElem (by rw [List.length_set];omega),List.take_set_of_le (Nat.le_refl _),List.getElem_set_self,List.append_assoc]
      rfl
    ·rw [fact_dec] at hd2
     have hd2:fs[j+i]=fs[j+i - 1]'(by omega):=by simpa using hd2
     rw [if_pos hd2.symm] at hcc
     rw [wrap_succ (show i<fs.length by omega) (by omega)]
     refine ⟨⟨a,i+1,rfl,rfl,by omega,by omega,by omega,by omega,ls,hll,?_,E3,O3,?_⟩,lt_dec (show i<fs.length by omega)⟩
     ·have e:=congrArg (List.drop 1) hdr
      rw [List.drop_drop,List.drop_drop] at e
      rw [show j+(i+1) - 1=j+i - 1+1 by omega];exact e
     ·rw [hcc];rfl
   ·have hge:j+i=fs.length:=by have:=of_decide_eq_false hb2;omega
    rw [List.drop_eq_nil_of_le (by omega),Sp.compT,List.append_nil] at hcc
    obtain ⟨s3,w4,hrun3,hclr,hE4,rs',hR',hl',htk⟩:=O2.rows.clearLo (P:=prog) (t:=71) (ty:=0) slT_fact (z:=.agg #[.int .i64 0,.int .i64 0,.int .u64 0,.string ⟨#[]⟩]) (fun w=>zeroValue75 w) rfl (by intro v hv;simp [Value.cells] at hv;rcases hv with rfl | rfl | rfl | rfl <;> rfl) (k:=.i64) (n:=(a:Int)) (by omega) (by simp;omega)
    obtain ⟨s4,hrun4,hR4,hb4⟩:=hR'.hiA (P:=prog) slT_fact (k:=.i64) (n:=(a:Int)) (by omega) (by rw [hl'];simp;omega)
    refine ⟨s3,hrun3 w2,w4,hclr,hE4.kept (fun b hb hs=>O2.vis b hs hb),s4,hrun4 w4,hK s4 w4 ?_ (E2.trans hE4) (fun b hb=>(hb4 b).1 hb)⟩
    rw [htk] at hR4
    rw [hcc,List.map_take];simpa using hR4
  ·rw [fact_dec] at hd
   have hd:¬ fs[j]=fs[j - 1]'(by omega):=by simpa using hd
   rw [List.drop_eq_getElem_cons hlt,Sp.compT,if_neg (fun e=>hd e.symm)] at hc
   rw [wrap_succ hlt (by omega)]
   refine ⟨⟨j+1,rfl,by omega,hlt,E1,O1,?_⟩,lt_dec hlt⟩
   rw [hc,List.take_succ_eq_append_getElem hlt,List.append_assoc]
   rfl
 ·have hge:=eq_of_dec hl hj hb
  subst hge
  rw [List.drop_length,Sp.compT,List.append_nil,List.take_length] at hc
  exact hK s wl (by rw [hc];exact Ol.rows) (Ext.pure El) (fun _ h=>h)
end Go.Proofs
end
