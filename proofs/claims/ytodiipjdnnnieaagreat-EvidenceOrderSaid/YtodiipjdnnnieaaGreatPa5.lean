import Derived.Test.YtodiipjdnnnieaaGreatPa4
import Derived.Test.YtodiipjdnnnieaaGreatProg
import Derived.KernelRfl
import Derived.Test.YtodiipjdnnnieaaGreatPa3
import Derived.Shelf.SlSortCmp.NoneTotal
import Derived.Test.YtodiipjdnnnieaaGreatPa2
import Derived.Laws.Strings
import Derived.Test.YtodiipjdnnnieaaGreatPa1
import Derived.Test.YtodiipjdnnnieaaGreatPa0
import Derived.ProofKit
import Derived.Carry
import Derived.OpenShut
import Derived.Stop.Joined
section
open Go Go.SE
namespace Go.Sp
def Letter.fact (l:Letter) (k who:Int):Fact:=⟨k,who,l.c,l.text⟩
def kC (l:Letter):List Fact :=
 if l.kind=1 then (if l.fake=true then [] else [l.fact 1 l.frm])
 else if l.kind=2 then [l.fact 2 l.frm]
 else if l.kind=3 then [l.fact 3 0]
 else if l.kind=4 then l.fact 4 l.frm :: (if l.fake=true then [] else [l.fact 1 0,l.fact 1 1])
 else if l.kind=5 then [l.fact 5 2]
 else if l.kind=6 then [l.fact 6 2,l.fact 2 0,l.fact 2 1]
 else []
def ofR (r:Letter×Bool):List Fact:=if r.2=true then kC r.1 else []
def ofS (L:Pool) (t:Int):List Fact:=ofR (xC L t)
def jAO (who c:Int) (x:ByteArray):Int→List Fact→Int
 | d,[]=>d
 | d,f :: fs=>if f.kind≠2 then jAO who c x d fs else if f.who=who∧f.c=c∧f.text=x then 0
  else if f.who≠who then jAO who c x (if 3>d then 3 else d) fs
  else if f.c≠c then jAO who c x (if 4>d then 4 else d) fs
  else jAO who c x (if 5>d then 5 else d) fs
def jEY (L:Pool) (t who c:Int) (x:ByteArray):Int:=if (xC L t).2=true then jAO who c x 2 (kC (xC L t).1) else 1
def zW (who:Int) (fs:List Fact):List Fact:=fs.filter fun f=>f.kind == 2 && f.who == who
def uS (L:Pool) (a b:Int):Letter×Bool×Int :=
 if sizeOf L a=0∨sizeOf L b=0 then (vD,false,51)
 else if (xC L a).1.kind≠1∨(xC L b).1.kind≠1 then (vD,false,120)
 else ((xC L a).1,(xC L a).1.fake || (xC L b).1.fake,if (xC L a).1.frm≠0∨(xC L b).1.frm≠1∨(xC L a).1.c≠(xC L b).1.c∨(xC L a).1.text≠(xC L b).1.text then 122 else 0)
end Go.Sp
namespace Go.Proofs
open Tryz
attribute [local irreducible] Calls
def kG (f:Sp.Fact):List Value:=[.int .i64 f.kind,.int .i64 f.who,.int .u64 f.c,.string f.text]
theorem uG (fs:List Sp.Fact):∀q∈fs.map kG,q.length=4:=by intro q hq;obtain ⟨t,_,rfl⟩:=List.mem_map.1 hq;rfl
theorem oI (fs:List Sp.Fact):∀q∈fs.map kG,q.all zJ=true:=by intro q hq;obtain ⟨t,_,rfl⟩:=List.mem_map.1 hq;rfl
theorem vL:SlType prog 71 75 4 40:=by
 refine ⟨underlying71,⟨t75,_,by kernel_rfl,(by kernel_rfl:t75.zero=some (.agg #[.int .i64 0,.int .i64 0,.int .u64 0,.string ⟨#[]⟩])),by kernel_rfl,by kernel_rfl,rfl⟩,by omega⟩
theorem vI (l:Sp.Letter) (k who:Int) (p:Addr) (w0:World) (hB:Box w0 p [.int .i64 l.kind,.int .i64 l.frm,.int .u64 l.c,.string l.text,.bool l.fake] 35) :
  Calls prog 162 #[.int .i64 k,.int .i64 who,.pointer (some p)] w0 (fun e w'=>e=.returned (.agg #[.int .i64 k,.int .i64 who,.int .u64 l.c,.string l.text])∧Pure w0 w'):=by
 refine (w_G2 k who p w0 (fun a b c x w'=>a=k∧b=who∧c=l.c∧x=l.text∧Pure w0 w') ?_).mono ?_
 ·unfold m_G2
  intro H1 w1 hs1
  have b1:=hB.pure hs1.first
  exact ⟨_,b1.cell (i:=2) rfl,_,b1.cell (i:=3) rfl,fun w2 hs2=>⟨rfl,rfl,rfl,rfl,hs1.first.hst hs2⟩⟩
 ·rintro _ w' ⟨_,_,_,_,rfl,rfl,rfl,rfl,rfl,E⟩
  exact ⟨rfl,E⟩
theorem xS (l:Sp.Letter) (w0:World) :
  Calls prog 94 #[.agg #[.int .i64 l.kind,.int .i64 l.frm,.int .u64 l.c,.string l.text,.bool l.fake]] w0 (fun e w'=>∃s:Sl,e=.returned s.v∧RetO w0 75 4 ((Sp.kC l).map kG) s w'):=by
 suffices key:∀K:Sl→WP,(∀s w',RetO w0 75 4 ((Sp.kC l).map kG) s w'→K s w')→m_K1 l.kind l.frm l.c l.text l.fake w0 K from
  w_K1 _ _ _ _ _ w0 _ (key _ (fun _ _ h=>h))
 intro K hK
 unfold m_K1
 intro p w1 h1
 have E1:Pure w0 w1:=Ext.new h1
 have b1:=Box.of_new h1
 clear h1
 have hnil:∀w',Pure w0 w'→Sp.kC l=[]→K Sl.nil w':=fun w' E h=>hK _ _ (by
  rw [h];exact ⟨Rws.nil _ _ _,fun b h=>(by obtain ⟨a,h,_⟩:=h;cases h),E⟩)
 have lit:∀{w2 w3:World} {p2:Addr} {cs:Array Value} (fs:List Sp.Fact) (n:Nat),Pure w0 w2→New w2 (.cells cs 75) p2 w3→cs.toList=(fs.map kG).flatten→fs.length=n→n≤3→Sp.kC l=fs→K ⟨some p2,n,n⟩ w3:=by
  intro w2 w3 p2 cs fs n E hn hc hl hm he;have R:=Rws.lit (sz:=4) hn hc (uG fs) (by simp [maxLen];omega);rw [List.length_map,hl] at R;refine hK _ _ ⟨by rw [he];exact R,fun b hb=>?_,E.trans (Ext.new hn)⟩;obtain ⟨a,ha,rfl⟩:=hb;cases ha;exact New.own E hn
 have one : ∀ k who : Int, Sp.kC l = [l.fact k who] → Calls prog 162 #[.int .i64 k, .int .i64 who, .pointer (some p)] w1 (fun e w2 => ∃ rKind1 : Int, ∃ rWho1 : Int, ∃ rC1 : Int, ∃ rText1 : ByteArray, e = .returned (.agg #[.int .i64 rKind1, .int .i64 rWho1, .int .u64 rC1, .string rText1]) ∧
   ∀(p2:Addr) (w3:World),New w2 (.cells #[.int .i64 rKind1,.int .i64 rWho1,.int .u64 rC1,.string rText1] 75) p2 w3→K (Sl.mk (some p2) 1 1) w3):=by
  intro k who he
  refine (vI l k who p w1 b1).mono ?_
  rintro _ w2 ⟨rfl,E2⟩
  exact ⟨_,_,_,_,rfl,fun p2 w3 h3=>lit [l.fact k who] 1 (E1.trans E2) h3 rfl rfl (by omega) he⟩
 refine ⟨_,b1.cell0,fun hk=>?_,fun hk=>⟨fun hk2=>?_,fun hk2=>⟨fun hk3=>?_,fun hk3=>⟨fun hk4=>?_,fun hk4=>⟨fun hk5=>?_,fun hk5=>⟨fun hk6=>?_,fun hk6=>?_⟩⟩⟩⟩⟩⟩
 ·have hk:l.kind=1:=by simpa using hk
  refine ⟨_,b1.cell (i:=4) rfl,fun hf=>hnil w1 E1 (by simp [Sp.kC,hk,hf]),fun hf=>⟨_,b1.cell (i:=1) rfl,one 1 l.frm (by simp [Sp.kC,hk,hf])⟩⟩
 ·have hk2:l.kind=2:=by simpa using hk2
  exact ⟨_,b1.cell (i:=1) rfl,one 2 l.frm (by simp [Sp.kC,hk2])⟩
 ·have hk3:l.kind=3:=by simpa using hk3
  exact one 3 0 (by simp [Sp.kC,hk3])
 ·have hk4:l.kind=4:=by simpa using hk4
  refine ⟨_,b1.cell (i:=1) rfl,(vI l 4 l.frm p w1 b1).mono ?_⟩
  rintro _ w2 ⟨rfl,E2⟩
  refine ⟨_,_,_,_,rfl,fun p2 w3 h3=>?_⟩
  have E3:Pure w2 w3:=Ext.new h3
  have b3:=b1.pure (E2.trans E3)
  refine ⟨_,b3.cell (i:=4) rfl,fun hf=>?_,fun hf=>lit [l.fact 4 l.frm] 1 (E1.trans E2) h3 rfl rfl (by omega) (by simp at hf;simp [Sp.kC,hk4,hf])⟩
  refine (vI l 1 0 p w3 b3).mono ?_
  rintro _ w4 ⟨rfl,E4⟩
  refine ⟨_,_,_,_,rfl,(vI l 1 1 p w4 (b3.pure E4)).mono ?_⟩
  rintro _ w5 ⟨rfl,E5⟩
  refine ⟨_,_,_,_,rfl,fun p6 w6 h6=>?_⟩
  have E6:Pure w5 w6:=Ext.new h6
  have R1:Rws w3 75 4 ⟨some p2,1,1⟩ [kG (l.fact 4 l.frm)]:=Rws.lit h3 rfl (uG [l.fact 4 l.frm]) (by simp [maxLen])
  have R2:Rws w6 75 4 ⟨some p6,2,2⟩ [kG (l.fact 1 0),kG (l.fact 1 1)]:=Rws.lit h6 rfl (uG [l.fact 1 0,l.fact 1 1]) (by simp [maxLen])
  obtain ⟨s,w7,hr,hR,hE,hb⟩:=(R1.pure ((E4.trans E5).trans E6)).appendL (P:=prog) vL (ty:=71) R2.lst (uG [l.fact 1 0,l.fact 1 1]) (oI [l.fact 1 0,l.fact 1 1]) (by simp) (by simp [maxLen])
  have E06:Pure w0 w6:=((((E1.trans E2).trans E3).trans E4).trans E5).trans E6
  have hp2:w0.heap.size≤p2.block:=New.own (E1.trans E2) h3
  have hs1:∀b,(Sl.mk (some p2) 1 1).blk b→w0.heap.size≤b:=by
   rintro b ⟨a,ha,rfl⟩;cases ha;exact hp2
  refine ⟨s,w7,hr,hK _ _ ⟨?_,fun b h=>(hb b h).elim (hs1 b) (fun h=>by have:=E06.size;omega),E06.trans' hE (fun i hi h=>by have:=hs1 i h;omega)⟩⟩
  have hf:l.fake=false:=by simpa using hf
  have e:Sp.kC l=[l.fact 4 l.frm]++[l.fact 1 0,l.fact 1 1]:=by simp [Sp.kC,hk4,hf]
  rw [e];exact hR
 ·have hk5:l.kind=5:=by simpa using hk5
  exact one 5 2 (by simp [Sp.kC,hk5])
 ·have hk6:l.kind=6:=by simpa using hk6
  refine (vI l 6 2 p w1 b1).mono ?_
  rintro _ w2 ⟨rfl,E2⟩
  refine ⟨_,_,_,_,rfl,(vI l 2 0 p w2 (b1.pure E2)).mono ?_⟩
  rintro _ w3 ⟨rfl,E3⟩
  refine ⟨_,_,_,_,rfl,(vI l 2 1 p w3 (b1.pure (E2.trans E3))).mono ?_⟩
  rintro _ w4 ⟨rfl,E4⟩
  exact ⟨_,_,_,_,rfl,fun p5 w5 h5=>lit [l.fact 6 2,l.fact 2 0,l.fact 2 1] 3 (((E1.trans E2).trans E3).trans E4) h5 rfl rfl (by omega) (by simp [Sp.kC,hk6])⟩
 ·refine hnil w1 E1 ?_
  simp at hk hk2 hk3 hk4 hk5 hk6
  simp [Sp.kC,hk,hk2,hk3,hk4,hk5,hk6]
theorem jDN (p:Option Addr) (t:Int) (w0:World) {L:Sp.Pool} {F:NP} (hP:uJ w0 p L F) (hok:Sp.Ok L) :
  Calls prog 34 #[.pointer p,.int .i64 t] w0 (fun e w'=>∃s:Sl,e=.returned s.v∧RetO w0 75 4 ((Sp.ofS L t).map kG) s w'):=by
 refine w_D2 _ _ w0 (fun s w'=>RetO w0 75 4 ((Sp.ofS L t).map kG) s w') ?_
 unfold m_D2
 refine (vR p t w0 hP hok).mono ?_
 rintro _ w1 ⟨k,f,c,x,fk,ok,rfl,hrd,E1⟩
 have e:Sp.ofS L t=Sp.ofR (⟨k,f,c,x,fk⟩,ok):=by unfold Sp.ofS;rw [← hrd]
 refine ⟨k,f,c,x,fk,ok,rfl,E1.keptP,fun h H w3 hs=>?_,fun h H w3 hs=>?_⟩
 ·have h:ok=false:=by simpa using h
  rw [e,h]
  exact ⟨Rws.nil _ _ _,fun b h=>(by obtain ⟨a,h,_⟩:=h;cases h),E1.hst hs⟩
 ·have h:ok=true:=by simpa using h
  refine (xS ⟨k,f,c,x,fk⟩ w3).mono ?_
  rintro _ w4 ⟨s,rfl,hr⟩
  refine ⟨s,rfl,hr.kept,?_⟩
  rw [e,h]
  exact ⟨hr.rows,fun b hb=>by have:=hr.own b hb;have:=(E1.hst hs).size;omega,(E1.hst hs).trans hr.pure⟩
theorem jBB (p:Option Addr) (t who c:Int) (x:ByteArray) (w0:World) {L:Sp.Pool} {F:NP} (hP:uJ w0 p L F) (hok:Sp.Ok L) :
  Calls prog 35 #[.pointer p,.int .i64 t,.int .i64 who,.int .u64 c,.string x] w0 (fun e w'=>∃r:Int,e=.returned (.int .i64 r)∧(r=Sp.jEY L t who c x∧Pure w0 w')):=by
 suffices key:∀K:Int→WP,(∀w',Pure w0 w'→K (Sp.jEY L t who c x) w')→m_U p t who c x w0 K from
  w_U _ _ _ _ _ w0 _ (key _ (fun _ h=>⟨rfl,h⟩))
 intro K hK
 unfold m_U
 refine (vR p t w0 hP hok).mono ?_
 rintro _ w1 ⟨k,f,c1,x1,fk,ok,rfl,hrd,E1⟩
 have e:Sp.jEY L t who c x=if ok=true then Sp.jAO who c x 2 (Sp.kC ⟨k,f,c1,x1,fk⟩) else 1:=by unfold Sp.jEY;rw [← hrd]
 rw [e] at hK
 refine ⟨k,f,c1,x1,fk,ok,rfl,E1.keptP,fun h H w3 hs=>?_,fun h H w3 hs=>?_⟩
 ·have h:ok=false:=by simpa using h
  rw [h] at hK
  exact hK w3 (E1.hst hs)
 have h:ok=true:=by simpa using h
 rw [h,if_pos rfl] at hK
 refine (xS ⟨k,f,c1,x1,fk⟩ w3).mono ?_
 rintro _ w4 ⟨s,rfl,hr⟩
 have hfl:(Sp.kC ⟨k,f,c1,x1,fk⟩).length≤3:=by
  unfold Sp.kC;repeat' split
  all_goals simp
 generalize Sp.kC ⟨k,f,c1,x1,fk⟩=fs at *
 have O4:Own H w4 75 4 s (fs.map kG):=⟨hr.rows,fun b hb hH=>by have:=hr.own b hb;have:=hs.lt b hH;omega⟩
 have E4:=(E1.hst hs).trans hr.pure
 have hl:s.len=fs.length:=by rw [O4.len];simp
 refine ⟨s,rfl,hr.kept,fun d i H' w'=>∃j:Nat,i=j∧j≤fs.length∧Pure w0 w'∧Own H' w' 75 4 s (fs.map kG)∧Sp.jAO who c x 2 fs=Sp.jAO who c x d (fs.drop j),fun _ i _=>((fs.length:Int) - i).toNat,⟨0,rfl,Nat.zero_le _,E4,O4,rfl⟩,?_⟩
 rintro d _ Hl wl hl' ⟨j,rfl,hj,El,Ol,hw⟩
 unfold m_U_l1
 refine ⟨fun h=>?_,fun h=>?_⟩
 ·have hlt:=zZ hl h
  obtain ⟨a,hat,hrow⟩:=Ol.nth hlt
  rw [List.drop_eq_getElem_cons hlt,Sp.jAO] at hw
  generalize fs[j]=g at *
  refine ⟨a,hat,_,_,_,_,hrow,?_⟩
  have go:∀(d':Int) (H3:NP) (w8:World),Hst w0 Hl wl H3 w8→Sp.jAO who c x 2 fs=Sp.jAO who c x d' (fs.drop (j+1))→(∃j':Nat,IntKind.i64.wrap ((j:Int)+1)=j'∧j'≤fs.length∧Pure w0 w8∧Own H3 w8 75 4 s (fs.map kG)∧Sp.jAO who c x 2 fs=Sp.jAO who c x d' (fs.drop j'))∧((fs.length:Int) - IntKind.i64.wrap ((j:Int)+1)).toNat<((fs.length:Int) - (j:Int)).toNat:=by
   intro d' H3 w8 hs8 h';rw [zB hlt (by omega)];exact ⟨⟨j+1,rfl,hlt,El.hst hs8,Ol.hst hs8,h'⟩,vH hlt⟩
  refine ⟨fun h2 H3 w8 hs8=>go d H3 w8 hs8 ?_,fun h2=>⟨fun h3 H3 w8 hs8=>?_,fun h3=>⟨fun h4 H3 w8 hs8=>⟨_,run_max_int2 _ _ _ _ _ _ _,go _ H3 w8 hs8 ?_⟩,fun h4=>⟨fun h5 H3 w8 hs8=>⟨_,run_max_int2 _ _ _ _ _ _ _,go _ H3 w8 hs8 ?_⟩,fun h5 H3 w8 hs8=>⟨_,run_max_int2 _ _ _ _ _ _ _,go _ H3 w8 hs8 ?_⟩⟩⟩⟩⟩
  ·rw [hw,if_pos (bne_iff_ne.1 h2)]
  ·have h2:g.kind=2:=by simpa using h2
   simp at h3
   rw [hw,if_neg (by simp [h2]),if_pos h3.2] at hK
   exact hK w8 (El.hst hs8)
  all_goals
   have h2:g.kind=2:=by simpa using h2
   have h3:¬ (g.who=who∧g.c=c∧g.text=x):=by simpa [h2] using h3
   rw [hw,if_neg (by simp [h2]),if_neg h3]
  ·rw [if_pos (bne_iff_ne.1 h4)]
  ·have h4:g.who=who:=by simpa using h4
   rw [if_neg (by simp [h4]),if_pos (bne_iff_ne.1 h5)]
  ·have h4:g.who=who:=by simpa using h4
   have h5:g.c=c:=by simpa using h5
   rw [if_neg (by simp [h4]),if_neg (by simp [h5])]
 ·have hge:=kA hl hj h
  subst hge
  rw [List.drop_length,Sp.jAO] at hw
  rw [hw] at hK
  exact hK wl El
theorem tO (p:Addr) (a b:Int) (w0:World) {L:Sp.Pool} {F:NP} (hP:jO w0 p L F) (hok:Sp.Ok L) :
  Calls prog 90 #[.pointer (some p),.int .i64 a,.int .i64 b] w0 (fun e w'=>∃k f c:Int,∃x:ByteArray,∃g r:Bool,∃r2:Int,e=.returned (.tuple #[.agg #[.int .i64 k,.int .i64 f,.int .u64 c,.string x,.bool g],.bool r,.int .i64 r2])∧(((⟨k,f,c,x,g⟩:Sp.Letter),r,r2)=Sp.uS L a b∧Pure w0 w')):=by
 suffices key:∀K:Int→Int→Int→ByteArray→Bool→Bool→Int→WP,(∀k f c x g r r2 w',((⟨k,f,c,x,g⟩:Sp.Letter),r,r2)=Sp.uS L a b→Pure w0 w'→K k f c x g r r2 w')→m_P (some p) a b w0 K from
  w_P _ _ _ w0 _ (key _ (fun _ _ _ _ _ _ _ _ h E=>⟨h,E⟩))
 intro K hK
 unfold m_P
 refine Br.f rfl ?_
 intro H1 w1 hs1
 have E1:Pure w0 w1:=hs1.first
 have J:∀z:Bool,(z=true↔Sp.sizeOf L a=0∨Sp.sizeOf L b=0)→m_P_j1 (some p) a b z w0 H1 w1 K:=by
  intro z hz;unfold m_P_j1;refine ⟨fun h w3 hs3=>hK _ _ _ _ _ _ _ _ ?_ (E1.hst hs3),fun h=>?_⟩
  ·unfold Sp.uS;rw [if_pos (hz.1 h)];rfl
  have hn:¬ (Sp.sizeOf L a=0∨Sp.sizeOf L b=0):=fun h'=>by rw [hz.2 h'] at h;cases h
  refine (qD p a w1 (hP.pure E1) hok).mono ?_;rintro _ w4 ⟨k,f,c,x,g,ok,rfl,hrd,E4⟩;refine ⟨k,f,c,x,g,ok,rfl,E4.keptP,fun H2 w6 hs6=>?_⟩;have E6:=(E1.trans E4).hst hs6;refine (qD p b w6 (hP.pure E6) hok).mono ?_;rintro _ w7 ⟨k2,f2,c2,x2,g2,ok2,rfl,hrd2,E7⟩;have e1:(Sp.xC L a).1=⟨k,f,c,x,g⟩:=(congrArg Prod.fst hrd).symm;have e2:(Sp.xC L b).1=⟨k2,f2,c2,x2,g2⟩:=(congrArg Prod.fst hrd2).symm;have E67:=E6.trans E7;refine ⟨k2,f2,c2,x2,g2,ok2,rfl,E7.keptP,fun h2 H4 w11 hs11=>hK _ _ _ _ _ _ _ _ ?_ (E67.hst hs11),fun h2 y hy=>?_⟩
  ·rw [Bool.or_eq_true] at h2;unfold Sp.uS;rw [if_neg hn,e1,e2,if_pos (h2.imp bne_iff_ne.1 bne_iff_ne.1)];rfl
  rw [Bool.or_eq_false_iff] at h2;have hb:¬ (k≠1∨k2≠1):=by simpa using h2
  refine ⟨fun h3 H10 w20 hs20=>hK _ _ _ _ _ _ _ _ ?_ (E67.hst hs20),fun h3 H10 w21 hs21=>hK _ _ _ _ _ _ _ _ ?_ (E67.hst hs21)⟩
  all_goals
   unfold Sp.uS
   rw [if_neg hn,e1,e2,if_neg hb]
  ·rw [if_pos];rw [h3] at hy;simp at hy;rcases hy with (((h | h) | h) | h)
   ·exact .inl h
   ·exact .inr (.inl h)
   ·exact .inr (.inr (.inl h))
   ·exact .inr (.inr (.inr h))
  ·rw [if_neg];rw [h3] at hy;simp at hy;rintro (h | h | h | h)
   ·exact h hy.1.1.1
   ·exact h hy.1.1.2
   ·exact h hy.1.2
   ·exact h hy.2
 refine (jDR p a w1 (hP.pure E1) hok).mono ?_
 rintro _ w2 ⟨_,rfl,rfl,rfl⟩
 refine ⟨_,rfl,Kept.refl _,fun h=>?_,fun h=>?_⟩
 ·exact J true ⟨fun _=>.inl (by simpa using h),fun _=>rfl⟩
 refine (jDR p b w1 (hP.pure E1) hok).mono ?_
 rintro _ w3 ⟨_,rfl,rfl,rfl⟩
 refine ⟨_,rfl,Kept.refl _,J _ ?_⟩
 have h:¬ Sp.sizeOf L a=0:=by simpa using h
 simp [h]
theorem jBT {S:NP} (s:Sl) (who:Int) (fs:List Sp.Fact) (w0:World) (hs:Lst S w0 4 s (fs.map kG)) (hS:∀b,S b→b<w0.heap.size) (hn:fs.length≤1000000) :
  Calls prog 40 #[s.v,.int .i64 who] w0 (fun e w'=>∃r:Sl,e=.returned r.v∧RetO w0 75 4 ((Sp.zW who fs).map kG) r w'):=by
 suffices key:∀K:Sl→WP,(∀r w',RetO w0 75 4 ((Sp.zW who fs).map kG) r w'→K r w')→m_W s who w0 K from
  w_W _ _ w0 _ (key _ (fun _ _ h=>h))
 intro K hK
 unfold m_W
 have hl:s.len=fs.length:=by rw [hs.len];simp
 refine ⟨fun o i H w'=>∃j:Nat,i=j∧j≤fs.length∧Pure w0 w'∧(∀b,o.blk b→w0.heap.size≤b)∧Own H w' 75 4 o ((Sp.zW who (fs.take j)).map kG),fun _ i _=>((fs.length:Int) - i).toNat,⟨0,rfl,Nat.zero_le _,Ext.refl _,fun b h=>(by obtain ⟨a,h,_⟩:=h;cases h),Own.nil _ _⟩,?_⟩
 rintro o _ Hl wl hl' ⟨j,rfl,hj,El,hown,Ol⟩
 unfold m_W_l1
 refine ⟨fun h=>?_,fun h=>?_⟩
 ·have hlt:=zZ hl h
  obtain ⟨a,hat,_,hrow⟩:=(hs.pure El).nth hlt
  have htk:Sp.zW who (fs.take (j+1))=Sp.zW who (fs.take j)++(if (fs[j].kind == 2 && fs[j].who == who)=true then [fs[j]] else []):=by
   rw [List.take_succ_eq_append_getElem hlt,Sp.zW,Sp.zW,List.filter_append];simp only [List.filter_cons,List.filter_nil]
  have hbl:(Sp.zW who (fs.take j)).length≤j:=by
   have:=List.length_filter_le (fun f:Sp.Fact=>f.kind == 2 && f.who == who) (fs.take j);unfold Sp.zW;rw [List.length_take] at this;omega
  generalize fs[j]=g at *
  refine ⟨a,hat,_,_,_,_,hrow,fun h2 H2 w3 hs3 p2 w4 h4=>?_,fun h2 H2 w3 hs3=>?_⟩
  ·rw [if_pos h2] at htk
   have E4:Pure w3 w4:=Ext.new h4
   have O4:=(Ol.hst hs3).pure E4
   have hE4:=(El.hst hs3).trans E4
   have hrow4:Row w4 p2 (kG g):=(Box.of_new h4).row
   obtain ⟨s',w5,hr,hO,hE,hk,hb⟩:=O4.append (P:=prog) (ty:=71) (c:=1) vL (hl'.trans hs3 |>.again E4.keptP) hrow4 rfl rfl (by simp;omega) (by simp [maxLen];omega)
   refine ⟨s',w5,hr,hk,?_⟩
   rw [zB hlt (by omega)]
   refine ⟨⟨j+1,rfl,hlt,jBX O4 hE4 hE hown,fun b h=>(hb b h).elim (hown b) (fun h=>by have:=hE4.size;omega),?_⟩,vH hlt⟩
   rw [htk,List.map_append];exact hO
  ·rw [if_neg (by simp [h2]),List.append_nil] at htk
   rw [zB hlt (by omega)]
   exact ⟨⟨j+1,rfl,hlt,El.hst hs3,hown,by rw [htk];exact Ol.hst hs3⟩,vH hlt⟩
 ·have hge:=kA hl hj h
  subst hge
  rw [List.take_length] at Ol
  exact hK _ _ ⟨Ol.rows,hown,El⟩
end Go.Proofs
end
section
open Go Go.SE
open Go.IntKind renaming i64 → q6
namespace Go.Proofs
open Tryz
set_option maxRecDepth 100000
set_option maxHeartbeats 4000000
attribute [local irreducible] wpL wpX opE wpE Calls
theorem zY (a0 a1 a2:Int) (a3:ByteArray) (b0 b1 b2:Int) (b3:ByteArray) (w:World):(Go.binOp .eql 75 (.agg #[(.int .i64 a0),(.int .i64 a1),(.int .u64 a2),(.string a3)]) (.agg #[(.int .i64 b0),(.int .i64 b1),(.int .u64 b2),(.string b3)])).run prog w=.ok (.bool ((a0 == b0) && ((a1 == b1) && ((a2 == b2) && (decide (a3=b3)))))) w:=by
 simp [Go.binOp,Op.equal,Op.maxDepth,go_sem,tW,bne]
 repeat' split
 all_goals simp_all
theorem zX (a0 a1 a2:Int) (a3:ByteArray) (b0 b1 b2:Int) (b3:ByteArray) (w:World):(Go.binOp .neq 75 (.agg #[(.int .i64 a0),(.int .i64 a1),(.int .u64 a2),(.string a3)]) (.agg #[(.int .i64 b0),(.int .i64 b1),(.int .u64 b2),(.string b3)])).run prog w=.ok (.bool (!((a0 == b0) && ((a1 == b1) && ((a2 == b2) && (decide (a3=b3))))))) w:=by
 simp [Go.binOp,Op.equal,Op.maxDepth,go_sem,tW,bne]
 repeat' split
 all_goals simp_all
def m_N_l2 (s1 s2:Sl) (k2 k21:Int) (w0:World) (Hl2:NP) (wl2:World) (Kc2:Int→Int→NP→WP) (K:Sl→WP):Prop :=Br (decide (k21<(s2.len:Int))) (∃a3:Addr,At s2 k21 4 a3∧∀w2,Hst w0 Hl2 wl2 Hl2 w2→∃aA aB aC aD,Row w2 a3 (Af aA aB aC aD)∧∃a4:Addr,At s2 (q6.wrap (k21 - 1)) 4 a4∧∃aE aF aG aH,Row w2 a4 (Af aE aF aG aH)∧Br (!((aA == aE) && ((aB == aF) && ((aC == aG) && (decide (aD=aH)))))) (∃a5:Addr,At s2 k21 4 a5∧∃aQ aR aS aT,Row w2 a5 (Af aQ aR aS aT)∧∃a6:Addr,At s1 k2 4 a6∧(∀j,j<4→jW w2 (a6.add j))∧¬ Hl2 a6.block∧∀w3,w3=storeRow w2 a6 (Af aQ aR aS aT)→Kc2 (q6.wrap (k2+1)) (q6.wrap (k21+1)) Hl2 w3) (Kc2 k2 (q6.wrap (k21+1)) Hl2 w2)) (∃s3:Sl,(Instr.sliceAt 71 s1.v (some (vi k2)) none none).run prog wl2=.ok s3.v wl2∧∃w4:World,(Builtin.clear_ #[71] 0 #[s3.v]).run prog wl2=.ok (.tuple #[]) w4∧Kept Hl2 wl2 w4∧∃s4:Sl,(Instr.sliceAt 71 s1.v none (some (vi k2)) none).run prog w4=.ok s4.v w4∧K s4 w4)
def m_N_l1 (s1:Sl) (k1:Int) (w0:World) (Hl1:NP) (wl1:World) (Kc1:Int→NP→WP) (K:Sl→WP):Prop :=Br (decide (k1<(s1.len:Int))) (∃a1:Addr,At s1 k1 4 a1∧∀w1,Hst w0 Hl1 wl1 Hl1 w1→∃aI aJ aK aL,Row w1 a1 (Af aI aJ aK aL)∧∃a2:Addr,At s1 (q6.wrap (k1 - 1)) 4 a2∧∃aM aN aO aP,Row w1 a2 (Af aM aN aO aP)∧Br ((aI == aM) && ((aJ == aN) && ((aK == aO) && (decide (aL=aP))))) (∃s2:Sl,(Instr.sliceAt 71 s1.v (some (vi k1)) none none).run prog w1=.ok s2.v w1∧∃(I2:Int→Int→NP→WP) (mu2:Int→Int→World→Nat),I2 k1 1 Hl1 w1∧∀(k2 k21:Int) (Hl2:NP) (wl2:World),Hst w0 Hl2 wl2 Hl2 wl2→I2 k2 k21 Hl2 wl2→m_N_l2 s1 s2 k2 k21 w0 Hl2 wl2 (fun y'0 y'1 H' w'=>I2 y'0 y'1 H' w'∧mu2 y'0 y'1 w'<mu2 k2 k21 wl2) K) (Kc1 (q6.wrap (k1+1)) Hl1 w1)) (K s1 wl1)
def m_N (s1:Sl) (w0:World) (K:Sl→WP):Prop :=Br (decide ((s1.len:Int)<2)) (K s1 w0) (∃(I1:Int→NP→WP) (mu1:Int→World→Nat),I1 1 None w0∧∀(k1:Int) (Hl1:NP) (wl1:World),Hst w0 Hl1 wl1 Hl1 wl1→I1 k1 Hl1 wl1→m_N_l1 s1 k1 w0 Hl1 wl1 (fun y'0 H' w'=>I1 y'0 H' w'∧mu1 y'0 w'<mu1 k1 wl1) K)
theorem w_N (s1 w0 K) (h:m_N s1 w0 K):
  Calls prog 82 #[s1.v] w0 (fun e w'=>∃r1:Sl,e=.returned r1.v∧K r1 w'):=by
 refine cw (args:=[s1.v]) func82 ntmps82 ?_
 obtain ⟨hs,hb⟩:=st0 w0
 refine eg (q (ln (jA (eg (qc (jD (jK (cbr h ?_ ?_))))))))<;>intro h
 refine eg (qb (ln (er (jY (rs1 results82 ⟨s1,rfl,h⟩)))))
 refine jB (jK (jA (eg (q (ln (jH ?_))))))
 obtain ⟨I1,mu1,h0,hr⟩:=h
 refine zT (σ:=Int×NP×World) (fun s ρ w=>w=s.2.2∧Has ρ [(0,s1.v),(3,(vi s.1))]∧Hst w0 s.2.1 w s.2.1 w∧HB s.2.1 w []∧I1 s.1 s.2.1 s.2.2) (fun s=>mu1 s.1 s.2.2) (1,None,w0) ⟨rfl,hm,hs,hb,h0⟩ ?_
 rintro ⟨k1,Hl1,wl1⟩ ρ w ⟨hw,hH,hs,hb,hI⟩
 dsimp only at hw hH hs hb;subst w
 have h:=hr k1 Hl1 wl1 hs hI
 refine jQ hH (jA (eg (qd (ln (cbr h ?_ ?_)))))<;>intro h
 refine jB (jK (jA (jH (jA (qT (by kernel_rfl) (by kernel_rfl) (by kernel_rfl) (by kernel_rfl) ?_)))))
 intro w1 hw1
 have hs:Hst w0 Hl1 wl1 Hl1 w1:=by rw [hw1];exact hs.drew
 have hb:HB Hl1 w1 []:=by rw [hw1];exact hb.drew
 refine qq 0 s1.v Kp0 (qq 1 (vi k1) Kp1 (qg 2 ?_))
 obtain ⟨a1,hv15,h⟩:=h
 refine sxQ Kp2 (jL rfl) rfl (xi (runUnderlying71 _) (sizeOf75 _) hv15) (qg 3 ?_)
 have ⟨h,hs⟩:=hs.hr (h w1)
 obtain ⟨aI,aJ,aK,aL,hv14,h⟩:=h
 refine sxQ (v:=(Ag aI aJ aK aL)) Kp3 (jL rfl) rfl (xa a1 (Af aI aJ aK aL) (isAgg75 _) (sizeOf75 _) hv14) (qq 4 s1.v Kp4 (qq 5 (vi k1) Kp5 (qq 6 (vi (q6.wrap (k1 - 1))) Kp6 (qg 7 ?_))))
 obtain ⟨a2,hv13,h⟩:=h
 refine sxQ Kp7 (jL rfl) rfl (xi (runUnderlying71 _) (sizeOf75 _) hv13) (qg 8 ?_)
 obtain ⟨aM,aN,aO,aP,hv12,h⟩:=h
 refine sxQ (v:=(Ag aM aN aO aP)) Kp8 (jL rfl) rfl (xa a2 (Af aM aN aO aP) (isAgg75 _) (sizeOf75 _) hv12) (qr 9 (vb ((aI == aM) && ((aJ == aN) && ((aK == aO) && (decide (aL=aP)))))) Kp9 (xY (by kernel_rfl) (by kernel_rfl) (by kernel_rfl) (zY aI aJ aK aL aM aN aO aP _)) (wn (jK (cbr h ?_ ?_))))<;>intro h
 refine eg (qb ?_)
 obtain ⟨s2,hv11,h⟩:=h
 refine q2 s2.v (yY (by kernel_rfl) (by kernel_rfl) (by kernel_rfl) (by kernel_rfl) hv11) (q (ln (jA (eg (q (ln (jH ?_)))))))
 obtain ⟨I2,mu2,h0,hr⟩:=h
 refine zT (σ:=Int×Int×NP×World) (fun s ρ w=>w=s.2.2.2∧Has ρ [(0,s1.v),(3,(vi s.1)),(4,s2.v),(5,(vi s.2.1))]∧Hst w0 s.2.2.1 w s.2.2.1 w∧HB s.2.2.1 w []∧I2 s.1 s.2.1 s.2.2.1 s.2.2.2) (fun s=>mu2 s.1 s.2.1 s.2.2.2) (k1,1,Hl1,w1) ⟨rfl,hm,hs,hb,h0⟩ ?_
 rintro ⟨k2,k21,Hl2,wl2⟩ ρ w ⟨hw,hH,hs,hb,hI⟩
 dsimp only at hw hH hs hb;subst w
 have h:=hr k2 k21 Hl2 wl2 hs hI
 refine jQ hH (jA (eg (qd (ln (cbr h ?_ ?_)))))<;>intro h
 refine jB (jK (jA (jH (jA (qT (by kernel_rfl) (by kernel_rfl) (by kernel_rfl) (by kernel_rfl) ?_)))))
 intro w2 hw2
 have hs:Hst w0 Hl2 wl2 Hl2 w2:=by rw [hw2];exact hs.drew
 have hb:HB Hl2 w2 []:=by rw [hw2];exact hb.drew
 refine qq 0 s2.v Kp0 (qq 1 (vi k21) Kp1 (qg 2 ?_))
 obtain ⟨a3,hv7,h⟩:=h
 refine sxQ Kp2 (jL rfl) rfl (xi (runUnderlying71 _) (sizeOf75 _) hv7) (qg 3 ?_)
 have ⟨h,hs⟩:=hs.hr (h w2)
 obtain ⟨aA,aB,aC,aD,hv6,h⟩:=h
 refine sxQ (v:=(Ag aA aB aC aD)) Kp3 (jL rfl) rfl (xa a3 (Af aA aB aC aD) (isAgg75 _) (sizeOf75 _) hv6) (qq 4 s2.v Kp4 (qq 5 (vi k21) Kp5 (qq 6 (vi (q6.wrap (k21 - 1))) Kp6 (qg 7 ?_))))
 obtain ⟨a4,hv5,h⟩:=h
 refine sxQ Kp7 (jL rfl) rfl (xi (runUnderlying71 _) (sizeOf75 _) hv5) (qg 8 ?_)
 obtain ⟨aE,aF,aG,aH,hv4,h⟩:=h
 refine sxQ (v:=(Ag aE aF aG aH)) Kp8 (jL rfl) rfl (xa a4 (Af aE aF aG aH) (isAgg75 _) (sizeOf75 _) hv4) (qr 9 (vb (!((aA == aE) && ((aB == aF) && ((aC == aG) && (decide (aD=aH))))))) Kp9 (xY (by kernel_rfl) (by kernel_rfl) (by kernel_rfl) (zX aA aB aC aD aE aF aG aH _)) (wn (jK (cbr h ?_ ?_))))<;>intro h
 refine eg (qd (qi (runUnderlying71 _) (sizeOf75 _) h fun a5 h=>?_))
 obtain ⟨aQ,aR,aS,aT,hv2,h⟩:=h
 refine qa (isAgg75 _) (sizeOf75 _) hv2 (qi (runUnderlying71 _) (sizeOf75 _) h fun a6 h=>?_)
 obtain ⟨hp1,hnh,h⟩:=h
 refine ss (xo a6 (Af aQ aR aS aT) (sizeOf75 _) hp1) ?_
 intro w3 hn1
 have h:=h w3 hn1
 have hk:Kept Hl2 w2 w3:=by rw [hn1];exact Kept.storeRow hnh
 obtain ⟨hs,hb⟩:=hk.hh hs hb
 refine ln (rg (qc (jD (vS (jK (rg (qb (q (ln ⟨((q6.wrap (k2+1)),(q6.wrap (k21+1)),Hl2,w3),⟨rfl,hm,hs,hb,h.1⟩,h.2⟩)))))))))
 refine jB (vS (jK (rg (qc (ln ⟨(k2,(q6.wrap (k21+1)),Hl2,w2),⟨rfl,hm,hs,hb,h.1⟩,h.2⟩)))))
 refine zL (qL (qL (qI (jK (eg (q0 s1.v (q0 (vi k2) ?_)))))))
 obtain ⟨s3,hv10,h⟩:=h
 refine q2 s3.v (yY (by kernel_rfl) (by kernel_rfl) (by kernel_rfl) (by kernel_rfl) hv10) ?_
 obtain ⟨w4,hv9,hk,h⟩:=h
 refine st (v:=(.tuple #[])) (jL rfl) (zD (args:=#[s3.v]) (by kernel_rfl) (fun _=>rfl) hv9) ?_
 obtain ⟨hs,hb⟩:=hk.hh hs hb
 refine ln (eg (qb ?_))
 obtain ⟨s4,hv8,h⟩:=h
 refine q2 s4.v (yY (by kernel_rfl) (by kernel_rfl) (by kernel_rfl) (by kernel_rfl) hv8) (q (ln (er (vB (jY (jY (vB (jY (rs1 results82 ⟨s4,rfl,h⟩)))))))))
 refine jB (vS (jK (rg (qc (ln ⟨((q6.wrap (k1+1)),Hl1,w1),⟨rfl,hm,hs,hb,h.1⟩,h.2⟩)))))
 refine zL (qL (qL (qI (jK (eg (q0 s1.v (q0 s1.v (ln (er (rs1 results82 ⟨s1,rfl,h⟩))))))))))
def m_Y_l1 (vals1:Sl) (x1:Int) (wl1:World) (Kc1:Int→WP) (K:Int→WP):Prop :=Br (decide (x1<(vals1.len:Int))) (∃a1:Addr,At vals1 x1 1 a1∧∃v1,wl1.cell? a1=some (vi v1)∧Br (v1 != 0) (K v1 wl1) (Kc1 (q6.wrap (x1+1)) wl1)) (K 0 wl1)
def m_Y (vals1:Sl) (w0:World) (K:Int→WP):Prop :=∃(I1:Int→WP) (mu1:Int→World→Nat),I1 0 w0∧∀(x1:Int) (wl1:World),I1 x1 wl1→m_Y_l1 vals1 x1 wl1 (fun y'0 w'=>I1 y'0 w'∧mu1 y'0 w'<mu1 x1 wl1) K
theorem w_Y (vals1 w0 K) (h:m_Y vals1 w0 K):
  Calls prog 83 #[vals1.v] w0 (fun e w'=>∃r1,e=.returned (vi r1)∧K r1 w'):=by
 refine cw (args:=[vals1.v]) func83 ntmps83 (eg (q0 (vi 0) (ln (eg (q0 (vi 0) (ln (jA ?_)))))))
 refine eg (qc (ln (jH ?_)))
 obtain ⟨I1,mu1,h0,hr⟩:=h
 refine zT (σ:=Int×World) (fun s ρ w=>w=s.2∧Has ρ [(3,(vi 0)),(6,vals1.v),(7,(vi (vals1.len:Int))),(8,(vi s.1))]∧I1 s.1 s.2) (fun s=>mu1 s.1 s.2) (0,w0) ⟨rfl,hm,h0⟩ ?_
 rintro ⟨x1,wl1⟩ ρ w ⟨hw,hH,hI⟩
 dsimp only at hw hH;subst w
 have h:=hr x1 wl1 hI
 refine jQ hH (eg (q (ln (jA (cbr h ?_ ?_)))))<;>intro h
 refine jB (jK (jA (jH (eg (qi (runUnderlying42 _) (sizeOf3 _) h fun a1 h=>ql (isAgg3 _) h fun v1 h=>q (ln (eg (qc (ln (cbr h ?_ ?_))))))))))<;>intro h
 refine eg (qb (ln (er (vB (jY (jY (vB (jY (rs1 results83 ⟨v1,rfl,h⟩)))))))))
 refine jB (vS (jK (rg (qb (ln ⟨((q6.wrap (x1+1)),wl1),⟨rfl,hm,h.1⟩,h.2⟩)))))
 refine zL (qL (qL (qI (jK (eg (q0 (vi 0) (q0 (vi 0) (ln (er (rs1 results83 ⟨0,rfl,h⟩))))))))))
def s_L1 (x1:Int):Bool :=(x1 != x1)
theorem pw_L1 (x1:Int) (w0:World) :
  Calls prog 156 #[(vu x1)] w0 (fun e w'=>(e=.returned (vb (x1 != x1)))∧Pure w0 w'):=by
 refine cw (args:=[(vu x1)]) func156 ntmps156 (eg (q0 (vb false) (ln (eg (q0 (vu x1) (q0 (vu x1) (q0 (vb (x1 != x1)) (q0 (vb (x1 != x1)) ?_))))))))
 refine ln (er (rs1 results156 (v:=(vb (x1 != x1))) ⟨by kernel_rfl,Ext.refl _⟩))
theorem p_L1 (x1:Int) (w0:World):Calls prog 156 #[(.int .u64 x1)] w0 (fun e w'=>e=.returned (.bool (s_L1 x1))∧Pure w0 w'):=pw_L1 x1 w0
def s_E1 (x1 y1:Int):Int :=(cond (x1 != x1) (cond (y1 != y1) 0 (-1)) (cond (y1 != y1) 1 (cond (decide (x1<y1)) (-1) (cond (decide (x1>y1)) 1 0))))
theorem pw_E1 (x1 y1:Int) (w0:World) :
  Calls prog 84 #[(vu x1),(vu y1)] w0 (fun e w'=>∃b'0 b'1 b'2 b'3:Bool,((x1 != x1)=b'0∧(y1 != y1)=b'1∧(decide (x1<y1))=b'2∧(decide (x1>y1))=b'3)∧(e=.returned (vi (cond b'0 (cond b'1 0 (-1)) (cond b'1 1 (cond b'2 (-1) (cond b'3 1 0))))))∧Pure w0 w'):=by
 refine cw (args:=[(vu x1),(vu y1)]) func84 ntmps84 ?_
 obtain ⟨hs,hb⟩:=st0 w0
 refine eg (q (ln (eg (q (sc call156 ((p_L1 x1 w0).mono ?_))))))
 rintro e w1 ⟨he,hE⟩
 refine ⟨_,he,?_⟩
 obtain ⟨hs,hb⟩:=hs.pp hb hE
 refine q (ln (eg (q (sc call156 ((p_L1 y1 w1).mono ?_)))))
 rintro e w2 ⟨he,hE⟩
 refine ⟨_,he,?_⟩
 obtain ⟨hs,hb⟩:=hs.pp hb hE
 refine q (ln (jA (eg (q (ln (zQ (t:=(x1 != x1)) (by kernel_rfl) (fun hc1=>?_) (fun hc1=>?_)))))))
 refine jA (eg (q (ln (zQ (t:=(y1 != y1)) (by kernel_rfl) (fun hc2=>?_) (fun hc2=>?_)))))
 refine eg (q (ln (er (jY (jY (rs1 results84 (v:=(vi 0)) ⟨true,true,_,_,⟨hc1,hc2,rfl,rfl⟩,by kernel_rfl,(Ext.refl (F:=None) _).hst hs⟩))))))
 refine jB (jK (eg (q (ln (er (jY (rs1 results84 (v:=(vi (-1))) ⟨true,false,_,_,⟨hc1,hc2,rfl,rfl⟩,by kernel_rfl,(Ext.refl (F:=None) _).hst hs⟩)))))))
 refine jB (jK (jA (eg (q (ln (zQ (t:=(y1 != y1)) (by kernel_rfl) (fun hc3=>?_) (fun hc3=>?_)))))))
 refine eg (q (ln (er (jY (rs1 results84 (v:=(vi 1)) ⟨false,true,_,_,⟨hc1,hc3,rfl,rfl⟩,by kernel_rfl,(Ext.refl (F:=None) _).hst hs⟩)))))
 refine jB (jK (jA (eg (qc (ln (zQ (t:=(decide (x1<y1))) (by kernel_rfl) (fun hc4=>?_) (fun hc4=>?_)))))))
 refine eg (q (ln (er (jY (rs1 results84 (v:=(vi (-1))) ⟨false,false,true,_,⟨hc1,hc3,hc4,rfl⟩,by kernel_rfl,(Ext.refl (F:=None) _).hst hs⟩)))))
 refine jB (jK (jA (eg (qc (ln (zQ (t:=(decide (x1>y1))) (by kernel_rfl) (fun hc5=>?_) (fun hc5=>?_)))))))
 refine eg (q (ln (er (jY (rs1 results84 (v:=(vi 1)) ⟨false,false,false,true,⟨hc1,hc3,hc4,hc5⟩,by kernel_rfl,(Ext.refl (F:=None) _).hst hs⟩)))))
 refine jB (jK (eg (q (ln (er (rs1 results84 (v:=(vi 0)) ⟨false,false,false,false,⟨hc1,hc3,hc4,hc5⟩,by kernel_rfl,(Ext.refl (F:=None) _).hst hs⟩))))))
theorem p_E1 (x1 y1:Int) (w0:World):Calls prog 84 #[(.int .u64 x1),(.int .u64 y1)] w0 (fun e w'=>e=.returned (.int .i64 (s_E1 x1 y1))∧Pure w0 w'):=by
 refine (pw_E1 x1 y1 w0).mono ?_;rintro e w' ⟨b'0,b'1,b'2,b'3,⟨e0,e1,e2,e3⟩,h,E⟩;subst e0;subst e1;subst e2;subst e3;exact ⟨h,E⟩
def s_M1 (x1:Int):Bool :=(x1 != x1)
theorem pw_M1 (x1:Int) (w0:World) :
  Calls prog 157 #[(vi x1)] w0 (fun e w'=>(e=.returned (vb (x1 != x1)))∧Pure w0 w'):=by
 refine cw (args:=[(vi x1)]) func157 ntmps157 (eg (q0 (vb false) (ln (eg (q0 (vi x1) (q0 (vi x1) (q0 (vb (x1 != x1)) (q0 (vb (x1 != x1)) ?_))))))))
 refine ln (er (rs1 results157 (v:=(vb (x1 != x1))) ⟨by kernel_rfl,Ext.refl _⟩))
theorem p_M1 (x1:Int) (w0:World):Calls prog 157 #[(.int .i64 x1)] w0 (fun e w'=>e=.returned (.bool (s_M1 x1))∧Pure w0 w'):=pw_M1 x1 w0
def s_F1 (x1 y1:Int):Int :=(cond (x1 != x1) (cond (y1 != y1) 0 (-1)) (cond (y1 != y1) 1 (cond (decide (x1<y1)) (-1) (cond (decide (x1>y1)) 1 0))))
theorem pw_F1 (x1 y1:Int) (w0:World) :
  Calls prog 85 #[(vi x1),(vi y1)] w0 (fun e w'=>∃b'0 b'1 b'2 b'3:Bool,((x1 != x1)=b'0∧(y1 != y1)=b'1∧(decide (x1<y1))=b'2∧(decide (x1>y1))=b'3)∧(e=.returned (vi (cond b'0 (cond b'1 0 (-1)) (cond b'1 1 (cond b'2 (-1) (cond b'3 1 0))))))∧Pure w0 w'):=by
 refine cw (args:=[(vi x1),(vi y1)]) func85 ntmps85 ?_
 obtain ⟨hs,hb⟩:=st0 w0
 refine eg (q (ln (eg (q (sc call157 ((p_M1 x1 w0).mono ?_))))))
 rintro e w1 ⟨he,hE⟩
 refine ⟨_,he,?_⟩
 obtain ⟨hs,hb⟩:=hs.pp hb hE
 refine q (ln (eg (q (sc call157 ((p_M1 y1 w1).mono ?_)))))
 rintro e w2 ⟨he,hE⟩
 refine ⟨_,he,?_⟩
 obtain ⟨hs,hb⟩:=hs.pp hb hE
 refine q (ln (jA (eg (q (ln (zQ (t:=(x1 != x1)) (by kernel_rfl) (fun hc1=>?_) (fun hc1=>?_)))))))
 refine jA (eg (q (ln (zQ (t:=(y1 != y1)) (by kernel_rfl) (fun hc2=>?_) (fun hc2=>?_)))))
 refine eg (q (ln (er (jY (jY (rs1 results85 (v:=(vi 0)) ⟨true,true,_,_,⟨hc1,hc2,rfl,rfl⟩,by kernel_rfl,(Ext.refl (F:=None) _).hst hs⟩))))))
 refine jB (jK (eg (q (ln (er (jY (rs1 results85 (v:=(vi (-1))) ⟨true,false,_,_,⟨hc1,hc2,rfl,rfl⟩,by kernel_rfl,(Ext.refl (F:=None) _).hst hs⟩)))))))
 refine jB (jK (jA (eg (q (ln (zQ (t:=(y1 != y1)) (by kernel_rfl) (fun hc3=>?_) (fun hc3=>?_)))))))
 refine eg (q (ln (er (jY (rs1 results85 (v:=(vi 1)) ⟨false,true,_,_,⟨hc1,hc3,rfl,rfl⟩,by kernel_rfl,(Ext.refl (F:=None) _).hst hs⟩)))))
 refine jB (jK (jA (eg (qc (ln (zQ (t:=(decide (x1<y1))) (by kernel_rfl) (fun hc4=>?_) (fun hc4=>?_)))))))
 refine eg (q (ln (er (jY (rs1 results85 (v:=(vi (-1))) ⟨false,false,true,_,⟨hc1,hc3,hc4,rfl⟩,by kernel_rfl,(Ext.refl (F:=None) _).hst hs⟩)))))
 refine jB (jK (jA (eg (qc (ln (zQ (t:=(decide (x1>y1))) (by kernel_rfl) (fun hc5=>?_) (fun hc5=>?_)))))))
 refine eg (q (ln (er (jY (rs1 results85 (v:=(vi 1)) ⟨false,false,false,true,⟨hc1,hc3,hc4,hc5⟩,by kernel_rfl,(Ext.refl (F:=None) _).hst hs⟩)))))
 refine jB (jK (eg (q (ln (er (rs1 results85 (v:=(vi 0)) ⟨false,false,false,false,⟨hc1,hc3,hc4,hc5⟩,by kernel_rfl,(Ext.refl (F:=None) _).hst hs⟩))))))
theorem p_F1 (x1 y1:Int) (w0:World):Calls prog 85 #[(.int .i64 x1),(.int .i64 y1)] w0 (fun e w'=>e=.returned (.int .i64 (s_F1 x1 y1))∧Pure w0 w'):=by
 refine (pw_F1 x1 y1 w0).mono ?_;rintro e w' ⟨b'0,b'1,b'2,b'3,⟨e0,e1,e2,e3⟩,h,E⟩;subst e0;subst e1;subst e2;subst e3;exact ⟨h,E⟩
def s_N1 (x1:ByteArray):Bool :=(!(decide (x1=x1)))
theorem pw_N1 (x1:ByteArray) (w0:World) :
  Calls prog 158 #[(vs x1)] w0 (fun e w'=>(e=.returned (vb (!(decide (x1=x1)))))∧Pure w0 w'):=by
 refine cw (args:=[(vs x1)]) func158 ntmps158 (eg (q0 (vb false) (ln (eg (q0 (vs x1) (q0 (vs x1) (q2 (vb (!(decide (x1=x1)))) (vK (by kernel_rfl) (by kernel_rfl)) (q0 (vb (!(decide (x1=x1)))) ?_))))))))
 refine ln (er (rs1 results158 (v:=(vb (!(decide (x1=x1))))) ⟨by kernel_rfl,Ext.refl _⟩))
theorem p_N1 (x1:ByteArray) (w0:World):Calls prog 158 #[(.string x1)] w0 (fun e w'=>e=.returned (.bool (s_N1 x1))∧Pure w0 w'):=pw_N1 x1 w0
def m_H2 (x1 y1:ByteArray) (w0:World) (K:Int→WP):Prop :=Br (!(decide (x1=x1))) (Br (!(decide (y1=y1))) (∀w2,Hst w0 None w0 None w2→K 0 w2) (∀w2,Hst w0 None w0 None w2→K (-1) w2)) (Br (!(decide (y1=y1))) (∀w2,Hst w0 None w0 None w2→K 1 w2) (∀w2,Hst w0 None w0 None w2→∃b1,(Go.binOp .lss 9 (vs x1) (vs y1)).run prog w2=.ok (vb b1) w2∧Br b1 (K (-1) w2) (∃b2,(Go.binOp .gtr 9 (vs x1) (vs y1)).run prog w2=.ok (vb b2) w2∧Br b2 (K 1 w2) (K 0 w2))))
theorem w_H2 (x1 y1 w0 K) (h:m_H2 x1 y1 w0 K):
  Calls prog 86 #[(vs x1),(vs y1)] w0 (fun e w'=>∃r1,e=.returned (vi r1)∧K r1 w'):=by
 refine cw (args:=[(vs x1),(vs y1)]) func86 ntmps86 ?_
 obtain ⟨hs,hb⟩:=st0 w0
 refine eg (q (ln (eg (q (sc call158 ((p_N1 x1 w0).mono ?_))))))
 rintro e w1 ⟨he,hE⟩
 refine ⟨_,he,?_⟩
 obtain ⟨hs,hb⟩:=hs.pp hb hE
 refine q (ln (eg (q (sc call158 ((p_N1 y1 w1).mono ?_)))))
 rintro e w2 ⟨he,hE⟩
 refine ⟨_,he,?_⟩
 obtain ⟨hs,hb⟩:=hs.pp hb hE
 refine q (ln (jA (eg (q (ln (cbr h ?_ ?_))))))<;>intro h
 refine jA (eg (q (ln (cbr h ?_ ?_))))<;>intro h
 refine eg (q (ln (er (jY (jY ?_)))))
 have ⟨h,hs⟩:=hs.hr (h w2)
 refine rs1 results86 ⟨0,rfl,h⟩
 refine jB (jK (eg (q (ln (er (jY ?_))))))
 have ⟨h,hs⟩:=hs.hr (h w2)
 refine rs1 results86 ⟨(-1),rfl,h⟩
 refine jB (jK (jA (eg (q (ln (cbr h ?_ ?_))))))<;>intro h
 refine eg (q (ln (er (jY ?_))))
 have ⟨h,hs⟩:=hs.hr (h w2)
 refine rs1 results86 ⟨1,rfl,h⟩
 refine jB (jK (jA (eg (qb ?_))))
 have ⟨h,hs⟩:=hs.hr (h w2)
 obtain ⟨b1,hv2,h⟩:=h
 refine q2 (vb b1) (jFO (by kernel_rfl) (by kernel_rfl) (by kernel_rfl) hv2) (ln (cbr h ?_ ?_))<;>intro h
 refine eg (q (ln (er (jY (rs1 results86 ⟨(-1),rfl,h⟩)))))
 refine jB (jK (jA (eg (qb ?_))))
 obtain ⟨b2,hv1,h⟩:=h
 refine q2 (vb b2) (jFO (by kernel_rfl) (by kernel_rfl) (by kernel_rfl) hv1) (ln (cbr h ?_ ?_))<;>intro h
 refine eg (q (ln (er (jY (rs1 results86 ⟨1,rfl,h⟩)))))
 refine jB (jK (eg (q (ln (er (rs1 results86 ⟨0,rfl,h⟩))))))
def m_I2 (seq1:Value) (w0:World) (K:Sl→WP):Prop :=Calls prog 283 #[Sl.nil.v,seq1] w0 (fun e w1=>∃r1:Sl,e=.returned r1.v∧K r1 w1)
theorem w_I2 (seq1 w0 K) (h:m_I2 seq1 w0 K):
  Calls prog 206 #[seq1] w0 (fun e w'=>∃r2:Sl,e=.returned r2.v∧K r2 w'):=by
 refine cw (args:=[seq1]) func206 ntmps206 (eg (q0 Sl.nil.v (ln (eg (q0 seq1 ?_)))))
 refine sc call283 (h.mono fun e w1 ⟨r1,k,h⟩=>⟨_,k,?_⟩)
 refine q (ln (er (rs1 results206 ⟨r1,rfl,h⟩)))
def m_J2 (seq1:Value) (w0:World) (K:Sl→WP):Prop :=Calls prog 206 #[seq1] w0 (fun e w1=>∃r1:Sl,e=.returned r1.v∧Calls prog 207 #[r1.v] w1 (fun e w2=>e=.returned (.tuple #[])∧K r1 w2))
theorem w_J2 (seq1 w0 K) (h:m_J2 seq1 w0 K):
  Calls prog 152 #[seq1] w0 (fun e w'=>∃r2:Sl,e=.returned r2.v∧K r2 w'):=by
 refine cw (args:=[seq1]) func152 ntmps152 (eg (q0 Sl.nil.v (ln (eg (q0 seq1 ?_)))))
 refine sc call206 (h.mono fun e w1 ⟨r1,k,h⟩=>⟨_,k,?_⟩)
 refine q (ln (eg (q (sc call207 (h.mono fun e w2 ⟨k,h⟩=>⟨_,k,?_⟩)))))
 refine ln (eg (qb (ln (er (rs1 results152 ⟨r1,rfl,h⟩)))))
def m_K2 (s1:Sl) (w0:World) (K:Value→WP):Prop :=∀p1 w1,New w0 (.cells #[s1.v] 46) p1 w1→K (.func (.func 208) #[] #[(vp (some p1))]) w1
theorem w_K2 (s1 w0 K) (h:m_K2 s1 w0 K):
  Calls prog 153 #[s1.v] w0 (fun e w'=>∃r1:Value,e=.returned r1∧K r1 w'):=by
 refine cw (args:=[s1.v]) func153 ntmps153 (eg (sn (O:=(.cells #[s1.v] 46)) xb ?_))
 intro p1 w1 hn1
 have h:=h p1 w1 hn1
 refine q (ln (eg (qb (ln (er (rs1 results153 ⟨(.func (.func 208) #[] #[(vp (some p1))]),rfl,h⟩))))))
end Go.Proofs
end
section
namespace Go.SE
open Go.Sort Go.Shelf Go.Proofs
theorem jEM (w:World) (q:Nat):w.drewN q={ w with drawn:=w.drawn+q }:=rfl
theorem tD {w w':World} (h:Pure w w'):∃q os,w'=Sort.grow (w.drewN q) os:=by
 refine ⟨w'.drawn - w.drawn,w'.heap.extract w.heap.size w'.heap.size,?_⟩;have hh:w'.heap=w.heap++w'.heap.extract w.heap.size w'.heap.size:=by
  apply Array.ext_getElem?;intro i;by_cases hi:i<w.heap.size
  ·rw [h.keep i hi id,Array.getElem?_append_left hi]
  ·rw [Array.getElem?_append_right (by omega),Array.getElem?_extract];by_cases h2:i<w'.heap.size
   ·rw [if_pos (by omega)];congr 1;omega
   ·rw [if_neg (by omega),Array.getElem?_eq_none (by omega)]
 have h1:=h.os;have h2:=h.tape;have h3:=h.output;have h4:=h.drawn;clear h;obtain ⟨a,b,c,d,e⟩:=w;obtain ⟨a',b',c',d',e'⟩:=w';simp only at h1 h2 h3 h4 hh;subst h1;subst h2;subst h3;rw [jEM];unfold Sort.grow;simp only [World.mk.injEq,and_true,true_and];exact ⟨hh,by omega⟩
theorem xQ {α:Type} [Inhabited α] (enc:α→List Value) (k:Nat) (hk:∀x,(enc x).length=k) (d:Array α):(flatK enc k d).toList=(d.toList.map enc).flatten:=by
 have hl:∀q∈d.toList.map enc,q.length=k:=by
  intro q hq;obtain ⟨x,_,rfl⟩:=List.mem_map.1 hq;exact hk x
 have hlen:(d.toList.map enc).flatten.length=d.size*k:=by rw [jZ hl];simp
 apply List.ext_getElem?;intro t;by_cases ht:t<d.size*k
 ·have k0:0<k:=by rcases Nat.eq_zero_or_pos k with h | h;subst h;simp at ht;exact h
  have hd:t / k<d.size:=by rw [Nat.div_lt_iff_lt_mul k0];exact ht
  have hm:t % k<k:=Nat.mod_lt _ k0;have e:t=(t / k)*k+t % k:=(Nat.div_add_mod' t k).symm;have h1:=get_flatK enc k d t ht;rw [Array.getElem?_toList,Array.getElem?_eq_getElem (by simpa using ht)];rw [getElem!_pos _ t (by simpa using ht),getElem!_pos d _ hd,getElem!_pos _ (t % k) (by rw [hk];exact hm)] at h1;rw [h1];have h2:=yG hl (i:=t / k) (by simpa using hd) hm;rw [← e] at h2;rw [h2,List.getElem_map,List.getElem?_eq_getElem (by rw [hk];exact hm)];simp
 ·rw [List.getElem?_eq_none (by simp;omega),List.getElem?_eq_none (by omega)]
variable {α:Type} [Inhabited α] {P:Program} {ρ:Ren} {k:Nat} {enc:α→List Value} {e:TypeId}
theorem Rws.holdsK {w:World} {s:Sl} {g:Nat} {cur:Array Value} {ds:List α} (hk:∀x,(enc x).length=k) (hg:w.heap[g]?=some (.cells cur e (0,0))) (ht:cur.toList.take (ds.length*k)=(ds.map enc).flatten):HoldsK enc k w g 0 ds.toArray:=by
 intro j hj;rw [size_flatK] at hj;have hf:=xQ enc k hk ds.toArray;simp only at hf;have hj':j<ds.length*k:=by simpa using hj
 have hsz:(flatK enc k ds.toArray).size=ds.length*k:=by simp
 have h1:cur.toList[j]?=(flatK enc k ds.toArray).toList[j]?:=by
  rw [hf,← ht,List.getElem?_take_of_lt hj']
 rw [Array.getElem?_toList,Array.getElem?_toList,Array.getElem?_eq_getElem (show j<(flatK enc k ds.toArray).size by omega)] at h1;refine ⟨?_,?_⟩
 ·unfold World.cell?;rw [hg];simp only [Option.isSome_none,Bool.false_eq_true,if_false,Nat.zero_add,id];rw [h1,getElem!_pos _ j (by omega)]
 ·unfold World.frozen?;rw [hg];simp
theorem oQ (L:SlLaysF0.n6 P ρ) (aE:∀w,(isAgg (ρ.t 24)).run P w=.ok true w) (zE:∀w,(Go.sizeOf (ρ.t 24)).run P w=.ok k w) (hk:∀x,(enc x).length=k) (h1:∀x,∀v∈enc x,v.oneCell'=true)
  (cf:α→α→Int) (hO:SWO (ltOf cf)) (g:Nat) (eg:∀args w,(callFunc g args).run P w=.ok (.enter g args) w)
  (hc:∀x y W,Calls P g #[.agg (enc x).toArray,.agg (enc y).toArray] W (fun o w'=>o=.returned (.int .i64 (cf x y))∧Pure W w'))
  {w:World} {s:Sl} {ds:List α} (hr:Rws w e k s (ds.map enc)) (hn:ds.length<4611686018427387904) :
  Calls P (ρ.f 6) #[s.v,.func (.func g) #[] #[]] w (fun o w'=>o=.returned (.tuple #[])∧∃ds':List α,ds'.Perm ds∧ds'.Pairwise (fun a b=>¬ cf b a<0)∧Rws w' e k s (ds'.map enc)∧Ext s.blk w w'):=by
 have hl:s.len=ds.length:=by rw [hr.len];simp
 rcases hr.own with ⟨rfl,hnil⟩ | ⟨b,cur,ha,hg,hcap,hm,hsz,ht⟩
 ·have hd:ds=[]:=by simpa using hnil
  subst hd
  refine (AnyF.slices_SortFunc_none L none 0 _ w).mono ?_
  rintro _ w' ⟨rfl,rfl⟩
  exact ⟨rfl,[],.refl _,.nil,hr,Ext.refl _⟩
 ·rw [List.length_map] at hcap ht
  have hH:HoldsK enc k w b 0 ds.toArray:=Rws.holdsK (s:=s) hk hg ht
  have hb:b<w.heap.size:=vA hg
  have hv:s.v=.slice (some ⟨b,0,none⟩) ds.toArray.size s.cap:=by unfold Sl.v;rw [ha,hl];simp
  rw [hv]
  refine (AnyQ.slices_SortFunc L k aE zE enc hk h1 cf hO g #[] b 0 s.cap ds.toArray w eg (fun m os dk _ x y=>?_) hH hb (by simpa using hn)).mono ?_
  ·refine (hc x y _).mono ?_
   rintro o w' ⟨rfl,hp⟩
   exact ⟨rfl,tD hp⟩
  rintro _ w' ⟨rfl,d',n,os,hp,hs,rfl⟩
  obtain ⟨hps,_,hpp⟩:=hp
  have hps':d'.size=ds.length:=by simpa using hps
  have hperm:d'.toList.Perm ds:=by
   rw [← hps] at hpp;rw [Array.extract_size] at hpp;simpa [hps'] using hpp
  refine ⟨rfl,d'.toList,hperm,?_,?_,?_⟩
  ·rw [List.pairwise_iff_getElem]
   intro i j hi hj hij
   have hj':j<d'.size:=by simpa using hj
   have hi':i<d'.size:=by simpa using hi
   have:=hs i j (Nat.zero_le _) hij (by simp;omega)
   unfold ltOf at this
   rw [getElem!_pos d' i hi',getElem!_pos d' j hj'] at this
   simpa using this
  ·have hl2 : ∀ q ∈ d'.toList.map enc, q.length = k := by
    intro q hq;obtain ⟨x,_,rfl⟩:=List.mem_map.1 hq;exact hk x
   refine ⟨hl2,by rw [hl];simp [hps'],.inr ⟨b,putCells id 0 (flatK enc k d') cur,ha,?_,by simpa [hps'] using hcap,hm,by simp [putCells,hsz],?_⟩⟩
   ·unfold sortWorldK putRowK
    rw [heap_grow_old _ _ (by simpa using hb)]
    simp [putRow,mapBlock,Sort.ahead,Array.getElem?_modify,hg,onCells]
   ·rw [← xQ enc k hk d',List.length_map,Array.length_toList]
    apply List.ext_getElem?
    intro j
    have hle:ds.length*k≤s.cap*k:=Nat.mul_le_mul_right _ hcap
    by_cases hj:j<d'.size*k
    ·rw [List.getElem?_take_of_lt hj,Array.getElem?_toList,Array.getElem?_toList]
     unfold putCells
     rw [Array.getElem?_mapIdx,Array.getElem?_eq_getElem (show j<cur.size by rw [hsz];rw [hps'] at hj;omega),Option.map_some,if_pos ⟨Nat.zero_le _,by rw [size_flatK];omega⟩,Array.getElem?_eq_getElem (by rw [size_flatK];exact hj),Nat.sub_zero,getElem!_pos _ j (by rw [size_flatK];exact hj)]
     rfl
    ·rw [List.getElem?_eq_none (by simp;omega),List.getElem?_eq_none (by simp;omega)]
  ·refine ⟨rfl,rfl,rfl,Nat.le_add_right _ _,by unfold sortWorldK putRowK;simp [size_grow],fun i hi hf=>?_⟩
   have hne:b≠i:=fun e'=>hf ⟨_,ha,e'⟩
   unfold sortWorldK putRowK
   rw [heap_grow_old _ _ (by simpa using hi)]
   simp [putRow,mapBlock,Sort.ahead,Array.getElem?_modify,hne]
theorem jFH {α:Type} {sz:Nat}:∀(m:Nat) (l:List α),l.length=m*sz→∃qs:List (List α),qs.length=m∧(∀q∈qs,q.length=sz)∧qs.flatten=l
 | 0,l,h=>⟨[],rfl,by simp,by rw [Nat.zero_mul] at h;simp [List.length_eq_zero_iff.1 h]⟩
 | m+1,l,h=>by
  rw [Nat.succ_mul] at h;obtain ⟨qs,h1,h2,h3⟩:=jFH m (l.drop sz) (show (l.drop sz).length=m*sz by rw [List.length_drop];omega);refine ⟨l.take sz :: qs,by simp [h1],fun q hq=>?_,by simp [h3]⟩;rcases List.mem_cons.1 hq with rfl | hq
  ·rw [List.length_take];omega
  ·exact h2 q hq
theorem Rws.clearLo {P:Program} {t ty:TypeId} {sz bytes:Nat} {z:Value} (T:SlType P t e sz bytes) (hz:∀w,(zeroValue e).run P w=.ok z w) (hzs:z.cells.size=sz) (hz1:∀v∈z.cells.toList,zJ v=true)
  {w:World} {s:Sl} {rs:List (List Value)} (h:Rws w e sz s rs) {k:IntKind} {n:Int} (h0:0≤n) (hn:n<rs.length) :
  ∃s':Sl,∃w':World,(∀w:World,(Instr.sliceAt t s.v (some (.int k n)) none none).run P w=.ok s'.v w)∧(Builtin.clear_ #[t] ty #[s'.v]).run P w=.ok (.tuple #[]) w'∧Ext s.blk w w'∧∃rs',Rws w' e sz s rs'∧rs'.length=rs.length∧rs'.take n.toNat=rs.take n.toNat:=by
 rcases h.own with ⟨rfl,rfl⟩ | ⟨g,cur,ha,hg,hc,hm,hs,ht⟩
 ·simp at hn;omega
 have B:Box w ⟨g,0,none⟩ cur.toList e:=⟨rfl,by simpa using hg⟩
 have hsl:s.len=rs.length:=h.len
 obtain ⟨m,hmm⟩:∃m,s.len - n.toNat=m+1:=⟨s.len - n.toNat - 1,by omega⟩
 have hzl:(Builtin.zeroCells z.cells (m+1)).toList.length=(m+1)*sz:=by simp [Builtin.zeroCells,hzs]
 have hzo:∀v∈(Builtin.zeroCells z.cells (m+1)).toList,zJ v=true:=by
  intro v hv;simp only [Builtin.zeroCells,Array.toList_map,List.mem_map] at hv;obtain ⟨i,_,rfl⟩:=hv;have hp:0<z.cells.size:=by rw [hzs];exact T.pos
  rw [getElem!_pos z.cells _ (Nat.mod_lt _ hp)];exact hz1 _ (by simp)
 have hle:n.toNat*sz+(m+1)*sz=rs.length*sz:=by rw [← Nat.add_mul];congr 1;omega
 have hle2:rs.length*sz≤s.cap*sz:=Nat.mul_le_mul_right _ hc
 have hcl:cur.toList.length=s.cap*sz:=by simpa using hs
 generalize hzz:(Builtin.zeroCells z.cells (m+1)).toList=zs at *
 have hst:=vM (P:=P) ((⟨g,0,none⟩:Addr).add (n.toNat*sz)) zs 0 w hzo (fun j hj=>by rw [vT];exact B.canW (by rw [hcl];omega))
 have B2:=Box.storeAt zs 0 (n.toNat*sz) w _ B (by rw [hcl];omega)
 have hE:Ext (·=g) w (storeRowFrom w ((⟨g,0,none⟩:Addr).add (n.toNat*sz)) 0 zs):=by
  have:=Ext.storeRow w ((⟨g,0,none⟩:Addr).add (n.toNat*sz)) zs;rw [jR] at this;exact this
 obtain ⟨qs,q1,q2,q3⟩:=jFH (m+1) zs hzl
 have hcap:s.cap≠n.toNat:=by omega
 have hnl:n≤(s.len:Int):=by omega
 refine ⟨⟨some ((⟨g,0,none⟩:Addr).add (n.toNat*sz)),s.len - n.toNat,s.cap - n.toNat⟩,_,fun w=>?_,?_,hE.mono (fun b _ hb=>⟨_,ha,hb.symm⟩),rs.take n.toNat++qs,⟨?_,?_,.inr ⟨g,_,ha,B2.blk,?_,hm,?_,?_⟩⟩,?_,?_⟩
 ·simp [Instr.sliceAt,Instr.slice,Sl.v,run_underlying T.ht,Instr.sliceBounds,Instr.sliceBound,asIntOf,T.sizeOf,h0,hnl,hcap,ha]
 ·rw [hmm]
  simp [Builtin.clear_,Sl.v,run_underlying T.ht,hz,hzz,hst]
 ·intro q hq
  rcases List.mem_append.1 hq with hq | hq
  ·exact h.each q (List.mem_of_mem_take hq)
  ·exact q2 q hq
 ·rw [List.length_append,List.length_take,q1];omega
 ·rw [List.length_append,List.length_take,q1];omega
 ·simp only [List.size_toArray,List.length_append,List.length_take,List.length_drop,hcl,hzl];omega
 ·rw [List.length_append,List.length_take,q1,show min n.toNat rs.length+(m+1)=rs.length by omega,List.flatten_append,q3]
  have e1:rs=rs.take n.toNat++rs.drop n.toNat:=(List.take_append_drop _ _).symm
  have e2:((rs.take n.toNat).flatten).length=n.toNat*sz:=by rw [jZ (fun r hr=>h.each r (List.mem_of_mem_take hr)),List.length_take,Nat.min_eq_left (by omega)]
  have e3:cur.toList.take (n.toNat*sz)=(rs.take n.toNat).flatten:=by
   calc cur.toList.take (n.toNat*sz)=(cur.toList.take (rs.length*sz)).take (n.toNat*sz):=by rw [List.take_take,Nat.min_eq_left (by omega)]
    _=((rs.take n.toNat).flatten++(rs.drop n.toNat).flatten).take (n.toNat*sz):=by rw [ht,← List.flatten_append,← e1]
    _=(rs.take n.toNat).flatten:=by rw [← e2,List.take_left]
  simp only [Nat.add_zero,e3]
  rw [List.take_append_of_le_length (by rw [List.length_append,e2,hzl];omega),List.take_of_length_le (by rw [List.length_append,e2,hzl];omega)]
 ·rw [List.length_append,List.length_take,q1];omega
 ·rw [List.take_append_of_le_length (by rw [List.length_take];omega),List.take_take,Nat.min_self]
theorem Rws.atLo {P:Program} {t:TypeId} {sz bytes:Nat} (T:SlType P t e sz bytes) {w:World} {s:Sl} {rs:List (List Value)} (h:Rws w e sz s rs) {k:IntKind} {n:Int} (h0:0≤n) (hn:n<rs.length) :
  ∃s':Sl,(∀w:World,(Instr.sliceAt t s.v (some (.int k n)) none none).run P w=.ok s'.v w)∧s'.len=rs.length - n.toNat∧∀(i:Nat) (a:Addr),n.toNat+i<rs.length→At s ((n.toNat+i:Nat):Int) sz a→At s' (i:Int) sz a:=by
 rcases h.own with ⟨rfl,rfl⟩ | ⟨g,cur,ha,hg,hc,hm,hs,ht⟩
 ·simp at hn;omega
 have hsl:s.len=rs.length:=h.len
 have hcap:s.cap≠n.toNat:=by omega
 have hnl:n≤(s.len:Int):=by omega
 refine ⟨⟨some ((⟨g,0,none⟩:Addr).add (n.toNat*sz)),s.len - n.toNat,s.cap - n.toNat⟩,fun w=>?_,by simp [hsl],fun i a hi hat=>?_⟩
 ·simp [Instr.sliceAt,Instr.slice,Sl.v,run_underlying T.ht,Instr.sliceBounds,Instr.sliceBound,asIntOf,T.sizeOf,h0,hnl,hcap,ha]
 ·obtain ⟨_,_,b,hb,rfl⟩:=hat
  rw [ha] at hb;cases hb
  refine ⟨by omega,by simp only [hsl];omega,_,rfl,?_⟩
  rw [vT,Int.toNat_natCast,Int.toNat_natCast,Nat.add_mul]
end Go.SE
end
section
open Go Go.SE
namespace Go.Sp
instance:Inhabited Fact:=⟨⟨0,0,0,⟨#[]⟩⟩⟩
def orF:List Int→Int
 | []=>0
 | a :: l=>if a≠0 then a else orF l
theorem jGF (a b:Fact):uP a b=orF [qP a.c b.c,qP a.kind b.kind,qP a.who b.who,xR a.text b.text]:=by
 unfold uP;simp only [orF];by_cases h1:qP a.c b.c≠0
 ·rw [if_pos h1,if_pos h1]
 rw [if_neg h1,if_neg h1];by_cases h2:qP a.kind b.kind≠0
 ·rw [if_pos h2,if_pos h2]
 rw [if_neg h2,if_neg h2];by_cases h3:qP a.who b.who≠0
 ·rw [if_pos h3,if_pos h3]
 rw [if_neg h3,if_neg h3];by_cases h4:xR a.text b.text=0 <;> simp [h4]
end Go.Sp
namespace Go.Proofs
open Tryz
attribute [local irreducible] Calls
theorem jFB (x y:Int):s_E1 x y=Sp.qP x y:=by
 unfold s_E1 Sp.qP;by_cases h:x<y
 ·simp [h]
 ·by_cases h2:y<x <;> simp [h,h2]
theorem s_cmpN (x y:Int):s_F1 x y=Sp.qP x y:=jFB x y
theorem jEV (x y:ByteArray) (w0:World):Calls prog 86 #[.string x,.string y] w0 (fun e w'=>∃r:Int,e=.returned (.int .i64 r)∧(r=Sp.xR x y∧Pure w0 w')):=by
 refine w_H2 x y w0 (fun r w'=>r=Sp.xR x y∧Pure w0 w') ?_;unfold m_H2;refine Br.f (by simp) (Br.f (by simp) fun w2 hs2=>?_);have E:=hs2.first;refine ⟨Op.bytesLess x.toList y.toList,by rw [binOp_string_lss];rfl,fun h=>⟨by unfold Sp.xR;rw [if_pos h],E⟩,fun h=>?_⟩;refine ⟨!(Op.bytesLess x.toList y.toList || x.toList == y.toList),by simp [binOp,Op.stringOp],fun h2=>⟨?_,E⟩,fun h2=>⟨?_,E⟩⟩
 all_goals
  unfold Sp.xR
  rw [if_neg (by rw [h];simp)]
  rw [h] at h2
 ·rw [if_neg];intro e;subst e;simp at h2
 ·rw [if_pos (Sp.toList_inj (by simpa using h2))]
theorem jGH {S:NP} (p:Addr) (ts:List Int) (hn:ts.length≤1000) (w0:World) (hL:Lst S w0 1 ⟨some p,ts.length,ts.length⟩ (tmr ts)):Calls prog 83 #[(Sl.mk (some p) ts.length ts.length).v] w0 (fun e w'=>∃r:Int,e=.returned (.int .i64 r)∧(r=Sp.orF ts∧Pure w0 w')):=by
 suffices key:∀K:Int→WP,(∀w',Pure w0 w'→K (Sp.orF ts) w')→m_Y ⟨some p,ts.length,ts.length⟩ w0 K from
  w_Y _ w0 _ (key _ (fun _ h=>⟨rfl,h⟩))
 intro K hK;unfold m_Y;refine ⟨fun i w'=>∃j:Nat,i=j∧j≤ts.length∧w'=w0∧Sp.orF ts=Sp.orF (ts.drop j),fun i _=>((ts.length:Int) - i).toNat,⟨0,rfl,Nat.zero_le _,rfl,rfl⟩,?_⟩;rintro _ wl ⟨j,rfl,hj,rfl,ho⟩;unfold m_Y_l1;refine ⟨fun h=>?_,fun h=>?_⟩
 ·have hlt:=zZ (n:=ts.length) rfl h;obtain ⟨a,hat,_,hc⟩:=xL hL hlt;rw [List.drop_eq_getElem_cons hlt,Sp.orF] at ho;refine ⟨a,hat,_,hc,fun h2=>?_,fun h2=>?_⟩
  ·rw [if_pos (by simpa using h2)] at ho;rw [ho] at hK;exact hK _ (Ext.refl _)
  ·rw [if_neg (by simpa using h2)] at ho;rw [zB hlt (by omega)];exact ⟨⟨j+1,rfl,hlt,rfl,ho⟩,vH hlt⟩
 ·have hge:=kA (n:=ts.length) rfl hj h;rw [hge,List.drop_length,Sp.orF] at ho;rw [ho] at hK;exact hK _ (Ext.refl _)
theorem qS (a b:Sp.Fact) (w0:World):Calls prog 28 #[.agg (kG a).toArray,.agg (kG b).toArray] w0 (fun e w'=>∃r:Int,e=.returned (.int .i64 r)∧(r=Sp.uP a b∧Pure w0 w')):=by
 refine w_E2 a.kind a.who a.c a.text b.kind b.who b.c b.text w0 (fun r w'=>r=Sp.uP a b∧Pure w0 w') ?_;unfold m_E2;intro H2 w2 hs2;have E2:=hs2.first;refine ⟨Pure w0,E2.trans (Ext.drew _),?_⟩;rintro _ rfl;have E3:=E2.trans (Ext.drew (F:=None) w2);refine (p_E1 a.c b.c _).mono ?_;rintro _ w4 ⟨rfl,E4⟩;refine ⟨_,rfl,E3.trans E4,E4.keptP,(p_F1 a.kind b.kind _).mono ?_⟩;rintro _ w5 ⟨rfl,E5⟩;refine ⟨_,rfl,(E3.trans E4).trans E5,E5.keptP,(p_F1 a.who b.who _).mono ?_⟩;rintro _ w6 ⟨rfl,E6⟩;refine ⟨_,rfl,((E3.trans E4).trans E5).trans E6,E6.keptP,(jEV a.text b.text _).mono ?_⟩;rintro _ w7 ⟨_,rfl,rfl,E7⟩;have E07:=(((E3.trans E4).trans E5).trans E6).trans E7;refine ⟨_,rfl,E07,E7.keptP,fun p3 w8 h8=>⟨E07.trans (Ext.new h8),?_⟩⟩;have E08:=E07.trans (Ext.new (F:=None) h8);have R:=Rws.lit (sz:=1) (rs:=tmr [Sp.qP a.c b.c,Sp.qP a.kind b.kind,Sp.qP a.who b.who,Sp.xR a.text b.text]) h8 (by simp [tmr,jFB,s_cmpN]) (by simp [tmr]) (by simp [tmr,maxLen]);refine (jGH p3 [Sp.qP a.c b.c,Sp.qP a.kind b.kind,Sp.qP a.who b.who,Sp.xR a.text b.text] (by simp) w8 R.lst).mono ?_;rintro _ w9 ⟨_,rfl,rfl,E9⟩;exact ⟨_,rfl,E08.trans E9,E9.keptP,(Sp.jGF a b).symm,E08.trans E9⟩
theorem jBW (s:Sl) (fs:List Sp.Fact) (w0:World) (hr:Rws w0 75 4 s (fs.map kG)) (hn:fs.length≤1000000) :
  Calls prog 81 #[s.v,.func (.func 28) #[] #[]] w0 (fun e w'=>e=.returned (.tuple #[])∧∃fs':List Sp.Fact,fs'.Perm fs∧fs'.Pairwise (fun a b=>¬ Sp.uP b a<0)∧Rws w' 75 4 s (fs'.map kG)∧Ext s.blk w0 w'):=by
 have h:=oQ sortF isAgg75 sizeOf75 (enc:=kG) (fun _=>rfl) (fun x v hv=>by simp [kG] at hv;rcases hv with rfl | rfl | rfl | rfl <;> rfl) Sp.uP Sp.swoF 28
  (enters_of func28 (by kernel_rfl) rfl) (fun x y W=>(qS x y W).mono (by rintro _ w' ⟨_,rfl,rfl,E⟩;exact ⟨rfl,E⟩)) hr (by omega)
 exact h
end Go.Proofs
end
section
open Go Go.SE
namespace Go.Proofs
open Tryz
attribute [local irreducible] Calls
theorem qX (g h:Sp.Fact):((g.kind == h.kind) && ((g.who == h.who) && ((g.c == h.c) && decide (g.text=h.text))))=decide (g=h):=by
 obtain ⟨a,b,c,d⟩:=g;obtain ⟨a',b',c',d'⟩:=h;rw [Bool.eq_iff_iff];simp [Sp.Fact.mk.injEq]
theorem jDS (s:Sl) (fs:List Sp.Fact) (w0:World) (hr:Rws w0 75 4 s (fs.map kG)) (hn:fs.length≤1000000) :
  Calls prog 82 #[s.v] w0 (fun e w'=>∃r:Sl,e=.returned r.v∧(Rws w' 75 4 r ((Sp.yJ fs).map kG)∧Ext s.blk w0 w'∧∀b,r.blk b→s.blk b)):=by
 suffices key:∀K:Sl→WP,(∀r w',Rws w' 75 4 r ((Sp.yJ fs).map kG)→Ext s.blk w0 w'→(∀b,r.blk b→s.blk b)→K r w')→m_N s w0 K from
  w_N _ w0 _ (key _ (fun _ _ h1 h2 h3=>⟨h1,h2,h3⟩))
 intro K hK
 unfold m_N
 have hl:s.len=fs.length:=by rw [hr.len];simp
 have hsb:∀b,s.blk b→b<w0.heap.size:=fun b hb=>hr.lt hb
 refine ⟨fun h=>?_,fun h=>?_⟩
 ·have h:=of_decide_eq_true h
  refine hK s w0 ?_ (Ext.refl _) (fun _ h=>h)
  have:Sp.yJ fs=fs:=by
   match fs,hl,h with
   | [],_,_=>rfl
   | [a],_,_=>rfl
   | a :: b :: l,hl,h=>simp [hl] at h;omega
  rw [this];exact hr
 have h2:2≤fs.length:=by have h:=of_decide_eq_false h;omega
 obtain ⟨f0,fr,rfl⟩:∃f0 fr,fs=f0 :: fr:=by
  cases fs with
  | nil=>simp at h2
  | cons a l=>exact ⟨a,l,rfl⟩
 generalize hfs:f0 :: fr=fs at *
 have hc0:Sp.yJ fs=fs.take 1++Sp.vW fs[0] (fs.drop 1):=by subst hfs;rfl
 refine ⟨fun k H w'=>∃j:Nat,k=j∧1≤j∧∃hj:j≤fs.length,Pure w0 w'∧Own H w' 75 4 s (fs.map kG)∧Sp.yJ fs=fs.take j++Sp.vW (fs[j-1]'(by omega)) (fs.drop j),fun k _=>((fs.length:Int) - k).toNat,⟨1,rfl,Nat.le_refl _,by omega,Ext.refl _,⟨hr,fun _ _ h=>h⟩,hc0⟩,?_⟩
 rintro _ Hl wl hl1 ⟨j,rfl,hj1,hj,El,Ol,hc⟩
 unfold m_N_l1
 refine ⟨fun hb=>?_,fun hb=>?_⟩
 ·have hlt:=zZ hl hb
  obtain ⟨a1,hat1,_⟩:=Ol.nth hlt
  refine ⟨a1,hat1,fun w1 hs1=>?_⟩
  have O1:=Ol.hst hs1
  have E1:=El.hst hs1
  obtain ⟨a1',hat1',hrow1⟩:=O1.nth hlt
  obtain ⟨a2,hat2,hrow2⟩:=O1.nth (show j - 1<fs.length by omega)
  have hw:IntKind.i64.wrap ((j:Int) - 1)=((j - 1:Nat):Int):=by rw [i64 (by omega) (by omega)];omega
  have ha:a1=a1':=by
   obtain ⟨_,_,b,hb,rfl⟩:=hat1;obtain ⟨_,_,b',hb',rfl⟩:=hat1';rw [hb] at hb';cases hb';rfl
  rw [← ha] at hrow1
  rw [hw]
  refine ⟨_,_,_,_,hrow1,a2,hat2,_,_,_,_,hrow2,fun hd=>?_,fun hd=>?_⟩
  ·rw [qX] at hd
   have hd:=of_decide_eq_true hd
   obtain ⟨s2,hrun2,hlen2,hat⟩:=O1.rows.atLo vL (k:=.i64) (n:=(j:Int)) (by omega) (by simp;omega)
   have hlen2:s2.len=fs.length - j:=by simpa using hlen2
   refine ⟨s2,hrun2 w1,fun k2 k21 H w'=>∃a i:Nat,k2=a∧k21=i∧1≤i∧1≤a∧a<j+i∧∃hi:j+i≤fs.length,∃ls:List Sp.Fact,ls.length=fs.length∧ls.drop (j+i - 1)=fs.drop (j+i - 1)∧Ext s.blk w0 w'∧Own H w' 75 4 s (ls.map kG)∧Sp.yJ fs=ls.take a++Sp.vW (fs[j+i - 1]'(by omega)) (fs.drop (j+i)),fun _ k21 _=>((fs.length:Int) - k21).toNat,?_,?_⟩
   ·refine ⟨j,1,rfl,rfl,Nat.le_refl _,hj1,by omega,hlt,fs,rfl,rfl,Ext.pure E1,O1,?_⟩
    rw [hc,List.drop_eq_getElem_cons hlt,Sp.vW,if_pos hd.symm]
    rfl
   rintro _ _ H2 w2 hs2 ⟨a,i,rfl,rfl,hi1,ha1,hai,hi,ls,hll,hdr,E2,O2,hcc⟩
   unfold m_N_l2
   have hget:∀q,(h:q<fs.length)→j+i - 1≤q→ls[q]'(by omega)=fs[q]:=by
    intro q h hq;have e:=congrArg (fun l=>l[q - (j+i - 1)]?) hdr;simp only [List.getElem?_drop] at e;rw [show j+i - 1+(q - (j+i - 1))=q by omega,List.getElem?_eq_getElem (by omega),List.getElem?_eq_getElem h] at e;exact Option.some.inj e
   refine ⟨fun hb2=>?_,fun hb2=>?_⟩
   ·have hlt2:j+i<fs.length:=by have:=of_decide_eq_true hb2;omega
    obtain ⟨a3,hat3,_⟩:=O2.nth (show j+i<ls.length by omega)
    have up:∀(q:Nat) (x:Addr),j+q<fs.length→At s ((j+q:Nat):Int) 4 x→At s2 (q:Int) 4 x:=fun q x hq hx=>hat q x (by simpa using hq) (by simpa using hx)
    refine ⟨a3,up i a3 hlt2 hat3,fun w3 hs3=>?_⟩
    have O3:=O2.hst hs3
    have E3:=E2.hst hs3
    obtain ⟨a3',hat3',hrow3⟩:=O3.nth (show j+i<ls.length by omega)
    have ha3:a3=a3':=by
     obtain ⟨_,_,b,hb,rfl⟩:=hat3;obtain ⟨_,_,b',hb',rfl⟩:=hat3';rw [hb] at hb';cases hb';rfl
    rw [← ha3] at hrow3
    obtain ⟨a4,hat4,hrow4⟩:=O3.nth (show j+(i - 1)<ls.length by omega)
    have hw2:IntKind.i64.wrap ((i:Int) - 1)=((i - 1:Nat):Int):=by rw [i64 (by omega) (by omega)];omega
    rw [hw2]
    rw [hget (j+i) hlt2 (by omega)] at hrow3
    have e4:ls[j+(i - 1)]'(by omega)=fs[j+i - 1]'(by omega):=by
     rw [hget (j+(i - 1)) (by omega) (by omega)];congr 1;omega
    rw [e4] at hrow4
    rw [List.drop_eq_getElem_cons hlt2,Sp.vW] at hcc
    refine ⟨_,_,_,_,hrow3,a4,up (i - 1) a4 (by omega) hat4,_,_,_,_,hrow4,fun hd2=>?_,fun hd2=>?_⟩
    ·rw [qX] at hd2
     have hd2:¬ fs[j+i]=fs[j+i - 1]'(by omega):=by simpa using hd2
     rw [if_neg (fun e=>hd2 e.symm)] at hcc
     obtain ⟨a6,hat6,hcw,hset⟩:=O3.rows.set (i:=a) (r:=kG fs[j+i]) (by simp;omega) rfl rfl
     refine ⟨a3,up i a3 hlt2 hat3,_,_,_,_,hrow3,a6,hat6,hcw,?_,fun w4 hw4=>?_⟩
     ·obtain ⟨_,_,b,hb,rfl⟩:=hat6
      exact O3.vis _ ⟨b,hb,by rw [jR]⟩
     obtain ⟨hR,hE⟩:=hset w4 hw4
     rw [zB (show a<fs.length by omega) (by omega),zB (show i<fs.length by omega) (by omega)]
     refine ⟨⟨a+1,i+1,rfl,rfl,by omega,by omega,by omega,by omega,ls.set a fs[j+i],by simpa using hll,?_,E3.trans hE,⟨by rw [List.map_set];exact hR,O3.vis⟩,?_⟩,vH (show i<fs.length by omega)⟩
     ·rw [List.drop_set_of_lt (by omega)]
      have e:=congrArg (List.drop 1) hdr
      rw [List.drop_drop,List.drop_drop] at e
      rw [show j+(i+1) - 1=j+i - 1+1 by omega];exact e
     ·rw [hcc,List.take_succ_eq_append_getElem (by rw [List.length_set];omega),List.take_set_of_le (Nat.le_refl _),List.getElem_set_self,List.append_assoc]
      rfl
    ·rw [qX] at hd2
     have hd2:fs[j+i]=fs[j+i - 1]'(by omega):=by simpa using hd2
     rw [if_pos hd2.symm] at hcc
     rw [zB (show i<fs.length by omega) (by omega)]
     refine ⟨⟨a,i+1,rfl,rfl,by omega,by omega,by omega,by omega,ls,hll,?_,E3,O3,?_⟩,vH (show i<fs.length by omega)⟩
     ·have e:=congrArg (List.drop 1) hdr
      rw [List.drop_drop,List.drop_drop] at e
      rw [show j+(i+1) - 1=j+i - 1+1 by omega];exact e
     ·rw [hcc];rfl
   ·have hge:j+i=fs.length:=by have:=of_decide_eq_false hb2;omega
    rw [List.drop_eq_nil_of_le (by omega),Sp.vW,List.append_nil] at hcc
    obtain ⟨s3,w4,hrun3,hclr,hE4,rs',hR',hl',htk⟩:=O2.rows.clearLo (P:=prog) (t:=71) (ty:=0) vL (z:=.agg #[.int .i64 0,.int .i64 0,.int .u64 0,.string ⟨#[]⟩]) (fun w=>zeroValue75 w) rfl (by intro v hv;simp [Value.cells] at hv;rcases hv with rfl | rfl | rfl | rfl <;> rfl) (k:=.i64) (n:=(a:Int)) (by omega) (by simp;omega)
    obtain ⟨s4,hrun4,hR4,hb4⟩:=hR'.hiA (P:=prog) vL (k:=.i64) (n:=(a:Int)) (by omega) (by rw [hl'];simp;omega)
    refine ⟨s3,hrun3 w2,w4,hclr,hE4.kept (fun b hb hs=>O2.vis b hs hb),s4,hrun4 w4,hK s4 w4 ?_ (E2.trans hE4) (fun b hb=>(hb4 b).1 hb)⟩
    rw [htk] at hR4
    rw [hcc,List.map_take];simpa using hR4
  ·rw [qX] at hd
   have hd:¬ fs[j]=fs[j - 1]'(by omega):=by simpa using hd
   rw [List.drop_eq_getElem_cons hlt,Sp.vW,if_neg (fun e=>hd e.symm)] at hc
   rw [zB hlt (by omega)]
   refine ⟨⟨j+1,rfl,by omega,hlt,E1,O1,?_⟩,vH hlt⟩
   rw [hc,List.take_succ_eq_append_getElem hlt,List.append_assoc]
   rfl
 ·have hge:=kA hl hj hb
  subst hge
  rw [List.drop_length,Sp.vW,List.append_nil,List.take_length] at hc
  exact hK s wl (by rw [hc];exact Ol.rows) (Ext.pure El) (fun _ h=>h)
end Go.Proofs
end
section
open Go Go.SE
open Go.IntKind renaming i64 → q6
namespace Go.Proofs
open Tryz
set_option maxRecDepth 100000
set_option maxHeartbeats 4000000
attribute [local irreducible] wpL wpX opE wpE Calls
def m_A1_l1 (yield1:Value) (v1:Sl) (x1:Int) (wl1:World) (Kc1:Int→WP) (K:WP):Prop :=Br (decide (x1<(v1.len:Int))) (∃a1:Addr,At v1 x1 1 a1∧∃v2,wl1.cell? a1=some (vi v2)∧∃(ly1:Nat),yield1=.func (.yield ly1) #[] #[]∧Yld prog ly1 #[(vi v2)] wl1 (fun e w1=>∃b1,e=.returned (vb b1)∧Br (!b1) (K w1) (Kc1 (q6.wrap (x1+1)) w1))) (K wl1)
def m_A1 (yield1:Value) (cap1:Addr) (w0:World) (K:WP):Prop :=∃v1:Sl,w0.cell? cap1=some v1.v∧∃(I1:Int→WP) (mu1:Int→World→Nat),I1 0 w0∧∀(x1:Int) (wl1:World),I1 x1 wl1→m_A1_l1 yield1 v1 x1 wl1 (fun y'0 w'=>I1 y'0 w'∧mu1 y'0 w'<mu1 x1 wl1) K
theorem w_A1 (yield1 cap1 w0 K) (h:m_A1 yield1 cap1 w0 K):
  Calls prog 208 #[yield1,(vp (some cap1))] w0 (fun e w'=>e=.returned (.tuple #[])∧K  w'):=by
 refine cw (args:=[yield1,(vp (some cap1))]) func208 ntmps208 (eg ?_)
 refine ql (isAgg46 _) h fun v1 h=>qb (ln (jH ?_))
 obtain ⟨I1,mu1,h0,hr⟩:=h
 refine zT (σ:=Int×World) (fun s ρ w=>w=s.2∧Has ρ [(0,yield1),(5,v1.v),(6,(vi (v1.len:Int))),(7,(vi s.1))]∧I1 s.1 s.2) (fun s=>mu1 s.1 s.2) (0,w0) ⟨rfl,hm,h0⟩ ?_
 rintro ⟨x1,wl1⟩ ρ w ⟨hw,hH,hI⟩
 dsimp only at hw hH;subst w
 have h:=hr x1 wl1 hI
 refine jQ hH (eg (q (ln (jA (cbr h ?_ ?_)))))<;>intro h
 refine jB (jK (jA (jH (eg (qi (runUnderlying46 _) (sizeOf78 _) h fun a1 h=>ql (isAgg78 _) h fun v2 h=>q (ln (eg (qb ?_))))))))
 obtain ⟨ly1,hy1,h⟩:=h
 refine jDZ (jL rfl) (by kernel_rfl) hy1 (by kernel_rfl) (h.mono ?_)
 rintro e w1 ⟨b1,rfl,h⟩
 refine ⟨_,rfl,?_⟩
 refine q (ln (cbr h ?_ ?_))<;>intro h
 refine er (vB (jY (jY (vB (jFV (.inl rfl) results208 ⟨rfl,h⟩)))))
 refine jB (vS (jK (rg (qb (ln ⟨((q6.wrap (x1+1)),w1),⟨rfl,hm,h.1⟩,h.2⟩)))))
 refine zL (qL (qL (qI (jFV (.inr rfl) results208 ⟨rfl,h⟩))))
def m_L2 (s1:Sl) (seq1:Value) (w0:World) (K:Sl→WP):Prop :=∀p1 w1,New w0 (.cells #[s1.v] 46) p1 w1→∃(f1:FuncId) (cs1:Array Value),seq1=.func (.func f1) #[] cs1∧(∀args w,(callFunc f1 args).run prog w=.ok (.enter f1 args) w)∧∃(xs1:List (Int)) (Rd1:WP),jAM prog f1 cs1 (fun (z2:Int)=>#[(vi z2)]) xs1 Rd1 w1∧∃(I1:List (Int)→NP→WP),RngI w0 Rd1 I1 (fun _ _ _=>False) (fun _ _ _=>False)∧I1 [] None w1∧(∀(pre1:List (Int)) (z2:Int) (Y1:NP) (A1:World),I1 pre1 Y1 A1→Hst w0 Y1 A1 Y1 A1→(∃post,xs1=pre1++z2 :: post)→∃v1:Sl,A1.cell? p1=some v1.v∧∀p2 w3,New A1 (.cells #[(vi z2)] 78) p2 w3→∃s2:Sl,∃w4:World,(Builtin.append_ #[46,46] 46 #[v1.v,(Sl.mk (some p2) 1 1).v]).run prog w3=.ok s2.v w4∧Kept None w3 w4∧jW w4 p1∧¬ None p1.block∧∀w5,w5=w4.setCell p1 s2.v→Kept Y1 A1 w5∧I1 (pre1++[z2]) Y1 w5)∧∀H1 w6,Hst w0 H1 w6 H1 w6→(∀b,None b→H1 b)→Kept None w1 w6→I1 xs1 H1 w6→∃v2:Sl,w6.cell? p1=some v2.v∧∀w7,Hst w0 H1 w6 H1 w7→K v2 w7
theorem w_L2 (s1 seq1 w0 K) (h:m_L2 s1 seq1 w0 K):
  Calls prog 283 #[s1.v,seq1] w0 (fun e w'=>∃r1:Sl,e=.returned r1.v∧K r1 w'):=by
 refine cw (args:=[s1.v,seq1]) func283 ntmps283 ?_
 obtain ⟨hs,hb⟩:=st0 w0
 refine eg (nw2 hs hb h xb fun p1 w1 hs hb h=>q (ln (jDY (rg (q0 seq1 (ln ?_))))))
 obtain ⟨f1,cs1,hv1,hf1,h⟩:=h
 obtain ⟨xs1,Rd1,hit,I1,hRI,h0,hbody,h⟩:=h
 refine jCE (encs:=(fun (z2:Int)=>#[(vi z2)])) (Eq.trans (b:=seq1) (by kernel_rfl) hv1) hf1 hit (fun _=>rfl) (by decide) hs I1 (fun _ _ _=>False) (fun _ _ _=>False) hRI h0 ?ha ?hr ?ht
 case ha =>
  intro l z2 w8
  refine rg (q (ln ⟨rfl,?_⟩))
  intro pre1 Y1 A1 hi hY hpost
  have h:=hbody pre1 z2 Y1 A1 hi hY hpost
  obtain ⟨hs,hb⟩:=st0 A1
  refine jH (rg (ql (isAgg46 _) h fun v1 h=>q (uL (O:=(.cells #[(vi z2)] 78)) (fun p=>(Sl.mk (some p) 1 1).v) (jL rfl) (zO (vs:=#[(0,(vi z2))]) (by kernel_rfl) (by kernel_rfl)) ?_)))
  intro p2 w3 hn2
  have h:=h p2 w3 hn2
  obtain ⟨hs,hb⟩:=hs.nw hb hn2
  obtain ⟨s2,w4,hv2,hk,h⟩:=h
  refine st (v:=s2.v) (jL rfl) (zD (args:=#[v1.v,(Sl.mk (some p2) 1 1).v]) (by kernel_rfl) (fun _=>rfl) hv2) ?_
  obtain ⟨hs,hb⟩:=hk.hh hs hb
  refine st2 (sizeOf46 _) hs hb h fun w5 hs hb h=>jD (vS ?_)
  exact rd_n h
 case hr =>
  intro D1 H1 w6 hs' hD hDe aA hk1 hio1
  have hb':=hb.behind hk1 aA hD hDe
  have hs:=hs'
  have hb:=hb'
  have h:=h H1 w6 hs aA hk1 (hio1.elim id (fun h=>h.elim (fun _ h=>h.elim)))
  refine eg (ql (isAgg46 _) h fun v2 h=>q (ln (er (af_r hb.dead ?_))))
  intro w7 hw'
  have hl:=hb.leave hs hw'
  obtain ⟨hs,hb⟩:=hl
  -- behind the loop
  have ⟨h,hs⟩:=hs.hr (h w7)
  refine rs1 results283 ⟨v2,rfl,h⟩
 case ht =>
  intro _ _ _ _ _ _ _ h
  exact h.elim
end Go.Proofs
end
section
open Go Go.SE Go.Sort
namespace Go.Proofs
open Tryz
abbrev SP (w0:World) (s:Sl) (Q:List Int→Prop) (w':World):Prop:=∃l,Rws w' 78 1 s (tmr l)∧Ext s.blk w0 w'∧Q l
theorem jAP (l:List Int):(tmr l).flatten=l.map (Value.int .i64):=by
 induction l with
 | nil=>rfl
 | cons a l ih=>simp only [tmr,List.map_cons,List.flatten_cons] at *;rw [ih];rfl
theorem c_Sort (s:Sl) (l:List Int) (w0:World) (h:Rws w0 78 1 s (tmr l)) (hn:l.length≤1000000) :
  Calls prog 207 #[s.v] w0 (fun e w'=>e=.returned (.tuple #[])∧SP w0 s (fun l'=>l'.Perm l∧l'.Pairwise (·≤·)) w'):=by
 have hl:s.len=l.length:=by rw [h.len];simp [tmr]
 rcases h.own with ⟨rfl,hnil⟩ | ⟨b,cur,ha,hg,hc,hm,hs,ht⟩
 ·have hd:l=[]:=by simpa [tmr] using hnil
  subst hd
  refine (show Calls prog 207 #[Sl.nil.v] w0 _ from AnyG.slices_Sort_int_none sortT none 0 w0).mono ?_
  rintro _ w' ⟨rfl,rfl⟩
  exact ⟨rfl,[],h,Ext.refl _,.refl _,.nil⟩
 have hlen:(tmr l).length=l.length:=by simp [tmr]
 rw [jAP,hlen,Nat.mul_one] at ht
 rw [hlen] at hc
 rw [Nat.mul_one] at hs
 have hb:b<w0.heap.size:=vA hg
 have hget:∀j,j<l.length→∃hj:j<l.length,cur[j]?=some (.int .i64 l[j]):=fun j hj=>⟨hj,by
  have:cur.toList[j]?=(cur.toList.take l.length)[j]?:=by rw [List.getElem?_take_of_lt hj]
  rw [← Array.getElem?_toList,this,ht,List.getElem?_map,List.getElem?_eq_getElem hj];rfl⟩
 have hH:Holds (Value.int .i64) w0 b 0 l.toArray:=by
  intro j hj;have hj:j<l.length:=by simpa using hj
  obtain ⟨_,e⟩:=hget j hj;refine ⟨?_,?_⟩
  ·unfold World.cell?;rw [hg];simp only [Option.isSome_none,Bool.false_eq_true,if_false,Nat.zero_add];rw [e,getElem!_pos l.toArray j (by simpa using hj)];simp
  ·unfold World.frozen?;rw [hg];simp
 have hv:s.v=.slice (some ⟨b,0,none⟩) l.length s.cap:=by unfold Sl.v;rw [ha,hl]
 rw [hv]
 refine (show Calls prog 207 #[.slice (some ⟨b,0,none⟩) l.length s.cap] w0 _ from AnyG.slices_Sort_int sortT b 0 s.cap l w0 hH hb (by omega)).mono ?_
 rintro _ w' ⟨rfl,n,os,rfl⟩
 have hp:(l.mergeSort fun x y=>decide (x≤y)).Perm l:=List.mergeSort_perm l _
 have hsd:(l.mergeSort fun x y=>decide (x≤y)).Pairwise (·≤·):=by
  have:=List.pairwise_mergeSort (le:=fun x y:Int=>decide (x≤y)) (fun a b c h1 h2=>by simp at *;omega) (fun a b=>by simp;omega) l;simpa using this
 have hq:(l.mergeSort fun x y=>decide (x≤y)).length=l.length:=hp.length_eq
 generalize (l.mergeSort fun x y=>decide (x≤y))=q at *
 refine ⟨rfl,q,⟨?_,?_,.inr ⟨b,putCells (Value.int .i64) 0 q.toArray cur,ha,?_,by simp [tmr];omega,hm,by simp [putCells,hs],?_⟩⟩,?_,hp,hsd⟩
 ·intro r hr;simp [tmr] at hr;obtain ⟨t,_,rfl⟩:=hr;rfl
 ·rw [hl];simp [tmr,hq]
 ·rw [heap_grow_old _ _ (by simpa using hb)]
  simp [putRow,mapBlock,Sort.ahead,Array.getElem?_modify,hg,onCells]
 ·rw [jAP]
  apply List.ext_getElem?
  intro j
  have e1:(tmr q).length*1=q.length:=by simp [tmr]
  rw [e1]
  by_cases hj:j<q.length
  ·rw [List.getElem?_take_of_lt hj,Array.getElem?_toList]
   unfold putCells
   rw [Array.getElem?_mapIdx,Array.getElem?_eq_getElem (show j<cur.size by omega),Option.map_some,if_pos ⟨Nat.zero_le _,by simp;omega⟩,Nat.sub_zero,getElem!_pos _ j (by simpa using hj),List.getElem?_map,List.getElem?_eq_getElem hj]
   simp
  ·rw [List.getElem?_eq_none (by simp;omega),List.getElem?_eq_none (by simp;omega)]
 ·refine ⟨rfl,rfl,rfl,Nat.le_add_right _ _,by simp [size_grow],fun i hi hf=>?_⟩
  have hne:b≠i:=fun e'=>hf ⟨_,ha,e'⟩
  rw [heap_grow_old _ _ (by simpa using hi)]
  simp [putRow,mapBlock,Sort.ahead,Array.getElem?_modify,hne]
end Go.Proofs
end
section
open Go Go.SE
open Go.IntKind renaming i64 → q6
namespace Go.Proofs
open Tryz
set_option maxRecDepth 100000
set_option maxHeartbeats 4000000
attribute [local irreducible] wpL wpX opE wpE Calls
def m_M2 (p1:Option Addr) (w0:World) (K:(Option Addr)→WP):Prop :=Br (Option.isNone p1) (K none w0) (∀p2 w1,New w0 (.map #[] 0) p2 w1→∀p3 w2,New w1 (.cells #[(vp p1),Sl.nil.v,(.map (some p2.block)),Sl.nil.v] 212) p3 w2→K (some p3) w2)
theorem w_M2 (p1 w0 K) (h:m_M2 p1 w0 K):
  Calls prog 62 #[(vp p1)] w0 (fun e w'=>∃r1,e=.returned (vp r1)∧K r1 w'):=by
 refine cw (args:=[(vp p1)]) func62 ntmps62 (eg (q0 (vp none) (ln (jA (eg (q0 (vp p1) (q2 (vb (Option.isNone p1)) (qJ (by kernel_rfl) rfl underlying68) (jD ?_))))))))
 refine jK (cbr h ?_ ?_)<;>intro h
 refine eg (q (ln (er (jY (rs1 results62 ⟨none,rfl,h⟩)))))
 refine jB (jK (eg (q (nw4 (fun p=>.map (some p.block)) h fun p2 w1 h=>q (nw1 h xb fun p3 w2 h=>q (ln (er (rs1 results62 ⟨(some p3),rfl,h⟩))))))))
def m_J_j2 (p1:Addr) (at1:Int) (p5 a9:Addr) (w0:World) (H:NP) (w:World) (Kc1:Int→NP→WP) (_K:WP):Prop :=∃v15,w.cell? a9=some (vi v15)∧Br (v15 == 4) (∃v16,w.cell? (a9.add 5)=some (vi v16)∧Calls prog 205 #[(vi v16),(vi 1),(vp (some p1)),(vp (some p5))] w (fun e w13=>e=.returned (.tuple #[])∧Kept H w w13∧∃v17,w13.cell? (a9.add 6)=some (vi v17)∧Calls prog 205 #[(vi v17),(vi 2),(vp (some p1)),(vp (some p5))] w13 (fun e w14=>e=.returned (.tuple #[])∧Kept H w13 w14∧Kc1 (q6.wrap (at1+1)) H w14))) (∀y1:Bool,y1=(cond (v15 == 7) (v15 == 7) (cond (v15 == 8) (v15 == 8) (v15 == 9)))→Br y1 (∀H3 w15,Hst w0 H w H3 w15→∃v18,w15.cell? (a9.add 5)=some (vi v18)∧Calls prog 205 #[(vi v18),(vi 3),(vp (some p1)),(vp (some p5))] w15 (fun e w16=>e=.returned (.tuple #[])∧Kept H3 w15 w16∧Kc1 (q6.wrap (at1+1)) H3 w16)) (∀H3 w15,Hst w0 H w H3 w15→Kc1 (q6.wrap (at1+1)) H3 w15))
def m_J_l1 (p1:Addr) (at1:Int) (w0:World) (Hl1:NP) (wl1:World) (Kc1:Int→NP→WP) (K:WP):Prop :=∃v10,wl1.cell? p1=some (vp v10)∧∃a6,v10=some a6∧∃v11:Sl,wl1.cell? (a6.add 3)=some v11.v∧Br (decide (at1<(v11.len:Int))) (∃v12,wl1.cell? p1=some (vp v12)∧∃a7,v12=some a7∧∃v13:Sl,wl1.cell? (a7.add 3)=some v13.v∧∃a8:Addr,At v13 at1 1 a8∧∃v14,wl1.cell? a8=some (vi v14)∧∀p5 w11,New wl1 (.cells #[(vi 0)] 78) p5 w11→jW w11 p5∧¬ Hl1 p5.block∧∀w12,w12=w11.setCell p5 (vi v14)→∃C3:WP,C3 w12.drew∧∀w17,w17=w12.drew→∃v19,(∀w',C3 w'→w'.cell? p1=some (vp v19))∧∃a10,v19=some a10∧∃v20,(∀w',C3 w'→w'.cell? a10=some (vp v20))∧∃v21,(∀w',C3 w'→w'.cell? p5=some (vi v21))∧(Calls prog 102 #[(vp v20),(vi v21)] w17 (fun e w18=>∃aA aC aD aF aG aB aE r1,e=.returned (.tuple #[(Ac aA aC aD aF aG aB aE),(vb r1)])∧C3 w18∧Kept Hl1 w17 w18∧∀p6 w19,New w18 (.cells #[(vi 0),(vi 0),(vi 0),(vu 0),ve,(vi 0),(vi 0)] 176) p6 w19→C3 w19∧(∀j,j<7→jW w19 (p6.add j))∧¬ Hl1 p6.block∧∀w20,w20=storeRow w19 p6 (Ae aA aC aD aF aG aB aE)→C3 w20∧m_J_j2 p1 at1 p5 p6 w0 Hl1 w20 Kc1 K))∧(∀p7 w21,New w17 (.cells #[(vi 0),(vi 0),(vi 0),(vu 0),ve,(vi 0),(vi 0)] 176) p7 w21→C3 w21∧Calls prog 102 #[(vp v20),(vi v21)] w21 (fun e w22=>∃aH aI aJ aK aL aM aN r2,e=.returned (.tuple #[(Ac aH aI aJ aK aL aM aN),(vb r2)])∧C3 w22∧Kept Hl1 w21 w22∧(∀j,j<7→jW w22 (p7.add j))∧¬ Hl1 p7.block∧∀w23,w23=storeRow w22 p7 (Ae aH aI aJ aK aL aM aN)→C3 w23∧m_J_j2 p1 at1 p5 p7 w0 Hl1 w23 Kc1 K))) (K wl1)
def m_J (k1:Option Addr) (t1 wrule1 wfrom1:Int) (w0:World) (K:WP):Prop :=∀p1 w1,New w0 (.cells #[(vp k1)] 125) p1 w1→∀H1 w2,Hst w0 None w1 H1 w2→∃v1,w2.cell? p1=some (vp v1)∧∃a1,v1=some a1∧∃v2:Option Nat,w2.cell? (a1.add 2)=some (.map v2)∧∃vrule1 vfrom1 ok1,(Instr.lookup 210 (.map v2) (vi t1) true).run prog w2=.ok (.tuple #[(.agg #[(vi vrule1),(vi vfrom1)]),(vb ok1)]) w2∧Br ok1 (∀H2 w4,Hst w0 H1 w2 H2 w4→K w4) (∀H2 w4,Hst w0 H1 w2 H2 w4→∃C1:WP,C1 w4.drew∧∀w5,w5=w4.drew→∃v3,(∀w',C1 w'→w'.cell? p1=some (vp v3))∧∃a2,v3=some a2∧∃v4:Option Nat,(∀w',C1 w'→w'.cell? (a2.add 2)=some (.map v4))∧∃w6:World,(Instr.mapUpdate 210 (.map v4) (vi t1) (.agg #[(vi wrule1),(vi wfrom1)])).run prog w5=.ok () w6∧Kept H2 w5 w6∧∃v5,w6.cell? p1=some (vp v5)∧∃a3,v5=some a3∧∃v6:Sl,w6.cell? (a3.add 3)=some v6.v∧∃C2:WP,C2 w6.drew∧∀w7,w7=w6.drew→∃v7,(∀w',C2 w'→w'.cell? p1=some (vp v7))∧∃v8,(∀w',C2 w'→w'.cell? p1=some (vp v8))∧∃a4,v8=some a4∧∃v9:Sl,(∀w',C2 w'→w'.cell? (a4.add 3)=some v9.v)∧∀p4 w8,New w7 (.cells #[(vi t1)] 78) p4 w8→C2 w8∧∃s1:Sl,∃w9:World,(Builtin.append_ #[46,46] 46 #[v9.v,(Sl.mk (some p4) 1 1).v]).run prog w8=.ok s1.v w9∧C2 w9∧Kept H2 w8 w9∧∃a5,v7=some a5∧jW w9 (a5.add 3)∧¬ H2 (a5.add 3).block∧∀w10,w10=w9.setCell (a5.add 3) s1.v→∃(I1:Int→NP→WP) (mu1:Int→World→Nat),I1 (v6.len:Int) H2 w10∧∀(at1:Int) (Hl1:NP) (wl1:World),Hst w0 Hl1 wl1 Hl1 wl1→I1 at1 Hl1 wl1→m_J_l1 p1 at1 w0 Hl1 wl1 (fun y'0 H' w'=>I1 y'0 H' w'∧mu1 y'0 w'<mu1 at1 wl1) K)
theorem w_J (k1 t1 wrule1 wfrom1 w0 K) (h:m_J k1 t1 wrule1 wfrom1 w0 K):
  Calls prog 151 #[(vp k1),(vi t1),(.agg #[(vi wrule1),(vi wfrom1)])] w0 (fun e w'=>e=.returned (.tuple #[])∧K  w'):=by
 refine cw (args:=[(vp k1),(vi t1),(.agg #[(vi wrule1),(vi wfrom1)])]) func151 ntmps151 ?_
 obtain ⟨hs,hb⟩:=st0 w0
 refine eg (nw2 hs hb h xb fun p1 w1 hs hb h=>nw3 [(vi wrule1),(vi wfrom1)] 235 hs hb xb fun p2 w2 H1 hs hb=>ln (jA (eg ?_)))
 have ⟨h,hs⟩:=hs.hr (h H1 w2)
 refine ql (isAgg125 _) h fun v1 h=>qm h fun a1 h=>q (ql (isAgg210 _) h fun v2 h=>q ?_)
 obtain ⟨vrule1,vfrom1,ok1,hv23,h⟩:=h
 refine q2 (.tuple #[(.agg #[(vi vrule1),(vi vfrom1)]),(vb ok1)]) (xX (by kernel_rfl) (by kernel_rfl) hv23) (qc (nw3 [(vi 0),(vi 0)] 235 hs hb (jE (zeroValue235 _) rfl) fun p3 w3 H2 hs hb=>sbx 0 [(vi vrule1),(vi vfrom1)] (sizeOf235 _) hs hb gZ fun w4 hs hb=>q (ln (eg (q (ln (cbr h ?_ ?_)))))))<;>intro h
 refine er (jY ?_)
 have ⟨h,hs⟩:=hs.hr (h H2 w4)
 refine jFV (.inl rfl) results151 ⟨rfl,h⟩
 refine jB (jK (jA ?_))
 have ⟨h,hs⟩:=hs.hr (h H2 w4)
 obtain ⟨C1,hC,h⟩:=h
 refine dr2 (fun x=>C1 x∧HB H2 x _) [6] [6] ⟨hC,hb.drew⟩ h hs hb fun w5 hs hb h=>?_
 have hs:=hs.here
 refine qg 0 ?_
 obtain ⟨v3,hv22,h⟩:=h
 refine sy Kp0 (fun _ k=>xl (isAgg125 _) (hv22 _ k.1)) (qg 1 ?_)
 obtain ⟨a2,hp2,h⟩:=h
 refine sy Kp1 (fun _ _=>xn hp2) (qx 2 (vp (some (a2.add 2))) Kp2 (qg 3 ?_))
 obtain ⟨v4,hv21,h⟩:=h
 refine sy Kp3 (fun _ k=>xl (isAgg210 _) (hv21 _ k.1)) (qx 4 (vi t1) Kp4 (qz 5 (.agg #[(vi wrule1),(vi wfrom1)]) Kp5 (fun w' hw'=>(xa p2 [(vi wrule1),(vi wfrom1)] (isAgg235 _) (sizeOf235 _) (hw'.2.r0 1 2 (gS gZ)))) (lg 6 ?_)))
 obtain ⟨w6,hv20,hk,h⟩:=h
 refine lX Kp6 (jL rfl) (by kernel_rfl) (yB (by kernel_rfl) (by kernel_rfl) (by kernel_rfl) hv20) (.inl (by kernel_rfl)) ?_
 obtain ⟨hs,hb⟩:=hk.hh hs hb
 refine wn (jK (eg (ql (isAgg125 _) h fun v5 h=>qm h fun a3 h=>q (ql (isAgg46 _) h fun v6 h=>qb (ln (jA ?_))))))
 obtain ⟨C2,hC,h⟩:=h
 refine dr2 (fun x=>C2 x∧HB H2 x _) [6,7,10] [10] ⟨hC,hb.drew⟩ h hs hb fun w7 hs hb h=>?_
 have hs:=hs.here
 refine qg 0 ?_
 obtain ⟨v7,hv17,h⟩:=h
 refine sy Kp0 (fun _ k=>xl (isAgg125 _) (hv17 _ k.1)) (qg 1 ?_)
 obtain ⟨v8,hv16,h⟩:=h
 refine sy Kp1 (fun _ k=>xl (isAgg125 _) (hv16 _ k.1)) (qg 2 ?_)
 obtain ⟨a4,hp4,h⟩:=h
 refine sy Kp2 (fun _ _=>xn hp4) (qx 3 (vp (some (a4.add 3))) Kp3 (qg 4 ?_))
 obtain ⟨v9,hv15,h⟩:=h
 refine sy Kp4 (fun _ k=>xl (isAgg46 _) (hv15 _ k.1)) (qx 5 (vi t1) Kp5 (lg 6 (zI (O:=(.cells #[(vi t1)] 78)) (fun p=>(Sl.mk (some p) 1 1).v) Kp6 (jL rfl) (by kernel_rfl) (zO (vs:=#[(0,(vi t1))]) (by kernel_rfl) (by kernel_rfl)) ?_)))
 intro p4 w8 hn11
 have h:=h p4 w8 hn11
 refine ⟨.inr ⟨h.1,hb.kept (Ext.new (F:=None) hn11).keptP⟩,?_⟩
 have h:=h.2
 obtain ⟨hs,hb⟩:=hs.nw hb hn11
 refine lg 7 ?_
 obtain ⟨s1,w9,hv14,hC,hk,h⟩:=h
 refine sl (v:=s1.v) Kp7 (jL rfl) (by kernel_rfl) (zD (args:=#[v9.v,(Sl.mk (some p4) 1 1).v]) (by kernel_rfl) (fun _=>rfl) hv14) (.inr ⟨hC,hb.kept hk⟩) ?_
 obtain ⟨hs,hb⟩:=hk.hh hs hb
 refine qg 8 ?_
 obtain ⟨a5,hp5,h⟩:=h
 refine sy Kp8 (fun _ _=>xn hp5) (qx 9 (vp (some (a5.add 3))) Kp9 (lg 10 ?_))
 obtain ⟨hp6,hnh,h⟩:=h
 refine sl_t (jJ (S8 (jC (jC jI)))) (xs (v:=s1.v) (sizeOf46 _) hp6) ?_
 intro w10 hn4
 have h:=h w10 hn4
 refine ⟨.inl (by kernel_rfl),?_⟩
 have hk:=Kept.sc hnh hn4
 obtain ⟨hs,hb⟩:=hk.hh hs hb
 refine wn (jK (jH ?_))
 obtain ⟨I1,mu1,h0,hr⟩:=h
 refine zT (σ:=Int×NP×World) (fun s ρ w=>w=s.2.2∧Has ρ [(3,(vp (some p1))),(8,(vi s.1))]∧Hst w0 s.2.1 w s.2.1 w∧HB s.2.1 w [(p3,[(vi vrule1),(vi vfrom1)],235),(p2,[(vi wrule1),(vi wfrom1)],235)]∧I1 s.1 s.2.1 s.2.2) (fun s=>mu1 s.1 s.2.2) ((v6.len:Int),H2,w10) ⟨rfl,hm,hs,hb,h0⟩ ?_
 rintro ⟨at1,Hl1,wl1⟩ ρ w ⟨hw,hH,hs,hb,hI⟩
 dsimp only at hw hH hs hb;subst w
 have h:=hr at1 Hl1 wl1 hs hI
 refine jQ hH (jA (eg (q (ql (isAgg125 _) h fun v10 h=>qm h fun a6 h=>q (ql (isAgg46 _) h fun v11 h=>qb (ln (cbr h ?_ ?_)))))))<;>intro h
 refine jB (jK (jA (jH (eg (ql (isAgg125 _) h fun v12 h=>qm h fun a7 h=>q (ql (isAgg46 _) h fun v13 h=>q (qi (runUnderlying46 _) (sizeOf78 _) h fun a8 h=>ql (isAgg78 _) h fun v14 h=>sn (O:=(.cells #[(vi 0)] 78)) (jE (zeroValue78 _) rfl) ?_)))))))
 intro p5 w11 hn10
 have h:=h p5 w11 hn10
 obtain ⟨hs,hb⟩:=hs.nw hb hn10
 refine st2 (sizeOf78 _) hs hb h fun w12 hs hb h=>ln (jA (vF (fun ρ w=>∃a9:Addr,∃H:NP,Has ρ [(3,(vp (some p1))),(8,(vi at1)),(9,(vp (some p5))),(10,(vp (some a9)))]∧Hst w0 H w H w∧HB H w [(p3,[(vi vrule1),(vi vfrom1)],235),(p2,[(vi wrule1),(vi wfrom1)],235)]∧m_J_j2 p1 at1 p5 a9 w0 H w (fun y'0 H' w'=>I1 y'0 H' w'∧mu1 y'0 w'<mu1 at1 wl1) K) ?_ ?_))
 rintro ρ w ⟨a9,H,hH,hs,hb,h⟩
 refine jQ hH (eg (qb (ln (eg (q (ql (isAgg3 _) h fun v15 h=>ln (jH (eg (qb (ln (cbr h ?_ ?_)))))))))))<;>intro h
 refine eg (qb (ql (isAgg78 _) h fun v16 h=>zC (jL rfl) (kM (fs:=#[]) (caps:=#[(vp (some p1)),(vp (some p5))]) (args:=#[(vi v16),(vi 1)]) (args':=#[(vi v16),(vi 1),(vp (some p1)),(vp (some p5))]) (by kernel_rfl) call205 (by kernel_rfl) (by kernel_rfl)) (h.mono ?_)))
 rintro e w13 ⟨rfl,hk,h⟩
 refine ⟨_,rfl,?_⟩
 obtain ⟨hs,hb⟩:=hk.hh hs hb
 refine ln (rg (qb (ql (isAgg78 _) h fun v17 h=>zC (jL rfl) (kM (fs:=#[]) (caps:=#[(vp (some p1)),(vp (some p5))]) (args:=#[(vi v17),(vi 2)]) (args':=#[(vi v17),(vi 2),(vp (some p1)),(vp (some p5))]) (by kernel_rfl) call205 (by kernel_rfl) (by kernel_rfl)) (h.mono ?_))))
 rintro e w14 ⟨rfl,hk,h⟩
 refine ⟨_,rfl,?_⟩
 obtain ⟨hs,hb⟩:=hk.hh hs hb
 refine jD (vS (vS (jK (rg (qc (ln ⟨((q6.wrap (at1+1)),H,w14),⟨rfl,hm,hs,hb,h.1⟩,h.2⟩))))))
 refine jA (eg (qb (ln (vQ (fun ρ wJ=>∃b1'0 b1'1 y1:Bool,∃HJ:NP,((v15 == 7)=b1'0)∧((v15 == 8)=b1'1)∧(y1=(cond b1'0 (v15 == 7) (cond b1'1 (v15 == 8) (v15 == 9))))∧Hst w0 H w HJ wJ∧HB HJ wJ [(p3,[(vi vrule1),(vi vfrom1)],235),(p2,[(vi wrule1),(vi wfrom1)],235)]∧Has ρ [(3,(vp (some p1))),(8,(vi at1)),(10,(vp (some a9))),(12,(.func (.func 205) #[] #[(vp (some p1)),(vp (some p5))])),(82,(vb y1))]) ?_ ?_))))
 refine zQ (t:=(v15 == 7)) (by kernel_rfl) (fun hc6=>?_) (fun hc6=>?_)
 refine jB (jK ⟨true,_,_,_,hc6,rfl,rfl,hs,hb,hm⟩)
 refine eg (qb (ln (zQ (t:=(v15 == 8)) (by kernel_rfl) (fun hc7=>?_) (fun hc7=>?_))))
 refine jB (jK ⟨false,true,_,_,hc6,hc7,rfl,hs,hb,hm⟩)
 refine rg (qb (ln ⟨false,false,_,_,hc6,hc7,rfl,hs,hb,hm⟩))
 rintro ρ w15 ⟨b1'0,b1'1,y1,H3,he0,he1,hy1,hs,hb,hH⟩
 subst he0
 subst he1
 have h:=h y1 hy1
 refine kO hH (jK (cbr h ?_ ?_))<;>intro h
 refine rg (qb ?_)
 have ⟨h,hs⟩:=hs.hr (h H3 w15)
 refine ql (isAgg78 _) h fun v18 h=>zC (jL rfl) (kM (fs:=#[]) (caps:=#[(vp (some p1)),(vp (some p5))]) (args:=#[(vi v18),(vi 3)]) (args':=#[(vi v18),(vi 3),(vp (some p1)),(vp (some p5))]) (by kernel_rfl) call205 (by kernel_rfl) (by kernel_rfl)) (h.mono ?_)
 rintro e w16 ⟨rfl,hk,h⟩
 refine ⟨_,rfl,?_⟩
 obtain ⟨hs,hb⟩:=hk.hh hs hb
 refine jD (vS (vS (jK (rg (qc (ln ⟨((q6.wrap (at1+1)),H3,w16),⟨rfl,hm,hs,hb,h.1⟩,h.2⟩))))))
 refine jB (vS (vS (jK (rg (qc (jD ?_))))))
 have ⟨h,hs⟩:=hs.hr (h H3 w15)
 refine jK ⟨((q6.wrap (at1+1)),H3,w15),⟨rfl,hm,hs,hb,h.1⟩,h.2⟩
 obtain ⟨C3,hC,h⟩:=h
 refine dr2 (fun x=>C3 x∧HB Hl1 x _) [5,9,10] [] ⟨hC,hb.drew⟩ h hs hb fun w17 hs hb h=>?_
 have hs:=hs.here
 refine qg 0 ?_
 obtain ⟨v19,hv7,h⟩:=h
 refine sy Kp0 (fun _ k=>xl (isAgg125 _) (hv7 _ k.1)) (qg 1 ?_)
 obtain ⟨a10,hp10,h⟩:=h
 refine sy Kp1 (fun _ _=>xn hp10) (qx 2 (vp (some a10)) Kp2 (qg 3 ?_))
 obtain ⟨v20,hv6,h⟩:=h
 refine sy Kp3 (fun _ k=>xl (isAgg68 _) (hv6 _ k.1)) (qg 4 ?_)
 obtain ⟨v21,hv5,h⟩:=h
 refine sy Kp4 (fun _ k=>xl (isAgg78 _) (hv5 _ k.1)) (jDV (k:=5) (k':=9) (by kernel_rfl) ?_ ?_)
 have h:=h.1
 refine slc Kp5 call102 (h.mono ?_)
 rintro e w18 ⟨aA,aC,aD,aF,aG,aB,aE,r1,rfl,hC,hk,h⟩
 refine ⟨_,rfl,.inr ⟨hC,hb.kept hk⟩,?_⟩
 obtain ⟨hs,hb⟩:=hk.hh hs hb
 refine qx 6 (.tuple #[(Ac aA aC aD aF aG aB aE),(vb r1)]) Kp6 (qx 7 (Ac aA aC aD aF aG aB aE) Kp7 (qx 8 (vb r1) Kp8 (lg 9 (zI (O:=(.cells #[(vi 0),(vi 0),(vi 0),(vu 0),ve,(vi 0),(vi 0)] 176)) (fun p=>.pointer (some p)) Kp9 (jL rfl) (by kernel_rfl) (jE (zeroValue176 _) rfl) ?_))))
 intro p6 w19 hn7
 have h:=h p6 w19 hn7
 refine ⟨.inr ⟨h.1,hb.kept (Ext.new (F:=None) hn7).keptP⟩,?_⟩
 have h:=h.2
 obtain ⟨hs,hb⟩:=hs.nw hb hn7
 refine lg 10 ?_
 obtain ⟨hp11,hnh,h⟩:=h
 refine vG (jJ (S8 (jC (jC jI)))) (jL rfl) (by kernel_rfl) (xo p6 (Ae aA aC aD aF aG aB aE) (sizeOf176 _) hp11) ?_
 intro w20 hn6
 have h:=h w20 hn6
 refine ⟨.inr ⟨h.1,hb.kept (by rw [hn6];exact Kept.storeRow hnh)⟩,?_⟩
 have h:=h.2
 have hk:Kept Hl1 w19 w20:=by rw [hn6];exact Kept.storeRow hnh
 obtain ⟨hs,hb⟩:=hk.hh hs hb
 refine qx 11 (vb r1) (jJ (S8 (jC (jC (jC jI))))) (wn (jK ⟨p6,Hl1,hm,hs,hb,h⟩))
 have h:=h.2
 refine zI (O:=(.cells #[(vi 0),(vi 0),(vi 0),(vu 0),ve,(vi 0),(vi 0)] 176)) (fun p=>.pointer (some p)) Kp9 (jL rfl) (by kernel_rfl) (jE (zeroValue176 _) rfl) ?_
 intro p7 w21 hn9
 have h:=h p7 w21 hn9
 refine ⟨.inr ⟨h.1,hb.kept (Ext.new (F:=None) hn9).keptP⟩,?_⟩
 have h:=h.2
 obtain ⟨hs,hb⟩:=hs.nw hb hn9
 refine lg 5 (slc Kp5 call102 (h.mono ?_))
 rintro e w22 ⟨aH,aI,aJ,aK,aL,aM,aN,r2,rfl,hC,hk,h⟩
 refine ⟨_,rfl,.inr ⟨hC,hb.kept hk⟩,?_⟩
 obtain ⟨hs,hb⟩:=hk.hh hs hb
 refine qx 6 (.tuple #[(Ac aH aI aJ aK aL aM aN),(vb r2)]) Kp6 (qx 7 (Ac aH aI aJ aK aL aM aN) Kp7 (qx 8 (vb r2) Kp8 (lg 10 ?_)))
 obtain ⟨hp12,hnh,h⟩:=h
 refine vG (jJ (S8 (jC (jC jI)))) (jL rfl) (by kernel_rfl) (xo p7 (Ae aH aI aJ aK aL aM aN) (sizeOf176 _) hp12) ?_
 intro w23 hn8
 have h:=h w23 hn8
 refine ⟨.inr ⟨h.1,hb.kept (by rw [hn8];exact Kept.storeRow hnh)⟩,?_⟩
 have h:=h.2
 have hk:Kept Hl1 w22 w23:=by rw [hn8];exact Kept.storeRow hnh
 obtain ⟨hs,hb⟩:=hk.hh hs hb
 refine qx 11 (vb r2) (jJ (S8 (jC (jC (jC jI))))) (wn (jK ⟨p7,Hl1,hm,hs,hb,h⟩))
 refine zL (qL (qL (qI (jFV (.inr rfl) results151 ⟨rfl,h⟩))))
def m_O1 (k1:Option Addr) (t1:Int) (w0:World) (K:Int→WP):Prop :=Br (Option.isNone k1) (K 7 w0) (∃a1,k1=some a1∧∃v1,w0.cell? a1=some (vp v1)∧Calls prog 102 #[(vp v1),(vi t1)] w0 (fun e w1=>∃aA aC aD aF aG aB aE r1,e=.returned (.tuple #[(Ac aA aC aD aF aG aB aE),(vb r1)])∧Kept None w0 w1∧Br (!r1) (∀H1 w3,Hst w0 None w1 H1 w3→K 51 w3) (∃a2,k1=some a2∧∀H1 w3,Hst w0 None w1 H1 w3→∃v2:Sl,w3.cell? (a2.add 1)=some v2.v∧Calls prog 150 #[v2.v,(vi t1)] w3 (fun e w4=>∃r2,e=.returned (vb r2)∧Kept H1 w3 w4∧Br (!r2) (∃a3,k1=some a3∧∃v3:Sl,w4.cell? (a3.add 1)=some v3.v∧∀p2 w5,New w4 (.cells #[(vi t1)] 78) p2 w5→∃s1:Sl,∃w6:World,(Builtin.append_ #[46,46] 46 #[v3.v,(Sl.mk (some p2) 1 1).v]).run prog w5=.ok s1.v w6∧Kept H1 w5 w6∧∃a4,k1=some a4∧jW w6 (a4.add 1)∧¬ H1 (a4.add 1).block∧∀w7,w7=w6.setCell (a4.add 1) s1.v→Calls prog 151 #[(vp k1),(vi t1),(.agg #[(vi 0),(vi 0)])] w7 (fun e w8=>e=.returned (.tuple #[])∧Kept H1 w7 w8∧K 0 w8)) (Calls prog 151 #[(vp k1),(vi t1),(.agg #[(vi 0),(vi 0)])] w4 (fun e w9=>e=.returned (.tuple #[])∧Kept H1 w4 w9∧K 0 w9))))))
theorem w_O1 (k1 t1 w0 K) (h:m_O1 k1 t1 w0 K):
  Calls prog 79 #[(vp k1),(vi t1)] w0 (fun e w'=>∃r3,e=.returned (vi r3)∧K r3 w'):=by
 refine cw (args:=[(vp k1),(vi t1)]) func79 ntmps79 ?_
 obtain ⟨hs,hb⟩:=st0 w0
 refine eg (q (ln (jA (eg (q (q2 (vb (Option.isNone k1)) (qJ (by kernel_rfl) rfl underlying125) (ln (cbr h ?_ ?_))))))))<;>intro h
 refine eg (q (ln (er (jY (rs1 results79 ⟨7,rfl,h⟩)))))
 refine jB (jK (jA (eg (q (qm h fun a1 h=>q (ql (isAgg68 _) h fun v1 h=>q (sc call102 (h.mono fun e w1 ⟨aA,aC,aD,aF,aG,aB,aE,r1,k,hk,h⟩=>have ⟨hs,hb⟩:=hk.hh hs hb;⟨_,k,?_⟩))))))))
 refine qc (nw3 [(vi 0),(vi 0),(vi 0),(vu 0),ve,(vi 0),(vi 0)] 176 hs hb (jE (zeroValue176 _) rfl) fun p1 w2 H1 hs hb=>sbx 0 (Ae aA aC aD aF aG aB aE) (sizeOf176 _) hs hb gZ fun w3 hs hb=>q (ln (eg (qb (ln (cbr h ?_ ?_))))))<;>intro h
 refine eg (q (ln (er (jY ?_))))
 have ⟨h,hs⟩:=hs.hr (h H1 w3)
 refine rs1 results79 ⟨51,rfl,h⟩
 refine jB (jK (jA (eg (q (qm h fun a2 h=>q ?_)))))
 have ⟨h,hs⟩:=hs.hr (h H1 w3)
 refine ql (isAgg46 _) h fun v2 h=>q (sc call150 (h.mono fun e w4 ⟨r2,k,hk,h⟩=>have ⟨hs,hb⟩:=hk.hh hs hb;⟨_,k,?_⟩))
 refine q (ln (cbr h ?_ ?_))<;>intro h
 refine rg (qb (qm h fun a3 h=>q (ql (isAgg46 _) h fun v3 h=>q (uL (O:=(.cells #[(vi t1)] 78)) (fun p=>(Sl.mk (some p) 1 1).v) (jL rfl) (zO (vs:=#[(0,(vi t1))]) (by kernel_rfl) (by kernel_rfl)) ?_))))
 intro p2 w5 hn4
 have h:=h p2 w5 hn4
 obtain ⟨hs,hb⟩:=hs.nw hb hn4
 obtain ⟨s1,w6,hv1,hk,h⟩:=h
 refine st (v:=s1.v) (jL rfl) (zD (args:=#[v3.v,(Sl.mk (some p2) 1 1).v]) (by kernel_rfl) (fun _=>rfl) hv1) ?_
 obtain ⟨hs,hb⟩:=hk.hh hs hb
 refine qm h fun a4 h=>q (st2 (sizeOf46 _) hs hb h fun w7 hs hb h=>ln (eg (qc (sc call151 (h.mono fun e w8 ⟨k,hk,h⟩=>have ⟨hs,hb⟩:=hk.hh hs hb;⟨_,k,?_⟩)))))
 refine ln (eg (q (ln (er (rs1 results79 ⟨0,rfl,h⟩)))))
 refine jB (jK (eg (qc (sc call151 (h.mono fun e w9 ⟨k,hk,h⟩=>have ⟨hs,hb⟩:=hk.hh hs hb;⟨_,k,?_⟩)))))
 refine ln (eg (q (ln (er (rs1 results79 ⟨0,rfl,h⟩)))))
def m_N2 (k1:Option Addr) (w0:World) (K:Sl→WP):Prop :=Br (Option.isNone k1) (K Sl.nil w0) (∃a1,k1=some a1∧∃v1:Sl,w0.cell? (a1.add 3)=some v1.v∧Calls prog 153 #[v1.v] w0 (fun e w1=>∃r1:Value,e=.returned r1∧Calls prog 152 #[r1] w1 (fun e w2=>∃r2:Sl,e=.returned r2.v∧K r2 w2)))
theorem w_N2 (k1 w0 K) (h:m_N2 k1 w0 K):
  Calls prog 80 #[(vp k1)] w0 (fun e w'=>∃r3:Sl,e=.returned r3.v∧K r3 w'):=by
 refine cw (args:=[(vp k1)]) func80 ntmps80 (eg (q0 Sl.nil.v (ln (jA (eg (q0 (vp k1) (q2 (vb (Option.isNone k1)) (qJ (by kernel_rfl) rfl underlying125) (jD ?_))))))))
 refine jK (cbr h ?_ ?_)<;>intro h
 refine eg (q (ln (er (jY (rs1 results80 ⟨Sl.nil,rfl,h⟩)))))
 refine jB (jK (eg (q (qm h fun a1 h=>q (ql (isAgg46 _) h fun v1 h=>sc call153 (h.mono fun e w1 ⟨r1,k,h⟩=>⟨_,k,?_⟩))))))
 refine sc call152 (h.mono fun e w2 ⟨r2,k,h⟩=>⟨_,k,?_⟩)
 refine q (ln (er (rs1 results80 ⟨r2,rfl,h⟩)))
def m_O2 (t1 rule1:Int) (cap1 cap2:Addr) (w0:World) (K:WP):Prop :=∃v1,w0.cell? cap1=some (vp v1)∧∃a1,v1=some a1∧∃v2:Option Nat,w0.cell? (a1.add 2)=some (.map v2)∧∃vrule1 vfrom1 ok1,(Instr.lookup 210 (.map v2) (vi t1) true).run prog w0=.ok (.tuple #[(.agg #[(vi vrule1),(vi vfrom1)]),(vb ok1)]) w0∧Br (!ok1) (∀H1 w2,Hst w0 None w0 H1 w2→∃C1:WP,C1 w2.drew∧∀w3,w3=w2.drew→∃v3,(∀w',C1 w'→w'.cell? cap1=some (vp v3))∧∃a2,v3=some a2∧∃v4:Option Nat,(∀w',C1 w'→w'.cell? (a2.add 2)=some (.map v4))∧∃v5,(∀w',C1 w'→w'.cell? cap2=some (vi v5))∧∃w4:World,(Instr.mapUpdate 210 (.map v4) (vi t1) (.agg #[(vi rule1),(vi v5)])).run prog w3=.ok () w4∧Kept H1 w3 w4∧∃C2:WP,C2 w4.drew∧∀w5,w5=w4.drew→∃v6,(∀w',C2 w'→w'.cell? cap1=some (vp v6))∧∃v7,(∀w',C2 w'→w'.cell? cap1=some (vp v7))∧∃a3,v7=some a3∧∃v8:Sl,(∀w',C2 w'→w'.cell? (a3.add 3)=some v8.v)∧∀p2 w6,New w5 (.cells #[(vi t1)] 78) p2 w6→C2 w6∧∃s1:Sl,∃w7:World,(Builtin.append_ #[46,46] 46 #[v8.v,(Sl.mk (some p2) 1 1).v]).run prog w6=.ok s1.v w7∧C2 w7∧Kept H1 w6 w7∧∃a4,v6=some a4∧jW w7 (a4.add 3)∧¬ H1 (a4.add 3).block∧∀w8,w8=w7.setCell (a4.add 3) s1.v→K w8) (∀H1 w2,Hst w0 None w0 H1 w2→K w2)
theorem w_O2 (t1 rule1 cap1 cap2 w0 K) (h:m_O2 t1 rule1 cap1 cap2 w0 K):
  Calls prog 205 #[(vi t1),(vi rule1),(vp (some cap1)),(vp (some cap2))] w0 (fun e w'=>e=.returned (.tuple #[])∧K  w'):=by
 refine cw (args:=[(vi t1),(vi rule1),(vp (some cap1)),(vp (some cap2))]) func205 ntmps205 ?_
 obtain ⟨hs,hb⟩:=st0 w0
 refine eg (ql (isAgg125 _) h fun v1 h=>qm h fun a1 h=>q (ql (isAgg210 _) h fun v2 h=>q ?_))
 obtain ⟨vrule1,vfrom1,ok1,hv9,h⟩:=h
 refine q2 (.tuple #[(.agg #[(vi vrule1),(vi vfrom1)]),(vb ok1)]) (xX (by kernel_rfl) (by kernel_rfl) hv9) (qc (nw3 [(vi 0),(vi 0)] 235 hs hb (jE (zeroValue235 _) rfl) fun p1 w1 H1 hs hb=>sbx 0 [(vi vrule1),(vi vfrom1)] (sizeOf235 _) hs hb gZ fun w2 hs hb=>q (ln (eg (qb (ln (cbr h ?_ ?_)))))))<;>intro h
 refine jA ?_
 have ⟨h,hs⟩:=hs.hr (h H1 w2)
 obtain ⟨C1,hC,h⟩:=h
 refine dr2 (fun x=>C1 x∧HB H1 x _) [8] [8] ⟨hC,hb.drew⟩ h hs hb fun w3 hs hb h=>?_
 have hs:=hs.here
 refine qg 0 ?_
 obtain ⟨v3,hv8,h⟩:=h
 refine sy Kp0 (fun _ k=>xl (isAgg125 _) (hv8 _ k.1)) (qg 1 ?_)
 obtain ⟨a2,hp2,h⟩:=h
 refine sy Kp1 (fun _ _=>xn hp2) (qx 2 (vp (some (a2.add 2))) Kp2 (qg 3 ?_))
 obtain ⟨v4,hv7,h⟩:=h
 refine sy Kp3 (fun _ k=>xl (isAgg210 _) (hv7 _ k.1)) (qx 4 (vi t1) Kp4 (qx 5 (vi rule1) Kp5 (qg 6 ?_)))
 obtain ⟨v5,hv6,h⟩:=h
 refine sy Kp6 (fun _ k=>xl (isAgg78 _) (hv6 _ k.1)) (qx 7 (.agg #[(vi rule1),(vi v5)]) Kp7 (lg 8 ?_))
 obtain ⟨w4,hv5,hk,h⟩:=h
 refine lX Kp8 (jL rfl) (by kernel_rfl) (yB (by kernel_rfl) (by kernel_rfl) (by kernel_rfl) hv5) (.inl (by kernel_rfl)) ?_
 obtain ⟨hs,hb⟩:=hk.hh hs hb
 refine wn (jK ?_)
 obtain ⟨C2,hC,h⟩:=h
 refine dr2 (fun x=>C2 x∧HB H1 x _) [6,7,10] [10] ⟨hC,hb.drew⟩ h hs hb fun w5 hs hb h=>?_
 have hs:=hs.here
 refine qg 0 ?_
 obtain ⟨v6,hv4,h⟩:=h
 refine sy Kp0 (fun _ k=>xl (isAgg125 _) (hv4 _ k.1)) (qg 1 ?_)
 obtain ⟨v7,hv3,h⟩:=h
 refine sy Kp1 (fun _ k=>xl (isAgg125 _) (hv3 _ k.1)) (qg 2 ?_)
 obtain ⟨a3,hp3,h⟩:=h
 refine sy Kp2 (fun _ _=>xn hp3) (qx 3 (vp (some (a3.add 3))) Kp3 (qg 4 ?_))
 obtain ⟨v8,hv2,h⟩:=h
 refine sy Kp4 (fun _ k=>xl (isAgg46 _) (hv2 _ k.1)) (qx 5 (vi t1) Kp5 (lg 6 (zI (O:=(.cells #[(vi t1)] 78)) (fun p=>(Sl.mk (some p) 1 1).v) Kp6 (jL rfl) (by kernel_rfl) (zO (vs:=#[(0,(vi t1))]) (by kernel_rfl) (by kernel_rfl)) ?_)))
 intro p2 w6 hn4
 have h:=h p2 w6 hn4
 refine ⟨.inr ⟨h.1,hb.kept (Ext.new (F:=None) hn4).keptP⟩,?_⟩
 have h:=h.2
 obtain ⟨hs,hb⟩:=hs.nw hb hn4
 refine lg 7 ?_
 obtain ⟨s1,w7,hv1,hC,hk,h⟩:=h
 refine sl (v:=s1.v) Kp7 (jL rfl) (by kernel_rfl) (zD (args:=#[v8.v,(Sl.mk (some p2) 1 1).v]) (by kernel_rfl) (fun _=>rfl) hv1) (.inr ⟨hC,hb.kept hk⟩) ?_
 obtain ⟨hs,hb⟩:=hk.hh hs hb
 refine qg 8 ?_
 obtain ⟨a4,hp4,h⟩:=h
 refine sy Kp8 (fun _ _=>xn hp4) (qx 9 (vp (some (a4.add 3))) Kp9 (lg 10 ?_))
 obtain ⟨hp5,hnh,h⟩:=h
 refine sl_t (jJ (S8 (jC (jC jI)))) (xs (v:=s1.v) (sizeOf46 _) hp5) ?_
 intro w8 hn3
 have h:=h w8 hn3
 refine ⟨.inl (by kernel_rfl),?_⟩
 have hk:=Kept.sc hnh hn3
 obtain ⟨hs,hb⟩:=hk.hh hs hb
 refine wn (jFV (.inr rfl) results205 ⟨rfl,h⟩)
 refine jB ?_
 have ⟨h,hs⟩:=hs.hr (h H1 w2)
 refine jFV (.inr rfl) results205 ⟨rfl,h⟩
end Go.Proofs
end
section
namespace Go.Sp
theorem jCQ {L:Pool} {i:Nat} (hi:i<L.length):jG L ((i:Int)+1)=L[i].node:=by
 have h:inP L ((i:Int)+1)=true:=qB.2 ⟨by omega,by omega⟩;have e:((i:Int)+1 - 1).toNat=i:=by omega
 simp [jG,get,h,e,hi]
theorem jCZ {L:Pool} {t:Int} (h:inP L t=true):∃i:Nat,i<L.length∧t=(i:Int)+1:=by
 have:=qB.1 h;exact ⟨(t - 1).toNat,by omega,by omega⟩
theorem jAU {L:Pool} {i:Nat} (hi:i<L.length):get L ((i:Int)+1)=some L[i]:=by
 have h:inP L ((i:Int)+1)=true:=qB.2 ⟨by omega,by omega⟩;have e:((i:Int)+1 - 1).toNat=i:=by omega
 simp [get,h,e,hi]
structure Wf (L:Pool):Prop where
 ok:Ok L
 each:∀i (hi:i<L.length),check (L.take i) L[i].node=(L[i].size,L[i].depth,0)
theorem Wf.nil:Wf []:=⟨Ok.nil,fun i hi=>by simp at hi⟩
theorem jBR {L:Pool} {n:Node} (h:(check L n).2.2=0):zU n=0∧((jV n.kind).kids<1→n.a=0)∧((jV n.kind).kids<2→n.b=0)∧zA (jV n.kind) n=0∧(∀t∈zH n,inP L t=true) ∧
  (check L n).1=1+((zH n).map (sizeOf L)).sum∧(check L n).2.1=(zH n).foldl (fun d t=>max d (depthOf L t)) 0+1∧(check L n).1≤4096∧(check L n).2.1≤64:=by
 unfold check at h ⊢
 simp only at h ⊢
 by_cases h1:zU n≠0
 ·rw [if_pos h1] at h;exact absurd h h1
 rw [if_neg h1] at h ⊢
 split at h
 ·simp at h
 rename_i h2;rw [if_neg h2]
 by_cases h3:zA (jV n.kind) n≠0
 ·rw [if_pos h3] at h;exact absurd h h3
 rw [if_neg h3] at h ⊢
 split at h
 ·simp at h
 rename_i h4;rw [if_neg h4]
 split at h
 ·simp at h
 rename_i h5;rw [if_neg h5]
 simp only [Bool.or_eq_true,Bool.and_eq_true,decide_eq_true_eq,bne_iff_ne,ne_eq,not_or,not_and,Classical.not_not] at h2
 refine ⟨by simpa using h1,h2.1,h2.2,by simpa using h3,fun t ht=>?_,rfl,rfl,by simp only;omega,by simp only;omega⟩
 cases hi:inP L t with
 | true=>rfl
 | false=>exact absurd (List.any_eq_true.2 ⟨t,ht,by simp [hi]⟩) h4
theorem jCS (L:Pool) (n:Node):(make L n).2.2=L∨((check L n).2.2=0∧(make L n).2.2=L++[⟨n,(check L n).1,(check L n).2.1⟩]):=by
 by_cases hc:(check L n).2.2=0
 ·unfold make;simp only [hc];rw [if_neg (by simp)];split
  ·exact .inl rfl
  ·split
   ·exact .inl rfl
   ·exact .inr ⟨trivial,rfl⟩
 ·unfold make;simp only;rw [if_pos hc];exact .inl rfl
theorem jCK {L:Pool} {e:Ent} (h:∀i (hi:i<L.length),check (L.take i) L[i].node=(L[i].size,L[i].depth,0)) (he:check L e.node=(e.size,e.depth,0)):∀i (hi:i<(L++[e]).length),check ((L++[e]).take i) (L++[e])[i].node=((L++[e])[i].size,(L++[e])[i].depth,0):=by
 intro i hi;simp only [List.length_append,List.length_cons,List.length_nil] at hi;by_cases hlt:i<L.length
 ·simp only [List.getElem_append_left hlt];rw [List.take_append_of_le_length (by omega)];exact h i hlt
 ·have:i=L.length:=by omega
  subst this;simp only [List.getElem_append_right (Nat.le_refl _),Nat.sub_self,List.getElem_cons_zero];rw [List.take_left' rfl];exact he
theorem gT {L:Pool} (h:Wf L) (n:Node):Wf (make L n).2.2:=by
 have ho:=gU h.ok n;rcases jCS L n with e | ⟨hc,e⟩
 ·rw [e];exact h
 ·rw [e] at ho ⊢;exact ⟨ho,jCK h.each (by rw [← hc])⟩
theorem jGC (t:Tree):∀L,Wf L→Wf (grow L t).2.2:=by
 induction t using Tree.ind with
 | h k f t u x ks ih =>
  have:∀(ks:List Tree),(∀i (hi:i<ks.length),∀L,Wf L→Wf (grow L ks[i]).2.2)→∀n i L,Wf L→Wf (zV n i L ks).2.2:=by
   intro ks;induction ks with
   | nil=>intro _ n i L h;unfold zV;exact gT h n
   | cons t ts iht =>
    intro hh n i L h
    have h0:=hh 0 (by simp) L h
    simp only [List.getElem_cons_zero] at h0
    unfold zV
    split
    ·exact h0
    ·exact iht (fun i hi=>hh (i+1) (by simpa using hi)) _ _ _ h0
  intro L h
  unfold grow
  exact this ks ih _ _ L h
theorem of_wf {L:Pool} (h:Wf L) (t:Tree):Wf (of L t).2.2:=by
 unfold of;split
 ·exact h
 ·split
  ·exact h
  ·exact jGC t L h
theorem jGB {L M:Pool} {t:Int} (h:inP L t=true):inP (L++M) t=true:=by
 have:=qB.1 h;exact qB.2 ⟨this.1,by rw [List.length_append];omega⟩
theorem jDA {L M:Pool} {t:Int} (h:inP L t=true):get (L++M) t=get L t:=by
 obtain ⟨i,hi,rfl⟩:=jCZ h;rw [jAU hi,jAU (by rw [List.length_append];omega),List.getElem_append_left hi]
theorem jBI {L M:Pool} {t:Int} (h:inP L t=true):sizeOf (L++M) t=sizeOf L t:=by unfold sizeOf;rw [jDA h]
theorem jAF {L M:Pool} {t:Int} (h:inP L t=true):depthOf (L++M) t=depthOf L t:=by unfold depthOf;rw [jDA h]
theorem Wf.node {L:Pool} (h:Wf L) {t:Int} (ht:inP L t=true):zU (jG L t)=0∧((jV (jG L t).kind).kids<1→(jG L t).a=0)∧((jV (jG L t).kind).kids<2→(jG L t).b=0)∧zA (jV (jG L t).kind) (jG L t)=0 ∧
  (∀k∈zH (jG L t),inP L k=true∧k<t)∧sizeOf L t=1+((zH (jG L t)).map (sizeOf L)).sum∧depthOf L t=(zH (jG L t)).foldl (fun d k=>max d (depthOf L k)) 0+1:=by
 obtain ⟨i,hi,rfl⟩:=jCZ ht
 have he:=h.each i hi
 have hz:=jBR (L:=L.take i) (n:=L[i].node) (by rw [he])
 rw [jCQ hi]
 obtain ⟨h1,h2,h3,h4,h5,h6,h7,_,_⟩:=hz
 have hin:∀k∈zH L[i].node,inP (L.take i) k=true∧inP L k=true∧k<(i:Int)+1:=by
  intro k hk;have hk':=h5 k hk;have hk2:=qB.1 hk';have:L.take i++L.drop i=L:=List.take_append_drop i L;refine ⟨hk',by rw [← this];exact jGB hk',?_⟩;rw [List.length_take] at hk2;omega
 have hsz:∀k∈zH L[i].node,sizeOf (L.take i) k=sizeOf L k∧depthOf (L.take i) k=depthOf L k:=by
  intro k hk;have hk':=(hin k hk).1;have:L.take i++L.drop i=L:=List.take_append_drop i L;exact ⟨by rw [← jBI (M:=L.drop i) hk',this],by rw [← jAF (M:=L.drop i) hk',this]⟩
 refine ⟨h1,h2,h3,h4,fun k hk=>⟨(hin k hk).2.1,(hin k hk).2.2⟩,?_,?_⟩
 ·have:sizeOf L ((i:Int)+1)=L[i].size:=by simp [sizeOf,jAU hi]
  rw [this]
  rw [he] at h6
  simp only at h6
  rw [h6]
  congr 2
  exact List.map_congr_left (fun k hk=>(hsz k hk).1)
 ·have:depthOf L ((i:Int)+1)=L[i].depth:=by simp [depthOf,jAU hi]
  rw [this]
  rw [he] at h7
  simp only at h7
  rw [h7]
  congr 1
  have:∀(l:List Int) (d:Int),(∀k∈l,depthOf (L.take i) k=depthOf L k)→l.foldl (fun d t=>max d (depthOf (L.take i) t)) d=l.foldl (fun d k=>max d (depthOf L k)) d:=by
   intro l;induction l with
   | nil=>intro d _;rfl
   | cons a l ih=>intro d hh;simp only [List.foldl_cons];rw [hh a (by simp)];exact ih _ (fun k hk=>hh k (by simp [hk]))
  exact this _ _ (fun k hk=>(hsz k hk).2)
theorem Wf.first {L M:Pool} (h:Wf (L++M)):Wf L:=by
 refine ⟨⟨by have:=h.ok.few;rw [List.length_append] at this;omega,?_,fun e he=>h.ok.size e (by simp [he]),fun e he=>h.ok.depth e (by simp [he])⟩,fun i hi=>?_⟩
 ·have:=h.ok.nodup;rw [List.map_append] at this;exact (List.nodup_append.1 this).1
 ·have:=h.each i (by rw [List.length_append];omega);rw [List.getElem_append_left hi,List.take_append_of_le_length (by omega)] at this;exact this
end Go.Sp
end
section
namespace Go.Sp
def kE (k:Int):Bool:=k == 7 || k == 8 || k == 9
def jGD (k:Int):Bool:=k == 1 || k == 2 || k == 3
def jCX (n:Int):Node:=⟨6,n,0,0,⟨#[]⟩,0,0⟩
def jCG (n:Node):Int:=if n.kind=9 then n.to else n.frm
def vP (L:Pool) (r u t:Int):Prop :=
 (r=1∧(jG L u).kind=4∧(jG L u).a=t)∨(r=2∧(jG L u).kind=4∧(jG L u).b=t)∨(r=3∧kE (jG L u).kind=true∧(jG L u).a=t)
inductive Seen (L:Pool) (G:List Int):Int→Prop
 | given {t:Int}:t∈G→Seen L G t
 | aris {r u t:Int}:Seen L G u→vP L r u t→Seen L G t
inductive Drv (L:Pool) (K:Int→Prop):Int→Prop
 | seen {t:Int}:K t→Drv L K t
 | free {t:Int}:jGD (jG L t).kind=true→Drv L K t
 | pair {t:Int}:(jG L t).kind=4→Drv L K (jG L t).a→Drv L K (jG L t).b→Drv L K t
 | hash {t:Int}:(jG L t).kind=5→Drv L K (jG L t).a→Drv L K t
 | sign {t:Int} {i:Nat}:kE (jG L t).kind=true→Drv L K (jG L t).a→find L (jCX (jCG (jG L t)))=some i→K ((i:Int)+1)→Drv L K t
structure Way where
 t:Int
 rule:Int
 frm:Int
deriving DecidableEq
def jM (S:List Way):List Int:=S.map Way.t
def jAL (L:Pool) (G:List Int) (pre:List Way) (v:Way):Prop:=(v.rule=0∧v.frm=0∧v.t∈G)∨(v.rule≠0∧vP L v.rule v.frm v.t∧v.frm∈jM pre)
structure WaysOk (L:Pool) (G:List Int) (S:List Way):Prop where
 nodup:(jM S).Nodup
 inp:∀t∈jM S,inP L t=true
 way:∀i (h:i<S.length),jAL L G (S.take i) S[i]
def xB (L:Pool) (S:List Way) (u:Int):Prop:=∀r t,vP L r u t→t∈jM S
structure KnowOk (L:Pool) (G:List Int) (S:List Way):Prop extends WaysOk L G S where
 closed:∀u∈jM S,xB L S u
 giv:∀t∈G,t∈jM S
 gnd:G.Nodup
theorem kS (S:List Way):(jM S).length=S.length:=by simp [jM]
theorem jAL.mono {L:Pool} {G G':List Int} {pre:List Way} {v:Way} (h:jAL L G pre v) (hG:∀t∈G,t∈G'):jAL L G' pre v:=by
 rcases h with ⟨a,b,c⟩ | h
 ·exact .inl ⟨a,b,hG _ c⟩
 ·exact .inr h
theorem WaysOk.mono {L:Pool} {G G':List Int} {S:List Way} (h:WaysOk L G S) (hG:∀t∈G,t∈G'):WaysOk L G' S:=⟨h.nodup,h.inp,fun i hi=>(h.way i hi).mono hG⟩
theorem WaysOk.snoc {L:Pool} {G:List Int} {S:List Way} (h:WaysOk L G S) {v:Way} (hn:v.t ∉ jM S) (hi:inP L v.t=true) (hv:jAL L G S v):WaysOk L G (S++[v]):=by
 refine ⟨?_,?_,fun i hlt=>?_⟩
 ·unfold jM at hn ⊢;rw [List.map_append,List.nodup_append];exact ⟨h.nodup,by simp,fun x hx y hy e=>by simp at hy;subst hy;exact hn (e▸hx)⟩
 ·intro t ht;unfold jM at ht;rw [List.map_append,List.mem_append] at ht;rcases ht with ht | ht
  ·exact h.inp t ht
  ·simp at ht;rw [ht];exact hi
 ·rw [List.length_append] at hlt;simp only [List.length_cons,List.length_nil] at hlt;by_cases hl:i<S.length
  ·rw [List.getElem_append_left hl,List.take_append_of_le_length (by omega)];exact h.way i hl
  ·have:i=S.length:=by omega
   subst this;rw [List.getElem_append_right (Nat.le_refl _),List.take_left];simpa using hv
theorem xB.snoc {L:Pool} {S:List Way} {u:Int} {v:Way} (h:xB L S u):xB L (S++[v]) u:=fun r t ha=>by
 unfold jM;rw [List.map_append];exact List.mem_append_left _ (h r t ha)
theorem jAN {S:List Way} {t:Int} (h:t∈jM S):∃i,∃hi:i<S.length,S[i].t=t∧(jM S).idxOf t=i:=by
 have hlt:=List.idxOf_lt_length_iff.2 h;refine ⟨(jM S).idxOf t,by simpa [jM] using hlt,?_,rfl⟩;have:=List.getElem_idxOf hlt;simp only [jM,List.getElem_map] at this ⊢;exact this
theorem KnowOk.seen_iff {L:Pool} {G:List Int} {S:List Way} (h:KnowOk L G S) (t:Int):t∈jM S↔Seen L G t:=by
 constructor
 ·intro ht;obtain ⟨i,hi,e,_⟩:=jAN ht;subst e;have:∀(n i:Nat) (hi:i<S.length),i≤n→Seen L G S[i].t:=by
   intro n;induction n with
   | zero =>
    intro i hi h0
    have:i=0:=by omega
    subst this
    rcases h.way 0 hi with ⟨_,_,hg⟩ | ⟨_,_,hm⟩
    ·exact .given hg
    ·simp [jM] at hm
   | succ n ih =>
    intro i hi hn
    rcases h.way i hi with ⟨_,_,hg⟩ | ⟨_,ha,hm⟩
    ·exact .given hg
    ·obtain ⟨j,hj,e,_⟩:=jAN hm
     rw [List.length_take] at hj
     have:=ih j (by omega) (by omega)
     rw [List.getElem_take] at e
     rw [e] at this
     exact .aris this ha
  exact this i i hi (Nat.le_refl _)
 ·intro hs;induction hs with
  | given hg=>exact h.giv _ hg
  | aris _ ha ih=>exact h.closed _ ih _ _ ha
theorem Seen.mono {L:Pool} {G G':List Int} (hG:∀t∈G,t∈G') {t:Int} (h:Seen L G t):Seen L G' t:=by
 induction h with
 | given hg=>exact .given (hG _ hg)
 | aris _ ha ih=>exact .aris ih ha
theorem Drv.mono {L:Pool} {K K':Int→Prop} (hK:∀t,K t→K' t) {t:Int} (h:Drv L K t):Drv L K' t:=by
 induction h with
 | seen h=>exact .seen (hK _ h)
 | free h=>exact .free h
 | pair h _ _ iha ihb=>exact .pair h iha ihb
 | hash h _ ih=>exact .hash h ih
 | sign h _ hf hk ih=>exact .sign h ih hf (hK _ hk)
structure Step where
 rule:Int
 a:Int
 b:Int
 t:Int
deriving DecidableEq
def ahead (i:Nat) (v:Int):Bool:=decide (0≤v) && decide (v<i)
def tAt (pre:List Step) (v:Int):Int:=(pre[v.toNat]?.map Step.t).getD 0
def jGK (L:Pool) (r u t:Int):Bool :=
 if r=1 then (jG L u).kind == 4 && (jG L u).a == t else if r=2 then (jG L u).kind == 4 && (jG L u).b == t else kE (jG L u).kind && (jG L u).a == t
def fol (L:Pool) (G:List Int) (pre:List Step) (s:Step):Bool :=
 if inP L s.t=false then false
 else if s.rule=0 then s.a == 0 && s.b == 0 && decide (s.t∈G)
 else if s.rule=1∨s.rule=2∨s.rule=3 then ahead pre.length s.a && s.b == 0 && jGK L s.rule (tAt pre s.a) s.t
 else if s.rule=4 then s.a == 0 && s.b == 0 && jGD (jG L s.t).kind
 else if s.rule=5 then
  if (jG L s.t).kind=4 then ahead pre.length s.a && ahead pre.length s.b && tAt pre s.a == (jG L s.t).a && tAt pre s.b == (jG L s.t).b
  else if (jG L s.t).kind=5 then ahead pre.length s.a && s.b == 0 && tAt pre s.a == (jG L s.t).a
  else if kE (jG L s.t).kind=true then ahead pre.length s.a && ahead pre.length s.b && tAt pre s.a == (jG L s.t).a && (jG L (tAt pre s.b)).kind == 6 && (jG L (tAt pre s.b)).frm == jCG (jG L s.t)
  else false
 else false
end Go.Sp
namespace Go.Sp
theorem oX {α:Type} [DecidableEq α]:∀{l m:List α},l.Nodup→(∀x∈l,x∈m)→l.length≤m.length
 | [],m,_,_=>by simp
 | x :: l,m,hn,hs=>by
  have hx:=hs x (by simp);rw [List.nodup_cons] at hn;have:=oX (m:=m.erase x) hn.2 (fun y hy=>(List.mem_erase_of_ne (fun h=>hn.1 (by rw [← h];exact hy))).2 (hs y (List.mem_cons_of_mem _ hy)));rw [List.length_erase_of_mem hx] at this;have:=List.length_pos_of_mem hx;simp only [List.length_cons];omega
theorem lZ {L:Pool} {l:List Int} (hn:l.Nodup) (hi:∀t∈l,inP L t=true):l.length≤L.length:=by
 have:=oX (m:=(List.range L.length).map fun i:Nat=>(i:Int)+1) hn (fun t ht=>by
  obtain ⟨i,h1,h2⟩:=jCZ (hi t ht);exact List.mem_map.2 ⟨i,List.mem_range.2 h1,h2.symm⟩)
 simpa using this
theorem WaysOk.few {L:Pool} {G:List Int} {S:List Way} (h:WaysOk L G S):S.length≤L.length:=by
 have:=lZ h.nodup h.inp;rwa [kS] at this
theorem jFZ {L:Pool} (h:Wf L) {t:Int} (ht:inP L t=true) (hk:(jG L t).kind=4):(inP L (jG L t).a=true∧(jG L t).a<t)∧(inP L (jG L t).b=true∧(jG L t).b<t):=by
 have:=(h.node ht).2.2.2.2.1;simp only [zH,hk,jV] at this;exact ⟨this _ (by simp),this _ (by simp)⟩
theorem kids7 {L:Pool} (h:Wf L) {t:Int} (ht:inP L t=true) (hk:kE (jG L t).kind=true):inP L (jG L t).a=true∧(jG L t).a<t:=by
 have:=(h.node ht).2.2.2.2.1;simp only [kE,Bool.or_eq_true,beq_iff_eq] at hk;rcases hk with (hk | hk) | hk <;> simp only [zH,hk,jV] at this <;> exact this _ (by simp)
theorem vP.inp {L:Pool} (h:Wf L) {r u t:Int} (hu:inP L u=true) (ha:vP L r u t):inP L t=true∧t<u:=by
 rcases ha with ⟨_,hk,rfl⟩ | ⟨_,hk,rfl⟩ | ⟨_,hk,rfl⟩
 ·exact (jFZ h hu hk).1
 ·exact (jFZ h hu hk).2
 ·exact kids7 h hu hk
def qH (S:List Way) (v:Way):List Way:=if v.t∈jM S then S else S++[v]
theorem vE (S:List Way) (v:Way):jM (S++[v])=jM S++[v.t]:=by simp [jM]
theorem vJ (S:List Way) (v:Way):v.t∈jM (qH S v)∧∀t∈jM S,t∈jM (qH S v):=by
 unfold qH;split
 ·rename_i h;exact ⟨h,fun _ h=>h⟩
 ·rw [vE];exact ⟨by simp,fun t ht=>List.mem_append_left _ ht⟩
theorem yN (S:List Way) (v:Way):∃M,qH S v=S++M:=by
 unfold qH;split
 ·exact ⟨[],by simp⟩
 ·exact ⟨[v],rfl⟩
theorem WaysOk.add {L:Pool} {G:List Int} {S:List Way} (h:WaysOk L G S) {v:Way} (hi:inP L v.t=true) (hv:jAL L G S v):WaysOk L G (qH S v):=by
 unfold qH;split
 ·exact h
 ·rename_i hn;exact h.snoc hn hi hv
end Go.Sp
end
section
open Go Go.SE
namespace Go.Proofs
open Tryz
attribute [local irreducible] Calls
def wayv (p:Int×Int):Value:=.agg #[.int .i64 p.1,.int .i64 p.2]
def jFR (S:List Sp.Way):List (Int×(Int×Int)):=S.map fun v=>(v.t,(v.rule,v.frm))
theorem uZ (S:List Sp.Way):(jFR S).map Prod.fst=Sp.jM S:=by simp [jFR,Sp.jM]
theorem jCF (S:List Sp.Way) (v:Sp.Way):jFR (S++[v])=jFR S++[(v.t,(v.rule,v.frm))]:=by simp [jFR]
structure KnowS (w:World) (k p:Addr) (G:List Int) (S:List Sp.Way) (ks:List Int) (sg:Sl) (m:Nat) (sl:Sl):Prop where
 box:Box w k [.pointer (some p),sg.v,.map (some m),sl.v] 212
 giv:Rws w 78 1 sg (tmr G)
 seen:IMap wayv w m (jFR S)
 list:Rws w 78 1 sl (tmr ks)
 n1:m≠k.block
 n2:¬ sg.blk k.block
 n3:¬ sl.blk k.block
 n4:¬ sg.blk m
 n5:¬ sl.blk m
 n6:∀b,sg.blk b→¬ sl.blk b
def KF (k:Addr) (sg:Sl) (m:Nat) (sl:Sl) (b:Nat):Prop:=b=k.block∨sg.blk b∨b=m∨sl.blk b
def zS (w:World) (k p:Addr) (G:List Int) (S:List Sp.Way) (F:NP):Prop:=∃sg m sl,KnowS w k p G S (Sp.jM S) sg m sl∧∀b,F b↔KF k sg m sl b
section
variable {w w':World} {k p:Addr} {G:List Int} {S:List Sp.Way} {ks:List Int} {sg sl:Sl} {m:Nat} {F:NP}
theorem KnowS.ext {X:NP} (h:KnowS w k p G S ks sg m sl) (hE:Ext X w w') (hd:∀b,KF k sg m sl b→¬ X b):KnowS w' k p G S ks sg m sl :=
 ⟨h.box.ext hE (hd _ (.inl rfl)),h.giv.ext hE (fun b hb=>hd _ (.inr (.inl hb))),h.seen.ext hE (hd _ (.inr (.inr (.inl rfl)))),h.list.ext hE (fun b hb=>hd _ (.inr (.inr (.inr hb)))),h.n1,h.n2,h.n3,h.n4,h.n5,h.n6⟩
theorem KnowS.pure (h:KnowS w k p G S ks sg m sl) (hE:Pure w w'):KnowS w' k p G S ks sg m sl:=h.ext hE (fun _ _ h=>h)
theorem KnowS.lt (h:KnowS w k p G S ks sg m sl) {b:Nat} (hb:KF k sg m sl b):b<w.heap.size:=by
 rcases hb with rfl | hb | rfl | hb
 ·exact h.box.lt
 ·exact h.giv.lt hb
 ·exact h.seen.lt
 ·exact h.list.lt hb
theorem zS.ext {X:NP} (h:zS w k p G S F) (hE:Ext X w w') (hd:∀b,F b→¬ X b):zS w' k p G S F:=by
 obtain ⟨sg,m,sl,h,hF⟩:=h;exact ⟨sg,m,sl,h.ext hE (fun b hb=>hd b ((hF b).2 hb)),hF⟩
theorem zS.pure (h:zS w k p G S F) (hE:Pure w w'):zS w' k p G S F:=h.ext hE (fun _ _ h=>h)
theorem zS.lt (h:zS w k p G S F) {b:Nat} (hb:F b):b<w.heap.size:=by
 obtain ⟨sg,m,sl,h,hF⟩:=h;exact h.lt ((hF b).1 hb)
theorem KnowS.look (h:KnowS w k p G S ks sg m sl) (t:Int):∃r f:Int,(Instr.lookup 210 (.map (some m)) (.int .i64 t) true).run prog w=.ok (.tuple #[.agg #[.int .i64 r,.int .i64 f],.bool (decide (t∈Sp.jM S))]) w∧(t∈Sp.jM S→SE.look (jFR S) t=some (r,f)):=by
 rcases h.seen.get (P:=prog) (T:=210) underlying210 underlying78 (zeroValue235 _) t true with ⟨h1,h2⟩ | ⟨⟨r,f⟩,h1,h2⟩
 ·have hn:t ∉ Sp.jM S:=by have:=yS.1 h1;rwa [uZ] at this
  exact ⟨0,0,by rw [decide_eq_false hn];exact h2,fun h=>absurd h hn⟩
 ·have hy : t ∈ Sp.jM S := by
   have:=oF h1;rw [← uZ];exact List.mem_map.2 ⟨_,this,rfl⟩
  exact ⟨r,f,by rw [decide_eq_true hy];exact h2,fun _=>h1⟩
theorem KnowS.put (h:KnowS w k p G S ks sg m sl) {v:Sp.Way} (hn:v.t ∉ Sp.jM S):∃w',(Instr.mapUpdate 210 (.map (some m)) (.int .i64 v.t) (.agg #[.int .i64 v.rule,.int .i64 v.frm])).run prog w=.ok () w'∧KnowS w' k p G (S++[v]) ks sg m sl∧Ext (·=m) w w':=by
 obtain ⟨w',h1,h2,h3⟩:=h.seen.put (P:=prog) (T:=210) (K:=78) underlying210 underlying78 (k:=v.t) (yS.2 (by rw [uZ];exact hn)) (v.rule,v.frm);exact ⟨w',h1,⟨h.box.ext h3 (fun e=>h.n1 e.symm),h.giv.ext h3 (fun b hb e=>h.n4 (e▸hb)),by rw [jCF];exact h2,h.list.ext h3 (fun b hb e=>h.n5 (e▸hb)),h.n1,h.n2,h.n3,h.n4,h.n5,h.n6⟩,h3⟩
theorem KnowS.app (h:KnowS w k p G S ks sg m sl) {t:Int} {q:Addr} {w1:World} (hq:New w (.cells #[.int .i64 t] 78) q w1) (hn:ks.length≤1000000):∃s1 w2,(Builtin.append_ #[46,46] 46 #[sl.v,(Sl.mk (some q) 1 1).v]).run prog w1=.ok s1.v w2∧Ext sl.blk w1 w2∧Box w2 k [.pointer (some p),sg.v,.map (some m),sl.v] 212 ∧
  KnowS (w2.setCell (k.add 3) s1.v) k p G S (ks++[t]) sg m s1∧Ext (KF k sg m sl) w (w2.setCell (k.add 3) s1.v)∧∀b,KF k sg m s1 b→KF k sg m sl b∨w.heap.size≤b:=by
 have E1:Pure w w1:=Ext.new hq
 have h1:=h.pure E1
 obtain ⟨s1,w2,hr,hR,hE,hb⟩:=h1.list.append (P:=prog) (ty:=46) (c:=1) jCL (r:=[.int .i64 t]) (Box.of_new hq).row rfl rfl (by rw [kV];omega) (by rw [kV];simp [maxLen];omega)
 have hbx:=h1.box.ext hE h1.n3
 have hs1:∀b,s1.blk b→sl.blk b∨w.heap.size≤b:=fun b h=>(hb b h).imp_right (fun h=>by have:=E1.size;omega)
 have nk:¬ s1.blk k.block:=fun hh=>(hs1 _ hh).elim h.n3 (fun hh=>by have:=h.box.lt;omega)
 have nm:¬ s1.blk m:=fun hh=>(hs1 _ hh).elim h.n5 (fun hh=>by have:=h.seen.lt;omega)
 have E3:=Ext.setCell (w:=w2) (k.add 3) s1.v
 rw [jR] at E3
 refine ⟨s1,w2,hr,hE,hbx,⟨hbx.set 3 s1.v,((h1.giv.ext hE h.n6).ext E3 (fun b hb e=>h.n2 (e▸hb))),((h1.seen.ext hE h.n5).ext E3 h.n1),by rw [show tmr (ks++[t])=tmr ks++[[.int .i64 t]] by simp [tmr]];exact hR.ext E3 (fun b hb e=>nk (e▸hb)),h.n1,h.n2,nk,h.n4,nm,fun b h1 h2=>(hs1 b h2).elim (h.n6 b h1) (fun hh=>by have:=h.giv.lt h1;omega)⟩,?_,?_⟩
 ·exact ((E1.pure (F:=KF k sg m sl)).trans (hE.mono (fun b _ hb=>.inr (.inr (.inr hb))))).trans (E3.mono (fun b _ hb=>.inl hb))
 ·rintro b (hb | hb | hb | hb)
  ·exact .inl (.inl hb)
  ·exact .inl (.inr (.inl hb))
  ·exact .inl (.inr (.inr (.inl hb)))
  ·exact (hs1 b hb).imp_left (fun h=>.inr (.inr (.inr h)))
end
theorem jDO (p:Addr) (w0:World):Calls prog 62 #[.pointer (some p)] w0 (fun e w'=>∃r:Option Addr,e=.returned (.pointer r)∧∃k F,r=some k∧zS w' k p [] [] F∧Pure w0 w'∧∀b,F b→w0.heap.size≤b):=by
 refine w_M2 _ w0 (fun r w'=>∃k F,r=some k∧zS w' k p [] [] F∧Pure w0 w'∧∀b,F b→w0.heap.size≤b) ?_;unfold m_M2;refine Br.f rfl ?_;intro p2 w1 h1 p3 w2 h2;have E1:Pure w0 w1:=Ext.new h1;have E2:Pure w1 w2:=Ext.new h2;have hnil:∀b,¬ Sl.nil.blk b:=fun b hb=>by obtain ⟨a,h,_⟩:=hb;cases h
 refine ⟨p3,_,rfl,⟨Sl.nil,p2.block,Sl.nil,⟨Box.of_new h2,Rws.nil _ _ _,(IMap.of_new (f:=wayv) h1).pure E2,Rws.nil _ _ _,?_,hnil _,hnil _,hnil _,hnil _,fun b hb=>(hnil b hb).elim⟩,fun b=>Iff.rfl⟩,E1.trans E2,?_⟩
 ·have:=h1.at_size;have:=h2.at_size;have:=E1.size;have:=(IMap.of_new (f:=wayv) h1).lt;omega
 ·rintro b (rfl | hb | rfl | hb)
  ·have:=h2.at_size;have:=E1.size;omega
  ·exact (hnil b hb).elim
  ·have:=h1.at_size;omega
  ·exact (hnil b hb).elim
theorem jAM.at' {P:Program} {gf:FuncId} {lb:Array Value} {α:Type} {encs:α→Array Value} {xs:List α} {Rd:WP} {w w1:World} (h:jAM P gf lb encs xs Rd w) (E:Pure w w1):jAM P gf lb encs xs Rd w1 :=
 fun l J Jx W hW=>h l J Jx W (E.trans hW)
theorem jCY {S:NP} {pc:Addr} {s:Sl} {xs:List Int} {w0:World} (hB:Box w0 pc [s.v] 46) (hn:xs.length≤1000000) :
  jAM prog 208 #[.pointer (some pc)] (fun z:Int=>#[.int .i64 z]) xs (fun A=>Lst S A 1 s (tmr xs)) w0:=by
 intro l J Jx W E hRd hJ hJx hyield h0
 refine (w_A1 (.func (.yield l) #[] #[]) pc W (fun A=>∃X,Hst W X A X A∧(J xs X A∨∃pre,Jx pre X A)) ?_).mono (fun e A h=>⟨⟨_,h.1⟩,h.2⟩)
 unfold m_A1
 refine ⟨s,(hB.pure E).cell0,fun x A=>∃j:Nat,x=j∧j≤xs.length∧Hst W None A None A∧J (xs.take j) None A,fun x _=>((xs.length:Int) - x).toNat,⟨0,rfl,Nat.zero_le _,Hst.start W,h0⟩,?_⟩
 rintro _ A ⟨j,rfl,hj,hA,hJA⟩
 unfold m_A1_l1
 have hR:=hRd _ _ _ hJA
 have hlen:s.len=xs.length:=by rw [hR.len,kV]
 refine ⟨fun hc=>?_,fun hc=>?_⟩
 ·have hc:=zZ hlen hc
  obtain ⟨a,hat,_,hv⟩:=xL hR hc
  refine ⟨a,hat,_,hv,l,rfl,?_⟩
  refine (hyield (xs.take j) xs[j] _ A hJA hA ⟨xs.drop (j+1),by rw [← List.drop_eq_getElem_cons hc,List.take_append_drop]⟩).mono ?_
  rintro e A' (⟨rfl,hk,hJ'⟩ | ⟨rfl,hk,hJ'⟩)
  ·refine ⟨_,rfl,Br.f rfl ⟨⟨j+1,zB hc (by omega),hc,hA.again hk,by rw [List.take_succ_eq_append_getElem hc];exact hJ'⟩,?_⟩⟩
   rw [zB hc (by omega)]
   exact vH hc
  ·exact ⟨_,rfl,Br.t rfl ⟨_,hA.again hk,.inr ⟨_,hJ'⟩⟩⟩
 ·have hc:=kA hlen hj hc
  subst hc
  rw [List.take_length] at hJA
  exact ⟨_,hA,.inl hJA⟩
theorem jAK {S:NP} {pc:Addr} {s:Sl} {xs:List Int} (w0:World) (hB:Box w0 pc [s.v] 46) (hL:Lst S w0 1 s (tmr xs)) (hS:∀b,S b→b<w0.heap.size) (hn:xs.length≤1000000) :
  Calls prog 283 #[Sl.nil.v,.func (.func 208) #[] #[.pointer (some pc)]] w0 (fun e w'=>∃r:Sl,e=.returned r.v∧RetO w0 78 1 (tmr xs) r w'):=by
 refine w_L2 _ _ w0 (fun r w'=>RetO w0 78 1 (tmr xs) r w') ?_
 unfold m_L2
 have hnil:∀b,¬ Sl.nil.blk b:=fun b hb=>by obtain ⟨a,h,_⟩:=hb;cases h
 intro p1 w1 h1
 have E1:Pure w0 w1:=Ext.new h1
 have s1:=h1.at_size
 have B1:=Box.of_new h1
 have l1:=B1.lt
 refine ⟨_,_,rfl,call208,xs,_,jAM.at' (jCY (S:=S) hB hn) E1,?_⟩
 refine ⟨fun pre Y A=>∃so:Sl,Box A p1 [so.v] 46∧Rws A 78 1 so (tmr pre)∧Lst S A 1 s (tmr xs)∧Pure w0 A∧(∀b,so.blk b→w1.heap.size≤b∧¬ Y b)∧¬ Y p1.block∧w1.heap.size≤A.heap.size,⟨?_,?_,fun _ _ _ _ _ h=>h.elim,fun _ _ _ _ _ h=>h.elim⟩,?_,?_,?_⟩
 ·rintro pre Y A ⟨so,_,_,h,_⟩;exact h
 ·rintro pre Y A Y' A' ⟨so,b1,hR,hl,hE,ho,hp,hz⟩ hs
  have d1:¬ Y' p1.block:=hs.disj (G:=(·=p1.block)) (fun b e=>by subst e;exact ⟨b1.lt,hp⟩) _ rfl
  have d2:∀b,so.blk b→¬ Y' b:=hs.disj (G:=so.blk) (fun b hb=>⟨hR.lt hb,(ho b hb).2⟩)
  exact ⟨so,b1.ext hs.ext d1,hR.ext hs.ext d2,hl.hst hs hS,hE.hst hs,fun b hb=>⟨(ho b hb).1,d2 b hb⟩,d1,Nat.le_trans hz hs.ext.size⟩
 ·exact ⟨Sl.nil,B1,Rws.nil _ _ _,hL.pure E1,E1,fun b hb=>(hnil b hb).elim,id,Nat.le_refl _⟩
 ·rintro pre z Y A ⟨so,b1,hR,hl,hE,ho,hp,hz⟩ hsA ⟨post,hpost⟩
  have hpl:pre.length<xs.length:=by rw [hpost];simp
  refine ⟨so,b1.cell0,?_⟩
  intro p2 w2 h2
  have E2:Pure A w2:=Ext.new h2
  obtain ⟨s2,w3,hr3,R3,X3,f3⟩:=(hR.pure E2).append (P:=prog) (ty:=46) (c:=1) jCL (r:=[.int .i64 z]) (Box.of_new h2).row rfl rfl (by rw [kV];omega) (by rw [kV];simp [maxLen];omega)
  have d1:¬ so.blk p1.block:=fun hb=>by have:=(ho _ hb).1;omega
  have b3:=(b1.pure E2).ext X3 d1
  have z2:=E2.size;have z3:=X3.size
  have hk3:Kept None w2 w3:=X3.kept (fun b hb=>hb.elim)
  refine ⟨s2,w3,hr3,hk3,b3.canW0 (by simp),id,fun w4 h4=>?_⟩
  have E4:Ext (·=p1.block) w3 w4:=by rw [h4];exact Ext.setCell p1 _
  have b4:Box w4 p1 [s2.v] 46:=by rw [h4];exact b3.set0
  have o2:∀b,s2.blk b→w1.heap.size≤b:=fun b hb=>(f3 b hb).elim (fun h=>(ho b h).1) (fun h=>by omega)
  have hYlt:=hsA.lt
  have XX:Ext (fun b=>so.blk b∨b=p1.block) A w4:=((E2.pure).trans (X3.mono (fun b _ h=>.inl h))).trans (E4.mono (fun b _ h=>.inr h))
  refine ⟨XX.kept (fun b hY hb=>hb.elim (fun h=>(ho b h).2 hY) (fun h=>hp (h▸hY))),s2,b4,?_,?_,?_,fun b hb=>⟨o2 b hb,fun hY=>(f3 b hb).elim (fun h=>(ho b h).2 hY) (fun h=>by have:=hYlt b hY;omega)⟩,hp,by have:=E4.size;omega⟩
  ·rw [show tmr (pre++[z])=tmr pre++[[.int .i64 z]] by simp [tmr]]
   exact R3.ext E4 (fun b hb e=>by have:=o2 b hb;omega)
  ·exact hl.ext XX (fun b hb h=>by have:=hS b hb;rcases h with h | h;(· have:=(ho b h).1;have:=E1.size;omega);(· omega))
  ·exact hE.trans' XX (fun i hi hb=>by rcases hb with h | h;(· have:=(ho i h).1;have:=E1.size;omega);(· omega))
 ·rintro H1 w5 hs5 _ _ ⟨so,b1,hR,hl,hE,ho,hp,hz⟩
  refine ⟨so,b1.cell0,fun w6 hs6=>⟨hR.ext hs6.ext (hs6.disj (G:=so.blk) (fun b hb=>⟨hR.lt hb,(ho b hb).2⟩)),fun b hb=>by have:=(ho b hb).1;have:=E1.size;omega,hE.hst hs6⟩⟩
theorem jDQ {S:NP} {pc:Addr} {s:Sl} {xs:List Int} (w0:World) (hB:Box w0 pc [s.v] 46) (hL:Lst S w0 1 s (tmr xs)) (hS:∀b,S b→b<w0.heap.size) (hn:xs.length≤1000000) :
  Calls prog 152 #[.func (.func 208) #[] #[.pointer (some pc)]] w0 (fun e w'=>∃r:Sl,e=.returned r.v∧∃l,RetO w0 78 1 (tmr l) r w'∧l.Perm xs∧l.Pairwise (·≤·)):=by
 refine w_J2 _ w0 (fun r w'=>∃l,RetO w0 78 1 (tmr l) r w'∧l.Perm xs∧l.Pairwise (·≤·)) ?_
 unfold m_J2
 refine (w_I2 _ w0 (fun r w'=>RetO w0 78 1 (tmr xs) r w') ?_).mono ?_
 ·unfold m_I2
  refine (jAK w0 hB hL hS hn).mono ?_
  rintro _ w1 ⟨r,rfl,hr⟩
  exact ⟨r,rfl,hr⟩
 ·rintro _ w1 ⟨r,rfl,hr⟩
  refine ⟨r,rfl,?_⟩
  refine (c_Sort r xs w1 hr.rows hn).mono ?_
  rintro _ w2 ⟨rfl,l,hl,hx,hp,hs⟩
  exact ⟨rfl,l,⟨hl,hr.own,hr.pure.trans' hx (fun i hi hb=>by have:=hr.own i hb;omega)⟩,hp,hs⟩
theorem jBV (k p:Addr) (w0:World) {G:List Int} {W:List Sp.Way} {F:NP} (h:zS w0 k p G W F) (hn:(Sp.jM W).length≤1000000) :
  Calls prog 80 #[.pointer (some k)] w0 (fun e w'=>∃r:Sl,e=.returned r.v∧∃l,RetO w0 78 1 (tmr l) r w'∧l.Perm (Sp.jM W)∧l.Pairwise (·≤·)):=by
 refine w_N2 _ w0 (fun r w'=>∃l,RetO w0 78 1 (tmr l) r w'∧l.Perm (Sp.jM W)∧l.Pairwise (·≤·)) ?_
 unfold m_N2
 obtain ⟨sg,m,sl,h,hF⟩:=h
 refine Br.f rfl ⟨k,rfl,sl,h.box.cell rfl,?_⟩
 refine (w_K2 sl w0 (fun r w'=>∃p1,r=.func (.func 208) #[] #[.pointer (some p1)]∧Box w' p1 [sl.v] 46∧Pure w0 w') ?_).mono ?_
 ·unfold m_K2
  intro p1 w1 h1
  exact ⟨p1,rfl,Box.of_new h1,Ext.new h1⟩
 ·rintro _ w1 ⟨r,rfl,p1,rfl,B1,E1⟩
  refine ⟨_,rfl,?_⟩
  refine (jDQ (S:=sl.blk) w1 B1 (h.list.pure E1).lst (fun b hb=>(h.list.pure E1).lt hb) hn).mono ?_
  rintro _ w2 ⟨r2,rfl,l,hl,hp,hs⟩
  exact ⟨r2,rfl,l,⟨hl.rows,fun b hb=>by have:=hl.own b hb;have:=E1.size;omega,E1.trans hl.pure⟩,hp,hs⟩
section
variable {w w':World} {k p:Addr} {G:List Int} {S:List Sp.Way} {F:NP}
theorem zS.hst {w0:World} {H H':NP} (h:zS w k p G S F) (hs:Hst w0 H w H' w') (hd:∀b,F b→¬ H b):zS w' k p G S F∧∀b,F b→¬ H' b:=by
 have hd':=hs.disj (G:=F) (fun b hb=>⟨h.lt hb,hd b hb⟩);exact ⟨h.ext hs.ext hd',hd'⟩
end
theorem yM (k p:Addr) (t rule u:Int) (c1 c2:Addr) (w0:World) {G:List Int} {S:List Sp.Way} {F:NP} (h:zS w0 k p G S F) (h1:w0.cell? c1=some (.pointer (some k))) (h2:w0.cell? c2=some (.int .i64 u)) (d1:¬ F c1.block) (d2:¬ F c2.block) (hn:S.length≤1000000) :
  Calls prog 205 #[.int .i64 t,.int .i64 rule,.pointer (some c1),.pointer (some c2)] w0 (fun e w'=>e=.returned (.tuple #[])∧∃F',zS w' k p G (Sp.qH S ⟨t,rule,u⟩) F'∧Ext F w0 w'∧∀b,F' b→F b∨w0.heap.size≤b):=by
 refine w_O2 _ _ _ _ w0 (fun w'=>∃F',zS w' k p G (Sp.qH S ⟨t,rule,u⟩) F'∧Ext F w0 w'∧∀b,F' b→F b∨w0.heap.size≤b) ?_
 unfold m_O2
 have hA:=h
 obtain ⟨sg,m,sl,h,hF⟩:=h
 obtain ⟨r,f,hl,_⟩:=h.look t
 refine ⟨_,h1,k,rfl,_,h.box.cell rfl,r,f,_,hl,fun hc=>?_,fun hc=>?_⟩
 ·have hnt:t ∉ Sp.jM S:=by simpa using hc
  have hadd:Sp.qH S ⟨t,rule,u⟩=S++[⟨t,rule,u⟩]:=if_neg hnt
  rw [hadd]
  intro H1 w2 hs2
  have E2:=hs2.first
  have hh:∀{b},b<w0.heap.size→¬ H1 b:=fun hb hx=>by have:=hs2.old _ hx;omega
  have E3:Pure w0 w2.drew:=E2.trans (Ext.drew w2)
  have D4:∀w4:World,Pure w4 w4.drew:=fun w4=>Ext.drew w4
  have c1lt:=World.block_lt_of_cell? w0 c1 h1
  refine ⟨fun w'=>KnowS w' k p G S (Sp.jM S) sg m sl∧w'.cell? c1=some (.pointer (some k))∧w'.cell? c2=some (.int .i64 u),⟨h.pure E3,E3.cell h1 (fun h=>h),E3.cell h2 (fun h=>h)⟩,?_⟩
  rintro _ rfl
  have h3:=h.pure E3
  refine ⟨_,fun w' h=>h.2.1,k,rfl,_,fun w' h=>h.1.box.cell rfl,_,fun w' h=>h.2.2,?_⟩
  obtain ⟨w4,hr4,h4,E4⟩:=h3.put (v:=⟨t,rule,u⟩) hnt
  refine ⟨w4,hr4,E4.kept (fun b hb e=>by subst e;exact hh (h.lt (.inr (.inr (.inl rfl)))) hb),?_⟩
  have c14:w4.cell? c1=some (.pointer (some k)):=E4.cell (E3.cell h1 (fun h=>h)) (fun e=>d1 ((hF _).2 (.inr (.inr (.inl e)))))
  have h5:=h4.pure (Ext.drew w4)
  refine ⟨fun w'=>w'.cell? c1=some (.pointer (some k))∧Box w' k [.pointer (some p),sg.v,.map (some m),sl.v] 212,⟨(D4 w4).cell c14 (fun h=>h),h5.box⟩,?_⟩
  rintro _ rfl
  refine ⟨_,fun w' h=>h.1,_,fun w' h=>h.1,k,rfl,sl,fun w' h=>h.2.cell rfl,?_⟩
  intro q w6 h6
  have E6:Pure w4.drew w6:=Ext.new h6
  refine ⟨⟨E6.cell ((D4 w4).cell c14 (fun h=>h)) (fun h=>h),h5.box.pure E6⟩,?_⟩
  obtain ⟨s1,w7,hr7,X7,b7,k7,E7,f7⟩:=h5.app h6 (by rw [Sp.kS];exact hn)
  have c17:w7.cell? c1=some (.pointer (some k)):=X7.cell (E6.cell ((D4 w4).cell c14 (fun h=>h)) (fun h=>h)) (fun hb=>d1 ((hF _).2 (.inr (.inr (.inr hb)))))
  refine ⟨s1,w7,hr7,⟨c17,b7⟩,X7.kept (fun b hb hx=>hh (h.lt (.inr (.inr (.inr hx)))) hb),k,rfl,b7.canW (by simp),by rw [jR];exact hh h.box.lt,?_⟩
  rintro _ rfl
  rw [← show Sp.jM (S++[⟨t,rule,u⟩])=Sp.jM S++[t] from Sp.vE S ⟨t,rule,u⟩] at k7
  have e4:w0.heap.size≤w4.drew.heap.size:=Nat.le_trans E3.size (Nat.le_trans E4.size (D4 w4).size)
  refine ⟨_,⟨sg,m,s1,k7,fun b=>Iff.rfl⟩,?_,fun b hb=>(f7 b hb).imp (hF b).2 (fun h=>by omega)⟩
  refine ((E3.pure (F:=F)).trans (E4.mono (fun b _ e=>(hF b).2 (.inr (.inr (.inl e)))))).trans (((Ext.drew w4:Pure w4 w4.drew).pure (F:=F)).trans (E7.mono (fun b _ hb=>(hF b).2 hb)))
 ·have hnt:t∈Sp.jM S:=by simpa using hc
  have hadd:Sp.qH S ⟨t,rule,u⟩=S:=if_pos hnt
  rw [hadd]
  intro H1 w2 hs2
  exact ⟨F,hA.pure hs2.first,hs2.first.pure,fun b hb=>.inl hb⟩
structure SeesAt (w0:World) (H:NP) (w:World) (k p p1:Addr) (L:Sp.Pool) (G:List Int) (S:List Sp.Way) (F F0 FP:NP):Prop where
 know:zS w k p G S F
 pool:jO w p L FP
 cap:w.cell? p1=some (.pointer (some k))
 ext:Ext F0 w0 w
 own:∀b,F b→F0 b∨w0.heap.size≤b
 h1:∀b,F b→¬ H b
 h2:∀b,FP b→¬ H b
 h3:¬ H p1.block
 d1:¬ F p1.block
 d2:∀b,F b→¬ FP b
section
variable {w0 w w':World} {H H':NP} {k p p1:Addr} {L:Sp.Pool} {G:List Int} {S S':List Sp.Way} {F F' F0 FP:NP}
theorem SeesAt.pure (h:SeesAt w0 H w k p p1 L G S F F0 FP) (E:Pure w w'):SeesAt w0 H w' k p p1 L G S F F0 FP :=
 ⟨h.know.pure E,h.pool.pure E,E.cell h.cap (fun h=>h),h.ext.thenPure E,h.own,h.h1,h.h2,h.h3,h.d1,h.d2⟩
theorem SeesAt.hst (h:SeesAt w0 H w k p p1 L G S F F0 FP) (hs:Hst w0 H w H' w'):SeesAt w0 H' w' k p p1 L G S F F0 FP:=by
 have x1:=hs.disj (G:=F) (fun b hb=>⟨h.know.lt hb,h.h1 b hb⟩);have x2:=hs.disj (G:=FP) (fun b hb=>⟨h.pool.lt hb,h.h2 b hb⟩);have x3:=hs.disj (G:=(·=p1.block)) (fun b hb=>by subst hb;exact ⟨World.block_lt_of_cell? w p1 h.cap,h.h3⟩) _ rfl;exact ⟨h.know.ext hs.ext x1,h.pool.ext hs.ext x2,hs.ext.cell h.cap x3,h.ext.trans' hs.ext (fun i hi hb=>by have:=hs.old i hb;omega),h.own,x1,x2,x3,h.d1,h.d2⟩
theorem SeesAt.fresh (h:SeesAt w0 H w k p p1 L G S F F0 FP) {q:Nat} (E:Ext (·=q) w w') (q1:¬ F q) (q2:¬ FP q) (q3:q≠p1.block) (q4:w0.heap.size≤q):SeesAt w0 H w' k p p1 L G S F F0 FP :=
 ⟨h.know.ext E (fun b hb e=>q1 (e▸hb)),h.pool.ext E (fun b hb e=>q2 (e▸hb)),E.cell h.cap (fun e=>q3 e.symm),h.ext.trans' E (fun i hi e=>by subst e;omega),h.own,h.h1,h.h2,h.h3,h.d1,h.d2⟩
theorem SeesAt.step (h:SeesAt w0 H w k p p1 L G S F F0 FP) (hH:∀b,H b→b<w.heap.size) (hK:zS w' k p G S' F') (E:Ext F w w') (hF:∀b,F' b→F b∨w.heap.size≤b):SeesAt w0 H w' k p p1 L G S' F' F0 FP:=by
 have hb:=h.ext.size;refine ⟨hK,h.pool.ext E (fun b hb hf=>h.d2 b hf hb),E.cell h.cap h.d1,h.ext.trans' E (fun i hi hf=>(h.own i hf).elim id (fun hh=>by omega)),fun b hb=>?_,fun b hb hh=>?_,h.h2,h.h3,fun hh=>?_,fun b hb hh=>?_⟩
 ·rcases hF b hb with h1 | h1
  ·exact h.own b h1
  ·right;omega
 ·rcases hF b hb with h1 | h1
  ·exact h.h1 b h1 hh
  ·have:=hH b hh;omega
 ·rcases hF _ hh with h1 | h1
  ·exact h.d1 h1
  ·have:=World.block_lt_of_cell? w p1 h.cap;omega
 ·rcases hF b hb with h1 | h1
  ·exact h.d2 b h1 hh
  ·have:=h.pool.lt hh;omega
end
theorem jBU (k p:Addr) (t rule frm:Int) (w0:World) {L:Sp.Pool} {G:List Int} {S:List Sp.Way} {F FP:NP} (h:zS w0 k p G S F) (hP:jO w0 p L FP) (hW:Sp.Wf L) (hd:∀b,F b→¬ FP b)
  (hwo:Sp.WaysOk L G S) (hcl:∀u∈Sp.jM S,Sp.xB L S u) (ht:Sp.inP L t=true) (hv:Sp.jAL L G S ⟨t,rule,frm⟩) :
  Calls prog 151 #[.pointer (some k),.int .i64 t,.agg #[.int .i64 rule,.int .i64 frm]] w0 (fun e w'=>e=.returned (.tuple #[])∧∃S' F',zS w' k p G S' F'∧(Sp.WaysOk L G S'∧(∀u∈Sp.jM S',Sp.xB L S' u)∧t∈Sp.jM S'∧∀u∈Sp.jM S,u∈Sp.jM S')∧Ext F w0 w'∧∀b,F' b→F b∨w0.heap.size≤b):=by
 suffices key:∀K:WP,(∀S' F' w',zS w' k p G S' F'→(Sp.WaysOk L G S'∧(∀u∈Sp.jM S',Sp.xB L S' u)∧t∈Sp.jM S'∧∀u∈Sp.jM S,u∈Sp.jM S')→Ext F w0 w'→(∀b,F' b→F b∨w0.heap.size≤b)→K w')→m_J (some k) t rule frm w0 K from
  w_J _ _ _ _ w0 _ (key _ (fun S' F' w' a b c d=>⟨S',F',a,b,c,d⟩))
 intro K hK
 unfold m_J
 intro p1 w1 h1 H1 w2 hs2
 have hp1:=h1.at_size
 have E1:Pure w0 w1:=Ext.new h1
 have nF:∀{b},F b→b<w0.heap.size:=fun hb=>h.lt hb
 have nP:∀{b},FP b→b<w0.heap.size:=fun hb=>hP.lt hb
 have A1:SeesAt w0 None w1 k p p1 L G S F F FP:=⟨h.pure E1,hP.pure E1,(Box.of_new h1).cell0,E1.pure,fun b hb=>.inl hb,fun b _ h=>h,fun b _ h=>h,fun h=>h,fun hb=>by have:=nF hb;omega,hd⟩
 have A2:=A1.hst hs2
 obtain ⟨sg,m,sl,k2,hF2⟩:=A2.know
 obtain ⟨r,f,hl,_⟩:=k2.look t
 refine ⟨_,A2.cap,k,rfl,_,k2.box.cell rfl,r,f,_,hl,fun hc=>?_,fun hc=>?_⟩
 ·intro H2 w4 hs4
  have A4:=A2.hst hs4
  exact hK S F w4 A4.know ⟨hwo,hcl,by simpa using hc,fun _ h=>h⟩ A4.ext (fun b hb=>.inl hb)
 have hnt:t ∉ Sp.jM S:=by simpa using hc
 intro H2 w4 hs4
 have A4:=A2.hst hs4
 have k4:KnowS w4 k p G S (Sp.jM S) sg m sl:=k2.ext hs4.ext (fun b hb=>A4.h1 b ((hF2 b).2 hb))
 have D:∀w:World,Pure w w.drew:=fun w=>Ext.drew w
 refine ⟨fun w'=>w'.cell? p1=some (.pointer (some k))∧Box w' k [.pointer (some p),sg.v,.map (some m),sl.v] 212,⟨(A4.pure (D w4)).cap,(k4.pure (D w4)).box⟩,?_⟩
 rintro _ rfl
 have A5:=A4.pure (D w4)
 have k5:=k4.pure (D w4)
 have hs5:Hst w0 H2 w4.drew H2 w4.drew:=hs4.here.again (D w4).keptP
 refine ⟨_,fun w' h=>h.1,k,rfl,_,fun w' h=>h.2.cell rfl,?_⟩
 obtain ⟨w6,hr6,k6,E6⟩:=k5.put (v:=⟨t,rule,frm⟩) hnt
 have hm:¬ H2 m:=A5.h1 m ((hF2 m).2 (.inr (.inr (.inl rfl))))
 refine ⟨w6,hr6,E6.kept (fun b hb e=>hm (e▸hb)),?_⟩
 have c16:w6.cell? p1=some (.pointer (some k)):=E6.cell A5.cap (fun e=>A5.d1 ((hF2 _).2 (.inr (.inr (.inl e)))))
 refine ⟨_,c16,k,rfl,sl,k6.box.cell rfl,?_⟩
 have k7:=k6.pure (D w6)
 have c17:w6.drew.cell? p1=some (.pointer (some k)):=(D w6).cell c16 (fun h=>h)
 refine ⟨fun w'=>w'.cell? p1=some (.pointer (some k))∧Box w' k [.pointer (some p),sg.v,.map (some m),sl.v] 212,⟨c17,k7.box⟩,?_⟩
 rintro _ rfl
 refine ⟨_,fun w' h=>h.1,_,fun w' h=>h.1,k,rfl,sl,fun w' h=>h.2.cell rfl,?_⟩
 intro q w8 h8
 have E8:Pure w6.drew w8:=Ext.new h8
 refine ⟨⟨E8.cell c17 (fun h=>h),k7.box.pure E8⟩,?_⟩
 have hSn:S.length≤65536:=by have:=hwo.few;have:=hW.ok.few;omega
 obtain ⟨s1,w9,hr9,X9,b9,k9,E9,f9⟩:=k7.app h8 (by rw [Sp.kS];omega)
 have c19:w9.cell? p1=some (.pointer (some k)):=X9.cell (E8.cell c17 (fun h=>h)) (fun hb=>A5.d1 ((hF2 _).2 (.inr (.inr (.inr hb)))))
 have hH8:∀b,H2 b→b<w4.drew.heap.size:=hs5.lt
 refine ⟨s1,w9,hr9,⟨c19,b9⟩,X9.kept (fun b hb hx=>A5.h1 b ((hF2 b).2 (.inr (.inr (.inr hx)))) hb),k,rfl,b9.canW (by simp),by rw [jR];exact A5.h1 _ ((hF2 _).2 (.inl rfl)),?_⟩
 rintro _ rfl
 rw [← show Sp.jM (S++[⟨t,rule,frm⟩])=Sp.jM S++[t] from Sp.vE S ⟨t,rule,frm⟩] at k9
 have E59:Ext F w4.drew (w9.setCell (k.add 3) s1.v):=(E6.mono (fun b _ e=>(hF2 b).2 (.inr (.inr (.inl e))))).trans (((D w6).pure (F:=F)).trans (E9.mono (fun b _ hb=>(hF2 b).2 hb)))
 have z6:w4.drew.heap.size≤w6.drew.heap.size:=Nat.le_trans E6.size (D w6).size
 have A10:SeesAt w0 H2 (w9.setCell (k.add 3) s1.v) k p p1 L G (S++[⟨t,rule,frm⟩]) (KF k sg m s1) F FP:=A5.step hH8 ⟨sg,m,s1,k9,fun b=>Iff.rfl⟩ E59 (fun b hb=>(f9 b hb).imp (hF2 b).2 (fun h=>by omega))
 have hw1:Sp.WaysOk L G (S++[⟨t,rule,frm⟩]):=hwo.snoc hnt ht hv
 have hl2:sl.len=S.length:=by rw [k2.list.len,kV,Sp.kS]
 refine ⟨fun i H w'=>∃(j:Nat) (Sj:List Sp.Way) (Fj:NP),i=j∧j≤Sj.length∧SeesAt w0 H w' k p p1 L G Sj Fj F FP∧Sp.WaysOk L G Sj∧(∀u∈Sp.jM (Sj.take j),Sp.xB L Sj u)∧t∈Sp.jM Sj∧∀u∈Sp.jM S,u∈Sp.jM Sj,fun i _=>((L.length:Int) - i).toNat,
  ⟨S.length,_,_,by rw [hl2],by simp,A10,hw1,fun u hu=>by rw [List.take_left] at hu;exact (hcl u hu).snoc,by rw [Sp.vE];simp,fun u hu=>by rw [Sp.vE];exact List.mem_append_left _ hu⟩,?_⟩
 rintro _ Hl wl hl ⟨j,Sj,Fj,rfl,hj,A,hwj,hcj,htj,hSj⟩
 unfold m_J_l1
 obtain ⟨tg,mj,tl,kj,hFj⟩:=A.know
 have hlj:tl.len=Sj.length:=by rw [kj.list.len,kV,Sp.kS]
 refine ⟨_,A.cap,k,rfl,tl,kj.box.cell rfl,fun hc=>?_,fun hc=>?_⟩
 ·have hlt:=zZ hlj hc
  obtain ⟨a8,at8,_,c8⟩:=xL kj.list.lst (j:=j) (by rw [Sp.kS];exact hlt)
  have hu:(Sp.jM Sj)[j]'(by rw [Sp.kS];exact hlt)=Sj[j].t:=by simp [Sp.jM]
  rw [hu] at c8
  have hum:Sj[j].t∈Sp.jM Sj:=List.mem_map.2 ⟨_,List.getElem_mem hlt,rfl⟩
  have hui:=hwj.inp _ hum
  have hLn:Sj.length≤L.length:=hwj.few
  have hL6:=hW.ok.few
  have htk:Sp.jM (Sj.take (j+1))=Sp.jM (Sj.take j)++[Sj[j].t]:=by rw [List.take_succ_eq_append_getElem hlt,Sp.vE]
  generalize Sj[j].t=u at *
  refine ⟨_,A.cap,k,rfl,tl,kj.box.cell rfl,a8,at8,u,c8,?_⟩
  intro p5 w11 h11
  have hp5:=h11.at_size
  have E11:Pure wl w11:=Ext.new h11
  have b5:=Box.of_new h11
  have hnh5:¬ Hl p5.block:=fun hh=>by have:=hl.lt _ hh;omega
  refine ⟨b5.canW0 (by simp),hnh5,?_⟩
  rintro _ rfl
  have b12:=b5.set0 (v:=.int .i64 u)
  have E12:=Ext.setCell (w:=w11) p5 (.int .i64 u)
  have wl0:=A.ext.size
  have n5:¬ Fj p5.block:=fun hh=>by have:=A.know.lt hh;omega
  have n5p:¬ FP p5.block:=fun hh=>by have:=A.pool.lt hh;omega
  have n51:p5.block≠p1.block:=fun hh=>by have:=World.block_lt_of_cell? wl p1 A.cap;omega
  have A12:SeesAt w0 Hl (w11.setCell p5 (.int .i64 u)) k p p1 L G Sj Fj F FP:=(A.pure E11).fresh E12 n5 n5p n51 (by omega)
  have k12:KnowS (w11.setCell p5 (.int .i64 u)) k p G Sj (Sp.jM Sj) tg mj tl:=(kj.pure E11).ext E12 (fun b hb e=>n5 (e▸(hFj b).2 hb))
  have hl12:Hst w0 Hl (w11.setCell p5 (.int .i64 u)) Hl (w11.setCell p5 (.int .i64 u)):=(hl.again E11.keptP).again (E12.kept (fun b hb e=>hnh5 (e▸hb)))
  generalize w11.setCell p5 (.int .i64 u)=w12 at *
  clear E11 E12 h11
  refine ⟨fun w'=>w'.cell? p1=some (.pointer (some k))∧Box w' k [.pointer (some p),tg.v,.map (some mj),tl.v] 212∧Box w' p5 [.int .i64 u] 78,⟨(A12.pure (D w12)).cap,(k12.pure (D w12)).box,b12.pure (D w12)⟩,?_⟩
  rintro _ rfl
  have A17:=A12.pure (D w12)
  have b17:=b12.pure (D w12)
  have k17:=k12.pure (D w12)
  have hs17:Hst w0 Hl w12.drew Hl w12.drew:=hl12.again (D w12).keptP
  generalize hn:Sp.jG L u=n at *
  have J2 : ∀ (a9 : Addr) (w : World), Hst w0 Hl w Hl w → SeesAt w0 Hl w k p p1 L G Sj Fj F FP → w.cell? p5 = some (.int .i64 u) → Row w a9 (uN n) → ¬ Fj a9.block → ¬ Hl a9.block →
    m_J_j2 p1 j p5 a9 w0 Hl w (fun y'0 H' w'=>(∃(j:Nat) (Sj:List Sp.Way) (Fj:NP),y'0=j∧j≤Sj.length∧SeesAt w0 H' w' k p p1 L G Sj Fj F FP∧Sp.WaysOk L G Sj∧(∀u∈Sp.jM (Sj.take j),Sp.xB L Sj u)∧t∈Sp.jM Sj∧∀u∈Sp.jM S,u∈Sp.jM Sj)∧((L.length:Int) - y'0).toNat<((L.length:Int) - (j:Int)).toNat) K:=by
   intro a9 w hs Aw c5 r9 n9 nh9
   have fin : ∀ (H' : NP) (w' : World) (S' : List Sp.Way) (F' : NP), SeesAt w0 H' w' k p p1 L G S' F' F FP → Sp.WaysOk L G S' → (∃ M, S' = Sj ++ M) → Sp.xB L S' u →
     ((∃(j':Nat) (Sj:List Sp.Way) (Fj:NP),IntKind.i64.wrap ((j:Int)+1)=j'∧j'≤Sj.length∧SeesAt w0 H' w' k p p1 L G Sj Fj F FP∧Sp.WaysOk L G Sj∧(∀u∈Sp.jM (Sj.take j'),Sp.xB L Sj u)∧t∈Sp.jM Sj∧∀u∈Sp.jM S,u∈Sp.jM Sj)∧((L.length:Int) - IntKind.i64.wrap ((j:Int)+1)).toNat<((L.length:Int) - (j:Int)).toNat):=by
    rintro H' w' S' F' A' hw' ⟨M,rfl⟩ hsh
    have hsub:∀x∈Sp.jM Sj,x∈Sp.jM (Sj++M):=fun x hx=>by unfold Sp.jM at hx ⊢;rw [List.map_append];exact List.mem_append_left _ hx
    rw [zB (n:=L.length) (by omega) (by omega)]
    refine ⟨⟨j+1,_,F',rfl,by rw [List.length_append];omega,A',hw',fun x hx=>?_,hsub t htj,fun x hx=>hsub x (hSj x hx)⟩,vH (by omega)⟩
    rw [List.take_append_of_le_length (by omega),htk,List.mem_append,List.mem_singleton] at hx
    rcases hx with hx | rfl
    ·exact fun r y ha=>hsub y (hcj x hx r y ha)
    ·exact hsh
   unfold m_J_j2
   have ck:w.cell? a9=some (.int .i64 n.kind):=by simpa [Addr.add,uN] using r9 0 (by simp [uN])
   have ca:w.cell? (a9.add 5)=some (.int .i64 n.a):=r9 5 (by simp [uN])
   have cb:w.cell? (a9.add 6)=some (.int .i64 n.b):=r9 6 (by simp [uN])
   refine ⟨_,ck,fun hk=>?_,fun hk=>?_⟩
   ·have hk4:n.kind=4:=by simpa using hk
    have hkids:=Sp.jFZ hW hui (by rw [hn];exact hk4)
    rw [hn] at hkids
    refine ⟨_,ca,?_⟩
    refine (yM k p n.a 1 u p1 p5 w Aw.know Aw.cap c5 Aw.d1 (fun hh=>n5 hh) (by omega)).mono ?_
    rintro _ w13 ⟨rfl,F1,K1,X1,f1⟩
    have A1:=Aw.step hs.lt K1 X1 f1
    have hs13:=hs.again (X1.kept (fun b hb hf=>Aw.h1 b hf hb))
    refine ⟨rfl,X1.kept (fun b hb hf=>Aw.h1 b hf hb),n.b,X1.cell cb (by rw [jR];exact n9),?_⟩
    have a1:Sp.vP L 1 u n.a:=.inl ⟨rfl,by rw [hn];exact hk4,by rw [hn]⟩
    have a2:Sp.vP L 2 u n.b:=.inr (.inl ⟨rfl,by rw [hn];exact hk4,by rw [hn]⟩)
    have hw1:=hwj.add (v:=⟨n.a,1,u⟩) hkids.1.1 (.inr ⟨by simp,a1,hum⟩)
    have u1:=(Sp.vJ Sj ⟨n.a,1,u⟩).2 u hum
    have hw2:=hw1.add (v:=⟨n.b,2,u⟩) hkids.2.1 (.inr ⟨by simp,a2,u1⟩)
    have p5lt:=World.block_lt_of_cell? w p5 c5
    have m5:¬ F1 p5.block:=fun hh=>(f1 _ hh).elim n5 (fun hx=>by omega)
    refine (yM k p n.b 2 u p1 p5 w13 A1.know A1.cap (X1.cell c5 n5) A1.d1 m5 (by have:=hw1.few;omega)).mono ?_
    rintro _ w14 ⟨rfl,F2,K2,X2,f2⟩
    have A2:=A1.step hs13.lt K2 X2 f2
    refine ⟨rfl,X2.kept (fun b hb hf=>A1.h1 b hf hb),?_⟩
    refine fin Hl w14 _ F2 A2 hw2 ?_ ?_
    ·obtain ⟨M1,e1⟩:=Sp.yN Sj ⟨n.a,1,u⟩
     obtain ⟨M2,e2⟩:=Sp.yN (Sp.qH Sj ⟨n.a,1,u⟩) ⟨n.b,2,u⟩
     exact ⟨M1++M2,by rw [e2,e1,List.append_assoc]⟩
    ·rintro r y (⟨_,_,h3⟩ | ⟨_,_,h3⟩ | ⟨_,h2,_⟩)
     ·rw [hn] at h3;subst h3
      exact (Sp.vJ _ ⟨n.b,2,u⟩).2 _ (Sp.vJ Sj ⟨n.a,1,u⟩).1
     ·rw [hn] at h3;subst h3
      exact (Sp.vJ _ ⟨n.b,2,u⟩).1
     ·rw [hn,hk4] at h2;cases h2
   ·have hk4:n.kind≠4:=by simpa using hk
    rintro y1 rfl
    have hy:(cond ((n.kind:Int) == 7) ((n.kind:Int) == 7) (cond ((n.kind:Int) == 8) ((n.kind:Int) == 8) ((n.kind:Int) == 9)))=Sp.kE n.kind:=by
     unfold Sp.kE;cases h7:(n.kind == 7) <;> cases h8:(n.kind == 8) <;> simp
    rw [hy]
    refine ⟨fun hs7=>?_,fun hs7=>?_⟩
    ·intro H3 w15 hs15
     have A15:=Aw.hst hs15
     have hkids:=Sp.kids7 hW hui (by rw [hn];exact hs7)
     rw [hn] at hkids
     have r15:=jFU r9 nh9 hs15
     have ca15:w15.cell? (a9.add 5)=some (.int .i64 n.a):=r15 5 (by simp)
     have c515:=jEQ c5 hnh5 hs15
     refine ⟨n.a,ca15,?_⟩
     refine (yM k p n.a 3 u p1 p5 w15 A15.know A15.cap c515 A15.d1 n5 (by omega)).mono ?_
     rintro _ w16 ⟨rfl,F1,K1,X1,f1⟩
     have A1:=A15.step hs15.lt K1 X1 f1
     refine ⟨rfl,X1.kept (fun b hb hf=>A15.h1 b hf hb),?_⟩
     have a3:Sp.vP L 3 u n.a:=.inr (.inr ⟨rfl,by rw [hn];exact hs7,by rw [hn]⟩)
     refine fin H3 w16 _ F1 A1 (hwj.add (v:=⟨n.a,3,u⟩) hkids.1 (.inr ⟨by simp,a3,hum⟩)) (Sp.yN Sj ⟨n.a,3,u⟩) ?_
     rintro r y (⟨_,h2,_⟩ | ⟨_,h2,_⟩ | ⟨_,_,h3⟩)
     ·rw [hn] at h2;exact absurd h2 hk4
     ·rw [hn] at h2;exact absurd h2 hk4
     ·rw [hn] at h3;subst h3
      exact (Sp.vJ Sj ⟨n.a,3,u⟩).1
    ·intro H3 w15 hs15
     refine fin H3 w15 Sj Fj (Aw.hst hs15) hwj ⟨[],by simp⟩ ?_
     rintro r y (⟨_,h2,_⟩ | ⟨_,h2,_⟩ | ⟨_,h2,_⟩)
     ·rw [hn] at h2;exact absurd h2 hk4
     ·rw [hn] at h2;exact absurd h2 hk4
     ·rw [hn,hs7] at h2;cases h2
  refine ⟨_,fun w' h=>h.1,k,rfl,_,fun w' h=>h.2.1.cell0,_,fun w' h=>h.2.2.cell0,?_,?_⟩
  ·refine (jBC p u w12.drew A17.pool hW.ok).mono ?_
   rintro _ w18 ⟨nk,nf,nt,nu,nx,na,nb,ok,rfl,⟨hnn,_⟩,E18⟩
   rw [hn] at hnn
   refine ⟨_,_,_,_,_,_,_,_,rfl,⟨(A17.pure E18).cap,k17.box.pure E18,b17.pure E18⟩,E18.keptP,?_⟩
   intro p6 w19 h19
   have hp6:=h19.at_size
   have E19:=E18.trans (Ext.new h19)
   have b6:=Box.of_new h19
   have z18:=E18.size
   have z12:wl.heap.size≤w12.drew.heap.size:=by have:=(b17.lt);omega
   have nh6:¬ Hl p6.block:=fun hh=>by have:=hl.lt _ hh;omega
   refine ⟨⟨(A17.pure E19).cap,k17.box.pure E19,b17.pure E19⟩,b6.canWs (n:=7) (by simp),nh6,?_⟩
   rintro _ rfl
   have E20:=Ext.storeRow w19 p6 [(.int .i64 nk),(.int .i64 nf),(.int .i64 nt),(.int .u64 nu),(.string nx),(.int .i64 na),(.int .i64 nb)]
   have b20:=b6.store (vs:=[(.int .i64 nk),(.int .i64 nf),(.int .i64 nt),(.int .u64 nu),(.string nx),(.int .i64 na),(.int .i64 nb)]) rfl
   have A19:=A17.pure E19
   have n6:¬ Fj p6.block:=fun hh=>by have:=A17.know.lt hh;omega
   have A20:=A19.fresh E20 n6 (fun hh=>by have:=A17.pool.lt hh;omega) (fun hh=>by have:=World.block_lt_of_cell? _ p1 A17.cap;omega) (by have:=A17.ext.size;omega)
   have k20:=(k17.box.pure E19).ext E20 (fun e=>by have:=k17.box.lt;omega)
   have b520:=(b17.pure E19).ext E20 (fun e=>by have:=b17.lt;omega)
   have hs20:Hst w0 Hl _ Hl _:=(hs17.again E19.keptP).again (E20.kept (fun b hb e=>nh6 (e▸hb)))
   exact ⟨⟨A20.cap,k20,b520⟩,J2 p6 _ hs20 A20 b520.cell0 (by rw [← hnn];exact b20.row) n6 nh6⟩
  ·intro p7 w21 h21
   have hp6:=h21.at_size
   have E21:Pure w12.drew w21:=Ext.new h21
   have b7:=Box.of_new h21
   refine ⟨⟨(A17.pure E21).cap,k17.box.pure E21,b17.pure E21⟩,?_⟩
   refine (jBC p u w21 (A17.pure E21).pool hW.ok).mono ?_
   rintro _ w22 ⟨nk,nf,nt,nu,nx,na,nb,ok,rfl,⟨hnn,_⟩,E22⟩
   rw [hn] at hnn
   have E19:=E21.trans E22
   have z12:wl.heap.size≤w12.drew.heap.size:=by have:=(b17.lt);omega
   have nh6:¬ Hl p7.block:=fun hh=>by have:=hl.lt _ hh;omega
   have b6:=b7.pure E22
   refine ⟨_,_,_,_,_,_,_,_,rfl,⟨(A17.pure E19).cap,k17.box.pure E19,b17.pure E19⟩,E22.keptP,b6.canWs (n:=7) (by simp),nh6,?_⟩
   rintro _ rfl
   have E20:=Ext.storeRow w22 p7 [(.int .i64 nk),(.int .i64 nf),(.int .i64 nt),(.int .u64 nu),(.string nx),(.int .i64 na),(.int .i64 nb)]
   have b20:=b6.store (vs:=[(.int .i64 nk),(.int .i64 nf),(.int .i64 nt),(.int .u64 nu),(.string nx),(.int .i64 na),(.int .i64 nb)]) rfl
   have A19:=A17.pure E19
   have n6:¬ Fj p7.block:=fun hh=>by have:=A17.know.lt hh;omega
   have A20:=A19.fresh E20 n6 (fun hh=>by have:=A17.pool.lt hh;omega) (fun hh=>by have:=World.block_lt_of_cell? _ p1 A17.cap;omega) (by have:=A17.ext.size;omega)
   have k20:=(k17.box.pure E19).ext E20 (fun e=>by have:=k17.box.lt;omega)
   have b520:=(b17.pure E19).ext E20 (fun e=>by have:=b17.lt;omega)
   have hs20:Hst w0 Hl _ Hl _:=(hs17.again E19.keptP).again (E20.kept (fun b hb e=>nh6 (e▸hb)))
   exact ⟨⟨A20.cap,k20,b520⟩,J2 p7 _ hs20 A20 b520.cell0 (by rw [← hnn];exact b20.row) n6 nh6⟩
 ·have hge:=kA hlj hj hc
  subst hge
  rw [List.take_length] at hcj
  exact hK Sj Fj wl A.know ⟨hwj,hcj,htj,hSj⟩ A.ext A.own
end Go.Proofs
end
section
open Go.SE
namespace Go.Sp
def jGA (L:Pool) (n:Int):Int×Bool:=match find L (jCX n) with
 | some i=>((i:Int)+1,true)
 | none=>(0,false)
inductive Sub (L:Pool):Int→Int→Prop
 | refl (t:Int):Sub L t t
 | kid {t u k:Int}:Sub L t u→k∈zH (jG L u)→Sub L t k
theorem Sub.trans {L:Pool} {a b c:Int} (h:Sub L a b) (k:Sub L b c):Sub L a c:=by
 induction k with
 | refl=>exact h
 | kid _ hk ih=>exact .kid ih hk
theorem jFF {n:Node} (h:n.kind=4∨n.kind=5∨kE n.kind=true):n.a∈zH n:=by
 simp only [kE,Bool.or_eq_true,beq_iff_eq] at h;rcases h with h | h | (h | h) | h <;> simp [zH,h,jV]
theorem kids_b {n:Node} (h:n.kind=4):n.b∈zH n:=by simp [zH,h,jV]
theorem vP.sub {L:Pool} {r u t:Int} (h:vP L r u t):Sub L u t:=by
 rcases h with ⟨_,hk,rfl⟩ | ⟨_,hk,rfl⟩ | ⟨_,hk,rfl⟩
 ·exact .kid (.refl u) (jFF (.inl hk))
 ·exact .kid (.refl u) (kids_b hk)
 ·exact .kid (.refl u) (jFF (.inr (.inr hk)))
theorem Seen.sub {L:Pool} {G:List Int} {t:Int} (h:Seen L G t):∃g∈G,Sub L g t:=by
 induction h with
 | given hg=>exact ⟨_,hg,.refl _⟩
 | aris _ ha ih=>obtain ⟨g,hg,hs⟩:=ih;exact ⟨g,hg,hs.trans ha.sub⟩
def jFE (S:List Way) (t:Int):Nat:=(jM S).idxOf t+if t∈jM S then 0 else t.toNat
theorem vP.rule {L:Pool} {r u t:Int} (h:vP L r u t):r=1∨r=2∨r=3:=by
 rcases h with ⟨h,_⟩ | ⟨h,_⟩ | ⟨h,_⟩
 ·exact .inl h
 ·exact .inr (.inl h)
 ·exact .inr (.inr h)
def amap (l:List Step):List (Int×Int):=l.zipIdx.map fun p=>(p.1.t,(p.2:Int))
structure PrfOk (L:Pool) (G:List Int) (K:Int→Prop) (l:List Step) (B:List Int):Prop where
 fol:∀i (hi:i<l.length),fol L G (l.take i) l[i]=true
 nd:(l.map Step.t).Nodup
 drv:∀s∈l,Drv L K s.t
 bar:∀t∈B,¬ Drv L K t
theorem PrfOk.nil (L:Pool) (G:List Int) (K:Int→Prop):PrfOk L G K [] []:=⟨fun i hi=>by simp at hi,by simp,by simp,by simp⟩
theorem PrfOk.snoc {L:Pool} {G:List Int} {K:Int→Prop} {l:List Step} {B:List Int} (h:PrfOk L G K l B) {s:Step} (hf:Sp.fol L G l s=true) (hn:s.t ∉ l.map Step.t) (hd:Drv L K s.t):PrfOk L G K (l++[s]) B:=by
 refine ⟨fun i hi=>?_,?_,fun x hx=>?_,h.bar⟩
 ·rw [List.length_append] at hi;simp only [List.length_cons,List.length_nil] at hi;by_cases hl:i<l.length
  ·rw [List.getElem_append_left hl,List.take_append_of_le_length (by omega)];exact h.fol i hl
  ·have:i=l.length:=by omega
   subst this;rw [List.getElem_append_right (Nat.le_refl _),List.take_left];simpa using hf
 ·rw [List.map_append,List.nodup_append];exact ⟨h.nd,by simp,fun x hx y hy e=>by simp at hy;subst hy;exact hn (e▸hx)⟩
 ·rcases List.mem_append.1 hx with hx | hx
  ·exact h.drv x hx
  ·simp at hx;subst hx;exact hd
theorem fol_in {L:Pool} {G:List Int} {pre:List Step} {s:Step} (h:fol L G pre s=true):inP L s.t=true:=by
 unfold fol at h;split at h
 ·cases h
 ·rename_i hh;simpa using hh
theorem PrfOk.few {L:Pool} {G:List Int} {K:Int→Prop} {l:List Step} {B:List Int} (h:PrfOk L G K l B):l.length≤L.length:=by
 have:=lZ h.nd (fun t ht=>by
  obtain ⟨s,hs,rfl⟩:=List.mem_map.1 ht;obtain ⟨i,hi,rfl⟩:=List.getElem_of_mem hs;exact fol_in (h.fol i hi))
 simpa using this
end Go.Sp
end
section
open Go Go.SE
namespace Go.Sp
def jDW (G:List Int) (t:Int):List Int:=if t∈G then G else G++[t]
def xE (L:Pool) (G:List Int) (t:Int):List Int:=if inP L t=true then jDW G t else G
theorem oD {G:List Int} {t x:Int}:x∈jDW G t↔x∈G∨x=t:=by
 unfold jDW;split
 ·rename_i h;exact ⟨.inl,fun h'=>h'.elim id (fun e=>e▸h)⟩
 ·simp
theorem jGL {G:List Int} {t:Int} (h:G.Nodup):(jDW G t).Nodup:=by
 unfold jDW;split
 ·exact h
 ·rename_i hn;rw [List.nodup_append];exact ⟨h,by simp,fun x hx y hy e=>by simp at hy;subst hy;exact hn (e▸hx)⟩
def madeS (L:Pool) (S:List Way) (t:Int):Int×Int×Bool×Bool :=
 if inP L t=false then (0,0,false,false)
 else if jGD (jG L t).kind=true then (0,0,true,true)
 else if (jG L t).kind=4 then ((jG L t).a,(jG L t).b,false,true)
 else if (jG L t).kind=5 then ((jG L t).a,0,false,true)
 else if (jG L t).kind=6 then (0,0,false,false)
 else ((jG L t).a,(jGA L (jCG (jG L t))).1,false,(jGA L (jCG (jG L t))).2 && decide ((jGA L (jCG (jG L t))).1∈jM S))
end Go.Sp
namespace Go.Proofs
open Tryz
attribute [local irreducible] Calls
abbrev MakePost (p:Addr) (L:Sp.Pool) (F:NP) (w:World) (n:Sp.Node) (e:Ending) (w':World):Prop :=
 ∃r1:Int,∃r2:Int,e=.returned (.tuple #[.int .i64 r1,.int .i64 r2])∧((r1,r2)=((Sp.make L n).1,(Sp.make L n).2.1)∧∃F',jO w' p (Sp.make L n).2.2 F'∧Ext F w w'∧∀b,F' b→F b∨w.heap.size≤b)
section
variable (p:Addr) (w0:World) {L:Sp.Pool} {F:NP} (hP:jO w0 p L F) (hok:Sp.Ok L)
include hP hok
theorem jFI (a b:Int):Calls prog 91 #[.pointer (some p),.int .i64 a,.int .i64 b] w0 (MakePost p L F w0 ⟨4,0,0,0,⟨#[]⟩,a,b⟩):=by
 refine w_Q1 _ _ _ w0 (fun r1 r2 w'=>(r1,r2)=((Sp.make L ⟨4,0,0,0,⟨#[]⟩,a,b⟩).1,(Sp.make L ⟨4,0,0,0,⟨#[]⟩,a,b⟩).2.1)∧∃F',jO w' p (Sp.make L ⟨4,0,0,0,⟨#[]⟩,a,b⟩).2.2 F'∧Ext F w0 w'∧∀b,F' b→F b∨w0.heap.size≤b) ?_;unfold m_Q1;refine (jBD p _ _ _ _ _ _ _ w0 hP hok).mono ?_;rintro _ w1 ⟨r1,r2,rfl,h⟩;exact ⟨r1,r2,rfl,h⟩
theorem c_Sign (n a:Int):Calls prog 93 #[.pointer (some p),.int .i64 n,.int .i64 a] w0 (MakePost p L F w0 ⟨7,n,0,0,⟨#[]⟩,a,0⟩):=by
 refine w_S1 _ _ _ w0 (fun r1 r2 w'=>(r1,r2)=((Sp.make L ⟨7,n,0,0,⟨#[]⟩,a,0⟩).1,(Sp.make L ⟨7,n,0,0,⟨#[]⟩,a,0⟩).2.1)∧∃F',jO w' p (Sp.make L ⟨7,n,0,0,⟨#[]⟩,a,0⟩).2.2 F'∧Ext F w0 w'∧∀b,F' b→F b∨w0.heap.size≤b) ?_;unfold m_S1;refine (jBD p _ _ _ _ _ _ _ w0 hP hok).mono ?_;rintro _ w1 ⟨r1,r2,rfl,h⟩;exact ⟨r1,r2,rfl,h⟩
end
theorem KnowS.appG {w:World} {k p:Addr} {G:List Int} {S:List Sp.Way} {ks:List Int} {sg sl:Sl} {m:Nat} (h:KnowS w k p G S ks sg m sl) {t:Int} {q:Addr} {w1:World} (hq:New w (.cells #[.int .i64 t] 78) q w1) (hn:G.length≤1000000):∃s1 w2,(Builtin.append_ #[46,46] 46 #[sg.v,(Sl.mk (some q) 1 1).v]).run prog w1=.ok s1.v w2∧Ext sg.blk w1 w2∧jW w2 (k.add 1) ∧
  KnowS (w2.setCell (k.add 1) s1.v) k p (G++[t]) S ks s1 m sl∧Ext (KF k sg m sl) w (w2.setCell (k.add 1) s1.v)∧∀b,KF k s1 m sl b→KF k sg m sl b∨w.heap.size≤b:=by
 have E1:Pure w w1:=Ext.new hq
 have h1:=h.pure E1
 obtain ⟨s1,w2,hr,hR,hE,hb⟩:=h1.giv.append (P:=prog) (ty:=46) (c:=1) jCL (r:=[.int .i64 t]) (Box.of_new hq).row rfl rfl (by rw [kV];omega) (by rw [kV];simp [maxLen];omega)
 have hbx:=h1.box.ext hE h1.n2
 have hs1:∀b,s1.blk b→sg.blk b∨w.heap.size≤b:=fun b h=>(hb b h).imp_right (fun h=>by have:=E1.size;omega)
 have nk:¬ s1.blk k.block:=fun hh=>(hs1 _ hh).elim h.n2 (fun hh=>by have:=h.box.lt;omega)
 have nm:¬ s1.blk m:=fun hh=>(hs1 _ hh).elim h.n4 (fun hh=>by have:=h.seen.lt;omega)
 have E3:=Ext.setCell (w:=w2) (k.add 1) s1.v
 rw [jR] at E3
 refine ⟨s1,w2,hr,hE,hbx.canW (by simp),⟨hbx.set 1 s1.v,by rw [show tmr (G++[t])=tmr G++[[.int .i64 t]] by simp [tmr]];exact hR.ext E3 (fun b hb e=>nk (e▸hb)),((h1.seen.ext hE h.n4).ext E3 h.n1),((h1.list.ext hE (fun b h2 h1=>h.n6 b h1 h2)).ext E3 (fun b hb e=>h.n3 (e▸hb))),h.n1,nk,h.n3,nm,h.n5,fun b h1 h2=>(hs1 b h1).elim (fun h1=>h.n6 b h1 h2) (fun hh=>by have:=h.list.lt h2;omega)⟩,?_,?_⟩
 ·exact ((E1.pure (F:=KF k sg m sl)).trans (hE.mono (fun b _ hb=>.inr (.inl hb)))).trans (E3.mono (fun b _ hb=>.inl hb))
 ·rintro b (hb | hb | hb | hb)
  ·exact .inl (.inl hb)
  ·exact (hs1 b hb).imp_left (fun h=>.inr (.inl h))
  ·exact .inl (.inr (.inr (.inl hb)))
  ·exact .inl (.inr (.inr (.inr hb)))
theorem jDP (k p:Addr) (t:Int) (w0:World) {L:Sp.Pool} {G:List Int} {S:List Sp.Way} {F FP:NP} (h:zS w0 k p G S F) (hP:jO w0 p L FP) (hW:Sp.Wf L) (hd:∀b,F b→¬ FP b) (hk:Sp.KnowOk L G S) :
  Calls prog 79 #[.pointer (some k),.int .i64 t] w0 (fun e w'=>∃r:Int,e=.returned (.int .i64 r)∧(r=(if Sp.inP L t=true then 0 else 51)∧∃S' F',zS w' k p (Sp.xE L G t) S' F'∧Sp.KnowOk L (Sp.xE L G t) S'∧Ext F w0 w'∧∀b,F' b→F b∨w0.heap.size≤b)):=by
 suffices key:∀K:Int→WP,(∀S' F' w',zS w' k p (Sp.xE L G t) S' F'→Sp.KnowOk L (Sp.xE L G t) S'→Ext F w0 w'→(∀b,F' b→F b∨w0.heap.size≤b)→K (if Sp.inP L t=true then 0 else 51) w')→m_O1 (some k) t w0 K from
  w_O1 _ _ w0 _ (key _ (fun S' F' w' a b c d=>⟨rfl,S',F',a,b,c,d⟩))
 intro K hK
 unfold m_O1
 obtain ⟨sg,m,sl,k0,hF⟩:=h
 refine Br.f rfl ⟨k,rfl,_,k0.box.cell0,?_⟩
 refine (jBC p t w0 hP hW.ok).mono ?_
 rintro _ w1 ⟨nk,nf,nt,nu,nx,na,nb,ok,rfl,⟨_,rfl⟩,E1⟩
 refine ⟨_,_,_,_,_,_,_,_,rfl,E1.keptP,fun hc=>?_,fun hc=>?_⟩
 ·have hin:Sp.inP L t=false:=by simpa using hc
  intro H1 w3 hs3
  have E3:Pure w0 w3:=E1.hst hs3
  have hg:Sp.xE L G t=G:=by unfold Sp.xE;rw [if_neg (by simp [hin])]
  have:=hK S F w3 (by rw [hg];exact ⟨sg,m,sl,k0.pure E3,hF⟩) (by rw [hg];exact hk) E3.pure (fun b hb=>.inl hb)
  simpa [hin] using this
 have hin:Sp.inP L t=true:=by simpa using hc
 have hg:Sp.xE L G t=Sp.jDW G t:=by unfold Sp.xE;rw [if_pos hin]
 rw [hg] at hK
 simp only [hin,if_true] at hK
 refine ⟨k,rfl,?_⟩
 intro H1 w3 hs3
 have E3:Pure w0 w3:=E1.hst hs3
 have k3:=k0.pure E3
 have nh:∀b,b<w0.heap.size→¬ H1 b:=fun b hb hh=>by have:=hs3.old b hh;omega
 have hGn:G.length≤65536:=by have:=Sp.lZ hk.gnd (fun t ht=>hk.inp t (hk.giv t ht));have:=hW.ok.few;omega
 have fin:∀(w:World) (F':NP),zS w k p (Sp.jDW G t) S F'→Ext F w0 w→(∀b,F' b→F b∨w0.heap.size≤b)→Hst w0 H1 w H1 w→(∀b,F' b→¬ H1 b)→Calls prog 151 #[.pointer (some k),.int .i64 t,.agg #[.int .i64 0,.int .i64 0]] w (fun e w8=>e=.returned (.tuple #[])∧Kept H1 w w8∧K 0 w8):=by
  intro w F' hw hE hf hs hh;have hGs:∀x∈G,x∈Sp.jDW G t:=fun x hx=>Sp.oD.2 (.inl hx);have hPw:jO w p L FP:=hP.ext hE (fun b hb hfb=>hd b hfb hb);refine (jBU k p t 0 0 w hw hPw hW (fun b hb hp=>?_) (hk.toWaysOk.mono hGs) hk.closed hin (.inl ⟨rfl,rfl,Sp.oD.2 (.inr rfl)⟩)).mono ?_
  ·rcases hf b hb with h1 | h1
   ·exact hd b h1 hp
   ·have:=hP.lt hp;omega
  ·rintro _ w8 ⟨rfl,S',F2,K2,⟨q1,q2,q3,q4⟩,X2,f2⟩;have z:=hE.size;refine ⟨rfl,X2.kept (fun b hb hx=>hh b hx hb),hK S' F2 w8 K2 ⟨q1,q2,fun x hx=>?_,Sp.jGL hk.gnd⟩ (hE.trans' X2 (fun i hi hx=>(hf i hx).elim id (fun h=>by omega))) (fun b hb=>?_)⟩
   ·rcases Sp.oD.1 hx with hx | rfl
    ·exact q4 x (hk.giv x hx)
    ·exact q3
   ·rcases f2 b hb with h1 | h1
    ·exact hf b h1
    ·right;omega
 refine ⟨_,k3.box.cell rfl,?_⟩
 refine (tK sg G t w3 k3.giv.lst (by omega)).mono ?_
 rintro _ w3 ⟨r,rfl,rfl,rfl⟩
 refine ⟨_,rfl,Kept.refl _,fun hc2=>?_,fun hc2=>?_⟩
 ·have hnG:t ∉ G:=by simpa using hc2
  have hadd:Sp.jDW G t=G++[t]:=if_neg hnG
  refine ⟨k,rfl,_,k3.box.cell rfl,?_⟩
  intro q w5 h5
  obtain ⟨s1,w6,hr6,X6,cw6,k6,E6,f6⟩:=k3.appG h5 (by omega)
  have hs5:Hst w0 H1 w5 H1 w5:=hs3.here.again (Ext.new h5:Pure w3 w5).keptP
  have sgn:∀b,sg.blk b→¬ H1 b:=fun b hb=>nh b (k0.lt (.inr (.inl hb)))
  have kk:Kept H1 w5 w6:=X6.kept (fun b hb hx=>sgn b hx hb)
  refine ⟨s1,w6,hr6,kk,k,rfl,cw6,by rw [jR];exact nh _ k0.box.lt,?_⟩
  rintro _ rfl
  have z3:=E3.size
  have z5:w3.heap.size≤w5.heap.size:=(Ext.new h5:Pure w3 w5).size
  refine fin _ (KF k s1 m sl) (by rw [hadd];exact ⟨s1,m,sl,k6,fun b=>Iff.rfl⟩) ((E3.pure (F:=F)).trans (E6.mono (fun b _ hb=>(hF b).2 hb))) (fun b hb=>(f6 b hb).imp (hF b).2 (fun h=>by omega)) ((hs5.again kk).again (Kept.setCell (by rw [jR];exact nh _ k0.box.lt))) (fun b hb hh=>?_)
  rcases f6 b hb with h1 | h1
  ·exact nh b (k0.lt h1) hh
  ·have:=hs3.lt b hh;omega
 ·have hG:t∈G:=by simpa using hc2
  have hadd:Sp.jDW G t=G:=if_pos hG
  exact fin w3 F (by rw [hadd];exact ⟨sg,m,sl,k3,hF⟩) E3.pure (fun b hb=>.inl hb) hs3.here (fun b hb=>nh b (k0.lt ((hF b).1 hb)))
end Go.Proofs
end
section
open Go Go.SE
namespace Go.Sp
def oG (L:Pool) (ts:List Int):List Int:=ts.foldl (xE L) []
def jGN (L:Pool) (G:List Int) (fs:List Fact):Prop:=fs.Pairwise LtF∧∀x,x∈fs↔∃t,Seen L G t∧x∈ofS L t
theorem KnowOk.nil0 (L:Pool):KnowOk L [] []:=⟨⟨by simp [jM],by simp [jM],fun i hi=>by simp at hi⟩,by simp [jM],by simp,by simp⟩
theorem jCP (L:Pool) (t:Int):(ofS L t).length≤3:=by
 unfold ofS ofR kC
 repeat' split
 all_goals simp
end Go.Sp
namespace Go.Proofs
open Tryz
attribute [local irreducible] Calls
theorem jEU {S:NP} (p:Addr) (l:Sl) (ts:List Int) (w0:World) {L:Sp.Pool} {F:NP} (hP:jO w0 p L F) (hW:Sp.Wf L) (hs:Lst S w0 1 l (tmr ts)) (hn:ts.length≤1000000) :
  Calls prog 26 #[.pointer (some p),l.v] w0 (fun e w'=>∃r:Sl,e=.returned r.v∧∃fs,RetO w0 75 4 (fs.map kG) r w'∧Sp.jGN L (Sp.oG L ts) fs∧fs.length≤200000):=by
 suffices key:∀K:Sl→WP,(∀r fs w',RetO w0 75 4 (fs.map kG) r w'→(Sp.jGN L (Sp.oG L ts) fs∧fs.length≤200000)→K r w')→m_M (some p) l w0 K from
  w_M _ _ w0 _ (key _ (fun r fs w' h1 h2=>⟨fs,h1,h2⟩))
 intro K hK
 unfold m_M
 refine (jDO p w0).mono ?_
 rintro _ w1 ⟨_,rfl,k,F1,rfl,hk1,E1,hF1⟩
 have hll:l.len=ts.length:=by rw [hs.len,kV]
 refine ⟨_,rfl,fun i w'=>∃j:Nat,i=j∧j≤ts.length∧∃W FK,zS w' k p (Sp.oG L (ts.take j)) W FK∧Sp.KnowOk L (Sp.oG L (ts.take j)) W∧(∀b,FK b→w0.heap.size≤b)∧Pure w0 w',fun i _=>((ts.length:Int) - i).toNat,⟨0,rfl,Nat.zero_le _,[],F1,hk1,Sp.KnowOk.nil0 L,hF1,E1⟩,?_⟩
 rintro _ wl ⟨j,rfl,hj,W,FK,hk,hok,hFK,El⟩
 unfold m_M_l1
 refine ⟨fun h=>?_,fun h=>?_⟩
 ·have hlt:=zZ hll h
  obtain ⟨a,hat,_,hv⟩:=xL (hs.pure El) hlt
  refine ⟨a,hat,_,hv,?_⟩
  refine (jDP k p ts[j] wl hk (hP.pure El) hW (fun b hb hp=>by have:=hFK b hb;have:=hP.lt hp;omega) hok).mono ?_
  rintro _ w2 ⟨_,rfl,_,W',F',hk',hok',X,hF'⟩
  refine ⟨_,rfl,?_⟩
  rw [zB hlt (by omega)]
  have e:Sp.oG L (ts.take (j+1))=Sp.xE L (Sp.oG L (ts.take j)) ts[j]:=by
   unfold Sp.oG;rw [List.take_succ_eq_append_getElem hlt,List.foldl_append];rfl
  exact ⟨⟨j+1,rfl,hlt,W',F',by rw [e];exact hk',by rw [e];exact hok',fun b hb=>(hF' b hb).elim (hFK b) (fun h=>by have:=El.size;omega),El.trans' X (fun i hi hf=>by have:=hFK i hf;omega)⟩,vH hlt⟩
 have hge:=kA hll hj h
 subst hge
 rw [List.take_length] at hk hok
 have hfew:(Sp.jM W).length≤65536:=by rw [Sp.kS];exact Nat.le_trans hok.toWaysOk.few hW.ok.few
 refine (jBV k p wl hk (by omega)).mono ?_
 rintro _ w3 ⟨r3,rfl,q,hr3,hperm,_⟩
 have hql:q.length≤65536:=by rw [hperm.length_eq];exact hfew
 have hq3:r3.len=q.length:=by rw [hr3.rows.len,kV]
 have E3:=El.trans hr3.pure
 have hsz3:=E3.size
 have hbl:∀j,((q.take j).flatMap (Sp.ofS L)).length≤3*j:=by
  intro j;induction j with
  | zero=>simp
  | succ j ih =>
   by_cases hj:j<q.length
   ·rw [List.take_succ_eq_append_getElem hj,List.flatMap_append,List.length_append]
    have:=Sp.jCP L q[j]
    simp only [List.flatMap_cons,List.flatMap_nil,List.append_nil]
    omega
   ·rw [List.take_of_length_le (by omega)] at ih ⊢;omega
 refine ⟨r3,rfl,fun o i w'=>∃j:Nat,i=j∧j≤q.length∧Pure w3 w'∧(∀b,o.blk b→w3.heap.size≤b)∧Rws w' 75 4 o (((q.take j).flatMap (Sp.ofS L)).map kG),fun _ i _=>((q.length:Int) - i).toNat,⟨0,rfl,Nat.zero_le _,Ext.refl _,fun b h=>(by obtain ⟨a,h,_⟩:=h;cases h),Rws.nil _ _ _⟩,?_⟩
 rintro o _ w4 ⟨j,rfl,hj,E4,hown,Ro⟩
 unfold m_M_l2
 refine ⟨fun h=>?_,fun h=>?_⟩
 ·have hlt:=zZ hq3 h
  obtain ⟨a,hat,_,hv⟩:=xL (hr3.rows.pure E4).lst hlt
  refine ⟨a,hat,_,hv,?_⟩
  refine (jDN (some p) q[j] w4 (hP.pure (E3.trans E4)) hW.ok).mono ?_
  rintro _ w5 ⟨r4,rfl,hr4⟩
  have b1:=hbl j
  have b2:=Sp.jCP L q[j]
  have E5:=E4.trans hr4.pure
  obtain ⟨s1,w6,hrun,hR,hE,hb⟩:=(Ro.pure hr4.pure).appendL (P:=prog) vL (ty:=71) hr4.rows.lst (uG _) (oI _) (by rw [List.length_map,List.length_map];omega) (by rw [List.length_map,List.length_map];unfold maxLen;omega)
  refine ⟨r4,rfl,s1,w6,hrun,?_⟩
  rw [zB hlt (by omega)]
  have:=E5.size
  refine ⟨⟨j+1,rfl,hlt,E5.trans' hE (fun i hi h=>by have:=hown i h;omega),fun b h=>(hb b h).elim (hown b) (fun h=>by omega),?_⟩,vH hlt⟩
  rw [List.take_succ_eq_append_getElem hlt,List.flatMap_append,List.map_append]
  simpa using hR
 have hge:=kA hq3 hj h
 subst hge
 rw [List.take_length] at Ro
 have hb3:=hbl q.length
 rw [List.take_length] at hb3
 generalize hfs:q.flatMap (Sp.ofS L)=fs at *
 refine (jBW o fs w4 Ro (by omega)).mono ?_
 rintro _ w5 ⟨rfl,fs',hp',hsd,R5,E5⟩
 refine ⟨rfl,?_⟩
 refine (jDS o fs' w5 R5 (by rw [hp'.length_eq];omega)).mono ?_
 rintro _ w6 ⟨r,rfl,R6,E6,hb6⟩
 refine ⟨r,rfl,hK r (Sp.yJ fs') w6 ⟨R6,fun b hb=>by have:=hown b (hb6 b hb);omega,?_⟩ ⟨⟨Sp.tG hsd,fun x=>?_⟩,by have:=Sp.jDG fs';have:=hp'.length_eq;omega⟩⟩
 ·exact (E3.trans E4).trans' (E5.trans E6) (fun i hi h=>by have:=hown i h;omega)
 ·rw [Sp.jCR,hp'.mem_iff,← hfs,List.mem_flatMap]
  constructor
  ·rintro ⟨t,ht,hx⟩
   exact ⟨t,(hok.seen_iff t).1 (hperm.mem_iff.1 ht),hx⟩
  ·rintro ⟨t,ht,hx⟩
   exact ⟨t,hperm.mem_iff.2 ((hok.seen_iff t).2 ht),hx⟩
end Go.Proofs
end
section
namespace Go.Sp
inductive Good:Tree→Prop
 | mk (k f t u:Int) (x:ByteArray) (ks:List Tree) (own:uM ⟨k,f,t,u,x,0,0⟩ ks.length=0) (kids:∀i (hi:i<ks.length),Good ks[i]):Good (.mk k f t u x ks)
end Go.Sp
end
section
namespace Go.Sp
mutual
def cnt:Tree→Nat
 | .mk _ _ _ _ _ ks=>1+jFG ks
def jFG:List Tree→Nat
 | []=>0
 | t :: ts=>cnt t+jFG ts
end
mutual
def parts (most:Int):Tree→Int
 | .mk _ _ _ _ _ ks=>jAR most 1 ks
def jAR (most n:Int):List Tree→Int
 | []=>n
 | t :: ts=>if n≤most then jAR most (n+parts (most - n) t) ts else n
end
mutual
def jFT:Tree→Tree→Bool
 | .mk k f t u x ks,.mk k' f' t' u' x' ks'=>decide (k=k') && decide (f=f') && decide (t=t') && decide (u=u') && decide (x=x') && jCM ks ks'
def jCM:List Tree→List Tree→Bool
 | [],[]=>true
 | t :: ts,t' :: ts'=>jFT t t' && jCM ts ts'
 | _,_=>false
end
end Go.Sp
end
section
namespace Go.Sp
def kI (k:Int):Bool:=(k == 1 || k == 2) || k == 4
def kP (k:Int):Bool:=kI k || k == 6
def vN (l:Letter):Int :=
 if l.kind<1∨l.kind>7∨(l.frm≠0∧l.frm≠1)∨(kI l.kind=false∧l.frm≠0)∨(kP l.kind=false∧l.text≠⟨#[]⟩)∨(l.fake=true∧l.kind≠1∧l.kind≠4) then 110 else if l.text.size>64 then 1 else 0
end Go.Sp
end
section
open Go Go.SE
open Go.IntKind renaming i64 → q6
namespace Go.Proofs
open Tryz
set_option maxRecDepth 100000
set_option maxHeartbeats 4000000
attribute [local irreducible] wpL wpX opE wpE Calls
def m_P2  (w0:World) (K:(Array Value)→WP):Prop :=∀p1 w1,New w0 (.cells #[(vb false),(vb false),(vb false),ve,(vb false),(vb false),(vb false),ve,(vb false),(vb false),(vb false),ve,(vb false),(vb false),(vb false),ve,(vb false),(vb false),(vb false),ve,(vb false),(vb false),(vb false),ve,(vb false),(vb false),(vb false),ve,(vb false),(vb false),(vb false),ve] 302) p1 w1→(∀j,j<32→jW w1 (p1.add j))∧∀w2,w2=storeRow w1 p1 [(vb false),(vb false),(vb false),ve,(vb true),(vb true),(vb true),(vs (⟨#[112,114,111,109,105,115,101]⟩:ByteArray)),(vb true),(vb true),(vb false),(vs (⟨#[115,105,103,110]⟩:ByteArray)),(vb false),(vb false),(vb false),(vs (⟨#[97,98,111,114,116]⟩:ByteArray)),(vb true),(vb true),(vb true),(vs (⟨#[114,101,115,111,108,118,101]⟩:ByteArray)),(vb false),(vb false),(vb false),(vs (⟨#[116,111,107,101,110]⟩:ByteArray)),(vb false),(vb true),(vb false),(vs (⟨#[105,110,115,116,101,97,100]⟩:ByteArray)),(vb false),(vb false),(vb false),(vs (⟨#[102,117,108,108]⟩:ByteArray))]→∃cT:Array Value,(cT.size=32∧Row w2 p1 cT.toList)∧K cT w2
theorem w_P2  (w0:World) (K:(Array Value)→WP) (h:m_P2  w0 K) :
  Calls prog 193 #[] w0 (fun e w'=>∃r1:Array Value,e=.returned (.agg r1)∧K r1 w'):=by
 refine cw (args:=[]) func193 ntmps193 (eg (sn (O:=(.cells #[(vb false),(vb false),(vb false),ve,(vb false),(vb false),(vb false),ve,(vb false),(vb false),(vb false),ve,(vb false),(vb false),(vb false),ve,(vb false),(vb false),(vb false),ve,(vb false),(vb false),(vb false),ve,(vb false),(vb false),(vb false),ve,(vb false),(vb false),(vb false),ve] 302)) (jE (zeroValue302 _) rfl) ?_))
 intro p1 w1 hn2
 have h:=h p1 w1 hn2
 refine ln (eg (qd (qd (sro (sizeOf302 _) h fun w2 h=>ln (er ?_)))))
 obtain ⟨cT,hv1,h⟩:=h
 refine gg1 results193 (RV.cellAr (A:=p1) (vs:=cT) (by kernel_rfl) (isAgg302 _) (sizeOf302 _) hv1) ⟨cT,rfl,h⟩
def m_I_j3 (aC:ByteArray) (aD:Bool) (a1:Addr) (x2:Bool) (w0:World) (H:NP) (w:World) (K:Int→WP):Prop :=Br x2 (K 110 w) (∃v1,w.cell? (a1.add 2)=some (vb v1)∧Br ((!v1) && aD) (∀H6 w6,Hst w0 H w H6 w6→K 110 w6) (Br (decide ((aC.size:Int)>64)) (∀H6 w6,Hst w0 H w H6 w6→K 1 w6) (∀H6 w6,Hst w0 H w H6 w6→K 0 w6)))
def m_I_j2 (aC:ByteArray) (aD:Bool) (a1:Addr) (x1:Bool) (w0:World) (H:NP) (w:World) (K:Int→WP):Prop :=Br x1 (K 110 w) (∃v2,w.cell? (a1.add 1)=some (vb v2)∧∀H7 w7,Hst w0 H w H7 w7→m_I_j3 aC aD a1 ((!v2) && (!(decide (aC=⟨#[]⟩)))) w0 H7 w7 K)
def m_I_j1 (aB:Int) (aC:ByteArray) (aD:Bool) (a1:Addr) (w0:World) (H:NP) (w:World) (K:Int→WP):Prop :=Br ((aB != 0) && (aB != 1)) (∀H4 w4,Hst w0 H w H4 w4→K 110 w4) (∀H4 w4,Hst w0 H w H4 w4→∃v3,w4.cell? a1=some (vb v3)∧∀H8 w8,Hst w0 H4 w4 H8 w8→m_I_j2 aC aD a1 ((!v3) && (aB != 0)) w0 H8 w8 K)
def m_I (aA aB aE:Int) (aC:ByteArray) (aD:Bool) (w0:World) (K:Int→WP):Prop :=Br ((decide (aA<1)) || (decide (aA>7))) (∀H2 w2,Hst w0 None w0 H2 w2→K 110 w2) (∀H2 w2,Hst w0 None w0 H2 w2→∃C1:WP,C1 w2.drew∧∀w9,w9=w2.drew→(Calls prog 193 #[] w9 (fun e w10=>∃r1:Array Value,e=.returned (.agg r1)∧C1 w10∧Kept H2 w9 w10∧∃efrom1 etext1 efake1 eword1,(∀w',C1 w'→(Instr.index 302 (.agg r1) (vi aA)).run prog w'=.ok (.agg #[(vb efrom1),(vb etext1),(vb efake1),(vs eword1)]) w')∧∀p2 w11,New w10 (.cells #[(vb false),(vb false),(vb false),ve] 301) p2 w11→C1 w11∧(∀j,j<4→jW w11 (p2.add j))∧¬ H2 p2.block∧∀w12,w12=storeRow w11 p2 [(vb efrom1),(vb etext1),(vb efake1),(vs eword1)]→m_I_j1 aB aC aD p2 w0 H2 w12 K))∧(∀p3 w13,New w9 (.cells #[(vb false),(vb false),(vb false),ve] 301) p3 w13→C1 w13∧Calls prog 193 #[] w13 (fun e w14=>∃r2:Array Value,e=.returned (.agg r2)∧C1 w14∧Kept H2 w13 w14∧∃efrom2 etext2 efake2 eword2,(∀w',C1 w'→(Instr.index 302 (.agg r2) (vi aA)).run prog w'=.ok (.agg #[(vb efrom2),(vb etext2),(vb efake2),(vs eword2)]) w')∧(∀j,j<4→jW w14 (p3.add j))∧¬ H2 p3.block∧∀w15,w15=storeRow w14 p3 [(vb efrom2),(vb etext2),(vb efake2),(vs eword2)]→m_I_j1 aB aC aD p3 w0 H2 w15 K)))
theorem w_I (aA aB aE aC aD w0 K) (h:m_I aA aB aE aC aD w0 K):
  Calls prog 142 #[(.agg #[(vi aA),(vi aB),(vu aE),(vs aC),(vb aD)])] w0 (fun e w'=>∃r3,e=.returned (vi r3)∧K r3 w'):=by
 refine cw (args:=[(Ad aA aB aE aC aD)]) func142 ntmps142 ?_
 obtain ⟨hs,hb⟩:=st0 w0
 refine eg (nw3 (Aa aA aB aE aC aD) 35 hs hb xb fun p1 w1 H1 hs hb=>q (ln (jA (jA (vQ (fun ρ wJ=>∃b1'0:Bool,∃HJ:NP,((decide (aA<1))=b1'0)∧Hst w0 None w0 HJ wJ∧HB HJ wJ [(p1,(Aa aA aB aE aC aD),35)]∧Has ρ [(1,(vp (some p1))),(11,(vb (b1'0 || (decide (aA>7)))))]) ?_ ?_)))))
 refine rg (q (q3 (xl (isAgg3 _) (hb.d0 0 gZ)) (qb ?_)))
 rcases bte (decide (aA<1)) with hg2 | hg2
 refine sj3 7 hg2 (q2 (vb true) (xT hg2) (ln ⟨true,_,hg2,hs,hb,hm⟩))
 refine qk 7 hg2 (q4 7 hg2 (xl (isAgg3 _) (hb.d0 0 gZ)) (qk 7 hg2 (q2 (vb (decide (aA>7))) (xF hg2) (ln ⟨false,_,hg2,hs,hb,hm⟩))))
 rintro ρ w2 ⟨b1'0,H2,he0,hs,hb,hH⟩
 subst he0
 refine kO hH (jK (cbr h ?_ ?_))<;>intro h
 refine eg (q (ln (er (jY ?_))))
 have ⟨h,hs⟩:=hs.hr (h H2 w2)
 refine rs1 results142 ⟨110,rfl,h⟩
 refine jB (jK (jA (vF (fun ρ w=>∃a1:Addr,∃H:NP,Has ρ [(1,(vp (some p1))),(3,(vp (some a1)))]∧Hst w0 H w H w∧HB H w [(p1,(Aa aA aB aE aC aD),35)]∧m_I_j1 aB aC aD a1 w0 H w K) ?_ ?_)))
 rintro ρ w ⟨a1,H,hH,hs,hb,h⟩
 refine jQ hH (jA (jH (jA (jA (vQ (fun ρ wJ=>∃HJ:NP,Hst w0 H w HJ wJ∧HB HJ wJ [(p1,(Aa aA aB aE aC aD),35)]∧Has ρ [(1,(vp (some p1))),(3,(vp (some a1))),(16,(vb ((aB != 0) && (aB != 1))))]) ?_ ?_)))))
 refine rg (q (q3 (xl (isAgg3 _) (hb.d 0 1 gZ)) (qb (jP 4 (fun ρ wJ=>∃b4'0:Bool,∃HJ:NP,((aB != 0)=b4'0)∧Hst w0 H w HJ wJ∧HB HJ wJ [(p1,(Aa aA aB aE aC aD),35)]∧Has ρ [(1,(vp (some p1))),(3,(vp (some a1))),(24,(vb (b4'0 && (aB != 1))))]) ?_ ?_))))
 rintro ρ w5 ⟨b4'0,H5,he0,hs,hb,hH⟩
 subst he0
 refine jX hH (q (ln ⟨_,hs,hb,hm⟩))
 rcases bte (aB != 0) with hg6 | hg6
 refine qk 20 hg6 (q4 20 hg6 (xl (isAgg3 _) (hb.d 0 1 gZ)) (qk 20 hg6 (q2 (vb (aB != 1)) (xT hg6) (jD ⟨true,_,hg6,hs,hb,hm⟩))))
 refine sj3 20 hg6 (q2 (vb false) (xF hg6) (jD ⟨false,_,hg6,hs,hb,hm⟩))
 rintro ρ w4 ⟨H4,hs,hb,hH⟩
 refine kO hH (jK (cbr' h (fun hc2 h=>?_) (fun hc2 h=>?_)))
 refine jB (jK (qU (t:=((aB != 0) && (aB != 1))) (by kernel_rfl) hc2 (eg (q0 (vi 110) (ln (er (vB (jY ?_))))))))
 have ⟨h,hs⟩:=hs.hr (h H4 w4)
 refine rs1 results142 ⟨110,rfl,h⟩
 refine jA (vF (fun ρ w=>∃x1,∃H:NP,Has ρ [(1,(vp (some p1))),(3,(vp (some a1))),(16,(vb x1))]∧Hst w0 H w H w∧HB H w [(p1,(Aa aA aB aE aC aD),35)]∧m_I_j2 aC aD a1 x1 w0 H w K) ?_ ?_)
 rintro ρ w ⟨x1,H,hH,hs,hb,h⟩
 refine jQ hH (cbr' h (fun hc3 h=>?_) (fun hc3 h=>?_))
 refine jB (jK (qU (t:=x1) (by kernel_rfl) hc3 (eg (q0 (vi 110) (ln (er (vB (jY (rs1 results142 ⟨110,rfl,h⟩)))))))))
 refine jA (vF (fun ρ w=>∃x2,∃H:NP,Has ρ [(1,(vp (some p1))),(3,(vp (some a1))),(16,(vb x2))]∧Hst w0 H w H w∧HB H w [(p1,(Aa aA aB aE aC aD),35)]∧m_I_j3 aC aD a1 x2 w0 H w K) ?_ ?_)
 rintro ρ w ⟨x2,H,hH,hs,hb,h⟩
 refine jQ hH (cbr' h (fun hc4 h=>?_) (fun hc4 h=>?_))
 refine jB (jK (qU (t:=x2) (by kernel_rfl) hc4 (eg (q0 (vi 110) (ln (er (vB (jY (rs1 results142 ⟨110,rfl,h⟩)))))))))
 refine rg (q (ql (isAgg4 _) h fun v1 h=>qb (jP 3 (fun ρ wJ=>∃b5'0:Bool,∃HJ:NP,((!v1)=b5'0)∧Hst w0 H w HJ wJ∧HB HJ wJ [(p1,(Aa aA aB aE aC aD),35)]∧Has ρ [(1,(vp (some p1))),(47,(vb (b5'0 && aD)))]) ?_ ?_)))
 rintro ρ w6 ⟨b5'0,H6,he0,hs,hb,hH⟩
 subst he0
 refine jX hH (q (ln (cbr h ?_ ?_)))<;>intro h
 refine eg (q (ln (er (vB (jY ?_)))))
 have ⟨h,hs⟩:=hs.hr (h H6 w6)
 refine rs1 results142 ⟨110,rfl,h⟩
 refine eg (q (q3 (xl (isAgg9 _) (hb.d 0 3 gZ)) (qc (ln (cbr h ?_ ?_)))))<;>intro h
 refine eg (q (ln (er (vB (jY ?_)))))
 have ⟨h,hs⟩:=hs.hr (h H6 w6)
 refine rs1 results142 ⟨1,rfl,h⟩
 refine jB (vS (jK (eg (q (ln (er ?_))))))
 have ⟨h,hs⟩:=hs.hr (h H6 w6)
 refine rs1 results142 ⟨0,rfl,h⟩
 rcases bte (!v1) with hg8 | hg8
 refine qk 44 hg8 (q4 44 hg8 (xl (isAgg4 _) (hb.d 0 4 gZ)) (q2 (vb aD) (xT hg8) (jD ⟨true,_,hg8,hs,hb,hm⟩)))
 refine sj2 44 hg8 (q2 (vb false) (xF hg8) (jD ⟨false,_,hg8,hs,hb,hm⟩))
 refine rg (q (ql (isAgg4 _) h fun v2 h=>qb (jP 4 (fun ρ wJ=>∃b6'0:Bool,∃HJ:NP,((!v2)=b6'0)∧Hst w0 H w HJ wJ∧HB HJ wJ [(p1,(Aa aA aB aE aC aD),35)]∧Has ρ [(1,(vp (some p1))),(3,(vp (some a1))),(40,(vb (b6'0 && (!(decide (aC=⟨#[]⟩))))))]) ?_ ?_)))
 rintro ρ w7 ⟨b6'0,H7,he0,hs,hb,hH⟩
 subst he0
 refine jX hH (q (jD ?_))
 have ⟨h,hs⟩:=hs.hr (h H7 w7)
 refine jK ⟨((!v2) && (!(decide (aC=⟨#[]⟩)))),H7,hm,hs,hb,h⟩
 rcases bte (!v2) with hg10 | hg10
 refine qk 36 hg10 (q4 36 hg10 (xl (isAgg9 _) (hb.d 0 3 gZ)) (stq (v:=(vb (!(decide (aC=⟨#[]⟩))))) (wy 36 hg10) (vK (by kernel_rfl) (by kernel_rfl)) (q2 (vb (!(decide (aC=⟨#[]⟩)))) (xT hg10) (jD ⟨true,_,hg10,hs,hb,hm⟩))))
 refine sj3 36 hg10 (q2 (vb false) (xF hg10) (jD ⟨false,_,hg10,hs,hb,hm⟩))
 refine rg (q ?_)
 have ⟨h,hs⟩:=hs.hr (h H4 w4)
 refine ql (isAgg4 _) h fun v3 h=>qb (jP 4 (fun ρ wJ=>∃b7'0:Bool,∃HJ:NP,((!v3)=b7'0)∧Hst w0 H4 w4 HJ wJ∧HB HJ wJ [(p1,(Aa aA aB aE aC aD),35)]∧Has ρ [(1,(vp (some p1))),(3,(vp (some a1))),(32,(vb (b7'0 && (aB != 0))))]) ?_ ?_)
 rintro ρ w8 ⟨b7'0,H8,he0,hs,hb,hH⟩
 subst he0
 refine jX hH (q (jD ?_))
 have ⟨h,hs⟩:=hs.hr (h H8 w8)
 refine jK ⟨((!v3) && (aB != 0)),H8,hm,hs,hb,h⟩
 rcases bte (!v3) with hg12 | hg12
 refine qk 28 hg12 (q4 28 hg12 (xl (isAgg3 _) (hb.d 0 1 gZ)) (qk 28 hg12 (q2 (vb (aB != 0)) (xT hg12) (jD ⟨true,_,hg12,hs,hb,hm⟩))))
 refine sj3 28 hg12 (q2 (vb false) (xF hg12) (jD ⟨false,_,hg12,hs,hb,hm⟩))
 have ⟨h,hs⟩:=hs.hr (h H2 w2)
 obtain ⟨C1,hC,h⟩:=h
 refine dr2 (fun x=>C1 x∧HB H2 x _) [0,4,5] [5] ⟨hC,hb.drew⟩ h hs hb fun w9 hs hb h=>?_
 have hs:=hs.here
 refine qx 1 (vp (some p1)) Kp1 (qz 2 (vi aA) Kp2 (fun w' hw'=>(xl (isAgg3 _) (hw'.2.cell0 0 gZ (by kernel_rfl)))) (jDV (k:=0) (k':=4) (by kernel_rfl) ?_ ?_))
 have h:=h.1
 refine slc Kp0 call193 (h.mono ?_)
 rintro e w10 ⟨r1,rfl,hC,hk,h⟩
 refine ⟨_,rfl,.inr ⟨hC,hb.kept hk⟩,?_⟩
 obtain ⟨hs,hb⟩:=hk.hh hs hb
 refine qg 3 ?_
 obtain ⟨efrom1,etext1,efake1,eword1,hv4,h⟩:=h
 refine sy (v:=(.agg #[(vb efrom1),(vb etext1),(vb efake1),(vs eword1)])) Kp3 (fun w' hw'=>(tT (by kernel_rfl) (by kernel_rfl) (hv4 w' hw'.1))) (lg 4 (zI (O:=(.cells #[(vb false),(vb false),(vb false),ve] 301)) (fun p=>.pointer (some p)) Kp4 (jL rfl) (by kernel_rfl) (jE (zeroValue301 _) rfl) ?_))
 intro p2 w11 hn3
 have h:=h p2 w11 hn3
 refine ⟨.inr ⟨h.1,hb.kept (Ext.new (F:=None) hn3).keptP⟩,?_⟩
 have h:=h.2
 obtain ⟨hs,hb⟩:=hs.nw hb hn3
 refine lg 5 ?_
 obtain ⟨hp1,hnh,h⟩:=h
 refine vG Kp5 (jL rfl) (by kernel_rfl) (xo p2 [(vb efrom1),(vb etext1),(vb efake1),(vs eword1)] (sizeOf301 _) hp1) ?_
 intro w12 hn2
 have h:=h w12 hn2
 refine ⟨.inl (by kernel_rfl),?_⟩
 have hk:Kept H2 w11 w12:=by rw [hn2];exact Kept.storeRow hnh
 obtain ⟨hs,hb⟩:=hk.hh hs hb
 refine wn (jK ⟨p2,H2,hm,hs,hb,h⟩)
 have h:=h.2
 refine zI (O:=(.cells #[(vb false),(vb false),(vb false),ve] 301)) (fun p=>.pointer (some p)) Kp4 (jL rfl) (by kernel_rfl) (jE (zeroValue301 _) rfl) ?_
 intro p3 w13 hn5
 have h:=h p3 w13 hn5
 refine ⟨.inr ⟨h.1,hb.kept (Ext.new (F:=None) hn5).keptP⟩,?_⟩
 have h:=h.2
 obtain ⟨hs,hb⟩:=hs.nw hb hn5
 refine lg 0 (slc Kp0 call193 (h.mono ?_))
 rintro e w14 ⟨r2,rfl,hC,hk,h⟩
 refine ⟨_,rfl,.inr ⟨hC,hb.kept hk⟩,?_⟩
 obtain ⟨hs,hb⟩:=hk.hh hs hb
 refine qg 3 ?_
 obtain ⟨efrom2,etext2,efake2,eword2,hv5,h⟩:=h
 refine sy (v:=(.agg #[(vb efrom2),(vb etext2),(vb efake2),(vs eword2)])) Kp3 (fun w' hw'=>(tT (by kernel_rfl) (by kernel_rfl) (hv5 w' hw'.1))) (lg 5 ?_)
 obtain ⟨hp2,hnh,h⟩:=h
 refine vG Kp5 (jL rfl) (by kernel_rfl) (xo p3 [(vb efrom2),(vb etext2),(vb efake2),(vs eword2)] (sizeOf301 _) hp2) ?_
 intro w15 hn4
 have h:=h w15 hn4
 refine ⟨.inl (by kernel_rfl),?_⟩
 have hk:Kept H2 w14 w15:=by rw [hn4];exact Kept.storeRow hnh
 obtain ⟨hs,hb⟩:=hk.hh hs hb
 refine wn (jK ⟨p3,H2,hm,hs,hb,h⟩)
def s_L (s1:ByteArray):Int×Int×Int×Int×ByteArray×Sl :=(3,0,0,0,s1,Sl.nil)
theorem pw_L (s1:ByteArray) (w0:World) :
  Calls prog 198 #[(vs s1)] w0 (fun e w'=>(e=.returned (.agg #[(vi 3),(vi 0),(vi 0),(vu 0),(vs s1),Sl.nil.v]))∧Pure w0 w'):=by
 refine cw (args:=[(vs s1)]) func198 ntmps198 ?_
 obtain ⟨hs,hb⟩:=st0 w0
 refine eg (nw3 [(vi 0),(vi 0),(vi 0),(vu 0),ve,Sl.nil.v] 107 hs hb (jE (zeroValue107 _) rfl) fun p1 w1 H1 hs hb=>ln (eg (qb (qF (jL rfl) (xo p1 [(vi 3),(vi 0),(vi 0),(vu 0),(vs s1),Sl.nil.v] (sizeOf107 _) (hb.k0 0 6 gZ)) ?_))))
 intro w2 hn2
 obtain ⟨hs,hb⟩:=hb.st1 0 hs hn2 gZ
 refine ln (er (xD (.inl rfl) (vs:=[(.agg #[(vi 3),(vi 0),(vi 0),(vu 0),(vs s1),Sl.nil.v])]) (v:=(.agg #[(vi 3),(vi 0),(vi 0),(vu 0),(vs s1),Sl.nil.v])) results198 ⟨(rva (isAgg107 _) (sizeOf107 _) (hb.r0 0 6 gZ)),trivial⟩ (by kernel_rfl) ⟨by kernel_rfl,(Ext.refl (F:=None) _).hst hs⟩))
theorem p_L (s1:ByteArray) (w0:World):Calls prog 198 #[(.string s1)] w0 (fun e w'=>e=.returned (.agg #[(.int .i64 (s_L s1).1),(.int .i64 (s_L s1).2.1),(.int .i64 (s_L s1).2.2.1),(.int .u64 (s_L s1).2.2.2.1),(.string (s_L s1).2.2.2.2.1),(s_L s1).2.2.2.2.2.v])∧Pure w0 w'):=pw_L s1 w0
def s_Q (n1:Int):Int×Int×Int×Int×ByteArray×Sl :=(2,0,0,n1,⟨#[]⟩,Sl.nil)
theorem pw_Q (n1:Int) (w0:World) :
  Calls prog 199 #[(vu n1)] w0 (fun e w'=>(e=.returned (.agg #[(vi 2),(vi 0),(vi 0),(vu n1),ve,Sl.nil.v]))∧Pure w0 w'):=by
 refine cw (args:=[(vu n1)]) func199 ntmps199 ?_
 obtain ⟨hs,hb⟩:=st0 w0
 refine eg (nw3 [(vi 0),(vi 0),(vi 0),(vu 0),ve,Sl.nil.v] 107 hs hb (jE (zeroValue107 _) rfl) fun p1 w1 H1 hs hb=>ln (eg (qb (qF (jL rfl) (xo p1 [(vi 2),(vi 0),(vi 0),(vu n1),ve,Sl.nil.v] (sizeOf107 _) (hb.k0 0 6 gZ)) ?_))))
 intro w2 hn2
 obtain ⟨hs,hb⟩:=hb.st1 0 hs hn2 gZ
 refine ln (er (xD (.inl rfl) (vs:=[(.agg #[(vi 2),(vi 0),(vi 0),(vu n1),ve,Sl.nil.v])]) (v:=(.agg #[(vi 2),(vi 0),(vi 0),(vu n1),ve,Sl.nil.v])) results199 ⟨(rva (isAgg107 _) (sizeOf107 _) (hb.r0 0 6 gZ)),trivial⟩ (by kernel_rfl) ⟨by kernel_rfl,(Ext.refl (F:=None) _).hst hs⟩))
theorem p_Q (n1:Int) (w0:World):Calls prog 199 #[(.int .u64 n1)] w0 (fun e w'=>e=.returned (.agg #[(.int .i64 (s_Q n1).1),(.int .i64 (s_Q n1).2.1),(.int .i64 (s_Q n1).2.2.1),(.int .u64 (s_Q n1).2.2.2.1),(.string (s_Q n1).2.2.2.2.1),(s_Q n1).2.2.2.2.2.v])∧Pure w0 w'):=pw_Q n1 w0
def m_Q2 (aL aM:Int) (aN aO:Int) (aP:ByteArray) (aQ:Sl) (bJ bK:Int) (bL bM:Int) (bN:ByteArray) (bO:Sl) (w0:World) (K:Int→Int→Int→Int→ByteArray→Sl→WP):Prop :=∀H3 w3,Hst w0 None w0 H3 w3→∀p4 w4,New w3 (.cells #[(vi aL),(vi aM),(vi aN),(vu aO),(vs aP),aQ.v,(vi bJ),(vi bK),(vi bL),(vu bM),(vs bN),bO.v] 107) p4 w4→∀w5,Hst w0 H3 w4 H3 w5→K 4 0 0 0 ⟨#[]⟩ (Sl.mk (some p4) 2 2) w5
theorem w_Q2 (aL aM aN aO aP aQ bJ bK bL bM bN bO w0 K) (h:m_Q2 aL aM aN aO aP aQ bJ bK bL bM bN bO w0 K):
  Calls prog 197 #[(.agg #[(vi aL),(vi aM),(vi aN),(vu aO),(vs aP),aQ.v]),(.agg #[(vi bJ),(vi bK),(vi bL),(vu bM),(vs bN),bO.v])] w0 (fun e w'=>∃aF aG aH aI aJ aK,e=.returned (Ab aF aG aH aI aJ aK)∧K aF aG aH aI aJ aK w'):=by
 refine cw (args:=[(Ab aL aM aN aO aP aQ),(Ab bJ bK bL bM bN bO)]) func197 ntmps197 ?_
 obtain ⟨hs,hb⟩:=st0 w0
 refine eg (nw3 (Ah aL aM aN aO aP aQ) 107 hs hb xb fun p1 w1 H1 hs hb=>nw3 (Ah bJ bK bL bM bN bO) 107 hs hb xb fun p2 w2 H2 hs hb=>nw3 [(vi 0),(vi 0),(vi 0),(vu 0),ve,Sl.nil.v] 107 hs hb (jE (zeroValue107 _) rfl) fun p3 w3 H3 hs hb=>ln (eg (q2 (Ab aL aM aN aO aP aQ) (xa p1 (Ah aL aM aN aO aP aQ) (isAgg107 _) (sizeOf107 _) (hb.r0 2 6 (gS (gS gZ)))) (q2 (Ab bJ bK bL bM bN bO) (xa p2 (Ah bJ bK bL bM bN bO) (isAgg107 _) (sizeOf107 _) (hb.r0 1 6 (gS gZ))) ?_))))
 have ⟨h,hs⟩:=hs.hr (h H3 w3)
 refine nw5 (fun p=>(Sl.mk (some p) 2 2).v) hs hb h fun p4 w4 hs hb h=>q (qF (jL rfl) (xo p3 [(vi 4),(vi 0),(vi 0),(vu 0),ve,(Sl.mk (some p4) 2 2).v] (sizeOf107 _) (hb.k0 0 6 gZ)) ?_)
 intro w5 hn4
 obtain ⟨hs,hb⟩:=hb.st1 0 hs hn4 gZ
 refine ln (er ?_)
 have ⟨h,hs⟩:=hs.hr (h w5)
 refine xD (.inl rfl) (vs:=[(.agg #[(vi 4),(vi 0),(vi 0),(vu 0),ve,(Sl.mk (some p4) 2 2).v])]) (v:=(.agg #[(vi 4),(vi 0),(vi 0),(vu 0),ve,(Sl.mk (some p4) 2 2).v])) results197 ⟨(rva (isAgg107 _) (sizeOf107 _) (hb.r0 0 6 gZ)),trivial⟩ (by kernel_rfl) ⟨4,0,0,0,⟨#[]⟩,(Sl.mk (some p4) 2 2),rfl,h⟩
def m_R2 (c1:Int) (text1:ByteArray) (w0:World) (K:Int→Int→Int→Int→ByteArray→Sl→WP):Prop :=∀H1 w4,Hst w0 None w0 H1 w4→Calls prog 197 #[(.agg #[(vi 2),(vi 0),(vi 0),(vu c1),ve,Sl.nil.v]),(.agg #[(vi 3),(vi 0),(vi 0),(vu 0),(vs text1),Sl.nil.v])] w4 (fun e w5=>∃aF aG aH aI aJ aK,e=.returned (Ab aF aG aH aI aJ aK)∧Kept H1 w4 w5∧Calls prog 197 #[(.agg #[(vi 3),(vi 0),(vi 0),(vu 0),(vs (⟨#[100,101,97,108]⟩:ByteArray)),Sl.nil.v]),(.agg #[(vi aF),(vi aG),(vi aH),(vu aI),(vs aJ),aK.v])] w5 (fun e w6=>∃aR aS aT aU aV aW,e=.returned (Ab aR aS aT aU aV aW)∧Kept H1 w5 w6∧∀w7,Hst w0 H1 w6 H1 w7→K aR aS aT aU aV aW w7))
theorem w_R2 (c1 text1 w0 K) (h:m_R2 c1 text1 w0 K):
  Calls prog 194 #[(vu c1),(vs text1)] w0 (fun e w'=>∃aX aY aZ bA bB bC,e=.returned (Ab aX aY aZ bA bB bC)∧K aX aY aZ bA bB bC w'):=by
 refine cw (args:=[(vu c1),(vs text1)]) func194 ntmps194 ?_
 obtain ⟨hs,hb⟩:=st0 w0
 refine eg (nw3 [(vi 0),(vi 0),(vi 0),(vu 0),ve,Sl.nil.v] 107 hs hb (jE (zeroValue107 _) rfl) fun p1 w1 H1 hs hb=>ln (eg (sc call198 ((p_L (⟨#[100,101,97,108]⟩:ByteArray) w1).mono ?_))))
 rintro e w2 ⟨he,hE⟩
 refine ⟨_,he,?_⟩
 obtain ⟨hs,hb⟩:=hs.pp hb hE
 refine q (sc call199 ((p_Q c1 w2).mono ?_))
 rintro e w3 ⟨he,hE⟩
 refine ⟨_,he,?_⟩
 obtain ⟨hs,hb⟩:=hs.pp hb hE
 refine q (sc call198 ((p_L text1 w3).mono ?_))
 rintro e w4 ⟨he,hE⟩
 refine ⟨_,he,?_⟩
 obtain ⟨hs,hb⟩:=hs.pp hb hE
 have ⟨h,hs⟩:=hs.hr (h H1 w4)
 refine sc call197 (h.mono fun e w5 ⟨aF,aG,aH,aI,aJ,aK,k,hk,h⟩=>have ⟨hs,hb⟩:=hk.hh hs hb;⟨_,k,?_⟩)
 refine sc call197 (h.mono fun e w6 ⟨aR,aS,aT,aU,aV,aW,k,hk,h⟩=>have ⟨hs,hb⟩:=hk.hh hs hb;⟨_,k,?_⟩)
 refine sbx 0 (Ah aR aS aT aU aV aW) (sizeOf107 _) hs hb gZ fun w7 hs hb=>ln (er ?_)
 have ⟨h,hs⟩:=hs.hr (h w7)
 refine xD (.inl rfl) (vs:=[(Ab aR aS aT aU aV aW)]) (v:=(Ab aR aS aT aU aV aW)) results194 ⟨(rva (isAgg107 _) (sizeOf107 _) (hb.r0 0 6 gZ)),trivial⟩ (by kernel_rfl) ⟨aR,aS,aT,aU,aV,aW,rfl,h⟩
def m_S2 (from1:Int) (fake1:Bool) (bD bE:Int) (bF bG:Int) (bH:ByteArray) (bI:Sl) (w0:World) (K:Int→Int→Int→Int→ByteArray→Sl→WP):Prop :=∀H3 w3,Hst w0 None w0 H3 w3→∀p3 w4,New w3 (.cells #[(vi bD),(vi bE),(vi bF),(vu bG),(vs bH),bI.v] 107) p3 w4→∀w5,Hst w0 H3 w4 H3 w5→K (cond fake1 9 8) from1 (q6.wrap (1 - from1)) 0 ⟨#[]⟩ (Sl.mk (some p3) 1 1) w5
theorem w_S2 (from1 fake1 bD bE bF bG bH bI w0 K) (h:m_S2 from1 fake1 bD bE bF bG bH bI w0 K):
  Calls prog 195 #[(vi from1),(vb fake1),(.agg #[(vi bD),(vi bE),(vi bF),(vu bG),(vs bH),bI.v])] w0 (fun e w'=>∃aF aG aH aI aJ aK,e=.returned (Ab aF aG aH aI aJ aK)∧K aF aG aH aI aJ aK w'):=by
 refine cw (args:=[(vi from1),(vb fake1),(Ab bD bE bF bG bH bI)]) func195 ntmps195 ?_
 obtain ⟨hs,hb⟩:=st0 w0
 refine eg (nw3 (Ah bD bE bF bG bH bI) 107 hs hb xb fun p1 w1 H1 hs hb=>nw3 [(vi 0),(vi 0),(vi 0),(vu 0),ve,Sl.nil.v] 107 hs hb (jE (zeroValue107 _) rfl) fun p2 w2 H2 hs hb=>ln (eg (q (ln (jA (eg (q (jD (jK (vQ (fun ρ wJ=>∃b1'0:Bool,∃HJ:NP,(fake1=b1'0)∧Hst w0 None w0 HJ wJ∧HB HJ wJ [(p2,[(vi 0),(vi 0),(vi 0),(vu 0),ve,Sl.nil.v],107),(p1,(Ah bD bE bF bG bH bI),107)]∧Has ρ [(0,(vi from1)),(5,(vp (some p1))),(6,(vp (some p2))),(7,(vi (cond b1'0 9 8)))]) ?_ ?_))))))))))
 refine zQ (t:=fake1) (by kernel_rfl) (fun hc2=>?_) (fun hc2=>?_)
 refine rg (q (ln ⟨true,_,hc2,hs,hb,hm⟩))
 refine jB (jK ⟨false,_,hc2,hs,hb,hm⟩)
 rintro ρ w3 ⟨b1'0,H3,he0,hs,hb,hH⟩
 subst he0
 refine kO hH (jK (eg (qd (q2 (Ab bD bE bF bG bH bI) (xa p1 (Ah bD bE bF bG bH bI) (isAgg107 _) (sizeOf107 _) (hb.r0 1 6 (gS gZ))) ?_))))
 have ⟨h,hs⟩:=hs.hr (h H3 w3)
 refine nw5 (fun p=>(Sl.mk (some p) 1 1).v) hs hb h fun p3 w4 hs hb h=>q (qF (jL rfl) (xo p2 [(vi (cond fake1 9 8)),(vi from1),(vi (q6.wrap (1 - from1))),(vu 0),ve,(Sl.mk (some p3) 1 1).v] (sizeOf107 _) (hb.k0 0 6 gZ)) ?_)
 intro w5 hn3
 obtain ⟨hs,hb⟩:=hb.st1 0 hs hn3 gZ
 refine ln (er ?_)
 have ⟨h,hs⟩:=hs.hr (h w5)
 refine xD (.inl rfl) (vs:=[(.agg #[(vi (cond fake1 9 8)),(vi from1),(vi (q6.wrap (1 - from1))),(vu 0),ve,(Sl.mk (some p3) 1 1).v])]) (v:=(.agg #[(vi (cond fake1 9 8)),(vi from1),(vi (q6.wrap (1 - from1))),(vu 0),ve,(Sl.mk (some p3) 1 1).v])) results195 ⟨(rva (isAgg107 _) (sizeOf107 _) (hb.r0 0 6 gZ)),trivial⟩ (by kernel_rfl) ⟨(cond fake1 9 8),from1,(q6.wrap (1 - from1)),0,⟨#[]⟩,(Sl.mk (some p3) 1 1),rfl,h⟩
def m_T2 (who1 aL:Int) (aM aN aO:Int) (aP:ByteArray) (aQ:Sl) (w0:World) (K:Int→Int→Int→Int→ByteArray→Sl→WP):Prop :=∀H2 w2,Hst w0 None w0 H2 w2→∀p3 w3,New w2 (.cells #[(vi aL),(vi aM),(vi aN),(vu aO),(vs aP),aQ.v] 107) p3 w3→∀w4,Hst w0 H2 w3 H2 w4→K 7 who1 0 0 ⟨#[]⟩ (Sl.mk (some p3) 1 1) w4
theorem w_T2 (who1 aL aM aN aO aP aQ w0 K) (h:m_T2 who1 aL aM aN aO aP aQ w0 K):
  Calls prog 196 #[(vi who1),(.agg #[(vi aL),(vi aM),(vi aN),(vu aO),(vs aP),aQ.v])] w0 (fun e w'=>∃aF aG aH aI aJ aK,e=.returned (Ab aF aG aH aI aJ aK)∧K aF aG aH aI aJ aK w'):=by
 refine cw (args:=[(vi who1),(Ab aL aM aN aO aP aQ)]) func196 ntmps196 ?_
 obtain ⟨hs,hb⟩:=st0 w0
 refine eg (nw3 (Ah aL aM aN aO aP aQ) 107 hs hb xb fun p1 w1 H1 hs hb=>nw3 [(vi 0),(vi 0),(vi 0),(vu 0),ve,Sl.nil.v] 107 hs hb (jE (zeroValue107 _) rfl) fun p2 w2 H2 hs hb=>ln (eg (q (q2 (Ab aL aM aN aO aP aQ) (xa p1 (Ah aL aM aN aO aP aQ) (isAgg107 _) (sizeOf107 _) (hb.r0 1 6 (gS gZ))) ?_))))
 have ⟨h,hs⟩:=hs.hr (h H2 w2)
 refine nw5 (fun p=>(Sl.mk (some p) 1 1).v) hs hb h fun p3 w3 hs hb h=>q (qF (jL rfl) (xo p2 [(vi 7),(vi who1),(vi 0),(vu 0),ve,(Sl.mk (some p3) 1 1).v] (sizeOf107 _) (hb.k0 0 6 gZ)) ?_)
 intro w4 hn3
 obtain ⟨hs,hb⟩:=hb.st1 0 hs hn3 gZ
 refine ln (er ?_)
 have ⟨h,hs⟩:=hs.hr (h w4)
 refine xD (.inl rfl) (vs:=[(.agg #[(vi 7),(vi who1),(vi 0),(vu 0),ve,(Sl.mk (some p3) 1 1).v])]) (v:=(.agg #[(vi 7),(vi who1),(vi 0),(vu 0),ve,(Sl.mk (some p3) 1 1).v])) results196 ⟨(rva (isAgg107 _) (sizeOf107 _) (hb.r0 0 6 gZ)),trivial⟩ (by kernel_rfl) ⟨7,who1,0,0,⟨#[]⟩,(Sl.mk (some p3) 1 1),rfl,h⟩
def m_U2 (aA aB aE:Int) (aC:ByteArray) (aD:Bool) (w0:World) (K:Int→Int→Int→Int→ByteArray→Sl→WP):Prop :=∀H2 w2,Hst w0 None w0 H2 w2→Calls prog 194 #[(vu aE),(vs aC)] w2 (fun e w3=>∃aF aG aH aI aJ aK,e=.returned (Ab aF aG aH aI aJ aK)∧Kept H2 w2 w3∧Br (aA == 1) (∀H3 w5,Hst w0 H2 w3 H3 w5→Calls prog 195 #[(vi aB),(vb aD),(.agg #[(vi aF),(vi aG),(vi aH),(vu aI),(vs aJ),aK.v])] w5 (fun e w6=>∃aR aS aT aU aV aW,e=.returned (Ab aR aS aT aU aV aW)∧Kept H3 w5 w6∧∀w7,Hst w0 H3 w6 H3 w7→K aR aS aT aU aV aW w7)) (Br (aA == 2) (∀H3 w5,Hst w0 H2 w3 H3 w5→Calls prog 196 #[(vi aB),(.agg #[(vi aF),(vi aG),(vi aH),(vu aI),(vs aJ),aK.v])] w5 (fun e w8=>∃aX aY aZ bA bB bC,e=.returned (Ab aX aY aZ bA bB bC)∧Kept H3 w5 w8∧∀w9,Hst w0 H3 w8 H3 w9→K aX aY aZ bA bB bC w9)) (Br (aA == 3) (∀H3 w5,Hst w0 H2 w3 H3 w5→∃C1:WP,C1 w5.drew∧∀w10,w10=w5.drew→Calls prog 198 #[(vs (⟨#[97,98,111,114,116]⟩:ByteArray))] w10 (fun e w11=>∃cU cV cW cX cY cZ,e=.returned (Ab cU cV cW cX cY cZ)∧C1 w11∧Kept H3 w10 w11∧Calls prog 199 #[(vu aE)] w11 (fun e w12=>∃dA dB dC dD dE dF,e=.returned (Ab dA dB dC dD dE dF)∧Kept H3 w11 w12∧Calls prog 197 #[(.agg #[(vi cU),(vi cV),(vi cW),(vu cX),(vs cY),cZ.v]),(.agg #[(vi dA),(vi dB),(vi dC),(vu dD),(vs dE),dF.v])] w12 (fun e w13=>∃dG dH dI dJ dK dL,e=.returned (Ab dG dH dI dJ dK dL)∧Kept H3 w12 w13∧Calls prog 196 #[(vi 0),(.agg #[(vi dG),(vi dH),(vi dI),(vu dJ),(vs dK),dL.v])] w13 (fun e w14=>∃bP bQ bR bS bT bU,e=.returned (Ab bP bQ bR bS bT bU)∧Kept H3 w13 w14∧∀w15,Hst w0 H3 w14 H3 w15→K bP bQ bR bS bT bU w15))))) (Br (aA == 4) (∀H3 w5,Hst w0 H2 w3 H3 w5→∃C2:WP,C2 w5.drew∧∀w16,w16=w5.drew→Calls prog 198 #[(vs (⟨#[114,101,115,111,108,118,101]⟩:ByteArray))] w16 (fun e w17=>∃dM dN dO dP dQ dR,e=.returned (Ab dM dN dO dP dQ dR)∧C2 w17∧Kept H3 w16 w17∧Calls prog 195 #[(vi 0),(vb aD),(.agg #[(vi aF),(vi aG),(vi aH),(vu aI),(vs aJ),aK.v])] w17 (fun e w18=>∃dS dT dU dV dW dX,e=.returned (Ab dS dT dU dV dW dX)∧C2 w18∧Kept H3 w17 w18∧Calls prog 195 #[(vi 1),(vb aD),(.agg #[(vi aF),(vi aG),(vi aH),(vu aI),(vs aJ),aK.v])] w18 (fun e w19=>∃dY dZ eA eB eC eD,e=.returned (Ab dY dZ eA eB eC eD)∧C2 w19∧Kept H3 w18 w19∧Calls prog 197 #[(.agg #[(vi dS),(vi dT),(vi dU),(vu dV),(vs dW),dX.v]),(.agg #[(vi dY),(vi dZ),(vi eA),(vu eB),(vs eC),eD.v])] w19 (fun e w20=>∃eE eF eG eH eI eJ,e=.returned (Ab eE eF eG eH eI eJ)∧C2 w20∧Kept H3 w19 w20∧Calls prog 197 #[(.agg #[(vi dM),(vi dN),(vi dO),(vu dP),(vs dQ),dR.v]),(.agg #[(vi eE),(vi eF),(vi eG),(vu eH),(vs eI),eJ.v])] w20 (fun e w21=>∃eK eL eM eN eO eP,e=.returned (Ab eK eL eM eN eO eP)∧C2 w21∧Kept H3 w20 w21∧Calls prog 196 #[(vi aB),(.agg #[(vi eK),(vi eL),(vi eM),(vu eN),(vs eO),eP.v])] w21 (fun e w22=>∃bV bW bX bY bZ cA,e=.returned (Ab bV bW bX bY bZ cA)∧Kept H3 w21 w22∧∀w23,Hst w0 H3 w22 H3 w23→K bV bW bX bY bZ cA w23))))))) (Br (aA == 5) (∀H3 w5,Hst w0 H2 w3 H3 w5→∃C3:WP,C3 w5.drew∧∀w24,w24=w5.drew→Calls prog 198 #[(vs (⟨#[97,98,111,114,116,101,100]⟩:ByteArray))] w24 (fun e w25=>∃eQ eR eS eT eU eV,e=.returned (Ab eQ eR eS eT eU eV)∧C3 w25∧Kept H3 w24 w25∧Calls prog 199 #[(vu aE)] w25 (fun e w26=>∃eW eX eY eZ fA fB,e=.returned (Ab eW eX eY eZ fA fB)∧Kept H3 w25 w26∧Calls prog 197 #[(.agg #[(vi eQ),(vi eR),(vi eS),(vu eT),(vs eU),eV.v]),(.agg #[(vi eW),(vi eX),(vi eY),(vu eZ),(vs fA),fB.v])] w26 (fun e w27=>∃fC fD fE fF fG fH,e=.returned (Ab fC fD fE fF fG fH)∧Kept H3 w26 w27∧Calls prog 196 #[(vi 2),(.agg #[(vi fC),(vi fD),(vi fE),(vu fF),(vs fG),fH.v])] w27 (fun e w28=>∃cB cC cD cE cF cG,e=.returned (Ab cB cC cD cE cF cG)∧Kept H3 w27 w28∧∀w29,Hst w0 H3 w28 H3 w29→K cB cC cD cE cF cG w29))))) (Br (aA == 6) (∀H3 w5,Hst w0 H2 w3 H3 w5→∃C4:WP,C4 w5.drew∧∀w30,w30=w5.drew→Calls prog 198 #[(vs (⟨#[105,110,115,116,101,97,100]⟩:ByteArray))] w30 (fun e w31=>∃fI fJ fK fL fM fN,e=.returned (Ab fI fJ fK fL fM fN)∧C4 w31∧Kept H3 w30 w31∧Calls prog 197 #[(.agg #[(vi fI),(vi fJ),(vi fK),(vu fL),(vs fM),fN.v]),(.agg #[(vi aF),(vi aG),(vi aH),(vu aI),(vs aJ),aK.v])] w31 (fun e w32=>∃fO fP fQ fR fS fT,e=.returned (Ab fO fP fQ fR fS fT)∧Kept H3 w31 w32∧Calls prog 196 #[(vi 2),(.agg #[(vi fO),(vi fP),(vi fQ),(vu fR),(vs fS),fT.v])] w32 (fun e w33=>∃cH cI cJ cK cL cM,e=.returned (Ab cH cI cJ cK cL cM)∧Kept H3 w32 w33∧∀w34,Hst w0 H3 w33 H3 w34→K cH cI cJ cK cL cM w34)))) (∀H3 w5,Hst w0 H2 w3 H3 w5→∃C5:WP,C5 w5.drew∧∀w35,w35=w5.drew→Calls prog 198 #[(vs (⟨#[102,117,108,108]⟩:ByteArray))] w35 (fun e w36=>∃fU fV fW fX fY fZ,e=.returned (Ab fU fV fW fX fY fZ)∧C5 w36∧Kept H3 w35 w36∧Calls prog 199 #[(vu aE)] w36 (fun e w37=>∃gA gB gC gD gE gF,e=.returned (Ab gA gB gC gD gE gF)∧Kept H3 w36 w37∧Calls prog 197 #[(.agg #[(vi fU),(vi fV),(vi fW),(vu fX),(vs fY),fZ.v]),(.agg #[(vi gA),(vi gB),(vi gC),(vu gD),(vs gE),gF.v])] w37 (fun e w38=>∃cN cO cP cQ cR cS,e=.returned (Ab cN cO cP cQ cR cS)∧Kept H3 w37 w38∧∀w39,Hst w0 H3 w38 H3 w39→K cN cO cP cQ cR cS w39))))))))))
theorem w_U2 (aA aB aE aC aD w0 K) (h:m_U2 aA aB aE aC aD w0 K):
  Calls prog 143 #[(.agg #[(vi aA),(vi aB),(vu aE),(vs aC),(vb aD)])] w0 (fun e w'=>∃gG gH gI gJ gK gL,e=.returned (Ab gG gH gI gJ gK gL)∧K gG gH gI gJ gK gL w'):=by
 refine cw (args:=[(Ad aA aB aE aC aD)]) func143 ntmps143 ?_
 obtain ⟨hs,hb⟩:=st0 w0
 refine eg (nw3 (Aa aA aB aE aC aD) 35 hs hb xb fun p1 w1 H1 hs hb=>nw3 [(vi 0),(vi 0),(vi 0),(vu 0),ve,Sl.nil.v] 107 hs hb (jE (zeroValue107 _) rfl) fun p2 w2 H2 hs hb=>ln (eg (q (q3 (xl (isAgg23 _) (hb.d 1 2 (gS gZ))) (q (q3 (xl (isAgg9 _) (hb.d 1 3 (gS gZ))) ?_))))))
 have ⟨h,hs⟩:=hs.hr (h H2 w2)
 refine sc call194 (h.mono fun e w3 ⟨aF,aG,aH,aI,aJ,aK,k,hk,h⟩=>have ⟨hs,hb⟩:=hk.hh hs hb;⟨_,k,?_⟩)
 refine nw3 [(vi 0),(vi 0),(vi 0),(vu 0),ve,Sl.nil.v] 107 hs hb (jE (zeroValue107 _) rfl) fun p3 w4 H3 hs hb=>sbx 0 (Ah aF aG aH aI aJ aK) (sizeOf107 _) hs hb gZ fun w5 hs hb=>ln (jA (eg (q (q3 (xl (isAgg3 _) (hb.d0 2 (gS (gS gZ)))) (ln (jH (eg (qb (ln (cbr h ?_ ?_))))))))))<;>intro h
 refine eg (q (q3 (xl (isAgg3 _) (hb.d 2 1 (gS (gS gZ)))) (q (q3 (xl (isAgg4 _) (hb.d 2 4 (gS (gS gZ)))) (q2 (Ab aF aG aH aI aJ aK) (xa p3 (Ah aF aG aH aI aJ aK) (isAgg107 _) (sizeOf107 _) (hb.r0 0 6 gZ)) ?_)))))
 have ⟨h,hs⟩:=hs.hr (h H3 w5)
 refine sc call195 (h.mono fun e w6 ⟨aR,aS,aT,aU,aV,aW,k,hk,h⟩=>have ⟨hs,hb⟩:=hk.hh hs hb;⟨_,k,?_⟩)
 refine sbx 1 (Ah aR aS aT aU aV aW) (sizeOf107 _) hs hb (gS gZ) fun w7 hs hb=>ln (er (vB (jY ?_)))
 have ⟨h,hs⟩:=hs.hr (h w7)
 refine xD (.inl rfl) (vs:=[(Ab aR aS aT aU aV aW)]) (v:=(Ab aR aS aT aU aV aW)) results143 ⟨(rva (isAgg107 _) (sizeOf107 _) (hb.r0 1 6 (gS gZ))),trivial⟩ (by kernel_rfl) ⟨aR,aS,aT,aU,aV,aW,rfl,h⟩
 refine eg (qb (ln (cbr h ?_ ?_)))<;>intro h
 refine eg (q (q3 (xl (isAgg3 _) (hb.d 2 1 (gS (gS gZ)))) (q2 (Ab aF aG aH aI aJ aK) (xa p3 (Ah aF aG aH aI aJ aK) (isAgg107 _) (sizeOf107 _) (hb.r0 0 6 gZ)) ?_)))
 have ⟨h,hs⟩:=hs.hr (h H3 w5)
 refine sc call196 (h.mono fun e w8 ⟨aX,aY,aZ,bA,bB,bC,k,hk,h⟩=>have ⟨hs,hb⟩:=hk.hh hs hb;⟨_,k,?_⟩)
 refine sbx 1 (Ah aX aY aZ bA bB bC) (sizeOf107 _) hs hb (gS gZ) fun w9 hs hb=>ln (er (vB (jY ?_)))
 have ⟨h,hs⟩:=hs.hr (h w9)
 refine xD (.inl rfl) (vs:=[(Ab aX aY aZ bA bB bC)]) (v:=(Ab aX aY aZ bA bB bC)) results143 ⟨(rva (isAgg107 _) (sizeOf107 _) (hb.r0 1 6 (gS gZ))),trivial⟩ (by kernel_rfl) ⟨aX,aY,aZ,bA,bB,bC,rfl,h⟩
 refine eg (qb (ln (cbr h ?_ ?_)))<;>intro h
 refine jA ?_
 have ⟨h,hs⟩:=hs.hr (h H3 w5)
 obtain ⟨C1,hC,h⟩:=h
 refine dr2 (fun x=>C1 x∧HB H3 x _) [0,3,4,5,6] [3,4,5,6] ⟨hC,hb.drew⟩ h hs hb fun w10 hs hb h=>?_
 have hs:=hs.here
 refine qx 1 (vp (some (p1.add 2))) Kp1 (qz 2 (vu aE) Kp2 (fun w' hw'=>(xl (isAgg23 _) (hw'.2.cell 2 2 (gS (gS gZ)) (by kernel_rfl)))) (lg 0 (slc Kp0 call198 (h.mono ?_))))
 rintro e w11 ⟨cU,cV,cW,cX,cY,cZ,rfl,hC,hk,h⟩
 refine ⟨_,rfl,.inr ⟨hC,hb.kept hk⟩,?_⟩
 obtain ⟨hs,hb⟩:=hk.hh hs hb
 refine lg 3 (slc Kp3 call199 (h.mono ?_))
 rintro e w12 ⟨dA,dB,dC,dD,dE,dF,rfl,hk,h⟩
 refine ⟨_,rfl,.inl (by kernel_rfl),?_⟩
 obtain ⟨hs,hb⟩:=hk.hh hs hb
 refine lg 4 (slc Kp4 call197 (h.mono ?_))
 rintro e w13 ⟨dG,dH,dI,dJ,dK,dL,rfl,hk,h⟩
 refine ⟨_,rfl,.inl (by kernel_rfl),?_⟩
 obtain ⟨hs,hb⟩:=hk.hh hs hb
 refine lg 5 (slc Kp5 call196 (h.mono ?_))
 rintro e w14 ⟨bP,bQ,bR,bS,bT,bU,rfl,hk,h⟩
 refine ⟨_,rfl,.inl (by kernel_rfl),?_⟩
 obtain ⟨hs,hb⟩:=hk.hh hs hb
 refine lg 6 (vG Kp6 (jL rfl) (by kernel_rfl) (xo p2 (Ah bP bQ bR bS bT bU) (sizeOf107 _) (hb.k0 1 6 (gS gZ))) ?_)
 intro w15 hn7
 obtain ⟨hs,hb⟩:=hb.st1 1 hs hn7 (gS gZ)
 refine ⟨.inl (by kernel_rfl),?_⟩
 refine wn (jK (er (vB (jY ?_))))
 have ⟨h,hs⟩:=hs.hr (h w15)
 refine xD (.inl rfl) (vs:=[(Ab bP bQ bR bS bT bU)]) (v:=(Ab bP bQ bR bS bT bU)) results143 ⟨(rva (isAgg107 _) (sizeOf107 _) (hb.r0 1 6 (gS gZ))),trivial⟩ (by kernel_rfl) ⟨bP,bQ,bR,bS,bT,bU,rfl,h⟩
 refine eg (qb (ln (cbr h ?_ ?_)))<;>intro h
 refine jA ?_
 have ⟨h,hs⟩:=hs.hr (h H3 w5)
 obtain ⟨C2,hC,h⟩:=h
 refine dr2 (fun x=>C2 x∧HB H3 x _) [2,6,10,11,12,13,14] [13,14] ⟨hC,hb.drew⟩ h hs hb fun w16 hs hb h=>?_
 have hs:=hs.here
 refine qx 0 (vp (some (p1.add 1))) Kp0 (qz 1 (vi aB) Kp1 (fun w' hw'=>(xl (isAgg3 _) (hw'.2.cell 2 1 (gS (gS gZ)) (by kernel_rfl)))) (qx 3 (vp (some (p1.add 4))) Kp3 (qz 4 (vb aD) Kp4 (fun w' hw'=>(xl (isAgg4 _) (hw'.2.cell 2 4 (gS (gS gZ)) (by kernel_rfl)))) (qz 5 (Ab aF aG aH aI aJ aK) Kp5 (fun w' hw'=>(xa p3 (Ah aF aG aH aI aJ aK) (isAgg107 _) (sizeOf107 _) (hw'.2.r0 0 6 gZ))) (qx 7 (vp (some (p1.add 4))) Kp7 (qz 8 (vb aD) Kp8 (fun w' hw'=>(xl (isAgg4 _) (hw'.2.cell 2 4 (gS (gS gZ)) (by kernel_rfl)))) (qz 9 (Ab aF aG aH aI aJ aK) Kp9 (fun w' hw'=>(xa p3 (Ah aF aG aH aI aJ aK) (isAgg107 _) (sizeOf107 _) (hw'.2.r0 0 6 gZ))) (lg 2 (slc Kp2 call198 (h.mono ?_))))))))))
 rintro e w17 ⟨dM,dN,dO,dP,dQ,dR,rfl,hC,hk,h⟩
 refine ⟨_,rfl,.inr ⟨hC,hb.kept hk⟩,?_⟩
 obtain ⟨hs,hb⟩:=hk.hh hs hb
 refine lg 6 (slc Kp6 call195 (h.mono ?_))
 rintro e w18 ⟨dS,dT,dU,dV,dW,dX,rfl,hC,hk,h⟩
 refine ⟨_,rfl,.inr ⟨hC,hb.kept hk⟩,?_⟩
 obtain ⟨hs,hb⟩:=hk.hh hs hb
 refine lg 10 (slc (jJ (S8 (jC (jC jI)))) call195 (h.mono ?_))
 rintro e w19 ⟨dY,dZ,eA,eB,eC,eD,rfl,hC,hk,h⟩
 refine ⟨_,rfl,.inr ⟨hC,hb.kept hk⟩,?_⟩
 obtain ⟨hs,hb⟩:=hk.hh hs hb
 refine lg 11 (slc (jJ (S8 (jC (jC (jC jI))))) call197 (h.mono ?_))
 rintro e w20 ⟨eE,eF,eG,eH,eI,eJ,rfl,hC,hk,h⟩
 refine ⟨_,rfl,.inr ⟨hC,hb.kept hk⟩,?_⟩
 obtain ⟨hs,hb⟩:=hk.hh hs hb
 refine lg 12 (slc (jJ (S8 (S4 jI))) call197 (h.mono ?_))
 rintro e w21 ⟨eK,eL,eM,eN,eO,eP,rfl,hC,hk,h⟩
 refine ⟨_,rfl,.inr ⟨hC,hb.kept hk⟩,?_⟩
 obtain ⟨hs,hb⟩:=hk.hh hs hb
 refine lg 13 (slc (jJ (S8 (S4 (jC jI)))) call196 (h.mono ?_))
 rintro e w22 ⟨bV,bW,bX,bY,bZ,cA,rfl,hk,h⟩
 refine ⟨_,rfl,.inl (by kernel_rfl),?_⟩
 obtain ⟨hs,hb⟩:=hk.hh hs hb
 refine lg 14 (vG (jJ (S8 (S4 (jC (jC jI))))) (jL rfl) (by kernel_rfl) (xo p2 (Ah bV bW bX bY bZ cA) (sizeOf107 _) (hb.k0 1 6 (gS gZ))) ?_)
 intro w23 hn8
 obtain ⟨hs,hb⟩:=hb.st1 1 hs hn8 (gS gZ)
 refine ⟨.inl (by kernel_rfl),?_⟩
 refine wn (jK (er (vB (jY ?_))))
 have ⟨h,hs⟩:=hs.hr (h w23)
 refine xD (.inl rfl) (vs:=[(Ab bV bW bX bY bZ cA)]) (v:=(Ab bV bW bX bY bZ cA)) results143 ⟨(rva (isAgg107 _) (sizeOf107 _) (hb.r0 1 6 (gS gZ))),trivial⟩ (by kernel_rfl) ⟨bV,bW,bX,bY,bZ,cA,rfl,h⟩
 refine eg (qb (ln (cbr h ?_ ?_)))<;>intro h
 refine jA ?_
 have ⟨h,hs⟩:=hs.hr (h H3 w5)
 obtain ⟨C3,hC,h⟩:=h
 refine dr2 (fun x=>C3 x∧HB H3 x _) [0,3,4,5,6] [3,4,5,6] ⟨hC,hb.drew⟩ h hs hb fun w24 hs hb h=>?_
 have hs:=hs.here
 refine qx 1 (vp (some (p1.add 2))) Kp1 (qz 2 (vu aE) Kp2 (fun w' hw'=>(xl (isAgg23 _) (hw'.2.cell 2 2 (gS (gS gZ)) (by kernel_rfl)))) (lg 0 (slc Kp0 call198 (h.mono ?_))))
 rintro e w25 ⟨eQ,eR,eS,eT,eU,eV,rfl,hC,hk,h⟩
 refine ⟨_,rfl,.inr ⟨hC,hb.kept hk⟩,?_⟩
 obtain ⟨hs,hb⟩:=hk.hh hs hb
 refine lg 3 (slc Kp3 call199 (h.mono ?_))
 rintro e w26 ⟨eW,eX,eY,eZ,fA,fB,rfl,hk,h⟩
 refine ⟨_,rfl,.inl (by kernel_rfl),?_⟩
 obtain ⟨hs,hb⟩:=hk.hh hs hb
 refine lg 4 (slc Kp4 call197 (h.mono ?_))
 rintro e w27 ⟨fC,fD,fE,fF,fG,fH,rfl,hk,h⟩
 refine ⟨_,rfl,.inl (by kernel_rfl),?_⟩
 obtain ⟨hs,hb⟩:=hk.hh hs hb
 refine lg 5 (slc Kp5 call196 (h.mono ?_))
 rintro e w28 ⟨cB,cC,cD,cE,cF,cG,rfl,hk,h⟩
 refine ⟨_,rfl,.inl (by kernel_rfl),?_⟩
 obtain ⟨hs,hb⟩:=hk.hh hs hb
 refine lg 6 (vG Kp6 (jL rfl) (by kernel_rfl) (xo p2 (Ah cB cC cD cE cF cG) (sizeOf107 _) (hb.k0 1 6 (gS gZ))) ?_)
 intro w29 hn9
 obtain ⟨hs,hb⟩:=hb.st1 1 hs hn9 (gS gZ)
 refine ⟨.inl (by kernel_rfl),?_⟩
 refine wn (jK (er (vB (jY ?_))))
 have ⟨h,hs⟩:=hs.hr (h w29)
 refine xD (.inl rfl) (vs:=[(Ab cB cC cD cE cF cG)]) (v:=(Ab cB cC cD cE cF cG)) results143 ⟨(rva (isAgg107 _) (sizeOf107 _) (hb.r0 1 6 (gS gZ))),trivial⟩ (by kernel_rfl) ⟨cB,cC,cD,cE,cF,cG,rfl,h⟩
 refine eg (qb (ln (cbr h ?_ ?_)))<;>intro h
 refine jA ?_
 have ⟨h,hs⟩:=hs.hr (h H3 w5)
 obtain ⟨C4,hC,h⟩:=h
 refine dr2 (fun x=>C4 x∧HB H3 x _) [0,2,3,4] [2,3,4] ⟨hC,hb.drew⟩ h hs hb fun w30 hs hb h=>?_
 have hs:=hs.here
 refine qz 1 (Ab aF aG aH aI aJ aK) Kp1 (fun w' hw'=>(xa p3 (Ah aF aG aH aI aJ aK) (isAgg107 _) (sizeOf107 _) (hw'.2.r0 0 6 gZ))) (lg 0 (slc Kp0 call198 (h.mono ?_)))
 rintro e w31 ⟨fI,fJ,fK,fL,fM,fN,rfl,hC,hk,h⟩
 refine ⟨_,rfl,.inr ⟨hC,hb.kept hk⟩,?_⟩
 obtain ⟨hs,hb⟩:=hk.hh hs hb
 refine lg 2 (slc Kp2 call197 (h.mono ?_))
 rintro e w32 ⟨fO,fP,fQ,fR,fS,fT,rfl,hk,h⟩
 refine ⟨_,rfl,.inl (by kernel_rfl),?_⟩
 obtain ⟨hs,hb⟩:=hk.hh hs hb
 refine lg 3 (slc Kp3 call196 (h.mono ?_))
 rintro e w33 ⟨cH,cI,cJ,cK,cL,cM,rfl,hk,h⟩
 refine ⟨_,rfl,.inl (by kernel_rfl),?_⟩
 obtain ⟨hs,hb⟩:=hk.hh hs hb
 refine lg 4 (vG Kp4 (jL rfl) (by kernel_rfl) (xo p2 (Ah cH cI cJ cK cL cM) (sizeOf107 _) (hb.k0 1 6 (gS gZ))) ?_)
 intro w34 hn10
 obtain ⟨hs,hb⟩:=hb.st1 1 hs hn10 (gS gZ)
 refine ⟨.inl (by kernel_rfl),?_⟩
 refine wn (jK (er (vB (jY ?_))))
 have ⟨h,hs⟩:=hs.hr (h w34)
 refine xD (.inl rfl) (vs:=[(Ab cH cI cJ cK cL cM)]) (v:=(Ab cH cI cJ cK cL cM)) results143 ⟨(rva (isAgg107 _) (sizeOf107 _) (hb.r0 1 6 (gS gZ))),trivial⟩ (by kernel_rfl) ⟨cH,cI,cJ,cK,cL,cM,rfl,h⟩
 refine jB (vS (jK (jA ?_)))
 have ⟨h,hs⟩:=hs.hr (h H3 w5)
 obtain ⟨C5,hC,h⟩:=h
 refine dr2 (fun x=>C5 x∧HB H3 x _) [0,3,4,5] [3,4,5] ⟨hC,hb.drew⟩ h hs hb fun w35 hs hb h=>?_
 have hs:=hs.here
 refine qx 1 (vp (some (p1.add 2))) Kp1 (qz 2 (vu aE) Kp2 (fun w' hw'=>(xl (isAgg23 _) (hw'.2.cell 2 2 (gS (gS gZ)) (by kernel_rfl)))) (lg 0 (slc Kp0 call198 (h.mono ?_))))
 rintro e w36 ⟨fU,fV,fW,fX,fY,fZ,rfl,hC,hk,h⟩
 refine ⟨_,rfl,.inr ⟨hC,hb.kept hk⟩,?_⟩
 obtain ⟨hs,hb⟩:=hk.hh hs hb
 refine lg 3 (slc Kp3 call199 (h.mono ?_))
 rintro e w37 ⟨gA,gB,gC,gD,gE,gF,rfl,hk,h⟩
 refine ⟨_,rfl,.inl (by kernel_rfl),?_⟩
 obtain ⟨hs,hb⟩:=hk.hh hs hb
 refine lg 4 (slc Kp4 call197 (h.mono ?_))
 rintro e w38 ⟨cN,cO,cP,cQ,cR,cS,rfl,hk,h⟩
 refine ⟨_,rfl,.inl (by kernel_rfl),?_⟩
 obtain ⟨hs,hb⟩:=hk.hh hs hb
 refine lg 5 (vG Kp5 (jL rfl) (by kernel_rfl) (xo p2 (Ah cN cO cP cQ cR cS) (sizeOf107 _) (hb.k0 1 6 (gS gZ))) ?_)
 intro w39 hn11
 obtain ⟨hs,hb⟩:=hb.st1 1 hs hn11 (gS gZ)
 refine ⟨.inl (by kernel_rfl),?_⟩
 refine wn (jK (er ?_))
 have ⟨h,hs⟩:=hs.hr (h w39)
 refine xD (.inl rfl) (vs:=[(Ab cN cO cP cQ cR cS)]) (v:=(Ab cN cO cP cQ cR cS)) results143 ⟨(rva (isAgg107 _) (sizeOf107 _) (hb.r0 1 6 (gS gZ))),trivial⟩ (by kernel_rfl) ⟨cN,cO,cP,cQ,cR,cS,rfl,h⟩
def m_V2 (p1:Option Addr) (aA aB aE:Int) (aC:ByteArray) (aD:Bool) (w0:World) (K:Int→Int→WP):Prop :=∀H1 w1,Hst w0 None w0 H1 w1→Calls prog 142 #[(.agg #[(vi aA),(vi aB),(vu aE),(vs aC),(vb aD)])] w1 (fun e w2=>∃r1,e=.returned (vi r1)∧Kept H1 w1 w2∧Br (r1 != 0) (K 0 r1 w2) (Br (Option.isNone p1) (K 0 2 w2) (Calls prog 143 #[(.agg #[(vi aA),(vi aB),(vu aE),(vs aC),(vb aD)])] w2 (fun e w3=>∃aF aG aH aI aJ aK,e=.returned (Ab aF aG aH aI aJ aK)∧Kept H1 w2 w3∧Calls prog 77 #[(vp p1),(.agg #[(vi aF),(vi aG),(vi aH),(vu aI),(vs aJ),aK.v])] w3 (fun e w4=>∃r2 r3,e=.returned (.tuple #[(vi r2),(vi r3)])∧Kept H1 w3 w4∧K r2 r3 w4)))))
theorem w_V2 (p1 aA aB aE aC aD w0 K) (h:m_V2 p1 aA aB aE aC aD w0 K):
  Calls prog 76 #[(vp p1),(.agg #[(vi aA),(vi aB),(vu aE),(vs aC),(vb aD)])] w0 (fun e w'=>∃r4 r5,e=.returned (.tuple #[(vi r4),(vi r5)])∧K r4 r5 w'):=by
 refine cw (args:=[(vp p1),(Ad aA aB aE aC aD)]) func76 ntmps76 ?_
 obtain ⟨hs,hb⟩:=st0 w0
 refine eg (nw3 (Aa aA aB aE aC aD) 35 hs hb xb fun p2 w1 H1 hs hb=>qb (ln (jA (eg (q2 (Ad aA aB aE aC aD) (xa p2 (Aa aA aB aE aC aD) (isAgg35 _) (sizeOf35 _) (hb.r0 0 5 gZ)) ?_)))))
 have ⟨h,hs⟩:=hs.hr (h H1 w1)
 refine sc call142 (h.mono fun e w2 ⟨r1,k,hk,h⟩=>have ⟨hs,hb⟩:=hk.hh hs hb;⟨_,k,?_⟩)
 refine q (ln (eg (qb (ln (cbr h ?_ ?_)))))<;>intro h
 refine eg (qc (ln (er (jY (uC (.inl rfl) results76 (v:=(vi 0)) (by kernel_rfl) (v':=(vi r1)) (by kernel_rfl) ⟨0,r1,rfl,h⟩)))))
 refine jB (jK (jA (eg (q (q2 (vb (Option.isNone p1)) (qJ (by kernel_rfl) rfl underlying68) (ln (cbr h ?_ ?_)))))))<;>intro h
 refine eg (qb (ln (er (jY (uC (.inl rfl) results76 (v:=(vi 0)) (by kernel_rfl) (v':=(vi 2)) (by kernel_rfl) ⟨0,2,rfl,h⟩)))))
 refine jB (jK (eg (q (q2 (Ad aA aB aE aC aD) (xa p2 (Aa aA aB aE aC aD) (isAgg35 _) (sizeOf35 _) (hb.r0 0 5 gZ)) (sc call143 (h.mono fun e w3 ⟨aF,aG,aH,aI,aJ,aK,k,hk,h⟩=>have ⟨hs,hb⟩:=hk.hh hs hb;⟨_,k,?_⟩))))))
 refine sc call77 (h.mono fun e w4 ⟨r2,r3,k,hk,h⟩=>have ⟨hs,hb⟩:=hk.hh hs hb;⟨_,k,?_⟩)
 refine qd (ln (er (uC (.inl rfl) results76 (v:=(vi r2)) (by kernel_rfl) (v':=(vi r3)) (by kernel_rfl) ⟨r2,r3,rfl,h⟩)))
end Go.Proofs
end
section
open Go Go.SE
namespace Go.Proofs
open Tryz
attribute [local irreducible] Calls
def jAS:Array Value:=#[.bool false,.bool false,.bool false,.string ⟨#[]⟩,.bool true,.bool true,.bool true,.string ⟨#[112,114,111,109,105,115,101]⟩,.bool true,.bool true,.bool false,.string ⟨#[115,105,103,110]⟩,.bool false,.bool false,.bool false,.string ⟨#[97,98,111,114,116]⟩,.bool true,.bool true,.bool true,.string ⟨#[114,101,115,111,108,118,101]⟩,.bool false,.bool false,.bool false,.string ⟨#[116,111,107,101,110]⟩,.bool false,.bool true,.bool false,.string ⟨#[105,110,115,116,101,97,100]⟩,.bool false,.bool false,.bool false,.string ⟨#[102,117,108,108]⟩]
theorem tN (w:World):Calls prog 193 #[] w (fun e w'=>∃r:Array Value,e=.returned (.agg r)∧(r=jAS∧Pure w w')):=by
 refine w_P2 w (fun r w'=>r=jAS∧Pure w w') ?_;unfold m_P2;intro p1 w1 h1;have E1:Pure w w1:=Ext.new h1;have hp:=New.own (Ext.refl w) h1;have b1:=Box.of_newA h1;clear h1;refine bx 32 b1 (by kernel_rfl) (by kernel_rfl) (fun w' b E=>?_);exact ⟨jAS,⟨by kernel_rfl,b.row_eq (by kernel_rfl)⟩,rfl,E1.own hp E⟩
theorem c_chk (l:Sp.Letter) (hk:1≤l.kind∧l.kind≤7) (p:Addr) {w0 w:World} {H:NP} {wd:ByteArray} {T:TypeId} (hB:Box w p [.bool (Sp.kI l.kind),.bool (Sp.kP l.kind),.bool (l.kind == 1 || l.kind == 4),.string wd] T) (hv:¬ H p.block) (hE:Pure w0 w) :
  m_I_j1 l.frm l.text l.fake p w0 H w (fun x w'=>x=Sp.vN l∧Pure w0 w'):=by
 obtain ⟨k,f,c,x,fk⟩:=l
 simp only at *
 have vis:∀{H H':NP} {w w':World},Box w p [.bool (Sp.kI k),.bool (Sp.kP k),.bool (k == 1 || k == 4),.string wd] T→¬ H p.block→Hst w0 H w H' w'→¬ H' p.block∧Box w' p [.bool (Sp.kI k),.bool (Sp.kP k),.bool (k == 1 || k == 4),.string wd] T:=fun hB hv hs=>by
  have h:=hs.disj (G:=(·=p.block)) (fun b e=>by subst e;exact ⟨hB.lt,hv⟩) _ rfl;exact ⟨h,hB.ext hs.ext h⟩
 unfold m_I_j1
 have bad:(f≠0∧f≠1)∨(Sp.kI k=false∧f≠0)∨(Sp.kP k=false∧x≠⟨#[]⟩)∨(fk=true∧k≠1∧k≠4)→(110:Int)=Sp.vN ⟨k,f,c,x,fk⟩:=fun h=>by
  unfold Sp.vN;rw [if_pos];rcases h with h | h | h | h
  ·exact .inr (.inr (.inl h))
  ·exact .inr (.inr (.inr (.inl h)))
  ·exact .inr (.inr (.inr (.inr (.inl h))))
  ·exact .inr (.inr (.inr (.inr (.inr h))))
 refine ⟨fun hc H4 w4 hs4=>⟨bad (.inl ?_),hE.hst hs4⟩,fun hc H4 w4 hs4=>?_⟩
 ·rw [Bool.and_eq_true] at hc;exact ⟨bne_iff_ne.1 hc.1,bne_iff_ne.1 hc.2⟩
 have hf:f=0∨f=1:=by
  rw [Bool.and_eq_false_iff] at hc;exact hc.imp (fun h=>by simpa using h) (fun h=>by simpa using h)
 obtain ⟨v4,B4⟩:=vis hB hv hs4
 have E4:=hE.hst hs4
 refine ⟨_,B4.cell0,fun H8 w8 hs8=>?_⟩
 obtain ⟨v8,B8⟩:=vis B4 v4 hs8
 have E8:=E4.hst hs8
 unfold m_I_j2
 refine ⟨fun hc2=>⟨bad (.inr (.inl ?_)),E8⟩,fun hc2=>?_⟩
 ·rw [Bool.and_eq_true] at hc2;exact ⟨by simpa using hc2.1,bne_iff_ne.1 hc2.2⟩
 have hs:¬ (Sp.kI k=false∧f≠0):=fun h=>by
  rw [Bool.and_eq_false_iff] at hc2;exact hc2.elim (fun h2=>by rw [h.1] at h2;cases h2) (fun h2=>h.2 (by simpa using h2))
 refine ⟨_,B8.cell (i:=1) rfl,fun H7 w7 hs7=>?_⟩
 obtain ⟨v7,B7⟩:=vis B8 v8 hs7
 have E7:=E8.hst hs7
 unfold m_I_j3
 refine ⟨fun hc3=>⟨bad (.inr (.inr (.inl ?_))),E7⟩,fun hc3=>?_⟩
 ·rw [Bool.and_eq_true] at hc3
  exact ⟨by simpa using hc3.1,by simpa using hc3.2⟩
 have ht:¬ (Sp.kP k=false∧x≠⟨#[]⟩):=fun h=>by
  rw [Bool.and_eq_false_iff] at hc3;exact hc3.elim (fun h2=>by rw [h.1] at h2;cases h2) (fun h2=>h.2 (by simpa using h2))
 refine ⟨_,B7.cell (i:=2) rfl,fun hc4 H6 w6 hs6=>⟨bad (.inr (.inr (.inr ?_))),E7.hst hs6⟩,fun hc4=>?_⟩
 ·rw [Bool.and_eq_true] at hc4
  have h1:(k == 1 || k == 4)=false:=by simpa using hc4.1
  rw [Bool.or_eq_false_iff] at h1
  exact ⟨hc4.2,by simpa using h1.1,by simpa using h1.2⟩
 have hfk:¬ (fk=true∧k≠1∧k≠4):=fun h=>by
  rw [Bool.and_eq_false_iff] at hc4;refine hc4.elim (fun h2=>?_) (fun h2=>by rw [h.1] at h2;cases h2);have h1:(k == 1 || k == 4)=true:=by
   cases hh:(k == 1 || k == 4) with
   | true=>rfl
   | false=>rw [hh] at h2;cases h2
  rw [Bool.or_eq_true] at h1;exact h1.elim (fun h3=>h.2.1 (by simpa using h3)) (fun h3=>h.2.2 (by simpa using h3))
 have good:¬ (k<1∨k>7∨(f≠0∧f≠1)∨(Sp.kI k=false∧f≠0)∨(Sp.kP k=false∧x≠⟨#[]⟩)∨(fk=true∧k≠1∧k≠4)):=by
  rintro (h | h | h | h | h | h)
  ·omega
  ·omega
  ·omega
  ·exact hs h
  ·exact ht h
  ·exact hfk h
 refine ⟨fun hc5 H6 w6 hs6=>⟨?_,E7.hst hs6⟩,fun hc5 H6 w6 hs6=>⟨?_,E7.hst hs6⟩⟩
 ·have:=of_decide_eq_true hc5
  unfold Sp.vN;rw [if_neg good,if_pos (by simp only;omega)]
 ·have:=of_decide_eq_false hc5
  unfold Sp.vN;rw [if_neg good,if_neg (by simp only;omega)]
theorem jDM (l:Sp.Letter) (w0:World):Calls prog 142 #[.agg #[.int .i64 l.kind,.int .i64 l.frm,.int .u64 l.c,.string l.text,.bool l.fake]] w0 (fun e w'=>∃r:Int,e=.returned (.int .i64 r)∧(r=Sp.vN l∧Pure w0 w')):=by
 refine w_I _ _ _ _ _ w0 (fun r w'=>r=Sp.vN l∧Pure w0 w') ?_;unfold m_I;refine ⟨fun hc H2 w2 hs2=>⟨?_,hs2.first⟩,fun hc H2 w2 hs2=>?_⟩
 ·unfold Sp.vN;rw [if_pos];rw [Bool.or_eq_true] at hc;exact hc.elim (fun h=>.inl (of_decide_eq_true h)) (fun h=>.inr (.inl (of_decide_eq_true h)))
 have hk:1≤l.kind∧l.kind≤7:=by
  rw [Bool.or_eq_false_iff] at hc;have h1:=of_decide_eq_false hc.1;have h2:=of_decide_eq_false hc.2;omega
 have E2:Pure w0 w2:=hs2.first;have idx:∃wd:ByteArray,∀w':World,(Instr.index 302 (.agg jAS) (.int .i64 l.kind)).run prog w'=.ok (.agg #[.bool (Sp.kI l.kind),.bool (Sp.kP l.kind),.bool (l.kind == 1 || l.kind == 4),.string wd]) w':=by
  have:l.kind=1∨l.kind=2∨l.kind=3∨l.kind=4∨l.kind=5∨l.kind=6∨l.kind=7:=by omega
  rcases this with e | e | e | e | e | e | e <;> rw [e]
  ·exact ⟨⟨#[112,114,111,109,105,115,101]⟩,fun w'=>by kernel_rfl⟩
  ·exact ⟨⟨#[115,105,103,110]⟩,fun w'=>by kernel_rfl⟩
  ·exact ⟨⟨#[97,98,111,114,116]⟩,fun w'=>by kernel_rfl⟩
  ·exact ⟨⟨#[114,101,115,111,108,118,101]⟩,fun w'=>by kernel_rfl⟩
  ·exact ⟨⟨#[116,111,107,101,110]⟩,fun w'=>by kernel_rfl⟩
  ·exact ⟨⟨#[105,110,115,116,101,97,100]⟩,fun w'=>by kernel_rfl⟩
  ·exact ⟨⟨#[102,117,108,108]⟩,fun w'=>by kernel_rfl⟩
 obtain ⟨wd,idx⟩:=idx;refine ⟨fun _=>True,trivial,?_⟩;rintro w9 e9;have E9:Pure w2 w9:=by rw [e9];exact Ext.drew w2
 have hH:∀b,H2 b→b<w9.heap.size:=fun b hb=>by have:=hs2.lt b hb;have:=E9.size;omega
 refine ⟨?_,?_⟩
 ·refine (tN w9).mono ?_;rintro _ w10 ⟨_,rfl,rfl,E10⟩;refine ⟨_,rfl,trivial,E10.keptP,_,_,_,_,fun w' _=>idx w',?_⟩;intro p2 w11 n11;have b11:=n11.at_size;have z10:=E10.size;have hv:¬ H2 p2.block:=fun hh=>by have:=hH _ hh;omega
  refine ⟨trivial,(Box.of_newA n11).canWs (by simp),hv,?_⟩;rintro w12 e12;have X:Ext (·=p2.block) w11 w12:=by rw [e12];exact Ext.storeRow _ _ _
  have B:Box w12 p2 [.bool (Sp.kI l.kind),.bool (Sp.kP l.kind),.bool (l.kind == 1 || l.kind == 4),.string wd] 301:=by rw [e12];exact (Box.of_newA n11).store rfl
  have z2:=E2.size;have z9:=E9.size;exact c_chk l hk p2 B hv ((((E2.trans E9).trans E10).trans (Ext.new n11)).own (by omega) X)
 ·intro p3 w13 n13;refine ⟨trivial,?_⟩;have b13:=n13.at_size;have E13:Pure w9 w13:=Ext.new n13;have hv:¬ H2 p3.block:=fun hh=>by have:=hH _ hh;omega
  refine (tN w13).mono ?_;rintro _ w14 ⟨_,rfl,rfl,E14⟩;have B14:=(Box.of_newA n13).pure E14;refine ⟨_,rfl,trivial,E14.keptP,_,_,_,_,fun w' _=>idx w',B14.canWs (by simp),hv,?_⟩;rintro w15 e15;have X:Ext (·=p3.block) w14 w15:=by rw [e15];exact Ext.storeRow _ _ _
  have B:Box w15 p3 [.bool (Sp.kI l.kind),.bool (Sp.kP l.kind),.bool (l.kind == 1 || l.kind == 4),.string wd] 301:=by rw [e15];exact B14.store rfl
  have z2:=E2.size;have z9:=E9.size;exact c_chk l hk p3 B hv ((((E2.trans E9).trans E13).trans E14).own (by omega) X)
abbrev RetS (S:NP) (w:World) (T:Sp.Tree) (e:Ending) (w':World):Prop:=∃s,e=.returned (.agg (uA T s).toArray)∧TreeAt S w' s T∧Pure w w'
theorem yP {S:NP} (w:World) {A:Sp.Tree} {sa:Sl} {H3:NP} {w3 w4 w5:World} {p:Addr} {o:Obj} (hA:TreeAt S w sa A) (hs3:Hst w None w H3 w3) (n4:New w3 o p w4) (hs5:Hst w H3 w4 H3 w5):TreeAt S w5 sa A:=by
 have E3:Pure w w3:=hs3.first;have E4:Pure w3 w4:=Ext.new n4;exact (((hA.lt.pure E3).pure E4).ext hs5.ext (fun b hb hh=>by have:=hs3.old b hh;omega)).mono (fun b hb=>hb.1)
section
variable {S:NP} (w:World) (hS:∀b,w.heap.size≤b→S b)
include hS
theorem vO (A B:Sp.Tree) (sa sb:Sl) (hA:TreeAt S w sa A) (hB:TreeAt S w sb B):Calls prog 197 #[.agg (uA A sa).toArray,.agg (uA B sb).toArray] w (RetS S w (Sp.uR A B)):=by
 obtain ⟨k,f,t,u,x,ks⟩:=A;obtain ⟨k2,f2,t2,u2,x2,ks2⟩:=B;refine (w_Q2 k f t u x sa k2 f2 t2 u2 x2 sb w (fun k' f' t' u' y s w'=>(⟨k',f',t',u',y,0,0⟩:Sp.Node)=(Sp.uR (.mk k f t u x ks) (.mk k2 f2 t2 u2 x2 ks2)).node∧TreeAt S w' s (Sp.uR (.mk k f t u x ks) (.mk k2 f2 t2 u2 x2 ks2))∧Pure w w') ?_).mono ?_
 ·unfold m_Q2;intro H3 w3 hs3 p4 w4 n4 w5 hs5;have b4:=n4.at_size;have z3:=hs3.first.size;have B4:Box w4 p4 (uA (.mk k f t u x ks) sa++uA (.mk k2 f2 t2 u2 x2 ks2) sb) 107:=Box.of_newA n4;exact ⟨rfl,TreeAt.pair (B4.ext hs5.ext (fun hh=>by have:=hs3.lt _ hh;omega)) (hS _ (by omega)) (yP w hA hs3 n4 hs5) (yP w hB hs3 n4 hs5),(hs3.first.trans (Ext.new n4)).hst hs5⟩
 ·rintro _ w' ⟨k,f,t,u,y,s,rfl,hn,hT,E⟩;cases hn;exact ⟨s,rfl,hT,E⟩
theorem yV (n:Int) (A:Sp.Tree) (sa:Sl) (hA:TreeAt S w sa A):Calls prog 196 #[.int .i64 n,.agg (uA A sa).toArray] w (RetS S w (Sp.oR n A)):=by
 obtain ⟨k,f,t,u,x,ks⟩:=A;refine (w_T2 n k f t u x sa w (fun k' f' t' u' y s w'=>(⟨k',f',t',u',y,0,0⟩:Sp.Node)=(Sp.oR n (.mk k f t u x ks)).node∧TreeAt S w' s (Sp.oR n (.mk k f t u x ks))∧Pure w w') ?_).mono ?_
 ·unfold m_T2;intro H3 w3 hs3 p4 w4 n4 w5 hs5;have b4:=n4.at_size;have z3:=hs3.first.size;have B4:Box w4 p4 (uA (.mk k f t u x ks) sa) 107:=Box.of_newA n4;exact ⟨rfl,TreeAt.one (B4.ext hs5.ext (fun hh=>by have:=hs3.lt _ hh;omega)) (hS _ (by omega)) (yP w hA hs3 n4 hs5),(hs3.first.trans (Ext.new n4)).hst hs5⟩
 ·rintro _ w' ⟨k,f,t,u,y,s,rfl,hn,hT,E⟩;cases hn;exact ⟨s,rfl,hT,E⟩
theorem yL (n:Int) (hn:n=0∨n=1) (fk:Bool) (A:Sp.Tree) (sa:Sl) (hA:TreeAt S w sa A):Calls prog 195 #[.int .i64 n,.bool fk,.agg (uA A sa).toArray] w (RetS S w (Sp.jBK n A fk)):=by
 obtain ⟨k,f,t,u,x,ks⟩:=A;refine (w_S2 n fk k f t u x sa w (fun k' f' t' u' y s w'=>(⟨k',f',t',u',y,0,0⟩:Sp.Node)=(Sp.jBK n (.mk k f t u x ks) fk).node∧TreeAt S w' s (Sp.jBK n (.mk k f t u x ks) fk)∧Pure w w') ?_).mono ?_
 ·unfold m_S2;intro H3 w3 hs3 p4 w4 n4 w5 hs5;have b4:=n4.at_size;have z3:=hs3.first.size;have B4:Box w4 p4 (uA (.mk k f t u x ks) sa) 107:=Box.of_newA n4;refine ⟨?_,TreeAt.one (B4.ext hs5.ext (fun hh=>by have:=hs3.lt _ hh;omega)) (hS _ (by omega)) (yP w hA hs3 n4 hs5),(hs3.first.trans (Ext.new n4)).hst hs5⟩;have:IntKind.i64.wrap (1 - n)=1 - n:=IntWalk.i64_in _ (by omega);rw [this];cases fk <;> rfl
 ·rintro _ w' ⟨k,f,t,u,y,s,rfl,hn,hT,E⟩;cases hn;exact ⟨s,rfl,hT,E⟩
theorem jET (c:Int) (x:ByteArray):Calls prog 194 #[.int .u64 c,.string x] w (RetS S w (Sp.oK c x)):=by
 refine (w_R2 c x w (fun k f t u y s w'=>(⟨k,f,t,u,y,0,0⟩:Sp.Node)=(Sp.oK c x).node∧TreeAt S w' s (Sp.oK c x)∧Pure w w') ?_).mono ?_
 ·unfold m_R2;intro H1 w4 hs4;have E4:Pure w w4:=hs4.first;have z4:=E4.size;have hH:∀b,H1 b→b<w4.heap.size:=fun b hb=>hs4.lt b hb;refine (vO (S:=(w4.heap.size≤·)) w4 (fun _ h=>h) (Sp.jEI c) (Sp.yI x) Sl.nil Sl.nil TreeAt.leaf TreeAt.leaf).mono ?_;rintro _ w5 ⟨s5,rfl,hT5,E5⟩;refine ⟨_,_,_,_,_,s5,rfl,E5.keptP,?_⟩;refine (vO (S:=(w4.heap.size≤·)) w5 (fun b h=>by have:=E5.size;show w4.heap.size≤b;omega) (Sp.yI Sp.yZ) (Sp.uR (Sp.jEI c) (Sp.yI x)) Sl.nil s5 TreeAt.leaf hT5).mono ?_;rintro _ w6 ⟨s6,rfl,hT6,E6⟩;refine ⟨_,_,_,_,_,s6,rfl,E6.keptP,fun w7 hs7=>⟨rfl,?_,((E4.trans E5).trans E6).hst hs7⟩⟩;exact (hT6.ext hs7.ext (fun b hb hh=>by have:=hH b hh;have:w4.heap.size≤b:=hb;omega)).mono (fun b hb=>hS b (by have:w4.heap.size≤b:=hb;omega))
 ·rintro _ w' ⟨k,f,t,u,y,s,rfl,hn,hT,E⟩;cases hn;exact ⟨s,rfl,hT,E⟩
end
theorem jES (l:Sp.Letter) (hf:l.frm=0∨l.frm=1) (w0:World):Calls prog 143 #[.agg #[.int .i64 l.kind,.int .i64 l.frm,.int .u64 l.c,.string l.text,.bool l.fake]] w0 (RetS (w0.heap.size≤·) w0 (Sp.kX l true true)):=by
 obtain ⟨kd,f,c,x,fk⟩:=l;simp only at hf;generalize hR:Sp.kX ⟨kd,f,c,x,fk⟩ true true=R;refine (w_U2 kd f c x fk w0 (fun k f t u y s w'=>(⟨k,f,t,u,y,0,0⟩:Sp.Node)=R.node∧TreeAt (w0.heap.size≤·) w' s R∧Pure w0 w') ?_).mono ?_
 ·unfold m_U2;intro H2 w2 hs2;have E2:Pure w0 w2:=hs2.first;have z2:=E2.size;refine (jET (S:=(w2.heap.size≤·)) w2 (fun _ h=>h) c x).mono ?_;rintro _ w3 ⟨sd,rfl,hT3,E3⟩;refine ⟨_,_,_,_,_,sd,rfl,E3.keptP,?_⟩;have z3:=E3.size;have go:∀{H3:NP} {w5:World},Hst w0 H2 w3 H3 w5→TreeAt (fun b=>w0.heap.size≤b∧¬ H3 b) w5 sd (Sp.oK c x)∧Pure w0 w5∧(∀w:World,w5.heap.size≤w.heap.size→∀b,w.heap.size≤b→w0.heap.size≤b∧¬ H3 b):=fun {H3 w5} hs=>by
   have hd:∀b,(w2.heap.size≤b∧b<w3.heap.size)→¬ H3 b:=hs.disj (fun b hb=>⟨hb.2,fun hh=>by have:=hs2.lt b hh;omega⟩);refine ⟨(hT3.lt.ext hs.ext (fun b hb=>hd b hb)).mono (fun b hb=>⟨by have:=hb.1;omega,hd b hb⟩),(E2.trans E3).hst hs,fun w hw b hb=>⟨by have:=hs.ext.size;omega,fun hh=>by have:=hs.lt b hh;omega⟩⟩
  have fin:∀{H3:NP} {wa wb:World} {s:Sl} {T:Sp.Tree},TreeAt (fun b=>w0.heap.size≤b∧¬ H3 b) wa s T→Pure w0 wa→Hst w0 H3 wa H3 wb→T=R→R.node=R.node∧TreeAt (w0.heap.size≤·) wb s R∧Pure w0 wb:=fun {H3 wa wb s T} h E hs e=>by
   subst e;exact ⟨rfl,(h.ext hs.ext (fun b hb=>hb.2)).mono (fun b hb=>hb.1),E.hst hs⟩
  have fin2:∀{H3:NP} {wa wb:World} {s:Sl} {T:Sp.Tree},TreeAt (fun b=>w0.heap.size≤b∧¬ H3 b) wa s T→Pure w0 wa→Hst w0 H3 wa H3 wb→R=T→(⟨T.node.kind,T.node.frm,T.node.to,T.node.num,T.node.text,0,0⟩:Sp.Node)=R.node∧TreeAt (w0.heap.size≤·) wb s R∧Pure w0 wb:=fun {H3 wa wb s T} h E hs e=>by
   subst e;refine ⟨?_,(fin h E hs rfl).2⟩;cases R;rfl
  refine ⟨fun hk H3 w5 hs5=>?_,fun h1=>⟨fun hk H3 w5 hs5=>?_,fun h2=>⟨fun hk H3 w5 hs5=>?_,fun h3=>⟨fun hk H3 w5 hs5=>?_,fun h4=>⟨fun hk H3 w5 hs5=>?_,fun h5=>⟨fun hk H3 w5 hs5=>?_,fun h6 H3 w5 hs5=>?_⟩⟩⟩⟩⟩⟩
  ·have hk:=beq_iff_eq.1 hk;obtain ⟨hD,E5,hS⟩:=go hs5;refine (yL w5 (hS w5 (Nat.le_refl _)) f hf fk _ sd hD).mono ?_;rintro _ w6 ⟨s6,rfl,hT6,E6⟩;refine ⟨_,_,_,_,_,s6,rfl,E6.keptP,fun w7 hs7=>fin2 hT6 (E5.trans E6) hs7 ?_⟩;rw [← hR];unfold Sp.kX;rw [if_pos hk]
  ·have hk:=beq_iff_eq.1 hk;obtain ⟨hD,E5,hS⟩:=go hs5;refine (yV w5 (hS w5 (Nat.le_refl _)) f _ sd hD).mono ?_;rintro _ w6 ⟨s6,rfl,hT6,E6⟩;refine ⟨_,_,_,_,_,s6,rfl,E6.keptP,fun w7 hs7=>fin2 hT6 (E5.trans E6) hs7 ?_⟩;rw [← hR];unfold Sp.kX;rw [if_neg (fun e=>beq_eq_false_iff_ne.1 h1 e),if_pos hk]
  ·have hk:=beq_iff_eq.1 hk;obtain ⟨hD,E5,hS⟩:=go hs5;refine ⟨fun _=>True,trivial,?_⟩;rintro w10 e10;have E10:Pure w5 w10:=by rw [e10];exact Ext.drew w5
   refine (p_L _ w10).mono ?_;rintro _ w11 ⟨rfl,E11⟩;refine ⟨_,_,_,_,_,_,rfl,trivial,E11.keptP,?_⟩;refine (p_Q _ w11).mono ?_;rintro _ w12 ⟨rfl,E12⟩;refine ⟨_,_,_,_,_,_,rfl,E12.keptP,?_⟩;have z12:=((E10.trans E11).trans E12).size;refine (vO w12 (hS w12 z12) (Sp.yI Sp.qE) (Sp.jEI c) Sl.nil Sl.nil TreeAt.leaf TreeAt.leaf).mono ?_;rintro _ w13 ⟨s13,rfl,hT13,E13⟩;refine ⟨_,_,_,_,_,s13,rfl,E13.keptP,?_⟩;refine (yV w13 (hS w13 (by have:=E13.size;omega)) 0 _ s13 hT13).mono ?_;rintro _ w14 ⟨s14,rfl,hT14,E14⟩;refine ⟨_,_,_,_,_,s14,rfl,E14.keptP,fun w15 hs15=>fin2 hT14 (((((E5.trans E10).trans E11).trans E12).trans E13).trans E14) hs15 ?_⟩;rw [← hR];unfold Sp.kX;rw [if_neg (fun e=>beq_eq_false_iff_ne.1 h1 e),if_neg (fun e=>beq_eq_false_iff_ne.1 h2 e),if_pos hk]
  ·have hk:=beq_iff_eq.1 hk;obtain ⟨hD,E5,hS⟩:=go hs5;refine ⟨fun _=>True,trivial,?_⟩;rintro w16 e16;have E16:Pure w5 w16:=by rw [e16];exact Ext.drew w5
   refine (p_L _ w16).mono ?_;rintro _ w17 ⟨rfl,E17⟩;refine ⟨_,_,_,_,_,_,rfl,trivial,E17.keptP,?_⟩;have E57:=E16.trans E17;refine (yL w17 (hS w17 E57.size) 0 (.inl rfl) fk _ sd (hD.pure E57)).mono ?_;rintro _ w18 ⟨s18,rfl,hT18,E18⟩;refine ⟨_,_,_,_,_,s18,rfl,trivial,E18.keptP,?_⟩;have E58:=E57.trans E18;refine (yL w18 (hS w18 E58.size) 1 (.inr rfl) fk _ sd (hD.pure E58)).mono ?_;rintro _ w19 ⟨s19,rfl,hT19,E19⟩;refine ⟨_,_,_,_,_,s19,rfl,trivial,E19.keptP,?_⟩;have E59:=E58.trans E19;refine (vO w19 (hS w19 E59.size) _ _ s18 s19 (hT18.pure E19) hT19).mono ?_;rintro _ w20 ⟨s20,rfl,hT20,E20⟩;refine ⟨_,_,_,_,_,s20,rfl,trivial,E20.keptP,?_⟩;have E510:=E59.trans E20;refine (vO w20 (hS w20 E510.size) (Sp.yI Sp.vC) _ Sl.nil s20 TreeAt.leaf hT20).mono ?_;rintro _ w21 ⟨s21,rfl,hT21,E21⟩;refine ⟨_,_,_,_,_,s21,rfl,trivial,E21.keptP,?_⟩;have E511:=E510.trans E21;refine (yV w21 (hS w21 E511.size) f _ s21 hT21).mono ?_;rintro _ w22 ⟨s22,rfl,hT22,E22⟩;refine ⟨_,_,_,_,_,s22,rfl,E22.keptP,fun w23 hs23=>fin2 hT22 ((E5.trans E511).trans E22) hs23 ?_⟩;rw [← hR];unfold Sp.kX;rw [if_neg (fun e=>beq_eq_false_iff_ne.1 h1 e),if_neg (fun e=>beq_eq_false_iff_ne.1 h2 e),if_neg (fun e=>beq_eq_false_iff_ne.1 h3 e),if_pos hk];simp only [Bool.and_true]
  ·have hk:=beq_iff_eq.1 hk;obtain ⟨hD,E5,hS⟩:=go hs5;refine ⟨fun _=>True,trivial,?_⟩;rintro w10 e10;have E10:Pure w5 w10:=by rw [e10];exact Ext.drew w5
   refine (p_L _ w10).mono ?_;rintro _ w11 ⟨rfl,E11⟩;refine ⟨_,_,_,_,_,_,rfl,trivial,E11.keptP,?_⟩;refine (p_Q _ w11).mono ?_;rintro _ w12 ⟨rfl,E12⟩;refine ⟨_,_,_,_,_,_,rfl,E12.keptP,?_⟩;have z12:=((E10.trans E11).trans E12).size;refine (vO w12 (hS w12 z12) (Sp.yI Sp.kH) (Sp.jEI c) Sl.nil Sl.nil TreeAt.leaf TreeAt.leaf).mono ?_;rintro _ w13 ⟨s13,rfl,hT13,E13⟩;refine ⟨_,_,_,_,_,s13,rfl,E13.keptP,?_⟩;refine (yV w13 (hS w13 (by have:=E13.size;omega)) 2 _ s13 hT13).mono ?_;rintro _ w14 ⟨s14,rfl,hT14,E14⟩;refine ⟨_,_,_,_,_,s14,rfl,E14.keptP,fun w15 hs15=>fin2 hT14 (((((E5.trans E10).trans E11).trans E12).trans E13).trans E14) hs15 ?_⟩;rw [← hR];unfold Sp.kX;rw [if_neg (fun e=>beq_eq_false_iff_ne.1 h1 e),if_neg (fun e=>beq_eq_false_iff_ne.1 h2 e),if_neg (fun e=>beq_eq_false_iff_ne.1 h3 e),if_neg (fun e=>beq_eq_false_iff_ne.1 h4 e),if_pos hk]
  ·have hk:=beq_iff_eq.1 hk;obtain ⟨hD,E5,hS⟩:=go hs5;refine ⟨fun _=>True,trivial,?_⟩;rintro w10 e10;have E10:Pure w5 w10:=by rw [e10];exact Ext.drew w5
   refine (p_L _ w10).mono ?_;rintro _ w11 ⟨rfl,E11⟩;refine ⟨_,_,_,_,_,_,rfl,trivial,E11.keptP,?_⟩;have z11:=(E10.trans E11).size;refine (vO w11 (hS w11 z11) (Sp.yI Sp.kN) _ Sl.nil sd TreeAt.leaf (hD.pure (E10.trans E11))).mono ?_;rintro _ w13 ⟨s13,rfl,hT13,E13⟩;refine ⟨_,_,_,_,_,s13,rfl,E13.keptP,?_⟩;refine (yV w13 (hS w13 (by have:=E13.size;omega)) 2 _ s13 hT13).mono ?_;rintro _ w14 ⟨s14,rfl,hT14,E14⟩;refine ⟨_,_,_,_,_,s14,rfl,E14.keptP,fun w15 hs15=>fin2 hT14 ((((E5.trans E10).trans E11).trans E13).trans E14) hs15 ?_⟩;rw [← hR];unfold Sp.kX;rw [if_neg (fun e=>beq_eq_false_iff_ne.1 h1 e),if_neg (fun e=>beq_eq_false_iff_ne.1 h2 e),if_neg (fun e=>beq_eq_false_iff_ne.1 h3 e),if_neg (fun e=>beq_eq_false_iff_ne.1 h4 e),if_neg (fun e=>beq_eq_false_iff_ne.1 h5 e),if_pos hk]
  ·obtain ⟨hD,E5,hS⟩:=go hs5;refine ⟨fun _=>True,trivial,?_⟩;rintro w10 e10;have E10:Pure w5 w10:=by rw [e10];exact Ext.drew w5
   refine (p_L _ w10).mono ?_;rintro _ w11 ⟨rfl,E11⟩;refine ⟨_,_,_,_,_,_,rfl,trivial,E11.keptP,?_⟩;refine (p_Q _ w11).mono ?_;rintro _ w12 ⟨rfl,E12⟩;refine ⟨_,_,_,_,_,_,rfl,E12.keptP,?_⟩;have z12:=((E10.trans E11).trans E12).size;refine (vO w12 (hS w12 z12) (Sp.yI Sp.jBG) (Sp.jEI c) Sl.nil Sl.nil TreeAt.leaf TreeAt.leaf).mono ?_;rintro _ w13 ⟨s13,rfl,hT13,E13⟩;refine ⟨_,_,_,_,_,s13,rfl,E13.keptP,fun w15 hs15=>fin2 hT13 ((((E5.trans E10).trans E11).trans E12).trans E13) hs15 ?_⟩;rw [← hR];unfold Sp.kX;rw [if_neg (fun e=>beq_eq_false_iff_ne.1 h1 e),if_neg (fun e=>beq_eq_false_iff_ne.1 h2 e),if_neg (fun e=>beq_eq_false_iff_ne.1 h3 e),if_neg (fun e=>beq_eq_false_iff_ne.1 h4 e),if_neg (fun e=>beq_eq_false_iff_ne.1 h5 e),if_neg (fun e=>beq_eq_false_iff_ne.1 h6 e)]
 ·rintro _ w' ⟨k,f,t,u,y,s,rfl,hn,hT,E⟩;obtain ⟨k2,f2,t2,u2,x2,ks⟩:=R;cases hn;exact ⟨s,rfl,hT,E⟩
theorem jBO {l:Sp.Letter} (h:Sp.vN l=0):l.frm=0∨l.frm=1:=by
 unfold Sp.vN at h;split at h
 ·cases h
 ·rename_i h1;simp only [not_or] at h1;have:=h1.2.2.1;by_cases h0:l.frm=0
  ·exact .inl h0
  ·exact .inr (Classical.byContradiction (fun h2=>this ⟨h0,h2⟩))
def kJ (L:Sp.Pool) (l:Sp.Letter):Int×Int×Sp.Pool:=if Sp.vN l≠0 then (0,Sp.vN l,L) else Sp.of L (Sp.kX l true true)
theorem jAJ (p:Addr) (l:Sp.Letter) (w0:World) {L:Sp.Pool} {F:NP} (hP:jO w0 p L F) (hok:Sp.Ok L) :
  Calls prog 76 #[.pointer (some p),.agg #[.int .i64 l.kind,.int .i64 l.frm,.int .u64 l.c,.string l.text,.bool l.fake]] w0 (fun e w'=>∃r1 r2:Int,e=.returned (.tuple #[.int .i64 r1,.int .i64 r2])∧(r1=(kJ L l).1∧r2=(kJ L l).2.1∧∃F',jO w' p (kJ L l).2.2 F'∧Ext F w0 w'∧∀b,F' b→F b∨w0.heap.size≤b)):=by
 refine w_V2 (some p) l.kind l.frm l.c l.text l.fake w0 (fun r1 r2 w'=>r1=(kJ L l).1∧r2=(kJ L l).2.1∧∃F',jO w' p (kJ L l).2.2 F'∧Ext F w0 w'∧∀b,F' b→F b∨w0.heap.size≤b) ?_
 unfold m_V2
 intro H1 w1 hs1
 have E1:Pure w0 w1:=hs1.first
 have hF:∀b,F b→b<w0.heap.size:=fun b hb=>hP.lt hb
 refine (jDM l w1).mono ?_
 rintro _ w2 ⟨_,rfl,rfl,E2⟩
 have E02:=E1.trans E2
 refine ⟨_,rfl,E2.keptP,fun hc=>?_,fun hc=>⟨fun h=>(by cases h),fun _=>?_⟩⟩
 ·have hc:=bne_iff_ne.1 hc
  have e:kJ L l=(0,Sp.vN l,L):=by unfold kJ;rw [if_pos hc]
  rw [e];exact ⟨rfl,rfl,F,hP.pure E02,Ext.pure E02,fun b hb=>.inl hb⟩
 ·have hc:Sp.vN l=0:=by simpa using hc
  have e:kJ L l=Sp.of L (Sp.kX l true true):=by unfold kJ;rw [if_neg (by simpa using hc)]
  rw [e]
  refine (jES l (jBO hc) w2).mono ?_
  rintro _ w3 ⟨s3,he,hT3,E3⟩
  generalize Sp.kX l true true=T at *
  obtain ⟨tk,tf,tt,tu,tx,tks⟩:=T
  have he:_=Ending.returned (.agg #[.int .i64 tk,.int .i64 tf,.int .i64 tt,.int .u64 tu,.string tx,s3.v]):=he
  refine ⟨tk,tf,tt,tu,tx,s3,he,E3.keptP,?_⟩
  have E03:=E02.trans E3
  refine (c_Of (S:=fun b=>w2.heap.size≤b∧b<w3.heap.size) p (.mk tk tf tt tu tx tks) s3 w3 hT3.lt (hP.pure E03) hok (fun b hb hh=>by have:=hF b hb;have:=E02.size;omega) (fun b hb=>hb.2)).mono ?_
  rintro _ w4 ⟨r1,r2,rfl,h12,F',hP4,X4,hF4⟩
  obtain ⟨e1,e2⟩:=Prod.mk.inj h12
  refine ⟨r1,r2,rfl,X4.kept (fun b hb hh=>by have:=hs1.old b hb;have:=hF b hh;omega),e1,e2,F',hP4,(Ext.pure E03).trans X4,fun b hb=>(hF4 b hb).imp id (fun h=>by have:=E03.size;omega)⟩
end Go.Proofs
end
section
open Go Go.SE
namespace Go.Sp
def qO (L:Pool) (a b:Int):Int×Int×Pool :=
 if (uS L a b).2.1=true then (0,121,L) else if (uS L a b).2.2≠0 then (0,(uS L a b).2.2,L) else Go.Proofs.kJ L ⟨6,0,(uS L a b).1.c,(uS L a b).1.text,false⟩
def yQ (m:Int×Int×Pool) (f:Int→Pool→Int×Int×Pool):Int×Int×Pool:=if m.2.1≠0 then (0,m.2.1,m.2.2) else f m.1 m.2.2
def qW:ByteArray:=⟨#[114,101,115,111,108,118,101]⟩
def jAA (L:Pool) (who a b:Int):Int×Int×Pool :=
 if who≠0∧who≠1 then (0,2,L) else if (uS L a b).2.2≠0 then (0,(uS L a b).2.2,L)
 else yQ (make L ⟨4,0,0,0,⟨#[]⟩,a,b⟩) fun t L=>yQ (make L ⟨3,0,0,0,qW,0,0⟩) fun d L=>yQ (make L ⟨4,0,0,0,⟨#[]⟩,d,t⟩) fun t L=>make L ⟨7,who,0,0,⟨#[]⟩,t,0⟩
end Go.Sp
namespace Go.Proofs
open Tryz
attribute [local irreducible] Calls
theorem c_Data (p:Addr) (w0:World) {L:Sp.Pool} {F:NP} (hP:jO w0 p L F) (hok:Sp.Ok L) (x:ByteArray):Calls prog 92 #[.pointer (some p),.string x] w0 (MakePost p L F w0 ⟨3,0,0,0,x,0,0⟩):=by
 refine w_R1 _ _ w0 (fun r1 r2 w'=>(r1,r2)=((Sp.make L ⟨3,0,0,0,x,0,0⟩).1,(Sp.make L ⟨3,0,0,0,x,0,0⟩).2.1)∧∃F',jO w' p (Sp.make L ⟨3,0,0,0,x,0,0⟩).2.2 F'∧Ext F w0 w'∧∀b,F' b→F b∨w0.heap.size≤b) ?_;unfold m_R1;refine (jBD p _ _ _ _ _ _ _ w0 hP hok).mono ?_;rintro _ w1 ⟨r1,r2,rfl,h⟩;exact ⟨r1,r2,rfl,h⟩
theorem xU (p:Addr) (t who c:Int) (x:ByteArray) (w0:World) {L:Sp.Pool} {F:NP} (hP:jO w0 p L F) (hok:Sp.Ok L) :
  Calls prog 45 #[.pointer (some p),.int .i64 t,.int .i64 who,.int .u64 c,.string x] w0 (fun e w'=>∃r:Bool,e=.returned (.bool r)∧(r=(Sp.jEY L t who c x == 0)∧Pure w0 w')):=by
 refine w_C2 _ _ _ _ _ w0 (fun r w'=>r=(Sp.jEY L t who c x == 0)∧Pure w0 w') ?_
 unfold m_C2
 refine (jBB (some p) t who c x w0 hP hok).mono ?_
 rintro _ w1 ⟨_,rfl,rfl,E⟩
 exact ⟨_,rfl,rfl,E⟩
abbrev MkP (S:Int×Int×Sp.Pool) (p:Addr) (F:NP) (w0 w':World):Prop:=∃F',jO w' p S.2.2 F'∧Ext F w0 w'∧∀b,F' b→F b∨w0.heap.size≤b
theorem qR (p:Addr) (a b:Int) (w0:World) {L:Sp.Pool} {F:NP} (hP:jO w0 p L F) (hok:Sp.Ok L) :
  Calls prog 32 #[.pointer (some p),.int .i64 a,.int .i64 b] w0 (fun e w'=>∃r1 r2:Int,e=.returned (.tuple #[.int .i64 r1,.int .i64 r2])∧(r1=(Sp.qO L a b).1∧r2=(Sp.qO L a b).2.1∧MkP (Sp.qO L a b) p F w0 w')):=by
 refine w_A2 (some p) a b w0 (fun r1 r2 w'=>r1=(Sp.qO L a b).1∧r2=(Sp.qO L a b).2.1∧MkP (Sp.qO L a b) p F w0 w') ?_
 unfold m_A2
 refine (tO p a b w0 hP hok).mono ?_
 rintro _ w1 ⟨k,f,c,x,g,r,r2,rfl,hb,E1⟩
 have e:Sp.qO L a b=if r=true then (0,121,L) else if r2≠0 then (0,r2,L) else kJ L ⟨6,0,c,x,false⟩:=by
  unfold Sp.qO;rw [← hb]
 have hF:∀b,F b→b<w0.heap.size:=fun b hb=>hP.lt hb
 refine ⟨k,f,c,x,g,r,r2,rfl,E1.keptP,fun h H2 w4 hs4=>?_,fun h H2 w4 hs4=>?_⟩
 ·have hS : Sp.qO L a b = (0, cond r 121 r2, L) := by
   rw [e];cases r
   ·have h:r2≠0:=by simpa using h
    rw [if_neg (by simp),if_pos h];rfl
   ·rfl
  rw [hS]
  exact ⟨rfl,rfl,F,hP.pure (E1.hst hs4),Ext.pure (E1.hst hs4),fun b hb=>.inl hb⟩
 ·have hS : Sp.qO L a b = kJ L ⟨6, 0, c, x, false⟩ := by
   rw [e];cases r
   ·have h:r2=0:=by simpa using h
    rw [if_neg (by simp),if_neg (by simp [h])]
   ·simp at h
  rw [hS]
  have E4:=E1.hst hs4
  refine (jAJ p ⟨6,0,c,x,false⟩ w4 (hP.pure E4) hok).mono ?_
  rintro _ w5 ⟨r3,r4,rfl,e3,e4,F',hP5,X5,hF5⟩
  refine ⟨r3,r4,rfl,X5.kept (fun b hb hh=>by have:=hs4.old b hb;have:=hF b hh;omega),e3,e4,F',hP5,(Ext.pure E4).trans X5,fun b hb=>(hF5 b hb).imp id (fun h=>by have:=E4.size;omega)⟩
theorem tP (p:Addr) (who a b:Int) (w0:World) {L:Sp.Pool} {F:NP} (hP:jO w0 p L F) (hok:Sp.Ok L) :
  Calls prog 33 #[.pointer (some p),.int .i64 who,.int .i64 a,.int .i64 b] w0 (fun e w'=>∃r1 r2:Int,e=.returned (.tuple #[.int .i64 r1,.int .i64 r2])∧(r1=(Sp.jAA L who a b).1∧r2=(Sp.jAA L who a b).2.1∧MkP (Sp.jAA L who a b) p F w0 w')):=by
 refine w_B2 (some p) who a b w0 (fun r1 r2 w'=>r1=(Sp.jAA L who a b).1∧r2=(Sp.jAA L who a b).2.1∧MkP (Sp.jAA L who a b) p F w0 w') ?_
 unfold m_B2
 have hF:∀b,F b→b<w0.heap.size:=fun b hb=>hP.lt hb
 refine ⟨fun h H1 w1 hs1=>?_,fun h H1 w1 hs1=>?_⟩
 ·have hS : Sp.jAA L who a b = (0, 2, L) := by
   unfold Sp.jAA;rw [if_pos (by simpa using h)]
  rw [hS]
  exact ⟨rfl,rfl,F,hP.pure hs1.first,Ext.pure hs1.first,fun b hb=>.inl hb⟩
 refine (tO p a b w1 (hP.pure hs1.first) hok).mono ?_
 rintro _ w2 ⟨k,f,c,x,g,r,r2,rfl,hb,E2⟩
 have e:Sp.jAA L who a b=if r2≠0 then (0,r2,L) else Sp.yQ (Sp.make L ⟨4,0,0,0,⟨#[]⟩,a,b⟩) fun t L=>Sp.yQ (Sp.make L ⟨3,0,0,0,Sp.qW,0,0⟩) fun d L=>Sp.yQ (Sp.make L ⟨4,0,0,0,⟨#[]⟩,d,t⟩) fun t L=>Sp.make L ⟨7,who,0,0,⟨#[]⟩,t,0⟩:=by
  unfold Sp.jAA;rw [if_neg (by simpa using h),← hb]
 rw [e]
 have E02:=hs1.first.trans E2
 refine ⟨k,f,c,x,g,r,r2,rfl,E2.keptP,fun h2 H2 w4 hs4=>?_,fun h2 H2 w4 hs4=>?_⟩
 ·rw [if_pos (by simpa using h2)]
  exact ⟨rfl,rfl,F,hP.pure (E02.hst hs4),Ext.pure (E02.hst hs4),fun b hb=>.inl hb⟩
 rw [if_neg (by simpa using h2)]
 have E4:=E02.hst hs4
 have step:∀{w w':World} {F1 F2:NP},Ext F w0 w→(∀b,F1 b→F b∨w4.heap.size≤b)→w4.heap.size≤w.heap.size→Ext F1 w w'→(∀b,F2 b→F1 b∨w.heap.size≤b)→Ext F w0 w'∧(∀b,F2 b→F b∨w4.heap.size≤b)∧w4.heap.size≤w'.heap.size∧Kept H2 w w':=by
  intro w w' F1 F2 X h1 hsz X1 h2;have:=E4.size;refine ⟨X.trans' X1 (fun i hi hf=>(h1 i hf).elim id (fun h=>by omega)),fun b hb=>(h2 b hb).elim (h1 b) (fun h=>.inr (by omega)),by have:=X1.size;omega,X1.kept (fun b hb hf=>?_)⟩;rcases h1 b hf with h | h
  ·have:=hs4.old b hb;have:=hF b h;omega
  ·have:=hs4.lt b hb;omega
 have fin:∀b,∀{F2:NP},(∀b,F2 b→F b∨w4.heap.size≤b)→F2 b→F b∨w0.heap.size≤b:=fun b _ h hb=>(h b hb).imp id (fun h=>by have:=E4.size;omega)
 refine (jFI p w4 (hP.pure E4) hok a b).mono ?_
 rintro _ w5 ⟨r3,r4,rfl,h34,F5,hP5,X5,hF5⟩
 have ok5:=Sp.gU hok ⟨4,0,0,0,⟨#[]⟩,a,b⟩
 generalize Sp.make L ⟨4,0,0,0,⟨#[]⟩,a,b⟩=m5 at *
 obtain ⟨m1,m2,L5⟩:=m5
 obtain ⟨rfl,rfl⟩:=Prod.mk.inj h34
 obtain ⟨Y5,G5,s5,k5⟩:=step (Ext.pure E4) (fun b hb=>.inl hb) (Nat.le_refl _) X5 hF5
 refine ⟨r3,r4,rfl,k5,fun h5=>?_,fun h5=>?_⟩
 ·unfold Sp.yQ;rw [if_pos (by simpa using h5)]
  exact ⟨rfl,rfl,F5,hP5,Y5,fun b hb=>fin b G5 hb⟩
 rw [Sp.yQ,if_neg (by simpa using h5)]
 refine (c_Data p w5 hP5 ok5 Sp.qW).mono ?_
 rintro _ w6 ⟨r5,r6,rfl,h56,F6,hP6,X6,hF6⟩
 have ok6:=Sp.gU ok5 ⟨3,0,0,0,Sp.qW,0,0⟩
 simp only at *
 generalize Sp.make L5 ⟨3,0,0,0,Sp.qW,0,0⟩=m6 at *
 obtain ⟨m1,m2,L6⟩:=m6
 obtain ⟨rfl,rfl⟩:=Prod.mk.inj h56
 obtain ⟨Y6,G6,s6,k6⟩:=step Y5 G5 s5 X6 hF6
 refine ⟨r5,r6,rfl,k6,fun h6=>?_,fun h6=>?_⟩
 ·unfold Sp.yQ;rw [if_pos (by simpa using h6)]
  exact ⟨rfl,rfl,F6,hP6,Y6,fun b hb=>fin b G6 hb⟩
 rw [Sp.yQ,if_neg (by simpa using h6)]
 refine (jFI p w6 hP6 ok6 r5 r3).mono ?_
 rintro _ w7 ⟨r7,r8,rfl,h78,F7,hP7,X7,hF7⟩
 have ok7:=Sp.gU ok6 ⟨4,0,0,0,⟨#[]⟩,r5,r3⟩
 simp only at *
 generalize Sp.make L6 ⟨4,0,0,0,⟨#[]⟩,r5,r3⟩=m7 at *
 obtain ⟨m1,m2,L7⟩:=m7
 obtain ⟨rfl,rfl⟩:=Prod.mk.inj h78
 obtain ⟨Y7,G7,s7,k7⟩:=step Y6 G6 s6 X7 hF7
 refine ⟨r7,r8,rfl,k7,fun h7=>?_,fun h7=>?_⟩
 ·unfold Sp.yQ;rw [if_pos (by simpa using h7)]
  exact ⟨rfl,rfl,F7,hP7,Y7,fun b hb=>fin b G7 hb⟩
 rw [Sp.yQ,if_neg (by simpa using h7)]
 refine (c_Sign p w7 hP7 ok7 who r7).mono ?_
 rintro _ w8 ⟨r9,r10,rfl,h90,F8,hP8,X8,hF8⟩
 obtain ⟨e9,e10⟩:=Prod.mk.inj h90
 obtain ⟨Y8,G8,_,k8⟩:=step Y7 G7 s7 X8 hF8
 exact ⟨r9,r10,rfl,k8,e9,e10,F8,hP8,Y8,fun b hb=>fin b G8 hb⟩
end Go.Proofs
end
section
open Go Go.SE
namespace Go.Sp
theorem yW {L:Pool} (h:Wf L) (l:Letter):Wf (Go.Proofs.kJ L l).2.2:=by
 unfold Go.Proofs.kJ;split
 ·exact h
 ·exact of_wf h _
theorem jEN {L:Pool} (h:Wf L) (a b:Int):Wf (qO L a b).2.2:=by
 unfold qO;split
 ·exact h
 ·split
  ·exact h
  ·exact yW h _
theorem lW {m:Int×Int×Pool} {f:Int→Pool→Int×Int×Pool} (h:Wf m.2.2) (hf:∀t L,Wf L→Wf (f t L).2.2):Wf (yQ m f).2.2:=by
 unfold yQ;split
 ·exact h
 ·exact hf _ _ h
theorem jFW {L:Pool} (h:Wf L) (who a b:Int):Wf (jAA L who a b).2.2:=by
 unfold jAA;split
 ·exact h
 ·split
  ·exact h
  ·exact lW (gT h _) fun t L h=>lW (gT h _) fun d L h=>lW (gT h _) fun t L h=>gT h _
def x12:ByteArray:=⟨#[120]⟩
def v1:Pool:=(Go.Proofs.kJ [] ⟨1,0,7,x12,false⟩).2.2
def v2:Pool:=(Go.Proofs.kJ v1 ⟨1,1,7,x12,false⟩).2.2
def v3:Pool:=(qO v2 6 7).2.2
def v4:Pool:=(jAA v3 1 6 7).2.2
theorem lv1:(Go.Proofs.kJ [] ⟨1,0,7,x12,false⟩).1=6:=by kernel_rfl
theorem lv2:(Go.Proofs.kJ v1 ⟨1,1,7,x12,false⟩).1=7:=by kernel_rfl
theorem lv3:(qO v2 6 7).1=10∧(qO v2 6 7).2.1=0:=by constructor <;> kernel_rfl
theorem lv4:qO v3 6 6=(0,122,v3):=by kernel_rfl
theorem lv5:qO v3 6 10=(0,120,v3):=by kernel_rfl
theorem lv6:(jAA v3 1 6 7).1=14∧(jAA v3 1 6 7).2.1=0:=by constructor <;> kernel_rfl
theorem lv7:xC v4 14=(⟨4,1,7,x12,false⟩,true):=by kernel_rfl
theorem lv8:jEY v4 10 0 7 x12=0∧jEY v4 6 0 7 x12=2∧(ofS v4 10).length=3:=by refine ⟨?_,?_,?_⟩ <;> kernel_rfl
theorem lvw2:Wf v2:=yW (yW Wf.nil _) _
theorem lvw3:Wf v3:=jEN lvw2 _ _
theorem lvw4:Wf v4:=jFW lvw3 _ _ _
theorem lvn:(∀t:Int,(t=14∨t=13∨t=12∨t=11∨t=6∨t=7∨t=5∨t=1∨t=4∨t=2∨t=3)→∀r u,vP v4 r t u→(u=14∨u=13∨u=12∨u=11∨u=6∨u=7∨u=5∨u=1∨u=4∨u=2∨u=3)):=by
 have n14:jG v4 14=⟨7,1,0,0,⟨#[]⟩,13,0⟩:=by kernel_rfl
 have n13:jG v4 13=⟨4,0,0,0,⟨#[]⟩,12,11⟩:=by kernel_rfl
 have n12:jG v4 12=⟨3,0,0,0,qW,0,0⟩:=by kernel_rfl
 have n11:jG v4 11=⟨4,0,0,0,⟨#[]⟩,6,7⟩:=by kernel_rfl
 have n6:jG v4 6=⟨8,0,1,0,⟨#[]⟩,5,0⟩:=by kernel_rfl
 have n7:jG v4 7=⟨8,1,0,0,⟨#[]⟩,5,0⟩:=by kernel_rfl
 have n5:jG v4 5=⟨4,0,0,0,⟨#[]⟩,1,4⟩:=by kernel_rfl
 have n1:jG v4 1=⟨3,0,0,0,⟨#[100,101,97,108]⟩,0,0⟩:=by kernel_rfl
 have n4:jG v4 4=⟨4,0,0,0,⟨#[]⟩,2,3⟩:=by kernel_rfl
 have n2:jG v4 2=⟨2,0,0,7,⟨#[]⟩,0,0⟩:=by kernel_rfl
 have n3:jG v4 3=⟨3,0,0,0,x12,0,0⟩:=by kernel_rfl
 intro t ht r u ha;unfold vP at ha;rcases ht with rfl | rfl | rfl | rfl | rfl | rfl | rfl | rfl | rfl | rfl | rfl
 ·rw [n14] at ha;simp [kE] at ha;omega
 ·rw [n13] at ha;simp [kE] at ha;omega
 ·rw [n12] at ha;simp [kE] at ha
 ·rw [n11] at ha;simp [kE] at ha;omega
 ·rw [n6] at ha;simp [kE] at ha;omega
 ·rw [n7] at ha;simp [kE] at ha;omega
 ·rw [n5] at ha;simp [kE] at ha;omega
 ·rw [n1] at ha;simp [kE] at ha
 ·rw [n4] at ha;simp [kE] at ha;omega
 ·rw [n2] at ha;simp [kE] at ha
 ·rw [n3] at ha;simp [kE] at ha
theorem lv9 {fs:List Fact} (h:jGN v4 (oG v4 [14]) fs):fs.length=3:=by
 have hg:oG v4 [14]=[14]:=by kernel_rfl
 have e14:ofS v4 14=[⟨4,1,7,x12⟩,⟨1,0,7,x12⟩,⟨1,1,7,x12⟩]:=by kernel_rfl
 rw [hg] at h;have hs:([⟨1,0,7,x12⟩,⟨1,1,7,x12⟩,⟨4,1,7,x12⟩]:List Fact).Pairwise LtF:=by
  simp [LtF]
 have:fs=[⟨1,0,7,x12⟩,⟨1,1,7,x12⟩,⟨4,1,7,x12⟩]:=by
  refine oP h.1 hs fun x=>(h.2 x).trans ⟨?_,fun hx=>⟨14,.given (by simp),?_⟩⟩
  ·rintro ⟨t,ht,hx⟩;have hin:t=14∨t=13∨t=12∨t=11∨t=6∨t=7∨t=5∨t=1∨t=4∨t=2∨t=3:=by
    clear hx;induction ht with
    | given hg=>simp at hg;simp [hg]
    | aris _ ha ih=>exact lvn _ ih _ _ ha
   rcases hin with rfl | rfl | rfl | rfl | rfl | rfl | rfl | rfl | rfl | rfl | rfl
   ·rw [e14] at hx;simp at hx ⊢;rcases hx with h | h | h <;> simp [h]
   ·rw [show ofS v4 13=[] by kernel_rfl] at hx;simp at hx
   ·rw [show ofS v4 12=[] by kernel_rfl] at hx;simp at hx
   ·rw [show ofS v4 11=[] by kernel_rfl] at hx;simp at hx
   ·rw [show ofS v4 6=[⟨1,0,7,x12⟩] by kernel_rfl] at hx;simp at hx;simp [hx]
   ·rw [show ofS v4 7=[⟨1,1,7,x12⟩] by kernel_rfl] at hx;simp at hx;simp [hx]
   ·rw [show ofS v4 5=[] by kernel_rfl] at hx;simp at hx
   ·rw [show ofS v4 1=[] by kernel_rfl] at hx;simp at hx
   ·rw [show ofS v4 4=[] by kernel_rfl] at hx;simp at hx
   ·rw [show ofS v4 2=[] by kernel_rfl] at hx;simp at hx
   ·rw [show ofS v4 3=[] by kernel_rfl] at hx;simp at hx
  ·rw [e14];simp at hx ⊢;rcases hx with h | h | h <;> simp [h]
 rw [this];rfl
end Go.Sp
end
section
open Go Go.SE
namespace Go.Proofs
open Tryz
attribute [local irreducible] Calls
structure Mine (w0:World) (p:Addr) (L:Sp.Pool) (F:NP) (w:World):Prop where
 pool:jO w p L F
 own:∀b,F b→w0.heap.size≤b
 pure:Pure w0 w
theorem Mine.then {w0 w w':World} {p:Addr} {L:Sp.Pool} {F:NP} (h:Mine w0 p L F w) (E:Pure w w'):Mine w0 p L F w':=⟨h.pool.pure E,h.own,h.pure.trans E⟩
theorem Mine.mk' {w0 w w':World} {p:Addr} {L:Sp.Pool} {F:NP} {S:Int×Int×Sp.Pool} (h:Mine w0 p L F w) (m:MkP S p F w w'):∃F',Mine w0 p S.2.2 F' w'∧Kept None w w':=by
 obtain ⟨F',hP,X,hF⟩:=m;exact ⟨F',⟨hP,fun b hb=>(hF b hb).elim (h.own b) (fun h'=>by have:=h.pure.size;omega),h.pure.trans' X (fun i hi hf=>by have:=h.own i hf;omega)⟩,X.kept (fun b h=>h.elim)⟩
theorem jAY (w0:World):Calls prog 24 #[] w0 (fun e w'=>∃r:Bool,e=.returned (.bool r)∧(r=true∧Pure w0 w')):=by
 refine w_E w0 (fun r w'=>r=true∧Pure w0 w') ?_;unfold m_E;refine (c_New w0).mono ?_;rintro _ w1 ⟨_,rfl,p,rfl,E1,F1,hP1,hF1⟩;have M1:Mine w0 p [] F1 w1:=⟨hP1,hF1,E1⟩;refine ⟨_,rfl,E1.keptP,Br.f rfl ?_⟩;refine (jAJ p ⟨1,0,7,Sp.x12,false⟩ w1 M1.pool Sp.Wf.nil.ok).mono ?_;rintro _ w2 ⟨r2,r3,rfl,e2,_,m2⟩;obtain ⟨F2,M2,k2⟩:=M1.mk' m2;obtain rfl:r2=6:=e2.trans Sp.lv1;refine ⟨_,_,rfl,k2,?_⟩;refine (jAJ p ⟨1,1,7,Sp.x12,false⟩ w2 M2.pool (Sp.yW Sp.Wf.nil _).ok).mono ?_;rintro _ w3 ⟨r4,r5,rfl,e4,_,m3⟩;obtain ⟨F3,M3,k3⟩:=M2.mk' m3;obtain rfl:r4=7:=e4.trans Sp.lv2;refine ⟨_,_,rfl,k3,?_⟩;have M3:Mine w0 p Sp.v2 F3 w3:=M3;refine (qR p 6 7 w3 M3.pool Sp.lvw2.ok).mono ?_;rintro _ w4 ⟨r6,r7,rfl,e6,e7,m4⟩;obtain ⟨F4,M4,k4⟩:=M3.mk' m4;obtain rfl:r6=10:=e6.trans Sp.lv3.1;obtain rfl:r7=0:=e7.trans Sp.lv3.2;refine ⟨_,_,rfl,k4,?_⟩;have M4:Mine w0 p Sp.v3 F4 w4:=M4;refine (qR p 6 6 w4 M4.pool Sp.lvw3.ok).mono ?_;rintro _ w5 ⟨r8,r9,rfl,e8,e9,m5⟩;rw [Sp.lv4] at e8 e9 m5;obtain ⟨F5,M5,k5⟩:=M4.mk' m5;obtain rfl:r9=122:=e9;refine ⟨_,_,rfl,k5,?_⟩;have M5:Mine w0 p Sp.v3 F5 w5:=M5;refine (qR p 6 10 w5 M5.pool Sp.lvw3.ok).mono ?_;rintro _ w6 ⟨r10,r11,rfl,e10,e11,m6⟩;rw [Sp.lv5] at e10 e11 m6;obtain ⟨F6,M6,k6⟩:=M5.mk' m6;obtain rfl:r11=120:=e11;refine ⟨_,_,rfl,k6,?_⟩;have M6:Mine w0 p Sp.v3 F6 w6:=M6;refine (tP p 1 6 7 w6 M6.pool Sp.lvw3.ok).mono ?_;rintro _ w7 ⟨r12,r13,rfl,e12,e13,m7⟩;obtain ⟨F7,M7,k7⟩:=M6.mk' m7;obtain rfl:r12=14:=e12.trans Sp.lv6.1;obtain rfl:r13=0:=e13.trans Sp.lv6.2;refine ⟨_,_,rfl,k7,?_⟩;have M7:Mine w0 p Sp.v4 F7 w7:=M7;have hok:=Sp.lvw4.ok;refine (qD p 14 w7 M7.pool hok).mono ?_;rintro _ w8 ⟨kd,f,c,x,fk,ok,rfl,hrd,E8⟩;rw [Sp.lv7] at hrd;injection hrd with h1 h2;injection h1 with ha hb hc hd he;subst ha;subst hb;subst h2;refine ⟨_,_,_,_,_,_,rfl,E8.keptP,?_⟩;rintro _ rfl;refine Br.t rfl fun H7 w23 hs23=>?_;have M8:Mine w0 p Sp.v4 F7 w8:=M7.then E8;have E23:=M8.pure.hst hs23;have hP23:=M8.pool.ext hs23.ext (hs23.disj (fun b hb=>⟨M8.pool.lt hb,id⟩));have hx:(⟨#[120]⟩:ByteArray)=Sp.x12:=rfl;refine (xU p 10 0 7 Sp.x12 w23 hP23 hok).mono ?_;rintro _ w29 ⟨_,rfl,rfl,E29⟩;refine ⟨_,rfl,E29.keptP,?_⟩;unfold m_E_j1;refine Br.t (by rw [Sp.lv8.1];rfl) ?_;have hP29:=hP23.pure E29;refine (xU p 6 0 7 Sp.x12 w29 hP29 hok).mono ?_;rintro _ w28 ⟨_,rfl,rfl,E28⟩;refine ⟨_,rfl,E28.keptP,?_⟩;unfold m_E_j2;refine Br.t (by rw [Sp.lv8.2.1];rfl) ?_;have hP28:=hP29.pure E28;refine (jBB (some p) 6 0 7 Sp.x12 w28 hP28 hok).mono ?_;rintro _ w27 ⟨_,rfl,rfl,E27⟩;refine ⟨_,rfl,E27.keptP,?_⟩;unfold m_E_j3;refine Br.t (by rw [Sp.lv8.2.1];rfl) ?_;have hP27:=hP28.pure E27;refine (jDN (some p) 10 w27 hP27 hok).mono ?_;rintro _ w26 ⟨r16,rfl,hr16⟩;refine ⟨_,rfl,hr16.kept,?_⟩;unfold m_E_j4;refine Br.t (by rw [hr16.rows.len,List.length_map,Sp.lv8.2.2];rfl) fun p2 w24 h24=>?_;have R2:Rws w24 78 1 ⟨some p2,1,1⟩ (tmr [14]):=Rws.lit (rs:=tmr [14]) h24 rfl (by intro q hq;obtain ⟨t,_,rfl⟩:=List.mem_map.1 hq;rfl) (by simp [tmr,maxLen]);have E24:=hr16.pure.trans (Ext.new (F:=None) h24);refine (jEU p ⟨some p2,1,1⟩ [14] w24 (hP27.pure E24) Sp.lvw4 R2.lst (by simp)).mono ?_;rintro _ w25 ⟨r15,rfl,fs,hr15,hall⟩;refine ⟨_,rfl,hr15.kept,?_,((((E23.trans E29).trans E28).trans E27).trans E24).trans hr15.pure⟩;rw [hr15.rows.len,List.length_map,Sp.lv9 hall.1];rfl
end Go.Proofs
end
section
open Go Go.SE
namespace Go.Sp
theorem gY {a b:Int} (h:a≠b):(cond (decide (a<b)) (-1) 1:Int)=qP a b:=by
 unfold qP;by_cases h1:a<b
 ·simp [h1]
 ·rw [if_neg h1,if_pos (by omega)];simp [h1]
end Go.Sp
namespace Go.Proofs
open Tryz
attribute [local irreducible] Calls
theorem yU (a b:Sp.Fact) (w0:World):Calls prog 39 #[.agg (kG a).toArray,.agg (kG b).toArray] w0 (fun e w'=>∃r:Int,e=.returned (.int .i64 r)∧(r=Sp.uP a b∧Pure w0 w')):=by
 refine w_F2 a.kind a.who a.c a.text b.kind b.who b.c b.text w0 (fun r w'=>r=Sp.uP a b∧Pure w0 w') ?_;unfold m_F2;have z:∀{x y:Int},x=y→¬ Sp.qP x y≠0:=fun e h=>h (Sp.kT.2 e);have nz:∀{x y:Int},x≠y→Sp.qP x y≠0:=fun e h=>e (Sp.kT.1 h);refine ⟨fun h H w hs=>⟨?_,hs.first⟩,fun h1=>⟨fun h H w hs=>⟨?_,hs.first⟩,fun h2=>⟨fun h H w hs=>⟨?_,hs.first⟩,fun h3=>⟨fun h H w hs=>?_,fun h H w hs=>⟨?_,hs.first⟩⟩⟩⟩⟩
 ·have h:=bne_iff_ne.1 h;rw [Sp.gY h,Sp.uP,if_pos (nz h)]
 ·have h1:a.c=b.c:=by simpa using h1
  have h:=bne_iff_ne.1 h;rw [Sp.gY h,Sp.uP,if_neg (z h1),if_pos (nz h)]
 ·have h1:a.c=b.c:=by simpa using h1
  have h2:a.kind=b.kind:=by simpa using h2
  have h:=bne_iff_ne.1 h;rw [Sp.gY h,Sp.uP,if_neg (z h1),if_neg (z h2),if_pos (nz h)]
 ·have h1:a.c=b.c:=by simpa using h1
  have h2:a.kind=b.kind:=by simpa using h2
  have h3:a.who=b.who:=by simpa using h3
  have h:¬ a.text=b.text:=by simpa using h
  refine ⟨Op.bytesLess a.text.toList b.text.toList,by rw [binOp_string_lss];rfl,fun w6 hs6=>⟨?_,(hs.first).hst hs6⟩⟩;rw [Sp.uP,if_neg (z h1),if_neg (z h2),if_neg (z h3),Sp.xR];by_cases hb:Op.bytesLess a.text.toList b.text.toList=true
  ·rw [if_pos hb,hb];rfl
  ·rw [if_neg hb,if_neg h];simp at hb;rw [hb];rfl
 ·have h1:a.c=b.c:=by simpa using h1
  have h2:a.kind=b.kind:=by simpa using h2
  have h3:a.who=b.who:=by simpa using h3
  have h:a.text=b.text:=by simpa using h
  rw [Sp.uP,if_neg (z h1),if_neg (z h2),if_neg (z h3),Sp.tH.2 h]
theorem jBS {S1 S2:NP} (sa sb:Sl) (fs gs:List Sp.Fact) (w0:World) (ha:Lst S1 w0 4 sa (fs.map kG)) (hb:Lst S2 w0 4 sb (gs.map kG)) (hn:fs.length≤1000000) :
  Calls prog 30 #[sa.v,sb.v] w0 (fun e w'=>∃r:Bool,e=.returned (.bool r)∧(r=decide (fs=gs)∧Pure w0 w')):=by
 suffices key:∀K:Bool→WP,(∀w',Pure w0 w'→K (decide (fs=gs)) w')→m_V sa sb w0 K from
  w_V _ _ w0 _ (key _ (fun _ h=>⟨rfl,h⟩))
 intro K hK
 unfold m_V
 have hla:sa.len=fs.length:=by rw [ha.len];simp
 have hlb:sb.len=gs.length:=by rw [hb.len];simp
 refine ⟨fun h=>?_,fun h=>?_⟩
 ·have hne:fs≠gs:=fun e=>by subst e;simp [hla,hlb] at h
  have:=hK w0 (Ext.refl _)
  rwa [decide_eq_false hne] at this
 have hlen:fs.length=gs.length:=by simp at h;omega
 refine ⟨fun i H w'=>∃j:Nat,i=j∧j≤fs.length∧Pure w0 w'∧fs.take j=gs.take j,fun i _=>((fs.length:Int) - i).toNat,⟨0,rfl,Nat.zero_le _,Ext.refl _,by simp⟩,?_⟩
 rintro _ Hl wl _ ⟨j,rfl,hj,El,ht⟩
 unfold m_V_l1
 refine ⟨fun h=>?_,fun h=>?_⟩
 ·have hlt:=zZ hla h
  obtain ⟨a2,hat,_,hrow⟩:=ha.nth hlt
  obtain ⟨a3,hat3,_,hrow3⟩:=hb.nth (show j<gs.length by omega)
  refine ⟨a2,hat,fun w1 hs1=>?_⟩
  have E1:=El.hst hs1
  refine ⟨_,_,_,_,E1.row hrow id,a3,hat3,_,_,_,_,E1.row hrow3 id,fun hd=>?_,fun hd=>?_⟩
  ·rw [qX] at hd
   have hd:¬ fs[j]=gs[j]'(by omega):=by simpa using hd
   have hne:fs≠gs:=fun e=>by subst e;exact hd rfl
   have:=hK w1 E1
   rwa [decide_eq_false hne] at this
  ·rw [qX] at hd
   have hd:fs[j]=gs[j]'(by omega):=by simpa using hd
   rw [zB hlt (by omega)]
   exact ⟨⟨j+1,rfl,hlt,E1,by rw [List.take_succ_eq_append_getElem hlt,List.take_succ_eq_append_getElem (show j<gs.length by omega),ht,hd]⟩,vH hlt⟩
 ·have hge:=kA hla hj h
  subst hge
  rw [List.take_length,hlen,List.take_length] at ht
  have:=hK wl El
  rwa [decide_eq_true ht] at this
theorem jAH {S:NP} (s:Sl) (who:Int) (fs:List Sp.Fact) (w0:World) (hs:Lst S w0 4 s (fs.map kG)) (hn:fs.length≤1000000) :
  Calls prog 41 #[s.v,.int .i64 who] w0 (fun e w'=>∃r:Sl,e=.returned r.v∧RetO w0 75 4 ((Sp.zW who fs).map kG) r w'):=by
 suffices key:∀K:Sl→WP,(∀r w',RetO w0 75 4 ((Sp.zW who fs).map kG) r w'→K r w')→m_X s who w0 K from
  w_X _ _ w0 _ (key _ (fun _ _ h=>h))
 intro K hK
 unfold m_X
 have hl:s.len=fs.length:=by rw [hs.len];simp
 refine ⟨fun o i w'=>∃j:Nat,i=j∧j≤fs.length∧Pure w0 w'∧(∀b,o.blk b→w0.heap.size≤b)∧Rws w' 75 4 o ((Sp.zW who (fs.take j)).map kG),fun _ i _=>((fs.length:Int) - i).toNat,⟨0,rfl,Nat.zero_le _,Ext.refl _,fun b h=>(by obtain ⟨a,h,_⟩:=h;cases h),Rws.nil _ _ _⟩,?_⟩
 rintro o _ wl ⟨j,rfl,hj,El,hown,Ro⟩
 unfold m_X_l1
 refine ⟨fun h=>?_,fun h=>?_⟩
 ·have hlt:=zZ hl h
  obtain ⟨a,hat,_,hrow⟩:=(hs.pure El).nth hlt
  have htk:Sp.zW who (fs.take (j+1))=Sp.zW who (fs.take j)++(if (fs[j].kind == 2 && fs[j].who == who)=true then [fs[j]] else []):=by
   rw [List.take_succ_eq_append_getElem hlt,Sp.zW,Sp.zW,List.filter_append];simp only [List.filter_cons,List.filter_nil]
  have hbl:(Sp.zW who (fs.take j)).length≤j:=by
   have:=List.length_filter_le (fun f:Sp.Fact=>f.kind == 2 && f.who == who) (fs.take j);unfold Sp.zW;rw [List.length_take] at this;omega
  generalize fs[j]=g at *
  have skip:(g.kind == 2 && g.who == who)=false→(∃j':Nat,IntKind.i64.wrap ((j:Int)+1)=j'∧j'≤fs.length∧Pure w0 wl∧(∀b,o.blk b→w0.heap.size≤b)∧Rws wl 75 4 o ((Sp.zW who (fs.take j')).map kG))∧((fs.length:Int) - IntKind.i64.wrap ((j:Int)+1)).toNat<((fs.length:Int) - (j:Int)).toNat:=fun h2=>by
   rw [if_neg (by simp [h2]),List.append_nil] at htk;rw [zB hlt (by omega)];exact ⟨⟨j+1,rfl,hlt,El,hown,by rw [htk];exact Ro⟩,vH hlt⟩
  refine ⟨a,hat,_,(by have h:=hrow 0 (by simp [kG]);rw [show a.add 0=a by simp [Addr.add]] at h;exact h),fun h1=>⟨a,hat,_,hrow 1 (by simp [kG]),fun h2=>⟨a,hat,_,_,_,_,hrow,fun p1 w1 h=>?_⟩,fun h2=>skip (by rw [h2];simp)⟩,fun h1=>skip (by rw [h1];rfl)⟩
  rw [if_pos (by rw [h1,h2];rfl)] at htk
  have E1:Pure wl w1:=Ext.new h
  have hrow4:Row w1 p1 (kG g):=(Box.of_new h).row
  obtain ⟨s',w5,hr,hO,hE,hb⟩:=(Ro.pure E1).append (P:=prog) (ty:=71) (c:=1) vL hrow4 rfl rfl (by simp;omega) (by simp [maxLen];omega)
  refine ⟨s',w5,hr,?_⟩
  rw [zB hlt (by omega)]
  have hE1:=El.trans E1
  refine ⟨⟨j+1,rfl,hlt,hE1.trans' hE (fun i hi h=>by have:=hown i h;omega),fun b h=>(hb b h).elim (hown b) (fun h=>by have:=hE1.size;omega),?_⟩,vH hlt⟩
  rw [htk,List.map_append];exact hO
 ·have hge:=kA hl hj h
  subst hge
  rw [List.take_length] at Ro
  exact hK _ _ ⟨Ro,hown,El⟩
end Go.Proofs
end
section
open Go Go.SE
namespace Go.Proofs
open Tryz
attribute [local irreducible] Calls
theorem bxh (n:Nat) {H:NP} {w:World} {p:Addr} {c vs:List Value} {T:TypeId} (h:Box w p c T) (hn:c.length=n) (hl:vs.length=n) (hH:¬ H p.block) {A:WP} (k:∀w',Box w' p vs T→Ext (·=p.block) w w'→A w'):(∀j,j<n→jW w (p.add j))∧¬ H p.block∧∀w',w'=storeRow w p vs→A w' :=
 ⟨h.canWs (by omega),hH,fun w' e=>by subst e;exact k _ (h.store (by omega)) (Ext.storeRow _ _ _)⟩
theorem jDH (x y:Int):-1≤Sp.qP x y∧Sp.qP x y≤1:=by unfold Sp.qP;split <;> (try split) <;> omega
theorem cmpF_b (a b:Sp.Fact):-1≤Sp.uP a b∧Sp.uP a b≤1:=by
 have h1:=jDH a.c b.c;have h2:=jDH a.kind b.kind;have h3:=jDH a.who b.who;have h4:-1≤Sp.xR a.text b.text∧Sp.xR a.text b.text≤1:=by unfold Sp.xR;split <;> (try split) <;> omega
 unfold Sp.uP
 repeat' split
 all_goals omega
theorem qQ {S:NP} (A B:Sp.Fact) (l:Sl) (fs:List Sp.Fact) (who:Int) (w0:World) (hl:Lst S w0 4 l (fs.map kG)) (hS:∀b,S b→b<w0.heap.size) :
  Calls prog 7 #[.agg #[.int .i64 A.kind,.int .i64 A.who,.int .u64 A.c,.string A.text,.int .i64 B.kind,.int .i64 B.who,.int .u64 B.c,.string B.text,l.v,.int .i64 who]] w0 (fun e w'=>∃r:Bool,e=.returned (.bool r)∧(r=true∧Pure w0 w')):=by
 refine w_H _ _ _ _ _ _ _ _ l who w0 (fun r w'=>r=true∧Pure w0 w') ?_
 have hll:l.len=fs.length:=by rw [hl.len];simp
 have J2:∀(a1 a2:Addr) (z:Bool) (H:NP) (w:World),(z=false→fs.length≤50)→(∀b,H b→b<w.heap.size)→Row w a1 (kG A)→Row w a2 (kG B)→Pure w0 w→m_H_j2 a1 a2 l who z H w (fun r w'=>r=true∧Pure w0 w'):=by
  intro a1 a2 z H w hz hH r1 r2 E;unfold m_H_j2;refine ⟨fun h=>?_,fun h=>?_⟩
  ·refine (jAY w).mono ?_;rintro _ w2 ⟨_,rfl,rfl,E2⟩;exact ⟨_,rfl,E2.keptP,rfl,E.trans E2⟩
  have hn:=hz h;refine ⟨Pure w,Ext.drew w,?_⟩;rintro _ rfl;have Ed:Pure w w.drew:=Ext.drew w;have k1:∀w',Pure w w'→Row w' a1 (kG A):=fun w' h=>h.row r1 id;have k2:∀w',Pure w w'→Row w' a2 (kG B):=fun w' h=>h.row r2 id;refine ⟨_,_,_,_,k1 _ Ed,_,_,_,_,k2 _ Ed,_,_,_,_,k1,_,_,_,_,k2,(qS A B _).mono ?_⟩;rintro _ w4 ⟨_,rfl,rfl,E4⟩;have F4:=Ed.trans E4;refine ⟨_,rfl,F4,E4.keptP,(yU A B w4).mono ?_⟩;rintro _ w5 ⟨_,rfl,rfl,E5⟩;have F5:=F4.trans E5;refine ⟨_,rfl,F5,E5.keptP,Br.t (by simp) ⟨_,_,_,_,k2,_,_,_,_,k1,_,_,_,_,k1,_,_,_,_,k2,(qS B A w5).mono ?_⟩⟩;rintro _ w6 ⟨_,rfl,rfl,E6⟩;have F6:=F5.trans E6;refine ⟨_,rfl,F6,E6.keptP,(yU A B w6).mono ?_⟩;rintro _ w7 ⟨_,rfl,rfl,E7⟩;have F7:=F6.trans E7;have hb:=cmpF_b A B;refine ⟨_,rfl,F7,E7.keptP,Br.t (by rw [i64 (by omega) (by omega),Sp.jAW A B];simp) fun p2 w8 h8=>⟨F7.trans (Ext.new h8),?_⟩⟩;have F8:=F7.trans (Ext.new (F:=None) h8);have R8:Rws w8 75 4 ⟨some p2,0,0⟩ (([]:List Sp.Fact).map kG):=Rws.lit (rs:=[]) h8 rfl (by simp) (by simp);have hl8:=hl.pure (E.trans F8);obtain ⟨s1,w9,hrun,hR9,hE9,hb9⟩:=R8.appendL (P:=prog) vL (ty:=71) hl8 (uG _) (oI _) (by simp;omega) (by simp [maxLen];omega);have hp2:w.heap.size≤p2.block:=New.own F7 h8;have hblk:∀b,(Sl.mk (some p2) 0 0).blk b→w.heap.size≤b:=fun b h=>by obtain ⟨a,ha,rfl⟩:=h;cases ha;exact hp2
  have F9:Pure w w9:=F8.trans' hE9 (fun i hi h=>by have:=hblk i h;omega);refine ⟨s1,w9,hrun,F9,hE9.kept (fun b hb hs=>by have:=hblk b hs;have:=hH b hb;omega),?_⟩;have hR9:Rws w9 75 4 s1 (fs.map kG):=hR9;refine (jBT s1 who fs w9 hR9.lst (fun b hb=>hR9.lt hb) (by omega)).mono ?_;rintro _ w10 ⟨r6,rfl,h6⟩;have F10:=F9.trans h6.pure;refine ⟨_,rfl,F10,h6.kept,(jAH l who fs w10 (hl.pure (E.trans F10)) (by omega)).mono ?_⟩;rintro _ w11 ⟨r7,rfl,h7⟩;have F11:=F10.trans h7.pure;have hbl:(Sp.zW who fs).length≤fs.length:=List.length_filter_le _ _;refine ⟨_,rfl,F11,h7.kept,(jBS r6 r7 _ _ w11 (h6.rows.pure h7.pure).lst h7.rows.lst (by omega)).mono ?_⟩;rintro _ w12 ⟨_,rfl,rfl,E12⟩;have F12:=F11.trans E12;refine ⟨_,rfl,F12,E12.keptP,Br.t (by simp) ?_⟩;refine (jAY w12).mono ?_;rintro _ w13 ⟨_,rfl,rfl,E13⟩;exact ⟨_,rfl,F12.trans E13,E13.keptP,rfl,(E.trans F12).trans E13⟩
 have J3:∀(a1 a2:Addr) (z:Bool) (H:NP) (w:World),Box w a1 (kG A) 75→Box w a2 (kG B) 75→¬ H a1.block→¬ H a2.block→Pure w0 w→m_H_j3 a1 a2 l who z w0 H w (fun r w'=>r=true∧Pure w0 w'):=by
  intro a1 a2 z H w b1 b2 n1 n2 E;unfold m_H_j3;intro H2 w14 hs;have d1:=hs.disj (G:=(·=a1.block)) (fun b e=>by subst e;exact ⟨b1.lt,n1⟩) _ rfl;have d2:=hs.disj (G:=(·=a2.block)) (fun b e=>by subst e;exact ⟨b2.lt,n2⟩) _ rfl;refine J2 a1 a2 _ H2 w14 (fun h=>?_) hs.lt (b1.ext hs.ext d1).row (b2.ext hs.ext d2).row (E.hst hs);rw [Bool.or_eq_false_iff] at h;have:=of_decide_eq_false h.2;omega
 have J1:∀(a1 a2:Addr) (H:NP) (w:World),Box w a1 (kG A) 75→Box w a2 (kG B) 75→¬ H a1.block→¬ H a2.block→Pure w0 w→m_H_j1 a1 a2 l who w0 H w (fun r w'=>r=true∧Pure w0 w'):=by
  intro a1 a2 H w b1 b2 n1 n2 E;unfold m_H_j1;exact ⟨_,b1.cell (i:=3) rfl,fun h=>J3 a1 a2 _ H w b1 b2 n1 n2 E,fun h=>⟨_,b2.cell (i:=3) rfl,J3 a1 a2 _ H w b1 b2 n1 n2 E⟩⟩
 unfold m_H
 intro H1 w1 hs1
 have E1:=hs1.first
 refine ⟨Pure w0,E1.trans (Ext.drew w1),?_⟩
 rintro _ rfl
 have Ed:=E1.trans (Ext.drew (F:=None) w1)
 have sz:w1.drew.heap.size=w1.heap.size:=rfl
 refine ⟨fun p3 w16 h16=>?_,fun p5 w20 h20=>?_⟩
 ·have E16:=Ed.trans (Ext.new (F:=None) h16)
  have o3:=New.own (Ext.refl w1.drew) h16
  refine ⟨E16,fun p4 w17 h17=>?_⟩
  have E17:=E16.trans (Ext.new (F:=None) h17)
  have o4:=New.own ((Ext.new (F:=None) h16:Pure w1.drew w16)) h17
  have ne:=New.ne h17 (Box.of_new h16).blk
  have n3:¬ H1 p3.block:=fun h=>by have:=hs1.lt _ h;omega
  have n4:¬ H1 p4.block:=fun h=>by have:=hs1.lt _ h;omega
  have:=E1.size
  refine ⟨E17,bxh 4 ((Box.of_new h16).pure (Ext.new h17)) rfl rfl n3 fun w18 b3 E18=>?_⟩
  have F18:=E17.own (by omega) E18
  refine ⟨F18,bxh 4 ((Box.of_new h17).ext E18 (fun e=>ne e.symm)) rfl rfl n4 fun w19 b4 E19=>?_⟩
  have F19:=F18.own (by omega) E19
  exact ⟨F19,J1 p3 p4 H1 w19 (b3.ext E19 (fun e=>ne e)) b4 n3 n4 F19⟩
 ·have E20:=Ed.trans (Ext.new (F:=None) h20)
  have o5:=New.own (Ext.refl w1.drew) h20
  refine ⟨E20,fun p6 w21 h21=>?_⟩
  have E21:=E20.trans (Ext.new (F:=None) h21)
  have o6:=New.own ((Ext.new (F:=None) h20:Pure w1.drew w20)) h21
  have ne:=New.ne h21 (Box.of_new h20).blk
  have n5:¬ H1 p5.block:=fun h=>by have:=hs1.lt _ h;omega
  have n6:¬ H1 p6.block:=fun h=>by have:=hs1.lt _ h;omega
  have:=E1.size
  refine ⟨E21,bxh 4 (Box.of_new h21) rfl rfl n6 fun w22 b6 E22=>?_⟩
  have F22:=E21.own (by omega) E22
  refine ⟨F22,bxh 4 (((Box.of_new h20).pure (Ext.new h21)).ext E22 (fun e=>ne e)) rfl rfl n5 fun w23 b5 E23=>?_⟩
  have F23:=F22.own (by omega) E23
  exact ⟨F23,J1 p6 p5 H1 w23 (b6.ext E23 (fun e=>ne e.symm)) b5 n6 n5 F23⟩
end Go.Proofs
end
section
namespace Go.SE
open Go.ChangeShapes Go.WideShapes Go.ChangeAt Go.RowKit
section
variable {H:Type} {enc:TypeId×Value→H} {P:Program}
theorem yX (hl:laidOutB P=true) {W W':World} (hb:Below W.heap.size W W'):∀(ts:List TypeId) (vs:List Value) (ds:List (DataW H)) (ps:List MemPlace),(ts.all fun t=>P.readableRec t && decide (t<P.types.size))=true →
  DataW.TrodAll enc P W 0 (fun _=>true) true ts vs ds ps→(∀x∈ps,x.block<W.heap.size)→DataW.TrodAll enc P W' 0 (fun b=>decide (b<W.heap.size)) true ts vs ds ps
 | [],_,_,_,_,h,_=>by
  obtain ⟨rfl,rfl,rfl⟩:=trodAll_nil h;exact h
 | t :: ts,_,_,_,hr,h,hlt=>by
  obtain ⟨v,vs1,d,ds1,a,b,rfl,rfl,rfl,h1,h2⟩:=trodAll_cons h;simp only [List.all_cons,Bool.and_eq_true,decide_eq_true_eq] at hr;exact ⟨a,b,Below.trod hl hr.1.1 hr.1.2 h1 hb (fun x hx=>hlt x (by simp [hx])),yX hl hb ts vs1 ds1 b (by simpa using hr.2) h2 (fun x hx=>hlt x (by simp [hx])),rfl⟩
theorem jEJ {f:Func} {s:ChangeSpec} {W W':World} {args:Array Value} {ds gs:List (DataW H)} {before:List MemPlace} {t:TypeId} (hl:laidOutB P=true)
  (hv:s.vars=[]) (hf:∀ds:List (DataW H),ds.length=f.params.size→s.fn H ds={ results:=[.lit (.bool true)],args:=ds }) (hrt:f.resultTypes=#[t]) (ht:P.underlying t=some .bool)
  (hr:(f.params.toList.all fun t=>P.readableRec t && decide (t<P.types.size))=true)
  (hW:DataW.Whole enc P f.params.toList s.vars false W args.toList ds gs before) (E:Pure W W') :
  s.post enc P f false true false false W args (.bool true) W':=by
 have hW':=hW
 obtain ⟨p,q,hA,hV,rfl,hfz,hnd⟩:=hW
 rw [hv] at hV
 obtain ⟨rfl,rfl⟩:=trodVars_none hV
 have hlen:ds.length=f.params.size:=by
  have:∀(ts:List TypeId) (vs:List Value) (ds:List (DataW H)) (ps:List MemPlace),DataW.TrodAll enc P W 0 (fun _=>true) true ts vs ds ps→ds.length=ts.length:=by
   intro ts;induction ts with
   | nil=>intro vs ds ps h;obtain ⟨_,rfl,_⟩:=trodAll_nil h;rfl
   | cons t ts ih =>
    intro vs ds ps h
    obtain ⟨v,vs1,d,ds1,a,b,_,rfl,_,_,h2⟩:=trodAll_cons h
    simp [ih _ _ _ h2]
  simpa using this _ _ _ _ hA
 have hfn:=hf ds hlen
 have hfn':s.fn H (ds++[])={ results:=[.lit (.bool true)],args:=ds }:=by rw [List.append_nil];exact hfn
 have hlt:∀x∈p,x.block<W.heap.size:=fun x hx=>by simpa using hW'.lt x (by simp [hx])
 have bel:=E.below
 refine ⟨ds,[],p++[],[],p,[],hW',?_,?_,?_,bel.frame _,fun h=>by cases h⟩
 ·rw [hfn',hrt];exact trodAll_mk1 (shut_bool ht _)
 ·rw [hfn'];exact yX hl bel _ _ _ _ hr hA hlt
 ·rw [hfn',hv];exact hV
theorem jBP {C:Checked} {os:Os} {f:FuncId} {fn:Func} {s:ChangeSpec} {t:TypeId} (hl:laidOutB C.prog=true)
  (hv:s.vars=[]) (hf:∀ds:List (DataW H),ds.length=fn.params.size→s.fn H ds={ results:=[.lit (.bool true)],args:=ds }) (hrt:fn.resultTypes=#[t]) (ht:C.prog.underlying t=some .bool)
  (hr:(fn.params.toList.all fun t=>C.prog.readableRec t && decide (t<C.prog.types.size))=true)
  (own:ownKnob C.prog.godebug=none) (started:os.Started) (noInit:C.prog.inits.idxOf? f=none) (hfn:C.prog.funcs[f]?=some fn)
  (witness:∃(w:World) (tape:Tape) (i:Input),w.os=os∧(w.forCall tape i).Shaped C.prog∧i.vars=[]∧Input.okWide C.prog (w.forCall tape i) .any w.heap.size f i ∧
   s.pre6 enc C.prog fn [] false (w.forCall tape i).memory i.args∧({}:Assume).holds C.prog (lone (Frame.enter C.prog f i.args .normal) [] (w.forCall tape i)))
  (contract:∀(W:World) (base:Nat) (args:Array Value) (ds:List (DataW H)) (p:List MemPlace),
   (∀(j:Nat) t v,fn.params[j]?=some t→args[j]?=some v→Value.okWide C.prog W .any base t v) →
   DataW.TrodAll enc C.prog W 0 (fun _=>true) true fn.params.toList args.toList ds p→(∀x∈p,x.block<W.heap.size) →
   Calls C.prog f args W (fun e W'=>∃r:Bool,e=.returned (.bool r)∧(r=true∧Pure W W'))) :
  ReturnsInHanded {} C os f .any (s.pre6 enc C.prog fn [] false) (s.post enc C.prog fn false true false false):=by
 refine returnsInHanded_of_change own started noInit hfn witness ?_
 intro W base args ds gs before hval hW _ _
 have hW':=hW
 obtain ⟨p,q,hA,hV,rfl,hfz,hnd⟩:=hW
 refine (contract W base args ds p hval hA (fun x hx=>by simpa using hW'.lt x (by simp [hx]))).mono fun e W' ⟨r,he,h1,h2⟩=>?_
 subst h1
 exact ⟨_,he,jEJ hl hv hf hrt ht hr hW' h2⟩
end
end Go.SE
namespace Go.SE
open Go.ChangeShapes Go.WideShapes Go.ChangeAt Go.RowKit
section
variable {P:Program} {W:World} {r:Reach} {b0:Nat} {t:TypeId} {v:Value}
theorem oW {fs:Array Field} {ts:List TypeId} (ht:P.underlying t=some (.struct fs)) (hc:P.cellTypes P.depth t=some ts) (hn:P.cellsOf t=ts.length) (h:Value.okWide P W r b0 t v) :
  ∃cs:Array Value,v=.agg cs∧cs.size=ts.length∧∀(i:Nat) (u:TypeId) (c:Value),ts[i]?=some u→cs[i]?=some c→Cell.okWide P W r b0 u c:=by
 unfold Value.okWide at h
 rw [ht] at h
 obtain ⟨cs,rfl,hs,ts',hts,_,hall⟩:=h
 rw [hc] at hts
 cases hts
 refine ⟨cs,rfl,hs.trans hn,fun i u c hu hcs=>?_⟩
 obtain ⟨u',hu',hok⟩:=hall i c hcs
 have hlt:i<ts.length:=(List.getElem?_eq_some_iff.1 hu).1
 rw [Nat.mod_eq_of_lt hlt,hu] at hu'
 cases hu'
 exact hok
end
end Go.SE
end
section
open Go Go.SE
namespace Go.Proofs
theorem uD {α β:Type} {f:α→Option β}:∀{l:List α} {r:List β},l.mapM f=some r→r.length=l.length∧∀(i:Nat) (a:α),l[i]?=some a→∃b,f a=some b∧r[i]?=some b
 | [],r,h=>by
  have:r=[]:=by simpa using h.symm
  subst this;exact ⟨rfl,fun i a h=>by simp at h⟩
 | x :: xs,r,h=>by
  rw [List.mapM_cons] at h;cases hx:f x with
  | none=>simp [hx] at h
  | some y =>
   cases hxs:xs.mapM f with
   | none=>simp [hx,hxs] at h
   | some ys =>
    have:r=y :: ys:=by simpa [hx,hxs] using h.symm
    subst this
    obtain ⟨h1,h2⟩:=uD hxs
    refine ⟨by simp [h1],fun i a ha=>?_⟩
    cases i with
    | zero=>cases ha;exact ⟨y,hx,rfl⟩
    | succ i=>exact h2 i a (by simpa using ha)
theorem jDI {w:World} {base:Nat} {a:Addr} {n:Nat} {cs:List Value} (h:w.cells? base a n=some cs):cs.length=n∧Row w a cs:=by
 obtain ⟨_,h1,h2⟩:=World.cells?_some h;exact ⟨h1,fun j hj=>h2 j (by omega)⟩
section
variable {H:Type} {enc:TypeId×Value→H} {P:Program} {W:World} {base:Nat} {sp:Nat→Bool} {held:Bool}
theorem yO {t:TypeId} {k:IntKind} (ht:P.underlying t=some (.int k)) {n:Nat} {c:Value} {x:DataW H×List MemPlace} (h:DataW.trod enc P W base sp held n t [c]=some x):∃m,c=.int k m:=by
 cases n with
 | zero=>cases h
 | succ n =>
  rw [DataW.trod_step] at h
  unfold DataW.trodStep at h
  rw [ht] at h
  cases c <;> simp at h
  obtain ⟨⟨rfl,_⟩,_⟩:=h
  exact ⟨_,rfl⟩
theorem jCH {t:TypeId} (ht:P.underlying t=some .string) {n:Nat} {c:Value} {x:DataW H×List MemPlace} (h:DataW.trod enc P W base sp held n t [c]=some x):∃m,c=.string m:=by
 cases n with
 | zero=>cases h
 | succ n =>
  rw [DataW.trod_step] at h
  unfold DataW.trodStep at h
  rw [ht] at h
  cases c <;> simp at h
  exact ⟨_,rfl⟩
theorem tV {t e:TypeId} (ht:P.underlying t=some (.slice e)) {n:Nat} {c:Value} {x:DataW H×List MemPlace} (h:DataW.trod enc P W base sp held (n+1) t [c]=some x) :
  c=.slice none 0 0∨∃a len cap,c=.slice (some a) len cap∧len≤cap∧cap≤maxLen∧∀i,i<len→∃cs y,W.cells? base (a.add (i*P.cellsOf e)) (P.cellsOf e)=some cs∧DataW.trod enc P W base sp held n e cs=some y:=by
 rw [DataW.trod_step] at h
 unfold DataW.trodStep at h
 rw [ht] at h
 cases c with
 | slice a len cap =>
  cases a with
  | none =>
   cases len with
   | zero=>cases cap with
    | zero=>exact .inl rfl
    | succ c=>simp at h
   | succ l=>simp at h
  | some a =>
   right
   simp only at h
   split at h
   ·rename_i hc
    refine ⟨a,len,cap,rfl,hc.2.1,hc.2.2,fun i hi=>?_⟩
    cases hm:(List.range len).mapM fun i=>(W.cells? base (a.add (i*P.cellsOf e)) (P.cellsOf e)).bind (DataW.trod enc P W base sp held n e) with
    | none=>rw [hm] at h;cases h
    | some r =>
     obtain ⟨b,hb,_⟩:=(uD hm).2 i i (by simp [hi])
     obtain ⟨cs,h1,h2⟩:=Option.bind_eq_some_iff.1 hb
     exact ⟨cs,b,h1,h2⟩
   ·cases h
 | _=>simp at h
end
end Go.Proofs
end
