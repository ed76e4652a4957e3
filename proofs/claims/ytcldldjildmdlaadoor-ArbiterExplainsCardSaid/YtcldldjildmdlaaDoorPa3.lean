import Derived.Test.YtcldldjildmdlaaDoorPa2
import Derived.Test.YtcldldjildmdlaaDoorProg
import Derived.KernelRfl
import Derived.Test.YtcldldjildmdlaaDoorPa1
import Derived.RangeFuncSeq
import Derived.RangeFuncIn
import Derived.Shelf.SlSortCmp.NoneTotal
import Derived.Laws.IdiomStrings
import Derived.Test.YtcldldjildmdlaaDoorPa0
import Derived.Laws.DeepStrings4
import Derived.ProofKit
import Derived.Carry
import Derived.OpenShut
import Derived.Stop.Joined
section
open Go Go.SE
namespace Go.Proofs
open Tryd
attribute [local irreducible] Calls
theorem c_letter_ReadN (p : Option Addr) (t : Int) (w : World) {L : Sp.Pool} {F : NP} (hP : PoolN w p L F) (hok : Sp.Ok L) :
  Calls prog 38 #[.pointer p,.int .i64 t] w
   (fun e w'=>∃k:Int,∃f:Int,∃c:Int,∃x:ByteArray,∃fk:Bool,∃ok:Bool,e=.returned (.tuple #[.agg #[.int .i64 k,.int .i64 f,.int .u64 c,.string x,.bool fk],.bool ok])∧(((⟨k,f,c,x,fk⟩:Sp.Letter),ok)=Sp.read L t∧Pure w w')):=by
 suffices key:∀K:Int→Int→Int→ByteArray→Bool→Bool→WP,(∀k f c x fk ok w',(((⟨k,f,c,x,fk⟩:Sp.Letter),ok)=Sp.read L t∧Pure w w')→K k f c x fk ok w')→m_F p t w K from
  w_F _ _ w _ (key _ (fun _ _ _ _ _ _ _ h=>h))
 intro K hK
 unfold m_F
 intro p2 w1 h1 p3 w2 h2
 have E1:Pure w w1:=Ext.new h1
 have E2:Pure w w2:=E1.trans (Ext.new h2)
 have o2:=New.own (Ext.refl w) h1
 have o3:=New.own E1 h2
 have n23:p2.block≠p3.block:=New.ne h2 (Box.of_new h1).blk
 have b2:Box w2 p2 lz 42:=(Box.of_new h1).pure (Ext.new h2)
 have hout:¬ F p3.block:=fun h=>by have:=hP.lt h;omega
 have hR2:ReaderAt w2 p3 p false L F:=⟨Box.of_new h2,hP.pure E2,hok,hout⟩
 refine (c_NodeN p t w2 hR2.pool hok).mono ?_
 rintro _ w3 ⟨k,f,t',u,x,a,b,ok,rfl,⟨hn,_⟩,E23⟩
 refine ⟨_,_,_,_,_,_,_,_,rfl,?_⟩
 intro p4 w4 h4
 have E3:Pure w2 w3:=E23
 have o4:=New.own (Ext.refl w3) h4
 have l3:=(hR2.pure E3).box.lt
 have l2:=(b2.pure E3).lt
 refine bx 7 (Box.of_new h4) rfl rfl (fun w5 b4 E'=>?_)
 have E5:Pure w3 w5:=Ext.own (Ext.new h4) o4 E'
 intro p5 w6 h6
 have E6:Pure w3 w6:=E5.trans (Ext.new h6)
 have o5:=New.own E5 h6
 have n45:p4.block≠p5.block:=New.ne h6 b4.blk
 have c4:=b4.pure (Ext.new h6:Pure w5 w6)
 have c5:Box w6 p5 lz 42:=Box.of_new h6
 have c2:=b2.pure (E3.trans E6)
 have hR6:=hR2.pure (E3.trans E6)
 have E26:Pure w w6:=(E2.trans E3).trans E6
 clear E' h1 h2 h4 h6
 have n35:p3.block≠p5.block:=by omega
 have n25:p2.block≠p5.block:=by omega
 have hq:Sp.readQ L t=if k=7 then Sp.rdSigned L f a else if k=8∨k=9 then Sp.rdPromise L t else if ((Sp.rdTagged L t).2 || !decide ((Sp.rdTagged L t).1.1=Sp.wFull))=true then (Sp.noLetter,true) else (⟨7,0,(Sp.rdNode L (Sp.rdTagged L t).1.2 2).1.num,⟨#[]⟩,false⟩,(Sp.rdNode L (Sp.rdTagged L t).1.2 2).2):=by
  simp only [Sp.readQ,← hn]
 have bad1 : ∀ (w8 : World), (Sp.readQ L t).2 = true → Ext (fun b => b = p3.block ∨ b = p5.block) w6 w8 → (∀ j, j < 5 → CanW w8 (p2.add j)) ∧ ∀ w9 : World, w9 = storeRow w8 p2 [(.int .i64 0), (.int .i64 0), (.int .u64 0), (.string (⟨#[]⟩ : ByteArray)), (.bool false)] →
   ∃qKind1:Int,∃qFrom1:Int,∃qC1:Int,∃qText1:ByteArray,∃qFake1:Bool,Row w9 p2 [(.int .i64 qKind1),(.int .i64 qFrom1),(.int .u64 qC1),(.string qText1),(.bool qFake1)]∧K qKind1 qFrom1 qC1 qText1 qFake1 false w9:=by
  intro w8 hb E8
  refine bx 5 (c2.ext E8 (by rintro (h | h) <;> omega)) rfl rfl (fun w9 b9 E9=>⟨0,0,0,⟨#[]⟩,false,b9.row,hK _ _ _ _ _ _ _ ⟨?_,?_⟩⟩)
  ·rw [Sp.read,if_pos hb];rfl
  ·exact (E26.trans' E8 (fun i hi h=>by rcases h with h | h <;> omega)).trans' E9 (fun i hi h=>by omega)
 have good1 : ∀ (w8 : World) (l : Sp.Letter), Sp.readQ L t = (l, false) → Ext (fun b => b = p3.block ∨ b = p5.block) w6 w8 → Box w8 p5 [.int .i64 l.kind, .int .i64 l.frm, .int .u64 l.c, .string l.text, .bool l.fake] 42 →
   ∃vKind1:Int,∃vFrom1:Int,∃vC1:Int,∃vText1:ByteArray,∃vFake1:Bool,Row w8 p5 [(.int .i64 vKind1),(.int .i64 vFrom1),(.int .u64 vC1),(.string vText1),(.bool vFake1)] ∧
   (∀j,j<5→CanW w8 (p2.add j))∧∀w9:World,w9=storeRow w8 p2 [(.int .i64 vKind1),(.int .i64 vFrom1),(.int .u64 vC1),(.string vText1),(.bool vFake1)] →
   ∃qKind1:Int,∃qFrom1:Int,∃qC1:Int,∃qText1:ByteArray,∃qFake1:Bool,Row w9 p2 [(.int .i64 qKind1),(.int .i64 qFrom1),(.int .u64 qC1),(.string qText1),(.bool qFake1)]∧K qKind1 qFrom1 qC1 qText1 qFake1 true w9:=by
  intro w8 l hb E8 B8
  refine ⟨_,_,_,_,_,B8.row,?_⟩
  refine bx 5 (c2.ext E8 (by rintro (h | h) <;> omega)) rfl rfl (fun w9 b9 E9=>⟨l.kind,l.frm,l.c,l.text,l.fake,b9.row,hK _ _ _ _ _ _ _ ⟨?_,?_⟩⟩)
  ·rw [Sp.read,if_neg (by rw [hb];simp),hb]
  ·exact (E26.trans' E8 (fun i hi h=>by rcases h with h | h <;> omega)).trans' E9 (fun i hi h=>by omega)
 have up:∀{w7 w8:World},Ext (·=p3.block) w6 w7→Ext (·=p5.block) w7 w8→Ext (fun b=>b=p3.block∨b=p5.block) w6 w8:=fun h h'=>(h.mono (fun _ _ h=>.inl h)).trans' h' (fun _ _ h=>.inr h)
 have J1p:∀b,b=true→k≠7→(k=8∨k=9)→m_F_j1 t p2 p3 p5 b w6 K:=by
  rintro _ rfl h7 h89
  rw [if_neg h7,if_pos h89] at hq
  unfold m_F_j1
  refine Br.t rfl ?_
  refine (c_rd_promise p3 p t false w6 hR6).mono ?_
  rintro _ w7 ⟨k7,f7,c7,x7,g7,rfl,hl,hR7,E7⟩
  refine ⟨_,_,_,_,_,rfl,bx 5 (c5.ext E7 n35.symm) rfl rfl (fun w8 b8 E8=>⟨(Sp.rdPromise L t).2,?_,fun h=>bad1 w8 (by rw [hq];exact h) (up E7 E8),fun h=>good1 w8 ⟨k7,f7,c7,x7,g7⟩ (by rw [hq,hl,← h]) (up E7 E8) b8⟩)⟩
  have:=(hR7.box.ext E8 n35).cell (i:=1) rfl
  simpa using this
 have J1t:∀b,b=false→k≠7→¬ (k=8∨k=9)→m_F_j1 t p2 p3 p5 b w6 K:=by
  rintro _ rfl h7 h89
  rw [if_neg h7,if_neg h89] at hq
  unfold m_F_j1
  refine Br.f rfl ?_
  refine (c_rd_tagged p3 p t false w6 hR6).mono ?_
  rintro _ w7 ⟨x7,y7,rfl,hg,hR7,E7⟩
  have ex:x7=(Sp.rdTagged L t).1.1:=congrArg Prod.fst hg
  have ey:y7=(Sp.rdTagged L t).1.2:=congrArg Prod.snd hg
  rw [← ex,← ey] at hq
  have setr:∀v:Bool,Box (w7.setCell (p3.add 1) (.bool v)) p3 [.pointer p,.bool v] 110∧Ext (·=p3.block) w7 (w7.setCell (p3.add 1) (.bool v)):=fun v =>
   ⟨hR7.box.set 1 _,by have:=Ext.setCell (w:=w7) (p3.add 1) (.bool v);rw [add_block] at this;exact this⟩
  have J3:∀(v:Bool) (w8:World),v=((Sp.rdTagged L t).2 || !decide (x7=Sp.wFull))→Box w8 p3 [.pointer p,.bool v] 110→Ext (·=p3.block) w7 w8→m_F_j3 p2 p3 p5 y7 w8 K:=by
   intro v w8 hv B8 E8
   have E68:=E7.trans E8
   have E68':Ext (fun b=>b=p3.block∨b=p5.block) w6 w8:=E68.mono (fun _ _ h=>.inl h)
   unfold m_F_j3
   refine ⟨v,B8.cell rfl,fun h=>⟨v,B8.cell rfl,fun _=>bad1 w8 (by rw [hq,← hv,if_pos h]) E68',fun h'=>(by rw [h] at h';cases h')⟩,fun h=>?_⟩
   rw [← hv,if_neg (by rw [h];simp)] at hq
   subst h
   unfold m_F_j2
   refine (c_rd_node p3 p y7 2 false w8 ⟨B8,hR7.pool.ext E8 (fun b hb e=>hout (e▸hb)),hok,hout⟩).mono ?_
   rintro _ w16 ⟨k3,f3,t3,u3,x3,a3,b3,rfl,hn3,hR3,E16⟩
   have e3:u3=(Sp.rdNode L y7 2).1.num:=by rw [← hn3]
   rw [← e3] at hq
   have E616:=E68.trans E16
   refine ⟨_,_,_,_,_,_,_,rfl,bx 5 (c5.ext E616 n35.symm) rfl rfl (fun w17 b17 E17=>⟨(Sp.rdNode L y7 2).2,?_,fun h=>bad1 w17 (by rw [hq];exact h) (up E616 E17),fun h=>good1 w17 ⟨7,0,u3,⟨#[]⟩,false⟩ (by rw [hq,h]) (up E616 E17) b17⟩)⟩
   have:=(hR3.box.ext E17 n35).cell (i:=1) rfl
   simpa using this
  refine ⟨_,_,rfl,(Sp.rdTagged L t).2,?_,fun h=>⟨hR7.box.canW (by simp),?_⟩,fun h=>⟨hR7.box.canW (by simp),?_⟩⟩
  ·have:=hR7.box.cell (i:=1) rfl
   simpa using this
  ·intro w22 hw
   exact J3 true w22 (by rw [h];rfl) (by rw [hw];exact (setr _).1) (by rw [hw];exact (setr _).2)
  ·intro w22 hw
   exact J3 (!decide (x7=Sp.wFull)) w22 (by rw [h];rfl) (by rw [hw];exact (setr _).1) (by rw [hw];exact (setr _).2)
 refine ⟨k,c4.cell0,fun h=>⟨f,c4.cell rfl,a,c4.cell rfl,?_⟩,fun h=>⟨fun h8=>?_,fun h8=>?_⟩⟩
 ·have h7:k=7:=by simpa using h
  rw [if_pos h7] at hq
  refine (c_rd_signed p3 p f a false w6 hR6).mono ?_
  rintro _ w7 ⟨k7,f7,c7,x7,g7,rfl,hl,hR7,E7⟩
  refine ⟨_,_,_,_,_,rfl,bx 5 (c5.ext E7 n35.symm) rfl rfl (fun w8 b8 E8=>⟨(Sp.rdSigned L f a).2,?_,fun h=>bad1 w8 (by rw [hq];exact h) (up E7 E8),fun h=>good1 w8 ⟨k7,f7,c7,x7,g7⟩ (by rw [hq,hl,← h]) (up E7 E8) b8⟩)⟩
  have:=(hR7.box.ext E8 n35).cell (i:=1) rfl
  simpa using this
 ·have h7:k≠7:=by simpa using h
  have h8:k=8:=by simpa using h8
  exact J1p _ (by simp [h8]) h7 (.inl h8)
 ·have h7:k≠7:=by simpa using h
  have h8:k≠8:=by simpa using h8
  by_cases h9:k=9
  ·exact J1p _ (by simp [h9]) h7 (.inr h9)
  ·exact J1t _ (by simpa using h9) h7 (by rintro (h | h) <;> omega)
theorem c_letter_Read (p : Addr) (t : Int) (w : World) {L : Sp.Pool} {F : NP} (hP : PoolAt w p L F) (hok : Sp.Ok L) :
  Calls prog 38 #[.pointer (some p),.int .i64 t] w
   (fun e w'=>∃k:Int,∃f:Int,∃c:Int,∃x:ByteArray,∃fk:Bool,∃ok:Bool,e=.returned (.tuple #[.agg #[.int .i64 k,.int .i64 f,.int .u64 c,.string x,.bool fk],.bool ok])∧(((⟨k,f,c,x,fk⟩:Sp.Letter),ok)=Sp.read L t∧Pure w w')):=c_letter_ReadN (some p) t w hP hok
end Go.Proofs
end
section
open Go Go.SE
open Go.IntKind renaming i64 → q6
namespace Go.Proofs
open Tryd
set_option maxRecDepth 100000
set_option maxHeartbeats 4000000
attribute [local irreducible] wpL wpX opE wpE Calls
def m_Q_l1 (p1:Option Addr) (shown1 s1:Sl) (x1:Int) (wl1:World) (Kc1:Int→WP) (K:Sl→WP):Prop :=
 Br (decide (x1<(shown1.len:Int)))
  (∃a1:Addr,At shown1 x1 1 a1 ∧
  ∃v1:Int,wl1.cell? a1=some (vi v1) ∧
  Calls prog 38 #[(vp p1),(vi v1)] wl1 (fun e w2=>∃aF aR aG:Int,∃aS:ByteArray,∃aT r1:Bool,e=.returned (.tuple #[(.agg #[(vi aF),(vi aR),(vu aG),(vs aS),(vb aT)]),(vb r1)])∧
   ∃a2:Addr,At s1 x1 5 a2 ∧
   (∀j,j<5→CanW w2 (a2.add j))∧∀w3:World,w3=storeRow w2 a2 [(vi aF),(vi aR),(vu aG),(vs aS),(vb aT)] →
   Kc1 (q6.wrap (x1+1)) w3))
  (K s1 wl1)
def m_Q (p1:Option Addr) (shown1:Sl) (w:World) (K:Sl→WP):Prop :=
 ∃s1:Sl,∃w1:World,(Instr.makeSlice 64 (vi (shown1.len:Int)) (vi (shown1.len:Int))).run prog w=.ok s1.v w1 ∧
 Br (Option.isNone p1)
  (K s1 w1)
  (∃(I1:Int→WP) (mu1:Int→World→Nat),I1 0 w1 ∧
   ∀(x1:Int) (wl1:World),I1 x1 wl1→m_Q_l1 p1 shown1 s1 x1 wl1 (fun y'0 w'=>I1 y'0 w'∧mu1 y'0 w'<mu1 x1 wl1) K)
theorem w_Q (p1 : Option Addr) (shown1 : Sl) (w : World) (K : Sl → WP) (h : m_Q p1 shown1 w K) :
  Calls prog 26 #[(vp p1),shown1.v] w (fun e w'=>∃r2:Sl,e=.returned r2.v∧K r2 w'):=by
 unfold m_Q at h
 refine cw (args:=[(vp p1),shown1.v]) func26 ntmps26 (eg (q0 Sl.nil.v (ln (eg (q0 shown1.v (q0 (vi (shown1.len:Int)) ?_))))))
 obtain ⟨s1,w1,hv4,h⟩:=h
 refine st (v:=s1.v) (want0 rfl) (x_makeSlice (by kernel_rfl) (by kernel_rfl) hv4) (q0 s1.v (ln (wpE_seq (eg (q0 (vp p1) (q2 (vb (Option.isNone p1)) (x_ptreq (by kernel_rfl) rfl underlying31) (ln ?_)))))))
 refine wpE_cond (t:=(Option.isNone p1)) (by kernel_rfl) (fun hc1=>?_) (fun hc1=>?_)
 have h:=h.1 hc1
 refine eg (q0 s1.v (q0 s1.v (ln (er (th_r (rs1 results26 (v:=s1.v) ?_))))))
 exact ⟨s1,rfl,h⟩
 have h:=h.2 hc1
 refine wpE_skip (th_n (wpE_seq (eg (q0 shown1.v (q0 (vi (shown1.len:Int)) (q0 (vi 0) (ln (wpE_block ?_))))))))
 obtain ⟨I1,mu1,h0,hr⟩:=h
 refine wpE_loop (σ:=Int×World) (fun s ρ w=>w=s.2∧Has ρ [(0,(vp p1)),(5,s1.v),(14,shown1.v),(15,(vi (shown1.len:Int))),(16,(vi s.1))]∧I1 s.1 s.2) (fun s=>mu1 s.1 s.2) (0,w1) ⟨rfl,hm,h0⟩ ?_
 rintro ⟨x1,wl1⟩ ρ w ⟨hw,hH,hI⟩
 obtain rfl:wl1=w:=(show w=wl1 from hw).symm
 have hH:Has ρ [(0,(vp p1)),(5,s1.v),(14,shown1.v),(15,(vi (shown1.len:Int))),(16,(vi x1))]:=hH
 have h:=hr x1 wl1 hI
 unfold m_Q_l1 at h
 refine wpE_has hH ?_
 refine eg (q0 (vb (decide (x1<(shown1.len:Int)))) (ln (wpE_seq ?_)))
 refine wpE_cond (t:=(decide (x1<(shown1.len:Int)))) (by kernel_rfl) (fun hc2=>?_) (fun hc2=>?_)
 have h:=h.1 hc2
 refine wpE_skip (th_n (wpE_seq (wpE_block (eg (q0 (vi x1) ?_)))))
 obtain ⟨a1,hv3,h⟩:=h
 refine q2 (vp (some a1)) (xi (runUnderlying46 _) (sizeOf33 _) hv3) ?_
 obtain ⟨v1,hv2,h⟩:=h
 refine q2 (vi v1) (xl (isAgg33 _) hv2) (q0 (vi x1) (q0 (vi v1) (ln (rg (q0 s1.v (q0 (vi x1) (q0 (vp p1) (q0 (vi v1) ?_))))))))
 refine sc call38 (h.mono ?_)
 rintro e w2 ⟨aF,aR,aG,aS,aT,r1,rfl,h⟩
 refine ⟨_,rfl,?_⟩
 refine q0 (.tuple #[(.agg #[(vi aF),(vi aR),(vu aG),(vs aS),(vb aT)]),(vb r1)]) (q0 (.agg #[(vi aF),(vi aR),(vu aG),(vs aS),(vb aT)]) (q0 (vb r1) ?_))
 obtain ⟨a2,hv1,h⟩:=h
 refine q2 (vp (some a2)) (xi (runUnderlying64 _) (sizeOf42 _) hv1) ?_
 obtain ⟨hp1,h⟩:=h
 refine ss (xo a2 [(vi aF),(vi aR),(vu aG),(vs aS),(vb aT)] (sizeOf42 _) hp1) ?_
 intro w3 hn1
 have h:=h w3 hn1
 refine wpL_nil (bl_n (th_n (rg (q0 (vi (q6.wrap (x1+1))) (q0 (vi (q6.wrap (x1+1))) (ln ?_))))))
 exact ⟨((q6.wrap (x1+1)),w3),⟨rfl,hm,h.1⟩,h.2⟩
 have h:=h.2 hc2
 refine wpE_exit (th_x (th_x (bl_eq (th_n (eg (q0 s1.v (q0 s1.v (ln (er ?_)))))))))
 refine rs1 results26 (v:=s1.v) ?_
 exact ⟨s1,rfl,h⟩
def m_L_j1 (by1:Int) (p1:Addr) (out1:Sl) (why1:Int) (w:World) (K:Sl→WP):Prop :=
 ∃v2:Int,w.cell? (p1.add 1)=some (vi v2) ∧
 ∃v3:Int,w.cell? (p1.add 2)=some (vu v3) ∧
 ∃v4:ByteArray,w.cell? (p1.add 3)=some (vs v4) ∧
 ∀(p2:Addr) (w2:World),New w (.cells #[(vi v2),(vu v3),(vs v4),(vi why1),(vi by1)] 69) p2 w2 →
 ∃s1:Sl,∃w3:World,(Builtin.append_ #[66,66] 66 #[out1.v,(Sl.mk (some p2) 1 1).v]).run prog w2=.ok s1.v w3 ∧
 K s1 w3
def m_L (aA aB aC:Int) (aD:ByteArray) (aE:Bool) (by1:Int) (w:World) (K:Sl→WP):Prop :=
 ∀(p1:Addr) (w1:World),New w (.cells #[(vi aA),(vi aB),(vu aC),(vs aD),(vb aE)] 42) p1 w1 →
 ∃v1:Int,w1.cell? p1=some (vi v1) ∧
 Br (v1 == 6)
  (CanW w1 (p1.add 1)∧∀w4:World,w4=w1.setCell (p1.add 1) (vi 1) →
  ∃v5:Int,w4.cell? (p1.add 2)=some (vu v5) ∧
  ∃v6:ByteArray,w4.cell? (p1.add 3)=some (vs v6) ∧
  ∀(p3:Addr) (w5:World),New w4 (.cells #[(vi 0),(vu v5),(vs v6),(vi 2),(vi by1)] 69) p3 w5 →
  ∃s2:Sl,∃w6:World,(Builtin.append_ #[66,66] 66 #[Sl.nil.v,(Sl.mk (some p3) 1 1).v]).run prog w5=.ok s2.v w6 ∧
  m_L_j1 by1 p1 s2 2 w6 K)
  (Br (v1 == 2)
   (m_L_j1 by1 p1 Sl.nil 1 w1 K)
   (K Sl.nil w1))
theorem w_L (aA aB aC : Int) (aD : ByteArray) (aE : Bool) (by1 : Int) (w : World) (K : Sl → WP) (h : m_L aA aB aC aD aE by1 w K) :
  Calls prog 27 #[(.agg #[(vi aA),(vi aB),(vu aC),(vs aD),(vb aE)]),(vi by1)] w (fun e w'=>∃r1:Sl,e=.returned r1.v∧K r1 w'):=by
 unfold m_L at h
 refine cw (args:=[(.agg #[(vi aA),(vi aB),(vu aC),(vs aD),(vb aE)]),(vi by1)]) func27 ntmps27 (eg (sn (O:=(.cells #[(vi aA),(vi aB),(vu aC),(vs aD),(vb aE)] 42)) xb ?_))
 intro p1 w1 hn4
 have h:=h p1 w1 hn4
 refine q0 Sl.nil.v (ln (eg (q0 Sl.nil.v (ln (wpE_seq (eg (q0 (vi 1) ?_)))))))
 refine ln (eg (q0 (vp (some p1)) ?_))
 obtain ⟨v1,hv8,h⟩:=h
 refine q2 (vi v1) (xl (isAgg3 _) hv8) (ln (wpE_block ?_))
 refine wpE_join (fun ρ w=>∃out1:Sl,∃why1:Int,Has ρ [(1,(vi by1)),(2,(vp (some p1))),(5,out1.v),(6,(vi why1))]∧m_L_j1 by1 p1 out1 why1 w K) ?_ ?_
 rintro ρ w ⟨out1,why1,hH,h⟩
 unfold m_L_j1 at h
 refine wpE_has hH ?_
 refine eg (q0 out1.v (q0 (vp (some (p1.add 1))) ?_))
 obtain ⟨v2,hv4,h⟩:=h
 refine q2 (vi v2) (xl (isAgg3 _) hv4) (q0 (vp (some (p1.add 2))) ?_)
 obtain ⟨v3,hv3,h⟩:=h
 refine q2 (vu v3) (xl (isAgg22 _) hv3) (q0 (vp (some (p1.add 3))) ?_)
 obtain ⟨v4,hv2,h⟩:=h
 refine q2 (vs v4) (xl (isAgg9 _) hv2) (q0 (vi why1) (q0 (vi by1) (q0 (.agg #[(vi v2),(vu v3),(vs v4),(vi why1),(vi by1)]) (st_new (O:=(.cells #[(vi v2),(vu v3),(vs v4),(vi why1),(vi by1)] 69)) (fun p=>(Sl.mk (some p) 1 1).v) (want0 rfl) (x_buildSlice (vs:=#[(0,(.agg #[(vi v2),(vu v3),(vs v4),(vi why1),(vi by1)]))]) (by kernel_rfl) (by kernel_rfl)) ?_))))
 intro p2 w2 hn1
 have h:=h p2 w2 hn1
 obtain ⟨s1,w3,hv1,h⟩:=h
 refine st (v:=s1.v) (want0 rfl) (x_builtin (args:=#[out1.v,(Sl.mk (some p2) 1 1).v]) (by kernel_rfl) (fun _=>rfl) hv1) (q0 s1.v (ln (wpE_exit (bl_eq (th_n (eg (q0 s1.v (q0 s1.v (wpL_nil ?_)))))))))
 refine th_n (er (rs1 results27 (v:=s1.v) ?_))
 exact ⟨s1,rfl,h⟩
 refine wpE_block (wpE_seq (wpE_block (wpE_seq (wpE_seq (eg (q0 (vb (v1 == 6)) (q0 (vb (v1 == 6)) (ln ?_))))))))
 refine wpE_cond (t:=(v1 == 6)) (by kernel_rfl) (fun hc1=>?_) (fun hc1=>?_)
 have h:=h.1 hc1
 refine wpE_exit (th_x (th_x (bl_eq (th_n (eg (q0 (vi 2) (ln (eg ?_))))))))
 refine q0 (vp (some (p1.add 1))) ?_
 obtain ⟨hp1,h⟩:=h
 refine ss (x_store (a:=(p1.add 1)) (v:=(vi 1)) (by kernel_rfl) (by kernel_rfl) rfl (sizeOf3 _) hp1) ?_
 intro w4 hn2
 have h:=h w4 hn2
 refine ln (rg (q0 Sl.nil.v (q0 (vp (some (p1.add 2))) ?_)))
 obtain ⟨v5,hv7,h⟩:=h
 refine q2 (vu v5) (xl (isAgg22 _) hv7) (q0 (vp (some (p1.add 3))) ?_)
 obtain ⟨v6,hv6,h⟩:=h
 refine q2 (vs v6) (xl (isAgg9 _) hv6) (q0 (vi 2) (q0 (vi by1) (q0 (.agg #[(vi 0),(vu v5),(vs v6),(vi 2),(vi by1)]) (st_new (O:=(.cells #[(vi 0),(vu v5),(vs v6),(vi 2),(vi by1)] 69)) (fun p=>(Sl.mk (some p) 1 1).v) (want0 rfl) (x_buildSlice (vs:=#[(0,(.agg #[(vi 0),(vu v5),(vs v6),(vi 2),(vi by1)]))]) (by kernel_rfl) (by kernel_rfl)) ?_))))
 intro p3 w5 hn3
 have h:=h p3 w5 hn3
 obtain ⟨s2,w6,hv5,h⟩:=h
 refine st (v:=s2.v) (want0 rfl) (x_builtin (args:=#[Sl.nil.v,(Sl.mk (some p3) 1 1).v]) (by kernel_rfl) (fun _=>rfl) hv5) (q0 s2.v (wpL_nil (bl_n (th_n ?_))))
 exact ⟨s2,2,hm,h⟩
 have h:=h.2 hc1
 refine wpE_skip (th_n (eg (q0 (vb (v1 == 2)) (q0 (vb (v1 == 2)) (ln ?_)))))
 refine wpE_cond (t:=(v1 == 2)) (by kernel_rfl) (fun hc2=>?_) (fun hc2=>?_)
 have h:=h.1 hc2
 refine wpE_exit (th_x (bl_ne rfl (th_x (bl_eq (th_n ?_)))))
 exact ⟨Sl.nil,1,hm,h⟩
 have h:=h.2 hc2
 refine wpE_skip (th_n (wpE_exit (bl_ne rfl (th_x (bl_ne rfl (th_x (bl_eq (th_n (eg (q0 Sl.nil.v ?_))))))))))
 refine q0 Sl.nil.v (ln (er (rs1 results27 (v:=Sl.nil.v) ?_)))
 exact ⟨Sl.nil,rfl,h⟩
def m_A_j3 (p1 p2:Addr) (p3 p4:Addr) (x3:Bool) (w:World) (K:Int→Int→Int→Int→Int→WP):Prop :=
 Br x3
  (CanW w p4∧∀w13:World,w13=w.setCell p4 (vi 0) →
  CanW w13 (p4.add 2)∧∀w14:World,w14=w13.setCell (p4.add 2) (vi 3) →
  ∃aU aV:Int,∃aW aX aY:Int,Row w14 p4 [(vi aU),(vu aV),(vi aW),(vi aX),(vi aY)] ∧
  (∀j,j<5→CanW w14 (p3.add j))∧∀w15:World,w15=storeRow w14 p3 [(vi aU),(vu aV),(vi aW),(vi aX),(vi aY)] →
  ∃aZ bA:Int,∃bB bC bD:Int,Row w15 p3 [(vi aZ),(vu bA),(vi bB),(vi bC),(vi bD)] ∧
  K aZ bA bB bC bD w15)
  (∃aH aI aJ:Int,∃aK:ByteArray,∃aL:Bool,Row w p2 [(vi aH),(vi aI),(vu aJ),(vs aK),(vb aL)] ∧
  Calls prog 39 #[(.agg #[(vi aH),(vi aI),(vu aJ),(vs aK),(vb aL)])] w (fun e w16=>∃r1:Bool,e=.returned (vb r1)∧
   Br r1
    (∃v5:Int,w16.cell? p1=some (vi v5) ∧
    Br (v5 == 3)
     (CanW w16 p4∧∀w17:World,w17=w16.setCell p4 (vi 0) →
     CanW w17 (p4.add 2)∧∀w18:World,w18=w17.setCell (p4.add 2) (vi 3) →
     ∃bE bF:Int,∃bG bH bI:Int,Row w18 p4 [(vi bE),(vu bF),(vi bG),(vi bH),(vi bI)] ∧
     (∀j,j<5→CanW w18 (p3.add j))∧∀w19:World,w19=storeRow w18 p3 [(vi bE),(vu bF),(vi bG),(vi bH),(vi bI)] →
     ∃bJ bK:Int,∃bL bM bN:Int,Row w19 p3 [(vi bJ),(vu bK),(vi bL),(vi bM),(vi bN)] ∧
     K bJ bK bL bM bN w19)
     (∃bO bP:Int,∃bQ bR bS:Int,Row w16 p4 [(vi bO),(vu bP),(vi bQ),(vi bR),(vi bS)] ∧
     (∀j,j<5→CanW w16 (p3.add j))∧∀w20:World,w20=storeRow w16 p3 [(vi bO),(vu bP),(vi bQ),(vi bR),(vi bS)] →
     ∃bT bU:Int,∃bV bW bX:Int,Row w20 p3 [(vi bT),(vu bU),(vi bV),(vi bW),(vi bX)] ∧
     K bT bU bV bW bX w20))
    (∃bY bZ:Int,∃cA cB cC:Int,Row w16 p4 [(vi bY),(vu bZ),(vi cA),(vi cB),(vi cC)] ∧
    (∀j,j<5→CanW w16 (p3.add j))∧∀w21:World,w21=storeRow w16 p3 [(vi bY),(vu bZ),(vi cA),(vi cB),(vi cC)] →
    ∃cD cE:Int,∃cF cG cH:Int,Row w21 p3 [(vi cD),(vu cE),(vi cF),(vi cG),(vi cH)] ∧
    K cD cE cF cG cH w21)))
def m_A_j2 (p1 p2:Addr) (p3 p4:Addr) (x2:Bool) (w:World) (K:Int→Int→Int→Int→Int→WP):Prop :=
 Br x2
  (CanW w p4∧∀w10:World,w10=w.setCell p4 (vi 2) →
  CanW w10 (p4.add 2)∧∀w11:World,w11=w10.setCell (p4.add 2) (vi 2) →
  ∃cI cJ:Int,∃cK cL cM:Int,Row w11 p4 [(vi cI),(vu cJ),(vi cK),(vi cL),(vi cM)] ∧
  (∀j,j<5→CanW w11 (p3.add j))∧∀w12:World,w12=storeRow w11 p3 [(vi cI),(vu cJ),(vi cK),(vi cL),(vi cM)] →
  ∃cN cO:Int,∃cP cQ cR:Int,Row w12 p3 [(vi cN),(vu cO),(vi cP),(vi cQ),(vi cR)] ∧
  K cN cO cP cQ cR w12)
  (∃aM aN aO:Int,∃aP:ByteArray,∃aQ:Bool,Row w p1 [(vi aM),(vi aN),(vu aO),(vs aP),(vb aQ)] ∧
  Calls prog 39 #[(.agg #[(vi aM),(vi aN),(vu aO),(vs aP),(vb aQ)])] w (fun e w22=>∃r2:Bool,e=.returned (vb r2)∧
   Br r2
    (∃v6:Int,w22.cell? p2=some (vi v6) ∧
    m_A_j3 p1 p2 p3 p4 (v6 == 3) w22 K)
    (m_A_j3 p1 p2 p3 p4 false w22 K)))
def m_A_j4 (p1 p2:Addr) (p3 p4:Addr) (x4:Bool) (w:World) (K:Int→Int→Int→Int→Int→WP):Prop :=
 Br x4
  (∃dR dS dT:Int,∃dU:ByteArray,∃dV:Bool,Row w p1 [(vi dR),(vi dS),(vu dT),(vs dU),(vb dV)] ∧
  ∃dW dX dY:Int,∃dZ:ByteArray,∃eA:Bool,Row w p2 [(vi dW),(vi dX),(vu dY),(vs dZ),(vb eA)] ∧
  ∃b1:Bool,(Go.binOp .neq 42 (.agg #[(vi dR),(vi dS),(vu dT),(vs dU),(vb dV)]) (.agg #[(vi dW),(vi dX),(vu dY),(vs dZ),(vb eA)])).run prog w=.ok (vb b1) w ∧
  m_A_j2 p1 p2 p3 p4 b1 w K)
  (m_A_j2 p1 p2 p3 p4 false w K)
def m_A_j1 (p1 p2:Addr) (p3 p4:Addr) (x1:Bool) (w:World) (K:Int→Int→Int→Int→Int→WP):Prop :=
 Br x1
  (∃v4:Int,w.cell? (p1.add 1)=some (vi v4) ∧
  CanW w p4∧∀w7:World,w7=w.setCell p4 (vi v4) →
  CanW w7 (p4.add 2)∧∀w8:World,w8=w7.setCell (p4.add 2) (vi 1) →
  ∃cS cT:Int,∃cU cV cW:Int,Row w8 p4 [(vi cS),(vu cT),(vi cU),(vi cV),(vi cW)] ∧
  (∀j,j<5→CanW w8 (p3.add j))∧∀w9:World,w9=storeRow w8 p3 [(vi cS),(vu cT),(vi cU),(vi cV),(vi cW)] →
  ∃cX cY:Int,∃cZ dA dB:Int,Row w9 p3 [(vi cX),(vu cY),(vi cZ),(vi dA),(vi dB)] ∧
  K cX cY cZ dA dB w9)
  (∃eB eC eD:Int,∃eE:ByteArray,∃eF:Bool,Row w p1 [(vi eB),(vi eC),(vu eD),(vs eE),(vb eF)] ∧
  Calls prog 40 #[(.agg #[(vi eB),(vi eC),(vu eD),(vs eE),(vb eF)])] w (fun e w23=>∃r3:Bool,e=.returned (vb r3)∧
   Br r3
    (∃eG eH eI:Int,∃eJ:ByteArray,∃eK:Bool,Row w23 p2 [(vi eG),(vi eH),(vu eI),(vs eJ),(vb eK)] ∧
    Calls prog 40 #[(.agg #[(vi eG),(vi eH),(vu eI),(vs eJ),(vb eK)])] w23 (fun e w24=>∃r4:Bool,e=.returned (vb r4)∧
     m_A_j4 p1 p2 p3 p4 r4 w24 K))
    (m_A_j4 p1 p2 p3 p4 false w23 K)))
def m_A_j6 (p1 p2:Addr) (p3 p4:Addr) (x6:Bool) (w:World) (K:Int→Int→Int→Int→Int→WP):Prop :=
 Br x6
  (∃v8:ByteArray,w.cell? (p1.add 3)=some (vs v8) ∧
  ∃v9:ByteArray,w.cell? (p2.add 3)=some (vs v9) ∧
  m_A_j1 p1 p2 p3 p4 (!(decide (v8=v9))) w K)
  (m_A_j1 p1 p2 p3 p4 false w K)
def m_A_j5 (p1 p2:Addr) (p3 p4:Addr) (x5:Bool) (w:World) (K:Int→Int→Int→Int→Int→WP):Prop :=
 Br x5
  (∃v10:Int,w.cell? (p1.add 1)=some (vi v10) ∧
  ∃v11:Int,w.cell? (p2.add 1)=some (vi v11) ∧
  m_A_j6 p1 p2 p3 p4 (v10 == v11) w K)
  (m_A_j6 p1 p2 p3 p4 false w K)
def m_A (dC dD dE:Int) (dF:ByteArray) (dG:Bool) (dH dI dJ:Int) (dK:ByteArray) (dL:Bool) (w:World) (K:Int→Int→Int→Int→Int→WP):Prop :=
 ∀(p1:Addr) (w1:World),New w (.cells #[(vi dC),(vi dD),(vu dE),(vs dF),(vb dG)] 42) p1 w1 →
 ∀(p2:Addr) (w2:World),New w1 (.cells #[(vi dH),(vi dI),(vu dJ),(vs dK),(vb dL)] 42) p2 w2 →
 ∀(p3:Addr) (w3:World),New w2 (.cells #[(vi 0),(vu 0),(vi 0),(vi 0),(vi 0)] 24) p3 w3 →
 ∃v1:Int,w3.cell? (p1.add 2)=some (vu v1) ∧
 ∀(p4:Addr) (w4:World),New w3 (.cells #[(vi 0),(vu 0),(vi 0),(vi 0),(vi 0)] 24) p4 w4 →
 (∀j,j<5→CanW w4 (p4.add j))∧∀w5:World,w5=storeRow w4 p4 [(vi 0),(vu v1),(vi 0),(vi 0),(vi 0)] →
 ∃v2:Int,w5.cell? (p1.add 2)=some (vu v2) ∧
 ∃v3:Int,w5.cell? (p2.add 2)=some (vu v3) ∧
 Br (v2 != v3)
  ((∀j,j<5→CanW w5 (p3.add j))∧∀w6:World,w6=storeRow w5 p3 [(vi 0),(vu 0),(vi 0),(vi 0),(vi 0)] →
  ∃dM dN:Int,∃dO dP dQ:Int,Row w6 p3 [(vi dM),(vu dN),(vi dO),(vi dP),(vi dQ)] ∧
  K dM dN dO dP dQ w6)
  (∃v7:Int,w5.cell? p1=some (vi v7) ∧
  Br (v7 == 2)
   (∃v12:Int,w5.cell? p2=some (vi v12) ∧
   m_A_j5 p1 p2 p3 p4 (v12 == 2) w5 K)
   (m_A_j5 p1 p2 p3 p4 false w5 K))
theorem w_A (dC dD dE : Int) (dF : ByteArray) (dG : Bool) (dH dI dJ : Int) (dK : ByteArray) (dL : Bool) (w : World) (K : Int → Int → Int → Int → Int → WP) (h : m_A dC dD dE dF dG dH dI dJ dK dL w K) :
  Calls prog 28 #[(.agg #[(vi dC),(vi dD),(vu dE),(vs dF),(vb dG)]),(.agg #[(vi dH),(vi dI),(vu dJ),(vs dK),(vb dL)])] w (fun e w'=>∃eL aG:Int,∃aF eM eN:Int,e=.returned (.agg #[(vi eL),(vu aG),(vi aF),(vi eM),(vi eN)])∧K eL aG aF eM eN w'):=by
 unfold m_A at h
 refine cw (args:=[(.agg #[(vi dC),(vi dD),(vu dE),(vs dF),(vb dG)]),(.agg #[(vi dH),(vi dI),(vu dJ),(vs dK),(vb dL)])]) func28 ntmps28 (eg (sn (O:=(.cells #[(vi dC),(vi dD),(vu dE),(vs dF),(vb dG)] 42)) xb ?_))
 intro p1 w1 hn20
 have h:=h p1 w1 hn20
 refine sn (O:=(.cells #[(vi dH),(vi dI),(vu dJ),(vs dK),(vb dL)] 42)) xb ?_
 intro p2 w2 hn19
 have h:=h p2 w2 hn19
 refine sn (O:=(.cells #[(vi 0),(vu 0),(vi 0),(vi 0),(vi 0)] 24)) (x_alloc (zeroValue24 _) rfl) ?_
 intro p3 w3 hn18
 have h:=h p3 w3 hn18
 refine ln (eg (q0 (vp (some (p1.add 2))) ?_))
 obtain ⟨v1,hv32,h⟩:=h
 refine q2 (vu v1) (xl (isAgg22 _) hv32) (q0 (.agg #[(vi 0),(vu v1),(vi 0),(vi 0),(vi 0)]) (sn (O:=(.cells #[(vi 0),(vu 0),(vi 0),(vi 0),(vi 0)] 24)) (x_alloc (zeroValue24 _) rfl) ?_))
 intro p4 w4 hn17
 have h:=h p4 w4 hn17
 obtain ⟨hp1,h⟩:=h
 refine ss (xo p4 [(vi 0),(vu v1),(vi 0),(vi 0),(vi 0)] (sizeOf24 _) hp1) ?_
 intro w5 hn1
 have h:=h w5 hn1
 refine ln (wpE_seq (eg (q0 (vp (some (p1.add 2))) ?_)))
 obtain ⟨v2,hv31,h⟩:=h
 refine q2 (vu v2) (xl (isAgg22 _) hv31) (q0 (vp (some (p2.add 2))) ?_)
 obtain ⟨v3,hv30,h⟩:=h
 refine q2 (vu v3) (xl (isAgg22 _) hv30) (q0 (vb (v2 != v3)) (ln ?_))
 refine wpE_cond (t:=(v2 != v3)) (by kernel_rfl) (fun hc1=>?_) (fun hc1=>?_)
 have h:=h.1 hc1
 refine eg (q0 (.agg #[(vi 0),(vu 0),(vi 0),(vi 0),(vi 0)]) ?_)
 obtain ⟨hp2,h⟩:=h
 refine ss (xo p3 [(vi 0),(vu 0),(vi 0),(vi 0),(vi 0)] (sizeOf24 _) hp2) ?_
 intro w6 hn2
 have h:=h w6 hn2
 refine ln (er (th_r ?_))
 obtain ⟨dM,dN,dO,dP,dQ,hv1,h⟩:=h
 refine resG (.inl rfl) (vs:=[(.agg #[(vi dM),(vu dN),(vi dO),(vi dP),(vi dQ)])]) (v:=(.agg #[(vi dM),(vu dN),(vi dO),(vi dP),(vi dQ)])) results28 ⟨(rva (isAgg24 _) (sizeOf24 _) hv1),trivial⟩ (by kernel_rfl) ?_
 exact ⟨dM,dN,dO,dP,dQ,rfl,h⟩
 have h:=h.2 hc1
 refine wpE_skip (th_n (eg (q0 (.func (.func 39) #[] #[]) (ln (wpE_seq (wpE_block ?_))))))
 refine wpE_join (fun ρ w=>∃x1:Bool,Has ρ [(2,(vp (some p1))),(3,(vp (some p2))),(4,(vp (some p3))),(5,(vp (some p4))),(6,(.func (.func 39) #[] #[])),(16,(vb x1))]∧m_A_j1 p1 p2 p3 p4 x1 w K) ?_ ?_
 rintro ρ w ⟨x1,hH,h⟩
 unfold m_A_j1 at h
 refine wpE_has hH ?_
 refine wpE_cond (t:=x1) (by kernel_rfl) (fun hc2=>?_) (fun hc2=>?_)
 have h:=h.1 hc2
 refine rg (q0 (vp (some (p1.add 1))) ?_)
 obtain ⟨v4,hv4,h⟩:=h
 refine q2 (vi v4) (xl (isAgg3 _) hv4) (q0 (vp (some p4)) ?_)
 obtain ⟨hp3,h⟩:=h
 refine ss (x_store (a:=p4) (v:=(vi v4)) (by kernel_rfl) (by kernel_rfl) rfl (sizeOf3 _) hp3) ?_
 intro w7 hn3
 have h:=h w7 hn3
 refine q0 (vp (some (p4.add 2))) ?_
 obtain ⟨hp4,h⟩:=h
 refine ss (x_store (a:=(p4.add 2)) (v:=(vi 1)) (by kernel_rfl) (by kernel_rfl) rfl (sizeOf3 _) hp4) ?_
 intro w8 hn4
 have h:=h w8 hn4
 refine wpL_nil (bl_n (th_n (eg ?_)))
 obtain ⟨cS,cT,cU,cV,cW,hv3,h⟩:=h
 refine q2 (.agg #[(vi cS),(vu cT),(vi cU),(vi cV),(vi cW)]) (xa p4 [(vi cS),(vu cT),(vi cU),(vi cV),(vi cW)] (isAgg24 _) (sizeOf24 _) hv3) ?_
 obtain ⟨hp5,h⟩:=h
 refine ss (xo p3 [(vi cS),(vu cT),(vi cU),(vi cV),(vi cW)] (sizeOf24 _) hp5) ?_
 intro w9 hn5
 have h:=h w9 hn5
 refine ln (er ?_)
 obtain ⟨cX,cY,cZ,dA,dB,hv2,h⟩:=h
 refine resG (.inl rfl) (vs:=[(.agg #[(vi cX),(vu cY),(vi cZ),(vi dA),(vi dB)])]) (v:=(.agg #[(vi cX),(vu cY),(vi cZ),(vi dA),(vi dB)])) results28 ⟨(rva (isAgg24 _) (sizeOf24 _) hv2),trivial⟩ (by kernel_rfl) ?_
 exact ⟨cX,cY,cZ,dA,dB,rfl,h⟩
 have h:=h.2 hc2
 refine wpE_join (fun ρ w=>∃x2:Bool,Has ρ [(2,(vp (some p1))),(3,(vp (some p2))),(4,(vp (some p3))),(5,(vp (some p4))),(6,(.func (.func 39) #[] #[])),(43,(vb x2))]∧m_A_j2 p1 p2 p3 p4 x2 w K) ?_ ?_
 rintro ρ w ⟨x2,hH,h⟩
 unfold m_A_j2 at h
 refine wpE_has hH ?_
 refine wpE_cond (t:=x2) (by kernel_rfl) (fun hc3=>?_) (fun hc3=>?_)
 have h:=h.1 hc3
 refine rg (q0 (vp (some p4)) ?_)
 obtain ⟨hp6,h⟩:=h
 refine ss (x_store (a:=p4) (v:=(vi 2)) (by kernel_rfl) (by kernel_rfl) rfl (sizeOf3 _) hp6) ?_
 intro w10 hn6
 have h:=h w10 hn6
 refine q0 (vp (some (p4.add 2))) ?_
 obtain ⟨hp7,h⟩:=h
 refine ss (x_store (a:=(p4.add 2)) (v:=(vi 2)) (by kernel_rfl) (by kernel_rfl) rfl (sizeOf3 _) hp7) ?_
 intro w11 hn7
 have h:=h w11 hn7
 refine wpL_nil (bl_n (th_n (eg ?_)))
 obtain ⟨cI,cJ,cK,cL,cM,hv6,h⟩:=h
 refine q2 (.agg #[(vi cI),(vu cJ),(vi cK),(vi cL),(vi cM)]) (xa p4 [(vi cI),(vu cJ),(vi cK),(vi cL),(vi cM)] (isAgg24 _) (sizeOf24 _) hv6) ?_
 obtain ⟨hp8,h⟩:=h
 refine ss (xo p3 [(vi cI),(vu cJ),(vi cK),(vi cL),(vi cM)] (sizeOf24 _) hp8) ?_
 intro w12 hn8
 have h:=h w12 hn8
 refine ln (er ?_)
 obtain ⟨cN,cO,cP,cQ,cR,hv5,h⟩:=h
 refine resG (.inl rfl) (vs:=[(.agg #[(vi cN),(vu cO),(vi cP),(vi cQ),(vi cR)])]) (v:=(.agg #[(vi cN),(vu cO),(vi cP),(vi cQ),(vi cR)])) results28 ⟨(rva (isAgg24 _) (sizeOf24 _) hv5),trivial⟩ (by kernel_rfl) ?_
 exact ⟨cN,cO,cP,cQ,cR,rfl,h⟩
 have h:=h.2 hc3
 refine wpE_seq ?_
 refine wpE_join (fun ρ w=>∃x3:Bool,Has ρ [(2,(vp (some p1))),(3,(vp (some p2))),(4,(vp (some p3))),(5,(vp (some p4))),(6,(.func (.func 39) #[] #[])),(57,(vb x3))]∧m_A_j3 p1 p2 p3 p4 x3 w K) ?_ ?_
 rintro ρ w ⟨x3,hH,h⟩
 unfold m_A_j3 at h
 refine wpE_has hH ?_
 refine wpE_cond (t:=x3) (by kernel_rfl) (fun hc4=>?_) (fun hc4=>?_)
 have h:=h.1 hc4
 refine wpE_skip (th_n (wpE_condT' (t:=x3) (by kernel_rfl) hc4 (rg (q0 (vp (some p4)) ?_))))
 obtain ⟨hp9,h⟩:=h
 refine ss (x_store (a:=p4) (v:=(vi 0)) (by kernel_rfl) (by kernel_rfl) rfl (sizeOf3 _) hp9) ?_
 intro w13 hn9
 have h:=h w13 hn9
 refine q0 (vp (some (p4.add 2))) ?_
 obtain ⟨hp10,h⟩:=h
 refine ss (x_store (a:=(p4.add 2)) (v:=(vi 3)) (by kernel_rfl) (by kernel_rfl) rfl (sizeOf3 _) hp10) ?_
 intro w14 hn10
 have h:=h w14 hn10
 refine wpL_nil (bl_n (th_n (eg ?_)))
 obtain ⟨aU,aV,aW,aX,aY,hv8,h⟩:=h
 refine q2 (.agg #[(vi aU),(vu aV),(vi aW),(vi aX),(vi aY)]) (xa p4 [(vi aU),(vu aV),(vi aW),(vi aX),(vi aY)] (isAgg24 _) (sizeOf24 _) hv8) ?_
 obtain ⟨hp11,h⟩:=h
 refine ss (xo p3 [(vi aU),(vu aV),(vi aW),(vi aX),(vi aY)] (sizeOf24 _) hp11) ?_
 intro w15 hn11
 have h:=h w15 hn11
 refine ln (er ?_)
 obtain ⟨aZ,bA,bB,bC,bD,hv7,h⟩:=h
 refine resG (.inl rfl) (vs:=[(.agg #[(vi aZ),(vu bA),(vi bB),(vi bC),(vi bD)])]) (v:=(.agg #[(vi aZ),(vu bA),(vi bB),(vi bC),(vi bD)])) results28 ⟨(rva (isAgg24 _) (sizeOf24 _) hv7),trivial⟩ (by kernel_rfl) ?_
 exact ⟨aZ,bA,bB,bC,bD,rfl,h⟩
 have h:=h.2 hc4
 refine rg (q0 (.func (.func 39) #[] #[]) ?_)
 obtain ⟨aH,aI,aJ,aK,aL,hv16,h⟩:=h
 refine q2 (.agg #[(vi aH),(vi aI),(vu aJ),(vs aK),(vb aL)]) (xa p2 [(vi aH),(vi aI),(vu aJ),(vs aK),(vb aL)] (isAgg42 _) (sizeOf42 _) hv16) ?_
 refine st_call (want0 rfl) (x_callm (fs:=#[]) (caps:=#[]) (args:=#[(.agg #[(vi aH),(vi aI),(vu aJ),(vs aK),(vb aL)])]) (args':=#[(.agg #[(vi aH),(vi aI),(vu aJ),(vs aK),(vb aL)])]) (by kernel_rfl) call39 (by kernel_rfl) (by kernel_rfl)) (h.mono ?_)
 rintro e w16 ⟨r1,rfl,h⟩
 refine ⟨_,rfl,?_⟩
 refine q0 (vb r1) ?_
 rcases bte r1 with hg1 | hg1
 have h:=h.1 hg1
 refine q1 (vp (some p1)) (wy 69 hg1) ?_
 obtain ⟨v5,hv13,h⟩:=h
 refine stp (v:=(vi v5)) (wy 69 hg1) (xl (isAgg3 _) hv13) (q1 (vb (v5 == 3)) (wy 69 hg1) (q2 (vb (v5 == 3)) (xT hg1) (q0 (vb (v5 == 3)) (ln ?_))))
 refine wpE_cond (t:=(v5 == 3)) (by kernel_rfl) (fun hc5=>?_) (fun hc5=>?_)
 have h:=h.1 hc5
 refine rg (q0 (vp (some p4)) ?_)
 obtain ⟨hp12,h⟩:=h
 refine ss (x_store (a:=p4) (v:=(vi 0)) (by kernel_rfl) (by kernel_rfl) rfl (sizeOf3 _) hp12) ?_
 intro w17 hn12
 have h:=h w17 hn12
 refine q0 (vp (some (p4.add 2))) ?_
 obtain ⟨hp13,h⟩:=h
 refine ss (x_store (a:=(p4.add 2)) (v:=(vi 3)) (by kernel_rfl) (by kernel_rfl) rfl (sizeOf3 _) hp13) ?_
 intro w18 hn13
 have h:=h w18 hn13
 refine wpL_nil (bl_n (th_n (eg ?_)))
 obtain ⟨bE,bF,bG,bH,bI,hv10,h⟩:=h
 refine q2 (.agg #[(vi bE),(vu bF),(vi bG),(vi bH),(vi bI)]) (xa p4 [(vi bE),(vu bF),(vi bG),(vi bH),(vi bI)] (isAgg24 _) (sizeOf24 _) hv10) ?_
 obtain ⟨hp14,h⟩:=h
 refine ss (xo p3 [(vi bE),(vu bF),(vi bG),(vi bH),(vi bI)] (sizeOf24 _) hp14) ?_
 intro w19 hn14
 have h:=h w19 hn14
 refine ln (er ?_)
 obtain ⟨bJ,bK,bL,bM,bN,hv9,h⟩:=h
 refine resG (.inl rfl) (vs:=[(.agg #[(vi bJ),(vu bK),(vi bL),(vi bM),(vi bN)])]) (v:=(.agg #[(vi bJ),(vu bK),(vi bL),(vi bM),(vi bN)])) results28 ⟨(rva (isAgg24 _) (sizeOf24 _) hv9),trivial⟩ (by kernel_rfl) ?_
 exact ⟨bJ,bK,bL,bM,bN,rfl,h⟩
 have h:=h.2 hc5
 refine wpE_skip (bl_n (th_n (eg ?_)))
 obtain ⟨bO,bP,bQ,bR,bS,hv12,h⟩:=h
 refine q2 (.agg #[(vi bO),(vu bP),(vi bQ),(vi bR),(vi bS)]) (xa p4 [(vi bO),(vu bP),(vi bQ),(vi bR),(vi bS)] (isAgg24 _) (sizeOf24 _) hv12) ?_
 obtain ⟨hp15,h⟩:=h
 refine ss (xo p3 [(vi bO),(vu bP),(vi bQ),(vi bR),(vi bS)] (sizeOf24 _) hp15) ?_
 intro w20 hn15
 have h:=h w20 hn15
 refine ln (er ?_)
 obtain ⟨bT,bU,bV,bW,bX,hv11,h⟩:=h
 refine resG (.inl rfl) (vs:=[(.agg #[(vi bT),(vu bU),(vi bV),(vi bW),(vi bX)])]) (v:=(.agg #[(vi bT),(vu bU),(vi bV),(vi bW),(vi bX)])) results28 ⟨(rva (isAgg24 _) (sizeOf24 _) hv11),trivial⟩ (by kernel_rfl) ?_
 exact ⟨bT,bU,bV,bW,bX,rfl,h⟩
 have h:=h.2 hg1
 refine sk (yD 69 hg1) (sk (yD 69 hg1) (sk (yD 69 hg1) (q2 (vb false) (xF hg1) (q0 (vb false) (ln (wpE_condF (by kernel_rfl) (wpE_skip (bl_n (th_n (wpE_seq ?_))))))))))
 refine rg ?_
 obtain ⟨bY,bZ,cA,cB,cC,hv15,h⟩:=h
 refine q2 (.agg #[(vi bY),(vu bZ),(vi cA),(vi cB),(vi cC)]) (xa p4 [(vi bY),(vu bZ),(vi cA),(vi cB),(vi cC)] (isAgg24 _) (sizeOf24 _) hv15) ?_
 obtain ⟨hp16,h⟩:=h
 refine ss (xo p3 [(vi bY),(vu bZ),(vi cA),(vi cB),(vi cC)] (sizeOf24 _) hp16) ?_
 intro w21 hn16
 have h:=h w21 hn16
 refine ln (er ?_)
 obtain ⟨cD,cE,cF,cG,cH,hv14,h⟩:=h
 refine resG (.inl rfl) (vs:=[(.agg #[(vi cD),(vu cE),(vi cF),(vi cG),(vi cH)])]) (v:=(.agg #[(vi cD),(vu cE),(vi cF),(vi cG),(vi cH)])) results28 ⟨(rva (isAgg24 _) (sizeOf24 _) hv14),trivial⟩ (by kernel_rfl) ?_
 exact ⟨cD,cE,cF,cG,cH,rfl,h⟩
 refine rg (q0 (.func (.func 39) #[] #[]) ?_)
 obtain ⟨aM,aN,aO,aP,aQ,hv18,h⟩:=h
 refine q2 (.agg #[(vi aM),(vi aN),(vu aO),(vs aP),(vb aQ)]) (xa p1 [(vi aM),(vi aN),(vu aO),(vs aP),(vb aQ)] (isAgg42 _) (sizeOf42 _) hv18) ?_
 refine st_call (want0 rfl) (x_callm (fs:=#[]) (caps:=#[]) (args:=#[(.agg #[(vi aM),(vi aN),(vu aO),(vs aP),(vb aQ)])]) (args':=#[(.agg #[(vi aM),(vi aN),(vu aO),(vs aP),(vb aQ)])]) (by kernel_rfl) call39 (by kernel_rfl) (by kernel_rfl)) (h.mono ?_)
 rintro e w22 ⟨r2,rfl,h⟩
 refine ⟨_,rfl,?_⟩
 refine q0 (vb r2) ?_
 rcases bte r2 with hg2 | hg2
 have h:=h.1 hg2
 refine q1 (vp (some p2)) (wy 61 hg2) ?_
 obtain ⟨v6,hv17,h⟩:=h
 refine stp (v:=(vi v6)) (wy 61 hg2) (xl (isAgg3 _) hv17) (q1 (vb (v6 == 3)) (wy 61 hg2) (q2 (vb (v6 == 3)) (xT hg2) (q0 (vb (v6 == 3)) (ln ?_))))
 exact ⟨(v6 == 3),hm,h⟩
 have h:=h.2 hg2
 refine sk (yD 61 hg2) (sk (yD 61 hg2) (sk (yD 61 hg2) (q2 (vb false) (xF hg2) (q0 (vb false) (ln ?_)))))
 exact ⟨false,hm,h⟩
 refine rg ?_
 obtain ⟨eB,eC,eD,eE,eF,hv23,h⟩:=h
 refine q2 (.agg #[(vi eB),(vi eC),(vu eD),(vs eE),(vb eF)]) (xa p1 [(vi eB),(vi eC),(vu eD),(vs eE),(vb eF)] (isAgg42 _) (sizeOf42 _) hv23) ?_
 refine sc call40 (h.mono ?_)
 rintro e w23 ⟨r3,rfl,h⟩
 refine ⟨_,rfl,?_⟩
 refine q0 (vb r3) ?_
 refine wpL_join 3 (fun ρ w=>∃x4:Bool,Has ρ [(2,(vp (some p1))),(3,(vp (some p2))),(4,(vp (some p3))),(5,(vp (some p4))),(6,(.func (.func 39) #[] #[])),(49,(vb x4))]∧m_A_j4 p1 p2 p3 p4 x4 w K) ?_ ?_
 rintro ρ w ⟨x4,hH,h⟩
 unfold m_A_j4 at h
 refine wpL_has hH ?_
 refine q0 (vb x4) ?_
 rcases bte x4 with hg3 | hg3
 have h:=h.1 hg3
 obtain ⟨dR,dS,dT,dU,dV,hv21,h⟩:=h
 refine stp (v:=(.agg #[(vi dR),(vi dS),(vu dT),(vs dU),(vb dV)])) (wy 50 hg3) (xa p1 [(vi dR),(vi dS),(vu dT),(vs dU),(vb dV)] (isAgg42 _) (sizeOf42 _) hv21) ?_
 obtain ⟨dW,dX,dY,dZ,eA,hv20,h⟩:=h
 refine stp (v:=(.agg #[(vi dW),(vi dX),(vu dY),(vs dZ),(vb eA)])) (wy 50 hg3) (xa p2 [(vi dW),(vi dX),(vu dY),(vs dZ),(vb eA)] (isAgg42 _) (sizeOf42 _) hv20) ?_
 obtain ⟨b1,hv19,h⟩:=h
 refine stp (v:=(vb b1)) (wy 50 hg3) (x_aggeq (by kernel_rfl) (by kernel_rfl) (by kernel_rfl) hv19) (q2 (vb b1) (xT hg3) (q0 (vb b1) (ln ?_)))
 exact ⟨b1,hm,h⟩
 have h:=h.2 hg3
 refine sk (yD 50 hg3) (sk (yD 50 hg3) (sk (yD 50 hg3) (q2 (vb false) (xF hg3) (q0 (vb false) (ln ?_)))))
 exact ⟨false,hm,h⟩
 rcases bte r3 with hg4 | hg4
 have h:=h.1 hg4
 obtain ⟨eG,eH,eI,eJ,eK,hv22,h⟩:=h
 refine stp (v:=(.agg #[(vi eG),(vi eH),(vu eI),(vs eJ),(vb eK)])) (wy 46 hg4) (xa p2 [(vi eG),(vi eH),(vu eI),(vs eJ),(vb eK)] (isAgg42 _) (sizeOf42 _) hv22) ?_
 refine st_call (wy 46 hg4) (xc call40) (h.mono ?_)
 rintro e w24 ⟨r4,rfl,h⟩
 refine ⟨_,rfl,?_⟩
 refine q2 (vb r4) (xT hg4) (wpL_nil ?_)
 exact ⟨r4,hm,h⟩
 have h:=h.2 hg4
 refine sk (yD 46 hg4) (sk (yD 46 hg4) (q2 (vb false) (xF hg4) (wpL_nil ?_)))
 exact ⟨false,hm,h⟩
 refine rg (q0 (vp (some p1)) ?_)
 obtain ⟨v7,hv29,h⟩:=h
 refine q2 (vi v7) (xl (isAgg3 _) hv29) (q0 (vb (v7 == 2)) (q0 (vb (v7 == 2)) ?_))
 refine wpL_join 4 (fun ρ w=>∃x5:Bool,Has ρ [(2,(vp (some p1))),(3,(vp (some p2))),(4,(vp (some p3))),(5,(vp (some p4))),(6,(.func (.func 39) #[] #[])),(24,(vb x5))]∧m_A_j5 p1 p2 p3 p4 x5 w K) ?_ ?_
 rintro ρ w ⟨x5,hH,h⟩
 unfold m_A_j5 at h
 refine wpL_has hH ?_
 refine q0 (vb x5) ?_
 refine wpL_join 6 (fun ρ w=>∃x6:Bool,Has ρ [(2,(vp (some p1))),(3,(vp (some p2))),(4,(vp (some p3))),(5,(vp (some p4))),(6,(.func (.func 39) #[] #[])),(31,(vb x6))]∧m_A_j6 p1 p2 p3 p4 x6 w K) ?_ ?_
 rintro ρ w ⟨x6,hH,h⟩
 unfold m_A_j6 at h
 refine wpL_has hH ?_
 refine q0 (vb x6) ?_
 rcases bte x6 with hg5 | hg5
 have h:=h.1 hg5
 refine q1 (vp (some (p1.add 3))) (wy 32 hg5) ?_
 obtain ⟨v8,hv25,h⟩:=h
 refine stp (v:=(vs v8)) (wy 32 hg5) (xl (isAgg9 _) hv25) (q1 (vp (some (p2.add 3))) (wy 32 hg5) ?_)
 obtain ⟨v9,hv24,h⟩:=h
 refine stp (v:=(vs v9)) (wy 32 hg5) (xl (isAgg9 _) hv24) (stp (v:=(vb (!(decide (v8=v9))))) (wy 32 hg5) (x_strneq (by kernel_rfl) (by kernel_rfl)) (q2 (vb (!(decide (v8=v9)))) (xT hg5) (q0 (vb (!(decide (v8=v9)))) (ln ?_))))
 exact ⟨(!(decide (v8=v9))),hm,h⟩
 have h:=h.2 hg5
 refine sk (yD 32 hg5) (sk (yD 32 hg5) (sk (yD 32 hg5) (sk (yD 32 hg5) (sk (yD 32 hg5) (q2 (vb false) (xF hg5) (q0 (vb false) (ln ?_)))))))
 exact ⟨false,hm,h⟩
 rcases bte x5 with hg6 | hg6
 have h:=h.1 hg6
 refine q1 (vp (some (p1.add 1))) (wy 25 hg6) ?_
 obtain ⟨v10,hv27,h⟩:=h
 refine stp (v:=(vi v10)) (wy 25 hg6) (xl (isAgg3 _) hv27) (q1 (vp (some (p2.add 1))) (wy 25 hg6) ?_)
 obtain ⟨v11,hv26,h⟩:=h
 refine stp (v:=(vi v11)) (wy 25 hg6) (xl (isAgg3 _) hv26) (q1 (vb (v10 == v11)) (wy 25 hg6) (q2 (vb (v10 == v11)) (xT hg6) (wpL_nil ?_)))
 exact ⟨(v10 == v11),hm,h⟩
 have h:=h.2 hg6
 refine sk (yD 25 hg6) (sk (yD 25 hg6) (sk (yD 25 hg6) (sk (yD 25 hg6) (sk (yD 25 hg6) (q2 (vb false) (xF hg6) (wpL_nil ?_))))))
 exact ⟨false,hm,h⟩
 rcases bte (v7 == 2) with hg7 | hg7
 have h:=h.1 hg7
 refine q1 (vp (some p2)) (wy 20 hg7) ?_
 obtain ⟨v12,hv28,h⟩:=h
 refine stp (v:=(vi v12)) (wy 20 hg7) (xl (isAgg3 _) hv28) (q1 (vb (v12 == 2)) (wy 20 hg7) (q2 (vb (v12 == 2)) (xT hg7) (wpL_nil ?_)))
 exact ⟨(v12 == 2),hm,h⟩
 have h:=h.2 hg7
 refine sk (yD 20 hg7) (sk (yD 20 hg7) (sk (yD 20 hg7) (q2 (vb false) (xF hg7) (wpL_nil ?_))))
 exact ⟨false,hm,h⟩
def m_L1 (aA aB aC:Int) (aD:ByteArray) (aE:Bool) (w:World) (K:Bool→WP):Prop :=
 ∀(p1:Addr) (w1:World),New w (.cells #[(vi aA),(vi aB),(vu aC),(vs aD),(vb aE)] 42) p1 w1 →
 ∃v1:Int,w1.cell? p1=some (vi v1) ∧
 Br (v1 == 2)
  (∃v2:Int,w1.cell? (p1.add 1)=some (vi v2) ∧
  K (v2 == 0) w1)
  (K false w1)
theorem w_L1 (aA aB aC : Int) (aD : ByteArray) (aE : Bool) (w : World) (K : Bool → WP) (h : m_L1 aA aB aC aD aE w K) :
  Calls prog 39 #[(.agg #[(vi aA),(vi aB),(vu aC),(vs aD),(vb aE)])] w (fun e w'=>∃r1:Bool,e=.returned (vb r1)∧K r1 w'):=by
 unfold m_L1 at h
 refine cw (args:=[(.agg #[(vi aA),(vi aB),(vu aC),(vs aD),(vb aE)])]) func39 ntmps39 (eg (sn (O:=(.cells #[(vi aA),(vi aB),(vu aC),(vs aD),(vb aE)] 42)) xb ?_))
 intro p1 w1 hn1
 have h:=h p1 w1 hn1
 refine q0 (vb false) (ln (eg (q0 (vp (some p1)) ?_)))
 obtain ⟨v1,hv2,h⟩:=h
 refine q2 (vi v1) (xl (isAgg3 _) hv2) (q0 (vb (v1 == 2)) (q0 (vb (v1 == 2)) ?_))
 rcases bte (v1 == 2) with hg1 | hg1
 have h:=h.1 hg1
 refine q1 (vp (some (p1.add 1))) (wy 6 hg1) ?_
 obtain ⟨v2,hv1,h⟩:=h
 refine stp (v:=(vi v2)) (wy 6 hg1) (xl (isAgg3 _) hv1) (q1 (vb (v2 == 0)) (wy 6 hg1) (q2 (vb (v2 == 0)) (xT hg1) (q0 (vb (v2 == 0)) (ln (er (rs1 results39 (v:=(vb (v2 == 0))) ?_))))))
 exact ⟨(v2 == 0),rfl,h⟩
 have h:=h.2 hg1
 refine sk (yD 6 hg1) (sk (yD 6 hg1) (sk (yD 6 hg1) (q2 (vb false) (xF hg1) (q0 (vb false) (ln (er (rs1 results39 (v:=(vb false)) ?_)))))))
 exact ⟨false,rfl,h⟩
def m_M1 (aA aB aC:Int) (aD:ByteArray) (aE:Bool) (w:World) (K:Bool→WP):Prop :=
 ∀(p1:Addr) (w1:World),New w (.cells #[(vi aA),(vi aB),(vu aC),(vs aD),(vb aE)] 42) p1 w1 →
 ∃v1:Int,w1.cell? p1=some (vi v1) ∧
 Br (v1 == 5)
  (K true w1)
  (∃v2:Int,w1.cell? p1=some (vi v2) ∧
  K (v2 == 6) w1)
theorem w_M1 (aA aB aC : Int) (aD : ByteArray) (aE : Bool) (w : World) (K : Bool → WP) (h : m_M1 aA aB aC aD aE w K) :
  Calls prog 40 #[(.agg #[(vi aA),(vi aB),(vu aC),(vs aD),(vb aE)])] w (fun e w'=>∃r1:Bool,e=.returned (vb r1)∧K r1 w'):=by
 unfold m_M1 at h
 refine cw (args:=[(.agg #[(vi aA),(vi aB),(vu aC),(vs aD),(vb aE)])]) func40 ntmps40 (eg (sn (O:=(.cells #[(vi aA),(vi aB),(vu aC),(vs aD),(vb aE)] 42)) xb ?_))
 intro p1 w1 hn1
 have h:=h p1 w1 hn1
 refine q0 (vb false) (ln (eg (q0 (vp (some p1)) ?_)))
 obtain ⟨v1,hv2,h⟩:=h
 refine q2 (vi v1) (xl (isAgg3 _) hv2) (q0 (vb (v1 == 5)) (q0 (vb (v1 == 5)) ?_))
 rcases bte (v1 == 5) with hg1 | hg1
 have h:=h.1 hg1
 refine sk (yD 6 hg1) (sk (yD 6 hg1) (sk (yD 6 hg1) (q2 (vb true) (xT hg1) (q0 (vb true) (ln (er (rs1 results40 (v:=(vb true)) ?_)))))))
 exact ⟨true,rfl,h⟩
 have h:=h.2 hg1
 refine q1 (vp (some p1)) (wy 6 hg1) ?_
 obtain ⟨v2,hv1,h⟩:=h
 refine stp (v:=(vi v2)) (wy 6 hg1) (xl (isAgg3 _) hv1) (q1 (vb (v2 == 6)) (wy 6 hg1) (q2 (vb (v2 == 6)) (xF hg1) (q0 (vb (v2 == 6)) (ln (er (rs1 results40 (v:=(vb (v2 == 6))) ?_))))))
 exact ⟨(v2 == 6),rfl,h⟩
end Go.Proofs
end
section
open Go Go.SE
namespace Go.Proofs
open Tryd
attribute [local irreducible] Calls
def lrow (l:Sp.Letter):List Value:=[.int .i64 l.kind,.int .i64 l.frm,.int .u64 l.c,.string l.text,.bool l.fake]
theorem slT_letter:SlType prog 64 42 5 48:=by
 refine ⟨underlying64,⟨t42,_,by kernel_rfl,(by kernel_rfl:t42.zero=some (.agg #[.int .i64 0,.int .i64 0,.int .u64 0,.string ⟨#[]⟩,.bool false])),by kernel_rfl,by kernel_rfl,rfl⟩,by omega⟩
theorem zero_letter:∀i z,prog.info? 42=some i→i.zero=some z→z.cells=(lrow Sp.noLetter).toArray:=by
 intro i z hi hz
 have h1:prog.info? 42=some t42:=by kernel_rfl
 rw [h1] at hi;cases hi
 have h2:t42.zero=some (.agg #[.int .i64 0,.int .i64 0,.int .u64 0,.string ⟨#[]⟩,.bool false]):=by kernel_rfl
 rw [h2] at hz;cases hz;rfl
def trows (ts:List Int):List (List Value):=ts.map fun t=>[.int .i64 t]
def readAll (L:Sp.Pool) (ts:List Int):List Sp.Letter:=ts.map fun t=>(Sp.read L t).1
structure RetS (w:World) (e:TypeId) (sz:Nat) (rs:List (List Value)) (s:Sl) (w':World):Prop where
 rows:Rws w' e sz s rs
 own:∀b,s.blk b→w.heap.size≤b
 pure:Pure w w'
theorem c_arb_read (p : Addr) (sh : Sl) (ts : List Int) (w : World) {S : NP} {L : Sp.Pool} {F : NP} (hP : PoolAt w p L F) (hok : Sp.Ok L) (hs : Lst S w 1 sh (trows ts)) (hn : ts.length ≤ 1000000) :
  Calls prog 26 #[.pointer (some p),sh.v] w (fun e w'=>∃s:Sl,e=.returned s.v∧RetS w 42 5 ((readAll L ts).map lrow) s w'):=by
 suffices key:∀K:Sl→WP,(∀s w',RetS w 42 5 ((readAll L ts).map lrow) s w'→K s w')→m_Q (some p) sh w K from
  w_Q _ _ w _ (key _ (fun _ _ h=>h))
 intro K hK
 unfold m_Q
 have hl:sh.len=ts.length:=by rw [hs.len];simp [trows]
 obtain ⟨w1,hr1,hrows,E1⟩:=Rws.make (P:=prog) slT_letter zero_letter (k:=.i64) (k':=.i64) (n:=sh.len) (by omega) (by simp [maxLen];omega) w
 refine ⟨_,w1,hr1,Br.f rfl ?_⟩
 have hb1:∀b,(Sl.mk (some ⟨w.heap.size,0,none⟩) sh.len sh.len).blk b→b=w.heap.size:=by
  rintro b ⟨a,h,rfl⟩;cases h;rfl
 generalize hs1:(Sl.mk (some ⟨w.heap.size,0,none⟩) sh.len sh.len)=s1 at *
 have hrl:(readAll L ts).length=ts.length:=by simp [readAll]
 refine ⟨fun x w'=>∃j:Nat,x=j∧j≤ts.length∧Pure w w'∧Rws w' 42 5 s1 (((readAll L ts).map lrow).take j++List.replicate (ts.length - j) (lrow Sp.noLetter)),fun x _=>((ts.length:Int) - x).toNat,⟨0,rfl,Nat.zero_le _,E1,by simpa [hl] using hrows⟩,?_⟩
 rintro _ wl ⟨j,rfl,hj,El,hrl2⟩
 unfold m_Q_l1
 refine ⟨fun h=>?_,fun h=>?_⟩
 ·have hlt:j<ts.length:=by have h:=of_decide_eq_true h;omega
  obtain ⟨a,hat,_,hrow⟩:=(hs.pure El).at_ j (by simpa [trows] using hlt)
  have hcell:wl.cell? a=some (.int .i64 ts[j]):=by
   have:=hrow 0 (by simp [trows])
   simpa [trows,Addr.add] using this
  refine ⟨a,hat,_,hcell,?_⟩
  refine (c_letter_Read p ts[j] wl (hP.pure El) hok).mono ?_
  rintro _ w2 ⟨k,f,c,x,g,ok,rfl,hrd,E2⟩
  have hl1:(⟨k,f,c,x,g⟩:Sp.Letter)=(Sp.read L ts[j]).1:=congrArg Prod.fst hrd
  have hlen:(((readAll L ts).map lrow).take j++List.replicate (ts.length - j) (lrow Sp.noLetter)).length=ts.length:=by rw [List.length_append,List.length_take,List.length_map,hrl,List.length_replicate];omega
  obtain ⟨a2,hat2,hcan,hset⟩:=(hrl2.pure E2).set (i:=j) (by omega) (r:=lrow ⟨k,f,c,x,g⟩) rfl (k:=(j:Int)) rfl
  refine ⟨_,_,_,_,_,_,rfl,a2,hat2,hcan,?_⟩
  intro w3 hw3
  obtain ⟨hrows3,E3⟩:=hset w3 hw3
  rw [i64 (by omega) (by omega)]
  refine ⟨⟨j+1,by omega,hlt,(El.trans E2).trans' E3 (fun i hi h=>by have:=hb1 i h;omega),?_⟩,by show ((ts.length:Int) - ((j:Int)+1)).toNat<((ts.length:Int) - (j:Int)).toNat;omega⟩
  have e:(((readAll L ts).map lrow).take j++List.replicate (ts.length - j) (lrow Sp.noLetter)).set j (lrow ⟨k,f,c,x,g⟩)=((readAll L ts).map lrow).take (j+1)++List.replicate (ts.length - (j+1)) (lrow Sp.noLetter):=by
   have hj2:j<((readAll L ts).map lrow).length:=by rw [List.length_map,hrl];omega
   have hl2:(((readAll L ts).map lrow).take j).length=j:=by rw [List.length_take];omega
   have hrep:ts.length - j=(ts.length - (j+1))+1:=by omega
   rw [List.set_append_right _ _ (by omega),hl2,Nat.sub_self,hrep,List.replicate_succ,List.set_cons_zero,List.take_succ_eq_append_getElem hj2,List.append_assoc]
   have hx:((readAll L ts).map lrow)[j]=lrow ⟨k,f,c,x,g⟩:=by rw [hl1];simp only [readAll,List.getElem_map]
   rw [hx,List.singleton_append]
  rw [e] at hrows3
  exact hrows3
 ·have hge:j=ts.length:=by have h:=of_decide_eq_false h;omega
  refine hK _ _ ⟨?_,fun b hb=>by have:=hb1 b hb;omega,El⟩
  subst hge
  rw [Nat.sub_self,List.take_of_length_le (by simp [hrl])] at hrl2
  simpa using hrl2
end Go.Proofs
end
section
open Go Go.SE
namespace Go.Sp
structure Bond where
 who:Int
 c:Int
 text:ByteArray
 why:Int
 by_:Int
deriving DecidableEq
def bondsOf (l:Letter) (by_:Int):List Bond :=
 if l.kind=6 then [⟨0,l.c,l.text,2,by_⟩,⟨1,l.c,l.text,2,by_⟩] else if l.kind=2 then [⟨l.frm,l.c,l.text,1,by_⟩] else []
def judgeBonds (who c:Int) (x:ByteArray) (i:Int):List Bond→Option (Int×Int)
 | []=>none
 | b :: bs=>if b.who=who∧b.c=c∧b.text=x then some (b.why,i) else judgeBonds who c x i bs
def judgeFrom (who c:Int) (x:ByteArray):Int→List Letter→Bool×Int×Int
 | _,[]=>(false,0,-1)
 | i,l :: ls=>match judgeBonds who c x i (bondsOf l i) with
  | some r=>(true,r)
  | none=>judgeFrom who c x (i+1) ls
end Go.Sp
namespace Go.Proofs
open Tryd
attribute [local irreducible] Calls
def brow (b:Sp.Bond):List Value:=[.int .i64 b.who,.int .u64 b.c,.string b.text,.int .i64 b.why,.int .i64 b.by_]
theorem slT_bond:SlType prog 66 69 5 48:=by
 refine ⟨underlying66,⟨t69,_,by kernel_rfl,(by kernel_rfl:t69.zero=some (.agg #[.int .i64 0,.int .u64 0,.string ⟨#[]⟩,.int .i64 0,.int .i64 0])),by kernel_rfl,by kernel_rfl,rfl⟩,by omega⟩
theorem c_arb_bonds (k f c : Int) (x : ByteArray) (g : Bool) (n : Int) (w : World) :
  Calls prog 27 #[.agg #[.int .i64 k,.int .i64 f,.int .u64 c,.string x,.bool g],.int .i64 n] w (fun e w'=>∃s:Sl,e=.returned s.v∧RetS w 69 5 ((Sp.bondsOf ⟨k,f,c,x,g⟩ n).map brow) s w'):=by
 suffices key:∀K:Sl→WP,(∀s w',RetS w 69 5 ((Sp.bondsOf ⟨k,f,c,x,g⟩ n).map brow) s w'→K s w')→m_L k f c x g n w K from
  w_L _ _ _ _ _ _ w _ (key _ (fun _ _ h=>h))
 intro K hK
 unfold m_L
 intro p1 w1 h1
 have E1:Pure w w1:=Ext.new h1
 have o1:=New.own (Ext.refl w) h1
 have b1:=Box.of_new h1
 clear h1
 have J1 : ∀ (fr : Int) (s : Sl) (why : Int) (rs : List Sp.Bond) (w2 : World), rs.length ≤ 1 → Box w2 p1 [.int .i64 k, .int .i64 fr, .int .u64 c, .string x, .bool g] 42 → Rws w2 69 5 s (rs.map brow) → (∀ b, s.blk b → w.heap.size ≤ b) → Pure w w2 →
   Sp.bondsOf ⟨k,f,c,x,g⟩ n=rs++[⟨fr,c,x,why,n⟩]→m_L_j1 n p1 s why w2 K:=by
  intro fr s why rs w2 hl hB hR hown E hs
  unfold m_L_j1
  refine ⟨fr,hB.cell rfl,c,hB.cell rfl,x,hB.cell rfl,?_⟩
  intro p2 w3 h3
  have E3:Pure w2 w3:=Ext.new h3
  have hrow:Row w3 p2 (brow ⟨fr,c,x,why,n⟩):=(Box.of_new h3).row
  obtain ⟨s1,w4,hr,hR4,E4,hb4⟩:=(hR.pure E3).append (P:=prog) slT_bond (ty:=66) (c:=1) hrow rfl (by simp [brow,oneCell]) (by simp;omega) (by simp [maxLen];omega)
  refine ⟨s1,w4,hr,hK _ _ ⟨?_,fun b hb=>(hb4 b hb).elim (hown b) (fun h=>by have:=(E.trans E3).size;omega),(E.trans E3).trans' E4 (fun i hi h=>by have:=hown i h;omega)⟩⟩
  rw [hs];simpa using hR4
 refine ⟨k,b1.cell0,fun h=>?_,fun h=>⟨fun h2=>?_,fun h2=>?_⟩⟩
 ·have hk:k=6:=by simpa using h
  refine ⟨b1.canW (by simp),?_⟩
  intro w4 hw4
  have b4:Box w4 p1 [.int .i64 k,.int .i64 1,.int .u64 c,.string x,.bool g] 42:=by rw [hw4];exact b1.set 1 _
  have E4:Pure w w4:=by
   have:=Ext.setCell (w:=w1) (p1.add 1) (.int .i64 1);rw [add_block] at this
   rw [hw4];exact E1.own o1 this
  clear hw4
  refine ⟨c,b4.cell rfl,x,b4.cell rfl,?_⟩
  intro p3 w5 h5
  have E5:Pure w4 w5:=Ext.new h5
  have hrow:Row w5 p3 (brow ⟨0,c,x,2,n⟩):=(Box.of_new h5).row
  obtain ⟨s1,w6,hr,hR6,E6,hb6⟩:=(Rws.nil w5 69 5).append (P:=prog) slT_bond (ty:=66) (c:=1) hrow rfl (by simp [brow,oneCell]) (by simp) (by simp [maxLen])
  have E56:Pure w5 w6:=E6.mono (fun i _ h=>by obtain ⟨a,h,_⟩:=h;cases h)
  refine ⟨s1,w6,hr,J1 1 s1 2 [⟨0,c,x,2,n⟩] w6 (by simp) (b4.pure (E5.trans E56)) (by simpa using hR6) (fun b hb=>(hb6 b hb).elim (fun h=>by obtain ⟨a,h,_⟩:=h;cases h) (fun h=>by have:=(E4.trans E5).size;omega)) ((E4.trans E5).trans E56) ?_⟩
  simp [Sp.bondsOf,hk]
 ·have hk:k≠6:=by simpa using h
  have hk2:k=2:=by simpa using h2
  refine J1 f Sl.nil 1 [] w1 (by simp) b1 (by simpa using Rws.nil _ _ _) (fun b h=>by obtain ⟨a,h,_⟩:=h;cases h) E1 ?_
  simp [Sp.bondsOf,hk2]
 ·have hk:k≠6:=by simpa using h
  have hk2:k≠2:=by simpa using h2
  refine hK _ _ ⟨?_,(fun b h=>by obtain ⟨a,h,_⟩:=h;cases h),E1⟩
  have:Sp.bondsOf ⟨k,f,c,x,g⟩ n=[]:=by simp [Sp.bondsOf,hk,hk2]
  rw [this];simpa using Rws.nil _ _ _
end Go.Proofs
end
section
open Go Go.SE
namespace Go.Sp
structure Fault where
 who:Int
 c:Int
 kind:Int
 a:Int
 b:Int
deriving DecidableEq
def isVerdict (l:Letter):Bool:=l.kind == 5 || l.kind == 6
def signedO (l:Letter):Bool:=l.kind == 2 && l.frm == 0
def fault (a b:Letter):Fault :=
 if a.c≠b.c then ⟨0,0,0,0,0⟩
 else if (a.kind == 2 && b.kind == 2 && a.frm == b.frm && !decide (a.text=b.text))=true then ⟨a.frm,a.c,1,0,0⟩
 else if (isVerdict a && isVerdict b && !decide (a=b))=true then ⟨2,a.c,2,0,0⟩
 else if ((signedO a && b.kind == 3) || (signedO b && a.kind == 3))=true then ⟨0,a.c,3,0,0⟩
 else ⟨0,a.c,0,0,0⟩
end Go.Sp
namespace Go.Proofs
open Tryd
attribute [local irreducible] Calls
def lval (l:Sp.Letter):Value:=.agg (lrow l).toArray
def frow (f:Sp.Fault):List Value:=[.int .i64 f.who,.int .u64 f.c,.int .i64 f.kind,.int .i64 f.a,.int .i64 f.b]
theorem c_isVerdict (l:Sp.Letter) (w:World):Calls prog 40 #[lval l] w (fun e w'=>∃r:Bool,e=.returned (.bool r)∧(r=Sp.isVerdict l∧Pure w w')):=by
 refine w_M1 _ _ _ _ _ w (fun r w'=>r=Sp.isVerdict l∧Pure w w') ?_
 unfold m_M1
 intro p1 w1 h1
 have b1:=Box.of_new h1
 have E1:Pure w w1:=Ext.new h1
 refine ⟨l.kind,b1.cell0,fun h=>⟨?_,E1⟩,fun h=>⟨l.kind,b1.cell0,?_,E1⟩⟩
 ·unfold Sp.isVerdict;rw [h];rfl
 ·unfold Sp.isVerdict;rw [h];rfl
theorem c_fault1 (l:Sp.Letter) (w:World):Calls prog 39 #[lval l] w (fun e w'=>∃r:Bool,e=.returned (.bool r)∧(r=Sp.signedO l∧Pure w w')):=by
 refine w_L1 _ _ _ _ _ w (fun r w'=>r=Sp.signedO l∧Pure w w') ?_
 unfold m_L1
 intro p1 w1 h1
 have b1:=Box.of_new h1
 have E1:Pure w w1:=Ext.new h1
 refine ⟨l.kind,b1.cell0,fun h=>⟨l.frm,b1.cell rfl,?_,E1⟩,fun h=>⟨?_,E1⟩⟩
 ·unfold Sp.signedO;rw [h];rfl
 ·unfold Sp.signedO;rw [h];rfl
theorem run_letter_neq (a b:Sp.Letter) (w:World):(Go.binOp .neq 42 (lval a) (lval b)).run prog w=.ok (.bool (!decide (a=b))) w:=by
 obtain ⟨k,f,c,x,g⟩:=a
 obtain ⟨k',f',c',x',g'⟩:=b
 simp [Go.binOp,Op.equal,Op.maxDepth,go_sem,streq,lval,lrow]
 repeat' split
 all_goals simp_all
theorem c_arb_fault (a b : Sp.Letter) (w : World) : Calls prog 28 #[lval a, lval b] w
  (fun e w'=>∃f1:Int,∃f2:Int,∃f3:Int,∃f4:Int,∃f5:Int,e=.returned (.agg #[.int .i64 f1,.int .u64 f2,.int .i64 f3,.int .i64 f4,.int .i64 f5])∧((⟨f1,f2,f3,f4,f5⟩:Sp.Fault)=Sp.fault a b∧Pure w w')):=by
 suffices key:∀K:Int→Int→Int→Int→Int→WP,(∀f1 f2 f3 f4 f5 w',((⟨f1,f2,f3,f4,f5⟩:Sp.Fault)=Sp.fault a b∧Pure w w')→K f1 f2 f3 f4 f5 w')→m_A a.kind a.frm a.c a.text a.fake b.kind b.frm b.c b.text b.fake w K from
  w_A _ _ _ _ _ _ _ _ _ _ w _ (key _ (fun _ _ _ _ _ _ h=>h))
 intro K hK
 unfold m_A
 intro p1 w1 h1 p2 w2 h2 p3 w3 h3
 have E1:Pure w w1:=Ext.new h1
 have E2:Pure w w2:=E1.trans (Ext.new h2)
 have E3:Pure w w3:=E2.trans (Ext.new h3)
 have o3:=New.own E2 h3
 have a1:Box w3 p1 (lrow a) 42:=((Box.of_new h1).pure (Ext.new h2)).pure (Ext.new h3:Pure w2 w3)
 have a2:Box w3 p2 (lrow b) 42:=(Box.of_new h2).pure (Ext.new h3:Pure w2 w3)
 have a3:=Box.of_new h3
 clear h1 h2 h3
 refine ⟨a.c,a1.cell rfl,?_⟩
 intro p4 w4 h4
 have E4:Pure w w4:=E3.trans (Ext.new h4)
 have o4:=New.own E3 h4
 have n14:p1.block≠p4.block:=New.ne h4 a1.blk
 have n24:p2.block≠p4.block:=New.ne h4 a2.blk
 have n34:p3.block≠p4.block:=New.ne h4 a3.blk
 refine bx 5 (Box.of_new h4) rfl rfl (fun w5 b4 E45=>?_)
 have E5:Pure w w5:=E4.own o4 E45
 have b1:=(a1.pure (Ext.new h4:Pure w3 w4)).ext E45 n14
 have b2:=(a2.pure (Ext.new h4:Pure w3 w4)).ext E45 n24
 have b3:=(a3.pure (Ext.new h4:Pure w3 w4)).ext E45 n34
 clear E45 h4 a1 a2 a3 E4 E3 E2 E1
 have out : ∀ (f : Sp.Fault) (w' : World), f = Sp.fault a b → Box w' p4 (frow f) 24 → Box w' p3 (frow ⟨0, 0, 0, 0, 0⟩) 24 → Pure w w' →
   ∃vWho3:Int,∃vC3:Int,∃vKind3:Int,∃vA3:Int,∃vB3:Int,Row w' p4 [(.int .i64 vWho3),(.int .u64 vC3),(.int .i64 vKind3),(.int .i64 vA3),(.int .i64 vB3)] ∧
   (∀j,j<5→CanW w' (p3.add j))∧∀w15:World,w15=storeRow w' p3 [(.int .i64 vWho3),(.int .u64 vC3),(.int .i64 vKind3),(.int .i64 vA3),(.int .i64 vB3)] →
   ∃qWho4:Int,∃qC4:Int,∃qKind4:Int,∃qA4:Int,∃qB4:Int,Row w15 p3 [(.int .i64 qWho4),(.int .u64 qC4),(.int .i64 qKind4),(.int .i64 qA4),(.int .i64 qB4)]∧K qWho4 qC4 qKind4 qA4 qB4 w15:=by
  intro f w' hf B4 B3 E
  refine ⟨f.who,f.c,f.kind,f.a,f.b,B4.row,?_⟩
  exact bx 5 B3 rfl rfl (fun w15 b15 E15=>⟨_,_,_,_,_,b15.row,hK _ _ _ _ _ _ ⟨hf,E.own o3 E15⟩⟩)
 have set2 : ∀ (x y : Int) (w' : World), (⟨x, a.c, y, 0, 0⟩ : Sp.Fault) = Sp.fault a b → Pure w5 w' →
   CanW w' p4∧∀w13:World,w13=w'.setCell p4 (.int .i64 x)→CanW w13 (p4.add 2)∧∀w14:World,w14=w13.setCell (p4.add 2) (.int .i64 y) →
   ∃vWho3:Int,∃vC3:Int,∃vKind3:Int,∃vA3:Int,∃vB3:Int,Row w14 p4 [(.int .i64 vWho3),(.int .u64 vC3),(.int .i64 vKind3),(.int .i64 vA3),(.int .i64 vB3)] ∧
   (∀j,j<5→CanW w14 (p3.add j))∧∀w15:World,w15=storeRow w14 p3 [(.int .i64 vWho3),(.int .u64 vC3),(.int .i64 vKind3),(.int .i64 vA3),(.int .i64 vB3)] →
   ∃qWho4:Int,∃qC4:Int,∃qKind4:Int,∃qA4:Int,∃qB4:Int,Row w15 p3 [(.int .i64 qWho4),(.int .u64 qC4),(.int .i64 qKind4),(.int .i64 qA4),(.int .i64 qB4)]∧K qWho4 qC4 qKind4 qA4 qB4 w15:=by
  intro x y w' hf E
  have c4:=b4.pure E
  have c3:=b3.pure E
  refine ⟨c4.canW0 (by simp),?_⟩
  intro w13 h13
  have d4:Box w13 p4 [.int .i64 x,.int .u64 a.c,.int .i64 0,.int .i64 0,.int .i64 0] 24:=by rw [h13];exact c4.set0
  have E13:Ext (·=p4.block) w' w13:=by rw [h13];exact Ext.setCell p4 _
  clear h13
  refine ⟨d4.canW (by simp),?_⟩
  intro w14 h14
  have e4:Box w14 p4 [.int .i64 x,.int .u64 a.c,.int .i64 y,.int .i64 0,.int .i64 0] 24:=by rw [h14];exact d4.set 2 _
  have E14:Ext (·=p4.block) w13 w14:=by rw [h14];have:=Ext.setCell (w:=w13) (p4.add 2) (.int .i64 y);rw [add_block] at this;exact this
  clear h14
  exact out ⟨x,a.c,y,0,0⟩ w14 hf e4 ((c3.ext E13 n34).ext E14 n34) (((E5.trans E).own o4 E13).own o4 E14)
 refine ⟨a.c,b1.cell rfl,b.c,b2.cell rfl,fun h=>?_,fun h=>?_⟩
 ·have hc:a.c≠b.c:=by simpa using h
  have:Sp.fault a b=⟨0,0,0,0,0⟩:=by unfold Sp.fault;rw [if_pos hc]
  exact bx 5 b3 rfl rfl (fun w15 b15 E15=>⟨0,0,0,0,0,b15.row,hK _ _ _ _ _ _ ⟨this.symm,E5.own o3 E15⟩⟩)
 have hc:¬ a.c≠b.c:=by simpa using h
 have hsp : Sp.fault a b = if (a.kind == 2 && b.kind == 2 && a.frm == b.frm && !decide (a.text = b.text)) = true then ⟨a.frm, a.c, 1, 0, 0⟩
   else if (Sp.isVerdict a && Sp.isVerdict b && !decide (a=b))=true then ⟨2,a.c,2,0,0⟩
   else if ((Sp.signedO a && b.kind == 3) || (Sp.signedO b && a.kind == 3))=true then ⟨0,a.c,3,0,0⟩
   else ⟨0,a.c,0,0,0⟩:=by unfold Sp.fault;rw [if_neg hc]
 have J3:∀(x:Bool) (w':World),x=(Sp.signedO a && b.kind == 3)→¬ (a.kind == 2 && b.kind == 2 && a.frm == b.frm && !decide (a.text=b.text))=true→¬ (Sp.isVerdict a && Sp.isVerdict b && !decide (a=b))=true→Pure w5 w'→m_A_j3 p1 p2 p3 p4 x w' K:=by
  intro x w' hx h1 h2 E
  rw [if_neg h1,if_neg h2,← hx] at hsp
  unfold m_A_j3
  refine ⟨fun h=>?_,fun h=>⟨_,_,_,_,_,(b2.pure E).row,?_⟩⟩
  ·rw [h,Bool.true_or,if_pos rfl] at hsp
   exact set2 0 3 w' hsp.symm E
  ·rw [h,Bool.false_or] at hsp
   refine (c_fault1 b w').mono ?_
   rintro _ w16 ⟨r,rfl,hr,E16⟩
   rw [← hr] at hsp
   have E':=E.trans E16
   refine ⟨r,rfl,fun hr1=>⟨a.kind,(b1.pure E').cell0,fun h3=>?_,fun h3=>?_⟩,fun hr1=>?_⟩
   ·rw [hr1,h3,if_pos (by simp)] at hsp
    exact set2 0 3 w16 hsp.symm E'
   ·rw [hr1,h3,if_neg (by simp)] at hsp
    exact out ⟨0,a.c,0,0,0⟩ w16 hsp.symm (b4.pure E') (b3.pure E') (E5.trans E')
   ·rw [hr1,if_neg (by simp)] at hsp
    exact out ⟨0,a.c,0,0,0⟩ w16 hsp.symm (b4.pure E') (b3.pure E') (E5.trans E')
 have J2:∀(x:Bool) (w':World),x=(Sp.isVerdict a && Sp.isVerdict b && !decide (a=b))→¬ (a.kind == 2 && b.kind == 2 && a.frm == b.frm && !decide (a.text=b.text))=true→Pure w5 w'→m_A_j2 p1 p2 p3 p4 x w' K:=by
  intro x w' hx h1 E
  unfold m_A_j2
  refine ⟨fun h=>?_,fun h=>⟨_,_,_,_,_,(b1.pure E).row,?_⟩⟩
  ·rw [if_neg h1,if_pos (by rw [← hx,h])] at hsp
   exact set2 2 2 w' hsp.symm E
  ·refine (c_fault1 a w').mono ?_
   rintro _ w22 ⟨r,rfl,hr,E22⟩
   have E':=E.trans E22
   exact ⟨r,rfl,fun hr1=>⟨b.kind,(b2.pure E').cell0,J3 _ w22 (by rw [← hr,hr1];rfl) h1 (by rw [← hx,h];simp) E'⟩,fun hr1=>J3 _ w22 (by rw [← hr,hr1];rfl) h1 (by rw [← hx,h];simp) E'⟩
 have J4:∀(x:Bool) (w':World),x=(Sp.isVerdict a && Sp.isVerdict b)→¬ (a.kind == 2 && b.kind == 2 && a.frm == b.frm && !decide (a.text=b.text))=true→Pure w5 w'→m_A_j4 p1 p2 p3 p4 x w' K:=by
  intro x w' hx h1 E
  unfold m_A_j4
  refine ⟨fun h=>⟨_,_,_,_,_,(b1.pure E).row,_,_,_,_,_,(b2.pure E).row,_,run_letter_neq a b w',J2 _ w' ?_ h1 E⟩,fun h=>J2 _ w' ?_ h1 E⟩
  ·rw [← hx,h];rfl
  ·rw [← hx,h];rfl
 have J1:∀(x:Bool),x=(a.kind == 2 && b.kind == 2 && a.frm == b.frm && !decide (a.text=b.text))→m_A_j1 p1 p2 p3 p4 x w5 K:=by
  intro x hx
  unfold m_A_j1
  refine ⟨fun h=>⟨a.frm,b1.cell rfl,?_⟩,fun h=>⟨_,_,_,_,_,b1.row,?_⟩⟩
  ·rw [if_pos (by rw [← hx,h])] at hsp
   exact set2 a.frm 1 w5 hsp.symm (Ext.refl _)
  ·have h1:¬ (a.kind == 2 && b.kind == 2 && a.frm == b.frm && !decide (a.text=b.text))=true:=by rw [← hx,h];simp
   refine (c_isVerdict a w5).mono ?_
   rintro _ w23 ⟨r,rfl,hr,E23⟩
   refine ⟨r,rfl,fun hr1=>⟨_,_,_,_,_,(b2.pure E23).row,?_⟩,fun hr1=>J4 _ w23 (by rw [← hr,hr1];rfl) h1 E23⟩
   refine (c_isVerdict b w23).mono ?_
   rintro _ w24 ⟨r',rfl,hr',E24⟩
   exact ⟨r',rfl,J4 _ w24 (by rw [← hr,hr1,hr'];rfl) h1 (E23.trans E24)⟩
 have J6:∀x,x=(a.kind == 2 && b.kind == 2 && a.frm == b.frm)→m_A_j6 p1 p2 p3 p4 x w5 K:=by
  intro x hx
  unfold m_A_j6
  exact ⟨fun h=>⟨a.text,b1.cell rfl,b.text,b2.cell rfl,J1 _ (by rw [← hx,h];rfl)⟩,fun h=>J1 _ (by rw [← hx,h];rfl)⟩
 have J5:∀x,x=(a.kind == 2 && b.kind == 2)→m_A_j5 p1 p2 p3 p4 x w5 K:=by
  intro x hx
  unfold m_A_j5
  exact ⟨fun h=>⟨a.frm,b1.cell rfl,b.frm,b2.cell rfl,J6 _ (by rw [← hx,h];rfl)⟩,fun h=>J6 _ (by rw [← hx,h];rfl)⟩
 exact ⟨a.kind,b1.cell0,fun h=>⟨b.kind,b2.cell0,J5 _ (by rw [h];rfl)⟩,fun h=>J5 _ (by rw [h];rfl)⟩
end Go.Proofs
end
section
open Go Go.SE
namespace Go.Proofs
open Tryd
attribute [local irreducible] Calls
def Reads (pv:Option Addr) (sh:Sl) (ls:List Sp.Letter) (w:World):Prop :=
 ∀w',Pure w w'→Calls prog 26 #[.pointer pv,sh.v] w' (fun e w''=>∃s:Sl,e=.returned s.v∧RetS w' 42 5 (ls.map lrow) s w'')
theorem Reads.pure {pv:Option Addr} {sh:Sl} {ls:List Sp.Letter} {w w':World} (h:Reads pv sh ls w) (E:Pure w w'):Reads pv sh ls w':=fun w2 E2=>h w2 (E.trans E2)
theorem reads_pool (p:Addr) (sh:Sl) (ts:List Int) (w:World) {S:NP} {L:Sp.Pool} {F:NP} (hP:PoolAt w p L F) (hok:Sp.Ok L) (hs:Lst S w 1 sh (trows ts)) (hn:ts.length≤1000000):Reads (some p) sh (readAll L ts) w :=
 fun w' E=>c_arb_read p sh ts w' (hP.pure E) hok (hs.pure E) hn
theorem RetS.own' {w w' wv w0:World} {e:TypeId} {sz:Nat} {rs:List (List Value)} {s:Sl} {H Hv:NP} (h:RetS w e sz rs s w') (hs:Hst w0 Hv wv H w):Own H w' e sz s rs :=
 ⟨h.rows,fun b hb hH=>by have:=h.own b hb;have:=hs.lt b hH;omega⟩
theorem RetS.kept {w w':World} {e:TypeId} {sz:Nat} {rs:List (List Value)} {s:Sl} {H:NP} (h:RetS w e sz rs s w'):Kept H w w':=h.pure.keptP
def s_A (k1 f1 c1:Int) (x1:ByteArray) (g1:Bool) (k2 f2 c2:Int) (x2:ByteArray) (g2:Bool):Int×Int×Int×Int×Int :=
 let f:=Sp.fault ⟨k1,f1,c1,x1,g1⟩ ⟨k2,f2,c2,x2,g2⟩
 (f.who,f.c,f.kind,f.a,f.b)
theorem p_A (k1 f1 c1 : Int) (x1 : ByteArray) (g1 : Bool) (k2 f2 c2 : Int) (x2 : ByteArray) (g2 : Bool) (w0 : World) :
  Calls prog 28 #[.agg #[.int .i64 k1,.int .i64 f1,.int .u64 c1,.string x1,.bool g1],.agg #[.int .i64 k2,.int .i64 f2,.int .u64 c2,.string x2,.bool g2]] w0
   (fun e w'=>e=.returned (.agg #[.int .i64 (s_A k1 f1 c1 x1 g1 k2 f2 c2 x2 g2).1,.int .u64 (s_A k1 f1 c1 x1 g1 k2 f2 c2 x2 g2).2.1,.int .i64 (s_A k1 f1 c1 x1 g1 k2 f2 c2 x2 g2).2.2.1,.int .i64 (s_A k1 f1 c1 x1 g1 k2 f2 c2 x2 g2).2.2.2.1,.int .i64 (s_A k1 f1 c1 x1 g1 k2 f2 c2 x2 g2).2.2.2.2])∧Pure w0 w'):=by
 refine (c_arb_fault ⟨k1,f1,c1,x1,g1⟩ ⟨k2,f2,c2,x2,g2⟩ w0).mono ?_
 rintro _ w' ⟨r1,r2,r3,r4,r5,rfl,hf,E⟩
 refine ⟨?_,E⟩
 simp only [s_A,← hf]
end Go.Proofs
end
section
open Go Go.SE
open Go.IntKind renaming i64 → q6
namespace Go.Proofs
open Tryd
set_option maxRecDepth 100000
set_option maxHeartbeats 4000000
attribute [local irreducible] wpL wpX opE wpE Calls
def m_N1 (aN aR:Int) (aK aV aW:Int) (w0:World) (K:ByteArray→WP):Prop :=
 ∀(H1:NP) (w1:World),Hst w0 None w0 H1 w1 →
 Calls prog 7 #[(vu aR),(vi 10)] w1 (fun e w2=>∃r1:ByteArray,e=.returned (vs r1)∧
  Kept H1 w1 w2 ∧
  Br (aK == 1)
   (Calls prog 8 #[(vi aN)] w2 (fun e w3=>∃r2:ByteArray,e=.returned (vs r2)∧
    Kept H1 w2 w3 ∧
    ∃s1:ByteArray,(Go.binOp .add 9 (vs (⟨#[112,97,114,116,121,32]⟩:ByteArray)) (vs r2)).run prog w3=.ok (vs s1) w3 ∧
    ∃s2:ByteArray,(Go.binOp .add 9 (vs s1) (vs (⟨#[32,115,105,103,110,101,100,32,116,119,111,32,116,101,120,116,115,32,111,102,32]⟩:ByteArray))).run prog w3=.ok (vs s2) w3 ∧
    ∃s3:ByteArray,(Go.binOp .add 9 (vs s2) (vs r1)).run prog w3=.ok (vs s3) w3 ∧
    K s3 w3))
   (Br (aK == 2)
    (∃s4:ByteArray,(Go.binOp .add 9 (vs (⟨#[116,104,101,32,110,111,116,97,114,121,32,103,97,118,101,32,116,119,111,32,118,101,114,100,105,99,116,115,32,111,110,32]⟩:ByteArray)) (vs r1)).run prog w2=.ok (vs s4) w2 ∧
    K s4 w2)
    (Br (aK == 3)
     (∃s5:ByteArray,(Go.binOp .add 9 (vs (⟨#[116,104,101,32,111,114,105,103,105,110,97,116,111,114,32,115,105,103,110,101,100,32]⟩:ByteArray)) (vs r1)).run prog w2=.ok (vs s5) w2 ∧
     ∃s6:ByteArray,(Go.binOp .add 9 (vs s5) (vs (⟨#[32,97,110,100,32,97,115,107,101,100,32,116,111,32,97,98,111,114,116,32,105,116]⟩:ByteArray))).run prog w2=.ok (vs s6) w2 ∧
     K s6 w2)
     (K ⟨#[]⟩ w2))))
theorem w_N1 (aN aR : Int) (aK aV aW : Int) (w0 : World) (K : ByteArray → WP) (h : m_N1 aN aR aK aV aW w0 K) :
  Calls prog 4 #[(.agg #[(vi aN),(vu aR),(vi aK),(vi aV),(vi aW)])] w0 (fun e w'=>∃r3:ByteArray,e=.returned (vs r3)∧K r3 w'):=by
 unfold m_N1 at h
 refine cw (args:=[(.agg #[(vi aN),(vu aR),(vi aK),(vi aV),(vi aW)])]) func4 ntmps4 ?_
 have hs:=Hst.start w0
 have hb:=HB.nil None w0
 refine eg (sn (O:=(.cells #[(vi aN),(vu aR),(vi aK),(vi aV),(vi aW)] 24)) xb ?_)
 intro p1 w1 hn1
 obtain ⟨H1,hs,hb⟩:=hs.alloc hb hn1
 refine q0 ve (ln (eg (q0 (vp (some (p1.add 1))) (q2 (vu aR) (xl (isAgg22 _) (hb.c 0 1 gZ)) ?_))))
 have h:=h H1 w1 hs
 have hs:=hs.here
 refine sc call7 (h.mono ?_)
 rintro e w2 ⟨r1,rfl,hk,h⟩
 refine ⟨_,rfl,?_⟩
 obtain ⟨hs,hb⟩:=hk.hh hs hb
 refine q0 (vs r1) (ln (wpE_seq (eg (q0 (vp (some (p1.add 2))) (q2 (vi aK) (xl (isAgg3 _) (hb.c 0 2 gZ)) (ln (wpE_block (wpE_seq ?_))))))))
 refine rg (q0 (vb (aK == 1)) (q0 (vb (aK == 1)) (ln ?_)))
 refine wpE_cond (t:=(aK == 1)) (by kernel_rfl) (fun hc1=>?_) (fun hc1=>?_)
 have h:=h.1 hc1
 refine eg (q0 (vp (some p1)) (q2 (vi aN) (xl (isAgg3 _) (hb.c0 0 gZ)) ?_))
 refine sc call8 (h.mono ?_)
 rintro e w3 ⟨r2,rfl,hk,h⟩
 refine ⟨_,rfl,?_⟩
 obtain ⟨hs,hb⟩:=hk.hh hs hb
 obtain ⟨s1,hv3,h⟩:=h
 refine q2 (vs s1) (x_bin (by kernel_rfl) (by kernel_rfl) (by kernel_rfl) hv3) ?_
 obtain ⟨s2,hv2,h⟩:=h
 refine q2 (vs s2) (x_bin (by kernel_rfl) (by kernel_rfl) (by kernel_rfl) hv2) (q0 (vs r1) ?_)
 obtain ⟨s3,hv1,h⟩:=h
 refine q2 (vs s3) (x_bin (by kernel_rfl) (by kernel_rfl) (by kernel_rfl) hv1) (q0 (vs s3) (ln (er (bl_r (th_r (rs1 results4 (v:=(vs s3)) ?_))))))
 exact ⟨s3,rfl,h⟩
 have h:=h.2 hc1
 refine eg (q0 (vb (aK == 2)) (q0 (vb (aK == 2)) (ln ?_)))
 refine wpE_cond (t:=(aK == 2)) (by kernel_rfl) (fun hc2=>?_) (fun hc2=>?_)
 have h:=h.1 hc2
 refine eg (q0 (vs r1) ?_)
 obtain ⟨s4,hv4,h⟩:=h
 refine q2 (vs s4) (x_bin (by kernel_rfl) (by kernel_rfl) (by kernel_rfl) hv4) (q0 (vs s4) (ln (er (bl_r (th_r (rs1 results4 (v:=(vs s4)) ?_))))))
 exact ⟨s4,rfl,h⟩
 have h:=h.2 hc2
 refine eg (q0 (vb (aK == 3)) (q0 (vb (aK == 3)) (ln ?_)))
 refine wpE_cond (t:=(aK == 3)) (by kernel_rfl) (fun hc3=>?_) (fun hc3=>?_)
 have h:=h.1 hc3
 refine eg (q0 (vs r1) ?_)
 obtain ⟨s5,hv6,h⟩:=h
 refine q2 (vs s5) (x_bin (by kernel_rfl) (by kernel_rfl) (by kernel_rfl) hv6) ?_
 obtain ⟨s6,hv5,h⟩:=h
 refine q2 (vs s6) (x_bin (by kernel_rfl) (by kernel_rfl) (by kernel_rfl) hv5) (q0 (vs s6) (ln (er (bl_r (th_r (rs1 results4 (v:=(vs s6)) ?_))))))
 exact ⟨s6,rfl,h⟩
 have h:=h.2 hc3
 refine wpE_skip (bl_n (th_n (eg (q0 ve (ln (er (rs1 results4 (v:=ve) ?_)))))))
 exact ⟨⟨#[]⟩,rfl,h⟩
def m_N_j1 (aK:Int) (r1 w3:ByteArray) (w:World) (K:ByteArray→WP):Prop :=
 Br (aK == 1)
  (∃s1:ByteArray,(Go.binOp .add 9 (vs (⟨#[112,97,114,116,121,32]⟩:ByteArray)) (vs w3)).run prog w=.ok (vs s1) w ∧
  ∃s2:ByteArray,(Go.binOp .add 9 (vs s1) (vs (⟨#[32,115,105,103,110,101,100,32,116,119,111,32,116,101,120,116,115,32,111,102,32]⟩:ByteArray))).run prog w=.ok (vs s2) w ∧
  ∃s3:ByteArray,(Go.binOp .add 9 (vs s2) (vs r1)).run prog w=.ok (vs s3) w ∧
  K s3 w)
  (Br (aK == 2)
   (∃s4:ByteArray,(Go.binOp .add 9 (vs (⟨#[116,104,101,32,110,111,116,97,114,121,32,103,97,118,101,32,116,119,111,32,118,101,114,100,105,99,116,115,32,111,110,32]⟩:ByteArray)) (vs r1)).run prog w=.ok (vs s4) w ∧
   K s4 w)
   (Br (aK == 3)
    (∃s5:ByteArray,(Go.binOp .add 9 (vs (⟨#[116,104,101,32,111,114,105,103,105,110,97,116,111,114,32,115,105,103,110,101,100,32]⟩:ByteArray)) (vs r1)).run prog w=.ok (vs s5) w ∧
    ∃s6:ByteArray,(Go.binOp .add 9 (vs s5) (vs (⟨#[32,97,110,100,32,97,115,107,101,100,32,116,111,32,97,98,111,114,116,32,105,116]⟩:ByteArray))).run prog w=.ok (vs s6) w ∧
    K s6 w)
    (K ⟨#[]⟩ w)))
def m_N (aN aR:Int) (aK aV aW:Int) (w0:World) (K:ByteArray→WP):Prop :=
 ∀(H1:NP) (w1:World),Hst w0 None w0 H1 w1 →
 Calls prog 9 #[(vu aR)] w1 (fun e w2=>∃r1:ByteArray,e=.returned (vs r1)∧
  Kept H1 w1 w2 ∧
  Br (decide (aN<0))
   (Calls prog 9 #[(vu (IntKind.u64.wrap ((IntKind.u64.wrap (q6.wrap (0 - (q6.wrap (aN+1)))))+1)))] w2 (fun e w4=>∃r2:ByteArray,e=.returned (vs r2)∧
    Kept H1 w2 w4 ∧
    ∃s7:ByteArray,(Go.binOp .add 9 (vs (⟨#[45]⟩:ByteArray)) (vs r2)).run prog w4=.ok (vs s7) w4 ∧
    m_N_j1 aK r1 s7 w4 K))
   (Calls prog 9 #[(vu (IntKind.u64.wrap aN))] w2 (fun e w5=>∃r3:ByteArray,e=.returned (vs r3)∧
    Kept H1 w2 w5 ∧
    m_N_j1 aK r1 r3 w5 K)))
theorem w_N (aN aR : Int) (aK aV aW : Int) (w0 : World) (K : ByteArray → WP) (h : m_N aN aR aK aV aW w0 K) :
  Calls prog 5 #[(.agg #[(vi aN),(vu aR),(vi aK),(vi aV),(vi aW)])] w0 (fun e w'=>∃r4:ByteArray,e=.returned (vs r4)∧K r4 w'):=by
 unfold m_N at h
 refine cw (args:=[(.agg #[(vi aN),(vu aR),(vi aK),(vi aV),(vi aW)])]) func5 ntmps5 ?_
 have hs:=Hst.start w0
 have hb:=HB.nil None w0
 refine eg (sn (O:=(.cells #[(vi aN),(vu aR),(vi aK),(vi aV),(vi aW)] 24)) xb ?_)
 intro p1 w1 hn1
 obtain ⟨H1,hs,hb⟩:=hs.alloc hb hn1
 refine q0 ve (ln (eg (q0 (vp (some (p1.add 1))) (q2 (vu aR) (xl (isAgg22 _) (hb.c 0 1 gZ)) ?_))))
 have h:=h H1 w1 hs
 have hs:=hs.here
 refine sc call9 (h.mono ?_)
 rintro e w2 ⟨r1,rfl,hk,h⟩
 refine ⟨_,rfl,?_⟩
 obtain ⟨hs,hb⟩:=hk.hh hs hb
 refine q0 (vs r1) (ln (eg (q0 ve (ln (wpE_seq (eg (q0 (vp (some p1)) ?_)))))))
 refine q2 (vi aN) (xl (isAgg3 _) (hb.c0 0 gZ)) (q0 (vb (decide (aN<0))) (ln ?_))
 refine wpE_joinT (fun ρ w=>∃w3:ByteArray,∃H:NP,Has ρ [(1,(vp (some p1))),(3,(vs r1)),(4,(vs w3))]∧Hst w0 H w H w∧HB H w [(p1,[(vi aN),(vu aR),(vi aK),(vi aV),(vi aW)],24)]∧m_N_j1 aK r1 w3 w K) ?_ ?_
 rintro ρ w ⟨w3,H,hH,hs,hb,h⟩
 unfold m_N_j1 at h
 refine wpE_has hH ?_
 refine wpE_seq (eg (q0 (vp (some (p1.add 2))) (q2 (vi aK) (xl (isAgg3 _) (hb.c 0 2 gZ)) (ln (wpE_block (eg (q0 (vb (aK == 1)) (q0 (vb (aK == 1)) ?_))))))))
 refine ln ?_
 refine wpE_cond (t:=(aK == 1)) (by kernel_rfl) (fun hc1=>?_) (fun hc1=>?_)
 have h:=h.1 hc1
 refine eg (q0 (vs w3) ?_)
 obtain ⟨s1,hv3,h⟩:=h
 refine q2 (vs s1) (x_bin (by kernel_rfl) (by kernel_rfl) (by kernel_rfl) hv3) ?_
 obtain ⟨s2,hv2,h⟩:=h
 refine q2 (vs s2) (x_bin (by kernel_rfl) (by kernel_rfl) (by kernel_rfl) hv2) (q0 (vs r1) ?_)
 obtain ⟨s3,hv1,h⟩:=h
 refine q2 (vs s3) (x_bin (by kernel_rfl) (by kernel_rfl) (by kernel_rfl) hv1) (q0 (vs s3) (ln (er (bl_r (th_r (rs1 results5 (v:=(vs s3)) ?_))))))
 exact ⟨s3,rfl,h⟩
 have h:=h.2 hc1
 refine eg (q0 (vb (aK == 2)) (q0 (vb (aK == 2)) (ln ?_)))
 refine wpE_cond (t:=(aK == 2)) (by kernel_rfl) (fun hc2=>?_) (fun hc2=>?_)
 have h:=h.1 hc2
 refine eg (q0 (vs r1) ?_)
 obtain ⟨s4,hv4,h⟩:=h
 refine q2 (vs s4) (x_bin (by kernel_rfl) (by kernel_rfl) (by kernel_rfl) hv4) (q0 (vs s4) (ln (er (bl_r (th_r (rs1 results5 (v:=(vs s4)) ?_))))))
 exact ⟨s4,rfl,h⟩
 have h:=h.2 hc2
 refine eg (q0 (vb (aK == 3)) (q0 (vb (aK == 3)) (ln ?_)))
 refine wpE_cond (t:=(aK == 3)) (by kernel_rfl) (fun hc3=>?_) (fun hc3=>?_)
 have h:=h.1 hc3
 refine eg (q0 (vs r1) ?_)
 obtain ⟨s5,hv6,h⟩:=h
 refine q2 (vs s5) (x_bin (by kernel_rfl) (by kernel_rfl) (by kernel_rfl) hv6) ?_
 obtain ⟨s6,hv5,h⟩:=h
 refine q2 (vs s6) (x_bin (by kernel_rfl) (by kernel_rfl) (by kernel_rfl) hv5) (q0 (vs s6) (ln (er (bl_r (th_r (rs1 results5 (v:=(vs s6)) ?_))))))
 exact ⟨s6,rfl,h⟩
 have h:=h.2 hc3
 refine wpE_skip (bl_n (th_n (eg (q0 ve (ln (er (rs1 results5 (v:=ve) ?_)))))))
 exact ⟨⟨#[]⟩,rfl,h⟩
 refine wpE_cond (t:=(decide (aN<0))) (by kernel_rfl) (fun hc4=>?_) (fun hc4=>?_)
 have h:=h.1 hc4
 refine rg (q0 (vp (some p1)) (q2 (vi aN) (xl (isAgg3 _) (hb.c0 0 gZ)) (q0 (vi (q6.wrap (aN+1))) (q0 (vi (q6.wrap (0 - (q6.wrap (aN+1))))) (q0 (vu (IntKind.u64.wrap (q6.wrap (0 - (q6.wrap (aN+1)))))) (q0 (vu (IntKind.u64.wrap ((IntKind.u64.wrap (q6.wrap (0 - (q6.wrap (aN+1)))))+1))) ?_))))))
 refine sc call9 (h.mono ?_)
 rintro e w4 ⟨r2,rfl,hk,h⟩
 refine ⟨_,rfl,?_⟩
 obtain ⟨hs,hb⟩:=hk.hh hs hb
 obtain ⟨s7,hv7,h⟩:=h
 refine q2 (vs s7) (x_bin (by kernel_rfl) (by kernel_rfl) (by kernel_rfl) hv7) (q0 (vs s7) (ln ?_))
 exact ⟨s7,H1,hm,hs,hb,h⟩
 have h:=h.2 hc4
 refine rg (q0 (vp (some p1)) (q2 (vi aN) (xl (isAgg3 _) (hb.c0 0 gZ)) (q0 (vu (IntKind.u64.wrap aN)) ?_)))
 refine sc call9 (h.mono ?_)
 rintro e w5 ⟨r3,rfl,hk,h⟩
 refine ⟨_,rfl,?_⟩
 obtain ⟨hs,hb⟩:=hk.hh hs hb
 refine q0 (vs r3) (ln ?_)
 exact ⟨r3,H1,hm,hs,hb,h⟩
def m_J_l2 (aL aM:Int) (aO:ByteArray) (x1:Int) (r2:Sl) (x2:Int) (aS:Bool) (aT aU:Int) (w0:World) (Hl2:NP) (wl2:World) (Kc1:Int→Bool→Int→Int→NP→WP) (Kc2:Int→Bool→Int→Int→NP→WP) (K:Bool→Int→Int→WP):Prop :=
 Br (decide (x2<(r2.len:Int)))
  (∃a2:Addr,At r2 x2 5 a2 ∧
  ∃aP aA:Int,∃aB:ByteArray,∃aQ aX:Int,Row wl2 a2 [(vi aP),(vu aA),(vs aB),(vi aQ),(vi aX)] ∧
  Br (((aP == aL) && (aA == aM)) && (decide (aB=aO)))
   (∀(H6:NP) (w12:World),Hst w0 Hl2 wl2 H6 w12 →
   K true aQ x1 w12)
   (∀(H6:NP) (w10:World),Hst w0 Hl2 wl2 H6 w10 →
   Kc2 (q6.wrap (x2+1)) aS aT aU H6 w10))
  (Kc1 (q6.wrap (x1+1)) aS aT aU Hl2 wl2)
def m_J_l1 (aL aM:Int) (aO:ByteArray) (r1:Sl) (x1:Int) (aY:Bool) (aZ bA:Int) (w0:World) (Hl1:NP) (wl1:World) (Kc1:Int→Bool→Int→Int→NP→WP) (K:Bool→Int→Int→WP):Prop :=
 Br (decide (x1<(r1.len:Int)))
  (∃a1:Addr,At r1 x1 5 a1 ∧
  ∃aC aD aE:Int,∃aF:ByteArray,∃aG:Bool,Row wl1 a1 [(vi aC),(vi aD),(vu aE),(vs aF),(vb aG)] ∧
  ∀(H3:NP) (w5:World),Hst w0 Hl1 wl1 H3 w5 →
  Calls prog 27 #[(.agg #[(vi aC),(vi aD),(vu aE),(vs aF),(vb aG)]),(vi x1)] w5 (fun e w6=>∃r2:Sl,e=.returned r2.v∧
   Kept H3 w5 w6 ∧
   ∃(I2:Int→Bool→Int→Int→NP→WP) (mu2:Int→Bool→Int→Int→World→Nat),I2 0 aY aZ bA H3 w6 ∧
    ∀(x2:Int) (aS:Bool) (aT aU:Int) (Hl2:NP) (wl2:World),Hst w0 Hl2 wl2 Hl2 wl2→I2 x2 aS aT aU Hl2 wl2→m_J_l2 aL aM aO x1 r2 x2 aS aT aU w0 Hl2 wl2 Kc1 (fun y'0 y'1 y'2 y'3 H' w'=>I2 y'0 y'1 y'2 y'3 H' w'∧mu2 y'0 y'1 y'2 y'3 w'<mu2 x2 aS aT aU wl2) K))
  (∀(w13:World),Hst w0 Hl1 wl1 Hl1 w13 →
  K false 0 (-1) w13)
def m_J (p1:Option Addr) (shown1:Sl) (aL aM:Int) (aO:ByteArray) (w0:World) (K:Bool→Int→Int→WP):Prop :=
 ∀(H2:NP) (w2:World),Hst w0 None w0 H2 w2 →
 Calls prog 26 #[(vp p1),shown1.v] w2 (fun e w3=>∃r1:Sl,e=.returned r1.v∧
  Kept H2 w2 w3 ∧
  ∃(I1:Int→Bool→Int→Int→NP→WP) (mu1:Int→Bool→Int→Int→World→Nat),I1 0 false 0 0 H2 w3 ∧
   ∀(x1:Int) (aY:Bool) (aZ bA:Int) (Hl1:NP) (wl1:World),Hst w0 Hl1 wl1 Hl1 wl1→I1 x1 aY aZ bA Hl1 wl1→m_J_l1 aL aM aO r1 x1 aY aZ bA w0 Hl1 wl1 (fun y'0 y'1 y'2 y'3 H' w'=>I1 y'0 y'1 y'2 y'3 H' w'∧mu1 y'0 y'1 y'2 y'3 w'<mu1 x1 aY aZ bA wl1) K)
theorem w_J (p1 : Option Addr) (shown1 : Sl) (aL aM : Int) (aO : ByteArray) (w0 : World) (K : Bool → Int → Int → WP) (h : m_J p1 shown1 aL aM aO w0 K) :
  Calls prog 13 #[(vp p1),shown1.v,(.agg #[(vi aL),(vu aM),(vs aO)])] w0 (fun e w'=>∃bB:Bool,∃bC bD:Int,e=.returned (.agg #[(vb bB),(vi bC),(vi bD)])∧K bB bC bD w'):=by
 unfold m_J at h
 refine cw (args:=[(vp p1),shown1.v,(.agg #[(vi aL),(vu aM),(vs aO)])]) func13 ntmps13 ?_
 have hs:=Hst.start w0
 have hb:=HB.nil None w0
 refine eg (sn (O:=(.cells #[(vi aL),(vu aM),(vs aO)] 48)) xb ?_)
 intro p2 w1 hn1
 obtain ⟨H1,hs,hb⟩:=hs.alloc hb hn1
 refine sn (O:=(.cells #[(vb false),(vi 0),(vi 0)] 44)) (x_alloc (zeroValue44 _) rfl) ?_
 intro p3 w2 hn2
 obtain ⟨H2,hs,hb⟩:=hs.alloc hb hn2
 refine ln (wpE_seq (eg (q0 (vp p1) (q0 shown1.v ?_))))
 have h:=h H2 w2 hs
 have hs:=hs.here
 refine sc call26 (h.mono ?_)
 rintro e w3 ⟨r1,rfl,hk,h⟩
 refine ⟨_,rfl,?_⟩
 obtain ⟨hs,hb⟩:=hk.hh hs hb
 refine q0 (vi (r1.len:Int)) (q0 (vi 0) (ln (wpE_block ?_)))
 obtain ⟨I1,mu1,h0,hr⟩:=h
 refine wpE_loop (σ:=Int×Bool×Int×Int×NP×World) (fun s ρ w=>w=s.2.2.2.2.2∧Has ρ [(5,(vp (some p2))),(6,(vp (some p3))),(13,r1.v),(14,(vi (r1.len:Int))),(15,(vi s.1))]∧Hst w0 s.2.2.2.2.1 w s.2.2.2.2.1 w∧HB s.2.2.2.2.1 w [(p3,[(vb s.2.1),(vi s.2.2.1),(vi s.2.2.2.1)],44),(p2,[(vi aL),(vu aM),(vs aO)],48)]∧I1 s.1 s.2.1 s.2.2.1 s.2.2.2.1 s.2.2.2.2.1 s.2.2.2.2.2) (fun s=>mu1 s.1 s.2.1 s.2.2.1 s.2.2.2.1 s.2.2.2.2.2) (0,false,0,0,H2,w3) ⟨rfl,hm,hs,hb,h0⟩ ?_
 rintro ⟨x1,aY,aZ,bA,Hl1,wl1⟩ ρ w ⟨hw,hH,hs,hb,hI⟩
 obtain rfl:wl1=w:=(show w=wl1 from hw).symm
 have hH:Has ρ [(5,(vp (some p2))),(6,(vp (some p3))),(13,r1.v),(14,(vi (r1.len:Int))),(15,(vi x1))]:=hH
 have hs:Hst w0 Hl1 wl1 Hl1 wl1:=hs
 have hb:HB Hl1 wl1 [(p3,[(vb aY),(vi aZ),(vi bA)],44),(p2,[(vi aL),(vu aM),(vs aO)],48)]:=hb
 have h:=hr x1 aY aZ bA Hl1 wl1 hs hI
 unfold m_J_l1 at h
 refine wpE_has hH ?_
 refine eg (q0 (vb (decide (x1<(r1.len:Int)))) (ln (wpE_seq ?_)))
 refine wpE_cond (t:=(decide (x1<(r1.len:Int)))) (by kernel_rfl) (fun hc1=>?_) (fun hc1=>?_)
 have h:=h.1 hc1
 refine wpE_skip (th_n (wpE_seq (wpE_block (eg (q0 (vi x1) ?_)))))
 obtain ⟨a1,hv4,h⟩:=h
 refine q2 (vp (some a1)) (xi (runUnderlying64 _) (sizeOf42 _) hv4) ?_
 obtain ⟨aC,aD,aE,aF,aG,hv3,h⟩:=h
 refine q2 (.agg #[(vi aC),(vi aD),(vu aE),(vs aF),(vb aG)]) (xa a1 [(vi aC),(vi aD),(vu aE),(vs aF),(vb aG)] (isAgg42 _) (sizeOf42 _) hv3) (sn (O:=(.cells #[(vi 0),(vi 0),(vu 0),ve,(vb false)] 42)) (x_alloc (zeroValue42 _) rfl) ?_)
 intro p4 w4 hn3
 obtain ⟨H3,hs,hb⟩:=hs.alloc hb hn3
 refine q0 (vi x1) (st_set (want0 rfl) (xo p4 [(vi aC),(vi aD),(vu aE),(vs aF),(vb aG)] (sizeOf42 _) (hb.k0 0 5 gZ)) ?_)
 intro w5 hn4
 obtain ⟨hs,hb⟩:=hb.s0 (l':=[(p4,[(vi aC),(vi aD),(vu aE),(vs aF),(vb aG)],42),(p3,[(vb aY),(vi aZ),(vi bA)],44),(p2,[(vi aL),(vu aM),(vs aO)],48)]) 0 [(vi aC),(vi aD),(vu aE),(vs aF),(vb aG)] hs hn4 gZ
 refine ln (eg (q2 (.agg #[(vi aC),(vi aD),(vu aE),(vs aF),(vb aG)]) (xa p4 [(vi aC),(vi aD),(vu aE),(vs aF),(vb aG)] (isAgg42 _) (sizeOf42 _) (hb.r0 0 5 gZ)) (q0 (vi x1) ?_)))
 have h:=h H3 w5 hs
 have hs:=hs.here
 refine sc call27 (h.mono ?_)
 rintro e w6 ⟨r2,rfl,hk,h⟩
 refine ⟨_,rfl,?_⟩
 obtain ⟨hs,hb⟩:=hk.hh hs hb
 refine q0 (vi (r2.len:Int)) (q0 (vi 0) (ln (wpE_block ?_)))
 obtain ⟨I2,mu2,h0,hr⟩:=h
 refine wpE_loop (σ:=Int×Bool×Int×Int×NP×World) (fun s ρ w=>w=s.2.2.2.2.2∧Has ρ [(5,(vp (some p2))),(6,(vp (some p3))),(7,(vi x1)),(13,r1.v),(14,(vi (r1.len:Int))),(15,(vi x1)),(22,r2.v),(23,(vi (r2.len:Int))),(24,(vi s.1))]∧Hst w0 s.2.2.2.2.1 w s.2.2.2.2.1 w∧HB s.2.2.2.2.1 w [(p4,[(vi aC),(vi aD),(vu aE),(vs aF),(vb aG)],42),(p3,[(vb s.2.1),(vi s.2.2.1),(vi s.2.2.2.1)],44),(p2,[(vi aL),(vu aM),(vs aO)],48)]∧I2 s.1 s.2.1 s.2.2.1 s.2.2.2.1 s.2.2.2.2.1 s.2.2.2.2.2) (fun s=>mu2 s.1 s.2.1 s.2.2.1 s.2.2.2.1 s.2.2.2.2.2) (0,aY,aZ,bA,H3,w6) ⟨rfl,hm,hs,hb,h0⟩ ?_
 rintro ⟨x2,aS,aT,aU,Hl2,wl2⟩ ρ w ⟨hw,hH,hs,hb,hI⟩
 obtain rfl:wl2=w:=(show w=wl2 from hw).symm
 have hH:Has ρ [(5,(vp (some p2))),(6,(vp (some p3))),(7,(vi x1)),(13,r1.v),(14,(vi (r1.len:Int))),(15,(vi x1)),(22,r2.v),(23,(vi (r2.len:Int))),(24,(vi x2))]:=hH
 have hs:Hst w0 Hl2 wl2 Hl2 wl2:=hs
 have hb:HB Hl2 wl2 [(p4,[(vi aC),(vi aD),(vu aE),(vs aF),(vb aG)],42),(p3,[(vb aS),(vi aT),(vi aU)],44),(p2,[(vi aL),(vu aM),(vs aO)],48)]:=hb
 have h:=hr x2 aS aT aU Hl2 wl2 hs hI
 unfold m_J_l2 at h
 refine wpE_has hH ?_
 refine eg (q0 (vb (decide (x2<(r2.len:Int)))) (ln (wpE_seq ?_)))
 refine wpE_cond (t:=(decide (x2<(r2.len:Int)))) (by kernel_rfl) (fun hc2=>?_) (fun hc2=>?_)
 have h:=h.1 hc2
 refine wpE_skip (th_n (wpE_seq (wpE_block (eg ?_))))
 obtain ⟨a2,hv2,h⟩:=h
 refine q2 (vp (some a2)) (xi (runUnderlying66 _) (sizeOf69 _) hv2) ?_
 obtain ⟨aP,aA,aB,aQ,aX,hv1,h⟩:=h
 refine q2 (.agg #[(vi aP),(vu aA),(vs aB),(vi aQ),(vi aX)]) (xa a2 [(vi aP),(vu aA),(vs aB),(vi aQ),(vi aX)] (isAgg69 _) (sizeOf69 _) hv1) (sn (O:=(.cells #[(vi 0),(vu 0),ve,(vi 0),(vi 0)] 69)) (x_alloc (zeroValue69 _) rfl) ?_)
 intro p5 w7 hn5
 obtain ⟨H4,hs,hb⟩:=hs.alloc hb hn5
 refine ss (xo p5 [(vi aP),(vu aA),(vs aB),(vi aQ),(vi aX)] (sizeOf69 _) (hb.k0 0 5 gZ)) ?_
 intro w8 hn6
 obtain ⟨hs,hb⟩:=hb.s0 (l':=[(p5,[(vi aP),(vu aA),(vs aB),(vi aQ),(vi aX)],69),(p4,[(vi aC),(vi aD),(vu aE),(vs aF),(vb aG)],42),(p3,[(vb aS),(vi aT),(vi aU)],44),(p2,[(vi aL),(vu aM),(vs aO)],48)]) 0 [(vi aP),(vu aA),(vs aB),(vi aQ),(vi aX)] hs hn6 gZ
 refine ln (wpE_seq ?_)
 refine wpE_via (fun ρ wJ=>∃b2'0:Bool,∃HJ:NP,(((aP == aL) && (aA == aM))=b2'0)∧Hst w0 Hl2 wl2 HJ wJ∧HB HJ wJ [(p5,[(vi aP),(vu aA),(vs aB),(vi aQ),(vi aX)],69),(p4,[(vi aC),(vi aD),(vu aE),(vs aF),(vb aG)],42),(p3,[(vb aS),(vi aT),(vi aU)],44),(p2,[(vi aL),(vu aM),(vs aO)],48)]∧Has ρ [(5,(vp (some p2))),(6,(vp (some p3))),(7,(vi x1)),(10,(vp (some p5))),(13,r1.v),(14,(vi (r1.len:Int))),(15,(vi x1)),(22,r2.v),(23,(vi (r2.len:Int))),(24,(vi x2)),(46,(vb (b2'0 && (decide (aB=aO)))))]) ?_ ?_
 refine rg (q0 (vp (some p5)) (q2 (vi aP) (xl (isAgg3 _) (hb.c0 0 gZ)) (q0 (vp (some p2)) (q2 (vi aL) (xl (isAgg3 _) (hb.c0 3 (gS (gS (gS gZ))))) (q0 (vb (aP == aL)) (q0 (vb (aP == aL)) ?_))))))
 refine wpL_join 6 (fun ρ wJ=>∃b3'0:Bool,∃HJ:NP,((aP == aL)=b3'0)∧Hst w0 Hl2 wl2 HJ wJ∧HB HJ wJ [(p5,[(vi aP),(vu aA),(vs aB),(vi aQ),(vi aX)],69),(p4,[(vi aC),(vi aD),(vu aE),(vs aF),(vb aG)],42),(p3,[(vb aS),(vi aT),(vi aU)],44),(p2,[(vi aL),(vu aM),(vs aO)],48)]∧Has ρ [(5,(vp (some p2))),(6,(vp (some p3))),(7,(vi x1)),(10,(vp (some p5))),(13,r1.v),(14,(vi (r1.len:Int))),(15,(vi x1)),(22,r2.v),(23,(vi (r2.len:Int))),(24,(vi x2)),(39,(vb (b3'0 && (aA == aM))))]) ?_ ?_
 rintro ρ w11 ⟨b3'0,H7,he0,hs,hb,hH⟩
 subst he0
 refine wpL_has hH ?_
 refine q0 (vb ((aP == aL) && (aA == aM))) ?_
 rcases bte ((aP == aL) && (aA == aM)) with hg6 | hg6
 refine q1 (vp (some (p5.add 2))) (wy 40 hg6) (stp (v:=(vs aB)) (wy 40 hg6) (xl (isAgg9 _) (hb.c 0 2 gZ)) (q1 (vp (some (p2.add 2))) (wy 40 hg6) (stp (v:=(vs aO)) (wy 40 hg6) (xl (isAgg9 _) (hb.c 3 2 (gS (gS (gS gZ))))) (stp (v:=(vb (decide (aB=aO)))) (wy 40 hg6) (x_streq (by kernel_rfl) (by kernel_rfl)) (q2 (vb (decide (aB=aO))) (xT hg6) (ln ?_))))))
 exact ⟨true,_,hg6,hs,hb,hm⟩
 refine sk (yD 40 hg6) (sk (yD 40 hg6) (sk (yD 40 hg6) (sk (yD 40 hg6) (sk (yD 40 hg6) (q2 (vb false) (xF hg6) (ln ?_))))))
 exact ⟨false,_,hg6,hs,hb,hm⟩
 rcases bte (aP == aL) with hg5 | hg5
 refine q1 (vp (some (p5.add 1))) (wy 33 hg5) (stp (v:=(vu aA)) (wy 33 hg5) (xl (isAgg22 _) (hb.c 0 1 gZ)) (q1 (vp (some (p2.add 1))) (wy 33 hg5) (stp (v:=(vu aM)) (wy 33 hg5) (xl (isAgg22 _) (hb.c 3 1 (gS (gS (gS gZ))))) (q1 (vb (aA == aM)) (wy 33 hg5) (q2 (vb (aA == aM)) (xT hg5) (wpL_nil ?_))))))
 exact ⟨true,_,hg5,hs,hb,hm⟩
 refine sk (yD 33 hg5) (sk (yD 33 hg5) (sk (yD 33 hg5) (sk (yD 33 hg5) (sk (yD 33 hg5) (q2 (vb false) (xF hg5) (wpL_nil ?_))))))
 exact ⟨false,_,hg5,hs,hb,hm⟩
 rintro ρ w10 ⟨b2'0,H6,he0,hs,hb,hH⟩
 subst he0
 refine norm_has hH ?_
 refine th_n ?_
 refine wpE_cond (t:=(((aP == aL) && (aA == aM)) && (decide (aB=aO)))) (by kernel_rfl) (fun hc3=>?_) (fun hc3=>?_)
 have h:=h.1 hc3
 refine eg (q0 (vp (some (p5.add 3))) (q2 (vi aQ) (xl (isAgg3 _) (hb.c 0 3 gZ)) (q0 (vi x1) (q0 (.agg #[(vb true),(vi aQ),(vi x1)]) (st_set (want0 rfl) (xo p3 [(vb true),(vi aQ),(vi x1)] (sizeOf44 _) (hb.k0 2 3 (gS (gS gZ)))) ?_)))))
 intro w12 hn7
 obtain ⟨hs,hb⟩:=hb.s0 (l':=[(p5,[(vi aP),(vu aA),(vs aB),(vi aQ),(vi aX)],69),(p4,[(vi aC),(vi aD),(vu aE),(vs aF),(vb aG)],42),(p3,[(vb true),(vi aQ),(vi x1)],44),(p2,[(vi aL),(vu aM),(vs aO)],48)]) 2 [(vb true),(vi aQ),(vi x1)] hs hn7 (gS (gS gZ))
 refine ln (er (bl_r (th_r (th_r (bl_r (bl_r (th_r (th_r (bl_r (th_r ?_))))))))))
 have h:=h H6 w12 hs
 have hs:=hs.here
 refine resG (.inl rfl) (vs:=[(.agg #[(vb true),(vi aQ),(vi x1)])]) (v:=(.agg #[(vb true),(vi aQ),(vi x1)])) results13 ⟨(rva (isAgg44 _) (sizeOf44 _) (hb.r0 2 3 (gS (gS gZ)))),trivial⟩ (by kernel_rfl) ?_
 exact ⟨true,aQ,x1,rfl,h⟩
 have h:=h.2 hc3
 refine wpE_skip (bl_n (th_n (rg (q0 (vi (q6.wrap (x2+1))) (q0 (vi (q6.wrap (x2+1))) (wpL_nil ?_))))))
 have h:=h H6 w10 hs
 have hs:=hs.here
 refine th_n ?_
 exact ⟨((q6.wrap (x2+1)),aS,aT,aU,H6,w10),⟨rfl,hm,hs,hb.drop 1,h.1⟩,h.2⟩
 have h:=h.2 hc2
 refine wpE_exit (th_x (th_x (bl_eq (bl_n (th_n (rg (q0 (vi (q6.wrap (x1+1))) (q0 (vi (q6.wrap (x1+1))) (ln ?_)))))))))
 exact ⟨((q6.wrap (x1+1)),aS,aT,aU,Hl2,wl2),⟨rfl,hm,hs,hb.drop 1,h.1⟩,h.2⟩
 have h:=h.2 hc1
 refine wpE_exit (th_x (th_x (bl_eq (th_n (eg (q0 (.agg #[(vb false),(vi 0),(vi (-1))]) (st_set (want0 rfl) (xo p3 [(vb false),(vi 0),(vi (-1))] (sizeOf44 _) (hb.k0 0 3 gZ)) ?_)))))))
 intro w13 hn8
 obtain ⟨hs,hb⟩:=hb.s0 (l':=[(p3,[(vb false),(vi 0),(vi (-1))],44),(p2,[(vi aL),(vu aM),(vs aO)],48)]) 0 [(vb false),(vi 0),(vi (-1))] hs hn8 gZ
 refine ln (er ?_)
 have h:=h w13 hs
 have hs:=hs.here
 refine resG (.inl rfl) (vs:=[(.agg #[(vb false),(vi 0),(vi (-1))])]) (v:=(.agg #[(vb false),(vi 0),(vi (-1))])) results13 ⟨(rva (isAgg44 _) (sizeOf44 _) (hb.r0 0 3 gZ)),trivial⟩ (by kernel_rfl) ?_
 exact ⟨false,0,(-1),rfl,h⟩
def m_H_j3 (p2:Addr) (x1:Int) (out2:Sl) (k1 aC:Int) (aD aE:Int) (aF:ByteArray) (aG:Bool) (aH aI aA:Int) (aB:ByteArray) (aJ x2:Bool) (w0:World) (H:NP) (w:World) (Kc2:Sl→Int→NP→WP) (_K:Sl→WP):Prop :=
 Br x2
  (Kc2 out2 (q6.wrap (k1+1)) H w)
  (∃C2:WP,C2 w.drew∧∀w17,w17=w.drew →
  ∃v1:Int,(∀w',C2 w'→(Instr.lookup 70 (.map (some p2.block)) (.agg #[(vi (s_A aC aD aE aF aG aH aI aA aB aJ).1),(vu (s_A aC aD aE aF aG aH aI aA aB aJ).2.1),(vi (s_A aC aD aE aF aG aH aI aA aB aJ).2.2.1),(vi (s_A aC aD aE aF aG aH aI aA aB aJ).2.2.2.1),(vi (s_A aC aD aE aF aG aH aI aA aB aJ).2.2.2.2)]) false).run prog w'=.ok (vi v1) w') ∧
  ∃v2 z1:Int,∃w18:World,(Instr.mapEntry 70 (.map (some p2.block)) (.agg #[(vi (s_A aC aD aE aF aG aH aI aA aB aJ).1),(vu (s_A aC aD aE aF aG aH aI aA aB aJ).2.1),(vi (s_A aC aD aE aF aG aH aI aA aB aJ).2.2.1),(vi (s_A aC aD aE aF aG aH aI aA aB aJ).2.2.2.1),(vi (s_A aC aD aE aF aG aH aI aA aB aJ).2.2.2.2)])).run prog w17=.ok (.tuple #[(vi v2),(vi z1)]) w18∧C2 w18 ∧
  Kept H w17 w18 ∧
  ∃w19:World,(Instr.entryStore 70 (.map (some p2.block)) (vi z1) (vi (q6.wrap (v1+1)))).run prog w18=.ok () w19 ∧
  Kept H w18 w19 ∧
  ∀(w21:World),Hst w0 H w19 H w21 →
  ∀(p8:Addr) (w22:World),New w21 (.cells #[(vi (s_A aC aD aE aF aG aH aI aA aB aJ).1),(vu (s_A aC aD aE aF aG aH aI aA aB aJ).2.1),(vi (s_A aC aD aE aF aG aH aI aA aB aJ).2.2.1),(vi x1),(vi k1)] 24) p8 w22 →
  ∃s1:Sl,∃w23:World,(Builtin.append_ #[49,49] 49 #[out2.v,(Sl.mk (some p8) 1 1).v]).run prog w22=.ok s1.v w23 ∧
  Kept H w22 w23 ∧
  Kc2 s1 (q6.wrap (k1+1)) H w23)
def m_H_l2 (p2:Addr) (r1:Sl) (x1:Int) (out2:Sl) (k1:Int) (w0:World) (Hl2:NP) (wl2:World) (Kc1:Sl→Int→NP→WP) (Kc2:Sl→Int→NP→WP) (K:Sl→WP):Prop :=
 Br (decide (k1<(r1.len:Int)))
  (∃a1:Addr,At r1 x1 5 a1 ∧
  ∃aC aD aE:Int,∃aF:ByteArray,∃aG:Bool,Row wl2 a1 [(vi aC),(vi aD),(vu aE),(vs aF),(vb aG)]∧¬ Hl2 a1.block ∧
  ∃a2:Addr,At r1 k1 5 a2 ∧
  ∃aH aI aA:Int,∃aB:ByteArray,∃aJ:Bool,Row wl2 a2 [(vi aH),(vi aI),(vu aA),(vs aB),(vb aJ)]∧¬ Hl2 a2.block ∧
  Br (((s_A aC aD aE aF aG aH aI aA aB aJ).2.2.1:Int) == 0)
   (∀(H3:NP) (w10:World),Hst w0 Hl2 wl2 H3 w10 →
   m_H_j3 p2 x1 out2 k1 aC aD aE aF aG aH aI aA aB aJ true w0 H3 w10 Kc2 K)
   (∀(H3:NP) (w10:World),Hst w0 Hl2 wl2 H3 w10 →
   ∃v3:Int,(Instr.lookup 70 (.map (some p2.block)) (.agg #[(vi (s_A aC aD aE aF aG aH aI aA aB aJ).1),(vu (s_A aC aD aE aF aG aH aI aA aB aJ).2.1),(vi (s_A aC aD aE aF aG aH aI aA aB aJ).2.2.1),(vi (s_A aC aD aE aF aG aH aI aA aB aJ).2.2.2.1),(vi (s_A aC aD aE aF aG aH aI aA aB aJ).2.2.2.2)]) false).run prog w10=.ok (vi v3) w10 ∧
   m_H_j3 p2 x1 out2 k1 aC aD aE aF aG aH aI aA aB aJ (decide (v3>0)) w0 H3 w10 Kc2 K))
  (Kc1 out2 (q6.wrap (x1+1)) Hl2 wl2)
def m_H_l1 (p2:Addr) (r1 out1:Sl) (x1:Int) (w0:World) (Hl1:NP) (wl1:World) (Kc1:Sl→Int→NP→WP) (K:Sl→WP):Prop :=
 Br (decide (x1<(r1.len:Int)))
  (∃(I2:Sl→Int→NP→WP) (mu2:Sl→Int→World→Nat),I2 out1 (q6.wrap (x1+1)) Hl1 wl1 ∧
   ∀(out2:Sl) (k1:Int) (Hl2:NP) (wl2:World),Hst w0 Hl2 wl2 Hl2 wl2→I2 out2 k1 Hl2 wl2→m_H_l2 p2 r1 x1 out2 k1 w0 Hl2 wl2 Kc1 (fun y'0 y'1 H' w'=>I2 y'0 y'1 H' w'∧mu2 y'0 y'1 w'<mu2 out2 k1 wl2) K)
  (K out1 wl1)
def m_H (p1:Option Addr) (shown1:Sl) (w0:World) (K:Sl→WP):Prop :=
 ∀(p2:Addr) (w1:World),New w0 (.map #[] 0) p2 w1 →
 Calls prog 26 #[(vp p1),shown1.v] w1 (fun e w2=>∃r1:Sl,e=.returned r1.v∧
  Kept None w1 w2 ∧
  ∃(I1:Sl→Int→NP→WP) (mu1:Sl→Int→World→Nat),I1 Sl.nil 0 None w2 ∧
   ∀(out1:Sl) (x1:Int) (Hl1:NP) (wl1:World),Hst w0 Hl1 wl1 Hl1 wl1→I1 out1 x1 Hl1 wl1→m_H_l1 p2 r1 out1 x1 w0 Hl1 wl1 (fun y'0 y'1 H' w'=>I1 y'0 y'1 H' w'∧mu1 y'0 y'1 w'<mu1 out1 x1 wl1) K)
theorem w_H (p1 : Option Addr) (shown1 : Sl) (w0 : World) (K : Sl → WP) (h : m_H p1 shown1 w0 K) :
  Calls prog 14 #[(vp p1),shown1.v] w0 (fun e w'=>∃r2:Sl,e=.returned r2.v∧K r2 w'):=by
 unfold m_H at h
 refine cw (args:=[(vp p1),shown1.v]) func14 ntmps14 ?_
 have hs:=Hst.start w0
 have hb:=HB.nil None w0
 refine eg (q0 Sl.nil.v (ln (eg (q0 Sl.nil.v (ln (eg ?_))))))
 refine st_new (O:=(.map #[] 0)) (fun p=>.map (some p.block)) (want0 rfl) (by kernel_rfl) ?_
 intro p2 w1 hn12
 have h:=h p2 w1 hn12
 have hs:=hs.again (Ext.new (F:=None) hn12).keptP
 have hb:=hb.kept (Ext.new (F:=None) hn12).keptP
 refine q0 (.map (some p2.block)) (ln (eg (q0 (vp p1) (q0 shown1.v ?_))))
 refine sc call26 (h.mono ?_)
 rintro e w2 ⟨r1,rfl,hk,h⟩
 refine ⟨_,rfl,?_⟩
 obtain ⟨hs,hb⟩:=hk.hh hs hb
 refine q0 r1.v (ln (wpE_seq (eg (q0 r1.v (q0 (vi (r1.len:Int)) (q0 (vi 0) (ln (wpE_block ?_))))))))
 obtain ⟨I1,mu1,h0,hr⟩:=h
 refine wpE_loop (σ:=Sl×Int×NP×World) (fun s ρ w=>w=s.2.2.2∧Has ρ [(5,s.1.v),(6,(.map (some p2.block))),(7,r1.v),(16,(vi (r1.len:Int))),(17,(vi s.2.1))]∧Hst w0 s.2.2.1 w s.2.2.1 w∧HB s.2.2.1 w []∧I1 s.1 s.2.1 s.2.2.1 s.2.2.2) (fun s=>mu1 s.1 s.2.1 s.2.2.2) (Sl.nil,0,None,w2) ⟨rfl,hm,hs,hb,h0⟩ ?_
 rintro ⟨out1,x1,Hl1,wl1⟩ ρ w ⟨hw,hH,hs,hb,hI⟩
 obtain rfl:wl1=w:=(show w=wl1 from hw).symm
 have hH:Has ρ [(5,out1.v),(6,(.map (some p2.block))),(7,r1.v),(16,(vi (r1.len:Int))),(17,(vi x1))]:=hH
 have hs:Hst w0 Hl1 wl1 Hl1 wl1:=hs
 have hb:HB Hl1 wl1 []:=hb
 have h:=hr out1 x1 Hl1 wl1 hs hI
 unfold m_H_l1 at h
 refine wpE_has hH ?_
 refine eg (q0 (vb (decide (x1<(r1.len:Int)))) (ln (wpE_seq ?_)))
 refine wpE_cond (t:=(decide (x1<(r1.len:Int)))) (by kernel_rfl) (fun hc1=>?_) (fun hc1=>?_)
 have h:=h.1 hc1
 refine wpE_skip (th_n (wpE_seq (wpE_block (eg (q0 (vi x1) (q0 (vi x1) (ln (wpE_scope rfl (fun _ _ _ h=>h) (wpE_seq ?_)))))))))
 refine wpE_label (th_n (eg (q0 (vi x1) (q0 (vi (q6.wrap (x1+1))) (q0 (vi (q6.wrap (x1+1))) (ln (wpE_block ?_)))))))
 obtain ⟨I2,mu2,h0,hr⟩:=h
 refine wpE_loop (σ:=Sl×Int×NP×World) (fun s ρ w=>w=s.2.2.2∧Has ρ [(5,s.1.v),(6,(.map (some p2.block))),(7,r1.v),(8,(vi x1)),(9,(vi s.2.1)),(16,(vi (r1.len:Int))),(17,(vi x1))]∧Hst w0 s.2.2.1 w s.2.2.1 w∧HB s.2.2.1 w []∧I2 s.1 s.2.1 s.2.2.1 s.2.2.2) (fun s=>mu2 s.1 s.2.1 s.2.2.2) (out1,(q6.wrap (x1+1)),Hl1,wl1) ⟨rfl,hm,hs,hb,h0⟩ ?_
 rintro ⟨out2,k1,Hl2,wl2⟩ ρ w ⟨hw,hH,hs,hb,hI⟩
 obtain rfl:wl2=w:=(show w=wl2 from hw).symm
 have hH:Has ρ [(5,out2.v),(6,(.map (some p2.block))),(7,r1.v),(8,(vi x1)),(9,(vi k1)),(16,(vi (r1.len:Int))),(17,(vi x1))]:=hH
 have hs:Hst w0 Hl2 wl2 Hl2 wl2:=hs
 have hb:HB Hl2 wl2 []:=hb
 have h:=hr out2 k1 Hl2 wl2 hs hI
 unfold m_H_l2 at h
 refine wpE_has hH ?_
 refine wpE_seq (eg (q0 (vi k1) (q0 r1.v (q0 (vi (r1.len:Int)) (q0 (vb (decide (k1<(r1.len:Int)))) (ln ?_))))))
 refine wpE_cond (t:=(decide (k1<(r1.len:Int)))) (by kernel_rfl) (fun hc2=>?_) (fun hc2=>?_)
 have h:=h.1 hc2
 refine wpE_skip (th_n (wpE_seq (wpE_block (wpE_seq (wpE_drawnC (fun x=>∃H',Hst w0 Hl2 wl2 H' x∧HB H' x []) [8,9,10] [8,10] (by kernel_rfl) (by kernel_rfl) (by kernel_rfl) (by kernel_rfl) ⟨_,hs.drew,hb.drew⟩ ?_)))))
 intro w3 hw3
 have hs:Hst w0 Hl2 wl2 Hl2 w3:=by rw [hw3];exact hs.drew
 have hb:HB Hl2 w3 []:=by rw [hw3];exact hb.drew
 refine qx 0 r1.v Kp0 (qx 1 (vi x1) Kp1 (qg 2 ?_))
 obtain ⟨a1,hv9,h⟩:=h
 refine sy (v:=(vp (some a1))) Kp2 (fun _ _=>(xi (runUnderlying64 _) (sizeOf42 _) hv9)) (qg 3 ?_)
 obtain ⟨aC,aD,aE,aF,aG,hv8,hnh,h⟩:=h
 refine sy (v:=(.agg #[(vi aC),(vi aD),(vu aE),(vs aF),(vb aG)])) Kp3 (fun w' hw'=>by obtain ⟨H',hs',hb'⟩:=hw';exact (xa a1 [(vi aC),(vi aD),(vu aE),(vs aF),(vb aG)] (isAgg42 _) (sizeOf42 _) (row_hst hv8 hnh hs'))) ?_
 refine qx 4 r1.v Kp4 (qx 5 (vi k1) Kp5 (qg 6 ?_))
 obtain ⟨a2,hv7,h⟩:=h
 refine sy (v:=(vp (some a2))) Kp6 (fun _ _=>(xi (runUnderlying64 _) (sizeOf42 _) hv7)) (qg 7 ?_)
 obtain ⟨aH,aI,aA,aB,aJ,hv6,hnh,h⟩:=h
 refine sy (v:=(.agg #[(vi aH),(vi aI),(vu aA),(vs aB),(vb aJ)])) Kp7 (fun w' hw'=>by obtain ⟨H',hs',hb'⟩:=hw';exact (xa a2 [(vi aH),(vi aI),(vu aA),(vs aB),(vb aJ)] (isAgg42 _) (sizeOf42 _) (row_hst hv6 hnh hs'))) ?_
 refine wpX_via (fun ρ wJ=>∃p5:Addr,∃HJ:NP,Hst w0 Hl2 wl2 HJ wJ∧HB HJ wJ [(p5,[(vi (s_A aC aD aE aF aG aH aI aA aB aJ).1),(vu (s_A aC aD aE aF aG aH aI aA aB aJ).2.1),(vi (s_A aC aD aE aF aG aH aI aA aB aJ).2.2.1),(vi (s_A aC aD aE aF aG aH aI aA aB aJ).2.2.2.1),(vi (s_A aC aD aE aF aG aH aI aA aB aJ).2.2.2.2)],24)]∧Has ρ [(5,out2.v),(6,(.map (some p2.block))),(7,r1.v),(8,(vi x1)),(9,(vi k1)),(10,(vp (some p5))),(16,(vi (r1.len:Int))),(17,(vi x1))]) ?_ ?_
 refine lgo2 (k:=8) (k':=9) (by kernel_rfl) ?_ ?_
 refine slc Kp8 call28 ((p_A aC aD aE aF aG aH aI aA aB aJ w3).mono ?_)
 rintro e w11 ⟨he,hE⟩
 have hs:=hs.pure hE
 have hb:=hb.pure hE
 refine ⟨(.agg #[(vi (s_A aC aD aE aF aG aH aI aA aB aJ).1),(vu (s_A aC aD aE aF aG aH aI aA aB aJ).2.1),(vi (s_A aC aD aE aF aG aH aI aA aB aJ).2.2.1),(vi (s_A aC aD aE aF aG aH aI aA aB aJ).2.2.2.1),(vi (s_A aC aD aE aF aG aH aI aA aB aJ).2.2.2.2)]),he.trans (by kernel_rfl),.inl (by kernel_rfl),?_⟩
 refine lg 9 (sl_new (O:=(.cells #[(vi 0),(vu 0),(vi 0),(vi 0),(vi 0)] 24)) (fun p=>.pointer (some p)) Kp9 (want0 rfl) (by kernel_rfl) (x_alloc (zeroValue24 _) rfl) ?_)
 intro p6 w12 hn5
 obtain ⟨H4,hs,hb⟩:=hs.alloc hb hn5
 refine ⟨.inr ⟨_,hs,hb.drop 1⟩,?_⟩
 refine lg 10 (sl_set (pickA (S8 (pickS (pickS pickZ)))) (want0 rfl) (by kernel_rfl) (xo p6 [(vi (s_A aC aD aE aF aG aH aI aA aB aJ).1),(vu (s_A aC aD aE aF aG aH aI aA aB aJ).2.1),(vi (s_A aC aD aE aF aG aH aI aA aB aJ).2.2.1),(vi (s_A aC aD aE aF aG aH aI aA aB aJ).2.2.2.1),(vi (s_A aC aD aE aF aG aH aI aA aB aJ).2.2.2.2)] (sizeOf24 _) (hb.k0 0 5 gZ)) ?_)
 intro w13 hn6
 obtain ⟨hs,hb⟩:=hb.s0 (l':=[(p6,[(vi (s_A aC aD aE aF aG aH aI aA aB aJ).1),(vu (s_A aC aD aE aF aG aH aI aA aB aJ).2.1),(vi (s_A aC aD aE aF aG aH aI aA aB aJ).2.2.1),(vi (s_A aC aD aE aF aG aH aI aA aB aJ).2.2.2.1),(vi (s_A aC aD aE aF aG aH aI aA aB aJ).2.2.2.2)],24)]) 0 [(vi (s_A aC aD aE aF aG aH aI aA aB aJ).1),(vu (s_A aC aD aE aF aG aH aI aA aB aJ).2.1),(vi (s_A aC aD aE aF aG aH aI aA aB aJ).2.2.1),(vi (s_A aC aD aE aF aG aH aI aA aB aJ).2.2.2.1),(vi (s_A aC aD aE aF aG aH aI aA aB aJ).2.2.2.2)] hs hn6 gZ
 refine ⟨.inl (by kernel_rfl),?_⟩
 refine wn ?_
 exact ⟨p6,_,hs,hb,hm⟩
 refine sl_new (O:=(.cells #[(vi 0),(vu 0),(vi 0),(vi 0),(vi 0)] 24)) (fun p=>.pointer (some p)) Kp9 (want0 rfl) (by kernel_rfl) (x_alloc (zeroValue24 _) rfl) ?_
 intro p7 w14 hn7
 obtain ⟨H5,hs,hb⟩:=hs.alloc hb hn7
 refine ⟨.inr ⟨_,hs,hb.drop 1⟩,?_⟩
 refine lg 8 ?_
 refine slc Kp8 call28 ((p_A aC aD aE aF aG aH aI aA aB aJ w14).mono ?_)
 rintro e w15 ⟨he,hE⟩
 have hs:=hs.pure hE
 have hb:=hb.pure hE
 refine ⟨(.agg #[(vi (s_A aC aD aE aF aG aH aI aA aB aJ).1),(vu (s_A aC aD aE aF aG aH aI aA aB aJ).2.1),(vi (s_A aC aD aE aF aG aH aI aA aB aJ).2.2.1),(vi (s_A aC aD aE aF aG aH aI aA aB aJ).2.2.2.1),(vi (s_A aC aD aE aF aG aH aI aA aB aJ).2.2.2.2)]),he.trans (by kernel_rfl),.inl (by kernel_rfl),?_⟩
 refine lg 10 (sl_set (pickA (S8 (pickS (pickS pickZ)))) (want0 rfl) (by kernel_rfl) (xo p7 [(vi (s_A aC aD aE aF aG aH aI aA aB aJ).1),(vu (s_A aC aD aE aF aG aH aI aA aB aJ).2.1),(vi (s_A aC aD aE aF aG aH aI aA aB aJ).2.2.1),(vi (s_A aC aD aE aF aG aH aI aA aB aJ).2.2.2.1),(vi (s_A aC aD aE aF aG aH aI aA aB aJ).2.2.2.2)] (sizeOf24 _) (hb.k0 0 5 gZ)) ?_)
 intro w16 hn8
 obtain ⟨hs,hb⟩:=hb.s0 (l':=[(p7,[(vi (s_A aC aD aE aF aG aH aI aA aB aJ).1),(vu (s_A aC aD aE aF aG aH aI aA aB aJ).2.1),(vi (s_A aC aD aE aF aG aH aI aA aB aJ).2.2.1),(vi (s_A aC aD aE aF aG aH aI aA aB aJ).2.2.2.1),(vi (s_A aC aD aE aF aG aH aI aA aB aJ).2.2.2.2)],24)]) 0 [(vi (s_A aC aD aE aF aG aH aI aA aB aJ).1),(vu (s_A aC aD aE aF aG aH aI aA aB aJ).2.1),(vi (s_A aC aD aE aF aG aH aI aA aB aJ).2.2.1),(vi (s_A aC aD aE aF aG aH aI aA aB aJ).2.2.2.1),(vi (s_A aC aD aE aF aG aH aI aA aB aJ).2.2.2.2)] hs hn8 gZ
 refine ⟨.inl (by kernel_rfl),?_⟩
 refine wn ?_
 exact ⟨p7,_,hs,hb,hm⟩
 rintro ρ w10 ⟨p5,H3,hs,hb,hH⟩
 refine q_has hH ?_
 refine th_n (wpE_seq (wpE_seq ?_))
 refine wpE_joinT (fun ρ w=>∃x2:Bool,∃H:NP,Has ρ [(5,out2.v),(6,(.map (some p2.block))),(7,r1.v),(8,(vi x1)),(9,(vi k1)),(10,(vp (some p5))),(16,(vi (r1.len:Int))),(17,(vi x1)),(45,(vb x2))]∧Hst w0 H w H w∧HB H w [(p5,[(vi (s_A aC aD aE aF aG aH aI aA aB aJ).1),(vu (s_A aC aD aE aF aG aH aI aA aB aJ).2.1),(vi (s_A aC aD aE aF aG aH aI aA aB aJ).2.2.1),(vi (s_A aC aD aE aF aG aH aI aA aB aJ).2.2.2.1),(vi (s_A aC aD aE aF aG aH aI aA aB aJ).2.2.2.2)],24)]∧m_H_j3 p2 x1 out2 k1 aC aD aE aF aG aH aI aA aB aJ x2 w0 H w (fun y'0 y'1 H' w'=>I2 y'0 y'1 H' w'∧mu2 y'0 y'1 w'<mu2 out2 k1 wl2) K) ?_ ?_
 rintro ρ w ⟨x2,H,hH,hs,hb,h⟩
 unfold m_H_j3 at h
 refine wpE_has hH ?_
 refine wpE_cond (t:=x2) (by kernel_rfl) (fun hc3=>?_) (fun hc3=>?_)
 have h:=h.1 hc3
 refine wpE_exit (th_x (bl_eq (th_n (rg (q0 (vi k1) (q0 (vi (q6.wrap (k1+1))) (q0 (vi (q6.wrap (k1+1))) (ln ?_))))))))
 exact ⟨(out2,(q6.wrap (k1+1)),H,w),⟨rfl,hm,hs,hb.drop 1,h.1⟩,h.2⟩
 have h:=h.2 hc3
 refine wpE_skip (th_n (wpE_seq ?_))
 obtain ⟨C2,hC,h⟩:=h
 refine wpE_drawnC (fun x=>C2 x∧HB H x [(p5,[(vi (s_A aC aD aE aF aG aH aI aA aB aJ).1),(vu (s_A aC aD aE aF aG aH aI aA aB aJ).2.1),(vi (s_A aC aD aE aF aG aH aI aA aB aJ).2.2.1),(vi (s_A aC aD aE aF aG aH aI aA aB aJ).2.2.2.1),(vi (s_A aC aD aE aF aG aH aI aA aB aJ).2.2.2.2)],24)]) [4,6] [6] (by kernel_rfl) (by kernel_rfl) (by kernel_rfl) (by kernel_rfl) ⟨hC,hb.drew⟩ ?_
 intro w17 hw17
 have h:=h w17 hw17
 have hs:Hst w0 H w H w17:=by rw [hw17];exact hs.drew
 have hb:HB H w17 [(p5,[(vi (s_A aC aD aE aF aG aH aI aA aB aJ).1),(vu (s_A aC aD aE aF aG aH aI aA aB aJ).2.1),(vi (s_A aC aD aE aF aG aH aI aA aB aJ).2.2.1),(vi (s_A aC aD aE aF aG aH aI aA aB aJ).2.2.2.1),(vi (s_A aC aD aE aF aG aH aI aA aB aJ).2.2.2.2)],24)]:=by rw [hw17];exact hb.drew
 have hs:=hs.here
 refine qx 0 (.map (some p2.block)) Kp0 (qz 1 (.agg #[(vi (s_A aC aD aE aF aG aH aI aA aB aJ).1),(vu (s_A aC aD aE aF aG aH aI aA aB aJ).2.1),(vi (s_A aC aD aE aF aG aH aI aA aB aJ).2.2.1),(vi (s_A aC aD aE aF aG aH aI aA aB aJ).2.2.2.1),(vi (s_A aC aD aE aF aG aH aI aA aB aJ).2.2.2.2)]) Kp1 (fun w' hw'=>(xa p5 [(vi (s_A aC aD aE aF aG aH aI aA aB aJ).1),(vu (s_A aC aD aE aF aG aH aI aA aB aJ).2.1),(vi (s_A aC aD aE aF aG aH aI aA aB aJ).2.2.1),(vi (s_A aC aD aE aF aG aH aI aA aB aJ).2.2.2.1),(vi (s_A aC aD aE aF aG aH aI aA aB aJ).2.2.2.2)] (isAgg24 _) (sizeOf24 _) (hw'.2.r0 0 5 gZ))) (qg 2 ?_))
 obtain ⟨v1,hv4,h⟩:=h
 refine sy (v:=(vi v1)) Kp2 (fun w' hw'=>(x_lookup (by kernel_rfl) (by kernel_rfl) (hv4 w' hw'.1))) (qx 3 (vi (q6.wrap (v1+1))) Kp3 (lg 4 ?_))
 obtain ⟨v2,z1,w18,hv3,hC,hk,h⟩:=h
 refine sl (v:=(.tuple #[(vi v2),(vi z1)])) Kp4 (want0 rfl) (by kernel_rfl) (x_mapEntry (by kernel_rfl) (by kernel_rfl) hv3) (.inr ⟨hC,hb.kept hk⟩) ?_
 obtain ⟨hs,hb⟩:=hk.hh hs hb
 refine qx 5 (vi z1) Kp5 (lg 6 ?_)
 obtain ⟨w19,hv2,hk,h⟩:=h
 refine sl_skip Kp6 (want0 rfl) (by kernel_rfl) (x_entryStore (by kernel_rfl) (by kernel_rfl) (by kernel_rfl) hv2) (.inl (by kernel_rfl)) ?_
 obtain ⟨hs,hb⟩:=hk.hh hs hb
 refine wn (th_n (eg (q0 (vi x1) (q0 (vi k1) (q0 (vp (some (p5.add 3))) (st_set (want0 rfl) (x_store (a:=(p5.add 3)) (v:=(vi x1)) (by kernel_rfl) (by kernel_rfl) rfl (sizeOf3 _) (hb.canW 0 3 gZ (by kernel_rfl))) ?_))))))
 intro w20 hn9
 have hsb:Hst w0 H w19 H w20∧HB H w20 [(p5,[(vi (s_A aC aD aE aF aG aH aI aA aB aJ).1),(vu (s_A aC aD aE aF aG aH aI aA aB aJ).2.1),(vi (s_A aC aD aE aF aG aH aI aA aB aJ).2.2.1),(vi x1),(vi (s_A aC aD aE aF aG aH aI aA aB aJ).2.2.2.2)],24)]:=by
  rw [hn9]
  exact hb.set (i:=0) 3 (v:=(vi x1)) hs gZ (by kernel_rfl)
 obtain ⟨hs,hb⟩:=hsb
 refine q0 (vp (some (p5.add 4))) (st_set (want0 rfl) (x_store (a:=(p5.add 4)) (v:=(vi k1)) (by kernel_rfl) (by kernel_rfl) rfl (sizeOf3 _) (hb.canW 0 4 gZ (by kernel_rfl))) ?_)
 intro w21 hn10
 have hsb:Hst w0 H w19 H w21∧HB H w21 [(p5,[(vi (s_A aC aD aE aF aG aH aI aA aB aJ).1),(vu (s_A aC aD aE aF aG aH aI aA aB aJ).2.1),(vi (s_A aC aD aE aF aG aH aI aA aB aJ).2.2.1),(vi x1),(vi k1)],24)]:=by
  rw [hn10]
  exact hb.set (i:=0) 4 (v:=(vi k1)) hs gZ (by kernel_rfl)
 obtain ⟨hs,hb⟩:=hsb
 refine ln (rg (q0 out2.v (q2 (.agg #[(vi (s_A aC aD aE aF aG aH aI aA aB aJ).1),(vu (s_A aC aD aE aF aG aH aI aA aB aJ).2.1),(vi (s_A aC aD aE aF aG aH aI aA aB aJ).2.2.1),(vi x1),(vi k1)]) (xa p5 [(vi (s_A aC aD aE aF aG aH aI aA aB aJ).1),(vu (s_A aC aD aE aF aG aH aI aA aB aJ).2.1),(vi (s_A aC aD aE aF aG aH aI aA aB aJ).2.2.1),(vi x1),(vi k1)] (isAgg24 _) (sizeOf24 _) (hb.r0 0 5 gZ)) ?_)))
 have h:=h w21 hs
 have hs:=hs.here
 refine st_new (O:=(.cells #[(vi (s_A aC aD aE aF aG aH aI aA aB aJ).1),(vu (s_A aC aD aE aF aG aH aI aA aB aJ).2.1),(vi (s_A aC aD aE aF aG aH aI aA aB aJ).2.2.1),(vi x1),(vi k1)] 24)) (fun p=>(Sl.mk (some p) 1 1).v) (want0 rfl) (x_buildSlice (vs:=#[(0,(.agg #[(vi (s_A aC aD aE aF aG aH aI aA aB aJ).1),(vu (s_A aC aD aE aF aG aH aI aA aB aJ).2.1),(vi (s_A aC aD aE aF aG aH aI aA aB aJ).2.2.1),(vi x1),(vi k1)]))]) (by kernel_rfl) (by kernel_rfl)) ?_
 intro p8 w22 hn11
 have h:=h p8 w22 hn11
 have hs:=hs.again (Ext.new (F:=None) hn11).keptP
 have hb:=hb.kept (Ext.new (F:=None) hn11).keptP
 obtain ⟨s1,w23,hv1,hk,h⟩:=h
 refine st (v:=s1.v) (want0 rfl) (x_builtin (args:=#[out2.v,(Sl.mk (some p8) 1 1).v]) (by kernel_rfl) (fun _=>rfl) hv1) ?_
 obtain ⟨hs,hb⟩:=hk.hh hs hb
 refine q0 s1.v (wpL_nil (bl_n (th_n (rg (q0 (vi k1) (q0 (vi (q6.wrap (k1+1))) (q0 (vi (q6.wrap (k1+1))) (ln ?_))))))))
 exact ⟨(s1,(q6.wrap (k1+1)),H,w23),⟨rfl,hm,hs,hb.drop 1,h.1⟩,h.2⟩
 refine rg (q0 (vp (some (p5.add 2))) (q2 (vi (s_A aC aD aE aF aG aH aI aA aB aJ).2.2.1) (xl (isAgg3 _) (hb.c 0 2 gZ)) (q0 (vb (((s_A aC aD aE aF aG aH aI aA aB aJ).2.2.1:Int) == 0)) (q0 (vb (((s_A aC aD aE aF aG aH aI aA aB aJ).2.2.1:Int) == 0)) ?_))))
 rcases bte (((s_A aC aD aE aF aG aH aI aA aB aJ).2.2.1:Int) == 0) with hg1 | hg1
 have h:=h.1 hg1
 refine sk (yD 40 hg1) (sk (yD 40 hg1) (sk (yD 40 hg1) (sk (yD 40 hg1) (q2 (vb true) (xT hg1) (wpL_nil ?_)))))
 have h:=h H3 w10 hs
 have hs:=hs.here
 refine th_n ?_
 exact ⟨true,H3,hm,hs,hb,h⟩
 have h:=h.2 hg1
 refine q1 (.map (some p2.block)) (wy 40 hg1) (stp (v:=(.agg #[(vi (s_A aC aD aE aF aG aH aI aA aB aJ).1),(vu (s_A aC aD aE aF aG aH aI aA aB aJ).2.1),(vi (s_A aC aD aE aF aG aH aI aA aB aJ).2.2.1),(vi (s_A aC aD aE aF aG aH aI aA aB aJ).2.2.2.1),(vi (s_A aC aD aE aF aG aH aI aA aB aJ).2.2.2.2)])) (wy 40 hg1) (xa p5 [(vi (s_A aC aD aE aF aG aH aI aA aB aJ).1),(vu (s_A aC aD aE aF aG aH aI aA aB aJ).2.1),(vi (s_A aC aD aE aF aG aH aI aA aB aJ).2.2.1),(vi (s_A aC aD aE aF aG aH aI aA aB aJ).2.2.2.1),(vi (s_A aC aD aE aF aG aH aI aA aB aJ).2.2.2.2)] (isAgg24 _) (sizeOf24 _) (hb.r0 0 5 gZ)) ?_)
 have h:=h H3 w10 hs
 have hs:=hs.here
 obtain ⟨v3,hv5,h⟩:=h
 refine stp (v:=(vi v3)) (wy 40 hg1) (x_lookup (by kernel_rfl) (by kernel_rfl) hv5) (q1 (vb (decide (v3>0))) (wy 40 hg1) (q2 (vb (decide (v3>0))) (xF hg1) (ln ?_)))
 exact ⟨(decide (v3>0)),H3,hm,hs,hb,h⟩
 have h:=h.2 hc2
 refine wpE_exit (th_x (th_x (bl_eq (bl_n (th_n (rg (q0 (vi (q6.wrap (x1+1))) (q0 (vi (q6.wrap (x1+1))) (ln ?_)))))))))
 exact ⟨(out2,(q6.wrap (x1+1)),Hl2,wl2),⟨rfl,hm,hs,hb,h.1⟩,h.2⟩
 have h:=h.2 hc1
 refine wpE_exit (th_x (th_x (bl_eq (th_n (eg (q0 out1.v (q0 out1.v (ln (er ?_)))))))))
 refine rs1 results14 (v:=out1.v) ?_
 exact ⟨out1,rfl,h⟩
end Go.Proofs
end
section
open Go Go.SE
namespace Go.Proofs
open Tryd
set_option maxRecDepth 100000
set_option maxHeartbeats 4000000
attribute [local irreducible] wpL wpX opE wpE Calls
theorem eqt_law13_live_eql_44 (a0:Bool) (a1 a2:Int) (b0:Bool) (b1 b2:Int) (w:World):(Go.binOp .eql 44 (.agg #[(.bool a0),(.int .i64 a1),(.int .i64 a2)]) (.agg #[(.bool b0),(.int .i64 b1),(.int .i64 b2)])).run prog w=.ok (.bool ((a0 == b0) && ((a1 == b1) && (a2 == b2)))) w:=by
 simp [Go.binOp,Op.equal,Op.maxDepth,go_sem,streq,bne]
 repeat' split
 all_goals simp_all
theorem eqt_law13_live_eql_24 (a0 a1:Int) (a2 a3:Int) (a4 b0:Int) (b1 b2:Int) (b3 b4:Int) (w:World):(Go.binOp .eql 24 (.agg #[(.int .i64 a0),(.int .u64 a1),(.int .i64 a2),(.int .i64 a3),(.int .i64 a4)]) (.agg #[(.int .i64 b0),(.int .u64 b1),(.int .i64 b2),(.int .i64 b3),(.int .i64 b4)])).run prog w=.ok (.bool ((a0 == b0) && ((a1 == b1) && ((a2 == b2) && ((a3 == b3) && (a4 == b4)))))) w:=by
 simp [Go.binOp,Op.equal,Op.maxDepth,go_sem,streq,bne]
 repeat' split
 all_goals simp_all
def m_O1  (w0:World) (K:Bool→WP):Prop :=
 Calls prog 10 #[] w0 (fun e w1=>∃r1:Option Addr,e=.returned (vp r1)∧
  Kept None w0 w1 ∧
  Br (Option.isNone r1)
   (K false w1)
   (Calls prog 12 #[(.agg #[(vi 2),(vi 1),(vu 7),(vs (⟨#[116]⟩:ByteArray)),(vb false)]),(vb false),(vb false)] w1 (fun e w2=>∃aQ aR:Int,∃aS aT:Int,∃aU:ByteArray,∃aV:Sl,e=.returned (.agg #[(vi aQ),(vi aR),(vi aS),(vu aT),(vs aU),aV.v])∧
    Kept None w1 w2 ∧
    Calls prog 11 #[(vp r1),(.agg #[(vi aQ),(vi aR),(vi aS),(vu aT),(vs aU),aV.v])] w2 (fun e w3=>∃r2 r3:Int,e=.returned (.tuple #[(vi r2),(vi r3)])∧
     Kept None w2 w3 ∧
     Calls prog 12 #[(.agg #[(vi 1),(vi 1),(vu 7),(vs (⟨#[116]⟩:ByteArray)),(vb false)]),(vb false),(vb false)] w3 (fun e w4=>∃aW aX:Int,∃aY aZ:Int,∃bA:ByteArray,∃bB:Sl,e=.returned (.agg #[(vi aW),(vi aX),(vi aY),(vu aZ),(vs bA),bB.v])∧
      Kept None w3 w4 ∧
      Calls prog 11 #[(vp r1),(.agg #[(vi aW),(vi aX),(vi aY),(vu aZ),(vs bA),bB.v])] w4 (fun e w5=>∃r4 r5:Int,e=.returned (.tuple #[(vi r4),(vi r5)])∧
       Kept None w4 w5 ∧
       Calls prog 12 #[(.agg #[(vi 2),(vi 1),(vu 7),(vs (⟨#[117]⟩:ByteArray)),(vb false)]),(vb false),(vb false)] w5 (fun e w6=>∃bC bD:Int,∃bE bF:Int,∃bG:ByteArray,∃bH:Sl,e=.returned (.agg #[(vi bC),(vi bD),(vi bE),(vu bF),(vs bG),bH.v])∧
        Kept None w5 w6 ∧
        Calls prog 11 #[(vp r1),(.agg #[(vi bC),(vi bD),(vi bE),(vu bF),(vs bG),bH.v])] w6 (fun e w7=>∃r6 r7:Int,e=.returned (.tuple #[(vi r6),(vi r7)])∧
         Kept None w6 w7 ∧
         Br (((r3 != 0) || (r5 != 0)) || (r7 != 0))
          (∀(H2:NP) (w9:World),Hst w0 None w7 H2 w9 →
          K false w9)
          (∀(H2:NP) (w9:World),Hst w0 None w7 H2 w9 →
          ∀(p1:Addr) (w11:World),New w9 (.cells #[(vi r4),(vi r2)] 33) p1 w11 →
          Calls prog 13 #[(vp r1),(Sl.mk (some p1) 2 2).v,(.agg #[(vi 1),(vu 7),(vs (⟨#[116]⟩:ByteArray))])] w11 (fun e w12=>∃aA:Bool,∃aB aC:Int,e=.returned (.agg #[(vb aA),(vi aB),(vi aC)])∧
           Kept H2 w11 w12 ∧
           ∀(H4:NP) (w14:World),Hst w0 H2 w12 H4 w14 →
           ∀(p3:Addr) (w15:World),New w14 (.cells #[(vi r4)] 33) p3 w15 →
           Calls prog 13 #[(vp r1),(Sl.mk (some p3) 1 1).v,(.agg #[(vi 1),(vu 7),(vs (⟨#[116]⟩:ByteArray))])] w15 (fun e w16=>∃aD:Bool,∃aE aF:Int,e=.returned (.agg #[(vb aD),(vi aE),(vi aF)])∧
            Kept H4 w15 w16 ∧
            ∀(H5:NP) (w18:World),Hst w0 H4 w16 H5 w18 →
            ∀(p5:Addr) (w19:World),New w18 (.cells #[(vi r2),(vi r4),(vi r6)] 33) p5 w19 →
            Calls prog 14 #[(vp r1),(Sl.mk (some p5) 3 3).v] w19 (fun e w20=>∃r8:Sl,e=.returned r8.v∧
             Kept H5 w19 w20 ∧
             ∀y1:Bool,y1=(((aA == true) && ((aB == 1) && (aC == 1))) && ((aD == false) && ((aE == 0) && (aF == (-1))))) →
             Br (y1 && (((r8.len:Int):Int) == 1))
              (∃a1:Addr,At r8 0 5 a1 ∧
              ∀(H7:NP) (w22:World),Hst w0 H5 w20 H7 w22 →
              ∃aL aM:Int,∃aN aO aP:Int,Row w22 a1 [(vi aL),(vu aM),(vi aN),(vi aO),(vi aP)] ∧
              K ((aL == 1) && ((aM == 7) && ((aN == 1) && ((aO == 0) && (aP == 2))))) w22)
              (∀(H7:NP) (w22:World),Hst w0 H5 w20 H7 w22 →
              K false w22)))))))))))))
theorem w_O1  (w0 : World) (K : Bool → WP) (h : m_O1  w0 K) :
  Calls prog 6 #[] w0 (fun e w'=>∃r9:Bool,e=.returned (vb r9)∧K r9 w'):=by
 unfold m_O1 at h
 refine cw (args:=[]) func6 ntmps6 ?_
 have hs:=Hst.start w0
 have hb:=HB.nil None w0
 refine eg (q0 (vb false) (ln (eg ?_)))
 refine sc call10 (h.mono ?_)
 rintro e w1 ⟨r1,rfl,hk,h⟩
 refine ⟨_,rfl,?_⟩
 obtain ⟨hs,hb⟩:=hk.hh hs hb
 refine q0 (vp r1) (ln (wpE_seq (eg (q0 (vp r1) (q2 (vb (Option.isNone r1)) (x_ptreq (by kernel_rfl) rfl underlying31) (ln ?_))))))
 refine wpE_cond (t:=(Option.isNone r1)) (by kernel_rfl) (fun hc1=>?_) (fun hc1=>?_)
 have h:=h.1 hc1
 refine eg (q0 (vb false) (ln (er (th_r (rs1 results6 (v:=(vb false)) ?_)))))
 exact ⟨false,rfl,h⟩
 have h:=h.2 hc1
 refine wpE_skip (th_n (eg (q0 (vp r1) (q0 (.agg #[(vi 2),(vi 1),(vu 7),(vs (⟨#[116]⟩:ByteArray)),(vb false)]) ?_))))
 refine sc call12 (h.mono ?_)
 rintro e w2 ⟨aQ,aR,aS,aT,aU,aV,rfl,hk,h⟩
 refine ⟨_,rfl,?_⟩
 obtain ⟨hs,hb⟩:=hk.hh hs hb
 refine sc call11 (h.mono ?_)
 rintro e w3 ⟨r2,r3,rfl,hk,h⟩
 refine ⟨_,rfl,?_⟩
 obtain ⟨hs,hb⟩:=hk.hh hs hb
 refine q0 (.tuple #[(vi r2),(vi r3)]) (q0 (vi r2) (q0 (vi r3) (q0 (vi r2) (q0 (vi r3) (ln (eg (q0 (vp r1) (q0 (.agg #[(vi 1),(vi 1),(vu 7),(vs (⟨#[116]⟩:ByteArray)),(vb false)]) ?_))))))))
 refine sc call12 (h.mono ?_)
 rintro e w4 ⟨aW,aX,aY,aZ,bA,bB,rfl,hk,h⟩
 refine ⟨_,rfl,?_⟩
 obtain ⟨hs,hb⟩:=hk.hh hs hb
 refine sc call11 (h.mono ?_)
 rintro e w5 ⟨r4,r5,rfl,hk,h⟩
 refine ⟨_,rfl,?_⟩
 obtain ⟨hs,hb⟩:=hk.hh hs hb
 refine q0 (.tuple #[(vi r4),(vi r5)]) (q0 (vi r4) (q0 (vi r5) (q0 (vi r4) (q0 (vi r5) (ln (eg (q0 (vp r1) (q0 (.agg #[(vi 2),(vi 1),(vu 7),(vs (⟨#[117]⟩:ByteArray)),(vb false)]) ?_))))))))
 refine sc call12 (h.mono ?_)
 rintro e w6 ⟨bC,bD,bE,bF,bG,bH,rfl,hk,h⟩
 refine ⟨_,rfl,?_⟩
 obtain ⟨hs,hb⟩:=hk.hh hs hb
 refine sc call11 (h.mono ?_)
 rintro e w7 ⟨r6,r7,rfl,hk,h⟩
 refine ⟨_,rfl,?_⟩
 obtain ⟨hs,hb⟩:=hk.hh hs hb
 refine q0 (.tuple #[(vi r6),(vi r7)]) (q0 (vi r6) (q0 (vi r7) (q0 (vi r6) (q0 (vi r7) (ln (wpE_seq (wpE_seq ?_)))))))
 refine wpE_via (fun ρ wJ=>∃b2'0:Bool,∃HJ:NP,(((r3 != 0) || (r5 != 0))=b2'0)∧Hst w0 None w7 HJ wJ∧HB HJ wJ []∧Has ρ [(1,(vp r1)),(2,(vi r2)),(4,(vi r4)),(6,(vi r6)),(44,(vb (b2'0 || (r7 != 0))))]) ?_ ?_
 refine rg (q0 (vi r3) (q0 (vb (r3 != 0)) (q0 (vb (r3 != 0)) ?_)))
 refine wpL_join 3 (fun ρ wJ=>∃b3'0:Bool,∃HJ:NP,((r3 != 0)=b3'0)∧Hst w0 None w7 HJ wJ∧HB HJ wJ []∧Has ρ [(1,(vp r1)),(2,(vi r2)),(4,(vi r4)),(6,(vi r6)),(7,(vi r7)),(40,(vb (b3'0 || (r5 != 0))))]) ?_ ?_
 rintro ρ w10 ⟨b3'0,H3,he0,hs,hb,hH⟩
 subst he0
 refine wpL_has hH ?_
 refine q0 (vb ((r3 != 0) || (r5 != 0))) ?_
 rcases bte ((r3 != 0) || (r5 != 0)) with hg6 | hg6
 refine sk (yD 41 hg6) (sk (yD 41 hg6) (q2 (vb true) (xT hg6) (ln ?_)))
 exact ⟨true,_,hg6,hs,hb,hm⟩
 refine q1 (vi r7) (wy 41 hg6) (q1 (vb (r7 != 0)) (wy 41 hg6) (q2 (vb (r7 != 0)) (xF hg6) (ln ?_)))
 exact ⟨false,_,hg6,hs,hb,hm⟩
 rcases bte (r3 != 0) with hg5 | hg5
 refine sk (yD 37 hg5) (sk (yD 37 hg5) (q2 (vb true) (xT hg5) (wpL_nil ?_)))
 exact ⟨true,_,hg5,hs,hb,hm⟩
 refine q1 (vi r5) (wy 37 hg5) (q1 (vb (r5 != 0)) (wy 37 hg5) (q2 (vb (r5 != 0)) (xF hg5) (wpL_nil ?_)))
 exact ⟨false,_,hg5,hs,hb,hm⟩
 rintro ρ w9 ⟨b2'0,H2,he0,hs,hb,hH⟩
 subst he0
 refine norm_has hH ?_
 refine th_n ?_
 refine wpE_cond (t:=(((r3 != 0) || (r5 != 0)) || (r7 != 0))) (by kernel_rfl) (fun hc2=>?_) (fun hc2=>?_)
 have h:=h.1 hc2
 refine eg (q0 (vb false) (ln (er (th_r ?_))))
 have h:=h H2 w9 hs
 have hs:=hs.here
 refine rs1 results6 (v:=(vb false)) ?_
 exact ⟨false,rfl,h⟩
 have h:=h.2 hc2
 refine wpE_skip (th_n (eg (q0 (vp r1) (q0 (vi r4) (q0 (vi r2) ?_)))))
 have h:=h H2 w9 hs
 have hs:=hs.here
 refine st_new (O:=(.cells #[(vi r4),(vi r2)] 33)) (fun p=>(Sl.mk (some p) 2 2).v) (want0 rfl) (x_buildSlice (vs:=#[(0,(vi r4)),(1,(vi r2))]) (by kernel_rfl) (by kernel_rfl)) ?_
 intro p1 w11 hn7
 have h:=h p1 w11 hn7
 have hs:=hs.again (Ext.new (F:=None) hn7).keptP
 have hb:=hb.kept (Ext.new (F:=None) hn7).keptP
 refine q0 (.agg #[(vi 1),(vu 7),(vs (⟨#[116]⟩:ByteArray))]) ?_
 refine sc call13 (h.mono ?_)
 rintro e w12 ⟨aA,aB,aC,rfl,hk,h⟩
 refine ⟨_,rfl,?_⟩
 obtain ⟨hs,hb⟩:=hk.hh hs hb
 refine sn (O:=(.cells #[(vb false),(vi 0),(vi 0)] 44)) (x_alloc (zeroValue44 _) rfl) ?_
 intro p2 w13 hn1
 obtain ⟨H4,hs,hb⟩:=hs.alloc hb hn1
 refine ss (xo p2 [(vb aA),(vi aB),(vi aC)] (sizeOf44 _) (hb.k0 0 3 gZ)) ?_
 intro w14 hn2
 obtain ⟨hs,hb⟩:=hb.s0 (l':=[(p2,[(vb aA),(vi aB),(vi aC)],44)]) 0 [(vb aA),(vi aB),(vi aC)] hs hn2 gZ
 refine ln (eg (q0 (vp r1) (q0 (vi r4) ?_)))
 have h:=h H4 w14 hs
 have hs:=hs.here
 refine st_new (O:=(.cells #[(vi r4)] 33)) (fun p=>(Sl.mk (some p) 1 1).v) (want0 rfl) (x_buildSlice (vs:=#[(0,(vi r4))]) (by kernel_rfl) (by kernel_rfl)) ?_
 intro p3 w15 hn6
 have h:=h p3 w15 hn6
 have hs:=hs.again (Ext.new (F:=None) hn6).keptP
 have hb:=hb.kept (Ext.new (F:=None) hn6).keptP
 refine q0 (.agg #[(vi 1),(vu 7),(vs (⟨#[116]⟩:ByteArray))]) ?_
 refine sc call13 (h.mono ?_)
 rintro e w16 ⟨aD,aE,aF,rfl,hk,h⟩
 refine ⟨_,rfl,?_⟩
 obtain ⟨hs,hb⟩:=hk.hh hs hb
 refine sn (O:=(.cells #[(vb false),(vi 0),(vi 0)] 44)) (x_alloc (zeroValue44 _) rfl) ?_
 intro p4 w17 hn3
 obtain ⟨H5,hs,hb⟩:=hs.alloc hb hn3
 refine ss (xo p4 [(vb aD),(vi aE),(vi aF)] (sizeOf44 _) (hb.k0 0 3 gZ)) ?_
 intro w18 hn4
 obtain ⟨hs,hb⟩:=hb.s0 (l':=[(p4,[(vb aD),(vi aE),(vi aF)],44),(p2,[(vb aA),(vi aB),(vi aC)],44)]) 0 [(vb aD),(vi aE),(vi aF)] hs hn4 gZ
 refine ln (eg (q0 (vp r1) (q0 (vi r2) (q0 (vi r4) (q0 (vi r6) ?_)))))
 have h:=h H5 w18 hs
 have hs:=hs.here
 refine st_new (O:=(.cells #[(vi r2),(vi r4),(vi r6)] 33)) (fun p=>(Sl.mk (some p) 3 3).v) (want0 rfl) (x_buildSlice (vs:=#[(0,(vi r2)),(1,(vi r4)),(2,(vi r6))]) (by kernel_rfl) (by kernel_rfl)) ?_
 intro p5 w19 hn5
 have h:=h p5 w19 hn5
 have hs:=hs.again (Ext.new (F:=None) hn5).keptP
 have hb:=hb.kept (Ext.new (F:=None) hn5).keptP
 refine sc call14 (h.mono ?_)
 rintro e w20 ⟨r8,rfl,hk,h⟩
 refine ⟨_,rfl,?_⟩
 obtain ⟨hs,hb⟩:=hk.hh hs hb
 refine q0 r8.v (ln (eg (q2 (.agg #[(vb aA),(vi aB),(vi aC)]) (xa p2 [(vb aA),(vi aB),(vi aC)] (isAgg44 _) (sizeOf44 _) (hb.r0 1 3 (gS gZ))) (q0 (.agg #[(vb true),(vi 1),(vi 1)]) (q2 (vb ((aA == true) && ((aB == 1) && (aC == 1)))) (x_aggeq (by kernel_rfl) (by kernel_rfl) (by kernel_rfl) (eqt_law13_live_eql_44 aA aB aC true 1 1 _)) (q0 (vb ((aA == true) && ((aB == 1) && (aC == 1)))) ?_))))))
 refine wpL_join 4 (fun ρ wJ=>∃b4'0 y1:Bool,∃HJ:NP,(((aA == true) && ((aB == 1) && (aC == 1)))=b4'0)∧(y1=(b4'0 && ((aD == false) && ((aE == 0) && (aF == (-1))))))∧Hst w0 H5 w20 HJ wJ∧HB HJ wJ [(p4,[(vb aD),(vi aE),(vi aF)],44),(p2,[(vb aA),(vi aB),(vi aC)],44)]∧Has ρ [(10,r8.v),(69,(vb y1))]) ?_ ?_
 rintro ρ w21 ⟨b4'0,y1,H6,he0,hy1,hs,hb,hH⟩
 subst he0
 have h:=h y1 hy1
 refine wpL_has hH ?_
 refine q0 (vb y1) ?_
 refine wpL_join 4 (fun ρ wJ=>∃b5'0:Bool,∃HJ:NP,(y1=b5'0)∧Hst w0 H5 w20 HJ wJ∧HB HJ wJ [(p4,[(vb aD),(vi aE),(vi aF)],44),(p2,[(vb aA),(vi aB),(vi aC)],44)]∧Has ρ [(10,r8.v),(74,(vb (b5'0 && (((r8.len:Int):Int) == 1))))]) ?_ ?_
 rintro ρ w22 ⟨b5'0,H7,he0,hs,hb,hH⟩
 subst he0
 refine wpL_has hH ?_
 refine q0 (vb (y1 && (((r8.len:Int):Int) == 1))) ?_
 rcases bte (y1 && (((r8.len:Int):Int) == 1)) with hg11 | hg11
 have h:=h.1 hg11
 refine q1 r8.v (wy 75 hg11) ?_
 obtain ⟨a1,hv2,h⟩:=h
 refine stp (v:=(vp (some a1))) (wy 75 hg11) (xi (runUnderlying49 _) (sizeOf24 _) hv2) ?_
 have h:=h H7 w22 hs
 have hs:=hs.here
 obtain ⟨aL,aM,aN,aO,aP,hv1,h⟩:=h
 refine stp (v:=(.agg #[(vi aL),(vu aM),(vi aN),(vi aO),(vi aP)])) (wy 75 hg11) (xa a1 [(vi aL),(vu aM),(vi aN),(vi aO),(vi aP)] (isAgg24 _) (sizeOf24 _) hv1) (q1 (.agg #[(vi 1),(vu 7),(vi 1),(vi 0),(vi 2)]) (wy 75 hg11) (stp (v:=(vb ((aL == 1) && ((aM == 7) && ((aN == 1) && ((aO == 0) && (aP == 2))))))) (wy 75 hg11) (x_aggeq (by kernel_rfl) (by kernel_rfl) (by kernel_rfl) (eqt_law13_live_eql_24 aL aM aN aO aP 1 7 1 0 2 _)) (q2 (vb ((aL == 1) && ((aM == 7) && ((aN == 1) && ((aO == 0) && (aP == 2)))))) (xT hg11) (q0 (vb ((aL == 1) && ((aM == 7) && ((aN == 1) && ((aO == 0) && (aP == 2)))))) (ln (er (rs1 results6 (v:=(vb ((aL == 1) && ((aM == 7) && ((aN == 1) && ((aO == 0) && (aP == 2))))))) ?_)))))))
 exact ⟨((aL == 1) && ((aM == 7) && ((aN == 1) && ((aO == 0) && (aP == 2))))),rfl,h⟩
 have h:=h.2 hg11
 refine sk (yD 75 hg11) (sk (yD 75 hg11) (sk (yD 75 hg11) (sk (yD 75 hg11) (sk (yD 75 hg11) (q2 (vb false) (xF hg11) (q0 (vb false) (ln (er ?_))))))))
 have h:=h H7 w22 hs
 have hs:=hs.here
 refine rs1 results6 (v:=(vb false)) ?_
 exact ⟨false,rfl,h⟩
 rcases bte y1 with hg10 | hg10
 refine q1 r8.v (wy 70 hg10) (q1 (vi (r8.len:Int)) (wy 70 hg10) (q1 (vb (((r8.len:Int):Int) == 1)) (wy 70 hg10) (q2 (vb (((r8.len:Int):Int) == 1)) (xT hg10) (wpL_nil ?_))))
 exact ⟨true,_,hg10,hs,hb,hm⟩
 refine sk (yD 70 hg10) (sk (yD 70 hg10) (sk (yD 70 hg10) (q2 (vb false) (xF hg10) (wpL_nil ?_))))
 exact ⟨false,_,hg10,hs,hb,hm⟩
 rcases bte ((aA == true) && ((aB == 1) && (aC == 1))) with hg8 | hg8
 refine stp (v:=(.agg #[(vb aD),(vi aE),(vi aF)])) (wy 65 hg8) (xa p4 [(vb aD),(vi aE),(vi aF)] (isAgg44 _) (sizeOf44 _) (hb.r0 0 3 gZ)) (q1 (.agg #[(vb false),(vi 0),(vi (-1))]) (wy 65 hg8) (stp (v:=(vb ((aD == false) && ((aE == 0) && (aF == (-1)))))) (wy 65 hg8) (x_aggeq (by kernel_rfl) (by kernel_rfl) (by kernel_rfl) (eqt_law13_live_eql_44 aD aE aF false 0 (-1) _)) (q2 (vb ((aD == false) && ((aE == 0) && (aF == (-1))))) (xT hg8) (wpL_nil ?_))))
 exact ⟨true,_,_,hg8,rfl,hs,hb,hm⟩
 refine sk (yD 65 hg8) (sk (yD 65 hg8) (sk (yD 65 hg8) (q2 (vb false) (xF hg8) (wpL_nil ?_))))
 exact ⟨false,_,_,hg8,rfl,hs,hb,hm⟩
def m_P1 (aG aH:Int) (aI aJ aK:Int) (w0:World) (K:Bool→WP):Prop :=
 ∀(H1:NP) (w1:World),Hst w0 None w0 H1 w1 →
 ∃C1:WP,C1 w1.drew∧∀w2,w2=w1.drew →
 Calls prog 4 #[(.agg #[(vi aG),(vu aH),(vi aI),(vi aJ),(vi aK)])] w2 (fun e w3=>∃r1:ByteArray,e=.returned (vs r1)∧C1 w3∧
  Kept H1 w2 w3 ∧
  Calls prog 5 #[(.agg #[(vi aG),(vu aH),(vi aI),(vi aJ),(vi aK)])] w3 (fun e w4=>∃r2:ByteArray,e=.returned (vs r2)∧C1 w4∧
   Kept H1 w3 w4 ∧
   Br (decide (r1=r2))
    (Calls prog 6 #[] w4 (fun e w5=>∃r3:Bool,e=.returned (vb r3)∧C1 w5∧
     Kept H1 w4 w5 ∧
     K r3 w5))
    (K false w4)))
theorem w_P1 (aG aH : Int) (aI aJ aK : Int) (w0 : World) (K : Bool → WP) (h : m_P1 aG aH aI aJ aK w0 K) :
  Calls prog 3 #[(.agg #[(vi aG),(vu aH),(vi aI),(vi aJ),(vi aK)])] w0 (fun e w'=>∃r4:Bool,e=.returned (vb r4)∧K r4 w'):=by
 unfold m_P1 at h
 refine cw (args:=[(.agg #[(vi aG),(vu aH),(vi aI),(vi aJ),(vi aK)])]) func3 ntmps3 ?_
 have hs:=Hst.start w0
 have hb:=HB.nil None w0
 refine eg (sn (O:=(.cells #[(vi aG),(vu aH),(vi aI),(vi aJ),(vi aK)] 24)) xb ?_)
 intro p1 w1 hn1
 obtain ⟨H1,hs,hb⟩:=hs.alloc hb hn1
 refine q0 (vb false) (ln (wpE_seq ?_))
 have h:=h H1 w1 hs
 have hs:=hs.here
 obtain ⟨C1,hC,h⟩:=h
 refine wpE_drawnC (fun x=>C1 x∧HB H1 x [(p1,[(vi aG),(vu aH),(vi aI),(vi aJ),(vi aK)],24)]) [1,3,6] [] (by kernel_rfl) (by kernel_rfl) (by kernel_rfl) (by kernel_rfl) ⟨hC,hb.drew⟩ ?_
 intro w2 hw2
 have h:=h w2 hw2
 have hs:Hst w0 H1 w1 H1 w2:=by rw [hw2];exact hs.drew
 have hb:HB H1 w2 [(p1,[(vi aG),(vu aH),(vi aI),(vi aJ),(vi aK)],24)]:=by rw [hw2];exact hb.drew
 have hs:=hs.here
 refine qz 0 (.agg #[(vi aG),(vu aH),(vi aI),(vi aJ),(vi aK)]) Kp0 (fun w' hw'=>(xa p1 [(vi aG),(vu aH),(vi aI),(vi aJ),(vi aK)] (isAgg24 _) (sizeOf24 _) (hw'.2.r0 0 5 gZ))) (qz 2 (.agg #[(vi aG),(vu aH),(vi aI),(vi aJ),(vi aK)]) Kp2 (fun w' hw'=>(xa p1 [(vi aG),(vu aH),(vi aI),(vi aJ),(vi aK)] (isAgg24 _) (sizeOf24 _) (hw'.2.r0 0 5 gZ))) (lg 1 ?_))
 refine slc Kp1 call4 (h.mono ?_)
 rintro e w3 ⟨r1,rfl,hC,hk,h⟩
 refine ⟨_,rfl,.inr ⟨hC,hb.kept hk⟩,?_⟩
 obtain ⟨hs,hb⟩:=hk.hh hs hb
 refine lg 3 ?_
 refine slc Kp3 call5 (h.mono ?_)
 rintro e w4 ⟨r2,rfl,hC,hk,h⟩
 refine ⟨_,rfl,.inr ⟨hC,hb.kept hk⟩,?_⟩
 obtain ⟨hs,hb⟩:=hk.hh hs hb
 refine qz 4 (vb (decide (r1=r2))) Kp4 (fun _ _=>(x_streq (by kernel_rfl) (by kernel_rfl))) (qx 5 (vb (decide (r1=r2))) Kp5 (lg 6 ?_))
 rcases bte (decide (r1=r2)) with hg1 | hg1
 have h:=h.1 hg1
 refine sl_call Kp6 (wy 8 hg1) (by kernel_rfl) (xc call6) (h.mono ?_)
 rintro e w5 ⟨r3,rfl,hC,hk,h⟩
 refine ⟨_,rfl,.inr ⟨hC,hb.kept hk⟩,?_⟩
 obtain ⟨hs,hb⟩:=hk.hh hs hb
 refine qz 7 (vb r3) Kp7 (fun _ _=>(xT hg1)) (qx 8 (vb r3) Kp8 (wn (th_n (er (rs1 results3 (v:=(vb r3)) ?_)))))
 exact ⟨r3,rfl,h⟩
 have h:=h.2 hg1
 refine sx_not Kp6 (unwant rfl (yD 8 hg1) rfl) (qz 7 (vb false) Kp7 (fun _ _=>(xF hg1)) (qx 8 (vb false) Kp8 (wn (th_n (er (rs1 results3 (v:=(vb false)) ?_))))))
 exact ⟨false,rfl,h⟩
end Go.Proofs
end
section
open Go Go.SE
namespace Go.SE
section
variable {P:Program} {t e:TypeId} {sz bytes:Nat}
end
end Go.SE
end
section
open Go Go.SE
namespace Go.SE
section
variable {P:Program} {t e:TypeId} {sz bytes:Nat}
end
end Go.SE
end
section
open Go Go.SE
namespace Go.SE
def look {α:Type}:List (Int×α)→Int→Option α
 | [],_=>none
 | p :: M,k=>if p.1=k then some p.2 else look M k
theorem look_none {α:Type} {M:List (Int×α)} {k:Int}:look M k=none↔k ∉ M.map Prod.fst:=by
 induction M with
 | nil=>simp [look]
 | cons p M ih =>
  rw [look]
  split
  ·rename_i h;simp [h]
  ·rename_i h;rw [ih,List.map_cons,List.mem_cons];exact ⟨fun h1 h2=>h2.elim (fun e=>h e.symm) h1,fun h1 h2=>h1 (.inr h2)⟩
theorem look_mem {α:Type} {M:List (Int×α)} {k:Int} {v:α} (h:look M k=some v):(k,v)∈M:=by
 induction M with
 | nil=>cases h
 | cons p M ih =>
  rw [look] at h
  split at h
  ·rename_i e;cases h;subst e;simp
  ·exact List.mem_cons_of_mem _ (ih h)
theorem look_at {α:Type} {M:List (Int×α)} (hn:(M.map Prod.fst).Nodup) {i:Nat} {k:Int} {v:α} (h:M[i]?=some (k,v)):look M k=some v:=by
 induction M generalizing i with
 | nil=>simp at h
 | cons p M ih =>
  rw [List.map_cons,List.nodup_cons] at hn
  rw [look]
  cases i with
  | zero=>simp at h;subst h;simp
  | succ i =>
   have h':M[i]?=some (k,v):=by simpa using h
   have hne:p.1≠k:=fun e=>hn.1 (by rw [e];exact List.mem_map.2 ⟨_,List.mem_of_getElem? h',rfl⟩)
   rw [if_neg hne]
   exact ih hn.2 h'
def ikey (k:Int):Value:=.int .i64 k
structure IMap {α:Type} (f:α→Value) (w:World) (m:Nat) (M:List (Int×α)):Prop where
 map:CMap w m (M.map fun p=>(ikey p.1,f p.2))
 nd:(M.map Prod.fst).Nodup
section
variable {α:Type} {f:α→Value} {w w':World} {m:Nat} {M:List (Int×α)} {P:Program} {T K E:TypeId}
theorem IMap.ext {F:NP} (h:IMap f w m M) (hE:Ext F w w') (hf:¬ F m):IMap f w' m M:=⟨h.map.ext hE hf,h.nd⟩
theorem IMap.pure (h:IMap f w m M) (hE:Pure w w'):IMap f w' m M:=h.ext hE id
theorem IMap.lt (h:IMap f w m M):m<w.heap.size:=h.map.lt
theorem IMap.of_new {p:Addr} (h:New w (.map #[] 0) p w'):IMap f w' p.block []:=⟨CMap.of_new h,List.nodup_nil⟩
theorem IMap.keys (M:List (Int×α)):∀p∈M.map (fun p=>(ikey p.1,f p.2)),∃n,p.1=.int .i64 n:=by
 intro p hp;obtain ⟨q,_,rfl⟩:=List.mem_map.1 hp;exact ⟨_,rfl⟩
theorem IMap.get (h : IMap f w m M) (hT : P.underlying T = some (.map K E)) (hK : P.underlying K = some (.int .i64)) {z : Value} (hz : (zeroValue E).run P w = .ok z w) (k : Int) (ok : Bool) :
  (look M k=none∧(Instr.lookup T (.map (some m)) (.int .i64 k) ok).run P w=.ok (if ok then .tuple #[z,.bool false] else z) w)∨∃v,look M k=some v∧(Instr.lookup T (.map (some m)) (.int .i64 k) ok).run P w=.ok (if ok then .tuple #[f v,.bool true] else f v) w:=by
 rcases h.map.lookup hT (KeyOK.of_int hK) (IMap.keys M) (k:=ikey k) ⟨k,rfl⟩ hz ok with ⟨h1,h2⟩ | ⟨i,v,h1,h2⟩
 ·refine .inl ⟨look_none.2 fun hm=>?_,h2⟩
  obtain ⟨q,hq,rfl⟩:=List.mem_map.1 hm
  exact h1 _ (List.mem_map.2 ⟨q,hq,rfl⟩) rfl
 ·rw [List.getElem?_map] at h1
  cases hi:M[i]? with
  | none=>rw [hi] at h1;cases h1
  | some q =>
   rw [hi] at h1
   obtain ⟨a,b⟩:=q
   simp [ikey] at h1
   obtain ⟨rfl,rfl⟩:=h1
   exact .inr ⟨b,look_at h.nd hi,h2⟩
theorem IMap.put (h : IMap f w m M) (hT : P.underlying T = some (.map K E)) (hK : P.underlying K = some (.int .i64)) {k : Int} (hn : look M k = none) (v : α) :
  ∃w',(Instr.mapUpdate T (.map (some m)) (.int .i64 k) (f v)).run P w=.ok () w'∧IMap f w' m (M++[(k,v)])∧Ext (·=m) w w':=by
 have hn':=look_none.1 hn
 obtain ⟨w',h1,h2,h3⟩:=h.map.insert hT (KeyOK.of_int hK) (IMap.keys M) (k:=ikey k) (v:=f v) ⟨k,rfl⟩ (fun p hp e=>by
  obtain ⟨q,hq,rfl⟩:=List.mem_map.1 hp
  simp only [ikey,Value.int.injEq,true_and] at e
  exact hn' (List.mem_map.2 ⟨q,hq,e⟩))
 refine ⟨w',h1,⟨by simpa using h2,?_⟩,h3⟩
 rw [List.map_append,List.nodup_append]
 exact ⟨h.nd,by simp,fun x hx y hy e=>by simp at hy;subst hy;exact hn' (e▸hx)⟩
theorem IMap.again (h : IMap f w m M) (hT : P.underlying T = some (.map K E)) (hK : P.underlying K = some (.int .i64)) {k : Int} {v : α} (hv : look M k = some v) :
  ∃w',(Instr.mapUpdate T (.map (some m)) (.int .i64 k) (f v)).run P w=.ok () w'∧IMap f w' m M∧Ext (·=m) w w':=by
 obtain ⟨i,hi,e⟩:=List.getElem_of_mem (look_mem hv)
 have hes:(M.map fun p=>(ikey p.1,f p.2))[i]?=some (ikey k,f v):=by simp [hi,e]
 obtain ⟨w',h1,h2,h3⟩:=h.map.update hT (KeyOK.of_int hK) (IMap.keys M) (k:=ikey k) (v:=f v) (v':=f v) ⟨k,rfl⟩ hes (fun j u hj=>by
  rw [List.getElem?_map] at hj
  cases hq:M[j]? with
  | none=>rw [hq] at hj;cases hj
  | some q =>
   rw [hq] at hj
   simp [ikey] at hj
   obtain ⟨hj',hje⟩:=List.getElem?_eq_some_iff.1 hq
   have h4:(M.map Prod.fst)[j]'(by simpa using hj')=(M.map Prod.fst)[i]'(by simpa using hi):=by simp [hje,e,hj.1]
   exact (List.getElem_inj h.nd).1 h4)
 have hset:(M.map fun p=>(ikey p.1,f p.2)).set i (ikey k,f v)=M.map fun p=>(ikey p.1,f p.2):=by
  apply List.ext_getElem?
  intro n
  rw [List.getElem?_set]
  by_cases hn:i=n
  ·subst hn;rw [if_pos rfl];simp [hi,e]
  ·rw [if_neg hn]
 rw [hset] at h2
 exact ⟨w',h1,⟨h2,h.nd⟩,h3⟩
end
end Go.SE
end
section
open Go Go.SE
namespace Go.SE
theorem Ext.putObj (w:World) (r:Nat) (o:Obj):Ext (·=r) w (w.putObj r o):=⟨rfl,rfl,rfl,(by first | exact Nat.le_refl _ | exact Nat.le_succ _),by simp,fun b _ hne=>World.putObj_heap_other hne⟩
abbrev Yld (P:Program) (l:Nat) (args:Array Value) (w:World) (R:Ending→WP):Prop:=YieldAt Fence.wide 0 P l args w R
theorem Kept.trans {H:NP} {a b c:World} (h:Kept H a b) (k:Kept H b c):Kept H a c:=⟨Nat.le_trans h.size k.size,fun i hi hH=>(k.keep i (Nat.lt_of_lt_of_le hi h.size) hH).trans (h.keep i hi hH)⟩
theorem Kept.mono {H H':NP} {a b:World} (h:Kept H a b) (hs:∀b,H' b→H b):Kept H' a b:=⟨h.size,fun i hi hH=>h.keep i hi (hs i hH)⟩
theorem Yld.mono {P:Program} {l:Nat} {args:Array Value} {w:World} {R R':Ending→WP} (h:Yld P l args w R) (hr:∀e w,R e w→R' e w):Yld P l args w R':=by
 obtain ⟨fn,tmps,assign,body,h1,h2⟩:=h
 exact ⟨fn,tmps,assign,body,h1,RoundIn.mono h2 hr⟩
section
variable {P:Program} {n:Nat} {Q:Exit→Env→WP} {ρ:Env} {w w0:World} {H Hv:NP} {wv:World}
end
end Go.SE
namespace Go.SE
end Go.SE
end
section
open Go Go.SE
open Go.IntKind renaming i64 → q6
namespace Go.Proofs
open Tryd
set_option maxRecDepth 100000
set_option maxHeartbeats 4000000
attribute [local irreducible] wpL wpX opE wpE Calls
def m_Q1 (i1 base1:Int) (w0:World) (K:ByteArray→WP):Prop :=
 Br (base1 == 10)
  (Br (decide (i1<100))
   (Calls prog 29 #[(vi (q6.wrap i1))] w0 (fun e w1=>∃r1:ByteArray,e=.returned (vs r1)∧
    K r1 w1))
   (∀(p1:Addr) (w2:World),New w0 (.cells #[(.int .u8 0),(.int .u8 0),(.int .u8 0),(.int .u8 0),(.int .u8 0),(.int .u8 0),(.int .u8 0),(.int .u8 0),(.int .u8 0),(.int .u8 0),(.int .u8 0),(.int .u8 0),(.int .u8 0),(.int .u8 0),(.int .u8 0),(.int .u8 0),(.int .u8 0),(.int .u8 0),(.int .u8 0),(.int .u8 0),(.int .u8 0),(.int .u8 0),(.int .u8 0),(.int .u8 0)] 72) p1 w2 →
   Calls prog 30 #[(vu i1)] w2 (fun e w3=>∃r2:Int,e=.returned (vi r2)∧
    ∃s1:Sl,(Instr.sliceAt 72 (vp (some p1)) none (some (vi r2)) none).run prog w3=.ok s1.v w3 ∧
    Calls prog 31 #[s1.v,(vu i1)] w3 (fun e w4=>e=.returned (.tuple #[])∧
     ∃s2:Sl,(Instr.sliceAt 72 (vp (some p1)) none (some (vi r2)) none).run prog w4=.ok s2.v w4 ∧
     ∃c1:ByteArray,(convert 75 9 s2.v).run prog w4=.ok (vs c1) w4 ∧
     K c1 w4))))
  (Calls prog 32 #[Sl.nil.v,(vu i1),(vi base1),(vb false),(vb false)] w0 (fun e w5=>∃r3:Sl,∃r4:ByteArray,e=.returned (.tuple #[r3.v,(vs r4)])∧
   K r4 w5))
theorem w_Q1 (i1 base1 : Int) (w0 : World) (K : ByteArray → WP) (h : m_Q1 i1 base1 w0 K) :
  Calls prog 15 #[(vu i1),(vi base1)] w0 (fun e w'=>∃r5:ByteArray,e=.returned (vs r5)∧K r5 w'):=by
 unfold m_Q1 at h
 refine cw (args:=[(vu i1),(vi base1)]) func15 ntmps15 (eg (q0 ve (ln (wpE_seq (eg (q0 (vi base1) (q0 (vb (base1 == 10)) (wpL_nil ?_))))))))
 refine th_n ?_
 refine wpE_cond (t:=(base1 == 10)) (by kernel_rfl) (fun hc1=>?_) (fun hc1=>?_)
 have h:=h.1 hc1
 refine wpE_seq (eg (q0 (vu i1) (q0 (vb (decide (i1<100))) (ln ?_))))
 refine wpE_cond (t:=(decide (i1<100))) (by kernel_rfl) (fun hc2=>?_) (fun hc2=>?_)
 have h:=h.1 hc2
 refine eg (q0 (vu i1) (q0 (vi (q6.wrap i1)) ?_))
 refine sc call29 (h.mono ?_)
 rintro e w1 ⟨r1,rfl,h⟩
 refine ⟨_,rfl,?_⟩
 refine q0 (vs r1) (ln (er (th_r (th_r (rs1 results15 (v:=(vs r1)) ?_)))))
 exact ⟨r1,rfl,h⟩
 have h:=h.2 hc2
 refine wpE_skip (th_n (eg (sn (O:=(.cells #[(.int .u8 0),(.int .u8 0),(.int .u8 0),(.int .u8 0),(.int .u8 0),(.int .u8 0),(.int .u8 0),(.int .u8 0),(.int .u8 0),(.int .u8 0),(.int .u8 0),(.int .u8 0),(.int .u8 0),(.int .u8 0),(.int .u8 0),(.int .u8 0),(.int .u8 0),(.int .u8 0),(.int .u8 0),(.int .u8 0),(.int .u8 0),(.int .u8 0),(.int .u8 0),(.int .u8 0)] 72)) (x_alloc (zeroValue72 _) rfl) ?_)))
 intro p1 w2 hn1
 have h:=h p1 w2 hn1
 refine ln (eg (q0 (vu i1) ?_))
 refine sc call30 (h.mono ?_)
 rintro e w3 ⟨r2,rfl,h⟩
 refine ⟨_,rfl,?_⟩
 refine q0 (vi r2) (ln (eg (q0 (vi r2) ?_)))
 obtain ⟨s1,hv3,h⟩:=h
 refine q2 s1.v (x_slice (by kernel_rfl) (by kernel_rfl) (by kernel_rfl) (by kernel_rfl) hv3) (q0 (vu i1) ?_)
 refine sc call31 (h.mono ?_)
 rintro e w4 ⟨rfl,h⟩
 refine ⟨_,rfl,?_⟩
 refine ln (eg (q0 (vi r2) ?_))
 obtain ⟨s2,hv2,h⟩:=h
 refine q2 s2.v (x_slice (by kernel_rfl) (by kernel_rfl) (by kernel_rfl) (by kernel_rfl) hv2) ?_
 obtain ⟨c1,hv1,h⟩:=h
 refine q2 (vs c1) (x_convert (by kernel_rfl) hv1) (q0 (vs c1) (ln (er (th_r (rs1 results15 (v:=(vs c1)) ?_)))))
 exact ⟨c1,rfl,h⟩
 have h:=h.2 hc1
 refine wpE_skip (th_n (eg (q0 (vu i1) (q0 (vi base1) ?_))))
 refine sc call32 (h.mono ?_)
 rintro e w5 ⟨r3,r4,rfl,h⟩
 refine ⟨_,rfl,?_⟩
 refine q0 (.tuple #[r3.v,(vs r4)]) (q0 r3.v (q0 (vs r4) (q0 r3.v (q0 (vs r4) (ln (eg (q0 (vs r4) (q0 (vs r4) (wpL_nil ?_)))))))))
 refine th_n (er (rs1 results15 (v:=(vs r4)) ?_))
 exact ⟨r4,rfl,h⟩
def m_R1 (i1 base1:Int) (w0:World) (K:ByteArray→WP):Prop :=
 Calls prog 15 #[(vu i1),(vi base1)] w0 (fun e w1=>∃r1:ByteArray,e=.returned (vs r1)∧
  K r1 w1)
theorem w_R1 (i1 base1 : Int) (w0 : World) (K : ByteArray → WP) (h : m_R1 i1 base1 w0 K) :
  Calls prog 7 #[(vu i1),(vi base1)] w0 (fun e w'=>∃r2:ByteArray,e=.returned (vs r2)∧K r2 w'):=by
 unfold m_R1 at h
 refine cw (args:=[(vu i1),(vi base1)]) func7 ntmps7 (eg (q0 ve (ln (eg (q0 (vu i1) (q0 (vi base1) ?_))))))
 refine sc call15 (h.mono ?_)
 rintro e w1 ⟨r1,rfl,h⟩
 refine ⟨_,rfl,?_⟩
 refine q0 (vs r1) (ln (er (rs1 results7 (v:=(vs r1)) ?_)))
 exact ⟨r1,rfl,h⟩
def m_S (n1:Int) (w0:World) (K:ByteArray→WP):Prop :=
 Br (decide (n1<10))
  (∃s1:ByteArray,(Instr.sliceAt 9 (vs (⟨#[48,49,50,51,52,53,54,55,56,57]⟩:ByteArray)) (some (vu n1)) (some (vu (IntKind.u64.wrap (n1+1)))) none).run prog w0=.ok (vs s1) w0 ∧
  K s1 w0)
  (∃z1:Int,(Go.binOp .quo 22 (vu n1) (vu 10)).run prog w0=.ok (vu z1) w0 ∧
  Calls prog 9 #[(vu z1)] w0 (fun e w1=>∃r1:ByteArray,e=.returned (vs r1)∧
   ∃z2:Int,(Go.binOp .rem 22 (vu n1) (vu 10)).run prog w1=.ok (vu z2) w1 ∧
   Calls prog 9 #[(vu z2)] w1 (fun e w2=>∃r2:ByteArray,e=.returned (vs r2)∧
    ∃s2:ByteArray,(Go.binOp .add 9 (vs r1) (vs r2)).run prog w2=.ok (vs s2) w2 ∧
    K s2 w2)))
theorem w_S (n1 : Int) (w0 : World) (K : ByteArray → WP) (h : m_S n1 w0 K) :
  Calls prog 9 #[(vu n1)] w0 (fun e w'=>∃r3:ByteArray,e=.returned (vs r3)∧K r3 w'):=by
 unfold m_S at h
 refine cw (args:=[(vu n1)]) func9 ntmps9 (eg (q0 ve (ln (wpE_seq (eg (q0 (vu n1) (q0 (vb (decide (n1<10))) (wpL_nil ?_))))))))
 refine th_n ?_
 refine wpE_cond (t:=(decide (n1<10))) (by kernel_rfl) (fun hc1=>?_) (fun hc1=>?_)
 have h:=h.1 hc1
 refine eg (q0 (vu n1) (q0 (vu n1) (q0 (vu (IntKind.u64.wrap (n1+1))) ?_)))
 obtain ⟨s1,hv1,h⟩:=h
 refine q2 (vs s1) (x_slice (by kernel_rfl) (by kernel_rfl) (by kernel_rfl) (by kernel_rfl) hv1) (q0 (vs s1) (ln (er (th_r (rs1 results9 (v:=(vs s1)) ?_)))))
 exact ⟨s1,rfl,h⟩
 have h:=h.2 hc1
 refine wpE_skip (th_n (eg (q0 (vu n1) ?_)))
 obtain ⟨z1,hv4,h⟩:=h
 refine q2 (vu z1) (x_bin (by kernel_rfl) (by kernel_rfl) (by kernel_rfl) hv4) ?_
 refine sc call9 (h.mono ?_)
 rintro e w1 ⟨r1,rfl,h⟩
 refine ⟨_,rfl,?_⟩
 refine q0 (vu n1) ?_
 obtain ⟨z2,hv3,h⟩:=h
 refine q2 (vu z2) (x_bin (by kernel_rfl) (by kernel_rfl) (by kernel_rfl) hv3) ?_
 refine sc call9 (h.mono ?_)
 rintro e w2 ⟨r2,rfl,h⟩
 refine ⟨_,rfl,?_⟩
 obtain ⟨s2,hv2,h⟩:=h
 refine q2 (vs s2) (x_bin (by kernel_rfl) (by kernel_rfl) (by kernel_rfl) hv2) (q0 (vs s2) (ln (er (rs1 results9 (v:=(vs s2)) ?_))))
 exact ⟨s2,rfl,h⟩
end Go.Proofs
end
section
namespace Go.SE
open Go.Sort Go.Shelf Go.Proofs
variable {α:Type} [Inhabited α] {P:Program} {ρ:Ren} {k:Nat} {enc:α→List Value} {e:TypeId}
end Go.SE
end
section
open Go Go.SE
namespace Go.SE
section
variable {P:Program} {t u e ty:TypeId} {w:World}
end
section
variable {P:Program} {w:World} {t:TypeId}
theorem wrap_u64 {n:Nat} (h:n<18446744073709551616):IntKind.u64.wrap (n:Int)=(n:Int):=by
 simp [IntKind.wrap,IntKind.bits,IntKind.signed];omega
end
theorem Lst.sub {P : Program} {t e : TypeId} {sz bytes : Nat} {S : NP} (T : SlType P t e sz bytes) {w : World} {s : Sl} {rs : List (List Value)} (h : Lst S w sz s rs) (hcap : s.len ≤ s.cap) {k : IntKind} {lo n : Nat} (hn : lo + n ≤ rs.length) :
  ∃s':Sl,(Instr.sliceAt t s.v (some (.int k (lo:Int))) (some (.int k ((lo+n:Nat):Int))) none).run P w=.ok s'.v w∧Lst S w sz s' ((rs.drop lo).take n):=by
 have h1:((lo+n:Nat):Int)≤(s.cap:Int):=by rw [h.len] at hcap;omega
 have h2:(lo:Int)≤((lo+n:Nat):Int):=by omega
 refine ⟨⟨if s.cap=lo then s.a else s.a.map (·.add (lo*sz)),n,s.cap - lo⟩,?_,⟨by simp;omega,fun i hi=>?_⟩⟩
 ·simp [Instr.sliceAt,Instr.slice,Sl.v,run_underlying T.ht,Instr.sliceBounds,Instr.sliceBound,asIntOf,T.sizeOf]
  rw [if_pos (by omega),if_pos (by omega),show ((lo:Int)+(n:Int)).toNat - lo=n by omega]
 ·have hi':lo+i<rs.length:=by simp at hi;omega
  obtain ⟨a,⟨_,hlt,p,hp,rfl⟩,hS,hr⟩:=h.at_ (lo+i) hi'
  refine ⟨_,⟨by omega,by simp at hi ⊢;omega,p.add (lo*sz),?_,rfl⟩,?_,?_⟩
  ·rw [if_neg (by rw [h.len] at hcap;omega),hp];rfl
  ·simpa [add_block] using hS
  ·have : (p.add (lo * sz)).add ((i : Int).toNat * sz) = p.add (((lo + i : Nat) : Int).toNat * sz) := by
    rw [add_add,Int.toNat_natCast,Int.toNat_natCast,Nat.add_mul]
   rw [this,List.getElem_take,List.getElem_drop];exact hr
end Go.SE
end
section
open Go Go.SE
namespace Go.SE
theorem pure_of_grow {w:World} {k:Nat} {os:Array Obj}:Pure w (Sort.grow (w.drewN k) os):=by
 refine ⟨rfl,rfl,rfl,Nat.le_add_right _ _,by simp [Sort.grow,World.drewN],fun b hb _=>?_⟩
 show (w.heap++os)[b]?=w.heap[b]?
 exact Array.getElem?_append_left hb
theorem tabIs_pure {P:Program} {w w':World} {name:String} {k:IntKind} {zs:List Int} (h:Lib.TabIs P w name k zs) (E:Pure w w'):Lib.TabIs P w' name k zs:=by
 unfold Lib.TabIs World.var? at *
 cases hg:P.globalNamed name with
 | none=>simp [hg] at h
 | some g =>
  simp only [hg,Option.bind_some] at h ⊢
  have hlt:g<w.heap.size:=by
   rcases Nat.lt_or_ge g w.heap.size with h' | h'
   ·exact h'
   ·rw [Array.getElem?_eq_none h'] at h;simp at h
  rw [E.keep g hlt id]
  exact h
theorem holds_zero0 (w:World) (T:TypeId) (nd:Nat) (hs:nd≤24):Sort.Holds (fun (b:UInt8)=>Value.int .u8 (b.toNat:Int)) (w.alloc (.cells Lib.zeros24 T)) w.heap.size 0 (Array.replicate nd (0:UInt8)):=fun j hj=>by
 have hj':j<nd:=by simpa using hj
 refine ⟨?_,World.frozen?_alloc_new _ _ _ _⟩
 rw [World.cell?_alloc_new,Lib.zeros24_at _ (by omega),getElem!_pos _ j hj]
 simp
theorem fin_pos0 (w:World) (o:Obj) (dk:Array UInt8) (k:Nat):∃os,(Sort.putRow (fun (b:UInt8)=>Value.int .u8 (b.toNat:Int)) (w.alloc o) w.heap.size 0 dk).drewN k=Sort.grow (w.drewN k) os:=by
 rw [Sort.alloc_eq_grow]
 obtain ⟨os',_,e⟩:=Sort.putRow_grow_new (fun (b:UInt8)=>Value.int .u8 (b.toNat:Int)) w #[o] w.heap.size 0 dk (Nat.le_refl _)
 exact ⟨os',by rw [e];rfl⟩
end Go.SE
namespace Go.Proofs
open Tryd
attribute [local irreducible] Calls
abbrev Pow (w : World) : Prop := Lib.TabIs prog w "internal/strconv.uint64pow10" .u64 Lib.pow10Tab
theorem c_FormatUint (n : Nat) (hn : n < 18446744073709551616) (w0 : World) (ht : Pow w0) :
  Calls prog 7 #[.int .u64 (n:Int),.int .i64 10] w0 (fun e w'=>∃r:ByteArray,e=.returned (.string r)∧r=⟨(Lib.decDigits n).toArray⟩∧Pure w0 w'):=by
 refine w_R1 _ _ w0 (fun r w'=>r=⟨(Lib.decDigits n).toArray⟩∧Pure w0 w') ?_
 unfold m_R1
 refine w_Q1 _ _ w0 (fun r w'=>r=⟨(Lib.decDigits n).toArray⟩∧Pure w0 w') ?_
 unfold m_Q1
 refine ⟨fun _=>⟨fun h=>?_,fun h=>?_⟩,fun h=>absurd h (by decide)⟩
 ·have h:=of_decide_eq_true h
  have hw:IntKind.i64.wrap (n:Int)=(n:Int):=IntWalk.i64_in _ ⟨by omega,by omega⟩
  rw [hw]
  refine (lay_small n (by omega) w0).mono ?_
  rintro _ w1 ⟨rfl,rfl⟩
  exact ⟨_,rfl,rfl,Ext.refl _⟩
 ·have h:¬ (n:Int)<100:=of_decide_eq_false h
  intro p1 w2 h2
  obtain ⟨hp,hw⟩:=h2
  subst hp;subst hw
  have hnd:=Lib.numDigits_eq n (by omega) hn
  have hnd20:Lib.nDigits n≤20:=by split at hnd <;> omega
  refine (lay_numDigits n (by omega) hn _ (Lib.tabIs_alloc ht _)).mono ?_
  rintro _ w3 ⟨rfl,rfl⟩
  have hal:prog.arrayLen 72=24:=by simp [Program.arrayLen,underlying72]
  have hsl:∀W,(Instr.sliceAt 72 (.pointer (some ⟨w0.heap.size,0,none⟩)) none (some (.int .i64 (Lib.nDigits n:Int))) none).run prog W=.ok (Sl.mk (some ⟨w0.heap.size,0,none⟩) (Lib.nDigits n) 24).v W:=fun W=>by
   rw [run_sliceAt_array_h W 72 ⟨w0.heap.size,0,none⟩ (by simp [Program.arrayLen,Program.elem,underlying72]) .i64 (Lib.nDigits n:Int) (by omega) (by rw [hal];omega)]
   go_simp
   unfold Sl.v
   simp
  refine ⟨_,rfl,Sl.mk (some ⟨w0.heap.size,0,none⟩) (Lib.nDigits n) 24,hsl _,?_⟩
  have hH0:=holds_zero0 w0 72 (Lib.nDigits n) (by omega)
  have hf:=lay_format w0.heap.size 0 24 n (Array.replicate (Lib.nDigits n) 0) _ hH0 (by rw [Array.size_replicate];exact Lib.lt_pow_nDigits n) hn (by rw [Array.size_replicate];omega)
  rw [Array.size_replicate] at hf
  have hH1:=Lib.hid hH0
  refine Calls.mono hf ?_
  rintro _ w4 ⟨rfl,k,v',dk,rfl,hF⟩
  refine ⟨rfl,Sl.mk (some ⟨w0.heap.size,0,none⟩) (Lib.nDigits n) 24,hsl _,⟨(Lib.decDigits n).toArray⟩,?_,rfl,?_⟩
  ·have h := run_convert_bytes_back (P := prog) ((Sort.putRow (fun (b : UInt8) => Value.int .u8 (b.toNat : Int)) (w0.alloc (.cells Lib.zeros24 72)) w0.heap.size 0 dk).drewN k) 75 9 5 ⟨w0.heap.size, 0, none⟩ 24 (Lib.decDigits n) underlying75 underlying5 underlying9 (fun j hj => by
    rw [Lib.row_is_numeral hF j hj,Lib.add_plain,World.cell?_drewN]
    exact Sort.cell?_putRow (fun (b:UInt8)=>Value.int .u8 (b.toNat:Int)) _ w0.heap.size 0 _ dk hH1.out (by rw [hF.size,Array.size_replicate]) j (by rw [hF.size];rw [Lib.decDigits_length] at hj;exact hj))
   rw [Lib.decDigits_length] at h
   exact h
  ·obtain ⟨os,eo⟩:=fin_pos0 w0 (.cells Lib.zeros24 72) dk k
   have E:Pure w0 (Sort.grow (w0.drewN k) os):=pure_of_grow
   rw [← eo] at E
   exact E
theorem c_Itoa (n : Int) (h0 : -9223372036854775808 ≤ n) (h1 : n ≤ 9223372036854775807) (w0 : World) (ht : Pow w0) :
  Calls prog 8 #[.int .i64 n] w0 (fun e w'=>∃r:ByteArray,e=.returned (.string r)∧r=⟨(Lib.itoa n).toArray⟩∧Pure w0 w'):=by
 refine (lay_Itoa n h0 h1 w0 ht).mono ?_
 rintro _ w1 ⟨rfl,k,os,rfl⟩
 exact ⟨_,rfl,rfl,pure_of_grow⟩
theorem nd20 {n:Nat} (h:n<18446744073709551616):(Lib.decDigits n).length≤20:=by
 rw [Lib.decDigits_length]
 by_cases h0:n<10
 ·rw [Lib.nDigits_small h0];omega
 ·have:=Lib.numDigits_eq n (by omega) h
  split at this <;> omega
theorem run_cat {P : Program} {t : TypeId} {w : World} (x y : List UInt8) (hx : x.length ≤ 1000) (hy : y.length ≤ 1000) :
  (Go.binOp .add t (.string ⟨x.toArray⟩) (.string ⟨y.toArray⟩)).run P w=.ok (.string ⟨(x++y).toArray⟩) w:=by
 rw [binOp_string_add]
 exact run_string_add_lists w x y (by omega) (by omega)
theorem dig_at (n:Nat) (h:n<10) (w:World):(Instr.sliceAt 9 (.string (⟨#[48,49,50,51,52,53,54,55,56,57]⟩:ByteArray)) (some (.int .u64 (n:Int))) (some (.int .u64 (IntKind.u64.wrap ((n:Int)+1)))) none).run prog w=.ok (.string ⟨(Lib.decDigits n).toArray⟩) w:=by
 have hw:IntKind.u64.wrap ((n:Int)+1)=((n+1:Nat):Int):=by rw [show (n:Int)+1=((n+1:Nat):Int) by omega,wrap_u64 (by omega)]
 rw [Lib.decDigits_one h,hw,run_sliceAt_string _ _ _ _ _ _ underlying9,run_slice_string_if _ _ _ _ _ _ _ underlying9,if_pos ⟨by omega,by show ((n+1:Nat):Int)≤10;omega⟩,if_pos ⟨by omega,by omega⟩]
 have he:∀m:Fin 10,(⟨#[48,49,50,51,52,53,54,55,56,57]⟩:ByteArray).extract m.val (m.val+1)=⟨[UInt8.ofNat (48+m.val)].toArray⟩:=by decide +kernel
 have:=he ⟨n,h⟩
 simp only [Int.toNat_natCast] at this ⊢
 rw [this]
theorem run_quo10 {P:Program} {t:TypeId} {w:World} (n:Nat) (h:n<18446744073709551616):(Go.binOp .quo t (.int .u64 (n:Int)) (.int .u64 10)).run P w=.ok (.int .u64 ((n / 10:Nat):Int)) w:=by
 have:IntKind.u64.wrap ((n:Int).tdiv 10)=((n / 10:Nat):Int):=by
  rw [Int.tdiv_eq_ediv_of_nonneg (by omega)]
  simp only [IntKind.wrap,IntKind.bits,IntKind.signed]
  simp
  omega
 show ((pure (Value.int .u64 (IntKind.u64.wrap ((n:Int).tdiv 10))):Sem Value)).run P w=_
 rw [this];rfl
theorem run_rem10 {P:Program} {t:TypeId} {w:World} (n:Nat):(Go.binOp .rem t (.int .u64 (n:Int)) (.int .u64 10)).run P w=.ok (.int .u64 ((n % 10:Nat):Int)) w:=by
 have:(n:Int).tmod 10=((n % 10:Nat):Int):=by
  rw [Int.tmod_eq_emod_of_nonneg (by omega)];simp
 simp [Go.binOp,Op.intDiv,this]
theorem c_DigitsN : ∀ (m n : Nat), n ≤ m → n < 18446744073709551616 → ∀ w0 : World,
  Calls prog 9 #[.int .u64 (n:Int)] w0 (fun e w'=>∃r:ByteArray,e=.returned (.string r)∧r=⟨(Lib.decDigits n).toArray⟩∧w'=w0):=by
 intro m
 induction m with
 | zero =>
  intro n hm hn w0
  refine w_S _ w0 (fun r w'=>r=⟨(Lib.decDigits n).toArray⟩∧w'=w0) ?_
  unfold m_S
  refine ⟨fun h=>?_,fun h=>?_⟩
  ·exact ⟨_,dig_at n (by omega) w0,rfl,rfl⟩
  ·have:=of_decide_eq_false h;omega
 | succ m ih =>
  intro n hm hn w0
  refine w_S _ w0 (fun r w'=>r=⟨(Lib.decDigits n).toArray⟩∧w'=w0) ?_
  unfold m_S
  refine ⟨fun h=>?_,fun h=>?_⟩
  ·have h:=of_decide_eq_true h
   exact ⟨_,dig_at n (by omega) w0,rfl,rfl⟩
  ·have h:=of_decide_eq_false h
   refine ⟨_,run_quo10 n hn,?_⟩
   refine (ih (n / 10) (by omega) (by omega) w0).mono ?_
   rintro _ w1 ⟨r1,rfl,rfl,rfl⟩
   refine ⟨_,rfl,_,run_rem10 n,?_⟩
   refine (ih (n % 10) (by omega) (by omega) w1).mono ?_
   rintro _ w2 ⟨r2,rfl,rfl,rfl⟩
   have h1:=nd20 (n:=n / 10) (by omega)
   have h2:=nd20 (n:=n % 10) (by omega)
   refine ⟨_,rfl,_,run_cat _ _ (by omega) (by omega),?_,rfl⟩
   have e:Lib.decDigits n=Lib.decDigits (n / 10)++Lib.decDigits (n % 10):=by
    rw [Lib.decDigits,dif_neg (by omega),Lib.decDigits_one (i:=n % 10) (by omega)]
   rw [e]
theorem c_Digits (n : Nat) (hn : n < 18446744073709551616) (w0 : World) :
  Calls prog 9 #[.int .u64 (n:Int)] w0 (fun e w'=>∃r:ByteArray,e=.returned (.string r)∧r=⟨(Lib.decDigits n).toArray⟩∧w'=w0):=c_DigitsN n n (Nat.le_refl _) hn w0
end Go.Proofs
end
section
open Go Go.SE
namespace Go.Sp
end Go.Sp
namespace Go.Proofs
open Tryd
attribute [local irreducible] Calls
theorem c_arb_Judge (pv : Option Addr) (sh : Sl) (ls : List Sp.Letter) (who c : Int) (x : ByteArray) (w0 : World) (hR : Reads pv sh ls w0) (hn : ls.length ≤ 1000000) :
  Calls prog 13 #[.pointer pv,sh.v,.agg #[.int .i64 who,.int .u64 c,.string x]] w0 (fun e w'=>∃b:Bool,∃y:Int,∃i:Int,e=.returned (.agg #[.bool b,.int .i64 y,.int .i64 i])∧((b,y,i)=Sp.judgeFrom who c x 0 ls∧Pure w0 w')):=by
 suffices key:∀K:Bool→Int→Int→WP,(∀b y i w',((b,y,i)=Sp.judgeFrom who c x 0 ls∧Pure w0 w')→K b y i w')→m_J pv sh who c x w0 K from
  w_J _ _ _ _ _ w0 _ (key _ (fun _ _ _ _ h=>h))
 intro K hK
 unfold m_J
 intro H2 w2 hs2
 have E2:=hs2.first
 refine (hR w2 E2).mono ?_
 rintro _ w3 ⟨r1,rfl,hr1⟩
 have O3:=hr1.own' hs2
 have hlen:r1.len=ls.length:=by rw [O3.len];simp
 refine ⟨r1,rfl,hr1.kept,fun x' _ _ _ H w'=>∃j:Nat,x'=j∧j≤ls.length∧Pure w0 w'∧Own H w' 42 5 r1 (ls.map lrow)∧Sp.judgeFrom who c x 0 ls=Sp.judgeFrom who c x j (ls.drop j),fun x' _ _ _ _=>((ls.length:Int) - x').toNat,⟨0,rfl,Nat.zero_le _,E2.trans hr1.pure,O3,rfl⟩,?_⟩
 rintro _ _ _ _ Hl wl hl ⟨j,rfl,hj,El,Ol,heq⟩
 unfold m_J_l1
 refine ⟨fun h=>?_,fun h=>?_⟩
 ·have hlt:=lt_of_dec hlen h
  obtain ⟨a,hat,hrow⟩:=Ol.nth hlt
  rw [List.drop_eq_getElem_cons hlt,Sp.judgeFrom] at heq
  generalize ls[j]=l at *
  refine ⟨a,hat,_,_,_,_,_,hrow,?_⟩
  intro H5 w5 hs5
  have E5:=El.hst hs5
  have O5:=Ol.hst hs5
  refine (c_arb_bonds l.kind l.frm l.c l.text l.fake j w5).mono ?_
  rintro _ w6 ⟨r2,rfl,hr2⟩
  have hll:(⟨l.kind,l.frm,l.c,l.text,l.fake⟩:Sp.Letter)=l:=rfl
  rw [hll] at hr2
  have hbl:(Sp.bondsOf l j).length≤2:=by
   unfold Sp.bondsOf;repeat' split
   all_goals simp
  generalize Sp.bondsOf l j=bs at *
  have O6:=hr2.own' hs5
  have hl2:r2.len=bs.length:=by rw [O6.len];simp
  refine ⟨r2,rfl,hr2.kept,fun x' _ _ _ H w'=>∃m:Nat,x'=m∧m≤bs.length∧Pure w0 w'∧Own H w' 42 5 r1 (ls.map lrow)∧Own H w' 69 5 r2 (bs.map brow)∧Sp.judgeBonds who c x j bs=Sp.judgeBonds who c x j (bs.drop m),fun x' _ _ _ _=>((bs.length:Int) - x').toNat,⟨0,rfl,Nat.zero_le _,E5.trans hr2.pure,O5.pure hr2.pure,O6,rfl⟩,?_⟩
  rintro _ _ _ _ Hm wm hm ⟨m,rfl,hmle,Em,Om,Om2,heqm⟩
  unfold m_J_l2
  refine ⟨fun h=>?_,fun h=>?_⟩
  ·have hlt2:=lt_of_dec hl2 h
   obtain ⟨a2,hat2,hrow2⟩:=Om2.nth hlt2
   rw [List.drop_eq_getElem_cons hlt2] at heqm
   generalize bs[m]=b at *
   refine ⟨a2,hat2,_,_,_,_,_,hrow2,fun h=>?_,fun h=>?_⟩
   ·intro H6 w12 hs6
    have hc:b.who=who∧b.c=c∧b.text=x:=by simpa [and_assoc] using h
    rw [Sp.judgeBonds,if_pos hc] at heqm
    rw [heqm] at heq
    exact hK _ _ _ _ ⟨by rw [heq],Em.hst hs6⟩
   ·intro H6 w10 hs6
    have hc:¬ (b.who=who∧b.c=c∧b.text=x):=fun hc=>by simp [hc.1,hc.2.1,hc.2.2] at h
    rw [Sp.judgeBonds,if_neg hc] at heqm
    rw [wrap_succ hlt2 (by omega)]
    exact ⟨⟨m+1,rfl,hlt2,Em.hst hs6,Om.hst hs6,Om2.hst hs6,heqm⟩,lt_dec hlt2⟩
  ·have hge:=eq_of_dec hl2 hmle h
   subst hge
   rw [List.drop_length] at heqm
   have heqm:Sp.judgeBonds who c x j bs=none:=heqm
   rw [heqm] at heq
   rw [wrap_succ hlt (by omega)]
   exact ⟨⟨j+1,rfl,hlt,Em,Om,by simpa using heq⟩,lt_dec hlt⟩
 ·have hge:=eq_of_dec hlen hj h
  subst hge
  rw [List.drop_length] at heq
  intro w13 hs13
  exact hK _ _ _ _ ⟨by rw [heq];rfl,El.hst hs13⟩
end Go.Proofs
end
section
open Go Go.SE
namespace Go.Sp
structure Says where
 who:Int
 c:Int
 text:ByteArray
deriving DecidableEq
end Go.Sp
namespace Go.Proofs
attribute [local irreducible] Calls
def ckey (k:Sp.Says):Value:=.agg #[.int .i64 k.who,.int .u64 k.c,.string k.text]
structure BondsAt (w0:World) (H:NP) (w:World) (m:Nat) (s:Sl) (out:List Sp.Bond) (ks:List (Sp.Says)) (B:Int):Prop where
 pure:Pure w0 w
 map:CntMap w m (ks.map ckey) B
 rows:Own H w 69 5 s (out.map brow)
 own:∀b,s.blk b→w0.heap.size≤b
 mown:w0.heap.size≤m
 mvis:¬ H m
 ne:¬ s.blk m
theorem BondsAt.hst {w0 w w1:World} {H H1:NP} {m:Nat} {s:Sl} {out:List Sp.Bond} {ks:List (Sp.Says)} {B:Int} (h:BondsAt w0 H w m s out ks B) (hs:Hst w0 H w H1 w1):BondsAt w0 H1 w1 m s out ks B :=
 have hm:¬ H1 m:=hs.disj (G:=(·=m)) (fun b e=>by subst e;exact ⟨h.map.lt,h.mvis⟩) m rfl
 ⟨h.pure.hst hs,h.map.ext hs.ext hm,h.rows.hst hs,h.own,h.mown,hm,h.ne⟩
end Go.Proofs
end
section
open Go Go.SE
namespace Go.Sp
def Fault.key (f:Fault):Fault:={ f with a:=0,b:=0 }
def addFault (out:List Fault) (i k:Int) (f:Fault):List Fault:=if f.kind=0∨f∈out.map Fault.key then out else out++[{ f with a:=i,b:=k }]
def faultsRow (i:Int) (a:Letter):Int→List Letter→List Fault→List Fault
 | _,[],out=>out
 | k,b :: bs,out=>faultsRow i a (k+1) bs (addFault out i k (fault a b))
def faultsFrom:Int→List Letter→List Fault→List Fault
 | _,[],out=>out
 | i,a :: ls,out=>faultsFrom (i+1) ls (faultsRow i a (i+1) ls out)
def faults (ls:List Letter):List Fault:=faultsFrom 0 ls []
theorem fault_key (a b:Letter):(fault a b).a=0∧(fault a b).b=0:=by
 unfold fault;repeat' split
 all_goals simp
end Go.Sp
namespace Go.Proofs
open Tryd
attribute [local irreducible] Calls
def fval (f:Sp.Fault):Value:=.agg (frow f).toArray
def IsFault (v:Value):Prop:=∃f,v=fval f
theorem fval_inj {f g:Sp.Fault}:fval f=fval g↔f=g:=by
 constructor
 ·intro h
  cases f;cases g
  simp [fval,frow] at h
  simp [h]
 ·rintro rfl;rfl
theorem keyOK_fault:KeyOK prog 24 IsFault:=by
 refine KeyOK.of_struct underlying24 ?_ ?_ ?_
 ·rintro _ ⟨n,rfl⟩ em w;kernel_rfl
 ·rintro _ _ w ⟨n,rfl⟩ ⟨n',rfl⟩
  refine ⟨decide (n=n'),?_,by simp only [fval_inj,decide_eq_true_eq];exact eq_comm⟩
  obtain ⟨k,f,t,u,x⟩:=n
  obtain ⟨k',f',t',u',x'⟩:=n'
  simp [Op.equal,Op.maxDepth,go_sem,fval,frow]
  repeat' split
  all_goals simp_all
 ·rintro _ ⟨n,rfl⟩
  have h:∀d,Instr.sameBits (d+1) (fval n) (fval n)=true:=fun d=>by
   cases d <;> simp [Instr.sameBits,fval,frow]
  exact h 9999
theorem slT_fault:SlType prog 49 24 5 40:=by
 refine ⟨underlying49,⟨t24,_,by kernel_rfl,(by kernel_rfl:t24.zero=some (.agg #[.int .i64 0,.int .u64 0,.int .i64 0,.int .i64 0,.int .i64 0])),by kernel_rfl,by kernel_rfl,rfl⟩,by omega⟩
end Go.Proofs
end
section
open Go Go.SE
namespace Go.Proofs
open Tryd
attribute [local irreducible] Calls
structure FltsAt (w0:World) (H:NP) (w:World) (m:Nat) (s:Sl) (out:List Sp.Fault):Prop where
 pure:Pure w0 w
 map:CntMap w m ((out.map Sp.Fault.key).map fval) out.length
 rows:Own H w 24 5 s (out.map frow)
 own:∀b,s.blk b→w0.heap.size≤b
 mown:w0.heap.size≤m
 mvis:¬ H m
 ne:¬ s.blk m
theorem FltsAt.hst {w0 w w1:World} {H H1:NP} {m:Nat} {s:Sl} {out:List Sp.Fault} (h:FltsAt w0 H w m s out) (hs:Hst w0 H w H1 w1):FltsAt w0 H1 w1 m s out :=
 have hm:¬ H1 m:=hs.disj (G:=(·=m)) (fun b e=>by subst e;exact ⟨h.map.lt,h.mvis⟩) m rfl
 ⟨h.pure.hst hs,h.map.ext hs.ext hm,h.rows.hst hs,h.own,h.mown,hm,h.ne⟩
theorem faults_are {fs:List Sp.Fault}:∀k∈fs.map fval,IsFault k:=by
 intro k hk;obtain ⟨x,_,rfl⟩:=List.mem_map.1 hk;exact ⟨x,rfl⟩
theorem mem_fval {fs:List Sp.Fault} {f:Sp.Fault}:fval f∈fs.map fval↔f∈fs:=by
 constructor
 ·intro h;obtain ⟨x,hx,he⟩:=List.mem_map.1 h;rw [fval_inj] at he;subst he;exact hx
 ·intro h;exact List.mem_map.2 ⟨f,h,rfl⟩
theorem c_arb_Faults (pv : Option Addr) (sh : Sl) (ls : List Sp.Letter) (w0 : World) (hR : Reads pv sh ls w0) (hn : ls.length ≤ 1000) :
  Calls prog 14 #[.pointer pv,sh.v] w0 (fun e w'=>∃s:Sl,e=.returned s.v∧RetS w0 24 5 ((Sp.faults ls).map frow) s w'):=by
 suffices key:∀K:Sl→WP,(∀s w',RetS w0 24 5 ((Sp.faults ls).map frow) s w'→K s w')→m_H pv sh w0 K from
  w_H _ _ w0 _ (key _ (fun _ _ h=>h))
 intro K hK
 unfold m_H
 intro m w1 h1
 have E1:Pure w0 w1:=Ext.new h1
 have om:=New.own (Ext.refl w0) h1
 refine (hR w1 E1).mono ?_
 rintro _ w2 ⟨r1,rfl,hr1⟩
 have hm1:CntMap w1 m.block ((([]:List Sp.Fault).map Sp.Fault.key).map fval) 0:=CntMap.of_new h1 _
 have O1:=hr1.own' ((Hst.start w0).pure E1)
 have hlen:r1.len=ls.length:=by rw [O1.len];simp
 have hrm:∀b,r1.blk b→b≠m.block:=fun b hb e=>by have:=hr1.own b hb;have:=hm1.lt;omega
 have hnil:∀b,Sl.nil.blk b→False:=fun b hb=>by obtain ⟨a,h,_⟩:=hb;cases h
 refine ⟨r1,rfl,hr1.kept,fun s i H w'=>∃j:Nat,i=j∧j≤ls.length∧∃out,out.length≤j*1000∧FltsAt w0 H w' m.block s out∧Own H w' 42 5 r1 (ls.map lrow)∧(∀b,s.blk b→¬ r1.blk b)∧Sp.faults ls=Sp.faultsFrom j (ls.drop j) out,fun _ i _=>((ls.length:Int) - i).toNat,
  ⟨0,rfl,Nat.zero_le _,[],by simp,⟨E1.trans hr1.pure,hm1.ext hr1.pure id,Own.nil _ _,fun b h=>(hnil b h).elim,om,id,fun h=>hnil _ h⟩,O1,fun b h=>(hnil b h).elim,rfl⟩,?_⟩
 rintro s _ Hl wl hl ⟨j,rfl,hj,out,hol,hA,Ol,hsr,heq⟩
 unfold m_H_l1
 refine ⟨fun h=>?_,fun h=>?_⟩
 ·have hlt:=lt_of_dec hlen h
  have heq0:=heq
  rw [List.drop_eq_getElem_cons hlt,Sp.faultsFrom] at heq
  have hj1000:j<1000:=by omega
  rw [wrap_succ hlt (by omega)]
  refine ⟨fun s k H w'=>∃q:Nat,k=q∧j+1≤q∧q≤ls.length∧∃out',out'.length≤out.length+(q - (j+1))∧FltsAt w0 H w' m.block s out'∧Own H w' 42 5 r1 (ls.map lrow)∧(∀b,s.blk b→¬ r1.blk b)∧Sp.faultsRow j ls[j] ((j:Int)+1) (ls.drop (j+1)) out=Sp.faultsRow j ls[j] q (ls.drop q) out',fun _ k _=>((ls.length:Int) - k).toNat,
   ⟨j+1,by omega,Nat.le_refl _,hlt,out,by omega,hA,Ol,hsr,by simp⟩,?_⟩
  rintro s2 _ Hm wm hm ⟨q,rfl,hq1,hq,out',hol',hAm,Om,hsr',heq'⟩
  unfold m_H_l2
  refine ⟨fun h=>?_,fun h=>?_⟩
  ·have hlt2:=lt_of_dec hlen h
   rw [List.drop_eq_getElem_cons hlt2,Sp.faultsRow] at heq'
   obtain ⟨a1,hat1,hrow1⟩:=Om.nth hlt
   obtain ⟨a2,hat2,hrow2⟩:=Om.nth hlt2
   have blk:∀(i:Int) a,At r1 i 5 a→¬ Hm a.block:=by
    rintro i a ⟨_,_,b,hb,rfl⟩
    rw [add_block]
    exact Om.vis _ ⟨b,hb,rfl⟩
   refine ⟨a1,hat1,_,_,_,_,_,hrow1,blk _ _ hat1,a2,hat2,_,_,_,_,_,hrow2,blk _ _ hat2,?_⟩
   generalize hf:Sp.fault ls[j] ls[q]=f at *
   have hfk:f.a=0∧f.b=0:=by rw [← hf];exact Sp.fault_key _ _
   have hkey:f.key=f:=by obtain ⟨f1,f2,f3,f4,f5⟩:=f;simp at hfk;simp [Sp.Fault.key,hfk.1,hfk.2]
   have hsf:s_A ls[j].kind ls[j].frm ls[j].c ls[j].text ls[j].fake ls[q].kind ls[q].frm ls[q].c ls[q].text ls[q].fake=(f.who,f.c,f.kind,f.a,f.b):=by
    unfold s_A;rw [hf]
   rw [hsf]
   have hjq:j*1000≤999*1000:=Nat.mul_le_mul_right _ (by omega)
   have skip : ∀ (H : NP) (w : World), FltsAt w0 H w m.block s2 out' → Own H w 42 5 r1 (ls.map lrow) → (f.kind = 0 ∨ f ∈ out'.map Sp.Fault.key) →
     (∃q':Nat,IntKind.i64.wrap ((q:Int)+1)=q'∧j+1≤q'∧q'≤ls.length∧∃out',out'.length≤out.length+(q' - (j+1))∧FltsAt w0 H w m.block s2 out'∧Own H w 42 5 r1 (ls.map lrow)∧(∀b,s2.blk b→¬ r1.blk b)∧Sp.faultsRow j ls[j] ((j:Int)+1) (ls.drop (j+1)) out=Sp.faultsRow j ls[j] q' (ls.drop q') out')∧((ls.length:Int) - IntKind.i64.wrap ((q:Int)+1)).toNat<((ls.length:Int) - (q:Int)).toNat:=by
    intro H w hF hO hc
    have hadd:Sp.addFault out' j q f=out':=by unfold Sp.addFault;rw [if_pos hc]
    rw [hadd] at heq'
    rw [wrap_succ hlt2 (by omega)]
    exact ⟨⟨q+1,rfl,by omega,hlt2,out',by omega,hF,hO,hsr',heq'⟩,lt_dec hlt2⟩
   have J3 : ∀ (x2 : Bool) (H : NP) (w : World), Hst w0 H w H w → FltsAt w0 H w m.block s2 out' → Own H w 42 5 r1 (ls.map lrow) → (x2 = true → f.kind = 0 ∨ f ∈ out'.map Sp.Fault.key) → (x2 = false → ¬ (f.kind = 0 ∨ f ∈ out'.map Sp.Fault.key)) →
     m_H_j3 m j s2 q ls[j].kind ls[j].frm ls[j].c ls[j].text ls[j].fake ls[q].kind ls[q].frm ls[q].c ls[q].text ls[q].fake x2 w0 H w (fun y'0 y'1 H' w'=>(∃q:Nat,y'1=q∧j+1≤q∧q≤ls.length∧∃out',out'.length≤out.length+(q - (j+1))∧FltsAt w0 H' w' m.block y'0 out'∧Own H' w' 42 5 r1 (ls.map lrow)∧(∀b,y'0.blk b→¬ r1.blk b)∧Sp.faultsRow j ls[j] ((j:Int)+1) (ls.drop (j+1)) out=Sp.faultsRow j ls[j] q (ls.drop q) out')∧((ls.length:Int) - y'1).toNat<((ls.length:Int) - (q:Int)).toNat) K:=by
    intro x2 H w hss hF hO hT hFa
    unfold m_H_j3
    refine ⟨fun hx=>skip H w hF hO (hT hx),fun hx=>?_⟩
    have hno:=hFa hx
    rw [hsf]
    have hadd:Sp.addFault out' j q f=out'++[{ f with a:=j,b:=q }]:=by unfold Sp.addFault;rw [if_neg hno]
    rw [hadd] at heq'
    obtain ⟨f',hf'⟩:∃f':Sp.Fault,f'={ f with a:=j,b:=q }:=⟨_,rfl⟩
    rw [← hf'] at heq'
    have hrow':frow f'=[.int .i64 f.who,.int .u64 f.c,.int .i64 f.kind,.int .i64 j,.int .i64 q]:=by rw [hf'];rfl
    have hnk:fval f ∉ (out'.map Sp.Fault.key).map fval:=fun hm=>hno (.inr (mem_fval.1 hm))
    obtain ⟨v,w3,z,hv0,hvB,hl0,he0,hl1,hE1,hst⟩:=(hF.map.ext (F:=None) (Ext.drew w) id).bump (P:=prog) (T:=70) underlying70 keyOK_fault faults_are ⟨f,rfl⟩ (zeroValue3) (by omega)
    have hv:v=0:=by
     obtain ⟨v',hv',hor⟩:=(hF.map.ext (F:=None) (Ext.drew w) id).look (P:=prog) (T:=70) underlying70 keyOK_fault faults_are ⟨f,rfl⟩ (zeroValue3)
     rw [hl0] at hv'
     have:v=v':=by simpa using hv'
     rcases hor with ⟨h,_⟩ | ⟨_,h⟩
     ·exact absurd h hnk
     ·omega
    subst hv
    refine ⟨fun w'=>(Instr.lookup 70 (.map (some m.block)) (fval f) false).run prog w'=.ok (.int .i64 0) w',hl0,?_⟩
    rintro _ rfl
    obtain ⟨w4,ks',hr4,hks,hM4,hE4⟩:=hst (Ext.refl (F:=None) w3) id
    have hks:ks'=(out'.map Sp.Fault.key).map fval++[fval f]:=by
     rcases hks with ⟨h,_⟩ | ⟨_,h⟩
     ·exact absurd h hnk
     ·exact h
    refine ⟨0,fun w' h'=>h',0,z,w3,he0,hl1,hE1.kept (fun b hb e=>hF.mvis (e▸hb)),w4,hr4,hE4.kept (fun b hb e=>hF.mvis (e▸hb)),?_⟩
    have hE:Ext (·=m.block) w w4:=((Ext.drew w).trans hE1).trans hE4
    have hsb:∀b,s2.blk b→¬ b=m.block:=fun b hb e=>hF.ne (e▸hb)
    have P4:Pure w0 w4:=hF.pure.trans' hE (fun i hi e=>by subst e;exact absurd hF.mown (by omega))
    intro w5 hs5
    have R5:Own H w5 24 5 s2 (out'.map frow):=(hF.rows.ext hE hsb).hst hs5
    have O5:Own H w5 42 5 r1 (ls.map lrow):=(hO.ext hE (fun b hb e=>hrm b hb e)).hst hs5
    have M5:=hM4.ext hs5.ext hF.mvis
    have P5:=P4.hst hs5
    intro p8 w6 h6
    have E6:Pure w5 w6:=Ext.new h6
    have b6:=Box.of_new h6
    have hs6:=hs5.again (E6.keptP (H:=H))
    obtain ⟨s',w7,hr7,hO7,hE7,hk7,hb7⟩:=(R5.pure E6).append (P:=prog) (ty:=49) (c:=1) slT_fault hs6 (r:=frow f') (by rw [hrow'];exact b6.row) rfl rfl (by simp;omega) (by simp [maxLen];omega)
    refine ⟨s',w7,hr7,hk7,?_⟩
    rw [wrap_succ hlt2 (by omega)]
    have M6:=M5.ext (F:=None) E6 id
    have hs'm:¬ s'.blk m.block:=fun h=>(hb7 _ h).elim hF.ne (fun h=>by have:=M6.lt;omega)
    refine ⟨⟨q+1,rfl,by omega,hlt2,out'++[f'],by simp;omega,⟨append_own (R5.pure E6) (P5.trans E6) hE7 hF.own,?_,by simpa using hO7,fun b hb=>(hb7 b hb).elim (hF.own b) (fun h=>by have:=(P5.trans E6).size;omega),hF.mown,hF.mvis,hs'm⟩,(O5.pure E6).ext hE7 (fun b hb hs=>hsr' b hs hb),fun b hb hr=>(hb7 b hb).elim (fun h=>hsr' b h hr) (fun h=>by have:=O5.rows.lt hr;have:=E6.size;omega),heq'⟩,lt_dec hlt2⟩
    have e:((out'++[f']).map Sp.Fault.key).map fval=ks':=by
     rw [hks,List.map_append,List.map_append]
     simp only [List.map_cons,List.map_nil]
     have:Sp.Fault.key f'=f:=by rw [hf',← hkey];simp [Sp.Fault.key]
     rw [this]
    rw [e]
    have M7:=M6.ext hE7 hF.ne
    simpa using M7
   refine ⟨fun hz=>?_,fun hz=>?_⟩
   ·intro H3 w10 hs3
    exact J3 true H3 w10 hs3.here (hAm.hst hs3) (Om.hst hs3) (fun _=>.inl (by simpa using hz)) (fun h=>by cases h)
   ·intro H3 w10 hs3
    have hA10:=hAm.hst hs3
    obtain ⟨v,hl10,hv⟩:=hA10.map.look (P:=prog) (T:=70) underlying70 keyOK_fault faults_are ⟨f,rfl⟩ (zeroValue3)
    have hk0:f.kind≠0:=by simpa using hz
    refine ⟨v,hl10,J3 _ H3 w10 hs3.here hA10 (Om.hst hs3) (fun h=>?_) (fun h=>?_)⟩
    ·have:=of_decide_eq_true h
     rcases hv with ⟨h1,_⟩ | ⟨_,h1⟩
     ·exact .inr (mem_fval.1 h1)
     ·omega
    ·have:=of_decide_eq_false h
     rintro (h1 | h1)
     ·exact hk0 h1
     ·rcases hv with ⟨_,h2,_⟩ | ⟨h2,_⟩
      ·omega
      ·exact h2 (mem_fval.2 h1)
  ·have hge:=eq_of_dec hlen hq h
   subst hge
   rw [List.drop_length,Sp.faultsRow] at heq'
   rw [heq'] at heq
   rw [wrap_succ hlt (by omega)]
   exact ⟨⟨j+1,rfl,hlt,out',by rw [Nat.succ_mul];omega,hAm,Om,hsr',heq⟩,lt_dec hlt⟩
 ·have hge:=eq_of_dec hlen hj h
  subst hge
  rw [List.drop_length,Sp.faultsFrom] at heq
  exact hK _ _ ⟨by rw [heq];exact hA.rows.rows,hA.own,hA.pure⟩
end Go.Proofs
end
section
open Go Go.SE
namespace Go.Sp
def wt:ByteArray:=⟨#[116]⟩
def wu:ByteArray:=⟨#[117]⟩
def lvA:Tree:=letterT ⟨2,1,7,wt,false⟩ false false
def lvB:Tree:=letterT ⟨1,1,7,wt,false⟩ false false
def lvC:Tree:=letterT ⟨2,1,7,wu,false⟩ false false
def lv1:Pool:=(of [] lvA).2.2
def lv2:Pool:=(of lv1 lvB).2.2
def lv3:Pool:=(of lv2 lvC).2.2
theorem lv_a:(of [] lvA).1=6∧(of [] lvA).2.1=0:=by constructor <;> kernel_rfl
theorem lv_b:(of lv1 lvB).1=7∧(of lv1 lvB).2.1=0:=by constructor <;> kernel_rfl
theorem lv_c:(of lv2 lvC).1=11∧(of lv2 lvC).2.1=0:=by constructor <;> kernel_rfl
theorem lv_x:judgeFrom 1 7 wt 0 (Go.Proofs.readAll lv3 [7,6])=(true,1,1):=by kernel_rfl
theorem lv_y:judgeFrom 1 7 wt 0 (Go.Proofs.readAll lv3 [7])=(false,0,-1):=by kernel_rfl
theorem lv_l:faults (Go.Proofs.readAll lv3 [6,7,11])=[⟨1,7,1,0,2⟩]:=by kernel_rfl
end Go.Sp
end
section
open Go Go.SE
namespace Go.Proofs
open Tryd
attribute [local irreducible] Calls
theorem lv_step (p : Addr) (k f c : Int) (x : ByteArray) (hf : f = 0 ∨ f = 1) (w : World) {L : Sp.Pool} {F : NP} (hP : PoolAt w p L F) (hok : Sp.Ok L) {Q : Int → Int → WP}
  (hQ:∀w',(∃F',PoolAt w' p (Sp.of L (Sp.letterT ⟨k,f,c,x,false⟩ false false)).2.2 F'∧Ext F w w'∧∀b,F' b→F b∨w.heap.size≤b)→Q (Sp.of L (Sp.letterT ⟨k,f,c,x,false⟩ false false)).1 (Sp.of L (Sp.letterT ⟨k,f,c,x,false⟩ false false)).2.1 w') :
  Calls prog 12 #[.agg #[.int .i64 k,.int .i64 f,.int .u64 c,.string x,.bool false],.bool false,.bool false] w (fun e w2=>∃rKind1:Int,∃rFrom1:Int,∃rTo1:Int,∃rNum1:Int,∃rText1:ByteArray,∃rKids1:Sl,e=.returned (.agg #[(.int .i64 rKind1),(.int .i64 rFrom1),(.int .i64 rTo1),(.int .u64 rNum1),(.string rText1),rKids1.v]) ∧
   Kept None w w2 ∧
   Calls prog 11 #[.pointer (some p),(.agg #[(.int .i64 rKind1),(.int .i64 rFrom1),(.int .i64 rTo1),(.int .u64 rNum1),(.string rText1),rKids1.v])] w2 (fun e w3=>∃r2:Int,∃r3:Int,e=.returned (.tuple #[(.int .i64 r2),(.int .i64 r3)])∧Kept None w2 w3∧Q r2 r3 w3)):=by
 refine (c_ref11_Tree w.heap.size k f c x false false false w (Nat.le_refl _) hf).mono ?_
 rintro _ w2 ⟨s,rfl,hT,E2⟩
 refine ⟨_,_,_,_,_,s,rfl,E2.keptP,?_⟩
 refine (c_Of p _ s w2 hT.lt (hP.pure E2) hok (fun b hb h=>by have:=hP.lt hb;have:w.heap.size≤b:=h.1;omega) (fun b h=>h.2)).mono ?_
 rintro _ w3 ⟨r1,r2,rfl,hr,F',hP',E3,hF'⟩
 have e1:r1=_:=congrArg Prod.fst hr
 have e2:r2=_:=congrArg Prod.snd hr
 refine ⟨_,_,rfl,E3.kept (fun b h=>h.elim),?_⟩
 rw [e1,e2]
 exact hQ w3 ⟨F',hP',E2.pure.trans E3,fun b hb=>(hF' b hb).imp_right (fun h=>by have:=E2.size;omega)⟩
theorem Lst.of_ints {w:World} {p:Addr} {T:TypeId} (ts:List Int) (h:Box w p (ts.map fun t=>.int .i64 t) T):Lst (·=p.block) w 1 ⟨some p,ts.length,ts.length⟩ (trows ts):=by
 refine ⟨by simp [trows],fun i hi=>?_⟩
 have hi':i<ts.length:=by simpa [trows] using hi
 refine ⟨p.add (i*1),⟨by omega,by simpa using hi',p,rfl,by simp⟩,by rw [add_block],fun j hj=>?_⟩
 have hj0:j=0:=by simpa [trows] using hj
 subst hj0
 have:=h.cell (i:=i) (v:=.int .i64 ts[i]) (by simp [hi'])
 rw [add_add,Nat.mul_one,Nat.add_zero,this]
 simp [trows]
theorem c_live13 (w0:World):Calls prog 6 #[] w0 (fun e w'=>∃r:Bool,e=.returned (.bool r)∧(r=true∧Pure w0 w')):=by
 refine w_O1 w0 (fun r w'=>r=true∧Pure w0 w') ?_
 unfold m_O1
 refine (c_New w0).mono ?_
 rintro _ w1 ⟨_,rfl,p,rfl,E1,F1,hP1,hF1⟩
 refine ⟨_,rfl,E1.keptP,Br.f rfl ?_⟩
 refine lv_step p 2 1 7 Sp.wt (.inr rfl) w1 hP1 Sp.Ok.nil ?_
 rintro w3 ⟨F3,hP3,E3,hF3⟩
 have ok1:=Sp.of_ok Sp.Ok.nil Sp.lvA
 refine lv_step p 1 1 7 Sp.wt (.inr rfl) w3 hP3 ok1 ?_
 rintro w5 ⟨F5,hP5,E5,hF5⟩
 have ok2:=Sp.of_ok ok1 Sp.lvB
 refine lv_step p 2 1 7 Sp.wu (.inr rfl) w5 hP5 ok2 ?_
 rintro w7 ⟨F7,hP7,E7,hF7⟩
 have ok3:=Sp.of_ok ok2 Sp.lvC
 have hP:PoolAt w7 p Sp.lv3 F7:=hP7
 have s1:=E1.size
 have s3:=E3.size
 have s5:=E5.size
 have E:Pure w0 w7:=((E1.trans' E3 (fun i hi h=>by have:=hF1 i h;omega)).trans' E5 (fun i hi h=>(hF3 i h).elim (fun h=>by have:=hF1 i h;omega) (fun h=>by omega))).trans' E7 (fun i hi h=>(hF5 i h).elim (fun h=>(hF3 i h).elim (fun h=>by have:=hF1 i h;omega) (fun h=>by omega)) (fun h=>by omega))
 have hF0:∀b,F7 b→w0.heap.size≤b:=fun b hb=>(hF7 b hb).elim (fun h=>(hF5 b h).elim (fun h=>(hF3 b h).elim (hF1 b) (fun h=>by omega)) (fun h=>by omega)) (fun h=>by omega)
 have ea:=Sp.lv_a
 have eb:=Sp.lv_b
 have ec:=Sp.lv_c
 have ha1:(Sp.of [] (Sp.letterT ⟨2,1,7,Sp.wt,false⟩ false false)).1=6:=ea.1
 have ha2:(Sp.of [] (Sp.letterT ⟨2,1,7,Sp.wt,false⟩ false false)).2.1=0:=ea.2
 have hb1:(Sp.of (Sp.of [] (Sp.letterT ⟨2,1,7,Sp.wt,false⟩ false false)).2.2 (Sp.letterT ⟨1,1,7,Sp.wt,false⟩ false false)).1=7:=eb.1
 have hb2:(Sp.of (Sp.of [] (Sp.letterT ⟨2,1,7,Sp.wt,false⟩ false false)).2.2 (Sp.letterT ⟨1,1,7,Sp.wt,false⟩ false false)).2.1=0:=eb.2
 have hc1:(Sp.of (Sp.of (Sp.of [] (Sp.letterT ⟨2,1,7,Sp.wt,false⟩ false false)).2.2 (Sp.letterT ⟨1,1,7,Sp.wt,false⟩ false false)).2.2 (Sp.letterT ⟨2,1,7,Sp.wu,false⟩ false false)).1=11:=ec.1
 have hc2:(Sp.of (Sp.of (Sp.of [] (Sp.letterT ⟨2,1,7,Sp.wt,false⟩ false false)).2.2 (Sp.letterT ⟨1,1,7,Sp.wt,false⟩ false false)).2.2 (Sp.letterT ⟨2,1,7,Sp.wu,false⟩ false false)).2.1=0:=ec.2
 refine Br.f (by rw [ha2];first | rfl | (rw [hb2];first | rfl | (rw [hc2];rfl))) ?_
 rw [ha1,hb1,hc1]
 clear ha1 ha2 hb1 hb2 hc1 hc2 ea eb ec
 intro H2 w9 hs9 p1 w11 h11
 have hv9:∀b,F7 b→¬ H2 b:=hs9.disj (fun b hb=>⟨hP.lt hb,id⟩)
 have hP9:=hP.ext hs9.ext hv9
 have E9:=E.hst hs9
 have E11:Pure w9 w11:=Ext.new h11
 refine (c_arb_Judge (some p) _ _ 1 7 Sp.wt w11 (reads_pool p _ [7,6] w11 (hP9.pure E11) ok3 (Lst.of_ints [7,6] (Box.of_new h11)) (by simp)) (by simp [readAll])).mono ?_
 rintro _ w12 ⟨b,y,i,rfl,hj,E12⟩
 rw [Sp.lv_x] at hj
 cases hj
 refine ⟨_,_,_,rfl,E12.keptP,?_⟩
 intro H4 w14 hs14 p3 w15 h15
 have E12':=E11.trans E12
 have hP12:=hP9.pure E12'
 have hv14:∀b,F7 b→¬ H4 b:=hs14.disj (fun b hb=>⟨hP12.lt hb,hv9 b hb⟩)
 have hP14:=hP12.ext hs14.ext hv14
 have E14:=(E9.trans E12').hst hs14
 have E15:Pure w14 w15:=Ext.new h15
 refine (c_arb_Judge (some p) _ _ 1 7 Sp.wt w15 (reads_pool p _ [7] w15 (hP14.pure E15) ok3 (Lst.of_ints [7] (Box.of_new h15)) (by simp)) (by simp [readAll])).mono ?_
 rintro _ w16 ⟨b,y,i,rfl,hj,E16⟩
 rw [Sp.lv_y] at hj
 cases hj
 refine ⟨_,_,_,rfl,E16.keptP,?_⟩
 intro H5 w18 hs18 p5 w19 h19
 have E16':=E15.trans E16
 have hP16:=hP14.pure E16'
 have hv18:∀b,F7 b→¬ H5 b:=hs18.disj (fun b hb=>⟨hP16.lt hb,hv14 b hb⟩)
 have hP18:=hP16.ext hs18.ext hv18
 have E18:=(E14.trans E16').hst hs18
 have E19:Pure w18 w19:=Ext.new h19
 refine (c_arb_Faults (some p) _ _ w19 (reads_pool p _ [6,7,11] w19 (hP18.pure E19) ok3 (Lst.of_ints [6,7,11] (Box.of_new h19)) (by simp)) (by simp [readAll])).mono ?_
 rintro _ w20 ⟨s,rfl,hs⟩
 rw [Sp.lv_l] at hs
 have E20:=E18.trans (E19.trans hs.pure)
 refine ⟨s,rfl,hs.kept,?_⟩
 rintro _ rfl
 have hl:s.len=1:=hs.rows.len
 have O:=hs.own' (hs18.again E19.keptP)
 refine Br.t (by rw [hl];rfl) ?_
 obtain ⟨a,hat,_⟩:=O.rows.nth (f:=frow) (xs:=[⟨1,7,1,0,2⟩]) (j:=0) (by simp)
 refine ⟨a,hat,?_⟩
 intro H7 w22 hs22
 obtain ⟨a',hat',hrow⟩:=(O.hst hs22).rows.nth (f:=frow) (xs:=[⟨1,7,1,0,2⟩]) (j:=0) (by simp)
 have haa:a'=a:=by
  obtain ⟨_,_,x,hx,rfl⟩:=hat
  obtain ⟨_,_,y,hy,rfl⟩:=hat'
  rw [hx] at hy;cases hy;rfl
 subst haa
 exact ⟨_,_,_,_,_,hrow,rfl,E20.hst hs22⟩
end Go.Proofs
end
section
open Go Go.SE
namespace Go.Proofs
open Tryd
attribute [local irreducible] Calls
def told (who:Int) (c:Nat) (kind:Int):List UInt8 :=
 if kind == 1 then (([112,97,114,116,121,32]++Lib.itoa who)++[32,115,105,103,110,101,100,32,116,119,111,32,116,101,120,116,115,32,111,102,32])++Lib.decDigits c
 else if kind == 2 then [116,104,101,32,110,111,116,97,114,121,32,103,97,118,101,32,116,119,111,32,118,101,114,100,105,99,116,115,32,111,110,32]++Lib.decDigits c
 else if kind == 3 then ([116,104,101,32,111,114,105,103,105,110,97,116,111,114,32,115,105,103,110,101,100,32]++Lib.decDigits c)++[32,97,110,100,32,97,115,107,101,100,32,116,111,32,97,98,111,114,116,32,105,116]
 else []
theorem itoa_le {n:Int} (h0:-9223372036854775808≤n) (h1:n≤9223372036854775807):(Lib.itoa n).length≤21:=by
 unfold Lib.itoa
 split
 ·have:=nd20 (n:=n.natAbs) (by omega);rw [List.length_cons];omega
 ·have:=nd20 (n:=n.toNat) (by omega);omega
theorem c_arb_Explain (who : Int) (c : Nat) (k a b : Int) (w0 : World) (ht : Pow w0) (hc : c < 18446744073709551616) (h0 : -9223372036854775808 ≤ who) (h1 : who ≤ 9223372036854775807) :
  Calls prog 4 #[.agg #[.int .i64 who,.int .u64 (c:Int),.int .i64 k,.int .i64 a,.int .i64 b]] w0 (fun e w'=>∃r:ByteArray,e=.returned (.string r)∧r=⟨(told who c k).toArray⟩∧Pure w0 w'):=by
 refine w_N1 _ _ _ _ _ w0 (fun r w'=>r=⟨(told who c k).toArray⟩∧Pure w0 w') ?_
 unfold m_N1
 intro H1 w1 hs1
 have E1:Pure w0 w1:=hs1.first
 refine (c_FormatUint c hc w1 (tabIs_pure ht E1)).mono ?_
 rintro _ w2 ⟨r1,rfl,rfl,E2⟩
 have E02:=E1.trans E2
 have hd:=nd20 hc
 have hi:=itoa_le h0 h1
 refine ⟨_,rfl,E2.keptP,fun hk=>?_,fun hk=>⟨fun hk2=>?_,fun hk2=>⟨fun hk3=>?_,fun hk3=>?_⟩⟩⟩
 ·refine (c_Itoa who h0 h1 w2 (tabIs_pure ht E02)).mono ?_
  rintro _ w3 ⟨r2,rfl,rfl,E3⟩
  refine ⟨_,rfl,E3.keptP,_,run_cat [112,97,114,116,121,32] _ (by decide) (by omega),_,run_cat _ [32,115,105,103,110,101,100,32,116,119,111,32,116,101,120,116,115,32,111,102,32] (by rw [List.length_append];simp;omega) (by decide),_,run_cat _ _ (by simp only [List.length_append,List.length_cons,List.length_nil];omega) (by omega),?_,E02.trans E3⟩
  unfold told;rw [if_pos hk]
 ·refine ⟨_,run_cat [116,104,101,32,110,111,116,97,114,121,32,103,97,118,101,32,116,119,111,32,118,101,114,100,105,99,116,115,32,111,110,32] _ (by decide) (by omega),?_,E02⟩
  unfold told;rw [if_neg (by simp [hk]),if_pos hk2]
 ·refine ⟨_,run_cat [116,104,101,32,111,114,105,103,105,110,97,116,111,114,32,115,105,103,110,101,100,32] _ (by decide) (by omega),_,run_cat _ [32,97,110,100,32,97,115,107,101,100,32,116,111,32,97,98,111,114,116,32,105,116] (by rw [List.length_append];simp;omega) (by decide),?_,E02⟩
  unfold told;rw [if_neg (by simp [hk]),if_neg (by simp [hk2]),if_pos hk3]
 ·refine ⟨?_,E02⟩
  unfold told;rw [if_neg (by simp [hk]),if_neg (by simp [hk2]),if_neg (by simp [hk3])]
theorem c_ref13_Explain (who : Int) (c : Nat) (k a b : Int) (w0 : World) (hc : c < 18446744073709551616) (h0 : -9223372036854775808 ≤ who) (h1 : who ≤ 9223372036854775807) :
  Calls prog 5 #[.agg #[.int .i64 who,.int .u64 (c:Int),.int .i64 k,.int .i64 a,.int .i64 b]] w0 (fun e w'=>∃r:ByteArray,e=.returned (.string r)∧r=⟨(told who c k).toArray⟩∧Pure w0 w'):=by
 refine w_N _ _ _ _ _ w0 (fun r w'=>r=⟨(told who c k).toArray⟩∧Pure w0 w') ?_
 unfold m_N
 intro H1 w1 hs1
 have E1:Pure w0 w1:=hs1.first
 refine (c_Digits c hc w1).mono ?_
 rintro _ w2 ⟨r1,rfl,rfl,rfl⟩
 have hd:=nd20 hc
 have hi:=itoa_le h0 h1
 have J:m_N_j1 k ⟨(Lib.decDigits c).toArray⟩ ⟨(Lib.itoa who).toArray⟩ w2 (fun r w'=>r=⟨(told who c k).toArray⟩∧Pure w0 w'):=by
  unfold m_N_j1
  refine ⟨fun hk=>?_,fun hk=>⟨fun hk2=>?_,fun hk2=>⟨fun hk3=>?_,fun hk3=>?_⟩⟩⟩
  ·refine ⟨_,run_cat [112,97,114,116,121,32] _ (by decide) (by omega),_,run_cat _ [32,115,105,103,110,101,100,32,116,119,111,32,116,101,120,116,115,32,111,102,32] (by rw [List.length_append];simp;omega) (by decide),_,run_cat _ _ (by simp only [List.length_append,List.length_cons,List.length_nil];omega) (by omega),?_,E1⟩
   unfold told;rw [if_pos hk]
  ·refine ⟨_,run_cat [116,104,101,32,110,111,116,97,114,121,32,103,97,118,101,32,116,119,111,32,118,101,114,100,105,99,116,115,32,111,110,32] _ (by decide) (by omega),?_,E1⟩
   unfold told;rw [if_neg (by simp [hk]),if_pos hk2]
  ·refine ⟨_,run_cat [116,104,101,32,111,114,105,103,105,110,97,116,111,114,32,115,105,103,110,101,100,32] _ (by decide) (by omega),_,run_cat _ [32,97,110,100,32,97,115,107,101,100,32,116,111,32,97,98,111,114,116,32,105,116] (by rw [List.length_append];simp;omega) (by decide),?_,E1⟩
   unfold told;rw [if_neg (by simp [hk]),if_neg (by simp [hk2]),if_pos hk3]
  ·refine ⟨?_,E1⟩
   unfold told;rw [if_neg (by simp [hk]),if_neg (by simp [hk2]),if_neg (by simp [hk3])]
 refine ⟨_,rfl,(Ext.refl w2).keptP,fun h=>?_,fun h=>?_⟩
 ·have h:=of_decide_eq_true h
  have e:IntKind.u64.wrap ((IntKind.u64.wrap (IntKind.i64.wrap (0 - (IntKind.i64.wrap (who+1)))))+1)=((who.natAbs:Nat):Int):=by
   rw [IntWalk.i64_in (who+1) ⟨by omega,by omega⟩,IntWalk.i64_in (0 - (who+1)) ⟨by omega,by omega⟩,IntKind.wrap_u64,IntKind.wrap_u64]
   omega
  rw [e]
  refine (c_Digits who.natAbs (by omega) w2).mono ?_
  rintro _ w3 ⟨r2,rfl,rfl,rfl⟩
  have hn:=nd20 (n:=who.natAbs) (by omega)
  refine ⟨_,rfl,(Ext.refl w3).keptP,_,run_cat [45] _ (by decide) (by omega),?_⟩
  have e2:Lib.itoa who=[45]++Lib.decDigits who.natAbs:=by unfold Lib.itoa;rw [if_pos h];rfl
  rw [e2] at J
  exact J
 ·have h:=of_decide_eq_false h
  have e:IntKind.u64.wrap who=((who.toNat:Nat):Int):=by rw [IntKind.wrap_u64];omega
  rw [e]
  refine (c_Digits who.toNat (by omega) w2).mono ?_
  rintro _ w3 ⟨r2,rfl,rfl,rfl⟩
  have e2:Lib.itoa who=Lib.decDigits who.toNat:=by unfold Lib.itoa;rw [if_neg h]
  rw [e2] at J
  exact ⟨_,rfl,(Ext.refl w3).keptP,J⟩
theorem c_law13_ArbiterExplains (who : Int) (c : Nat) (k a b : Int) (w0 : World) (ht : Pow w0) (hc : c < 18446744073709551616) (h0 : -9223372036854775808 ≤ who) (h1 : who ≤ 9223372036854775807) :
  Calls prog 3 #[.agg #[.int .i64 who,.int .u64 (c:Int),.int .i64 k,.int .i64 a,.int .i64 b]] w0 (fun e w'=>∃r:Bool,e=.returned (.bool r)∧(r=true∧Pure w0 w')):=by
 refine w_P1 _ _ _ _ _ w0 (fun r w'=>r=true∧Pure w0 w') ?_
 unfold m_P1
 intro H1 w1 hs1
 have E1:Pure w0 w1.drew:=hs1.first.trans (Ext.drew w1)
 refine ⟨fun _=>True,trivial,?_⟩
 rintro _ rfl
 refine (c_arb_Explain who c k a b w1.drew (tabIs_pure ht E1) hc h0 h1).mono ?_
 rintro _ w3 ⟨r1,rfl,rfl,E3⟩
 refine ⟨_,rfl,trivial,E3.keptP,?_⟩
 have E03:=E1.trans E3
 refine (c_ref13_Explain who c k a b w3 hc h0 h1).mono ?_
 rintro _ w4 ⟨r2,rfl,rfl,E4⟩
 refine ⟨_,rfl,trivial,E4.keptP,fun _=>?_,fun h=>absurd h (by simp)⟩
 refine (c_live13 w4).mono ?_
 rintro _ w5 ⟨r3,rfl,hr,E5⟩
 exact ⟨_,rfl,trivial,E5.keptP,hr,(E03.trans E4).trans E5⟩
end Go.Proofs
end
section
namespace Go.SE
open Go.ChangeShapes Go.WideShapes Go.ChangeAt Go.RowKit
section
variable {H:Type} {enc:TypeId×Value→H} {P:Program}
theorem below_trodAll (hl : laidOutB P = true) {W W' : World} (hb : Below W.heap.size W W') : ∀ (ts : List TypeId) (vs : List Value) (ds : List (DataW H)) (ps : List MemPlace), (ts.all fun t => P.readableRec t && decide (t < P.types.size)) = true →
  DataW.TrodAll enc P W 0 (fun _=>true) true ts vs ds ps→(∀x∈ps,x.block<W.heap.size)→DataW.TrodAll enc P W' 0 (fun b=>decide (b<W.heap.size)) true ts vs ds ps
 | [],_,_,_,_,h,_=>by
  obtain ⟨rfl,rfl,rfl⟩:=trodAll_nil h
  exact h
 | t :: ts,_,_,_,hr,h,hlt=>by
  obtain ⟨v,vs1,d,ds1,a,b,rfl,rfl,rfl,h1,h2⟩:=trodAll_cons h
  simp only [List.all_cons,Bool.and_eq_true,decide_eq_true_eq] at hr
  exact ⟨a,b,Below.trod hl hr.1.1 hr.1.2 h1 hb (fun x hx=>hlt x (by simp [hx])),below_trodAll hl hb ts vs1 ds1 b (by simpa using hr.2) h2 (fun x hx=>hlt x (by simp [hx])),rfl⟩
theorem law_post {f : Func} {s : ChangeSpec} {W W' : World} {args : Array Value} {ds gs : List (DataW H)} {before : List MemPlace} {t : TypeId} (hl : laidOutB P = true)
  (hv:s.vars=[]) (hf:∀ds:List (DataW H),ds.length=f.params.size→s.fn H ds={ results:=[.lit (.bool true)],args:=ds }) (hrt:f.resultTypes=#[t]) (ht:P.underlying t=some .bool)
  (hr:(f.params.toList.all fun t=>P.readableRec t && decide (t<P.types.size))=true)
  (hW:DataW.Whole enc P f.params.toList s.vars false W args.toList ds gs before) (E:Pure W W') :
  s.post enc P f false true false false W args (.bool true) W':=by
 have hW':=hW
 obtain ⟨p,q,hA,hV,rfl,hfz,hnd⟩:=hW
 rw [hv] at hV
 obtain ⟨rfl,rfl⟩:=trodVars_none hV
 have hlen:ds.length=f.params.size:=by
  have:∀(ts:List TypeId) (vs:List Value) (ds:List (DataW H)) (ps:List MemPlace),DataW.TrodAll enc P W 0 (fun _=>true) true ts vs ds ps→ds.length=ts.length:=by
   intro ts
   induction ts with
   | nil=>intro vs ds ps h;obtain ⟨_,rfl,_⟩:=trodAll_nil h;rfl
   | cons t ts ih =>
    intro vs ds ps h
    obtain ⟨v,vs1,d,ds1,a,b,_,rfl,_,_,h2⟩:=trodAll_cons h
    simp [ih _ _ _ h2]
  simpa using this _ _ _ _ hA
 have hfn:=hf ds hlen
 have hfn':s.fn H (ds++[])={ results:=[.lit (.bool true)],args:=ds }:=by rw [List.append_nil];exact hfn
 have hlt:∀x∈p,x.block<W.heap.size:=fun x hx=>by simpa using hW'.lt x (by simp [hx])
 have bel:=E.below
 refine ⟨ds,[],p++[],[],p,[],hW',?_,?_,?_,bel.frame _,fun h=>by cases h⟩
 ·rw [hfn',hrt];exact trodAll_mk1 (shut_bool ht _)
 ·rw [hfn'];exact below_trodAll hl bel _ _ _ _ hr hA hlt
 ·rw [hfn',hv];exact hV
end
end Go.SE
namespace Go.SE
open Go.ChangeShapes Go.WideShapes Go.ChangeAt Go.RowKit
section
variable {P:Program} {W:World} {r:Reach} {b0:Nat} {t:TypeId} {v:Value}
theorem okWide_cells {fs : Array Field} {ts : List TypeId} (ht : P.underlying t = some (.struct fs)) (hc : P.cellTypes P.depth t = some ts) (hn : P.cellsOf t = ts.length) (h : Value.okWide P W r b0 t v) :
  ∃cs:Array Value,v=.agg cs∧cs.size=ts.length∧∀(i:Nat) (u:TypeId) (c:Value),ts[i]?=some u→cs[i]?=some c→Cell.okWide P W r b0 u c:=by
 unfold Value.okWide at h
 rw [ht] at h
 obtain ⟨cs,rfl,hs,ts',hts,_,hall⟩:=h
 rw [hc] at hts
 cases hts
 refine ⟨cs,rfl,hs.trans hn,fun i u c hu hcs=>?_⟩
 obtain ⟨u',hu',hok⟩:=hall i c hcs
 have hlt:i<ts.length:=(List.getElem?_eq_some_iff.1 hu).1
 rw [Nat.mod_eq_of_lt hlt,hu] at hu'
 cases hu'
 exact hok
end
end Go.SE
end
