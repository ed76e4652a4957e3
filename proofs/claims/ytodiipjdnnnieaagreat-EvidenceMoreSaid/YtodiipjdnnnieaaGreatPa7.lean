import Derived.Test.YtodiipjdnnnieaaGreatPa6
import Derived.Test.YtodiipjdnnnieaaGreatPa4
import Derived.Test.YtodiipjdnnnieaaGreatPa5
import Derived.Test.YtodiipjdnnnieaaGreatPa3
import Derived.ProofKit
import Derived.Carry
import Derived.OpenShut
import Derived.Stop.Joined
section
open Go Go.SE
namespace Go.Sp
end Go.Sp
namespace Go.Proofs
attribute [local irreducible] Calls
structure Pl3 (w0:World) (H:NP) (w:World) (p q:Addr) (L1 L2:Sp.Pool) (t:Sl) (ids:List Int) (F1 F2:NP):Prop where
 pure:Pure w0 w
 pool:jU w p L1 F1
 ref:kH w q L2 F2
 ts:Rws w 78 1 t (tmr ids)
 o1:∀b,F1 b→w0.heap.size≤b∧¬ H b∧¬ F2 b∧¬ t.blk b
 o2:∀b,F2 b→w0.heap.size≤b∧¬ H b∧¬ t.blk b
 o3:∀b,t.blk b→w0.heap.size≤b∧¬ H b
section
variable {w0 w w':World} {H H':NP} {p q:Addr} {L1 L2:Sp.Pool} {t:Sl} {ids:List Int} {F1 F2:NP}
theorem Pl3.hst (h:Pl3 w0 H w p q L1 L2 t ids F1 F2) (hs:Hst w0 H w H' w'):Pl3 w0 H' w' p q L1 L2 t ids F1 F2:=by
 have d:∀b,b<w.heap.size→¬ H b→¬ H' b:=fun b h1 h2=>hs.disj (G:=(·=b)) (fun c e=>by subst e;exact ⟨h1,h2⟩) b rfl;have d1:∀b,F1 b→¬ H' b:=fun b hb=>d b (h.pool.lt hb) (h.o1 b hb).2.1;have d2:∀b,F2 b→¬ H' b:=fun b hb=>d b (h.ref.lt hb) (h.o2 b hb).2.1;have d3:∀b,t.blk b→¬ H' b:=fun b hb=>d b (h.ts.lt hb) (h.o3 b hb).2;exact ⟨h.pure.hst hs,h.pool.ext hs.ext d1,h.ref.ext hs.ext d2,h.ts.ext hs.ext d3,fun b hb=>⟨(h.o1 b hb).1,d1 b hb,(h.o1 b hb).2.2⟩,fun b hb=>⟨(h.o2 b hb).1,d2 b hb,(h.o2 b hb).2.2⟩,fun b hb=>⟨(h.o3 b hb).1,d3 b hb⟩⟩
theorem Pl3.of1 (h:Pl3 w0 H w p q L1 L2 t ids F1 F2) (hH:∀b,H b→b<w.heap.size) {L:Sp.Pool} {F:NP} (hP:jU w' p L F) (hE:Ext F1 w w') (hF:∀b,F b→F1 b∨w.heap.size≤b):Pl3 w0 H w' p q L L2 t ids F F2:=by
 refine ⟨h.pure.trans' hE (fun i hi hb=>by have:=(h.o1 i hb).1;omega),hP,h.ref.ext hE (fun b hb h1=>(h.o1 b h1).2.2.1 hb),h.ts.ext hE (fun b hb h1=>(h.o1 b h1).2.2.2 hb),fun b hb=>?_,h.o2,h.o3⟩;rcases hF b hb with h1 | h1
 ·exact h.o1 b h1
 ·exact ⟨by have:=h.pure.size;omega,fun hh=>by have:=hH b hh;omega,fun hh=>by have:=h.ref.lt hh;omega,fun hh=>by have:=h.ts.lt hh;omega⟩
theorem Pl3.of2 (h:Pl3 w0 H w p q L1 L2 t ids F1 F2) (hH:∀b,H b→b<w.heap.size) {L:Sp.Pool} {F:NP} (hP:kH w' q L F) (hE:Ext F2 w w') (hF:∀b,F b→F2 b∨w.heap.size≤b):Pl3 w0 H w' p q L1 L t ids F1 F:=by
 refine ⟨h.pure.trans' hE (fun i hi hb=>by have:=(h.o2 i hb).1;omega),h.pool.ext hE (fun b hb h1=>(h.o1 b hb).2.2.1 h1),hP,h.ts.ext hE (fun b hb h1=>(h.o2 b h1).2.2 hb),fun b hb=>?_,fun b hb=>?_,h.o3⟩
 ·refine ⟨(h.o1 b hb).1,(h.o1 b hb).2.1,fun hh=>?_,(h.o1 b hb).2.2.2⟩;rcases hF b hh with h1 | h1
  ·exact (h.o1 b hb).2.2.1 h1
  ·have:=h.pool.lt hb;omega
 ·rcases hF b hb with h1 | h1
  ·exact h.o2 b h1
  ·exact ⟨by have:=h.pure.size;omega,fun hh=>by have:=hH b hh;omega,fun hh=>by have:=h.ts.lt hh;omega⟩
end
end Go.Proofs
end
section
open Go Go.SE
namespace Go.Proofs
attribute [local irreducible] Calls
structure KqAt (w0:World) (H:NP) (w:World) (p q k:Addr) (L:Sp.Pool) (G:List Int) (S:List Sp.Way) (FP FR F:NP):Prop where
 kn:KnAt w0 H w p k L G S FP F
 ref:kH w q L FR
 oR:∀b,FR b→¬ H b
section
variable {w0 w w':World} {H H':NP} {p q k:Addr} {L:Sp.Pool} {G:List Int} {S:List Sp.Way} {FP FR F:NP}
theorem KqAt.hst (h:KqAt w0 H w p q k L G S FP FR F) (hs:Hst w0 H w H' w'):KqAt w0 H' w' p q k L G S FP FR F:=by
 have x1:=hs.disj (G:=FR) (fun b hb=>⟨h.ref.lt hb,h.oR b hb⟩);exact ⟨h.kn.hst hs,h.ref.ext hs.ext x1,x1⟩
theorem KqAt.start {w1 w2 w3:World} {t:Sl} {ids:List Int} (hE:Pure w0 w1) (hs:Hst w0 H w1 H w1) (hq:Pl3 w1 None w2 p q L L t ids FP FR) (hk:zY w3 k p G S F) (E:Pure w2 w3) (hF:∀b,F b→w2.heap.size≤b):KqAt w0 H w3 p q k L G S FP FR F:=by
 have z1:=hE.size;have z2:=hq.pure.size;have z3:=E.size;refine ⟨⟨hq.pool.pure E,hk,(hE.trans hq.pure).trans E,fun b hb=>?_,fun b hb=>?_,(hs.again hq.pure.keptP).again E.keptP⟩,hq.ref.pure E,fun b hb hh=>?_⟩
 ·have:=(hq.o1 b hb).1;exact ⟨by omega,fun hh=>by have:=hs.lt b hh;omega⟩
 ·have:=hF b hb;exact ⟨by omega,fun hh=>by have:=hs.lt b hh;omega,fun hh=>by have:=hq.pool.lt hh;omega⟩
 ·have:=(hq.o2 b hb).1;have:=hs.lt b hh;omega
end
end Go.Proofs
end
section
open Go Go.SE
namespace Go.Sp
theorem Drv.inp {L:Pool} {K:Int→Prop} {t:Int} (h:Drv L K t) (hK:K t→inP L t=true):inP L t=true:=by
 cases hin:inP L t with
 | true=>rfl
 | false =>
  have hk:(jI L t).kind=0:=by unfold jI;rw [vL hin];rfl
  cases h with
  | seen h=>rw [hK h] at hin;cases hin
  | free h=>rw [hk] at h;cases h
  | pair h _ _=>rw [hk] at h;cases h
  | hash h _=>rw [hk] at h;cases h
  | sign h _ _ _=>rw [hk] at h;cases h
end Go.Sp
namespace Go.Proofs
attribute [local irreducible] Calls
theorem jDP (x q:Addr) (w0:World) {L:Sp.Pool} {G:List Int} {F FR:NP} (h:jCC w0 x q G F) (hP:kH w0 q L FR) (hW:Sp.Wf L) (hG:∀g∈G,Sp.inP L g=true) (hGn:G.length≤100000) :
  Calls Tryz.prog 31 #[.pointer (some x)] w0 (fun e w'=>∃r:Sl,e=.returned r.v∧∃l,RetO w0 78 1 (tmr l) r w'∧(∀y,y∈l↔Sp.inP L y=true∧Sp.Seen L G y)∧l.Pairwise (·<·)):=by
 refine w_Q1 _ w0 (fun r w'=>∃l,RetO w0 78 1 (tmr l) r w'∧(∀y,y∈l↔Sp.inP L y=true∧Sp.Seen L G y)∧l.Pairwise (·<·)) ?_
 unfold m_Q1
 have hnil:∀b,¬ Sl.nil.blk b:=fun b hb=>by obtain ⟨a,h,_⟩:=hb;cases h
 have hL:=hW.ok.few
 refine (jDO x q w0 h hP hW hG hGn).mono ?_
 rintro _ w1 ⟨r1,rfl,V,hR,hV⟩
 refine ⟨_,rfl,?_⟩
 have lr:r1.len=L.length+1:=by rw [hR.rows.len,oB]
 refine ⟨fun l t w'=>∃(j:Nat) (ls:List Int),t=(j:Int)+1∧j≤L.length∧Pure w1 w'∧Rws w' 78 1 l (tmr ls)∧(∀b,l.blk b→w1.heap.size≤b)∧(∀y,y∈ls↔(1≤y∧y≤j)∧V y=true)∧ls.Pairwise (·<·)∧ls.length≤j,fun _ t _=>((L.length:Int)+1 - t).toNat,
  ⟨0,[],by omega,Nat.zero_le _,Ext.refl _,Rws.nil _ _ _,fun b hb=>(hnil b hb).elim,fun y=>⟨fun h=>by (cases h),fun h=>by omega⟩,List.Pairwise.nil,Nat.le_refl _⟩,?_⟩
 rintro l _ wl ⟨j,ls,rfl,hj,E,hl,hln,hm,hpw,hlen⟩
 unfold m_Q1_l1
 rw [lr]
 refine ⟨fun hc=>?_,fun hc=>?_⟩
 ·have hc:=of_decide_eq_true hc
  have hj':j<L.length:=by omega
  have hw:IntKind.i64.wrap ((j:Int)+1+1)=((j+1:Nat):Int)+1:=by rw [IntWalk.i64_in _ (by omega)];omega
  obtain ⟨a,hat,_,hv⟩:=jCA (hR.rows.pure E) (t:=(j:Int)+1) (by omega) (by omega)
  refine ⟨a,hat,_,hv,fun ht=>?_,fun hf=>?_⟩
  ·intro p1 w2 h2
   have E2:Pure wl w2:=Ext.new h2
   obtain ⟨s1,w3,hr3,R3,X3,f3⟩:=(hl.pure E2).append (P:=Tryz.prog) (ty:=46) (c:=1) xP (r:=[.int .i64 ((j:Int)+1)]) (Box.of_new h2).row rfl rfl (by rw [zT];omega) (by rw [zT];simp [maxLen];omega)
   refine ⟨s1,w3,hr3,?_⟩
   rw [hw]
   refine ⟨⟨j+1,ls++[(j:Int)+1],rfl,hj',(E.trans E2).trans' X3 (fun i hi hb=>by have:=hln i hb;omega),by rw [show tmr (ls++[(j:Int)+1])=tmr ls++[[.int .i64 ((j:Int)+1)]] by simp [tmr]];exact R3,fun b hb=>(f3 b hb).elim (hln b) (fun h=>by have:=(E.trans E2).size;omega),fun y=>?_,?_,by simp;omega⟩,by show ((L.length:Int)+1 - (((j+1:Nat):Int)+1)).toNat<((L.length:Int)+1 - ((j:Int)+1)).toNat;omega⟩
   ·rw [List.mem_append,hm,List.mem_singleton]
    constructor
    ·rintro (⟨h1,h2⟩ | rfl)
     ·exact ⟨by omega,h2⟩
     ·exact ⟨by omega,ht⟩
    ·rintro ⟨h1,h2⟩
     by_cases e:y=(j:Int)+1
     ·exact .inr e
     ·exact .inl ⟨by omega,h2⟩
   ·rw [List.pairwise_append]
    exact ⟨hpw,by simp,fun a ha b hb=>by simp at hb;have:=((hm a).1 ha).1;omega⟩
  ·rw [hw]
   refine ⟨⟨j+1,ls,rfl,hj',E,hl,hln,fun y=>?_,hpw,by omega⟩,by show ((L.length:Int)+1 - (((j+1:Nat):Int)+1)).toNat<((L.length:Int)+1 - ((j:Int)+1)).toNat;omega⟩
   rw [hm]
   constructor
   ·rintro ⟨h1,h2⟩;exact ⟨by omega,h2⟩
   ·rintro ⟨h1,h2⟩
    by_cases e:y=(j:Int)+1
    ·subst e;rw [h2] at hf;cases hf
    ·exact ⟨by omega,h2⟩
 ·have hc:=of_decide_eq_false hc
  have hj':j=L.length:=by omega
  subst hj'
  refine ⟨ls,⟨hl,fun b hb=>by have:=hln b hb;have:=hR.pure.size;omega,hR.pure.trans E⟩,fun y=>?_,hpw⟩
  rw [hm,← Sp.kM]
  exact and_congr_right fun hy=>hV y hy
end Go.Proofs
end
section
open Go Go.SE
namespace Go.Sp
theorem uE {L:Pool} {ts:List Int} {x:Int}:x∈qW L ts↔x∈ts∧inP L x=true:=by
 have:∀(ts G:List Int),x∈ts.foldl (vR L) G↔x∈G∨(x∈ts∧inP L x=true):=by
  intro ts;induction ts with
  | nil=>intro G;simp
  | cons t ts ih =>
   intro G
   rw [List.foldl_cons,ih]
   unfold vR
   split
   ·rename_i h
    rw [xC]
    simp only [List.mem_cons]
    constructor
    ·rintro ((h1 | rfl) | h1)
     ·exact .inl h1
     ·exact .inr ⟨.inl rfl,h⟩
     ·exact .inr ⟨.inr h1.1,h1.2⟩
    ·rintro (h1 | ⟨rfl | h1,h2⟩)
     ·exact .inl (.inl h1)
     ·exact .inl (.inr rfl)
     ·exact .inr ⟨h1,h2⟩
   ·rename_i h
    simp only [List.mem_cons]
    constructor
    ·rintro (h1 | h1)
     ·exact .inl h1
     ·exact .inr ⟨.inr h1.1,h1.2⟩
    ·rintro (h1 | ⟨rfl | h1,h2⟩)
     ·exact .inl h1
     ·exact absurd h2 h
     ·exact .inr ⟨h1,h2⟩
 rw [qW,this];simp
theorem jAM (L:Pool) (ts:List Int):(qW L ts).length≤ts.length:=by
 have:∀(ts G:List Int),(ts.foldl (vR L) G).length≤G.length+ts.length:=by
  intro ts;induction ts with
  | nil=>intro G;simp
  | cons t ts ih =>
   intro G
   have h1:=ih (vR L G t)
   have h2:(vR L G t).length≤G.length+1:=by
    unfold vR;split
    ·unfold jCX;split
     ·omega
     ·simp
    ·omega
   simp only [List.foldl_cons,List.length_cons];omega
 have:=this ts [];simpa [qW] using this
theorem Seen.inP' {L:Pool} (hW:Wf L) {G:List Int} (hG:∀g∈G,inP L g=true) {t:Int} (h:Seen L G t):inP L t=true:=by
 induction h with
 | given h=>exact hG _ h
 | aris _ ha ih=>exact (ha.inp hW ih).1
theorem Seen.idem {L:Pool} {G M:List Int} (h1:∀t∈M,Seen L G t) {t:Int} (h:Seen L M t):Seen L G t:=by
 induction h with
 | given h=>exact h1 _ h
 | aris _ ha ih=>exact .aris ih ha
theorem jDT.same {L:Pool} {G M:List Int} {fs gs:List Fact} (h:jDT L G fs) (h':jDT L M gs) (hs:∀t,Seen L G t↔Seen L M t):fs=gs :=
 xO h.1 h'.1 fun x=>by rw [h.2,h'.2];exact exists_congr fun t=>and_congr_left fun _=>hs t
end Go.Sp
namespace Go.Proofs
attribute [local irreducible] Calls
theorem jFN {S1:NP} (sa:Sl) (fs:List Sp.Fact) (g:Sp.Fact) (w0:World) (ha:Lst S1 w0 4 sa (fs.map yP)) (hn:fs.length≤1000000) :
  Calls Tryz.prog 27 #[sa.v,.agg #[.int .i64 g.kind,.int .i64 g.who,.int .u64 g.c,.string g.text]] w0 (fun e w'=>∃r:Bool,e=.returned (.bool r)∧(r=decide (g∈fs)∧Pure w0 w')):=by
 suffices key:∀K:Bool→WP,(∀w',Pure w0 w'→K (decide (g∈fs)) w')→m_F1 sa g.kind g.who g.c g.text w0 K from
  w_F1 _ _ _ _ _ w0 _ (key _ (fun _ h=>⟨rfl,h⟩))
 intro K hK
 unfold m_F1
 have hla:sa.len=fs.length:=by rw [ha.len];simp
 intro H1 w1 hs1
 refine ⟨fun i H w'=>∃j:Nat,i=j∧j≤fs.length∧Pure w0 w'∧g ∉ fs.take j,fun i _=>((fs.length:Int) - i).toNat,⟨0,rfl,Nat.zero_le _,hs1.first,by simp⟩,?_⟩
 rintro _ Hl wl _ ⟨j,rfl,hj,El,ht⟩
 unfold m_F1_l1
 refine ⟨fun h=>?_,fun h=>?_⟩
 ·have hlt:=zQ hla h
  obtain ⟨a2,hat,_,hrow⟩:=ha.nth hlt
  refine ⟨a2,hat,fun w2 hs2=>?_⟩
  have E1:=El.hst hs2
  refine ⟨_,_,_,_,E1.row hrow id,fun hd=>?_,fun hd=>?_⟩
  ·rw [vZ] at hd
   have hd:=of_decide_eq_true hd
   have:=hK w2 E1
   rwa [decide_eq_true (hd▸List.getElem_mem hlt)] at this
  ·rw [vZ] at hd
   have hd:¬ fs[j]=g:=by simpa using hd
   rw [zA hlt (by omega)]
   refine ⟨⟨j+1,rfl,hlt,E1,?_⟩,kO hlt⟩
   rw [List.take_succ_eq_append_getElem hlt]
   simp only [List.mem_append,List.mem_singleton,not_or]
   exact ⟨ht,fun e=>hd e.symm⟩
 ·have hge:=zV hla hj h
  subst hge
  rw [List.take_length] at ht
  have:=hK wl El
  rwa [decide_eq_false ht] at this
theorem yL {S S1 S2:NP} (ts:List Sp.Tree) (l m:List Int) (s sl sm:Sl) (w0:World) (hT:TreeAt S w0 s (.mk 0 0 0 0 ⟨#[]⟩ ts)) (hS:∀b,S b→b<w0.heap.size)
  (hl:Lst S1 w0 1 sl (tmr l)) (hm:Lst S2 w0 1 sm (tmr m)) :
  Calls Tryz.prog 4 #[s.v,sl.v,sm.v] w0 (fun e w'=>∃r:Bool,e=.returned (.bool r)∧(r=true∧Pure w0 w')):=by
 refine w_F _ _ _ w0 (fun r w'=>r=true∧Pure w0 w') ?_
 unfold m_F
 have ll:sl.len=l.length:=by rw [hl.len,zT]
 have lm:sm.len=m.length:=by rw [hm.len,zT]
 refine (jBA ts s w0 hT hS).mono ?_
 rintro _ w17 ⟨z,rfl,hz,E17⟩
 refine ⟨z,rfl,E17.keptP,fun H w19 hs19=>?_⟩
 have E19:=E17.hst hs19
 unfold m_F_j1
 refine ⟨fun h=>?_,fun h=>?_⟩
 ·refine (jCR w19).mono ?_
  rintro _ w3 ⟨_,rfl,rfl,E3⟩
  exact ⟨_,rfl,E3.keptP,rfl,E19.trans E3⟩
 rw [Bool.or_eq_false_iff,Bool.or_eq_false_iff] at h
 obtain ⟨⟨h1,h2⟩,h3⟩:=h
 obtain ⟨hn,hc⟩:=hz h1
 have h2:l.length≤20:=by have:=of_decide_eq_false h2;omega
 have h3:m.length≤20:=by have:=of_decide_eq_false h3;omega
 refine (tR ts s w19 (hT.pure E19) (fun b hb=>by have:=hS b hb;have:=E19.size;omega) hn).mono ?_
 rintro _ w2 ⟨_,_,_,rfl,p,q,F1,F2,rfl,rfl,rfl,P2⟩
 refine ⟨_,_,_,rfl,P2.pure.keptP,Br.f rfl ?_⟩
 obtain ⟨hW,_⟩:=Sp.jAE ts
 generalize Sp.vX ts=L at *
 have G2:=E19.trans P2.pure
 refine (xE p sl l w2 P2.pool hW (hl.pure G2) (by omega)).mono ?_
 rintro _ w3 ⟨r5,rfl,fa,hr5,hA,nA⟩
 refine ⟨r5,rfl,hr5.kept,fun p1 w4 h4=>?_⟩
 have hH:∀b,H b→b<w19.heap.size:=hs19.lt
 have z2:=P2.pure.size
 have z3:=hr5.pure.size
 have E34:Pure w3 w4:=Ext.new h4
 have hp1:w3.heap.size≤p1.block:=New.own (Ext.refl w3) h4
 have R4:Rws w4 78 1 ⟨some p1,0,0⟩ (tmr []):=Rws.lit (rs:=[]) h4 rfl (by simp) (by simp)
 have hb4:∀b,(Sl.mk (some p1) 0 0).blk b→w3.heap.size≤b:=fun b h=>by obtain ⟨a,ha,rfl⟩:=h;cases ha;exact hp1
 have G4:=(G2.trans hr5.pure).trans E34
 obtain ⟨s1,w5,hrun5,hR5,hE5,hb5⟩:=R4.appendL (P:=Tryz.prog) xP (ty:=46) (hl.pure G4) (jHG _) (jEJ _) (by rw [zT,zT];simp;omega) (by rw [zT,zT];simp [maxLen];omega)
 have E35:Pure w3 w5:=E34.trans' hE5 (fun i hi h=>by have:=hb4 i h;omega)
 have o5:∀b,s1.blk b→w3.heap.size≤b:=fun b hb=>(hb5 b hb).elim (hb4 b) (fun h=>by have:=E34.size;omega)
 refine ⟨s1,w5,hrun5,hE5.kept (fun b hb h=>by have:=hb4 b h;have:=hH b hb;omega),?_⟩
 have G5:=(G2.trans hr5.pure).trans E35
 have hR5:Rws w5 78 1 s1 (tmr l):=hR5
 obtain ⟨s2,w6,hrun6,hR6,hE6,hb6⟩:=hR5.appendL (P:=Tryz.prog) xP (ty:=46) (hm.pure G5) (jHG _) (jEJ _) (by rw [zT,zT];omega) (by rw [zT,zT];simp [maxLen];omega)
 have E36:Pure w3 w6:=E35.trans' hE6 (fun i hi h=>by have:=o5 i h;omega)
 refine ⟨s2,w6,hrun6,hE6.kept (fun b hb h=>by have:=o5 b h;have:=hH b hb;omega),?_⟩
 have hR6:Rws w6 78 1 s2 (tmr (l++m)):=by rw [show tmr (l++m)=tmr l++tmr m from List.map_append];exact hR6
 have E26:=hr5.pure.trans E36
 refine (xE p s2 (l++m) w6 (P2.pool.pure E26) hW hR6.lst (by rw [List.length_append];omega)).mono ?_
 rintro _ w7 ⟨r6,rfl,fb,hr6,hB,nB⟩
 have E37:=E36.trans hr6.pure
 have E27:=hr5.pure.trans E37
 have z7:=E27.size
 have rA:=hr5.rows.pure E37
 have lA:r5.len=fa.length:=by rw [rA.len];simp
 have sub:∀x∈fa,x∈fb:=fun x hx=>by
  obtain ⟨t,ht,hx⟩:=(hA.2 x).1 hx;exact (hB.2 x).2 ⟨t,ht.mono (fun g hg=>by rw [Sp.uE] at hg ⊢;exact ⟨List.mem_append_left _ hg.1,hg.2⟩),hx⟩
 have la7:fa.length≤1000000:=by omega
 have lb7:fb.length≤1000000:=by omega
 refine ⟨r6,rfl,hr6.kept,fun i H' w'=>∃j:Nat,i=j∧j≤fa.length∧H=H'∧Pure w7 w',fun i _=>((fa.length:Int) - i).toNat,⟨0,rfl,Nat.zero_le _,rfl,Ext.refl _⟩,?_⟩
 rintro _ _ wl hl1 ⟨j,rfl,hj,rfl,El⟩
 unfold m_F_l2
 refine ⟨fun h=>?_,fun h p2 w11 h11=>?_⟩
 ·have hlt:=zQ lA h
  have nxt:∀w',Pure w7 w'→(∃j':Nat,IntKind.i64.wrap ((j:Int)+1)=j'∧j'≤fa.length∧H=H∧Pure w7 w')∧((fa.length:Int) - IntKind.i64.wrap ((j:Int)+1)).toNat<((fa.length:Int) - (j:Int)).toNat:=fun w' E=>by
   rw [zA hlt (by omega)];exact ⟨⟨j+1,rfl,hlt,rfl,E⟩,kO hlt⟩
  refine ⟨Pure wl,Ext.drew wl,?_⟩
  rintro _ rfl
  have Ed:Pure wl wl.drew:=Ext.drew wl
  obtain ⟨a1,hat1,hrow1⟩:=(rA.pure El).nth hlt
  refine ⟨a1,hat1,_,_,_,_,Ed.row hrow1 id,(jFN r6 fb fa[j] _ ((hr6.rows.pure El).pure Ed).lst lb7).mono ?_⟩
  rintro _ w9 ⟨_,rfl,rfl,E9⟩
  have F9:=Ed.trans E9
  refine ⟨_,rfl,F9,E9.keptP,Br.f (by rw [decide_eq_true (sub _ (List.getElem_mem hlt))];rfl) ⟨fun h0=>?_,fun h0=>?_⟩⟩
  ·have h0:=of_decide_eq_true h0
   have hw:IntKind.i64.wrap ((j:Int) - 1)=((j - 1:Nat):Int):=by rw [i64 (by omega) (by omega)];omega
   obtain ⟨a2,hat2,hrow2⟩:=(rA.pure El).nth (show j - 1<fa.length by omega)
   rw [hw]
   refine ⟨a2,hat2,_,_,_,_,fun w' E=>E.row hrow2 id,a1,hat1,_,_,_,_,fun w' E=>E.row hrow1 id,(gU fa[j - 1] fa[j] w9).mono ?_⟩
   rintro _ w10 ⟨_,rfl,rfl,E10⟩
   refine ⟨_,rfl,F9.trans E10,E10.keptP,?_⟩
   unfold m_F_j4
   have hlt2:Sp.LtF (fa[j - 1]'(by omega)) fa[j]:=(List.pairwise_iff_getElem.1 hA.1) (j - 1) j (by omega) hlt (by omega)
   have:=Sp.yV.2 hlt2
   refine Br.f (by rw [decide_eq_false];omega) ?_
   unfold m_F_j3
   exact nxt w10 (El.trans (F9.trans E10))
  ·unfold m_F_j4
   refine Br.f rfl ?_
   unfold m_F_j3
   exact nxt w9 (El.trans F9)
 have E11:Pure wl w11:=Ext.new h11
 have hp2:w7.heap.size≤p2.block:=New.own El h11
 have K0:jCC w11 p2 q [] (·=p2.block):=⟨Sl.nil,⟨Box.of_new h11,Rws.nil _ _ _,fun h=>by obtain ⟨a,h,_⟩:=h;cases h⟩,fun b=>⟨fun h=>.inl h,fun h=>h.elim id (fun h=>by obtain ⟨a,h,_⟩:=h;cases h)⟩⟩
 have hHl:∀b,H b→b<w7.heap.size:=fun b hb=>by have:=hH b hb;omega
 refine ⟨fun i H' w'=>∃j:Nat,i=j∧j≤l.length∧H=H'∧Pure w7 w'∧∃FK,jCC w' p2 q (Sp.qW L (l.take j)) FK∧∀b,FK b→w7.heap.size≤b,fun i _=>((l.length:Int) - i).toNat,⟨0,rfl,Nat.zero_le _,rfl,El.trans E11,_,K0,fun b hb=>by rw [hb];exact hp2⟩,?_⟩
 rintro _ _ wm hl2 ⟨i,rfl,hi,rfl,Em,FK,hK,hFK⟩
 unfold m_F_l5
 have G7:=G2.trans E27
 refine ⟨fun h=>?_,fun h=>?_⟩
 ·have hlt:=zQ ll h
  obtain ⟨a,hat,_,hv⟩:=uB (hl.pure (G7.trans Em)) hlt
  have:=Sp.jAM L (l.take i)
  have:(l.take i).length≤20:=by rw [List.length_take];omega
  refine ⟨a,hat,_,hv,(jFP p2 q l[i] wm hK (P2.ref.pure (E27.trans Em)) (by omega)).mono ?_⟩
  rintro _ w12 ⟨r9,rfl,F',hK',X,hF'⟩
  refine ⟨r9,rfl,X.kept (fun b hb hf=>by have:=hFK b hf;have:=hHl b hb;omega),?_⟩
  rw [zA hlt (by omega)]
  have e:Sp.qW L (l.take (i+1))=Sp.vR L (Sp.qW L (l.take i)) l[i]:=by
   unfold Sp.qW;rw [List.take_succ_eq_append_getElem hlt,List.foldl_append];rfl
  have:=Em.size
  exact ⟨⟨i+1,rfl,hlt,rfl,Em.trans' X (fun k hk hf=>by have:=hFK k hf;omega),F',by rw [e];exact hK',fun b hb=>(hF' b hb).elim (hFK b) (fun h=>by omega)⟩,kO hlt⟩
 have hge:=zV ll hi h
 subst hge
 rw [List.take_length] at hK
 have hGi:∀g∈Sp.qW L l,Sp.inP L g=true:=fun g hg=>(Sp.uE.1 hg).2
 have:=Sp.jAM L l
 refine (jDP p2 q wm hK (P2.ref.pure (E27.trans Em)) hW hGi (by omega)).mono ?_
 rintro _ w13 ⟨r10,rfl,y,hr10,hy,hys⟩
 have F13:=Em.trans hr10.pure
 have hyl:y.length≤L.length:=Sp.xB (hys.imp (fun h=>by omega)) (fun t ht=>((hy t).1 ht).1)
 have hL:=hW.ok.few
 refine ⟨r10,rfl,hr10.kept,(xE p r10 y w13 (P2.pool.pure (E27.trans F13)) hW hr10.rows.lst (by omega)).mono ?_⟩
 rintro _ w14 ⟨r11,rfl,fc,hr11,hC,_⟩
 have hsame:fc=fa:=hC.same hA (fun t=>⟨fun h=>h.idem (fun t ht=>((hy t).1 (Sp.uE.1 ht).1).2),fun h=>.given (Sp.uE.2 ⟨(hy t).2 ⟨h.inP' hW hGi,h⟩,h.inP' hW hGi⟩)⟩)
 subst hsame
 have F14:=F13.trans hr11.pure
 refine ⟨r11,rfl,hr11.kept,(jDN r11 r5 fc fc w14 hr11.rows.lst (rA.pure F14).lst la7).mono ?_⟩
 rintro _ w15 ⟨_,rfl,rfl,E15⟩
 refine ⟨_,rfl,E15.keptP,Br.t (by simp) ((jCR w15).mono ?_)⟩
 rintro _ w16 ⟨_,rfl,rfl,E16⟩
 exact ⟨_,rfl,E16.keptP,rfl,((G7.trans F14).trans E15).trans E16⟩
end Go.Proofs
end
section
namespace Go.SE
open Go.ChangeShapes Go.WideShapes Go.ChangeAt Go.RowKit
section
variable {H:Type} {enc:TypeId×Value→H} {P:Program}
theorem uM (hl:laidOutB P=true) {W W':World} (hb:Below W.heap.size W W'):∀(ts:List TypeId) (vs:List Value) (ds:List (DataW H)) (ps:List MemPlace),(ts.all fun t=>P.readableRec t && decide (t<P.types.size))=true →
  DataW.TrodAll enc P W 0 (fun _=>true) true ts vs ds ps→(∀x∈ps,x.block<W.heap.size)→DataW.TrodAll enc P W' 0 (fun b=>decide (b<W.heap.size)) true ts vs ds ps
 | [],_,_,_,_,h,_=>by
  obtain ⟨rfl,rfl,rfl⟩:=trodAll_nil h;exact h
 | t :: ts,_,_,_,hr,h,hlt=>by
  obtain ⟨v,vs1,d,ds1,a,b,rfl,rfl,rfl,h1,h2⟩:=trodAll_cons h;simp only [List.all_cons,Bool.and_eq_true,decide_eq_true_eq] at hr;exact ⟨a,b,Below.trod hl hr.1.1 hr.1.2 h1 hb (fun x hx=>hlt x (by simp [hx])),uM hl hb ts vs1 ds1 b (by simpa using hr.2) h2 (fun x hx=>hlt x (by simp [hx])),rfl⟩
theorem jGR {f:Func} {s:ChangeSpec} {W W':World} {args:Array Value} {ds gs:List (DataW H)} {before:List MemPlace} {t:TypeId} (hl:laidOutB P=true)
  (hv:s.vars=[]) (hf:∀ds:List (DataW H),ds.length=f.params.size→s.fn H ds={ results:=[.lit (.bool true)],args:=ds }) (hrt:f.resultTypes=#[t]) (ht:P.underlying t=some .bool)
  (hr:(f.params.toList.all fun t=>P.readableRec t && decide (t<P.types.size))=true)
  (hW:DataW.Whole enc P f.params.toList s.vars false W args.toList ds gs before) (E:Pure W W') :
  s.post enc P f false true false false W args (.bool true) W':=by
 have hW':=hW
 obtain ⟨p,q,hA,hV,rfl,hfz,hnd⟩:=hW
 rw [hv] at hV
 obtain ⟨rfl,rfl⟩:=trodVars_none hV
 have hlen:ds.length=f.params.size:=by
  have:∀(ts:List TypeId) (vs:List Value) (ds:List (DataW H)) (ps:List MemPlace),DataW.TrodAll enc P W 0 (fun _=>true) true ts vs ds ps→ds.length=ts.length:=by
   intro ts;induction ts with
   | nil=>intro vs ds ps h;obtain ⟨_,rfl,_⟩:=trodAll_nil h;rfl
   | cons t ts ih =>
    intro vs ds ps h
    obtain ⟨v,vs1,d,ds1,a,b,_,rfl,_,_,h2⟩:=trodAll_cons h
    simp [ih _ _ _ h2]
  simpa using this _ _ _ _ hA
 have hfn:=hf ds hlen
 have hfn':s.fn H (ds++[])={ results:=[.lit (.bool true)],args:=ds }:=by rw [List.append_nil];exact hfn
 have hlt:∀x∈p,x.block<W.heap.size:=fun x hx=>by simpa using hW'.lt x (by simp [hx])
 have bel:=E.below
 refine ⟨ds,[],p++[],[],p,[],hW',?_,?_,?_,bel.frame _,fun h=>by cases h⟩
 ·rw [hfn',hrt];exact trodAll_mk1 (shut_bool ht _)
 ·rw [hfn'];exact uM hl bel _ _ _ _ hr hA hlt
 ·rw [hfn',hv];exact hV
theorem jDJ {C:Checked} {os:Os} {f:FuncId} {fn:Func} {s:ChangeSpec} {t:TypeId} (hl:laidOutB C.prog=true)
  (hv:s.vars=[]) (hf:∀ds:List (DataW H),ds.length=fn.params.size→s.fn H ds={ results:=[.lit (.bool true)],args:=ds }) (hrt:fn.resultTypes=#[t]) (ht:C.prog.underlying t=some .bool)
  (hr:(fn.params.toList.all fun t=>C.prog.readableRec t && decide (t<C.prog.types.size))=true)
  (own:ownKnob C.prog.godebug=none) (started:os.Started) (noInit:C.prog.inits.idxOf? f=none) (hfn:C.prog.funcs[f]?=some fn)
  (witness:∃(w:World) (tape:Tape) (i:Input),w.os=os∧(w.forCall tape i).Shaped C.prog∧i.vars=[]∧Input.okWide C.prog (w.forCall tape i) .any w.heap.size f i ∧
   s.pre6 enc C.prog fn [] false (w.forCall tape i).memory i.args∧({}:Assume).holds C.prog (lone (Frame.enter C.prog f i.args .normal) [] (w.forCall tape i)))
  (contract:∀(W:World) (base:Nat) (args:Array Value) (ds:List (DataW H)) (p:List MemPlace),
   (∀(j:Nat) t v,fn.params[j]?=some t→args[j]?=some v→Value.okWide C.prog W .any base t v) →
   DataW.TrodAll enc C.prog W 0 (fun _=>true) true fn.params.toList args.toList ds p→(∀x∈p,x.block<W.heap.size) →
   Calls C.prog f args W (fun e W'=>∃r:Bool,e=.returned (.bool r)∧(r=true∧Pure W W'))) :
  ReturnsInHanded {} C os f .any (s.pre6 enc C.prog fn [] false) (s.post enc C.prog fn false true false false):=by
 refine returnsInHanded_of_change own started noInit hfn witness ?_
 intro W base args ds gs before hval hW _ _
 have hW':=hW
 obtain ⟨p,q,hA,hV,rfl,hfz,hnd⟩:=hW
 refine (contract W base args ds p hval hA (fun x hx=>by simpa using hW'.lt x (by simp [hx]))).mono fun e W' ⟨r,he,h1,h2⟩=>?_
 subst h1
 exact ⟨_,he,jGR hl hv hf hrt ht hr hW' h2⟩
end
end Go.SE
namespace Go.SE
open Go.ChangeShapes Go.WideShapes Go.ChangeAt Go.RowKit
section
variable {P:Program} {W:World} {r:Reach} {b0:Nat} {t:TypeId} {v:Value}
theorem xX {e:TypeId} (ht:P.underlying t=some (.slice e)) (h:Value.okWide P W r b0 t v):∃a n c,v=.slice a n c:=by
 unfold Value.okWide at h;rw [ht] at h;simp only at h;unfold Cell.okWide at h;rw [ht] at h;cases v <;> simp [Cell.ok,ht] at h;exact ⟨_,_,_,rfl⟩
end
end Go.SE
end
section
open Go Go.SE
namespace Go.Proofs
theorem uV {α β:Type} {f:α→Option β}:∀{l:List α} {r:List β},l.mapM f=some r→r.length=l.length∧∀(i:Nat) (a:α),l[i]?=some a→∃b,f a=some b∧r[i]?=some b
 | [],r,h=>by
  have:r=[]:=by simpa using h.symm
  subst this;exact ⟨rfl,fun i a h=>by simp at h⟩
 | x :: xs,r,h=>by
  rw [List.mapM_cons] at h;cases hx:f x with
  | none=>simp [hx] at h
  | some y =>
   cases hxs:xs.mapM f with
   | none=>simp [hx,hxs] at h
   | some ys =>
    have:r=y :: ys:=by simpa [hx,hxs] using h.symm
    subst this
    obtain ⟨h1,h2⟩:=uV hxs
    refine ⟨by simp [h1],fun i a ha=>?_⟩
    cases i with
    | zero=>cases ha;exact ⟨y,hx,rfl⟩
    | succ i=>exact h2 i a (by simpa using ha)
theorem jAR {w:World} {base:Nat} {a:Addr} {n:Nat} {cs:List Value} (h:w.cells? base a n=some cs):cs.length=n∧Row w a cs:=by
 obtain ⟨_,h1,h2⟩:=World.cells?_some h;exact ⟨h1,fun j hj=>h2 j (by omega)⟩
section
variable {H:Type} {enc:TypeId×Value→H} {P:Program} {W:World} {base:Nat} {sp:Nat→Bool} {held:Bool}
theorem xM {t:TypeId} {k:IntKind} (ht:P.underlying t=some (.int k)) {n:Nat} {c:Value} {x:DataW H×List MemPlace} (h:DataW.trod enc P W base sp held n t [c]=some x):∃m,c=.int k m:=by
 cases n with
 | zero=>cases h
 | succ n =>
  rw [DataW.trod_step] at h
  unfold DataW.trodStep at h
  rw [ht] at h
  cases c <;> simp at h
  obtain ⟨⟨rfl,_⟩,_⟩:=h
  exact ⟨_,rfl⟩
theorem jGD {t:TypeId} (ht:P.underlying t=some (.int .u64)) {n:Nat} {c:Value} {x:DataW H×List MemPlace} (h:DataW.trod enc P W base sp held n t [c]=some x):∃m,c=.int .u64 m∧Sp.isNum m:=by
 cases n with
 | zero=>cases h
 | succ n =>
  rw [DataW.trod_step] at h
  unfold DataW.trodStep at h
  rw [ht] at h
  cases c with
  | int k z =>
   simp only at h
   split at h
   ·rename_i hw
    obtain ⟨rfl,hw⟩:=hw
    have h1:IntKind.u64.min=0:=by rfl
    have h2:IntKind.u64.max=18446744073709551615:=by rfl
    simp only [Lit.wf,Bool.and_eq_true,decide_eq_true_eq,h1,h2] at hw
    exact ⟨z,rfl,by omega,by omega⟩
   ·cases h
  | _=>simp at h
theorem jEH {t:TypeId} (ht:P.underlying t=some .string) {n:Nat} {c:Value} {x:DataW H×List MemPlace} (h:DataW.trod enc P W base sp held n t [c]=some x):∃m,c=.string m:=by
 cases n with
 | zero=>cases h
 | succ n =>
  rw [DataW.trod_step] at h
  unfold DataW.trodStep at h
  rw [ht] at h
  cases c <;> simp at h
  exact ⟨_,rfl⟩
theorem xL {t e:TypeId} (ht:P.underlying t=some (.slice e)) {n:Nat} {c:Value} {x:DataW H×List MemPlace} (h:DataW.trod enc P W base sp held (n+1) t [c]=some x) :
  c=.slice none 0 0∨∃a len cap,c=.slice (some a) len cap∧len≤cap∧cap≤maxLen∧∀i,i<len→∃cs y,W.cells? base (a.add (i*P.cellsOf e)) (P.cellsOf e)=some cs∧DataW.trod enc P W base sp held n e cs=some y:=by
 rw [DataW.trod_step] at h
 unfold DataW.trodStep at h
 rw [ht] at h
 cases c with
 | slice a len cap =>
  cases a with
  | none =>
   cases len with
   | zero=>cases cap with
    | zero=>exact .inl rfl
    | succ c=>simp at h
   | succ l=>simp at h
  | some a =>
   right
   simp only at h
   split at h
   ·rename_i hc
    refine ⟨a,len,cap,rfl,hc.2.1,hc.2.2,fun i hi=>?_⟩
    cases hm:(List.range len).mapM fun i=>(W.cells? base (a.add (i*P.cellsOf e)) (P.cellsOf e)).bind (DataW.trod enc P W base sp held n e) with
    | none=>rw [hm] at h;cases h
    | some r =>
     obtain ⟨b,hb,_⟩:=(uV hm).2 i i (by simp [hi])
     obtain ⟨cs,h1,h2⟩:=Option.bind_eq_some_iff.1 hb
     exact ⟨cs,b,h1,h2⟩
   ·cases h
 | _=>simp at h
structure TreeTypes (P:Program) (tS tT:TypeId):Prop where
 ex:∃ti tu ts:TypeId,∃f0 f1 f2 f3 f4 f5:Field,P.underlying tS=some (.slice tT)∧P.underlying tT=some (.struct #[f0,f1,f2,f3,f4,f5])∧P.cellsOf tT=6 ∧
  (f0.type=ti∧f1.type=ti∧f2.type=ti∧f3.type=tu∧f4.type=ts∧f5.type=tS)∧(f0.offset=0∧f1.offset=1∧f2.offset=2∧f3.offset=3∧f4.offset=4∧f5.offset=5) ∧
  P.underlying ti=some (.int .i64)∧P.underlying tu=some (.int .u64)∧P.underlying ts=some .string∧P.cellsOf ti=1∧P.cellsOf tu=1∧P.cellsOf ts=1∧P.cellsOf tS=1
theorem jEG {tS tT:TypeId} (hTT:TreeTypes P tS tT):∀n:Nat,
  (∀(c:Value) (x:DataW H×List MemPlace),DataW.trod enc P W base sp held n tS [c]=some x→∃s:Sl,∃ts:List Sp.Tree,c=s.v∧(∀(k f t u:Int) (tx:ByteArray),TreeAt (fun _=>True) W s (.mk k f t u tx ts))∧∀i (hi:i<ts.length),Sp.NumT ts[i]) ∧
  (∀(cs:List Value) (x:DataW H×List MemPlace),DataW.trod enc P W base sp held n tT cs=some x→∃t s,cs=qI t s∧TreeAt (fun _=>True) W s t∧Sp.NumT t):=by
 obtain ⟨ti,tu,tx,f0,f1,f2,f3,f4,f5,hS,hT,hc6,⟨e0,e1,e2,e3,e4,e5⟩,⟨o0,o1,o2,o3,o4,o5⟩,ui,uu,us,ci,cu,cs1,cS⟩:=hTT.ex
 intro n
 induction n with
 | zero=>exact ⟨fun c x h=>(by cases h),fun cs x h=>(by cases h)⟩
 | succ n ih =>
  refine ⟨fun c x h=>?_,fun cs x h=>?_⟩
  ·rcases xL hS h with rfl | ⟨a,len,cap,rfl,hle,hcm,hel⟩
   ·exact ⟨Sl.nil,[],rfl,fun k f t u tx=>.mk k f t u tx [] Sl.nil (fun _=>Sl.nil) rfl (by simp) (fun i h=>by simp at h) (fun i h=>by simp at h),fun i hi=>absurd hi (Nat.not_lt_zero i)⟩
   ·rw [hc6] at hel
    have hex:∀i,∃q:Sp.Tree×Sl,i<len→Row W (a.add (i*6)) (qI q.1 q.2)∧TreeAt (fun _=>True) W q.2 q.1∧Sp.NumT q.1:=by
     intro i;by_cases hi:i<len
     ·obtain ⟨cs,y,h1,h2⟩:=hel i hi;obtain ⟨tr,s,e,hTr⟩:=ih.2 cs y h2;exact ⟨(tr,s),fun _=>⟨e▸(jAR h1).2,hTr⟩⟩
     ·exact ⟨(Sp.Tree.mk 0 0 0 0 ⟨#[]⟩ [],Sl.nil),fun h=>absurd h hi⟩
    obtain ⟨q,hq⟩:=Classical.axiomOfChoice hex
    refine ⟨⟨some a,len,cap⟩,(List.range len).map fun i=>(q i).1,rfl,?_,fun i hi=>by rw [List.getElem_map,List.getElem_range];exact (hq i (by simpa using hi)).2.2⟩
    refine fun k f t u tx=>.mk k f t u tx _ _ (fun i=>(q i).2) (by simp) (by simp only [maxLen] at hcm;simp;omega) (fun i h=>?_) (fun i h=>?_)
    ·have hi:i<len:=by simpa using h
     refine ⟨a.add (i*6),⟨by omega,by simpa using hi,a,rfl,by simp⟩,trivial,?_⟩
     simpa using (hq i hi).1
    ·have hi:i<len:=by simpa using h
     simpa using (hq i hi).2.1
  ·rw [DataW.trod_step] at h
   unfold DataW.trodStep at h
   rw [hT] at h
   simp only at h
   split at h
   ·rename_i hl
    rw [hc6] at hl
    match cs,hl with
    | [c0,c1,c2,c3,c4,c5],_ =>
     cases hm:([f0,f1,f2,f3,f4,f5]:List Field).mapM (fun f=>DataW.trod enc P W base sp held n f.type ((([c0,c1,c2,c3,c4,c5]:List Value).drop f.offset).take (P.cellsOf f.type))) with
     | none=>rw [hm] at h;cases h
     | some r =>
      have hf:=(uV hm).2
      obtain ⟨_,h0,_⟩:=hf 0 f0 rfl
      obtain ⟨_,h1,_⟩:=hf 1 f1 rfl
      obtain ⟨_,h2,_⟩:=hf 2 f2 rfl
      obtain ⟨_,h3,_⟩:=hf 3 f3 rfl
      obtain ⟨_,h4,_⟩:=hf 4 f4 rfl
      obtain ⟨_,h5,_⟩:=hf 5 f5 rfl
      rw [e0,o0,ci] at h0;rw [e1,o1,ci] at h1;rw [e2,o2,ci] at h2;rw [e3,o3,cu] at h3;rw [e4,o4,cs1] at h4;rw [e5,o5,cS] at h5
      obtain ⟨m0,rfl⟩:=xM ui h0
      obtain ⟨m1,rfl⟩:=xM ui h1
      obtain ⟨m2,rfl⟩:=xM ui h2
      obtain ⟨m3,rfl,hu⟩:=jGD uu h3
      obtain ⟨m4,rfl⟩:=jEH us h4
      obtain ⟨s,ts,rfl,hTr,hNr⟩:=ih.1 c5 _ h5
      exact ⟨.mk m0 m1 m2 m3 m4 ts,s,rfl,hTr m0 m1 m2 m3 m4,.mk _ _ _ _ _ _ hu hNr⟩
   ·cases h
theorem tB {tS tT:TypeId} (hTT:TreeTypes P tS tT) {v:Value} {d:DataW H} {ps:List MemPlace} (h:DataW.Trod enc P W base sp held tS v d ps) (hv:∃a n c,v=.slice a n c) :
  ∃s:Sl,∃ts:List Sp.Tree,v=s.v∧TreeAt (fun b=>b<W.heap.size) W s (.mk 0 0 0 0 ⟨#[]⟩ ts):=by
 obtain ⟨n,h⟩:=h
 obtain ⟨a,m,c,rfl⟩:=hv
 obtain ⟨s,ts,e,hT,_⟩:=(jEG hTT n).1 _ _ h
 exact ⟨s,ts,e,(hT 0 0 0 0 ⟨#[]⟩).lt.mono (fun b hb=>hb.2)⟩
end
theorem jEI:TreeTypes Tryz.prog 66 107 :=
 ⟨3,23,9,_,_,_,_,_,_,Tryz.underlying66,Tryz.underlying107,by kernel_rfl,⟨rfl,rfl,rfl,rfl,rfl,rfl⟩,⟨rfl,rfl,rfl,rfl,rfl,rfl⟩,Tryz.underlying3,Tryz.underlying23,Tryz.underlying9,by kernel_rfl,by kernel_rfl,by kernel_rfl,by kernel_rfl⟩
section
variable {H:Type} {enc:TypeId×Value→H} {P:Program} {W:World} {base:Nat} {sp:Nat→Bool} {held:Bool}
theorem row_lt {a:Addr} {v:Value} {vs:List Value} (h:Row W a (v :: vs)):a.block<W.heap.size:=by
 have:=h 0 (by simp);have:=World.block_lt_of_cell? W (a.add 0) this;rwa [jQ] at this
theorem jAJ {α:Type} {tS e:TypeId} {sz:Nat} {f:α→List Value} (hS:P.underlying tS=some (.slice e)) (hc:P.cellsOf e=sz) (hf:∀a,∃v vs,f a=v :: vs) (x0:α)
  (hel:∀(n:Nat) (cs:List Value) (x:DataW H×List MemPlace),DataW.trod enc P W base sp held n e cs=some x→∃a,cs=f a) {n:Nat} {c:Value} {x:DataW H×List MemPlace} (h:DataW.trod enc P W base sp held n tS [c]=some x) :
  ∃s:Sl,∃xs:List α,c=s.v∧Lst (fun b=>b<W.heap.size) W sz s (xs.map f):=by
 cases n with
 | zero=>cases h
 | succ n =>
  rcases xL hS h with rfl | ⟨a,len,cap,rfl,hle,hcm,hall⟩
  ·exact ⟨Sl.nil,[],rfl,⟨rfl,fun i hi=>by simp at hi⟩⟩
  ·rw [hc] at hall
   have hex:∀i,∃q:α,i<len→Row W (a.add (i*sz)) (f q):=by
    intro i;by_cases hi:i<len
    ·obtain ⟨cs,y,h1,h2⟩:=hall i hi;obtain ⟨q,rfl⟩:=hel n cs y h2;exact ⟨q,fun _=>(jAR h1).2⟩
    ·exact ⟨x0,fun h=>absurd h hi⟩
   obtain ⟨q,hq⟩:=Classical.axiomOfChoice hex
   refine ⟨⟨some a,len,cap⟩,(List.range len).map q,rfl,⟨by simp,fun i hi=>?_⟩⟩
   have hi:i<len:=by simpa using hi
   have hr:=hq i hi
   obtain ⟨v,vs,e⟩:=hf (q i)
   refine ⟨a.add (i*sz),⟨by omega,by simpa using hi,a,rfl,by simp⟩,?_,by simpa using hr⟩
   rw [e] at hr;exact row_lt hr
theorem tD {tS e:TypeId} (hS:P.underlying tS=some (.slice e)) (he:P.underlying e=some (.int .i64)) (hc:P.cellsOf e=1) {n:Nat} {c:Value} {x:DataW H×List MemPlace} (h:DataW.trod enc P W base sp held n tS [c]=some x) :
  ∃s:Sl,∃ts:List Int,c=s.v∧Lst (fun b=>b<W.heap.size) W 1 s (tmr ts):=by
 have:=jAJ (f:=fun t:Int=>[Value.int .i64 t]) hS hc (fun a=>⟨_,_,rfl⟩) 0 (fun n cs x h=>?_) h
 ·exact this
 ·cases n with
  | zero=>cases h
  | succ n =>
   rw [DataW.trod_step] at h
   unfold DataW.trodStep at h
   rw [he] at h
   cases cs with
   | nil=>simp at h
   | cons c l =>
    cases l with
    | cons c2 l2=>cases c <;> simp at h
    | nil =>
     cases c <;> simp at h
     obtain ⟨⟨rfl,_⟩,_⟩:=h
     exact ⟨_,rfl⟩
end
section
variable {H:Type} {enc:TypeId×Value→H} {W:World} {base:Nat} {sp:Nat→Bool} {held:Bool}
theorem jCI {n:Nat} {c:Value} {x:DataW H×List MemPlace} (h:DataW.trod enc Tryz.prog W base sp held n 46 [c]=some x):∃s:Sl,∃ts:List Int,c=s.v∧Lst (fun b=>b<W.heap.size) W 1 s (tmr ts) :=
 tD Tryz.underlying46 Tryz.underlying78 (by kernel_rfl) h
end
end Go.Proofs
end
