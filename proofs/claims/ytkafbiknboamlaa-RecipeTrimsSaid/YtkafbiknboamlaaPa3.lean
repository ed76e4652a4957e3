import Derived.Test.YtkafbiknboamlaaPa1
import Derived.Test.YtkafbiknboamlaaPa2
import Derived.Test.YtkafbiknboamlaaPa0
import Derived.RangeFuncSeq
import Derived.RangeFuncIn
import Derived.Test.YtkafbiknboamlaaProg
import Derived.KernelRfl
import Derived.ProofKit
import Derived.Carry
import Derived.OpenShut
import Derived.Stop.Joined
section
open Go Go.SE
namespace Go.Proofs
open Try
attribute [local irreducible] Calls
theorem tD {S:NP} (ts:List Sp.Tree) (s:Sl) (w0:World) (hT:TreeAt S w0 s (.mk 0 0 0 0 ⟨#[]⟩ ts)) (hS:∀b,S b→b<w0.heap.size) :
  Calls prog 4 #[s.v] w0 (fun e w'=>∃r:Bool,e=.returned (.bool r)∧((r=false→ts.length≤300∧Sp.cntAll ts≤6000)∧Pure w0 w')):=by
 refine w_J3 _ w0 (fun r w'=>(r=false→ts.length≤300∧Sp.cntAll ts≤6000)∧Pure w0 w') ?_
 unfold m_J3
 have hlen:s.len=ts.length:=by cases hT;assumption
 refine ⟨fun h=>⟨fun h=>(by cases h),Ext.refl _⟩,fun h=>?_⟩
 have hle:ts.length≤300:=by have:=of_decide_eq_false h;omega
 refine (tA (.mk 0 0 0 0 ⟨#[]⟩ ts) s 6000 w0 (by omega) (by omega) hT hS).mono ?_
 rintro _ w1 ⟨r,rfl,hr,E⟩
 refine ⟨_,rfl,fun h=>⟨hle,?_⟩,E⟩
 have h:=of_decide_eq_false h
 have hp:=(Sp.gL (.mk 0 0 0 0 ⟨#[]⟩ ts) 6000 (by omega)).2.2 (by omega)
 rw [Sp.cnt] at hp
 omega
theorem jAJ {S:NP} (l:List Sp.Op) (s:Sl) (w0:World) (hl:Lst S w0 5 s (l.map zU)) :
  Calls prog 5 #[s.v] w0 (fun e w'=>∃r:Bool,e=.returned (.bool r)∧((r=false→l.length≤300)∧Pure w0 w')):=by
 refine w_E1 _ w0 (fun r w'=>(r=false→l.length≤300)∧Pure w0 w') ?_
 unfold m_E1
 have hll:s.len=l.length:=by rw [hl.len];simp
 refine ⟨fun _ i w=>(∃j:Nat,i=j∧j≤301)∧w=w0,fun _ i _=>((301:Int) - i).toNat,⟨⟨0,rfl,by omega⟩,rfl⟩,?_⟩
 rintro n _ _ ⟨⟨j,rfl,hj⟩,rfl⟩
 unfold m_E1_l1
 refine ⟨fun h=>?_,fun h=>⟨fun h=>?_,Ext.refl _⟩⟩
 ·rw [Bool.and_eq_true] at h
  have hlt:=zR hll h.1
  have h3:=of_decide_eq_true h.2
  obtain ⟨a,hat,_,hrow⟩:=hl.nth hlt
  refine ⟨a,hat,l[j].text,by simpa [zU] using hrow 4 (by simp [zU]),⟨⟨j+1,?_,by omega⟩,rfl⟩,?_⟩
  ·rw [IntWalk.i64_in _ (by omega)];omega
  ·show (301 - IntKind.i64.wrap ((j:Int)+1)).toNat<(301 - (j:Int)).toNat
   rw [IntWalk.i64_in _ (by omega)];omega
 ·rw [Bool.or_eq_false_iff] at h
  have:=of_decide_eq_false h.1
  omega
structure SideAt (w0:World) (H:NP) (w:World) (s p k q:Addr) (sg:Sl) (L1 L2:Sp.Pool) (GK G:List Int) (S:List Sp.Way) (FP FK FR:NP):Prop where
 box:Box w s [.pointer (some p),.pointer (some k),.pointer (some q),sg.v] 41
 pool:jL w p L1 FP
 know:zN w k p GK S FK
 ref:kD w q L2 FR
 giv:Rws w 32 1 sg (tmr G)
 pure:Pure w0 w
 hs:Hst w0 H w H w
 oP:∀b,FP b→w0.heap.size≤b∧¬ H b∧b≠s.block∧¬ FK b∧¬ FR b∧¬ sg.blk b
 oK:∀b,FK b→w0.heap.size≤b∧¬ H b∧b≠s.block∧¬ FR b∧¬ sg.blk b
 oR:∀b,FR b→w0.heap.size≤b∧¬ H b∧b≠s.block∧¬ sg.blk b
 oG:∀b,sg.blk b→w0.heap.size≤b∧¬ H b∧b≠s.block
 oS:w0.heap.size≤s.block∧¬ H s.block
section
variable {w0 w w':World} {H H':NP} {s p k q:Addr} {sg:Sl} {L1 L2 L':Sp.Pool} {GK G G':List Int} {S S':List Sp.Way} {FP FK FR F':NP}
theorem SideAt.pureE (h:SideAt w0 H w s p k q sg L1 L2 GK G S FP FK FR) (E:Pure w w'):SideAt w0 H w' s p k q sg L1 L2 GK G S FP FK FR :=
 ⟨h.box.pure E,h.pool.pure E,h.know.pure E,h.ref.pure E,h.giv.pure E,h.pure.trans E,h.hs.again E.keptP,h.oP,h.oK,h.oR,h.oG,h.oS⟩
theorem SideAt.hst (h:SideAt w0 H w s p k q sg L1 L2 GK G S FP FK FR) (hs:Hst w0 H w H' w'):SideAt w0 H' w' s p k q sg L1 L2 GK G S FP FK FR:=by
 have xP:=hs.disj (G:=FP) (fun b hb=>⟨h.pool.lt hb,(h.oP b hb).2.1⟩);have xK:=hs.disj (G:=FK) (fun b hb=>⟨h.know.lt hb,(h.oK b hb).2.1⟩);have xR:=hs.disj (G:=FR) (fun b hb=>⟨h.ref.lt hb,(h.oR b hb).2.1⟩);have xG:=hs.disj (G:=sg.blk) (fun b hb=>⟨h.giv.lt hb,(h.oG b hb).2.1⟩);have xS:=hs.disj (G:=(·=s.block)) (fun b hb=>by subst hb;exact ⟨h.box.lt,h.oS.2⟩) _ rfl;exact ⟨h.box.ext hs.ext xS,h.pool.ext hs.ext xP,h.know.ext hs.ext xK,h.ref.ext hs.ext xR,h.giv.ext hs.ext xG,h.pure.hst hs,hs.here,fun b hb=>⟨(h.oP b hb).1,xP b hb,(h.oP b hb).2.2⟩,fun b hb=>⟨(h.oK b hb).1,xK b hb,(h.oK b hb).2.2⟩,fun b hb=>⟨(h.oR b hb).1,xR b hb,(h.oR b hb).2.2⟩,fun b hb=>⟨(h.oG b hb).1,xG b hb,(h.oG b hb).2.2⟩,⟨h.oS.1,xS⟩⟩
theorem SideAt.pgrow (h:SideAt w0 H w s p k q sg L1 L2 GK G S FP FK FR) (hP:jL w' p L' F') (E:Ext FP w w') (hF:∀b,F' b→FP b∨w.heap.size≤b):Kept H w w'∧SideAt w0 H w' s p k q sg L' L2 GK G S F' FK FR:=by
 have hk:Kept H w w':=E.kept (fun b hb hf=>(h.oP b hf).2.1 hb);have z:=h.pure.size;have zb:=h.box.lt;refine ⟨hk,h.box.ext E (fun hf=>(h.oP _ hf).2.2.1 rfl),hP,h.know.ext E (fun b hb hf=>(h.oP b hf).2.2.2.1 hb),h.ref.ext E (fun b hb hf=>(h.oP b hf).2.2.2.2.1 hb),h.giv.ext E (fun b hb hf=>(h.oP b hf).2.2.2.2.2 hb),h.pure.trans' E (fun i hi hb=>by have:=(h.oP i hb).1;omega),h.hs.again hk,fun b hb=>?_,h.oK,h.oR,h.oG,h.oS⟩;rcases hF b hb with h1 | h1
 ·exact h.oP b h1
 ·exact ⟨by omega,fun hh=>by have:=h.hs.lt b hh;omega,by omega,fun hh=>by have:=h.know.lt hh;omega,fun hh=>by have:=h.ref.lt hh;omega,fun hh=>by have:=h.giv.lt hh;omega⟩
theorem SideAt.doc (h:SideAt w0 H w s p k q sg L1 L2 GK G S FP FK FR) (hP:kD w' q L' F') (E:Ext FR w w') (hF:∀b,F' b→FR b∨w.heap.size≤b):Kept H w w'∧SideAt w0 H w' s p k q sg L1 L' GK G S FP FK F':=by
 have hk:Kept H w w':=E.kept (fun b hb hf=>(h.oR b hf).2.1 hb);have z:=h.pure.size;have zb:=h.box.lt;have nf:∀b,b<w.heap.size→¬ FR b→¬ F' b:=fun b hb h1 h2=>(hF b h2).elim h1 (fun h3=>by omega);refine ⟨hk,h.box.ext E (fun hf=>(h.oR _ hf).2.2.1 rfl),h.pool.ext E (fun b hb=>(h.oP b hb).2.2.2.2.1),h.know.ext E (fun b hb=>(h.oK b hb).2.2.2.1),hP,h.giv.ext E (fun b hb hf=>(h.oR b hf).2.2.2 hb),h.pure.trans' E (fun i hi hb=>by have:=(h.oR i hb).1;omega),h.hs.again hk,fun b hb=>⟨(h.oP b hb).1,(h.oP b hb).2.1,(h.oP b hb).2.2.1,(h.oP b hb).2.2.2.1,nf b (h.pool.lt hb) (h.oP b hb).2.2.2.2.1,(h.oP b hb).2.2.2.2.2⟩,fun b hb=>⟨(h.oK b hb).1,(h.oK b hb).2.1,(h.oK b hb).2.2.1,nf b (h.know.lt hb) (h.oK b hb).2.2.2.1,(h.oK b hb).2.2.2.2⟩,fun b hb=>?_,h.oG,h.oS⟩;rcases hF b hb with h1 | h1
 ·exact h.oR b h1
 ·exact ⟨by omega,fun hh=>by have:=h.hs.lt b hh;omega,by omega,fun hh=>by have:=h.giv.lt hh;omega⟩
theorem SideAt.add (h:SideAt w0 H w s p k q sg L1 L2 GK G S FP FK FR) (hK:zN w' k p G' S' F') (E:Ext FK w w') (hF:∀b,F' b→FK b∨w.heap.size≤b):Kept H w w'∧SideAt w0 H w' s p k q sg L1 L2 G' G S' FP F' FR:=by
 have hk:Kept H w w':=E.kept (fun b hb hf=>(h.oK b hf).2.1 hb);have z:=h.pure.size;have zb:=h.box.lt;refine ⟨hk,h.box.ext E (fun hf=>(h.oK _ hf).2.2.1 rfl),h.pool.ext E (fun b hb=>(h.oP b hb).2.2.2.1),hK,h.ref.ext E (fun b hb hf=>(h.oK b hf).2.2.2.1 hb),h.giv.ext E (fun b hb hf=>(h.oK b hf).2.2.2.2 hb),h.pure.trans' E (fun i hi hb=>by have:=(h.oK i hb).1;omega),h.hs.again hk,fun b hb=>⟨(h.oP b hb).1,(h.oP b hb).2.1,(h.oP b hb).2.2.1,fun hf=>(hF b hf).elim (h.oP b hb).2.2.2.1 (fun hh=>by have:=h.pool.lt hb;omega),(h.oP b hb).2.2.2.2⟩,fun b hb=>?_,h.oR,h.oG,h.oS⟩;rcases hF b hb with h1 | h1
 ·exact h.oK b h1
 ·exact ⟨by omega,fun hh=>by have:=h.hs.lt b hh;omega,by omega,fun hh=>by have:=h.ref.lt hh;omega,fun hh=>by have:=h.giv.lt hh;omega⟩
theorem SideAt.app (h:SideAt w0 H w s p k q sg L1 L2 GK G S FP FK FR) {t:Int} {a:Addr} {w1:World} (hq:New w (.cells #[.int .i64 t] 32) a w1) (hn:G.length≤1000000):∃s1 w2,(Builtin.append_ #[39,39] 39 #[sg.v,(Sl.mk (some a) 1 1).v]).run prog w1=.ok s1.v w2∧Kept H w1 w2∧zS w2 (s.add 3) ∧
  SideAt w0 H (w2.setCell (s.add 3) s1.v) s p k q s1 L1 L2 GK (G++[t]) S FP FK FR:=by
 have E1:Pure w w1:=Ext.new hq
 obtain ⟨s1,w2,hr,hR,hE,hb⟩:=(h.giv.pure E1).append (P:=prog) (ty:=39) (c:=1) tI (r:=[.int .i64 t]) (Box.of_new hq).row rfl rfl (by rw [zO];omega) (by rw [zO];simp [maxLen];omega)
 have hk:Kept H w1 w2:=hE.kept (fun b hb hs=>(h.oG b hs).2.1 hb)
 have hbx:=(h.box.pure E1).ext hE (fun hs=>(h.oG _ hs).2.2 rfl)
 have z1:=E1.size
 have z2:=hE.size
 have z:=h.pure.size
 have zb:=h.box.lt
 have E3:=Ext.setCell (w:=w2) (s.add 3) s1.v
 rw [jK] at E3
 have hb':∀b,s1.blk b→sg.blk b∨w.heap.size≤b:=fun b h=>(hb b h).imp_right (fun h=>by omega)
 have nb:∀b,w.heap.size≤b→¬ H b:=fun b hb hh=>by have:=h.hs.lt b hh;omega
 refine ⟨s1,w2,hr,hk,hbx.canW (by simp),hbx.set 3 s1.v,((h.pool.pure E1).ext hE (fun b hb=>(h.oP b hb).2.2.2.2.2)).ext E3 (fun b hb=>(h.oP b hb).2.2.1),((h.know.pure E1).ext hE (fun b hb=>(h.oK b hb).2.2.2.2)).ext E3 (fun b hb=>(h.oK b hb).2.2.1),((h.ref.pure E1).ext hE (fun b hb=>(h.oR b hb).2.2.2)).ext E3 (fun b hb=>(h.oR b hb).2.2.1),?_,?_,((h.hs.again E1.keptP).again hk).again (E3.kept (fun b hb e=>h.oS.2 (e▸hb))),
  fun b hb=>⟨(h.oP b hb).1,(h.oP b hb).2.1,(h.oP b hb).2.2.1,(h.oP b hb).2.2.2.1,(h.oP b hb).2.2.2.2.1,fun hh=>(hb' b hh).elim (h.oP b hb).2.2.2.2.2 (fun h3=>by have:=h.pool.lt hb;omega)⟩,fun b hb=>⟨(h.oK b hb).1,(h.oK b hb).2.1,(h.oK b hb).2.2.1,(h.oK b hb).2.2.2.1,fun hh=>(hb' b hh).elim (h.oK b hb).2.2.2.2 (fun h3=>by have:=h.know.lt hb;omega)⟩,fun b hb=>⟨(h.oR b hb).1,(h.oR b hb).2.1,(h.oR b hb).2.2.1,fun hh=>(hb' b hh).elim (h.oR b hb).2.2.2 (fun h3=>by have:=h.ref.lt hb;omega)⟩,fun b hb=>?_,h.oS⟩
 ·rw [show tmr (G++[t])=tmr G++[[.int .i64 t]] by simp [tmr]]
  refine hR.ext E3 (fun b hb' e=>?_)
  rcases hb b hb' with h1 | h1
  ·exact (h.oG b h1).2.2 e
  ·omega
 ·exact ((h.pure.trans E1).trans' hE (fun i hi hs=>by have:=(h.oG i hs).1;omega)).trans' E3 (fun i hi e=>by have:=h.oS.1;omega)
 ·rcases hb' b hb with h1 | h1
  ·exact h.oG b h1
  ·exact ⟨by omega,nb b (by omega),by omega⟩
end
theorem yS {ST:NP} (ts:List Sp.Tree) (sT:Sl) (w0:World) (hT:TreeAt ST w0 sT (.mk 0 0 0 0 ⟨#[]⟩ ts)) (hS:∀b,ST b→b<w0.heap.size) (hn:ts.length≤1000) (hc:Sp.cntAll ts≤900000) :
  Calls prog 7 #[sT.v] w0 (fun e w'=>∃r1:Option Addr,∃r2:Bool,e=.returned (.tuple #[.pointer r1,.bool r2])∧∃s p k q sg S FP FK FR,r1=some s∧r2=true∧SideAt w0 None w' s p k q sg (Sp.jQ ts).1 (Sp.jQ ts).1 (Sp.jQ ts).2 (Sp.jQ ts).2 S FP FK FR∧Sp.KnowOk (Sp.jQ ts).1 (Sp.jQ ts).2 S):=by
 suffices key:∀K:Option Addr→Bool→WP,(∀s p k q sg S FP FK FR H w',SideAt w0 H w' s p k q sg (Sp.jQ ts).1 (Sp.jQ ts).1 (Sp.jQ ts).2 (Sp.jQ ts).2 S FP FK FR→Sp.KnowOk (Sp.jQ ts).1 (Sp.jQ ts).2 S→K (some s) true w')→m_I sT w0 K by
  refine (w_I _ w0 (fun r1 r2 w'=>∃s p k q sg S FP FK FR H,r1=some s∧r2=true∧SideAt w0 H w' s p k q sg (Sp.jQ ts).1 (Sp.jQ ts).1 (Sp.jQ ts).2 (Sp.jQ ts).2 S FP FK FR∧Sp.KnowOk (Sp.jQ ts).1 (Sp.jQ ts).2 S) (key _ (fun s p k q sg S FP FK FR H w' h hk=>⟨s,p,k,q,sg,S,FP,FK,FR,H,rfl,rfl,h,hk⟩))).mono ?_;rintro _ w' ⟨r1,r2,rfl,s,p,k,q,sg,S,FP,FK,FR,H,rfl,rfl,h,hk⟩;exact ⟨_,_,rfl,s,p,k,q,sg,S,FP,FK,FR,rfl,rfl,⟨h.box,h.pool,h.know,h.ref,h.giv,h.pure,(Hst.start w0).again (h.pure.keptP),fun b hb=>⟨(h.oP b hb).1,id,(h.oP b hb).2.2⟩,fun b hb=>⟨(h.oK b hb).1,id,(h.oK b hb).2.2⟩,fun b hb=>⟨(h.oR b hb).1,id,(h.oR b hb).2.2⟩,fun b hb=>⟨(h.oG b hb).1,id,(h.oG b hb).2.2⟩,⟨h.oS.1,id⟩⟩,hk⟩
 intro K hK
 have hnil:∀b,¬ Sl.nil.blk b:=fun b hb=>by obtain ⟨a,h,_⟩:=hb;cases h
 cases hT with
 | mk _ _ _ _ _ _ _ rs len fit row kid =>
 unfold m_I
 refine (c_New w0).mono ?_
 rintro _ w1 ⟨_,rfl,p,rfl,E1,FP,hP1,hFP⟩
 refine ⟨_,rfl,E1.keptP,?_⟩
 refine (jBJ w1).mono ?_
 rintro _ w2 ⟨_,rfl,q,FR,rfl,hR2,E2,hFR⟩
 refine ⟨_,rfl,E2.keptP,?_⟩
 intro s w3 n3
 have E3:Pure w2 w3:=Ext.new n3
 have B3:=Box.of_new n3
 refine ⟨some p,B3.cell0,?_⟩
 refine (jEZ p w3).mono ?_
 rintro _ w4 ⟨_,rfl,k,FK,rfl,hK4,E4,hFK⟩
 have B4:=B3.pure E4
 refine ⟨_,rfl,E4.keptP,B4.canW (by simp),id,?_⟩
 intro w5 hw5
 have X5:Ext (·=s.block) w4 w5:=by rw [hw5,← jK s 1];exact Ext.setCell (s.add 1) _
 have B5:Box w5 s [.pointer (some p),.pointer (some k),.pointer (some q),Sl.nil.v] 41:=by rw [hw5];exact B4.set 1 (.pointer (some k))
 clear hw5
 have z1:=E1.size
 have z2:=E2.size
 have z3:=E3.size
 have z4:=E4.size
 have zs:=n3.at_size
 have zl:=B3.lt
 have lP:=fun b (hb:FP b)=>hP1.lt hb
 have lR:=fun b (hb:FR b)=>hR2.lt hb
 have E04:Pure w0 w4:=((E1.trans E2).trans E3).trans E4
 have E05:Pure w0 w5:=E04.own (by omega) X5
 have S0:SideAt w0 None w5 s p k q Sl.nil [] [] [] [] [] FP FK FR :=
  ⟨B5,((hP1.pure ((E2.trans E3).trans E4)).ext X5 (fun b hb e=>by have:=lP b hb;omega)),hK4.ext X5 (fun b hb e=>by have:=hFK b hb;omega),((hR2.pure (E3.trans E4)).ext X5 (fun b hb e=>by have:=lR b hb;omega)),Rws.nil _ _ _,E05,(Hst.start w0).again E05.keptP,
   fun b hb=>⟨hFP b hb,id,by have:=lP b hb;omega,fun h=>by have:=lP b hb;have:=hFK b h;omega,fun h=>by have:=lP b hb;have:=hFR b h;omega,hnil b⟩,fun b hb=>⟨by have:=hFK b hb;omega,id,by have:=hFK b hb;omega,fun h=>by have:=hFK b hb;have:=lR b h;omega,hnil b⟩,fun b hb=>⟨by have:=hFR b hb;omega,id,by have:=lR b hb;omega,hnil b⟩,fun b hb=>(hnil b hb).elim,⟨by omega,id⟩⟩
 refine ⟨some p,B5.cell0,Br.f rfl ⟨some k,B5.cell rfl,?_⟩⟩
 unfold m_I_j1
 refine Br.f rfl ?_
 refine ⟨fun i H w=>∃(j:Nat) (sg:Sl) (S:List Sp.Way) (FP FK FR:NP),i=j∧j≤ts.length∧SideAt w0 H w s p k q sg (Sp.jQ (ts.take j)).1 (Sp.jQ (ts.take j)).1 (Sp.jQ (ts.take j)).2 (Sp.jQ (ts.take j)).2 S FP FK FR∧Sp.KnowOk (Sp.jQ (ts.take j)).1 (Sp.jQ (ts.take j)).2 S,fun i _=>((ts.length:Int) - i).toNat,⟨0,Sl.nil,[],FP,FK,FR,rfl,Nat.zero_le _,S0,Sp.KnowOk.nil _⟩,?_⟩
 clear S0 B5 E05 E04 lP lR X5 B4 B3 hK4 hR2 hP1 hFK hFR hFP FP FK FR
 rintro _ H wl hl ⟨j,sg,S,FP,FK,FR,rfl,hj,hA,hk⟩
 unfold m_I_l2
 refine ⟨fun h=>?_,fun h=>?_⟩
 ·have hlt:=zR len h
  have htk:ts.take (j+1)=ts.take j++[ts[j]]:=List.take_succ_eq_append_getElem hlt
  have hstep:Sp.jQ (ts.take (j+1))=Sp.kS (Sp.jQ (ts.take j)) ts[j]:=by rw [htk,Sp.tJ]
  have hW:=Sp.yY (ts.take j)
  have hgl:=Sp.gE (ts.take j)
  rw [List.length_take,Nat.min_eq_left (by omega)] at hgl
  have hcx:Sp.cnt ts[j]≤900000:=by
   have h1:∀(ts:List Sp.Tree) (i:Nat) (hi:i<ts.length),Sp.cnt ts[i]≤Sp.cntAll ts:=by
    intro ts;induction ts with
    | nil=>intro i hi;simp at hi
    | cons t ts ih =>
     intro i hi
     rw [Sp.cntAll]
     cases i with
     | zero=>simp
     | succ i=>have:=ih i (by simpa using hi);simp;omega
   have:=h1 ts j hlt;omega
  generalize Sp.jQ (ts.take j)=Q at *
  obtain ⟨L,G⟩:=Q
  simp only at hA hk hW hgl
  obtain ⟨a,hat,hSa,hrow⟩:=row j hlt
  have hkid:=kid j hlt
  generalize ts[j]=x at *
  generalize rs j=sx at *
  have hrowT:∀{w},Pure w0 w→Row w a (vN x sx):=fun E=>E.row hrow (fun h=>h)
  obtain ⟨xk,xf,xt,xu,xx,xks⟩:=x
  have hAd:=hA.pureE (Ext.drew wl)
  refine ⟨fun w=>Box w s [.pointer (some p),.pointer (some k),.pointer (some q),sg.v] 41∧Row w a (vN (.mk xk xf xt xu xx xks) sx),⟨hAd.box,hrowT hAd.pure⟩,?_⟩
  rintro _ rfl
  refine ⟨some p,fun _ h=>h.1.cell0,a,hat,_,_,_,_,_,sx,fun _ h=>h.2,?_⟩
  refine (jAH (.mk xk xf xt xu xx xks) sx wl.drew (by omega) (hkid.pure hAd.pure) (fun b hb=>by have:=hS b hb;have:=hAd.pure.size;omega)).mono ?_
  rintro _ w7 ⟨s',rfl,hT7,E7⟩
  have A7:=hAd.pureE E7
  refine ⟨_,_,_,_,_,s',rfl,⟨A7.box,hrowT A7.pure⟩,E7.keptP,?_⟩
  refine (c_Of (S:=fun b=>wl.drew.heap.size≤b∧b<w7.heap.size) p (.mk xk xf xt xu xx xks) s' w7 hT7.lt A7.pool hW.ok (fun b hb hh=>by have:=hAd.pool.lt hb;omega) (fun b hb=>hb.2)).mono ?_
  rintro _ w8 ⟨r4,r5,rfl,h45,FP',hP8,X8,hF8⟩
  obtain ⟨k8,A8⟩:=A7.pgrow hP8 X8 hF8
  refine ⟨_,_,rfl,⟨A8.box,hrowT A8.pure⟩,k8,?_⟩
  have A9:=A8.pureE (Ext.drew w8)
  refine ⟨fun w=>Box w s [.pointer (some p),.pointer (some k),.pointer (some q),sg.v] 41∧Row w a (vN (.mk xk xf xt xu xx xks) sx),⟨A9.box,hrowT A9.pure⟩,?_⟩
  rintro _ rfl
  refine ⟨some q,fun _ h=>h.1.cell rfl,a,hat,_,_,_,_,_,sx,fun _ h=>h.2,?_⟩
  refine (jDC (S:=ST) q (.mk xk xf xt xu xx xks) sx w8.drew (hkid.pure A9.pure) A9.ref hW.ok (fun b hb hh=>by have:=(A9.oR b hb).1;have:=hS b hh;omega) (fun b hb=>by have:=hS b hb;have:=A9.pure.size;omega)).mono ?_
  rintro _ w10 ⟨r6,r7,rfl,h67,FR',hR10,X10,hF10⟩
  obtain ⟨k10,A10⟩:=A9.doc hR10 X10 hF10
  refine ⟨_,_,rfl,⟨A10.box,hrowT A10.pure⟩,k10,?_⟩
  obtain ⟨M,hM⟩:=Sp.jFS hW.ok (.mk xk xf xt xu xx xks)
  have hWx:=Sp.of_wf hW (.mk xk xf xt xu xx xks)
  have htr:=Sp.jHP hW (x:=.mk xk xf xt xu xx xks)
  rw [Sp.kS] at hstep
  simp only at hstep
  have hkM:Sp.KnowOk (Sp.of L (.mk xk xf xt xu xx xks)).2.2 G S:=by rw [hM];exact hk.app
  generalize Sp.of L (.mk xk xf xt xu xx xks)=R at *
  obtain ⟨t,er,L'⟩:=R
  simp only at h45 h67 hM hWx htr hstep hkM A10
  cases h45
  cases h67
  refine Br.f (by simp) ⟨fun h=>?_,fun h=>?_⟩
  ·intro H1 w12 hs12
   rw [if_pos (by simpa using h)] at hstep
   rw [zE hlt (by omega)]
   refine ⟨⟨j+1,sg,S,FP',FK,FR',rfl,hlt,?_,?_⟩,kN hlt⟩
   ·rw [hstep];exact A10.hst hs12
   ·rw [hstep];exact hkM
  ·intro H1 w12 hs12
   have her:r5=0:=by simpa using h
   rw [if_neg (by simpa using her)] at hstep
   have A12:=A10.hst hs12
   have hin:=(htr her).1
   have hgT:=Sp.jFZ (G:=G) hin
   refine ⟨fun there i H w=>∃n:Nat,i=n∧n≤G.length∧there=decide (r4∈G.take n)∧SideAt w0 H w s p k q sg L' L' G G S FP' FK FR',fun _ i _=>((G.length:Int) - i).toNat,⟨0,rfl,Nat.zero_le _,by simp,A12⟩,?_⟩
   rintro there _ H2 w2 hs2 ⟨n,rfl,hnG,hth,B⟩
   unfold m_I_l3
   have hsl:sg.len=G.length:=by rw [B.giv.len,zO]
   refine ⟨sg,B.box.cell rfl,fun h=>?_,fun h=>?_⟩
   ·have hltn:=zR hsl h
    have htk:G.take (n+1)=G.take n++[G[n]]:=List.take_succ_eq_append_getElem hltn
    refine ⟨fun h=>?_,fun h=>?_⟩
    ·unfold m_I_j4
     rw [zE hltn (by omega)]
     refine ⟨⟨n+1,rfl,hltn,?_,B⟩,kN hltn⟩
     rw [h] at hth
     rw [htk,eq_comm,decide_eq_true_eq]
     exact List.mem_append_left _ (by simpa using hth.symm)
    ·obtain ⟨ad,had,_,hcell⟩:=jDS B.giv.lst hltn
     refine ⟨sg,B.box.cell rfl,ad,had,_,hcell,?_⟩
     unfold m_I_j4
     rw [zE hltn (by omega)]
     refine ⟨⟨n+1,rfl,hltn,?_,B⟩,kN hltn⟩
     rw [h] at hth
     have hnot:r4 ∉ G.take n:=by simpa using hth.symm
     rw [htk,Bool.eq_iff_iff]
     simp only [beq_iff_eq,decide_eq_true_eq,List.mem_append,List.mem_singleton]
     exact ⟨fun e=>.inr e.symm,fun e=>e.elim (fun h=>absurd h hnot) (fun h=>h.symm)⟩
   ·have hge:=zY hsl hnG h
    subst hge
    rw [List.take_length] at hth
    have fin:∀{sg':Sl} {w:World} {G':List Int},Sp.jAM G r4=G'→SideAt w0 H2 w s p k q sg' L' L' G G' S FP' FK FR'→∃v:Option Addr,w.cell? (s.add 1)=some (.pointer v)∧Calls prog 21 #[.pointer v,.int .i64 r4] w (fun e w'=>∃r:Int,e=.returned (.int .i64 r)∧Kept H2 w w'∧((∃(j':Nat) (sg:Sl) (S:List Sp.Way) (FP FK FR:NP),IntKind.i64.wrap ((j:Int)+1)=j'∧j'≤ts.length∧SideAt w0 H2 w' s p k q sg (Sp.jQ (ts.take j')).1 (Sp.jQ (ts.take j')).1 (Sp.jQ (ts.take j')).2 (Sp.jQ (ts.take j')).2 S FP FK FR∧Sp.KnowOk (Sp.jQ (ts.take j')).1 (Sp.jQ (ts.take j')).2 S)∧((ts.length:Int) - IntKind.i64.wrap ((j:Int)+1)).toNat<((ts.length:Int) - j).toNat)):=by
     intro sg' w G' hG C;refine ⟨some k,C.box.cell rfl,?_⟩;refine (jFA k p r4 w C.know C.pool hWx (fun b hb hf=>(C.oP b hf).2.2.2.1 hb) hkM).mono ?_;rintro _ w' ⟨r,rfl,_,S',F',hK',ok',X',hF'⟩;obtain ⟨kk,D⟩:=C.add hK' X' hF';rw [zE hlt (by omega)];rw [hgT] at D ok';refine ⟨r,rfl,kk,⟨j+1,sg',S',FP',F',FR',rfl,hlt,?_,?_⟩,kN hlt⟩
     ·rw [hstep];subst hG;exact D
     ·rw [hstep];exact ok'
    refine ⟨fun h=>?_,fun h=>?_⟩
    ·have hnot:r4 ∉ G:=by rw [hth] at h;simpa using h
     refine ⟨sg,B.box.cell rfl,?_⟩
     intro p2 w14 n14
     obtain ⟨s1,w15,hr15,k15,cw,C⟩:=B.app n14 (by omega)
     refine ⟨s1,w15,hr15,k15,cw,by rw [jK];exact B.oS.2,?_⟩
     rintro _ rfl
     exact fin (by unfold Sp.jAM;rw [if_neg hnot]) C
    ·have hyes:r4∈G:=by rw [hth] at h;simpa using h
     exact fin (by unfold Sp.jAM;rw [if_pos hyes]) B
 ·have hge:=zY len hj h
  subst hge
  rw [List.take_length] at hA hk
  exact hK _ _ _ _ _ _ _ _ _ _ _ hA hk
def lH (c c1 c2:Addr):List (Int×Value) :=
 [(0,.func (.func 50) #[] #[.pointer (some c1)]),(1,.func (.func 51) #[] #[.pointer (some c2)]),(2,.func (.func 53) #[] #[.pointer (some c2)]),
  (3,.func (.func 55) #[] #[.pointer (some c2)]),(4,.func (.func 57) #[] #[.pointer (some c1),.pointer (some c2)]),(5,.func (.func 60) #[] #[.pointer (some c1),.pointer (some c2)]),
  (6,.func (.func 62) #[] #[.pointer (some c1)]),(7,.func (.func 64) #[] #[.pointer (some c1)]),(8,.func (.func 65) #[.pointer (some c)] #[]),
  (9,.func (.func 66) #[] #[.pointer (some c1),.pointer (some c2)]),(10,.func (.func 69) #[] #[.pointer (some c1),.pointer (some c2)]),(11,.func (.func 73) #[] #[.pointer (some c1),.pointer (some c2)])]
section
variable {w0:World} {c p c1 c2:Addr} {sg sm:Sl} {G M:List Int} (hC:CookS w0 c p sg sm G M)
variable (h1:w0.cell? c1=some (.pointer (some c))) (h2:w0.cell? c2=some (.pointer (some p)))
variable {L:Sp.Pool} {F:NP} (hP:jL w0 p L F) (hok:Sp.Ok L)
abbrev DoK (p:Addr) (F:NP) (w:World) (R:Sp.Res) (r1 r2:Int) (w':World):Prop:=(r1,r2)=(R.1,R.2.1)∧∃F',jL w' p R.2.2 F'∧Ext F w w'∧∀b,F' b→F b∨w.heap.size≤b
theorem DoK.pre {p:Addr} {F:NP} {w w1 w':World} {R:Sp.Res} {r1 r2:Int} (E:Pure w w1) (h:DoK p F w1 R r1 r2 w'):DoK p F w R r1 r2 w':=by
 obtain ⟨h1,F',h2,h3,h4⟩:=h;exact ⟨h1,F',h2,E.pure.trans h3,fun b hb=>(h4 b hb).imp_right (fun h=>by have:=E.size;omega)⟩
include hC h1 hP in
theorem jIH (o:Sp.Op):Calls prog 50 #[opv o,.pointer (some c1)] w0 (DoPost p F w0 (Sp.kO L G o)):=by
 obtain ⟨co,oa,ob,on,ox⟩:=o;refine w_R co oa ob on ox _ w0 (DoK p F w0 (Sp.kO L G ⟨co,oa,ob,on,ox⟩)) ?_;unfold m_R;have hl:sg.len=G.length:=by rw [hC.giv.len,zO]
 have no:∀H w,Hst w0 None w0 H w→Sp.atM G oa=none→DoK p F w0 (Sp.kO L G ⟨co,oa,ob,on,ox⟩) 0 90 w:=fun H w hs hn=>by
  have e:Sp.kO L G ⟨co,oa,ob,on,ox⟩=Sp.uS L:=by unfold Sp.kO;simp only;rw [hn]
  rw [e];exact ⟨rfl,F,hP.pure hs.first,hs.first.pure,fun b hb=>.inl hb⟩
 refine ⟨fun h=>fun H w hs=>?_,fun h=>fun H w hs=>?_⟩
 ·unfold m_R_j1;exact Br.t rfl (no H w hs (Sp.xA (.inl (of_decide_eq_true h))))
 ·have h:=of_decide_eq_false h;have C:=hC.pure hs.first;refine ⟨some c,(hs.first).cell h1 (fun h=>h),c,rfl,sg,C.box.cell rfl,?_⟩;unfold m_R_j1;refine ⟨fun h3=>no H w hs (Sp.xA (.inr (by have:=of_decide_eq_true h3;omega))),fun h3=>?_⟩;have h3:=of_decide_eq_false h3;intro w2 hs2;have E2:=hs.first.hst hs2;have C2:=hC.pure E2;have e:Sp.atM G oa=some (G[oa.toNat]'(by omega)):=Sp.jFC (by omega) (by omega);obtain ⟨a,ha,hc⟩:=jAR C2.giv e;refine ⟨some c,E2.cell h1 (fun h=>h),c,rfl,sg,C2.box.cell rfl,a,ha,_,hc,?_⟩;have e2:Sp.kO L G ⟨co,oa,ob,on,ox⟩=(G[oa.toNat]'(by omega),0,L):=by unfold Sp.kO;simp only;rw [e]
  rw [e2];exact ⟨rfl,F,hP.pure E2,E2.pure,fun b hb=>.inl hb⟩
include h2 hP hok in
theorem jIG (o:Sp.Op):Calls prog 51 #[opv o,.pointer (some c2)] w0 (DoPost p F w0 (Sp.make L ⟨1,o.a,0,0,⟨#[]⟩,0,0⟩)):=by
 obtain ⟨co,oa,ob,on,ox⟩:=o;refine w_N2 _ _ _ _ _ _ w0 (DoK p F w0 (Sp.make L ⟨1,oa,0,0,⟨#[]⟩,0,0⟩)) ?_;unfold m_N2;intro H1 w1 hs1;refine ⟨some p,hs1.first.cell h2 (fun h=>h),?_⟩;refine (c_Name p w1 (hP.pure hs1.first) hok oa).mono ?_;rintro _ w2 ⟨r1,r2,rfl,h⟩;exact ⟨r1,r2,rfl,h.2.elim (fun F' h=>h.2.1.kept (fun b hb hx=>by have:=hs1.old b hb;have:=hP.lt hx;omega)),DoK.pre hs1.first h⟩
include h2 hP hok in
theorem jIF (o:Sp.Op):Calls prog 53 #[opv o,.pointer (some c2)] w0 (DoPost p F w0 (Sp.make L ⟨2,0,0,o.num,⟨#[]⟩,0,0⟩)):=by
 obtain ⟨co,oa,ob,on,ox⟩:=o;refine w_O2 _ _ _ _ _ _ w0 (DoK p F w0 (Sp.make L ⟨2,0,0,on,⟨#[]⟩,0,0⟩)) ?_;unfold m_O2;intro H1 w1 hs1;refine ⟨some p,hs1.first.cell h2 (fun h=>h),?_⟩;refine (c_Num p w1 (hP.pure hs1.first) hok on).mono ?_;rintro _ w2 ⟨r1,r2,rfl,h⟩;exact ⟨r1,r2,rfl,h.2.elim (fun F' h=>h.2.1.kept (fun b hb hx=>by have:=hs1.old b hb;have:=hP.lt hx;omega)),DoK.pre hs1.first h⟩
include h2 hP hok in
theorem jIE (o:Sp.Op):Calls prog 55 #[opv o,.pointer (some c2)] w0 (DoPost p F w0 (Sp.make L ⟨3,0,0,0,o.text,0,0⟩)):=by
 obtain ⟨co,oa,ob,on,ox⟩:=o;refine w_P2 _ _ _ _ _ _ w0 (DoK p F w0 (Sp.make L ⟨3,0,0,0,ox,0,0⟩)) ?_;unfold m_P2;intro H1 w1 hs1;refine ⟨some p,hs1.first.cell h2 (fun h=>h),?_⟩;refine (c_Data p w1 (hP.pure hs1.first) hok ox).mono ?_;rintro _ w2 ⟨r1,r2,rfl,h⟩;exact ⟨r1,r2,rfl,h.2.elim (fun F' h=>h.2.1.kept (fun b hb hx=>by have:=hs1.old b hb;have:=hP.lt hx;omega)),DoK.pre hs1.first h⟩
include hC h1 h2 hP hok in
theorem jID (o:Sp.Op):Calls prog 57 #[opv o,.pointer (some c1),.pointer (some c2)] w0 (DoPost p F w0 (Sp.qV L M o)):=by
 obtain ⟨co,oa,ob,on,ox⟩:=o;refine w_R2 _ _ _ _ _ _ _ w0 (DoK p F w0 (Sp.qV L M ⟨co,oa,ob,on,ox⟩)) ?_;unfold m_R2;intro H1 w1 hs1;have E1:=hs1.first;refine ⟨some c,E1.cell h1 (fun h=>h),?_⟩;refine (qK (hC.pure E1) oa).mono ?_;rintro _ w1 ⟨ra,oka,rfl,hra,rfl⟩;refine ⟨_,_,rfl,Kept.refl _,some c,E1.cell h1 (fun h=>h),?_⟩;refine (qK (hC.pure E1) ob).mono ?_;rintro _ w1 ⟨rb,okb,rfl,hrb,rfl⟩;refine ⟨_,_,rfl,Kept.refl _,?_⟩;unfold Sp.qV;simp only;have no:∀H w,Hst w0 H1 w1 H w→DoK p F w0 (Sp.uS L) 0 90 w:=fun H w hs=>⟨rfl,F,hP.pure (E1.hst hs),(E1.hst hs).pure,fun b hb=>.inl hb⟩;cases hta:Sp.atM M oa with
 | none =>
  rw [hta] at hra;obtain ⟨rfl,rfl⟩:=hra
  exact Br.t (by simp) (fun H w hs=>no H w hs)
 | some a =>
  rw [hta] at hra;obtain ⟨rfl,rfl⟩:=hra
  simp only
  cases htb:Sp.atM M ob with
  | none =>
   rw [htb] at hrb;obtain ⟨rfl,rfl⟩:=hrb
   exact Br.t (by simp) (fun H w hs=>no H w hs)
  | some b =>
   rw [htb] at hrb;obtain ⟨rfl,rfl⟩:=hrb
   simp only
   refine Br.f rfl (fun H w hs=>⟨some p,(E1.hst hs).cell h2 (fun h=>h),?_⟩)
   refine (c_Pair p w (hP.pure (E1.hst hs)) hok ra rb).mono ?_
   rintro _ w2 ⟨r1,r2,rfl,h⟩
   exact ⟨r1,r2,rfl,h.2.elim (fun F' h=>h.2.1.kept (fun b hb hx=>by have:=hs.old b hb;have:=hP.lt hx;omega)),DoK.pre (E1.hst hs) h⟩
include hC h1 h2 hP hok in
theorem jIC (o:Sp.Op):Calls prog 60 #[opv o,.pointer (some c1),.pointer (some c2)] w0 (DoPost p F w0 (Sp.yQ L M o)):=by
 obtain ⟨co,oa,ob,on,ox⟩:=o;refine w_S2 _ _ _ _ _ _ _ w0 (DoK p F w0 (Sp.yQ L M ⟨co,oa,ob,on,ox⟩)) ?_;unfold m_S2;intro H1 w1 hs1;have E1:=hs1.first;refine ⟨some c,E1.cell h1 (fun h=>h),?_⟩;refine (qK (hC.pure E1) oa).mono ?_;rintro _ w1 ⟨ra,oka,rfl,hra,rfl⟩;refine ⟨_,_,rfl,Kept.refl _,?_⟩;unfold Sp.yQ;simp only;cases hta:Sp.atM M oa with
 | none =>
  rw [hta] at hra;obtain ⟨rfl,rfl⟩:=hra
  exact Br.t rfl ⟨rfl,F,hP.pure E1,E1.pure,fun b hb=>.inl hb⟩
 | some a =>
  rw [hta] at hra;obtain ⟨rfl,rfl⟩:=hra
  simp only
  refine Br.f rfl ⟨some p,E1.cell h2 (fun h=>h),?_⟩
  refine (c_Hash p _ (hP.pure E1) hok ra).mono ?_
  rintro _ w2 ⟨r1,r2,rfl,h⟩
  exact ⟨r1,r2,rfl,h.2.elim (fun F' h=>h.2.1.kept (fun b hb hx=>by have:=hs1.old b hb;have:=hP.lt hx;omega)),DoK.pre E1 h⟩
include hC h1 hP hok in
theorem jIB (o:Sp.Op):Calls prog 62 #[opv o,.pointer (some c1)] w0 (DoPost p F w0 (Sp.kH L M o false)):=by
 obtain ⟨co,oa,ob,on,ox⟩:=o;refine w_V2 _ _ _ _ _ _ w0 (DoK p F w0 (Sp.kH L M ⟨co,oa,ob,on,ox⟩ false)) ?_;unfold m_V2;intro H1 w1 hs1;have E1:=hs1.first;refine ⟨some c,E1.cell h1 (fun h=>h),?_⟩;refine (gX (hC.pure E1) (hP.pure E1) hok ⟨co,oa,ob,on,ox⟩ false).mono ?_;rintro _ w2 ⟨r1,r2,rfl,h⟩;exact ⟨r1,r2,rfl,h.2.elim (fun F' h=>h.2.1.kept (fun b hb hx=>by have:=hs1.old b hb;have:=hP.lt hx;omega)),DoK.pre E1 h⟩
include hC h1 hP hok in
theorem jIA (o:Sp.Op):Calls prog 64 #[opv o,.pointer (some c1)] w0 (DoPost p F w0 (Sp.kH L M o true)):=by
 obtain ⟨co,oa,ob,on,ox⟩:=o;refine w_W2 _ _ _ _ _ _ w0 (DoK p F w0 (Sp.kH L M ⟨co,oa,ob,on,ox⟩ true)) ?_;unfold m_W2;intro H1 w1 hs1;have E1:=hs1.first;refine ⟨some c,E1.cell h1 (fun h=>h),?_⟩;refine (gX (hC.pure E1) (hP.pure E1) hok ⟨co,oa,ob,on,ox⟩ true).mono ?_;rintro _ w2 ⟨r1,r2,rfl,h⟩;exact ⟨r1,r2,rfl,h.2.elim (fun F' h=>h.2.1.kept (fun b hb hx=>by have:=hs1.old b hb;have:=hP.lt hx;omega)),DoK.pre E1 h⟩
include hC h1 h2 hP hok in
theorem jHZ (o:Sp.Op):Calls prog 66 #[opv o,.pointer (some c1),.pointer (some c2)] w0 (DoPost p F w0 (Sp.zG L M o (fun k a=>⟨7,k,0,0,⟨#[]⟩,a,0⟩))):=by
 obtain ⟨co,oa,ob,on,ox⟩:=o;refine w_Z2 _ _ _ _ _ _ _ w0 (DoK p F w0 (Sp.zG L M ⟨co,oa,ob,on,ox⟩ (fun k a=>⟨7,k,0,0,⟨#[]⟩,a,0⟩))) ?_;unfold m_Z2;intro H1 w1 hs1;have E1:=hs1.first;refine ⟨some c,E1.cell h1 (fun h=>h),some p,E1.cell h2 (fun h=>h),?_⟩;refine (qJ (hC.pure E1) (hP.pure E1) hok ⟨co,oa,ob,on,ox⟩ 68 #[.pointer (some p)] #[] (fun k a=>⟨7,k,0,0,⟨#[]⟩,a,0⟩) call68 (fun k a w' E'=>?_)).mono ?_
 ·exact c_Sign p w' ((hP.pure E1).pure E') hok k a
 rintro _ w2 ⟨r1,r2,rfl,h⟩;exact ⟨r1,r2,rfl,h.2.elim (fun F' h=>h.2.1.kept (fun b hb hx=>by have:=hs1.old b hb;have:=hP.lt hx;omega)),DoK.pre E1 h⟩
variable (hd:¬ F c2.block)
include hC h1 h2 hP hok hd in
theorem jGL (o:Sp.Op):Calls prog 69 #[opv o,.pointer (some c1),.pointer (some c2)] w0 (DoPost p F w0 (Sp.zG L M o (fun k a=>⟨8,k,Sp.vY o.num,0,⟨#[]⟩,a,0⟩))):=by
 obtain ⟨co,oa,ob,on,ox⟩:=o;refine w_A3 co oa ob on ox _ _ w0 (DoK p F w0 (Sp.zG L M ⟨co,oa,ob,on,ox⟩ (fun k a=>⟨8,k,Sp.vY on,0,⟨#[]⟩,a,0⟩))) ?_;unfold m_A3;intro p1 w1 hn1;have E1:Pure w0 w1:=Ext.new hn1;have B1:=Box.of_new hn1;refine ⟨some c,E1.cell h1 (fun h=>h),_,_,_,_,_,B1.row,?_⟩;refine (qJ (hC.pure E1) (hP.pure E1) hok ⟨co,oa,ob,on,ox⟩ 70 #[] #[.pointer (some c2),.pointer (some p1)] (fun k a=>⟨8,k,Sp.vY on,0,⟨#[]⟩,a,0⟩) call70 (fun k a w' E'=>?_)).mono ?_
 ·refine w_B3 k a _ _ w' (DoK p F w' (Sp.make L ⟨8,k,Sp.vY on,0,⟨#[]⟩,a,0⟩)) ?_;unfold m_B3;have hcc:w'.cell? c2=some (.pointer (some p)):=(E1.trans E').cell h2 (fun h=>h);have hcp:w'.cell? (p1.add 3)=some (.int .u64 on):=(B1.pure E').cell rfl;have hpf:¬ F (p1.add 3).block:=fun h=>by rw [jK] at h;have:=hP.lt h;have:=hn1.at_size;omega
  have Ed:Pure w' w'.drew:=Ext.drew w';have keep:∀{X:NP} {a b:World},(a.cell? c2=some (.pointer (some p))∧a.cell? (p1.add 3)=some (.int .u64 on))→Ext X a b→(∀b,X b→F b)→b.cell? c2=some (.pointer (some p))∧b.cell? (p1.add 3)=some (.int .u64 on):=fun h E hx=>⟨E.cell h.1 (fun hh=>hd (hx _ hh)),E.cell h.2 (fun hh=>hpf (hx _ hh))⟩;have C1:=keep ⟨hcc,hcp⟩ Ed (fun _ h=>h.elim);refine ⟨fun w=>w.cell? c2=some (.pointer (some p))∧w.cell? (p1.add 3)=some (.int .u64 on),C1,?_⟩;rintro _ rfl;refine ⟨some p,fun _ h=>h.1,on,fun _ h=>h.2,?_⟩;refine (p_H1 on _).mono ?_;rintro _ w2 ⟨rfl,E2⟩;have C2:=keep C1 E2 (fun _ h=>h.elim);refine ⟨_,rfl,C2,E2.keptP,?_⟩;refine (c_Prom p w2 (hP.pure (((E1.trans E').trans Ed).trans E2)) hok k (s_H1 on) a).mono ?_;rintro _ w3 ⟨r1,r2,rfl,h⟩;exact ⟨r1,r2,rfl,h.2.elim (fun F' h=>keep C2 h.2.1 (fun _ h=>h)),h.2.elim (fun F' h=>h.2.1.kept (fun b hb hx=>hb.elim)),DoK.pre (Ed.trans E2) h⟩
 rintro _ w2 ⟨r1,r2,rfl,h⟩;exact ⟨r1,r2,rfl,DoK.pre E1 h⟩
include hC h1 h2 hP hok hd in
theorem jGK (o:Sp.Op):Calls prog 73 #[opv o,.pointer (some c1),.pointer (some c2)] w0 (DoPost p F w0 (Sp.zG L M o (fun k a=>⟨9,Sp.vY o.num,k,0,⟨#[]⟩,a,0⟩))):=by
 obtain ⟨co,oa,ob,on,ox⟩:=o;refine w_C3 co oa ob on ox _ _ w0 (DoK p F w0 (Sp.zG L M ⟨co,oa,ob,on,ox⟩ (fun k a=>⟨9,Sp.vY on,k,0,⟨#[]⟩,a,0⟩))) ?_;unfold m_C3;intro p1 w1 hn1;have E1:Pure w0 w1:=Ext.new hn1;have B1:=Box.of_new hn1;refine ⟨some c,E1.cell h1 (fun h=>h),_,_,_,_,_,B1.row,?_⟩;refine (qJ (hC.pure E1) (hP.pure E1) hok ⟨co,oa,ob,on,ox⟩ 74 #[] #[.pointer (some c2),.pointer (some p1)] (fun k a=>⟨9,Sp.vY on,k,0,⟨#[]⟩,a,0⟩) call74 (fun k a w' E'=>?_)).mono ?_
 ·refine w_D3 k a _ _ w' (DoK p F w' (Sp.make L ⟨9,Sp.vY on,k,0,⟨#[]⟩,a,0⟩)) ?_;unfold m_D3;have hcc:w'.cell? c2=some (.pointer (some p)):=(E1.trans E').cell h2 (fun h=>h);have hcp:w'.cell? (p1.add 3)=some (.int .u64 on):=(B1.pure E').cell rfl;have hpf:¬ F (p1.add 3).block:=fun h=>by rw [jK] at h;have:=hP.lt h;have:=hn1.at_size;omega
  have Ed:Pure w' w'.drew:=Ext.drew w';have keep:∀{X:NP} {a b:World},(a.cell? c2=some (.pointer (some p))∧a.cell? (p1.add 3)=some (.int .u64 on))→Ext X a b→(∀b,X b→F b)→b.cell? c2=some (.pointer (some p))∧b.cell? (p1.add 3)=some (.int .u64 on):=fun h E hx=>⟨E.cell h.1 (fun hh=>hd (hx _ hh)),E.cell h.2 (fun hh=>hpf (hx _ hh))⟩;have C1:=keep ⟨hcc,hcp⟩ Ed (fun _ h=>h.elim);refine ⟨fun w=>w.cell? c2=some (.pointer (some p))∧w.cell? (p1.add 3)=some (.int .u64 on),C1,?_⟩;rintro _ rfl;refine ⟨some p,fun _ h=>h.1,on,fun _ h=>h.2,?_⟩;refine (p_H1 on _).mono ?_;rintro _ w2 ⟨rfl,E2⟩;have C2:=keep C1 E2 (fun _ h=>h.elim);refine ⟨_,rfl,C2,E2.keptP,?_⟩;refine (c_Fake p w2 (hP.pure (((E1.trans E').trans Ed).trans E2)) hok (s_H1 on) k a).mono ?_;rintro _ w3 ⟨r1,r2,rfl,h⟩;exact ⟨r1,r2,rfl,h.2.elim (fun F' h=>keep C2 h.2.1 (fun _ h=>h)),h.2.elim (fun F' h=>h.2.1.kept (fun b hb hx=>hb.elim)),DoK.pre (Ed.trans E2) h⟩
 rintro _ w2 ⟨r1,r2,rfl,h⟩;exact ⟨r1,r2,rfl,DoK.pre E1 h⟩
include hC h1 h2 hP hok hd in
theorem c_dish (o:Sp.Op):(SE.look (lH c c1 c2) o.code=none→Sp.zZ L G M o=Sp.uS L) ∧
  ∀v,SE.look (lH c c1 c2) o.code=some v→∃(f:FuncId) (fs cs:Array Value),v=.func (.func f) fs cs∧(∀args w,(callFunc f args).run prog w=.ok (.enter f args) w)∧Calls prog f (fs++#[opv o]++cs) w0 (DoPost p F w0 (Sp.zZ L G M o)):=by
 have d0:=jIH hC h1 hP o
 have d1:=jIG h2 hP hok o
 have d2:=jIF h2 hP hok o
 have d3:=jIE h2 hP hok o
 have d4:=jID hC h1 h2 hP hok o
 have d5:=jIC hC h1 h2 hP hok o
 have d6:=jIB hC h1 hP hok o
 have d7:=jIA hC h1 hP hok o
 have d8:=jAK hC hP hok o
 have d9:=jHZ hC h1 h2 hP hok o
 have d10:=jGL hC h1 h2 hP hok hd o
 have d11:=jGK hC h1 h2 hP hok hd o
 generalize hk:o.code=k
 unfold Sp.zZ lH
 rw [hk]
 have step : ∀ (n : Int) (u : Value) (M' : List (Int × Value)) (R R' : Sp.Res), (∃ (f : FuncId) (fs cs : Array Value), u = .func (.func f) fs cs ∧ (∀ args w, (callFunc f args).run prog w = .ok (.enter f args) w) ∧ Calls prog f (fs ++ #[opv o] ++ cs) w0 (DoPost p F w0 R)) →
   ((SE.look M' k=none→R'=Sp.uS L)∧∀v,SE.look M' k=some v→∃(f:FuncId) (fs cs:Array Value),v=.func (.func f) fs cs∧(∀args w,(callFunc f args).run prog w=.ok (.enter f args) w)∧Calls prog f (fs++#[opv o]++cs) w0 (DoPost p F w0 R')) →
   ((SE.look ((n,u) :: M') k=none→(if k=n then R else R')=Sp.uS L)∧∀v,SE.look ((n,u) :: M') k=some v→∃(f:FuncId) (fs cs:Array Value),v=.func (.func f) fs cs∧(∀args w,(callFunc f args).run prog w=.ok (.enter f args) w)∧Calls prog f (fs++#[opv o]++cs) w0 (DoPost p F w0 (if k=n then R else R'))):=by
  intro n u M' R R' h h'
  rw [SE.look]
  by_cases e:k=n
  ·rw [if_pos e.symm,if_pos e]
   exact ⟨fun h=>(by cases h),fun v hv=>by cases hv;exact h⟩
  ·rw [if_neg (fun e'=>e e'.symm),if_neg e]
   exact h'
 refine step 0 _ _ _ _ ⟨_,_,_,rfl,call50,d0⟩ ?_
 refine step 1 _ _ _ _ ⟨_,_,_,rfl,call51,d1⟩ ?_
 refine step 2 _ _ _ _ ⟨_,_,_,rfl,call53,d2⟩ ?_
 refine step 3 _ _ _ _ ⟨_,_,_,rfl,call55,d3⟩ ?_
 refine step 4 _ _ _ _ ⟨_,_,_,rfl,call57,d4⟩ ?_
 refine step 5 _ _ _ _ ⟨_,_,_,rfl,call60,d5⟩ ?_
 refine step 6 _ _ _ _ ⟨_,_,_,rfl,call62,d6⟩ ?_
 refine step 7 _ _ _ _ ⟨_,_,_,rfl,call64,d7⟩ ?_
 refine step 8 _ _ _ _ ⟨_,_,_,rfl,call65,d8⟩ ?_
 refine step 9 _ _ _ _ ⟨_,_,_,rfl,call66,d9⟩ ?_
 refine step 10 _ _ _ _ ⟨_,_,_,rfl,call69,d10⟩ ?_
 refine step 11 _ _ _ _ ⟨_,_,_,rfl,call73,d11⟩ ?_
 exact ⟨fun _=>rfl,fun v hv=>by cases hv⟩
end
theorem xL {w0:World} {c p:Addr} {sg sm:Sl} {G M:List Int} (hC:CookS w0 c p sg sm G M):Calls prog 39 #[.pointer (some c)] w0
  (fun e w'=>∃r:Option Nat,e=.returned (.map r)∧∃m c1 c2,r=some m∧IMap id w' m (lH c c1 c2)∧Box w' c1 [.pointer (some c)] 98∧Box w' c2 [.pointer (some p)] 36∧m≠c1.block∧m≠c2.block∧w0.heap.size≤m∧w0.heap.size≤c1.block∧w0.heap.size≤c2.block∧Pure w0 w'):=by
 refine w_L2 _ w0 (fun r w'=>∃m c1 c2,r=some m∧IMap id w' m (lH c c1 c2)∧Box w' c1 [.pointer (some c)] 98∧Box w' c2 [.pointer (some p)] 36∧m≠c1.block∧m≠c2.block∧w0.heap.size≤m∧w0.heap.size≤c1.block∧w0.heap.size≤c2.block∧Pure w0 w') ?_
 unfold m_L2
 intro p1 w1 n1
 have E1:Pure w0 w1:=Ext.new n1
 have B1:=Box.of_new n1
 refine ⟨some c,B1.cell0,c,rfl,some p,(hC.pure E1).box.cell0,?_⟩
 intro p2 w2 n2
 have E2:Pure w1 w2:=Ext.new n2
 have B2:=Box.of_new n2
 refine ⟨B2.canW0 (by simp),?_⟩
 intro w3 hw3
 have E3:Ext (·=p2.block) w2 w3:=by rw [hw3];exact Ext.setCell p2 _
 have B2':Box w3 p2 [.pointer (some p)] 36:=by rw [hw3];exact B2.set0
 clear hw3
 have z1:=n1.at_size
 have z2:=n2.at_size
 have s1:=E1.size
 have s2:=E2.size
 have s3:=E3.size
 have l1:=B1.lt
 have l2:=B2.lt
 have B1':=(B1.pure E2).ext E3 (show ¬ p1.block=p2.block by omega)
 have E03:Pure w0 w3:=(E1.trans E2).own (by omega) E3
 intro p3 w4 n4
 have E4:Pure w3 w4:=Ext.new n4
 have z4:=n4.at_size
 have M0:IMap id w4 p3.block []:=IMap.of_new n4
 have put:∀{w:World} {M:List (Int×Value)} (k:Int) (v:Value),IMap id w p3.block M→SE.look M k=none→∃w',(Instr.mapUpdate 102 (.map (some p3.block)) (.int .i64 k) v).run prog w=.ok () w'∧IMap id w' p3.block (M++[(k,v)])∧Ext (·=p3.block) w w':=fun k v h hn=>h.put (P:=prog) (T:=102) (K:=3) underlying102 underlying3 hn v
 obtain ⟨w5,r5,M5,X5⟩:=put 0 (.func (.func 50) #[] #[.pointer (some p1)]) M0 rfl
 refine ⟨w5,r5,?_⟩
 obtain ⟨w6,r6,M6,X6⟩:=put 1 (.func (.func 51) #[] #[.pointer (some p2)]) M5 rfl
 refine ⟨w6,r6,?_⟩
 obtain ⟨w7,r7,M7,X7⟩:=put 2 (.func (.func 53) #[] #[.pointer (some p2)]) M6 rfl
 refine ⟨w7,r7,?_⟩
 obtain ⟨w8,r8,M8,X8⟩:=put 3 (.func (.func 55) #[] #[.pointer (some p2)]) M7 rfl
 refine ⟨w8,r8,?_⟩
 obtain ⟨w9,r9,M9,X9⟩:=put 4 (.func (.func 57) #[] #[.pointer (some p1),.pointer (some p2)]) M8 rfl
 refine ⟨w9,r9,?_⟩
 obtain ⟨w10,r10,M10,X10⟩:=put 5 (.func (.func 60) #[] #[.pointer (some p1),.pointer (some p2)]) M9 rfl
 refine ⟨w10,r10,?_⟩
 obtain ⟨w11,r11,M11,X11⟩:=put 6 (.func (.func 62) #[] #[.pointer (some p1)]) M10 rfl
 refine ⟨w11,r11,?_⟩
 obtain ⟨w12,r12,M12,X12⟩:=put 7 (.func (.func 64) #[] #[.pointer (some p1)]) M11 rfl
 have X4:Ext (·=p3.block) w4 w12:=((((((X5.trans X6).trans X7).trans X8).trans X9).trans X10).trans X11).trans X12
 have B12:=(B1'.pure E4).ext X4 (show ¬ p1.block=p3.block by omega)
 refine ⟨w12,r12,some c,B12.cell0,?_⟩
 obtain ⟨w13,r13,M13,X13⟩:=put 8 (.func (.func 65) #[.pointer (some c)] #[]) M12 rfl
 refine ⟨w13,r13,?_⟩
 obtain ⟨w14,r14,M14,X14⟩:=put 9 (.func (.func 66) #[] #[.pointer (some p1),.pointer (some p2)]) M13 rfl
 refine ⟨w14,r14,?_⟩
 obtain ⟨w15,r15,M15,X15⟩:=put 10 (.func (.func 69) #[] #[.pointer (some p1),.pointer (some p2)]) M14 rfl
 refine ⟨w15,r15,?_⟩
 obtain ⟨w16,r16,M16,X16⟩:=put 11 (.func (.func 73) #[] #[.pointer (some p1),.pointer (some p2)]) M15 rfl
 have X:=((X4.trans X13).trans X14).trans (X15.trans X16)
 refine ⟨w16,r16,p3.block,p1,p2,rfl,M16,(B1'.pure E4).ext X (show ¬ p1.block=p3.block by omega),(B2'.pure E4).ext X (show ¬ p2.block=p3.block by omega),by omega,by omega,by omega,by omega,by omega,(E03.trans E4).own (by omega) X⟩
structure RunS (w0:World) (H:NP) (w:World) (c p c1 c2:Addr) (m:Nat) (sg sm:Sl) (G M:List Int) (L:Sp.Pool) (F F1:NP):Prop where
 ck:CookS w c p sg sm G M
 mp:IMap id w m (lH c c1 c2)
 b1:Box w c1 [.pointer (some c)] 98
 b2:Box w c2 [.pointer (some p)] 36
 pool:jL w p L F1
 fr:Ext F w0 w
 hs:Hst w0 H w H w
 oP:∀b,F1 b→(F b∨w0.heap.size≤b)∧¬ H b
 oc:w0.heap.size≤c.block∧¬ H c.block∧¬ F1 c.block
 o1:w0.heap.size≤c1.block∧¬ H c1.block∧¬ F1 c1.block∧c1.block≠c.block
 o2:w0.heap.size≤c2.block∧¬ H c2.block∧¬ F1 c2.block∧c2.block≠c.block
 om:w0.heap.size≤m∧¬ H m∧¬ F1 m∧m≠c.block
 og:∀b,sg.blk b→w0.heap.size≤b∧¬ H b∧¬ F1 b∧b≠c.block
 os:∀b,sm.blk b→w0.heap.size≤b∧¬ H b∧¬ F1 b∧b≠c.block∧b≠c1.block∧b≠c2.block∧b≠m∧¬ sg.blk b
section
variable {w0 w w':World} {H H':NP} {c p c1 c2:Addr} {m:Nat} {sg sm:Sl} {G M:List Int} {L L':Sp.Pool} {F F1 F2:NP}
theorem RunS.hst (h:RunS w0 H w c p c1 c2 m sg sm G M L F F1) (hs:Hst w0 H w H' w'):RunS w0 H' w' c p c1 c2 m sg sm G M L F F1:=by
 have xc:=hs.disj (G:=fun b=>jIP c sg sm b) (fun b hb=>⟨h.ck.lt hb,by rcases hb with rfl | hb | hb;exact h.oc.2.1;exact (h.og b hb).2.1;exact (h.os b hb).2.1⟩);have xP:=hs.disj (G:=F1) (fun b hb=>⟨h.pool.lt hb,(h.oP b hb).2⟩);have x1:=hs.disj (G:=(·=c1.block)) (fun b hb=>by subst hb;exact ⟨h.b1.lt,h.o1.2.1⟩) _ rfl;have x2:=hs.disj (G:=(·=c2.block)) (fun b hb=>by subst hb;exact ⟨h.b2.lt,h.o2.2.1⟩) _ rfl;have xm:=hs.disj (G:=(·=m)) (fun b hb=>by subst hb;exact ⟨h.mp.lt,h.om.2.1⟩) _ rfl;exact ⟨h.ck.ext hs.ext xc,h.mp.ext hs.ext xm,h.b1.ext hs.ext x1,h.b2.ext hs.ext x2,h.pool.ext hs.ext xP,h.fr.hst hs,hs.here,fun b hb=>⟨(h.oP b hb).1,xP b hb⟩,⟨h.oc.1,xc _ (.inl rfl),h.oc.2.2⟩,⟨h.o1.1,x1,h.o1.2.2⟩,⟨h.o2.1,x2,h.o2.2.2⟩,⟨h.om.1,xm,h.om.2.2⟩,
  fun b hb=>⟨(h.og b hb).1,xc b (.inr (.inl hb)),(h.og b hb).2.2⟩,fun b hb=>⟨(h.os b hb).1,xc b (.inr (.inr hb)),(h.os b hb).2.2⟩⟩
theorem RunS.make (h:RunS w0 H w c p c1 c2 m sg sm G M L F F1) (hP:jL w' p L' F2) (E:Ext F1 w w') (hF:∀b,F2 b→F1 b∨w.heap.size≤b):Kept H w w'∧RunS w0 H w' c p c1 c2 m sg sm G M L' F F2:=by
 have hk:Kept H w w':=E.kept (fun b hb hf=>(h.oP b hf).2 hb);have z:w0.heap.size≤w.heap.size:=h.fr.size;have nf:∀b,b<w.heap.size→¬ F1 b→¬ F2 b:=fun b hb h1 h2=>(hF b h2).elim h1 (fun h3=>by omega);refine ⟨hk,h.ck.ext E (fun b hb=>by rcases hb with rfl | hb | hb;exact h.oc.2.2;exact (h.og b hb).2.2.1;exact (h.os b hb).2.2.1),h.mp.ext E h.om.2.2.1,h.b1.ext E h.o1.2.2.1,h.b2.ext E h.o2.2.2.1,hP,?_,h.hs.again hk,fun b hb=>?_,⟨h.oc.1,h.oc.2.1,nf _ h.ck.box.lt h.oc.2.2⟩,⟨h.o1.1,h.o1.2.1,nf _ h.b1.lt h.o1.2.2.1,h.o1.2.2.2⟩,⟨h.o2.1,h.o2.2.1,nf _ h.b2.lt h.o2.2.2.1,h.o2.2.2.2⟩,⟨h.om.1,h.om.2.1,nf _ h.mp.lt h.om.2.2.1,h.om.2.2.2⟩,
  fun b hb=>⟨(h.og b hb).1,(h.og b hb).2.1,nf _ (h.ck.giv.lt hb) (h.og b hb).2.2.1,(h.og b hb).2.2.2⟩,fun b hb=>⟨(h.os b hb).1,(h.os b hb).2.1,nf _ (h.ck.made.lt hb) (h.os b hb).2.2.1,(h.os b hb).2.2.2⟩⟩
 ·exact h.fr.trans' E (fun i hi hb=>(h.oP i hb).1.elim id (fun h=>by omega))
 ·rcases hF b hb with h1 | h1
  ·exact h.oP b h1
  ·exact ⟨.inr (by omega),fun hh=>by have:=h.hs.lt b hh;omega⟩
theorem RunS.app (h:RunS w0 H w c p c1 c2 m sg sm G M L F F1) {t:Int} {q:Addr} {w1:World} (hq:New w (.cells #[.int .i64 t] 32) q w1) (hn:M.length≤1000000):∃s1 w2,(Builtin.append_ #[39,39] 39 #[sm.v,(Sl.mk (some q) 1 1).v]).run prog w1=.ok s1.v w2∧Kept H w1 w2∧zS w2 (c.add 2) ∧
  RunS w0 H (w2.setCell (c.add 2) s1.v) c p c1 c2 m sg s1 G (M++[t]) L F F1:=by
 have E1:Pure w w1:=Ext.new hq
 obtain ⟨s1,w2,hr,hR,hE,hb⟩:=(h.ck.made.pure E1).append (P:=prog) (ty:=39) (c:=1) tI (r:=[.int .i64 t]) (Box.of_new hq).row rfl rfl (by rw [zO];omega) (by rw [zO];simp [maxLen];omega)
 have hk:Kept H w1 w2:=hE.kept (fun b hb hs=>(h.os b hs).2.1 hb)
 have hbx:=(h.ck.box.pure E1).ext hE (fun hs=>(h.os _ hs).2.2.2.1 rfl)
 have z1:=E1.size
 have z2:=hE.size
 have z:w0.heap.size≤w.heap.size:=h.fr.size
 have E3:=Ext.setCell (w:=w2) (c.add 2) s1.v
 rw [jK] at E3
 have hs1:∀b,s1.blk b→w0.heap.size≤b∧¬ H b∧¬ F1 b∧b≠c.block∧b≠c1.block∧b≠c2.block∧b≠m∧¬ sg.blk b:=fun b hb'=>by
  rcases hb b hb' with h1 | h1
  ·exact h.os b h1
  ·have a0:=h.ck.box.lt;have a1:=h.b1.lt;have a2:=h.b2.lt;have a3:=h.mp.lt;exact ⟨by omega,fun hh=>by have:=h.hs.lt b hh;omega,fun hh=>by have:=h.pool.lt hh;omega,by omega,by omega,by omega,by omega,fun hh=>by have:=h.ck.giv.lt hh;omega⟩
 refine ⟨s1,w2,hr,hk,hbx.canW (by simp),⟨hbx.set 2 s1.v,((h.ck.giv.pure E1).ext hE (fun b hb hs=>(h.os b hs).2.2.2.2.2.2.2 hb)).ext E3 (fun b hb e=>(h.og b hb).2.2.2 e),?_⟩,((h.mp.pure E1).ext hE (fun hs=>(h.os _ hs).2.2.2.2.2.2.1 rfl)).ext E3 h.om.2.2.2,((h.b1.pure E1).ext hE (fun hs=>(h.os _ hs).2.2.2.2.1 rfl)).ext E3 h.o1.2.2.2,((h.b2.pure E1).ext hE (fun hs=>(h.os _ hs).2.2.2.2.2.1 rfl)).ext E3 h.o2.2.2.2,
  ((h.pool.pure E1).ext hE (fun b hb hs=>(h.os b hs).2.2.1 hb)).ext E3 (fun b hb e=>h.oc.2.2 (e▸hb)),?_,(h.hs.again (E1.keptP)).again hk |>.again (E3.kept (fun b hb e=>h.oc.2.1 (e▸hb))),h.oP,h.oc,h.o1,h.o2,h.om,h.og,hs1⟩
 ·rw [show tmr (M++[t])=tmr M++[[.int .i64 t]] by simp [tmr]]
  exact hR.ext E3 (fun b hb e=>(hs1 b hb).2.2.2.1 e)
 ·exact ((h.fr.thenPure E1).trans' hE (fun i hi hs=>by have:=(h.os i hs).1;omega)).trans' E3 (fun i hi e=>by have:=h.oc.1;omega)
end
structure RanK (w0:World) (p:Addr) (F:NP) (R:List Int×Int×Sp.Pool) (s:Sl) (r2:Int) (w':World):Prop where
 err:r2=R.2.1
 pool:∃F',jL w' p R.2.2 F'∧(∀b,F' b→F b∨w0.heap.size≤b)∧∀b,s.blk b→¬ F' b
 rows:Rws w' 32 1 s (tmr R.1)
 own:∀b,s.blk b→w0.heap.size≤b
 fr:Ext F w0 w'
theorem RunS.done {w0 w:World} {H:NP} {c p c1 c2:Addr} {m:Nat} {sg sm:Sl} {G M:List Int} {L:Sp.Pool} {F F1:NP} (h:RunS w0 H w c p c1 c2 m sg sm G M L F F1) {R:List Int×Int×Sp.Pool} {e:Int} (hR:R=(M,e,L)):RanK w0 p F R sm e w:=by
 subst hR;exact ⟨rfl,⟨F1,h.pool,fun b hb=>(h.oP b hb).1,fun b hb=>(h.os b hb).2.2.1⟩,h.ck.made,fun b hb=>(h.os b hb).1,h.fr⟩
theorem jAI {Sl0:NP} (p k:Addr) (sl:Sl) (l:List Sp.Op) (w0:World) {L:Sp.Pool} {G:List Int} {S:List Sp.Way} {F FK:NP} (hW:Sp.Wf L) (hP:jL w0 p L F) (hK:zN w0 k p G S FK) (hl:Lst Sl0 w0 5 sl (l.map zU)) (hS0:∀b,Sl0 b→b<w0.heap.size∧¬ F b) (hG:G.length≤1000000) (hn:l.length≤1000) :
  Calls prog 27 #[.pointer (some p),.pointer (some k),sl.v] w0 (fun e w'=>∃s:Sl,∃r2:Int,e=.returned (.tuple #[s.v,.int .i64 r2])∧RanK w0 p F (Sp.jO L G [] l) s r2 w'):=by
 refine w_C1 _ _ _ w0 (fun s r2 w'=>RanK w0 p F (Sp.jO L G [] l) s r2 w') ?_
 unfold m_C1
 refine (jBL k p w0 hK hG).mono ?_
 rintro _ w1 ⟨sg,rfl,hg⟩
 refine ⟨sg,rfl,hg.kept,?_⟩
 intro c w2 n2
 have E2:Pure w1 w2:=Ext.new n2
 have B2:=Box.of_new n2
 have hnil:∀b,¬ Sl.nil.blk b:=fun b hb=>by obtain ⟨a,h,_⟩:=hb;cases h
 have C2:CookS w2 c p sg Sl.nil G []:=⟨B2,hg.rows.pure E2,Rws.nil _ _ _⟩
 refine (xL C2).mono ?_
 rintro _ w3 ⟨_,rfl,m,c1,c2,rfl,hM,hb1,hb2,hm1,hm2,z1,z2,z3,E3⟩
 refine ⟨_,rfl,E3.keptP,?_⟩
 have E03:Pure w0 w3:=(hg.pure.trans E2).trans E3
 have q0:=hg.pure.size
 have q1:=n2.at_size
 have q2:=E2.size
 have q3:=E3.size
 have q4:=B2.lt
 have R3:RunS w0 None w3 c p c1 c2 m sg Sl.nil G [] L F F:=by
  refine ⟨C2.pure E3,hM,hb1,hb2,hP.pure E03,E03.pure,(Hst.start w0).again E03.keptP,fun b hb=>⟨.inl hb,fun h=>h⟩,⟨by omega,fun h=>h,fun h=>by have:=hP.lt h;omega⟩,⟨by omega,fun h=>h,fun h=>by have:=hP.lt h;omega,by omega⟩,⟨by omega,fun h=>h,fun h=>by have:=hP.lt h;omega,by omega⟩,⟨by omega,fun h=>h,fun h=>by have:=hP.lt h;omega,by omega⟩,fun b hb=>⟨hg.own b hb,fun h=>h,fun h=>by have:=hP.lt h;have:=hg.own b hb;omega,?_⟩,fun b hb=>(hnil b hb).elim⟩;have:=hg.rows.lt hb;omega
 refine ⟨fun x H w=>∃(j:Nat) (M:List Int) (L1:Sp.Pool) (sm:Sl) (F1:NP),x=j∧j≤l.length∧M.length=j∧Sp.Wf L1∧Sp.jO L G [] l=Sp.jO L1 G M (l.drop j)∧RunS w0 H w c p c1 c2 m sg sm G M L1 F F1,fun x _=>((l.length:Int) - x).toNat,⟨0,[],L,Sl.nil,F,rfl,Nat.zero_le _,rfl,hW,rfl,R3⟩,?_⟩
 rintro _ H w _ ⟨j,M,L1,sm,F1,rfl,hj,hMj,hW1,hrun,R⟩
 unfold m_C1_l1
 have hll:sl.len=l.length:=by rw [hl.len];simp
 refine ⟨fun h=>?_,fun h=>?_⟩
 ·have hlt:=zR hll h
  obtain ⟨a,hat,hSa,hrow⟩:=hl.nth hlt
  have hrow':Row w a (zU l[j]):=R.fr.row hrow (hS0 _ hSa).2
  refine ⟨a,hat,l[j].code,l[j].a,l[j].b,l[j].num,l[j].text,hrow',?_⟩
  intro H1 w5 hs5
  have R5:=R.hst hs5
  rw [Sp.jAU hlt] at hrun
  have hok1:=hW1.ok
  have dish:=c_dish R5.ck R5.b1.cell0 R5.b2.cell0 R5.pool hok1 R5.o2.2.2.1 l[j]
  generalize l[j]=o at *
  rcases R5.mp.get (P:=prog) (T:=102) underlying102 underlying3 (zeroValue105 _) o.code true with ⟨g1,g2⟩ | ⟨v,g1,g2⟩
  ·refine ⟨_,_,g2,Br.t rfl ⟨sm,R5.ck.box.cell rfl,?_⟩⟩
   rw [dish.1 g1] at hrun
   exact R5.done hrun
  ·obtain ⟨f1,fs,cs,rfl,hf,hc⟩:=dish.2 v g1
   refine ⟨_,_,g2,Br.f rfl ⟨f1,fs,cs,rfl,hf,?_⟩⟩
   refine hc.mono ?_
   rintro _ w6 ⟨r3,r4,rfl,hr,F2,hP2,X2,hF2⟩
   obtain ⟨k6,R6⟩:=R5.make hP2 X2 hF2
   have hW2:=Sp.jBG hW1 G M o
   generalize Sp.zZ L1 G M o=D at *
   obtain ⟨d1,d2,L2⟩:=D
   simp only [Prod.mk.injEq] at hr
   obtain ⟨rfl,rfl⟩:=hr
   simp only at hrun R6 hW2
   refine ⟨_,_,rfl,k6,fun h=>?_,fun h=>?_⟩
   ·rw [if_pos (by simpa using h)] at hrun
    exact ⟨sm,R6.ck.box.cell rfl,R6.done hrun⟩
   ·rw [if_neg (by simpa using h)] at hrun
    refine ⟨sm,R6.ck.box.cell rfl,?_⟩
    intro q w7 n7
    obtain ⟨s1,w8,hr8,k8,cw,R9⟩:=R6.app n7 (by omega)
    refine ⟨s1,w8,hr8,k8,cw,by rw [jK];exact R6.oc.2.1,?_⟩
    rintro _ rfl
    rw [zE hlt (by omega)]
    exact ⟨⟨j+1,M++[_],L2,s1,F2,rfl,hlt,by simp [hMj],hW2,hrun,R9⟩,kN hlt⟩
 ·have hge:=zY hll hj h
  subst hge
  refine ⟨sm,R.ck.box.cell rfl,R.done ?_⟩
  rw [hrun,List.drop_length];rfl
theorem jCT {p k:Addr} {sl:Sl} {n:Nat} (h:sl.len=n):s_N (some p) (some k) sl=(if n>256 then 6 else if n=0 then 3 else 0):=by
 unfold s_N;rw [h];simp only [Option.isNone_some,Bool.or_self,cond_false];by_cases h1:n>256
 ·rw [if_pos h1,decide_eq_true (by omega)];rfl
 ·rw [if_neg h1,decide_eq_false (by omega)];by_cases h2:n=0
  ·subst h2;rfl
  ·rw [if_neg h2,show (((n:Int) == 0)=false) from by simpa using h2];rfl
abbrev EvalK (w0:World) (p:Addr) (F:NP) (R:Int×Int×Int×Sp.Pool) (r1 r2 r3:Int) (w':World):Prop:=(r1,r2,r3)=(R.1,R.2.1,R.2.2.1)∧∃F',jL w' p R.2.2.2 F'∧Ext F w0 w'∧∀b,F' b→F b∨w0.heap.size≤b
section
variable {Sl0:NP} (p k:Addr) (sl:Sl) (l:List Sp.Op) (w0:World) {L:Sp.Pool} {G:List Int} {S:List Sp.Way} {F FK:NP} (hW:Sp.Wf L) (hP:jL w0 p L F) (hK:zN w0 k p G S FK) (hl:Lst Sl0 w0 5 sl (l.map zU)) (hS0:∀b,Sl0 b→b<w0.heap.size∧¬ F b) (hG:G.length≤1000000) (hn:l.length≤1000)
include hW hP hK hl hS0 hG hn
theorem kT:Calls prog 11 #[.pointer (some p),.pointer (some k),sl.v] w0 (fun e w'=>∃r1:Int,∃r2:Int,∃r3:Int,e=.returned (.tuple #[.int .i64 r1,.int .i64 r2,.int .i64 r3])∧EvalK w0 p F (Sp.zX L G l) r1 r2 r3 w'):=by
 refine w_M2 _ _ _ w0 (EvalK w0 p F (Sp.zX L G l)) ?_;unfold m_M2;have hll:sl.len=l.length:=by rw [hl.len];simp
 rw [jCT hll];unfold Sp.zX;by_cases h1:l.length>256
 ·rw [if_pos h1,if_pos h1];exact Br.t rfl (fun w1 hs1=>⟨rfl,F,hP.pure hs1.first,hs1.first.pure,fun b hb=>.inl hb⟩)
 rw [if_neg h1,if_neg h1];by_cases h2:l.length=0
 ·rw [if_pos h2,if_pos h2];exact Br.t rfl (fun w1 hs1=>⟨rfl,F,hP.pure hs1.first,hs1.first.pure,fun b hb=>.inl hb⟩)
 rw [if_neg h2,if_neg h2];refine Br.f rfl (fun w1 hs1=>?_);have E1:=hs1.first;refine (jAI p k sl l w1 hW (hP.pure E1) (hK.pure E1) (hl.pure E1) (fun b hb=>⟨by have:=(hS0 b hb).1;have:=E1.size;omega,(hS0 b hb).2⟩) hG hn).mono ?_;rintro _ w2 ⟨s,r2,rfl,hR⟩;obtain ⟨he,⟨F',hP',hF',hdj⟩,hrows,hown,X⟩:=hR;refine ⟨s,r2,rfl,X.kept (fun b hb=>hb.elim),?_⟩;have hlen:=Sp.uA G l L [];have fin:∃F',jL w2 p (Sp.jO L G [] l).2.2 F'∧Ext F w0 w2∧∀b,F' b→F b∨w0.heap.size≤b:=⟨F',hP',E1.pure.trans X,fun b hb=>(hF' b hb).imp_right (fun h=>by have:=E1.size;omega)⟩;generalize Sp.jO L G [] l=R at *;obtain ⟨M,e,L2⟩:=R;simp only at he hrows hlen fin hP';subst he;simp only [List.length_nil,Nat.zero_add] at hlen;have hsl:s.len=M.length:=by rw [hrows.len,zO]
 refine ⟨fun h=>?_,fun h=>?_⟩
 ·rw [if_pos (by simpa using h)];exact ⟨by rw [hsl],fin⟩
 ·have h0:r2=0:=by simpa using h
  rw [if_neg (by simpa using h0)];have hM:=hlen.2 h0;have hne:M≠[]:=fun e=>by rw [e] at hM;simp at hM;omega
  rw [show IntKind.i64.wrap ((s.len:Int) - 1)=(((l.length - 1:Nat)):Int) by rw [hsl,hM,IntWalk.i64_in _ (by omega)];omega];have hat:Sp.atM M ((l.length - 1:Nat):Int)=some (M.getLast hne):=by
   rw [Sp.jFC (by omega) (by omega)];simp [List.getLast_eq_getElem,hM]
  obtain ⟨a,ha,hc⟩:=jAR hrows hat;refine ⟨a,ha,_,hc,?_,fin⟩;rw [List.getLast?_eq_some_getLast hne];rfl
end
end Go.Proofs
end
section
open Go Go.SE
namespace Go.Sp
def l9t:List Tree:=[.mk 7 0 0 0 ⟨#[]⟩ [.mk 2 0 0 1 ⟨#[]⟩ []],.mk 6 0 0 0 ⟨#[]⟩ []]
def l9p:Pool:=[⟨⟨2,0,0,1,⟨#[]⟩,0,0⟩,1,1⟩,⟨⟨7,0,0,0,⟨#[]⟩,1,0⟩,2,2⟩,⟨⟨6,0,0,0,⟨#[]⟩,0,0⟩,1,1⟩]
def l9a:List Op:=[⟨0,0,0,0,⟨#[]⟩⟩,⟨8,0,0,0,⟨#[]⟩⟩,⟨5,1,0,0,⟨#[]⟩⟩,⟨0,1,0,0,⟨#[]⟩⟩,⟨9,2,3,0,⟨#[]⟩⟩]
def l9b:List Op:=[⟨0,0,0,0,⟨#[]⟩⟩,⟨6,0,0,0,⟨#[]⟩⟩]
def l9q:Pool:=l9p++[⟨⟨5,0,0,0,⟨#[]⟩,1,0⟩,2,2⟩,⟨⟨7,0,0,0,⟨#[]⟩,4,0⟩,3,3⟩]
theorem l9s:jQ l9t=(l9p,[2,3]):=by kernel_rfl
theorem l9e:zX l9p [2,3] l9a=(5,0,0,l9q):=by kernel_rfl
theorem l9f:zX l9q [2,3] l9b=(0,90,1,l9q):=by kernel_rfl
theorem l9n:jD l9q 5=⟨7,0,0,0,⟨#[]⟩,4,0⟩:=by kernel_rfl
end Go.Sp
namespace Go.Proofs
open Try
attribute [local irreducible] Calls
theorem Lst.of_box {w:World} {p:Addr} {T:TypeId} {sz:Nat} (rs:List (List Value)) (hsz:∀r∈rs,r.length=sz) (h:Box w p rs.flatten T):Lst (·=p.block) w sz ⟨some p,rs.length,rs.length⟩ rs:=by
 refine ⟨rfl,fun i hi=>⟨p.add (i*sz),⟨by omega,by show (i:Int)<(rs.length:Int);omega,p,rfl,rfl⟩,by rw [jK],fun j hj=>?_⟩⟩;have hl:=hsz _ (List.getElem_mem hi);rw [vX,List.getElem?_eq_getElem hj];refine h.cell ?_;rw [yF hsz hi (by omega),List.getElem?_eq_getElem hj]
theorem oL (l:List Sp.Op):∀q∈l.map zU,q.length=5:=by intro q hq;obtain ⟨o,_,rfl⟩:=List.mem_map.1 hq;rfl
theorem jEG (l:List Sp.Op):∀q∈l.map zU,q.all zL=true:=by intro q hq;obtain ⟨o,_,rfl⟩:=List.mem_map.1 hq;rfl
theorem jEY (w0:World):Calls prog 6 #[] w0 (fun e w'=>∃r:Bool,e=.returned (.bool r)∧(r=true∧Pure w0 w')):=by
 refine w_K3 w0 (fun r w'=>r=true∧Pure w0 w') ?_;unfold m_K3;intro p1 w1 n1 p2 w2 n2;have E1:Pure w0 w1:=Ext.new n1;have E2:Pure w1 w2:=Ext.new n2;have hT:TreeAt (fun b=>b=p1.block∨b=p2.block) w2 ⟨some p2,2,2⟩ (.mk 0 0 0 0 ⟨#[]⟩ Sp.l9t) :=
  TreeAt.pair (A:=.mk 7 0 0 0 ⟨#[]⟩ [.mk 2 0 0 1 ⟨#[]⟩ []]) (B:=.mk 6 0 0 0 ⟨#[]⟩ []) (sa:=⟨some p1,1,1⟩) (sb:=Sl.nil) (Box.of_new n2) (.inr rfl) (TreeAt.one (A:=.mk 2 0 0 1 ⟨#[]⟩ []) (sa:=Sl.nil) ((Box.of_new n1).pure E2) (.inl rfl) TreeAt.leaf) TreeAt.leaf
 have z1:=(Box.of_new n1).lt;have z2:=(Box.of_new n2).lt;have y2:=E2.size;refine (yS (ST:=fun b=>b=p1.block∨b=p2.block) Sp.l9t ⟨some p2,2,2⟩ w2 hT (fun b hb=>by rcases hb with rfl | rfl <;> omega) (by decide) (by decide)).mono ?_;rintro _ w3 ⟨_,_,rfl,s,p,k,q,sg,S,FP,FK,FR,rfl,rfl,A,hk⟩;rw [Sp.l9s] at A hk;simp only at A hk;have hW:Sp.Wf Sp.l9p:=by have:=Sp.yY Sp.l9t;rwa [Sp.l9s] at this
 have hWq:Sp.Wf Sp.l9q:=by have:=Sp.lG hW [2,3] Sp.l9a;rwa [Sp.l9e] at this
 refine ⟨_,_,rfl,A.pure.keptP,Br.f rfl ?_⟩;have Ad:=A.pureE (Ext.drew w3);refine ⟨fun w=>Box w s [.pointer (some p),.pointer (some k),.pointer (some q),sg.v] 41,Ad.box,?_⟩;rintro _ rfl;refine ⟨s,rfl,some p,fun _ h=>h.cell0,s,rfl,some k,fun _ h=>h.cell rfl,?_⟩;intro p3 w5 n5;have E5:Pure w3.drew w5:=Ext.new n5;have A5:=Ad.pureE E5;refine ⟨A5.box,?_⟩;have b3:=n5.at_size;refine (kT (Sl0:=(·=p3.block)) p k ⟨some p3,5,5⟩ Sp.l9a w5 hW A5.pool A5.know (Lst.of_box (Sp.l9a.map zU) (oL _) (Box.of_new n5)) (fun b hb=>by subst hb;exact ⟨(Box.of_new n5).lt,fun hf=>by have:=Ad.pool.lt hf;omega⟩) (by decide) (by decide)).mono ?_;rintro _ w6 ⟨r3,r4,r5,rfl,hr,F',hP6,X6,hF6⟩;rw [Sp.l9e] at hr hP6;cases hr;obtain ⟨k6,A6⟩:=A5.pgrow hP6 X6 hF6;refine ⟨_,_,_,rfl,A6.box,k6,?_⟩;have Ae:=A6.pureE (Ext.drew w6);refine ⟨fun w=>Box w s [.pointer (some p),.pointer (some k),.pointer (some q),sg.v] 41,Ae.box,?_⟩;rintro _ rfl;refine ⟨s,rfl,some p,fun _ h=>h.cell0,s,rfl,some k,fun _ h=>h.cell rfl,?_⟩;intro p4 w8 n8;have E8:Pure w6.drew w8:=Ext.new n8;have A8:=Ae.pureE E8;refine ⟨A8.box,?_⟩;have b4:=n8.at_size;refine (kT (Sl0:=(·=p4.block)) p k ⟨some p4,2,2⟩ Sp.l9b w8 hWq A8.pool A8.know (Lst.of_box (Sp.l9b.map zU) (oL _) (Box.of_new n8)) (fun b hb=>by subst hb;exact ⟨(Box.of_new n8).lt,fun hf=>by have:=Ae.pool.lt hf;omega⟩) (by decide) (by decide)).mono ?_;rintro _ w9 ⟨r6,r7,r8,rfl,hr,F'',hP9,X9,hF9⟩;rw [Sp.l9f] at hr hP9;cases hr;obtain ⟨k9,A9⟩:=A8.pgrow hP9 X9 hF9;refine ⟨_,_,_,rfl,A9.box,k9,s,rfl,some p,A9.box.cell0,?_⟩;refine (jAL p 5 w9 A9.pool hWq.ok).mono ?_;rintro _ w10 ⟨nk,nf,nt,nu,nx,na,nb,r9,rfl,⟨hn,_⟩,E10⟩;rw [Sp.l9n] at hn;cases hn;refine ⟨_,_,_,_,_,_,_,_,rfl,E10.keptP,fun H w hs=>⟨rfl,?_⟩⟩;exact (((E1.trans E2).trans A9.pure).trans E10).trans' hs.ext (fun b hb hh=>by have:=hs.old b hh;omega)
end Go.Proofs
end
section
open Go Go.SE
namespace Go.Proofs
open Try
attribute [local irreducible] Calls
theorem jDW:SlType prog 23 49 5 48:=by
 refine ⟨underlying23,⟨t49,_,by kernel_rfl,(by kernel_rfl:t49.zero=some (.agg #[.int .i64 0,.int .i64 0,.int .i64 0,.int .u64 0,.string ⟨#[]⟩])),by kernel_rfl,by kernel_rfl,rfl⟩,by omega⟩
theorem SideAt.base {w0 w1 w:World} {s p k q:Addr} {sg:Sl} {L1 L2:Sp.Pool} {GK G:List Int} {S:List Sp.Way} {FP FK FR:NP} (h:SideAt w1 None w s p k q sg L1 L2 GK G S FP FK FR) (E:Pure w0 w1):SideAt w0 None w s p k q sg L1 L2 GK G S FP FK FR:=by
 have z:=E.size;have E2:=E.trans h.pure;exact ⟨h.box,h.pool,h.know,h.ref,h.giv,E2,(Hst.start w0).again E2.keptP,fun b hb=>⟨by have:=(h.oP b hb).1;omega,(h.oP b hb).2⟩,fun b hb=>⟨by have:=(h.oK b hb).1;omega,(h.oK b hb).2⟩,fun b hb=>⟨by have:=(h.oR b hb).1;omega,(h.oR b hb).2⟩,fun b hb=>⟨by have:=(h.oG b hb).1;omega,(h.oG b hb).2⟩,⟨by have:=h.oS.1;omega,h.oS.2⟩⟩
theorem jFQ {So:NP} {so:Sl} {ops:List Sp.Op} {w w3:World} {p1:Addr} (ho:Lst So w 5 so (ops.map zU)) (hn:ops.length≤1000) (n3:New w (.cells #[] 49) p1 w3):∃s1 w4,(Builtin.append_ #[23,23] 23 #[(Sl.mk (some p1) 0 0).v,so.v]).run prog w3=.ok s1.v w4∧Rws w4 49 5 s1 (ops.map zU)∧Pure w w4∧Pure w w3∧(∀b,s1.blk b→w.heap.size≤b)∧∀H:NP,(∀b,H b→b<w.heap.size)→Kept H w3 w4:=by
 have E3:Pure w w3:=Ext.new n3;have hb:=n3.at_size;obtain ⟨s1,w4,hr,R,X,b4⟩:=(Rws.empty (sz:=5) n3).appendL (P:=prog) (ty:=23) jDW (ho.pure E3) (oL _) (jEG _) (by simp;omega) (by simp [maxLen];omega);have hx:∀b,(Sl.mk (some p1) 0 0).blk b→b=p1.block:=fun b ⟨a,ha,e⟩=>by cases ha;exact e.symm
 refine ⟨s1,w4,hr,by simpa using R,E3.trans' X (fun i hi h=>by have:=hx i h;omega),E3,fun b h=>(b4 b h).elim (fun h=>by have:=hx b h;omega) (fun h=>by have:=E3.size;omega),fun H hH=>X.kept (fun b hb h=>by have:=hx b h;have:=hH b hb;omega)⟩
end Go.Proofs
end
section
open Go Go.SE
namespace Go.SE
theorem Ext.putObj (w:World) (r:Nat) (o:Obj):Ext (·=r) w (w.putObj r o):=⟨rfl,rfl,rfl,(by first | exact Nat.le_refl _ | exact Nat.le_succ _),by simp,fun b _ hne=>World.putObj_heap_other hne⟩
abbrev Yld (P:Program) (l:Nat) (args:Array Value) (w:World) (R:Ending→WP):Prop:=YieldAt Fence.wide 0 P l args w R
def jIN (P:Program) (gf:FuncId) (lb:Array Value) {α:Type} (encs:α→Array Value) (xs:List α) (Rd:WP) (w:World):Prop :=
 ∀(l:Nat) (J Jx:List α→NP→WP) (W:World),Pure w W →
  (∀pre X A,J pre X A→Rd A) →
  (∀pre X A X' A',J pre X A→Hst W X A X' A'→J pre X' A') →
  (∀pre X A X' A',Jx pre X A→Hst W X A X' A'→Jx pre X' A') →
  (∀pre y X A,J pre X A→Hst W X A X A→(∃post,xs=pre++y :: post)→Yld P l (encs y) A (fun e A'=>(e=.returned (.bool true)∧Kept X A A'∧J (pre++[y]) X A')∨(e=.returned (.bool false)∧Kept X A A'∧Jx (pre++[y]) X A'))) →
  J [] None W →
  Calls P gf (#[.func (.yield l) #[] #[]]++lb) W (fun e A=>(∃v,e=.returned v)∧∃X,Hst W X A X A∧(J xs X A∨∃pre,Jx pre X A))
def jFJ:List Nat→List Value→Env→Env
 | p :: ps,v :: vs,ρ=>jFJ ps vs (upd ρ p v)
 | _,_,ρ=>ρ
theorem tO {n:Nat}:∀(ps:List Nat) (vs:List Value) (ρ:Env) (t:Array Value),(∀p∈ps,p<n)→Rep [] n ρ { tmps:=t,defers:=[] } →
  Rep [] n (jFJ ps vs ρ) { tmps:=(ps.zip vs).foldl (fun t (x:Nat×Value)=>t.setIfInBounds x.1 x.2) t,defers:=[] }
 | [],vs,ρ,t,_,h=>by cases vs <;> exact h
 | p :: ps,[],ρ,t,_,h=>h
 | p :: ps,v :: vs,ρ,t,hp,h=>by
  rw [List.zip_cons_cons,List.foldl_cons];exact tO ps vs _ _ (fun q hq=>hp q (by simp [hq])) (h.put (d:=some p) (fun k hk=>by cases hk;exact hp p (by simp)) v)
def jGU (id:Nat) (Y:NP) (A:World) (I Ix Ir:NP→WP):Exit→Env→WP
 | .normal,_,A'=>Kept Y A A'∧I Y A'
 | .exit id',_,A'=>id'=id∧Kept Y A A'∧Ix Y A'
 | .ret,_,A'=>Kept Y A A'∧Ir Y A'
 | _,_,_=>False
def jGZ (D:Nat) (Q:Exit→Env→WP):Exit→Env→WP
 | .ret,ρ,w=>w.heap[D]?=some (.deferred (some []))∧Q .ret ρ (w.putObj D (.deferred none))
 | _,_,_=>False
theorem Kept.trans {H:NP} {a b c:World} (h:Kept H a b) (k:Kept H b c):Kept H a c:=⟨Nat.le_trans h.size k.size,fun i hi hH=>(k.keep i (Nat.lt_of_lt_of_le hi h.size) hH).trans (h.keep i hi hH)⟩
theorem Kept.mono {H H':NP} {a b:World} (h:Kept H a b) (hs:∀b,H' b→H b):Kept H' a b:=⟨h.size,fun i hi hH=>h.keep i hi (hs i hH)⟩
structure RngI {α:Type} (w0:World) (Rd:WP) (I Ix Ir:List α→NP→WP):Prop where
 rd:∀pre Y A,I pre Y A→Rd A
 i:∀pre Y A Y' A',I pre Y A→Hst w0 Y A Y' A'→I pre Y' A'
 x:∀pre Y A Y' A',Ix pre Y A→Hst w0 Y A Y' A'→Ix pre Y' A'
 r:∀pre Y A Y' A',Ir pre Y A→Hst w0 Y A Y' A'→Ir pre Y' A'
def wpB (P:Program) (n:Nat) (c y:Code) (Q:Exit→Env→WP) (ρ:Env) (w:World):Prop:=∀a,Rep [] n ρ a→c.wpIn (fen none) 0 P (Exit.then (fun a w=>y.wpIn (fen none) 0 P (jFD ⟨none,[]⟩ n Q) a w) (jFD ⟨none,[]⟩ n Q)) a w
theorem jFG {P:Program} {n:Nat} {Q:Exit→Env→WP} {ρ:Env} {w:World} {a c y:Code} (h:wpE (x:=⟨none,[]⟩) P n a (yX (fun ρ w=>wpB P n c y Q ρ w) Q) ρ w):wpE (x:=⟨none,[]⟩) P n (.seq (.seq a c) y) Q ρ w:=fun a ha =>
 wpIn_seq (wpIn_seq (wpIn_mono (h a ha) (fun e a w hl=>by
  cases e with
  | normal=>obtain ⟨ρ',hr,hq⟩:=gQ hl;exact hq a hr
  | _=>exact hl)))
theorem af_r {D:Nat} {Q:Exit→Env→WP} {ρ:Env} {w:World} (h1:w.heap[D]?=some (.deferred (some []))) (h:∀w1,w1=w.putObj D (.deferred none)→Q .ret ρ w1):jGZ D Q .ret ρ w:=⟨h1,h _ rfl⟩
theorem rd_n {id:Nat} {Y:NP} {A A':World} {I Ix Ir:NP→WP} {ρ:Env} (h:Kept Y A A'∧I Y A'):jGU id Y A I Ix Ir .normal ρ A':=h
theorem HBZ.behind {H Y:NP} {w A:World} {l:List HBx} {D:Nat} (hb:HB H w l) (hk:Kept H w A) (hH:∀b,H b→Y b) (hD:Y D) (hDe:A.heap[D]?=some (.deferred (some []))):HBZ [(D,.deferred (some []))] Y A l :=
 ⟨(hb.kept hk).box,fun x hx=>hH _ (hb.hid x hx),hb.ne,fun x hx=>by
  cases List.mem_singleton.1 hx;exact ⟨hD,hDe,rfl⟩⟩
theorem HBZ.leave {w0 wv:World} {Hv H:NP} {w:World} {l:List HBx} {D:Nat} (hb:HBZ [(D,.deferred (some []))] H w l) (hs:Hst w0 Hv wv H w) {w1:World} (h1:w1=w.putObj D (.deferred none)):Hst w0 Hv wv H w1∧HB H w1 l:=by
 have hz:=hb.fz _ (List.mem_singleton.2 rfl);have E:Ext (·=D) w w1:=by rw [h1];exact Ext.putObj w D _
 refine ⟨⟨h1▸hs.ext.trans' (Ext.putObj w D _) (fun b _ e=>by subst e;exact hz.1),hs.sub,hs.new,hs.old,fun b hb=>Nat.lt_of_lt_of_le (hs.lt b hb) E.size,Nat.le_trans hs.base E.size⟩,?_⟩;refine ⟨fun x hx=>(hb.box x hx).ext E (fun e=>?_),hb.hid,hb.ne,fun x hx=>by cases hx⟩;have h2:=(hb.box x hx).blk;rw [e,hz.2.1] at h2;cases h2
theorem HBZ.dead {H:NP} {w:World} {l:List HBx} {D:Nat} (hb:HBZ [(D,.deferred (some []))] H w l):w.heap[D]?=some (.deferred (some [])):=(hb.fz _ (List.mem_singleton.2 rfl)).2.1
theorem jHA {P:Program} {ε:Operand→Value} {w w':World} {d:Option Tmp} {ty:TypeId} {pos:String} {aft:Array Edge} {g:Option (Nat×Bool)} {l:Nat} {x:Operand} {v:Value} {c:List Operand} {ts:Array TypeId} {args:Array Value} {r:Next} (hx:ε x=v) (hv:v=.func (.yield l) #[] #[]) (ha:(c.map ε).toArray=args) (hr:(Instr.yield l args).run P w=.ok r w') :
  (execOp ε ⟨d,.call ⟨.value x,c.toArray,ts⟩,ty,pos,aft,g⟩).run P w=.ok r w':=by
 subst hv;subst ha
 simp [execOp,resolve,hx,Deferred.ofValue,invoke,hr]
theorem jFI {P:Program} {ops:Array Oper} {Q:Env→WP} {ρ:Env} {w:World} {rest:List Oper} {d:Option Tmp} {ty:TypeId} {pos:String} {aft:Array Edge} {g:Option (Nat×Bool)} {l:Nat} {x:Operand} {v:Value} {c:List Operand} {ts:Array TypeId} {args:Array Value}
  (hw:Region.wanted ⟨d,.call ⟨.value x,c.toArray,ts⟩,ty,pos,aft,g⟩ (jF ops ρ)=true) (hx:evE ρ x=v) (hv:v=.func (.yield l) #[] #[]) (ha:(c.map (evE ρ)).toArray=args)
  (h:Yld P l args w (fun e w''=>∃v,e=.returned v∧wpL P ops Q rest (put ρ d v) w'')):wpL P ops Q (⟨d,.call ⟨.value x,c.toArray,ts⟩,ty,pos,aft,g⟩ :: rest) ρ w:=by
 obtain ⟨fn,tmps,assign,body,hr,hR⟩:=h
 unfold wpL
 rw [if_pos hw]
 unfold yld
 rw [jHA hx hv ha hr]
 exact hR
theorem Yld.mono {P:Program} {l:Nat} {args:Array Value} {w:World} {R R':Ending→WP} (h:Yld P l args w R) (hr:∀e w,R e w→R' e w):Yld P l args w R':=by
 obtain ⟨fn,tmps,assign,body,h1,h2⟩:=h;exact ⟨fn,tmps,assign,body,h1,RoundIn.mono h2 hr⟩
section
variable {P:Program} {n:Nat} {Q:Exit→Env→WP} {ρ:Env} {w w0:World} {H Hv:NP} {wv:World}
end
end Go.SE
namespace Go.SE
end Go.SE
end
section
open Go Go.SE
open Go.IntKind renaming i64 → q6
namespace Go.Proofs
open Try
set_option maxRecDepth 100000
set_option maxHeartbeats 4000000
attribute [local irreducible] wpL wpX opE wpE Calls
def m_G1_l1 (yield1:Value) (cap1:Addr) (i1:Int) (wl1:World) (Kc1:Int→WP) (K:WP):Prop :=Br (decide (i1≥0)) (∃v2:Sl,wl1.cell? cap1=some v2.v∧∃a1:Addr,At v2 i1 5 a1∧∃aA aB aC aD aE,Row wl1 a1 (Ac aA aB aC aD aE)∧∃(ly1:Nat),yield1=.func (.yield ly1) #[] #[]∧Yld prog ly1 #[(vi i1),(Ah aA aB aC aD aE)] wl1 (fun e w1=>∃b1,e=.returned (vb b1)∧Br (!b1) (K w1) (Kc1 (q6.wrap (i1 - 1)) w1))) (K wl1)
def m_G1 (yield1:Value) (cap1:Addr) (w0:World) (K:WP):Prop :=∃v1:Sl,w0.cell? cap1=some v1.v∧∃(I1:Int→WP) (mu1:Int→World→Nat),I1 (q6.wrap ((v1.len:Int) - 1)) w0∧∀(i1:Int) (wl1:World),I1 i1 wl1→m_G1_l1 yield1 cap1 i1 wl1 (fun y'0 w'=>I1 y'0 w'∧mu1 y'0 w'<mu1 i1 wl1) K
theorem w_G1 (yield1 cap1 w0 K) (h:m_G1 yield1 cap1 w0 K):
  Calls prog 37 #[yield1,(vp (some cap1))] w0 (fun e w'=>e=.returned (.tuple #[])∧K  w'):=by
 refine cw (args:=[yield1,(vp (some cap1))]) func37 ntmps37 (eg ?_)
 refine ql (isAgg23 _) h fun v1 h=>qc (ln (jG ?_))
 obtain ⟨I1,mu1,h0,hr⟩:=h
 refine zH (σ:=Int×World) (fun s ρ w=>w=s.2∧Has ρ [(0,yield1),(1,(vp (some cap1))),(3,(vi s.1))]∧I1 s.1 s.2) (fun s=>mu1 s.1 s.2) ((q6.wrap ((v1.len:Int) - 1)),w0) ⟨rfl,hm,h0⟩ ?_
 rintro ⟨i1,wl1⟩ ρ w ⟨hw,hH,hI⟩
 dsimp only at hw hH;subst w
 have h:=hr i1 wl1 hI
 refine jN hH (jA (eg (qb (ln (cbr h ?_ ?_)))))<;>intro h
 refine jC (jI (jA (jG (eg (qb (ql (isAgg23 _) h fun v2 h=>q (qi (runUnderlying23 _) (sizeOf49 _) h fun a1 h=>?_)))))))
 obtain ⟨aA,aB,aC,aD,aE,hv1,h⟩:=h
 refine qa (isAgg49 _) (sizeOf49 _) hv1 ?_
 obtain ⟨ly1,hy1,h⟩:=h
 refine jFI (jM rfl) (by kernel_rfl) hy1 (by kernel_rfl) (h.mono ?_)
 rintro e w1 ⟨b1,rfl,h⟩
 refine ⟨_,rfl,?_⟩
 refine q (ln (cbr h ?_ ?_))<;>intro h
 refine er (qX (zI (zI (qX (jGW (.inl rfl) results37 ⟨rfl,h⟩)))))
 refine jC (qB (jI (rg (qc (ln ⟨((q6.wrap (i1 - 1)),w1),⟨rfl,hm,h.1⟩,h.2⟩)))))
 refine zB (vG (vG (kQ (jGW (.inr rfl) results37 ⟨rfl,h⟩))))
end Go.Proofs
end
section
namespace Go.SE
section
variable {P:Program} {ε:Operand→Value} {w w':World} {d:Option Tmp} {ty:TypeId} {pos:String} {aft:Array Edge} {g:Option (Nat×Bool)}
end
section
variable {P:Program} {n:Nat} {Q:Exit→Env→World→Prop} {ρ:Env} {w w0:World} {H Hv:Nat→Prop} {wv:World}
theorem jCK {id:Nat} {g:Operand} {ps:Array Tmp} {assign body y:Code} {gf:FuncId} {lb:Array Value} {α:Type} {encs:α→Array Value} {xs:List α} {Rd:World→Prop}
  (hg:evE ρ g=.func (.func gf) #[] lb) (eg:∀args w,(callFunc gf args).run P w=.ok (.enter gf args) w) (hit:jIN P gf lb encs xs Rd w) (hps:∀z,(encs z).size=ps.size) (hpn:∀p∈ps.toList,p<n)
  (hs:Hst w0 Hv wv H w) (I Ix Ir:List α→(Nat→Prop)→World→Prop) (hRI:RngI w0 Rd I Ix Ir)
  (h0:I [] H w)
  (hround:∀l z A0,wpE (x:=⟨some l,[]⟩) P n assign (yX (fun ρ' A1=>∃H1 l1,Hst A0 None A0 H1 A1∧HB H1 A1 l1∧∀pre Y A,I pre Y A→Hst w0 Y A Y A→(∃post,xs=pre++z :: post)→(∀b,Y b→b<A0.heap.size)→w.heap.size≤A0.heap.size→Hst A0 H1 A H1 A→HB H1 A l1→wpE (x:=⟨some l,[]⟩) P n body (jGU id Y A (I (pre++[z])) (Ix (pre++[z])) (Ir (pre++[z]))) ρ' A) (fun _ _ _=>False)) (jFJ ps.toList (encs z).toList ρ) A0)
  (hrest:∀D Y A,Hst w0 Y A Y A→Y D→A.heap[D]?=some (.deferred (some []))→(∀b,H b→Y b)→Kept H w A→(I xs Y A∨∃pre,Ix pre Y A)→wpE (x:=⟨none,[oO D]⟩) P n y (jGZ D Q) ρ A)
  (hret:∀D pre Y A,Hst w0 Y A Y A→Y D→A.heap[D]?=some (.deferred (some []))→Ir pre Y A→Q .ret ρ (A.putObj D (.deferred none))) :
  wpB P n (.block id (.rangeFunc g ps assign body)) y Q ρ w:=by
 obtain ⟨hRd,hI,hIx,hIr⟩:=hRI
 intro a ha
 refine wpIn_block (wpIn_rangeFunc ?_)
 intro fn _
 obtain ⟨rec,hrec⟩:∃rec:LoopState→Option Code→Loop,rec=fun st pe=>{ state:=st,pending:=pe,fn,tmps:=a.tmps,params:=ps,assign,body,defers:=w.heap.size }:=⟨_,rfl⟩
 obtain ⟨W1,hW1⟩:∃W1,(w.alloc (.deferred (some []))).alloc (.loop (rec .ready none))=W1:=⟨_,rfl⟩
 have hL1:W1.heap[w.heap.size+1]?=some (.loop (rec .ready none)):=by
  rw [← hW1];have:=World.alloc_heap_new (w.alloc (.deferred (some []))) (.loop (rec .ready none));rwa [World.size_alloc] at this
 have hK1:W1.heap[w.heap.size]?=some (.deferred (some [])):=by
  rw [← hW1];exact (RowKit.Below.heap_alloc _ _ _ (by simp)).trans (World.alloc_heap_new w _)
 have hsz:W1.heap.size=w.heap.size+2:=by rw [← hW1];simp
 have E1:Pure w W1:=by
  rw [← hW1];exact ⟨rfl,rfl,rfl,(by first | exact Nat.le_refl _ | exact Nat.le_succ _),by simp;omega,fun b hb _=>(RowKit.Below.heap_alloc _ _ _ (by simp;omega)).trans (RowKit.Below.heap_alloc _ _ _ hb)⟩
 let Yo:(Nat→Prop)→Nat→Prop:=fun X b=>H b∨b=w.heap.size∨b=w.heap.size+1∨X b
 have hHlt:∀b,H b→b<w.heap.size:=hs.lt
 have here:∀{X:Nat→Prop} {A:World},Hst W1 X A X A→Hst w0 (Yo X) A (Yo X) A:=fun {X A} h =>
  ⟨Ext.refl _,fun _ h=>h,fun _ h=>.inl h,fun b hb=>by
   rcases hb with hb | rfl | rfl | hb
   ·exact hs.old b hb
   ·exact hs.base
   ·have:=hs.base;omega
   ·have:=h.old b hb;have:=hs.base;omega,fun b hb=>by
   have z:=h.base;rcases hb with hb | rfl | rfl | hb
   ·have:=hHlt b hb;omega
   ·omega
   ·omega
   ·exact h.lt b hb,by have:=h.base;have:=hs.base;omega⟩
 have up:∀{X X':Nat→Prop} {A A':World},Hst W1 X A X A→Hst W1 X A X' A'→Hst w0 (Yo X) A (Yo X') A':=fun {X X' A A'} h k =>
  ⟨k.ext.mono (fun b _ hb=>.inr (.inr (.inr hb))),fun b hb=>by
   rcases hb with hb | hb | hb | hb
   ·exact .inl hb
   ·exact .inr (.inl hb)
   ·exact .inr (.inr (.inl hb))
   ·exact .inr (.inr (.inr (k.sub b hb))),fun b hb=>by
   rcases hb with hb | hb | hb | hb
   ·exact .inl (.inl hb)
   ·exact .inl (.inr (.inl hb))
   ·exact .inl (.inr (.inr (.inl hb)))
   ·exact (k.new b hb).imp_left (fun h=>.inr (.inr (.inr h))),(here k.here).old,(here k.here).lt,(here k.here).base⟩
 have nX:∀{X:Nat→Prop} {A:World},Hst W1 X A X A→∀b,b<w.heap.size+2→¬ X b:=fun h b hb hx=>by have:=h.old b hx;omega
 have keepH:∀{X X':Nat→Prop} {A A':World},Kept H w A→Hst W1 X A X' A'→Kept H w A':=fun {X X' A A'} hk k =>
  hk.trans (k.ext.kept (fun b hb hx=>nX k.here b (by have:=hHlt b hb;omega) hx))
 have turn:∀{X:Nat→Prop} {A:World} (o:Obj),Hst W1 X A X A→Hst w0 (Yo X) A (Yo X) (A.putObj (w.heap.size+1) o):=fun {X A} o h =>
  ⟨(Ext.putObj A _ o).mono (fun b _ e=>by subst e;exact .inr (.inr (.inl rfl))),fun _ h=>h,fun _ h=>.inl h,(here h).old,fun b hb=>by have:=(here h).lt b hb;simpa using this,by simpa using (here h).base⟩
 have hstW:∀{X:Nat→Prop} {A:World} (o:Obj),Hst W1 X A X A→Hst W1 X (A.putObj (w.heap.size+1) o) X (A.putObj (w.heap.size+1) o):=fun o h =>
  ⟨Ext.refl _,fun _ h=>h,fun _ h=>.inl h,h.old,fun b hb=>by have:=h.lt b hb;simpa using this,by simpa using h.base⟩
 have keepT:∀{A:World} (o:Obj),Kept H w A→Kept H w (A.putObj (w.heap.size+1) o):=fun {A} o hk=>hk.trans ((Ext.putObj A _ o).kept (fun b hb e=>by have:=hHlt b hb;omega))
 let Jc:Code→List α→(Nat→Prop)→World→Prop:=fun c pre Y A=>match c with
  | .ret=>Ir pre Y A
  | .exit id'=>id'=id∧Ix pre Y A
  | _=>False
 have hJc:∀c pre Y A Y' A',Jc c pre Y A→Hst w0 Y A Y' A'→Jc c pre Y' A':=by
  intro c pre Y A Y' A' h k;cases c <;> first | exact hIr _ _ _ _ _ h k | exact ⟨h.1,hIx _ _ _ _ _ h.2 k⟩ | exact h
 refine ⟨w.heap.size+1,[oO w.heap.size],W1,{ target:=.fn (.func gf) lb,args:=#[.func (.yield (w.heap.size+1)) #[] #[]] },W1,gf,
  #[.func (.yield (w.heap.size+1)) #[] #[]]++lb,W1,?_,?_,fun _ _=>trivial,?_,(fun h=>by cases h),callsIn_wide.2 ?_⟩
 ·rw [← hW1,hrec];exact run_enterLoop_outer _ _ _ _ _
 ·have hev:a.eval g=.func (.func gf) #[] lb:=by rw [ha.eval];exact hg
  simp only [resolve,hev]
  simp [go_sem]
 ·simp [invoke,go_sem,eg]
 have hst1:Hst W1 None W1 None W1:=Hst.start W1
 refine (hit (w.heap.size+1)
  (fun pre X A=>Hst W1 X A X A∧I pre (Yo X) A∧A.heap[w.heap.size+1]?=some (.loop (rec .ready none))∧A.heap[w.heap.size]?=some (.deferred (some []))∧Kept H w A)
  (fun pre X A=>Hst W1 X A X A∧∃c,Jc c pre (Yo X) A∧A.heap[w.heap.size+1]?=some (.loop (rec .done (some c)))∧A.heap[w.heap.size]?=some (.deferred (some []))∧Kept H w A)
  W1 E1 (fun pre X A h=>hRd _ _ _ h.2.1)
  (fun pre X A X' A' h k=>⟨k.here,hI _ _ _ _ _ h.2.1 (up h.1 k),k.ext.heap h.2.2.1 (nX k.here _ (by omega)),k.ext.heap h.2.2.2.1 (nX k.here _ (by omega)),keepH h.2.2.2.2 k⟩)
  (fun pre X A X' A' h k=>by
   obtain ⟨h1,c,h2,h3,h4,h5⟩:=h;exact ⟨k.here,c,hJc _ _ _ _ _ _ h2 (up h1 k),k.ext.heap h3 (nX k.here _ (by omega)),k.ext.heap h4 (nX k.here _ (by omega)),keepH h5 k⟩)
  ?_ ⟨hst1,hI _ _ _ _ _ h0 ⟨E1.pure,fun b hb=>.inl hb,fun b hb=>?_,(here hst1).old,(here hst1).lt,(here hst1).base⟩,hL1,hK1,E1.keptP⟩).mono ?_
 ·-- one round
  rintro pre z X A ⟨hX,hi,hl,hk,hkH⟩ _ hpost
  have hlt:w.heap.size+1<A.heap.size:=(Array.getElem?_eq_some_iff.1 hl).1
  have hy:=run_yield (P:=P) (args:=encs z) hl (by rw [hrec];exact hps z)
  rw [hrec] at hy
  refine ⟨fn,_,assign,body,hy,roundIn_of_wpIn (F:=Fence.wide) trivial ?_⟩
  have hrep:Rep [] n (jFJ ps.toList (encs z).toList ρ) { tmps:=(ps.zip (encs z)).foldl (fun t (x:Nat×Value)=>t.setIfInBounds x.1 x.2) a.tmps,defers:=[] }:=by
   have:=tO ps.toList (encs z).toList ρ a.tmps hpn ⟨rfl,ha.size,ha.get⟩;rw [← Array.foldl_toList,Array.toList_zip];exact this
  refine wpIn_mono (hround (w.heap.size+1) z A _ hrep) ?_
  rintro e a1 A1 ⟨ρ',hor⟩
  have hor:=hor.resolve_right (fun h=>by cases h.2.1)
  obtain ⟨hr1,hq⟩:=hor
  cases e <;> first | exact hq.elim | skip
  obtain ⟨Hb,lb1,hsb,hbb,hbody⟩:=hq
  have EA:Pure A A1:=hsb.first
  have hltA:=hlt
  have hXA:=hX
  have hX:Hst W1 X A1 X A1:=((hX.pure EA).here)
  have hi:I pre (Yo X) A1:=hI _ _ _ _ _ hi ((here hXA).pure EA)
  have hl:A1.heap[w.heap.size+1]?=some (.loop (rec .ready none)):=EA.heap hl (fun h=>h)
  have hk:A1.heap[w.heap.size]?=some (.deferred (some [])):=EA.heap hk (fun h=>h)
  have hkH:Kept H w A1:=hkH.trans EA.keptP
  have hlt:w.heap.size+1<A1.heap.size:=by have:=EA.size;omega
  refine ⟨_,run_beginRound hl (by rw [hrec]),?_⟩
  have T1:=turn (.loop { rec .ready none with state:=.busy }) hX
  have hX1:=hstW (.loop { rec .ready none with state:=.busy }) hX
  have hl2:(A1.putObj (w.heap.size+1) (.loop { rec .ready none with state:=.busy })).heap[w.heap.size+1]?=some (.loop { rec .ready none with state:=.busy }):=World.putObj_heap_same hlt
  have hk2:(A1.putObj (w.heap.size+1) (.loop { rec .ready none with state:=.busy })).heap[w.heap.size]?=some (.deferred (some [])):=(World.putObj_heap_other (by omega)).trans hk
  have hkH2:=keepT (.loop { rec .ready none with state:=.busy }) hkH
  have hi2:=hI _ _ _ _ _ hi T1
  have hnr:∀b,Hb b→b≠w.heap.size+1:=fun b hb e=>by have:=hsb.old b hb;omega
  have hkb:Kept Hb A1 (A1.putObj (w.heap.size+1) (.loop { rec .ready none with state:=.busy })):=(Ext.putObj A1 _ _).kept (fun b hb e=>hnr b hb e)
  refine wpIn_mono (hbody pre (Yo X) _ hi2 T1.here hpost (fun b hb=>(here hXA).lt b hb) (by omega) (hsb.again hkb) (hbb.kept hkb) a1 hr1) ?_
  have fin : ∀ (jump : Option Code) (A3 : World), Kept (Yo X) (A1.putObj (w.heap.size + 1) (.loop { rec .ready none with state := .busy })) A3 →
    (Instr.endRound (w.heap.size+1) jump).run P A3=.ok (.bool jump.isNone) (A3.putObj (w.heap.size+1) (.loop (rec (if jump.isNone then .ready else .done) jump))) ∧
    Hst W1 X (A3.putObj (w.heap.size+1) (.loop (rec (if jump.isNone then .ready else .done) jump))) X (A3.putObj (w.heap.size+1) (.loop (rec (if jump.isNone then .ready else .done) jump))) ∧
    Hst w0 (Yo X) A3 (Yo X) (A3.putObj (w.heap.size+1) (.loop (rec (if jump.isNone then .ready else .done) jump))) ∧
    (A3.putObj (w.heap.size+1) (.loop (rec (if jump.isNone then .ready else .done) jump))).heap[w.heap.size+1]?=some (.loop (rec (if jump.isNone then .ready else .done) jump)) ∧
    (A3.putObj (w.heap.size+1) (.loop (rec (if jump.isNone then .ready else .done) jump))).heap[w.heap.size]?=some (.deferred (some [])) ∧
    Kept H w (A3.putObj (w.heap.size+1) (.loop (rec (if jump.isNone then .ready else .done) jump))) ∧
    Kept X A1 (A3.putObj (w.heap.size+1) (.loop (rec (if jump.isNone then .ready else .done) jump))):=fun jump A3 hk3=>by
   have hl3:A3.heap[w.heap.size+1]?=some (.loop { rec .ready none with state:=.busy }):=by
    rw [hk3.keep _ (by simpa using hlt) (.inr (.inr (.inl rfl)))];exact hl2
   have hD3:A3.heap[w.heap.size]?=some (.deferred (some [])):=by
    rw [hk3.keep _ (by simp;omega) (.inr (.inl rfl))];exact hk2
   have hX3:Hst W1 X A3 X A3:=hX1.again (hk3.mono (fun b hb=>.inr (.inr (.inr hb))))
   have hrun:=run_endRound (P:=P) jump hl3
   rw [hrec] at hrun
   refine ⟨by rw [hrec];exact hrun,hstW _ hX3,turn _ hX3,World.putObj_heap_same (Array.getElem?_eq_some_iff.1 hl3).1,(World.putObj_heap_other (by omega)).trans hD3,keepT _ (hkH2.trans (hk3.mono (fun b hb=>.inl hb))),?_⟩
   have k1:Kept X A1 (A1.putObj (w.heap.size+1) (.loop { rec .ready none with state:=.busy })):=(Ext.putObj A1 _ _).kept (fun b hb e=>by have:=hX.old b hb;omega)
   exact (k1.trans (hk3.mono (fun b hb=>.inr (.inr (.inr hb))))).trans ((Ext.putObj A3 _ _).kept (fun b hb e=>by have:=hX.old b hb;omega))
  rintro e a3 A3 ⟨ρ3,hor⟩
  have hor:=hor.resolve_right (fun h=>by cases h.2.1)
  obtain ⟨hr3,hq⟩:=hor
  cases e with
  | normal =>
   obtain ⟨hk3,hi3⟩:=hq
   obtain ⟨f1,f2,f3,f4,f5,f6,f7⟩:=fin none A3 hk3
   exact ⟨_,_,f1,.inl ⟨rfl,EA.keptP.trans f7,f2,hI _ _ _ _ _ hi3 f3,f4,f5,f6⟩⟩
  | ret =>
   obtain ⟨hk3,hi3⟩:=hq
   obtain ⟨f1,f2,f3,f4,f5,f6,f7⟩:=fin (some .ret) A3 hk3
   exact ⟨_,_,f1,.inr ⟨rfl,EA.keptP.trans f7,f2,.ret,hIr _ _ _ _ _ hi3 f3,f4,f5,f6⟩⟩
  | exit id' =>
   obtain ⟨rfl,hk3,hi3⟩:=hq
   obtain ⟨f1,f2,f3,f4,f5,f6,f7⟩:=fin (some (.exit id')) A3 hk3
   exact ⟨_,_,f1,.inr ⟨rfl,EA.keptP.trans f7,f2,.exit id',⟨rfl,hIx _ _ _ _ _ hi3 f3⟩,f4,f5,f6⟩⟩
  | goto t=>exact hq.elim
  | panic ch=>exact hq.elim
  | outgrown=>exact hq.elim
 ·rcases hb with hb | rfl | rfl | hb
  ·exact .inl hb
  ·exact .inr (Nat.le_refl _)
  ·exact .inr (by omega)
  ·exact hb.elim
 ·-- behind the iterator
  have hrepM:Rep [oO w.heap.size] n ρ { a with defers:=[oO w.heap.size]++a.defers }:=⟨by rw [show a.defers=[] from ha.defers];rfl,ha.size,ha.get⟩
  have go:∀(A:World),Hst w0 (Yo fun b=>H b∨b=w.heap.size∨b=w.heap.size+1) A (Yo fun b=>H b∨b=w.heap.size∨b=w.heap.size+1) A→True:=fun _ _=>trivial
  have rest : ∀ (X : Nat → Prop) (A : World), Hst w0 (Yo X) A (Yo X) A → A.heap[w.heap.size]? = some (.deferred (some [])) → Kept H w A → (I xs (Yo X) A ∨ ∃ pre, Ix pre (Yo X) A) →
    y.wpIn (fen none) 0 P (jFD ⟨none,[]⟩ n Q) { a with defers:=[oO w.heap.size]++a.defers } A:=by
   intro X A hA hD hkA hIA
   refine wpIn_mono (hrest w.heap.size (Yo X) A hA (.inr (.inl rfl)) hD (fun b hb=>.inl hb) hkA hIA _ hrepM) ?_
   rintro e a2 A2 ⟨ρ2,⟨hr2,hq⟩ | ⟨_,_,h,_⟩⟩
   ·cases e <;> first | exact hq.elim | skip
    exact ⟨ρ2,.inr ⟨rfl,rfl,rfl,w.heap.size,hr2,hq.1,hq.2⟩⟩
   ·cases h
  rintro e A ⟨⟨v,rfl⟩,X,_,⟨hX,hi,hl,hk,hkH⟩ | ⟨pre,hX,c,hc,hl,hk,hkH⟩⟩
  ·obtain ⟨o, hrun⟩ : ∃ o, (Instr.endLoop (w.heap.size + 1)).run P A = .ok none (A.putObj (w.heap.size + 1) o) := by
    have:=run_endLoop (P:=P) hl (by rw [hrec];simp);rw [hrec] at this;exact ⟨_,this⟩
   have T:=turn o hX
   exact ⟨none,_,hrun,rest X _ T.here ((World.putObj_heap_other (by omega)).trans hk) (keepT _ hkH) (.inl (hI _ _ _ _ _ hi T))⟩
  ·obtain ⟨o, hrun⟩ : ∃ o, (Instr.endLoop (w.heap.size + 1)).run P A = .ok (some c) (A.putObj (w.heap.size + 1) o) := by
    have:=run_endLoop (P:=P) hl (by rw [hrec];simp);rw [hrec] at this;exact ⟨_,this⟩
   have T:=turn o hX
   refine ⟨some c,_,hrun,?_⟩
   have hc':=hJc _ _ _ _ _ _ hc T
   have hD:=(World.putObj_heap_other (w:=A) (r:=w.heap.size+1) (o:=o) (k:=w.heap.size) (by omega)).trans hk
   cases c <;> first | exact hc.elim | skip
   case exit id' =>
    obtain ⟨rfl,hx⟩:=hc'
    refine wpIn_exit ?_
    simp only [Exit.inBlock,if_true]
    exact rest X _ T.here hD (keepT _ hkH) (.inr ⟨pre,hx⟩)
   case ret =>
    refine wpIn_ret ?_
    exact ⟨ρ,.inr ⟨rfl,rfl,rfl,w.heap.size,hrepM,hD,hret w.heap.size pre (Yo X) _ T.here (.inr (.inl rfl)) hD hc'⟩⟩
end
end Go.SE
end
section
open Go Go.SE
open Go.IntKind renaming i64 → q6
namespace Go.Proofs
open Try
set_option maxRecDepth 100000
set_option maxHeartbeats 4000000
attribute [local irreducible] wpL wpX opE wpE Calls
def m_L3 (s1:Sl) (w0:World) (K:Value→WP):Prop :=∀p1 w1,New w0 (.cells #[s1.v] 23) p1 w1→K (.func (.func 37) #[] #[(vp (some p1))]) w1
theorem w_L3 (s1 w0 K) (h:m_L3 s1 w0 K):
  Calls prog 22 #[s1.v] w0 (fun e w'=>∃r1:Value,e=.returned r1∧K r1 w'):=by
 refine cw (args:=[s1.v]) func22 ntmps22 (eg (sn (O:=(.cells #[s1.v] 23)) xb ?_))
 intro p1 w1 hn1
 have h:=h p1 w1 hn1
 refine q (ln (eg (qb (ln (er (rs1 results22 ⟨(.func (.func 37) #[] #[(vp (some p1))]),rfl,h⟩))))))
def m_K_j2 (p1:Addr) (I1:List (Int×Int×Int×Int×Int×ByteArray)→NP→WP) (pre1:List (Int×Int×Int×Int×Int×ByteArray)) (z2:Int×Int×Int×Int×Int×ByteArray) (Y1:NP) (A1 w0:World) (H:NP) (w:World) (_K:Sl→WP):Prop :=∃v2:Sl,w.cell? p1=some v2.v∧∃a2:Addr,At v2 z2.1 1 a2∧∃v3,w.cell? a2=some (vb v3)∧∀y1:Bool,y1=(((v3 && ((s_F (z2.2.1)).2)) && (decide (z2.2.2.2.1≥0))) && (decide (z2.2.2.2.1<z2.1)))→Br y1 (∀H5 w12,Hst w0 H w H5 w12→∃v4:Sl,w12.cell? p1=some v4.v∧∃a3:Addr,At v4 z2.2.2.2.1 1 a3∧zS w12 a3∧¬ H5 a3.block∧∀w13,w13=w12.setCell a3 (vb true)→Kept Y1 A1 w13∧I1 (pre1++[z2]) Y1 w13) (∀H5 w12,Hst w0 H w H5 w12→Kept Y1 A1 w12∧I1 (pre1++[z2]) Y1 w12)
def m_K_j1 (p1:Addr) (I1:List (Int×Int×Int×Int×Int×ByteArray)→NP→WP) (pre1:List (Int×Int×Int×Int×Int×ByteArray)) (z2:Int×Int×Int×Int×Int×ByteArray) (Y1:NP) (A1:World) (x1:Bool) (w0:World) (H:NP) (w:World) (K:Sl→WP):Prop :=Br x1 (∃v5:Sl,w.cell? p1=some v5.v∧∃a4:Addr,At v5 z2.2.2.1 1 a4∧zS w a4∧¬ H a4.block∧∀w14,w14=w.setCell a4 (vb true)→m_K_j2 p1 I1 pre1 z2 Y1 A1 w0 H w14 K) (m_K_j2 p1 I1 pre1 z2 Y1 A1 w0 H w K)
def m_K_l3 (l1:Sl) (p1 p3:Addr) (out1:Sl) (x2:Int) (w0:World) (Hl1:NP) (wl1:World) (Kc3:Sl→Int→NP→WP) (K:Sl→WP):Prop :=Br (decide (x2<(l1.len:Int))) (∃a6:Addr,At l1 x2 5 a6∧∃aA aB aC aD aE,Row wl1 a6 (Ac aA aB aC aD aE)∧∀H10 w21,Hst w0 Hl1 wl1 H10 w21→∃v8:Sl,w21.cell? p1=some v8.v∧∃a7:Addr,At v8 x2 1 a7∧∃v9,w21.cell? a7=some (vb v9)∧Br (!v9) (Kc3 out1 (q6.wrap (x2+1)) H10 w21) (∀w22,Hst w0 H10 w21 H10 w22→∃v10 ok1,(Instr.lookup 69 (.map (some p3.block)) (vi aB) true).run prog w22=.ok (.tuple #[(vi v10),(vb ok1)]) w22∧∀H12 w25,Hst w0 H10 w22 H12 w25→∃v11 ok2,(Instr.lookup 69 (.map (some p3.block)) (vi aC) true).run prog w25=.ok (.tuple #[(vi v11),(vb ok2)]) w25∧∀H14 w29,Hst w0 H12 w25 H14 w29→∃w31:World,(Instr.mapUpdate 69 (.map (some p3.block)) (vi x2) (vi (out1.len:Int))).run prog w29=.ok () w31∧Kept H14 w29 w31∧∀p5 w32,New w31 (.cells #[(vi aA),(vi (cond (((decide (aA≥4)) && (decide (aA≤11))) && ok1) v10 aB)),(vi (cond (((s_F aA).2) && ok2) v11 aC)),(vu aD),(vs aE)] 49) p5 w32→∃s2:Sl,∃w33:World,(Builtin.append_ #[23,23] 23 #[out1.v,(Sl.mk (some p5) 1 1).v]).run prog w32=.ok s2.v w33∧Kept H14 w32 w33∧Kc3 s2 (q6.wrap (x2+1)) H14 w33)) (∀w34,Hst w0 Hl1 wl1 Hl1 w34→K out1 w34)
def m_K (l1:Sl) (w0:World) (K:Sl→WP):Prop :=Br (((l1.len:Int):Int) == 0) (K Sl.nil w0) (∃s1:Sl,∃w1:World,(Instr.makeSlice 63 (vi (l1.len:Int)) (vi (l1.len:Int))).run prog w0=.ok s1.v w1∧Kept None w0 w1∧∀p1 w2,New w1 (.cells #[Sl.nil.v] 63) p1 w2→zS w2 p1∧¬ None p1.block∧∀w3,w3=w2.setCell p1 s1.v→∃v1:Sl,w3.cell? p1=some v1.v∧∃a1:Addr,At v1 (q6.wrap ((l1.len:Int) - 1)) 1 a1∧zS w3 a1∧¬ None a1.block∧∀w4,w4=w3.setCell a1 (vb true)→Calls prog 22 #[l1.v] w4 (fun e w5=>∃r1:Value,e=.returned r1∧Kept None w4 w5∧∃(f1:FuncId) (cs1:Array Value),r1=.func (.func f1) #[] cs1∧(∀args w,(callFunc f1 args).run prog w=.ok (.enter f1 args) w)∧∃(xs1:List (Int×Int×Int×Int×Int×ByteArray)) (Rd1:WP),jIN prog f1 cs1 (fun (z2:Int×Int×Int×Int×Int×ByteArray)=>#[(vi z2.1),(Ah (z2.2.1) (z2.2.2.1) (z2.2.2.2.1) (z2.2.2.2.2.1) (z2.2.2.2.2.2))]) xs1 Rd1 w5∧∃(I1:List (Int×Int×Int×Int×Int×ByteArray)→NP→WP),RngI w0 Rd1 I1 (fun _ _ _=>False) (fun _ _ _=>False)∧I1 [] None w5∧(∀(pre1:List (Int×Int×Int×Int×Int×ByteArray)) (z2:Int×Int×Int×Int×Int×ByteArray) (Y1:NP) (w6:World) (H2:NP) (A1:World),I1 pre1 Y1 A1→Hst w0 Y1 A1 Y1 A1→(∃post,xs1=pre1++z2 :: post)→(∀b,Y1 b→b<w6.heap.size)→w5.heap.size≤w6.heap.size→Hst w6 H2 A1 H2 A1→∀w9,Hst w6 H2 A1 H2 w9→∃v6:Sl,w9.cell? p1=some v6.v∧∃a5:Addr,At v6 z2.1 1 a5∧∃v7,w9.cell? a5=some (vb v7)∧∀y2:Bool,y2=(((v7 && ((decide ((z2.2.1)≥4)) && (decide ((z2.2.1)≤11)))) && (decide (z2.2.2.1≥0))) && (decide (z2.2.2.1<z2.1)))→∀H8 w17,Hst w6 H2 w9 H8 w17→m_K_j1 p1 I1 pre1 z2 Y1 A1 y2 w6 H8 w17 K)∧∀H9 w18,Hst w0 H9 w18 H9 w18→(∀b,None b→H9 b)→Kept None w5 w18→I1 xs1 H9 w18→∀p3 w19,New w18 (.map #[] 0) p3 w19→∃(I2:Sl→Int→NP→WP) (mu1:Sl→Int→World→Nat),I2 Sl.nil 0 H9 w19∧∀(out1:Sl) (x2:Int) (Hl1:NP) (wl1:World),Hst w0 Hl1 wl1 Hl1 wl1→I2 out1 x2 Hl1 wl1→m_K_l3 l1 p1 p3 out1 x2 w0 Hl1 wl1 (fun y'0 y'1 H' w'=>I2 y'0 y'1 H' w'∧mu1 y'0 y'1 w'<mu1 out1 x2 wl1) K))
theorem w_K (l1 w0 K) (h:m_K l1 w0 K):
  Calls prog 8 #[l1.v] w0 (fun e w'=>∃r2:Sl,e=.returned r2.v∧K r2 w'):=by
 refine cw (args:=[l1.v]) func8 ntmps8 ?_
 obtain ⟨hs,hb⟩:=st0 w0
 refine eg (q (ln (jA (eg (qc (jB (jI (cbr h ?_ ?_))))))))<;>intro h
 refine eg (q (ln (er (zI (rs1 results8 ⟨Sl.nil,rfl,h⟩)))))
 refine jC (jI (eg (qb ?_)))
 obtain ⟨s1,w1,hv23,hk,h⟩:=h
 refine st (v:=s1.v) (jM rfl) (qZ (by kernel_rfl) (by kernel_rfl) hv23) ?_
 obtain ⟨hs,hb⟩:=hk.hh hs hb
 refine nw2 hs hb h (jX (zeroValue63 _) rfl) fun p1 w2 hs hb h=>st2 (sizeOf63 _) hs hb h fun w3 hs hb h=>ln (eg (ql (isAgg63 _) h fun v1 h=>qc (qi (runUnderlying63 _) (sizeOf4 _) h fun a1 h=>st2 (sizeOf4 _) hs hb h fun w4 hs hb h=>ln (jFG (rg (q0 l1.v (sc call22 (h.mono fun e w5 ⟨r1,k,hk,h⟩=>have ⟨hs,hb⟩:=hk.hh hs hb;⟨_,k,?_⟩))))))))
 refine ln ?_
 obtain ⟨f1,cs1,hv1,hf1,h⟩:=h
 obtain ⟨xs1,Rd1,hit,I1,hRI,h0,hbody,h⟩:=h
 refine jCK (encs:=(fun (z2:Int×Int×Int×Int×Int×ByteArray)=>#[(vi z2.1),(Ah (z2.2.1) (z2.2.2.1) (z2.2.2.2.1) (z2.2.2.2.2.1) (z2.2.2.2.2.2))])) (Eq.trans (b:=r1) (by kernel_rfl) hv1) hf1 hit (fun _=>rfl) (by decide) hs I1 (fun _ _ _=>False) (fun _ _ _=>False) hRI h0 ?ha ?hr ?ht
 case ha =>
  intro l z2 w6
  obtain ⟨hs,hb⟩:=st0 w6
  refine eg (q (ln (rg (nw3 [(vi 0),(vi 0),(vi 0),(vu 0),ve] 49 hs hb (jX (zeroValue49 _) rfl) fun p2 w7 H1 hs hb=>sbx 0 (Ac (z2.2.1) (z2.2.2.1) (z2.2.2.2.1) (z2.2.2.2.2.1) (z2.2.2.2.2.2)) (sizeOf49 _) hs hb gZ fun w8 hs hb=>ln ⟨_,_,hs,hb,?_⟩))))
  rename NP=>H2
  intro pre1 Y1 A1 hi hY hpost hlo hsz hs hb
  have h:=hbody pre1 z2 Y1 w6 _ A1 hi hY hpost hlo hsz hs
  refine jG (eg (q (q3 (xl (isAgg3 _) (hb.d0 0 gZ)) (sc call23 ((p_F (z2.2.1) A1).mono ?_)))))
  rintro e w9 ⟨he,hE⟩
  refine ⟨_,he,?_⟩
  obtain ⟨hs,hb⟩:=hs.pp hb hE
  refine q (qd (ln (jA (jA (zJ (fun ρ w=>∃x1,∃H:NP,Has ρ [(3,(vp (some p1))),(4,(vi z2.1)),(5,(vp (some p2))),(7,(vb (s_F (z2.2.1)).2)),(56,(vb x1))]∧Hst w6 H w H w∧HB H w [(p2,(Ac (z2.2.1) (z2.2.2.1) (z2.2.2.2.1) (z2.2.2.2.2.1) (z2.2.2.2.2.2)),49)]∧m_K_j1 p1 I1 pre1 z2 Y1 A1 x1 w6 H w K) ?_ ?_)))))
  rintro ρ w ⟨x1,H,hH,hs,hb,h⟩
  refine jN hH (zJ (fun ρ w=>∃H:NP,Has ρ [(3,(vp (some p1))),(4,(vi z2.1)),(5,(vp (some p2))),(7,(vb (s_F (z2.2.1)).2))]∧Hst w6 H w H w∧HB H w [(p2,(Ac (z2.2.1) (z2.2.2.1) (z2.2.2.2.1) (z2.2.2.2.2.1) (z2.2.2.2.2.2)),49)]∧m_K_j2 p1 I1 pre1 z2 Y1 A1 w6 H w K) ?_ ?_)
  rintro ρ w ⟨H,hH,hs,hb,h⟩
  refine jN hH (eg (ql (isAgg63 _) h fun v2 h=>q (qi (runUnderlying63 _) (sizeOf4 _) h fun a2 h=>ql (isAgg4 _) h fun v3 h=>q (jE 2 (fun ρ wJ=>∃b1'0:Bool,∃HJ:NP,(v3=b1'0)∧Hst w6 H w HJ wJ∧HB HJ wJ [(p2,(Ac (z2.2.1) (z2.2.2.1) (z2.2.2.2.1) (z2.2.2.2.2.1) (z2.2.2.2.2.2)),49)]∧Has ρ [(3,(vp (some p1))),(4,(vi z2.1)),(5,(vp (some p2))),(67,(vb (b1'0 && ((s_F (z2.2.1)).2))))]) ?_ ?_))))
  rintro ρ w10 ⟨b1'0,H3,he0,hs,hb,hH⟩
  subst he0
  refine jJ hH (q (jE 4 (fun ρ wJ=>∃b2'0:Bool,∃HJ:NP,((v3 && ((s_F (z2.2.1)).2))=b2'0)∧Hst w6 H w HJ wJ∧HB HJ wJ [(p2,(Ac (z2.2.1) (z2.2.2.1) (z2.2.2.2.1) (z2.2.2.2.2.1) (z2.2.2.2.2.2)),49)]∧Has ρ [(3,(vp (some p1))),(4,(vi z2.1)),(5,(vp (some p2))),(72,(vb (b2'0 && (decide (z2.2.2.2.1≥0)))))]) ?_ ?_))
  rintro ρ w11 ⟨b2'0,H4,he0,hs,hb,hH⟩
  subst he0
  refine jJ hH (q (jE 5 (fun ρ wJ=>∃b3'0 y1:Bool,∃HJ:NP,(((v3 && ((s_F (z2.2.1)).2)) && (decide (z2.2.2.2.1≥0)))=b3'0)∧(y1=(b3'0 && (decide (z2.2.2.2.1<z2.1))))∧Hst w6 H w HJ wJ∧HB HJ wJ [(p2,(Ac (z2.2.1) (z2.2.2.1) (z2.2.2.2.1) (z2.2.2.2.2.1) (z2.2.2.2.2.2)),49)]∧Has ρ [(3,(vp (some p1))),(5,(vp (some p2))),(78,(vb y1))]) ?_ ?_))
  rintro ρ w12 ⟨b3'0,y1,H5,he0,hy1,hs,hb,hH⟩
  subst he0
  have h:=h y1 hy1
  refine jJ hH (ln (cbr h ?_ ?_))<;>intro h
  refine rg ?_
  have ⟨h,hs⟩:=hs.hr (h H5 w12)
  refine ql (isAgg63 _) h fun v4 h=>q (q3 (xl (isAgg3 _) (hb.d 0 2 gZ)) (qi (runUnderlying63 _) (sizeOf4 _) h fun a3 h=>st2 (sizeOf4 _) hs hb h fun w13 hs hb h=>jB (qB ?_)))
  exact rd_n h
  refine jC (qB ?_)
  have ⟨h,hs⟩:=hs.hr (h H5 w12)
  exact rd_n h
  rcases bte ((v3 && ((s_F (z2.2.1)).2)) && (decide (z2.2.2.2.1≥0))) with hg6 | hg6
  refine qk 73 hg6 (q4 73 hg6 (xl (isAgg3 _) (hb.d 0 2 gZ)) (qk 73 hg6 (qk 73 hg6 (q2 (vb (decide (z2.2.2.2.1<z2.1))) (xT hg6) (jB ⟨true,_,_,hg6,rfl,hs,hb,hm⟩)))))
  refine sj4 73 hg6 (q2 (vb false) (xF hg6) (jB ⟨false,_,_,hg6,rfl,hs,hb,hm⟩))
  rcases bte (v3 && ((s_F (z2.2.1)).2)) with hg4 | hg4
  refine qk 68 hg4 (q4 68 hg4 (xl (isAgg3 _) (hb.d 0 2 gZ)) (qk 68 hg4 (q2 (vb (decide (z2.2.2.2.1≥0))) (xT hg4) (jB ⟨true,_,hg4,hs,hb,hm⟩))))
  refine sj3 68 hg4 (q2 (vb false) (xF hg4) (jB ⟨false,_,hg4,hs,hb,hm⟩))
  rcases bte v3 with hg2 | hg2
  refine qk 65 hg2 (q2 (vb (s_F (z2.2.1)).2) (xT hg2) (jB ⟨true,_,hg2,hs,hb,hm⟩))
  refine sj 65 hg2 (q2 (vb false) (xF hg2) (jB ⟨false,_,hg2,hs,hb,hm⟩))
  refine cbr h ?_ ?_<;>intro h
  refine rg (ql (isAgg63 _) h fun v5 h=>q (q3 (xl (isAgg3 _) (hb.d 0 1 gZ)) (qi (runUnderlying63 _) (sizeOf4 _) h fun a4 h=>st2 (sizeOf4 _) hs hb h fun w14 hs hb h=>ln ⟨H,hm,hs,hb,h⟩)))
  refine jC (jI ⟨H,hm,hs,hb,h⟩)
  refine rg ?_
  have ⟨h,hs⟩:=hs.hr (h w9)
  refine ql (isAgg63 _) h fun v6 h=>q (qi (runUnderlying63 _) (sizeOf4 _) h fun a5 h=>ql (isAgg4 _) h fun v7 h=>q (jE 2 (fun ρ wJ=>∃b4'0:Bool,∃HJ:NP,(v7=b4'0)∧Hst w6 H2 w9 HJ wJ∧HB HJ wJ [(p2,(Ac (z2.2.1) (z2.2.2.1) (z2.2.2.2.1) (z2.2.2.2.2.1) (z2.2.2.2.2.2)),49)]∧Has ρ [(3,(vp (some p1))),(4,(vi z2.1)),(5,(vp (some p2))),(7,(vb (s_F (z2.2.1)).2)),(45,(vb (b4'0 && ((decide ((z2.2.1)≥4)) && (decide ((z2.2.1)≤11))))))]) ?_ ?_))
  rintro ρ w15 ⟨b4'0,H6,he0,hs,hb,hH⟩
  subst he0
  refine jJ hH (q (jE 4 (fun ρ wJ=>∃b5'0:Bool,∃HJ:NP,((v7 && ((decide ((z2.2.1)≥4)) && (decide ((z2.2.1)≤11))))=b5'0)∧Hst w6 H2 w9 HJ wJ∧HB HJ wJ [(p2,(Ac (z2.2.1) (z2.2.2.1) (z2.2.2.2.1) (z2.2.2.2.2.1) (z2.2.2.2.2.2)),49)]∧Has ρ [(3,(vp (some p1))),(4,(vi z2.1)),(5,(vp (some p2))),(7,(vb (s_F (z2.2.1)).2)),(50,(vb (b5'0 && (decide (z2.2.2.1≥0)))))]) ?_ ?_))
  rintro ρ w16 ⟨b5'0,H7,he0,hs,hb,hH⟩
  subst he0
  refine jJ hH (q (jE 5 (fun ρ wJ=>∃b6'0 y2:Bool,∃HJ:NP,(((v7 && ((decide ((z2.2.1)≥4)) && (decide ((z2.2.1)≤11)))) && (decide (z2.2.2.1≥0)))=b6'0)∧(y2=(b6'0 && (decide (z2.2.2.1<z2.1))))∧Hst w6 H2 w9 HJ wJ∧HB HJ wJ [(p2,(Ac (z2.2.1) (z2.2.2.1) (z2.2.2.2.1) (z2.2.2.2.2.1) (z2.2.2.2.2.2)),49)]∧Has ρ [(3,(vp (some p1))),(4,(vi z2.1)),(5,(vp (some p2))),(7,(vb (s_F (z2.2.1)).2)),(56,(vb y2))]) ?_ ?_))
  rintro ρ w17 ⟨b6'0,y2,H8,he0,hy2,hs,hb,hH⟩
  subst he0
  have h:=h y2 hy2
  refine jJ hH (jB ?_)
  have ⟨h,hs⟩:=hs.hr (h H8 w17)
  refine jI ⟨y2,H8,hm,hs,hb,h⟩
  rcases bte ((v7 && ((decide ((z2.2.1)≥4)) && (decide ((z2.2.1)≤11)))) && (decide (z2.2.2.1≥0))) with hg12 | hg12
  refine qk 51 hg12 (q4 51 hg12 (xl (isAgg3 _) (hb.d 0 1 gZ)) (qk 51 hg12 (qk 51 hg12 (q2 (vb (decide (z2.2.2.1<z2.1))) (xT hg12) (jB ⟨true,_,_,hg12,rfl,hs,hb,hm⟩)))))
  refine sj4 51 hg12 (q2 (vb false) (xF hg12) (jB ⟨false,_,_,hg12,rfl,hs,hb,hm⟩))
  rcases bte (v7 && ((decide ((z2.2.1)≥4)) && (decide ((z2.2.1)≤11)))) with hg10 | hg10
  refine qk 46 hg10 (q4 46 hg10 (xl (isAgg3 _) (hb.d 0 1 gZ)) (qk 46 hg10 (q2 (vb (decide (z2.2.2.1≥0))) (xT hg10) (jB ⟨true,_,hg10,hs,hb,hm⟩))))
  refine sj3 46 hg10 (q2 (vb false) (xF hg10) (jB ⟨false,_,hg10,hs,hb,hm⟩))
  rcases bte v7 with hg8 | hg8
  refine qk 43 hg8 (q2 (vb ((decide ((z2.2.1)≥4)) && (decide ((z2.2.1)≤11)))) (xT hg8) (jB ⟨true,_,hg8,hs,hb,hm⟩))
  refine sj 43 hg8 (q2 (vb false) (xF hg8) (jB ⟨false,_,hg8,hs,hb,hm⟩))
 case hr =>
  intro D1 H9 w18 hs' hD hDe aF hk1 hio1
  have hb':=hb.behind hk1 aF hD hDe
  have hs:=hs'
  have hb:=hb'
  have h:=h H9 w18 hs aF hk1 (hio1.elim id (fun h=>h.elim (fun _ h=>h.elim)))
  refine eg (nw5 (fun p=>.map (some p.block)) hs hb h fun p3 w19 hs hb h=>q (ln (eg (q (ln (jA (eg (q (qb (ln (jG ?_)))))))))))
  obtain ⟨I2,mu1,h0,hr⟩:=h
  refine zH (σ:=Sl×Int×NP×World) (fun s ρ w=>w=s.2.2.2∧Has ρ [(3,(vp (some p1))),(8,(.map (some p3.block))),(9,s.1.v),(84,l1.v),(85,(vi (l1.len:Int))),(86,(vi s.2.1))]∧Hst w0 s.2.2.1 w s.2.2.1 w∧HBZ [(D1,.deferred (some []))] s.2.2.1 w []∧I2 s.1 s.2.1 s.2.2.1 s.2.2.2) (fun s=>mu1 s.1 s.2.1 s.2.2.2) (Sl.nil,0,H9,w19) ⟨rfl,hm,hs,hb,h0⟩ ?_
  rintro ⟨out1,x2,Hl1,wl1⟩ ρ w ⟨hw,hH,hs,hb,hI⟩
  dsimp only at hw hH hs hb;subst w
  have h:=hr out1 x2 Hl1 wl1 hs hI
  refine jN hH (eg (q (ln (jA (cbr h ?_ ?_)))))<;>intro h
  refine jC (jI (jA (jG (eg (q (qi (runUnderlying23 _) (sizeOf49 _) h fun a6 h=>?_))))))
  obtain ⟨aA,aB,aC,aD,aE,hv19,h⟩:=h
  refine qa (isAgg49 _) (sizeOf49 _) hv19 (nw3 [(vi 0),(vi 0),(vi 0),(vu 0),ve] 49 hs hb (jX (zeroValue49 _) rfl) fun p4 w20 H10 hs hb=>q (qE (jM rfl) (xo p4 (Ac aA aB aC aD aE) (sizeOf49 _) (hb.k0 0 5 gZ)) ?_))
  intro w21 hn8
  have hsb:Hst w0 Hl1 wl1 H10 w21∧HBZ [(D1,.deferred (some []))] H10 w21 [(p4,(Ac aA aB aC aD aE),49)]:=by
   rw [hn8];exact hb.store0 (i:=0) (vs:=(Ac aA aB aC aD aE)) hs gZ (by kernel_rfl) (by kernel_rfl)
  obtain ⟨hs,hb⟩:=hsb
  refine ln (jA (eg ?_))
  have ⟨h,hs⟩:=hs.hr (h H10 w21)
  refine ql (isAgg63 _) h fun v8 h=>q (qi (runUnderlying63 _) (sizeOf4 _) h fun a7 h=>ql (isAgg4 _) h fun v9 h=>q (ln (cbr h ?_ ?_)))<;>intro h
  refine zB (vG (kQ (jI (rg (q0 (vi (q6.wrap (x2+1))) (q0 (vi (q6.wrap (x2+1))) (ln ⟨(out1,(q6.wrap (x2+1)),H10,w21),⟨rfl,hm,hs,hb.drop 1,h.1⟩,h.2⟩)))))))
  refine jC (jI (eg (q (q3 (xl (isAgg3 _) (hb.d0 0 gZ)) (sc call23 ((p_F aA w21).mono ?_))))))
  rintro e w22 ⟨he,hE⟩
  refine ⟨_,he,?_⟩
  obtain ⟨hs,hb⟩:=hs.pp hb hE
  refine q (qd (ln (jA (eg (qb (q3 (xl (isAgg3 _) (hb.d 0 1 gZ)) ?_))))))
  have ⟨h,hs⟩:=hs.hr (h w22)
  obtain ⟨v10,ok1,hv15,h⟩:=h
  refine q2 (.tuple #[(vi v10),(vb ok1)]) (qL (by kernel_rfl) (by kernel_rfl) hv15) (q (qd (ln (jA (jZ (fun ρ wJ=>∃b7'0:Bool,∃HJ:NP,(((decide (aA≥4)) && (decide (aA≤11)))=b7'0)∧Hst w0 H10 w22 HJ wJ∧HBZ [(D1,.deferred (some []))] HJ wJ [(p4,(Ac aA aB aC aD aE),49)]∧Has ρ [(3,(vp (some p1))),(8,(.map (some p3.block))),(9,out1.v),(10,(vi x2)),(11,(vp (some p4))),(13,(vb (s_F aA).2)),(14,(vi v10)),(84,l1.v),(85,(vi (l1.len:Int))),(86,(vi x2)),(112,(vb (b7'0 && ok1)))]) ?_ ?_)))))
  refine rg (qb ?_)
  rcases bte ((decide (aA≥4)) && (decide (aA≤11))) with hg14 | hg14
  refine qk 110 hg14 (q2 (vb ok1) (xT hg14) (ln ⟨true,_,hg14,hs,hb,hm⟩))
  refine sj 110 hg14 (q2 (vb false) (xF hg14) (ln ⟨false,_,hg14,hs,hb,hm⟩))
  rintro ρ w23 ⟨b7'0,H11,he0,hs,hb,hH⟩
  subst he0
  refine jP hH (jI (jZ (fun ρ wJ=>∃b8'0:Bool,∃HJ:NP,((((decide (aA≥4)) && (decide (aA≤11))) && ok1)=b8'0)∧Hst w0 H10 w22 HJ wJ∧HBZ [(D1,.deferred (some []))] HJ wJ [(p4,(Ac aA (cond b8'0 v10 aB) aC aD aE),49)]∧Has ρ [(3,(vp (some p1))),(8,(.map (some p3.block))),(9,out1.v),(10,(vi x2)),(11,(vp (some p4))),(13,(vb (s_F aA).2)),(84,l1.v),(85,(vi (l1.len:Int))),(86,(vi x2))]) ?_ ?_))
  refine zF (t:=(((decide (aA≥4)) && (decide (aA≤11))) && ok1)) (by kernel_rfl) (fun hc7=>?_) (fun hc7=>?_)
  refine rg (qb (qE (jM rfl) (vJ (a:=(p4.add 1)) (v:=(vi v10)) (by kernel_rfl) (by kernel_rfl) rfl (sizeOf3 _) (hb.canW 0 1 gZ (by kernel_rfl))) ?_))
  intro w26 hn10
  have hsb:Hst w0 H10 w22 H11 w26∧HBZ [(D1,.deferred (some []))] H11 w26 [(p4,(Ac aA v10 aC aD aE),49)]:=by
   rw [hn10];exact hb.set (i:=0) 1 (v:=(vi v10)) hs gZ (by kernel_rfl)
  obtain ⟨hs,hb⟩:=hsb
  refine ln ⟨true,_,hc7,hs,hb,hm⟩
  refine jC (jI ⟨false,_,hc7,hs,hb,hm⟩)
  rintro ρ w25 ⟨b8'0,H12,he0,hs,hb,hH⟩
  subst he0
  refine jP hH (jI (jA (eg (qb (q3 (xl (isAgg3 _) (hb.d 0 2 gZ)) ?_)))))
  have ⟨h,hs⟩:=hs.hr (h H12 w25)
  obtain ⟨v11,ok2,hv14,h⟩:=h
  refine q2 (.tuple #[(vi v11),(vb ok2)]) (qL (by kernel_rfl) (by kernel_rfl) hv14) (q (qd (ln (jA (jZ (fun ρ wJ=>∃b9'0:Bool,∃HJ:NP,((s_F aA).2=b9'0)∧Hst w0 H12 w25 HJ wJ∧HBZ [(D1,.deferred (some []))] HJ wJ [(p4,(Ac aA (cond (((decide (aA≥4)) && (decide (aA≤11))) && ok1) v10 aB) aC aD aE),49)]∧Has ρ [(3,(vp (some p1))),(8,(.map (some p3.block))),(9,out1.v),(10,(vi x2)),(11,(vp (some p4))),(16,(vi v11)),(84,l1.v),(85,(vi (l1.len:Int))),(86,(vi x2)),(125,(vb (b9'0 && ok2)))]) ?_ ?_)))))
  refine rg (qb ?_)
  rcases bte ((s_F aA).2) with hg16 | hg16
  refine qk 123 hg16 (q2 (vb ok2) (xT hg16) (ln ⟨true,_,hg16,hs,hb,hm⟩))
  refine sj 123 hg16 (q2 (vb false) (xF hg16) (ln ⟨false,_,hg16,hs,hb,hm⟩))
  rintro ρ w27 ⟨b9'0,H13,he0,hs,hb,hH⟩
  subst he0
  refine jP hH (jI (jZ (fun ρ wJ=>∃b10'0:Bool,∃HJ:NP,((((s_F aA).2) && ok2)=b10'0)∧Hst w0 H12 w25 HJ wJ∧HBZ [(D1,.deferred (some []))] HJ wJ [(p4,(Ac aA (cond (((decide (aA≥4)) && (decide (aA≤11))) && ok1) v10 aB) (cond b10'0 v11 aC) aD aE),49)]∧Has ρ [(3,(vp (some p1))),(8,(.map (some p3.block))),(9,out1.v),(10,(vi x2)),(11,(vp (some p4))),(84,l1.v),(85,(vi (l1.len:Int))),(86,(vi x2))]) ?_ ?_))
  refine zF (t:=(((s_F aA).2) && ok2)) (by kernel_rfl) (fun hc9=>?_) (fun hc9=>?_)
  refine rg (qb (qE (jM rfl) (vJ (a:=(p4.add 2)) (v:=(vi v11)) (by kernel_rfl) (by kernel_rfl) rfl (sizeOf3 _) (hb.canW 0 2 gZ (by kernel_rfl))) ?_))
  intro w30 hn12
  have hsb:Hst w0 H12 w25 H13 w30∧HBZ [(D1,.deferred (some []))] H13 w30 [(p4,(Ac aA (cond (((decide (aA≥4)) && (decide (aA≤11))) && ok1) v10 aB) v11 aD aE),49)]:=by
   rw [hn12];exact hb.set (i:=0) 2 (v:=(vi v11)) hs gZ (by kernel_rfl)
  obtain ⟨hs,hb⟩:=hsb
  refine ln ⟨true,_,hc9,hs,hb,hm⟩
  refine jC (jI ⟨false,_,hc9,hs,hb,hm⟩)
  rintro ρ w29 ⟨b10'0,H14,he0,hs,hb,hH⟩
  subst he0
  refine jP hH (jI (eg (qd ?_)))
  have ⟨h,hs⟩:=hs.hr (h H14 w29)
  obtain ⟨w31,hv13,hk,h⟩:=h
  refine zW (jM rfl) (vT (by kernel_rfl) (by kernel_rfl) (by kernel_rfl) hv13) ?_
  obtain ⟨hs,hb⟩:=hk.hh hs hb
  refine ln (rg (q (q2 (Ah aA (cond (((decide (aA≥4)) && (decide (aA≤11))) && ok1) v10 aB) (cond (((s_F aA).2) && ok2) v11 aC) aD aE) (xa p4 (Ac aA (cond (((decide (aA≥4)) && (decide (aA≤11))) && ok1) v10 aB) (cond (((s_F aA).2) && ok2) v11 aC) aD aE) (isAgg49 _) (sizeOf49 _) (hb.r0 0 5 gZ)) (nw5 (fun p=>(Sl.mk (some p) 1 1).v) hs hb h fun p5 w32 hs hb h=>?_))))
  obtain ⟨s2,w33,hv12,hk,h⟩:=h
  refine st (v:=s2.v) (jM rfl) (zD (args:=#[out1.v,(Sl.mk (some p5) 1 1).v]) (by kernel_rfl) (fun _=>rfl) hv12) ?_
  obtain ⟨hs,hb⟩:=hk.hh hs hb
  refine q (jB (qB (jI (rg (qb (ln ⟨(s2,(q6.wrap (x2+1)),H14,w33),⟨rfl,hm,hs,hb.drop 1,h.1⟩,h.2⟩))))))
  refine zB (vG (vG (kQ (jI (eg (q0 out1.v (q0 out1.v (ln (er (af_r hb.dead ?_))))))))))
  intro w34 hw'
  have hl:=hb.leave hs hw'
  obtain ⟨hs,hb⟩:=hl
  -- behind the loop
  have ⟨h,hs⟩:=hs.hr (h w34)
  refine rs1 results8 ⟨out1,rfl,h⟩
 case ht =>
  intro _ _ _ _ _ _ _ h
  exact h.elim
end Go.Proofs
end
section
open Go.SE
namespace Go.Sp
def upd (V:Int→Bool) (t:Int) (b:Bool):Int→Bool:=fun x=>if x=t then b else V x
end Go.Sp
end
section
open Go Go.SE
namespace Go.Proofs
open Try
attribute [local irreducible] Calls
theorem jBT:SlType prog 63 4 1 1:=by
 refine ⟨underlying63,⟨t4,_,by kernel_rfl,(by kernel_rfl:t4.zero=some (.bool false)),by kernel_rfl,by kernel_rfl,rfl⟩,by omega⟩
section
variable {w w':World} {e:TypeId} {s:Sl} {n:Nat} {V:Int→Bool}
end
abbrev Opz:=Int×Int×Int×Int×Int×ByteArray
def opz (i:Nat) (o:Sp.Op):Opz:=((i:Int),o.code,o.a,o.b,o.num,o.text)
def bks (l:List Sp.Op):Nat→List Opz
 | 0=>[]
 | i+1=>match l[i]? with | none=>bks l i | some o=>opz i o :: bks l i
theorem uV {l:List Sp.Op} {i:Nat} (h:i<l.length):bks l (i+1)=opz i l[i] :: bks l i:=by rw [bks,List.getElem?_eq_getElem h]
abbrev encz (z:Opz):Array Value:=#[.int .i64 z.1,.agg #[.int .i64 z.2.1,.int .i64 z.2.2.1,.int .i64 z.2.2.2.1,.int .u64 z.2.2.2.2.1,.string z.2.2.2.2.2]]
abbrev BackR (S:NP) (pc:Addr) (s:Sl) (l:List Sp.Op) (A:World):Prop:=Lst S A 5 s (l.map zU)∧Box A pc [s.v] 23
theorem jBZ {i:Nat} (h:i≤1000000):IntKind.i64.wrap ((i:Int) - 1)=(i:Int) - 1:=IntWalk.i64_in _ (by omega)
theorem jHS {S:NP} {pc:Addr} {s:Sl} {l:List Sp.Op} {w0:World} (hB:Box w0 pc [s.v] 23) (hL:s.len=l.length) (hn:l.length≤1000000) :
  jIN prog 37 #[.pointer (some pc)] encz (bks l l.length) (BackR S pc s l) w0:=by
 intro ly J Jx W E hRd hJ hJx hyield h0
 refine (w_G1 (.func (.yield ly) #[] #[]) pc W (fun A=>∃X,Hst W X A X A∧(J (bks l l.length) X A∨∃pre,Jx pre X A)) ?_).mono (fun e A h=>⟨⟨_,h.1⟩,h.2⟩)
 unfold m_G1
 refine ⟨s,(hB.pure E).cell0,fun x A=>∃(i:Nat) (pre:List Opz),x=(i:Int) - 1∧i≤l.length∧pre++bks l i=bks l l.length∧Hst W None A None A∧J pre None A,fun x _=>(x+1).toNat,⟨l.length,[],by rw [hL,jBZ hn],Nat.le_refl _,rfl,Hst.start W,h0⟩,?_⟩
 rintro _ A ⟨i,pre,rfl,hi,hpre,hA,hJA⟩
 unfold m_G1_l1
 have hR:=hRd _ _ _ hJA
 refine ⟨fun hc=>?_,fun hc=>?_⟩
 ·have hc:=of_decide_eq_true hc
  obtain ⟨k,rfl⟩:∃k,i=k+1:=⟨i - 1,by omega⟩
  have hk:k<l.length:=by omega
  rw [show ((k+1:Nat):Int) - 1=(k:Int) by omega]
  obtain ⟨a,hat,_,hrow⟩:=hR.1.nth hk
  refine ⟨s,hR.2.cell0,a,hat,_,_,_,_,_,hrow,ly,rfl,?_⟩
  rw [uV hk] at hpre
  refine (hyield pre (opz k l[k]) _ A hJA hA ⟨bks l k,hpre.symm⟩).mono ?_
  rintro e A' (⟨rfl,hkk,hJ'⟩ | ⟨rfl,hkk,hJ'⟩)
  ·refine ⟨_,rfl,Br.f rfl ?_⟩
   rw [jBZ (show k≤1000000 by omega)]
   exact ⟨⟨k,pre++[opz k l[k]],rfl,by omega,by rw [← hpre];simp,hA.again hkk,hJ'⟩,by show ((k:Int) - 1+1).toNat<((k:Int)+1).toNat;omega⟩
  ·exact ⟨_,rfl,Br.t rfl ⟨_,hA.again hkk,.inr ⟨_,hJ'⟩⟩⟩
 ·have hc:i=0:=by have:=of_decide_eq_false hc;omega
  subst hc
  rw [bks,List.append_nil] at hpre
  exact ⟨_,hA,.inl (hpre▸hJA)⟩
theorem c_Back (s:Sl) (w0:World):Calls prog 22 #[s.v] w0 (fun e w'=>∃r:Value,e=.returned r∧∃p,r=.func (.func 37) #[] #[.pointer (some p)]∧Box w' p [s.v] 23∧Pure w0 w'∧w0.heap.size≤p.block):=by
 refine w_L3 s w0 (fun r w'=>∃p,r=.func (.func 37) #[] #[.pointer (some p)]∧Box w' p [s.v] 23∧Pure w0 w'∧w0.heap.size≤p.block) ?_;unfold m_L3;intro p1 w1 n1;exact ⟨p1,rfl,Box.of_new n1,Ext.new n1,by have:=n1.at_size;omega⟩
def brl (p:List Bool):List (List Value):=p.map fun b=>[.bool b]
theorem jAY {w:World} {e:TypeId} {s:Sl} {rs:List (List Value)} (h:Rws w e 1 s rs) {t:Int} (h0:0≤t) (ht:t<rs.length) (v:Value):∃a,At s t 1 a∧s.blk a.block∧zS w a∧Rws (w.setCell a v) e 1 s (rs.set t.toNat [v])∧Ext s.blk w (w.setCell a v):=by
 obtain ⟨a,hat,hw,hst⟩:=h.set (i:=t.toNat) (by omega) (r:=[v]) rfl (k:=t) (by omega);obtain ⟨a',h1,_,hblk⟩:=h.at h0 (by omega);have jCS:a'=a:=by
  obtain ⟨_,_,b1,hb1,rfl⟩:=h1;obtain ⟨_,_,b2,hb2,rfl⟩:=hat;rw [hb1] at hb2;cases hb2;rfl
 subst jCS;have h00:a'.add 0=a':=by simp [Addr.add]
 obtain ⟨r1,r2⟩:=hst (w.setCell a' v) (by show _=w.setCell (a'.add 0) v;rw [h00]);exact ⟨a',hat,hblk,by have:=hw 0 (by omega);rwa [h00] at this,r1,r2⟩
theorem jBN (p:List Bool):(brl p).length=p.length:=by simp [brl]
theorem gY {w:World} {e:TypeId} {s:Sl} {p:List Bool} (h:Rws w e 1 s (brl p)) {t:Int} (h0:0≤t) (ht:t<p.length):∃a,At s t 1 a∧s.blk a.block∧w.cell? a=some (.bool (Sp.bit p t.toNat)):=by
 obtain ⟨a,h1,h2,h3⟩:=h.at h0 (by rw [jBN];omega);refine ⟨a,h1,h3,?_⟩;have:(brl p)[t.toNat]'(by rw [jBN];omega)=[Value.bool (Sp.bit p t.toNat)]:=by
  rw [Sp.bit_lt (by omega)];simp [brl]
 rw [this] at h2;exact qP h2
theorem jBM {w:World} {e:TypeId} {s:Sl} {p:List Bool} (h:Rws w e 1 s (brl p)) {t:Int} (h0:0≤t) (ht:t<p.length):∃a,At s t 1 a∧s.blk a.block∧zS w a∧Rws (w.setCell a (.bool true)) e 1 s (brl (p.set t.toNat true))∧Ext s.blk w (w.setCell a (.bool true)):=by
 obtain ⟨a,h1,h2,h3,h4,h5⟩:=jAY h h0 (by rw [jBN];omega) (.bool true);exact ⟨a,h1,h2,h3,by rw [show brl (p.set t.toNat true)=(brl p).set t.toNat [.bool true] by simp [brl,List.map_set]];exact h4,h5⟩
theorem jFB (n:Nat):List.replicate n [Value.bool false]=brl (List.replicate n false):=by simp [brl]
theorem jEH {P:Program} {t e:TypeId} (T:SlType P t e 1 1) (hz:∀i z,P.info? e=some i→i.zero=some z→z.cells=[Value.bool false].toArray) (n:Nat) (hn:n≤1000000) (w:World) :
  ∃s w',(Instr.makeSlice t (.int .i64 (n:Int)) (.int .i64 (n:Int))).run P w=.ok s.v w'∧s.len=n∧Rws w' e 1 s (brl (List.replicate n false))∧Pure w w'∧∀b,s.blk b→w.heap.size≤b:=by
 obtain ⟨w',h1,h2,h3⟩:=Rws.make T hz (k:=.i64) (k':=.i64) (n:=n) (by omega) (by simp [maxLen];omega) w
 rw [jFB] at h2
 exact ⟨_,w',h1,rfl,h2,h3,fun b ⟨a,ha,e⟩=>by cases ha;subst e;exact Nat.le_refl _⟩
theorem zb {i:TypeInfo} {z:Value} (h:prog.info? 4=some i) (hz:i.zero=some z):z.cells=[Value.bool false].toArray:=by
 have h1:prog.info? 4=some t4:=by kernel_rfl
 rw [h1] at h;cases h;have h2:t4.zero=some (.bool false):=by kernel_rfl
 rw [h2] at hz;cases hz;rfl
structure TrS (S:NP) (w0 A:World) (Y:NP) (s:Sl) (l:List Sp.Op) (pc p1:Addr) (s1:Sl) (p:List Bool):Prop where
 lst:Lst S A 5 s (l.map zU)
 bc:Box A pc [s.v] 23
 b1:Box A p1 [s1.v] 63
 rows:Rws A 4 1 s1 (brl p)
 pure:Pure w0 A
 oS:∀b,S b→b<w0.heap.size
 oc:w0.heap.size≤pc.block∧¬ Y pc.block∧¬ s1.blk pc.block
 o1:w0.heap.size≤p1.block∧¬ Y p1.block∧¬ s1.blk p1.block
 os:∀b,s1.blk b→w0.heap.size≤b∧¬ Y b
 oY:∀b,Y b→w0.heap.size≤b
section
variable {S:NP} {w0 A A':World} {Y Y':NP} {s s1:Sl} {l:List Sp.Op} {pc p1:Addr} {p:List Bool}
theorem TrS.hst {wb:World} (h:TrS S w0 A Y s l pc p1 s1 p) (hb:w0.heap.size≤wb.heap.size) (hs:Hst wb Y A Y' A'):TrS S w0 A' Y' s l pc p1 s1 p:=by
 have xc:=hs.disj (G:=(·=pc.block)) (fun b e=>by subst e;exact ⟨h.bc.lt,h.oc.2.1⟩) _ rfl;have x1:=hs.disj (G:=(·=p1.block)) (fun b e=>by subst e;exact ⟨h.b1.lt,h.o1.2.1⟩) _ rfl;have xs:=hs.disj (G:=s1.blk) (fun b hb=>⟨h.rows.lt hb,(h.os b hb).2⟩);have oY':∀b,Y' b→w0.heap.size≤b:=fun b hb'=>by have:=hs.here.old b hb';omega
 have hEp:Pure w0 A':=h.pure.trans' hs.ext (fun b hb hy=>by have:=oY' b hy;omega);exact ⟨h.lst.ext hs.ext (fun b hb hy=>by have:=h.oS b hb;have:=oY' b hy;omega),h.bc.ext hs.ext xc,h.b1.ext hs.ext x1,h.rows.ext hs.ext xs,hEp,h.oS,⟨h.oc.1,xc,h.oc.2.2⟩,⟨h.o1.1,x1,h.o1.2.2⟩,fun b hb=>⟨(h.os b hb).1,xs b hb⟩,oY'⟩
theorem TrS.round {wb:World} {H2:NP} (h:TrS S w0 A Y s l pc p1 s1 p) (hc:pc.block<wb.heap.size) (h1:p1.block<wb.heap.size) (hs1:∀b,s1.blk b→b<wb.heap.size) (hb:w0.heap.size≤wb.heap.size) (hs:Hst wb H2 A H2 A):TrS S w0 A H2 s l pc p1 s1 p :=
 ⟨h.lst,h.bc,h.b1,h.rows,h.pure,h.oS,⟨h.oc.1,fun hh=>by have:=hs.old _ hh;omega,h.oc.2.2⟩,⟨h.o1.1,fun hh=>by have:=hs.old _ hh;omega,h.o1.2.2⟩,fun b hb'=>⟨(h.os b hb').1,fun hh=>by have:=hs.old _ hh;have:=hs1 b hb';omega⟩,fun b hh=>by have:=hs.old _ hh;omega⟩
theorem TrS.back {Y2:NP} (h:TrS S w0 A Y s l pc p1 s1 p) (hc:¬ Y2 pc.block) (h1:¬ Y2 p1.block) (hs1:∀b,s1.blk b→¬ Y2 b) (hY:∀b,Y2 b→w0.heap.size≤b):TrS S w0 A Y2 s l pc p1 s1 p :=
 ⟨h.lst,h.bc,h.b1,h.rows,h.pure,h.oS,⟨h.oc.1,hc,h.oc.2.2⟩,⟨h.o1.1,h1,h.o1.2.2⟩,fun b hb=>⟨(h.os b hb).1,hs1 b hb⟩,hY⟩
theorem TrS.put (h:TrS S w0 A Y s l pc p1 s1 p) {t:Int} (h0:0≤t) (ht:t<p.length):∃a,At s1 t 1 a∧zS A a∧¬ Y a.block∧s1.blk a.block∧TrS S w0 (A.setCell a (.bool true)) Y s l pc p1 s1 (p.set t.toNat true)∧Ext s1.blk A (A.setCell a (.bool true)):=by
 obtain ⟨a,h1,h2,h3,h4,h5⟩:=jBM h.rows h0 ht;exact ⟨a,h1,h3,(h.os _ h2).2,h2,⟨h.lst.ext h5 (fun b hb hh=>by have:=h.oS b hb;have:=(h.os b hh).1;omega),h.bc.ext h5 (fun hh=>h.oc.2.2 hh),h.b1.ext h5 (fun hh=>h.o1.2.2 hh),h4,h.pure.trans' h5 (fun b hb hh=>by have:=(h.os b hh).1;omega),h.oS,h.oc,h.o1,h.os,h.oY⟩,h5⟩
end
structure OutS (S:NP) (w0 A:World) (Y:NP) (s:Sl) (l:List Sp.Op) (pc p1:Addr) (s1:Sl) (m:Nat) (M:List (Int×Int)) (j:Nat) (out:Sl):Prop where
 tr:TrS S w0 A Y s l pc p1 s1 (Sp.zV l)
 mp:IMap (fun v:Int=>.int .i64 v) A m M
 look:∀a:Int,SE.look M a=if 0≤a∧a<j∧Sp.bit (Sp.zV l) a.toNat=true then some (Sp.num (Sp.zV l) a.toNat:Int) else none
 outr:Rws A 49 5 out ((Sp.qS l (Sp.zV l) j).map zU)
 om:w0.heap.size≤m∧¬ Y m∧m≠pc.block∧m≠p1.block∧¬ s1.blk m∧¬ out.blk m
 oo:∀b,out.blk b→w0.heap.size≤b∧¬ Y b∧b≠pc.block∧b≠p1.block∧¬ s1.blk b
theorem OutS.hst {S:NP} {w0 A A':World} {Y Y':NP} {s s1 out:Sl} {l:List Sp.Op} {pc p1:Addr} {m j:Nat} {M:List (Int×Int)} (h:OutS S w0 A Y s l pc p1 s1 m M j out) (hs:Hst w0 Y A Y' A'):OutS S w0 A' Y' s l pc p1 s1 m M j out:=by
 have xm:=hs.disj (G:=(·=m)) (fun b e=>by subst e;exact ⟨h.mp.lt,h.om.2.1⟩) _ rfl;have xo:=hs.disj (G:=out.blk) (fun b hb=>⟨h.outr.lt hb,(h.oo b hb).2.1⟩);exact ⟨h.tr.hst (Nat.le_refl _) hs,h.mp.ext hs.ext xm,h.look,h.outr.ext hs.ext xo,⟨h.om.1,xm,h.om.2.2⟩,fun b hb=>⟨(h.oo b hb).1,xo b hb,(h.oo b hb).2.2⟩⟩
theorem TrS.ext {S F:NP} {w0 A A':World} {Y:NP} {s s1:Sl} {l:List Sp.Op} {pc p1:Addr} {p:List Bool} (h:TrS S w0 A Y s l pc p1 s1 p) (E:Ext F A A') (hF:∀b,F b→w0.heap.size≤b∧b≠pc.block∧b≠p1.block∧¬ s1.blk b):TrS S w0 A' Y s l pc p1 s1 p :=
 ⟨h.lst.ext E (fun b hb hf=>by have:=h.oS b hb;have:=(hF b hf).1;omega),h.bc.ext E (fun hf=>(hF _ hf).2.1 rfl),h.b1.ext E (fun hf=>(hF _ hf).2.2.1 rfl),h.rows.ext E (fun b hb hf=>(hF b hf).2.2.2 hb),h.pure.trans' E (fun b hb hf=>by have:=(hF b hf).1;omega),h.oS,h.oc,h.o1,h.os,h.oY⟩
theorem jFU (c:Int):s_F c=(Sp.xE c,Sp.xD c):=rfl
set_option maxHeartbeats 4000000 in
theorem tC {S:NP} (s:Sl) (l:List Sp.Op) (w0:World) (hl:Lst S w0 5 s (l.map zU)) (hS:∀b,S b→b<w0.heap.size) (hn:l.length≤1000) :
  Calls prog 8 #[s.v] w0 (fun e w'=>∃r:Sl,e=.returned r.v∧RetO w0 49 5 ((Sp.vB l).map zU) r w'):=by
 refine w_K s w0 (fun r w'=>RetO w0 49 5 ((Sp.vB l).map zU) r w') ?_
 unfold m_K
 have hll:s.len=l.length:=by rw [hl.len];simp
 have hnil:∀b,¬ Sl.nil.blk b:=fun b hb=>by obtain ⟨a,h,_⟩:=hb;cases h
 refine ⟨fun h=>?_,fun h=>?_⟩
 ·have h:l.length=0:=by have:=beq_iff_eq.1 h;omega
  have:l=[]:=List.length_eq_zero_iff.1 h
  subst this
  exact ⟨Rws.nil _ _ _,fun b hb=>(hnil b hb).elim,Ext.refl _⟩
 have hne:l.length≠0:=by have:=beq_eq_false_iff_ne.1 h;omega
 rw [hll]
 obtain ⟨s1,w1,hr1,hs1,R1,E1,f1⟩:=jEH jBT (fun _ _=>zb) l.length (by omega) w0
 refine ⟨s1,w1,hr1,E1.keptP,?_⟩
 intro p1 w2 n2
 have E2:Pure w1 w2:=Ext.new n2
 have B2:=Box.of_new n2
 have hp1:=n2.at_size
 have z1:=E1.size
 have ls1:∀b,s1.blk b→b<w1.heap.size:=fun b hb=>R1.lt hb
 refine ⟨B2.canW0 (by simp),id,?_⟩
 rintro w3 rfl
 have E3:=Ext.setCell (w:=w2) p1 s1.v
 have B3:=B2.set0 (v:=s1.v)
 refine ⟨s1,B3.cell0,?_⟩
 rw [show IntKind.i64.wrap ((l.length:Int) - 1)=((l.length - 1:Nat):Int) by rw [IntWalk.i64_in _ (by omega)];omega]
 have R3:=(R1.pure E2).ext E3 (fun b hb e=>by have:=ls1 b hb;omega)
 obtain ⟨a1,ha1,hb1,hw1,R4,E4⟩:=jBM R3 (t:=((l.length - 1:Nat):Int)) (by omega) (by simp;omega)
 refine ⟨a1,ha1,hw1,id,?_⟩
 rintro w4 rfl
 have B4:=B3.ext E4 (fun hh=>by have:=ls1 _ hh;omega)
 have E04:Pure w0 ((w2.setCell p1 s1.v).setCell a1 (.bool true)):=((E1.trans E2).trans' E3 (fun b hb e=>by omega)).trans' E4 (fun b hb hh=>by have:=f1 b hh;omega)
 simp only [Int.toNat_natCast] at R4
 rw [show (List.replicate l.length false).set (l.length - 1) true=Sp.jAX l.length from rfl] at R4
 generalize (w2.setCell p1 s1.v).setCell a1 (.bool true)=w4 at *
 refine (c_Back s w4).mono ?_
 rintro _ w5 ⟨r,rfl,pc,rfl,Bc,E5,hpc⟩
 have z4:=E04.size
 have lb4:=B4.lt
 have lr4:∀b,s1.blk b→b<w4.heap.size:=fun b hb=>R4.lt hb
 refine ⟨_,rfl,E5.keptP,_,_,rfl,call37,bks l l.length,BackR S pc s l,jHS Bc hll (by omega),?_⟩
 have T5:TrS S w0 w5 None s l pc p1 s1 (Sp.jAX l.length):=⟨hl.pure (E04.trans E5),Bc,B4.pure E5,R4.pure E5,E04.trans E5,hS,⟨by omega,id,fun hh=>by have:=lr4 _ hh;omega⟩,⟨by omega,id,fun hh=>by have:=ls1 _ hh;omega⟩,fun b hb=>⟨f1 b hb,id⟩,fun b hb=>hb.elim⟩
 have l5c:=T5.bc.lt
 have l51:=T5.b1.lt
 have l5s:∀b,s1.blk b→b<w5.heap.size:=fun b hb=>T5.rows.lt hb
 have z5:=T5.pure.size
 refine ⟨fun pre Y A=>∃(i:Nat) (p:List Bool),i≤l.length∧pre++bks l i=bks l l.length∧p.length=l.length∧Sp.kC l i p=Sp.zV l∧TrS S w0 A Y s l pc p1 s1 p,⟨?_,?_,fun _ _ _ _ _ h=>h.elim,fun _ _ _ _ _ h=>h.elim⟩,⟨l.length,_,Nat.le_refl _,rfl,by simp [Sp.jAX],rfl,T5⟩,?_,?_⟩
 ·rintro pre Y A ⟨i,p,_,_,_,_,T⟩;exact ⟨T.lst,T.bc⟩
 ·rintro pre Y A Y' A' ⟨i,p,h1,h2,h3,h4,T⟩ hs
  exact ⟨i,p,h1,h2,h3,h4,T.hst (Nat.le_refl _) hs⟩
 ·-- a round
  rintro pre z Y w6 H2 A ⟨i,p,hi,hpre,hpl,hmk,T⟩ hY ⟨post,hpost⟩ hYl hsz hH2 w9 hs9
  obtain ⟨k,rfl,hk,rfl⟩:∃k,i=k+1∧∃hk:k<l.length,z=opz k l[k]:=by
   cases i with
   | zero=>rw [bks,List.append_nil] at hpre;rw [← hpre] at hpost;simp at hpost
   | succ k =>
    have hk:k<l.length:=by omega
    rw [uV hk,hpost] at hpre
    have:=List.append_cancel_left hpre
    exact ⟨k,rfl,hk,by cases this;rfl⟩
  have hpre2:(pre++[opz k l[k]])++bks l k=bks l l.length:=by rw [← hpre,uV hk];simp
  rw [Sp.kC,List.getElem?_eq_getElem hk] at hmk
  simp only at hmk
  have T9:=(T.round (by omega) (by omega) (fun b hb=>by have:=l5s b hb;omega) (by omega) hH2).hst (by omega) hs9
  have hoY:=T.oY
  have nY:∀{A':World},Ext (fun b=>w6.heap.size≤b∨s1.blk b) A A'→Kept Y A A':=fun E=>E.kept (fun b hb hh=>by
   rcases hh with hh | hh
   ·have:=hYl b hb;omega
   ·exact (T.os b hh).2 hb)
  have xh:∀{H H':NP} {w w':World},Ext (fun b=>w6.heap.size≤b∨s1.blk b) A w→Hst w6 H w H' w'→Ext (fun b=>w6.heap.size≤b∨s1.blk b) A w':=fun E hs=>E.trans (hs.ext.mono (fun b _ hb=>.inl (hs.here.old b hb)))
  have xs1:∀{w w':World},Ext (fun b=>w6.heap.size≤b∨s1.blk b) A w→Ext s1.blk w w'→Ext (fun b=>w6.heap.size≤b∨s1.blk b) A w':=fun E X=>E.trans (X.mono (fun b _ hb=>.inr hb))
  have X9:=xh (Ext.refl A) hs9
  have fin:∀{H5:NP} {w12:World} {p':List Bool},TrS S w0 w12 H5 s l pc p1 s1 p'→p'.length=l.length→Sp.kC l k p'=Sp.zV l→Ext (fun b=>w6.heap.size≤b∨s1.blk b) A w12→Kept Y A w12∧∃(i:Nat) (p:List Bool),i≤l.length∧(pre++[opz k l[k]])++bks l i=bks l l.length∧p.length=l.length∧Sp.kC l i p=Sp.zV l∧TrS S w0 w12 Y s l pc p1 s1 p:=fun T' h1 h2 X =>
   ⟨nY X,k,_,by omega,hpre2,h1,h2,T'.back T.oc.2.1 T.o1.2.1 (fun b hb=>(T.os b hb).2) T.oY⟩
  have pb:∀(q:List Bool) (on:Bool) (a:Int),Sp.xZ q k on a=if ((on && decide (a≥0)) && decide (a<(k:Int)))=true then q.set a.toNat true else q:=fun q on a=>by
   unfold Sp.xZ;by_cases h:on=true∧0≤a∧a<k
   ·rw [if_pos h,if_pos (by rw [h.1,decide_eq_true h.2.1,decide_eq_true h.2.2];rfl)]
   ·rw [if_neg h,if_neg (fun hh=>h (by rw [Bool.and_eq_true,Bool.and_eq_true,decide_eq_true_eq,decide_eq_true_eq] at hh;exact ⟨hh.1.1,hh.1.2,hh.2⟩))]
  have hj2 : ∀ (q : List Bool) (H : NP) (w : World), TrS S w0 w H s l pc p1 s1 q → q.length = l.length → Sp.bit q k = Sp.bit p k → Sp.kC l k (Sp.xZ q k (Sp.bit p k && Sp.xD l[k].code) l[k].b) = Sp.zV l → Ext (fun b => w6.heap.size ≤ b ∨ s1.blk b) A w →
    m_K_j2 p1 (fun pre Y A=>∃(i:Nat) (p:List Bool),i≤l.length∧pre++bks l i=bks l l.length∧p.length=l.length∧Sp.kC l i p=Sp.zV l∧TrS S w0 A Y s l pc p1 s1 p) pre (opz k l[k]) Y A w6 H w (fun r w'=>RetO w0 49 5 ((Sp.vB l).map zU) r w'):=fun q H w Tq hql hqb hqm X=>by
   unfold m_K_j2
   obtain ⟨a2,g1,_,g3⟩:=gY Tq.rows (t:=(k:Int)) (by omega) (by omega)
   rw [Int.toNat_natCast,hqb] at g3
   refine ⟨s1,Tq.b1.cell0,a2,g1,_,g3,?_⟩
   rintro y rfl
   rw [pb] at hqm
   rw [show (opz k l[k]).2.1=l[k].code from rfl,show (opz k l[k]).2.2.2.1=l[k].b from rfl,show (opz k l[k]).1=(k:Int) from rfl,jFU]
   refine ⟨fun hy=>fun H5 w12 hs=>?_,fun hy=>fun H5 w12 hs=>?_⟩
   ·rw [if_pos hy] at hqm
    have T12:=Tq.hst (by omega) hs
    rw [Bool.and_eq_true,Bool.and_eq_true,decide_eq_true_eq,decide_eq_true_eq] at hy
    obtain ⟨a3,e1,e2,e3,_,T13,X13⟩:=T12.put hy.1.2 (by omega)
    refine ⟨s1,T12.b1.cell0,a3,e1,e2,e3,?_⟩
    rintro w13 rfl
    exact fin T13 (by rw [List.length_set];exact hql) hqm (xs1 (xh X hs) X13)
   ·rw [if_neg (by rw [hy];decide)] at hqm
    exact fin (Tq.hst (by omega) hs) hql hqm (xh X hs)
  obtain ⟨a5,g1,_,g3⟩:=gY T9.rows (t:=(k:Int)) (by omega) (by omega)
  rw [Int.toNat_natCast] at g3
  refine ⟨s1,T9.b1.cell0,a5,g1,_,g3,?_⟩
  rintro y rfl
  intro H8 w17 hs17
  have T17:=T9.hst (by omega) hs17
  have X17:=xh X9 hs17
  unfold m_K_j1
  unfold Sp.oO at hmk
  have hab:Sp.bit (Sp.xZ p k (Sp.bit p k && Sp.xE l[k].code) l[k].a) k=Sp.bit p k:=Sp.uC (Nat.le_refl _)
  rw [pb p] at hmk hab
  rw [show (opz k l[k]).2.1=l[k].code from rfl,show (opz k l[k]).2.2.1=l[k].a from rfl,show (opz k l[k]).1=(k:Int) from rfl,show (decide (l[k].code≥4) && decide (l[k].code≤11))=Sp.xE l[k].code from rfl]
  refine ⟨fun hy=>?_,fun hy=>?_⟩
  ·rw [if_pos hy] at hmk hab
   rw [Bool.and_eq_true,Bool.and_eq_true,decide_eq_true_eq,decide_eq_true_eq] at hy
   obtain ⟨a4,e1,e2,e3,_,T14,X14⟩:=T17.put hy.1.2 (by omega)
   refine ⟨s1,T17.b1.cell0,a4,e1,e2,e3,?_⟩
   rintro w14 rfl
   exact hj2 _ _ _ T14 (by rw [List.length_set];exact hpl) hab hmk (xs1 X17 X14)
  ·rw [if_neg (by rw [hy];decide)] at hmk hab
   exact hj2 _ _ _ T17 hpl hab hmk X17
 ·-- the way out
  rintro H9 w18 hs18 _ hk18 ⟨i,p,hi,hpre,hpl,hmk,T⟩ p3 w19 n19
  have hi0:i=0:=by
   cases i with
   | zero=>rfl
   | succ i=>rw [uV (by omega)] at hpre;exact absurd (congrArg List.length hpre) (by simp)
  subst hi0
  rw [Sp.kC] at hmk
  subst hmk
  have E19:Pure w18 w19:=Ext.new n19
  have hp3:=n19.at_size
  have T19:=T.ext (F:=fun _=>False) E19.pure (fun b hb=>hb.elim)
  have z18:=T.pure.size
  have c1:=T.bc.lt
  have c2:=T.b1.lt
  have c3:∀b,s1.blk b→b<w18.heap.size:=fun b hb=>T.rows.lt hb
  have c4:=hs18.lt
  have O19:OutS S w0 w19 H9 s l pc p1 s1 p3.block [] 0 Sl.nil:=⟨T19,IMap.of_new n19,fun a=>by rw [if_neg (by omega)];rfl,Rws.nil _ _ _,⟨by omega,fun hh=>by have:=c4 _ hh;omega,by omega,by omega,fun hh=>by have:=c3 _ hh;omega,fun hh=>hnil _ hh⟩,fun b hb=>(hnil b hb).elim⟩
  refine ⟨fun out x H A=>∃(j:Nat) (M:List (Int×Int)),x=j∧j≤l.length∧OutS S w0 A H s l pc p1 s1 p3.block M j out,fun _ x _=>((l.length:Int) - x).toNat,⟨0,[],rfl,Nat.zero_le _,O19⟩,?_⟩
  rintro out _ Hl wl hsl ⟨j,M,rfl,hj,O⟩
  unfold m_K_l3
  refine ⟨fun h=>?_,fun h=>fun w34 hs34=>?_⟩
  ·have hlt:=zR hll h
   obtain ⟨a6,hat6,_,hrow⟩:=O.tr.lst.nth hlt
   refine ⟨a6,hat6,l[j].code,l[j].a,l[j].b,l[j].num,l[j].text,hrow,?_⟩
   intro H10 w21 hs21
   have O21:=O.hst hs21
   have hpl:=Sp.jBW l
   obtain ⟨a7,g1,_,g3⟩:=gY O21.tr.rows (t:=(j:Int)) (by omega) (by omega)
   rw [Int.toNat_natCast] at g3
   refine ⟨s1,O21.tr.b1.cell0,a7,g1,_,g3,fun hb=>?_,fun hb=>?_⟩
   ·have hb:Sp.bit (Sp.zV l) j=false:=by simpa using hb
    rw [zE hlt (by omega)]
    refine ⟨⟨j+1,M,rfl,hlt,O21.tr,O21.mp,fun a=>?_,by rw [Sp.uE hb];exact O21.outr,O21.om,O21.oo⟩,kN hlt⟩
    rw [O21.look a]
    by_cases e:a=(j:Int)
    ·subst e;rw [if_neg (by omega),if_neg (by rw [Int.toNat_natCast,hb];simp)]
    ·by_cases hh:0≤a∧a<(j:Int)∧Sp.bit (Sp.zV l) a.toNat=true
     ·rw [if_pos hh,if_pos ⟨hh.1,by omega,hh.2.2⟩]
     ·rw [if_neg hh,if_neg (fun h2=>hh ⟨h2.1,by omega,h2.2.2⟩)]
   ·have hb:Sp.bit (Sp.zV l) j=true:=by simpa using hb
    intro w22 hs22
    have O22:=O21.hst hs22
    have hcl:=Sp.vW l hlt hb
    have rn:∀(on:Bool) (a:Int),(on=true→0≤a→a<(j:Int)→Sp.bit (Sp.zV l) a.toNat=true)→∀(H:NP) (w:World),OutS S w0 w H s l pc p1 s1 p3.block M j out→∃v:Int,∃ok:Bool,(Instr.lookup 69 (.map (some p3.block)) (.int .i64 a) true).run prog w=.ok (.tuple #[.int .i64 v,.bool ok]) w∧cond (on && ok) v a=Sp.ren (Sp.zV l) j on a:=fun on a hc H w Ow=>by
     rcases Ow.mp.get (P:=prog) (T:=69) underlying69 underlying3 (zeroValue3 _) a true with ⟨q1,q2⟩ | ⟨v,q1,q2⟩
     ·refine ⟨0,false,q2,?_⟩;rw [Ow.look a] at q1;unfold Sp.ren;rw [if_neg (fun hh=>?_),Bool.and_false];rfl;rw [if_pos ⟨hh.2.1,hh.2.2,hc hh.1 hh.2.1 hh.2.2⟩] at q1;cases q1
     ·refine ⟨v,true,q2,?_⟩;rw [Ow.look a] at q1;by_cases hh:0≤a∧a<(j:Int)∧Sp.bit (Sp.zV l) a.toNat=true
      ·rw [if_pos hh] at q1;cases q1;unfold Sp.ren;cases on with
       | false=>simp
       | true=>rw [if_pos ⟨rfl,hh.1,hh.2.1⟩];rfl
      ·rw [if_neg hh] at q1;cases q1
    obtain ⟨v10,ok1,r1,e1⟩:=rn (Sp.xE l[j].code) l[j].a (hcl.1) _ _ O22
    refine ⟨v10,ok1,r1,?_⟩
    intro H12 w25 hs25
    have O25:=O22.hst hs25
    obtain ⟨v11,ok2,r2,e2⟩:=rn (Sp.xD l[j].code) l[j].b (hcl.2) _ _ O25
    refine ⟨v11,ok2,r2,?_⟩
    intro H14 w29 hs29
    have O29:=O25.hst hs29
    have hol:out.len=Sp.num (Sp.zV l) j:=by rw [O29.outr.len,List.length_map,Sp.qF (by omega)]
    have hnone:SE.look M (j:Int)=none:=by rw [O29.look,if_neg (by omega)]
    obtain ⟨w31,r3,M31,X31⟩:=O29.mp.put (P:=prog) (T:=69) underlying69 underlying3 hnone (out.len:Int)
    have c5:=hs29.here
    refine ⟨w31,r3,X31.kept (fun b hb e=>O29.om.2.1 (e▸hb)),?_⟩
    intro p5 w32 n32
    have E32:Pure w31 w32:=Ext.new n32
    have hp5:=n32.at_size
    have R32:=(O29.outr.ext X31 (fun b hb e=>O29.om.2.2.2.2.2 (e▸hb))).pure E32
    have hle:=Sp.oJ l (Sp.zV l) (show j≤l.length by omega)
    obtain ⟨s2,w33,r4,R33,X33,o33⟩:=R32.append (P:=prog) (ty:=23) (c:=1) jDW (r:=zU (Sp.oF (Sp.zV l) j l[j])) (by
     have hrw:=(Box.of_new n32).row;rw [show (s_F l[j].code).2=Sp.xD l[j].code from rfl,show (decide (l[j].code≥4) && decide (l[j].code≤11))=Sp.xE l[j].code from rfl,e1,e2] at hrw;exact hrw) rfl rfl (by rw [List.length_map];omega) (by rw [List.length_map];simp [maxLen];omega)
    refine ⟨s2,w33,r4,X33.kept (fun b hb hh=>(O29.oo b hh).2.1 hb),?_⟩
    rw [zE hlt (by omega)]
    have l29:=O29.mp.lt
    have z31:=X31.size
    have z32:=E32.size
    have q1:=O29.tr.bc.lt
    have q2:=O29.tr.b1.lt
    have q3:∀b,s1.blk b→b<w29.heap.size:=fun b hb=>O29.tr.rows.lt hb
    have q4:∀b,H14 b→b<w29.heap.size:=fun b hb=>c5.lt b hb
    have q5:=O29.tr.pure.size
    refine ⟨⟨j+1,_,rfl,hlt,?_,(M31.pure E32).ext X33 (fun hh=>O29.om.2.2.2.2.2 hh),fun a=>?_,?_,⟨O29.om.1,O29.om.2.1,O29.om.2.2.1,O29.om.2.2.2.1,O29.om.2.2.2.2.1,fun hh=>?_⟩,fun b hb'=>?_⟩,kN hlt⟩
    ·exact ((O29.tr.ext X31 (fun b hb=>by subst hb;exact ⟨O29.om.1,O29.om.2.2.1,O29.om.2.2.2.1,O29.om.2.2.2.2.1⟩)).ext (F:=fun _=>False) E32.pure (fun b hb=>hb.elim)).ext X33 (fun b hb=>⟨(O29.oo b hb).1,(O29.oo b hb).2.2⟩)
    ·rw [jEL (qH.1 hnone),O29.look a,hol]
     by_cases e:(j:Int)=a
     ·subst e;rw [if_pos rfl,if_pos ⟨by omega,by omega,by rw [Int.toNat_natCast];exact hb⟩,Int.toNat_natCast]
     ·rw [if_neg e]
      by_cases hh:0≤a∧a<(j:Int)∧Sp.bit (Sp.zV l) a.toNat=true
      ·rw [if_pos hh,if_pos ⟨hh.1,by omega,hh.2.2⟩]
      ·rw [if_neg hh,if_neg (fun h2=>hh ⟨h2.1,by omega,h2.2.2⟩)]
    ·rw [Sp.uD hlt hb,List.map_append];exact R33
    ·rcases o33 _ hh with h1 | h1
     ·exact O29.om.2.2.2.2.2 h1
     ·omega
    ·rcases o33 b hb' with h1 | h1
     ·exact O29.oo b h1
     ·exact ⟨by omega,fun hh=>by have:=q4 b hh;omega,by omega,by omega,fun hh=>by have:=q3 b hh;omega⟩
  ·have hjl:=zY hll hj h
   subst hjl
   have O34:=O.hst hs34
   exact ⟨O34.outr,fun b hb=>(O34.oo b hb).1,O34.tr.pure⟩
end Go.Proofs
end
section
open Go Go.SE
namespace Go.Proofs
attribute [local irreducible] Calls
abbrev DoR (q:Addr) (F:NP) (w:World) (R:Sp.Res) (r1 r2:Int) (w':World):Prop:=(r1,r2)=(R.1,R.2.1)∧∃F',kD w' q R.2.2 F'∧Ext F w w'∧∀b,F' b→F b∨w.heap.size≤b
theorem DoR.pre {q:Addr} {F:NP} {w w1 w':World} {R:Sp.Res} {r1 r2:Int} (E:Pure w w1) (h:DoR q F w1 R r1 r2 w'):DoR q F w R r1 r2 w':=by
 obtain ⟨h1,F',h2,h3,h4⟩:=h;exact ⟨h1,F',h2,E.pure.trans h3,fun b hb=>(h4 b hb).imp_right (fun h=>by have:=E.size;omega)⟩
section
variable {Sg Sm:NP} (q:Addr) (sg sm:Sl) (G M:List Int) (w0:World) {L:Sp.Pool} {F:NP} (hP:kD w0 q L F) (hok:Sp.Ok L)
 (hg:Lst Sg w0 1 sg (tmr G)) (hm:Lst Sm w0 1 sm (tmr M))
include hP hok hg hm
end
end Go.Proofs
end
section
open Go Go.SE
namespace Go.Proofs
open Try
attribute [local irreducible] Calls
section
variable {Sg S0:NP} (q:Addr) (sg sl:Sl) (G:List Int) (l:List Sp.Op) (w0:World) {L:Sp.Pool} {F:NP} (hW:Sp.Wf L) (hP:kD w0 q L F)
 (hg:Lst Sg w0 1 sg (tmr G)) (hl:Lst S0 w0 5 sl (l.map zU)) (hSg:∀b,Sg b→b<w0.heap.size∧¬ F b) (hS0:∀b,S0 b→b<w0.heap.size∧¬ F b) (hn:l.length≤1000)
include hW hP hg hl hSg hS0 hn
end
theorem lL {S1 S2:NP} (s1 s2:Sl) (l:List Sp.Op) (w0:World) (h1:Lst S1 w0 5 s1 (l.map zU)) (h2:Lst S2 w0 5 s2 (l.map zU)) (hn:l.length≤1000000) :
  Calls prog 9 #[s1.v,s2.v] w0 (fun e w'=>∃r:Bool,e=.returned (.bool r)∧(r=true∧Pure w0 w')):=by
 refine w_D1 _ _ w0 (fun r w'=>r=true∧Pure w0 w') ?_
 unfold m_D1
 have l1:s1.len=l.length:=by rw [h1.len];simp
 have l2:s2.len=l.length:=by rw [h2.len];simp
 refine Br.f (by rw [l1,l2];simp) ?_
 refine ⟨fun i _ w=>∃j:Nat,i=j∧j≤l.length∧Pure w0 w,fun i _=>((l.length:Int) - i).toNat,⟨0,rfl,Nat.zero_le _,Ext.refl _⟩,?_⟩
 rintro _ H w _ ⟨j,rfl,hj,E⟩
 unfold m_D1_l1
 refine ⟨fun h=>?_,fun h=>⟨rfl,E⟩⟩
 have hlt:=zR l1 h
 obtain ⟨a,hat,_,hrow⟩:=h1.nth hlt
 obtain ⟨b,hbt,_,hrow2⟩:=h2.nth hlt
 refine ⟨a,hat,fun w1 hs1=>?_⟩
 have E1:=E.hst hs1
 refine ⟨_,_,_,_,_,E1.row hrow (fun h=>h),b,hbt,_,_,_,_,_,E1.row hrow2 (fun h=>h),?_⟩
 refine Br.f (by simp) ?_
 rw [zE hlt (by omega)]
 exact ⟨⟨j+1,rfl,hlt,E1⟩,kN hlt⟩
theorem jEB (q:List Bool) (k:Nat) (on:Bool) (a:Int):Sp.xZ q k on a=cond ((on && decide (a≥0)) && decide (a<(k:Int))) (q.set a.toNat true) q:=by
 unfold Sp.xZ;by_cases h:on=true∧0≤a∧a<k
 ·rw [if_pos h,h.1,decide_eq_true (show a≥0 from h.2.1),decide_eq_true h.2.2];rfl
 ·rw [if_neg h];cases hh:((on && decide (a≥0)) && decide (a<(k:Int))) with
  | false=>rfl
  | true=>rw [Bool.and_eq_true,Bool.and_eq_true,decide_eq_true_eq,decide_eq_true_eq] at hh;exact absurd ⟨hh.1.1,hh.1.2,hh.2⟩ h
structure DrS (S:NP) (w0 A:World) (Y:NP) (s:Sl) (l:List Sp.Op) (s1:Sl) (p:List Bool):Prop where
 lst:Lst S A 5 s (l.map zU)
 rows:Rws A 4 1 s1 (brl p)
 pure:Pure w0 A
 oS:∀b,S b→b<w0.heap.size
 os:∀b,s1.blk b→w0.heap.size≤b∧¬ Y b
 oY:∀b,Y b→w0.heap.size≤b
section
variable {S:NP} {w0 A A':World} {Y Y':NP} {s s1:Sl} {l:List Sp.Op} {p:List Bool}
theorem DrS.hst (h:DrS S w0 A Y s l s1 p) (hs:Hst w0 Y A Y' A'):DrS S w0 A' Y' s l s1 p:=by
 have xs:=hs.disj (G:=s1.blk) (fun b hb=>⟨h.rows.lt hb,(h.os b hb).2⟩);have oY':∀b,Y' b→w0.heap.size≤b:=fun b hb'=>hs.here.old b hb';exact ⟨h.lst.ext hs.ext (fun b hb hy=>by have:=h.oS b hb;have:=oY' b hy;omega),h.rows.ext hs.ext xs,h.pure.trans' hs.ext (fun b hb hy=>by have:=oY' b hy;omega),h.oS,fun b hb=>⟨(h.os b hb).1,xs b hb⟩,oY'⟩
theorem DrS.put (h:DrS S w0 A Y s l s1 p) {t:Int} (h0:0≤t) (ht:t<p.length):∃a,At s1 t 1 a∧zS A a∧¬ Y a.block∧DrS S w0 (A.setCell a (.bool true)) Y s l s1 (p.set t.toNat true):=by
 obtain ⟨a,h1,h2,h3,h4,h5⟩:=jBM h.rows h0 ht;exact ⟨a,h1,h3,(h.os _ h2).2,⟨h.lst.ext h5 (fun b hb hh=>by have:=h.oS b hb;have:=(h.os b hh).1;omega),h4,h.pure.trans' h5 (fun b hb hh=>by have:=(h.os b hh).1;omega),h.oS,h.os,h.oY⟩⟩
theorem DrS.op (h:DrS S w0 A Y s l s1 p) {i:Nat} (hi:i<l.length):∃a,At s (i:Int) 5 a∧A.cell? a=some (.int .i64 l[i].code)∧A.cell? (a.add 1)=some (.int .i64 l[i].a)∧A.cell? (a.add 2)=some (.int .i64 l[i].b):=by
 obtain ⟨a,h1,_,h2⟩:=h.lst.nth hi;have h0:a.add 0=a:=by simp [Addr.add]
 exact ⟨a,h1,by simpa [zU,h0] using h2 0 (by simp [zU]),by simpa [zU] using h2 1 (by simp [zU]),by simpa [zU] using h2 2 (by simp [zU])⟩
end
section
variable {S:NP} {w0:World} {s s1:Sl} {l:List Sp.Op} {i:Nat} (hi:i<l.length) (Kc:Int→NP→WP) (K:Sl→WP)
 (hKc:∀q H w,DrS S w0 w H s l s1 q→q.length=l.length→Sp.kC l i q=Sp.zV l→Kc (IntKind.i64.wrap ((i:Int) - 1)) H w)
include hi hKc
theorem tr_j6 (x:Bool) (q:List Bool) (H:NP) (w:World) (D:DrS S w0 w H s l s1 q) (hq:q.length=l.length) (hx:x=true→0≤l[i].b∧l[i].b<(i:Int)) (hm:Sp.kC l i (cond x (q.set l[i].b.toNat true) q)=Sp.zV l):m_A_j6 s s1 (i:Int) x H w Kc K:=by
 unfold m_A_j6;obtain ⟨a,g1,g2,g3,g4⟩:=D.op hi;refine ⟨fun h=>?_,fun h=>?_⟩
 ·subst h;obtain ⟨h0,h1⟩:=hx rfl;obtain ⟨a3,e1,e2,e3,D2⟩:=D.put h0 (by omega);refine ⟨a,g1,_,g4,a3,e1,e2,e3,?_⟩;rintro w2 rfl;exact hKc _ _ _ D2 (by rw [List.length_set];exact hq) hm
 ·subst h;exact hKc _ _ _ D hq hm
theorem tr_j5 (q:List Bool) (H:NP) (w:World) (D:DrS S w0 w H s l s1 q) (hq:q.length=l.length) (hm:Sp.kC l i (Sp.xZ q i (Sp.xD l[i].code) l[i].b)=Sp.zV l):m_A_j5 s s1 (i:Int) w0 H w Kc K:=by
 unfold m_A_j5;obtain ⟨a,g1,g2,g3,g4⟩:=D.op hi;rw [jEB] at hm;have no:Sp.kC l i q=Sp.zV l→∀w',DrS S w0 w' H s l s1 q→m_A_j6 s s1 (i:Int) false H w' Kc K:=fun h w' D'=>tr_j6 hi Kc K hKc false q H w' D' hq (fun h=>by cases h) h;refine ⟨a,g1,_,g2,fun h=>⟨a,g1,fun w3 hs3=>?_⟩,fun h=>fun w3 hs3=>?_⟩
 ·have D3:=D.hst hs3;obtain ⟨a',e1,e2,e3,e4⟩:=D3.op hi;rw [show a'=a from by
   obtain ⟨_,_,b1,hb1,rfl⟩:=g1;obtain ⟨_,_,b2,hb2,rfl⟩:=e1;rw [hb1] at hb2;cases hb2;rfl] at e4
  rw [show Sp.xD l[i].code=true from h] at hm;refine ⟨_,e4,?_⟩;unfold m_A_j7;refine ⟨fun h0=>?_,fun h0=>?_⟩
  ·rw [h0] at hm;obtain ⟨a5,q1,q2,q3,q4⟩:=D3.op hi;exact ⟨a5,q1,_,q4,tr_j6 hi Kc K hKc _ q H w3 D3 hq (fun hx=>⟨of_decide_eq_true h0,of_decide_eq_true hx⟩) hm⟩
  ·rw [h0] at hm;exact no hm _ D3
 ·rw [show Sp.xD l[i].code=false from h] at hm;unfold m_A_j7;exact ⟨fun h=>(by cases h),fun _=>no hm _ (D.hst hs3)⟩
theorem tr_j4 (x:Bool) (q:List Bool) (H:NP) (w:World) (D:DrS S w0 w H s l s1 q) (hq:q.length=l.length) (hx:x=true→0≤l[i].a∧l[i].a<(i:Int)) (hm:Sp.kC l i (Sp.xZ (cond x (q.set l[i].a.toNat true) q) i (Sp.xD l[i].code) l[i].b)=Sp.zV l):m_A_j4 s s1 (i:Int) x w0 H w Kc K:=by
 unfold m_A_j4;obtain ⟨a,g1,g2,g3,g4⟩:=D.op hi;refine ⟨fun h=>?_,fun h=>?_⟩
 ·subst h;obtain ⟨h0,h1⟩:=hx rfl;obtain ⟨a3,e1,e2,e3,D2⟩:=D.put h0 (by omega);refine ⟨a,g1,_,g3,a3,e1,e2,e3,?_⟩;rintro w2 rfl;exact tr_j5 hi Kc K hKc _ _ _ D2 (by rw [List.length_set];exact hq) hm
 ·subst h;exact tr_j5 hi Kc K hKc _ _ _ D hq hm
theorem tr_j3 (q:List Bool) (H:NP) (w:World) (D:DrS S w0 w H s l s1 q) (hq:q.length=l.length) (hm:Sp.kC l i (Sp.oO l[i] i q)=Sp.zV l):m_A_j3 s s1 (i:Int) w0 H w Kc K:=by
 unfold m_A_j3;obtain ⟨a1,b1,_,b3⟩:=gY D.rows (t:=(i:Int)) (by omega) (by omega);rw [Int.toNat_natCast] at b3;refine ⟨a1,b1,_,b3,fun h=>?_,fun h=>?_⟩
 ·have h:Sp.bit q i=false:=by simpa using h
  refine hKc q H w D hq ?_;rw [← hm];unfold Sp.oO;rw [h];simp [Sp.xZ]
 ·have h:Sp.bit q i=true:=by simpa using h
  unfold Sp.oO at hm;rw [h,Bool.true_and,Bool.true_and,jEB q] at hm;obtain ⟨a,g1,g2,g3,g4⟩:=D.op hi;have no:Sp.kC l i (Sp.xZ q i (Sp.xD l[i].code) l[i].b)=Sp.zV l→∀w',DrS S w0 w' H s l s1 q→m_A_j4 s s1 (i:Int) false w0 H w' Kc K:=fun h w' D'=>tr_j4 hi Kc K hKc false q H w' D' hq (fun h=>by cases h) h;refine ⟨a,g1,_,g2,fun h1=>⟨a,g1,fun w5 hs5=>?_⟩,fun h1=>fun w5 hs5=>?_⟩
  ·have D5:=D.hst hs5;obtain ⟨a',e1,e2,e3,e4⟩:=D5.op hi;rw [show a'=a from by
    obtain ⟨_,_,b1,hb1,rfl⟩:=g1;obtain ⟨_,_,b2,hb2,rfl⟩:=e1;rw [hb1] at hb2;cases hb2;rfl] at e3
   rw [show Sp.xE l[i].code=true from h1] at hm;refine ⟨_,e3,?_⟩;unfold m_A_j8;refine ⟨fun h0=>?_,fun h0=>?_⟩
   ·rw [h0] at hm;obtain ⟨a5,q1,q2,q3,q4⟩:=D5.op hi;exact ⟨a5,q1,_,q3,tr_j4 hi Kc K hKc _ q H w5 D5 hq (fun hx=>⟨of_decide_eq_true h0,of_decide_eq_true hx⟩) hm⟩
   ·rw [h0] at hm;exact no hm _ D5
  ·rw [show Sp.xE l[i].code=false from h1] at hm;unfold m_A_j8;exact ⟨fun h=>(by cases h),fun _=>no hm _ (D.hst hs5)⟩
end
structure DoS (S:NP) (w0 A:World) (Y:NP) (s:Sl) (l:List Sp.Op) (s1 s2:Sl) (T:List Int) (j:Nat) (out:Sl):Prop where
 tr:DrS S w0 A Y s l s1 (Sp.zV l)
 r2:Rws A 3 1 s2 (tmr T)
 tl:T.length=l.length
 tv:∀k,k<j→Sp.bit (Sp.zV l) k=true→T[k]?=some (Sp.num (Sp.zV l) k:Int)
 ro:Rws A 49 5 out ((Sp.qS l (Sp.zV l) j).map zU)
 o2:∀b,s2.blk b→w0.heap.size≤b∧¬ Y b∧¬ s1.blk b
 oo:∀b,out.blk b→w0.heap.size≤b∧¬ Y b∧¬ s1.blk b∧¬ s2.blk b
section
variable {S:NP} {w0 A A':World} {Y Y':NP} {s s1 s2 out:Sl} {l:List Sp.Op} {T:List Int} {j:Nat}
theorem DoS.hst (h:DoS S w0 A Y s l s1 s2 T j out) (hs:Hst w0 Y A Y' A'):DoS S w0 A' Y' s l s1 s2 T j out:=by
 have x2:=hs.disj (G:=s2.blk) (fun b hb=>⟨h.r2.lt hb,(h.o2 b hb).2.1⟩);have xo:=hs.disj (G:=out.blk) (fun b hb=>⟨h.ro.lt hb,(h.oo b hb).2.1⟩);exact ⟨h.tr.hst hs,h.r2.ext hs.ext x2,h.tl,h.tv,h.ro.ext hs.ext xo,fun b hb=>⟨(h.o2 b hb).1,x2 b hb,(h.o2 b hb).2.2⟩,fun b hb=>⟨(h.oo b hb).1,xo b hb,(h.oo b hb).2.2⟩⟩
theorem DoS.to (h:DoS S w0 A Y s l s1 s2 T j out) {a:Int} (h0:0≤a) (h1:a<(j:Int)) (hb:Sp.bit (Sp.zV l) a.toNat=true):∃ad,At s2 a 1 ad∧s2.blk ad.block∧A.cell? ad=some (.int .i64 (Sp.num (Sp.zV l) a.toNat:Int)):=by
 have ht:=h.tv a.toNat (by omega) hb;obtain ⟨h2,h3⟩:=List.getElem?_eq_some_iff.1 ht;obtain ⟨ad,g1,g2,g3⟩:=h.r2.at h0 (by rw [zO];omega);refine ⟨ad,g1,g3,?_⟩;have:(tmr T)[a.toNat]'(by rw [zO];omega)=[.int .i64 (Sp.num (Sp.zV l) a.toNat:Int)]:=by simp [tmr,h3]
 rw [this] at g2;exact qP g2
end
theorem mkInts (n:Nat) (hn:n≤1000000) (w:World) :
  ∃s w',(Instr.makeSlice 72 (.int .i64 (n:Int)) (.int .i64 (n:Int))).run prog w=.ok s.v w'∧s.len=n∧Rws w' 3 1 s (tmr (List.replicate n 0))∧Pure w w'∧∀b,s.blk b→w.heap.size≤b:=by
 have T:SlType prog 72 3 1 8:=⟨underlying72,⟨t3,_,by kernel_rfl,(by kernel_rfl:t3.zero=some (.int .i64 0)),by kernel_rfl,by kernel_rfl,rfl⟩,by omega⟩
 obtain ⟨w',h1,h2,h3⟩:=Rws.make T (zr:=[.int .i64 0]) (fun i z h hz=>by
  have h1:prog.info? 3=some t3:=by kernel_rfl
  rw [h1] at h;cases h;have h2:t3.zero=some (.int .i64 0):=by kernel_rfl
  rw [h2] at hz;cases hz;rfl) (k:=.i64) (k':=.i64) (n:=n) (by omega) (by simp [maxLen];omega) w
 rw [show List.replicate n [Value.int .i64 0]=tmr (List.replicate n 0) by simp [tmr]] at h2
 exact ⟨_,w',h1,rfl,h2,h3,fun b ⟨a,ha,e⟩=>by cases ha;subst e;exact Nat.le_refl _⟩
section
variable {S:NP} {w0:World} {s s1 s2 out:Sl} {l:List Sp.Op} {T:List Int} {j:Nat} (hlt:j<l.length) (hb:Sp.bit (Sp.zV l) j=true) (hn:l.length≤1000) (Kc:Sl→Int→NP→WP) (K:Sl→WP)
 (hKc:∀o T H w,DoS S w0 w H s l s1 s2 T (j+1) o→Kc o (IntKind.i64.wrap ((j:Int)+1)) H w)
include hlt hb hn hKc
theorem jGQ {H:NP} {w:World} (D:DoS S w0 w H s l s1 s2 T j out):∃a,At s2 (j:Int) 1 a∧∀H' w',Hst w0 H w H' w'→zS w' a∧¬ H' a.block∧∀w1,w1=w'.setCell a (.int .i64 (out.len:Int))→∀(p2:Addr) (w22:World),New w1 (.cells #[.int .i64 l[j].code,.int .i64 (Sp.ren (Sp.zV l) j (Sp.xE l[j].code) l[j].a),.int .i64 (Sp.ren (Sp.zV l) j (Sp.xD l[j].code) l[j].b),.int .u64 l[j].num,.string l[j].text] 49) p2 w22 →
  ∃s3:Sl,∃w23:World,(Builtin.append_ #[23,23] 23 #[out.v,(Sl.mk (some p2) 1 1).v]).run prog w22=.ok s3.v w23∧Kept H' w22 w23∧Kc s3 (IntKind.i64.wrap ((j:Int)+1)) H' w23:=by
 obtain ⟨a,g1,g2,_⟩:=jAY D.r2 (t:=(j:Int)) (by omega) (by rw [zO,D.tl];omega) (.int .i64 (out.len:Int))
 refine ⟨a,g1,fun H' w' hs=>?_⟩
 have D':=D.hst hs
 obtain ⟨a',e1,e2,e3,R2,X2⟩:=jAY D'.r2 (t:=(j:Int)) (by omega) (by rw [zO,D'.tl];omega) (.int .i64 (out.len:Int))
 have:a'=a:=by
  obtain ⟨_,_,b1,hb1,rfl⟩:=g1;obtain ⟨_,_,b2,hb2,rfl⟩:=e1;rw [hb1] at hb2;cases hb2;rfl
 subst this
 refine ⟨e3,(D'.o2 _ e2).2.1,?_⟩
 rintro w1 rfl p2 w22 n2
 have E2:Pure _ w22:=Ext.new n2
 have hp2:=n2.at_size
 have hol:out.len=Sp.num (Sp.zV l) j:=by rw [D'.ro.len,List.length_map,Sp.qF (by omega)]
 rw [Int.toNat_natCast,hol,show (tmr T).set j [.int .i64 ((Sp.num (Sp.zV l) j:Nat):Int)]=tmr (T.set j ((Sp.num (Sp.zV l) j:Nat):Int)) by simp [tmr,List.map_set]] at R2
 rw [hol] at X2 E2 hp2 n2
 have Ro:=(D'.ro.ext X2 (fun b hb hh=>(D'.oo b hb).2.2.2 hh)).pure E2
 have hle:=Sp.oJ l (Sp.zV l) (show j≤l.length by omega)
 obtain ⟨s3,w23,r4,R4,X4,o4⟩:=Ro.append (P:=prog) (ty:=23) (c:=1) jDW (r:=zU (Sp.oF (Sp.zV l) j l[j])) (Box.of_new n2).row rfl rfl (by rw [List.length_map];omega) (by rw [List.length_map];simp [maxLen];omega)
 refine ⟨s3,w23,r4,X4.kept (fun b hb hh=>(D'.oo b hh).2.1 hb),?_⟩
 have z2:=X2.size
 have z3:=E2.size
 have q1:∀b,s1.blk b→b<w'.heap.size:=fun b hb=>D'.tr.rows.lt hb
 have q2:∀b,s2.blk b→b<w'.heap.size:=fun b hb=>D'.r2.lt hb
 have q3:∀b,H' b→b<w'.heap.size:=hs.here.lt
 have q4:=D'.tr.pure.size
 have hDr:DrS S w0 w23 H' s l s1 (Sp.zV l):=⟨((D'.tr.lst.ext X2 (fun b hb hh=>by have:=D'.tr.oS b hb;have:=(D'.o2 b hh).1;omega)).pure E2).ext X4 (fun b hb hh=>by have:=D'.tr.oS b hb;have:=(D'.oo b hh).1;omega),
  ((D'.tr.rows.ext X2 (fun b hb hh=>(D'.o2 b hh).2.2 hb)).pure E2).ext X4 (fun b hb hh=>(D'.oo b hh).2.2.1 hb),((D'.tr.pure.trans' X2 (fun b hb hh=>by have:=(D'.o2 b hh).1;omega)).trans E2).trans' X4 (fun b hb hh=>by have:=(D'.oo b hh).1;omega),D'.tr.oS,D'.tr.os,D'.tr.oY⟩
 refine hKc s3 _ H' w23 ⟨hDr,(R2.pure E2).ext X4 (fun b hb hh=>(D'.oo b hh).2.2.2 hb),by rw [List.length_set];exact D'.tl,fun k hk hbk=>?_,by rw [Sp.uD hlt hb,List.map_append];exact R4,D'.o2,fun b hb'=>?_⟩
 ·rw [List.getElem?_set]
  by_cases e:j=k
  ·subst e;rw [if_pos rfl,if_pos (by rw [D'.tl];exact hlt)]
  ·rw [if_neg e];exact D'.tv k (by omega) hbk
 ·rcases o4 b hb' with h1 | h1
  ·exact D'.oo b h1
  ·exact ⟨by omega,fun hh=>by have:=q3 b hh;omega,fun hh=>by have:=q1 b hh;omega,fun hh=>by have:=q2 b hh;omega⟩
theorem jGR (a:Int) (ha:a=Sp.ren (Sp.zV l) j (Sp.xE l[j].code) l[j].a) {H:NP} {w:World} (D:DoS S w0 w H s l s1 s2 T j out):m_A_j10 s2 out (j:Int) l[j].code a l[j].b l[j].num l[j].text w0 H w Kc K:=by
 unfold m_A_j10;subst ha;have hcl:=Sp.vW l hlt hb;refine ⟨fun h=>?_,fun h=>?_⟩
 ·rw [Bool.and_eq_true,Bool.and_eq_true,decide_eq_true_eq,decide_eq_true_eq] at h;have h1:Sp.xD l[j].code=true:=h.1.1;have hbb:=hcl.2 h1 h.1.2 h.2;obtain ⟨ad,g1,g2,_⟩:=D.to h.1.2 h.2 hbb;refine ⟨ad,g1,fun H6 w17 hs17=>?_⟩;have D17:=D.hst hs17;obtain ⟨ad',e1,e2,e3⟩:=D17.to h.1.2 h.2 hbb;have:ad'=ad:=by
   obtain ⟨_,_,b1,hb1,rfl⟩:=g1;obtain ⟨_,_,b2,hb2,rfl⟩:=e1;rw [hb1] at hb2;cases hb2;rfl
  subst this;refine ⟨_,e3,?_⟩;obtain ⟨a16,p1,p2⟩:=jGQ hlt hb hn Kc hKc D17;have hr:Sp.ren (Sp.zV l) j (Sp.xD l[j].code) l[j].b=(Sp.num (Sp.zV l) l[j].b.toNat:Int):=by unfold Sp.ren;rw [if_pos ⟨h1,h.1.2,h.2⟩]
  rw [hr] at p2;exact ⟨a16,p1,fun w20 hs20=>p2 _ _ hs20⟩
 ·obtain ⟨a17,p1,p2⟩:=jGQ hlt hb hn Kc hKc D;have hr:Sp.ren (Sp.zV l) j (Sp.xD l[j].code) l[j].b=l[j].b:=by
   unfold Sp.ren;rw [if_neg];rintro ⟨q1,q2,q3⟩;rw [show s_L l[j].code=true from q1,decide_eq_true (show l[j].b≥0 from q2),decide_eq_true q3] at h;cases h
  rw [hr] at p2;exact ⟨a17,p1,fun H6 w17 hs17=>p2 _ _ hs17⟩
end
set_option maxHeartbeats 4000000 in
theorem jDD {S:NP} (s:Sl) (l:List Sp.Op) (w0:World) (hl:Lst S w0 5 s (l.map zU)) (hS:∀b,S b→b<w0.heap.size) (hn:l.length≤1000) :
  Calls prog 10 #[s.v] w0 (fun e w'=>∃r:Sl,e=.returned r.v∧RetO w0 49 5 ((Sp.vB l).map zU) r w'):=by
 refine w_A s w0 (fun r w'=>RetO w0 49 5 ((Sp.vB l).map zU) r w') ?_
 unfold m_A
 have hll:s.len=l.length:=by rw [hl.len];simp
 have hnil:∀b,¬ Sl.nil.blk b:=fun b hb=>by obtain ⟨a,h,_⟩:=hb;cases h
 rw [hll]
 obtain ⟨s1,w1,hr1,hs1,R1,E1,f1⟩:=jEH jBT (fun _ _=>zb) l.length (by omega) w0
 refine ⟨s1,w1,hr1,E1.keptP,?_⟩
 have wp:∀i:Nat,i≤l.length→IntKind.i64.wrap ((i:Int) - 1)=(i:Int) - 1:=fun i hi=>IntWalk.i64_in _ (by omega)
 refine ⟨fun x H A=>∃(i:Nat) (p:List Bool),x=(i:Int) - 1∧i≤l.length∧p.length=l.length∧Sp.kC l i (if i=l.length then p.set (l.length - 1) true else p)=Sp.zV l∧DrS S w0 A H s l s1 p,fun x _=>(x+1).toNat,⟨l.length,_,wp _ (Nat.le_refl _),Nat.le_refl _,by simp,by rw [if_pos rfl];rfl,⟨hl.pure E1,R1,E1,hS,fun b hb=>⟨f1 b hb,id⟩,fun b hb=>hb.elim⟩⟩,?_⟩
 rintro _ Hl wl hsl ⟨i,p,rfl,hi,hpl,hmk,D⟩
 unfold m_A_l1
 rw [hll]
 refine ⟨fun h=>?_,fun h=>?_⟩
 ·obtain ⟨k,rfl⟩:∃k,i=k+1:=⟨i - 1,by have:=of_decide_eq_true h;omega⟩
  have hk:k<l.length:=by omega
  rw [show ((k+1:Nat):Int) - 1=(k:Int) by omega]
  rw [wp l.length (Nat.le_refl _)]
  have hKc:∀q H w,DrS S w0 w H s l s1 q→q.length=l.length→Sp.kC l k q=Sp.zV l→(fun (x:Int) (H':NP) (w':World)=>(∃(i:Nat) (p:List Bool),x=(i:Int) - 1∧i≤l.length∧p.length=l.length∧Sp.kC l i (if i=l.length then p.set (l.length - 1) true else p)=Sp.zV l∧DrS S w0 w' H' s l s1 p)∧(fun x (_:World)=>(x+1).toNat) x w'<(fun x (_:World)=>(x+1).toNat) (k:Int) wl) (IntKind.i64.wrap ((k:Int) - 1)) H w:=fun q H w Dq hq hm=>by
   rw [wp k (by omega)];exact ⟨⟨k,q,rfl,by omega,hq,by rw [if_neg (by omega)];exact hm,Dq⟩,by show ((k:Int) - 1+1).toNat<((k:Int)+1).toNat;omega⟩
  rw [Sp.kC,List.getElem?_eq_getElem hk] at hmk
  simp only at hmk
  refine ⟨fun he=>?_,fun he=>?_⟩
  ·have he:k+1=l.length:=by have:=beq_iff_eq.1 he;omega
   rw [if_pos he] at hmk
   obtain ⟨a12,e1,e2,e3,D2⟩:=D.put (t:=(k:Int)) (by omega) (by omega)
   refine ⟨a12,e1,e2,e3,?_⟩
   rintro w6 rfl
   rw [Int.toNat_natCast] at D2
   rw [show l.length - 1=k by omega] at hmk
   exact tr_j3 hk _ _ hKc _ _ _ D2 (by rw [List.length_set];exact hpl) hmk
  ·have he:¬ k+1=l.length:=by have:=beq_eq_false_iff_ne.1 he;omega
   rw [if_neg he] at hmk
   exact tr_j3 hk _ _ hKc _ _ _ D hpl hmk
 ·have hi0:i=0:=by have:=of_decide_eq_false h;omega
  subst hi0
  have hp:p=Sp.zV l:=by
   rw [Sp.kC] at hmk;by_cases e:0=l.length
   ·rw [if_pos e] at hmk;have:p=[]:=List.length_eq_zero_iff.1 (by omega);subst this;simpa using hmk
   ·rw [if_neg e] at hmk;exact hmk
  subst hp
  obtain ⟨s2,w7,hr7,hs2,R7,E7,f7⟩:=mkInts l.length (by omega) wl
  refine ⟨s2,w7,hr7,E7.keptP,?_⟩
  have zl:=D.pure.size
  have D7:DoS S w0 w7 Hl s l s1 s2 (List.replicate l.length 0) 0 Sl.nil:=⟨⟨D.lst.pure E7,D.rows.pure E7,D.pure.trans E7,D.oS,D.os,D.oY⟩,R7,by simp,fun k hk=>by omega,Rws.nil _ _ _,fun b hb=>⟨by have:=f7 b hb;omega,fun hh=>by have:=hsl.lt b hh;have:=f7 b hb;omega,fun hh=>by have:=D.rows.lt hh;have:=f7 b hb;omega⟩,fun b hb=>(hnil b hb).elim⟩
  refine ⟨fun out x H A=>∃(j:Nat) (T:List Int),x=j∧j≤l.length∧DoS S w0 A H s l s1 s2 T j out,fun _ x _=>((l.length:Int) - x).toNat,⟨0,_,rfl,Nat.zero_le _,D7⟩,?_⟩
  rintro out _ Hl2 wl2 hsl2 ⟨j,T,rfl,hj,O⟩
  unfold m_A_l9
  have hpl2:=Sp.jBW l
  refine ⟨fun h=>?_,fun h=>?_⟩
  ·have hlt:=zR hll h
   obtain ⟨a13,g1,_,g3⟩:=gY O.tr.rows (t:=(j:Int)) (by omega) (by omega)
   rw [Int.toNat_natCast] at g3
   refine ⟨a13,g1,_,g3,fun hb=>?_,fun hb=>?_⟩
   ·have hb:Sp.bit (Sp.zV l) j=false:=by simpa using hb
    rw [zE hlt (by omega)]
    refine ⟨⟨j+1,T,rfl,hlt,O.tr,O.r2,O.tl,fun k hk hbk=>?_,by rw [Sp.uE hb];exact O.ro,O.o2,O.oo⟩,kN hlt⟩
    by_cases e:k=j
    ·subst e;rw [hb] at hbk;cases hbk
    ·exact O.tv k (by omega) hbk
   ·have hb:Sp.bit (Sp.zV l) j=true:=by simpa using hb
    obtain ⟨a14,hat,_,hrow⟩:=O.tr.lst.nth hlt
    refine ⟨a14,hat,l[j].code,l[j].a,l[j].b,l[j].num,l[j].text,hrow,?_⟩
    rintro y rfl
    have hKc:∀o T H w,DoS S w0 w H s l s1 s2 T (j+1) o→(fun (out:Sl) (x:Int) (H':NP) (w':World)=>(∃(j:Nat) (T:List Int),x=j∧j≤l.length∧DoS S w0 w' H' s l s1 s2 T j out)∧(fun (_:Sl) x (_:World)=>((l.length:Int) - x).toNat) out x w'<(fun (_:Sl) x (_:World)=>((l.length:Int) - x).toNat) out (j:Int) wl2) o (IntKind.i64.wrap ((j:Int)+1)) H w:=fun o T H w D=>by
     rw [zE hlt (by omega)];exact ⟨⟨j+1,T,rfl,hlt,D⟩,kN hlt⟩
    have hcl:=Sp.vW l hlt hb
    refine ⟨fun hy=>?_,fun hy=>fun H3 w12 hs12=>?_⟩
    ·rw [Bool.and_eq_true,Bool.and_eq_true,decide_eq_true_eq,decide_eq_true_eq] at hy
     have h1:Sp.xE l[j].code=true:=hy.1.1
     have hba:=hcl.1 h1 hy.1.2 hy.2
     obtain ⟨ad,p1,_,_⟩:=O.to hy.1.2 hy.2 hba
     refine ⟨ad,p1,fun H3 w12 hs12=>?_⟩
     have O12:=O.hst hs12
     obtain ⟨ad',e1,_,e3⟩:=O12.to hy.1.2 hy.2 hba
     have:ad'=ad:=by
      obtain ⟨_,_,b1,hb1,rfl⟩:=p1;obtain ⟨_,_,b2,hb2,rfl⟩:=e1;rw [hb1] at hb2;cases hb2;rfl
     subst this
     refine ⟨_,e3,fun w27 hs27=>?_⟩
     exact jGR hlt hb hn _ _ hKc _ (by unfold Sp.ren;rw [if_pos ⟨h1,hy.1.2,hy.2⟩]) (O12.hst hs27)
    ·refine jGR hlt hb hn _ _ hKc _ ?_ (O.hst hs12)
     unfold Sp.ren
     rw [if_neg]
     rintro ⟨q1,q2,q3⟩
     rw [show (decide (l[j].code≥4) && decide (l[j].code≤11))=true from q1,decide_eq_true (show l[j].a≥0 from q2),decide_eq_true q3] at hy
     cases hy
  ·have hjl:=zY hll hj h
   subst hjl
   exact ⟨O.ro,fun b hb=>(O.oo b hb).1,O.tr.pure⟩
theorem yG {ST So:NP} (ts:List Sp.Tree) (ops:List Sp.Op) (sT so:Sl) (w0:World) (hT:TreeAt ST w0 sT (.mk 0 0 0 0 ⟨#[]⟩ ts)) (hS:∀b,ST b→b<w0.heap.size) (ho:Lst So w0 5 so (ops.map zU)) (hSo:∀b,So b→b<w0.heap.size) :
  Calls prog 3 #[sT.v,so.v] w0 (fun e w'=>∃r:Bool,e=.returned (.bool r)∧(r=true∧Pure w0 w')):=by
 refine w_M _ _ w0 (fun r w'=>r=true∧Pure w0 w') ?_
 unfold m_M
 have J1t:∀w,Pure w0 w→m_M_j1 sT so true w0 None w (fun r w'=>r=true∧Pure w0 w'):=by
  intro w E;unfold m_M_j1;refine Br.t rfl ?_;refine (jEY w).mono ?_;rintro _ w3 ⟨r2,rfl,hr2,E3⟩;exact ⟨_,rfl,E3.keptP,hr2,E.trans E3⟩
 refine (tD ts sT w0 hT hS).mono ?_
 rintro _ w25 ⟨r18,rfl,hlg,E25⟩
 refine ⟨_,rfl,E25.keptP,fun hr=>(by subst hr;exact J1t w25 E25),fun h1=>?_⟩
 obtain ⟨hn1,hc1⟩:=hlg h1
 refine (jAJ ops so w25 (ho.pure E25)).mono ?_
 rintro _ w26 ⟨r19,rfl,hlo,E26'⟩
 have E26:=E25.trans E26'
 refine ⟨_,rfl,E26'.keptP,?_⟩
 cases r19 with
 | true=>exact J1t w26 E26
 | false =>
 have hn2:=hlo rfl
 unfold m_M_j1
 refine Br.f rfl ?_
 refine (yS ts sT w26 (hT.pure E26) (fun b hb=>by have:=hS b hb;have:=E26.size;omega) (by omega) (by omega)).mono ?_
 rintro _ w2 ⟨_,_,rfl,s,p,k,q,sg,S,FP,FK,FR,rfl,rfl,A2',hk⟩
 refine ⟨_,_,rfl,A2'.pure.keptP,Br.f rfl ?_⟩
 have A2:=A2'.base E26
 have hW:=Sp.yY ts
 have hGn:=Sp.gE ts
 generalize Sp.jQ ts=Q at *
 obtain ⟨L,G⟩:=Q
 simp only at A2 hk hW hGn
 intro p1 w3 n3
 obtain ⟨s1,w4,hr4,R4,E24,E23,hs1,hk4⟩:=jFQ (ho.pure A2.pure) (by omega) n3
 have A4:=A2.pureE E24
 refine ⟨s1,w4,hr4,hk4 _ (fun b hb=>hb.elim),?_⟩
 have z4:=A2.pure.size
 have hP1:∀b,s1.blk b→¬ FP b:=fun b hb hf=>by have:=hs1 b hb;have:=A2.pool.lt hf;omega
 refine (tC (S:=s1.blk) s1 ops w4 R4.lst (fun b hb=>R4.lt hb) (by omega)).mono ?_
 rintro _ w5 ⟨r4,rfl,T5⟩
 have A5:=A4.pureE T5.pure
 refine ⟨_,rfl,T5.kept,?_⟩
 refine (jDD (S:=So) so ops w5 (ho.pure A5.pure) (fun b hb=>by have:=hSo b hb;have:=A5.pure.size;omega) (by omega)).mono ?_
 rintro _ w17 ⟨r12,rfl,T17⟩
 have A17:=A5.pureE T17.pure
 refine ⟨_,rfl,T17.kept,?_⟩
 have hle:=Sp.jDQ ops
 have R5:=T5.rows.pure T17.pure
 refine (lL r4 r12 (Sp.vB ops) w17 R5.lst T17.rows.lst (by omega)).mono ?_
 rintro _ w18 ⟨_,rfl,rfl,E18⟩
 have A18:=A17.pureE E18
 refine ⟨_,rfl,E18.keptP,Br.f rfl ?_⟩
 have R18:=((R4.pure T5.pure).pure T17.pure).pure E18
 refine (lL s1 so ops w18 R18.lst (ho.pure A18.pure) (by omega)).mono ?_
 rintro _ w19 ⟨_,rfl,rfl,E19⟩
 have A19:=A18.pureE E19
 refine ⟨_,rfl,E19.keptP,?_⟩
 unfold m_M_j2
 refine Br.f rfl ?_
 have Ad:=A19.pureE (Ext.drew w19)
 refine ⟨fun w=>Box w s [.pointer (some p),.pointer (some k),.pointer (some q),sg.v] 41,Ad.box,?_⟩
 rintro _ rfl
 refine ⟨s,rfl,some p,fun _ h=>h.cell0,s,rfl,some k,fun _ h=>h.cell rfl,?_⟩
 have Rd:=(R18.pure E19).pure (Ext.drew w19)
 refine (kT (Sl0:=s1.blk) p k s1 ops w19.drew hW Ad.pool Ad.know Rd.lst (fun b hb=>⟨Rd.lt hb,hP1 b hb⟩) (by omega) (by omega)).mono ?_
 rintro _ w7 ⟨r5,r6,r7,rfl,hr,FP7,hP7,X7,hF7⟩
 obtain ⟨k7,A7⟩:=Ad.pgrow hP7 X7 hF7
 refine ⟨_,_,_,rfl,A7.box,k7,?_⟩
 have hW7:=Sp.lG hW G ops
 have hev:=Sp.jCM (L:=L) (G:=G) (l:=ops) hW
 have hP4:∀b,r4.blk b→¬ FP b:=fun b hb hf=>by have:=T5.own b hb;have:=A4.pool.lt hf;omega
 have Rt:=((R5.pure E18).pure E19).pure (Ext.drew w19)
 have hP7b:∀b,r4.blk b→¬ FP7 b:=fun b hb hf=>by
  rcases hF7 b hf with h | h
  ·exact hP4 b hb h
  ·have:=Rt.lt hb;omega
 have R7:=Rt.ext X7 hP4
 generalize Sp.zX L G ops=EV at *
 obtain ⟨t,er,pl,L2⟩:=EV
 simp only at hr hW7 hev A7
 cases hr
 have Ad7:=A7.pureE (Ext.drew w7)
 refine ⟨fun w=>Box w s [.pointer (some p),.pointer (some k),.pointer (some q),sg.v] 41,Ad7.box,?_⟩
 rintro _ rfl
 refine ⟨s,rfl,some p,fun _ h=>h.cell0,s,rfl,some k,fun _ h=>h.cell rfl,?_⟩
 have Rd7:=R7.pure (Ext.drew w7)
 refine (kT (Sl0:=r4.blk) p k r4 (Sp.vB ops) w7.drew hW7 Ad7.pool Ad7.know Rd7.lst (fun b hb=>⟨Rd7.lt hb,hP7b b hb⟩) (by omega) (by omega)).mono ?_
 rintro _ w9 ⟨r8,r9,r10,rfl,hr2,FP9,hP9,X9,hF9⟩
 obtain ⟨k9,A9⟩:=Ad7.pgrow hP9 X9 hF9
 refine ⟨_,_,_,rfl,A9.box,k9,?_⟩
 have hcond:(((r6:Int) != 0) || (((r9:Int) == 0) && ((r5:Int) == r8)))=true:=by
  by_cases h0:r6=0
  ·have:=hev h0;rw [this] at hr2;cases hr2;simp
  ·simp [h0]
 rw [hcond]
 refine Br.t rfl (fun H2 w13 hs13=>?_)
 have A13:=A9.hst hs13
 refine (jEY w13).mono ?_
 rintro _ w14 ⟨_,rfl,rfl,E14⟩
 exact ⟨_,rfl,E14.keptP,rfl,A13.pure.trans E14⟩
end Go.Proofs
end
section
namespace Go.SE
open Go.ChangeShapes Go.WideShapes Go.ChangeAt Go.RowKit
section
variable {H:Type} {enc:TypeId×Value→H} {P:Program}
theorem yU (hl:laidOutB P=true) {W W':World} (hb:Below W.heap.size W W'):∀(ts:List TypeId) (vs:List Value) (ds:List (DataW H)) (ps:List MemPlace),(ts.all fun t=>P.readableRec t && decide (t<P.types.size))=true →
  DataW.TrodAll enc P W 0 (fun _=>true) true ts vs ds ps→(∀x∈ps,x.block<W.heap.size)→DataW.TrodAll enc P W' 0 (fun b=>decide (b<W.heap.size)) true ts vs ds ps
 | [],_,_,_,_,h,_=>by
  obtain ⟨rfl,rfl,rfl⟩:=trodAll_nil h;exact h
 | t :: ts,_,_,_,hr,h,hlt=>by
  obtain ⟨v,vs1,d,ds1,a,b,rfl,rfl,rfl,h1,h2⟩:=trodAll_cons h;simp only [List.all_cons,Bool.and_eq_true,decide_eq_true_eq] at hr;exact ⟨a,b,Below.trod hl hr.1.1 hr.1.2 h1 hb (fun x hx=>hlt x (by simp [hx])),yU hl hb ts vs1 ds1 b (by simpa using hr.2) h2 (fun x hx=>hlt x (by simp [hx])),rfl⟩
theorem jFX {f:Func} {s:ChangeSpec} {W W':World} {args:Array Value} {ds gs:List (DataW H)} {before:List MemPlace} {t:TypeId} (hl:laidOutB P=true)
  (hv:s.vars=[]) (hf:∀ds:List (DataW H),ds.length=f.params.size→s.fn H ds={ results:=[.lit (.bool true)],args:=ds }) (hrt:f.resultTypes=#[t]) (ht:P.underlying t=some .bool)
  (hr:(f.params.toList.all fun t=>P.readableRec t && decide (t<P.types.size))=true)
  (hW:DataW.Whole enc P f.params.toList s.vars false W args.toList ds gs before) (E:Pure W W') :
  s.post enc P f false true false false W args (.bool true) W':=by
 have hW':=hW
 obtain ⟨p,q,hA,hV,rfl,hfz,hnd⟩:=hW
 rw [hv] at hV
 obtain ⟨rfl,rfl⟩:=trodVars_none hV
 have hlen:ds.length=f.params.size:=by
  have:∀(ts:List TypeId) (vs:List Value) (ds:List (DataW H)) (ps:List MemPlace),DataW.TrodAll enc P W 0 (fun _=>true) true ts vs ds ps→ds.length=ts.length:=by
   intro ts;induction ts with
   | nil=>intro vs ds ps h;obtain ⟨_,rfl,_⟩:=trodAll_nil h;rfl
   | cons t ts ih =>
    intro vs ds ps h
    obtain ⟨v,vs1,d,ds1,a,b,_,rfl,_,_,h2⟩:=trodAll_cons h
    simp [ih _ _ _ h2]
  simpa using this _ _ _ _ hA
 have hfn:=hf ds hlen
 have hfn':s.fn H (ds++[])={ results:=[.lit (.bool true)],args:=ds }:=by rw [List.append_nil];exact hfn
 have hlt:∀x∈p,x.block<W.heap.size:=fun x hx=>by simpa using hW'.lt x (by simp [hx])
 have bel:=E.below
 refine ⟨ds,[],p++[],[],p,[],hW',?_,?_,?_,bel.frame _,fun h=>by cases h⟩
 ·rw [hfn',hrt];exact trodAll_mk1 (shut_bool ht _)
 ·rw [hfn'];exact yU hl bel _ _ _ _ hr hA hlt
 ·rw [hfn',hv];exact hV
theorem jCX {C:Checked} {os:Os} {f:FuncId} {fn:Func} {s:ChangeSpec} {t:TypeId} (hl:laidOutB C.prog=true)
  (hv:s.vars=[]) (hf:∀ds:List (DataW H),ds.length=fn.params.size→s.fn H ds={ results:=[.lit (.bool true)],args:=ds }) (hrt:fn.resultTypes=#[t]) (ht:C.prog.underlying t=some .bool)
  (hr:(fn.params.toList.all fun t=>C.prog.readableRec t && decide (t<C.prog.types.size))=true)
  (own:ownKnob C.prog.godebug=none) (started:os.Started) (noInit:C.prog.inits.idxOf? f=none) (hfn:C.prog.funcs[f]?=some fn)
  (witness:∃(w:World) (tape:Tape) (i:Input),w.os=os∧(w.forCall tape i).Shaped C.prog∧i.vars=[]∧Input.okWide C.prog (w.forCall tape i) .any w.heap.size f i ∧
   s.pre6 enc C.prog fn [] false (w.forCall tape i).memory i.args∧({}:Assume).holds C.prog (lone (Frame.enter C.prog f i.args .normal) [] (w.forCall tape i)))
  (contract:∀(W:World) (base:Nat) (args:Array Value) (ds:List (DataW H)) (p:List MemPlace),
   (∀(j:Nat) t v,fn.params[j]?=some t→args[j]?=some v→Value.okWide C.prog W .any base t v) →
   DataW.TrodAll enc C.prog W 0 (fun _=>true) true fn.params.toList args.toList ds p→(∀x∈p,x.block<W.heap.size) →
   Calls C.prog f args W (fun e W'=>∃r:Bool,e=.returned (.bool r)∧(r=true∧Pure W W'))) :
  ReturnsInHanded {} C os f .any (s.pre6 enc C.prog fn [] false) (s.post enc C.prog fn false true false false):=by
 refine returnsInHanded_of_change own started noInit hfn witness ?_
 intro W base args ds gs before hval hW _ _
 have hW':=hW
 obtain ⟨p,q,hA,hV,rfl,hfz,hnd⟩:=hW
 refine (contract W base args ds p hval hA (fun x hx=>by simpa using hW'.lt x (by simp [hx]))).mono fun e W' ⟨r,he,h1,h2⟩=>?_
 subst h1
 exact ⟨_,he,jFX hl hv hf hrt ht hr hW' h2⟩
end
end Go.SE
namespace Go.SE
open Go.ChangeShapes Go.WideShapes Go.ChangeAt Go.RowKit
section
variable {P:Program} {W:World} {r:Reach} {b0:Nat} {t:TypeId} {v:Value}
theorem tQ {e:TypeId} (ht:P.underlying t=some (.slice e)) (h:Value.okWide P W r b0 t v):∃a n c,v=.slice a n c:=by
 unfold Value.okWide at h;rw [ht] at h;simp only at h;unfold Cell.okWide at h;rw [ht] at h;cases v <;> simp [Cell.ok,ht] at h;exact ⟨_,_,_,rfl⟩
end
end Go.SE
end
section
open Go Go.SE
namespace Go.Proofs
open Try
theorem qQ {α β:Type} {f:α→Option β}:∀{l:List α} {r:List β},l.mapM f=some r→r.length=l.length∧∀(i:Nat) (a:α),l[i]?=some a→∃b,f a=some b∧r[i]?=some b
 | [],r,h=>by
  have:r=[]:=by simpa using h.symm
  subst this;exact ⟨rfl,fun i a h=>by simp at h⟩
 | x :: xs,r,h=>by
  rw [List.mapM_cons] at h;cases hx:f x with
  | none=>simp [hx] at h
  | some y =>
   cases hxs:xs.mapM f with
   | none=>simp [hx,hxs] at h
   | some ys =>
    have:r=y :: ys:=by simpa [hx,hxs] using h.symm
    subst this
    obtain ⟨h1,h2⟩:=qQ hxs
    refine ⟨by simp [h1],fun i a ha=>?_⟩
    cases i with
    | zero=>cases ha;exact ⟨y,hx,rfl⟩
    | succ i=>exact h2 i a (by simpa using ha)
theorem jAC {w:World} {base:Nat} {a:Addr} {n:Nat} {cs:List Value} (h:w.cells? base a n=some cs):cs.length=n∧Row w a cs:=by
 obtain ⟨_,h1,h2⟩:=World.cells?_some h;exact ⟨h1,fun j hj=>h2 j (by omega)⟩
section
variable {H:Type} {enc:TypeId×Value→H} {P:Program} {W:World} {base:Nat} {sp:Nat→Bool} {held:Bool}
theorem vA {t:TypeId} {k:IntKind} (ht:P.underlying t=some (.int k)) {n:Nat} {c:Value} {x:DataW H×List MemPlace} (h:DataW.trod enc P W base sp held n t [c]=some x):∃m,c=.int k m:=by
 cases n with
 | zero=>cases h
 | succ n =>
  rw [DataW.trod_step] at h
  unfold DataW.trodStep at h
  rw [ht] at h
  cases c <;> simp at h
  obtain ⟨⟨rfl,_⟩,_⟩:=h
  exact ⟨_,rfl⟩
theorem jFH {t:TypeId} (ht:P.underlying t=some (.int .u64)) {n:Nat} {c:Value} {x:DataW H×List MemPlace} (h:DataW.trod enc P W base sp held n t [c]=some x):∃m,c=.int .u64 m∧Sp.isNum m:=by
 cases n with
 | zero=>cases h
 | succ n =>
  rw [DataW.trod_step] at h
  unfold DataW.trodStep at h
  rw [ht] at h
  cases c with
  | int k z =>
   simp only at h
   split at h
   ·rename_i hw
    obtain ⟨rfl,hw⟩:=hw
    have h1:IntKind.u64.min=0:=by rfl
    have h2:IntKind.u64.max=18446744073709551615:=by rfl
    simp only [Lit.wf,Bool.and_eq_true,decide_eq_true_eq,h1,h2] at hw
    exact ⟨z,rfl,by omega,by omega⟩
   ·cases h
  | _=>simp at h
theorem tH {t:TypeId} (ht:P.underlying t=some .string) {n:Nat} {c:Value} {x:DataW H×List MemPlace} (h:DataW.trod enc P W base sp held n t [c]=some x):∃m,c=.string m:=by
 cases n with
 | zero=>cases h
 | succ n =>
  rw [DataW.trod_step] at h
  unfold DataW.trodStep at h
  rw [ht] at h
  cases c <;> simp at h
  exact ⟨_,rfl⟩
theorem gB {t e:TypeId} (ht:P.underlying t=some (.slice e)) {n:Nat} {c:Value} {x:DataW H×List MemPlace} (h:DataW.trod enc P W base sp held (n+1) t [c]=some x) :
  c=.slice none 0 0∨∃a len cap,c=.slice (some a) len cap∧len≤cap∧cap≤maxLen∧∀i,i<len→∃cs y,W.cells? base (a.add (i*P.cellsOf e)) (P.cellsOf e)=some cs∧DataW.trod enc P W base sp held n e cs=some y:=by
 rw [DataW.trod_step] at h
 unfold DataW.trodStep at h
 rw [ht] at h
 cases c with
 | slice a len cap =>
  cases a with
  | none =>
   cases len with
   | zero=>cases cap with
    | zero=>exact .inl rfl
    | succ c=>simp at h
   | succ l=>simp at h
  | some a =>
   right
   simp only at h
   split at h
   ·rename_i hc
    refine ⟨a,len,cap,rfl,hc.2.1,hc.2.2,fun i hi=>?_⟩
    cases hm:(List.range len).mapM fun i=>(W.cells? base (a.add (i*P.cellsOf e)) (P.cellsOf e)).bind (DataW.trod enc P W base sp held n e) with
    | none=>rw [hm] at h;cases h
    | some r =>
     obtain ⟨b,hb,_⟩:=(qQ hm).2 i i (by simp [hi])
     obtain ⟨cs,h1,h2⟩:=Option.bind_eq_some_iff.1 hb
     exact ⟨cs,b,h1,h2⟩
   ·cases h
 | _=>simp at h
structure TreeTypes (P:Program) (tS tT:TypeId):Prop where
 ex:∃ti tu ts:TypeId,∃f0 f1 f2 f3 f4 f5:Field,P.underlying tS=some (.slice tT)∧P.underlying tT=some (.struct #[f0,f1,f2,f3,f4,f5])∧P.cellsOf tT=6 ∧
  (f0.type=ti∧f1.type=ti∧f2.type=ti∧f3.type=tu∧f4.type=ts∧f5.type=tS)∧(f0.offset=0∧f1.offset=1∧f2.offset=2∧f3.offset=3∧f4.offset=4∧f5.offset=5) ∧
  P.underlying ti=some (.int .i64)∧P.underlying tu=some (.int .u64)∧P.underlying ts=some .string∧P.cellsOf ti=1∧P.cellsOf tu=1∧P.cellsOf ts=1∧P.cellsOf tS=1
theorem jDO {tS tT:TypeId} (hTT:TreeTypes P tS tT):∀n:Nat,
  (∀(c:Value) (x:DataW H×List MemPlace),DataW.trod enc P W base sp held n tS [c]=some x→∃s:Sl,∃ts:List Sp.Tree,c=s.v∧(∀(k f t u:Int) (tx:ByteArray),TreeAt (fun _=>True) W s (.mk k f t u tx ts))∧∀i (hi:i<ts.length),Sp.NumT ts[i]) ∧
  (∀(cs:List Value) (x:DataW H×List MemPlace),DataW.trod enc P W base sp held n tT cs=some x→∃t s,cs=vN t s∧TreeAt (fun _=>True) W s t∧Sp.NumT t):=by
 obtain ⟨ti,tu,tx,f0,f1,f2,f3,f4,f5,hS,hT,hc6,⟨e0,e1,e2,e3,e4,e5⟩,⟨o0,o1,o2,o3,o4,o5⟩,ui,uu,us,ci,cu,cs1,cS⟩:=hTT.ex
 intro n
 induction n with
 | zero=>exact ⟨fun c x h=>(by cases h),fun cs x h=>(by cases h)⟩
 | succ n ih =>
  refine ⟨fun c x h=>?_,fun cs x h=>?_⟩
  ·rcases gB hS h with rfl | ⟨a,len,cap,rfl,hle,hcm,hel⟩
   ·exact ⟨Sl.nil,[],rfl,fun k f t u tx=>.mk k f t u tx [] Sl.nil (fun _=>Sl.nil) rfl (by simp) (fun i h=>by simp at h) (fun i h=>by simp at h),fun i hi=>absurd hi (Nat.not_lt_zero i)⟩
   ·rw [hc6] at hel
    have hex:∀i,∃q:Sp.Tree×Sl,i<len→Row W (a.add (i*6)) (vN q.1 q.2)∧TreeAt (fun _=>True) W q.2 q.1∧Sp.NumT q.1:=by
     intro i;by_cases hi:i<len
     ·obtain ⟨cs,y,h1,h2⟩:=hel i hi;obtain ⟨tr,s,e,hTr⟩:=ih.2 cs y h2;exact ⟨(tr,s),fun _=>⟨e▸(jAC h1).2,hTr⟩⟩
     ·exact ⟨(Sp.Tree.mk 0 0 0 0 ⟨#[]⟩ [],Sl.nil),fun h=>absurd h hi⟩
    obtain ⟨q,hq⟩:=Classical.axiomOfChoice hex
    refine ⟨⟨some a,len,cap⟩,(List.range len).map fun i=>(q i).1,rfl,?_,fun i hi=>by rw [List.getElem_map,List.getElem_range];exact (hq i (by simpa using hi)).2.2⟩
    refine fun k f t u tx=>.mk k f t u tx _ _ (fun i=>(q i).2) (by simp) (by simp only [maxLen] at hcm;simp;omega) (fun i h=>?_) (fun i h=>?_)
    ·have hi:i<len:=by simpa using h
     refine ⟨a.add (i*6),⟨by omega,by simpa using hi,a,rfl,by simp⟩,trivial,?_⟩
     simpa using (hq i hi).1
    ·have hi:i<len:=by simpa using h
     simpa using (hq i hi).2.1
  ·rw [DataW.trod_step] at h
   unfold DataW.trodStep at h
   rw [hT] at h
   simp only at h
   split at h
   ·rename_i hl
    rw [hc6] at hl
    match cs,hl with
    | [c0,c1,c2,c3,c4,c5],_ =>
     cases hm:([f0,f1,f2,f3,f4,f5]:List Field).mapM (fun f=>DataW.trod enc P W base sp held n f.type ((([c0,c1,c2,c3,c4,c5]:List Value).drop f.offset).take (P.cellsOf f.type))) with
     | none=>rw [hm] at h;cases h
     | some r =>
      have hf:=(qQ hm).2
      obtain ⟨_,h0,_⟩:=hf 0 f0 rfl
      obtain ⟨_,h1,_⟩:=hf 1 f1 rfl
      obtain ⟨_,h2,_⟩:=hf 2 f2 rfl
      obtain ⟨_,h3,_⟩:=hf 3 f3 rfl
      obtain ⟨_,h4,_⟩:=hf 4 f4 rfl
      obtain ⟨_,h5,_⟩:=hf 5 f5 rfl
      rw [e0,o0,ci] at h0;rw [e1,o1,ci] at h1;rw [e2,o2,ci] at h2;rw [e3,o3,cu] at h3;rw [e4,o4,cs1] at h4;rw [e5,o5,cS] at h5
      obtain ⟨m0,rfl⟩:=vA ui h0
      obtain ⟨m1,rfl⟩:=vA ui h1
      obtain ⟨m2,rfl⟩:=vA ui h2
      obtain ⟨m3,rfl,hu⟩:=jFH uu h3
      obtain ⟨m4,rfl⟩:=tH us h4
      obtain ⟨s,ts,rfl,hTr,hNr⟩:=ih.1 c5 _ h5
      exact ⟨.mk m0 m1 m2 m3 m4 ts,s,rfl,hTr m0 m1 m2 m3 m4,.mk _ _ _ _ _ _ hu hNr⟩
   ·cases h
theorem lX {tS tT:TypeId} (hTT:TreeTypes P tS tT) {v:Value} {d:DataW H} {ps:List MemPlace} (h:DataW.Trod enc P W base sp held tS v d ps) (hv:∃a n c,v=.slice a n c) :
  ∃s:Sl,∃ts:List Sp.Tree,v=s.v∧TreeAt (fun b=>b<W.heap.size) W s (.mk 0 0 0 0 ⟨#[]⟩ ts):=by
 obtain ⟨n,h⟩:=h
 obtain ⟨a,m,c,rfl⟩:=hv
 obtain ⟨s,ts,e,hT,_⟩:=(jDO hTT n).1 _ _ h
 exact ⟨s,ts,e,(hT 0 0 0 0 ⟨#[]⟩).lt.mono (fun b hb=>hb.2)⟩
end
theorem jDR:TreeTypes prog 22 47 :=
 ⟨3,45,9,_,_,_,_,_,_,underlying22,underlying47,by kernel_rfl,⟨rfl,rfl,rfl,rfl,rfl,rfl⟩,⟨rfl,rfl,rfl,rfl,rfl,rfl⟩,underlying3,underlying45,underlying9,by kernel_rfl,by kernel_rfl,by kernel_rfl,by kernel_rfl⟩
end Go.Proofs
end
section
open Go Go.SE
namespace Go.Sp
def Dep (L:Pool) (S:List Way) (t y:Int):Prop :=
 (∃v∈S,v.t=t∧v.rule≠0∧y=v.frm)∨(t ∉ jU S∧0<y∧(y=(jHQ L S t).1∨y=(jHQ L S t).2.1))
inductive Dp (L:Pool) (S:List Way):Int→Int→Prop
 | refl (t:Int):Dp L S t t
 | step {t y z:Int}:Dep L S t y→Dp L S y z→Dp L S t z
theorem Dep.made {L:Pool} {S:List Way} {t y a b:Int} {f m:Bool} (h:jHQ L S t=(a,b,f,m)) (ht:t ∉ jU S):Dep L S t y↔0<y∧(y=a∨y=b):=by
 unfold Dep;rw [h];constructor
 ·rintro (⟨v,hv,rfl,_⟩ | ⟨_,h⟩)
  ·exact absurd (List.mem_map.2 ⟨v,hv,rfl⟩) ht
  ·exact h
 ·exact fun h=>.inr ⟨ht,h⟩
theorem Dep.way {L:Pool} {S:List Way} {t y r f:Int} (hn:(jU S).Nodup) (hl:SE.look (S.map fun v=>(v.t,(v.rule,v.frm))) t=some (r,f)):Dep L S t y↔r≠0∧y=f:=by
 have hm:=oT hl;obtain ⟨v,hv,e⟩:=List.mem_map.1 hm;simp only [Prod.mk.injEq] at e;obtain ⟨rfl,rfl,rfl⟩:=e;have hk:v.t∈jU S:=List.mem_map.2 ⟨v,hv,rfl⟩;unfold Dep;constructor
 ·rintro (⟨u,hu,e,hr,rfl⟩ | ⟨h,_⟩)
  ·have hnd:((S.map fun v=>(v.t,(v.rule,v.frm))).map Prod.fst).Nodup:=by rw [List.map_map];exact hn
   have h2:=jAZ hnd (List.mem_map.2 ⟨u,hu,rfl⟩);rw [e,hl] at h2;simp only [Option.some.injEq,Prod.mk.injEq] at h2;exact ⟨by rw [h2.1];exact hr,h2.2.symm⟩
  ·exact absurd hk h
 ·rintro ⟨h1,rfl⟩;exact .inl ⟨v,hv,rfl,h1,rfl⟩
theorem Dp.all {L:Pool} {S:List Way} {M:List Step} (hc:∀s∈M,∀y,Dep L S s.t y→y∈M.map Step.t) {t x:Int} (ht:t∈M.map Step.t) (h:Dp L S t x):x∈M.map Step.t:=by
 induction h with
 | refl=>exact ht
 | step hd _ ih =>
  obtain ⟨s,hs,rfl⟩:=List.mem_map.1 ht
  exact ih (hc s hs _ hd)
end Go.Sp
namespace Go.Proofs
attribute [local irreducible] Calls
section
variable {w w':World} {k p c1 c2 c3 c4 c5:Addr} {ma mb:Nat} {L:Sp.Pool} {G:List Int} {S:List Sp.Way} {F FP:NP} {sl:Sl} {l:List Sp.Step} {B:List Int}
end
section
variable {w0 w w':World} {H H':NP} {k p c1 c2 c3 c4 c5:Addr} {ma mb:Nat} {L:Sp.Pool} {G:List Int} {S:List Sp.Way} {F FP:NP} {sl sl1 sl2:Sl} {l M M2:List Sp.Step} {B0 B B2:List Int} {t:Int}
end
end Go.Proofs
end
section
open Go Go.SE
namespace Go.Proofs
section
variable {H:Type} {enc:TypeId×Value→H} {P:Program} {W:World} {base:Nat} {sp:Nat→Bool} {held:Bool}
theorem row_lt {a:Addr} {v:Value} {vs:List Value} (h:Row W a (v :: vs)):a.block<W.heap.size:=by
 have:=h 0 (by simp);have:=World.block_lt_of_cell? W (a.add 0) this;rwa [jK] at this
theorem tX {α:Type} {tS e:TypeId} {sz:Nat} {f:α→List Value} (hS:P.underlying tS=some (.slice e)) (hc:P.cellsOf e=sz) (hf:∀a,∃v vs,f a=v :: vs) (x0:α)
  (hel:∀(n:Nat) (cs:List Value) (x:DataW H×List MemPlace),DataW.trod enc P W base sp held n e cs=some x→∃a,cs=f a) {n:Nat} {c:Value} {x:DataW H×List MemPlace} (h:DataW.trod enc P W base sp held n tS [c]=some x) :
  ∃s:Sl,∃xs:List α,c=s.v∧Lst (fun b=>b<W.heap.size) W sz s (xs.map f):=by
 cases n with
 | zero=>cases h
 | succ n =>
  rcases gB hS h with rfl | ⟨a,len,cap,rfl,hle,hcm,hall⟩
  ·exact ⟨Sl.nil,[],rfl,⟨rfl,fun i hi=>by simp at hi⟩⟩
  ·rw [hc] at hall
   have hex:∀i,∃q:α,i<len→Row W (a.add (i*sz)) (f q):=by
    intro i;by_cases hi:i<len
    ·obtain ⟨cs,y,h1,h2⟩:=hall i hi;obtain ⟨q,rfl⟩:=hel n cs y h2;exact ⟨q,fun _=>(jAC h1).2⟩
    ·exact ⟨x0,fun h=>absurd h hi⟩
   obtain ⟨q,hq⟩:=Classical.axiomOfChoice hex
   refine ⟨⟨some a,len,cap⟩,(List.range len).map q,rfl,⟨by simp,fun i hi=>?_⟩⟩
   have hi:i<len:=by simpa using hi
   have hr:=hq i hi
   obtain ⟨v,vs,e⟩:=hf (q i)
   refine ⟨a.add (i*sz),⟨by omega,by simpa using hi,a,rfl,by simp⟩,?_,by simpa using hr⟩
   rw [e] at hr;exact row_lt hr
theorem jAQ {t:TypeId} {fs:Array Field} (ht:P.underlying t=some (.struct fs)) {n:Nat} {cs:List Value} {x:DataW H×List MemPlace} (h:DataW.trod enc P W base sp held n t cs=some x) :
  ∃m,cs.length=P.cellsOf t∧∀(i:Nat) (f:Field),fs.toList[i]?=some f→∃y,DataW.trod enc P W base sp held m f.type ((cs.drop f.offset).take (P.cellsOf f.type))=some y:=by
 cases n with
 | zero=>cases h
 | succ n =>
  rw [DataW.trod_step] at h
  unfold DataW.trodStep at h
  rw [ht] at h
  simp only at h
  split at h
  ·rename_i hl
   cases hm:fs.toList.mapM (fun f=>DataW.trod enc P W base sp held n f.type ((cs.drop f.offset).take (P.cellsOf f.type))) with
   | none=>rw [hm] at h;cases h
   | some r =>
    refine ⟨n,hl,fun i f hf=>?_⟩
    obtain ⟨b,hb,_⟩:=(qQ hm).2 i f hf
    exact ⟨b,hb⟩
  ·cases h
end
section
variable {H:Type} {enc:TypeId×Value→H} {W:World} {base:Nat} {sp:Nat→Bool} {held:Bool}
end
end Go.Proofs
end
section
open Go Go.SE
namespace Go.Proofs
open Try
set_option maxRecDepth 100000 in
theorem jCU {H:Type} {enc:TypeId×Value→H} {W:World} {base:Nat} {sp:Nat→Bool} {held:Bool} {n:Nat} {cs:List Value} {x:DataW H×List MemPlace} (h:DataW.trod enc prog W base sp held n 49 cs=some x):∃s,cs=zU s:=by
 obtain ⟨m,hl,hf⟩:=jAQ underlying49 h;rw [show (prog.cellsOf 49)=5 by kernel_rfl] at hl;match cs,hl with
 | [c0,c1,c2,c3,c4],_ =>
  obtain ⟨_,h0⟩:=hf 0 _ rfl
  obtain ⟨_,h1⟩:=hf 1 _ rfl
  obtain ⟨_,h2⟩:=hf 2 _ rfl
  obtain ⟨_,h3⟩:=hf 3 _ rfl
  obtain ⟨_,h4⟩:=hf 4 _ rfl
  simp only [show (prog.cellsOf 3)=1 by kernel_rfl,show (prog.cellsOf 45)=1 by kernel_rfl,show (prog.cellsOf 9)=1 by kernel_rfl] at h0 h1 h2 h3 h4
  obtain ⟨m0,rfl⟩:=vA underlying3 h0
  obtain ⟨m1,rfl⟩:=vA underlying3 h1
  obtain ⟨m2,rfl⟩:=vA underlying3 h2
  obtain ⟨m3,rfl⟩:=vA underlying45 h3
  obtain ⟨m4,rfl⟩:=tH underlying9 h4
  exact ⟨⟨m0,m1,m2,m3,m4⟩,rfl⟩
set_option maxRecDepth 100000 in
theorem ops_in {H:Type} {enc:TypeId×Value→H} {W:World} {base:Nat} {sp:Nat→Bool} {held:Bool} {n:Nat} {c:Value} {x:DataW H×List MemPlace} (h:DataW.trod enc prog W base sp held n 23 [c]=some x):∃s:Sl,∃l:List Sp.Op,c=s.v∧Lst (fun b=>b<W.heap.size) W 5 s (l.map zU) :=
 tX (sz:=5) (f:=zU) underlying23 (by kernel_rfl) (fun a=>⟨_,_,rfl⟩) ⟨0,0,0,0,⟨#[]⟩⟩ (fun _ _ _ h=>jCU h) h
end Go.Proofs
end
