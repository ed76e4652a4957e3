import Derived.Test.YtkiijeiccioelaaGreatDoorPa5
import Derived.Test.YtkiijeiccioelaaGreatDoorPa4
import Derived.Test.YtkiijeiccioelaaGreatDoorPa3
import Derived.Test.YtkiijeiccioelaaGreatDoorProg
import Derived.KernelRfl
import Derived.Test.YtkiijeiccioelaaGreatDoorPa2
import Derived.ProofKit
import Derived.Carry
import Derived.OpenShut
import Derived.Stop.Joined
section
open Go Go.SE
namespace Go.Proofs
open Tryz
attribute [local irreducible] Calls CallsD
theorem jJN {w:World} {e:TypeId} {sz:Nat} {s:Sl} {rs:List (List Value)} (h:Rws w e sz s rs):s.a=none→s=Sl.nil:=by
 intro ha;rcases h.own with ⟨h,_⟩ | ⟨g,cur,h,_⟩
 ·exact h
 ·rw [ha] at h;cases h
theorem jRS (f:Fld):∀args w,(callFunc f.put args).run prog w=.ok (.enter f.put args) w:=by
 cases f
 ·exact call83
 ·exact call87
 ·exact call89
 ·exact call91
 ·exact call95
 ·exact call97
theorem jOX {P:Program} {T K E Q:TypeId} {w:World} {m:Nat} {es:List (Value×Value)} (h:CMap w m es) (hT:P.underlying T=some (.map K E)):(Builtin.len_ #[T] Q #[.map (some m)]).run P w=.ok (.int .i64 (es.length:Int)) w:=by
 obtain ⟨arr,clock,hm,rfl,_,_⟩:=h.ex;have hg:(getObj m).run P w=.ok (.map arr clock) w:=by simp [getObj,Sem.run,hm]
 simp [Builtin.len_,run_underlying hT,hg,goInt]
theorem jRN {n:Sp.Node} (h:Fld.fst∈kX n.kind):n.a∈Sp.jH n:=by
 unfold kX at h;unfold Sp.jH Sp.jF
 repeat' split at h
 all_goals first | (exfalso;revert h;decide) | skip
 all_goals (rename_i h1;rw [h1];simp)
theorem jRM {n:Sp.Node} (h:Fld.snd∈kX n.kind):n.b∈Sp.jH n:=by
 unfold kX at h;unfold Sp.jH Sp.jF
 repeat' split at h
 all_goals first | (exfalso;revert h;decide) | skip
 all_goals (rename_i h1;rw [h1];simp)
structure LaySep (p2 p3 p4 p6:Addr) (m mb:Nat) (FP F:NP) (B:Nat):Prop where
 lt:p2.block<B∧p3.block<B∧p4.block<B∧p6.block<B∧m<B∧mb<B
 lF:∀b,F b→b<B
 lP:∀b,FP b→b<B
 d3:p2.block≠p3.block∧p4.block≠p3.block∧p6.block≠p3.block∧mb≠p3.block∧m≠p3.block∧¬ F p3.block∧¬ FP p3.block
 db:p2.block≠mb∧p4.block≠mb∧p6.block≠mb∧m≠mb∧¬ F mb∧¬ FP mb
def LayV (p2 p3 p4 p6:Addr) (m mb:Nat) (FP F:NP) (s:Sl) (b:Nat):Prop :=
 b=p2.block∨b=p3.block∨b=p4.block∨b=p6.block∨b=m∨b=mb∨F b∨FP b∨s.blk b
structure LayAt (A:World) (p p2 p3 p4 p6:Addr) (m mb:Nat) (L:Sp.Pool) (FP F:NP) (s:Sl) (bs:List UInt8) (M:List (Int×Int)):Prop where
 b2:Box A p2 [.pointer (some p)] 27
 b3:Box A p3 [s.v] 25
 b4:Box A p4 [.map (some m)] 130
 b6:Box A p6 [.map (some mb)] 132
 rows:Rws A 5 1 s (byr bs)
 nums:IMap (fun i:Int=>.int .i64 i) A mb M
 kinds:Kinds A m F
 pool:jS A p L FP
section
variable {A A':World} {p p2 p3 p4 p6:Addr} {m mb B:Nat} {L:Sp.Pool} {FP F G:NP} {s s':Sl} {bs bs':List UInt8} {M:List (Int×Int)}
theorem LayAt.ext (h:LayAt A p p2 p3 p4 p6 m mb L FP F s bs M) (E:Ext G A A') (hG:∀b,LayV p2 p3 p4 p6 m mb FP F s b→¬ G b):LayAt A' p p2 p3 p4 p6 m mb L FP F s bs M :=
 ⟨h.b2.ext E (hG _ (.inl rfl)),h.b3.ext E (hG _ (.inr (.inl rfl))),h.b4.ext E (hG _ (.inr (.inr (.inl rfl)))),h.b6.ext E (hG _ (.inr (.inr (.inr (.inl rfl))))),
 h.rows.ext E (fun b hb=>hG b (.inr (.inr (.inr (.inr (.inr (.inr (.inr (.inr hb))))))))),h.nums.ext E (hG _ (.inr (.inr (.inr (.inr (.inr (.inl rfl))))))),
 h.kinds.ext E (fun b hb=>hb.elim (fun hb=>hG b (.inr (.inr (.inr (.inr (.inr (.inr (.inl hb)))))))) (fun e=>hG b (.inr (.inr (.inr (.inr (.inl e))))))),
 h.pool.ext E (fun b hb=>hG b (.inr (.inr (.inr (.inr (.inr (.inr (.inr (.inl hb)))))))))⟩
theorem LayAt.pure (h:LayAt A p p2 p3 p4 p6 m mb L FP F s bs M) (E:Pure A A'):LayAt A' p p2 p3 p4 p6 m mb L FP F s bs M:=h.ext E (fun _ _ h=>h)
theorem LayAt.lt (h:LayAt A p p2 p3 p4 p6 m mb L FP F s bs M) {b:Nat} (hb:LayV p2 p3 p4 p6 m mb FP F s b):b<A.heap.size:=by
 rcases hb with rfl | rfl | rfl | rfl | rfl | rfl | hb | hb | hb
 ·exact h.b2.lt
 ·exact h.b3.lt
 ·exact h.b4.lt
 ·exact h.b6.lt
 ·exact h.kinds.mlt
 ·exact h.nums.lt
 ·exact h.kinds.lt _ hb
 ·exact h.pool.lt hb
 ·exact h.rows.lt hb
theorem LayAt.put (h:LayAt A p p2 p3 p4 p6 m mb L FP F s bs M) (S:LaySep p2 p3 p4 p6 m mb FP F B) (hs:∀b,s.blk b→B≤b) (hs':∀b,s'.blk b→B≤b) (E:Ext s.blk A A') (hR:Rws A' 5 1 s' (byr bs')) :
  LayAt (A'.setCell p3 s'.v) p p2 p3 p4 p6 m mb L FP F s' bs' M∧Ext (fun b=>s.blk b∨b=p3.block) A (A'.setCell p3 s'.v):=by
 have E2:Ext (·=p3.block) A' (A'.setCell p3 s'.v):=Ext.setCell p3 _
 have EE:Ext (fun b=>s.blk b∨b=p3.block) A (A'.setCell p3 s'.v):=(E.mono (fun b _ h=>.inl h)).trans (E2.mono (fun b _ h=>.inr h))
 obtain ⟨l2,l3,l4,l6,lm,lb⟩:=S.lt
 obtain ⟨d2,d4,d6,d7,d8,d9,d10⟩:=S.d3
 have ns:∀b,b<B→¬ s.blk b:=fun b hb hh=>by have:=hs b hh;omega
 have b3:=(h.b3.ext E (ns _ l3)).set0 (v:=s'.v)
 refine ⟨⟨h.b2.ext EE ?_,b3,h.b4.ext EE ?_,h.b6.ext EE ?_,hR.ext E2 (fun b hb e=>by have:=hs' b hb;omega),h.nums.ext EE ?_,h.kinds.ext EE ?_,h.pool.ext EE ?_⟩,EE⟩
 ·rintro (hh | hh)
  ·exact ns _ l2 hh
  ·exact d2 hh
 ·rintro (hh | hh)
  ·exact ns _ l4 hh
  ·exact d4 hh
 ·rintro (hh | hh)
  ·exact ns _ l6 hh
  ·exact d6 hh
 ·rintro (hh | hh)
  ·exact ns _ lb hh
  ·exact d7 hh
 ·rintro b (hb | rfl) (hh | hh)
  ·exact ns _ (S.lF b hb) hh
  ·subst hh;exact d9 hb
  ·exact ns _ lm hh
  ·exact d8 hh
 ·rintro b hb (hh | hh)
  ·exact ns _ (S.lP b hb) hh
  ·subst hh;exact d10 hb
end
theorem c_lay (p:Addr) (t:Int) (w0:World) {L:Sp.Pool} {FP:NP} (hW:Sp.Wf L) (hN:Sp.qX L) (hP:jS w0 p L FP) :
  Calls prog 48 #[.pointer (some p),.int .i64 t] w0 (fun e w'=>∃r:Sl,e=.returned r.v∧RetO w0 5 1 (byr (kS L t)) r w'):=by
 refine w_F1 _ _ w0 (fun r w'=>RetO w0 5 1 (byr (kS L t)) r w') ?_
 unfold m_F1
 intro p2 w1 h1 p3 w2 h2
 have E1:Pure w0 w1:=Ext.new h1
 have E2:Pure w1 w2:=Ext.new h2
 have B2:=(Box.of_new h1).pure E2
 have B3:=Box.of_new h2
 have s1:=h1.at_size;have s2:=h2.at_size;have l2:=(Box.of_new h1).lt;have l3:=B3.lt;have z1:=E1.size;have z2:=E2.size
 refine (jPG w2).mono ?_
 rintro _ w3 ⟨_,rfl,m,F,rfl,hK,E3,hm,hF⟩
 have z3:=E3.size
 have lm:=hK.mlt
 refine ⟨_,rfl,E3.keptP,?_⟩
 intro p4 w4 h4
 have E4:Pure w3 w4:=Ext.new h4
 have B4:=Box.of_new h4
 have s4:=h4.at_size;have l4:=B4.lt;have z4:=E4.size
 refine ⟨B4.canW0 (by simp),fun h=>h,?_⟩
 rintro w5 h5
 have X5:Ext (·=p4.block) w4 w5:=by rw [h5];exact Ext.setCell p4 _
 have B4':Box w5 p4 [.map (some m)] 130:=by rw [h5];exact B4.set0
 have z5:=X5.size
 intro p5 w6 h6
 have E6:Pure w5 w6:=Ext.new h6
 have M5:=IMap.of_new (f:=fun i:Int=>.int .i64 i) h6
 have s6:=h6.at_size;have l5:=M5.lt;have z6:=E6.size
 intro p6 w7 h7
 have E7:Pure w6 w7:=Ext.new h7
 have B6:=Box.of_new h7
 have s7:=h7.at_size;have l6:=B6.lt;have z7:=E7.size
 refine ⟨B6.canW0 (by simp),fun h=>h,?_⟩
 rintro w8 h8
 have X8:Ext (·=p6.block) w7 w8:=by rw [h8];exact Ext.setCell p6 _
 have B6':Box w8 p6 [.map (some p5.block)] 132:=by rw [h8];exact B6.set0
 have z8:=X8.size
 have E08:Pure w0 w8:=((((((E1.trans E2).trans E3).trans E4).own (by omega) X5).trans E6).trans E7).own (by omega) X8
 have P8:=hP.pure E08
 have up:∀{T:TypeId} {c:Addr} {vs:List Value},Box w5 c vs T→c.block≠p6.block→Box w8 c vs T:=fun h h2=>((h.pure E6).pure E7).ext X8 h2
 have up3:∀{T:TypeId} {c:Addr} {vs:List Value},Box w2 c vs T→c.block≠p4.block→c.block≠p6.block→Box w8 c vs T:=fun h h1 h2=>up (((h.pure E3).pure E4).ext X5 h1) h2
 have B28:=up3 B2 (by omega) (by omega)
 have B38:=up3 B3 (by omega) (by omega)
 have B48:=up B4' (by omega)
 have M58:=(M5.pure E7).ext X8 (by omega)
 have hFlt:=hK.lt
 have K8:Kinds w8 m F:=(((((hK.pure E4).ext X5 (fun b hb e=>hb.elim (fun hb=>by have:=hFlt b hb;omega) (fun hb=>by omega))).pure E6).pure E7).ext X8 (fun b hb e=>hb.elim (fun hb=>by have:=hFlt b hb;omega) (fun hb=>by omega)))
 refine ⟨some p,B28.cell0,?_⟩
 refine (jPJ p t w8).mono ?_
 rintro _ w9 ⟨_,rfl,q2,q3,rfl,Bq2,Bq3,E9⟩
 have z9:=E9.size
 have E09:=E08.trans E9
 refine ⟨_,rfl,E9.keptP,_,_,rfl,call99,_,_,jIO hW (P8.pure E9) Bq2 Bq3,?_⟩
 have hPlt:∀b,FP b→b<w0.heap.size:=fun b hb=>hP.lt hb
 have S:LaySep p2 p3 p4 p6 m p5.block FP F w9.heap.size:=⟨⟨by omega,by omega,by omega,by omega,by omega,by omega⟩,fun b hb=>by have:=hFlt b hb;omega,fun b hb=>by have:=hPlt b hb;omega,
  ⟨by omega,by omega,by omega,by omega,by omega,fun hb=>by have:=hF _ hb;omega,fun hb=>by have:=hPlt _ hb;omega⟩,⟨by omega,by omega,by omega,by omega,fun hb=>by have:=hFlt _ hb;omega,fun hb=>by have:=hPlt _ hb;omega⟩⟩
 have A9:LayAt w9 p p2 p3 p4 p6 m p5.block L FP F Sl.nil [] []:=⟨B28.pure E9,B38.pure E9,B48.pure E9,B6'.pure E9,Rws.nil _ _ _,M58.pure E9,K8.pure E9,P8.pure E9⟩
 have hnil:∀b,¬ Sl.nil.blk b:=fun b hb=>by obtain ⟨a,h,_⟩:=hb;cases h
 have hfew:=Sp.xA hW t
 have hsub:∀u∈Sp.qO L t,Sp.inP L u=true:=fun u hu=>have h:=(Sp.jBC hW).1 hu;(Sp.Sub.le hW h.1 h.2).1
 have hord:=Sp.jJM hW t
 have hnd:=Sp.tV hW t
 have htx:kS L t=textFrom L [] (Sp.qO L t):=rfl
 rw [htx]
 generalize hxs:Sp.qO L t=xs at *
 have hL:=hW.ok.few
 generalize hB:w9.heap.size=B at *
 have hw3:w0.heap.size≤p3.block:=by omega
 have hw5:w0.heap.size≤p5.block:=by omega
 have hwB:w0.heap.size≤B:=by omega
 generalize p5.block=mb at *
 clear up up3 B28 B38 B48 M58 K8 P8 B2 B3 B4 B4' M5 B6 B6' X5 X8 E1 E2 E3 E4 E6 E7 h1 h2 h4 h5 h6 h7 h8 hK hF hFlt Bq2 Bq3
 refine ⟨fun pre Y A=>∃s:Sl,LayAt A p p2 p3 p4 p6 m mb L FP F s (textFrom L [] pre) (vS 0 pre)∧(∀b,s.blk b→B≤b)∧(∀b,LayV p2 p3 p4 p6 m mb FP F s b→¬ Y b)∧B≤A.heap.size∧Pure w0 A,⟨fun _ _ _ _=>trivial,?_,fun _ _ _ _ _ h=>h.elim,fun _ _ _ _ _ h=>h.elim⟩,?_,?_,?_⟩
 ·rintro pre Y A Y' A' ⟨s,hA,hs,hv,hz,hE⟩ hst
  have hv':∀b,LayV p2 p3 p4 p6 m mb FP F s b→¬ Y' b:=hst.disj (fun b hb=>⟨hA.lt hb,hv b hb⟩)
  exact ⟨s,hA.ext hst.ext hv',hs,hv',Nat.le_trans hz hst.ext.size,hE.hst hst⟩
 ·exact ⟨Sl.nil,A9,fun b hb=>(hnil b hb).elim,fun b _ h=>h,by omega,E09⟩
 ·rintro pre z Y A ⟨s,hA,hs,hv,hz,hE⟩ hsA ⟨post,hpost⟩
  have hzin:Sp.inP L z=true:=hsub z (by rw [hpost];simp)
  have hprein:∀u∈pre,Sp.inP L u=true:=fun u hu=>hsub u (by rw [hpost];simp [hu])
  have hplen:pre.length<65536:=by have:=congrArg List.length hpost;simp only [List.length_append,List.length_cons] at this;omega
  have hzn:z ∉ pre:=by
   rw [hpost] at hnd;have:=(List.nodup_append.1 hnd).2.2;exact fun h=>this z h z (by simp) rfl
  have hbs:=jFN hW hN pre [] hprein (by simp only [List.length_nil];omega)
  refine ⟨some p,hA.b2.cell0,?_⟩
  refine (jHN p z A hA.pool hW.ok).mono ?_
  rintro _ w10 ⟨k,r,t',u,x,a,b,r3,rfl,⟨hn,_⟩,E10⟩
  refine ⟨_,_,_,_,_,_,_,_,rfl,E10.keptP,fun H1 w12 hs12=>?_⟩
  obtain ⟨k1,k9,f0,f1,t0,t1,x1⟩:=Sp.lJ hW hzin
  have hnum:=hN.node z
  have hko:=hord pre z post hpost
  have hnt:kV L pre z=UInt8.ofNat k.toNat :: (kX k).flatMap (Fld.bytes ⟨k,r,t',u,x,a,b⟩ (posOf pre a) (posOf pre b)):=by rw [kV,← hn]
  rw [← hn] at k1 k9 f0 f1 t0 t1 x1 hnum hko
  simp only at k1 k9 f0 f1 t0 t1 x1 hnum
  have hold:∀b,H1 b→A.heap.size≤b:=hs12.old
  have A12:=(hA.pure E10).ext hs12.ext (fun b hb hh=>by have:=hold b hh;have:=hA.lt hb;omega)
  have E012:Pure w0 w12:=(hE.trans E10).trans' hs12.ext (fun i hi hh=>by have:=hold i hh;have:=hE.size;omega)
  have k12:Kept Y A w12:=(E10.keptP).trans (hs12.ext.kept (fun b hb hh=>by have:=hold b hh;have:=hsA.lt b hb;omega))
  have z10:=E10.size
  have z12:=hs12.ext.size
  refine ⟨s,A12.b3.cell0,fun p8 w13 h8=>?_⟩
  have E13:Pure w12 w13:=Ext.new h8
  have A13:=A12.pure E13
  have z13:=E13.size
  obtain ⟨kn,rfl⟩:∃kn:Nat,k=kn:=⟨k.toNat,by omega⟩
  simp only [Int.toNat_natCast] at hnt
  rw [lZ] at h8
  obtain ⟨s1,w14,hr,hR,hEx,hb⟩:=A13.rows.append (P:=prog) (ty:=25) (c:=1) oV (Box.of_newA h8).row rfl rfl (by rw [zN];omega) (by rw [zN];simp only [maxLen];omega)
  have hs1:∀b,s1.blk b→B≤b:=fun b hh=>(hb b hh).elim (hs b) (fun h=>by omega)
  have hy1:∀b,s1.blk b→¬ Y b:=fun b hh hY=>(hb b hh).elim (fun h=>hv b (.inr (.inr (.inr (.inr (.inr (.inr (.inr (.inr h)))))))) hY) (fun h=>by have:=hsA.lt b hY;omega)
  have h3A:p3.block<A.heap.size:=hA.b3.lt
  have hH3:¬ H1 p3.block:=fun h=>by have:=hold _ h;omega
  have hHs:∀b,H1 b→¬ s.blk b:=fun b hh hb=>by have:=hold b hh;have:=hA.rows.lt hb;omega
  have hY3:¬ Y p3.block:=hv _ (.inr (.inl rfl))
  have hYs:∀b,Y b→¬ s.blk b:=fun b hY hb=>hv b (.inr (.inr (.inr (.inr (.inr (.inr (.inr (.inr hb)))))))) hY
  refine ⟨s1,w14,hr,hEx.kept hHs,((A13.b3.ext hEx (fun hb=>by have:=hs _ hb;have:=S.lt;omega)).canW0 (by simp)),hH3,?_⟩
  rintro w15 h15
  have hR':Rws w14 5 1 s1 (byr (textFrom L [] pre++[UInt8.ofNat kn])):=by rw [jJJ];exact hR
  obtain ⟨A15,X15⟩:=A13.put S hs hs1 hEx hR'
  rw [← h15] at A15 X15
  have E015:Pure w0 w15:=(E012.trans E13).trans' X15 (fun i hi hh=>hh.elim (fun hh=>by have:=hs _ hh;omega) (fun hh=>by omega))
  have k15:Kept Y A w15:=(k12.trans E13.keptP).trans (X15.kept (fun b hY hh=>hh.elim (hYs b hY) (fun e=>by subst e;exact hY3 hY)))
  have z15:=X15.size
  obtain ⟨fs,hlk,hLf⟩:=A15.kinds.get kn k1 k9 false
  refine ⟨some m,A15.b4.cell0,fs,hlk,?_⟩
  have hfl3:=jBK kn
  refine ⟨fun y H w=>∃(j:Nat) (s:Sl),y=j∧j≤(kX kn).length∧H=H1∧LayAt w p p2 p3 p4 p6 m mb L FP F s (textFrom L [] pre++UInt8.ofNat kn :: ((kX kn).take j).flatMap (Fld.bytes ⟨kn,r,t',u,x,a,b⟩ (posOf pre a) (posOf pre b))) (vS 0 pre)∧Lst F w 2 fs ((kX kn).map Fld.row)∧(∀b,s.blk b→B≤b)∧(∀b,s.blk b→¬ Y b)∧Kept Y A w∧Pure w0 w∧A.heap.size≤w.heap.size,fun y _=>(((kX kn).length:Int) - y).toNat,⟨0,s1,rfl,Nat.zero_le _,rfl,by simpa using A15,hLf,hs1,hy1,k15,E015,by omega⟩,?_⟩
  rintro _ _ wl hst ⟨j,s2,rfl,hj,rfl,A2,hL2,hs2,hy2,k2,E2,z2⟩
  unfold m_F1_l1
  have hlen:fs.len=(kX kn).length:=by rw [hL2.len,List.length_map]
  refine ⟨fun hc=>?_,fun hc=>?_⟩
  ·have hc:=jCL hlen hc
   obtain ⟨a1,hat,hF1,hrow⟩:=hL2.at_ j (by simpa using hc)
   rw [List.getElem_map] at hrow
   refine ⟨a1,hat,.func (.func (kX kn)[j].put) #[] #[],.func (.func (kX kn)[j].get) #[] #[],hrow,fun p9 w16 h9=>?_⟩
   have E16:Pure wl w16:=Ext.new h9
   have B9:=Box.of_newA h9
   have s9:=h9.at_size
   have z16:=E16.size
   refine ⟨⟨rfl,B9.canWs (by simp)⟩,fun hh=>by have:=hst.lt _ hh;omega,?_⟩
   rintro w17 h17
   have X17:Ext (·=p9.block) w16 w17:=by rw [h17];exact Ext.storeRow _ _ _
   have B9':Box w17 p9 [.func (.func (kX kn)[j].put) #[] #[],.func (.func (kX kn)[j].get) #[] #[]] 140:=by rw [h17];exact B9.store rfl
   have A17:=(A2.pure E16).ext X17 (fun b hb e=>by have:=A2.lt hb;omega)
   have L17:=(hL2.pure E16).ext X17 (fun b hb e=>by have:=A2.kinds.lt b hb;omega)
   have z17:=X17.size
   have E017:Pure w0 w17:=(E2.trans E16).own (by have:=E2.size;omega) X17
   have k17:Kept Y A w17:=(k2.trans E16.keptP).trans (X17.kept (fun b hY e=>by have:=hsA.lt b hY;omega))
   refine ⟨_,B9'.cell0,s2,A17.b3.cell0,some mb,A17.b6.cell0,_,#[],#[],rfl,jRS _,?_⟩
   simp only [Array.empty_append,Array.append_empty]
   have hbl:=jCR (Fld.bytes ⟨kn,r,t',u,x,a,b⟩ (posOf pre a) (posOf pre b)) 74 ((kX kn).take j) (fun f _=>jIV _ _ _ f f1 t1 hnum x1 (by have:=qP pre a;omega) (by have:=qP pre b;omega))
   have hbl2:((kX kn).take j).length≤3:=by rw [List.length_take];omega
   have hbn:(textFrom L [] pre++UInt8.ofNat kn :: ((kX kn).take j).flatMap (Fld.bytes ⟨kn,r,t',u,x,a,b⟩ (posOf pre a) (posOf pre b))).length≤10000000000:=by
    rw [List.length_append,List.length_cons];omega
   refine (c_put (kX kn)[j] s2 _ ⟨kn,r,t',u,x,a,b⟩ (posOf pre a) (posOf pre b) mb (vS 0 pre) w17 A17.rows.lst (jJN A17.rows) hbn ⟨f0,by simp only;omega⟩ ⟨t0,by simp only;omega⟩ hnum (by simp only;omega) A17.nums (fun e=>?_) (fun e=>?_)).mono ?_
   ·have hmem:a∈pre:=hko _ (jRN (n:=⟨kn,r,t',u,x,a,b⟩) (by rw [← e];exact List.getElem_mem _))
    exact ⟨by rw [jAP pre a hmem 0];simp,by have:=qP pre a;omega⟩
   ·have hmem:b∈pre:=hko _ (jRM (n:=⟨kn,r,t',u,x,a,b⟩) (by rw [← e];exact List.getElem_mem _))
    exact ⟨by rw [jAP pre b hmem 0];simp,by have:=qP pre b;omega⟩
   rintro _ w18 ⟨r4,rfl,hR4⟩
   have E18:=hR4.pure
   have z18:=E18.size
   refine ⟨r4,rfl,hR4.kept,(A17.b3.pure E18).canW0 (by simp),hH3,?_⟩
   rintro w19 h19
   have hs4:∀b,r4.blk b→B≤b:=fun b hb=>by have:=hR4.own b hb;omega
   have hR5:Rws w18 5 1 r4 (byr (textFrom L [] pre++UInt8.ofNat kn :: ((kX kn).take (j+1)).flatMap (Fld.bytes ⟨kn,r,t',u,x,a,b⟩ (posOf pre a) (posOf pre b)))):=by
    have e:textFrom L [] pre++UInt8.ofNat kn :: ((kX kn).take (j+1)).flatMap (Fld.bytes ⟨kn,r,t',u,x,a,b⟩ (posOf pre a) (posOf pre b))=(textFrom L [] pre++UInt8.ofNat kn :: ((kX kn).take j).flatMap (Fld.bytes ⟨kn,r,t',u,x,a,b⟩ (posOf pre a) (posOf pre b)))++(kX kn)[j].bytes ⟨kn,r,t',u,x,a,b⟩ (posOf pre a) (posOf pre b):=by
     rw [List.take_succ_eq_append_getElem hc,List.flatMap_append];simp
    rw [e];exact hR4.rows
   obtain ⟨A19,X19⟩:=A17.put S hs2 hs4 E18.pure hR5
   rw [← h19] at A19 X19
   have z19:=X19.size
   refine ⟨⟨j+1,r4,kQ hc (by omega),hc,trivial,A19,L17.ext X19 (fun b hb hh=>?_),hs4,fun b hb hY=>by have:=hR4.own b hb;have:=hsA.lt b hY;omega,k17.trans (X19.kept (fun b hY hh=>hh.elim (fun h=>hy2 b h hY) (fun e=>by subst e;exact hY3 hY))),E017.trans' X19 (fun i hi hh=>hh.elim (fun hh=>by have:=hs2 _ hh;omega) (fun hh=>by omega)),by omega⟩,?_⟩
   ·rcases hh with hh | hh
    ·have:=hs2 b hh;have:=S.lF b hb;omega
    ·subst hh;exact S.d3.2.2.2.2.2.1 hb
   ·rw [kQ hc (by omega)];exact jNV hc
  ·have hc:=jGZ hlen hj hc
   subst hc
   rw [List.take_length] at A2
   have e:textFrom L [] (pre++[z])=textFrom L [] pre++UInt8.ofNat kn :: (kX kn).flatMap (Fld.bytes ⟨kn,r,t',u,x,a,b⟩ (posOf pre a) (posOf pre b)):=by rw [oT,List.nil_append,hnt]
   have hlk0:SE.look (vS 0 pre) z=none:=uP.2 (by rw [jGF];exact hzn)
   obtain ⟨w20,hr20,hM20,X20⟩:=A2.nums.put (P:=prog) (T:=132) underlying132 underlying29 hlk0 ((pre.length:Nat):Int)
   have hz3:(Builtin.len_ #[132] 3 #[.map (some mb)]).run prog wl=.ok (.int .i64 ((pre.length:Nat):Int)) wl:=by
    have:=jOX A2.nums.map (P:=prog) (T:=132) (Q:=3) underlying132;rw [List.length_map,jIH] at this;exact this
   have hYb:¬ Y mb:=hv _ (.inr (.inr (.inr (.inr (.inr (.inl rfl))))))
   have kk:∀{H:NP},¬ H mb→Kept H wl w20:=fun h=>X20.kept (fun b hb e=>by subst e;exact h hb)
   have hmbA:mb<A.heap.size:=hA.nums.lt
   refine ⟨some mb,A2.b6.cell0,some mb,A2.b6.cell0,_,hz3,w20,hr20,kk (fun h=>by have:=hold _ h;omega),k2.trans (kk hYb),s2,?_,hs2,fun b hb hY=>?_,by have:=X20.size;have:=E2.size;omega,E2.trans' X20 (fun i hi e=>by omega)⟩
   ·rw [e,jGE,Nat.zero_add]
    obtain ⟨g1,g2,g3,g4,g5,g6⟩:=S.db
    exact ⟨A2.b2.ext X20 g1,A2.b3.ext X20 (fun e=>S.d3.2.2.2.1 e.symm),A2.b4.ext X20 g2,A2.b6.ext X20 g3,A2.rows.ext X20 (fun b hb e=>by have:=hs2 b hb;have:=S.lt;omega),hM20,A2.kinds.ext X20 (fun b hb e=>hb.elim (fun hb=>by subst e;exact g5 hb) (fun hb=>g4 (hb▸e))),A2.pool.ext X20 (fun b hb e=>by subst e;exact g6 hb)⟩
   ·rcases hb with hb | hb | hb | hb | hb | hb | hb | hb | hb
    ·exact hv b (.inl hb) hY
    ·exact hv b (.inr (.inl hb)) hY
    ·exact hv b (.inr (.inr (.inl hb))) hY
    ·exact hv b (.inr (.inr (.inr (.inl hb)))) hY
    ·exact hv b (.inr (.inr (.inr (.inr (.inl hb))))) hY
    ·exact hv b (.inr (.inr (.inr (.inr (.inr (.inl hb)))))) hY
    ·exact hv b (.inr (.inr (.inr (.inr (.inr (.inr (.inl hb))))))) hY
    ·exact hv b (.inr (.inr (.inr (.inr (.inr (.inr (.inr (.inl hb)))))))) hY
    ·exact hy2 b hb hY
 ·rintro H2 w21 hs21 _ _ ⟨s,hA,hs,hv,hz,hE⟩
  refine ⟨s,hA.b3.cell0,fun w22 hs22=>⟨hA.rows.ext hs22.ext (fun b hb=>hv b (.inr (.inr (.inr (.inr (.inr (.inr (.inr (.inr hb))))))))),fun b hb=>by have:=hs b hb;omega,hE.hst hs22⟩⟩
theorem jSC (p:Addr) (t:Int) (w0:World) {L:Sp.Pool} {FP:NP} (hW:Sp.Wf L) (hN:Sp.qX L) (hP:jS w0 p L FP) :
  Calls prog 23 #[.pointer (some p),.int .i64 t] w0 (fun e w'=>∃r:Sl,∃n:Int,e=.returned (.tuple #[r.v,.int .i64 n])∧(n=(jIZ L t).2∧RetO w0 5 1 (byr (jIZ L t).1) r w')):=by
 refine w_N2 _ _ w0 (fun r n w'=>n=(jIZ L t).2∧RetO w0 5 1 (byr (jIZ L t).1) r w') ?_
 unfold m_N2
 have hnil:∀b,¬ Sl.nil.blk b:=fun b hb=>by obtain ⟨a,h,_⟩:=hb;cases h
 refine (jHN p t w0 hP hW.ok).mono ?_
 rintro _ w1 ⟨k,r,t',u,x,a,b,r3,rfl,⟨hn,rfl⟩,E1⟩
 refine ⟨_,_,_,_,_,_,_,_,rfl,E1.keptP,fun hc H1 w3 hs3=>?_,fun hc H1 w3 hs3=>?_⟩
 ·have hin:Sp.inP L t=false:=by simpa using hc
  have e:jIZ L t=([],51):=by unfold jIZ;rw [hin];rfl
  rw [e]
  exact ⟨rfl,Rws.nil _ _ _,fun b hb=>(hnil b hb).elim,E1.hst hs3⟩
 ·have hin:Sp.inP L t=true:=by simpa using hc
  have E3:Pure w0 w3:=E1.hst hs3
  refine (c_lay p t w3 hW hN (hP.pure E3)).mono ?_
  rintro _ w4 ⟨r2,rfl,h⟩
  have hl:r2.len=(kS L t).length:=by rw [h.rows.len,zN]
  refine ⟨r2,rfl,h.kept,fun hc=>?_,fun hc=>?_⟩
  ·have hc:=of_decide_eq_true hc
   have e:jIZ L t=([],1):=by unfold jIZ;rw [hin,if_pos rfl,if_pos (by omega)]
   rw [e]
   exact ⟨rfl,Rws.nil _ _ _,fun b hb=>(hnil b hb).elim,E3.trans h.pure⟩
  ·have hc:=of_decide_eq_false hc
   have e:jIZ L t=(kS L t,0):=by unfold jIZ;rw [hin,if_pos rfl,if_neg (by omega)]
   rw [e]
   exact ⟨rfl,h.rows,fun b hb=>by have:=h.own b hb;have:=E3.size;omega,E3.trans h.pure⟩
end Go.Proofs
end
section
open Go Go.SE
namespace Go.Proofs
attribute [local irreducible] Calls
section
variable {w w':World} {e:TypeId} {s:Sl} {n:Nat} {V:Int→Bool}
end
end Go.Proofs
end
section
open Go Go.SE
namespace Go.Proofs
attribute [local irreducible] Calls CallsD
structure TxSep (w0:World) (q:Addr) (FR:NP) (s1 r1:Sl) (B:Nat):Prop where
 lR:∀x,FR x→x<B
 lr:∀x,r1.blk x→x<B
 ls:∀x,s1.blk x→x<B∧w0.heap.size≤x∧¬ FR x∧¬ r1.blk x
 base:w0.heap.size≤B
section
variable {w0 w w':World} {H H':NP} {q:Addr} {L:Sp.Pool} {FR:NP} {s1 r1:Sl} {A xs:List Int} {B:Nat} {b b':Sl} {bs bs':List UInt8}
end
section
variable (w0:World) (q:Addr) {L:Sp.Pool} (hW:Sp.Wf L) (hN:Sp.qX L) {FR:NP} {s1 r1:Sl} {A xs:List Int} {B:Nat} (S:TxSep w0 q FR s1 r1 B) (i1:Int) (n:Sp.Node) (na nb:Nat)
include S
end
end Go.Proofs
end
section
open Go Go.SE
namespace Go.Sp
open Go.Proofs
def lU (l:Letter):List UInt8×Int:=if (jR [] l).2.1≠0 then ([],(jR [] l).2.1) else jIZ (jR [] l).2.2 (jR [] l).1
theorem uB {k f t u:Int} {x:ByteArray} {a:Tree} (h:vU u) (ha:NumT a):NumT (.mk k f t u x [a]):=.mk _ _ _ _ _ _ h (fun i hi=>by
 have:i=0:=by simpa using hi
 subst this;exact ha)
theorem uA {k f t u:Int} {x:ByteArray} {a b:Tree} (h:vU u) (ha:NumT a) (hb:NumT b):NumT (.mk k f t u x [a,b]):=.mk _ _ _ _ _ _ h (fun i hi=>by
 have:i=0∨i=1:=by simp at hi;omega
 rcases this with rfl | rfl
 ·exact ha
 ·exact hb)
theorem vD {k f t u:Int} {x:ByteArray} (h:vU u):NumT (.mk k f t u x []):=.mk _ _ _ _ _ _ h (fun i hi=>by simp at hi)
theorem jCI:vU 0:=⟨by decide,by decide⟩
theorem jNQ {c:Int} {x:ByteArray} (h:vU c):NumT (qN c x):=uA jCI (vD jCI) (uA jCI (vD h) (vD jCI))
theorem jIG {l:Letter} (h:vU l.c) (a b:Bool):NumT (zJ l a b):=by
 unfold zJ;have hd:=jNQ (x:=l.text) h;split;· exact uB jCI hd
 split;· exact uB jCI hd
 split;· exact uB jCI (uA jCI (vD jCI) (vD h))
 split;· exact uB jCI (uA jCI (vD jCI) (uA jCI (uB jCI hd) (uB jCI hd)))
 split;· exact uB jCI (uA jCI (vD jCI) (vD h))
 split;· exact uB jCI (uA jCI (vD jCI) hd)
 exact uA jCI (vD jCI) (vD h)
theorem oL {L:Pool} (hN:qX L) {l:Letter} (h:vU l.c):qX (jR L l).2.2:=by
 unfold jR;split
 ·exact hN
 ·exact hN.of (jIG h _ _)
theorem jMF {L:Pool} (hok:Ok L) (l:Letter):∃M,(jR L l).2.2=L++M:=by
 unfold jR;split
 ·exact ⟨[],(List.append_nil L).symm⟩
 ·exact jQZ hok _
end Go.Sp
end
section
open Go Go.SE
namespace Go.Proofs
open Tryz
attribute [local irreducible] Calls
theorem jDI (p:Option Addr) (t:Int) (w:World) {L:Sp.Pool} {F:NP} (hP:jDB w p L F) (hok:Sp.Ok L) :
  Calls prog 8 #[.pointer p,.int .i64 t] w
   (fun e w'=>∃k:Int,∃f:Int,∃c:Int,∃x:ByteArray,∃fk:Bool,∃ok:Bool,e=.returned (.tuple #[.agg #[.int .i64 k,.int .i64 f,.int .u64 c,.string x,.bool fk],.bool ok])∧(((⟨k,f,c,x,fk⟩:Sp.Letter),ok)=Sp.jKY L t∧Pure w w')):=by
 suffices key:∀K:Int→Int→Int→ByteArray→Bool→Bool→WP,(∀k f c x fk ok w',(((⟨k,f,c,x,fk⟩:Sp.Letter),ok)=Sp.jKY L t∧Pure w w')→K k f c x fk ok w')→m_I p t w K from
  w_I _ _ w _ (key _ (fun _ _ _ _ _ _ _ h=>h))
 intro K hK
 unfold m_I
 intro p2 w1 h1 p3 w2 h2
 have E1:Pure w w1:=Ext.new h1
 have E2:Pure w w2:=E1.trans (Ext.new h2)
 have o2:=New.own (Ext.refl w) h1
 have o3:=New.own E1 h2
 have n23:p2.block≠p3.block:=New.ne h2 (Box.of_new h1).blk
 have b2:Box w2 p2 lz 24:=(Box.of_new h1).pure (Ext.new h2)
 have hout:¬ F p3.block:=fun h=>by have:=hP.lt h;omega
 have hR2:ReaderAt w2 p3 p false L F:=⟨Box.of_new h2,hP.pure E2,hok,hout⟩
 refine (jJI p t w2 hR2.pool hok).mono ?_
 rintro _ w3 ⟨k,f,t',u,x,a,b,ok,rfl,⟨hn,_⟩,E23⟩
 refine ⟨_,_,_,_,_,_,_,_,rfl,?_⟩
 intro p4 w4 h4
 have E3:Pure w2 w3:=E23
 have o4:=New.own (Ext.refl w3) h4
 have l3:=(hR2.pure E3).box.lt
 have l2:=(b2.pure E3).lt
 refine bx 7 (Box.of_new h4) rfl rfl (fun w5 b4 E'=>?_)
 have E5:Pure w3 w5:=Ext.own (Ext.new h4) o4 E'
 intro p5 w6 h6
 have E6:Pure w3 w6:=E5.trans (Ext.new h6)
 have o5:=New.own E5 h6
 have n45:p4.block≠p5.block:=New.ne h6 b4.blk
 have c4:=b4.pure (Ext.new h6:Pure w5 w6)
 have c5:Box w6 p5 lz 24:=Box.of_new h6
 have c2:=b2.pure (E3.trans E6)
 have hR6:=hR2.pure (E3.trans E6)
 have E26:Pure w w6:=(E2.trans E3).trans E6
 clear E' h1 h2 h4 h6
 have n35:p3.block≠p5.block:=by omega
 have n25:p2.block≠p5.block:=by omega
 have hq:Sp.uN L t=if k=7 then Sp.zY L f a else if k=8∨k=9 then Sp.jO L t else if ((Sp.jV L t).2 || !decide ((Sp.jV L t).1.1=Sp.jHT))=true then (Sp.uC,true) else (⟨7,0,(Sp.jZ L (Sp.jV L t).1.2 2).1.num,⟨#[]⟩,false⟩,(Sp.jZ L (Sp.jV L t).1.2 2).2):=by
  simp only [Sp.uN,← hn]
 have bad1 : ∀ (w8 : World), (Sp.uN L t).2 = true → Ext (fun b => b = p3.block ∨ b = p5.block) w6 w8 → (∀ j, j < 5 → jT w8 (p2.add j)) ∧ ∀ w9 : World, w9 = storeRow w8 p2 [(.int .i64 0), (.int .i64 0), (.int .u64 0), (.string (⟨#[]⟩ : ByteArray)), (.bool false)] →
   ∃qKind1:Int,∃qFrom1:Int,∃qC1:Int,∃qText1:ByteArray,∃qFake1:Bool,Row w9 p2 [(.int .i64 qKind1),(.int .i64 qFrom1),(.int .u64 qC1),(.string qText1),(.bool qFake1)]∧K qKind1 qFrom1 qC1 qText1 qFake1 false w9:=by
  intro w8 hb E8
  refine bx 5 (c2.ext E8 (by rintro (h | h) <;> omega)) rfl rfl (fun w9 b9 E9=>⟨0,0,0,⟨#[]⟩,false,b9.row,hK _ _ _ _ _ _ _ ⟨?_,?_⟩⟩)
  ·rw [Sp.jKY,if_pos hb];rfl
  ·exact (E26.trans' E8 (fun i hi h=>by rcases h with h | h <;> omega)).trans' E9 (fun i hi h=>by omega)
 have good1 : ∀ (w8 : World) (l : Sp.Letter), Sp.uN L t = (l, false) → Ext (fun b => b = p3.block ∨ b = p5.block) w6 w8 → Box w8 p5 [.int .i64 l.kind, .int .i64 l.frm, .int .u64 l.c, .string l.text, .bool l.fake] 24 →
   ∃vKind1:Int,∃vFrom1:Int,∃vC1:Int,∃vText1:ByteArray,∃vFake1:Bool,Row w8 p5 [(.int .i64 vKind1),(.int .i64 vFrom1),(.int .u64 vC1),(.string vText1),(.bool vFake1)] ∧
   (∀j,j<5→jT w8 (p2.add j))∧∀w9:World,w9=storeRow w8 p2 [(.int .i64 vKind1),(.int .i64 vFrom1),(.int .u64 vC1),(.string vText1),(.bool vFake1)] →
   ∃qKind1:Int,∃qFrom1:Int,∃qC1:Int,∃qText1:ByteArray,∃qFake1:Bool,Row w9 p2 [(.int .i64 qKind1),(.int .i64 qFrom1),(.int .u64 qC1),(.string qText1),(.bool qFake1)]∧K qKind1 qFrom1 qC1 qText1 qFake1 true w9:=by
  intro w8 l hb E8 B8
  refine ⟨_,_,_,_,_,B8.row,?_⟩
  refine bx 5 (c2.ext E8 (by rintro (h | h) <;> omega)) rfl rfl (fun w9 b9 E9=>⟨l.kind,l.frm,l.c,l.text,l.fake,b9.row,hK _ _ _ _ _ _ _ ⟨?_,?_⟩⟩)
  ·rw [Sp.jKY,if_neg (by rw [hb];simp),hb]
  ·exact (E26.trans' E8 (fun i hi h=>by rcases h with h | h <;> omega)).trans' E9 (fun i hi h=>by omega)
 have up:∀{w7 w8:World},Ext (·=p3.block) w6 w7→Ext (·=p5.block) w7 w8→Ext (fun b=>b=p3.block∨b=p5.block) w6 w8:=fun h h'=>(h.mono (fun _ _ h=>.inl h)).trans' h' (fun _ _ h=>.inr h)
 have J1p:∀b,b=true→k≠7→(k=8∨k=9)→m_I_j1 t p2 p3 p5 b w6 K:=by
  rintro _ rfl h7 h89;rw [if_neg h7,if_pos h89] at hq;unfold m_I_j1;refine Br.t rfl ?_;refine (zF p3 p t false w6 hR6).mono ?_;rintro _ w7 ⟨k7,f7,c7,x7,g7,rfl,hl,hR7,E7⟩;refine ⟨_,_,_,_,_,rfl,bx 5 (c5.ext E7 n35.symm) rfl rfl (fun w8 b8 E8=>⟨(Sp.jO L t).2,?_,fun h=>bad1 w8 (by rw [hq];exact h) (up E7 E8),fun h=>good1 w8 ⟨k7,f7,c7,x7,g7⟩ (by rw [hq,hl,← h]) (up E7 E8) b8⟩)⟩;have:=(hR7.box.ext E8 n35).cell (i:=1) rfl;simpa using this
 have J1t:∀b,b=false→k≠7→¬ (k=8∨k=9)→m_I_j1 t p2 p3 p5 b w6 K:=by
  rintro _ rfl h7 h89;rw [if_neg h7,if_neg h89] at hq;unfold m_I_j1;refine Br.f rfl ?_;refine (oJ p3 p t false w6 hR6).mono ?_;rintro _ w7 ⟨x7,y7,rfl,hg,hR7,E7⟩;have ex:x7=(Sp.jV L t).1.1:=congrArg Prod.fst hg;have ey:y7=(Sp.jV L t).1.2:=congrArg Prod.snd hg;rw [← ex,← ey] at hq;have setr:∀v:Bool,Box (w7.setCell (p3.add 1) (.bool v)) p3 [.pointer p,.bool v] 57∧Ext (·=p3.block) w7 (w7.setCell (p3.add 1) (.bool v)):=fun v =>
   ⟨hR7.box.set 1 _,by have:=Ext.setCell (w:=w7) (p3.add 1) (.bool v);rw [zA] at this;exact this⟩
  have J3:∀(v:Bool) (w8:World),v=((Sp.jV L t).2 || !decide (x7=Sp.jHT))→Box w8 p3 [.pointer p,.bool v] 57→Ext (·=p3.block) w7 w8→m_I_j3 p2 p3 p5 y7 w8 K:=by
   intro v w8 hv B8 E8;have E68:=E7.trans E8;have E68':Ext (fun b=>b=p3.block∨b=p5.block) w6 w8:=E68.mono (fun _ _ h=>.inl h);unfold m_I_j3;refine ⟨v,B8.cell rfl,fun h=>⟨v,B8.cell rfl,fun _=>bad1 w8 (by rw [hq,← hv,if_pos h]) E68',fun h'=>(by rw [h] at h';cases h')⟩,fun h=>?_⟩;rw [← hv,if_neg (by rw [h];simp)] at hq;subst h;unfold m_I_j2;refine (qU p3 p y7 2 false w8 ⟨B8,hR7.pool.ext E8 (fun b hb e=>hout (e▸hb)),hok,hout⟩).mono ?_;rintro _ w16 ⟨k3,f3,t3,u3,x3,a3,b3,rfl,hn3,hR3,E16⟩;have e3:u3=(Sp.jZ L y7 2).1.num:=by rw [← hn3]
   rw [← e3] at hq;have E616:=E68.trans E16;refine ⟨_,_,_,_,_,_,_,rfl,bx 5 (c5.ext E616 n35.symm) rfl rfl (fun w17 b17 E17=>⟨(Sp.jZ L y7 2).2,?_,fun h=>bad1 w17 (by rw [hq];exact h) (up E616 E17),fun h=>good1 w17 ⟨7,0,u3,⟨#[]⟩,false⟩ (by rw [hq,h]) (up E616 E17) b17⟩)⟩;have:=(hR3.box.ext E17 n35).cell (i:=1) rfl;simpa using this
  refine ⟨_,_,rfl,(Sp.jV L t).2,?_,fun h=>⟨hR7.box.canW (by simp),?_⟩,fun h=>⟨hR7.box.canW (by simp),?_⟩⟩
  ·have:=hR7.box.cell (i:=1) rfl;simpa using this
  ·intro w22 hw;exact J3 true w22 (by rw [h];rfl) (by rw [hw];exact (setr _).1) (by rw [hw];exact (setr _).2)
  ·intro w22 hw;exact J3 (!decide (x7=Sp.jHT)) w22 (by rw [h];rfl) (by rw [hw];exact (setr _).1) (by rw [hw];exact (setr _).2)
 refine ⟨k,c4.cell0,fun h=>⟨f,c4.cell rfl,a,c4.cell rfl,?_⟩,fun h=>⟨fun h8=>?_,fun h8=>?_⟩⟩
 ·have h7:k=7:=by simpa using h
  rw [if_pos h7] at hq
  refine (jJF p3 p f a false w6 hR6).mono ?_
  rintro _ w7 ⟨k7,f7,c7,x7,g7,rfl,hl,hR7,E7⟩
  refine ⟨_,_,_,_,_,rfl,bx 5 (c5.ext E7 n35.symm) rfl rfl (fun w8 b8 E8=>⟨(Sp.zY L f a).2,?_,fun h=>bad1 w8 (by rw [hq];exact h) (up E7 E8),fun h=>good1 w8 ⟨k7,f7,c7,x7,g7⟩ (by rw [hq,hl,← h]) (up E7 E8) b8⟩)⟩
  have:=(hR7.box.ext E8 n35).cell (i:=1) rfl
  simpa using this
 ·have h7:k≠7:=by simpa using h
  have h8:k=8:=by simpa using h8
  exact J1p _ (by simp [h8]) h7 (.inl h8)
 ·have h7:k≠7:=by simpa using h
  have h8:k≠8:=by simpa using h8
  by_cases h9:k=9
  ·exact J1p _ (by simp [h9]) h7 (.inr h9)
  ·exact J1t _ (by simpa using h9) h7 (by rintro (h | h) <;> omega)
theorem qZ (p:Addr) (t:Int) (w:World) {L:Sp.Pool} {F:NP} (hP:jS w p L F) (hok:Sp.Ok L) :
  Calls prog 8 #[.pointer (some p),.int .i64 t] w
   (fun e w'=>∃k:Int,∃f:Int,∃c:Int,∃x:ByteArray,∃fk:Bool,∃ok:Bool,e=.returned (.tuple #[.agg #[.int .i64 k,.int .i64 f,.int .u64 c,.string x,.bool fk],.bool ok])∧(((⟨k,f,c,x,fk⟩:Sp.Letter),ok)=Sp.jKY L t∧Pure w w')):=jDI (some p) t w hP hok
end Go.Proofs
end
section
open Go Go.SE
namespace Go.Proofs
attribute [local irreducible] wpL wpX opE wpE Calls
end Go.Proofs
end
section
open Go Go.SE
namespace Go.Proofs
attribute [local irreducible] Calls
section
variable {w w':World} {k p:Addr} {G:List Int} {S:List Sp.Way} {ks:List Int} {sg sl:Sl} {m:Nat} {F:NP}
end
section
variable {w w':World} {k p:Addr} {G:List Int} {S:List Sp.Way} {F:NP}
end
section
variable {w0 w w':World} {H H':NP} {k p p1:Addr} {L:Sp.Pool} {G:List Int} {S S':List Sp.Way} {F F' F0 FP:NP}
end
end Go.Proofs
end
section
open Go Go.SE
namespace Go.Sp
def jTV (L:Pool) (S:List Way) (t:Int):Int×Int×Bool×Bool :=
 if inP L t=false then (0,0,false,false)
 else if jRL (nodeOf L t).kind=true then (0,0,true,true)
 else if (nodeOf L t).kind=4 then ((nodeOf L t).a,(nodeOf L t).b,false,true)
 else if (nodeOf L t).kind=5 then ((nodeOf L t).a,0,false,true)
 else if (nodeOf L t).kind=6 then (0,0,false,false)
 else ((nodeOf L t).a,(tJ L (jEE (nodeOf L t))).1,false,(tJ L (jEE (nodeOf L t))).2 && decide ((tJ L (jEE (nodeOf L t))).1∈lT S))
end Go.Sp
namespace Go.Proofs
open Tryz
attribute [local irreducible] Calls
theorem c_Has (p:Addr) (n:Sp.Node) (w0:World) {L:Sp.Pool} {F:NP} (hP:jS w0 p L F) (hok:Sp.Ok L) :
  Calls prog 106 #[.pointer (some p),jDF n] w0 (fun e w'=>∃r:Int,∃ok:Bool,e=.returned (.tuple #[.int .i64 r,.bool ok])∧((match Sp.find L n with | some i=>r=(i:Int)+1∧ok=true | none=>r=0∧ok=false)∧Pure w0 w')):=by
 obtain ⟨k,f,t,u,x,a,b⟩:=n
 generalize hn:(⟨k,f,t,u,x,a,b⟩:Sp.Node)=n
 have hkey:(Value.agg #[.int .i64 k,.int .i64 f,.int .i64 t,.int .u64 u,.string x,.int .i64 a,.int .i64 b])=jDF n:=by rw [← hn];rfl
 rw [← hkey]
 refine w_X1 _ _ _ _ _ _ _ _ w0 (fun r ok w'=>(match Sp.find L n with | some i=>r=(i:Int)+1∧ok=true | none=>r=0∧ok=false)∧Pure w0 w') ?_
 unfold m_X1
 intro p2 w1 h1
 have b1:=Box.of_new h1
 have E1:Pure w0 w1:=Ext.new h1
 refine Br.f rfl ?_
 rintro _ rfl
 have Ed:Pure w1 w1.drew:=Ext.drew w1
 have E2:=E1.trans Ed
 obtain ⟨s,m,hS,hF⟩:=hP.pure E2
 refine ⟨p,rfl,_,hS.box.cell (i:=1) rfl,_,_,_,_,_,_,_,(b1.pure Ed).row,?_⟩
 rw [hkey]
 rcases hS.map.lookup (P:=prog) (T:=45) (E:=29) underlying45 lL tA ⟨n,rfl⟩ (zeroValue29 _) true with ⟨hnot,hrun⟩ | ⟨i,v,hi,hrun⟩
 ·refine ⟨_,_,hrun,?_,E2⟩
  rw [find_none (jJV hnot)];exact ⟨rfl,rfl⟩
 ·obtain ⟨e,he,hen,rfl⟩:=jJW hi
  refine ⟨_,_,hrun,?_,E2⟩
  rw [← hen,jIW hok he];exact ⟨by simp,rfl⟩
section
variable (p:Addr) (w0:World) {L:Sp.Pool} {F:NP} (hP:jS w0 p L F) (hok:Sp.Ok L)
include hP hok
end
end Go.Proofs
end
section
namespace Go.Proofs
theorem toNat_ofNat {n:Nat} (h:n<256):(UInt8.ofNat n).toNat=n:=by simp [UInt8.toNat_ofNat];omega
theorem pow9 {i m:Nat} (hi:i≤9) (h:m*128 ^ i<18446744073709551616):i=9→m<2:=by
 rintro rfl;omega
theorem jND:∀(m i acc:Nat) (c:List UInt8),i≤9→m*128 ^ i<18446744073709551616→(0<i→0<m)→yT i acc (zH m++c)=.ok (acc+m*128 ^ i,i+(zH m).length):=by
 intro m;induction m using Nat.strongRecOn with
 | ind m ih =>
  intro i acc c hi hm h0
  have h9:=pow9 hi hm
  by_cases h:m<128
  ·rw [yH h,List.singleton_append,yB,toNat_ofNat (by omega),if_neg (by omega),if_pos h,if_neg (by omega),List.length_singleton]
  ·rw [xO (by omega),List.cons_append,yB,toNat_ofNat (by omega),if_neg (by omega),if_neg (by omega)]
   have e:m / 128*128 ^ (i+1)=m / 128*128*128 ^ i:=by rw [Nat.pow_succ,Nat.mul_assoc,Nat.mul_comm 128]
   have le:m / 128*128*128 ^ i≤m*128 ^ i:=Nat.mul_le_mul_right _ (by omega)
   rw [ih (m / 128) (by omega) (i+1) _ c (by omega) (by omega) (by omega),e,List.length_cons]
   have e2:(m % 128+128) % 128=m % 128:=by omega
   have e3:m*128 ^ i=m % 128*128 ^ i+m / 128*128*128 ^ i:=by rw [← Nat.add_mul];congr 1;omega
   rw [e2,e3]
   congr 2
   ·omega
   ·omega
theorem jAM {n:Nat} (h:n<18446744073709551616) (c:List UInt8):yT 0 0 (zH n++c)=.ok (n,(zH n).length):=by
 rw [jND n 0 0 c (by omega) (by simpa using h) (by omega)];simp
theorem jTL {i y m:Nat} (hi:i≤8) (hy:y≤127) (hb:m*128 ^ (i+1)<18446744073709551616):(y+128*m)*128 ^ i<18446744073709551616:=by
 rw [Nat.pow_succ] at hb;obtain ⟨q,hq⟩:∃q,18446744073709551616=q*(128 ^ i*128):=by
  refine ⟨2 ^ (64 - 7*(i+1)),?_⟩;rw [show 128 ^ i*128=2 ^ (7*(i+1)) by rw [Nat.pow_mul];rfl,← Nat.pow_add,show 64 - 7*(i+1)+7*(i+1)=64 by omega]
 have hp:0<128 ^ i:=Nat.pow_pos (by omega);generalize 128 ^ i=P at *;rw [hq] at hb ⊢;have hm:m<q:=Nat.lt_of_mul_lt_mul_right hb;have h1:(y+128*m)*P<128*(m+1)*P:=Nat.mul_lt_mul_of_pos_right (by omega) hp;have h2:128*(m+1)*P≤128*q*P:=Nat.mul_le_mul_right _ (Nat.mul_le_mul_left _ hm);have h3:q*(P*128)=128*q*P:=by rw [Nat.mul_comm P,← Nat.mul_assoc,Nat.mul_comm q]
 omega
theorem jNE:∀(l:List UInt8) (i acc n k:Nat),i≤9→yT i acc l=.ok (n,k)→∃m c,l=zH m++c∧n=acc+m*128 ^ i∧k=i+(zH m).length∧(0<i→0<m)∧m*128 ^ i<18446744073709551616:=by
 intro l;induction l with
 | nil=>intro i acc n k _ h;simp [yT] at h
 | cons x l ih =>
  intro i acc n k hi h
  have hx:=x.toNat_lt
  have hx8:UInt8.ofNat x.toNat=x:=by simp
  rw [yB] at h
  split at h
  ·cases h
  ·rename_i h9
   split at h
   ·rename_i h128
    split at h
    ·cases h
    ·rename_i hz
     cases h
     refine ⟨x.toNat,l,by rw [yH h128,hx8];rfl,rfl,by rw [yH h128];rfl,by omega,?_⟩
     have:i=0∨i=1∨i=2∨i=3∨i=4∨i=5∨i=6∨i=7∨i=8∨i=9:=by omega
     rcases this with rfl | rfl | rfl | rfl | rfl | rfl | rfl | rfl | rfl | rfl <;> omega
   ·rename_i h128
    have hi8:i≤8:=by omega
    obtain ⟨m,c,rfl,rfl,rfl,hp,hb⟩:=ih _ _ _ _ (by omega) h
    have hp:=hp (by omega)
    have hxm:0<x.toNat % 128+128*m:=by omega
    have e:x.toNat % 128+128*m=x.toNat % 128+128*m:=rfl
    refine ⟨x.toNat % 128+128*m,c,?_,?_,?_,fun _=>hxm,?_⟩
    ·rw [xO (n:=x.toNat % 128+128*m) (by omega),List.cons_append]
     have e1:(x.toNat % 128+128*m) % 128+128=x.toNat:=by omega
     have e2:(x.toNat % 128+128*m) / 128=m:=by omega
     rw [e1,e2,hx8]
    ·rw [Nat.add_mul,Nat.pow_succ]
     have:m*(128 ^ i*128)=128*m*128 ^ i:=by rw [Nat.mul_comm (128 ^ i),← Nat.mul_assoc,Nat.mul_comm m]
     omega
    ·rw [xO (n:=x.toNat % 128+128*m) (by omega),List.length_cons]
     have e2:(x.toNat % 128+128*m) / 128=m:=by omega
     rw [e2];omega
    ·exact jTL hi8 (by omega) hb
theorem jGA {l:List UInt8} {n k:Nat} (h:yT 0 0 l=.ok (n,k)):∃c,l=zH n++c∧k=(zH n).length∧n<18446744073709551616:=by
 obtain ⟨m,c,h1,h2,h3,_,h5⟩:=jNE l 0 0 n k (by omega) h;simp at h2 h3 h5;subst h2;exact ⟨c,h1,h3,h5⟩
theorem jRA {L:Sp.Pool} (hW:Sp.Wf L) {t:Int} (ht:Sp.inP L t=true) :
  (Fld.from_∈kX (Sp.nodeOf L t).kind∨(Sp.nodeOf L t).frm=0)∧(Fld.to_∈kX (Sp.nodeOf L t).kind∨(Sp.nodeOf L t).to=0)∧(Fld.num∈kX (Sp.nodeOf L t).kind∨(Sp.nodeOf L t).num=0) ∧
  (Fld.text∈kX (Sp.nodeOf L t).kind∨(Sp.nodeOf L t).text=⟨#[]⟩)∧(Fld.fst∈kX (Sp.nodeOf L t).kind∨(Sp.nodeOf L t).a=0)∧(Fld.snd∈kX (Sp.nodeOf L t).kind∨(Sp.nodeOf L t).b=0):=by
 obtain ⟨h1,h2,h3,_⟩:=hW.node ht
 obtain ⟨k1,k9,_⟩:=Sp.lJ hW ht
 generalize Sp.nodeOf L t=n at *
 obtain ⟨k,f,t,u,x,a,b⟩:=n
 simp only at *
 unfold Sp.jW at h1
 have:k=1∨k=2∨k=3∨k=4∨k=5∨k=6∨k=7∨k=8∨k=9:=by omega
 rcases this with rfl | rfl | rfl | rfl | rfl | rfl | rfl | rfl | rfl <;> simp [kX,Sp.jF,Sp.qI] at*<;> simp_all
def Fld.same (n m:Sp.Node) (na nb ma mb:Nat):Fld→Prop
 | .from_=>n.frm.toNat=m.frm.toNat | .to_=>n.to.toNat=m.to.toNat | .num=>n.num.toNat=m.num.toNat | .text=>n.text=m.text | .fst=>na=ma | .snd=>nb=mb
theorem jIU {n:Sp.Node} (h:Fld.fst∈kX n.kind):n.a∈Sp.jH n:=by
 unfold kX at h;unfold Sp.jH Sp.jF
 repeat' split at h
 all_goals first | (exfalso;revert h;decide) | skip
 all_goals (rename_i h1;rw [h1];simp)
theorem jHX {n:Sp.Node} (h:Fld.snd∈kX n.kind):n.b∈Sp.jH n:=by
 unfold kX at h;unfold Sp.jH Sp.jF
 repeat' split at h
 all_goals first | (exfalso;revert h;decide) | skip
 all_goals (rename_i h1;rw [h1];simp)
theorem jLK {L:Sp.Pool} (hW:Sp.Wf L) {s t:Int} (hs:Sp.inP L s=true) (ht:Sp.inP L t=true) (h:Sp.nodeOf L s=Sp.nodeOf L t):s=t:=by
 obtain ⟨i,hi,rfl⟩:=Sp.lW hs;obtain ⟨j,hj,rfl⟩:=Sp.lW ht;rw [Sp.kN hi,Sp.kN hj] at h;have:=hW.ok.nodup;have e:i=j:=by
  refine (List.getElem_inj (h₀:=by simpa using hi) (h₁:=by simpa using hj) this).1 ?_;simpa using h
 rw [e]
def OrdF (L:Sp.Pool):List Int→List Int→Prop
 | _,[]=>True
 | seen,z :: l=>(∀k∈Sp.jH (Sp.nodeOf L z),k∈seen)∧OrdF L (seen++[z]) l
theorem jTN {L:Sp.Pool}:∀(l seen:List Int),(∀pre z post,l=pre++z :: post→∀k∈Sp.jH (Sp.nodeOf L z),k∈seen++pre)→OrdF L seen l:=by
 intro l;induction l with
 | nil=>intro _ _;trivial
 | cons z l ih =>
  intro seen h
  refine ⟨fun k hk=>by simpa using h [] z l rfl k hk,ih _ (fun pre y post e k hk=>?_)⟩
  have:=h (z :: pre) y post (by rw [e];rfl) k hk
  simpa using this
theorem tC {L:Sp.Pool} (hW:Sp.Wf L) (t:Int):OrdF L [] (Sp.qO L t):=jTN _ _ (fun pre z post e k hk=>by rw [List.nil_append];exact Sp.jJM hW t pre z post e k hk)
theorem uZ {L:Sp.Pool} (hW:Sp.Wf L) {t u:Int} (h:u∈Sp.qO L t):Sp.inP L u=true:=have h:=(Sp.jBC hW).1 h;(Sp.Sub.le hW h.1 h.2).1
theorem jEH {L:Sp.Pool} (hW:Sp.Wf L) {t:Int} (h:Sp.inP L t=true):t∈Sp.qO L t:=(Sp.jBC hW).2 ⟨h,.refl _⟩
end Go.Proofs
end
section
namespace Go.Sp
theorem jBI {α β γ δ:Type} {f:α→γ} {g:β→γ} {f':α→δ} {g':β→δ}:∀{K1:List α} {K2:List β},K1.map f=K2.map g→(∀a∈K1,∀b∈K2,f a=g b→f' a=g' b)→K1.map f'=K2.map g':=by
 intro K1;induction K1 with
 | nil=>intro K2 h _;cases K2 with
  | nil=>rfl
  | cons b K2=>simp at h
 | cons a K1 ih=>intro K2 h hh;cases K2 with
  | nil=>simp at h
  | cons b K2 =>
   simp only [List.map_cons,List.cons.injEq] at h ⊢
   exact ⟨hh a (by simp) b (by simp) h.1,ih h.2 (fun x hx y hy=>hh x (List.mem_cons_of_mem _ hx) y (List.mem_cons_of_mem _ hy))⟩
theorem xP {L M:Pool} (hL:Wf L) (hM:Wf M) {s t:Int} (hs:inP L s=true) (ht:inP M t=true) (h:jE L s=jE M t) :
  (nodeOf L s).kind=(nodeOf M t).kind∧(nodeOf L s).frm=(nodeOf M t).frm∧(nodeOf L s).to=(nodeOf M t).to∧(nodeOf L s).num=(nodeOf M t).num∧(nodeOf L s).text=(nodeOf M t).text∧(jH (nodeOf L s)).map (jE L)=(jH (nodeOf M t)).map (jE M):=by
 rw [zT hL hs,zT hM ht] at h
 simpa using h
theorem jMT {L M:Pool} (hL:Wf L) (hM:Wf M):∀(n:Nat) (s t:Int),s.toNat=n→inP L s=true→inP M t=true→jE L s=jE M t→sizeOf L s=sizeOf M t∧depthOf L s=depthOf M t:=by
 intro n;induction n using Nat.strongRecOn with
 | _ n ih =>
 intro s t hn hs ht h;have hk:=(xP hL hM hs ht h).2.2.2.2.2;obtain ⟨_,_,_,_,c1,c2,c3⟩:=hL.node hs;obtain ⟨_,_,_,_,d1,d2,d3⟩:=hM.node ht;have key:∀a∈jH (nodeOf L s),∀b∈jH (nodeOf M t),jE L a=jE M b→sizeOf L a=sizeOf M b∧depthOf L a=depthOf M b:=fun a ha b hb e=>by
  have:=jY.1 (c1 a ha).1;exact ih a.toNat (by have:=(c1 a ha).2;omega) a b rfl (c1 a ha).1 (d1 b hb).1 e
 refine ⟨?_,?_⟩
 ·rw [c2,d2,jBI hk (fun a ha b hb e=>(key a ha b hb e).1)]
 ·have e:=jBI hk (fun a ha b hb e=>(key a ha b hb e).2);rw [c3,d3];have f1:∀(l:List Int) (P:Pool),l.foldl (fun d k=>max d (depthOf P k)) 0=(l.map (depthOf P)).foldl max 0:=fun l P=>by rw [List.foldl_map]
  rw [f1,f1,e]
theorem jNS {L:Pool} (hL:Wf L):∀{K1 K2:List Int},(∀k∈K1,inP L k=true)→(∀k∈K2,inP L k=true)→K1.map (jE L)=K2.map (jE L)→K1=K2:=by
 intro K1;induction K1 with
 | nil=>intro K2 _ _ h;cases K2 with
  | nil=>rfl
  | cons b K2=>simp at h
 | cons a K1 ih=>intro K2 h1 h2 h;cases K2 with
  | nil=>simp at h
  | cons b K2 =>
   simp only [List.map_cons,List.cons.injEq] at h
   rw [qL hL _ a b rfl (h1 a (by simp)) (h2 b (by simp)) h.1,ih (fun k hk=>h1 k (List.mem_cons_of_mem _ hk)) (fun k hk=>h2 k (List.mem_cons_of_mem _ hk)) h.2]
structure Ren (L q:Pool) (z:Int) (n:Node):Prop where
 kind:n.kind=(nodeOf L z).kind
 frm:n.frm=(nodeOf L z).frm
 to:n.to=(nodeOf L z).to
 num:n.num=(nodeOf L z).num
 text:n.text=(nodeOf L z).text
 kin:∀k∈jH n,inP q k=true
 kids:(jH n).map (jE q)=(jH (nodeOf L z)).map (jE L)
 a0:(jF n.kind).kids<1→n.a=0
 b0:(jF n.kind).kids<2→n.b=0
theorem jOH {n m:Node} (hk:n.kind=m.kind) (h:jH n=jH m) (a1:(jF n.kind).kids<1→n.a=0) (b1:(jF n.kind).kids<2→n.b=0) (a2:(jF m.kind).kids<1→m.a=0) (b2:(jF m.kind).kids<2→m.b=0):n.a=m.a∧n.b=m.b:=by
 unfold jH at h;rw [← hk] at h a2 b2;rcases qW n.kind with e | e | e
 ·exact ⟨by rw [a1 (by omega),a2 (by omega)],by rw [b1 (by omega),b2 (by omega)]⟩
 ·rw [e] at h;simp at h;exact ⟨h,by rw [b1 (by omega),b2 (by omega)]⟩
 ·rw [e] at h;simpa using h
section
variable {L q:Pool} (hL:Wf L) (hq:Wf q) {z:Int} (hz:inP L z=true) {n:Node} (h:Ren L q z n)
include hL hq hz h
theorem Ren.check:check q n=(sizeOf L z,depthOf L z,0):=by
 obtain ⟨p1,p2,p3,p4,p5,p6,p7⟩:=hL.node hz;have e1:jW n=0:=by
  have:jW n=jW (nodeOf L z):=by unfold jW;rw [h.kind,h.frm,h.to,h.num,h.text]
  rw [this,p1]
 have e2:jP (jF n.kind) n=0:=by
  have:jP (jF n.kind) n=jP (jF (nodeOf L z).kind) (nodeOf L z):=by unfold jP;rw [h.kind,h.frm,h.to,h.text]
  rw [this,p4]
 have key:∀a∈jH n,∀b∈jH (nodeOf L z),jE q a=jE L b→sizeOf q a=sizeOf L b∧depthOf q a=depthOf L b:=fun a ha b hb e=>jMT hq hL _ a b rfl (h.kin a ha) (p5 b hb).1 e;have e3:=jBI h.kids (fun a ha b hb e=>(key a ha b hb e).1);have e4:=jBI h.kids (fun a ha b hb e=>(key a ha b hb e).2);have f1:∀(l:List Int) (P:Pool),l.foldl (fun d k=>max d (depthOf P k)) 0=(l.map (depthOf P)).foldl max 0:=fun l P=>by rw [List.foldl_map]
 have s1:1+((jH n).map (sizeOf q)).sum=sizeOf L z:=by rw [e3,p6]
 have s2:(jH n).foldl (fun d k=>max d (depthOf q k)) 0+1=depthOf L z:=by rw [f1,e4,← f1,p7]
 have b1:=hL.ok.sizeOf z;have b2:=hL.ok.depthOf z;unfold Sp.check;simp only;rw [if_neg (by simpa using e1),if_neg,if_neg (by simpa using e2),if_neg,s1,s2,if_neg (by omega)]
 ·simp only [List.any_eq_true,not_exists,not_and];intro k hk;rw [h.kin k hk];decide
 ·have a0:=h.a0;have b0:=h.b0;simp only [Bool.or_eq_true,Bool.and_eq_true,decide_eq_true_eq,bne_iff_ne,ne_eq,not_or,not_and,Decidable.not_not];exact ⟨a0,b0⟩
omit hq in
theorem Ren.tree {v:Int} {M:Pool} (hM:Wf M) (hv:inP M v=true) (hn:nodeOf M v=n) (hk:∀k∈jH n,jE M k=jE q k):jE M v=jE L z:=by
 rw [zT hM hv,zT hL hz,hn,h.kind,h.frm,h.to,h.num,h.text,← h.kids];congr 1;exact List.map_congr_left hk
theorem Ren.node {v:Int} (hv:inP q v=true) (ht:jE q v=jE L z):nodeOf q v=n:=by
 obtain ⟨k1,k2,k3,k4,k5,k6⟩:=xP hq hL hv hz ht;obtain ⟨_,c2,c3,_,c5,_⟩:=hq.node hv;have hkk:=jNS hq (fun k hk=>(c5 k hk).1) h.kin (k6.trans h.kids.symm);obtain ⟨ea,eb⟩:=jOH (k1.trans h.kind.symm) hkk c2 c3 h.a0 h.b0;have g1:=h.kind;have g2:=h.frm;have g3:=h.to;have g4:=h.num;have g5:=h.text;generalize nodeOf q v=m at *;generalize nodeOf L z=o at *;cases m;cases n;simp_all
theorem Ren.find_none (hn:∀v,inP q v=true→jE q v≠jE L z):find q n=none:=by
 cases hf:find q n with
 | none=>rfl
 | some i =>
  exfalso
  obtain ⟨hi,e⟩:=tK hf
  have hv:inP q ((i:Int)+1)=true:=jY.2 ⟨by omega,by omega⟩
  exact hn _ hv (h.tree hL hz hq hv (by rw [kN hi,e]) (fun _ _=>rfl))
theorem Ren.find_old {v:Int} (hv:inP q v=true) (ht:jE q v=jE L z):find q n=some (v - 1).toNat:=by
 have hn:=h.node hL hq hz hv ht;cases hf:find q n with
 | none =>
  exfalso
  unfold find at hf
  rw [List.findIdx?_eq_none_iff] at hf
  obtain ⟨i,hi,rfl⟩:=lW hv
  rw [kN hi] at hn
  have:=hf q[i] (List.getElem_mem hi)
  simp at this;exact this hn
 | some i =>
  obtain ⟨hi,e⟩:=tK hf
  have hv2:inP q ((i:Int)+1)=true:=jY.2 ⟨by omega,by omega⟩
  have:=Go.Proofs.jLK hq hv2 hv (by rw [kN hi,e,hn])
  rw [← this];simp
theorem Ren.make_old {v:Int} (hv:inP q v=true) (ht:jE q v=jE L z):make q n=(v,0,q):=by
 have hc:=h.check hL hq hz;have hf:=h.find_old hL hq hz hv ht;have h1:=(jY.1 hv).1;unfold make;simp only [hc,hf];rw [if_neg (by simp)];simp only [Prod.mk.injEq,and_true];omega
theorem Ren.make_new (hn:∀v,inP q v=true→jE q v≠jE L z) (hl:q.length<65536):make q n=((q.length:Int)+1,0,q++[⟨n,sizeOf L z,depthOf L z⟩]):=by
 have hc:=h.check hL hq hz;have hf:=h.find_none hL hq hz hn;unfold make;simp only [hc,hf];rw [if_neg (by simp),if_neg (by omega)]
theorem Ren.make_full (hl:¬ q.length<65536) (hn:∀v,inP q v=true→jE q v≠jE L z):make q n=(0,6,q):=by
 have hc:=h.check hL hq hz;have hf:=h.find_none hL hq hz hn;unfold make;simp only [hc,hf];rw [if_neg (by simp),if_pos (by omega)]
theorem Ren.made (h0:(make q n).2.1=0):Wf (make q n).2.2∧inP (make q n).2.2 (make q n).1=true∧jE (make q n).2.2 (make q n).1=jE L z∧∀v,inP q v=true→inP (make q n).2.2 v=true∧jE (make q n).2.2 v=jE q v:=by
 have hw:=xV hq n;obtain ⟨M,e⟩:=lK q n;obtain ⟨m1,m2,_⟩:=uO h0;have hold:∀v,inP q v=true→inP (make q n).2.2 v=true∧jE (make q n).2.2 v=jE q v:=fun v hv=>by
  rw [e] at hw ⊢;exact ⟨jAD hv,uK hw _ v rfl hv⟩
 exact ⟨hw,m1,h.tree hL hz hw m1 m2 (fun k hk=>(hold k (h.kin k hk)).2),hold⟩
theorem Ren.err:(make q n).2.1=0∨(make q n).2.1=6∧65536≤q.length∧∀v,inP q v=true→jE q v≠jE L z:=by
 by_cases hx:∃v,inP q v=true∧jE q v=jE L z
 ·obtain ⟨v,hv,ht⟩:=hx;rw [h.make_old hL hq hz hv ht];exact .inl rfl
 ·have hx:∀v,inP q v=true→jE q v≠jE L z:=fun v hv e=>hx ⟨v,hv,e⟩;by_cases hl:q.length<65536
  ·rw [h.make_new hL hq hz hx hl];exact .inl rfl
  ·rw [h.make_full hL hq hz hl hx];exact .inr ⟨rfl,by omega,hx⟩
end
end Go.Sp
end
section
namespace Go.Sp
open Go.Proofs
structure Cp (Lq L:Pool) (own:Int→Int) (seen:List Int):Prop where
 wf:Wf L
 inn:∀s∈seen,inP Lq s=true
 at_:∀s∈seen,inP L (own s)=true∧jE L (own s)=jE Lq s
 out:∀x,x ∉ seen→own x=0
theorem jDX (n:Node) (own:Int→Int):jH { n with a:=own n.a,b:=own n.b }=(jH n).map own:=by
 unfold jH;simp only [List.map_take,List.map_cons,List.map_nil]
theorem Cp.ren {Lq L:Pool} {own:Int→Int} {seen:List Int} (h:Cp Lq L own seen) (hq:Wf Lq) {z:Int} (hz:inP Lq z=true) (hk:∀k∈jH (nodeOf Lq z),k∈seen) :
  Ren Lq L z { nodeOf Lq z with a:=own (nodeOf Lq z).a,b:=own (nodeOf Lq z).b }:=by
 obtain ⟨_,c2,c3,_⟩:=hq.node hz
 have o0:own 0=0:=h.out 0 (fun h0=>by have:=(jY.1 (h.inn 0 h0)).1;omega)
 refine ⟨rfl,rfl,rfl,rfl,rfl,?_,?_,fun e=>by simp only;rw [c2 e,o0],fun e=>by simp only;rw [c3 e,o0]⟩
 ·intro k hk2
  rw [jDX] at hk2
  obtain ⟨x,hx,rfl⟩:=List.mem_map.1 hk2
  exact (h.at_ x (hk x hx)).1
 ·rw [jDX,List.map_map]
  exact List.map_congr_left (fun x hx=>(h.at_ x (hk x hx)).2)
theorem Cp.step {Lq L:Pool} {own:Int→Int} {seen:List Int} (h:Cp Lq L own seen) (hq:Wf Lq) {z:Int} (hz:inP Lq z=true) (hk:∀k∈jH (nodeOf Lq z),k∈seen) {n:Node} (hn:Ren Lq L z n) (h0:(make L n).2.1=0) :
  Cp Lq (make L n).2.2 (fun x=>if x=z then (make L n).1 else own x) (seen++[z]):=by
 obtain ⟨m1,m2,m3,m4⟩:=hn.made hq h.wf hz h0
 refine ⟨m1,fun s hs=>?_,fun s hs=>?_,fun x hx=>?_⟩
 ·rcases List.mem_append.1 hs with hs | hs
  ·exact h.inn s hs
  ·rw [List.mem_singleton] at hs;subst hs;exact hz
 ·by_cases e:s=z
  ·subst e;simp only [if_true];exact ⟨m2,m3⟩
  ·simp only [if_neg e]
   have hs:s∈seen:=(List.mem_append.1 hs).resolve_right (fun hs=>e (List.mem_singleton.1 hs))
   obtain ⟨a1,a2⟩:=h.at_ s hs
   exact ⟨(m4 _ a1).1,(m4 _ a1).2.trans a2⟩
 ·simp only [List.mem_append,List.mem_singleton,not_or] at hx
  rw [if_neg hx.2];exact h.out x hx.1
theorem jNT (L:Pool) (n:Node):(make L n).2.2.length≤L.length+1:=by
 rcases tE L n with e | ⟨_,e⟩ <;> rw [e] <;> simp
theorem kP (Lq:Pool) (z:Int) (l:List Int) (L:Pool) (own:Int→Int) {n:Node} (hn:{ nodeOf Lq z with a:=own (nodeOf Lq z).a,b:=own (nodeOf Lq z).b }=n) {x e:Int} {L':Pool} (hm:make L n=(x,e,L')) :
  zI Lq (z :: l) L own=if e≠0 then (L,e,own) else zI Lq l L' (fun y=>if y=z then x else own y):=by
 subst hn
 show (if (make L _).2.1≠0 then _ else _)=_
 rw [hm]
theorem jHB {Lq:Pool} (hq:Wf Lq):∀(l seen:List Int) (L:Pool) (own:Int→Int),Cp Lq L own seen→(∀z∈l,inP Lq z=true)→OrdF Lq seen l →
  ((zI Lq l L own).2.1=0∧Cp Lq (zI Lq l L own).1 (zI Lq l L own).2.2 (seen++l))∨((zI Lq l L own).2.1=6∧¬ (L.length+l.length≤65536)):=by
 intro l
 induction l with
 | nil=>intro seen L own h _ _;exact .inl ⟨rfl,by rw [List.append_nil];exact h⟩
 | cons z l ih =>
  intro seen L own h hl ho
  have hz:=hl z (by simp)
  have hn:=h.ren hq hz ho.1
  generalize hnn:({ nodeOf Lq z with a:=own (nodeOf Lq z).a,b:=own (nodeOf Lq z).b }:Node)=n at hn
  have hf:=jNT L n
  have he:=hn.err hq h.wf hz
  have hs:=fun h0=>h.step hq hz ho.1 hn h0
  obtain ⟨x,e,L',hm⟩:∃x e L',make L n=(x,e,L'):=⟨_,_,_,rfl⟩
  rw [kP Lq z l L own hnn hm]
  rw [hm] at hf he hs
  simp only at hf he hs
  rcases he with rfl | ⟨rfl,hg,_⟩
  ·rw [if_neg (by simp)]
   rcases ih _ _ _ (hs rfl) (fun x hx=>hl x (List.mem_cons_of_mem _ hx)) ho.2 with ⟨e1,e2⟩ | ⟨e1,e2⟩
   ·exact .inl ⟨e1,by rw [List.append_assoc,List.singleton_append] at e2;exact e2⟩
   ·refine .inr ⟨e1,fun hle=>e2 ?_⟩
    rw [List.length_cons] at hle;omega
  ·rw [if_pos (by simp)]
   exact .inr ⟨rfl,by rw [List.length_cons];omega⟩
theorem jMD {Lq:Pool} (hq:Wf Lq):∀(l seen:List Int) (L:Pool) (own:Int→Int),Cp Lq L own seen→(∀z∈l,inP Lq z=true)→OrdF Lq seen l→(∀z∈l,∃v,inP L v=true∧jE L v=jE Lq z) →
  (zI Lq l L own).2.1=0∧(zI Lq l L own).1=L:=by
 intro l
 induction l with
 | nil=>intro seen L own h _ _ _;exact ⟨rfl,rfl⟩
 | cons z l ih =>
  intro seen L own h hl ho hv
  have hz:=hl z (by simp)
  have hn:=h.ren hq hz ho.1
  obtain ⟨v,v1,v2⟩:=hv z (by simp)
  have hm:=hn.make_old hq h.wf hz v1 v2
  have hs:=h.step hq hz ho.1 hn (by rw [hm])
  rw [kP Lq z l L own rfl hm]
  rw [hm] at hs
  rw [if_neg (by simp)]
  exact ih _ _ _ hs (fun x hx=>hl x (List.mem_cons_of_mem _ hx)) ho.2 (fun x hx=>hv x (List.mem_cons_of_mem _ hx))
theorem Cp.start {Lq L:Pool} (hL:Wf L):Cp Lq L (fun _=>0) []:=⟨hL,fun _ h=>(by cases h),fun _ h=>(by cases h),fun _ _=>rfl⟩
theorem jOV {L Lq:Pool} (hL:Wf L) (hq:Wf Lq) (t:Int):(kU L Lq t).2.1=0∨((kU L Lq t).1=0∧(kU L Lq t).2.2=L):=by
 unfold kU;split
 ·simp only;split
  ·exact .inr ⟨rfl,rfl⟩
  ·exact .inl rfl
 ·exact .inr ⟨rfl,rfl⟩
theorem jBL {L Lq:Pool} (hL:Wf L) (hq:Wf Lq) {t:Int} (ht:inP Lq t=true) (h0:(kU L Lq t).2.1=0) :
  Wf (kU L Lq t).2.2∧inP (kU L Lq t).2.2 (kU L Lq t).1=true∧jE (kU L Lq t).2.2 (kU L Lq t).1=jE Lq t:=by
 have h:=jHB hq (qO Lq t) [] L (fun _=>0) (Cp.start hL) (fun z hz=>uZ hq hz) (tC hq t)
 unfold kU at *
 rw [if_pos ht] at *
 simp only at *
 split at h0
 ·rename_i h1;exact absurd h0 h1
 ·rename_i h1
  rw [if_neg h1]
  simp only
  rcases h with ⟨_,h⟩ | ⟨h6,_⟩
  ·rw [List.nil_append] at h
   have:=h.at_ t (jEH hq ht)
   exact ⟨h.wf,this.1,this.2⟩
  ·exact absurd (by rw [h6];decide) h1
theorem jPZ {L Lq:Pool} (hL:Wf L) (hq:Wf Lq) {t z:Int} (h:Sub Lq t z):inP Lq t=true→∀v,inP L v=true→jE L v=jE Lq t→∃v',inP L v'=true∧jE L v'=jE Lq z:=by
 intro ht v hv e;induction h with
 | refl=>exact ⟨v,hv,e⟩
 | @kid u k h1 hk ih =>
  obtain ⟨v',hv',e'⟩:=ih
  have h1:=(Sub.le hq ht h1).1
  obtain ⟨_,_,_,_,_,hkk⟩:=xP hL hq hv' h1 e'
  have hm:jE Lq k∈(jH (nodeOf L v')).map (jE L):=by rw [hkk];exact List.mem_map_of_mem hk
  obtain ⟨x,hx,hx2⟩:=List.mem_map.1 hm
  exact ⟨x,((hL.node hv').2.2.2.2.1 x hx).1,hx2⟩
theorem jOT {L Lq:Pool} (hL:Wf L) (hq:Wf Lq) {t v:Int} (ht:inP Lq t=true) (hv:inP L v=true) (e:jE L v=jE Lq t):kU L Lq t=(v,0,L):=by
 have h:=jMD hq (qO Lq t) [] L (fun _=>0) (Cp.start hL) (fun z hz=>uZ hq hz) (tC hq t) (fun z hz=>jPZ hL hq ((jBC hq).1 hz).2 ht v hv e);have h0:(kU L Lq t).2.1=0:=by unfold kU;rw [if_pos ht];simp only;rw [if_neg (by rw [h.1];simp)]
 have hp:(kU L Lq t).2.2=L:=by unfold kU;rw [if_pos ht];simp only;rw [if_neg (by rw [h.1];simp)];exact h.2
 obtain ⟨_,k2,k3⟩:=jBL hL hq ht h0;rw [hp] at k2 k3;have k4:=qL hL _ _ v rfl k2 hv (k3.trans e.symm);refine Prod.ext k4 (Prod.ext h0 hp)
theorem jOU {Lq:Pool} (hq:Wf Lq) {t:Int} (ht:inP Lq t=true):(kU [] Lq t).2.1=0:=by
 have hf:=xA hq t;have:=hq.ok.few;rcases jHB hq (qO Lq t) [] [] (fun _=>0) (Cp.start Wf.nil) (fun z hz=>uZ hq hz) (tC hq t) with ⟨h,_⟩ | ⟨_,h⟩
 ·unfold kU;rw [if_pos ht];simp only;rw [if_neg (by rw [h];simp)]
 ·exact absurd (by simp;omega) h
structure OvC (L M:Pool) (s1 s2:(Int→Bool)×List Int):Prop where
 list:s1.2.map (jE L)=s2.2.map (jE M)
 i1:∀x∈s1.2,inP L x=true
 i2:∀x∈s2.2,inP M x=true
 mark:∀x y,inP L x=true→inP M y=true→jE L x=jE M y→s1.1 x=s2.1 y
theorem jNN {L M:Pool} (hL:Wf L) (hM:Wf M):∀(n:Nat) (m:Nat) (s t:Int) (st1 st2:(Int→Bool)×List Int),s.toNat<n→t.toNat<m→((inP L s=false∧inP M t=false)∨(inP L s=true∧inP M t=true∧jE L s=jE M t))→OvC L M st1 st2→OvC L M (vR L n s st1) (vR M m t st2):=by
 intro n;induction n with
 | zero=>intro m s t st1 st2 h;omega
 | succ n ih =>
  intro m s t st1 st2 hn hm hst hC
  cases m with
  | zero=>omega
  | succ m =>
  rw [vR,vR]
  rcases hst with ⟨e1,e2⟩ | ⟨hs,ht,e⟩
  ·rw [if_neg (by rw [e1];simp),if_neg (by rw [e2];simp)];exact hC
  ·have hmk:=hC.mark s t hs ht e
   rw [hs,ht]
   cases hv:st1.1 s with
   | true=>rw [if_neg (by simp),if_neg (by rw [← hmk,hv];simp)];exact hC
   | false =>
    rw [if_pos ⟨rfl,rfl⟩,if_pos ⟨rfl,by rw [← hmk,hv]⟩]
    obtain ⟨k1,_,_,_,_,k6⟩:=xP hL hM hs ht e
    obtain ⟨_,c2,c3,_,c5,_⟩:=hL.node hs
    obtain ⟨_,d2,d3,_,d5,_⟩:=hM.node ht
    have C1:OvC L M (upd st1.1 s true,st1.2) (upd st2.1 t true,st2.2):=⟨hC.list,hC.i1,hC.i2,fun x y hx hy exy=>by
     simp only [upd];by_cases ex:x=s
     ·subst ex;have:y=t:=qL hM _ y t rfl hy ht (exy.symm.trans e);rw [if_pos rfl,if_pos this]
     ·have:y≠t:=fun ey=>ex (qL hL _ x s rfl hx hs (by rw [exy,ey,e]));rw [if_neg ex,if_neg this];exact hC.mark x y hx hy exy⟩
    have hs1:=(jY.1 hs).1
    have ht1:=(jY.1 ht).1
    have kid : (((inP L (nodeOf L s).a = false ∧ inP M (nodeOf M t).a = false) ∨ (inP L (nodeOf L s).a = true ∧ inP M (nodeOf M t).a = true ∧ jE L (nodeOf L s).a = jE M (nodeOf M t).a)) ∧
      ((inP L (nodeOf L s).b=false∧inP M (nodeOf M t).b=false)∨(inP L (nodeOf L s).b=true∧inP M (nodeOf M t).b=true∧jE L (nodeOf L s).b=jE M (nodeOf M t).b))) ∧
      ((nodeOf L s).a.toNat<n∧(nodeOf L s).b.toNat<n)∧(nodeOf M t).a.toNat<m∧(nodeOf M t).b.toNat<m:=by
     have z0:∀P:Pool,inP P 0=false:=fun P=>by simp [inP]
     unfold jH at k6 c5 d5
     rw [← k1] at k6 d2 d3 d5
     rcases qW (nodeOf L s).kind with h | h | h
     ·rw [c2 (by omega),c3 (by omega),d2 (by omega),d3 (by omega)]
      exact ⟨⟨.inl ⟨z0 _,z0 _⟩,.inl ⟨z0 _,z0 _⟩⟩,⟨by omega,by omega⟩,by omega,by omega⟩
     ·rw [c3 (by omega),d3 (by omega)]
      rw [h] at k6 c5 d5
      simp at k6 c5 d5
      have:=jY.1 c5.1;have:=jY.1 d5.1
      exact ⟨⟨.inr ⟨c5.1,d5.1,k6⟩,.inl ⟨z0 _,z0 _⟩⟩,⟨by omega,by omega⟩,by omega,by omega⟩
     ·rw [h] at k6 c5 d5
      simp at k6 c5 d5
      have:=jY.1 c5.1.1;have:=jY.1 d5.1.1;have:=jY.1 c5.2.1;have:=jY.1 d5.2.1
      exact ⟨⟨.inr ⟨c5.1.1,d5.1.1,k6.1⟩,.inr ⟨c5.2.1,d5.2.1,k6.2⟩⟩,⟨by omega,by omega⟩,by omega,by omega⟩
    have r1:=ih m _ _ _ _ kid.2.1.1 kid.2.2.1 kid.1.1 C1
    have r2:=ih m _ _ _ _ kid.2.1.2 kid.2.2.2 kid.1.2 r1
    refine ⟨?_,?_,?_,r2.mark⟩
    ·simp only [List.map_append,List.map_cons,List.map_nil,r2.list,e]
    ·intro x hx
     rcases List.mem_append.1 hx with hx | hx
     ·exact r2.i1 x hx
     ·rw [List.mem_singleton] at hx;subst hx;exact hs
    ·intro x hx
     rcases List.mem_append.1 hx with hx | hx
     ·exact r2.i2 x hx
     ·rw [List.mem_singleton] at hx;subst hx;exact ht
theorem jFO {L M:Pool} (hL:Wf L) (hM:Wf M) {s t:Int} (hs:inP L s=true) (ht:inP M t=true) (e:jE L s=jE M t):(qO L s).map (jE L)=(qO M t).map (jE M) :=
 (jNN hL hM (s.toNat+1) (t.toNat+1) s t (fun _=>false,[]) (fun _=>false,[]) (by omega) (by omega) (.inr ⟨hs,ht,e⟩) ⟨rfl,by simp,by simp,fun _ _ _ _ _=>rfl⟩).list
theorem jDS {L M:Pool} (hL:Wf L) (hM:Wf M) {a b:Int} (ha:inP L a=true) (hb:inP M b=true) (e:jE L a=jE M b):∀(l1 l2:List Int),(∀x∈l1,inP L x=true)→(∀x∈l2,inP M x=true)→l1.map (jE L)=l2.map (jE M)→posOf l1 a=posOf l2 b:=by
 intro l1;induction l1 with
 | nil=>intro l2 _ _ h;cases l2 with
  | nil=>rfl
  | cons y l2=>simp at h
 | cons x l1 ih=>intro l2 h1 h2 h;cases l2 with
  | nil=>simp at h
  | cons y l2 =>
   simp only [List.map_cons,List.cons.injEq] at h
   have hi:=ih l2 (fun k hk=>h1 k (List.mem_cons_of_mem _ hk)) (fun k hk=>h2 k (List.mem_cons_of_mem _ hk)) h.2
   have hxy:(x == a)=(y == b):=by
    by_cases ex:x=a
    ·have:y=b:=qL hM _ y b rfl (h2 y (by simp)) hb (by rw [← h.1,ex,e]);simp [ex,this]
    ·have:y≠b:=fun ey=>ex (qL hL _ x a rfl (h1 x (by simp)) ha (by rw [h.1,ey,e]));rw [beq_false_of_ne ex,beq_false_of_ne this]
   unfold posOf at *
   rw [List.idxOf_cons,List.idxOf_cons,hxy,hi]
theorem oS {L M:Pool} (hL:Wf L) (hM:Wf M):∀(l1 l2 s1 s2:List Int),(∀x∈l1,inP L x=true)→(∀x∈l2,inP M x=true)→(∀x∈s1,inP L x=true)→(∀x∈s2,inP M x=true)→l1.map (jE L)=l2.map (jE M)→s1.map (jE L)=s2.map (jE M)→textFrom L s1 l1=textFrom M s2 l2:=by
 intro l1;induction l1 with
 | nil=>intro l2 s1 s2 _ _ _ _ h _;cases l2 with
  | nil=>rfl
  | cons y l2=>simp at h
 | cons x l1 ih=>intro l2 s1 s2 h1 h2 h3 h4 h h5;cases l2 with
  | nil=>simp at h
  | cons y l2 =>
   simp only [List.map_cons,List.cons.injEq] at h
   have hx:=h1 x (by simp)
   have hy:=h2 y (by simp)
   obtain ⟨k1,k2,k3,k4,k5,k6⟩:=xP hL hM hx hy h.1
   obtain ⟨_,_,_,_,c5,_⟩:=hL.node hx
   obtain ⟨_,_,_,_,d5,_⟩:=hM.node hy
   have hi:=ih l2 (s1++[x]) (s2++[y]) (fun k hk=>h1 k (List.mem_cons_of_mem _ hk)) (fun k hk=>h2 k (List.mem_cons_of_mem _ hk))
    (fun k hk=>by rcases List.mem_append.1 hk with hk | hk;exact h3 k hk;rw [List.mem_singleton] at hk;subst hk;exact hx)
    (fun k hk=>by rcases List.mem_append.1 hk with hk | hk;exact h4 k hk;rw [List.mem_singleton] at hk;subst hk;exact hy) h.2 (by simp [h5,h.1])
   rw [textFrom,textFrom,hi]
   congr 1
   unfold kV
   rw [k1]
   congr 1
   have hf:∀f∈kX (nodeOf M y).kind,f.bytes (nodeOf L x) (posOf s1 (nodeOf L x).a) (posOf s1 (nodeOf L x).b)=f.bytes (nodeOf M y) (posOf s2 (nodeOf M y).a) (posOf s2 (nodeOf M y).b):=by
    intro f hf;have hk1:Fld.fst∈kX (nodeOf M y).kind→posOf s1 (nodeOf L x).a=posOf s2 (nodeOf M y).a:=fun hf=>by
     have m1:=jIU (n:=nodeOf L x) (by rw [k1];exact hf);have m2:=jIU hf;refine jDS hL hM (c5 _ m1).1 (d5 _ m2).1 ?_ s1 s2 h3 h4 h5;unfold jH at k6 m1;rw [k1] at k6 m1;rcases qW (nodeOf M y).kind with e | e | e <;> rw [e] at k6 m1 <;> simp at k6 m1
     ·exact k6
     ·exact k6.1
    have hk2:Fld.snd∈kX (nodeOf M y).kind→posOf s1 (nodeOf L x).b=posOf s2 (nodeOf M y).b:=fun hf=>by
     have m1:=jHX (n:=nodeOf L x) (by rw [k1];exact hf);have m2:=jHX hf;have e:(jF (nodeOf M y).kind).kids=2:=by
      unfold kX at hf
      repeat' split at hf
      all_goals first | (exfalso;revert hf;decide) | skip
      all_goals (rename_i h4;rw [h4];rfl)
     refine jDS hL hM (c5 _ m1).1 (d5 _ m2).1 ?_ s1 s2 h3 h4 h5;unfold jH at k6;rw [k1,e] at k6;simp at k6;exact k6.2
    cases f
    ·simp only [Fld.bytes,k2]
    ·simp only [Fld.bytes,k3]
    ·simp only [Fld.bytes,k4]
    ·simp only [Fld.bytes,k5]
    ·simp only [Fld.bytes,hk1 hf]
    ·simp only [Fld.bytes,hk2 hf]
   have cg:∀(fs:List Fld) (g1 g2:Fld→List UInt8),(∀f∈fs,g1 f=g2 f)→fs.flatMap g1=fs.flatMap g2:=by
    intro fs g1 g2;induction fs with
    | nil=>intro _;rfl
    | cons f fs ihf=>intro hh;rw [List.flatMap_cons,List.flatMap_cons,hh f (by simp),ihf (fun x hx=>hh x (List.mem_cons_of_mem _ hx))]
   exact cg _ _ _ hf
theorem jBW {L M:Pool} (hL:Wf L) (hM:Wf M) {s t:Int} (hs:inP L s=true) (ht:inP M t=true) (e:jE L s=jE M t):kS L s=kS M t :=
 oS hL hM _ _ [] [] (fun _ h=>uZ hL h) (fun _ h=>uZ hM h) (by simp) (by simp) (jFO hL hM hs ht e) rfl
def _root_.Go.Proofs.Fld.fill (n:Node) (na nb:Nat) (x:Raw):Fld→Raw
 | .from_=>{ x with frm:=n.frm.toNat }
 | .to_=>{ x with to:=n.to.toNat }
 | .num=>{ x with num:=n.num.toNat }
 | .text=>{ x with text:=n.text.data.toList }
 | .fst=>{ x with a:=na,kids:=1 }
 | .snd=>{ x with b:=nb,kids:=2 }
theorem oZ {bs:List UInt8} {r:Rd} (he:r.err=0) {m:Nat} (hm:m<18446744073709551616) {rest:List UInt8} (h:bs.drop r.at_=zH m++rest):kW bs r=(m,⟨r.at_+(zH m).length,0,r.spot⟩):=by
 unfold kW;rw [if_pos he,h,jAM hm]
theorem jNG {bs:List UInt8} {r:Rd} (he:r.err=0) {s:ByteArray} (hs:s.size≤64) {rest:List UInt8} (h:bs.drop r.at_=kH s++rest):kK bs 64 r=(s.data.toList,⟨r.at_+(kH s).length,0,r.spot⟩):=by
 have hl:s.data.toList.length=s.size:=Array.length_toList;have hln:=congrArg List.length h;unfold kH at h hln ⊢;rw [List.append_assoc] at h;rw [List.length_drop,List.length_append,List.length_append,hl] at hln;unfold kK;rw [if_pos he,h,jAM (by omega)];simp only;have hv:0<(zH s.size).length:=by unfold zH;split <;> simp
 rw [if_neg (by omega),if_neg (by omega)];have hd:bs.drop (r.at_+(zH s.size).length)=s.data.toList++rest:=by
  rw [← List.drop_drop,h,List.drop_left]
 rw [hd,← hl,List.take_left,List.length_append];simp only [Prod.mk.injEq,Rd.mk.injEq,and_true,true_and];omega
theorem jLB {bs:List UInt8} {n:Node} {na nb:Nat} (h1:n.frm<16) (h2:n.to<16) (h3:vU n.num) (h4:n.text.size≤64) (ha:na<65537) (hb:nb<65537):∀(fs:List Fld) (x:Raw) (r:Rd) (rest:List UInt8),r.err=0→bs.drop r.at_=fs.flatMap (Fld.bytes n na nb)++rest →
  zZ bs fs (x,r)=(fs.foldl (fun x f=>f.fill n na nb x) x,⟨r.at_+(fs.flatMap (Fld.bytes n na nb)).length,0,r.spot⟩):=by
 intro fs
 induction fs with
 | nil=>intro x r rest he _;rw [zZ];obtain ⟨a,e,s⟩:=r;simp only at he;subst he;rfl
 | cons f fs ih =>
  intro x r rest he h
  rw [List.flatMap_cons,List.append_assoc] at h
  have h3':=h3.2
  have key:f.raw bs r x=f.fill n na nb x∧f.rd bs r=⟨r.at_+(f.bytes n na nb).length,0,r.spot⟩:=by
   cases f
   ·have:=oZ he (m:=n.frm.toNat) (by omega) h;simp only [Fld.raw,Fld.rd,Fld.fill,Fld.bytes,this,and_self]
   ·have:=oZ he (m:=n.to.toNat) (by omega) h;simp only [Fld.raw,Fld.rd,Fld.fill,Fld.bytes,this,and_self]
   ·have:=oZ he (m:=n.num.toNat) (by omega) h;simp only [Fld.raw,Fld.rd,Fld.fill,Fld.bytes,this,and_self]
   ·have:=jNG he h4 h;simp only [Fld.raw,Fld.rd,Fld.fill,Fld.bytes,this,and_self]
   ·have:=oZ he (m:=na) (by omega) h;simp only [Fld.raw,Fld.rd,Fld.fill,Fld.bytes,this,and_self]
   ·have:=oZ he (m:=nb) (by omega) h;simp only [Fld.raw,Fld.rd,Fld.fill,Fld.bytes,this,and_self]
  rw [zZ,key.1,key.2,ih _ _ rest rfl (by simp only;rw [← List.drop_drop,h,List.drop_left]),List.foldl_cons,List.flatMap_cons,List.length_append,Nat.add_assoc]
def vQ (seen:List Int) (x:Int):Int:=if x∈seen then (posOf seen x:Int)+1 else 0
theorem jLG {seen:List Int} {z:Int} (h:z ∉ seen):vQ (seen++[z])=fun x=>if x=z then ((seen.length:Int)+1) else vQ seen x:=by
 funext x;unfold vQ;by_cases e:x=z
 ·subst e;simp only [List.mem_append,List.mem_singleton,or_true,if_true];rw [jCF h]
 ·rw [if_neg e];by_cases hx:x∈seen
  ·rw [if_pos (List.mem_append_left _ hx),if_pos hx,jGD hx]
  ·rw [if_neg hx,if_neg (by simp [hx,e])]
theorem jQM {L:Pool} (hW:Wf L) (hN:qX L) {z:Int} (hz:inP L z=true) {seen:List Int} (h0:(0:Int) ∉ seen) (hk:∀k∈jH (nodeOf L z),k∈seen) :
  let x:=(kX (nodeOf L z).kind).foldl (fun x f=>f.fill (nodeOf L z) (posOf seen (nodeOf L z).a) (posOf seen (nodeOf L z).b) x) xK
  x.node (nodeOf L z).kind.toNat={ nodeOf L z with a:=vQ seen (nodeOf L z).a,b:=vQ seen (nodeOf L z).b }∧nodeErr (nodeOf L z).kind.toNat seen.length x 0=0:=by
 obtain ⟨k1,k9,f0,f1,t0,t1,x1⟩:=lJ hW hz
 obtain ⟨d1,d2,d3,d4,d5,d6⟩:=jRA hW hz
 obtain ⟨_,_,_,p4,_⟩:=hW.node hz
 have hn:=hN.node z
 have hf:=jIU (n:=nodeOf L z)
 have hs:=jHX (n:=nodeOf L z)
 generalize nodeOf L z=n at *
 obtain ⟨k,f,t,u,tx,a,b⟩:=n
 simp only at *
 have hn1:=hn.1
 have w0:vQ seen 0=0:=by unfold vQ;rw [if_neg h0]
 have ha:Fld.fst∈kX k→vQ seen a=(posOf seen a:Int)+1∧posOf seen a<seen.length:=fun h=>by
  have:=hk _ (hf h);unfold vQ;rw [if_pos this];exact ⟨rfl,jBF this⟩
 have hb:Fld.snd∈kX k→vQ seen b=(posOf seen b:Int)+1∧posOf seen b<seen.length:=fun h=>by
  have:=hk _ (hs h);unfold vQ;rw [if_pos this];exact ⟨rfl,jBF this⟩
 have ft:(f.toNat:Int)=f:=by omega
 have tt:(t.toNat:Int)=t:=by omega
 have ut:(u.toNat:Int)=u:=by omega
 have g16:¬ 16≤f.toNat:=by omega
 have g17:¬ 16≤t.toNat:=by omega
 have tb:(⟨tx.data.toList.toArray⟩:ByteArray)=tx:=by cases tx;simp
 have ftn:f.toNat=t.toNat→f=t:=fun h=>by omega
 have hne:k=8∨k=9→f.toNat≠t.toNat:=fun hk8 e=>by
  have:=ftn e;subst this;unfold jP at p4;rcases hk8 with rfl | rfl <;> simp [jF] at p4
 clear p4 hf hs hk hn hn1 hW hN
 have:k=1∨k=2∨k=3∨k=4∨k=5∨k=6∨k=7∨k=8∨k=9:=by omega
 rcases this with rfl | rfl | rfl | rfl | rfl | rfl | rfl | rfl | rfl <;>
  simp [kX,jF,xK,Fld.fill,Raw.node,nodeErr,w0,ft,tt,ut,g16,g17,tb] at d1 d2 d3 d4 d5 d6 ha hb hne ⊢ <;> simp_all <;> omega
theorem cp_le {L q:Pool} {seen:List Int} (h:Cp L q (vQ seen) seen) (hl:q.length=seen.length) (hn:seen.Nodup) {v:Int} (hv:inP q v=true):∃s∈seen,vQ seen s=v∧jE q v=jE L s:=by
 obtain ⟨h1,h2⟩:=jY.1 hv;have hi:(v - 1).toNat<seen.length:=by omega
 have hm:seen[(v - 1).toNat]∈seen:=List.getElem_mem hi;have hp:posOf seen seen[(v - 1).toNat]=(v - 1).toNat:=by
  have hlt:=jBF hm;refine (List.getElem_inj (h₀:=hlt) (h₁:=hi) hn).1 ?_;exact List.getElem_idxOf hlt
 have ho:vQ seen seen[(v - 1).toNat]=v:=by unfold vQ;rw [if_pos hm,hp];omega
 refine ⟨_,hm,ho,?_⟩;have:=(h.at_ _ hm).2;rw [ho] at this;exact this
theorem jAQ (L:Pool) (seen:List Int) (z:Int):0<(kV L seen z).length:=by unfold kV;simp
theorem jQI {L:Pool} (hW:Wf L) (hN:qX L) {bs:List UInt8}:∀(l seen:List Int) (q:Pool) (r:Rd) (ps:List Nat) (fuel:Nat),Cp L q (vQ seen) seen→q.length=seen.length→ps.length=seen.length→OrdF L seen l→(seen++l).Nodup→(∀z∈l,inP L z=true) →
  r.err=0→r.at_≤bs.length→bs.drop r.at_=textFrom L seen l→bs.length - r.at_≤fuel→seen.length+l.length≤65535 →
  ∃q' ps',jGB bs fuel q r ps=oY q' ps'∧Cp L q' (vQ (seen++l)) (seen++l)∧q'.length=(seen++l).length∧ps'.length=(seen++l).length:=by
 intro l
 induction l with
 | nil =>
  intro seen q r ps fuel hC hq hp _ _ _ _ hat hd _ _
  refine ⟨q,ps,jEP ?_ fuel,by rw [List.append_nil];exact hC,by rw [List.append_nil];exact hq,by rw [List.append_nil];exact hp⟩
  have:=congrArg List.length hd
  simp [textFrom] at this;omega
 | cons z l ih =>
  intro seen q r ps fuel hC hq hp ho hnd hl he hat hd hfu hsm
  have hz:=hl z (by simp)
  have hzn:z ∉ seen:=fun h=>(List.nodup_append.1 hnd).2.2 z h z (by simp) rfl
  have hsn:seen.Nodup:=(List.nodup_append.1 hnd).1
  have h0:(0:Int) ∉ seen:=fun h=>by have:=(jY.1 (hC.inn 0 h)).1;omega
  rw [textFrom] at hd
  have hpos:=jAQ L seen z
  have hdl:=congrArg List.length hd
  rw [List.length_drop,List.length_append] at hdl
  have hlt:r.at_<bs.length:=by omega
  obtain ⟨fuel,rfl⟩:∃k,fuel=k+1:=⟨fuel - 1,by omega⟩
  rw [List.length_cons] at hsm
  obtain ⟨k1,k9,f0,f1,t0,t1,x1⟩:=lJ hW hz
  have hnum:=hN.node z
  have hcons:bs.drop r.at_=bs[r.at_] :: bs.drop (r.at_+1):=List.drop_eq_getElem_cons hlt
  have htxt:=hd
  rw [hcons] at htxt
  unfold kV at htxt
  rw [List.cons_append,List.cons.injEq] at htxt
  obtain ⟨hb,hrest⟩:=htxt
  have hbk:bs[r.at_].toNat=(nodeOf L z).kind.toNat:=by rw [hb,toNat_ofNat (by omega)]
  have hkk:(((nodeOf L z).kind.toNat:Nat):Int)=(nodeOf L z).kind:=by omega
  have hfl:=jLB f1 t1 hnum x1 (by have:=qP seen (nodeOf L z).a;omega) (by have:=qP seen (nodeOf L z).b;omega) (kX (nodeOf L z).kind) xK ⟨r.at_+1,0,r.spot⟩ (textFrom L (seen++[z]) l) rfl hrest
  obtain ⟨hraw,hne⟩:=jQM hW hN hz h0 ho.1
  have hren:=hC.ren hW hz ho.1
  have hnew:∀v,inP q v=true→jE q v≠jE L z:=fun v hv e=>by
   obtain ⟨s,hs,_,e2⟩:=cp_le hC hq hsn hv;have:=qL hW _ s z rfl (hC.inn s hs) hz (e2.symm.trans e);exact hzn (this▸hs)
  have hmk:=hren.make_new hW hC.wf hz hnew (by omega)
  have hfn:=hren.find_none hW hC.wf hz hnew
  have hst:=hC.step hW hz ho.1 hren (by rw [hmk])
  have hstep:zO bs q r=((make q { nodeOf L z with a:=vQ seen (nodeOf L z).a,b:=vQ seen (nodeOf L z).b }).2.2,0,⟨r.at_+1+((kX (nodeOf L z).kind).flatMap (Fld.bytes (nodeOf L z) (posOf seen (nodeOf L z).a) (posOf seen (nodeOf L z).b))).length,0,r.spot⟩):=by
   rw [xR bs q r hlt he,hbk,hkk,hfl,if_pos (by unfold oE;simp;omega)];unfold tR;simp only at hraw hne ⊢;rw [hraw,hq,hne,hfn,if_neg (by simp),if_neg (by simp),hmk]
  have hq1:(make q { nodeOf L z with a:=vQ seen (nodeOf L z).a,b:=vQ seen (nodeOf L z).b }).2.2.length=(seen++[z]).length:=by rw [hmk];simp [hq]
  have hown:(fun x=>if x=z then (make q { nodeOf L z with a:=vQ seen (nodeOf L z).a,b:=vQ seen (nodeOf L z).b }).1 else vQ seen x)=vQ (seen++[z]):=by rw [jLG hzn,hmk,hq]
  rw [hown] at hst
  have hd2:bs.drop (r.at_+1+((kX (nodeOf L z).kind).flatMap (Fld.bytes (nodeOf L z) (posOf seen (nodeOf L z).a) (posOf seen (nodeOf L z).b))).length)=textFrom L (seen++[z]) l:=by
   rw [← List.drop_drop,hrest,List.drop_left]
  have hle:r.at_+1+((kX (nodeOf L z).kind).flatMap (Fld.bytes (nodeOf L z) (posOf seen (nodeOf L z).a) (posOf seen (nodeOf L z).b))).length≤bs.length:=by
   have:=congrArg List.length hrest;rw [List.length_drop,List.length_append] at this;omega
  rw [jGB,if_pos hlt,hstep]
  simp only
  rw [if_neg (by simp)]
  obtain ⟨q',ps',g1,g2,g3,g4⟩:=ih (seen++[z]) _ ⟨_,0,r.spot⟩ (ps++[r.at_]) fuel hst hq1 (by simp [hp]) ho.2 (by simpa using hnd) (fun x hx=>hl x (List.mem_cons_of_mem _ hx)) rfl hle hd2 (by simp only;omega) (by rw [List.length_append,List.length_singleton];omega)
  rw [List.append_assoc,List.singleton_append] at g2 g3 g4
  exact ⟨q',ps',g1,g2,g3,g4⟩
theorem jOJ:∀(l:List Int) (i:Nat),(∀j (h:j<l.length),l[j]=((i+j:Nat):Int)+1)→inRow i l=i+l.length:=by
 intro l;induction l with
 | nil=>intro i _;rfl
 | cons s l ih =>
  intro i h
  have h0:=h 0 (by simp)
  simp only [List.getElem_cons_zero,Nat.add_zero] at h0
  rw [inRow,if_pos h0,ih (i+1) (fun j hj=>by have:=h (j+1) (by simpa using hj);simp only [List.getElem_cons_succ] at this;rw [this];congr 2;omega),List.length_cons]
  omega
theorem jKU {L:Pool} {t:Int} (h:inP L t=true):∃pre,qO L t=pre++[t]:=by
 unfold qO;rw [vR,if_pos ⟨h,rfl⟩];exact ⟨_,rfl⟩
theorem jKZ {L:Pool} (hW:Wf L) (hN:qX L) {t:Int} (ht:inP L t=true) (hl:(kS L t).length≤4096) :
  ∃q:Pool,zX (kS L t)=(some q,0,0)∧Wf q∧inP q q.length=true∧jE q q.length=jE L t:=by
 have hself:=jEH hW ht
 have hnd:=tV hW t
 have hfew:(qO L t).length≤(kS L t).length:=by
  have:∀(l seen:List Int),l.length≤(textFrom L seen l).length:=by
   intro l;induction l with
   | nil=>intro _;simp
   | cons z l ih=>intro seen;have:=jAQ L seen z;have:=ih (seen++[z]);rw [textFrom,List.length_append,List.length_cons];omega
  exact this _ _
 have hne:0<(qO L t).length:=List.length_pos_of_mem hself
 obtain ⟨q, ps, g1, g2, g3, g4⟩ := jQI hW hN (bs := kS L t) (qO L t) [] [] ⟨0, 0, 0⟩ [] (kS L t).length (by
   have:=Cp.start (Lq:=L) Wf.nil;have e:vQ []=fun _=>0:=by funext x;simp [vQ]
   rw [e];exact this) rfl rfl (tC hW t) (by simpa using hnd) (fun z hz=>uZ hW hz) rfl (Nat.zero_le _) rfl (Nat.le_refl _) (by simp;omega)
 rw [List.nil_append] at g2 g3 g4
 have hown:vQ (qO L t) t=q.length:=by
  obtain ⟨pre,hp⟩:=jKU ht;have hnp:t ∉ pre:=by rw [hp] at hnd;exact fun h=>(List.nodup_append.1 hnd).2.2 t h t (by simp) rfl
  unfold vQ;rw [if_pos hself,g3,hp,jCF hnp];simp
 obtain ⟨a1,a2⟩:=g2.at_ t hself
 rw [hown] at a1 a2
 have hsub:qO q q.length=(qO L t).map (vQ (qO L t)):=by
  refine jNS g2.wf (fun k hk=>uZ g2.wf hk) (fun k hk=>?_) ?_
  ·obtain ⟨x,hx,rfl⟩:=List.mem_map.1 hk;exact (g2.at_ x hx).1
  ·rw [jFO g2.wf hW a1 ht a2,List.map_map];exact List.map_congr_left (fun x hx=>((g2.at_ x hx).2).symm)
 have hrow:inRow 0 (qO q q.length)=ps.length:=by
  rw [jOJ,hsub,List.length_map,Nat.zero_add,g4];intro j hj;have hj':j<(qO L t).length:=by rw [hsub,List.length_map] at hj;exact hj
  simp only [hsub,List.getElem_map,Nat.zero_add];have hm:(qO L t)[j]∈qO L t:=List.getElem_mem hj';have hp:posOf (qO L t) (qO L t)[j]=j:=by
   have hlt:=jBF hm;exact (List.getElem_inj (h₀:=hlt) (h₁:=hj') hnd).1 (List.getElem_idxOf hlt)
  unfold vQ;rw [if_pos hm,hp]
 refine ⟨q,?_,g2.wf,a1,a2⟩
 unfold zX
 rw [if_neg (by omega),if_neg (by omega),g1]
 unfold oY
 simp only
 rw [dif_neg (by omega)]
theorem jUL {L:Pool} (hW:Wf L) (hN:qX L) {t:Int} (ht:inP L t=true) (hl:(kS L t).length≤4096) :
  uI L (kS L t)=(t,0,0,L)∧(uI [] (kS L t)).2.1=0∧jE (uI [] (kS L t)).2.2.2 (uI [] (kS L t)).1=jE L t:=by
 obtain ⟨q,h1,h2,h3,h4⟩:=jKZ hW hN ht hl
 refine ⟨?_,?_⟩
 ·unfold uI;rw [h1];simp only
  rw [jOT hW h2 h3 ht h4.symm]
 ·unfold uI;rw [h1];simp only
  have h0:=jOU h2 h3
  exact ⟨h0,by rw [(jBL Wf.nil h2 h3 h0).2.2,h4]⟩
def jCH:Nat→List Int
 | 0=>[]
 | n+1=>jCH n++[(n:Int)+1]
theorem jBH (n:Nat):(jCH n).length=n:=by induction n with
 | zero=>rfl
 | succ n ih=>simp [jCH,ih]
theorem jEQ {n:Nat} {x:Int}:x∈jCH n↔1≤x∧x≤n:=by
 induction n with
 | zero=>simp [jCH];omega
 | succ n ih=>simp only [jCH,List.mem_append,ih,List.mem_singleton];omega
theorem jJZ {n:Nat}:∀{x:Int},1≤x→x≤n→posOf (jCH n) x=(x - 1).toNat:=by
 induction n with
 | zero=>intro x h1 h2;omega
 | succ n ih =>
  intro x h1 h2
  rw [jCH]
  by_cases h:x≤n
  ·rw [jGD (jEQ.2 ⟨h1,h⟩),ih h1 h]
  ·have:x=(n:Int)+1:=by omega
   subst this
   rw [jCF (by rw [jEQ];omega),jBH];omega
theorem jQY {n:Nat} {j:Nat} (h:j<(jCH n).length):(jCH n)[j]=(j:Int)+1:=by
 induction n with
 | zero=>simp [jCH] at h
 | succ n ih =>
  simp only [jCH]
  rw [List.getElem_append]
  split
  ·exact ih _
  ·rename_i h1
   have:j=n:=by rw [jBH] at h h1;omega
   subst this;simp
def _root_.Go.Proofs.Fld.said (x:Raw):Fld→List UInt8
 | .from_=>zH x.frm | .to_=>zH x.to | .num=>zH x.num | .text=>kH ⟨x.text.toArray⟩ | .fst=>zH x.a | .snd=>zH x.b
theorem jNF:∀{l:List UInt8} {i n x:Nat},yT i n l=.error x→x≠0:=by
 intro l;induction l with
 | nil=>intro i n x h;simp [yT] at h;omega
 | cons c l ih =>
  intro i n x h
  rw [yB] at h
  split at h
  ·cases h;decide
  ·split at h
   ·split at h
    ·cases h;decide
    ·cases h
   ·exact ih h
theorem vO {bs:List UInt8} {r:Rd} (h:(kW bs r).2.err=0):r.err=0∧bs.drop r.at_=zH (kW bs r).1++bs.drop (kW bs r).2.at_∧(kW bs r).1<18446744073709551616:=by
 unfold kW at h ⊢;by_cases he:r.err=0
 ·rw [if_pos he] at h ⊢;cases hr:yT 0 0 (bs.drop r.at_) with
  | error x =>
   rw [hr] at h
   simp only at h
   exact absurd h (jNF hr)
  | ok p =>
   obtain ⟨n,k⟩:=p
   obtain ⟨c,h1,h2,h3⟩:=jGA hr
   refine ⟨he,?_,h3⟩
   simp only
   rw [← List.drop_drop,h1,h2,List.drop_left]
 ·rw [if_neg he] at h;exact absurd h he
theorem jNH {bs:List UInt8} {r:Rd} (h:(kK bs 64 r).2.err=0):r.err=0∧bs.drop r.at_=kH ⟨(kK bs 64 r).1.toArray⟩++bs.drop (kK bs 64 r).2.at_:=by
 have hn:=@vO bs r;unfold kW at hn;unfold kK at h ⊢;by_cases he:r.err=0
 ·rw [if_pos he] at h hn ⊢;cases hr:yT 0 0 (bs.drop r.at_) with
  | error x =>
   rw [hr] at h hn
   simp only at h hn
   exact absurd (hn h).2.1 (by
    have:=(hn h).2.1;intro _;have hl:=congrArg List.length this;rw [List.length_append,yH (by omega)] at hl;simp at hl)
  | ok p =>
   obtain ⟨n,k⟩:=p
   rw [hr] at h hn
   simp only at h hn ⊢
   obtain ⟨c,h1,h2,h3⟩:=jGA hr
   split at h
   ·simp at h
   ·rename_i h64
    rw [if_neg h64]
    split at h
    ·simp at h
    ·rename_i hlen
     rw [if_neg hlen]
     refine ⟨he,?_⟩
     simp only
     have hd:bs.drop (r.at_+k)=c:=by rw [← List.drop_drop,h1,h2,List.drop_left]
     have hcl:n≤c.length:=by rw [← hd,List.length_drop];omega
     have hs:(ByteArray.mk (c.take n).toArray).size=n:=by show (c.take n).toArray.size=n;simp;omega
     have hd2:bs.drop (r.at_+k+n)=c.drop n:=by rw [← List.drop_drop,hd]
     rw [hd,hd2]
     unfold kH
     rw [hs,h1,List.append_assoc]
     congr 1
     simp
 ·rw [if_neg he] at h;exact absurd h he
theorem jUJ {bs:List UInt8} {r:Rd} {x:Raw} (f:Fld) (h:(f.rd bs r).err=0):r.err=0∧bs.drop r.at_=f.said (f.raw bs r x)++bs.drop (f.rd bs r).at_:=by
 cases f
 ·exact ⟨(vO h).1,(vO h).2.1⟩
 ·exact ⟨(vO h).1,(vO h).2.1⟩
 ·exact ⟨(vO h).1,(vO h).2.1⟩
 ·exact jNH h
 ·exact ⟨(vO h).1,(vO h).2.1⟩
 ·exact ⟨(vO h).1,(vO h).2.1⟩
theorem jMZ {bs:List UInt8} {r:Rd} {x:Raw} {f g:Fld} (h:f≠g):f.said (g.raw bs r x)=f.said x:=by
 cases f <;> cases g <;> first | rfl | exact absurd rfl h
theorem jIE {bs:List UInt8} {f:Fld}:∀(fs:List Fld) (x:Raw) (r:Rd),f ∉ fs→f.said (zZ bs fs (x,r)).1=f.said x:=by
 intro fs;induction fs with
 | nil=>intro x r _;rfl
 | cons g fs ih =>
  intro x r h
  simp only [List.mem_cons,not_or] at h
  rw [zZ,ih _ _ h.2,jMZ h.1]
theorem jLC {bs:List UInt8}:∀(fs:List Fld) (x:Raw) (r:Rd),fs.Nodup→(zZ bs fs (x,r)).2.err=0→r.err=0∧bs.drop r.at_=fs.flatMap (fun f=>f.said (zZ bs fs (x,r)).1)++bs.drop (zZ bs fs (x,r)).2.at_:=by
 intro fs;induction fs with
 | nil=>intro x r _ h;exact ⟨h,rfl⟩
 | cons f fs ih =>
  intro x r hn h
  rw [zZ] at h ⊢
  rw [List.nodup_cons] at hn
  obtain ⟨h1,h2⟩:=ih _ _ hn.2 h
  obtain ⟨h3,h4⟩:=jUJ (x:=x) f h1
  refine ⟨h3,?_⟩
  rw [List.flatMap_cons,h4,h2,jIE fs _ _ hn.1,List.append_assoc]
theorem jLZ (k:Int):(kX k).Nodup:=by
 unfold kX;repeat' split
 all_goals decide
theorem jTR {bs:List UInt8}:∀(fs:List Fld) (x:Raw) (r:Rd),(x.num<18446744073709551616)→(zZ bs fs (x,r)).1.num<18446744073709551616:=by
 intro fs;induction fs with
 | nil=>intro x r h;exact h
 | cons f fs ih =>
  intro x r h
  rw [zZ]
  refine ih _ _ ?_
  cases f <;> try exact h
  simp only [Fld.raw]
  by_cases he:(kW bs r).2.err=0
  ·exact (vO he).2.2
  ·unfold kW at he ⊢
   split
   ·rename_i h1
    rw [if_pos h1] at he
    split
    ·rename_i hk
     rw [hk] at he
     exact absurd rfl he
    ·simp
   ·simp
theorem jGV {bs:List UInt8} {k:Int} (h1:1≤k) (h9:k≤9) (r:Rd):(zZ bs (kX k) (xK,r)).1.kids=(jF k).kids.toNat∧(Fld.fst∈kX k↔0<(jF k).kids)∧(Fld.snd∈kX k↔1<(jF k).kids):=by
 have:k=1∨k=2∨k=3∨k=4∨k=5∨k=6∨k=7∨k=8∨k=9:=by omega
 rcases this with rfl | rfl | rfl | rfl | rfl | rfl | rfl | rfl | rfl <;> simp [kX,zZ,Fld.raw,xK,jF]
theorem jLA {bs:List UInt8} {q:Pool} {r:Rd} (hW:Wf q) (hN:qX q) (hl:r.at_<bs.length) (he:r.err=0) (h0:(zO bs q r).2.1=0) :
  Wf (zO bs q r).1∧qX (zO bs q r).1∧(zO bs q r).1.length=q.length+1∧(∀v,inP q v=true→inP (zO bs q r).1 v=true∧jE (zO bs q r).1 v=jE q v) ∧
  bs.drop r.at_=kV (zO bs q r).1 (jCH q.length) ((q.length:Int)+1)++bs.drop (zO bs q r).2.2.at_:=by
 rw [xR bs q r hl he] at h0 ⊢
 have hcons:bs.drop r.at_=bs[r.at_] :: bs.drop (r.at_+1):=List.drop_eq_getElem_cons hl
 have hb8:UInt8.ofNat bs[r.at_].toNat=bs[r.at_]:=by simp
 generalize bs[r.at_]=c at *
 split at h0
 ·rename_i hk
  rw [if_pos hk]
  have hk1:1≤c.toNat∧c.toNat≤9:=by unfold oE at hk;simpa using hk
  have hfl:=@jLC bs (kX c.toNat) xK ⟨r.at_+1,0,r.spot⟩ (jLZ _)
  have hnum:=@jTR bs (kX c.toNat) xK ⟨r.at_+1,0,r.spot⟩ (by decide)
  obtain ⟨hkd,hk2,hk3⟩:=@jGV bs (c.toNat:Int) (by omega) (by omega) ⟨r.at_+1,0,r.spot⟩
  generalize zZ bs (kX c.toNat) (xK,⟨r.at_+1,0,r.spot⟩)=s at *
  obtain ⟨x,r'⟩:=s
  simp only at *
  obtain ⟨e1,e2,e3,e4,e5⟩:=jCC h0
  simp only at e1 e2 e3 e4 e5
  rw [e5]
  simp only
  obtain ⟨_,hfl⟩:=hfl e1
  obtain ⟨m1,m2,m3⟩:=uO e4
  have hw:=xV hW (x.node c.toNat)
  have hnn:qX (make q (x.node c.toNat)).2.2:=hN.make (by simp only [Raw.node,vU];omega)
  have hmk:(make q (x.node c.toNat)).1=(q.length:Int)+1∧(make q (x.node c.toNat)).2.2.length=q.length+1:=by
   have hc:=m3;unfold make at e4 ⊢;simp only [e3] at e4 ⊢;rw [if_neg (by rw [hc];simp)] at e4 ⊢;split at e4
   ·simp at e4
   ·rename_i hf;rw [if_neg hf];exact ⟨rfl,by simp⟩
  obtain ⟨M,eM⟩:=lK q (x.node c.toNat)
  refine ⟨hw,hnn,hmk.2,fun v hv=>?_,?_⟩
  ·rw [eM] at hw ⊢;exact ⟨jAD hv,uK hw _ v rfl hv⟩
  ·rw [hmk.1] at m2
   rw [hcons,hfl]
   unfold kV
   rw [m2]
   have hkk:(x.node c.toNat).kind=c.toNat:=rfl
   rw [hkk,Int.toNat_natCast,hb8,List.cons_append]
   congr 1
   congr 1
   have hne:nodeErr c.toNat q.length x r'.err=0:=e2
   unfold nodeErr at hne
   rw [if_neg (by omega)] at hne
   split at hne
   ·simp at hne
   ·split at hne
    ·simp at hne
    ·rename_i href
     have cg:∀(fs:List Fld) (g1 g2:Fld→List UInt8),(∀f∈fs,g1 f=g2 f)→fs.flatMap g1=fs.flatMap g2:=by
      intro fs g1 g2;induction fs with
      | nil=>intro _;rfl
      | cons f fs ihf=>intro hh;rw [List.flatMap_cons,List.flatMap_cons,hh f (by simp),ihf (fun x hx=>hh x (List.mem_cons_of_mem _ hx))]
     refine cg _ _ _ (fun f hf=>?_)
     cases f
     ·simp [Fld.said,Fld.bytes,Raw.node]
     ·simp [Fld.said,Fld.bytes,Raw.node]
     ·simp [Fld.said,Fld.bytes,Raw.node]
     ·simp [Fld.said,Fld.bytes,Raw.node]
     ·have h2:=hk2.1 hf
      have hx:0<x.kids:=by omega
      have ha:x.a<q.length:=by omega
      simp only [Fld.said,Fld.bytes,Raw.node,if_pos hx]
      rw [jJZ (by omega) (by omega)]
      congr 1;omega
     ·have h2:=hk3.1 hf
      have hx:1<x.kids:=by omega
      have ha:x.b<q.length:=by omega
      simp only [Fld.said,Fld.bytes,Raw.node,if_pos hx]
      rw [jJZ (by omega) (by omega)]
      congr 1;omega
 ·simp at h0
theorem jQJ {bs:List UInt8}:∀(fuel:Nat) (q:Pool) (r:Rd) (ps:List Nat) (q':Pool),Wf q→qX q→ps.length=q.length→r.err=0→r.at_≤bs.length→bs.length - r.at_≤fuel→bs.take r.at_=textFrom q [] (jCH q.length)→(jGB bs fuel q r ps).1=some q' →
  Wf q'∧qX q'∧q.length≤q'.length∧bs=textFrom q' [] (jCH q'.length)∧q'.length≤inRow 0 (qO q' q'.length):=by
 have hend:∀(q:Pool) (ps:List Nat) (q':Pool),ps.length=q.length→(oY q ps).1=some q'→q=q'∧q.length≤inRow 0 (qO q q.length):=by
  intro q ps q' hp h;unfold oY at h;simp only at h;split at h
  ·cases h
  ·cases h;exact ⟨rfl,by omega⟩
 intro fuel
 induction fuel with
 | zero =>
  intro q r ps q' hW hN hp he hat hf ht h
  obtain ⟨rfl,h2⟩:=hend q ps q' hp h
  rw [List.take_of_length_le (by omega)] at ht
  exact ⟨hW,hN,Nat.le_refl _,ht,h2⟩
 | succ fuel ih =>
  intro q r ps q' hW hN hp he hat hf ht h
  by_cases hl:r.at_<bs.length
  ·rw [jGB,if_pos hl] at h
   by_cases h0:(zO bs q r).2.1=0
   ·rw [if_neg (by simpa using h0)] at h
    obtain ⟨s1,s2,s3,s4,s5⟩:=jLA hW hN hl he h0
    obtain ⟨a1,a2,a3⟩:=jFX bs q r hl he h0
    have htake:bs.take (zO bs q r).2.2.at_=textFrom (zO bs q r).1 [] (jCH (zO bs q r).1.length):=by
     have hold:∀z∈jCH q.length,inP q z=true:=fun z hz=>jY.2 (jEQ.1 hz);have hsame:textFrom q [] (jCH q.length)=textFrom (zO bs q r).1 [] (jCH q.length) :=
      oS hW s1 _ _ [] [] hold (fun z hz=>(s4 z (hold z hz)).1) (by simp) (by simp) (List.map_congr_left (fun z hz=>((s4 z (hold z hz)).2).symm)) rfl
     rw [s3,jCH,oT,List.nil_append,← hsame,← ht];have hsplit:bs.take (zO bs q r).2.2.at_=bs.take r.at_++(bs.drop r.at_).take ((zO bs q r).2.2.at_ - r.at_):=by
      rw [← List.take_add];congr 1;omega
     rw [hsplit];congr 1;have hlen:=congrArg List.length s5;rw [List.length_drop,List.length_append,List.length_drop] at hlen;rw [s5,List.take_append_of_le_length (by omega),List.take_of_length_le (by omega)]
    obtain ⟨g1,g2,g3,g4,g5⟩:=ih _ _ _ q' s1 s2 (by simp [hp,s3]) a3 a2 (by omega) htake h
    exact ⟨g1,g2,by omega,g4,g5⟩
   ·rw [if_pos h0] at h;cases h
  ·rw [jEP hl] at h
   obtain ⟨rfl,h2⟩:=hend q ps q' hp h
   rw [List.take_of_length_le (by omega)] at ht
   exact ⟨hW,hN,Nat.le_refl _,ht,h2⟩
theorem jOI:∀(l:List Int) (i m:Nat),i+m≤inRow i l→m≤l.length∧∀j (h:j<l.length),j<m→l[j]=((i+j:Nat):Int)+1:=by
 intro l;induction l with
 | nil=>intro i m h;rw [inRow] at h;exact ⟨by simp;omega,fun j h=>(by simp at h)⟩
 | cons s l ih =>
  intro i m h
  rw [inRow] at h
  split at h
  ·rename_i hs
   cases m with
   | zero=>exact ⟨by simp,fun j _ hj=>(by omega)⟩
   | succ m =>
    obtain ⟨h1,h2⟩:=ih (i+1) m (by omega)
    refine ⟨by rw [List.length_cons];omega,fun j hj hjm=>?_⟩
    cases j with
    | zero=>simp [hs]
    | succ j=>simp only [List.getElem_cons_succ];rw [h2 j (by simpa using hj) (by omega)];congr 2;omega
  ·exact ⟨by simp;omega,fun j _ hj=>by omega⟩
theorem lI {bs:List UInt8} {q:Pool} (h:(zX bs).1=some q):Wf q∧qX q∧inP q q.length=true∧kS q q.length=bs∧bs.length≤4096:=by
 unfold zX at h;split at h
 ·cases h
 ·split at h
  ·cases h
  ·rename_i h1 h2;obtain ⟨g1,g2,_,g4,g5⟩:=jQJ bs.length [] ⟨0,0,0⟩ [] q Wf.nil qX.nil rfl rfl (Nat.zero_le _) (Nat.le_refl _) (by simp [jCH,textFrom]) h;have hpos:0<q.length:=by
    rcases Nat.eq_zero_or_pos q.length with e | e
    ·rw [e,jCH,textFrom] at g4;rw [g4] at h2;simp at h2
    ·exact e
   have hin:inP q q.length=true:=jY.2 ⟨by omega,by omega⟩;obtain ⟨k1,k2⟩:=jOI (qO q q.length) 0 q.length (by omega);have hfew:=xA g1 q.length;have hs:qO q q.length=jCH q.length:=by
    refine List.ext_getElem (by rw [jBH];omega) (fun j h1 h2=>?_);rw [k2 j h1 (by rw [jBH] at h2;exact h2),jQY];simp
   refine ⟨g1,g2,hin,?_,by omega⟩;unfold kS;rw [hs];exact g4.symm
theorem jJB {Lq:Pool} (hq:qX Lq):∀(l:List Int) (L:Pool) (own:Int→Int),qX L→qX (zI Lq l L own).1:=by
 intro l;induction l with
 | nil=>intro L own h;exact h
 | cons z l ih =>
  intro L own h
  obtain ⟨x,e,L',hm⟩:∃x e L',make L { nodeOf Lq z with a:=own (nodeOf Lq z).a,b:=own (nodeOf Lq z).b }=(x,e,L'):=⟨_,_,_,rfl⟩
  have h2:=h.make (n:={ nodeOf Lq z with a:=own (nodeOf Lq z).a,b:=own (nodeOf Lq z).b }) (hq.node z)
  rw [kP Lq z l L own rfl hm]
  rw [hm] at h2
  split
  ·exact h
  ·exact ih _ _ h2
theorem jMC {L Lq:Pool} (h:qX L) (hq:qX Lq) (t:Int):qX (kU L Lq t).2.2:=by
 unfold kU;split
 ·simp only;split
  ·exact h
  ·exact jJB hq _ _ _ h
 ·exact h
theorem jOS {L:Pool} (h:qX L) (bs:List UInt8):qX (uI L bs).2.2.2:=by
 unfold uI;cases hq:(zX bs).1 with
 | none=>exact h
 | some q=>exact jMC h (lI hq).2.1 _
theorem jUM {L:Pool} (h:Wf L) (bs:List UInt8):Wf (uI L bs).2.2.2:=by
 unfold uI;cases hq:(zX bs).1 with
 | none=>exact h
 | some q =>
  obtain ⟨g1,_,g3,_⟩:=lI hq
  by_cases h0:(kU L q q.length).2.1=0
  ·exact (jBL h g1 g3 h0).1
  ·simp only;rw [((jOV h g1 _).resolve_left h0).2];exact h
theorem jDQ {bs:List UInt8} (h:(zX bs).1=none):(zX bs).2.1≠0:=by
 have hend:∀(q:Pool) (ps:List Nat),(oY q ps).1=none→(oY q ps).2.1≠0:=by
  intro q ps h;unfold oY at h ⊢;simp only at h ⊢;split at h
  ·rename_i hh;rw [dif_pos hh];show (73:Int)≠0;decide
  ·cases h
 have hgo:∀(bs:List UInt8) (fuel:Nat) (q:Pool) (r:Rd) (ps:List Nat),(jGB bs fuel q r ps).1=none→(jGB bs fuel q r ps).2.1≠0:=by
  intro bs fuel;induction fuel with
  | zero=>intro q r ps h;exact hend _ _ h
  | succ fuel ih =>
   intro q r ps h
   rw [jGB] at h ⊢
   split at h
   ·rename_i h1
    rw [if_pos h1]
    split at h
    ·rename_i h2;rw [if_pos h2];exact h2
    ·rename_i h2;rw [if_neg h2];exact ih _ _ _ h
   ·rename_i h1;rw [if_neg h1];exact hend _ _ h
 unfold zX at h ⊢;split at h
 ·rename_i h1;rw [if_pos h1];decide
 ·rename_i h1;rw [if_neg h1];split at h
  ·rename_i h2;rw [if_pos h2];decide
  ·rename_i h2;rw [if_neg h2];exact hgo _ _ _ _ _ h
theorem jNC {bs:List UInt8} {q:Pool} (h:(zX bs).1=some q):(zX bs).2.1=0:=by
 have hend:∀(q:Pool) (ps:List Nat) (x:Pool),(oY q ps).1=some x→(oY q ps).2.1=0:=by
  intro q ps x h;unfold oY at h ⊢;simp only at h ⊢;split at h
  ·cases h
  ·rename_i hh;rw [dif_neg hh]
 have hgo:∀(fuel:Nat) (q:Pool) (r:Rd) (ps:List Nat) (x:Pool),(jGB bs fuel q r ps).1=some x→(jGB bs fuel q r ps).2.1=0:=by
  intro fuel;induction fuel with
  | zero=>intro q r ps x h;exact hend _ _ _ h
  | succ fuel ih =>
   intro q r ps x h
   rw [jGB] at h ⊢
   split at h
   ·rename_i h1
    rw [if_pos h1]
    split at h
    ·cases h
    ·rename_i h2;rw [if_neg h2];exact ih _ _ _ _ h
   ·rename_i h1;rw [if_neg h1];exact hend _ _ _ h
 unfold zX at h ⊢;split at h
 ·cases h
 ·rename_i h1;rw [if_neg h1];split at h
  ·cases h
  ·rename_i h2;rw [if_neg h2];exact hgo _ _ _ _ _ h
theorem jOR {L:Pool} (hW:Wf L) {bs:List UInt8} (h0:(uI L bs).2.1=0):Wf (uI L bs).2.2.2∧inP (uI L bs).2.2.2 (uI L bs).1=true∧kS (uI L bs).2.2.2 (uI L bs).1=bs∧bs.length≤4096:=by
 cases hq:(zX bs).1 with
 | none =>
  unfold uI at h0;rw [hq] at h0
  exact absurd h0 (jDQ hq)
 | some q =>
  obtain ⟨g1,g2,g3,g4,g5⟩:=lI hq
  unfold uI at h0 ⊢
  rw [hq] at h0 ⊢
  simp only at h0 ⊢
  obtain ⟨c1,c2,c3⟩:=jBL hW g1 g3 h0
  exact ⟨c1,c2,by rw [jBW c1 g1 c2 g3 c3,g4],g5⟩
end Go.Sp
end
section
open Go Go.SE
namespace Go.Proofs
open Tryz
attribute [local irreducible] Calls CallsD
def Raw.cells (k:Nat) (x:Raw):List Value:=[.int .i64 k,.int .i64 0,.int .i64 0,.int .u64 x.num,.string ⟨x.text.toArray⟩,.int .i64 0,.int .i64 0,.int .u64 x.frm,.int .u64 x.to,.int .u64 x.a,.int .u64 x.b,.int .i64 x.kids]
theorem jMR (bs:List UInt8) (r:Rd) (k:Nat) (x:Raw) (f:Fld):f.upd bs r (x.cells k)=(f.raw bs r x).cells k:=by cases f <;> rfl
theorem jLD (bs:List UInt8):∀(l1 l2:List Fld) (s:Raw×Rd),zZ bs (l1++l2) s=zZ bs l2 (zZ bs l1 s):=by
 intro l1;induction l1 with
 | nil=>intro l2 s;rfl
 | cons f l1 ih=>intro l2 s;obtain ⟨x,r⟩:=s;rw [List.cons_append,zZ,zZ,ih]
theorem jID (bs:List UInt8) (fs:List Fld) (j:Nat) (hj:j<fs.length) (s:Raw×Rd):zZ bs (fs.take (j+1)) s=(fs[j].raw bs (zZ bs (fs.take j) s).2 (zZ bs (fs.take j) s).1,fs[j].rd bs (zZ bs (fs.take j) s).2):=by
 rw [List.take_succ_eq_append_getElem hj,jLD];obtain ⟨x,r⟩:=zZ bs (fs.take j) s;rfl
theorem jRT (f:Fld):∀args w,(callFunc f.get args).run prog w=.ok (.enter f.get args) w:=by
 cases f
 ·exact call85
 ·exact call88
 ·exact call90
 ·exact call93
 ·exact call96
 ·exact call98
structure StAt (w:World) (q a:Addr) (s:Sl) (bs:List UInt8) (L:Sp.Pool) (r:Rd) (m:Nat) (S FP F:NP):Prop where
 pool:jS w q L FP
 rd:RdS S w a s bs r
 kinds:Kinds w m F
 lS:∀b,S b→b<w.heap.size
 la:a.block<w.heap.size
 dP:∀b,FP b→b≠a.block∧¬ S b∧¬ F b∧b≠m
 dF:∀b,F b→b≠a.block∧¬ S b
 dm:m≠a.block∧¬ S m
theorem StAt.ext {w w':World} {q a:Addr} {s:Sl} {bs:List UInt8} {L:Sp.Pool} {r:Rd} {m:Nat} {S FP F G:NP} (h:StAt w q a s bs L r m S FP F) (E:Ext G w w') (hG:∀b,b<w.heap.size→¬ G b):StAt w' q a s bs L r m S FP F :=
 ⟨h.pool.ext E (fun b hb=>hG b (h.pool.lt hb)),h.rd.ext E (fun b hb=>hG b (h.lS b hb)) (hG _ h.la),h.kinds.ext E (fun b hb=>hG b (hb.elim (h.kinds.lt b) (fun e=>e▸h.kinds.mlt))),fun b hb=>Nat.lt_of_lt_of_le (h.lS b hb) E.size,Nat.lt_of_lt_of_le h.la E.size,h.dP,h.dF,h.dm⟩
theorem StAt.pure {w w':World} {q a:Addr} {s:Sl} {bs:List UInt8} {L:Sp.Pool} {r:Rd} {m:Nat} {S FP F:NP} (h:StAt w q a s bs L r m S FP F) (E:Pure w w'):StAt w' q a s bs L r m S FP F:=h.ext E (fun _ _ h=>h)
theorem jHR {n:Nat} (h:n<9223372036854775808):IntKind.i64.wrap (n:Int)=(n:Int):=IntWalk.i64_in _ (by omega)
theorem oN (n:Nat):s_M (n:Int)=if 2147483647<n then -1 else (n:Int):=by
 unfold s_M;by_cases h:2147483647<n
 ·rw [if_pos h,show decide ((n:Int)>2147483647)=true by simp;omega];rfl
 ·rw [if_neg h,show decide ((n:Int)>2147483647)=false by simp;omega];exact jHR (by omega)
theorem jKP (k f t:Nat) (u:Int) (x:ByteArray) (a b:Int):s_P (k:Int) (s_M (f:Int)) (s_M (t:Int)) u x a b=if 16≤f∨16≤t∨((k=8∨k=9)∧f=t) then 50 else 0:=by
 unfold s_P;rw [oN,oN];have key:((((decide ((if 2147483647<f then -1 else (f:Int))<0) || decide ((if 2147483647<f then -1 else (f:Int))≥16)) || decide ((if 2147483647<t then -1 else (t:Int))<0)) || decide ((if 2147483647<t then -1 else (t:Int))≥16)) || ((((k:Int) == 8) || ((k:Int) == 9)) && ((if 2147483647<f then -1 else (f:Int)) == (if 2147483647<t then -1 else (t:Int)))))=decide (16≤f∨16≤t∨((k=8∨k=9)∧f=t)):=by
  rw [Bool.eq_iff_iff];simp only [Bool.or_eq_true,Bool.and_eq_true,decide_eq_true_eq,beq_iff_eq];by_cases h1:2147483647<f
  ·rw [if_pos h1];exact ⟨fun _=>.inl (by omega),fun _=>.inl (.inl (.inl (.inl (by omega))))⟩
  ·by_cases h2:2147483647<t
   ·rw [if_pos h2];exact ⟨fun _=>.inr (.inl (by omega)),fun _=>.inl (.inl (.inr (by omega)))⟩
   ·rw [if_neg h1,if_neg h2];omega
 rw [key];by_cases h:16≤f∨16≤t∨((k=8∨k=9)∧f=t)
 ·rw [decide_eq_true h,if_pos h];rfl
 ·rw [decide_eq_false h,if_neg h];rfl
theorem jEL {w:World} {p:Addr} {n:Sp.Node} {cs:List Value} {T:TypeId} (h:Box w p (uU n++cs) T):Row w p (uU n):=fun i hi=>by
 have:=h.row i (by rw [List.length_append];omega);rw [List.getElem?_append_left hi] at this;exact this
theorem c_sub4 (q a:Addr) (s:Sl) (bs:List UInt8) (r:Rd) (m:Nat) {S FP F:NP} {L:Sp.Pool} (p:Addr) (n:Sp.Node) (cs:List Value) {w:World} (h:StAt w q a s bs L r m S FP F) (hok:Sp.Ok L) (hB:Box w p (uU n++cs) 164) (hp:¬ FP p.block) (K:Int→WP)
  (hK:∀x w',x=(if (Sp.find L n).isSome=true then 72 else (Sp.make L n).2.1)→(∃F',jS w' q (if (Sp.find L n).isSome=true then L else (Sp.make L n).2.2) F'∧RdS S w' a s bs r∧Ext FP w w'∧∀b,F' b→FP b∨w.heap.size≤b)→K x w') :
  m_D_j4 (some q) p None w K:=by
 unfold m_D_j4
 refine ⟨n.kind,n.frm,n.to,n.num,n.text,n.a,n.b,jEL hB,?_⟩
 refine (c_Has q n w h.pool hok).mono ?_
 rintro _ w1 ⟨x,ok,rfl,hf,E1⟩
 refine ⟨_,_,rfl,E1.keptP,fun hok1=>?_,fun hok1=>?_⟩
 ·have : (Sp.find L n).isSome = true := by
   cases hn:Sp.find L n with
   | some i=>rfl
   | none=>rw [hn] at hf;simp only at hf;rw [hf.2] at hok1;cases hok1
  rw [if_pos this,if_pos this] at hK
  exact hK _ _ rfl ⟨FP,h.pool.pure E1,h.rd.pure E1,Ext.pure E1,fun b hb=>.inl hb⟩
 ·have : ¬ (Sp.find L n).isSome = true := by
   cases hn:Sp.find L n with
   | some i=>rw [hn] at hf;simp only at hf;rw [hf.2] at hok1;cases hok1
   | none=>simp
  rw [if_neg this,if_neg this] at hK
  refine ⟨n.kind,n.frm,n.to,n.num,n.text,n.a,n.b,jEL (hB.pure E1),?_⟩
  refine (jPL q n.kind n.frm n.to n.num n.text n.a n.b w1 (h.pool.pure E1) hok).mono ?_
  rintro _ w2 ⟨x1,x2,rfl,he,F',hP,E2,hF'⟩
  have he2:=congrArg Prod.snd he
  simp only at he2
  refine ⟨x1,x2,rfl,E2.kept (fun b hb=>hb.elim),hK _ _ he2 ⟨F',hP,(h.rd.pure E1).ext E2 (fun b hb hh=>(h.dP b hh).2.1 hb) (fun hh=>(h.dP _ hh).1 rfl),(Ext.pure E1).trans E2,fun b hb=>(hF' b hb).elim .inl (fun hb=>.inr (by have:=E1.size;omega))⟩⟩
theorem jTK (k:Nat) (x:Raw):(((x.cells k).set 1 (.int .i64 (s_M x.frm))).set 2 (.int .i64 (s_M x.to)))=uU ⟨k,s_M x.frm,s_M x.to,x.num,⟨x.text.toArray⟩,0,0⟩++[.int .u64 x.frm,.int .u64 x.to,.int .u64 x.a,.int .u64 x.b,.int .i64 x.kids]:=rfl
theorem jQL (n:Sp.Node) (cs:List Value) (v:Int):(uU n++cs).set 5 (.int .i64 v)=uU { n with a:=v }++cs:=rfl
theorem jQK (n:Sp.Node) (cs:List Value) (v:Int):(uU n++cs).set 6 (.int .i64 v)=uU { n with b:=v }++cs:=rfl
theorem c_sub3 (q a:Addr) (s:Sl) (bs:List UInt8) (r:Rd) (m:Nat) {S FP F:NP} {L:Sp.Pool} (p:Addr) (k:Nat) (x:Raw) {w:World} (h:StAt w q a s bs L r m S FP F) (hok:Sp.Ok L)
  (h1:x.frm<16) (h2:x.to<16) (ha:0<x.kids→x.a<L.length) (hb:1<x.kids→x.b<L.length)
  (hB:Box w p (uU ⟨k,s_M x.frm,s_M x.to,x.num,⟨x.text.toArray⟩,0,0⟩++[.int .u64 x.frm,.int .u64 x.to,.int .u64 x.a,.int .u64 x.b,.int .i64 x.kids]) 164) (hpS:p.block≠a.block∧¬ S p.block∧¬ FP p.block∧¬ F p.block∧p.block≠m) (K:Int→WP)
  (hK:∀y w',y=(if (Sp.find L (x.node k)).isSome=true then 72 else (Sp.make L (x.node k)).2.1)→(∃F',jS w' q (if (Sp.find L (x.node k)).isSome=true then L else (Sp.make L (x.node k)).2.2) F'∧RdS S w' a s bs r∧Ext (fun b=>FP b∨b=p.block) w w'∧∀b,F' b→FP b∨w.heap.size≤b)→K y w') :
  m_D_j2 (some q) p false None w K:=by
 have hok2:=hok.few
 have fs:s_M (x.frm:Int)=(x.frm:Int):=by rw [oN,if_neg (by omega)]
 have ts:s_M (x.to:Int)=(x.to:Int):=by rw [oN,if_neg (by omega)]
 rw [fs,ts] at hB
 have st5:∀{w w':World} {i:Nat} {v:Value},StAt w q a s bs L r m S FP F→w'=w.setCell (p.add i) v→StAt w' q a s bs L r m S FP F∧Ext (·=p.block) w w':=fun {w w' i v} h e=>by
  have E:Ext (·=p.block) w w':=by rw [e];exact vE
  refine ⟨⟨h.pool.ext E (fun b hb e=>hpS.2.2.1 (e▸hb)),h.rd.ext E (fun b hb e=>hpS.2.1 (e▸hb)) (fun e=>hpS.1 e.symm),h.kinds.ext E (fun b hb e=>hb.elim (fun hb=>hpS.2.2.2.1 (e▸hb)) (fun hb=>hpS.2.2.2.2 (e.symm.trans hb))),fun b hb=>Nat.lt_of_lt_of_le (h.lS b hb) E.size,Nat.lt_of_lt_of_le h.la E.size,h.dP,h.dF,h.dm⟩,E⟩
 have wr:∀n:Nat,n<L.length→IntKind.i64.wrap (IntKind.u64.wrap ((n:Int)+1))=(n:Int)+1:=fun n hn=>by
  rw [show (n:Int)+1=((n+1:Nat):Int) by omega,vL (by omega),jHR (by omega)]
 have fin : ∀ (va vb : Int) (w1 : World), StAt w1 q a s bs L r m S FP F → Box w1 p (uU ⟨k, x.frm, x.to, x.num, ⟨x.text.toArray⟩, va, vb⟩ ++ [.int .u64 x.frm, .int .u64 x.to, .int .u64 x.a, .int .u64 x.b, .int .i64 x.kids]) 164 → Ext (· = p.block) w w1 →
   va=(if 0<x.kids then (x.a:Int)+1 else 0)→vb=(if 1<x.kids then (x.b:Int)+1 else 0)→m_D_j4 (some q) p None w1 K:=by
  intro va vb w1 h1 hB1 E1 hva hvb
  have hn:(⟨k,x.frm,x.to,x.num,⟨x.text.toArray⟩,va,vb⟩:Sp.Node)=x.node k:=by subst hva hvb;rfl
  rw [hn] at hB1
  refine c_sub4 q a s bs r m p (x.node k) _ h1 hok hB1 hpS.2.2.1 K (fun y w' hy ⟨F',g1,g2,g3,g4⟩=>hK y w' hy ⟨F',g1,g2,(E1.mono (fun b _ h=>.inr h)).trans (g3.mono (fun b _ h=>.inl h)),fun b hb=>(g4 b hb).imp id (fun h=>by have:=E1.size;omega)⟩)
 unfold m_D_j2
 refine ⟨fun hc=>(by cases hc),fun _=>⟨x.kids,hB.cell (i:=11) rfl,?_⟩⟩
 have j3 : ∀ (va : Int) (w1 : World), StAt w1 q a s bs L r m S FP F → Box w1 p (uU ⟨k, x.frm, x.to, x.num, ⟨x.text.toArray⟩, va, 0⟩ ++ [.int .u64 x.frm, .int .u64 x.to, .int .u64 x.a, .int .u64 x.b, .int .i64 x.kids]) 164 → Ext (· = p.block) w w1 →
   va=(if 0<x.kids then (x.a:Int)+1 else 0)→m_D_j3 (some q) p None w1 K:=by
  intro va w1 h1 hB1 E1 hva
  unfold m_D_j3
  refine ⟨x.kids,hB1.cell (i:=11) rfl,fun hc=>?_,fun hc=>?_⟩
  ·have hc:1<x.kids:=by have:=of_decide_eq_true hc;omega
   refine ⟨x.b,hB1.cell (i:=10) rfl,hB1.canW (i:=6) (by simp [uU]),id,?_⟩
   rintro w2 e2
   obtain ⟨h2,E2⟩:=st5 h1 e2
   have hB2:=hB1.set 6 (.int .i64 (IntKind.i64.wrap (IntKind.u64.wrap ((x.b:Int)+1))))
   rw [← e2,jQK,wr _ (hb hc)] at hB2
   exact fin va _ w2 h2 hB2 (E1.trans E2) hva (by rw [if_pos hc])
  ·have hc:¬ 1<x.kids:=by have:=of_decide_eq_false hc;omega
   exact fin va 0 w1 h1 hB1 E1 hva (by rw [if_neg hc])
 refine ⟨fun hc=>?_,fun hc=>?_⟩
 ·have hc:0<x.kids:=by have:=of_decide_eq_true hc;omega
  refine ⟨x.a,hB.cell (i:=9) rfl,hB.canW (i:=5) (by simp [uU]),id,?_⟩
  rintro w2 e2
  obtain ⟨h2,E2⟩:=st5 h e2
  have hB2:=hB.set 5 (.int .i64 (IntKind.i64.wrap (IntKind.u64.wrap ((x.a:Int)+1))))
  rw [← e2,jQL,wr _ (ha hc)] at hB2
  exact j3 _ w2 h2 hB2 E2 (by rw [if_pos hc])
 ·have hc:¬ 0<x.kids:=by have:=of_decide_eq_false hc;omega
  exact j3 0 w h hB (Ext.refl _) (by rw [if_neg hc])
theorem jPA (q a:Addr) (s:Sl) (bs:List UInt8) (r:Rd) (m:Nat) {S FP F:NP} {L:Sp.Pool} {w0:World} (h:StAt w0 q a s bs L r m S FP F) (hok:Sp.Ok L) (hlt:r.at_<bs.length) (he:r.err=0) :
  Calls prog 69 #[.pointer (some q),.pointer (some a),.map (some m)] w0 (fun e w'=>∃y:Int,e=.returned (.int .i64 y)∧(y=(zO bs L r).2.1∧∃F',jS w' q (zO bs L r).1 F'∧RdS S w' a s bs (zO bs L r).2.2∧Ext (fun b=>FP b∨b=a.block) w0 w'∧∀b,F' b→FP b∨w0.heap.size≤b)):=by
 refine w_D (some q) (some a) (some m) w0 (fun y w'=>y=(zO bs L r).2.1∧∃F',jS w' q (zO bs L r).1 F'∧RdS S w' a s bs (zO bs L r).2.2∧Ext (fun b=>FP b∨b=a.block) w0 w'∧∀b,F' b→FP b∨w0.heap.size≤b) ?_
 unfold m_D
 refine (c_Byte a s bs r w0 h.rd (Nat.le_of_lt hlt) h.lS).mono ?_
 rintro _ w1 ⟨_,rfl,rfl,hR1,E1⟩
 refine ⟨_,rfl,E1.kept (fun b hb=>hb.elim),?_⟩
 rw [xR bs L r hlt he]
 rw [jJU bs r hlt he] at hR1 ⊢
 simp only at hR1 ⊢
 generalize hk:bs[r.at_].toNat=k at *
 have hk256:k<256:=by rw [← hk];exact bs[r.at_].toNat_lt
 have S1:StAt w1 q a s bs L ⟨r.at_+1,0,r.spot⟩ m S FP F:=⟨h.pool.ext E1 (fun b hb e=>(h.dP b hb).1 e),hR1,h.kinds.ext E1 (fun b hb e=>hb.elim (fun hb=>(h.dF b hb).1 e) (fun hb=>h.dm.1 (hb.symm.trans e))),fun b hb=>Nat.lt_of_lt_of_le (h.lS b hb) E1.size,Nat.lt_of_lt_of_le h.la E1.size,h.dP,h.dF,h.dm⟩
 intro p1 w2 n2
 rw [jHR (by omega)] at n2
 have E2:Pure w1 w2:=Ext.new n2
 have S2:=S1.pure E2
 have B2:Box w2 p1 (xK.cells k) 164:=Box.of_newA n2
 have bp:=n2.at_size
 have z1:=E1.size
 have E02:Ext (·=a.block) w0 w2:=E1.thenPure E2
 refine ⟨k,B2.cell0,?_⟩
 by_cases hkk:oE k=true
 ·have hk19:1≤k∧k≤9:=by unfold oE at hkk;simpa using hkk
  obtain ⟨v2,hlook,hLst⟩:=S2.kinds.get (k:Int) (by omega) (by omega) true
  refine ⟨v2,true,hlook,fun hc=>(by cases hc),fun _=>?_⟩
  rw [if_pos hkk]
  generalize hfs:kX (k:Int)=fs at *
  have hf3:fs.length≤3:=by rw [← hfs];exact jBK _
  have hrat:∀j,(zZ bs (fs.take j) (xK,⟨r.at_+1,0,r.spot⟩)).2.at_≤bs.length:=fun j=>(jGC bs (fs.take j) xK ⟨r.at_+1,0,r.spot⟩ (by simp only;omega)).2
  refine ⟨fun x1 Hl w=>∃j:Nat,x1=j∧j≤fs.length∧Hl=None∧StAt w q a s bs L (zZ bs (fs.take j) (xK,⟨r.at_+1,0,r.spot⟩)).2 m S FP F∧Box w p1 ((zZ bs (fs.take j) (xK,⟨r.at_+1,0,r.spot⟩)).1.cells k) 164∧Lst F w 2 v2 (fs.map Fld.row)∧Ext (·=a.block) w0 w,fun x1 _=>((fs.length:Int) - x1).toNat,⟨0,rfl,Nat.zero_le _,rfl,S2,B2,hLst,E02⟩,?_⟩
  rintro _ _ wl _ ⟨j,rfl,hj,rfl,hS,hB,hL,hE⟩
  unfold m_D_l1
  have hlen:v2.len=fs.length:=by rw [hL.len,List.length_map]
  have ple:p1.block<wl.heap.size:=hB.lt
  have zE:=hE.size
  have nS:¬ S p1.block:=fun hh=>by have:=h.lS _ hh;omega
  have nF:¬ F p1.block:=fun hh=>by have:=h.kinds.lt _ hh;omega
  have nP:¬ FP p1.block:=fun hh=>by have:=h.pool.lt hh;omega
  have na:p1.block≠a.block:=fun hh=>by have:=h.la;omega
  have nm:p1.block≠m:=fun hh=>by have:=h.kinds.mlt;omega
  refine ⟨fun hc=>?_,fun hc=>?_⟩
  ·have hc:=jCL hlen hc
   obtain ⟨a1,hat,_,hrow⟩:=hL.nth hc
   refine ⟨a1,hat,_,_,hrow,?_⟩
   intro p2 w3 n3
   have E3:Pure wl w3:=Ext.new n3
   refine ⟨⟨rfl,fun i hi=>(Box.of_newA n3).canW (by simpa using hi)⟩,id,?_⟩
   rintro w4 e4
   have X4:Ext (·=p2.block) w3 w4:=by rw [e4];exact Ext.storeRow _ _ _
   have B4:Box w4 p2 [.func (.func fs[j].put) #[] #[],.func (.func fs[j].get) #[] #[]] 140:=by rw [e4];exact (Box.of_newA n3).store rfl
   have hp2:=n3.at_size
   have E34:Pure wl w4:=E3.own (by rw [hp2];exact Nat.le_refl _) X4
   have S4:=hS.pure E34
   refine ⟨_,B4.cell (i:=1) rfl,fs[j].get,#[],#[],rfl,jRT fs[j],?_⟩
   refine (c_get fs[j] a p1 s bs _ _ w4 S4.rd (hrat j) S4.lS (hB.pure E34) rfl (fun e=>na e.symm) (fun b hb e=>nS (e▸hb))).mono ?_
   rintro _ w5 ⟨rfl,hR5,hB5,E5⟩
   rw [jMR] at hB5
   have hsn:=jID bs fs j hc (xK,⟨r.at_+1,0,r.spot⟩)
   refine ⟨rfl,E5.kept (fun b hb=>hb.elim),⟨j+1,kQ hc (by omega),hc,rfl,?_,?_,?_,?_⟩,by rw [kQ hc (by omega)];exact jNV hc⟩
   ·rw [hsn]
    exact ⟨S4.pool.ext E5 (fun b hb e=>e.elim (fun e=>(h.dP b hb).1 e) (fun e=>nP (e▸hb))),hR5,S4.kinds.ext E5 (fun b hb e=>hb.elim (fun hb=>e.elim (fun e=>(h.dF b hb).1 e) (fun e=>nF (e▸hb))) (fun hb=>e.elim (fun e=>h.dm.1 (hb.symm.trans e)) (fun e=>nm (e.symm.trans hb)))),fun b hb=>Nat.lt_of_lt_of_le (S4.lS b hb) E5.size,Nat.lt_of_lt_of_le S4.la E5.size,h.dP,h.dF,h.dm⟩
   ·rw [hsn];exact hB5
   ·exact (hL.pure E34).ext E5 (fun b hb e=>e.elim (fun e=>(h.dF b hb).1 e) (fun e=>nF (e▸hb)))
   ·exact (hE.thenPure E34).trans' E5 (fun i hi e=>e.elim id (fun e=>by omega))
  ·have hc:=jGZ hlen hj hc
   subst hc
   rw [List.take_length] at hS hB
   have hkd:=(@Sp.jGV bs (k:Int) (by omega) (by omega) ⟨r.at_+1,0,r.spot⟩).1
   rw [hfs] at hkd
   generalize zZ bs fs (xK,⟨r.at_+1,0,r.spot⟩)=st at *
   obtain ⟨x,r'⟩:=st
   simp only at hS hB hkd
   have fin : ∀ (y : Int) (w : World) (F' : NP), jS w q (tR L k (x, r')).1 F' → RdS S w a s bs (tR L k (x, r')).2.2 → Ext (fun b => FP b ∨ b = a.block) w0 w → (∀ b, F' b → FP b ∨ w0.heap.size ≤ b) → y = (tR L k (x, r')).2.1 →
     y=(tR L k (x,r')).2.1∧∃F',jS w q (tR L k (x,r')).1 F'∧RdS S w a s bs (tR L k (x,r')).2.2∧Ext (fun b=>FP b∨b=a.block) w0 w∧∀b,F' b→FP b∨w0.heap.size≤b:=fun y w F' a1 a2 a3 a4 a5=>⟨a5,F',a1,a2,a3,a4⟩
   have hEo:Ext (fun b=>FP b∨b=a.block) w0 wl:=hE.mono (fun b _ h=>.inr h)
   have bad:∀(e:Nat) (w:World),nodeErr k L.length x r'.err=e→e≠0→Ext (·=p1.block) wl w→(((e:Nat):Int)=(tR L k (x,r')).2.1∧∃F',jS w q (tR L k (x,r')).1 F'∧RdS S w a s bs (tR L k (x,r')).2.2∧Ext (fun b=>FP b∨b=a.block) w0 w∧∀b,F' b→FP b∨w0.heap.size≤b):=by
    intro e w hne h0 E;have hr:tR L k (x,r')=(L,(e:Int),r'):=by
     unfold tR;simp only;rw [if_pos (by rw [hne];exact h0),hne]
    rw [hr];exact ⟨rfl,FP,hS.pool.ext E (fun b hb e=>nP (e▸hb)),hS.rd.ext E (fun b hb e=>nS (e▸hb)) (fun e=>na e.symm),hEo.trans' E (fun i hi e=>by omega),fun b hb=>.inl hb⟩
   refine (c_Why a s bs r' wl hS.rd).mono ?_
   rintro _ w6 ⟨_,_,rfl,rfl,rfl,E6⟩
   have S6:=hS.pure E6
   have B6:=hB.pure E6
   refine ⟨_,_,rfl,E6.keptP,fun hc=>?_,fun hc=>?_⟩
   ·have hc:r'.err≠0:=by have:=bne_iff_ne.1 hc;omega
    exact bad r'.err w6 (by unfold nodeErr;rw [if_pos hc]) hc (Ext.pure E6)
   ·have hc : r'.err = 0 := by
     have:((r'.err:Int) != 0)=false:=hc;simpa using this
    refine ⟨fun w'=>w'.cell? (p1.add 8)=some (.int .u64 x.to),(B6.pure (Ext.drew w6)).cell (i:=8) rfl,?_⟩
    rintro w7 e7
    have E7:Pure w6 w7:=by rw [e7];exact Ext.drew w6
    have B7:=B6.pure E7
    refine ⟨x.frm,B7.cell (i:=7) rfl,x.to,fun w' hw'=>hw',?_⟩
    refine (p_M (x.frm:Int) w7).mono ?_
    rintro _ w8 ⟨rfl,E8⟩
    have B8:=B7.pure E8
    refine ⟨_,rfl,B8.cell (i:=8) rfl,E8.keptP,?_⟩
    refine (p_M (x.to:Int) w8).mono ?_
    rintro _ w9 ⟨rfl,E9⟩
    have B9:=B8.pure E9
    refine ⟨_,rfl,B9.cell (i:=8) rfl,E9.keptP,B9.canW (i:=1) (by simp [Raw.cells]),id,?_⟩
    rintro w10 e10
    have X10:Ext (·=p1.block) w9 w10:=by rw [e10];exact vE
    have B10:=B9.set 1 (.int .i64 (s_M x.frm))
    rw [← e10] at B10
    refine ⟨B10.cell (i:=8) rfl,B10.canW (i:=2) (by simp [Raw.cells]),id,?_⟩
    rintro w11 e11
    have X11:Ext (·=p1.block) w10 w11:=by rw [e11];exact vE
    have B11:=B10.set 2 (.int .i64 (s_M x.to))
    rw [← e11,jTK] at B11
    have E11:Ext (·=p1.block) wl w11:=((Ext.pure (((E6.trans E7).trans E8).trans E9)).trans X10).trans X11
    have S11:StAt w11 q a s bs L r' m S FP F:=⟨hS.pool.ext E11 (fun b hb e=>nP (e▸hb)),hS.rd.ext E11 (fun b hb e=>nS (e▸hb)) (fun e=>na e.symm),hS.kinds.ext E11 (fun b hb e=>hb.elim (fun hb=>nF (e▸hb)) (fun hb=>nm (e.symm.trans hb))),fun b hb=>Nat.lt_of_lt_of_le (hS.lS b hb) E11.size,Nat.lt_of_lt_of_le hS.la E11.size,h.dP,h.dF,h.dm⟩
    refine ⟨k,s_M x.frm,s_M x.to,x.num,⟨x.text.toArray⟩,0,0,jEL B11,?_⟩
    rw [jKP]
    by_cases hnm:16≤x.frm∨16≤x.to∨((k=8∨k=9)∧x.frm=x.to)
    ·rw [if_pos hnm]
     refine ⟨fun _ w12 hs12=>?_,fun hc=>(by cases hc)⟩
     exact bad 50 w12 (by unfold nodeErr;rw [if_neg (by omega),if_pos hnm]) (by decide) (E11.thenPure hs12.ext)
    ·rw [if_neg hnm]
     refine ⟨fun hc=>(by cases hc),fun _ w12 hs12=>?_⟩
     have E12:Pure w11 w12:=hs12.ext
     have S12:=S11.pure E12
     refine (jAE q w12 S12.pool).mono ?_
     rintro _ w13 ⟨_,rfl,rfl,rfl⟩
     have B12:=B11.pure E12
     have hLs:=hok.few
     refine ⟨_,rfl,Kept.refl _,x.kids,B12.cell (i:=11) rfl,?_⟩
     rw [vL (by omega)]
     have bad71:((0<x.kids∧L.length≤x.a)∨(1<x.kids∧L.length≤x.b))→((71:Int)=(tR L k (x,r')).2.1∧∃F',jS w13 q (tR L k (x,r')).1 F'∧RdS S w13 a s bs (tR L k (x,r')).2.2∧Ext (fun b=>FP b∨b=a.block) w0 w13∧∀b,F' b→FP b∨w0.heap.size≤b):=fun hh =>
      bad 71 w13 (by unfold nodeErr;rw [if_neg (by omega),if_neg hnm,if_pos hh]) (by decide) (E11.thenPure E12)
     have good:¬ ((0<x.kids∧L.length≤x.a)∨(1<x.kids∧L.length≤x.b))→m_D_j2 (some q) p1 false None w13 (fun y w'=>y=(tR L k (x,r')).2.1∧∃F',jS w' q (tR L k (x,r')).1 F'∧RdS S w' a s bs (tR L k (x,r')).2.2∧Ext (fun b=>FP b∨b=a.block) w0 w'∧∀b,F' b→FP b∨w0.heap.size≤b):=fun hh=>by
      have hr:tR L k (x,r')=(if (Sp.find L (x.node k)).isSome=true then L else (Sp.make L (x.node k)).2.2,if (Sp.find L (x.node k)).isSome=true then 72 else (Sp.make L (x.node k)).2.1,r'):=by
       have hne:nodeErr k L.length x r'.err=0:=by unfold nodeErr;rw [if_neg (by omega),if_neg hnm,if_neg hh]
       unfold tR;simp only;rw [if_neg (by rw [hne];simp)];split <;> rfl
      rw [hr];refine c_sub3 q a s bs r' m p1 k x S12 hok (by omega) (by omega) (by omega) (by omega) B12 ⟨na,nS,nP,nF,nm⟩ _ ?_;rintro y w' hy ⟨F',g1,g2,g3,g4⟩;exact ⟨hy,F',g1,g2,(hEo.trans' (E11.thenPure E12) (fun i hi e=>by omega)).trans' g3 (fun i hi e=>e.elim .inl (fun e=>by omega)),fun b hb=>(g4 b hb).imp id (fun hh=>by have:=E11.size;have:=E12.size;omega)⟩
     have j5:∀x3:Bool,x3=decide (0<x.kids∧L.length≤x.a)→m_D_j5 (some q) p1 (L.length:Int) x3 None w13 (fun y w'=>y=(tR L k (x,r')).2.1∧∃F',jS w' q (tR L k (x,r')).1 F'∧RdS S w' a s bs (tR L k (x,r')).2.2∧Ext (fun b=>FP b∨b=a.block) w0 w'∧∀b,F' b→FP b∨w0.heap.size≤b):=by
      intro x3 h3;unfold m_D_j5;refine ⟨fun hc=>?_,fun hc=>?_⟩
      ·rw [hc] at h3;have h3:=of_decide_eq_true h3.symm;unfold m_D_j2;exact ⟨fun _=>bad71 (.inl h3),fun hc=>(by cases hc)⟩
      ·rw [hc] at h3;have h3:=of_decide_eq_false h3.symm;refine ⟨x.kids,B12.cell (i:=11) rfl,fun hc=>?_,fun hc=>?_⟩
       ·have hc:=of_decide_eq_true hc;refine ⟨x.b,B12.cell (i:=10) rfl,?_⟩;rw [vL (by omega)];by_cases hb:L.length≤x.b
        ·rw [decide_eq_true (show (x.b:Int)≥(L.length:Int) by omega)];unfold m_D_j2;exact ⟨fun _=>bad71 (.inr ⟨by omega,hb⟩),fun hc=>(by cases hc)⟩
        ·rw [decide_eq_false (show ¬ (x.b:Int)≥(L.length:Int) by omega)];exact good (by omega)
       ·have hc:=of_decide_eq_false hc;exact good (by omega)
     refine ⟨fun hc=>?_,fun hc=>?_⟩
     ·have hc:=of_decide_eq_true hc
      refine ⟨x.a,B12.cell (i:=9) rfl,j5 _ ?_⟩
      rw [decide_eq_decide];omega
     ·have hc:=of_decide_eq_false hc
      refine j5 _ ?_
      rw [decide_eq_false];omega
 ·have hnk:¬ (1≤(k:Int)∧(k:Int)≤9):=fun hh=>hkk (by unfold oE;simp;omega)
  refine ⟨_,false,S2.kinds.none (k:Int) hnk,fun _=>?_,fun hc=>(by cases hc)⟩
  rw [if_neg hkk]
  exact ⟨rfl,FP,S2.pool,S2.rd,E02.mono (fun b _ h=>.inr h),fun b hb=>.inl hb⟩
def jPQ (w0 w':World) (bs:List UInt8) (x:Option Addr):Prop :=
 (∀q,(zX bs).1=some q→∃p F,x=some p∧jS w' p q F∧∀b,F b→w0.heap.size≤b)∧((zX bs).1=none→x=none)
structure ReAt (w0 w:World) (q a:Addr) (s:Sl) (bs:List UInt8) (L:Sp.Pool) (r:Rd) (m:Nat) (S FP F:NP) (ps:List Nat) (pl:Sl):Prop where
 st:StAt w q a s bs L r m S FP F
 pure:Pure w0 w
 oP:∀b,FP b→w0.heap.size≤b
 oa:w0.heap.size≤a.block
 rows:Rws w 3 1 pl (tmr (ps.map Int.ofNat))
 own:∀b,pl.blk b→w0.heap.size≤b∧¬ FP b∧b≠a.block∧¬ S b∧¬ F b∧b≠m
theorem jLW:∀(l:List Int) (i:Nat) (z:Int),inRow i l=i+l.length→inRow i (l++[z])=if z=((i+l.length:Nat):Int)+1 then i+l.length+1 else i+l.length:=by
 intro l;induction l with
 | nil=>intro i z _;simp only [List.nil_append,inRow,List.length_nil,Nat.add_zero]
 | cons s l ih =>
  intro i z h
  rw [inRow] at h
  rw [List.cons_append,inRow]
  split
  ·rename_i hs
   rw [if_pos hs,List.length_cons] at h
   rw [ih (i+1) z (by omega),List.length_cons]
   rw [show i+1+l.length=i+(l.length+1) by omega]
  ·rename_i hs
   rw [if_neg hs,List.length_cons] at h;omega
theorem jLV:∀(l:List Int) (i:Nat) (z:Int) (post:List Int),inRow i l=i+l.length→z≠((i+l.length:Nat):Int)+1→inRow i (l++z :: post)=i+l.length:=by
 intro l;induction l with
 | nil=>intro i z post _ hz;simp only [List.nil_append,inRow,List.length_nil,Nat.add_zero] at *;rw [if_neg hz]
 | cons s l ih =>
  intro i z post h hz
  rw [inRow] at h
  rw [List.cons_append,inRow]
  split
  ·rename_i hs
   rw [if_pos hs,List.length_cons] at h
   rw [List.length_cons] at hz
   rw [ih (i+1) z post (by omega) (by rw [show i+1+l.length=i+(l.length+1) by omega];exact hz),List.length_cons];omega
  ·rename_i hs
   rw [if_neg hs,List.length_cons] at h;omega
theorem c_read {S0:NP} (sb:Sl) (bs:List UInt8) (w0:World) (hs:Lst S0 w0 1 sb (byr bs)) (hz:sb.a=none→sb=Sl.nil) :
  Calls prog 49 #[sb.v] w0 (fun e w'=>∃x:Option Addr,∃y z:Int,e=.returned (.tuple #[.pointer x,.int .i64 y,.int .i64 z])∧(y=(zX bs).2.1∧z=((zX bs).2.2:Int)∧jPQ w0 w' bs x∧Pure w0 w')):=by
 refine w_G1 sb w0 (fun x y z w'=>y=(zX bs).2.1∧z=((zX bs).2.2:Int)∧jPQ w0 w' bs x∧Pure w0 w') ?_
 unfold m_G1
 have hl:sb.len=bs.length:=by rw [hs.len,zN]
 have bad:∀(e:Int) (n:Nat) (w':World),zX bs=(none,e,n)→Pure w0 w'→e=(zX bs).2.1∧(n:Int)=((zX bs).2.2:Int)∧jPQ w0 w' bs none∧Pure w0 w':=fun e n w' h E=>by
  rw [h];exact ⟨rfl,rfl,⟨fun q hq=>(by rw [h] at hq;cases hq),fun _=>rfl⟩,E⟩
 refine ⟨fun hc=>?_,fun hc=>?_⟩
 ·have hc:4096<bs.length:=by have:=of_decide_eq_true hc;omega
  exact bad 1 0 w0 (by unfold zX;rw [if_pos hc]) (Ext.refl _)
 have hc:bs.length≤4096:=by have:=of_decide_eq_false hc;omega
 refine ⟨fun hc2=>?_,fun hc2=>?_⟩
 ·have hc2:bs.length=0:=by have:=beq_iff_eq.1 hc2;omega
  exact bad 3 0 w0 (by unfold zX;rw [if_neg (by omega),if_pos hc2]) (Ext.refl _)
 have hc2:bs.length≠0:=by have:=beq_eq_false_iff_ne.1 hc2;omega
 have htxt:zX bs=jGB bs bs.length [] ⟨0,0,0⟩ []:=by unfold zX;rw [if_neg (by omega),if_neg hc2]
 refine (jPK w0).mono ?_
 rintro _ w1 ⟨_,rfl,q,rfl,E1,FP0,hP,hFP⟩
 refine ⟨_,rfl,E1.keptP,?_⟩
 refine (c_cNew sb bs w1 (hs.pure E1) hz (by omega)).mono ?_
 rintro _ w2 ⟨_,rfl,a,s,rfl,hR,E2,ha,hsb⟩
 refine ⟨_,rfl,E2.keptP,?_⟩
 refine (jPG w2).mono ?_
 rintro _ w3 ⟨_,rfl,m,F,rfl,hK,E3,hm,hF⟩
 refine ⟨_,rfl,E3.keptP,?_⟩
 have z1:=E1.size;have z2:=E2.size;have z3:=E3.size
 have la:a.block<w2.heap.size:=hR.box.lt
 have hnil:∀b,¬ Sl.nil.blk b:=fun b hb=>by obtain ⟨a,h,_⟩:=hb;cases h
 have R3:ReAt w0 w3 q a s bs [] ⟨0,0,0⟩ m s.blk FP0 F [] Sl.nil :=
  ⟨⟨(hP.pure E2).pure E3,hR.pure E3,hK,fun b hb=>by have:=hsb b hb;omega,by omega,fun b hb=>by have h1:=hP.lt hb;exact ⟨by omega,fun hh=>by have:=hsb b hh;omega,fun hh=>by have:=hF b hh;omega,by omega⟩,fun b hb=>by have:=hF b hb;exact ⟨by omega,fun hh=>by have:=hsb b hh;omega⟩,by omega,fun hh=>by have:=hsb _ hh;omega⟩,(E1.trans E2).trans E3,hFP,by omega,Rws.nil _ _ _,fun b hb=>(hnil b hb).elim⟩
 refine ⟨fun pl Hl w=>∃(L:Sp.Pool) (r:Rd) (ps:List Nat) (FP:NP) (n:Nat),Hl=None∧ReAt w0 w q a s bs L r m s.blk FP F ps pl∧Sp.Wf L∧ps.length=L.length∧ps.length≤r.at_∧r.at_≤bs.length∧r.err=0∧bs.length - r.at_≤n∧jGB bs n L r ps=zX bs,fun pl _=>bs.length+1 - pl.len,⟨[],⟨0,0,0⟩,[],FP0,bs.length,rfl,R3,Sp.Wf.nil,rfl,Nat.zero_le _,Nat.zero_le _,rfl,Nat.le_refl _,htxt.symm⟩,?_⟩
 rintro pl _ wl _ ⟨L,r,ps,FP,n,rfl,hRe,hW,hps,hpr,hra,hre,hn,hgo⟩
 unfold m_G1_l1
 have hpl:pl.len=ps.length:=by rw [hRe.rows.len,uY,List.length_map]
 refine (c_Left a s bs r wl hRe.st.rd hra).mono ?_
 rintro _ w4 ⟨_,rfl,rfl,E4⟩
 refine ⟨_,rfl,E4.keptP,fun hc3=>?_,fun hc3=>?_⟩
 ·have hlt:r.at_<bs.length:=by have:=of_decide_eq_true hc3;omega
  obtain ⟨n,rfl⟩:∃k,n=k+1:=⟨n - 1,by omega⟩
  rw [jGB,if_pos hlt] at hgo
  have S4:=hRe.st.pure E4
  refine (c_At a s bs r w4 S4.rd).mono ?_
  rintro _ _ ⟨_,rfl,rfl,rfl⟩
  refine ⟨_,rfl,Kept.refl _,?_⟩
  refine (jPA q a s bs r m S4 hW.ok hlt hre).mono ?_
  rintro _ w6 ⟨_,rfl,rfl,F',hP6,hR6,E6,hF6⟩
  have z4:=E4.size;have z6:=E6.size
  have E06:Pure w0 w6:=(hRe.pure.trans E4).trans' E6 (fun i hi hh=>hh.elim (fun hh=>by have:=hRe.oP i hh;omega) (fun hh=>by have:=hRe.oa;omega))
  refine ⟨_,rfl,E6.kept (fun b hb=>hb.elim),fun hc4=>?_,fun hc4=>?_⟩
  ·have h0:(zO bs L r).2.1≠0:=bne_iff_ne.1 hc4
   rw [if_pos h0] at hgo
   exact bad _ _ _ hgo.symm E06
  ·have h0:(zO bs L r).2.1=0:=by simpa using hc4
   rw [if_neg (by simpa using h0)] at hgo
   obtain ⟨a1,a2,a3⟩:=jFX bs L r hlt hre h0
   have hw6:Sp.Wf (zO bs L r).1∧(zO bs L r).1.length=L.length+1:=by
    rw [xR bs L r hlt hre] at h0 ⊢;split at h0
    ·rename_i hk;rw [if_pos hk];obtain ⟨_,_,e3,e4,e5⟩:=jCC h0;rw [e5];simp only;refine ⟨Sp.xV hW _,?_⟩;have hc:=(Sp.uO e4).2.2;unfold Sp.make at e4 ⊢;simp only [e3] at e4 ⊢;rw [if_neg (by rw [hc];simp)] at e4 ⊢;split at e4
     ·simp at e4
     ·rename_i hf;rw [if_neg hf];simp
    ·simp at h0
   intro p1 w7 n7
   have E7:Pure w6 w7:=Ext.new n7
   have z7:=E7.size
   have R7:Rws w7 3 1 pl (tmr (ps.map Int.ofNat)):=((hRe.rows.pure E4).ext E6 (fun b hb hh=>hh.elim (hRe.own b hb).2.1 (hRe.own b hb).2.2.1)).pure E7
   obtain ⟨s1,w8,hr8,hR8,hE8,hb8⟩:=R7.append (P:=prog) (ty:=143) (c:=1) jTF (Box.of_newA n7).row rfl rfl (by rw [uY,List.length_map];omega) (by rw [uY,List.length_map];simp only [maxLen];omega)
   have hpw:∀b,pl.blk b→b<wl.heap.size:=fun b hb=>hRe.rows.lt hb
   have z8:=hE8.size
   have E08:Pure w0 w8:=(E06.trans E7).trans' hE8 (fun i hi hh=>by have:=(hRe.own i hh).1;omega)
   have hnew:∀b,F' b→¬ pl.blk b:=fun b hb hh=>(hF6 b hb).elim (fun h=>(hRe.own b hh).2.1 h) (fun h=>by have:=hpw b hh;omega)
   have S0:=S4
   have S8:StAt w8 q a s bs (zO bs L r).1 (zO bs L r).2.2 m s.blk F' F:=by
    refine ⟨(hP6.pure E7).ext hE8 hnew,(hR6.pure E7).ext hE8 (fun b hb hh=>(hRe.own b hh).2.2.2.1 hb) (fun hh=>(hRe.own _ hh).2.2.1 rfl),((S0.kinds.ext E6 (fun b hb hh=>?_)).pure E7).ext hE8 (fun b hb hh=>?_),fun b hb=>by have:=S0.lS b hb;omega,by have:=S0.la;omega,fun b hb=>?_,S0.dF,S0.dm⟩
    ·rcases hb with hb | rfl
     ·exact hh.elim (fun hh=>(S0.dP b hh).2.2.1 hb) (fun hh=>(S0.dF b hb).1 hh)
     ·exact hh.elim (fun hh=>(S0.dP _ hh).2.2.2 rfl) (fun hh=>S0.dm.1 hh)
    ·rcases hb with hb | rfl
     ·exact (hRe.own b hh).2.2.2.2.1 hb
     ·exact (hRe.own _ hh).2.2.2.2.2 rfl
    ·rcases hF6 b hb with h | h
     ·exact S0.dP b h
     ·exact ⟨by have:=S0.la;omega,fun hh=>by have:=S0.lS b hh;omega,fun hh=>by have:=S0.kinds.lt b hh;omega,by have:=S0.kinds.mlt;omega⟩
   refine ⟨s1,w8,hr8,hE8.kept (fun b hb=>hb.elim),⟨(zO bs L r).1,(zO bs L r).2.2,ps++[r.at_],F',n,rfl,⟨S8,E08,fun b hb=>(hF6 b hb).elim (hRe.oP b) (fun h=>by have:=hRe.pure.size;omega),hRe.oa,?_,fun b hb=>?_⟩,hw6.1,by rw [List.length_append,List.length_singleton,hw6.2];omega,by rw [List.length_append,List.length_singleton];omega,a2,a3,by omega,hgo⟩,?_⟩
   ·have:tmr ((ps++[r.at_]).map Int.ofNat)=tmr (ps.map Int.ofNat)++[[.int .i64 (r.at_:Int)]]:=by simp [tmr]
    rw [this];exact hR8
   ·rcases hb8 b hb with h | h
    ·have:=hRe.own b h
     exact ⟨this.1,fun hh=>hnew b hh h,this.2.2⟩
    ·have h1:=hRe.pure.size
     exact ⟨by omega,fun hh=>by have:=hP6.lt hh;omega,by have:=S0.la;omega,fun hh=>by have:=S0.lS b hh;omega,fun hh=>by have:=S0.kinds.lt b hh;omega,by have:=S0.kinds.mlt;omega⟩
   ·have h1:s1.len=ps.length+1:=by rw [hR8.len,List.length_append,uY,List.length_map];rfl
    show bs.length+1 - s1.len<bs.length+1 - pl.len
    omega
 ·have hge:¬ r.at_<bs.length:=by have:=of_decide_eq_false hc3;omega
  rw [jEP hge] at hgo
  intro p2 w9 n9
  have E9:Pure w4 w9:=Ext.new n9
  have B9:=Box.of_newA n9
  have b9:=n9.at_size
  refine ⟨B9.canW0 (by simp),id,?_⟩
  rintro w10 e10
  have X10:Ext (·=p2.block) w9 w10:=by rw [e10];exact Ext.setCell _ _
  have B10:Box w10 p2 [.int .i64 0] 3:=by rw [e10];exact B9.set0
  have z4:=E4.size;have z9:=E9.size;have z10:=X10.size
  have E4':Pure wl w10:=(E4.trans E9).own (by omega) X10
  have zw:=hRe.pure.size
  have P10:=hRe.st.pool.pure E4'
  have R10:=hRe.rows.pure E4'
  refine (jAE q w10 P10).mono ?_
  rintro _ w10 ⟨_,rfl,rfl,rfl⟩
  refine ⟨_,rfl,Kept.refl _,?_⟩
  refine (jPJ q L.length w10).mono ?_
  rintro _ w12 ⟨_,rfl,q2,q3,rfl,Bq2,Bq3,E12⟩
  have z12:=E12.size
  refine ⟨_,rfl,E12.keptP,_,_,rfl,call99,_,_,jIO hW (P10.pure E12) Bq2 Bq3,?_⟩
  have hfew:=Sp.xA hW L.length
  have hlf:=hW.ok.few
  unfold oY at hgo
  simp only at hgo
  generalize hxs:Sp.qO L L.length=xs at *
  have E012:Pure w0 w12:=(hRe.pure.trans E4').trans E12
  have vb:∀b,(b=p2.block∨FP b∨pl.blk b)→w0.heap.size≤b:=fun b hb=>hb.elim (fun h=>by omega) (fun hb=>hb.elim (hRe.oP b) (fun h=>(hRe.own b h).1))
  have dP2:¬ FP p2.block∧¬ pl.blk p2.block:=⟨fun hh=>by have:=hRe.st.pool.lt hh;omega,fun hh=>by have:=hRe.rows.lt hh;omega⟩
  refine ⟨fun pre Y A=>Box A p2 [.int .i64 (pre.length:Int)] 3∧inRow 0 pre=pre.length∧jS A q L FP∧Rws A 3 1 pl (tmr (ps.map Int.ofNat))∧(∀b,(b=p2.block∨FP b∨pl.blk b)→¬ Y b)∧Pure w0 A,
   fun pre Y A=>Box A p2 [.int .i64 (inRow 0 xs:Int)] 3∧jS A q L FP∧Rws A 3 1 pl (tmr (ps.map Int.ofNat))∧(∀b,(b=p2.block∨FP b∨pl.blk b)→¬ Y b)∧Pure w0 A,⟨fun _ _ _ _=>trivial,?_,?_,fun _ _ _ _ _ h=>h.elim⟩,?_,?_,?_⟩
  ·rintro pre Y A Y' A' ⟨g1,g2,g3,g4,g5,g6⟩ hst
   have hv:∀b,(b=p2.block∨FP b∨pl.blk b)→¬ Y' b:=hst.disj (fun b hb=>⟨hb.elim (fun e=>e▸g1.lt) (fun hb=>hb.elim (fun h=>g3.lt h) (fun h=>g4.lt h)),g5 b hb⟩)
   exact ⟨g1.ext hst.ext (hv _ (.inl rfl)),g2,g3.ext hst.ext (fun b hb=>hv b (.inr (.inl hb))),g4.ext hst.ext (fun b hb=>hv b (.inr (.inr hb))),hv,g6.hst hst⟩
  ·rintro pre Y A Y' A' ⟨g1,g3,g4,g5,g6⟩ hst
   have hv:∀b,(b=p2.block∨FP b∨pl.blk b)→¬ Y' b:=hst.disj (fun b hb=>⟨hb.elim (fun e=>e▸g1.lt) (fun hb=>hb.elim (fun h=>g3.lt h) (fun h=>g4.lt h)),g5 b hb⟩)
   exact ⟨g1.ext hst.ext (hv _ (.inl rfl)),g3.ext hst.ext (fun b hb=>hv b (.inr (.inl hb))),g4.ext hst.ext (fun b hb=>hv b (.inr (.inr hb))),hv,g6.hst hst⟩
  ·exact ⟨B10.pure E12,rfl,P10.pure E12,R10.pure E12,fun _ _ h=>h,E012⟩
  ·rintro pre z Y A ⟨g1,g2,g3,g4,g5,g6⟩ hsA ⟨post,hpost⟩
   have hpl2:pre.length<65536:=by have:=congrArg List.length hpost;simp only [List.length_append,List.length_cons] at this;omega
   have hw:IntKind.i64.wrap ((pre.length:Int)+1)=((pre.length+1:Nat):Int):=kQ (n:=pre.length+1) (by omega) (by omega)
   refine ⟨_,g1.cell0,fun hc=>?_,fun hc=>?_⟩
   ·have hc:z≠((pre.length+1:Nat):Int):=by rw [hw] at hc;exact bne_iff_ne.1 hc
    have hst:=jLV pre 0 z post (by omega) (by omega)
    rw [← hpost,Nat.zero_add] at hst
    exact ⟨Kept.refl _,by rw [hst];exact g1,g3,g4,g5,g6⟩
   ·have hc:z=((pre.length+1:Nat):Int):=by rw [hw] at hc;simpa using hc
    have hsn:=jLW pre 0 z (by omega)
    rw [if_pos (by omega)] at hsn
    refine ⟨_,g1.cell0,g1.canW0 (by simp),id,?_⟩
    rintro w13 e13
    have X13:Ext (·=p2.block) A w13:=by rw [e13];exact Ext.setCell _ _
    have B13:Box w13 p2 [.int .i64 ((pre++[z]).length:Int)] 3:=by
     rw [e13,List.length_append,List.length_singleton,← hw];exact g1.set0
    exact ⟨X13.kept (fun b hb e=>g5 b (.inl e) hb),B13,by rw [hsn,List.length_append,List.length_singleton];omega,g3.ext X13 (fun b hb e=>dP2.1 (e▸hb)),g4.ext X13 (fun b hb e=>dP2.2 (e▸hb)),g5,g6.trans' X13 (fun i hi e=>by omega)⟩
  ·rintro H1 w14 hs14 _ _ hI
   have hI:Box w14 p2 [.int .i64 (inRow 0 xs:Int)] 3∧jS w14 q L FP∧Rws w14 3 1 pl (tmr (ps.map Int.ofNat))∧(∀b,(b=p2.block∨FP b∨pl.blk b)→¬ H1 b)∧Pure w0 w14:=by
    rcases hI with ⟨g1,g2,g3,g4,g5,g6⟩ | ⟨_,g1,g3,g4,g5,g6⟩
    ·exact ⟨by rw [g2];exact g1,g3,g4,g5,g6⟩
    ·exact ⟨g1,g3,g4,g5,g6⟩
   obtain ⟨g1,g3,g4,g5,g6⟩:=hI
   refine ⟨_,g1.cell0,fun hc=>?_,fun hc=>?_⟩
   ·have hc:=jCL hpl hc
    rw [dif_pos hc] at hgo
    intro w15 hs15
    have hv15:∀b,(b=p2.block∨FP b∨pl.blk b)→¬ H1 b:=g5
    have g1':=g1.ext hs15.ext (hv15 _ (.inl rfl))
    have g4':=g4.ext hs15.ext (fun b hb=>hv15 b (.inr (.inr hb)))
    obtain ⟨a1,hat,_,hv5⟩:=jMU g4'.lst (j:=inRow 0 xs) (by simpa using hc)
    refine ⟨_,g1'.cell0,a1,hat,_,hv5,fun w16 hs16=>?_⟩
    have:=bad _ _ w16 hgo.symm ((g6.hst hs15).hst hs16)
    rw [List.getElem_map]
    exact this
   ·have hc:¬ inRow 0 xs<ps.length:=by have:=of_decide_eq_false hc;omega
    rw [dif_neg hc] at hgo
    intro w17 hs17
    have hF17:jS w17 q L FP:=g3.ext hs17.ext (fun b hb=>g5 b (.inr (.inl hb)))
    rw [← hgo]
    exact ⟨rfl,rfl,⟨fun q' hq'=>by rw [← hgo] at hq';cases hq';exact ⟨q,FP,rfl,hF17,hRe.oP⟩,fun hn=>by rw [← hgo] at hn;cases hn⟩,g6.hst hs17⟩
theorem jPQ.pool {w0 w':World} {bs:List UInt8} {x:Option Addr} (h:jPQ w0 w' bs x) {q:Sp.Pool} (hq:(zX bs).1=some q):∃p F,x=some p∧jS w' p q F∧∀b,F b→w0.heap.size≤b:=h.1 q hq
end Go.Proofs
end
section
open Go Go.SE
namespace Go.Sp
open Go.Proofs
theorem jDY (Lq:Pool):∀(l1 l2:List Int) (L:Pool) (own:Int→Int),zI Lq (l1++l2) L own=if (zI Lq l1 L own).2.1≠0 then zI Lq l1 L own else zI Lq l2 (zI Lq l1 L own).1 (zI Lq l1 L own).2.2:=by
 intro l1;induction l1 with
 | nil=>intro l2 L own;rw [List.nil_append];exact (if_neg (fun h=>h rfl)).symm
 | cons z l1 ih =>
  intro l2 L own
  obtain ⟨x,e,L',hm⟩:∃x e L',make L { nodeOf Lq z with a:=own (nodeOf Lq z).a,b:=own (nodeOf Lq z).b }=(x,e,L'):=⟨_,_,_,rfl⟩
  rw [List.cons_append,kP Lq z (l1++l2) L own rfl hm,kP Lq z l1 L own rfl hm]
  by_cases he:e≠0
  ·rw [if_pos he,if_pos he,if_pos he]
  ·rw [if_neg he,if_neg he,ih]
theorem jHC (Lq:Pool):∀(l:List Int) (L:Pool) (own:Int→Int),∃M,(zI Lq l L own).1=L++M:=by
 intro l;induction l with
 | nil=>intro L own;exact ⟨[],(List.append_nil L).symm⟩
 | cons z l ih =>
  intro L own
  obtain ⟨x,e,L',hm⟩:∃x e L',make L { nodeOf Lq z with a:=own (nodeOf Lq z).a,b:=own (nodeOf Lq z).b }=(x,e,L'):=⟨_,_,_,rfl⟩
  rw [kP Lq z l L own rfl hm]
  split
  ·exact ⟨[],by simp⟩
  ·obtain ⟨M1,e1⟩:=lK L { nodeOf Lq z with a:=own (nodeOf Lq z).a,b:=own (nodeOf Lq z).b }
   rw [hm] at e1
   obtain ⟨M2,e2⟩:=ih L' (fun y=>if y=z then x else own y)
   simp only at e1
   exact ⟨M1++M2,by rw [e2,e1,List.append_assoc]⟩
theorem jOW {Lq:Pool}:∀(l:List Int) (L:Pool) (own:Int→Int),Wf L→Wf (zI Lq l L own).1:=by
 intro l;induction l with
 | nil=>intro L own h;exact h
 | cons z l ih =>
  intro L own h
  obtain ⟨x,e,L',hm⟩:∃x e L',make L { nodeOf Lq z with a:=own (nodeOf Lq z).a,b:=own (nodeOf Lq z).b }=(x,e,L'):=⟨_,_,_,rfl⟩
  have hw:=xV h { nodeOf Lq z with a:=own (nodeOf Lq z).a,b:=own (nodeOf Lq z).b }
  rw [kP Lq z l L own rfl hm]
  rw [hm] at hw
  split
  ·exact h
  ·exact ih _ _ hw
theorem jJD {Lq:Pool} {l post:List Int} {z:Int} {L:Pool} {own:Int→Int} (h0:(zI Lq l L own).2.1=0) {n:Node} (hn:{ nodeOf Lq z with a:=(zI Lq l L own).2.2 (nodeOf Lq z).a,b:=(zI Lq l L own).2.2 (nodeOf Lq z).b }=n) (he:(make (zI Lq l L own).1 n).2.1≠0) :
  (zI Lq (l++z :: post) L own).2.1=(make (zI Lq l L own).1 n).2.1:=by
 obtain ⟨x,e,L',hm⟩:∃x e L',make (zI Lq l L own).1 n=(x,e,L'):=⟨_,_,_,rfl⟩
 rw [hm] at he ⊢
 rw [jDY,if_neg (by rw [h0];exact fun h=>h rfl),kP Lq z post _ _ hn hm,if_pos he]
theorem jJC {Lq:Pool} {l:List Int} {z:Int} {L:Pool} {own:Int→Int} (h0:(zI Lq l L own).2.1=0) {n:Node} (hn:{ nodeOf Lq z with a:=(zI Lq l L own).2.2 (nodeOf Lq z).a,b:=(zI Lq l L own).2.2 (nodeOf Lq z).b }=n) (he:(make (zI Lq l L own).1 n).2.1=0) :
  zI Lq (l++[z]) L own=((make (zI Lq l L own).1 n).2.2,0,fun x=>if x=z then (make (zI Lq l L own).1 n).1 else (zI Lq l L own).2.2 x):=by
 obtain ⟨x,e,L',hm⟩:∃x e L',make (zI Lq l L own).1 n=(x,e,L'):=⟨_,_,_,rfl⟩
 rw [hm] at he ⊢
 rw [jDY,if_neg (by rw [h0];exact fun h=>h rfl),kP Lq z [] _ _ hn hm,if_neg (fun h=>h he)]
 rfl
end Go.Sp
namespace Go.Proofs
open Tryz
attribute [local irreducible] Calls CallsD
theorem jKF {w:World} {a:Addr} {k:Nat} {v:Value}:Ext (·=a.block) w (w.setCell (a.add k) v):=(Ext.setCell _ _).mono (fun i _ e=>by rw [zA] at e;exact e)
def ownM (M:List (Int×Int)) (x:Int):Int:=(SE.look M x).getD 0
def CoV (p2 p3 p4 p5 p6 p8:Addr) (mb:Nat) (F' FQ:NP) (b:Nat):Prop:=b=p2.block∨b=p3.block∨b=p4.block∨b=p5.block∨b=p6.block∨b=p8.block∨b=mb∨F' b∨FQ b
structure CoB (A:World) (p q p2 p3 p4 p5 p6 p8:Addr) (mb n:Nat):Prop where
 b2:Box A p2 [.pointer (some p)] 27
 b3:Box A p3 [.pointer (some q)] 27
 b4:Box A p4 [.int .i64 0] 29
 b5:Box A p5 [.int .i64 0] 30
 b6:Box A p6 [.int .i64 (n:Int)] 3
 b8:Box A p8 [.map (some mb)] 145
theorem CoB.ext {A A':World} {p q p2 p3 p4 p5 p6 p8:Addr} {mb n:Nat} {F' FQ G:NP} (h:CoB A p q p2 p3 p4 p5 p6 p8 mb n) (E:Ext G A A') (hG:∀b,(b=p2.block∨b=p3.block∨b=p4.block∨b=p5.block∨b=p6.block∨b=p8.block)→¬ G b):CoB A' p q p2 p3 p4 p5 p6 p8 mb n :=
 ⟨h.b2.ext E (hG _ (.inl rfl)),h.b3.ext E (hG _ (.inr (.inl rfl))),h.b4.ext E (hG _ (.inr (.inr (.inl rfl)))),h.b5.ext E (hG _ (.inr (.inr (.inr (.inl rfl))))),h.b6.ext E (hG _ (.inr (.inr (.inr (.inr (.inl rfl)))))),h.b8.ext E (hG _ (.inr (.inr (.inr (.inr (.inr rfl))))))⟩
theorem CoB.pure {A A':World} {p q p2 p3 p4 p5 p6 p8:Addr} {mb n:Nat} (h:CoB A p q p2 p3 p4 p5 p6 p8 mb n) (E:Pure A A'):CoB A' p q p2 p3 p4 p5 p6 p8 mb n:=h.ext (F':=None) (FQ:=None) E (fun _ _ h=>h)
theorem CoB.lt {A:World} {p q p2 p3 p4 p5 p6 p8:Addr} {mb n b:Nat} (h:CoB A p q p2 p3 p4 p5 p6 p8 mb n) (hb:b=p2.block∨b=p3.block∨b=p4.block∨b=p5.block∨b=p6.block∨b=p8.block):b<A.heap.size:=by
 rcases hb with rfl | rfl | rfl | rfl | rfl | rfl
 ·exact h.b2.lt
 ·exact h.b3.lt
 ·exact h.b4.lt
 ·exact h.b5.lt
 ·exact h.b6.lt
 ·exact h.b8.lt
theorem c_Copy (p q:Addr) (t:Int) (w0:World) {L Lq:Sp.Pool} {FP FQ:NP} (hW:Sp.Wf L) (hQ:Sp.Wf Lq) (hP:jS w0 p L FP) (hPQ:jS w0 q Lq FQ) (hd:∀b,FP b→¬ FQ b) :
  Calls prog 50 #[.pointer (some p),.pointer (some q),.int .i64 t] w0 (fun e w'=>∃r1 r2:Int,e=.returned (.tuple #[.int .i64 r1,.int .i64 r2])∧(r1=(kU L Lq t).1∧r2=(kU L Lq t).2.1∧∃F',jS w' p (kU L Lq t).2.2 F'∧Ext FP w0 w'∧∀b,F' b→FP b∨w0.heap.size≤b)):=by
 refine w_R3 _ _ _ w0 (fun r1 r2 w'=>r1=(kU L Lq t).1∧r2=(kU L Lq t).2.1∧∃F',jS w' p (kU L Lq t).2.2 F'∧Ext FP w0 w'∧∀b,F' b→FP b∨w0.heap.size≤b) ?_
 unfold m_R3
 intro p2 w1 n2 p3 w2 n3 p4 w3 n4 p5 w4 n5
 have E1:Pure w0 w1:=Ext.new n2
 have E2:Pure w1 w2:=Ext.new n3
 have E3:Pure w2 w3:=Ext.new n4
 have E4:Pure w3 w4:=Ext.new n5
 have B2:=(((Box.of_newA n2).pure E2).pure E3).pure E4
 have B3:=((Box.of_newA n3).pure E3).pure E4
 have B4:=(Box.of_newA n4).pure E4
 have B5:=Box.of_newA n5
 have b2:=n2.at_size;have b3:=n3.at_size;have b4:=n4.at_size;have b5:=n5.at_size
 have z1:=E1.size;have z2:=E2.size;have z3:=E3.size;have z4:=E4.size
 have l1:=(Box.of_newA n2).lt;have l2:=(Box.of_newA n3).lt;have l3:=(Box.of_newA n4).lt;have l4:=B5.lt
 have E04:Pure w0 w4:=((E1.trans E2).trans E3).trans E4
 refine ⟨some p,B2.cell0,fun hc=>(by cases hc),fun _=>⟨some q,B3.cell0,?_⟩⟩
 refine (c_in q t w4 (hPQ.pure E04)).mono ?_
 rintro _ _ ⟨_,rfl,rfl,rfl⟩
 refine ⟨_,rfl,Kept.refl _,fun hc=>?_,fun hc=>?_⟩
 ·have hin:Sp.inP Lq t=false:=by simpa using hc
  have e:kU L Lq t=(0,51,L):=by unfold kU;rw [if_neg (by rw [hin];simp)]
  rw [e]
  refine ⟨B4.canW0 (by simp),id,?_⟩
  rintro w8 e8
  have X8:Ext (·=p4.block) w4 w8:=by rw [e8];exact Ext.setCell _ _
  have B48:Box w8 p4 [.int .i64 0] 29:=by rw [e8];exact B4.set0
  have B58:=B5.ext X8 (by omega)
  refine ⟨B58.canW0 (by simp),id,?_⟩
  rintro w9 e9
  have X9:Ext (·=p5.block) w8 w9:=by rw [e9];exact Ext.setCell _ _
  have B59:Box w9 p5 [.int .i64 51] 30:=by rw [e9];exact B58.set0
  have B49:=B48.ext X9 (by omega)
  refine ⟨_,B49.cell0,_,B59.cell0,rfl,rfl,FP,((hP.pure E04).ext X8 (fun b hb e=>by have:=hP.lt hb;omega)).ext X9 (fun b hb e=>by have:=hP.lt hb;omega),Ext.pure ((E04.own (by omega) X8).own (by omega) X9),fun b hb=>.inl hb⟩
 have hin:Sp.inP Lq t=true:=by simpa using hc
 obtain ⟨sl,hsl,hsll⟩:∃v4:Sl,w4.cell? p=some v4.v∧v4.len=L.length:=by
  obtain ⟨s,m,h,_⟩:=hP.pure E04;exact ⟨s,h.box.cell0,by rw [h.rows.len,List.length_map]⟩
 refine ⟨some p,B2.cell0,p,rfl,sl,hsl,?_⟩
 rw [hsll]
 intro p6 w10 n6
 have E10:Pure w4 w10:=Ext.new n6
 have B6:=Box.of_newA n6
 have b6:=n6.at_size
 refine ⟨B6.canW0 (by simp),id,?_⟩
 rintro w11 e11
 have X11:Ext (·=p6.block) w10 w11:=by rw [e11];exact Ext.setCell _ _
 have B6':Box w11 p6 [.int .i64 (L.length:Int)] 3:=by rw [e11];exact B6.set0
 intro p7 w12 n7
 have E12:Pure w11 w12:=Ext.new n7
 have M7:=IMap.of_new (f:=fun i:Int=>.int .i64 i) n7
 have b7:=n7.at_size
 intro p8 w13 n8
 have E13:Pure w12 w13:=Ext.new n8
 have B8:=Box.of_newA n8
 have b8:=n8.at_size
 refine ⟨B8.canW0 (by simp),id,?_⟩
 rintro w14 e14
 have X14:Ext (·=p8.block) w13 w14:=by rw [e14];exact Ext.setCell _ _
 have B8':Box w14 p8 [.map (some p7.block)] 145:=by rw [e14];exact B8.set0
 have z10:=E10.size;have z11:=X11.size;have z12:=E12.size;have z13:=E13.size;have z14:=X14.size
 have l6:=B6'.lt;have l7:=M7.lt;have l8:=B8.lt
 have E07:Pure w0 w14:=((((E04.trans E10).own (by omega) X11).trans E12).trans E13).own (by omega) X14
 have up:∀{T:TypeId} {c:Addr} {vs:List Value},Box w4 c vs T→c.block≠p6.block→c.block≠p8.block→Box w14 c vs T:=fun h h1 h2=>((((h.pure E10).ext X11 h1).pure E12).pure E13).ext X14 h2
 have C14:CoB w14 p q p2 p3 p4 p5 p6 p8 p7.block L.length:=⟨up B2 (by omega) (by omega),up B3 (by omega) (by omega),up B4 (by omega) (by omega),up B5 (by omega) (by omega),((B6'.pure E12).pure E13).ext X14 (by omega),B8'⟩
 have M14:=(M7.pure E13).ext X14 (by omega)
 refine ⟨some q,C14.b3.cell0,?_⟩
 refine (jPJ q t w14).mono ?_
 rintro _ w15 ⟨_,rfl,q2,q3,rfl,Bq2,Bq3,E15⟩
 have E015:=E07.trans E15
 have z15:=E15.size
 refine ⟨_,rfl,E15.keptP,_,_,rfl,call99,_,_,jIO hQ (hPQ.pure E015) Bq2 Bq3,?_⟩
 have hfew:=Sp.xA hQ t
 have hlq:=hQ.ok.few
 have hsub:∀u∈Sp.qO Lq t,Sp.inP Lq u=true:=fun u hu=>uZ hQ hu
 have hnd:=Sp.tV hQ t
 generalize hcs:kU L Lq t=cs at *
 have hcs':cs=if (zI Lq (Sp.qO Lq t) L (fun _=>0)).2.1≠0 then (0,(zI Lq (Sp.qO Lq t) L (fun _=>0)).2.1,L) else ((zI Lq (Sp.qO Lq t) L (fun _=>0)).2.2 t,0,(zI Lq (Sp.qO Lq t) L (fun _=>0)).1):=by rw [← hcs];unfold kU;rw [if_pos hin]
 have htin:t∈Sp.qO Lq t:=jEH hQ hin
 generalize Sp.qO Lq t=xs at *
 have C15:=C14.pure E15
 have M15:=M14.pure E15
 have o2:w0.heap.size≤p2.block:=by omega
 have o3:w0.heap.size≤p3.block:=by omega
 have o4:w0.heap.size≤p4.block:=by omega
 have o5:w0.heap.size≤p5.block:=by omega
 have o6:w0.heap.size≤p6.block:=by omega
 have o8:w0.heap.size≤p8.block:=by omega
 have om:w0.heap.size≤p7.block:=by omega
 have d45:p4.block≠p5.block:=by omega
 have dm:∀b,(b=p2.block∨b=p3.block∨b=p4.block∨b=p5.block∨b=p6.block∨b=p8.block)→b≠p7.block:=fun b hb=>by rcases hb with rfl | rfl | rfl | rfl | rfl | rfl <;> omega
 have ob:∀b,(b=p2.block∨b=p3.block∨b=p4.block∨b=p5.block∨b=p6.block∨b=p8.block∨b=p7.block)→w0.heap.size≤b∧b<w15.heap.size:=fun b hb=>by rcases hb with rfl | rfl | rfl | rfl | rfl | rfl | rfl <;> omega
 generalize p7.block=mb at *
 clear up B2 B3 B4 B5 B6 B6' B8 B8' M7 M14 C14 n2 n3 n4 n5 n6 n7 n8 X11 X14 E10 E12 E13 e11 e14 Bq2 Bq3 hsl
 have hPq:∀b,FQ b→b<w0.heap.size:=fun b hb=>hPQ.lt hb
 refine ⟨fun pre Y A=>∃(F':NP) (M:List (Int×Int)),(zI Lq pre L (fun _=>0)).2.1=0∧jS A p (zI Lq pre L (fun _=>0)).1 F'∧IMap (fun i:Int=>.int .i64 i) A mb M∧M.map Prod.fst=pre∧(∀x,(zI Lq pre L (fun _=>0)).2.2 x=ownM M x)∧CoB A p q p2 p3 p4 p5 p6 p8 mb L.length∧jS A q Lq FQ∧(∀b,F' b→FP b∨(w0.heap.size≤b∧¬ (b=p2.block∨b=p3.block∨b=p4.block∨b=p5.block∨b=p6.block∨b=p8.block∨b=mb)))∧(∀b,CoV p2 p3 p4 p5 p6 p8 mb F' FQ b→¬ Y b)∧Ext FP w0 A∧w15.heap.size≤A.heap.size,
  fun pre Y A=>∃(F':NP) (e:Int),cs=(0,e,L)∧jS A p L F'∧Box A p4 [.int .i64 0] 29∧Box A p5 [.int .i64 e] 30∧(∀b,F' b→FP b∨w0.heap.size≤b)∧(∀b,(b=p4.block∨b=p5.block∨F' b)→¬ Y b)∧Ext FP w0 A,⟨fun _ _ _ _=>trivial,?_,fun _ _ _ _ _ h=>h.elim,?_⟩,?_,?_,?_,?_⟩
 ·rintro pre Y A Y' A' ⟨F',M,g1,g2,g3,g4,g5,g6,g7,g8,g9,g10,g11⟩ hst
  have hv:∀b,CoV p2 p3 p4 p5 p6 p8 mb F' FQ b→¬ Y' b:=hst.disj (fun b hb=>⟨by
   rcases hb with hb | hb | hb | hb | hb | hb | hb | hb | hb
   ·exact g6.lt (.inl hb)
   ·exact g6.lt (.inr (.inl hb))
   ·exact g6.lt (.inr (.inr (.inl hb)))
   ·exact g6.lt (.inr (.inr (.inr (.inl hb))))
   ·exact g6.lt (.inr (.inr (.inr (.inr (.inl hb)))))
   ·exact g6.lt (.inr (.inr (.inr (.inr (.inr hb)))))
   ·exact hb▸g3.lt
   ·exact g2.lt hb
   ·exact g7.lt hb,g9 b hb⟩)
  exact ⟨F',M,g1,g2.ext hst.ext (fun b hb=>hv b (.inr (.inr (.inr (.inr (.inr (.inr (.inr (.inl hb))))))))),g3.ext hst.ext (hv _ (.inr (.inr (.inr (.inr (.inr (.inr (.inl rfl)))))))),g4,g5,g6.ext (F':=F') (FQ:=FQ) hst.ext (fun b hb=>hv b (by rcases hb with h | h | h | h | h | h <;> simp only [CoV,h,true_or,or_true])),g7.ext hst.ext (fun b hb=>hv b (.inr (.inr (.inr (.inr (.inr (.inr (.inr (.inr hb))))))))),g8,hv,g10.hst hst,Nat.le_trans g11 hst.ext.size⟩
 ·rintro pre Y A Y' A' ⟨F',e,g1,g2,g3,g4,g5,g6,g7⟩ hst
  have hv:∀b,(b=p4.block∨b=p5.block∨F' b)→¬ Y' b:=hst.disj (fun b hb=>⟨by
   rcases hb with hb | hb | hb
   ·exact hb▸g3.lt
   ·exact hb▸g4.lt
   ·exact g2.lt hb,g6 b hb⟩)
  exact ⟨F',e,g1,g2.ext hst.ext (fun b hb=>hv b (.inr (.inr hb))),g3.ext hst.ext (hv _ (.inl rfl)),g4.ext hst.ext (hv _ (.inr (.inl rfl))),g5,hv,g7.hst hst⟩
 ·exact ⟨FP,[],rfl,hP.pure E015,M15,rfl,fun _=>rfl,C15,hPQ.pure E015,fun b hb=>.inl hb,fun _ _ h=>h,Ext.pure E015,Nat.le_refl _⟩
 ·rintro pre z Y A ⟨F',M,g1,g2,g3,g4,g5,g6,g7,g8,g9,g10,g11⟩ hsA ⟨post,hpost⟩
  have hzin:Sp.inP Lq z=true:=hsub z (by rw [hpost];simp)
  have hzn:z ∉ pre:=by
   rw [hpost] at hnd;have:=(List.nodup_append.1 hnd).2.2;exact fun h=>this z h z (by simp) rfl
  generalize hcg:zI Lq pre L (fun _=>0)=cg at *
  have hok:Sp.Ok cg.1:=by rw [← hcg];exact (Sp.jOW pre L _ hW).ok
  have hA0:=hsA.lt
  refine ⟨some q,g6.b3.cell0,?_⟩
  refine (jHN q z A g7 hQ.ok).mono ?_
  rintro _ w16 ⟨k,f,t',u,x,a,b,r3,rfl,⟨hn,_⟩,E16⟩
  have z16:=E16.size
  refine ⟨_,_,_,_,_,_,_,_,rfl,E16.kept (fun b hb=>hb.elim),?_⟩
  intro p9 w17 n9
  have E17:Pure w16 w17:=Ext.new n9
  have B9:=Box.of_newA n9
  have b9:=n9.at_size
  have z17:=E17.size
  refine ⟨B9.canWs (by simp),id,?_⟩
  rintro w18 e18
  have X18:Ext (·=p9.block) w17 w18:=by rw [e18];exact Ext.storeRow _ _ _
  have B18:Box w18 p9 (uU ⟨k,f,t',u,x,a,b⟩) 59:=by rw [e18];exact B9.store rfl
  have z18:=X18.size
  have l9:=B18.lt
  have keep:∀{G:NP} {w':World},Ext G A w'→(∀b,b<A.heap.size→¬ G b)→IMap (fun i:Int=>.int .i64 i) w' mb M∧CoB w' p q p2 p3 p4 p5 p6 p8 mb L.length∧jS w' q Lq FQ∧jS w' p cg.1 F':=fun {G w'} E hG =>
   ⟨g3.ext E (hG _ g3.lt),g6.ext (F':=F') (FQ:=FQ) E (fun b hb=>hG b (g6.lt hb)),g7.ext E (fun b hb=>hG b (g7.lt hb)),g2.ext E (fun b hb=>hG b (g2.lt hb))⟩
  have E18:Ext (·=p9.block) A w18:=(Ext.pure (E16.trans E17)).trans X18
  have hg9:∀b,b<A.heap.size→¬ (b=p9.block):=fun b hb e=>by omega
  have look:∀{w':World},IMap (fun i:Int=>.int .i64 i) w' mb M→∀y,(Instr.lookup 145 (.map (some mb)) (.int .i64 y) false).run prog w'=.ok (.int .i64 (cg.2.2 y)) w':=fun {w'} h y=>by
   rw [g5 y];rcases h.get (P:=prog) (T:=145) underlying145 underlying29 (zeroValue29 _) y false with ⟨hn,hr⟩ | ⟨v,hv,hr⟩
   ·unfold ownM;rw [hn];exact hr
   ·unfold ownM;rw [hv];exact hr
  refine ⟨fun w'=>w'.cell? p8=some (.map (some mb))∧IMap (fun i:Int=>.int .i64 i) w' mb M,?_,?_⟩
  ·obtain ⟨k1,k2,_,_⟩:=keep (E18.thenPure (Ext.drew w18)) hg9
   exact ⟨k2.b8.cell0,k1⟩
  rintro w19 e19
  have E19:Ext (·=p9.block) A w19:=by rw [e19];exact E18.thenPure (Ext.drew w18)
  have B19:Box w19 p9 (uU ⟨k,f,t',u,x,a,b⟩) 59:=by rw [e19];exact B18.pure (Ext.drew w18)
  obtain ⟨k1,k2,k3,k4⟩:=keep E19 hg9
  refine ⟨some mb,k2.b8.cell0,a,B19.cell (i:=5) rfl,_,look k1 a,some mb,fun w' h=>h.1,b,B19.cell (i:=6) rfl,_,fun w' h=>look h.2 b,B19.canW (i:=5) (by simp [uU]),id,?_⟩
  rintro w20 e20
  have X20:Ext (·=p9.block) w19 w20:=by rw [e20];exact jKF
  have B20:Box w20 p9 (uU ⟨k,f,t',u,x,cg.2.2 a,b⟩) 59:=by rw [e20];exact B19.set 5 _
  have E20:=E19.trans X20
  obtain ⟨k1',k2',_,_⟩:=keep E20 hg9
  refine ⟨⟨k2'.b8.cell0,k1'⟩,B20.canW (i:=6) (by simp [uU]),id,?_⟩
  rintro w21 e21
  have X21:Ext (·=p9.block) w20 w21:=by rw [e21];exact jKF
  have B21:Box w21 p9 (uU ⟨k,f,t',u,x,cg.2.2 a,cg.2.2 b⟩) 59:=by rw [e21];exact B20.set 6 _
  have E21:=E20.trans X21
  obtain ⟨m1,m2,m3,m4⟩:=keep E21 hg9
  have z21:=E21.size
  refine ⟨some p,m2.b2.cell0,k,f,t',u,x,cg.2.2 a,cg.2.2 b,B21.row,?_⟩
  have hnn:({ Sp.nodeOf Lq z with a:=cg.2.2 (Sp.nodeOf Lq z).a,b:=cg.2.2 (Sp.nodeOf Lq z).b }:Sp.Node)=⟨k,f,t',u,x,cg.2.2 a,cg.2.2 b⟩:=by rw [← hn]
  refine (jPL p k f t' u x (cg.2.2 a) (cg.2.2 b) w21 m4 hok).mono ?_
  rintro _ w22 ⟨r4,r5,rfl,he,F2,hP2,E22,hF2⟩
  have he1:=congrArg Prod.fst he
  have he2:=congrArg Prod.snd he
  simp only at he1 he2
  have z22:=E22.size
  have hF'o:∀b,F' b→¬ (b=p2.block∨b=p3.block∨b=p4.block∨b=p5.block∨b=p6.block∨b=p8.block∨b=mb):=fun b hb hh=>(g8 b hb).elim (fun h=>by have:=hP.lt h;have:=(ob b hh).1;omega) (fun h=>h.2 hh)
  have n22:CoB w22 p q p2 p3 p4 p5 p6 p8 mb L.length:=m2.ext (F':=F') (FQ:=FQ) E22 (fun b hb hh=>hF'o b hh (by rcases hb with h | h | h | h | h | h <;> simp only [h,true_or,or_true]))
  have M22:=m1.ext E22 (fun hh=>hF'o _ hh (by simp))
  have Q22:=m3.ext E22 (fun b hb hh=>(g8 b hh).elim (fun h=>hd b h hb) (fun h=>by have:=hPq b hb;omega))
  have kY:Kept Y A w22:=(E21.kept (fun b hb e=>by have:=hA0 b hb;omega)).trans (E22.kept (fun b hb hh=>g9 b (.inr (.inr (.inr (.inr (.inr (.inr (.inr (.inl hh)))))))) hb))
  have E022:Ext FP w0 w22:=(g10.trans' E21 (fun i hi e=>by have:=g10.size;omega)).trans' E22 (fun i hi hh=>(g8 i hh).elim id (fun h=>by omega))
  have hF2o:∀b,F2 b→FP b∨(w0.heap.size≤b∧¬ (b=p2.block∨b=p3.block∨b=p4.block∨b=p5.block∨b=p6.block∨b=p8.block∨b=mb)):=fun b hb=>(hF2 b hb).elim (g8 b) (fun h=>.inr ⟨by have:=g10.size;omega,fun hh=>by have:=(ob b hh).2;omega⟩)
  have hF2Y:∀b,F2 b→¬ Y b:=fun b hb hY=>(hF2 b hb).elim (fun h=>g9 b (.inr (.inr (.inr (.inr (.inr (.inr (.inr (.inl h)))))))) hY) (fun h=>by have:=hA0 b hY;omega)
  refine ⟨r4,r5,rfl,E22.kept (fun b hb=>hb.elim),fun hc=>?_,fun hc=>?_⟩
  ·have h5:(Sp.make cg.1 ⟨k,f,t',u,x,cg.2.2 a,cg.2.2 b⟩).2.1≠0:=by rw [← he2];exact bne_iff_ne.1 hc
   have hfail:=@Sp.jJD Lq pre post z L (fun _=>0) (by rw [hcg];exact g1) ⟨k,f,t',u,x,cg.2.2 a,cg.2.2 b⟩ (by rw [hcg];exact hnn) (by rw [hcg];exact h5)
   rw [← hpost,hcg,← he2] at hfail
   have hcs2:cs=(0,r5,L):=by rw [hcs',hfail,if_pos (by rw [he2];exact h5)]
   refine ⟨some p,n22.b2.cell0,_,n22.b6.cell0,?_⟩
   obtain ⟨Mg,hMg⟩:=Sp.jHC Lq pre L (fun _=>0)
   rw [hcg] at hMg
   have hmk:∃M2,(Sp.make cg.1 ⟨k,f,t',u,x,cg.2.2 a,cg.2.2 b⟩).2.2=cg.1++M2:=Sp.lK _ _
   obtain ⟨M2,hM2⟩:=hmk
   rw [hM2,hMg,List.append_assoc] at hP2
   have hok2:Sp.Ok (L++(Mg++M2)):=by rw [← List.append_assoc,← hMg,← hM2];exact Sp.jII hok _
   refine (c_cut p L.length w22 hP2 hok2 (by rw [List.length_append];omega)).mono ?_
   rintro _ w23 ⟨rfl,hP3,E23⟩
   rw [List.take_left] at hP3
   have n23:CoB w23 p q p2 p3 p4 p5 p6 p8 mb L.length:=n22.ext (F':=F') (FQ:=FQ) E23 (fun b hb hh=>(hF2o b hh).elim (fun h=>by have:=hP.lt h;have:=(ob b (by rcases hb with h | h | h | h | h | h <;> simp only [h,true_or,or_true])).1;omega) (fun h=>h.2 (by rcases hb with h | h | h | h | h | h <;> simp only [h,true_or,or_true])))
   refine ⟨rfl,E23.kept (fun b hb=>hb.elim),n23.b4.canW0 (by simp),id,?_⟩
   rintro w24 e24
   have X24:Ext (·=p4.block) w23 w24:=by rw [e24];exact Ext.setCell _ _
   have B24:Box w24 p4 [.int .i64 0] 29:=by rw [e24];exact n23.b4.set0
   have B25:=n23.b5.ext X24 (fun e=>d45 e.symm)
   refine ⟨B25.canW0 (by simp),id,?_⟩
   rintro w25 e25
   have X25:Ext (·=p5.block) w24 w25:=by rw [e25];exact Ext.setCell _ _
   have B25':Box w25 p5 [.int .i64 r5] 30:=by rw [e25];exact B25.set0
   have nF:∀b,F2 b→b≠p4.block∧b≠p5.block:=fun b hb=>(hF2o b hb).elim (fun h=>by have:=hP.lt h;omega) (fun h=>⟨fun e=>h.2 (.inr (.inr (.inl e))),fun e=>h.2 (.inr (.inr (.inr (.inl e))))⟩)
   have nY4:¬ Y p4.block:=g9 _ (.inr (.inr (.inl rfl)))
   have nY5:¬ Y p5.block:=g9 _ (.inr (.inr (.inr (.inl rfl))))
   refine ⟨((kY.trans (E23.kept (fun b hb hh=>hF2Y b hh hb))).trans (X24.kept (fun b hb e=>nY4 (e▸hb)))).trans (X25.kept (fun b hb e=>nY5 (e▸hb))),F2,r5,hcs2,(hP3.ext X24 (fun b hb e=>(nF b hb).1 e)).ext X25 (fun b hb e=>(nF b hb).2 e),B24.ext X25 d45,B25',fun b hb=>(hF2o b hb).imp id (fun h=>h.1),?_,((E022.trans' E23 (fun i hi hh=>(hF2o i hh).elim id (fun h=>by omega))).trans' X24 (fun i hi e=>by omega)).trans' X25 (fun i hi e=>by omega)⟩
   rintro b (rfl | rfl | hb)
   ·exact nY4
   ·exact nY5
   ·exact hF2Y b hb
  ·have h5:(Sp.make cg.1 ⟨k,f,t',u,x,cg.2.2 a,cg.2.2 b⟩).2.1=0:=by rw [← he2];simpa using hc
   have hnext:=@Sp.jJC Lq pre z L (fun _=>0) (by rw [hcg];exact g1) ⟨k,f,t',u,x,cg.2.2 a,cg.2.2 b⟩ (by rw [hcg];exact hnn) (by rw [hcg];exact h5)
   rw [hcg,← he1] at hnext
   have hlk:SE.look M z=none:=uP.2 (by rw [g4];exact hzn)
   obtain ⟨w26,hr26,hM26,X26⟩:=M22.put (P:=prog) (T:=145) underlying145 underlying29 hlk r4
   have nm:∀b,F2 b→b≠mb:=fun b hb=>(hF2o b hb).elim (fun h=>by have:=hP.lt h;have:=(ob mb (by simp)).1;omega) (fun h e=>h.2 (by simp [e]))
   have nYm:¬ Y mb:=g9 _ (.inr (.inr (.inr (.inr (.inr (.inr (.inl rfl)))))))
   have hmbo:=(ob mb (by simp)).1
   refine ⟨some mb,n22.b8.cell0,w26,hr26,X26.kept (fun b hb=>hb.elim),kY.trans (X26.kept (fun b hb e=>nYm (e▸hb))),F2,M++[(z,r4)],by rw [hnext],by rw [hnext];exact hP2.ext X26 (fun b hb e=>nm b hb e),hM26,by simp [g4],?_,n22.ext (F':=F') (FQ:=FQ) X26 (fun b hb e=>dm b hb e),Q22.ext X26 (fun b hb e=>by have:=hPq b hb;omega),hF2o,?_,E022.trans' X26 (fun i hi e=>by omega),by have:=X26.size;omega⟩
   ·intro y
    rw [hnext]
    simp only
    unfold ownM
    rw [jNY (by rw [g4];exact hzn)]
    by_cases e:y=z
    ·rw [if_pos e,if_pos e.symm];rfl
    ·rw [if_neg e,if_neg (fun h=>e h.symm)];exact g5 y
   ·rintro b (hb | hb | hb | hb | hb | hb | hb | hb | hb)
    ·exact g9 b (.inl hb)
    ·exact g9 b (.inr (.inl hb))
    ·exact g9 b (.inr (.inr (.inl hb)))
    ·exact g9 b (.inr (.inr (.inr (.inl hb))))
    ·exact g9 b (.inr (.inr (.inr (.inr (.inl hb)))))
    ·exact g9 b (.inr (.inr (.inr (.inr (.inr (.inl hb))))))
    ·exact g9 b (.inr (.inr (.inr (.inr (.inr (.inr (.inl hb)))))))
    ·exact hF2Y b hb
    ·exact g9 b (.inr (.inr (.inr (.inr (.inr (.inr (.inr (.inr hb))))))))
 ·rintro H1 w27 hs27 _ _ ⟨F',M,g1,g2,g3,g4,g5,g6,g7,g8,g9,g10,g11⟩
  have hcs2:cs=((zI Lq xs L (fun _=>0)).2.2 t,0,(zI Lq xs L (fun _=>0)).1):=by rw [hcs',if_neg (by simpa using g1)]
  have hlk:(Instr.lookup 145 (.map (some mb)) (.int .i64 t) false).run prog w27=.ok (.int .i64 ((zI Lq xs L (fun _=>0)).2.2 t)) w27:=by
   rw [g5 t];rcases g3.get (P:=prog) (T:=145) underlying145 underlying29 (zeroValue29 _) t false with ⟨hn,hr⟩ | ⟨v,hv,hr⟩
   ·unfold ownM;rw [hn];exact hr
   ·unfold ownM;rw [hv];exact hr
  generalize hcg:zI Lq xs L (fun _=>0)=cg at *
  have nY4:¬ H1 p4.block:=g9 _ (.inr (.inr (.inl rfl)))
  have nY5:¬ H1 p5.block:=g9 _ (.inr (.inr (.inr (.inl rfl))))
  refine ⟨some mb,g6.b8.cell0,_,hlk,g6.b4.canW0 (by simp),nY4,?_⟩
  rintro w28 e28
  have X28:Ext (·=p4.block) w27 w28:=by rw [e28];exact Ext.setCell _ _
  have B28:Box w28 p4 [.int .i64 (cg.2.2 t)] 29:=by rw [e28];exact g6.b4.set0
  have B28':=g6.b5.ext X28 (fun e=>d45 e.symm)
  refine ⟨B28'.canW0 (by simp),nY5,?_⟩
  rintro w29 e29
  have X29:Ext (·=p5.block) w28 w29:=by rw [e29];exact Ext.setCell _ _
  have B29:Box w29 p5 [.int .i64 0] 30:=by rw [e29];exact B28'.set0
  have B29':=B28.ext X29 d45
  intro w30 hs30
  have nF:∀b,F' b→b≠p4.block∧b≠p5.block:=fun b hb=>(g8 b hb).elim (fun h=>by have:=hP.lt h;omega) (fun h=>⟨fun e=>h.2 (.inr (.inr (.inl e))),fun e=>h.2 (.inr (.inr (.inr (.inl e))))⟩)
  refine ⟨_,(B29'.ext hs30.ext nY4).cell0,_,(B29.ext hs30.ext nY5).cell0,?_⟩
  rw [hcs2]
  refine ⟨rfl,rfl,F',((g2.ext X28 (fun b hb e=>(nF b hb).1 e)).ext X29 (fun b hb e=>(nF b hb).2 e)).ext hs30.ext (fun b hb=>g9 b (.inr (.inr (.inr (.inr (.inr (.inr (.inr (.inl hb))))))))),((g10.trans' X28 (fun i hi e=>by omega)).trans' X29 (fun i hi e=>by omega)).hst hs30,fun b hb=>(g8 b hb).imp id (fun h=>h.1)⟩
 ·rintro pre H2 w32 hs32 ⟨F',e,g1,g2,g3,g4,g5,g6,g7⟩
  refine ⟨_,g3.cell0,_,g4.cell0,?_⟩
  rw [g1]
  exact ⟨rfl,rfl,F',g2,g7,g5⟩
end Go.Proofs
end
section
open Go Go.SE
namespace Go.Proofs
open Tryz
attribute [local irreducible] Calls CallsD
theorem jSD {S0:NP} (p:Addr) (sb:Sl) (bs:List UInt8) (w0:World) {L:Sp.Pool} {FP:NP} (hW:Sp.Wf L) (hP:jS w0 p L FP) (hs:Lst S0 w0 1 sb (byr bs)) (hz:sb.a=none→sb=Sl.nil) :
  Calls prog 24 #[.pointer (some p),sb.v] w0 (fun e w'=>∃t x y:Int,e=.returned (.tuple #[.int .i64 t,.int .i64 x,.int .i64 y])∧(t=(uI L bs).1∧x=(uI L bs).2.1∧y=((uI L bs).2.2.1:Int)∧∃F',jS w' p (uI L bs).2.2.2 F'∧Ext FP w0 w'∧∀b,F' b→FP b∨w0.heap.size≤b)):=by
 refine w_T2 _ _ w0 (fun t x y w'=>t=(uI L bs).1∧x=(uI L bs).2.1∧y=((uI L bs).2.2.1:Int)∧∃F',jS w' p (uI L bs).2.2.2 F'∧Ext FP w0 w'∧∀b,F' b→FP b∨w0.heap.size≤b) ?_
 unfold m_T2
 refine ⟨fun hc=>(by cases hc),fun _=>?_⟩
 refine (c_read sb bs w0 hs hz).mono ?_
 rintro _ w1 ⟨x,y,z,rfl,hy,hz',hout,E1⟩
 refine ⟨_,_,_,rfl,?_⟩
 cases hq:(zX bs).1 with
 | none =>
  have hd:uI L bs=(0,(zX bs).2.1,(zX bs).2.2,L):=by unfold uI;rw [hq]
  have he:y≠0:=by rw [hy];exact Sp.jDQ hq
  refine ⟨fun _=>?_,fun hc=>absurd (by simpa using hc) he⟩
  rw [hd]
  exact ⟨rfl,hy,hz',FP,hP.pure E1,Ext.pure E1,fun b hb=>.inl hb⟩
 | some q =>
  obtain ⟨a,F,rfl,hPq,hF⟩:=hout.pool hq
  obtain ⟨g1,_,g3,_⟩:=Sp.lI hq
  have h0:=Sp.jNC hq
  have hd:uI L bs=((kU L q q.length).1,(kU L q q.length).2.1,0,(kU L q q.length).2.2):=by unfold uI;rw [hq]
  rw [h0] at hy
  refine ⟨fun hc=>absurd hy (by simpa using hc),fun _=>?_⟩
  refine (jAE a w1 hPq).mono ?_
  rintro _ w2 ⟨_,rfl,rfl,rfl⟩
  refine ⟨_,rfl,?_⟩
  refine (c_Copy p a q.length w2 hW g1 (hP.pure E1) hPq (fun b hb hh=>by have:=hP.lt hb;have:=hF b hh;omega)).mono ?_
  rintro _ w3 ⟨r1,r2,rfl,h1,h2,F',hP',E3,hF'⟩
  refine ⟨_,_,rfl,?_⟩
  rw [hd]
  exact ⟨h1,h2,rfl,F',hP',(Ext.pure E1).trans E3,fun b hb=>(hF' b hb).imp id (fun h=>by have:=E1.size;omega)⟩
end Go.Proofs
end
section
open Go Go.SE
namespace Go.Sp
open Go.Proofs
end Go.Sp
namespace Go.Proofs
open Tryz
attribute [local irreducible] Calls CallsD
theorem jSG {w:World} {s:Sl} {bs:List UInt8} {S:NP} (h:Lst S w 1 s (byr bs)):(convert 25 9 s.v).run prog w=.ok (.string ⟨bs.toArray⟩) w :=
 jEJ underlying25 underlying5 underlying9 h
end Go.Proofs
end
section
open Go Go.SE
namespace Go.Proofs
attribute [local irreducible] Calls CallsD
section
variable {S:NP} {w w':World} {a:Addr} {s:Sl} {bs:List UInt8} {r:Rd}
end
section
variable {S:NP} (a:Addr) (s:Sl) (bs:List UInt8) (r:Rd) (w0:World)
end
def stp (bs:List UInt8) (c:Bool) (f:Fld) (s:Raw×Rd):Raw×Rd:=if c then (f.raw bs s.2 s.1,f.rd bs s.2) else s
section
variable {S:NP} {w0 w w':World} {H H':NP} {p1 a:Addr} {s:Sl} {bs:List UInt8} {r:Rd}
variable (k i:Nat) (hk:1≤k∧k≤9) (hi:i≤100000) {K:Int→Int→Int→Int→ByteArray→Int→Int→Int→WP}
include hk hi
end
end Go.Proofs
end
section
open Go Go.SE
namespace Go.Sp
open Go.Proofs
theorem make_new {L:Pool} {n:Node} (h:find L n=none) (h0:(make L n).2.1=0):(make L n).2.2.length=L.length+1:=by
 have hc:=(uO h0).2.2;unfold make at h0 ⊢;simp only [h] at h0 ⊢;rw [if_neg (by rw [hc];simp)] at h0 ⊢;split at h0
 ·simp at h0
 ·rename_i hf;rw [if_neg hf];simp
end Go.Sp
namespace Go.Proofs
attribute [local irreducible] Calls CallsD
end Go.Proofs
end
section
open Go Go.SE
namespace Go.Sp
open Go.Proofs
end Go.Sp
namespace Go.Proofs
attribute [local irreducible] Calls CallsD
section
variable {w0 w w':World} {H H':NP} {p q:Addr} {Lc Lq:Sp.Pool} {s1 r2:Sl} {A xs:List Int} {FP F' FQ:NP}
end
end Go.Proofs
end
section
open Go Go.SE
namespace Go.Sp
end Go.Sp
namespace Go.Proofs
attribute [local irreducible] Calls
section
variable {w0 w w':World} {H H':NP} {p q:Addr} {L1 L2:Sp.Pool} {F1 F2:NP}
end
end Go.Proofs
end
section
open Go Go.SE
namespace Go.Sp
open Go.Proofs
end Go.Sp
namespace Go.Proofs
attribute [local irreducible] Calls CallsD
end Go.Proofs
end
section
open Go Go.SE
namespace Go.Proofs
attribute [local irreducible] Calls
end Go.Proofs
end
section
open Go Go.SE
namespace Go.Proofs
attribute [local irreducible] Calls CallsD
end Go.Proofs
end
section
open Go Go.SE
namespace Go.Proofs
attribute [local irreducible] Calls
theorem TreeAt.back {S:NP} {w w':World} {s:Sl} {t:Sp.Tree} (h:TreeAt S w' s t) (hE:Pure w w') (hd:∀b,S b→b<w.heap.size):TreeAt S w s t:=by
 induction h with
 | mk k f t u x ks s rs len fit row kid ih =>
  refine .mk k f t u x ks s rs len fit (fun i h=>let ⟨a,h1,h2,h3⟩:=row i h;⟨a,h1,h2,fun j hj=>?_⟩) ih
  rw [← h3 j hj]
  unfold World.cell?
  rw [zA,hE.keep _ (hd _ h2) (fun h=>h)]
end Go.Proofs
end
section
open Go Go.SE
namespace Go.Sp
open Go.Proofs
def toS (l:Letter):Int:=if zS l≠0 then -1 else if l.kind=1∨l.kind=2 then IntKind.i64.wrap (1 - l.frm) else if l.kind=3∨l.kind=4 then 2 else -1
def jEU (bs:List UInt8):Letter×Bool:=if (uI [] bs).2.1≠0 then (uC,false) else jKY (uI [] bs).2.2.2 (uI [] bs).1
end Go.Sp
namespace Go.Proofs
open Tryz
attribute [local irreducible] Calls
theorem c_ltTo (l:Sp.Letter) (w0:World):Calls prog 13 #[.agg #[.int .i64 l.kind,.int .i64 l.frm,.int .u64 l.c,.string l.text,.bool l.fake]] w0 (fun e w'=>∃r:Int,e=.returned (.int .i64 r)∧(r=Sp.toS l∧Pure w0 w')):=by
 refine w_I2 _ _ _ _ _ w0 (fun r w'=>r=Sp.toS l∧Pure w0 w') ?_;unfold m_I2;intro H1 w1 hs;have E1:=hs.first;refine (jCW l w1).mono ?_;rintro _ w2 ⟨r1,rfl,hr,E2⟩;have E02:=E1.trans E2;have fin:∀{H3 w3},Hst w0 H1 w2 H3 w3→Pure w0 w3:=fun h=>E02.hst h;refine ⟨_,rfl,E2.keptP,fun h=>⟨?_,E02⟩,fun h=>⟨fun h2=>?_,fun h2=>⟨fun h3=>?_,fun h3=>?_⟩⟩⟩
 ·unfold Sp.toS;rw [if_pos (by rw [← hr];exact bne_iff_ne.1 h)]
 ·intro H2 w3 hs2;refine ⟨?_,fin hs2⟩;unfold Sp.toS;rw [if_neg (by rw [← hr];simpa using h),if_pos (by cases hk:l.kind == 1 <;> simp [hk] at h2 <;> simp at hk <;> omega)]
 ·intro H2 w3 hs2;refine ⟨?_,fin hs2⟩;unfold Sp.toS;rw [if_neg (by rw [← hr];simpa using h),if_neg (by cases hk:l.kind == 1 <;> simp [hk] at h2 <;> simp at hk <;> omega),if_pos (by cases hk:l.kind == 3 <;> simp [hk] at h3 <;> simp at hk <;> omega)]
 ·intro H2 w3 hs2;refine ⟨?_,fin hs2⟩;unfold Sp.toS;rw [if_neg (by rw [← hr];simpa using h),if_neg (by cases hk:l.kind == 1 <;> simp [hk] at h2 <;> simp at hk <;> omega),if_neg (by cases hk:l.kind == 3 <;> simp [hk] at h3 <;> simp at hk <;> omega)]
theorem jAG (l:Sp.Letter) (hl:Sp.vU l.c) (w0:World) :
  Calls prog 9 #[.agg #[.int .i64 l.kind,.int .i64 l.frm,.int .u64 l.c,.string l.text,.bool l.fake]] w0 (fun e w'=>∃r:Sl,∃n:Int,e=.returned (.tuple #[r.v,.int .i64 n])∧(n=(Sp.lU l).2∧RetO w0 5 1 (byr (Sp.lU l).1) r w')):=by
 refine w_N3 _ _ _ _ _ w0 (fun r n w'=>n=(Sp.lU l).2∧RetO w0 5 1 (byr (Sp.lU l).1) r w') ?_
 unfold m_N3
 intro H1 w1 hs
 have E1:=hs.first
 refine (jPK w1).mono ?_
 rintro _ w2 ⟨_,rfl,p,rfl,E2,F,hP,hF⟩
 refine ⟨_,rfl,E2.keptP,?_⟩
 refine (jFA p l w2 hP Sp.Wf.nil.ok).mono ?_
 rintro _ w3 ⟨r2,r3,rfl,e2,e3,F3,hP3,E3,hF3⟩
 have E02:=E1.trans E2
 have E03:Pure w0 w3:=E02.trans' E3 (fun i hi hf=>by have:=hF i hf;have:=E1.size;omega)
 refine ⟨_,_,rfl,E3.kept (fun b hb hf=>by have:=hs.lt b hb;have:=hF b hf;omega),fun hc=>?_,fun hc=>?_⟩
 ·have hc:=bne_iff_ne.1 hc
  have e:Sp.lU l=([],(jR [] l).2.1):=by unfold Sp.lU;rw [if_pos (by rw [← e3];exact hc)]
  rw [e]
  exact ⟨e3,Rws.nil _ _ _,fun b hb=>(by obtain ⟨a,ha,_⟩:=hb;cases ha),E03⟩
 ·have hc:r3=0:=by simpa using hc
  have e:Sp.lU l=jIZ (jR [] l).2.2 (jR [] l).1:=by unfold Sp.lU;rw [if_neg (by rw [← e3];simpa using hc)]
  rw [e,← e2]
  refine (jSC p r2 w3 (Sp.qD Sp.Wf.nil l) (Sp.oL Sp.qX.nil hl) hP3).mono ?_
  rintro _ w4 ⟨r4,r5,rfl,e5,hR⟩
  exact ⟨_,_,rfl,hR.pure.keptP,e5,hR.rows,fun b hb=>by have:=hR.own b hb;have:=E03.size;omega,E03.trans hR.pure⟩
theorem jAH {S0:NP} (sb:Sl) (bs:List UInt8) (w0:World) (hs:Lst S0 w0 1 sb (byr bs)) (hz:sb.a=none→sb=Sl.nil) :
  Calls prog 10 #[sb.v] w0 (fun e w'=>∃k f c:Int,∃x:ByteArray,∃g ok:Bool,e=.returned (.tuple #[.agg #[.int .i64 k,.int .i64 f,.int .u64 c,.string x,.bool g],.bool ok])∧(((⟨k,f,c,x,g⟩:Sp.Letter),ok)=Sp.jEU bs∧Pure w0 w')):=by
 refine w_O3 _ w0 (fun k f c x g ok w'=>((⟨k,f,c,x,g⟩:Sp.Letter),ok)=Sp.jEU bs∧Pure w0 w') ?_
 unfold m_O3
 intro H1 w1 hs1
 have E1:=hs1.first
 refine (jPK w1).mono ?_
 rintro _ w2 ⟨_,rfl,p,rfl,E2,F,hP,hF⟩
 refine ⟨_,rfl,E2.keptP,?_⟩
 have E02:=E1.trans E2
 refine (jSD p sb bs w2 Sp.Wf.nil hP (hs.pure E02) hz).mono ?_
 rintro _ w3 ⟨t,x,y,rfl,rfl,rfl,rfl,F3,hP3,E3,hF3⟩
 have E03:Pure w0 w3:=E02.trans' E3 (fun i hi hf=>by have:=hF i hf;have:=E1.size;omega)
 refine ⟨_,_,_,rfl,E3.kept (fun b hb hf=>by have:=hs1.lt b hb;have:=hF b hf;omega),fun hc=>?_,fun hc=>?_⟩
 ·intro w4 hs4
  refine ⟨?_,E03.hst hs4⟩
  unfold Sp.jEU;rw [if_pos (bne_iff_ne.1 hc)];rfl
 ·refine (qZ p (uI [] bs).1 w3 hP3 (Sp.jUM Sp.Wf.nil bs).ok).mono ?_
  rintro _ w5 ⟨k,f,c,x,g,ok,rfl,hr,E5⟩
  refine ⟨_,_,_,_,_,_,rfl,E5.keptP,fun w6 hs6=>⟨?_,(E03.trans E5).hst hs6⟩⟩
  unfold Sp.jEU;rw [if_neg (by simpa using hc),hr]
end Go.Proofs
end
section
open Go Go.SE
namespace Go.Sp
open Go.Proofs
end Go.Sp
namespace Go.Proofs
attribute [local irreducible] Calls
end Go.Proofs
end
section
open Go Go.SE
namespace Go.Proofs
open Tryz
set_option maxRecDepth 100000
set_option maxHeartbeats 4000000
attribute [local irreducible] wpL wpX opE wpE Calls
def s_Z (e1:Int):Int :=e1
theorem pw_Z (e1:Int) (w0:World) :
  Calls prog 7 #[(vi e1)] w0 (fun e w'=>(e=.returned (vi e1))∧Pure w0 w'):=by
 refine cw (args:=[(vi e1)]) func7 ntmps7 (eg (q0 (vi 0) (ln (eg (q0 (vi e1) (q0 (vi e1) (ln ?_)))))))
 refine er (rs1 results7 (v:=(vi e1)) ⟨by kernel_rfl,Ext.refl _⟩)
theorem p_Z (e1:Int) (w0:World):Calls prog 7 #[(.int .i64 e1)] w0 (fun e w'=>e=.returned (.int .i64 (s_Z e1))∧Pure w0 w'):=pw_Z e1 w0
theorem qT (a0 a1 a2:Int) (a3:ByteArray) (a4:Bool) (b0 b1 b2:Int) (b3:ByteArray) (b4:Bool) (w:World):(Go.binOp .eql 24 (.agg #[(.int .i64 a0),(.int .i64 a1),(.int .u64 a2),(.string a3),(.bool a4)]) (.agg #[(.int .i64 b0),(.int .i64 b1),(.int .u64 b2),(.string b3),(.bool b4)])).run prog w=.ok (.bool ((a0 == b0) && ((a1 == b1) && ((a2 == b2) && ((decide (a3=b3)) && (a4 == b4)))))) w:=by
 simp [Go.binOp,Op.equal,Op.maxDepth,go_sem,jHV,bne]
 repeat' split
 all_goals simp_all
def m_Q_j2 (r1:Option Addr) (r2:Int) (x2:Bool) (H:NP) (w:World) (K:Bool→WP):Prop :=Br x2 (Calls prog 14 #[(vp r1),(vi r2)] w (fun e w24=>∃r9,e=.returned (vi r9)∧Kept H w w24∧K (r9 == 6) w24)) (K false w)
def m_Q_j1 (r1:Option Addr) (r2:Int) (x1:Bool) (H:NP) (w:World) (K:Bool→WP):Prop :=Br x1 (Calls prog 13 #[(.agg #[(vi 1),(vi 0),(vu 7),(vs (⟨#[97]⟩:ByteArray)),(vb false)])] w (fun e w25=>∃r10,e=.returned (vi r10)∧Kept H w w25∧m_Q_j2 r1 r2 (r10 == 1) H w25 K)) (m_Q_j2 r1 r2 false H w K)
def m_Q  (w0:World) (K:Bool→WP):Prop :=Calls prog 5 #[] w0 (fun e w1=>∃r1,e=.returned (vp r1)∧Kept None w0 w1∧∀H1 w3,Hst w0 None w1 H1 w3→Calls prog 6 #[(vp r1),(.agg #[(vi 1),(vi 0),(vu 7),(vs (⟨#[97]⟩:ByteArray)),(vb false)])] w3 (fun e w4=>∃r2 r3,e=.returned (.tuple #[(vi r2),(vi r3)])∧Kept H1 w3 w4∧Calls prog 8 #[(vp r1),(vi r2)] w4 (fun e w5=>∃aA aB aC aD aE r4,e=.returned (.tuple #[(Ac aA aB aC aD aE),(vb r4)])∧Kept H1 w4 w5∧∀H2 w7,Hst w0 H1 w5 H2 w7→Calls prog 9 #[(.agg #[(vi 1),(vi 0),(vu 7),(vs (⟨#[97]⟩:ByteArray)),(vb false)])] w7 (fun e w8=>∃r5:Sl,∃r6,e=.returned (.tuple #[r5.v,(vi r6)])∧Kept H2 w7 w8∧Calls prog 10 #[r5.v] w8 (fun e w9=>∃aF aG aH aI aJ r7,e=.returned (.tuple #[(Ac aF aG aH aI aJ),(vb r7)])∧Kept H2 w8 w9∧∀H3 w11,Hst w0 H2 w9 H3 w11→Calls prog 8 #[(vp r1),(vi 1)] w11 (fun e w12=>∃aK aL aM aN aO r8,e=.returned (.tuple #[(Ac aK aL aM aN aO),(vb r8)])∧Kept H3 w11 w12∧∀y1:Bool,y1=(((r3 == 0) && r4) && ((aA == 1) && ((aB == 0) && ((aC == 7) && ((decide (aD=(⟨#[97]⟩:ByteArray))) && (aE == false))))))→∀y2:Bool,y2=(((y1 && (r6 == 0)) && r7) && ((aF == 1) && ((aG == 0) && ((aH == 7) && ((decide (aI=(⟨#[97]⟩:ByteArray))) && (aJ == false))))))→Br (y2 && (!r8)) (∀H10 w23,Hst w0 H3 w12 H10 w23→Calls prog 12 #[(.agg #[(vi 1),(vi 0),(vu 7),(vs (⟨#[97]⟩:ByteArray)),(vb false)])] w23 (fun e w26=>∃r11,e=.returned (vs r11)∧Kept H10 w23 w26∧m_Q_j1 r1 r2 (decide (r11=(⟨#[112,114,111,109,105,115,101,32,48,32,55,32,34,97,34]⟩:ByteArray))) H10 w26 K)) (∀H10 w23,Hst w0 H3 w12 H10 w23→m_Q_j1 r1 r2 false H10 w23 K)))))))
theorem w_Q  (w0:World) (K:Bool→WP) (h:m_Q  w0 K) :
  Calls prog 4 #[] w0 (fun e w'=>∃r12,e=.returned (vb r12)∧K r12 w'):=by
 refine cw (args:=[]) func4 ntmps4 ?_
 obtain ⟨hs,hb⟩:=st0 w0
 refine eg (q (ln (eg (sc call5 (h.mono fun e w1 ⟨r1,k,hk,h⟩=>have ⟨hs,hb⟩:=hk.hh hs hb;⟨_,k,?_⟩)))))
 refine q (ln (eg (q (nw3 (Ag 0 0 0 false) 24 hs hb (jG (zeroValue24 _) rfl) fun p1 w2 H1 hs hb=>sbx 0 (Aa 1 0 7 (⟨#[97]⟩:ByteArray) false) (sizeOf24 _) hs hb gZ fun w3 hs hb=>ln (eg (q (q2 (Ac 1 0 7 (⟨#[97]⟩:ByteArray) false) (xa p1 (Aa 1 0 7 (⟨#[97]⟩:ByteArray) false) (isAgg24 _) (sizeOf24 _) (hb.r0 0 5 gZ)) ?_)))))))
 have ⟨h,hs⟩:=hs.hr (h H1 w3)
 refine sc call6 (h.mono fun e w4 ⟨r2,r3,k,hk,h⟩=>have ⟨hs,hb⟩:=hk.hh hs hb;⟨_,k,?_⟩)
 refine q (qd (ln (eg (qb (sc call8 (h.mono fun e w5 ⟨aA,aB,aC,aD,aE,r4,k,hk,h⟩=>have ⟨hs,hb⟩:=hk.hh hs hb;⟨_,k,?_⟩))))))
 refine qc (nw3 (Ag 0 0 0 false) 24 hs hb (jG (zeroValue24 _) rfl) fun p2 w6 H2 hs hb=>sbx 0 (Aa aA aB aC aD aE) (sizeOf24 _) hs hb gZ fun w7 hs hb=>q (ln (eg (q2 (Ac 1 0 7 (⟨#[97]⟩:ByteArray) false) (xa p1 (Aa 1 0 7 (⟨#[97]⟩:ByteArray) false) (isAgg24 _) (sizeOf24 _) (hb.r0 1 5 (gS gZ))) ?_))))
 have ⟨h,hs⟩:=hs.hr (h H2 w7)
 refine sc call9 (h.mono fun e w8 ⟨r5,r6,k,hk,h⟩=>have ⟨hs,hb⟩:=hk.hh hs hb;⟨_,k,?_⟩)
 refine q (qd (ln (eg (q (sc call10 (h.mono fun e w9 ⟨aF,aG,aH,aI,aJ,r7,k,hk,h⟩=>have ⟨hs,hb⟩:=hk.hh hs hb;⟨_,k,?_⟩))))))
 refine qc (nw3 (Ag 0 0 0 false) 24 hs hb (jG (zeroValue24 _) rfl) fun p3 w10 H3 hs hb=>sbx 0 (Aa aF aG aH aI aJ) (sizeOf24 _) hs hb gZ fun w11 hs hb=>q (ln (eg (q ?_))))
 have ⟨h,hs⟩:=hs.hr (h H3 w11)
 refine sc call8 (h.mono fun e w12 ⟨aK,aL,aM,aN,aO,r8,k,hk,h⟩=>have ⟨hs,hb⟩:=hk.hh hs hb;⟨_,k,?_⟩)
 refine qc (nw3 (Ag 0 0 0 false) 24 hs hb (jG (zeroValue24 _) rfl) fun p4 w13 H4 hs hb=>sbx 0 (Aa aK aL aM aN aO) (sizeOf24 _) hs hb gZ fun w14 hs hb=>q (ln (eg (q (sc call7 ((p_Z r3 w14).mono ?_))))))
 rintro e w15 ⟨he,hE⟩
 refine ⟨_,he,?_⟩
 obtain ⟨hs,hb⟩:=hs.pp hb hE
 refine qb (jU 2 (fun ρ wJ=>∃b1'0:Bool,∃HJ:NP,((r3 == 0)=b1'0)∧Hst w0 H3 w12 HJ wJ∧HB HJ wJ [(p4,(Aa aK aL aM aN aO),24),(p3,(Aa aF aG aH aI aJ),24),(p2,(Aa aA aB aC aD aE),24),(p1,(Aa 1 0 7 (⟨#[97]⟩:ByteArray) false),24)]∧Has ρ [(1,(vp r1)),(2,(vp (some p1))),(3,(vi r2)),(5,(vp (some p2))),(8,(vi r6)),(9,(vp (some p3))),(10,(vb r7)),(12,(vb r8)),(47,(vb (b1'0 && r4)))]) ?_ ?_)
 rintro ρ w16 ⟨b1'0,H5,he0,hs,hb,hH⟩
 subst he0
 refine zB hH (q (jU 4 (fun ρ wJ=>∃b2'0 y1:Bool,∃HJ:NP,(((r3 == 0) && r4)=b2'0)∧(y1=(b2'0 && ((aA == 1) && ((aB == 0) && ((aC == 7) && ((decide (aD=(⟨#[97]⟩:ByteArray))) && (aE == false)))))))∧Hst w0 H3 w12 HJ wJ∧HB HJ wJ [(p4,(Aa aK aL aM aN aO),24),(p3,(Aa aF aG aH aI aJ),24),(p2,(Aa aA aB aC aD aE),24),(p1,(Aa 1 0 7 (⟨#[97]⟩:ByteArray) false),24)]∧Has ρ [(1,(vp r1)),(2,(vp (some p1))),(3,(vi r2)),(8,(vi r6)),(9,(vp (some p3))),(10,(vb r7)),(12,(vb r8)),(52,(vb y1))]) ?_ ?_))
 rintro ρ w17 ⟨b2'0,y1,H6,he0,hy1,hs,hb,hH⟩
 subst he0
 have h:=h y1 hy1
 refine zB hH (q (jU 4 (fun ρ wJ=>∃b3'0:Bool,∃HJ:NP,(y1=b3'0)∧Hst w0 H3 w12 HJ wJ∧HB HJ wJ [(p4,(Aa aK aL aM aN aO),24),(p3,(Aa aF aG aH aI aJ),24),(p2,(Aa aA aB aC aD aE),24),(p1,(Aa 1 0 7 (⟨#[97]⟩:ByteArray) false),24)]∧Has ρ [(1,(vp r1)),(2,(vp (some p1))),(3,(vi r2)),(9,(vp (some p3))),(10,(vb r7)),(12,(vb r8)),(57,(vb (b3'0 && (r6 == 0))))]) ?_ ?_))
 rintro ρ w19 ⟨b3'0,H7,he0,hs,hb,hH⟩
 subst he0
 refine zB hH (q (jU 2 (fun ρ wJ=>∃b4'0:Bool,∃HJ:NP,((y1 && (r6 == 0))=b4'0)∧Hst w0 H3 w12 HJ wJ∧HB HJ wJ [(p4,(Aa aK aL aM aN aO),24),(p3,(Aa aF aG aH aI aJ),24),(p2,(Aa aA aB aC aD aE),24),(p1,(Aa 1 0 7 (⟨#[97]⟩:ByteArray) false),24)]∧Has ρ [(1,(vp r1)),(2,(vp (some p1))),(3,(vi r2)),(9,(vp (some p3))),(12,(vb r8)),(60,(vb (b4'0 && r7)))]) ?_ ?_))
 rintro ρ w21 ⟨b4'0,H8,he0,hs,hb,hH⟩
 subst he0
 refine zB hH (q (jU 4 (fun ρ wJ=>∃b5'0 y2:Bool,∃HJ:NP,(((y1 && (r6 == 0)) && r7)=b5'0)∧(y2=(b5'0 && ((aF == 1) && ((aG == 0) && ((aH == 7) && ((decide (aI=(⟨#[97]⟩:ByteArray))) && (aJ == false)))))))∧Hst w0 H3 w12 HJ wJ∧HB HJ wJ [(p4,(Aa aK aL aM aN aO),24),(p3,(Aa aF aG aH aI aJ),24),(p2,(Aa aA aB aC aD aE),24),(p1,(Aa 1 0 7 (⟨#[97]⟩:ByteArray) false),24)]∧Has ρ [(1,(vp r1)),(2,(vp (some p1))),(3,(vi r2)),(12,(vb r8)),(65,(vb y2))]) ?_ ?_))
 rintro ρ w22 ⟨b5'0,y2,H9,he0,hy2,hs,hb,hH⟩
 subst he0
 have h:=h y2 hy2
 refine zB hH (q (jU 3 (fun ρ wJ=>∃b6'0:Bool,∃HJ:NP,(y2=b6'0)∧Hst w0 H3 w12 HJ wJ∧HB HJ wJ [(p4,(Aa aK aL aM aN aO),24),(p3,(Aa aF aG aH aI aJ),24),(p2,(Aa aA aB aC aD aE),24),(p1,(Aa 1 0 7 (⟨#[97]⟩:ByteArray) false),24)]∧Has ρ [(1,(vp r1)),(2,(vp (some p1))),(3,(vi r2)),(69,(vb (b6'0 && (!r8))))]) ?_ ?_))
 rintro ρ w23 ⟨b6'0,H10,he0,hs,hb,hH⟩
 subst he0
 refine zB hH (q (jU 4 (fun ρ w=>∃x1,∃H:NP,Has ρ [(1,(vp r1)),(2,(vp (some p1))),(3,(vi r2)),(74,(vb x1))]∧Hst w0 H w H w∧HB H w [(p4,(Aa aK aL aM aN aO),24),(p3,(Aa aF aG aH aI aJ),24),(p2,(Aa aA aB aC aD aE),24),(p1,(Aa 1 0 7 (⟨#[97]⟩:ByteArray) false),24)]∧m_Q_j1 r1 r2 x1 H w K) ?_ ?_))
 rintro ρ w ⟨x1,H,hH,hs,hb,h⟩
 refine zB hH (q (jU 4 (fun ρ w=>∃x2,∃H:NP,Has ρ [(1,(vp r1)),(3,(vi r2)),(79,(vb x2))]∧Hst w0 H w H w∧HB H w [(p4,(Aa aK aL aM aN aO),24),(p3,(Aa aF aG aH aI aJ),24),(p2,(Aa aA aB aC aD aE),24),(p1,(Aa 1 0 7 (⟨#[97]⟩:ByteArray) false),24)]∧m_Q_j2 r1 r2 x2 H w K) ?_ ?_))
 rintro ρ w ⟨x2,H,hH,hs,hb,h⟩
 refine zB hH (q ?_)
 obtain ⟨hg13,h⟩|⟨hg13,h⟩:=h.br
 refine qk 80 hg13 (qk 80 hg13 (vK (wy 80 hg13) (xc call14) (h.mono ?_)))
 rintro e w24 ⟨r9,rfl,hk,h⟩
 refine ⟨_,rfl,?_⟩
 obtain ⟨hs,hb⟩:=hk.hh hs hb
 refine qk 80 hg13 (q2 (vb (r9 == 6)) (xT hg13) (q (ln (er (rs1 results4 ⟨(r9 == 6),rfl,h⟩)))))
 refine sj4 80 hg13 (q2 (vb false) (xF hg13) (q (ln (er (rs1 results4 ⟨false,rfl,h⟩)))))
 obtain ⟨hg14,h⟩|⟨hg14,h⟩:=h.br
 refine stq (v:=(Ac 1 0 7 (⟨#[97]⟩:ByteArray) false)) (wy 75 hg14) (xa p1 (Aa 1 0 7 (⟨#[97]⟩:ByteArray) false) (isAgg24 _) (sizeOf24 _) (hb.r0 3 5 (gS (gS (gS gZ))))) (vK (wy 75 hg14) (xc call13) (h.mono ?_))
 rintro e w25 ⟨r10,rfl,hk,h⟩
 refine ⟨_,rfl,?_⟩
 obtain ⟨hs,hb⟩:=hk.hh hs hb
 refine qk 75 hg14 (q2 (vb (r10 == 1)) (xT hg14) (jC ⟨(r10 == 1),H,hm,hs,hb,h⟩))
 refine sj3 75 hg14 (q2 (vb false) (xF hg14) (jC ⟨false,H,hm,hs,hb,h⟩))
 obtain ⟨hg15,h⟩|⟨hg15,h⟩:=h.br
 refine stq (v:=(Ac 1 0 7 (⟨#[97]⟩:ByteArray) false)) (wy 70 hg15) (xa p1 (Aa 1 0 7 (⟨#[97]⟩:ByteArray) false) (isAgg24 _) (sizeOf24 _) (hb.r0 3 5 (gS (gS (gS gZ))))) ?_
 have ⟨h,hs⟩:=hs.hr (h H10 w23)
 refine vK (wy 70 hg15) (xc call12) (h.mono ?_)
 rintro e w26 ⟨r11,rfl,hk,h⟩
 refine ⟨_,rfl,?_⟩
 obtain ⟨hs,hb⟩:=hk.hh hs hb
 refine stq (v:=(vb (decide (r11=(⟨#[112,114,111,109,105,115,101,32,48,32,55,32,34,97,34]⟩:ByteArray))))) (wy 70 hg15) (xM (by kernel_rfl) (by kernel_rfl)) (q2 (vb (decide (r11=(⟨#[112,114,111,109,105,115,101,32,48,32,55,32,34,97,34]⟩:ByteArray)))) (xT hg15) (jC ⟨(decide (r11=(⟨#[112,114,111,109,105,115,101,32,48,32,55,32,34,97,34]⟩:ByteArray))),H10,hm,hs,hb,h⟩))
 refine sj3 70 hg15 (q2 (vb false) (xF hg15) (jC ?_))
 have ⟨h,hs⟩:=hs.hr (h H10 w23)
 exact ⟨false,H10,hm,hs,hb,h⟩
 rcases bte y2 with hg12 | hg12
 refine qk 66 hg12 (qk 66 hg12 (q2 (vb (!r8)) (xT hg12) (jC ⟨true,_,hg12,hs,hb,hm⟩)))
 refine sj2 66 hg12 (q2 (vb false) (xF hg12) (jC ⟨false,_,hg12,hs,hb,hm⟩))
 rcases bte ((y1 && (r6 == 0)) && r7) with hg10 | hg10
 refine stq (v:=(Ac aF aG aH aI aJ)) (wy 61 hg10) (xa p3 (Aa aF aG aH aI aJ) (isAgg24 _) (sizeOf24 _) (hb.r0 1 5 (gS gZ))) (stq (v:=(Ac 1 0 7 (⟨#[97]⟩:ByteArray) false)) (wy 61 hg10) (xa p1 (Aa 1 0 7 (⟨#[97]⟩:ByteArray) false) (isAgg24 _) (sizeOf24 _) (hb.r0 3 5 (gS (gS (gS gZ))))) (stq (v:=(vb ((aF == 1) && ((aG == 0) && ((aH == 7) && ((decide (aI=(⟨#[97]⟩:ByteArray))) && (aJ == false))))))) (wy 61 hg10) (tT (by kernel_rfl) (by kernel_rfl) (by kernel_rfl) (qT aF aG aH aI aJ 1 0 7 (⟨#[97]⟩:ByteArray) false _)) (q2 (vb ((aF == 1) && ((aG == 0) && ((aH == 7) && ((decide (aI=(⟨#[97]⟩:ByteArray))) && (aJ == false)))))) (xT hg10) (jC ⟨true,_,_,hg10,rfl,hs,hb,hm⟩))))
 refine sj3 61 hg10 (q2 (vb false) (xF hg10) (jC ⟨false,_,_,hg10,rfl,hs,hb,hm⟩))
 rcases bte (y1 && (r6 == 0)) with hg8 | hg8
 refine qk 58 hg8 (q2 (vb r7) (xT hg8) (jC ⟨true,_,hg8,hs,hb,hm⟩))
 refine sj 58 hg8 (q2 (vb false) (xF hg8) (jC ⟨false,_,hg8,hs,hb,hm⟩))
 rcases bte y1 with hg6 | hg6
 refine qk 53 hg6 (vK (wy 53 hg6) (xc call7) ((p_Z r6 w17).mono ?_))
 rintro e w20 ⟨he,hE⟩
 refine ⟨_,he,?_⟩
 obtain ⟨hs,hb⟩:=hs.pp hb hE
 refine qk 53 hg6 (q2 (vb (r6 == 0)) (xT hg6) (jC ⟨true,_,hg6,hs,hb,hm⟩))
 refine sj3 53 hg6 (q2 (vb false) (xF hg6) (jC ⟨false,_,hg6,hs,hb,hm⟩))
 rcases bte ((r3 == 0) && r4) with hg4 | hg4
 refine stq (v:=(Ac aA aB aC aD aE)) (wy 48 hg4) (xa p2 (Aa aA aB aC aD aE) (isAgg24 _) (sizeOf24 _) (hb.r0 2 5 (gS (gS gZ)))) (stq (v:=(Ac 1 0 7 (⟨#[97]⟩:ByteArray) false)) (wy 48 hg4) (xa p1 (Aa 1 0 7 (⟨#[97]⟩:ByteArray) false) (isAgg24 _) (sizeOf24 _) (hb.r0 3 5 (gS (gS (gS gZ))))) (stq (v:=(vb ((aA == 1) && ((aB == 0) && ((aC == 7) && ((decide (aD=(⟨#[97]⟩:ByteArray))) && (aE == false))))))) (wy 48 hg4) (tT (by kernel_rfl) (by kernel_rfl) (by kernel_rfl) (qT aA aB aC aD aE 1 0 7 (⟨#[97]⟩:ByteArray) false _)) (q2 (vb ((aA == 1) && ((aB == 0) && ((aC == 7) && ((decide (aD=(⟨#[97]⟩:ByteArray))) && (aE == false)))))) (xT hg4) (jC ⟨true,_,_,hg4,rfl,hs,hb,hm⟩))))
 refine sj3 48 hg4 (q2 (vb false) (xF hg4) (jC ⟨false,_,_,hg4,rfl,hs,hb,hm⟩))
 rcases bte (r3 == 0) with hg2 | hg2
 refine qk 45 hg2 (q2 (vb r4) (xT hg2) (jC ⟨true,_,hg2,hs,hb,hm⟩))
 refine sj 45 hg2 (q2 (vb false) (xF hg2) (jC ⟨false,_,hg2,hs,hb,hm⟩))
end Go.Proofs
end
section
open Go Go.SE
namespace Go.Sp
open Go.Proofs
def l11:Letter:=⟨1,0,7,⟨#[97]⟩,false⟩
theorem l11a:(jR [] l11).1=6∧(jR [] l11).2.1=0:=by constructor <;> kernel_rfl
theorem l11b:jKY (jR [] l11).2.2 6=(l11,true)∧(jKY (jR [] l11).2.2 1).2=false∧sizeOf (jR [] l11).2.2 6=6:=by refine ⟨?_,?_,?_⟩ <;> kernel_rfl
theorem l11c:(lU l11).2=0∧jEU (lU l11).1=(l11,true):=by constructor <;> kernel_rfl
theorem l11d:(⟨(xL l11).toArray⟩:ByteArray)=⟨#[112,114,111,109,105,115,101,32,48,32,55,32,34,97,34]⟩:=by
 have e0:zS l11=0:=by kernel_rfl
 have h0:Lib.decDigits l11.frm.toNat=[48]:=Lib.decDigits_one (i:=0) (by omega);have h7:Lib.decDigits l11.c.toNat=[55]:=Lib.decDigits_one (i:=7) (by omega);have hx:yU l11.text=[34,97,34]:=by decide
 have e:xL l11=[112,114,111,109,105,115,101,32,48,32,55,32,34,97,34]:=by
  unfold xL;rw [if_neg (by rw [e0];simp),h0,h7,hx];rfl
 rw [e]
theorem l11e:toS l11=1:=by kernel_rfl
end Go.Sp
namespace Go.Proofs
open Tryz
attribute [local irreducible] Calls
theorem jSA (w0:World) (ht:Pow w0):Calls prog 4 #[] w0 (fun e w'=>∃r:Bool,e=.returned (.bool r)∧(r=true∧Pure w0 w')):=by
 refine w_Q w0 (fun r w'=>r=true∧Pure w0 w') ?_;unfold m_Q;refine (jPK w0).mono ?_;rintro _ w1 ⟨_,rfl,p,rfl,E1,F,hP,hF⟩;refine ⟨_,rfl,E1.keptP,fun H1 w3 hs=>?_⟩;have hn:Sp.vU Sp.l11.c:=⟨by decide,by decide⟩;have hW:=Sp.qD Sp.Wf.nil Sp.l11;have hN:=Sp.oL Sp.qX.nil hn;have E3:Pure w0 w3:=E1.hst hs;have hP3:jS w3 p [] F:=hP.ext hs.ext (fun b hb hh=>(hs.new b hh).elim id (fun h=>by have:=hP.lt hb;omega));have hFl:∀b,F b→b<w1.heap.size:=fun b hb=>hP.lt hb;have hHF:∀b,H1 b→¬ F b:=fun b hh hb=>(hs.new b hh).elim id (fun h=>by have:=hFl b hb;omega);refine (jFA p Sp.l11 w3 hP3 Sp.Wf.nil.ok).mono ?_;rintro _ w4 ⟨r2,r3,rfl,e2,e3,F4,hP4,E4,hF4⟩;rw [Sp.l11a.1] at e2;rw [Sp.l11a.2] at e3;subst e2;subst e3;have E04:Pure w0 w4:=E3.trans' E4 (fun i hi hf=>by have:=hF i hf;omega);refine ⟨_,_,rfl,E4.kept hHF,?_⟩;refine (qZ p 6 w4 hP4 hW.ok).mono ?_;rintro _ w5 ⟨k,f,c,x,g,ok,rfl,hr,E5⟩;rw [Sp.l11b.1] at hr;obtain ⟨hl,rfl⟩:=Prod.mk.inj hr;unfold Sp.l11 at hl;simp only [Sp.Letter.mk.injEq] at hl;obtain ⟨rfl,rfl,rfl,rfl,rfl⟩:=hl;refine ⟨_,_,_,_,_,_,rfl,E5.keptP,fun H2 w7 hs7=>?_⟩;have E07:Pure w0 w7:=(E04.trans E5).hst hs7;have hH2:∀b,H2 b→b<w7.heap.size:=hs7.lt;have hHF4:∀b,F4 b→¬ H1 b:=fun b hb hh=>(hF4 b hb).elim (fun h=>hHF b hh h) (fun h=>by have:=hs.lt b hh;omega);have hP7:jS w7 p (jR [] Sp.l11).2.2 F4:=(hP4.pure E5).ext hs7.ext (hs7.disj (fun b hb=>⟨by have:=hP4.lt hb;have:=E5.size;omega,hHF4 b hb⟩));have hHF7:∀b,F4 b→¬ H2 b:=hs7.disj (fun b hb=>⟨by have:=hP4.lt hb;have:=E5.size;omega,hHF4 b hb⟩);refine (jAG Sp.l11 hn w7).mono ?_;rintro _ w8 ⟨r5,r6,rfl,e6,hR⟩;rw [Sp.l11c.1] at e6;subst e6;refine ⟨_,_,rfl,hR.pure.keptP,?_⟩;refine (jAH r5 _ w8 hR.rows.lst (jJN hR.rows)).mono ?_;rintro _ w9 ⟨k2,f2,c2,x2,g2,ok2,rfl,hr2,E9⟩;rw [Sp.l11c.2] at hr2;obtain ⟨hl2,rfl⟩:=Prod.mk.inj hr2;unfold Sp.l11 at hl2;simp only [Sp.Letter.mk.injEq] at hl2;obtain ⟨rfl,rfl,rfl,rfl,rfl⟩:=hl2;refine ⟨_,_,_,_,_,_,rfl,E9.keptP,fun H3 w11 hs11=>?_⟩;have E89:=hR.pure.trans E9;have E011:Pure w0 w11:=(E07.trans E89).hst hs11;have hHF11:∀b,F4 b→¬ H3 b:=hs11.disj (fun b hb=>⟨by have:=hP7.lt hb;have:=E89.size;omega,hHF7 b hb⟩);have hP11:jS w11 p (jR [] Sp.l11).2.2 F4:=(hP7.pure E89).ext hs11.ext hHF11;refine (qZ p 1 w11 hP11 hW.ok).mono ?_;rintro _ w12 ⟨k3,f3,c3,x3,g3,ok3,rfl,hr3,E12⟩;have hok3:ok3=false:=by
  have:=congrArg Prod.snd hr3;simp only at this;rw [this];exact Sp.l11b.2.1
 subst hok3;refine ⟨_,_,_,_,_,_,rfl,E12.keptP,?_⟩;rintro y1 rfl y2 rfl;refine ⟨fun _=>?_,fun h=>absurd h (by decide)⟩;intro H10 w23 hs23;have E023:Pure w0 w23:=(E011.trans E12).hst hs23;have hHF23:∀b,F4 b→¬ H10 b:=hs23.disj (fun b hb=>⟨by have:=hP11.lt hb;have:=E12.size;omega,hHF11 b hb⟩);have hP23:jS w23 p (jR [] Sp.l11).2.2 F4:=(hP11.pure E12).ext hs23.ext hHF23;refine (jCV Sp.l11 hn w23 (yA ht E023)).mono ?_;rintro _ w26 ⟨r11,rfl,e11,E26⟩;refine ⟨_,rfl,E26.keptP,?_⟩;rw [e11,Sp.l11d];unfold m_Q_j1;refine ⟨fun _=>?_,fun h=>absurd h (by decide)⟩;refine (c_ltTo Sp.l11 w26).mono ?_;rintro _ w25 ⟨_,rfl,rfl,E25⟩;refine ⟨_,rfl,E25.keptP,?_⟩;rw [Sp.l11e];unfold m_Q_j2;refine ⟨fun _=>?_,fun h=>absurd h (by decide)⟩;refine (jSR p 6 w25 ((hP23.pure E26).pure E25) hW.ok).mono ?_;rintro _ w24 ⟨_,rfl,rfl,rfl⟩;refine ⟨_,rfl,Kept.refl _,?_,(E023.trans E26).trans E25⟩;rw [Sp.l11b.2.2];rfl
end Go.Proofs
end
section
open Go Go.SE
namespace Go.Sp
end Go.Sp
namespace Go.Proofs
attribute [local irreducible] Calls
end Go.Proofs
end
section
open Go Go.SE
namespace Go.Proofs
attribute [local irreducible] Calls
end Go.Proofs
end
section
open Go Go.SE
namespace Go.Sp
open Go.Proofs
theorem bok {L:Pool} {l:Letter} (h:(jR L l).2.1=0) (hW:Wf L):zS l=0∧inP (jR L l).2.2 (jR L l).1=true∧jE (jR L l).2.2 (jR L l).1=zJ l true true:=by
 have hle:zS l=0:=by
  unfold jR at h;split at h
  ·exact h
  ·rename_i h2;exact Classical.byContradiction h2
 have hb:jR L l=of L (zJ l true true):=by unfold jR;rw [if_neg (by omega)]
 obtain ⟨t1,t2,_⟩:=jTP hW (by rw [← hb];exact h);rw [← hb] at t1 t2;exact ⟨hle,t1,t2⟩
theorem jSE {L:Pool} (hW:Wf L) {l:Letter} (h:zS l=0):(jR L l).2.1=0∨jR L l=(0,6,L)∧65496<L.length:=by
 have e:jR L l=of L (zJ l true true):=by unfold jR;rw [if_neg (by omega)]
 obtain ⟨k,f,c,x,g⟩:=l;obtain ⟨_,hf,_,_,_,hx⟩:=uQ h;obtain ⟨sz,d,hG,hs,hd⟩:=jOO (l:=⟨k,f,c,x,g⟩) hf hx true true;rw [e];rcases hG.of (by omega) (by omega) hW with h1 | ⟨h1,h2⟩
 ·exact .inl h1
 ·exact .inr ⟨h1,by omega⟩
end Go.Sp
namespace Go.Proofs
attribute [local irreducible] Calls
end Go.Proofs
end
section
open Go Go.SE
namespace Go.Sp
open Go.Proofs
theorem jNP {L:Pool} (hW:Wf L) (hN:qX L):∀(m:Nat) (t:Int),t.toNat=m→inP L t=true→NumT (jE L t):=by
 intro m;induction m using Nat.strongRecOn with
 | _ m ih =>
  intro t hm ht
  rw [zT hW ht]
  refine .mk _ _ _ _ _ _ (hN.node t) (fun i hi=>?_)
  rw [List.getElem_map]
  have hk:=(hW.node ht).2.2.2.2.1 _ (List.getElem_mem (by simpa using hi))
  have:=jY.1 hk.1
  exact ih _ (by omega) _ rfl hk.1
theorem jHD (l:Letter) (a b:Bool):cnt (zJ l a b)≤16:=by
 have hp:∀(n:Int) (t:Tree) (g:Bool),cnt (yK n t g)=1+cnt t:=fun n t g=>by unfold yK;cases g <;> simp [cnt,xI]
 unfold zJ
 repeat' split
 all_goals simp [hp,xB,vP,qN,vV,jDE,cnt,xI]
theorem jER {L:Pool} (hW:Wf L) (hN:qX L) {seen:List Int} {t:Int} (ht:inP L t=true) (hs:seen.length≤65536):(kV L seen t).length≤223:=by
 obtain ⟨_,_,_,h1,_,h2,h4⟩:=lJ hW ht;have:=jCR (Fld.bytes (nodeOf L t) (posOf seen (nodeOf L t).a) (posOf seen (nodeOf L t).b)) 74 (kX (nodeOf L t).kind) (fun f _=>jIV _ _ _ f h1 h2 (hN.node t) h4 (by have:=qP seen (nodeOf L t).a;omega) (by have:=qP seen (nodeOf L t).b;omega));have h3:=jBK (nodeOf L t).kind;have:74*(kX (nodeOf L t).kind).length≤74*3:=Nat.mul_le_mul_left _ h3;unfold kV;rw [List.length_cons];omega
theorem jEG {L:Pool} (hW:Wf L) (hN:qX L):∀(l seen:List Int),(∀t∈l,inP L t=true)→seen.length+l.length≤65536→(textFrom L seen l).length≤223*l.length:=by
 intro l;induction l with
 | nil=>intro seen _ _;simp [textFrom]
 | cons t l ih =>
  intro seen h hl
  rw [List.length_cons] at hl
  have h1:=jER hW hN (seen:=seen) (h t (by simp)) (by omega)
  have h2:=ih (seen++[t]) (fun x hx=>h x (List.mem_cons_of_mem _ hx)) (by rw [List.length_append,List.length_singleton];omega)
  rw [textFrom,List.length_append,List.length_cons,Nat.mul_succ];omega
theorem jCZ {l:Letter} (h:zS l=0):(jR [] l).2.1=0:=by
 rcases jSE Wf.nil h with h | ⟨_,h⟩
 ·exact h
 ·simp at h
theorem jGN {l:Letter} (h:zS l=0):lU l=jIZ (jR [] l).2.2 (jR [] l).1:=by unfold lU;rw [if_neg (by have:=jCZ h;omega)]
theorem jUB {l:Letter} (hc:vU l.c) (h:zS l=0):(lU l).2=0∧jEU (lU l).1=(l,true):=by
 have h0:=jCZ h;obtain ⟨_,t1,t2⟩:=bok h0 Wf.nil;have hw0:=qD Wf.nil l;have hn0:=oL qX.nil hc;have hfew:(jR [] l).2.2.length≤16:=by
  have hb:jR [] l=of [] (zJ l true true):=by unfold jR;rw [if_neg (by omega)]
  have:=jTQ [] (zJ l true true);have:=jHD l true true;rw [hb];simp at *;omega
 have hlen:(kS (jR [] l).2.2 (jR [] l).1).length≤4096:=by
  have hs:=xA hw0 (jR [] l).1;have:=jEG hw0 hn0 (qO (jR [] l).2.2 (jR [] l).1) [] (fun t ht=>uZ hw0 ht) (by simp;omega);unfold kS;omega
 have el:lU l=(kS (jR [] l).2.2 (jR [] l).1,0):=by
  rw [jGN h];unfold jIZ;rw [if_pos t1,if_neg (by omega)]
 obtain ⟨_,d1,d2⟩:=jUL hw0 hn0 t1 hlen;rw [el];refine ⟨rfl,?_⟩;obtain ⟨e1,e2,_,_⟩:=jOR Wf.nil d1;unfold jEU;simp only;rw [if_neg (by omega)];unfold jKY;rw [jBE e1 e2 (by rw [d2,t2];exact ⟨h,l.fake,l.fake,fun _=>by simp,by unfold zJ;simp⟩),if_neg (by simp)]
theorem jLJ {l:Letter} {a b:Bool} (h:NumT (zJ l a b)):vU l.c:=by
 have one:∀{k f t u:Int} {x:ByteArray} {A:Tree},NumT (.mk k f t u x [A])→NumT A:=fun h=>by
  obtain ⟨_,_,_,_,_,_,_,hk⟩:=h;exact hk 0 (by simp)
 have two:∀{A B:Tree},NumT (vP A B)→NumT A∧NumT B:=fun h=>by
  unfold vP at h;obtain ⟨_,_,_,_,_,_,_,hk⟩:=h;exact ⟨hk 0 (by simp),hk 1 (by simp)⟩
 have nm:∀{c:Int},NumT (jDE c)→vU c:=fun h=>by
  unfold jDE at h;obtain ⟨_,_,_,_,_,_,hu,_⟩:=h;exact hu
 have dl:∀{c:Int} {x:ByteArray},NumT (qN c x)→vU c:=fun h=>nm (two (two h).2).1;have pr:∀{n:Int} {A:Tree} {g:Bool},NumT (yK n A g)→NumT A:=fun {n A g} h=>by
  unfold yK at h;cases g <;> exact one h
 unfold zJ at h;split at h
 ·exact dl (pr h)
 split at h
 ·exact dl (one h)
 split at h
 ·exact nm (two (one h)).2
 split at h
 ·exact dl (pr (two (two (one h)).2).1)
 split at h
 ·exact nm (two (one h)).2
 split at h
 ·exact dl (two (one h)).2
 ·exact nm (two h).2
theorem jRB {bs:List UInt8} {x:Letter} (h:jEU bs=(x,true)):vU x.c∧zS x=0∧(x.fake=false→lU x=(bs,0)):=by
 unfold jEU at h;split at h
 ·cases h
 ·rename_i h0;have h0:(uI [] bs).2.1=0:=Classical.byContradiction h0;obtain ⟨e1,e2,e3,e4⟩:=jOR Wf.nil h0;have hN:=jOS qX.nil bs;have hq:(uN (uI [] bs).2.2.2 (uI [] bs).1).2=false:=by
   cases hq:(uN (uI [] bs).2.2.2 (uI [] bs).1).2 with
   | false=>rfl
   | true=>unfold jKY at h;rw [if_pos hq] at h;cases h
  have hr:(uN (uI [] bs).2.2.2 (uI [] bs).1).1=x:=by
   unfold jKY at h;rw [if_neg (by simp [hq])] at h;cases h;rfl
  obtain ⟨hl,a,b,hk,ht⟩:=jQH e1 e2 hq;rw [hr] at hl hk ht;have hnum:=jNP e1 hN _ _ rfl e2;rw [ht] at hnum;refine ⟨jLJ hnum,hl,fun hf=>?_⟩;obtain ⟨_,t1,t2⟩:=bok (jCZ hl) Wf.nil;have hw0:=qD Wf.nil x;have hT:jE (uI [] bs).2.2.2 (uI [] bs).1=jE (jR [] x).2.2 (jR [] x).1:=by
   rw [ht,t2];unfold zJ;simp [hf]
  have:=jBW e1 hw0 e2 t1 hT;rw [jGN hl];unfold jIZ;rw [if_pos t1,← this,e3,if_neg (by omega)]
theorem jAC {l:Letter} (h:zS l=0):IsL (zJ l true true) l:=⟨h,l.fake,l.fake,fun _=>by simp,by unfold zJ;simp⟩
theorem jLP {L:Pool} (hW:Wf L) {t:Int} (ht:inP L t=true) {l m:Letter} (hl:zS l=0) (hm:zS m=0) (h1:jE L t=zJ l true true) (h2:jE L t=zJ m true true):l=m:=by
 have a:=jBE hW ht (l:=l) (by rw [h1];exact jAC hl);have b:=jBE hW ht (l:=m) (by rw [h2];exact jAC hm);exact (Prod.mk.inj (a.symm.trans b)).1
theorem of_old {L:Pool} (hW:Wf L) {t:Int} (ht:inP L t=true):of L (jE L t)=(t,0,L):=by
 have h:=jNX hW _ t rfl ht;obtain ⟨i,hi,rfl⟩:=lW ht;have hsz:=hW.ok.size L[i] (List.getElem_mem hi);have hdp:=hW.ok.depth L[i] (List.getElem_mem hi);have e1:sizeOf L ((i:Int)+1)=L[i].size:=by simp [sizeOf,jAS hi]
 have e2:depthOf L ((i:Int)+1)=L[i].depth:=by simp [depthOf,jAS hi]
 have:=h.yes 0 0 (by omega) (by omega) (by omega) (by omega);unfold of;rw [this,if_neg (by simp),jRI hW _ _ rfl ht];simp
end Go.Sp
end
section
open Go Go.SE
open Go.IntKind renaming i64 → q6
namespace Go.Proofs
open Tryz
set_option maxRecDepth 100000
set_option maxHeartbeats 4000000
attribute [local irreducible] wpL wpX opE wpE Calls
theorem kE (a0 a1 a2:Int) (a3:ByteArray) (a4:Bool) (b0 b1 b2:Int) (b3:ByteArray) (b4:Bool) (w:World):(Go.binOp .neq 24 (.agg #[(.int .i64 a0),(.int .i64 a1),(.int .u64 a2),(.string a3),(.bool a4)]) (.agg #[(.int .i64 b0),(.int .i64 b1),(.int .u64 b2),(.string b3),(.bool b4)])).run prog w=.ok (.bool (!((a0 == b0) && ((a1 == b1) && ((a2 == b2) && ((decide (a3=b3)) && (a4 == b4))))))) w:=by
 simp [Go.binOp,Op.equal,Op.maxDepth,go_sem,jHV,bne]
 repeat' split
 all_goals simp_all
theorem yP (a0 a1 a2:Int) (a3:ByteArray) (a4:Bool) (b0 b1 b2:Int) (b3:ByteArray) (b4:Bool) (w:World):(Go.binOp .eql 24 (.agg #[(.int .i64 a0),(.int .i64 a1),(.int .u64 a2),(.string a3),(.bool a4)]) (.agg #[(.int .i64 b0),(.int .i64 b1),(.int .u64 b2),(.string b3),(.bool b4)])).run prog w=.ok (.bool ((a0 == b0) && ((a1 == b1) && ((a2 == b2) && ((decide (a3=b3)) && (a4 == b4)))))) w:=by
 simp [Go.binOp,Op.equal,Op.maxDepth,go_sem,jHV,bne]
 repeat' split
 all_goals simp_all
theorem yW (a0 b0:Bool) (w:World):(Go.binOp .neq 4 (.bool a0) (.bool b0)).run prog w=.ok (.bool (!(a0 == b0))) w:=by
 simp [Go.binOp,Op.equal,Op.maxDepth,go_sem,jHV,bne]
def m_O_j2 (s1:ByteArray) (w0:World) (H:NP) (w:World) (K:Bool→WP):Prop :=Calls prog 11 #[(vs s1)] w (fun e w17=>∃bE bF bG bH bI r8 r9,e=.returned (.tuple #[(Ac bE bF bG bH bI),(vi r8),(vi r9)])∧Kept H w w17∧Br (r8 == 0) (∀H8 w20,Hst w0 H w17 H8 w20→Calls prog 12 #[(.agg #[(vi bE),(vi bF),(vu bG),(vs bH),(vb bI)])] w20 (fun e w21=>∃r10,e=.returned (vs r10)∧Kept H8 w20 w21∧Br (!(decide (r10=s1))) (K false w21) (Calls prog 4 #[] w21 (fun e w22=>∃r11,e=.returned (vb r11)∧Kept H8 w21 w22∧K r11 w22)))) (∀H8 w20,Hst w0 H w17 H8 w20→Calls prog 4 #[] w20 (fun e w23=>∃r12,e=.returned (vb r12)∧Kept H8 w20 w23∧K r12 w23)))
def m_O_j1 (b1:Sl) (s1:ByteArray) (w0:World) (H:NP) (w:World) (K:Bool→WP):Prop :=∀p3 w11,New w (.cells #[] 5) p3 w11→∃s2:Sl,∃w12:World,(Builtin.append_ #[25,25] 25 #[(Sl.mk (some p3) 0 0).v,b1.v]).run prog w11=.ok s2.v w12∧Kept H w11 w12∧Calls prog 10 #[s2.v] w12 (fun e w13=>∃bA bB bC bD aZ r7,e=.returned (.tuple #[(Ac bA bB bC bD aZ),(vb r7)])∧Kept H w12 w13∧Br (r7 && (!aZ)) (∀H7 w16,Hst w0 H w13 H7 w16→Calls prog 9 #[(.agg #[(vi bA),(vi bB),(vu bC),(vs bD),(vb aZ)])] w16 (fun e w24=>∃r13:Sl,∃r14,e=.returned (.tuple #[r13.v,(vi r14)])∧Kept H7 w16 w24∧Br (r14 != 0) (∀w25,Hst w0 H7 w24 H7 w25→K false w25) (∀w25,Hst w0 H7 w24 H7 w25→∃c1,(convert 25 9 r13.v).run prog w25=.ok (vs c1) w25∧∃c2,(convert 25 9 b1.v).run prog w25=.ok (vs c2) w25∧Br (!(decide (c1=c2))) (K false w25) (m_O_j2 s1 w0 H7 w25 K)))) (∀H7 w16,Hst w0 H w13 H7 w16→m_O_j2 s1 w0 H7 w16 K))
def m_O (aB aC aD:Int) (aA:ByteArray) (aE:Bool) (aL aM aN:Int) (aF:ByteArray) (aO:Bool) (b1:Sl) (s1:ByteArray) (w0:World) (K:Bool→WP):Prop :=∀y1:Bool,y1=(((decide ((b1.len:Int)>8192)) || (decide ((s1.size:Int)>5000))) || (decide ((q6.wrap ((aA.size:Int)+(aF.size:Int)))>5000)))→Br y1 (∀H4 w4,Hst w0 None w0 H4 w4→Calls prog 4 #[] w4 (fun e w6=>∃r1,e=.returned (vb r1)∧Kept H4 w4 w6∧K r1 w6)) (∀H4 w4,Hst w0 None w0 H4 w4→Calls prog 5 #[] w4 (fun e w7=>∃r2,e=.returned (vp r2)∧Kept H4 w4 w7∧Br (Option.isNone r2) (K false w7) (Calls prog 6 #[(vp r2),(.agg #[(vi aB),(vi aC),(vu aD),(vs aA),(vb aE)])] w7 (fun e w8=>∃r3 r4,e=.returned (.tuple #[(vi r3),(vi r4)])∧Kept H4 w7 w8∧Calls prog 6 #[(vp r2),(.agg #[(vi aL),(vi aM),(vu aN),(vs aF),(vb aO)])] w8 (fun e w9=>∃r5 r6,e=.returned (.tuple #[(vi r5),(vi r6)])∧Kept H4 w8 w9∧Br (r4 == 0) (∀w10,Hst w0 H4 w9 H4 w10→Calls prog 8 #[(vp r2),(vi r3)] w10 (fun e w26=>∃aG aH aI aJ aK r15,e=.returned (.tuple #[(Ac aG aH aI aJ aK),(vb r15)])∧Kept H4 w10 w26∧∀H9 w28,Hst w0 H4 w26 H9 w28→Calls prog 9 #[(.agg #[(vi aB),(vi aC),(vu aD),(vs aA),(vb aE)])] w28 (fun e w29=>∃r16:Sl,∃r17,e=.returned (.tuple #[r16.v,(vi r17)])∧Kept H9 w28 w29∧Calls prog 10 #[r16.v] w29 (fun e w30=>∃aP aQ aR aS aT r18,e=.returned (.tuple #[(Ac aP aQ aR aS aT),(vb r18)])∧Kept H9 w29 w30∧∀H10 w32,Hst w0 H9 w30 H10 w32→Calls prog 12 #[(.agg #[(vi aB),(vi aC),(vu aD),(vs aA),(vb aE)])] w32 (fun e w33=>∃r19,e=.returned (vs r19)∧Kept H10 w32 w33∧Calls prog 11 #[(vs r19)] w33 (fun e w34=>∃aU aV aW aX aY r20 r21,e=.returned (.tuple #[(Ac aU aV aW aX aY),(vi r20),(vi r21)])∧Kept H10 w33 w34∧∀y2:Bool,y2=((((((((!r15) || (!((aG == aB) && ((aH == aC) && ((aI == aD) && ((decide (aJ=aA)) && (aK == aE))))))) || (r17 != 0)) || (!r18)) || (!((aP == aB) && ((aQ == aC) && ((aR == aD) && ((decide (aS=aA)) && (aT == aE))))))) || (r20 != 0)) || (!((aU == aB) && ((aV == aC) && ((aW == aD) && ((decide (aX=aA)) && (aY == aE))))))) || ((r6 == 0) && (!((r3 == r5) == ((aB == aL) && ((aC == aM) && ((aD == aN) && ((decide (aA=aF)) && (aE == aO)))))))))→Br y2 (∀H19 w49,Hst w0 H10 w34 H19 w49→K false w49) (∀H19 w49,Hst w0 H10 w34 H19 w49→m_O_j1 b1 s1 w0 H19 w49 K))))))) (∀w10,Hst w0 H4 w9 H4 w10→m_O_j1 b1 s1 w0 H4 w10 K))))))
theorem w_O (aB aC aD aA aE aL aM aN aF aO b1 s1 w0 K) (h:m_O aB aC aD aA aE aL aM aN aF aO b1 s1 w0 K):
  Calls prog 3 #[(.agg #[(vi aB),(vi aC),(vu aD),(vs aA),(vb aE)]),(.agg #[(vi aL),(vi aM),(vu aN),(vs aF),(vb aO)]),b1.v,(vs s1)] w0 (fun e w'=>∃r22,e=.returned (vb r22)∧K r22 w'):=by
 refine cw (args:=[(Ac aB aC aD aA aE),(Ac aL aM aN aF aO),b1.v,(vs s1)]) func3 ntmps3 ?_
 obtain ⟨hs,hb⟩:=st0 w0
 refine eg (nw3 (Aa aB aC aD aA aE) 24 hs hb xb fun p1 w1 H1 hs hb=>nw3 (Aa aL aM aN aF aO) 24 hs hb xb fun p2 w2 H2 hs hb=>q (ln (jA (jA (vJ (fun ρ wJ=>∃b3'0 y1:Bool,∃HJ:NP,(((decide ((b1.len:Int)>8192)) || (decide ((s1.size:Int)>5000)))=b3'0)∧(y1=(b3'0 || (decide ((q6.wrap ((aA.size:Int)+(aF.size:Int)))>5000))))∧Hst w0 None w0 HJ wJ∧HB HJ wJ [(p2,(Aa aL aM aN aF aO),24),(p1,(Aa aB aC aD aA aE),24)]∧Has ρ [(2,b1.v),(3,(vs s1)),(4,(vp (some p1))),(5,(vp (some p2))),(47,(vb y1))]) ?_ ?_)))))
 refine rg (qd (jU 4 (fun ρ wJ=>∃b4'0:Bool,∃HJ:NP,((decide ((b1.len:Int)>8192))=b4'0)∧Hst w0 None w0 HJ wJ∧HB HJ wJ [(p2,(Aa aL aM aN aF aO),24),(p1,(Aa aB aC aD aA aE),24)]∧Has ρ [(2,b1.v),(3,(vs s1)),(4,(vp (some p1))),(5,(vp (some p2))),(37,(vb (b4'0 || (decide ((s1.size:Int)>5000)))))]) ?_ ?_))
 rintro ρ w5 ⟨b4'0,H5,he0,hs,hb,hH⟩
 subst he0
 refine zB hH (q ?_)
 rcases bte ((decide ((b1.len:Int)>8192)) || (decide ((s1.size:Int)>5000))) with hg6 | hg6
 refine sj3 38 hg6 (sj5 38 hg6 (q2 (vb true) (xT hg6) (ln ⟨true,_,_,hg6,rfl,hs,hb,hm⟩)))
 refine qk 38 hg6 (q4 38 hg6 (xl (isAgg9 _) (hb.d 1 3 (gS gZ))) (qk 38 hg6 (qk 38 hg6 (q4 38 hg6 (xl (isAgg9 _) (hb.d 0 3 gZ)) (qk 38 hg6 (qk 38 hg6 (qk 38 hg6 (q2 (vb (decide ((q6.wrap ((aA.size:Int)+(aF.size:Int)))>5000))) (xF hg6) (ln ⟨false,_,_,hg6,rfl,hs,hb,hm⟩)))))))))
 rcases bte (decide ((b1.len:Int)>8192)) with hg5 | hg5
 refine sj3 33 hg5 (q2 (vb true) (xT hg5) (jC ⟨true,_,hg5,hs,hb,hm⟩))
 refine qk 33 hg5 (qk 33 hg5 (qk 33 hg5 (q2 (vb (decide ((s1.size:Int)>5000))) (xF hg5) (jC ⟨false,_,hg5,hs,hb,hm⟩))))
 rintro ρ w4 ⟨b3'0,y1,H4,he0,hy1,hs,hb,hH⟩
 subst he0
 have h:=h y1 hy1
 refine kM hH (jN (cbr h ?_ ?_))<;>intro h
 refine eg ?_
 have ⟨h,hs⟩:=hs.hr (h H4 w4)
 refine sc call4 (h.mono fun e w6 ⟨r1,k,hk,h⟩=>have ⟨hs,hb⟩:=hk.hh hs hb;⟨_,k,?_⟩)
 refine q (ln (er (zM (rs1 results3 ⟨r1,rfl,h⟩))))
 refine jB (jN (eg ?_))
 have ⟨h,hs⟩:=hs.hr (h H4 w4)
 refine sc call5 (h.mono fun e w7 ⟨r2,k,hk,h⟩=>have ⟨hs,hb⟩:=hk.hh hs hb;⟨_,k,?_⟩)
 refine q (ln (jA (eg (q (q2 (vb (Option.isNone r2)) (qK (by kernel_rfl) rfl underlying27) (ln (cbr h ?_ ?_)))))))<;>intro h
 refine eg (q (ln (er (zM (rs1 results3 ⟨false,rfl,h⟩)))))
 refine jB (jN (eg (q (q2 (Ac aB aC aD aA aE) (xa p1 (Aa aB aC aD aA aE) (isAgg24 _) (sizeOf24 _) (hb.r0 1 5 (gS gZ))) (sc call6 (h.mono fun e w8 ⟨r3,r4,k,hk,h⟩=>have ⟨hs,hb⟩:=hk.hh hs hb;⟨_,k,?_⟩))))))
 refine q (qd (ln (eg (q (q2 (Ac aL aM aN aF aO) (xa p2 (Aa aL aM aN aF aO) (isAgg24 _) (sizeOf24 _) (hb.r0 0 5 gZ)) (sc call6 (h.mono fun e w9 ⟨r5,r6,k,hk,h⟩=>have ⟨hs,hb⟩:=hk.hh hs hb;⟨_,k,?_⟩)))))))
 refine q (qd (ln (jA (eg (q (sc call7 ((p_Z r4 w9).mono ?_)))))))
 rintro e w10 ⟨he,hE⟩
 refine ⟨_,he,?_⟩
 obtain ⟨hs,hb⟩:=hs.pp hb hE
 refine q (ln (zC (fun ρ w=>∃H:NP,Has ρ [(2,b1.v),(3,(vs s1))]∧Hst w0 H w H w∧HB H w [(p2,(Aa aL aM aN aF aO),24),(p1,(Aa aB aC aD aA aE),24)]∧m_O_j1 b1 s1 w0 H w K) ?_ ?_))
 rintro ρ w ⟨H,hH,hs,hb,h⟩
 refine jQ hH (eg (nw5 (fun p=>(Sl.mk (some p) 0 0).v) hs hb h fun p3 w11 hs hb h=>q ?_))
 obtain ⟨s2,w12,hv3,hk,h⟩:=h
 refine st (v:=s2.v) (jK rfl) (kB (args:=#[(Sl.mk (some p3) 0 0).v,b1.v]) (by kernel_rfl) (fun _=>rfl) hv3) ?_
 obtain ⟨hs,hb⟩:=hk.hh hs hb
 refine sc call10 (h.mono fun e w13 ⟨bA,bB,bC,bD,aZ,r7,k,hk,h⟩=>have ⟨hs,hb⟩:=hk.hh hs hb;⟨_,k,?_⟩)
 refine qc (nw3 (Ag 0 0 0 false) 24 hs hb (jG (zeroValue24 _) rfl) fun p4 w14 H6 hs hb=>sbx 0 (Aa bA bB bC bD aZ) (sizeOf24 _) hs hb gZ fun w15 hs hb=>q (ln (jA (jA (vJ (fun ρ wJ=>∃b5'0:Bool,∃HJ:NP,(r7=b5'0)∧Hst w0 H w13 HJ wJ∧HB HJ wJ [(p4,(Aa bA bB bC bD aZ),24),(p2,(Aa aL aM aN aF aO),24),(p1,(Aa aB aC aD aA aE),24)]∧Has ρ [(2,b1.v),(3,(vs s1)),(23,(vp (some p4))),(147,(vb (b5'0 && (!aZ))))]) ?_ ?_)))))
 refine rg (qb ?_)
 rcases bte r7 with hg8 | hg8
 refine qk 143 hg8 (q4 143 hg8 (xl (isAgg4 _) (hb.d 0 4 gZ)) (qk 143 hg8 (q2 (vb (!aZ)) (xT hg8) (ln ⟨true,_,hg8,hs,hb,hm⟩))))
 refine sj3 143 hg8 (q2 (vb false) (xF hg8) (ln ⟨false,_,hg8,hs,hb,hm⟩))
 rintro ρ w16 ⟨b5'0,H7,he0,hs,hb,hH⟩
 subst he0
 refine kM hH (jN (zC (fun ρ w=>∃H:NP,Has ρ [(3,(vs s1))]∧Hst w0 H w H w∧HB H w [(p4,(Aa bA bB bC bD aZ),24),(p2,(Aa aL aM aN aF aO),24),(p1,(Aa aB aC aD aA aE),24)]∧m_O_j2 s1 w0 H w K) ?_ ?_))
 rintro ρ w ⟨H,hH,hs,hb,h⟩
 refine jQ hH (eg (q (sc call11 (h.mono fun e w17 ⟨bE,bF,bG,bH,bI,r8,r9,k,hk,h⟩=>have ⟨hs,hb⟩:=hk.hh hs hb;⟨_,k,?_⟩))))
 refine qd (nw3 (Ag 0 0 0 false) 24 hs hb (jG (zeroValue24 _) rfl) fun p5 w18 H8 hs hb=>sbx 0 (Aa bE bF bG bH bI) (sizeOf24 _) hs hb gZ fun w19 hs hb=>qb (ln (jA (eg (q (sc call7 ((p_Z r8 w19).mono ?_)))))))
 rintro e w20 ⟨he,hE⟩
 refine ⟨_,he,?_⟩
 obtain ⟨hs,hb⟩:=hs.pp hb hE
 refine qb ?_
 obtain ⟨hg9,h⟩|⟨hg9,h⟩:=h.br
 refine stq (v:=(Ac bE bF bG bH bI)) (wy 172 hg9) (xa p5 (Aa bE bF bG bH bI) (isAgg24 _) (sizeOf24 _) (hb.r0 0 5 gZ)) ?_
 have ⟨h,hs⟩:=hs.hr (h H8 w20)
 refine vK (wy 172 hg9) (xc call12) (h.mono ?_)
 rintro e w21 ⟨r10,rfl,hk,h⟩
 refine ⟨_,rfl,?_⟩
 obtain ⟨hs,hb⟩:=hk.hh hs hb
 refine qk 172 hg9 (stq (v:=(vb (!(decide (r10=s1))))) (wy 172 hg9) (yX (by kernel_rfl) (by kernel_rfl)) (q2 (vb (!(decide (r10=s1)))) (xT hg9) (ln (cbr h ?_ ?_))))<;>intro h
 refine eg (q (ln (er (zM (rs1 results3 ⟨false,rfl,h⟩)))))
 refine jB (jN (eg (sc call4 (h.mono fun e w22 ⟨r11,k,hk,h⟩=>have ⟨hs,hb⟩:=hk.hh hs hb;⟨_,k,?_⟩))))
 refine q (ln (er (rs1 results3 ⟨r11,rfl,h⟩)))
 refine sj4 172 hg9 (q2 (vb false) (xF hg9) (ln (kR (by kernel_rfl) (jB (jN (eg ?_))))))
 have ⟨h,hs⟩:=hs.hr (h H8 w20)
 refine sc call4 (h.mono fun e w23 ⟨r12,k,hk,h⟩=>have ⟨hs,hb⟩:=hk.hh hs hb;⟨_,k,?_⟩)
 refine q (ln (er (rs1 results3 ⟨r12,rfl,h⟩)))
 refine cbr h ?_ ?_<;>intro h
 refine eg (q2 (Ac bA bB bC bD aZ) (xa p4 (Aa bA bB bC bD aZ) (isAgg24 _) (sizeOf24 _) (hb.r0 0 5 gZ)) ?_)
 have ⟨h,hs⟩:=hs.hr (h H7 w16)
 refine sc call9 (h.mono fun e w24 ⟨r13,r14,k,hk,h⟩=>have ⟨hs,hb⟩:=hk.hh hs hb;⟨_,k,?_⟩)
 refine q (qd (ln (eg (q (sc call7 ((p_Z r14 w24).mono ?_))))))
 rintro e w25 ⟨he,hE⟩
 refine ⟨_,he,?_⟩
 obtain ⟨hs,hb⟩:=hs.pp hb hE
 refine qb ?_
 obtain ⟨hg10,h⟩|⟨hg10,h⟩:=h.br
 refine sj5 156 hg10 (q2 (vb true) (xT hg10) (ln (vA (by kernel_rfl) (eg (q0 (vb false) (ln (er (zM ?_))))))))
 have ⟨h,hs⟩:=hs.hr (h w25)
 refine rs1 results3 ⟨false,rfl,h⟩
 refine qk 156 hg10 ?_
 have ⟨h,hs⟩:=hs.hr (h w25)
 obtain ⟨c1,hv2,h⟩:=h
 refine stq (v:=(vs c1)) (wy 156 hg10) (qS (by kernel_rfl) hv2) (qk 156 hg10 ?_)
 obtain ⟨c2,hv1,h⟩:=h
 refine stq (v:=(vs c2)) (wy 156 hg10) (qS (by kernel_rfl) hv1) (stq (v:=(vb (!(decide (c1=c2))))) (wy 156 hg10) (yX (by kernel_rfl) (by kernel_rfl)) (q2 (vb (!(decide (c1=c2)))) (xF hg10) (ln (cbr h ?_ ?_))))<;>intro h
 refine eg (q (ln (er (zM (rs1 results3 ⟨false,rfl,h⟩)))))
 refine jB (jN ⟨H7,hm,hs,hb,h⟩)
 refine jB ?_
 have ⟨h,hs⟩:=hs.hr (h H7 w16)
 refine jN ⟨H7,hm,hs,hb,h⟩
 refine cbr h ?_ ?_<;>intro h
 refine eg (qb ?_)
 have ⟨h,hs⟩:=hs.hr (h w10)
 refine sc call8 (h.mono fun e w26 ⟨aG,aH,aI,aJ,aK,r15,k,hk,h⟩=>have ⟨hs,hb⟩:=hk.hh hs hb;⟨_,k,?_⟩)
 refine qc (nw3 (Ag 0 0 0 false) 24 hs hb (jG (zeroValue24 _) rfl) fun p6 w27 H9 hs hb=>sbx 0 (Aa aG aH aI aJ aK) (sizeOf24 _) hs hb gZ fun w28 hs hb=>q (ln (eg (q2 (Ac aB aC aD aA aE) (xa p1 (Aa aB aC aD aA aE) (isAgg24 _) (sizeOf24 _) (hb.r0 2 5 (gS (gS gZ)))) ?_))))
 have ⟨h,hs⟩:=hs.hr (h H9 w28)
 refine sc call9 (h.mono fun e w29 ⟨r16,r17,k,hk,h⟩=>have ⟨hs,hb⟩:=hk.hh hs hb;⟨_,k,?_⟩)
 refine q (qd (ln (eg (q (sc call10 (h.mono fun e w30 ⟨aP,aQ,aR,aS,aT,r18,k,hk,h⟩=>have ⟨hs,hb⟩:=hk.hh hs hb;⟨_,k,?_⟩))))))
 refine qc (nw3 (Ag 0 0 0 false) 24 hs hb (jG (zeroValue24 _) rfl) fun p7 w31 H10 hs hb=>sbx 0 (Aa aP aQ aR aS aT) (sizeOf24 _) hs hb gZ fun w32 hs hb=>q (ln (eg (q2 (Ac aB aC aD aA aE) (xa p1 (Aa aB aC aD aA aE) (isAgg24 _) (sizeOf24 _) (hb.r0 3 5 (gS (gS (gS gZ))))) ?_))))
 have ⟨h,hs⟩:=hs.hr (h H10 w32)
 refine sc call12 (h.mono fun e w33 ⟨r19,k,hk,h⟩=>have ⟨hs,hb⟩:=hk.hh hs hb;⟨_,k,?_⟩)
 refine sc call11 (h.mono fun e w34 ⟨aU,aV,aW,aX,aY,r20,r21,k,hk,h⟩=>have ⟨hs,hb⟩:=hk.hh hs hb;⟨_,k,?_⟩)
 refine qd (nw3 (Ag 0 0 0 false) 24 hs hb (jG (zeroValue24 _) rfl) fun p8 w35 H11 hs hb=>sbx 0 (Aa aU aV aW aX aY) (sizeOf24 _) hs hb gZ fun w36 hs hb=>qb (ln (jA (vJ (fun ρ wJ=>∃b13'0 y2:Bool,∃HJ:NP,((((((((!r15) || (!((aG == aB) && ((aH == aC) && ((aI == aD) && ((decide (aJ=aA)) && (aK == aE))))))) || (r17 != 0)) || (!r18)) || (!((aP == aB) && ((aQ == aC) && ((aR == aD) && ((decide (aS=aA)) && (aT == aE))))))) || (r20 != 0)) || (!((aU == aB) && ((aV == aC) && ((aW == aD) && ((decide (aX=aA)) && (aY == aE)))))))=b13'0)∧(y2=(b13'0 || ((r6 == 0) && (!((r3 == r5) == ((aB == aL) && ((aC == aM) && ((aD == aN) && ((decide (aA=aF)) && (aE == aO))))))))))∧Hst w0 H10 w34 HJ wJ∧HB HJ wJ [(p8,(Aa aU aV aW aX aY),24),(p7,(Aa aP aQ aR aS aT),24),(p6,(Aa aG aH aI aJ aK),24),(p2,(Aa aL aM aN aF aO),24),(p1,(Aa aB aC aD aA aE),24)]∧Has ρ [(2,b1.v),(3,(vs s1)),(134,(vb y2))]) ?_ ?_))))
 refine rg (qc (jU 4 (fun ρ wJ=>∃b14'0:Bool,∃HJ:NP,((!r15)=b14'0)∧Hst w0 H10 w34 HJ wJ∧HB HJ wJ [(p8,(Aa aU aV aW aX aY),24),(p7,(Aa aP aQ aR aS aT),24),(p6,(Aa aG aH aI aJ aK),24),(p2,(Aa aL aM aN aF aO),24),(p1,(Aa aB aC aD aA aE),24)]∧Has ρ [(2,b1.v),(3,(vs s1)),(4,(vp (some p1))),(5,(vp (some p2))),(10,(vi r3)),(12,(vi r5)),(13,(vi r6)),(17,(vi r17)),(18,(vp (some p7))),(19,(vb r18)),(20,(vp (some p8))),(21,(vi r20)),(96,(vb (b14'0 || (!((aG == aB) && ((aH == aC) && ((aI == aD) && ((decide (aJ=aA)) && (aK == aE)))))))))]) ?_ ?_))
 rintro ρ w50 ⟨b14'0,H20,he0,hs,hb,hH⟩
 subst he0
 refine zB hH (q (jU 4 (fun ρ wJ=>∃b15'0:Bool,∃HJ:NP,(((!r15) || (!((aG == aB) && ((aH == aC) && ((aI == aD) && ((decide (aJ=aA)) && (aK == aE)))))))=b15'0)∧Hst w0 H10 w34 HJ wJ∧HB HJ wJ [(p8,(Aa aU aV aW aX aY),24),(p7,(Aa aP aQ aR aS aT),24),(p6,(Aa aG aH aI aJ aK),24),(p2,(Aa aL aM aN aF aO),24),(p1,(Aa aB aC aD aA aE),24)]∧Has ρ [(2,b1.v),(3,(vs s1)),(4,(vp (some p1))),(5,(vp (some p2))),(10,(vi r3)),(12,(vi r5)),(13,(vi r6)),(18,(vp (some p7))),(19,(vb r18)),(20,(vp (some p8))),(21,(vi r20)),(101,(vb (b15'0 || (r17 != 0))))]) ?_ ?_))
 rintro ρ w52 ⟨b15'0,H21,he0,hs,hb,hH⟩
 subst he0
 refine zB hH (q (jU 3 (fun ρ wJ=>∃b16'0:Bool,∃HJ:NP,((((!r15) || (!((aG == aB) && ((aH == aC) && ((aI == aD) && ((decide (aJ=aA)) && (aK == aE))))))) || (r17 != 0))=b16'0)∧Hst w0 H10 w34 HJ wJ∧HB HJ wJ [(p8,(Aa aU aV aW aX aY),24),(p7,(Aa aP aQ aR aS aT),24),(p6,(Aa aG aH aI aJ aK),24),(p2,(Aa aL aM aN aF aO),24),(p1,(Aa aB aC aD aA aE),24)]∧Has ρ [(2,b1.v),(3,(vs s1)),(4,(vp (some p1))),(5,(vp (some p2))),(10,(vi r3)),(12,(vi r5)),(13,(vi r6)),(18,(vp (some p7))),(20,(vp (some p8))),(21,(vi r20)),(105,(vb (b16'0 || (!r18))))]) ?_ ?_))
 rintro ρ w54 ⟨b16'0,H22,he0,hs,hb,hH⟩
 subst he0
 refine zB hH (q (jU 4 (fun ρ wJ=>∃b17'0:Bool,∃HJ:NP,(((((!r15) || (!((aG == aB) && ((aH == aC) && ((aI == aD) && ((decide (aJ=aA)) && (aK == aE))))))) || (r17 != 0)) || (!r18))=b17'0)∧Hst w0 H10 w34 HJ wJ∧HB HJ wJ [(p8,(Aa aU aV aW aX aY),24),(p7,(Aa aP aQ aR aS aT),24),(p6,(Aa aG aH aI aJ aK),24),(p2,(Aa aL aM aN aF aO),24),(p1,(Aa aB aC aD aA aE),24)]∧Has ρ [(2,b1.v),(3,(vs s1)),(4,(vp (some p1))),(5,(vp (some p2))),(10,(vi r3)),(12,(vi r5)),(13,(vi r6)),(20,(vp (some p8))),(21,(vi r20)),(110,(vb (b17'0 || (!((aP == aB) && ((aQ == aC) && ((aR == aD) && ((decide (aS=aA)) && (aT == aE)))))))))]) ?_ ?_))
 rintro ρ w55 ⟨b17'0,H23,he0,hs,hb,hH⟩
 subst he0
 refine zB hH (q (jU 4 (fun ρ wJ=>∃b18'0:Bool,∃HJ:NP,((((((!r15) || (!((aG == aB) && ((aH == aC) && ((aI == aD) && ((decide (aJ=aA)) && (aK == aE))))))) || (r17 != 0)) || (!r18)) || (!((aP == aB) && ((aQ == aC) && ((aR == aD) && ((decide (aS=aA)) && (aT == aE)))))))=b18'0)∧Hst w0 H10 w34 HJ wJ∧HB HJ wJ [(p8,(Aa aU aV aW aX aY),24),(p7,(Aa aP aQ aR aS aT),24),(p6,(Aa aG aH aI aJ aK),24),(p2,(Aa aL aM aN aF aO),24),(p1,(Aa aB aC aD aA aE),24)]∧Has ρ [(2,b1.v),(3,(vs s1)),(4,(vp (some p1))),(5,(vp (some p2))),(10,(vi r3)),(12,(vi r5)),(13,(vi r6)),(20,(vp (some p8))),(115,(vb (b18'0 || (r20 != 0))))]) ?_ ?_))
 rintro ρ w57 ⟨b18'0,H24,he0,hs,hb,hH⟩
 subst he0
 refine zB hH (q (jU 4 (fun ρ wJ=>∃b19'0:Bool,∃HJ:NP,(((((((!r15) || (!((aG == aB) && ((aH == aC) && ((aI == aD) && ((decide (aJ=aA)) && (aK == aE))))))) || (r17 != 0)) || (!r18)) || (!((aP == aB) && ((aQ == aC) && ((aR == aD) && ((decide (aS=aA)) && (aT == aE))))))) || (r20 != 0))=b19'0)∧Hst w0 H10 w34 HJ wJ∧HB HJ wJ [(p8,(Aa aU aV aW aX aY),24),(p7,(Aa aP aQ aR aS aT),24),(p6,(Aa aG aH aI aJ aK),24),(p2,(Aa aL aM aN aF aO),24),(p1,(Aa aB aC aD aA aE),24)]∧Has ρ [(2,b1.v),(3,(vs s1)),(4,(vp (some p1))),(5,(vp (some p2))),(10,(vi r3)),(12,(vi r5)),(13,(vi r6)),(120,(vb (b19'0 || (!((aU == aB) && ((aV == aC) && ((aW == aD) && ((decide (aX=aA)) && (aY == aE)))))))))]) ?_ ?_))
 rintro ρ w59 ⟨b19'0,H25,he0,hs,hb,hH⟩
 subst he0
 refine zB hH (q ?_)
 rcases bte (((((((!r15) || (!((aG == aB) && ((aH == aC) && ((aI == aD) && ((decide (aJ=aA)) && (aK == aE))))))) || (r17 != 0)) || (!r18)) || (!((aP == aB) && ((aQ == aC) && ((aR == aD) && ((decide (aS=aA)) && (aT == aE))))))) || (r20 != 0)) || (!((aU == aB) && ((aV == aC) && ((aW == aD) && ((decide (aX=aA)) && (aY == aE))))))) with hg38 | hg38
 refine sj4 121 hg38 (sm (sm (sm (sm (sm (sm (sm (sj 121 hg38 (q2 (vb true) (xT hg38) (ln ⟨true,_,_,hg38,rfl,hs,hb,hm⟩))))))))))
 refine qk 121 hg38 (vK (wy 121 hg38) (xc call7) ((p_Z r6 w59).mono ?_))
 rintro e w60 ⟨he,hE⟩
 refine ⟨_,he,?_⟩
 obtain ⟨hs,hb⟩:=hs.pp hb hE
 refine qk 121 hg38 (qk 121 hg38 (jU 8 (fun ρ wJ=>∃b20'0:Bool,∃HJ:NP,((r6 == 0)=b20'0)∧Hst w0 H10 w34 HJ wJ∧HB HJ wJ [(p8,(Aa aU aV aW aX aY),24),(p7,(Aa aP aQ aR aS aT),24),(p6,(Aa aG aH aI aJ aK),24),(p2,(Aa aL aM aN aF aO),24),(p1,(Aa aB aC aD aA aE),24)]∧Has ρ [(2,b1.v),(3,(vs s1)),(121,(vb (((((((!r15) || (!((aG == aB) && ((aH == aC) && ((aI == aD) && ((decide (aJ=aA)) && (aK == aE))))))) || (r17 != 0)) || (!r18)) || (!((aP == aB) && ((aQ == aC) && ((aR == aD) && ((decide (aS=aA)) && (aT == aE))))))) || (r20 != 0)) || (!((aU == aB) && ((aV == aC) && ((aW == aD) && ((decide (aX=aA)) && (aY == aE))))))))),(133,(vb (b20'0 && (!((r3 == r5) == ((aB == aL) && ((aC == aM) && ((aD == aN) && ((decide (aA=aF)) && (aE == aO))))))))))]) ?_ ?_))
 rintro ρ w61 ⟨b20'0,H26,he0,hs,hb,hH⟩
 subst he0
 refine zB hH (q2 (vb ((r6 == 0) && (!((r3 == r5) == ((aB == aL) && ((aC == aM) && ((aD == aN) && ((decide (aA=aF)) && (aE == aO))))))))) (xF hg38) (ln ⟨false,_,_,hg38,rfl,hs,hb,hm⟩))
 rcases bte (r6 == 0) with hg40 | hg40
 refine qk 125 hg40 (qk 125 hg40 (qk 125 hg40 (stq (v:=(Ac aB aC aD aA aE)) (wy 125 hg40) (xa p1 (Aa aB aC aD aA aE) (isAgg24 _) (sizeOf24 _) (hb.r0 4 5 (gS (gS (gS (gS gZ)))))) (stq (v:=(Ac aL aM aN aF aO)) (wy 125 hg40) (xa p2 (Aa aL aM aN aF aO) (isAgg24 _) (sizeOf24 _) (hb.r0 3 5 (gS (gS (gS gZ))))) (stq (v:=(vb ((aB == aL) && ((aC == aM) && ((aD == aN) && ((decide (aA=aF)) && (aE == aO))))))) (wy 125 hg40) (tT (by kernel_rfl) (by kernel_rfl) (by kernel_rfl) (yP aB aC aD aA aE aL aM aN aF aO _)) (stq (v:=(vb (!((r3 == r5) == ((aB == aL) && ((aC == aM) && ((aD == aN) && ((decide (aA=aF)) && (aE == aO))))))))) (wy 125 hg40) (uJ (by kernel_rfl) (by kernel_rfl) (by kernel_rfl) (yW (r3 == r5) ((aB == aL) && ((aC == aM) && ((aD == aN) && ((decide (aA=aF)) && (aE == aO))))) _)) (stq (v:=(vb (!((r3 == r5) == ((aB == aL) && ((aC == aM) && ((aD == aN) && ((decide (aA=aF)) && (aE == aO))))))))) (wy 121 hg38) (xT hg40) (jC ⟨true,_,hg40,hs,hb,hm⟩))))))))
 refine sj2 125 hg40 (sj5 125 hg40 (stq (v:=(vb false)) (wy 121 hg38) (xF hg40) (jC ⟨false,_,hg40,hs,hb,hm⟩)))
 rcases bte ((((((!r15) || (!((aG == aB) && ((aH == aC) && ((aI == aD) && ((decide (aJ=aA)) && (aK == aE))))))) || (r17 != 0)) || (!r18)) || (!((aP == aB) && ((aQ == aC) && ((aR == aD) && ((decide (aS=aA)) && (aT == aE))))))) || (r20 != 0)) with hg37 | hg37
 refine sj3 116 hg37 (q2 (vb true) (xT hg37) (jC ⟨true,_,hg37,hs,hb,hm⟩))
 refine stq (v:=(Ac aU aV aW aX aY)) (wy 116 hg37) (xa p8 (Aa aU aV aW aX aY) (isAgg24 _) (sizeOf24 _) (hb.r0 0 5 gZ)) (stq (v:=(Ac aB aC aD aA aE)) (wy 116 hg37) (xa p1 (Aa aB aC aD aA aE) (isAgg24 _) (sizeOf24 _) (hb.r0 4 5 (gS (gS (gS (gS gZ)))))) (stq (v:=(vb (!((aU == aB) && ((aV == aC) && ((aW == aD) && ((decide (aX=aA)) && (aY == aE)))))))) (wy 116 hg37) (tT (by kernel_rfl) (by kernel_rfl) (by kernel_rfl) (kE aU aV aW aX aY aB aC aD aA aE _)) (q2 (vb (!((aU == aB) && ((aV == aC) && ((aW == aD) && ((decide (aX=aA)) && (aY == aE))))))) (xF hg37) (jC ⟨false,_,hg37,hs,hb,hm⟩))))
 rcases bte (((((!r15) || (!((aG == aB) && ((aH == aC) && ((aI == aD) && ((decide (aJ=aA)) && (aK == aE))))))) || (r17 != 0)) || (!r18)) || (!((aP == aB) && ((aQ == aC) && ((aR == aD) && ((decide (aS=aA)) && (aT == aE))))))) with hg35 | hg35
 refine sj3 111 hg35 (q2 (vb true) (xT hg35) (jC ⟨true,_,hg35,hs,hb,hm⟩))
 refine qk 111 hg35 (vK (wy 111 hg35) (xc call7) ((p_Z r20 w55).mono ?_))
 rintro e w58 ⟨he,hE⟩
 refine ⟨_,he,?_⟩
 obtain ⟨hs,hb⟩:=hs.pp hb hE
 refine qk 111 hg35 (q2 (vb (r20 != 0)) (xF hg35) (jC ⟨false,_,hg35,hs,hb,hm⟩))
 rcases bte ((((!r15) || (!((aG == aB) && ((aH == aC) && ((aI == aD) && ((decide (aJ=aA)) && (aK == aE))))))) || (r17 != 0)) || (!r18)) with hg33 | hg33
 refine sj3 106 hg33 (q2 (vb true) (xT hg33) (jC ⟨true,_,hg33,hs,hb,hm⟩))
 refine stq (v:=(Ac aP aQ aR aS aT)) (wy 106 hg33) (xa p7 (Aa aP aQ aR aS aT) (isAgg24 _) (sizeOf24 _) (hb.r0 1 5 (gS gZ))) (stq (v:=(Ac aB aC aD aA aE)) (wy 106 hg33) (xa p1 (Aa aB aC aD aA aE) (isAgg24 _) (sizeOf24 _) (hb.r0 4 5 (gS (gS (gS (gS gZ)))))) (stq (v:=(vb (!((aP == aB) && ((aQ == aC) && ((aR == aD) && ((decide (aS=aA)) && (aT == aE)))))))) (wy 106 hg33) (tT (by kernel_rfl) (by kernel_rfl) (by kernel_rfl) (kE aP aQ aR aS aT aB aC aD aA aE _)) (q2 (vb (!((aP == aB) && ((aQ == aC) && ((aR == aD) && ((decide (aS=aA)) && (aT == aE))))))) (xF hg33) (jC ⟨false,_,hg33,hs,hb,hm⟩))))
 rcases bte (((!r15) || (!((aG == aB) && ((aH == aC) && ((aI == aD) && ((decide (aJ=aA)) && (aK == aE))))))) || (r17 != 0)) with hg31 | hg31
 refine sj2 102 hg31 (q2 (vb true) (xT hg31) (jC ⟨true,_,hg31,hs,hb,hm⟩))
 refine qk 102 hg31 (qk 102 hg31 (q2 (vb (!r18)) (xF hg31) (jC ⟨false,_,hg31,hs,hb,hm⟩)))
 rcases bte ((!r15) || (!((aG == aB) && ((aH == aC) && ((aI == aD) && ((decide (aJ=aA)) && (aK == aE))))))) with hg29 | hg29
 refine sj3 97 hg29 (q2 (vb true) (xT hg29) (jC ⟨true,_,hg29,hs,hb,hm⟩))
 refine qk 97 hg29 (vK (wy 97 hg29) (xc call7) ((p_Z r17 w50).mono ?_))
 rintro e w53 ⟨he,hE⟩
 refine ⟨_,he,?_⟩
 obtain ⟨hs,hb⟩:=hs.pp hb hE
 refine qk 97 hg29 (q2 (vb (r17 != 0)) (xF hg29) (jC ⟨false,_,hg29,hs,hb,hm⟩))
 rcases bte (!r15) with hg27 | hg27
 refine sj3 92 hg27 (q2 (vb true) (xT hg27) (jC ⟨true,_,hg27,hs,hb,hm⟩))
 refine stq (v:=(Ac aG aH aI aJ aK)) (wy 92 hg27) (xa p6 (Aa aG aH aI aJ aK) (isAgg24 _) (sizeOf24 _) (hb.r0 2 5 (gS (gS gZ)))) (stq (v:=(Ac aB aC aD aA aE)) (wy 92 hg27) (xa p1 (Aa aB aC aD aA aE) (isAgg24 _) (sizeOf24 _) (hb.r0 4 5 (gS (gS (gS (gS gZ)))))) (stq (v:=(vb (!((aG == aB) && ((aH == aC) && ((aI == aD) && ((decide (aJ=aA)) && (aK == aE)))))))) (wy 92 hg27) (tT (by kernel_rfl) (by kernel_rfl) (by kernel_rfl) (kE aG aH aI aJ aK aB aC aD aA aE _)) (q2 (vb (!((aG == aB) && ((aH == aC) && ((aI == aD) && ((decide (aJ=aA)) && (aK == aE))))))) (xF hg27) (jC ⟨false,_,hg27,hs,hb,hm⟩))))
 rintro ρ w49 ⟨b13'0,y2,H19,he0,hy2,hs,hb,hH⟩
 subst he0
 have h:=h y2 hy2
 refine kM hH (jN (cbr h ?_ ?_))<;>intro h
 refine eg (q (ln (er (zM ?_))))
 have ⟨h,hs⟩:=hs.hr (h H19 w49)
 refine rs1 results3 ⟨false,rfl,h⟩
 refine jB ?_
 have ⟨h,hs⟩:=hs.hr (h H19 w49)
 refine jN ⟨H19,hm,hs,hb.drop 3,h⟩
 refine jB ?_
 have ⟨h,hs⟩:=hs.hr (h w10)
 refine jN ⟨H4,hm,hs,hb,h⟩
end Go.Proofs
end
section
open Go Go.SE
namespace Go.Sp
open Go.Proofs
theorem jUV {L:Pool} (hW:Wf L) {l m:Letter} (hl:(jR L l).2.1=0):inP (jR (jR L l).2.2 m).2.2 (jR L l).1=true∧jKY (jR (jR L l).2.2 m).2.2 (jR L l).1=(l,true)∧((jR (jR L l).2.2 m).2.1=0→((jR L l).1=(jR (jR L l).2.2 m).1↔l=m)):=by
 obtain ⟨h1,h2,h3⟩:=bok hl hW;have w1:=qD hW l;have w2:=qD w1 m;obtain ⟨M,hM⟩:=jMF w1.ok m;have t2:inP (jR (jR L l).2.2 m).2.2 (jR L l).1=true:=by rw [hM];exact jAD h2
 have e2:jE (jR (jR L l).2.2 m).2.2 (jR L l).1=zJ l true true:=by
  rw [hM] at w2 ⊢;rw [uK w2 _ _ rfl h2];exact h3
 refine ⟨t2,?_,fun hm=>?_⟩
 ·unfold jKY;rw [jBE w2 t2 (by rw [e2];exact jAC h1),if_neg (by simp)]
 ·obtain ⟨g1,g2,g3⟩:=bok hm w1;constructor
  ·intro h;rw [← h] at g3;exact jLP w2 t2 h1 g1 e2 g3
  ·intro h;subst h;have e:jR (jR L l).2.2 l=of (jR L l).2.2 (jE (jR L l).2.2 (jR L l).1):=by
    rw [h3];generalize (jR L l).2.2=L1;unfold jR;rw [if_neg (by rw [h1];simp)]
   rw [e,of_old w1 h2]
theorem jOC {l:Letter} (h:zS l=0) (hc:vU l.c):(xL l).length≤400:=by
 obtain ⟨k,f,c,x,g⟩:=l;obtain ⟨_,hf,_,_,_,hx⟩:=uQ h;have hc:0≤c∧c<18446744073709551616:=hc;have hxl:x.data.toList.length=x.size:=by rw [Array.length_toList];rfl
 have h1:=jBT k;have h2:=nd20 (n:=f.toNat) (by omega);have h3:=nd20 (n:=c.toNat) (by omega);have h4:=jIX x.data.toList;unfold xL;rw [if_neg (by rw [h];simp)];simp only [yU];cases g <;> cases isSigned k <;> cases isTexted k <;> simp [-List.length_flatMap] <;> omega
end Go.Sp
namespace Go.Proofs
open Tryz
attribute [local irreducible] Calls
set_option maxHeartbeats 1000000 in
theorem jHK (x:ByteArray) (hc:(bts x).length≤10000000) (w0:World) (hv:∀w,Pure w0 w→ErrV w) :
  Calls prog 11 #[.string x] w0 (fun e w'=>∃k f c:Int,∃t:ByteArray,∃g:Bool,∃er at_:Int,e=.returned (.tuple #[.agg #[.int .i64 k,.int .i64 f,.int .u64 c,.string t,.bool g],.int .i64 er,.int .i64 at_])∧PaR w0 (Sp.uG (bts x)) k f c t g er w'):=by
 refine w_E x w0 (fun k f c t g er _ w'=>PaR w0 (Sp.uG (bts x)) k f c t g er w') ?_
 unfold m_E
 intro p1 w1 n1 p2 w2 n2 H1 w3 hs3
 have b1:=n1.at_size
 have b2:=n2.at_size
 have E1:Pure w0 w1:=Ext.new n1
 have E2:Pure w1 w2:=Ext.new n2
 have z1:=E1.size
 have z2:=E2.size
 have B1:=(Box.of_newA n1).pure E2
 have zb:=B1.lt
 have hb1:p1.block<w1.heap.size:=(Box.of_newA n1).lt
 have B2:Lne w2 p2 x 0 0 0:=Box.of_newA n2
 have zb2:=B2.lt
 have oH:∀b,H1 b→w2.heap.size≤b:=fun b hb=>(hs3.new b hb).elim (fun h=>h.elim) id
 have B13:=B1.ext hs3.ext (fun hh=>by have:=oH _ hh;omega)
 have B23:Lne w3 p2 x 0 0 0:=B2.ext hs3.ext (fun hh=>by have:=oH _ hh;omega)
 have E03:Pure w0 w3:=(E1.trans E2).trans' hs3.ext (fun i hi hh=>by have:=oH _ hh;omega)
 have D3:PaS w0 w3 H1 p1 p2 x (some 0):=⟨⟨_,rfl,B13⟩,⟨B23,Nat.zero_le _⟩,by omega,E03,by omega,by omega,fun b hb=>by have:=oH b hb;exact ⟨by omega,by omega,by omega⟩⟩
 refine (jRY p2 x w3 B23 hc).mono ?_
 rintro _ w4 ⟨k,g,rfl,h4,E4,hkg⟩
 obtain ⟨k4,D4⟩:=D3.to h4 E4
 refine ⟨_,_,rfl,k4,fun w6 hs6=>⟨fun _=>True,trivial,?_⟩⟩
 rintro w19 rfl
 have D19:=(D4.hst hs6).pureE (Ext.drew w6)
 have hlt:∀b,H1 b→b<w6.drew.heap.size:=fun b hb=>by have:=hs6.lt b hb;have:=(Ext.drew w6:Pure w6 w6.drew).size;omega
 have hp2:p2.block<w6.drew.heap.size:=D19.st.lt
 have idx:∃wd,(∀w',(Instr.index 77 (.agg jCP) (.int .i64 k)).run prog w'=.ok (.agg #[.bool (Sp.isSigned k),.bool (Sp.isTexted k),.bool (k == 1 || k == 4),.string wd]) w'):=by
  obtain ⟨n,hn,rfl⟩:∃n:Nat,n<8∧k=n:=by
   cases hw:Sp.qA (bts x) with
   | none=>rw [hw] at hkg;exact ⟨0,by omega,hkg.1⟩
   | some d =>
    rw [hw] at hkg
    have:=(Sp.lE _ d hw).1
    simp at this
    exact ⟨k.toNat,by omega,by omega⟩
  exact ⟨_,jGS hn⟩
 obtain ⟨wd,idx⟩:=idx
 have hR:Sp.uG (bts x)=((Sp.qA (bts x)).map (·.2.2)).bind fun i=>(Sp.xW (bts x) k i).bind fun f=>jDT (bts x) k f.1 g f.2:=by
  rw [jLE];cases hw:Sp.qA (bts x) with
  | none=>rfl
  | some d=>rw [hw] at hkg;obtain ⟨rfl,rfl⟩:=hkg;rfl
 refine ⟨?_,?_⟩
 ·refine (yR w6.drew).mono ?_
  rintro _ w20 ⟨_,rfl,rfl,E20⟩
  have z20:=E20.size
  refine ⟨_,rfl,trivial,E20.keptP,_,_,_,_,fun w' _=>idx w',?_⟩
  intro p4 w21 n21
  have b21:=n21.at_size
  have E21:Pure w20 w21:=Ext.new n21
  refine ⟨trivial,(Box.of_newA n21).canWs (by simp),fun hh=>by have:=hlt _ hh;omega,?_⟩
  rintro w22 e22
  have X:Ext (·=p4.block) w21 w22:=by rw [e22];exact Ext.storeRow _ _ _
  have B:Box w22 p4 (kbox k wd) 76:=by rw [e22];exact (Box.of_newA n21).store rfl
  have D21:=(D19.pureE E20).pureE E21
  have hp1:p1.block<w20.heap.size:=by obtain ⟨c,_,hb⟩:=(D19.pureE E20).bx;exact hb.lt
  have D22:PaS w0 w22 H1 p1 p2 x ((Sp.qA (bts x)).map (·.2.2)):=by
   obtain ⟨c,hcl,hb⟩:=D21.bx;exact ⟨⟨c,hcl,hb.ext X (by omega)⟩,D21.st.ext X (by omega),D21.ne,D21.e.trans' X (fun i hi e=>by have:=D19.e.size;omega),D21.n1,D21.n2,D21.hH⟩
  exact pa_1 hc p4 k g hv D22 ⟨⟨wd,B⟩,by omega,fun hh=>by have:=hlt _ hh;omega⟩ hR
 ·intro p5 w23 n23
  have b23:=n23.at_size
  have E23:Pure w6.drew w23:=Ext.new n23
  have hb5:=(Box.of_newA n23).lt
  refine ⟨trivial,?_⟩
  refine (yR w23).mono ?_
  rintro _ w24 ⟨_,rfl,rfl,E24⟩
  have B24:=(Box.of_newA n23).pure E24
  refine ⟨_,rfl,trivial,E24.keptP,_,_,_,_,fun w' _=>idx w',B24.canWs (by simp),fun hh=>by have:=hlt _ hh;omega,?_⟩
  rintro w25 e25
  have X:Ext (·=p5.block) w24 w25:=by rw [e25];exact Ext.storeRow _ _ _
  have B:Box w25 p5 (kbox k wd) 76:=by rw [e25];exact B24.store rfl
  have D24:=(D19.pureE E23).pureE E24
  have hp1:p1.block<w6.drew.heap.size:=by obtain ⟨c,_,hb⟩:=D19.bx;exact hb.lt
  have D25:PaS w0 w25 H1 p1 p2 x ((Sp.qA (bts x)).map (·.2.2)):=by
   obtain ⟨c,hcl,hb⟩:=D24.bx;exact ⟨⟨c,hcl,hb.ext X (by omega)⟩,D24.st.ext X (by omega),D24.ne,D24.e.trans' X (fun i hi e=>by have:=D19.e.size;omega),D24.n1,D24.n2,D24.hH⟩
  exact pa_1 hc p5 k g hv D25 ⟨⟨wd,B⟩,by omega,fun hh=>by have:=hlt _ hh;omega⟩ hR
end Go.Proofs
end
section
open Go Go.SE
namespace Go.Proofs
open Tryz
attribute [local irreducible] Calls
theorem jNU {k f c:Int} {x:ByteArray} {g:Bool} {l:Sp.Letter} (h:(⟨k,f,c,x,g⟩:Sp.Letter)=l):(((k:Int) == l.kind) && (((f:Int) == l.frm) && (((c:Int) == l.c) && ((decide (x=l.text)) && (g == l.fake)))))=true:=by subst h;simp
theorem jTW (l m:Sp.Letter):(((l.kind:Int) == m.kind) && (((l.frm:Int) == m.frm) && (((l.c:Int) == m.c) && ((decide (l.text=m.text)) && (l.fake == m.fake)))))=decide (l=m):=by
 obtain ⟨k,f,c,x,g⟩:=l;obtain ⟨k',f',c',x',g'⟩:=m;rw [Bool.eq_iff_iff];simp
set_option maxHeartbeats 1000000 in
theorem tO {S:NP} (l m:Sp.Letter) (hnl:Sp.vU l.c) (sb:Sl) (bs:List UInt8) (s:ByteArray) (w0:World) (ht:Pow w0) (hv:∀w,Pure w0 w→ErrV w) (hL:Lst S w0 1 sb (byr bs)) (hz:sb.a=none→sb=Sl.nil) (hSl:∀b,S b→b<w0.heap.size) :
  Calls prog 3 #[.agg #[.int .i64 l.kind,.int .i64 l.frm,.int .u64 l.c,.string l.text,.bool l.fake],.agg #[.int .i64 m.kind,.int .i64 m.frm,.int .u64 m.c,.string m.text,.bool m.fake],sb.v,.string s] w0 (fun e w'=>∃r:Bool,e=.returned (.bool r)∧(r=true∧Pure w0 w')):=by
 have live:∀(H':NP) (w:World),Pure w0 w→Calls prog 4 #[] w (fun e w'=>∃r:Bool,e=.returned (.bool r)∧Kept H' w w'∧(r=true∧Pure w0 w')):=fun H' w E=>by
  refine (jSA w (yA ht E)).mono ?_;rintro _ w' ⟨_,rfl,rfl,E'⟩;exact ⟨_,rfl,E'.keptP,rfl,E.trans E'⟩
 refine w_O _ _ _ _ _ _ _ _ _ _ sb s w0 (fun r w'=>r=true∧Pure w0 w') ?_
 unfold m_O
 have hsl:=lB s
 have hl:sb.len=bs.length:=by rw [hL.len,zN]
 intro y1 hy1
 refine ⟨fun _=>fun H4 w4 hs4=>live H4 w4 hs4.first,fun hb=>?_⟩
 have hb8:bs.length≤8192∧s.size≤5000:=by
  rw [hb] at hy1;have h1:=(Bool.or_eq_false_iff.1 hy1.symm).1;have h2:=Bool.or_eq_false_iff.1 h1;have:=of_decide_eq_false h2.1;have:=of_decide_eq_false h2.2;omega
 clear hy1
 have j2:∀{H:NP} {w:World},Pure w0 w→m_O_j2 s w0 H w (fun r w'=>r=true∧Pure w0 w'):=fun {H w} E=>by
  unfold m_O_j2;refine (jHK s (by omega) w (fun w' E'=>hv w' (E.trans E'))).mono ?_;rintro _ w17 ⟨k,f,c,t,g,er,at_,rfl,hR,E17⟩;refine ⟨k,f,c,t,g,er,at_,rfl,E17.keptP,fun h0=>fun H8 w20 hs20=>?_,fun _=>fun H8 w20 hs20=>live H8 w20 ((E.trans E17).hst hs20)⟩;have E20:Pure w0 w20:=(E.trans E17).hst hs20;have h0:er=0:=by simpa using h0
  cases hp:Sp.uG (bts s) with
  | none=>rw [hp] at hR;exact absurd h0 hR
  | some y =>
   rw [hp] at hR
   obtain ⟨hle,hnum,hline⟩:=Sp.jLF hp
   obtain ⟨hy,_⟩:=hR
   subst hy
   refine (jCV ⟨k,f,c,t,g⟩ hnum w20 (yA ht E20)).mono ?_
   rintro _ w21 ⟨_,rfl,rfl,E21⟩
   refine ⟨_,rfl,E21.keptP,fun hne=>?_,fun _=>live _ w21 (E20.trans E21)⟩
   rw [hline] at hne
   simp at hne
 have j1:∀{H:NP} {w:World},(∀b,H b→b<w.heap.size)→Pure w0 w→m_O_j1 sb s w0 H w (fun r w'=>r=true∧Pure w0 w'):=fun {H w} hH E=>by
  unfold m_O_j1;intro p3 w11 n3;have E11:Pure w0 w11:=E.trans (Ext.new n3);have bp3:=n3.at_size;have ze:=E.size;have R0:Rws w11 5 1 ⟨some p3,0,0⟩ []:=Rws.empty n3;obtain ⟨s2,w12,hr,hR,X12,_⟩:=R0.appendL (P:=prog) (ty:=25) oV (hL.pure E11) (jCY bs) (jPM bs) (by rw [zN];simp;omega) (by rw [zN];simp only [maxLen,List.length_nil];omega);rw [List.nil_append] at hR;have o2:∀b,(Sl.mk (some p3) 0 0).blk b→b=p3.block:=fun b hb=>by obtain ⟨a,ha,rfl⟩:=hb;cases ha;rfl
  have E12:Pure w0 w12:=E11.trans' X12 (fun i hi hb=>by have:=o2 i hb;omega);refine ⟨s2,w12,hr,X12.kept (fun b hb hh=>by have:=o2 b hh;have:=hH b hb;omega),?_⟩;refine (jAH s2 bs w12 hR.lst (jJN hR)).mono ?_;rintro _ w13 ⟨k,f,c,x,g,ok,rfl,hr1,E13⟩;refine ⟨k,f,c,x,g,ok,rfl,E13.keptP,fun hc=>fun H7 w16 hs16=>?_,fun _=>fun H7 w16 hs16=>j2 ((E12.trans E13).hst hs16)⟩;have E16:Pure w0 w16:=(E12.trans E13).hst hs16;rw [Bool.and_eq_true,Bool.not_eq_true'] at hc;obtain ⟨rfl,rfl⟩:=hc;obtain ⟨hnum,hle,henc⟩:=Sp.jRB hr1.symm;have henc:=henc rfl;refine (jAG ⟨k,f,c,x,false⟩ hnum w16).mono ?_;rintro _ w24 ⟨r13,r14,rfl,e14,hR14⟩;rw [henc] at e14 hR14;have E24:=E16.trans hR14.pure;refine ⟨r13,r14,rfl,hR14.pure.keptP,fun hne=>?_,fun _=>fun w25 hs25=>?_⟩
  ·rw [e14] at hne;simp at hne
  have E25:=E24.hst hs25;have L25:=(hR14.rows.ext hs25.ext (fun b hb hh=>by have:=hR14.own b hb;have:=hs16.lt b hh;omega)).lst;refine ⟨_,jSG L25,_,jSG (hL.pure E25),fun hne=>by simp at hne,fun _=>j2 E25⟩
 intro H4 w4 hs4
 refine (jPK w4).mono ?_
 rintro _ w7 ⟨_,rfl,p,rfl,E7,F,hP,hF⟩
 refine ⟨_,rfl,E7.keptP,fun h=>(by cases h),fun _=>?_⟩
 have E07:Pure w0 w7:=hs4.first.trans E7
 have z4:=hs4.first.size
 have hH4:∀b,H4 b→b<w4.heap.size:=hs4.lt
 refine (jFA p l w7 hP Sp.Wf.nil.ok).mono ?_
 rintro _ w8 ⟨r3,r4,rfl,e3,e4,F8,hP8,E8,hF8⟩
 have E08:Pure w0 w8:=E07.trans' E8 (fun i hi hf=>by have:=hF i hf;omega)
 have kF:∀b,H4 b→¬ F b:=fun b hh hb=>by have:=hF b hb;have:=hH4 b hh;omega
 have z7:=E7.size
 have kF8:∀b,H4 b→¬ F8 b:=fun b hh hb=>(hF8 b hb).elim (kF b hh) (fun h=>by have:=hH4 b hh;omega)
 refine ⟨r3,r4,rfl,E8.kept kF,?_⟩
 refine (jFA p m w8 hP8 (Sp.qD Sp.Wf.nil l).ok).mono ?_
 rintro _ w9 ⟨r5,r6,rfl,e5,e6,F9,hP9,E9,hF9⟩
 have z8:=E8.size
 have o8:∀b,F8 b→w0.heap.size≤b:=fun b hb=>(hF8 b hb).elim (fun h=>by have:=hF b h;omega) (fun h=>by omega)
 have E09:Pure w0 w9:=E08.trans' E9 (fun i hi hf=>by have:=o8 i hf;omega)
 have kF9:∀b,H4 b→¬ F9 b:=fun b hh hb=>(hF9 b hb).elim (kF8 b hh) (fun h=>by have:=hH4 b hh;omega)
 refine ⟨r5,r6,rfl,E9.kept kF8,fun h0=>?_,fun _=>fun w10 hs10=>j1 hs10.lt (E09.hst hs10)⟩
 intro w10 hs10
 have h0:(jR [] l).2.1=0:=by rw [← e4];simpa using h0
 obtain ⟨hin,hrd,htu⟩:=Sp.jUV Sp.Wf.nil (m:=m) h0
 have hle:=(Sp.bok h0 Sp.Wf.nil).1
 have E010:Pure w0 w10:=E09.hst hs10
 have hP10:jS w10 p _ F9:=hP9.ext hs10.ext (fun b hb hh=>kF9 b hh hb)
 refine (qZ p r3 w10 hP10 (Sp.qD (Sp.qD Sp.Wf.nil l) m).ok).mono ?_
 rintro _ w26 ⟨k3,f3,c3,x3,g3,ok3,rfl,hr3,E26⟩
 rw [e3,hrd] at hr3
 obtain ⟨hl3,rfl⟩:=Prod.mk.inj hr3
 refine ⟨k3,f3,c3,x3,g3,true,rfl,E26.keptP,fun H9 w28 hs28=>?_⟩
 have E028:Pure w0 w28:=(E010.trans E26).hst hs28
 obtain ⟨q1,q2⟩:=Sp.jUB hnl hle
 refine (jAG l hnl w28).mono ?_
 rintro _ w29 ⟨r16,r17,rfl,e17,hR29⟩
 rw [q1] at e17
 have E029:=E028.trans hR29.pure
 refine ⟨r16,r17,rfl,hR29.pure.keptP,?_⟩
 refine (jAH r16 _ w29 hR29.rows.lst (jJN hR29.rows)).mono ?_
 rintro _ w30 ⟨k4,f4,c4,x4,g4,ok4,rfl,hr4,E30⟩
 rw [q2] at hr4
 obtain ⟨hl4,rfl⟩:=Prod.mk.inj hr4
 refine ⟨k4,f4,c4,x4,g4,true,rfl,E30.keptP,fun H10 w32 hs32=>?_⟩
 have E032:Pure w0 w32:=(E029.trans E30).hst hs32
 refine (jCV l hnl w32 (yA ht E032)).mono ?_
 rintro _ w33 ⟨_,rfl,rfl,E33⟩
 have E033:=E032.trans E33
 refine ⟨_,rfl,E33.keptP,?_⟩
 have hll:=Sp.jOC hle hnl
 refine (jHK ⟨(Sp.xL l).toArray⟩ (by simp [bts];omega) w33 (fun w' E'=>hv w' (E033.trans E'))).mono ?_
 rintro _ w34 ⟨k5,f5,c5,x5,g5,er5,at5,rfl,hR5,E34⟩
 have hbt:bts ⟨(Sp.xL l).toArray⟩=Sp.xL l:=rfl
 rw [hbt,Sp.jNM hle hnl] at hR5
 obtain ⟨hl5,rfl⟩:=hR5
 refine ⟨k5,f5,c5,x5,g5,0,at5,rfl,E34.keptP,?_⟩
 intro y2 hy2
 rw [jNU hl3,jNU hl4,jNU hl5,e17,jTW] at hy2
 have hy2:y2=false:=by
  rw [hy2];cases h6:(r6 == 0) with
  | false=>rfl
  | true =>
   have h6:r6=0:=by simpa using h6
   have:=htu (by rw [← e6];exact h6)
   rw [← e3,← e5] at this
   by_cases hlm:l=m
   ·have h35:=this.2 hlm
    simp [hlm,h35]
   ·have h35:¬ r3=r5:=fun h=>hlm (this.1 h)
    simp [hlm,h35]
 refine ⟨fun h=>(by rw [hy2] at h;cases h),fun _=>fun H19 w49 hs49=>j1 hs49.lt ((E033.trans E34).hst hs49)⟩
end Go.Proofs
end
section
namespace Go.SE
open Go.ChangeShapes Go.WideShapes Go.ChangeAt Go.RowKit
section
variable {H:Type} {enc:TypeId×Value→H} {P:Program}
theorem tP (hl:laidOutB P=true) {W W':World} (hb:Below W.heap.size W W'):∀(ts:List TypeId) (vs:List Value) (ds:List (DataW H)) (ps:List MemPlace),(ts.all fun t=>P.readableRec t && decide (t<P.types.size))=true →
  DataW.TrodAll enc P W 0 (fun _=>true) true ts vs ds ps→(∀x∈ps,x.block<W.heap.size)→DataW.TrodAll enc P W' 0 (fun b=>decide (b<W.heap.size)) true ts vs ds ps
 | [],_,_,_,_,h,_=>by
  obtain ⟨rfl,rfl,rfl⟩:=trodAll_nil h;exact h
 | t :: ts,_,_,_,hr,h,hlt=>by
  obtain ⟨v,vs1,d,ds1,a,b,rfl,rfl,rfl,h1,h2⟩:=trodAll_cons h;simp only [List.all_cons,Bool.and_eq_true,decide_eq_true_eq] at hr;exact ⟨a,b,Below.trod hl hr.1.1 hr.1.2 h1 hb (fun x hx=>hlt x (by simp [hx])),tP hl hb ts vs1 ds1 b (by simpa using hr.2) h2 (fun x hx=>hlt x (by simp [hx])),rfl⟩
theorem jRG {f:Func} {s:ChangeSpec} {W W':World} {args:Array Value} {ds gs:List (DataW H)} {before:List MemPlace} {t:TypeId} (hl:laidOutB P=true)
  (hv:s.vars=[]) (hf:∀ds:List (DataW H),ds.length=f.params.size→s.fn H ds={ results:=[.lit (.bool true)],args:=ds }) (hrt:f.resultTypes=#[t]) (ht:P.underlying t=some .bool)
  (hr:(f.params.toList.all fun t=>P.readableRec t && decide (t<P.types.size))=true)
  (hW:DataW.Whole enc P f.params.toList s.vars false W args.toList ds gs before) (E:Pure W W') :
  s.post enc P f false true false false W args (.bool true) W':=by
 have hW':=hW
 obtain ⟨p,q,hA,hV,rfl,hfz,hnd⟩:=hW
 rw [hv] at hV
 obtain ⟨rfl,rfl⟩:=trodVars_none hV
 have hlen:ds.length=f.params.size:=by
  have:∀(ts:List TypeId) (vs:List Value) (ds:List (DataW H)) (ps:List MemPlace),DataW.TrodAll enc P W 0 (fun _=>true) true ts vs ds ps→ds.length=ts.length:=by
   intro ts;induction ts with
   | nil=>intro vs ds ps h;obtain ⟨_,rfl,_⟩:=trodAll_nil h;rfl
   | cons t ts ih =>
    intro vs ds ps h
    obtain ⟨v,vs1,d,ds1,a,b,_,rfl,_,_,h2⟩:=trodAll_cons h
    simp [ih _ _ _ h2]
  simpa using this _ _ _ _ hA
 have hfn:=hf ds hlen
 have hfn':s.fn H (ds++[])={ results:=[.lit (.bool true)],args:=ds }:=by rw [List.append_nil];exact hfn
 have hlt:∀x∈p,x.block<W.heap.size:=fun x hx=>by simpa using hW'.lt x (by simp [hx])
 have bel:=E.below
 refine ⟨ds,[],p++[],[],p,[],hW',?_,?_,?_,bel.frame _,fun h=>by cases h⟩
 ·rw [hfn',hrt];exact trodAll_mk1 (shut_bool ht _)
 ·rw [hfn'];exact tP hl bel _ _ _ _ hr hA hlt
 ·rw [hfn',hv];exact hV
end
end Go.SE
namespace Go.SE
open Go.ChangeShapes Go.WideShapes Go.ChangeAt Go.RowKit
section
variable {P:Program} {W:World} {r:Reach} {b0:Nat} {t:TypeId} {v:Value}
theorem jAO {fs:Array Field} {ts:List TypeId} (ht:P.underlying t=some (.struct fs)) (hc:P.cellTypes P.depth t=some ts) (hn:P.cellsOf t=ts.length) (h:Value.okWide P W r b0 t v) :
  ∃cs:Array Value,v=.agg cs∧cs.size=ts.length∧∀(i:Nat) (u:TypeId) (c:Value),ts[i]?=some u→cs[i]?=some c→Cell.okWide P W r b0 u c:=by
 unfold Value.okWide at h
 rw [ht] at h
 obtain ⟨cs,rfl,hs,ts',hts,_,hall⟩:=h
 rw [hc] at hts
 cases hts
 refine ⟨cs,rfl,hs.trans hn,fun i u c hu hcs=>?_⟩
 obtain ⟨u',hu',hok⟩:=hall i c hcs
 have hlt:i<ts.length:=(List.getElem?_eq_some_iff.1 hu).1
 rw [Nat.mod_eq_of_lt hlt,hu] at hu'
 cases hu'
 exact hok
theorem jEZ (ht:P.underlying t=some .string) (h:Cell.okWide P W r b0 t v):∃x,v=.string x:=by
 have:Value.okWide P W r b0 t v:=by unfold Value.okWide;rw [ht];exact h
 unfold Cell.okWide at h;rw [ht] at h;cases v <;> simp [Cell.ok,ht] at h;exact ⟨_,rfl⟩
theorem jNO {e:TypeId} (ht:P.underlying t=some (.slice e)) (h:Value.okWide P W r b0 t v):∃a n c,v=.slice a n c:=by
 unfold Value.okWide at h;rw [ht] at h;simp only at h;unfold Cell.okWide at h;rw [ht] at h;cases v <;> simp [Cell.ok,ht] at h;exact ⟨_,_,_,rfl⟩
end
end Go.SE
end
section
open Go Go.SE
namespace Go.Proofs
theorem tY {α β:Type} {f:α→Option β}:∀{l:List α} {r:List β},l.mapM f=some r→r.length=l.length∧∀(i:Nat) (a:α),l[i]?=some a→∃b,f a=some b∧r[i]?=some b
 | [],r,h=>by
  have:r=[]:=by simpa using h.symm
  subst this;exact ⟨rfl,fun i a h=>by simp at h⟩
 | x :: xs,r,h=>by
  rw [List.mapM_cons] at h;cases hx:f x with
  | none=>simp [hx] at h
  | some y =>
   cases hxs:xs.mapM f with
   | none=>simp [hx,hxs] at h
   | some ys =>
    have:r=y :: ys:=by simpa [hx,hxs] using h.symm
    subst this
    obtain ⟨h1,h2⟩:=tY hxs
    refine ⟨by simp [h1],fun i a ha=>?_⟩
    cases i with
    | zero=>cases ha;exact ⟨y,hx,rfl⟩
    | succ i=>exact h2 i a (by simpa using ha)
theorem jOY {w:World} {base:Nat} {a:Addr} {n:Nat} {cs:List Value} (h:w.cells? base a n=some cs):cs.length=n∧Row w a cs:=by
 obtain ⟨_,h1,h2⟩:=World.cells?_some h;exact ⟨h1,fun j hj=>h2 j (by omega)⟩
section
variable {H:Type} {enc:TypeId×Value→H} {P:Program} {W:World} {base:Nat} {sp:Nat→Bool} {held:Bool}
theorem jFM {t:TypeId} {k:IntKind} (ht:P.underlying t=some (.int k)) {n:Nat} {c:Value} {x:DataW H×List MemPlace} (h:DataW.trod enc P W base sp held n t [c]=some x):∃m,c=.int k m:=by
 cases n with
 | zero=>cases h
 | succ n =>
  rw [DataW.trod_step] at h
  unfold DataW.trodStep at h
  rw [ht] at h
  cases c <;> simp at h
  obtain ⟨⟨rfl,_⟩,_⟩:=h
  exact ⟨_,rfl⟩
theorem jPY {t:TypeId} (ht:P.underlying t=some (.int .u64)) {n:Nat} {c:Value} {x:DataW H×List MemPlace} (h:DataW.trod enc P W base sp held n t [c]=some x):∃m,c=.int .u64 m∧Sp.vU m:=by
 cases n with
 | zero=>cases h
 | succ n =>
  rw [DataW.trod_step] at h
  unfold DataW.trodStep at h
  rw [ht] at h
  cases c with
  | int k z =>
   simp only at h
   split at h
   ·rename_i hw
    obtain ⟨rfl,hw⟩:=hw
    have h1:IntKind.u64.min=0:=by rfl
    have h2:IntKind.u64.max=18446744073709551615:=by rfl
    simp only [Lit.wf,Bool.and_eq_true,decide_eq_true_eq,h1,h2] at hw
    exact ⟨z,rfl,by omega,by omega⟩
   ·cases h
  | _=>simp at h
theorem jMS {t:TypeId} (ht:P.underlying t=some .string) {n:Nat} {c:Value} {x:DataW H×List MemPlace} (h:DataW.trod enc P W base sp held n t [c]=some x):∃m,c=.string m:=by
 cases n with
 | zero=>cases h
 | succ n =>
  rw [DataW.trod_step] at h
  unfold DataW.trodStep at h
  rw [ht] at h
  cases c <;> simp at h
  exact ⟨_,rfl⟩
theorem jBU {t e:TypeId} (ht:P.underlying t=some (.slice e)) {n:Nat} {c:Value} {x:DataW H×List MemPlace} (h:DataW.trod enc P W base sp held (n+1) t [c]=some x) :
  c=.slice none 0 0∨∃a len cap,c=.slice (some a) len cap∧len≤cap∧cap≤maxLen∧∀i,i<len→∃cs y,W.cells? base (a.add (i*P.cellsOf e)) (P.cellsOf e)=some cs∧DataW.trod enc P W base sp held n e cs=some y:=by
 rw [DataW.trod_step] at h
 unfold DataW.trodStep at h
 rw [ht] at h
 cases c with
 | slice a len cap =>
  cases a with
  | none =>
   cases len with
   | zero=>cases cap with
    | zero=>exact .inl rfl
    | succ c=>simp at h
   | succ l=>simp at h
  | some a =>
   right
   simp only at h
   split at h
   ·rename_i hc
    refine ⟨a,len,cap,rfl,hc.2.1,hc.2.2,fun i hi=>?_⟩
    cases hm:(List.range len).mapM fun i=>(W.cells? base (a.add (i*P.cellsOf e)) (P.cellsOf e)).bind (DataW.trod enc P W base sp held n e) with
    | none=>rw [hm] at h;cases h
    | some r =>
     obtain ⟨b,hb,_⟩:=(tY hm).2 i i (by simp [hi])
     obtain ⟨cs,h1,h2⟩:=Option.bind_eq_some_iff.1 hb
     exact ⟨cs,b,h1,h2⟩
   ·cases h
 | _=>simp at h
end
end Go.Proofs
end
section
open Go Go.SE
namespace Go.Sp
def Dep (L:Pool) (S:List Way) (t y:Int):Prop :=
 (∃v∈S,v.t=t∧v.rule≠0∧y=v.frm)∨(t ∉ lT S∧0<y∧(y=(jTV L S t).1∨y=(jTV L S t).2.1))
inductive Dp (L:Pool) (S:List Way):Int→Int→Prop
 | refl (t:Int):Dp L S t t
 | step {t y z:Int}:Dep L S t y→Dp L S y z→Dp L S t z
theorem Dep.made {L:Pool} {S:List Way} {t y a b:Int} {f m:Bool} (h:jTV L S t=(a,b,f,m)) (ht:t ∉ lT S):Dep L S t y↔0<y∧(y=a∨y=b):=by
 unfold Dep;rw [h];constructor
 ·rintro (⟨v,hv,rfl,_⟩ | ⟨_,h⟩)
  ·exact absurd (List.mem_map.2 ⟨v,hv,rfl⟩) ht
  ·exact h
 ·exact fun h=>.inr ⟨ht,h⟩
theorem Dep.way {L:Pool} {S:List Way} {t y r f:Int} (hn:(lT S).Nodup) (hl:SE.look (S.map fun v=>(v.t,(v.rule,v.frm))) t=some (r,f)):Dep L S t y↔r≠0∧y=f:=by
 have hm:=tF hl;obtain ⟨v,hv,e⟩:=List.mem_map.1 hm;simp only [Prod.mk.injEq] at e;obtain ⟨rfl,rfl,rfl⟩:=e;have hk:v.t∈lT S:=List.mem_map.2 ⟨v,hv,rfl⟩;unfold Dep;constructor
 ·rintro (⟨u,hu,e,hr,rfl⟩ | ⟨h,_⟩)
  ·have hnd:((S.map fun v=>(v.t,(v.rule,v.frm))).map Prod.fst).Nodup:=by rw [List.map_map];exact hn
   have h2:=jIJ hnd (List.mem_map.2 ⟨u,hu,rfl⟩);rw [e,hl] at h2;simp only [Option.some.injEq,Prod.mk.injEq] at h2;exact ⟨by rw [h2.1];exact hr,h2.2.symm⟩
  ·exact absurd hk h
 ·rintro ⟨h1,rfl⟩;exact .inl ⟨v,hv,rfl,h1,rfl⟩
theorem Dp.all {L:Pool} {S:List Way} {M:List Step} (hc:∀s∈M,∀y,Dep L S s.t y→y∈M.map Step.t) {t x:Int} (ht:t∈M.map Step.t) (h:Dp L S t x):x∈M.map Step.t:=by
 induction h with
 | refl=>exact ht
 | step hd _ ih =>
  obtain ⟨s,hs,rfl⟩:=List.mem_map.1 ht
  exact ih (hc s hs _ hd)
end Go.Sp
namespace Go.Proofs
attribute [local irreducible] Calls
section
variable {w w':World} {k p c1 c2 c3 c4 c5:Addr} {ma mb:Nat} {L:Sp.Pool} {G:List Int} {S:List Sp.Way} {F FP:NP} {sl:Sl} {l:List Sp.Step} {B:List Int}
end
section
variable {w0 w w':World} {H H':NP} {k p c1 c2 c3 c4 c5:Addr} {ma mb:Nat} {L:Sp.Pool} {G:List Int} {S:List Sp.Way} {F FP:NP} {sl sl1 sl2:Sl} {l M M2:List Sp.Step} {B0 B B2:List Int} {t:Int}
end
end Go.Proofs
end
section
open Go Go.SE
namespace Go.Proofs
section
variable {H:Type} {enc:TypeId×Value→H} {P:Program} {W:World} {base:Nat} {sp:Nat→Bool} {held:Bool}
theorem row_lt {a:Addr} {v:Value} {vs:List Value} (h:Row W a (v :: vs)):a.block<W.heap.size:=by
 have:=h 0 (by simp);have:=World.block_lt_of_cell? W (a.add 0) this;rwa [zA] at this
theorem jGM {α:Type} {tS e:TypeId} {sz:Nat} {f:α→List Value} (hS:P.underlying tS=some (.slice e)) (hc:P.cellsOf e=sz) (hf:∀a,∃v vs,f a=v :: vs) (x0:α)
  (hel:∀(n:Nat) (cs:List Value) (x:DataW H×List MemPlace),DataW.trod enc P W base sp held n e cs=some x→∃a,cs=f a) {n:Nat} {c:Value} {x:DataW H×List MemPlace} (h:DataW.trod enc P W base sp held n tS [c]=some x) :
  ∃s:Sl,∃xs:List α,c=s.v∧Lst (fun b=>b<W.heap.size) W sz s (xs.map f):=by
 cases n with
 | zero=>cases h
 | succ n =>
  rcases jBU hS h with rfl | ⟨a,len,cap,rfl,hle,hcm,hall⟩
  ·exact ⟨Sl.nil,[],rfl,⟨rfl,fun i hi=>by simp at hi⟩⟩
  ·rw [hc] at hall
   have hex:∀i,∃q:α,i<len→Row W (a.add (i*sz)) (f q):=by
    intro i;by_cases hi:i<len
    ·obtain ⟨cs,y,h1,h2⟩:=hall i hi;obtain ⟨q,rfl⟩:=hel n cs y h2;exact ⟨q,fun _=>(jOY h1).2⟩
    ·exact ⟨x0,fun h=>absurd h hi⟩
   obtain ⟨q,hq⟩:=Classical.axiomOfChoice hex
   refine ⟨⟨some a,len,cap⟩,(List.range len).map q,rfl,⟨by simp,fun i hi=>?_⟩⟩
   have hi:i<len:=by simpa using hi
   have hr:=hq i hi
   obtain ⟨v,vs,e⟩:=hf (q i)
   refine ⟨a.add (i*sz),⟨by omega,by simpa using hi,a,rfl,by simp⟩,?_,by simpa using hr⟩
   rw [e] at hr;exact row_lt hr
theorem jHU {t:TypeId} {fs:Array Field} (ht:P.underlying t=some (.struct fs)) {n:Nat} {cs:List Value} {x:DataW H×List MemPlace} (h:DataW.trod enc P W base sp held n t cs=some x) :
  ∃m,cs.length=P.cellsOf t∧∀(i:Nat) (f:Field),fs.toList[i]?=some f→∃y,DataW.trod enc P W base sp held m f.type ((cs.drop f.offset).take (P.cellsOf f.type))=some y:=by
 cases n with
 | zero=>cases h
 | succ n =>
  rw [DataW.trod_step] at h
  unfold DataW.trodStep at h
  rw [ht] at h
  simp only at h
  split at h
  ·rename_i hl
   cases hm:fs.toList.mapM (fun f=>DataW.trod enc P W base sp held n f.type ((cs.drop f.offset).take (P.cellsOf f.type))) with
   | none=>rw [hm] at h;cases h
   | some r =>
    refine ⟨n,hl,fun i f hf=>?_⟩
    obtain ⟨b,hb,_⟩:=(tY hm).2 i f hf
    exact ⟨b,hb⟩
  ·cases h
end
section
variable {H:Type} {enc:TypeId×Value→H} {W:World} {base:Nat} {sp:Nat→Bool} {held:Bool}
end
end Go.Proofs
end
section
open Go Go.SE
namespace Go.SE
theorem Rws.lit {w w':World} {p:Addr} {cs:Array Value} {e:TypeId} {sz:Nat} {rs:List (List Value)} (hn:New w (.cells cs e) p w') (hc:cs.toList=rs.flatten) (hl:∀r∈rs,r.length=sz) (hm:rs.length≤maxLen):Rws w' e sz ⟨some p,rs.length,rs.length⟩ rs:=by
 obtain ⟨hp,hw⟩:=hn;have hsz:cs.size=rs.length*sz:=by rw [← zK hl,← hc,Array.length_toList]
 refine ⟨hl,rfl,.inr ⟨w.heap.size,cs,by rw [hp],?_,Nat.le_refl _,hm,hsz,?_⟩⟩
 ·rw [hw];exact heap_alloc_new w _
 ·rw [hc,List.take_of_length_le (by rw [zK hl];exact Nat.le_refl _)]
end Go.SE
namespace Go.Proofs
def lrow (l:Sp.Letter):List Value:=[.int .i64 l.kind,.int .i64 l.frm,.int .u64 l.c,.string l.text,.bool l.fake]
end Go.Proofs
end
section
open Go Go.SE
namespace Go.Proofs
open Tryz
section
variable {H:Type} {enc:TypeId×Value→H} {P:Program} {W:World} {base:Nat} {sp:Nat→Bool} {held:Bool}
theorem jKS {t:TypeId} (ht:P.underlying t=some .bool) {n:Nat} {c:Value} {x:DataW H×List MemPlace} (h:DataW.trod enc P W base sp held n t [c]=some x):∃m,c=.bool m:=by
 cases n with
 | zero=>cases h
 | succ n =>
  rw [DataW.trod_step] at h
  unfold DataW.trodStep at h
  rw [ht] at h
  cases c <;> simp at h
  exact ⟨_,rfl⟩
end
theorem jDD {P:Program} {W:World} {r:Reach} {b0:Nat} {t:TypeId} {v:Value} (ht:P.underlying t=some .string) (h:Value.okWide P W r b0 t v):∃x,v=.string x :=
 jEZ ht (by unfold Value.okWide at h;rw [ht] at h;exact h)
set_option maxRecDepth 100000 in
theorem jAR {H:Type} {enc:TypeId×Value→H} {W:World} {base:Nat} {sp:Nat→Bool} {held:Bool} {n:Nat} {cs:List Value} {x:DataW H×List MemPlace} (h:DataW.trod enc prog W base sp held n 24 cs=some x):∃l:Sp.Letter,cs=lrow l∧Sp.vU l.c:=by
 obtain ⟨m,hl,hf⟩:=jHU underlying24 h;rw [show (prog.cellsOf 24)=5 by kernel_rfl] at hl;match cs,hl with
 | [c0,c1,c2,c3,c4],_ =>
  obtain ⟨_,h0⟩:=hf 0 _ rfl
  obtain ⟨_,h1⟩:=hf 1 _ rfl
  obtain ⟨_,h2⟩:=hf 2 _ rfl
  obtain ⟨_,h3⟩:=hf 3 _ rfl
  obtain ⟨_,h4⟩:=hf 4 _ rfl
  simp only [show (prog.cellsOf 3)=1 by kernel_rfl,show (prog.cellsOf 22)=1 by kernel_rfl,show (prog.cellsOf 9)=1 by kernel_rfl,show (prog.cellsOf 4)=1 by kernel_rfl] at h0 h1 h2 h3 h4
  obtain ⟨m0,rfl⟩:=jFM underlying3 h0
  obtain ⟨m1,rfl⟩:=jFM underlying3 h1
  obtain ⟨m2,rfl,hm⟩:=jPY underlying22 h2
  obtain ⟨m3,rfl⟩:=jMS underlying9 h3
  obtain ⟨m4,rfl⟩:=jKS underlying4 h4
  exact ⟨⟨m0,m1,m2,m3,m4⟩,rfl,hm⟩
end Go.Proofs
end
section
open Go Go.SE
namespace Go.Proofs
section
variable {H:Type} {enc:TypeId×Value→H} {P:Program} {W:World} {base:Nat} {sp:Nat→Bool} {held:Bool}
theorem jFB {tS e:TypeId} (hS:P.underlying tS=some (.slice e)) (he:P.underlying e=some (.int .u8)) (hc:P.cellsOf e=1) {v:Value} {d:DataW H} {ps:List MemPlace} (h:DataW.Trod enc P W base sp held tS v d ps) (hv:∃a n c,v=.slice a n c) :
  ∃s:Sl,∃bs:List UInt8,v=s.v∧Lst (fun b=>b<W.heap.size) W 1 s (byr bs)∧(s.a=none→s=Sl.nil):=by
 obtain ⟨n,h⟩:=h
 obtain ⟨a,m,c,rfl⟩:=hv
 have hz:=h
 have:=jGM (f:=fun b:UInt8=>[Value.int .u8 (b.toNat:Int)]) hS hc (fun a=>⟨_,_,rfl⟩) 0 (fun n cs x h=>?_) h
 ·obtain ⟨s,bs,e1,hL⟩:=this
  refine ⟨s,bs,e1,hL,fun hn=>?_⟩
  cases n with
  | zero=>cases hz
  | succ n =>
   change DataW.trod enc P W base sp held (n+1) tS [_]=_ at hz
   rcases jBU hS hz with e2 | ⟨a',l',c',e2,_⟩
   ·rw [e1] at e2
    obtain ⟨sa,sl,sc⟩:=s
    simp only [Sl.v,Value.slice.injEq] at e2
    obtain ⟨rfl,rfl,rfl⟩:=e2;rfl
   ·rw [e1] at e2
    obtain ⟨sa,sl,sc⟩:=s
    simp only [Sl.v,Value.slice.injEq] at e2
    simp only at hn
    rw [hn] at e2
    cases e2.1
 ·cases n with
  | zero=>cases h
  | succ n =>
   rw [DataW.trod_step] at h
   unfold DataW.trodStep at h
   rw [he] at h
   cases cs with
   | nil=>simp at h
   | cons c l =>
    cases l with
    | cons c2 l2=>cases c <;> simp at h
    | nil =>
     cases c with
     | int k z =>
      simp only at h
      split at h
      ·rename_i hw
       obtain ⟨rfl,hw⟩:=hw
       have hr:0≤z∧z<256:=by
        have h1:IntKind.u8.min=0:=by rfl
        have h2:IntKind.u8.max=255:=by rfl
        simp only [Lit.wf,Bool.and_eq_true,decide_eq_true_eq,h1,h2] at hw;omega
       refine ⟨UInt8.ofNat z.toNat,?_⟩
       have:((UInt8.ofNat z.toNat).toNat:Int)=z:=by simp [UInt8.toNat_ofNat];omega
       rw [this]
      ·cases h
     | _=>simp at h
end
end Go.Proofs
end
