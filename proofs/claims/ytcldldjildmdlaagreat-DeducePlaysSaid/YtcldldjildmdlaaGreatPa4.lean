import Derived.Test.YtcldldjildmdlaaGreatPa3
import Derived.Test.YtcldldjildmdlaaGreatProg
import Derived.KernelRfl
import Derived.Test.YtcldldjildmdlaaGreatPa2
section
open Go Go.SE
namespace Go.Sp
def Dep (L:Pool) (S:List Way) (t y:Int):Prop :=
 (∃v∈S,v.t=t∧v.rule≠0∧y=v.frm)∨(t ∉ jG S∧0<y∧(y=(qN L S t).1∨y=(qN L S t).2.1))
inductive Dp (L:Pool) (S:List Way):Int→Int→Prop
 | refl (t:Int):Dp L S t t
 | step {t y z:Int}:Dep L S t y→Dp L S y z→Dp L S t z
theorem Dep.made {L:Pool} {S:List Way} {t y a b:Int} {f m:Bool} (h:qN L S t=(a,b,f,m)) (ht:t ∉ jG S):Dep L S t y↔0<y∧(y=a∨y=b):=by
 unfold Dep;rw [h];constructor
 ·rintro (⟨v,hv,rfl,_⟩ | ⟨_,h⟩)
  ·exact absurd (List.mem_map.2 ⟨v,hv,rfl⟩) ht
  ·exact h
 ·exact fun h=>.inr ⟨ht,h⟩
theorem Dep.way {L:Pool} {S:List Way} {t y r f:Int} (hn:(jG S).Nodup) (hl:SE.look (S.map fun v=>(v.t,(v.rule,v.frm))) t=some (r,f)):Dep L S t y↔r≠0∧y=f:=by
 have hm:=qB hl;obtain ⟨v,hv,e⟩:=List.mem_map.1 hm;simp only [Prod.mk.injEq] at e;obtain ⟨rfl,rfl,rfl⟩:=e;have hk:v.t∈jG S:=List.mem_map.2 ⟨v,hv,rfl⟩;unfold Dep;constructor
 ·rintro (⟨u,hu,e,hr,rfl⟩ | ⟨h,_⟩)
  ·have hnd:((S.map fun v=>(v.t,(v.rule,v.frm))).map Prod.fst).Nodup:=by rw [List.map_map];exact hn
   have h2:=tA hnd (List.mem_map.2 ⟨u,hu,rfl⟩);rw [e,hl] at h2;simp only [Option.some.injEq,Prod.mk.injEq] at h2;exact ⟨by rw [h2.1];exact hr,h2.2.symm⟩
  ·exact absurd hk h
 ·rintro ⟨h1,rfl⟩;exact .inl ⟨v,hv,rfl,h1,rfl⟩
theorem Dp.all {L:Pool} {S:List Way} {M:List Step} (hc:∀s∈M,∀y,Dep L S s.t y→y∈M.map Step.t) {t x:Int} (ht:t∈M.map Step.t) (h:Dp L S t x):x∈M.map Step.t:=by
 induction h with
 | refl=>exact ht
 | step hd _ ih =>
  obtain ⟨s,hs,rfl⟩:=List.mem_map.1 ht
  exact ih (hc s hs _ hd)
end Go.Sp
namespace Go.Proofs
open Tryz
attribute [local irreducible] Calls
def uD (s:Sp.Step):List Value:=[.int .i64 s.rule,.int .i64 s.a,.int .i64 s.b,.int .i64 s.t]
theorem jDI:SlType prog 101 157 4 32:=by
 refine ⟨underlying101,⟨t157,_,by kernel_rfl,(by kernel_rfl:t157.zero=some (.agg #[.int .i64 0,.int .i64 0,.int .i64 0,.int .i64 0])),by kernel_rfl,by kernel_rfl,rfl⟩,by omega⟩
def tru (_:Unit):Value:=.bool true
def jEI (B:List Int):List (Int×Unit):=B.map fun t=>(t,())
theorem oK (B:List Int):(jEI B).map Prod.fst=B:=by
 unfold jEI;rw [List.map_map];exact List.map_id' B
theorem jCV (B:List Int) (t:Int):jEI (B++[t])=jEI B++[(t,())]:=by simp [jEI]
def PW (ma mb:Nat) (c5:Addr) (sl:Sl) (b:Nat):Prop:=b=ma∨b=mb∨b=c5.block∨sl.blk b
def says (f:FuncId) (c1 c2 c3 c4 c5:Addr):Value:=.func (.func f) #[] #[.pointer (some c1),.pointer (some c2),.pointer (some c3),.pointer (some c4),.pointer (some c5)]
structure PrfAt (w:World) (k:Addr) (c1 c2 c3 c4 c5:Addr) (ma mb:Nat) (sl:Sl) (l:List Sp.Step) (B:List Int):Prop where
 a1:w.cell? c1=some (.map (some ma))
 a2:w.cell? c2=some (.map (some mb))
 a3:w.cell? c3=some (.pointer (some k))
 a4:w.cell? c4=some (says 92 c1 c2 c3 c4 c5)
 a5:Box w c5 [sl.v] 101
 am:IMap oS w ma (Sp.jDA l)
 bm:IMap tru w mb (jEI B)
 ls:Rws w 157 4 sl (l.map uD)
 d:∀b,PW ma mb c5 sl b→b≠c1.block∧b≠c2.block∧b≠c3.block∧b≠c4.block
 n1:ma≠mb
 n2:ma≠c5.block
 n3:mb≠c5.block
 n4:¬ sl.blk ma
 n5:¬ sl.blk mb
 n6:¬ sl.blk c5.block
structure SaysAt (w:World) (k p:Addr) (c1 c2 c3 c4 c5:Addr) (ma mb:Nat) (L:Sp.Pool) (G:List Int) (S:List Sp.Way) (F FP:NP) (sl:Sl) (l:List Sp.Step) (B:List Int):Prop where
 prf:PrfAt w k c1 c2 c3 c4 c5 ma mb sl l B
 know:zD w k p G S F
 pool:jN w p L FP
 dF:∀b,F b→¬ PW ma mb c5 sl b
 dP:∀b,FP b→¬ PW ma mb c5 sl b
section
variable {w w':World} {k p c1 c2 c3 c4 c5:Addr} {ma mb:Nat} {L:Sp.Pool} {G:List Int} {S:List Sp.Way} {F FP:NP} {sl:Sl} {l:List Sp.Step} {B:List Int}
theorem PrfAt.ext {X:NP} (h:PrfAt w k c1 c2 c3 c4 c5 ma mb sl l B) (hE:Ext X w w') (h1:∀b,PW ma mb c5 sl b→¬ X b) (x1:¬ X c1.block) (x2:¬ X c2.block) (x3:¬ X c3.block) (x4:¬ X c4.block):PrfAt w' k c1 c2 c3 c4 c5 ma mb sl l B :=
 ⟨hE.cell h.a1 x1,hE.cell h.a2 x2,hE.cell h.a3 x3,hE.cell h.a4 x4,h.a5.ext hE (h1 _ (.inr (.inr (.inl rfl)))),h.am.ext hE (h1 _ (.inl rfl)),h.bm.ext hE (h1 _ (.inr (.inl rfl))),h.ls.ext hE (fun b hb=>h1 b (.inr (.inr (.inr hb)))),h.d,h.n1,h.n2,h.n3,h.n4,h.n5,h.n6⟩
theorem PrfAt.lt (h:PrfAt w k c1 c2 c3 c4 c5 ma mb sl l B) {b:Nat} (hb:PW ma mb c5 sl b):b<w.heap.size:=by
 rcases hb with rfl | rfl | rfl | hb
 ·exact h.am.lt
 ·exact h.bm.lt
 ·exact h.a5.lt
 ·exact h.ls.lt hb
theorem SaysAt.ext {X:NP} {n:Nat} (h:SaysAt w k p c1 c2 c3 c4 c5 ma mb L G S F FP sl l B) (hE:Ext X w w') (hn:∀b,X b→n≤b) (z1:∀b,PW ma mb c5 sl b→b<n∨¬ X b) (zc:c1.block<n∧c2.block<n∧c3.block<n∧c4.block<n) (zF:∀b,F b→b<n) (zP:∀b,FP b→b<n):SaysAt w' k p c1 c2 c3 c4 c5 ma mb L G S F FP sl l B:=by
 have hx:∀b,b<n→¬ X b:=fun b hb hX=>by have:=hn b hX;omega
 exact ⟨h.prf.ext hE (fun b hb=>(z1 b hb).elim (hx b) id) (hx _ zc.1) (hx _ zc.2.1) (hx _ zc.2.2.1) (hx _ zc.2.2.2),h.know.ext hE (fun b hb=>hx b (zF b hb)),h.pool.ext hE (fun b hb=>hx b (zP b hb)),h.dF,h.dP⟩
theorem SaysAt.pure (h:SaysAt w k p c1 c2 c3 c4 c5 ma mb L G S F FP sl l B) (E:Pure w w'):SaysAt w' k p c1 c2 c3 c4 c5 ma mb L G S F FP sl l B :=
 ⟨h.prf.ext E (fun _ _ h=>h) (fun h=>h) (fun h=>h) (fun h=>h) (fun h=>h),h.know.pure E,h.pool.pure E,h.dF,h.dP⟩
theorem SaysAt.zc (h:SaysAt w k p c1 c2 c3 c4 c5 ma mb L G S F FP sl l B):c1.block<w.heap.size∧c2.block<w.heap.size∧c3.block<w.heap.size∧c4.block<w.heap.size :=
 ⟨World.block_lt_of_cell? w _ h.prf.a1,World.block_lt_of_cell? w _ h.prf.a2,World.block_lt_of_cell? w _ h.prf.a3,World.block_lt_of_cell? w _ h.prf.a4⟩
theorem PrfAt.bar (h:PrfAt w k c1 c2 c3 c4 c5 ma mb sl l B) (t:Int):∃w',(Instr.mapUpdate 153 (.map (some mb)) (.int .i64 t) (.bool true)).run prog w=.ok () w'∧(∃B',(B'=B∨B'=B++[t])∧PrfAt w' k c1 c2 c3 c4 c5 ma mb sl l B')∧Ext (·=mb) w w':=by
 have hd:=h.d mb (.inr (.inl rfl));have back:∀{w':World} {B':List Int},IMap tru w' mb (jEI B')→Ext (·=mb) w w'→PrfAt w' k c1 c2 c3 c4 c5 ma mb sl l B':=fun hI hE =>
  ⟨hE.cell h.a1 (fun e=>hd.1 e.symm),hE.cell h.a2 (fun e=>hd.2.1 e.symm),hE.cell h.a3 (fun e=>hd.2.2.1 e.symm),hE.cell h.a4 (fun e=>hd.2.2.2 e.symm),h.a5.ext hE (fun e=>h.n3 e.symm),h.am.ext hE h.n1,hI,h.ls.ext hE (fun b hb e=>h.n5 (e▸hb)),h.d,h.n1,h.n2,h.n3,h.n4,h.n5,h.n6⟩
 cases hl:SE.look (jEI B) t with
 | none =>
  obtain ⟨w',h1,h2,h3⟩:=h.bm.put (P:=prog) (T:=153) underlying153 underlying30 hl ()
  exact ⟨w',h1,⟨_,.inr rfl,back (by rw [jCV];exact h2) h3⟩,h3⟩
 | some v =>
  cases v
  obtain ⟨w',h1,h2,h3⟩:=h.bm.again (P:=prog) (T:=153) underlying153 underlying30 hl
  exact ⟨w',h1,⟨_,.inl rfl,back h2 h3⟩,h3⟩
theorem PrfAt.barred (h:PrfAt w k c1 c2 c3 c4 c5 ma mb sl l B) (t:Int):(Instr.lookup 153 (.map (some mb)) (.int .i64 t) false).run prog w=.ok (.bool (decide (t∈B))) w:=by
 rcases h.bm.get (P:=prog) (T:=153) underlying153 underlying30 (zeroValue4 _) t false with ⟨h1,h2⟩ | ⟨v,h1,h2⟩
 ·have hn:t ∉ B:=by have:=vI.1 h1;rwa [oK] at this
  rw [decide_eq_false hn];exact h2
 ·have hy:t∈B:=by have:=qB h1;rw [← oK B];exact List.mem_map.2 ⟨_,this,rfl⟩
  rw [decide_eq_true hy];exact h2
end
structure SaysRet (w0:World) (k p:Addr) (c1 c2 c3 c4 c5:Addr) (ma mb:Nat) (L:Sp.Pool) (G:List Int) (S:List Sp.Way) (F FP:NP) (sl:Sl) (l:List Sp.Step) (t r:Int) (ok:Bool) (w':World) (sl':Sl) (M:List Sp.Step) (B':List Int):Prop where
 st:SaysAt w' k p c1 c2 c3 c4 c5 ma mb L G S F FP sl' (l++M) B'
 prf:Sp.PrfOk L G (fun x=>x∈Sp.jG S) (l++M) B'
 new:∀s∈M,Sp.yQ S s.t≤Sp.yQ S t∧(Sp.Sub L t s.t∨s.t∈Sp.jG S)
 idx:ok=true→∃i,r=((i:Nat):Int)∧∃hi:i<(l++M).length,(l++M)[i].t=t
 drv:ok=true↔Sp.Drv L (fun x=>x∈Sp.jG S) t
 ext:Ext (PW ma mb c5 sl) w0 w'
 own:∀b,sl'.blk b→sl.blk b∨w0.heap.size≤b
 last:ok=true→M=[]∨Sp.tAt (l++M) (((l++M).length:Int) - 1)=t
 dp:∀s∈M,Sp.Dp L S t s.t
 cl:∀s∈M,∀y,Sp.Dep L S s.t y→y∈(l++M).map Sp.Step.t
structure SaysCur (w0:World) (H:NP) (w:World) (k p:Addr) (c1 c2 c3 c4 c5:Addr) (ma mb:Nat) (L:Sp.Pool) (G:List Int) (S:List Sp.Way) (F FP:NP) (sl:Sl) (l:List Sp.Step) (t:Int) (sl1:Sl) (M B:_):Prop where
 st:SaysAt w k p c1 c2 c3 c4 c5 ma mb L G S F FP sl1 (l++M) B
 prf:Sp.PrfOk L G (fun x=>x∈Sp.jG S) (l++M) B
 new:∀s∈M,Sp.yQ S s.t<Sp.yQ S t∧(Sp.Sub L t s.t∨s.t∈Sp.jG S)
 ext:Ext (PW ma mb c5 sl) w0 w
 own:∀b,sl1.blk b→sl.blk b∨w0.heap.size≤b
 vis:∀b,sl1.blk b→¬ H b
 hs:Hst w0 H w H w
 dp:∀s∈M,Sp.Dp L S t s.t
 cl:∀s∈M,∀y,Sp.Dep L S s.t y→y∈(l++M).map Sp.Step.t
section
variable {w0 w w':World} {H H':NP} {k p c1 c2 c3 c4 c5:Addr} {ma mb:Nat} {L:Sp.Pool} {G:List Int} {S:List Sp.Way} {F FP:NP} {sl sl1 sl2:Sl} {l M M2:List Sp.Step} {B0 B B2:List Int} {t:Int}
theorem PW.old (h:SaysAt w0 k p c1 c2 c3 c4 c5 ma mb L G S F FP sl l B0) (ho:∀b,sl1.blk b→sl.blk b∨w0.heap.size≤b):∀b,PW ma mb c5 sl1 b→b<w0.heap.size→PW ma mb c5 sl b:=by
 rintro b (hb | hb | hb | hb) hlt
 ·exact .inl hb
 ·exact .inr (.inl hb)
 ·exact .inr (.inr (.inl hb))
 ·exact (ho b hb).elim (fun h=>.inr (.inr (.inr h))) (fun h=>by omega)
theorem SaysCur.nh (h:SaysCur w0 H w k p c1 c2 c3 c4 c5 ma mb L G S F FP sl l t sl1 M B) (h0:SaysAt w0 k p c1 c2 c3 c4 c5 ma mb L G S F FP sl l B0):∀b,PW ma mb c5 sl1 b→¬ H b:=by
 have old:∀b,b<w0.heap.size→¬ H b:=fun b hb hh=>by have:=h.hs.old b hh;omega
 rintro b (rfl | rfl | rfl | hb)
 ·exact old _ (h0.prf.lt (.inl rfl))
 ·exact old _ (h0.prf.lt (.inr (.inl rfl)))
 ·exact old _ (h0.prf.lt (.inr (.inr (.inl rfl))))
 ·exact h.vis b hb
theorem SaysCur.hst (h:SaysCur w0 H w k p c1 c2 c3 c4 c5 ma mb L G S F FP sl l t sl1 M B) (h0:SaysAt w0 k p c1 c2 c3 c4 c5 ma mb L G S F FP sl l B0) (hs:Hst w0 H w H' w'):SaysCur w0 H' w' k p c1 c2 c3 c4 c5 ma mb L G S F FP sl l t sl1 M B:=by
 have dj:=hs.disj (G:=PW ma mb c5 sl1) (fun b hb=>⟨h.st.prf.lt hb,h.nh h0 b hb⟩);exact ⟨h.st.ext hs.ext hs.old (fun b hb=>.inr (dj b hb)) h0.zc (fun b hb=>h0.know.lt hb) (fun b hb=>h0.pool.lt hb),h.prf,h.new,h.ext.hst hs,h.own,fun b hb=>dj b (.inr (.inr (.inr hb))),hs.here,h.dp,h.cl⟩
theorem SaysCur.step {u r:Int} {ok:Bool} (h:SaysCur w0 H w k p c1 c2 c3 c4 c5 ma mb L G S F FP sl l t sl1 M B) (h0:SaysAt w0 k p c1 c2 c3 c4 c5 ma mb L G S F FP sl l B0) (hr:SaysRet w k p c1 c2 c3 c4 c5 ma mb L G S F FP sl1 (l++M) u r ok w' sl2 M2 B2) (hu:Sp.yQ S u<Sp.yQ S t) (hsub:Sp.Sub L t u∨u∈Sp.jG S) (hcl:∀x,u∈Sp.jG S→Sp.yQ S x≤Sp.yQ S u→x∈Sp.jG S) (hdep:Sp.Dep L S t u) :
  Kept H w w'∧SaysCur w0 H w' k p c1 c2 c3 c4 c5 ma mb L G S F FP sl l t sl2 (M++M2) B2:=by
 have hk:Kept H w w':=hr.ext.kept (fun b hb hx=>h.nh h0 b hx hb)
 refine ⟨hk,by rw [← List.append_assoc];exact hr.st,by rw [← List.append_assoc];exact hr.prf,fun s hs=>?_,h.ext.trans' hr.ext (fun i hi hb=>PW.old h0 h.own i hb hi),fun b hb=>?_,fun b hb hh=>?_,h.hs.again hk,fun s hs=>?_,fun s hs y hy=>?_⟩
 ·rcases List.mem_append.1 hs with hs | hs
  ·exact h.new s hs
  ·obtain ⟨q1,q2⟩:=hr.new s hs
   refine ⟨by omega,?_⟩
   rcases q2 with q2 | q2
   ·rcases hsub with h1 | h1
    ·exact .inl (h1.trans q2)
    ·exact .inr (hcl _ h1 q1)
   ·exact .inr q2
 ·rcases hr.own b hb with h1 | h1
  ·exact h.own b h1
  ·right;have:=h.ext.size;omega
 ·rcases hr.own b hb with h1 | h1
  ·exact h.vis b h1 hh
  ·have:=h.hs.lt b hh;omega
 ·rcases List.mem_append.1 hs with hs | hs
  ·exact h.dp s hs
  ·exact .step hdep (hr.dp s hs)
 ·rw [← List.append_assoc]
  rcases List.mem_append.1 hs with hs | hs
  ·rw [List.map_append];exact List.mem_append_left _ (h.cl s hs y hy)
  ·exact hr.cl s hs y hy
end
theorem lR {S:List Sp.Way} {u x:Int} (hu:u∈Sp.jG S) (h:Sp.yQ S x≤Sp.yQ S u):x∈Sp.jG S:=by
 refine Classical.byContradiction fun hx=>?_;have:=Sp.uV hu;rw [Sp.xY hx] at h;omega
end Go.Proofs
end
section
open Go Go.SE
namespace Go.Proofs
open Tryz
attribute [local irreducible] Calls
theorem c_says (k p c1 c2 c3 c4 c5:Addr) (ma mb:Nat) {L:Sp.Pool} {G:List Int} {S:List Sp.Way} {F FP:NP} (hW:Sp.Wf L) (hk:Sp.KnowOk L G S):∀(n:Nat) (t:Int) (w0:World) (sl:Sl) (l:List Sp.Step) (B:List Int),Sp.yQ S t<n →
  SaysAt w0 k p c1 c2 c3 c4 c5 ma mb L G S F FP sl l B→Sp.PrfOk L G (fun x=>x∈Sp.jG S) l B →
  Calls prog 92 #[.int .i64 t,.pointer (some c1),.pointer (some c2),.pointer (some c3),.pointer (some c4),.pointer (some c5)] w0 (fun e w'=>∃r:Int,∃ok:Bool,e=.returned (.tuple #[.int .i64 r,.bool ok])∧∃sl' M B',SaysRet w0 k p c1 c2 c3 c4 c5 ma mb L G S F FP sl l t r ok w' sl' M B'):=by
 intro n
 induction n with
 | zero=>intro t w0 sl l B h;omega
 | succ n ih =>
 intro t w0 sl l B hrk h0 hp0
 suffices key:∀K:Int→Bool→WP,(∀r ok w' sl' M B',SaysRet w0 k p c1 c2 c3 c4 c5 ma mb L G S F FP sl l t r ok w' sl' M B'→K r ok w')→m_K t c1 c2 c3 c4 c5 w0 K from
  w_K _ _ _ _ _ _ w0 _ (key _ (fun r ok w' sl' M B' h=>⟨sl',M,B',h⟩))
 intro K hK
 have hKs:∀r u t,u∈Sp.jG S→Sp.zU L r u t→t∈Sp.jG S:=fun r u t hu ha=>hk.closed u hu r t ha
 unfold m_K
 rcases h0.prf.am.get (P:=prog) (T:=152) underlying152 underlying30 (zeroValue3 _) t true with ⟨hl,hrun⟩ | ⟨v,hl,hrun⟩
 case inr =>
  obtain ⟨i,hi,rfl,hit⟩:=Sp.jCX hl
  refine ⟨_,h0.prf.a1,_,true,hrun,Br.t rfl (hK _ _ w0 sl [] B ⟨by simpa using h0,by simpa using hp0,by simp,fun _=>⟨i,rfl,by simpa using hi,by simpa using hit⟩,⟨fun _=>hit▸hp0.drv _ (List.getElem_mem hi),fun _=>rfl⟩,Ext.refl _,fun b hb=>.inl hb,fun _=>.inl rfl,by simp,by simp⟩)⟩
 case inl =>
 have htl:t ∉ l.map Sp.Step.t:=Sp.oM.1 hl
 refine ⟨_,h0.prf.a1,_,false,hrun,Br.f rfl ?_⟩
 intro H1 w2 hs2
 have old:∀{H:NP} {w:World},Hst w0 H w H w→∀b,b<w0.heap.size→¬ H b:=fun hs b hb hh=>by have:=hs.old b hh;omega
 have C0:SaysCur w0 None w0 k p c1 c2 c3 c4 c5 ma mb L G S F FP sl l t sl [] B:=⟨by simpa using h0,by simpa using hp0,by simp,Ext.refl _,fun b hb=>.inl hb,fun b _ h=>h,Hst.start w0,by simp,by simp⟩
 have C2:=C0.hst h0 hs2
 have c5h:∀{H:NP} {w:World} {sl1:Sl} {M B1:_},SaysCur w0 H w k p c1 c2 c3 c4 c5 ma mb L G S F FP sl l t sl1 M B1→¬ H c5.block:=fun C=>C.nh h0 _ (.inr (.inr (.inl rfl)))
 have J1f:∀(r a b:Int) (H:NP) (w:World) (sl1:Sl) (M:List Sp.Step) (B1:List Int),SaysCur w0 H w k p c1 c2 c3 c4 c5 ma mb L G S F FP sl l t sl1 M B1→¬ Sp.Drv L (fun x=>x∈Sp.jG S) t→m_K_j1 t c1 c2 c5 false r a b t H w K:=by
  intro r a b H w sl1 M B1 C hnd;unfold m_K_j1;refine Br.t rfl ?_;obtain ⟨w5,hr5,⟨B',hB',P5⟩,E5⟩:=C.st.prf.bar t;have hmb:=C.nh h0 mb (.inr (.inl rfl));have hpb:Sp.PrfOk L G (fun x=>x∈Sp.jG S) (l++M) B':=by
   rcases hB' with rfl | rfl
   ·exact C.prf
   ·exact C.prf.bars hnd
  refine ⟨_,C.st.prf.a2,w5,hr5,E5.kept (fun b hb e=>hmb (e▸hb)),hK 0 false w5 sl1 M B' ⟨⟨P5,C.st.know.ext E5 (fun b hb e=>C.st.dF b hb (.inr (.inl e))),C.st.pool.ext E5 (fun b hb e=>C.st.dP b hb (.inr (.inl e))),C.st.dF,C.st.dP⟩,hpb,fun s hs=>⟨Nat.le_of_lt (C.new s hs).1,(C.new s hs).2⟩,(fun h=>by cases h),⟨(fun h=>by cases h),fun h=>absurd h hnd⟩,C.ext.trans' E5 (fun i hi e=>.inr (.inl e)),C.own,(fun h=>by cases h),C.dp,C.cl⟩⟩
 have J1t:∀(r a b:Int) (H:NP) (w:World) (sl1:Sl) (M:List Sp.Step) (B1:List Int),SaysCur w0 H w k p c1 c2 c3 c4 c5 ma mb L G S F FP sl l t sl1 M B1→Sp.fol L G (l++M) ⟨r,a,b,t⟩=true→Sp.Drv L (fun x=>x∈Sp.jG S) t→(∀y,Sp.Dep L S t y→y∈(l++M).map Sp.Step.t)→m_K_j1 t c1 c2 c5 true r a b t H w K:=by
  intro r a b H w sl1 M B1 C hfol hdt hdp;unfold m_K_j1;refine Br.f rfl ?_;have hsl:sl1.len=(l++M).length:=by rw [C.st.prf.ls.len];simp
  have hfew:=C.prf.few;have hL6:=hW.ok.few;have htn:t ∉ (l++M).map Sp.Step.t:=by
   rw [List.map_append,List.mem_append];rintro (h | h)
   ·exact htl h
   ·obtain ⟨s,hs,e⟩:=List.mem_map.1 h;have:=(C.new s hs).1;rw [e] at this;omega
  have hlk:=Sp.oM.2 htn;obtain ⟨w5,hr5,I5,E5⟩:=C.st.prf.am.put (P:=prog) (T:=152) underlying152 underlying30 hlk ((l++M).length:Int);have hma:=C.nh h0 ma (.inl rfl);have da:=C.st.prf.d ma (.inl rfl);have b5:Box w5 c5 [sl1.v] 101:=C.st.prf.a5.ext E5 (fun e=>C.st.prf.n2 e.symm);refine ⟨_,C.st.prf.a1,sl1,C.st.prf.a5.cell0,w5,by rw [hsl];exact hr5,E5.kept (fun b hb e=>hma (e▸hb)),sl1,b5.cell0,?_⟩;intro p3 w7 h7;have E7:Pure w5 w7:=Ext.new h7;have ls7:=(C.st.prf.ls.ext E5 (fun b hb e=>C.st.prf.n4 (e▸hb))).pure E7;obtain ⟨s1,w8,hr8,R8,X8,f8⟩:=ls7.append (P:=prog) (ty:=101) (c:=1) jDI (r:=uD ⟨r,a,b,t⟩) (Box.of_new h7).row rfl rfl (by simp at hfew ⊢;omega) (by simp [maxLen] at hfew ⊢;omega);have b8:Box w8 c5 [sl1.v] 101:=(b5.pure E7).ext X8 C.st.prf.n6;refine ⟨s1,w8,hr8,X8.kept (fun b hb hx=>C.vis b hx hb),b8.canW0 (by simp),c5h C,?_⟩;rintro _ rfl;have E9:=Ext.setCell (w:=w8) c5 s1.v;have z5:w.heap.size≤w7.heap.size:=by have:=E5.size;have:=E7.size;omega
  have f8':∀b,s1.blk b→sl1.blk b∨w.heap.size≤b:=fun b hb=>(f8 b hb).imp_right (fun h=>by omega);have X:Ext (PW ma mb c5 sl1) w (w8.setCell c5 s1.v):=(((E5.mono (fun b _ e=>.inl e)).trans (E7.pure (F:=PW ma mb c5 sl1))).trans (X8.mono (fun b _ h=>.inr (.inr (.inr h))))).trans (E9.mono (fun b _ e=>.inr (.inr (.inl e))));have nx:∀{b},(b=c1.block∨b=c2.block∨b=c3.block∨b=c4.block)→¬ PW ma mb c5 sl1 b:=fun hb hx=>by
   obtain ⟨d1,d2,d3,d4⟩:=C.st.prf.d _ hx;rcases hb with h | h | h | h
   ·exact d1 h
   ·exact d2 h
   ·exact d3 h
   ·exact d4 h
  have lt1:∀{b},PW ma mb c5 sl1 b→b<w.heap.size:=fun hb=>C.st.prf.lt hb;have I9:IMap oS (w8.setCell c5 s1.v) ma (Sp.jDA ((l++M)++[⟨r,a,b,t⟩])):=by
   rw [Sp.oL];exact ((I5.pure E7).ext X8 C.st.prf.n4).ext E9 C.st.prf.n2
  have P9:PrfAt (w8.setCell c5 s1.v) k c1 c2 c3 c4 c5 ma mb s1 ((l++M)++[⟨r,a,b,t⟩]) B1:=by
   refine ⟨X.cell C.st.prf.a1 (nx (.inl rfl)),X.cell C.st.prf.a2 (nx (.inr (.inl rfl))),X.cell C.st.prf.a3 (nx (.inr (.inr (.inl rfl)))),X.cell C.st.prf.a4 (nx (.inr (.inr (.inr rfl)))),b8.set0,I9,?_,?_,?_,C.st.prf.n1,C.st.prf.n2,C.st.prf.n3,?_,?_,?_⟩
   ·have:=((C.st.prf.bm.ext E5 (fun e=>C.st.prf.n1 e.symm)).pure E7).ext X8 C.st.prf.n5;exact this.ext E9 C.st.prf.n3
   ·have hne : ∀ b, s1.blk b → b ≠ c5.block := fun b hb e => by
     rcases f8' b hb with h | h
     ·exact C.st.prf.n6 (e▸h)
     ·have:=lt1 (.inr (.inr (.inl rfl)));omega
    have:=R8.ext E9 hne;simpa using this
   ·rintro b (hb | hb | hb | hb)
    ·exact C.st.prf.d b (.inl hb)
    ·exact C.st.prf.d b (.inr (.inl hb))
    ·exact C.st.prf.d b (.inr (.inr (.inl hb)))
    ·rcases f8' b hb with h | h
     ·exact C.st.prf.d b (.inr (.inr (.inr h)))
     ·have:=C.st.zc;omega
   ·intro hb;rcases f8' _ hb with h | h
    ·exact C.st.prf.n4 h
    ·have:=lt1 (.inl rfl);omega
   ·intro hb;rcases f8' _ hb with h | h
    ·exact C.st.prf.n5 h
    ·have:=lt1 (.inr (.inl rfl));omega
   ·intro hb;rcases f8' _ hb with h | h
    ·exact C.st.prf.n6 h
    ·have:=lt1 (.inr (.inr (.inl rfl)));omega
  have hlk9:SE.look (Sp.jDA ((l++M)++[⟨r,a,b,t⟩])) t=some ((l++M).length:Int):=by
   rw [Sp.oL,jCD (by rw [Sp.oN];exact htn),if_pos rfl]
  rcases I9.get (P:=prog) (T:=152) underlying152 underlying30 (zeroValue3 _) t false with ⟨hx,_⟩ | ⟨v,hv,hrun9⟩
  ·rw [hx] at hlk9;cases hlk9
  ·rw [hv] at hlk9;cases hlk9;have dg:∀{Z:NP},(∀b,Z b→b<w.heap.size)→(∀b,Z b→¬ PW ma mb c5 sl1 b)→∀b,Z b→¬ PW ma mb c5 s1 b:=fun hz h b hb hx=>by
    rcases hx with hx | hx | hx | hx
    ·exact h b hb (.inl hx)
    ·exact h b hb (.inr (.inl hx))
    ·exact h b hb (.inr (.inr (.inl hx)))
    ·rcases f8' b hx with h' | h'
     ·exact h b hb (.inr (.inr (.inr h')))
     ·have:=hz b hb;omega
   refine ⟨_,P9.a1,_,hrun9,hK _ true _ s1 (M++[⟨r,a,b,t⟩]) B1 ⟨⟨by rw [← List.append_assoc];exact P9,C.st.know.ext X (fun b hb=>C.st.dF b hb),C.st.pool.ext X (fun b hb=>C.st.dP b hb),dg (fun b hb=>C.st.know.lt hb) C.st.dF,dg (fun b hb=>C.st.pool.lt hb) C.st.dP⟩,by rw [← List.append_assoc];exact C.prf.snoc hfol htn hdt,fun s hs=>?_,fun _=>⟨(l++M).length,rfl,by simp,by simp⟩,⟨fun _=>hdt,fun _=>rfl⟩,C.ext.trans' X (fun i hi hb=>PW.old h0 C.own i hb hi),fun b hb=>?_,fun _=>.inr ?_,fun s hs=>?_,fun s hs y hy=>?_⟩⟩
   ·rcases List.mem_append.1 hs with hs | hs
    ·exact ⟨Nat.le_of_lt (C.new s hs).1,(C.new s hs).2⟩
    ·simp at hs;subst hs;exact ⟨Nat.le_refl _,.inl (.refl t)⟩
   ·rcases f8' b hb with h | h
    ·exact C.own b h
    ·right;have:=C.ext.size;omega
   ·rw [← List.append_assoc];have e:((((l++M)++[(⟨r,a,b,t⟩:Sp.Step)]).length:Int) - 1)=((l++M).length:Int):=by simp;omega
    rw [e,Sp.uP (by simp)];simp
   ·rcases List.mem_append.1 hs with hs | hs
    ·exact C.dp s hs
    ·simp at hs;subst hs;exact .refl t
   ·rw [← List.append_assoc,List.map_append];refine List.mem_append_left _ ?_;rcases List.mem_append.1 hs with hs | hs
    ·exact C.cl s hs y hy
    ·simp at hs;subst hs;exact hdp y hy
 have hcall : ∀ (u : Int) (H : NP) (w : World) (sl1 : Sl) (M : List Sp.Step) (B1 : List Int), SaysCur w0 H w k p c1 c2 c3 c4 c5 ma mb L G S F FP sl l t sl1 M B1 → Sp.yQ S u < Sp.yQ S t → (Sp.Sub L t u ∨ u ∈ Sp.jG S) → Sp.Dep L S t u → ∀ (Q : Int → Bool → WP),
   (∀(r:Int) (ok:Bool) (w':World) (sl2:Sl) (M2:List Sp.Step) (B2:List Int),SaysCur w0 H w' k p c1 c2 c3 c4 c5 ma mb L G S F FP sl l t sl2 (M++M2) B2→(ok=true↔Sp.Drv L (fun x=>x∈Sp.jG S) u)→(ok=true→∃i,r=((i:Nat):Int)∧∃hi:i<(l++(M++M2)).length,(l++(M++M2))[i].t=u)→Kept H w w'→Q r ok w') →
   ∃v13:Value,w.cell? c4=some v13∧∃(f1:FuncId) (fs1 cs1:Array Value),v13=.func (.func f1) fs1 cs1∧(∀args w,(callFunc f1 args).run prog w=.ok (.enter f1 args) w)∧Calls prog f1 (fs1++#[(.int .i64 u)]++cs1) w (fun e w'=>∃r1:Int,∃r2:Bool,e=.returned (.tuple #[(.int .i64 r1),(.bool r2)])∧Kept H w w'∧Q r1 r2 w'):=by
  intro u H w sl1 M B1 C hu hsub hdep Q hQ
  refine ⟨_,C.st.prf.a4,92,#[],_,rfl,call92,?_⟩
  refine (ih u w sl1 (l++M) B1 (by omega) C.st C.prf).mono ?_
  rintro _ w' ⟨r,ok,rfl,sl2,M2,B2,hret⟩
  obtain ⟨hkp,C2⟩:=C.step h0 hret hu hsub (fun x hu hx=>lR hu hx) hdep
  refine ⟨r,ok,rfl,hkp,hQ r ok w' sl2 M2 B2 C2 hret.drv (fun h=>?_) hkp⟩
  obtain ⟨i,e,hi,hit⟩:=hret.idx h
  refine ⟨i,e,by rw [← List.append_assoc];exact hi,?_⟩
  simpa [List.append_assoc] using hit
 obtain ⟨sg,m,sk,k2,hF2⟩:=C2.st.know
 obtain ⟨vr,vf,hlook,hway⟩:=k2.look t
 refine ⟨_,C2.st.prf.a2,_,C2.st.prf.barred t,_,C2.st.prf.a3,k,rfl,_,k2.box.cell rfl,vr,vf,_,hlook,fun hc=>?_,fun hc=>?_⟩
 ·-- it is seen
  have hts:t∈Sp.jG S:=by simpa using hc
  have hdt:Sp.Drv L (fun x=>x∈Sp.jG S) t:=.seen hts
  have hnB:decide (t∈B)=false:=decide_eq_false (fun hb=>hp0.bar t hb hdt)
  have hin:=hk.inp t hts
  have hin':¬ Sp.inP L t=false:=by simp [hin]
  rw [hnB]
  rcases Sp.way_of hk.toWaysOk (qB (hway hts)) with ⟨rfl,rfl,hg⟩ | ⟨hne,hari,hfs,hrf⟩
  ·refine ⟨fun h=>by simp at h,fun _=>?_⟩
   intro H2 w10 hs10
   have C10:=C2.hst h0 hs10
   refine J1t 0 0 0 H2 w10 sl [] B C10 ?_ hdt (fun y hy=>absurd rfl ((Sp.Dep.way hk.nodup (hway hts)).1 hy).1)
   unfold Sp.fol;rw [if_neg hin',if_pos rfl];simp [hg]
  ·refine ⟨fun _=>?_,fun h=>absurd (by simpa using h) hne⟩
   intro H2 w10 hs10
   have C10:=C2.hst h0 hs10
   refine hcall vf H2 w10 sl [] B C10 hrf (.inr hfs) ((Sp.Dep.way hk.nodup (hway hts)).2 ⟨hne,rfl⟩) _ ?_
   intro r1 ok w11 sl2 M2 B2 C11 hd11 hi11 _ w12 hs12
   have C12:=C11.hst h0 hs12
   obtain ⟨i,rfl,hi,hit⟩:=hi11 (hd11.2 (.seen hfs))
   refine J1t vr i 0 H2 w12 sl2 _ B2 C12 ?_ hdt (fun y hy=>by rw [((Sp.Dep.way hk.nodup (hway hts)).1 hy).2];exact List.mem_map.2 ⟨_,List.getElem_mem hi,hit⟩)
   have hr:=hari.rule
   unfold Sp.fol
   rw [if_neg hin',if_neg hne,if_pos hr]
   have h1:=Sp.qF hi
   have h2:=Sp.uP hi
   rw [hit] at h2
   simp only [h1,h2,Bool.true_and,Bool.and_eq_true,beq_iff_eq,true_and]
   exact (Sp.tJ hr).2 hari
 ·-- it is not
  have hts:t ∉ Sp.jG S:=by simpa using hc
  refine ⟨fun hb=>?_,fun hb=>?_⟩
  ·intro H2 w4 hs4
   have C4:=C2.hst h0 hs4
   refine ⟨_,C4.st.prf.a3,?_⟩
   refine (jAX k p t w4 C4.st.know C4.st.pool hW).mono ?_
   rintro _ w13 ⟨r3,r4,r5,r6,rfl,hmade,E13⟩
   refine ⟨r3,r4,r5,r6,rfl,E13.keptP,?_⟩
   have C13:SaysCur w0 H2 w13 k p c1 c2 c3 c4 c5 ma mb L G S F FP sl l t sl [] B:=⟨C4.st.pure E13,C4.prf,C4.new,C4.ext.thenPure E13,C4.own,C4.vis,C4.hs.again E13.keptP,C4.dp,C4.cl⟩
   have J2 : ∀ (H : NP) (w : World) (sl1 : Sl) (M : List Sp.Step) (B1 : List Int) (ok4 : Bool) (rl a : Int), SaysCur w0 H w k p c1 c2 c3 c4 c5 ma mb L G S F FP sl l t sl1 M B1 →
     (ok4=false→¬ Sp.Drv L (fun x=>x∈Sp.jG S) t) →
     (ok4=true→r4≤0→Sp.fol L G (l++M) ⟨rl,a,0,t⟩=true∧Sp.Drv L (fun x=>x∈Sp.jG S) t) →
     (ok4=true→0<r4→Sp.yQ S r4<Sp.yQ S t∧(Sp.Sub L t r4∨r4∈Sp.jG S)∧(Sp.Drv L (fun x=>x∈Sp.jG S) r4→Sp.Drv L (fun x=>x∈Sp.jG S) t)∧(Sp.Drv L (fun x=>x∈Sp.jG S) t→Sp.Drv L (fun x=>x∈Sp.jG S) r4) ∧
      ∀M2 (i:Nat) (hi:i<(l++(M++M2)).length),(l++(M++M2))[i].t=r4→Sp.fol L G (l++(M++M2)) ⟨rl,a,i,t⟩=true) →
     (ok4=true→0<r3→r3∈(l++M).map Sp.Step.t) →
     m_K_j2 t c1 c2 c4 c5 r4 ok4 rl a 0 t w0 H w K:=by
    intro H w sl1 M B1 ok4 rl a C h1 h2 h3 h4
    unfold m_K_j2
    refine ⟨fun hc=>?_,fun hc=>?_⟩
    ·rw [Bool.and_eq_true] at hc
     obtain ⟨hok,hpos⟩:=hc
     have hpos:=of_decide_eq_true hpos
     obtain ⟨g1,g2,g3,g4,g5⟩:=h3 hok hpos
     intro H5 w19 hs19
     have C19:=C.hst h0 hs19
     refine hcall r4 H5 w19 sl1 M B1 C19 g1 g2 ((Sp.Dep.made hmade.symm hts).2 ⟨hpos,.inr rfl⟩) _ ?_
     intro r7 r8 w20 sl2 M2 B2 C20 hd20 hi20 _ w21 hs21
     have C21:=C20.hst h0 hs21
     cases r8 with
     | false=>exact J1f _ _ _ H5 w21 sl2 _ B2 C21 (fun hd=>by have:=hd20.2 (g4 hd);cases this)
     | true =>
      obtain ⟨i,rfl,hi,hit⟩:=hi20 rfl
      refine J1t _ _ _ H5 w21 sl2 _ B2 C21 (g5 M2 i hi hit) (g3 (hd20.1 rfl)) (fun y hy=>?_)
      rcases (Sp.Dep.made hmade.symm hts).1 hy with ⟨hy0,e | e⟩
      ·subst e
       rw [← List.append_assoc,List.map_append]
       exact List.mem_append_left _ (h4 hok hy0)
      ·subst e
       exact List.mem_map.2 ⟨_,List.getElem_mem hi,hit⟩
    ·intro H5 w19 hs19
     have C19:=C.hst h0 hs19
     cases ok4 with
     | false=>exact J1f _ _ _ H5 w19 sl1 M B1 C19 (h1 rfl)
     | true =>
      have hle:r4≤0:=by simpa using hc
      obtain ⟨q1,q2⟩:=h2 rfl hle
      refine J1t _ _ _ H5 w19 sl1 M B1 C19 q1 q2 (fun y hy=>?_)
      rcases (Sp.Dep.made hmade.symm hts).1 hy with ⟨hy0,e | e⟩
      ·subst e;exact h4 rfl hy0
      ·omega
   cases hin:Sp.inP L t with
   | false =>
    have hm:Sp.qN L S t=(0,0,false,false):=by unfold Sp.qN;rw [if_pos hin]
    rw [hm] at hmade;cases hmade
    have hnd:¬ Sp.Drv L (fun x=>x∈Sp.jG S) t:=fun hd=>by
     have hnode:Sp.jD L t=Sp.tX:=by unfold Sp.jD;rw [Sp.kL hin];rfl
     rcases hd.inv with h | h | ⟨h,_⟩ | ⟨h,_⟩ | ⟨h,_⟩
     ·exact hts h
     all_goals (rw [hnode] at h;exact absurd h (by decide))
    refine ⟨fun h=>by simp at h,fun _=>?_⟩
    intro H4 w18 hs18
    exact J2 H4 w18 sl [] B false _ _ (C13.hst h0 hs18) (fun _=>hnd) (fun h=>by cases h) (fun h=>by cases h) (fun h=>by cases h)
   | true =>
   have hin':¬ Sp.inP L t=false:=by simp [hin]
   have ht1:=(Sp.zA.1 hin).1
   generalize hn:Sp.jD L t=n at *
   have hm:=hmade
   unfold Sp.qN at hm
   rw [if_neg hin',hn] at hm
   have kx:∀x∈Sp.zB n,Sp.inP L x=true∧x<t:=by have:=(hW.node hin).2.2.2.2.1;rw [hn] at this;exact this
   rcases Sp.kK hW hin with hk1 | hk4 | hk5 | hk6 | hk7
   ·rw [hn] at hk1
    rw [if_pos hk1] at hm;cases hm
    refine ⟨fun h=>by simp at h,fun _=>?_⟩
    intro H4 w18 hs18
    have hd:Sp.Drv L (fun x=>x∈Sp.jG S) t:=.free (by rw [hn];exact hk1)
    refine J2 H4 w18 sl [] B true _ _ (C13.hst h0 hs18) (fun h=>by cases h) (fun _ _=>⟨?_,hd⟩) (fun _ h=>by omega) (fun _ h=>by omega)
    unfold Sp.fol;rw [if_neg hin',hn];simp [hk1]
   ·rw [hn] at hk4
    rw [if_neg (by rw [hk4];decide),if_pos hk4] at hm;cases hm
    have ha:=kx n.a (Sp.yT (.inl hk4))
    have hb':=kx n.b (Sp.jCG hk4)
    have ha1:=(Sp.zA.1 ha.1).1
    have hb1:=(Sp.zA.1 hb'.1).1
    have sa:Sp.Sub L t n.a:=.kid (.refl t) (by rw [hn];exact Sp.yT (.inl hk4))
    have sb:Sp.Sub L t n.b:=.kid (.refl t) (by rw [hn];exact Sp.jCG hk4)
    have inv:Sp.Drv L (fun x=>x∈Sp.jG S) t→Sp.Drv L (fun x=>x∈Sp.jG S) n.a∧Sp.Drv L (fun x=>x∈Sp.jG S) n.b:=fun hd=>by
     rcases hd.inv with h | h | ⟨_,h1,h2⟩ | ⟨h,_⟩ | ⟨h,_⟩
     ·exact absurd h hts
     ·rw [hn,hk4] at h;exact absurd h (by decide)
     ·rw [hn] at h1 h2;exact ⟨h1,h2⟩
     ·rw [hn,hk4] at h;cases h
     ·rw [hn,hk4] at h;exact absurd h (by decide)
    refine ⟨fun _=>?_,fun h=>by simp at h;omega⟩
    intro H4 w18 hs18
    refine hcall n.a H4 w18 sl [] B (C13.hst h0 hs18) (Sp.uG hts ha1 ha.2) (.inl sa) ((Sp.Dep.made hmade.symm hts).2 ⟨by omega,.inl rfl⟩) _ ?_
    intro r9 r10 w22 sl2 M2 B2 C22 hd22 hi22 _ w23 hs23
    have C23:=C22.hst h0 hs23
    refine J2 H4 w23 sl2 _ B2 r10 _ _ C23 (fun h hd=>by have:=hd22.2 (inv hd).1;rw [h] at this;cases this) (fun _ h=>by omega) (fun h _=>⟨Sp.uG hts hb1 hb'.2,.inl sb,fun hd=>.pair (by rw [hn];exact hk4) (by rw [hn];exact hd22.1 h) (by rw [hn];exact hd),fun hd=>(inv hd).2,?_⟩) (fun h _=>by obtain ⟨i1,_,hi1,hit1⟩:=hi22 h;exact List.mem_map.2 ⟨_,List.getElem_mem hi1,hit1⟩)
    intro M3 i hi hit
    obtain ⟨i1,rfl,hi1,hit1⟩:=hi22 h
    have hi1':i1<(l++(([]++M2)++M3)).length:=by simp at hi1 ⊢;omega
    have e1:Sp.tAt (l++(([]++M2)++M3)) (i1:Int)=n.a:=by
     rw [← List.append_assoc,Sp.jBM hi1];exact hit1
    have e2:=Sp.uP hi
    rw [hit] at e2
    clear hit
    generalize l++(([]++M2)++M3)=l' at *
    unfold Sp.fol;rw [if_neg hin',hn]
    simp [hk4,Sp.qF hi,Sp.qF hi1',e1,e2]
   ·rw [hn] at hk5
    rw [if_neg (by rw [hk5];decide),if_neg (by rw [hk5];decide),if_pos hk5] at hm;cases hm
    have ha:=kx n.a (Sp.yT (.inr (.inl hk5)))
    have ha1:=(Sp.zA.1 ha.1).1
    have sa:Sp.Sub L t n.a:=.kid (.refl t) (by rw [hn];exact Sp.yT (.inr (.inl hk5)))
    have inv:Sp.Drv L (fun x=>x∈Sp.jG S) t→Sp.Drv L (fun x=>x∈Sp.jG S) n.a:=fun hd=>by
     rcases hd.inv with h | h | ⟨h,_⟩ | ⟨_,h⟩ | ⟨h,_⟩
     ·exact absurd h hts
     ·rw [hn,hk5] at h;exact absurd h (by decide)
     ·rw [hn,hk5] at h;cases h
     ·rw [hn] at h;exact h
     ·rw [hn,hk5] at h;exact absurd h (by decide)
    refine ⟨fun _=>?_,fun h=>by simp at h;omega⟩
    intro H4 w18 hs18
    refine hcall n.a H4 w18 sl [] B (C13.hst h0 hs18) (Sp.uG hts ha1 ha.2) (.inl sa) ((Sp.Dep.made hmade.symm hts).2 ⟨by omega,.inl rfl⟩) _ ?_
    intro r9 r10 w22 sl2 M2 B2 C22 hd22 hi22 _ w23 hs23
    have C23:=C22.hst h0 hs23
    refine J2 H4 w23 sl2 _ B2 r10 _ _ C23 (fun h hd=>by have:=hd22.2 (inv hd);rw [h] at this;cases this) (fun h _=>⟨?_,.hash (by rw [hn];exact hk5) (by rw [hn];exact hd22.1 h)⟩) (fun _ h=>by omega) (fun h _=>by obtain ⟨i1,_,hi1,hit1⟩:=hi22 h;exact List.mem_map.2 ⟨_,List.getElem_mem hi1,hit1⟩)
    obtain ⟨i1,rfl,hi1,hit1⟩:=hi22 h
    have e1:=Sp.uP hi1
    rw [hit1] at e1
    clear hit1
    have q1:=Sp.qF hi1
    generalize l++([]++M2)=l' at *
    unfold Sp.fol;rw [if_neg hin',hn]
    simp [hk5,q1,e1]
   ·rw [hn] at hk6
    rw [if_neg (by rw [hk6];decide),if_neg (by rw [hk6];decide),if_neg (by rw [hk6];decide),if_pos hk6] at hm;cases hm
    have hnd:¬ Sp.Drv L (fun x=>x∈Sp.jG S) t:=fun hd=>by
     rcases hd.inv with h | h | ⟨h,_⟩ | ⟨h,_⟩ | ⟨h,_⟩
     ·exact hts h
     all_goals (rw [hn,hk6] at h;exact absurd h (by decide))
    refine ⟨fun h=>by simp at h,fun _=>?_⟩
    intro H4 w18 hs18
    exact J2 H4 w18 sl [] B false _ _ (C13.hst h0 hs18) (fun _=>hnd) (fun h=>by cases h) (fun h=>by cases h) (fun h=>by cases h)
   ·rw [hn] at hk7
    obtain ⟨x4,x5,x6,xf⟩:=Sp.tR hk7
    rw [if_neg (by rw [xf];decide),if_neg x4,if_neg x5,if_neg x6] at hm
    generalize hko:Sp.kF L (Sp.kI n)=ko at *
    obtain ⟨key,kok⟩:=ko
    simp only [Prod.mk.injEq] at hm
    obtain ⟨rfl,rfl,rfl,rfl⟩:=hm
    have ha:=kx n.a (Sp.yT (.inr (.inr hk7)))
    have ha1:=(Sp.zA.1 ha.1).1
    have sa:Sp.Sub L t n.a:=.kid (.refl t) (by rw [hn];exact Sp.yT (.inr (.inr hk7)))
    have inv:Sp.Drv L (fun x=>x∈Sp.jG S) t→Sp.Drv L (fun x=>x∈Sp.jG S) n.a∧kok=true∧r4∈Sp.jG S:=fun hd=>by
     rcases hd.inv with h | h | ⟨h,_⟩ | ⟨h,_⟩ | ⟨_,h1,h2,h3⟩
     ·exact absurd h hts
     ·rw [hn,xf] at h;cases h
     ·rw [hn] at h;exact absurd h x4
     ·rw [hn] at h;exact absurd h x5
     ·rw [hn] at h1 h2 h3;rw [hko] at h2 h3;exact ⟨h1,h2,h3⟩
    refine ⟨fun hc=>?_,fun hc=>?_⟩
    ·rw [Bool.and_eq_true,Bool.and_eq_true] at hc
     obtain ⟨⟨hkok,hkey⟩,_⟩:=hc
     have hkey:=of_decide_eq_true hkey
     have hkn:=Sp.qX (L:=L) (n:=Sp.kI n) (by rw [hko];exact hkok)
     rw [hko] at hkn
     have hk1:=(Sp.zA.1 hkn.1).1
     intro H4 w18 hs18
     refine hcall n.a H4 w18 sl [] B (C13.hst h0 hs18) (Sp.uG hts ha1 ha.2) (.inl sa) ((Sp.Dep.made hmade.symm hts).2 ⟨by omega,.inl rfl⟩) _ ?_
     intro r9 r10 w22 sl2 M2 B2 C22 hd22 hi22 _ w23 hs23
     have C23:=C22.hst h0 hs23
     refine J2 H4 w23 sl2 _ B2 r10 _ _ C23 (fun h hd=>by have:=hd22.2 (inv hd).1;rw [h] at this;cases this) (fun _ h=>by simp only at hk1;omega) (fun h _=>⟨Sp.jDO hts ht1 hkey,.inr hkey,fun _=>.signed (by rw [hn];exact hk7) (by rw [hn];exact hd22.1 h) (by rw [hn,hko];exact hkok) (by rw [hn,hko];exact hkey),fun _=>.seen hkey,?_⟩) (fun h _=>by obtain ⟨i1,_,hi1,hit1⟩:=hi22 h;exact List.mem_map.2 ⟨_,List.getElem_mem hi1,hit1⟩)
     intro M3 i hi hit
     obtain ⟨i1,rfl,hi1,hit1⟩:=hi22 h
     have hi1':i1<(l++(([]++M2)++M3)).length:=by simp at hi1 ⊢;omega
     have e1:Sp.tAt (l++(([]++M2)++M3)) (i1:Int)=n.a:=by
      rw [← List.append_assoc,Sp.jBM hi1];exact hit1
     have e2:Sp.tAt (l++(([]++M2)++M3)) (i:Int)=r4:=by rw [Sp.uP hi];exact hit
     clear hit
     generalize l++(([]++M2)++M3)=l' at *
     unfold Sp.fol;rw [if_neg hin',hn]
     have hkey2:=hkn.2.1
     simp only at hkey2
     simp [hk7,x4,x5,Sp.qF hi,Sp.qF hi1',e1,e2,hkey2,Sp.vA]
    ·intro H4 w18 hs18
     have hnk:(kok && decide (r4∈Sp.jG S))=false:=by
      have:decide (n.a>0)=true:=by simp;omega
      rw [this] at hc;simpa using hc
     refine J2 H4 w18 sl [] B _ _ _ (C13.hst h0 hs18) (fun _ hd=>?_) (fun h=>by rw [hnk] at h;cases h) (fun h=>by rw [hnk] at h;cases h) (fun h=>by rw [hnk] at h;cases h)
     obtain ⟨_,i2,i3⟩:=inv hd
     rw [i2,decide_eq_true i3] at hnk;cases hnk
  ·have htB:t∈B:=by simpa using hb
   intro H2 w4 hs4
   have C4:=C2.hst h0 hs4
   have hnB:(!decide (t∈B))=false:=by simp [htB]
   rw [hnB]
   exact J1f 0 0 0 H2 w4 sl [] B C4 (hp0.bar t htB)
theorem oI (k p:Addr) (t:Int) (w0:World) {L:Sp.Pool} {G:List Int} {S:List Sp.Way} {F FP:NP} (hW:Sp.Wf L) (hk:Sp.KnowOk L G S) (h:zD w0 k p G S F) (hP:jN w0 p L FP) :
  Calls prog 51 #[.pointer (some k),.int .i64 t] w0 (fun e w'=>∃r:Sl,∃ok:Bool,e=.returned (.tuple #[r.v,.bool ok])∧∃l:List Sp.Step,RetO w0 157 4 (l.map uD) r w'∧(ok=true↔Sp.Drv L (fun x=>x∈Sp.jG S) t)∧(ok=false→l=[])∧(ok=true→l≠[]∧(∀i (hi:i<l.length),Sp.fol L G (l.take i) l[i]=true)∧(l.map Sp.Step.t).Nodup∧Sp.tAt l ((l.length:Int) - 1)=t∧∀s∈l,Sp.Sub L t s.t∨s.t∈Sp.jG S)∧(ok=true→∀x,x∈l.map Sp.Step.t↔Sp.Dp L S t x)):=by
 suffices key:∀K:Sl→Bool→WP,(∀r ok w' l,RetO w0 157 4 (l.map uD) r w'→(ok=true↔Sp.Drv L (fun x=>x∈Sp.jG S) t)→(ok=false→l=[])→(ok=true→l≠[]∧(∀i (hi:i<l.length),Sp.fol L G (l.take i) l[i]=true)∧(l.map Sp.Step.t).Nodup∧Sp.tAt l ((l.length:Int) - 1)=t∧∀s∈l,Sp.Sub L t s.t∨s.t∈Sp.jG S)→(ok=true→∀x,x∈l.map Sp.Step.t↔Sp.Dp L S t x)→K r ok w')→m_N1 (some k) t w0 K from
  w_N1 _ _ w0 _ (key _ (fun r ok w' l a b c d e=>⟨l,a,b,c,d,e⟩))
 intro K hK
 unfold m_N1
 intro p1 w1 h1
 have B1:=Box.of_new h1
 refine ⟨_,B1.cell0,Br.f rfl ?_⟩
 intro p2 w2 h2 p3 w3 h3 p4 w4 h4
 have B4:=Box.of_new h4
 refine ⟨B4.canW0 (by simp),?_⟩
 rintro _ rfl
 have X4:=Ext.setCell (w:=w4) p4 (.map (some p3.block))
 have B4':=B4.set0 (v:=.map (some p3.block))
 have s1:=h1.at_size;have s2:=h2.at_size;have s3:=h3.at_size;have s4:=h4.at_size
 have E1:Pure w0 w1:=Ext.new h1
 have E2:Pure w1 w2:=Ext.new h2
 have E3:Pure w2 w3:=Ext.new h3
 have E4:Pure w3 w4:=Ext.new h4
 have l1:=B1.lt
 have l2:=(Box.of_new h2).lt
 have l3:=(IMap.of_new (f:=oS) h3).lt
 have l4:=B4.lt
 have z4:=X4.size
 generalize hw5:w4.setCell p4 (.map (some p3.block))=w5 at *
 intro p5 w6 h6 p6 w7 h7
 have B7:=Box.of_new h7
 refine ⟨B7.canW0 (by simp),?_⟩
 rintro _ rfl
 have X7:=Ext.setCell (w:=w7) p6 (.map (some p5.block))
 have B7':=B7.set0 (v:=.map (some p5.block))
 have s6:=h6.at_size;have s7:=h7.at_size
 have E6:Pure w5 w6:=Ext.new h6
 have E7:Pure w6 w7:=Ext.new h7
 have l6:=(IMap.of_new (f:=tru) h6).lt
 have l7:=B7.lt
 have z7:=X7.size
 generalize hw8:w7.setCell p6 (.map (some p5.block))=w8 at *
 intro p7 w9 h9
 have B9:=Box.of_new h9
 refine ⟨B9.canW0 (by simp),?_⟩
 rintro _ rfl
 have X9:=Ext.setCell (w:=w9) p7 (.func (.func 92) #[] #[.pointer (some p4),.pointer (some p6),.pointer (some p1),.pointer (some p7),.pointer (some p2)])
 have B9':=B9.set0 (v:=.func (.func 92) #[] #[.pointer (some p4),.pointer (some p6),.pointer (some p1),.pointer (some p7),.pointer (some p2)])
 have s9:=h9.at_size
 have E9:Pure w8 w9:=Ext.new h9
 have l9:=B9.lt
 have z9:=X9.size
 have g1:=E1.size;have g2:=E2.size;have g3:=E3.size;have g4:=E4.size;have g6:=E6.size;have g7:=E7.size;have g9:=E9.size
 generalize hw10:w9.setCell p7 (.func (.func 92) #[] #[.pointer (some p4),.pointer (some p6),.pointer (some p1),.pointer (some p7),.pointer (some p2)])=w10 at *
 have hnil:∀b,¬ Sl.nil.blk b:=fun b hb=>by obtain ⟨a,h,_⟩:=hb;cases h
 have T5:Pure w0 w5:=(((E1.trans E2).trans E3).trans E4).trans' X4 (fun i hi e=>by omega)
 have T8:Pure w5 w8:=(E6.trans E7).trans' X7 (fun i hi e=>by omega)
 have T10:Pure w8 w10:=E9.trans' X9 (fun i hi e=>by omega)
 have T:Pure w0 w10:=(T5.trans T8).trans T10
 have T2:Pure w2 w5:=(E3.trans E4).trans' X4 (fun i hi e=>by omega)
 have T1:Pure w1 w5:=E2.trans T2
 have T3:Pure w3 w5:=E4.trans' X4 (fun i hi e=>by omega)
 have T6:Pure w6 w8:=E7.trans' X7 (fun i hi e=>by omega)
 have T5':Pure w5 w10:=T8.trans T10
 have h0:SaysAt w10 k p p4 p6 p1 p7 p2 p3.block p5.block L G S F FP Sl.nil [] []:=by
  refine ⟨⟨(B4'.pure T5').cell0,(B7'.pure T10).cell0,(B1.pure (T1.trans T5')).cell0,B9'.cell0,(Box.of_new h2).pure (T2.trans T5'),(IMap.of_new h3).pure (T3.trans T5'),(IMap.of_new h6).pure (T6.trans T10),Rws.nil _ _ _,?_,by omega,by omega,by omega,hnil _,hnil _,hnil _⟩,h.pure T,hP.pure T,?_,?_⟩
  ·rintro b (rfl | rfl | rfl | hb)
   ·omega
   ·omega
   ·omega
   ·exact (hnil b hb).elim
  ·rintro b hb (rfl | rfl | rfl | hx)
   ·have:=h.lt hb;omega
   ·have:=h.lt hb;omega
   ·have:=h.lt hb;omega
   ·exact hnil b hx
  ·rintro b hb (rfl | rfl | rfl | hx)
   ·have:=hP.lt hb;omega
   ·have:=hP.lt hb;omega
   ·have:=hP.lt hb;omega
   ·exact hnil b hx
 refine ⟨_,h0.prf.a4,92,#[],_,rfl,call92,?_⟩
 refine (c_says k p p4 p6 p1 p7 p2 p3.block p5.block hW hk _ t w10 Sl.nil [] [] (Nat.lt_succ_self _) h0 (Sp.PrfOk.nil _ _ _)).mono ?_
 rintro _ w11 ⟨r1,ok,rfl,sl',M,B',hret⟩
 refine ⟨r1,ok,rfl,fun hc=>?_,fun hc=>?_⟩
 ·have hf:ok=false:=by simpa using hc
  subst hf
  refine hK Sl.nil false w11 [] ⟨Rws.nil _ _ _,fun b hb=>(hnil b hb).elim,T.trans' hret.ext (fun i hi hx=>?_)⟩ hret.drv (fun _=>rfl) (fun h=>by cases h) (fun h=>by cases h)
  rcases hx with rfl | rfl | rfl | hx
  ·omega
  ·omega
  ·omega
  ·exact (hnil _ hx).elim
 ·have ht:ok=true:=by simpa using hc
  subst ht
  have hst:=hret.st
  have hpf:=hret.prf
  have hidx:=hret.idx rfl
  simp only [List.nil_append] at hst hpf hidx
  obtain ⟨i,_,hi,hit⟩:=hidx
  refine ⟨sl',hst.prf.a5.cell0,?_⟩
  refine hK sl' true w11 M ⟨hst.prf.ls,fun b hb=>?_,T.trans' hret.ext (fun i hi hx=>?_)⟩ hret.drv (fun h=>by cases h) (fun _=>⟨?_,hpf.fol,hpf.nd,?_,fun s hs=>(hret.new s hs).2⟩) (fun _ x=>⟨fun hx=>?_,fun hx=>?_⟩)
  ·rcases hret.own b hb with h | h
   ·exact (hnil b h).elim
   ·have:=T.size;omega
  ·rcases hx with rfl | rfl | rfl | hx
   ·omega
   ·omega
   ·omega
   ·exact (hnil _ hx).elim
  ·intro e;subst e;simp at hi
  ·have:=hret.last rfl
   simp only [List.nil_append] at this
   rcases this with rfl | h
   ·simp at hi
   ·exact h
  ·obtain ⟨s,hs,rfl⟩:=List.mem_map.1 hx
   exact hret.dp s hs
  ·have hcl:=hret.cl
   simp only [List.nil_append] at hcl
   exact Sp.Dp.all hcl (List.mem_map.2 ⟨_,List.getElem_mem hi,hit⟩) hx
theorem gG (k p:Addr) (t:Int) (w0:World) {L:Sp.Pool} {G:List Int} {S:List Sp.Way} {F FP:NP} (hW:Sp.Wf L) (hk:Sp.KnowOk L G S) (h:zD w0 k p G S F) (hP:jN w0 p L FP) :
  Calls prog 51 #[.pointer (some k),.int .i64 t] w0 (fun e w'=>∃r:Sl,∃ok:Bool,e=.returned (.tuple #[r.v,.bool ok])∧∃l:List Sp.Step,RetO w0 157 4 (l.map uD) r w'∧(ok=true↔Sp.Drv L (fun x=>x∈Sp.jG S) t)∧(ok=false→l=[])∧(ok=true→l≠[]∧(∀i (hi:i<l.length),Sp.fol L G (l.take i) l[i]=true)∧(l.map Sp.Step.t).Nodup∧Sp.tAt l ((l.length:Int) - 1)=t∧∀s∈l,Sp.Sub L t s.t∨s.t∈Sp.jG S)):=by
 refine (oI k p t w0 hW hk h hP).mono ?_
 rintro _ w' ⟨r,ok,rfl,l,a,b,c,d,_⟩
 exact ⟨r,ok,rfl,l,a,b,c,d⟩
theorem vP (k p:Addr) (t:Int) (w0:World) {L:Sp.Pool} {G:List Int} {S:List Sp.Way} {F FP:NP} (hW:Sp.Wf L) (hk:Sp.KnowOk L G S) (h:zD w0 k p G S F) (hP:jN w0 p L FP) :
  Calls prog 53 #[.pointer (some k),.int .i64 t] w0 (fun e w'=>∃r:Bool,e=.returned (.bool r)∧((r=true↔Sp.Drv L (fun x=>x∈Sp.jG S) t)∧Pure w0 w')):=by
 refine w_X1 _ _ w0 (fun r w'=>(r=true↔Sp.Drv L (fun x=>x∈Sp.jG S) t)∧Pure w0 w') ?_
 unfold m_X1
 refine (gG k p t w0 hW hk h hP).mono ?_
 rintro _ w1 ⟨r,ok,rfl,l,hr,hd,_,_⟩
 exact ⟨r,ok,rfl,hd,hr.pure⟩
theorem lU (k:Int) {r:Int} (h:r=1∨r=2∨r=3):s_A k r=(true,false):=by
 rcases h with rfl | rfl | rfl <;> simp [s_A]
theorem xB (k:Int):s_A k 5=(true,k != 5):=by simp [s_A]
theorem xA (k:Int) {r:Int} (h:¬ (r=1∨r=2∨r=3)) (h5:r≠5):s_A k r=(false,false):=by
 have h1:r≠1:=fun e=>h (.inl e);have h2:r≠2:=fun e=>h (.inr (.inl e));have h3:r≠3:=fun e=>h (.inr (.inr e));have e1:(r == 1)=false:=by simpa using h1
 have e2:(r == 2)=false:=by simpa using h2
 have e3:(r == 3)=false:=by simpa using h3
 have e5:(r == 5)=false:=by simpa using h5
 simp [s_A,e1,e2,e3,e5]
theorem jBO {S:NP} {w:World} {s:Sl} {l:List Sp.Step} (h:Lst S w 4 s (l.map uD)) {v:Int} (h0:0≤v) (hv:v.toNat<l.length):∃a,At s v 4 a∧S a.block∧Row w a (uD l[v.toNat]):=by
 obtain ⟨a,h1,h2,h3⟩:=h.at_ v.toNat (by simpa using hv);refine ⟨a,?_,h2,by simpa using h3⟩;obtain ⟨q1,q2,b,q3,q4⟩:=h1;rw [Int.toNat_natCast] at q4;exact ⟨h0,by rw [h.len];simp;omega,b,q3,q4⟩
theorem yC {n:Nat} {v:Int}:Sp.ahead n v=true↔0≤v∧v<n:=by simp [Sp.ahead]
theorem jDG {l:List Sp.Step} {i:Nat} {v:Int} (h0:0≤v) (hv:v<i) (hi:i≤l.length):Sp.tAt (l.take i) v=(l[v.toNat]'(by omega)).t:=by
 have:v.toNat<i:=by omega
 simp [Sp.tAt,List.getElem?_take,this,show v.toNat<l.length by omega]
theorem lI {Sg Ss:NP} (p:Addr) (sg sl:Sl) (G:List Int) (l:List Sp.Step) (i:Nat) (w0:World) {L:Sp.Pool} {FP:NP} (hi:i<l.length) (hP:jN w0 p L FP) (hok:Sp.Ok L) (hg:Lst Sg w0 1 sg (tmr G)) (hs:Lst Ss w0 4 sl (l.map uD)) (hG:G.length≤1000000) :
  Calls prog 94 #[.pointer (some p),sg.v,sl.v,.int .i64 i] w0 (fun e w'=>∃r:Bool,e=.returned (.bool r)∧(r=Sp.fol L G (l.take i) l[i]∧Pure w0 w')):=by
 suffices key:∀K:Bool→WP,(∀w',Pure w0 w'→K (Sp.fol L G (l.take i) l[i]) w')→m_H (some p) sg sl i w0 K from
  w_H _ _ _ _ w0 _ (key _ (fun _ h=>⟨rfl,h⟩))
 intro K hK
 unfold m_H
 obtain ⟨a1,at1,_,row1⟩:=jBO hs (v:=(i:Int)) (by omega) (by simpa using hi)
 have hti:((i:Int).toNat)=i:=by simp
 simp only [hti] at row1
 generalize hsi:l[i]=s at *
 obtain ⟨ru,va,vb,vt⟩:=s
 refine ⟨a1,at1,ru,va,vb,vt,row1,?_⟩
 intro H1 w2 hs2
 have E2:=hs2.first
 refine (uB p vt w2 (hP.pure E2) hok).mono ?_
 rintro _ w3 ⟨nk,nf,nt,nu,nx,na,nb,ok,rfl,⟨hn,rfl⟩,E3⟩
 have E03:=E2.trans E3
 refine ⟨_,_,_,_,_,_,_,_,rfl,E3.keptP,fun hc=>?_,fun hc=>?_⟩
 ·intro H2 w5 hs5
  have hin:Sp.inP L vt=false:=by simpa using hc
  have:=hK w5 (E03.hst hs5)
  unfold Sp.fol at this;rw [if_pos hin] at this;exact this
 have hin:¬ Sp.inP L vt=false:=by simpa using hc
 have hk1:(Sp.jD L vt).kind=nk:=by rw [← hn]
 have hfr:(Sp.jD L vt).frm=nf:=by rw [← hn]
 have hto:(Sp.jD L vt).to=nt:=by rw [← hn]
 have ha:(Sp.jD L vt).a=na:=by rw [← hn]
 have hb:(Sp.jD L vt).b=nb:=by rw [← hn]
 have hlen:(l.take i).length=i:=by rw [List.length_take];omega
 have hfol : Sp.fol L G (l.take i) ⟨ru, va, vb, vt⟩ = (if ru = 0 then va == 0 && vb == 0 && decide (vt ∈ G)
   else if ru=1∨ru=2∨ru=3 then Sp.ahead i va && vb == 0 && Sp.gL L ru (Sp.tAt (l.take i) va) vt
   else if ru=4 then va == 0 && vb == 0 && Sp.qH nk
   else if ru=5 then
    if nk=4 then Sp.ahead i va && Sp.ahead i vb && Sp.tAt (l.take i) va == na && Sp.tAt (l.take i) vb == nb
    else if nk=5 then Sp.ahead i va && vb == 0 && Sp.tAt (l.take i) va == na
    else if Sp.zJ nk=true then Sp.ahead i va && Sp.ahead i vb && Sp.tAt (l.take i) va == na && (Sp.jD L (Sp.tAt (l.take i) vb)).kind == 6 && (Sp.jD L (Sp.tAt (l.take i) vb)).frm == Sp.kI (Sp.jD L vt)
    else false
   else false):=by
  unfold Sp.fol;simp only;rw [if_neg hin,hlen,hk1,ha,hb]
 rw [hfol] at hK
 clear hfol
 have hfree:((((nk:Int) == 1) || ((nk:Int) == 2)) || ((nk:Int) == 3))=Sp.qH nk:=rfl
 have getS:∀(v:Int),0≤v→v<i→∃a,At sl v 4 a∧∃x,Sp.tAt (l.take i) v=x∧∀w,Pure w0 w→w.cell? (a.add 3)=some (.int .i64 x):=by
  intro v h0 hv;obtain ⟨a,hat,_,hrow⟩:=jBO hs h0 (by omega);refine ⟨a,hat,_,rfl,fun w E=>?_⟩;have:=(E.row hrow (fun h=>h)) 3 (by simp [uD]);rw [this,jDG h0 hv (by omega)];rfl
 rintro y1 rfl
 by_cases hr:ru=1∨ru=2∨ru=3
 ·-- it is seen
  have hr0:ru≠0:=by omega
  rw [if_neg hr0,if_pos hr] at hK
  rw [lU nk hr]
  refine ⟨fun hy=>?_,fun hy=>Br.t rfl ?_⟩
  ·intro H17 w21 hs21
   have hz:(Sp.ahead i va && vb == 0)=false:=by
    simp at hy;rcases hy with h | h
    ·simp [Sp.ahead];omega
    ·simp [h]
   have:=hK w21 (E03.hst hs21)
   rw [hz] at this;exact this
  ·have hab:(0≤va∧va<i)∧vb=0:=by simp at hy;omega
   obtain ⟨a7,at7,x,hx,c7⟩:=getS va hab.1.1 hab.1.2
   refine ⟨a7,at7,?_⟩
   intro H33 w37 hs37
   have E37:=E03.hst hs37
   refine ⟨x,c7 w37 E37,?_⟩
   refine (uB p x w37 (hP.pure E37) hok).mono ?_
   rintro _ w63 ⟨xk,xf,xt,xu,xx,xa,xb,_,rfl,⟨hxn,_⟩,E63⟩
   refine ⟨_,_,_,_,_,_,_,_,rfl,E63.keptP,?_⟩
   intro w64 hs64
   have E64:=(E37.trans E63).hst hs64
   unfold m_H_j1
   rw [lU nk hr]
   refine Br.f rfl ?_
   have hxk:(Sp.jD L x).kind=xk:=by rw [← hxn]
   have hxa:(Sp.jD L x).a=xa:=by rw [← hxn]
   have hxb:(Sp.jD L x).b=xb:=by rw [← hxn]
   have hahd:Sp.ahead i va=true:=yC.2 hab.1
   rw [hahd,hab.2,hx] at hK
   unfold m_H_j2
   unfold Sp.gL at hK
   simp only [hxk,hxa,hxb] at hK
   refine Br.f (by simpa using hr0) ⟨fun h=>?_,fun h=>⟨fun h2=>?_,fun h2=>⟨fun h3=>?_,fun h3=>?_⟩⟩⟩
   ·intro H35 w40 hs40
    have h:ru=1:=by simpa using h
    subst h
    simpa using hK w40 (E64.hst hs40)
   ·intro H35 w40 hs40
    have h2:ru=2:=by simpa using h2
    subst h2
    simpa using hK w40 (E64.hst hs40)
   ·intro H35 w40 hs40
    have h3:ru=3:=by simpa using h3
    subst h3
    simpa [Sp.zJ] using hK w40 (E64.hst hs40)
   ·simp at h h2 h3;omega
 rw [if_neg hr] at hK
 by_cases h5:ru=5
 ·-- it is made
  subst h5
  rw [if_neg (by decide),if_neg (by decide),if_pos rfl] at hK
  rw [xB nk]
  have hbad:∀w,Pure w0 w→(Sp.ahead i va=false∨(nk≠5∧Sp.ahead i vb=false)∨(nk=5∧vb≠0))→K false w:=by
   intro w E hh;have hKw:=hK w E;by_cases k4:nk=4
   ·rw [if_pos k4] at hKw;rcases hh with h | ⟨_,h⟩ | ⟨h,_⟩
    ·simpa [h] using hKw
    ·simpa [h] using hKw
    ·omega
   ·rw [if_neg k4] at hKw;by_cases k5:nk=5
    ·rw [if_pos k5] at hKw;rcases hh with h | ⟨h,_⟩ | ⟨_,h⟩
     ·simpa [h] using hKw
     ·exact absurd k5 h
     ·have:(vb == 0)=false:=by simpa using h
      simpa [this] using hKw
    ·rw [if_neg k5] at hKw;split at hKw
     ·rcases hh with h | ⟨_,h⟩ | ⟨h,_⟩
      ·simpa [h] using hKw
      ·simpa [h] using hKw
      ·exact absurd h k5
     ·exact hKw
  refine ⟨fun hy=>?_,fun hy=>Br.t rfl ?_⟩
  ·intro H17 w21 hs21
   refine hbad w21 (E03.hst hs21) ?_
   simp only [Bool.true_and,Bool.not_true,Bool.false_and,Bool.or_false,Bool.or_eq_true,Bool.and_eq_true,decide_eq_true_eq,bne_iff_ne,ne_eq,Bool.not_eq_true',bne_eq_false_iff_eq] at hy
   rcases hy with (h | ⟨h1,h2⟩) | ⟨h1,h2⟩
   ·left;simp [Sp.ahead];omega
   ·right;left;exact ⟨h1,by simp [Sp.ahead];omega⟩
   ·right;right;exact ⟨h1,h2⟩
  ·simp only [Bool.true_and,Bool.not_true,Bool.false_and,Bool.or_false,Bool.or_eq_false_iff,Bool.and_eq_false_imp,decide_eq_false_iff_not,bne_iff_ne,ne_eq,bne_eq_false_iff_eq,Bool.not_eq_true'] at hy
   obtain ⟨⟨⟨q1,q2⟩,q3⟩,q4⟩:=hy
   have hA:0≤va∧va<i:=by omega
   have hahd:Sp.ahead i va=true:=yC.2 hA
   rw [hahd] at hK
   simp only [Bool.true_and] at hK
   obtain ⟨a7,at7,x,hx,c7⟩:=getS va hA.1 hA.2
   rw [hx] at hK
   refine ⟨a7,at7,?_⟩
   intro H33 w37 hs37
   have E37:=E03.hst hs37
   refine ⟨x,c7 w37 E37,?_⟩
   refine (uB p x w37 (hP.pure E37) hok).mono ?_
   rintro _ w63 ⟨xk,xf,xt,xu,xx,xa,xb,_,rfl,⟨hxn,_⟩,E63⟩
   refine ⟨_,_,_,_,_,_,_,_,rfl,E63.keptP,?_⟩
   intro w64 hs64
   have E64:=(E37.trans E63).hst hs64
   unfold m_H_j1
   rw [xB nk]
   have J2 : ∀ (H : NP) (w : World) (yk yf yt yu : Int) (yx : ByteArray) (ya yb : Int), Pure w0 w → Hst w0 H w H w → (nk ≠ 5 → 0 ≤ vb ∧ vb < i ∧ (⟨yk, yf, yt, yu, yx, ya, yb⟩ : Sp.Node) = Sp.jD L (Sp.tAt (l.take i) vb)) → (nk = 5 → vb = 0) →
     m_H_j2 sg sl 5 va vb vt nk nf nt na nb xk xa xb yk yf yt yu yx ya yb w0 H w K:=by
    intro H w yk yf yt yu yx ya yb E hsw hy1 hy2
    unfold m_H_j2
    refine Br.f rfl (Br.f rfl (Br.f rfl (Br.f rfl (Br.f rfl (Br.t rfl ⟨fun k4=>?_,fun k4=>⟨fun k5=>?_,fun k5=>?_⟩⟩)))))
    ·have k4:nk=4:=by simpa using k4
     obtain ⟨b0,bi,_⟩:=hy1 (by omega)
     obtain ⟨a4,at4,z,hz,c4⟩:=getS vb b0 bi
     rw [if_pos k4,yC.2 ⟨b0,bi⟩,hz] at hK
     refine ⟨a7,at7,?_⟩
     intro w58 hs58
     have E58:=E.hst hs58
     refine ⟨x,c7 w58 E58,fun h=>⟨a4,at4,z,c4 w58 E58,?_⟩,fun h=>?_⟩
     ·have h:(x == na)=true:=h
      simpa [h] using hK w58 E58
     ·have h:(x == na)=false:=h
      simpa [h] using hK w58 E58
    ·have k4:¬ nk=4:=by simpa using k4
     have k5:nk=5:=by simpa using k5
     rw [if_neg k4,if_pos k5,hy2 k5] at hK
     refine ⟨a7,at7,?_⟩
     intro w59 hs59
     have E59:=E.hst hs59
     refine ⟨x,c7 w59 E59,?_⟩
     simpa using hK w59 E59
    ·have k4:¬ nk=4:=by simpa using k4
     have k5:¬ nk=5:=by simpa using k5
     obtain ⟨b0,bi,hyn⟩:=hy1 k5
     rw [if_neg k4,if_neg k5,yC.2 ⟨b0,bi⟩,← hyn] at hK
     have J3:∀(who:Int) (H:NP) (w:World),Pure w0 w→Hst w0 H w H w→Sp.zJ nk=true→who=Sp.kI (Sp.jD L vt)→m_H_j3 sl va na yk yf who w0 H w K:=by
      intro who H w E hsw h7 hw;rw [if_pos h7,← hw] at hK;unfold m_H_j3;refine ⟨a7,at7,?_⟩;intro w57 hs57;have E57:=E.hst hs57;refine ⟨x,c7 w57 E57,fun h=>⟨fun h6=>?_,fun h6=>?_⟩,fun h=>?_⟩
      ·have h:(x == na)=true:=h;have h6:(yk == 6)=true:=h6;simpa [h,h6] using hK w57 E57
      ·have h:(x == na)=true:=h;have h6:(yk == 6)=false:=h6;simpa [h,h6] using hK w57 E57
      ·have h:(x == na)=false:=h;simpa [h] using hK w57 E57
     refine ⟨fun k9=>?_,fun k9=>⟨fun k7=>?_,fun k7=>?_⟩⟩
     ·have k9:nk=9:=by simpa using k9
      exact J3 nt H w E hsw (by rw [k9];rfl) (by unfold Sp.kI;rw [hk1,if_pos k9,hto])
     ·have k9:¬ nk=9:=by simpa using k9
      have k7:Sp.zJ nk=true:=by
       unfold Sp.zJ;cases h7:(nk == 7) <;> cases h8:(nk == 8) <;> simp_all
      intro H52 w60 hs60
      exact J3 nf H52 w60 (E.hst hs60) hs60.here k7 (by unfold Sp.kI;rw [hk1,if_neg k9,hfr])
     ·have k9:¬ nk=9:=by simpa using k9
      have k7:Sp.zJ nk=false:=by
       unfold Sp.zJ;cases h7:(nk == 7) <;> cases h8:(nk == 8) <;> simp_all
      intro H52 w60 hs60
      rw [if_neg (by simp [k7])] at hK
      exact hK w60 (E.hst hs60)
   have hs64':=hs64.here
   refine ⟨fun h=>?_,fun h=>?_⟩
   ·have k5:nk≠5:=by simpa using h
    have hB:0≤vb∧vb<i:=by have:=q3 k5;omega
    obtain ⟨a6,at6,z,hz,c6⟩:=getS vb hB.1 hB.2
    refine ⟨a6,at6,z,c6 w64 E64,?_⟩
    refine (uB p z w64 (hP.pure E64) hok).mono ?_
    rintro _ w61 ⟨yk,yf,yt,yu,yx,ya,yb,_,rfl,⟨hyn,_⟩,E61⟩
    refine ⟨_,_,_,_,_,_,_,_,rfl,E61.keptP,?_⟩
    intro w62 hs62
    exact J2 _ w62 _ _ _ _ _ _ _ ((E64.trans E61).hst hs62) hs62.here (fun _=>⟨hB.1,hB.2,by rw [hz];exact hyn⟩) (fun h=>absurd h k5)
   ·have k5:nk=5:=by simpa using h
    exact J2 _ w64 _ _ _ _ _ _ _ E64 hs64' (fun h=>absurd k5 h) (fun _=>q4 k5)
 rw [if_neg h5] at hK
 rw [xA nk hr h5]
 refine ⟨fun hy=>?_,fun hy=>Br.f rfl ?_⟩
 ·intro H17 w21 hs21
  have hz:(va == 0 && vb == 0)=false:=by
   cases h1:(va == 0) <;> cases h2:(vb == 0) <;> simp_all
  have:=hK w21 (E03.hst hs21)
  rw [hz] at this
  simpa using this
 ·have hz:va=0∧vb=0:=by simp at hy;omega
  rw [hz.1,hz.2] at hK
  intro H33 w37 hs37
  have E37:=E03.hst hs37
  unfold m_H_j1
  rw [xA nk hr h5]
  refine Br.f rfl ?_
  unfold m_H_j2
  refine ⟨fun h0=>?_,fun h0=>Br.f (by simpa using fun e=>hr (.inl e)) (Br.f (by simpa using fun e=>hr (.inr (.inl e))) (Br.f (by simpa using fun e=>hr (.inr (.inr e))) ⟨fun h4=>?_,fun h4=>Br.f (by simpa using h5) ?_⟩))⟩
  ·have h0:ru=0:=by simpa using h0
   rw [if_pos h0] at hK
   refine (yY sg G vt w37 (hg.pure E37) hG).mono ?_
   rintro _ w38 ⟨r2,rfl,rfl,rfl⟩
   exact ⟨_,rfl,Kept.refl _,by simpa using hK w38 E37⟩
  ·have h0:¬ ru=0:=by simpa using h0
   have h4:ru=4:=by simpa using h4
   rw [if_neg h0,if_pos h4] at hK
   intro H49 w54 hs54
   simpa [Sp.qH] using hK w54 (E37.hst hs54)
  ·have h0:¬ ru=0:=by simpa using h0
   have h4:¬ ru=4:=by simpa using h4
   rw [if_neg h0,if_neg h4] at hK
   exact hK w37 E37
theorem jDY {L:Sp.Pool} {G:List Int} {l:List Sp.Step} {j n:Nat} (hj:j<l.length):Sp.gK L G l (n+1) j=if Sp.fol L G (l.take j) l[j]=true then Sp.gK L G l n (j+1) else some j:=by
 rw [Sp.gK,List.getElem?_eq_getElem hj]
theorem jFJ {L:Sp.Pool} {G:List Int} {l:List Sp.Step} {j n:Nat} (hj:l.length≤j):Sp.gK L G l n j=none:=by
 cases n with
 | zero=>rfl
 | succ n=>rw [Sp.gK,List.getElem?_eq_none hj]
theorem gH {Sg Ss:NP} (p:Addr) (sg sl:Sl) (G:List Int) (l:List Sp.Step) (goal:Int) (w0:World) {L:Sp.Pool} {FP:NP} (hP:jN w0 p L FP) (hok:Sp.Ok L) (hg:Lst Sg w0 1 sg (tmr G)) (hs:Lst Ss w0 4 sl (l.map uD)) (hG:G.length≤1000000) (hl:l.length≤1000000) :
  Calls prog 52 #[.pointer (some p),sg.v,sl.v,.int .i64 goal] w0 (fun e w'=>∃r1:Int,∃r2:Int,e=.returned (.tuple #[.int .i64 r1,.int .i64 r2])∧((r1,r2)=Sp.yX L G l goal∧Pure w0 w')):=by
 suffices key:∀K:Int→Int→WP,(∀r1 r2 w',(r1,r2)=Sp.yX L G l goal→Pure w0 w'→K r1 r2 w')→m_U (some p) sg sl goal w0 K from
  w_U _ _ _ _ w0 _ (key _ (fun r1 r2 w' h E=>⟨h,E⟩))
 intro K hK
 unfold m_U
 have hsl:sl.len=l.length:=by rw [hs.len];simp
 refine Br.f rfl ⟨fun i w=>∃j:Nat,i=j∧j≤l.length∧Pure w0 w∧Sp.gK L G l l.length 0=Sp.gK L G l (l.length - j) j,fun i _=>((l.length:Int) - i).toNat,⟨0,rfl,Nat.zero_le _,Ext.refl _,by simp⟩,?_⟩
 rintro _ wl ⟨j,rfl,hj,E,hb⟩
 unfold m_U_l1
 refine ⟨fun h=>?_,fun h=>?_⟩
 ·have hlt:=zO hsl h
  refine (lI p sg sl G l j wl hlt (hP.pure E) hok (hg.pure E) (hs.pure E) hG).mono ?_
  rintro _ w1 ⟨r,rfl,rfl,E1⟩
  have hn:l.length - j=(l.length - (j+1))+1:=by omega
  rw [hn,jDY hlt] at hb
  refine ⟨_,rfl,fun hc=>?_,fun hc=>?_⟩
  ·have hf:Sp.fol L G (l.take j) l[j]=false:=by simpa using hc
   rw [if_neg (by simp [hf])] at hb
   exact hK _ _ _ (by unfold Sp.yX;rw [hb]) (E.trans E1)
  ·have hf:Sp.fol L G (l.take j) l[j]=true:=by simpa using hc
   rw [if_pos hf] at hb
   rw [zL hlt (by omega)]
   exact ⟨⟨j+1,rfl,hlt,E.trans E1,hb⟩,kZ hlt⟩
 ·have hge:=kA hsl hj h
  subst hge
  rw [jFJ (Nat.le_refl _)] at hb
  have hch:Sp.yX L G l goal=if l.length=0∨Sp.tAt l ((l.length:Int) - 1)≠goal then (81,(l.length:Int)) else (0,0):=by unfold Sp.yX;rw [hb]
  rw [hsl]
  refine ⟨fun h0=>?_,fun h0=>?_⟩
  ·have h0:l.length=0:=by simpa using h0
   exact hK _ _ _ (by rw [hch,if_pos (.inl h0)]) E
  ·have h0:l.length≠0:=by simpa using h0
   rw [IntWalk.i64_in _ (by omega)]
   obtain ⟨a,hat,_,hrow⟩:=jBO hs (v:=(l.length:Int) - 1) (by omega) (by omega)
   have e:((l.length:Int) - 1)=((l.length - 1:Nat):Int):=by omega
   have ht:Sp.tAt l ((l.length:Int) - 1)=(l[((l.length:Int) - 1).toNat]'(by omega)).t:=by
    simp only [e,Int.toNat_natCast];exact Sp.uP (by omega)
   refine ⟨a,hat,_,((E.row hrow (fun h=>h)) 3 (by simp [uD])).trans rfl,fun h=>?_,fun h=>?_⟩
   ·have h:Sp.tAt l ((l.length:Int) - 1)≠goal:=by rw [ht];simpa using h
    exact hK _ _ _ (by rw [hch,if_pos (.inr h)]) E
   ·have h:Sp.tAt l ((l.length:Int) - 1)=goal:=by rw [ht];simpa using h
    exact hK _ _ _ (by rw [hch,if_neg (by simp [h0,h])]) E
end Go.Proofs
end
section
open Go Go.SE
open Go.IntKind renaming i64 → q6
namespace Go.Proofs
open Tryz
set_option maxRecDepth 100000
set_option maxHeartbeats 4000000
attribute [local irreducible] wpL wpX opE wpE Calls
def m_R2 (p1:Option Addr) (t1:Int) (w0:World) (K:Bool→WP):Prop :=Br (decide (t1≥1)) (∃a1,p1=some a1∧∃v1:Sl,w0.cell? a1=some v1.v∧K (decide (t1≤(v1.len:Int))) w0) (K false w0)
theorem w_R2 (p1 t1 w0 K) (h:m_R2 p1 t1 w0 K):
  Calls prog 60 #[(vp p1),(vi t1)] w0 (fun e w'=>∃r1,e=.returned (vb r1)∧K r1 w'):=by
 refine cw (args:=[(vp p1),(vi t1)]) func60 ntmps60 (eg (q0 (vb false) (ln (eg (q0 (vi t1) (q0 (vb (decide (t1≥1))) (q0 (vb (decide (t1≥1))) ?_)))))))
 obtain ⟨hg1,h⟩|⟨hg1,h⟩:=h.br
 refine qk 7 hg1 (qk 7 hg1 ?_)
 obtain ⟨a1,hp1,h⟩:=h
 refine q4 7 hg1 (xn hp1) (qk 7 hg1 ?_)
 obtain ⟨v1,hv1,h⟩:=h
 refine q4 7 hg1 (xl (isAgg42 _) hv1) (qk 7 hg1 (qk 7 hg1 (q2 (vb (decide (t1≤(v1.len:Int)))) (xT hg1) (q (ln (er (rs1 results60 ⟨(decide (t1≤(v1.len:Int))),rfl,h⟩)))))))
 refine sj2 7 hg1 (sj5 7 hg1 (q2 (vb false) (xF hg1) (q (ln (er (rs1 results60 ⟨false,rfl,h⟩))))))
def m_S2 (p1:Option Addr) (t1:Int) (w0:World) (K:Int→Int→Int→Int→ByteArray→Int→Int→Bool→WP):Prop :=∀H1 w1,Hst w0 None w0 H1 w1→Calls prog 60 #[(vp p1),(vi t1)] w1 (fun e w2=>∃r1,e=.returned (vb r1)∧Kept H1 w1 w2∧Br (!r1) (∀w3,Hst w0 H1 w2 H1 w3→K 0 0 0 0 ⟨#[]⟩ 0 0 false w3) (∃a1,p1=some a1∧∃v1:Sl,w2.cell? a1=some v1.v∧∃a2:Addr,At v1 (q6.wrap (t1 - 1)) 7 a2∧∃aN aO aP aQ aR bG bH,Row w2 a2 (Aa aN aO aP aQ aR bG bH)∧∀w4,Hst w0 H1 w2 H1 w4→K aN aO aP aQ aR bG bH true w4))
theorem w_S2 (p1 t1 w0 K) (h:m_S2 p1 t1 w0 K):
  Calls prog 45 #[(vp p1),(vi t1)] w0 (fun e w'=>∃bN bO bP bQ bR bZ cA r2,e=.returned (.tuple #[(Ab bN bO bP bQ bR bZ cA),(vb r2)])∧K bN bO bP bQ bR bZ cA r2 w'):=by
 refine cw (args:=[(vp p1),(vi t1)]) func45 ntmps45 ?_
 obtain ⟨hs,hb⟩:=st0 w0
 refine eg (nw3 (Ag 0 0 0 0 0 0) 86 hs hb (jT (zeroValue86 _) rfl) fun p2 w1 H1 hs hb=>q (ln (jA (eg (qb ?_)))))
 have ⟨h,hs⟩:=hs.hr (h H1 w1)
 refine sc call60 (h.mono fun e w2 ⟨r1,k,hk,h⟩=>have ⟨hs,hb⟩:=hk.hh hs hb;⟨_,k,?_⟩)
 refine q (ln (cbr h ?_ ?_))<;>intro h
 refine eg (q (vG (jP rfl) (xo p2 (Ag 0 0 0 0 0 0) (sizeOf86 _) (hb.k0 0 7 gZ)) ?_))
 intro w3 hn2
 obtain ⟨hs,hb⟩:=hb.st1 0 hs hn2 gZ
 refine q (ln (er (jW ?_)))
 have ⟨h,hs⟩:=hs.hr (h w3)
 refine resG (.inl rfl) (vs:=[(Ai 0 0 0 0 0 0),(vb false)]) (v:=(.tuple #[(Ai 0 0 0 0 0 0),(vb false)])) results45 ⟨(rva (isAgg86 _) (sizeOf86 _) (hb.r0 0 7 gZ)),(rvT (by kernel_rfl)),trivial⟩ (by kernel_rfl) ⟨0,0,0,0,⟨#[]⟩,0,0,false,rfl,h⟩
 refine jC (jJ (eg (q (qm h fun a1 h=>q (ql (isAgg42 _) h fun v1 h=>qb (qi (runUnderlying42 _) (sizeOf86 _) h fun a2 h=>?_))))))
 obtain ⟨aN,aO,aP,aQ,aR,bG,bH,hv1,h⟩:=h
 refine qa (isAgg86 _) (sizeOf86 _) hv1 (vG (jP rfl) (xo p2 (Aa aN aO aP aQ aR bG bH) (sizeOf86 _) (hb.k0 0 7 gZ)) ?_)
 intro w4 hn3
 obtain ⟨hs,hb⟩:=hb.st1 0 hs hn3 gZ
 refine q (ln (er ?_))
 have ⟨h,hs⟩:=hs.hr (h w4)
 refine resG (.inl rfl) (vs:=[(Ab aN aO aP aQ aR bG bH),(vb true)]) (v:=(.tuple #[(Ab aN aO aP aQ aR bG bH),(vb true)])) results45 ⟨(rva (isAgg86 _) (sizeOf86 _) (hb.r0 0 7 gZ)),(rvT (by kernel_rfl)),trivial⟩ (by kernel_rfl) ⟨aN,aO,aP,aQ,aR,bG,bH,true,rfl,h⟩
def s_B (kind1:Int):Int :=(cond (kind1 == 4) 2 (cond (cond (kind1 == 5) (kind1 == 5) (cond (kind1 == 7) (kind1 == 7) (cond (kind1 == 8) (kind1 == 8) (kind1 == 9)))) 1 0))
theorem pw_B (kind1:Int) (w0:World) :
  Calls prog 46 #[(vi kind1)] w0 (fun e w'=>∃b'0 b'1:Bool,((kind1 == 4)=b'0∧(cond (kind1 == 5) (kind1 == 5) (cond (kind1 == 7) (kind1 == 7) (cond (kind1 == 8) (kind1 == 8) (kind1 == 9))))=b'1)∧(e=.returned (vi (cond b'0 2 (cond b'1 1 0))))∧Pure w0 w'):=by
 refine cw (args:=[(vi kind1)]) func46 ntmps46 (eg (q0 (vi 0) (ln (jA (eg (q0 (vi kind1) (ln ?_)))))))
 refine jF (eg (qb (ln (jZ (t:=(kind1 == 4)) (by kernel_rfl) (fun hc1=>?_) (fun hc1=>?_)))))
 refine eg (q (ln (er (kG (jW (rs1 results46 (v:=(vi 2)) ⟨true,_,⟨hc1,rfl⟩,by kernel_rfl,Ext.refl _⟩))))))
 refine jA (eg (qb (ln (zC (fun ρ wJ=>∃b1'0 b1'1 b1'2:Bool,((kind1 == 5)=b1'0)∧((kind1 == 7)=b1'1)∧((kind1 == 8)=b1'2)∧w0=wJ∧Has ρ [(6,(vb (cond b1'0 (kind1 == 5) (cond b1'1 (kind1 == 7) (cond b1'2 (kind1 == 8) (kind1 == 9))))))]) ?_ ?_))))
 refine jZ (t:=(kind1 == 5)) (by kernel_rfl) (fun hc5=>?_) (fun hc5=>?_)
 refine jC (jJ ⟨true,_,_,hc5,rfl,rfl,rfl,hm⟩)
 refine eg (qb (ln (jZ (t:=(kind1 == 7)) (by kernel_rfl) (fun hc6=>?_) (fun hc6=>?_))))
 refine jC (jJ ⟨false,true,_,hc5,hc6,rfl,rfl,hm⟩)
 refine eg (qb (ln (jZ (t:=(kind1 == 8)) (by kernel_rfl) (fun hc7=>?_) (fun hc7=>?_))))
 refine jC (jJ ⟨false,false,true,hc5,hc6,hc7,rfl,hm⟩)
 refine rg (qb (ln ⟨false,false,false,hc5,hc6,hc7,rfl,hm⟩))
 rintro ρ w1 ⟨b1'0,b1'1,b1'2,he0,he1,he2,hw,hH⟩
 subst he0
 subst he1
 subst he2
 subst hw
 refine jQ hH (jJ (jZ (t:=(cond (kind1 == 5) (kind1 == 5) (cond (kind1 == 7) (kind1 == 7) (cond (kind1 == 8) (kind1 == 8) (kind1 == 9))))) (by kernel_rfl) (fun hc8=>?_) (fun hc8=>?_)))
 refine eg (q (ln (er (kG (jW (rs1 results46 (v:=(vi 1)) ⟨false,true,⟨hc1,hc8⟩,by kernel_rfl,Ext.refl _⟩))))))
 refine jC (kD (jJ (eg (q (ln (er (rs1 results46 (v:=(vi 0)) ⟨false,false,⟨hc1,hc8⟩,by kernel_rfl,Ext.refl _⟩)))))))
theorem p_B (kind1:Int) (w0:World):Calls prog 46 #[(.int .i64 kind1)] w0 (fun e w'=>e=.returned (.int .i64 (s_B kind1))∧Pure w0 w'):=by
 refine (pw_B kind1 w0).mono ?_;rintro e w' ⟨b'0,b'1,⟨e0,e1⟩,h,E⟩;subst e0;subst e1;exact ⟨h,E⟩
def m_Z_l1 (aE:Sl) (most1 n1 i1:Int) (w0:World) (Hl1:NP) (wl1:World) (Kc1:Int→Int→NP→WP) (K:Int→WP):Prop :=Br ((decide (i1<(aE.len:Int))) && (decide (n1≤most1))) (∃a1:Addr,At aE i1 6 a1∧∀H2 w2,Hst w0 Hl1 wl1 H2 w2→∃aN aO aP aQ aR aX,Row w2 a1 (Ac aN aO aP aQ aR aX)∧Calls prog 26 #[(.agg #[(vi aN),(vi aO),(vi aP),(vu aQ),(vs aR),aX.v]),(vi (q6.wrap (most1 - n1)))] w2 (fun e w3=>∃r1,e=.returned (vi r1)∧Kept H2 w2 w3∧Kc1 (q6.wrap (n1+r1)) (q6.wrap (i1+1)) H2 w3)) (∀H2 w2,Hst w0 Hl1 wl1 H2 w2→K n1 w2)
def m_Z (aD aG:Int) (aH aI:Int) (aJ:ByteArray) (aE:Sl) (most1:Int) (w0:World) (K:Int→WP):Prop :=∀H1 w1,Hst w0 None w0 H1 w1→∃(I1:Int→Int→NP→WP) (mu1:Int→Int→World→Nat),I1 1 0 H1 w1∧∀(n1 i1:Int) (Hl1:NP) (wl1:World),Hst w0 Hl1 wl1 Hl1 wl1→I1 n1 i1 Hl1 wl1→m_Z_l1 aE most1 n1 i1 w0 Hl1 wl1 (fun y'0 y'1 H' w'=>I1 y'0 y'1 H' w'∧mu1 y'0 y'1 w'<mu1 n1 i1 wl1) K
theorem w_Z (aD aG aH aI aJ aE most1 w0 K) (h:m_Z aD aG aH aI aJ aE most1 w0 K):
  Calls prog 26 #[(.agg #[(vi aD),(vi aG),(vi aH),(vu aI),(vs aJ),aE.v]),(vi most1)] w0 (fun e w'=>∃r2,e=.returned (vi r2)∧K r2 w'):=by
 refine cw (args:=[(Ae aD aG aH aI aJ aE),(vi most1)]) func26 ntmps26 ?_
 obtain ⟨hs,hb⟩:=st0 w0
 refine eg (nw3 (Ac aD aG aH aI aJ aE) 49 hs hb xb fun p1 w1 H1 hs hb=>q (ln (eg (q (ln (jA (eg (q (ln (jF ?_))))))))))
 have ⟨h,hs⟩:=hs.hr (h H1 w1)
 obtain ⟨I1,mu1,h0,hr⟩:=h
 refine zI (σ:=Int×Int×NP×World) (fun s ρ w=>w=s.2.2.2∧Has ρ [(1,(vi most1)),(2,(vp (some p1))),(5,(vi s.1)),(6,(vi s.2.1))]∧Hst w0 s.2.2.1 w s.2.2.1 w∧HB s.2.2.1 w [(p1,(Ac aD aG aH aI aJ aE),49)]∧I1 s.1 s.2.1 s.2.2.1 s.2.2.2) (fun s=>mu1 s.1 s.2.1 s.2.2.2) (1,0,H1,w1) ⟨rfl,hm,hs,hb,h0⟩ ?_
 rintro ⟨n1,i1,Hl1,wl1⟩ ρ w ⟨hw,hH,hs,hb,hI⟩
 dsimp only at hw hH hs hb;subst w
 have h:=hr n1 i1 Hl1 wl1 hs hI
 refine jO hH (jA (jA (zC (fun ρ wJ=>∃b1'0:Bool,∃HJ:NP,((decide (i1<(aE.len:Int)))=b1'0)∧Hst w0 Hl1 wl1 HJ wJ∧HB HJ wJ [(p1,(Ac aD aG aH aI aJ aE),49)]∧Has ρ [(1,(vi most1)),(2,(vp (some p1))),(5,(vi n1)),(6,(vi i1)),(16,(vb (b1'0 && (decide (n1≤most1)))))]) ?_ ?_)))
 refine rg (qb (q3 (xl (isAgg22 _) (hb.d 0 5 gZ)) (qc ?_)))
 rcases bte (decide (i1<(aE.len:Int))) with hg2 | hg2
 refine qk 12 hg2 (qk 12 hg2 (qk 12 hg2 (q2 (vb (decide (n1≤most1))) (xT hg2) (ln ⟨true,_,hg2,hs,hb,hm⟩))))
 refine sj3 12 hg2 (q2 (vb false) (xF hg2) (ln ⟨false,_,hg2,hs,hb,hm⟩))
 rintro ρ w2 ⟨b1'0,H2,he0,hs,hb,hH⟩
 subst he0
 refine jQ hH (jJ (cbr h ?_ ?_))<;>intro h
 refine jC (jJ (jA (jF (rg (qb (q3 (xl (isAgg22 _) (hb.d 0 5 gZ)) (q (qi (runUnderlying22 _) (sizeOf49 _) h fun a1 h=>?_))))))))
 have ⟨h,hs⟩:=hs.hr (h H2 w2)
 obtain ⟨aN,aO,aP,aQ,aR,aX,hv1,h⟩:=h
 refine qa (isAgg49 _) (sizeOf49 _) hv1 (qc (sc call26 (h.mono fun e w3 ⟨r1,k,hk,h⟩=>have ⟨hs,hb⟩:=hk.hh hs hb;⟨_,k,?_⟩)))
 refine qb (jB (kD (jJ (rg (qc (ln ⟨((q6.wrap (n1+r1)),(q6.wrap (i1+1)),H2,w3),⟨rfl,hm,hs,hb,h.1⟩,h.2⟩))))))
 refine zE (kP (kP (kO (jJ (eg (q0 (vi n1) (q0 (vi n1) (ln (er ?_)))))))))
 have ⟨h,hs⟩:=hs.hr (h H2 w2)
 refine rs1 results26 ⟨n1,rfl,h⟩
def m_T2  (w0:World) (K:(Option Addr)→WP):Prop :=∀p1 w1,New w0 (.cells #[Sl.nil.v,Sl.nil.v,Sl.nil.v] 45) p1 w1→K (some p1) w1
theorem w_T2  (w0:World) (K:(Option Addr)→WP) (h:m_T2  w0 K) :
  Calls prog 31 #[] w0 (fun e w'=>∃r1,e=.returned (vp r1)∧K r1 w'):=by
 refine cw (args:=[]) func31 ntmps31 (eg (q0 (vp none) (ln (eg (q0 (.agg #[Sl.nil.v,Sl.nil.v,Sl.nil.v]) (sn (O:=(.cells #[Sl.nil.v,Sl.nil.v,Sl.nil.v] 45)) xb ?_))))))
 intro p1 w1 hn1
 have h:=h p1 w1 hn1
 refine q (ln (er (rs1 results31 ⟨(some p1),rfl,h⟩)))
def s_S (aD aG:Int) (aH aI:Int) (aJ:ByteArray) (aE:Sl):Int×Int×Int×Int×ByteArray×Int×Int :=(aD,aG,aH,aI,aJ,0,0)
theorem pw_S (aD aG:Int) (aH aI:Int) (aJ:ByteArray) (aE:Sl) (w0:World) :
  Calls prog 107 #[(.agg #[(vi aD),(vi aG),(vi aH),(vu aI),(vs aJ),aE.v])] w0 (fun e w'=>(e=.returned (Ab aD aG aH aI aJ 0 0))∧Pure w0 w'):=by
 refine cw (args:=[(Ae aD aG aH aI aJ aE)]) func107 ntmps107 ?_
 obtain ⟨hs,hb⟩:=st0 w0
 refine eg (nw3 (Ac aD aG aH aI aJ aE) 49 hs hb xb fun p1 w1 H1 hs hb=>nw3 (Ag 0 0 0 0 0 0) 86 hs hb (jT (zeroValue86 _) rfl) fun p2 w2 H2 hs hb=>ln (eg (q (q3 (xl (isAgg3 _) (hb.d0 1 (gS gZ))) (q (q3 (xl (isAgg3 _) (hb.d 1 1 (gS gZ))) (q (q3 (xl (isAgg3 _) (hb.d 1 2 (gS gZ))) (q (q3 (xl (isAgg47 _) (hb.d 1 3 (gS gZ))) (q (q3 (xl (isAgg9 _) (hb.d 1 4 (gS gZ))) (q (vG (jP rfl) (xo p2 (Aa aD aG aH aI aJ 0 0) (sizeOf86 _) (hb.k0 0 7 gZ)) ?_))))))))))))))
 intro w3 hn3
 obtain ⟨hs,hb⟩:=hb.st1 0 hs hn3 gZ
 refine ln (er (resG (.inl rfl) (vs:=[(Ab aD aG aH aI aJ 0 0)]) (v:=(Ab aD aG aH aI aJ 0 0)) results107 ⟨(rva (isAgg86 _) (sizeOf86 _) (hb.r0 0 7 gZ)),trivial⟩ (by kernel_rfl) ⟨by kernel_rfl,(Ext.refl (F:=None) _).hst hs⟩))
theorem p_S (aD aG:Int) (aH aI:Int) (aJ:ByteArray) (aE:Sl) (w0:World):Calls prog 107 #[(.agg #[(.int .i64 aD),(.int .i64 aG),(.int .i64 aH),(.int .u64 aI),(.string aJ),aE.v])] w0 (fun e w'=>e=.returned (.agg #[(.int .i64 (s_S aD aG aH aI aJ aE).1),(.int .i64 (s_S aD aG aH aI aJ aE).2.1),(.int .i64 (s_S aD aG aH aI aJ aE).2.2.1),(.int .u64 (s_S aD aG aH aI aJ aE).2.2.2.1),(.string (s_S aD aG aH aI aJ aE).2.2.2.2.1),(.int .i64 (s_S aD aG aH aI aJ aE).2.2.2.2.2.1),(.int .i64 (s_S aD aG aH aI aJ aE).2.2.2.2.2.2)])∧Pure w0 w'):=pw_S aD aG aH aI aJ aE w0
def s_L1 (kind1:Int):Bool :=((kind1 == 8) || (kind1 == 9))
theorem pw_L1 (kind1:Int) (w0:World) :
  Calls prog 136 #[(vi kind1)] w0 (fun e w'=>(e=.returned (vb ((kind1 == 8) || (kind1 == 9))))∧Pure w0 w'):=by
 refine cw (args:=[(vi kind1)]) func136 ntmps136 (eg (q0 (vb false) (ln (jA ?_))))
 refine zC (fun ρ wJ=>w0=wJ∧Has ρ [(2,(vb ((kind1 == 8) || (kind1 == 9))))]) ?_ ?_
 refine rg (qc (jH 3 (fun ρ wJ=>∃b3'0:Bool,((kind1 == 8)=b3'0)∧w0=wJ∧Has ρ [(8,(vb (b3'0 || (kind1 == 9))))]) ?_ ?_))
 rintro ρ w3 ⟨b3'0,he0,hw,hH⟩
 subst he0
 subst hw
 refine jM hH (q (ln ⟨rfl,hm⟩))
 rcases bte (kind1 == 8) with hg4 | hg4
 refine sj2 5 hg4 (q2 (vb true) (xT hg4) (jB ⟨true,hg4,rfl,hm⟩))
 refine qk 5 hg4 (qk 5 hg4 (q2 (vb (kind1 == 9)) (xF hg4) (jB ⟨false,hg4,rfl,hm⟩)))
 rintro ρ w2 ⟨hw,hH⟩
 subst hw
 refine jQ hH (jJ (er (rs1 results136 (v:=(vb ((kind1 == 8) || (kind1 == 9)))) ⟨by kernel_rfl,Ext.refl _⟩)))
theorem p_L1 (kind1:Int) (w0:World):Calls prog 136 #[(.int .i64 kind1)] w0 (fun e w'=>e=.returned (.bool (s_L1 kind1))∧Pure w0 w'):=pw_L1 kind1 w0
def s_C (kind1:Int):Bool :=((((kind1 == 1) || (kind1 == 6)) || (kind1 == 7)) || ((kind1 == 8) || (kind1 == 9)))
theorem pw_C (kind1:Int) (w0:World) :
  Calls prog 134 #[(vi kind1)] w0 (fun e w'=>(e=.returned (vb ((((kind1 == 1) || (kind1 == 6)) || (kind1 == 7)) || ((kind1 == 8) || (kind1 == 9)))))∧Pure w0 w'):=by
 refine cw (args:=[(vi kind1)]) func134 ntmps134 ?_
 obtain ⟨hs,hb⟩:=st0 w0
 refine eg (q (ln (jA (zC (fun ρ wJ=>∃HJ:NP,Hst w0 None w0 HJ wJ∧HB HJ wJ []∧Has ρ [(2,(vb ((((kind1 == 1) || (kind1 == 6)) || (kind1 == 7)) || ((kind1 == 8) || (kind1 == 9)))))]) ?_ ?_))))
 refine rg (qc (jH 3 (fun ρ wJ=>∃b5'0:Bool,∃HJ:NP,((kind1 == 1)=b5'0)∧Hst w0 None w0 HJ wJ∧HB HJ wJ []∧Has ρ [(0,(vi kind1)),(8,(vb (b5'0 || (kind1 == 6))))]) ?_ ?_))
 rintro ρ w7 ⟨b5'0,H5,he0,hs,hb,hH⟩
 subst he0
 refine jM hH (q (jH 3 (fun ρ wJ=>∃b6'0:Bool,∃HJ:NP,(((kind1 == 1) || (kind1 == 6))=b6'0)∧Hst w0 None w0 HJ wJ∧HB HJ wJ []∧Has ρ [(0,(vi kind1)),(12,(vb (b6'0 || (kind1 == 7))))]) ?_ ?_))
 rintro ρ w8 ⟨b6'0,H6,he0,hs,hb,hH⟩
 subst he0
 refine jM hH (q (jH 3 (fun ρ wJ=>∃b7'0:Bool,∃HJ:NP,((((kind1 == 1) || (kind1 == 6)) || (kind1 == 7))=b7'0)∧Hst w0 None w0 HJ wJ∧HB HJ wJ []∧Has ρ [(16,(vb (b7'0 || ((kind1 == 8) || (kind1 == 9)))))]) ?_ ?_))
 rintro ρ w10 ⟨b7'0,H7,he0,hs,hb,hH⟩
 subst he0
 refine jM hH (q (ln ⟨_,hs,hb,hm⟩))
 rcases bte (((kind1 == 1) || (kind1 == 6)) || (kind1 == 7)) with hg12 | hg12
 refine sj2 13 hg12 (q2 (vb true) (xT hg12) (jB ⟨true,_,hg12,hs,hb,hm⟩))
 refine qk 13 hg12 (jV (wy 13 hg12) (xc call136) ((p_L1 kind1 w8).mono ?_))
 rintro e w11 ⟨he,hE⟩
 refine ⟨_,he,?_⟩
 obtain ⟨hs,hb⟩:=hs.pp hb hE
 refine q2 (vb ((kind1 == 8) || (kind1 == 9))) (xF hg12) (jB ⟨false,_,hg12,hs,hb,hm⟩)
 rcases bte ((kind1 == 1) || (kind1 == 6)) with hg10 | hg10
 refine sj2 9 hg10 (q2 (vb true) (xT hg10) (jB ⟨true,_,hg10,hs,hb,hm⟩))
 refine qk 9 hg10 (qk 9 hg10 (q2 (vb (kind1 == 7)) (xF hg10) (jB ⟨false,_,hg10,hs,hb,hm⟩)))
 rcases bte (kind1 == 1) with hg8 | hg8
 refine sj2 5 hg8 (q2 (vb true) (xT hg8) (jB ⟨true,_,hg8,hs,hb,hm⟩))
 refine qk 5 hg8 (qk 5 hg8 (q2 (vb (kind1 == 6)) (xF hg8) (jB ⟨false,_,hg8,hs,hb,hm⟩)))
 rintro ρ w6 ⟨H4,hs,hb,hH⟩
 refine jQ hH (jJ (er (rs1 results134 (v:=(vb ((((kind1 == 1) || (kind1 == 6)) || (kind1 == 7)) || ((kind1 == 8) || (kind1 == 9))))) ⟨by kernel_rfl,(Ext.refl (F:=None) _).hst hs⟩)))
theorem p_C (kind1:Int) (w0:World):Calls prog 134 #[(.int .i64 kind1)] w0 (fun e w'=>e=.returned (.bool (s_C kind1))∧Pure w0 w'):=pw_C kind1 w0
def s_T (aA aB:Int) (aC aK:Int) (aF:ByteArray) (aL aM:Int):Bool :=(!((decide (aA<1)) || (decide (aA>9))) && (((((((s_C aA) || (aB == 0)) && (((aA == 8) || (aA == 9)) || (aC == 0))) && ((aA == 2) || (aK == 0))) && ((aA == 3) || (decide (aF=⟨#[]⟩)))) && ((decide ((s_B aA)≥1)) || (aL == 0))) && ((((s_B aA):Int) == 2) || (aM == 0))))
theorem pw_T (aA aB:Int) (aC aK:Int) (aF:ByteArray) (aL aM:Int) (w0:World) :
  Calls prog 133 #[(.agg #[(vi aA),(vi aB),(vi aC),(vu aK),(vs aF),(vi aL),(vi aM)])] w0 (fun e w'=>∃b'0:Bool,(((decide (aA<1)) || (decide (aA>9)))=b'0)∧(e=.returned (vb (!b'0 && (((((((s_C aA) || (aB == 0)) && (((aA == 8) || (aA == 9)) || (aC == 0))) && ((aA == 2) || (aK == 0))) && ((aA == 3) || (decide (aF=⟨#[]⟩)))) && ((decide ((s_B aA)≥1)) || (aL == 0))) && ((((s_B aA):Int) == 2) || (aM == 0))))))∧Pure w0 w'):=by
 refine cw (args:=[(Ab aA aB aC aK aF aL aM)]) func133 ntmps133 ?_
 obtain ⟨hs,hb⟩:=st0 w0
 refine eg (nw3 (Aa aA aB aC aK aF aL aM) 86 hs hb xb fun p1 w1 H1 hs hb=>q (ln (jA (jA (zC (fun ρ wJ=>∃b1'0:Bool,∃HJ:NP,((decide (aA<1))=b1'0)∧Hst w0 None w0 HJ wJ∧HB HJ wJ [(p1,(Aa aA aB aC aK aF aL aM),86)]∧Has ρ [(1,(vp (some p1))),(10,(vb (b1'0 || (decide (aA>9)))))]) ?_ ?_)))))
 refine rg (q (q3 (xl (isAgg3 _) (hb.d0 0 gZ)) (qb ?_)))
 rcases bte (decide (aA<1)) with hg2 | hg2
 refine sj3 6 hg2 (q2 (vb true) (xT hg2) (ln ⟨true,_,hg2,hs,hb,hm⟩))
 refine qk 6 hg2 (q4 6 hg2 (xl (isAgg3 _) (hb.d0 0 gZ)) (qk 6 hg2 (q2 (vb (decide (aA>9))) (xF hg2) (ln ⟨false,_,hg2,hs,hb,hm⟩))))
 rintro ρ w2 ⟨b1'0,H2,he0,hs,hb,hH⟩
 subst he0
 refine jQ hH (jJ (jZ (t:=((decide (aA<1)) || (decide (aA>9)))) (by kernel_rfl) (fun hc1=>?_) (fun hc1=>?_)))
 refine eg (q (ln (er (jW (rs1 results133 (v:=(vb false)) ⟨true,hc1,by kernel_rfl,(Ext.refl (F:=None) _).hst hs⟩)))))
 refine jC (jJ (jA (zC (fun ρ wJ=>∃HJ:NP,Hst w0 None w0 HJ wJ∧HB HJ wJ [(p1,(Aa aA aB aC aK aF aL aM),86)]∧Has ρ [(2,(vb (((((((s_C aA) || (aB == 0)) && (((aA == 8) || (aA == 9)) || (aC == 0))) && ((aA == 2) || (aK == 0))) && ((aA == 3) || (decide (aF=⟨#[]⟩)))) && ((decide ((s_B aA)≥1)) || (aL == 0))) && ((((s_B aA):Int) == 2) || (aM == 0)))))]) ?_ ?_)))
 refine rg (q (q3 (xl (isAgg3 _) (hb.d0 0 gZ)) (sc call134 ((p_C aA w2).mono ?_))))
 rintro e w27 ⟨he,hE⟩
 refine ⟨_,he,?_⟩
 obtain ⟨hs,hb⟩:=hs.pp hb hE
 refine q (jH 4 (fun ρ wJ=>∃b19'0:Bool,∃HJ:NP,((s_C aA)=b19'0)∧Hst w0 None w0 HJ wJ∧HB HJ wJ [(p1,(Aa aA aB aC aK aF aL aM),86)]∧Has ρ [(1,(vp (some p1))),(18,(vb (b19'0 || (aB == 0))))]) ?_ ?_)
 rintro ρ w28 ⟨b19'0,H20,he0,hs,hb,hH⟩
 subst he0
 refine jM hH (q (jH 9 (fun ρ wJ=>∃b21'0:Bool,∃HJ:NP,(((s_C aA) || (aB == 0))=b21'0)∧Hst w0 None w0 HJ wJ∧HB HJ wJ [(p1,(Aa aA aB aC aK aF aL aM),86)]∧Has ρ [(1,(vp (some p1))),(28,(vb (b21'0 && (((aA == 8) || (aA == 9)) || (aC == 0)))))]) ?_ ?_))
 rintro ρ w31 ⟨b21'0,H22,he0,hs,hb,hH⟩
 subst he0
 refine jM hH (q (jH 9 (fun ρ wJ=>∃b24'0:Bool,∃HJ:NP,((((s_C aA) || (aB == 0)) && (((aA == 8) || (aA == 9)) || (aC == 0)))=b24'0)∧Hst w0 None w0 HJ wJ∧HB HJ wJ [(p1,(Aa aA aB aC aK aF aL aM),86)]∧Has ρ [(1,(vp (some p1))),(38,(vb (b24'0 && ((aA == 2) || (aK == 0)))))]) ?_ ?_))
 rintro ρ w35 ⟨b24'0,H25,he0,hs,hb,hH⟩
 subst he0
 refine jM hH (q (jH 9 (fun ρ wJ=>∃b27'0:Bool,∃HJ:NP,(((((s_C aA) || (aB == 0)) && (((aA == 8) || (aA == 9)) || (aC == 0))) && ((aA == 2) || (aK == 0)))=b27'0)∧Hst w0 None w0 HJ wJ∧HB HJ wJ [(p1,(Aa aA aB aC aK aF aL aM),86)]∧Has ρ [(1,(vp (some p1))),(48,(vb (b27'0 && ((aA == 3) || (decide (aF=⟨#[]⟩))))))]) ?_ ?_))
 rintro ρ w38 ⟨b27'0,H28,he0,hs,hb,hH⟩
 subst he0
 refine jM hH (q (jH 10 (fun ρ wJ=>∃b30'0:Bool,∃HJ:NP,((((((s_C aA) || (aB == 0)) && (((aA == 8) || (aA == 9)) || (aC == 0))) && ((aA == 2) || (aK == 0))) && ((aA == 3) || (decide (aF=⟨#[]⟩))))=b30'0)∧Hst w0 None w0 HJ wJ∧HB HJ wJ [(p1,(Aa aA aB aC aK aF aL aM),86)]∧Has ρ [(1,(vp (some p1))),(59,(vb (b30'0 && ((decide ((s_B aA)≥1)) || (aL == 0)))))]) ?_ ?_))
 rintro ρ w42 ⟨b30'0,H31,he0,hs,hb,hH⟩
 subst he0
 refine jM hH (q (jH 10 (fun ρ wJ=>∃b33'0:Bool,∃HJ:NP,(((((((s_C aA) || (aB == 0)) && (((aA == 8) || (aA == 9)) || (aC == 0))) && ((aA == 2) || (aK == 0))) && ((aA == 3) || (decide (aF=⟨#[]⟩)))) && ((decide ((s_B aA)≥1)) || (aL == 0)))=b33'0)∧Hst w0 None w0 HJ wJ∧HB HJ wJ [(p1,(Aa aA aB aC aK aF aL aM),86)]∧Has ρ [(70,(vb (b33'0 && ((((s_B aA):Int) == 2) || (aM == 0)))))]) ?_ ?_))
 rintro ρ w47 ⟨b33'0,H34,he0,hs,hb,hH⟩
 subst he0
 refine jM hH (q (ln ⟨_,hs,hb,hm⟩))
 rcases bte ((((((s_C aA) || (aB == 0)) && (((aA == 8) || (aA == 9)) || (aC == 0))) && ((aA == 2) || (aK == 0))) && ((aA == 3) || (decide (aF=⟨#[]⟩)))) && ((decide ((s_B aA)≥1)) || (aL == 0))) with hg64 | hg64
 refine qk 60 hg64 (q4 60 hg64 (xl (isAgg3 _) (hb.d0 0 gZ)) (jV (wy 60 hg64) (xc call46) ((p_B aA w42).mono ?_)))
 rintro e w48 ⟨he,hE⟩
 refine ⟨_,he,?_⟩
 obtain ⟨hs,hb⟩:=hs.pp hb hE
 refine qk 60 hg64 (qk 60 hg64 (jH 4 (fun ρ wJ=>∃b34'0:Bool,∃HJ:NP,((((s_B aA):Int) == 2)=b34'0)∧Hst w0 None w0 HJ wJ∧HB HJ wJ [(p1,(Aa aA aB aC aK aF aL aM),86)]∧Has ρ [(60,(vb ((((((s_C aA) || (aB == 0)) && (((aA == 8) || (aA == 9)) || (aC == 0))) && ((aA == 2) || (aK == 0))) && ((aA == 3) || (decide (aF=⟨#[]⟩)))) && ((decide ((s_B aA)≥1)) || (aL == 0))))),(69,(vb (b34'0 || (aM == 0))))]) ?_ ?_))
 rintro ρ w49 ⟨b34'0,H35,he0,hs,hb,hH⟩
 subst he0
 refine jM hH (q2 (vb ((((s_B aA):Int) == 2) || (aM == 0))) (xT hg64) (jB ⟨true,_,hg64,hs,hb,hm⟩))
 rcases bte (((s_B aA):Int) == 2) with hg66 | hg66
 refine sj3 65 hg66 (stq (v:=(vb true)) (wy 60 hg64) (xT hg66) (jB ⟨true,_,hg66,hs,hb,hm⟩))
 refine qk 65 hg66 (q4 65 hg66 (xl (isAgg30 _) (hb.d 0 6 gZ)) (qk 65 hg66 (stq (v:=(vb (aM == 0))) (wy 60 hg64) (xF hg66) (jB ⟨false,_,hg66,hs,hb,hm⟩))))
 refine sj5 60 hg64 (sm (sm (sm (sj 60 hg64 (q2 (vb false) (xF hg64) (jB ⟨false,_,hg64,hs,hb,hm⟩))))))
 rcases bte (((((s_C aA) || (aB == 0)) && (((aA == 8) || (aA == 9)) || (aC == 0))) && ((aA == 2) || (aK == 0))) && ((aA == 3) || (decide (aF=⟨#[]⟩)))) with hg58 | hg58
 refine qk 49 hg58 (q4 49 hg58 (xl (isAgg3 _) (hb.d0 0 gZ)) (jV (wy 49 hg58) (xc call46) ((p_B aA w38).mono ?_)))
 rintro e w43 ⟨he,hE⟩
 refine ⟨_,he,?_⟩
 obtain ⟨hs,hb⟩:=hs.pp hb hE
 refine qk 49 hg58 (qk 49 hg58 (jH 4 (fun ρ wJ=>∃b31'0:Bool,∃HJ:NP,((decide ((s_B aA)≥1))=b31'0)∧Hst w0 None w0 HJ wJ∧HB HJ wJ [(p1,(Aa aA aB aC aK aF aL aM),86)]∧Has ρ [(1,(vp (some p1))),(49,(vb (((((s_C aA) || (aB == 0)) && (((aA == 8) || (aA == 9)) || (aC == 0))) && ((aA == 2) || (aK == 0))) && ((aA == 3) || (decide (aF=⟨#[]⟩)))))),(58,(vb (b31'0 || (aL == 0))))]) ?_ ?_))
 rintro ρ w44 ⟨b31'0,H32,he0,hs,hb,hH⟩
 subst he0
 refine jM hH (q2 (vb ((decide ((s_B aA)≥1)) || (aL == 0))) (xT hg58) (jB ⟨true,_,hg58,hs,hb,hm⟩))
 rcases bte (decide ((s_B aA)≥1)) with hg60 | hg60
 refine sj3 54 hg60 (stq (v:=(vb true)) (wy 49 hg58) (xT hg60) (jB ⟨true,_,hg60,hs,hb,hm⟩))
 refine qk 54 hg60 (q4 54 hg60 (xl (isAgg30 _) (hb.d 0 5 gZ)) (qk 54 hg60 (stq (v:=(vb (aL == 0))) (wy 49 hg58) (xF hg60) (jB ⟨false,_,hg60,hs,hb,hm⟩))))
 refine sj5 49 hg58 (sm (sm (sm (sj 49 hg58 (q2 (vb false) (xF hg58) (jB ⟨false,_,hg58,hs,hb,hm⟩))))))
 rcases bte ((((s_C aA) || (aB == 0)) && (((aA == 8) || (aA == 9)) || (aC == 0))) && ((aA == 2) || (aK == 0))) with hg52 | hg52
 refine qk 39 hg52 (q4 39 hg52 (xl (isAgg3 _) (hb.d0 0 gZ)) (qk 39 hg52 (qk 39 hg52 (jH 4 (fun ρ wJ=>∃b28'0:Bool,∃HJ:NP,((aA == 3)=b28'0)∧Hst w0 None w0 HJ wJ∧HB HJ wJ [(p1,(Aa aA aB aC aK aF aL aM),86)]∧Has ρ [(1,(vp (some p1))),(39,(vb ((((s_C aA) || (aB == 0)) && (((aA == 8) || (aA == 9)) || (aC == 0))) && ((aA == 2) || (aK == 0))))),(47,(vb (b28'0 || (decide (aF=⟨#[]⟩)))))]) ?_ ?_))))
 rintro ρ w39 ⟨b28'0,H29,he0,hs,hb,hH⟩
 subst he0
 refine jM hH (q2 (vb ((aA == 3) || (decide (aF=⟨#[]⟩)))) (xT hg52) (jB ⟨true,_,hg52,hs,hb,hm⟩))
 rcases bte (aA == 3) with hg54 | hg54
 refine sj3 43 hg54 (stq (v:=(vb true)) (wy 39 hg52) (xT hg54) (jB ⟨true,_,hg54,hs,hb,hm⟩))
 refine qk 43 hg54 (q4 43 hg54 (xl (isAgg9 _) (hb.d 0 4 gZ)) (stq (v:=(vb (decide (aF=⟨#[]⟩)))) (wy 43 hg54) (jEL (by kernel_rfl) (by kernel_rfl)) (stq (v:=(vb (decide (aF=⟨#[]⟩)))) (wy 39 hg52) (xF hg54) (jB ⟨false,_,hg54,hs,hb,hm⟩))))
 refine sj4 39 hg52 (sm (sm (sm (sj 39 hg52 (q2 (vb false) (xF hg52) (jB ⟨false,_,hg52,hs,hb,hm⟩))))))
 rcases bte (((s_C aA) || (aB == 0)) && (((aA == 8) || (aA == 9)) || (aC == 0))) with hg46 | hg46
 refine qk 29 hg46 (q4 29 hg46 (xl (isAgg3 _) (hb.d0 0 gZ)) (qk 29 hg46 (qk 29 hg46 (jH 4 (fun ρ wJ=>∃b25'0:Bool,∃HJ:NP,((aA == 2)=b25'0)∧Hst w0 None w0 HJ wJ∧HB HJ wJ [(p1,(Aa aA aB aC aK aF aL aM),86)]∧Has ρ [(1,(vp (some p1))),(29,(vb (((s_C aA) || (aB == 0)) && (((aA == 8) || (aA == 9)) || (aC == 0))))),(37,(vb (b25'0 || (aK == 0))))]) ?_ ?_))))
 rintro ρ w36 ⟨b25'0,H26,he0,hs,hb,hH⟩
 subst he0
 refine jM hH (q2 (vb ((aA == 2) || (aK == 0))) (xT hg46) (jB ⟨true,_,hg46,hs,hb,hm⟩))
 rcases bte (aA == 2) with hg48 | hg48
 refine sj3 33 hg48 (stq (v:=(vb true)) (wy 29 hg46) (xT hg48) (jB ⟨true,_,hg48,hs,hb,hm⟩))
 refine qk 33 hg48 (q4 33 hg48 (xl (isAgg47 _) (hb.d 0 3 gZ)) (qk 33 hg48 (stq (v:=(vb (aK == 0))) (wy 29 hg46) (xF hg48) (jB ⟨false,_,hg48,hs,hb,hm⟩))))
 refine sj4 29 hg46 (sm (sm (sm (sj 29 hg46 (q2 (vb false) (xF hg46) (jB ⟨false,_,hg46,hs,hb,hm⟩))))))
 rcases bte ((s_C aA) || (aB == 0)) with hg40 | hg40
 refine qk 19 hg40 (q4 19 hg40 (xl (isAgg3 _) (hb.d0 0 gZ)) (jV (wy 19 hg40) (xc call136) ((p_L1 aA w28).mono ?_)))
 rintro e w32 ⟨he,hE⟩
 refine ⟨_,he,?_⟩
 obtain ⟨hs,hb⟩:=hs.pp hb hE
 refine qk 19 hg40 (jH 4 (fun ρ wJ=>∃b22'0:Bool,∃HJ:NP,(((aA == 8) || (aA == 9))=b22'0)∧Hst w0 None w0 HJ wJ∧HB HJ wJ [(p1,(Aa aA aB aC aK aF aL aM),86)]∧Has ρ [(1,(vp (some p1))),(19,(vb ((s_C aA) || (aB == 0)))),(27,(vb (b22'0 || (aC == 0))))]) ?_ ?_)
 rintro ρ w33 ⟨b22'0,H23,he0,hs,hb,hH⟩
 subst he0
 refine jM hH (q2 (vb (((aA == 8) || (aA == 9)) || (aC == 0))) (xT hg40) (jB ⟨true,_,hg40,hs,hb,hm⟩))
 rcases bte ((aA == 8) || (aA == 9)) with hg42 | hg42
 refine sj3 23 hg42 (stq (v:=(vb true)) (wy 19 hg40) (xT hg42) (jB ⟨true,_,hg42,hs,hb,hm⟩))
 refine qk 23 hg42 (q4 23 hg42 (xl (isAgg3 _) (hb.d 0 2 gZ)) (qk 23 hg42 (stq (v:=(vb (aC == 0))) (wy 19 hg40) (xF hg42) (jB ⟨false,_,hg42,hs,hb,hm⟩))))
 refine sj4 19 hg40 (sm (sm (sm (sj 19 hg40 (q2 (vb false) (xF hg40) (jB ⟨false,_,hg40,hs,hb,hm⟩))))))
 rcases bte (s_C aA) with hg36 | hg36
 refine sj3 14 hg36 (q2 (vb true) (xT hg36) (jB ⟨true,_,hg36,hs,hb,hm⟩))
 refine qk 14 hg36 (q4 14 hg36 (xl (isAgg3 _) (hb.d 0 1 gZ)) (qk 14 hg36 (q2 (vb (aB == 0)) (xF hg36) (jB ⟨false,_,hg36,hs,hb,hm⟩))))
 rintro ρ w26 ⟨H19,hs,hb,hH⟩
 refine jQ hH (jJ (er (rs1 results133 (v:=(vb (((((((s_C aA) || (aB == 0)) && (((aA == 8) || (aA == 9)) || (aC == 0))) && ((aA == 2) || (aK == 0))) && ((aA == 3) || (decide (aF=⟨#[]⟩)))) && ((decide ((s_B aA)≥1)) || (aL == 0))) && ((((s_B aA):Int) == 2) || (aM == 0))))) ⟨false,hc1,by kernel_rfl,(Ext.refl (F:=None) _).hst hs⟩)))
theorem p_T (aA aB:Int) (aC aK:Int) (aF:ByteArray) (aL aM:Int) (w0:World):Calls prog 133 #[(.agg #[(.int .i64 aA),(.int .i64 aB),(.int .i64 aC),(.int .u64 aK),(.string aF),(.int .i64 aL),(.int .i64 aM)])] w0 (fun e w'=>e=.returned (.bool (s_T aA aB aC aK aF aL aM))∧Pure w0 w'):=by
 refine (pw_T aA aB aC aK aF aL aM w0).mono ?_;rintro e w' ⟨b'0,e0,h,E⟩;subst e0;exact ⟨h,E⟩
def s_Q1 (n1:Int):Bool :=((decide (n1≥0)) && (decide (n1<16)))
theorem pw_Q1 (n1:Int) (w0:World) :
  Calls prog 135 #[(vi n1)] w0 (fun e w'=>(e=.returned (vb ((decide (n1≥0)) && (decide (n1<16)))))∧Pure w0 w'):=by
 refine cw (args:=[(vi n1)]) func135 ntmps135 (eg (q0 (vb false) (ln (jA ?_))))
 refine zC (fun ρ wJ=>w0=wJ∧Has ρ [(2,(vb ((decide (n1≥0)) && (decide (n1<16)))))]) ?_ ?_
 refine rg (qc (jH 3 (fun ρ wJ=>∃b3'0:Bool,((decide (n1≥0))=b3'0)∧w0=wJ∧Has ρ [(8,(vb (b3'0 && (decide (n1<16)))))]) ?_ ?_))
 rintro ρ w3 ⟨b3'0,he0,hw,hH⟩
 subst he0
 subst hw
 refine jM hH (q (ln ⟨rfl,hm⟩))
 rcases bte (decide (n1≥0)) with hg4 | hg4
 refine qk 5 hg4 (qk 5 hg4 (q2 (vb (decide (n1<16))) (xT hg4) (jB ⟨true,hg4,rfl,hm⟩)))
 refine sj2 5 hg4 (q2 (vb false) (xF hg4) (jB ⟨false,hg4,rfl,hm⟩))
 rintro ρ w2 ⟨hw,hH⟩
 subst hw
 refine jQ hH (jJ (er (rs1 results135 (v:=(vb ((decide (n1≥0)) && (decide (n1<16))))) ⟨by kernel_rfl,Ext.refl _⟩)))
theorem p_Q1 (n1:Int) (w0:World):Calls prog 135 #[(.int .i64 n1)] w0 (fun e w'=>e=.returned (.bool (s_Q1 n1))∧Pure w0 w'):=pw_Q1 n1 w0
def s_G (aA aB:Int) (aC aK:Int) (aF:ByteArray) (aL aM:Int):Int :=(cond (!(s_T aA aB aC aK aF aL aM)) 53 (cond (((s_C aA) && (!((decide (aB≥0)) && (decide (aB<16))))) || (((aA == 8) || (aA == 9)) && ((!((decide (aC≥0)) && (decide (aC<16)))) || (aB == aC)))) 50 (cond (decide ((aF.size:Int)>64)) 1 0)))
theorem pw_G (aA aB:Int) (aC aK:Int) (aF:ByteArray) (aL aM:Int) (w0:World) :
  Calls prog 86 #[(.agg #[(vi aA),(vi aB),(vi aC),(vu aK),(vs aF),(vi aL),(vi aM)])] w0 (fun e w'=>∃b'0 b'1 b'2:Bool,((!(s_T aA aB aC aK aF aL aM))=b'0∧(((s_C aA) && (!((decide (aB≥0)) && (decide (aB<16))))) || (((aA == 8) || (aA == 9)) && ((!((decide (aC≥0)) && (decide (aC<16)))) || (aB == aC))))=b'1∧(decide ((aF.size:Int)>64))=b'2)∧(e=.returned (vi (cond b'0 53 (cond b'1 50 (cond b'2 1 0)))))∧Pure w0 w'):=by
 refine cw (args:=[(Ab aA aB aC aK aF aL aM)]) func86 ntmps86 ?_
 obtain ⟨hs,hb⟩:=st0 w0
 refine eg (nw3 (Aa aA aB aC aK aF aL aM) 86 hs hb xb fun p1 w1 H1 hs hb=>q (ln (jA (eg (q2 (Ab aA aB aC aK aF aL aM) (xa p1 (Aa aA aB aC aK aF aL aM) (isAgg86 _) (sizeOf86 _) (hb.r0 0 7 gZ)) (sc call133 ((p_T aA aB aC aK aF aL aM w1).mono ?_)))))))
 rintro e w2 ⟨he,hE⟩
 refine ⟨_,he,?_⟩
 obtain ⟨hs,hb⟩:=hs.pp hb hE
 refine q (ln (jZ (t:=(!(s_T aA aB aC aK aF aL aM))) (by kernel_rfl) (fun hc1=>?_) (fun hc1=>?_)))
 refine eg (q (ln (er (jW (rs1 results86 (v:=(vi 53)) ⟨true,_,_,⟨hc1,rfl,rfl⟩,by kernel_rfl,(Ext.refl (F:=None) _).hst hs⟩)))))
 refine jC (jJ (jA (jA (zC (fun ρ wJ=>∃b5'0:Bool,∃HJ:NP,(((s_C aA) && (!((decide (aB≥0)) && (decide (aB<16)))))=b5'0)∧Hst w0 None w0 HJ wJ∧HB HJ wJ [(p1,(Aa aA aB aC aK aF aL aM),86)]∧Has ρ [(1,(vp (some p1))),(32,(vb (b5'0 || (((aA == 8) || (aA == 9)) && ((!((decide (aC≥0)) && (decide (aC<16)))) || (aB == aC))))))]) ?_ ?_))))
 refine rg (q (q3 (xl (isAgg3 _) (hb.d0 0 gZ)) (sc call134 ((p_C aA w2).mono ?_))))
 rintro e w14 ⟨he,hE⟩
 refine ⟨_,he,?_⟩
 obtain ⟨hs,hb⟩:=hs.pp hb hE
 refine q (jH 5 (fun ρ wJ=>∃b6'0:Bool,∃HJ:NP,((s_C aA)=b6'0)∧Hst w0 None w0 HJ wJ∧HB HJ wJ [(p1,(Aa aA aB aC aK aF aL aM),86)]∧Has ρ [(1,(vp (some p1))),(14,(vb (b6'0 && (!((decide (aB≥0)) && (decide (aB<16)))))))]) ?_ ?_)
 rintro ρ w16 ⟨b6'0,H7,he0,hs,hb,hH⟩
 subst he0
 refine jM hH (q ?_)
 rcases bte ((s_C aA) && (!((decide (aB≥0)) && (decide (aB<16))))) with hg12 | hg12
 refine sj4 15 hg12 (sm (sm (sm (sm (sm (sm (sm (sm (sm (sm (sm (sj 15 hg12 (q2 (vb true) (xT hg12) (ln ⟨true,_,hg12,hs,hb,hm⟩))))))))))))))
 refine qk 15 hg12 (q4 15 hg12 (xl (isAgg3 _) (hb.d0 0 gZ)) (jV (wy 15 hg12) (xc call136) ((p_L1 aA w16).mono ?_)))
 rintro e w18 ⟨he,hE⟩
 refine ⟨_,he,?_⟩
 obtain ⟨hs,hb⟩:=hs.pp hb hE
 refine qk 15 hg12 (jH 12 (fun ρ wJ=>∃b8'0:Bool,∃HJ:NP,(((aA == 8) || (aA == 9))=b8'0)∧Hst w0 None w0 HJ wJ∧HB HJ wJ [(p1,(Aa aA aB aC aK aF aL aM),86)]∧Has ρ [(1,(vp (some p1))),(15,(vb ((s_C aA) && (!((decide (aB≥0)) && (decide (aB<16))))))),(31,(vb (b8'0 && ((!((decide (aC≥0)) && (decide (aC<16)))) || (aB == aC)))))]) ?_ ?_)
 rintro ρ w21 ⟨b8'0,H9,he0,hs,hb,hH⟩
 subst he0
 refine jM hH (q2 (vb (((aA == 8) || (aA == 9)) && ((!((decide (aC≥0)) && (decide (aC<16)))) || (aB == aC)))) (xF hg12) (ln ⟨false,_,hg12,hs,hb,hm⟩))
 rcases bte ((aA == 8) || (aA == 9)) with hg16 | hg16
 refine qk 19 hg16 (q4 19 hg16 (xl (isAgg3 _) (hb.d 0 2 gZ)) (jV (wy 19 hg16) (xc call135) ((p_Q1 aC w18).mono ?_)))
 rintro e w22 ⟨he,hE⟩
 refine ⟨_,he,?_⟩
 obtain ⟨hs,hb⟩:=hs.pp hb hE
 refine qk 19 hg16 (qk 19 hg16 (jH 6 (fun ρ wJ=>∃b9'0:Bool,∃HJ:NP,((!((decide (aC≥0)) && (decide (aC<16))))=b9'0)∧Hst w0 None w0 HJ wJ∧HB HJ wJ [(p1,(Aa aA aB aC aK aF aL aM),86)]∧Has ρ [(1,(vp (some p1))),(15,(vb ((s_C aA) && (!((decide (aB≥0)) && (decide (aB<16))))))),(19,(vb ((aA == 8) || (aA == 9)))),(30,(vb (b9'0 || (aB == aC))))]) ?_ ?_))
 rintro ρ w23 ⟨b9'0,H10,he0,hs,hb,hH⟩
 subst he0
 refine jM hH (stq (v:=(vb ((!((decide (aC≥0)) && (decide (aC<16)))) || (aB == aC)))) (wy 15 hg12) (xT hg16) (jB ⟨true,_,hg16,hs,hb,hm⟩))
 rcases bte (!((decide (aC≥0)) && (decide (aC<16)))) with hg18 | hg18
 refine sj5 24 hg18 (stq (v:=(vb true)) (wy 19 hg16) (xT hg18) (jB ⟨true,_,hg18,hs,hb,hm⟩))
 refine qk 24 hg18 (q4 24 hg18 (xl (isAgg3 _) (hb.d 0 1 gZ)) (qk 24 hg18 (q4 24 hg18 (xl (isAgg3 _) (hb.d 0 2 gZ)) (qk 24 hg18 (stq (v:=(vb (aB == aC))) (wy 19 hg16) (xF hg18) (jB ⟨false,_,hg18,hs,hb,hm⟩))))))
 refine sj5 19 hg16 (sm (sm (sm (sm (sm (sj 19 hg16 (stq (v:=(vb false)) (wy 15 hg12) (xF hg16) (jB ⟨false,_,hg16,hs,hb,hm⟩))))))))
 rcases bte (s_C aA) with hg11 | hg11
 refine qk 9 hg11 (q4 9 hg11 (xl (isAgg3 _) (hb.d 0 1 gZ)) (jV (wy 9 hg11) (xc call135) ((p_Q1 aB w14).mono ?_)))
 rintro e w17 ⟨he,hE⟩
 refine ⟨_,he,?_⟩
 obtain ⟨hs,hb⟩:=hs.pp hb hE
 refine qk 9 hg11 (q2 (vb (!((decide (aB≥0)) && (decide (aB<16))))) (xT hg11) (jB ⟨true,_,hg11,hs,hb,hm⟩))
 refine sj4 9 hg11 (q2 (vb false) (xF hg11) (jB ⟨false,_,hg11,hs,hb,hm⟩))
 rintro ρ w13 ⟨b5'0,H6,he0,hs,hb,hH⟩
 subst he0
 refine jQ hH (jJ (jZ (t:=(((s_C aA) && (!((decide (aB≥0)) && (decide (aB<16))))) || (((aA == 8) || (aA == 9)) && ((!((decide (aC≥0)) && (decide (aC<16)))) || (aB == aC))))) (by kernel_rfl) (fun hc2=>?_) (fun hc2=>?_)))
 refine eg (q (ln (er (jW (rs1 results86 (v:=(vi 50)) ⟨false,true,_,⟨hc1,hc2,rfl⟩,by kernel_rfl,(Ext.refl (F:=None) _).hst hs⟩)))))
 refine jC (jJ (jA (eg (q (q3 (xl (isAgg9 _) (hb.d 0 4 gZ)) (qb (ln (jZ (t:=(decide ((aF.size:Int)>64))) (by kernel_rfl) (fun hc3=>?_) (fun hc3=>?_)))))))))
 refine eg (q (ln (er (jW (rs1 results86 (v:=(vi 1)) ⟨false,false,true,⟨hc1,hc2,hc3⟩,by kernel_rfl,(Ext.refl (F:=None) _).hst hs⟩)))))
 refine jC (jJ (eg (q (ln (er (rs1 results86 (v:=(vi 0)) ⟨false,false,false,⟨hc1,hc2,hc3⟩,by kernel_rfl,(Ext.refl (F:=None) _).hst hs⟩))))))
theorem p_G (aA aB:Int) (aC aK:Int) (aF:ByteArray) (aL aM:Int) (w0:World):Calls prog 86 #[(.agg #[(.int .i64 aA),(.int .i64 aB),(.int .i64 aC),(.int .u64 aK),(.string aF),(.int .i64 aL),(.int .i64 aM)])] w0 (fun e w'=>e=.returned (.int .i64 (s_G aA aB aC aK aF aL aM))∧Pure w0 w'):=by
 refine (pw_G aA aB aC aK aF aL aM w0).mono ?_;rintro e w' ⟨b'0,b'1,b'2,⟨e0,e1,e2⟩,h,E⟩;subst e0;subst e1;subst e2;exact ⟨h,E⟩
def m_O_l2 (aE:Sl) (deep1:Int) (seen1:Option Addr) (e1 i1:Int) (w0:World) (Hl1:NP) (wl1:World) (Kc2:Int→Int→NP→WP) (K:Int→WP):Prop :=Br ((e1 == 0) && (decide (i1<(aE.len:Int)))) (∃a3:Addr,At aE i1 6 a3∧∀H4 w11,Hst w0 Hl1 wl1 H4 w11→∃aN aO aP aQ aR aX,Row w11 a3 (Ac aN aO aP aQ aR aX)∧Calls prog 106 #[(.agg #[(vi aN),(vi aO),(vi aP),(vu aQ),(vs aR),aX.v]),(vi (q6.wrap (deep1+1))),(vp seen1)] w11 (fun e w12=>∃r1,e=.returned (vi r1)∧Kept H4 w11 w12∧Kc2 r1 (q6.wrap (i1+1)) H4 w12)) (∀H4 w11,Hst w0 Hl1 wl1 H4 w11→K e1 w11)
def m_O_j1 (aD aG:Int) (aH aI:Int) (aJ:ByteArray) (aE:Sl) (deep1:Int) (seen1:Option Addr) (x1:Bool) (w0:World) (H:NP) (w:World) (K:Int→WP):Prop :=Br x1 (K 52 w) (∃a1,seen1=some a1∧∃v1,w.cell? a1=some (vi v1)∧∃a2,seen1=some a2∧zQ w a2∧¬ H a2.block∧∀w2,w2=w.setCell a2 (vi (q6.wrap (v1+1)))→∀y1:Bool,y1=((((s_G aD aG aH aI aJ 0 0):Int) != 53) && (((aE.len:Int):Int) != (s_B aD)))→∀H3 w10,Hst w0 H w2 H3 w10→∃(I1:Int→Int→NP→WP) (mu1:Int→Int→World→Nat),I1 (cond y1 53 (s_G aD aG aH aI aJ 0 0)) 0 H3 w10∧∀(e1 i1:Int) (Hl1:NP) (wl1:World),Hst w0 Hl1 wl1 Hl1 wl1→I1 e1 i1 Hl1 wl1→m_O_l2 aE deep1 seen1 e1 i1 w0 Hl1 wl1 (fun y'0 y'1 H' w'=>I1 y'0 y'1 H' w'∧mu1 y'0 y'1 w'<mu1 e1 i1 wl1) K)
def m_O (aD aG:Int) (aH aI:Int) (aJ:ByteArray) (aE:Sl) (deep1:Int) (seen1:Option Addr) (w0:World) (K:Int→WP):Prop :=∃a4,seen1=some a4∧∀H1 w1,Hst w0 None w0 H1 w1→∃v2,w1.cell? a4=some (vi v2)∧∀H5 w13,Hst w0 H1 w1 H5 w13→m_O_j1 aD aG aH aI aJ aE deep1 seen1 ((decide (v2≥4096)) || (decide (deep1≥64))) w0 H5 w13 K
theorem w_O (aD aG aH aI aJ aE deep1 seen1 w0 K) (h:m_O aD aG aH aI aJ aE deep1 seen1 w0 K):
  Calls prog 106 #[(.agg #[(vi aD),(vi aG),(vi aH),(vu aI),(vs aJ),aE.v]),(vi deep1),(vp seen1)] w0 (fun e w'=>∃r2,e=.returned (vi r2)∧K r2 w'):=by
 refine cw (args:=[(Ae aD aG aH aI aJ aE),(vi deep1),(vp seen1)]) func106 ntmps106 ?_
 obtain ⟨hs,hb⟩:=st0 w0
 refine eg (nw3 (Ac aD aG aH aI aJ aE) 49 hs hb xb fun p1 w1 H1 hs hb=>q (ln (jA (jA (zX (fun ρ w=>∃x1,∃H:NP,Has ρ [(1,(vi deep1)),(2,(vp seen1)),(3,(vp (some p1))),(16,(vb x1))]∧Hst w0 H w H w∧HB H w [(p1,(Ac aD aG aH aI aJ aE),49)]∧m_O_j1 aD aG aH aI aJ aE deep1 seen1 x1 w0 H w K) ?_ ?_)))))
 rintro ρ w ⟨x1,H,hH,hs,hb,h⟩
 refine jO hH (cbr h ?_ ?_)<;>intro h
 refine eg (q (ln (er (jW (rs1 results106 ⟨52,rfl,h⟩)))))
 refine jC (jJ (eg (qb (qm h fun a1 h=>ql (isAgg3 _) h fun v1 h=>q (qm h fun a2 h=>st2 (sizeOf3 _) hs hb h fun w2 hs hb h=>ln (eg (q2 (Ae aD aG aH aI aJ aE) (xa p1 (Ac aD aG aH aI aJ aE) (isAgg49 _) (sizeOf49 _) (hb.r0 0 6 gZ)) (sc call107 ((p_S aD aG aH aI aJ aE w2).mono ?_)))))))))
 rintro e w3 ⟨he,hE⟩
 refine ⟨_,he,?_⟩
 obtain ⟨hs,hb⟩:=hs.pp hb hE
 refine sc call86 ((p_G aD aG aH aI aJ 0 0 w3).mono ?_)
 rintro e w4 ⟨he,hE⟩
 refine ⟨_,he,?_⟩
 obtain ⟨hs,hb⟩:=hs.pp hb hE
 refine q (ln (jA (jA (zC (fun ρ wJ=>∃b1'0 y1:Bool,∃HJ:NP,((((s_G aD aG aH aI aJ 0 0):Int) != 53)=b1'0)∧(y1=(b1'0 && (((aE.len:Int):Int) != (s_B aD))))∧Hst w0 H w2 HJ wJ∧HB HJ wJ [(p1,(Ac aD aG aH aI aJ aE),49)]∧Has ρ [(1,(vi deep1)),(2,(vp seen1)),(3,(vp (some p1))),(7,(vi (s_G aD aG aH aI aJ 0 0))),(36,(vb y1))]) ?_ ?_))))
 refine yG (fun x=>∃H',Hst w0 H w2 H' x∧HB H' x [(p1,(Ac aD aG aH aI aJ aE),49)]) [8] [] (by kernel_rfl) (by kernel_rfl) (by kernel_rfl) (by kernel_rfl) ⟨_,hs.drew,hb.drew⟩ ?_
 intro w8 hw8
 have hs:Hst w0 H w2 H w8:=by rw [hw8];exact hs.drew
 have hb:HB H w8 [(p1,(Ac aD aG aH aI aJ aE),49)]:=by rw [hw8];exact hb.drew
 refine qx 0 (vi (s_G aD aG aH aI aJ 0 0)) Kp0 (qx 1 (vb (((s_G aD aG aH aI aJ 0 0):Int) != 53)) Kp1 (qx 2 (vb (((s_G aD aG aH aI aJ 0 0):Int) != 53)) Kp2 (qg 3 ?_)))
 rcases bte (((s_G aD aG aH aI aJ 0 0):Int) != 53) with hg2 | hg2
 refine sz (v:=(vp (some (p1.add 5)))) Kp3 (wy 28 hg2) (fun _ _=>(by kernel_rfl)) (qg 4 (sz (v:=aE.v) Kp4 (wy 28 hg2) (fun w' hw'=>(by obtain ⟨H',hs',hb'⟩:=hw';exact (xl (isAgg22 _) (hb'.cell 0 5 gZ (by kernel_rfl))))) (qw 5 (vi (aE.len:Int)) Kp5 (wy 28 hg2) (qw 6 (vp (some p1)) Kp6 (wy 28 hg2) (qg 7 (sz (v:=(vi aD)) Kp7 (wy 28 hg2) (fun w' hw'=>(by obtain ⟨H',hs',hb'⟩:=hw';exact (xl (isAgg3 _) (hb'.cell0 0 gZ (by kernel_rfl))))) (lg 8 (uR Kp8 (wy 28 hg2) (by kernel_rfl) (xc call46) ((p_B aD w8).mono ?_)))))))))
 rintro e w9 ⟨he,hE⟩
 obtain ⟨hs,hb⟩:=hs.pp hb hE
 refine ⟨(vi (s_B aD)),he.trans (by kernel_rfl),.inr ⟨_,hs,hb⟩,?_⟩
 refine qw 9 (vb (((aE.len:Int):Int) != (s_B aD))) Kp9 (wy 28 hg2) (qz 10 (vb (((aE.len:Int):Int) != (s_B aD))) (jL (S8 (jE (jE jK)))) (fun _ _=>(xT hg2)) (wn (jJ ⟨true,_,_,hg2,rfl,hs,hb,hm⟩)))
 refine kY Kp3 (jS rfl (yD 28 hg2) rfl) (qn 4 Kp4 (jS rfl (yD 28 hg2) rfl) (qn 5 Kp5 (jS rfl (yD 28 hg2) rfl) (qn 6 Kp6 (jS rfl (yD 28 hg2) rfl) (qn 7 Kp7 (jS rfl (yD 28 hg2) rfl) (lg 8 (kY Kp8 (jS rfl (yD 28 hg2) rfl) (qn 9 Kp9 (jS rfl (yD 28 hg2) rfl) (qz 10 (vb false) (jL (S8 (jE (jE jK)))) (fun _ _=>(xF hg2)) (wn (jJ ⟨false,_,_,hg2,rfl,hs,hb,hm⟩))))))))))
 rintro ρ w7 ⟨b1'0,y1,H2,he0,hy1,hs,hb,hH⟩
 subst he0
 have h:=h y1 hy1
 refine jQ hH (jJ (zC (fun ρ wJ=>∃b2'0:Bool,∃HJ:NP,(y1=b2'0)∧Hst w0 H w2 HJ wJ∧HB HJ wJ [(p1,(Ac aD aG aH aI aJ aE),49)]∧Has ρ [(1,(vi deep1)),(2,(vp seen1)),(3,(vp (some p1))),(7,(vi (cond b2'0 53 (s_G aD aG aH aI aJ 0 0))))]) ?_ ?_))
 refine jZ (t:=y1) (by kernel_rfl) (fun hc3=>?_) (fun hc3=>?_)
 refine rg (q (ln ⟨true,_,hc3,hs,hb,hm⟩))
 refine jC (jJ ⟨false,_,hc3,hs,hb,hm⟩)
 rintro ρ w10 ⟨b2'0,H3,he0,hs,hb,hH⟩
 subst he0
 refine jQ hH (jJ (jA (eg (q (ln (jF ?_))))))
 have ⟨h,hs⟩:=hs.hr (h H3 w10)
 obtain ⟨I1,mu1,h0,hr⟩:=h
 refine zI (σ:=Int×Int×NP×World) (fun s ρ w=>w=s.2.2.2∧Has ρ [(1,(vi deep1)),(2,(vp seen1)),(3,(vp (some p1))),(7,(vi s.1)),(8,(vi s.2.1))]∧Hst w0 s.2.2.1 w s.2.2.1 w∧HB s.2.2.1 w [(p1,(Ac aD aG aH aI aJ aE),49)]∧I1 s.1 s.2.1 s.2.2.1 s.2.2.2) (fun s=>mu1 s.1 s.2.1 s.2.2.2) ((cond y1 53 (s_G aD aG aH aI aJ 0 0)),0,H3,w10) ⟨rfl,hm,hs,hb,h0⟩ ?_
 rintro ⟨e1,i1,Hl1,wl1⟩ ρ w ⟨hw,hH,hs,hb,hI⟩
 dsimp only at hw hH hs hb;subst w
 have h:=hr e1 i1 Hl1 wl1 hs hI
 refine jO hH (jA (jA (zC (fun ρ wJ=>∃b3'0:Bool,∃HJ:NP,((e1 == 0)=b3'0)∧Hst w0 Hl1 wl1 HJ wJ∧HB HJ wJ [(p1,(Ac aD aG aH aI aJ aE),49)]∧Has ρ [(1,(vi deep1)),(2,(vp seen1)),(3,(vp (some p1))),(7,(vi e1)),(8,(vi i1)),(45,(vb (b3'0 && (decide (i1<(aE.len:Int))))))]) ?_ ?_)))
 refine rg (qc ?_)
 rcases bte (e1 == 0) with hg4 | hg4
 refine qk 39 hg4 (qk 39 hg4 (q4 39 hg4 (xl (isAgg22 _) (hb.d 0 5 gZ)) (qk 39 hg4 (qk 39 hg4 (q2 (vb (decide (i1<(aE.len:Int)))) (xT hg4) (ln ⟨true,_,hg4,hs,hb,hm⟩))))))
 refine sj5 39 hg4 (q2 (vb false) (xF hg4) (ln ⟨false,_,hg4,hs,hb,hm⟩))
 rintro ρ w11 ⟨b3'0,H4,he0,hs,hb,hH⟩
 subst he0
 refine jQ hH (jJ (cbr h ?_ ?_))<;>intro h
 refine jC (jJ (jA (jF (rg (q (q3 (xl (isAgg22 _) (hb.d 0 5 gZ)) (q (qi (runUnderlying22 _) (sizeOf49 _) h fun a3 h=>?_))))))))
 have ⟨h,hs⟩:=hs.hr (h H4 w11)
 obtain ⟨aN,aO,aP,aQ,aR,aX,hv1,h⟩:=h
 refine qa (isAgg49 _) (sizeOf49 _) hv1 (qc (sc call106 (h.mono fun e w12 ⟨r1,k,hk,h⟩=>have ⟨hs,hb⟩:=hk.hh hs hb;⟨_,k,?_⟩)))
 refine q (jB (kD (jJ (rg (qc (ln ⟨(r1,(q6.wrap (i1+1)),H4,w12),⟨rfl,hm,hs,hb,h.1⟩,h.2⟩))))))
 refine zE (kP (kP (kO (jJ (eg (q0 (vi e1) (q0 (vi e1) (ln (er ?_)))))))))
 have ⟨h,hs⟩:=hs.hr (h H4 w11)
 refine rs1 results106 ⟨e1,rfl,h⟩
 refine rg (q (qm h fun a4 h=>?_))
 have ⟨h,hs⟩:=hs.hr (h H1 w1)
 refine ql (isAgg3 _) h fun v2 h=>qb (jH 3 (fun ρ wJ=>∃b4'0:Bool,∃HJ:NP,((decide (v2≥4096))=b4'0)∧Hst w0 H1 w1 HJ wJ∧HB HJ wJ [(p1,(Ac aD aG aH aI aJ aE),49)]∧Has ρ [(1,(vi deep1)),(2,(vp seen1)),(3,(vp (some p1))),(16,(vb (b4'0 || (decide (deep1≥64)))))]) ?_ ?_)
 rintro ρ w13 ⟨b4'0,H5,he0,hs,hb,hH⟩
 subst he0
 refine jM hH (jB ?_)
 have ⟨h,hs⟩:=hs.hr (h H5 w13)
 refine jJ ⟨((decide (v2≥4096)) || (decide (deep1≥64))),H5,hm,hs,hb,h⟩
 rcases bte (decide (v2≥4096)) with hg6 | hg6
 refine sj2 13 hg6 (q2 (vb true) (xT hg6) (jB ⟨true,_,hg6,hs,hb,hm⟩))
 refine qk 13 hg6 (qk 13 hg6 (q2 (vb (decide (deep1≥64))) (xF hg6) (jB ⟨false,_,hg6,hs,hb,hm⟩)))
def m_U2 (aD aG:Int) (aH aI:Int) (aJ:ByteArray) (aE:Sl) (w0:World) (K:Int→WP):Prop :=∀H1 w1,Hst w0 None w0 H1 w1→∀p2 w2,New w1 (.cells #[(vi 0)] 3) p2 w2→zQ w2 p2∧¬ H1 p2.block∧∀w3,w3=w2.setCell p2 (vi 0)→Calls prog 106 #[(.agg #[(vi aD),(vi aG),(vi aH),(vu aI),(vs aJ),aE.v]),(vi 0),(vp (some p2))] w3 (fun e w4=>∃r1,e=.returned (vi r1)∧Kept H1 w3 w4∧K r1 w4)
theorem w_U2 (aD aG aH aI aJ aE w0 K) (h:m_U2 aD aG aH aI aJ aE w0 K):
  Calls prog 71 #[(.agg #[(vi aD),(vi aG),(vi aH),(vu aI),(vs aJ),aE.v])] w0 (fun e w'=>∃r2,e=.returned (vi r2)∧K r2 w'):=by
 refine cw (args:=[(Ae aD aG aH aI aJ aE)]) func71 ntmps71 ?_
 obtain ⟨hs,hb⟩:=st0 w0
 refine eg (nw3 (Ac aD aG aH aI aJ aE) 49 hs hb xb fun p1 w1 H1 hs hb=>q (ln (eg ?_)))
 have ⟨h,hs⟩:=hs.hr (h H1 w1)
 refine nw2 hs hb h (jT (zeroValue3 _) rfl) fun p2 w2 hs hb h=>st2 (sizeOf3 _) hs hb h fun w3 hs hb h=>ln (eg (q2 (Ae aD aG aH aI aJ aE) (xa p1 (Ac aD aG aH aI aJ aE) (isAgg49 _) (sizeOf49 _) (hb.r0 0 6 gZ)) (sc call106 (h.mono fun e w4 ⟨r1,k,hk,h⟩=>have ⟨hs,hb⟩:=hk.hh hs hb;⟨_,k,?_⟩))))
 refine q (ln (er (rs1 results71 ⟨r1,rfl,h⟩)))
def m_V2 (p1:Option Addr) (t1:Int) (w0:World) (K:Int→WP):Prop :=Calls prog 60 #[(vp p1),(vi t1)] w0 (fun e w1=>∃r1,e=.returned (vb r1)∧Br (!r1) (K 0 w1) (∃a1,p1=some a1∧∃v1:Sl,w1.cell? (a1.add 1)=some v1.v∧∃a2:Addr,At v1 (q6.wrap (t1 - 1)) 1 a2∧∃v2,w1.cell? a2=some (vi v2)∧K v2 w1))
theorem w_V2 (p1 t1 w0 K) (h:m_V2 p1 t1 w0 K):
  Calls prog 87 #[(vp p1),(vi t1)] w0 (fun e w'=>∃r2,e=.returned (vi r2)∧K r2 w'):=by
 refine cw (args:=[(vp p1),(vi t1)]) func87 ntmps87 (eg (q0 (vi 0) (ln (jA (eg (q0 (vp p1) (q0 (vi t1) ?_)))))))
 refine sc call60 (h.mono fun e w1 ⟨r1,k,h⟩=>⟨_,k,?_⟩)
 refine q (ln (cbr h ?_ ?_))<;>intro h
 refine eg (q (ln (er (jW (rs1 results87 ⟨0,rfl,h⟩)))))
 refine jC (jJ (eg (q (qm h fun a1 h=>q (ql (isAgg43 _) h fun v1 h=>qb (qi (runUnderlying43 _) (sizeOf3 _) h fun a2 h=>ql (isAgg3 _) h fun v2 h=>q (ln (er (rs1 results87 ⟨v2,rfl,h⟩)))))))))
def m_W2 (p1:Option Addr) (t1:Int) (w0:World) (K:Int→WP):Prop :=Calls prog 60 #[(vp p1),(vi t1)] w0 (fun e w1=>∃r1,e=.returned (vb r1)∧Br (!r1) (K 0 w1) (∃a1,p1=some a1∧∃v1:Sl,w1.cell? (a1.add 2)=some v1.v∧∃a2:Addr,At v1 (q6.wrap (t1 - 1)) 1 a2∧∃v2,w1.cell? a2=some (vi v2)∧K v2 w1))
theorem w_W2 (p1 t1 w0 K) (h:m_W2 p1 t1 w0 K):
  Calls prog 88 #[(vp p1),(vi t1)] w0 (fun e w'=>∃r2,e=.returned (vi r2)∧K r2 w'):=by
 refine cw (args:=[(vp p1),(vi t1)]) func88 ntmps88 (eg (q0 (vi 0) (ln (jA (eg (q0 (vp p1) (q0 (vi t1) ?_)))))))
 refine sc call60 (h.mono fun e w1 ⟨r1,k,h⟩=>⟨_,k,?_⟩)
 refine q (ln (cbr h ?_ ?_))<;>intro h
 refine eg (q (ln (er (jW (rs1 results88 ⟨0,rfl,h⟩)))))
 refine jC (jJ (eg (q (qm h fun a1 h=>q (ql (isAgg43 _) h fun v1 h=>qb (qi (runUnderlying43 _) (sizeOf3 _) h fun a2 h=>ql (isAgg3 _) h fun v2 h=>q (ln (er (rs1 results88 ⟨v2,rfl,h⟩)))))))))
theorem vF (a0 a1:Int) (a2 a3:Int) (a4:ByteArray) (a5 a6:Int) (b0 b1:Int) (b2 b3:Int) (b4:ByteArray) (b5 b6:Int) (w:World):(Go.binOp .eql 86 (.agg #[(.int .i64 a0),(.int .i64 a1),(.int .i64 a2),(.int .u64 a3),(.string a4),(.int .i64 a5),(.int .i64 a6)]) (.agg #[(.int .i64 b0),(.int .i64 b1),(.int .i64 b2),(.int .u64 b3),(.string b4),(.int .i64 b5),(.int .i64 b6)])).run prog w=.ok (.bool ((a0 == b0) && ((a1 == b1) && ((a2 == b2) && ((a3 == b3) && ((decide (a4=b4)) && ((a5 == b5) && (a6 == b6)))))))) w:=by
 simp [Go.binOp,Op.equal,Op.maxDepth,go_sem,jBN,bne]
 repeat' split
 all_goals simp_all
def m_A1_l1 (p1:Option Addr) (aA aB:Int) (aC aK:Int) (aF:ByteArray) (aL aM i1:Int) (w0:World) (Hl1:NP) (wl1:World) (Kc1:Int→NP→WP) (K:Int→Bool→WP):Prop :=∃a1,p1=some a1∧∃v1:Sl,wl1.cell? a1=some v1.v∧Br (decide (i1<(v1.len:Int))) (∃a2,p1=some a2∧∀w2,Hst w0 Hl1 wl1 Hl1 w2→∃v2:Sl,w2.cell? a2=some v2.v∧∃a3:Addr,At v2 i1 7 a3∧∃aN aO aP aQ aR bG bH,Row w2 a3 (Aa aN aO aP aQ aR bG bH)∧Br ((aN == aA) && ((aO == aB) && ((aP == aC) && ((aQ == aK) && ((decide (aR=aF)) && ((bG == aL) && (bH == aM))))))) (K (q6.wrap (i1+1)) true w2) (Kc1 (q6.wrap (i1+1)) Hl1 w2)) (K 0 false wl1)
def m_A1 (p1:Option Addr) (aA aB:Int) (aC aK:Int) (aF:ByteArray) (aL aM:Int) (w0:World) (K:Int→Bool→WP):Prop :=∀H1 w1,Hst w0 None w0 H1 w1→∃(I1:Int→NP→WP) (mu1:Int→World→Nat),I1 0 H1 w1∧∀(i1:Int) (Hl1:NP) (wl1:World),Hst w0 Hl1 wl1 Hl1 wl1→I1 i1 Hl1 wl1→m_A1_l1 p1 aA aB aC aK aF aL aM i1 w0 Hl1 wl1 (fun y'0 H' w'=>I1 y'0 H' w'∧mu1 y'0 w'<mu1 i1 wl1) K
theorem w_A1 (p1 aA aB aC aK aF aL aM w0 K) (h:m_A1 p1 aA aB aC aK aF aL aM w0 K):
  Calls prog 89 #[(vp p1),(.agg #[(vi aA),(vi aB),(vi aC),(vu aK),(vs aF),(vi aL),(vi aM)])] w0 (fun e w'=>∃r1 r2,e=.returned (.tuple #[(vi r1),(vb r2)])∧K r1 r2 w'):=by
 refine cw (args:=[(vp p1),(Ab aA aB aC aK aF aL aM)]) func89 ntmps89 ?_
 obtain ⟨hs,hb⟩:=st0 w0
 refine eg (nw3 (Aa aA aB aC aK aF aL aM) 86 hs hb xb fun p2 w1 H1 hs hb=>qb (ln (jA (eg (q (ln (jF ?_)))))))
 have ⟨h,hs⟩:=hs.hr (h H1 w1)
 obtain ⟨I1,mu1,h0,hr⟩:=h
 refine zI (σ:=Int×NP×World) (fun s ρ w=>w=s.2.2∧Has ρ [(0,(vp p1)),(3,(vp (some p2))),(6,(vi s.1))]∧Hst w0 s.2.1 w s.2.1 w∧HB s.2.1 w [(p2,(Aa aA aB aC aK aF aL aM),86)]∧I1 s.1 s.2.1 s.2.2) (fun s=>mu1 s.1 s.2.2) (0,H1,w1) ⟨rfl,hm,hs,hb,h0⟩ ?_
 rintro ⟨i1,Hl1,wl1⟩ ρ w ⟨hw,hH,hs,hb,hI⟩
 dsimp only at hw hH hs hb;subst w
 have h:=hr i1 Hl1 wl1 hs hI
 refine jO hH (jA (eg (qb (qm h fun a1 h=>q (ql (isAgg42 _) h fun v1 h=>qb (ln (cbr h ?_ ?_)))))))<;>intro h
 refine jC (jJ (jA (jF (jA (kH (by kernel_rfl) (by kernel_rfl) (by kernel_rfl) (by kernel_rfl) ?_)))))
 intro w2 hw2
 have hs:Hst w0 Hl1 wl1 Hl1 w2:=by rw [hw2];exact hs.drew
 have hb:HB Hl1 w2 [(p2,(Aa aA aB aC aK aF aL aM),86)]:=by rw [hw2];exact hb.drew
 refine qq 0 (vp p1) Kp0 (qg 1 ?_)
 obtain ⟨a2,hp2,h⟩:=h
 refine sxQ Kp1 (jP rfl) rfl (xn hp2) (qq 2 (vp (some a2)) Kp2 (qg 3 ?_))
 have ⟨h,hs⟩:=hs.hr (h w2)
 obtain ⟨v2,hv3,h⟩:=h
 refine sxQ Kp3 (jP rfl) rfl (xl (isAgg42 _) hv3) (qq 4 (vi i1) Kp4 (qg 5 ?_))
 obtain ⟨a3,hv2,h⟩:=h
 refine sxQ Kp5 (jP rfl) rfl (xi (runUnderlying42 _) (sizeOf86 _) hv2) (qg 6 ?_)
 obtain ⟨aN,aO,aP,aQ,aR,bG,bH,hv1,h⟩:=h
 refine sxQ (v:=(Ab aN aO aP aQ aR bG bH)) Kp6 (jP rfl) rfl (xa a3 (Aa aN aO aP aQ aR bG bH) (isAgg86 _) (sizeOf86 _) hv1) (qr 7 (Ab aA aB aC aK aF aL aM) Kp7 (xa p2 (Aa aA aB aC aK aF aL aM) (isAgg86 _) (sizeOf86 _) (hb.r0 0 7 gZ)) (qr 8 (vb ((aN == aA) && ((aO == aB) && ((aP == aC) && ((aQ == aK) && ((decide (aR=aF)) && ((bG == aL) && (bH == aM)))))))) Kp8 (jER (by kernel_rfl) (by kernel_rfl) (by kernel_rfl) (vF aN aO aP aQ aR bG bH aA aB aC aK aF aL aM _)) (wn (jJ (cbr h ?_ ?_)))))<;>intro h
 refine eg (qd (ln (er (kG (jW (jW (kG (jW (vD (.inl rfl) results89 (v:=(vi (q6.wrap (i1+1)))) (by kernel_rfl) (v':=(vb true)) (by kernel_rfl) ⟨(q6.wrap (i1+1)),true,rfl,h⟩)))))))))
 refine jC (kD (jJ (rg (qc (ln ⟨((q6.wrap (i1+1)),Hl1,w2),⟨rfl,hm,hs,hb,h.1⟩,h.2⟩)))))
 refine zE (kP (kP (kO (jJ (eg (q0 (vi 0) (q0 (vb false) (ln (er (vD (.inl rfl) results89 (v:=(vi 0)) (by kernel_rfl) (v':=(vb false)) (by kernel_rfl) ⟨0,false,rfl,h⟩))))))))))
def m_L_j1 (p1:Option Addr) (aA aB:Int) (aC aK:Int) (aF:ByteArray) (aL aM:Int) (x1:Bool) (w0:World) (H:NP) (w:World) (K:Int→Int→WP):Prop :=Br x1 (K 0 51 w) (∃C1:WP,C1 w.drew∧∀w4,w4=w.drew→Calls prog 87 #[(vp p1),(vi aL)] w4 (fun e w5=>∃r1,e=.returned (vi r1)∧C1 w5∧Kept H w4 w5∧Calls prog 87 #[(vp p1),(vi aM)] w5 (fun e w6=>∃r2,e=.returned (vi r2)∧C1 w6∧Kept H w5 w6∧∃C2:WP,C2 w6.drew∧∀w7,w7=w6.drew→Calls prog 88 #[(vp p1),(vi aL)] w7 (fun e w8=>∃r3,e=.returned (vi r3)∧C2 w8∧Kept H w7 w8∧Calls prog 88 #[(vp p1),(vi aM)] w8 (fun e w9=>∃r4,e=.returned (vi r4)∧C2 w9∧Kept H w8 w9∧∃z1,(∀w',C2 w'→(Builtin.max_ #[3,3] 3 #[(vi r3),(vi r4)]).run prog w'=.ok (vi z1) w')∧∀y1:Bool,y1=((decide ((q6.wrap ((q6.wrap (1+r1))+r2))>4096)) || (decide ((q6.wrap (1+z1))>64)))→Br y1 (∀H2 w10,Hst w0 H w9 H2 w10→K 0 52 w10) (∀H2 w10,Hst w0 H w9 H2 w10→Calls prog 89 #[(vp p1),(.agg #[(vi aA),(vi aB),(vi aC),(vu aK),(vs aF),(vi aL),(vi aM)])] w10 (fun e w11=>∃r5 r6,e=.returned (.tuple #[(vi r5),(vb r6)])∧Kept H2 w10 w11∧Br r6 (K r5 0 w11) (∃a1,p1=some a1∧∃v1:Sl,w11.cell? a1=some v1.v∧Br (decide ((v1.len:Int)≥65536)) (K 0 6 w11) (∃C3:WP,C3 w11.drew∧∀w12,w12=w11.drew→∃a2,p1=some a2∧∃v2:Sl,(∀w',C3 w'→w'.cell? a2=some v2.v)∧∀p3 w13,New w12 (.cells #[(vi aA),(vi aB),(vi aC),(vu aK),(vs aF),(vi aL),(vi aM)] 86) p3 w13→C3 w13∧∃s1:Sl,∃w14:World,(Builtin.append_ #[42,42] 42 #[v2.v,(Sl.mk (some p3) 1 1).v]).run prog w13=.ok s1.v w14∧C3 w14∧Kept H2 w13 w14∧∃a3,p1=some a3∧zQ w14 a3∧¬ H2 a3.block∧∀w15,w15=w14.setCell a3 s1.v→∃a4,p1=some a4∧∃v3:Sl,w15.cell? (a4.add 1)=some v3.v∧∀p4 w16,New w15 (.cells #[(vi (q6.wrap ((q6.wrap (1+r1))+r2)))] 3) p4 w16→∃s2:Sl,∃w17:World,(Builtin.append_ #[43,43] 43 #[v3.v,(Sl.mk (some p4) 1 1).v]).run prog w16=.ok s2.v w17∧Kept H2 w16 w17∧∃a5,p1=some a5∧zQ w17 (a5.add 1)∧¬ H2 (a5.add 1).block∧∀w18,w18=w17.setCell (a5.add 1) s2.v→∃a6,p1=some a6∧∃v4:Sl,w18.cell? (a6.add 2)=some v4.v∧∀p5 w19,New w18 (.cells #[(vi (q6.wrap (1+z1)))] 3) p5 w19→∃s3:Sl,∃w20:World,(Builtin.append_ #[43,43] 43 #[v4.v,(Sl.mk (some p5) 1 1).v]).run prog w19=.ok s3.v w20∧Kept H2 w19 w20∧∃a7,p1=some a7∧zQ w20 (a7.add 2)∧¬ H2 (a7.add 2).block∧∀w21,w21=w20.setCell (a7.add 2) s3.v→∃a8,p1=some a8∧∃v5:Sl,w21.cell? a8=some v5.v∧K (v5.len:Int) 0 w21)))))))))
def m_L_j2 (p1:Option Addr) (aA aB:Int) (aC aK:Int) (aF:ByteArray) (aL aM:Int) (x2:Bool) (w0:World) (H:NP) (w:World) (K:Int→Int→WP):Prop :=Br x2 (m_L_j1 p1 aA aB aC aK aF aL aM true w0 H w K) (Br (((s_B aA):Int) == 2) (Calls prog 60 #[(vp p1),(vi aM)] w (fun e w22=>∃r7,e=.returned (vb r7)∧Kept H w w22∧m_L_j1 p1 aA aB aC aK aF aL aM (!r7) w0 H w22 K)) (m_L_j1 p1 aA aB aC aK aF aL aM false w0 H w K))
def m_L (p1:Option Addr) (aA aB:Int) (aC aK:Int) (aF:ByteArray) (aL aM:Int) (w0:World) (K:Int→Int→WP):Prop :=Br (((s_G aA aB aC aK aF aL aM):Int) != 0) (∀H1 w2,Hst w0 None w0 H1 w2→K 0 (s_G aA aB aC aK aF aL aM) w2) (Br (decide ((s_B aA)≥1)) (∀H1 w3,Hst w0 None w0 H1 w3→Calls prog 60 #[(vp p1),(vi aL)] w3 (fun e w23=>∃r8,e=.returned (vb r8)∧Kept H1 w3 w23∧m_L_j2 p1 aA aB aC aK aF aL aM (!r8) w0 H1 w23 K)) (∀H1 w3,Hst w0 None w0 H1 w3→m_L_j2 p1 aA aB aC aK aF aL aM false w0 H1 w3 K))
theorem w_L (p1 aA aB aC aK aF aL aM w0 K) (h:m_L p1 aA aB aC aK aF aL aM w0 K):
  Calls prog 41 #[(vp p1),(.agg #[(vi aA),(vi aB),(vi aC),(vu aK),(vs aF),(vi aL),(vi aM)])] w0 (fun e w'=>∃r9 r10,e=.returned (.tuple #[(vi r9),(vi r10)])∧K r9 r10 w'):=by
 refine cw (args:=[(vp p1),(Ab aA aB aC aK aF aL aM)]) func41 ntmps41 ?_
 obtain ⟨hs,hb⟩:=st0 w0
 refine eg (nw3 (Aa aA aB aC aK aF aL aM) 86 hs hb xb fun p2 w1 H1 hs hb=>qb (ln (eg (q2 (Ab aA aB aC aK aF aL aM) (xa p2 (Aa aA aB aC aK aF aL aM) (isAgg86 _) (sizeOf86 _) (hb.r0 0 7 gZ)) (sc call86 ((p_G aA aB aC aK aF aL aM w1).mono ?_))))))
 rintro e w2 ⟨he,hE⟩
 refine ⟨_,he,?_⟩
 obtain ⟨hs,hb⟩:=hs.pp hb hE
 refine q (ln (jA (eg (qb (ln (cbr h ?_ ?_))))))<;>intro h
 refine eg (qc (ln (er (jW ?_))))
 have ⟨h,hs⟩:=hs.hr (h H1 w2)
 refine vD (.inl rfl) results41 (v:=(vi 0)) (by kernel_rfl) (v':=(vi (s_G aA aB aC aK aF aL aM))) (by kernel_rfl) ⟨0,(s_G aA aB aC aK aF aL aM),rfl,h⟩
 refine jC (jJ (eg (q (q3 (xl (isAgg3 _) (hb.d0 0 gZ)) (sc call46 ((p_B aA w2).mono ?_))))))
 rintro e w3 ⟨he,hE⟩
 refine ⟨_,he,?_⟩
 obtain ⟨hs,hb⟩:=hs.pp hb hE
 refine q (ln (jA (jA (zX (fun ρ w=>∃x1,∃H:NP,Has ρ [(0,(vp p1)),(3,(vp (some p2))),(39,(vb x1))]∧Hst w0 H w H w∧HB H w [(p2,(Aa aA aB aC aK aF aL aM),86)]∧m_L_j1 p1 aA aB aC aK aF aL aM x1 w0 H w K) ?_ ?_))))
 rintro ρ w ⟨x1,H,hH,hs,hb,h⟩
 refine jO hH (cbr h ?_ ?_)<;>intro h
 refine eg (qb (ln (er (jW (vD (.inl rfl) results41 (v:=(vi 0)) (by kernel_rfl) (v':=(vi 51)) (by kernel_rfl) ⟨0,51,rfl,h⟩)))))
 refine jC (jJ (jA ?_))
 obtain ⟨C1,hC,h⟩:=h
 refine dr2 (fun x=>C1 x∧HB H x _) [3,8] [] ⟨hC,hb.drew⟩ h hs hb fun w4 hs hb h=>?_
 have hs:=hs.here
 refine qx 0 (vp p1) Kp0 (qx 1 (vp (some (p2.add 5))) Kp1 (qz 2 (vi aL) Kp2 (fun w' hw'=>(xl (isAgg30 _) (hw'.2.cell 0 5 gZ (by kernel_rfl)))) (qx 5 (vp p1) Kp5 (qx 6 (vp (some (p2.add 6))) Kp6 (qz 7 (vi aM) Kp7 (fun w' hw'=>(xl (isAgg30 _) (hw'.2.cell 0 6 gZ (by kernel_rfl)))) (lg 3 (slc Kp3 call87 (h.mono ?_))))))))
 rintro e w5 ⟨r1,rfl,hC,hk,h⟩
 refine ⟨_,rfl,.inr ⟨hC,hb.kept hk⟩,?_⟩
 obtain ⟨hs,hb⟩:=hk.hh hs hb
 refine qx 4 (vi (q6.wrap (1+r1))) Kp4 (lg 8 (slc Kp8 call87 (h.mono ?_)))
 rintro e w6 ⟨r2,rfl,hC,hk,h⟩
 refine ⟨_,rfl,.inr ⟨hC,hb.kept hk⟩,?_⟩
 obtain ⟨hs,hb⟩:=hk.hh hs hb
 refine qx 9 (vi (q6.wrap ((q6.wrap (1+r1))+r2))) Kp9 (qx 10 (vi (q6.wrap ((q6.wrap (1+r1))+r2))) (jL (S8 (jE (jE jK)))) (wn (jJ (jA ?_))))
 obtain ⟨C2,hC,h⟩:=h
 refine dr2 (fun x=>C2 x∧HB H x _) [3,7] [] ⟨hC,hb.drew⟩ h hs hb fun w7 hs hb h=>?_
 have hs:=hs.here
 refine qx 0 (vp p1) Kp0 (qx 1 (vp (some (p2.add 5))) Kp1 (qz 2 (vi aL) Kp2 (fun w' hw'=>(xl (isAgg30 _) (hw'.2.cell 0 5 gZ (by kernel_rfl)))) (qx 4 (vp p1) Kp4 (qx 5 (vp (some (p2.add 6))) Kp5 (qz 6 (vi aM) Kp6 (fun w' hw'=>(xl (isAgg30 _) (hw'.2.cell 0 6 gZ (by kernel_rfl)))) (lg 3 (slc Kp3 call88 (h.mono ?_))))))))
 rintro e w8 ⟨r3,rfl,hC,hk,h⟩
 refine ⟨_,rfl,.inr ⟨hC,hb.kept hk⟩,?_⟩
 obtain ⟨hs,hb⟩:=hk.hh hs hb
 refine lg 7 (slc Kp7 call88 (h.mono ?_))
 rintro e w9 ⟨r4,rfl,hC,hk,h⟩
 refine ⟨_,rfl,.inr ⟨hC,hb.kept hk⟩,?_⟩
 obtain ⟨hs,hb⟩:=hk.hh hs hb
 refine qg 8 ?_
 obtain ⟨z1,hv9,h⟩:=h
 refine sy (v:=(vi z1)) Kp8 (fun w' hw'=>(zH (args:=#[(vi r3),(vi r4)]) (by kernel_rfl) (fun _=>rfl) (hv9 w' hw'.1))) (qx 9 (vi (q6.wrap (1+z1))) Kp9 (qx 10 (vi (q6.wrap (1+z1))) (jL (S8 (jE (jE jK)))) (wn (jJ (jA (jA (zC (fun ρ wJ=>∃b1'0 y1:Bool,∃HJ:NP,((decide ((q6.wrap ((q6.wrap (1+r1))+r2))>4096))=b1'0)∧(y1=(b1'0 || (decide ((q6.wrap (1+z1))>64))))∧Hst w0 H w9 HJ wJ∧HB HJ wJ [(p2,(Aa aA aB aC aK aF aL aM),86)]∧Has ρ [(0,(vp p1)),(3,(vp (some p2))),(8,(vi (q6.wrap ((q6.wrap (1+r1))+r2)))),(9,(vi (q6.wrap (1+z1)))),(65,(vb y1))]) ?_ ?_)))))))
 refine rg (qc ?_)
 rcases bte (decide ((q6.wrap ((q6.wrap (1+r1))+r2))>4096)) with hg2 | hg2
 refine sj2 62 hg2 (q2 (vb true) (xT hg2) (ln ⟨true,_,_,hg2,rfl,hs,hb,hm⟩))
 refine qk 62 hg2 (qk 62 hg2 (q2 (vb (decide ((q6.wrap (1+z1))>64))) (xF hg2) (ln ⟨false,_,_,hg2,rfl,hs,hb,hm⟩)))
 rintro ρ w10 ⟨b1'0,y1,H2,he0,hy1,hs,hb,hH⟩
 subst he0
 have h:=h y1 hy1
 refine jQ hH (jJ (cbr h ?_ ?_))<;>intro h
 refine eg (qb (ln (er (jW ?_))))
 have ⟨h,hs⟩:=hs.hr (h H2 w10)
 refine vD (.inl rfl) results41 (v:=(vi 0)) (by kernel_rfl) (v':=(vi 52)) (by kernel_rfl) ⟨0,52,rfl,h⟩
 refine jC (jJ (eg (q (q2 (Ab aA aB aC aK aF aL aM) (xa p2 (Aa aA aB aC aK aF aL aM) (isAgg86 _) (sizeOf86 _) (hb.r0 0 7 gZ)) ?_))))
 have ⟨h,hs⟩:=hs.hr (h H2 w10)
 refine sc call89 (h.mono fun e w11 ⟨r5,r6,k,hk,h⟩=>have ⟨hs,hb⟩:=hk.hh hs hb;⟨_,k,?_⟩)
 refine q (qd (ln (jA (eg (q (jB (jJ (cbr h ?_ ?_))))))))<;>intro h
 refine eg (qc (ln (er (jW (vD (.inl rfl) results41 (v:=(vi r5)) (by kernel_rfl) (v':=(vi 0)) (by kernel_rfl) ⟨r5,0,rfl,h⟩)))))
 refine jC (jJ (jA (eg (q (qm h fun a1 h=>q (ql (isAgg42 _) h fun v1 h=>qb (ln (cbr h ?_ ?_))))))))<;>intro h
 refine eg (qb (ln (er (jW (vD (.inl rfl) results41 (v:=(vi 0)) (by kernel_rfl) (v':=(vi 6)) (by kernel_rfl) ⟨0,6,rfl,h⟩)))))
 refine jC (jJ (jA ?_))
 obtain ⟨C3,hC,h⟩:=h
 refine dr2 (fun x=>C3 x∧HB H2 x _) [6,7,10] [10] ⟨hC,hb.drew⟩ h hs hb fun w12 hs hb h=>?_
 have hs:=hs.here
 refine qx 0 (vp p1) Kp0 (qx 1 (vp p1) Kp1 (qg 2 ?_))
 obtain ⟨a2,hp2,h⟩:=h
 refine sy Kp2 (fun _ _=>xn hp2) (qx 3 (vp (some a2)) Kp3 (qg 4 ?_))
 obtain ⟨v2,hv7,h⟩:=h
 refine sy Kp4 (fun _ k=>xl (isAgg42 _) (hv7 _ k.1)) (qz 5 (Ab aA aB aC aK aF aL aM) Kp5 (fun w' hw'=>(xa p2 (Aa aA aB aC aK aF aL aM) (isAgg86 _) (sizeOf86 _) (hw'.2.r0 0 7 gZ))) (lg 6 (uQ (O:=(.cells #[(vi aA),(vi aB),(vi aC),(vu aK),(vs aF),(vi aL),(vi aM)] 86)) (fun p=>(Sl.mk (some p) 1 1).v) Kp6 (jP rfl) (by kernel_rfl) (zM (vs:=#[(0,(Ab aA aB aC aK aF aL aM))]) (by kernel_rfl) (by kernel_rfl)) ?_)))
 intro p3 w13 hn7
 have h:=h p3 w13 hn7
 refine ⟨.inr ⟨h.1,hb.kept (Ext.new (F:=None) hn7).keptP⟩,?_⟩
 have h:=h.2
 obtain ⟨hs,hb⟩:=hs.nw hb hn7
 refine lg 7 ?_
 obtain ⟨s1,w14,hv6,hC,hk,h⟩:=h
 refine sl (v:=s1.v) Kp7 (jP rfl) (by kernel_rfl) (zH (args:=#[v2.v,(Sl.mk (some p3) 1 1).v]) (by kernel_rfl) (fun _=>rfl) hv6) (.inr ⟨hC,hb.kept hk⟩) ?_
 obtain ⟨hs,hb⟩:=hk.hh hs hb
 refine qg 8 ?_
 obtain ⟨a3,hp3,h⟩:=h
 refine sy Kp8 (fun _ _=>xn hp3) (qx 9 (vp (some a3)) Kp9 (lg 10 ?_))
 obtain ⟨hp4,hnh,h⟩:=h
 refine sl_t (jL (S8 (jE (jE jK)))) (xs (v:=s1.v) (sizeOf42 _) hp4) ?_
 intro w15 hn2
 have h:=h w15 hn2
 refine ⟨.inl (by kernel_rfl),?_⟩
 have hk:=Kept.sc hnh hn2
 obtain ⟨hs,hb⟩:=hk.hh hs hb
 refine wn (jJ (eg (qb (qm h fun a4 h=>q (ql (isAgg43 _) h fun v3 h=>q (vU (O:=(.cells #[(vi (q6.wrap ((q6.wrap (1+r1))+r2)))] 3)) (fun p=>(Sl.mk (some p) 1 1).v) (jP rfl) (zM (vs:=#[(0,(vi (q6.wrap ((q6.wrap (1+r1))+r2))))]) (by kernel_rfl) (by kernel_rfl)) ?_))))))
 intro p4 w16 hn6
 have h:=h p4 w16 hn6
 obtain ⟨hs,hb⟩:=hs.nw hb hn6
 obtain ⟨s2,w17,hv4,hk,h⟩:=h
 refine st (v:=s2.v) (jP rfl) (zH (args:=#[v3.v,(Sl.mk (some p4) 1 1).v]) (by kernel_rfl) (fun _=>rfl) hv4) ?_
 obtain ⟨hs,hb⟩:=hk.hh hs hb
 refine qm h fun a5 h=>q (st2 (sizeOf43 _) hs hb h fun w18 hs hb h=>ln (eg (qb (qm h fun a6 h=>q (ql (isAgg43 _) h fun v4 h=>q (vU (O:=(.cells #[(vi (q6.wrap (1+z1)))] 3)) (fun p=>(Sl.mk (some p) 1 1).v) (jP rfl) (zM (vs:=#[(0,(vi (q6.wrap (1+z1))))]) (by kernel_rfl) (by kernel_rfl)) ?_))))))
 intro p5 w19 hn5
 have h:=h p5 w19 hn5
 obtain ⟨hs,hb⟩:=hs.nw hb hn5
 obtain ⟨s3,w20,hv2,hk,h⟩:=h
 refine st (v:=s3.v) (jP rfl) (zH (args:=#[v4.v,(Sl.mk (some p5) 1 1).v]) (by kernel_rfl) (fun _=>rfl) hv2) ?_
 obtain ⟨hs,hb⟩:=hk.hh hs hb
 refine qm h fun a7 h=>q (st2 (sizeOf43 _) hs hb h fun w21 hs hb h=>ln (eg (q (qm h fun a8 h=>q (ql (isAgg42 _) h fun v5 h=>qc (ln (er (vD (.inl rfl) results41 (v:=(vi (v5.len:Int))) (by kernel_rfl) (v':=(vi 0)) (by kernel_rfl) ⟨(v5.len:Int),0,rfl,h⟩))))))))
 refine rg (qc (jH 6 (fun ρ w=>∃x2,∃H:NP,Has ρ [(0,(vp p1)),(3,(vp (some p2))),(7,(vi (s_B aA))),(28,(vb x2))]∧Hst w0 H w H w∧HB H w [(p2,(Aa aA aB aC aK aF aL aM),86)]∧m_L_j2 p1 aA aB aC aK aF aL aM x2 w0 H w K) ?_ ?_))
 rintro ρ w ⟨x2,H,hH,hs,hb,h⟩
 refine jM hH (q ?_)
 obtain ⟨hg3,h⟩|⟨hg3,h⟩:=h.br
 refine sj3 29 hg3 (sm (sm (sm (sm (sm (sj 29 hg3 (q2 (vb true) (xT hg3) (ln ⟨true,H,hm,hs,hb,h⟩))))))))
 refine qk 29 hg3 (qk 29 hg3 (qk 29 hg3 ?_))
 obtain ⟨hg4,h⟩|⟨hg4,h⟩:=h.br
 refine qk 32 hg4 (qk 32 hg4 (q4 32 hg4 (xl (isAgg30 _) (hb.d 0 6 gZ)) (jV (wy 32 hg4) (xc call60) (h.mono ?_))))
 rintro e w22 ⟨r7,rfl,hk,h⟩
 refine ⟨_,rfl,?_⟩
 obtain ⟨hs,hb⟩:=hk.hh hs hb
 refine qk 32 hg4 (stq (v:=(vb (!r7))) (wy 29 hg3) (xT hg4) (q2 (vb (!r7)) (xF hg3) (ln ⟨(!r7),H,hm,hs,hb,h⟩)))
 refine sj5 32 hg4 (stq (v:=(vb false)) (wy 29 hg3) (xF hg4) (q2 (vb false) (xF hg3) (ln ⟨false,H,hm,hs,hb,h⟩)))
 obtain ⟨hg5,h⟩|⟨hg5,h⟩:=h.br
 refine qk 22 hg5 (qk 22 hg5 (q4 22 hg5 (xl (isAgg30 _) (hb.d 0 5 gZ)) ?_))
 have ⟨h,hs⟩:=hs.hr (h H1 w3)
 refine jV (wy 22 hg5) (xc call60) (h.mono ?_)
 rintro e w23 ⟨r8,rfl,hk,h⟩
 refine ⟨_,rfl,?_⟩
 obtain ⟨hs,hb⟩:=hk.hh hs hb
 refine qk 22 hg5 (q2 (vb (!r8)) (xT hg5) (jB ⟨(!r8),H1,hm,hs,hb,h⟩))
 refine sj5 22 hg5 (q2 (vb false) (xF hg5) (jB ?_))
 have ⟨h,hs⟩:=hs.hr (h H1 w3)
 exact ⟨false,H1,hm,hs,hb,h⟩
def m_B1_l1 (p1:Option Addr) (aE:Sl) (i1 aA:Int) (aB aC aK:Int) (aF:ByteArray) (aL aM:Int) (w0:World) (Hl1:NP) (wl1:World) (Kc1:Int→Int→Int→Int→Int→ByteArray→Int→Int→NP→WP) (K:Int→Int→WP):Prop :=Br (decide (i1<(aE.len:Int))) (∃a1:Addr,At aE i1 6 a1∧∃aN aO aP aQ aR aX,Row wl1 a1 (Ac aN aO aP aQ aR aX)∧Calls prog 72 #[(vp p1),(.agg #[(vi aN),(vi aO),(vi aP),(vu aQ),(vs aR),aX.v])] wl1 (fun e w5=>∃r1 r2,e=.returned (.tuple #[(vi r1),(vi r2)])∧Kept Hl1 wl1 w5∧Br (r2 != 0) (K 0 r2 w5) (∀H3 w8,Hst w0 Hl1 w5 H3 w8→Kc1 (q6.wrap (i1+1)) aA aB aC aK aF (cond (i1 == 0) r1 aL) (cond (i1 == 0) aM r1) H3 w8))) (Calls prog 41 #[(vp p1),(.agg #[(vi aA),(vi aB),(vi aC),(vu aK),(vs aF),(vi aL),(vi aM)])] wl1 (fun e w11=>∃r3 r4,e=.returned (.tuple #[(vi r3),(vi r4)])∧Kept Hl1 wl1 w11∧K r3 r4 w11))
def m_B1 (p1:Option Addr) (aD aG:Int) (aH aI:Int) (aJ:ByteArray) (aE:Sl) (w0:World) (K:Int→Int→WP):Prop :=∀H2 w4,Hst w0 None w0 H2 w4→∃(I1:Int→Int→Int→Int→Int→ByteArray→Int→Int→NP→WP) (mu1:Int→Int→Int→Int→Int→ByteArray→Int→Int→World→Nat),I1 0 aD aG aH aI aJ 0 0 H2 w4∧∀(i1 aA:Int) (aB aC aK:Int) (aF:ByteArray) (aL aM:Int) (Hl1:NP) (wl1:World),Hst w0 Hl1 wl1 Hl1 wl1→I1 i1 aA aB aC aK aF aL aM Hl1 wl1→m_B1_l1 p1 aE i1 aA aB aC aK aF aL aM w0 Hl1 wl1 (fun y'0 y'1 y'2 y'3 y'4 y'5 y'6 y'7 H' w'=>I1 y'0 y'1 y'2 y'3 y'4 y'5 y'6 y'7 H' w'∧mu1 y'0 y'1 y'2 y'3 y'4 y'5 y'6 y'7 w'<mu1 i1 aA aB aC aK aF aL aM wl1) K
theorem w_B1 (p1 aD aG aH aI aJ aE w0 K) (h:m_B1 p1 aD aG aH aI aJ aE w0 K):
  Calls prog 72 #[(vp p1),(.agg #[(vi aD),(vi aG),(vi aH),(vu aI),(vs aJ),aE.v])] w0 (fun e w'=>∃r5 r6,e=.returned (.tuple #[(vi r5),(vi r6)])∧K r5 r6 w'):=by
 refine cw (args:=[(vp p1),(Ae aD aG aH aI aJ aE)]) func72 ntmps72 ?_
 obtain ⟨hs,hb⟩:=st0 w0
 refine eg (nw3 (Ac aD aG aH aI aJ aE) 49 hs hb xb fun p2 w1 H1 hs hb=>qb (ln (eg (q2 (Ae aD aG aH aI aJ aE) (xa p2 (Ac aD aG aH aI aJ aE) (isAgg49 _) (sizeOf49 _) (hb.r0 0 6 gZ)) (sc call107 ((p_S aD aG aH aI aJ aE w1).mono ?_))))))
 rintro e w2 ⟨he,hE⟩
 refine ⟨_,he,?_⟩
 obtain ⟨hs,hb⟩:=hs.pp hb hE
 refine nw3 (Ag 0 0 0 0 0 0) 86 hs hb (jT (zeroValue86 _) rfl) fun p3 w3 H2 hs hb=>sbx 0 (Aa aD aG aH aI aJ 0 0) (sizeOf86 _) hs hb gZ fun w4 hs hb=>ln (jA (eg (q (ln (jF ?_)))))
 have ⟨h,hs⟩:=hs.hr (h H2 w4)
 obtain ⟨I1,mu1,h0,hr⟩:=h
 refine zI (σ:=Int×Int×Int×Int×Int×ByteArray×Int×Int×NP×World) (fun s ρ w=>w=s.2.2.2.2.2.2.2.2.2∧Has ρ [(0,(vp p1)),(3,(vp (some p2))),(6,(vp (some p3))),(7,(vi s.1))]∧Hst w0 s.2.2.2.2.2.2.2.2.1 w s.2.2.2.2.2.2.2.2.1 w∧HB s.2.2.2.2.2.2.2.2.1 w [(p3,(Aa (s.2.1) (s.2.2.1) (s.2.2.2.1) (s.2.2.2.2.1) (s.2.2.2.2.2.1) (s.2.2.2.2.2.2.1) (s.2.2.2.2.2.2.2.1)),86),(p2,(Ac aD aG aH aI aJ aE),49)]∧I1 s.1 s.2.1 s.2.2.1 s.2.2.2.1 s.2.2.2.2.1 s.2.2.2.2.2.1 s.2.2.2.2.2.2.1 s.2.2.2.2.2.2.2.1 s.2.2.2.2.2.2.2.2.1 s.2.2.2.2.2.2.2.2.2) (fun s=>mu1 s.1 s.2.1 s.2.2.1 s.2.2.2.1 s.2.2.2.2.1 s.2.2.2.2.2.1 s.2.2.2.2.2.2.1 s.2.2.2.2.2.2.2.1 s.2.2.2.2.2.2.2.2.2) (0,aD,aG,aH,aI,aJ,0,0,H2,w4) ⟨rfl,hm,hs,hb,h0⟩ ?_
 rintro ⟨i1,aA,aB,aC,aK,aF,aL,aM,Hl1,wl1⟩ ρ w ⟨hw,hH,hs,hb,hI⟩
 dsimp only at hw hH hs hb;subst w
 have h:=hr i1 aA aB aC aK aF aL aM Hl1 wl1 hs hI
 refine jO hH (jA (eg (qb (q3 (xl (isAgg22 _) (hb.d 1 5 (gS gZ))) (qb (ln (cbr h ?_ ?_)))))))<;>intro h
 refine jC (jJ (jA (jF (eg (qb (q3 (xl (isAgg22 _) (hb.d 1 5 (gS gZ))) (q (qi (runUnderlying22 _) (sizeOf49 _) h fun a1 h=>?_))))))))
 obtain ⟨aN,aO,aP,aQ,aR,aX,hv1,h⟩:=h
 refine qa (isAgg49 _) (sizeOf49 _) hv1 (sc call72 (h.mono fun e w5 ⟨r1,r2,k,hk,h⟩=>have ⟨hs,hb⟩:=hk.hh hs hb;⟨_,k,?_⟩))
 refine q (qd (ln (jA (eg (qb (ln (cbr h ?_ ?_)))))))<;>intro h
 refine eg (qc (ln (er (jW (kG (jW (jW (kG (jW (vD (.inl rfl) results72 (v:=(vi 0)) (by kernel_rfl) (v':=(vi r2)) (by kernel_rfl) ⟨0,r2,rfl,h⟩))))))))))
 refine jC (jJ (eg (qb (ln (zC (fun ρ wJ=>∃b1'0:Bool,∃HJ:NP,((i1 == 0)=b1'0)∧Hst w0 Hl1 w5 HJ wJ∧HB HJ wJ [(p3,(Aa aA aB aC aK aF (cond b1'0 r1 aL) (cond b1'0 aM r1)),86),(p2,(Ac aD aG aH aI aJ aE),49)]∧Has ρ [(0,(vp p1)),(3,(vp (some p2))),(6,(vp (some p3))),(7,(vi i1))]) ?_ ?_)))))
 refine jZ (t:=(i1 == 0)) (by kernel_rfl) (fun hc4=>?_) (fun hc4=>?_)
 refine rg (qb (vG (jP rfl) (kV (a:=(p3.add 5)) (v:=(vi r1)) (by kernel_rfl) (by kernel_rfl) rfl (sizeOf30 _) (hb.canW 0 5 gZ (by kernel_rfl))) ?_))
 intro w9 hn6
 have hsb:Hst w0 Hl1 w5 Hl1 w9∧HB Hl1 w9 [(p3,(Aa aA aB aC aK aF r1 aM),86),(p2,(Ac aD aG aH aI aJ aE),49)]:=by
  rw [hn6];exact hb.set (i:=0) 5 (v:=(vi r1)) hs gZ (by kernel_rfl)
 obtain ⟨hs,hb⟩:=hsb
 refine ln ⟨true,_,hc4,hs,hb,hm⟩
 refine rg (qb (vG (jP rfl) (kV (a:=(p3.add 6)) (v:=(vi r1)) (by kernel_rfl) (by kernel_rfl) rfl (sizeOf30 _) (hb.canW 0 6 gZ (by kernel_rfl))) ?_))
 intro w10 hn7
 have hsb:Hst w0 Hl1 w5 Hl1 w10∧HB Hl1 w10 [(p3,(Aa aA aB aC aK aF aL r1),86),(p2,(Ac aD aG aH aI aJ aE),49)]:=by
  rw [hn7];exact hb.set (i:=0) 6 (v:=(vi r1)) hs gZ (by kernel_rfl)
 obtain ⟨hs,hb⟩:=hsb
 refine ln ⟨false,_,hc4,hs,hb,hm⟩
 rintro ρ w8 ⟨b1'0,H3,he0,hs,hb,hH⟩
 subst he0
 refine jQ hH (kD (jJ (rg (qc (jB ?_)))))
 have ⟨h,hs⟩:=hs.hr (h H3 w8)
 refine jJ ⟨((q6.wrap (i1+1)),aA,aB,aC,aK,aF,(cond (i1 == 0) r1 aL),(cond (i1 == 0) aM r1),H3,w8),⟨rfl,hm,hs,hb,h.1⟩,h.2⟩
 refine zE (kP (kP (kO (jJ (eg (q0 (vp p1) (q2 (Ab aA aB aC aK aF aL aM) (xa p3 (Aa aA aB aC aK aF aL aM) (isAgg86 _) (sizeOf86 _) (hb.r0 0 7 gZ)) (sc call41 (h.mono fun e w11 ⟨r3,r4,k,hk,h⟩=>have ⟨hs,hb⟩:=hk.hh hs hb;⟨_,k,?_⟩)))))))))
 refine qd (ln (er (vD (.inl rfl) results72 (v:=(vi r3)) (by kernel_rfl) (v':=(vi r4)) (by kernel_rfl) ⟨r3,r4,rfl,h⟩)))
def m_R1 (p1:Option Addr) (n1:Int) (w0:World) (K:WP):Prop :=∃a1,p1=some a1∧∃v1:Sl,w0.cell? a1=some v1.v∧∃s1:Sl,(Instr.sliceAt 42 v1.v none (some (vi n1)) none).run prog w0=.ok s1.v w0∧∃a2,p1=some a2∧zQ w0 a2∧∀w1,w1=w0.setCell a2 s1.v→∃a3,p1=some a3∧∃v2:Sl,w1.cell? (a3.add 1)=some v2.v∧∃s2:Sl,(Instr.sliceAt 43 v2.v none (some (vi n1)) none).run prog w1=.ok s2.v w1∧∃a4,p1=some a4∧zQ w1 (a4.add 1)∧∀w2,w2=w1.setCell (a4.add 1) s2.v→∃a5,p1=some a5∧∃v3:Sl,w2.cell? (a5.add 2)=some v3.v∧∃s3:Sl,(Instr.sliceAt 43 v3.v none (some (vi n1)) none).run prog w2=.ok s3.v w2∧∃a6,p1=some a6∧zQ w2 (a6.add 2)∧∀w3,w3=w2.setCell (a6.add 2) s3.v→K w3
theorem w_R1 (p1 n1 w0 K) (h:m_R1 p1 n1 w0 K):
  Calls prog 73 #[(vp p1),(vi n1)] w0 (fun e w'=>e=.returned (.tuple #[])∧K  w'):=by
 refine cw (args:=[(vp p1),(vi n1)]) func73 ntmps73 (eg (q0 (vp p1) (q0 (vp p1) ?_)))
 refine qm h fun a1 h=>q (ql (isAgg42 _) h fun v1 h=>q ?_)
 obtain ⟨s1,hv5,h⟩:=h
 refine q2 s1.v (yF (by kernel_rfl) (by kernel_rfl) (by kernel_rfl) (by kernel_rfl) hv5) (qm h fun a2 h=>q (st1 (sizeOf42 _) h fun w1 h=>ln (eg (qb (qm h fun a3 h=>q (ql (isAgg43 _) h fun v2 h=>q ?_))))))
 obtain ⟨s2,hv3,h⟩:=h
 refine q2 s2.v (yF (by kernel_rfl) (by kernel_rfl) (by kernel_rfl) (by kernel_rfl) hv3) (qm h fun a4 h=>q (st1 (sizeOf43 _) h fun w2 h=>ln (rg (qb (qm h fun a5 h=>q (ql (isAgg43 _) h fun v3 h=>q ?_))))))
 obtain ⟨s3,hv1,h⟩:=h
 refine q2 s3.v (yF (by kernel_rfl) (by kernel_rfl) (by kernel_rfl) (by kernel_rfl) hv1) (qm h fun a6 h=>q (st1 (sizeOf43 _) h fun w3 h=>jB (jEE (.inr rfl) results73 ⟨rfl,h⟩)))
def m_S1 (p1:Option Addr) (aD aG:Int) (aH aI:Int) (aJ:ByteArray) (aE:Sl) (w0:World) (K:Int→Int→WP):Prop :=∀H1 w1,Hst w0 None w0 H1 w1→Calls prog 71 #[(.agg #[(vi aD),(vi aG),(vi aH),(vu aI),(vs aJ),aE.v])] w1 (fun e w2=>∃r1,e=.returned (vi r1)∧Kept H1 w1 w2∧Br (r1 != 0) (K 0 r1 w2) (∃a1,p1=some a1∧∃v1:Sl,w2.cell? a1=some v1.v∧Calls prog 72 #[(vp p1),(.agg #[(vi aD),(vi aG),(vi aH),(vu aI),(vs aJ),aE.v])] w2 (fun e w3=>∃r2 r3,e=.returned (.tuple #[(vi r2),(vi r3)])∧Kept H1 w2 w3∧Br (r3 != 0) (Calls prog 73 #[(vp p1),(vi (v1.len:Int))] w3 (fun e w4=>e=.returned (.tuple #[])∧Kept H1 w3 w4∧K r2 r3 w4)) (K r2 r3 w3))))
theorem w_S1 (p1 aD aG aH aI aJ aE w0 K) (h:m_S1 p1 aD aG aH aI aJ aE w0 K):
  Calls prog 34 #[(vp p1),(.agg #[(vi aD),(vi aG),(vi aH),(vu aI),(vs aJ),aE.v])] w0 (fun e w'=>∃r4 r5,e=.returned (.tuple #[(vi r4),(vi r5)])∧K r4 r5 w'):=by
 refine cw (args:=[(vp p1),(Ae aD aG aH aI aJ aE)]) func34 ntmps34 ?_
 obtain ⟨hs,hb⟩:=st0 w0
 refine eg (nw3 (Ac aD aG aH aI aJ aE) 49 hs hb xb fun p2 w1 H1 hs hb=>qb (ln (eg (q2 (Ae aD aG aH aI aJ aE) (xa p2 (Ac aD aG aH aI aJ aE) (isAgg49 _) (sizeOf49 _) (hb.r0 0 6 gZ)) ?_))))
 have ⟨h,hs⟩:=hs.hr (h H1 w1)
 refine sc call71 (h.mono fun e w2 ⟨r1,k,hk,h⟩=>have ⟨hs,hb⟩:=hk.hh hs hb;⟨_,k,?_⟩)
 refine q (ln (jA (eg (qb (ln (cbr h ?_ ?_))))))<;>intro h
 refine eg (qc (ln (er (jW (vD (.inl rfl) results34 (v:=(vi 0)) (by kernel_rfl) (v':=(vi r1)) (by kernel_rfl) ⟨0,r1,rfl,h⟩)))))
 refine jC (jJ (eg (q (qm h fun a1 h=>q (ql (isAgg42 _) h fun v1 h=>qb (ln (eg (q (q2 (Ae aD aG aH aI aJ aE) (xa p2 (Ac aD aG aH aI aJ aE) (isAgg49 _) (sizeOf49 _) (hb.r0 0 6 gZ)) (sc call72 (h.mono fun e w3 ⟨r2,r3,k,hk,h⟩=>have ⟨hs,hb⟩:=hk.hh hs hb;⟨_,k,?_⟩)))))))))))
 refine q (qd (ln (jA (eg (qb (ln (cbr h ?_ ?_)))))))<;>intro h
 refine rg (qb (sc call73 (h.mono fun e w4 ⟨k,hk,h⟩=>have ⟨hs,hb⟩:=hk.hh hs hb;⟨_,k,?_⟩)))
 refine ln (eg (qd (ln (er (vD (.inl rfl) results34 (v:=(vi r2)) (by kernel_rfl) (v':=(vi r3)) (by kernel_rfl) ⟨r2,r3,rfl,h⟩)))))
 refine jC (jJ (eg (qd (ln (er (vD (.inl rfl) results34 (v:=(vi r2)) (by kernel_rfl) (v':=(vi r3)) (by kernel_rfl) ⟨r2,r3,rfl,h⟩))))))
end Go.Proofs
end
section
open Go Go.SE
namespace Go.Proofs
attribute [local irreducible] Calls
theorem kK (k:Int):(k=1∨k=2∨k=3∨k=4∨k=5∨k=6∨k=7∨k=8∨k=9)∨(Sp.shapeOf k=Sp.noShape∧Sp.isKind k=false∧∀m:Int,1≤m→m≤9→(k == m)=false):=by
 by_cases h:k=1∨k=2∨k=3∨k=4∨k=5∨k=6∨k=7∨k=8∨k=9
 ·exact .inl h
 ·right;refine ⟨?_,?_,fun m h1 h2=>?_⟩
  ·unfold Sp.shapeOf;repeat rw [if_neg (by omega)]
  ·unfold Sp.isKind;apply Bool.eq_false_iff.2;intro h3;simp at h3;omega
  ·rw [beq_eq_false_iff_ne];omega
theorem yJ (k:Int):s_B k=(Sp.shapeOf k).kids:=by
 rcases kK k with h | ⟨h,_,hm⟩
 ·rcases h with rfl | rfl | rfl | rfl | rfl | rfl | rfl | rfl | rfl <;> decide
 ·rw [h];unfold s_B;simp [hm,Sp.noShape]
theorem uU (k:Int):s_C k=(Sp.shapeOf k).frm:=by
 rcases kK k with h | ⟨h,_,hm⟩
 ·rcases h with rfl | rfl | rfl | rfl | rfl | rfl | rfl | rfl | rfl <;> decide
 ·rw [h];unfold s_C;simp [hm,Sp.noShape]
theorem lN (k:Int):((k == 8) || (k == 9))=(Sp.shapeOf k).to:=by
 rcases kK k with h | ⟨h,_,hm⟩
 ·rcases h with rfl | rfl | rfl | rfl | rfl | rfl | rfl | rfl | rfl <;> decide
 ·rw [h];simp [hm,Sp.noShape]
theorem jBU (k:Int):(k == 2)=(Sp.shapeOf k).num:=by
 rcases kK k with h | ⟨h,_,hm⟩
 ·rcases h with rfl | rfl | rfl | rfl | rfl | rfl | rfl | rfl | rfl <;> decide
 ·rw [h];simp [hm,Sp.noShape]
theorem jAK (k:Int):(k == 3)=(Sp.shapeOf k).text:=by
 rcases kK k with h | ⟨h,_,hm⟩
 ·rcases h with rfl | rfl | rfl | rfl | rfl | rfl | rfl | rfl | rfl <;> decide
 ·rw [h];simp [hm,Sp.noShape]
theorem jAL (k:Int):(!(decide (k<1) || decide (k>9)))=Sp.isKind k:=by
 unfold Sp.isKind;by_cases h1:k<1 <;> by_cases h2:k>9 <;> simp [h1,h2] <;> omega
theorem ite53 (q:Bool):decide ((if q=true then (53:Int) else 0)=0)=!q:=by cases q <;> rfl
def Sp.nodeErr (n:Sp.Node):Int :=
 if Sp.jX n≠0 then 53 else if (decide ((Sp.shapeOf n.kind).kids<1) && n.a != 0) || (decide ((Sp.shapeOf n.kind).kids<2) && n.b != 0) then 53 else Sp.jU (Sp.shapeOf n.kind) n
theorem oZ (n:Sp.Node):s_T n.kind n.frm n.to n.num n.text n.a n.b=(decide (Sp.jX n=0) && !((decide ((Sp.shapeOf n.kind).kids<1) && n.a != 0) || (decide ((Sp.shapeOf n.kind).kids<2) && n.b != 0))):=by
 obtain ⟨k,f,t,u,x,a,b⟩:=n;unfold s_T Sp.jX;simp only [yJ,uU,lN k,jBU k,jAK k,jAL];have hk:=Sp.lB k;generalize Sp.shapeOf k=s at *;obtain ⟨s1,s2,s3,s4,s5⟩:=s;generalize Sp.isKind k=i;have e1:decide (s5≥1)=!decide (s5<1):=by by_cases h:s5<1 <;> simp [h] <;> omega
 have e2:(s5 == 2)=!decide (s5<2):=by
  by_cases h:s5<2
  ·simp [h];omega
  ·simp [h];simp at hk;omega
 simp only [e1,e2,bne,ite53];generalize (f == 0)=c1;generalize (t == 0)=c2;generalize (u == 0)=c3;generalize decide (x=⟨#[]⟩)=c4;generalize (a == 0)=c5;generalize (b == 0)=c6;generalize decide (s5<1)=c7;generalize decide (s5<2)=c8;cases i <;> cases s1 <;> cases s2 <;> cases s3 <;> cases s4 <;> cases c1 <;> cases c2 <;> cases c3 <;> cases c4 <;> simp
theorem uT (n:Sp.Node):s_G n.kind n.frm n.to n.num n.text n.a n.b=Sp.nodeErr n:=by
 unfold s_G Sp.nodeErr;rw [oZ,uU,lN];by_cases h1:Sp.jX n=0
 ·by_cases h2:((decide ((Sp.shapeOf n.kind).kids<1) && n.a != 0) || (decide ((Sp.shapeOf n.kind).kids<2) && n.b != 0))=true
  ·rw [h2];simp [h1]
  ·have h2:((decide ((Sp.shapeOf n.kind).kids<1) && n.a != 0) || (decide ((Sp.shapeOf n.kind).kids<2) && n.b != 0))=false:=by simpa using h2
   rw [h2];simp only [h1,ne_eq,not_true_eq_false,if_false,Bool.false_eq_true,decide_true,Bool.not_false,Bool.and_true,Bool.not_true,cond_false];unfold Sp.jU Sp.yU;have e1:(decide (n.frm≥0) && decide (n.frm<16))=(decide (0≤n.frm) && decide (n.frm<16)):=rfl;have e2:(decide (n.to≥0) && decide (n.to<16))=(decide (0≤n.to) && decide (n.to<16)):=rfl;have e3:(n.frm == n.to)=(n.to == n.frm):=by rw [Bool.eq_iff_iff];simp only [beq_iff_eq];exact eq_comm
   rw [e1,e2,e3];have e4:decide (((n.text.size:Int))>64)=decide (n.text.size>64):=decide_eq_decide.2 (by omega);rw [e4];generalize ((Sp.shapeOf n.kind).frm && !(decide (0≤n.frm) && decide (n.frm<16)) || (Sp.shapeOf n.kind).to && (!(decide (0≤n.to) && decide (n.to<16)) || n.to == n.frm))=c;cases c
   ·by_cases h:n.text.size>64 <;> simp [h]
   ·rfl
 ·simp [h1]
end Go.Proofs
end
section
open Go Go.SE
namespace Go.Proofs
open Tryz
attribute [local irreducible] Calls
theorem tP:SlType prog 42 86 7 64:=by
 refine ⟨underlying42,⟨t86,_,by kernel_rfl,(by kernel_rfl:t86.zero=some (.agg #[.int .i64 0,.int .i64 0,.int .i64 0,.int .u64 0,.string ⟨#[]⟩,.int .i64 0,.int .i64 0])),by kernel_rfl,by kernel_rfl,rfl⟩,by omega⟩
theorem xV:SlType prog 43 3 1 8:=by
 refine ⟨underlying43,⟨t3,_,by kernel_rfl,(by kernel_rfl:t3.zero=some (.int .i64 0)),by kernel_rfl,by kernel_rfl,rfl⟩,by omega⟩
def jDM (e:Sp.Ent):List Value:=qM e.node
def jEV (e:Sp.Ent):List Value:=[.int .i64 e.size]
def jBW (e:Sp.Ent):List Value:=[.int .i64 e.depth]
structure PoolRS (w:World) (p:Addr) (L:Sp.Pool) (s1 s2 s3:Sl):Prop where
 box:Box w p [s1.v,s2.v,s3.v] 45
 r1:Rws w 86 7 s1 (L.map jDM)
 r2:Rws w 3 1 s2 (L.map jEV)
 r3:Rws w 3 1 s3 (L.map jBW)
 n1:¬ s1.blk p.block
 n2:¬ s2.blk p.block
 n3:¬ s3.blk p.block
 d12:∀b,s1.blk b→¬ s2.blk b
 d13:∀b,s1.blk b→¬ s3.blk b
 d23:∀b,s2.blk b→¬ s3.blk b
def zT (w:World) (p:Addr) (L:Sp.Pool) (F:NP):Prop:=∃s1 s2 s3,PoolRS w p L s1 s2 s3∧∀b,F b↔(b=p.block∨s1.blk b∨s2.blk b∨s3.blk b)
theorem zT.ext {G:NP} {w w':World} {p:Addr} {L:Sp.Pool} {F:NP} (h:zT w p L F) (hE:Ext G w w') (hd:∀b,F b→¬ G b):zT w' p L F:=by
 obtain ⟨s1,s2,s3,h,hF⟩:=h;exact ⟨s1,s2,s3,⟨h.box.ext hE (hd _ ((hF _).2 (.inl rfl))),h.r1.ext hE (fun b hb=>hd _ ((hF _).2 (.inr (.inl hb)))),h.r2.ext hE (fun b hb=>hd _ ((hF _).2 (.inr (.inr (.inl hb))))),h.r3.ext hE (fun b hb=>hd _ ((hF _).2 (.inr (.inr (.inr hb))))),h.n1,h.n2,h.n3,h.d12,h.d13,h.d23⟩,hF⟩
theorem zT.pure {w w':World} {p:Addr} {L:Sp.Pool} {F:NP} (h:zT w p L F) (hE:Pure w w'):zT w' p L F:=h.ext hE (fun _ _ h=>h)
theorem zT.lt {w:World} {p:Addr} {L:Sp.Pool} {F:NP} (h:zT w p L F) {b:Nat} (hb:F b):b<w.heap.size:=by
 obtain ⟨s1,s2,s3,h,hF⟩:=h;rcases (hF b).1 hb with rfl | hb | hb | hb
 ·exact h.box.lt
 ·exact h.r1.lt hb
 ·exact h.r2.lt hb
 ·exact h.r3.lt hb
theorem tG (w0:World):Calls prog 31 #[] w0 (fun e w'=>∃r:Option Addr,e=.returned (.pointer r)∧∃p F,r=some p∧zT w' p [] F∧Pure w0 w'∧∀b,F b→w0.heap.size≤b):=by
 refine w_T2 w0 (fun r w'=>∃p F,r=some p∧zT w' p [] F∧Pure w0 w'∧∀b,F b→w0.heap.size≤b) ?_;unfold m_T2;have hnil:∀b,¬ Sl.nil.blk b:=fun b hb=>by obtain ⟨a,h,_⟩:=hb;cases h
 intro p w1 h1;have b1:=Box.of_new h1;have E1:Pure w0 w1:=Ext.new h1
 first
  | exact ⟨p,(·=p.block),rfl,⟨Sl.nil,Sl.nil,Sl.nil,⟨b1,Rws.nil _ _ _,Rws.nil _ _ _,Rws.nil _ _ _,hnil _,hnil _,hnil _,fun b h=>(hnil b h).elim,fun b h=>(hnil b h).elim,fun b h=>(hnil b h).elim⟩,fun b=>by simp [hnil]⟩,E1,fun b hb=>by subst hb;exact New.own (Ext.refl w0) h1⟩
  | skip
theorem kU (p:Addr) (t:Int) (w0:World) {L:Sp.Pool} {F:NP} (hP:zT w0 p L F):Calls prog 60 #[.pointer (some p),.int .i64 t] w0 (fun e w'=>∃r:Bool,e=.returned (.bool r)∧(r=Sp.inP L t∧w'=w0)):=by
 refine w_R2 _ _ w0 (fun r w'=>r=Sp.inP L t∧w'=w0) ?_;unfold m_R2;obtain ⟨s1,s2,s3,h,hF⟩:=hP;have hl:s1.len=L.length:=by rw [h.r1.len];simp
 refine ⟨fun hc=>⟨p,rfl,s1,h.box.cell0,?_,rfl⟩,fun hc=>⟨?_,rfl⟩⟩
 ·have:=of_decide_eq_true hc;rw [hl];simp [Sp.inP,this]
 ·have:=of_decide_eq_false hc;simp [Sp.inP];omega
theorem PoolRS.at1 {w:World} {p:Addr} {L:Sp.Pool} {s1 s2 s3:Sl} (h:PoolRS w p L s1 s2 s3) {t:Int} (ht:Sp.inP L t=true) (hok:Sp.Ok L):∃e,Sp.get L t=some e ∧
  (∃a,At s1 (IntKind.i64.wrap (t - 1)) 7 a∧Row w a (jDM e))∧(∃a,At s2 (IntKind.i64.wrap (t - 1)) 1 a∧Row w a (jEV e))∧(∃a,At s3 (IntKind.i64.wrap (t - 1)) 1 a∧Row w a (jBW e)):=by
 obtain ⟨e,he,_,hi,hLe⟩:=Sp.uH ht
 have hin:=Sp.zA.1 ht
 have hf:=hok.few
 have hw:IntKind.i64.wrap (t - 1)=((t - 1).toNat:Int):=by rw [i64 (by omega) (by omega)];omega
 obtain ⟨a1,h1,g1⟩:=h.r1.nth (j:=(t - 1).toNat) hi
 obtain ⟨a2,h2,g2⟩:=h.r2.nth (j:=(t - 1).toNat) hi
 obtain ⟨a3,h3,g3⟩:=h.r3.nth (j:=(t - 1).toNat) hi
 rw [hLe] at g1 g2 g3
 rw [hw]
 exact ⟨e,he,⟨a1,h1,g1⟩,⟨a2,h2,g2⟩,⟨a3,h3,g3⟩⟩
theorem yZ (p:Addr) (t:Int) (w0:World) {L:Sp.Pool} {F:NP} (hP:zT w0 p L F) (hok:Sp.Ok L):Calls prog 87 #[.pointer (some p),.int .i64 t] w0 (fun e w'=>∃r:Int,e=.returned (.int .i64 r)∧(r=Sp.sizeOf L t∧w'=w0)):=by
 refine w_V2 _ _ w0 (fun r w'=>r=Sp.sizeOf L t∧w'=w0) ?_;unfold m_V2;refine (kU p t w0 hP).mono ?_;rintro _ _ ⟨_,rfl,rfl,rfl⟩;refine ⟨_,rfl,fun h=>⟨?_,rfl⟩,fun h=>?_⟩
 ·have h:Sp.inP L t=false:=by simpa using h
  simp [Sp.sizeOf,Sp.kL h]
 ·have h:Sp.inP L t=true:=by simpa using h
  obtain ⟨s1,s2,s3,hS,hF⟩:=hP;obtain ⟨e,he,_,⟨a,hat,hr⟩,_⟩:=hS.at1 h hok;exact ⟨p,rfl,s2,hS.box.cell rfl,a,hat,_,qA hr,by simp [Sp.sizeOf,he],rfl⟩
theorem qZ (p:Addr) (t:Int) (w0:World) {L:Sp.Pool} {F:NP} (hP:zT w0 p L F) (hok:Sp.Ok L):Calls prog 88 #[.pointer (some p),.int .i64 t] w0 (fun e w'=>∃r:Int,e=.returned (.int .i64 r)∧(r=Sp.depthOf L t∧w'=w0)):=by
 refine w_W2 _ _ w0 (fun r w'=>r=Sp.depthOf L t∧w'=w0) ?_;unfold m_W2;refine (kU p t w0 hP).mono ?_;rintro _ _ ⟨_,rfl,rfl,rfl⟩;refine ⟨_,rfl,fun h=>⟨?_,rfl⟩,fun h=>?_⟩
 ·have h:Sp.inP L t=false:=by simpa using h
  simp [Sp.depthOf,Sp.kL h]
 ·have h:Sp.inP L t=true:=by simpa using h
  obtain ⟨s1,s2,s3,hS,hF⟩:=hP;obtain ⟨e,he,_,_,⟨a,hat,hr⟩⟩:=hS.at1 h hok;exact ⟨p,rfl,s3,hS.box.cell rfl,a,hat,_,qA hr,by simp [Sp.depthOf,he],rfl⟩
theorem uA (p:Addr) (t:Int) (w0:World) {L:Sp.Pool} {F:NP} (hP:zT w0 p L F) (hok:Sp.Ok L):Calls prog 45 #[.pointer (some p),.int .i64 t] w0
  (fun e w'=>∃k f t' u:Int,∃x:ByteArray,∃a b:Int,∃r:Bool,e=.returned (.tuple #[.agg #[.int .i64 k,.int .i64 f,.int .i64 t',.int .u64 u,.string x,.int .i64 a,.int .i64 b],.bool r])∧(((⟨k,f,t',u,x,a,b⟩:Sp.Node)=Sp.jD L t∧r=Sp.inP L t)∧Pure w0 w')):=by
 refine w_S2 _ _ w0 (fun k f t' u x a b r w'=>((⟨k,f,t',u,x,a,b⟩:Sp.Node)=Sp.jD L t∧r=Sp.inP L t)∧Pure w0 w') ?_
 unfold m_S2
 intro H1 w1 hs1
 have hP1:=hP.pure hs1.first
 refine (kU p t w1 hP1).mono ?_
 rintro _ _ ⟨_,rfl,rfl,rfl⟩
 refine ⟨_,rfl,Kept.refl _,fun h=>?_,fun h=>?_⟩
 ·intro w3 hs3
  have h:Sp.inP L t=false:=by simpa using h
  exact ⟨⟨by simp [Sp.jD,Sp.kL h,Sp.tX],h.symm⟩,hs1.first.hst hs3⟩
 ·have h:Sp.inP L t=true:=by simpa using h
  obtain ⟨s1,s2,s3,hS,hF⟩:=hP1
  obtain ⟨e,he,⟨a,hat,hr⟩,_,_⟩:=hS.at1 h hok
  refine ⟨p,rfl,s1,hS.box.cell0,a,hat,_,_,_,_,_,_,_,hr,?_⟩
  intro w4 hs4
  exact ⟨⟨by simp [Sp.jD,he],h.symm⟩,hs1.first.hst hs4⟩
theorem jDR (m n:Sp.Node):((m.kind == n.kind) && ((m.frm == n.frm) && ((m.to == n.to) && ((m.num == n.num) && ((decide (m.text=n.text)) && ((m.a == n.a) && (m.b == n.b)))))))=decide (m=n):=by
 obtain ⟨k,f,t,u,x,a,b⟩:=m;obtain ⟨k',f',t',u',x',a',b'⟩:=n;rw [Bool.eq_iff_iff];simp
theorem gF (p:Addr) (n:Sp.Node) (w0:World) {L:Sp.Pool} {F:NP} (hP:zT w0 p L F) (hok:Sp.Ok L):Calls prog 89 #[.pointer (some p),uE n] w0
  (fun e w'=>∃r:Int,∃ok:Bool,e=.returned (.tuple #[.int .i64 r,.bool ok])∧((match Sp.find L n with | some i=>r=(i:Int)+1∧ok=true | none=>r=0∧ok=false)∧Pure w0 w')):=by
 obtain ⟨k,f,t,u,x,a,b⟩:=n
 generalize hn:(⟨k,f,t,u,x,a,b⟩:Sp.Node)=n
 have hnk:uE n=.agg #[.int .i64 k,.int .i64 f,.int .i64 t,.int .u64 u,.string x,.int .i64 a,.int .i64 b]:=by rw [← hn];rfl
 rw [hnk]
 suffices key:∀K:Int→Bool→WP,(∀r ok w',((match Sp.find L n with | some i=>r=(i:Int)+1∧ok=true | none=>r=0∧ok=false)∧Pure w0 w')→K r ok w')→m_A1 (some p) k f t u x a b w0 K from
  w_A1 _ _ _ _ _ _ _ _ w0 _ (key _ (fun _ _ _ h=>h))
 intro K hK
 unfold m_A1
 intro H1 w1 hs1
 refine ⟨fun i H w'=>∃j:Nat,i=j∧j≤L.length∧Pure w0 w'∧∀q,q<j→∀e,L[q]?=some e→e.node≠n,fun i _=>((L.length:Int) - i).toNat,⟨0,rfl,Nat.zero_le _,hs1.first,fun q hq=>absurd hq (by omega)⟩,?_⟩
 rintro _ Hl wl hl ⟨j,rfl,hj,El,hno⟩
 unfold m_A1_l1
 obtain ⟨s1,s2,s3,hS,hF⟩:=hP.pure El
 have hf:=hok.few
 have hlen:s1.len=L.length:=by rw [hS.r1.len];simp
 refine ⟨p,rfl,s1,hS.box.cell0,fun h=>?_,fun h=>?_⟩
 ·have hlt:=zO hlen h
  refine ⟨p,rfl,?_⟩
  intro w2 hs2
  have E2:=El.hst hs2
  obtain ⟨s1',s2',s3',hS',_⟩:=hP.pure E2
  obtain ⟨a',hat,hr⟩:=hS'.r1.nth hlt
  refine ⟨s1',hS'.box.cell0,a',hat,_,_,_,_,_,_,_,hr,?_⟩
  have hB:=jDR L[j].node n
  rw [← hn] at hB
  simp only at hB
  rw [hB,hn]
  refine ⟨fun h=>?_,fun h=>?_⟩
  ·have h:=of_decide_eq_true h
   rw [zL hlt (by omega)]
   refine hK _ _ _ ⟨?_,E2⟩
   have hfd:Sp.find L n=some j:=by
    unfold Sp.find;rw [List.findIdx?_eq_some_iff_getElem];exact ⟨hlt,by simp [h],fun q hq=>by simpa using hno q hq _ (List.getElem?_eq_getElem (by omega))⟩
   rw [hfd];exact ⟨by omega,rfl⟩
  ·have h:=of_decide_eq_false h
   rw [zL hlt (by omega)]
   refine ⟨⟨j+1,rfl,hlt,E2,fun q hq e he=>?_⟩,kZ hlt⟩
   by_cases hqj:q=j
   ·subst hqj;rw [List.getElem?_eq_getElem hlt] at he;cases he;exact h
   ·exact hno q (by omega) e he
 ·have hge:=kA hlen hj h
  subst hge
  refine hK _ _ _ ⟨?_,El⟩
  have hfd:Sp.find L n=none:=gC (fun e he=>by
   obtain ⟨q,hq,rfl⟩:=List.mem_iff_getElem.1 he;exact hno q hq _ (List.getElem?_eq_getElem hq))
  rw [hfd];exact ⟨rfl,rfl⟩
end Go.Proofs
end
section
open Go Go.SE
open Go.IntKind renaming i64 → q6
namespace Go.Proofs
open Tryz
set_option maxRecDepth 100000
set_option maxHeartbeats 4000000
attribute [local irreducible] wpL wpX opE wpE Calls
def m_G1_l1 (l1:Sl) (t1 i1:Int) (wl1:World) (Kc1:Int→WP) (K:Bool→WP):Prop :=Br (decide (i1<(l1.len:Int))) (∃a1:Addr,At l1 i1 1 a1∧∃v1,wl1.cell? a1=some (vi v1)∧Br (v1 == t1) (K true wl1) (Kc1 (q6.wrap (i1+1)) wl1)) (K false wl1)
def m_G1 (l1:Sl) (t1:Int) (w0:World) (K:Bool→WP):Prop :=∃(I1:Int→WP) (mu1:Int→World→Nat),I1 0 w0∧∀(i1:Int) (wl1:World),I1 i1 wl1→m_G1_l1 l1 t1 i1 wl1 (fun y'0 w'=>I1 y'0 w'∧mu1 y'0 w'<mu1 i1 wl1) K
theorem w_G1 (l1 t1 w0 K) (h:m_G1 l1 t1 w0 K):
  Calls prog 61 #[l1.v,(vi t1)] w0 (fun e w'=>∃r1,e=.returned (vb r1)∧K r1 w'):=by
 refine cw (args:=[l1.v,(vi t1)]) func61 ntmps61 (eg (q0 (vb false) (ln (jA (eg (q0 (vi 0) (ln ?_)))))))
 refine jF ?_
 obtain ⟨I1,mu1,h0,hr⟩:=h
 refine zI (σ:=Int×World) (fun s ρ w=>w=s.2∧Has ρ [(0,l1.v),(1,(vi t1)),(5,(vi s.1))]∧I1 s.1 s.2) (fun s=>mu1 s.1 s.2) (0,w0) ⟨rfl,hm,h0⟩ ?_
 rintro ⟨i1,wl1⟩ ρ w ⟨hw,hH,hI⟩
 dsimp only at hw hH;subst w
 have h:=hr i1 wl1 hI
 refine jO hH (jA (eg (qd (ln (cbr h ?_ ?_)))))<;>intro h
 refine jC (jJ (jA (jF (eg (qb (qi (runUnderlying52 _) (sizeOf30 _) h fun a1 h=>ql (isAgg30 _) h fun v1 h=>qb (ln (cbr h ?_ ?_))))))))<;>intro h
 refine eg (q (ln (er (kG (jW (jW (kG (jW (rs1 results61 ⟨true,rfl,h⟩)))))))))
 refine jC (kD (jJ (rg (qc (ln ⟨((q6.wrap (i1+1)),wl1),⟨rfl,hm,h.1⟩,h.2⟩)))))
 refine zE (kP (kP (kO (jJ (eg (q0 (vb false) (ln (er (rs1 results61 ⟨false,rfl,h⟩)))))))))
def m_X2 (k1:Option Addr) (t1:Int) (w0:World) (K:Int→WP):Prop :=∃a1,k1=some a1∧∃v1,w0.cell? a1=some (vp v1)∧Calls prog 60 #[(vp v1),(vi t1)] w0 (fun e w1=>∃r1,e=.returned (vb r1)∧Br (!r1) (K 51 w1) (∃a2,k1=some a2∧∃v2:Sl,w1.cell? (a2.add 1)=some v2.v∧Calls prog 61 #[v2.v,(vi t1)] w1 (fun e w2=>∃r2,e=.returned (vb r2)∧Br (!r2) (∃a3,k1=some a3∧∃v3:Sl,w2.cell? (a3.add 1)=some v3.v∧∀p1 w3,New w2 (.cells #[(vi t1)] 30) p1 w3→∃s1:Sl,∃w4:World,(Builtin.append_ #[52,52] 52 #[v3.v,(Sl.mk (some p1) 1 1).v]).run prog w3=.ok s1.v w4∧∃a4,k1=some a4∧zQ w4 (a4.add 1)∧∀w5,w5=w4.setCell (a4.add 1) s1.v→K 0 w5) (K 0 w2))))
theorem w_X2 (k1 t1 w0 K) (h:m_X2 k1 t1 w0 K):
  Calls prog 24 #[(vp k1),(vi t1)] w0 (fun e w'=>∃r3,e=.returned (vi r3)∧K r3 w'):=by
 refine cw (args:=[(vp k1),(vi t1)]) func24 ntmps24 (eg (q0 (vi 0) (ln (jA (eg (q0 (vp k1) ?_))))))
 refine qm h fun a1 h=>q (ql (isAgg27 _) h fun v1 h=>q (sc call60 (h.mono fun e w1 ⟨r1,k,h⟩=>⟨_,k,?_⟩)))
 refine q (ln (cbr h ?_ ?_))<;>intro h
 refine eg (q (ln (er (jW (rs1 results24 ⟨51,rfl,h⟩)))))
 refine jC (jJ (jA (eg (q (qm h fun a2 h=>q (ql (isAgg52 _) h fun v2 h=>q (sc call61 (h.mono fun e w2 ⟨r2,k,h⟩=>⟨_,k,?_⟩))))))))
 refine q (ln (cbr h ?_ ?_))<;>intro h
 refine rg (qb (qm h fun a3 h=>q (ql (isAgg52 _) h fun v3 h=>q (vU (O:=(.cells #[(vi t1)] 30)) (fun p=>(Sl.mk (some p) 1 1).v) (jP rfl) (zM (vs:=#[(0,(vi t1))]) (by kernel_rfl) (by kernel_rfl)) ?_))))
 intro p1 w3 hn2
 have h:=h p1 w3 hn2
 obtain ⟨s1,w4,hv1,h⟩:=h
 refine st (v:=s1.v) (jP rfl) (zH (args:=#[v3.v,(Sl.mk (some p1) 1 1).v]) (by kernel_rfl) (fun _=>rfl) hv1) (qm h fun a4 h=>q (st1 (sizeOf52 _) h fun w5 h=>ln (eg (q (ln (er (rs1 results24 ⟨0,rfl,h⟩)))))))
 refine jC (jJ (eg (q (ln (er (rs1 results24 ⟨0,rfl,h⟩))))))
def m_H1_l1 (a1 b1:Sl) (i1:Int) (w0:World) (Hl1:NP) (wl1:World) (Kc1:Int→NP→WP) (K:Bool→WP):Prop :=Br (decide (i1<(a1.len:Int))) (∃a2:Addr,At a1 i1 1 a2∧∀w1,Hst w0 Hl1 wl1 Hl1 w1→∃v1,w1.cell? a2=some (vi v1)∧∃a3:Addr,At b1 i1 1 a3∧∃v2,w1.cell? a3=some (vi v2)∧Br (v1 != v2) (K false w1) (Kc1 (q6.wrap (i1+1)) Hl1 w1)) (K true wl1)
def m_H1 (a1 b1:Sl) (w0:World) (K:Bool→WP):Prop :=Br (((a1.len:Int):Int) != (b1.len:Int)) (K false w0) (∃(I1:Int→NP→WP) (mu1:Int→World→Nat),I1 0 None w0∧∀(i1:Int) (Hl1:NP) (wl1:World),Hst w0 Hl1 wl1 Hl1 wl1→I1 i1 Hl1 wl1→m_H1_l1 a1 b1 i1 w0 Hl1 wl1 (fun y'0 H' w'=>I1 y'0 H' w'∧mu1 y'0 w'<mu1 i1 wl1) K)
theorem w_H1 (a1 b1 w0 K) (h:m_H1 a1 b1 w0 K):
  Calls prog 63 #[a1.v,b1.v] w0 (fun e w'=>∃r1,e=.returned (vb r1)∧K r1 w'):=by
 refine cw (args:=[a1.v,b1.v]) func63 ntmps63 ?_
 obtain ⟨hs,hb⟩:=st0 w0
 refine eg (q (ln (jA (eg (qd (q (ln (cbr h ?_ ?_))))))))<;>intro h
 refine eg (q (ln (er (jW (rs1 results63 ⟨false,rfl,h⟩)))))
 refine jC (jJ (jA (eg (q (ln (jF ?_))))))
 obtain ⟨I1,mu1,h0,hr⟩:=h
 refine zI (σ:=Int×NP×World) (fun s ρ w=>w=s.2.2∧Has ρ [(0,a1.v),(1,b1.v),(5,(vi s.1))]∧Hst w0 s.2.1 w s.2.1 w∧HB s.2.1 w []∧I1 s.1 s.2.1 s.2.2) (fun s=>mu1 s.1 s.2.2) (0,None,w0) ⟨rfl,hm,hs,hb,h0⟩ ?_
 rintro ⟨i1,Hl1,wl1⟩ ρ w ⟨hw,hH,hs,hb,hI⟩
 dsimp only at hw hH hs hb;subst w
 have h:=hr i1 Hl1 wl1 hs hI
 refine jO hH (jA (eg (qd (ln (cbr h ?_ ?_)))))<;>intro h
 refine jC (jJ (jA (jF (jA (kH (by kernel_rfl) (by kernel_rfl) (by kernel_rfl) (by kernel_rfl) ?_)))))
 intro w1 hw1
 have hs:Hst w0 Hl1 wl1 Hl1 w1:=by rw [hw1];exact hs.drew
 have hb:HB Hl1 w1 []:=by rw [hw1];exact hb.drew
 refine qq 0 a1.v Kp0 (qq 1 (vi i1) Kp1 (qg 2 ?_))
 obtain ⟨a2,hv4,h⟩:=h
 refine sxQ Kp2 (jP rfl) rfl (xi (runUnderlying52 _) (sizeOf30 _) hv4) (qg 3 ?_)
 have ⟨h,hs⟩:=hs.hr (h w1)
 obtain ⟨v1,hv3,h⟩:=h
 refine sxQ Kp3 (jP rfl) rfl (xl (isAgg30 _) hv3) (qq 4 b1.v Kp4 (qq 5 (vi i1) Kp5 (qg 6 ?_)))
 obtain ⟨a3,hv2,h⟩:=h
 refine sxQ Kp6 (jP rfl) rfl (xi (runUnderlying52 _) (sizeOf30 _) hv2) (qg 7 ?_)
 obtain ⟨v2,hv1,h⟩:=h
 refine sxQ Kp7 (jP rfl) rfl (xl (isAgg30 _) hv1) (qq 8 (vb (v1 != v2)) Kp8 (wn (jJ (cbr h ?_ ?_))))<;>intro h
 refine eg (q (ln (er (kG (jW (jW (kG (jW (rs1 results63 ⟨false,rfl,h⟩)))))))))
 refine jC (kD (jJ (rg (qc (ln ⟨((q6.wrap (i1+1)),Hl1,w1),⟨rfl,hm,hs,hb,h.1⟩,h.2⟩)))))
 refine zE (kP (kP (kO (jJ (eg (q0 (vb true) (ln (er (rs1 results63 ⟨true,rfl,h⟩)))))))))
def s_Q (kind1:Int):Bool :=(((kind1 == 7) || (kind1 == 8)) || (kind1 == 9))
theorem pw_Q (kind1:Int) (w0:World) :
  Calls prog 142 #[(vi kind1)] w0 (fun e w'=>(e=.returned (vb (((kind1 == 7) || (kind1 == 8)) || (kind1 == 9))))∧Pure w0 w'):=by
 refine cw (args:=[(vi kind1)]) func142 ntmps142 (eg (q0 (vb false) (ln (jA ?_))))
 refine zC (fun ρ wJ=>w0=wJ∧Has ρ [(2,(vb (((kind1 == 7) || (kind1 == 8)) || (kind1 == 9))))]) ?_ ?_
 refine rg (qc (jH 3 (fun ρ wJ=>∃b4'0:Bool,((kind1 == 7)=b4'0)∧w0=wJ∧Has ρ [(0,(vi kind1)),(8,(vb (b4'0 || (kind1 == 8))))]) ?_ ?_))
 rintro ρ w4 ⟨b4'0,he0,hw,hH⟩
 subst he0
 subst hw
 refine jM hH (q (jH 3 (fun ρ wJ=>∃b5'0:Bool,(((kind1 == 7) || (kind1 == 8))=b5'0)∧w0=wJ∧Has ρ [(12,(vb (b5'0 || (kind1 == 9))))]) ?_ ?_))
 rintro ρ w5 ⟨b5'0,he0,hw,hH⟩
 subst he0
 subst hw
 refine jM hH (q (ln ⟨rfl,hm⟩))
 rcases bte ((kind1 == 7) || (kind1 == 8)) with hg8 | hg8
 refine sj2 9 hg8 (q2 (vb true) (xT hg8) (jB ⟨true,hg8,rfl,hm⟩))
 refine qk 9 hg8 (qk 9 hg8 (q2 (vb (kind1 == 9)) (xF hg8) (jB ⟨false,hg8,rfl,hm⟩)))
 rcases bte (kind1 == 7) with hg6 | hg6
 refine sj2 5 hg6 (q2 (vb true) (xT hg6) (jB ⟨true,hg6,rfl,hm⟩))
 refine qk 5 hg6 (qk 5 hg6 (q2 (vb (kind1 == 8)) (xF hg6) (jB ⟨false,hg6,rfl,hm⟩)))
 rintro ρ w3 ⟨hw,hH⟩
 subst hw
 refine jQ hH (jJ (er (rs1 results142 (v:=(vb (((kind1 == 7) || (kind1 == 8)) || (kind1 == 9)))) ⟨by kernel_rfl,Ext.refl _⟩)))
theorem p_Q (kind1:Int) (w0:World):Calls prog 142 #[(.int .i64 kind1)] w0 (fun e w'=>e=.returned (.bool (s_Q kind1))∧Pure w0 w'):=pw_Q kind1 w0
def m_M_j3 (s1:Sl) (t1 aA:Int) (aB aC:Int) (x1:Bool) (H:NP) (w:World) (Kc2:Int→NP→WP) (_K:Sl→WP):Prop :=Br x1 (∃a10:Addr,At s1 aB 1 a10∧zQ w a10∧¬ H a10.block∧∀w6,w6=w.setCell a10 (vb true)→Br (aA == 4) (∃a11:Addr,At s1 aC 1 a11∧zQ w6 a11∧¬ H a11.block∧∀w7,w7=w6.setCell a11 (vb true)→Kc2 (q6.wrap (t1 - 1)) H w7) (Kc2 (q6.wrap (t1 - 1)) H w6)) (Kc2 (q6.wrap (t1 - 1)) H w)
def m_M_l2 (k1:Option Addr) (s1:Sl) (t1:Int) (w0:World) (Hl2:NP) (wl2:World) (Kc2:Int→NP→WP) (K:Sl→WP):Prop :=Br (decide (t1≥1)) (∃a9,k1=some a9∧∃v8,wl2.cell? a9=some (vp v8)∧Calls prog 45 #[(vp v8),(vi t1)] wl2 (fun e w3=>∃aA aD aE aF aG aB aC r1,e=.returned (.tuple #[(Ab aA aD aE aF aG aB aC),(vb r1)])∧Kept Hl2 wl2 w3∧∃a12:Addr,At s1 t1 1 a12∧∀H1 w5,Hst w0 Hl2 w3 H1 w5→∃v9,w5.cell? a12=some (vb v9)∧∀H3 w11,Hst w0 H1 w5 H3 w11→m_M_j3 s1 t1 aA aB aC (v9 && ((aA == 4) || (s_Q aA))) H3 w11 Kc2 K)) (K s1 wl2)
def m_M_l1 (k1:Option Addr) (s1:Sl) (i1:Int) (w0:World) (Hl1:NP) (wl1:World) (Kc1:Int→NP→WP) (K:Sl→WP):Prop :=∃a3,k1=some a3∧∃v3:Sl,wl1.cell? (a3.add 1)=some v3.v∧Br (decide (i1<(v3.len:Int))) (∃a4,k1=some a4∧∃v4:Sl,wl1.cell? (a4.add 1)=some v4.v∧∃a5:Addr,At v4 i1 1 a5∧∃v5,wl1.cell? a5=some (vi v5)∧∃a6:Addr,At s1 v5 1 a6∧zQ wl1 a6∧¬ Hl1 a6.block∧∀w2,w2=wl1.setCell a6 (vb true)→Kc1 (q6.wrap (i1+1)) Hl1 w2) (∃a7,k1=some a7∧∃v6,wl1.cell? a7=some (vp v6)∧∃a8,v6=some a8∧∃v7:Sl,wl1.cell? a8=some v7.v∧∃(I2:Int→NP→WP) (mu2:Int→World→Nat),I2 (v7.len:Int) Hl1 wl1∧∀(t1:Int) (Hl2:NP) (wl2:World),Hst w0 Hl2 wl2 Hl2 wl2→I2 t1 Hl2 wl2→m_M_l2 k1 s1 t1 w0 Hl2 wl2 (fun y'0 H' w'=>I2 y'0 H' w'∧mu2 y'0 w'<mu2 t1 wl2) K)
def m_M (k1:Option Addr) (w0:World) (K:Sl→WP):Prop :=∃a1,k1=some a1∧∃v1,w0.cell? a1=some (vp v1)∧∃a2,v1=some a2∧∃v2:Sl,w0.cell? a2=some v2.v∧∃s1:Sl,∃w1:World,(Instr.makeSlice 117 (vi (q6.wrap ((v2.len:Int)+1))) (vi (q6.wrap ((v2.len:Int)+1)))).run prog w0=.ok s1.v w1∧Kept None w0 w1∧∃(I1:Int→NP→WP) (mu1:Int→World→Nat),I1 0 None w1∧∀(i1:Int) (Hl1:NP) (wl1:World),Hst w0 Hl1 wl1 Hl1 wl1→I1 i1 Hl1 wl1→m_M_l1 k1 s1 i1 w0 Hl1 wl1 (fun y'0 H' w'=>I1 y'0 H' w'∧mu1 y'0 w'<mu1 i1 wl1) K
theorem w_M (k1 w0 K) (h:m_M k1 w0 K):
  Calls prog 100 #[(vp k1)] w0 (fun e w'=>∃r2:Sl,e=.returned r2.v∧K r2 w'):=by
 refine cw (args:=[(vp k1)]) func100 ntmps100 ?_
 obtain ⟨hs,hb⟩:=st0 w0
 refine eg (q (ln (eg (q (qm h fun a1 h=>q (ql (isAgg27 _) h fun v1 h=>qm h fun a2 h=>q (ql (isAgg42 _) h fun v2 h=>qb ?_)))))))
 obtain ⟨s1,w1,hv13,hk,h⟩:=h
 refine st (v:=s1.v) (jP rfl) (oT (by kernel_rfl) (by kernel_rfl) hv13) ?_
 obtain ⟨hs,hb⟩:=hk.hh hs hb
 refine q (ln (jA (eg (q (ln (jF ?_))))))
 obtain ⟨I1,mu1,h0,hr⟩:=h
 refine zI (σ:=Int×NP×World) (fun s ρ w=>w=s.2.2∧Has ρ [(0,(vp k1)),(3,s1.v),(4,(vi s.1))]∧Hst w0 s.2.1 w s.2.1 w∧HB s.2.1 w []∧I1 s.1 s.2.1 s.2.2) (fun s=>mu1 s.1 s.2.2) (0,None,w1) ⟨rfl,hm,hs,hb,h0⟩ ?_
 rintro ⟨i1,Hl1,wl1⟩ ρ w ⟨hw,hH,hs,hb,hI⟩
 dsimp only at hw hH hs hb;subst w
 have h:=hr i1 Hl1 wl1 hs hI
 refine jO hH (jA (eg (qb (qm h fun a3 h=>q (ql (isAgg52 _) h fun v3 h=>qb (ln (cbr h ?_ ?_)))))))<;>intro h
 refine jC (jJ (jA (jF (rg (qb (qm h fun a4 h=>q (ql (isAgg52 _) h fun v4 h=>q (qi (runUnderlying52 _) (sizeOf30 _) h fun a5 h=>ql (isAgg30 _) h fun v5 h=>qi (runUnderlying117 _) (sizeOf4 _) h fun a6 h=>st2 (sizeOf4 _) hs hb h fun w2 hs hb h=>jB (kD (jJ (rg (qc (ln ⟨((q6.wrap (i1+1)),Hl1,w2),⟨rfl,hm,hs,hb,h.1⟩,h.2⟩)))))))))))))
 refine zE (kP (kP (kO (jJ (jA (eg (q0 (vp k1) (qm h fun a7 h=>q (ql (isAgg27 _) h fun v6 h=>qm h fun a8 h=>q (ql (isAgg42 _) h fun v7 h=>qb (ln (jF ?_))))))))))))
 obtain ⟨I2,mu2,h0,hr⟩:=h
 refine zI (σ:=Int×NP×World) (fun s ρ w=>w=s.2.2∧Has ρ [(0,(vp k1)),(3,s1.v),(5,(vi s.1))]∧Hst w0 s.2.1 w s.2.1 w∧HB s.2.1 w []∧I2 s.1 s.2.1 s.2.2) (fun s=>mu2 s.1 s.2.2) ((v7.len:Int),Hl1,wl1) ⟨rfl,hm,hs,hb,h0⟩ ?_
 rintro ⟨t1,Hl2,wl2⟩ ρ w ⟨hw,hH,hs,hb,hI⟩
 dsimp only at hw hH hs hb;subst w
 have h:=hr t1 Hl2 wl2 hs hI
 refine jO hH (jA (eg (qb (ln (cbr h ?_ ?_)))))<;>intro h
 refine jC (jJ (jA (jF (eg (q (qm h fun a9 h=>q (ql (isAgg27 _) h fun v8 h=>q (sc call45 (h.mono fun e w3 ⟨aA,aD,aE,aF,aG,aB,aC,r1,k,hk,h⟩=>have ⟨hs,hb⟩:=hk.hh hs hb;⟨_,k,?_⟩)))))))))
 refine qc (nw3 (Ag 0 0 0 0 0 0) 86 hs hb (jT (zeroValue86 _) rfl) fun p1 w4 H1 hs hb=>sbx 0 (Aa aA aD aE aF aG aB aC) (sizeOf86 _) hs hb gZ fun w5 hs hb=>q (ln (jA (zX (fun ρ w=>∃x1,∃H:NP,Has ρ [(0,(vp k1)),(3,s1.v),(5,(vi t1)),(6,(vp (some p1))),(70,(vb x1))]∧Hst w0 H w H w∧HB H w [(p1,(Aa aA aD aE aF aG aB aC),86)]∧m_M_j3 s1 t1 aA aB aC x1 H w (fun y'0 H' w'=>I2 y'0 H' w'∧mu2 y'0 w'<mu2 t1 wl2) K) ?_ ?_))))
 rintro ρ w ⟨x1,H,hH,hs,hb,h⟩
 refine jO hH (cbr h ?_ ?_)<;>intro h
 refine eg (qb (q3 (xl (isAgg30 _) (hb.d 0 5 gZ)) (qi (runUnderlying117 _) (sizeOf4 _) h fun a10 h=>st2 (sizeOf4 _) hs hb h fun w6 hs hb h=>ln (eg (q (q3 (xl (isAgg3 _) (hb.d0 0 gZ)) (q (ln (cbr h ?_ ?_)))))))))<;>intro h
 refine rg (qb (q3 (xl (isAgg30 _) (hb.d 0 6 gZ)) (qi (runUnderlying117 _) (sizeOf4 _) h fun a11 h=>st2 (sizeOf4 _) hs hb h fun w7 hs hb h=>jB (kD (jJ (rg (qc (ln ⟨((q6.wrap (t1 - 1)),H,w7),⟨rfl,hm,hs,hb.drop 1,h.1⟩,h.2⟩))))))))
 refine jC (kD (jJ (rg (qc (ln ⟨((q6.wrap (t1 - 1)),H,w6),⟨rfl,hm,hs,hb.drop 1,h.1⟩,h.2⟩)))))
 refine jC (kD (jJ (rg (qc (ln ⟨((q6.wrap (t1 - 1)),H,w),⟨rfl,hm,hs,hb.drop 1,h.1⟩,h.2⟩)))))
 refine rg (qb (qi (runUnderlying117 _) (sizeOf4 _) h fun a12 h=>?_))
 have ⟨h,hs⟩:=hs.hr (h H1 w5)
 refine ql (isAgg4 _) h fun v9 h=>q (jH 9 (fun ρ wJ=>∃b2'0:Bool,∃HJ:NP,(v9=b2'0)∧Hst w0 H1 w5 HJ wJ∧HB HJ wJ [(p1,(Aa aA aD aE aF aG aB aC),86)]∧Has ρ [(0,(vp k1)),(3,s1.v),(5,(vi t1)),(6,(vp (some p1))),(70,(vb (b2'0 && ((aA == 4) || (s_Q aA)))))]) ?_ ?_)
 rintro ρ w11 ⟨b2'0,H3,he0,hs,hb,hH⟩
 subst he0
 refine jM hH (jB ?_)
 have ⟨h,hs⟩:=hs.hr (h H3 w11)
 refine jJ ⟨(v9 && ((aA == 4) || (s_Q aA))),H3,hm,hs,hb,h⟩
 rcases bte v9 with hg4 | hg4
 refine qk 61 hg4 (q4 61 hg4 (xl (isAgg3 _) (hb.d0 0 gZ)) (qk 61 hg4 (qk 61 hg4 (jH 4 (fun ρ wJ=>∃b3'0:Bool,∃HJ:NP,((aA == 4)=b3'0)∧Hst w0 H1 w5 HJ wJ∧HB HJ wJ [(p1,(Aa aA aD aE aF aG aB aC),86)]∧Has ρ [(0,(vp k1)),(3,s1.v),(5,(vi t1)),(6,(vp (some p1))),(61,(vb v9)),(69,(vb (b3'0 || (s_Q aA))))]) ?_ ?_))))
 rintro ρ w13 ⟨b3'0,H4,he0,hs,hb,hH⟩
 subst he0
 refine jM hH (q2 (vb ((aA == 4) || (s_Q aA))) (xT hg4) (jB ⟨true,_,hg4,hs,hb,hm⟩))
 rcases bte (aA == 4) with hg6 | hg6
 refine sj3 65 hg6 (stq (v:=(vb true)) (wy 61 hg4) (xT hg6) (jB ⟨true,_,hg6,hs,hb,hm⟩))
 refine qk 65 hg6 (q4 65 hg6 (xl (isAgg3 _) (hb.d0 0 gZ)) (jV (wy 65 hg6) (xc call142) ((p_Q aA w5).mono ?_)))
 rintro e w14 ⟨he,hE⟩
 refine ⟨_,he,?_⟩
 obtain ⟨hs,hb⟩:=hs.pp hb hE
 refine stq (v:=(vb (s_Q aA))) (wy 61 hg4) (xF hg6) (jB ⟨false,_,hg6,hs,hb,hm⟩)
 refine sj4 61 hg4 (sm (sm (sm (sj 61 hg4 (q2 (vb false) (xF hg4) (jB ⟨false,_,hg4,hs,hb,hm⟩))))))
 refine zE (kP (kP (kO (jJ (eg (q0 s1.v (q0 s1.v (ln (er (rs1 results100 ⟨s1,rfl,h⟩))))))))))
def m_I1_l1 (r1 l1:Sl) (t1:Int) (wl1:World) (Kc1:Sl→Int→WP) (K:Sl→WP):Prop :=Br (decide (t1<(r1.len:Int))) (∃a1:Addr,At r1 t1 1 a1∧∃v1,wl1.cell? a1=some (vb v1)∧Br v1 (∀p1 w2,New wl1 (.cells #[(vi t1)] 30) p1 w2→∃s1:Sl,∃w3:World,(Builtin.append_ #[52,52] 52 #[l1.v,(Sl.mk (some p1) 1 1).v]).run prog w2=.ok s1.v w3∧Kc1 s1 (q6.wrap (t1+1)) w3) (Kc1 l1 (q6.wrap (t1+1)) wl1)) (K l1 wl1)
def m_I1 (k1:Option Addr) (w0:World) (K:Sl→WP):Prop :=Calls prog 100 #[(vp k1)] w0 (fun e w1=>∃r1:Sl,e=.returned r1.v∧∃(I1:Sl→Int→WP) (mu1:Sl→Int→World→Nat),I1 Sl.nil 1 w1∧∀(l1:Sl) (t1:Int) (wl1:World),I1 l1 t1 wl1→m_I1_l1 r1 l1 t1 wl1 (fun y'0 y'1 w'=>I1 y'0 y'1 w'∧mu1 y'0 y'1 w'<mu1 l1 t1 wl1) K)
theorem w_I1 (k1 w0 K) (h:m_I1 k1 w0 K):
  Calls prog 64 #[(vp k1)] w0 (fun e w'=>∃r2:Sl,e=.returned r2.v∧K r2 w'):=by
 refine cw (args:=[(vp k1)]) func64 ntmps64 (eg (q0 Sl.nil.v (ln (eg (q0 (vp k1) ?_)))))
 refine sc call100 (h.mono fun e w1 ⟨r1,k,h⟩=>⟨_,k,?_⟩)
 refine q (ln (eg (q (ln (jA (eg (q (ln (jF ?_)))))))))
 obtain ⟨I1,mu1,h0,hr⟩:=h
 refine zI (σ:=Sl×Int×World) (fun s ρ w=>w=s.2.2∧Has ρ [(3,r1.v),(4,s.1.v),(5,(vi s.2.1))]∧I1 s.1 s.2.1 s.2.2) (fun s=>mu1 s.1 s.2.1 s.2.2) (Sl.nil,1,w1) ⟨rfl,hm,h0⟩ ?_
 rintro ⟨l1,t1,wl1⟩ ρ w ⟨hw,hH,hI⟩
 dsimp only at hw hH;subst w
 have h:=hr l1 t1 wl1 hI
 refine jO hH (jA (eg (qd (ln (cbr h ?_ ?_)))))<;>intro h
 refine jC (jJ (jA (jF (eg (qb (qi (runUnderlying117 _) (sizeOf4 _) h fun a1 h=>ql (isAgg4 _) h fun v1 h=>ln (cbr h ?_ ?_)))))))<;>intro h
 refine rg (qb (nw4 (fun p=>(Sl.mk (some p) 1 1).v) h fun p1 w2 h=>?_))
 obtain ⟨s1,w3,hv1,h⟩:=h
 refine st (v:=s1.v) (jP rfl) (zH (args:=#[l1.v,(Sl.mk (some p1) 1 1).v]) (by kernel_rfl) (fun _=>rfl) hv1) (q0 s1.v (jB (kD (jJ (rg (q0 (vi t1) (q0 (vi (q6.wrap (t1+1))) (q0 (vi (q6.wrap (t1+1))) (ln ⟨(s1,(q6.wrap (t1+1)),w3),⟨rfl,hm,h.1⟩,h.2⟩)))))))))
 refine jC (kD (jJ (rg (qc (ln ⟨(l1,(q6.wrap (t1+1)),wl1),⟨rfl,hm,h.1⟩,h.2⟩)))))
 refine zE (kP (kP (kO (jJ (eg (q0 l1.v (q0 l1.v (ln (er (rs1 results64 ⟨l1,rfl,h⟩))))))))))
def m_Y2 (k1:Option Addr) (in1:Sl) (name1:Int) (w0:World) (K:Bool→WP):Prop :=∃a1,k1=some a1∧∃v1,w0.cell? a1=some (vp v1)∧Calls prog 89 #[(vp v1),(.agg #[(vi 6),(vi name1),(vi 0),(vu 0),ve,(vi 0),(vi 0)])] w0 (fun e w1=>∃r1 r2,e=.returned (.tuple #[(vi r1),(vb r2)])∧Br r2 (∃a2:Addr,At in1 r1 1 a2∧∃v2,w1.cell? a2=some (vb v2)∧K v2 w1) (K false w1))
theorem w_Y2 (k1 in1 name1 w0 K) (h:m_Y2 k1 in1 name1 w0 K):
  Calls prog 101 #[(vp k1),in1.v,(vi name1)] w0 (fun e w'=>∃r3,e=.returned (vb r3)∧K r3 w'):=by
 refine cw (args:=[(vp k1),in1.v,(vi name1)]) func101 ntmps101 (eg (q0 (vb false) (ln (eg (q0 (vp k1) ?_)))))
 refine qm h fun a1 h=>q (ql (isAgg27 _) h fun v1 h=>qb (sc call89 (h.mono fun e w1 ⟨r1,r2,k,h⟩=>⟨_,k,?_⟩)))
 refine q (qd (ln (eg (qb ?_))))
 obtain ⟨hg1,h⟩|⟨hg1,h⟩:=h.br
 refine qk 20 hg1 (qk 20 hg1 ?_)
 obtain ⟨a2,hv2,h⟩:=h
 refine q4 20 hg1 (xi (runUnderlying117 _) (sizeOf4 _) hv2) ?_
 obtain ⟨v2,hv1,h⟩:=h
 refine q4 20 hg1 (xl (isAgg4 _) hv1) (q2 (vb v2) (xT hg1) (q (ln (er (rs1 results101 ⟨v2,rfl,h⟩)))))
 refine sj4 20 hg1 (q2 (vb false) (xF hg1) (q (ln (er (rs1 results101 ⟨false,rfl,h⟩)))))
def m_C1_l1 (k1:Option Addr) (r1 s1:Sl) (t1:Int) (w0:World) (Hl1:NP) (wl1:World) (Kc1:Int→NP→WP) (K:Sl→WP):Prop :=Br (decide (t1<(r1.len:Int))) (∃a1,k1=some a1∧∃v1,wl1.cell? a1=some (vp v1)∧Calls prog 45 #[(vp v1),(vi t1)] wl1 (fun e w4=>∃aA aD aE aF aG aB aC r2,e=.returned (.tuple #[(Ab aA aD aE aF aG aB aC),(vb r2)])∧Kept Hl1 wl1 w4∧∀y1:Bool,y1=(cond (aA == 1) (aA == 1) (cond (aA == 2) (aA == 2) (aA == 3)))→Br y1 (∃a2:Addr,At s1 t1 1 a2∧∀H2 w7,Hst w0 Hl1 w4 H2 w7→zQ w7 a2∧¬ H2 a2.block∧∀w8,w8=w7.setCell a2 (vb true)→Kc1 (q6.wrap (t1+1)) H2 w8) (Br (aA == 4) (∃a3:Addr,At s1 t1 1 a3∧∀H2 w7,Hst w0 Hl1 w4 H2 w7→∃v2,w7.cell? a3=some (vb v2)∧Br v2 (∃a4:Addr,At s1 t1 1 a4∧zQ w7 a4∧¬ H2 a4.block∧∀w9,w9=w7.setCell a4 (vb true)→Kc1 (q6.wrap (t1+1)) H2 w9) (∃a5:Addr,At s1 aB 1 a5∧∃v3,w7.cell? a5=some (vb v3)∧Br v3 (∃a6:Addr,At s1 aC 1 a6∧∃v4,w7.cell? a6=some (vb v4)∧∃a7:Addr,At s1 t1 1 a7∧zQ w7 a7∧¬ H2 a7.block∧∀w10,w10=w7.setCell a7 (vb v4)→Kc1 (q6.wrap (t1+1)) H2 w10) (∃a8:Addr,At s1 t1 1 a8∧zQ w7 a8∧¬ H2 a8.block∧∀w11,w11=w7.setCell a8 (vb false)→Kc1 (q6.wrap (t1+1)) H2 w11))) (Br (aA == 5) (∃a9:Addr,At s1 t1 1 a9∧∀H2 w7,Hst w0 Hl1 w4 H2 w7→∃v5,w7.cell? a9=some (vb v5)∧Br v5 (∃a10:Addr,At s1 t1 1 a10∧zQ w7 a10∧¬ H2 a10.block∧∀w12,w12=w7.setCell a10 (vb true)→Kc1 (q6.wrap (t1+1)) H2 w12) (∃a11:Addr,At s1 aB 1 a11∧∃v6,w7.cell? a11=some (vb v6)∧∃a12:Addr,At s1 t1 1 a12∧zQ w7 a12∧¬ H2 a12.block∧∀w13,w13=w7.setCell a12 (vb v6)→Kc1 (q6.wrap (t1+1)) H2 w13)) (Br (cond (aA == 7) (aA == 7) (aA == 8)) (∃a13:Addr,At s1 t1 1 a13∧∀H3 w14,Hst w0 Hl1 w4 H3 w14→∃v7,w14.cell? a13=some (vb v7)∧Br v7 (∃a14:Addr,At s1 t1 1 a14∧zQ w14 a14∧¬ H3 a14.block∧∀w15,w15=w14.setCell a14 (vb true)→Kc1 (q6.wrap (t1+1)) H3 w15) (∃a15:Addr,At s1 aB 1 a15∧∃v8,w14.cell? a15=some (vb v8)∧Br v8 (Calls prog 101 #[(vp k1),r1.v,(vi aD)] w14 (fun e w16=>∃r3,e=.returned (vb r3)∧Kept H3 w14 w16∧∃a16:Addr,At s1 t1 1 a16∧zQ w16 a16∧¬ H3 a16.block∧∀w17,w17=w16.setCell a16 (vb r3)→Kc1 (q6.wrap (t1+1)) H3 w17)) (∃a17:Addr,At s1 t1 1 a17∧zQ w14 a17∧¬ H3 a17.block∧∀w18,w18=w14.setCell a17 (vb false)→Kc1 (q6.wrap (t1+1)) H3 w18))) (Br (aA == 9) (∃a18:Addr,At s1 t1 1 a18∧∀H3 w14,Hst w0 Hl1 w4 H3 w14→∃v9,w14.cell? a18=some (vb v9)∧Br v9 (∃a19:Addr,At s1 t1 1 a19∧zQ w14 a19∧¬ H3 a19.block∧∀w19,w19=w14.setCell a19 (vb true)→Kc1 (q6.wrap (t1+1)) H3 w19) (∃a20:Addr,At s1 aB 1 a20∧∃v10,w14.cell? a20=some (vb v10)∧Br v10 (Calls prog 101 #[(vp k1),r1.v,(vi aE)] w14 (fun e w20=>∃r4,e=.returned (vb r4)∧Kept H3 w14 w20∧∃a21:Addr,At s1 t1 1 a21∧zQ w20 a21∧¬ H3 a21.block∧∀w21,w21=w20.setCell a21 (vb r4)→Kc1 (q6.wrap (t1+1)) H3 w21)) (∃a22:Addr,At s1 t1 1 a22∧zQ w14 a22∧¬ H3 a22.block∧∀w22,w22=w14.setCell a22 (vb false)→Kc1 (q6.wrap (t1+1)) H3 w22))) (∀H3 w14,Hst w0 Hl1 w4 H3 w14→Kc1 (q6.wrap (t1+1)) H3 w14))))))) (K s1 wl1)
def m_C1 (k1:Option Addr) (w0:World) (K:Sl→WP):Prop :=Calls prog 100 #[(vp k1)] w0 (fun e w1=>∃r1:Sl,e=.returned r1.v∧Kept None w0 w1∧∀p1 w2,New w1 (.cells #[] 4) p1 w2→∃s1:Sl,∃w3:World,(Builtin.append_ #[117,117] 117 #[(Sl.mk (some p1) 0 0).v,r1.v]).run prog w2=.ok s1.v w3∧Kept None w2 w3∧∃(I1:Int→NP→WP) (mu1:Int→World→Nat),I1 1 None w3∧∀(t1:Int) (Hl1:NP) (wl1:World),Hst w0 Hl1 wl1 Hl1 wl1→I1 t1 Hl1 wl1→m_C1_l1 k1 r1 s1 t1 w0 Hl1 wl1 (fun y'0 H' w'=>I1 y'0 H' w'∧mu1 y'0 w'<mu1 t1 wl1) K)
theorem w_C1 (k1 w0 K) (h:m_C1 k1 w0 K):
  Calls prog 65 #[(vp k1)] w0 (fun e w'=>∃r5:Sl,e=.returned r5.v∧K r5 w'):=by
 refine cw (args:=[(vp k1)]) func65 ntmps65 ?_
 obtain ⟨hs,hb⟩:=st0 w0
 refine eg (q (ln (eg (q (sc call100 (h.mono fun e w1 ⟨r1,k,hk,h⟩=>have ⟨hs,hb⟩:=hk.hh hs hb;⟨_,k,?_⟩))))))
 refine q (ln (eg (nw5 (fun p=>(Sl.mk (some p) 0 0).v) hs hb h fun p1 w2 hs hb h=>q ?_)))
 obtain ⟨s1,w3,hv32,hk,h⟩:=h
 refine st (v:=s1.v) (jP rfl) (zH (args:=#[(Sl.mk (some p1) 0 0).v,r1.v]) (by kernel_rfl) (fun _=>rfl) hv32) ?_
 obtain ⟨hs,hb⟩:=hk.hh hs hb
 refine q (ln (jA (eg (q (ln (jF ?_))))))
 obtain ⟨I1,mu1,h0,hr⟩:=h
 refine zI (σ:=Int×NP×World) (fun s ρ w=>w=s.2.2∧Has ρ [(0,(vp k1)),(3,r1.v),(4,s1.v),(5,(vi s.1))]∧Hst w0 s.2.1 w s.2.1 w∧HB s.2.1 w []∧I1 s.1 s.2.1 s.2.2) (fun s=>mu1 s.1 s.2.2) (1,None,w3) ⟨rfl,hm,hs,hb,h0⟩ ?_
 rintro ⟨t1,Hl1,wl1⟩ ρ w ⟨hw,hH,hs,hb,hI⟩
 dsimp only at hw hH hs hb;subst w
 have h:=hr t1 Hl1 wl1 hs hI
 refine jO hH (jA (eg (qd (ln (cbr h ?_ ?_)))))<;>intro h
 refine jC (jJ (jA (jF (eg (q (qm h fun a1 h=>q (ql (isAgg27 _) h fun v1 h=>q (sc call45 (h.mono fun e w4 ⟨aA,aD,aE,aF,aG,aB,aC,r2,k,hk,h⟩=>have ⟨hs,hb⟩:=hk.hh hs hb;⟨_,k,?_⟩)))))))))
 refine qc (nw3 (Ag 0 0 0 0 0 0) 86 hs hb (jT (zeroValue86 _) rfl) fun p2 w5 H1 hs hb=>sbx 0 (Aa aA aD aE aF aG aB aC) (sizeOf86 _) hs hb gZ fun w6 hs hb=>q (ln (eg (q (q3 (xl (isAgg3 _) (hb.d0 0 gZ)) (ln (jF (jA (jA (rg (qb (ln (zC (fun ρ wJ=>∃b1'0 b1'1 y1:Bool,∃HJ:NP,((aA == 1)=b1'0)∧((aA == 2)=b1'1)∧(y1=(cond b1'0 (aA == 1) (cond b1'1 (aA == 2) (aA == 3))))∧Hst w0 Hl1 w4 HJ wJ∧HB HJ wJ [(p2,(Aa aA aD aE aF aG aB aC),86)]∧Has ρ [(0,(vp k1)),(3,r1.v),(4,s1.v),(5,(vi t1)),(6,(vp (some p2))),(29,(vi aA)),(30,(vb y1))]) ?_ ?_)))))))))))))
 refine jZ (t:=(aA == 1)) (by kernel_rfl) (fun hc4=>?_) (fun hc4=>?_)
 refine jC (jJ ⟨true,_,_,_,hc4,rfl,rfl,hs,hb,hm⟩)
 refine eg (qb (ln (jZ (t:=(aA == 2)) (by kernel_rfl) (fun hc5=>?_) (fun hc5=>?_))))
 refine jC (jJ ⟨false,true,_,_,hc4,hc5,rfl,hs,hb,hm⟩)
 refine rg (qb (ln ⟨false,false,_,_,hc4,hc5,rfl,hs,hb,hm⟩))
 rintro ρ w7 ⟨b1'0,b1'1,y1,H2,he0,he1,hy1,hs,hb,hH⟩
 subst he0
 subst he1
 have h:=h y1 hy1
 refine jQ hH (jJ (cbr h ?_ ?_))<;>intro h
 refine rg (qb (qi (runUnderlying117 _) (sizeOf4 _) h fun a2 h=>?_))
 have ⟨h,hs⟩:=hs.hr (h H2 w7)
 refine st2 (sizeOf4 _) hs hb h fun w8 hs hb h=>jB (kD (kD (jJ (rg (qc (ln ⟨((q6.wrap (t1+1)),H2,w8),⟨rfl,hm,hs,hb.drop 1,h.1⟩,h.2⟩))))))
 refine eg (qb (ln (cbr h ?_ ?_)))<;>intro h
 refine rg (qd (qi (runUnderlying117 _) (sizeOf4 _) h fun a3 h=>?_))
 have ⟨h,hs⟩:=hs.hr (h H2 w7)
 refine ql (isAgg4 _) h fun v2 h=>q ?_
 obtain ⟨hg1,h⟩|⟨hg1,h⟩:=h.br
 refine sj 45 hg1 (sj5 45 hg1 (sm (sm (sm (sm (sm (sj 45 hg1 (q2 (vb true) (xT hg1) (qi (runUnderlying117 _) (sizeOf4 _) h fun a4 h=>st2 (sizeOf4 _) hs hb h fun w9 hs hb h=>jB (kD (kD (jJ (rg (qc (ln ⟨((q6.wrap (t1+1)),H2,w9),⟨rfl,hm,hs,hb.drop 1,h.1⟩,h.2⟩)))))))))))))))
 refine qk 45 hg1 (qk 45 hg1 (q4 45 hg1 (xl (isAgg30 _) (hb.d 0 5 gZ)) ?_))
 obtain ⟨a5,hv8,h⟩:=h
 refine q4 45 hg1 (xi (runUnderlying117 _) (sizeOf4 _) hv8) ?_
 obtain ⟨v3,hv7,h⟩:=h
 refine q4 45 hg1 (xl (isAgg4 _) hv7) (qk 45 hg1 ?_)
 obtain ⟨hg2,h⟩|⟨hg2,h⟩:=h.br
 refine qk 51 hg2 (qk 51 hg2 (q4 51 hg2 (xl (isAgg30 _) (hb.d 0 6 gZ)) ?_))
 obtain ⟨a6,hv5,h⟩:=h
 refine q4 51 hg2 (xi (runUnderlying117 _) (sizeOf4 _) hv5) ?_
 obtain ⟨v4,hv4,h⟩:=h
 refine q4 51 hg2 (xl (isAgg4 _) hv4) (stq (v:=(vb v4)) (wy 45 hg1) (xT hg2) (q2 (vb v4) (xF hg1) (qi (runUnderlying117 _) (sizeOf4 _) h fun a7 h=>st2 (sizeOf4 _) hs hb h fun w10 hs hb h=>jB (kD (kD (jJ (rg (qc (ln ⟨((q6.wrap (t1+1)),H2,w10),⟨rfl,hm,hs,hb.drop 1,h.1⟩,h.2⟩)))))))))
 refine sj5 51 hg2 (stq (v:=(vb false)) (wy 45 hg1) (xF hg2) (q2 (vb false) (xF hg1) (qi (runUnderlying117 _) (sizeOf4 _) h fun a8 h=>st2 (sizeOf4 _) hs hb h fun w11 hs hb h=>jB (kD (kD (jJ (rg (qc (ln ⟨((q6.wrap (t1+1)),H2,w11),⟨rfl,hm,hs,hb.drop 1,h.1⟩,h.2⟩)))))))))
 refine eg (qb (ln (cbr h ?_ ?_)))<;>intro h
 refine rg (qd (qi (runUnderlying117 _) (sizeOf4 _) h fun a9 h=>?_))
 have ⟨h,hs⟩:=hs.hr (h H2 w7)
 refine ql (isAgg4 _) h fun v5 h=>q ?_
 obtain ⟨hg3,h⟩|⟨hg3,h⟩:=h.br
 refine sj5 68 hg3 (q2 (vb true) (xT hg3) (qi (runUnderlying117 _) (sizeOf4 _) h fun a10 h=>st2 (sizeOf4 _) hs hb h fun w12 hs hb h=>jB (kD (kD (jJ (rg (qc (ln ⟨((q6.wrap (t1+1)),H2,w12),⟨rfl,hm,hs,hb.drop 1,h.1⟩,h.2⟩))))))))
 refine qk 68 hg3 (qk 68 hg3 (q4 68 hg3 (xl (isAgg30 _) (hb.d 0 5 gZ)) ?_))
 obtain ⟨a11,hv14,h⟩:=h
 refine q4 68 hg3 (xi (runUnderlying117 _) (sizeOf4 _) hv14) ?_
 obtain ⟨v6,hv13,h⟩:=h
 refine q4 68 hg3 (xl (isAgg4 _) hv13) (q2 (vb v6) (xF hg3) (qi (runUnderlying117 _) (sizeOf4 _) h fun a12 h=>st2 (sizeOf4 _) hs hb h fun w13 hs hb h=>jB (kD (kD (jJ (rg (qc (ln ⟨((q6.wrap (t1+1)),H2,w13),⟨rfl,hm,hs,hb.drop 1,h.1⟩,h.2⟩))))))))
 refine jA (eg (qb (ln (zC (fun ρ wJ=>∃b2'0:Bool,∃HJ:NP,((aA == 7)=b2'0)∧Hst w0 Hl1 w4 HJ wJ∧HB HJ wJ [(p2,(Aa aA aD aE aF aG aB aC),86)]∧Has ρ [(0,(vp k1)),(3,r1.v),(4,s1.v),(5,(vi t1)),(6,(vp (some p2))),(29,(vi aA)),(76,(vb (cond b2'0 (aA == 7) (aA == 8))))]) ?_ ?_))))
 refine jZ (t:=(aA == 7)) (by kernel_rfl) (fun hc10=>?_) (fun hc10=>?_)
 refine jC (jJ ⟨true,_,hc10,hs,hb,hm⟩)
 refine rg (qb (ln ⟨false,_,hc10,hs,hb,hm⟩))
 rintro ρ w14 ⟨b2'0,H3,he0,hs,hb,hH⟩
 subst he0
 refine jQ hH (jJ (cbr h ?_ ?_))<;>intro h
 refine rg (qd (qi (runUnderlying117 _) (sizeOf4 _) h fun a13 h=>?_))
 have ⟨h,hs⟩:=hs.hr (h H3 w14)
 refine ql (isAgg4 _) h fun v7 h=>q ?_
 obtain ⟨hg4,h⟩|⟨hg4,h⟩:=h.br
 refine sj 85 hg4 (sj5 85 hg4 (sm (sm (sm (sm (sm (sj 85 hg4 (q2 (vb true) (xT hg4) (qi (runUnderlying117 _) (sizeOf4 _) h fun a14 h=>st2 (sizeOf4 _) hs hb h fun w15 hs hb h=>jB (kD (kD (jJ (rg (qc (ln ⟨((q6.wrap (t1+1)),H3,w15),⟨rfl,hm,hs,hb.drop 1,h.1⟩,h.2⟩)))))))))))))))
 refine qk 85 hg4 (qk 85 hg4 (q4 85 hg4 (xl (isAgg30 _) (hb.d 0 5 gZ)) ?_))
 obtain ⟨a15,hv21,h⟩:=h
 refine q4 85 hg4 (xi (runUnderlying117 _) (sizeOf4 _) hv21) ?_
 obtain ⟨v8,hv20,h⟩:=h
 refine q4 85 hg4 (xl (isAgg4 _) hv20) (qk 85 hg4 ?_)
 obtain ⟨hg5,h⟩|⟨hg5,h⟩:=h.br
 refine qk 91 hg5 (qk 91 hg5 (qk 91 hg5 (q4 91 hg5 (xl (isAgg3 _) (hb.d 0 1 gZ)) (jV (wy 91 hg5) (xc call101) (h.mono ?_)))))
 rintro e w16 ⟨r3,rfl,hk,h⟩
 refine ⟨_,rfl,?_⟩
 obtain ⟨hs,hb⟩:=hk.hh hs hb
 refine stq (v:=(vb r3)) (wy 85 hg4) (xT hg5) (q2 (vb r3) (xF hg4) (qi (runUnderlying117 _) (sizeOf4 _) h fun a16 h=>st2 (sizeOf4 _) hs hb h fun w17 hs hb h=>jB (kD (kD (jJ (rg (qc (ln ⟨((q6.wrap (t1+1)),H3,w17),⟨rfl,hm,hs,hb.drop 1,h.1⟩,h.2⟩))))))))
 refine sj5 91 hg5 (stq (v:=(vb false)) (wy 85 hg4) (xF hg5) (q2 (vb false) (xF hg4) (qi (runUnderlying117 _) (sizeOf4 _) h fun a17 h=>st2 (sizeOf4 _) hs hb h fun w18 hs hb h=>jB (kD (kD (jJ (rg (qc (ln ⟨((q6.wrap (t1+1)),H3,w18),⟨rfl,hm,hs,hb.drop 1,h.1⟩,h.2⟩)))))))))
 refine eg (qb (ln (cbr h ?_ ?_)))<;>intro h
 refine rg (qd (qi (runUnderlying117 _) (sizeOf4 _) h fun a18 h=>?_))
 have ⟨h,hs⟩:=hs.hr (h H3 w14)
 refine ql (isAgg4 _) h fun v9 h=>q ?_
 obtain ⟨hg6,h⟩|⟨hg6,h⟩:=h.br
 refine sj 108 hg6 (sj5 108 hg6 (sm (sm (sm (sm (sm (sj 108 hg6 (q2 (vb true) (xT hg6) (qi (runUnderlying117 _) (sizeOf4 _) h fun a19 h=>st2 (sizeOf4 _) hs hb h fun w19 hs hb h=>jB (kD (kD (jJ (rg (qc (ln ⟨((q6.wrap (t1+1)),H3,w19),⟨rfl,hm,hs,hb.drop 1,h.1⟩,h.2⟩)))))))))))))))
 refine qk 108 hg6 (qk 108 hg6 (q4 108 hg6 (xl (isAgg30 _) (hb.d 0 5 gZ)) ?_))
 obtain ⟨a20,hv28,h⟩:=h
 refine q4 108 hg6 (xi (runUnderlying117 _) (sizeOf4 _) hv28) ?_
 obtain ⟨v10,hv27,h⟩:=h
 refine q4 108 hg6 (xl (isAgg4 _) hv27) (qk 108 hg6 ?_)
 obtain ⟨hg7,h⟩|⟨hg7,h⟩:=h.br
 refine qk 114 hg7 (qk 114 hg7 (qk 114 hg7 (q4 114 hg7 (xl (isAgg3 _) (hb.d 0 2 gZ)) (jV (wy 114 hg7) (xc call101) (h.mono ?_)))))
 rintro e w20 ⟨r4,rfl,hk,h⟩
 refine ⟨_,rfl,?_⟩
 obtain ⟨hs,hb⟩:=hk.hh hs hb
 refine stq (v:=(vb r4)) (wy 108 hg6) (xT hg7) (q2 (vb r4) (xF hg6) (qi (runUnderlying117 _) (sizeOf4 _) h fun a21 h=>st2 (sizeOf4 _) hs hb h fun w21 hs hb h=>jB (kD (kD (jJ (rg (qc (ln ⟨((q6.wrap (t1+1)),H3,w21),⟨rfl,hm,hs,hb.drop 1,h.1⟩,h.2⟩))))))))
 refine sj5 114 hg7 (stq (v:=(vb false)) (wy 108 hg6) (xF hg7) (q2 (vb false) (xF hg6) (qi (runUnderlying117 _) (sizeOf4 _) h fun a22 h=>st2 (sizeOf4 _) hs hb h fun w22 hs hb h=>jB (kD (kD (jJ (rg (qc (ln ⟨((q6.wrap (t1+1)),H3,w22),⟨rfl,hm,hs,hb.drop 1,h.1⟩,h.2⟩)))))))))
 refine jC (kD (kD (jJ (rg (qc (jB ?_))))))
 have ⟨h,hs⟩:=hs.hr (h H3 w14)
 refine jJ ⟨((q6.wrap (t1+1)),H3,w14),⟨rfl,hm,hs,hb.drop 1,h.1⟩,h.2⟩
 refine zE (kP (kP (kO (jJ (eg (q0 s1.v (q0 s1.v (ln (er (rs1 results65 ⟨s1,rfl,h⟩))))))))))
end Go.Proofs
end
section
open Go Go.SE
namespace Go.Proofs
open Tryz
attribute [local irreducible] Calls
theorem oG {S:NP} (s:Sl) (ts:List Int) (v:Int) (w0:World) (hs:Lst S w0 1 s (tmr ts)) (hn:ts.length≤1000000) :
  Calls prog 61 #[s.v,.int .i64 v] w0 (fun e w'=>∃r:Bool,e=.returned (.bool r)∧(r=decide (v∈ts)∧w'=w0)):=by
 refine w_G1 _ _ w0 (fun r w'=>r=decide (v∈ts)∧w'=w0) ?_
 unfold m_G1
 have hl:s.len=ts.length:=by rw [hs.len,jY]
 refine ⟨fun i w'=>w'=w0∧∃j:Nat,i=j∧j≤ts.length∧v ∉ ts.take j,fun i _=>((ts.length:Int) - i).toNat,⟨rfl,0,rfl,Nat.zero_le _,by simp⟩,?_⟩
 rintro _ _ ⟨rfl,j,rfl,hj,hv⟩
 unfold m_G1_l1
 refine ⟨fun h=>?_,fun h=>?_⟩
 ·have hlt:=zO hl h
  obtain ⟨a,hat,_,hc⟩:=gU hs hlt
  have htk:ts.take (j+1)=ts.take j++[ts[j]]:=List.take_succ_eq_append_getElem hlt
  refine ⟨a,hat,_,hc,fun h=>⟨?_,rfl⟩,fun h=>?_⟩
  ·have:ts[j]=v:=by simpa using h
   rw [decide_eq_true]
   rw [← this];exact List.getElem_mem hlt
  ·rw [zL hlt (by omega)]
   refine ⟨⟨rfl,j+1,rfl,hlt,?_⟩,kZ hlt⟩
   rw [htk,List.mem_append,List.mem_singleton]
   rintro (h' | h')
   ·exact hv h'
   ·simp [h'] at h
 ·have hge:=kA hl hj h
  subst hge
  rw [List.take_length] at hv
  exact ⟨by simp [hv],rfl⟩
end Go.Proofs
end
section
open Go.SE
namespace Go.Sp
def upd (V:Int→Bool) (t:Int) (b:Bool):Int→Bool:=fun x=>if x=t then b else V x
theorem Sub.le {L:Pool} (hW:Wf L) {t y:Int} (ht:inP L t=true) (h:Sub L t y):inP L y=true∧y≤t:=by
 induction h with
 | refl=>exact ⟨ht,Int.le_refl _⟩
 | kid _ hk ih =>
  have:=(hW.node ih.1).2.2.2.2.1 _ hk
  exact ⟨this.1,by omega⟩
end Go.Sp
end
section
open Go Go.SE
namespace Go.Proofs
open Tryz
attribute [local irreducible] Calls
theorem tQ:SlType prog 117 4 1 1:=by
 refine ⟨underlying117,⟨t4,_,by kernel_rfl,(by kernel_rfl:t4.zero=some (.bool false)),by kernel_rfl,by kernel_rfl,rfl⟩,by omega⟩
theorem jBC:∀i z,prog.info? 4=some i→i.zero=some z→z.cells=#[Value.bool false]:=by
 intro i z hi hz;have h1:prog.info? 4=some t4:=by kernel_rfl
 rw [h1] at hi;cases hi;have h2:t4.zero=some (.bool false):=by kernel_rfl
 rw [h2] at hz;cases hz;rfl
def brw (n:Nat) (V:Int→Bool):List (List Value):=(List.range n).map fun i:Nat=>[Value.bool (V (i:Int))]
theorem vQ (n:Nat) (V:Int→Bool):(brw n V).length=n:=by simp [brw]
theorem jFI (n:Nat) (V:Int→Bool):∀q∈brw n V,q.all zN=true:=by intro q hq;obtain ⟨t,_,rfl⟩:=List.mem_map.1 hq;rfl
theorem brw_sz (n:Nat) (V:Int→Bool):∀q∈brw n V,q.length=1:=by intro q hq;obtain ⟨t,_,rfl⟩:=List.mem_map.1 hq;rfl
theorem jCU (n:Nat):List.replicate n [Value.bool false]=brw n (fun _=>false):=by
 unfold brw;rw [List.map_const',List.length_range]
theorem jFH (n:Nat) (V:Int→Bool) (t:Nat) (b:Bool):(brw n V).set t [.bool b]=brw n (Sp.upd V (t:Int) b):=by
 apply List.ext_getElem?;intro i;rw [List.getElem?_set];by_cases h:t=i
 ·subst h;rw [if_pos rfl];by_cases hl:t<n
  ·simp [brw,hl,Sp.upd]
  ·simp [brw,hl]
 ·rw [if_neg h];by_cases hl:i<n
  ·simp [brw,hl,Sp.upd,show ¬ (i:Int)=t by omega]
  ·simp [brw,hl]
section
variable {w w':World} {e:TypeId} {s:Sl} {n:Nat} {V:Int→Bool}
theorem qR (h:Rws w e 1 s (brw n V)) {t:Int} (h0:0≤t) (ht:t<n):∃a,At s t 1 a∧s.blk a.block∧w.cell? a=some (.bool (V t)):=by
 obtain ⟨a,h1,h2,h3⟩:=h.at h0 (by rw [vQ];omega);refine ⟨a,h1,h3,?_⟩;have:(brw n V)[t.toNat]'(by rw [vQ];omega)=[Value.bool (V t)]:=by
  simp only [brw,List.getElem_map,List.getElem_range];rw [show ((t.toNat:Nat):Int)=t by omega]
 rw [this] at h2;exact qA h2
theorem lJ (h:Rws w e 1 s (brw n V)) {t:Int} (h0:0≤t) (ht:t<n):∃a,At s t 1 a∧s.blk a.block∧zQ w a∧∀b,Rws (w.setCell a (.bool b)) e 1 s (brw n (Sp.upd V t b))∧Ext s.blk w (w.setCell a (.bool b)):=by
 have hset:∀b:Bool,∃a,At s t 1 a∧(∀j,j<1→zQ w (a.add j))∧∀w',w'=storeRow w a [Value.bool b]→Rws w' e 1 s ((brw n V).set t.toNat [.bool b])∧Ext s.blk w w':=fun b=>h.set (i:=t.toNat) (by rw [vQ];omega) rfl (by omega);obtain ⟨a,hat,hw,_⟩:=hset true;obtain ⟨a',h1,_,hblk⟩:=h.at h0 (by rw [vQ];omega);have oQ:∀{x:Addr},At s t 1 x→x=a:=fun hx=>by
  obtain ⟨_,_,b1,hb1,rfl⟩:=hx;obtain ⟨_,_,b2,hb2,rfl⟩:=hat;rw [hb1] at hb2;cases hb2;rfl
 have h00:a.add 0=a:=by simp [Addr.add]
 refine ⟨a,hat,?_,by have:=hw 0 (by omega);rwa [h00] at this,fun b=>?_⟩
 ·have:=oQ h1;subst this;exact hblk
 ·obtain ⟨x,hx,_,hx2⟩:=hset b;have:=oQ hx;subst this;have hst:storeRow w x [Value.bool b]=w.setCell x (.bool b):=by show w.setCell (x.add 0) (.bool b)=_;rw [h00]
  obtain ⟨r1,r2⟩:=hx2 _ rfl;rw [hst] at r1 r2;rw [jFH,show ((t.toNat:Nat):Int)=t by omega] at r1;exact ⟨r1,r2⟩
end
theorem zT.at7 {w:World} {q:Addr} {L:Sp.Pool} {FR:NP} (h:zT w q L FR) {t:Int} (ht:Sp.inP L t=true) (hok:Sp.Ok L):∃v,w.cell? q=some (Sl.v v)∧∃a,At v (IntKind.i64.wrap (t - 1)) 7 a∧w.cell? (a.add 5)=some (.int .i64 (Sp.jD L t).a)∧w.cell? (a.add 6)=some (.int .i64 (Sp.jD L t).b):=by
 obtain ⟨s1,s2,s3,h,_⟩:=h;obtain ⟨i,hi,rfl⟩:=Sp.tY ht;have:=hok.few;obtain ⟨a,h1,h2⟩:=h.r1.nth hi;rw [IntWalk.i64_in _ (by omega),show (i:Int)+1 - 1=i by omega];have hn:=Sp.uY hi;have e0:jDM L[i]=qM (Sp.jD L ((i:Int)+1)):=by rw [hn];rfl
 rw [e0] at h2;exact ⟨s1,h.box.cell0,a,h1,h2 5 (by simp [qM]),h2 6 (by simp [qM])⟩
structure K8S (w:World) (x q:Addr) (G:List Int) (sg:Sl):Prop where
 box:Box w x [.pointer (some q),sg.v] 59
 giv:Rws w 30 1 sg (tmr G)
 n1:¬ sg.blk x.block
def xI (w:World) (x q:Addr) (G:List Int) (F:NP):Prop:=∃sg,K8S w x q G sg∧∀b,F b↔(b=x.block∨sg.blk b)
section
variable {w w':World} {x q:Addr} {G:List Int} {F:NP}
theorem xI.ext {X:NP} (h:xI w x q G F) (hE:Ext X w w') (hd:∀b,F b→¬ X b):xI w' x q G F:=by
 obtain ⟨sg,h,hF⟩:=h;exact ⟨sg,⟨h.box.ext hE (hd _ ((hF _).2 (.inl rfl))),h.giv.ext hE (fun b hb=>hd _ ((hF _).2 (.inr hb))),h.n1⟩,hF⟩
theorem xI.pure (h:xI w x q G F) (hE:Pure w w'):xI w' x q G F:=h.ext hE (fun _ _ h=>h)
theorem xI.lt (h:xI w x q G F) {b:Nat} (hb:F b):b<w.heap.size:=by
 obtain ⟨sg,h,hF⟩:=h;rcases (hF b).1 hb with rfl | hb
 ·exact h.box.lt
 ·exact h.giv.lt hb
end
theorem jDJ (k:Int):s_Q k=Sp.zJ k:=rfl
theorem xD (x q:Addr) (w0:World) {L:Sp.Pool} {G:List Int} {F FR:NP} (h:xI w0 x q G F) (hP:zT w0 q L FR) (hW:Sp.Wf L) (hG:∀g∈G,Sp.inP L g=true) (hGn:G.length≤100000) :
  Calls prog 100 #[.pointer (some x)] w0 (fun e w'=>∃r:Sl,e=.returned r.v∧∃V,RetO w0 4 1 (brw (L.length+1) V) r w'∧∀t,Sp.inP L t=true→(V t=true↔Sp.Seen L G t)):=by
 suffices key:∀K:Sl→WP,(∀r w' V,RetO w0 4 1 (brw (L.length+1) V) r w'→(∀t,Sp.inP L t=true→(V t=true↔Sp.Seen L G t))→K r w')→m_M (some x) w0 K from
  w_M _ w0 _ (key _ (fun r w' V a b=>⟨V,a,b⟩))
 intro K hK
 unfold m_M
 have hL:=hW.ok.few
 obtain ⟨sg,h,hF⟩:=h
 obtain ⟨v2,hv2,hv2l⟩:∃v1:Sl,w0.cell? q=some v1.v∧v1.len=L.length:=by
  obtain ⟨s1,s2,s3,h,_⟩:=hP;exact ⟨s1,h.box.cell0,by rw [h.r1.len];simp⟩
 refine ⟨x,rfl,_,h.box.cell0,q,rfl,v2,hv2,?_⟩
 rw [hv2l,IntWalk.i64_in _ (by omega),show ((L.length:Int)+1)=((L.length+1:Nat):Int) by omega]
 obtain ⟨w1,hr1,R1,E1⟩:=Rws.make (P:=prog) tQ jBC (k:=.i64) (k':=.i64) (n:=L.length+1) (by omega) (by simp [maxLen];omega) w0
 rw [jCU] at R1
 refine ⟨_,w1,hr1,E1.keptP,?_⟩
 generalize hsv:(Sl.mk (some ⟨w0.heap.size,0,none⟩) (L.length+1) (L.length+1))=sv at *
 have hsvb:∀b,sv.blk b→b=w0.heap.size:=by subst hsv;rintro b ⟨a,ha,rfl⟩;cases ha;rfl
 have nF:∀b,sv.blk b→∀{Z:NP},(∀c,Z c→c<w0.heap.size)→¬ Z b:=fun b hb Z hz hh=>by have:=hsvb b hb;have:=hz b hh;omega
 have hlg:sg.len=G.length:=by rw [h.giv.len,jY]
 refine ⟨fun i H w'=>∃j:Nat,i=j∧j≤G.length∧Pure w0 w'∧(∀b,sv.blk b→¬ H b)∧∃V,Rws w' 4 1 sv (brw (L.length+1) V)∧∀t,V t=true↔t∈G.take j,fun i _=>((G.length:Int) - i).toNat,⟨0,rfl,Nat.zero_le _,E1,fun b _ h=>h,_,R1,by simp⟩,?_⟩
 rintro _ Hl wl hl ⟨j,rfl,hj,El,hv,V,RV,hV⟩
 have hx:=h.box.pure El
 have hg:=h.giv.pure El
 unfold m_M_l1
 refine ⟨x,rfl,sg,hx.cell rfl,fun hc=>?_,fun hc=>?_⟩
 ·have hlt:=zO hlg hc
  obtain ⟨a5,at5,_,c5⟩:=gU hg.lst hlt
  have htk:G.take (j+1)=G.take j++[G[j]]:=List.take_succ_eq_append_getElem hlt
  have hgi:=Sp.zA.1 (hG _ (List.getElem_mem hlt))
  obtain ⟨a6,at6,hb6,cw6,hput⟩:=lJ RV (t:=G[j]) (by omega) (by omega)
  refine ⟨x,rfl,sg,hx.cell rfl,a5,at5,_,c5,a6,at6,cw6,hv _ hb6,?_⟩
  rintro _ rfl
  obtain ⟨R2,E2⟩:=hput true
  rw [zL hlt (by omega)]
  refine ⟨⟨j+1,rfl,hlt,El.trans' E2 (fun i hi hb=>by have:=hsvb i hb;omega),hv,_,R2,fun t=>?_⟩,kZ hlt⟩
  rw [htk,List.mem_append,List.mem_singleton]
  simp only [Sp.upd]
  split
  ·rename_i e;simp [e]
  ·rename_i e;rw [hV];exact ⟨.inl,fun h=>h.elim id (fun h=>absurd h e)⟩
 ·have hge:=kA hlg hj hc
  subst hge
  rw [List.take_length] at hV
  obtain ⟨v7,hv7,hv7l⟩:∃v1:Sl,wl.cell? q=some v1.v∧v1.len=L.length:=by
   obtain ⟨s1,s2,s3,h,_⟩:=hP.pure El;exact ⟨s1,h.box.cell0,by rw [h.r1.len];simp⟩
  refine ⟨x,rfl,_,hx.cell0,q,rfl,v7,hv7,?_⟩
  rw [hv7l]
  refine ⟨fun i H w'=>∃j:Nat,i=(L.length:Int) - j∧j≤L.length∧Pure w0 w'∧(∀b,sv.blk b→¬ H b)∧∃V,Rws w' 4 1 sv (brw (L.length+1) V)∧(∀t,V t=true→Sp.Seen L G t)∧(∀g∈G,V g=true)∧∀u,i<u→u≤L.length→V u=true→∀r y,Sp.zU L r u y→V y=true,fun i _=>i.toNat,
   ⟨0,by simp,Nat.zero_le _,El,hv,V,RV,fun t ht=>.given ((hV t).1 ht),fun g hg=>(hV g).2 hg,fun u h1 h2=>by omega⟩,?_⟩
  rintro _ Hm wm hm ⟨j,rfl,hj,Em,hvm,V,RV,h1,h2,h3⟩
  unfold m_M_l2
  refine ⟨fun hc=>?_,fun hc=>?_⟩
  ·have hc:=of_decide_eq_true hc
   have hin:Sp.inP L ((L.length:Int) - j)=true:=Sp.zA.2 ⟨by omega,by omega⟩
   have hwr:IntKind.i64.wrap (((L.length:Int) - j) - 1)=(L.length:Int) - ((j+1:Nat):Int):=by rw [IntWalk.i64_in _ (by omega)];omega
   generalize ht:(L.length:Int) - j=t at *
   refine ⟨x,rfl,_,(h.box.pure Em).cell0,?_⟩
   refine (uA q t wm (hP.pure Em) hW.ok).mono ?_
   rintro _ w3 ⟨nk,nf,nt,nu,nx,na,nb,ok,rfl,⟨hn,_⟩,E3⟩
   refine ⟨_,_,_,_,_,_,_,_,rfl,E3.keptP,?_⟩
   have hk1:(Sp.jD L t).kind=nk:=by rw [← hn]
   have ha:(Sp.jD L t).a=na:=by rw [← hn]
   have hb:(Sp.jD L t).b=nb:=by rw [← hn]
   obtain ⟨a12,at12,_,_⟩:=qR (RV.pure E3) (t:=t) (by omega) (by omega)
   refine ⟨a12,at12,?_⟩
   intro H1 w5 hs5
   have hs3:Hst w0 Hm w3 Hm w3:=hm.again E3.keptP
   have O5:Own H1 w5 4 1 sv (brw (L.length+1) V):=(Own.hst ⟨RV.pure E3,hvm⟩ hs5)
   have E5:=(Em.trans E3).hst hs5
   obtain ⟨a12',at12',_,c12⟩:=qR O5.rows (t:=t) (by omega) (by omega)
   have:a12'=a12:=by
    obtain ⟨_,_,b1,hb1,rfl⟩:=at12;obtain ⟨_,_,b2,hb2,rfl⟩:=at12';rw [hb1] at hb2;cases hb2;rfl
   subst this
   refine ⟨_,c12,?_⟩
   intro H3 w11 hs11
   have O11:=O5.hst hs11
   have E11:=E5.hst hs11
   unfold m_M_j3
   rw [jDJ]
   have hmu:∀y:Int,y=(L.length:Int) - ((j+1:Nat):Int)→y.toNat<t.toNat:=fun y e=>by omega
   refine ⟨fun hx1=>?_,fun hx1=>?_⟩
   ·rw [Bool.and_eq_true,Bool.or_eq_true] at hx1
    obtain ⟨hvt,hkk⟩:=hx1
    have hsn:=h1 t hvt
    have hna:Sp.inP L na=true∧na<t∧Sp.Seen L G na:=by
     rcases hkk with hk | hk
     ·have hk4:nk=4:=by simpa using hk
      have:=(Sp.jAP hW hin (by rw [hk1];exact hk4)).1;rw [ha] at this;exact ⟨this.1,this.2,.aris hsn (.inl ⟨rfl,by rw [hk1];exact hk4,ha⟩)⟩
     ·have:=Sp.jDT hW hin (by rw [hk1];exact hk);rw [ha] at this;exact ⟨this.1,this.2,.aris hsn (.inr (.inr ⟨rfl,by rw [hk1];exact hk,ha⟩))⟩
    have hna1:=Sp.zA.1 hna.1
    obtain ⟨a10,at10,hb10,cw10,hput⟩:=lJ O11.rows (t:=na) (by omega) (by omega)
    refine ⟨a10,at10,cw10,O11.vis _ hb10,?_⟩
    rintro _ rfl
    obtain ⟨R6,X6⟩:=hput true
    have E6:Pure w0 (w11.setCell a10 (.bool true)):=E11.trans' X6 (fun i hi hb=>by have:=hsvb i hb;omega)
    generalize w11.setCell a10 (.bool true)=w6 at *
    refine ⟨fun hk=>?_,fun hk=>?_⟩
    ·have hk4:nk=4:=by simpa using hk
     have hnb:=(Sp.jAP hW hin (by rw [hk1];exact hk4)).2
     rw [hb] at hnb
     have hnb1:=Sp.zA.1 hnb.1
     obtain ⟨a11,at11,hb11,cw11,hput⟩:=lJ R6 (t:=nb) (by omega) (by omega)
     refine ⟨a11,at11,cw11,O11.vis _ hb11,?_⟩
     rintro _ rfl
     obtain ⟨R7,X7⟩:=hput true
     have E7:Pure w0 (w6.setCell a11 (.bool true)):=E6.trans' X7 (fun i hi hb=>by have:=hsvb i hb;omega)
     refine ⟨⟨j+1,hwr,by omega,E7,O11.vis,_,R7,fun y hy=>?_,fun g hg=>?_,fun u hu1 hu2 hu3 r y hay=>?_⟩,hmu _ hwr⟩
     ·simp only [Sp.upd] at hy
      split at hy
      ·rename_i e;rw [e];exact .aris hsn (.inr (.inl ⟨rfl,by rw [hk1];exact hk4,hb⟩))
      ·split at hy
       ·rename_i e;rw [e];exact hna.2.2
       ·exact h1 y hy
     ·simp only [Sp.upd];split
      ·rfl
      ·split
       ·rfl
       ·exact h2 g hg
     ·rw [hwr] at hu1
      have hc3:∀y,V y=true→Sp.upd (Sp.upd V na true) nb true y=true:=fun y hy=>by simp only [Sp.upd];split <;> (try split) <;> simp_all
      by_cases hut:u=t
      ·subst hut
       rcases hay with ⟨_,_,e⟩ | ⟨_,_,e⟩ | ⟨_,hk7,_⟩
       ·rw [← e,ha];simp only [Sp.upd];split <;> simp
       ·rw [← e,hb];simp [Sp.upd]
       ·rw [hk1,hk4] at hk7;cases hk7
      ·simp only [Sp.upd] at hu3
       rw [if_neg (by omega),if_neg (by omega)] at hu3
       exact hc3 y (h3 u (by omega) hu2 hu3 r y hay)
    ·have hk4:¬ nk=4:=by simpa using hk
     refine ⟨⟨j+1,hwr,by omega,E6,O11.vis,_,R6,fun y hy=>?_,fun g hg=>?_,fun u hu1 hu2 hu3 r y hay=>?_⟩,hmu _ hwr⟩
     ·simp only [Sp.upd] at hy
      split at hy
      ·rename_i e;rw [e];exact hna.2.2
      ·exact h1 y hy
     ·simp only [Sp.upd];split
      ·rfl
      ·exact h2 g hg
     ·rw [hwr] at hu1
      by_cases hut:u=t
      ·subst hut
       rcases hay with ⟨_,hk',_⟩ | ⟨_,hk',_⟩ | ⟨_,_,e⟩
       ·rw [hk1] at hk';exact absurd hk' hk4
       ·rw [hk1] at hk';exact absurd hk' hk4
       ·rw [← e,ha];simp [Sp.upd]
      ·simp only [Sp.upd] at hu3
       rw [if_neg (by omega)] at hu3
       have:=h3 u (by omega) hu2 hu3 r y hay
       simp only [Sp.upd];split
       ·rfl
       ·exact this
   ·refine ⟨⟨j+1,hwr,by omega,E11,O11.vis,V,O11.rows,h1,h2,fun u hu1 hu2 hu3 r y hay=>?_⟩,hmu _ hwr⟩
    rw [hwr] at hu1
    by_cases hut:u=t
    ·subst hut
     rw [hu3] at hx1
     simp only [Bool.true_and,Bool.or_eq_false_iff] at hx1
     rcases hay with ⟨_,hk',_⟩ | ⟨_,hk',_⟩ | ⟨_,hk',_⟩
     ·rw [hk1] at hk';rw [hk'] at hx1;simp at hx1
     ·rw [hk1] at hk';rw [hk'] at hx1;simp at hx1
     ·rw [hk1] at hk';rw [hk'] at hx1;simp at hx1
    ·exact h3 u (by omega) hu2 hu3 r y hay
  ·have hc:=of_decide_eq_false hc
   have hj:(L.length:Int) - j=0:=by omega
   refine hK sv wm V ⟨RV,fun b hb=>by have:=hsvb b hb;omega,Em⟩ (fun t ht=>⟨h1 t,fun hs=>?_⟩)
   have:∀t,Sp.Seen L G t→Sp.inP L t=true∧V t=true:=by
    intro t hs;induction hs with
    | given hg=>exact ⟨hG _ hg,h2 _ hg⟩
    | aris _ hay ih =>
     have hu:=Sp.zA.1 ih.1
     exact ⟨(hay.inp hW ih.1).1,h3 _ (by omega) (by omega) ih.2 _ _ hay⟩
   exact (this t hs).2
theorem jCR (x q:Addr) (name:Int) (si:Sl) (w0:World) {L:Sp.Pool} {G:List Int} {F FR:NP} {V:Int→Bool} (h:xI w0 x q G F) (hP:zT w0 q L FR) (hok:Sp.Ok L) (hV:Rws w0 4 1 si (brw (L.length+1) V)) :
  Calls prog 101 #[.pointer (some x),si.v,.int .i64 name] w0 (fun e w'=>∃r:Bool,e=.returned (.bool r)∧(r=((Sp.kF L name).2 && V (Sp.kF L name).1)∧Pure w0 w')):=by
 refine w_Y2 _ _ _ w0 (fun r w'=>r=((Sp.kF L name).2 && V (Sp.kF L name).1)∧Pure w0 w') ?_
 unfold m_Y2
 obtain ⟨sg,h,hF⟩:=h
 refine ⟨x,rfl,_,h.box.cell0,?_⟩
 refine (gF q (Sp.vA name) w0 hP hok).mono ?_
 rintro _ w1 ⟨r1,r2,rfl,hr,E1⟩
 have hke:Sp.kF L name=(r1,r2):=by
  unfold Sp.kF;cases hf:Sp.find L (Sp.vA name) with
  | none=>rw [hf] at hr;simp only at hr;rw [hr.1,hr.2]
  | some i=>rw [hf] at hr;simp only at hr;rw [hr.1,hr.2]
 rw [hke]
 refine ⟨_,_,rfl,fun h=>?_,fun h=>⟨by simp [h],E1⟩⟩
 have hko:=Sp.qX (L:=L) (n:=name) (by rw [hke];exact h)
 rw [hke] at hko
 have hin:=Sp.zA.1 hko.1
 simp only at hin
 obtain ⟨a,hat,_,hc⟩:=qR (hV.pure E1) (t:=r1) (by omega) (by omega)
 exact ⟨a,hat,_,hc,by simp [h],E1⟩
end Go.Proofs
end
section
open Go Go.SE
namespace Go.Sp
def l8a:Node:=⟨2,0,0,1,⟨#[]⟩,0,0⟩
def l8b:Node:=⟨1,2,0,0,⟨#[]⟩,0,0⟩
def l8c:Node:=⟨4,0,0,0,⟨#[]⟩,1,2⟩
def l8s:Node:=⟨7,0,0,0,⟨#[]⟩,3,0⟩
def l8h:Node:=⟨5,0,0,0,⟨#[]⟩,1,0⟩
def l8k:Node:=⟨6,0,0,0,⟨#[]⟩,0,0⟩
def l8u:Node:=⟨7,0,0,0,⟨#[]⟩,1,0⟩
def l81:Pool:=[⟨l8a,1,1⟩]
def l82:Pool:=[⟨l8a,1,1⟩,⟨l8b,1,1⟩]
def l83:Pool:=[⟨l8a,1,1⟩,⟨l8b,1,1⟩,⟨l8c,3,2⟩]
def l84:Pool:=[⟨l8a,1,1⟩,⟨l8b,1,1⟩,⟨l8c,3,2⟩,⟨l8s,4,3⟩]
def l85:Pool:=[⟨l8a,1,1⟩,⟨l8b,1,1⟩,⟨l8c,3,2⟩,⟨l8s,4,3⟩,⟨l8h,2,2⟩]
def l86:Pool:=[⟨l8a,1,1⟩,⟨l8b,1,1⟩,⟨l8c,3,2⟩,⟨l8s,4,3⟩,⟨l8h,2,2⟩,⟨l8k,1,1⟩]
def l87:Pool:=[⟨l8a,1,1⟩,⟨l8b,1,1⟩,⟨l8c,3,2⟩,⟨l8s,4,3⟩,⟨l8h,2,2⟩,⟨l8k,1,1⟩,⟨l8u,2,2⟩]
theorem l8m1:make [] l8a=(1,0,l81):=by kernel_rfl
theorem l8m2:make l81 l8b=(2,0,l82):=by kernel_rfl
theorem l8m3:make l82 l8c=(3,0,l83):=by kernel_rfl
theorem l8m4:make l83 l8s=(4,0,l84):=by kernel_rfl
theorem l8m5:make l84 l8h=(5,0,l85):=by kernel_rfl
theorem l8m6:make l85 l8k=(6,0,l86):=by kernel_rfl
theorem l8m7:make l86 l8u=(7,0,l87):=by kernel_rfl
theorem l8w1:Wf l81:=by have:=vW Wf.nil l8a;rwa [l8m1] at this
theorem l8w2:Wf l82:=by have:=vW l8w1 l8b;rwa [l8m2] at this
theorem l8w3:Wf l83:=by have:=vW l8w2 l8c;rwa [l8m3] at this
theorem l8w4:Wf l84:=by have:=vW l8w3 l8s;rwa [l8m4] at this
theorem l8w5:Wf l85:=by have:=vW l8w4 l8h;rwa [l8m5] at this
theorem l8w6:Wf l86:=by have:=vW l8w5 l8k;rwa [l8m6] at this
theorem l8w7:Wf l87:=by have:=vW l8w6 l8u;rwa [l8m7] at this
theorem l8n:jD l87 1=l8a∧jD l87 2=l8b∧jD l87 3=l8c∧jD l87 4=l8s∧jD l87 5=l8h∧jD l87 6=l8k∧jD l87 7=l8u:=⟨by kernel_rfl,by kernel_rfl,by kernel_rfl,by kernel_rfl,by kernel_rfl,by kernel_rfl,by kernel_rfl⟩
theorem l8in:inP l87 4=true∧inP l87 6=true∧inP l87 99=false:=⟨by kernel_rfl,by kernel_rfl,by kernel_rfl⟩
theorem l8key:kF l87 0=(6,true):=by kernel_rfl
theorem l8see {G:List Int} (hG:∀t∈G,t=4∨t=6) {t:Int} (h:Seen l87 G t):(t=4∨t=3∨t=1∨t=2)∨t=6:=by
 induction h with
 | given hg=>rcases hG _ hg with h | h <;> simp [h]
 | aris _ ha ih =>
  obtain ⟨n1,n2,n3,n4,_,n6,_⟩:=l8n
  rcases ih with (rfl | rfl | rfl | rfl) | rfl
  ·unfold zU at ha;rw [n4] at ha;simp [l8s,zJ] at ha;left;omega
  ·unfold zU at ha;rw [n3] at ha;simp [l8c,zJ] at ha;left;omega
  ·unfold zU at ha;rw [n1] at ha;simp [l8a,zJ] at ha
  ·unfold zU at ha;rw [n2] at ha;simp [l8b,zJ] at ha
  ·unfold zU at ha;rw [n6] at ha;simp [l8k,zJ] at ha
theorem jEF {t:Int} (h:Seen l87 [4] t):t=4∨t=3∨t=1∨t=2:=by
 induction h with
 | given hg=>simp at hg;simp [hg]
 | aris _ ha ih =>
  obtain ⟨n1,n2,n3,n4,_,_,_⟩:=l8n
  rcases ih with rfl | rfl | rfl | rfl
  ·unfold zU at ha;rw [n4] at ha;simp [l8s,zJ] at ha;omega
  ·unfold zU at ha;rw [n3] at ha;simp [l8c,zJ] at ha;omega
  ·unfold zU at ha;rw [n1] at ha;simp [l8a,zJ] at ha
  ·unfold zU at ha;rw [n2] at ha;simp [l8b,zJ] at ha
theorem l8seen {G:List Int} (h:4∈G):Seen l87 G 1:=by
 obtain ⟨_,_,n3,n4,_,_,_⟩:=l8n;refine .aris (r:=1) (u:=3) (.aris (r:=3) (u:=4) (.given h) (.inr (.inr ⟨rfl,?_,?_⟩))) (.inl ⟨rfl,?_,?_⟩)
 ·rw [n4];rfl
 ·rw [n4];rfl
 ·rw [n3];rfl
 ·rw [n3];rfl
theorem l8hash {K:Int→Prop}:Drv l87 K 5:=by
 obtain ⟨n1,_,_,_,n5,_,_⟩:=l8n;refine .hash (by rw [n5];rfl) (.free ?_);rw [n5];show qH (jD l87 1).kind=true;rw [n1];rfl
theorem l8u_no {K:Int→Prop} (h7:¬ K 7) (h6:¬ K 6):¬ Drv l87 K 7:=fun h=>by
 obtain ⟨_,_,_,_,_,_,n7⟩:=l8n;rcases h.inv with h | h | ⟨h,_⟩ | ⟨h,_⟩ | ⟨_,_,_,h⟩
 ·exact h7 h
 ·rw [n7] at h;cases h
 ·rw [n7] at h;cases h
 ·rw [n7] at h;cases h
 ·rw [n7] at h;have:kF l87 (kI l8u)=(6,true):=l8key;rw [this] at h;exact h6 h
theorem jFA {K:Int→Prop} (h6:K 6):Drv l87 K 7:=by
 obtain ⟨n1,_,_,_,_,_,n7⟩:=l8n;have hk:kF l87 (kI l8u)=(6,true):=l8key;refine .signed (by rw [n7];rfl) (.free ?_) (by rw [n7,hk]) (by rw [n7,hk];exact h6);rw [n7];show qH (jD l87 1).kind=true;rw [n1];rfl
theorem KnowOk.nil (L:Pool):KnowOk L [] []:=⟨⟨by simp [jG],by simp [jG],fun i hi=>by simp at hi⟩,by simp [jG],by simp,by simp⟩
end Go.Sp
end
section
open Go Go.SE
namespace Go.Proofs
open Tryz
attribute [local irreducible] Calls
theorem gM {P:Program} {t ty e:TypeId} {sz bytes:Nat} (T:SlType P t e sz bytes) {w:World} {p:Addr} {c:List Value} {Tp:TypeId} (hB:Box w p c Tp) {s:Sl} {rs:List (List Value)} (hR:Rws w e sz s rs) (hp:¬ s.blk p.block) {a:Addr} {r:List Value} (hr:Row w a r) (hl:r.length=sz) (h1:r.all zN=true) (hb:(rs.length+1)*bytes≤140737488355328) (hm:rs.length+1≤maxLen) :
  ∃s' w',(Builtin.append_ #[t,t] ty #[s.v,(Sl.mk (some a) 1 1).v]).run P w=.ok s'.v w'∧Rws w' e sz s' (rs++[r])∧Box w' p c Tp∧¬ s'.blk p.block∧Ext s.blk w w'∧(∀b,s'.blk b→s.blk b∨w.heap.size≤b):=by
 obtain ⟨s',w',hr',hR',hE,hb'⟩:=hR.append T (ty:=ty) (c:=1) hr hl h1 hb hm
 exact ⟨s',w',hr',hR',hB.ext hE hp,fun h=>(hb' _ h).elim hp (fun h=>by have:=hB.lt;omega),hE,hb'⟩
theorem yR (n:Sp.Node):Sp.jX n=53∨Sp.jX n=0:=by
 unfold Sp.jX;simp only;split
 ·exact .inl rfl
 ·exact .inr rfl
theorem oE (p:Addr) (n:Sp.Node) (w0:World) {L:Sp.Pool} {F:NP} (hP:zT w0 p L F) (hok:Sp.Ok L):Calls prog 41 #[.pointer (some p),uE n] w0
  (fun e w'=>∃r1 r2:Int,e=.returned (.tuple #[.int .i64 r1,.int .i64 r2])∧((r1,r2)=((Sp.make L n).1,(Sp.make L n).2.1)∧∃F',zT w' p (Sp.make L n).2.2 F'∧Ext F w0 w'∧∀b,F' b→F b∨w0.heap.size≤b)):=by
 obtain ⟨k,f,t,u,x,a,b⟩:=n
 generalize hn:(⟨k,f,t,u,x,a,b⟩:Sp.Node)=n
 have hnk:uE n=.agg #[.int .i64 k,.int .i64 f,.int .i64 t,.int .u64 u,.string x,.int .i64 a,.int .i64 b]:=by rw [← hn];rfl
 rw [hnk]
 suffices key:∀K:Int→Int→WP,(∀r1 r2 w',((r1,r2)=((Sp.make L n).1,(Sp.make L n).2.1)∧∃F',zT w' p (Sp.make L n).2.2 F'∧Ext F w0 w'∧∀b,F' b→F b∨w0.heap.size≤b)→K r1 r2 w')→m_L (some p) k f t u x a b w0 K from
  w_L _ _ _ _ _ _ _ _ w0 _ (key _ (fun _ _ _ h=>h))
 intro K hK
 have hsh:=uT n
 have hkd:=yJ k
 rw [← hn] at hsh
 simp only at hsh
 rw [hn] at hsh
 have hna:n.a=a:=by rw [← hn]
 have hnb:n.b=b:=by rw [← hn]
 have hnkk:n.kind=k:=by rw [← hn]
 have hk:=Sp.lB k
 have oQ:∀(r1 r2:Int) (w':World),Pure w0 w'→Sp.make L n=(r1,r2,L)→K r1 r2 w':=fun r1 r2 w' E h=>hK _ _ _ ⟨by rw [h],F,by rw [h];exact hP.pure E,E.pure,fun b h=>.inl h⟩
 have bad:∀(er:Int) (w':World),er≠0→Pure w0 w'→Sp.check L n=(0,0,er)→K 0 er w':=fun er w' h0 E h=>oQ 0 er w' E (by unfold Sp.make;simp [h,h0])
 unfold m_L
 rw [hsh,hkd]
 have good:Sp.nodeErr n=0→Sp.check L n=(if (Sp.zB n).any (fun t=>!Sp.inP L t) then (0,0,51) else if 1+((Sp.zB n).map (Sp.sizeOf L)).sum>4096∨(Sp.zB n).foldl (fun d t=>max d (Sp.depthOf L t)) 0+1>64 then (0,0,52) else (1+((Sp.zB n).map (Sp.sizeOf L)).sum,(Sp.zB n).foldl (fun d t=>max d (Sp.depthOf L t)) 0+1,0)):=by
  intro h;unfold Sp.nodeErr at h;unfold Sp.check;split at h
  ·cases h
  ·rename_i h1;simp only;rw [if_neg h1];split at h
   ·cases h
   ·rename_i h2;rw [if_neg h2,if_neg (by simpa using h)]
 refine ⟨fun h=>?_,fun h=>?_⟩
 ·intro H1 w2 hs2
  have h:Sp.nodeErr n≠0:=by simpa using h
  refine bad _ _ h hs2.first ?_
  unfold Sp.nodeErr at h ⊢
  unfold Sp.check
  by_cases h1:Sp.jX n≠0
  ·rw [if_pos h1,if_pos h1]
   have:Sp.jX n=53:=(yR n).resolve_right h1
   rw [this]
  ·rw [if_neg h1] at h ⊢
   simp only
   rw [if_neg h1]
   by_cases h2:((decide ((Sp.shapeOf n.kind).kids<1) && n.a != 0) || (decide ((Sp.shapeOf n.kind).kids<2) && n.b != 0))=true
   ·rw [if_pos h2,if_pos h2]
   ·rw [if_neg h2] at h ⊢;rw [if_neg h2,if_pos h]
 have h0:Sp.nodeErr n=0:=by simpa using h
 have hchk:=good h0
 have hzero:((Sp.shapeOf k).kids<1→a=0)∧((Sp.shapeOf k).kids<2→b=0):=by
  unfold Sp.nodeErr at h0;split at h0
  ·cases h0
  ·split at h0
   ·cases h0
   ·rename_i _ h2;rw [hnkk,hna,hnb] at h2;simp at h2;exact h2
 have hz0:Sp.inP L 0=false:=by simp [Sp.inP]
 have hs0:Sp.sizeOf L 0=0:=by simp [Sp.sizeOf,Sp.get,hz0]
 have hd0:Sp.depthOf L 0=0:=by simp [Sp.depthOf,Sp.get,hz0]
 have hsa:=hok.sizeOf a
 have hsb:=hok.sizeOf b
 have hda:=hok.depthOf a
 have hdb:=hok.depthOf b
 have hany:(Sp.zB n).any (fun t=>!Sp.inP L t)=((decide (1≤(Sp.shapeOf k).kids) && !Sp.inP L a) || (decide ((Sp.shapeOf k).kids=2) && !Sp.inP L b)):=by
  unfold Sp.zB;rw [hnkk,hna,hnb];rcases hk with h | h | h <;> rw [h] <;> simp
 have hsum:((Sp.zB n).map (Sp.sizeOf L)).sum=Sp.sizeOf L a+Sp.sizeOf L b:=by
  unfold Sp.zB;rw [hnkk,hna,hnb];rcases hk with h | h | h <;> rw [h] <;> simp
  ·rw [hzero.1 (by omega),hzero.2 (by omega),hs0];rfl
  ·rw [hzero.2 (by omega),hs0];omega
 have hmax:(Sp.zB n).foldl (fun d t=>max d (Sp.depthOf L t)) 0=max (Sp.depthOf L a) (Sp.depthOf L b):=by
  unfold Sp.zB;rw [hnkk,hna,hnb];rcases hk with h | h | h <;> rw [h] <;> simp
  ·rw [hzero.1 (by omega),hzero.2 (by omega),hd0];omega
  ·rw [hzero.2 (by omega),hd0];omega
  ·omega
 rw [hany,hsum,hmax] at hchk
 have J1:∀(x1:Bool) (H:NP) (w:World),Hst w0 H w H w→Pure w0 w→x1=((decide (1≤(Sp.shapeOf k).kids) && !Sp.inP L a) || (decide ((Sp.shapeOf k).kids=2) && !Sp.inP L b))→m_L_j1 (some p) k f t u x a b x1 w0 H w K:=by
  intro x1 H w hs E hx;rw [← hx] at hchk;unfold m_L_j1;refine ⟨fun h=>bad 51 w (by omega) E (by rw [hchk,h];rfl),fun h=>?_⟩;rw [h,if_neg (by simp)] at hchk;refine ⟨fun _=>True,trivial,?_⟩;rintro _ rfl;have Ed:Pure w0 w.drew:=E.trans (Ext.drew w);refine (yZ p a w.drew (hP.pure Ed) hok).mono ?_;rintro _ _ ⟨_,rfl,rfl,rfl⟩;refine ⟨_,rfl,trivial,Kept.refl _,?_⟩;refine (yZ p b w.drew (hP.pure Ed) hok).mono ?_;rintro _ _ ⟨_,rfl,rfl,rfl⟩;refine ⟨_,rfl,trivial,Kept.refl _,fun _=>True,trivial,?_⟩;rintro _ rfl;have Ed2:Pure w0 w.drew.drew:=Ed.trans (Ext.drew w.drew);refine (qZ p a w.drew.drew (hP.pure Ed2) hok).mono ?_;rintro _ _ ⟨_,rfl,rfl,rfl⟩;refine ⟨_,rfl,trivial,Kept.refl _,?_⟩;refine (qZ p b w.drew.drew (hP.pure Ed2) hok).mono ?_;rintro _ _ ⟨_,rfl,rfl,rfl⟩;refine ⟨_,rfl,trivial,Kept.refl _,_,fun w' _=>run_max_int2 _ _ _ _ _ _ _,?_⟩;have hmx:(if Sp.depthOf L b>Sp.depthOf L a then Sp.depthOf L b else Sp.depthOf L a)=max (Sp.depthOf L a) (Sp.depthOf L b):=by
   split <;> omega
  generalize hz:(if Sp.depthOf L b>Sp.depthOf L a then Sp.depthOf L b else Sp.depthOf L a)=z at *;have hz64:0≤z∧z≤64:=by rw [hmx];omega
  have e1:IntKind.i64.wrap (IntKind.i64.wrap (1+Sp.sizeOf L a)+Sp.sizeOf L b)=1+(Sp.sizeOf L a+Sp.sizeOf L b):=by
   rw [i64 (n:=1+Sp.sizeOf L a) (by omega) (by omega),i64 (by omega) (by omega)];omega
  have e2:IntKind.i64.wrap (1+z)=z+1:=by rw [i64 (by omega) (by omega)];omega
  rw [e1,e2];rw [← hmx] at hchk;rintro y1 rfl;have hsx:Hst w0 H w.drew.drew H w.drew.drew:=(hs.drew.here.drew).here;refine ⟨fun h=>?_,fun h=>?_⟩
  ·intro H2 w10 hs10;refine bad 52 w10 (by omega) (Ed2.hst hs10) ?_;rw [hchk,if_pos (by simpa using h)]
  ·intro H2 w10 hs10;have hck:Sp.check L n=(1+(Sp.sizeOf L a+Sp.sizeOf L b),z+1,0):=by rw [hchk,if_neg (by simp at h;omega)]
   have E10:=Ed2.hst hs10;rw [← hnk];refine (gF p n w10 (hP.pure E10) hok).mono ?_;rintro _ w11 ⟨r,ok,rfl,hfd,E11⟩;refine ⟨_,_,rfl,E11.keptP,?_⟩;have E11':=E10.trans E11;have hs11:Hst w0 H2 w11 H2 w11:=hs10.again E11.keptP;cases hf:Sp.find L n with
   | some i =>
    rw [hf] at hfd
    obtain ⟨rfl,rfl⟩:=hfd
    exact Br.t rfl (oQ _ _ _ E11' (by unfold Sp.make;simp [hck,hf]))
   | none =>
    rw [hf] at hfd
    obtain ⟨rfl,rfl⟩:=hfd
    refine Br.f rfl ?_
    obtain ⟨s1,s2,s3,hS,hF⟩:=hP.pure E11'
    have hlen:s1.len=L.length:=by rw [hS.r1.len];simp
    refine ⟨p,rfl,s1,hS.box.cell0,fun h=>?_,fun h=>?_⟩
    ·have h2:65536≤L.length:=by have h:=of_decide_eq_true h;omega
     exact oQ _ _ _ E11' (by unfold Sp.make;simp [hck,hf,h2])
    ·have h2:¬ 65536≤L.length:=by have h:=of_decide_eq_false h;omega
     have hmk:Sp.make L n=((L.length:Int)+1,0,L++[⟨n,1+(Sp.sizeOf L a+Sp.sizeOf L b),z+1⟩]):=by unfold Sp.make;simp [hck,hf,h2]
     have hvis:∀b,F b→¬ H2 b:=fun b hb h2=>by have:=hP.lt hb;have:=hs11.old b h2;omega
     have hpF:F p.block:=(hF _).2 (.inl rfl)
     refine ⟨fun w'=>w'.cell? p=some s1.v,hS.box.cell0,?_⟩
     rintro _ rfl
     have E12:Pure w11 w11.drew:=Ext.drew w11
     refine ⟨p,rfl,s1,fun w' h'=>h',?_⟩
     intro p3 w13 h13
     have E13:Pure w11 w13:=E12.trans (Ext.new h13)
     have B13:=hS.box.pure E13
     refine ⟨B13.cell0,?_⟩
     obtain ⟨t1,w14,hr14,R14,B14,np1,X14,nb1⟩:=gM (P:=prog) (ty:=42) tP B13 (hS.r1.pure E13) hS.n1 (a:=p3) (r:=qM n) (by rw [← hn];exact (Box.of_new h13).row) rfl rfl (by simp;omega) (by simp [maxLen];omega)
     refine ⟨t1,w14,hr14,B14.cell0,X14.kept (fun b hb h=>hvis b ((hF b).2 (.inr (.inl h))) hb),p,rfl,B14.canW0 (by simp),hvis _ hpF,?_⟩
     rintro w15 hw15
     have B15:Box w15 p [t1.v,s2.v,s3.v] 45:=by rw [hw15];exact B14.set0
     have X15:Ext (·=p.block) w14 w15:=by rw [hw15];exact Ext.setCell p _
     clear hw15
     have R15:=R14.ext X15 (fun b hb e=>np1 (e▸hb))
     have R2:=((hS.r2.pure E13).ext X14 (fun b h2 h1=>hS.d12 b h1 h2)).ext X15 (fun b hb e=>hS.n2 (e▸hb))
     have R3:=((hS.r3.pure E13).ext X14 (fun b h2 h1=>hS.d13 b h1 h2)).ext X15 (fun b hb e=>hS.n3 (e▸hb))
     have d12':∀b,t1.blk b→¬ s2.blk b:=fun b hb h2=>(nb1 b hb).elim (fun h=>hS.d12 b h h2) (fun h=>by have:=hS.r2.lt h2;have:=E13.size;omega)
     have d13':∀b,t1.blk b→¬ s3.blk b:=fun b hb h2=>(nb1 b hb).elim (fun h=>hS.d13 b h h2) (fun h=>by have:=hS.r3.lt h2;have:=E13.size;omega)
     refine ⟨p,rfl,s2,B15.cell rfl,?_⟩
     intro p4 w16 h16
     have E16:Pure w15 w16:=Ext.new h16
     have B16:=B15.pure E16
     obtain ⟨t2,w17,hr17,R17,B17,np2,X17,nb2⟩:=gM (P:=prog) (ty:=43) xV B16 (R2.pure E16) hS.n2 (a:=p4) (r:=[.int .i64 (1+(Sp.sizeOf L a+Sp.sizeOf L b))]) (Box.of_new h16).row rfl rfl (by simp;omega) (by simp [maxLen];omega)
     refine ⟨t2,w17,hr17,X17.kept (fun b hb h=>hvis b ((hF b).2 (.inr (.inr (.inl h)))) hb),p,rfl,B17.canW (by simp),by rw [jR];exact hvis _ hpF,?_⟩
     rintro w18 hw18
     have B18:Box w18 p [t1.v,t2.v,s3.v] 45:=by rw [hw18];exact B17.set 1 _
     have X18:Ext (·=p.block) w17 w18:=by rw [hw18];have:=Ext.setCell (w:=w17) (p.add 1) t2.v;rw [jR] at this;exact this
     clear hw18
     have Q1:=((R15.pure E16).ext X17 (fun b h1 h2=>d12' b h1 h2)).ext X18 (fun b hb e=>np1 (e▸hb))
     have Q2:=R17.ext X18 (fun b hb e=>np2 (e▸hb))
     have Q3:=((R3.pure E16).ext X17 (fun b h3 h2=>hS.d23 b h2 h3)).ext X18 (fun b hb e=>hS.n3 (e▸hb))
     have d12'':∀b,t1.blk b→¬ t2.blk b:=fun b hb h2=>(nb2 b h2).elim (fun h=>d12' b hb h) (fun h=>by have:=(R15.pure E16).lt hb;omega)
     have d23':∀b,t2.blk b→¬ s3.blk b:=fun b hb h2=>(nb2 b hb).elim (fun h=>hS.d23 b h h2) (fun h=>by have:=(R3.pure E16).lt h2;omega)
     refine ⟨p,rfl,s3,B18.cell rfl,?_⟩
     intro p5 w19 h19
     have E19:Pure w18 w19:=Ext.new h19
     have B19:=B18.pure E19
     obtain ⟨t3,w20,hr20,R20,B20,np3,X20,nb3⟩:=gM (P:=prog) (ty:=43) xV B19 (Q3.pure E19) hS.n3 (a:=p5) (r:=[.int .i64 (z+1)]) (Box.of_new h19).row rfl rfl (by simp;omega) (by simp [maxLen];omega)
     refine ⟨t3,w20,hr20,X20.kept (fun b hb h=>hvis b ((hF b).2 (.inr (.inr (.inr h)))) hb),p,rfl,B20.canW (by simp),by rw [jR];exact hvis _ hpF,?_⟩
     rintro w21 hw21
     have B21:Box w21 p [t1.v,t2.v,t3.v] 45:=by rw [hw21];exact B20.set 2 _
     have X21:Ext (·=p.block) w20 w21:=by rw [hw21];have:=Ext.setCell (w:=w20) (p.add 2) t3.v;rw [jR] at this;exact this
     clear hw21
     have d13'':∀b,t1.blk b→¬ t3.blk b:=fun b hb h2=>(nb3 b h2).elim (fun h=>d13' b hb h) (fun h=>by have:=(Q1.pure E19).lt hb;omega)
     have d23'':∀b,t2.blk b→¬ t3.blk b:=fun b hb h2=>(nb3 b h2).elim (fun h=>d23' b hb h) (fun h=>by have:=(Q2.pure E19).lt hb;omega)
     have Z1:=((Q1.pure E19).ext X20 (fun b h1 h2=>d13' b h1 h2)).ext X21 (fun b hb e=>np1 (e▸hb))
     have Z2:=((Q2.pure E19).ext X20 (fun b h1 h2=>d23' b h1 h2)).ext X21 (fun b hb e=>np2 (e▸hb))
     have Z3:=R20.ext X21 (fun b hb e=>np3 (e▸hb))
     have hl1:(t1.len:Int)=L.length+1:=by rw [R14.len];simp
     refine ⟨p,rfl,t1,B21.cell0,?_⟩
     rw [hl1]
     refine hK _ _ _ ⟨by rw [hmk],fun b=>b=p.block∨t1.blk b∨t2.blk b∨t3.blk b,?_,?_,?_⟩
     ·rw [hmk]
      exact ⟨t1,t2,t3,⟨B21,by simpa [jDM] using Z1,by simpa [jEV] using Z2,by simpa [jBW] using Z3,np1,np2,np3,d12'',d13'',d23''⟩,fun _=>Iff.rfl⟩
     ·have a1:Ext F w0 w14:=(E11'.trans E13).pure.trans' X14 (fun i _ h=>(hF i).2 (.inr (.inl h)))
      have a2:Ext F w0 w15:=a1.trans' X15 (fun i _ h=>(hF i).2 (.inl h))
      have a3:Ext F w0 w17:=(a2.thenPure E16).trans' X17 (fun i _ h=>(hF i).2 (.inr (.inr (.inl h))))
      have a4:Ext F w0 w18:=a3.trans' X18 (fun i _ h=>(hF i).2 (.inl h))
      have a5:Ext F w0 w20:=(a4.thenPure E19).trans' X20 (fun i _ h=>(hF i).2 (.inr (.inr (.inr h))))
      exact a5.trans' X21 (fun i _ h=>(hF i).2 (.inl h))
     ·have z13:w0.heap.size≤w13.heap.size:=(E11'.trans E13).size
      have z16:w0.heap.size≤w16.heap.size:=by have:=X14.size;have:=X15.size;have:=E16.size;omega
      have z19:w0.heap.size≤w19.heap.size:=by have:=X17.size;have:=X18.size;have:=E19.size;omega
      rintro b (rfl | hb | hb | hb)
      ·exact .inl hpF
      ·exact (nb1 b hb).imp (fun h=>(hF b).2 (.inr (.inl h))) (fun h=>by omega)
      ·exact (nb2 b hb).imp (fun h=>(hF b).2 (.inr (.inr (.inl h)))) (fun h=>by omega)
      ·exact (nb3 b hb).imp (fun h=>(hF b).2 (.inr (.inr (.inr h)))) (fun h=>by omega)
 have J2:∀(x2:Bool) (H:NP) (w:World),Hst w0 H w H w→Pure w0 w→x2=(decide (1≤(Sp.shapeOf k).kids) && !Sp.inP L a)→m_L_j2 (some p) k f t u x a b x2 w0 H w K:=by
  intro x2 H w hs E hx;unfold m_L_j2;rw [hkd];refine ⟨fun h=>J1 true H w hs E (by rw [← hx,h];rfl),fun h=>⟨fun h2=>?_,fun h2=>J1 false H w hs E ?_⟩⟩
  ·refine (kU p b w (hP.pure E)).mono ?_;rintro _ _ ⟨_,rfl,rfl,rfl⟩;refine ⟨_,rfl,Kept.refl _,J1 _ H _ hs E ?_⟩;have h2:(Sp.shapeOf k).kids=2:=by simpa using h2
   rw [← hx,h];simp [h2]
  ·have h2:(Sp.shapeOf k).kids≠2:=by simpa using h2
   rw [← hx,h];simp [h2]
 refine ⟨fun h=>?_,fun h=>?_⟩
 ·intro H1 w3 hs3
  refine (kU p a w3 (hP.pure hs3.first)).mono ?_
  rintro _ _ ⟨_,rfl,rfl,rfl⟩
  refine ⟨_,rfl,Kept.refl _,J2 _ H1 _ hs3.here hs3.first ?_⟩
  have:1≤(Sp.shapeOf k).kids:=by have:=of_decide_eq_true h;omega
  simp [this]
 ·intro H1 w3 hs3
  refine J2 _ H1 _ hs3.here hs3.first ?_
  have:¬ 1≤(Sp.shapeOf k).kids:=by have:=of_decide_eq_false h;omega
  simp [this]
def qK (t:Sp.Tree) (s:Sl):List Value:=[.int .i64 t.node.kind,.int .i64 t.node.frm,.int .i64 t.node.to,.int .u64 t.node.num,.string t.node.text,s.v]
inductive TreeAt (S:NP) (w:World):Sl→Sp.Tree→Prop
 | mk (k f t u : Int) (x : ByteArray) (ks : List Sp.Tree) (s : Sl) (rs : Nat → Sl) (len : s.len = ks.length) (fit : ks.length ≤ 9223372036854775807)
   (row:∀i (h:i<ks.length),∃a,At s i 6 a∧S a.block∧Row w a (qK ks[i] (rs i))) (kid:∀i (h:i<ks.length),TreeAt S w (rs i) ks[i]):TreeAt S w s (.mk k f t u x ks)
theorem TreeAt.ext {S F:NP} {w w':World} {s:Sl} {t:Sp.Tree} (h:TreeAt S w s t) (hE:Ext F w w') (hd:∀b,S b→¬ F b):TreeAt S w' s t:=by
 induction h with
 | mk k f t u x ks s rs len fit row kid ih =>
  exact .mk k f t u x ks s rs len fit (fun i h=>let ⟨a,h1,h2,h3⟩:=row i h;⟨a,h1,h2,hE.row h3 (hd _ h2)⟩) ih
theorem TreeAt.pure {S:NP} {w w':World} {s:Sl} {t:Sp.Tree} (h:TreeAt S w s t) (hE:Pure w w'):TreeAt S w' s t:=h.ext hE (fun _ _ h=>h)
theorem TreeAt.mono {S S':NP} {w:World} {s:Sl} {t:Sp.Tree} (h:TreeAt S w s t) (hd:∀b,S b→S' b):TreeAt S' w s t:=by
 induction h with
 | mk k f t u x ks s rs len fit row kid ih =>
  exact .mk k f t u x ks s rs len fit (fun i h=>let ⟨a,h1,h2,h3⟩:=row i h;⟨a,h1,hd _ h2,h3⟩) ih
theorem TreeAt.lt {S:NP} {w:World} {s:Sl} {t:Sp.Tree} (h:TreeAt S w s t):TreeAt (fun b=>S b∧b<w.heap.size) w s t:=by
 induction h with
 | mk k f t u x ks s rs len fit row kid ih =>
  refine .mk k f t u x ks s rs len fit (fun i h=>let ⟨a,h1,h2,h3⟩:=row i h;⟨a,h1,⟨h2,?_⟩,h3⟩) ih
  have:=h3 0 (by simp [qK])
  unfold World.cell? at this
  refine Classical.byContradiction fun hge=>?_
  have:w.heap[(a.add 0).block]?=none:=by rw [jR];exact Array.getElem?_eq_none (by omega)
  simp_all [qK]
theorem jAB (k f t u:Int) (x:ByteArray) (s:Sl) (w:World) :
  Calls prog 103 #[.agg #[.int .i64 k,.int .i64 f,.int .i64 t,.int .u64 u,.string x,s.v]] w
   (fun e w'=>∃k':Int,∃f':Int,∃t':Int,∃u':Int,∃x':ByteArray,∃a:Int,∃b:Int,e=.returned (.agg #[.int .i64 k',.int .i64 f',.int .i64 t',.int .u64 u',.string x',.int .i64 a,.int .i64 b])∧((⟨k',f',t',u',x',a,b⟩:Sp.Node)=⟨k,f,t,u,x,0,0⟩∧Pure w w')):=by
 refine w_L2 _ _ _ _ _ _ w (fun k' f' t' u' x' a b w'=>(⟨k',f',t',u',x',a,b⟩:Sp.Node)=⟨k,f,t,u,x,0,0⟩∧Pure w w') ?_
 unfold m_L2
 intro p1 w1 h1 p2 w2 h2
 have E1:Pure w w1:=Ext.new h1
 have b1:=(Box.of_new h1).pure (Ext.new h2)
 refine ⟨_,b1.cell0,_,b1.cell rfl,_,b1.cell rfl,_,b1.cell rfl,_,b1.cell rfl,?_⟩
 exact bx 7 (Box.of_new h2) rfl rfl (fun w' b E=>⟨_,_,_,_,_,_,_,b.row,rfl,(E1.trans (Ext.new h2)).own (New.own E1 h2) E⟩)
theorem xC (t:Sp.Tree):∀i n:Int,0≤n→0≤(Sp.zZ i n t).2:=by
 induction t using Sp.Tree.ind with
 | h k f t u x ks ih =>
  have:∀(ks:List Sp.Tree),(∀i (hi:i<ks.length),∀j n:Int,0≤n→0≤(Sp.zZ j n ks[i]).2)→∀i e n:Int,0≤n→0≤(Sp.zK i e n ks).2:=by
   intro ks;induction ks with
   | nil=>intro _ i e n h;simpa [Sp.zK] using h
   | cons t ts iht =>
    intro hh i e n h
    unfold Sp.zK
    split
    ·exact iht (fun i hi=>hh (i+1) (by simpa using hi)) _ _ _ (hh 0 (by simp) i n h)
    ·exact h
  intro i n h
  unfold Sp.zZ
  split
  ·exact h
  ·split
   ·exact h
   ·exact this ks ih _ _ _ (by omega)
theorem qW {ks:List Sp.Tree} {j:Nat} (hj:j<ks.length) (i n:Int):Sp.zK i 0 n (ks.drop j)=Sp.zK i (Sp.zZ i n ks[j]).1 (Sp.zZ i n ks[j]).2 (ks.drop (j+1)):=by
 rw [List.drop_eq_getElem_cons hj,Sp.zK,if_pos rfl]
theorem yS {ks:List Sp.Tree} {e:Int} (h:e≠0) (i n:Int):Sp.zK i e n ks=(e,n):=by
 cases ks <;> simp [Sp.zK,h]
theorem jFD {S:NP} (q:Addr) (hq:¬ S q.block) (T:TypeId) (t:Sp.Tree):∀(s:Sl) (inside seen:Int) (w:World),0≤inside→0≤seen→TreeAt S w s t→Box w q [.int .i64 seen] T →
  Calls prog 68 #[.agg (qK t s).toArray,.int .i64 inside,.pointer (some q)] w
   (fun e w'=>∃r:Int,e=.returned (.int .i64 r)∧(r=(Sp.zZ inside seen t).1∧Box w' q [.int .i64 (Sp.zZ inside seen t).2] T∧Ext (·=q.block) w w')):=by
 induction t using Sp.Tree.ind with
 | h k f t u x ks ih =>
 intro s inside seen w hi0 hn0 hT hB
 suffices key:∀K:Int→WP,(∀r w',(r=(Sp.zZ inside seen (.mk k f t u x ks)).1∧Box w' q [.int .i64 (Sp.zZ inside seen (.mk k f t u x ks)).2] T∧Ext (·=q.block) w w')→K r w')→m_I k f t u x s inside (some q) w K from
  w_I _ _ _ _ _ _ _ _ w _ (key _ (fun _ _ h=>h))
 intro K hK
 unfold m_I
 intro p1 w1 h1
 have b1:=Box.of_new h1
 have E1:Pure w w1:=Ext.new h1
 have n1:q.block≠p1.block:=New.ne h1 hB.blk
 have hB1:=hB.pure E1
 have hT1:=hT.pure E1
 refine ⟨q,rfl,seen,hB1.cell0,fun h=>?_,fun h=>⟨fun h'=>?_,fun h'=>?_⟩⟩
 ·have h:=of_decide_eq_true h
  have:Sp.zZ inside seen (.mk k f t u x ks)=(52,seen):=by rw [Sp.zZ,if_pos (by omega)]
  rw [this] at hK;exact hK _ _ ⟨rfl,hB1,E1.pure⟩
 ·have h:=of_decide_eq_false h;have h':=of_decide_eq_true h'
  have:Sp.zZ inside seen (.mk k f t u x ks)=(52,seen):=by rw [Sp.zZ,if_neg (by omega),if_pos (by omega)]
  rw [this] at hK;exact hK _ _ ⟨rfl,hB1,E1.pure⟩
 have h:=of_decide_eq_false h;have h':=of_decide_eq_false h'
 have hsp:Sp.zZ inside seen (.mk k f t u x ks)=Sp.zK (inside+1) (Sp.vE ⟨k,f,t,u,x,0,0⟩ ks.length) (seen+1) ks:=by rw [Sp.zZ,if_neg (by omega),if_neg (by omega)]
 rw [hsp] at hK
 unfold m_I_j1
 refine ⟨q,rfl,seen,hB1.cell0,q,rfl,hB1.canW0 (by simp),?_⟩
 rw [i64 (n:=seen+1) (by omega) (by omega)]
 intro w2 hw2
 have hB2:Box w2 q [.int .i64 (seen+1)] T:=by rw [hw2];exact hB1.set0
 have E12:Ext (·=q.block) w1 w2:=by rw [hw2];exact Ext.setCell q _
 clear hw2
 have b2:=b1.ext E12 (fun e=>n1 e.symm)
 have hT2:=hT1.ext E12 (fun b hb e=>hq (e▸hb))
 have E2:Ext (·=q.block) w w2:=E1.pure.trans E12
 refine ⟨_,_,_,_,_,_,b2.row,?_⟩
 refine (jAB _ _ _ _ _ _ w2).mono ?_
 rintro _ w3 ⟨k',f',t',u',x',a',b',rfl,hn,E23⟩
 cases hn
 refine ⟨_,_,_,_,_,_,_,rfl,?_⟩
 intro p2 w4 h4
 have n2:p1.block≠p2.block:=New.ne h4 (b2.pure E23).blk
 have E24:Pure w2 w4:=E23.trans (Ext.new h4)
 have o2:=New.own E23 h4
 refine bx 7 (Box.of_new h4) rfl rfl (fun w5 c2 E45=>?_)
 have E25:Pure w2 w5:=E24.own o2 E45
 refine ⟨_,_,_,_,_,_,_,c2.row,?_⟩
 refine (jCS _ _ _ _ _ _ _ w5).mono ?_
 rintro _ w6 ⟨s1,s2,s3,s4,s5,pe,rfl,⟨hs,hpe⟩,E56⟩
 refine ⟨_,_,_,_,_,_,rfl,?_⟩
 intro p3 w7 h7
 have n3:p2.block≠p3.block:=New.ne h7 (c2.pure E56).blk
 have E27:Pure w2 w7:=(E25.trans E56).trans (Ext.new h7)
 have o3:=New.own (E25.trans E56) h7
 refine bx 5 (Box.of_new h7) rfl rfl (fun w8 c3 E78=>?_)
 have E28:Pure w2 w8:=E27.own o3 E78
 have d2:=((c2.pure E56).pure (Ext.new h7)).ext E78 n3
 have d1:=b2.pure E28
 have hB8:=hB2.pure E28
 have hT8:=hT2.pure E28
 have E8:Ext (·=q.block) w w8:=E2.thenPure E28
 clear E78 E27 E56 E25 E45 E24 E23 E12 c2 b2 b1 hT2 hT1 hB1 h1 h4 h7
 have hlen:s.len=ks.length:=by cases hT;assumption
 have hfit:ks.length≤9223372036854775807:=by cases hT;assumption
 have hsh:Sp.shapeOf k=⟨s1,s2,s3,s4,s5⟩:=hs.symm
 have J3:∀e w',Pure w8 w'→e=Sp.vE ⟨k,f,t,u,x,0,0⟩ ks.length→m_I_j3 inside (some q) p1 e w' K:=by
  intro e w' E hown;rw [← hown] at hK;unfold m_I_j3;refine ⟨fun e i w'=>∃j:Nat,i=j∧j≤ks.length∧∃n:Int,0≤n∧Ext (·=q.block) w8 w'∧Box w' q [.int .i64 n] T∧Sp.zK (inside+1) e n (ks.drop j)=Sp.zK (inside+1) (Sp.vE ⟨k,f,t,u,x,0,0⟩ ks.length) (seen+1) ks,fun _ i _=>((ks.length:Int) - i).toNat,⟨0,rfl,Nat.zero_le _,seen+1,by omega,E.pure,hB8.pure E,by rw [hown];rfl⟩,?_⟩;rintro e1 _ wl ⟨j,rfl,hj,n,hn,El,hBl,heq⟩;unfold m_I_l4;have dl:=d1.ext El (fun e=>n1 e.symm);have hTl:=hT8.ext El (fun b hb e=>hq (e▸hb));rw [← hown] at heq;have fin:∀n',Sp.zK (inside+1) e ((seen:Int)+1) ks=(e1,n')→n'=n→K e1 wl:=by
   rintro n' h rfl;refine hK _ _ ⟨by rw [h],by rw [h];exact hBl,E8.trans El⟩
  refine ⟨s,dl.cell rfl,fun hlt=>⟨fun he=>?_,fun he=>?_⟩,fun hlt=>?_⟩
  ·have hlt:j<ks.length:=by have h:=of_decide_eq_true hlt;omega
   have he:e1=0:=by simpa using he
   subst he;cases hTl with
   | mk _ _ _ _ _ _ _ rs len fit row kid =>
   obtain ⟨a,hat,ha,hr⟩:=row j hlt;refine ⟨s,dl.cell rfl,a,hat,_,_,_,_,_,rs j,hr,?_⟩;rw [i64 (n:=inside+1) (by omega) (by omega)];refine (ih j hlt (rs j) (inside+1) n wl (by omega) hn (kid j hlt) hBl).mono ?_;rintro _ w9 ⟨r,rfl,rfl,hB9,E9⟩;rw [qW hlt] at heq;refine ⟨_,rfl,⟨j+1,?_,hlt,_,xC _ _ _ hn,El.trans E9,hB9,by rw [← hown];exact heq⟩,?_⟩
   ·rw [i64 (by omega) (by omega)];omega
   ·show ((ks.length:Int) - IntKind.i64.wrap ((j:Int)+1)).toNat<((ks.length:Int) - (j:Int)).toNat;rw [i64 (by omega) (by omega)];omega
  ·have he:e1≠0:=by simpa using he
   rw [yS he] at heq;exact fin _ heq.symm rfl
  ·have hge:j=ks.length:=by have h:=of_decide_eq_false hlt;omega
   rw [hge,List.drop_length,Sp.zK] at heq;exact fin _ heq.symm rfl
 have J2:∀e1,e1=(if pe=0 then if (ks.length:Int)≠s5 then 53 else 0 else pe)→m_I_j2 inside (some q) p1 p2 p3 e1 w8 K:=by
  intro e1 he1;have hown:Sp.vE ⟨k,f,t,u,x,0,0⟩ ks.length=if e1=0 then Sp.jU ⟨s1,s2,s3,s4,s5⟩ ⟨k,f,t,u,x,0,0⟩ else e1:=by
   unfold Sp.vE;simp only [hsh,← hpe,he1]
  unfold m_I_j2;refine ⟨fun h=>⟨_,_,_,_,_,c3.row,_,_,_,_,_,_,_,d2.row,?_⟩,fun h=>J3 _ _ (Ext.refl _) ?_⟩
  ·have h:e1=0:=by simpa using h
   refine (jAD _ _ _ _ _ _ _ _ _ _ _ _ _).mono ?_;rintro _ w9 ⟨_,rfl,rfl,E9⟩;exact ⟨_,rfl,J3 _ _ E9 (by rw [hown,if_pos h])⟩
  ·have h:e1≠0:=by simpa using h
   rw [hown,if_neg h]
 refine ⟨fun h=>⟨s,d1.cell rfl,s5,c3.cell rfl,fun h5=>J2 _ ?_,fun h5=>J2 _ ?_⟩,fun h=>J2 _ ?_⟩
 ·have h:pe=0:=by simpa using h
  have h5:(s.len:Int)≠s5:=by simpa using h5
  rw [if_pos h,if_pos (by omega)]
 ·have h:pe=0:=by simpa using h
  have h5:(s.len:Int)=s5:=by simpa using h5
  rw [if_pos h,if_neg (by omega),h]
 ·have h:pe≠0:=by simpa using h
  rw [if_neg h]
theorem c_New (w:World):Calls prog 27 #[] w (fun e w'=>∃r:Option Addr,e=.returned (.pointer r)∧∃p,r=some p∧Pure w w'∧∃F,jN w' p [] F∧∀b,F b→w.heap.size≤b):=by
 refine w_C2 w (fun r w'=>∃p,r=some p∧Pure w w'∧∃F,jN w' p [] F∧∀b,F b→w.heap.size≤b) ?_;unfold m_C2;intro p1 w1 h1 p2 w2 h2;have E1:Pure w w1:=Ext.new h1;have m2:CMap w2 p1.block []:=(CMap.of_new h1).ext (Ext.new h2:Pure w1 w2) id;have n12:p1.block≠p2.block:=New.ne h2 h1.block_new;refine ⟨p2,rfl,E1.trans (Ext.new h2),fun b=>b=p2.block∨Sl.nil.blk b∨b=p1.block,⟨Sl.nil,p1.block,⟨Box.of_new h2,by simpa using Rws.nil _ _ _,by simpa [vM] using m2,n12,?_,?_⟩,fun _=>Iff.rfl⟩,?_⟩
 ·rintro ⟨a,h,_⟩;cases h
 ·rintro ⟨a,h,_⟩;cases h
 ·rintro b (rfl | ⟨a,h,_⟩ | rfl)
  ·exact New.own E1 h2
  ·cases h
  ·exact New.own (Ext.refl w) h1
theorem jBX (L:Sp.Pool) (n:Nat):vM (L.take n)=(vM L).take n:=by
 apply List.ext_getElem?;intro i;simp only [vM,List.getElem?_map,List.getElem?_zipIdx,List.getElem?_take];split <;> simp
theorem jDP (L:Sp.Pool):(vM L).map (·.1)=(L.map (·.node)).map uE:=by
 apply List.ext_getElem?;intro i;simp only [vM,List.getElem?_map,List.getElem?_zipIdx];cases L[i]? <;> simp
theorem c_cut (p:Addr) (n:Nat) (w:World) {L:Sp.Pool} {F:NP} (hP:jN w p L F) (hok:Sp.Ok L) (hn:n≤L.length) :
  Calls prog 70 #[.pointer (some p),.int .i64 n] w (fun e w'=>e=.returned (.tuple #[])∧jN w' p (L.take n) F∧Ext F w w'):=by
 suffices key:∀K:WP,(∀w',jN w' p (L.take n) F∧Ext F w w'→K w')→m_X (some p) n w K from
  w_X _ _ w _ (key _ (fun _ h=>h))
 intro K hK
 unfold m_X
 obtain ⟨s,m,hS,hF⟩:=hP
 have hfew:=hok.few
 have hcap:s.len≤s.cap:=by
  have:=hS.rows.len;rcases hS.rows.own with ⟨rfl,_⟩ | ⟨g,cur,_,_,hc,_⟩
  ·simp [Sl.nil]
  ·omega
 obtain ⟨s1,hr1,hl1⟩:=hS.rows.lst.lo (P:=prog) uS hcap (k:=.i64) (n:=n) (by omega) (by simpa using hn)
 have hlen1:s1.len=L.length - n:=by rw [hl1.len];simp
 refine ⟨p,rfl,s,hS.box.cell0,s1,hr1,?_⟩
 refine ⟨fun x w'=>∃j:Nat,x=j∧j≤L.length - n∧Ext (·=m) w w'∧CMap w' m ((vM L).take n++(vM L).drop (n+j)),fun x _=>((L.length:Int) - x).toNat,⟨0,rfl,Nat.zero_le _,Ext.refl w,by simpa using hS.map⟩,?_⟩
 rintro _ wl ⟨j,rfl,hj,El,hml⟩
 have hboxl:=hS.box.ext El hS.n1.symm
 have hrowsl:=hS.rows.ext El (fun b hb e=>hS.n3 (e▸hb))
 unfold m_X_l1
 refine ⟨fun h=>?_,fun h=>?_⟩
 ·have hlt:n+j<L.length:=by have h:=of_decide_eq_true h;omega
  have hll:=hl1.ext El (fun b hb e=>hS.n3 (e▸hb))
  obtain ⟨a,hat,_,hrow⟩:=hll.at_ j (by simp;omega)
  generalize he:L[n+j]=e at *
  have hrow':Row wl a (jBB e):=by
   have:((L.map jBB).drop ((n:Int).toNat))[j]'(by simp;omega)=jBB e:=by simp [he]
   rw [this] at hrow;exact hrow
  obtain ⟨nd,sz,dp⟩:=e
  obtain ⟨k,f,t,u,x,a1,b1⟩:=nd
  refine ⟨a,hat,_,_,_,_,_,_,_,_,_,hrow',?_⟩
  intro p2 w1 h1
  have E1:Pure wl w1:=Ext.new h1
  have o1:=New.own (Ext.refl wl) h1
  refine bx 9 (Box.of_new h1) rfl rfl (fun w2 b2 E=>?_)
  have E2:Pure wl w2:=E1.own o1 E
  refine ⟨fun w'=>w'.cell? (p.add 1)=some (.map (some m))∧Row w' p2 (qM ⟨k,f,t,u,x,a1,b1⟩),⟨(hboxl.pure (E2.thenPure (Ext.drew w2))).cell (i:=1) rfl,?_⟩,?_⟩
  ·have : Row w2 p2 (qM ⟨k, f, t, u, x, a1, b1⟩) := fun i hi => by
    have:=b2.row i (by simp [qM] at hi ⊢;omega);rw [this];have h7:i<7:=by simpa [qM] using hi
    have:i=0∨i=1∨i=2∨i=3∨i=4∨i=5∨i=6:=by omega
    rcases this with rfl | rfl | rfl | rfl | rfl | rfl | rfl <;> rfl
   exact Ext.row (F:=None) (Ext.drew w2) this id
  intro w3 hw3
  have E3:Pure wl w3:=by rw [hw3];exact E2.thenPure (Ext.drew w2)
  clear hw3
  refine ⟨p,rfl,some m,fun w' h=>h.1,k,f,t,u,x,a1,b1,fun w' h=>h.2,?_⟩
  have hm3:=hml.ext E3 id
  have hpl:(vM L).length=L.length:=by simp [vM]
  have hget:(vM L)[n+j]?=some (uE ⟨k,f,t,u,x,a1,b1⟩,.int .i64 (n+j+1:Nat)):=by
   simp only [vM,List.getElem?_map,List.getElem?_zipIdx,List.getElem?_eq_getElem hlt,he];simp
  have hidx:((vM L).take n++(vM L).drop (n+j))[n]?=some (uE ⟨k,f,t,u,x,a1,b1⟩,.int .i64 (n+j+1:Nat)):=by
   have e0:n+j+(n - ((vM L).take n).length)=n+j:=by rw [List.length_take];omega
   rw [List.getElem?_append_right (by rw [List.length_take];omega),List.getElem?_drop,e0,hget]
  have hnd:((vM L).map (·.1)).Nodup:=by
   rw [jDP,List.nodup_iff_pairwise_ne,List.pairwise_map];exact hok.nodup.imp (fun h e=>h (xZ.1 e))
  have hsub:List.Sublist ((vM L).take n++(vM L).drop (n+j)) (vM L):=by
   conv=>rhs;rw [← List.take_append_drop n (vM L)]
   refine (List.Sublist.refl _).append ?_;have e0:(vM L).drop (n+j)=((vM L).drop n).drop j:=by rw [List.drop_drop]
   rw [e0];exact List.drop_sublist _ _
  have hnd2:(((vM L).take n++(vM L).drop (n+j)).map (·.1)).Nodup:=hnd.sublist (hsub.map _)
  obtain ⟨w4,hr4,hm4,E4⟩:=hm3.delete (P:=prog) (Q:=86) (z:=0) underlying92 qC (fun q hq=>qU q (hsub.subset hq)) ⟨_,rfl⟩ hidx (fun i u hi=>by
   obtain ⟨hi1,hi2⟩:=List.getElem?_eq_some_iff.1 hi;obtain ⟨hn1,hn2⟩:=List.getElem?_eq_some_iff.1 hidx;refine Classical.byContradiction fun hne=>?_;have hne:=List.pairwise_iff_getElem.1 hnd2;rcases Nat.lt_or_gt_of_ne ‹_› with hlt | hlt
   ·exact hne i n (by simpa using hi1) (by simpa using hn1) hlt (by rw [List.getElem_map,List.getElem_map,hi2,hn2])
   ·exact hne n i (by simpa using hn1) (by simpa using hi1) hlt (by rw [List.getElem_map,List.getElem_map,hi2,hn2]))
  refine ⟨w4,hr4,⟨j+1,?_,by omega,(El.trans E3.pure).trans E4,?_⟩,?_⟩
  ·rw [i64 (by omega) (by omega)];omega
  ·rw [List.eraseIdx_append_of_length_le (by rw [List.length_take];omega)] at hm4
   have:n - ((vM L).take n).length=0:=by rw [List.length_take];omega
   rw [this] at hm4
   have hd:((vM L).drop (n+j)).eraseIdx 0=(vM L).drop (n+(j+1)):=by
    rw [List.drop_eq_getElem_cons (by omega)];simp;rfl
   rw [hd] at hm4;exact hm4
  ·show ((L.length:Int) - IntKind.i64.wrap ((j:Int)+1)).toNat<((L.length:Int) - (j:Int)).toNat
   rw [i64 (by omega) (by omega)];omega
 ·have hge:n+j=L.length:=by have h:=of_decide_eq_false h;omega
  have hpl:(vM L).length=L.length:=by simp [vM]
  rw [hge,← hpl,List.drop_length,List.append_nil] at hml
  obtain ⟨s2,hr2,hrows2,hb2⟩:=hrowsl.hi (P:=prog) uS (k:=.i64) (n:=n) (by omega) (by simpa using hn)
  refine ⟨p,rfl,s,hboxl.cell0,s2,hr2,p,rfl,hboxl.canW0 (by simp),?_⟩
  rintro w5 hw5
  have hbox5:Box w5 p [s2.v,.map (some m)] 94:=by rw [hw5];exact hboxl.set0
  have E5:Ext (·=p.block) wl w5:=by rw [hw5];exact Ext.setCell p _
  clear hw5
  refine hK _ ⟨⟨s2,m,⟨hbox5,?_,?_,hS.n1,fun h=>hS.n2 ((hb2 _).1 h),fun h=>hS.n3 ((hb2 _).1 h)⟩,fun b=>by rw [hF b,hb2 b]⟩,?_⟩
  ·have:=hrows2.ext E5 (fun b hb e=>hS.n2 (by rw [← e];exact (hb2 _).1 hb))
   simpa using this
  ·rw [jBX];exact hml.ext E5 hS.n1
  ·exact (El.mono (fun i _ h=>(hF i).2 (.inr (.inr h)))).trans' E5 (fun i _ h=>(hF i).2 (.inl h))
theorem gA {n:Sp.Node} {i:Nat} {L:Sp.Pool} {t:Sp.Tree} {ts:List Sp.Tree} (h:(Sp.zW L t).2.1≠0):Sp.zG n i L (t :: ts)=(0,(Sp.zW L t).2.1,(Sp.zW L t).2.2):=by rw [Sp.zG,if_pos h]
theorem yV {n:Sp.Node} {i:Nat} {L:Sp.Pool} {t:Sp.Tree} {ts:List Sp.Tree} (h:(Sp.zW L t).2.1=0):Sp.zG n i L (t :: ts)=Sp.zG (if i=0 then { n with a:=(Sp.zW L t).1 } else { n with b:=(Sp.zW L t).1 }) (i+1) (Sp.zW L t).2.2 ts:=by rw [Sp.zG,if_neg (by simp [h])]
def Sp.Tree.two (t:Sp.Tree):Prop:=Sp.Tree.rec (motive_1:=fun _=>Prop) (motive_2:=fun _=>Prop) (fun _ _ _ _ _ ks h=>ks.length≤2∧h) True (fun _ _ h1 h2=>h1∧h2) t
def lM:List Sp.Tree→Prop
 | []=>True
 | t :: ts=>Sp.Tree.two t∧lM ts
theorem jBI {k f t u:Int} {x:ByteArray} {ks:List Sp.Tree}:Sp.Tree.two (.mk k f t u x ks)↔ks.length≤2∧lM ks:=by
 have:∀ks:List Sp.Tree,(Sp.Tree.rec_1 (motive_1:=fun _=>Prop) (motive_2:=fun _=>Prop) (fun _ _ _ _ _ ks h=>ks.length≤2∧h) True (fun _ _ h1 h2=>h1∧h2) ks:Prop)=lM ks:=by
  intro ks;induction ks with
  | nil=>rfl
  | cons t ts ih=>show (Sp.Tree.two t∧_)=(Sp.Tree.two t∧_);rw [ih]
 show (ks.length≤2∧_)↔_;rw [this]
theorem gT {ks:List Sp.Tree} (h:lM ks) {i:Nat} (hi:i<ks.length):Sp.Tree.two ks[i]:=by
 induction ks generalizing i with
 | nil=>simp at hi
 | cons t ts ih =>
  cases i with
  | zero=>exact h.1
  | succ i=>exact ih h.2 (by simpa using hi)
theorem c_grow {S:NP} (p:Addr) (t:Sp.Tree):∀(s:Sl) (w:World) (L:Sp.Pool) (F:NP),Sp.Tree.two t→TreeAt S w s t→jN w p L F→Sp.Ok L→(∀b,F b→¬ S b)→(∀b,S b→b<w.heap.size) →
  Calls prog 69 #[.pointer (some p),.agg (qK t s).toArray] w
   (fun e w'=>∃r1:Int,∃r2:Int,e=.returned (.tuple #[.int .i64 r1,.int .i64 r2])∧((r1,r2)=((Sp.zW L t).1,(Sp.zW L t).2.1)∧∃F',jN w' p (Sp.zW L t).2.2 F'∧Ext F w w'∧∀b,F' b→F b∨w.heap.size≤b)):=by
 induction t using Sp.Tree.ind with
 | h k f t u x ks ih =>
 intro s w L F h2 hT hP hok hFS hSw
 suffices key:∀K:Int→Int→WP,(∀r1 r2 w',((r1,r2)=((Sp.zW L (.mk k f t u x ks)).1,(Sp.zW L (.mk k f t u x ks)).2.1)∧∃F',jN w' p (Sp.zW L (.mk k f t u x ks)).2.2 F'∧Ext F w w'∧∀b,F' b→F b∨w.heap.size≤b)→K r1 r2 w')→m_W (some p) k f t u x s w K from
  w_W _ _ _ _ _ _ _ w _ (key _ (fun _ _ _ h=>h))
 intro K hK
 obtain ⟨hk2,hall⟩:=jBI.1 h2
 unfold m_W
 intro p2 w1 h1
 have b1:=Box.of_new h1
 have E1:Pure w w1:=Ext.new h1
 refine ⟨_,_,_,_,_,_,b1.row,?_⟩
 refine (jAB _ _ _ _ _ _ w1).mono ?_
 rintro _ w2 ⟨k',f',t',u',x',a',b',rfl,hn,E12⟩
 cases hn
 refine ⟨_,_,_,_,_,_,_,rfl,?_⟩
 intro p3 w3 h3
 have E3:Pure w w3:=(E1.trans E12).trans (Ext.new h3)
 have o3:=New.own (E1.trans E12) h3
 have n23:p2.block≠p3.block:=New.ne h3 (b1.pure E12).blk
 refine bx 7 (Box.of_new h3) rfl rfl (fun w4 b3 E34=>?_)
 have E4:Pure w w4:=E3.own o3 E34
 have b2:=((b1.pure E12).pure (Ext.new h3)).ext E34 n23
 intro p4 w5 h5
 have E5:Pure w w5:=E4.trans (Ext.new h5)
 have o4:=New.own E4 h5
 have n34:p3.block≠p4.block:=New.ne h5 b3.blk
 have c3:=b3.pure (Ext.new h5:Pure w4 w5)
 have c4:=Box.of_new h5
 have c2:=b2.pure (Ext.new h5:Pure w4 w5)
 refine ⟨s,c2.cell rfl,?_⟩
 have hsp:Sp.zW L (.mk k f t u x ks)=Sp.zG ⟨k,f,t,u,x,0,0⟩ 0 L ks:=by rw [Sp.zW]
 rw [hsp] at hK
 have hlen:s.len=ks.length:=by cases hT;assumption
 refine ⟨fun i w'=>∃j:Nat,i=j∧j≤ks.length∧∃(nd:Sp.Node) (L':Sp.Pool) (F':NP),Sp.zG ⟨k,f,t,u,x,0,0⟩ 0 L ks=Sp.zG nd j L' (ks.drop j)∧Sp.Ok L'∧jN w' p L' F'∧(∀b,F' b→F b∨w.heap.size≤b)∧¬ F' p3.block∧¬ F' p4.block∧Ext F w w'∧Box w' p3 (qM nd) 86∧Box w' p4 [.pointer (some (p3.add 5)),.pointer (some (p3.add 6))] 179,fun i _=>((ks.length:Int) - i).toNat,
  ⟨0,rfl,Nat.zero_le _,⟨k,f,t,u,x,0,0⟩,L,F,by simp,hok,hP.pure E5,fun b h=>.inl h,fun h=>by have:=hP.lt h;omega,fun h=>by have:=hP.lt h;omega,E5.pure,c3,c4⟩,?_⟩
 rintro _ wl ⟨j,rfl,hj,nd,L',F',heq,hok',hPl,hF',hn3,hn4,El,d3,d4⟩
 unfold m_W_l1
 refine ⟨fun h=>?_,fun h=>?_⟩
 ·have hlt:j<ks.length:=by have h:=of_decide_eq_true h;omega
  have hTl:TreeAt S wl s (.mk k f t u x ks):=hT.ext El (fun b hs hf=>hFS b hf hs)
  have hkid:∀i (h:i<ks.length),∃a r,At s i 6 a∧Row wl a (qK ks[i] r)∧TreeAt S wl r ks[i]:=by
   cases hTl with
   | mk _ _ _ _ _ _ _ rs len fit row kid=>exact fun i h=>let ⟨a,h1,_,h3⟩:=row i h;⟨a,rs i,h1,h3,kid i h⟩
  obtain ⟨a,r,hat,hrow,hTk⟩:=hkid j hlt
  refine ⟨a,hat,_,_,_,_,_,r,hrow,?_⟩
  intro p5 w6 h6
  have o5:=New.own (Ext.refl wl) h6
  refine bx 6 (Box.of_new h6) rfl rfl (fun w7 b5 E67=>?_)
  have E7:Pure wl w7:=Ext.own (Ext.new h6) o5 E67
  refine ⟨_,_,_,_,_,r,b5.row,?_⟩
  have hsz:w.heap.size≤wl.heap.size:=El.size
  refine (ih j hlt r w7 L' F' (gT hall hlt) (hTk.pure E7) (hPl.pure E7) hok' (fun b hb hs=>(hF' b hb).elim (fun h=>hFS b h hs) (fun h=>by have:=hSw b hs;omega)) (fun b hs=>by have:=hSw b hs;have:=E7.size;omega)).mono ?_
  rintro _ w8 ⟨r1,r2,rfl,hr,F8,hP8,E8,hF8⟩
  have e1:r1=(Sp.zW L' ks[j]).1:=congrArg Prod.fst hr
  have e2:r2=(Sp.zW L' ks[j]).2.1:=congrArg Prod.snd hr
  rw [List.drop_eq_getElem_cons hlt] at heq
  have hF8':∀b,F8 b→F b∨w.heap.size≤b:=fun b hb=>(hF8 b hb).elim (hF' b) (fun h=>by right;have:=E7.size;omega)
  have Ew8:Ext F w w8:=(El.thenPure E7).trans' E8 (fun i hi h=>(hF' i h).elim id (fun h=>by omega))
  refine ⟨_,_,rfl,fun h=>?_,fun h=>?_⟩
  ·have h:(Sp.zW L' ks[j]).2.1≠0:=by rw [← e2];simpa using h
   rw [gA h] at heq
   refine hK _ _ _ ?_
   rw [heq];exact ⟨by rw [e2],F8,hP8,Ew8,hF8'⟩
  ·have h:(Sp.zW L' ks[j]).2.1=0:=by rw [← e2];simpa using h
   rw [yV h] at heq
   have q3:=(d3.pure E7).ext E8 hn3
   have q4:=(d4.pure E7).ext E8 hn4
   have hs7:wl.heap.size≤w7.heap.size:=E7.size
   have n38:¬ F8 p3.block:=fun h=>(hF8 _ h).elim hn3 (fun h=>by have:=(d3.pure E7).lt;omega)
   have n48:¬ F8 p4.block:=fun h=>(hF8 _ h).elim hn4 (fun h=>by have:=(d4.pure E7).lt;omega)
   have hok8:=(Sp.qD ks[j] L' hok').1
   have fin : ∀ (w9 : World) (nd' : Sp.Node), nd' = (if j = 0 then { nd with a := (Sp.zW L' ks[j]).1 } else { nd with b := (Sp.zW L' ks[j]).1 }) → Box w9 p3 (qM nd') 86 → Ext (· = p3.block) w8 w9 →
     (∃j':Nat,IntKind.i64.wrap ((j:Int)+1)=j'∧j'≤ks.length∧∃(nd:Sp.Node) (L':Sp.Pool) (F':NP),Sp.zG ⟨k,f,t,u,x,0,0⟩ 0 L ks=Sp.zG nd j' L' (ks.drop j')∧Sp.Ok L'∧jN w9 p L' F'∧(∀b,F' b→F b∨w.heap.size≤b)∧¬ F' p3.block∧¬ F' p4.block∧Ext F w w9∧Box w9 p3 (qM nd) 86∧Box w9 p4 [.pointer (some (p3.add 5)),.pointer (some (p3.add 6))] 179)∧((ks.length:Int) - IntKind.i64.wrap ((j:Int)+1)).toNat<((ks.length:Int) - (j:Int)).toNat:=by
    intro w9 nd' hnd B9 E9
    rw [i64 (by omega) (by omega)]
    refine ⟨⟨j+1,by omega,hlt,nd',_,F8,by rw [heq,hnd],hok8,hP8.ext E9 (fun b hb e=>n38 (e▸hb)),hF8',n38,n48,Ew8.trans' E9 (fun i hi h=>by subst h;omega),B9,q4.ext E9 n34.symm⟩,by omega⟩
   have hj2:j=0∨j=1:=by omega
   rcases hj2 with rfl | rfl
   ·refine ⟨p4,⟨by omega,by simp,p4,rfl,rfl⟩,some (p3.add 5),q4.cell0,p3.add 5,rfl,q3.canW (by simp [qM]),?_⟩
    intro w9 hw9
    refine fin w9 _ rfl ?_ ?_
    ·rw [hw9,e1];exact q3.set 5 _
    ·rw [hw9];have:=Ext.setCell (w:=w8) (p3.add 5) (.int .i64 r1);rw [jR] at this;exact this
   ·refine ⟨p4.add 1,⟨by omega,by simp,p4,rfl,rfl⟩,some (p3.add 6),q4.cell rfl,p3.add 6,rfl,q3.canW (by simp [qM]),?_⟩
    intro w9 hw9
    refine fin w9 _ rfl ?_ ?_
    ·rw [hw9,e1];exact q3.set 6 _
    ·rw [hw9];have:=Ext.setCell (w:=w8) (p3.add 6) (.int .i64 r1);rw [jR] at this;exact this
 ·have hge:j=ks.length:=by have h:=of_decide_eq_false h;omega
  rw [hge,List.drop_length,Sp.zG] at heq
  obtain ⟨k0,f0,t0,u0,x0,a0,b0⟩:=nd
  refine ⟨_,_,_,_,_,_,_,d3.row,?_⟩
  refine (gI p k0 f0 t0 u0 x0 a0 b0 wl hPl hok').mono ?_
  rintro _ w9 ⟨r1,r2,rfl,hr,F9,hP9,E9,hF9⟩
  have hsz:w.heap.size≤wl.heap.size:=El.size
  refine ⟨_,_,rfl,hK _ _ _ ?_⟩
  rw [heq]
  exact ⟨hr,F9,hP9,El.trans' E9 (fun i hi h=>(hF' i h).elim id (fun h=>by omega)),fun b hb=>(hF9 b hb).elim (hF' b) (fun h=>by right;omega)⟩
theorem lW (t:Sp.Tree):∀i n:Int,(Sp.zZ i n t).1=0→Sp.Tree.two t:=by
 induction t using Sp.Tree.ind with
 | h k f t u x ks ih =>
  have hA:∀(ks:List Sp.Tree),(∀i (hi:i<ks.length),∀j n:Int,(Sp.zZ j n ks[i]).1=0→Sp.Tree.two ks[i])→∀i e n:Int,(Sp.zK i e n ks).1=0→e=0∧lM ks:=by
   intro ks;induction ks with
   | nil=>intro _ i e n h;exact ⟨by simpa [Sp.zK] using h,trivial⟩
   | cons t ts iht =>
    intro hh i e n h
    unfold Sp.zK at h
    split at h
    ·rename_i he
     have:=iht (fun i hi=>hh (i+1) (by simpa using hi)) _ _ _ h
     exact ⟨he,hh 0 (by simp) i n this.1,this.2⟩
    ·rename_i he;exact absurd h he
  intro i n h
  unfold Sp.zZ at h
  split at h
  ·cases h
  ·split at h
   ·cases h
   ·have:=hA ks ih _ _ _ h
    refine jBI.2 ⟨?_,this.2⟩
    have ho:=this.1
    unfold Sp.vE at ho
    simp only at ho
    have hk:=Sp.lB k
    by_cases hp:Sp.jX ⟨k,f,t,u,x,0,0⟩=0
    ·rw [if_pos hp] at ho
     by_cases hl:(ks.length:Int)≠(Sp.shapeOf k).kids
     ·rw [if_pos hl] at ho;simp at ho
     ·omega
    ·rw [if_neg hp,if_neg hp] at ho;exact absurd ho hp
theorem c_Of {S:NP} (p:Addr) (t:Sp.Tree) (s:Sl) (w:World) {L:Sp.Pool} {F:NP} (hT:TreeAt S w s t) (hP:jN w p L F) (hok:Sp.Ok L) (hFS:∀b,F b→¬ S b) (hSw:∀b,S b→b<w.heap.size) :
  Calls prog 32 #[.pointer (some p),.agg (qK t s).toArray] w
   (fun e w'=>∃r1:Int,∃r2:Int,e=.returned (.tuple #[.int .i64 r1,.int .i64 r2])∧((r1,r2)=((Sp.of L t).1,(Sp.of L t).2.1)∧∃F',jN w' p (Sp.of L t).2.2 F'∧Ext F w w'∧∀b,F' b→F b∨w.heap.size≤b)):=by
 obtain ⟨k,f,to,u,x,ks⟩:=t
 suffices key:∀K:Int→Int→WP,(∀r1 r2 w',((r1,r2)=((Sp.of L (.mk k f to u x ks)).1,(Sp.of L (.mk k f to u x ks)).2.1)∧∃F',jN w' p (Sp.of L (.mk k f to u x ks)).2.2 F'∧Ext F w w'∧∀b,F' b→F b∨w.heap.size≤b)→K r1 r2 w')→m_O1 (some p) k f to u x s w K from
  w_O1 _ _ _ _ _ _ _ w _ (key _ (fun _ _ _ h=>h))
 intro K hK
 unfold m_O1
 intro p2 w1 h1
 have b1:=Box.of_new h1
 have E1:Pure w w1:=Ext.new h1
 refine Br.f rfl ?_
 intro p3 w2 h2
 have E2:Pure w w2:=E1.trans (Ext.new h2)
 have o3:=New.own E1 h2
 have c3:=Box.of_new h2
 have n23:p2.block≠p3.block:=New.ne h2 b1.blk
 refine ⟨c3.canW0 (by simp),?_⟩
 intro w3 hw3
 have c3':Box w3 p3 [.int .i64 0] 3:=by rw [hw3];exact c3.set0
 have E23:Ext (·=p3.block) w2 w3:=by rw [hw3];exact Ext.setCell p3 _
 clear hw3
 have E3:Pure w w3:=E2.own o3 E23
 have b3:=(b1.pure (Ext.new h2:Pure w1 w2)).ext E23 n23
 refine ⟨_,_,_,_,_,s,b3.row,?_⟩
 generalize ht:Sp.Tree.mk k f to u x ks=t at *
 have htr:(Value.agg #[.int .i64 k,.int .i64 f,.int .i64 to,.int .u64 u,.string x,s.v])=.agg (qK t s).toArray:=by rw [← ht];rfl
 rw [htr]
 refine (jFD p3 (fun h=>by have:=hSw _ h;omega) _ t s 0 0 w3 (by omega) (by omega) (hT.pure E3) c3').mono ?_
 rintro _ w4 ⟨r1,rfl,rfl,_,E34⟩
 have E4:Pure w w4:=E3.own o3 E34
 have b4:=b3.ext E34 n23
 have oQ:∀w',Pure w w'→∃F',jN w' p L F'∧Ext F w w'∧∀b,F' b→F b∨w.heap.size≤b:=fun w' E=>⟨F,hP.pure E,E.pure,fun _ h=>.inl h⟩
 refine ⟨_,rfl,fun h=>?_,fun h=>?_⟩
 ·have h:(Sp.zZ 0 0 t).1≠0:=by simpa using h
  have:Sp.of L t=(0,(Sp.zZ 0 0 t).1,L):=by rw [Sp.of,if_pos h]
  refine hK _ _ _ ?_
  rw [this];exact ⟨rfl,oQ _ E4⟩
 ·have h:(Sp.zZ 0 0 t).1=0:=by simpa using h
  have hP4:=hP.pure E4
  obtain ⟨s0,m0,hS0,hF0⟩:=id hP4
  have hl0:s0.len=L.length:=by rw [hS0.rows.len];simp
  refine ⟨p,rfl,s0,hS0.box.cell0,_,_,_,_,_,s,b4.row,?_⟩
  rw [htr]
  refine (c_grow p t s w4 L F (lW t _ _ h) (hT.pure E4) hP4 hok hFS (fun b hb=>by have:=hSw b hb;have:=E4.size;omega)).mono ?_
  rintro _ w5 ⟨r1,r2,rfl,hr,F5,hP5,E45,hF5⟩
  have e1:r1=(Sp.zW L t).1:=congrArg Prod.fst hr
  have e2:r2=(Sp.zW L t).2.1:=congrArg Prod.snd hr
  have hs4:w.heap.size≤w4.heap.size:=E4.size
  have E5:Ext F w w5:=E4.pure.trans E45
  have hF5':∀b,F5 b→F b∨w.heap.size≤b:=fun b hb=>(hF5 b hb).elim .inl (fun h=>.inr (by omega))
  refine ⟨_,_,rfl,fun h'=>?_,fun h'=>?_⟩
  ·have h':(Sp.zW L t).2.1≠0:=by rw [← e2];simpa using h'
   obtain ⟨hok5,M,hM⟩:=Sp.qD t L hok
   rw [hl0]
   refine (c_cut p L.length w5 hP5 hok5 (by rw [hM];simp)).mono ?_
   rintro _ w6 ⟨rfl,hP6,E56⟩
   have:Sp.of L t=(0,(Sp.zW L t).2.1,L):=by rw [Sp.of,if_neg (by simp [h]),if_pos h']
   refine ⟨rfl,hK _ _ _ ?_⟩
   rw [this]
   rw [hM,List.take_left] at hP6
   exact ⟨by rw [e2],F5,hP6,E5.trans' E56 (fun i hi h=>(hF5' i h).elim id (fun h=>by omega)),hF5'⟩
  ·have h':(Sp.zW L t).2.1=0:=by rw [← e2];simpa using h'
   have:Sp.of L t=((Sp.zW L t).1,0,(Sp.zW L t).2.2):=by rw [Sp.of,if_neg (by simp [h]),if_neg (by simp [h'])]
   refine hK _ _ _ ?_
   rw [this]
   exact ⟨by rw [e1],F5,hP5,E5,hF5'⟩
theorem lZ (s:Sp.Shape) (n:Sp.Node):Sp.jU s n≠53:=by
 unfold Sp.jU;split
 ·omega
 ·split <;> omega
theorem jCA (k f t u:Int) (x:ByteArray) (len:Nat):Sp.vE ⟨k,f,t,u,x,0,0⟩ len=(if (Sp.nodeErr ⟨k,f,t,u,x,0,0⟩≠53∧(len:Int)≠(Sp.shapeOf k).kids) then 53 else Sp.nodeErr ⟨k,f,t,u,x,0,0⟩):=by
 unfold Sp.vE Sp.nodeErr;simp only;rcases yR ⟨k,f,t,u,x,0,0⟩ with h | h
 ·rw [h];simp
 ·rw [h];have:=lZ (Sp.shapeOf k) ⟨k,f,t,u,x,0,0⟩;by_cases h2:(len:Int)=(Sp.shapeOf k).kids <;> simp [h2,this]
theorem gP {S:NP} (q:Addr) (hq:¬ S q.block) (T:TypeId) (t:Sp.Tree):∀(s:Sl) (inside seen:Int) (w0:World),0≤inside→0≤seen→TreeAt S w0 s t→(∀b,S b→b<w0.heap.size)→Box w0 q [.int .i64 seen] T →
  Calls prog 106 #[.agg (qK t s).toArray,.int .i64 inside,.pointer (some q)] w0
   (fun e w'=>∃r:Int,e=.returned (.int .i64 r)∧(r=(Sp.zZ inside seen t).1∧Box w' q [.int .i64 (Sp.zZ inside seen t).2] T∧Ext (·=q.block) w0 w')):=by
 induction t using Sp.Tree.ind with
 | h k f t u x ks ih =>
 intro s inside seen w0 hi0 hn0 hT hSw hB
 suffices key:∀K:Int→WP,(∀r w',(r=(Sp.zZ inside seen (.mk k f t u x ks)).1∧Box w' q [.int .i64 (Sp.zZ inside seen (.mk k f t u x ks)).2] T∧Ext (·=q.block) w0 w')→K r w')→m_O k f t u x s inside (some q) w0 K from
  w_O _ _ _ _ _ _ _ _ w0 _ (key _ (fun _ _ h=>h))
 intro K hK
 have hql:=hB.lt
 unfold m_O
 refine ⟨q,rfl,?_⟩
 intro H1 w1 hs1
 have hB1:=hB.pure hs1.first
 refine ⟨seen,hB1.cell0,?_⟩
 intro H5 w13 hs5
 have E13:=hs1.first.hst hs5
 have hB13:=hB.pure E13
 have hq0:∀{H w' H' w''},Hst w0 H w' H' w''→¬ H' q.block:=fun h hh=>by have:=h.old _ hh;omega
 unfold m_O_j1
 refine ⟨fun h=>?_,fun h=>?_⟩
 ·have : Sp.zZ inside seen (.mk k f t u x ks) = (52, seen) := by
   rw [Sp.zZ];simp only [Bool.or_eq_true,decide_eq_true_eq] at h;by_cases h1:4096≤seen
   ·rw [if_pos h1]
   ·rw [if_neg h1,if_pos (by omega)]
  rw [this] at hK;exact hK _ _ ⟨rfl,hB13,E13.pure⟩
 ·have h1 : ¬ 4096 ≤ seen ∧ ¬ 64 ≤ inside := by
   simp only [Bool.or_eq_false_iff,decide_eq_false_iff_not] at h;omega
  have hsp:Sp.zZ inside seen (.mk k f t u x ks)=Sp.zK (inside+1) (Sp.vE ⟨k,f,t,u,x,0,0⟩ ks.length) (seen+1) ks:=by rw [Sp.zZ,if_neg h1.1,if_neg h1.2]
  rw [hsp] at hK
  have hlen:s.len=ks.length:=by cases hT;assumption
  have hfit:ks.length≤9223372036854775807:=by cases hT;assumption
  refine ⟨q,rfl,seen,hB13.cell0,q,rfl,hB13.canW0 (by simp),hq0 hs5,?_⟩
  rw [i64 (n:=seen+1) (by omega) (by omega)]
  rintro w2 hw2
  have hB2:Box w2 q [.int .i64 (seen+1)] T:=by rw [hw2];exact hB13.set0
  have E2:Ext (·=q.block) w0 w2:=by rw [hw2];exact E13.pure.trans (Ext.setCell q _)
  clear hw2
  rintro y1 rfl
  have hsh:=uT ⟨k,f,t,u,x,0,0⟩
  simp only at hsh
  rw [hsh,yJ,hlen]
  have hown:cond ((Sp.nodeErr ⟨k,f,t,u,x,0,0⟩ != 53) && ((ks.length:Int) != (Sp.shapeOf k).kids)) 53 (Sp.nodeErr ⟨k,f,t,u,x,0,0⟩)=Sp.vE ⟨k,f,t,u,x,0,0⟩ ks.length:=by
   rw [jCA];by_cases h2:Sp.nodeErr ⟨k,f,t,u,x,0,0⟩=53
   ·simp [h2]
   ·by_cases h3:(ks.length:Int)=(Sp.shapeOf k).kids
    ·simp [h3]
    ·have e1:(Sp.nodeErr ⟨k,f,t,u,x,0,0⟩ != 53)=true:=by simpa using h2
     have e2:((ks.length:Int) != (Sp.shapeOf k).kids)=true:=by simpa using h3
     rw [e1,e2,if_pos ⟨h2,h3⟩];rfl
  rw [hown]
  intro H3 w10 hs3
  have E10:Ext (·=q.block) w0 w10:=E2.hst hs3
  have hB10:=hB2.ext hs3.ext (hq0 hs3)
  refine ⟨fun e i H w'=>∃j:Nat,i=j∧j≤ks.length∧∃n:Int,0≤n∧Ext (·=q.block) w0 w'∧Box w' q [.int .i64 n] T∧Sp.zK (inside+1) e n (ks.drop j)=Sp.zK (inside+1) (Sp.vE ⟨k,f,t,u,x,0,0⟩ ks.length) (seen+1) ks,fun _ i _=>((ks.length:Int) - i).toNat,⟨0,rfl,Nat.zero_le _,seen+1,by omega,E10,hB10,rfl⟩,?_⟩
  rintro e1 _ Hl wl hl ⟨j,rfl,hj,n,hn,El,hBl,heq⟩
  unfold m_O_l2
  have hTl:=hT.ext El (fun b hb e=>hq (e▸hb))
  refine ⟨fun hc=>?_,fun hc=>?_⟩
  ·simp only [Bool.and_eq_true,beq_iff_eq] at hc
   obtain ⟨he,hlt⟩:=hc
   have hlt:=zO hlen hlt
   subst he
   cases hTl with
   | mk _ _ _ _ _ _ _ rs len fit row kid =>
   obtain ⟨a,hat,ha,hr⟩:=row j hlt
   refine ⟨a,hat,?_⟩
   intro H4 w11 hs4
   have E11:=El.hst hs4
   have hT11:=hT.ext E11 (fun b hb e=>hq (e▸hb))
   have hr11:Row w11 a (qK ks[j] (rs j)):=hs4.ext.row hr (fun hh=>by have:=hs4.old _ hh;have:=hSw _ ha;omega)
   have hk11:TreeAt S w11 (rs j) ks[j]:=(kid j hlt).ext hs4.ext (fun b hb hh=>by have:=hs4.old _ hh;have:=hSw _ hb;omega)
   have hB11:=hBl.ext hs4.ext (hq0 hs4)
   refine ⟨_,_,_,_,_,rs j,hr11,?_⟩
   rw [i64 (n:=inside+1) (by omega) (by omega)]
   refine (ih j hlt (rs j) (inside+1) n w11 (by omega) hn hk11 (fun b hb=>by have:=hSw b hb;have:=E11.size;omega) hB11).mono ?_
   rintro _ w12 ⟨r,rfl,rfl,hB12,E12⟩
   refine ⟨_,rfl,E12.kept (fun b hb e=>hq0 hs4 (e▸hb)),?_⟩
   rw [zL hlt (by omega)]
   refine ⟨⟨j+1,rfl,hlt,_,xC ks[j] (inside+1) n hn,E11.trans E12,hB12,?_⟩,kZ hlt⟩
   rw [← heq];exact (qW hlt (inside+1) n).symm
  ·intro H4 w11 hs4
   have hfin:Sp.zK (inside+1) e1 n (ks.drop j)=(e1,n):=by
    by_cases he:e1=0
    ·have hge : j = ks.length := by
      rw [he] at hc;have hc:decide ((j:Int)<(s.len:Int))=false:=by simpa using hc
      exact kA hlen hj hc
     rw [hge,List.drop_length];rfl
    ·exact yS he _ _
   rw [hfin] at heq
   refine hK _ _ ⟨by rw [← heq],?_,El.hst hs4⟩
   rw [← heq];exact hBl.ext hs4.ext (hq0 hs4)
theorem lF {S:NP} (t:Sp.Tree) (s:Sl) (w0:World) (hT:TreeAt S w0 s t) (hSw:∀b,S b→b<w0.heap.size) :
  Calls prog 71 #[.agg (qK t s).toArray] w0 (fun e w'=>∃r:Int,e=.returned (.int .i64 r)∧(r=(Sp.zZ 0 0 t).1∧Pure w0 w')):=by
 obtain ⟨k,f,to,u,x,ks⟩:=t
 refine w_U2 _ _ _ _ _ _ w0 (fun r w'=>r=(Sp.zZ 0 0 (.mk k f to u x ks)).1∧Pure w0 w') ?_
 unfold m_U2
 intro H1 w1 hs1 p w2 h2
 have b2:=Box.of_new h2
 have E2:Pure w0 w2:=hs1.first.trans (Ext.new h2)
 have o2:=New.own hs1.first h2
 have hpH:¬ H1 p.block:=fun hh=>by have:=hs1.lt _ hh;have:=h2.at_size;omega
 refine ⟨b2.canW0 (by simp),hpH,?_⟩
 rintro w3 hw3
 have b3:Box w3 p [.int .i64 0] 3:=by rw [hw3];exact b2.set0
 have E3:Pure w0 w3:=by rw [hw3];exact E2.own o2 (Ext.setCell p _)
 clear hw3
 refine (gP p (fun h=>by have:=hSw _ h;omega) _ _ s 0 0 w3 (Int.le_refl _) (Int.le_refl _) (hT.pure E3) (fun b hb=>by have:=hSw b hb;have:=E3.size;omega) b3).mono ?_
 rintro _ w4 ⟨r,rfl,rfl,_,E4⟩
 exact ⟨_,rfl,E4.kept (fun b hb e=>hpH (e▸hb)),rfl,E3.own o2 E4⟩
theorem tF (p:Addr) (n:Nat) (w0:World) {L:Sp.Pool} {F:NP} (hP:zT w0 p L F) (hn:n≤L.length) :
  Calls prog 73 #[.pointer (some p),.int .i64 n] w0 (fun e w'=>e=.returned (.tuple #[])∧zT w' p (L.take n) F∧Ext F w0 w'):=by
 suffices key:∀K:WP,(∀w',zT w' p (L.take n) F∧Ext F w0 w'→K w')→m_R1 (some p) n w0 K from
  w_R1 _ _ w0 _ (key _ (fun _ h=>h))
 intro K hK
 unfold m_R1
 obtain ⟨s1,s2,s3,hS,hF⟩:=hP
 obtain ⟨t1,hr1,R1,hb1⟩:=Rws.hi (P:=prog) tP hS.r1 (k:=.i64) (n:=n) (by omega) (by simpa using hn)
 refine ⟨p,rfl,s1,hS.box.cell0,t1,hr1,p,rfl,hS.box.canW0 (by simp),?_⟩
 rintro w1 hw1
 have B1:Box w1 p [t1.v,s2.v,s3.v] 45:=by rw [hw1];exact hS.box.set0
 have X1:Ext (·=p.block) w0 w1:=by rw [hw1];exact Ext.setCell p _
 clear hw1
 obtain ⟨t2,hr2,R2,hb2⟩:=Rws.hi (P:=prog) xV (hS.r2.ext X1 (fun b hb e=>hS.n2 (e▸hb))) (k:=.i64) (n:=n) (by omega) (by simpa using hn)
 refine ⟨p,rfl,s2,B1.cell rfl,t2,hr2,p,rfl,B1.canW (by simp),?_⟩
 rintro w2 hw2
 have B2:Box w2 p [t1.v,t2.v,s3.v] 45:=by rw [hw2];exact B1.set 1 _
 have X2:Ext (·=p.block) w1 w2:=by rw [hw2];have:=Ext.setCell (w:=w1) (p.add 1) t2.v;rw [jR] at this;exact this
 clear hw2
 obtain ⟨t3,hr3,R3,hb3⟩:=Rws.hi (P:=prog) xV (hS.r3.ext (X1.trans X2) (fun b hb e=>hS.n3 (e▸hb))) (k:=.i64) (n:=n) (by omega) (by simpa using hn)
 refine ⟨p,rfl,s3,B2.cell rfl,t3,hr3,p,rfl,B2.canW (by simp),?_⟩
 rintro w3 hw3
 have B3:Box w3 p [t1.v,t2.v,t3.v] 45:=by rw [hw3];exact B2.set 2 _
 have X3:Ext (·=p.block) w2 w3:=by rw [hw3];have:=Ext.setCell (w:=w2) (p.add 2) t3.v;rw [jR] at this;exact this
 clear hw3
 have E:=(X1.trans X2).trans X3
 refine hK _ ⟨⟨t1,t2,t3,⟨B3,?_,?_,?_,fun h=>hS.n1 ((hb1 _).1 h),fun h=>hS.n2 ((hb2 _).1 h),fun h=>hS.n3 ((hb3 _).1 h),fun b h1 h2=>hS.d12 b ((hb1 b).1 h1) ((hb2 b).1 h2),fun b h1 h2=>hS.d13 b ((hb1 b).1 h1) ((hb3 b).1 h2),fun b h1 h2=>hS.d23 b ((hb2 b).1 h1) ((hb3 b).1 h2)⟩,fun b=>by rw [hF b,hb1 b,hb2 b,hb3 b]⟩,E.mono (fun i _ h=>(hF i).2 (.inl h))⟩
 ·have:=R1.ext E (fun b hb e=>hS.n1 ((hb1 _).1 (e▸hb)))
  rw [List.map_take];simpa using this
 ·have:=R2.ext (X2.trans X3) (fun b hb e=>hS.n2 ((hb2 _).1 (e▸hb)))
  rw [List.map_take];simpa using this
 ·have:=R3.ext X3 (fun b hb e=>hS.n3 ((hb3 _).1 (e▸hb)))
  rw [List.map_take];simpa using this
theorem oD {S:NP} (p:Addr) (t:Sp.Tree):∀(s:Sl) (w0:World) (L:Sp.Pool) (F:NP),Sp.Tree.two t→TreeAt S w0 s t→zT w0 p L F→Sp.Ok L→(∀b,F b→¬ S b)→(∀b,S b→b<w0.heap.size) →
  Calls prog 72 #[.pointer (some p),.agg (qK t s).toArray] w0
   (fun e w'=>∃r1:Int,∃r2:Int,e=.returned (.tuple #[.int .i64 r1,.int .i64 r2])∧((r1,r2)=((Sp.zW L t).1,(Sp.zW L t).2.1)∧∃F',zT w' p (Sp.zW L t).2.2 F'∧Ext F w0 w'∧∀b,F' b→F b∨w0.heap.size≤b)):=by
 induction t using Sp.Tree.ind with
 | h k f t u x ks ih =>
 intro s w0 L F h2 hT hP hok hFS hSw
 suffices key:∀K:Int→Int→WP,(∀r1 r2 w',((r1,r2)=((Sp.zW L (.mk k f t u x ks)).1,(Sp.zW L (.mk k f t u x ks)).2.1)∧∃F',zT w' p (Sp.zW L (.mk k f t u x ks)).2.2 F'∧Ext F w0 w'∧∀b,F' b→F b∨w0.heap.size≤b)→K r1 r2 w')→m_B1 (some p) k f t u x s w0 K from
  w_B1 _ _ _ _ _ _ _ w0 _ (key _ (fun _ _ _ h=>h))
 intro K hK
 obtain ⟨hk2,hall⟩:=jBI.1 h2
 have hsp:Sp.zW L (.mk k f t u x ks)=Sp.zG ⟨k,f,t,u,x,0,0⟩ 0 L ks:=by rw [Sp.zW]
 rw [hsp] at hK
 have hlen:s.len=ks.length:=by cases hT;assumption
 unfold m_B1
 intro H2 w4 hs4
 refine ⟨fun i a1 a2 a3 a4 a5 a6 a7 H w'=>∃j:Nat,i=j∧j≤ks.length∧∃(L':Sp.Pool) (F':NP),Sp.zG ⟨k,f,t,u,x,0,0⟩ 0 L ks=Sp.zG ⟨a1,a2,a3,a4,a5,a6,a7⟩ j L' (ks.drop j)∧Sp.Ok L'∧zT w' p L' F'∧(∀b,F' b→F b∨w0.heap.size≤b)∧(∀b,F' b→¬ H b)∧Ext F w0 w',fun i _ _ _ _ _ _ _ _=>((ks.length:Int) - i).toNat,
  ⟨0,rfl,Nat.zero_le _,L,F,by simp,hok,hP.pure hs4.first,fun b h=>.inl h,hs4.disj0 (fun b hb=>hP.lt hb),hs4.first.pure⟩,?_⟩
 rintro _ a1 a2 a3 a4 a5 a6 a7 Hl wl hl ⟨j,rfl,hj,L',F',heq,hok',hPl,hF',hv,El⟩
 unfold m_B1_l1
 refine ⟨fun h=>?_,fun h=>?_⟩
 ·have hlt:=zO hlen h
  have hTl:TreeAt S wl s (.mk k f t u x ks):=hT.ext El (fun b hs hf=>hFS b hf hs)
  have hkid:∃a r,At s j 6 a∧Row wl a (qK ks[j] r)∧TreeAt S wl r ks[j]:=by
   cases hTl with
   | mk _ _ _ _ _ _ _ rs len fit row kid=>exact let ⟨a,h1,_,h3⟩:=row j hlt;⟨a,rs j,h1,h3,kid j hlt⟩
  obtain ⟨a,r,hat,hrow,hTk⟩:=hkid
  refine ⟨a,hat,_,_,_,_,_,r,hrow,?_⟩
  have hsz:w0.heap.size≤wl.heap.size:=El.size
  refine (ih j hlt r wl L' F' (gT hall hlt) hTk hPl hok' (fun b hb hs=>(hF' b hb).elim (fun h=>hFS b h hs) (fun h=>by have:=hSw b hs;omega)) (fun b hs=>by have:=hSw b hs;omega)).mono ?_
  rintro _ w8 ⟨r1,r2,rfl,hr,F8,hP8,E8,hF8⟩
  have e1:r1=(Sp.zW L' ks[j]).1:=congrArg Prod.fst hr
  have e2:r2=(Sp.zW L' ks[j]).2.1:=congrArg Prod.snd hr
  rw [List.drop_eq_getElem_cons hlt] at heq
  have hF8':∀b,F8 b→F b∨w0.heap.size≤b:=fun b hb=>(hF8 b hb).elim (hF' b) (fun h=>by right;omega)
  have Ew8:Ext F w0 w8:=El.trans' E8 (fun i hi h=>(hF' i h).elim id (fun h=>by omega))
  refine ⟨_,_,rfl,E8.kept (fun b hH hF=>hv b hF hH),fun h=>?_,fun h=>?_⟩
  ·have h:(Sp.zW L' ks[j]).2.1≠0:=by rw [← e2];simpa using h
   rw [gA h] at heq
   refine hK _ _ _ ?_
   rw [heq];exact ⟨by rw [e2],F8,hP8,Ew8,hF8'⟩
  ·have h:(Sp.zW L' ks[j]).2.1=0:=by rw [← e2];simpa using h
   rw [yV h] at heq
   intro H3 w9 hs9
   have hv8:∀b,F8 b→¬ Hl b:=fun b hb hH=>(hF8 b hb).elim (fun h=>hv b h hH) (fun h=>by have:=hl.lt b hH;omega)
   have hv9:∀b,F8 b→¬ H3 b:=hs9.disj (fun b hb=>⟨hP8.lt hb,hv8 b hb⟩)
   rw [zL hlt (by omega)]
   refine ⟨⟨j+1,rfl,hlt,_,F8,?_,(Sp.qD ks[j] L' hok').1,hP8.ext hs9.ext hv9,hF8',hv9,Ew8.hst hs9⟩,kZ hlt⟩
   rw [heq,e1]
   have hj0:(((j:Int)) == 0)=decide (j=0):=by rw [Bool.eq_iff_iff];simp
   rw [hj0]
   by_cases hj0':j=0
   ·subst hj0';rfl
   ·simp [hj0']
 ·have hge:=kA hlen hj h
  rw [hge,List.drop_length,Sp.zG] at heq
  refine (oE p ⟨a1,a2,a3,a4,a5,a6,a7⟩ wl hPl hok').mono ?_
  rintro _ w9 ⟨r1,r2,rfl,hr,F9,hP9,E9,hF9⟩
  have hsz:w0.heap.size≤wl.heap.size:=El.size
  refine ⟨_,_,rfl,E9.kept (fun b hH hF=>hv b hF hH),hK _ _ _ ?_⟩
  rw [heq]
  exact ⟨hr,F9,hP9,El.trans' E9 (fun i hi h=>(hF' i h).elim id (fun h=>by omega)),fun b hb=>(hF9 b hb).elim (hF' b) (fun h=>by right;omega)⟩
theorem lC (t:Sp.Tree):∀L,(Sp.zW L t).2.1≠0→(Sp.zW L t).1=0:=by
 induction t using Sp.Tree.ind with
 | h k f t u x ks ih =>
  have hmk:∀L n,(Sp.make L n).2.1≠0→(Sp.make L n).1=0:=by
   intro L n h;unfold Sp.make at h ⊢;simp only at h ⊢;split at h
   ·rename_i h1;rw [if_pos h1]
   ·rename_i h1;rw [if_neg h1];split at h
    ·rename_i hf;exact absurd rfl h
    ·split at h
     ·rename_i h2;simp [h2]
     ·exact absurd rfl h
  have:∀(ks:List Sp.Tree),(∀i (hi:i<ks.length),∀L,(Sp.zW L ks[i]).2.1≠0→(Sp.zW L ks[i]).1=0)→∀n i L,(Sp.zG n i L ks).2.1≠0→(Sp.zG n i L ks).1=0:=by
   intro ks;induction ks with
   | nil=>intro _ n i L h;unfold Sp.zG at h ⊢;exact hmk L n h
   | cons t ts iht =>
    intro hh n i L h
    unfold Sp.zG at h ⊢
    split at h
    ·rename_i h1;rw [if_pos h1]
    ·rename_i h1;rw [if_neg h1];exact iht (fun i hi=>hh (i+1) (by simpa using hi)) _ _ _ h
  intro L h
  unfold Sp.zW at h ⊢
  exact this ks ih _ _ L h
theorem jAU {S:NP} (p:Addr) (t:Sp.Tree) (s:Sl) (w0:World) {L:Sp.Pool} {F:NP} (hT:TreeAt S w0 s t) (hP:zT w0 p L F) (hok:Sp.Ok L) (hFS:∀b,F b→¬ S b) (hSw:∀b,S b→b<w0.heap.size) :
  Calls prog 34 #[.pointer (some p),.agg (qK t s).toArray] w0
   (fun e w'=>∃r1:Int,∃r2:Int,e=.returned (.tuple #[.int .i64 r1,.int .i64 r2])∧((r1,r2)=((Sp.of L t).1,(Sp.of L t).2.1)∧∃F',zT w' p (Sp.of L t).2.2 F'∧Ext F w0 w'∧∀b,F' b→F b∨w0.heap.size≤b)):=by
 obtain ⟨k,f,to,u,x,ks⟩:=t
 suffices key:∀K:Int→Int→WP,(∀r1 r2 w',((r1,r2)=((Sp.of L (.mk k f to u x ks)).1,(Sp.of L (.mk k f to u x ks)).2.1)∧∃F',zT w' p (Sp.of L (.mk k f to u x ks)).2.2 F'∧Ext F w0 w'∧∀b,F' b→F b∨w0.heap.size≤b)→K r1 r2 w')→m_S1 (some p) k f to u x s w0 K from
  w_S1 _ _ _ _ _ _ _ w0 _ (key _ (fun _ _ _ h=>h))
 intro K hK
 unfold m_S1
 intro H1 w1 hs1
 have E1:=hs1.first
 generalize ht:Sp.Tree.mk k f to u x ks=t at *
 have htr:(Value.agg #[.int .i64 k,.int .i64 f,.int .i64 to,.int .u64 u,.string x,s.v])=.agg (qK t s).toArray:=by rw [← ht];rfl
 rw [htr]
 refine (lF t s w1 (hT.pure E1) (fun b hb=>by have:=hSw b hb;have:=E1.size;omega)).mono ?_
 rintro _ w2 ⟨r1,rfl,rfl,E2⟩
 have E12:=E1.trans E2
 refine ⟨_,rfl,E2.keptP,fun h=>?_,fun h=>?_⟩
 ·have h:(Sp.zZ 0 0 t).1≠0:=by simpa using h
  have:Sp.of L t=(0,(Sp.zZ 0 0 t).1,L):=by rw [Sp.of,if_pos h]
  refine hK _ _ _ ?_
  rw [this];exact ⟨rfl,F,hP.pure E12,E12.pure,fun _ h=>.inl h⟩
 ·have h:(Sp.zZ 0 0 t).1=0:=by simpa using h
  have hP2:=hP.pure E12
  have hv:∀b,F b→¬ H1 b:=hs1.disj0 (fun b hb=>hP.lt hb)
  obtain ⟨s1,s2,s3,hS,hF0⟩:=id hP2
  have hl0:s1.len=L.length:=by rw [hS.r1.len];simp
  refine ⟨p,rfl,s1,hS.box.cell0,?_⟩
  refine (oD p t s w2 L F (lW t _ _ h) (hT.pure E12) hP2 hok hFS (fun b hb=>by have:=hSw b hb;have:=E12.size;omega)).mono ?_
  rintro _ w5 ⟨r1,r2,rfl,hr,F5,hP5,E5,hF5⟩
  have e1:r1=(Sp.zW L t).1:=congrArg Prod.fst hr
  have e2:r2=(Sp.zW L t).2.1:=congrArg Prod.snd hr
  have hs4:w0.heap.size≤w2.heap.size:=E12.size
  have E05:Ext F w0 w5:=E12.pure.trans E5
  have hF5':∀b,F5 b→F b∨w0.heap.size≤b:=fun b hb=>(hF5 b hb).elim .inl (fun h=>.inr (by omega))
  have hs2:=hs1.again E2.keptP
  have hv5:∀b,F5 b→¬ H1 b:=fun b hb hH=>(hF5 b hb).elim (fun h=>hv b h hH) (fun h=>by have:=hs2.lt b hH;omega)
  refine ⟨_,_,rfl,E5.kept (fun b hH hF=>hv b hF hH),fun h'=>?_,fun h'=>?_⟩
  ·have h':(Sp.zW L t).2.1≠0:=by rw [← e2];simpa using h'
   obtain ⟨hok5,M,hM⟩:=Sp.qD t L hok
   rw [hl0]
   refine (tF p L.length w5 hP5 (by rw [hM];simp)).mono ?_
   rintro _ w6 ⟨rfl,hP6,E6⟩
   have:Sp.of L t=(0,(Sp.zW L t).2.1,L):=by rw [Sp.of,if_neg (by simp [h]),if_pos h']
   refine ⟨rfl,E6.kept (fun b hH hF=>hv5 b hF hH),hK _ _ _ ?_⟩
   rw [this]
   rw [hM,List.take_left] at hP6
   exact ⟨by rw [e1,e2,lC t L h'],F5,hP6,E05.trans' E6 (fun i hi h=>(hF5' i h).elim id (fun h=>by omega)),hF5'⟩
  ·have h':(Sp.zW L t).2.1=0:=by rw [← e2];simpa using h'
   have:Sp.of L t=((Sp.zW L t).1,0,(Sp.zW L t).2.2):=by rw [Sp.of,if_neg (by simp [h]),if_neg (by simp [h'])]
   refine hK _ _ _ ?_
   rw [this]
   exact ⟨by rw [e1,e2,h'],F5,hP5,E05,hF5'⟩
end Go.Proofs
end
section
namespace Go.Sp
inductive Good:Tree→Prop
 | mk (k f t u:Int) (x:ByteArray) (ks:List Tree) (own:vE ⟨k,f,t,u,x,0,0⟩ ks.length=0) (kids:∀i (hi:i<ks.length),Good ks[i]):Good (.mk k f t u x ks)
theorem Good.inv {k f t u:Int} {x:ByteArray} {ks:List Tree} (h:Good (.mk k f t u x ks)):jX ⟨k,f,t,u,x,0,0⟩=0∧(ks.length:Int)=(shapeOf k).kids∧jU (shapeOf k) ⟨k,f,t,u,x,0,0⟩=0∧∀i (hi:i<ks.length),Good ks[i]:=by
 cases h with
 | mk _ _ _ _ _ _ own kids =>
  unfold vE at own
  simp only at own
  by_cases hp:jX ⟨k,f,t,u,x,0,0⟩=0
  ·rw [if_pos hp] at own
   by_cases hl:(ks.length:Int)≠(shapeOf k).kids
   ·rw [if_pos hl] at own;simp at own
   ·rw [if_neg hl] at own
    simp at own
    exact ⟨hp,by simpa using hl,own,kids⟩
  ·rw [if_neg hp,if_neg hp] at own;exact absurd own hp
end Go.Sp
end
section
namespace Go.Sp
mutual
def cnt:Tree→Nat
 | .mk _ _ _ _ _ ks=>1+cntAll ks
def cntAll:List Tree→Nat
 | []=>0
 | t :: ts=>cnt t+cntAll ts
end
mutual
def qG (most:Int):Tree→Int
 | .mk _ _ _ _ _ ks=>kE most 1 ks
def kE (most n:Int):List Tree→Int
 | []=>n
 | t :: ts=>if n≤most then kE most (n+qG (most - n) t) ts else n
end
theorem uW (t:Tree):∀most:Int,0≤most→1≤qG most t∧qG most t≤most+1∧(qG most t≤most→(cnt t:Int)=qG most t):=by
 induction t using Tree.ind with
 | h k f tt u x ks ih =>
  have hA : ∀ (ks : List Tree), (∀ i (hi : i < ks.length), ∀ most : Int, 0 ≤ most → 1 ≤ qG most ks[i] ∧ qG most ks[i] ≤ most + 1 ∧ (qG most ks[i] ≤ most → (cnt ks[i] : Int) = qG most ks[i])) →
    ∀most n:Int,1≤n→n≤most+1→n≤kE most n ks∧kE most n ks≤most+1∧(kE most n ks≤most→n+(cntAll ks:Int)=kE most n ks):=by
   intro ks
   induction ks with
   | nil=>intro _ most n h1 h2;simp [kE,cntAll,h2]
   | cons t ts iht =>
    intro hh most n h1 h2
    unfold kE
    by_cases hn:n≤most
    ·rw [if_pos hn]
     have h0:=hh 0 (by simp) (most - n) (by omega)
     simp only [List.getElem_cons_zero] at h0
     have h3:=iht (fun i hi=>hh (i+1) (by simpa using hi)) most (n+qG (most - n) t) (by omega) (by omega)
     refine ⟨by omega,h3.2.1,fun h=>?_⟩
     have h4:=h3.2.2 h
     have h5:=h0.2.2 (by omega)
     simp only [cntAll];omega
    ·rw [if_neg hn];exact ⟨Int.le_refl _,h2,fun h=>absurd h hn⟩
  intro most hm
  have:=hA ks ih most 1 (by omega) (by omega)
  simp only [qG,cnt]
  refine ⟨this.1,this.2.1,fun h=>?_⟩
  have:=this.2.2 h
  omega
mutual
def oQ:Tree→Tree→Bool
 | .mk k f t u x ks,.mk k' f' t' u' x' ks'=>decide (k=k') && decide (f=f') && decide (t=t') && decide (u=u') && decide (x=x') && jBV ks ks'
def jBV:List Tree→List Tree→Bool
 | [],[]=>true
 | t :: ts,t' :: ts'=>oQ t t' && jBV ts ts'
 | _,_=>false
end
end Go.Sp
end
section
open Go Go.SE
namespace Go.Proofs
open Tryz
attribute [local irreducible] Calls
theorem TreeAt.hst {S:NP} {w0 w w':World} {H H':NP} {s:Sl} {t:Sp.Tree} (h:TreeAt S w s t) (hs:Hst w0 H w H' w') (hd:∀b,S b→b<w.heap.size∧¬ H b):TreeAt S w' s t :=
 h.ext hs.ext (fun b hb hh=>hs.disj (G:=S) hd b hb hh)
theorem lE {S:NP} (t:Sp.Tree):∀(s:Sl) (most:Int) (w0:World),0≤most→most≤1000000000→TreeAt S w0 s t→(∀b,S b→b<w0.heap.size) →
  Calls prog 26 #[.agg (qK t s).toArray,.int .i64 most] w0 (fun e w'=>∃r:Int,e=.returned (.int .i64 r)∧(r=Sp.qG most t∧Pure w0 w')):=by
 induction t using Sp.Tree.ind with
 | h k f t u x ks ih =>
 intro s most w0 hm0 hm hT hSw
 suffices key:∀K:Int→WP,(∀r w',(r=Sp.qG most (.mk k f t u x ks)∧Pure w0 w')→K r w')→m_Z k f t u x s most w0 K from
  w_Z _ _ _ _ _ _ _ w0 _ (key _ (fun _ _ h=>h))
 intro K hK
 have hlen:s.len=ks.length:=by cases hT;assumption
 have hfit:ks.length≤9223372036854775807:=by cases hT;assumption
 unfold m_Z
 intro H1 w1 hs1
 refine ⟨fun n i H w'=>∃j:Nat,i=j∧j≤ks.length∧1≤n∧n≤most+1∧Pure w0 w'∧Sp.kE most 1 ks=Sp.kE most n (ks.drop j),fun _ i _=>((ks.length:Int) - i).toNat,⟨0,rfl,Nat.zero_le _,Int.le_refl _,by omega,hs1.first,rfl⟩,?_⟩
 rintro n _ Hl wl hl ⟨j,rfl,hj,hn1,hn2,El,heq⟩
 unfold m_Z_l1
 refine ⟨fun hc=>?_,fun hc=>?_⟩
 ·simp only [Bool.and_eq_true,decide_eq_true_eq] at hc
  have hlt:j<ks.length:=by omega
  rw [List.drop_eq_getElem_cons hlt,Sp.kE,if_pos hc.2] at heq
  have hT1:=hT.pure El
  cases hT1 with
  | mk _ _ _ _ _ _ _ rs len fit row kid =>
  obtain ⟨a,hat,ha,hr⟩:=row j hlt
  refine ⟨a,hat,?_⟩
  intro H2 w2 hs2
  have hd:∀b,S b→¬ H2 b:=fun b hb hh=>by have:=hs2.old _ hh;have:=hSw b hb;omega
  refine ⟨_,_,_,_,_,rs j,hs2.ext.row hr (hd _ ha),?_⟩
  rw [i64 (n:=most - n) (by omega) (by omega)]
  refine (ih j hlt (rs j) (most - n) w2 (by omega) (by omega) ((kid j hlt).ext hs2.ext hd) (fun b hb=>by have:=hSw b hb;have:=(El.hst hs2).size;omega)).mono ?_
  rintro _ w3 ⟨r,rfl,rfl,E3⟩
  have hpf:=Sp.uW ks[j] (most - n) (by omega)
  refine ⟨_,rfl,E3.keptP,?_⟩
  rw [zL hlt (by omega),i64 (n:=n+Sp.qG (most - n) ks[j]) (by omega) (by omega)]
  exact ⟨⟨j+1,rfl,hlt,by omega,by omega,(El.hst hs2).trans E3,heq⟩,kZ hlt⟩
 ·intro H2 w2 hs2
  refine hK _ _ ⟨?_,El.hst hs2⟩
  rw [Sp.qG,heq]
  by_cases hj2:j=ks.length
  ·rw [hj2,List.drop_length];rfl
  ·have hlt:j<ks.length:=by omega
   rw [List.drop_eq_getElem_cons hlt,Sp.kE,if_neg]
   intro h
   have:decide (n≤most)=true:=decide_eq_true h
   have h2:decide ((j:Int)<(s.len:Int))=true:=decide_eq_true (by omega)
   rw [this,h2] at hc;cases hc
end Go.Proofs
end
