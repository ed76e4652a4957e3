import Derived.Test.YtjjcakjoeiolgaaGreatPa1
import Derived.Test.YtjjcakjoeiolgaaGreatProg
import Derived.KernelRfl
import Derived.Test.YtjjcakjoeiolgaaGreatPa0
import Derived.Test.YtjjcakjoeiolgaaGreatPa2
import Derived.Test.YtjjcakjoeiolgaaGreatPa3
set_option linter.defProp false
section
open Go Go.SE List
namespace Go.Proofs
def Dep(L:Pool)(S:List Way)(t y:Int):Prop:=
 (∃v∈S,v.t=t/\v.rule≠0/\y=v.frm)\/(t∉zH S/\0<y/\(y=(jDY L S t).1\/y=(jDY L S t).2.1))
inductive Dp(L:Pool)(S:List Way):Int->Int->Prop
 |refl (t:Int):Dp L S t t
 |step {t y z:Int}:Dep L S t y->Dp L S y z->Dp L S t z
def Dep.made{L S t y a b f m}(h:jDY L S t=(a,b,f,m))(ht:t∉zH S):Dep L S t y↔0<y/\(y=a\/y=b):=by
 unfold Dep;rw[h];constructor;rintro(⟨v,c,rfl,_⟩|⟨_,h⟩);exact absurd (mem_map.2 ⟨v,c,rfl⟩) ht;exact h;grind
def Dep.way{L S t y r f}(d:(zH S).Nodup)(b:SE.look (S.map fun v=>(v.t,(v.rule,v.frm))) t=some (r,f)):Dep L S t y↔r≠0/\y=f:=by
 have hm:=tB b;have⟨v,g,e⟩:=mem_map.1 hm;simp only[Prod.mk.injEq]at e;obtain⟨rfl,rfl,rfl⟩:=e;have c:v.t∈zH S:=mem_map.2 ⟨v,g,rfl⟩;unfold Dep;constructor;rintro(⟨u,i,e,hr,rfl⟩|⟨h,_⟩);have a:((S.map fun v=>(v.t,(v.rule,v.frm))).map Prod.fst).Nodup:=by rw[map_map];exact d
 have h2:=jSI a<|mem_map.2 ⟨u,i,rfl⟩;rw[e,b]at h2;simp only[Option.some.injEq,Prod.mk.injEq]at h2;exact⟨by rw[h2.1];exact hr,h2.2.symm⟩;exact absurd c h;grind
def Dp.all{L:Pool}{S:List Way}{M:List Step}(c:∀s∈M,∀y,Dep L S s.t y->y∈M.map Step.t){t x:Int}(ht:t∈M.map Step.t)(h:Dp L S t x):x∈M.map Step.t:=by
 induction h with
 |refl=>exact ht
 |step b _ a =>
  obtain⟨s,hs,rfl⟩:=mem_map.1 ht
  exact a<|c s hs _ b
end Go.Proofs
namespace Go.Proofs
open Tryz
attribute [local irreducible] Calls
def jOE(s:Step):List Value:=[vi s.rule,vi s.a,vi s.b,vi s.t]
def zBX:SlType prog 169 173 4 32:=by
 refine⟨underlying169,⟨t173,_,Kf,(by kernel_rfl:t173.zero=some (.agg #[vi 0,vi 0,vi 0,vi 0])),Kf,Kf,rfl⟩,Om⟩
def tru(_:Unit):Value:=vb true
def zFT(B:List Int):List (Int×Unit):=B.map fun t=>(t,())
def jRE(B):(zFT B).map Prod.fst=B:=by
 unfold zFT;rw[map_map];exact map_id' B
def zAZ(B t):zFT (B++[t])=zFT B++[(t,())]:=by simp[zFT]
def PW(ma mb:Nat)(c5:Addr)(sl:Sl)(b:Nat):Prop:=b=ma\/b=mb\/b=c5.block\/sl.blk b
def says(f:FuncId)(c1 c2 c3 c4 c5:Addr):Value:=.func (.func f) #[] #[vp<|some c1,vp<|some c2,vp<|some c3,vp<|some c4,vp<|some c5]
structure PrfAt(w:World)(k:Addr)(c1 c2 c3 c4 c5:Addr)(ma mb:Nat)(sl:Sl)(l:List Step)(B:List Int):Prop where
 a1:w.cell? c1=some (.map<|some ma)
 a2:w.cell? c2=some (.map<|some mb)
 a3:w.cell? c3=some (vp<|some k)
 a4:w.cell? c4=some (says 160 c1 c2 c3 c4 c5)
 a5:Box w c5 [sl.v] 169
 am:IMap jRK w ma (zBK l)
 bm:IMap tru w mb (zFT B)
 ls:Rws w 173 4 sl (l.map jOE)
 d:∀b,PW ma mb c5 sl b->b≠c1.block/\b≠c2.block/\b≠c3.block/\b≠c4.block
 n1:ma≠mb
 n2:ma≠c5.block
 n3:mb≠c5.block
 n4:¬sl.blk ma
 n5:¬sl.blk mb
 n6:¬sl.blk c5.block
structure SaysAt(w:World)(k p:Addr)(c1 c2 c3 c4 c5:Addr)(ma mb:Nat)(L:Pool)(G:List Int)(S:List Way)(F FP:NP)(sl:Sl)(l:List Step)(B:List Int):Prop where
 prf:PrfAt w k c1 c2 c3 c4 c5 ma mb sl l B
 know:qC w k p G S F
 pool:zD w p L FP
 dF:∀b,F b->¬PW ma mb c5 sl b
 dP:∀b,FP b->¬PW ma mb c5 sl b
section
variable {w w':World} {k p c1 c2 c3 c4 c5:Addr} {ma mb:Nat} {L:Pool} {G:List Int} {S:List Way} {F FP:NP} {sl:Sl} {l:List Step} {B:List Int}
def PrfAt.ext{X}(h:PrfAt w k c1 c2 c3 c4 c5 ma mb sl l B)(a:Ext X w w')(h1:∀b,PW ma mb c5 sl b->¬X b)(c:¬X c1.block)(i:¬X c2.block)(f:¬X c3.block)(g:¬X c4.block):PrfAt w' k c1 c2 c3 c4 c5 ma mb sl l B:=
 ⟨a.cell h.a1 c,a.cell h.a2 i,a.cell h.a3 f,a.cell h.a4 g,h.a5.ext a<|h1 _<|.inr<|.inr<|.inl rfl,h.am.ext a<|h1 _<|.inl rfl,h.bm.ext a<|h1 _<|.inr<|.inl rfl,h.ls.ext a fun b e=>h1 b<|.inr<|.inr<|.inr e,h.d,h.n1,h.n2,h.n3,h.n4,h.n5,h.n6⟩
def PrfAt.lt(h:PrfAt w k c1 c2 c3 c4 c5 ma mb sl l B){b}(a:PW ma mb c5 sl b):b<w.heap.size:=by
 rcases a with rfl|rfl|rfl|a;exact h.am.lt;exact h.bm.lt;exact h.a5.lt;exact h.ls.lt a
def SaysAt.ext{X n}(h:SaysAt w k p c1 c2 c3 c4 c5 ma mb L G S F FP sl l B)(d:Ext X w w')(f:∀b,X b->n<=b)(j:∀b,PW ma mb c5 sl b->b<n\/¬X b)(zc:c1.block<n/\c2.block<n/\c3.block<n/\c4.block<n)(e:∀b,F b->b<n)(g:∀b,FP b->b<n):SaysAt w' k p c1 c2 c3 c4 c5 ma mb L G S F FP sl l B:=by
 have a:∀b,b<n->¬X b:=fun b c i=>Oh<|f b i;exact⟨h.prf.ext d Gd (a _ zc.1) (a _ zc.2.1) (a _ zc.2.2.1)<|a _ zc.2.2.2,h.know.ext d fun b c=>a b<|e b c,h.pool.ext d fun b c=>a b<|g b c,h.dF,h.dP⟩
def SaysAt.pure(h:SaysAt w k p c1 c2 c3 c4 c5 ma mb L G S F FP sl l B)(E:Pure w w'):SaysAt w' k p c1 c2 c3 c4 c5 ma mb L G S F FP sl l B:=
 ⟨h.prf.ext E (fun _ _ h=>h) (fun h=>h) (fun h=>h) (fun h=>h) fun h=>h,h.know.pure E,h.pool.pure E,h.dF,h.dP⟩
def SaysAt.zc(h:SaysAt w k p c1 c2 c3 c4 c5 ma mb L G S F FP sl l B):c1.block<w.heap.size/\c2.block<w.heap.size/\c3.block<w.heap.size/\c4.block<w.heap.size:=
 ⟨World.block_lt_of_cell? w _ h.prf.a1,World.block_lt_of_cell? w _ h.prf.a2,World.block_lt_of_cell? w _ h.prf.a3,World.block_lt_of_cell? w _ h.prf.a4⟩
def PrfAt.bar(h:PrfAt w k c1 c2 c3 c4 c5 ma mb sl l B)(t:Int):∃w',(Instr.mapUpdate 232 (.map<|some mb) (vi t)<|vb true).run prog w=.ok () w'/\(∃c,(c=B\/c=B++[t])/\PrfAt w' k c1 c2 c3 c4 c5 ma mb sl l c)/\Ext (·=mb) w w':=by
 have f:=h.d mb<|.inr<|.inl rfl;have back:∀{w':World} {c:List Int},IMap tru w' mb (zFT c)->Ext (·=mb) w w'->PrfAt w' k c1 c2 c3 c4 c5 ma mb sl l c:=fun i a =>
  ⟨a.cell h.a1 fun e=>f.1 e.symm,a.cell h.a2 fun e=>f.2.1 e.symm,a.cell h.a3 fun e=>f.2.2.1 e.symm,a.cell h.a4 fun e=>f.2.2.2 e.symm,h.a5.ext a fun e=>h.n3 e.symm,h.am.ext a h.n1,i,h.ls.ext a fun b j e=>h.n5<|e▸j,h.d,h.n1,h.n2,h.n3,h.n4,h.n5,h.n6⟩
 cases g:SE.look (zFT B) t with
 |none =>
  have⟨w',h1,h2,h3⟩:=h.bm.put (P:=prog) (T:=232) underlying232 underlying73 g ()
  exact⟨w',h1,⟨_,.inr rfl,back (by rw[zAZ];exact h2) h3⟩,h3⟩
 |some v =>
  cases v
  have⟨w',h1,h2,h3⟩:=h.bm.again (P:=prog) (T:=232) underlying232 underlying73 g
  exact⟨w',h1,⟨_,.inl rfl,back h2 h3⟩,h3⟩
def PrfAt.barred(h:PrfAt w k c1 c2 c3 c4 c5 ma mb sl l B)(t:Int):(Instr.lookup 232 (.map<|some mb) (vi t) false).run prog w=.ok (vb<|decide (t∈B)) w:=by
 rcases h.bm.get (P:=prog) (T:=232) underlying232 underlying73 (zeroValue4 _) t false with⟨h1,h2⟩|⟨v,h1,h2⟩;have a:t∉B:=by have:=uS.1 h1;rwa [jRE]at this
 rw[decide_eq_false a];exact h2;have b:t∈B:=by have:=tB h1;rw[<-jRE B];exact mem_map.2 ⟨_,this,rfl⟩
 rw[decide_eq_true b];exact h2
end
structure SaysRet(w0:World)(k p:Addr)(c1 c2 c3 c4 c5:Addr)(ma mb:Nat)(L:Pool)(G:List Int)(S:List Way)(F FP:NP)(sl:Sl)(l:List Step)(t r:Int)(ok:Bool)(w':World)(a:Sl)(M:List Step)(c:List Int):Prop where
 st:SaysAt w' k p c1 c2 c3 c4 c5 ma mb L G S F FP a (l++M) c
 prf:PrfOk L G (fun x=>x∈zH S) (l++M) c
 new:∀s∈M,jGY S s.t<=jGY S t/\(Sub L t s.t\/s.t∈zH S)
 idx:ok=true->∃i,r=((i:Nat):Int)/\∃hi:i<(l++M).length,(l++M)[i].t=t
 drv:ok=true↔Drv L (fun x=>x∈zH S) t
 ext:Ext (PW ma mb c5 sl) w0 w'
 own:∀b,a.blk b->sl.blk b\/w0.heap.size<=b
 last:ok=true->M=[]\/tAt (l++M) (((l++M).length:Int)-1)=t
 dp:∀s∈M,Dp L S t s.t
 cl:∀s∈M,∀y,Dep L S s.t y->y∈(l++M).map Step.t
structure SaysCur(w0:World)(H:NP)(w:World)(k p:Addr)(c1 c2 c3 c4 c5:Addr)(ma mb:Nat)(L:Pool)(G:List Int)(S:List Way)(F FP:NP)(sl:Sl)(l:List Step)(t:Int)(sl1:Sl)(M B:_):Prop where
 st:SaysAt w k p c1 c2 c3 c4 c5 ma mb L G S F FP sl1 (l++M) B
 prf:PrfOk L G (fun x=>x∈zH S) (l++M) B
 new:∀s∈M,jGY S s.t<jGY S t/\(Sub L t s.t\/s.t∈zH S)
 ext:Ext (PW ma mb c5 sl) w0 w
 own:∀b,sl1.blk b->sl.blk b\/w0.heap.size<=b
 vis:∀b,sl1.blk b->¬H b
 hs:Hst w0 H w H w
 dp:∀s∈M,Dp L S t s.t
 cl:∀s∈M,∀y,Dep L S s.t y->y∈(l++M).map Step.t
section
variable {w0 w w':World} {H H':NP} {k p c1 c2 c3 c4 c5:Addr} {ma mb:Nat} {L:Pool} {G:List Int} {S:List Way} {F FP:NP} {sl sl1 sl2:Sl} {l M M2:List Step} {B0 B B2:List Int} {t:Int}
def PW.old(h:SaysAt w0 k p c1 c2 c3 c4 c5 ma mb L G S F FP sl l B0)(d:∀b,sl1.blk b->sl.blk b\/w0.heap.size<=b):∀b,PW ma mb c5 sl1 b->b<w0.heap.size->PW ma mb c5 sl b:=by
 rintro b (a|a|a|a) c;exact .inl a;exact .inr<|.inl a;exact .inr<|.inr<|.inl a;exact(d b a).elim (fun h=>.inr<|.inr<|.inr h) fun h=>Om
def SaysCur.nh(h:SaysCur w0 H w k p c1 c2 c3 c4 c5 ma mb L G S F FP sl l t sl1 M B)(a:SaysAt w0 k p c1 c2 c3 c4 c5 ma mb L G S F FP sl l B0):∀b,PW ma mb c5 sl1 b->¬H b:=by
 have old:∀b,b<w0.heap.size->¬H b:=fun b c hh=>Oh<|h.hs.old b hh;rintro b (rfl|rfl|rfl|c);exact old _<|a.prf.lt<|.inl rfl;exact old _<|a.prf.lt<|.inr<|.inl rfl;exact old _<|a.prf.lt<|.inr<|.inr<|.inl rfl;exact h.vis b c
def SaysCur.hst(h:SaysCur w0 H w k p c1 c2 c3 c4 c5 ma mb L G S F FP sl l t sl1 M B)(c:SaysAt w0 k p c1 c2 c3 c4 c5 ma mb L G S F FP sl l B0)(hs:Hst w0 H w H' w'):SaysCur w0 H' w' k p c1 c2 c3 c4 c5 ma mb L G S F FP sl l t sl1 M B:=by
 have d:=hs.disj (G:=PW ma mb c5 sl1) fun b a=>⟨h.st.prf.lt a,h.nh c b a⟩;exact⟨h.st.ext hs.ext hs.old (fun b a=>.inr<|d b a) c.zc (fun b a=>c.know.lt a) fun b a=>c.pool.lt a,h.prf,h.new,h.ext.hst hs,h.own,fun b a=>d b<|.inr<|.inr<|.inr a,hs.here,h.dp,h.cl⟩
def SaysCur.step{u r ok}(h:SaysCur w0 H w k p c1 c2 c3 c4 c5 ma mb L G S F FP sl l t sl1 M B)(j:SaysAt w0 k p c1 c2 c3 c4 c5 ma mb L G S F FP sl l B0)(hr:SaysRet w k p c1 c2 c3 c4 c5 ma mb L G S F FP sl1 (l++M) u r ok w' sl2 M2 B2)(n:jGY S u<jGY S t)(d:Sub L t u\/u∈zH S)(e:∀x,u∈zH S->jGY S x<=jGY S u->x∈zH S)(c:Dep L S t u):
  Kept H w w'/\SaysCur w0 H w' k p c1 c2 c3 c4 c5 ma mb L G S F FP sl l t sl2 (M++M2) B2:=by
 have f:Kept H w w':=hr.ext.kept fun b a m=>h.nh j b m a
 refine⟨f,by rw[<-append_assoc];exact hr.st,by rw[<-append_assoc];exact hr.prf,fun s hs=>?_,h.ext.trans' hr.ext fun i hi a=>PW.old j h.own i a hi,fun b a=>?_,fun b a hh=>?_,h.hs.again f,fun s hs=>?_,fun s hs y g=>?_⟩
 rcases mem_append.1 hs with hs|hs
 exact h.new s hs
 have⟨q1,q2⟩:=hr.new s hs
 refine⟨Om,?_⟩
 rcases q2 with q2|q2
 rcases d with h1|h1
 exact .inl<|h1.trans q2
 exact .inr<|e _ h1 q1
 exact .inr q2
 rcases hr.own b a with h1|h1
 exact h.own b h1
 right;have:=h.ext.size;omega
 rcases hr.own b a with h1|h1
 exact h.vis b h1 hh
 have:=h.hs.lt b hh;omega
 rcases mem_append.1 hs with hs|hs
 exact h.dp s hs
 exact .step c<|hr.dp s hs
 rw[<-append_assoc]
 rcases mem_append.1 hs with hs|hs
 rw[map_append];exact mem_append_left _<|h.cl s hs y g
 exact hr.cl s hs y g
end
def jOR{S u x}(b:u∈zH S)(h:jGY S x<=jGY S u):x∈zH S:=by
 refine Classical.byContradiction fun a=>?_;have:=jJP b;rw[jMU a]at h;omega
end Go.Proofs
end
section
open Go Go.SE List
namespace Go.Proofs
open Tryz
attribute [local irreducible] Calls
def c_says(k p c1 c2 c3 c4 E:Addr)(ma mb:Nat){L:Pool}{G:List Int}{S:List Way}{F FP:NP}(hW:Wf L)(hk:KnowOk L G S):∀(n:Nat) (t:Int) (w0:World) (sl:Sl) (l:List Step) (B:List Int),jGY S t<n ->
  SaysAt w0 k p c1 c2 c3 c4 E ma mb L G S F FP sl l B->PrfOk L G (fun x=>x∈zH S) l B ->
  cl 160 #[vi t,vp (some c1),vp (some c2),vp (some c3),vp (some c4),vp (some E)] w0 (XE fun r ok w'=>∃sl' M B',SaysRet w0 k p c1 c2 c3 c4 E ma mb L G S F FP sl l t r ok w' sl' M B'):=by
 intro n
 induction n with
 |zero=>intro t w0 sl l B h;omega
 |succ n ih =>
 intro t w0 sl l B hrk I hp0
 suffices key:∀K:Int->Bool->WP,(∀r ok w' sl' M B',SaysRet w0 k p c1 c2 c3 c4 E ma mb L G S F FP sl l t r ok w' sl' M B'->K r ok w')->m_N t c1 c2 c3 c4 E w0 K from
  w_N _ _ _ _ _ _ w0 _ (key _ fun r ok w' sl' M B' h=>⟨sl',M,B',h⟩)
 intro K hK
 have hKs:∀r u t,u∈zH S->oN L r u t->t∈zH S:=fun r u t hu ha=>hk.closed u hu r t ha
 unfold m_N
 rcases I.prf.am.get (P:=prog) (T:=231) underlying231 underlying73 (zeroValue3 _) t true with⟨hl,hrun⟩|⟨v,hl,hrun⟩
 case inr =>
  obtain⟨i,hi,rfl,hit⟩:=zBC hl
  refine⟨_,I.prf.a1,_,true,hrun,Br.t rfl (hK _ _ w0 sl [] B ⟨by simpa using I,by simpa using hp0,Sm,fun _=>⟨i,rfl,by simpa using hi,by simpa using hit⟩,⟨fun _=>hit▸hp0.drv _ (getElem_mem hi),fun _=>rfl⟩,Ext.refl _,fun b g=>.inl g,fun _=>.inl rfl,Sm,Sm⟩)⟩
 case inl =>
 have htl:t∉l.map Step.t:=jRG.1 hl
 refine⟨_,I.prf.a1,_,false,hrun,Br.f rfl ?_⟩
 intro H1 w2 hs2
 have old:∀{H:NP} {w:World},Hst w0 H w H w->∀b,b<w0.heap.size->¬H b:=fun hs b g hh=>Oh (hs.old b hh)
 have C0:SaysCur w0 None w0 k p c1 c2 c3 c4 E ma mb L G S F FP sl l t sl [] B:=⟨by simpa using I,by simpa using hp0,Sm,Ext.refl _,fun b g=>.inl g,fun b _ h=>h,Hst.start w0,Sm,Sm⟩
 have C2:=C0.hst I hs2
 have c5h:∀{H:NP} {w:World} {j:Sl} {M B1:_},SaysCur w0 H w k p c1 c2 c3 c4 E ma mb L G S F FP sl l t j M B1->¬H E.block:=fun C=>C.nh I _ (.inr (.inr (.inl rfl)))
 have J1f:∀(r a b:Int) (H:NP) (w:World) (j:Sl) (M:List Step) (B1:List Int),SaysCur w0 H w k p c1 c2 c3 c4 E ma mb L G S F FP sl l t j M B1->¬Drv L (fun x=>x∈zH S) t->m_N_j1 t c1 c2 E false r a b t H w K:=by
  intro r a b H w j M B1 C hnd;refine Br.t rfl ?_;have⟨w5,hr5,⟨B',hB',P5⟩,E5⟩:=C.st.prf.bar t;have hmb:=C.nh I mb (.inr (.inl rfl));have hpb:PrfOk L G (fun x=>x∈zH S) (l++M) B':=by
   rcases hB' with rfl|rfl
   .exact C.prf
   .exact C.prf.bars hnd
  refine⟨_,C.st.prf.a2,w5,hr5,E5.kept fun b g e=>hmb (e▸g),hK 0 false w5 j M B' ⟨⟨P5,C.st.know.ext E5 fun b g e=>C.st.dF b g (.inr (.inl e)),C.st.pool.ext E5 fun b g e=>C.st.dP b g (.inr (.inl e)),C.st.dF,C.st.dP⟩,hpb,fun s hs=>⟨Nat.le_of_lt (C.new s hs).1,(C.new s hs).2⟩,(fun h=>by cases h),⟨(fun h=>by cases h),fun h=>absurd h hnd⟩,C.ext.trans' E5 fun i hi e=>.inr (.inl e),C.own,(fun h=>by cases h),C.dp,C.cl⟩⟩
 have J1t:∀(r a b:Int) (H:NP) (w:World) (j:Sl) (M:List Step) (B1:List Int),SaysCur w0 H w k p c1 c2 c3 c4 E ma mb L G S F FP sl l t j M B1->fol L G (l++M) ⟨r,a,b,t⟩=true->Drv L (fun x=>x∈zH S) t->(∀y,Dep L S t y->y∈(l++M).map Step.t)->m_N_j1 t c1 c2 E true r a b t H w K:=by
  intro r a b H w j M B1 C hfol hdt hdp;refine Br.f rfl ?_;have hsl:j.len=(l++M).length:=by rw[C.st.prf.ls.len];simp
  have hfew:=C.prf.few;have hL6:=hW.ok.few;have htn:t∉(l++M).map Step.t:=by
   rw[map_append,mem_append];rintro(h|h)
   .exact htl h
   .have⟨s,hs,e⟩:=mem_map.1 h;have:=(C.new s hs).1;rw[e]at this;omega
  have hlk:=jRG.2 htn;have⟨w5,hr5,I5,E5⟩:=C.st.prf.am.put (P:=prog) (T:=231) underlying231 underlying73 hlk ((l++M).length:Int);have hma:=C.nh I ma (.inl rfl);have da:=C.st.prf.d ma (.inl rfl);have b5:Box w5 E [j.v] 169:=C.st.prf.a5.ext E5 fun e=>C.st.prf.n2 e.symm;refine⟨_,C.st.prf.a1,j,C.st.prf.a5.cell0,w5,by rw[hsl];exact hr5,E5.kept fun b g e=>hma (e▸g),j,b5.cell0,?_⟩;intro p3 w7 h7;have E7:Pure w5 w7:=Ext.new h7;have ls7:=(C.st.prf.ls.ext E5 fun b g e=>C.st.prf.n4 (e▸g)).pure E7;have⟨s1,w8,hr8,R8,X8,f8⟩:=ls7.append (P:=prog) (ty:=169) (c:=1) zBX (r:=jOE ⟨r,a,b,t⟩) (Box.of_new h7).row rfl rfl (by simp at hfew|-;omega) (by simp[maxLen]at hfew|-;omega);have b8:Box w8 E [j.v] 169:=(b5.pure E7).ext X8 C.st.prf.n6;refine⟨s1,w8,hr8,X8.kept fun b g hx=>C.vis b hx g,b8.canW0 Sm,c5h C,?_⟩;rintro _ rfl;have E9:=Ext.setCell (w:=w8) E s1.v;have z5:w.heap.size<=w7.heap.size:=Oi E5.size E7.size;have f8':∀b,s1.blk b->j.blk b\/w.heap.size<=b:=fun b g=>(f8 b g).imp_right fun h=>Om;have X:Ext (PW ma mb E j) w (w8.setCell E s1.v):=(((E5.mono fun b _ e=>.inl e).trans (E7.pure (F:=PW ma mb E j))).trans (X8.mono fun b _ h=>.inr (.inr (.inr h)))).trans (E9.mono fun b _ e=>.inr (.inr (.inl e)));have nx:∀{b},(b=c1.block\/b=c2.block\/b=c3.block\/b=c4.block)->¬PW ma mb E j b:=fun g hx=>by
   have⟨d1,d2,d3,d4⟩:=C.st.prf.d _ hx;rcases g with h|h|h|h
   .exact d1 h
   .exact d2 h
   .exact d3 h
   .exact d4 h
  have lt1:∀{b},PW ma mb E j b->b<w.heap.size:=fun g=>C.st.prf.lt g;have I9:IMap jRK (w8.setCell E s1.v) ma (zBK ((l++M)++[⟨r,a,b,t⟩])):=by
   rw[jRF];exact((I5.pure E7).ext X8 C.st.prf.n4).ext E9 C.st.prf.n2
  have P9:PrfAt (w8.setCell E s1.v) k c1 c2 c3 c4 E ma mb s1 ((l++M)++[⟨r,a,b,t⟩]) B1:=by
   refine⟨X.cell C.st.prf.a1 (nx (.inl rfl)),X.cell C.st.prf.a2 (nx (.inr (.inl rfl))),X.cell C.st.prf.a3 (nx (.inr (.inr (.inl rfl)))),X.cell C.st.prf.a4 (nx (.inr (.inr (.inr rfl)))),b8.set0,I9,?_,?_,?_,C.st.prf.n1,C.st.prf.n2,C.st.prf.n3,?_,?_,?_⟩
   .have:=((C.st.prf.bm.ext E5 fun e=>C.st.prf.n1 e.symm).pure E7).ext X8 C.st.prf.n5;exact this.ext E9 C.st.prf.n3
   .have hne : ∀ b, s1.blk b -> b ≠ E.block:=fun b g e => by
     rcases f8' b g with h|h
     .exact C.st.prf.n6 (e▸h)
     .have:=lt1 (.inr (.inr (.inl rfl)));omega
    have:=R8.ext E9 hne;simpa using this
   .rintro b (g|g|g|g)
    .exact C.st.prf.d b (.inl g)
    .exact C.st.prf.d b (.inr (.inl g))
    .exact C.st.prf.d b (.inr (.inr (.inl g)))
    .rcases f8' b g with h|h
     .exact C.st.prf.d b (.inr (.inr (.inr h)))
     .have:=C.st.zc;omega
   .intro g;rcases f8' _ g with h|h
    .exact C.st.prf.n4 h
    .have:=lt1 (.inl rfl);omega
   .intro g;rcases f8' _ g with h|h
    .exact C.st.prf.n5 h
    .have:=lt1 (.inr (.inl rfl));omega
   .intro g;rcases f8' _ g with h|h
    .exact C.st.prf.n6 h
    .have:=lt1 (.inr (.inr (.inl rfl)));omega
  have hlk9:SE.look (zBK ((l++M)++[⟨r,a,b,t⟩])) t=some ((l++M).length:Int):=by
   rw[jRF,jPC (by rw[jRH];exact htn),if_pos rfl]
  rcases I9.get (P:=prog) (T:=231) underlying231 underlying73 (zeroValue3 _) t false with⟨hx,_⟩|⟨v,hv,hrun9⟩
  .rw[hx]at hlk9;cases hlk9
  .rw[hv] at hlk9;cases hlk9;have dg:∀{Z:NP},(∀b,Z b->b<w.heap.size)->(∀b,Z b->¬ PW ma mb E j b)->∀b,Z b->¬ PW ma mb E s1 b:=fun hz h b g hx=>by
    rcases hx with hx|hx|hx|hx
    .exact h b g (.inl hx)
    .exact h b g (.inr (.inl hx))
    .exact h b g (.inr (.inr (.inl hx)))
    .rcases f8' b hx with h'|h'
     .exact h b g (.inr (.inr (.inr h')))
     .have:=hz b g;omega
   refine⟨_,P9.a1,_,hrun9,hK _ true _ s1 (M++[⟨r,a,b,t⟩]) B1 ⟨⟨by rw[<-append_assoc];exact P9,C.st.know.ext X fun b g=>C.st.dF b g,C.st.pool.ext X fun b g=>C.st.dP b g,dg (fun b g=>C.st.know.lt g) C.st.dF,dg (fun b g=>C.st.pool.lt g) C.st.dP⟩,by rw[<-append_assoc];exact C.prf.snoc hfol htn hdt,fun s hs=>?_,fun _=>⟨(l++M).length,rfl,Sm,Sm⟩,⟨fun _=>hdt,fun _=>rfl⟩,C.ext.trans' X fun i hi g=>PW.old I C.own i g hi,fun b g=>?_,fun _=>.inr ?_,fun s hs=>?_,fun s hs y hy=>?_⟩⟩
   .rcases mem_append.1 hs with hs|hs
    .exact⟨Nat.le_of_lt (C.new s hs).1,(C.new s hs).2⟩
    .simp at hs;subst hs;exact⟨Nat.le_refl _,.inl (.refl t)⟩
   .rcases f8' b g with h|h
    .exact C.own b h
    .right;have:=C.ext.size;omega
   .rw[<-append_assoc];have e:((((l++M)++[(⟨r,a,b,t⟩:Step)]).length:Int)-1)=((l++M).length:Int):=So;rw[e,jLD Sm];simp
   .rcases mem_append.1 hs with hs|hs
    .exact C.dp s hs
    .simp at hs;subst hs;exact .refl t
   .rw[<-append_assoc,map_append];refine mem_append_left _ ?_;rcases mem_append.1 hs with hs|hs
    .exact C.cl s hs y hy
    .simp at hs;subst hs;exact hdp y hy
 have hcall : ∀ (u : Int) (H : NP) (w : World) (j : Sl) (M : List Step) (B1 : List Int), SaysCur w0 H w k p c1 c2 c3 c4 E ma mb L G S F FP sl l t j M B1 -> jGY S u < jGY S t -> (Sub L t u \/ u ∈ zH S) -> Dep L S t u -> ∀ (Q : Int -> Bool -> WP),
   (∀(r:Int) (ok:Bool) (w':World) (J:Sl) (M2:List Step) (B2:List Int),SaysCur w0 H w' k p c1 c2 c3 c4 E ma mb L G S F FP sl l t J (M++M2) B2->(ok=true↔Drv L (fun x=>x∈zH S) u)->(ok=true->∃i,r=((i:Nat):Int)/\∃hi:i<(l++(M++M2)).length,(l++(M++M2))[i].t=u)->Kept H w w'->Q r ok w') ->
   ∃v13:Value,w.cell? c4=some v13/\∃(f1:FuncId) (fs1 cs1:Array Value),v13=.func (.func f1) fs1 cs1/\(∀args w,(callFunc f1 args).run prog w=.ok (.enter f1 args) w)/\Calls prog f1 (fs1++#[(vi u)]++cs1) w (XE fun r1 r2 w'=>Kept H w w'/\Q r1 r2 w'):=by
  intro u H w j M B1 C hu hsub hdep Q hQ
  refine⟨_,C.st.prf.a4,160,#[],_,rfl,call160,?_⟩
  refine(ih u w j (l++M) B1 Om C.st C.prf).mono ?_
  rintro _ w' ⟨r,ok,rfl,J,M2,B2,hret⟩
  have⟨hkp,C2⟩:=C.step I hret hu hsub (fun x hu hx=>jOR hu hx) hdep
  refine⟨r,ok,rfl,hkp,hQ r ok w' J M2 B2 C2 hret.drv (fun h=>?_) hkp⟩
  have⟨i,e,hi,hit⟩:=hret.idx h
  refine⟨i,e,by rw[<-append_assoc];exact hi,?_⟩
  simpa[append_assoc]using hit
 have⟨sg,m,sk,k2,hF2⟩:=C2.st.know
 have⟨vr,vf,hlook,hway⟩:=k2.look t
 refine⟨_,C2.st.prf.a2,_,C2.st.prf.barred t,_,C2.st.prf.a3,k,rfl,_,k2.box.cell rfl,vr,vf,_,hlook,fun hc=>?_,fun hc=>?_⟩
 .-- it is seen
  have o:t∈zH S:=by simpa using hc
  have hdt:Drv L (fun x=>x∈zH S) t:=.seen o
  have hnB:decide (t∈B)=false:=decide_eq_false fun g=>hp0.bar t g hdt
  have hin:=hk.inp t o
  have R:¬inP L t=false:=by simp[hin]
  rw[hnB]
  rcases way_of hk.toWaysOk (tB (hway o))with⟨rfl,rfl,hg⟩|⟨hne,hari,hfs,hrf⟩
  .refine⟨fun h=>by simp at h,fun _=>?_⟩
   intro H2 w10 hs10
   have C10:=C2.hst I hs10
   refine J1t 0 0 0 H2 w10 sl [] B C10 ?_ hdt fun y hy=>absurd rfl ((Dep.way hk.nodup (hway o)).1 hy).1
   unfold fol;rw[if_neg R,if_pos rfl];simp[hg]
  .refine⟨fun _=>?_,fun h=>absurd (by simpa using h) hne⟩
   intro H2 w10 hs10
   have C10:=C2.hst I hs10
   refine hcall vf H2 w10 sl [] B C10 hrf (.inr hfs) ((Dep.way hk.nodup (hway o)).2 ⟨hne,rfl⟩) _ ?_
   intro r1 ok w11 J M2 B2 C11 hd11 hi11 _ w12 hs12
   have C12:=C11.hst I hs12
   obtain⟨i,rfl,hi,hit⟩:=hi11 (hd11.2 (.seen hfs))
   refine J1t vr i 0 H2 w12 J _ B2 C12 ?_ hdt (fun y hy=>by rw[((Dep.way hk.nodup (hway o)).1 hy).2];exact mem_map.2 ⟨_,getElem_mem hi,hit⟩)
   have hr:=hari.rule
   unfold fol
   rw[if_neg R,if_neg hne,if_pos hr]
   have h1:=jDF hi
   have h2:=jLD hi
   rw[hit]at h2
   simp only[h1,h2,Bool.true_and,Bool.and_eq_true,beq_iff_eq,true_and]
   exact(jTF hr).2 hari
 .-- it is not
  have o:t∉zH S:=by simpa using hc
  refine⟨fun g=>?_,fun g=>?_⟩
  .intro H2 w4 hs4
   have C4:=C2.hst I hs4
   refine⟨_,C4.st.prf.a3,?_⟩
   refine(jXH k p t w4 C4.st.know C4.st.pool hW).mono ?_
   rintro _ w13 ⟨r3,r4,r5,r6,rfl,z,E13⟩
   refine⟨r3,r4,r5,r6,rfl,E13.keptP,?_⟩
   have C13:SaysCur w0 H2 w13 k p c1 c2 c3 c4 E ma mb L G S F FP sl l t sl [] B:=⟨C4.st.pure E13,C4.prf,C4.new,C4.ext.thenPure E13,C4.own,C4.vis,C4.hs.again E13.keptP,C4.dp,C4.cl⟩
   have J2 : ∀ (H : NP) (w : World) (j : Sl) (M : List Step) (B1 : List Int) (ok4 : Bool) (rl a : Int), SaysCur w0 H w k p c1 c2 c3 c4 E ma mb L G S F FP sl l t j M B1 ->
     (ok4=false->¬Drv L (fun x=>x∈zH S) t) ->
     (ok4=true->r4<=0->fol L G (l++M) ⟨rl,a,0,t⟩=true/\Drv L (fun x=>x∈zH S) t) ->
     (ok4=true->0<r4->jGY S r4<jGY S t/\(Sub L t r4\/r4∈zH S)/\(Drv L (fun x=>x∈zH S) r4->Drv L (fun x=>x∈zH S) t)/\(Drv L (fun x=>x∈zH S) t->Drv L (fun x=>x∈zH S) r4) /\
      ∀M2 (i:Nat) (hi:i<(l++(M++M2)).length),(l++(M++M2))[i].t=r4->fol L G (l++(M++M2)) ⟨rl,a,i,t⟩=true) ->
     (ok4=true->0<r3->r3∈(l++M).map Step.t) ->
     m_N_j2 t c1 c2 c4 E r4 ok4 rl a 0 t w0 H w K:=by
    intro H w j M B1 ok4 rl a C h1 h2 h3 h4
    refine⟨fun hc=>?_,fun hc=>?_⟩
    .rw[Bool.and_eq_true]at hc
     have⟨hok,hpos⟩:=hc
     have hpos:=of_decide_eq_true hpos
     have⟨g1,g2,g3,g4,g5⟩:=h3 hok hpos
     intro H5 w19 hs19
     have C19:=C.hst I hs19
     refine hcall r4 H5 w19 j M B1 C19 g1 g2 ((Dep.made z.symm o).2 ⟨hpos,.inr rfl⟩) _ ?_
     intro r7 r8 w20 J M2 B2 C20 hd20 hi20 _ w21 hs21
     have C21:=C20.hst I hs21
     cases r8 with
     |false=>exact J1f _ _ _ H5 w21 J _ B2 C21 (fun Y=>by have:=hd20.2 (g4 Y);cases this)
     |true =>
      obtain⟨i,rfl,hi,hit⟩:=hi20 rfl
      refine J1t _ _ _ H5 w21 J _ B2 C21 (g5 M2 i hi hit) (g3 (hd20.1 rfl)) fun y hy=>?_
      rcases(Dep.made z.symm o).1 hy with⟨hy0,e|e⟩
      .subst e
       rw[<-append_assoc,map_append]
       exact mem_append_left _ (h4 hok hy0)
      .subst e
       exact mem_map.2 ⟨_,getElem_mem hi,hit⟩
    .intro H5 w19 hs19
     have C19:=C.hst I hs19
     cases ok4 with
     |false=>exact J1f _ _ _ H5 w19 j M B1 C19 (h1 rfl)
     |true =>
      have hle:r4<=0:=by simpa using hc
      have⟨q1,q2⟩:=h2 rfl hle
      refine J1t _ _ _ H5 w19 j M B1 C19 q1 q2 fun y hy=>?_
      rcases(Dep.made z.symm o).1 hy with⟨hy0,e|e⟩
      .subst e;exact h4 rfl hy0
      .omega
   cases hin:inP L t with
   |false =>
    have hm:jDY L S t=(0,0,false,false):=by unfold jDY;rw[if_pos hin]
    rw[hm]at z;cases z
    have hnd:¬Drv L (fun x=>x∈zH S) t:=fun Y=>by
     have hnode:nodeOf L t=xL:=by unfold nodeOf;rw[yC hin];rfl
     rcases Y.inv with h|h|⟨h,_⟩|⟨h,_⟩|⟨h,_⟩
     .exact o h
     all_goals (rw[hnode]at h;exact absurd h De)
    refine⟨fun h=>by simp at h,fun _=>?_⟩
    intro H4 O q
    exact J2 H4 O sl [] B false _ _ (C13.hst I q) (fun _=>hnd) (fun h=>by cases h) (fun h=>by cases h) (fun h=>by cases h)
   |true =>
   have R:¬inP L t=false:=by simp[hin]
   have ht1:=(zI.1 hin).1
   generalize A:nodeOf L t=n at *
   have hm:=z
   unfold jDY at hm
   rw[if_neg R,A]at hm
   have kx:∀x∈zB n,inP L x=true/\x<t:=by have:=(hW.node hin).2.2.2.2.1;rw[A]at this;exact this
   rcases xSq hW hin with hk1|W|hk5|hk6|hk7
   .rw[A]at hk1
    rw[if_pos hk1]at hm;cases hm
    refine⟨fun h=>by simp at h,fun _=>?_⟩
    intro H4 O q
    have Y:Drv L (fun x=>x∈zH S) t:=.free (by rw[A];exact hk1)
    refine J2 H4 O sl [] B true _ _ (C13.hst I q) (fun h=>by cases h) (fun _ _=>⟨?_,Y⟩) (fun _ h=>Om) fun _ h=>Om
    unfold fol;rw[if_neg R,A];simp[hk1]
   .rw[A]at W
    rw[if_neg (by rw[W];decide),if_pos W]at hm;cases hm
    have ha:=kx n.a (jLQ (.inl W))
    have hb':=kx n.b (zFG W)
    have ha1:=(zI.1 ha.1).1
    have hb1:=(zI.1 hb'.1).1
    have sa:Sub L t n.a:=.kid (.refl t) (by rw[A];exact jLQ (.inl W))
    have sb:Sub L t n.b:=.kid (.refl t) (by rw[A];exact zFG W)
    have inv:Drv L (fun x=>x∈zH S) t->Drv L (fun x=>x∈zH S) n.a/\Drv L (fun x=>x∈zH S) n.b:=fun Y=>by
     rcases Y.inv with h|h|⟨_,h1,h2⟩|⟨h,_⟩|⟨h,_⟩
     .exact absurd h o
     .rw[A,W]at h;exact absurd h De
     .rw[A]at h1 h2;exact⟨h1,h2⟩
     .rw[A,W]at h;cases h
     .rw[A,W]at h;exact absurd h De
    refine⟨fun _=>?_,fun h=>by simp at h;omega⟩
    intro H4 O q
    refine hcall n.a H4 O sl [] B (C13.hst I q) (jHW o ha1 ha.2) (.inl sa) ((Dep.made z.symm o).2 ⟨Om,.inl rfl⟩) _ ?_
    intro r9 r10 w22 J M2 B2 C22 V U _ w23 hs23
    have C23:=C22.hst I hs23
    refine J2 H4 w23 J _ B2 r10 _ _ C23 (fun h Y=>by have:=V.2 (inv Y).1;rw[h]at this;cases this) (fun _ h=>Om) (fun h _=>⟨jHW o hb1 hb'.2,.inl sb,fun Y=>.pair (by rw[A];exact W) (by rw[A];exact V.1 h) (by rw[A];exact Y),fun Y=>(inv Y).2,?_⟩) (fun h _=>by have⟨i1,_,N,D⟩:=U h;exact mem_map.2 ⟨_,getElem_mem N,D⟩)
    intro M3 i hi hit
    obtain⟨i1,rfl,N,D⟩:=U h
    have hi1':i1<(l++(([]++M2)++M3)).length:=by simp at N|-;omega
    have e1:tAt (l++(([]++M2)++M3)) (i1:Int)=n.a:=by
     rw[<-append_assoc,jYI N];exact D
    have e2:=jLD hi
    rw[hit]at e2
    clear hit
    generalize l++(([]++M2)++M3)=l' at *
    unfold fol;rw[if_neg R,A]
    simp[W,jDF hi,jDF hi1',e1,e2]
   .rw[A]at hk5
    rw[if_neg (by rw[hk5];decide),if_neg (by rw[hk5];decide),if_pos hk5]at hm;cases hm
    have ha:=kx n.a (jLQ (.inr (.inl hk5)))
    have ha1:=(zI.1 ha.1).1
    have sa:Sub L t n.a:=.kid (.refl t) (by rw[A];exact jLQ (.inr (.inl hk5)))
    have inv:Drv L (fun x=>x∈zH S) t->Drv L (fun x=>x∈zH S) n.a:=fun Y=>by
     rcases Y.inv with h|h|⟨h,_⟩|⟨_,h⟩|⟨h,_⟩
     .exact absurd h o
     .rw[A,hk5]at h;exact absurd h De
     .rw[A,hk5]at h;cases h
     .rw[A]at h;exact h
     .rw[A,hk5]at h;exact absurd h De
    refine⟨fun _=>?_,fun h=>by simp at h;omega⟩
    intro H4 O q
    refine hcall n.a H4 O sl [] B (C13.hst I q) (jHW o ha1 ha.2) (.inl sa) ((Dep.made z.symm o).2 ⟨Om,.inl rfl⟩) _ ?_
    intro r9 r10 w22 J M2 B2 C22 V U _ w23 hs23
    have C23:=C22.hst I hs23
    refine J2 H4 w23 J _ B2 r10 _ _ C23 (fun h Y=>by have:=V.2 (inv Y);rw[h]at this;cases this) (fun h _=>⟨?_,.hash (by rw[A];exact hk5) (by rw[A];exact V.1 h)⟩) (fun _ h=>Om) (fun h _=>by have⟨i1,_,N,D⟩:=U h;exact mem_map.2 ⟨_,getElem_mem N,D⟩)
    obtain⟨i1,rfl,N,D⟩:=U h
    have e1:=jLD N
    rw[D]at e1
    clear D
    have q1:=jDF N
    generalize l++([]++M2)=l' at *
    unfold fol;rw[if_neg R,A]
    simp[hk5,q1,e1]
   .rw[A]at hk6
    rw[if_neg (by rw[hk6];decide),if_neg (by rw[hk6];decide),if_neg (by rw[hk6];decide),if_pos hk6]at hm;cases hm
    have hnd:¬Drv L (fun x=>x∈zH S) t:=fun Y=>by
     rcases Y.inv with h|h|⟨h,_⟩|⟨h,_⟩|⟨h,_⟩
     .exact o h
     all_goals (rw[A,hk6]at h;exact absurd h De)
    refine⟨fun h=>by simp at h,fun _=>?_⟩
    intro H4 O q
    exact J2 H4 O sl [] B false _ _ (C13.hst I q) (fun _=>hnd) (fun h=>by cases h) (fun h=>by cases h) (fun h=>by cases h)
   .rw[A]at hk7
    have⟨x4,x5,x6,xf⟩:=zCA hk7
    rw[if_neg (by rw[xf];decide),if_neg x4,if_neg x5,if_neg x6]at hm
    generalize hko:jAK L (xM n)=ko at *
    have⟨key,kok⟩:=ko
    simp only[Prod.mk.injEq]at hm
    obtain⟨rfl,rfl,rfl,rfl⟩:=hm
    have ha:=kx n.a (jLQ (.inr (.inr hk7)))
    have ha1:=(zI.1 ha.1).1
    have sa:Sub L t n.a:=.kid (.refl t) (by rw[A];exact jLQ (.inr (.inr hk7)))
    have inv:Drv L (fun x=>x∈zH S) t->Drv L (fun x=>x∈zH S) n.a/\kok=true/\r4∈zH S:=fun Y=>by
     rcases Y.inv with h|h|⟨h,_⟩|⟨h,_⟩|⟨_,h1,h2,h3⟩
     .exact absurd h o
     .rw[A,xf]at h;cases h
     .rw[A]at h;exact absurd h x4
     .rw[A]at h;exact absurd h x5
     .rw[A]at h1 h2 h3;rw[hko]at h2 h3;exact⟨h1,h2,h3⟩
    refine⟨fun hc=>?_,fun hc=>?_⟩
    .rw[Bool.and_eq_true,Bool.and_eq_true]at hc
     have⟨⟨hkok,hkey⟩,_⟩:=hc
     have hkey:=of_decide_eq_true hkey
     have hkn:=jUJ (L:=L) (n:=xM n) (by rw[hko];exact hkok)
     rw[hko]at hkn
     have hk1:=(zI.1 hkn.1).1
     intro H4 O q
     refine hcall n.a H4 O sl [] B (C13.hst I q) (jHW o ha1 ha.2) (.inl sa) ((Dep.made z.symm o).2 ⟨Om,.inl rfl⟩) _ ?_
     intro r9 r10 w22 J M2 B2 C22 V U _ w23 hs23
     have C23:=C22.hst I hs23
     refine J2 H4 w23 J _ B2 r10 _ _ C23 (fun h Y=>by have:=V.2 (inv Y).1;rw[h]at this;cases this) (fun _ h=>by simp only at hk1;omega) (fun h _=>⟨zCQ o ht1 hkey,.inr hkey,fun _=>.signed (by rw[A];exact hk7) (by rw[A];exact V.1 h) (by rw[A,hko];exact hkok) (by rw[A,hko];exact hkey),fun _=>.seen hkey,?_⟩) (fun h _=>by have⟨i1,_,N,D⟩:=U h;exact mem_map.2 ⟨_,getElem_mem N,D⟩)
     intro M3 i hi hit
     obtain⟨i1,rfl,N,D⟩:=U h
     have hi1':i1<(l++(([]++M2)++M3)).length:=by simp at N|-;omega
     have e1:tAt (l++(([]++M2)++M3)) (i1:Int)=n.a:=by
      rw[<-append_assoc,jYI N];exact D
     have e2:tAt (l++(([]++M2)++M3)) (i:Int)=r4:=by rw[jLD hi];exact hit
     clear hit
     generalize l++(([]++M2)++M3)=l' at *
     unfold fol;rw[if_neg R,A]
     have hkey2:=hkn.2.1
     simp only at hkey2
     simp[hk7,x4,x5,jDF hi,jDF hi1',e1,e2,hkey2,zT]
    .intro H4 O q
     have hnk:(kok&&decide (r4∈zH S))=false:=by
      have:decide (n.a>0)=true:=So;rw[this]at hc;simpa using hc
     refine J2 H4 O sl [] B _ _ _ (C13.hst I q) (fun _ Y=>?_) (fun h=>by rw[hnk]at h;cases h) (fun h=>by rw[hnk]at h;cases h) (fun h=>by rw[hnk]at h;cases h)
     have⟨_,i2,i3⟩:=inv Y
     rw[i2,decide_eq_true i3]at hnk;cases hnk
  .have htB:t∈B:=by simpa using g
   intro H2 w4 hs4
   have C4:=C2.hst I hs4
   have hnB:(!decide (t∈B))=false:=by simp[htB]
   rw[hnB]
   exact J1f 0 0 0 H2 w4 sl [] B C4 (hp0.bar t htB)
def jHH(k p:Addr)(t:Int)(n:World){L:Pool}{G:List Int}{S:List Way}{F FP:NP}(hW:Wf L)(hk:KnowOk L G S)(h:qC n k p G S F)(O:zD n p L FP):
  cl 105 #[vp (some k),vi t] n (XF fun r ok w'=>∃l:List Step,RetO n 173 4 (l.map jOE) r w'/\(ok=true↔Drv L (fun x=>x∈zH S) t)/\(ok=false->l=[])/\(ok=true->l≠[]/\(∀i (hi:i<l.length),fol L G (l.take i) l[i]=true)/\(l.map Step.t).Nodup/\tAt l ((l.length:Int)-1)=t/\∀s∈l,Sub L t s.t\/s.t∈zH S)/\(ok=true->∀x,x∈l.map Step.t↔Dp L S t x)):=by
 suffices key:∀K:Sl->Bool->WP,(∀r ok w' l,RetO n 173 4 (l.map jOE) r w'->(ok=true↔Drv L (fun x=>x∈zH S) t)->(ok=false->l=[])->(ok=true->l≠[]/\(∀i (hi:i<l.length),fol L G (l.take i) l[i]=true)/\(l.map Step.t).Nodup/\tAt l ((l.length:Int)-1)=t/\∀s∈l,Sub L t s.t\/s.t∈zH S)->(ok=true->∀x,x∈l.map Step.t↔Dp L S t x)->K r ok w')->m_Q2 (some k) t n K from
  w_Q2 _ _ n _ (key _ Gd)
 intro K hK
 intro p1 w1 h1
 have B1:=Box.of_new h1
 refine⟨_,B1.cell0,Br.f rfl ?_⟩
 intro I w2 h2 p3 w3 h3 A w4 X
 have B4:=Box.of_new X
 refine⟨B4.canW0 Sm,?_⟩
 rintro _ rfl
 have R:=Ext.setCell (w:=w4) A (.map (some p3.block))
 have B4':=B4.set0 (v:=.map (some p3.block))
 have s1:=h1.at_size;have s2:=h2.at_size;have s3:=h3.at_size;have s4:=X.at_size
 have E1:Pure n w1:=Ext.new h1
 have E2:Pure w1 w2:=Ext.new h2
 have E3:Pure w2 w3:=Ext.new h3
 have P:Pure w3 w4:=Ext.new X
 have l1:=B1.lt
 have l2:=(Box.of_new h2).lt
 have l3:=(IMap.of_new (f:=jRK) h3).lt
 have l4:=B4.lt
 have z4:=R.size
 generalize hw5:w4.setCell A (.map (some p3.block))=C at *
 intro D U N z w7 W
 have B7:=Box.of_new W
 refine⟨B7.canW0 Sm,?_⟩
 rintro _ rfl
 have Z:=Ext.setCell (w:=w7) z (.map (some D.block))
 have Y:=B7.set0 (v:=.map (some D.block))
 have s6:=N.at_size;have s7:=W.at_size
 have E6:Pure C U:=Ext.new N
 have E7:Pure U w7:=Ext.new W
 have l6:=(IMap.of_new (f:=tru) N).lt
 have l7:=B7.lt
 have z7:=Z.size
 generalize hw8:w7.setCell z (.map (some D.block))=Q at *
 intro B w9 h9
 have V:=Box.of_new h9
 refine⟨V.canW0 Sm,?_⟩
 rintro _ rfl
 have X9:=Ext.setCell (w:=w9) B (.func (.func 160) #[] #[vp (some A),vp (some z),vp (some p1),vp (some B),vp (some I)])
 have B9':=V.set0 (v:=.func (.func 160) #[] #[vp (some A),vp (some z),vp (some p1),vp (some B),vp (some I)])
 have s9:=h9.at_size
 have E9:Pure Q w9:=Ext.new h9
 have l9:=V.lt
 have z9:=X9.size
 have g1:=E1.size;have g2:=E2.size;have g3:=E3.size;have g4:=P.size;have g6:=E6.size;have g7:=E7.size;have g9:=E9.size
 generalize hw10:w9.setCell B (.func (.func 160) #[] #[vp (some A),vp (some z),vp (some p1),vp (some B),vp (some I)])=m at *
 have d:∀b,¬Sl.nil.blk b:=fun b j=>by have⟨a,h,_⟩:=j;cases h
 have T5:Pure n C:=(((E1.trans E2).trans E3).trans P).trans' R fun i hi e=>Om
 have T8:Pure C Q:=(E6.trans E7).trans' Z fun i hi e=>Om
 have o:Pure Q m:=E9.trans' X9 fun i hi e=>Om
 have T:Pure n m:=(T5.trans T8).trans o
 have T2:Pure w2 C:=(E3.trans P).trans' R fun i hi e=>Om
 have T1:Pure w1 C:=E2.trans T2
 have T3:Pure w3 C:=P.trans' R fun i hi e=>Om
 have T6:Pure U Q:=E7.trans' Z fun i hi e=>Om
 have q:Pure C m:=T8.trans o
 have h0:SaysAt m k p A z p1 B I p3.block D.block L G S F FP Sl.nil [] []:=by
  refine⟨⟨(B4'.pure q).cell0,(Y.pure o).cell0,(B1.pure (T1.trans q)).cell0,B9'.cell0,(Box.of_new h2).pure (T2.trans q),(IMap.of_new h3).pure (T3.trans q),(IMap.of_new N).pure (T6.trans o),Rws.nil _ _ _,?_,Om,Om,Om,d _,d _,d _⟩,h.pure T,O.pure T,?_,?_⟩;rintro b (rfl|rfl|rfl|j);omega;omega;omega;exact(d b j).elim;rintro b j (rfl|rfl|rfl|g);have:=h.lt j;omega;have:=h.lt j;omega;have:=h.lt j;omega;exact d b g;rintro b j (rfl|rfl|rfl|g);have:=O.lt j;omega;have:=O.lt j;omega;have:=O.lt j;omega;exact d b g
 refine⟨_,h0.prf.a4,160,#[],_,rfl,call160,?_⟩
 refine(c_says k p A z p1 B I p3.block D.block hW hk _ t m Sl.nil [] [] (Nat.lt_succ_self _) h0 (PrfOk.nil _ _ _)).mono ?_
 rintro _ E ⟨r1,ok,rfl,H,M,B',c⟩
 refine⟨r1,ok,rfl,fun hc=>?_,fun hc=>?_⟩
 have hf:ok=false:=by simpa using hc
 subst hf
 refine hK Sl.nil false E [] ⟨Rws.nil _ _ _,fun b j=>(d b j).elim,T.trans' c.ext fun i hi g=>?_⟩ c.drv (fun _=>rfl) (fun h=>by cases h) (fun h=>by cases h)
 rcases g with rfl|rfl|rfl|g
 omega
 omega
 omega
 exact(d _ g).elim
 have ht:ok=true:=by simpa using hc
 subst ht
 have hst:=c.st
 have y:=c.prf
 have u:=c.idx rfl
 simp only[nil_append]at hst y u
 have⟨i,_,hi,hit⟩:=u
 refine⟨H,hst.prf.a5.cell0,?_⟩
 refine hK H true E M ⟨hst.prf.ls,fun b j=>?_,T.trans' c.ext fun i hi g=>?_⟩ c.drv (fun h=>by cases h) (fun _=>⟨?_,y.fol,y.nd,?_,fun s hs=>(c.new s hs).2⟩) fun _ x=>⟨fun g=>?_,fun g=>?_⟩
 rcases c.own b j with h|h
 exact(d b h).elim
 have:=T.size;omega
 rcases g with rfl|rfl|rfl|g
 omega
 omega
 omega
 exact(d _ g).elim
 grind
 have:=c.last rfl
 simp only[nil_append]at this
 rcases this with rfl|h
 simp at hi
 exact h
 obtain⟨s,hs,rfl⟩:=mem_map.1 g
 exact c.dp s hs
 have J:=c.cl
 simp only[nil_append]at J
 exact Dp.all J (mem_map.2 ⟨_,getElem_mem hi,hit⟩) g
def jTC(k p t w0){L G S F FP}(g:Wf L)(e:KnowOk L G S)(h:qC w0 k p G S F)(f:zD w0 p L FP):
  cl 105 #[vp<|some k,vi t] w0<|XF fun r ok w'=>∃l:List Step,RetO w0 173 4 (l.map jOE) r w'/\(ok=true↔Drv L (fun x=>x∈zH S) t)/\(ok=false->l=[])/\(ok=true->l≠[]/\(∀i (hi:i<l.length),fol L G (l.take i) l[i]=true)/\(l.map Step.t).Nodup/\tAt l ((l.length:Int)-1)=t/\∀s∈l,Sub L t s.t\/s.t∈zH S):=by
 refine(jHH k p t w0 g e h f).mono ?_
 rintro _ w' ⟨r,ok,rfl,l,a,b,c,d,_⟩
 exact⟨r,ok,rfl,l,a,b,c,d⟩
def jNN(k p t w0){L G S F FP}(c:Wf L)(a:KnowOk L G S)(h:qC w0 k p G S F)(b:zD w0 p L FP):
  cl 63 #[vp<|some k,vi t] w0<|XC fun r w'=>(r=true↔Drv L (fun x=>x∈zH S) t)/\Pure w0 w':=by
 refine w_I3 _ _ w0 _ ?_
 refine(jTC k p t w0 c a h b).mono ?_
 rintro _ e ⟨r,ok,rfl,l,hr,d,_,_⟩
 exact⟨r,ok,rfl,d,hr.pure⟩
end Go.Proofs
end
section
open Go Go.SE List
namespace Go.Proofs
attribute [local irreducible] Calls
end Go.Proofs
end
section
open Go Go.SE List
open Go.IntKind renaming i64 -> q6
namespace Go.Proofs
open Tryz
set_option maxRecDepth 100000
set_option maxHeartbeats 4000000
attribute [local irreducible] wpL wpX opE wpE Calls
attribute [local irreducible] adv W WV WR yN pv lpC jBQ ctR ka rgP dgo nwV nhI hvl had hcs hpt stV stC kp yM uK qM bn ub
def m_M2_l1(c:Sl)(d i1:Int)(a:World)(b:Int->WP)(K:Bool->WP):Prop:=Br (decide (i1<(c.len:Int))) (∃a1:Addr,At c i1 1 a1/\li a a1 fun e=>Br (e==d) (K true a)<|b (q6.wrap<|i1+1) a)<|K false a
def m_M2(f:Sl)(e:Int)(g:World)(K:Bool->WP):Prop:=∃(d:Int->WP) (c:Int->World->Nat),d 0 g/\∀(i1:Int) (a:World),d i1 a->m_M2_l1 f e i1 a (fun b w'=>d b w'/\c b w'<c i1 a) K
def w_M2(l1 t1 w0 K)(h:m_M2 l1 t1 w0 K):
  cl 150 #[l1.v,(vi t1)] w0<|XC K:=
 cwN func150 h<|wc1 2 [0,1] (fun i1=>[(5,(vi i1))])<|fun {_ _ i1}=>fun a=>br 0 4 (ix 3<|ld 0<|br 0 2 (rr 2)<|jen 4 a)<|rr 2
def m_A7(a:Option Addr)(b:Int)(i:World)(K:Int->WP):Prop:=∃a1,a=some a1/\lp i a1 fun k=>cl 112 #[(vp k),(vi b)] i fun e f=>∃r1,e=.returned (vb r1)/\Br (!r1) (K 51 f) (∃a2,a=some a2/\lx f (a2.add 1) fun j=>cl 150 #[j.v,(vi b)] f<|XC fun r2 d=>Br (!r2) (∃a3,a=some a3/\lx d (a3.add 1) fun l=>∀p1 h,New d (.cells #[(vi b)] 73) p1 h->∃s1:Sl,∃c:World,(Builtin.append_ #[46,46] 46 #[l.v,(Sl.mk (some p1) 1 1).v]).run prog h=.ok s1.v c/\∃a4,a=some a4/\zV c (a4.add 1)/\∀g,g=c.setCell (a4.add 1) s1.v->K 0 g) (K 0 d))
def w_A7(k1 t1 w0 K)(h:m_A7 k1 t1 w0 K):
  cl 100 #[(vp k1),(vi t1)] w0<|XB K:=
 cwN func100 h<|nc 2<|ld 1<|cn1 1 call112<|br 0 1 (rr 2)<|nc 2<|ld 1<|cn1 1 call150<|br 0 1 (nc 3<|ld 1<|nwn 1<|xe2<|ef 0<|aan<|nc 0<|ssn 1<|rr 1)<|rr 2
end Go.Proofs
end
section
open Go Go.SE List
namespace Go.Proofs
open Tryz
attribute [local irreducible] Calls
def zAM{S}(s ts v w0)(hs:Lst S w0 1 s (tmr ts))(l:ts.length<=1000000):
  cl 150 #[s.v,vi v] w0<|XC fun r w'=>r=decide (v∈ts)/\w'=w0:=by
 refine w_M2 _ _ w0 _ ?_
 unfold m_M2
 have g:s.len=ts.length:=by rw[hs.len,zY]
 refine⟨fun i w'=>w'=w0/\∃j:Nat,i=j/\j<=ts.length/\v∉ts.take j,fun i _=>((ts.length:Int)-i).toNat,⟨rfl,0,rfl,Nat.zero_le _,Sm⟩,?_⟩
 rintro _ _ ⟨rfl,j,rfl,m,k⟩
 refine⟨fun h=>?_,fun h=>?_⟩
 have b:=vR g h
 have⟨a,d,_,f⟩:=uQ hs b
 have e:ts.take (j+1)=ts.take j++[ts[j]]:=take_succ_eq_append_getElem b
 refine⟨a,d,_,f,fun h=>⟨?_,rfl⟩,fun h=>?_⟩
 grind
 rw[zQ b Om]
 refine⟨⟨rfl,j+1,rfl,b,?_⟩,uR b⟩
 rw[e,mem_append,mem_singleton]
 rintro(c|c)
 exact k c
 simp[c]at h
 grind
structure K8S(w:World)(x q:Addr)(G:List Int)(sg:Sl):Prop where
 box:Box w x [vp<|some q,sg.v] 48
 giv:Rws w 73 1 sg (tmr G)
 n1:¬sg.blk x.block
def jXN(w:World)(x q:Addr)(G:List Int)(F:NP):Prop:=∃sg,K8S w x q G sg/\∀b,F b↔(b=x.block\/sg.blk b)
section
variable {w w':World} {x q:Addr} {G:List Int} {F:NP}
def jXN.ext{X}(h:jXN w x q G F)(a:Ext X w w')(d:∀b,F b->¬X b):jXN w' x q G F:=by
 have⟨sg,h,c⟩:=h;exact⟨sg,⟨h.box.ext a<|d _<|(c _).2<|.inl rfl,h.giv.ext a Gd,h.n1⟩,c⟩
def jXN.lt(h:jXN w x q G F){b}(a:F b):b<w.heap.size:=by
 have⟨sg,h,c⟩:=h;rcases(c b).1 a with rfl|a;exact h.box.lt;exact h.giv.lt a
end
def jQR(x q t a){L G F FR}(h:jXN a x q G F)(C:vK a q L FR)(H:G.length<=100000):
  cl 100 #[vp<|some x,vi t] a<|XB fun r w'=>∃F',jXN w' x q (jAL L G t) F'/\Ext F a w'/\∀b,F' b->F b\/a.heap.size<=b:=by
 refine w_A7 _ _ a _ ?_
 unfold m_A7
 have p:=h
 have⟨sg,h,E⟩:=h
 refine⟨x,rfl,_,h.box.cell0,?_⟩
 refine(yV q t a C).mono ?_
 rintro _ a ⟨r1,rfl,rfl,rfl⟩
 refine⟨_,rfl,fun i=>?_,fun i=>?_⟩
 have g:inP L t=false:=by simpa using i
 have:jAL L G t=G:=by unfold jAL;rw[if_neg<|by simp[g]]
 rw[this];exact⟨F,p,Ext.refl _,fun b f=>.inl f⟩
 have g:inP L t=true:=by simpa using i
 have A:jAL L G t=addT G t:=by unfold jAL;rw[if_pos g]
 rw[A]
 refine⟨x,rfl,sg,h.box.cell rfl,?_⟩
 refine(zAM sg G t a h.giv.lst Om).mono ?_
 rintro _ a ⟨r2,rfl,rfl,rfl⟩
 refine⟨_,rfl,fun i=>?_,fun i=>?_⟩
 have n:t∉G:=by simpa using i
 have d:addT G t=G++[t]:=if_neg n
 rw[d]
 refine⟨x,rfl,sg,h.box.cell rfl,?_⟩
 intro p1 D h3
 have j:Pure a D:=Ext.new h3
 have⟨s1,o,l,B,s,z⟩:=(h.giv.pure j).append (P:=prog) (ty:=46) (c:=1) jEX (r:=[vi t]) (Box.of_new h3).row rfl rfl (by rw[zY];omega) (by rw[zY];simp[maxLen];omega)
 have b4:=(h.box.pure j).ext s h.n1
 refine⟨s1,o,l,x,rfl,b4.canW Sm,?_⟩
 rintro _ rfl
 have m:=Ext.setCell (w:=o) (x.add 1) s1.v
 rw[zG]at m
 have k:∀b,s1.blk b->sg.blk b\/a.heap.size<=b:=fun b f=>(z b f).imp_right fun h=>Oh j.size
 have u:¬s1.blk x.block:=fun hh=>(k _ hh).elim h.n1 fun hh=>Oh h.box.lt
 refine⟨fun b=>b=x.block\/s1.blk b,⟨s1,⟨b4.set 1 s1.v,by rw[show tmr (G++[t])=tmr G++[[vi t]] by simp[tmr]];exact B.ext m fun b f e=>u<|e▸f,u⟩,fun b=>Iff.rfl⟩,?_,fun b f=>?_⟩
 exact((j.pure (F:=F)).trans<|s.mono Gd).trans<|m.mono Gd
 grind
 have y:t∈G:=by simpa using i
 have d:addT G t=G:=if_pos y
 rw[d];exact⟨F,p,Ext.refl _,fun b f=>.inl f⟩
end Go.Proofs
end
section
open Go Go.SE List
open Go.IntKind renaming i64 -> q6
namespace Go.Proofs
open Tryz
set_option maxRecDepth 100000
set_option maxHeartbeats 4000000
attribute [local irreducible] wpL wpX opE wpE Calls
attribute [local irreducible] adv W WV WR yN pv lpC jBQ ctR ka rgP dgo nwV nhI hvl had hcs hpt stV stC kp yM uK qM bn ub
def s_B7(a:Int):Bool:=((decide (a>=4))&&(decide (a<=11)))
def p_B7(a:Int)(d:World):cl 286 #[(.int .i64 a)] d (fun e w'=>e=.returned (.bool<|s_B7 a)/\Pure d w'):=
 cwp func286 [] (fun b=>(vb<|(decide (a>=4))&&(decide (a<=11)))) fun f=>pj 1 0 [] [] (fun b=>[(2,(vb<|(decide (a>=4))&&(decide (a<=11))))]) (fun g=>ct 3 3<|pj 0 0 [(decide (a>=4))] [] (fun b=>[(8,(vb<|(b 0)&&(decide (a<=11))))]) (fun c=>pb 1 0 0 c (fun c=>pe 3 0 c)<|fun c=>pe 3 0 c)<|pe 1 0 g)<|qpe 0 f
def s_R1(a:Int):Bool:=((a==4) ||((decide (a>=9))&&(decide (a<=11))))
def p_R1(a:Int)(f:World):cl 287 #[(.int .i64 a)] f (fun e w'=>e=.returned (.bool<|s_R1 a)/\Pure f w'):=
 cwp func287 [] (fun b=>(vb<|(a==4) ||((decide (a>=9))&&(decide (a<=11))))) fun g=>pj 1 0 [] [] (fun b=>[(2,(vb<|(a==4) ||((decide (a>=9))&&(decide (a<=11)))))]) (fun h=>ct 3 7<|pj 0 0 [(a==4)] [] (fun b=>[(12,(vb<|(b 0) ||((decide (a>=9))&&(decide (a<=11)))))]) (fun c=>pb 1 0 0 c (fun c=>pe 7 0 c)<|fun c=>ct 3 3<|pj 0 0 [(decide (a>=9))] [5] (fun b=>[(11,(vb<|(b 0)&&(decide (a<=11))))]) (fun d=>pb 1 0 0 d (fun d=>pe 3 0 d)<|fun d=>pe 3 0 d)<|pe 1 0 c)<|pe 1 0 h)<|qpe 0 g
def s_P2(n1:Int):Int:=(cond (decide (n1>2147483648)) (-1)<|q6.wrap n1)
def p_P2(n1:Int)(c:World):cl 288 #[(.int .u64 n1)] c (fun e w'=>e=.returned (.int .i64<|s_P2 n1)/\Pure c w'):=
 cwp func288 [(decide (n1>2147483648))] (fun b=>(vi<|cond (b 0) (-1)<|q6.wrap n1)) fun a=>pb 0 3 0 a (fun a=>qpe 2 a)<|fun a=>qpe 4 a
def m_V_j2(p1:Option Addr)(d n:Sl)(g F:Int)(aC P:Int)(aF:ByteArray)(a1 G:Int)(W aH:Int)(s c:Int)(E C:Int)(t:ByteArray)(R J:Int)(i:World)(H:NP)(w:World)(K:Int->Int->WP):Prop:=Br (g==0) (Br ((decide (F<0)) ||(decide (F>=(d.len:Int)))) (∀p f,Hst i H w p f->K 0 90 f)<|∃a2:Addr,At d F 1 a2/\∀p f,Hst i H w p f->li f a2 fun v1=>K v1 0 f) (Br (g==1) (cl 60 #[(vp p1),(.agg #[(vi 1),(vi F),(vi 0),(vu 0),ve,(vi 0),(vi 0)])] w<|XH fun r2 r3 A=>Kept H w A/\K r2 r3 A) (Br (g==2) (cl 60 #[(vp p1),(.agg #[(vi 2),(vi 0),(vi 0),(vu P),ve,(vi 0),(vi 0)])] w<|XH fun X Z z=>Kept H w z/\K X Z z) (Br (g==3) (cl 60 #[(vp p1),(.agg #[(vi 3),(vi 0),(vi 0),(vu 0),(vs aF),(vi 0),(vi 0)])] w<|XH fun r6 r7 D=>Kept H w D/\K r6 r7 D) (Br (g==4) (∃a3:Addr,At n aC 1 a3/\li w a3 fun Y=>cl 60 #[(vp p1),(.agg #[(vi 4),(vi 0),(vi 0),(vu 0),ve,(vi a1),(vi Y)])] w<|XH fun r8 r9 x=>Kept H w x/\K r8 r9 x) (Br (g==5) (cl 60 #[(vp p1),(.agg #[(vi 5),(vi 0),(vi 0),(vu 0),ve,(vi a1),(vi 0)])] w<|XH fun Q N u=>Kept H w u/\K Q N u) (Br (cond (g==6) (g==6)<|g==7) (Br (G !=4) (∀b a,Hst i H w b a->K 0 90 a)<|Br (g==6) (∀b a,Hst i H w b a->K W 0 a)<|∀b a,Hst i H w b a->K aH 0 a)<|Br (g==8) (Br (((G !=7)&&(G !=8))&&(G !=9)) (∀q h,Hst i H w q h->K 0 90 h)<|∀q h,Hst i H w q h->K W 0 h)<|Br (g==9) (∀b a,Hst i H w b a->cl 60 #[(vp p1),(.agg #[(vi 7),(vi c),(vi 0),(vu 0),ve,(vi a1),(vi 0)])] a (XH fun O I y=>Kept b a y/\K O I y))<|Br (g==10) (∀b a,Hst i H w b a->∃U:WP,U a.drew/\∀l,l=a.drew->cl 288 #[(vu P)] l fun e j=>∃B,e=.returned (vi B)/\U j/\Kept b l j/\cl 60 #[(vp p1),(.agg #[(vi 8),(vi c),(vi B),(vu 0),ve,(vi a1),(vi 0)])] j (XH fun S V m=>U m/\Kept b j m/\K S V m)) (∀b a,Hst i H w b a->∃M:WP,M a.drew/\∀r,r=a.drew->cl 288 #[(vu P)] r fun e k=>∃v,e=.returned (vi v)/\M k/\Kept b r k/\cl 60 #[(vp p1),(.agg #[(vi 9),(vi v),(vi c),(vu 0),ve,(vi a1),(vi 0)])] k (XH fun L T o=>M o/\Kept b k o/\K L T o))))))))
def m_V_j1(p1:Option Addr)(d c:Sl)(k z:Int)(n x:Int)(v:ByteArray)(a1:Int)(i:World)(H:NP)(w:World)(K:Int->Int->WP):Prop:=cl 64 #[(vp p1),(vi a1)] w fun e h=>∃p C D E A l o r1,e=.returned (.tuple #[(Ae p C D E A l o),(vb r1)])/\Kept H w h/\Br (decide (k>=9)) (∃a4:Addr,At c n 1 a4/\∀a b,Hst i H h a b->li b a4 fun B=>cl 64 #[(vp p1),(vi B)] b fun e g=>∃j r u s q y t m,e=.returned (.tuple #[(Ae j r u s q y t),(vb m)])/\Kept a b g/\Br (j !=6) (∀f,Hst i a g a f->K 0 90 f) (∀f,Hst i a g a f->m_V_j2 p1 d c k z n x v a1 p l o j r u s q y t i a f K)) (∀a b,Hst i H h a b->m_V_j2 p1 d c k z n x v a1 p l o 0 0 0 0 ⟨#[]⟩ 0 0 i a b K)
def m_V(p1:Option Addr)(c a:Sl)(e g:Int)(i l:Int)(k:ByteArray)(f:World)(K:Int->Int->WP):Prop:=∀j:Bool,j=((((decide (e<0)) ||(decide (e>11))) ||(((decide (e>=4))&&(decide (e<=11)))&&((decide (g<0)) ||(decide (g>=(a.len:Int)))))) ||((s_R1 e)&&((decide (i<0)) ||(decide (i>=(a.len:Int))))))->Br j (∀b h,Hst f None f b h->K 0 90 h) (Br ((decide (e>=4))&&(decide (e<=11))) (∃a5:Addr,At a g 1 a5/\∀b d,Hst f None f b d->li d a5 fun m=>m_V_j1 p1 c a e g i l k m f b d K)<|∀b d,Hst f None f b d->m_V_j1 p1 c a e g i l k 0 f b d K)
def w_V(p1 given1 made1 aA aB aC aE aF w0 K)(h:m_V p1 given1 made1 aA aB aC aE aF w0 K):
  cl 213 #[(vp p1),given1.v,made1.v,(.agg #[(vi aA),(vi aB),(vi aC),(vu aE),(vs aF)])] w0<|XH K:=
 cwH func213 h<|nh 0<|pj 2 0 [(((decide (aA<0)) ||(decide (aA>11))) ||(((decide (aA>=4))&&(decide (aA<=11)))&&((decide (aB<0)) ||(decide (aB>=(made1.len:Int))))))] [0,1,2,7] (fun b=>[(55,(vb<|(b 0) ||((s_R1 aA)&&((decide (aC<0)) ||(decide (aC>=(made1.len:Int)))))))]) (fun r=>lh 1 0 []<|ct 2 4<|pj 0 0 [(decide (aA<0))] [0,1,2,7] (fun b=>[(21,(vb<|(b 0) ||(decide (aA>11))))]) (fun s=>pb 1 0 0 s (fun s=>pe 4 0 s)<|fun s=>lh 1 0 []<|pe 2 0 s)<|ct 1 16<|pj 0 0 [((decide (aA<0)) ||(decide (aA>11)))] [0,1,2,7] (fun b=>[(38,(vb<|(b 0) ||(((decide (aA>=4))&&(decide (aA<=11)))&&((decide (aB<0)) ||(decide (aB>=(made1.len:Int)))))))]) (fun p=>pb 1 0 0 p (fun p=>pe 16 0 p)<|fun p=>lh 1 0 []<|cp 0 call286 (p_B7 aA)<|ct 1 11<|pj 0 0 [((decide (aA>=4))&&(decide (aA<=11)))] [0,1,2,7,22] (fun b=>[(37,(vb<|(b 0)&&((decide (aB<0)) ||(decide (aB>=(made1.len:Int))))))]) (fun j=>pb 1 0 0 j (fun j=>lh 1 0 [1]<|ct 2 6<|pj 0 0 [(decide (aB<0))] [0,1,2,7,22,26] (fun b=>[(36,(vb<|(b 0) ||(decide (aB>=(made1.len:Int)))))]) (fun n=>pb 1 0 0 n (fun n=>pe 6 0 n)<|fun n=>lh 1 0 [1]<|pe 4 0 n)<|pe 1 0 j)<|fun j=>pe 11 0 j)<|pe 1 0 p)<|pb 1 1 0 r (fun r=>pe 16 0 r)<|fun r=>lh 1 0 []<|cp 0 call287 (p_R1 aA)<|ct 1 11<|pj 0 0 [(s_R1 aA)] [0,1,2,7,39] (fun b=>[(54,(vb<|(b 0)&&((decide (aC<0)) ||(decide (aC>=(made1.len:Int))))))]) (fun o=>pb 1 0 0 o (fun o=>lh 1 0 [2]<|ct 2 6<|pj 0 0 [(decide (aC<0))] [0,1,2,7,39,43] (fun b=>[(53,(vb<|(b 0) ||(decide (aC>=(made1.len:Int)))))]) (fun k=>pb 1 0 0 k (fun k=>pe 6 0 k)<|fun k=>lh 1 0 [2]<|pe 4 0 k)<|pe 1 0 o)<|fun o=>pe 11 0 o)<|pe 1 0 r)<|yy<|br 0 0 (ah<|rr 3)<|lh 3 0 []<|cp 0 call286 (p_B7 aA)<|ja1 0 0 [0,1,2,7] (fun a1=>[(10,(vi a1))]) (fun a1 H w=>m_V_j1 _ _ _ _ _ _ _ _ a1 _ H w _) (fun x=>br 0 0 (lh 3 0 [1]<|ix 0<|ah<|ld 0<|je 1 0 x)<|ah<|je 1 0 x)<|fun {a1}=>cc 2 call64<|xe6<|fun {z}=>xe2<|rt<|aah<|nh 3<|sg 0 0 []<|nh 2<|sg 0 0 []<|lh 1 2 []<|jb7 1 0 [0,1,2,7,10,11,13] (fun a d f e c i g=>[]) (fun a d f e c i g l=>hpt l 0 0<|Ab a d f e c i g) (fun a d f e c i g H w=>m_V_j2 _ _ _ _ _ _ _ _ _ _ _ _ a d f e c i g _ H w _) (fun y=>br 0 0 (lh 4 2 [2]<|ix 0<|ah<|ld 0<|cc 0 call64<|xe6<|xe2<|rt<|aah<|sg 3 0 []<|lh 1 0 []<|br 0 1 (an<|rr 3)<|an<|je 1 0 y)<|ah<|je 1 0 y)<|fun {a d f e c i g}=>lh 1 2 []<|br 0 2 (pj 1 0 [(decide (aB<0))] [1,7] (fun b=>[(100,(vb<|(b 0) ||(decide (aB>=(given1.len:Int)))))]) (fun q=>lh 1 2 [1]<|pb 1 2 0 q (fun q=>pe 6 0 q)<|fun q=>lh 1 2 [1]<|pe 4 0 q)<|br 0 0 (ah<|rr 3)<|lh 3 2 [1]<|ix 0<|ah<|ld 0<|rr 2)<|br 0 3 (lh 3 2 [1]<|ca2 1 call60<|rr 4)<|br 0 3 (lh 3 2 [3]<|ca2 1 call60<|rr 4)<|br 0 3 (lh 3 2 [4]<|ca2 1 call60<|rr 4)<|br 0 3 (lh 5 2 [2]<|ix 0<|ld 0<|ca2 1 call60<|rr 4)<|br 0 3 (ca2 4 call60<|rr 4)<|pj 3 0 [(aA==6)] [0,7,10,11,13,88] (fun b=>[(154,(vb<|cond (b 0) (aA==6)<|aA==7))]) (fun u=>pb 0 0 0 u (fun u=>pe 1 0 u)<|fun u=>pe 3 0 u)<|br 0 0 (lh 2 1 []<|br 0 1 (ah<|rr 3)<|lh 2 2 []<|br 0 1 (lh 2 1 [5]<|ah<|rr 2)<|lh 2 1 [6]<|ah<|rr 2)<|br 0 3 (pj 1 0 [((z !=7)&&(z !=8))] [11] (fun b=>[(181,(vb<|(b 0)&&(z !=9)))]) (fun t=>lh 1 1 []<|ct 2 4<|pj 0 0 [(z !=7)] [11] (fun b=>[(176,(vb<|(b 0)&&(z !=8)))]) (fun m=>pb 1 0 0 m (fun m=>lh 1 1 []<|pe 2 0 m)<|fun m=>pe 4 0 m)<|pb 1 1 0 t (fun t=>lh 1 1 []<|pe 2 0 t)<|fun t=>pe 4 0 t)<|br 0 0 (ah<|rr 3)<|lh 2 1 [5]<|ah<|rr 2)<|br 0 3 (lh 3 0 [1]<|ah<|ca2 2 call60<|rr 4)<|br 0 3 (ah<|dC 1 [5,8] []<|lhc 2 0 [1]<|lhc 1 2 [3]<|cd1 1 call288<|cd2 1 call60<|rr 4)<|ah<|dC 1 [3,8] []<|lhc 2 2 [3]<|lhc 1 0 [1]<|cd1 1 call288<|cd2 1 call60<|rr 4
def m_N2_l1(p1:Option Addr)(b h a:Sl)(i1:Int)(c:World)(d:Sl->Int->WP)(K:Sl->Int->WP):Prop:=Br (decide (i1<(h.len:Int))) (∃a1:Addr,At h i1 5 a1/\∃i m e n l,Row c a1 [(vi i),(vi m),(vi e),(vu n),(vs l)]/\cl 213 #[(vp p1),b.v,a.v,(.agg #[(vi i),(vi m),(vi e),(vu n),(vs l)])] c (XH fun r1 r2 j=>Br (r2 !=0) (K a r2 j)<|∀f g,New j (.cells #[(vi r1)] 73) f g->∃s1:Sl,∃k:World,(Builtin.append_ #[46,46] 46 #[a.v,(Sl.mk (some f) 1 1).v]).run prog g=.ok s1.v k/\d s1 (q6.wrap<|i1+1) k))<|K a 0 c
def m_N2(p1:Option Addr)(b h:Sl)(i:World)(K:Sl->Int->WP):Prop:=∃(g:Sl->Int->WP) (e:Sl->Int->World->Nat),g Sl.nil 0 i/\∀(a:Sl) (i1:Int) (c:World),g a i1 c->m_N2_l1 p1 b h a i1 c (fun d f w'=>g d f w'/\e d f w'<e a i1 c) K
def w_N2(p1 given1 l1 w0 K)(h:m_N2 p1 given1 l1 w0 K):
  cl 156 #[(vp p1),given1.v,l1.v] w0<|XN K:=
 cwN func156 h<|wc2 4 [0,1,2] (fun a i1=>[(8,(Sl.v a)),(9,(vi i1))])<|fun {_ _ a i1}=>fun b=>br 0 4 (ix 6<|xe5<|lr 0<|cn2 0 call213<|br 0 7 (rr 5)<|nwn 3<|xe2<|ef 0<|aan<|jen 4 b)<|rr 4
def m_C7(p1:Option Addr)(a b:Sl)(d:World)(K:Int->Int->Int->WP):Prop:=Br (decide ((b.len:Int)>256)) (K 0 6 0 d)<|Br (((b.len:Int):Int)==0) (K 0 3 0 d)<|cl 156 #[(vp p1),a.v,b.v] d<|XN fun r1 r2 c=>Br (r2 !=0) (K 0 r2 (r1.len:Int) c)<|∃a1:Addr,At r1 (q6.wrap<|(r1.len:Int)-1) 1 a1/\li c a1 fun e=>K e 0 0 c
def w_C7(p1 given1 l1 w0 K)(h:m_C7 p1 given1 l1 w0 K):
  cl 101 #[(vp p1),given1.v,l1.v] w0<|XJ K:=
 cwN func101 h<|br 0 6 (rr 4)<|br 0 4 (rr 4)<|cn2 4 call156<|br 0 7 (rr 7)<|ix 5<|ld 0<|rr 3
end Go.Proofs
end
section
open Go Go.SE List
namespace Go.Proofs
open Tryz
attribute [local irreducible] Calls
abbrev DoR(q:Addr)(F:NP)(w:World)(R:Res)(r1 r2:Int)(w':World):Prop:=(r1,r2)=(R.1,R.2.1)/\∃F',vK w' q R.2.2 F'/\Ext F w w'/\∀b,F' b->F b\/w.heap.size<=b
def DoR.pre{q F w w1 w' R r1 r2}(E:Pure w w1)(h:DoR q F w1 R r1 r2 w'):DoR q F w R r1 r2 w':=by
 have⟨h1,F',h2,h3,c⟩:=h;exact⟨h1,F',h2,E.pure.trans h3,fun b a=>(c b a).imp_right fun h=>Oh E.size⟩
def jML{S w s ts}(h:Lst S w 1 s (tmr ts)){i t}(hi:atM ts i=some t):∃a,At s i 1 a/\S a.block/\w.cell? a=some (vi t):=by
 obtain⟨c,h1,rfl⟩:=jUX hi;have⟨a,h2,h3,b⟩:=uQ h h1;exact⟨a,by rw[Int.toNat_of_nonneg c]at h2;exact h2,h3,b⟩
section
variable {Sg Sm:NP} (q:Addr) (sg sm:Sl) (G M:List Int) (w0:World) {L:Pool} {F:NP} (hP:vK w0 q L F) (hok:Ok L)
 (hg:Lst Sg w0 1 sg (tmr G)) (hm:Lst Sm w0 1 sm (tmr M))
include hP hok hg hm
def zFC(co oa ob on ox a1 rk ra rb kk kf kt kn kx ka kb H w)(hs:Hst w0 None w0 H w)(hlo:0<=co)(V:co<=11)(T:4<=co->atM M oa=some a1)(hB:co=4\/9<=co->∃b,atM M ob=some b)(U:4<=co->rk=(nodeAt L M oa).kind/\ra=(nodeAt L M oa).a/\rb=(nodeAt L M oa).b)(W:9<=co->(nodeAt L M ob).kind=6/\kf=(nodeAt L M ob).frm)(K:Int->Int->WP)(I:∀r1 r2 w',DoR q F w0 (yD L G M ⟨co,oa,ob,on,ox⟩) r1 r2 w'->K r1 r2 w'):
  m_V_j2 (some q) sg sm co oa ob on ox a1 rk ra rb kk kf kt kn kx ka kb w0 H w K:=by
 unfold m_V_j2
 have E:=hs.first
 have R:sg.len=G.length:=by rw[hg.len,zY]
 have g:∀{d w' r1 r2},Hst w0 H w d w'->yD L G M ⟨co,oa,ob,on,ox⟩=(r1,r2,L)->K r1 r2 w':=fun c e=>by
  have k:=E.hst c;exact I _ _ _ (by rw[e];exact⟨rfl,F,hP.pure k,k.pure,fun b l=>.inl l⟩)
 have mk:∀{d w' f} {e:Ending} {n:Node},Hst w0 H w d w'->yD L G M ⟨co,oa,ob,on,ox⟩=make L n->(∃r1 r2:Int,e=.returned (.tuple #[vi r1,vi r2])/\DoR q F w' (make L n) r1 r2 f)->∃r1 r2:Int,e=.returned (.tuple #[vi r1,vi r2])/\Kept d w' f/\K r1 r2 f:=by
  rintro d w' f e n c A ⟨r1,r2,B,h⟩;have k:=E.hst c;refine⟨r1,r2,B,h.2.elim fun F' h=>h.2.1.kept fun b l z=>Oi (c.old b l)<|hP.lt z,I _ _ _ ?_⟩;rw[A];exact DoR.pre k h
 refine⟨fun h=>?_,fun h=>?_⟩
 .have h:co=0:=by simpa using h
  subst h
  have P:yD L G M ⟨0,oa,ob,on,ox⟩=uN L G ⟨0,oa,ob,on,ox⟩:=zDY rfl
  refine⟨fun h=>fun d w' c=>g c ?_,fun h=>?_⟩
  .rw[P];unfold uN
   rw[Bool.or_eq_true,decide_eq_true_eq,decide_eq_true_eq]at h
   simp only
   rw[jBK Om];rfl
  .rw[Bool.or_eq_false_iff,decide_eq_false_iff_not,decide_eq_false_iff_not]at h
   have N:atM G oa=some (G[oa.toNat]' Om):=jBO Om Om
   have⟨a,D,v,x⟩:=jML hg N
   refine⟨a,D,fun d w' c=>⟨_,(E.hst c).cell x fun h=>h,g c ?_⟩⟩
   rw[P];unfold uN;simp only;rw[N]
 have n0:co≠0:=by simpa using h
 refine⟨fun h=>?_,fun h=>?_⟩
 .have h:co=1:=by simpa using h
  subst h
  exact(vV q ⟨1,oa,0,0,⟨#[]⟩,0,0⟩ w (hP.pure E) hok).mono fun e f h=>mk hs.here (zDX rfl) h
 have n1:co≠1:=by simpa using h
 refine⟨fun h=>?_,fun h=>?_⟩
 .have h:co=2:=by simpa using h
  subst h
  exact(vV q ⟨2,0,0,on,⟨#[]⟩,0,0⟩ w (hP.pure E) hok).mono fun e f h=>mk hs.here (zDW rfl) h
 have n2:co≠2:=by simpa using h
 refine⟨fun h=>?_,fun h=>?_⟩
 .have h:co=3:=by simpa using h
  subst h
  exact(vV q ⟨3,0,0,0,ox,0,0⟩ w (hP.pure E) hok).mono fun e f h=>mk hs.here (zDV rfl) h
 have n3:co≠3:=by simpa using h
 have j:=T Om
 obtain⟨rfl,rfl,rfl⟩:=U Om
 refine⟨fun h=>?_,fun h=>?_⟩
 .have h:co=4:=by simpa using h
  subst h
  have⟨b1,o⟩:=hB<|.inl rfl
  have⟨a,D,v,x⟩:=jML hm o
  refine⟨a,D,b1,E.cell x fun h=>h,?_⟩
  have S:yD L G M ⟨4,oa,ob,on,ox⟩=make L ⟨4,0,0,0,⟨#[]⟩,a1,b1⟩:=by
   rw[jWT rfl];unfold jBL;simp only;rw[j];simp only;rw[o]
  exact(vV q ⟨4,0,0,0,⟨#[]⟩,a1,b1⟩ w (hP.pure E) hok).mono fun e f h=>mk hs.here S h
 have n4:co≠4:=by simpa using h
 refine⟨fun h=>?_,fun h=>?_⟩
 .have h:co=5:=by simpa using h
  subst h
  have Y:yD L G M ⟨5,oa,ob,on,ox⟩=make L ⟨5,0,0,0,⟨#[]⟩,a1,0⟩:=by
   rw[jZY rfl];unfold jCB;simp only;rw[j]
  exact(vV q ⟨5,0,0,0,⟨#[]⟩,a1,0⟩ w (hP.pure E) hok).mono fun e f h=>mk hs.here Y h
 have n5:co≠5:=by simpa using h
 refine⟨fun h=>?_,fun h=>?_⟩
 .have u:co=6\/co=7:=Gd
  have C:yD L G M ⟨co,oa,ob,on,ox⟩=yJ L M ⟨co,oa,ob,on,ox⟩ (decide (co=7)):=by
   rcases u with h|h<;>subst h
   .exact jZX rfl
   .exact jZW rfl
  refine⟨fun h=>fun d w' c=>g c ?_,fun h=>?_⟩
  .rw[C];unfold yJ;simp only
   rw[if_neg<|by simpa using h];rfl
  .have O:(nodeAt L M oa).kind=4:=by simpa using h
   refine⟨fun h=>fun d w' c=>g c ?_,fun h=>fun d w' c=>g c ?_⟩
   .have h:co=6:=by simpa using h
    rw[C];unfold yJ;simp only;rw[if_pos O,decide_eq_false Om];rfl
   .have h:co≠6:=by simpa using h
    rw[C];unfold yJ;simp only;rw[if_pos O,decide_eq_true Om];rfl
 have X:co≠6/\co≠7:=Gd
 refine⟨fun h=>?_,fun h=>?_⟩
 .have h:co=8:=by simpa using h
  subst h
  have p:qO (nodeAt L M oa).kind=!(((((nodeAt L M oa).kind:Int) !=7)&&(((nodeAt L M oa).kind:Int) !=8))&&(((nodeAt L M oa).kind:Int) !=9)):=by
   unfold qO;simp only[bne,Bool.not_and,Bool.not_not]
  refine⟨fun h=>fun d w' c=>g c ?_,fun h=>fun d w' c=>g c ?_⟩
  .rw[jWS rfl]
   unfold xA;simp only
   rw[if_neg (by rw[p,h];simp)];rfl
  .rw[jWS rfl]
   unfold xA;simp only
   rw[if_pos (by rw[p,h];rfl)]
 have n8:co≠8:=by simpa using h
 obtain⟨J,rfl⟩:=W Om
 have t:∀mk,vM L M ⟨co,oa,ob,on,ox⟩ mk=make L (mk (nodeAt L M ob).frm a1):=fun mk=>by
  unfold vM;simp only;rw[j];simp only;rw[if_pos J]
 refine⟨fun h=>fun d w' c=>?_,fun h=>?_⟩
 .have h:co=9:=by simpa using h
  subst h
  exact(vV q ⟨7,(nodeAt L M ob).frm,0,0,⟨#[]⟩,a1,0⟩ w' (hP.pure<|E.hst c) hok).mono fun e f h=>mk c ((jWR rfl).trans<|t _) h
 have n9:co≠9:=by simpa using h
 have m:∀{d w' y r f} {e:Ending} {n:Node},Hst w0 H w d w'->Pure w' y->y=r->yD L G M ⟨co,oa,ob,on,ox⟩=make L n->(∃r1 r2:Int,e=.returned (.tuple #[vi r1,vi r2])/\DoR q F r (make L n) r1 r2 f)->∃r1 r2:Int,e=.returned (.tuple #[vi r1,vi r2])/\True/\Kept d r f/\K r1 r2 f:=by
  rintro d w' y _ f e n c Z rfl A ⟨r1,r2,B,h⟩;have k:=(E.hst c).trans Z;refine⟨r1,r2,B,trivial,h.2.elim fun F' h=>h.2.1.kept fun b l z=>Oi (c.old b l)<|hP.lt z,I _ _ _ ?_⟩;rw[A];exact DoR.pre k h
 refine⟨fun h=>fun d w' c=>⟨fun _=>True,trivial,?_⟩,fun h=>fun d w' c=>⟨fun _=>True,trivial,?_⟩⟩
 .have h:co=10:=by simpa using h
  subst h
  rintro _ rfl
  refine(p_P2 on _).mono ?_
  rintro _ f ⟨rfl,i⟩
  have s:Pure w' w'.drew:=Ext.drew w'
  refine⟨_,rfl,trivial,i.keptP,?_⟩
  exact(vV q ⟨8,(nodeAt L M ob).frm,s_P2 on,0,⟨#[]⟩,a1,0⟩ f (hP.pure<|((E.hst c).trans s).trans i) hok).mono fun e r h=>m c (s.trans i) rfl ((jLT rfl).trans<|t _) h
 .have Q:co≠10:=by simpa using h
  have h:co=11:=Om
  subst h
  rintro _ rfl
  refine(p_P2 on _).mono ?_
  rintro _ f ⟨rfl,i⟩
  have s:Pure w' w'.drew:=Ext.drew w'
  refine⟨_,rfl,trivial,i.keptP,?_⟩
  exact(vV q ⟨9,s_P2 on,(nodeAt L M ob).frm,0,⟨#[]⟩,a1,0⟩ f (hP.pure<|((E.hst c).trans s).trans i) hok).mono fun e r h=>m c (s.trans i) rfl ((jLS rfl).trans<|t _) h
def jXB(o):cl 213 #[vp<|some q,sg.v,sm.v,opv o] w0 (XH fun r1 r2 w'=>DoR q F w0 (yD L G M o) r1 r2 w'):=by
 have⟨c,oa,d,on,j⟩:=o;refine w_V _ _ _ c oa d on j w0 (DoR q F w0<|yD L G M ⟨c,oa,d,on,j⟩) ?_;unfold m_V;have X:sm.len=M.length:=by rw[hm.len,zY]
 have Z:∀(a1:Int) (H:NP) (w:World),Hst w0 None w0 H w->0<=c->c<=11->(4<=c->atM M oa=some a1)->(c=4\/9<=c->∃b,atM M d=some b)->m_V_j1 (some q) sg sm c oa d on j a1 w0 H w (DoR q F w0<|yD L G M ⟨c,oa,d,on,j⟩):=by
  intro a1 H w hs p i D hB;refine(jCM q a1 w (hP.pure hs.first) hok).mono ?_;rintro _ w2 ⟨k,f,t',u,x,a,b,r,rfl,⟨I,_⟩,R⟩;have m:=hs.pure R;have P:4<=c->k=(nodeAt L M oa).kind/\a=(nodeAt L M oa).a/\b=(nodeAt L M oa).b:=fun h=>by
   have:nodeAt L M oa=nodeOf L a1:=by unfold nodeAt;rw[D h]
   rw[this,<-I];exact⟨rfl,rfl,rfl⟩
  refine⟨_,_,_,_,_,_,_,_,rfl,R.keptP,fun h=>?_,fun h=>fun H3 K g=>?_⟩
  .have A:9<=c:=by simpa using h
   have⟨b1,y⟩:=hB<|.inr A;have⟨B,U,C,t⟩:=jML hm y;refine⟨B,U,fun H3 K g=>?_⟩;have T:=m.first.hst g;refine⟨b1,T.cell t fun h=>h,?_⟩;refine(jCM q b1 K (hP.pure T) hok).mono ?_;rintro _ w4 ⟨O,f2,t2,u2,x2,a2,b2,r2,rfl,⟨z,_⟩,V⟩;have J:nodeAt L M d=nodeOf L b1:=by unfold nodeAt;rw[y]
   have s:=(m.trans g).pure V;refine⟨_,_,_,_,_,_,_,_,rfl,V.keptP,fun h=>fun Q n=>?_,fun h=>fun Q n=>?_⟩
   .have S:O≠6:=by simpa using h
    have l:yD L G M ⟨c,oa,d,on,j⟩=jHK L:=jUR A i (by rw[J,<-z];exact S);rw[l];have W:=s.first.hst n;exact⟨rfl,F,hP.pure W,W.pure,fun b e=>.inl e⟩
   .have S:O=6:=by simpa using h
    exact zFC q sg sm G M w0 hP hok hg hm c oa d on j a1 k a b _ _ _ _ _ _ _ _ Q (s.trans n) p i D hB P Gd _ fun _ _ _ h=>h
  .have A:¬9<=c:=by simpa using h
   exact zFC q sg sm G M w0 hP hok hg hm c oa d on j a1 k a b _ _ _ _ _ _ _ _ K (m.trans g) p i D hB P (fun h=>absurd h A) _ fun _ _ _ h=>h
 have h2:s_R1 c=true↔(c=4\/(9<=c/\c<=11)):=by
  unfold s_R1;simp only[Bool.or_eq_true,Bool.and_eq_true,beq_iff_eq,decide_eq_true_eq,ge_iff_le]
 rintro _ rfl;refine⟨fun h=>fun H w hs=>?_,fun h=>?_⟩
 .have l : yD L G M ⟨c, oa, d, on, j⟩ = jHK L:=by
   simp only[Bool.or_eq_true,Bool.and_eq_true,decide_eq_true_eq,ge_iff_le,h2,gt_iff_lt]at h;rcases h with((h|h)|⟨⟨Y,E⟩,h⟩)|⟨t,h⟩
   .exact jIC<|.inl h
   .exact jIC<|.inr h
   .exact doOp_a Y E<|jBK Gd
   .exact doOp_b (jBK Gd) t
  rw[l];exact⟨rfl,F,hP.pure hs.first,hs.first.pure,fun b e=>.inl e⟩
 .simp only[Bool.or_eq_false_iff,Bool.and_eq_false_iff,decide_eq_false_iff_not,ge_iff_le,gt_iff_lt] at h;have⟨⟨⟨p,i⟩,U⟩,e⟩:=h;have hB:c=4\/9<=c->∃b,atM M d=some b:=fun h=>by
   have ht:s_R1 c=true:=h2.2 Om;rw[ht]at e;rcases e with e|e
   .cases e
   .exact⟨_,jBO Om Om⟩
  refine⟨fun h=>?_,fun h=>fun H w hs=>?_⟩
  .rw[Bool.and_eq_true,decide_eq_true_eq,decide_eq_true_eq]at h;have N:atM M oa=some (M[oa.toNat]' Om):=jBO Om Om;have⟨B,had,C,t⟩:=jML hm N;refine⟨B,had,fun H w hs=>⟨_,hs.first.cell t fun h=>h,?_⟩⟩;exact Z _ H w hs Om Om (fun _=>N) hB
  .grind
end
structure RanR(w0:World)(q:Addr)(F:NP)(R:List Int×Int×Pool)(s:Sl)(r2:Int)(w':World):Prop where
 err:r2=R.2.1
 pool:∃F',vK w' q R.2.2 F'/\(∀b,F' b->F b\/w0.heap.size<=b)/\∀b,s.blk b->¬F' b
 rows:Rws w' 73 1 s (tmr R.1)
 own:∀b,s.blk b->w0.heap.size<=b
 fr:Ext F w0 w'
section
variable {Sg S0:NP} (q:Addr) (sg sl:Sl) (G:List Int) (l:List Op) (w0:World) {L:Pool} {F:NP} (hW:Wf L) (hP:vK w0 q L F)
 (hg:Lst Sg w0 1 sg (tmr G)) (hl:Lst S0 w0 5 sl (l.map oK)) (hSg:∀b,Sg b->b<w0.heap.size/\¬F b) (hS0:∀b,S0 b->b<w0.heap.size/\¬F b) (hn:l.length<=1000)
include hW hP hg hl hSg hS0 hn
def zAL:cl 156 #[vp<|some q,sg.v,sl.v] w0 (XN fun s r2 w'=>RanR w0 q F (zZ L G [] l) s r2 w'):=by
 refine w_N2 _ _ _ w0 (fun s r2 w'=>RanR w0 q F (zZ L G [] l) s r2 w') ?_;unfold m_N2;have t:∀b,¬Sl.nil.blk b:=fun b g=>by have⟨a,h,_⟩:=g;cases h
 have O:sl.len=l.length:=by rw[hl.len];simp
 refine⟨fun sm x w=>∃(j:Nat) (M:List Int) (B:Pool) (F1:NP),x=j/\j<=l.length/\M.length=j/\Wf B/\zZ L G [] l=zZ B G M (l.drop j)/\RanR w0 q F (M,0,B) sm 0 w,fun _ x _=>((l.length:Int)-x).toNat,⟨0,[],L,F,rfl,Nat.zero_le _,rfl,hW,rfl,rfl,⟨F,hP,fun b g=>.inl g,fun b g=>(t b g).elim⟩,Rws.nil _ _ _,fun b g=>(t b g).elim,Ext.refl _⟩,?_⟩;rintro sm _ w ⟨j,M,B,_,rfl,hj,V,K,f,R⟩;unfold m_N2_l1;have⟨_,⟨F1,u,J,A⟩,d,k,X⟩:=R;simp only at u d;refine⟨fun h=>?_,fun h=>?_⟩;have m:=vR O h;have⟨a,Y,T,Q⟩:=hl.nth m;have jNA:Row w a (oK l[j]):=X.row Q (hS0 _ T).2;refine⟨a,Y,l[j].code,l[j].a,l[j].b,l[j].num,l[j].text,jNA,?_⟩;rw[jDU m]at f;generalize l[j]=o at *;have z:=X.size;refine(jXB q sg sm G M w u K.ok (hg.ext X fun b g=>(hSg b g).2) d.lst o).mono ?_;rintro _ w1 ⟨r1,r2,rfl,hr,I,n,Z,N⟩;have C:=jCF K G M o;generalize yD B G M o=D at *;have⟨d1,d2,L2⟩:=D;simp only[Prod.mk.injEq]at hr;obtain⟨rfl,rfl⟩:=hr;simp only at f C n;have z2:=Z.size;have y:∀b,sm.blk b->¬I b:=fun b g U=>(N b U).elim (A b g) fun h=>Oh<|d.lt g;have p:∀b,I b->F b\/w0.heap.size<=b:=fun b g=>(N b g).elim (J b) fun h=>.inr Om;have E:Ext F w0 w1:=X.trans' Z Gd;have i:=d.ext Z A;refine⟨_,_,rfl,fun h=>?_,fun h=>?_⟩;rw[if_pos<|by simpa using h]at f;rw[f];exact⟨rfl,⟨I,n,p,y⟩,i,k,E⟩;rw[if_neg<|by simpa using h]at f;intro p2 w2 n2;have S:Pure w1 w2:=Ext.new n2;have⟨s1,w3,W,R3,X3,H⟩:=(i.pure S).append (P:=prog) (ty:=46) (c:=1) jEX (r:=[vi _]) (Box.of_new n2).row rfl rfl (by rw[zY];omega) (by rw[zY];simp[maxLen];omega);refine⟨s1,w3,W,?_⟩;rw[zQ m Om];have z3:=S.size;refine⟨⟨j+1,M++[_],L2,I,rfl,m,by simp[V],C,f,rfl,⟨I,(n.pure S).ext X3 fun b g hs=>y b hs g,p,fun b g=>(H b g).elim (y b) fun h U=>Oh<|n.lt U⟩,?_,fun b g=>(H b g).elim (k b) fun h=>Om,?_⟩,uR m⟩;simp only[tmr,map_append,map_cons,map_nil]at R3|-;exact R3;exact(E.thenPure S).trans' X3 Gd;have hge:=yI O hj h;subst hge;have e:zZ L G [] l=(M,0,B):=by rw[f,drop_length];rfl
 rw[e];exact⟨rfl,⟨F1,u,J,A⟩,d,k,X⟩
def jXC:cl 101 #[vp<|some q,sg.v,sl.v] w0 (XJ fun r1 r2 r3 w'=>(r1,r2,r3)=((zN L G l).1,(zN L G l).2.1,(zN L G l).2.2.1)/\∃F',vK w' q (zN L G l).2.2.2 F'/\Ext F w0 w'/\∀b,F' b->F b\/w0.heap.size<=b):=by
 refine w_C7 _ _ _ w0 (fun r1 r2 r3 w'=>(r1,r2,r3)=((zN L G l).1,(zN L G l).2.1,(zN L G l).2.2.1)/\∃F',vK w' q (zN L G l).2.2.2 F'/\Ext F w0 w'/\∀b,F' b->F b\/w0.heap.size<=b) ?_;unfold m_C7;have p:sl.len=l.length:=by rw[hl.len];simp
 unfold zN;rw[p];refine⟨fun h=>?_,fun h=>?_⟩;rw[if_pos Gd];exact⟨rfl,F,hP,Ext.refl _,fun b k=>.inl k⟩;rw[if_neg Gd];refine⟨fun h=>?_,fun h=>?_⟩;rw[if_pos<|by simpa using h];exact⟨rfl,F,hP,Ext.refl _,fun b k=>.inl k⟩;have h2:l.length≠0:=by simpa using h
 rw[if_neg h2];refine(zAL q sg sl G l w0 hW hP hg hl hSg hS0 hn).mono ?_;rintro _ t ⟨s,r2,rfl,z⟩;have⟨w,⟨F',i,m,x⟩,c,u,X⟩:=z;refine⟨s,r2,rfl,?_⟩;have d:=jCT G l L [];have g:∃F',vK t q (zZ L G [] l).2.2 F'/\Ext F w0 t/\∀b,F' b->F b\/w0.heap.size<=b:=⟨F',i,X,m⟩;generalize zZ L G [] l=R at *;have⟨M,e,B⟩:=R;simp only at w c d g i;subst w;simp only[length_nil,Nat.zero_add]at d;have o:s.len=M.length:=by rw[c.len,zY]
 refine⟨fun h=>?_,fun h=>?_⟩;grind;have r:r2=0:=by simpa using h
 rw[if_neg<|by simpa using r];have j:=d.2 r;have f:M≠[]:=fun e=>by rw[e]at j;simp at j;omega
 rw[show IntKind.i64.wrap ((s.len:Int)-1)=(((l.length-1:Nat)):Int) by rw[o,j,IntWalk.i64_in _ Om];omega];have n:atM M ((l.length-1:Nat):Int)=some (M.getLast f):=by
  rw[jBO Om Om];simp[getLast_eq_getElem,j]
 have⟨a,A,y⟩:=jIU c n;refine⟨a,A,_,y,?_,g⟩;rw[getLast?_eq_some_getLast f];rfl
end
end Go.Proofs
end
section
namespace Go.SE
abbrev Own1:=World->(Nat->Prop)->Prop
structure Cl1(A:Own1):Prop where
 ext:∀{w w':World} {F X:Nat->Prop},A w F->Ext X w w'->(∀y,F y->¬X y)->A w' F
 lt:∀{w:World} {F:Nat->Prop},A w F->∀y,F y->y<w.heap.size
def Tn(A:Own1)(F:Nat->Prop)(w w':World):Prop:=∃F',A w' F'/\Ext F w w'/\∀y,F' y->F y\/w.heap.size<=y
def emp:Own1:=fun _ F=>∀y,¬F y
def RdO(e:TypeId)(sz:Nat)(s:Sl)(rs:List (List Value)):Own1:=fun w F=>Rws w e sz s rs/\∀y,F y↔s.blk y
def zFN:Cl1 emp:=⟨fun h _ _=>h,fun h y a=>(h y a).elim⟩
def jPY{e sz s rs}:Cl1 (RdO e sz s rs):=⟨fun h E d=>⟨h.1.ext E fun y a=>d y<|(h.2 y).2 a,h.2⟩,fun h y a=>h.1.lt<|(h.2 y).1 a⟩
def BoxO(p:Addr)(cs:List Value)(T:TypeId):Own1:=fun w F=>Box w p cs T/\∀y,F y↔y=p.block
def zFO{p cs T}:Cl1 (BoxO p cs T):=⟨fun h E d=>⟨h.1.ext E<|d _<|(h.2 _).2 rfl,h.2⟩,fun h y a=>by rw[(h.2 y).1 a];exact h.1.lt⟩
def Sep(A B:Own1):Own1:=fun w F=>∃b a,A w b/\B w a/\(∀y,b y->¬a y)/\∀y,F y↔b y\/a y
def Tk(H:Nat->Prop)(A:Own1)(F0:Nat->Prop)(w0 w:World):Prop:=∃F,A w F/\Ext F0 w0 w/\(∀y,F y->(F0 y\/w0.heap.size<=y)/\¬H y)/\∀y,H y->y<w.heap.size
section
variable {A A' B C:Own1} {F0 F H H':Nat->Prop} {w0 w w':World}
def Cl1.sep(a:Cl1 A)(b:Cl1 B):Cl1 (Sep A B):=
 ⟨fun⟨i,f,c,hB,d,e⟩ E h=>⟨i,f,a.ext c E Gd,b.ext hB E Gd,d,e⟩,
 fun⟨_,_,c,hB,_,e⟩ y g=>((e y).1 g).elim (a.lt c y)<|b.lt hB y⟩
def Tk.start(h:A w F)(cl:Cl1 A):Tk None A F w w:=⟨F,h,Ext.refl _,fun _ a=>⟨.inl a,id⟩,fun _ h=>h.elim⟩
def Tk.tn(h:Tk H A F0 w0 w):Tn A F0 w0 w:=by
 have⟨F,a,E,h1,_⟩:=h;exact⟨F,a,E,fun y b=>(h1 y b).1⟩
def Tk.fr(h:Tk H A F0 w0 w):Ext F0 w0 w:=by have⟨_,_,E,_⟩:=h;exact E
def Tk.hst(h:Tk H A F0 w0 w)(cl:Cl1 A)(hs:Hst w0 H w H' w'):Tk H' A F0 w0 w':=by
 have⟨F,a,E,h1,h2⟩:=h;have d:=hs.disj (G:=F) fun y b=>⟨cl.lt a y b,(h1 y b).2⟩;exact⟨F,cl.ext a hs.ext d,E.hst hs,fun y b=>⟨(h1 y b).1,d y b⟩,hs.lt⟩
def Tk.pure(h:Tk H A F0 w0 w)(cl:Cl1 A)(E:Pure w w'):Tk H A F0 w0 w':=by
 have⟨F,a,b,h1,h2⟩:=h;exact⟨F,cl.ext a E fun _ _ h=>h,b.thenPure E,h1,fun y c=>Nat.lt_of_lt_of_le (h2 y c) E.size⟩
def Tk.turn(E:Ext F0 w0 w)(h1:∀y,F y->(F0 y\/w0.heap.size<=y)/\¬H y)(h2:∀y,H y->y<w.heap.size)(t:Tn A' F w w'):Tk H A' F0 w0 w'/\Kept H w w':=by
 have⟨F',c,b,n⟩:=t;refine⟨⟨F',c,E.trans' b Gd,fun y a=>?_,fun y a=>Nat.lt_of_lt_of_le (h2 y a) b.size⟩,b.kept fun y a d=>(h1 y d).2 a⟩;rcases n y a with h|h;exact h1 y h;exact⟨.inr<|Nat.le_trans E.size h,fun hh=>Oh<|h2 y hh⟩
def Sep.turn{F1 F2}(b:Cl1 B)(hB:B w F2)(d:∀y,F1 y->¬F2 y)(f:∀y,F y↔F1 y\/F2 y)(t:Tn A' F1 w w'):Tn (Sep A' B) F w w':=by
 have⟨F',e,a,n⟩:=t;refine⟨fun y=>F' y\/F2 y,⟨F',F2,e,b.ext hB a fun y h2 h1=>d y h1 h2,fun y c h2=>?_,fun _=>Iff.rfl⟩,a.mono Gd,fun y c=>?_⟩;rcases n y c with h|h;exact d y h h2;have:=b.lt hB y h2;omega;grind
def Tk.one(h:Tk H A F0 w0 w):∃F,A w F/\(∀y,F y->(F0 y\/w0.heap.size<=y)/\¬H y)/\∀{A' w'},Tn A' F w w'->Tk H A' F0 w0 w'/\Kept H w w':=by
 have⟨F,a,E,h1,h2⟩:=h;exact⟨F,a,h1,fun t=>Tk.turn E h1 h2 t⟩
def Sep.one(b:Cl1 B)(h:Sep A B w F)(e:∀y,F y->y<w.heap.size):∃a,A w a/\(∀y,a y->F y)/\∀{A' w'},Tn A' a w w'->Tn (Sep A' B) F w w':=by
 have⟨a,i,f,hB,d,c⟩:=h;exact⟨a,f,fun y g=>(c y).2<|.inl g,fun t=>Sep.turn b hB d c t⟩
def Sep.swap(h:Sep A B w F):Sep B A w F:=by
 have⟨e,b,a,hB,d,c⟩:=h;exact⟨b,e,hB,a,fun y h2 h1=>d y h1 h2,fun y=>(c y).trans Or.comm⟩
def Tk.swap(h:Tk H (Sep A B) F0 w0 w):Tk H (Sep B A) F0 w0 w:=by
 have⟨F,a,r⟩:=h;exact⟨F,a.swap,r⟩
def Tk.lb(b:Cl1 B)(h:Tk H (Sep A B) F0 w0 w):∃a c,A w a/\B w c/\(∀y,a y->¬c y)/\(∀y,a y->(F0 y\/w0.heap.size<=y)/\¬H y)/\∀{A' w'},Tn A' a w w'->Tk H (Sep A' B) F0 w0 w'/\Kept H w w':=by
 have⟨F,⟨a,c,f,hB,d,e⟩,E,h1,h2⟩:=h;exact⟨a,c,f,hB,d,fun y g=>h1 y<|(e y).2<|.inl g,fun t=>Tk.turn E h1 h2<|Sep.turn b hB d e t⟩
def Tk.l(e:Cl1 A)(b:Cl1 B)(h:Tk H (Sep A B) F0 w0 w):∃a,A w a/\(∀y,a y->(F0 y\/w0.heap.size<=y)/\¬H y)/\∀{A' w'},Tn A' a w w'->Tk H (Sep A' B) F0 w0 w'/\Kept H w w':=by
 have⟨a,_,c,_,_,d,k⟩:=h.lb b;exact⟨a,c,d,k⟩
def Tk.r(a:Cl1 A)(b:Cl1 B)(h:Tk H (Sep A B) F0 w0 w):∃c,B w c/\(∀y,c y->(F0 y\/w0.heap.size<=y)/\¬H y)/\∀{B' w'},Tn B' c w w'->Tk H (Sep A B') F0 w0 w'/\Kept H w w':=by
 have⟨c,hB,d,k⟩:=h.swap.l b a;exact⟨c,hB,d,fun t=>⟨(k t).1.swap,(k t).2⟩⟩
def Tk.lP{w1}(a:Cl1 A)(b:Cl1 B)(h:Tk H (Sep A B) F0 w0 w)(E:Pure w w1):∃c,A w1 c/\(∀y,c y->y<w.heap.size)/\∀{A' w'},Tn A' c w1 w'->Tk H (Sep A' B) F0 w0 w'/\Kept H w1 w':=by
 have⟨c,g,d,k⟩:=h.l a b;exact⟨c,a.ext g E fun _ _ h=>h,a.lt g,fun {A' w'} ⟨F',j,f,n⟩=>⟨(k ⟨F',j,(Ext.pure E).trans f,fun y e=>(n y e).imp id fun h=>Nat.le_trans E.size h⟩).1,f.kept fun y e i=>(d y i).2 e⟩⟩
def Tk.new(a:Cl1 A)(h:Tk H A F0 w0 w)(c:C w' F)(E:Pure w w')(n:∀y,F y->w.heap.size<=y):Tk H (Sep C A) F0 w0 w':=by
 have⟨f,e,d,h1,h2⟩:=h;refine⟨fun y=>F y\/f y,⟨F,f,c,a.ext e E fun _ _ h=>h,fun y b g=>?_,fun _=>Iff.rfl⟩,d.thenPure E,fun y b=>?_,fun y b=>Nat.lt_of_lt_of_le (h2 y b) E.size⟩;have:=a.lt e y g;have:=n y b;omega;rcases b with b|b;exact⟨.inr<|Nat.le_trans d.size<|n y b,fun hh=>Oi (h2 y hh)<|n y b⟩;exact h1 y b
def Tk.sub(h:Tk H A F0 w0 w)(f:∀{F},A w F->∃F',B w F'/\∀y,F' y->F y):Tk H B F0 w0 w:=by
 have⟨F,a,E,h1,h2⟩:=h;have⟨F',b,s⟩:=f a;exact⟨F',b,E,fun y c=>h1 y<|s y c,h2⟩
def Sep.fst(h:Sep A B w F):∃F',A w F'/\∀y,F' y->F y:=by
 have⟨d,_,a,_,_,b⟩:=h;exact⟨d,a,fun y c=>(b y).2<|.inl c⟩
def Sep.out(h:Sep A (Sep B C) w F):∃F',Sep A C w F'/\∀y,F' y->F y:=by
 have⟨c,k,f,⟨l,b,hB,e,d2,a⟩,d,g⟩:=h;refine⟨fun y=>c y\/b y,⟨c,b,f,e,fun y h1 j=>d y h1<|(a y).2<|.inr j,fun _=>Iff.rfl⟩,fun y i=>(g y).2<|i.imp id fun h=>(a y).2<|.inr h⟩
end
end Go.SE
end
section
open Go Go.SE List
open Go.IntKind renaming i64 -> q6
namespace Go.Proofs
open Tryz
set_option maxRecDepth 100000
set_option maxHeartbeats 4000000
attribute [local irreducible] wpL wpX opE wpE Calls
attribute [local irreducible] adv W WV WR yN pv lpC jBQ ctR ka rgP dgo nwV nhI hvl had hcs hpt stV stC kp yM uK qM bn ub
def m_D7(c:World)(K:(Option Addr)->WP):Prop:=cl 42 #[] c fun e d=>∃r1,e=.returned (vp r1)/\cl 43 #[(vp r1)] d (XD fun r2 b=>∀p1 a,New b (.cells #[(vp r2),(vp r1),(vb false),(vb false)] 98) p1 a->K (some p1) a)
def w_D7(a:World)(K:(Option Addr)->WP)(h:m_D7  a K):
  cl 9 #[] a<|XD K:=
 cwN func9 h<|cn1 1 call42<|cn1 2 call43<|nwn 3<|rr 1
def s_C3(a:Int):Bool:=((a==0) ||(a==1))
def p_C3(a:Int)(d:World):cl 66 #[(.int .i64 a)] d (fun e w'=>e=.returned (.bool<|s_C3 a)/\Pure d w'):=
 cwp func66 [] (fun b=>(vb<|(a==0) ||(a==1))) fun f=>pj 1 0 [] [] (fun b=>[(2,(vb<|(a==0) ||(a==1)))]) (fun g=>ct 3 3<|pj 0 0 [(a==0)] [] (fun b=>[(8,(vb<|(b 0) ||(a==1)))]) (fun c=>pb 1 0 0 c (fun c=>pe 3 0 c)<|fun c=>pe 3 0 c)<|pe 1 0 g)<|qpe 0 f
def m_E7(g b:Int)(f:ByteArray)(e:World)(K:Sl->WP):Prop:=∀h d,Hst e None e h d->∀a c,New d (.cells #[(vi 2),(vi g),(vu b),(vs f),(vb false),(vi 6),(vi 0),(vu b),(vs f),(vb false)] 35) a c->K (Sl.mk (some a) 2 2) c
def w_E7(aA aB aC w0 K)(h:m_E7 aA aB aC w0 K):
  cl 103 #[(.agg #[(vi aA),(vu aB),(vs aC)])] w0<|XA K:=
 cwH func103 h<|nh 0<|lh 2 0 []<|lh 1 0 [1]<|lh 1 0 [2]<|lh 2 0 [1]<|lh 1 0 [2]<|ah<|nwh 1<|rr 1
def m_Y_j2(b:Value)(g r2:Int)(i:Bool)(H:NP)(w:World)(c:Int->NP->WP)(K:Int->WP):Prop:=Br i (∃(f:FuncId) (d e:Array Value),b=.func (.func f) d e/\(∀args w,(callFunc f args).run prog w=.ok (.enter f args) w)/\Calls prog f (d++#[(vi r2)]++e) w (XC fun h a=>Kept H w a/\Br h (K r2 a) (c (q6.wrap<|g+1) H a)))<|c (q6.wrap<|g+1) H w
def m_Y_l1(r:Option Addr)(a:Value)(r1:Sl)(i:Int)(u:World)(k:NP)(b:World)(d:Int->NP->WP)(K:Int->WP):Prop:=Br (decide (i<(r1.len:Int))) (∃a1:Addr,At r1 i 5 a1/\∃p n m l o,Row b a1 [(vi p),(vi n),(vu m),(vs l),(vb o)]/\∀f j,Hst u k b f j->∃q:WP,q j.drew/\∀h,h=j.drew->∃a2,r=some a2/\lp h (a2.add 1) fun v=>cl 104 #[(vp v),(.agg #[(vi p),(vi n),(vu m),(vs l),(vb o)])] h fun e c=>∃r2 r3,e=.returned (.tuple #[(vi r2),(vi r3)])/\q c/\Kept f h c/\Br (r3==0) (∃a3,r=some a3/\lp c a3 fun s=>cl 63 #[(vp s),(vi r2)] c<|XC fun t g=>Kept f c g/\m_Y_j2 a i r2 t f g d K) (m_Y_j2 a i r2 false f c d K)) (K 0 b)
def m_Y(m:Option Addr)(i o:Int)(p:ByteArray)(f:Value)(d:World)(K:Int->WP):Prop:=Br ((Option.isNone m) ||(!((i==0) ||(i==1)))) (∀h c,Hst d None d h c->K 0 c)<|∀h c,Hst d None d h c->cl 103 #[(.agg #[(vi i),(vu o),(vs p)])] c (XA fun r1 l=>Kept h c l/\∃(k:Int->NP->WP) (g:Int->World->Nat),k 0 h l/\∀(j:Int) (b:NP) (a:World),Hst d b a b a->k j b a->m_Y_l1 m f r1 j d b a (fun e n w'=>k e n w'/\g e w'<g j a) K)
def w_Y(f1 aA aB aC how1 w0 K)(h:m_Y f1 aA aB aC how1 w0 K):
  cl 48 #[(vp f1),(.agg #[(vi aA),(vu aB),(vs aC)]),how1] w0<|XB K:=
 cwH func48 h<|nh 0<|pj 1 0 [(Option.isNone f1)] [0,2,4] (fun b=>[(18,(vb<|(b 0) ||(!((aA==0) ||(aA==1)))))]) (fun a=>pb 1 3 0 a (fun a=>pe 5 0 a)<|fun a=>lh 1 0 []<|cp 0 call66 (p_C3 aA)<|pe 2 0 a)<|br 0 0 (ah<|rr 2)<|lgg 1 0 [] 3<|ah<|ca1 0 call103<|wa1 2 [0,2,20,21] (fun e=>[(22,(vi e))])<|fun {_ _ e}=>fun f=>br 0 1 (ix 1<|xe5<|lr 0<|nh 0<|sg 0 0 []<|ah<|dC 0 [6] []<|nc 1<|lde 2<|lgc 0 0 [] 5<|cd2 0 call104<|ct 8 8<|ja1 0 0 [0,2,9,20,21,22] (fun c=>[(46,(vb c))]) (fun c H w=>m_Y_j2 _ _ _ c H w _ _) (fun g=>br 1 0 (nc 1<|ld 2<|ca1 1 call63<|je 1 0 g)<|je 8 0 g)<|fun {c}=>br 1 1 (fo<|fun d=>cv 2 d<|xe<|rt<|aah<|br 0 1 (rr 3)<|je 3 1 f)<|je 7 1 f)<|rr 2
def m_D3(k:Option Addr)(g i:Int)(l:ByteArray)(f:World)(K:Sl->Bool->WP):Prop:=∀p1 e,New f (.cells #[(vp k)] 28) p1 e->∀c d,Hst f None e c d->∀p3 b,New d (.cells #[Sl.nil.v] 36) p3 b->lp b p1 fun j=>cl 48 #[(vp j),(.agg #[(vi g),(vu i),(vs l)]),(.func (.func 49) #[] #[(vp<|some p1),(vp<|some p3)])] b<|XB fun r1 a=>Kept c b a/\Br (r1==0) (K Sl.nil false a) (lx a p3 fun h=>K h true a)
def w_D3(f1 aA aB aC w0 K)(h:m_D3 f1 aA aB aC w0 K):
  cl 12 #[(vp f1),(.agg #[(vi aA),(vu aB),(vs aC)])] w0<|XF K:=
 cwH func12 h<|nwh 0<|nh 0<|ah<|nwh 2<|ld 0<|lgg 0 0 [] 3<|ca1 1 call48<|br 0 3 (rr 3)<|ld 1<|rr 2
def m_F7(g:Option Addr)(e f:Int)(h:ByteArray)(d:World)(K:Bool->WP):Prop:=∀b a,Hst d None d b a->cl 48 #[(vp g),(.agg #[(vi e),(vu f),(vs h)]),(.func (.func 51) #[] #[])] a (XB fun r1 c=>Kept b a c/\K (r1 !=0) c)
def w_F7(f1 aA aB aC w0 K)(h:m_F7 f1 aA aB aC w0 K):
  cl 13 #[(vp f1),(.agg #[(vi aA),(vu aB),(vs aC)])] w0<|XC K:=
 cwH func13 h<|nh 0<|lgg 2 0 [] 3<|ah<|ca1 0 call48<|rr 2
def m_G7(d:Option Addr)(l:Sl)(f:World)(K:ByteArray->Int->Int->WP):Prop:=Br (Option.isNone d) (K ⟨#[]⟩ 7 0 f)<|∃h:WP,h f.drew/\∀b,b=f.drew->∃a1,d=some a1/\lp b (a1.add 1) fun k=>∃a2,d=some a2/\lp b a2 fun i=>cl 52 #[(vp k),(vp i),l.v] b fun e a=>∃r1 r2 r3,e=.returned (.tuple #[(vi r1),(vi r2),(vi r3)])/\h a/\Kept None b a/\Br (r2 !=0) (K ⟨#[]⟩ r2 r3 a) (∃a3,d=some a3/\lp a (a3.add 1) fun m=>cl 53 #[(vp m),(vi r1)] a<|XN fun n j c=>Kept None a c/\∃g,(convert 59 9 n.v).run prog c=.ok (vs g) c/\K g j 0 c)
def w_G7(f1 l1 w0 K)(h:m_G7 f1 l1 w0 K):
  cl 14 #[(vp f1),l1.v] w0<|XS K:=
 cwH func14 h<|br 0 5 (rr 4)<|dC 1 [11] []<|nc 1<|lde 2<|nc 1<|lde 2<|cd3 1 call52<|br 0 9 (rr 6)<|nc 2<|ld 2<|ca2 1 call53<|xe<|rn 6<|rr 4
def m_H7(c:Option Addr)(a:Int)(d:World)(K:Bool->WP):Prop:=∃a1,c=some a1/\lp d (a1.add 1) fun g=>cl 127 #[(vp g),(.agg #[(vi 6),(vi a),(vi 0),(vu 0),ve,(vi 0),(vi 0)])] d fun e b=>∃r1 r2,e=.returned (.tuple #[(vi r1),(vb r2)])/\Br r2 (∃a2,c=some a2/\lp b a2 fun f=>cl 128 #[(vp f),(vi r1)] b<|XC K) (K false b)
def w_H7(f1 who1 w0 K)(h:m_H7 f1 who1 w0 K):
  cl 67 #[(vp f1),(vi who1)] w0<|XC K:=
 cwN func67 h<|nc 2<|ld 2<|cn2 2 call127<|br 1 7 (nc 1<|ld 2<|cn1 1 call128<|rr 2)<|rr 9
def m_I7(g:Option Addr)(a:Int)(f:World)(K:Bool->WP):Prop:=Br ((!(Option.isNone g))&&((a==0) ||(a==1))) (∀c b,Hst f None f c b->cl 67 #[(vp g),(vi a)] b fun e d=>∃r1,e=.returned (vb r1)/\Kept c b d/\Br r1 (K true d) (cl 67 #[(vp g),(vi 2)] d<|XC fun r2 h=>Kept c d h/\K r2 h)) (∀c b,Hst f None f c b->K false b)
def w_I7(f1 who1 w0 K)(h:m_I7 f1 who1 w0 K):
  cl 21 #[(vp f1),(vi who1)] w0<|XC K:=
 cwH func21 h<|ct 4 3<|pj 0 0 [(!(Option.isNone f1))] [0,1] (fun b=>[(10,(vb<|(b 0)&&((who1==0) ||(who1==1))))]) (fun a=>pb 1 0 0 a (fun a=>cp 1 call66 (p_C3 who1)<|pe 1 0 a)<|fun a=>pe 3 0 a)<|br 1 1 (ah<|ca1 2 call67<|br 1 1 (rr 5)<|ca1 1 call67<|rr 3)<|ah<|rr 9
def m_A2_l1(q:Option Addr)(r1:Option Addr)(r2:Sl)(g:Int)(b:NP)(a:World)(f:Int->NP->WP)(K:(Option Addr)->WP):Prop:=Br (decide (g<(r2.len:Int))) (∃a4:Addr,At r2 g 1 a4/\li a a4 fun m=>∃h:WP,h a.drew/\∀d,d=a.drew->∃a5,r1=some a5/\lp d (a5.add 1) fun p=>∃j,q=some j/\lp d (j.add 1) fun o=>cl 69 #[(vp p),(vp o),(vi m)] d fun e c=>∃r3 l,e=.returned (.tuple #[(vi r3),(vi l)])/\h c/\Kept b d c/\Br (l==0) (∃k,r1=some k/\lp c k fun n=>cl 70 #[(vp n),(vi r3)] c<|XB fun r i=>Kept b c i/\f (q6.wrap<|g+1) b i) (f (q6.wrap<|g+1) b c)) (K r1 a)
def m_A2(k:Option Addr)(l:World)(K:(Option Addr)->WP):Prop:=Br (Option.isNone k) (K none l)<|cl 9 #[] l fun e i=>∃r1,e=.returned (vp r1)/\Kept None l i/\∃a1,k=some a1/\∃d g,Row i (a1.add 2) [(vb d),(vb g)]/\∃a2,r1=some a2/\(∀j,j<2->zV i ((a2.add 2).add j))/\¬None (a2.add 2).block/\∀h,h=storeRow i (a2.add 2) [(vb d),(vb g)]->∃a3,k=some a3/\lp h a3 fun q=>cl 68 #[(vp q)] h<|XA fun r2 o=>Kept None h o/\∃(n:Int->NP->WP) (f:Int->World->Nat),n 0 None o/\∀(m:Int) (b:NP) (a:World),Hst l b a b a->n m b a->m_A2_l1 k r1 r2 m b a (fun c p w'=>n c p w'/\f c w'<f m a) K
def w_A2(f1 w0 K)(h:m_A2 f1 w0 K):
  cl 22 #[(vp f1)] w0<|XD K:=
 cwH func22 h<|br 0 3 (rr 2)<|ca1 1 call9<|nc 3<|xe2<|lr 1<|nc 0<|ush 1<|nc 1<|ld 2<|ca1 0 call68<|wa1 2 [0,3,23,24] (fun b=>[(25,(vi b))])<|fun {_ _ b}=>fun a=>br 0 1 (ix 1<|ld 0<|dC 1 [11] []<|nc 1<|lde 2<|nc 1<|lde 2<|cd2 1 call69<|br 0 7 (nc 2<|ld 2<|ca1 1 call70<|je 2 0 a)<|je 3 0 a)<|rr 3
def m_J7(c:Option Addr)(a:ByteArray)(d:World)(K:Bool->WP):Prop:=Br (Option.isNone c) (K false d)<|∃a1,c=some a1/\lp d (a1.add 1) fun i=>∃f:Sl,∃g:World,(convert 9 59<|vs a).run prog d=.ok f.v g/\cl 71 #[(vp i),f.v] g fun e b=>∃r1 r2 r3,e=.returned (.tuple #[(vi r1),(vi r2),(vi r3)])/\Br (r2 !=0) (K false b) (∃a2,c=some a2/\lp b a2 fun h=>cl 70 #[(vp h),(vi r1)] b<|XB fun k j=>K true j)
def w_J7(f1 body1 w0 K)(h:m_J7 f1 body1 w0 K):
  cl 23 #[(vp f1),(vs body1)] w0<|XC K:=
 cwN func23 h<|br 0 3 (rr 2)<|nc 2<|ld 2<|xe2<|ef 1<|aan<|cn3 0 call71<|br 0 9 (rr 2)<|nc 2<|ld 2<|cn1 1 call70<|rr 1
def m_K7(f:Option Addr)(a:Int)(d:World)(K:Int->WP):Prop:=Br (Option.isNone f) (K 7 d)<|Br (!((a==0) ||(a==1))) (∀b,Hst d None d None b->K 2 b)<|∃a1,f=some a1/\∀b,Hst d None d None b->lp b (a1.add 1) fun j=>cl 99 #[(vp j),(vi a)] b fun e c=>∃r1 r2,e=.returned (.tuple #[(vi r1),(vi r2)])/\Kept None b c/\Br (r2 !=0) (K r2 c) (∃a2,f=some a2/\lp c a2 fun i=>cl 70 #[(vp i),(vi r1)] c<|XB fun r3 g=>Kept None c g/\∃a3,f=some a3/\∃a4:Addr,AtA (a3.add 2) a 2 1 a4/\zV g a4/\¬None a4.block/\∀h,h=g.setCell a4 (vb true)->K 0 h)
def w_K7(f1 who1 w0 K)(h:m_K7 f1 who1 w0 K):
  cl 41 #[(vp f1),(vi who1)] w0<|XB K:=
 cwH func41 h<|br 0 4 (rr 2)<|cp 2 call66 (p_C3 who1)<|br 0 2 (an<|rr 2)<|nc 2<|an<|ld 2<|ca2 1 call99<|br 0 7 (rr 3)<|nc 2<|ld 2<|ca1 1 call70<|nc 2<|ixa 1<|ssh 0<|rr 1
def m_L7(i:Int)(b a:Addr)(g:World)(K:Bool->WP):Prop:=∃e:WP,e g.drew/\∀c,c=g.drew->lp c b fun k=>∃a1,k=some a1/\lp c (a1.add 1) fun h=>lp c b fun l=>∃a2,l=some a2/\lp c a2 fun j=>cl 50 #[(vp h),(vp j),(vi i)] c<|XF fun r1 r2 d=>e d/\Kept None c d/\zV d a/\¬None a.block/\∀f,f=d.setCell a r1.v->K r2 f
def w_L7(t1 cap1 cap2 w0 K)(h:m_L7 t1 cap1 cap2 w0 K):
  cl 49 #[(vi t1),(vp<|some cap1),(vp<|some cap2)] w0<|XC K:=
 cwH func49 h<|dC 1 [11] []<|lde 0<|nc 0<|lde 2<|lde 0<|nc 0<|lde 2<|cd2 1 call50<|ssh 6<|rr 2
def s_X7(a:Int):Bool:=true
def p_X7(c:Int)(a:World):cl 51 #[(.int .i64 c)] a (fun e w'=>e=.returned (.bool<|s_X7 c)/\Pure a w'):=
 cwp func51 [] (fun b=>(vb true)) fun d=>qpe 2 d
end Go.Proofs
end
section
namespace Go.Proofs
def jMD{L M r u t}(a:inP L u=true):oN (L++M) r u t↔oN L r u t:=by
 unfold oN;rw[jLN a]
def jKX.app{L M G pre v}(h:jKX L G pre v)(d:∀t∈zH pre,inP L t=true):jKX (L++M) G pre v:=by
 rcases h with h|⟨a,b,c⟩;exact .inl h;exact .inr ⟨a,(jMD<|d _ c).2 b,c⟩
def jVD{S i t}(h:t∈zH (S.take i)):t∈zH S:=by
 unfold zH at h|-;have⟨v,a,e⟩:=List.mem_map.1 h;exact List.mem_map.2 ⟨v,List.mem_of_mem_take a,e⟩
def KnowOk.app{L M G S}(h:KnowOk L G S):KnowOk (L++M) G S:=
 ⟨⟨h.nodup,fun t ht=>uD<|h.inp t ht,fun i hi=>(h.way i hi).app fun t ht=>h.inp t<|jVD ht⟩,fun u a r t b=>h.closed u a r t<|(jMD<|h.inp u a).1 b,h.giv,h.gnd⟩
def tU{L G t}(h:inP L t=true):jAL L G t=addT G t:=by unfold jAL;rw[if_pos h]
end Go.Proofs
end
section
open Go Go.SE List
namespace Go.Proofs
def jFP(L Lq t):∃M,(vD L Lq t).2.2=L++M:=by
 unfold vD;split;simp only;split;exact⟨[],(append_nil L).symm⟩;exact jCG _ _ L _;exact⟨[],(append_nil L).symm⟩
def jIE(L bs):∃M,(qY L bs).2.2.2=L++M:=by
 unfold qY;split;exact⟨[],(append_nil L).symm⟩;exact jFP _ _ _
def vY(L:Pool)(G:List Int)(bs:List UInt8):Pool×List Int×Bool:=
 if(qY L bs).2.1≠0 then((qY L bs).2.2.2,G,false)else((qY L bs).2.2.2,jAL (qY L bs).2.2.2 G (qY L bs).1,true)
def yG(who:Int):Bool:=(who==0) ||(who==1)
def zO(L:Pool)(G:List Int)(a b:Bool)(who:Int):Int×Pool×List Int×Bool×Bool:=
 if yG who=false then(2,L,G,a,b)else
 if(make L<|zT who).2.1≠0 then((make L<|zT who).2.1,(make L<|zT who).2.2,G,a,b)else
 (0,(make L<|zT who).2.2,jAL (make L<|zT who).2.2 G (make L<|zT who).1,a ||(who==0),b ||(who==1))
end Go.Proofs
namespace Go.SE
def jTD(s c i)(h:i<s.data.toList.length):(bytesRow s c)[i]?=some (.int .u8 ((s.data.toList[i]).toNat:Int)):=by
 unfold bytesRow;have a:i<s.data.size:=by simpa using h
 rw[Array.getElem?_append_left Gd,Array.getElem?_map,Array.getElem?_eq_getElem a,Option.map_some,Array.getElem_toList]
def zEU(b i):(⟨b,0,none⟩:Addr).add i=⟨b,i,none⟩:=by
 unfold Addr.add;split;rename_i h;subst h;rfl;simp
def jJB{P src dst e}(hs:P.underlying src=some .string)(k:P.underlying dst=some (.slice e))(m:P.underlying e=some (.int .u8))(w x):
  ∃(s:Sl) (w':World),(convert src dst<|vs x).run P w=.ok s.v w'/\Pure w w'/\Lst (·=w.heap.size) w' 1 s (byr x.data.toList)/\(s.a=none->s=Sl.nil):=by
 refine⟨⟨some ⟨w.heap.size,0,none⟩,x.size,grownCap w x.size 0 e⟩,_,run_bytes_of_string w src dst e x hs k m,?_,?_,fun h=>by cases h⟩
 exact⟨rfl,rfl,rfl,Nat.le_succ _,by rw[World.size_alloc];exact Nat.le_succ _,fun b g _=>(RowKit.Below.heap_alloc _ _ _ g)⟩
 have c:(w.drew.alloc<|.cells (bytesRow x<|grownCap w x.size 0 e) e ((bytesRow x<|grownCap w x.size 0 e).size,(bytesRow x<|grownCap w x.size 0 e).size+1)).heap[w.heap.size]?=some (.cells (bytesRow x<|grownCap w x.size 0 e) e ((bytesRow x<|grownCap w x.size 0 e).size,(bytesRow x<|grownCap w x.size 0 e).size+1)):=World.alloc_heap_new w.drew _
 refine⟨by rw[vW];rfl,fun i hi=>?_⟩
 have d:i<x.data.toList.length:=by simpa[byr]using hi
 have l:x.size=x.data.toList.length:=by rw[Array.length_toList];rfl
 refine⟨(⟨w.heap.size,0,none⟩:Addr).add<|i*1,⟨Om,by show(i:Int)<(x.size:Int);omega,_,rfl,Sm⟩,by rw[zG],?_⟩
 intro j f
 have:j=0:=by simp[byr]at f;exact f
 subst this
 simp only[byr,getElem_map,Nat.mul_one,Nat.add_zero,yP]
 rw[zEU]
 unfold World.cell?
 simp only[c]
 simpa using jTD x _ i d
end Go.SE
namespace Go.Proofs
open Tryz
attribute [local irreducible] Calls
structure FoeAt(w:World)(f:Addr)(L:Pool)(G:List Int)(a b:Bool)(k p:Addr)(S:List Way)(FK FP:NP):Prop where
 box:Box w f [vp<|some k,vp<|some p,vb a,vb b] 98
 know:qC w k p G S FK
 pool:zD w p L FP
 wf:Wf L
 ok:KnowOk L G S
 d:∀x,FK x->¬FP x
 dk:¬FK f.block
 dp:¬FP f.block
def jAT(w:World)(f:Addr)(L:Pool)(G:List Int)(a b:Bool)(F:NP):Prop:=∃k p S FK FP,FoeAt w f L G a b k p S FK FP/\∀x,F x↔x=f.block\/FK x\/FP x
section
variable {w w':World} {f k p:Addr} {L:Pool} {G:List Int} {a b:Bool} {S:List Way} {FK FP F:NP}
def FoeAt.ext{X}(h:FoeAt w f L G a b k p S FK FP)(E:Ext X w w')(c:∀x,x=f.block\/FK x\/FP x->¬X x):FoeAt w' f L G a b k p S FK FP:=
 ⟨h.box.ext E<|c _<|.inl rfl,h.know.ext E Gd,h.pool.ext E Gd,h.wf,h.ok,h.d,h.dk,h.dp⟩
def jAT.ext{X}(h:jAT w f L G a b F)(E:Ext X w w')(d:∀x,F x->¬X x):jAT w' f L G a b F:=by
 have⟨k,p,S,FK,FP,h,c⟩:=h;exact⟨k,p,S,FK,FP,h.ext E Gd,c⟩
def jAT.pure(h:jAT w f L G a b F)(E:Pure w w'):jAT w' f L G a b F:=h.ext E fun _ _ h=>h
def jAT.lt(h:jAT w f L G a b F){x}(c:F x):x<w.heap.size:=by
 have⟨k,p,S,FK,FP,h,d⟩:=h;rcases(d x).1 c with rfl|c|c;exact h.box.lt;exact h.know.lt c;exact h.pool.lt c
def jAT.wf(h:jAT w f L G a b F):Wf L:=by have⟨k,p,S,FK,FP,h,c⟩:=h;exact h.wf
def jAT.given(h:jAT w f L G a b F):G.Nodup/\∀t∈G,inP L t=true:=by
 have⟨k,p,S,FK,FP,h,c⟩:=h;exact⟨h.ok.gnd,fun t ht=>h.ok.inp t<|h.ok.giv t ht⟩
def FoeAt.grown{M FP'}(h:FoeAt w f L G a b k p S FK FP)(j:zD w' p (L++M) FP')(l:Wf (L++M))(E:Ext FP w w')(g:∀x,FP' x->FP x\/w.heap.size<=x):FoeAt w' f (L++M) G a b k p S FK FP':=
 ⟨h.box.ext E h.dp,h.know.ext E fun x c=>h.d x c,j,l,h.ok.app,fun x c e=>(g x e).elim (h.d x c) fun i=>Oh<|h.know.lt c,h.dk,fun c=>(g _ c).elim h.dp fun i=>Oh h.box.lt⟩
def FoeAt.knows{G' S' FK'}(h:FoeAt w f L G a b k p S FK FP)(j:qC w' k p G' S' FK')(l:KnowOk L G' S')(E:Ext FK w w')(g:∀x,FK' x->FK x\/w.heap.size<=x):FoeAt w' f L G' a b k p S' FK' FP:=
 ⟨h.box.ext E h.dk,j,h.pool.ext E fun x e c=>h.d x c e,h.wf,l,fun x e=>(g x e).elim (h.d x) fun i c=>Oh<|h.pool.lt c,fun e=>(g _ e).elim h.dk fun i=>Oh h.box.lt,h.dp⟩
end
def jKL(w0):cl 9 #[] w0 (XD fun r w'=>∃f F,r=some f/\jAT w' f [] [] false false F/\Pure w0 w'/\∀x,F x->w0.heap.size<=x):=by
 refine w_D7 w0 (fun r w'=>∃f F,r=some f/\jAT w' f [] [] false false F/\Pure w0 w'/\∀x,F x->w0.heap.size<=x) ?_;refine(c_New w0).mono ?_;rintro _ m ⟨_,rfl,p,rfl,j,FP,d,q⟩;refine⟨_,rfl,?_⟩;refine(zAW p m).mono ?_;rintro _ l ⟨_,rfl,k,FK,rfl,h,g,c⟩;refine⟨_,rfl,fun p1 n h3=>?_⟩;have b:Pure l n:=Ext.new h3;have s:=j.size;have t:=g.size;have o:=h3.at_size;refine⟨p1,fun x=>x=p1.block\/FK x\/FP x,rfl,⟨k,p,[],FK,FP,⟨Box.of_newA h3,h.pure b,(d.pure g).pure b,Wf.nil,⟨⟨by simp[zH],by simp[zH],fun i hi=>by simp at hi⟩,by simp[zH],Sm,Sm⟩,fun x a e=>?_,fun a=>?_,fun a=>?_⟩,fun x=>Iff.rfl⟩,(j.trans g).trans b,?_⟩;have:=c x a;have:=d.lt e;omega;have:=h.lt a;omega;have:=d.lt a;omega;grind
def jDD(f:Addr)(body:ByteArray)(e:World){L:Pool}{G:List Int}{a b:Bool}{F:NP}(h:jAT e f L G a b F):
  cl 23 #[vp<|some f,vs body] e<|XC fun r w'=>r=(vY L G body.data.toList).2.2/\∃F',jAT w' f (vY L G body.data.toList).1 (vY L G body.data.toList).2.1 a b F'/\Ext F e w'/\∀x,F' x->F x\/e.heap.size<=x:=by
 refine w_J7 _ _ e _ ?_
 unfold m_J7
 have⟨k,p,S,FK,FP,h,E⟩:=h
 refine Br.f rfl ⟨f,rfl,some p,h.box.cell rfl,?_⟩
 have⟨s,w,hr,q,hs,C⟩:=jJB (P:=prog) (src:=9) (dst:=59) underlying9 underlying59 underlying5 e body
 refine⟨s,w,hr,?_⟩
 have h1:=h.ext q fun _ _ h=>h
 refine(zEP p s body.data.toList w h1.wf h1.pool hs C).mono ?_
 rintro _ v ⟨t,x,y,rfl,rfl,rfl,rfl,i,A,n,l⟩
 have⟨M,j⟩:=jIE L body.data.toList
 have B:=jED h.wf body.data.toList
 rw[j]at A B
 have h2:=h1.grown A B n l
 have g:Ext F e v:=(Ext.pure q).trans<|n.mono Gd
 have J:=q.size;have O:=n.size
 refine⟨_,_,_,rfl,fun c=>?_,fun c=>?_⟩
 have c:=bne_iff_ne.1 c
 unfold vY
 rw[if_pos c,j]
 refine⟨rfl,_,⟨k,p,S,FK,i,h2,fun _=>Iff.rfl⟩,g,?_⟩
 rintro x (rfl|m|m)
 grind
 grind
 grind
 have c:(qY L body.data.toList).2.1=0:=by simpa using c
 refine⟨f,rfl,some k,h2.box.cell0,?_⟩
 refine(jKM k p (qY L body.data.toList).1 v h2.know h2.pool h2.wf h2.d h2.ok).mono ?_
 rintro _ N ⟨K,rfl,_,I,u,H,D,z,o⟩
 refine⟨_,rfl,?_⟩
 have h3:=h2.knows H D z o
 unfold vY
 rw[if_neg<|by simpa using c,j]
 refine⟨rfl,_,⟨k,p,I,u,i,h3,fun _=>Iff.rfl⟩,g.trans<|z.mono Gd,?_⟩
 rintro x (rfl|m|m)
 exact .inl<|(E _).2<|.inl rfl
 grind
 grind
def jBJ(f who w0){L G a b F}(h:jAT w0 f L G a b F):
  cl 41 #[vp<|some f,vi who] w0<|XB fun r w'=>r=(zO L G a b who).1/\∃F',jAT w' f (zO L G a b who).2.1 (zO L G a b who).2.2.1 (zO L G a b who).2.2.2.1 (zO L G a b who).2.2.2.2 F'/\Ext F w0 w'/\∀x,F' x->F x\/w0.heap.size<=x:=by
 refine w_K7 _ _ w0 _ ?_
 refine Br.f rfl ⟨fun g=>?_,fun g=>?_⟩
 .intro N hs
  have e:zO L G a b who=(2,L,G,a,b):=by
   unfold zO yG;rw[if_pos<|by simpa using g]
  rw[e]
  exact⟨rfl,F,h.pure hs.first,Ext.pure hs.first,fun x c=>.inl c⟩
 have o:yG who=true:=by unfold yG;simpa only[Bool.not_eq_eq_eq_not,Bool.not_false]using g
 have Z:who=0\/who=1:=by unfold yG at o;simpa using o
 refine⟨f,rfl,fun N hs=>?_⟩
 have H:=hs.first
 have⟨k,p,S,FK,FP,h,V⟩:=h
 have h1:=h.ext H fun _ _ h=>h
 refine⟨some p,h1.box.cell rfl,?_⟩
 refine(c_Key p N h1.pool h1.wf.ok who).mono ?_
 rintro _ K ⟨r1,r2,rfl,O,l,D,q,z⟩
 have W:(⟨6,who,0,0,⟨#[]⟩,0,0⟩:Node)=zT who:=rfl
 rw[W]at O D
 have⟨T,t⟩:=Prod.mk.inj O
 have⟨M,u⟩:=yO L<|zT who
 have P:=uM h.wf<|zT who
 rw[u]at D P
 have h2:=h1.grown D P q z
 have m:Ext F w0 K:=(Ext.pure H).trans<|q.mono (by grind)
 have X:=H.size;have z2:=q.size
 refine⟨_,_,rfl,q.kept fun _ h=>h.elim,fun g=>?_,fun g=>?_⟩
 .have g:=bne_iff_ne.1 g
  unfold zO
  rw[if_neg<|by simp[o],if_pos (by rw[<-t];exact g),u]
  refine⟨t,_,⟨k,p,S,FK,l,h2,fun _=>Iff.rfl⟩,m,?_⟩
  rintro x (rfl|c|c)
  .grind
  .grind
  .grind
 .have I:r2=0:=by simpa using g
  refine⟨f,rfl,some k,h2.box.cell0,?_⟩
  refine(jKM k p r1 K h2.know h2.pool h2.wf h2.d h2.ok).mono ?_
  rintro _ n ⟨Y,rfl,_,R,j,Q,U,A,B⟩
  refine⟨_,rfl,A.kept fun _ h=>h.elim,?_⟩
  have h3:=h2.knows Q U A B
  have C:∃i:Nat,who=(i:Int)/\i<2:=⟨who.toNat,by omega,by omega⟩
  obtain⟨i,rfl,hi⟩:=C
  refine⟨f,rfl,(f.add 2).add i,⟨by omega,by omega,by simp⟩,?_⟩
  rw[yP]
  refine⟨h3.box.canW (by simp;omega),id,?_⟩
  rintro _ rfl
  have J:=h3.box.set (2+i)<|vb true
  have E:Ext (·=f.block) n (n.setCell (f.add<|2+i)<|vb true):=by
   have:=Ext.setCell (w:=n) (f.add<|2+i)<|vb true;rw[zG]at this;exact this.mono fun x _ c=>c.symm▸rfl
  unfold zO
  rw[if_neg<|by simp[o],if_neg (by rw[<-t];simpa using I),u,<-T]
  have s:qC (n.setCell (f.add<|2+i)<|vb true) k p (jAL (L++M) G r1) R j:=Q.ext E fun x c e=>h3.dk<|e▸c
  have v:=h3.pool.ext E fun x c e=>h3.dp<|e▸c
  have y:Box (n.setCell (f.add<|2+i)<|vb true) f [vp<|some k,vp<|some p,vb<|a ||((i:Int)==0),vb<|b ||((i:Int)==1)] 98:=by
   rcases(show i=0\/i=1 by omega)with rfl|rfl
   .simpa using J
   .simpa using J
  refine⟨rfl,fun x=>x=f.block\/j x\/l x,⟨k,p,R,j,l,⟨y,s,v,h3.wf,h3.ok,h3.d,h3.dk,h3.dp⟩,fun _=>Iff.rfl⟩,(m.trans<|A.mono<|by grind).trans<|E.mono<|by grind,?_⟩
  rintro x (rfl|c|c)
  .exact .inl<|(V _).2<|.inl rfl
  .grind
  .grind
end Go.Proofs
end
section
namespace Go.Proofs
def jHM(x:Tree):List Nat->Tree
 |[]=>x
 |i :: zBI=>match x.kids[i]? with
  |none=>jHD
  |some y=>jHM y zBI
def vG(k:Int):Bool:=(k==1 ||k==2) ||k==4
def vL(k:Int):Bool:=vG k ||k==6
def vJ(l:Letter):Int:=
 if l.kind<1\/l.kind>7\/(l.frm≠0/\l.frm≠1)\/(vG l.kind=false/\l.frm≠0)\/(vL l.kind=false/\l.text≠⟨#[]⟩)\/(l.fake=true/\l.kind≠1/\l.kind≠4)then 110 else if l.text.size>64 then 1 else 0
def jRL(x:Tree)(kind:Int)(p:List Nat):Letter:=
 ⟨kind,if vG kind then x.node.frm else 0,
  if vL kind then(jHM (jHM x p) [1,0]).node.num else if kind==7 then(jHM x [1]).node.num else(jHM x [0,1]).node.num,
  if vL kind then(jHM (jHM x p) [1,1]).node.text else⟨#[]⟩,false⟩
def gR(l:Letter)(f:Nat):Letter:={ l with fake:=decide (f>0) }
def jNS(x:Tree)(l:Letter)(f:Nat):Bool:=
 decide (vJ (gR l f)=0)&&(l.kind==4 ||decide (f≠2))&&jGC (zR (gR l f) (f%2==1)<|f/2==1) x
def yZ(x:Tree)(l:Letter):Nat->Nat->Option Letter
 |0,_=>none
 |n+1,f=>if jNS x l f then some (gR l f)else yZ x l n (f+1)
def yA(x:Tree)(kind:Int):List (List Nat)->Option Letter
 |[]=>none
 |p :: a=>match yZ x (jRL x kind p) 4 0 with
  |some l=>some l
  |none=>yA x kind a
def deals:List (List Nat):=[[0],[0,1,0,0],[0,1]]
def uT(x:Tree):Nat->Int->Option Letter
 |0,_=>none
 |n+1,k=>match yA x k deals with
  |some l=>some l
  |none=>uT x n<|k+1
def qT(x:Tree):Letter×Bool:=match uT x 7 1 with
 |some l=>(l,true)
 |none=>(tA,false)
def jBC(L:Pool)(t:Int):Letter×Bool:=if inP L t=true/\¬sizeOf L t>40 then qT (zA L t)else(tA,false)
end Go.Proofs
end
section
open Go Go.SE List
open Go.IntKind renaming i64 -> q6
namespace Go.Proofs
open Tryz
set_option maxRecDepth 100000
set_option maxHeartbeats 4000000
attribute [local irreducible] wpL wpX opE wpE Calls
attribute [local irreducible] adv W WV WR yN pv lpC jBQ ctR ka rgP dgo nwV nhI hvl had hcs hpt stV stC kp yM uK qM bn ub
def m_M7(d:World)(K:(Array Value)->WP):Prop:=∀p1 c,New d (.cells #[(vb false),(vb false),(vb false),ve,(vb false),(vb false),(vb false),ve,(vb false),(vb false),(vb false),ve,(vb false),(vb false),(vb false),ve,(vb false),(vb false),(vb false),ve,(vb false),(vb false),(vb false),ve,(vb false),(vb false),(vb false),ve,(vb false),(vb false),(vb false),ve] 300) p1 c->(∀j,j<32->zV c (p1.add j))/\∀a,a=storeRow c p1 [(vb false),(vb false),(vb false),ve,(vb true),(vb true),(vb true),(vs (⟨#[112,114,111,109,105,115,101]⟩:ByteArray)),(vb true),(vb true),(vb false),(vs (⟨#[115,105,103,110]⟩:ByteArray)),(vb false),(vb false),(vb false),(vs (⟨#[97,98,111,114,116]⟩:ByteArray)),(vb true),(vb true),(vb true),(vs (⟨#[114,101,115,111,108,118,101]⟩:ByteArray)),(vb false),(vb false),(vb false),(vs (⟨#[116,111,107,101,110]⟩:ByteArray)),(vb false),(vb true),(vb false),(vs (⟨#[105,110,115,116,101,97,100]⟩:ByteArray)),(vb false),(vb false),(vb false),(vs (⟨#[102,117,108,108]⟩:ByteArray))]->∃b:Array Value,(b.size=32/\Row a p1 b.toList)/\K b a
def w_M7(a:World)(K:(Array Value)->WP)(h:m_M7  a K):
  cl 216 #[] a<|fun e w'=>∃r1:Array Value,e=.returned (.agg r1)/\K r1 w':=
 cwN func216 h<|nwn 0<|usn 8<|rss 0<|xe<|qaa<|qee
def m_U_j3(d:ByteArray)(e:Bool)(a1:Addr)(g:Bool)(c:World)(H:NP)(w:World)(K:Int->WP):Prop:=Br g (K 110 w)<|lb w (a1.add 2) fun f=>Br ((!f)&&e) (∀b a,Hst c H w b a->K 110 a)<|Br (decide ((d.size:Int)>64)) (∀b a,Hst c H w b a->K 1 a)<|∀b a,Hst c H w b a->K 0 a
def m_U_j2(a:ByteArray)(g:Bool)(a1:Addr)(f:Bool)(d:World)(H:NP)(w:World)(K:Int->WP):Prop:=Br f (K 110 w)<|lb w (a1.add 1) fun e=>∀b c,Hst d H w b c->m_U_j3 a g a1 ((!e)&&(!(decide (a=⟨#[]⟩)))) d b c K
def m_U_j1(d:Int)(g:ByteArray)(h:Bool)(a1:Addr)(c:World)(H:NP)(w:World)(K:Int->WP):Prop:=Br ((d !=0)&&(d !=1)) (∀b a,Hst c H w b a->K 110 a)<|∀b a,Hst c H w b a->lb a a1 fun i=>∀f e,Hst c b a f e->m_U_j2 g h a1 ((!i)&&(d !=0)) c f e K
def m_U(v x A:Int)(y:ByteArray)(z:Bool)(r:World)(K:Int->WP):Prop:=Br ((decide (v<1)) ||(decide (v>7))) (∀l q,Hst r None r l q->K 110 q)<|∀l q,Hst r None r l q->∃p:WP,p q.drew/\∀w,w=q.drew->(cl 216 #[] w fun e o=>∃r1:Array Value,e=.returned (.agg r1)/\p o/\Kept l w o/\∃h b g f,(∀w',p w'->(Instr.index 300 (.agg r1)<|vi v).run prog w'=.ok (.agg #[(vb h),(vb b),(vb g),(vs f)]) w')/\∀u m,New o (.cells #[(vb false),(vb false),(vb false),ve] 299) u m->p m/\(∀j,j<4->zV m (u.add j))/\¬l u.block/\∀s,s=storeRow m u [(vb h),(vb b),(vb g),(vs f)]->m_U_j1 x y z u r l s K)/\(∀p3 n,New w (.cells #[(vb false),(vb false),(vb false),ve] 299) p3 n->p n/\cl 216 #[] n fun e k=>∃r2:Array Value,e=.returned (.agg r2)/\p k/\Kept l n k/\∃a i d c,(∀w',p w'->(Instr.index 300 (.agg r2)<|vi v).run prog w'=.ok (.agg #[(vb a),(vb i),(vb d),(vs c)]) w')/\(∀j,j<4->zV k (p3.add j))/\¬l p3.block/\∀t,t=storeRow k p3 [(vb a),(vb i),(vb d),(vs c)]->m_U_j1 x y z p3 r l t K)
def w_U(aC aA aK aD aB w0 K)(h:m_U aC aA aK aD aB w0 K):
  cl 158 #[(.agg #[(vi aC),(vi aA),(vu aK),(vs aD),(vb aB)])] w0<|XB K:=
 cwH func158 h<|nh 0<|pj 1 0 [(decide (aC<1))] [1] (fun b=>[(11,(vb<|(b 0) ||(decide (aC>7))))]) (fun e=>lh 1 0 []<|pb 1 2 0 e (fun e=>pe 4 0 e)<|fun e=>lh 1 0 []<|pe 2 0 e)<|br 0 0 (ah<|rr 2)<|ja1 1 0 [1] (fun a1=>[(3,(vp<|some a1))]) (fun a1 H w=>m_U_j1 _ _ _ a1 _ H w _) (fun j=>ah<|dC 0 [0,4,5] [5]<|lhc 1 0 []<|dgb 0 (cd1 0 call216<|xe4<|rnc 0<|nwc 0<|ush 0<|je 0 0 j)<|nwc 0<|cd1 0 call216<|xe4<|rnc 0<|ush 0<|je 0 0 j)<|fun {a1}=>pj 0 0 [] [1,3] (fun b=>[(16,(vb<|(aA !=0)&&(aA !=1)))]) (fun o=>lh 1 0 [1]<|ct 2 4<|pj 0 0 [(aA !=0)] [1,3] (fun b=>[(24,(vb<|(b 0)&&(aA !=1)))]) (fun f=>pb 1 0 0 f (fun f=>lh 1 0 [1]<|pe 2 0 f)<|fun f=>pe 4 0 f)<|pe 1 0 o)<|br 0 0 (ah<|rr 3)<|ja1 1 0 [1,3] (fun g=>[(16,(vb g))]) (fun g H w=>m_U_j2 _ _ _ g _ H w _) (fun l=>ah<|ld 1<|fun {p}=>ct 2 4<|pj 0 0 [(!p)] [1,3] (fun b=>[(32,(vb<|(b 0)&&(aA !=0)))]) (fun a=>pb 1 0 0 a (fun a=>lh 1 0 [1]<|pe 2 0 a)<|fun a=>pe 4 0 a)<|ah<|je 1 0 l)<|fun {g}=>br 0 0 (rr 3)<|ja1 1 0 [1,3] (fun i=>[(16,(vb i))]) (fun i H w=>m_U_j3 _ _ _ i _ H w _) (fun m=>ld 1<|fun {k}=>ct 2 4<|pj 0 0 [(!k)] [1,3] (fun b=>[(40,(vb<|(b 0)&&(!(decide (aD=⟨#[]⟩)))))]) (fun c=>pb 1 0 0 c (fun c=>lh 1 0 [3]<|pe 2 0 c)<|fun c=>pe 4 0 c)<|ah<|je 1 0 m)<|fun {i}=>br 0 0 (rr 3)<|ld 2<|fun {n}=>ct 2 3<|pj 0 0 [(!n)] [1] (fun b=>[(47,(vb<|(b 0)&&aB))]) (fun d=>pb 1 0 0 d (fun d=>lh 1 0 [4]<|pe 1 0 d)<|fun d=>pe 3 0 d)<|br 0 1 (ah<|rr 2)<|lh 2 0 [3]<|br 0 3 (ah<|rr 2)<|ah<|rr 2
def s_Z(s1:ByteArray):Int×Int×Int×Int×ByteArray×Sl:=(3,0,0,0,s1,Sl.nil)
def p_Z(s1:ByteArray)(a:World):cl 221 #[(.string s1)] a (fun e w'=>e=.returned (.agg #[(.int .i64 (s_Z s1).1),(.int .i64 (s_Z s1).2.1),(.int .i64 (s_Z s1).2.2.1),(.int .u64 (s_Z s1).2.2.2.1),(.string (s_Z s1).2.2.2.2.1),(s_Z s1).2.2.2.2.2.v])/\Pure a w'):=
 cwp func221 [] (fun b=>(.agg #[(vi 3),(vi 0),(vi 0),(vu 0),(vs s1),Sl.nil.v])) fun c=>nh 0<|sg 2 0 []<|rss 0<|qgg 0 [] 6<|qpf c
def s_F1(n1:Int):Int×Int×Int×Int×ByteArray×Sl:=(2,0,0,n1,⟨#[]⟩,Sl.nil)
def p_F1(n1:Int)(a:World):cl 222 #[(.int .u64 n1)] a (fun e w'=>e=.returned (.agg #[(.int .i64 (s_F1 n1).1),(.int .i64 (s_F1 n1).2.1),(.int .i64 (s_F1 n1).2.2.1),(.int .u64 (s_F1 n1).2.2.2.1),(.string (s_F1 n1).2.2.2.2.1),(s_F1 n1).2.2.2.2.2.v])/\Pure a w'):=
 cwp func222 [] (fun b=>(.agg #[(vi 2),(vi 0),(vi 0),(vu n1),ve,Sl.nil.v])) fun c=>nh 0<|sg 2 0 []<|rss 0<|qgg 0 [] 6<|qpf c
def m_N7(l j:Int)(r p:Int)(o:ByteArray)(i:Sl)(h g:Int)(k n:Int)(m:ByteArray)(q:Sl)(b:World)(K:Int->Int->Int->Int->ByteArray->Sl->WP):Prop:=∀a f,Hst b None b a f->∀d c,New f (.cells #[(vi l),(vi j),(vi r),(vu p),(vs o),i.v,(vi h),(vi g),(vi k),(vu n),(vs m),q.v] 71) d c->∀e,Hst b a c a e->K 4 0 0 0 ⟨#[]⟩ (Sl.mk (some d) 2 2) e
def w_N7(aL aM aN aO aP aQ bD bE bF bG bH bI w0 K)(h:m_N7 aL aM aN aO aP aQ bD bE bF bG bH bI w0 K):
  cl 220 #[(.agg #[(vi aL),(vi aM),(vi aN),(vu aO),(vs aP),aQ.v]),(.agg #[(vi bD),(vi bE),(vi bF),(vu bG),(vs bH),bI.v])] w0<|fun e w'=>∃f d a b g c,e=.returned (Aa f d a b g c)/\K f d a b g c w':=
 cwH func220 h<|nh 0<|nh 0<|nh 0<|lgg 0 2 [] 6<|lgg 0 1 [] 6<|ah<|nwh 0<|sg 1 0 []<|an<|rss 0<|qgg 0 [] 6<|qee
def m_O7(u:Int)(a:ByteArray)(f:World)(K:Int->Int->Int->Int->ByteArray->Sl->WP):Prop:=∀b c,Hst f None f b c->cl 220 #[(.agg #[(vi 2),(vi 0),(vi 0),(vu u),ve,Sl.nil.v]),(.agg #[(vi 3),(vi 0),(vi 0),(vu 0),(vs a),Sl.nil.v])] c fun e d=>∃s r m t g i,e=.returned (Aa s r m t g i)/\Kept b c d/\cl 220 #[(.agg #[(vi 3),(vi 0),(vi 0),(vu 0),(vs (⟨#[100,101,97,108]⟩:ByteArray)),Sl.nil.v]),(.agg #[(vi s),(vi r),(vi m),(vu t),(vs g),i.v])] d fun e j=>∃n h l k o p,e=.returned (Aa n h l k o p)/\Kept b d j/\∀q,Hst f b j b q->K n h l k o p q
def w_O7(c1 text1 w0 K)(h:m_O7 c1 text1 w0 K):
  cl 217 #[(vu c1),(vs text1)] w0<|fun e w'=>∃c a b g d f,e=.returned (Aa c a b g d f)/\K c a b g d f w':=
 cwH func217 h<|nh 0<|cp 0 call221 (p_Z (⟨#[100,101,97,108]⟩:ByteArray))<|cp 1 call222 (p_F1 c1)<|cp 1 call221 (p_Z text1)<|ah<|ca6 0 call220<|ca6 0 call220<|sg 0 0 []<|an<|rss 0<|qgg 0 [] 6<|qee
def m_P7(a:Int)(b:Bool)(l bK:Int)(k i:Int)(j:ByteArray)(h:Sl)(d:World)(K:Int->Int->Int->Int->ByteArray->Sl->WP):Prop:=∀c g,Hst d None d c g->∀p3 f,New g (.cells #[(vi l),(vi bK),(vi k),(vu i),(vs j),h.v] 71) p3 f->∀e,Hst d c f c e->K (cond b 9 8) a (q6.wrap<|1-a) 0 ⟨#[]⟩ (Sl.mk (some p3) 1 1) e
def w_P7(from1 fake1 bJ bK bL bM bN bO w0 K)(h:m_P7 from1 fake1 bJ bK bL bM bN bO w0 K):
  cl 218 #[(vi from1),(vb fake1),(.agg #[(vi bJ),(vi bK),(vi bL),(vu bM),(vs bN),bO.v])] w0<|fun e w'=>∃i g c d j f,e=.returned (Aa i g c d j f)/\K i g c d j f w':=
 cwH func218 h<|nh 0<|nh 0<|pj 2 0 [fake1] [0,5,6] (fun b=>[(7,(vi<|cond (b 0) 9 8))]) (fun a=>pb 0 0 0 a (fun a=>pe 2 0 a)<|fun a=>pe 1 0 a)<|lgg 4 1 [] 6<|ah<|nwh 0<|sg 1 0 []<|an<|rss 0<|qgg 0 [] 6<|qee
def m_Q7(a h:Int)(g l i:Int)(j:ByteArray)(k:Sl)(b:World)(K:Int->Int->Int->Int->ByteArray->Sl->WP):Prop:=∀c e,Hst b None b c e->∀p3 f,New e (.cells #[(vi h),(vi g),(vi l),(vu i),(vs j),k.v] 71) p3 f->∀d,Hst b c f c d->K 7 a 0 0 ⟨#[]⟩ (Sl.mk (some p3) 1 1) d
def w_Q7(who1 aL aM aN aO aP aQ w0 K)(h:m_Q7 who1 aL aM aN aO aP aQ w0 K):
  cl 219 #[(vi who1),(.agg #[(vi aL),(vi aM),(vi aN),(vu aO),(vs aP),aQ.v])] w0<|fun e w'=>∃f d a b g c,e=.returned (Aa f d a b g c)/\K f d a b g c w':=
 cwH func219 h<|nh 0<|nh 0<|lgg 1 1 [] 6<|ah<|nwh 0<|sg 1 0 []<|an<|rss 0<|qgg 0 [] 6<|qee
def m_R7(I V U:Int)(aD:ByteArray)(W:Bool)(c:World)(K:Int->Int->Int->Int->ByteArray->Sl->WP):Prop:=∀m X,Hst c None c m X->cl 217 #[(vu U),(vs aD)] X fun e o=>∃C B F E H D,e=.returned (Aa C B F E H D)/\Kept m X o/\Br (I==1) (∀a b,Hst c m o a b->cl 218 #[(vi V),(vb W),(.agg #[(vi C),(vi B),(vi F),(vu E),(vs H),D.v])] b fun e w6=>∃aR aS aT aU aV aW,e=.returned (Aa aR aS aT aU aV aW)/\Kept a b w6/\∀w7,Hst c a w6 a w7->K aR aS aT aU aV aW w7) (Br (I==2) (∀a b,Hst c m o a b->cl 219 #[(vi V),(.agg #[(vi C),(vi B),(vi F),(vu E),(vs H),D.v])] b fun e w8=>∃aX aY aZ bA bB bC,e=.returned (Aa aX aY aZ bA bB bC)/\Kept a b w8/\∀w9,Hst c a w8 a w9->K aX aY aZ bA bB bC w9) (Br (I==3) (∀a b,Hst c m o a b->∃C1:WP,C1 b.drew/\∀z,z=b.drew->cl 221 #[(vs (⟨#[97,98,111,114,116]⟩:ByteArray))] z fun e i=>∃bQ bR bS bT bU bV,e=.returned (Aa bQ bR bS bT bU bV)/\C1 i/\Kept a z i/\cl 222 #[(vu U)] i fun e t=>∃bW bX bY bZ cA cB,e=.returned (Aa bW bX bY bZ cA cB)/\Kept a i t/\cl 220 #[(.agg #[(vi bQ),(vi bR),(vi bS),(vu bT),(vs bU),bV.v]),(.agg #[(vi bW),(vi bX),(vi bY),(vu bZ),(vs cA),cB.v])] t fun e q=>∃Z cD cE cF cG cH,e=.returned (Aa Z cD cE cF cG cH)/\Kept a t q/\cl 219 #[(vi 0),(.agg #[(vi Z),(vi cD),(vi cE),(vu cF),(vs cG),cH.v])] q fun e P=>∃cI cJ cK cL cM cN,e=.returned (Aa cI cJ cK cL cM cN)/\Kept a q P/\∀O,Hst c a P a O->K cI cJ cK cL cM cN O) (Br (I==4) (∀a b,Hst c m o a b->∃G:WP,G b.drew/\∀x,x=b.drew->cl 221 #[(vs (⟨#[114,101,115,111,108,118,101]⟩:ByteArray))] x fun e k=>∃cO cP cQ cR cS cT,e=.returned (Aa cO cP cQ cR cS cT)/\G k/\Kept a x k/\cl 218 #[(vi 0),(vb W),(.agg #[(vi C),(vi B),(vi F),(vu E),(vs H),D.v])] k fun e n=>∃cU cV cW cX cY cZ,e=.returned (Aa cU cV cW cX cY cZ)/\G n/\Kept a k n/\cl 218 #[(vi 1),(vb W),(.agg #[(vi C),(vi B),(vi F),(vu E),(vs H),D.v])] n fun e j=>∃dA dB dD dE dF dG,e=.returned (Aa dA dB dD dE dF dG)/\G j/\Kept a n j/\cl 220 #[(.agg #[(vi cU),(vi cV),(vi cW),(vu cX),(vs cY),cZ.v]),(.agg #[(vi dA),(vi dB),(vi dD),(vu dE),(vs dF),dG.v])] j fun e d=>∃dH dI dJ dK dL dM,e=.returned (Aa dH dI dJ dK dL dM)/\G d/\Kept a j d/\cl 220 #[(.agg #[(vi cO),(vi cP),(vi cQ),(vu cR),(vs cS),cT.v]),(.agg #[(vi dH),(vi dI),(vi dJ),(vu dK),(vs dL),dM.v])] d fun e l=>∃dN dO dP dQ dR dS,e=.returned (Aa dN dO dP dQ dR dS)/\G l/\Kept a d l/\cl 219 #[(vi V),(.agg #[(vi dN),(vi dO),(vi dP),(vu dQ),(vs dR),dS.v])] l fun e J=>∃dT dU dV dW dX Y,e=.returned (Aa dT dU dV dW dX Y)/\Kept a l J/\∀T,Hst c a J a T->K dT dU dV dW dX Y T) (Br (I==5) (∀a b,Hst c m o a b->∃C3:WP,C3 b.drew/\∀u,u=b.drew->cl 221 #[(vs (⟨#[97,98,111,114,116,101,100]⟩:ByteArray))] u fun e g=>∃dZ eA eB eC eD eE,e=.returned (Aa dZ eA eB eC eD eE)/\C3 g/\Kept a u g/\cl 222 #[(vu U)] g fun e A=>∃eF eG eH eI eJ eK,e=.returned (Aa eF eG eH eI eJ eK)/\Kept a g A/\cl 220 #[(.agg #[(vi dZ),(vi eA),(vi eB),(vu eC),(vs eD),eE.v]),(.agg #[(vi eF),(vi eG),(vi eH),(vu eI),(vs eJ),eK.v])] A fun e y=>∃eL eM eN eO eP eQ,e=.returned (Aa eL eM eN eO eP eQ)/\Kept a A y/\cl 219 #[(vi 2),(.agg #[(vi eL),(vi eM),(vi eN),(vu eO),(vs eP),eQ.v])] y fun e S=>∃eR eS eT eU eV eW,e=.returned (Aa eR eS eT eU eV eW)/\Kept a y S/\∀M,Hst c a S a M->K eR eS eT eU eV eW M) (Br (I==6) (∀a b,Hst c m o a b->∃C4:WP,C4 b.drew/\∀p,p=b.drew->cl 221 #[(vs (⟨#[105,110,115,116,101,97,100]⟩:ByteArray))] p fun e f=>∃eX eY eZ fA fB fC,e=.returned (Aa eX eY eZ fA fB fC)/\C4 f/\Kept a p f/\cl 220 #[(.agg #[(vi eX),(vi eY),(vi eZ),(vu fA),(vs fB),fC.v]),(.agg #[(vi C),(vi B),(vi F),(vu E),(vs H),D.v])] f fun e r=>∃fD fE fF fG fH fI,e=.returned (Aa fD fE fF fG fH fI)/\Kept a f r/\cl 219 #[(vi 2),(.agg #[(vi fD),(vi fE),(vi fF),(vu fG),(vs fH),fI.v])] r fun e L=>∃fJ fK fL fM fN fO,e=.returned (Aa fJ fK fL fM fN fO)/\Kept a r L/\∀Q,Hst c a L a Q->K fJ fK fL fM fN fO Q) (∀a b,Hst c m o a b->∃C5:WP,C5 b.drew/\∀w,w=b.drew->cl 221 #[(vs (⟨#[102,117,108,108]⟩:ByteArray))] w fun e h=>∃fP fQ fR fS fT fU,e=.returned (Aa fP fQ fR fS fT fU)/\C5 h/\Kept a w h/\cl 222 #[(vu U)] h fun e s=>∃fV fW fX fY fZ gA,e=.returned (Aa fV fW fX fY fZ gA)/\Kept a h s/\cl 220 #[(.agg #[(vi fP),(vi fQ),(vi fR),(vu fS),(vs fT),fU.v]),(.agg #[(vi fV),(vi fW),(vi fX),(vu fY),(vs fZ),gA.v])] s fun e N=>∃gB gC gD gE gF gG,e=.returned (Aa gB gC gD gE gF gG)/\Kept a s N/\∀R,Hst c a N a R->K gB gC gD gE gF gG R))))))
def w_R7(aC aA aK aD aB w0 K)(h:m_R7 aC aA aK aD aB w0 K):
  cl 159 #[(.agg #[(vi aC),(vi aA),(vu aK),(vs aD),(vb aB)])] w0<|fun e w'=>∃d a c g b f,e=.returned (Aa d a c g b f)/\K d a c g b f w':=
 cwH func159 h<|nh 0<|nh 0<|lh 1 1 [2]<|lh 1 1 [3]<|ah<|ca6 0 call217<|nh 0<|sg 0 0 []<|lh 1 2 []<|br 0 2 (lh 2 2 [1]<|lh 1 2 [4]<|lgg 0 0 [] 6<|ah<|ca6 0 call218<|sg 0 1 []<|an<|rss 0<|qgg 1 [] 6<|qee)<|br 0 3 (lh 2 2 [1]<|lgg 0 0 [] 6<|ah<|ca6 0 call219<|sg 0 1 []<|an<|rss 0<|qgg 1 [] 6<|qee)<|br 0 3 (ah<|dC 1 [0,3,4,5,6] [3,4,5,6]<|lhc 1 2 [2]<|cd6 0 call221<|ca6 0 call222<|ca6 0 call220<|ca6 0 call219<|sg 0 1 []<|an<|rss 0<|qgg 1 [] 6<|qee)<|br 0 3 (ah<|dC 1 [2,6,10,11,12,13,14] [13,14]<|lhc 1 2 [1]<|lhc 1 2 [4]<|lgc 0 0 [] 6<|lhc 1 2 [4]<|lgc 0 0 [] 6<|cd6 0 call221<|cd6 0 call218<|cd6 0 call218<|cd6 0 call220<|cd6 0 call220<|ca6 0 call219<|sg 0 1 []<|an<|rss 0<|qgg 1 [] 6<|qee)<|br 0 3 (ah<|dC 1 [0,3,4,5,6] [3,4,5,6]<|lhc 1 2 [2]<|cd6 0 call221<|ca6 0 call222<|ca6 0 call220<|ca6 0 call219<|sg 0 1 []<|an<|rss 0<|qgg 1 [] 6<|qee)<|br 0 3 (ah<|dC 1 [0,2,3,4] [2,3,4]<|lgc 0 0 [] 6<|cd6 0 call221<|ca6 0 call220<|ca6 0 call219<|sg 0 1 []<|an<|rss 0<|qgg 1 [] 6<|qee)<|ah<|dC 1 [0,3,4,5] [3,4,5]<|lhc 1 2 [2]<|cd6 0 call221<|ca6 0 call222<|ca6 0 call220<|sg 0 1 []<|an<|rss 0<|qgg 1 [] 6<|qee
def m_S7(p1:Option Addr)(o f i:Int)(k:ByteArray)(m:Bool)(r:World)(K:Int->Int->WP):Prop:=∀b c,Hst r None r b c->cl 158 #[(.agg #[(vi o),(vi f),(vu i),(vs k),(vb m)])] c fun e a=>∃r1,e=.returned (vi r1)/\Kept b c a/\Br (r1 !=0) (K 0 r1 a) (Br (Option.isNone p1) (K 0 2 a)<|cl 159 #[(.agg #[(vi o),(vi f),(vu i),(vs k),(vb m)])] a fun e d=>∃p n g h q l,e=.returned (Aa p n g h q l)/\Kept b a d/\cl 62 #[(vp p1),(.agg #[(vi p),(vi n),(vi g),(vu h),(vs q),l.v])] d (XH fun r2 r3 j=>Kept b d j/\K r2 r3 j))
def w_S7(p1 aC aA aK aD aB w0 K)(h:m_S7 p1 aC aA aK aD aB w0 K):
  cl 104 #[(vp p1),(.agg #[(vi aC),(vi aA),(vu aK),(vs aD),(vb aB)])] w0<|XH K:=
 cwH func104 h<|nh 0<|lgg 2 0 [] 5<|ah<|ca1 0 call158<|br 0 3 (rr 4)<|br 0 3 (rr 3)<|lgg 2 0 [] 5<|ca6 0 call159<|ca2 0 call62<|rr 4
end Go.Proofs
end
section
open Go Go.SE List
namespace Go.Proofs
open Tryz
attribute [local irreducible] Calls
def jUG:Array Value:=#[vb false,vb false,vb false,vs ⟨#[]⟩,vb true,vb true,vb true,vs ⟨#[112,114,111,109,105,115,101]⟩,vb true,vb true,vb false,vs ⟨#[115,105,103,110]⟩,vb false,vb false,vb false,vs ⟨#[97,98,111,114,116]⟩,vb true,vb true,vb true,vs ⟨#[114,101,115,111,108,118,101]⟩,vb false,vb false,vb false,vs ⟨#[116,111,107,101,110]⟩,vb false,vb true,vb false,vs ⟨#[105,110,115,116,101,97,100]⟩,vb false,vb false,vb false,vs ⟨#[102,117,108,108]⟩]
def jQS(w):cl 216 #[] w (fun e w'=>∃r:Array Value,e=.returned (.agg r)/\(r=jUG/\Pure w w')):=by
 refine w_M7 w (fun r w'=>r=jUG/\Pure w w') ?_;intro p1 d h1;have c:Pure w d:=Ext.new h1;have a:=New.own (Ext.refl w) h1;have b1:=Box.of_newA h1;clear h1;refine bx 32 b1 Kf Kf fun w' b E=>?_;exact⟨jUG,⟨Kf,b.row_eq Kf⟩,rfl,c.own a E⟩
def c_chk(l)(U:1<=l.kind/\l.kind<=7)(p){w0 w H wd T}(hB:Box w p [vb<|vG l.kind,vb<|vL l.kind,vb<|l.kind == 1 || l.kind == 4,vs wd] T)(v:¬ H p.block)(y:Pure w0 w):
  m_U_j1 l.frm l.text l.fake p w0 H w<|fun x w'=>x=vJ l/\Pure w0 w':=by
 have⟨k,f,c,x,s⟩:=l
 simp only at *
 have vis:∀{H z:NP} {w w':World},Box w p [vb<|vG k,vb<|vL k,vb<|k==1 ||k==4,vs wd] T->¬H p.block->Hst w0 H w z w'->¬z p.block/\Box w' p [vb<|vG k,vb<|vL k,vb<|k==1 ||k==4,vs wd] T:=fun hB v hs=>by
  have h:=hs.disj (G:=(·=p.block)) (fun b e=>by subst e;exact⟨hB.lt,v⟩) _ rfl;exact⟨h,hB.ext hs.ext h⟩
 unfold m_U_j1
 have g:(f≠0/\f≠1)\/(vG k=false/\f≠0)\/(vL k=false/\x≠⟨#[]⟩)\/(s=true/\k≠1/\k≠4)->(110:Int)=vJ ⟨k,f,c,x,s⟩:=fun h=>by
  unfold vJ;rw[if_pos];rcases h with h|h|h|h;exact .inr<|.inr<|.inl h;exact .inr<|.inr<|.inr<|.inl h;exact .inr<|.inr<|.inr<|.inr<|.inl h;exact .inr<|.inr<|.inr<|.inr<|.inr h
 refine⟨fun F N I d=>⟨g<|.inl ?_,y.hst d⟩,fun F N I d=>?_⟩
 grind
 have R:f=0\/f=1:=Gd
 have⟨O,D⟩:=vis hB v d
 have M:=y.hst d
 refine⟨_,D.cell0,fun S P q=>?_⟩
 have⟨K,E⟩:=vis D O q
 have C:=M.hst q
 refine⟨fun j=>⟨g<|.inr<|.inl ?_,C⟩,fun j=>?_⟩
 rw[Bool.and_eq_true]at j;exact⟨by simpa using j.1,bne_iff_ne.1 j.2⟩
 have hs:¬(vG k=false/\f≠0):=fun h=>Gd
 refine⟨_,E.cell (i:=1) rfl,fun W V r=>?_⟩
 have⟨Q,L⟩:=vis E K r
 have t:=C.hst r
 refine⟨fun u=>⟨g<|.inr<|.inr<|.inl ?_,t⟩,fun u=>?_⟩
 grind
 have ht:¬(vL k=false/\x≠⟨#[]⟩):=fun h=>Gd
 refine⟨_,L.cell (i:=2) rfl,fun n A B a=>⟨g<|.inr<|.inr<|.inr ?_,t.hst a⟩,fun n=>?_⟩
 grind
 have J:¬(s=true/\k≠1/\k≠4):=fun h=>by
  rw[Bool.and_eq_false_iff]at n;refine n.elim (fun h2=>?_) (fun h2=>by rw[h.1]at h2;cases h2);have h1:(k==1 ||k==4)=true:=Gd;rw[Bool.or_eq_true]at h1;exact h1.elim (fun h3=>h.2.1<|by simpa using h3) fun h3=>h.2.2 (by simpa using h3)
 have m:¬(k<1\/k>7\/(f≠0/\f≠1)\/(vG k=false/\f≠0)\/(vL k=false/\x≠⟨#[]⟩)\/(s=true/\k≠1/\k≠4)):=Gd
 refine⟨fun o A B a=>⟨?_,t.hst a⟩,fun o A B a=>⟨?_,t.hst a⟩⟩
 have:=of_decide_eq_true o
 unfold vJ;rw[if_neg m,if_pos Sy]
 have:=of_decide_eq_false o
 unfold vJ;rw[if_neg m,if_neg Sy]
def zAR(l w0):cl 158 #[.agg #[vi l.kind,vi l.frm,vu l.c,vs l.text,vb l.fake]] w0 (XB fun r w'=>r=vJ l/\Pure w0 w'):=by
 refine w_U _ _ _ _ _ w0 (fun r w'=>r=vJ l/\Pure w0 w') ?_;refine⟨fun A u v d=>⟨?_,d.first⟩,fun A u v d=>?_⟩
 .unfold vJ;rw[if_pos];rw[Bool.or_eq_true]at A;exact A.elim Gd fun h=>.inr<|.inl<|of_decide_eq_true h
 have F:1<=l.kind/\l.kind<=7:=Gd;have w:Pure w0 v:=d.first;have idx:∃t:ByteArray,∀w':World,(Instr.index 300 (.agg jUG)<|vi l.kind).run prog w'=.ok (.agg #[vb<|vG l.kind,vb<|vL l.kind,vb<|l.kind==1 ||l.kind==4,vs t]) w':=by
  have:l.kind=1\/l.kind=2\/l.kind=3\/l.kind=4\/l.kind=5\/l.kind=6\/l.kind=7:=Om;rcases this with e|e|e|e|e|e|e<;>rw[e]
  .exact⟨⟨#[112,114,111,109,105,115,101]⟩,fun w'=>Kf⟩
  .exact⟨⟨#[115,105,103,110]⟩,fun w'=>Kf⟩
  .exact⟨⟨#[97,98,111,114,116]⟩,fun w'=>Kf⟩
  .exact⟨⟨#[114,101,115,111,108,118,101]⟩,fun w'=>Kf⟩
  .exact⟨⟨#[116,111,107,101,110]⟩,fun w'=>Kf⟩
  .exact⟨⟨#[105,110,115,116,101,97,100]⟩,fun w'=>Kf⟩
  .exact⟨⟨#[102,117,108,108]⟩,fun w'=>Kf⟩
 have⟨t,idx⟩:=idx;refine⟨fun _=>True,trivial,?_⟩;rintro y I;have o:Pure v y:=by rw[I];exact Ext.drew v
 have E:∀b,u b->b<y.heap.size:=fun b G=>Oi (d.lt b G) o.size;refine⟨?_,?_⟩
 .refine(jQS y).mono ?_;rintro _ K ⟨_,rfl,rfl,f⟩;refine⟨_,rfl,trivial,f.keptP,_,_,_,_,fun w' _=>idx w',?_⟩;intro x C a;have J:=a.at_size;have M:=f.size;have k:¬u x.block:=fun hh=>Oh<|E _ hh;refine⟨trivial,(Box.of_newA a).canWs Sm,k,?_⟩;rintro j q;have X:Ext (·=x.block) C j:=by rw[q];exact Ext.storeRow _ _ _
  have B:Box j x [vb<|vG l.kind,vb<|vL l.kind,vb<|l.kind==1 ||l.kind==4,vs t] 299:=by rw[q];exact(Box.of_newA a).store rfl
  have N:=w.size;have L:=o.size;exact c_chk l F x B k<|(((w.trans o).trans f).trans<|Ext.new a).own Om X
 .intro p3 p g;refine⟨trivial,?_⟩;have H:=g.at_size;have D:Pure y p:=Ext.new g;have k:¬u p3.block:=fun hh=>Oh<|E _ hh;refine(jQS p).mono ?_;rintro _ z ⟨_,rfl,rfl,i⟩;have m:=(Box.of_newA g).pure i;refine⟨_,rfl,trivial,i.keptP,_,_,_,_,fun w' _=>idx w',m.canWs Sm,k,?_⟩;rintro s n;have X:Ext (·=p3.block) z s:=by rw[n];exact Ext.storeRow _ _ _
  have B:Box s p3 [vb<|vG l.kind,vb<|vL l.kind,vb<|l.kind==1 ||l.kind==4,vs t] 299:=by rw[n];exact m.store rfl
  have N:=w.size;have L:=o.size;exact c_chk l F p3 B k<|(((w.trans o).trans D).trans i).own Om X
abbrev RetU(S:NP)(w:World)(T:Tree)(e:Ending)(w':World):Prop:=∃s,e=.returned (.agg (uP T s).toArray)/\TreeAt S w' s T/\Pure w w'
def jEU{S}(w){A sa H3 w3 w4 w5 p o}(g:TreeAt S w sa A)(a:Hst w None w H3 w3)(n4:New w3 o p w4)(c:Hst w H3 w4 H3 w5):TreeAt S w5 sa A:=by
 have e:Pure w w3:=a.first;have f:Pure w3 w4:=Ext.new n4;exact(((g.lt.pure e).pure f).ext c.ext fun b d hh=>Oh<|a.old b hh).mono fun b d=>d.1
section
variable {S:NP} (w:World) (hS:∀b,w.heap.size<=b->S b)
include hS
def tW(A B sa sb)(o:TreeAt S w sa A)(hB:TreeAt S w sb B):cl 220 #[.agg (uP A sa).toArray,.agg (uP B sb).toArray] w (RetU S w<|qV A B):=by
 have⟨k,f,t,u,x,j⟩:=A;have⟨g,d,e,h,i,c⟩:=B;refine(w_N7 k f t u x sa g d e h i sb w (fun k' l z m y s w'=>(⟨k',l,z,m,y,0,0⟩:Node)=(qV (.mk k f t u x j)<|.mk g d e h i c).node/\TreeAt S w' s (qV (.mk k f t u x j)<|.mk g d e h i c)/\Pure w w') ?_).mono ?_
 .intro D G a r p n4 F b;have b4:=n4.at_size;have C:=a.first.size;have v:Box p r (uP (.mk k f t u x j) sa++uP (.mk g d e h i c) sb) 71:=Box.of_newA n4;exact⟨rfl,TreeAt.pair (v.ext b.ext fun hh=>Oh<|a.lt _ hh) (hS _ Om) (jEU w o a n4 b)<|jEU w hB a n4 b,(a.first.trans (Ext.new n4)).hst b⟩
 .rintro _ w' ⟨k,f,t,u,y,s,rfl,q,n,E⟩;cases q;exact⟨s,rfl,n,E⟩
def jFS(n A sa)(e:TreeAt S w sa A):cl 219 #[vi n,.agg (uP A sa).toArray] w (RetU S w<|yX n A):=by
 have⟨k,f,t,u,x,c⟩:=A;refine(w_Q7 n k f t u x sa w (fun k' d o l y s w'=>(⟨k',d,o,l,y,0,0⟩:Node)=(yX n<|.mk k f t u x c).node/\TreeAt S w' s (yX n<|.mk k f t u x c)/\Pure w w') ?_).mono ?_
 .intro q r a i g n4 v b;have b4:=n4.at_size;have p:=a.first.size;have h:Box g i (uP (.mk k f t u x c) sa) 71:=Box.of_newA n4;exact⟨rfl,TreeAt.one (h.ext b.ext fun hh=>Oh<|a.lt _ hh) (hS _ Om)<|jEU w e a n4 b,(a.first.trans (Ext.new n4)).hst b⟩
 .rintro _ w' ⟨k,f,t,u,y,s,rfl,j,m,E⟩;cases j;exact⟨s,rfl,m,E⟩
def jEF(n)(d:n=0\/n=1)(fk A sa)(g:TreeAt S w sa A):cl 218 #[vi n,vb fk,.agg (uP A sa).toArray] w (RetU S w<|yS n A fk):=by
 have⟨k,f,t,u,x,c⟩:=A;refine(w_P7 n fk k f t u x sa w (fun k' e o l y s w'=>(⟨k',e,o,l,y,0,0⟩:Node)=(yS n (.mk k f t u x c) fk).node/\TreeAt S w' s (yS n (.mk k f t u x c) fk)/\Pure w w') ?_).mono ?_
 .intro q r a j h n4 v b;have b4:=n4.at_size;have p:=a.first.size;have i:Box h j (uP (.mk k f t u x c) sa) 71:=Box.of_newA n4;refine⟨?_,TreeAt.one (i.ext b.ext fun hh=>Oh<|a.lt _ hh) (hS _ Om)<|jEU w g a n4 b,(a.first.trans (Ext.new n4)).hst b⟩;have:IntKind.i64.wrap (1-n)=1-n:=IntWalk.i64_in _ Om;rw[this];cases fk<;>rfl
 .rintro _ w' ⟨k,f,t,u,y,s,rfl,d,m,E⟩;cases d;exact⟨s,rfl,m,E⟩
def zEK(c x):cl 217 #[vu c,vs x] w (RetU S w<|qG c x):=by
 refine(w_O7 c x w (fun k f t u y s w'=>(⟨k,f,t,u,y,0,0⟩:Node)=(qG c x).node/\TreeAt S w' s (qG c x)/\Pure w w') ?_).mono ?_
 .intro q a d;have n:Pure w a:=d.first;have B:=n.size;have A:∀b,q b->b<a.heap.size:=fun b o=>d.lt b o;refine(tW (S:=(a.heap.size<=·)) a (fun _ h=>h) (jCV c) (qH x) Sl.nil Sl.nil TreeAt.leaf TreeAt.leaf).mono ?_;rintro _ z ⟨m,rfl,g,j⟩;refine⟨_,_,_,_,_,m,rfl,j.keptP,?_⟩;refine(tW (S:=(a.heap.size<=·)) z (fun b h=>by have:=j.size;show a.heap.size<=b;omega) (qH jVF) (qV (jCV c)<|qH x) Sl.nil m TreeAt.leaf g).mono ?_;rintro _ C ⟨r,rfl,i,l⟩;refine⟨_,_,_,_,_,r,rfl,l.keptP,fun D e=>⟨rfl,?_,((n.trans j).trans l).hst e⟩⟩;exact(i.ext e.ext Gd).mono Gd
 .rintro _ w' ⟨k,f,t,u,y,s,rfl,v,p,E⟩;cases v;exact⟨s,rfl,p,E⟩
end
def zEJ(l)(hf:l.frm=0\/l.frm=1)(w0):cl 159 #[.agg #[vi l.kind,vi l.frm,vu l.c,vs l.text,vb l.fake]] w0 (RetU (w0.heap.size<=·) w0<|zR l true true):=by
 have⟨kd,f,c,x,fk⟩:=l;simp only at hf;generalize V:zR ⟨kd,f,c,x,fk⟩ true true=R;refine(w_R7 kd f c x fk w0 (fun k f t u y s w'=>(⟨k,f,t,u,y,0,0⟩:Node)=R.node/\TreeAt (w0.heap.size<=·) w' s R/\Pure w0 w') ?_).mono ?_
 .intro H2 w2 hs2;have E2:Pure w0 w2:=hs2.first;have z2:=E2.size;refine (zEK (S:=(w2.heap.size<=·)) w2 (fun _ h=>h) c x).mono ?_;rintro _ w3 ⟨P,rfl,hT3,E3⟩;refine⟨_,_,_,_,_,P,rfl,E3.keptP,?_⟩;have z3:=E3.size;have O:∀{v:NP} {i:World},Hst w0 H2 w3 v i->TreeAt (fun b=>w0.heap.size<=b/\¬ v b) i P (qG c x)/\Pure w0 i/\(∀w:World,i.heap.size<=w.heap.size->∀b,w.heap.size<=b->w0.heap.size<=b/\¬ v b):=fun {v i} hs=>by
   have hd:∀b,(w2.heap.size<=b/\b<w3.heap.size)->¬v b:=hs.disj fun b N=>⟨N.2,fun hh=>Oh<|hs2.lt b hh⟩;refine⟨(hT3.lt.ext hs.ext fun b N=>hd b N).mono Gd,(E2.trans E3).hst hs,fun w hw b N=>⟨Oh hs.ext.size,fun hh=>Oh<|hs.lt b hh⟩⟩
  have fin:∀{v:NP} {L M:World} {s:Sl} {T:Tree},TreeAt (fun b=>w0.heap.size<=b/\¬v b) L s T->Pure w0 L->Hst w0 v L v M->T=R->R.node=R.node/\TreeAt (w0.heap.size<=·) M s R/\Pure w0 M:=fun {v L M s T} h E hs e=>by
   subst e;exact⟨rfl,(h.ext hs.ext fun b N=>N.2).mono fun b N=>N.1,E.hst hs⟩
  have n:∀{v:NP} {L M:World} {s:Sl} {T:Tree},TreeAt (fun b=>w0.heap.size<=b/\¬v b) L s T->Pure w0 L->Hst w0 v L v M->R=T->(⟨T.node.kind,T.node.frm,T.node.to,T.node.num,T.node.text,0,0⟩:Node)=R.node/\TreeAt (w0.heap.size<=·) M s R/\Pure w0 M:=fun {v L M s T} h E hs e=>by
   subst e;refine⟨?_,(fin h E hs rfl).2⟩;cases R;rfl
  refine⟨fun p v i g=>?_,fun h1=>⟨fun p v i g=>?_,fun h2=>⟨fun p v i g=>?_,fun h3=>⟨fun p v i g=>?_,fun h4=>⟨fun p v i g=>?_,fun h5=>⟨fun p v i g=>?_,fun h6 v i g=>?_⟩⟩⟩⟩⟩⟩
  .have p:=beq_iff_eq.1 p;have⟨I,H,hS⟩:=O g;refine(jEF i (hS i<|Nat.le_refl _) f hf fk _ P I).mono ?_;rintro _ w6 ⟨s6,rfl,W,E6⟩;refine⟨_,_,_,_,_,s6,rfl,E6.keptP,fun w7 Y=>n W (H.trans E6) Y ?_⟩;rw[<-V];unfold zR;rw[if_pos p]
  .have p:=beq_iff_eq.1 p;have⟨I,H,hS⟩:=O g;refine(jFS i (hS i<|Nat.le_refl _) f _ P I).mono ?_;rintro _ w6 ⟨s6,rfl,W,E6⟩;refine⟨_,_,_,_,_,s6,rfl,E6.keptP,fun w7 Y=>n W (H.trans E6) Y ?_⟩;rw[<-V];unfold zR;rw[if_neg Gd,if_pos p]
  .have p:=beq_iff_eq.1 p;have⟨I,H,hS⟩:=O g;refine⟨fun _=>True,trivial,?_⟩;rintro r G;have j:Pure i r:=by rw[G];exact Ext.drew i
   refine(p_Z _ r).mono ?_;rintro _ F ⟨rfl,a⟩;refine⟨_,_,_,_,_,_,rfl,trivial,a.keptP,?_⟩;refine(p_F1 _ F).mono ?_;rintro _ C ⟨rfl,q⟩;refine⟨_,_,_,_,_,_,rfl,q.keptP,?_⟩;have J:=((j.trans a).trans q).size;refine(tW C (hS C J) (qH jIP) (jCV c) Sl.nil Sl.nil TreeAt.leaf TreeAt.leaf).mono ?_;rintro _ A ⟨z,rfl,o,d⟩;refine⟨_,_,_,_,_,z,rfl,d.keptP,?_⟩;refine(jFS A (hS A<|Oh d.size) 0 _ z o).mono ?_;rintro _ w14 ⟨K,rfl,D,B⟩;refine⟨_,_,_,_,_,K,rfl,B.keptP,fun U m=>n D (((((H.trans j).trans a).trans q).trans d).trans B) m ?_⟩;rw[<-V];unfold zR;rw[if_neg fun e=>beq_eq_false_iff_ne.1 h1 e,if_neg Gd,if_pos p]
  .have p:=beq_iff_eq.1 p;have⟨I,H,hS⟩:=O g;refine⟨fun _=>True,trivial,?_⟩;rintro w16 e16;have E16:Pure i w16:=by rw[e16];exact Ext.drew i
   refine(p_Z _ w16).mono ?_;rintro _ w17 ⟨rfl,E17⟩;refine⟨_,_,_,_,_,_,rfl,trivial,E17.keptP,?_⟩;have Z:=E16.trans E17;refine(jEF w17 (hS w17 Z.size) 0 (.inl rfl) fk _ P<|I.pure Z).mono ?_;rintro _ w18 ⟨s18,rfl,hT18,E18⟩;refine⟨_,_,_,_,_,s18,rfl,trivial,E18.keptP,?_⟩;have X:=Z.trans E18;refine(jEF w18 (hS w18 X.size) 1 (.inr rfl) fk _ P<|I.pure X).mono ?_;rintro _ w19 ⟨s19,rfl,hT19,Q⟩;refine⟨_,_,_,_,_,s19,rfl,trivial,Q.keptP,?_⟩;have E59:=X.trans Q;refine(tW w19 (hS w19 E59.size) _ _ s18 s19 (hT18.pure Q) hT19).mono ?_;rintro _ w20 ⟨s20,rfl,hT20,E20⟩;refine⟨_,_,_,_,_,s20,rfl,trivial,E20.keptP,?_⟩;have E510:=E59.trans E20;refine(tW w20 (hS w20 E510.size) (qH tQ) _ Sl.nil s20 TreeAt.leaf hT20).mono ?_;rintro _ w21 ⟨s21,rfl,hT21,E21⟩;refine⟨_,_,_,_,_,s21,rfl,trivial,E21.keptP,?_⟩;have E511:=E510.trans E21;refine(jFS w21 (hS w21 E511.size) f _ s21 hT21).mono ?_;rintro _ w22 ⟨s22,rfl,hT22,E22⟩;refine⟨_,_,_,_,_,s22,rfl,E22.keptP,fun w23 hs23=>n hT22 ((H.trans E511).trans E22) hs23 ?_⟩;rw[<-V];unfold zR;rw[if_neg fun e=>beq_eq_false_iff_ne.1 h1 e,if_neg fun e=>beq_eq_false_iff_ne.1 h2 e,if_neg Gd,if_pos p];simp only[Bool.and_true]
  .have p:=beq_iff_eq.1 p;have⟨I,H,hS⟩:=O g;refine⟨fun _=>True,trivial,?_⟩;rintro r G;have j:Pure i r:=by rw[G];exact Ext.drew i
   refine(p_Z _ r).mono ?_;rintro _ F ⟨rfl,a⟩;refine⟨_,_,_,_,_,_,rfl,trivial,a.keptP,?_⟩;refine(p_F1 _ F).mono ?_;rintro _ C ⟨rfl,q⟩;refine⟨_,_,_,_,_,_,rfl,q.keptP,?_⟩;have J:=((j.trans a).trans q).size;refine(tW C (hS C J) (qH jAZ) (jCV c) Sl.nil Sl.nil TreeAt.leaf TreeAt.leaf).mono ?_;rintro _ A ⟨z,rfl,o,d⟩;refine⟨_,_,_,_,_,z,rfl,d.keptP,?_⟩;refine(jFS A (hS A<|Oh d.size) 2 _ z o).mono ?_;rintro _ w14 ⟨K,rfl,D,B⟩;refine⟨_,_,_,_,_,K,rfl,B.keptP,fun U m=>n D (((((H.trans j).trans a).trans q).trans d).trans B) m ?_⟩;rw[<-V];unfold zR;rw[if_neg fun e=>beq_eq_false_iff_ne.1 h1 e,if_neg fun e=>beq_eq_false_iff_ne.1 h2 e,if_neg fun e=>beq_eq_false_iff_ne.1 h3 e,if_neg fun e=>beq_eq_false_iff_ne.1 h4 e,if_pos p]
  .have p:=beq_iff_eq.1 p;have⟨I,H,hS⟩:=O g;refine⟨fun _=>True,trivial,?_⟩;rintro r G;have j:Pure i r:=by rw[G];exact Ext.drew i
   refine(p_Z _ r).mono ?_;rintro _ F ⟨rfl,a⟩;refine⟨_,_,_,_,_,_,rfl,trivial,a.keptP,?_⟩;have z11:=(j.trans a).size;refine(tW F (hS F z11) (qH jAY) _ Sl.nil P TreeAt.leaf<|I.pure<|j.trans a).mono ?_;rintro _ A ⟨z,rfl,o,d⟩;refine⟨_,_,_,_,_,z,rfl,d.keptP,?_⟩;refine(jFS A (hS A<|Oh d.size) 2 _ z o).mono ?_;rintro _ w14 ⟨K,rfl,D,B⟩;refine⟨_,_,_,_,_,K,rfl,B.keptP,fun U m=>n D ((((H.trans j).trans a).trans d).trans B) m ?_⟩;rw[<-V];unfold zR;rw[if_neg fun e=>beq_eq_false_iff_ne.1 h1 e,if_neg fun e=>beq_eq_false_iff_ne.1 h2 e,if_neg fun e=>beq_eq_false_iff_ne.1 h3 e,if_neg fun e=>beq_eq_false_iff_ne.1 h4 e,if_neg Gd,if_pos p]
  .have⟨I,H,hS⟩:=O g;refine⟨fun _=>True,trivial,?_⟩;rintro r G;have j:Pure i r:=by rw[G];exact Ext.drew i
   refine(p_Z _ r).mono ?_;rintro _ F ⟨rfl,a⟩;refine⟨_,_,_,_,_,_,rfl,trivial,a.keptP,?_⟩;refine(p_F1 _ F).mono ?_;rintro _ C ⟨rfl,q⟩;refine⟨_,_,_,_,_,_,rfl,q.keptP,?_⟩;have J:=((j.trans a).trans q).size;refine(tW C (hS C J) (qH jYC) (jCV c) Sl.nil Sl.nil TreeAt.leaf TreeAt.leaf).mono ?_;rintro _ A ⟨z,rfl,o,d⟩;refine⟨_,_,_,_,_,z,rfl,d.keptP,fun U m=>n o ((((H.trans j).trans a).trans q).trans d) m ?_⟩;rw[<-V];unfold zR;rw[if_neg fun e=>beq_eq_false_iff_ne.1 h1 e,if_neg fun e=>beq_eq_false_iff_ne.1 h2 e,if_neg fun e=>beq_eq_false_iff_ne.1 h3 e,if_neg fun e=>beq_eq_false_iff_ne.1 h4 e,if_neg fun e=>beq_eq_false_iff_ne.1 h5 e,if_neg Gd]
 .rintro _ w' ⟨k,f,t,u,y,s,rfl,hn,hT,E⟩;have⟨k2,f2,t2,u2,x2,ks⟩:=R;cases hn;exact⟨s,rfl,hT,E⟩
def jLP{l}(h:vJ l=0):l.frm=0\/l.frm=1:=by
 unfold vJ at h;split at h;cases h;grind
def zC(L:Pool)(l:Letter):Int×Int×Pool:=if vJ l≠0 then(0,vJ l,L)else of L (zR l true true)
def zIF(p l w0){L F}(u:zD w0 p L F)(y:Ok L):
  cl 104 #[vp<|some p,.agg #[vi l.kind,vi l.frm,vu l.c,vs l.text,vb l.fake]] w0<|XH fun r1 r2 w'=>r1=(zC L l).1/\r2=(zC L l).2.1/\∃F',zD w' p (zC L l).2.2 F'/\Ext F w0 w'/\∀b,F' b->F b\/w0.heap.size<=b:=by
 refine w_S7 (some p) l.kind l.frm l.c l.text l.fake w0 _ ?_
 intro M C i
 have K:Pure w0 C:=i.first
 have A:∀b,F b->b<w0.heap.size:=fun b a=>u.lt a
 refine(zAR l C).mono ?_
 rintro _ B ⟨_,rfl,rfl,D⟩
 have d:=K.trans D
 refine⟨_,rfl,D.keptP,fun f=>?_,fun f=>⟨fun h=>(by cases h),fun _=>?_⟩⟩
 .have f:=bne_iff_ne.1 f
  have e:zC L l=(0,vJ l,L):=by unfold zC;rw[if_pos f]
  rw[e];exact⟨rfl,rfl,F,u.pure d,Ext.pure d,fun b a=>.inl a⟩
 .have f:vJ l=0:=by simpa using f
  have e:zC L l=of L (zR l true true):=by unfold zC;rw[if_neg<|by simpa using f]
  rw[e]
  refine(zEJ l (jLP f) B).mono ?_
  rintro _ G ⟨q,r,z,E⟩
  generalize zR l true true=T at *
  have⟨w,t,m,j,x,n⟩:=T
  have r:_=Ending.returned (.agg #[vi w,vi t,vi m,vu j,vs x,q.v]):=r
  refine⟨w,t,m,j,x,q,r,E.keptP,?_⟩
  have g:=d.trans E
  refine(c_Of (S:=fun b=>B.heap.size<=b/\b<G.heap.size) p (.mk w t m j x n) q G z.lt (u.pure g) y (fun b a hh=>Oi (A b a) d.size) fun b a=>a.2).mono ?_
  rintro _ N ⟨r1,r2,rfl,s,F',o,H,k⟩
  have⟨I,J⟩:=Prod.mk.inj s
  refine⟨r1,r2,rfl,H.kept fun b a hh=>Oi (i.old b a)<|A b hh,I,J,F',o,(Ext.pure g).trans H,fun b a=>(k b a).imp id fun h=>Oh g.size⟩
end Go.Proofs
end
section
open Go Go.SE List
namespace Go.Proofs
def xI{L}(h:Wf L)(l):Wf (Go.Proofs.zC L l).2.2:=by
 unfold Go.Proofs.zC;split;exact h;exact of_wf h _
def qP(l:Letter):List UInt8×Int:=if(zC [] l).2.1≠0 then([],(zC [] l).2.1)else jAN (zC [] l).2.2 (zC [] l).1
def jVP(l:Letter):ByteArray:=⟨(qP l).1.toArray⟩
def tT{k f t u x a}(h:yH u)(b:NumT a):NumT (.mk k f t u x [a]):=.mk _ _ _ _ _ _ h Gd
def tR{k f t u x a b}(h:yH u)(d:NumT a)(c:NumT b):NumT (.mk k f t u x [a,b]):=.mk _ _ _ _ _ _ h Gd
def uB{k f t u x}(h:yH u):NumT (.mk k f t u x []):=.mk _ _ _ _ _ _ h (fun i hi=>by simp at hi)
def jHB:yH 0:=⟨De,De⟩
def jZD{c x}(h:yH c):NumT (qG c x):=tR jHB (uB jHB)<|tR jHB (uB h)<|uB jHB
def jSF{l}(h:yH l.c)(a b):NumT (zR l a b):=by
 unfold zR;have d:=jZD (x:=l.text) h;split;· exact tT jHB d
 split;· exact tT jHB d
 split;· exact tT jHB<|tR jHB (uB jHB)<|uB h
 split;· exact tT jHB<|tR jHB (uB jHB)<|tR jHB (tT jHB d)<|tT jHB d
 split;· exact tT jHB<|tR jHB (uB jHB)<|uB h
 split;· exact tT jHB<|tR jHB (uB jHB) d
 exact tR jHB (uB jHB)<|uB h
def xU{L}(a:yU L){l}(h:yH l.c):yU (zC L l).2.2:=by
 unfold zC;split;exact a;exact a.of<|jSF h _ _
def jAR{L}(a:Ok L)(l):∃M,(zC L l).2.2=L++M:=by
 unfold zC;split;exact⟨[],(append_nil L).symm⟩;exact zCY a _
end Go.Proofs
end
section
open Go Go.SE List
namespace Go.Proofs
open Classical in
noncomputable def jGW(G:List Int):List Letter->Pool->Int×Pool
 |[],L=>(0,L)
 |l :: ls,L=>if(zC L l).2.1=0/\Drv (zC L l).2.2 (Seen (zC L l).2.2 G) (zC L l).1 then((zC L l).1,(zC L l).2.2)else jGW G ls (zC L l).2.2
def evs(who c:Int)(x:ByteArray):List Letter:=[⟨2,who,c,x,false⟩,⟨6,0,c,x,false⟩]
noncomputable def jEK(L:Pool)(G:List Int)(who c:Int)(x:ByteArray):Int×Pool:=if yG who=true then jGW G (evs who c x) L else(0,L)
def jAQ{L l}(h:(zC L l).2.1=0)(e:Wf L):vJ l=0/\inP (zC L l).2.2 (zC L l).1=true/\zA (zC L l).2.2 (zC L l).1=zR l true true:=by
 have a:vJ l=0:=by
  unfold zC at h;split at h;exact h;grind
 have d:zC L l=of L (zR l true true):=by unfold zC;rw[if_neg Om]
 obtain⟨b,c,_⟩:=jZC e (by rw[<-d];exact h);rw[<-d]at b c;exact⟨a,b,c⟩
inductive ReachR(a:Pool->Int->Prop)(G:List Int):List Letter->Pool->Int->Pool->Prop
 |nil {L:Pool}:ReachR a G [] L 0 L
 |hit {l:Letter} {ls:List Letter} {L:Pool}:(zC L l).2.1=0->Drv (zC L l).2.2 (Seen (zC L l).2.2 G) (zC L l).1->ReachR a G (l :: ls) L (zC L l).1 (zC L l).2.2
 |miss {l:Letter} {ls:List Letter} {L b:Pool} {r:Int}:(¬((zC L l).2.1=0/\Drv (zC L l).2.2 (Seen (zC L l).2.2 G) (zC L l).1)\/a (zC L l).2.2 (zC L l).1)->ReachR a G ls (zC L l).2.2 r b->ReachR a G (l :: ls) L r b
def ReachR.eq{G ls L L' r}(h:ReachR (fun _ _=>False) G ls L r L'):jGW G ls L=(r,L'):=by
 induction h with
 |nil=>rfl
 |hit h1 h2=>rw[jGW,if_pos ⟨h1,h2⟩]
 |miss h1 _ a=>rw[jGW,if_neg<|h1.resolve_right id,a]
open Classical in
noncomputable def zHA(L:Pool)(G:List Int)(n:Int):Bool:=match find L (zT n)with|some i=>decide (Seen L G<|(i:Int)+1)|none=>false
noncomputable def jNE(L:Pool)(G:List Int)(who:Int):Bool:=yG who&&(zHA L G who ||zHA L G 2)
end Go.Proofs
end
section
open Go Go.SE List
open Go.IntKind renaming i64 -> q6
namespace Go.Proofs
open Tryz
set_option maxRecDepth 100000
set_option maxHeartbeats 4000000
attribute [local irreducible] wpL wpX opE wpE Calls
attribute [local irreducible] adv W WV WR yN pv lpC jBQ ctR ka rgP dgo nwV nhI hvl had hcs hpt stV stC kp yM uK qM bn ub
def m_B2_l1(b:Sl)(i1 s:Int)(t v bK:Int)(C:ByteArray)(u:Sl)(y w:Int)(A x:Int)(z:ByteArray)(g:Sl)(e:World)(a:NP)(d:World)(f:Int->Int->Int->Int->Int->ByteArray->Sl->Int->Int->Int->Int->ByteArray->Sl->NP->WP)(K:Int->Int->Int->Int->ByteArray->Sl->WP):Prop:=Br (decide (i1<(b.len:Int))) (∃a1:Addr,At b i1 1 a1/\∀c,Hst e a d a c->li c a1 fun B=>Br (decide (B>=(g.len:Int))) (∀i,Hst e a c a i->K 0 0 0 0 ⟨#[]⟩ Sl.nil i)<|∃a2:Addr,At b i1 1 a2/\li c a2 fun r=>¬a a2.block/\∃a3:Addr,At g r 6 a3/\∃p k m n h o,Row c a3 (Ac p k m n h o)/\¬a a3.block/\∀j l,Hst e a c j l->f (q6.wrap<|i1+1) s t v bK C u p k m n h o j l) (∀q,Hst e a d a q->K y w A x z g q)
def m_B2(H N:Int)(J M:Int)(L:ByteArray)(G f:Sl)(r:World)(K:Int->Int->Int->Int->ByteArray->Sl->WP):Prop:=∀E F,Hst r None r E F->∃(v:Int->Int->Int->Int->Int->ByteArray->Sl->Int->Int->Int->Int->ByteArray->Sl->NP->WP) (g:Int->Int->Int->Int->Int->ByteArray->Sl->Int->Int->Int->Int->ByteArray->Sl->World->Nat),v 0 0 0 0 0 ⟨#[]⟩ Sl.nil H N J M L G E F/\∀(i1 s:Int) (t w bK:Int) (D:ByteArray) (u:Sl) (A x:Int) (C z:Int) (B:ByteArray) (y:Sl) (b:NP) (a:World),Hst r b a b a->v i1 s t w bK D u A x C z B y b a->m_B2_l1 f i1 s t w bK D u A x C z B y r b a (fun j l q i p h m o k n c e d I w'=>v j l q i p h m o k n c e d I w'/\g j l q i p h m o k n c e d w'<g i1 s t w bK D u A x C z B y a) K
def w_B2(aI aC aJ aK aL aM path1 w0 K)(h:m_B2 aI aC aJ aK aL aM path1 w0 K):
  cl 165 #[(.agg #[(vi aI),(vi aC),(vi aJ),(vu aK),(vs aL),aM.v]),path1.v] w0<|fun e w'=>∃p t r q s u,e=.returned (Aa p t r q s u)/\K p t r q s u w':=
 cwH func165 h<|nh 0<|nh 0<|ah<|wb13 1 [1,2,4] (fun i1 a c f bK o d k g n j m i=>[(5,(vi i1))]) (fun i1 a c f bK o d k g n j m i l=>hpt (hpt l 0 0 [(vi a),(vi c),(vi f),(vu bK),(vs o),(Sl.v d)]) 1 0 [(vi k),(vi g),(vi n),(vu j),(vs m),(Sl.v i)])<|fun {_ _ i1 a c f bK o d k g n j m i}=>fun x=>br 0 4 (dq 1<|ix 2<|an<|ld 0<|lh 1 1 [5]<|br 0 2 (sg 2 0 []<|an<|rss 0<|qgg 0 [] 6<|qee)<|dss 1 [8] [8]<|lhs 1 0 1 [5]<|ix 2<|lds 0<|ix 0<|xe6<|fun {D y A B w C}=>lrs 0<|ph (fun b l=>hpt l 1 0<|Ac D y A B w C) 0 0 [] [1,2,4,5] (fun b=>[]) (fun z=>sg 0 1 []<|pe 0 0 z)<|ah<|je 3 0 x)<|lgg 1 1 [] 6<|sg 0 0 []<|an<|rss 0<|qgg 0 [] 6<|qee
def s_J(a:Int):Bool:=(((a==1) ||(a==2)) ||(a==4))
def p_J(a:Int)(f:World):cl 166 #[(.int .i64 a)] f (fun e w'=>e=.returned (.bool<|s_J a)/\Pure f w'):=
 cwp func166 [] (fun b=>(vb<|((a==1) ||(a==2)) ||(a==4))) fun g=>pj 1 0 [] [] (fun b=>[(2,(vb<|((a==1) ||(a==2)) ||(a==4)))]) (fun h=>ct 3 3<|pj 0 0 [(a==1)] [0] (fun b=>[(8,(vb<|(b 0) ||(a==2)))]) (fun c=>pb 1 0 0 c (fun c=>pe 3 0 c)<|fun c=>pe 3 0 c)<|ct 1 3<|pj 0 0 [((a==1) ||(a==2))] [] (fun b=>[(12,(vb<|(b 0) ||(a==4)))]) (fun d=>pb 1 0 0 d (fun d=>pe 3 0 d)<|fun d=>pe 3 0 d)<|pe 1 0 h)<|qpe 0 g
def s_T7(a:Int):Bool:=((s_J a) ||(a==6))
def p_T7(a:Int)(d:World):cl 167 #[(.int .i64 a)] d (fun e w'=>e=.returned (.bool<|s_T7 a)/\Pure d w'):=
 cwp func167 [] (fun b=>(vb<|(s_J a) ||(a==6))) fun f=>pj 1 0 [] [] (fun b=>[(2,(vb<|(s_J a) ||(a==6)))]) (fun g=>cp 1 call166 (p_J a)<|ct 1 3<|pj 0 0 [(s_J a)] [] (fun b=>[(8,(vb<|(b 0) ||(a==6)))]) (fun c=>pb 1 0 0 c (fun c=>pe 3 0 c)<|fun c=>pe 3 0 c)<|pe 1 0 g)<|qpe 0 f
def s_C2(a b e:Int)(c:ByteArray)(d:Bool):Int:=(cond ((((((decide (a<1)) ||(decide (a>7))) ||((b !=0)&&(b !=1))) ||((!(s_J a))&&(b !=0))) ||((!((s_J a) ||(a==6)))&&(!(decide (c=⟨#[]⟩))))) ||((d&&(a !=1))&&(a !=4))) 110<|cond (decide ((c.size:Int)>64)) 1 0)
def p_C2(a c s:Int)(p:ByteArray)(q:Bool)(r:World):cl 168 #[(.agg #[(.int .i64 a),(.int .i64 c),(.int .u64 s),(.string p),(.bool q)])] r (fun e w'=>e=.returned (.int .i64<|s_C2 a c s p q)/\Pure r w'):=
 cwp func168 [((((((decide (a<1)) ||(decide (a>7))) ||((c !=0)&&(c !=1))) ||((!(s_J a))&&(c !=0))) ||((!((s_J a) ||(a==6)))&&(!(decide (p=⟨#[]⟩))))) ||((q&&(a !=1))&&(a !=4))),(decide ((p.size:Int)>64))] (fun b=>(vi<|cond (b 0) 110<|cond (b 1) 1 0)) fun o=>nh 0<|pj 1 0 [(((((decide (a<1)) ||(decide (a>7))) ||((c !=0)&&(c !=1))) ||((!(s_J a))&&(c !=0))) ||((!((s_J a) ||(a==6)))&&(!(decide (p=⟨#[]⟩)))))] [1] (fun b=>[(56,(vb<|(b 0) ||((q&&(a !=1))&&(a !=4))))]) (fun k=>lh 1 0 []<|ct 2 4<|pj 0 0 [(decide (a<1))] [1] (fun b=>[(10,(vb<|(b 0) ||(decide (a>7))))]) (fun j=>pb 1 0 0 j (fun j=>pe 4 0 j)<|fun j=>lh 1 0 []<|pe 2 0 j)<|ct 1 9<|pj 0 0 [((decide (a<1)) ||(decide (a>7)))] [1] (fun b=>[(20,(vb<|(b 0) ||((c !=0)&&(c !=1))))]) (fun m=>pb 1 0 0 m (fun m=>pe 9 0 m)<|fun m=>lh 1 0 [1]<|ct 2 4<|pj 0 0 [(c !=0)] [1,11] (fun b=>[(19,(vb<|(b 0)&&(c !=1)))]) (fun i=>pb 1 0 0 i (fun i=>lh 1 0 [1]<|pe 2 0 i)<|fun i=>pe 4 0 i)<|pe 1 0 m)<|ct 1 10<|pj 0 0 [(((decide (a<1)) ||(decide (a>7))) ||((c !=0)&&(c !=1)))] [1] (fun b=>[(31,(vb<|(b 0) ||((!(s_J a))&&(c !=0))))]) (fun d=>pb 1 0 0 d (fun d=>pe 10 0 d)<|fun d=>lh 1 0 []<|cp 0 call166 (p_J a)<|ct 2 4<|pj 0 0 [(!(s_J a))] [1,21] (fun b=>[(30,(vb<|(b 0)&&(c !=0)))]) (fun h=>pb 1 0 0 h (fun h=>lh 1 0 [1]<|pe 2 0 h)<|fun h=>pe 4 0 h)<|pe 1 0 d)<|ct 1 10<|pj 0 0 [((((decide (a<1)) ||(decide (a>7))) ||((c !=0)&&(c !=1))) ||((!(s_J a))&&(c !=0)))] [1] (fun b=>[(42,(vb<|(b 0) ||((!((s_J a) ||(a==6)))&&(!(decide (p=⟨#[]⟩))))))]) (fun g=>pb 1 0 0 g (fun g=>pe 10 0 g)<|fun g=>lh 1 0 []<|cp 0 call167 (p_T7 a)<|ct 2 4<|pj 0 0 [(!((s_J a) ||(a==6)))] [1,32] (fun b=>[(41,(vb<|(b 0)&&(!(decide (p=⟨#[]⟩)))))]) (fun f=>pb 1 0 0 f (fun f=>lh 1 0 [3]<|pe 2 0 f)<|fun f=>pe 4 0 f)<|pe 1 0 g)<|pb 1 1 0 k (fun k=>pe 13 0 k)<|fun k=>lh 1 0 [4]<|ct 1 4<|pj 0 0 [q] [1,43] (fun b=>[(50,(vb<|(b 0)&&(a !=1)))]) (fun n=>pb 1 0 0 n (fun n=>lh 1 0 []<|pe 2 0 n)<|fun n=>pe 4 0 n)<|ct 1 4<|pj 0 0 [(q&&(a !=1))] [1,43] (fun b=>[(55,(vb<|(b 0)&&(a !=4)))]) (fun l=>pb 1 0 0 l (fun l=>lh 1 0 []<|pe 2 0 l)<|fun l=>pe 4 0 l)<|pe 1 0 k)<|pb 0 0 0 o (fun o=>qpe 2 o)<|fun o=>lh 2 0 [3]<|pb 0 2 1 o (fun o=>qpe 2 o)<|fun o=>qpe 2 o
def m_K_l5(J U:Int)(L R:Int)(M:ByteArray)(F:Sl)(q i1:Int)(a l:Int)(g k:Int)(j:ByteArray)(Z:Bool)(u y r:Int)(x:ByteArray)(z:Bool)(B:World)(b:NP)(w:World)(A:Int->Int->Int->Int->ByteArray->Bool->NP->WP)(i:Int->Int->Int->Int->ByteArray->Bool->Int->Int->Int->ByteArray->Bool->NP->WP)(K:Int->Int->Int->ByteArray->Bool->Bool->WP):Prop:=Br (decide (a<4)) (∀o,Hst B b w b o->∃d:WP,d o.drew/\∀p,p=o.drew->cl 168 #[(.agg #[(vi l),(vi g),(vu k),(vs j),(vb<|decide (a>0))])] p fun e c=>∃r1,e=.returned (vi r1)/\d c/\Kept b p c/\Br (r1==0) (Br (q==4) (∃I,(∀w',d w'->(Go.binOp .rem 3 (vi a)<|vi 2).run prog w'=.ok (vi I) w')/\∃Y,(∀w',d w'->(Go.binOp .quo 3 (vi a)<|vi 2).run prog w'=.ok (vi Y) w')/\cl 25 #[(.agg #[(vi l),(vi g),(vu k),(vs j),(vb<|decide (a>0))]),(vb<|I==1),(vb<|Y==1)] c fun e n=>∃D V O G Q X,e=.returned (Aa D V O G Q X)/\d n/\Kept b c n/\cl 169 #[(.agg #[(vi D),(vi V),(vi O),(vu G),(vs Q),X.v]),(.agg #[(vi J),(vi U),(vi L),(vu R),(vs M),F.v])] n (XC fun r2 m=>d m/\Kept b n m/\Br r2 (∀t,Hst B b m b t->K l g k j (decide (a>0)) true t) (i (q6.wrap<|a+1) l g k j (decide (a>0)) u y r x z b m))) (Br (a !=2) (∃C,(∀w',d w'->(Go.binOp .rem 3 (vi a)<|vi 2).run prog w'=.ok (vi C) w')/\∃H,(∀w',d w'->(Go.binOp .quo 3 (vi a)<|vi 2).run prog w'=.ok (vi H) w')/\cl 25 #[(.agg #[(vi l),(vi g),(vu k),(vs j),(vb<|decide (a>0))]),(vb<|C==1),(vb<|H==1)] c fun e h=>∃S T N W E P,e=.returned (Aa S T N W E P)/\d h/\Kept b c h/\cl 169 #[(.agg #[(vi S),(vi T),(vi N),(vu W),(vs E),P.v]),(.agg #[(vi J),(vi U),(vi L),(vu R),(vs M),F.v])] h (XC fun r3 f=>d f/\Kept b h f/\Br r3 (∀s,Hst B b f b s->K l g k j (decide (a>0)) true s) (i (q6.wrap<|a+1) l g k j (decide (a>0)) u y r x z b f))) (i (q6.wrap<|a+1) l g k j (decide (a>0)) u y r x z b c))) (i (q6.wrap<|a+1) l g k j (decide (a>0)) u y r x z b c)) (A (q6.wrap<|i1+1) u y r x z b w)
def m_K_j4(F S:Int)(J N:Int)(L:ByteArray)(E:Sl)(e i1:Int)(Q M O:Int)(U:ByteArray)(P:Bool)(G V T:Int)(W:ByteArray)(R:Bool)(D:World)(H:NP)(w:World)(r:Int->Int->Int->Int->ByteArray->Bool->NP->WP)(K:Int->Int->Int->ByteArray->Bool->Bool->WP):Prop:=∃(y:Int->Int->Int->Int->ByteArray->Bool->Int->Int->Int->ByteArray->Bool->NP->WP) (f:Int->Int->Int->Int->ByteArray->Bool->Int->Int->Int->ByteArray->Bool->World->Nat),y 0 G V T W R Q M O U P H w/\∀(a x:Int) (s v:Int) (u:ByteArray) (q:Bool) (z B t:Int) (A:ByteArray) (C:Bool) (c:NP) (b:World),Hst D c b c b->y a x s v u q z B t A C c b->m_K_l5 F S J N L E e i1 a x s v u q z B t A C D c b r (fun i k o h n g l m j p d I w'=>y i k o h n g l m j p d I w'/\f i k o h n g l m j p d w'<f a x s v u q z B t A C b) K
def m_K_j3(n f:Int)(p B:Int)(q:ByteArray)(m:Sl)(a i1:Int)(F C D:Int)(G:ByteArray)(E:Bool)(a1:Addr)(d:World)(H:NP)(w:World)(i:Int->Int->Int->Int->ByteArray->Bool->NP->WP)(K:Int->Int->Int->ByteArray->Bool->Bool->WP):Prop:=Br ((s_J a) ||(a==6)) (∀b c,Hst d H w b c->∃W P R S J X,Row c a1 (Ac W P R S J X)/\∀p8 j,New c (.cells #[(vi 1),(vi 0)] 3) p8 j->cl 165 #[(.agg #[(vi W),(vi P),(vi R),(vu S),(vs J),X.v]),(Sl.mk (some p8) 2 2).v] j fun e y=>∃cE cF dK V cG dL,e=.returned (Aa cE cF dK V cG dL)/\Kept b j y/\∀g,Hst d b y b g->∃M I T Q Y L,Row g a1 (Ac M I T Q Y L)/\∀N l,New g (.cells #[(vi 1),(vi 1)] 3) N l->cl 165 #[(.agg #[(vi M),(vi I),(vi T),(vu Q),(vs Y),L.v]),(Sl.mk (some N) 2 2).v] l fun e x=>∃dM dN dO dP U dQ,e=.returned (Aa dM dN dO dP U dQ)/\Kept b l x/\∀r,Hst d b x b r->m_K_j4 n f p B q m a i1 F C D G E a (cond (s_J a) f 0) V U false d b r i K) (Br (a==7) (∀b c,Hst d H w b c->∀z h,New c (.cells #[(vi 1)] 3) z h->cl 165 #[(.agg #[(vi n),(vi f),(vi p),(vu B),(vs q),m.v]),(Sl.mk (some z) 1 1).v] h fun e s=>∃dR dS dT O dU dV,e=.returned (Aa dR dS dT O dU dV)/\Kept b h s/\∀u,Hst d b s b u->m_K_j4 n f p B q m a i1 F C D G E a (cond (s_J a) f 0) O ⟨#[]⟩ false d b u i K) (∀b c,Hst d H w b c->∀t k,New c (.cells #[(vi 0),(vi 1)] 3) t k->cl 165 #[(.agg #[(vi n),(vi f),(vi p),(vu B),(vs q),m.v]),(Sl.mk (some t) 2 2).v] k fun e A=>∃dW dX dY Z dZ eA,e=.returned (Aa dW dX dY Z dZ eA)/\Kept b k A/\∀o,Hst d b A b o->m_K_j4 n f p B q m a i1 F C D G E a (cond (s_J a) f 0) Z ⟨#[]⟩ false d b o i K))
def m_K_l2(r w:Int)(s u:Int)(t:ByteArray)(p:Sl)(E:Addr)(b i1:Int)(B y z:Int)(C:ByteArray)(A:Bool)(P:World)(a:NP)(i:World)(x:Int->Int->Int->Int->ByteArray->Bool->NP->WP)(n:Int->Int->Int->Int->ByteArray->Bool->NP->WP)(K:Int->Int->Int->ByteArray->Bool->Bool->WP):Prop:=Br (decide (i1<((Sl.mk (some E) 3 3).len:Int))) (∃q:WP,q i.drew/\∀h,h=i.drew->∃a2:Addr,At (Sl.mk (some E) 3 3) i1 1 a2/\∃D:Sl,(∀w',q w'->w'.cell? a2=some D.v)/\(cl 165 #[(.agg #[(vi r),(vi w),(vi s),(vu u),(vs t),p.v]),D.v] h fun e m=>∃L I N R J G,e=.returned (Aa L I N R J G)/\Kept a h m/\∀d f,New m (.cells #[(vi 0),(vi 0),(vi 0),(vu 0),ve,Sl.nil.v] 71) d f->q f/\(∀j,j<6->zV f (d.add j))/\¬a d.block/\∀o,o=storeRow f d (Ac L I N R J G)->m_K_j3 r w s u t p b i1 B y z C A d P a o n K)/\(∀c g,New h (.cells #[(vi 0),(vi 0),(vi 0),(vu 0),ve,Sl.nil.v] 71) c g->q g/\cl 165 #[(.agg #[(vi r),(vi w),(vi s),(vu u),(vs t),p.v]),D.v] g fun e k=>∃F O Q H dF M,e=.returned (Aa F O Q H dF M)/\Kept a g k/\(∀j,j<6->zV k (c.add j))/\¬a c.block/\∀l,l=storeRow k c (Ac F O Q H dF M)->m_K_j3 r w s u t p b i1 B y z C A c P a l n K)) (x (q6.wrap<|b+1) B y z C A a i)
def m_K_l1(x F:Int)(A E:Int)(B:ByteArray)(w:Sl)(v:Addr)(b C:Int)(D y:Int)(H:ByteArray)(G:Bool)(t:World)(d:NP)(m:World)(n:Int->Int->Int->Int->ByteArray->Bool->NP->WP)(K:Int->Int->Int->ByteArray->Bool->Bool->WP):Prop:=Br (decide (b<=7)) (∃(s:Int->Int->Int->Int->ByteArray->Bool->NP->WP) (i:Int->Int->Int->Int->ByteArray->Bool->World->Nat),s 0 C D y H G d m/\∀(i1 r:Int) (o p:Int) (u:ByteArray) (q:Bool) (c:NP) (a:World),Hst t c a c a->s i1 r o p u q c a->m_K_l2 x F A E B w v b i1 r o p u q t c a n (fun h j l g k f z w'=>s h j l g k f z w'/\i h j l g k f w'<i i1 r o p u q a) K)<|∀e,Hst t d m d e->K 0 0 0 ⟨#[]⟩ false false e
def m_K(C H:Int)(E G:Int)(F:ByteArray)(B:Sl)(k:World)(K:Int->Int->Int->ByteArray->Bool->Bool->WP):Prop:=∀u w,Hst k None k u w->∀p3 A,New w (.cells #[(vi 0)] 3) p3 A->∀z t,New A (.cells #[(vi 0),(vi 1),(vi 0),(vi 0)] 3) z t->∀s y,New t (.cells #[(vi 0),(vi 1)] 3) s y->∀r x,New y (.cells #[(Sl.mk (some p3) 1 1).v,(Sl.mk (some z) 4 4).v,(Sl.mk (some s) 2 2).v] 42) r x->∃(o:Int->Int->Int->Int->ByteArray->Bool->NP->WP) (d:Int->Int->Int->Int->ByteArray->Bool->World->Nat),o 1 0 0 0 ⟨#[]⟩ false u x/\∀(a m:Int) (n l:Int) (q:ByteArray) (p:Bool) (c:NP) (b:World),Hst k c b c b->o a m n l q p c b->m_K_l1 C H E G F B r a m n l q p k c b (fun g h j f i e D w'=>o g h j f i e D w'/\d g h j f i e w'<d a m n l q p b) K
def w_K(aI aC aJ aK aL aM w0 K)(h:m_K aI aC aJ aK aL aM w0 K):
  cl 114 #[(.agg #[(vi aI),(vi aC),(vi aJ),(vu aK),(vs aL),aM.v])] w0<|XW K:=
 cwH func114 h<|nh 0<|nh 0<|ah<|nwh 1<|nwh 0<|nwh 0<|nwh 0<|wb6 2 [1,2,4] (fun a q r o J G=>[(5,(vi a))]) (fun a q r o J G l=>hpt l 0 0 [(vi q),(vi r),(vu o),(vs J),(vb G)])<|fun {_ _ a q r o J G}=>fun M=>br 0 2 (wb6 2 [1,2,4,5] (fun i1 A u y D z=>[(6,(vi i1))]) (fun i1 A u y D z l=>hpt l 0 0 [(vi A),(vi u),(vu y),(vs D),(vb z)])<|fun {_ _ i1 A u y D z}=>fun N=>br 0 4 (ja1 1 0 [1,2,4,5,6] (fun a1=>[(7,(vp<|some a1))]) (fun a1 H w=>m_K_j3 _ _ _ _ _ _ _ _ _ _ _ _ _ a1 _ H w _ _) (fun L=>dC 0 [5,6,7] [5,7]<|lgc 0 1 [] 6<|ix 2<|ldc 0<|dgb 0 (ca6 0 call165<|nwc 0<|ush 0<|je 0 0 L)<|nwc 0<|ca6 0 call165<|ush 0<|je 0 0 L)<|fun {a1}=>nh 2<|sg 0 0 []<|cp 1 call166 (p_J a)<|ph (fun b l=>hpt l 0 0 [(vi a),(vi<|cond (b 0) aC 0),(vu 0),ve,(vb false)]) 0 0 [(s_J a)] [1,2,4,5,6,7,8] (fun b=>[]) (fun j=>pb 0 0 0 j (fun j=>lh 2 2 [1]<|sh 1 0 [1]<|pe 0 0 j)<|fun j=>pe 1 0 j)<|cp 1 call167 (p_T7 a)<|jb5 0 0 [1,2,4,5,6,8] (fun d g f i e=>[]) (fun d g f i e l=>hpt l 0 0 [(vi d),(vi g),(vu f),(vs i),(vb e)]) (fun d g f i e H w=>m_K_j4 _ _ _ _ _ _ _ _ _ _ _ _ _ d g f i e _ H w _ _) (fun C=>br 0 0 (ah<|xe6<|lr 1<|nwh 0<|ca6 0 call165<|sh 2 0 [2]<|an<|xe6<|lr 0<|nwh 0<|ca6 0 call165<|sh 2 0 [3]<|an<|je 0 0 C)<|br 0 3 (lgg 1 2 [] 6<|ah<|nwh 0<|ca6 0 call165<|sh 2 0 [2]<|an<|je 0 0 C)<|lgg 1 2 [] 6<|ah<|nwh 0<|ca6 0 call165<|sh 2 0 [2]<|an<|je 0 0 C)<|fun {d g f i e}=>wb11 1 [1,2,4,5,6,8] (fun c x n t s m B F p E I=>[(9,(vi c))]) (fun c x n t s m B F p E I l=>hpt (hpt l 0 0 [(vi x),(vi n),(vu t),(vs s),(vb m)]) 1 0 [(vi B),(vi F),(vu p),(vs E),(vb I)])<|fun {_ _ c x n t s m B F p E I}=>fun k=>br 0 2 (sh 4 0 [4]<|an<|dC 0 [1,19,21] []<|lgc 0 0 [] 5<|cd1 0 call168<|br 1 2 (br 1 3 (lgc 5 0 [] 5<|xe<|rbc 1<|xe<|rbc 2<|lgc 1 2 [] 6<|cd6 0 call25<|cd1 0 call169<|br 0 1 (lgg 1 0 [] 5<|sg 0 1 []<|an<|rss 1<|qgg 1 [] 5<|qee)<|je 4 0 k)<|br 1 5 (lgc 0 0 [] 5<|xe<|rbc 1<|xe<|rbc 2<|lgc 1 2 [] 6<|cd6 0 call25<|cd1 0 call169<|br 0 1 (lgg 1 0 [] 5<|sg 0 1 []<|an<|rss 1<|qgg 1 [] 5<|qee)<|je 4 0 k)<|je 15 0 k)<|je 23 0 k)<|je 4 1 N)<|je 4 0 M)<|sg 2 0 []<|an<|rss 1<|qgg 0 [] 5<|qee
def m_E3(p1:Option Addr)(f:Int)(b:World)(K:Int->Int->Int->ByteArray->Bool->Bool->WP):Prop:=∀a h,Hst b None b a h->cl 112 #[(vp p1),(vi f)] h fun e d=>∃r1,e=.returned (vb r1)/\Kept a h d/\Br (!r1) (∀p,Hst b a d a p->K 0 0 0 ⟨#[]⟩ false false p) (cl 113 #[(vp p1),(vi f)] d fun e c=>∃r2,e=.returned (vi r2)/\Kept a d c/\Br (decide (r2>40)) (∀m,Hst b a c a m->K 0 0 0 ⟨#[]⟩ false false m) (cl 20 #[(vp p1),(vi f)] c fun e g=>∃i q l j n r,e=.returned (Aa i q l j n r)/\Kept a c g/\cl 114 #[(.agg #[(vi i),(vi q),(vi l),(vu j),(vs n),r.v])] g (XW fun u x w t s r3 o=>Kept a g o/\∀k,Hst b a o a k->K u x w t s r3 k)))
def w_E3(p1 t1 w0 K)(h:m_E3 p1 t1 w0 K):
  cl 55 #[(vp p1),(vi t1)] w0<|XW K:=
 cwH func55 h<|nh 0<|ah<|ca1 3 call112<|br 1 2 (sg 7 0 []<|an<|rss 1<|qgg 0 [] 5<|qee)<|ca1 2 call113<|br 0 2 (sg 2 0 []<|an<|rss 1<|qgg 0 [] 5<|qee)<|ca6 3 call20<|ca6 0 call114<|sg 2 0 []<|an<|rss 1<|qgg 0 [] 5<|qee
def m_U7(b1:Sl)(b:World)(K:Int->Int->Int->ByteArray->Bool->Bool->WP):Prop:=∀a f,Hst b None b a f->cl 44 #[] f fun e d=>∃r1,e=.returned (vp r1)/\Kept a f d/\cl 54 #[(vp r1),b1.v] d fun e c=>∃r2 r3 p,e=.returned (.tuple #[(vi r2),(vi r3),(vi p)])/\Kept a d c/\Br (r3 !=0) (∀g,Hst b a c a g->K 0 0 0 ⟨#[]⟩ false false g) (cl 55 #[(vp r1),(vi r2)] c<|XW fun l k o m j n i=>Kept a c i/\∀h,Hst b a i a h->K l k o m j n h)
def w_U7(b1 w0 K)(h:m_U7 b1 w0 K):
  cl 15 #[b1.v] w0<|XW K:=
 cwH func15 h<|nh 0<|ah<|ca1 1 call44<|ca3 3 call54<|br 0 9 (sg 2 0 []<|an<|rss 1<|qgg 0 [] 5<|qee)<|ca6 3 call55<|sg 2 0 []<|an<|rss 1<|qgg 0 [] 5<|qee
def m_V7(p1:Option Addr)(d f j:Int)(g:ByteArray)(h:Bool)(c:World)(K:Int->Int->WP):Prop:=Br (((s_C2 d f j g h):Int) !=0) (∀b a,Hst c None c b a->K 0 (s_C2 d f j g h) a)<|∀b a,Hst c None c b a->cl 25 #[(.agg #[(vi d),(vi f),(vu j),(vs g),(vb h)]),(vb true),(vb true)] a fun e i=>∃l k p o m q,e=.returned (Aa l k p o m q)/\Kept b a i/\cl 96 #[(vp p1),(.agg #[(vi l),(vi k),(vi p),(vu o),(vs m),q.v])] i (XH fun r1 r2 n=>Kept b i n/\K r1 r2 n)
def w_V7(p1 aA aB aN aD aE w0 K)(h:m_V7 p1 aA aB aN aD aE w0 K):
  cl 149 #[(vp p1),(.agg #[(vi aA),(vi aB),(vu aN),(vs aD),(vb aE)])] w0<|XH K:=
 cwH func149 h<|nh 0<|lgg 2 0 [] 5<|cp 0 call168 (p_C2 aA aB aN aD aE)<|br 0 3 (ah<|rr 4)<|lgg 2 0 [] 5<|ah<|ca6 0 call25<|ca2 0 call96<|rr 4
def m_W7(h i n:Int)(k:ByteArray)(m:Bool)(g:World)(K:Sl->Int->WP):Prop:=∀b d,Hst g None g b d->cl 44 #[] d fun e c=>∃r1,e=.returned (vp r1)/\Kept b d c/\cl 149 #[(vp r1),(.agg #[(vi h),(vi i),(vu n),(vs k),(vb m)])] c fun e a=>∃r2 r3,e=.returned (.tuple #[(vi r2),(vi r3)])/\Kept b c a/\Br (r3 !=0) (K Sl.nil r3 a) (cl 102 #[(vp r1),(vi r2)] a<|XN fun l j f=>Kept b a f/\K l j f)
def w_W7(aA aB aN aD aE w0 K)(h:m_W7 aA aB aN aD aE w0 K):
  cl 98 #[(.agg #[(vi aA),(vi aB),(vu aN),(vs aD),(vb aE)])] w0<|XN K:=
 cwH func98 h<|nh 0<|ah<|ca1 2 call44<|lgg 2 0 [] 5<|ca2 0 call149<|br 0 7 (rr 4)<|ca2 3 call102<|rr 4
end Go.Proofs
end
section
open Go Go.SE List
namespace Go.Proofs
open Tryz
attribute [local irreducible] Calls
def jJF(l):s_C2 l.kind l.frm l.c l.text l.fake=vJ l:=by
 have⟨k,f,c,x,g⟩:=l;unfold s_C2 vJ;have d:s_J k=vG k:=rfl;rw[d];have e:(vG k ||k==6)=vL k:=rfl;rw[e];have i:decide (((x.size:Int))>64)=decide (x.size>64):=decide_eq_decide.2 Om;rw[i];generalize vG k=a;generalize vL k=b;have j:((((((decide (k<1)) ||(decide (k>7))) ||(((f:Int) !=0)&&((f:Int) !=1))) ||((!a)&&((f:Int) !=0))) ||((!b)&&(!(decide (x=(⟨#[]⟩:ByteArray)))))) ||((g&&((k:Int) !=1))&&((k:Int) !=4)))=decide (k<1\/k>7\/(f≠0/\f≠1)\/(a=false/\f≠0)\/(b=false/\x≠⟨#[]⟩)\/(g=true/\k≠1/\k≠4)):=Gd;rw[j];by_cases h:(k<1\/k>7\/(f≠0/\f≠1)\/(a=false/\f≠0)\/(b=false/\x≠⟨#[]⟩)\/(g=true/\k≠1/\k≠4));grind;grind
def zBI(p:List Nat):List (List Value):=p.map fun i:Nat=>[Value.int .i64 (i:Int)]
def jEE{S S2}(x s sp p w0)(hT:TreeAt S w0 s x)(U:∀b,S b->b<w0.heap.size)(hp:Lst S2 w0 1 sp (zBI p))(Z:∀b,S2 b->b<w0.heap.size)(hpl:p.length<=100):
  cl 165 #[.agg (uP x s).toArray,sp.v] w0<|fun e w'=>∃s',e=.returned (.agg (uP (jHM x p) s').toArray)/\TreeAt S w0 s' (jHM x p)/\Pure w0 w':=by
 have⟨k,f,t,u,J,I⟩:=x
 suffices key:∀K:Int->Int->Int->Int->ByteArray->Sl->WP,(∀k' g n l m s' w' c,jHM (.mk k f t u J I) p=.mk k' g n l m c->TreeAt S w0 s' (.mk k' g n l m c)->Pure w0 w'->K k' g n l m s' w')->m_B2 k f t u J s sp w0 K by
  refine(w_B2 _ _ _ _ _ _ _ w0 (fun k' g n l m s' w'=>∃c,jHM (.mk k f t u J I) p=.mk k' g n l m c/\TreeAt S w0 s' (.mk k' g n l m c)/\Pure w0 w')<|key _ Gd).mono ?_;rintro _ w' ⟨k',g,n,l,m,s',rfl,c,h1,h2,h3⟩;rw[h1];exact⟨s',rfl,h2,h3⟩
 intro K hK
 have r:sp.len=p.length:=by rw[hp.len];simp[zBI]
 intro H2 w2 Y
 refine⟨fun i _ _ _ _ _ _ k' g n l m s' H w'=>∃j:Nat,i=j/\j<=p.length/\Pure w0 w'/\∃c,TreeAt S w0 s' (.mk k' g n l m c)/\jHM (.mk k f t u J I) p=jHM (.mk k' g n l m c) (p.drop j),fun i _ _ _ _ _ _ _ _ _ _ _ _ _=>((p.length:Int)-i).toNat,
  ⟨0,rfl,Nat.zero_le _,Y.first,I,hT,rfl⟩,?_⟩
 rintro _ _ _ _ _ _ _ k' g n l m s' Hl wl hl ⟨j,rfl,hj,W,c,z,d⟩
 refine⟨fun Q=>?_,fun Q=>?_⟩
 .have q:=vR r Q
  rw[drop_eq_getElem_cons q,jHM]at d
  have B:∀w',Pure w0 w'->∃a,At sp j 1 a/\S2 a.block/\w'.cell? a=some (.int .i64 (p[j]:Int)):=by
   intro w' E;have⟨a,h1,h2,h3⟩:=(hp.pure E).nth (f:=fun i:Nat=>[Value.int .i64 (i:Int)]) (xs:=p) q;exact⟨a,h1,h2,jBB h3⟩
  have⟨a,C,_,_⟩:=B wl W
  refine⟨a,C,?_⟩
  intro w3 A
  have G:=W.hst A
  have hs3':=A.here
  have⟨a1,w,R,F⟩:=B w3 G
  have T:a1=a:=by
   obtain⟨_,_,x,hx,rfl⟩:=C;obtain⟨_,_,y,hy,rfl⟩:=w;rw[hx]at hy;cases hy;rfl
  subst T
  have hl':s'.len=c.length:=by cases z;assumption
  refine⟨_,F,fun h=>?_,fun h=>?_⟩
  .have : c[p[j]]? = none:=by
    have h:=of_decide_eq_true h;exact getElem?_eq_none Om
   rw[show(Tree.mk k' g n l m c).kids=c from rfl,this]at d
   intro w4 N
   exact hK _ _ _ _ _ _ _ _ d TreeAt.leaf<|G.hst N
  .have o:p[j]<c.length:=by have h:=of_decide_eq_false h;omega
   rw[show(Tree.mk k' g n l m c).kids=c from rfl,getElem?_eq_getElem o]at d
   have hd:∀b,S b->¬Hl b:=fun b L hh=>Oi (hl.old b hh)<|U b L
   have P:∀b,S2 b->¬Hl b:=fun b L hh=>Oi (hl.old b hh)<|Z b L
   cases z with
   |mk _ _ _ _ _ _ _ rs len fit row kid =>
   have⟨a3,D,O,V⟩:=row _ o
   refine⟨a1,w,_,F,P _ R,a3,D,_,_,_,_,_,rs p[j],G.row V id,hd _ O,?_⟩
   intro H3 w7 X
   rw[zQ q Om]
   refine⟨⟨j+1,rfl,q,G.hst X,c[p[j]].kids,?_,?_⟩,uR q⟩
   .have:=kid _ o
    generalize c[p[j]]=y at *
    have⟨_,_,_,_,_,_⟩:=y
    exact this
   .rw[d]
    generalize c[p[j]]=y
    have⟨_,_,_,_,_,_⟩:=y
    rfl
 .have hge:=yI r hj Q
  subst hge
  rw[drop_length]at d
  intro w9 M
  exact hK _ _ _ _ _ _ _ _ d z<|W.hst M
end Go.Proofs
end
section
open Go Go.SE
namespace Go.Proofs
open Tryz
attribute [local irreducible] Calls
def jTR:∀j:Nat,j<4->∀w,(Go.binOp .rem 3 (vi (j:Int))<|vi 2).run prog w=.ok (vi ((j%2:Nat):Int)) w
 |0,_,w=>Kf
 |1,_,w=>Kf
 |2,_,w=>Kf
 |3,_,w=>Kf
 |n+4,h,_=>Om
def jTS:∀j:Nat,j<4->∀w,(Go.binOp .quo 3 (vi (j:Int))<|vi 2).run prog w=.ok (vi ((j/2:Nat):Int)) w
 |0,_,w=>Kf
 |1,_,w=>Kf
 |2,_,w=>Kf
 |3,_,w=>Kf
 |n+4,h,_=>Om
def Lst.of_path{w p T}(ts)(h:Box w p (ts.map fun t:Nat=>Value.int .i64 (t:Int)) T):Lst (·=p.block) w 1 ⟨some p,ts.length,ts.length⟩ (zBI ts):=by
 refine⟨by simp[zBI],fun i hi=>?_⟩;have a:i<ts.length:=by simpa[zBI]using hi
 refine⟨p.add<|i*1,⟨Om,by simpa using a,p,rfl,Sm⟩,by rw[zG],fun j c=>?_⟩;have b:j=0:=by simpa[zBI]using c
 subst b;have:=h.cell (i:=i) (v:=.int .i64 (ts[i]:Int)) (by simp[a]);rw[yP,Nat.mul_one,Nat.add_zero,this];simp[zBI]
def TreeAt.back{S w w' s t}(h:TreeAt S w' s t)(l:Pure w w')(d:∀b,S b->b<w.heap.size):TreeAt S w s t:=by
 induction h with
 |mk k f t u x m s rs len c row kid g =>
  refine .mk k f t u x m s rs len c (fun i h=>let ⟨a,h1,h2,h3⟩:=row i h;⟨a,h1,h2,fun j e=>?_⟩) g
  rw[<-h3 j e]
  unfold World.cell?
  rw[zG,l.keep _ (d _ h2) fun h=>h]
theorem jHP {S} (x s w0) (hT:TreeAt S w0 s x) (hSw:∀b,S b→b<w0.heap.size) :
  Calls prog 114 #[.agg (uP x s).toArray] w0 (fun e w'=>∃k f c:Int,∃t:ByteArray,∃g r:Bool,e=.returned (.tuple #[.agg #[.int .i64 k,.int .i64 f,.int .u64 c,.string t,.bool g],.bool r])∧(((⟨k,f,c,t,g⟩:Letter),r)=qT x∧Pure w0 w')):=by
 obtain ⟨xk,xf,xt,xu,xx,ks⟩:=x
 generalize hx:Tree.mk xk xf xt xu xx ks=x at *
 have hxr:uP x s=[.int .i64 xk,.int .i64 xf,.int .i64 xt,.int .u64 xu,.string xx,s.v]:=by rw [← hx];rfl
 have hxn:x.node.frm=xf:=by rw [← hx];rfl
 rw [hxr]
 suffices key:∀K:Int→Int→Int→ByteArray→Bool→Bool→WP,(∀k f c t g r w',(((⟨k,f,c,t,g⟩:Letter),r)=qT x∧Pure w0 w')→K k f c t g r w')→m_K xk xf xt xu xx s w0 K from
  w_K _ _ _ _ _ _ w0 _ (key _ (fun _ _ _ _ _ _ _ h=>h))
 intro K hK
 have hxv:(Value.agg #[.int .i64 xk,.int .i64 xf,.int .i64 xt,.int .u64 xu,.string xx,s.v])=.agg (uP x s).toArray:=by rw [hxr]
 have tS:∀{w},Pure w0 w→TreeAt S w s x∧∀b,S b→b<w.heap.size:=fun E=>⟨hT.pure E,fun b hb=>by have:=hSw b hb;have:=E.size;omega⟩
 unfold m_K
 intro H2 w2 hs2 p3 w3 h3 p4 w4 h4 p5 w5 h5 p6 w6 h6
 have E2:=hs2.first
 have b3:=(((Box.of_new h3).pure (Ext.new h4)).pure (Ext.new h5)).pure (Ext.new h6)
 have b4:=((Box.of_new h4).pure (Ext.new h5)).pure (Ext.new h6)
 have b5:=(Box.of_new h5).pure (Ext.new h6)
 have b6:=Box.of_new h6
 have E6:Pure w2 w6:=(((Ext.new h3:Pure w2 w3).trans (Ext.new h4)).trans (Ext.new h5)).trans (Ext.new h6)
 have hs6:=hs2.again E6.keptP
 have v3:w2.heap.size≤p3.block:=by have:=h3.at_size;omega
 have v4:w2.heap.size≤p4.block:=by have:=h4.at_size;have:=(Ext.new (F:=None) h3).size;omega
 have v5:w2.heap.size≤p5.block:=by have:=h5.at_size;have:=(Ext.new (F:=None) h3).size;have:=(Ext.new (F:=None) h4).size;omega
 have v6:w2.heap.size≤p6.block:=by have:=h6.at_size;have:=(Ext.new (F:=None) h3).size;have:=(Ext.new (F:=None) h4).size;have:=(Ext.new (F:=None) h5).size;omega
 let B:WP:=fun w=>Box w p3 [.int .i64 0] 3∧Box w p4 [.int .i64 0,.int .i64 1,.int .i64 0,.int .i64 0] 3∧Box w p5 [.int .i64 0,.int .i64 1] 3∧Box w p6 [(Sl.mk (some p3) 1 1).v,(Sl.mk (some p4) 4 4).v,(Sl.mk (some p5) 2 2).v] 42
 let V:NP→Prop:=fun H=>¬ H p3.block∧¬ H p4.block∧¬ H p5.block∧¬ H p6.block
 have B6:B w6:=⟨b3,b4,b5,b6⟩
 have V6:V H2:=⟨fun h=>by have:=hs2.lt _ h;omega,fun h=>by have:=hs2.lt _ h;omega,fun h=>by have:=hs2.lt _ h;omega,fun h=>by have:=hs2.lt _ h;omega⟩
 have Bp:∀{w w'},B w→Pure w w'→B w':=fun h E=>⟨h.1.pure E,h.2.1.pure E,h.2.2.1.pure E,h.2.2.2.pure E⟩
 have BV:∀{H w H' w'},B w∧V H→Hst w0 H w H' w'→B w'∧V H':=by
  rintro H w H' w' ⟨⟨q3,q4,q5,q6⟩,⟨n3,n4,n5,n6⟩⟩ hs;have d:∀(p:Addr),p.block<w.heap.size→¬ H p.block→¬ H' p.block:=fun p h1 h2=>hs.disj (G:=(·=p.block)) (by grind) _ rfl;have m3:=d p3 q3.lt n3;have m4:=d p4 q4.lt n4;have m5:=d p5 q5.lt n5;have m6:=d p6 q6.lt n6;exact ⟨⟨q3.ext hs.ext m3,q4.ext hs.ext m4,q5.ext hs.ext m5,q6.ext hs.ext m6⟩,⟨m3,m4,m5,m6⟩⟩
 refine ⟨fun kd _ _ _ _ _ H w'=>∃q:Nat,kd=(q:Int)+1∧q≤7∧Pure w0 w'∧(B w'∧V H)∧uT x 7 1=uT x (7 - q) ((q:Int)+1),fun kd _ _ _ _ _ _=>(8 - kd).toNat,⟨0,rfl,by omega,E2.trans E6,⟨B6,V6⟩,rfl⟩,?_⟩
 rintro _ d1 d2 d3 d4 d5 Hl wl hl ⟨q,rfl,hq,El,BVl,heq⟩
 unfold m_K_l1
 refine ⟨fun hc=>?_,fun hc=>?_⟩
 ·have hq7:q<7:=by have:=of_decide_eq_true hc;omega
  obtain ⟨n,hn⟩:∃n,7 - q=n+1:=⟨7 - q - 1,by omega⟩
  have hstep:uT x (n+1) ((q:Int)+1)=(match yA x ((q:Int)+1) deals with | some l=>some l | none=>uT x n ((q:Int)+1+1)):=rfl
  rw [hn,hstep] at heq
  clear hstep
  generalize hkd:((q:Int)+1)=kd at *
  refine ⟨fun i _ _ _ _ _ H w'=>∃j:Nat,i=j∧j≤3∧Pure w0 w'∧(B w'∧V H)∧yA x kd deals=yA x kd (deals.drop j),fun i _ _ _ _ _ _=>(3 - i).toNat,⟨0,rfl,by omega,El,BVl,rfl⟩,?_⟩
  rintro _ d1 d2 d3 d4 d5 Hm wm hm ⟨j,rfl,hj,Em,BVm,heqd⟩
  unfold m_K_l2
  refine ⟨fun hc2=>?_,fun hc2=>?_⟩
  ·have hj3:j<3:=by have:=of_decide_eq_true hc2;simp only at this;omega
   have hjd:j<deals.length:=hj3
   have hstep:yA x kd (deals[j] :: deals.drop (j+1))=(match yZ x (jRL x kd deals[j]) 4 0 with | some l=>some l | none=>yA x kd (deals.drop (j+1))):=rfl
   rw [List.drop_eq_getElem_cons hjd,hstep] at heqd
   clear hstep
   generalize hpp:deals[j]=pp at *
   have hpath:∃a:Addr,∃sl:Sl,At (Sl.mk (some p6) 3 3) (j:Int) 1 a∧(∀w,B w→w.cell? a=some sl.v∧∃S2:NP,Lst S2 w 1 sl (zBI pp)∧∀b,S2 b→b<w.heap.size):=by
    have hj':j=0∨j=1∨j=2:=by omega
    rcases hj' with rfl | rfl | rfl
    ·have:pp=[0]:=hpp.symm;subst this;refine ⟨p6,⟨some p3,1,1⟩,⟨by omega,by simp,p6,rfl,by simp [Addr.add]⟩,fun w h=>⟨h.2.2.2.cell0,_,Lst.of_path [0] h.1,fun b e=>by subst e;exact h.1.lt⟩⟩
    ·have:pp=[0,1,0,0]:=hpp.symm;subst this;refine ⟨p6.add 1,⟨some p4,4,4⟩,⟨by omega,by simp,p6,rfl,rfl⟩,fun w h=>⟨h.2.2.2.cell rfl,_,Lst.of_path [0,1,0,0] h.2.1,fun b e=>by subst e;exact h.2.1.lt⟩⟩
    ·have:pp=[0,1]:=hpp.symm;subst this;refine ⟨p6.add 2,⟨some p5,2,2⟩,⟨by omega,by simp,p6,rfl,rfl⟩,fun w h=>⟨h.2.2.2.cell rfl,_,Lst.of_path [0,1] h.2.2.1,fun b e=>by subst e;exact h.2.2.1.lt⟩⟩
   obtain ⟨a,sl,hat,jNB⟩:=hpath
   have hppl:pp.length≤100:=by
    have hj':j=0∨j=1∨j=2:=by omega
    rcases hj' with rfl | rfl | rfl <;> (rw [← hpp];simp [deals])
   have J3 : ∀ (a1 : Addr) (w : World) (sd : Sl) (Td : TypeId), Hst w0 Hm w Hm w → Pure w0 w → (B w ∧ V Hm) → Box w a1 (uP (jHM x pp) sd) Td → ¬ Hm a1.block → TreeAt S w0 sd (jHM x pp) →
     m_K_j3 xk xf xt xu xx s kd j d1 d2 d3 d4 d5 a1 w0 Hm w (fun y'0 y'1 y'2 y'3 y'4 y'5 H' w'=>(∃j:Nat,y'0=j∧j≤3∧Pure w0 w'∧(B w'∧V H')∧yA x kd deals=yA x kd (deals.drop j))∧(3 - y'0).toNat<(3 - (j:Int)).toNat) K:=by
    intro a1 w sd Td hs E hBV hB1 hv1 hTd
    unfold m_K_j3
    have J4 : ∀ (c : Int) (t : ByteArray) (H : NP) (w : World), Hst w0 H w H w → Pure w0 w → (B w ∧ V H) → (⟨kd, cond (s_J kd) xf 0, c, t, false⟩ : Letter) = jRL x kd pp →
      m_K_j4 xk xf xt xu xx s kd j d1 d2 d3 d4 d5 kd (cond (s_J kd) xf 0) c t false w0 H w (fun y'0 y'1 y'2 y'3 y'4 y'5 H' w'=>(∃j:Nat,y'0=j∧j≤3∧Pure w0 w'∧(B w'∧V H')∧yA x kd deals=yA x kd (deals.drop j))∧(3 - y'0).toNat<(3 - (j:Int)).toNat) K:=by
     intro c t H w hs E hBV hcand
     generalize hlf:cond (s_J kd) xf 0=lf at *
     rw [← hcand] at heqd
     unfold m_K_j4
     refine ⟨fun fk lk lf' lc lt lg _ _ _ _ _ H w'=>(kd=lk∧lf=lf'∧c=lc∧t=lt)∧∃f:Nat,fk=f∧f≤4∧Pure w0 w'∧(B w'∧V H)∧yZ x ⟨kd,lf,c,t,false⟩ 4 0=yZ x ⟨kd,lf,c,t,false⟩ (4 - f) f,fun fk _ _ _ _ _ _ _ _ _ _ _=>(4 - fk).toNat,⟨⟨rfl,rfl,rfl,rfl⟩,0,rfl,by omega,E,hBV,rfl⟩,?_⟩
     rintro _ _ _ _ _ lg e1 e2 e3 e4 e5 Hf wf hsf ⟨⟨rfl,rfl,rfl,rfl⟩,f,rfl,hf4,Ef,BVf,heqf⟩
     unfold m_K_l5
     refine ⟨fun hc3=>?_,fun hc3=>?_⟩
     ·have hf:f<4:=by have:=of_decide_eq_true hc3;omega
      obtain ⟨m,hm'⟩:∃m,4 - f=m+1:=⟨4 - f - 1,by omega⟩
      have hstep:yZ x ⟨kd,lf,c,t,false⟩ (m+1) f=(if jNS x ⟨kd,lf,c,t,false⟩ f then some (gR ⟨kd,lf,c,t,false⟩ f) else yZ x ⟨kd,lf,c,t,false⟩ m (f+1)):=rfl
      rw [hm',hstep] at heqf
      clear hstep
      intro w14 hs14
      have E14:=Ef.hst hs14
      have BV14:=BV BVf hs14
      have hd14:Pure w14 w14.drew:=Ext.drew w14
      refine ⟨fun w'=>Pure w14 w',hd14,?_⟩
      rintro _ rfl
      have hfd:decide ((f:Int)>0)=decide (f>0):=decide_eq_decide.2 (by omega)
      rw [hfd]
      refine (p_C2 kd lf c t (decide (f>0)) w14.drew).mono ?_
      rintro _ w16 ⟨rfl,E16⟩
      rw [jJF ⟨kd,lf,c,t,decide (f>0)⟩]
      have Ed:=hd14.trans E16
      refine ⟨_,rfl,Ed,E16.keptP,?_⟩
      have hwf:gR ⟨kd,lf,c,t,false⟩ f=⟨kd,lf,c,t,decide (f>0)⟩:=rfl
      have next:∀w',Pure w14 w'→jNS x ⟨kd,lf,c,t,false⟩ f=false→((((kd=kd∧lf=lf∧c=c∧t=t)∧∃f':Nat,IntKind.i64.wrap ((f:Int)+1)=f'∧f'≤4∧Pure w0 w'∧(B w'∧V Hf)∧yZ x ⟨kd,lf,c,t,false⟩ 4 0=yZ x ⟨kd,lf,c,t,false⟩ (4 - f') f'))∧(4 - IntKind.i64.wrap ((f:Int)+1)).toNat<(4 - (f:Int)).toNat):=by
       intro w' E' hno;rw [hno,if_neg (by simp)] at heqf;rw [zQ hf (by omega)];exact ⟨⟨⟨rfl,rfl,rfl,rfl⟩,f+1,rfl,hf,E14.trans E',⟨Bp BV14.1 E',BV14.2⟩,by rw [heqf,show m=4 - (f+1) from by omega]⟩,by omega⟩
      have found:∀w',Pure w0 w'→jNS x ⟨kd,lf,c,t,false⟩ f=true→K kd lf c t (decide (f>0)) true w':=by
       intro w' E' hyes;rw [hyes,if_pos rfl,hwf] at heqf;rw [heqf] at heqd;rw [heqd] at heq;exact hK _ _ _ _ _ _ _ ⟨by unfold qT;rw [heq],E'⟩
      have cmp : ∀ w, Pure w14 w → vJ ⟨kd, lf, c, t, decide (f > 0)⟩ = 0 → (kd == 4 || decide (f ≠ 2)) = true →
        Calls prog 25 #[.agg #[.int .i64 kd,.int .i64 lf,.int .u64 c,.string t,.bool (decide (f>0))],.bool (((f % 2:Nat):Int) == 1),.bool (((f / 2:Nat):Int) == 1)] w (fun e w17=>∃rKind1:Int,∃rFrom1:Int,∃rTo1:Int,∃rNum1:Int,∃rText1:ByteArray,∃rKids1:Sl,e=.returned (.agg #[(.int .i64 rKind1),(.int .i64 rFrom1),(.int .i64 rTo1),(.int .u64 rNum1),(.string rText1),rKids1.v])∧Pure w14 w17∧Kept Hf w w17 ∧
         Calls prog 169 #[.agg #[(.int .i64 rKind1),(.int .i64 rFrom1),(.int .i64 rTo1),(.int .u64 rNum1),(.string rText1),rKids1.v],.agg #[.int .i64 xk,.int .i64 xf,.int .i64 xt,.int .u64 xu,.string xx,s.v]] w17 (fun e w18=>∃r2:Bool,e=.returned (.bool r2)∧Pure w14 w18∧Kept Hf w17 w18∧r2=jNS x ⟨kd,lf,c,t,false⟩ f)):=by
       intro w Ew herr hk4
       have hfr:lf=0∨lf=1:=by
        unfold vJ at herr;simp only at herr;split at herr
        ·cases herr
        ·grind
       have hb1:(((f % 2:Nat):Int) == 1)=(f % 2 == 1):=by rw [Bool.eq_iff_iff];simp;omega
       have hb2:(((f / 2:Nat):Int) == 1)=(f / 2 == 1):=by rw [Bool.eq_iff_iff];simp;omega
       rw [hb1,hb2]
       refine (jHG w.heap.size kd lf c t (decide (f>0)) (f % 2 == 1) (f / 2 == 1) w (Nat.le_refl _) hfr).mono ?_
       rintro _ w17 ⟨s',rfl,hT',E17⟩
       generalize hLT:zR ⟨kd,lf,c,t,decide (f>0)⟩ (f % 2 == 1) (f / 2 == 1)=LT at *
       obtain ⟨lk,lff,lt,lu,lx,lks⟩:=LT
       refine ⟨_,_,_,_,_,s',rfl,Ew.trans E17,E17.keptP,?_⟩
       rw [hxv]
       have E017:=(E14.trans Ew).trans E17
       refine (jQL (S:=fun b=>b<w17.heap.size) (.mk lk lff lt lu lx lks) x s' s w17 (hT'.lt.mono (fun b hb=>hb.2)) ((tS E017).1.mono (tS E017).2) (fun b hb=>hb)).mono ?_
       rintro _ w18 ⟨r,rfl,hr,E18⟩
       refine ⟨_,rfl,(Ew.trans E17).trans E18,E18.keptP,?_⟩
       unfold jNS
       rw [hwf,hLT,hr]
       simp [herr]
       intro _
       simpa using hk4
      refine ⟨fun h1=>⟨fun h2=>?_,fun h2=>⟨fun h3=>?_,fun h3=>?_⟩⟩,fun h1=>?_⟩
      ·refine ⟨_,fun w' _=>jTR f hf w',_,fun w' _=>jTS f hf w',?_⟩
       refine (cmp w16 Ed (by simpa using h1) (by rw [h2];rfl)).mono ?_
       rintro _ w17 ⟨_,_,_,_,_,s',rfl,E17,K17,h17⟩
       refine ⟨_,_,_,_,_,s',rfl,E17,K17,?_⟩
       refine h17.mono ?_
       rintro _ w18 ⟨r,rfl,E18,K18,hr⟩
       refine ⟨_,rfl,E18,K18,fun h=>?_,fun h=>next _ E18 (by rw [← hr];exact h)⟩
       intro w19 hs19
       exact found _ ((E14.trans E18).hst hs19) (by rw [← hr];exact h)
      ·refine ⟨_,fun w' _=>jTR f hf w',_,fun w' _=>jTS f hf w',?_⟩
       have hf2:decide (f≠2)=true:=decide_eq_true (by grind)
       refine (cmp w16 Ed (by simpa using h1) (by rw [hf2];simp)).mono ?_
       rintro _ w17 ⟨_,_,_,_,_,s',rfl,E17,K17,h17⟩
       refine ⟨_,_,_,_,_,s',rfl,E17,K17,?_⟩
       refine h17.mono ?_
       rintro _ w18 ⟨r,rfl,E18,K18,hr⟩
       refine ⟨_,rfl,E18,K18,fun h=>?_,fun h=>next _ E18 (by rw [← hr];exact h)⟩
       intro w19 hs19
       exact found _ ((E14.trans E18).hst hs19) (by rw [← hr];exact h)
      ·refine next _ Ed ?_
       have hf2:f=2:=by
        have:(f:Int)=2:=by simpa using h3
        omega
       unfold jNS
       simp only
       rw [h2,hf2];simp
      ·refine next _ Ed ?_
       unfold jNS
       rw [hwf]
       have:decide (vJ ⟨kd,lf,c,t,decide (f>0)⟩=0)=false:=decide_eq_false (by simpa using h1)
       rw [this];rfl
     ·have hf:f=4:=by have:=of_decide_eq_false hc3;omega
      subst hf
      rw [Nat.sub_self,yZ] at heqf
      rw [heqf] at heqd
      simp only at heqd
      rw [zQ hj3 (by omega)]
      exact ⟨⟨j+1,rfl,hj3,Ef,BVf,heqd⟩,by omega⟩
    have hsg:s_J kd=vG kd:=rfl
    have hcf:cond (s_J kd) xf 0=(jRL x kd pp).frm:=by
     rw [hsg];unfold jRL;simp only;rw [hxn];cases vG kd <;> rfl
    have place : ∀ (y : Tree) (sy : Sl) (pth : List Nat) (w : World) (p8 : Addr) (w23 : World), Pure w0 w → TreeAt S w0 sy y → New w (.cells (pth.map fun t : Nat => Value.int .i64 (t : Int)).toArray 3) p8 w23 → pth.length ≤ 100 →
      Calls prog 165 #[.agg (uP y sy).toArray,(Sl.mk (some p8) pth.length pth.length).v] w23 (fun e w'=>∃s',e=.returned (.agg (uP (jHM y pth) s').toArray)∧TreeAt S w23 s' (jHM y pth)∧Pure w23 w'):=by
     intro y sy pth w p8 w23 E hTy h8 hpl
     have E23:Pure w0 w23:=E.trans (Ext.new h8)
     exact jEE (S2:=(·=p8.block)) y sy _ pth w23 (hTy.pure E23) (tS E23).2 (Lst.of_path pth (Box.of_new h8)) (fun b e=>by subst e;exact (Box.of_new h8).lt) hpl
    refine ⟨fun htx=>?_,fun htx=>⟨fun h7=>?_,fun h7=>?_⟩⟩
    ·have htx':vL kd=true:=htx
     intro H4 w13 hs13
     have E13:=E.hst hs13
     have BV13:=BV hBV hs13
     have hv13:¬ H4 a1.block:=hs13.disj (G:=(·=a1.block)) (fun b e=>by subst e;exact ⟨hB1.lt,hv1⟩) _ rfl
     have B13:=hB1.ext hs13.ext hv13
     generalize hD:jHM x pp=D at *
     obtain ⟨dk,df,dt,du,dx,dks⟩:=D
     refine ⟨_,_,_,_,_,sd,B13.row,?_⟩
     intro p8 w23 h8
     have E23:Pure w13 w23:=Ext.new h8
     refine (place (.mk dk df dt du dx dks) sd [1,0] w13 p8 w23 E13 hTd h8 (by simp)).mono ?_
     rintro _ w24 ⟨s1,rfl,_,E24⟩
     generalize hk1:jHM (.mk dk df dt du dx dks) [1,0]=y1 at *
     obtain ⟨y1k,y1f,y1t,y1u,y1x,y1s⟩:=y1
     refine ⟨_,_,_,_,_,s1,rfl,E24.keptP,?_⟩
     intro w25 hs25
     have E1324:=E23.trans E24
     have B24:=B13.pure E1324
     have hv25:¬ H4 a1.block:=hv13
     have B25:=B24.ext hs25.ext hv25
     refine ⟨_,_,_,_,_,sd,B25.row,?_⟩
     have E25:=(E13.trans E1324).hst hs25
     have BV25:=BV ⟨Bp BV13.1 E1324,BV13.2⟩ hs25
     intro p9 w26 h9
     have E26:Pure w25 w26:=Ext.new h9
     refine (place (.mk dk df dt du dx dks) sd [1,1] w25 p9 w26 E25 hTd h9 (by simp)).mono ?_
     rintro _ w27 ⟨s2,rfl,_,E27⟩
     generalize hk2:jHM (.mk dk df dt du dx dks) [1,1]=y2 at *
     obtain ⟨y2k,y2f,y2t,y2u,y2x,y2s⟩:=y2
     refine ⟨_,_,_,_,_,s2,rfl,E27.keptP,?_⟩
     intro w28 hs28
     have E2527:=E26.trans E27
     refine J4 y1u y2x H4 w28 hs28.here ((E25.trans E2527).hst hs28) (BV ⟨Bp BV25.1 E2527,BV25.2⟩ hs28) ?_
     rw [hcf]
     unfold jRL
     simp only [htx',if_true,hD,hk1,hk2]
     rfl
    ·have h7:kd=7:=by simpa using h7
     intro H4 w13 hs13
     have E13:=E.hst hs13
     have BV13:=BV hBV hs13
     intro p10 w29 h10
     have E29:Pure w13 w29:=Ext.new h10
     rw [hxv]
     refine (place x s [1] w13 p10 w29 E13 hT h10 (by simp)).mono ?_
     rintro _ w30 ⟨s1,rfl,_,E30⟩
     generalize hk1:jHM x [1]=y1 at *
     obtain ⟨y1k,y1f,y1t,y1u,y1x,y1s⟩:=y1
     refine ⟨_,_,_,_,_,s1,rfl,E30.keptP,?_⟩
     intro w31 hs31
     have E1330:=E29.trans E30
     refine J4 y1u ⟨#[]⟩ H4 w31 hs31.here ((E13.trans E1330).hst hs31) (BV ⟨Bp BV13.1 E1330,BV13.2⟩ hs31) ?_
     rw [hcf]
     unfold jRL
     subst h7
     simp only [hk1]
     rfl
    ·have h7:kd≠7:=by simpa using h7
     have htx':vL kd=false:=htx
     intro H4 w13 hs13
     have E13:=E.hst hs13
     have BV13:=BV hBV hs13
     intro p11 w32 h11
     have E32:Pure w13 w32:=Ext.new h11
     rw [hxv]
     refine (place x s [0,1] w13 p11 w32 E13 hT h11 (by simp)).mono ?_
     rintro _ w33 ⟨s1,rfl,_,E33⟩
     generalize hk1:jHM x [0,1]=y1 at *
     obtain ⟨y1k,y1f,y1t,y1u,y1x,y1s⟩:=y1
     refine ⟨_,_,_,_,_,s1,rfl,E33.keptP,?_⟩
     intro w34 hs34
     have E1333:=E32.trans E33
     refine J4 y1u ⟨#[]⟩ H4 w34 hs34.here ((E13.trans E1333).hst hs34) (BV ⟨Bp BV13.1 E1333,BV13.2⟩ hs34) ?_
     rw [hcf]
     unfold jRL
     have h7b:(kd == 7)=false:=by simpa using h7
     simp only [htx',h7b,hk1,Bool.false_eq_true,if_false]
     rfl
   have Edr:Pure wm wm.drew:=Ext.drew wm
   have Emd:=Em.trans Edr
   have Bmd:=Bp BVm.1 Edr
   refine ⟨fun w'=>B w',Bmd,?_⟩
   rintro _ rfl
   refine ⟨a,hat,sl,fun w' h=>(jNB w' h).1,?_,?_⟩
   ·rw [hxv]
    obtain ⟨_,S2,hL,hS2⟩:=jNB _ Bmd
    refine (jEE x s sl pp wm.drew (tS Emd).1 (tS Emd).2 hL hS2 hppl).mono ?_
    rintro _ w36 ⟨sd,rfl,hTd,E36⟩
    generalize hD:jHM x pp=D at *
    obtain ⟨dk,df,dt,du,dx,dks⟩:=D
    refine ⟨_,_,_,_,_,sd,rfl,E36.keptP,?_⟩
    intro p12 w37 h12
    have E37:=E36.trans (Ext.new h12)
    have b12:=Box.of_new h12
    have hnh:¬ Hm p12.block:=by intro hh;have:=hm.lt _ hh;have:=h12.at_size;have:=(Edr.trans E36).size;omega
    have B36:=Bp Bmd E36
    have B37:=Bp Bmd E37
    have hTd0:TreeAt S w0 sd (Tree.mk dk df dt du dx dks):=hTd.back Emd hSw
    refine ⟨B37,b12.canWs (n:=6) (by simp),hnh,?_⟩
    rintro _ rfl
    have E38:=Ext.storeRow w37 p12 [(.int .i64 dk),(.int .i64 df),(.int .i64 dt),(.int .u64 du),(.string dx),sd.v]
    have b38:=b12.store (vs:=[(.int .i64 dk),(.int .i64 df),(.int .i64 dt),(.int .u64 du),(.string dx),sd.v]) rfl
    exact J3 p12 _ sd _ ((hm.again (Edr.trans E37).keptP).again (E38.kept (fun b hb e=>hnh (e▸hb)))) ((Emd.trans E37).own (by have:=h12.at_size;have:=(Emd.trans E36).size;omega) E38) ⟨⟨B37.1.ext E38 (New.ne h12 B36.1.blk),B37.2.1.ext E38 (New.ne h12 B36.2.1.blk),B37.2.2.1.ext E38 (New.ne h12 B36.2.2.1.blk),B37.2.2.2.ext E38 (New.ne h12 B36.2.2.2.blk)⟩,BVm.2⟩ b38 hnh hTd0
   ·rw [hxv]
    intro p13 w39 h13
    have E39:Pure wm.drew w39:=Ext.new h13
    have B39:=Bp Bmd E39
    have Em39:=Emd.trans E39
    have b13:=Box.of_new h13
    have hnh:¬ Hm p13.block:=by intro hh;have:=hm.lt _ hh;have:=h13.at_size;have:=Edr.size;omega
    obtain ⟨_,S2,hL,hS2⟩:=jNB _ B39
    refine ⟨B39,(jEE x s sl pp w39 (tS Em39).1 (tS Em39).2 hL hS2 hppl).mono ?_⟩
    rintro _ w40 ⟨sd,rfl,hTd,E40⟩
    generalize hD:jHM x pp=D at *
    obtain ⟨dk,df,dt,du,dx,dks⟩:=D
    have hTd0:TreeAt S w0 sd (Tree.mk dk df dt du dx dks):=hTd.back Em39 hSw
    have B40:=Bp B39 E40
    have b40:=b13.pure E40
    refine ⟨_,_,_,_,_,sd,rfl,E40.keptP,b40.canWs (n:=6) (by simp),hnh,?_⟩
    rintro _ rfl
    have E41:=Ext.storeRow w40 p13 [(.int .i64 dk),(.int .i64 df),(.int .i64 dt),(.int .u64 du),(.string dx),sd.v]
    have b41:=b40.store (vs:=[(.int .i64 dk),(.int .i64 df),(.int .i64 dt),(.int .u64 du),(.string dx),sd.v]) rfl
    exact J3 p13 _ sd _ ((hm.again ((Edr.trans E39).trans E40).keptP).again (E41.kept (fun b hb e=>hnh (e▸hb)))) ((Em39.trans E40).own (by have:=h13.at_size;have:=Emd.size;omega) E41) ⟨⟨B40.1.ext E41 (New.ne h13 Bmd.1.blk),B40.2.1.ext E41 (New.ne h13 Bmd.2.1.blk),B40.2.2.1.ext E41 (New.ne h13 Bmd.2.2.1.blk),B40.2.2.2.ext E41 (New.ne h13 Bmd.2.2.2.blk)⟩,BVm.2⟩ b41 hnh hTd0
  ·have hj3:j=3:=by have:=of_decide_eq_false hc2;simp only at this;omega
   subst hj3
   have:deals.drop 3=[]:=rfl
   rw [this,yA] at heqd
   rw [heqd] at heq
   simp only at heq
   have hkw:IntKind.i64.wrap (kd+1)=((q+1:Nat):Int)+1:=by rw [IntWalk.i64_in _ (by omega)];omega
   rw [hkw]
   exact ⟨⟨q+1,rfl,hq7,Em,BVm,by rw [heq];congr 1 <;> omega⟩,by show (8 - _:Int).toNat<(8 - _:Int).toNat;omega⟩
 ·have hq7:q=7:=by have:=of_decide_eq_false hc;omega
  subst hq7
  rw [Nat.sub_self,uT] at heq
  intro w42 hs42
  exact hK _ _ _ _ _ _ _ ⟨by unfold qT;rw [heq];rfl,El.hst hs42⟩
end Go.Proofs
end
section
open Go Go.SE List
namespace Go.Proofs
open Tryz
attribute [local irreducible] Calls
def jQF(p){L}(A:Wf L)(t w0 F)(o:vK w0 p L F):
  cl 55 #[vp<|some p,vi t] w0<|XW fun k f c d g r w'=>((⟨k,f,c,d,g⟩:Letter),r)=jBC L t/\Pure w0 w':=by
 suffices key:∀K:Int->Int->Int->ByteArray->Bool->Bool->WP,(∀k f c d g r w',(((⟨k,f,c,d,g⟩:Letter),r)=jBC L t/\Pure w0 w')->K k f c d g r w')->m_E3 (some p) t w0 K from
  w_E3 _ _ w0 _<|key _ fun _ _ _ _ _ _ _ h=>h
 intro K u
 have s:=A.ok
 intro N H q
 have a:=q.first
 refine(yV p t H<|o.pure a).mono ?_
 rintro _ m ⟨r,rfl,hr,rfl⟩
 refine⟨_,rfl,(Ext.refl _:Pure m m).keptP,fun h=>?_,fun h=>?_⟩
 .intro S i
  refine u _ _ _ _ _ _ _ ⟨?_,a.hst i⟩
  unfold jBC
  rw[if_neg Gd]
  rfl
 .have e:inP L t=true:=by rw[<-hr];simpa using h
  refine(jCL p t m (o.pure a) s).mono ?_
  rintro _ l ⟨z,rfl,x,rfl⟩
  refine⟨_,rfl,(Ext.refl _:Pure l l).keptP,fun h2=>?_,fun h2=>?_⟩
  .intro P v
   refine u _ _ _ _ _ _ _ ⟨?_,a.hst v⟩
   have h2:=of_decide_eq_true h2
   unfold jBC
   rw[if_neg fun hh=>hh.2<|x▸h2]
   rfl
  .have h2:=of_decide_eq_false h2
   refine(jQK p A _ t l F rfl (o.pure a)).mono ?_
   rintro _ G ⟨s',rfl,E,w⟩
   generalize C:zA L t=D at *
   have⟨dk,J,R,O,T,I⟩:=D
   refine⟨_,_,_,_,_,s',rfl,w.keptP,?_⟩
   refine(jHP _ s' G E.lt fun b B=>B.2).mono ?_
   rintro _ Q ⟨k,f,c,d,g,r,rfl,n,y⟩
   refine⟨_,_,_,_,_,_,rfl,y.keptP,?_⟩
   intro M j
   refine u _ _ _ _ _ _ _ ⟨?_,((a.trans w).trans y).hst j⟩
   unfold jBC
   rw[if_pos ⟨e,x▸h2⟩,C,n]
abbrev MkR(S:Int×Int×Pool)(p:Addr)(F:NP)(a w':World):Prop:=∃F',vK w' p S.2.2 F'/\Ext F a w'/\∀b,F' b->F b\/a.heap.size<=b
def jTA(p l w0){L F}(u:vK w0 p L F)(z:Ok L):
  cl 149 #[vp<|some p,.agg #[vi l.kind,vi l.frm,vu l.c,vs l.text,vb l.fake]] w0<|XH fun r1 r2 w'=>r1=(zC L l).1/\r2=(zC L l).2.1/\MkR (zC L l) p F w0 w':=by
 refine w_V7 (some p) l.kind l.frm l.c l.text l.fake w0 _ ?_
 unfold m_V7
 rw[jJF l]
 have A:∀b,F b->b<w0.heap.size:=fun b a=>u.lt a
 refine⟨fun g H i hs=>?_,fun g H i hs=>?_⟩
 .have e:zC L l=(0,vJ l,L):=by unfold zC;rw[if_pos<|bne_iff_ne.1 g]
  rw[e];exact⟨rfl,rfl,F,u.pure hs.first,Ext.pure hs.first,fun b a=>.inl a⟩
 have g:vJ l=0:=by simpa using g
 have e:zC L l=of L (zR l true true):=by unfold zC;rw[if_neg<|by simpa using g]
 rw[e]
 have B:=hs.first
 refine(jHG i.heap.size l.kind l.frm l.c l.text l.fake true true i (Nat.le_refl _)<|jLP g).mono ?_
 rintro _ w ⟨j,k,f,C⟩
 have f:TreeAt (i.heap.size<=·) w j (zR l true true):=f
 have k:_=Ending.returned (.agg (uP (zR l true true) j).toArray):=k
 generalize zR l true true=T at *
 have⟨x,t,o,m,y,q⟩:=T
 have k:_=Ending.returned (.agg #[vi x,vi t,vi o,vu m,vs y,j.v]):=k
 refine⟨x,t,o,m,y,j,k,C.keptP,?_⟩
 have d:=B.trans C
 refine(jWZ (S:=fun b=>i.heap.size<=b/\b<w.heap.size) p (.mk x t o m y q) j w f.lt (u.pure d) z (fun b a hh=>Oi (A b a) B.size) fun b a=>a.2).mono ?_
 rintro _ I ⟨r1,r2,rfl,s,F',r,D,n⟩
 have⟨E,G⟩:=Prod.mk.inj s
 refine⟨r1,r2,rfl,D.kept fun b a hh=>Oi (hs.old b a)<|A b hh,E,G,F',r,(Ext.pure d).trans D,fun b a=>(n b a).imp id fun h=>Oh d.size⟩
def jQQ(l)(y:yH l.c)(w0):
  cl 98 #[.agg #[vi l.kind,vi l.frm,vu l.c,vs l.text,vb l.fake]] w0<|XN fun r n w'=>n=(qP l).2/\RetO w0 5 1 (byr (qP l).1) r w':=by
 refine w_W7 _ _ _ _ _ w0 _ ?_
 intro G A hs
 have v:=hs.first
 refine(jBI A).mono ?_
 rintro _ z ⟨_,rfl,p,F,rfl,B,s,q⟩
 refine⟨_,rfl,s.keptP,?_⟩
 refine(jTA p l z B Wf.nil.ok).mono ?_
 rintro _ u ⟨r2,r3,rfl,w,j,J,o,t,x⟩
 have m:=v.trans s
 have d:Pure w0 u:=m.trans' t fun i hi k=>Oi (q i k) v.size
 refine⟨_,_,rfl,t.kept fun b g k=>Oi (hs.lt b g)<|q b k,fun f=>?_,fun f=>?_⟩
 .have f:=bne_iff_ne.1 f
  have e:qP l=([],(zC [] l).2.1):=by unfold qP;rw[if_pos (by rw[<-j];exact f)]
  rw[e]
  exact⟨j,Rws.nil _ _ _,fun b g=>(by have⟨a,C,_⟩:=g;cases C),d⟩
 .have f:r3=0:=by simpa using f
  have e:qP l=jAN (zC [] l).2.2 (zC [] l).1:=by unfold qP;rw[if_neg (by rw[<-j];simpa using f)]
  rw[e,<-w]
  refine(jDJ p r2 u (xI Wf.nil l) (xU yU.nil y) o).mono ?_
  rintro _ H ⟨E,I,rfl,D,h⟩
  exact⟨_,_,rfl,h.pure.keptP,D,h.rows,fun b g=>Oi (h.own b g) d.size,d.trans h.pure⟩
def jCN(l:Letter)(b:yH l.c)(w0:World):
  cl 40 #[.agg #[vi l.kind,vi l.frm,vu l.c,vs l.text,vb l.fake]] w0<|XP fun r w'=>r=jVP l/\Pure w0 w':=by
 refine w_H5 _ _ _ _ _ w0 _ ?_
 intro f d hs
 refine(jQQ l b d).mono ?_
 rintro _ e ⟨r1,r2,rfl,_,a⟩
 refine⟨_,_,rfl,a.pure.keptP,_,jJA underlying59 underlying5 underlying9 a.rows.lst,rfl,hs.first.trans a.pure⟩
def jKU(who c x w0):
  cl 103 #[.agg #[vi who,vu c,vs x]] w0<|XA fun r w'=>RetO w0 35 5 ((evs who c x).map jWG) r w':=by
 refine w_E7 _ _ _ w0 _ ?_
 intro n m hs i k h2
 have d:=hs.first
 have j:=h2.at_size
 have l:=d.size
 exact⟨Rws.lit (rs:=(evs who c x).map jWG) h2 rfl (by intro q g;obtain⟨t,_,rfl⟩:=mem_map.1 g;rfl) (by simp[evs,maxLen]),fun b f=>(by have⟨a,h,e⟩:=f;cases h;omega),d.trans<|Ext.new h2⟩
def zBH(w0:World)(F0 X H:NP)(w:World)(f:Addr)(L:Pool)(G:List Int)(a b:Bool):Prop:=
 ∃F,jAT w f L G a b F/\Ext F0 w0 w/\(∀y,F y->(F0 y\/w0.heap.size<=y)/\¬H y/\¬X y)/\(∀y,X y->y<w.heap.size/\¬H y)/\∀y,H y->y<w.heap.size
section
variable {w0 w w' wv:World} {F0 F F' X H H' Hv:NP} {f:Addr} {L L':Pool} {G G':List Int} {a b a' b':Bool}
def zBH.pureE(h:zBH w0 F0 X H w f L G a b)(E:Pure w w'):zBH w0 F0 X H w' f L G a b:=by
 have⟨F,e,d,h1,h2,h3⟩:=h;exact⟨F,e.pure E,d.thenPure E,h1,fun y c=>⟨Nat.lt_of_lt_of_le (h2 y c).1 E.size,(h2 y c).2⟩,fun y c=>Nat.lt_of_lt_of_le (h3 y c) E.size⟩
def zBH.step(h1:∀y,F y->(F0 y\/w0.heap.size<=y)/\¬ H y/\¬ X y)(h2:∀y,X y->y<w.heap.size/\¬ H y)(h3:∀y,H y->y<w.heap.size)(b:Ext F0 w0 w)(c:jAT w' f L' G' a' b' F')(E:Ext F w w')(d:∀y,F' y->F y\/w.heap.size<=y):
  zBH w0 F0 X H w' f L' G' a' b'/\Kept H w w':=by
 have e:=b.size
 refine⟨⟨F',c,b.trans' E Gd,fun y a=>?_,fun y a=>⟨Nat.lt_of_lt_of_le (h2 y a).1 E.size,(h2 y a).2⟩,fun y a=>Nat.lt_of_lt_of_le (h3 y a) E.size⟩,E.kept Gd⟩
 rcases d y a with h|h
 exact h1 y h
 grind
end
abbrev FoeO(f:Addr)(L:Pool)(G:List Int)(a b:Bool):Own1:=fun w F=>jAT w f L G a b F
def qB{f L G a b}:Cl1 (FoeO f L G a b):=⟨fun h E d=>jAT.ext h E d,fun h _ c=>jAT.lt h c⟩
structure How(P:Program)(f:Addr)(G:List Int)(a b:Bool)(I:Own1)(J:Pool->Int->Own1)(c:Pool->Int->Prop)(d:FuncId)(fs cs:Array Value):Prop where
 cl:Cl1 I
 ent:∀args w,(callFunc d args).run P w=.ok (.enter d args) w
 ask:∀(w:World) (L:Pool) (t:Int) (F:NP),Sep (FoeO f L G a b) I w F->inP L t=true->Drv L (Seen L G) t->Calls P d (fs++#[(vi t)]++cs) w (XC fun ok w'=>(ok=true->Tn (Sep (FoeO f L G a b)<|J L t) F w w')/\(ok=false->c L t/\Tn (Sep (FoeO f L G a b) I) F w w'))
def jKK(f who c x fq fs cs){G a b I J Bad}(R:How prog f G a b I J Bad fq fs cs)(w0){L F}(h:Sep (FoeO f L G a b) I w0 F):
  cl 48 #[vp<|some f,.agg #[vi who,vu c,vs x],.func (.func fq) fs cs] w0<|XB fun r w'=>∃L',ReachR Bad G (if yG who=true then evs who c x else[]) L r L'/\(r=0->Tn (Sep (FoeO f L' G a b) I) F w0 w')/\(r≠0->Tn (Sep (FoeO f L' G a b)<|J L' r) F w0 w'):=by
 suffices key:∀K:Int->WP,(∀r w',(∃L',ReachR Bad G (if yG who=true then evs who c x else[]) L r L'/\(r=0->Tn (Sep (FoeO f L' G a b) I) F w0 w')/\(r≠0->Tn (Sep (FoeO f L' G a b)<|J L' r) F w0 w'))->K r w')->m_Y (some f) who c x (.func (.func fq) fs cs) w0 K from
  w_Y _ _ _ _ _ w0 _<|key _ fun _ _ h=>h
 intro K O
 unfold m_Y
 have d:∀{L},Cl1<|Sep (FoeO f L G a b) I:=qB.sep R.cl
 have T0:=Tk.start h d
 refine⟨fun j=>?_,fun j=>?_⟩
 .intro H2 w3 hs
  rw[if_neg (by unfold yG;simpa using j)]at O
  exact O 0 w3 ⟨L,.nil,fun _=>(T0.hst d hs).tn,fun h=>absurd rfl h⟩
 intro H2 w3 hs
 have hp:yG who=true:=by
  unfold yG;simp at j|-;omega
 rw[if_pos hp]at O
 have T3:=T0.hst d hs
 refine(jKU who c x w3).mono ?_
 rintro _ w5 ⟨r1,rfl,C⟩
 refine⟨_,rfl,C.pure.keptP,?_⟩
 have hrl:r1.len=2:=by rw[C.rows.len];rfl
 have hlen:(evs who c x).length=2:=rfl
 have T5:Tk H2 (Sep (RdO 35 5 r1<|(evs who c x).map jWG)<|Sep (FoeO f L G a b) I) F w0 w5:=T3.new d ⟨C.rows,fun _=>Iff.rfl⟩ C.pure C.own
 generalize evs who c x=ls at *
 refine⟨fun i H w=>∃n:Nat,i=n/\n<=ls.length/\∃L',(∀r u,ReachR Bad G (ls.drop n) L' r u->ReachR Bad G ls L r u)/\Tk H (Sep (RdO 35 5 r1<|ls.map jWG)<|Sep (FoeO f L' G a b) I) F w0 w,fun i _=>((ls.length:Int)-i).toNat,⟨0,rfl,Nat.zero_le _,L,fun _ _ h=>h,T5⟩,?_⟩
 rintro _ Hl wl hsl ⟨n,rfl,hn,L',o,T⟩
 refine⟨fun g=>?_,fun g=>?_⟩
 .have g:n<ls.length:=Oh<|of_decide_eq_true g
  have⟨_,X,_⟩:=T.l jPY d
  have⟨a1,hat,_,Q⟩:=X.1.lst.nth g
  rw[drop_eq_getElem_cons g]at o
  generalize ls[n]=l at *
  refine⟨a1,hat,l.kind,l.frm,l.c,l.text,l.fake,Q,fun H3 w7 hs7=>⟨fun _=>True,trivial,?_⟩⟩
  rintro w8 rfl
  have T8:=(T.hst (jPY.sep d) hs7).pure (jPY.sep d)<|Ext.drew w7
  generalize w7.drew=w8 at *
  have⟨F1,A,_,k8⟩:=T8.r jPY d
  have⟨F2,q,_,k8'⟩:=A.one R.cl<|d.lt A
  have⟨k,p,S,FK,FP,q,hF⟩:=q
  refine⟨f,rfl,some p,q.box.cell rfl,?_⟩
  refine(zIF p l w8 q.pool q.wf.ok).mono ?_
  rintro _ w9 ⟨r2,r3,rfl,e2,e3,FP',P,E9,N⟩
  have⟨M,hM⟩:=jAR q.wf.ok l
  have s:=xI q.wf l
  have hM':=hM
  rw[hM]at P s
  have e:=q.grown P s E9 N
  rw[<-hM']at e s
  have⟨T9,Y⟩:=k8 (k8' (A':=FoeO f (zC L' l).2.2 G a b) ⟨_,⟨k,p,S,FK,FP',e,fun _=>Iff.rfl⟩,E9.mono Gd,by
   rintro y (rfl|U|U)
   .grind
   .grind
   .exact(N y U).imp Gd id⟩)
  refine⟨r2,r3,rfl,trivial,Y,?_⟩
  have D:Drv (zC L' l).2.2 (fun y=>y∈zH S) r2↔Drv (zC L' l).2.2 (Seen (zC L' l).2.2 G) r2:=
   ⟨Drv.mono fun t ht=>(e.ok.seen_iff t).1 ht,Drv.mono fun t ht=>(e.ok.seen_iff t).2 ht⟩
  have next : ∀ w, Tk H3 (Sep (RdO 35 5 r1<|ls.map jWG)<|Sep (FoeO f (zC L' l).2.2 G a b) I) F w0 w -> (¬ ((zC L' l).2.1 = 0 /\ Drv (zC L' l).2.2 (Seen (zC L' l).2.2 G) (zC L' l).1) \/ Bad (zC L' l).2.2 (zC L' l).1) ->
    (∃m:Nat,IntKind.i64.wrap ((n:Int)+1)=m/\m<=ls.length/\∃L',(∀r u,ReachR Bad G (ls.drop m) L' r u->ReachR Bad G ls L r u)/\Tk H3 (Sep (RdO 35 5 r1<|ls.map jWG)<|Sep (FoeO f L' G a b) I) F w0 w)/\((ls.length:Int)-IntKind.i64.wrap ((n:Int)+1)).toNat<((ls.length:Int)-(n:Int)).toNat:=by
   intro w h1 h3
   rw[zQ g Om]
   exact⟨⟨n+1,rfl,g,_,fun r u h=>o _ _<|.miss h3 h,h1⟩,uR g⟩
  refine⟨fun j=>?_,fun j=>?_⟩
  .have j:r3=0:=beq_iff_eq.1 j
   have E:(zC L' l).2.1=0:=by rw[<-e3];exact j
   refine⟨f,rfl,some k,e.box.cell0,?_⟩
   refine(jNN k p r2 w9 e.wf e.ok e.know e.pool).mono ?_
   rintro _ Z ⟨r5,rfl,hr5,z⟩
   refine⟨_,rfl,z.keptP,?_⟩
   have v:=T9.pure (jPY.sep d) z
   refine⟨fun h5=>?_,fun h5=>?_⟩
   .have hd:=D.1<|hr5.1 h5
    rw[e2]at hd
    have⟨F3,W,_,k3⟩:=v.r jPY d
    have⟨_,b2,_⟩:=jAQ E q.wf
    refine⟨fq,fs,cs,rfl,R.ent,?_⟩
    rw[e2]
    refine(R.ask Z _ _ F3 W b2 hd).mono ?_
    rintro _ w10 ⟨ok,rfl,U,B⟩
    refine⟨ok,rfl,?_,fun h=>?_,fun h=>?_⟩
    .grind
    .subst h
     have T12:=(k3<|U rfl).1
     have V:(zC L' l).1≠0:=Oh<|(zI.1 b2).1
     exact O _ _ ⟨_,o _ _<|.hit E hd,fun h=>absurd h V,fun _=>(T12.swap.sub Sep.fst).tn⟩
    .subst h
     exact next _ (k3 (B rfl).2).1 (.inr (B rfl).1)
   .exact next _ v (.inl Gd)
  .have j:¬r3=0:=fun h=>by rw[h]at j;cases j
   refine⟨fun h=>(by cases h),fun _=>?_⟩
   exact next _ T9 (.inl Gd)
 .have:n=ls.length:=Oh<|of_decide_eq_false g
  subst this
  rw[drop_length]at o
  exact O 0 wl ⟨L',o _ _ .nil,fun _=>(T.swap.sub Sep.fst).tn,fun h=>absurd rfl h⟩
def jTG{f:Addr}{G:List Int}{a b:Bool}:How prog f G a b emp (fun _ _=>emp) (fun _ _=>False) 51 #[] #[]:=
 ⟨zFN,call51,fun w L t F h _ _=>(p_X7 t w).mono fun e w' ⟨c,E⟩=>⟨true,c,fun _=>⟨F,(qB.sep zFN).ext h E fun _ _ h=>h,Ext.pure E,fun y d=>.inl d⟩,fun h=>(by cases h)⟩⟩
def jEG(f who c x w0){L G a b F}(h:jAT w0 f L G a b F):
  cl 13 #[vp<|some f,.agg #[vi who,vu c,vs x]] w0<|XC fun r w'=>(r=true↔(jEK L G who c x).1≠0)/\Tn (FoeO f (jEK L G who c x).2 G a b) F w0 w':=by
 refine w_F7 _ _ _ _ w0 _ ?_
 intro o d hs
 have k:=(Tk.start h qB).hst qB hs
 have⟨m,j,_,l⟩:=(k.new (C:=emp) qB (fun _ h=>h) (Ext.refl _) fun _ h=>h.elim).swap.one
 refine(jKK f who c x _ #[] #[] jTG d j).mono ?_
 rintro _ i ⟨r,rfl,L',g,p,h1⟩
 have e:(r,L')=jEK L G who c x:=by
  rw[<-g.eq];unfold jEK;split<;>rfl
 have t:Tn (Sep (FoeO f L' G a b) emp) m d i:=Gd
 have⟨n,kp⟩:=l t
 rw[<-e]
 exact⟨_,rfl,kp,Sm,(n.sub Sep.fst).tn⟩
def jFU(f who w0){L G a b F}(h:jAT w0 f L G a b F):
  cl 67 #[vp<|some f,vi who] w0<|XC fun r w'=>r=zHA L G who/\Pure w0 w':=by
 refine w_H7 _ _ w0 _ ?_
 unfold m_H7
 have⟨k,p,S,m,g,h,j⟩:=h
 refine⟨f,rfl,some p,h.box.cell rfl,?_⟩
 refine(zID p (zT who) w0 h.pool h.wf.ok).mono ?_
 rintro _ d ⟨r1,r2,rfl,hr,c⟩
 have h1:=h.ext c fun _ _ h=>h
 refine⟨r1,r2,rfl,?_⟩
 unfold zHA
 split at hr
 rename_i i hi
 obtain⟨rfl,rfl⟩:=hr
 refine⟨fun _=>?_,fun h=>(by cases h)⟩
 refine⟨f,rfl,some k,h1.box.cell0,?_⟩
 refine(jMA k p ((i:Int)+1) d h1.know).mono ?_
 rintro _ l ⟨r3,rfl,rfl,e⟩
 refine⟨_,rfl,?_,c.trans e⟩
 rw[hi]
 classical
 exact decide_eq_decide.2<|h1.ok.seen_iff _
 rename_i hi
 obtain⟨rfl,rfl⟩:=hr
 refine⟨fun h=>(by cases h),fun _=>⟨?_,c⟩⟩
 rw[hi]
def jXE(f who w0){L G a b F}(h:jAT w0 f L G a b F):
  cl 21 #[vp<|some f,vi who] w0<|XC fun r w'=>r=jNE L G who/\Pure w0 w':=by
 refine w_I7 _ _ w0 _ ?_
 refine⟨fun g=>?_,fun g=>?_⟩
 .intro n k hs
  have c:yG who=true:=by unfold yG;simpa using g
  have d:=hs.first
  refine(jFU f who k<|h.pure d).mono ?_
  rintro _ m ⟨r1,rfl,i,e⟩
  refine⟨_,rfl,e.keptP,fun h1=>?_,fun h1=>?_⟩
  .refine⟨?_,d.trans e⟩
   unfold jNE;rw[c,<-i,h1];rfl
  .refine(jFU f 2 m<|(h.pure d).pure e).mono ?_
   rintro _ o ⟨r2,rfl,l,j⟩
   refine⟨_,rfl,j.keptP,?_,(d.trans e).trans j⟩
   unfold jNE;rw[c,<-i,h1,l];rfl
 .intro n k hs
  refine⟨?_,hs.first⟩
  have c:yG who=false:=by unfold yG;simpa using g
  unfold jNE;rw[c];rfl
section
variable {w0 w:World} {F0 X H:NP} {f:Addr} {L:Pool} {G:List Int} {a b:Bool}
end
def jLU(c c1 c2:Addr):List (Int×Value):=
 [(0,.func (.func 223) #[] #[vp<|some c1]),(1,.func (.func 224) #[] #[vp<|some c2]),(2,.func (.func 226) #[] #[vp<|some c2]),
  (3,.func (.func 228) #[] #[vp<|some c2]),(4,.func (.func 230) #[] #[vp<|some c1,vp<|some c2]),(5,.func (.func 233) #[] #[vp<|some c1,vp<|some c2]),
  (6,.func (.func 235) #[] #[vp<|some c1]),(7,.func (.func 237) #[] #[vp<|some c1]),(8,.func (.func 238) #[vp<|some c] #[]),
  (9,.func (.func 239) #[] #[vp<|some c1,vp<|some c2]),(10,.func (.func 242) #[] #[vp<|some c1,vp<|some c2]),(11,.func (.func 246) #[] #[vp<|some c1,vp<|some c2])]
section
variable {w0:World} {c p c1 c2:Addr} {sg sm:Sl} {G M:List Int} (hC:CookS w0 c p sg sm G M)
variable (h1:w0.cell? c1=some (vp<|some c)) (h2:w0.cell? c2=some (vp<|some p))
variable {L:Pool} {F:NP} (hP:zD w0 p L F) (hok:Ok L)
abbrev DoK(p:Addr)(F:NP)(w:World)(R:Res)(r1 r2:Int)(w':World):Prop:=(r1,r2)=(R.1,R.2.1)/\∃F',zD w' p R.2.2 F'/\Ext F w w'/\∀b,F' b->F b\/w.heap.size<=b
def DoK.pre{p F w w1 w' R r1 r2}(E:Pure w w1)(h:DoK p F w1 R r1 r2 w'):DoK p F w R r1 r2 w':=by
 have⟨h1,F',h2,h3,c⟩:=h;exact⟨h1,F',h2,E.pure.trans h3,fun b a=>(c b a).imp_right fun h=>Oh E.size⟩
include hC h1 hP in
def zIB(o):cl 223 #[opv o,vp<|some c1] w0 (DoPost p F w0<|uN L G o):=by
 have⟨d,oa,g,on,f⟩:=o;refine w_I1 d oa g on f _ w0 (DoK p F w0<|uN L G ⟨d,oa,g,on,f⟩) ?_;unfold m_I1;have s:sg.len=G.length:=by rw[hC.giv.len,zY]
 have no:∀H w,Hst w0 None w0 H w->atM G oa=none->DoK p F w0 (uN L G ⟨d,oa,g,on,f⟩) 0 90 w:=fun H w hs q=>by
  have e:uN L G ⟨d,oa,g,on,f⟩=jHK L:=by unfold uN;simp only;rw[q]
  rw[e];exact⟨rfl,F,hP.pure hs.first,hs.first.pure,fun b k=>.inl k⟩
 refine⟨fun h=>fun H w hs=>?_,fun h=>fun H w hs=>?_⟩
 .exact Br.t rfl (no H w hs<|jBK<|.inl<|of_decide_eq_true h)
 .have h:=of_decide_eq_false h;have C:=hC.pure hs.first;refine⟨some c,(hs.first).cell h1 fun h=>h,c,rfl,sg,C.box.cell rfl,?_⟩;refine⟨fun h3=>no H w hs<|jBK<|.inr Gd,fun h3=>?_⟩;have h3:=of_decide_eq_false h3;intro u j;have i:=hs.first.hst j;have l:=hC.pure i;have e:atM G oa=some (G[oa.toNat]' Om):=jBO Om Om;have⟨a,r,n⟩:=jIU l.giv e;refine⟨some c,i.cell h1 fun h=>h,c,rfl,sg,l.box.cell rfl,a,r,_,n,?_⟩;have m:uN L G ⟨d,oa,g,on,f⟩=(G[oa.toNat]' Om,0,L):=by unfold uN;simp only;rw[e]
  rw[m];exact⟨rfl,F,hP.pure i,i.pure,fun b k=>.inl k⟩
include h2 hP hok in
def zIA(o):cl 224 #[opv o,vp<|some c2] w0 (DoPost p F w0<|make L ⟨1,o.a,0,0,⟨#[]⟩,0,0⟩):=by
 have⟨g,oa,i,on,j⟩:=o;refine w_K4 _ _ _ _ _ _ w0 (DoK p F w0<|make L ⟨1,oa,0,0,⟨#[]⟩,0,0⟩) ?_;intro l e c;refine⟨some p,c.first.cell h2 fun h=>h,?_⟩;refine(c_Name p e (hP.pure c.first) hok oa).mono ?_;rintro _ k ⟨r1,r2,rfl,h⟩;exact⟨r1,r2,rfl,h.2.elim fun F' h=>h.2.1.kept fun b d f=>Oi (c.old b d)<|hP.lt f,DoK.pre c.first h⟩
include h2 hP hok in
def zHZ(o):cl 226 #[opv o,vp<|some c2] w0 (DoPost p F w0<|make L ⟨2,0,0,o.num,⟨#[]⟩,0,0⟩):=by
 have⟨f,oa,g,on,i⟩:=o;refine w_L4 _ _ _ _ _ _ w0 (DoK p F w0<|make L ⟨2,0,0,on,⟨#[]⟩,0,0⟩) ?_;intro k d a;refine⟨some p,a.first.cell h2 fun h=>h,?_⟩;refine(c_Num p d (hP.pure a.first) hok on).mono ?_;rintro _ j ⟨r1,r2,rfl,h⟩;exact⟨r1,r2,rfl,h.2.elim fun F' h=>h.2.1.kept fun b c e=>Oi (a.old b c)<|hP.lt e,DoK.pre a.first h⟩
include h2 hP hok in
def zHY(o):cl 228 #[opv o,vp<|some c2] w0 (DoPost p F w0<|make L ⟨3,0,0,0,o.text,0,0⟩):=by
 have⟨g,oa,i,on,c⟩:=o;refine w_M4 _ _ _ _ _ _ w0 (DoK p F w0<|make L ⟨3,0,0,0,c,0,0⟩) ?_;intro k e a;refine⟨some p,a.first.cell h2 fun h=>h,?_⟩;refine(c_Data p e (hP.pure a.first) hok c).mono ?_;rintro _ j ⟨r1,r2,rfl,h⟩;exact⟨r1,r2,rfl,h.2.elim fun F' h=>h.2.1.kept fun b d f=>Oi (a.old b d)<|hP.lt f,DoK.pre a.first h⟩
include hC h1 h2 hP hok in
def zHX(o):cl 230 #[opv o,vp<|some c1,vp<|some c2] w0 (DoPost p F w0<|jBL L M o):=by
 have⟨s,oa,l,on,v⟩:=o;refine w_O4 _ _ _ _ _ _ _ w0 (DoK p F w0<|jBL L M ⟨s,oa,l,on,v⟩) ?_;intro y m n;have g:=n.first;refine⟨some c,g.cell h1 fun h=>h,?_⟩;refine(jCP (hC.pure g) oa).mono ?_;rintro _ m ⟨u,r,rfl,d,rfl⟩;refine⟨_,_,rfl,Kept.refl _,some c,g.cell h1 fun h=>h,?_⟩;refine(jCP (hC.pure g) l).mono ?_;rintro _ m ⟨rb,q,rfl,e,rfl⟩;refine⟨_,_,rfl,Kept.refl _,?_⟩;unfold jBL;simp only;have no:∀H w,Hst w0 y m H w->DoK p F w0 (jHK L) 0 90 w:=fun H w hs=>⟨rfl,F,hP.pure<|g.hst hs,(g.hst hs).pure,fun b k=>.inl k⟩;cases i:atM M oa with
 |none =>
  rw[i]at d;obtain⟨rfl,rfl⟩:=d
  exact Br.t Sm fun H w hs=>no H w hs
 |some a =>
  rw[i]at d;obtain⟨rfl,rfl⟩:=d
  simp only
  cases j:atM M l with
  |none =>
   rw[j]at e;obtain⟨rfl,rfl⟩:=e
   exact Br.t Sm fun H w hs=>no H w hs
  |some b =>
   rw[j]at e;obtain⟨rfl,rfl⟩:=e
   simp only
   refine Br.f rfl fun H w hs=>⟨some p,(g.hst hs).cell h2 fun h=>h,?_⟩
   refine(c_Pair p w (hP.pure<|g.hst hs) hok u rb).mono ?_
   rintro _ z ⟨r1,r2,rfl,h⟩
   exact⟨r1,r2,rfl,h.2.elim fun F' h=>h.2.1.kept fun b k x=>Oi (hs.old b k)<|hP.lt x,DoK.pre (g.hst hs) h⟩
include hC h1 h2 hP hok in
def zHW(o):cl 233 #[opv o,vp<|some c1,vp<|some c2] w0 (DoPost p F w0<|jCB L M o):=by
 have⟨l,oa,q,on,n⟩:=o;refine w_P4 _ _ _ _ _ _ _ w0 (DoK p F w0<|jCB L M ⟨l,oa,q,on,n⟩) ?_;intro v r i;have e:=i.first;refine⟨some c,e.cell h1 fun h=>h,?_⟩;refine(jCP (hC.pure e) oa).mono ?_;rintro _ r ⟨m,k,rfl,d,rfl⟩;refine⟨_,_,rfl,Kept.refl _,?_⟩;unfold jCB;simp only;cases g:atM M oa with
 |none =>
  rw[g]at d;obtain⟨rfl,rfl⟩:=d
  exact Br.t rfl ⟨rfl,F,hP.pure e,e.pure,fun b j=>.inl j⟩
 |some a =>
  rw[g]at d;obtain⟨rfl,rfl⟩:=d
  simp only
  refine Br.f rfl ⟨some p,e.cell h2 fun h=>h,?_⟩
  refine(c_Hash p _ (hP.pure e) hok m).mono ?_
  rintro _ u ⟨r1,r2,rfl,h⟩
  exact⟨r1,r2,rfl,h.2.elim fun F' h=>h.2.1.kept fun b j s=>Oi (i.old b j)<|hP.lt s,DoK.pre e h⟩
include hC h1 hP hok in
def zHV(o):cl 235 #[opv o,vp<|some c1] w0 (DoPost p F w0<|yJ L M o false):=by
 have⟨e,oa,g,on,f⟩:=o;refine w_S4 _ _ _ _ _ _ w0 (DoK p F w0<|yJ L M ⟨e,oa,g,on,f⟩ false) ?_;intro m k a;have d:=a.first;refine⟨some c,d.cell h1 fun h=>h,?_⟩;refine(jKN (hC.pure d) (hP.pure d) hok ⟨e,oa,g,on,f⟩ false).mono ?_;rintro _ l ⟨r1,r2,rfl,h⟩;exact⟨r1,r2,rfl,h.2.elim fun F' h=>h.2.1.kept fun b i j=>Oi (a.old b i)<|hP.lt j,DoK.pre d h⟩
include hC h1 hP hok in
def zHU(o):cl 237 #[opv o,vp<|some c1] w0 (DoPost p F w0<|yJ L M o true):=by
 have⟨e,oa,g,on,f⟩:=o;refine w_T4 _ _ _ _ _ _ w0 (DoK p F w0<|yJ L M ⟨e,oa,g,on,f⟩ true) ?_;intro m k a;have d:=a.first;refine⟨some c,d.cell h1 fun h=>h,?_⟩;refine(jKN (hC.pure d) (hP.pure d) hok ⟨e,oa,g,on,f⟩ true).mono ?_;rintro _ l ⟨r1,r2,rfl,h⟩;exact⟨r1,r2,rfl,h.2.elim fun F' h=>h.2.1.kept fun b i j=>Oi (a.old b i)<|hP.lt j,DoK.pre d h⟩
include hC h1 h2 hP hok in
def zHT(o:Op):cl 239 #[opv o,vp<|some c1,vp<|some c2] w0 (DoPost p F w0<|vM L M o fun k a=>⟨7,k,0,0,⟨#[]⟩,a,0⟩):=by
 have⟨f,oa,g,on,i⟩:=o;refine w_W4 _ _ _ _ _ _ _ w0 (DoK p F w0<|vM L M ⟨f,oa,g,on,i⟩ fun k a=>⟨7,k,0,0,⟨#[]⟩,a,0⟩) ?_;intro r q e;have d:=e.first;refine⟨some c,d.cell h1 fun h=>h,some p,d.cell h2 fun h=>h,?_⟩;refine(jCO (hC.pure d) (hP.pure d) hok ⟨f,oa,g,on,i⟩ 241 #[vp<|some p] #[] (fun k a=>⟨7,k,0,0,⟨#[]⟩,a,0⟩) call241 fun k a w' l=>?_).mono ?_
 .exact c_Sign p w' ((hP.pure d).pure l) hok k a
 rintro _ n ⟨r1,r2,rfl,h⟩;exact⟨r1,r2,rfl,h.2.elim fun F' h=>h.2.1.kept fun b j m=>Oi (e.old b j)<|hP.lt m,DoK.pre d h⟩
variable (hd:¬F c2.block)
include hC h1 h2 hP hok hd in
def zEN(o:Op):cl 242 #[opv o,vp<|some c1,vp<|some c2] w0 (DoPost p F w0<|vM L M o fun k a=>⟨8,k,oU o.num,0,⟨#[]⟩,a,0⟩):=by
 have⟨i,oa,s,on,g⟩:=o;refine w_X4 i oa s on g _ _ w0 (DoK p F w0<|vM L M ⟨i,oa,s,on,g⟩ fun k a=>⟨8,k,oU on,0,⟨#[]⟩,a,0⟩) ?_;intro p1 z d;have e:Pure w0 z:=Ext.new d;have v:=Box.of_new d;refine⟨some c,e.cell h1 fun h=>h,_,_,_,_,_,v.row,?_⟩;refine(jCO (hC.pure e) (hP.pure e) hok ⟨i,oa,s,on,g⟩ 243 #[] #[vp<|some c2,vp<|some p1] (fun k a=>⟨8,k,oU on,0,⟨#[]⟩,a,0⟩) call243 fun k a w' q=>?_).mono ?_;refine w_Y4 k a _ _ w' (DoK p F w'<|make L ⟨8,k,oU on,0,⟨#[]⟩,a,0⟩) ?_;unfold m_Y4;have n:w'.cell? c2=some (vp<|some p):=(e.trans q).cell h2 fun h=>h;have m:w'.cell? (p1.add 3)=some (vu on):=(v.pure q).cell rfl;have l:¬F (p1.add 3).block:=fun h=>by rw[zG]at h;have:=hP.lt h;have:=d.at_size;omega
 have r:Pure w' w'.drew:=Ext.drew w';have keep:∀{X:NP} {a b:World},(a.cell? c2=some (vp<|some p)/\a.cell? (p1.add 3)=some (vu on))->Ext X a b->(∀b,X b->F b)->b.cell? c2=some (vp<|some p)/\b.cell? (p1.add 3)=some (vu on):=fun h E j=>⟨E.cell h.1 fun hh=>hd<|j _ hh,E.cell h.2 fun hh=>l<|j _ hh⟩;have u:=keep ⟨n,m⟩ r fun _ h=>h.elim;refine⟨fun w=>w.cell? c2=some (vp<|some p)/\w.cell? (p1.add 3)=some (vu on),u,?_⟩;rintro _ rfl;refine⟨some p,fun _ h=>h.1,on,fun _ h=>h.2,?_⟩;refine(p_O2 on _).mono ?_;rintro _ t ⟨rfl,f⟩;have y:=keep u f fun _ h=>h.elim;refine⟨_,rfl,y,f.keptP,?_⟩;refine(c_Prom p t (hP.pure<|((e.trans q).trans r).trans f) hok k (s_O2 on) a).mono ?_;rintro _ A ⟨r1,r2,rfl,h⟩;exact⟨r1,r2,rfl,h.2.elim Gd,h.2.elim fun F' h=>h.2.1.kept fun b x j=>x.elim,DoK.pre (r.trans f) h⟩;rintro _ t ⟨r1,r2,rfl,h⟩;exact⟨r1,r2,rfl,DoK.pre e h⟩
include hC h1 h2 hP hok hd in
def zEM(o:Op):cl 246 #[opv o,vp<|some c1,vp<|some c2] w0 (DoPost p F w0<|vM L M o fun k a=>⟨9,oU o.num,k,0,⟨#[]⟩,a,0⟩):=by
 have⟨i,oa,s,on,g⟩:=o;refine w_Z4 i oa s on g _ _ w0 (DoK p F w0<|vM L M ⟨i,oa,s,on,g⟩ fun k a=>⟨9,oU on,k,0,⟨#[]⟩,a,0⟩) ?_;intro p1 z d;have e:Pure w0 z:=Ext.new d;have v:=Box.of_new d;refine⟨some c,e.cell h1 fun h=>h,_,_,_,_,_,v.row,?_⟩;refine(jCO (hC.pure e) (hP.pure e) hok ⟨i,oa,s,on,g⟩ 247 #[] #[vp<|some c2,vp<|some p1] (fun k a=>⟨9,oU on,k,0,⟨#[]⟩,a,0⟩) call247 fun k a w' q=>?_).mono ?_;refine w_A5 k a _ _ w' (DoK p F w'<|make L ⟨9,oU on,k,0,⟨#[]⟩,a,0⟩) ?_;unfold m_A5;have n:w'.cell? c2=some (vp<|some p):=(e.trans q).cell h2 fun h=>h;have m:w'.cell? (p1.add 3)=some (vu on):=(v.pure q).cell rfl;have l:¬F (p1.add 3).block:=fun h=>by rw[zG]at h;have:=hP.lt h;have:=d.at_size;omega
 have r:Pure w' w'.drew:=Ext.drew w';have keep:∀{X:NP} {a b:World},(a.cell? c2=some (vp<|some p)/\a.cell? (p1.add 3)=some (vu on))->Ext X a b->(∀b,X b->F b)->b.cell? c2=some (vp<|some p)/\b.cell? (p1.add 3)=some (vu on):=fun h E j=>⟨E.cell h.1 fun hh=>hd<|j _ hh,E.cell h.2 fun hh=>l<|j _ hh⟩;have u:=keep ⟨n,m⟩ r fun _ h=>h.elim;refine⟨fun w=>w.cell? c2=some (vp<|some p)/\w.cell? (p1.add 3)=some (vu on),u,?_⟩;rintro _ rfl;refine⟨some p,fun _ h=>h.1,on,fun _ h=>h.2,?_⟩;refine(p_O2 on _).mono ?_;rintro _ t ⟨rfl,f⟩;have y:=keep u f fun _ h=>h.elim;refine⟨_,rfl,y,f.keptP,?_⟩;refine(c_Fake p t (hP.pure<|((e.trans q).trans r).trans f) hok (s_O2 on) k a).mono ?_;rintro _ A ⟨r1,r2,rfl,h⟩;exact⟨r1,r2,rfl,h.2.elim Gd,h.2.elim fun F' h=>h.2.1.kept fun b x j=>x.elim,DoK.pre (r.trans f) h⟩;rintro _ t ⟨r1,r2,rfl,h⟩;exact⟨r1,r2,rfl,DoK.pre e h⟩
include hC h1 h2 hP hok hd in
def c_dish(o:Op):(SE.look (jLU c c1 c2) o.code=none->yD L G M o=jHK L) /\
  ∀v,SE.look (jLU c c1 c2) o.code=some v->∃(f:FuncId) (fs cs:Array Value),v=.func (.func f) fs cs/\(∀args w,(callFunc f args).run prog w=.ok (.enter f args) w)/\Calls prog f (fs++#[opv o]++cs) w0 (DoPost p F w0<|yD L G M o):=by
 have d0:=zIB hC h1 hP o
 have d1:=zIA h2 hP hok o
 have d2:=zHZ h2 hP hok o
 have d3:=zHY h2 hP hok o
 have t:=zHX hC h1 h2 hP hok o
 have x:=zHW hC h1 h2 hP hok o
 have m:=zHV hC h1 hP hok o
 have s:=zHU hC h1 hP hok o
 have q:=jQZ hC hP hok o
 have r:=zHT hC h1 h2 hP hok o
 have i:=zEN hC h1 h2 hP hok hd o
 have d:=zEM hC h1 h2 hP hok hd o
 generalize j:o.code=k
 unfold yD jLU
 rw[j]
 have step : ∀ (n : Int) (u : Value) (b : List (Int × Value)) (R a : Res), (∃ (f : FuncId) (fs cs : Array Value), u = .func (.func f) fs cs /\ (∀ args w, (callFunc f args).run prog w = .ok (.enter f args) w) /\ Calls prog f (fs ++ #[opv o] ++ cs) w0 (DoPost p F w0 R)) ->
   ((SE.look b k=none->a=jHK L)/\∀v,SE.look b k=some v->∃(f:FuncId) (fs cs:Array Value),v=.func (.func f) fs cs/\(∀args w,(callFunc f args).run prog w=.ok (.enter f args) w)/\Calls prog f (fs++#[opv o]++cs) w0 (DoPost p F w0 a)) ->
   ((SE.look ((n,u) ::b) k=none->(if k=n then R else a)=jHK L)/\∀v,SE.look ((n,u) ::b) k=some v->∃(f:FuncId) (fs cs:Array Value),v=.func (.func f) fs cs/\(∀args w,(callFunc f args).run prog w=.ok (.enter f args) w)/\Calls prog f (fs++#[opv o]++cs) w0 (DoPost p F w0<|if k=n then R else a)):=by
  intro n u b R a h l
  rw[SE.look]
  by_cases e:k=n
  rw[if_pos e.symm,if_pos e]
  exact⟨fun h=>(by cases h),fun v g=>by cases g;exact h⟩
  rw[if_neg fun y=>e y.symm,if_neg e]
  exact l
 refine step 0 _ _ _ _ ⟨_,_,_,rfl,call223,d0⟩ ?_
 refine step 1 _ _ _ _ ⟨_,_,_,rfl,call224,d1⟩ ?_
 refine step 2 _ _ _ _ ⟨_,_,_,rfl,call226,d2⟩ ?_
 refine step 3 _ _ _ _ ⟨_,_,_,rfl,call228,d3⟩ ?_
 refine step 4 _ _ _ _ ⟨_,_,_,rfl,call230,t⟩ ?_
 refine step 5 _ _ _ _ ⟨_,_,_,rfl,call233,x⟩ ?_
 refine step 6 _ _ _ _ ⟨_,_,_,rfl,call235,m⟩ ?_
 refine step 7 _ _ _ _ ⟨_,_,_,rfl,call237,s⟩ ?_
 refine step 8 _ _ _ _ ⟨_,_,_,rfl,call238,q⟩ ?_
 refine step 9 _ _ _ _ ⟨_,_,_,rfl,call239,r⟩ ?_
 refine step 10 _ _ _ _ ⟨_,_,_,rfl,call242,i⟩ ?_
 refine step 11 _ _ _ _ ⟨_,_,_,rfl,call246,d⟩ ?_
 exact⟨fun _=>rfl,fun v g=>by cases g⟩
end
def jKV{w0:World}{c p:Addr}{sg sm:Sl}{G M:List Int}(hC:CookS w0 c p sg sm G M):cl 163 #[vp<|some c] w0
  (fun e w'=>∃r:Option Nat,e=.returned (.map r)/\∃m c1 c2,r=some m/\IMap id w' m (jLU c c1 c2)/\Box w' c1 [vp<|some c] 239/\Box w' c2 [vp<|some p] 91/\m≠c1.block/\m≠c2.block/\w0.heap.size<=m/\w0.heap.size<=c1.block/\w0.heap.size<=c2.block/\Pure w0 w'):=by
 refine w_I4 _ w0 _ ?_
 intro p1 w1 n1
 have E1:Pure w0 w1:=Ext.new n1
 have B1:=Box.of_new n1
 refine⟨some c,B1.cell0,c,rfl,some p,(hC.pure E1).box.cell0,?_⟩
 intro a w2 n2
 have I:Pure w1 w2:=Ext.new n2
 have B:=Box.of_new n2
 refine⟨B.canW0<|by simp,?_⟩
 intro g b
 have O:Ext (·=a.block) w2 g:=by rw[b];exact Ext.setCell a _
 have y:Box g a [vp<|some p] 91:=by rw[b];exact B.set0
 clear b
 have z1:=n1.at_size
 have z2:=n2.at_size
 have s1:=E1.size
 have s2:=I.size
 have s3:=O.size
 have l1:=B1.lt
 have l2:=B.lt
 have f:=(B1.pure I).ext O (show ¬p1.block=a.block by omega)
 have n:Pure w0 g:=(E1.trans I).own (by omega) O
 intro p3 u n4
 have i:Pure g u:=Ext.new n4
 have z4:=n4.at_size
 have M0:IMap id u p3.block []:=IMap.of_new n4
 have put:∀{w:World} {M:List (Int×Value)} (k:Int) (v:Value),IMap id w p3.block M->SE.look M k=none->∃w',(Instr.mapUpdate 242 (.map<|some p3.block) (vi k) v).run prog w=.ok () w'/\IMap id w' p3.block (M++[(k,v)])/\Ext (·=p3.block) w w':=fun k v h hn=>h.put (P:=prog) (T:=242) (K:=3) underlying242 underlying3 hn v
 have⟨w5,r5,M5,X5⟩:=put 0 (.func (.func 223) #[] #[vp<|some p1]) M0 rfl
 refine⟨w5,r5,?_⟩
 have⟨w6,r6,M6,X6⟩:=put 1 (.func (.func 224) #[] #[vp<|some a]) M5 rfl
 refine⟨w6,r6,?_⟩
 have⟨w7,r7,M7,X7⟩:=put 2 (.func (.func 226) #[] #[vp<|some a]) M6 rfl
 refine⟨w7,r7,?_⟩
 have⟨w8,r8,M8,X8⟩:=put 3 (.func (.func 228) #[] #[vp<|some a]) M7 rfl
 refine⟨w8,r8,?_⟩
 have⟨w9,r9,M9,X9⟩:=put 4 (.func (.func 230) #[] #[vp<|some p1,vp<|some a]) M8 rfl
 refine⟨w9,r9,?_⟩
 have⟨L,S,Y,X10⟩:=put 5 (.func (.func 233) #[] #[vp<|some p1,vp<|some a]) M9 rfl
 refine⟨L,S,?_⟩
 have⟨E,F,s,U⟩:=put 6 (.func (.func 235) #[] #[vp<|some p1]) Y rfl
 refine⟨E,F,?_⟩
 have⟨d,J,q,D⟩:=put 7 (.func (.func 237) #[] #[vp<|some p1]) s rfl
 have X4:Ext (·=p3.block) u d:=((((((X5.trans X6).trans X7).trans X8).trans X9).trans X10).trans U).trans D
 have t:=(f.pure i).ext X4 (show ¬p1.block=p3.block by omega)
 refine⟨d,J,some c,t.cell0,?_⟩
 have⟨N,j,Q,x⟩:=put 8 (.func (.func 238) #[vp<|some c] #[]) q rfl
 refine⟨N,j,?_⟩
 have⟨o,H,z,A⟩:=put 9 (.func (.func 239) #[] #[vp<|some p1,vp<|some a]) Q rfl
 refine⟨o,H,?_⟩
 have⟨R,Z,V,X15⟩:=put 10 (.func (.func 242) #[] #[vp<|some p1,vp<|some a]) z rfl
 refine⟨R,Z,?_⟩
 have⟨C,r16,W,l⟩:=put 11 (.func (.func 246) #[] #[vp<|some p1,vp<|some a]) V rfl
 have X:=((X4.trans x).trans A).trans<|X15.trans l
 refine⟨C,r16,p3.block,p1,a,rfl,W,(f.pure i).ext X<|show ¬p1.block=p3.block by omega,(y.pure i).ext X<|show ¬a.block=p3.block by omega,by omega,by omega,by omega,by omega,by omega,(n.trans i).own (by omega) X⟩
structure RunS(w0:World)(H:NP)(w:World)(c p c1 c2:Addr)(m:Nat)(sg sm:Sl)(G M:List Int)(L:Pool)(F F1:NP):Prop where
 ck:CookS w c p sg sm G M
 mp:IMap id w m (jLU c c1 c2)
 b1:Box w c1 [vp<|some c] 239
 b2:Box w c2 [vp<|some p] 91
 pool:zD w p L F1
 fr:Ext F w0 w
 hs:Hst w0 H w H w
 oP:∀b,F1 b->(F b\/w0.heap.size<=b)/\¬H b
 oc:w0.heap.size<=c.block/\¬H c.block/\¬F1 c.block
 o1:w0.heap.size<=c1.block/\¬H c1.block/\¬F1 c1.block/\c1.block≠c.block
 o2:w0.heap.size<=c2.block/\¬H c2.block/\¬F1 c2.block/\c2.block≠c.block
 om:w0.heap.size<=m/\¬H m/\¬F1 m/\m≠c.block
 og:∀b,sg.blk b->w0.heap.size<=b/\¬H b/\¬F1 b/\b≠c.block
 os:∀b,sm.blk b->w0.heap.size<=b/\¬H b/\¬F1 b/\b≠c.block/\b≠c1.block/\b≠c2.block/\b≠m/\¬sg.blk b
section
variable {w0 w w':World} {H H':NP} {c p c1 c2:Addr} {m:Nat} {sg sm:Sl} {G M:List Int} {L L':Pool} {F F1 F2:NP}
def RunS.hst(h:RunS w0 H w c p c1 c2 m sg sm G M L F F1)(hs:Hst w0 H w H' w'):RunS w0 H' w' c p c1 c2 m sg sm G M L F F1:=by
 have xc:=hs.disj (G:=fun b=>zIO c sg sm b) fun b a=>⟨h.ck.lt a,by rcases a with rfl|a|a;exact h.oc.2.1;exact(h.og b a).2.1;exact(h.os b a).2.1⟩;have f:=hs.disj (G:=F1) fun b a=>⟨h.pool.lt a,(h.oP b a).2⟩;have e:=hs.disj (G:=(·=c1.block)) (fun b a=>by subst a;exact⟨h.b1.lt,h.o1.2.1⟩) _ rfl;have g:=hs.disj (G:=(·=c2.block)) (fun b a=>by subst a;exact⟨h.b2.lt,h.o2.2.1⟩) _ rfl;have d:=hs.disj (G:=(·=m)) (fun b a=>by subst a;exact⟨h.mp.lt,h.om.2.1⟩) _ rfl;exact⟨h.ck.ext hs.ext xc,h.mp.ext hs.ext d,h.b1.ext hs.ext e,h.b2.ext hs.ext g,h.pool.ext hs.ext f,h.fr.hst hs,hs.here,fun b a=>⟨(h.oP b a).1,f b a⟩,⟨h.oc.1,xc _<|.inl rfl,h.oc.2.2⟩,⟨h.o1.1,e,h.o1.2.2⟩,⟨h.o2.1,g,h.o2.2.2⟩,⟨h.om.1,d,h.om.2.2⟩,
  fun b a=>⟨(h.og b a).1,xc b<|.inr<|.inl a,(h.og b a).2.2⟩,fun b a=>⟨(h.os b a).1,xc b<|.inr<|.inr a,(h.os b a).2.2⟩⟩
def RunS.make(h:RunS w0 H w c p c1 c2 m sg sm G M L F F1)(hP:zD w' p L' F2)(E:Ext F1 w w')(e:∀b,F2 b->F1 b\/w.heap.size<=b):Kept H w w'/\RunS w0 H w' c p c1 c2 m sg sm G M L' F F2:=by
 have d:Kept H w w':=E.kept fun b a f=>(h.oP b f).2 a;have z:w0.heap.size<=w.heap.size:=h.fr.size;have nf:∀b,b<w.heap.size->¬F1 b->¬F2 b:=fun b a h1 h2=>(e b h2).elim h1 fun h3=>Om;refine⟨d,h.ck.ext E fun b a=>by rcases a with rfl|a|a;exact h.oc.2.2;exact(h.og b a).2.2.1;exact(h.os b a).2.2.1,h.mp.ext E h.om.2.2.1,h.b1.ext E h.o1.2.2.1,h.b2.ext E h.o2.2.2.1,hP,?_,h.hs.again d,fun b a=>?_,⟨h.oc.1,h.oc.2.1,nf _ h.ck.box.lt h.oc.2.2⟩,⟨h.o1.1,h.o1.2.1,nf _ h.b1.lt h.o1.2.2.1,h.o1.2.2.2⟩,⟨h.o2.1,h.o2.2.1,nf _ h.b2.lt h.o2.2.2.1,h.o2.2.2.2⟩,⟨h.om.1,h.om.2.1,nf _ h.mp.lt h.om.2.2.1,h.om.2.2.2⟩,
  fun b a=>⟨(h.og b a).1,(h.og b a).2.1,nf _ (h.ck.giv.lt a) (h.og b a).2.2.1,(h.og b a).2.2.2⟩,fun b a=>⟨(h.os b a).1,(h.os b a).2.1,nf _ (h.ck.made.lt a) (h.os b a).2.2.1,(h.os b a).2.2.2⟩⟩
 exact h.fr.trans' E fun i hi a=>(h.oP i a).1.elim id fun h=>Om;rcases e b a with h1|h1;exact h.oP b h1;exact⟨.inr Om,fun hh=>Oh<|h.hs.lt b hh⟩
def RunS.app(h:RunS w0 H w c p c1 c2 m sg sm G M L F F1){t q w1}(s:New w (.cells #[vi t] 73) q w1)(hn:M.length<=1000000):∃s1 j,(Builtin.append_ #[46,46] 46 #[sm.v,(Sl.mk (some q) 1 1).v]).run prog w1=.ok s1.v j/\Kept H w1 j/\zV j (c.add 2) /\
  RunS w0 H (j.setCell (c.add 2) s1.v) c p c1 c2 m sg s1 G (M++[t]) L F F1:=by
 have d:Pure w w1:=Ext.new s
 have⟨s1,j,hr,u,g,a⟩:=(h.ck.made.pure d).append (P:=prog) (ty:=46) (c:=1) jEX (r:=[vi t]) (Box.of_new s).row rfl rfl (by rw[zY];omega) (by rw[zY];simp[maxLen];omega)
 have o:Kept H w1 j:=g.kept fun b a hs=>(h.os b hs).2.1 a
 have k:=(h.ck.box.pure d).ext g fun hs=>(h.os _ hs).2.2.2.1 rfl
 have x:=d.size
 have y:=g.size
 have z:w0.heap.size<=w.heap.size:=h.fr.size
 have f:=Ext.setCell (w:=j) (c.add 2) s1.v
 rw[zG]at f
 have l:∀b,s1.blk b->w0.heap.size<=b/\¬H b/\¬F1 b/\b≠c.block/\b≠c1.block/\b≠c2.block/\b≠m/\¬sg.blk b:=fun b n=>by
  rcases a b n with h1|h1;exact h.os b h1;have a0:=h.ck.box.lt;have a1:=h.b1.lt;have a2:=h.b2.lt;have a3:=h.mp.lt;exact⟨Om,fun hh=>Oh<|h.hs.lt b hh,fun hh=>Oh<|h.pool.lt hh,Om,Om,Om,Om,fun hh=>Oh<|h.ck.giv.lt hh⟩
 refine⟨s1,j,hr,o,k.canW Sm,⟨k.set 2 s1.v,((h.ck.giv.pure d).ext g fun b a hs=>(h.os b hs).2.2.2.2.2.2.2 a).ext f fun b a e=>(h.og b a).2.2.2 e,?_⟩,((h.mp.pure d).ext g fun hs=>(h.os _ hs).2.2.2.2.2.2.1 rfl).ext f h.om.2.2.2,((h.b1.pure d).ext g fun hs=>(h.os _ hs).2.2.2.2.1 rfl).ext f h.o1.2.2.2,((h.b2.pure d).ext g fun hs=>(h.os _ hs).2.2.2.2.2.1 rfl).ext f h.o2.2.2.2,
  ((h.pool.pure d).ext g fun b a hs=>(h.os b hs).2.2.1 a).ext f fun b a e=>h.oc.2.2<|e▸a,?_,(h.hs.again<|d.keptP).again o |>.again (f.kept fun b a e=>h.oc.2.1<|e▸a),h.oP,h.oc,h.o1,h.o2,h.om,h.og,l⟩
 rw[show tmr (M++[t])=tmr M++[[vi t]] by simp[tmr]]
 exact u.ext f Gd
 exact((h.fr.thenPure d).trans' g fun i hi hs=>Oh<|(h.os i hs).1).trans' f fun i hi e=>Oh h.oc.1
end
structure RanK(w0:World)(p:Addr)(F:NP)(R:List Int×Int×Pool)(s:Sl)(r2:Int)(w':World):Prop where
 err:r2=R.2.1
 pool:∃F',zD w' p R.2.2 F'/\(∀b,F' b->F b\/w0.heap.size<=b)/\∀b,s.blk b->¬F' b
 rows:Rws w' 73 1 s (tmr R.1)
 own:∀b,s.blk b->w0.heap.size<=b
 fr:Ext F w0 w'
def RunS.done{w0 w H c p c1 c2 m sg sm G M L F F1}(h:RunS w0 H w c p c1 c2 m sg sm G M L F F1){R:List Int×Int×Pool}{e}(d:R=(M,e,L)):RanK w0 p F R sm e w:=by
 subst d;exact⟨rfl,⟨F1,h.pool,fun b a=>(h.oP b a).1,fun b a=>(h.os b a).2.2.1⟩,h.ck.made,fun b a=>(h.os b a).1,h.fr⟩
def jQN{Sl0:NP}(p k:Addr)(sl:Sl)(l:List Op)(w0:World){L:Pool}{G:List Int}{S:List Way}{F FK:NP}(hW:Wf L)(hP:zD w0 p L F)(hK:qC w0 k p G S FK)(hl:Lst Sl0 w0 5 sl (l.map oK))(hS0:∀b,Sl0 b->b<w0.heap.size/\¬ F b)(hG:G.length<=1000000)(hn:l.length<=1000):
  cl 108 #[vp<|some p,vp<|some k,sl.v] w0<|XN fun s r2 w'=>RanK w0 p F (zZ L G [] l) s r2 w':=by
 refine w_G2 _ _ _ w0 _ ?_
 refine(jEI k p w0 hK hG).mono ?_
 rintro _ w1 ⟨sg,rfl,u⟩
 refine⟨sg,rfl,u.kept,?_⟩
 intro c w2 n2
 have U:Pure w1 w2:=Ext.new n2
 have B2:=Box.of_new n2
 have E:∀b,¬Sl.nil.blk b:=fun b g=>by have⟨a,h,_⟩:=g;cases h
 have C2:CookS w2 c p sg Sl.nil G []:=⟨B2,u.rows.pure U,Rws.nil _ _ _⟩
 refine(jKV C2).mono ?_
 rintro _ w3 ⟨_,rfl,m,c1,c2,rfl,hM,W,hb2,hm1,hm2,z1,z2,z3,K⟩
 refine⟨_,rfl,K.keptP,?_⟩
 have r:Pure w0 w3:=(u.pure.trans U).trans K
 have q0:=u.pure.size
 have q1:=n2.at_size
 have q2:=U.size
 have q3:=K.size
 have q4:=B2.lt
 have R3:RunS w0 None w3 c p c1 c2 m sg Sl.nil G [] L F F:=by
  refine⟨C2.pure K,hM,W,hb2,hP.pure r,r.pure,(Hst.start w0).again r.keptP,fun b g=>⟨.inl g,fun h=>h⟩,⟨Om,fun h=>h,fun h=>Oh<|hP.lt h⟩,⟨Om,fun h=>h,fun h=>Oh<|hP.lt h,Om⟩,⟨Om,fun h=>h,fun h=>Oh<|hP.lt h,Om⟩,⟨Om,fun h=>h,fun h=>Oh<|hP.lt h,Om⟩,fun b g=>⟨u.own b g,fun h=>h,fun h=>Oi (hP.lt h)<|u.own b g,?_⟩,fun b g=>(E b g).elim⟩;have:=u.rows.lt g;omega
 refine⟨fun x H w=>∃(j:Nat) (M:List Int) (B:Pool) (sm:Sl) (F1:NP),x=j/\j<=l.length/\M.length=j/\Wf B/\zZ L G [] l=zZ B G M (l.drop j)/\RunS w0 H w c p c1 c2 m sg sm G M B F F1,fun x _=>((l.length:Int)-x).toNat,⟨0,[],L,Sl.nil,F,rfl,Nat.zero_le _,rfl,hW,rfl,R3⟩,?_⟩
 rintro _ H w _ ⟨j,M,B,sm,F1,rfl,hj,V,C,d,R⟩
 unfold m_G2_l1
 have I:sl.len=l.length:=by rw[hl.len];simp
 refine⟨fun h=>?_,fun h=>?_⟩
 have e:=vR I h
 have⟨a,X,O,J⟩:=hl.nth e
 have jNA:Row w a (oK l[j]):=R.fr.row J (hS0 _ O).2
 refine⟨a,X,l[j].code,l[j].a,l[j].b,l[j].num,l[j].text,jNA,?_⟩
 intro H1 w5 hs5
 have i:=R.hst hs5
 rw[jDU e]at d
 have A:=C.ok
 have n:=c_dish i.ck i.b1.cell0 i.b2.cell0 i.pool A i.o2.2.2.1 l[j]
 generalize l[j]=o at *
 rcases i.mp.get (P:=prog) (T:=242) underlying242 underlying3 (zeroValue245 _) o.code true with⟨Z,Q⟩|⟨v,Z,Q⟩
 refine⟨_,_,Q,Br.t rfl ⟨sm,i.ck.box.cell rfl,?_⟩⟩
 rw[n.1 Z]at d
 exact i.done d
 obtain⟨f1,fs,cs,rfl,hf,hc⟩:=n.2 v Z
 refine⟨_,_,Q,Br.f rfl ⟨f1,fs,cs,rfl,hf,?_⟩⟩
 refine hc.mono ?_
 rintro _ w6 ⟨r3,r4,rfl,hr,F2,Y,X2,hF2⟩
 have⟨k6,y⟩:=i.make Y X2 hF2
 have z:=jCF C G M o
 generalize yD B G M o=D at *
 have⟨d1,d2,L2⟩:=D
 simp only[Prod.mk.injEq]at hr
 obtain⟨rfl,rfl⟩:=hr
 simp only at d y z
 refine⟨_,_,rfl,k6,fun h=>?_,fun h=>?_⟩
 rw[if_pos<|by simpa using h]at d
 exact⟨sm,y.ck.box.cell rfl,y.done d⟩
 rw[if_neg<|by simpa using h]at d
 refine⟨sm,y.ck.box.cell rfl,?_⟩
 intro q w7 n7
 have⟨s1,w8,N,k8,cw,R9⟩:=y.app n7 Om
 refine⟨s1,w8,N,k8,cw,by rw[zG];exact y.oc.2.1,?_⟩
 rintro _ rfl
 rw[zQ e Om]
 exact⟨⟨j+1,M++[_],L2,s1,F2,rfl,e,by simp[V],z,d,R9⟩,uR e⟩
 have hge:=yI I hj h
 subst hge
 refine⟨sm,R.ck.box.cell rfl,R.done ?_⟩
 rw[d,drop_length];rfl
def jVT{p k sl n}(h:sl.len=n):s_F2 (some p) (some k) sl=(if n>256 then 6 else if n=0 then 3 else 0):=by
 unfold s_F2;rw[h];simp only[Option.isNone_some,Bool.or_self,cond_false];by_cases h1:n>256;grind;grind
abbrev EvalK(w0:World)(p:Addr)(F:NP)(R:Int×Int×Int×Pool)(r1 r2 r3:Int)(w':World):Prop:=(r1,r2,r3)=(R.1,R.2.1,R.2.2.1)/\∃F',zD w' p R.2.2.2 F'/\Ext F w0 w'/\∀b,F' b->F b\/w0.heap.size<=b
section
variable {Sl0:NP} (p k:Addr) (sl:Sl) (l:List Op) (w0:World) {L:Pool} {G:List Int} {S:List Way} {F FK:NP} (hW:Wf L) (hP:zD w0 p L F) (hK:qC w0 k p G S FK) (hl:Lst Sl0 w0 5 sl (l.map oK)) (hS0:∀b,Sl0 b->b<w0.heap.size/\¬F b) (hG:G.length<=1000000) (hn:l.length<=1000)
include hW hP hK hl hS0 hG hn
def jNM:cl 52 #[vp<|some p,vp<|some k,sl.v] w0 (XJ fun r1 r2 r3 w'=>EvalK w0 p F (zN L G l) r1 r2 r3 w'):=by
 refine w_J4 _ _ _ w0 (EvalK w0 p F<|zN L G l) ?_;unfold m_J4;have y:sl.len=l.length:=by rw[hl.len];simp
 rw[jVT y];unfold zN;by_cases h1:l.length>256
 .rw[if_pos h1,if_pos h1];exact Br.t rfl fun u d=>⟨rfl,F,hP.pure d.first,d.first.pure,fun b i=>.inl i⟩
 rw[if_neg h1,if_neg h1];by_cases h2:l.length=0
 .rw[if_pos h2,if_pos h2];exact Br.t rfl fun u d=>⟨rfl,F,hP.pure d.first,d.first.pure,fun b i=>.inl i⟩
 rw[if_neg h2,if_neg h2];refine Br.f rfl fun u d=>?_;have j:=d.first;refine(jQN p k sl l u hW (hP.pure j) (hK.pure j) (hl.pure j) (fun b i=>⟨Oi ((hS0 b i).1) j.size,(hS0 b i).2⟩) hG hn).mono ?_;rintro _ A ⟨s,r2,rfl,H⟩;have⟨C,⟨F',o,r,D⟩,c,B,X⟩:=H;refine⟨s,r2,rfl,X.kept fun b i=>i.elim,?_⟩;have g:=jCT G l L [];have n:∃F',zD A p (zZ L G [] l).2.2 F'/\Ext F w0 A/\∀b,F' b->F b\/w0.heap.size<=b:=⟨F',o,j.pure.trans X,fun b i=>(r b i).imp_right fun h=>Oh j.size⟩;generalize zZ L G [] l=R at *;have⟨M,e,J⟩:=R;simp only at C c g n o;subst C;simp only[length_nil,Nat.zero_add]at g;have x:s.len=M.length:=by rw[c.len,zY]
 refine⟨fun h=>?_,fun h=>?_⟩
 .grind
 .have z:r2=0:=by simpa using h
  rw[if_neg<|by simpa using z];have q:=g.2 z;have m:M≠[]:=fun e=>by rw[e]at q;simp at q;omega
  rw[show IntKind.i64.wrap ((s.len:Int)-1)=(((l.length-1:Nat)):Int) by rw[x,q,IntWalk.i64_in _ Om];omega];have w:atM M ((l.length-1:Nat):Int)=some (M.getLast m):=by
   rw[jBO Om Om];simp[getLast_eq_getElem,q]
  have⟨a,I,E⟩:=jIU c w;refine⟨a,I,_,E,?_,n⟩;rw[getLast?_eq_some_getLast m];rfl
end
end Go.Proofs
end
section
namespace Go.Proofs
def jFN(L G M o):(yD L G M o).2.2.length<=L.length+1:=
 jID (fun r=>r.2.2.length<=L.length+1) (fun _ _=>Nat.le_succ _) (fun n=>jPA L n) G M o
def jLH(G):∀(l:List Op) (L:Pool) (M:List Int),(zZ L G M l).2.2.length<=L.length+l.length
 |[],_,_=>Nat.le_refl _
 |o :: os,L,M=>by
  rw[List.length_cons];have:=jFN L G M o;unfold zZ;split;grind;have:=jLH G os (yD L G M o).2.2<|M++[(yD L G M o).1];omega
end Go.Proofs
end
section
open Go Go.SE List
namespace Go.Proofs
structure Rl(L M:Pool)(s t:Int):Prop where
 l:inP L s=true
 m:inP M t=true
 e:zA L s=zA M t
structure NR(L M:Pool)(n m:Node):Prop where
 k:n.kind=m.kind
 f:n.frm=m.frm
 t:n.to=m.to
 u:n.num=m.num
 x:n.text=m.text
 a:n.a=0/\m.a=0\/Rl L M n.a m.a
 b:n.b=0/\m.b=0\/Rl L M n.b m.b
structure LR(L M:Pool)(A B:List Int):Prop where
 l:∀a∈A,inP L a=true
 m:∀b∈B,inP M b=true
 e:A.map (zA L)=B.map (zA M)
def jIB(L):inP L 0=false:=Bool.eq_false_iff.2 fun h=>Oh<|(zI.1 h).1
section
variable {L M X Y:Pool} {n m:Node} {s t:Int} {A B G K:List Int} (hL:Wf L) (hM:Wf M)
def Rl.app(h:Rl L M s t)(b:Wf (L++X))(a:Wf (M++Y)):Rl (L++X) (M++Y) s t:=
 ⟨uD h.l,uD h.m,by rw[uG b _ s rfl h.l,uG a _ t rfl h.m,h.e]⟩
def LR.app(h:LR L M A B)(g:Wf (L++X))(f:Wf (M++Y)):LR (L++X) (M++Y) A B:=
 ⟨fun a d=>uD<|h.l a d,fun b c=>uD<|h.m b c,by
  rw[map_congr_left fun a d=>uG g _ a rfl (h.l a d),map_congr_left fun b c=>uG f _ b rfl (h.m b c),h.e]⟩
def LR.snoc(h:LR L M A B)(r:Rl L M s t):LR L M (A++[s]) (B++[t]):=
 ⟨fun a d=>by rcases mem_append.1 d with d|d;exact h.l a d;simp at d;rw[d];exact r.l,
 fun b c=>by rcases mem_append.1 c with c|c;exact h.m b c;simp at c;rw[c];exact r.m,by simp[h.e,r.e]⟩
def LR.len(h:LR L M A B):A.length=B.length:=by have:=congrArg List.length h.e;simpa using this
def LR.at_(h:LR L M A B){i}(b:i<A.length)(a:i<B.length):Rl L M A[i] B[i]:=
 ⟨h.l _<|getElem_mem b,h.m _<|getElem_mem a,by
  have:=congrArg (fun l=>l[i]?) h.e;simpa[b,a]using this⟩
def LR.nil:LR L M [] []:=⟨Sm,Sm,rfl⟩
def LR.atM(h:LR L M A B)(i):(atM A i=none/\atM B i=none)\/∃a b,atM A i=some a/\atM B i=some b/\Rl L M a b:=by
 have d:=h.len;by_cases c:0<=i/\i.toNat<A.length;exact .inr ⟨_,_,jBO c.1 c.2,jBO c.1 Om,h.at_ c.2 Om⟩;exact .inl ⟨jBK Om,jBK Om⟩
include hL hM in
def LR.addT(h:LR L M G K)(r:Rl L M s t):LR L M (addT G s) (addT K t):=by
 have:s∈G↔t∈K:=by
  constructor;intro hs;obtain⟨i,hi,rfl⟩:=getElem_of_mem hs;have a:i<K.length:=Oh h.len;have r2:=h.at_ hi a;rw[yF hM _ t K[i] rfl r.m r2.m (r.e.symm.trans r2.e)];exact getElem_mem a;intro ht;obtain⟨i,hi,rfl⟩:=getElem_of_mem ht;have a:i<G.length:=Oh h.len;have r2:=h.at_ a hi;rw[yF hL _ s G[i] rfl r.l r2.l (r.e.trans r2.e.symm)];exact getElem_mem a
 unfold Proofs.addT;by_cases hs:s∈G;grind;rw[if_neg hs,if_neg fun h=>hs<|this.2 h];exact h.snoc r
def NR.zero:NR L M xL xL:=⟨rfl,rfl,rfl,rfl,rfl,.inl ⟨rfl,rfl⟩,.inl ⟨rfl,rfl⟩⟩
include hL hM
def Rl.node(r:Rl L M s t):NR L M (nodeOf L s) (nodeOf M t):=by
 have⟨k,f,b,u,x,a⟩:=jAE hL hM r.l r.m r.e;have⟨_,a1,a2,_,a3,_⟩:=hL.node r.l;have⟨_,b1,b2,_,b3,_⟩:=hM.node r.m;unfold zB at a a3 b3;rw[<-k]at a b1 b2 b3;refine⟨k,f,b,u,x,?_,?_⟩
 all_goals rcases qX (nodeOf L s).kind with e|e|e<;>rw[e]at a a1 a2 a3 b1 b2 b3<;>simp at a a1 a2 a3 b1 b2 b3
 .exact .inl ⟨a1,b1⟩
 .exact .inr ⟨a3.1,b3.1,a⟩
 .exact .inr ⟨a3.1.1,b3.1.1,a.1⟩
 .exact .inl ⟨a2,b2⟩
 .exact .inl ⟨a2,b2⟩
 .exact .inr ⟨a3.2.1,b3.2.1,a.2⟩
def LR.nodeAt(h:LR L M A B)(i):NR L M (nodeAt L A i) (nodeAt M B i):=by
 unfold Proofs.nodeAt;rcases h.atM i with⟨c,d⟩|⟨a,b,c,d,r⟩;rw[c,d];exact NR.zero;rw[c,d];exact r.node hL hM
omit hL hM in
def NR.kids{α:Type}{φ ψ:Int->α}(r:NR L M n m)(d:φ n.a=ψ m.a)(c:φ n.b=ψ m.b):(zB n).map φ=(zB m).map ψ:=by
 unfold zB;rw[map_take,map_take,r.k];simp[d,c]
def NR.check(r:NR L M n m):check L n=check M m:=by
 have c:∀{a b:Int},a=0/\b=0\/Rl L M a b->(a !=0)=(b !=0)/\inP L a=inP M b/\sizeOf L a=sizeOf M b/\depthOf L a=depthOf M b:=fun {a b} h=>by
  rcases h with⟨rfl,rfl⟩|r;have h1:=jIB L;have h2:=jIB M;refine⟨rfl,h1.trans h2.symm,?_,?_⟩;unfold sizeOf;rw[yC h1,yC h2];unfold depthOf;rw[yC h1,yC h2];have h1:=(zI.1 r.l).1;have h2:=(zI.1 r.m).1;have⟨q1,q2⟩:=jOC hL hM _ a b rfl r.l r.m r.e;exact⟨by rw[bne_iff_ne.2 Om,bne_iff_ne.2 Om],r.l.trans r.m.symm,q1,q2⟩
 have⟨a1,a2,a3,a4⟩:=c r.a;have⟨b1,b2,b3,b4⟩:=c r.b;have g:=r.kids a2 b2;have i:=r.kids a3 b3;have q:=r.kids a4 b4;have p1:zJ n=zJ m:=by unfold zJ;rw[r.k,r.f,r.t,r.u,r.x]
 have o:zM (shapeOf m.kind) n=zM (shapeOf m.kind) m:=by unfold zM;rw[r.f,r.t,r.x]
 have j:∀(l:List Int) (P:Pool),l.any (fun t=>!inP P t)=(l.map<|inP P).any (!·):=fun l P=>by rw[any_map];rfl
 have p:∀(l:List Int) (P:Pool),l.foldl (fun d k=>max d<|depthOf P k) 0=(l.map<|depthOf P).foldl max 0:=fun l P=>by rw[foldl_map]
 unfold Proofs.check;simp only[j,p,g,i,q,p1,o,a1,b1,r.k]
omit hL hM in
def jOY(a:(Proofs.check L n).2.2=0)(b:L.length<65536):(make L n).2.1=0:=by
 unfold make;simp only;rw[if_neg<|by simpa using a];split;rfl;rw[if_neg Om]
def RS(r1 r2:Res):Prop:=r1.2.1=r2.2.1/\(r1.2.1=0->Rl r1.2.2 r2.2.2 r1.1 r2.1)
def NR.make(r:NR L M n m)(j:L.length<65536)(i:M.length<65536):RS (make L n) (make M m):=by
 have g:=r.check hL hM;by_cases h:(Proofs.check L n).2.2=0;have h1:=jOY h j;have h2:=jOY (g▸h) i;refine⟨h1.trans h2.symm,fun _=>?_⟩;have⟨a1,a2,_⟩:=xD h1;have⟨b1,b2,_⟩:=xD h2;have d:=uM hL n;have c:=uM hM m;refine⟨a1,b1,?_⟩;rw[zU d a1,zU c b1,a2,b2,r.k,r.f,r.t,r.u,r.x];congr 1;have⟨X,l⟩:=yO L n;have⟨Y,o⟩:=yO M m;rw[l]at d|-;rw[o]at c|-;have key:∀{a b:Int},a=0/\b=0\/Rl L M a b->zA (L++X) a=zA (M++Y) b:=fun {a b} h=>by
  rcases h with⟨rfl,rfl⟩|r;rw[jDO<|jIB _,jDO<|jIB _];exact(r.app d c).e
 exact r.kids (key r.a)<|key r.b;have h1:Proofs.make L n=(0,(Proofs.check L n).2.2,L):=by unfold Proofs.make;simp only;rw[if_pos h]
 have h2:Proofs.make M m=(0,(Proofs.check L n).2.2,M):=by unfold Proofs.make;simp only;rw[<-g,if_pos h]
 rw[h1,h2];exact⟨rfl,fun p=>absurd p h⟩
omit hL hM in
def RS.no:RS (jHK L) (jHK M):=⟨rfl,fun h=>by simp[jHK]at h⟩
def jUQ(v:LR L M G K)(i:LR L M A B)(o)(n:L.length<65536)(m:M.length<65536):RS (yD L G A o) (yD M K B o):=by
 have z:∀{x:Int},(x=0/\x=0\/Rl L M x x)\/x≠0:=fun {x}=>by by_cases h:x=0;exact .inl<|.inl ⟨h,h⟩;exact .inr h
 have key:∀mk:Int->Int->Node,(∀k a b,Rl L M a b->NR L M (mk k a) (mk k b))->RS (vM L A o mk) (vM M B o mk):=fun mk q=>by
  unfold vM;have g:=i.nodeAt hL hM o.b;rcases i.atM o.a with⟨c,d⟩|⟨a,b,c,d,r⟩;rw[c,d];exact RS.no;rw[c,d];simp only;rw[g.k,g.f];split;exact(q _ a b r).make hL hM n m;exact RS.no
 have j:∀s,RS (yJ L A o s)<|yJ M B o s:=fun s=>by
  unfold yJ;have g:=i.nodeAt hL hM o.a;rw[g.k];split;rename_i p;refine⟨rfl,fun _=>?_⟩;have e:(Proofs.nodeAt L A o.a).kind=4:=g.k.trans p;have:∃a b,atM A o.a=some a/\atM B o.a=some b/\Rl L M a b:=by
   rcases i.atM o.a with⟨c,d⟩|h;rw[jBG c]at e;simp[xL]at e;exact h
  have⟨a,b,c,d,r⟩:=this;have u:Proofs.nodeAt L A o.a=nodeOf L a:=by unfold Proofs.nodeAt;rw[c]
  have t:Proofs.nodeAt M B o.a=nodeOf M b:=by unfold Proofs.nodeAt;rw[d]
  rw[u]at g e|-;rw[t]at g p|-;have ka:=jPD hL r.l e;have w:=(zI.1 ka.1.1).1;have D:=(zI.1 ka.2.1).1;cases s;exact g.a.resolve_left (fun h=>by omega);exact g.b.resolve_left (fun h=>by omega);exact RS.no
 rcases(show o.code=0\/o.code=1\/o.code=2\/o.code=3\/o.code=4\/o.code=5\/o.code=6\/o.code=7\/o.code=8\/o.code=9\/o.code=10\/o.code=11\/(o.code<0\/11<o.code) by omega)with h|h|h|h|h|h|h|h|h|h|h|h|h;rw[zDY h,zDY h];unfold uN;rcases v.atM o.a with⟨c,d⟩|⟨a,b,c,d,r⟩<;>rw[c,d];exact RS.no;exact⟨rfl,fun _=>r⟩;rw[zDX h,zDX h];exact NR.make hL hM ⟨rfl,rfl,rfl,rfl,rfl,.inl ⟨rfl,rfl⟩,.inl ⟨rfl,rfl⟩⟩ n m;rw[zDW h,zDW h];exact NR.make hL hM ⟨rfl,rfl,rfl,rfl,rfl,.inl ⟨rfl,rfl⟩,.inl ⟨rfl,rfl⟩⟩ n m;rw[zDV h,zDV h];exact NR.make hL hM ⟨rfl,rfl,rfl,rfl,rfl,.inl ⟨rfl,rfl⟩,.inl ⟨rfl,rfl⟩⟩ n m;rw[jWT h,jWT h];unfold jBL;rcases i.atM o.a with⟨c,d⟩|⟨a,b,c,d,r⟩<;>rw[c,d];exact RS.no;simp only;rcases i.atM o.b with⟨c,d⟩|⟨E,C,c,d,y⟩<;>rw[c,d];exact RS.no;exact NR.make hL hM ⟨rfl,rfl,rfl,rfl,rfl,.inr r,.inr y⟩ n m;rw[jZY h,jZY h];unfold jCB;rcases i.atM o.a with⟨c,d⟩|⟨a,b,c,d,r⟩<;>rw[c,d];exact RS.no;exact NR.make hL hM ⟨rfl,rfl,rfl,rfl,rfl,.inr r,.inl ⟨rfl,rfl⟩⟩ n m;rw[jZX h,jZX h];exact j false;rw[jZW h,jZW h];exact j true;rw[jWS h,jWS h];unfold xA;have g:=i.nodeAt hL hM o.a;rw[g.k];split;rename_i p;refine⟨rfl,fun _=>?_⟩;have e:qO (Proofs.nodeAt L A o.a).kind=true:=by rw[g.k];exact p
 have:∃a b,atM A o.a=some a/\atM B o.a=some b/\Rl L M a b:=by
  rcases i.atM o.a with⟨c,d⟩|h;rw[jBG c]at e;cases e;exact h
 have⟨a,b,c,d,r⟩:=this;have u:Proofs.nodeAt L A o.a=nodeOf L a:=by unfold Proofs.nodeAt;rw[c]
 have t:Proofs.nodeAt M B o.a=nodeOf M b:=by unfold Proofs.nodeAt;rw[d]
 rw[u]at g e|-;rw[t]at g p|-;have w:=(zI.1 (jWK hL r.l e).1).1;exact g.a.resolve_left (fun h=>by omega);exact RS.no;rw[jWR h,jWR h];exact key _ fun k a b r=>⟨rfl,rfl,rfl,rfl,rfl,.inr r,.inl ⟨rfl,rfl⟩⟩;rw[jLT h,jLT h];exact key _ fun k a b r=>⟨rfl,rfl,rfl,rfl,rfl,.inr r,.inl ⟨rfl,rfl⟩⟩;rw[jLS h,jLS h];exact key _ fun k a b r=>⟨rfl,rfl,rfl,rfl,rfl,.inr r,.inl ⟨rfl,rfl⟩⟩;rw[jIC h,jIC h];exact RS.no
end
def jLW(q):∀(l:List Int) (L:Pool) (own:Int->Int),(zS q l L own).1.length<=L.length+l.length
 |[],L,_=>Nat.le_refl _
 |z :: l,L,own=>by
  obtain⟨x,e,c,hm⟩:∃x e c,make L { nodeOf q z with a:=own (nodeOf q z).a,b:=own (nodeOf q z).b }=(x,e,c):=⟨_,_,_,rfl⟩;have h1:=jFI L { nodeOf q z with a:=own (nodeOf q z).a,b:=own (nodeOf q z).b };rw[hm]at h1;rw[qA q z l L own rfl hm,length_cons];simp only at h1;split;simp only;omega;have:=jLW q l c fun y=>if y=z then x else own y;omega
def jGF:∀(l:List Op) {L M:Pool} {G K A B:List Int},Wf L->Wf M->LR L M G K->LR L M A B->L.length+l.length<=65536->M.length+l.length<=65536 ->
  (zZ L G A l).2.1=(zZ M K B l).2.1/\(zZ L G A l).1.length=(zZ M K B l).1.length/\LR (zZ L G A l).2.2 (zZ M K B l).2.2 G K/\((zZ L G A l).2.1=0->LR (zZ L G A l).2.2 (zZ M K B l).2.2 (zZ L G A l).1 (zZ M K B l).1)
 |[],_,_,_,_,_,_,_,_,f,a,_,_=>⟨rfl,a.len,f,fun _=>a⟩
 |o :: l,L,M,G,K,A,B,hL,hM,f,a,n,m=>by
  rw[length_cons]at n m;have⟨e,r⟩:=jUQ hL hM f a o Om Om;have q:=jFN L G A o;have p:=jFN M K B o;have d:=jCF hL G A o;have c:=jCF hM K B o;have⟨X,j⟩:=tV L G A o;have⟨Y,k⟩:=tV M K B o;have b:LR (yD L G A o).2.2 (yD M K B o).2.2 G K:=by rw[j]at d|-;rw[k]at c|-;exact f.app d c
  have g:LR (yD L G A o).2.2 (yD M K B o).2.2 A B:=by rw[j]at d|-;rw[k]at c|-;exact a.app d c
  unfold zZ;rw[<-e];split;rename_i i;exact⟨rfl,a.len,b,fun h=>absurd h i⟩;rename_i i;exact jGF l d c b (g.snoc<|r<|Classical.byContradiction i) Om Om
section
variable {L M:Pool} {s t:Int} {G K:List Int} (hL:Wf L) (hM:Wf M)
include hL hM
def jKD(d:LR L M G K)(l)(h:L.length+l.length<=65536)(e:M.length+l.length<=65536):
  (zN L G l).2.1=(zN M K l).2.1/\(zN L G l).2.2.1=(zN M K l).2.2.1/\LR (zN L G l).2.2.2 (zN M K l).2.2.2 G K/\((zN L G l).2.1=0->Rl (zN L G l).2.2.2 (zN M K l).2.2.2 (zN L G l).1 (zN M K l).1):=by
 have⟨b,c,k,g⟩:=jGF l hL hM d LR.nil h e
 have f:=jCT G l L []
 unfold zN
 by_cases h1:l.length>256
 grind
 rw[if_neg h1,if_neg h1]
 by_cases h2:l.length=0
 grind
 rw[if_neg h2,if_neg h2,<-b]
 by_cases h3:(zZ L G [] l).2.1≠0
 grind
 rw[if_neg h3,if_neg h3]
 have h3:=Classical.byContradiction h3
 have j:=g h3
 have a:=f.2 h3
 rw[length_nil,Nat.zero_add]at a
 refine⟨rfl,rfl,k,fun _=>?_⟩
 simp only
 generalize (zZ L G [] l).1=A at *
 generalize (zZ M K [] l).1=B at *
 have hB:B.length=l.length:=by rw[<-c,a]
 rw[getLast?_eq_getElem?,getLast?_eq_getElem?,getElem?_eq_getElem Om,getElem?_eq_getElem Om]
 simp only[Option.getD_some]
 have:=j.at_ (i:=A.length-1) Om Om
 simpa[a,hB]using this
def zDS(r:Rl L M s t):jAN L s=jAN M t:=by
 unfold jAN;rw[if_pos r.l,if_pos r.m,jDQ hL hM r.l r.m r.e]
omit hM in
def jAO{q}(a:Wf q){t}(ht:inP q t=true)(d:L.length+q.length<=65536):(vD L q t).2.1=0/\(vD L q t).2.2.length<=L.length+q.length:=by
 have e:=uH a t;have b:=jLW q (subs q t) L fun _=>0;rcases jFQ a (subs q t) [] L (fun _=>0) (Cp.start hL) (fun z c=>uU a c) (xB a t)with⟨h,_⟩|⟨_,h⟩;unfold vD;rw[if_pos ht];simp only;rw[if_neg (by rw[h];simp)];exact⟨rfl,Sy⟩;exact absurd Om h
end
def jLB(n):1<=(vC n).length:=by rw[vC];split<;>simp
def zHE(n a b f):1<=(Fld.bytes n a b f).length:=by
 cases f<;>first|exact jLB _|(show 1<=(vP n.text).length;unfold vP;rw[length_append];have:=jLB n.text.size;omega)
def jOW{L}(d:Wf L)(seen){t}(ht:inP L t=true):2<=(yB L seen t).length:=by
 have g:=jBF d ht;have c:∃f l,qL (nodeOf L t).kind=f ::l:=by
  unfold qL;rcases(show(nodeOf L t).kind=1\/(nodeOf L t).kind=2\/(nodeOf L t).kind=3\/(nodeOf L t).kind=4\/(nodeOf L t).kind=5\/(nodeOf L t).kind=6\/(nodeOf L t).kind=7\/(nodeOf L t).kind=8\/(nodeOf L t).kind=9 by omega)with e|e|e|e|e|e|e|e|e<;>rw[e]<;>exact⟨_,_,rfl⟩
 have⟨f,l,e⟩:=c;have:=zHE (nodeOf L t) (posOf seen (nodeOf L t).a) (posOf seen (nodeOf L t).b) f;unfold yB;rw[e,flatMap_cons,length_cons,length_append];omega
def jGV{L}(a:Wf L):∀(l seen:List Int),(∀t∈l,inP L t=true)->2*l.length<=(textFrom L seen l).length
 |[],_,_=>Sm
 |t :: l,seen,h=>by
  have h1:=jOW a seen<|h t Sm;have h2:=jGV a l (seen++[t]) Gd;rw[textFrom,length_append,length_cons];omega
def jCU{bs q}(h:(zW bs).1=some q):2*q.length<=bs.length:=by
 unfold zW at h;split at h;cases h;split at h;cases h;have⟨b,_,_,c,_⟩:=jTW bs.length [] ⟨0,0,0⟩ [] q Wf.nil yU.nil rfl rfl (Nat.zero_le _) (Nat.le_refl _) (by simp[jHJ,textFrom]) h;have:=jGV b (jHJ q.length) [] fun z a=>zI.2<|jHY.1 a;rw[<-c,jHZ]at this;exact this
section
variable {L M:Pool} (hL:Wf L) (hM:Wf M)
include hL
def zEA(bs)(d:2*L.length+bs.length<=131072):2*(qY L bs).2.2.2.length<=2*L.length+bs.length:=by
 unfold qY;split;simp only;omega;rename_i q a;have h2:=jCU a;have⟨b,_,c,_,_⟩:=uX a;have:=(jAO hL b c Om).2;simp only;omega
include hM
def zDZ(bs)(j:2*L.length+bs.length<=131072)(i:2*M.length+bs.length<=131072):(qY L bs).2.1=(qY M bs).2.1/\((qY L bs).2.1=0->Rl (qY L bs).2.2.2 (qY M bs).2.2.2 (qY L bs).1 (qY M bs).1):=by
 unfold qY;split;rename_i e;exact⟨rfl,fun h=>absurd h<|xN e⟩;rename_i q e;have h2:=jCU e;have⟨c,_,d,_,_⟩:=uX e;have a:=(jAO hL c d Om).1;have b:=(jAO hM c d Om).1;refine⟨a.trans b.symm,fun _=>?_⟩;have⟨_,g,f⟩:=xW hL c d a;have⟨_,d2,d3⟩:=xW hM c d b;exact⟨g,d2,f.trans d3.symm⟩
end
def jUS{L n}(c:zJ n=0)(i:(shapeOf n.kind).kids<1->n.a=0)(g:(shapeOf n.kind).kids<2->n.b=0)(e:zM (shapeOf n.kind) n=0)(f:∀k∈zB n,inP L k=true):
  check L n=if 1+((zB n).map<|sizeOf L).sum>4096\/(zB n).foldl (fun d t=>max d<|depthOf L t) 0+1>64 then(0,0,52)else(1+((zB n).map<|sizeOf L).sum,(zB n).foldl (fun d t=>max d<|depthOf L t) 0+1,0):=by
 unfold check
 simp only
 rw[if_neg<|by simp[c],if_neg fun h=>?_,if_neg<|by simp[e],if_neg fun h=>?_]
 grind
 grind
def mk_ok{L n}(v:Wf L)(z:L.length<65536)(u:zJ n=0)(w:(shapeOf n.kind).kids<1->n.a=0)(s:(shapeOf n.kind).kids<2->n.b=0)(x:zM (shapeOf n.kind) n=0)(f:∀k∈zB n,inP L k=true){sz d}(hs:1+((zB n).map<|sizeOf L).sum=sz)(p:(zB n).foldl (fun d t=>max d<|depthOf L t) 0+1=d):
  ((sz>4096\/d>64)->(make L n).2.1=52)/\(¬(sz>4096\/d>64)->∃r M,make L n=(r,0,L++M)/\inP (L++M) r=true/\nodeOf (L++M) r=n/\Wf (L++M)/\sizeOf (L++M) r=sz/\depthOf (L++M) r=d/\(L++M).length<=L.length+1):=by
 have g:=jUS u w s x f
 rw[hs,p]at g
 refine⟨fun h=>?_,fun h=>?_⟩
 rw[if_pos h]at g
 unfold make;simp only[g];rfl
 rw[if_neg h]at g
 have q:(make L n).2.1=0:=by
  unfold make;simp only[g];rw[if_neg Sm];split;rfl;rw[if_neg Om]
 have⟨M,e⟩:=yO L n
 have⟨j,i,_⟩:=xD q
 have m:=uM v n
 have c:=jPA L n
 rw[e]at j i m c
 refine⟨(make L n).1,M,by rw[<-e,<-q],j,i,m,?_,?_,c⟩
 rw[(m.node j).2.2.2.2.2.1,i,<-hs]
 congr 2
 exact map_congr_left fun k o=>jGB<|f k o
 rw[(m.node j).2.2.2.2.2.2,i,<-p]
 congr 1
 have:∀(l:List Int) (d:Int),(∀k∈l,inP L k=true)->l.foldl (fun d k=>max d<|depthOf (L++M) k) d=l.foldl (fun d k=>max d<|depthOf L k) d:=by
  intro l;induction l with
  |nil=>intro d _;rfl
  |cons a l y=>intro d hh;simp only[foldl_cons];rw[jEC<|hh a Sm];exact y _ fun k f=>hh k (by simp[f])
 exact this _ _ f
structure LP(T:Tree)(sz d:Int):Prop where
 s1:1<=sz
 d1:1<=d
 yes:∀i s,0<=i->0<=s->s+sz<=4096->i+d<=64->qK i s T=(0,s+sz)
 no:∀i s,0<=i->0<=s->(4096<s+sz\/64<i+d)->(qK i s T).1=52
def LP0{k f t u x}(h:uA ⟨k,f,t,u,x,0,0⟩ 0=0):LP (.mk k f t u x []) 1 1:=by
 refine⟨Om,Om,fun i s hi hs h1 h2=>?_,fun i s hi hs h1=>?_⟩;rw[qK,if_neg Om,if_neg Om];simp[vF,h];rw[qK];split;rfl;rw[if_pos Om]
def LP1{k f t u x A sa da}(h:uA ⟨k,f,t,u,x,0,0⟩ 1=0)(a:LP A sa da):LP (.mk k f t u x [A]) (1+sa) (da+1):=by
 have a1:=a.s1;have a2:=a.d1;refine⟨Om,Om,fun i s hi hs h1 h2=>?_,fun i s hi hs h1=>?_⟩;rw[qK,if_neg Om,if_neg Om];simp only[length_cons,length_nil,vF,h,if_pos,a.yes (i+1) (s+1) Om Om Om Om];simp;omega;rw[qK];split;rfl;split;rfl;simp only[length_cons,length_nil,vF,h,if_pos];simpa using a.no (i+1) (s+1) Om Om Om
def LP2{k f t u x A B sa da sb db}(h:uA ⟨k,f,t,u,x,0,0⟩ 2=0)(a:LP A sa da)(hB:LP B sb db):LP (.mk k f t u x [A,B]) (1+(sa+sb)) (max da db+1):=by
 have a1:=a.s1;have a2:=a.d1;have b1:=hB.s1;have b2:=hB.d1;refine⟨Om,Om,fun i s hi hs h1 h2=>?_,fun i s hi hs h1=>?_⟩;rw[qK,if_neg Om,if_neg Om];simp only[length_cons,length_nil,vF,h,if_pos,a.yes (i+1) (s+1) Om Om Om Om,hB.yes (i+1) (s+1+sa) Om Om Om Om];simp;omega;rw[qK];split;rfl;split;rfl;simp only[length_cons,length_nil,vF,h,if_pos];by_cases b:s+1+sa<=4096/\i+1+da<=64;rw[a.yes (i+1) (s+1) Om Om b.1 b.2];simpa using hB.no (i+1) (s+1+sa) Om Om Om;have:=a.no (i+1) (s+1) Om Om Om;rw[this];simp
end Go.Proofs
end
section
namespace Go.Proofs
def zBZ{L}(hW:Wf L):∀(n:Nat) (t:Int),t.toNat=n->inP L t=true->sizeOf L t=cnt (zA L t):=by
 intro n;induction n using Nat.strongRecOn with
 |_ n e =>
 intro t f ht;have h:=hW.node ht;rw[zU hW ht,h.2.2.2.2.2.1,cnt];have:∀l:List Int,(∀k∈l,sizeOf L k=cnt (zA L k))->(l.map<|sizeOf L).sum=(jCI (l.map<|zA L):Int):=by
  intro l;induction l with
  |nil=>intro _;rfl
  |cons a l c=>intro hh;simp only[List.map_cons,List.sum_cons,jCI,hh a Sm,c Gd];omega
 rw[this _ fun k d=>?_];omega;have b:=h.2.2.2.2.1 k d;have:=zI.1 b.1;exact e k.toNat Om k rfl b.1
def tI{L t k}(h:(qU L t k).2=false):inP L t=true/\(nodeOf L t).kind=k/\qU L t k=(nodeOf L t,false):=by
 unfold qU at h|-;split at h;grind;cases h
def tJ{L t k}(h:inP L t=true)(a:(nodeOf L t).kind=k):qU L t k=(nodeOf L t,false):=by unfold qU;rw[if_pos ⟨h,a⟩]
section
variable {L:Pool} (hW:Wf L) {t:Int} (ht:inP L t=true)
include hW ht
def zGX:(nodeOf L t).text.size<=64:=by
 have:=(hW.node ht).2.2.2.1;unfold zM at this;split at this;cases this;split at this;cases this;omega
def nd3(a:(nodeOf L t).kind=3):zA L t=qH (nodeOf L t).text:=by
 have h:=(hW.node ht).1;rw[zU hW ht,a,qH];have b:zB (nodeOf L t)=[]:=by unfold zB;rw[a];rfl
 rw[b];unfold zJ at h;rw[a]at h;simp[shapeOf,isKind]at h;simp[h]
def nd2(a:(nodeOf L t).kind=2):zA L t=jCV (nodeOf L t).num:=by
 have h:=(hW.node ht).1;rw[zU hW ht,a,jCV];have b:zB (nodeOf L t)=[]:=by unfold zB;rw[a];rfl
 rw[b];unfold zJ at h;rw[a]at h;simp[shapeOf,isKind]at h;simp[h]
def nd4(d:(nodeOf L t).kind=4):inP L (nodeOf L t).a=true/\inP L (nodeOf L t).b=true/\zA L t=qV (zA L (nodeOf L t).a) (zA L (nodeOf L t).b):=by
 have h:=(hW.node ht).1;have e:=(hW.node ht).2.2.2.2.1;have c:zB (nodeOf L t)=[(nodeOf L t).a,(nodeOf L t).b]:=by unfold zB;rw[d];rfl
 rw[c]at e;refine⟨(e _ Sm).1,(e _ Sm).1,?_⟩;rw[zU hW ht,d,qV,c];unfold zJ at h;rw[d]at h;simp[shapeOf,isKind]at h;simp[h]
def nd7(c:(nodeOf L t).kind=7):inP L (nodeOf L t).a=true/\0<=(nodeOf L t).frm/\zA L t=yX (nodeOf L t).frm (zA L (nodeOf L t).a):=by
 have h:=(hW.node ht).1;have d:=(hW.node ht).2.2.2.1;have e:=(hW.node ht).2.2.2.2.1;have b:zB (nodeOf L t)=[(nodeOf L t).a]:=by unfold zB;rw[c];rfl
 rw[b]at e;refine⟨(e _ Sm).1,?_,?_⟩;unfold zM at d;rw[c]at d;split at d;cases d;rename_i hh;simp[shapeOf,uY]at hh;omega;rw[zU hW ht,c,yX,b];unfold zJ at h;rw[c]at h;simp[shapeOf,isKind]at h;simp[h]
def nd89(b:(nodeOf L t).kind=8\/(nodeOf L t).kind=9):inP L (nodeOf L t).a=true/\0<=(nodeOf L t).frm/\(nodeOf L t).frm<16/\((nodeOf L t).to=1-(nodeOf L t).frm->zA L t=yS (nodeOf L t).frm (zA L (nodeOf L t).a) ((nodeOf L t).kind==9)):=by
 have h:=(hW.node ht).1;have e:=(hW.node ht).2.2.2.1;have g:=(hW.node ht).2.2.2.2.1;have c:zB (nodeOf L t)=[(nodeOf L t).a]:=by unfold zB;rcases b with b|b<;>(rw[b];rfl)
 rw[c]at g;have d:0<=(nodeOf L t).frm/\(nodeOf L t).frm<16:=by
  unfold zM at e;rcases b with b|b <;>
  .rw[b]at e;split at e
   .cases e
   .rename_i hh;simp[shapeOf,uY]at hh;omega
 refine⟨(g _ Sm).1,d.1,d.2,fun f=>?_⟩;rw[zU hW ht,yS,c,<-f];unfold zJ at h;rcases b with b|b <;>
 .rw[b]at h|-;simp[shapeOf,isKind]at h;simp[h]
def tK{k f t' u x ks}(h:zA L t=.mk k f t' u x ks):(nodeOf L t).kind=k/\(nodeOf L t).frm=f/\(nodeOf L t).to=t'/\(nodeOf L t).num=u/\(nodeOf L t).text=x:=by
 rw[zU hW ht]at h;injection h with h1 h2 h3 a b c;exact⟨h1,h2,h3,a,b⟩
end
def jKY{n}(h:0<=n/\n<16):IntKind.i64.wrap (1-n)=1-n:=IntWalk.i64_in _ Om
section
variable {L:Pool} (hW:Wf L) {t:Int}
include hW
def xO(h:(vQ L t).2=false):inP L t=true/\inP L (vQ L t).1.2=true/\zA L t=qV (qH (vQ L t).1.1) (zA L (vQ L t).1.2):=by
 unfold vQ at h|-;simp only[Bool.or_eq_false_iff]at h;have⟨ht,b,c⟩:=tI h.1;rw[c]at h|-;simp only at h|-;have⟨e,a,d⟩:=tI h.2;rw[d];have⟨_,h2,h3⟩:=nd4 hW ht b;exact⟨ht,h2,by rw[h3,nd3 hW e a]⟩
def jDV(ht:inP L t=true){g y}(h:zA L t=qV (qH g) y):∃n,vQ L t=((g,n),false)/\inP L n=true/\zA L n=y:=by
 have d:=(tK hW ht<|h.trans rfl).1;have⟨h1,h2,h3⟩:=nd4 hW ht d;rw[h]at h3;have f:qH g=zA L (nodeOf L t).a:=by simpa[qV]using(Tree.mk.inj h3).2.2.2.2.2 |>fun e=>(List.cons.inj e).1
 have i:y=zA L (nodeOf L t).b:=by have:=(Tree.mk.inj h3).2.2.2.2.2;exact(List.cons.inj (List.cons.inj this).2).1
 have c:=tK hW h1<|f.symm.trans rfl;refine⟨(nodeOf L t).b,?_,h2,i.symm⟩;unfold vQ;rw[tJ ht d];simp only;rw[tJ h1 c.1];simp[c.2.2.2.2]
def jJN(h:(oT L t).2=false):inP L t=true/\zA L t=qG (oT L t).1.1 (oT L t).1.2/\(oT L t).1.2.size<=64:=by
 unfold oT at h|-;simp only[Bool.or_eq_false_iff,Bool.not_eq_false',decide_eq_true_eq]at h;have⟨⟨⟨⟨h1,h2⟩,h3⟩,c⟩,b⟩:=h;have⟨ht,_,e⟩:=xO hW h1;have⟨k,f,i⟩:=tI h2;simp only at h3|-;rw[i]at c b|-;simp only at c b|-;have⟨l,a,m⟩:=tI c;have⟨g,d,j⟩:=tI b;rw[m,j];refine⟨ht,?_,zGX hW g⟩;rw[e,h3,(nd4 hW k f).2.2,nd2 hW l a,nd3 hW g d];rfl
def jJO(ht:inP L t=true){c x}(h:zA L t=qG c x):oT L t=((c,x),false):=by
 have⟨n,j,d,e⟩:=jDV hW ht h;have f:=(tK hW d<|e.trans rfl).1;have⟨h1,h2,h3⟩:=nd4 hW d f;rw[e]at h3;have q1:jCV c=zA L (nodeOf L n).a:=(List.cons.inj (Tree.mk.inj h3).2.2.2.2.2).1;have q2:qH x=zA L (nodeOf L n).b:=(List.cons.inj (List.cons.inj (Tree.mk.inj h3).2.2.2.2.2).2).1;have i:=tK hW h1<|q1.symm.trans rfl;have g:=tK hW h2<|q2.symm.trans rfl;unfold oT;rw[j];simp only;rw[tJ d f];simp only;rw[tJ h1 i.1,tJ h2 g.1];simp[i.2.2.2.1,g.2.2.2.2]
def jMT(ht:inP L t=true){c}(h:zA L t=jCV c):(qU L t 2).1.num=c/\(qU L t 2).2=false:=by
 have k:=tK hW ht<|h.trans rfl;rw[tJ ht k.1];exact⟨k.2.2.2.1,rfl⟩
def jMS(h:(qU L t 2).2=false):inP L t=true/\zA L t=jCV (qU L t 2).1.num:=by
 have⟨h1,h2,e⟩:=tI h;rw[e];exact⟨h1,nd2 hW h1 h2⟩
def jBW(ht:inP L t=true)(h:(qI L t).2=false):(qI L t).1.kind=1/\((qI L t).1.frm=0\/(qI L t).1.frm=1)/\zA L t=yS (qI L t).1.frm (qG (qI L t).1.c (qI L t).1.text) (qI L t).1.fake/\(qI L t).1.text.size<=64:=by
 unfold qI at h|-;simp only at h|-;split at h;cases h;rename_i hh;rw[if_neg hh];simp only[not_or,not_and,Classical.not_not]at hh;have d:(nodeOf L t).kind=8\/(nodeOf L t).kind=9:=Gd;have⟨j,i,b,f⟩:=nd89 hW ht d;have a:=hh.2.2;rw[jKY ⟨i,b⟩]at a;have⟨_,e,g⟩:=jJN hW h;simp only;refine⟨trivial,Oh hh.2.1,by rw[f a,e],g⟩
def jBX(ht:inP L t=true){n c x g}(l:n=0\/n=1)(h:zA L t=yS n (qG c x) g):qI L t=(⟨1,n,c,x,g⟩,false):=by
 have k:=tK hW ht<|h.trans rfl;have d:(nodeOf L t).kind=8\/(nodeOf L t).kind=9:=by rw[k.1];cases g<;>simp
 have⟨f,j,b,i⟩:=nd89 hW ht d;have:=i (by rw[k.2.2.1,k.2.1]);rw[h,k.2.1]at this;have q1:qG c x=zA L (nodeOf L t).a:=(List.cons.inj (Tree.mk.inj this).2.2.2.2.2).1;unfold qI;simp only;rw[if_neg,jJO hW f q1.symm,k.1,k.2.1];cases g<;>rfl;simp only[not_or,not_and,Classical.not_not];refine⟨fun e=>d.resolve_left e,by rw[k.2.1];omega,?_⟩;rw[k.2.2.1,jKY ⟨j,b⟩,k.2.1]
end
def IsL(x:Tree)(l:Letter):Prop:=vJ l=0/\∃a b:Bool,(l.kind=4->l.fake=(a ||b))/\x=zR l a b
def jCX{k f c x g}(h:vJ ⟨k,f,c,x,g⟩=0):(k=1\/k=2\/k=3\/k=4\/k=5\/k=6\/k=7)/\(f=0\/f=1)/\(vG k=false->f=0)/\(vL k=false->x=⟨#[]⟩)/\(g=true->k=1\/k=4)/\x.size<=64:=by
 unfold vJ at h;simp only at h;split at h;cases h;rename_i hh;split at h;cases h;simp only[not_or,not_and,Classical.not_not]at hh;have⟨h1,h2,h3,a,b,d⟩:=hh;refine⟨Om,?_,a,b,?_,Om⟩;grind;grind
def xE{k f c x g}(e:1<=k/\k<=7)(a:f=0\/f=1)(h1:vG k=false->f=0)(h2:vL k=false->x=⟨#[]⟩)(h3:g=true->k=1\/k=4)(h:x.size<=64):vJ ⟨k,f,c,x,g⟩=0:=by
 unfold vJ;simp only;rw[if_neg,if_neg Om];simp only[not_or,not_and,Classical.not_not];refine⟨Om,Om,fun d=>a.resolve_left d,h1,h2,fun b h1=>(h3 b).resolve_left h1⟩
section
variable {L:Pool} (hW:Wf L) {t:Int}
include hW
def jON{who}(h:(tH L who t).2=false):∃c x a b,(tH L who t).1=⟨4,who,c,x,a ||b⟩/\x.size<=64/\zA L t=qV (yS 0 (qG c x) a) (yS 1 (qG c x) b):=by
 unfold tH at h|-;simp only[Bool.or_eq_false_iff,Bool.not_eq_false',decide_eq_true_eq,bne_eq_false_iff_eq]at h;have⟨⟨⟨⟨⟨⟨h1,h2⟩,h3⟩,i⟩,g⟩,f⟩,d⟩:=h;have⟨ht,k,e⟩:=tI h1;simp only;rw[e]at h2 h3 i g f d|-;simp only at h2 h3 i g f d|-;have⟨m,l,o⟩:=nd4 hW ht k;have⟨_,_,j,p⟩:=jBW hW m h2;have⟨_,_,n,_⟩:=jBW hW l h3;refine⟨_,_,_,_,rfl,p,?_⟩;rw[o,j,n,i,g,f,d]
def jOO(ht:inP L t=true){who c x a b}(h:zA L t=qV (yS 0 (qG c x) a) (yS 1 (qG c x) b)):tH L who t=(⟨4,who,c,x,a ||b⟩,false):=by
 have d:=(tK hW ht<|h.trans rfl).1;have⟨h1,h2,h3⟩:=nd4 hW ht d;rw[h]at h3;have q1:=(List.cons.inj (Tree.mk.inj h3).2.2.2.2.2).1;have q2:=(List.cons.inj (List.cons.inj (Tree.mk.inj h3).2.2.2.2.2).2).1;unfold tH;simp only;rw[tJ ht d];simp only;rw[jBX hW h1 (.inl rfl) q1.symm,jBX hW h2 (.inr rfl) q2.symm];simp
def jSA{who}(o:0<=who)(h:(oY L who t).2=false):IsL (yX who<|zA L t) (oY L who t).1:=by
 unfold oY at h|-;simp only at h|-;by_cases g:(vQ L t).1.1=jIP/\who=0;rw[if_pos g]at h|-;simp only[Bool.or_eq_false_iff]at h;have⟨ht,k,e⟩:=xO hW h.1;show IsL _ ⟨3,0,_,⟨#[]⟩,false⟩;refine⟨xE Om (.inl rfl) (fun _=>rfl) (fun _=>rfl) (fun h=>nomatch h)<|Nat.zero_le _,false,false,Sm,?_⟩;rw[e,g.1,g.2,(jMS hW h.2).2];rfl;rw[if_neg g]at h|-;by_cases j:(vQ L t).1.1=jAZ/\who=2;rw[if_pos j]at h|-;simp only[Bool.or_eq_false_iff]at h;have⟨ht,k,e⟩:=xO hW h.1;show IsL _ ⟨5,0,_,⟨#[]⟩,false⟩;refine⟨xE Om (.inl rfl) (fun _=>rfl) (fun _=>rfl) (fun h=>nomatch h)<|Nat.zero_le _,false,false,Sm,?_⟩;rw[e,j.1,j.2,(jMS hW h.2).2];rfl;rw[if_neg j]at h|-;by_cases i:(vQ L t).1.1=jAY/\who=2;rw[if_pos i]at h|-;simp only[Bool.or_eq_false_iff]at h;have⟨ht,k,e⟩:=xO hW h.1;have⟨_,d,f⟩:=jJN hW h.2;refine⟨xE Om (.inl rfl) (fun _=>rfl) (by simp[vL]) Sm f,false,false,Sm,?_⟩;rw[e,i.1,i.2,d];rfl;rw[if_neg i]at h|-;by_cases m:(vQ L t).1.1=jVF/\who<=1;rw[if_pos m]at h|-;simp only[Bool.or_eq_false_iff]at h;have⟨_,d,f⟩:=jJN hW h.2;refine⟨xE Om Om (by simp[vG]) (by simp[vL,vG]) Sm f,false,false,Sm,?_⟩;rw[d];rfl;rw[if_neg m]at h|-;by_cases l:(vQ L t).1.1=tQ/\who<=1;rw[if_pos l]at h|-;simp only[Bool.or_eq_false_iff]at h;have⟨ht,k,e⟩:=xO hW h.1;have⟨c,x,a,b,d,f,n⟩:=jON hW h.2;rw[d];refine⟨xE Om Om (by simp[vG]) (by simp[vL,vG]) Sm f,a,b,Sm,?_⟩;rw[e,l.1,n];cases a<;>cases b<;>rfl;rw[if_neg l]at h;cases h
def zCK(ht:inP L t=true)(h:(jBV L t).2=false):IsL (zA L t) (jBV L t).1:=by
 unfold jBV at h|-;simp only at h|-;by_cases d:(nodeOf L t).kind=7;rw[if_pos d]at h|-;have⟨h1,h2,h3⟩:=nd7 hW ht d;rw[h3];exact jSA hW h2 h;rw[if_neg d]at h|-;by_cases j:(nodeOf L t).kind=8\/(nodeOf L t).kind=9;rw[if_pos j]at h|-;have⟨h1,h2,h3,i⟩:=jBW hW ht h;generalize qI L t=r at *;have⟨⟨k,f,c,x,g⟩,b⟩:=r;simp only at h1 h2 h3 i|-;subst h1;exact⟨xE Om h2 (by simp[vG]) (by simp[vL,vG]) Sm i,false,false,Sm,h3⟩;rw[if_neg j]at h|-;split at h;cases h;rename_i a;rw[if_neg a];simp only[Bool.or_eq_true,Bool.not_eq_true',decide_eq_false_iff_not,not_or,Classical.not_not,Bool.not_eq_true]at a;have⟨_,l,e⟩:=xO hW a.1;show IsL _ ⟨7,0,_,⟨#[]⟩,false⟩;refine⟨xE Om (.inl rfl) (fun _=>rfl) (fun _=>rfl) (fun h=>nomatch h)<|Nat.zero_le _,false,false,Sm,?_⟩;rw[e,a.2,(jMS hW h).2];rfl
def jMR(ht:inP L t=true){l}(h:IsL (zA L t) l):jBV L t=(l,false):=by
 have⟨k,f,c,x,g⟩:=l;have⟨h1,a,b,B,o⟩:=h;have⟨z,A,hs,v,s,_⟩:=jCX h1;have d:∀{who:Int} {u:ByteArray} {y:Tree},zA L t=yX who (qV (qH u) y)->(nodeOf L t).kind=7/\(nodeOf L t).frm=who/\inP L (nodeOf L t).a=true/\zA L (nodeOf L t).a=qV (qH u) y/\∃n,vQ L (nodeOf L t).a=((u,n),false)/\inP L n=true/\zA L n=y:=by
  intro who u y e;have k:=tK hW ht<|e.trans rfl;have⟨q1,_,q3⟩:=nd7 hW ht k.1;rw[e]at q3;have q:=(List.cons.inj (Tree.mk.inj q3).2.2.2.2.2).1;exact⟨k.1,k.2.1,q1,q.symm,jDV hW q1 q.symm⟩
 rcases z with rfl|rfl|rfl|rfl|rfl|rfl|rfl;have e:zA L t=yS f (qG c x) g:=o;have k:=tK hW ht<|e.trans rfl;unfold jBV;simp only;rw[if_neg (by rw[k.1];cases g<;>decide),if_pos (by rw[k.1];cases g<;>decide),jBX hW ht A e];have e:zA L t=yX f (qG c x):=o;have:g=false:=by cases g with
  |false=>rfl
  |true=>exact absurd (s rfl) Om
 subst this;have⟨k,kf,h1,h2,n,i,m,j⟩:=d e;unfold jBV oY;simp only;rw[if_pos k,i,kf];simp only;rw[if_neg fun q=>absurd q.1 De,if_neg fun q=>absurd q.1 De,if_neg fun q=>absurd q.1 De,if_pos ⟨trivial,Om⟩,jJO hW h1 h2];rfl;obtain rfl:f=0:=hs rfl;obtain rfl:x=⟨#[]⟩:=v rfl;have:g=false:=by cases g with
  |false=>rfl
  |true=>exact absurd (s rfl) Om
 subst this;have e:zA L t=yX 0 (qV (qH jIP)<|jCV c):=o;have⟨k,kf,h1,h2,n,i,m,j⟩:=d e;have⟨p,r⟩:=jMT hW m j;unfold jBV oY;simp only;rw[if_pos k,i,kf];simp only;rw[if_pos ⟨trivial,trivial⟩,p,r];rfl;have e:zA L t=yX f (qV (qH tQ)<|qV (yS 0 (qG c x)<|g&&a)<|yS 1 (qG c x)<|g&&b):=o;have⟨k,kf,h1,h2,n,i,m,j⟩:=d e;have w:((g&&a) ||(g&&b))=g:=by
  have:=B rfl;simp only at this;subst this;cases a<;>cases b<;>rfl
 unfold jBV oY;simp only;rw[if_pos k,i,kf];simp only;rw[if_neg fun q=>absurd q.1 De,if_neg fun q=>absurd q.1 De,if_neg fun q=>absurd q.1 De,if_neg fun q=>absurd q.1 De,if_pos ⟨trivial,Om⟩,jOO hW m j,w];rfl;obtain rfl:f=0:=hs rfl;obtain rfl:x=⟨#[]⟩:=v rfl;have:g=false:=by cases g with
  |false=>rfl
  |true=>exact absurd (s rfl) Om
 subst this;have e:zA L t=yX 2 (qV (qH jAZ)<|jCV c):=o;have⟨k,kf,h1,h2,n,i,m,j⟩:=d e;have⟨p,r⟩:=jMT hW m j;unfold jBV oY;simp only;rw[if_pos k,i,kf];simp only;rw[if_neg fun q=>absurd q.1 De,if_pos ⟨trivial,trivial⟩,p,r];rfl;obtain rfl:f=0:=hs rfl;have:g=false:=by cases g with
  |false=>rfl
  |true=>exact absurd (s rfl) Om
 subst this;have e:zA L t=yX 2 (qV (qH jAY)<|qG c x):=o;have⟨k,kf,h1,h2,n,i,m,j⟩:=d e;unfold jBV oY;simp only;rw[if_pos k,i,kf];simp only;rw[if_neg fun q=>absurd q.1 De,if_neg fun q=>absurd q.1 De,if_pos ⟨trivial,trivial⟩,jJO hW m j];rfl;obtain rfl:f=0:=hs rfl;obtain rfl:x=⟨#[]⟩:=v rfl;have:g=false:=by cases g with
  |false=>rfl
  |true=>exact absurd (s rfl) Om
 subst this;have e:zA L t=qV (qH jYC) (jCV c):=o;have k:=tK hW ht<|e.trans rfl;have⟨n,i,m,j⟩:=jDV hW ht e;have⟨p,r⟩:=jMT hW m j;unfold jBV;simp only;rw[if_neg (by rw[k.1];decide),if_neg (by rw[k.1];decide),i];simp only;rw[if_neg Sm,p,r]
end
def jWY(l a b):cnt (zR l a b)<=40:=by
 unfold zR;simp only[yS,qG,yX,qV,qH,jCV];split;simp[cnt,jCI];split;simp[cnt,jCI];split;simp[cnt,jCI];split;simp[cnt,jCI];split;simp[cnt,jCI];split;simp[cnt,jCI];simp[cnt,jCI]
def jES{x l}:∀{n i:Nat} {l':Letter},yZ x l n i=some l'->∃f,i<=f/\f<i+n/\jNS x l f=true/\l'=gR l f
 |0,i,l',h=>by cases h
 |n+1,i,l',h=>by
  unfold yZ at h;split at h;grind;have⟨f,h1,h2,h3,a⟩:=jES h;exact⟨f,Om,Om,h3,a⟩
def jIR{x l f}(a:jNS x l f=true):∀{n i:Nat},i<=f->f<i+n->yZ x l n i≠none
 |0,i,h1,h2=>Om
 |n+1,i,h1,h2=>by
  unfold yZ;split;simp;rename_i h;by_cases e:i=f;subst e;exact absurd a h;exact jIR a Om Om
def jET{x k}:∀{a:List (List Nat)} {l:Letter},yA x k a=some l->∃p∈a,∃f,f<4/\jNS x (jRL x k p) f=true/\l=gR (jRL x k p) f
 |[],l,h=>by cases h
 |p :: a,l,h=>by
  unfold yA at h;split at h;rename_i l' d;cases h;have⟨f,_,h2,h3,b⟩:=jES d;exact⟨p,Sm,f,Om,h3,b⟩;have⟨c,h1,h2⟩:=jET h;exact⟨c,by simp[h1],h2⟩
def jIS{x k p f}(c:f<4)(h:jNS x (jRL x k p) f=true):∀{b:List (List Nat)},p∈b->yA x k b≠none
 |[],a=>by cases a
 |q :: b,a=>by
  unfold yA;split;simp;rename_i d;rcases List.mem_cons.1 a with e|e;subst e;exact absurd d<|jIR h (Nat.zero_le _) Om;exact jIS c h e
def jER{x}:∀{n:Nat} {i:Int} {l:Letter},uT x n i=some l->∃k p f,i<=k/\k<i+n/\f<4/\jNS x (jRL x k p) f=true/\l=gR (jRL x k p) f
 |0,i,l,h=>by cases h
 |n+1,i,l,h=>by
  unfold uT at h;split at h;rename_i l' a;cases h;have⟨p,_,f,h1,h2,h3⟩:=jET a;exact⟨i,p,f,Om,Om,h1,h2,h3⟩;have⟨k,p,f,h1,h2,h3⟩:=jER h;exact⟨k,p,f,Om,Om,h3⟩
def jIQ{x k p f}(a:p∈deals)(b:f<4)(h:jNS x (jRL x k p) f=true):∀{n:Nat} {i:Int},i<=k->k<i+n->uT x n i≠none
 |0,i,h1,h2=>Om
 |n+1,i,h1,h2=>by
  unfold uT;split;simp;rename_i c;by_cases e:i=k;subst e;exact absurd c<|jIS b h a;exact jIQ a b h Om Om
def zHG{x l f}(a:f<4)(h:jNS x l f=true):IsL x (gR l f):=by
 unfold jNS at h;simp only[Bool.and_eq_true,decide_eq_true_eq]at h;have⟨⟨h1,h2⟩,h3⟩:=h;refine⟨h1,f%2==1,f/2==1,fun _=>?_,((jTQ _ _).1 h3).symm⟩;have:f=0\/f=1\/f=2\/f=3:=Om;rcases this with rfl|rfl|rfl|rfl<;>rfl
def jJI{x l}(h:qT x=(l,true)):IsL x l:=by
 unfold qT at h;split at h;rename_i l' a;cases h;obtain⟨k,p,f,_,_,h1,h2,rfl⟩:=jER a;exact zHG h1 h2;cases h
def jJJ{x}(h:(qT x).2=false):qT x=(tA,false)/\uT x 7 1=none:=by
 unfold qT at h|-;split at h;cases h;grind
def zHH{x l l0 f}(a:vJ l=0)(h1:gR l0 f=l)(h2:l0.kind=4\/f≠2)(h3:zR l (f%2==1) (f/2==1)=x):jNS x l0 f=true:=by
 unfold jNS;rw[h1,(jTQ _ _).2 h3];simp[a];exact h2
def jRZ{x l}(h:IsL x l):(qT x).2=true:=by
 cases hr:(qT x).2 with
 |true=>rfl
 |false =>
  exfalso
  have q:=(jJJ hr).2
  have⟨k,f,c,o,g⟩:=l
  have⟨h1,a,b,y,j⟩:=h
  have⟨t,A,hs,s,B,_⟩:=jCX h1
  have e:∀(p:List Nat) (m:Nat),p∈deals->m<4->gR (jRL x k p) m=⟨k,f,c,o,g⟩->(k=4\/m≠2)->zR ⟨k,f,c,o,g⟩ (m%2==1) (m/2==1)=x->False:=by
   intro p m w r u v z;exact jIQ (x:=x) (k:=k) w r (zHH h1 u (by simpa[jRL]using v) z) (n:=7) (i:=1) Om Om q
  have d:k≠1->k≠4->g=false:=Gd
  rcases t with rfl|rfl|rfl|rfl|rfl|rfl|rfl
  subst j
  cases g with
  |false=>exact e [0] 0 (by simp[deals]) Om rfl Om rfl
  |true=>exact e [0] 1 (by simp[deals]) Om rfl Om rfl
  obtain rfl:=d Om Om
  subst j
  exact e [0] 0 (by simp[deals]) Om rfl Om rfl
  obtain rfl:=d Om Om
  obtain rfl:f=0:=hs rfl
  obtain rfl:o=⟨#[]⟩:=s rfl
  subst j
  exact e [0] 0 (by simp[deals]) Om rfl Om rfl
  have:=y rfl
  simp only at this
  subst this
  subst j
  cases a<;>cases b
  exact e [0,1,0,0] 0 (by simp[deals]) Om rfl Om rfl
  exact e [0,1,0,0] 2 (by simp[deals]) Om rfl Om rfl
  exact e [0,1,0,0] 1 (by simp[deals]) Om rfl Om rfl
  exact e [0,1,0,0] 3 (by simp[deals]) Om rfl Om rfl
  obtain rfl:=d Om Om
  obtain rfl:f=0:=hs rfl
  obtain rfl:o=⟨#[]⟩:=s rfl
  subst j
  exact e [0] 0 (by simp[deals]) Om rfl Om rfl
  obtain rfl:=d Om Om
  obtain rfl:f=0:=hs rfl
  subst j
  exact e [0,1] 0 (by simp[deals]) Om rfl Om rfl
  obtain rfl:=d Om Om
  obtain rfl:f=0:=hs rfl
  obtain rfl:o=⟨#[]⟩:=s rfl
  subst j
  exact e [0] 0 (by simp[deals]) Om rfl Om rfl
def zCJ{L t}(h:inP L t=false):zFB L t=(tA,false):=by
 have e:nodeOf L t=xL:=by simp[nodeOf,yC h]
 have a:vQ L t=((⟨#[]⟩,0),true)\/(vQ L t).2=true:=by
  right;unfold vQ;have:qU L t 4=(xL,true):=by unfold qU;rw[if_neg (by rw[h];simp)]
  rw[this];rfl
 have b:(vQ L t).2=true:=by rcases a with a|a<;>simp[a]
 have:(jBV L t).2=true:=by
  unfold jBV;simp only;rw[e,if_neg De,if_neg De,if_pos<|by simp[b]]
 unfold zFB;rw[if_pos this]
def zCI{L}(hW:Wf L)(t):zFB L t=jBC L t:=by
 cases hi:inP L t with
 |false =>
  rw[zCJ hi]
  unfold jBC
  rw[if_neg<|by simp[hi]]
 |true =>
  have f:=zBZ hW _ t rfl hi
  cases c:(jBV L t).2 with
  |false =>
   have h:=zCK hW hi c
   have d:¬sizeOf L t>40:=by
    have⟨_,a,b,_,e⟩:=h;have:=jWY (jBV L t).1 a b;rw[<-e]at this;omega
   have hr:=jRZ h
   have e:qT (zA L t)=((qT<|zA L t).1,true):=Prod.ext rfl hr
   have:=jMR hW hi<|jJI e
   unfold zFB jBC
   rw[if_neg<|by simp[c],if_pos ⟨hi,d⟩,e,this]
  |true =>
   unfold zFB
   rw[if_pos c]
   unfold jBC
   split
   cases hr:(qT<|zA L t).2 with
   |false=>exact(jJJ hr).1.symm
   |true =>
    have e:qT (zA L t)=((qT<|zA L t).1,true):=Prod.ext rfl hr
    have:=jMR hW hi<|jJI e
    rw[this]at c;cases c
   rfl
def zGO{L}(hW:Wf L){t}(ht:inP L t=true){l}(h:IsL (zA L t) l):zFB L t=(l,true):=by
 unfold zFB;rw[jMR hW ht h,if_neg Sm]
end Go.Proofs
end
section
open Go Go.SE List
namespace Go.Proofs
inductive In(T:Tree):Tree->Prop
 |refl:In T T
 |fst {f t u:Int} {x:ByteArray} {a b:Tree}:In T (.mk 4 f t u x [a,b])->In T a
 |snd {f t u:Int} {x:ByteArray} {a b:Tree}:In T (.mk 4 f t u x [a,b])->In T b
 |shows {k f t u:Int} {x:ByteArray} {a:Tree}:qO k=true->In T (.mk k f t u x [a])->In T a
def In.trans{T y z}(h:In T y)(h2:In y z):In T z:=by
 induction h2 with
 |refl=>exact h
 |fst _ a=>exact .fst a
 |snd _ a=>exact .snd a
 |shows b _ a=>exact .shows b a
def Tree.kd:Tree->Int|.mk k _ _ _ _ _=>k
def Lo(y:Tree):Prop:=∀z,In y z->z.kd≠7/\z.kd≠6
def in_of{T}(j:∀f t u x a b,T=.mk 4 f t u x [a,b]->Lo a/\Lo b)(i:∀k f t u x a,T=.mk k f t u x [a]->Lo a){y}(h:In T y):y=T\/Lo y:=by
 induction h with
 |refl=>exact .inl rfl
 |fst _ d =>
  rcases d with e|e
  grind
  exact .inr fun z c=>e z<|(In.fst .refl).trans c
 |snd _ d =>
  rcases d with e|e
  grind
  exact .inr fun z c=>e z<|(In.snd .refl).trans c
 |shows g _ d =>
  rcases d with e|e
  grind
  exact .inr fun z c=>e z<|(In.shows g .refl).trans c
def zDD{T}(g:T.kd≠7/\T.kd≠6)(e:∀f t u x a b,T=.mk 4 f t u x [a,b]->Lo a/\Lo b)(d:∀k f t u x a,T=.mk k f t u x [a]->Lo a):Lo T:=fun z c=>by
 rcases in_of e d c with rfl|h;exact g;exact h z .refl
def jDZ(x):Lo (qH x):=zDD ⟨by simp[qH,Tree.kd],by simp[qH,Tree.kd]⟩ (fun _ _ _ _ _ _ h=>by simp[qH]at h) (fun _ _ _ _ _ _ h=>by simp[qH]at h)
def jUD(c):Lo (jCV c):=zDD ⟨by simp[jCV,Tree.kd],by simp[jCV,Tree.kd]⟩ (fun _ _ _ _ _ _ h=>by simp[jCV]at h) (fun _ _ _ _ _ _ h=>by simp[jCV]at h)
def jBY{a b}(c:Lo a)(d:Lo b):Lo (qV a b):=zDD ⟨by simp[qV,Tree.kd],by simp[qV,Tree.kd]⟩ (fun _ _ _ _ _ _ h=>by simp[qV]at h;obtain⟨_,_,_,_,rfl,rfl⟩:=h;exact⟨c,d⟩) (fun _ _ _ _ _ _ h=>by simp[qV]at h)
def jSK{n a g}(b:Lo a):Lo (yS n a g):=zDD ⟨by cases g<;>simp[yS,Tree.kd],by cases g<;>simp[yS,Tree.kd]⟩ (fun _ _ _ _ _ _ h=>by simp[yS]at h) (fun _ _ _ _ _ _ h=>by simp[yS]at h;obtain⟨_,_,_,_,_,rfl⟩:=h;exact b)
def jJT(c x):Lo (qG c x):=jBY (jDZ _)<|jBY (jUD _)<|jDZ _
def jJZ{n a y}(b:Lo a)(h:In (yX n a) y):y=yX n a\/Lo y:=in_of (fun _ _ _ _ _ _ h=>by simp[yX]at h) (fun _ _ _ _ _ _ h=>by simp[yX]at h;obtain⟨_,_,_,_,_,rfl⟩:=h;exact b) h
def jZO(l a b){y}(h:In (zR l a b) y):y=zR l a b\/Lo y:=by
 unfold zR at h|-;split at h;rename_i e;rw[if_pos e];exact .inr fun z c=>jSK (jJT _ _) z<|h.trans c;rename_i e;rw[if_neg e];split at h;rename_i e;rw[if_pos e];exact jJZ (jJT _ _) h;rename_i e;rw[if_neg e];split at h;rename_i e;rw[if_pos e];exact jJZ (jBY (jDZ _)<|jUD _) h;rename_i e;rw[if_neg e];split at h;rename_i e;rw[if_pos e];exact jJZ (jBY (jDZ _)<|jBY (jSK<|jJT _ _)<|jSK<|jJT _ _) h;rename_i e;rw[if_neg e];split at h;rename_i e;rw[if_pos e];exact jJZ (jBY (jDZ _)<|jUD _) h;rename_i e;rw[if_neg e];split at h;rename_i e;rw[if_pos e];exact jJZ (jBY (jDZ _)<|jJT _ _) h;rename_i e;rw[if_neg e];exact .inr fun z c=>jBY (jDZ _) (jUD _) z<|h.trans c
def jXM(n:Int):Tree:=.mk 6 n 0 0 ⟨#[]⟩ []
def zGL{L G}(e:Wf L)(j:∀g∈G,inP L g=true){t}(h:Seen L G t):inP L t=true/\∃g∈G,In (zA L g)<|zA L t:=by
 induction h with
 |given d=>exact⟨j _ d,_,d,.refl⟩
 |aris _ f k =>
  rename_i r u t _
  have⟨i,g,d,hi⟩:=k
  refine⟨(f.inp e i).1,g,d,?_⟩
  rw[zU e i]at hi
  rcases f with⟨_,c,rfl⟩|⟨_,c,rfl⟩|⟨_,c,rfl⟩
  rw[c,show zB (nodeOf L u)=[(nodeOf L u).a,(nodeOf L u).b] by simp[zB,c,shapeOf]]at hi
  exact .fst hi
  rw[c,show zB (nodeOf L u)=[(nodeOf L u).a,(nodeOf L u).b] by simp[zB,c,shapeOf]]at hi
  exact .snd hi
  rw[show zB (nodeOf L u)=[(nodeOf L u).a] by
   simp only[qO,Bool.or_eq_true,beq_iff_eq]at c;rcases c with(c|c)|c<;>simp[zB,c,shapeOf]]at hi
  exact .shows c hi
def jHS{A M}(a:Wf (A++M)){v}(h:inP A v=true):zA (A++M) v=zA A v:=uG a _ v rfl h
def tD:(zW []).1=none:=by unfold zW;simp
def jSN{L G}(j:Wf L)(u:yU L){l}(s:yH l.c):
  ∃M,(vY L G (qP l).1).1=L++M/\Wf (L++M)/\yU (L++M)/\(((vY L G (qP l).1).2.2=false/\(vY L G (qP l).1).2.1=G) \/
   ((vY L G (qP l).1).2.2=true/\vJ l=0/\∃t,(vY L G (qP l).1).2.1=addT G t/\inP (L++M) t=true/\zA (L++M) t=zR l true true)):=by
 obtain⟨M,f⟩:=jIE L (qP l).1
 have r:=jED j (qP l).1
 have n1:=jKF u (qP l).1
 rw[f]at r n1
 refine⟨M,?_⟩
 unfold vY
 by_cases a:(qY L (qP l).1).2.1≠0
 grind
 rw[if_neg a]
 have a:(qY L (qP l).1).2.1=0:=Classical.byContradiction a
 refine⟨f,r,n1,.inr ⟨rfl,?_⟩⟩
 obtain⟨d1,d2,d3,x⟩:=jZT j a
 by_cases b:(zC [] l).2.1≠0
 have e:(qP l).1=[]:=by unfold qP;rw[if_pos b]
 rw[e]at a
 have:(qY L []).2.1=(zW []).2.1:=by unfold qY;rw[tD]
 rw[this]at a
 exact absurd a<|xN tD
 have b:(zC [] l).2.1=0:=Classical.byContradiction b
 have k:vJ l=0:=by
  unfold zC at b;split at b;exact b;grind
 have n:zC [] l=of [] (zR l true true):=by unfold zC;rw[if_neg Om]
 obtain⟨g,o,_⟩:=jZC Wf.nil (by rw[<-n];exact b)
 have i:=xI Wf.nil l
 have m:=xU yU.nil s
 rw[<-n]at g o
 have e:qP l=jAN (zC [] l).2.2 (zC [] l).1:=by unfold qP;rw[if_neg Om]
 have v:jAN (zC [] l).2.2 (zC [] l).1=(vI (zC [] l).2.2 (zC [] l).1,0):=by
  unfold jAN;rw[if_pos g];split;rename_i d;exfalso;have:(qP l).1=[]:=by rw[e];unfold jAN;rw[if_pos g,if_pos d]
  rw[this]at a;have:(qY L []).2.1=(zW []).2.1:=by unfold qY;rw[tD]
  rw[this]at a;exact absurd a<|xN tD;rfl
 have p:(qP l).1=vI (zC [] l).2.2 (zC [] l).1:=by rw[e,v]
 obtain⟨q,q1,q2,q3,q4⟩:=jGH i m g (by rw[<-p];exact x)
 rw[<-p]at q1
 have h:qY L (qP l).1=((vD L q q.length).1,(vD L q q.length).2.1,0,(vD L q q.length).2.2):=by unfold qY;rw[q1]
 rw[h]at a
 obtain⟨z,y,w⟩:=xW j q2 q3 a
 rw[h]at f d2
 simp only at f d2
 refine⟨k,(vD L q q.length).1,?_,by rw[<-f];exact d2,by rw[<-f,w,q4,o]⟩
 rw[h];simp only
 exact tU d2
section
variable {L M:Pool} {G:List Int} {ls:List Letter} {K:Int->Prop}
end
def jJR{k f t u x len}(h:uA ⟨k,f,t,u,x,0,0⟩ len=0):zJ ⟨k,f,t,u,x,0,0⟩=0/\(len:Int)=(shapeOf k).kids/\zM (shapeOf k) ⟨k,f,t,u,x,0,0⟩=0:=by
 unfold uA at h;simp only at h;by_cases h1:zJ ⟨k,f,t,u,x,0,0⟩=0;grind;grind
def zDC{L n}(j:Wf L)(o:zJ n=0)(u:(shapeOf n.kind).kids<1->n.a=0)(m:(shapeOf n.kind).kids<2->n.b=0)(s:zM (shapeOf n.kind) n=0)(l:∀k∈zB n,inP L k=true){sz d}(hs:1+((zB n).map<|sizeOf L).sum=sz)(p:(zB n).foldl (fun d t=>max d<|depthOf L t) 0+1=d)(h:¬ (sz>4096\/d>64)):
  (∃r M,make L n=(r,0,L++M)/\inP (L++M) r=true/\nodeOf (L++M) r=n/\Wf (L++M)/\sizeOf (L++M) r=sz/\depthOf (L++M) r=d/\(L++M).length<=L.length+1)\/((make L n).2.1=6/\65536<=L.length):=by
 by_cases v:L.length<65536
 exact .inl<|(mk_ok j v o u m s l hs p).2 h
 have g:=jUS o u m s l
 rw[hs,p,if_neg h]at g
 cases c:find L n with
 |none =>
  right
  unfold make;simp only[g,c]
  rw[if_neg Sm,if_pos Om]
  exact⟨rfl,Om⟩
 |some i =>
  left
  have⟨hi,e⟩:=jCD c
  have hm:make L n=((i:Int)+1,0,L):=by unfold make;simp only[g,c];rw[if_neg Sm]
  have f:inP L ((i:Int)+1)=true:=zI.2 ⟨Om,Om⟩
  have q:nodeOf L ((i:Int)+1)=n:=by rw[qJ hi,e]
  have w:=j.node f
  rw[q]at w
  refine⟨_,[],by rw[hm,append_nil],by rw[append_nil];exact f,by rw[append_nil];exact q,by rw[append_nil];exact j,?_,?_,Sm⟩
  grind
  grind
abbrev Grown(L:Pool)(T:Tree)(sz d:Int)(q:Int×Int×Pool):Prop:=(∃r M,q=(r,0,L++M)/\inP (L++M) r=true/\Wf (L++M)/\sizeOf (L++M) r=sz/\depthOf (L++M) r=d/\((L++M).length:Int)<=L.length+sz)\/(q.2.1=6/\65536<L.length+sz)
structure GP(T:Tree)(sz d:Int):Prop extends LP T sz d where
 grw:∀L,Wf L->sz<=4096->d<=64->Grown L T sz d (grow L T)
def GP0{k f t u x}(h:uA ⟨k,f,t,u,x,0,0⟩ 0=0):GP (.mk k f t u x []) 1 1:=by
 refine⟨LP0 h,fun L c h1 h2=>?_⟩;have⟨o1,o2,b⟩:=jJR h;have a:zB ⟨k,f,t,u,x,0,0⟩=[]:=by simp[zB,<-o2]
 rw[grow,zX];rcases zDC (n:=⟨k,f,t,u,x,0,0⟩) c o1 (fun _=>rfl) (fun _=>rfl) b (by rw[a];simp) (sz:=1) (d:=1) (by rw[a];rfl) (by rw[a];rfl) Om with⟨r,M,e,i,_,w,s,g,l⟩|⟨e,l⟩;grind;exact .inr ⟨e,Om⟩
def GP1{k f t u x A sa da}(h:uA ⟨k,f,t,u,x,0,0⟩ 1=0)(a:GP A sa da):GP (.mk k f t u x [A]) (1+sa) (da+1):=by
 refine⟨LP1 h a.toLP,fun L g h1 h2=>?_⟩;have⟨o1,o2,o⟩:=jJR h;have s1:=a.s1;have d1:=a.d1;rw[grow];rcases a.grw L g Om Om with⟨r,M,e,i,w,s,j,l⟩|⟨e,l⟩;rw[zX,e,if_neg Sm,if_pos rfl,zX];have b:zB ⟨k,f,t,u,x,r,0⟩=[r]:=by simp[zB,<-o2]
 rcases zDC (n:=⟨k,f,t,u,x,r,0⟩) w o1 Gd (fun _=>rfl) o Gd (sz:=1+sa) (d:=da+1) (by rw[b];simp[s]) (by rw[b];simp[j];omega) Om with⟨v,q,c,p,_,w',s',m,l'⟩|⟨c,l'⟩;grind;exact .inr ⟨c,Om⟩;rw[zX,if_pos (by rw[e];decide)];exact .inr ⟨e,Om⟩
def GP2{k f t u x A B sa da sb db}(h:uA ⟨k,f,t,u,x,0,0⟩ 2=0)(c:GP A sa da)(hB:GP B sb db):GP (.mk k f t u x [A,B]) (1+(sa+sb)) (max da db+1):=by
 refine⟨LP2 h c.toLP hB.toLP,fun L p h1 h2=>?_⟩;have⟨o1,o2,z⟩:=jJR h;have s1:=c.s1;have d1:=c.d1;have F:=hB.s1;have d2:=hB.d1;rw[grow];rcases c.grw L p Om Om with⟨r,M,e,i,w,s,v,l⟩|⟨e,l⟩;rw[zX,e,if_neg Sm,if_pos rfl];simp only;rcases hB.grw (L++M) w Om Om with⟨r2,D,b,i2,q,g,j,o⟩|⟨b,o⟩;rw[zX,b,if_neg Sm,if_neg Om,zX];have a:zB ⟨k,f,t,u,x,r,r2⟩=[r,r2]:=by simp[zB,<-o2]
 rcases zDC (n:=⟨k,f,t,u,x,r,r2⟩) q o1 Gd (fun hh=>by simp only at hh;omega) z (by rw[a];intro k a;simp at a;rcases a with rfl|rfl;exact uD i;exact i2) (sz:=1+(sa+sb)) (d:=max da db+1) (by rw[a];simp[-append_assoc,jGB i,s,g]) (by rw[a];simp[-append_assoc,jEC i,v,j];omega) Om with⟨G,E,m,C,_,w',s',y,l'⟩|⟨m,l'⟩;grind;exact .inr ⟨m,Om⟩;rw[zX,if_pos (by rw[b];decide)];exact .inr ⟨b,Om⟩;rw[zX,if_pos (by rw[e];decide)];exact .inr ⟨e,Om⟩
def GP.of{T sz d}(h:GP T sz d)(hs:sz<=4096)(b:d<=64){L}(a:Wf L):(Proofs.of L T).2.1=0\/(Proofs.of L T=(0,6,L)/\65536<L.length+sz):=by
 unfold Proofs.of;rw[h.yes 0 0 Om Om Om Om,if_neg Sm];rcases h.grw L a hs b with⟨r,M,e,_⟩|⟨e,l⟩;rw[e];simp;grind
def jCC{x}(h:x.size<=64):GP (qH x) 1 1:=GP0 (by
 have a:zJ ⟨3,0,0,0,x,0,0⟩=0:=Kf;have b:zM (shapeOf 3) ⟨3,0,0,0,x,0,0⟩=0:=by show(if false=true then(50:Int)else if x.size>64 then 1 else 0)=0;rw[if_neg Sm,if_neg Om]
 unfold uA;simp only[a];simpa[shapeOf]using b)
def jUM(c):GP (jCV c) 1 1:=GP0 Kf
def jBH{a b sa da sb db}(c:GP a sa da)(d:GP b sb db):GP (qV a b) (1+(sa+sb)) (max da db+1):=GP2 Kf c d
def jEA{n}(c:n=0\/n=1\/n=2){a sa da}(b:GP a sa da):GP (yX n a) (1+sa) (da+1):=GP1 (by rcases c with rfl|rfl|rfl<;>kernel_rfl) b
def jSO{n}(c:n=0\/n=1){a g sa da}(b:GP a sa da):GP (yS n a g) (1+sa) (da+1):=by
 unfold yS;cases g;exact GP1 (by rcases c with rfl|rfl<;>kernel_rfl) b;exact GP1 (by rcases c with rfl|rfl<;>kernel_rfl) b
def jSP(c){x}(h:x.size<=64):GP (qG c x) 5 3:=jBH (jCC De)<|jBH (jUM c)<|jCC h
def jPI{l}(f:l.frm=0\/l.frm=1)(g:l.text.size<=64)(a b):∃sz d,GP (zR l a b) sz d/\sz<=40/\d<=20:=by
 unfold zR;have e:=jSP l.c g;split;· exact⟨_,_,jSO f e,Om,Om⟩
 split;· exact⟨_,_,jEA (f.imp id .inl) e,Om,Om⟩
 split;· exact⟨_,_,jEA (.inl rfl)<|jBH (jCC De)<|jUM _,Om,Om⟩
 split;· exact⟨_,_,jEA (f.imp id .inl)<|jBH (jCC De)<|jBH (jSO (.inl rfl) e)<|jSO (.inr rfl) e,Om,Om⟩
 split;· exact⟨_,_,jEA (.inr<|.inr rfl)<|jBH (jCC De)<|jUM _,Om,Om⟩
 split;· exact⟨_,_,jEA (.inr<|.inr rfl)<|jBH (jCC De) e,Om,Om⟩
 exact⟨_,_,jBH (jCC De)<|jUM _,Om,Om⟩
section
variable {L M:Pool} {G:List Int} {ls:List Letter} {K:Int->Prop}
def zFL{T sz d}(h:GP T sz d)(hs:sz<=4096)(b:d<=64)(a:Wf L):((of L T).2.2.length:Int)<=L.length+sz:=by
 have:=h.s1;unfold of;rw[h.yes 0 0 Om Om Om Om,if_neg Sm];rcases h.grw L a hs b with⟨r,M,e,_,_,_,_,l⟩|⟨e,l⟩;rw[e];simpa using l;grind
def jXJ(a:Wf L)(l):(zC L l).2.2.length<=L.length+40:=by
 unfold zC;split;simp;rename_i h;have h:vJ l=0:=Classical.byContradiction h;have⟨k,f,c,x,g⟩:=l;have⟨_,b,_,_,_,e⟩:=jCX h;have⟨sz,d,i,hs,j⟩:=jPI (l:=⟨k,f,c,x,g⟩) b e true true;have:=zFL i Om Om a;omega
def jUI(c:Wf L)(f:L.length<65536){n}(b:n=0\/n=1\/n=2):(make L<|zT n).2.1=0/\(make L<|zT n).2.2.length<=L.length+1:=by
 have a:zB (zT n)=[]:=rfl;rcases zDC (n:=zT n) c (by rcases b with rfl|rfl|rfl<;>kernel_rfl) (fun _=>rfl) (fun _=>rfl) (by rcases b with rfl|rfl|rfl<;>kernel_rfl) (by rw[a];simp) (sz:=1) (d:=1) (by rw[a];rfl) (by rw[a];rfl) Om with⟨r,M,e,_,_,_,_,_,l⟩|⟨_,l⟩;rw[e];exact⟨rfl,l⟩;omega
def zDJ(b:Wf L){k n}(a:inP L k=true)(e:nodeOf L k=zT n):zA L k=jXM n:=by
 rw[zU b a,e];rfl
end
def f23:Letter:=⟨2,1,7,⟨#[116]⟩,false⟩
def jZS:(vY [] [] (qP f23).1).2.2=true/\(vY [] [] (qP f23).1).1.length<=100:=by
 refine⟨Kf,of_decide_eq_true Kf⟩
def hear_x(L G):vY L G [120]=(L,G,false):=by
 have a:(zW [120]).1=none:=Kf;have:(zW [120]).2.1≠0:=xN a;unfold vY qY;rw[a];simp only;rw[if_pos this]
def jGS(L M:Pool):Prop:=∀s,inP L s=true->∃t,inP M t=true/\zA L s=zA M t
section
variable {L M Y:Pool}
def jGS.nil:jGS [] M:=fun s h=>by have:=zI.1 h;simp at this;omega
def jGS.app(h:jGS L M)(a:Wf (M++Y)):jGS L (M++Y):=fun s hs=>by
 have⟨t,ht,e⟩:=h s hs;exact⟨t,uD ht,by rw[e,jHS a ht]⟩
def jGS.few(o:Wf L)(h:jGS L M){l:List Int}(m:l.Nodup)(hi:∀z∈l,inP M z=true)(p:∀z∈l,∀s,inP L s=true->zA L s≠zA M z):L.length+l.length<=M.length:=by
 have:∃φ:Int->Int,∀s,inP L s=true->inP M (φ s)=true/\zA L s=zA M (φ s):=by
  classical
  exact⟨fun s=>if hs:inP L s=true then(h s hs).choose else 0,fun s hs=>by simp only[dif_pos hs];exact(h s hs).choose_spec⟩
 have⟨φ,d⟩:=this;have c:∀i∈range L.length,inP L ((i:Int)+1)=true:=fun i hi=>zI.2 ⟨Om,Oh<|mem_range.1 hi⟩;have:=xV (L:=M) (l:=l++(range L.length).map fun i:Nat=>φ<|(i:Int)+1) (by
  rw[nodup_append];refine⟨m,?_,fun a n b k e=>?_⟩;refine pairwise_map.2<|List.Pairwise.imp_of_mem ?_ nodup_range;intro i j hi f g e;have a:=d _<|c i hi;have b:=d _<|c j f;have:=yF o _ _ _ rfl (c i hi) (c j f) (by rw[a.2,b.2,e]);omega;obtain⟨i,hi,rfl⟩:=mem_map.1 k;have a2:=d _<|c i hi;exact p a n _ (c i hi)<|by rw[a2.2,e]) Gd
 simp at this;omega
def jGS.len(a:Wf L)(h:jGS L M):L.length<=M.length:=by
 have:=h.few a (l:=[]) nodup_nil Sm Sm;simpa using this
def jMZ(L n){v}(c:inP (make L n).2.2 v=true):inP L v=true\/((make L n).2.1=0/\v=(make L n).1):=by
 unfold make at c|-;simp only at c|-;split at c;exact .inl c;rename_i h;rw[if_neg h];split at c;exact .inl c;rename_i h2;split at c;exact .inl c;rename_i h3;rw[if_neg h3];have⟨a,b⟩:=zI.1 c;simp at b;by_cases e:v=(L.length:Int)+1;exact .inr ⟨rfl,e⟩;exact .inl<|zI.2 ⟨a,Om⟩
def zHI(L G A o){v}:inP (yD L G A o).2.2 v=true->inP L v=true\/((yD L G A o).2.1=0/\v=(yD L G A o).1):=
 jID (fun r=>inP r.2.2 v=true->inP L v=true\/(r.2.1=0/\v=r.1)) (fun _ _ h=>.inl h) (fun n h=>jMZ L n h) G A o
def jGS.made{r1 r2}(h:jGS L M)(b:Wf r1.2.2)(a:Wf r2.2.2)(a1:∃X,r1.2.2=L++X)(a2:∃Y,r2.2.2=M++Y)(hr:RS r1 r2)(hi:∀v,inP r1.2.2 v=true->inP L v=true\/(r1.2.1=0/\v=r1.1)):jGS r1.2.2 r2.2.2:=fun v c=>by
 have⟨X,d⟩:=a1;have⟨Y,f⟩:=a2;rcases hi v c with h1|⟨g,rfl⟩;rw[f]at a|-;rw[d]at b|-;have⟨t,ht,e⟩:=h.app a v h1;exact⟨t,ht,by rw[jHS b h1,e]⟩;have:=hr.2 g;exact⟨_,this.m,this.e⟩
end
def jLG:∀(l:List Op) {L M:Pool} {G K A B:List Int},Wf L->Wf M->LR L M G K->LR L M A B->jGS L M->L.length+l.length<=65536->M.length+l.length<=65536->jGS (zZ L G A l).2.2 (zZ M K B l).2.2
 |[],_,_,_,_,_,_,_,_,_,_,hs,_,_=>hs
 |o :: l,L,M,G,K,A,B,k,h,g,i,hs,p,n=>by
  rw[length_cons]at p n;have hr:=jUQ k h g i o Om Om;have⟨e,r⟩:=hr;have s:=jFN L G A o;have t:=jFN M K B o;have b:=jCF k G A o;have a:=jCF h K B o;have c:=hs.made b a (tV L G A o) (tV M K B o) ⟨e,r⟩ fun v=>zHI L G A o;have⟨X,j⟩:=tV L G A o;have⟨Y,m⟩:=tV M K B o;have d:LR (yD L G A o).2.2 (yD M K B o).2.2 G K:=by rw[j]at b|-;rw[m]at a|-;exact g.app b a
  have f:LR (yD L G A o).2.2 (yD M K B o).2.2 A B:=by rw[j]at b|-;rw[m]at a|-;exact i.app b a
  unfold zZ;rw[<-e];split;exact c;rename_i q;exact jLG l b a d (f.snoc<|r<|Classical.byContradiction q) c Om Om
def jWV{Lq:Pool}(g:Wf Lq):∀(l seen:List Int) (L:Pool) (own:Int->Int),Cp Lq L own seen->(∀z∈l,inP Lq z=true)->zFX Lq seen l->jGS L Lq ->
  (zS Lq l L own).2.1=0/\jGS (zS Lq l L own).1 Lq:=by
 intro l
 induction l with
 |nil=>intro seen L own h _ _ hs;exact⟨rfl,hs⟩
 |cons z l y =>
  intro seen L own h s o hs
  have f:=s z Sm
  have i:=h.ren g f o.1
  generalize j:({ nodeOf Lq z with a:=own (nodeOf Lq z).a,b:=own (nodeOf Lq z).b }:Node)=n at i
  have m:=i.err g h.wf f
  have hst:=fun p=>h.step g f o.1 i p
  have d:=fun p=>i.made g h.wf f p
  have c:=fun v=>jMZ L n (v:=v)
  obtain⟨x,e,q,hm⟩:∃x e q,make L n=(x,e,q):=⟨_,_,_,rfl⟩
  rw[qA Lq z l L own j hm]
  rw[hm]at m hst d c
  simp only at m hst d c
  rcases m with rfl|⟨_,B,k⟩
  rw[if_neg Sm]
  have⟨_,A,w,r⟩:=d rfl
  refine y _ _ _ (hst rfl) Gd o.2 fun v u=>?_
  rcases c v u with h1|⟨_,rfl⟩
  have⟨t,ht,e⟩:=hs v h1
  exact⟨t,ht,by rw[(r v h1).2,e]⟩
  exact⟨z,f,w⟩
  have:=hs.few h.wf (l:=[z]) Sm (by simpa using f) (by simpa using k)
  have:=g.ok.few
  simp at *
  omega
def zAA{L Lq}(e:Wf L)(c:Wf Lq)(hs:jGS L Lq){t}(ht:inP Lq t=true):(vD L Lq t).2.1=0/\jGS (vD L Lq t).2.2 Lq:=by
 have⟨a,b⟩:=jWV c (subs Lq t) [] L (fun _=>0) (Cp.start e) (fun z d=>uU c d) (xB c t) hs;unfold vD;rw[if_pos ht];simp only;rw[if_neg (by rw[a];simp)];exact⟨rfl,b⟩
def jPX{Lq}(i:Wf Lq):∀(l seen:List Int) (L:Pool) (own:Int->Int),Cp Lq L own seen->(∀z∈l,inP Lq z=true)->zFX Lq seen l->L.length+l.length<=65536 ->
  ∀v,inP (zS Lq l L own).1 v=true->(inP L v=true/\zA (zS Lq l L own).1 v=zA L v)\/∃z∈l,zA (zS Lq l L own).1 v=zA Lq z:=by
 intro l
 induction l with
 |nil=>intro seen L own h _ _ _ v o;exact .inl ⟨o,rfl⟩
 |cons z l s =>
  intro seen L own h t k u
  have g:=t z Sm
  have j:=h.ren i g k.1
  generalize q:({ nodeOf Lq z with a:=own (nodeOf Lq z).a,b:=own (nodeOf Lq z).b }:Node)=n at j
  have p:=j.err i h.wf g
  have hst:=fun m=>h.step i g k.1 j m
  have c:=fun m=>j.made i h.wf g m
  have d:=fun v=>jMZ L n (v:=v)
  have f:=jFI L n
  obtain⟨x,e,r,hm⟩:∃x e r,make L n=(x,e,r):=⟨_,_,_,rfl⟩
  rw[qA Lq z l L own q hm]
  rw[hm]at p hst c d f
  simp only at p hst c d f
  rw[length_cons]at u
  rcases p with rfl|⟨_,C,w⟩
  rw[if_neg Sm]
  have⟨_,A,B,D⟩:=c rfl
  intro v o
  rcases s _ _ _ (hst rfl) Gd k.2 Om v o with⟨h1,h2⟩|⟨y,E,h2⟩
  grind
  grind
  omega
def jWU{L M q}(k:Wf L)(f:Wf M)(c:Wf q)(hs:jGS L M){t}(ht:inP q t=true)(p:L.length+q.length<=65536)(n:M.length+q.length<=65536):jGS (vD L q t).2.2 (vD M q t).2.2:=by
 have a:=(jAO k c ht p).1;have b:=(jAO f c ht n).1;have s:=uH c t;have⟨l,_⟩:=xW f c ht b;have⟨Y,r⟩:=jFP M q t;have hi:=jPX c (subs q t) [] L (fun _=>0) (Cp.start k) (fun z d=>uU c d) (xB c t) Om;have g:=jFQ c (subs q t) [] M (fun _=>0) (Cp.start f) (fun z d=>uU c d)<|xB c t;have m:(vD L q t).2.2=(zS q (subs q t) L fun _=>0).1:=by
  unfold vD at a|-;rw[if_pos ht]at a|-;simp only at a|-;split;grind;rfl
 have h:(vD M q t).2.2=(zS q (subs q t) M fun _=>0).1/\(zS q (subs q t) M fun _=>0).2.1=0:=by
  unfold vD at b|-;rw[if_pos ht]at b|-;simp only at b|-;split;grind;grind
 rcases g with⟨_,g⟩|⟨i,_⟩;intro v j;rw[m]at j|-;rcases hi v j with⟨h1,h2⟩|⟨z,d,h2⟩;rw[r]at l|-;have⟨u,o,e⟩:=hs.app l v h1;exact⟨u,o,h2.trans e⟩;have:=g.at_ z (by simpa using d);rw[h.1];exact⟨_,this.1,h2.trans this.2.symm⟩;rw[h.2]at i;cases i
structure Simq(L M:Pool)(G K:List Int):Prop where
 wl:Wf L
 wm:Wf M
 nl:yU L
 nm:yU M
 g:LR L M G K
 s:jGS L M
def Simq.nil:Simq [] [] [] []:=⟨Wf.nil,Wf.nil,yU.nil,yU.nil,LR.nil,jGS.nil⟩
section
variable {L M:Pool} {G K:List Int} (h:Simq L M G K)
include h
def Simq.len:L.length<=M.length:=h.s.len h.wl
def Simq.hear(bs)(c:2*M.length+bs.length<=131072):
  (vY L G bs).2.2=(vY M K bs).2.2/\Simq (vY L G bs).1 (vY M K bs).1 (vY L G bs).2.1 (vY M K bs).2.1/\2*(vY M K bs).1.length<=2*M.length+bs.length:=by
 have t:=h.len
 have⟨e,r⟩:=zDZ h.wl h.wm bs Om c
 have d:=zEA h.wm bs c
 have b:=jED h.wl bs;have a:=jED h.wm bs
 have n1:=jKF h.nl bs;have n2:=jKF h.nm bs
 have hs:jGS (qY L bs).2.2.2 (qY M bs).2.2.2:=by
  unfold qY;split;exact h.s;rename_i q f;have h2:=jCU f;have⟨j,_,k,_,_⟩:=uX f;exact jWU h.wl h.wm j h.s k Om Om
 have⟨X,n⟩:=jIE L bs
 have⟨Y,o⟩:=jIE M bs
 have i:LR (qY L bs).2.2.2 (qY M bs).2.2.2 G K:=by rw[n]at b|-;rw[o]at a|-;exact h.g.app b a
 unfold vY
 rw[<-e]
 split
 exact⟨rfl,⟨b,a,n1,n2,i,hs⟩,d⟩
 rename_i p
 have r:=r<|Classical.byContradiction p
 rw[tU r.l,tU r.m]
 exact⟨rfl,⟨b,a,n1,n2,i.addT b a r,hs⟩,d⟩
def Simq.corrupt(a b who)(j:M.length<65536):
  (zO L G a b who).1=(zO M K a b who).1/\Simq (zO L G a b who).2.1 (zO M K a b who).2.1 (zO L G a b who).2.2.1 (zO M K a b who).2.2.1/\(zO L G a b who).2.2.2=(zO M K a b who).2.2.2/\(zO M K a b who).2.1.length<=M.length+1:=by
 have q:=h.len
 have k:NR L M (zT who) (zT who):=⟨rfl,rfl,rfl,rfl,rfl,.inl ⟨rfl,rfl⟩,.inl ⟨rfl,rfl⟩⟩
 have⟨e,r⟩:=k.make h.wl h.wm Om j
 have d:=uM h.wl<|zT who;have c:=uM h.wm<|zT who
 have n1:yU (make L<|zT who).2.2:=h.nl.make jHB
 have n2:yU (make M<|zT who).2.2:=h.nm.make jHB
 have hs:=h.s.made d c (yO L _) (yO M _) ⟨e,r⟩ fun v=>jMZ L _
 have f:=jFI M<|zT who
 have⟨X,n⟩:=yO L<|zT who
 have⟨Y,o⟩:=yO M<|zT who
 have i:LR (make L<|zT who).2.2 (make M<|zT who).2.2 G K:=by rw[n]at d|-;rw[o]at c|-;exact h.g.app d c
 unfold zO
 split
 grind
 rw[<-e]
 split
 exact⟨rfl,⟨d,c,n1,n2,i,hs⟩,rfl,f⟩
 rename_i p
 have r:=r<|Classical.byContradiction p
 rw[tU r.l,tU r.m]
 exact⟨rfl,⟨d,c,n1,n2,i.addT d c r,hs⟩,rfl,f⟩
end
end Go.Proofs
end
