import Derived.Test.YtjjcakjoeiolgaaGreatPa3
import Derived.Test.YtjjcakjoeiolgaaGreatPa7
import Derived.Test.YtjjcakjoeiolgaaGreatPa5
import Derived.Test.YtjjcakjoeiolgaaGreatPa0
import Derived.Sort.Walk0
import Derived.Sort.Statements
import Derived.Shelf.SlSortCmp.Insertion
import Derived.Lib.SlicesCompact
import Init.Data.List.Lex
import Derived.Test.YtjjcakjoeiolgaaGreatPa4
import Derived.Test.YtjjcakjoeiolgaaGreatPa1
set_option linter.defProp false
set_option linter.unusedVariables false
set_option linter.unusedSimpArgs false
section
open Go Go.SE List
open Go.IntKind renaming i64 -> q6
open Go renaming World->af,Value->bk,Addr->ao,Ending->fb,Program->ez,TypeId->dz
open Option renaming some->ab,none->bo
open Bool renaming true->ai,false->ak
open Go.Builtin renaming append_->cm
open Prod.mk renaming injEq->ei
open Go.IntKind renaming u64->dc
namespace Go.Proofs
open Tryz
set_option maxRecDepth 100000
set_option maxHeartbeats 4000000
attribute [local irreducible] cr ed dv de Calls CallsD
attribute [local irreducible] ee W WV WR uP pv e0 eh fe ka ek el ev eu fa dw di dn fc eo kp yS xA yF bn ub
def pY(L:bw)(S:List ln)(t y:Int):Prop:=
 (∃v∈S,v.t=t/\v.mr≠0/\y=v.cj)\/(t∉zK S/\0<y/\(y=(sE L S t).1\/y=(sE L S t).2.1))
inductive Dp(L:bw)(S:List ln):Int->Int->Prop
 |refl (t:Int):Dp L S t t
 |step {t y z:Int}:pY L S t y->Dp L S y z->Dp L S t z
def pY.pU{L S t y a b f m}(h:sE L S t=(a,b,f,m))(ht:t∉zK S):pY L S t y↔0<y/\(y=a\/y=b):=by
 unfold pY;rw[h];constructor;rintro(⟨v,c,rfl,_⟩|⟨_,h⟩);exact absurd (mem_map.2 ⟨v,c,rfl⟩) ht;exact h;grind
def pY.wg{L S t y r f}(j:(zK S).Nodup)(b:SE.iv (S.map fun v=>(v.t,(v.mr,v.cj))) t=ab (r,f)):pY L S t y↔r≠0/\y=f:=by
 have i:=tV b;have⟨v,c,e⟩:=mem_map.1 i;simp only[ei]at e;obtain⟨rfl,rfl,rfl⟩:=e;have d:v.t∈zK S:=mem_map.2 ⟨v,c,rfl⟩;unfold pY;constructor;rintro(⟨u,g,e,k,rfl⟩|⟨h,_⟩);have a:((S.map fun v=>(v.t,(v.mr,v.cj))).map Prod.fst).Nodup:=by rw[map_map];exact j
 have h2:=jUI a<|mem_map.2 ⟨u,g,rfl⟩;rw[e,b]at h2;simp only[Option.some.injEq,ei]at h2;exact⟨Uc,h2.2.symm⟩;exact absurd d h;grind
def Dp.all{L:bw}{S:List ln}{M:List mf}(b:∀s∈M,∀y,pY L S s.t y->y∈M.map mf.t){t x:Int}(ht:t∈M.map mf.t)(h:Dp L S t x):x∈M.map mf.t:=by
 induction h with
 |refl=>exact ht
 |step c _ a =>
  obtain⟨s,hs,rfl⟩:=mem_map.1 ht
  exact a<|b s hs _ c
def CA(s:mf):List bk:=[vi s.mr,vi s.a,vi s.b,vi s.t]
def zFK:nY prog 169 173 4 32:=by
 refine⟨underlying169,⟨t173,_,Kf,(by kernel_rfl:t173.zero=ab (.agg #[vi 0,vi 0,vi 0,vi 0])),Kf,Kf,rfl⟩,Om⟩
def Jo(_:Unit):bk:=vb ai
def xz(B:List Int):List (Int×Unit):=B.map fun t=>(t,())
def Rx(B):(xz B).map Prod.fst=B:=by
 unfold xz;rw[map_map];exact map_id' B
def zEJ(B t):xz (B++[t])=xz B++[(t,())]:=by simp[xz]
def PW(ma mb:Nat)(c5:ao)(sl:Sl)(b:Nat):Prop:=b=ma\/b=mb\/b=c5.block\/sl.bg b
def jau(f:FuncId)(c1 c2 c3 c4 c5:ao):bk:=.func (.func f) #[] #[vp<|ab c1,vp<|ab c2,vp<|ab c3,vp<|ab c4,vp<|ab c5]
structure sO(w:af)(k:ao)(c1 c2 c3 c4 c5:ao)(ma mb:Nat)(sl:Sl)(l:List mf)(B:List Int):Prop where
 a1:w.cell? c1=ab (.map<|ab ma)
 a2:w.cell? c2=ab (.map<|ab mb)
 a3:w.cell? c3=ab (vp<|ab k)
 a4:w.cell? c4=ab (jau 160 c1 c2 c3 c4 c5)
 a5:az w c5 [sl.v] 169
 am:jm rH w ma (wH l)
 bm:jm Jo w mb (xz B)
 ls:c9 w 173 4 sl (l.map CA)
 d:∀b,PW ma mb c5 sl b->b≠c1.block/\b≠c2.block/\b≠c3.block/\b≠c4.block
 n1:ma≠mb
 n2:ma≠c5.block
 n3:mb≠c5.block
 n4:¬sl.bg ma
 n5:¬sl.bg mb
 n6:¬sl.bg c5.block
structure rD(w:af)(k p:ao)(c1 c2 c3 c4 c5:ao)(ma mb:Nat)(L:bw)(G:List Int)(S:List ln)(F FP:NP)(sl:Sl)(l:List mf)(B:List Int):Prop where
 ig:sO w k c1 c2 c3 c4 c5 ma mb sl l B
 ic:qC w k p G S F
 ew:zH w p L FP
 dF:∀b,F b->¬PW ma mb c5 sl b
 dP:∀b,FP b->¬PW ma mb c5 sl b
section
variable {w w':af} {k p c1 c2 c3 c4 c5:ao} {ma mb:Nat} {L:bw} {G:List Int} {S:List ln} {F FP:NP} {sl:Sl} {l:List mf} {B:List Int}
def sO.ext{X}(h:sO w k c1 c2 c3 c4 c5 ma mb sl l B)(a:aj X w w')(h1:∀b,PW ma mb c5 sl b->¬X b)(f:¬X c1.block)(g:¬X c2.block)(i:¬X c3.block)(c:¬X c4.block):sO w' k c1 c2 c3 c4 c5 ma mb sl l B:=
 ⟨a.cell h.a1 f,a.cell h.a2 g,a.cell h.a3 i,a.cell h.a4 c,h.a5.ext a<|h1 _<|.inr<|.inr<|.inl rfl,h.am.ext a<|h1 _<|.inl rfl,h.bm.ext a<|h1 _<|.inr<|.inl rfl,h.ls.ext a fun b e=>h1 b<|.inr<|.inr<|.inr e,h.d,h.n1,h.n2,h.n3,h.n4,h.n5,h.n6⟩
def sO.lt(h:sO w k c1 c2 c3 c4 c5 ma mb sl l B){b}(a:PW ma mb c5 sl b):b<w.heap.size:=by
 rcases a with rfl|rfl|rfl|a;exact h.am.lt;exact h.bm.lt;exact h.a5.lt;exact h.ls.lt a
def rD.ext{X n}(h:rD w k p c1 c2 c3 c4 c5 ma mb L G S F FP sl l B)(c:aj X w w')(i:∀b,X b->n<=b)(g:∀b,PW ma mb c5 sl b->b<n\/¬X b)(zc:c1.block<n/\c2.block<n/\c3.block<n/\c4.block<n)(d:∀b,F b->b<n)(e:∀b,FP b->b<n):rD w' k p c1 c2 c3 c4 c5 ma mb L G S F FP sl l B:=by
 have hx:∀b,b<n->¬X b:=fun b a f=>Uc;exact⟨h.ig.ext c Gd (hx _ zc.1) (hx _ zc.2.1) (hx _ zc.2.2.1)<|hx _ zc.2.2.2,h.ic.ext c fun b a=>hx b<|d b a,h.ew.ext c fun b a=>hx b<|e b a,h.dF,h.dP⟩
def rD.pure(h:rD w k p c1 c2 c3 c4 c5 ma mb L G S F FP sl l B)(E:aq w w'):rD w' k p c1 c2 c3 c4 c5 ma mb L G S F FP sl l B:=
 ⟨h.ig.ext E (fun _ _ h=>h) (fun h=>h) (fun h=>h) (fun h=>h) fun h=>h,h.ic.pure E,h.ew.pure E,h.dF,h.dP⟩
def rD.zc(h:rD w k p c1 c2 c3 c4 c5 ma mb L G S F FP sl l B):c1.block<w.heap.size/\c2.block<w.heap.size/\c3.block<w.heap.size/\c4.block<w.heap.size:=
 ⟨af.block_lt_of_cell? w _ h.ig.a1,af.block_lt_of_cell? w _ h.ig.a2,af.block_lt_of_cell? w _ h.ig.a3,af.block_lt_of_cell? w _ h.ig.a4⟩
def sO.Bf(h:sO w k c1 c2 c3 c4 c5 ma mb sl l B)(t:Int):∃w',(Instr.mapUpdate 232 (.map<|ab mb) (vi t)<|vb ai).run prog w=.ok () w'/\(∃c,(c=B\/c=B++[t])/\sO w' k c1 c2 c3 c4 c5 ma mb sl l c)/\aj (·=mb) w w':=by
 have f:=h.d mb<|.inr<|.inl rfl;have sW:∀{w':af} {c:List Int},jm Jo w' mb (xz c)->aj (·=mb) w w'->sO w' k c1 c2 c3 c4 c5 ma mb sl l c:=fun j a =>
  ⟨a.cell h.a1 fun e=>f.1 e.symm,a.cell h.a2 fun e=>f.2.1 e.symm,a.cell h.a3 fun e=>f.2.2.1 e.symm,a.cell h.a4 fun e=>f.2.2.2 e.symm,h.a5.ext a fun e=>h.n3 e.symm,h.am.ext a h.n1,j,h.ls.ext a fun b i e=>h.n5<|e▸i,h.d,h.n1,h.n2,h.n3,h.n4,h.n5,h.n6⟩
 cases g:SE.iv (xz B) t with
 |none =>
  have⟨w',h1,h2,h3⟩:=h.bm.put (P:=prog) (T:=232) underlying232 underlying73 g ()
  exact⟨w',h1,⟨_,.inr rfl,sW (by rw[zEJ];exact h2) h3⟩,h3⟩
 |some v =>
  cases v
  have⟨w',h1,h2,h3⟩:=h.bm.jg (P:=prog) (T:=232) underlying232 underlying73 g
  exact⟨w',h1,⟨_,.inl rfl,sW h2 h3⟩,h3⟩
def sO.jcb(h:sO w k c1 c2 c3 c4 c5 ma mb sl l B)(t:Int):(Instr.lookup 232 (.map<|ab mb) (vi t) ak).run prog w=.ok (vb<|decide (t∈B)) w:=by
 rcases h.bm.get (P:=prog) (T:=232) underlying232 underlying73 (zeroValue4 _) t ak with⟨h1,h2⟩|⟨v,h1,h2⟩;have b:t∉B:=by have:=uQ.1 h1;rwa [Rx]at this
 rw[decide_eq_false b];exact h2;have a:t∈B:=by have:=tV h1;rw[<-Rx B];exact mem_map.2 ⟨_,this,rfl⟩
 rw[decide_eq_true a];exact h2
end
structure IZ(w0:af)(k p:ao)(c1 c2 c3 c4 c5:ao)(ma mb:Nat)(L:bw)(G:List Int)(S:List ln)(F FP:NP)(sl:Sl)(l:List mf)(t r:Int)(ok:Bool)(w':af)(a:Sl)(M:List mf)(c:List Int):Prop where
 st:rD w' k p c1 c2 c3 c4 c5 ma mb L G S F FP a (l++M) c
 ig:rU L G (fun x=>x∈zK S) (l++M) c
 bu:∀s∈M,pw S s.t<=pw S t/\(mw L t s.t\/s.t∈zK S)
 zy:ok=ai->∃i,r=((i:Nat):Int)/\∃hi:i<(l++M).length,(l++M)[i].t=t
 Aq:ok=ai↔iw L (fun x=>x∈zK S) t
 ext:aj (PW ma mb c5 sl) w0 w'
 bf:∀b,a.bg b->sl.bg b\/w0.heap.size<=b
 UO:ok=ai->M=[]\/ry (l++M) (((l++M).length:Int)-1)=t
 dp:∀s∈M,Dp L S t s.t
 cl:∀s∈M,∀y,pY L S s.t y->y∈(l++M).map mf.t
structure rG(w0:af)(H:NP)(w:af)(k p:ao)(c1 c2 c3 c4 c5:ao)(ma mb:Nat)(L:bw)(G:List Int)(S:List ln)(F FP:NP)(sl:Sl)(l:List mf)(t:Int)(sl1:Sl)(M B:_):Prop where
 st:rD w k p c1 c2 c3 c4 c5 ma mb L G S F FP sl1 (l++M) B
 ig:rU L G (fun x=>x∈zK S) (l++M) B
 bu:∀s∈M,pw S s.t<pw S t/\(mw L t s.t\/s.t∈zK S)
 ext:aj (PW ma mb c5 sl) w0 w
 bf:∀b,sl1.bg b->sl.bg b\/w0.heap.size<=b
 lf:∀b,sl1.bg b->¬H b
 hs:au w0 H w H w
 dp:∀s∈M,Dp L S t s.t
 cl:∀s∈M,∀y,pY L S s.t y->y∈(l++M).map mf.t
section
variable {w0 w w':af} {H H':NP} {k p c1 c2 c3 c4 c5:ao} {ma mb:Nat} {L:bw} {G:List Int} {S:List ln} {F FP:NP} {sl sl1 sl2:Sl} {l M M2:List mf} {B0 B B2:List Int} {t:Int}
def PW.old(h:rD w0 k p c1 c2 c3 c4 c5 ma mb L G S F FP sl l B0)(c:∀b,sl1.bg b->sl.bg b\/w0.heap.size<=b):∀b,PW ma mb c5 sl1 b->b<w0.heap.size->PW ma mb c5 sl b:=by
 rintro b (a|a|a|a) d;exact .inl a;exact .inr<|.inl a;exact .inr<|.inr<|.inl a;exact(c b a).elim (fun h=>.inr<|.inr<|.inr h) fun h=>Om
def rG.nh(h:rG w0 H w k p c1 c2 c3 c4 c5 ma mb L G S F FP sl l t sl1 M B)(a:rD w0 k p c1 c2 c3 c4 c5 ma mb L G S F FP sl l B0):∀b,PW ma mb c5 sl1 b->¬H b:=by
 have old:∀b,b<w0.heap.size->¬H b:=fun b c hh=>Oh<|h.hs.old b hh;rintro b (rfl|rfl|rfl|c);exact old _<|a.ig.lt<|.inl rfl;exact old _<|a.ig.lt<|.inr<|.inl rfl;exact old _<|a.ig.lt<|.inr<|.inr<|.inl rfl;exact h.lf b c
def rG.bh(h:rG w0 H w k p c1 c2 c3 c4 c5 ma mb L G S F FP sl l t sl1 M B)(c:rD w0 k p c1 c2 c3 c4 c5 ma mb L G S F FP sl l B0)(hs:au w0 H w H' w'):rG w0 H' w' k p c1 c2 c3 c4 c5 ma mb L G S F FP sl l t sl1 M B:=by
 have d:=hs.mn (G:=PW ma mb c5 sl1) fun b a=>⟨h.st.ig.lt a,h.nh c b a⟩;exact⟨h.st.ext hs.ext hs.old (fun b a=>.inr<|d b a) c.zc (fun b a=>c.ic.lt a) fun b a=>c.ew.lt a,h.ig,h.bu,h.ext.bh hs,h.bf,fun b a=>d b<|.inr<|.inr<|.inr a,hs.jj,h.dp,h.cl⟩
def rG.step{u r ok}(h:rG w0 H w k p c1 c2 c3 c4 c5 ma mb L G S F FP sl l t sl1 M B)(m:rD w0 k p c1 c2 c3 c4 c5 ma mb L G S F FP sl l B0)(a:IZ w k p c1 c2 c3 c4 c5 ma mb L G S F FP sl1 (l++M) u r ok w' sl2 M2 B2)(o:pw S u<pw S t)(d:mw L t u\/u∈zK S)(f:∀x,u∈zK S->pw S x<=pw S u->x∈zK S)(e:pY L S t u):
  av H w w'/\rG w0 H w' k p c1 c2 c3 c4 c5 ma mb L G S F FP sl l t sl2 (M++M2) B2:=by
 have j:=a.ext.ff fun b c hx=>h.nh m b hx c
 refine⟨j,by rw[<-append_assoc];exact a.st,by rw[<-append_assoc];exact a.ig,fun s hs=>?_,h.ext.ft a.ext fun i hi c=>PW.old m h.bf i c hi,fun b c=>?_,fun b c hh=>?_,h.hs.jg j,fun s hs=>?_,fun s hs y g=>?_⟩
 rcases mem_append.1 hs with hs|hs
 exact h.bu s hs
 have⟨n,q2⟩:=a.bu s hs
 refine⟨Om,?_⟩
 rcases q2 with q2|q2
 rcases d with h1|h1
 exact .inl<|h1.trans q2
 exact .inr<|f _ h1 n
 exact .inr q2
 rcases a.bf b c with h1|h1
 exact h.bf b h1
 right;have:=h.ext.size;omega
 rcases a.bf b c with h1|h1
 exact h.lf b h1 hh
 have:=h.hs.lt b hh;omega
 rcases mem_append.1 hs with hs|hs
 exact h.dp s hs
 exact .step e<|a.dp s hs
 rw[<-append_assoc]
 rcases mem_append.1 hs with hs|hs
 rw[map_append];exact mem_append_left _<|h.cl s hs y g
 exact a.cl s hs y g
end
def jQH{S u x}(a:u∈zK S)(h:pw S x<=pw S u):x∈zK S:=by
 refine Classical.byContradiction fun hx=>?_;have:=Ky a;rw[GA hx]at h;omega
abbrev pM(L:bw)(S:List ln):=iw L fun x=>x∈zK S
def U9(k p c1 c2 c3 c4 D:ao)(ma mb:Nat){L:bw}{G:List Int}{S:List ln}{F FP:NP}(hW:Wf L)(hk:rK L G S):∀(n:Nat)(t:Int)V sl(l:List mf)(B:List Int),pw S t<n ->
  rD V k p c1 c2 c3 c4 D ma mb L G S F FP sl l B->rU L G (fun x=>x∈zK S) l B ->
  cl 160 #[vi t,vp (ab c1),vp (ab c2),vp (ab c3),vp (ab c4),vp (ab D)] V (XE fun r ok w'=>∃sl' M B',IZ V k p c1 c2 c3 c4 D ma mb L G S F FP sl l t r ok w' sl' M B'):=by
 intro n
 induction n with
 |zero=>intro t V sl l B h;omega
 |succ n ih =>
 intro t V sl l B hrk J hp0
 suffices key:∀K:Int->Bool->WP,(∀r ok w' sl' M B',IZ V k p c1 c2 c3 c4 D ma mb L G S F FP sl l t r ok w' sl' M B'->K r ok w')->IL t c1 c2 c3 c4 D V K from
  Tq _ _ _ _ _ _ V _ (key _ fun r ok w' sl' M B' h=>⟨sl',M,B',h⟩)
 intro K hK
 unfold IL
 rcases J.ig.am.get (P:=prog) (T:=231) underlying231 underlying73 (zeroValue3 _) t ai with⟨hl,hrun⟩|⟨v,hl,hrun⟩
 case inr =>
  obtain⟨i,hi,rfl,oy⟩:=Xi hl
  refine⟨_,J.ig.a1,_,ai,hrun,Br.t rfl (hK _ _ V sl [] B ⟨Uc,Uc,Sm,fun _=>⟨i,rfl,Uc,Uc⟩,⟨fun _=>oy▸hp0.Aq _ (getElem_mem hi),fun _=>rfl⟩,aj.refl _,fun b g=>.inl g,fun _=>.inl rfl,Sm,Sm⟩)⟩
 case inl =>
 have htl:=Pk.1 hl
 refine⟨_,J.ig.a1,_,ak,hrun,Br.f rfl ?_⟩
 intro H1 w2 hs2
 have old:∀{H:NP} {w:af},au V H w H w->∀b,b<V.heap.size->¬H b:=fun hs b g hh=>Oh (hs.old b hh)
 have C0:rG V bl V k p c1 c2 c3 c4 D ma mb L G S F FP sl l t sl [] B:=⟨Uc,Uc,Sm,aj.refl _,fun b g=>.inl g,fun b _ h=>h,au.start V,Sm,Sm⟩
 have C2:=C0.bh J hs2
 have c5h:∀{H:NP} {w:af} {j:Sl} {M B1:_},rG V H w k p c1 c2 c3 c4 D ma mb L G S F FP sl l t j M B1->¬H D.block:=fun C=>C.nh J _ (.inr (.inr (.inl rfl)))
 have J1f:∀(r a b:Int)H w j(M:List mf)(B1:List Int),rG V H w k p c1 c2 c3 c4 D ma mb L G S F FP sl l t j M B1->¬pM L S t->yg t c1 c2 D ak r a b t H w K:=by
  intro r a b H w j M B1 C hnd;refine Br.t rfl ?_;have⟨w5,hr5,⟨B',hB',P5⟩,E5⟩:=C.st.ig.Bf t;have hmb:=C.nh J mb (.inr (.inl rfl));have hpb:rU L G (fun x=>x∈zK S) (l++M) B':=by
   rcases hB' with rfl|rfl
   .exact C.ig
   .exact C.ig.jck hnd
  refine⟨_,C.st.ig.a2,w5,hr5,E5.ff fun b g e=>hmb (e▸g),hK 0 ak w5 j M B' ⟨⟨P5,C.st.ic.ext E5 fun b g e=>C.st.dF b g (.inr (.inl e)),C.st.ew.ext E5 fun b g e=>C.st.dP b g (.inr (.inl e)),C.st.dF,C.st.dP⟩,hpb,fun s hs=>⟨Nat.le_of_lt (C.bu s hs).1,(C.bu s hs).2⟩,(fun h=>Uc),⟨(fun h=>Uc),fun h=>absurd h hnd⟩,C.ext.ft E5 fun i hi e=>.inr (.inl e),C.bf,(fun h=>Uc),C.dp,C.cl⟩⟩
 have J1t:∀(r a b:Int)H w j(M:List mf)(B1:List Int),rG V H w k p c1 c2 c3 c4 D ma mb L G S F FP sl l t j M B1->qb L G (l++M) ⟨r,a,b,t⟩=ai->pM L S t->(∀y,pY L S t y->y∈(l++M).map mf.t)->yg t c1 c2 D ai r a b t H w K:=by
  intro r a b H w j M B1 C hfol hdt hdp;refine Br.f rfl ?_;have hsl:j.ay=(l++M).length:=by rw[C.st.ig.ls.ay];simp
  have hfew:=C.ig.jl;have hL6:=hW.ok.jl;have htn:t∉(l++M).map mf.t:=by
   rw[map_append,mem_append];rintro(h|h)
   .exact htl h
   .have⟨s,hs,e⟩:=mem_map.1 h;have:=(C.bu s hs).1;rw[e]at this;omega
  have hlk:=Pk.2 htn;have⟨w5,hr5,I5,E5⟩:=C.st.ig.am.put (P:=prog) (T:=231) underlying231 underlying73 hlk ((l++M).length:Int);have hma:=C.nh J ma (.inl rfl);have b5:az w5 D [j.v] 169:=C.st.ig.a5.ext E5 fun e=>C.st.ig.n2 e.symm;refine⟨_,C.st.ig.a1,j,C.st.ig.a5.dj,w5,by rw[hsl];exact hr5,E5.ff fun b g e=>hma (e▸g),j,b5.dj,?_⟩;intro p3 w7 h7;have E7:aq w5 w7:=aj.bu h7;have ls7:=(C.st.ig.ls.ext E5 fun b g e=>C.st.ig.n4 (e▸g)).pure E7;have⟨s1,w8,hr8,R8,X8,f8⟩:=ls7.append (P:=prog) (ty:=169) (c:=1) zFK (r:=CA ⟨r,a,b,t⟩) (az.fi h7).row rfl rfl Uc (by simp[maxLen]at hfew|-;omega);have b8:az w8 D [j.v] 169:=(b5.pure E7).ext X8 C.st.ig.n6;refine⟨s1,w8,hr8,X8.ff fun b g hx=>C.lf b hx g,b8.mi Sm,c5h C,?_⟩;rintro _ rfl;have E9:=aj.setCell (w:=w8) D s1.v;have z5:w.heap.size<=w7.heap.size:=Oi E5.size E7.size;have f8':∀b,s1.bg b->j.bg b\/w.heap.size<=b:=fun b g=>(f8 b g).imp_right fun h=>Om;have X:=(((E5.mono fun b _ e=>.inl e).trans (E7.pure (F:=PW ma mb D j))).trans (X8.mono fun b _ h=>.inr (.inr (.inr h)))).trans (E9.mono fun b _ e=>.inr (.inr (.inl e)));have nx:∀{b},(b=c1.block\/b=c2.block\/b=c3.block\/b=c4.block)->¬PW ma mb D j b:=fun g hx=>by
   have⟨d1,d2,d3,d4⟩:=C.st.ig.d _ hx;rcases g with h|h|h|h
   .exact d1 h
   .exact d2 h
   .exact d3 h
   .exact d4 h
  have vx:∀{b},PW ma mb D j b->b<w.heap.size:=fun g=>C.st.ig.lt g;have I9:jm rH (w8.setCell D s1.v) ma (wH ((l++M)++[⟨r,a,b,t⟩])):=by
   rw[Sa];exact((I5.pure E7).ext X8 C.st.ig.n4).ext E9 C.st.ig.n2
  have P9:sO (w8.setCell D s1.v) k c1 c2 c3 c4 D ma mb s1 ((l++M)++[⟨r,a,b,t⟩]) B1:=by
   refine⟨X.cell C.st.ig.a1 (nx (.inl rfl)),X.cell C.st.ig.a2 (nx (.inr (.inl rfl))),X.cell C.st.ig.a3 (nx (.inr (.inr (.inl rfl)))),X.cell C.st.ig.a4 (nx (.inr (.inr (.inr rfl)))),b8.nw,I9,?_,?_,?_,C.st.ig.n1,C.st.ig.n2,C.st.ig.n3,?_,?_,?_⟩
   .have:=((C.st.ig.bm.ext E5 fun e=>C.st.ig.n1 e.symm).pure E7).ext X8 C.st.ig.n5;exact this.ext E9 C.st.ig.n3
   .have hne : ∀ b, s1.bg b -> b ≠ D.block:=fun b g e => by
     rcases f8' b g with h|h
     .exact C.st.ig.n6 (e▸h)
     .have:=vx (.inr (.inr (.inl rfl)));omega
    have:=R8.ext E9 hne;simpa using this
   .rintro b (g|g|g|g)
    .exact C.st.ig.d b (.inl g)
    .exact C.st.ig.d b (.inr (.inl g))
    .exact C.st.ig.d b (.inr (.inr (.inl g)))
    .rcases f8' b g with h|h
     .exact C.st.ig.d b (.inr (.inr (.inr h)))
     .have:=C.st.zc;omega
   .intro g;rcases f8' _ g with h|h
    .exact C.st.ig.n4 h
    .have:=vx (.inl rfl);omega
   .intro g;rcases f8' _ g with h|h
    .exact C.st.ig.n5 h
    .have:=vx (.inr (.inl rfl));omega
   .intro g;rcases f8' _ g with h|h
    .exact C.st.ig.n6 h
    .have:=vx (.inr (.inr (.inl rfl)));omega
  have hlk9:SE.iv (wH ((l++M)++[⟨r,a,b,t⟩])) t=ab ((l++M).length:Int):=by
   rw[Sa,M4 (by rw[Oq];exact htn),bt rfl]
  rcases I9.get (P:=prog) (T:=231) underlying231 underlying73 (zeroValue3 _) t ak with⟨hx,_⟩|⟨v,hv,hrun9⟩
  .rw[hx]at hlk9;cases hlk9
  .rw[hv] at hlk9;cases hlk9;have dg:∀{Z:NP},(∀b,Z b->b<w.heap.size)->(∀b,Z b->¬ PW ma mb D j b)->∀b,Z b->¬ PW ma mb D s1 b:=fun hz h b g hx=>by
    rcases hx with hx|hx|hx|hx
    .exact h b g (.inl hx)
    .exact h b g (.inr (.inl hx))
    .exact h b g (.inr (.inr (.inl hx)))
    .rcases f8' b hx with h'|h'
     .exact h b g (.inr (.inr (.inr h')))
     .have:=hz b g;omega
   refine⟨_,P9.a1,_,hrun9,hK _ ai _ s1 (M++[⟨r,a,b,t⟩]) B1 ⟨⟨Uc,C.st.ic.ext X fun b g=>C.st.dF b g,C.st.ew.ext X fun b g=>C.st.dP b g,dg (fun b g=>C.st.ic.lt g) C.st.dF,dg (fun b g=>C.st.ew.lt g) C.st.dP⟩,by rw[<-append_assoc];exact C.ig.te hfol htn hdt,fun s hs=>?_,fun _=>⟨(l++M).length,rfl,Sm,Sm⟩,⟨fun _=>hdt,fun _=>rfl⟩,C.ext.ft X fun i hi g=>PW.old J C.bf i g hi,fun b g=>?_,fun _=>.inr ?_,fun s hs=>?_,fun s hs y hy=>?_⟩⟩
   .rcases mem_append.1 hs with hs|hs
    .exact⟨Nat.le_of_lt (C.bu s hs).1,(C.bu s hs).2⟩
    .simp at hs;subst hs;exact⟨Nat.le_refl _,.inl (.refl t)⟩
   .rcases f8' b g with h|h
    .exact C.bf b h
    .right;have:=C.ext.size;omega
   .rw[<-append_assoc];have e:((((l++M)++[(⟨r,a,b,t⟩:mf)]).length:Int)-1)=((l++M).length:Int):=So;rw[e,Bk Sm];simp
   .rcases mem_append.1 hs with hs|hs
    .exact C.dp s hs
    .simp at hs;subst hs;exact .refl t
   .rw[<-append_assoc,map_append];refine mem_append_left _ ?_;rcases mem_append.1 hs with hs|hs
    .exact C.cl s hs y hy
    .simp at hs;subst hs;exact hdp y hy
 have U : ∀(u:Int)H w j(M:List mf)(B1:List Int), rG V H w k p c1 c2 c3 c4 D ma mb L G S F FP sl l t j M B1 -> pw S u < pw S t -> (mw L t u \/ u ∈ zK S) -> pY L S t u -> ∀ (Q : Int -> Bool -> WP),
   (∀(r:Int)(ok:Bool)w' A(O:List mf)(B2:List Int),rG V H w' k p c1 c2 c3 c4 D ma mb L G S F FP sl l t A (M++O) B2->(ok=ai↔pM L S u)->(ok=ai->∃i,r=((i:Nat):Int)/\∃hi:i<(l++(M++O)).length,(l++(M++O))[i].t=u)->av H w w'->Q r ok w') ->
   ∃v13:bk,w.cell? c4=ab v13/\∃(f1:FuncId) (fs1 cs1:Array bk),v13=.func (.func f1) fs1 cs1/\(∀args w,(callFunc f1 args).run prog w=.ok (.enter f1 args) w)/\Calls prog f1 (fs1++#[(vi u)]++cs1) w (XE fun r1 r2 w'=>av H w w'/\Q r1 r2 w'):=by
  intro u H w j M B1 C hu hsub hdep Q hQ
  refine⟨_,C.st.ig.a4,160,#[],_,rfl,call160,?_⟩
  refine(ih u w j (l++M) B1 Om C.st C.ig).mono ?_
  rintro _ w' ⟨r,ok,rfl,A,O,B2,hret⟩
  have⟨hkp,C2⟩:=C.step J hret hu hsub (fun x hu hx=>jQH hu hx) hdep
  refine⟨r,ok,rfl,hkp,hQ r ok w' A O B2 C2 hret.Aq (fun h=>?_) hkp⟩
  have⟨i,e,hi,oy⟩:=hret.zy h
  refine⟨i,e,Uc,?_⟩
  simpa[append_assoc]using oy
 have⟨sg,m,sk,k2,hF2⟩:=C2.st.ic
 have⟨vr,vf,hlook,hway⟩:=k2.iv t
 refine⟨_,C2.st.ig.a2,_,C2.st.ig.jcb t,_,C2.st.ig.a3,k,rfl,_,k2.box.cell rfl,vr,vf,_,hlook,fun hc=>?_,fun hc=>?_⟩
 .-- it is bM
  have o:t∈zK S:=Uc
  have hdt:pM L S t:=.bM o
  have hnB:=decide_eq_false fun g=>hp0.Bf t g hdt
  have hin:=hk.kq t o
  have N:¬bj L t=ak:=Uc
  rw[hnB]
  rcases XX hk.toqj (tV (hway o))with⟨rfl,rfl,hg⟩|⟨hne,hari,hfs,hrf⟩
  .refine⟨fun h=>Uc,fun _=>?_⟩
   intro H2 w10 hs10
   have C10:=C2.bh J hs10
   refine J1t 0 0 0 H2 w10 sl [] B C10 ?_ hdt fun y hy=>absurd rfl ((pY.wg hk.qu (hway o)).1 hy).1
   unfold qb;rw[aw N,bt rfl];simp[hg]
  .refine⟨fun _=>?_,fun h=>absurd Uc hne⟩
   intro H2 w10 hs10
   have C10:=C2.bh J hs10
   refine U vf H2 w10 sl [] B C10 hrf (.inr hfs) ((pY.wg hk.qu (hway o)).2 ⟨hne,rfl⟩) _ ?_
   intro r1 ok w11 A O B2 C11 hd11 hi11 _ w12 hs12
   have C12:=C11.bh J hs12
   obtain⟨i,rfl,hi,oy⟩:=hi11 (hd11.2 (.bM hfs))
   refine J1t vr i 0 H2 w12 A _ B2 C12 ?_ hdt (fun y hy=>by rw[((pY.wg hk.qu (hway o)).1 hy).2];exact mem_map.2 ⟨_,getElem_mem hi,oy⟩)
   have hr:=hari.mr
   unfold qb
   rw[aw N,aw hne,bt hr]
   have h1:=Bg hi
   have h2:=Bk hi
   rw[oy]at h2
   simp only[h1,h2,Bool.true_and,Bool.and_eq_true,beq_iff_eq,true_and]
   exact(jVO hr).2 hari
 .-- it is not
  have o:t∉zK S:=Uc
  refine⟨fun g=>?_,fun g=>?_⟩
  .intro H2 w4 hs4
   have C4:=C2.bh J hs4
   refine⟨_,C4.st.ig.a3,?_⟩
   refine(zAC k p t w4 C4.st.ic C4.st.ew hW).mono ?_
   rintro _ w13 ⟨r3,r4,r5,r6,rfl,z,E13⟩
   refine⟨r3,r4,r5,r6,rfl,E13.dy,?_⟩
   have C13:rG V H2 w13 k p c1 c2 c3 c4 D ma mb L G S F FP sl l t sl [] B:=⟨C4.st.pure E13,C4.ig,C4.bu,C4.ext.mh E13,C4.bf,C4.lf,C4.hs.jg E13.dy,C4.dp,C4.cl⟩
   have J2 : ∀H w j(M:List mf)(B1:List Int)(ok4:Bool)(rl a:Int), rG V H w k p c1 c2 c3 c4 D ma mb L G S F FP sl l t j M B1 ->
     (ok4=ak->¬pM L S t) ->
     (ok4=ai->r4<=0->qb L G (l++M) ⟨rl,a,0,t⟩=ai/\pM L S t) ->
     (ok4=ai->0<r4->pw S r4<pw S t/\(mw L t r4\/r4∈zK S)/\(pM L S r4->pM L S t)/\(pM L S t->pM L S r4) /\
      ∀O (i:Nat) (hi:i<(l++(M++O)).length),(l++(M++O))[i].t=r4->qb L G (l++(M++O)) ⟨rl,a,i,t⟩=ai) ->
     (ok4=ai->0<r3->r3∈(l++M).map mf.t) ->
     Gu t c1 c2 c4 D r4 ok4 rl a 0 t V H w K:=by
    intro H w j M B1 ok4 rl a C h1 h2 h3 h4
    refine⟨fun hc=>?_,fun hc=>?_⟩
    .rw[Bool.and_eq_true]at hc
     have⟨hok,hpos⟩:=hc
     have hpos:=ij hpos
     have⟨g1,g2,g3,g4,g5⟩:=h3 hok hpos
     intro H5 w19 hs19
     have C19:=C.bh J hs19
     refine U r4 H5 w19 j M B1 C19 g1 g2 ((pY.pU z.symm o).2 ⟨hpos,.inr rfl⟩) _ ?_
     intro r7 r8 w20 A O B2 C20 hd20 hi20 _ w21 hs21
     have C21:=C20.bh J hs21
     cases r8 with
     |false=>exact J1f _ _ _ H5 w21 A _ B2 C21 fun Y=>Uc
     |true =>
      obtain⟨i,rfl,hi,oy⟩:=hi20 rfl
      refine J1t _ _ _ H5 w21 A _ B2 C21 (g5 O i hi oy) (g3 (hd20.1 rfl)) fun y hy=>?_
      rcases(pY.pU z.symm o).1 hy with⟨hy0,e|e⟩
      .subst e
       rw[<-append_assoc,map_append]
       exact mem_append_left _ (h4 hok hy0)
      .subst e
       exact mem_map.2 ⟨_,getElem_mem hi,oy⟩
    .intro H5 w19 hs19
     have C19:=C.bh J hs19
     cases ok4 with
     |false=>exact J1f _ _ _ H5 w19 j M B1 C19 (h1 rfl)
     |true =>
      have hle:r4<=0:=Uc
      have⟨q1,q2⟩:=h2 rfl hle
      refine J1t _ _ _ H5 w19 j M B1 C19 q1 q2 fun y hy=>?_
      rcases(pY.pU z.symm o).1 hy with⟨hy0,e|e⟩
      .subst e;exact h4 rfl hy0
      .omega
   cases hin:bj L t with
   |false =>
    have hm:sE L S t=(0,0,ak,ak):=by unfold sE;rw[bt hin]
    rw[hm]at z;cases z
    have hnd:¬pM L S t:=fun Y=>by
     have hnode:ar L t=uZ:=by unfold ar;rw[yD hin];rfl
     rcases Y.pT with h|h|⟨h,_⟩|⟨h,_⟩|⟨h,_⟩
     .exact o h
     all_goals (rw[hnode]at h;exact absurd h De)
    refine⟨fun h=>Uc,fun _=>?_⟩
    intro H4 I q
    exact J2 H4 I sl [] B ak _ _ (C13.bh J q) (fun _=>hnd) (fun h=>Uc) (fun h=>Uc) fun h=>Uc
   |true =>
   have N:¬bj L t=ak:=Uc
   have ht1:=(zG.1 hin).1
   generalize E:ar L t=n at *
   have hm:=z
   unfold sE at hm
   rw[aw N,E]at hm
   have kx:∀x∈zB n,bj L x=ai/\x<t:=by have:=(hW.dr hin).2.2.2.2.1;rw[E]at this;exact this
   rcases xXq hW hin with hk1|R|hk5|hk6|hk7
   .rw[E]at hk1
    rw[bt hk1]at hm;cases hm
    refine⟨fun h=>Uc,fun _=>?_⟩
    intro H4 I q
    have Y:pM L S t:=.free Uc
    refine J2 H4 I sl [] B ai _ _ (C13.bh J q) (fun h=>Uc) (fun _ _=>⟨?_,Y⟩) (fun _ h=>Om) fun _ h=>Om
    unfold qb;rw[aw N,E];simp[hk1]
   .rw[E]at R
    rw[aw (by rw[R];decide),bt R]at hm;cases hm
    have ha:=kx n.a (A8 (.inl R))
    have hb':=kx n.b (O6 R)
    have ha1:=(zG.1 ha.1).1
    have hb1:=(zG.1 hb'.1).1
    have sa:mw L t n.a:=.ku (.refl t) (by rw[E];exact A8 (.inl R))
    have sb:mw L t n.b:=.ku (.refl t) (by rw[E];exact O6 R)
    have pT:pM L S t->pM L S n.a/\pM L S n.b:=fun Y=>by
     rcases Y.pT with h|h|⟨_,h1,h2⟩|⟨h,_⟩|⟨h,_⟩
     .exact absurd h o
     .rw[E,R]at h;exact absurd h De
     .rw[E]at h1 h2;exact⟨h1,h2⟩
     .rw[E,R]at h;cases h
     .rw[E,R]at h;exact absurd h De
    refine⟨fun _=>?_,fun h=>Uc⟩
    intro H4 I q
    refine U n.a H4 I sl [] B (C13.bh J q) (DO o ha1 ha.2) (.inl sa) ((pY.pU z.symm o).2 ⟨Om,.inl rfl⟩) _ ?_
    intro r9 r10 w22 A O B2 C22 hd22 hi22 _ w23 hs23
    have C23:=C22.bh J hs23
    refine J2 H4 w23 A _ B2 r10 _ _ C23 (fun h Y=>Uc) (fun _ h=>Om) (fun h _=>⟨DO o hb1 hb'.2,.inl sb,fun Y=>.ru Uc Uc Uc,fun Y=>(pT Y).2,?_⟩) fun h _=>Uc
    intro M3 i hi oy
    obtain⟨i1,rfl,hi1,W⟩:=hi22 h
    have hi1':i1<(l++(([]++O)++M3)).length:=Uc
    have e1:ry (l++(([]++O)++M3)) (i1:Int)=n.a:=by
     rw[<-append_assoc,Rg hi1];exact W
    have e2:=Bk hi
    rw[oy]at e2
    clear oy
    generalize l++(([]++O)++M3)=l' at *
    unfold qb;rw[aw N,E]
    simp[R,Bg hi,Bg hi1',e1,e2]
   .rw[E]at hk5
    rw[aw (by rw[hk5];decide),aw Uc,bt hk5]at hm;cases hm
    have ha:=kx n.a (A8 (.inr (.inl hk5)))
    have ha1:=(zG.1 ha.1).1
    have sa:mw L t n.a:=.ku (.refl t) (by rw[E];exact A8 (.inr (.inl hk5)))
    have pT:pM L S t->pM L S n.a:=fun Y=>by
     rcases Y.pT with h|h|⟨h,_⟩|⟨_,h⟩|⟨h,_⟩
     .exact absurd h o
     .rw[E,hk5]at h;exact absurd h De
     .rw[E,hk5]at h;cases h
     .rw[E]at h;exact h
     .rw[E,hk5]at h;exact absurd h De
    refine⟨fun _=>?_,fun h=>Uc⟩
    intro H4 I q
    refine U n.a H4 I sl [] B (C13.bh J q) (DO o ha1 ha.2) (.inl sa) ((pY.pU z.symm o).2 ⟨Om,.inl rfl⟩) _ ?_
    intro r9 r10 w22 A O B2 C22 hd22 hi22 _ w23 hs23
    have C23:=C22.bh J hs23
    refine J2 H4 w23 A _ B2 r10 _ _ C23 (fun h Y=>Uc) (fun h _=>⟨?_,.ue Uc Uc⟩) (fun _ h=>Om) fun h _=>Uc
    obtain⟨i1,rfl,hi1,W⟩:=hi22 h
    have e1:=Bk hi1
    rw[W]at e1
    clear W
    have q1:=Bg hi1
    generalize l++([]++O)=l' at *
    unfold qb;rw[aw N,E]
    simp[hk5,q1,e1]
   .rw[E]at hk6
    rw[aw (by rw[hk6];decide),aw Uc,aw Uc,bt hk6]at hm;cases hm
    have hnd:¬pM L S t:=fun Y=>by
     rcases Y.pT with h|h|⟨h,_⟩|⟨h,_⟩|⟨h,_⟩
     .exact o h
     all_goals (rw[E,hk6]at h;exact absurd h De)
    refine⟨fun h=>Uc,fun _=>?_⟩
    intro H4 I q
    exact J2 H4 I sl [] B ak _ _ (C13.bh J q) (fun _=>hnd) (fun h=>Uc) (fun h=>Uc) fun h=>Uc
   .rw[E]at hk7
    have⟨x4,x5,x6,xf⟩:=LO hk7
    rw[aw Uc,aw x4,aw x5,aw x6]at hm
    generalize hko:xL L (tO n)=ko at *
    have⟨key,kok⟩:=ko
    simp only[ei]at hm
    obtain⟨rfl,rfl,rfl,rfl⟩:=hm
    have ha:=kx n.a (A8 (.inr (.inr hk7)))
    have ha1:=(zG.1 ha.1).1
    have sa:mw L t n.a:=.ku (.refl t) (by rw[E];exact A8 (.inr (.inr hk7)))
    have pT:pM L S t->pM L S n.a/\kok=ai/\r4∈zK S:=fun Y=>by
     rcases Y.pT with h|h|⟨h,_⟩|⟨h,_⟩|⟨_,h1,h2,h3⟩
     .exact absurd h o
     .rw[E,xf]at h;cases h
     .rw[E]at h;exact absurd h x4
     .rw[E]at h;exact absurd h x5
     .rw[E]at h1 h2 h3;rw[hko]at h2 h3;exact⟨h1,h2,h3⟩
    refine⟨fun hc=>?_,fun hc=>?_⟩
    .rw[Bool.and_eq_true,Bool.and_eq_true]at hc
     have⟨⟨hkok,hkey⟩,_⟩:=hc
     have hkey:=ij hkey
     have hkn:=DB (L:=L) (n:=tO n) Uc
     rw[hko]at hkn
     have hk1:=(zG.1 hkn.1).1
     intro H4 I q
     refine U n.a H4 I sl [] B (C13.bh J q) (DO o ha1 ha.2) (.inl sa) ((pY.pU z.symm o).2 ⟨Om,.inl rfl⟩) _ ?_
     intro r9 r10 w22 A O B2 C22 hd22 hi22 _ w23 hs23
     have C23:=C22.bh J hs23
     refine J2 H4 w23 A _ B2 r10 _ _ C23 (fun h Y=>Uc) (fun _ h=>Uc) (fun h _=>⟨Vi o ht1 hkey,.inr hkey,fun _=>.signed Uc Uc Uc Uc,fun _=>.bM hkey,?_⟩) fun h _=>Uc
     intro M3 i hi oy
     obtain⟨i1,rfl,hi1,W⟩:=hi22 h
     have hi1':i1<(l++(([]++O)++M3)).length:=Uc
     have e1:ry (l++(([]++O)++M3)) (i1:Int)=n.a:=by
      rw[<-append_assoc,Rg hi1];exact W
     have e2:ry (l++(([]++O)++M3)) (i:Int)=r4:=by rw[Bk hi];exact oy
     clear oy
     generalize l++(([]++O)++M3)=l' at *
     unfold qb;rw[aw N,E]
     have hkey2:=hkn.2.1
     simp only at hkey2
     simp[hk7,x4,x5,Bg hi,Bg hi1',e1,e2,hkey2,zQ]
    .intro H4 I q
     have hnk:(kok&&decide (r4∈zK S))=ak:=by
      have:decide (n.a>0)=ai:=So;rw[this]at hc;simpa using hc
     refine J2 H4 I sl [] B _ _ _ (C13.bh J q) (fun _ Y=>?_) (fun h=>Uc) (fun h=>Uc) fun h=>Uc
     have⟨_,i2,i3⟩:=pT Y
     rw[i2,decide_eq_true i3]at hnk;cases hnk
  .have htB:t∈B:=by simpa using g
   intro H2 w4 hs4
   have C4:=C2.bh J hs4
   have hnB:(!decide (t∈B))=ak:=Uc
   rw[hnB]
   exact J1f 0 0 0 H2 w4 sl [] B C4 (hp0.Bf t htB)
def WI(k p:ao)(t:Int)(m:af){L:bw}{G:List Int}{S:List ln}{F FP:NP}(hW:Wf L)(hk:rK L G S)(h:qC m k p G S F)(P:zH m p L FP):
  cl 105 #[vp<|ab k,vi t] m<|XF fun r ok w'=>∃l,jd m 173 4 (l.map CA) r w'∧(ok=ai↔pM L S t)∧(ok=ak→l=[])∧(ok=ai→l≠[]∧(∀i (hi:i<l.length),qb L G (l.take i) l[i]=ai)∧(l.map mf.t).Nodup∧ry l ((l.length:Int)-1)=t∧∀s∈l,mw L t s.t∨s.t∈zK S)∧(ok=ai→∀x,x∈l.map mf.t↔Dp L S t x):=by
 suffices key:∀K,(∀r ok w' l,jd m 173 4 (l.map CA) r w'→(ok=ai↔pM L S t)→(ok=ak→l=[])→(ok=ai→l≠[]∧(∀i (hi:i<l.length),qb L G (l.take i) l[i]=ai)∧(l.map mf.t).Nodup∧ry l ((l.length:Int)-1)=t∧∀s∈l,mw L t s.t∨s.t∈zK S)→(ok=ai→∀x,x∈l.map mf.t↔Dp L S t x)→K r ok w')→Mw (ab k) t m K from
  jap _ _ m _<|key _ Gd
 intro K hK
 intro E X h1
 have B1:=az.fi h1
 refine⟨_,B1.dj,Br.f rfl ?_⟩
 intro I w2 h2 J w3 h3 B w4 h4
 have B4:=az.fi h4
 refine⟨B4.mi Sm,?_⟩
 rintro _ rfl
 have R:=aj.setCell (w:=w4) B<|.map<|ab J.block
 have B4':=B4.nw (v:=.map<|ab J.block)
 have s1:=h2.gp;have s3:=h3.gp;have s4:=h4.gp
 have E1:aq m X:=aj.bu h1
 have W:aq X w2:=aj.bu h2
 have E3:aq w2 w3:=aj.bu h3
 have Q:aq w3 w4:=aj.bu h4
 have l1:=B1.lt
 have l2:=(az.fi h2).lt
 have l3:=(jm.fi (f:=rH) h3).lt
 have l4:=B4.lt
 have z4:=R.size
 generalize hw5:w4.setCell B (.map<|ab J.block)=A at *
 intro D w6 U z w7 Z
 have B7:=az.fi Z
 refine⟨B7.mi Sm,?_⟩
 rintro _ rfl
 have X7:=aj.setCell (w:=w7) z<|.map<|ab D.block
 have B7':=B7.nw (v:=.map<|ab D.block)
 have s6:=U.gp;have s7:=Z.gp
 have E6:aq A w6:=aj.bu U
 have V:aq w6 w7:=aj.bu Z
 have l6:=(jm.fi (f:=Jo) U).lt
 have z7:=X7.size
 generalize hw8:w7.setCell z (.map<|ab D.block)=O at *
 intro u Y h9
 have B9:=az.fi h9
 refine⟨B9.mi Sm,?_⟩
 rintro _ rfl
 have X9:=aj.setCell (w:=Y) u<|.func (.func 160) #[] #[vp<|ab B,vp<|ab z,vp<|ab E,vp<|ab u,vp<|ab I]
 have B9':=B9.nw (v:=.func (.func 160) #[] #[vp<|ab B,vp<|ab z,vp<|ab E,vp<|ab u,vp<|ab I])
 have s9:=h9.gp
 have E9:aq O Y:=aj.bu h9
 have g1:=E1.size;have g2:=W.size;have g3:=E3.size;have g4:=Q.size;have g6:=E6.size;have g7:=V.size;have g9:=E9.size
 generalize hw10:Y.setCell u (.func (.func 160) #[] #[vp<|ab B,vp<|ab z,vp<|ab E,vp<|ab u,vp<|ab I])=j at *
 have d:∀b,¬Sl.nil.bg b:=fun b g=>by have⟨a,h,_⟩:=g;cases h
 have T5:aq m A:=(((E1.trans W).trans E3).trans Q).ft R fun i hi e=>Om
 have T8:aq A O:=(E6.trans V).ft X7 fun i hi e=>Om
 have o:aq O j:=E9.ft X9 fun i hi e=>Om
 have T:aq m j:=(T5.trans T8).trans o
 have T2:aq w2 A:=(E3.trans Q).ft R fun i hi e=>Om
 have T1:aq X A:=W.trans T2
 have T3:aq w3 A:=Q.ft R fun i hi e=>Om
 have T6:aq w6 O:=V.ft X7 fun i hi e=>Om
 have n:aq A j:=T8.trans o
 have h0:rD j k p B z E u I J.block D.block L G S F FP Sl.nil [] []:=by
  refine⟨⟨(B4'.pure n).dj,(B7'.pure o).dj,(B1.pure<|T1.trans n).dj,B9'.dj,(az.fi h2).pure<|T2.trans n,(jm.fi h3).pure<|T3.trans n,(jm.fi U).pure<|T6.trans o,c9.nil _ _ _,?_,Om,Om,Om,d _,d _,d _⟩,h.pure T,P.pure T,?_,?_⟩;rintro b (rfl|rfl|rfl|g);omega;omega;omega;exact(d b g).elim;rintro b g (rfl|rfl|rfl|hx);have:=h.lt g;omega;have:=h.lt g;omega;have:=h.lt g;omega;exact d b hx;rintro b g (rfl|rfl|rfl|hx);have:=P.lt g;omega;have:=P.lt g;omega;have:=P.lt g;omega;exact d b hx
 refine⟨_,h0.ig.a4,160,#[],_,rfl,call160,?_⟩
 refine(U9 k p B z E u I J.block D.block hW hk _ t j Sl.nil [] [] (Nat.lt_succ_self _) h0<|rU.nil _ _ _).mono ?_
 rintro _ C ⟨r1,ok,rfl,H,M,B',c⟩
 refine⟨r1,ok,rfl,fun hc=>?_,fun hc=>?_⟩
 have hf:ok=ak:=by simpa using hc
 subst hf
 refine hK Sl.nil ak C [] ⟨c9.nil _ _ _,fun b g=>(d b g).elim,T.ft c.ext fun i hi hx=>?_⟩ c.Aq (fun _=>rfl) (fun h=>Uc) fun h=>Uc
 rcases hx with rfl|rfl|rfl|hx
 omega
 omega
 omega
 exact(d _ hx).elim
 have ht:ok=ai:=by simpa using hc
 subst ht
 have bh:=c.st
 have y:=c.ig
 have q:=c.zy rfl
 simp only[nil_append]at bh y q
 have⟨i,_,hi,oy⟩:=q
 refine⟨H,bh.ig.a5.dj,?_⟩
 refine hK H ai C M ⟨bh.ig.ls,fun b g=>?_,T.ft c.ext fun i hi hx=>?_⟩ c.Aq (fun h=>Uc) (fun _=>⟨?_,y.qb,y.nd,?_,fun s hs=>(c.bu s hs).2⟩) fun _ x=>⟨fun hx=>?_,fun hx=>?_⟩
 rcases c.bf b g with h|h
 exact(d b h).elim
 have:=T.size;omega
 rcases hx with rfl|rfl|rfl|hx
 omega
 omega
 omega
 exact(d _ hx).elim
 grind
 have:=c.UO rfl
 simp only[nil_append]at this
 rcases this with rfl|h
 simp at hi
 exact h
 obtain⟨s,hs,rfl⟩:=mem_map.1 hx
 exact c.dp s hs
 have N:=c.cl
 simp only[nil_append]at N
 exact Dp.all N (mem_map.2 ⟨_,getElem_mem hi,oy⟩) hx
def Wl(k p t w0){L G S F FP}(e:Wf L)(g:rK L G S)(h:qC w0 k p G S F)(f:zH w0 p L FP):
  cl 105 #[vp<|ab k,vi t] w0<|XF fun r ok w'=>∃l,jd w0 173 4 (l.map CA) r w'/\(ok=ai↔pM L S t)/\(ok=ak->l=[])/\(ok=ai->l≠[]/\(∀i (hi:i<l.length),qb L G (l.take i) l[i]=ai)/\(l.map mf.t).Nodup/\ry l ((l.length:Int)-1)=t/\∀s∈l,mw L t s.t\/s.t∈zK S):=by
 refine(WI k p t w0 e g h f).mono ?_
 rintro _ w' ⟨r,ok,rfl,l,a,b,c,d,_⟩
 exact⟨r,ok,rfl,l,a,b,c,d⟩
def N7(k p t w0){L G S F FP}(a:Wf L)(d:rK L G S)(h:qC w0 k p G S F)(e:zH w0 p L FP):
  cl 63 #[vp<|ab k,vi t] w0<|XC fun r w'=>(r=ai↔pM L S t)/\aq w0 w':=by
 refine Xh _ _ w0 _ ?_
 refine(Wl k p t w0 a d h e).mono ?_
 rintro _ f ⟨r,ok,rfl,l,b,c,_,_⟩
 exact⟨r,ok,rfl,c,b.pure⟩
def Sj{S}(s ts v w0)(hs:gr S w0 1 s (fv ts))(m:ts.length<=1000000):
  cl 150 #[s.v,vi v] w0<|XC fun r w'=>r=decide (v∈ts)/\w'=w0:=by
 refine Wy _ _ w0 _ ?_
 have k:s.ay=ts.length:=by rw[hs.ay,zV]
 refine⟨fun i w'=>w'=w0/\∃j:Nat,i=j/\j<=ts.length/\v∉ts.take j,fun i _=>((ts.length:Int)-i).toNat,⟨rfl,0,rfl,Nat.zero_le _,Sm⟩,?_⟩
 rintro _ _ ⟨rfl,j,rfl,l,g⟩
 refine⟨fun h=>?_,fun h=>?_⟩
 have b:=vA k h
 have⟨a,c,_,f⟩:=yN hs b
 have e:=take_succ_eq_append_getElem b
 refine⟨a,c,_,f,fun h=>⟨?_,rfl⟩,fun h=>?_⟩
 grind
 rw[zI b Om]
 refine⟨⟨rfl,j+1,rfl,b,?_⟩,vT b⟩
 rw[e,mem_append,mem_singleton]
 rintro(d|d)
 exact g d
 simp[d]at h
 grind
structure Ws(w:af)(x q:ao)(G:List Int)(sg:Sl):Prop where
 box:az w x [vp<|ab q,sg.v] 48
 oe:c9 w 73 1 sg (fv G)
 n1:¬sg.bg x.block
def qi(w:af)(x q:ao)(G:List Int)(F:NP):Prop:=∃sg,Ws w x q G sg/\∀b,F b↔(b=x.block\/sg.bg b)
section
variable {w w':af} {x q:ao} {G:List Int} {F:NP}
def qi.ext{X}(h:qi w x q G F)(a:aj X w w')(d:∀b,F b->¬X b):qi w' x q G F:=by
 have⟨sg,h,c⟩:=h;exact⟨sg,⟨h.box.ext a<|d _<|(c _).2<|.inl rfl,h.oe.ext a Gd,h.n1⟩,c⟩
def qi.pure(h:qi w x q G F)(a:aq w w'):qi w' x q G F:=h.ext a fun _ _ h=>h
def qi.lt(h:qi w x q G F){b}(a:F b):b<w.heap.size:=by
 have⟨sg,h,c⟩:=h;rcases(c b).1 a with rfl|a;exact h.box.lt;exact h.oe.lt a
end
def Mv(x q t a){L G F FR}(h:qi a x q G F)(C:vJ a q L FR)(H:G.length<=100000):
  cl 100 #[vp<|ab x,vi t] a<|XB fun r w'=>∃F',qi w' x q (rh L G t) F'/\aj F a w'/\∀b,F' b->F b\/a.heap.size<=b:=by
 refine jbe _ _ a _ ?_
 have u:=h
 have⟨sg,h,I⟩:=h
 refine⟨x,rfl,_,h.box.dj,?_⟩
 refine(yJ q t a C).mono ?_
 rintro _ a ⟨r1,rfl,rfl,rfl⟩
 refine⟨_,rfl,fun i=>?_,fun i=>?_⟩
 have g:bj L t=ak:=by simpa using i
 have:rh L G t=G:=by unfold rh;rw[aw<|by simp[g]]
 rw[this];exact⟨F,u,aj.refl _,fun b f=>.inl f⟩
 have g:bj L t=ai:=Uc
 have B:rh L G t=nV G t:=by unfold rh;rw[bt g]
 rw[B]
 refine⟨x,rfl,sg,h.box.cell rfl,?_⟩
 refine(Sj sg G t a h.oe.gS Om).mono ?_
 rintro _ a ⟨r2,rfl,rfl,rfl⟩
 refine⟨_,rfl,fun i=>?_,fun i=>?_⟩
 have n:t∉G:=by simpa using i
 have d:nV G t=G++[t]:=aw n
 rw[d]
 refine⟨x,rfl,sg,h.box.cell rfl,?_⟩
 intro E D h3
 have j:aq a D:=aj.bu h3
 have⟨s1,p,l,A,o,y⟩:=(h.oe.pure j).append (P:=prog) (ty:=46) (c:=1) ux (r:=[vi t]) (az.fi h3).row rfl rfl (by rw[zV];omega) (by rw[zV];simp[maxLen];omega)
 have b4:=(h.box.pure j).ext o h.n1
 refine⟨s1,p,l,x,rfl,b4.im Sm,?_⟩
 rintro _ rfl
 have k:=aj.setCell (w:=p) (x.add 1) s1.v
 rw[zD]at k
 have m:∀b,s1.bg b->sg.bg b\/a.heap.size<=b:=fun b f=>(y b f).imp_right fun h=>Oh j.size
 have s:¬s1.bg x.block:=fun hh=>(m _ hh).elim h.n1 fun hh=>Oh h.box.lt
 refine⟨fun b=>b=x.block\/s1.bg b,⟨s1,⟨b4.set 1 s1.v,by rw[show fv (G++[t])=fv G++[[vi t]] by simp[fv]];exact A.ext k fun b f e=>s<|e▸f,s⟩,fun b=>Iff.rfl⟩,?_,fun b f=>?_⟩
 exact((j.pure (F:=F)).trans<|o.mono Gd).trans<|k.mono Gd
 grind
 have z:t∈G:=by simpa using i
 have d:nV G t=G:=bt z
 rw[d];exact⟨F,u,aj.refl _,fun b f=>.inl f⟩
def Yj(k):CQ k=qH k:=rfl
def N1 (x q w0) {L G F FR} (h:qi w0 x q G F) (hP:vJ w0 q L FR) (hW:Wf L) (hG:∀g∈G,bj L g=ai) (hGn:G.length≤100000) :
  cl 151 #[vp<|ab x] w0<|XA fun r w'=>∃V,jd w0 4 1 (lq (L.length+1) V) r w'∧∀t,bj L t=ai→(V t=ai↔jn L G t):=by
 suffices key:∀K:Sl→WP,(∀r w' V,jd w0 4 1 (lq (L.length+1) V) r w'→(∀t,bj L t=ai→(V t=ai↔jn L G t))→K r w')→HT (ab x) w0 K from
  Zs _ w0 _<|key _ fun r w' V a b=>⟨V,a,b⟩
 intro K hK
 unfold HT
 have hL:=hW.ok.jl
 have⟨sg,h,hF⟩:=h
 obtain ⟨v2,hv2,hv2l⟩:∃v1:Sl,w0.cell? q=ab v1.v∧v1.ay=L.length:=by
  have⟨s1,s2,s3,h,_⟩:=hP;exact ⟨s1,h.box.dj,by rw [h.r1.ay];simp⟩
 refine ⟨x,rfl,_,h.box.dj,q,rfl,v2,hv2,?_⟩
 simp only [hv2l]
 rw [IntWalk.i64_in _ Om,show ((L.length:Int)+1)=((L.length+1:Nat):Int) by omega]
 have⟨w1,hr1,R1,E1⟩:=c9.bz (P:=prog) Hd Qb (k:=.i64) (k':=.i64) (n:=L.length+1) Om (by simp [maxLen];omega) w0
 rw [Rn] at R1
 refine ⟨_,w1,hr1,E1.dy,?_⟩
 generalize hsv:(Sl.mk (ab ⟨w0.heap.size,0,bo⟩) (L.length+1)<|L.length+1)=M at *
 have hsvb:∀b,M.bg b→b=w0.heap.size:=by subst hsv;rintro b ⟨a,O,rfl⟩;cases O;rfl
 have nF:∀b,M.bg b→∀{Z:NP},(∀c,Z c→c<w0.heap.size)→¬ Z b:=fun b W Z hz hh=>Uc
 have hlg:sg.ay=G.length:=by rw [h.oe.ay,zV]
 refine ⟨fun i H w'=>∃j:Nat,i=j∧j≤G.length∧aq w0 w'∧(∀b,M.bg b→¬ H b)∧∃V,c9 w' 4 1 M (lq (L.length+1) V)∧∀t,V t=ai↔t∈G.take j,fun i _=>((G.length:Int) - i).toNat,⟨0,rfl,Nat.zero_le _,E1,fun b _ h=>h,_,R1,Sm⟩,?_⟩
 rintro _ Hl wl hl ⟨j,rfl,hj,El,hv,V,RV,hV⟩
 have hx:=h.box.pure El
 have D:=h.oe.pure El
 refine ⟨x,rfl,sg,hx.cell rfl,fun C=>?_,fun C=>?_⟩
 .have w:=vA hlg C
  have⟨a5,at5,_,c5⟩:=yN D.gS w
  have htk:=take_succ_eq_append_getElem w
  have hgi:=zG.1<|hG _<|getElem_mem w
  have⟨a6,at6,hb6,cw6,p⟩:=BU RV (t:=G[j]) Om Om
  refine ⟨x,rfl,sg,hx.cell rfl,a5,at5,_,c5,a6,at6,cw6,hv _ hb6,?_⟩
  rintro _ rfl
  have⟨R2,E2⟩:=p ai
  rw [zI w Om]
  refine ⟨⟨j+1,rfl,w,El.ft E2 Gd,hv,_,R2,fun t=>?_⟩,vT w⟩
  rw [htk,mem_append,mem_singleton]
  simp only [jf]
  split
  .rename_i e;simp [e]
  .grind
 .have hge:=vH hlg hj C
  subst hge
  rw [take_length] at hV
  obtain ⟨v7,hv7,hv7l⟩:∃v1:Sl,wl.cell? q=ab v1.v∧v1.ay=L.length:=by
   have⟨s1,s2,s3,h,_⟩:=hP.pure El;exact ⟨s1,h.box.dj,by rw [h.r1.ay];simp⟩
  refine ⟨x,rfl,_,hx.dj,q,rfl,v7,hv7,?_⟩
  dsimp only;rw [hv7l]
  refine ⟨fun i H w'=>∃j:Nat,i=(L.length:Int) - j∧j≤L.length∧aq w0 w'∧(∀b,M.bg b→¬ H b)∧∃V,c9 w' 4 1 M (lq (L.length+1) V)∧(∀t,V t=ai→jn L G t)∧(∀g∈G,V g=ai)∧∀u,i<u→u≤L.length→V u=ai→∀r y,tK L r u y→V y=ai,fun i _=>i.toNat,
   ⟨0,Sm,Nat.zero_le _,El,hv,V,RV,fun t ht=>.rv<|(hV t).1 ht,fun g D=>(hV g).2 D,fun u h1 h2=>Om⟩,?_⟩
  rintro _ Hm wm hm ⟨j,rfl,hj,Em,hvm,V,RV,h1,h2,h3⟩
  refine ⟨fun C=>?_,fun C=>?_⟩
  .have C:=ij C
   have Q:bj L ((L.length:Int) - j)=ai:=zG.2 ⟨Om,Om⟩
   have o:q6.wrap (((L.length:Int) - j) - 1)=(L.length:Int) - ((j+1:Nat):Int):=by rw [IntWalk.i64_in _ Om];omega
   generalize ht:(L.length:Int) - j=t at *
   refine ⟨x,rfl,_,(h.box.pure Em).dj,?_⟩
   refine (tH q t wm (hP.pure Em) hW.ok).mono ?_
   rintro _ w3 ⟨nk,nf,nt,nu,nx,Y,nb,ok,rfl,⟨hn,_⟩,E3⟩
   refine ⟨_,_,_,_,_,_,_,_,rfl,E3.dy,?_⟩
   have I:(ar L t).ba=nk:=Uc
   have O:(ar L t).a=Y:=Uc
   have W:(ar L t).b=nb:=Uc
   have⟨a12,J,_,_⟩:=xh (RV.pure E3) (t:=t) Om Om
   refine ⟨a12,J,?_⟩
   intro H1 w5 hs5
   have hs3:=hm.jg E3.dy
   have O5:ji H1 w5 4 1 M (lq (L.length+1) V):=(ji.bh ⟨RV.pure E3,hvm⟩ hs5)
   have E5:=(Em.trans E3).bh hs5
   have⟨a12',S,_,c12⟩:=xh O5.fg (t:=t) Om Om
   have:a12'=a12:=by
    obtain ⟨_,_,b1,hb1,rfl⟩:=J;obtain ⟨_,_,b2,hb2,rfl⟩:=S;rw [hb1] at hb2;cases hb2;rfl
   subst this
   refine ⟨_,c12,?_⟩
   intro H3 w11 N
   have s:=O5.bh N
   have E11:=E5.bh N
   unfold Ht
   rw [Yj]
   have T:∀y:Int,y=(L.length:Int) - ((j+1:Nat):Int)→y.toNat<t.toNat:=fun y e=>Om
   refine ⟨fun m=>?_,fun m=>?_⟩
   .rw [Bool.and_eq_true,Bool.or_eq_true] at m
    have⟨hvt,hkk⟩:=m
    have U:=h1 t hvt
    have hna:bj L Y=ai∧Y<t∧jn L G Y:=by
     rcases hkk with X | X
     .have B:nk=4:=by simpa using X
      have:=(ud hW Q Uc).1;rw [O] at this;exact ⟨this.1,this.2,.vn U<|.inl ⟨rfl,Uc,O⟩⟩
     .have:=xo hW Q Uc;rw [O] at this;exact ⟨this.1,this.2,.vn U<|.inr<|.inr ⟨rfl,Uc,O⟩⟩
    have hna1:=zG.1 hna.1
    have⟨a10,at10,hb10,cw10,p⟩:=BU s.fg (t:=Y) Om Om
    refine ⟨a10,at10,cw10,s.lf _ hb10,?_⟩
    rintro _ rfl
    have⟨R6,X6⟩:=p ai
    have E6:=E11.ft X6 fun i hi W=>Uc
    generalize w11.setCell a10 (vb ai)=w6 at *
    refine ⟨fun X=>?_,fun X=>?_⟩
    .have B:nk=4:=by simpa using X
     have hnb:=(ud hW Q Uc).2
     rw [W] at hnb
     have hnb1:=zG.1 hnb.1
     have⟨a11,at11,hb11,cw11,p⟩:=BU R6 (t:=nb) Om Om
     refine ⟨a11,at11,cw11,s.lf _ hb11,?_⟩
     rintro _ rfl
     have⟨R7,X7⟩:=p ai
     have E7:=E6.ft X7 fun i hi W=>Uc
     refine ⟨⟨j+1,o,Om,E7,s.lf,_,R7,fun y R=>?_,fun g D=>?_,fun u A E l r y d=>?_⟩,T _ o⟩
     .simp only [jf] at R
      split at R
      .rename_i e;rw [e];exact .vn U<|.inr<|.inl ⟨rfl,Uc,W⟩
      .grind
     .simp only [jf];split
      .rfl
      .grind
     .rw [o] at A
      have hc3:∀y,V y=ai→jf (jf V Y ai) nb ai y=ai:=fun y R=>by simp only [jf];split <;> (try split) <;> simp_all
      by_cases z:u=t
      .subst z
       rcases d with ⟨_,_,e⟩ | ⟨_,_,e⟩ | ⟨_,hk7,_⟩
       .rw [← e,O];simp only [jf];split <;> simp
       .rw [← e,W];simp [jf]
       .rw [I,B] at hk7;cases hk7
      .simp only [jf] at l
       rw [aw Om,aw Om] at l
       exact hc3 y<|h3 u Om E l r y d
    .have B:¬ nk=4:=by simpa using X
     refine ⟨⟨j+1,o,Om,E6,s.lf,_,R6,fun y R=>?_,fun g D=>?_,fun u A E l r y d=>?_⟩,T _ o⟩
     .simp only [jf] at R
      split at R
      .grind
      .exact h1 y R
     .simp only [jf];split
      .rfl
      .exact h2 g D
     .rw [o] at A
      by_cases z:u=t
      .subst z
       rcases d with ⟨_,f,_⟩ | ⟨_,f,_⟩ | ⟨_,_,e⟩
       .grind
       .rw [I] at f;exact absurd f B
       .rw [← e,O];simp [jf]
      .simp only [jf] at l
       rw [aw Om] at l
       have:=h3 u Om E l r y d
       simp only [jf];split
       .rfl
       .exact this
   .refine ⟨⟨j+1,o,Om,E11,s.lf,V,s.fg,h1,h2,fun u A E l r y d=>?_⟩,T _ o⟩
    rw [o] at A
    by_cases z:u=t
    .subst z
     rw [l] at m
     simp only [Bool.true_and,Bool.or_eq_false_iff] at m
     rcases d with ⟨_,f,_⟩ | ⟨_,f,_⟩ | ⟨_,f,_⟩
     .grind
     .rw [I] at f;rw [f] at m;simp at m
     .rw [I] at f;rw [f] at m;simp at m
    .grind
  .have C:=il C
   have hj:(L.length:Int) - j=0:=Om
   refine hK M wm V ⟨RV,fun b W=>Uc,Em⟩ fun t ht=>⟨h1 t,fun hs=>?_⟩
   have:∀t,jn L G t→bj L t=ai∧V t=ai:=by
    intro t hs;induction hs with
    | rv D=>exact ⟨hG _ D,h2 _ D⟩
    | vn _ d ih =>
     have hu:=zG.1 ih.1
     exact ⟨(d.kq hW ih.1).1,h3 _ Om Om ih.2 _ _ d⟩
   exact (this t hs).2
def zDU(x q name si w0){L G F FR V}(h:qi w0 x q G F)(o:vJ w0 q L FR)(f:Ok L)(l:c9 w0 4 1 si (lq (L.length+1) V)):
  cl 212 #[vp<|ab x,si.v,vi name] w0<|XC fun r w'=>r=((xL L name).2&&V (xL L name).1)/\aq w0 w':=by
 refine jdm _ _ _ w0 _ ?_
 have⟨sg,h,p⟩:=h
 refine⟨x,rfl,_,h.box.dj,?_⟩
 refine(HI q (zQ name) w0 o f).mono ?_
 rintro _ s ⟨r1,r2,rfl,b,g⟩
 have d:xL L name=(r1,r2):=by
  unfold xL;cases k:find L (zQ name)with
  |none=>rw[k]at b;simp only at b;rw[b.1,b.2]
  |some i=>rw[k]at b;simp only at b;rw[b.1,b.2]
 rw[d]
 refine⟨_,_,rfl,fun h=>?_,fun h=>⟨Uc,g⟩⟩
 have c:=DB (L:=L) (n:=name) Uc
 rw[d]at c
 have e:=zG.1 c.1
 simp only at e
 have⟨a,j,_,m⟩:=xh (l.pure g) (t:=r1) Om Om
 exact⟨a,j,_,m,Uc,g⟩
abbrev vc(q:ao)(F:NP)(w:af)(R:rC)(r1 r2:Int)(w':af):Prop:=(r1,r2)=(R.1,R.2.1)/\∃F',vJ w' q R.2.2 F'/\aj F w w'/\∀b,F' b->F b\/w.heap.size<=b
def vc.cd{q F w w1 w' R r1 r2}(E:aq w w1)(h:vc q F w1 R r1 r2 w'):vc q F w R r1 r2 w':=by
 have⟨h1,F',h2,h3,a⟩:=h;exact⟨h1,F',h2,E.pure.trans h3,fun b c=>(a b c).imp_right fun h=>Oh E.size⟩
def FS{S w s ts}(h:gr S w 1 s (fv ts)){i t}(hi:jo ts i=ab t):∃a,At s i 1 a/\S a.block/\w.cell? a=ab (vi t):=by
 obtain⟨c,h1,rfl⟩:=RZ hi;have⟨a,h2,h3,b⟩:=yN h h1;exact⟨a,Uc,h3,b⟩
section
variable {Sg Sm:NP} (q:ao) (sg sm:Sl) (G M:List Int) (w0:af) {L:bw} {F:NP} (hP:vJ w0 q L F) (hok:Ok L)
 (hg:gr Sg w0 1 sg (fv G)) (hm:gr Sm w0 1 sm (fv M))
include hP hok hg hm
def ON(co oa ob on ox a1 rk ra rb kk kf kt kn kx ka kb H w)(hs:au w0 bl w0 H w)(R:0<=co)(V:co<=11)(X:4<=co->jo M oa=ab a1)(hB:co=4\/9<=co->∃b,jo M ob=ab b)(Q:4<=co->rk=(jt L M oa).ba/\ra=(jt L M oa).a/\rb=(jt L M oa).b)(O:9<=co->(jt L M ob).ba=6/\kf=(jt L M ob).cj)(K:Int->Int->WP)(t:∀r1 r2 w',vc q F w0 (yI L G M ⟨co,oa,ob,on,ox⟩) r1 r2 w'->K r1 r2 w'):
  BS (ab q) sg sm co oa ob on ox a1 rk ra rb kk kf kt kn kx ka kb w0 H w K:=by
 unfold BS
 have E:=hs.first
 have S:sg.ay=G.length:=by rw[hg.ay,zV]
 have g:∀{f w' r1 r2},au w0 H w f w'->yI L G M ⟨co,oa,ob,on,ox⟩=(r1,r2,L)->K r1 r2 w':=fun c e=>by
  have k:=E.bh c;exact t _ _ _ (by rw[e];exact⟨rfl,F,hP.pure k,k.pure,fun b p=>.inl p⟩)
 have mk:∀{f w' d} {e:fb} {n:gP},au w0 H w f w'->yI L G M ⟨co,oa,ob,on,ox⟩=bz L n->(∃r1 r2:Int,e=.returned (.tuple #[vi r1,vi r2])/\vc q F w' (bz L n) r1 r2 d)->∃r1 r2:Int,e=.returned (.tuple #[vi r1,vi r2])/\av f w' d/\K r1 r2 d:=by
  rintro f w' d e n c s ⟨r1,r2,C,h⟩;have k:=E.bh c;refine⟨r1,r2,C,h.2.elim fun F' h=>h.2.1.ff fun b p hx=>Oi (c.old b p)<|hP.lt hx,t _ _ _ ?_⟩;rw[s];exact vc.cd k h
 refine⟨fun h=>?_,fun h=>?_⟩
 .have h:co=0:=by simpa using h
  subst h
  have I:yI L G M ⟨0,oa,ob,on,ox⟩=uW L G ⟨0,oa,ob,on,ox⟩:=G9 rfl
  refine⟨fun h=>fun f w' c=>g c ?_,fun h=>?_⟩
  .rw[I];unfold uW
   rw[Bool.or_eq_true,decide_eq_true_eq,decide_eq_true_eq]at h
   simp only
   rw[wS Om];rfl
  .rw[Bool.or_eq_false_iff,decide_eq_false_iff_not,decide_eq_false_iff_not]at h
   have N:jo G oa=ab (G[oa.toNat]' Om):=vm Om Om
   have⟨a,D,x,u⟩:=FS hg N
   refine⟨a,D,fun f w' c=>⟨_,(E.bh c).cell u fun h=>h,g c ?_⟩⟩
   rw[I];unfold uW;simp only;rw[N]
 have n0:co≠0:=Uc
 refine⟨fun h=>?_,fun h=>?_⟩
 .have h:co=1:=by simpa using h
  subst h
  exact(vU q ⟨1,oa,0,0,⟨#[]⟩,0,0⟩ w (hP.pure E) hok).mono fun e d h=>mk hs.jj (IS rfl) h
 have n1:co≠1:=Uc
 refine⟨fun h=>?_,fun h=>?_⟩
 .have h:co=2:=by simpa using h
  subst h
  exact(vU q ⟨2,0,0,on,⟨#[]⟩,0,0⟩ w (hP.pure E) hok).mono fun e d h=>mk hs.jj (Iw rfl) h
 have n2:co≠2:=Uc
 refine⟨fun h=>?_,fun h=>?_⟩
 .have h:co=3:=by simpa using h
  subst h
  exact(vU q ⟨3,0,0,0,ox,0,0⟩ w (hP.pure E) hok).mono fun e d h=>mk hs.jj (Kj rfl) h
 have n3:co≠3:=Uc
 have j:=X Om
 obtain⟨rfl,rfl,rfl⟩:=Q Om
 refine⟨fun h=>?_,fun h=>?_⟩
 .have h:co=4:=by simpa using h
  subst h
  have⟨b1,l⟩:=hB<|.inl rfl
  have⟨a,D,x,u⟩:=FS hm l
  refine⟨a,D,b1,E.cell u fun h=>h,?_⟩
  have W:yI L G M ⟨4,oa,ob,on,ox⟩=bz L ⟨4,0,0,0,⟨#[]⟩,a1,b1⟩:=by
   rw[Cr rfl];unfold uq;simp only;rw[j];simp only;rw[l]
  exact(vU q ⟨4,0,0,0,⟨#[]⟩,a1,b1⟩ w (hP.pure E) hok).mono fun e d h=>mk hs.jj W h
 have n4:co≠4:=Uc
 refine⟨fun h=>?_,fun h=>?_⟩
 .have h:co=5:=by simpa using h
  subst h
  have Z:yI L G M ⟨5,oa,ob,on,ox⟩=bz L ⟨5,0,0,0,⟨#[]⟩,a1,0⟩:=by
   rw[ER rfl];unfold vg;simp only;rw[j]
  exact(vU q ⟨5,0,0,0,⟨#[]⟩,a1,0⟩ w (hP.pure E) hok).mono fun e d h=>mk hs.jj Z h
 have n5:co≠5:=Uc
 refine⟨fun h=>?_,fun h=>?_⟩
 .have z:co=6\/co=7:=Gd
  have B:yI L G M ⟨co,oa,ob,on,ox⟩=yW L M ⟨co,oa,ob,on,ox⟩ (decide (co=7)):=by
   rcases z with h|h<;>subst h
   .exact En rfl
   .exact FZ rfl
  refine⟨fun h=>fun f w' c=>g c ?_,fun h=>?_⟩
  .rw[B];unfold yW;simp only
   rw[aw Uc];rfl
  .have J:(jt L M oa).ba=4:=by simpa using h
   refine⟨fun h=>fun f w' c=>g c ?_,fun h=>fun f w' c=>g c ?_⟩
   .have h:co=6:=by simpa using h
    rw[B];unfold yW;simp only;rw[bt J,decide_eq_false Om];rfl
   .have h:co≠6:=by simpa using h
    rw[B];unfold yW;simp only;rw[bt J,decide_eq_true Om];rfl
 have U:co≠6/\co≠7:=Gd
 refine⟨fun h=>?_,fun h=>?_⟩
 .have h:co=8:=by simpa using h
  subst h
  have Y:qH (jt L M oa).ba=!(((((jt L M oa).ba:Int) !=7)&&(((jt L M oa).ba:Int) !=8))&&(((jt L M oa).ba:Int) !=9)):=by
   unfold qH;simp only[bne,Bool.not_and,Bool.not_not]
  refine⟨fun h=>fun f w' c=>g c ?_,fun h=>fun f w' c=>g c ?_⟩
  .rw[Dj rfl]
   unfold xN;simp only
   rw[aw Uc];rfl
  .rw[Dj rfl]
   unfold xN;simp only
   rw[bt Uc]
 have n8:co≠8:=Uc
 obtain⟨y,rfl⟩:=O Om
 have A:∀mk,vV L M ⟨co,oa,ob,on,ox⟩ mk=bz L (mk (jt L M ob).cj a1):=fun mk=>by
  unfold vV;simp only;rw[j];simp only;rw[bt y]
 refine⟨fun h=>fun f w' c=>?_,fun h=>?_⟩
 .have h:co=9:=by simpa using h
  subst h
  exact(vU q ⟨7,(jt L M ob).cj,0,0,⟨#[]⟩,a1,0⟩ w' (hP.pure<|E.bh c) hok).mono fun e d h=>mk c ((Cv rfl).trans<|A _) h
 have n9:co≠9:=Uc
 have m:∀{f w' v r d} {e:fb} {n:gP},au w0 H w f w'->aq w' v->v=r->yI L G M ⟨co,oa,ob,on,ox⟩=bz L n->(∃r1 r2:Int,e=.returned (.tuple #[vi r1,vi r2])/\vc q F r (bz L n) r1 r2 d)->∃r1 r2:Int,e=.returned (.tuple #[vi r1,vi r2])/\True/\av f r d/\K r1 r2 d:=by
  rintro f w' v _ d e n c T rfl s ⟨r1,r2,C,h⟩;have k:=(E.bh c).trans T;refine⟨r1,r2,C,trivial,h.2.elim fun F' h=>h.2.1.ff fun b p hx=>Oi (c.old b p)<|hP.lt hx,t _ _ _ ?_⟩;rw[s];exact vc.cd k h
 refine⟨fun h=>fun f w' c=>⟨fun _=>True,trivial,?_⟩,fun h=>fun f w' c=>⟨fun _=>True,trivial,?_⟩⟩
 .have h:co=10:=by simpa using h
  subst h
  rintro _ rfl
  refine(N5 on _).mono ?_
  rintro _ d ⟨rfl,i⟩
  have o:aq w' w'.drew:=aj.drew w'
  refine⟨_,rfl,trivial,i.dy,?_⟩
  exact(vU q ⟨8,(jt L M ob).cj,Ki on,0,⟨#[]⟩,a1,0⟩ d (hP.pure<|((E.bh c).trans o).trans i) hok).mono fun e r h=>m c (o.trans i) rfl ((Di rfl).trans<|A _) h
 .have P:co≠10:=by simpa using h
  have h:co=11:=Om
  subst h
  rintro _ rfl
  refine(N5 on _).mono ?_
  rintro _ d ⟨rfl,i⟩
  have o:aq w' w'.drew:=aj.drew w'
  refine⟨_,rfl,trivial,i.dy,?_⟩
  exact(vU q ⟨9,Ki on,(jt L M ob).cj,0,⟨#[]⟩,a1,0⟩ d (hP.pure<|((E.bh c).trans o).trans i) hok).mono fun e r h=>m c (o.trans i) rfl ((BC rfl).trans<|A _) h
def jZX(o):cl 213 #[vp<|ab q,sg.v,sm.v,qo o] w0 (XK fun r1 r2 w'=>vc q F w0 (yI L G M o) r1 r2 w'):=by
 have⟨c,oa,d,on,j⟩:=o;refine jbt _ _ _ c oa d on j w0 (vc q F w0<|yI L G M ⟨c,oa,d,on,j⟩) ?_;have W:sm.ay=M.length:=by rw[hm.ay,zV]
 have Y:∀(a1:Int)H w,au w0 bl w0 H w->0<=c->c<=11->(4<=c->jo M oa=ab a1)->(c=4\/9<=c->∃b,jo M d=ab b)->EV (ab q) sg sm c oa d on j a1 w0 H w (vc q F w0<|yI L G M ⟨c,oa,d,on,j⟩):=by
  intro a1 H w hs n e D hB;refine(tH q a1 w (hP.pure hs.first) hok).mono ?_;rintro _ w2 ⟨k,f,t',u,x,a,b,r,rfl,⟨C,_⟩,J⟩;have l:=hs.pure J;have K:4<=c->k=(jt L M oa).ba/\a=(jt L M oa).a/\b=(jt L M oa).b:=fun h=>by
   have:jt L M oa=ar L a1:=by unfold jt;rw[D h]
   rw[this,<-C];exact⟨rfl,rfl,rfl⟩
  refine⟨_,_,_,_,_,_,_,_,rfl,J.dy,fun h=>?_,fun h=>fun X E i=>?_⟩
  .have z:9<=c:=by simpa using h
   have⟨b1,t⟩:=hB<|.inr z;have⟨ad,R,A,s⟩:=FS hm t;refine⟨ad,R,fun X E i=>?_⟩;have O:=l.first.bh i;refine⟨b1,O.cell s fun h=>h,?_⟩;refine(tH q b1 E (hP.pure O) hok).mono ?_;rintro _ w4 ⟨P,f2,t2,u2,x2,a2,b2,r2,rfl,⟨S,_⟩,Q⟩;have Z:jt L M d=ar L b1:=by unfold jt;rw[t]
   have y:=(l.trans i).pure Q;refine⟨_,_,_,_,_,_,_,_,rfl,Q.dy,fun h=>fun T m=>?_,fun h=>fun T m=>?_⟩
   .have V:P≠6:=by simpa using h
    have p:yI L G M ⟨c,oa,d,on,j⟩=pG L:=Qg z e Uc;rw[p];have N:=y.first.bh m;exact⟨rfl,F,hP.pure N,N.pure,fun b g=>.inl g⟩
   .have V:P=6:=by simpa using h
    exact ON q sg sm G M w0 hP hok hg hm c oa d on j a1 k a b _ _ _ _ _ _ _ _ T (y.trans m) n e D hB K Gd _ fun _ _ _ h=>h
  .have z:¬9<=c:=by simpa using h
   exact ON q sg sm G M w0 hP hok hg hm c oa d on j a1 k a b _ _ _ _ _ _ _ _ E (l.trans i) n e D hB K (fun h=>absurd h z) _ fun _ _ _ h=>h
 have h2:Bb c=ai↔(c=4\/(9<=c/\c<=11)):=by
  unfold Bb;simp only[Bool.or_eq_true,Bool.and_eq_true,beq_iff_eq,decide_eq_true_eq,ge_iff_le]
 rintro _ rfl;refine⟨fun h=>fun H w hs=>?_,fun h=>?_⟩
 .have p : yI L G M ⟨c, oa, d, on, j⟩ = pG L:=by
   simp only[Bool.or_eq_true,Bool.and_eq_true,decide_eq_true_eq,ge_iff_le,h2,gt_iff_lt]at h;rcases h with((h|h)|⟨⟨U,B⟩,h⟩)|⟨s,h⟩
   .exact GI<|.inl h
   .exact GI<|.inr h
   .exact Ub U B<|wS Gd
   .exact jae (wS Gd) s
  rw[p];exact⟨rfl,F,hP.pure hs.first,hs.first.pure,fun b g=>.inl g⟩
 .simp only[Bool.or_eq_false_iff,Bool.and_eq_false_iff,decide_eq_false_iff_not,ge_iff_le,gt_iff_lt] at h;have⟨⟨⟨n,e⟩,R⟩,g⟩:=h;have hB:c=4\/9<=c->∃b,jo M d=ab b:=fun h=>by
   have ht:=h2.2 Om;rw[ht]at g;rcases g with g|g
   .cases g
   .exact⟨_,vm Om Om⟩
  refine⟨fun h=>?_,fun h=>fun H w hs=>?_⟩
  .rw[Bool.and_eq_true,decide_eq_true_eq,decide_eq_true_eq]at h;have I:jo M oa=ab (M[oa.toNat]' Om):=vm Om Om;have⟨ad,dw,A,s⟩:=FS hm I;refine⟨ad,dw,fun H w hs=>⟨_,hs.first.cell s fun h=>h,?_⟩⟩;exact Y _ H w hs Om Om (fun _=>I) hB
  .grind
end
structure KO(w0:af)(q:ao)(F:NP)(R:List Int×Int×bw)(s:Sl)(r2:Int)(w':af):Prop where
 gd:r2=R.2.1
 ew:∃F',vJ w' q R.2.2 F'/\(∀b,F' b->F b\/w0.heap.size<=b)/\∀b,s.bg b->¬F' b
 fg:c9 w' 73 1 s (fv R.1)
 bf:∀b,s.bg b->w0.heap.size<=b
 fr:aj F w0 w'
section
variable {Sg S0:NP} (q:ao) (sg sl:Sl) (G:List Int) (l:List Op) (w0:af) {L:bw} {F:NP} (hW:Wf L) (hP:vJ w0 q L F)
 (hg:gr Sg w0 1 sg (fv G)) (hl:gr S0 w0 5 sl (l.map rS)) (hSg:∀b,Sg b->b<w0.heap.size/\¬F b) (hS0:∀b,S0 b->b<w0.heap.size/\¬F b) (hn:l.length<=1000)
include hW hP hg hl hSg hS0 hn
def zDT:cl 156 #[vp<|ab q,sg.v,sl.v] w0 (XR fun s r2 w'=>KO w0 q F (vD L G [] l) s r2 w'):=by
 refine jaa _ _ _ w0 (fun s r2 w'=>KO w0 q F (vD L G [] l) s r2 w') ?_;have p:∀b,¬Sl.nil.bg b:=fun b g=>by have⟨a,h,_⟩:=g;cases h
 have I:sl.ay=l.length:=by rw[hl.ay];simp
 refine⟨fun S x w=>∃(j:Nat) (M:List Int) (B:bw) (F1:NP),x=j/\j<=l.length/\M.length=j/\Wf B/\vD L G [] l=vD B G M (l.drop j)/\KO w0 q F (M,0,B) S 0 w,fun _ x _=>((l.length:Int)-x).toNat,⟨0,[],L,F,rfl,Nat.zero_le _,rfl,hW,rfl,rfl,⟨F,hP,fun b g=>.inl g,fun b g=>(p b g).elim⟩,c9.nil _ _ _,fun b g=>(p b g).elim,aj.refl _⟩,?_⟩;rintro S _ w ⟨j,M,B,_,rfl,hj,hMj,C,d,R⟩;unfold Pf;have⟨_,⟨F1,u,O,y⟩,f,k,X⟩:=R;simp only at u f;refine⟨fun h=>?_,fun h=>?_⟩;have m:=vA I h;have⟨a,hat,W,H⟩:=hl.mv m;have wV:=X.row H (hS0 _ W).2;refine⟨a,hat,l[j].code,l[j].a,l[j].b,l[j].num,l[j].cf,wV,?_⟩;rw[Mb m]at d;generalize l[j]=o at *;have z:=X.size;refine(jZX q sg S G M w u C.ok (hg.ext X fun b g=>(hSg b g).2) f.gS o).mono ?_;rintro _ w1 ⟨r1,r2,rfl,hr,N,n,U,E⟩;have K:=xw C G M o;generalize yI B G M o=D at *;have⟨d1,d2,L2⟩:=D;simp only[ei]at hr;obtain⟨rfl,rfl⟩:=hr;simp only at d K n;have z2:=U.size;have A:∀b,S.bg b->¬N b:=fun b g Z=>(E b Z).elim (y b g) fun h=>Oh<|f.lt g;have t:∀b,N b->F b\/w0.heap.size<=b:=fun b g=>(E b g).elim (O b) fun h=>.inr Om;have Q:=X.ft U Gd;have i:=f.ext U y;refine⟨_,_,rfl,fun h=>?_,fun h=>?_⟩;rw[bt Uc]at d;rw[d];exact⟨rfl,⟨N,n,t,A⟩,i,k,Q⟩;rw[aw Uc]at d;intro p2 w2 n2;have T:aq w1 w2:=aj.bu n2;have⟨s1,w3,V,R3,X3,J⟩:=(i.pure T).append (P:=prog) (ty:=46) (c:=1) ux (r:=[vi _]) (az.fi n2).row rfl rfl (by rw[zV];omega) (by rw[zV];simp[maxLen];omega);refine⟨s1,w3,V,?_⟩;rw[zI m Om];have z3:=T.size;refine⟨⟨j+1,M++[_],L2,N,rfl,m,Uc,K,d,rfl,⟨N,(n.pure T).ext X3 fun b g hs=>A b hs g,t,fun b g=>(J b g).elim (A b) fun h Z=>Oh<|n.lt Z⟩,?_,fun b g=>(J b g).elim (k b) fun h=>Om,?_⟩,vT m⟩;simp only[fv,map_append,map_cons,map_nil]at R3|-;exact R3;exact(Q.mh T).ft X3 Gd;have Y:=vH I hj h;subst Y;have e:vD L G [] l=(M,0,B):=by rw[d,drop_length];rfl
 rw[e];exact⟨rfl,⟨F1,u,O,y⟩,f,k,X⟩
def ZC:cl 101 #[vp<|ab q,sg.v,sl.v] w0 (XN fun r1 r2 r3 w'=>(r1,r2,r3)=((zT L G l).1,(zT L G l).2.1,(zT L G l).2.2.1)/\∃F',vJ w' q (zT L G l).2.2.2 F'/\aj F w0 w'/\∀b,F' b->F b\/w0.heap.size<=b):=by
 refine jcS _ _ _ w0 (fun r1 r2 r3 w'=>(r1,r2,r3)=((zT L G l).1,(zT L G l).2.1,(zT L G l).2.2.1)/\∃F',vJ w' q (zT L G l).2.2.2 F'/\aj F w0 w'/\∀b,F' b->F b\/w0.heap.size<=b) ?_;have k:sl.ay=l.length:=by rw[hl.ay];simp
 unfold zT;rw[k];refine⟨fun h=>?_,fun h=>?_⟩;rw[bt<|by grind];exact⟨rfl,F,hP,aj.refl _,fun b n=>.inl n⟩;rw[aw<|by grind];refine⟨fun h=>?_,fun h=>?_⟩;rw[bt<|by simpa using h];exact⟨rfl,F,hP,aj.refl _,fun b n=>.inl n⟩;have h2:l.length≠0:=by simpa using h
 rw[aw h2];refine(zDT q sg sl G l w0 hW hP hg hl hSg hS0 hn).mono ?_;rintro _ t ⟨s,r2,rfl,y⟩;have⟨w,⟨F',g,o,A⟩,c,r,X⟩:=y;refine⟨s,r2,rfl,?_⟩;have d:=EI G l L [];have f:∃F',vJ t q (vD L G [] l).2.2 F'/\aj F w0 t/\∀b,F' b->F b\/w0.heap.size<=b:=⟨F',g,X,o⟩;generalize vD L G [] l=R at *;have⟨M,e,B⟩:=R;simp only at w c d f g;subst w;simp only[length_nil,Nat.zero_add]at d;have p:s.ay=M.length:=by rw[c.ay,zV]
 refine⟨fun h=>?_,fun h=>?_⟩;grind;have u:r2=0:=by simpa using h
 rw[aw<|by simpa using u];have j:=d.2 u;have i:M≠[]:=fun e=>by rw[e]at j;simp at j;omega
 rw[show q6.wrap ((s.ay:Int)-1)=(((l.length-1:Nat)):Int) by rw[p,j,IntWalk.i64_in _<|by omega];omega];have m:jo M ((l.length-1:Nat):Int)=ab (M.getLast i):=by
  rw[vm (by omega)<|by omega];simp[getLast_eq_getElem,j]
 have⟨a,z,x⟩:=CP c m;refine⟨a,z,_,x,?_,f⟩;rw[getLast?_eq_some_getLast i];rfl
end
def MB{L M r u t}(a:bj L u=ai):tK (L++M) r u t↔tK L r u t:=by
 unfold tK;rw[OQ a]
def wo.me{L M G cd v}(h:wo L G cd v)(d:∀t∈zK cd,bj L t=ai):wo (L++M) G cd v:=by
 rcases h with h|⟨a,b,c⟩;exact .inl h;exact .inr ⟨a,(MB<|d _ c).2 b,c⟩
def ZE{S i t}(h:t∈zK (S.take i)):t∈zK S:=by
 unfold zK at h|-;have⟨v,a,e⟩:=List.mem_map.1 h;exact List.mem_map.2 ⟨v,List.mem_of_mem_take a,e⟩
def rK.me{L M G S}(h:rK L G S):rK (L++M) G S:=
 ⟨⟨h.qu,fun t ht=>yP<|h.kq t ht,fun i hi=>(h.wg i hi).me fun t ht=>h.kq t<|ZE ht⟩,fun u a r t b=>h.wt u a r t<|(MB<|h.kq u a).1 b,h.oe,h.Gi⟩
def xq{L G t}(h:bj L t=ai):rh L G t=nV G t:=by unfold rh;rw[bt h]
def CD(c c1 c2:ao):List (Int×bk):=
 [(0,.func (.func 223) #[] #[vp<|ab c1]),(1,.func (.func 224) #[] #[vp<|ab c2]),(2,.func (.func 226) #[] #[vp<|ab c2]),
  (3,.func (.func 228) #[] #[vp<|ab c2]),(4,.func (.func 230) #[] #[vp<|ab c1,vp<|ab c2]),(5,.func (.func 233) #[] #[vp<|ab c1,vp<|ab c2]),
  (6,.func (.func 235) #[] #[vp<|ab c1]),(7,.func (.func 237) #[] #[vp<|ab c1]),(8,.func (.func 238) #[vp<|ab c] #[]),
  (9,.func (.func 239) #[] #[vp<|ab c1,vp<|ab c2]),(10,.func (.func 242) #[] #[vp<|ab c1,vp<|ab c2]),(11,.func (.func 246) #[] #[vp<|ab c1,vp<|ab c2])]
section
variable {w0:af} {c p c1 c2:ao} {sg sm:Sl} {G M:List Int} (hC:sT w0 c p sg sm G M)
variable (h1:w0.cell? c1=ab (vp<|ab c)) (h2:w0.cell? c2=ab (vp<|ab p))
variable {L:bw} {F:NP} (hP:zH w0 p L F) (hok:Ok L)
abbrev ou(p:ao)(F:NP)(w:af)(R:rC)(r1 r2:Int)(w':af):Prop:=(r1,r2)=(R.1,R.2.1)/\∃F',zH w' p R.2.2 F'/\aj F w w'/\∀b,F' b->F b\/w.heap.size<=b
def ou.cd{p F w w1 w' R r1 r2}(E:aq w w1)(h:ou p F w1 R r1 r2 w'):ou p F w R r1 r2 w':=by
 have⟨h1,F',h2,h3,a⟩:=h;exact⟨h1,F',h2,E.pure.trans h3,fun b c=>(a b c).imp_right fun h=>Oh E.size⟩
include hC h1 hP in
def zMC(o):cl 223 #[qo o,vp<|ab c1] w0 (qx p F w0<|uW L G o):=by
 have⟨f,oa,d,on,g⟩:=o;refine Yi f oa d on g _ w0 (ou p F w0<|uW L G ⟨f,oa,d,on,g⟩) ?_;have u:sg.ay=G.length:=by rw[hC.oe.ay,zV]
 have no:∀H w,au w0 bl w0 H w->jo G oa=bo->ou p F w0 (uW L G ⟨f,oa,d,on,g⟩) 0 90 w:=fun H w hs r=>by
  have e:uW L G ⟨f,oa,d,on,g⟩=pG L:=by unfold uW;simp only;rw[r]
  rw[e];exact⟨rfl,F,hP.pure hs.first,hs.first.pure,fun b j=>.inl j⟩
 refine⟨fun h=>fun H w hs=>?_,fun h=>fun H w hs=>?_⟩
 .exact Br.t rfl (no H w hs<|wS<|.inl<|ij h)
 .have h:=il h;have C:=hC.pure hs.first;refine⟨ab c,(hs.first).cell h1 fun h=>h,c,rfl,sg,C.box.cell rfl,?_⟩;refine⟨fun h3=>no H w hs<|wS<|.inr Gd,fun h3=>?_⟩;have h3:=il h3;intro s k;have i:=hs.first.bh k;have l:=hC.pure i;have e:jo G oa=ab (G[oa.toNat]' Om):=vm Om Om;have⟨a,q,m⟩:=CP l.oe e;refine⟨ab c,i.cell h1 fun h=>h,c,rfl,sg,l.box.cell rfl,a,q,_,m,?_⟩;have n:uW L G ⟨f,oa,d,on,g⟩=(G[oa.toNat]' Om,0,L):=by unfold uW;simp only;rw[e]
  rw[n];exact⟨rfl,F,hP.pure i,i.pure,fun b j=>.inl j⟩
include h2 hP hok in
def zMB(o):cl 224 #[qo o,vp<|ab c2] w0 (qx p F w0<|bz L ⟨1,o.a,0,0,⟨#[]⟩,0,0⟩):=by
 have⟨g,oa,i,on,j⟩:=o;refine jat _ _ _ _ _ _ w0 (ou p F w0<|bz L ⟨1,oa,0,0,⟨#[]⟩,0,0⟩) ?_;intro f e c;refine⟨ab p,c.first.cell h2 fun h=>h,?_⟩;refine(jaJ p e (hP.pure c.first) hok oa).mono ?_;rintro _ k ⟨r1,r2,rfl,h⟩;exact⟨r1,r2,rfl,h.2.elim fun F' h=>h.2.1.ff fun b d hx=>Oi (c.old b d)<|hP.lt hx,ou.cd c.first h⟩
include h2 hP hok in
def TL(o):cl 226 #[qo o,vp<|ab c2] w0 (qx p F w0<|bz L ⟨2,0,0,o.num,⟨#[]⟩,0,0⟩):=by
 have⟨f,oa,g,on,i⟩:=o;refine jaD _ _ _ _ _ _ w0 (ou p F w0<|bz L ⟨2,0,0,on,⟨#[]⟩,0,0⟩) ?_;intro e d a;refine⟨ab p,a.first.cell h2 fun h=>h,?_⟩;refine(jbN p d (hP.pure a.first) hok on).mono ?_;rintro _ j ⟨r1,r2,rfl,h⟩;exact⟨r1,r2,rfl,h.2.elim fun F' h=>h.2.1.ff fun b c hx=>Oi (a.old b c)<|hP.lt hx,ou.cd a.first h⟩
include h2 hP hok in
def zLZ(o):cl 228 #[qo o,vp<|ab c2] w0 (qx p F w0<|bz L ⟨3,0,0,0,o.cf,0,0⟩):=by
 have⟨g,oa,i,on,c⟩:=o;refine WD _ _ _ _ _ _ w0 (ou p F w0<|bz L ⟨3,0,0,0,c,0,0⟩) ?_;intro f e a;refine⟨ab p,a.first.cell h2 fun h=>h,?_⟩;refine(jbm p e (hP.pure a.first) hok c).mono ?_;rintro _ j ⟨r1,r2,rfl,h⟩;exact⟨r1,r2,rfl,h.2.elim fun F' h=>h.2.1.ff fun b d hx=>Oi (a.old b d)<|hP.lt hx,ou.cd a.first h⟩
include hC h1 h2 hP hok in
def VD(o):cl 230 #[qo o,vp<|ab c1,vp<|ab c2] w0 (qx p F w0<|uq L M o):=by
 have⟨r,oa,k,on,x⟩:=o;refine WW _ _ _ _ _ _ _ w0 (ou p F w0<|uq L M ⟨r,oa,k,on,x⟩) ?_;intro q n m;have e:=m.first;refine⟨ab c,e.cell h1 fun h=>h,?_⟩;refine(BX (hC.pure e) oa).mono ?_;rintro _ n ⟨s,v,rfl,g,rfl⟩;refine⟨_,_,rfl,av.refl _,ab c,e.cell h1 fun h=>h,?_⟩;refine(BX (hC.pure e) k).mono ?_;rintro _ n ⟨rb,u,rfl,d,rfl⟩;refine⟨_,_,rfl,av.refl _,?_⟩;unfold uq;simp only;have no:∀H w,au w0 q n H w->ou p F w0 (pG L) 0 90 w:=fun H w hs=>⟨rfl,F,hP.pure<|e.bh hs,(e.bh hs).pure,fun b l=>.inl l⟩;cases i:jo M oa with
 |none =>
  rw[i]at g;obtain⟨rfl,rfl⟩:=g
  exact Br.t Sm fun H w hs=>no H w hs
 |some a =>
  rw[i]at g;obtain⟨rfl,rfl⟩:=g
  simp only
  cases j:jo M k with
  |none =>
   rw[j]at d;obtain⟨rfl,rfl⟩:=d
   exact Br.t Sm fun H w hs=>no H w hs
  |some b =>
   rw[j]at d;obtain⟨rfl,rfl⟩:=d
   simp only
   refine Br.f rfl fun H w hs=>⟨ab p,(e.bh hs).cell h2 fun h=>h,?_⟩
   refine(Xo p w (hP.pure<|e.bh hs) hok s rb).mono ?_
   rintro _ y ⟨r1,r2,rfl,h⟩
   exact⟨r1,r2,rfl,h.2.elim fun F' h=>h.2.1.ff fun b l hx=>Oi (hs.old b l)<|hP.lt hx,ou.cd (e.bh hs) h⟩
include hC h1 h2 hP hok in
def U5(o):cl 233 #[qo o,vp<|ab c1,vp<|ab c2] w0 (qx p F w0<|vg L M o):=by
 have⟨l,oa,k,on,q⟩:=o;refine YP _ _ _ _ _ _ _ w0 (ou p F w0<|vg L M ⟨l,oa,k,on,q⟩) ?_;intro s r i;have e:=i.first;refine⟨ab c,e.cell h1 fun h=>h,?_⟩;refine(BX (hC.pure e) oa).mono ?_;rintro _ r ⟨m,n,rfl,d,rfl⟩;refine⟨_,_,rfl,av.refl _,?_⟩;unfold vg;simp only;cases g:jo M oa with
 |none =>
  rw[g]at d;obtain⟨rfl,rfl⟩:=d
  exact Br.t rfl ⟨rfl,F,hP.pure e,e.pure,fun b j=>.inl j⟩
 |some a =>
  rw[g]at d;obtain⟨rfl,rfl⟩:=d
  simp only
  refine Br.f rfl ⟨ab p,e.cell h2 fun h=>h,?_⟩
  refine(Wa p _ (hP.pure e) hok m).mono ?_
  rintro _ u ⟨r1,r2,rfl,h⟩
  exact⟨r1,r2,rfl,h.2.elim fun F' h=>h.2.1.ff fun b j hx=>Oi (i.old b j)<|hP.lt hx,ou.cd e h⟩
include hC h1 hP hok in
def zLW(o):cl 235 #[qo o,vp<|ab c1] w0 (qx p F w0<|yW L M o ak):=by
 have⟨e,oa,f,on,g⟩:=o;refine Vg _ _ _ _ _ _ w0 (ou p F w0<|yW L M ⟨e,oa,f,on,g⟩ ak) ?_;intro j k a;have d:=a.first;refine⟨ab c,d.cell h1 fun h=>h,?_⟩;refine(SH (hC.pure d) (hP.pure d) hok ⟨e,oa,f,on,g⟩ ak).mono ?_;rintro _ l ⟨r1,r2,rfl,h⟩;exact⟨r1,r2,rfl,h.2.elim fun F' h=>h.2.1.ff fun b i hx=>Oi (a.old b i)<|hP.lt hx,ou.cd d h⟩
include hC h1 hP hok in
def Xw(o):cl 237 #[qo o,vp<|ab c1] w0 (qx p F w0<|yW L M o ai):=by
 have⟨e,oa,f,on,g⟩:=o;refine jds _ _ _ _ _ _ w0 (ou p F w0<|yW L M ⟨e,oa,f,on,g⟩ ai) ?_;intro j k a;have d:=a.first;refine⟨ab c,d.cell h1 fun h=>h,?_⟩;refine(SH (hC.pure d) (hP.pure d) hok ⟨e,oa,f,on,g⟩ ai).mono ?_;rintro _ l ⟨r1,r2,rfl,h⟩;exact⟨r1,r2,rfl,h.2.elim fun F' h=>h.2.1.ff fun b i hx=>Oi (a.old b i)<|hP.lt hx,ou.cd d h⟩
include hC h1 h2 hP hok in
def zLU(o:Op):cl 239 #[qo o,vp<|ab c1,vp<|ab c2] w0 (qx p F w0<|vV L M o fun k a=>⟨7,k,0,0,⟨#[]⟩,a,0⟩):=by
 have⟨g,oa,f,on,i⟩:=o;refine SV _ _ _ _ _ _ _ w0 (ou p F w0<|vV L M ⟨g,oa,f,on,i⟩ fun k a=>⟨7,k,0,0,⟨#[]⟩,a,0⟩) ?_;intro m n e;have d:=e.first;refine⟨ab c,d.cell h1 fun h=>h,ab p,d.cell h2 fun h=>h,?_⟩;refine(Jj (hC.pure d) (hP.pure d) hok ⟨g,oa,f,on,i⟩ 241 #[vp<|ab p] #[] (fun k a=>⟨7,k,0,0,⟨#[]⟩,a,0⟩) call241 fun k a w' l=>?_).mono ?_
 .exact jbQ p w' ((hP.pure d).pure l) hok k a
 rintro _ q ⟨r1,r2,rfl,h⟩;exact⟨r1,r2,rfl,h.2.elim fun F' h=>h.2.1.ff fun b j hx=>Oi (e.old b j)<|hP.lt hx,ou.cd d h⟩
variable (hd:¬F c2.block)
include hC h1 h2 hP hok hd in
def Z0(o:Op):cl 242 #[qo o,vp<|ab c1,vp<|ab c2] w0 (qx p F w0<|vV L M o fun k a=>⟨8,k,tz o.num,0,⟨#[]⟩,a,0⟩):=by
 have⟨n,oa,i,on,r⟩:=o;refine Us n oa i on r _ _ w0 (ou p F w0<|vV L M ⟨n,oa,i,on,r⟩ fun k a=>⟨8,k,tz on,0,⟨#[]⟩,a,0⟩) ?_;intro e x d;have f:aq w0 x:=aj.bu d;have u:=az.fi d;refine⟨ab c,f.cell h1 fun h=>h,_,_,_,_,_,u.row,?_⟩;refine(Jj (hC.pure f) (hP.pure f) hok ⟨n,oa,i,on,r⟩ 243 #[] #[vp<|ab c2,vp<|ab e] (fun k a=>⟨8,k,tz on,0,⟨#[]⟩,a,0⟩) call243 fun k a w' j=>?_).mono ?_;refine Ua k a _ _ w' (ou p F w'<|bz L ⟨8,k,tz on,0,⟨#[]⟩,a,0⟩) ?_;have l:=(f.trans j).cell h2 fun h=>h;have q:w'.cell? (e.add 3)=ab (vu on):=(u.pure j).cell rfl;have m:¬F (e.add 3).block:=fun h=>by rw[zD]at h;have:=hP.lt h;have:=d.gp;omega
 have s:aq w' w'.drew:=aj.drew w';have ly:∀{X:NP} {a b:af},(a.cell? c2=ab (vp<|ab p)/\a.cell? (e.add 3)=ab (vu on))->aj X a b->(∀b,X b->F b)->b.cell? c2=ab (vp<|ab p)/\b.cell? (e.add 3)=ab (vu on):=fun h E hx=>⟨E.cell h.1 fun hh=>hd<|hx _ hh,E.cell h.2 fun hh=>m<|hx _ hh⟩;have v:=ly ⟨l,q⟩ s fun _ h=>h.elim;refine⟨fun w=>w.cell? c2=ab (vp<|ab p)/\w.cell? (e.add 3)=ab (vu on),v,?_⟩;rintro _ rfl;refine⟨ab p,fun _ h=>h.1,on,fun _ h=>h.2,?_⟩;refine(Rq on _).mono ?_;rintro _ t ⟨rfl,g⟩;have z:=ly v g fun _ h=>h.elim;refine⟨_,rfl,z,g.dy,?_⟩;refine(jak p t (hP.pure<|((f.trans j).trans s).trans g) hok k (IU on) a).mono ?_;rintro _ A ⟨r1,r2,rfl,h⟩;exact⟨r1,r2,rfl,h.2.elim Gd,h.2.elim fun F' h=>h.2.1.ff fun b y hx=>y.elim,ou.cd (s.trans g) h⟩;rintro _ t ⟨r1,r2,rfl,h⟩;exact⟨r1,r2,rfl,ou.cd f h⟩
include hC h1 h2 hP hok hd in
def Zn(o:Op):cl 246 #[qo o,vp<|ab c1,vp<|ab c2] w0 (qx p F w0<|vV L M o fun k a=>⟨9,tz o.num,k,0,⟨#[]⟩,a,0⟩):=by
 have⟨n,oa,i,on,r⟩:=o;refine Ui n oa i on r _ _ w0 (ou p F w0<|vV L M ⟨n,oa,i,on,r⟩ fun k a=>⟨9,tz on,k,0,⟨#[]⟩,a,0⟩) ?_;intro e x d;have f:aq w0 x:=aj.bu d;have u:=az.fi d;refine⟨ab c,f.cell h1 fun h=>h,_,_,_,_,_,u.row,?_⟩;refine(Jj (hC.pure f) (hP.pure f) hok ⟨n,oa,i,on,r⟩ 247 #[] #[vp<|ab c2,vp<|ab e] (fun k a=>⟨9,tz on,k,0,⟨#[]⟩,a,0⟩) call247 fun k a w' j=>?_).mono ?_;refine jbG k a _ _ w' (ou p F w'<|bz L ⟨9,tz on,k,0,⟨#[]⟩,a,0⟩) ?_;have l:=(f.trans j).cell h2 fun h=>h;have q:w'.cell? (e.add 3)=ab (vu on):=(u.pure j).cell rfl;have m:¬F (e.add 3).block:=fun h=>by rw[zD]at h;have:=hP.lt h;have:=d.gp;omega
 have s:aq w' w'.drew:=aj.drew w';have ly:∀{X:NP} {a b:af},(a.cell? c2=ab (vp<|ab p)/\a.cell? (e.add 3)=ab (vu on))->aj X a b->(∀b,X b->F b)->b.cell? c2=ab (vp<|ab p)/\b.cell? (e.add 3)=ab (vu on):=fun h E hx=>⟨E.cell h.1 fun hh=>hd<|hx _ hh,E.cell h.2 fun hh=>m<|hx _ hh⟩;have v:=ly ⟨l,q⟩ s fun _ h=>h.elim;refine⟨fun w=>w.cell? c2=ab (vp<|ab p)/\w.cell? (e.add 3)=ab (vu on),v,?_⟩;rintro _ rfl;refine⟨ab p,fun _ h=>h.1,on,fun _ h=>h.2,?_⟩;refine(Rq on _).mono ?_;rintro _ t ⟨rfl,g⟩;have z:=ly v g fun _ h=>h.elim;refine⟨_,rfl,z,g.dy,?_⟩;refine(U6 p t (hP.pure<|((f.trans j).trans s).trans g) hok (IU on) k a).mono ?_;rintro _ A ⟨r1,r2,rfl,h⟩;exact⟨r1,r2,rfl,h.2.elim Gd,h.2.elim fun F' h=>h.2.1.ff fun b y hx=>y.elim,ou.cd (s.trans g) h⟩;rintro _ t ⟨r1,r2,rfl,h⟩;exact⟨r1,r2,rfl,ou.cd f h⟩
include hC h1 h2 hP hok hd in
def YZ(o:Op):(SE.iv (CD c c1 c2) o.code=bo->yI L G M o=pG L) /\
  ∀v,SE.iv (CD c c1 c2) o.code=ab v->∃f a cs,v=.func (.func f) a cs/\(∀args w,(callFunc f args).run prog w=.ok (.enter f args) w)/\Calls prog f (a++#[qo o]++cs) w0 (qx p F w0<|yI L G M o):=by
 have q:=zMC hC h1 hP o
 have d1:=zMB h2 hP hok o
 have d2:=TL h2 hP hok o
 have d3:=zLZ h2 hP hok o
 have z:=VD hC h1 h2 hP hok o
 have r:=U5 hC h1 h2 hP hok o
 have x:=zLW hC h1 hP hok o
 have A:=Xw hC h1 hP hok o
 have y:=UV hC hP hok o
 have m:=zLU hC h1 h2 hP hok o
 have g:=Z0 hC h1 h2 hP hok hd o
 have i:=Zn hC h1 h2 hP hok hd o
 generalize s:o.code=k
 unfold yI CD
 rw[s]
 have step : ∀ (n : Int) (u : bk) (d : List (Int × bk)) (R b : rC), (∃f a cs, u = .func (.func f) a cs /\ (∀ args w, (callFunc f args).run prog w = .ok (.enter f args) w) /\ Calls prog f (a ++ #[qo o] ++ cs) w0 (qx p F w0 R)) ->
   ((SE.iv d k=bo->b=pG L)/\∀v,SE.iv d k=ab v->∃f a cs,v=.func (.func f) a cs/\(∀args w,(callFunc f args).run prog w=.ok (.enter f args) w)/\Calls prog f (a++#[qo o]++cs) w0 (qx p F w0 b)) ->
   ((SE.iv ((n,u) ::d) k=bo->(if k=n then R else b)=pG L)/\∀v,SE.iv ((n,u) ::d) k=ab v->∃f a cs,v=.func (.func f) a cs/\(∀args w,(callFunc f args).run prog w=.ok (.enter f args) w)/\Calls prog f (a++#[qo o]++cs) w0 (qx p F w0<|if k=n then R else b)):=by
  intro n u d R b h t
  rw[SE.iv]
  by_cases e:k=n
  rw[bt e.symm,bt e]
  exact⟨fun h=>Uc,fun v j=>Uc⟩
  rw[aw fun l=>e l.symm,aw e]
  exact t
 refine step 0 _ _ _ _ ⟨_,_,_,rfl,call223,q⟩ ?_
 refine step 1 _ _ _ _ ⟨_,_,_,rfl,call224,d1⟩ ?_
 refine step 2 _ _ _ _ ⟨_,_,_,rfl,call226,d2⟩ ?_
 refine step 3 _ _ _ _ ⟨_,_,_,rfl,call228,d3⟩ ?_
 refine step 4 _ _ _ _ ⟨_,_,_,rfl,call230,z⟩ ?_
 refine step 5 _ _ _ _ ⟨_,_,_,rfl,call233,r⟩ ?_
 refine step 6 _ _ _ _ ⟨_,_,_,rfl,call235,x⟩ ?_
 refine step 7 _ _ _ _ ⟨_,_,_,rfl,call237,A⟩ ?_
 refine step 8 _ _ _ _ ⟨_,_,_,rfl,call238,y⟩ ?_
 refine step 9 _ _ _ _ ⟨_,_,_,rfl,call239,m⟩ ?_
 refine step 10 _ _ _ _ ⟨_,_,_,rfl,call242,g⟩ ?_
 refine step 11 _ _ _ _ ⟨_,_,_,rfl,call246,i⟩ ?_
 exact⟨fun _=>rfl,fun v j=>by cases j⟩
end
def jMC{w0:af}{c p:ao}{sg sm:Sl}{G M:List Int}(hC:sT w0 c p sg sm G M):cl 163 #[vp<|ab c] w0
  (XQ fun r w'=>∃m c1 c2,r=ab m/\jm id w' m (CD c c1 c2)/\az w' c1 [vp<|ab c] 239/\az w' c2 [vp<|ab p] 91/\m≠c1.block/\m≠c2.block/\w0.heap.size<=m/\w0.heap.size<=c1.block/\w0.heap.size<=c2.block/\aq w0 w'):=by
 refine S3 _ w0 _ ?_
 intro b w1 n1
 have E1:aq w0 w1:=aj.bu n1
 have J:=az.fi n1
 refine⟨ab c,J.dj,c,rfl,ab p,(hC.pure E1).box.dj,?_⟩
 intro a w2 n2
 have E2:aq w1 w2:=aj.bu n2
 have O:=az.fi n2
 refine⟨O.mi Sm,?_⟩
 intro N e
 have F:aj (·=a.block) w2 N:=by rw[e];exact aj.setCell a _
 have t:az N a [vp<|ab p] 91:=by rw[e];exact O.nw
 clear e
 have z1:=n1.gp
 have z2:=n2.gp
 have s3:=F.size
 have l1:=J.lt
 have l2:=O.lt
 have f:=(J.pure E2).ext F (show ¬b.block=a.block by omega)
 have V:=(E1.trans E2).bf Om F
 intro d w4 n4
 have g:aq N w4:=aj.bu n4
 have z4:=n4.gp
 have M0:jm id w4 d.block []:=jm.fi n4
 have put:∀{w:af} {M:List (Int×bk)} (k:Int) (v:bk),jm id w d.block M->SE.iv M k=bo->∃w',(Instr.mapUpdate 242 (.map<|ab d.block) (vi k) v).run prog w=.ok () w'/\jm id w' d.block (M++[(k,v)])/\aj (·=d.block) w w':=fun k v h hn=>h.put (P:=prog) (T:=242) (K:=3) underlying242 underlying3 hn v
 have⟨w5,r5,M5,X5⟩:=put 0 (.func (.func 223) #[] #[vp<|ab b]) M0 rfl
 refine⟨w5,r5,?_⟩
 have⟨w6,r6,M6,X6⟩:=put 1 (.func (.func 224) #[] #[vp<|ab a]) M5 rfl
 refine⟨w6,r6,?_⟩
 have⟨w7,r7,M7,X7⟩:=put 2 (.func (.func 226) #[] #[vp<|ab a]) M6 rfl
 refine⟨w7,r7,?_⟩
 have⟨w8,r8,M8,X8⟩:=put 3 (.func (.func 228) #[] #[vp<|ab a]) M7 rfl
 refine⟨w8,r8,?_⟩
 have⟨w9,r9,M9,X9⟩:=put 4 (.func (.func 230) #[] #[vp<|ab b,vp<|ab a]) M8 rfl
 refine⟨w9,r9,?_⟩
 have⟨n,u,D,z⟩:=put 5 (.func (.func 233) #[] #[vp<|ab b,vp<|ab a]) M9 rfl
 refine⟨n,u,?_⟩
 have⟨y,H,R,q⟩:=put 6 (.func (.func 235) #[] #[vp<|ab b]) D rfl
 refine⟨y,H,?_⟩
 have⟨l,L,A,i⟩:=put 7 (.func (.func 237) #[] #[vp<|ab b]) R rfl
 have X4:=((((((X5.trans X6).trans X7).trans X8).trans X9).trans z).trans q).trans i
 have o:=(f.pure g).ext X4 (show ¬b.block=d.block by omega)
 refine⟨l,L,ab c,o.dj,?_⟩
 have⟨w13,E,W,s⟩:=put 8 (.func (.func 238) #[vp<|ab c] #[]) A rfl
 refine⟨w13,E,?_⟩
 have⟨Y,r14,B,j⟩:=put 9 (.func (.func 239) #[] #[vp<|ab b,vp<|ab a]) W rfl
 refine⟨Y,r14,?_⟩
 have⟨U,Z,Q,x⟩:=put 10 (.func (.func 242) #[] #[vp<|ab b,vp<|ab a]) B rfl
 refine⟨U,Z,?_⟩
 have⟨I,C,M16,S⟩:=put 11 (.func (.func 246) #[] #[vp<|ab b,vp<|ab a]) Q rfl
 have X:=((X4.trans s).trans j).trans<|x.trans S
 refine⟨I,C,d.block,b,a,rfl,M16,(f.pure g).ext X<|show ¬b.block=d.block by omega,(t.pure g).ext X<|show ¬a.block=d.block by omega,Om,Om,Om,Om,Om,(V.trans g).bf Om X⟩
structure sN(w0:af)(H:NP)(w:af)(c p c1 c2:ao)(m:Nat)(sg sm:Sl)(G M:List Int)(L:bw)(F F1:NP):Prop where
 ck:sT w c p sg sm G M
 mp:jm id w m (CD c c1 c2)
 b1:az w c1 [vp<|ab c] 239
 b2:az w c2 [vp<|ab p] 91
 ew:zH w p L F1
 fr:aj F w0 w
 hs:au w0 H w H w
 oP:∀b,F1 b->(F b\/w0.heap.size<=b)/\¬H b
 oc:w0.heap.size<=c.block/\¬H c.block/\¬F1 c.block
 o1:w0.heap.size<=c1.block/\¬H c1.block/\¬F1 c1.block/\c1.block≠c.block
 o2:w0.heap.size<=c2.block/\¬H c2.block/\¬F1 c2.block/\c2.block≠c.block
 om:w0.heap.size<=m/\¬H m/\¬F1 m/\m≠c.block
 og:∀b,sg.bg b->w0.heap.size<=b/\¬H b/\¬F1 b/\b≠c.block
 os:∀b,sm.bg b->w0.heap.size<=b/\¬H b/\¬F1 b/\b≠c.block/\b≠c1.block/\b≠c2.block/\b≠m/\¬sg.bg b
section
variable {w0 w w':af} {H H':NP} {c p c1 c2:ao} {m:Nat} {sg sm:Sl} {G M:List Int} {L L':bw} {F F1 F2:NP}
def sN.bh(h:sN w0 H w c p c1 c2 m sg sm G M L F F1)(hs:au w0 H w H' w'):sN w0 H' w' c p c1 c2 m sg sm G M L F F1:=by
 have d:=hs.mn (G:=fun b=>Je c sg sm b) fun b a=>⟨h.ck.lt a,by rcases a with rfl|a|a;exact h.oc.2.1;exact(h.og b a).2.1;exact(h.os b a).2.1⟩;have f:=hs.mn (G:=F1) fun b a=>⟨h.ew.lt a,(h.oP b a).2⟩;have e:=hs.mn (G:=(·=c1.block)) (fun b a=>by subst a;exact⟨h.b1.lt,h.o1.2.1⟩) _ rfl;have g:=hs.mn (G:=(·=c2.block)) (fun b a=>by subst a;exact⟨h.b2.lt,h.o2.2.1⟩) _ rfl;have i:=hs.mn (G:=(·=m)) (fun b a=>by subst a;exact⟨h.mp.lt,h.om.2.1⟩) _ rfl;exact⟨h.ck.ext hs.ext d,h.mp.ext hs.ext i,h.b1.ext hs.ext e,h.b2.ext hs.ext g,h.ew.ext hs.ext f,h.fr.bh hs,hs.jj,fun b a=>⟨(h.oP b a).1,f b a⟩,⟨h.oc.1,d _<|.inl rfl,h.oc.2.2⟩,⟨h.o1.1,e,h.o1.2.2⟩,⟨h.o2.1,g,h.o2.2.2⟩,⟨h.om.1,i,h.om.2.2⟩,
  fun b a=>⟨(h.og b a).1,d b<|.inr<|.inl a,(h.og b a).2.2⟩,fun b a=>⟨(h.os b a).1,d b<|.inr<|.inr a,(h.os b a).2.2⟩⟩
def sN.bz(h:sN w0 H w c p c1 c2 m sg sm G M L F F1)(hP:zH w' p L' F2)(E:aj F1 w w')(d:∀b,F2 b->F1 b\/w.heap.size<=b):av H w w'/\sN w0 H w' c p c1 c2 m sg sm G M L' F F2:=by
 have e:=E.ff fun b a f=>(h.oP b f).2 a;have z:=h.fr.size;have nf:∀b,b<w.heap.size->¬F1 b->¬F2 b:=fun b a h1 h2=>(d b h2).elim h1 fun h3=>Om;refine⟨e,h.ck.ext E fun b a=>by rcases a with rfl|a|a;exact h.oc.2.2;exact(h.og b a).2.2.1;exact(h.os b a).2.2.1,h.mp.ext E h.om.2.2.1,h.b1.ext E h.o1.2.2.1,h.b2.ext E h.o2.2.2.1,hP,?_,h.hs.jg e,fun b a=>?_,⟨h.oc.1,h.oc.2.1,nf _ h.ck.box.lt h.oc.2.2⟩,⟨h.o1.1,h.o1.2.1,nf _ h.b1.lt h.o1.2.2.1,h.o1.2.2.2⟩,⟨h.o2.1,h.o2.2.1,nf _ h.b2.lt h.o2.2.2.1,h.o2.2.2.2⟩,⟨h.om.1,h.om.2.1,nf _ h.mp.lt h.om.2.2.1,h.om.2.2.2⟩,
  fun b a=>⟨(h.og b a).1,(h.og b a).2.1,nf _ (h.ck.oe.lt a) (h.og b a).2.2.1,(h.og b a).2.2.2⟩,fun b a=>⟨(h.os b a).1,(h.os b a).2.1,nf _ (h.ck.pU.lt a) (h.os b a).2.2.1,(h.os b a).2.2.2⟩⟩
 exact h.fr.ft E fun i hi a=>(h.oP i a).1.elim id fun h=>Om;rcases d b a with h1|h1;exact h.oP b h1;exact⟨.inr Om,fun hh=>Oh<|h.hs.lt b hh⟩
def sN.me(h:sN w0 H w c p c1 c2 m sg sm G M L F F1){t q w1}(s:fp w (.cells #[vi t] 73) q w1)(hn:M.length<=1000000):∃s1 j,(cm #[46,46] 46 #[sm.v,(Sl.mk (ab q) 1 1).v]).run prog w1=.ok s1.v j/\av H w1 j/\zJ j (c.add 2) /\
  sN w0 H (j.setCell (c.add 2) s1.v) c p c1 c2 m sg s1 G (M++[t]) L F F1:=by
 have d:aq w w1:=aj.bu s
 have⟨s1,j,u,x,f,a⟩:=(h.ck.pU.pure d).append (P:=prog) (ty:=46) (c:=1) ux (r:=[vi t]) (az.fi s).row rfl rfl (by rw[zV];omega) (by rw[zV];simp[maxLen];omega)
 have o:=f.ff fun b a hs=>(h.os b hs).2.1 a
 have k:=(h.ck.box.pure d).ext f fun hs=>(h.os _ hs).2.2.2.1 rfl
 have y:=d.size
 have A:=f.size
 have z:=h.fr.size
 have g:=aj.setCell (w:=j) (c.add 2) s1.v
 rw[zD]at g
 have l:∀b,s1.bg b->w0.heap.size<=b/\¬H b/\¬F1 b/\b≠c.block/\b≠c1.block/\b≠c2.block/\b≠m/\¬sg.bg b:=fun b n=>by
  rcases a b n with h1|h1;exact h.os b h1;have a0:=h.ck.box.lt;have a1:=h.b1.lt;have a2:=h.b2.lt;have a3:=h.mp.lt;exact⟨Om,fun hh=>Oh<|h.hs.lt b hh,fun hh=>Oh<|h.ew.lt hh,Om,Om,Om,Om,fun hh=>Oh<|h.ck.oe.lt hh⟩
 refine⟨s1,j,u,o,k.im Sm,⟨k.set 2 s1.v,((h.ck.oe.pure d).ext f fun b a hs=>(h.os b hs).2.2.2.2.2.2.2 a).ext g fun b a e=>(h.og b a).2.2.2 e,?_⟩,((h.mp.pure d).ext f fun hs=>(h.os _ hs).2.2.2.2.2.2.1 rfl).ext g h.om.2.2.2,((h.b1.pure d).ext f fun hs=>(h.os _ hs).2.2.2.2.1 rfl).ext g h.o1.2.2.2,((h.b2.pure d).ext f fun hs=>(h.os _ hs).2.2.2.2.2.1 rfl).ext g h.o2.2.2.2,
  ((h.ew.pure d).ext f fun b a hs=>(h.os b hs).2.2.1 a).ext g fun b a e=>h.oc.2.2<|e▸a,?_,(h.hs.jg<|d.dy).jg o |>.jg (g.ff fun b a e=>h.oc.2.1<|e▸a),h.oP,h.oc,h.o1,h.o2,h.om,h.og,l⟩
 rw[show fv (M++[t])=fv M++[[vi t]] by simp[fv]]
 exact x.ext g Gd
 exact((h.fr.mh d).ft f fun i hi hs=>Oh<|(h.os i hs).1).ft g fun i hi e=>Oh h.oc.1
end
structure NN(w0:af)(p:ao)(F:NP)(R:List Int×Int×bw)(s:Sl)(r2:Int)(w':af):Prop where
 gd:r2=R.2.1
 ew:∃F',zH w' p R.2.2 F'/\(∀b,F' b->F b\/w0.heap.size<=b)/\∀b,s.bg b->¬F' b
 fg:c9 w' 73 1 s (fv R.1)
 bf:∀b,s.bg b->w0.heap.size<=b
 fr:aj F w0 w'
def sN.done{w0 w H c p c1 c2 m sg sm G M L F F1}(h:sN w0 H w c p c1 c2 m sg sm G M L F F1){R:List Int×Int×bw}{e}(d:R=(M,e,L)):NN w0 p F R sm e w:=by
 subst d;exact⟨rfl,⟨F1,h.ew,fun b a=>(h.oP b a).1,fun b a=>(h.os b a).2.2.1⟩,h.ck.pU,fun b a=>(h.os b a).1,h.fr⟩
def SY{Sl0:NP}(p k:ao)(sl:Sl)(l:List Op)(w0:af){L:bw}{G:List Int}{S:List ln}{F FK:NP}(hW:Wf L)(hP:zH w0 p L F)(hK:qC w0 k p G S FK)(hl:gr Sl0 w0 5 sl (l.map rS))(hS0:∀b,Sl0 b->b<w0.heap.size/\¬ F b)(hG:G.length<=1000000)(hn:l.length<=1000):
  cl 108 #[vp<|ab p,vp<|ab k,sl.v] w0<|XR fun s r2 w'=>NN w0 p F (vD L G [] l) s r2 w':=by
 refine jaW _ _ _ w0 _ ?_
 refine(KE k p w0 hK hG).mono ?_
 rintro _ w1 ⟨sg,rfl,r⟩
 refine⟨sg,rfl,r.ff,?_⟩
 intro c w2 n2
 have Q:aq w1 w2:=aj.bu n2
 have B2:=az.fi n2
 have A:∀b,¬Sl.nil.bg b:=fun b i=>by have⟨a,h,_⟩:=i;cases h
 have C2:sT w2 c p sg Sl.nil G []:=⟨B2,r.fg.pure Q,c9.nil _ _ _⟩
 refine(jMC C2).mono ?_
 rintro _ w3 ⟨_,rfl,m,c1,c2,rfl,hM,Y,Z,hm1,hm2,z1,z2,z3,K⟩
 refine⟨_,rfl,K.dy,?_⟩
 have u:=(r.pure.trans Q).trans K
 have q0:=r.pure.size
 have q1:=n2.gp
 have q2:=Q.size
 have q3:=K.size
 have q4:=B2.lt
 have R3:sN w0 bl w3 c p c1 c2 m sg Sl.nil G [] L F F:=by
  refine⟨C2.pure K,hM,Y,Z,hP.pure u,u.pure,(au.start w0).jg u.dy,fun b i=>⟨.inl i,fun h=>h⟩,⟨Om,fun h=>h,fun h=>Oh<|hP.lt h⟩,⟨Om,fun h=>h,fun h=>Oh<|hP.lt h,Om⟩,⟨Om,fun h=>h,fun h=>Oh<|hP.lt h,Om⟩,⟨Om,fun h=>h,fun h=>Oh<|hP.lt h,Om⟩,fun b i=>⟨r.bf b i,fun h=>h,fun h=>Oi (hP.lt h)<|r.bf b i,?_⟩,fun b i=>(A b i).elim⟩;have:=r.fg.lt i;omega
 refine⟨fun x H w=>∃(j:Nat) (M:List Int) (J:bw) (sm:Sl) (F1:NP),x=j/\j<=l.length/\M.length=j/\Wf J/\vD L G [] l=vD J G M (l.drop j)/\sN w0 H w c p c1 c2 m sg sm G M J F F1,fun x _=>((l.length:Int)-x).toNat,⟨0,[],L,Sl.nil,F,rfl,Nat.zero_le _,rfl,hW,rfl,R3⟩,?_⟩
 rintro _ H w _ ⟨j,M,J,sm,F1,rfl,hj,hMj,z,d,R⟩
 unfold Pl
 have C:sl.ay=l.length:=by rw[hl.ay];simp
 refine⟨fun h=>?_,fun h=>?_⟩
 have e:=vA C h
 have⟨a,hat,U,B⟩:=hl.mv e
 have wV:=R.fr.row B (hS0 _ U).2
 refine⟨a,hat,l[j].code,l[j].a,l[j].b,l[j].num,l[j].cf,wV,?_⟩
 intro H1 w5 V
 have g:=R.bh V
 rw[Mb e]at d
 have E:=z.ok
 have n:=YZ g.ck g.b1.dj g.b2.dj g.ew E g.o2.2.2.1 l[j]
 generalize l[j]=o at *
 rcases g.mp.get (P:=prog) (T:=242) underlying242 underlying3 (zeroValue245 _) o.code ai with⟨g1,g2⟩|⟨v,g1,g2⟩
 refine⟨_,_,g2,Br.t rfl ⟨sm,g.ck.box.cell rfl,?_⟩⟩
 rw[n.1 g1]at d
 exact g.done d
 obtain⟨f1,fs,cs,rfl,hf,hc⟩:=n.2 v g1
 refine⟨_,_,g2,Br.f rfl ⟨f1,fs,cs,rfl,hf,?_⟩⟩
 refine hc.mono ?_
 rintro _ w6 ⟨r3,r4,rfl,hr,F2,N,X2,O⟩
 have⟨k6,y⟩:=g.bz N X2 O
 have I:=xw z G M o
 generalize yI J G M o=D at *
 have⟨d1,d2,L2⟩:=D
 simp only[ei]at hr
 obtain⟨rfl,rfl⟩:=hr
 simp only at d y I
 refine⟨_,_,rfl,k6,fun h=>?_,fun h=>?_⟩
 rw[bt Uc]at d
 exact⟨sm,y.ck.box.cell rfl,y.done d⟩
 rw[aw Uc]at d
 refine⟨sm,y.ck.box.cell rfl,?_⟩
 intro q w7 n7
 have⟨s1,w8,X,k8,cw,R9⟩:=y.me n7 Om
 refine⟨s1,w8,X,k8,cw,by rw[zD];exact y.oc.2.1,?_⟩
 rintro _ rfl
 rw[zI e Om]
 exact⟨⟨j+1,M++[_],L2,s1,F2,rfl,e,Uc,I,d,R9⟩,vT e⟩
 have W:=vH C hj h
 subst W
 refine⟨sm,R.ck.box.cell rfl,R.done ?_⟩
 rw[d,drop_length];rfl
def jYU{p k sl n}(h:sl.ay=n):Ch (ab p) (ab k) sl=(if n>256 then 6 else if n=0 then 3 else 0):=by
 unfold Ch;rw[h];simp only[Option.isNone_some,Bool.or_self,cond_false];by_cases h1:n>256;grind;grind
abbrev Ql(w0:af)(p:ao)(F:NP)(R:Int×Int×Int×bw)(r1 r2 r3:Int)(w':af):Prop:=(r1,r2,r3)=(R.1,R.2.1,R.2.2.1)/\∃F',zH w' p R.2.2.2 F'/\aj F w0 w'/\∀b,F' b->F b\/w0.heap.size<=b
section
variable {Sl0:NP} (p k:ao) (sl:Sl) (l:List Op) (w0:af) {L:bw} {G:List Int} {S:List ln} {F FK:NP} (hW:Wf L) (hP:zH w0 p L F) (hK:qC w0 k p G S FK) (hl:gr Sl0 w0 5 sl (l.map rS)) (hS0:∀b,Sl0 b->b<w0.heap.size/\¬F b) (hG:G.length<=1000000) (hn:l.length<=1000)
include hW hP hK hl hS0 hG hn
def jPF:cl 52 #[vp<|ab p,vp<|ab k,sl.v] w0 (XN fun r1 r2 r3 w'=>Ql w0 p F (zT L G l) r1 r2 r3 w'):=by
 refine jbT _ _ _ w0 (Ql w0 p F<|zT L G l) ?_;have u:sl.ay=l.length:=by rw[hl.ay];simp
 rw[jYU u];unfold zT;by_cases h1:l.length>256
 .rw[bt h1,bt h1];exact Br.t rfl fun r c=>⟨rfl,F,hP.pure c.first,c.first.pure,fun b i=>.inl i⟩
 rw[aw h1,aw h1];by_cases h2:l.length=0
 .rw[bt h2,bt h2];exact Br.t rfl fun r c=>⟨rfl,F,hP.pure c.first,c.first.pure,fun b i=>.inl i⟩
 rw[aw h2,aw h2];refine Br.f rfl fun r c=>?_;have j:=c.first;refine(SY p k sl l r hW (hP.pure j) (hK.pure j) (hl.pure j) (fun b i=>⟨Oi ((hS0 b i).1) j.size,(hS0 b i).2⟩) hG hn).mono ?_;rintro _ A ⟨s,r2,rfl,E⟩;have⟨C,⟨F',n,x,I⟩,d,z,X⟩:=E;refine⟨s,r2,rfl,X.ff fun b i=>i.elim,?_⟩;have g:=EI G l L [];have m:∃F',zH A p (vD L G [] l).2.2 F'/\aj F w0 A/\∀b,F' b->F b\/w0.heap.size<=b:=⟨F',n,j.pure.trans X,fun b i=>(x b i).imp_right fun h=>Oh j.size⟩;generalize vD L G [] l=R at *;have⟨M,e,J⟩:=R;simp only at C d g m n;subst C;simp only[length_nil,Nat.zero_add]at g;have y:s.ay=M.length:=by rw[d.ay,zV]
 refine⟨fun h=>?_,fun h=>?_⟩
 .grind
 .have B:r2=0:=by simpa using h
  rw[aw<|by simpa using B];have q:=g.2 B;have o:M≠[]:=fun e=>by rw[e]at q;simp at q;omega
  rw[show q6.wrap ((s.ay:Int)-1)=(((l.length-1:Nat)):Int) by rw[y,q,IntWalk.i64_in _ Om];omega];have w:jo M ((l.length-1:Nat):Int)=ab (M.getLast o):=by
   rw[vm Om Om];simp[getLast_eq_getElem,q]
  have⟨a,H,D⟩:=CP d w;refine⟨a,H,_,D,?_,m⟩;rw[getLast?_eq_some_getLast o];rfl
end
def Y7(l:List Op):∀q∈l.map rS,q.length=5:=by intro q a;obtain⟨o,_,rfl⟩:=mem_map.1 a;rfl
def zCB(l:List Op):∀q∈l.map rS,q.all vC=ai:=by intro q a;obtain⟨o,_,rfl⟩:=mem_map.1 a;rfl
def Ys:nY prog 36 88 5 48:=by
 refine⟨underlying36,⟨t88,_,Kf,(by kernel_rfl:t88.zero=ab (.agg #[vi 0,vi 0,vi 0,vu 0,vs ⟨#[]⟩])),Kf,Kf,rfl⟩,Om⟩
def zGC{So:NP}{so:Sl}{ax:List Op}{w d:af}{g:ao}(i:gr So w 5 so (ax.map rS))(n:ax.length<=1000)(n3:fp w (.cells #[] 88) g d):∃s1 c,(cm #[36,36] 36 #[(Sl.mk (ab g) 0 0).v,so.v]).run prog d=.ok s1.v c/\c9 c 88 5 s1 (ax.map rS)/\aq w c/\aq w d/\(∀b,s1.bg b->w.heap.size<=b)/\∀H,(∀b,H b->b<w.heap.size)->av H d c:=by
 have f:aq w d:=aj.bu n3;have l:=n3.gp;have⟨s1,c,j,R,X,b4⟩:=(c9.empty (sz:=5) n3).Am (P:=prog) (ty:=36) Ys (i.pure f) (Y7 _) (zCB _) (by simp;omega) (by simp[maxLen];omega);have hx:∀b,(Sl.mk (ab g) 0 0).bg b->b=g.block:=fun b ⟨a,m,e⟩=>Uc;refine⟨s1,c,j,Uc,f.ft X<|by grind,f,fun b h=>(b4 b h).elim (by grind) fun h=>by have:=f.size;omega,fun H k=>X.ff<|by grind⟩
def sX.um{P:ez}{c:FuncId}{lb:Array bk}{α:Type}{a:α->Array bk}{xs:List α}{Rd:WP}{w b:af}(h:sX P c lb a xs Rd w)(E:aq w b):sX P c lb a xs Rd b:=
 fun l J e W d=>h l J e W<|E.trans d
def Ts{S:NP}{pc:ao}{s:Sl}{xs:List Int}{q:af}(hB:az q pc [s.v] 46)(D:xs.length<=1000000):
  sX prog 188 #[vp<|ab pc] (fun z:Int=>#[vi z]) xs (fun A=>gr S A 1 s<|fv xs) q:=by
 intro l J u W E o C y d B
 refine(jcM (.func (.yield l) #[] #[]) pc W (fun A=>∃X,au W X A X A/\(J xs X A\/∃cd,u cd X A)) ?_).mono fun e A h=>⟨⟨_,h.1⟩,h.2⟩
 refine⟨s,(hB.pure E).dj,fun x A=>∃j:Nat,x=j/\j<=xs.length/\au W bl A bl A/\J (xs.take j) bl A,fun x _=>((xs.length:Int)-x).toNat,⟨0,rfl,Nat.zero_le _,au.start W,B⟩,?_⟩
 rintro _ A ⟨j,rfl,w,k,c⟩
 unfold RC
 have p:=o _ _ _ c
 have g:s.ay=xs.length:=by rw[p.ay,zV]
 refine⟨fun b=>?_,fun b=>?_⟩
 have b:=vA g b
 have⟨a,m,_,r⟩:=yN p b
 refine⟨a,m,_,r,l,rfl,?_⟩
 refine(d (xs.take j) xs[j] _ A c k ⟨xs.drop<|j+1,Uc⟩).mono ?_
 rintro e A' (⟨rfl,n,i⟩|⟨rfl,n,i⟩)
 refine⟨_,rfl,Br.f rfl ⟨⟨j+1,zI b Om,b,k.jg n,Uc⟩,?_⟩⟩
 rw[zI b Om]
 exact vT b
 exact⟨_,rfl,Br.t rfl ⟨_,k.jg n,.inr ⟨_,i⟩⟩⟩
 have b:=vH g w b
 subst b
 rw[take_length]at c
 exact⟨_,k,.inl c⟩
def Uh{S:NP}{pc:ao}{s:Sl}{xs:List Int}(j:af)(hB:az j pc [s.v] 46)(W:gr S j 1 s (fv xs))(hS:∀b,S b->b<j.heap.size)(V:xs.length<=1000000):
  cl 276 #[Sl.nil.v,.func (.func 188) #[] #[vp<|ab pc]] j<|XA fun r w'=>jd j 73 1 (fv xs) r w':=by
 refine Ti _ _ j _ ?_
 have o:∀b,¬Sl.nil.bg b:=fun b d=>by have⟨a,h,_⟩:=d;cases h
 intro g w h1
 have n:aq j w:=aj.bu h1
 have s1:=h1.gp
 have O:=az.fi h1
 have l1:=O.lt
 refine⟨_,_,rfl,call188,xs,_,sX.um (Ts (S:=S) hB V) n,?_⟩
 refine⟨fun cd Y A=>∃so,az A g [so.v] 46/\c9 A 73 1 so (fv cd)/\gr S A 1 s (fv xs)/\aq j A/\(∀b,so.bg b->w.heap.size<=b/\¬Y b)/\¬Y g.block/\w.heap.size<=A.heap.size,⟨?_,?_,fun _ _ _ _ _ h=>h.elim,fun _ _ _ _ _ h=>h.elim⟩,?_,?_,?_⟩
 rintro cd Y A ⟨so,_,_,h,_⟩;exact h
 rintro cd Y A Y' A' ⟨so,b1,k,C,p,f,q,H⟩ hs
 have d1:=hs.mn (G:=(·=g.block)) (fun b e=>by subst e;exact⟨b1.lt,q⟩) _ rfl
 have d2:=hs.mn (G:=so.bg) fun b d=>⟨k.lt d,(f b d).2⟩
 exact⟨so,b1.ext hs.ext d1,k.ext hs.ext d2,C.bh hs hS,p.bh hs,fun b d=>⟨(f b d).1,d2 b d⟩,d1,Nat.le_trans H hs.ext.size⟩
 exact⟨Sl.nil,O,c9.nil _ _ _,W.pure n,n,fun b d=>(o b d).elim,id,Nat.le_refl _⟩
 rintro cd z Y A ⟨so,b1,k,C,p,f,q,H⟩ F ⟨R,m⟩
 have X:cd.length<xs.length:=by rw[m];simp
 refine⟨so,b1.dj,?_⟩
 intro p2 N h2
 have x:aq A N:=aj.bu h2
 have⟨y,L,D,T,B,Q⟩:=(k.pure x).append (P:=prog) (ty:=46) (c:=1) ux (r:=[vi z]) (az.fi h2).row rfl rfl (by rw[zV];omega) (by rw[zV];simp[maxLen];omega)
 have d1:¬so.bg g.block:=fun d=>Oh<|(f _ d).1
 have b3:=(b1.pure x).ext B d1
 have z2:=x.size;have Z:=B.size
 have K:av bl N L:=B.ff fun b d=>d.elim
 refine⟨y,L,D,K,b3.mi Sm,id,fun J M=>?_⟩
 have E:aj (·=g.block) L J:=by rw[M];exact aj.setCell g _
 have b4:az J g [y.v] 46:=by rw[M];exact b3.nw
 have o2:∀b,y.bg b->w.heap.size<=b:=fun b d=>(Q b d).elim (fun h=>(f b h).1) fun h=>Om
 have u:=F.lt
 have I:aj (fun b=>so.bg b\/b=g.block) A J:=((x.pure).trans<|B.mono fun b _ h=>.inl h).trans (E.mono fun b _ h=>.inr h)
 refine⟨I.ff fun b t d=>d.elim (fun h=>(f b h).2 t) fun h=>q<|h▸t,y,b4,?_,?_,?_,fun b d=>⟨o2 b d,fun t=>(Q b d).elim (fun h=>(f b h).2 t) fun h=>Oh<|u b t⟩,q,Oh E.size⟩
 rw[show fv (cd++[z])=fv cd++[[vi z]] by simp[fv]]
 exact T.ext E fun b d e=>Oh<|o2 b d
 exact C.ext I (fun b d h=>by have:=hS b d;rcases h with h|h;(· have:=(f b h).1;have:=n.size;omega);(· omega))
 exact p.ft I (fun i hi d=>by rcases d with h|h;(· have:=(f i h).1;have:=n.size;omega);(· omega))
 rintro H1 w5 U _ _ ⟨so,b1,k,C,p,f,q,H⟩
 refine⟨so,b1.dj,fun w6 l=>⟨k.ext l.ext<|l.mn (G:=so.bg) fun b d=>⟨k.lt d,(f b d).2⟩,fun b d=>Oi ((f b d).1) n.size,p.bh l⟩⟩
def zEG{S:NP}{pc:ao}{s:Sl}{xs:List Int}(a:af)(hB:az a pc [s.v] 46)(h:gr S a 1 s (fv xs))(hS:∀b,S b->b<a.heap.size)(e:xs.length<=1000000):
  cl 137 #[.func (.func 188) #[] #[vp<|ab pc]] a<|XA fun r w'=>∃l,jd a 73 1 (fv l) r w'/\l.Perm xs/\l.Pairwise (·<=·):=by
 refine S7 _ a _ ?_
 refine(YU _ a (fun r w'=>jd a 73 1 (fv xs) r w') ?_).mono ?_
 refine(Uh a hB h hS e).mono ?_
 rintro _ d ⟨r,rfl,c⟩
 exact⟨r,rfl,c⟩
 rintro _ d ⟨r,rfl,c⟩
 refine⟨r,rfl,?_⟩
 refine(jdn r xs d c.fg e).mono ?_
 rintro _ k ⟨rfl,l,j,hx,f,hs⟩
 exact⟨rfl,l,⟨j,c.bf,c.pure.ft hx fun i hi g=>Oh<|c.bf i g⟩,f,hs⟩
def zAD(k p:ao)(a:af){G:List Int}{W:List ln}{F:NP}(h:qC a k p G W F)(o:(zK W).length<=1000000):
  cl 72 #[vp<|ab k] a<|XA fun r w'=>∃l,jd a 73 1 (fv l) r w'/\l.Perm (zK W)/\l.Pairwise (·<=·):=by
 refine jcv _ a _ ?_
 have⟨sg,m,sl,h,q⟩:=h
 refine Br.f rfl ⟨k,rfl,sl,h.box.cell rfl,?_⟩
 refine(jam sl a (fun r w'=>∃c,r=.func (.func 188) #[] #[vp<|ab c]/\az w' c [sl.v] 46/\aq a w') ?_).mono ?_
 intro c i h1
 exact⟨c,rfl,az.fi h1,aj.bu h1⟩
 rintro _ i ⟨r,rfl,c,rfl,n,d⟩
 refine⟨_,rfl,?_⟩
 refine(zEG (S:=sl.bg) i n (h.rP.pure d).gS (fun b e=>(h.rP.pure d).lt e) o).mono ?_
 rintro _ s ⟨r2,rfl,l,g,j,hs⟩
 exact⟨r2,rfl,l,⟨g.fg,fun b e=>Oi (g.bf b e) d.size,d.trans g.pure⟩,j,hs⟩
instance:Inhabited gq:=⟨⟨0,0,0,⟨#[]⟩,ak⟩⟩
def oq(a b:Int):Int:=if a<b then -1 else if b<a then 1 else 0
def oz(a b:ByteArray):Int:=if Op.bytesLess a.toList b.toList=ai then -1 else if a=b then 0 else 1
def rJ:List Int->Int
 |[]=>0
 |a :: l=>if a≠0 then a else rJ l
def FI{a b:ByteArray}(h:a.toList=b.toList):a=b:=by
 rw[Lib.toList_data,Lib.toList_data]at h;have⟨a⟩:=a;have⟨b⟩:=b;simp only at h;congr 1;exact Array.toList_inj.1 h
structure Wo{α:Type}(f:α->α->Int):Prop where
 neg:∀a b,f b a=- f a b
 tr:∀{a b c},f a b<=0->f b c<=0->f a c<=0
section
variable {α β:Type} {f g:α->α->Int}
def Wo.vx(h:Wo f){a b c}(h1:f a b<0)(h2:f b c<=0):f a c<0:=by
 refine Int.not_le.1 fun h3=>?_;have n1:=h.neg a c;have n2:=h.neg a b;have:=h.tr h2 (show f c a<=0 by omega);omega
def Wo.lt2(h:Wo f){a b c}(h1:f a b<=0)(h2:f b c<0):f a c<0:=by
 refine Int.not_le.1 fun h3=>?_;have n1:=h.neg a c;have n2:=h.neg b c;have:=h.tr (show f c a<=0 by omega) h1;omega
def Wo.WJ(h:Wo f)(k:Wo g):Wo (fun a b=>if f a b≠0 then f a b else g a b):=by
 refine⟨fun a b=>?_,fun {a b c} h1 h2=>?_⟩;have:=h.neg a b;have:=k.neg a b;split<;>split<;>omega;have l1:=h.vx (a:=a) (b:=b) (c:=c);have e:=h.lt2 (a:=a) (b:=b) (c:=c);have d:=h.tr (a:=a) (b:=b) (c:=c);have i:=h.tr (a:=c) (b:=b) (c:=a);have:=k.tr (a:=a) (b:=b) (c:=c);have:=h.neg a c;have:=h.neg a b;have:=h.neg b c;split at h1<;>split at h2<;>split<;>omega
def Wo.BK(h:Wo f)(r:β->α):Wo (fun a b=>f (r a)<|r b):=⟨fun _ _=>h.neg _ _,h.tr⟩
def QD:∀{l:List (α->α->Int)},(∀f∈l,Wo f)->Wo (fun a b=>rJ<|l.map (· a b))
 |[],_=>⟨fun _ _=>rfl,fun _ _=>Int.le_refl _⟩
 |f :: l,h=>(h f Sm).WJ<|QD fun g c=>h g Uc
def QQ:∀{l:List Int},rJ l=0->∀x∈l,x=0
 |[],_,_,h=>Uc
 |a :: l,h,x,hx=>by
  unfold rJ at h;split at h;omega;rename_i b;rcases List.mem_cons.1 hx with rfl|hx;omega;exact QQ h x hx
def Wo.Z7(h:Wo f):Go.Sort.SWO (Go.Proofs.ltOf f):={
 irrefl x:=by have:=h.neg x x;unfold Go.Proofs.ltOf;simp;omega
 trans x y z h1 h2:=by
  unfold Go.Proofs.ltOf at *;simp only[decide_eq_true_eq]at *;exact h.vx h1 Om
 ntrans x y z h1 h2:=by
  unfold Go.Proofs.ltOf at *;simp only[decide_eq_false_iff_not]at *;have:=h.neg x y;have:=h.neg y z;have:=h.neg x z;have:=h.tr (a:=z) (b:=y) (c:=x) Om Om;omega }
end
def Gm:Wo oq:=⟨fun a b=>by unfold oq;grind,fun {a b c} h1 h2=>by unfold oq at *;grind⟩
def NA{a b:ByteArray}:Op.bytesLess a.toList b.toList=ai↔a.toList<b.toList:=by rw[Go.Proofs.bytesLess_eq];simp
def Q8{a b:ByteArray}:oz a b<=0↔a.toList<=b.toList:=by
 unfold oz;simp only[NA];split;rename_i h;simp[List.le_of_lt h];split;rename_i e;subst e;simp;rename_i h1 h2;refine⟨fun h=>Om,fun h=>absurd (FI<|List.le_antisymm h<|List.not_lt.1 h1) h2⟩
def Bh:Wo oz:=by
 refine⟨fun a b=>?_,fun {a b c} h1 h2=>by rw[Q8]at *;exact List.le_trans h1 h2⟩;unfold oz;simp only[NA];by_cases h1:a.toList<b.toList;rw[bt h1,aw<|List.lt_asymm h1,aw fun e=>Uc];rfl;rw[aw h1];by_cases h2:b.toList<a.toList;rw[bt h2,aw fun e=>Uc];have e:=FI<|List.le_antisymm (List.not_lt.1 h2)<|List.not_lt.1 h1;subst e;rw[aw h1];simp
def tf(b:Bool):Int:=cond b 1 0
def rM(a b:gq):Int:=rJ [oq a.ba b.ba,oq a.cj b.cj,oq a.c b.c,oz a.cf b.cf,oq (tf a.gR)<|tf b.gR]
def Ez:Wo rM:=by
 have:=QD (l:=[fun a b:gq=>oq a.ba b.ba,fun a b=>oq a.cj b.cj,fun a b=>oq a.c b.c,fun a b=>oz a.cf b.cf,fun a b=>oq (tf a.gR)<|tf b.gR]) (by
  simp only[List.mem_cons,List.not_mem_nil,or_false,forall_eq_or_imp,forall_eq];exact⟨Gm.BK gq.ba,Gm.BK gq.cj,Gm.BK gq.c,Bh.BK gq.cf,Gm.BK fun a:gq=>tf a.gR⟩)
 exact this
def QK{a b:gq}(h:rM a b=0):a=b:=by
 have h:=QQ h;simp only[List.mem_cons,List.not_mem_nil,or_false,forall_eq_or_imp,forall_eq]at h;have⟨h1,h2,h3,d,e⟩:=h;have z:∀{x y:Int},oq x y=0->x=y:=fun {x y} h=>by unfold oq at h;grind
 have q:∀{x y:Bool},tf x=tf y->x=y:=fun {x y} h=>by cases x<;>cases y<;>simp[tf]at h|-
 have t:a.cf=b.cf:=by unfold oz at d;grind
 have⟨k,f,c,x,g⟩:=a;have⟨k',j,l,m,i⟩:=b;simp only[gq.mk.injEq];exact⟨z h1,z h2,z h3,t,q<|z e⟩
def pg{α:Type}[DecidableEq α](a:α):List α->List α
 |[]=>[]
 |b :: l=>if a=b then pg b l else b :: pg b l
def nU{α:Type}[DecidableEq α]:List α->List α
 |[]=>[]
 |a :: l=>a :: pg a l
section
variable {α:Type} [DecidableEq α]
def Sv{x:α}:∀{l:List α} {a:α},(x=a\/x∈pg a l)↔(x=a\/x∈l)
 |[],_=>by simp[pg]
 |b :: l,a=>by
  have h:=Sv (x:=x) (l:=l) (a:=b);unfold pg;split;rename_i e;subst e;rw[h];simp;simp only[List.mem_cons,h]
def LF{l:List α}{x:α}:x∈nU l↔x∈l:=by
 cases l with
 |nil=>simp[nU]
 |cons a l=>simp only[nU,List.mem_cons];exact Sv
def NI{f:α->α->Int}(h:Wo f)(z:∀{a b},f a b=0->a=b):∀{l:List α} {a:α},(a ::l).Pairwise (fun a b=>¬f b a<0)->(a ::pg a l).Pairwise (f · ·<0)
 |[],_,_=>by simp[pg]
 |b :: l,a,i=>by
  have g:=List.pairwise_cons.1 i;unfold pg;have hs:=NI h z g.2;split;rename_i e;subst e;exact hs;rename_i d;have c:f a b<0:=by
   have:=g.1 b Sm;have:=h.neg a b;have:f a b≠0:=fun e=>d<|z e;omega
  refine List.pairwise_cons.2 ⟨fun x hx=>?_,hs⟩;rcases List.mem_cons.1 hx with rfl|hx;exact c;exact h.vx c<|Int.le_of_lt<|(List.pairwise_cons.1 hs).1 x hx
def RE{f:α->α->Int}(h:Wo f)(z:∀{a b},f a b=0->a=b){l:List α}(c:l.Pairwise fun a b=>¬f b a<0):(nU l).Pairwise (f · ·<0):=by
 cases l with
 |nil=>simp[nU]
 |cons a l=>exact NI h z c
def OK(b:α):∀l a,pg a (l++[b])=pg a l++if(a ::l).getLast Sm=b then[]else[b]
 |[],_=>rfl
 |c :: l,a=>by
  have:=OK b l c;rw[List.getLast_cons_cons];simp only[List.cons_append,pg,this];split<;>simp
def jaH[Inhabited α](l:List α):Lib.compact l=nU l:=by
 have key:∀m,m<=l.length->Lib.compactUpTo l.toArray m=nU (l.take m):=by
  intro m;induction m with
  |zero=>intro _;simp[Lib.compactUpTo,nU]
  |succ m c =>
   intro f
   rw[Lib.compactUpTo_succ,c Om,List.take_succ_eq_append_getElem Om]
   have e:(l.toArray[m]!)=l[m]:=Uc
   rw[e]
   cases m with
   |zero=>simp[Lib.keeps,nU,pg]
   |succ m =>
    have b:(l.toArray[m]!)=l[m]:=Uc
    have g:0<l.length:=Om
    obtain⟨a,r,rfl⟩:∃a r,l=a ::r:=by cases l with|nil=>simp at g|cons a r=>exact⟨a,r,rfl⟩
    simp only[List.take_succ_cons,List.cons_append,nU,OK]
    congr 1
    have d:(a ::r.take m).getLast Sm=(a ::r)[m]:=by
     rw[List.getLast_eq_getElem];simp only[<-List.take_succ_cons,List.getElem_take,List.length_take,List.length_cons];simp only[List.length_cons]at f;congr 1;omega
    rw[d]
    unfold Lib.keeps
    rw[e,Nat.add_sub_cancel,b]
    simp only[Nat.add_eq_zero_iff,Nat.one_ne_zero,and_false,false_or,decide_eq_true_eq]
    by_cases h:(a ::r)[m+1]=(a ::r)[m]
    rw[aw Uc,bt h.symm]
    rw[bt h,aw fun e=>h e.symm]
 have:=key l.length<|Nat.le_refl _;rw[List.take_length]at this;exact this
end
def rK.nil(L):rK L [] []:=⟨⟨by simp[zK],by simp[zK],fun i hi=>by simp at hi⟩,by simp[zK],Sm,Sm⟩
theorem xV{α β:Type}{f:α->Option β}:∀{l:List α} {r:List β},l.mapM f=ab r->r.length=l.length/\∀(i:Nat) (a:α),l[i]?=ab a->∃b,f a=ab b/\r[i]?=ab b
 |[],r,h=>Gd
 |x :: xs,r,h=>by
  rw[mapM_cons]at h;cases hx:f x with
  |none=>simp[hx]at h
  |some y =>
   cases c:xs.mapM f with
   |none=>simp[hx,c]at h
   |some e =>
    have:r=y ::e:=by simpa[hx,c]using h.symm
    subst this
    have⟨h1,h2⟩:=xV c
    refine⟨by simp[h1],fun i a d=>?_⟩
    cases i with
    |zero=>cases d;exact⟨y,hx,rfl⟩
    |succ i=>exact h2 i a (by simpa using d)
theorem Mr{w ie a n cs}(h:w.cells? ie a n=ab cs):cs.length=n/\Row w a cs:=by
 have⟨_,h1,h2⟩:=af.cells?_some h;exact⟨h1,fun j b=>h2 j Om⟩
section
variable {H:Type} {enc:dz×bk->H} {P:ez} {W:af} {ie:Nat} {sp:Nat->Bool} {held:Bool}
theorem yY{t k}(ht:P.underlying t=ab (.int k)){n c}{x:DataW H×List MemPlace}(h:DataW.trod enc P W ie sp held n t [c]=ab x):∃m,c=.int k m:=by
 cases n with
 |zero=>cases h
 |succ n =>
  rw[DataW.trod_step]at h
  unfold DataW.trodStep at h
  rw[ht]at h
  cases c<;>simp at h
  obtain⟨⟨rfl,_⟩,_⟩:=h
  exact⟨_,rfl⟩
theorem EY{t}(ht:P.underlying t=ab (.int .u64)){n c}{x:DataW H×List MemPlace}(h:DataW.trod enc P W ie sp held n t [c]=ab x):∃m,c=vu m/\yA m:=by
 cases n with
 |zero=>cases h
 |succ n =>
  rw[DataW.trod_step]at h
  unfold DataW.trodStep at h
  rw[ht]at h
  cases c with
  |int k z =>
   simp only at h
   split at h
   rename_i a
   obtain⟨rfl,a⟩:=a
   have h1:dc.min=0:=by rfl
   have h2:dc.max=18446744073709551615:=by rfl
   simp only[Lit.wf,Bool.and_eq_true,decide_eq_true_eq,h1,h2]at a
   exact⟨z,rfl,Om,Om⟩
   cases h
  |_=>simp at h
theorem MM{t}(ht:P.underlying t=ab .string){n c}{x:DataW H×List MemPlace}(h:DataW.trod enc P W ie sp held n t [c]=ab x):∃m,c=vs m:=by
 cases n with
 |zero=>cases h
 |succ n =>
  rw[DataW.trod_step]at h
  unfold DataW.trodStep at h
  rw[ht]at h
  cases c<;>simp at h
  exact⟨_,rfl⟩
theorem jTQ{t e}(ht:P.underlying t=ab (.slice e)){n c}{x:DataW H×List MemPlace}(h:DataW.trod enc P W ie sp held (n+1) t [c]=ab x):
  c=.slice bo 0 0\/∃a ay cap,c=.slice (ab a) ay cap/\ay<=cap/\cap<=maxLen/\∀i,i<ay->∃cs y,W.cells? ie (a.add<|i*P.cellsOf e) (P.cellsOf e)=ab cs/\DataW.trod enc P W ie sp held n e cs=ab y:=by
 rw[DataW.trod_step]at h
 unfold DataW.trodStep at h
 rw[ht]at h
 cases c with
 |slice a ay cap =>
  cases a with
  |none =>
   cases ay with
   |zero=>cases cap with
    |zero=>exact .inl rfl
    |succ c=>simp at h
   |succ l=>simp at h
  |some a =>
   right
   simp only at h
   split at h
   rename_i d
   refine⟨a,ay,cap,rfl,d.2.1,d.2.2,fun i hi=>?_⟩
   cases f:(range ay).mapM fun i=>(W.cells? ie (a.add<|i*P.cellsOf e)<|P.cellsOf e).bind (DataW.trod enc P W ie sp held n e)with
   |none=>rw[f]at h;cases h
   |some r =>
    have⟨b,g,_⟩:=(xV f).2 i i (by simp[hi])
    have⟨cs,h1,h2⟩:=Option.bind_eq_some_iff.1 g
    exact⟨cs,b,h1,h2⟩
   cases h
 |_=>simp at h
structure LW(P:ez)(e h:dz):Prop where
 ex:∃a g ts:dz,∃j c i f b d:Field,P.underlying e=ab (.slice h)/\P.underlying h=ab (.struct #[j,c,i,f,b,d])/\P.cellsOf h=6 /\
  (j.type=a/\c.type=a/\i.type=a/\f.type=g/\b.type=ts/\d.type=e)/\(j.offset=0/\c.offset=1/\i.offset=2/\f.offset=3/\b.offset=4/\d.offset=5) /\
  P.underlying a=ab (.int .i64)/\P.underlying g=ab (.int .u64)/\P.underlying ts=ab .string/\P.cellsOf a=1/\P.cellsOf g=1/\P.cellsOf ts=1/\P.cellsOf e=1
theorem zAX{tS tT}(m:LW P tS tT):∀n:Nat,
  (∀(c:bk) (x:DataW H×List MemPlace),DataW.trod enc P W ie sp held n tS [c]=ab x->∃s,∃ts:List ej,c=s.v/\(∀(k f t u:Int)d,fm (fun _=>True) W s<|.mk k f t u d ts)/\∀i (hi:i<ts.length),rz ts[i]) /\
  (∀(cs:List bk) (x:DataW H×List MemPlace),DataW.trod enc P W ie sp held n tT cs=ab x->∃t s,cs=uF t s/\fm (fun _=>True) W s t/\rz t):=by
 have⟨ti,tu,d,R,T,J,X,C,E,hS,hT,l,⟨Z,e1,e2,e3,e4,e5⟩,⟨o0,o1,o2,o3,o4,o5⟩,z,uu,us,A,cu,B,cS⟩:=m.ex
 intro n
 induction n with
 |zero=>exact⟨fun c x h=>(by cases h),fun cs x h=>(by cases h)⟩
 |succ n L =>
  refine⟨fun c x h=>?_,fun cs x h=>?_⟩
  rcases jTQ hS h with rfl|⟨a,ay,cap,rfl,hle,w,j⟩
  exact⟨Sl.nil,[],rfl,fun k f t u d=>.mk k f t u d [] Sl.nil (fun _=>Sl.nil) rfl Sm (fun i h=>by simp at h) fun i h=>by simp at h,fun i hi=>absurd hi<|Nat.not_lt_zero i⟩
  rw[l]at j
  have p:∀i,∃q:ej×Sl,i<ay->Row W (a.add<|i*6) (uF q.1 q.2)/\fm (fun _=>True) W q.2 q.1/\rz q.1:=by
   intro i;by_cases hi:i<ay;have⟨cs,y,h1,h2⟩:=j i hi;have⟨tr,s,e,b⟩:=L.2 cs y h2;exact⟨(tr,s),fun _=>⟨e▸(Mr h1).2,b⟩⟩;exact⟨(ej.mk 0 0 0 0 ⟨#[]⟩ [],Sl.nil),fun h=>absurd h hi⟩
  have⟨q,V⟩:=Classical.axiomOfChoice p
  refine⟨⟨ab a,ay,cap⟩,(range ay).map fun i=>(q i).1,rfl,?_,fun i hi=>by rw[getElem_map,getElem_range];exact(V i<|by simpa using hi).2.2⟩
  refine fun k f t u d=>.mk k f t u d _ _ (fun i=>(q i).2) Sm (by simp only[maxLen]at w;simp;omega) (fun i h=>?_) fun i h=>?_
  have hi:i<ay:=by simpa using h
  refine⟨a.add<|i*6,⟨Om,by simpa using hi,a,rfl,Sm⟩,trivial,?_⟩
  simpa using(V i hi).1
  grind
  rw[DataW.trod_step]at h
  unfold DataW.trodStep at h
  rw[hT]at h
  simp only at h
  split at h
  rename_i S
  rw[l]at S
  match cs,S with
  |[c0,c1,c2,Y,c4,Q],_ =>
   cases O:([R,T,J,X,C,E]:List Field).mapM (fun f=>DataW.trod enc P W ie sp held n f.type<|(([c0,c1,c2,Y,c4,Q]:List bk).drop f.offset).take<|P.cellsOf f.type)with
   |none=>rw[O]at h;cases h
   |some r =>
    have g:=(xV O).2
    have⟨_,G,_⟩:=g 0 R rfl
    have⟨_,h1,_⟩:=g 1 T rfl
    have⟨_,h2,_⟩:=g 2 J rfl
    have⟨_,h3,_⟩:=g 3 X rfl
    have⟨_,D,_⟩:=g 4 C rfl
    have⟨_,I,_⟩:=g 5 E rfl
    rw[Z,o0,A]at G;rw[e1,o1,A]at h1;rw[e2,o2,A]at h2;rw[e3,o3,cu]at h3;rw[e4,o4,B]at D;rw[e5,o5,cS]at I
    obtain⟨K,rfl⟩:=yY z G
    obtain⟨N,rfl⟩:=yY z h1
    obtain⟨U,rfl⟩:=yY z h2
    obtain⟨F,rfl,hu⟩:=EY uu h3
    obtain⟨M,rfl⟩:=MM us D
    obtain⟨s,ts,rfl,b,o⟩:=L.1 Q _ I
    exact⟨.mk K N U F M ts,s,rfl,b K N U F M,.mk _ _ _ _ _ _ hu o⟩
  cases h
end
theorem zAY:LW prog 69 71:=
 ⟨3,23,9,_,_,_,_,_,_,underlying69,underlying71,Kf,⟨rfl,rfl,rfl,rfl,rfl,rfl⟩,⟨rfl,rfl,rfl,rfl,rfl,rfl⟩,underlying3,underlying23,underlying9,Kf,Kf,Kf,Kf⟩
section
variable {H:Type} {enc:dz×bk->H} {P:ez} {W:af} {ie:Nat} {sp:Nat->Bool} {held:Bool}
theorem jcE{a v vs}(h:Row W a (v ::vs)):a.block<W.heap.size:=by
 have:=h 0 Sm;have:=af.block_lt_of_cell? W (a.add 0) this;rwa [zD]at this
theorem jTR{t}{a:Array Field}(ht:P.underlying t=ab (.struct a)){n cs}{x:DataW H×List MemPlace}(h:DataW.trod enc P W ie sp held n t cs=ab x):
  ∃m,cs.length=P.cellsOf t/\∀(i:Nat) (f:Field),a.toList[i]?=ab f->∃y,DataW.trod enc P W ie sp held m f.type ((cs.drop f.offset).take<|P.cellsOf f.type)=ab y:=by
 cases n with
 |zero=>cases h
 |succ n =>
  rw[DataW.trod_step]at h
  unfold DataW.trodStep at h
  rw[ht]at h
  simp only at h
  split at h
  rename_i g
  cases c:a.toList.mapM (fun f=>DataW.trod enc P W ie sp held n f.type<|(cs.drop f.offset).take<|P.cellsOf f.type)with
  |none=>rw[c]at h;cases h
  |some r =>
   refine⟨n,g,fun i f e=>?_⟩
   have⟨b,d,_⟩:=(xV c).2 i f e
   exact⟨b,d⟩
  cases h
end
section
variable {H:Type} {enc:dz×bk->H} {W:af} {ie:Nat} {sp:Nat->Bool} {held:Bool}
end
end Go.Proofs
end
section
namespace Go.Proofs
mutual
def cnt:ej->Nat
 |.mk _ _ _ _ _ ks=>1+cntAll ks
def cntAll:List ej->Nat
 |[]=>0
 |t :: ts=>cnt t+cntAll ts
end
def Wg(t):1<=cnt t:=by cases t;simp[cnt]
def Sb:∀ks,ks.length<=cntAll ks
 |[]=>Sm
 |t :: ts=>by have:=Wg t;have:=Sb ts;simp only[cntAll,List.length_cons];omega
def Rz:∀{ks:List ej} {i:Nat} (hi:i<ks.length),cnt ks[i]<=cntAll ks
 |t :: ts,0,_=>by simp[cntAll]
 |t :: ts,i+1,hi=>by
  have:=Rz (ks:=ts) (i:=i) Uc;simp only[cntAll,List.getElem_cons_succ];omega
mutual
def jEJ (most:Int):ej->Int
 |.mk _ _ _ _ _ ks=>uT most 1 ks
def uT (most n:Int):List ej->Int
 |[]=>n
 |t :: ts=>if n<=most then uT most (n+jEJ (most-n) t) ts else n
end
def Le(t):∀most,0<=most->1<=jEJ most t/\jEJ most t<=most+1/\(jEJ most t<=most->(cnt t:Int)=jEJ most t):=by
 induction t using ej.ind with
 |h k f tt u x ks ih =>
  have hA : ∀ks, (∀ i (hi : i < ks.length), ∀most, 0 <= most -> 1 <= jEJ most ks[i] /\ jEJ most ks[i] <= most + 1 /\ (jEJ most ks[i] <= most -> (cnt ks[i] : Int) = jEJ most ks[i])) ->
    ∀most n:Int,1<=n->n<=most+1->n<=uT most n ks/\uT most n ks<=most+1/\(uT most n ks<=most->n+(cntAll ks:Int)=uT most n ks):=by
   intro ks
   induction ks with
   |nil=>intro _ most n h1 h2;simp[uT,cntAll,h2]
   |cons t ts iht =>
    intro hh most n h1 h2
    unfold uT
    by_cases hn:n<=most
    rw[if_pos hn]
    have h0:=hh 0 Sm (most-n) Om
    simp only[List.getElem_cons_zero]at h0
    have h3:=iht (fun i hi=>hh (i+1) Uc) most (n+jEJ (most-n) t) Om Om
    refine⟨Om,h3.2.1,fun h=>?_⟩
    have h4:=h3.2.2 h
    have h5:=h0.2.2 Om
    simp only[cntAll];omega
    grind
  intro most hm
  have:=hA ks ih most 1 Om Om
  simp only[jEJ,cnt]
  refine⟨this.1,this.2.1,fun h=>?_⟩
  have:=this.2.2 h
  omega
mutual
def jEE:ej->ej->Bool
 |.mk k f t u x ks,.mk k' f' t' u' x' ks'=>decide (k=k')&&decide (f=f')&&decide (t=t')&&decide (u=u')&&decide (x=x')&&uK ks ks'
def uK:List ej->List ej->Bool
 |[],[]=>true
 |t :: ts,t' :: ts'=>jEE t t'&&uK ts ts'
 |_,_=>false
end
def LX(a):∀b,jEE a b=true↔a=b:=by
 induction a using ej.ind with
 |h k f t u x ks m =>
  have l:∀ks,(∀i (hi:i<ks.length),∀b,jEE ks[i] b=true↔ks[i]=b)->∀c,uK ks c=true↔ks=c:=by
   intro ks;induction ks with
   |nil=>intro _ c;cases c<;>simp[uK]
   |cons t ts d =>
    intro hh c
    cases c with
    |nil=>simp[uK]
    |cons g e =>
     have j:=hh 0 Sm g
     simp only[List.getElem_cons_zero]at j
     simp only[uK,Bool.and_eq_true,j,d (fun i hi=>hh (i+1) Uc) e,List.cons.injEq]
  intro b
  have⟨k',n,g,o,p,c⟩:=b
  simp only[jEE,Bool.and_eq_true,decide_eq_true_eq,l ks m c,ej.mk.injEq]
  constructor
  grind
  grind
end Go.Proofs
end
section
open Go Go.SE List
namespace Go.SE
def c9.lit{w w' p cs e sz rs}(g:fp w (.cells cs e) p w')(b:cs.toList=rs.flatten)(c:∀r∈rs,r.length=sz)(d:rs.length<=maxLen):c9 w' e sz ⟨some p,rs.length,rs.length⟩ rs:=by
 have⟨h,f⟩:=g;have a:cs.size=rs.length*sz:=by rw[<-vR c,<-b,Array.length_toList]
 refine⟨c,rfl,.inr ⟨w.heap.size,cs,Uc,?_,Nat.le_refl _,d,a,?_⟩⟩;rw[f];exact heap_alloc_new w _;rw[b,take_of_length_le Gd]
end Go.SE
namespace Go.Proofs
open Tryz
def xW(l:gq):List Value:=[vi l.ba,vi l.cj,vu l.c,vs l.cf,vb l.gR]
def xM:nY prog 64 35 5 48:=by
 refine⟨underlying64,⟨t35,_,Kf,(by kernel_rfl:t35.zero=some (.agg #[vi 0,vi 0,vu 0,vs ⟨#[]⟩,vb false])),Kf,Kf,rfl⟩,Om⟩
end Go.Proofs
end
section
open Go Go.SE List Go.Sort
namespace Go.Proofs
def mg(l:List ByteArray):List (List UInt8):=l.map (·.data.toList)
def vo(z:List UInt8):ByteArray:=⟨z.toArray⟩
def zMJ(z:List (List UInt8)):mg (z.map vo)=z:=by
 unfold mg;rw[map_map];simp[Function.comp_def,vo]
def ZD(l:List ByteArray):(mg l).map vo=l:=by
 unfold mg;rw[map_map];exact(map_congr_left (g:=id) fun x _=>rfl).trans (map_id _)
def zHK{a b:ByteArray}(h:a.data.toList=b.data.toList):a=b:=FI (by rw[Lib.toList_data,Lib.toList_data];exact h)
def zLH(l:List ByteArray):∀a,pg a.data.toList (mg l)=mg (pg a l):=by
 induction l with
 |nil=>intro a;rfl
 |cons b l c =>
  intro a
  simp only[mg,map_cons,pg]at *
  by_cases h:a=b
  subst h;rw[if_pos rfl,if_pos rfl];exact c a
  rw[if_neg fun e=>h<|zHK e,if_neg h,map_cons];congr 1;exact c b
def U2(l:List ByteArray):nU (mg l)=mg (nU l):=by
 cases l with
 |nil=>rfl
 |cons a l=>simp only[mg,map_cons,nU];congr 1;exact zLH l a
def zLI{α:Type}[DecidableEq α](l:List α):∀a,(pg a l).length<=l.length:=by
 induction l with
 |nil=>intro a;simp[pg]
 |cons b l c=>intro a;have:=c b;unfold pg;split<;>simp only[length_cons]<;>omega
def JM{α:Type}[DecidableEq α](l:List α):(nU l).length<=l.length:=by
 cases l with
 |nil=>simp[nU]
 |cons a l=>have:=zLI l a;simp only[nU,length_cons];omega
end Go.Proofs
namespace Go.Proofs
open Tryz
attribute [local irreducible] Calls
def nQ(l:List ByteArray):List (List Value):=l.map fun x=>[vs x]
def Gr(l:List ByteArray):(nQ l).flatten=(mg l).map encStr:=by
 induction l with
 |nil=>rfl
 |cons a l b=>simp only[nQ,mg,map_cons,flatten_cons]at *;rw[b];rfl
def qD(l):(nQ l).length=l.length:=by simp[nQ]
section
variable {w:World} {e:TypeId} {s:Sl} {l:List ByteArray} {b:Nat} {ga:Array Value} (ha:s.a=some ⟨b,0,none⟩) (hg:w.heap[b]?=some (.cells ga e (0,0))) (ht:ga.toList.take ((nQ l).length*1)=(nQ l).flatten)
include hg ht
def Ps:Holds encStr w b 0 (mg l).toArray:=by
 intro j a;have a:=Uc;rw[Gr,qD,Nat.mul_one]at ht;have c:ga[j]?=some (encStr (mg l)[j]):=by
  have:ga.toList[j]?=(ga.toList.take l.length)[j]?:=by rw[getElem?_take_of_lt<|by simpa[mg]using a]
  rw[<-Array.getElem?_toList,this,ht,getElem?_map,getElem?_eq_getElem a];rfl
 refine⟨?_,?_⟩;unfold World.cell?;rw[hg];simp only[Option.isSome_none,Bool.false_eq_true,if_false,Nat.zero_add];rw[c,getElem!_pos (mg l).toArray j Uc];simp;unfold World.frozen?;rw[hg];simp
omit ht
include ha
def Li(o:l.length<=s.cap)(h:s.cap<=maxLen)(hs:ga.size=s.cap*1)(c:s.ay=l.length)(q:List ByteArray)(g:q.length=l.length)(n:Nat)(os:Array Obj):
  c9 (Sort.grow (putRow encStr (Sort.ahead w n) b 0 (mg q).toArray) os) e 1 s (nQ q)/\aj s.bg w (Sort.grow (putRow encStr (Sort.ahead w n) b 0 (mg q).toArray) os):=by
 have u:=uM hg
 rw[Nat.mul_one]at hs
 have p:(mg q).length=q.length:=by simp[mg]
 refine⟨⟨?_,?_,.inr ⟨b,putCells encStr 0 (mg q).toArray ga,ha,?_,by rw[qD];omega,h,by simp[putCells,hs],?_⟩⟩,?_⟩
 intro r d;simp[nQ]at d;obtain⟨t,_,rfl⟩:=d;rfl
 rw[qD,g];exact c
 rw[heap_grow_old _ _ Uc]
 simp[putRow,mapBlock,Sort.ahead,Array.getElem?_modify,hg,onCells]
 rw[Gr,qD,Nat.mul_one]
 apply ext_getElem?
 intro j
 by_cases k:j<q.length
 rw[getElem?_take_of_lt k,Array.getElem?_toList]
 unfold putCells
 rw[Array.getElem?_mapIdx,Array.getElem?_eq_getElem<|show j<ga.size by omega,Option.map_some,if_pos ⟨Nat.zero_le _,Uc⟩,Nat.sub_zero,getElem!_pos _ j Uc,getElem?_map,getElem?_eq_getElem Om]
 simp
 rw[getElem?_eq_none So,getElem?_eq_none Uc]
 refine⟨rfl,rfl,rfl,Nat.le_add_right _ _,Uc,fun i hi m=>?_⟩
 have a:b≠i:=fun f=>m ⟨_,ha,f⟩
 rw[heap_grow_old _ _ Uc]
 simp[putRow,mapBlock,Sort.ahead,Array.getElem?_modify,a]
end
def zEH(s:Sl)(l:List ByteArray)(d:World)(h:c9 d 9 1 s (nQ l))(A:l.length<=1000000):
  cl 88 #[s.v] d<|XG fun w'=>∃q,q.Perm l/\q.Pairwise (fun a b=>¬oz b a<0)/\c9 w' 9 1 s (nQ q)/\aj s.bg d w':=by
 have o:s.ay=l.length:=by rw[h.ay,qD]
 rcases h.bf with⟨rfl,f⟩|⟨b,ga,ha,hg,k,w,hs,ht⟩
 have t:l=[]:=by simpa[nQ]using f
 subst t
 refine(show cl 88 #[Sl.nil.v] d _ from AnyG.slices_Sort_string_none SF none 0 d).mono ?_
 rintro _ w' ⟨rfl,rfl⟩
 exact⟨rfl,[],.refl _,.nil,h,aj.refl _⟩
 rw[qD]at k
 have p:=Ps hg ht
 have u:=uM hg
 have m:(mg l).length=l.length:=by simp[mg]
 have r:s.v=.slice (some ⟨b,0,none⟩) (mg l).length s.cap:=by unfold Sl.v;rw[ha,o,m]
 rw[r]
 refine(show cl 88 #[.slice (some ⟨b,0,none⟩) (mg l).length s.cap] d _ from AnyG.slices_Sort_string SF b 0 s.cap (mg l) d p u Om).mono ?_
 rintro _ w' ⟨rfl,n,os,rfl⟩
 have j:((mg l).mergeSort fun x y=>decide (x<=y)).Perm (mg l):=mergeSort_perm _ _
 have i:((mg l).mergeSort fun x y=>decide (x<=y)).Pairwise (·<=·):=by
  have:=pairwise_mergeSort (le:=fun x y:List UInt8=>decide (x<=y)) (fun a b c h1 h2=>Uc) (fun a b=>Uc)<|mg l;simpa using this
 generalize ((mg l).mergeSort fun x y=>decide (x<=y))=z at *
 have e:=(zMJ z).symm
 have⟨h1,h2⟩:=Li ha hg k w hs o (z.map vo) (by rw[length_map,j.length_eq,m]) n os
 rw[<-e]at h1 h2
 refine⟨rfl,z.map vo,?_,?_,h1,h2⟩
 have:=j.map vo
 rwa [ZD]at this
 rw[pairwise_map]
 refine i.imp fun {a b} g=>?_
 have:=Bh.neg (vo a)<|vo b
 have:oz (vo a) (vo b)<=0:=by rw[Q8,Lib.toList_data,Lib.toList_data];exact g
 omega
def jSY(s:Sl)(l:List ByteArray)(w0:World)(h:c9 w0 9 1 s (nQ l))(hn:l.length<=1000000):
  cl 89 #[s.v] w0<|XA fun r w'=>c9 w' 9 1 r (nQ<|nU l)/\aj s.bg w0 w'/\∀b,r.bg b->s.bg b:=by
 have hl:s.ay=l.length:=by rw[h.ay,qD]
 rcases h.bf with⟨rfl,hnil⟩|⟨b,ga,ha,hg,hc,hm,hs,ht⟩
 have hd:l=[]:=by simpa[nQ]using hnil
 subst hd
 refine(show cl 89 #[Sl.nil.v] w0 _ from AnyG.slices_Compact_string_empty Q7 none 0 w0).mono ?_
 rintro _ w' ⟨rfl,rfl⟩
 exact⟨Sl.nil,rfl,h,aj.refl _,fun _ h=>h⟩
 rw[qD]at hc
 have hH:=Ps hg ht
 have hz:∀l,(mg l).length=l.length:=fun l=>by simp[mg]
 have hv:s.v=.slice (some ⟨b,0,none⟩) (mg l).length s.cap:=by unfold Sl.v;rw[ha,hl,hz]
 rw[hv]
 refine(show cl 89 #[.slice (some ⟨b,0,none⟩) (mg l).length s.cap] w0 _ from AnyG.slices_Compact_string Q7 b 0 s.cap (mg l) w0 hH Uc Uc).mono ?_
 rintro _ w' ⟨rfl,n,rfl⟩
 rw[jaH,U2,hz,hz]
 have hk:=JM l
 have e:mg (nU l)++replicate (l.length-(nU l).length) []=mg (nU l++replicate (l.length-(nU l).length) ⟨#[]⟩):=by
  unfold mg;rw[map_append,map_replicate]
 have⟨h1,h2⟩:=Li ha hg hc hm hs hl (nU l++replicate (l.length-(nU l).length) ⟨#[]⟩) So n #[]
 rw[<-e,grow_empty]at h1 h2
 refine⟨⟨some ⟨b,0,none⟩,(nU l).length,s.cap⟩,rfl,?_,h2,fun y hy=>by have⟨a,h,e⟩:=hy;cases h;exact⟨_,ha,e⟩⟩
 rcases h1.bf with⟨rfl,_⟩|⟨b',cur',ha',hg',hc',hm',hs',ht'⟩
 cases ha
 rw[ha]at ha';cases ha'
 refine⟨fun r hr=>?_,by rw[qD],.inr ⟨b,cur',rfl,hg',by rw[qD];exact Nat.le_trans hk hc,hm',hs',?_⟩⟩
 simp[nQ]at hr;obtain⟨t,_,rfl⟩:=hr;rfl
 have:=congrArg (take (nU l).length) ht'
 rw[Gr,qD,take_take,Nat.mul_one]at this
 rw[Gr,qD,Nat.mul_one]
 rw[Nat.min_eq_left Sm]at this
 rw[this]
 unfold mg
 rw[map_append,map_append,take_append_of_le_length Sm,take_of_length_le Sm]
end Go.Proofs
end
section
open Go Go.SE List
open Go.IntKind renaming i64 -> q6
open Go renaming World->af,Value->bk,Addr->ao,Ending->fb,Program->ez,TypeId->dz
open Option renaming some->ab,none->bo
open Bool renaming true->ai,false->ak
open Go.Builtin renaming append_->cm
open Prod.mk renaming injEq->ei
open Go.IntKind renaming u64->dc
namespace Go.Proofs
open Tryz
set_option maxRecDepth 100000
set_option maxHeartbeats 4000000
attribute [local irreducible] cr ed dv de Calls CallsD
attribute [local irreducible] ee W WV WR uP pv e0 eh fe ka ek el ev eu fa dw di dn fc eo kp yS xA yF bn ub
structure Act where
 ba:Int
 body:ByteArray
 l:gq
 bb:Int
 so:Sl
 ax:List Op
def tQ(x:Act):List bk:=[vi x.ba,vs x.body,vi x.l.ba,vi x.l.cj,vu x.l.c,vs x.l.cf,vb x.l.gR,vi x.bb,x.so.v]
structure we(S:NP)(w:af)(x:Act):Prop where
 num:yA x.l.c
 sH:∀o∈x.ax,yA o.num
 ax:gr S w 5 x.so (x.ax.map rS)
 body:x.body.size<=1048576
 cf:x.l.cf.size<=1048576
 jl:x.ax.length<=1048576
 jaf:∀o∈x.ax,o.cf.size<=1048576
def uN(l:List Act):Nat:=(l.map (·.body.size)).sum
structure H0(l:List Act):Prop where
 jl:l.length<=60
 ax:∀x∈l,x.ax.length<=265
 bytes:uN l<=60000
def we.ext{S X w w' x}(h:we S w x)(E:aj X w w')(a:∀y,S y->¬X y):we S w' x:={ h with ax:=h.ax.ext E a }
def VK{S w sz s}{α:Type}{g:α->List bk}{xs:List α}(h:gr S w sz s (xs.map g)){j}(f:j<xs.length){a}(e:At s j sz a):Row w a (g xs[j]):=by
 have⟨b,h1,_,h2⟩:=h.mv f;obtain⟨_,_,y,d,rfl⟩:=e;obtain⟨_,_,z,c,rfl⟩:=h1;rw[d]at c;cases c;exact h2
def jSS{S}(l1 ls w0)(u:gr S w0 9 l1 (ls.map tQ))(s:∀x∈ls,we S w0 x):
  cl 7 #[l1.v] w0<|XC fun r w'=>(r=ak->H0 ls)/\aq w0 w':=by
 refine w_V l1 w0 _ ?_
 have U:l1.ay=ls.length:=by rw[u.ay];simp
 refine⟨fun n i H w=>∃j:Nat,i=j/\j<=ls.length/\j<=61/\(uN (ls.take j):Int)<=n/\n<=j*300000000/\(∀x∈ls.take j,x.ax.length<=265)/\aq w0 w,fun _ i _=>(100-i).toNat,⟨0,rfl,Nat.zero_le _,Om,by simp[uN],Sm,Sm,aj.refl _⟩,?_⟩
 rintro n1 _ Hl wl T ⟨j,rfl,hj,R,z,L,G,F⟩
 refine⟨fun q=>?_,fun q H4 w5 hs=>⟨fun h=>?_,F.bh hs⟩⟩
 simp only[Bool.and_eq_true,decide_eq_true_eq]at q
 have d:j<ls.length:=Om
 have C:j<=60:=Om
 have hx:=s _<|getElem_mem d
 have f:ls.take (j+1)=ls.take j++[ls[j]]:=Uc
 have⟨a,b,_⟩:=u.mv d
 have one:∀{w},aq w0 w->Row w a (tQ ls[j]):=fun E=>VK (u.pure E) d b
 generalize ls[j]=x at *
 refine⟨a,b,fun H1 Y t=>?_⟩
 have D:=F.bh t
 have r2:=one D
 have hb:=hx.body;have ht:=hx.cf;have hf:=hx.jl
 refine⟨x.body,r2 1<|by simp[tQ],a,b,x.l.cf,by rw[qN];exact r2 5<|by simp[tQ],a,b,x.so,r2 8<|by simp[tQ],?_⟩
 have N:x.so.ay=x.ax.length:=by rw[hx.ax.ay];simp
 have M:0<=n1:=Om
 have Z:(uN (ls.take j):Int)+x.body.size<=q6.wrap ((q6.wrap<|(q6.wrap<|n1+(x.body.size:Int))+(x.l.cf.size:Int))+(x.so.ay:Int))/\q6.wrap ((q6.wrap<|(q6.wrap<|n1+(x.body.size:Int))+(x.l.cf.size:Int))+(x.so.ay:Int))<=j*300000000+3145728:=by
  rw[IntWalk.i64_in (n1+_) Om,IntWalk.i64_in (n1+_+_) Om,IntWalk.i64_in _ Om];omega
 generalize q6.wrap ((q6.wrap<|(q6.wrap<|n1+(x.body.size:Int))+(x.l.cf.size:Int))+(x.so.ay:Int))=n2 at *
 refine⟨fun n k H w=>∃i:Nat,k=i/\i<=x.ax.length/\i<=257/\n2<=n/\n<=n2+i*1048576/\aq w0 w,fun _ k _=>(1000-k).toNat,⟨0,rfl,Nat.zero_le _,Om,Int.le_refl _,Om,D⟩,?_⟩
 rintro n3 _ I K B ⟨k,rfl,X,O,Q,V,o⟩
 refine⟨a,b,x.so,one o 8<|by simp[tQ],fun W w3 A=>?_⟩
 have g:=o.bh A
 refine⟨fun p=>?_,fun p=>?_⟩
 simp only[Bool.and_eq_true,decide_eq_true_eq]at p
 have c:k<x.ax.length:=Om
 have⟨J,m,_,y⟩:=(hx.ax.pure g).mv c
 have P:=hx.jaf _<|getElem_mem c
 refine⟨a,b,x.so,one g 8<|by simp[tQ],J,m,x.ax[k].cf,y 4<|by simp[rS],?_⟩
 rw[IntWalk.i64_in (n3+_) Om,zI c Om]
 exact⟨⟨k+1,rfl,c,Om,Om,Om,g⟩,Uc⟩
 refine⟨a,b,x.so,one g 8<|by simp[tQ],fun _=>⟨fun h=>Uc,g⟩,fun e=>?_⟩
 have e:=il e
 rw[zI (n:=100) Om Om]
 refine⟨⟨j+1,rfl,d,Om,?_,Om,?_,g⟩,Uc⟩
 rw[f];simp only[uN,map_append,sum_append,map_cons,map_nil,sum_cons,sum_nil]at *;omega
 grind
 simp only[Bool.or_eq_false_iff,decide_eq_false_iff_not]at h
 simp only[Bool.and_eq_false_iff,decide_eq_false_iff_not]at q
 have:j=ls.length:=Om
 subst this
 rw[take_length]at z G
 exact⟨Om,G,Om⟩
def fm.bh{S w0 w w' H H' s t}(h:fm S w s t)(hs:au w0 H w H' w')(c:∀b,S b->b<w.heap.size/\¬H b):fm S w' s t:=
 h.ext hs.ext fun b a hh=>hs.mn (G:=S) c b a hh
def jPD{S}(t):∀s(c:Int)g,0<=c->c<=1000000000->fm S g s t->(∀b,S b->b<g.heap.size) ->
  cl 27 #[.agg (uF t s).toArray,vi c] g (XB fun r w'=>r=jEJ c t/\aq g w'):=by
 induction t using ej.ind with
 |h k f t u x ks M =>
 intro s c g Q U z o
 suffices key:∀K:Int->WP,(∀r w',(r=jEJ c (.mk k f t u x ks)/\aq g w')->K r w')->Nr k f t u x s c g K from
  jbW _ _ _ _ _ _ _ g _ (key _ fun _ _ h=>h)
 intro K J
 have F:s.ay=ks.length:=by cases z;assumption
 have G:ks.length<=9223372036854775807:=by cases z;assumption
 intro W T A
 refine⟨fun n i H w'=>∃j:Nat,i=j/\j<=ks.length/\1<=n/\n<=c+1/\aq g w'/\uT c 1 ks=uT c n (ks.drop j),fun _ i _=>((ks.length:Int)-i).toNat,⟨0,rfl,Nat.zero_le _,Int.le_refl _,Om,A.first,rfl⟩,?_⟩
 rintro n _ Y wl X ⟨j,rfl,Z,R,L,p,l⟩
 refine⟨fun m=>?_,fun m=>?_⟩
 .simp only[Bool.and_eq_true,decide_eq_true_eq]at m
  have d:j<ks.length:=Om
  rw[drop_eq_getElem_cons d,uT,bt m.2]at l
  have v:=z.pure p
  cases v with
  |mk _ _ _ _ _ _ _ rs ay O row ku =>
  have⟨a,w,P,I⟩:=row j d
  refine⟨a,w,?_⟩
  intro B C e
  have E:∀b,S b->¬B b:=fun b y hh=>Oi (e.old _ hh) (o b y)
  refine⟨_,_,_,_,_,rs j,e.ext.row I (E _ P),?_⟩
  rw[i64 (n:=c-n) Om Om]
  refine(M j d (rs j) (c-n) C Om Om ((ku j d).ext e.ext E) fun b y=>Oi (o b y) ((p.bh e).size)).mono ?_
  rintro _ V ⟨r,rfl,rfl,D⟩
  have N:=Le ks[j] (c-n) Om
  refine⟨_,rfl,D.dy,?_⟩
  rw[zI d Om,i64 (n:=n+jEJ (c-n) ks[j]) Om Om]
  exact⟨⟨j+1,rfl,d,Om,Om,(p.bh e).trans D,l⟩,vT d⟩
 .intro B C e
  refine J _ _ ⟨?_,p.bh e⟩
  rw[jEJ,l]
  by_cases q:j=ks.length
  .rw[q,drop_length];rfl
  .have d:j<ks.length:=Om
   rw[drop_eq_getElem_cons d,uT,aw]
   intro h
   have:decide (n<=c)=ai:=decide_eq_true h
   have h2:decide ((j:Int)<(s.ay:Int))=ai:=decide_eq_true Om
   rw[this,h2]at m;cases m
def YR{xs a:List ej}{j:Nat}(c:xs.length=a.length)(b:j<xs.length):uK (xs.drop j) (a.drop j)=(jEE xs[j] (a[j]' Om)&&uK (xs.drop<|j+1) (a.drop<|j+1)):=by
 rw[drop_eq_getElem_cons b,drop_eq_getElem_cons<|show j<a.length by omega,uK]
def ME:∀{xs c:List ej},uK xs c=ai->xs.length=c.length
 |[],[],_=>rfl
 |a :: xs,b :: c,h=>by simp only[uK,Bool.and_eq_true]at h;simp[ME h.2]
 |[],b :: c,h=>by simp[uK]at h
 |a :: xs,[],h=>by simp[uK]at h
def jSH{S}(t):∀B s s' e,fm S e s t->fm S e s' B->(∀b,S b->b<e.heap.size) ->
  cl 169 #[.agg (uF t s).toArray,.agg (uF B s').toArray] e (XC fun r w'=>r=jEE t B/\aq e w'):=by
 induction t using ej.ind with
 |h k f t u x ks ih =>
 intro B s s' e U y J
 have⟨k',T,p,I,F,c⟩:=B
 suffices key:∀K:Bool->WP,(∀r w',(r=jEE (.mk k f t u x ks) (.mk k' T p I F c)/\aq e w')->K r w')->N0 k f t u x s k' T p I F s' e K from
  Vf _ _ _ _ _ _ _ _ _ _ _ _ e _ (key _ fun _ _ h=>h)
 intro K C
 have g:s.ay=ks.length:=by cases U;assumption
 have o:s'.ay=c.length:=by cases y;assumption
 have W:ks.length<=9223372036854775807:=by cases U;assumption
 rintro y1 rfl
 refine⟨fun h=>?_,fun h=>?_⟩
 .intro H7 w7 v
  refine C _ _ ⟨?_,v.first⟩
  symm
  apply Bool.eq_false_iff.2
  intro hs
  simp only[jEE,Bool.and_eq_true,decide_eq_true_eq]at hs
  obtain⟨⟨⟨⟨⟨rfl,rfl⟩,rfl⟩,rfl⟩,rfl⟩,h6⟩:=hs
  have:=ME h6
  simp[g,o,this]at h
 .have N:k=k'/\f=T/\t=p/\u=I/\x=F/\ks.length=c.length:=Gd
  obtain⟨rfl,rfl,rfl,rfl,rfl,z⟩:=N
  have Q:jEE (.mk k f t u x ks) (.mk k f t u x c)=uK ks c:=by simp[jEE]
  rw[Q]at C
  intro H7 w7 v
  refine⟨fun i H w'=>∃j:Nat,i=j/\j<=ks.length/\aq e w'/\uK ks c=uK (ks.drop j) (c.drop j),fun i _=>((ks.length:Int)-i).toNat,⟨0,rfl,Nat.zero_le _,v.first,rfl⟩,?_⟩
  rintro _ Hl wl hl ⟨j,rfl,hj,P,l⟩
  refine⟨fun D=>?_,fun D=>?_⟩
  .have d:=vA g D
   have n:j<c.length:=Om
   rw[YR z d]at l
   have g1:∃a r,At s j 6 a/\S a.block/\(∀w',aq e w'->Row w' a (uF ks[j] r))/\fm S e r ks[j]:=by
    cases U with
    |mk _ _ _ _ _ _ _ rs ay O row ku=>have⟨a,h1,h2,h3⟩:=row j d;exact⟨a,rs j,h1,h2,fun w' E=>E.row h3 id,ku j d⟩
   have g2:∃a r,At s' j 6 a/\S a.block/\(∀w',aq e w'->Row w' a (uF c[j] r))/\fm S e r c[j]:=by
    cases y with
    |mk _ _ _ _ _ _ _ rs ay O row ku=>have⟨a,h1,h2,h3⟩:=row j n;exact⟨a,rs j,h1,h2,fun w' E=>E.row h3 id,ku j n⟩
   have⟨a,r,R,_,X,Y⟩:=g1
   have⟨Z,V,A,_,M,L⟩:=g2
   refine⟨fun w'=>aq e w',P.trans (aj.drew wl),?_⟩
   rintro _ rfl
   have w:=P.trans (aj.drew wl)
   refine⟨a,R,_,_,_,_,_,r,fun w' h=>X w' h,Z,A,_,_,_,_,_,V,fun w' h=>M w' h,?_⟩
   refine(ih j d c[j] r V wl.drew (Y.pure w) (L.pure w) fun b hb=>Oi (J b hb) w.size).mono ?_
   rintro _ w13 ⟨q,rfl,rfl,m⟩
   refine⟨_,rfl,w.trans m,m.dy,fun h=>?_,fun h=>?_⟩
   .have h:jEE ks[j] c[j]=ak:=by simpa using h
    exact C _ _ ⟨Uc,w.trans m⟩
   .have h:jEE ks[j] c[j]=ai:=by simpa using h
    rw[h,Bool.true_and]at l
    rw[zI d Om]
    exact⟨⟨j+1,rfl,d,w.trans m,l⟩,vT d⟩
  .have G:=vH g hj D
   subst G
   rw[drop_length,z,drop_length]at l
   exact C _ _ ⟨l.symm,P⟩
def CH:nY prog 69 71 6 72:=by
 refine⟨underlying69,⟨t71,_,Kf,(by kernel_rfl:t71.zero=ab (.agg #[vi 0,vi 0,vi 0,vu 0,vs ⟨#[]⟩,.slice bo 0 0])),Kf,Kf,rfl⟩,Om⟩
def sf(p:ej×Sl):List bk:=uF p.1 p.2
def fm.HU{S w s e}{ps:List (ej×Sl)}{k f t u x}(j:c9 w e 6 s (ps.map sf))(hS:∀b,s.bg b->S b)(m:∀p∈ps,fm S w p.2 p.1)(l:ps.length<=9223372036854775807):fm S w s (.mk k f t u x<|ps.map Prod.fst):=by
 refine .mk k f t u x _ s (fun i=>(ps.getD i (yp,Sl.nil)).2) (by rw[j.ay];simp) Uc (fun i h=>?_) fun i h=>?_;have c:i<ps.length:=by simpa using h
 have⟨a,h1,h2,h3⟩:=j.at (i:=i) Om Uc;refine⟨a,h1,hS _ h3,?_⟩;have g:(ps.map Prod.fst)[i]=ps[i].1:=Sm;have d:(ps.getD i (yp,Sl.nil)).2=ps[i].2:=by simp[getD_eq_getElem?_getD,c]
 rw[g,d];simpa[sf]using h2;have c:i<ps.length:=by simpa using h
 have g:(ps.map Prod.fst)[i]=ps[i].1:=Sm;have d:(ps.getD i (yp,Sl.nil)).2=ps[i].2:=by simp[getD_eq_getElem?_getD,c]
 rw[g,d];exact m _<|getElem_mem c
def Fh(t s):(uF t s).all vC=ai:=by simp[uF,vC,Sl.v]
def jSI{S}(t):∀s g,cnt t<=1000000->fm S g s t->(∀b,S b->b<g.heap.size) ->
  cl 38 #[.agg (uF t s).toArray] g (wI g.heap.size g t):=by
 induction t using ej.ind with
 |h k f t u x ks ih =>
 intro s g hcnt hT hSw
 suffices key:∀K:Int->Int->Int->Int->ByteArray->Sl->WP,(∀s' w',fm (g.heap.size<=·) w' s' (.mk k f t u x ks)->aq g w'->K k f t u x s' w')->OG k f t u x s g K by
  refine(VX _ _ _ _ _ _ g (fun k' f' t' u' x' s' w'=>(k'=k/\f'=f/\t'=t/\u'=u/\x'=x)/\fm (g.heap.size<=·) w' s' (.mk k f t u x ks)/\aq g w') (key _ Gd)).mono ?_;rintro _ w' ⟨_,_,_,_,_,s',rfl,⟨rfl,rfl,rfl,rfl,rfl⟩,h1,h2⟩;exact⟨s',rfl,h1,h2⟩
 intro K hK
 have D:s.ay=ks.length:=by cases hT;assumption
 have hca:1+cntAll ks<=1000000:=by simpa[cnt]using hcnt
 have hkl:=Sb ks
 have U:∀b,¬Sl.nil.bg b:=fun b d=>by have⟨a,h,_⟩:=d;cases h
 intro H3 w5 hs5
 refine⟨fun i _ _ _ _ _ O H w'=>∃j:Nat,i=j/\j<=ks.length/\aq g w'/\∃(ps:List (ej×Sl)) (S':NP),ps.map Prod.fst=ks.take j/\ji H w' 71 6 O (ps.map sf)/\(∀p∈ps,fm S' w' p.2 p.1)/\(∀b,S' b->g.heap.size<=b/\b<w'.heap.size/\¬H b/\¬O.bg b)/\(∀b,O.bg b->g.heap.size<=b),
  fun i _ _ _ _ _ _ _=>((ks.length:Int)-i).toNat,⟨0,rfl,Nat.zero_le _,hs5.first,[],fun _=>False,Sm,ji.nil _ _,Sm,fun b h=>h.elim,fun b h=>(U b h).elim⟩,?_⟩
 rintro _ y1 y2 y3 y4 y5 O Hl wl hl ⟨j,rfl,hj,El,ps,S',A,Z,w,hS',Q⟩
 have hpl:ps.length=j:=by have:=mu List.length A;simpa[Nat.min_eq_left hj]using this
 refine⟨fun hc=>?_,fun hc=>?_⟩
 .have l:=vA D hc
  have g1:∃a r,At s j 6 a/\S a.block/\(∀w',aq g w'->Row w' a (uF ks[j] r))/\fm S g r ks[j]:=by
   cases hT with
   |mk _ _ _ _ _ _ _ rs ay fit row ku=>have⟨a,h1,h2,h3⟩:=row j l;exact⟨a,rs j,h1,h2,fun w' E=>E.row h3 id,ku j l⟩
  have⟨a,r,hat,_,hr,hk⟩:=g1
  have N:aq wl wl.drew:=aj.drew wl
  have Ed:=El.trans N
  refine⟨fun w'=>aq g w',Ed,?_⟩
  rintro _ rfl
  refine⟨a,hat,_,_,_,_,_,r,fun w' h=>hr w' h,?_⟩
  have hcj:=Rz (ks:=ks) l
  refine(ih j l r wl.drew Om (hk.pure Ed) fun b d=>Oi (hSw b d) Ed.size).mono ?_
  rintro _ R ⟨s',rfl,hTk,L⟩
  have z:=Ed.trans L
  refine⟨_,_,_,_,_,s',rfl,z,L.dy,?_⟩
  intro p4 w8 h8
  have F:aq R w8:=aj.bu h8
  refine⟨z.trans F,?_⟩
  have hs8:=(hl.jg N.dy).jg (L.trans F).dy
  have O8:=Z.pure ((N.trans L).trans F)
  have⟨s1,w9,hr9,hO9,y,hk9,V⟩:=O8.append (P:=prog) (ty:=69) (c:=1) CH hs8 (r:=uF ks[j] s') (az.fi h8).row rfl (Fh _ _) So (by simp[maxLen];omega)
  have T:=(z.trans F).ft y Gd
  refine⟨s1,w9,hr9,T,hk9,?_⟩
  intro w10 m
  have hsd:wl.drew.heap.size=wl.heap.size:=rfl
  have z7:=L.size
  have z8:=F.size
  have z9:=y.size
  have J:∀b,(S' b\/(wl.heap.size<=b/\b<R.heap.size))->g.heap.size<=b/\b<w9.heap.size/\¬Hl b/\¬s1.bg b:=by
   rintro b (d|⟨h1,h2⟩)
   .grind
   .refine⟨Oh El.size,Om,fun h=>Oh (hl.lt b h),fun h=>(V b h).elim (fun h=>Oh (Z.fg.lt h)) fun h=>Om⟩
  rw[zI l Om]
  refine⟨⟨j+1,rfl,l,T.bh m,ps++[(ks[j],s')],fun b=>S' b\/(wl.heap.size<=b/\b<R.heap.size),?_,?_,?_,?_,?_⟩,vT l⟩
  .rw[map_append,A,take_succ_eq_append_getElem l];rfl
  .have:(ps++[(ks[j],s')]).map sf=ps.map sf++[uF ks[j] s']:=by simp[sf]
   rw[this];exact hO9.bh m
  .intro p hp
   have W:∀b,(S' b\/(wl.heap.size<=b/\b<R.heap.size))->b<w9.heap.size/\¬Hl b:=fun b d=>⟨(J b d).2.1,(J b d).2.2.1⟩
   rcases mem_append.1 hp with h|h
   .have:=(w p h).pure ((N.trans L).trans F)
    have:=this.ext y Gd
    exact(this.mono fun b d=>.inl d).bh m W
   .simp only[mem_singleton]at h;subst h
    have:=(hTk.lt.pure F).ext y fun b d hy=>Oi (Z.fg.lt hy) d.1
    exact(this.mono (S':=fun b=>S' b\/(wl.heap.size<=b/\b<R.heap.size)) Gd).bh m W
  .intro b d
   have⟨q1,q2,q3,q4⟩:=J b d
   exact⟨q1,Nat.lt_of_lt_of_le q2 m.ext.size,q3,q4⟩
  .intro b d
   exact(V b d).elim (Q b) fun h=>Oh ((z.trans F).size)
 .have hge:=vH D hj hc
  subst hge
  rw[take_length]at A
  have N:aq wl wl.drew:=aj.drew wl
  refine⟨fun _=>True,trivial,?_⟩
  rintro _ rfl
  intro p5 w12 X
  have q:=N.trans (aj.bu X)
  refine⟨trivial,?_⟩
  have hs12:=hl.jg q.dy
  have⟨s2,I,hr13,C,v,Y,hb13⟩:=(Z.pure q).append (P:=prog) (ty:=69) (c:=1) CH hs12 (r:=uF (.mk (-1) 0 0 0 ⟨#[]⟩ []) Sl.nil) (az.fi X).row rfl (Fh _ _) So (by simp[maxLen];omega)
  refine⟨s2,I,hr13,trivial,Y,?_⟩
  have hyl:O.ay=ks.length:=by rw[Z.ay];simp[hpl]
  have⟨M,hr3,hR3,hb3⟩:=c9.Fp (P:=prog) CH C.fg (k:=.i64) (n:=(ks.length:Int)) Om Uc
  rw[hyl]
  refine⟨M,fun w' _=>hr3 w',?_⟩
  intro w14 o
  have B:c9 I 71 6 M (ps.map sf):=by
   have e:((ps.map sf)++[uF (.mk (-1) 0 0 0 ⟨#[]⟩ []) Sl.nil]).take (ks.length:Int).toNat=ps.map sf:=by
    rw[Int.toNat_natCast];exact take_left' Uc
   rw[e]at hR3;exact hR3
  have hv3:∀b,M.bg b->b<I.heap.size/\¬Hl b:=fun b d=>⟨B.lt d,C.lf b ((hb3 b).1 d)⟩
  have hR14:=B.ext o.ext (o.mn (G:=M.bg) hv3)
  have z12:=q.size
  have z13:=v.size
  have hs3:∀b,M.bg b->g.heap.size<=b:=fun b d=>(hb13 b ((hb3 b).1 d)).elim (Q b) fun h=>Oh El.size
  refine hK M w14 ?_ ?_
  .have hT3:=fm.HU (S:=fun b=>g.heap.size<=b) (k:=k) (f:=f) (t:=t) (u:=u) (x:=x) hR14 hs3 (fun p hp=>?_) Om
   .rw[A]at hT3;exact hT3
   .have h1:=((w p hp).pure q).ext v fun b d hy=>(hS' b d).2.2.2 hy
    exact(h1.bh o Gd).mono fun b d=>(hS' b d).1
  .exact((El.trans q).ft v fun i hi d=>Uc).bh o
def IW(p w){L F}(a:zH w p L F):cl 136 #[vp<|ab p] w (XB fun r w'=>r=L.length/\w'=w):=by
 refine UE _ w (fun r w'=>r=L.length/\w'=w) ?_;have⟨s,m,h,_⟩:=a;refine Br.f rfl ⟨p,rfl,s,h.box.dj,?_,rfl⟩;have:=h.fg.ay;rw[this];simp
def jan(p t w){L F}(P:zH w p L F)(o:Ok L):cl 268 #[vp<|ab p,vi t] w (XA fun s w'=>gr (fun b=>w.heap.size<=b/\b<w'.heap.size) w' 1 s (fv<|zB<|ar L t)/\aq w w'):=by
 refine jcc _ _ w (fun s w'=>gr (fun b=>w.heap.size<=b/\b<w'.heap.size) w' 1 s (fv<|zB<|ar L t)/\aq w w') ?_;refine(wh p t w P o).mono ?_;rintro _ Y ⟨k,f,t',u,x,a,b,r,rfl,⟨N,_⟩,J⟩;refine⟨_,_,_,_,_,_,_,_,rfl,?_⟩;intro p2 Z h2;have M:=J.trans<|aj.bu h2;have o2:=fp.bf J h2;refine bx 7 (az.fi h2) rfl rfl fun V b2 E=>?_;have I:=M.bf o2 E;refine⟨k,b2.dj,?_⟩;refine(Ns k V).mono ?_;rintro _ T ⟨s1,s2,X,s4,c,ok,rfl,⟨hs,_⟩,v⟩;refine⟨_,_,_,_,_,_,rfl,?_⟩;have l:=b2.pure v;intro p3 W m;have H:aq T W:=aj.bu m;have n:=l.pure H;have ne:=m.ne l.bg;have A:=(I.trans v).trans H;have S:=fp.bf (I.trans v) m;refine bx 5 (az.fi m) rfl rfl fun O b3 E=>?_;have g:=n.ext E ne;have e:=A.bf S E;refine⟨a,g.cell rfl,b,g.cell rfl,?_⟩;intro C K B;have G:aq O K:=aj.bu B;have b4:=az.fi B;have d:=hs.symm;have h:c=0\/c=1\/c=2:=by have:=qW k;rw[d]at this;exact this
 refine⟨c,(b3.pure G).cell rfl,_,Sw C c K h,?_,e.trans G⟩;have D:zB (ar L t)=[a,b].take c.toNat:=by rw[<-N];simp[zB,d]
 rw[D];have z:=B.gp;have z6:=e.size;have zl:=b4.lt;refine⟨by rcases h with rfl|rfl|rfl<;>rfl,fun i hi=>?_⟩;rw[zV]at hi;have Q:i<c.toNat:=Uc;refine⟨C.add<|i*1,⟨Om,Uc,C,rfl,rfl⟩,by rw[zD];omega,?_⟩;intro j R;have U:j<1:=by simp only[fv,getElem_map,length_cons,length_nil]at R;omega
 have q:j=0:=Om;subst q;rw[qN];have y:i=0\/i=1:=Om;rcases y with rfl|rfl;rw[b4.cell (i:=0*1+0) rfl];simp[fv];rw[b4.cell (i:=1*1+0) rfl];simp[fv]
def mo.cells(k:Nat)(x:mo):List bk:=[vi k,vi 0,vi 0,vu x.num,vs ⟨x.cf.toArray⟩,vi 0,vi 0,vu x.cj,vu x.to,vu x.a,vu x.b,vi x.fw]
def zAV(bs:List UInt8)(r:Rd)(k:Nat)(x:mo)(f:fj):f.sM bs r (x.cells k)=(f.qp bs r x).cells k:=by cases f<;>rfl
def jYZ(bs):∀l1 a s,vB bs (l1++a) s=vB bs a (vB bs l1 s):=by
 intro l1;induction l1 with
 |nil=>intro a s;rfl
 |cons f l1 b=>intro a s;have⟨x,r⟩:=s;rw[cons_append,vB,vB,b]
def UQ(bs)(a:List fj)(j)(b:j<a.length)(s:mo×Rd):vB bs (a.take<|j+1) s=(a[j].qp bs (vB bs (a.take j) s).2 (vB bs (a.take j) s).1,a[j].rd bs (vB bs (a.take j) s).2):=by
 rw[take_succ_eq_append_getElem b,jYZ];have⟨x,r⟩:=vB bs (a.take j) s;rfl
def zHO(f:fj):∀args w,(callFunc f.get args).run prog w=.ok (.enter f.get args) w:=by
 cases f;exact call251;exact call254;exact call256;exact call259;exact call262;exact call264
structure qt(w:af)(q a:ao)(s:Sl)(bs:List UInt8)(L:bw)(r:Rd)(m:Nat)(S c F:NP):Prop where
 ew:zH w q L c
 rd:jv S w a s bs r
 pL:sd w m F
 lS:∀b,S b->b<w.heap.size
 la:a.block<w.heap.size
 dP:∀b,c b->b≠a.block/\¬S b/\¬F b/\b≠m
 dF:∀b,F b->b≠a.block/\¬S b
 dm:m≠a.block/\¬S m
def qt.ext{w w' q a s bs L r m S FP F G}(h:qt w q a s bs L r m S FP F)(E:aj G w w')(d:∀b,b<w.heap.size->¬G b):qt w' q a s bs L r m S FP F:=
 ⟨h.ew.ext E fun b c=>d b<|h.ew.lt c,h.rd.ext E (fun b c=>d b<|h.lS b c)<|d _ h.la,h.pL.ext E fun b c=>d b<|c.elim (h.pL.lt b) fun e=>e▸h.pL.Bo,fun b c=>Nat.lt_of_lt_of_le (h.lS b c) E.size,Nat.lt_of_lt_of_le h.la E.size,h.dP,h.dF,h.dm⟩
def qt.pure{w w' q a s bs L r m S FP F}(h:qt w q a s bs L r m S FP F)(E:aq w w'):qt w' q a s bs L r m S FP F:=h.ext E fun _ _ h=>h
def uc{n:Nat}(h:n<9223372036854775808):q6.wrap (n:Int)=(n:Int):=IntWalk.i64_in _ Om
def DY(n:Nat):rm (n:Int)=if 2147483647<n then -1 else(n:Int):=by
 unfold rm;by_cases h:2147483647<n;grind;rw[aw h,show decide ((n:Int)>2147483647)=ak by simp;omega];exact uc Om
def Up(k f t:Nat)(u:Int)(x:ByteArray)(a b:Int):BA (k:Int) (rm (f:Int)) (rm (t:Int)) u x a b=if 16<=f\/16<=t\/((k=8\/k=9)/\f=t)then 50 else 0:=by
 unfold BA;rw[DY,DY];have key:((((decide ((if 2147483647<f then -1 else(f:Int))<0) ||decide ((if 2147483647<f then -1 else(f:Int))>=16)) ||decide ((if 2147483647<t then -1 else(t:Int))<0)) ||decide ((if 2147483647<t then -1 else(t:Int))>=16)) ||((((k:Int)==8) ||((k:Int)==9))&&((if 2147483647<f then -1 else(f:Int))==(if 2147483647<t then -1 else(t:Int)))))=decide (16<=f\/16<=t\/((k=8\/k=9)/\f=t)):=Gd;rw[key];by_cases h:16<=f\/16<=t\/((k=8\/k=9)/\f=t);grind;grind
def KS{w p n cs T}(h:az w p (tM n++cs) T):Row w p (tM n):=fun i hi=>by
 have:=h.row i Gd;rw[getElem?_append_left hi]at this;exact this
def TZ(q a s bs r m){S FP F L}(p n cs){w}(h:qt w q a s bs L r m S FP F)(f:Ok L)(hB:az w p (tM n++cs) 314)(y:¬ FP p.block)(K:Int->WP)(i:∀x w',x=(if (find L n).isSome=ai then 72 else (bz L n).2.1)->(∃F',zH w' q (if (find L n).isSome=ai then L else (bz L n).2.2) F'/\jv S w' a s bs r/\aj FP w w'/\∀b,F' b->FP b\/w.heap.size<=b)->K x w'):
  CW (ab q) p bl w K:=by
 refine⟨n.ba,n.cj,n.to,n.num,n.cf,n.a,n.b,KS hB,?_⟩
 refine(Hg q n w h.ew f).mono ?_
 rintro _ u ⟨x,ok,rfl,A,c⟩
 refine⟨_,_,rfl,c.dy,fun e=>?_,fun e=>?_⟩
 have:(find L n).isSome=ai:=Gd
 rw[bt this,bt this]at i
 exact i _ _ rfl ⟨FP,h.ew.pure c,h.rd.pure c,aj.pure c,fun b d=>.inl d⟩
 have:¬(find L n).isSome=ai:=Gd
 rw[aw this,aw this]at i
 refine⟨n.ba,n.cj,n.to,n.num,n.cf,n.a,n.b,KS<|hB.pure c,?_⟩
 refine(sV q n.ba n.cj n.to n.num n.cf n.a n.b u (h.ew.pure c) f).mono ?_
 rintro _ z ⟨l,o,rfl,v,F',t,j,k⟩
 have g:=mu Prod.snd v
 simp only at g
 refine⟨l,o,rfl,j.ff fun b d=>d.elim,i _ _ g ⟨F',t,(h.rd.pure c).ext j (fun b d hh=>(h.dP b hh).2.1 d) fun hh=>(h.dP _ hh).1 rfl,(aj.pure c).trans j,fun b d=>(k b d).elim .inl fun d=>.inr<|Oh c.size⟩⟩
def zKG(k:Nat)(x:mo):(((x.cells k).set 1<|vi<|rm x.cj).set 2<|vi<|rm x.to)=tM ⟨k,rm x.cj,rm x.to,x.num,⟨x.cf.toArray⟩,0,0⟩++[vu x.cj,vu x.to,vu x.a,vu x.b,vi x.fw]:=rfl
def UT(n cs v):(tM n++cs).set 5 (vi v)=tM { n with a:=v }++cs:=rfl
def Ta(n cs v):(tM n++cs).set 6 (vi v)=tM { n with b:=v }++cs:=rfl
def jcl(q a:ao)(s:Sl)(bs:List UInt8)(r:Rd)(m:Nat){S l F:NP}{L:bw}(p:ao)(k:Nat)(x:mo){w:af}(h:qt w q a s bs L r m S l F)(u:Ok L)(h1:x.cj<16)(h2:x.to<16)(V:0<x.fw->x.a<L.length)(A:1<x.fw->x.b<L.length)(hB:az w p (tM ⟨k,rm x.cj,rm x.to,x.num,⟨x.cf.toArray⟩,0,0⟩++[vu x.cj,vu x.to,vu x.a,vu x.b,vi x.fw]) 314)(t:p.block≠a.block/\¬ S p.block/\¬ l p.block/\¬ F p.block/\p.block≠m)(K:Int->WP)(Q:∀y w',y=(if (find L<|x.dr k).isSome=ai then 72 else (bz L<|x.dr k).2.1)->(∃F',zH w' q (if (find L<|x.dr k).isSome=ai then L else (bz L<|x.dr k).2.2) F'/\jv S w' a s bs r/\aj (fun b=>l b\/b=p.block) w w'/\∀b,F' b->l b\/w.heap.size<=b)->K y w'):
  AH (ab q) p ak bl w K:=by
 have P:=u.jl
 have R:rm (x.cj:Int)=(x.cj:Int):=by rw[DY,aw Om]
 have ts:rm (x.to:Int)=(x.to:Int):=by rw[DY,aw Om]
 rw[R,ts]at hB
 have B:∀{w w':af} {i:Nat} {v:bk},qt w q a s bs L r m S l F->w'=w.setCell (p.add i) v->qt w' q a s bs L r m S l F/\aj (·=p.block) w w':=fun {w w' i v} h e=>by
  have E:aj (·=p.block) w w':=by rw[e];exact qP
  refine⟨⟨h.ew.ext E Gd,h.rd.ext E Gd fun e=>t.1 e.symm,h.pL.ext E Gd,fun b A=>Nat.lt_of_lt_of_le (h.lS b A) E.size,Nat.lt_of_lt_of_le h.la E.size,h.dP,h.dF,h.dm⟩,E⟩
 have N:∀n,n<L.length->q6.wrap (dc.wrap<|(n:Int)+1)=(n:Int)+1:=fun n O=>by
  rw[show(n:Int)+1=((n+1:Nat):Int) by omega,vX Om,uc Om]
 have G : ∀(j D:Int)f, qt f q a s bs L r m S l F -> az f p (tM ⟨k, x.cj, x.to, x.num, ⟨x.cf.toArray⟩, j, D⟩ ++ [vu x.cj, vu x.to, vu x.a, vu x.b, vi x.fw]) 314 -> aj (· = p.block) w f ->
   j=(if 0<x.fw then(x.a:Int)+1 else 0)->D=(if 1<x.fw then(x.b:Int)+1 else 0)->CW (ab q) p bl f K:=by
  intro j D f h1 c C o J
  have O:(⟨k,x.cj,x.to,x.num,⟨x.cf.toArray⟩,j,D⟩:gP)=x.dr k:=by subst o J;rfl
  rw[O]at c
  refine TZ q a s bs r m p (x.dr k) _ h1 u c t.2.2.1 K fun y w' U ⟨F',W,Y,T,X⟩=>Q y w' U ⟨F',W,Y,(C.mono fun b _ h=>.inr h).trans<|T.mono fun b _ h=>.inl h,fun b A=>(X b A).imp id fun h=>Oh C.size⟩
 refine⟨fun d=>Uc,fun _=>⟨x.fw,hB.cell (i:=11) rfl,?_⟩⟩
 have M : ∀(j:Int)f, qt f q a s bs L r m S l F -> az f p (tM ⟨k, x.cj, x.to, x.num, ⟨x.cf.toArray⟩, j, 0⟩ ++ [vu x.cj, vu x.to, vu x.a, vu x.b, vi x.fw]) 314 -> aj (· = p.block) w f ->
   j=(if 0<x.fw then(x.a:Int)+1 else 0)->DI (ab q) p bl f K:=by
  intro j f h1 c C o
  refine⟨x.fw,c.cell (i:=11) rfl,fun d=>?_,fun d=>?_⟩
  have d:1<x.fw:=Oh<|ij d
  refine⟨x.b,c.cell (i:=10) rfl,c.im (i:=6)<|by simp[tM],id,?_⟩
  rintro I z
  have⟨h2,H⟩:=B h1 z
  have g:=c.set 6<|vi<|q6.wrap<|dc.wrap<|(x.b:Int)+1
  rw[<-z,Ta,N _<|A d]at g
  exact G j _ I h2 g (C.trans H) o Uc
  grind
 refine⟨fun d=>?_,fun d=>?_⟩
 have d:0<x.fw:=Oh<|ij d
 refine⟨x.a,hB.cell (i:=9) rfl,hB.im (i:=5)<|by simp[tM],id,?_⟩
 rintro I z
 have⟨h2,H⟩:=B h z
 have g:=hB.set 5<|vi<|q6.wrap<|dc.wrap<|(x.a:Int)+1
 rw[<-z,UT,N _<|V d]at g
 exact M _ I h2 g H Uc
 have d:¬0<x.fw:=Oh<|il d
 exact M 0 w h hB (aj.refl _) Uc
def Yg(q a s bs r m){S FP F L w0}(h:qt w0 q a s bs L r m S FP F)(Q:Ok L)(I:r.at_<bs.length)(he:r.gd=0):
  cl 185 #[vp<|ab q,vp<|ab a,.map<|ab m] w0<|XB fun y w'=>y=(vL bs L r).2.1/\∃F',zH w' q (vL bs L r).1 F'/\jv S w' a s bs (vL bs L r).2.2/\aj (fun b=>FP b\/b=a.block) w0 w'/\∀b,F' b->FP b\/w0.heap.size<=b:=by
 refine Tm (ab q) (ab a) (ab m) w0 _ ?_
 refine(jbg a s bs r w0 h.rd (Nat.le_of_lt I) h.lS).mono ?_
 rintro _ w1 ⟨_,rfl,rfl,M,K⟩
 refine⟨_,rfl,K.ff fun b c=>c.elim,?_⟩
 rw[AI bs L r I he]
 rw[Mo bs r I he]at M|-
 simp only at M|-
 generalize hk:bs[r.at_].toNat=k at *
 have hk256:k<256:=by rw[<-hk];exact bs[r.at_].toNat_lt
 have S1:qt w1 q a s bs L ⟨r.at_+1,0,r.spot⟩ m S FP F:=⟨h.ew.ext K fun b c e=>(h.dP b c).1 e,M,h.pL.ext K fun b c e=>c.elim (fun c=>(h.dF b c).1 e) fun c=>h.dm.1<|c.symm.trans e,fun b c=>Nat.lt_of_lt_of_le (h.lS b c) K.size,Nat.lt_of_lt_of_le h.la K.size,h.dP,h.dF,h.dm⟩
 intro n w2 n2
 rw[uc Om]at n2
 have E2:aq w1 w2:=aj.bu n2
 have S2:=S1.pure E2
 have B2:az w2 n (qZ.cells k) 314:=az.j0 n2
 have bp:=n2.gp
 have z1:=K.size
 have T:=K.mh E2
 refine⟨k,B2.dj,?_⟩
 by_cases u:uL k=ai
 have hk19:1<=k/\k<=9:=by unfold uL at u;simpa using u
 have⟨v2,O,hLst⟩:=S2.pL.get (k:Int) Om Om ai
 refine⟨v2,ai,O,fun d=>Uc,fun _=>?_⟩
 rw[bt u]
 generalize hfs:qL (k:Int)=l at *
 have hf3:l.length<=3:=by rw[<-hfs];exact Hi _
 have hrat:∀j,(vB bs (l.take j) (qZ,⟨r.at_+1,0,r.spot⟩)).2.at_<=bs.length:=fun j=>(NJ bs (l.take j) qZ ⟨r.at_+1,0,r.spot⟩ Uc).2
 refine⟨fun x1 Hl w=>∃j:Nat,x1=j/\j<=l.length/\Hl=bl/\qt w q a s bs L (vB bs (l.take j) (qZ,⟨r.at_+1,0,r.spot⟩)).2 m S FP F/\az w n ((vB bs (l.take j) (qZ,⟨r.at_+1,0,r.spot⟩)).1.cells k) 314/\gr F w 2 v2 (l.map fj.row)/\aj (·=a.block) w0 w,fun x1 _=>((l.length:Int)-x1).toNat,⟨0,rfl,Nat.zero_le _,rfl,S2,B2,hLst,T⟩,?_⟩
 rintro _ _ wl _ ⟨j,rfl,hj,rfl,hS,hB,hL,hE⟩
 unfold Lu
 have D:v2.ay=l.length:=by rw[hL.ay,length_map]
 have zE:=hE.size
 have nS:¬S n.block:=fun hh=>Oh<|h.lS _ hh
 have nF:¬F n.block:=fun hh=>Oh<|h.pL.lt _ hh
 have nP:¬FP n.block:=fun hh=>Oh<|h.ew.lt hh
 have na:n.block≠a.block:=fun hh=>Oh h.la
 have nm:n.block≠m:=fun hh=>Oh h.pL.Bo
 refine⟨fun d=>?_,fun d=>?_⟩
 have d:=vA D d
 have⟨a1,hat,_,hrow⟩:=hL.mv d
 refine⟨a1,hat,_,_,hrow,?_⟩
 intro p2 w3 n3
 have E3:aq wl w3:=aj.bu n3
 refine⟨⟨rfl,fun i hi=>(az.j0 n3).im Uc⟩,id,?_⟩
 rintro w4 e4
 have X4:aj (·=p2.block) w3 w4:=by rw[e4];exact aj.ib _ _ _
 have B4:az w4 p2 [.func (.func l[j].put) #[] #[],.func (.func l[j].get) #[] #[]] 255:=by rw[e4];exact(az.j0 n3).store rfl
 have hp2:=n3.gp
 have C:=E3.bf Gd X4
 have P:=hS.pure C
 refine⟨_,B4.cell (i:=1) rfl,l[j].get,#[],#[],rfl,zHO l[j],?_⟩
 refine(Tt l[j] a n s bs _ _ w4 P.rd (hrat j) P.lS (hB.pure C) rfl (fun e=>na e.symm) fun b c e=>nS<|e▸c).mono ?_
 rintro _ w5 ⟨rfl,hR5,W,G⟩
 rw[zAV]at W
 have hsn:=UQ bs l j d (qZ,⟨r.at_+1,0,r.spot⟩)
 refine⟨rfl,G.ff fun b c=>c.elim,⟨j+1,zI d Om,d,rfl,?_,?_,?_,?_⟩,by rw[zI d Om];exact vT d⟩
 rw[hsn]
 exact⟨P.ew.ext G fun b c e=>e.elim (fun e=>(h.dP b c).1 e) fun e=>nP<|e▸c,hR5,P.pL.ext G fun b c e=>c.elim (fun c=>e.elim (fun e=>(h.dF b c).1 e) fun e=>nF<|e▸c) fun c=>e.elim (fun e=>h.dm.1<|c.symm.trans e) fun e=>nm<|e.symm.trans c,fun b c=>Nat.lt_of_lt_of_le (P.lS b c) G.size,Nat.lt_of_lt_of_le P.la G.size,h.dP,h.dF,h.dm⟩
 rw[hsn];exact W
 exact(hL.pure C).ext G fun b c e=>e.elim (fun e=>(h.dF b c).1 e) fun e=>nF<|e▸c
 exact(hE.mh C).ft G Gd
 have d:=vH D hj d
 subst d
 rw[take_length]at hS hB
 have Y:=(@Rv bs (k:Int) Om Om ⟨r.at_+1,0,r.spot⟩).1
 rw[hfs]at Y
 generalize vB bs l (qZ,⟨r.at_+1,0,r.spot⟩)=st at *
 have⟨x,f⟩:=st
 simp only at hS hB Y
 have fin : ∀(y:Int)w F', zH w q (oh L k (x, f)).1 F' -> jv S w a s bs (oh L k (x, f)).2.2 -> aj (fun b => FP b \/ b = a.block) w0 w -> (∀ b, F' b -> FP b \/ w0.heap.size <= b) -> y = (oh L k (x, f)).2.1 ->
   y=(oh L k (x,f)).2.1/\∃F',zH w q (oh L k (x,f)).1 F'/\jv S w a s bs (oh L k (x,f)).2.2/\aj (fun b=>FP b\/b=a.block) w0 w/\∀b,F' b->FP b\/w0.heap.size<=b:=fun y w F' a1 a2 a3 a4 a5=>⟨a5,F',a1,a2,a3,a4⟩
 have hEo:aj (fun b=>FP b\/b=a.block) w0 wl:=hE.mono fun b _ h=>.inr h
 have J:∀(e:Nat)w,pF k L.length x f.gd=e->e≠0->aj (·=n.block) wl w->(((e:Nat):Int)=(oh L k (x,f)).2.1/\∃F',zH w q (oh L k (x,f)).1 F'/\jv S w a s bs (oh L k (x,f)).2.2/\aj (fun b=>FP b\/b=a.block) w0 w/\∀b,F' b->FP b\/w0.heap.size<=b):=by
  intro e w hne h0 E;have hr:oh L k (x,f)=(L,(e:Int),f):=by
   unfold oh;simp only;rw[bt Uc,hne]
  rw[hr];exact⟨rfl,FP,hS.ew.ext E fun b c e=>nP<|e▸c,hS.rd.ext E (fun b c e=>nS<|e▸c) fun e=>na e.symm,hEo.ft E fun i hi e=>Om,fun b c=>.inl c⟩
 refine(Zj a s bs f wl hS.rd).mono ?_
 rintro _ w6 ⟨_,_,rfl,rfl,rfl,E6⟩
 have B6:=hB.pure E6
 refine⟨_,_,rfl,E6.dy,fun d=>?_,fun d=>?_⟩
 have d:f.gd≠0:=Oh<|bne_iff_ne.1 d
 exact J f.gd w6 (by unfold pF;rw[bt d]) d<|aj.pure E6
 have d:f.gd=0:=Gd
 refine⟨fun w'=>w'.cell? (n.add 8)=ab (vu x.to),(B6.pure<|aj.drew w6).cell (i:=8) rfl,?_⟩
 rintro w7 e7
 have E7:aq w6 w7:=by rw[e7];exact aj.drew w6
 have B7:=B6.pure E7
 refine⟨x.cj,B7.cell (i:=7) rfl,x.to,fun w' hw'=>hw',?_⟩
 refine(LK (x.cj:Int) w7).mono ?_
 rintro _ w8 ⟨rfl,E8⟩
 have B8:=B7.pure E8
 refine⟨_,rfl,B8.cell (i:=8) rfl,E8.dy,?_⟩
 refine(LK (x.to:Int) w8).mono ?_
 rintro _ w9 ⟨rfl,E9⟩
 have B9:=B8.pure E9
 refine⟨_,rfl,B9.cell (i:=8) rfl,E9.dy,B9.im (i:=1)<|by simp[mo.cells],id,?_⟩
 rintro V Z
 have X10:aj (·=n.block) w9 V:=by rw[Z];exact qP
 have B:=B9.set 1<|vi<|rm x.cj
 rw[<-Z]at B
 refine⟨B.cell (i:=8) rfl,B.im (i:=2)<|by simp[mo.cells],id,?_⟩
 rintro R U
 have X11:aj (·=n.block) V R:=by rw[U];exact qP
 have H:=B.set 2<|vi<|rm x.to
 rw[<-U,zKG]at H
 have g:=((aj.pure<|((E6.trans E7).trans E8).trans E9).trans X10).trans X11
 have S11:qt R q a s bs L f m S FP F:=⟨hS.ew.ext g fun b c e=>nP<|e▸c,hS.rd.ext g (fun b c e=>nS<|e▸c) fun e=>na e.symm,hS.pL.ext g Gd,fun b c=>Nat.lt_of_lt_of_le (hS.lS b c) g.size,Nat.lt_of_lt_of_le hS.la g.size,h.dP,h.dF,h.dm⟩
 refine⟨k,rm x.cj,rm x.to,x.num,⟨x.cf.toArray⟩,0,0,KS H,?_⟩
 dsimp only;rw[Up]
 by_cases v:16<=x.cj\/16<=x.to\/((k=8\/k=9)/\x.cj=x.to)
 rw[bt v]
 refine⟨fun _ N A=>?_,fun d=>Uc⟩
 exact J 50 N (by unfold pF;rw[aw Om,bt v]) De<|g.mh A.ext
 rw[aw v]
 refine⟨fun d=>Uc,fun _ N A=>?_⟩
 have t:=A.ext
 have X:=S11.pure t
 refine(IW q N X.ew).mono ?_
 rintro _ o ⟨_,rfl,rfl,rfl⟩
 have p:=H.pure t
 have hLs:=Q.jl
 refine⟨_,rfl,av.refl _,x.fw,p.cell (i:=11) rfl,?_⟩
 rw[vX Om]
 have z:((0<x.fw/\L.length<=x.a)\/(1<x.fw/\L.length<=x.b))->((71:Int)=(oh L k (x,f)).2.1/\∃F',zH o q (oh L k (x,f)).1 F'/\jv S o a s bs (oh L k (x,f)).2.2/\aj (fun b=>FP b\/b=a.block) w0 o/\∀b,F' b->FP b\/w0.heap.size<=b):=fun hh =>
  J 71 o (by unfold pF;rw[aw Om,aw v,bt hh]) De<|g.mh t
 have good:¬((0<x.fw/\L.length<=x.a)\/(1<x.fw/\L.length<=x.b))->AH (ab q) n ak bl o (fun y w'=>y=(oh L k (x,f)).2.1/\∃F',zH w' q (oh L k (x,f)).1 F'/\jv S w' a s bs (oh L k (x,f)).2.2/\aj (fun b=>FP b\/b=a.block) w0 w'/\∀b,F' b->FP b\/w0.heap.size<=b):=fun hh=>by
  have hr:oh L k (x,f)=(if(find L<|x.dr k).isSome=ai then L else(bz L<|x.dr k).2.2,if(find L<|x.dr k).isSome=ai then 72 else(bz L<|x.dr k).2.1,f):=by
   have hne:pF k L.length x f.gd=0:=by unfold pF;rw[aw Om,aw v,aw hh]
   unfold oh;simp only;rw[aw Uc];split<;>rfl
  rw[hr];refine jcl q a s bs f m n k x X Q Om Om Om Om p ⟨na,nS,nP,nF,nm⟩ _ ?_;rintro y w' hy ⟨F',g1,g2,g3,g4⟩;exact⟨hy,F',g1,g2,(hEo.ft (g.mh t) fun i hi e=>Om).ft g3 Gd,fun b c=>(g4 b c).imp id fun hh=>Oi g.size t.size⟩
 have j5:∀x3:Bool,x3=decide (0<x.fw/\L.length<=x.a)->FN (ab q) n (L.length:Int) x3 bl o (fun y w'=>y=(oh L k (x,f)).2.1/\∃F',zH w' q (oh L k (x,f)).1 F'/\jv S w' a s bs (oh L k (x,f)).2.2/\aj (fun b=>FP b\/b=a.block) w0 w'/\∀b,F' b->FP b\/w0.heap.size<=b):=by
  intro x3 h3;refine⟨fun d=>?_,fun d=>?_⟩;rw[d]at h3;have h3:=ij h3.symm;exact⟨fun _=>z<|.inl h3,fun d=>Uc⟩;rw[d]at h3;have h3:=il h3.symm;refine⟨x.fw,p.cell (i:=11) rfl,fun d=>?_,fun d=>?_⟩;have d:=ij d;refine⟨x.b,p.cell (i:=10) rfl,?_⟩;rw[vX Om];by_cases c:L.length<=x.b;rw[decide_eq_true<|show(x.b:Int)>=(L.length:Int) by omega];exact⟨fun _=>z<|.inr ⟨Om,c⟩,fun d=>Uc⟩;grind;grind
 refine⟨fun d=>?_,fun d=>?_⟩
 have d:=ij d
 refine⟨x.a,p.cell (i:=9) rfl,j5 _ ?_⟩
 rw[decide_eq_decide];omega
 have d:=il d
 refine j5 _ ?_
 rw[decide_eq_false];omega
 have hnk:¬(1<=(k:Int)/\(k:Int)<=9):=fun hh=>u (by unfold uL;simp;omega)
 refine⟨_,ak,S2.pL.none (k:Int) hnk,fun _=>?_,fun d=>Uc⟩
 rw[aw u]
 exact⟨rfl,FP,S2.ew,S2.rd,T.mono fun b _ h=>.inr h,fun b c=>.inl c⟩
def KI(L n):(bz L n).2.2.length<=L.length+1:=by
 rcases FE L n with e|⟨_,e⟩<;>rw[e]<;>simp
def Jh(t):∀L,(grow L t).2.2.length<=L.length+cnt t:=by
 induction t using ej.ind with
 |h k f t u x ks e =>
  have:∀ks,(∀i (hi:i<ks.length),∀L,(grow L ks[i]).2.2.length<=L.length+cnt ks[i])->∀n i L,(zU n i L ks).2.2.length<=L.length+1+cntAll ks:=by
   intro ks;induction ks with
   |nil=>intro _ n i L;unfold zU;have:=KI L n;simp only[cntAll];omega
   |cons t ts c =>
    intro hh n i L
    have d:=hh 0 Sm L
    simp only[List.getElem_cons_zero]at d
    unfold zU
    simp only[cntAll]
    split
    simp only;omega
    have:=c (fun i hi=>hh (i+1) Uc) (if i=0 then { n with a:=(grow L t).1 }else { n with b:=(grow L t).1 }) (i+1) (grow L t).2.2
    omega
  intro L
  have:=this ks e ⟨k,f,t,u,x,0,0⟩ 0 L
  unfold grow
  rw[cnt];omega
def ZL(L t):(of L t).2.2.length<=L.length+cnt t:=by
 have:=Jh t L;unfold of;split;simp only;omega;grind
structure xb(w0:af)(H:NP)(w:af)(p q:ao)(L1 L2:bw)(F1 F2:NP):Prop where
 pure:aq w0 w
 ew:zH w p L1 F1
 yc:vJ w q L2 F2
 o1:∀b,F1 b->w0.heap.size<=b/\¬H b/\¬F2 b
 o2:∀b,F2 b->w0.heap.size<=b/\¬H b
section
variable {w0 w w':af} {H H':NP} {p q:ao} {L1 L2:bw} {F1 F2:NP}
def xb.zk(h:xb w0 H w p q L1 L2 F1 F2)(E:aq w w'):xb w0 H w' p q L1 L2 F1 F2:=⟨h.pure.trans E,h.ew.pure E,h.yc.pure E,h.o1,h.o2⟩
def xb.first(h:xb w H w' p q L1 L2 F1 F2)(E:aq w0 w):xb w0 H w' p q L1 L2 F1 F2:=
 ⟨E.trans h.pure,h.ew,h.yc,fun b a=>⟨Nat.le_trans E.size (h.o1 b a).1,(h.o1 b a).2⟩,fun b a=>⟨Nat.le_trans E.size (h.o2 b a).1,(h.o2 b a).2⟩⟩
def xb.bh(h:xb w0 H w p q L1 L2 F1 F2)(hs:au w0 H w H' w'):xb w0 H' w' p q L1 L2 F1 F2:=by
 have d:∀b,b<w.heap.size->¬H b->¬H' b:=fun b h1 h2=>hs.mn (G:=(·=b)) Gd b rfl;have d1:∀b,F1 b->¬H' b:=fun b a=>d b (h.ew.lt a) (h.o1 b a).2.1;have d2:∀b,F2 b->¬H' b:=fun b a=>d b (h.yc.lt a) (h.o2 b a).2;exact⟨h.pure.bh hs,h.ew.ext hs.ext d1,h.yc.ext hs.ext d2,fun b a=>⟨(h.o1 b a).1,d1 b a,(h.o1 b a).2.2⟩,fun b a=>⟨(h.o2 b a).1,d2 b a⟩⟩
end
def Zt(p){L}(hW:Wf L):∀(n:Nat)(t:Int)g F,t.toNat=n->vJ g p L F ->
  cl 20 #[vp (ab p),vi t] g (wI g.heap.size g (zA L t)):=by
 intro n
 induction n using Nat.strongRecOn with
 |_ n ih =>
 intro t g F hn hP
 suffices key:∀K:Int->Int->Int->Int->ByteArray->Sl->WP,(∀k f A u x s' w' ks,zA L t=.mk k f A u x ks->fm (g.heap.size<=·) w' s' (.mk k f A u x ks)->aq g w'->K k f A u x s' w')->KY (ab p) t g K by
  refine(jaO _ _ g (fun k f A u x s' w'=>∃ks,zA L t=.mk k f A u x ks/\fm (g.heap.size<=·) w' s' (.mk k f A u x ks)/\aq g w') (key _ Gd)).mono ?_;rintro _ w' ⟨k,f,A,u,x,s',rfl,ks,h1,h2,h3⟩;rw[h1];exact⟨s',rfl,h2,h3⟩
 intro K hK
 have hok:=hW.ok
 have C:∀b,¬Sl.nil.bg b:=fun b d=>by have⟨a,h,_⟩:=d;cases h
 intro H1 w1 hs1
 have E1:=hs1.first
 refine(tH p t w1 (hP.pure E1) hok).mono ?_
 rintro _ w2 ⟨k,f,A,u,x,a,b,r,rfl,⟨hnd,hr⟩,E2⟩
 have Z:=E1.trans E2
 have hs2:=hs1.jg E2.dy
 refine⟨_,_,_,_,_,_,_,_,rfl,E2.dy,fun h=>?_,fun h=>?_⟩
 .intro H2 w5 hs5
  have M:bj L t=ak:=Uc
  exact hK _ _ _ _ _ _ _ [] (by rw[Kx M];rfl) fm.leaf (Z.bh hs5)
 .have M:bj L t=ai:=by rw[<-hr];simpa using h
  have T:=zW hW M
  have l:=hW.dr M
  rw[<-hnd]at T l
  simp only at T l
  have⟨_,_,_,_,W,_,_⟩:=l
  have hpos:=zG.1 M
  rw[qU]
  have J1 : ∀ (xs : Sl) (H : NP) (w : af) (ps : List (ej × Sl)) (S' : NP), au g H w H w -> aq g w -> ji H w 71 6 xs (ps.map sf) -> ps.length <= 1 -> (∀ p ∈ ps, fm S' w p.2 p.1) -> (∀ b, S' b -> g.heap.size <= b /\ b < w.heap.size /\ ¬ H b /\ ¬ xs.bg b) -> (∀ b, xs.bg b -> g.heap.size <= b) ->
    ((fl k).fw=2->ps.map Prod.fst=[zA L a])->((fl k).fw≠2->ps.map Prod.fst=(zB ⟨k,f,A,u,x,a,b⟩).map (zA L)) ->
    CS (ab p) k b k f A u x xs g H w K:=by
   intro xs H w ps S' hs E O hpl Q m hxs h2 h1
   unfold CS
   rw[qU]
   refine⟨fun h=>?_,fun h=>?_⟩
   .have N:(fl k).fw=2:=by simpa using h
    have hps:=h2 N
    intro w9 B
    have E9:=E.bh B
    have O9:=O.bh B
    have I:aq w9 w9.drew:=aj.drew w9
    refine⟨fun _=>True,trivial,?_⟩
    rintro _ rfl
    have d:=W b (by simp[zB,N])
    have hbp:=zG.1 d.1
    refine(ih b.toNat Om b w9.drew F rfl (hP.pure (E9.trans I))).mono ?_
    rintro _ w11 ⟨s',rfl,hTb,z⟩
    generalize hTt:zA L b=tb at *
    have⟨k2,f2,t2,u2,x2,s⟩:=tb
    refine⟨_,_,_,_,_,s',rfl,trivial,z.dy,?_⟩
    intro p5 w12 h12
    have y:aq w11 w12:=aj.bu h12
    refine⟨trivial,?_⟩
    have hs12:=(B.jg I.dy).jg (z.trans y).dy
    have⟨s1,w13,hr13,J,v,hk13,hb13⟩:=(O9.pure ((I.trans z).trans y)).append (P:=prog) (ty:=69) (c:=1) CH hs12 (r:=uF (.mk k2 f2 t2 u2 x2 s) s') (az.fi h12).row rfl (Fh _ _) So (by simp[maxLen];omega)
    refine⟨s1,w13,hr13,trivial,hk13,?_⟩
    intro w15 i
    have zd:w9.drew.heap.size=w9.heap.size:=rfl
    have z9:=B.ext.size
    have z11:=z.size
    have z12:=y.size
    have z13:=v.size
    have hS9:∀b,S' b->g.heap.size<=b/\b<w9.heap.size/\¬H b/\¬xs.bg b:=fun b d=>⟨(m b d).1,Uc,(m b d).2.2.1,(m b d).2.2.2⟩
    have hvs:∀b,s1.bg b->b<w13.heap.size/\¬H b:=fun b d=>⟨J.fg.lt d,J.lf b d⟩
    have Y:=J.fg.ext i.ext (i.mn (G:=s1.bg) hvs)
    have e1:ps.map sf++[uF (.mk k2 f2 t2 u2 x2 s) s']=(ps++[((.mk k2 f2 t2 u2 x2 s:ej),s')]).map sf:=by simp[sf]
    rw[e1]at Y
    have hT:=fm.HU (S:=fun b=>g.heap.size<=b) (k:=k) (f:=f) (t:=A) (u:=u) (x:=x) Y (fun b d=>(hb13 b d).elim (hxs b) fun h=>Oh E9.size) (fun q hq=>?_) So
    .have e2 : (ps ++ [((.mk k2 f2 t2 u2 x2 s : ej), s')]).map Prod.fst = (zB ⟨k, f, A, u, x, a, b⟩).map (zA L):=by
      rw[map_append,hps];simp[zB,N,hTt]
     rw[e2]at hT
     exact hK _ _ _ _ _ _ _ _ T hT ((((E9.trans I).trans z).trans y).ft v Gd |>.bh i)
    .rcases mem_append.1 hq with h|h
     .have q1:=(Q q h).bh B Gd
      have q2:=(q1.pure ((I.trans z).trans y)).ext v Gd
      exact(q2.bh i Gd).mono fun b d=>(m b d).1
     .simp only[mem_singleton]at h;subst h
      have q1:=(hTb.lt.pure y).ext v fun b d hy=>Oi (O9.fg.lt hy) d.1
      exact(q1.bh i fun b d=>⟨Uc,fun hh=>Oi (B.lt b hh) d.1⟩).mono fun b d=>Oi d.1 E9.size
   .have N:(fl k).fw≠2:=by simpa using h
    intro w16 D
    have O16:=O.bh D
    have hT:=fm.HU (S:=fun b=>g.heap.size<=b) (k:=k) (f:=f) (t:=A) (u:=u) (x:=x) O16.fg hxs (fun q hq=>((Q q hq).bh D fun b d=>⟨(m b d).2.1,(m b d).2.2.1⟩).mono fun b d=>(m b d).1) Om
    rw[h1 N]at hT
    exact hK _ _ _ _ _ _ _ _ T hT (E.bh D)
  have hkk:=qW k
  refine⟨fun h=>?_,fun h=>?_⟩
  .have hk1:1<=(fl k).fw:=Oh (ij h)
   intro H3 R o
   have E8:=Z.bh o
   have E17:aq R R.drew:=aj.drew R
   refine⟨fun _=>True,trivial,?_⟩
   rintro _ rfl
   have ha:=W a (by rcases hkk with h|h|h<;>simp[zB,h]<;>omega)
   have hap:=zG.1 ha.1
   refine(ih a.toNat Om a R.drew F rfl (hP.pure (E8.trans E17))).mono ?_
   rintro _ w18 ⟨s',rfl,hTa,U⟩
   generalize hTt:zA L a=ta at *
   have⟨k2,f2,t2,u2,x2,s⟩:=ta
   refine⟨_,_,_,_,_,s',rfl,trivial,U.dy,?_⟩
   intro p6 w19 h19
   have V:aq w18 w19:=aj.bu h19
   refine⟨trivial,?_⟩
   have hs19:=(o.jg E17.dy).jg (U.trans V).dy
   have⟨s2,w20,hr20,hO20,X,hk20,hb20⟩:=(ji.nil (sz:=6) (e:=71) H3 w19).append (P:=prog) (ty:=69) (c:=1) CH hs19 (r:=uF (.mk k2 f2 t2 u2 x2 s) s') (az.fi h19).row rfl (Fh _ _) Sm (by simp[maxLen])
   refine⟨s2,w20,hr20,trivial,hk20,?_⟩
   intro w21 j
   have zd:R.drew.heap.size=R.heap.size:=rfl
   have z18:=U.size
   have z19:=V.size
   have z20:=X.size
   have z21:=j.ext.size
   have E20:=X.mono fun b _ d=>C b d
   have hs2n:∀b,s2.bg b->w19.heap.size<=b:=fun b d=>(hb20 b d).elim (fun h=>(C b h).elim) id
   refine J1 s2 H3 w21 [((.mk k2 f2 t2 u2 x2 s:ej),s')] (fun b=>R.heap.size<=b/\b<w18.heap.size) j.jj ((((E8.trans E17).trans U).trans V).trans E20 |>.bh j) ?_ Sm ?_ ?_ (fun b d=>Oi (hs2n b d) E8.size) (fun _=>Sm) fun hne=>?_
   .have:=hO20.bh j;simpa[sf]using this
   .intro q hq
    simp only[mem_singleton]at hq;subst hq
    exact((hTa.lt.pure V).pure E20).bh j fun b d=>⟨Uc,fun hh=>Oi (o.lt b hh) d.1⟩
   .rintro b ⟨h1,h2⟩
    exact⟨Oh E8.size,Om,fun hh=>Oh (o.lt b hh),fun hh=>Uc⟩
   .rcases hkk with h|h|h
    .omega
    .simp[zB,h,hTt]
    .exact absurd h hne
  .have hk0:(fl k).fw=0:=Oh (il h)
   intro H3 R o
   exact J1 Sl.nil H3 R [] (fun _=>False) o.jj (Z.bh o) (ji.nil _ _) Sm Sm (fun b h=>h.elim) (fun b h=>(C b h).elim) (fun h=>Om) (fun _=>by simp[zB,hk0])
def pJ(x:ej):List Nat->ej
 |[]=>x
 |i :: wi=>match x.fw[i]? with
  |none=>yp
  |some y=>pJ y wi
def vI(k:Int):Bool:=(k==1 ||k==2) ||k==4
def vQ(k:Int):Bool:=vI k ||k==6
def vM(l:gq):Int:=
 if l.ba<1\/l.ba>7\/(l.cj≠0/\l.cj≠1)\/(vI l.ba=ak/\l.cj≠0)\/(vQ l.ba=ak/\l.cf≠⟨#[]⟩)\/(l.gR=ai/\l.ba≠1/\l.ba≠4)then 110 else if l.cf.size>64 then 1 else 0
def rB(x:ej)(ba:Int)(p:List Nat):gq:=
 ⟨ba,if vI ba then x.dr.cj else 0,
  if vQ ba then(pJ (pJ x p) [1,0]).dr.num else if ba==7 then(pJ x [1]).dr.num else(pJ x [0,1]).dr.num,
  if vQ ba then(pJ (pJ x p) [1,1]).dr.cf else⟨#[]⟩,ak⟩
def xB(l:gq)(f:Nat):gq:={ l with gR:=decide (f>0) }
def qw(x:ej)(l:gq)(f:Nat):Bool:=
 decide (vM (xB l f)=0)&&(l.ba==4 ||decide (f≠2))&&jEE (zR (xB l f) (f%2==1)<|f/2==1) x
def yV(x:ej)(l:gq):Nat->Nat->Option gq
 |0,_=>bo
 |n+1,f=>if qw x l f then ab (xB l f)else yV x l n (f+1)
def yB(x:ej)(ba:Int):List (List Nat)->Option gq
 |[]=>bo
 |p :: ps=>match yV x (rB x ba p) 4 0 with
  |some l=>ab l
  |none=>yB x ba ps
def oD:List (List Nat):=[[0],[0,1,0,0],[0,1]]
def uS(x:ej):Nat->Int->Option gq
 |0,_=>bo
 |n+1,k=>match yB x k oD with
  |some l=>ab l
  |none=>uS x n<|k+1
def qV(x:ej):gq×Bool:=match uS x 7 1 with
 |some l=>(l,ai)
 |none=>(xF,ak)
def xQ(L:bw)(t:Int):gq×Bool:=if bj L t=ai/\¬sizeOf L t>40 then qV (zA L t)else(xF,ak)
def FB:Array bk:=#[vb ak,vb ak,vb ak,vs ⟨#[]⟩,vb ai,vb ai,vb ai,vs ⟨#[112,114,111,109,105,115,101]⟩,vb ai,vb ai,vb ak,vs ⟨#[115,105,103,110]⟩,vb ak,vb ak,vb ak,vs ⟨#[97,98,111,114,116]⟩,vb ai,vb ai,vb ai,vs ⟨#[114,101,115,111,108,118,101]⟩,vb ak,vb ak,vb ak,vs ⟨#[116,111,107,101,110]⟩,vb ak,vb ai,vb ak,vs ⟨#[105,110,115,116,101,97,100]⟩,vb ak,vb ak,vb ak,vs ⟨#[102,117,108,108]⟩]
def Sq(w):cl 216 #[] w (fun e w'=>∃r,e=.returned (.agg r)/\(r=FB/\aq w w')):=by
 refine Zz w (fun r w'=>r=FB/\aq w w') ?_;intro f d h1;have c:aq w d:=aj.bu h1;have a:=fp.bf (aj.refl w) h1;have b1:=az.j0 h1;clear h1;refine bx 32 b1 Kf Kf fun w' b E=>?_;exact⟨FB,⟨Kf,b.QX Kf⟩,rfl,c.bf a E⟩
def Ru(l)(P:1<=l.ba/\l.ba<=7)(p){w0 w H wd T}(hB:az w p [vb<|vI l.ba,vb<|vQ l.ba,vb<|l.ba == 1 || l.ba == 4,vs wd] T)(u:¬ H p.block)(C:aq w0 w):
  Cb l.cj l.cf l.gR p w0 H w<|fun x w'=>x=vM l/\aq w0 w':=by
 have⟨k,f,c,x,t⟩:=l
 simp only at *
 have lf:∀{H D:NP} {w w':af},az w p [vb<|vI k,vb<|vQ k,vb<|k==1 ||k==4,vs wd] T->¬H p.block->au w0 H w D w'->¬D p.block/\az w' p [vb<|vI k,vb<|vQ k,vb<|k==1 ||k==4,vs wd] T:=fun hB u hs=>by
  have h:=hs.mn (G:=(·=p.block)) (fun b e=>by subst e;exact⟨hB.lt,u⟩) _ rfl;exact⟨h,hB.ext hs.ext h⟩
 unfold Cb
 have d:(f≠0/\f≠1)\/(vI k=ak/\f≠0)\/(vQ k=ak/\x≠⟨#[]⟩)\/(t=ai/\k≠1/\k≠4)->(110:Int)=vM ⟨k,f,c,x,t⟩:=fun h=>by
  unfold vM;rw[bt];rcases h with h|h|h|h;exact .inr<|.inr<|.inl h;exact .inr<|.inr<|.inr<|.inl h;exact .inr<|.inr<|.inr<|.inr<|.inl h;exact .inr<|.inr<|.inr<|.inr<|.inr h
 refine⟨fun I O M g=>⟨d<|.inl ?_,C.bh g⟩,fun I O M g=>?_⟩
 grind
 have⟨J,y⟩:=lf hB u g
 have L:=C.bh g
 refine⟨_,y.dj,fun V U q=>?_⟩
 have⟨F,z⟩:=lf y J q
 have E:=L.bh q
 refine⟨fun o=>⟨d<|.inr<|.inl ?_,E⟩,fun o=>?_⟩
 rw[Bool.and_eq_true]at o;exact⟨Uc,bne_iff_ne.1 o.2⟩
 have hs:¬(vI k=ak/\f≠0):=fun h=>Gd
 refine⟨_,z.cell (i:=1) rfl,fun Q S r=>?_⟩
 have⟨R,K⟩:=lf z F r
 have s:=E.bh r
 refine⟨fun v=>⟨d<|.inr<|.inr<|.inl ?_,s⟩,fun v=>?_⟩
 grind
 refine⟨_,K.cell (i:=2) rfl,fun n A B a=>⟨d<|.inr<|.inr<|.inr ?_,s.bh a⟩,fun n=>?_⟩
 grind
 have N:¬(t=ai/\k≠1/\k≠4):=fun h=>by
  rw[Bool.and_eq_false_iff]at n;refine n.elim (fun h2=>?_) fun h2=>Uc;have h1:(k==1 ||k==4)=ai:=Gd;rw[Bool.or_eq_true]at h1;exact h1.elim (fun h3=>h.2.1 Uc) fun h3=>h.2.2 Uc
 have j:¬(k<1\/k>7\/(f≠0/\f≠1)\/(vI k=ak/\f≠0)\/(vQ k=ak/\x≠⟨#[]⟩)\/(t=ai/\k≠1/\k≠4)):=Gd
 refine⟨fun m A B a=>⟨?_,s.bh a⟩,fun m A B a=>⟨?_,s.bh a⟩⟩
 have:=ij m
 unfold vM;rw[aw j,bt Uc]
 have:=il m
 unfold vM;rw[aw j,aw Uc]
def zDZ(l w0):cl 158 #[.agg #[vi l.ba,vi l.cj,vu l.c,vs l.cf,vb l.gR]] w0 (XB fun r w'=>r=vM l/\aq w0 w'):=by
 refine w_Y _ _ _ _ _ w0 (fun r w'=>r=vM l/\aq w0 w') ?_;refine⟨fun z t D a=>⟨?_,a.first⟩,fun z t D a=>?_⟩
 .unfold vM;rw[bt];rw[Bool.or_eq_true]at z;exact z.elim Gd fun h=>.inr<|.inl<|ij h
 have F:1<=l.ba/\l.ba<=7:=Gd;have u:=a.first;have zy:∃y,∀w',(Instr.index 300 (.agg FB)<|vi l.ba).run prog w'=.ok (.agg #[vb<|vI l.ba,vb<|vQ l.ba,vb<|l.ba==1 ||l.ba==4,vs y]) w':=by
  have:l.ba=1\/l.ba=2\/l.ba=3\/l.ba=4\/l.ba=5\/l.ba=6\/l.ba=7:=Om;rcases this with e|e|e|e|e|e|e<;>rw[e]
  .exact⟨⟨#[112,114,111,109,105,115,101]⟩,fun w'=>Kf⟩
  .exact⟨⟨#[115,105,103,110]⟩,fun w'=>Kf⟩
  .exact⟨⟨#[97,98,111,114,116]⟩,fun w'=>Kf⟩
  .exact⟨⟨#[114,101,115,111,108,118,101]⟩,fun w'=>Kf⟩
  .exact⟨⟨#[116,111,107,101,110]⟩,fun w'=>Kf⟩
  .exact⟨⟨#[105,110,115,116,101,97,100]⟩,fun w'=>Kf⟩
  .exact⟨⟨#[102,117,108,108]⟩,fun w'=>Kf⟩
 have⟨y,zy⟩:=zy;refine⟨fun _=>True,trivial,?_⟩;rintro x J;have q:aq D x:=by rw[J];exact aj.drew D
 have O:∀b,t b->b<x.heap.size:=fun b N=>Oi (a.lt b N) q.size;refine⟨?_,?_⟩
 .refine(Sq x).mono ?_;rintro _ G ⟨_,rfl,rfl,g⟩;refine⟨_,rfl,trivial,g.dy,_,_,_,_,fun w' _=>zy w',?_⟩;intro w A d;have K:=d.gp;have L:=g.size;have k:¬t w.block:=fun hh=>Uc;refine⟨trivial,(az.j0 d).uy Sm,k,?_⟩;rintro j m;have X:aj (·=w.block) A j:=by rw[m];exact aj.ib _ _ _
  have B:az j w [vb<|vI l.ba,vb<|vQ l.ba,vb<|l.ba==1 ||l.ba==4,vs y] 299:=by rw[m];exact(az.j0 d).store rfl
  have I:=u.size;have H:=q.size;exact Ru l F w B k<|(((u.trans q).trans g).trans<|aj.bu d).bf Om X
 .intro v s i;refine⟨trivial,?_⟩;have M:=i.gp;have C:aq x s:=aj.bu i;have k:¬t v.block:=fun hh=>Uc;refine(Sq s).mono ?_;rintro _ E ⟨_,rfl,rfl,f⟩;have o:=(az.j0 i).pure f;refine⟨_,rfl,trivial,f.dy,_,_,_,_,fun w' _=>zy w',o.uy Sm,k,?_⟩;rintro p n;have X:aj (·=v.block) E p:=by rw[n];exact aj.ib _ _ _
  have B:az p v [vb<|vI l.ba,vb<|vQ l.ba,vb<|l.ba==1 ||l.ba==4,vs y] 299:=by rw[n];exact o.store rfl
  have I:=u.size;have H:=q.size;exact Ru l F v B k<|(((u.trans q).trans C).trans f).bf Om X
abbrev Dl(S:NP)(w:af)(T:ej)(e:fb)(w':af):Prop:=∃s,e=.returned (.agg (uF T s).toArray)/\fm S w' s T/\aq w w'
def DR{S}(w){A sa H3 w3 w4 w5 p o}(f:fm S w sa A)(a:au w bl w H3 w3)(n4:fp w3 o p w4)(c:au w H3 w4 H3 w5):fm S w5 sa A:=by
 have e:=a.first;have g:aq w3 w4:=aj.bu n4;exact(((f.lt.pure e).pure g).ext c.ext fun b d hh=>Oh<|a.old b hh).mono fun b d=>d.1
section
variable {S:NP} (w:af) (hS:∀b,w.heap.size<=b->S b)
include hS
def ym(A B sa sb)(r:fm S w sa A)(hB:fm S w sb B):cl 220 #[.agg (uF A sa).toArray,.agg (uF B sb).toArray] w (Dl S w<|yQ A B):=by
 have⟨k,f,t,u,x,ks⟩:=A;have⟨g,e,h,d,i,c⟩:=B;refine(Uu k f t u x sa g e h d i sb w (fun k' q n m y s w'=>(⟨k',q,n,m,y,0,0⟩:gP)=(yQ (.mk k f t u x ks)<|.mk g e h d i c).dr/\fm S w' s (yQ (.mk k f t u x ks)<|.mk g e h d i c)/\aq w w') ?_).mono ?_
 .intro C D a p o n4 F b;have b4:=n4.gp;have z:=a.first.size;have j:az o p (uF (.mk k f t u x ks) sa++uF (.mk g e h d i c) sb) 71:=az.j0 n4;exact⟨rfl,fm.ru (j.ext b.ext fun hh=>Oh<|a.lt _ hh) (hS _ Om) (DR w r a n4 b)<|DR w hB a n4 b,(a.first.trans (aj.bu n4)).bh b⟩
 .rintro _ w' ⟨k,f,t,u,y,s,rfl,l,v,E⟩;cases l;exact⟨s,rfl,v,E⟩
def BE(n A sa)(l:fm S w sa A):cl 219 #[vi n,.agg (uF A sa).toArray] w (Dl S w<|uO n A):=by
 have⟨k,f,t,u,x,ks⟩:=A;refine(jac n k f t u x sa w (fun k' h i j y s w'=>(⟨k',h,i,j,y,0,0⟩:gP)=(uO n<|.mk k f t u x ks).dr/\fm S w' s (uO n<|.mk k f t u x ks)/\aq w w') ?_).mono ?_
 .intro p q a g c n4 r b;have b4:=n4.gp;have o:=a.first.size;have d:az c g (uF (.mk k f t u x ks) sa) 71:=az.j0 n4;exact⟨rfl,fm.one (d.ext b.ext fun hh=>Oh<|a.lt _ hh) (hS _ Om)<|DR w l a n4 b,(a.first.trans (aj.bu n4)).bh b⟩
 .rintro _ w' ⟨k,f,t,u,y,s,rfl,e,m,E⟩;cases e;exact⟨s,rfl,m,E⟩
def HD(n)(c:n=0\/n=1)(fk A sa)(l:fm S w sa A):cl 218 #[vi n,vb fk,.agg (uF A sa).toArray] w (Dl S w<|yZ n A fk):=by
 have⟨k,f,t,u,x,ks⟩:=A;refine(WN n fk k f t u x sa w (fun k' h i j y s w'=>(⟨k',h,i,j,y,0,0⟩:gP)=(yZ n (.mk k f t u x ks) fk).dr/\fm S w' s (yZ n (.mk k f t u x ks) fk)/\aq w w') ?_).mono ?_
 .intro p q a g d n4 r b;have b4:=n4.gp;have o:=a.first.size;have e:az d g (uF (.mk k f t u x ks) sa) 71:=az.j0 n4;refine⟨?_,fm.one (e.ext b.ext fun hh=>Oh<|a.lt _ hh) (hS _ Om)<|DR w l a n4 b,(a.first.trans (aj.bu n4)).bh b⟩;have:q6.wrap (1-n)=1-n:=IntWalk.i64_in _ Om;rw[this];cases fk<;>rfl
 .rintro _ w' ⟨k,f,t,u,y,s,rfl,c,m,E⟩;cases c;exact⟨s,rfl,m,E⟩
def UK(c x):cl 217 #[vu c,vs x] w (Dl S w<|qQ c x):=by
 refine(Yl c x w (fun k f t u y s w'=>(⟨k,f,t,u,y,0,0⟩:gP)=(qQ c x).dr/\fm S w' s (qQ c x)/\aq w w') ?_).mono ?_
 .intro p e a;have l:=a.first;have A:=l.size;have B:∀b,p b->b<e.heap.size:=fun b r=>a.lt b r;refine(ym (S:=(e.heap.size<=·)) e (fun _ h=>h) (ot c) (qS x) Sl.nil Sl.nil fm.leaf fm.leaf).mono ?_;rintro _ z ⟨n,rfl,j,g⟩;refine⟨_,_,_,_,_,n,rfl,g.dy,?_⟩;refine(ym (S:=(e.heap.size<=·)) z (fun b h=>by have:=g.size;show e.heap.size<=b;omega) (qS rN) (yQ (ot c)<|qS x) Sl.nil n fm.leaf j).mono ?_;rintro _ C ⟨q,rfl,i,m⟩;refine⟨_,_,_,_,_,q,rfl,m.dy,fun D d=>⟨rfl,?_,((l.trans g).trans m).bh d⟩⟩;exact(i.ext d.ext Gd).mono Gd
 .rintro _ w' ⟨k,f,t,u,y,s,rfl,o,v,E⟩;cases o;exact⟨s,rfl,v,E⟩
end
def zHT(l)(hf:l.cj=0\/l.cj=1)(w0):cl 159 #[.agg #[vi l.ba,vi l.cj,vu l.c,vs l.cf,vb l.gR]] w0 (Dl (w0.heap.size<=·) w0<|zR l ai ai):=by
 have⟨kd,f,c,x,fk⟩:=l;simp only at hf;generalize M:zR ⟨kd,f,c,x,fk⟩ ai ai=R;refine(jbM kd f c x fk w0 (fun k f t u y s w'=>(⟨k,f,t,u,y,0,0⟩:gP)=R.dr/\fm (w0.heap.size<=·) w' s R/\aq w0 w') ?_).mono ?_
 .intro H2 w2 hs2;have E2:=hs2.first;have z2:=E2.size;refine (UK (S:=(w2.heap.size<=·)) w2 (fun _ h=>h) c x).mono ?_;rintro _ w3 ⟨Q,rfl,hT3,E3⟩;refine⟨_,_,_,_,_,Q,rfl,E3.dy,?_⟩;have z3:=E3.size;have U:∀{v:NP} {i:af},au w0 H2 w3 v i->fm (fun b=>w0.heap.size<=b/\¬ v b) i Q (qQ c x)/\aq w0 i/\(∀w:af,i.heap.size<=w.heap.size->∀b,w.heap.size<=b->w0.heap.size<=b/\¬ v b):=fun {v i} hs=>by
   have hd:∀b,(w2.heap.size<=b/\b<w3.heap.size)->¬v b:=hs.mn fun b L=>⟨L.2,fun hh=>Oh<|hs2.lt b hh⟩;refine⟨(hT3.lt.ext hs.ext fun b L=>hd b L).mono Gd,(E2.trans E3).bh hs,fun w hw b L=>⟨Oh hs.ext.size,fun hh=>Oh<|hs.lt b hh⟩⟩
  have fin:∀{v:NP} {wa wb:af} {s:Sl} {T:ej},fm (fun b=>w0.heap.size<=b/\¬v b) wa s T->aq w0 wa->au w0 v wa v wb->T=R->R.dr=R.dr/\fm (w0.heap.size<=·) wb s R/\aq w0 wb:=fun {v wa wb s T} h E hs e=>by
   subst e;exact⟨rfl,(h.ext hs.ext fun b L=>L.2).mono fun b L=>L.1,E.bh hs⟩
  have r:∀{v:NP} {wa wb:af} {s:Sl} {T:ej},fm (fun b=>w0.heap.size<=b/\¬v b) wa s T->aq w0 wa->au w0 v wa v wb->R=T->(⟨T.dr.ba,T.dr.cj,T.dr.to,T.dr.num,T.dr.cf,0,0⟩:gP)=R.dr/\fm (w0.heap.size<=·) wb s R/\aq w0 wb:=fun {v wa wb s T} h E hs e=>by
   subst e;refine⟨?_,(fin h E hs rfl).2⟩;cases R;rfl
  refine⟨fun p v i g=>?_,fun h1=>⟨fun p v i g=>?_,fun h2=>⟨fun p v i g=>?_,fun h3=>⟨fun p v i g=>?_,fun h4=>⟨fun p v i g=>?_,fun h5=>⟨fun p v i g=>?_,fun h6 v i g=>?_⟩⟩⟩⟩⟩⟩
  .have p:=beq_iff_eq.1 p;have⟨J,H,hS⟩:=U g;refine(HD i (hS i<|Nat.le_refl _) f hf fk _ Q J).mono ?_;rintro _ w6 ⟨s6,rfl,W,E6⟩;refine⟨_,_,_,_,_,s6,rfl,E6.dy,fun w7 O=>r W (H.trans E6) O ?_⟩;rw[<-M];unfold zR;rw[bt p]
  .have p:=beq_iff_eq.1 p;have⟨J,H,hS⟩:=U g;refine(BE i (hS i<|Nat.le_refl _) f _ Q J).mono ?_;rintro _ w6 ⟨s6,rfl,W,E6⟩;refine⟨_,_,_,_,_,s6,rfl,E6.dy,fun w7 O=>r W (H.trans E6) O ?_⟩;rw[<-M];unfold zR;rw[aw Gd,bt p]
  .have p:=beq_iff_eq.1 p;have⟨J,H,hS⟩:=U g;refine⟨fun _=>True,trivial,?_⟩;rintro n G;have j:aq i n:=by rw[G];exact aj.drew i
   refine(zb _ n).mono ?_;rintro _ B ⟨rfl,a⟩;refine⟨_,_,_,_,_,_,rfl,trivial,a.dy,?_⟩;refine(FL _ B).mono ?_;rintro _ D ⟨rfl,m⟩;refine⟨_,_,_,_,_,_,rfl,m.dy,?_⟩;have I:=((j.trans a).trans m).size;refine(ym D (hS D I) (qS rQ) (ot c) Sl.nil Sl.nil fm.leaf fm.leaf).mono ?_;rintro _ A ⟨z,rfl,q,d⟩;refine⟨_,_,_,_,_,z,rfl,d.dy,?_⟩;refine(BE A (hS A<|Oh d.size) 0 _ z q).mono ?_;rintro _ w14 ⟨K,rfl,F,C⟩;refine⟨_,_,_,_,_,K,rfl,C.dy,fun X o=>r F (((((H.trans j).trans a).trans m).trans d).trans C) o ?_⟩;rw[<-M];unfold zR;rw[aw fun e=>beq_eq_false_iff_ne.1 h1 e,aw Gd,bt p]
  .have p:=beq_iff_eq.1 p;have⟨J,H,hS⟩:=U g;refine⟨fun _=>True,trivial,?_⟩;rintro w16 e16;have E16:aq i w16:=by rw[e16];exact aj.drew i
   refine(zb _ w16).mono ?_;rintro _ w17 ⟨rfl,E17⟩;refine⟨_,_,_,_,_,_,rfl,trivial,E17.dy,?_⟩;have N:=E16.trans E17;refine(HD w17 (hS w17 N.size) 0 (.inl rfl) fk _ Q<|J.pure N).mono ?_;rintro _ w18 ⟨s18,rfl,hT18,E18⟩;refine⟨_,_,_,_,_,s18,rfl,trivial,E18.dy,?_⟩;have P:=N.trans E18;refine(HD w18 (hS w18 P.size) 1 (.inr rfl) fk _ Q<|J.pure P).mono ?_;rintro _ w19 ⟨s19,rfl,hT19,V⟩;refine⟨_,_,_,_,_,s19,rfl,trivial,V.dy,?_⟩;have E59:=P.trans V;refine(ym w19 (hS w19 E59.size) _ _ s18 s19 (hT18.pure V) hT19).mono ?_;rintro _ w20 ⟨Z,rfl,hT20,Y⟩;refine⟨_,_,_,_,_,Z,rfl,trivial,Y.dy,?_⟩;have E510:=E59.trans Y;refine(ym w20 (hS w20 E510.size) (qS uG) _ Sl.nil Z fm.leaf hT20).mono ?_;rintro _ w21 ⟨s21,rfl,hT21,E21⟩;refine⟨_,_,_,_,_,s21,rfl,trivial,E21.dy,?_⟩;have E511:=E510.trans E21;refine(BE w21 (hS w21 E511.size) f _ s21 hT21).mono ?_;rintro _ w22 ⟨s22,rfl,hT22,E22⟩;refine⟨_,_,_,_,_,s22,rfl,E22.dy,fun w23 hs23=>r hT22 ((H.trans E511).trans E22) hs23 ?_⟩;rw[<-M];unfold zR;rw[aw fun e=>beq_eq_false_iff_ne.1 h1 e,aw fun e=>beq_eq_false_iff_ne.1 h2 e,aw Gd,bt p];simp only[Bool.and_true]
  .have p:=beq_iff_eq.1 p;have⟨J,H,hS⟩:=U g;refine⟨fun _=>True,trivial,?_⟩;rintro n G;have j:aq i n:=by rw[G];exact aj.drew i
   refine(zb _ n).mono ?_;rintro _ B ⟨rfl,a⟩;refine⟨_,_,_,_,_,_,rfl,trivial,a.dy,?_⟩;refine(FL _ B).mono ?_;rintro _ D ⟨rfl,m⟩;refine⟨_,_,_,_,_,_,rfl,m.dy,?_⟩;have I:=((j.trans a).trans m).size;refine(ym D (hS D I) (qS yU) (ot c) Sl.nil Sl.nil fm.leaf fm.leaf).mono ?_;rintro _ A ⟨z,rfl,q,d⟩;refine⟨_,_,_,_,_,z,rfl,d.dy,?_⟩;refine(BE A (hS A<|Oh d.size) 2 _ z q).mono ?_;rintro _ w14 ⟨K,rfl,F,C⟩;refine⟨_,_,_,_,_,K,rfl,C.dy,fun X o=>r F (((((H.trans j).trans a).trans m).trans d).trans C) o ?_⟩;rw[<-M];unfold zR;rw[aw fun e=>beq_eq_false_iff_ne.1 h1 e,aw fun e=>beq_eq_false_iff_ne.1 h2 e,aw fun e=>beq_eq_false_iff_ne.1 h3 e,aw fun e=>beq_eq_false_iff_ne.1 h4 e,bt p]
  .have p:=beq_iff_eq.1 p;have⟨J,H,hS⟩:=U g;refine⟨fun _=>True,trivial,?_⟩;rintro n G;have j:aq i n:=by rw[G];exact aj.drew i
   refine(zb _ n).mono ?_;rintro _ B ⟨rfl,a⟩;refine⟨_,_,_,_,_,_,rfl,trivial,a.dy,?_⟩;have z11:=(j.trans a).size;refine(ym B (hS B z11) (qS uH) _ Sl.nil Q fm.leaf<|J.pure<|j.trans a).mono ?_;rintro _ A ⟨z,rfl,q,d⟩;refine⟨_,_,_,_,_,z,rfl,d.dy,?_⟩;refine(BE A (hS A<|Oh d.size) 2 _ z q).mono ?_;rintro _ w14 ⟨K,rfl,F,C⟩;refine⟨_,_,_,_,_,K,rfl,C.dy,fun X o=>r F ((((H.trans j).trans a).trans d).trans C) o ?_⟩;rw[<-M];unfold zR;rw[aw fun e=>beq_eq_false_iff_ne.1 h1 e,aw fun e=>beq_eq_false_iff_ne.1 h2 e,aw fun e=>beq_eq_false_iff_ne.1 h3 e,aw fun e=>beq_eq_false_iff_ne.1 h4 e,aw Gd,bt p]
  .have⟨J,H,hS⟩:=U g;refine⟨fun _=>True,trivial,?_⟩;rintro n G;have j:aq i n:=by rw[G];exact aj.drew i
   refine(zb _ n).mono ?_;rintro _ B ⟨rfl,a⟩;refine⟨_,_,_,_,_,_,rfl,trivial,a.dy,?_⟩;refine(FL _ B).mono ?_;rintro _ D ⟨rfl,m⟩;refine⟨_,_,_,_,_,_,rfl,m.dy,?_⟩;have I:=((j.trans a).trans m).size;refine(ym D (hS D I) (qS y0) (ot c) Sl.nil Sl.nil fm.leaf fm.leaf).mono ?_;rintro _ A ⟨z,rfl,q,d⟩;refine⟨_,_,_,_,_,z,rfl,d.dy,fun X o=>r q ((((H.trans j).trans a).trans m).trans d) o ?_⟩;rw[<-M];unfold zR;rw[aw fun e=>beq_eq_false_iff_ne.1 h1 e,aw fun e=>beq_eq_false_iff_ne.1 h2 e,aw fun e=>beq_eq_false_iff_ne.1 h3 e,aw fun e=>beq_eq_false_iff_ne.1 h4 e,aw fun e=>beq_eq_false_iff_ne.1 h5 e,aw Gd]
 .rintro _ w' ⟨k,f,t,u,y,s,rfl,hn,hT,E⟩;have⟨k2,f2,t2,u2,x2,ks⟩:=R;cases hn;exact⟨s,rfl,hT,E⟩
def R0{l}(h:vM l=0):l.cj=0\/l.cj=1:=by
 unfold vM at h;split at h;cases h;grind
def zC(L:bw)(l:gq):Int×Int×bw:=if vM l≠0 then(0,vM l,L)else of L (zR l ai ai)
def zMI(p l w0){L F}(n:zH w0 p L F)(k:Ok L):
  cl 104 #[vp<|ab p,.agg #[vi l.ba,vi l.cj,vu l.c,vs l.cf,vb l.gR]] w0<|XK fun r1 r2 w'=>r1=(zC L l).1/\r2=(zC L l).2.1/\∃F',zH w' p (zC L l).2.2 F'/\aj F w0 w'/\∀b,F' b->F b\/w0.heap.size<=b:=by
 refine jcH (ab p) l.ba l.cj l.c l.cf l.gR w0 _ ?_
 intro K H i
 have J:=i.first
 have D:∀b,F b->b<w0.heap.size:=fun b a=>n.lt a
 refine(zDZ l H).mono ?_
 rintro _ v ⟨_,rfl,rfl,u⟩
 have d:=J.trans u
 refine⟨_,rfl,u.dy,fun f=>?_,fun f=>⟨fun h=>Uc,fun _=>?_⟩⟩
 .have f:=bne_iff_ne.1 f
  have e:zC L l=(0,vM l,L):=by unfold zC;rw[bt f]
  rw[e];exact⟨rfl,rfl,F,n.pure d,aj.pure d,fun b a=>.inl a⟩
 .have f:vM l=0:=by simpa using f
  have e:zC L l=of L (zR l ai ai):=by unfold zC;rw[aw<|by simpa using f]
  rw[e]
  refine(zHT l (R0 f) v).mono ?_
  rintro _ E ⟨t,o,q,w⟩
  generalize zR l ai ai=T at *
  have⟨C,A,x,B,z,m⟩:=T
  have o:=o
  refine⟨C,A,x,B,z,t,o,w.dy,?_⟩
  have g:=d.trans w
  refine(QG (S:=fun b=>v.heap.size<=b/\b<E.heap.size) p (.mk C A x B z m) t E q.lt (n.pure g) k (fun b a hh=>Oi (D b a) d.size) fun b a=>a.2).mono ?_
  rintro _ M ⟨r1,r2,rfl,r,F',j,y,s⟩
  have⟨G,I⟩:=Prod.mk.inj r
  refine⟨r1,r2,rfl,y.ff fun b a hh=>Oi (i.old b a)<|D b hh,G,I,F',j,(aj.pure g).trans y,fun b a=>(s b a).imp id fun h=>Oh g.size⟩
def uR{L}(h:Wf L)(l):Wf (Go.Proofs.zC L l).2.2:=by
 unfold Go.Proofs.zC;split;exact h;exact Hu h _
def Ra(l):Dh l.ba l.cj l.c l.cf l.gR=vM l:=by
 have⟨k,f,c,x,g⟩:=l;unfold Dh vM;have i:po k=vI k:=rfl;rw[i];have d:(vI k ||k==6)=vQ k:=rfl;rw[d];have j:decide (((x.size:Int))>64)=decide (x.size>64):=decide_eq_decide.2 Om;rw[j];generalize vI k=a;generalize vQ k=b;have e:((((((decide (k<1)) ||(decide (k>7))) ||(((f:Int) !=0)&&((f:Int) !=1))) ||((!a)&&((f:Int) !=0))) ||((!b)&&(!(decide (x=(⟨#[]⟩:ByteArray)))))) ||((g&&((k:Int) !=1))&&((k:Int) !=4)))=decide (k<1\/k>7\/(f≠0/\f≠1)\/(a=ak/\f≠0)\/(b=ak/\x≠⟨#[]⟩)\/(g=ai/\k≠1/\k≠4)):=Gd;rw[e];by_cases h:(k<1\/k>7\/(f≠0/\f≠1)\/(a=ak/\f≠0)\/(b=ak/\x≠⟨#[]⟩)\/(g=ai/\k≠1/\k≠4));grind;grind
def wi(p:List Nat):List (List bk):=p.map fun i:Nat=>[bk.int .i64 (i:Int)]
def Il{S S2}(x s sp p w0)(hT:fm S w0 s x)(Q:∀b,S b->b<w0.heap.size)(hp:gr S2 w0 1 sp (wi p))(L:∀b,S2 b->b<w0.heap.size)(hpl:p.length<=100):
  cl 165 #[.agg (uF x s).toArray,sp.v] w0<|fun e w'=>∃s',e=.returned (.agg (uF (pJ x p) s').toArray)/\fm S w0 s' (pJ x p)/\aq w0 w':=by
 have⟨k,f,t,u,I,ks⟩:=x
 suffices key:∀K:Int->Int->Int->Int->ByteArray->Sl->WP,(∀k' n m l g s' w' c,pJ (.mk k f t u I ks) p=.mk k' n m l g c->fm S w0 s' (.mk k' n m l g c)->aq w0 w'->K k' n m l g s' w')->Oc k f t u I s sp w0 K by
  refine(jdr _ _ _ _ _ _ _ w0 (fun k' n m l g s' w'=>∃c,pJ (.mk k f t u I ks) p=.mk k' n m l g c/\fm S w0 s' (.mk k' n m l g c)/\aq w0 w')<|key _ Gd).mono ?_;rintro _ w' ⟨k',n,m,l,g,s',rfl,c,h1,h2,h3⟩;rw[h1];exact⟨s',rfl,h2,h3⟩
 intro K hK
 have w:sp.ay=p.length:=by rw[hp.ay];simp[wi]
 intro H2 w2 N
 refine⟨fun i _ _ _ _ _ _ k' n m l g s' H w'=>∃j:Nat,i=j/\j<=p.length/\aq w0 w'/\∃c,fm S w0 s' (.mk k' n m l g c)/\pJ (.mk k f t u I ks) p=pJ (.mk k' n m l g c) (p.drop j),fun i _ _ _ _ _ _ _ _ _ _ _ _ _=>((p.length:Int)-i).toNat,
  ⟨0,rfl,Nat.zero_le _,N.first,ks,hT,rfl⟩,?_⟩
 rintro _ _ _ _ _ _ _ k' n m l g s' Hl wl hl ⟨j,rfl,hj,V,c,z,d⟩
 refine⟨fun J=>?_,fun J=>?_⟩
 .have q:=vA w J
  rw[drop_eq_getElem_cons q,pJ]at d
  have B:∀w',aq w0 w'->∃a,At sp j 1 a/\S2 a.block/\w'.cell? a=ab (.int .i64 (p[j]:Int)):=by
   intro w' E;have⟨a,h1,h2,h3⟩:=(hp.pure E).mv (f:=fun i:Nat=>[bk.int .i64 (i:Int)]) (xs:=p) q;exact⟨a,h1,h2,y9 h3⟩
  have⟨a,C,_,_⟩:=B wl V
  refine⟨a,C,?_⟩
  intro w3 F
  have G:=V.bh F
  have hs3':=F.jj
  have⟨a1,r,P,D⟩:=B w3 G
  have Z:a1=a:=by
   obtain⟨_,_,x,hx,rfl⟩:=C;obtain⟨_,_,y,hy,rfl⟩:=r;rw[hx]at hy;cases hy;rfl
  subst Z
  have hl':s'.ay=c.length:=by cases z;assumption
  refine⟨_,D,fun h=>?_,fun h=>?_⟩
  .have : c[p[j]]? = bo:=by
    have h:=ij h;exact getElem?_eq_none Om
   rw[show(ej.mk k' n m l g c).fw=c from rfl,this]at d
   intro w4 U
   exact hK _ _ _ _ _ _ _ _ d fm.leaf<|G.bh U
  .have o:p[j]<c.length:=by have h:=il h;omega
   rw[show(ej.mk k' n m l g c).fw=c from rfl,getElem?_eq_getElem o]at d
   have hd:∀b,S b->¬Hl b:=fun b X hh=>Oi (hl.old b hh)<|Q b X
   have T:∀b,S2 b->¬Hl b:=fun b X hh=>Oi (hl.old b hh)<|L b X
   cases z with
   |mk _ _ _ _ _ _ _ rs ay fit row ku =>
   have⟨a3,A,R,M⟩:=row _ o
   refine⟨a1,r,_,D,T _ P,a3,A,_,_,_,_,_,rs p[j],G.row M id,hd _ R,?_⟩
   intro H3 w7 W
   rw[zI q Om]
   refine⟨⟨j+1,rfl,q,G.bh W,c[p[j]].fw,?_,?_⟩,vT q⟩
   .have:=ku _ o
    generalize c[p[j]]=y at *
    have⟨_,_,_,_,_,_⟩:=y
    exact this
   .rw[d]
    generalize c[p[j]]=y
    have⟨_,_,_,_,_,_⟩:=y
    rfl
 .have O:=vH w hj J
  subst O
  rw[drop_length]at d
  intro w9 Y
  exact hK _ _ _ _ _ _ _ _ d z<|V.bh Y
def On:∀j:Nat,j<4->∀w,(Go.binOp .rem 3 (vi (j:Int))<|vi 2).run prog w=.ok (vi ((j%2:Nat):Int)) w
 |0,_,w=>Kf
 |1,_,w=>Kf
 |2,_,w=>Kf
 |3,_,w=>Kf
 |n+4,h,_=>Om
def Mq:∀j:Nat,j<4->∀w,(Go.binOp .quo 3 (vi (j:Int))<|vi 2).run prog w=.ok (vi ((j/2:Nat):Int)) w
 |0,_,w=>Kf
 |1,_,w=>Kf
 |2,_,w=>Kf
 |3,_,w=>Kf
 |n+4,h,_=>Om
def gr.D8{w p T}(ts)(h:az w p (ts.map fun t:Nat=>bk.int .i64 (t:Int)) T):gr (·=p.block) w 1 ⟨ab p,ts.length,ts.length⟩ (wi ts):=by
 refine⟨by simp[wi],fun i hi=>?_⟩;have b:i<ts.length:=by simpa[wi]using hi
 refine⟨p.add<|i*1,⟨Om,Uc,p,rfl,Sm⟩,by rw[zD],fun j c=>?_⟩;have a:j=0:=by simpa[wi]using c
 subst a;have:=h.cell (i:=i) (v:=.int .i64 (ts[i]:Int)) Uc;rw[qN,Nat.mul_one,Nat.add_zero,this];simp[wi]
def fm.sW{S w w' s t}(h:fm S w' s t)(d:aq w w')(e:∀b,S b->b<w.heap.size):fm S w s t:=by
 induction h with
 |mk k f t u x ks s rs ay c row ku g =>
  refine .mk k f t u x ks s rs ay c (fun i h=>let ⟨a,h1,h2,h3⟩:=row i h;⟨a,h1,h2,fun j l=>?_⟩) g
  rw[<-h3 j l]
  unfold af.cell?
  rw[zD,d.ly _ (e _ h2) fun h=>h]
def jIF{S}(x s w0)(hT:fm S w0 s x)(hSw:∀b,S b->b<w0.heap.size):
  cl 114 #[.agg (uF x s).toArray] w0 (YB fun k f c t g r w'=>((⟨k,f,c,t,g⟩:gq),r)=qV x/\aq w0 w'):=by
 obtain⟨xk,xf,xt,xu,xx,ks⟩:=x
 generalize hx:ej.mk xk xf xt xu xx ks=x at *
 have hxr:uF x s=[.int .i64 xk,.int .i64 xf,.int .i64 xt,.int .u64 xu,.string xx,s.v]:=by rw[<-hx];rfl
 have hxn:x.dr.cj=xf:=by rw[<-hx];rfl
 rw[hxr]
 suffices key:∀K:Int->Int->Int->ByteArray->Bool->Bool->WP,(∀k f c t g r w',(((⟨k,f,c,t,g⟩:gq),r)=qV x/\aq w0 w')->K k f c t g r w')->OM xk xf xt xu xx s w0 K from
  V1 _ _ _ _ _ _ w0 _ (key _ fun _ _ _ _ _ _ _ h=>h)
 intro K hK
 have hxv:(bk.agg #[.int .i64 xk,.int .i64 xf,.int .i64 xt,.int .u64 xu,.string xx,s.v])=.agg (uF x s).toArray:=Uc
 have tS:∀{w},aq w0 w->fm S w s x/\∀b,S b->b<w.heap.size:=fun E=>⟨hT.pure E,fun b hb=>Oi (hSw b hb) E.size⟩
 intro H2 w2 hs2 p3 w3 h3 p4 w4 h4 p5 w5 h5 p6 w6 h6
 have E2:=hs2.first
 have b3:=(((az.fi h3).pure (aj.bu h4)).pure (aj.bu h5)).pure (aj.bu h6)
 have b4:=((az.fi h4).pure (aj.bu h5)).pure (aj.bu h6)
 have b5:=(az.fi h5).pure (aj.bu h6)
 have b6:=az.fi h6
 have E6:=(((aj.bu h3:aq w2 w3).trans (aj.bu h4)).trans (aj.bu h5)).trans (aj.bu h6)
 have v3:w2.heap.size<=p3.block:=Oh h3.gp
 have v4:w2.heap.size<=p4.block:=by have:=h4.gp;have:=(aj.bu (F:=bl) h3).size;omega
 have v5:w2.heap.size<=p5.block:=by have:=h5.gp;have:=(aj.bu (F:=bl) h3).size;have:=(aj.bu (F:=bl) h4).size;omega
 have v6:w2.heap.size<=p6.block:=by have:=h6.gp;have:=(aj.bu (F:=bl) h3).size;have:=(aj.bu (F:=bl) h4).size;have:=(aj.bu (F:=bl) h5).size;omega
 let B:WP:=fun w=>az w p3 [.int .i64 0] 3/\az w p4 [.int .i64 0,.int .i64 1,.int .i64 0,.int .i64 0] 3/\az w p5 [.int .i64 0,.int .i64 1] 3/\az w p6 [(Sl.mk (ab p3) 1 1).v,(Sl.mk (ab p4) 4 4).v,(Sl.mk (ab p5) 2 2).v] 42
 let V:NP->Prop:=fun H=>¬H p3.block/\¬H p4.block/\¬H p5.block/\¬H p6.block
 have B6:B w6:=⟨b3,b4,b5,b6⟩
 have V6:V H2:=⟨fun h=>Oh (hs2.lt _ h),fun h=>Oh (hs2.lt _ h),fun h=>Oh (hs2.lt _ h),fun h=>Oh (hs2.lt _ h)⟩
 have Bp:∀{w w'},B w->aq w w'->B w':=fun h E=>⟨h.1.pure E,h.2.1.pure E,h.2.2.1.pure E,h.2.2.2.pure E⟩
 have BV:∀{H w H' w'},B w/\V H->au w0 H w H' w'->B w'/\V H':=by
  rintro H w H' w' ⟨⟨q3,q4,q5,q6⟩,⟨n3,n4,n5,n6⟩⟩ hs;have d:∀(p:ao),p.block<w.heap.size->¬H p.block->¬H' p.block:=fun p h1 h2=>hs.mn (G:=(·=p.block)) Gd _ rfl;have m3:=d p3 q3.lt n3;have m4:=d p4 q4.lt n4;have m5:=d p5 q5.lt n5;have m6:=d p6 q6.lt n6;exact⟨⟨q3.ext hs.ext m3,q4.ext hs.ext m4,q5.ext hs.ext m5,q6.ext hs.ext m6⟩,⟨m3,m4,m5,m6⟩⟩
 refine⟨fun kd _ _ _ _ _ H w'=>∃q:Nat,kd=(q:Int)+1/\q<=7/\aq w0 w'/\(B w'/\V H)/\uS x 7 1=uS x (7-q) ((q:Int)+1),fun kd _ _ _ _ _ _=>(8-kd).toNat,⟨0,rfl,Om,E2.trans E6,⟨B6,V6⟩,rfl⟩,?_⟩
 rintro _ d1 d2 d3 d4 d5 Hl wl hl ⟨q,rfl,hq,El,BVl,heq⟩
 refine⟨fun hc=>?_,fun hc=>?_⟩
 .have hq7:q<7:=Oh (ij hc)
  obtain⟨n,hn⟩:∃n,7-q=n+1:=⟨7-q-1,Om⟩
  have o:uS x (n+1) ((q:Int)+1)=(match yB x ((q:Int)+1) oD with|some l=>ab l|none=>uS x n ((q:Int)+1+1)):=rfl
  rw[hn,o]at heq
  clear o
  generalize hkd:((q:Int)+1)=kd at *
  refine⟨fun i _ _ _ _ _ H w'=>∃j:Nat,i=j/\j<=3/\aq w0 w'/\(B w'/\V H)/\yB x kd oD=yB x kd (oD.drop j),fun i _ _ _ _ _ _=>(3-i).toNat,⟨0,rfl,Om,El,BVl,rfl⟩,?_⟩
  rintro _ d1 d2 d3 d4 d5 Hm wm hm ⟨j,rfl,hj,Em,BVm,z⟩
  refine⟨fun hc2=>?_,fun hc2=>?_⟩
  .have hj3:j<3:=by have:=ij hc2;simp only at this;omega
   have hjd:=hj3
   have o:yB x kd (oD[j] ::oD.drop (j+1))=(match yV x (rB x kd oD[j]) 4 0 with|some l=>ab l|none=>yB x kd (oD.drop (j+1))):=rfl
   rw[drop_eq_getElem_cons hjd,o]at z
   clear o
   generalize hpp:oD[j]=pp at *
   have hpath:∃a:ao,∃sl:Sl,At (Sl.mk (ab p6) 3 3) (j:Int) 1 a/\(∀w,B w->w.cell? a=ab sl.v/\∃S2:NP,gr S2 w 1 sl (wi pp)/\∀b,S2 b->b<w.heap.size):=by
    have hj':j=0\/j=1\/j=2:=Om;rcases hj' with rfl|rfl|rfl
    .have:pp=[0]:=hpp.symm;subst this;refine⟨p6,⟨ab p3,1,1⟩,⟨Om,Sm,p6,rfl,by simp[ao.add]⟩,fun w h=>⟨h.2.2.2.dj,_,gr.D8 [0] h.1,fun b e=>by subst e;exact h.1.lt⟩⟩
    .have:pp=[0,1,0,0]:=hpp.symm;subst this;refine⟨p6.add 1,⟨ab p4,4,4⟩,⟨Om,Sm,p6,rfl,rfl⟩,fun w h=>⟨h.2.2.2.cell rfl,_,gr.D8 [0,1,0,0] h.2.1,fun b e=>by subst e;exact h.2.1.lt⟩⟩
    .have:pp=[0,1]:=hpp.symm;subst this;refine⟨p6.add 2,⟨ab p5,2,2⟩,⟨Om,Sm,p6,rfl,rfl⟩,fun w h=>⟨h.2.2.2.cell rfl,_,gr.D8 [0,1] h.2.2.1,fun b e=>by subst e;exact h.2.2.1.lt⟩⟩
   obtain⟨a,sl,hat,wY⟩:=hpath
   have hppl:pp.length<=100:=by
    have hj':j=0\/j=1\/j=2:=Om;rcases hj' with rfl|rfl|rfl<;>(rw[<-hpp];simp[oD])
   have J3 : ∀ (a1 : ao) (w : af) (P : Sl) (Td : dz), au w0 Hm w Hm w -> aq w0 w -> (B w /\ V Hm) -> az w a1 (uF (pJ x pp) P) Td -> ¬ Hm a1.block -> fm S w0 P (pJ x pp) ->
     Db xk xf xt xu xx s kd j d1 d2 d3 d4 d5 a1 w0 Hm w (fun y'0 y'1 y'2 y'3 y'4 y'5 H' w'=>(∃j:Nat,y'0=j/\j<=3/\aq w0 w'/\(B w'/\V H')/\yB x kd oD=yB x kd (oD.drop j))/\(3-y'0).toNat<(3-(j:Int)).toNat) K:=by
    intro a1 w P Td hs E hBV hB1 hv1 hTd
    unfold Db
    have J4 : ∀ (c : Int) (t : ByteArray) (H : NP) (w : af), au w0 H w H w -> aq w0 w -> (B w /\ V H) -> (⟨kd, cond (po kd) xf 0, c, t, ak⟩ : gq) = rB x kd pp ->
      Dz xk xf xt xu xx s kd j d1 d2 d3 d4 d5 kd (cond (po kd) xf 0) c t ak w0 H w (fun y'0 y'1 y'2 y'3 y'4 y'5 H' w'=>(∃j:Nat,y'0=j/\j<=3/\aq w0 w'/\(B w'/\V H')/\yB x kd oD=yB x kd (oD.drop j))/\(3-y'0).toNat<(3-(j:Int)).toNat) K:=by
     intro c t H w hs E hBV hcand
     generalize hlf:cond (po kd) xf 0=A at *
     rw[<-hcand]at z
     refine⟨fun fk lk lf' lc lt lg _ _ _ _ _ H w'=>(kd=lk/\A=lf'/\c=lc/\t=lt)/\∃f:Nat,fk=f/\f<=4/\aq w0 w'/\(B w'/\V H)/\yV x ⟨kd,A,c,t,ak⟩ 4 0=yV x ⟨kd,A,c,t,ak⟩ (4-f) f,fun fk _ _ _ _ _ _ _ _ _ _ _=>(4-fk).toNat,⟨⟨rfl,rfl,rfl,rfl⟩,0,rfl,Om,E,hBV,rfl⟩,?_⟩
     rintro _ _ _ _ _ lg e1 e2 e3 e4 e5 Hf wf hsf ⟨⟨rfl,rfl,rfl,rfl⟩,f,rfl,hf4,Ef,BVf,J⟩
     refine⟨fun hc3=>?_,fun hc3=>?_⟩
     .have hf:f<4:=Oh (ij hc3)
      obtain⟨m,hm'⟩:∃m,4-f=m+1:=⟨4-f-1,Om⟩
      have o:yV x ⟨kd,A,c,t,ak⟩ (m+1) f=(if qw x ⟨kd,A,c,t,ak⟩ f then ab (xB ⟨kd,A,c,t,ak⟩ f)else yV x ⟨kd,A,c,t,ak⟩ m (f+1)):=rfl
      rw[hm',o]at J
      clear o
      intro O hs14
      have E14:=Ef.bh hs14
      have BV14:=BV BVf hs14
      have hd14:aq O O.drew:=aj.drew O
      refine⟨fun w'=>aq O w',hd14,?_⟩
      rintro _ rfl
      have hfd:decide ((f:Int)>0)=decide (f>0):=decide_eq_decide.2 Om
      rw[hfd]
      refine(LJ kd A c t (decide (f>0)) O.drew).mono ?_
      rintro _ w16 ⟨rfl,E16⟩
      rw[Ra ⟨kd,A,c,t,decide (f>0)⟩]
      have Ed:=hd14.trans E16
      refine⟨_,rfl,Ed,E16.dy,?_⟩
      have hwf:xB ⟨kd,A,c,t,ak⟩ f=⟨kd,A,c,t,decide (f>0)⟩:=rfl
      have next:∀w',aq O w'->qw x ⟨kd,A,c,t,ak⟩ f=ak->((((kd=kd/\A=A/\c=c/\t=t)/\∃f':Nat,q6.wrap ((f:Int)+1)=f'/\f'<=4/\aq w0 w'/\(B w'/\V Hf)/\yV x ⟨kd,A,c,t,ak⟩ 4 0=yV x ⟨kd,A,c,t,ak⟩ (4-f') f'))/\(4-q6.wrap ((f:Int)+1)).toNat<(4-(f:Int)).toNat):=by
       intro w' E' hno;rw[hno,aw Sm]at J;rw[zI hf Om];exact⟨⟨⟨rfl,rfl,rfl,rfl⟩,f+1,rfl,hf,E14.trans E',⟨Bp BV14.1 E',BV14.2⟩,Uc⟩,Om⟩
      have found:∀w',aq w0 w'->qw x ⟨kd,A,c,t,ak⟩ f=ai->K kd A c t (decide (f>0)) ai w':=by
       intro w' E' hyes;rw[hyes,bt rfl,hwf]at J;rw[J]at z;rw[z]at heq;exact hK _ _ _ _ _ _ _ ⟨by unfold qV;rw[heq],E'⟩
      have cmp : ∀ w, aq O w -> vM ⟨kd, A, c, t, decide (f > 0)⟩ = 0 -> (kd == 4 || decide (f ≠ 2)) = ai ->
        cl 25 #[.agg #[.int .i64 kd,.int .i64 A,.int .u64 c,.string t,.bool (decide (f>0))],.bool (((f%2:Nat):Int)==1),.bool (((f/2:Nat):Int)==1)] w (XZ fun rKind1 rFrom1 rTo1 rNum1 rText1 rKids1 N=>aq O N/\av Hf w N /\
         cl 169 #[.agg #[(.int .i64 rKind1),(.int .i64 rFrom1),(.int .i64 rTo1),(.int .u64 rNum1),(.string rText1),rKids1.v],.agg #[.int .i64 xk,.int .i64 xf,.int .i64 xt,.int .u64 xu,.string xx,s.v]] N (XC fun r2 w18=>aq O w18/\av Hf N w18/\r2=qw x ⟨kd,A,c,t,ak⟩ f)):=by
       intro w Ew Q hk4
       have hfr:A=0\/A=1:=by
        unfold vM at Q;simp only at Q;split at Q
        .cases Q
        .grind
       have hb1:(((f%2:Nat):Int)==1)=(f%2==1):=Uc
       have hb2:(((f/2:Nat):Int)==1)=(f/2==1):=Uc
       rw[hb1,hb2]
       refine(Mp w.heap.size kd A c t (decide (f>0)) (f%2==1) (f/2==1) w (Nat.le_refl _) hfr).mono ?_
       rintro _ N ⟨s',rfl,hT',T⟩
       generalize hLT:zR ⟨kd,A,c,t,decide (f>0)⟩ (f%2==1) (f/2==1)=LT at *
       obtain⟨lk,lff,lt,lu,lx,lks⟩:=LT
       refine⟨_,_,_,_,_,s',rfl,Ew.trans T,T.dy,?_⟩
       rw[hxv]
       have E017:=(E14.trans Ew).trans T
       refine(jSH (S:=fun b=>b<N.heap.size) (.mk lk lff lt lu lx lks) x s' s N (hT'.lt.mono fun b hb=>hb.2) ((tS E017).1.mono (tS E017).2) fun b hb=>hb).mono ?_
       rintro _ w18 ⟨r,rfl,hr,C⟩
       refine⟨_,rfl,(Ew.trans T).trans C,C.dy,?_⟩
       unfold qw
       rw[hwf,hLT,hr]
       simp[Q]
       intro _
       simpa using hk4
      refine⟨fun h1=>⟨fun h2=>?_,fun h2=>⟨fun h3=>?_,fun h3=>?_⟩⟩,fun h1=>?_⟩
      .refine⟨_,fun w' _=>On f hf w',_,fun w' _=>Mq f hf w',?_⟩
       refine(cmp w16 Ed Uc Uc).mono ?_
       rintro _ N ⟨_,_,_,_,_,s',rfl,T,K17,h17⟩
       refine⟨_,_,_,_,_,s',rfl,T,K17,?_⟩
       refine h17.mono ?_
       rintro _ w18 ⟨r,rfl,C,K18,hr⟩
       refine⟨_,rfl,C,K18,fun h=>?_,fun h=>next _ C Uc⟩
       intro w19 hs19
       exact found _ ((E14.trans C).bh hs19) Uc
      .refine⟨_,fun w' _=>On f hf w',_,fun w' _=>Mq f hf w',?_⟩
       have hf2:decide (f≠2)=ai:=decide_eq_true Gd
       refine(cmp w16 Ed Uc Uc).mono ?_
       rintro _ N ⟨_,_,_,_,_,s',rfl,T,K17,h17⟩
       refine⟨_,_,_,_,_,s',rfl,T,K17,?_⟩
       refine h17.mono ?_
       rintro _ w18 ⟨r,rfl,C,K18,hr⟩
       refine⟨_,rfl,C,K18,fun h=>?_,fun h=>next _ C Uc⟩
       intro w19 hs19
       exact found _ ((E14.trans C).bh hs19) Uc
      .refine next _ Ed ?_
       have hf2:f=2:=by
        have:(f:Int)=2:=Uc;omega
       unfold qw
       simp only
       rw[h2,hf2];simp
      .refine next _ Ed ?_
       unfold qw
       rw[hwf]
       have:decide (vM ⟨kd,A,c,t,decide (f>0)⟩=0)=ak:=decide_eq_false Uc
       rw[this];rfl
     .have hf:f=4:=Oh (il hc3)
      subst hf
      rw[Nat.sub_self,yV]at J
      rw[J]at z
      simp only at z
      rw[zI hj3 Om]
      exact⟨⟨j+1,rfl,hj3,Ef,BVf,z⟩,Om⟩
    have hsg:po kd=vI kd:=rfl
    have hcf:cond (po kd) xf 0=(rB x kd pp).cj:=by
     rw[hsg];unfold rB;simp only;rw[hxn];cases vI kd<;>rfl
    have L : ∀ (y : ej) (sy : Sl) (u7 : List Nat) (w : af) (p8 : ao) (I : af), aq w0 w -> fm S w0 sy y -> fp w (.cells (u7.map fun t : Nat => bk.int .i64 (t : Int)).toArray 3) p8 I -> u7.length <= 100 ->
      cl 165 #[.agg (uF y sy).toArray,(Sl.mk (ab p8) u7.length u7.length).v] I (fun e w'=>∃s',e=.returned (.agg (uF (pJ y u7) s').toArray)/\fm S I s' (pJ y u7)/\aq I w'):=by
     intro y sy u7 w p8 I E hTy h8 hpl
     have E23:aq w0 I:=E.trans (aj.bu h8)
     exact Il (S2:=(·=p8.block)) y sy _ u7 I (hTy.pure E23) (tS E23).2 (gr.D8 u7 (az.fi h8)) (fun b e=>by subst e;exact(az.fi h8).lt) hpl
    refine⟨fun htx=>?_,fun htx=>⟨fun h7=>?_,fun h7=>?_⟩⟩
    .have htx':vQ kd=ai:=htx
     intro H4 W u
     have X:=E.bh u
     have BV13:=BV hBV u
     have hv13:¬H4 a1.block:=u.mn (G:=(·=a1.block)) (fun b e=>by subst e;exact⟨hB1.lt,hv1⟩) _ rfl
     have B13:=hB1.ext u.ext hv13
     generalize hD:pJ x pp=D at *
     obtain⟨dk,df,dt,du,dx,R⟩:=D
     refine⟨_,_,_,_,_,P,B13.row,?_⟩
     intro p8 I h8
     have E23:aq W I:=aj.bu h8
     refine(L (.mk dk df dt du dx R) P [1,0] W p8 I X hTd h8 Sm).mono ?_
     rintro _ w24 ⟨s1,rfl,_,E24⟩
     generalize hk1:pJ (.mk dk df dt du dx R) [1,0]=y1 at *
     obtain⟨y1k,y1f,y1t,y1u,y1x,y1s⟩:=y1
     refine⟨_,_,_,_,_,s1,rfl,E24.dy,?_⟩
     intro w25 hs25
     have E1324:=E23.trans E24
     have B24:=B13.pure E1324
     have hv25:¬H4 a1.block:=hv13
     have B25:=B24.ext hs25.ext hv25
     refine⟨_,_,_,_,_,P,B25.row,?_⟩
     have E25:=(X.trans E1324).bh hs25
     have BV25:=BV ⟨Bp BV13.1 E1324,BV13.2⟩ hs25
     intro p9 w26 h9
     have E26:aq w25 w26:=aj.bu h9
     refine(L (.mk dk df dt du dx R) P [1,1] w25 p9 w26 E25 hTd h9 Sm).mono ?_
     rintro _ w27 ⟨s2,rfl,_,E27⟩
     generalize hk2:pJ (.mk dk df dt du dx R) [1,1]=y2 at *
     obtain⟨y2k,y2f,y2t,y2u,y2x,y2s⟩:=y2
     refine⟨_,_,_,_,_,s2,rfl,E27.dy,?_⟩
     intro w28 hs28
     have E2527:=E26.trans E27
     refine J4 y1u y2x H4 w28 hs28.jj ((E25.trans E2527).bh hs28) (BV ⟨Bp BV25.1 E2527,BV25.2⟩ hs28) ?_
     rw[hcf]
     unfold rB
     simp only[htx',if_true,hD,hk1,hk2]
     rfl
    .have h7:kd=7:=by simpa using h7
     intro H4 W u
     have X:=E.bh u
     have BV13:=BV hBV u
     intro p10 w29 h10
     have E29:aq W w29:=aj.bu h10
     rw[hxv]
     refine(L x s [1] W p10 w29 X hT h10 Sm).mono ?_
     rintro _ w30 ⟨s1,rfl,_,E30⟩
     generalize hk1:pJ x [1]=y1 at *
     obtain⟨y1k,y1f,y1t,y1u,y1x,y1s⟩:=y1
     refine⟨_,_,_,_,_,s1,rfl,E30.dy,?_⟩
     intro w31 hs31
     have E1330:=E29.trans E30
     refine J4 y1u ⟨#[]⟩ H4 w31 hs31.jj ((X.trans E1330).bh hs31) (BV ⟨Bp BV13.1 E1330,BV13.2⟩ hs31) ?_
     rw[hcf]
     unfold rB
     subst h7
     simp only[hk1]
     rfl
    .have h7:kd≠7:=by simpa using h7
     have htx':vQ kd=ak:=htx
     intro H4 W u
     have X:=E.bh u
     have BV13:=BV hBV u
     intro p11 w32 h11
     have E32:aq W w32:=aj.bu h11
     rw[hxv]
     refine(L x s [0,1] W p11 w32 X hT h11 Sm).mono ?_
     rintro _ w33 ⟨s1,rfl,_,E33⟩
     generalize hk1:pJ x [0,1]=y1 at *
     obtain⟨y1k,y1f,y1t,y1u,y1x,y1s⟩:=y1
     refine⟨_,_,_,_,_,s1,rfl,E33.dy,?_⟩
     intro w34 hs34
     have E1333:=E32.trans E33
     refine J4 y1u ⟨#[]⟩ H4 w34 hs34.jj ((X.trans E1333).bh hs34) (BV ⟨Bp BV13.1 E1333,BV13.2⟩ hs34) ?_
     rw[hcf]
     unfold rB
     have h7b:(kd==7)=ak:=Uc
     simp only[htx',h7b,hk1,Bool.false_eq_true,if_false]
     rfl
   have Edr:aq wm wm.drew:=aj.drew wm
   have Emd:=Em.trans Edr
   have M:=Bp BVm.1 Edr
   refine⟨fun w'=>B w',M,?_⟩
   rintro _ rfl
   refine⟨a,hat,sl,fun w' h=>(wY w' h).1,?_,?_⟩
   .rw[hxv]
    obtain⟨_,S2,hL,hS2⟩:=wY _ M
    refine(Il x s sl pp wm.drew (tS Emd).1 (tS Emd).2 hL hS2 hppl).mono ?_
    rintro _ w36 ⟨P,rfl,hTd,E36⟩
    generalize hD:pJ x pp=D at *
    obtain⟨dk,df,dt,du,dx,R⟩:=D
    refine⟨_,_,_,_,_,P,rfl,E36.dy,?_⟩
    intro p12 w37 U
    have E37:=E36.trans (aj.bu U)
    have b12:=az.fi U
    have Z:¬Hm p12.block:=by intro hh;have:=hm.lt _ hh;have:=U.gp;have:=(Edr.trans E36).size;omega
    have B36:=Bp M E36
    have B37:=Bp M E37
    have hTd0:fm S w0 P (ej.mk dk df dt du dx R):=hTd.sW Emd hSw
    refine⟨B37,b12.uy (n:=6) Sm,Z,?_⟩
    rintro _ rfl
    have E38:=aj.ib w37 p12 [(.int .i64 dk),(.int .i64 df),(.int .i64 dt),(.int .u64 du),(.string dx),P.v]
    have b38:=b12.store (vs:=[(.int .i64 dk),(.int .i64 df),(.int .i64 dt),(.int .u64 du),(.string dx),P.v]) rfl
    exact J3 p12 _ P _ ((hm.jg (Edr.trans E37).dy).jg (E38.ff fun b hb e=>Z (e▸hb))) ((Emd.trans E37).bf (Oi U.gp ((Emd.trans E36).size)) E38) ⟨⟨B37.1.ext E38 (fp.ne U B36.1.bg),B37.2.1.ext E38 (fp.ne U B36.2.1.bg),B37.2.2.1.ext E38 (fp.ne U B36.2.2.1.bg),B37.2.2.2.ext E38 (fp.ne U B36.2.2.2.bg)⟩,BVm.2⟩ b38 Z hTd0
   .rw[hxv]
    intro p13 w39 Y
    have E39:aq wm.drew w39:=aj.bu Y
    have B39:=Bp M E39
    have Em39:=Emd.trans E39
    have b13:=az.fi Y
    have Z:¬Hm p13.block:=by intro hh;have:=hm.lt _ hh;have:=Y.gp;have:=Edr.size;omega
    obtain⟨_,S2,hL,hS2⟩:=wY _ B39
    refine⟨B39,(Il x s sl pp w39 (tS Em39).1 (tS Em39).2 hL hS2 hppl).mono ?_⟩
    rintro _ w40 ⟨P,rfl,hTd,E40⟩
    generalize hD:pJ x pp=D at *
    obtain⟨dk,df,dt,du,dx,R⟩:=D
    have hTd0:fm S w0 P (ej.mk dk df dt du dx R):=hTd.sW Em39 hSw
    have B40:=Bp B39 E40
    have b40:=b13.pure E40
    refine⟨_,_,_,_,_,P,rfl,E40.dy,b40.uy (n:=6) Sm,Z,?_⟩
    rintro _ rfl
    have E41:=aj.ib w40 p13 [(.int .i64 dk),(.int .i64 df),(.int .i64 dt),(.int .u64 du),(.string dx),P.v]
    have b41:=b40.store (vs:=[(.int .i64 dk),(.int .i64 df),(.int .i64 dt),(.int .u64 du),(.string dx),P.v]) rfl
    exact J3 p13 _ P _ ((hm.jg ((Edr.trans E39).trans E40).dy).jg (E41.ff fun b hb e=>Z (e▸hb))) ((Em39.trans E40).bf (Oi Y.gp Emd.size) E41) ⟨⟨B40.1.ext E41 (fp.ne Y M.1.bg),B40.2.1.ext E41 (fp.ne Y M.2.1.bg),B40.2.2.1.ext E41 (fp.ne Y M.2.2.1.bg),B40.2.2.2.ext E41 (fp.ne Y M.2.2.2.bg)⟩,BVm.2⟩ b41 Z hTd0
  .have hj3:j=3:=by have:=il hc2;simp only at this;omega
   subst hj3
   have:oD.drop 3=[]:=rfl
   rw[this,yB]at z
   rw[z]at heq
   simp only at heq
   have hkw:q6.wrap (kd+1)=((q+1:Nat):Int)+1:=by rw[IntWalk.i64_in _ Om];omega
   rw[hkw]
   exact⟨⟨q+1,rfl,hq7,Em,BVm,Uc⟩,Uc⟩
 .have hq7:q=7:=Oh (il hc)
  subst hq7
  rw[Nat.sub_self,uS]at heq
  intro w42 hs42
  exact hK _ _ _ _ _ _ _ ⟨by unfold qV;rw[heq];rfl,El.bh hs42⟩
def OO(p){L}(w:Wf L)(t w0 F)(q:vJ w0 p L F):
  cl 55 #[vp<|ab p,vi t] w0<|YB fun k f c d g r w'=>((⟨k,f,c,d,g⟩:gq),r)=xQ L t/\aq w0 w':=by
 suffices key:∀K:Int->Int->Int->ByteArray->Bool->Bool->WP,(∀k f c d g r w',(((⟨k,f,c,d,g⟩:gq),r)=xQ L t/\aq w0 w')->K k f c d g r w')->Nx (ab p) t w0 K from
  VA _ _ w0 _<|key _ fun _ _ _ _ _ _ _ h=>h
 intro K e
 have i:=w.ok
 intro P C u
 have a:=u.first
 refine(yJ p t C<|q.pure a).mono ?_
 rintro _ l ⟨r,rfl,B,rfl⟩
 refine⟨_,rfl,(aj.refl _:aq l l).dy,fun h=>?_,fun h=>?_⟩
 .intro T v
  refine e _ _ _ _ _ _ _ ⟨?_,a.bh v⟩
  unfold xQ
  rw[aw Gd]
  rfl
 .have n:bj L t=ai:=by rw[<-B];simpa using h
  refine(I1 p t l (q.pure a) i).mono ?_
  rintro _ s ⟨z,rfl,A,rfl⟩
  refine⟨_,rfl,(aj.refl _:aq s s).dy,fun h2=>?_,fun h2=>?_⟩
  .intro U m
   refine e _ _ _ _ _ _ _ ⟨?_,a.bh m⟩
   have h2:=ij h2
   unfold xQ
   rw[aw fun hh=>hh.2<|A▸h2]
   rfl
  .have h2:=il h2
   refine(Zt p w _ t s F rfl (q.pure a)).mono ?_
   rintro _ E ⟨s',rfl,J,y⟩
   generalize G:zA L t=D at *
   have⟨dk,M,O,S,N,H⟩:=D
   refine⟨_,_,_,_,_,s',rfl,y.dy,?_⟩
   refine(jIF _ s' E J.lt fun b I=>I.2).mono ?_
   rintro _ Q ⟨k,f,c,d,g,r,rfl,j,x⟩
   refine⟨_,_,_,_,_,_,rfl,x.dy,?_⟩
   intro R o
   refine e _ _ _ _ _ _ _ ⟨?_,((a.trans y).trans x).bh o⟩
   unfold xQ
   rw[bt ⟨n,A▸h2⟩,G,j]
abbrev ZQ(S:Int×Int×bw)(p:ao)(F:NP)(a w':af):Prop:=∃F',vJ w' p S.2.2 F'/\aj F a w'/\∀b,F' b->F b\/a.heap.size<=b
def Nq(p l w0){L F}(o:vJ w0 p L F)(m:Ok L):
  cl 149 #[vp<|ab p,.agg #[vi l.ba,vi l.cj,vu l.c,vs l.cf,vb l.gR]] w0<|XK fun r1 r2 w'=>r1=(zC L l).1/\r2=(zC L l).2.1/\ZQ (zC L l) p F w0 w':=by
 refine We (ab p) l.ba l.cj l.c l.cf l.gR w0 _ ?_
 rw[Ra l]
 have B:∀b,F b->b<w0.heap.size:=fun b a=>o.lt a
 refine⟨fun g H j hs=>?_,fun g H j hs=>?_⟩
 .have e:zC L l=(0,vM l,L):=by unfold zC;rw[bt<|bne_iff_ne.1 g]
  rw[e];exact⟨rfl,rfl,F,o.pure hs.first,aj.pure hs.first,fun b a=>.inl a⟩
 have g:vM l=0:=Uc
 have e:zC L l=of L (zR l ai ai):=by unfold zC;rw[aw<|by simpa using g]
 rw[e]
 have t:=hs.first
 refine(Mp j.heap.size l.ba l.cj l.c l.cf l.gR ai ai j (Nat.le_refl _)<|R0 g).mono ?_
 rintro _ C ⟨s,i,f,u⟩
 have f:=f
 have i:=i
 generalize zR l ai ai=T at *
 have⟨A,y,v,z,x,n⟩:=T
 have i:=i
 refine⟨A,y,v,z,x,s,i,u.dy,?_⟩
 have d:=t.trans u
 refine(Qo (S:=fun b=>j.heap.size<=b/\b<C.heap.size) p (.mk A y v z x n) s C f.lt (o.pure d) m (fun b a hh=>Oi (B b a) t.size) fun b a=>a.2).mono ?_
 rintro _ G ⟨r1,r2,rfl,q,F',k,w,r⟩
 have⟨D,E⟩:=Prod.mk.inj q
 refine⟨r1,r2,rfl,w.ff fun b a hh=>Oi (hs.old b a)<|B b hh,D,E,F',k,(aj.pure d).trans w,fun b a=>(r b a).imp id fun h=>Oh d.size⟩
def Cg(L G M o):(yI L G M o).2.2.length<=L.length+1:=
 Ei (fun r=>r.2.2.length<=L.length+1) (fun _ _=>Nat.le_succ _) (fun n=>KI L n) G M o
def Ss(G):∀l L M,(vD L G M l).2.2.length<=L.length+l.length
 |[],_,_=>Nat.le_refl _
 |o :: os,L,M=>by
  rw[List.length_cons];have:=Cg L G M o;unfold vD;split;grind;have:=Ss G os (yI L G M o).2.2<|M++[(yI L G M o).1];omega
structure Rl(L M:bw)(s t:Int):Prop where
 l:bj L s=ai
 m:bj M t=ai
 e:zA L s=zA M t
structure NR(L M:bw)(n m:gP):Prop where
 k:n.ba=m.ba
 f:n.cj=m.cj
 t:n.to=m.to
 u:n.num=m.num
 x:n.cf=m.cf
 a:n.a=0/\m.a=0\/Rl L M n.a m.a
 b:n.b=0/\m.b=0\/Rl L M n.b m.b
structure LR(L M:bw)(A B:List Int):Prop where
 l:∀a∈A,bj L a=ai
 m:∀b∈B,bj M b=ai
 e:A.map (zA L)=B.map (zA M)
def Gj(L):bj L 0=ak:=Bool.eq_false_iff.2 fun h=>Oh<|(zG.1 h).1
section
variable {L M X Y:bw} {n m:gP} {s t:Int} {A B G K:List Int} (hL:Wf L) (hM:Wf M)
def Rl.me(h:Rl L M s t)(b:Wf (L++X))(a:Wf (M++Y)):Rl (L++X) (M++Y) s t:=
 ⟨yP h.l,yP h.m,by rw[uI b _ s rfl h.l,uI a _ t rfl h.m,h.e]⟩
def LR.me(h:LR L M A B)(g:Wf (L++X))(f:Wf (M++Y)):LR (L++X) (M++Y) A B:=
 ⟨fun a c=>yP<|h.l a c,fun b d=>yP<|h.m b d,by
  rw[map_congr_left fun a c=>uI g _ a rfl (h.l a c),map_congr_left fun b d=>uI f _ b rfl (h.m b d),h.e]⟩
def LR.te(h:LR L M A B)(r:Rl L M s t):LR L M (A++[s]) (B++[t]):=
 ⟨fun a c=>by rcases mem_append.1 c with c|c;exact h.l a c;simp at c;rw[c];exact r.l,
 fun b d=>by rcases mem_append.1 d with d|d;exact h.m b d;simp at d;rw[d];exact r.m,by simp[h.e,r.e]⟩
def LR.ay(h:LR L M A B):A.length=B.length:=by have:=mu List.length h.e;simpa using this
def LR.at_(h:LR L M A B){i}(a:i<A.length)(b:i<B.length):Rl L M A[i] B[i]:=
 ⟨h.l _<|getElem_mem a,h.m _<|getElem_mem b,by
  have:=mu (fun l=>l[i]?) h.e;simpa[a,b]using this⟩
def LR.nil:LR L M [] []:=⟨Sm,Sm,rfl⟩
def LR.jo(h:LR L M A B)(i):(jo A i=bo/\jo B i=bo)\/∃a b,jo A i=ab a/\jo B i=ab b/\Rl L M a b:=by
 have d:=h.ay;by_cases c:0<=i/\i.toNat<A.length;exact .inr ⟨_,_,vm c.1 c.2,vm c.1 Om,h.at_ c.2 Om⟩;exact .inl ⟨wS Om,wS Om⟩
include hL hM in
def LR.nV(h:LR L M G K)(r:Rl L M s t):LR L M (nV G s) (nV K t):=by
 have:s∈G↔t∈K:=by
  constructor;intro hs;obtain⟨i,hi,rfl⟩:=getElem_of_mem hs;have a:i<K.length:=Oh h.ay;have r2:=h.at_ hi a;rw[yE hM _ t K[i] rfl r.m r2.m (r.e.symm.trans r2.e)];exact getElem_mem a;intro ht;obtain⟨i,hi,rfl⟩:=getElem_of_mem ht;have a:i<G.length:=Oh h.ay;have r2:=h.at_ a hi;rw[yE hL _ s G[i] rfl r.l r2.l (r.e.trans r2.e.symm)];exact getElem_mem a
 unfold Proofs.nV;by_cases hs:s∈G;grind;rw[aw hs,aw fun h=>hs<|this.2 h];exact h.te r
def NR.zero:NR L M uZ uZ:=⟨rfl,rfl,rfl,rfl,rfl,.inl ⟨rfl,rfl⟩,.inl ⟨rfl,rfl⟩⟩
include hL hM
def Rl.dr(r:Rl L M s t):NR L M (ar L s) (ar M t):=by
 have⟨k,f,b,u,x,a⟩:=AX hL hM r.l r.m r.e;have⟨_,a1,a2,_,a3,_⟩:=hL.dr r.l;have⟨_,b1,b2,_,b3,_⟩:=hM.dr r.m;unfold zB at a a3 b3;rw[<-k]at a b1 b2 b3;refine⟨k,f,b,u,x,?_,?_⟩
 all_goals rcases qW (ar L s).ba with e|e|e<;>rw[e]at a a1 a2 a3 b1 b2 b3<;>simp at a a1 a2 a3 b1 b2 b3
 .exact .inl ⟨a1,b1⟩
 .exact .inr ⟨a3.1,b3.1,a⟩
 .exact .inr ⟨a3.1.1,b3.1.1,a.1⟩
 .exact .inl ⟨a2,b2⟩
 .exact .inl ⟨a2,b2⟩
 .exact .inr ⟨a3.2.1,b3.2.1,a.2⟩
def LR.jt(h:LR L M A B)(i):NR L M (jt L A i) (jt M B i):=by
 unfold Proofs.jt;rcases h.jo i with⟨d,c⟩|⟨a,b,d,c,r⟩;rw[d,c];exact NR.zero;rw[d,c];exact r.dr hL hM
omit hL hM in
def NR.fw{α:Type}{φ ψ:Int->α}(r:NR L M n m)(c:φ n.a=ψ m.a)(d:φ n.b=ψ m.b):(zB n).map φ=(zB m).map ψ:=by
 unfold zB;rw[map_take,map_take,r.k];simp[c,d]
def NR.ik(r:NR L M n m):ik L n=ik M m:=by
 have c:∀{a b:Int},a=0/\b=0\/Rl L M a b->(a !=0)=(b !=0)/\bj L a=bj M b/\sizeOf L a=sizeOf M b/\gN L a=gN M b:=fun {a b} h=>by
  rcases h with⟨rfl,rfl⟩|r;have h1:=Gj L;have h2:=Gj M;refine⟨rfl,h1.trans h2.symm,?_,?_⟩;unfold sizeOf;rw[yD h1,yD h2];unfold gN;rw[yD h1,yD h2];have h1:=(zG.1 r.l).1;have h2:=(zG.1 r.m).1;have⟨q,q2⟩:=L6 hL hM _ a b rfl r.l r.m r.e;exact⟨Uc,r.l.trans r.m.symm,q,q2⟩
 have⟨a1,a2,a3,a4⟩:=c r.a;have⟨b1,b2,b3,b4⟩:=c r.b;have j:=r.fw a2 b2;have i:=r.fw a3 b3;have s:=r.fw a4 b4;have g:zM n=zM m:=by unfold zM;rw[r.k,r.f,r.t,r.u,r.x]
 have p:zO (fl m.ba) n=zO (fl m.ba) m:=by unfold zO;rw[r.f,r.t,r.x]
 have o:∀(l:List Int) (P:bw),l.any (fun t=>!bj P t)=(l.map<|bj P).any (!·):=fun l P=>Uc;have v:∀(l:List Int) (P:bw),l.foldl (fun d k=>max d<|gN P k) 0=(l.map<|gN P).foldl max 0:=fun l P=>by rw[foldl_map]
 unfold Proofs.ik;simp only[o,v,j,i,s,g,p,a1,b1,r.k]
omit hL hM in
def MQ(a:(Proofs.ik L n).2.2=0)(b:L.length<65536):(bz L n).2.1=0:=by
 unfold bz;simp only;rw[aw Uc];split;rfl;rw[aw Om]
def RS(r1 r2:rC):Prop:=r1.2.1=r2.2.1/\(r1.2.1=0->Rl r1.2.2 r2.2.2 r1.1 r2.1)
def NR.bz(r:NR L M n m)(p:L.length<65536)(o:M.length<65536):RS (bz L n) (bz M m):=by
 have g:=r.ik hL hM;by_cases h:(Proofs.ik L n).2.2=0;have h1:=MQ h p;have h2:=MQ (g▸h) o;refine⟨h1.trans h2.symm,fun _=>?_⟩;have⟨a1,a2,_⟩:=xH h1;have⟨b1,b2,_⟩:=xH h2;have c:=yG hL n;have d:=yG hM m;refine⟨a1,b1,?_⟩;rw[zW c a1,zW d b1,a2,b2,r.k,r.f,r.t,r.u,r.x];congr 1;have⟨X,i⟩:=qM L n;have⟨Y,l⟩:=qM M m;rw[i]at c|-;rw[l]at d|-;have key:∀{a b:Int},a=0/\b=0\/Rl L M a b->zA (L++X) a=zA (M++Y) b:=fun {a b} h=>by
  rcases h with⟨rfl,rfl⟩|r;rw[Kx<|Gj _,Kx<|Gj _];exact(r.me c d).e
 exact r.fw (key r.a)<|key r.b;have h1:Proofs.bz L n=(0,(Proofs.ik L n).2.2,L):=by unfold Proofs.bz;simp only;rw[bt h]
 have h2:Proofs.bz M m=(0,(Proofs.ik L n).2.2,M):=by unfold Proofs.bz;simp only;rw[<-g,bt h]
 rw[h1,h2];exact⟨rfl,fun j=>absurd j h⟩
omit hL hM in
def RS.no:RS (pG L) (pG M):=⟨rfl,fun h=>by simp[pG]at h⟩
def KX(v:LR L M G K)(i:LR L M A B)(o)(n:L.length<65536)(m:M.length<65536):RS (yI L G A o) (yI M K B o):=by
 have z:∀{x:Int},(x=0/\x=0\/Rl L M x x)\/x≠0:=fun {x}=>Uc;have key:∀mk,(∀k a b,Rl L M a b->NR L M (mk k a) (mk k b))->RS (vV L A o mk) (vV M B o mk):=fun mk q=>by
  unfold vV;have g:=i.jt hL hM o.b;rcases i.jo o.a with⟨c,d⟩|⟨a,b,c,d,r⟩;rw[c,d];exact RS.no;rw[c,d];simp only;rw[g.k,g.f];split;exact(q _ a b r).bz hL hM n m;exact RS.no
 have j:∀s,RS (yW L A o s)<|yW M B o s:=fun s=>by
  unfold yW;have g:=i.jt hL hM o.a;rw[g.k];split;rename_i p;refine⟨rfl,fun _=>?_⟩;have e:=g.k.trans p;have:∃a b,jo A o.a=ab a/\jo B o.a=ab b/\Rl L M a b:=by
   rcases i.jo o.a with⟨c,d⟩|h;rw[Es c]at e;simp[uZ]at e;exact h
  have⟨a,b,c,d,r⟩:=this;have u:Proofs.jt L A o.a=ar L a:=by unfold Proofs.jt;rw[c]
  have t:Proofs.jt M B o.a=ar M b:=by unfold Proofs.jt;rw[d]
  rw[u]at g e|-;rw[t]at g p|-;have ka:=ud hL r.l e;have w:=(zG.1 ka.1.1).1;have C:=(zG.1 ka.2.1).1;cases s;exact g.a.resolve_left fun h=>Om;exact g.b.resolve_left fun h=>Om;exact RS.no
 rcases(show o.code=0\/o.code=1\/o.code=2\/o.code=3\/o.code=4\/o.code=5\/o.code=6\/o.code=7\/o.code=8\/o.code=9\/o.code=10\/o.code=11\/(o.code<0\/11<o.code) by omega)with h|h|h|h|h|h|h|h|h|h|h|h|h;rw[G9 h,G9 h];unfold uW;rcases v.jo o.a with⟨c,d⟩|⟨a,b,c,d,r⟩<;>rw[c,d];exact RS.no;exact⟨rfl,fun _=>r⟩;rw[IS h,IS h];exact NR.bz hL hM ⟨rfl,rfl,rfl,rfl,rfl,.inl ⟨rfl,rfl⟩,.inl ⟨rfl,rfl⟩⟩ n m;rw[Iw h,Iw h];exact NR.bz hL hM ⟨rfl,rfl,rfl,rfl,rfl,.inl ⟨rfl,rfl⟩,.inl ⟨rfl,rfl⟩⟩ n m;rw[Kj h,Kj h];exact NR.bz hL hM ⟨rfl,rfl,rfl,rfl,rfl,.inl ⟨rfl,rfl⟩,.inl ⟨rfl,rfl⟩⟩ n m;rw[Cr h,Cr h];unfold uq;rcases i.jo o.a with⟨c,d⟩|⟨a,b,c,d,r⟩<;>rw[c,d];exact RS.no;simp only;rcases i.jo o.b with⟨c,d⟩|⟨D,E,c,d,y⟩<;>rw[c,d];exact RS.no;exact NR.bz hL hM ⟨rfl,rfl,rfl,rfl,rfl,.inr r,.inr y⟩ n m;rw[ER h,ER h];unfold vg;rcases i.jo o.a with⟨c,d⟩|⟨a,b,c,d,r⟩<;>rw[c,d];exact RS.no;exact NR.bz hL hM ⟨rfl,rfl,rfl,rfl,rfl,.inr r,.inl ⟨rfl,rfl⟩⟩ n m;rw[En h,En h];exact j ak;rw[FZ h,FZ h];exact j ai;rw[Dj h,Dj h];unfold xN;have g:=i.jt hL hM o.a;rw[g.k];split;rename_i p;refine⟨rfl,fun _=>?_⟩;have e:qH (Proofs.jt L A o.a).ba=ai:=by rw[g.k];exact p
 have:∃a b,jo A o.a=ab a/\jo B o.a=ab b/\Rl L M a b:=by
  rcases i.jo o.a with⟨c,d⟩|h;rw[Es c]at e;cases e;exact h
 have⟨a,b,c,d,r⟩:=this;have u:Proofs.jt L A o.a=ar L a:=by unfold Proofs.jt;rw[c]
 have t:Proofs.jt M B o.a=ar M b:=by unfold Proofs.jt;rw[d]
 rw[u]at g e|-;rw[t]at g p|-;have w:=(zG.1 (xo hL r.l e).1).1;exact g.a.resolve_left fun h=>Om;exact RS.no;rw[Cv h,Cv h];exact key _ fun k a b r=>⟨rfl,rfl,rfl,rfl,rfl,.inr r,.inl ⟨rfl,rfl⟩⟩;rw[Di h,Di h];exact key _ fun k a b r=>⟨rfl,rfl,rfl,rfl,rfl,.inr r,.inl ⟨rfl,rfl⟩⟩;rw[BC h,BC h];exact key _ fun k a b r=>⟨rfl,rfl,rfl,rfl,rfl,.inr r,.inl ⟨rfl,rfl⟩⟩;rw[GI h,GI h];exact RS.no
end
def Pw(q):∀l L bf,(zS q l L bf).1.length<=L.length+l.length
 |[],L,_=>Nat.le_refl _
 |z :: l,L,bf=>by
  obtain⟨x,e,c,d⟩:∃x e c,bz L { ar q z with a:=bf (ar q z).a,b:=bf (ar q z).b }=(x,e,c):=⟨_,_,_,rfl⟩;have h1:=DL L { ar q z with a:=bf (ar q z).a,b:=bf (ar q z).b };rw[d]at h1;rw[qB q z l L bf rfl d,length_cons];simp only at h1;split;simp only;omega;have:=Pw q l c fun y=>if y=z then x else bf y;omega
def KK:∀(l:List Op) {L M:bw} {G K A B:List Int},Wf L->Wf M->LR L M G K->LR L M A B->L.length+l.length<=65536->M.length+l.length<=65536 ->
  (vD L G A l).2.1=(vD M K B l).2.1/\(vD L G A l).1.length=(vD M K B l).1.length/\LR (vD L G A l).2.2 (vD M K B l).2.2 G K/\((vD L G A l).2.1=0->LR (vD L G A l).2.2 (vD M K B l).2.2 (vD L G A l).1 (vD M K B l).1)
 |[],_,_,_,_,_,_,_,_,f,a,_,_=>⟨rfl,a.ay,f,fun _=>a⟩
 |o :: l,L,M,G,K,A,B,hL,hM,f,a,n,m=>by
  rw[length_cons]at n m;have⟨e,r⟩:=KX hL hM f a o Om Om;have p:=Cg L G A o;have q:=Cg M K B o;have b:=xw hL G A o;have d:=xw hM K B o;have⟨X,j⟩:=xy L G A o;have⟨Y,k⟩:=xy M K B o;have c:LR (yI L G A o).2.2 (yI M K B o).2.2 G K:=by rw[j]at b|-;rw[k]at d|-;exact f.me b d
  have i:LR (yI L G A o).2.2 (yI M K B o).2.2 A B:=by rw[j]at b|-;rw[k]at d|-;exact a.me b d
  unfold vD;rw[<-e];split;rename_i g;exact⟨rfl,a.ay,c,fun h=>absurd h g⟩;rename_i g;exact KK l b d c (i.te<|r<|Classical.byContradiction g) Om Om
section
variable {L M:bw} {s t:Int} {G K:List Int} (hL:Wf L) (hM:Wf M)
include hL hM
def QZ(b:LR L M G K)(l)(h:L.length+l.length<=65536)(f:M.length+l.length<=65536):
  (zT L G l).2.1=(zT M K l).2.1/\(zT L G l).2.2.1=(zT M K l).2.2.1/\LR (zT L G l).2.2.2 (zT M K l).2.2.2 G K/\((zT L G l).2.1=0->Rl (zT L G l).2.2.2 (zT M K l).2.2.2 (zT L G l).1 (zT M K l).1):=by
 have⟨d,k,g,c⟩:=KK l hL hM b LR.nil h f
 have j:=EI G l L []
 unfold zT
 by_cases h1:l.length>256
 grind
 rw[aw h1,aw h1]
 by_cases h2:l.length=0
 grind
 rw[aw h2,aw h2,<-d]
 by_cases h3:(vD L G [] l).2.1≠0
 grind
 rw[aw h3,aw h3]
 have h3:=Classical.byContradiction h3
 have e:=c h3
 have a:=j.2 h3
 rw[length_nil,Nat.zero_add]at a
 refine⟨rfl,rfl,g,fun _=>?_⟩
 simp only
 generalize (vD L G [] l).1=A at *
 generalize (vD M K [] l).1=B at *
 have hB:B.length=l.length:=Uc
 rw[getLast?_eq_getElem?,getLast?_eq_getElem?,getElem?_eq_getElem Om,getElem?_eq_getElem Om]
 simp only[Option.getD_some]
 have:=e.at_ (i:=A.length-1) Om Om
 simpa[a,hB]using this
def zHD(r:Rl L M s t):my L s=my M t:=by
 unfold my;rw[bt r.l,bt r.m,NK hL hM r.l r.m r.e]
omit hM in
def Bu{q}(a:Wf q){t}(ht:bj q t=ai)(d:L.length+q.length<=65536):(vF L q t).2.1=0/\(vF L q t).2.2.length<=L.length+q.length:=by
 have e:=tA a t;have c:=Pw q (gz q t) L fun _=>0;rcases GM a (gz q t) [] L (fun _=>0) (Cp.start hL) (fun z b=>xC a b) (xE a t)with⟨h,_⟩|⟨_,h⟩;unfold vF;rw[bt ht];simp only;rw[aw Uc];exact⟨rfl,Uc⟩;exact absurd Om h
end
def Rk(n):1<=(vE n).length:=by rw[vE];split<;>simp
def Vo(n a b f):1<=(fj.bytes n a b f).length:=by
 cases f<;>first|exact Rk _|(show 1<=(vO n.cf).length;unfold vO;rw[length_append];have:=Rk n.cf.size;omega)
def UC{L}(d:Wf L)(bM){t}(ht:bj L t=ai):2<=(yC L bM t).length:=by
 have g:=yu d ht;have c:∃f l,qL (ar L t).ba=f ::l:=by
  unfold qL;rcases(show(ar L t).ba=1\/(ar L t).ba=2\/(ar L t).ba=3\/(ar L t).ba=4\/(ar L t).ba=5\/(ar L t).ba=6\/(ar L t).ba=7\/(ar L t).ba=8\/(ar L t).ba=9 by omega)with e|e|e|e|e|e|e|e|e<;>rw[e]<;>exact⟨_,_,rfl⟩
 have⟨f,l,e⟩:=c;have:=Vo (ar L t) (gv bM (ar L t).a) (gv bM (ar L t).b) f;unfold yC;rw[e,flatMap_cons,length_cons,length_append];omega
def PE{L}(a:Wf L):∀l bM,(∀t∈l,bj L t=ai)->2*l.length<=(kh L bM l).length
 |[],_,_=>Sm
 |t :: l,bM,h=>by
  have h1:=UC a bM<|h t Sm;have h2:=PE a l (bM++[t]) Gd;rw[kh,length_append,length_cons];omega
def DX{bs q}(h:(zY bs).1=ab q):2*q.length<=bs.length:=by
 unfold zY at h;split at h;cases h;split at h;cases h;have⟨c,_,_,a,_⟩:=Ob bs.length [] ⟨0,0,0⟩ [] q Wf.nil yT.nil rfl rfl (Nat.zero_le _) (Nat.le_refl _) (by simp[pH,kh]) h;have:=PE c (pH q.length) [] fun z b=>zG.2<|FC.1 b;rw[<-a,Eo]at this;exact this
section
variable {L M:bw} (hL:Wf L) (hM:Wf M)
include hL
def zHJ(bs)(d:2*L.length+bs.length<=131072):2*(yM L bs).2.2.2.length<=2*L.length+bs.length:=by
 unfold yM;split;simp only;omega;rename_i q a;have h2:=DX a;have⟨b,_,c,_,_⟩:=uY a;have:=(Bu hL b c Om).2;simp only;omega
include hM
def Vl(bs)(j:2*L.length+bs.length<=131072)(i:2*M.length+bs.length<=131072):(yM L bs).2.1=(yM M bs).2.1/\((yM L bs).2.1=0->Rl (yM L bs).2.2.2 (yM M bs).2.2.2 (yM L bs).1 (yM M bs).1):=by
 unfold yM;split;rename_i d;exact⟨rfl,fun h=>absurd h<|xR d⟩;rename_i q d;have h2:=DX d;have⟨e,_,c,_,_⟩:=uY d;have a:=(Bu hL e c Om).1;have b:=(Bu hM e c Om).1;refine⟨a.trans b.symm,fun _=>?_⟩;have⟨_,g,f⟩:=tB hL e c a;have⟨_,d2,d3⟩:=tB hM e c b;exact⟨g,d2,f.trans d3.symm⟩
end
def Ph{L n}(c:zM n=0)(g:(fl n.ba).fw<1->n.a=0)(e:(fl n.ba).fw<2->n.b=0)(i:zO (fl n.ba) n=0)(f:∀k∈zB n,bj L k=ai):
  ik L n=if 1+((zB n).map<|sizeOf L).sum>4096\/(zB n).foldl (fun d t=>max d<|gN L t) 0+1>64 then(0,0,52)else(1+((zB n).map<|sizeOf L).sum,(zB n).foldl (fun d t=>max d<|gN L t) 0+1,0):=by
 unfold ik
 simp only
 rw[aw Uc,aw fun h=>?_,aw Uc,aw fun h=>?_]
 grind
 grind
def jda{L n}(s:Wf L)(z:L.length<65536)(q:zM n=0)(x:(fl n.ba).fw<1->n.a=0)(u:(fl n.ba).fw<2->n.b=0)(y:zO (fl n.ba) n=0)(g:∀k∈zB n,bj L k=ai){sz d}(hs:1+((zB n).map<|sizeOf L).sum=sz)(p:(zB n).foldl (fun d t=>max d<|gN L t) 0+1=d):
  ((sz>4096\/d>64)->(bz L n).2.1=52)/\(¬(sz>4096\/d>64)->∃r M,bz L n=(r,0,L++M)/\bj (L++M) r=ai/\ar (L++M) r=n/\Wf (L++M)/\sizeOf (L++M) r=sz/\gN (L++M) r=d/\(L++M).length<=L.length+1):=by
 have f:=Ph q x u y g
 rw[hs,p]at f
 refine⟨fun h=>?_,fun h=>?_⟩
 rw[bt h]at f
 unfold bz;simp only[f];rfl
 rw[aw h]at f
 have w:(bz L n).2.1=0:=by
  unfold bz;simp only[f];rw[aw Sm];split;rfl;rw[aw Om]
 have⟨M,e⟩:=qM L n
 have⟨i,j,_⟩:=xH w
 have m:=yG s n
 have c:=KI L n
 rw[e]at i j m c
 refine⟨(bz L n).1,M,Uc,i,j,m,?_,?_,c⟩
 rw[(m.dr i).2.2.2.2.2.1,j,<-hs]
 congr 2
 exact map_congr_left fun k o=>IK<|g k o
 rw[(m.dr i).2.2.2.2.2.2,j,<-p]
 congr 1
 have:∀(l:List Int) (d:Int),(∀k∈l,bj L k=ai)->l.foldl (fun d k=>max d<|gN (L++M) k) d=l.foldl (fun d k=>max d<|gN L k) d:=by
  intro l;induction l with
  |nil=>intro d _;rfl
  |cons a l v=>intro d hh;simp only[foldl_cons];rw[IF<|hh a Sm];exact v _ fun k g=>hh k Uc
 exact this _ _ g
structure LP(T:ej)(sz d:Int):Prop where
 s1:1<=sz
 d1:1<=d
 xc:∀i s,0<=i->0<=s->s+sz<=4096->i+d<=64->qK i s T=(0,s+sz)
 no:∀i s,0<=i->0<=s->(4096<s+sz\/64<i+d)->(qK i s T).1=52
def LP0{k f t u x}(h:uA ⟨k,f,t,u,x,0,0⟩ 0=0):LP (.mk k f t u x []) 1 1:=by
 refine⟨Om,Om,fun i s hi hs h1 h2=>?_,fun i s hi hs h1=>?_⟩;rw[qK,aw Om,aw Om];simp[vG,h];rw[qK];split;rfl;rw[bt Om]
def VJ{k f t u x A sa da}(h:uA ⟨k,f,t,u,x,0,0⟩ 1=0)(a:LP A sa da):LP (.mk k f t u x [A]) (1+sa) (da+1):=by
 have a1:=a.s1;have a2:=a.d1;refine⟨Om,Om,fun i s hi hs h1 h2=>?_,fun i s hi hs h1=>?_⟩;rw[qK,aw Om,aw Om];simp only[length_cons,length_nil,vG,h,bt,a.xc (i+1) (s+1) Om Om Om Om];simp;omega;rw[qK];split;rfl;split;rfl;simp only[length_cons,length_nil,vG,h,bt];simpa using a.no (i+1) (s+1) Om Om Om
def LP2{k f t u x A B sa da sb db}(h:uA ⟨k,f,t,u,x,0,0⟩ 2=0)(a:LP A sa da)(hB:LP B sb db):LP (.mk k f t u x [A,B]) (1+(sa+sb)) (max da db+1):=by
 have a1:=a.s1;have a2:=a.d1;have b1:=hB.s1;have b2:=hB.d1;refine⟨Om,Om,fun i s hi hs h1 h2=>?_,fun i s hi hs h1=>?_⟩;rw[qK,aw Om,aw Om];simp only[length_cons,length_nil,vG,h,bt,a.xc (i+1) (s+1) Om Om Om Om,hB.xc (i+1) (s+1+sa) Om Om Om Om];simp;omega;rw[qK];split;rfl;split;rfl;simp only[length_cons,length_nil,vG,h,bt];by_cases b:s+1+sa<=4096/\i+1+da<=64;rw[a.xc (i+1) (s+1) Om Om b.1 b.2];simpa using hB.no (i+1) (s+1+sa) Om Om Om;have:=a.no (i+1) (s+1) Om Om Om;rw[this];simp
def zFL{L}(hW:Wf L):∀(n:Nat) (t:Int),t.toNat=n->bj L t=ai->sizeOf L t=cnt (zA L t):=by
 intro n;induction n using Nat.strongRecOn with
 |_ n d =>
 intro t f ht;have h:=hW.dr ht;rw[zW hW ht,h.2.2.2.2.2.1,cnt];have:∀l:List Int,(∀k∈l,sizeOf L k=cnt (zA L k))->(l.map<|sizeOf L).sum=(cntAll (l.map<|zA L):Int):=by
  intro l;induction l with
  |nil=>intro _;rfl
  |cons a l c=>intro hh;simp only[List.map_cons,List.sum_cons,cntAll,hh a Sm,c Gd];omega
 rw[this _ fun k e=>?_];omega;have b:=h.2.2.2.2.1 k e;have:=zG.1 b.1;exact d k.toNat Om k rfl b.1
def Ap{L t k}(h:(zZ L t k).2=ak):bj L t=ai/\(ar L t).ba=k/\zZ L t k=(ar L t,ak):=by
 unfold zZ at h|-;split at h;grind;cases h
def zf{L t k}(h:bj L t=ai)(a:(ar L t).ba=k):zZ L t k=(ar L t,ak):=by unfold zZ;rw[bt ⟨h,a⟩]
section
variable {L:bw} (hW:Wf L) {t:Int} (ht:bj L t=ai)
include hW ht
def YY:(ar L t).cf.size<=64:=by
 have:=(hW.dr ht).2.2.2.1;unfold zO at this;split at this;cases this;split at this;cases this;omega
def MW(b:(ar L t).ba=3):zA L t=qS (ar L t).cf:=by
 have h:=(hW.dr ht).1;rw[zW hW ht,b,qS];have a:zB (ar L t)=[]:=by unfold zB;rw[b];rfl
 rw[a];unfold zM at h;rw[b]at h;simp[fl,qe]at h;simp[h]
def Pm(b:(ar L t).ba=2):zA L t=ot (ar L t).num:=by
 have h:=(hW.dr ht).1;rw[zW hW ht,b,ot];have a:zB (ar L t)=[]:=by unfold zB;rw[b];rfl
 rw[a];unfold zM at h;rw[b]at h;simp[fl,qe]at h;simp[h]
def Be(e:(ar L t).ba=4):bj L (ar L t).a=ai/\bj L (ar L t).b=ai/\zA L t=yQ (zA L (ar L t).a) (zA L (ar L t).b):=by
 have h:=(hW.dr ht).1;have d:=(hW.dr ht).2.2.2.2.1;have c:zB (ar L t)=[(ar L t).a,(ar L t).b]:=by unfold zB;rw[e];rfl
 rw[c]at d;refine⟨(d _ Sm).1,(d _ Sm).1,?_⟩;rw[zW hW ht,e,yQ,c];unfold zM at h;rw[e]at h;simp[fl,qe]at h;simp[h]
def Pb(d:(ar L t).ba=7):bj L (ar L t).a=ai/\0<=(ar L t).cj/\zA L t=uO (ar L t).cj (zA L (ar L t).a):=by
 have h:=(hW.dr ht).1;have c:=(hW.dr ht).2.2.2.1;have e:=(hW.dr ht).2.2.2.2.1;have b:zB (ar L t)=[(ar L t).a]:=by unfold zB;rw[d];rfl
 rw[b]at e;refine⟨(e _ Sm).1,?_,?_⟩;unfold zO at c;rw[d]at c;split at c;cases c;rename_i hh;simp[fl,sr]at hh;omega;rw[zW hW ht,d,uO,b];unfold zM at h;rw[d]at h;simp[fl,qe]at h;simp[h]
def SG(b:(ar L t).ba=8\/(ar L t).ba=9):bj L (ar L t).a=ai/\0<=(ar L t).cj/\(ar L t).cj<16/\((ar L t).to=1-(ar L t).cj->zA L t=yZ (ar L t).cj (zA L (ar L t).a) ((ar L t).ba==9)):=by
 have h:=(hW.dr ht).1;have e:=(hW.dr ht).2.2.2.1;have g:=(hW.dr ht).2.2.2.2.1;have d:zB (ar L t)=[(ar L t).a]:=by unfold zB;rcases b with b|b<;>(rw[b];rfl)
 rw[d]at g;have c:0<=(ar L t).cj/\(ar L t).cj<16:=by
  unfold zO at e;rcases b with b|b <;>
  .rw[b]at e;split at e
   .cases e
   .rename_i hh;simp[fl,sr]at hh;omega
 refine⟨(g _ Sm).1,c.1,c.2,fun f=>?_⟩;rw[zW hW ht,yZ,d,<-f];unfold zM at h;rcases b with b|b <;>
 .rw[b]at h|-;simp[fl,qe]at h;simp[h]
def ua{k f t' u x ks}(h:zA L t=.mk k f t' u x ks):(ar L t).ba=k/\(ar L t).cj=f/\(ar L t).to=t'/\(ar L t).num=u/\(ar L t).cf=x:=by
 rw[zW hW ht]at h;injection h with h1 h2 h3 a b c;exact⟨h1,h2,h3,a,b⟩
end
def Se{n}(h:0<=n/\n<16):q6.wrap (1-n)=1-n:=IntWalk.i64_in _ Om
section
variable {L:bw} (hW:Wf L) {t:Int}
include hW
def xS(h:(zX L t).2=ak):bj L t=ai/\bj L (zX L t).1.2=ai/\zA L t=yQ (qS (zX L t).1.1) (zA L (zX L t).1.2):=by
 unfold zX at h|-;simp only[Bool.or_eq_false_iff]at h;have⟨ht,d,c⟩:=Ap h.1;rw[c]at h|-;simp only at h|-;have⟨e,a,b⟩:=Ap h.2;rw[b];have⟨_,h2,h3⟩:=Be hW ht d;exact⟨ht,h2,by rw[h3,MW hW e a]⟩
def Kz(ht:bj L t=ai){g y}(h:zA L t=yQ (qS g) y):∃n,zX L t=((g,n),ak)/\bj L n=ai/\zA L n=y:=by
 have d:=(ua hW ht<|h.trans rfl).1;have⟨h1,h2,h3⟩:=Be hW ht d;rw[h]at h3;have i:qS g=zA L (ar L t).a:=by simpa[yQ]using(ej.mk.inj h3).2.2.2.2.2 |>fun e=>(List.cons.inj e).1
 have f:y=zA L (ar L t).b:=by have:=(ej.mk.inj h3).2.2.2.2.2;exact(List.cons.inj (List.cons.inj this).2).1
 have c:=ua hW h1<|i.symm.trans rfl;refine⟨(ar L t).b,?_,h2,f.symm⟩;unfold zX;rw[zf ht d];simp only;rw[zf h1 c.1];simp[c.2.2.2.2]
def JE(h:(qE L t).2=ak):bj L t=ai/\zA L t=qQ (qE L t).1.1 (qE L t).1.2/\(qE L t).1.2.size<=64:=by
 unfold qE at h|-;simp only[Bool.or_eq_false_iff,Bool.not_eq_false',decide_eq_true_eq]at h;have⟨⟨⟨⟨h1,h2⟩,h3⟩,c⟩,f⟩:=h;have⟨ht,_,e⟩:=xS hW h1;have⟨i,a,k⟩:=Ap h2;simp only at h3|-;rw[k]at c f|-;simp only at c f|-;have⟨l,d,j⟩:=Ap c;have⟨g,b,m⟩:=Ap f;rw[j,m];refine⟨ht,?_,YY hW g⟩;rw[e,h3,(Be hW i a).2.2,Pm hW l d,MW hW g b];rfl
def G8(ht:bj L t=ai){c x}(h:zA L t=qQ c x):qE L t=((c,x),ak):=by
 have⟨n,g,a,e⟩:=Kz hW ht h;have f:=(ua hW a<|e.trans rfl).1;have⟨h1,h2,h3⟩:=Be hW a f;rw[e]at h3;have i:=(List.cons.inj (ej.mk.inj h3).2.2.2.2.2).1;have q2:=(List.cons.inj (List.cons.inj (ej.mk.inj h3).2.2.2.2.2).2).1;have b:=ua hW h1<|i.symm.trans rfl;have d:=ua hW h2<|q2.symm.trans rfl;unfold qE;rw[g];simp only;rw[zf a f];simp only;rw[zf h1 b.1,zf h2 d.1];simp[b.2.2.2.1,d.2.2.2.2]
def HP(ht:bj L t=ai){c}(h:zA L t=ot c):(zZ L t 2).1.num=c/\(zZ L t 2).2=ak:=by
 have k:=ua hW ht<|h.trans rfl;rw[zf ht k.1];exact⟨k.2.2.2.1,rfl⟩
def Kb(h:(zZ L t 2).2=ak):bj L t=ai/\zA L t=ot (zZ L t 2).1.num:=by
 have⟨h1,h2,e⟩:=Ap h;rw[e];exact⟨h1,Pm hW h1 h2⟩
def KQ(ht:bj L t=ai)(h:(zL L t).2=ak):(zL L t).1.ba=1/\((zL L t).1.cj=0\/(zL L t).1.cj=1)/\zA L t=yZ (zL L t).1.cj (qQ (zL L t).1.c (zL L t).1.cf) (zL L t).1.gR/\(zL L t).1.cf.size<=64:=by
 unfold zL at h|-;simp only at h|-;split at h;cases h;rename_i hh;rw[aw hh];simp only[not_or,not_and,Classical.not_not]at hh;have d:(ar L t).ba=8\/(ar L t).ba=9:=Gd;have⟨i,f,b,g⟩:=SG hW ht d;have a:=hh.2.2;rw[Se ⟨f,b⟩]at a;have⟨_,e,hx⟩:=JE hW h;simp only;refine⟨trivial,Uc,Uc,hx⟩
def Jt(ht:bj L t=ai){n c x g}(l:n=0\/n=1)(h:zA L t=yZ n (qQ c x) g):zL L t=(⟨1,n,c,x,g⟩,ak):=by
 have k:=ua hW ht<|h.trans rfl;have b:(ar L t).ba=8\/(ar L t).ba=9:=Uc;have⟨j,i,a,d⟩:=SG hW ht b;have:=d Uc;rw[h,k.2.1]at this;have e:=(List.cons.inj (ej.mk.inj this).2.2.2.2.2).1;unfold zL;simp only;rw[aw,G8 hW j e.symm,k.1,k.2.1];cases g<;>rfl;simp only[not_or,not_and,Classical.not_not];refine⟨fun f=>b.resolve_left f,Uc,?_⟩;rw[k.2.2.1,Se ⟨i,a⟩,k.2.1]
end
def td(x:ej)(l:gq):Prop:=vM l=0/\∃a b:Bool,(l.ba=4->l.gR=(a ||b))/\x=zR l a b
def FV{k f c x g}(h:vM ⟨k,f,c,x,g⟩=0):(k=1\/k=2\/k=3\/k=4\/k=5\/k=6\/k=7)/\(f=0\/f=1)/\(vI k=ak->f=0)/\(vQ k=ak->x=⟨#[]⟩)/\(g=ai->k=1\/k=4)/\x.size<=64:=by
 unfold vM at h;simp only at h;split at h;cases h;rename_i hh;split at h;cases h;simp only[not_or,not_and,Classical.not_not]at hh;have⟨h1,h2,h3,a,b,d⟩:=hh;refine⟨Om,?_,a,b,?_,Om⟩;grind;grind
def xI{k f c x g}(e:1<=k/\k<=7)(a:f=0\/f=1)(h1:vI k=ak->f=0)(h2:vQ k=ak->x=⟨#[]⟩)(h3:g=ai->k=1\/k=4)(hx:x.size<=64):vM ⟨k,f,c,x,g⟩=0:=by
 unfold vM;simp only;rw[aw,aw Om];simp only[not_or,not_and,Classical.not_not];refine⟨Om,Om,fun b=>a.resolve_left b,h1,h2,fun d h1=>(h3 d).resolve_left h1⟩
section
variable {L:bw} (hW:Wf L) {t:Int}
include hW
def jQD{bb}(h:(vP L bb t).2=ak):∃c x a b,(vP L bb t).1=⟨4,bb,c,x,a ||b⟩/\x.size<=64/\zA L t=yQ (yZ 0 (qQ c x) a) (yZ 1 (qQ c x) b):=by
 unfold vP at h|-;simp only[Bool.or_eq_false_iff,Bool.not_eq_false',decide_eq_true_eq,bne_eq_false_iff_eq]at h;have⟨⟨⟨⟨⟨⟨h1,h2⟩,h3⟩,f⟩,g⟩,i⟩,d⟩:=h;have⟨ht,l,e⟩:=Ap h1;simp only;rw[e]at h2 h3 f g i d|-;simp only at h2 h3 f g i d|-;have⟨k,j,m⟩:=Be hW ht l;have⟨_,_,n,hx⟩:=KQ hW k h2;have⟨_,_,o,_⟩:=KQ hW j h3;refine⟨_,_,_,_,rfl,hx,?_⟩;rw[m,n,o,f,g,i,d]
def Yt(ht:bj L t=ai){bb c x a b}(h:zA L t=yQ (yZ 0 (qQ c x) a) (yZ 1 (qQ c x) b)):vP L bb t=(⟨4,bb,c,x,a ||b⟩,ak):=by
 have d:=(ua hW ht<|h.trans rfl).1;have⟨h1,h2,h3⟩:=Be hW ht d;rw[h]at h3;have e:=(List.cons.inj (ej.mk.inj h3).2.2.2.2.2).1;have q2:=(List.cons.inj (List.cons.inj (ej.mk.inj h3).2.2.2.2.2).2).1;unfold vP;simp only;rw[zf ht d];simp only;rw[Jt hW h1 (.inl rfl) e.symm,Jt hW h2 (.inr rfl) q2.symm];simp
def jTZ{bb}(n:0<=bb)(h:(qI L bb t).2=ak):td (uO bb<|zA L t) (qI L bb t).1:=by
 unfold qI at h|-;simp only at h|-;by_cases i:(zX L t).1.1=rQ/\bb=0;rw[bt i]at h|-;simp only[Bool.or_eq_false_iff]at h;have⟨ht,k,e⟩:=xS hW h.1;show td _ ⟨3,0,_,⟨#[]⟩,ak⟩;refine⟨xI Om (.inl rfl) (fun _=>rfl) (fun _=>rfl) (fun h=>nomatch h)<|Nat.zero_le _,ak,ak,Sm,?_⟩;rw[e,i.1,i.2,(Kb hW h.2).2];rfl;rw[aw i]at h|-;by_cases g:(zX L t).1.1=yU/\bb=2;rw[bt g]at h|-;simp only[Bool.or_eq_false_iff]at h;have⟨ht,k,e⟩:=xS hW h.1;show td _ ⟨5,0,_,⟨#[]⟩,ak⟩;refine⟨xI Om (.inl rfl) (fun _=>rfl) (fun _=>rfl) (fun h=>nomatch h)<|Nat.zero_le _,ak,ak,Sm,?_⟩;rw[e,g.1,g.2,(Kb hW h.2).2];rfl;rw[aw g]at h|-;by_cases f:(zX L t).1.1=uH/\bb=2;rw[bt f]at h|-;simp only[Bool.or_eq_false_iff]at h;have⟨ht,k,e⟩:=xS hW h.1;have⟨_,d,hx⟩:=JE hW h.2;refine⟨xI Om (.inl rfl) (fun _=>rfl) (by simp[vQ]) Sm hx,ak,ak,Sm,?_⟩;rw[e,f.1,f.2,d];rfl;rw[aw f]at h|-;by_cases l:(zX L t).1.1=rN/\bb<=1;rw[bt l]at h|-;simp only[Bool.or_eq_false_iff]at h;have⟨_,d,hx⟩:=JE hW h.2;refine⟨xI Om Om (by simp[vI]) (by simp[vQ,vI]) Sm hx,ak,ak,Sm,?_⟩;rw[d];rfl;rw[aw l]at h|-;by_cases j:(zX L t).1.1=uG/\bb<=1;rw[bt j]at h|-;simp only[Bool.or_eq_false_iff]at h;have⟨ht,k,e⟩:=xS hW h.1;have⟨c,x,a,b,d,hx,m⟩:=jQD hW h.2;rw[d];refine⟨xI Om Om (by simp[vI]) (by simp[vQ,vI]) Sm hx,a,b,Sm,?_⟩;rw[e,j.1,m];cases a<;>cases b<;>rfl;rw[aw j]at h;cases h
def Pi(ht:bj L t=ai)(h:(qd L t).2=ak):td (zA L t) (qd L t).1:=by
 unfold qd at h|-;simp only at h|-;by_cases d:(ar L t).ba=7;rw[bt d]at h|-;have⟨h1,h2,h3⟩:=Pb hW ht d;rw[h3];exact jTZ hW h2 h;rw[aw d]at h|-;by_cases i:(ar L t).ba=8\/(ar L t).ba=9;rw[bt i]at h|-;have⟨h1,h2,h3,j⟩:=KQ hW ht h;generalize zL L t=r at *;have⟨⟨k,f,c,x,g⟩,b⟩:=r;simp only at h1 h2 h3 j|-;subst h1;exact⟨xI Om h2 (by simp[vI]) (by simp[vQ,vI]) Sm j,ak,ak,Sm,h3⟩;rw[aw i]at h|-;split at h;cases h;rename_i a;rw[aw a];simp only[Bool.or_eq_true,Bool.not_eq_true',decide_eq_false_iff_not,not_or,Classical.not_not,Bool.not_eq_true]at a;have⟨_,l,e⟩:=xS hW a.1;show td _ ⟨7,0,_,⟨#[]⟩,ak⟩;refine⟨xI Om (.inl rfl) (fun _=>rfl) (fun _=>rfl) (fun h=>nomatch h)<|Nat.zero_le _,ak,ak,Sm,?_⟩;rw[e,a.2,(Kb hW h).2];rfl
def HG(ht:bj L t=ai){l}(h:td (zA L t) l):qd L t=(l,ak):=by
 have⟨k,f,c,x,g⟩:=l;have⟨h1,a,b,A,o⟩:=h;have⟨B,C,hs,hx,r,_⟩:=FV h1;have d:∀{bb:Int} {u:ByteArray} {y:ej},zA L t=uO bb (yQ (qS u) y)->(ar L t).ba=7/\(ar L t).cj=bb/\bj L (ar L t).a=ai/\zA L (ar L t).a=yQ (qS u) y/\∃n,zX L (ar L t).a=((u,n),ak)/\bj L n=ai/\zA L n=y:=by
  intro bb u y e;have k:=ua hW ht<|e.trans rfl;have⟨z,_,w⟩:=Pb hW ht k.1;rw[e]at w;have q:=(List.cons.inj (ej.mk.inj w).2.2.2.2.2).1;exact⟨k.1,k.2.1,z,q.symm,Kz hW z q.symm⟩
 rcases B with rfl|rfl|rfl|rfl|rfl|rfl|rfl;have e:=o;have k:=ua hW ht<|e.trans rfl;unfold qd;simp only;rw[aw Uc,bt Uc,Jt hW ht C e];have e:=o;have:g=ak:=by cases g with
  |false=>rfl
  |true=>exact absurd (r rfl) Om
 subst this;have⟨k,kf,h1,h2,n,i,m,j⟩:=d e;unfold qd qI;simp only;rw[bt k,i,kf];simp only;rw[aw fun q=>absurd q.1 De,aw fun q=>absurd q.1 De,aw fun q=>absurd q.1 De,bt ⟨trivial,Om⟩,G8 hW h1 h2];rfl;obtain rfl:f=0:=hs rfl;obtain rfl:x=⟨#[]⟩:=hx rfl;have:g=ak:=by cases g with
  |false=>rfl
  |true=>exact absurd (r rfl) Om
 subst this;have e:=o;have⟨k,kf,h1,h2,n,i,m,j⟩:=d e;have⟨p,s⟩:=HP hW m j;unfold qd qI;simp only;rw[bt k,i,kf];simp only;rw[bt ⟨trivial,trivial⟩,p,s];rfl;have e:=o;have⟨k,kf,h1,h2,n,i,m,j⟩:=d e;have v:((g&&a) ||(g&&b))=g:=by
  have:=A rfl;simp only at this;subst this;cases a<;>cases b<;>rfl
 unfold qd qI;simp only;rw[bt k,i,kf];simp only;rw[aw fun q=>absurd q.1 De,aw fun q=>absurd q.1 De,aw fun q=>absurd q.1 De,aw fun q=>absurd q.1 De,bt ⟨trivial,Om⟩,Yt hW m j,v];rfl;obtain rfl:f=0:=hs rfl;obtain rfl:x=⟨#[]⟩:=hx rfl;have:g=ak:=by cases g with
  |false=>rfl
  |true=>exact absurd (r rfl) Om
 subst this;have e:=o;have⟨k,kf,h1,h2,n,i,m,j⟩:=d e;have⟨p,s⟩:=HP hW m j;unfold qd qI;simp only;rw[bt k,i,kf];simp only;rw[aw fun q=>absurd q.1 De,bt ⟨trivial,trivial⟩,p,s];rfl;obtain rfl:f=0:=hs rfl;have:g=ak:=by cases g with
  |false=>rfl
  |true=>exact absurd (r rfl) Om
 subst this;have e:=o;have⟨k,kf,h1,h2,n,i,m,j⟩:=d e;unfold qd qI;simp only;rw[bt k,i,kf];simp only;rw[aw fun q=>absurd q.1 De,aw fun q=>absurd q.1 De,bt ⟨trivial,trivial⟩,G8 hW m j];rfl;obtain rfl:f=0:=hs rfl;obtain rfl:x=⟨#[]⟩:=hx rfl;have:g=ak:=by cases g with
  |false=>rfl
  |true=>exact absurd (r rfl) Om
 subst this;have e:=o;have k:=ua hW ht<|e.trans rfl;have⟨n,i,m,j⟩:=Kz hW ht e;have⟨p,s⟩:=HP hW m j;unfold qd;simp only;rw[aw Uc,aw Uc,i];simp only;rw[aw Sm,p,s]
end
def JS(l a b):cnt (zR l a b)<=40:=by
 unfold zR;simp only[yZ,qQ,uO,yQ,qS,ot];split;simp[cnt,cntAll];split;simp[cnt,cntAll];split;simp[cnt,cntAll];split;simp[cnt,cntAll];split;simp[cnt,cntAll];split;simp[cnt,cntAll];simp[cnt,cntAll]
def MR{x l}:∀{n i:Nat} {l':gq},yV x l n i=ab l'->∃f,i<=f/\f<i+n/\qw x l f=ai/\l'=xB l f
 |0,i,l',h=>by cases h
 |n+1,i,l',h=>by
  unfold yV at h;split at h;grind;have⟨f,h1,h2,h3,a⟩:=MR h;exact⟨f,Om,Om,h3,a⟩
def Sn{x l f}(a:qw x l f=ai):∀{n i:Nat},i<=f->f<i+n->yV x l n i≠bo
 |0,i,h1,h2=>Om
 |n+1,i,h1,h2=>by
  unfold yV;split;simp;rename_i h;by_cases e:i=f;subst e;exact absurd a h;exact Sn a Om Om
def Rs{x k}:∀{ps:List (List Nat)} {l:gq},yB x k ps=ab l->∃p∈ps,∃f,f<4/\qw x (rB x k p) f=ai/\l=xB (rB x k p) f
 |[],l,h=>by cases h
 |p :: ps,l,h=>by
  unfold yB at h;split at h;rename_i l' c;cases h;have⟨f,_,h2,h3,b⟩:=MR c;exact⟨p,Sm,f,Om,h3,b⟩;have⟨a,h1,h2⟩:=Rs h;exact⟨a,Uc,h2⟩
def OA{x k p f}(c:f<4)(h:qw x (rB x k p) f=ai):∀{ps:List (List Nat)},p∈ps->yB x k ps≠bo
 |[],a=>Uc
 |q :: ps,a=>by
  unfold yB;split;simp;rename_i b;rcases List.mem_cons.1 a with e|e;subst e;exact absurd b<|Sn h (Nat.zero_le _) Om;exact OA c h e
def Sz{x}:∀{n:Nat} {i:Int} {l:gq},uS x n i=ab l->∃k p f,i<=k/\k<i+n/\f<4/\qw x (rB x k p) f=ai/\l=xB (rB x k p) f
 |0,i,l,h=>by cases h
 |n+1,i,l,h=>by
  unfold uS at h;split at h;rename_i l' a;cases h;have⟨p,_,f,h1,h2,h3⟩:=Rs a;exact⟨i,p,f,Om,Om,h1,h2,h3⟩;have⟨k,p,f,h1,h2,h3⟩:=Sz h;exact⟨k,p,f,Om,Om,h3⟩
def Lm{x k p f}(a:p∈oD)(b:f<4)(h:qw x (rB x k p) f=ai):∀{n:Nat} {i:Int},i<=k->k<i+n->uS x n i≠bo
 |0,i,h1,h2=>Om
 |n+1,i,h1,h2=>by
  unfold uS;split;simp;rename_i c;by_cases e:i=k;subst e;exact absurd c<|OA b h a;exact Lm a b h Om Om
def zKY{x l f}(a:f<4)(h:qw x l f=ai):td x (xB l f):=by
 unfold qw at h;simp only[Bool.and_eq_true,decide_eq_true_eq]at h;have⟨⟨h1,h2⟩,h3⟩:=h;refine⟨h1,f%2==1,f/2==1,fun _=>?_,((LX _ _).1 h3).symm⟩;have:f=0\/f=1\/f=2\/f=3:=Om;rcases this with rfl|rfl|rfl|rfl<;>rfl
def RW{x l}(h:qV x=(l,ai)):td x l:=by
 unfold qV at h;split at h;rename_i l' a;cases h;obtain⟨k,p,f,_,_,h1,h2,rfl⟩:=Sz a;exact zKY h1 h2;cases h
def Qi{x}(h:(qV x).2=ak):qV x=(xF,ak)/\uS x 7 1=bo:=by
 unfold qV at h|-;split at h;cases h;grind
def zKZ{x l l0 f}(a:vM l=0)(h1:xB l0 f=l)(h2:l0.ba=4\/f≠2)(h3:zR l (f%2==1) (f/2==1)=x):qw x l0 f=ai:=by
 unfold qw;rw[h1,(LX _ _).2 h3];simp[a];exact h2
def jTY{x l}(h:td x l):(qV x).2=ai:=by
 cases t:(qV x).2 with
 |true=>rfl
 |false =>
  exfalso
  have r:=(Qi t).2
  have⟨k,f,c,o,g⟩:=l
  have⟨h1,a,b,u,j⟩:=h
  have⟨y,B,hs,hx,A,_⟩:=FV h1
  have d:∀p m,p∈oD->m<4->xB (rB x k p) m=⟨k,f,c,o,g⟩->(k=4\/m≠2)->zR ⟨k,f,c,o,g⟩ (m%2==1) (m/2==1)=x->False:=by
   intro p m s q v w z;exact Lm (x:=x) (k:=k) s q (zKZ h1 v (by simpa[rB]using w) z) (n:=7) (i:=1) Om Om r
  have e:k≠1->k≠4->g=ak:=Gd
  rcases y with rfl|rfl|rfl|rfl|rfl|rfl|rfl
  subst j
  cases g with
  |false=>exact d [0] 0 (by simp[oD]) Om rfl Om rfl
  |true=>exact d [0] 1 (by simp[oD]) Om rfl Om rfl
  obtain rfl:=e Om Om
  subst j
  exact d [0] 0 (by simp[oD]) Om rfl Om rfl
  obtain rfl:=e Om Om
  obtain rfl:f=0:=hs rfl
  obtain rfl:o=⟨#[]⟩:=hx rfl
  subst j
  exact d [0] 0 (by simp[oD]) Om rfl Om rfl
  have:=u rfl
  simp only at this
  subst this
  subst j
  cases a<;>cases b
  exact d [0,1,0,0] 0 (by simp[oD]) Om rfl Om rfl
  exact d [0,1,0,0] 2 (by simp[oD]) Om rfl Om rfl
  exact d [0,1,0,0] 1 (by simp[oD]) Om rfl Om rfl
  exact d [0,1,0,0] 3 (by simp[oD]) Om rfl Om rfl
  obtain rfl:=e Om Om
  obtain rfl:f=0:=hs rfl
  obtain rfl:o=⟨#[]⟩:=hx rfl
  subst j
  exact d [0] 0 (by simp[oD]) Om rfl Om rfl
  obtain rfl:=e Om Om
  obtain rfl:f=0:=hs rfl
  subst j
  exact d [0,1] 0 (by simp[oD]) Om rfl Om rfl
  obtain rfl:=e Om Om
  obtain rfl:f=0:=hs rfl
  obtain rfl:o=⟨#[]⟩:=hx rfl
  subst j
  exact d [0] 0 (by simp[oD]) Om rfl Om rfl
def TM{L t}(h:bj L t=ak):pK L t=(xF,ak):=by
 have e:ar L t=uZ:=by simp[ar,yD h]
 have a:zX L t=((⟨#[]⟩,0),ai)\/(zX L t).2=ai:=by
  right;unfold zX;have:zZ L t 4=(uZ,ai):=by unfold zZ;rw[aw (by rw[h];simp)]
  rw[this];rfl
 have b:=Uc;have:(qd L t).2=ai:=by
  unfold qd;simp only;rw[e,aw De,aw De,bt Uc]
 unfold pK;rw[bt this]
def RT{L}(hW:Wf L)(t):pK L t=xQ L t:=by
 cases hi:bj L t with
 |false =>
  rw[TM hi]
  unfold xQ
  rw[aw Uc]
 |true =>
  have g:=zFL hW _ t rfl hi
  cases c:(qd L t).2 with
  |false =>
   have h:=Pi hW hi c
   have f:¬sizeOf L t>40:=by
    have⟨_,a,b,_,e⟩:=h;have:=JS (qd L t).1 a b;rw[<-e]at this;omega
   have d:=jTY h
   have e:qV (zA L t)=((qV<|zA L t).1,ai):=Prod.ext rfl d
   have:=HG hW hi<|RW e
   unfold pK xQ
   rw[aw Uc,bt ⟨hi,f⟩,e,this]
  |true =>
   unfold pK
   rw[bt c]
   unfold xQ
   split
   cases d:(qV<|zA L t).2 with
   |false=>exact(Qi d).1.symm
   |true =>
    have e:qV (zA L t)=((qV<|zA L t).1,ai):=Prod.ext rfl d
    have:=HG hW hi<|RW e
    rw[this]at c;cases c
   rfl
def UF{L}(hW:Wf L){t}(ht:bj L t=ai){l}(h:td (zA L t) l):pK L t=(l,ai):=by
 unfold pK;rw[HG hW ht h,aw Sm]
def JD{k f t u x ay}(h:uA ⟨k,f,t,u,x,0,0⟩ ay=0):zM ⟨k,f,t,u,x,0,0⟩=0/\(ay:Int)=(fl k).fw/\zO (fl k) ⟨k,f,t,u,x,0,0⟩=0:=by
 unfold uA at h;simp only at h;by_cases h1:zM ⟨k,f,t,u,x,0,0⟩=0;grind;grind
def Eg{L n}(l:Wf L)(j:zM n=0)(s:(fl n.ba).fw<1->n.a=0)(m:(fl n.ba).fw<2->n.b=0)(q:zO (fl n.ba) n=0)(o:∀k∈zB n,bj L k=ai){sz d}(hs:1+((zB n).map<|sizeOf L).sum=sz)(p:(zB n).foldl (fun d t=>max d<|gN L t) 0+1=d)(h:¬ (sz>4096\/d>64)):
  (∃r M,bz L n=(r,0,L++M)/\bj (L++M) r=ai/\ar (L++M) r=n/\Wf (L++M)/\sizeOf (L++M) r=sz/\gN (L++M) r=d/\(L++M).length<=L.length+1)\/((bz L n).2.1=6/\65536<=L.length):=by
 by_cases w:L.length<65536
 exact .inl<|(jda l w j s m q o hs p).2 h
 have f:=Ph j s m q o
 rw[hs,p,aw h]at f
 cases c:find L n with
 |none =>
  right
  unfold bz;simp only[f,c]
  rw[aw Sm,bt Om]
  exact⟨rfl,Om⟩
 |some i =>
  left
  have⟨hi,e⟩:=Bz c
  have x:bz L n=((i:Int)+1,0,L):=by unfold bz;simp only[f,c];rw[aw Sm]
  have g:bj L ((i:Int)+1)=ai:=zG.2 ⟨Om,Om⟩
  have v:ar L ((i:Int)+1)=n:=by rw[qO hi,e]
  have u:=l.dr g
  rw[v]at u
  refine⟨_,[],Uc,Uc,Uc,Uc,?_,?_,Sm⟩
  grind
  grind
abbrev jbp(L:bw)(T:ej)(sz d:Int)(q:Int×Int×bw):Prop:=(∃r M,q=(r,0,L++M)/\bj (L++M) r=ai/\Wf (L++M)/\sizeOf (L++M) r=sz/\gN (L++M) r=d/\((L++M).length:Int)<=L.length+sz)\/(q.2.1=6/\65536<L.length+sz)
structure GP(T:ej)(sz d:Int):Prop extends LP T sz d where
 C7:∀L,Wf L->sz<=4096->d<=64->jbp L T sz d (grow L T)
def Mc{k f t u x}(h:uA ⟨k,f,t,u,x,0,0⟩ 0=0):GP (.mk k f t u x []) 1 1:=by
 refine⟨LP0 h,fun L a h1 h2=>?_⟩;have⟨o1,o2,o3⟩:=JD h;have c:zB ⟨k,f,t,u,x,0,0⟩=[]:=by simp[zB,<-o2]
 rw[grow,zU];rcases Eg (n:=⟨k,f,t,u,x,0,0⟩) a o1 (fun _=>rfl) (fun _=>rfl) o3 Uc (sz:=1) (d:=1) Uc Uc Om with⟨r,M,e,i,_,w,s,b,l⟩|⟨e,l⟩;grind;exact .inr ⟨e,Om⟩
def G0{k f t u x A sa da}(h:uA ⟨k,f,t,u,x,0,0⟩ 1=0)(a:GP A sa da):GP (.mk k f t u x [A]) (1+sa) (da+1):=by
 refine⟨VJ h a.toLP,fun L c h1 h2=>?_⟩;have⟨o1,o2,o3⟩:=JD h;have s1:=a.d1;rw[grow];rcases a.C7 L c Om Om with⟨r,M,e,i,w,s,p,l⟩|⟨e,l⟩;rw[zU,e,aw Sm,bt rfl,zU];have j:zB ⟨k,f,t,u,x,r,0⟩=[r]:=by simp[zB,<-o2]
 rcases Eg (n:=⟨k,f,t,u,x,r,0⟩) w o1 Gd (fun _=>rfl) o3 Gd (sz:=1+sa) (d:=da+1) Uc Uc Om with⟨m,o,b,q,_,w',s',g,l'⟩|⟨b,l'⟩;grind;exact .inr ⟨b,Om⟩;rw[zU,bt Uc];exact .inr ⟨e,Om⟩
def W7{k f t u x A B sa da sb db}(h:uA ⟨k,f,t,u,x,0,0⟩ 2=0)(b:GP A sa da)(hB:GP B sb db):GP (.mk k f t u x [A,B]) (1+(sa+sb)) (max da db+1):=by
 refine⟨LP2 h b.toLP hB.toLP,fun L o h1 h2=>?_⟩;have⟨o1,o2,o3⟩:=JD h;have s1:=b.s1;have d1:=b.d1;have F:=hB.s1;have d2:=hB.d1;rw[grow];rcases b.C7 L o Om Om with⟨r,M,e,i,w,s,p,l⟩|⟨e,l⟩;rw[zU,e,aw Sm,bt rfl];simp only;rcases hB.C7 (L++M) w Om Om with⟨r2,z,g,i2,q,j,c,v⟩|⟨g,v⟩;rw[zU,g,aw Sm,aw Om,zU];have a:zB ⟨k,f,t,u,x,r,r2⟩=[r,r2]:=by simp[zB,<-o2]
 rcases Eg (n:=⟨k,f,t,u,x,r,r2⟩) q o1 Gd (fun hh=>Uc) o3 (by rw[a];intro k a;simp at a;rcases a with rfl|rfl;exact yP i;exact i2) (sz:=1+(sa+sb)) (d:=max da db+1) (by rw[a];simp[-append_assoc,IK i,s,j]) (by rw[a];simp[-append_assoc,IF i,p,c];omega) Om with⟨C,D,m,E,_,w',s',y,l'⟩|⟨m,l'⟩;grind;exact .inr ⟨m,Om⟩;rw[zU,bt Uc];exact .inr ⟨g,Om⟩;rw[zU,bt Uc];exact .inr ⟨e,Om⟩
def GP.of{T sz d}(h:GP T sz d)(hs:sz<=4096)(b:d<=64){L}(a:Wf L):(Proofs.of L T).2.1=0\/(Proofs.of L T=(0,6,L)/\65536<L.length+sz):=by
 unfold Proofs.of;rw[h.xc 0 0 Om Om Om Om,aw Sm];rcases h.C7 L a hs b with⟨r,M,e,_⟩|⟨e,l⟩;rw[e];simp;grind
def yt{x}(h:x.size<=64):GP (qS x) 1 1:=Mc (by
 have b:zM ⟨3,0,0,0,x,0,0⟩=0:=Kf;have a:zO (fl 3) ⟨3,0,0,0,x,0,0⟩=0:=by show(if ak=ai then(50:Int)else if x.size>64 then 1 else 0)=0;rw[aw Sm,aw Om]
 unfold uA;simp only[b];simpa[fl]using a)
def Fj(c):GP (ot c) 1 1:=Mc Kf
def wX{a b sa da sb db}(c:GP a sa da)(d:GP b sb db):GP (yQ a b) (1+(sa+sb)) (max da db+1):=W7 Kf c d
def Ao{n}(c:n=0\/n=1\/n=2){a sa da}(b:GP a sa da):GP (uO n a) (1+sa) (da+1):=G0 (by rcases c with rfl|rfl|rfl<;>kernel_rfl) b
def Js{n}(c:n=0\/n=1){a g sa da}(b:GP a sa da):GP (yZ n a g) (1+sa) (da+1):=by
 unfold yZ;cases g;exact G0 (by rcases c with rfl|rfl<;>kernel_rfl) b;exact G0 (by rcases c with rfl|rfl<;>kernel_rfl) b
def JY(c){x}(h:x.size<=64):GP (qQ c x) 5 3:=wX (yt De)<|wX (Fj c)<|yt h
def LG{l}(f:l.cj=0\/l.cj=1)(hx:l.cf.size<=64)(a b):∃sz d,GP (zR l a b) sz d/\sz<=40/\d<=20:=by
 unfold zR;have e:=JY l.c hx;split;· exact⟨_,_,Js f e,Om,Om⟩
 split;· exact⟨_,_,Ao (f.imp id .inl) e,Om,Om⟩
 split;· exact⟨_,_,Ao (.inl rfl)<|wX (yt De)<|Fj _,Om,Om⟩
 split;· exact⟨_,_,Ao (f.imp id .inl)<|wX (yt De)<|wX (Js (.inl rfl) e)<|Js (.inr rfl) e,Om,Om⟩
 split;· exact⟨_,_,Ao (.inr<|.inr rfl)<|wX (yt De)<|Fj _,Om,Om⟩
 split;· exact⟨_,_,Ao (.inr<|.inr rfl)<|wX (yt De) e,Om,Om⟩
 exact⟨_,_,wX (yt De)<|Fj _,Om,Om⟩
def Nm{L t}(h:(ar L t).ba≠0):bj L t=ai:=by
 cases hi:bj L t with
 |true=>rfl
 |false=>rw[ML hi]at h;exact absurd rfl h
def zGH{L}(d:Wf L){t}(c:(ar L t).ba=6):ar L t=zQ (ar L t).cj:=by
 have ht:=Nm (L:=L) (t:=t) Om;have⟨h1,h2,h3,_⟩:=d.dr ht;generalize ar L t=n at *;have⟨k,f,to,u,x,a,b⟩:=n;simp only at c;subst c;unfold zM at h1;simp[fl,qe]at h1;simp[fl]at h2 h3;unfold zQ;simp only[gP.mk.injEq,true_and];exact⟨h1.1.1,h1.1.2,h1.2,h2,h3⟩
def zHB{L}(a:Wf L){t}(b:(ar L t).ba=6):∃i,find L (zQ (ar L t).cj)=ab i/\t=(i:Int)+1:=by
 have ht:=Nm (L:=L) (t:=t) Om;obtain⟨i,hi,rfl⟩:=wC ht;refine⟨i,?_,rfl⟩;rw[<-zGH a b,qO hi];exact Go.Proofs.IQ a.ok<|List.getElem?_eq_getElem hi
section
variable {L:bw} {G M:List Int} {S:List ln}
end
def VP(L G l):∃X,(zT L G l).2.2.2=L++X:=by
 unfold zT;split;exact⟨[],Sm⟩;split;exact⟨[],Sm⟩;split<;>exact MS G l L []
structure tm(w0:af)(H:NP)(w:af)(p k:ao)(L:bw)(G:List Int)(S:List ln)(FP F:NP):Prop where
 ew:zH w p L FP
 ic:qC w k p G S F
 pure:aq w0 w
 oP:∀b,FP b->w0.heap.size<=b/\¬H b
 oF:∀b,F b->w0.heap.size<=b/\¬H b/\¬FP b
 hs:au w0 H w H w
section
variable {w0 w w':af} {H H':NP} {p k:ao} {L L':bw} {G G':List Int} {S S':List ln} {FP FP' F F':NP}
def tm.zk(h:tm w0 H w p k L G S FP F)(E:aq w w'):tm w0 H w' p k L G S FP F:=⟨h.ew.pure E,h.ic.pure E,h.pure.trans E,h.oP,h.oF,h.hs.jg E.dy⟩
def tm.bh(h:tm w0 H w p k L G S FP F)(hs:au w0 H w H' w'):tm w0 H' w' p k L G S FP F:=by
 have d:=hs.mn (G:=FP) fun b a=>⟨h.ew.lt a,(h.oP b a).2⟩;have c:=hs.mn (G:=F) fun b a=>⟨h.ic.lt a,(h.oF b a).2.1⟩;exact⟨h.ew.ext hs.ext d,h.ic.ext hs.ext c,h.pure.bh hs,fun b a=>⟨(h.oP b a).1,d b a⟩,fun b a=>⟨(h.oF b a).1,c b a,(h.oF b a).2.2⟩,hs.jj⟩
def tm.bz(h:tm w0 H w p k L G S FP F)(e:zH w' p L' FP')(E:aj FP w w')(d:∀b,FP' b->FP b\/w.heap.size<=b):av H w w'/\tm w0 H w' p k L' G S FP' F:=by
 have c:av H w w':=E.ff fun b a f=>(h.oP b f).2 a;refine⟨c,e,h.ic.ext E fun b a=>(h.oF b a).2.2,h.pure.ft E fun i hi a=>Oh<|(h.oP i a).1,fun b a=>?_,fun b a=>⟨(h.oF b a).1,(h.oF b a).2.1,fun hx=>?_⟩,h.hs.jg c⟩;rcases d b a with h1|h1;exact h.oP b h1;exact⟨Oh h.pure.size,fun hh=>Oh<|h.hs.lt b hh⟩;rcases d b hx with h1|h1;exact(h.oF b a).2.2 h1;have:=h.ic.lt a;omega
def tm.add(h:tm w0 H w p k L G S FP F)(e:qC w' k p G' S' F')(E:aj F w w')(f:∀b,F' b->F b\/w.heap.size<=b):av H w w'/\tm w0 H w' p k L G' S' FP F':=by
 have d:av H w w':=E.ff fun b a c=>(h.oF b c).2.1 a;refine⟨d,h.ew.ext E fun b a c=>(h.oF b c).2.2 a,e,h.pure.ft E fun i hi a=>Oh<|(h.oF i a).1,h.oP,fun b a=>?_,h.hs.jg d⟩;rcases f b a with h1|h1;exact h.oF b h1;exact⟨Oh h.pure.size,fun hh=>Oh<|h.hs.lt b hh,fun hh=>Oh<|h.ew.lt hh⟩
end
structure AE(w0:af)(H:NP)(w:af)(p q:ao)(L1 L2:bw)(t:Sl)(ids:List Int)(F1 F2:NP):Prop where
 pure:aq w0 w
 ew:zH w p L1 F1
 yc:vJ w q L2 F2
 ts:c9 w 73 1 t (fv ids)
 o1:∀b,F1 b->w0.heap.size<=b/\¬H b/\¬F2 b/\¬t.bg b
 o2:∀b,F2 b->w0.heap.size<=b/\¬H b/\¬t.bg b
 o3:∀b,t.bg b->w0.heap.size<=b/\¬H b
section
variable {w0 w w':af} {H H':NP} {p q:ao} {L1 L2:bw} {t:Sl} {ids:List Int} {F1 F2:NP}
def AE.zk(h:AE w0 H w p q L1 L2 t ids F1 F2)(E:aq w w'):AE w0 H w' p q L1 L2 t ids F1 F2:=⟨h.pure.trans E,h.ew.pure E,h.yc.pure E,h.ts.pure E,h.o1,h.o2,h.o3⟩
def AE.bh(h:AE w0 H w p q L1 L2 t ids F1 F2)(hs:au w0 H w H' w'):AE w0 H' w' p q L1 L2 t ids F1 F2:=by
 have d:∀b,b<w.heap.size->¬H b->¬H' b:=fun b h1 h2=>hs.mn (G:=(·=b)) (fun c e=>by subst e;exact⟨h1,h2⟩) b rfl;have d1:∀b,F1 b->¬H' b:=fun b a=>d b (h.ew.lt a) (h.o1 b a).2.1;have d2:∀b,F2 b->¬H' b:=fun b a=>d b (h.yc.lt a) (h.o2 b a).2.1;have d3:∀b,t.bg b->¬H' b:=fun b a=>d b (h.ts.lt a) (h.o3 b a).2;exact⟨h.pure.bh hs,h.ew.ext hs.ext d1,h.yc.ext hs.ext d2,h.ts.ext hs.ext d3,fun b a=>⟨(h.o1 b a).1,d1 b a,(h.o1 b a).2.2⟩,fun b a=>⟨(h.o2 b a).1,d2 b a,(h.o2 b a).2.2⟩,fun b a=>⟨(h.o3 b a).1,d3 b a⟩⟩
end
def Jl{P:ez}{t e:dz}{sz bytes:Nat}(T:nY P t e sz bytes){w d:af}{ty:dz}{p:ao}(l:fp w (.cells #[] e) p d){S:NP}{x:Sl}{qs:List (List bk)}(hx:gr S w sz x qs)(s:∀q∈qs,q.length=sz)(h1:∀q∈qs,q.all vC=ai)(g:qs.length*bytes<=140737488355328)(A:qs.length<=maxLen){H:NP}(y:∀b,H b->b<w.heap.size):
  ∃s' c,(cm #[t,t] ty #[(Sl.mk (ab p) 0 0).v,x.v]).run P d=.ok s'.v c/\c9 c e sz s' qs/\aq w c/\av H d c/\∀b,s'.bg b->w.heap.size<=b:=by
 have k:aq w d:=aj.bu l
 have⟨r,c,n,z,m,j⟩:=(c9.empty (sz:=sz) l).Am (P:=P) (ty:=ty) T (hx.pure k) s h1 Uc Uc
 have u:=l.gp
 have f:∀b,(Sl.mk (ab p) 0 0).bg b->w.heap.size<=b:=fun b g=>(by have⟨a,o,e⟩:=g;cases o;omega)
 exact⟨r,c,n,Uc,k.ft m fun i hi h=>Uc,m.ff fun b hh g=>Uc,fun b h=>(j b h).elim (f b) fun h=>Oh k.size⟩
section
variable {w0 w w':af} {H H':NP} {p q k:ao} {L:bw} {G:List Int} {S:List ln} {FP FR F:NP}
end
end Go.Proofs
end
