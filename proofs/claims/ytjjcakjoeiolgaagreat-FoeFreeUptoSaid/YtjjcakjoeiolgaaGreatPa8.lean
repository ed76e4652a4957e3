import Derived.Test.YtjjcakjoeiolgaaGreatProg
import Derived.KernelRfl
import Derived.Test.YtjjcakjoeiolgaaGreatPa3
import Derived.Test.YtjjcakjoeiolgaaGreatPa2
import Derived.Test.YtjjcakjoeiolgaaGreatPa6
import Derived.Test.YtjjcakjoeiolgaaGreatPa4
import Derived.Test.YtjjcakjoeiolgaaGreatPa1
import Derived.WalkKit
import Derived.Shelf.SlSortCmp.NoneTotal
import Derived.Sort.Walk0
import Derived.Sort.Statements
import Derived.Shelf.SlSortCmp.Insertion
import Derived.Lib.SlicesCompact
import Init.Data.List.Lex
import Derived.Test.YtjjcakjoeiolgaaGreatPa7
import Derived.Test.YtjjcakjoeiolgaaGreatPa5
import Derived.Laws.Strings
import Derived.Shelf.SlicesG.CompactS
import Derived.Test.YtjjcakjoeiolgaaGreatPa0
import Derived.ProofKit
import Derived.Carry
import Derived.OpenShut
import Derived.Stop.Joined
import Derived.JoinedCond
set_option linter.defProp false
section
open Go Go.SE List
open Go.IntKind renaming i64 -> q6
namespace Go.Proofs
open Tryz
set_option maxRecDepth 100000
set_option maxHeartbeats 4000000
attribute [local irreducible] bu fw fg dv Calls
attribute [local irreducible] jq W WV WR uC pv ku jn oe ka mm kq ll np my iy ez ij nn kz kp uS xD yC bn ub
def jcA(a:Sl)(c:Int)(b:World)(d:Int->WP)(K:Int->WP):Prop:=Br (decide (c<(a.len:Int))) (∃a1:Addr,At a c 1 a1/\li b a1 fun e=>Br (e !=0) (K e b)<|d (q6.wrap<|c+1) b)<|K 0 b
def KH(b:Sl)(g:World)(K:Int->WP):Prop:=∃(f:Int->WP) (d:Int->World->Nat),f 0 g/\∀(e:Int) (a:World),f e a->jcA b e a (fun c w'=>f c w'/\d c w'<d e a) K
def TK(vals1 w0 K)(h:KH vals1 w0 K):
  cl 77 #[vals1.v] w0<|XB K:=
 cy func77 h<|As 5 [3,6,7] (fun a=>[(8,(vi a))])<|fun {_ _ a}=>fun b=>br 0 1 (ix 1<|ld 0<|br 0 4 (rr 3)<|df 3 b)<|rr 3
def Z7(a:Int):Bool:=(a !=a)
def Od(a:Int)(c:World):cl 145 #[(.int .i64 a)] c (fun e w'=>e=.returned (.bool<|Z7 a)/\Pure c w'):=
 jr func145 [] (fun b=>(vb<|a !=a)) fun d=>fe 5 d
def Mm(b a:Int):Int:=(cond (b !=b) (cond (a !=a) 0<|-1)<|cond (a !=a) 1<|cond (decide (b<a)) (-1)<|cond (decide (b>a)) 1 0)
def GK(d c:Int)(f:World):cl 78 #[(.int .i64 d),(.int .i64 c)] f (fun e w'=>e=.returned (.int .i64<|Mm d c)/\Pure f w'):=
 jr func78 [(d !=d),(c !=c),(decide (d<c)),(decide (d>c))] (fun b=>(vi<|cond (b 0) (cond (b 1) 0<|-1)<|cond (b 1) 1<|cond (b 2) (-1)<|cond (b 3) 1 0)) fun a=>cp 2 call145 (Od d)<|cp 2 call145 (Od c)<|pb 0 2 0 a (fun a=>pb 0 2 1 a (fun a=>fe 2 a)<|fun a=>fe 2 a)<|fun a=>pb 0 2 1 a (fun a=>fe 2 a)<|fun a=>pb 0 4 2 a (fun a=>fe 2 a)<|fun a=>pb 0 4 3 a (fun a=>fe 2 a)<|fun a=>fe 2 a
def jcd(a:Int):Bool:=(a !=a)
def OI(a:Int)(c:World):cl 146 #[(.int .u64 a)] c (fun e w'=>e=.returned (.bool<|jcd a)/\Pure c w'):=
 jr func146 [] (fun b=>(vb<|a !=a)) fun d=>fe 5 d
def Fo(b a:Int):Int:=(cond (b !=b) (cond (a !=a) 0<|-1)<|cond (a !=a) 1<|cond (decide (b<a)) (-1)<|cond (decide (b>a)) 1 0)
def jak(d c:Int)(f:World):cl 79 #[(.int .u64 d),(.int .u64 c)] f (fun e w'=>e=.returned (.int .i64<|Fo d c)/\Pure f w'):=
 jr func79 [(d !=d),(c !=c),(decide (d<c)),(decide (d>c))] (fun b=>(vi<|cond (b 0) (cond (b 1) 0<|-1)<|cond (b 1) 1<|cond (b 2) (-1)<|cond (b 3) 1 0)) fun a=>cp 2 call146 (OI d)<|cp 2 call146 (OI c)<|pb 0 2 0 a (fun a=>pb 0 2 1 a (fun a=>fe 2 a)<|fun a=>fe 2 a)<|fun a=>pb 0 2 1 a (fun a=>fe 2 a)<|fun a=>pb 0 4 2 a (fun a=>fe 2 a)<|fun a=>pb 0 4 3 a (fun a=>fe 2 a)<|fun a=>fe 2 a
def RG(a:ByteArray):Bool:=(!(decide (a=a)))
def Kz(a:ByteArray)(c:World):cl 147 #[(.string a)] c (fun e w'=>e=.returned (.bool<|RG a)/\Pure c w'):=
 jr func147 [] (fun b=>(vb<|!(decide (a=a)))) fun d=>fe 5 d
def Th(d c:ByteArray)(b:World)(K:Int->WP):Prop:=Br (!(decide (d=d))) (Br (!(decide (c=c))) (∀a,af b ar b ar a->K 0 a)<|∀a,af b ar b ar a->K (-1) a)<|Br (!(decide (c=c))) (∀a,af b ar b ar a->K 1 a)<|∀a,af b ar b ar a->∃b1,(Go.binOp .lss 9 (vs d)<|vs c).run prog a=.ok (vb b1) a/\Br b1 (K (-1) a) (∃b2,(Go.binOp .gtr 9 (vs d)<|vs c).run prog a=.ok (vb b2) a/\Br b2 (K 1 a) (K 0 a))
def QC(x1 y1 w0 K)(h:Th x1 y1 w0 K):
  cl 80 #[(vs x1),(vs y1)] w0<|XB K:=
 du func80 h<|cp 2 call147 (Kz x1)<|cp 2 call147 (Kz y1)<|br 0 2 (br 0 2 (an<|rr 2)<|an<|rr 2)<|br 0 2 (an<|rr 2)<|an<|xe<|rb 3<|br 0 0 (rr 2)<|xe<|rb 3<|br 0 0 (rr 2)<|rr 2
def yB(a0 a1 a2:Int)(a3:ByteArray)(a4:Bool)(b0 b1 b2:Int)(b3:ByteArray)(b4:Bool)(w:World):(Go.binOp .eql 35 (.agg #[(.int .i64 a0),(.int .i64 a1),(.int .u64 a2),(.string a3),(.bool a4)])<|.agg #[(.int .i64 b0),(.int .i64 b1),(.int .u64 b2),(.string b3),(.bool b4)]).run prog w=.ok (.bool<|(a0==b0)&&((a1==b1)&&((a2==b2)&&((decide (a3=b3))&&(a4==b4))))) w:=by
 simp[Go.binOp,Op.equal,Op.maxDepth,go_sem,zp,bne]
 repeat' split
 all_goals simp_all
def yA(a0 a1 a2:Int)(a3:ByteArray)(a4:Bool)(b0 b1 b2:Int)(b3:ByteArray)(b4:Bool)(w:World):(Go.binOp .neq 35 (.agg #[(.int .i64 a0),(.int .i64 a1),(.int .u64 a2),(.string a3),(.bool a4)])<|.agg #[(.int .i64 b0),(.int .i64 b1),(.int .u64 b2),(.string b3),(.bool b4)]).run prog w=.ok (.bool<|!((a0==b0)&&((a1==b1)&&((a2==b2)&&((decide (a3=b3))&&(a4==b4)))))) w:=by
 simp[Go.binOp,Op.equal,Op.maxDepth,go_sem,zp,bne]
 repeat' split
 all_goals simp_all
def Ql(s1 h:Sl)(f a:Int)(D:World)(b:NP)(c:World)(e:Int->Int->NP->WP)(K:Sl->WP):Prop:=Br (decide (a<(h.len:Int))) (∃a3:Addr,At h a 5 a3/\∀d,af D b c b d->∃o t A n y,Row d a3 (Ae o t A n y)/\∃a4:Addr,At h (q6.wrap<|a-1) 5 a4/\∃q C z p x,Row d a4 (Ae q C z p x)/\Br (!((o==q)&&((t==C)&&((A==z)&&((decide (n=p))&&(y==x)))))) (∃a5:Addr,At h a 5 a5/\∃u k l w s,Row d a5 (Ae u k l w s)/\∃i:Addr,At s1 f 5 i/\(∀j,j<5->zL d (i.add j))/\¬b i.block/\∀B,B=bd d i (Ae u k l w s)->e (q6.wrap<|f+1) (q6.wrap<|a+1) b B) (e f (q6.wrap<|a+1) b d))<|∃r:Sl,(Instr.sliceAt 64 s1.v (some<|vi f) none none).run prog c=.ok r.v c/\∃g:World,(Builtin.clear_ #[64] 0 #[r.v]).run prog c=.ok (.tuple #[]) g/\aj b c g/\∃m:Sl,(Instr.sliceAt 64 s1.v none (some<|vi f) none).run prog g=.ok m.v g/\K m g
def jbr(s1:Sl)(f:Int)(n:World)(b:NP)(h:World)(l:Int->NP->WP)(K:Sl->WP):Prop:=Br (decide (f<(s1.len:Int))) (∃a1:Addr,At s1 f 5 a1/\∀e,af n b h b e->∃q r p z w,Row e a1 (Ae q r p z w)/\∃a2:Addr,At s1 (q6.wrap<|f-1) 5 a2/\∃u s t y x,Row e a2 (Ae u s t y x)/\Br ((q==u)&&((r==s)&&((p==t)&&((decide (z=y))&&(w==x))))) (∃o:Sl,(Instr.sliceAt 64 s1.v (some<|vi f) none none).run prog e=.ok o.v e/\∃(k:Int->Int->NP->WP) (j:Int->Int->World->Nat),k f 1 b e/\∀(m d:Int) (c:NP) (a:World),af n c a c a->k m d c a->Ql s1 o m d n c a (fun i g A w'=>k i g A w'/\j i g w'<j m d a) K) (l (q6.wrap<|f+1) b e))<|K s1 h
def Hk(s1:Sl)(e:World)(K:Sl->WP):Prop:=Br (decide ((s1.len:Int)<2)) (K s1 e)<|∃(f:Int->NP->WP) (d:Int->World->Nat),f 1 ar e/\∀(g:Int) (b:NP) (a:World),af e b a b a->f g b a->jbr s1 g e b a (fun c h w'=>f c h w'/\d c w'<d g a) K
def Xu(s1 w0 K)(h:Hk s1 w0 K):
  cl 81 #[s1.v] w0<|XA K:=
 du func81 h<|br 0 4 (rr 3)<|uw 2 [0] (fun d=>[(3,(vi d))])<|fun {_ _ d}=>fun z=>br 0 4 (dq 1<|ix 2<|an<|gv<|fun {f g e w q}=>lr 0<|ix 3<|gv<|fun {p i j t r}=>lr 0<|ae 0 (yB f g e w q p i j t r)<|br 0 0 (xe<|rn 3<|vh 2 [0,4] (fun c a=>[(3,(vi c)),(5,(vi a))])<|fun {_ _ c a}=>fun b=>br 0 4 (dq 1<|ix 2<|an<|gv<|fun {l o x k u}=>lr 0<|ix 3<|gv<|fun {n A y m s}=>lr 0<|ae 0 (yA l o x k u n A y m s)<|br 0 0 (ix 5<|gv<|lr 0<|ix 0<|wP 0<|je 6 0 b)<|je 4 0 b)<|xe<|rn 3<|xe<|ef 0<|iv<|xe<|rn 2<|rr 1)<|je 4 0 z)<|rr 3
def TV(a:Value)(b:World)(K:Sl->WP):Prop:=cl 276 #[Sl.nil.v,a] b<|XA K
def jbm(seq1 w0 K)(h:TV seq1 w0 K):
  cl 186 #[seq1] w0<|XA K:=
 cy func186 h<|gd 2 call276<|rr 1
def V0(a:Value)(d:World)(K:Sl->WP):Prop:=cl 186 #[a] d fun e c=>∃r1:Sl,e=.returned r1.v/\cl 187 #[r1.v] c fun e b=>e=.returned (.tuple #[])/\K r1 b
def QU(seq1 w0 K)(h:V0 seq1 w0 K):
  cl 137 #[seq1] w0<|XA K:=
 cy func137 h<|gd 2 call186<|wF 2 call187<|rr 2
def RU(s1:Sl)(c:World)(K:Value->WP):Prop:=∀a b,av c (.cells #[s1.v] 46) a b->K (.func (.func 188) #[] #[(vp<|some a)]) b
def jbX(s1 w0 K)(h:RU s1 w0 K):
  cl 138 #[s1.v] w0<|fun e w'=>∃r1:Value,e=.returned r1/\K r1 w':=
 cy func138 h<|cf 0<|rr 3
end Go.Proofs
end
section
open Go Go.SE List Go.Sort
namespace Go.Proofs
open Tryz
abbrev SP(a:World)(s:Sl)(Q:List Int->Prop)(w':World):Prop:=∃l,bg w' 73 1 s (cd l)/\ab s.aq a w'/\Q l
def Qo(l:List Int):(cd l).flatten=l.map (Value.int .i64):=by
 induction l with
 |nil=>rfl
 |cons a l b=>simp only[cd,map_cons,flatten_cons]at *;rw[b];rfl
def jay(s:Sl)(l:List Int)(f:World)(h:bg f 73 1 s (cd l))(K:l.length<=1000000):
  cl 187 #[s.v] f<|fun e w'=>e=.returned (.tuple #[])/\SP f s (fun l'=>l'.Perm l/\l'.Pairwise (·<=·)) w':=by
 have z:s.len=l.length:=by rw[h.len];simp[cd]
 rcases h.ak with⟨rfl,m⟩|⟨b,cur,u,o,I,hm,hs,ht⟩
 have G:l=[]:=by simpa[cd]using m
 subst G
 refine(show cl 187 #[Sl.nil.v] f _ from AnyG.slices_Sort_int_none KR none 0 f).mono ?_
 rintro _ w' ⟨rfl,rfl⟩
 exact⟨rfl,[],h,ab.refl _,.refl _,.nil⟩
 have g:(cd l).length=l.length:=by simp[cd]
 rw[Qo,g,Nat.mul_one]at ht
 rw[g]at I
 rw[Nat.mul_one]at hs
 have B:b<f.heap.size:=xA o
 have k:∀j,j<l.length->∃d:j<l.length,cur[j]?=some (vi l[j]):=fun j d=>⟨d,by
  have:cur.toList[j]?=(cur.toList.take l.length)[j]?:=by rw[getElem?_take_of_lt d]
  rw[<-Array.getElem?_toList,this,ht,getElem?_map,getElem?_eq_getElem d];rfl⟩
 have E:Holds (Value.int .i64) f b 0 l.toArray:=by
  intro j d;have d:j<l.length:=by simpa using d
  have⟨_,e⟩:=k j d;refine⟨?_,?_⟩;unfold World.cell?;rw[o];simp only[Option.isSome_none,Bool.false_eq_true,if_false,Nat.zero_add];rw[e,getElem!_pos l.toArray j<|by simpa using d];simp;unfold World.frozen?;rw[o];simp
 have F:s.v=.slice (some ⟨b,0,none⟩) l.length s.cap:=by unfold Sl.v;rw[u,z]
 rw[F]
 refine(show cl 187 #[.slice (some ⟨b,0,none⟩) l.length s.cap] f _ from AnyG.slices_Sort_int KR b 0 s.cap l f E B Om).mono ?_
 rintro _ w' ⟨rfl,n,os,rfl⟩
 have A:(l.mergeSort fun x y=>decide (x<=y)).Perm l:=mergeSort_perm l _
 have w:(l.mergeSort fun x y=>decide (x<=y)).Pairwise (·<=·):=by
  have:=pairwise_mergeSort (le:=fun x y:Int=>decide (x<=y)) (fun a b c h1 h2=>by simp at *;omega) (fun a b=>So) l;simpa using this
 have D:(l.mergeSort fun x y=>decide (x<=y)).length=l.length:=A.length_eq
 generalize (l.mergeSort fun x y=>decide (x<=y))=q at *
 refine⟨rfl,q,⟨?_,?_,.inr ⟨b,putCells (Value.int .i64) 0 q.toArray cur,u,?_,by simp[cd];omega,hm,by simp[putCells,hs],?_⟩⟩,?_,A,w⟩
 intro r hr;simp[cd]at hr;obtain⟨t,_,rfl⟩:=hr;rfl
 rw[z];simp[cd,D]
 rw[heap_grow_old _ _<|by simpa using B]
 simp[putRow,mapBlock,Sort.ahead,Array.getElem?_modify,o,onCells]
 rw[Qo]
 apply ext_getElem?
 intro j
 have J:(cd q).length*1=q.length:=by simp[cd]
 rw[J]
 by_cases d:j<q.length
 rw[getElem?_take_of_lt d,Array.getElem?_toList]
 unfold putCells
 rw[Array.getElem?_mapIdx,Array.getElem?_eq_getElem<|show j<cur.size by omega,Option.map_some,if_pos ⟨Nat.zero_le _,So⟩,Nat.sub_zero,getElem!_pos _ j<|by simpa using d,getElem?_map,getElem?_eq_getElem d]
 simp
 rw[getElem?_eq_none So,getElem?_eq_none So]
 refine⟨rfl,rfl,rfl,Nat.le_add_right _ _,by simp[size_grow],fun i hi C=>?_⟩
 have p:b≠i:=fun H=>C ⟨_,u,H⟩
 rw[heap_grow_old _ _<|by simpa using hi]
 simp[putRow,mapBlock,Sort.ahead,Array.getElem?_modify,p]
end Go.Proofs
end
section
open Go Go.SE List
namespace Go.Proofs
open Tryz
attribute [local irreducible] Calls
def sK.sD{P:Program}{b:FuncId}{lb:Array Value}{α:Type}{encs:α->Array Value}{xs:List α}{Rd:WP}{w a:World}(h:sK P b lb encs xs Rd w)(E:Pure w a):sK P b lb encs xs Rd a:=
 fun l J c W d=>h l J c W<|E.trans d
def zAK{S:NP}{p:Addr}{s:Sl}{xs:List Int}{r:World}(hB:ai r p [s.v] 46)(D:xs.length<=1000000):
  sK prog 188 #[vp<|some p] (fun z:Int=>#[vi z]) xs (fun A=>dr S A 1 s<|cd xs) r:=by
 intro l J B W E n F u d y
 refine(TQ (.func (.yield l) #[] #[]) p W (fun A=>∃X,af W X A X A/\(J xs X A\/∃ba,B ba X A)) ?_).mono fun e A h=>⟨⟨_,h.1⟩,h.2⟩
 refine⟨s,(hB.pure E).bf,fun x A=>∃j:Nat,x=j/\j<=xs.length/\af W ar A ar A/\J (xs.take j) ar A,fun x _=>((xs.length:Int)-x).toNat,⟨0,rfl,Nat.zero_le _,af.start W,y⟩,?_⟩
 rintro _ A ⟨j,rfl,C,k,c⟩
 unfold LW
 have q:=n _ _ _ c
 have g:s.len=xs.length:=by rw[q.len,vA]
 refine⟨fun b=>?_,fun b=>?_⟩
 have b:=vQ g b
 have⟨a,o,_,w⟩:=uJ q b
 refine⟨a,o,_,w,l,rfl,?_⟩
 refine(d (xs.take j) xs[j] _ A c k ⟨xs.drop<|j+1,by rw[<-drop_eq_getElem_cons b,take_append_drop]⟩).mono ?_
 rintro e A' (⟨rfl,m,i⟩|⟨rfl,m,i⟩)
 refine⟨_,rfl,Br.f rfl ⟨⟨j+1,zM b Om,b,k.ib m,by rw[take_succ_eq_append_getElem b];exact i⟩,?_⟩⟩
 rw[zM b Om]
 exact yQ b
 exact⟨_,rfl,Br.t rfl ⟨_,k.ib m,.inr ⟨_,i⟩⟩⟩
 have b:=qU g C b
 subst b
 rw[take_length]at c
 exact⟨_,k,.inl c⟩
def jTX{S:NP}{T:Addr}{s:Sl}{xs:List Int}(j:World)(hB:ai j T [s.v] 46)(V:dr S j 1 s (cd xs))(hS:∀b,S b->b<j.heap.size)(Z:xs.length<=1000000):
  cl 276 #[Sl.nil.v,.func (.func 188) #[] #[vp<|some T]] j<|XA fun r w'=>fv j 73 1 (cd xs) r w':=by
 refine Tc _ _ j _ ?_
 unfold Nm
 have u:∀b,¬Sl.nil.aq b:=fun b d=>by have⟨a,h,_⟩:=d;cases h
 intro g y h1
 have n:Pure j y:=ab.ax h1
 have s1:=h1.cu
 have R:=ai.bj h1
 have l1:=R.lt
 refine⟨_,_,rfl,call188,xs,_,sK.sD (zAK (S:=S) hB Z) n,?_⟩
 refine⟨fun ba Y A=>∃so:Sl,ai A g [so.v] 46/\bg A 73 1 so (cd ba)/\dr S A 1 s (cd xs)/\Pure j A/\(∀b,so.aq b->y.heap.size<=b/\¬Y b)/\¬Y g.block/\y.heap.size<=A.heap.size,⟨?_,?_,fun _ _ _ _ _ h=>h.elim,fun _ _ _ _ _ h=>h.elim⟩,?_,?_,?_⟩
 rintro ba Y A ⟨so,_,_,h,_⟩;exact h
 rintro ba Y A N A' ⟨so,b1,l,x,q,f,p,D⟩ hs
 have d1:¬N g.block:=hs.ji (G:=(·=g.block)) (fun b e=>by subst e;exact⟨b1.lt,p⟩) _ rfl
 have d2:∀b,so.aq b->¬N b:=hs.ji (G:=so.aq) fun b d=>⟨l.lt d,(f b d).2⟩
 exact⟨so,b1.ext hs.ext d1,l.ext hs.ext d2,x.au hs hS,q.au hs,fun b d=>⟨(f b d).1,d2 b d⟩,d1,Nat.le_trans D hs.ext.size⟩
 exact⟨Sl.nil,R,bg.nil _ _ _,V.pure n,n,fun b d=>(u b d).elim,id,Nat.le_refl _⟩
 rintro ba z Y A ⟨so,b1,l,x,q,f,p,D⟩ F ⟨M,m⟩
 have hpl:ba.length<xs.length:=by rw[m];simp
 refine⟨so,b1.bf,?_⟩
 intro p2 U h2
 have B:Pure A U:=ab.ax h2
 have⟨w,L,J,W,C,Q⟩:=(l.pure B).append (P:=prog) (ty:=46) (c:=1) sZ (r:=[vi z]) (ai.bj h2).row rfl rfl (by rw[vA];omega) (by rw[vA];simp[maxLen];omega)
 have d1:¬so.aq g.block:=fun d=>Oh<|(f _ d).1
 have b3:=(b1.pure B).ext C d1
 have z2:=B.size;have z3:=C.size
 have I:aj ar U L:=C.bk fun b d=>d.elim
 refine⟨w,L,J,I,b3.gx Sm,id,fun K O=>?_⟩
 have E:ab (·=g.block) L K:=by rw[O];exact ab.setCell g _
 have b4:ai K g [w.v] 46:=by rw[O];exact b3.jh
 have o2:∀b,w.aq b->y.heap.size<=b:=fun b d=>(Q b d).elim (fun h=>(f b h).1) fun h=>Om
 have o:=F.lt
 have H:ab (fun b=>so.aq b\/b=g.block) A K:=((B.pure).trans<|C.mono fun b _ h=>.inl h).trans (E.mono fun b _ h=>.inr h)
 refine⟨H.bk fun b t d=>d.elim (fun h=>(f b h).2 t) fun h=>p<|h▸t,w,b4,?_,?_,?_,fun b d=>⟨o2 b d,fun t=>(Q b d).elim (fun h=>(f b h).2 t) fun h=>Oh<|o b t⟩,p,Oh E.size⟩
 rw[show cd (ba++[z])=cd ba++[[vi z]] by simp[cd]]
 exact W.ext E fun b d e=>Oh<|o2 b d
 exact x.ext H (fun b d h=>by have:=hS b d;rcases h with h|h;(· have:=(f b h).1;have:=n.size;omega);(· omega))
 exact q.cg H (fun i hi d=>by rcases d with h|h;(· have:=(f i h).1;have:=n.size;omega);(· omega))
 rintro H1 w5 X _ _ ⟨so,b1,l,x,q,f,p,D⟩
 refine⟨so,b1.bf,fun w6 k=>⟨l.ext k.ext<|k.ji (G:=so.aq) fun b d=>⟨l.lt d,(f b d).2⟩,fun b d=>Oi ((f b d).1) n.size,q.au k⟩⟩
def WX{S:NP}{d:Addr}{s:Sl}{xs:List Int}(a:World)(hB:ai a d [s.v] 46)(f:dr S a 1 s (cd xs))(hS:∀b,S b->b<a.heap.size)(e:xs.length<=1000000):
  cl 137 #[.func (.func 188) #[] #[vp<|some d]] a<|XA fun r w'=>∃l,fv a 73 1 (cd l) r w'/\l.Perm xs/\l.Pairwise (·<=·):=by
 refine QU _ a _ ?_
 refine(jbm _ a (fun r w'=>fv a 73 1 (cd xs) r w') ?_).mono ?_
 refine(jTX a hB f hS e).mono ?_
 rintro _ c ⟨r,rfl,hr⟩
 exact⟨r,rfl,hr⟩
 rintro _ c ⟨r,rfl,hr⟩
 refine⟨r,rfl,?_⟩
 refine(jay r xs c hr.cm e).mono ?_
 rintro _ m ⟨rfl,l,g,j,h,hs⟩
 exact⟨rfl,l,⟨g,hr.ak,hr.pure.cg j fun i hi k=>Oh<|hr.ak i k⟩,h,hs⟩
def jYB(k p:Addr)(a:World){G:List Int}{W:List gy}{F:NP}(h:qI a k p G W F)(o:(zH W).length<=1000000):
  cl 72 #[vp<|some k] a<|XA fun r w'=>∃l,fv a 73 1 (cd l) r w'/\l.Perm (zH W)/\l.Pairwise (·<=·):=by
 refine jbF _ a _ ?_
 unfold Lk
 have⟨sg,m,sl,h,q⟩:=h
 refine Br.f rfl ⟨k,rfl,sl,h.box.cell rfl,?_⟩
 refine(jbX sl a (fun r w'=>∃c,r=.func (.func 188) #[] #[vp<|some c]/\ai w' c [sl.v] 46/\Pure a w') ?_).mono ?_
 intro c i h1
 exact⟨c,rfl,ai.bj h1,ab.ax h1⟩
 rintro _ i ⟨r,rfl,c,rfl,n,d⟩
 refine⟨_,rfl,?_⟩
 refine(WX (S:=sl.aq) i n (h.pW.pure d).el (fun b g=>(h.pW.pure d).lt g) o).mono ?_
 rintro _ s ⟨r2,rfl,l,e,j,hs⟩
 exact⟨r2,rfl,l,⟨e.cm,fun b g=>Oi (e.ak b g) d.size,d.trans e.pure⟩,j,hs⟩
end Go.Proofs
end
section
namespace Go.Proofs
open Tryz
open Go.Shelf
def TF:Go.Shelf.Ren:=⟨fun|6=>75|15=>144|14=>143|28=>198|29=>199|20=>190|21=>191|22=>192|23=>193|24=>194|25=>195|26=>196|27=>197|46=>278|47=>279|48=>280|49=>281|50=>282|57=>306|n=>n,fun|22=>64|24=>35|25=>140|3=>3|39=>220|0=>0|53=>286|55=>23|4=>4|46=>280|45=>279|50=>234|5=>5|9=>9|66=>326|70=>194|76=>343|77=>344|n=>n,fun|n=>n⟩
def Wr:Go.Proofs.SlLaysF0.n6 prog TF:={
 mixed:=by kernel_rfl
 f6:=⟨f75.name,by decide,func75.trans<|congrArg some<|by kernel_rfl⟩
 f14:=⟨f143.name,by decide,func143.trans<|congrArg some<|by kernel_rfl⟩
 f15:=func144.trans<|congrArg some (by kernel_rfl)
 f20:=⟨f190.name,by decide,func190.trans<|congrArg some<|by kernel_rfl⟩
 f21:=⟨f191.name,by decide,func191.trans<|congrArg some<|by kernel_rfl⟩
 f22:=⟨f192.name,by decide,func192.trans<|congrArg some<|by kernel_rfl⟩
 f23:=⟨f193.name,by decide,func193.trans<|congrArg some<|by kernel_rfl⟩
 f24:=⟨f194.name,by decide,func194.trans<|congrArg some<|by kernel_rfl⟩
 f25:=⟨f195.name,by decide,func195.trans<|congrArg some<|by kernel_rfl⟩
 f26:=⟨f196.name,by decide,func196.trans<|congrArg some<|by kernel_rfl⟩
 f27:=⟨f197.name,by decide,func197.trans<|congrArg some<|by kernel_rfl⟩
 f28:=func198.trans<|congrArg some (by kernel_rfl)
 f29:=func199.trans<|congrArg some (by kernel_rfl)
 f46:=⟨f278.name,by decide,func278.trans<|congrArg some<|by kernel_rfl⟩
 f47:=func279.trans<|congrArg some (by kernel_rfl)
 f48:=func280.trans<|congrArg some (by kernel_rfl)
 f49:=⟨f281.name,by decide,func281.trans<|congrArg some<|by kernel_rfl⟩
 f50:=⟨f282.name,by decide,func282.trans<|congrArg some<|by kernel_rfl⟩
 f57:=⟨f306.name,by decide,func306.trans<|congrArg some<|by kernel_rfl⟩
 t0:=underlying0
 a0:=isAgg0
 z0:=sizeOf0
 v0:=zeroValue0
 t3:=underlying3
 a3:=isAgg3
 z3:=sizeOf3
 v3:=zeroValue3
 t4:=underlying4
 a4:=isAgg4
 z4:=sizeOf4
 v4:=zeroValue4
 t5:=underlying5
 a5:=isAgg5
 z5:=sizeOf5
 v5:=zeroValue5
 t9:=underlying9
 a9:=isAgg9
 z9:=sizeOf9
 v9:=zeroValue9
 t22:=underlying64
 a22:=isAgg64
 z22:=sizeOf64
 v22:=zeroValue64
 t25:=underlying140
 a25:=isAgg140
 z25:=sizeOf140
 v25:=zeroValue140
 t39:=underlying220
 a39:=isAgg220
 z39:=sizeOf220
 v39:=zeroValue220
 t45:=underlying279
 a45:=isAgg279
 z45:=sizeOf279
 v45:=zeroValue279
 t46:=underlying280
 a46:=isAgg280
 z46:=sizeOf280
 v46:=zeroValue280
 t50:=underlying234
 a50:=isAgg234
 z50:=sizeOf234
 v50:=zeroValue234
 t53:=underlying286
 a53:=isAgg286
 z53:=sizeOf286
 v53:=zeroValue286
 t55:=underlying23
 a55:=isAgg23
 z55:=sizeOf23
 v55:=zeroValue23
 t66:=underlying326
 a66:=isAgg326
 z66:=sizeOf326
 v66:=zeroValue326
 t70:=underlying194
 a70:=isAgg194
 z70:=sizeOf194
 v70:=zeroValue194
 t76:=underlying343
 a76:=isAgg343
 z76:=sizeOf343
 v76:=zeroValue343
 t77:=underlying344
 a77:=isAgg344
 z77:=sizeOf344
 v77:=zeroValue344 }
end Go.Proofs
end
section
open Go
namespace Go.Proofs
instance:Inhabited dy:=⟨⟨0,0,0,⟨#[]⟩,false⟩⟩
def mr(a b:Int):Int:=if a<b then -1 else if b<a then 1 else 0
def pH(a b:ByteArray):Int:=if Op.bytesLess a.toList b.toList=true then -1 else if a=b then 0 else 1
def sH:List Int->Int
 |[]=>0
 |a :: l=>if a≠0 then a else sH l
def EF{a b:ByteArray}(h:a.toList=b.toList):a=b:=by
 rw[Lib.toList_data,Lib.toList_data]at h;have⟨a⟩:=a;have⟨b⟩:=b;simp only at h;congr 1;exact Array.toList_inj.1 h
structure Wo{α:Type}(f:α->α->Int):Prop where
 neg:∀a b,f b a=- f a b
 tr:∀{a b c},f a b<=0->f b c<=0->f a c<=0
section
variable {α β:Type} {f g:α->α->Int}
def Wo.wA(h:Wo f){a b c}(h1:f a b<0)(h2:f b c<=0):f a c<0:=by
 refine Int.not_le.1 fun h3=>?_;have n1:=h.neg a c;have n2:=h.neg a b;have:=h.tr h2 (show f c a<=0 by omega);omega
def Wo.lt2(h:Wo f){a b c}(h1:f a b<=0)(h2:f b c<0):f a c<0:=by
 refine Int.not_le.1 fun h3=>?_;have n1:=h.neg a c;have n2:=h.neg b c;have:=h.tr (show f c a<=0 by omega) h1;omega
def Wo.SO(h:Wo f)(k:Wo g):Wo (fun a b=>if f a b≠0 then f a b else g a b):=by
 refine⟨fun a b=>?_,fun {a b c} h1 h2=>?_⟩;have:=h.neg a b;have:=k.neg a b;split<;>split<;>omega;have i:=h.wA (a:=a) (b:=b) (c:=c);have e:=h.lt2 (a:=a) (b:=b) (c:=c);have d:=h.tr (a:=a) (b:=b) (c:=c);have j:=h.tr (a:=c) (b:=b) (c:=a);have:=k.tr (a:=a) (b:=b) (c:=c);have:=h.neg a c;have:=h.neg a b;have:=h.neg b c;split at h1<;>split at h2<;>split<;>omega
def Wo.BY(h:Wo f)(r:β->α):Wo (fun a b=>f (r a)<|r b):=⟨fun _ _=>h.neg _ _,h.tr⟩
def Oj:∀{l:List (α->α->Int)},(∀f∈l,Wo f)->Wo (fun a b=>sH<|l.map (· a b))
 |[],_=>⟨fun _ _=>rfl,fun _ _=>Int.le_refl _⟩
 |f :: l,h=>(h f Sm).SO<|Oj fun g c=>h g (by simp[c])
def KT:∀{l:List Int},sH l=0->∀x∈l,x=0
 |[],_,_,h=>by simp at h
 |a :: l,h,x,b=>by
  unfold sH at h;split at h;omega;rename_i c;rcases List.mem_cons.1 b with rfl|b;omega;exact KT h x b
def Wo.Rb(h:Wo f):Go.Sort.SWO (Go.Proofs.ltOf f):={
 irrefl x:=by have:=h.neg x x;unfold Go.Proofs.ltOf;simp;omega
 trans x y z h1 h2:=by
  unfold Go.Proofs.ltOf at *;simp only[decide_eq_true_eq]at *;exact h.wA h1 Om
 ntrans x y z h1 h2:=by
  unfold Go.Proofs.ltOf at *;simp only[decide_eq_false_iff_not]at *;have:=h.neg x y;have:=h.neg y z;have:=h.neg x z;have:=h.tr (a:=z) (b:=y) (c:=x) Om Om;omega }
end
def CE:Wo mr:=⟨fun a b=>by unfold mr;grind,fun {a b c} h1 h2=>by unfold mr at *;grind⟩
def MR{a b:ByteArray}:Op.bytesLess a.toList b.toList=true↔a.toList<b.toList:=by rw[Go.Proofs.bytesLess_eq];simp
def Le{a b:ByteArray}:pH a b<=0↔a.toList<=b.toList:=by
 unfold pH;simp only[MR];split;rename_i h;simp[List.le_of_lt h];split;rename_i e;subst e;simp;rename_i h1 h2;refine⟨fun h=>Om,fun h=>absurd (EF<|List.le_antisymm h<|List.not_lt.1 h1) h2⟩
def Dh:Wo pH:=by
 refine⟨fun a b=>?_,fun {a b c} h1 h2=>by rw[Le]at *;exact List.le_trans h1 h2⟩;unfold pH;simp only[MR];by_cases h1:a.toList<b.toList;rw[if_pos h1,if_neg<|List.lt_asymm h1,if_neg fun e=>by subst e;exact List.lt_irrefl _ h1];rfl;rw[if_neg h1];by_cases h2:b.toList<a.toList;rw[if_pos h2,if_neg fun e=>by subst e;exact List.lt_irrefl _ h2];have e:a=b:=EF<|List.le_antisymm (List.not_lt.1 h2)<|List.not_lt.1 h1;subst e;rw[if_neg h1];simp
def sf(b:Bool):Int:=cond b 1 0
def ya(a b:dy):Int:=sH [mr a.kind b.kind,mr a.az b.az,mr a.c b.c,pH a.bb b.bb,mr (sf a.dz)<|sf b.dz]
def LQ:Wo ya:=by
 have:=Oj (l:=[fun a b:dy=>mr a.kind b.kind,fun a b=>mr a.az b.az,fun a b=>mr a.c b.c,fun a b=>pH a.bb b.bb,fun a b=>mr (sf a.dz)<|sf b.dz]) (by
  simp only[List.mem_cons,List.not_mem_nil,or_false,forall_eq_or_imp,forall_eq];exact⟨CE.BY dy.kind,CE.BY dy.az,CE.BY dy.c,Dh.BY dy.bb,CE.BY fun a:dy=>sf a.dz⟩)
 exact this
def WK{a b:dy}(h:ya a b=0):a=b:=by
 have h:=KT h;simp only[List.mem_cons,List.not_mem_nil,or_false,forall_eq_or_imp,forall_eq]at h;have⟨h1,h2,h3,e,d⟩:=h;have z:∀{x y:Int},mr x y=0->x=y:=fun {x y} h=>by unfold mr at h;grind
 have q:∀{x y:Bool},sf x=sf y->x=y:=fun {x y} h=>by cases x<;>cases y<;>simp[sf]at h|-
 have t:a.bb=b.bb:=by unfold pH at e;grind
 have⟨k,f,c,x,g⟩:=a;have⟨k',l,i,j,m⟩:=b;simp only[dy.mk.injEq];exact⟨z h1,z h2,z h3,t,q<|z d⟩
def kh{α:Type}[DecidableEq α](a:α):List α->List α
 |[]=>[]
 |b :: l=>if a=b then kh b l else b :: kh b l
def jk{α:Type}[DecidableEq α]:List α->List α
 |[]=>[]
 |a :: l=>a :: kh a l
section
variable {α:Type} [DecidableEq α]
def O3{x:α}:∀{l:List α} {a:α},(x=a\/x∈kh a l)↔(x=a\/x∈l)
 |[],_=>by simp[kh]
 |b :: l,a=>by
  have h:=O3 (x:=x) (l:=l) (a:=b);unfold kh;split;rename_i e;subst e;rw[h];simp;simp only[List.mem_cons,h]
def O9{l:List α}{x:α}:x∈jk l↔x∈l:=by
 cases l with
 |nil=>simp[jk]
 |cons a l=>simp only[jk,List.mem_cons];exact O3
def OC{f:α->α->Int}(h:Wo f)(z:∀{a b},f a b=0->a=b):∀{l:List α} {a:α},(a ::l).Pairwise (fun a b=>¬f b a<0)->(a ::kh a l).Pairwise (f · ·<0)
 |[],_,_=>by simp[kh]
 |b :: l,a,j=>by
  have i:=List.pairwise_cons.1 j;unfold kh;have hs:=OC h z i.2;split;rename_i e;subst e;exact hs;rename_i g;have c:f a b<0:=by
   have:=i.1 b Sm;have:=h.neg a b;have:f a b≠0:=fun e=>g<|z e;omega
  refine List.pairwise_cons.2 ⟨fun x d=>?_,hs⟩;rcases List.mem_cons.1 d with rfl|d;exact c;exact h.wA c<|Int.le_of_lt<|(List.pairwise_cons.1 hs).1 x d
def Na{f:α->α->Int}(h:Wo f)(z:∀{a b},f a b=0->a=b){l:List α}(c:l.Pairwise fun a b=>¬f b a<0):(jk l).Pairwise (f · ·<0):=by
 cases l with
 |nil=>simp[jk]
 |cons a l=>exact OC h z c
omit [DecidableEq α] in
def Wo.oE{f:α->α->Int}(h:Wo f){l:List α}(c:l.Pairwise (f · ·<0)):l.Nodup:=
 c.imp (fun {a b} d e=>by subst e;have:=h.neg a a;omega)
def Oz(b:α):∀(l:List α) (a:α),kh a (l++[b])=kh a l++if(a ::l).getLast Sm=b then[]else[b]
 |[],_=>rfl
 |c :: l,a=>by
  have:=Oz b l c;rw[List.getLast_cons_cons];simp only[List.cons_append,kh,this];split<;>simp
def Tx[Inhabited α](l:List α):Lib.compact l=jk l:=by
 have key:∀m,m<=l.length->Lib.compactUpTo l.toArray m=jk (l.take m):=by
  intro m;induction m with
  |zero=>intro _;simp[Lib.compactUpTo,jk]
  |succ m b =>
   intro hm
   rw[Lib.compactUpTo_succ,b Om,List.take_succ_eq_append_getElem Om]
   have e:(l.toArray[m]!)=l[m]:=by rw[getElem!_pos l.toArray m (by show m<l.length;omega)];simp
   rw[e]
   cases m with
   |zero=>simp[Lib.keeps,jk,kh]
   |succ m =>
    have c:(l.toArray[m]!)=l[m]:=by rw[getElem!_pos l.toArray m (by show m<l.length;omega)];simp
    have f:0<l.length:=Om
    obtain⟨a,r,rfl⟩:∃a r,l=a ::r:=by cases l with|nil=>simp at f|cons a r=>exact⟨a,r,rfl⟩
    simp only[List.take_succ_cons,List.cons_append,jk,Oz]
    congr 1
    have d:(a ::r.take m).getLast Sm=(a ::r)[m]:=by
     rw[List.getLast_eq_getElem];simp only[<-List.take_succ_cons,List.getElem_take,List.length_take,List.length_cons];simp only[List.length_cons]at hm;congr 1;omega
    rw[d]
    unfold Lib.keeps
    rw[e,Nat.add_sub_cancel,c]
    simp only[Nat.add_eq_zero_iff,Nat.one_ne_zero,and_false,false_or,decide_eq_true_eq]
    by_cases h:(a ::r)[m+1]=(a ::r)[m]
    rw[if_neg<|by simp[h],if_pos h.symm]
    rw[if_pos h,if_neg fun e=>h e.symm]
 have:=key l.length<|Nat.le_refl _;rw[List.take_length]at this;exact this
end
end Go.Proofs
end
section
namespace Go.SE
open Go.Sort Go.Shelf Go.Proofs
def SR(w:World)(q:Nat):w.drewN q={ w with drawn:=w.drawn+q }:=rfl
def Rp{w w':World}(h:Pure w w'):∃q os,w'=Sort.grow (w.drewN q) os:=by
 refine⟨w'.drawn-w.drawn,w'.heap.extract w.heap.size w'.heap.size,?_⟩;have hh:w'.heap=w.heap++w'.heap.extract w.heap.size w'.heap.size:=by
  apply Array.ext_getElem?;intro i;by_cases hi:i<w.heap.size;rw[h.gq i hi id,Array.getElem?_append_left hi];rw[Array.getElem?_append_right Om,Array.getElem?_extract];by_cases h2:i<w'.heap.size;rw[if_pos Om];congr 1;omega;rw[if_neg Om,Array.getElem?_eq_none Om]
 have h1:=h.os;have h2:=h.tape;have h3:=h.output;have f:=h.drawn;clear h;have⟨a,b,c,d,e⟩:=w;have⟨m,k,j,l,g⟩:=w';simp only at h1 h2 h3 f hh;subst h1;subst h2;subst h3;rw[SR];unfold Sort.grow;simp only[World.mk.injEq,and_true,true_and];exact⟨hh,Om⟩
def Nf{α:Type}[Inhabited α](enc:α->List Value)(k:Nat)(a:∀x,(enc x).length=k)(d:Array α):(flatK enc k d).toList=(d.toList.map enc).flatten:=by
 have c:∀q∈d.toList.map enc,q.length=k:=by
  intro q g;obtain⟨x,_,rfl⟩:=List.mem_map.1 g;exact a x
 have f:(d.toList.map enc).flatten.length=d.size*k:=by rw[vL c];simp
 apply List.ext_getElem?;intro t;by_cases ht:t<d.size*k;have k0:0<k:=by rcases Nat.eq_zero_or_pos k with h|h;subst h;simp at ht;exact h
 have b:t/k<d.size:=by rw[Nat.div_lt_iff_lt_mul k0];exact ht
 have hm:t%k<k:=Nat.mod_lt _ k0;have e:t=(t/k)*k+t%k:=(Nat.div_add_mod' t k).symm;have h1:=get_flatK enc k d t ht;rw[Array.getElem?_toList,Array.getElem?_eq_getElem<|by simpa using ht];rw[getElem!_pos _ t<|by simpa using ht,getElem!_pos d _ b,getElem!_pos _ (t%k) (by rw[a];exact hm)]at h1;rw[h1];have h2:=DW c (i:=t/k) (by simpa using b) hm;rw[<-e]at h2;rw[h2,List.getElem_map,List.getElem?_eq_getElem (by rw[a];exact hm)];simp;rw[List.getElem?_eq_none So,List.getElem?_eq_none Om]
variable {α:Type} [Inhabited α] {P:Program} {ρ:Ren} {k:Nat} {enc:α->List Value} {e:TypeId}
def bg.VN{w:World}{s:Sl}{g:Nat}{cur:Array Value}{ds:List α}(h:∀x,(enc x).length=k)(c:w.heap[g]?=some (.cells cur e (0,0)))(ht:cur.toList.take (ds.length*k)=(ds.map enc).flatten):HoldsK enc k w g 0 ds.toArray:=by
 intro j b;rw[size_flatK]at b;have d:=Nf enc k h ds.toArray;simp only at d;have a:j<ds.length*k:=by simpa using b
 have f:(flatK enc k ds.toArray).size=ds.length*k:=Sm;have h1:cur.toList[j]?=(flatK enc k ds.toArray).toList[j]?:=by
  rw[d,<-ht,List.getElem?_take_of_lt a]
 rw[Array.getElem?_toList,Array.getElem?_toList,Array.getElem?_eq_getElem<|show j<(flatK enc k ds.toArray).size by omega]at h1;refine⟨?_,?_⟩;unfold World.cell?;rw[c];simp only[Option.isSome_none,Bool.false_eq_true,if_false,Nat.zero_add,id];rw[h1,getElem!_pos _ j Om];unfold World.frozen?;rw[c];simp
def jNC(L:SlLaysF0.n6 P ρ)(aE:∀w,(isAgg<|ρ.t 24).run P w=.ok true w)(S:∀w,(Go.sizeOf<|ρ.t 24).run P w=.ok k w)(C:∀x,(enc x).length=k)(h1:∀x,∀v∈enc x,v.oneCell'=true)(D:α->α->Int)(hO:SWO (ltOf D))(g:Nat)(G:Array Value)(eg:∀args w,(callFunc g args).run P w=.ok (.enter g args) w){w:World}{s:Sl}{ds:List α}(hc:∀x y W,ab s.aq w W->Calls P g (#[.agg (enc x).toArray,.agg (enc y).toArray]++G) W fun o w'=>o=.returned (.int .i64<|D x y)/\Pure W w')(hr:bg w e k s (ds.map enc))(hn:ds.length<4611686018427387904):
  Calls P (ρ.f 6) #[s.v,.func (.func g) #[] G] w<|fun o w'=>o=.returned (.tuple #[])/\∃l:List α,l.Perm ds/\l.Pairwise (fun a b=>¬D b a<0)/\bg w' e k s (l.map enc)/\ab s.aq w w':=by
 have O:s.len=ds.length:=by rw[hr.len];simp
 rcases hr.ak with⟨rfl,z⟩|⟨b,cur,K,I,h,hm,B,ht⟩
 have Z:ds=[]:=by simpa using z
 subst Z
 refine(AnyF.slices_SortFunc_none L none 0 _ w).mono ?_
 rintro _ w' ⟨rfl,rfl⟩
 exact⟨rfl,[],.refl _,.nil,hr,ab.refl _⟩
 rw[List.length_map]at h ht
 have V:HoldsK enc k w b 0 ds.toArray:=bg.VN (s:=s) C I ht
 have Q:b<w.heap.size:=xA I
 have Y:s.v=.slice (some ⟨b,0,none⟩) ds.toArray.size s.cap:=by unfold Sl.v;rw[K,O];simp
 rw[Y]
 have R:∀(n:Nat) (c:Array α) (os:Array Obj),ab s.aq w<|sortWorldK enc k w b 0 n c os:=fun n c os=>by
  refine⟨rfl,rfl,rfl,Nat.le_add_right _ _,by unfold sortWorldK putRowK;simp[size_grow],fun i hi T=>?_⟩;have J:b≠i:=fun e'=>T ⟨_,K,e'⟩;unfold sortWorldK putRowK;rw[heap_grow_old _ _<|by simpa using hi];simp[putRow,mapBlock,Sort.ahead,Array.getElem?_modify,J]
 refine(AnyQ.slices_SortFunc L k aE S enc C h1 D hO g G b 0 s.cap ds.toArray w eg (fun m os dk _ x y=>?_) V Q<|by simpa using hn).mono ?_
 refine(hc x y _<|R m dk os).mono ?_
 rintro o w' ⟨rfl,H⟩
 exact⟨rfl,Rp H⟩
 rintro _ w' ⟨rfl,c,n,os,H,hs,rfl⟩
 have⟨A,_,r⟩:=H
 have d:c.size=ds.length:=by simpa using A
 have p:c.toList.Perm ds:=by
  rw[<-A]at r;rw[Array.extract_size]at r;simpa[d]using r
 refine⟨rfl,c.toList,p,?_,?_,?_⟩
 rw[List.pairwise_iff_getElem]
 intro i j hi u E
 have F:j<c.size:=by simpa using u
 have M:i<c.size:=by simpa using hi
 have:=hs i j (Nat.zero_le _) E So
 unfold ltOf at this
 rw[getElem!_pos c i M,getElem!_pos c j F]at this
 simpa using this
 have N:∀ q∈c.toList.map enc,q.length=k:=by
  intro q U;obtain⟨x,_,rfl⟩:=List.mem_map.1 U;exact C x
 refine⟨N,by rw[O];simp[d],.inr ⟨b,putCells id 0 (flatK enc k c) cur,K,?_,by simpa[d]using h,hm,by simp[putCells,B],?_⟩⟩
 unfold sortWorldK putRowK
 rw[heap_grow_old _ _<|by simpa using Q]
 simp[putRow,mapBlock,Sort.ahead,Array.getElem?_modify,I,onCells]
 rw[<-Nf enc k C c,List.length_map,Array.length_toList]
 apply List.ext_getElem?
 intro j
 have X:ds.length*k<=s.cap*k:=Nat.mul_le_mul_right _ h
 by_cases u:j<c.size*k
 rw[List.getElem?_take_of_lt u,Array.getElem?_toList,Array.getElem?_toList]
 unfold putCells
 rw[Array.getElem?_mapIdx,Array.getElem?_eq_getElem (show j<cur.size by rw[B];rw[d]at u;omega),Option.map_some,if_pos ⟨Nat.zero_le _,by rw[size_flatK];omega⟩,Array.getElem?_eq_getElem (by rw[size_flatK];exact u),Nat.sub_zero,getElem!_pos _ j (by rw[size_flatK];exact u)]
 rfl
 rw[List.getElem?_eq_none So,List.getElem?_eq_none So]
 exact R n c os
def PB{α:Type}{sz:Nat}:∀(m:Nat) (l:List α),l.length=m*sz->∃qs:List (List α),qs.length=m/\(∀q∈qs,q.length=sz)/\qs.flatten=l
 |0,l,h=>⟨[],rfl,Sm,by rw[Nat.zero_mul]at h;simp[List.length_eq_zero_iff.1 h]⟩
 |m+1,l,h=>by
  rw[Nat.succ_mul]at h;have⟨qs,h1,h2,h3⟩:=PB m (l.drop sz) (show(l.drop sz).length=m*sz by rw[List.length_drop];omega);refine⟨l.take sz ::qs,by simp[h1],fun q a=>?_,by simp[h3]⟩;rcases List.mem_cons.1 a with rfl|a;rw[List.length_take];omega;exact h2 q a
def bg.jbL{P:Program}{t ty:TypeId}{sz bytes:Nat}{z:Value}(T:km P t e sz bytes)(H:∀w,(zeroValue e).run P w=.ok z w)(o:z.cells.size=sz)(E:∀v∈z.cells.toList,vJ v=true){w:World}{s:Sl}{rs:List (List Value)}(h:bg w e sz s rs){k:IntKind}{n:Int}(Q:0<=n)(S:n<rs.length):
  ∃s':Sl,∃w':World,(∀w:World,(Instr.sliceAt t s.v (some<|.int k n) none none).run P w=.ok s'.v w)/\(Builtin.clear_ #[t] ty #[s'.v]).run P w=.ok (.tuple #[]) w'/\ab s.aq w w'/\∃c,bg w' e sz s c/\c.length=rs.length/\c.take n.toNat=rs.take n.toNat:=by
 rcases h.ak with⟨rfl,rfl⟩|⟨g,cur,A,L,R,hm,hs,ht⟩
 simp at S;omega
 have B:ai w ⟨g,0,none⟩ cur.toList e:=⟨rfl,by simpa using L⟩
 have I:s.len=rs.length:=h.len
 obtain⟨m,y⟩:∃m,s.len-n.toNat=m+1:=⟨s.len-n.toNat-1,Om⟩
 have a:(Builtin.zeroCells z.cells<|m+1).toList.length=(m+1)*sz:=by simp[Builtin.zeroCells,o]
 have D:∀v∈(Builtin.zeroCells z.cells<|m+1).toList,vJ v=true:=by
  intro v F;simp only[Builtin.zeroCells,Array.toList_map,List.mem_map]at F;obtain⟨i,_,rfl⟩:=F;have J:0<z.cells.size:=by rw[o];exact T.pos
  rw[getElem!_pos z.cells _<|Nat.mod_lt _ J];exact E _ Sm
 have M:n.toNat*sz+(m+1)*sz=rs.length*sz:=by rw[<-Nat.add_mul];congr 1;omega
 have G:rs.length*sz<=s.cap*sz:=Nat.mul_le_mul_right _ R
 have d:cur.toList.length=s.cap*sz:=by simpa using hs
 generalize x:(Builtin.zeroCells z.cells<|m+1).toList=f at *
 have au:=Mw (P:=P) ((⟨g,0,none⟩:Addr).add<|n.toNat*sz) f 0 w D (fun j W=>by rw[yO];exact B.eh (by rw[d];omega))
 have O:=ai.storeAt f 0 (n.toNat*sz) w _ B (by rw[d];omega)
 have N:ab (·=g) w (pO w ((⟨g,0,none⟩:Addr).add<|n.toNat*sz) 0 f):=by
  have:=ab.bd w ((⟨g,0,none⟩:Addr).add<|n.toNat*sz) f;rw[zC]at this;exact this
 have⟨qs,q1,q2,q3⟩:=PB (m+1) f a
 have p:s.cap≠n.toNat:=Om
 have u:n<=(s.len:Int):=Om
 refine⟨⟨some<|(⟨g,0,none⟩:Addr).add<|n.toNat*sz,s.len-n.toNat,s.cap-n.toNat⟩,_,fun w=>?_,?_,N.mono fun b _ K=>⟨_,A,K.symm⟩,rs.take n.toNat++qs,⟨?_,?_,.inr ⟨g,_,A,O.aq,?_,hm,?_,?_⟩⟩,?_,?_⟩
 simp[Instr.sliceAt,Instr.slice,Sl.v,run_underlying T.ht,Instr.sliceBounds,Instr.sliceBound,asIntOf,T.sizeOf,Q,u,p,A]
 rw[y]
 simp[Builtin.clear_,Sl.v,run_underlying T.ht,H,x,au]
 intro q l
 rcases List.mem_append.1 l with l|l
 exact h.mx q<|List.mem_of_mem_take l
 exact q2 q l
 rw[List.length_append,List.length_take,q1];omega
 rw[List.length_append,List.length_take,q1];omega
 simp only[List.size_toArray,List.length_append,List.length_take,List.length_drop,d,a];omega
 rw[List.length_append,List.length_take,q1,show min n.toNat rs.length+(m+1)=rs.length by omega,List.flatten_append,q3]
 have V:rs=rs.take n.toNat++rs.drop n.toNat:=(List.take_append_drop _ _).symm
 have C:((rs.take n.toNat).flatten).length=n.toNat*sz:=by rw[vL fun r hr=>h.mx r<|List.mem_of_mem_take hr,List.length_take,Nat.min_eq_left Om]
 have U:cur.toList.take (n.toNat*sz)=(rs.take n.toNat).flatten:=by
  calc cur.toList.take (n.toNat*sz)=(cur.toList.take<|rs.length*sz).take (n.toNat*sz):=by rw[List.take_take,Nat.min_eq_left Om]
   _=((rs.take n.toNat).flatten++(rs.drop n.toNat).flatten).take (n.toNat*sz):=by rw[ht,<-List.flatten_append,<-V]
   _=(rs.take n.toNat).flatten:=by rw[<-C,List.take_left]
 simp only[Nat.add_zero,U]
 rw[List.take_append_of_le_length (by rw[List.length_append,C,a];omega),List.take_of_length_le (by rw[List.length_append,C,a];omega)]
 rw[List.length_append,List.length_take,q1];omega
 rw[List.take_append_of_le_length (by rw[List.length_take];omega),List.take_take,Nat.min_self]
def bg.ZU{P:Program}{t:TypeId}{sz bytes:Nat}(T:km P t e sz bytes){w:World}{s:Sl}{rs:List (List Value)}(h:bg w e sz s rs){k:IntKind}{n:Int}(o:0<=n)(p:n<rs.length):
  ∃s':Sl,(∀w:World,(Instr.sliceAt t s.v (some<|.int k n) none none).run P w=.ok s'.v w)/\s'.len=rs.length-n.toNat/\∀(i:Nat) (a:Addr),n.toNat+i<rs.length->At s ((n.toNat+i:Nat):Int) sz a->At s' (i:Int) sz a:=by
 rcases h.ak with⟨rfl,rfl⟩|⟨g,cur,m,r,q,hm,hs,ht⟩
 simp at p;omega
 have c:s.len=rs.length:=h.len
 have d:s.cap≠n.toNat:=Om
 have f:n<=(s.len:Int):=Om
 refine⟨⟨some<|(⟨g,0,none⟩:Addr).add<|n.toNat*sz,s.len-n.toNat,s.cap-n.toNat⟩,fun w=>?_,by simp[c],fun i a hi j=>?_⟩
 simp[Instr.sliceAt,Instr.slice,Sl.v,run_underlying T.ht,Instr.sliceBounds,Instr.sliceBound,asIntOf,T.sizeOf,o,f,d,m]
 obtain⟨_,_,b,l,rfl⟩:=j
 rw[m]at l;cases l
 refine⟨Om,by simp only[c];omega,_,rfl,?_⟩
 rw[yO,Int.toNat_natCast,Int.toNat_natCast,Nat.add_mul]
end Go.SE
end
section
open Go Go.SE List
namespace Go.Proofs
open Tryz
attribute [local irreducible] Calls
def NN(x y:Int):Fo x y=mr x y:=by
 unfold Fo mr;by_cases h:x<y;simp[h];by_cases h2:y<x<;>simp[h,h2]
def YZ(x y:Int):Mm x y=mr x y:=NN x y
def Se(x y:ByteArray)(a:World):cl 80 #[vs x,vs y] a (XB fun r w'=>r=pH x y/\Pure a w'):=by
 refine QC x y a (fun r w'=>r=pH x y/\Pure a w') ?_;refine Br.f Sm<|Br.f Sm fun c b=>?_;have E:=b.first;refine⟨Op.bytesLess x.toList y.toList,by rw[binOp_string_lss];rfl,fun h=>⟨by unfold pH;rw[if_pos h],E⟩,fun h=>?_⟩;refine⟨!(Op.bytesLess x.toList y.toList ||x.toList==y.toList),by simp[binOp,Op.stringOp],fun h2=>⟨?_,E⟩,fun h2=>⟨?_,E⟩⟩
 all_goals
  unfold pH
  rw[if_neg (by rw[h];simp)]
  rw[h]at h2
 .rw[if_neg];intro e;subst e;simp at h2
 .rw[if_pos<|EF<|by simpa using h2]
def zJQ{S:NP}(p:Addr)(ts:List Int)(o:ts.length<=1000)(d:World)(k:dr S d 1 ⟨some p,ts.length,ts.length⟩ (cd ts)):cl 77 #[(Sl.mk (some p) ts.length ts.length).v] d (XB fun r w'=>r=sH ts/\Pure d w'):=by
 suffices key:∀K:Int->WP,(∀w',Pure d w'->K (sH ts) w')->KH ⟨some p,ts.length,ts.length⟩ d K from
  TK _ d _<|key _ fun _ h=>⟨rfl,h⟩
 intro K e;refine⟨fun i w'=>∃j:Nat,i=j/\j<=ts.length/\w'=d/\sH ts=sH (ts.drop j),fun i _=>((ts.length:Int)-i).toNat,⟨0,rfl,Nat.zero_le _,rfl,rfl⟩,?_⟩;rintro _ wl ⟨j,rfl,m,rfl,c⟩;refine⟨fun h=>?_,fun h=>?_⟩;have b:=vQ (n:=ts.length) rfl h;have⟨a,g,_,l⟩:=uJ k b;rw[drop_eq_getElem_cons b,sH]at c;refine⟨a,g,_,l,fun h2=>?_,fun h2=>?_⟩;rw[if_pos<|by simpa using h2]at c;rw[c]at e;exact e _<|ab.refl _;rw[if_neg<|by simpa using h2]at c;rw[zM b Om];exact⟨⟨j+1,rfl,b,rfl,c⟩,yQ b⟩;have f:=qU (n:=ts.length) rfl m h;rw[f,drop_length,sH]at c;rw[c]at e;exact e _<|ab.refl _
def zJE(a b:dy)(p:Addr)(h:World)(hB:ai h p [.func (.func 74) #[] #[]] 134):cl 76 #[.agg (mf a).toArray,.agg (mf b).toArray,vp<|some p] h (XB fun r w'=>r=ya a b/\Pure h w'):=by
 refine Zl a.kind a.az a.c a.bb a.dz b.kind b.az b.c b.bb b.dz p h (fun r w'=>r=ya a b/\Pure h w') ?_;intro G z m;have v:=m.first;refine⟨Pure h,v.trans<|ab.drew _,?_⟩;rintro _ rfl;have s:=v.trans<|ab.drew (F:=ar) z;refine⟨_,fun w' E=>(hB.pure E).bf,_,fun w' E=>(hB.pure E).bf,(GK a.kind b.kind _).mono ?_⟩;rintro _ I ⟨rfl,k⟩;refine⟨_,rfl,s.trans k,k.bz,(GK a.az b.az _).mono ?_⟩;rintro _ D ⟨rfl,u⟩;have g:=(s.trans k).trans u;refine⟨_,rfl,g,u.bz,(jak a.c b.c _).mono ?_⟩;rintro _ C ⟨rfl,n⟩;refine⟨_,rfl,g.trans n,n.bz,(Se a.bb b.bb _).mono ?_⟩;rintro _ A ⟨_,rfl,rfl,t⟩;have d:=(g.trans n).trans t;refine⟨_,rfl,d,t.bz,_,_,_,rfl,call74,(N2 a.kind a.az a.c a.bb a.dz _).mono ?_⟩;rintro _ B ⟨rfl,l⟩;refine⟨_,rfl,d.trans l,l.bz,_,_,_,rfl,call74,(N2 b.kind b.az b.c b.bb b.dz _).mono ?_⟩;rintro _ H ⟨rfl,q⟩;have j:=(d.trans l).trans q;refine⟨_,rfl,j,q.bz,(GK _ _ _).mono ?_⟩;rintro _ y ⟨rfl,i⟩;have E010:=j.trans i;refine⟨_,rfl,E010,i.bz,fun w o f=>⟨E010.trans<|ab.ax f,?_⟩⟩;have E011:=E010.trans<|ab.ax (F:=ar) f;have R:=bg.lit (sz:=1) (rs:=cd [mr a.kind b.kind,mr a.az b.az,mr a.c b.c,pH a.bb b.bb,mr (sf a.dz)<|sf b.dz]) f (by simp[cd,NN,YZ];rfl) (by simp[cd]) (by simp[cd,maxLen]);refine(zJQ w [mr a.kind b.kind,mr a.az b.az,mr a.c b.c,pH a.bb b.bb,mr (sf a.dz)<|sf b.dz] Sm o R.el).mono ?_;rintro _ x ⟨_,rfl,rfl,e⟩;exact⟨_,rfl,E011.trans e,e.bz,rfl,E011.trans e⟩
def Xe(s:Sl)(ls:List dy)(p:Addr)(d:World)(hB:ai d p [.func (.func 74) #[] #[]] 134)(g:¬ s.aq p.block)(hr:bg d 35 5 s (ls.map mf))(i:ls.length<=1000000):
  cl 75 #[s.v,.func (.func 76) #[] #[vp<|some p]] d<|fun e w'=>e=.returned (.tuple #[])/\∃c:List dy,c.Perm ls/\c.Pairwise (fun a b=>¬ya b a<0)/\bg w' 35 5 s (c.map mf)/\ab s.aq d w':=
 jNC Wr isAgg35 sizeOf35 (enc:=mf) (fun _=>rfl) (fun x v f=>by simp[mf]at f;rcases f with rfl|rfl|rfl|rfl|rfl<;>rfl) ya LQ.Rb 76 #[vp<|some p]
  (enters_of func76 Kf rfl) (fun x y W h=>(zJE x y p W<|hB.ext h g).mono (by rintro _ w' ⟨_,rfl,rfl,E⟩;exact⟨rfl,E⟩)) hr Om
def CB(g h:dy):((g.kind==h.kind)&&((g.az==h.az)&&((g.c==h.c)&&((decide (g.bb=h.bb))&&(g.dz==h.dz)))))=decide (g=h):=by
 have⟨a,b,c,d,e⟩:=g;have⟨l,j,i,k,f⟩:=h;rw[Bool.eq_iff_iff];simp[dy.mk.injEq]
def To(s:Sl)(fs:List dy)(C:World)(hr:bg C 35 5 s (fs.map mf))(hn:fs.length<=1000000):
  cl 81 #[s.v] C<|XA fun r w'=>bg w' 35 5 r ((jk fs).map mf)/\ab s.aq C w'/\∀b,r.aq b->s.aq b:=by
 suffices key:∀K:Sl->WP,(∀r w',bg w' 35 5 r ((jk fs).map mf)->ab s.aq C w'->(∀b,r.aq b->s.aq b)->K r w')->Hk s C K from
  Xu _ C _<|key _ fun _ _ h1 h2 h3=>⟨h1,h2,h3⟩
 intro K hK
 unfold Hk
 have U:s.len=fs.length:=by rw[hr.len];simp
 have hsb:∀b,s.aq b->b<C.heap.size:=fun b g=>hr.lt g
 refine⟨fun h=>?_,fun h=>?_⟩
 have h:=of_decide_eq_true h
 refine hK s C ?_ (ab.refl _) fun _ h=>h
 have:jk fs=fs:=by
  match fs,U,h with
  |[],_,_=>rfl
  |[a],_,_=>rfl
  |a :: b :: l,U,h=>simp[U]at h;omega
 rw[this];exact hr
 have h2:2<=fs.length:=by have h:=of_decide_eq_false h;omega
 obtain⟨f0,fr,rfl⟩:∃f0 fr,fs=f0 ::fr:=by
  cases fs with
  |nil=>simp at h2
  |cons a l=>exact⟨a,l,rfl⟩
 generalize hfs:f0 ::fr=fs at *
 have hc0:jk fs=fs.take 1++kh fs[0] (fs.drop 1):=by subst hfs;rfl
 refine⟨fun k H w'=>∃j:Nat,k=j/\1<=j/\∃hj:j<=fs.length,Pure C w'/\jw H w' 35 5 s (fs.map mf)/\jk fs=fs.take j++kh (fs[j-1]' Om) (fs.drop j),fun k _=>((fs.length:Int)-k).toNat,⟨1,rfl,Nat.le_refl _,Om,ab.refl _,⟨hr,fun _ _ h=>h⟩,hc0⟩,?_⟩
 rintro _ Hl wl hl1 ⟨j,rfl,hj1,hj,El,Ol,hc⟩
 refine⟨fun g=>?_,fun g=>?_⟩
 have f:=vQ U g
 have⟨a1,G,_⟩:=Ol.kg f
 refine⟨a1,G,fun w1 hs1=>?_⟩
 have O1:=Ol.au hs1
 have E1:=El.au hs1
 have⟨a1',I,p⟩:=O1.kg f
 have⟨a2,hat2,O⟩:=O1.kg (show j-1<fs.length by omega)
 have hw:IntKind.i64.wrap ((j:Int)-1)=((j-1:Nat):Int):=by rw[i64 Om Om];omega
 have ha:a1=a1':=by
  obtain⟨_,_,b,g,rfl⟩:=G;obtain⟨_,_,b',B,rfl⟩:=I;rw[g]at B;cases B;rfl
 rw[<-ha]at p
 rw[hw]
 refine⟨_,_,_,_,_,p,a2,hat2,_,_,_,_,_,O,fun D=>?_,fun D=>?_⟩
 rw[CB]at D
 have D:=of_decide_eq_true D
 have⟨s2,L,y,hat⟩:=O1.cm.ZU CZ (k:=.i64) (n:=(j:Int)) Om So
 have y:s2.len=fs.length-j:=by simpa using y
 refine⟨s2,L w1,fun k2 M H w'=>∃a i:Nat,k2=a/\M=i/\1<=i/\1<=a/\a<j+i/\∃hi:j+i<=fs.length,∃ls:List dy,ls.length=fs.length/\ls.drop (j+i-1)=fs.drop (j+i-1)/\ab s.aq C w'/\jw H w' 35 5 s (ls.map mf)/\jk fs=ls.take a++kh (fs[j+i-1]' Om) (fs.drop<|j+i),fun _ M _=>((fs.length:Int)-M).toNat,?_,?_⟩
 refine⟨j,1,rfl,rfl,Nat.le_refl _,hj1,Om,f,fs,rfl,rfl,ab.pure E1,O1,?_⟩
 rw[hc,drop_eq_getElem_cons f,kh,if_pos D.symm]
 rfl
 rintro _ _ H2 w2 hs2 ⟨a,i,rfl,rfl,hi1,ha1,hai,hi,ls,Z,R,E2,O2,m⟩
 unfold Ql
 have E:∀q,(h:q<fs.length)->j+i-1<=q->ls[q]' Om=fs[q]:=by
  intro q h hq;have e:=congrArg (fun l=>l[q-(j+i-1)]?) R;simp only[getElem?_drop]at e;rw[show j+i-1+(q-(j+i-1))=q by omega,getElem?_eq_getElem Om,getElem?_eq_getElem h]at e;exact Option.some.inj e
 refine⟨fun J=>?_,fun J=>?_⟩
 have o:j+i<fs.length:=Oh<|of_decide_eq_true J
 have⟨a3,A,_⟩:=O2.kg (show j+i<ls.length by omega)
 have up:∀(q:Nat) (x:Addr),j+q<fs.length->At s ((j+q:Nat):Int) 5 x->At s2 (q:Int) 5 x:=fun q x hq hx=>hat q x (by simpa using hq) (by simpa using hx)
 refine⟨a3,up i a3 o A,fun w3 W=>?_⟩
 have T:=O2.au W
 have E3:=E2.au W
 have⟨a3',Q,d⟩:=T.kg (show j+i<ls.length by omega)
 have ha3:a3=a3':=by
  obtain⟨_,_,b,g,rfl⟩:=A;obtain⟨_,_,b',B,rfl⟩:=Q;rw[g]at B;cases B;rfl
 rw[<-ha3]at d
 have⟨a4,Y,u⟩:=T.kg (show j+(i-1)<ls.length by omega)
 have hw2:IntKind.i64.wrap ((i:Int)-1)=((i-1:Nat):Int):=by rw[i64 Om Om];omega
 rw[hw2]
 rw[E (j+i) o Om]at d
 have e4:ls[j+(i-1)]' Om=fs[j+i-1]' Om:=by
  rw[E (j+(i-1)) Om Om];congr 1;omega
 rw[e4]at u
 rw[drop_eq_getElem_cons o,kh]at m
 refine⟨_,_,_,_,_,d,a4,up (i-1) a4 Om Y,_,_,_,_,_,u,fun c=>?_,fun c=>?_⟩
 rw[CB]at c
 have c:¬fs[j+i]=fs[j+i-1]' Om:=by simpa using c
 rw[if_neg fun e=>c e.symm]at m
 have⟨a6,F,hcw,hset⟩:=T.cm.set (i:=a) (r:=mf fs[j+i]) So rfl rfl
 refine⟨a3,up i a3 o A,_,_,_,_,_,d,a6,F,hcw,?_,fun X hw4=>?_⟩
 obtain⟨_,_,b,g,rfl⟩:=F
 exact T.jd _ ⟨b,g,by rw[zC]⟩
 have⟨hR,hE⟩:=hset X hw4
 rw[zM (show a<fs.length by omega) Om,zM (show i<fs.length by omega) Om]
 refine⟨⟨a+1,i+1,rfl,rfl,Om,Om,Om,Om,ls.set a fs[j+i],by simpa using Z,?_,E3.trans hE,⟨by rw[map_set];exact hR,T.jd⟩,?_⟩,yQ<|show i<fs.length by omega⟩
 rw[drop_set_of_lt Om]
 have e:=congrArg (drop 1) R
 rw[drop_drop,drop_drop]at e
 rw[show j+(i+1)-1=j+i-1+1 by omega];exact e
 rw[m,take_succ_eq_append_getElem (by rw[length_set];omega),take_set_of_le<|Nat.le_refl _,getElem_set_self,append_assoc]
 rfl
 rw[CB]at c
 have c:fs[j+i]=fs[j+i-1]' Om:=by simpa using c
 rw[if_pos c.symm]at m
 rw[zM (show i<fs.length by omega) Om]
 refine⟨⟨a,i+1,rfl,rfl,Om,Om,Om,Om,ls,Z,?_,E3,T,?_⟩,yQ<|show i<fs.length by omega⟩
 have e:=congrArg (drop 1) R
 rw[drop_drop,drop_drop]at e
 rw[show j+(i+1)-1=j+i-1+1 by omega];exact e
 rw[m];rfl
 have hge:j+i=fs.length:=Oh<|of_decide_eq_false J
 rw[drop_eq_nil_of_le Om,kh,append_nil]at m
 have⟨s3,X,S,V,hE4,rs',hR',hl',htk⟩:=O2.cm.jbL (P:=prog) (t:=64) (ty:=0) CZ (z:=.agg #[vi 0,vi 0,vu 0,vs ⟨#[]⟩,vb false]) (fun w=>zeroValue35 w) rfl (by intro v hv;simp[Value.cells]at hv;rcases hv with rfl|rfl|rfl|rfl|rfl<;>rfl) (k:=.i64) (n:=(a:Int)) Om So
 have⟨s4,N,hR4,hb4⟩:=hR'.ZQ (P:=prog) CZ (k:=.i64) (n:=(a:Int)) Om (by rw[hl'];simp;omega)
 refine⟨s3,S w2,X,V,hE4.bk fun b g hs=>O2.jd b hs g,s4,N X,hK s4 X ?_ (E2.trans hE4) fun b g=>(hb4 b).1 g⟩
 rw[htk]at hR4
 rw[m,map_take];simpa using hR4
 rw[CB]at D
 have D:¬fs[j]=fs[j-1]' Om:=by simpa using D
 rw[drop_eq_getElem_cons f,kh,if_neg fun e=>D e.symm]at hc
 rw[zM f Om]
 refine⟨⟨j+1,rfl,Om,f,E1,O1,?_⟩,yQ f⟩
 rw[hc,take_succ_eq_append_getElem f,append_assoc]
 rfl
 have hge:=qU U hj g
 subst hge
 rw[drop_length,kh,append_nil,take_length]at hc
 exact hK s wl (by rw[hc];exact Ol.cm) (ab.pure El) fun _ h=>h
end Go.Proofs
end
section
namespace Go.Proofs
open Tryz
open Go.Shelf
def VQ:Go.Shelf.Ren:=⟨fun|44=>89|n=>n,fun|25=>79|26=>9|3=>3|4=>4|0=>0|n=>n,fun|n=>n⟩
def Kx:Go.Proofs.SlLaysN.n44 prog VQ:={
 mixed:=by kernel_rfl
 f44:=⟨f89.name,by decide,func89.trans<|congrArg some<|by kernel_rfl⟩
 t0:=underlying0
 a0:=isAgg0
 z0:=sizeOf0
 v0:=zeroValue0
 t3:=underlying3
 a3:=isAgg3
 z3:=sizeOf3
 v3:=zeroValue3
 t4:=underlying4
 a4:=isAgg4
 z4:=sizeOf4
 v4:=zeroValue4
 t25:=underlying79
 a25:=isAgg79
 z25:=sizeOf79
 v25:=zeroValue79
 t26:=underlying9
 a26:=isAgg9
 z26:=sizeOf9
 v26:=zeroValue9
 i26:=by kernel_rfl }
end Go.Proofs
end
section
open Go Go.SE Go.Sort
namespace Go.Proofs
def gp(l:List ByteArray):List (List UInt8):=l.map (·.data.toList)
def sW(z:List UInt8):ByteArray:=⟨z.toArray⟩
def Wt(z:List (List UInt8)):gp (z.map sW)=z:=by
 unfold gp;rw[List.map_map];simp[Function.comp_def,sW]
def WH(l:List ByteArray):(gp l).map sW=l:=by
 unfold gp;rw[List.map_map];exact(List.map_congr_left (g:=id) fun x _=>rfl).trans (List.map_id _)
def Ux{a b:ByteArray}(h:a.data.toList=b.data.toList):a=b:=EF (by rw[Lib.toList_data,Lib.toList_data];exact h)
def QZ(l:List ByteArray):∀a:ByteArray,kh a.data.toList (gp l)=gp (kh a l):=by
 induction l with
 |nil=>intro a;rfl
 |cons b l c =>
  intro a
  simp only[gp,List.map_cons,kh]at *
  by_cases h:a=b
  subst h;rw[if_pos rfl,if_pos rfl];exact c a
  rw[if_neg fun e=>h<|Ux e,if_neg h,List.map_cons];congr 1;exact c b
def jaQ(l:List ByteArray):jk (gp l)=gp (jk l):=by
 cases l with
 |nil=>rfl
 |cons a l=>simp only[gp,List.map_cons,jk];congr 1;exact QZ l a
def zIU{α:Type}[DecidableEq α](l:List α):∀a,(kh a l).length<=l.length:=by
 induction l with
 |nil=>intro a;simp[kh]
 |cons b l c=>intro a;have:=c b;unfold kh;split<;>simp only[List.length_cons]<;>omega
def FW{α:Type}[DecidableEq α](l:List α):(jk l).length<=l.length:=by
 cases l with
 |nil=>simp[jk]
 |cons a l=>have:=zIU l a;simp only[jk,List.length_cons];omega
end Go.Proofs
namespace Go.Proofs
open Tryz
attribute [local irreducible] Calls
def kv(l:List ByteArray):List (List Value):=l.map fun x=>[vs x]
def EB(l:List ByteArray):(kv l).flatten=(gp l).map encStr:=by
 induction l with
 |nil=>rfl
 |cons a l b=>simp only[kv,gp,List.map_cons,List.flatten_cons]at *;rw[b];rfl
def yT(l):(kv l).length=l.length:=by simp[kv]
section
variable {w:World} {e:TypeId} {s:Sl} {l:List ByteArray} {b:Nat} {cur:Array Value} (ha:s.a=some ⟨b,0,none⟩) (hg:w.heap[b]?=some (.cells cur e (0,0))) (ht:cur.toList.take ((kv l).length*1)=(kv l).flatten)
include hg ht
def Kg:Holds encStr w b 0 (gp l).toArray:=by
 intro j a;have a:j<(gp l).length:=by simpa using a
 rw[EB,yT,Nat.mul_one]at ht;have c:cur[j]?=some (encStr (gp l)[j]):=by
  have:cur.toList[j]?=(cur.toList.take l.length)[j]?:=by rw[List.getElem?_take_of_lt<|by simpa[gp]using a]
  rw[<-Array.getElem?_toList,this,ht,List.getElem?_map,List.getElem?_eq_getElem a];rfl
 refine⟨?_,?_⟩;unfold World.cell?;rw[hg];simp only[Option.isSome_none,Bool.false_eq_true,if_false,Nat.zero_add];rw[c,getElem!_pos (gp l).toArray j<|by simpa using a];simp;unfold World.frozen?;rw[hg];simp
omit ht
include ha
def JF(o:l.length<=s.cap)(hm:s.cap<=maxLen)(hs:cur.size=s.cap*1)(c:s.len=l.length)(q:List ByteArray)(m:q.length=l.length)(n:Nat)(os:Array Obj):
  bg (Sort.grow (putRow encStr (Sort.ahead w n) b 0 (gp q).toArray) os) e 1 s (kv q)/\ab s.aq w (Sort.grow (putRow encStr (Sort.ahead w n) b 0 (gp q).toArray) os):=by
 have h:b<w.heap.size:=xA hg
 rw[Nat.mul_one]at hs
 have a:(gp q).length=q.length:=by simp[gp]
 refine⟨⟨?_,?_,.inr ⟨b,putCells encStr 0 (gp q).toArray cur,ha,?_,by rw[yT];omega,hm,by simp[putCells,hs],?_⟩⟩,?_⟩
 intro r hr;simp[kv]at hr;obtain⟨t,_,rfl⟩:=hr;rfl
 rw[yT,m];exact c
 rw[heap_grow_old _ _<|by simpa using h]
 simp[putRow,mapBlock,Sort.ahead,Array.getElem?_modify,hg,onCells]
 rw[EB,yT,Nat.mul_one]
 apply List.ext_getElem?
 intro j
 by_cases f:j<q.length
 rw[List.getElem?_take_of_lt f,Array.getElem?_toList]
 unfold putCells
 rw[Array.getElem?_mapIdx,Array.getElem?_eq_getElem<|show j<cur.size by omega,Option.map_some,if_pos ⟨Nat.zero_le _,by simp[a];omega⟩,Nat.sub_zero,getElem!_pos _ j<|by simpa[a]using f,List.getElem?_map,List.getElem?_eq_getElem Om]
 simp
 rw[List.getElem?_eq_none So,List.getElem?_eq_none (by simp[a];omega)]
 refine⟨rfl,rfl,rfl,Nat.le_add_right _ _,by simp[size_grow],fun i hi k=>?_⟩
 have d:b≠i:=fun g=>k ⟨_,ha,g⟩
 rw[heap_grow_old _ _<|by simpa using hi]
 simp[putRow,mapBlock,Sort.ahead,Array.getElem?_modify,d]
end
def Q6(s:Sl)(l:List ByteArray)(d:World)(h:bg d 9 1 s (kv l))(w:l.length<=1000000):
  cl 88 #[s.v] d<|fun e w'=>e=.returned (.tuple #[])/\∃q:List ByteArray,q.Perm l/\q.Pairwise (fun a b=>¬pH b a<0)/\bg w' 9 1 s (kv q)/\ab s.aq d w':=by
 have j:s.len=l.length:=by rw[h.len,yT]
 rcases h.ak with⟨rfl,f⟩|⟨b,cur,ha,hg,o,hm,hs,ht⟩
 have p:l=[]:=by simpa[kv]using f
 subst p
 refine(show cl 88 #[Sl.nil.v] d _ from AnyG.slices_Sort_string_none OG none 0 d).mono ?_
 rintro _ w' ⟨rfl,rfl⟩
 exact⟨rfl,[],.refl _,.nil,h,ab.refl _⟩
 rw[yT]at o
 have u:=Kg hg ht
 have r:b<d.heap.size:=xA hg
 have k:(gp l).length=l.length:=by simp[gp]
 have t:s.v=.slice (some ⟨b,0,none⟩) (gp l).length s.cap:=by unfold Sl.v;rw[ha,j,k]
 rw[t]
 refine(show cl 88 #[.slice (some ⟨b,0,none⟩) (gp l).length s.cap] d _ from AnyG.slices_Sort_string OG b 0 s.cap (gp l) d u r Om).mono ?_
 rintro _ w' ⟨rfl,n,os,rfl⟩
 have m:((gp l).mergeSort fun x y=>decide (x<=y)).Perm (gp l):=List.mergeSort_perm _ _
 have i:((gp l).mergeSort fun x y=>decide (x<=y)).Pairwise (·<=·):=by
  have:=List.pairwise_mergeSort (le:=fun x y:List UInt8=>decide (x<=y)) (fun a b c h1 h2=>by simp at *;exact List.le_trans h1 h2) (fun a b=>by simp;exact List.le_total a b)<|gp l;simpa using this
 generalize ((gp l).mergeSort fun x y=>decide (x<=y))=z at *
 have e:z=gp (z.map sW):=(Wt z).symm
 have⟨h1,h2⟩:=JF ha hg o hm hs j (z.map sW) (by rw[List.length_map,m.length_eq,k]) n os
 rw[<-e]at h1 h2
 refine⟨rfl,z.map sW,?_,?_,h1,h2⟩
 have:=m.map sW
 rwa [WH]at this
 rw[List.pairwise_map]
 refine i.imp fun {a b} g=>?_
 have:=Dh.neg (sW a)<|sW b
 have:pH (sW a) (sW b)<=0:=by rw[Le,Lib.toList_data,Lib.toList_data];exact g
 omega
def jRM(s:Sl)(l:List ByteArray)(w0:World)(h:bg w0 9 1 s (kv l))(hn:l.length<=1000000):
  cl 89 #[s.v] w0<|XA fun r w'=>bg w' 9 1 r (kv<|jk l)/\ab s.aq w0 w'/\∀b,r.aq b->s.aq b:=by
 have hl:s.len=l.length:=by rw[h.len,yT]
 rcases h.ak with⟨rfl,hnil⟩|⟨b,cur,ha,hg,hc,hm,hs,ht⟩
 have hd:l=[]:=by simpa[kv]using hnil
 subst hd
 refine(show cl 89 #[Sl.nil.v] w0 _ from AnyG.slices_Compact_string_empty Kx none 0 w0).mono ?_
 rintro _ w' ⟨rfl,rfl⟩
 exact⟨Sl.nil,rfl,h,ab.refl _,fun _ h=>h⟩
 rw[yT]at hc
 have hH:=Kg hg ht
 have hz:∀l,(gp l).length=l.length:=fun l=>by simp[gp]
 have hv:s.v=.slice (some ⟨b,0,none⟩) (gp l).length s.cap:=by unfold Sl.v;rw[ha,hl,hz]
 rw[hv]
 refine(show cl 89 #[.slice (some ⟨b,0,none⟩) (gp l).length s.cap] w0 _ from AnyG.slices_Compact_string Kx b 0 s.cap (gp l) w0 hH (by rw[hz];omega) (by rw[hz];exact hc)).mono ?_
 rintro _ w' ⟨rfl,n,rfl⟩
 rw[Tx,jaQ,hz,hz]
 have hk:=FW l
 have e:gp (jk l)++List.replicate (l.length-(jk l).length) []=gp (jk l++List.replicate (l.length-(jk l).length) ⟨#[]⟩):=by
  unfold gp;rw[List.map_append,List.map_replicate]
 have⟨h1,h2⟩:=JF ha hg hc hm hs hl (jk l++List.replicate (l.length-(jk l).length) ⟨#[]⟩) So n #[]
 rw[<-e,grow_empty]at h1 h2
 refine⟨⟨some ⟨b,0,none⟩,(jk l).length,s.cap⟩,rfl,?_,h2,fun y hy=>by have⟨a,h,e⟩:=hy;cases h;exact⟨_,ha,e⟩⟩
 rcases h1.ak with⟨rfl,_⟩|⟨b',cur',ha',hg',hc',hm',hs',ht'⟩
 cases ha
 rw[ha]at ha';cases ha'
 refine⟨fun r hr=>?_,by rw[yT],.inr ⟨b,cur',rfl,hg',by rw[yT];exact Nat.le_trans hk hc,hm',hs',?_⟩⟩
 simp[kv]at hr;obtain⟨t,_,rfl⟩:=hr;rfl
 have:=congrArg (List.take (jk l).length) ht'
 rw[EB,yT,List.take_take,Nat.mul_one]at this
 rw[EB,yT,Nat.mul_one]
 rw[Nat.min_eq_left Sm]at this
 rw[this]
 unfold gp
 rw[List.map_append,List.map_append,List.take_append_of_le_length Sm,List.take_of_length_le Sm]
end Go.Proofs
end
section
open Go Go.SE List
namespace Go.Proofs
def ua(L:aw)(ts:List Int):List dy:=ts.filterMap fun t=>if(mo L t).2=true then some (mo L t).1 else none
def OQ(L:aw)(G:List Int)(ls:List dy):Prop:=ls.Pairwise (ya · ·<0)/\∀l,l∈ls↔∃t,ky L G t/\mo L t=(l,true)
def tO(ao c:Int)(l:dy):Bool:=(l.c==c)&&((l.kind==6) ||((l.kind==2)&&(l.az==ao)))
def Ga(L:aw)(G:List Int)(ao c:Int)(xs:List ByteArray):Prop:=xs.Pairwise (pH · ·<0)/\∀x,x∈xs↔∃t l,ky L G t/\mo L t=(l,true)/\tO ao c l=true/\l.bb=x
def jTB{L t}(ts):ua L (ts++[t])=ua L ts++if(mo L t).2=true then[(mo L t).1]else[]:=by
 unfold ua;rw[filterMap_append];congr 1;simp only[filterMap_cons,filterMap_nil];split<;>rename_i h;split at h;cases h;rename_i h2;rw[if_neg h2];split at h;rename_i h2;cases h;rw[if_pos h2];cases h
def Mp(L ts):(ua L ts).length<=ts.length:=length_filterMap_le _ _
def zEB{L ts l}:l∈ua L ts↔∃t∈ts,mo L t=(l,true):=by
 unfold ua;rw[mem_filterMap];constructor;rintro⟨t,ht,h⟩;split at h;rename_i h2;cases h;exact⟨t,ht,Prod.ext rfl h2⟩;cases h;rintro⟨t,ht,h⟩;exact⟨t,ht,by rw[h];rfl⟩
end Go.Proofs
namespace Go.Proofs
open Tryz
attribute [local irreducible] Calls
def jOB(f w0){L G a b F}(h:ik w0 f L G a b F):
  cl 24 #[vp<|some f] w0<|XA fun r w'=>∃ls,fv w0 35 5 (ls.map mf) r w'/\OQ L G ls/\ls.length<=65536:=by
 suffices key:∀K:Sl->WP,(∀r ls w',fv w0 35 5 (ls.map mf) r w'->OQ L G ls/\ls.length<=65536->K r w')->H8 (some f) w0 K from
  Vq _ w0 _<|key _ fun r ls w' h1 h2=>⟨ls,h1,h2⟩
 intro K hK
 unfold H8
 have⟨k,p,S,FK,FP,B,hF⟩:=h
 have N:(zH S).length<=65536:=by rw[yJ];exact Nat.le_trans B.ok.tony.ft B.wf.ok.ft
 refine Br.f rfl ⟨f,rfl,some k,B.box.bf,?_⟩
 refine(jYB k p w0 B.fl Om).mono ?_
 rintro _ U ⟨r1,rfl,q,h1,n,_⟩
 have hql:q.length<=65536:=by rw[n.length_eq];exact N
 have R:r1.len=q.length:=by rw[h1.cm.len,vA]
 have E1:=h1.pure
 have z1:=E1.size
 refine⟨r1,rfl,h1.bk,fun o i H w'=>∃j:Nat,i=j/\j<=q.length/\Pure w0 w'/\U.heap.size<=w'.heap.size/\(∀y,o.aq y->U.heap.size<=y)/\(∀y,H y->U.heap.size<=y)/\jw H w' 35 5 o ((ua L<|q.take j).map mf)/\jw H w' 73 1 r1 (cd q),fun _ i _=>((q.length:Int)-i).toNat,⟨0,rfl,Nat.zero_le _,E1,Nat.le_refl _,fun y h=>(by have⟨a,h,_⟩:=h;cases h),fun _ h=>h.elim,jw.nil _ _,⟨h1.cm,fun _ _ h=>h⟩⟩,?_⟩
 rintro o _ Hl wl X ⟨j,rfl,hj,El,zl,g,hH,J,O1⟩
 refine⟨fun h=>?_,fun h=>?_⟩
 have m:=vQ R h
 have⟨a1,hat,_,hv⟩:=uJ O1.cm.el m
 have A:=B.ext El fun _ _ h=>h
 refine⟨a1,hat,_,hv,f,rfl,some p,A.box.cell rfl,?_⟩
 refine(VS p q[j] wl A.bl A.wf.ok).mono ?_
 rintro _ w2 ⟨k2,f2,c2,x2,g2,ok2,rfl,Z,z⟩
 have s:=jTB (L:=L) (t:=q[j])<|q.take j
 rw[<-take_succ_eq_append_getElem m,<-Z]at s
 have hbl:(ua L<|q.take j).length<=j:=Nat.le_trans (Mp _ _) (by rw[length_take];omega)
 have I:=El.trans z
 have z2:=z.size
 have up:∀{V T},af w0 Hl w2 V T->∀y,V y->U.heap.size<=y:=fun hs y u=>(hs.ax y u).elim (hH y) fun h=>Om
 refine⟨_,_,_,_,_,_,rfl,z.bz,fun h2 V T d p2 w5 h5=>?_,fun h2 V T d=>?_⟩
 subst h2
 rw[if_pos rfl]at s
 have M:Pure T w5:=ab.ax h5
 have O5:=((J.pure z).au d).pure M
 have hE5:=(I.au d).trans M
 have D:Row w5 p2 (mf ⟨k2,f2,c2,x2,g2⟩):=(ai.bj h5).row
 have⟨s',w6,hr,hO,hE,hk,hb⟩:=O5.append (P:=prog) (ty:=64) (c:=1) CZ (d.ib M.bz) D rfl rfl So (by simp[maxLen];omega)
 refine⟨s',w6,hr,hk,?_⟩
 rw[zM m Om]
 have z4:=d.ext.size;have z5:=M.size;have z6:=hE.size
 refine⟨⟨j+1,rfl,m,Pf O5 hE5 hE fun y u=>Nat.le_trans z1<|g y u,Om,fun y h=>(hb y h).elim (g y) fun h=>Om,up d,by rw[s,map_append];exact hO,?_⟩,yQ m⟩
 refine(((O1.pure z).au d).pure M).ext hE fun y h3 h4=>?_
 have:=h1.cm.lt h3;have:=g y h4;omega
 subst h2
 rw[if_neg Sm,append_nil]at s
 rw[zM m Om]
 have z4:=d.ext.size
 exact⟨⟨j+1,rfl,m,I.au d,Om,g,up d,by rw[s];exact(J.pure z).au d,(O1.pure z).au d⟩,yQ m⟩
 have hge:=qU R hj h
 subst hge
 rw[take_length]at J
 have hll:=Mp L q
 have hml:∀l,l∈ua L q↔∃t,ky L G t/\mo L t=(l,true):=fun l=>by
  rw[zEB];constructor;rintro⟨t,ht,e⟩;exact⟨t,(B.ok.AL t).1<|n.mem_iff.1 ht,e⟩;rintro⟨t,ht,e⟩;exact⟨t,n.mem_iff.2<|(B.ok.AL t).2 ht,e⟩
 generalize ua L q=ls at *
 intro W w7 h7
 have E7:Pure wl w7:=ab.ax h7
 have n7:=h7.cu
 have B7:=ai.bj h7
 refine⟨B7.gx Sm,fun hh=>Oh<|X.lt _ hh,?_⟩
 rintro w8 rfl
 have X8:=ab.setCell (w:=w7) W<|.func (.func 74) #[] #[]
 have B8:=B7.jh (v:=.func (.func 74) #[] #[])
 have Q:¬o.aq W.block:=fun hh=>Oh<|J.cm.lt hh
 have Y:=(J.pure E7).ext X8 fun y u e=>Q<|e▸u
 have E8:Pure wl (w7.setCell W<|.func (.func 74) #[] #[]):=E7.cg X8 fun i hi e=>Om
 refine(Xe o ls W _ B8 Q Y.cm Om).mono ?_
 rintro _ w9 ⟨rfl,E,C,hsd,R9,E9⟩
 refine⟨rfl,E9.bk fun y u hs=>Y.jd y hs u,?_⟩
 refine(To o E w9 R9 (by rw[C.length_eq];omega)).mono ?_
 rintro _ w10 ⟨r,rfl,R10,O,hb⟩
 refine⟨r,rfl,O.bk fun y u hs=>Y.jd y hs u,hK r (jk E) w10 ⟨R10,fun y u=>Nat.le_trans z1<|g y<|hb y u,(El.trans E8).cg (E9.trans O) fun i hi hs=>Oh<|g i hs⟩ ⟨⟨Na LQ WK hsd,fun x=>?_⟩,Oi (FW E) C.length_eq⟩⟩
 rw[O9,C.mem_iff];exact hml x
def zHR:km prog 79 9 1 16:=by
 refine⟨underlying79,⟨t9,_,Kf,(by kernel_rfl:t9.zero=some (vs ⟨#[]⟩)),Kf,Kf,rfl⟩,Om⟩
def jTU(f ao c w0){L G a b F}(h:ik w0 f L G a b F):
  cl 26 #[vp<|some f,vi ao,vu c] w0<|XA fun r w'=>∃xs,fv w0 9 1 (kv xs) r w'/\(if qM ao=true then Ga L G ao c xs else xs=[])/\xs.length<=65536:=by
 suffices key:∀K:Sl->WP,(∀r xs w',fv w0 9 1 (kv xs) r w'->(if qM ao=true then Ga L G ao c xs else xs=[])/\xs.length<=65536->K r w')->IN (some f) ao c w0 K from
  jbQ _ _ _ w0 _<|key _ fun r xs w' h1 h2=>⟨xs,h1,h2⟩
 intro K hK
 unfold IN
 have u:∀y,¬Sl.nil.aq y:=fun y h=>by have⟨a,h,_⟩:=h;cases h
 refine⟨fun Y O hs=>?_,fun Y O hs=>?_⟩
 .have S:qM ao=false:=by unfold qM;simpa using Y
  exact hK Sl.nil [] O ⟨bg.nil _ _ _,fun y h=>(u y h).elim,hs.first⟩ ⟨by rw[if_neg (by rw[S];simp)],Sm⟩
 have S:qM ao=true:=by unfold qM;simpa only[Bool.not_eq_false']using Y
 have T:Pure w0 O:=hs.first
 refine(jOB f O<|h.pure T).mono ?_
 rintro _ Q ⟨r1,rfl,ls,h1,⟨hso,E⟩,hlen⟩
 have M:r1.len=ls.length:=by rw[h1.cm.len];simp
 have E2:=T.trans h1.pure
 have z1:=T.size;have z2:=h1.pure.size
 refine⟨r1,rfl,h1.bk,fun o i H w'=>∃j:Nat,i=j/\j<=ls.length/\Pure w0 w'/\Q.heap.size<=w'.heap.size/\(∀y,o.aq y->Q.heap.size<=y)/\(∀y,H y->Q.heap.size<=y)/\jw H w' 9 1 o (kv<|((ls.take j).filter<|tO ao c).map dy.bb)/\jw H w' 35 5 r1 (ls.map mf),fun _ i _=>((ls.length:Int)-i).toNat,⟨0,rfl,Nat.zero_le _,E2,Nat.le_refl _,fun y h=>(u y h).elim,fun _ h=>h.elim,jw.nil _ _,⟨h1.cm,fun _ _ h=>h⟩⟩,?_⟩
 rintro o _ Hl wl hl' ⟨j,rfl,hj,El,zl,g,hH,z,R⟩
 refine⟨fun h=>?_,fun h=>?_⟩
 .have k:=vQ M h
  have⟨a1,hat,I⟩:=R.kg k
  have s:(ls.take<|j+1).filter (tO ao c)=(ls.take j).filter (tO ao c)++(if tO ao c ls[j]=true then[ls[j]]else[]):=by
   rw[take_succ_eq_append_getElem k,filter_append];simp only[filter_cons,filter_nil]
  have hbl:(((ls.take j).filter<|tO ao c).map dy.bb).length<=j:=by
   have:=length_filter_le (tO ao c)<|ls.take j;rw[length_take]at this;rw[length_map];omega
  generalize ls[j]=m at *
  refine⟨a1,hat,_,_,_,_,_,I,?_⟩
  rintro y1 n
  have n:y1=tO ao c m:=n
  have up:∀{H1 w4},af w0 Hl wl H1 w4->∀y,H1 y->Q.heap.size<=y:=fun hs y n=>(hs.ax y n).elim (hH y) fun h=>Om
  refine⟨fun h2 H5 w8 d p2 N A=>?_,fun h2 H5 w8 d=>?_⟩
  .rw[if_pos (by rw[<-n];exact h2)]at s
   have p:Pure w8 N:=ab.ax A
   have C:=(z.au d).pure p
   have D:=(El.au d).trans p
   have q:Row N p2 [vs m.bb]:=(ai.bj A).row
   have⟨s',w13,hr,hO,W,hk,U⟩:=C.append (P:=prog) (ty:=79) (c:=1) zHR (d.ib p.bz) q rfl rfl (by rw[yT];omega) (by rw[yT];unfold maxLen;omega)
   refine⟨s',w13,hr,hk,?_⟩
   rw[zM k Om]
   have z4:=d.ext.size;have z5:=p.size;have z6:=W.size
   refine⟨⟨j+1,rfl,k,Pf C D W fun y n=>Oh<|g y n,Om,fun y h=>(U y h).elim (g y) fun h=>Om,up d,?_,?_⟩,yQ k⟩
   .rw[s]
    simpa[kv]using hO
   .refine((R.au d).pure p).ext W fun y h3 J=>?_
    have:=h1.cm.lt h3;have:=g y J;omega
  .rw[if_neg (by rw[<-n,h2];simp),append_nil]at s
   rw[zM k Om]
   have z4:=d.ext.size
   exact⟨⟨j+1,rfl,k,El.au d,Om,g,up d,by rw[s];exact z.au d,R.au d⟩,yQ k⟩
 have V:=qU M hj h
 subst V
 rw[take_length]at z
 have hfl:=length_filter_le (tO ao c) ls
 have Z:∀x,x∈(ls.filter<|tO ao c).map dy.bb↔∃t l,ky L G t/\mo L t=(l,true)/\tO ao c l=true/\l.bb=x:=fun x=>by
  rw[mem_map];constructor
  .rintro⟨l,hl,e⟩;have⟨h3,J⟩:=mem_filter.1 hl;have⟨t,ht,hr⟩:=(E l).1 h3;exact⟨t,l,ht,hr,J,e⟩
  .rintro⟨t,l,ht,hr,J,e⟩;exact⟨l,mem_filter.2 ⟨(E l).2 ⟨t,ht,hr⟩,J⟩,e⟩
 have hxl:((ls.filter<|tO ao c).map dy.bb).length<=65536:=by rw[length_map];omega
 generalize (ls.filter<|tO ao c).map dy.bb=xs at *
 refine(Q6 o xs wl z.cm Om).mono ?_
 rintro _ w9 ⟨rfl,v,w,hsd,R9,E9⟩
 refine⟨rfl,E9.bk fun y n hs=>z.jd y hs n,?_⟩
 refine(jRM o v w9 R9 (by rw[w.length_eq];omega)).mono ?_
 rintro _ w10 ⟨r,rfl,X,B,U⟩
 refine⟨r,rfl,B.bk fun y n hs=>z.jd y hs n,hK r (jk v) w10 ⟨X,fun y n=>Oh<|g y<|U y n,El.cg (E9.trans B) fun i hi hs=>Oh<|g i hs⟩ ⟨?_,Oi (FW v) w.length_eq⟩⟩
 rw[if_pos S]
 exact⟨Na Dh (fun {a b} h=>by unfold pH at h;grind) hsd,fun x=>by rw[O9,w.mem_iff];exact Z x⟩
end Go.Proofs
end
section
open Go Go.SE List
namespace Go.Proofs
def zCX{L}(b:Wf L){d}(a:al L d=true)(n:Int):(of L<|yD n<|zA L d).2.2.length<=L.length+1:=by
 have c:grow L (yD n<|zA L d)=ay L ⟨7,n,0,0,⟨#[]⟩,d,0⟩:=by
  unfold yD;rw[grow,zZ,Qn b _ _ rfl a];simp[zZ]
 have:=BG L ⟨7,n,0,0,⟨#[]⟩,d,0⟩;unfold of;rw[c];split;simp;split;simp;exact this
def Xy{L}(a:Wf L){t l}(ht:al L t=true)(b:vR l=0)(e:zA L t=zT l true true):zG L l=(t,0,L):=by
 unfold zG;rw[if_neg Om,<-e,Vi a ht]
def Kl{L}(b:Wf L){t n D}(ht:al L t=true)(e:zA L t=yD n D):∃d,al L d=true/\zA L d=D:=by
 rw[zW b ht]at e;injection e with f _ _ _ _ a;have c:qY (ad L t).kind=true:=by rw[f];rfl
 rw[CN c]at a;simp at a;exact⟨_,(xv b ht c).1,a⟩
def GU{L}(d:Wf L){t A B}(ht:al L t=true)(e:zA L t=qR A B):∃a b,al L a=true/\zA L a=A/\al L b=true/\zA L b=B:=by
 rw[zW d ht]at e;injection e with f _ _ _ _ c;rw[Bh f]at c;simp at c;have:=ug d ht f;exact⟨_,_,this.1.1,c.1,this.2.1,c.2⟩
def DY(gs:List bt)(ao c:Int)(x:ByteArray):Prop:=∃l∈jb ao c x,vR l=0/\qu gs (zT l true true)
section
variable {L:aw} {G:List Int} {gs:List bt} (h:Gs L G gs) {ao c:Int} {x:ByteArray} (hp:qM ao=true)
include h
def LG(k:DY gs ao c x):∃l∈jb ao c x,∃t d,vR l=0/\al L t=true/\zA L t=zT l true true/\ky L G t/\al L d=true/\zA L d=vO c x:=by
 have⟨l,f,i,hs⟩:=k;obtain rfl:=h.e;have⟨t,ht,e,sn⟩:=CG h.wf h.iq hs;refine⟨l,f,t,?_⟩;simp only[jb,mem_cons,not_mem_nil,or_false]at f;rcases f with rfl|rfl;have⟨d,a,g⟩:=Kl h.wf ht (n:=ao) (D:=vO c x) e;exact⟨d,i,ht,e,sn,a,g⟩;have⟨d,a,g⟩:=Kl h.wf ht (n:=2) (D:=qR (qB yG)<|vO c x) e;have⟨_,b,_,_,m,j⟩:=GU h.wf a g;exact⟨b,i,ht,e,sn,m,j⟩
theorem Wg(m:DY gs ao c x)(o:L.length<=64900):(pY L G ao c x).2.length<=L.length+1:=by
 have⟨l,hm,t,d,j,ht,e,sn,f,n⟩:=LG h m;unfold pY;split;have ie:∀ {M:aw},Wf (L++M)->zG (L++M) l=(t,0,L++M)/\ei (L++M) (ky (L++M) G) t:=fun {M} w=>by
  refine⟨Xy w (uD ht) j<|by rw[zj w ht,e],.seen ?_⟩;have g:=h.jf w;obtain rfl:=h.e;have:=(xk g.wf g.iq<|uD (M:=M) ht).2;rw[g.e,zj w ht]at this;exact this<|(xk h.wf h.iq ht).1 sn
 have k:jb ao c x=[⟨2,ao,c,x,false⟩,⟨6,0,c,x,false⟩]:=rfl;rw[k,tz];have b:(zG L ⟨2,ao,c,x,false⟩).2.2.length<=L.length+1:=by
  unfold zG;split;simp;have:=zCX h.wf f ao;rw[n]at this;exact this
 split;exact b;rename_i a;simp only[jb,mem_cons,not_mem_nil,or_false]at hm;rcases hm with rfl|rfl;have:=ie (M:=[]) (by rw[append_nil];exact h.wf);rw[append_nil]at this;rw[this.1]at a;exact absurd ⟨rfl,this.2⟩ a;have⟨M,i⟩:=tY h.wf.ok ⟨2,ao,c,x,false⟩;have w:=xK h.wf ⟨2,ao,c,x,false⟩;rw[i]at w b|-;have:=ie w;rw[tz,this.1,if_pos ⟨rfl,this.2⟩];exact b;simp
end
def Lr{L G gs}(h:Gs L G gs){ao c}(I:qM ao=true):∀(xs:List ByteArray),xs.Nodup->(∀x∈xs,DY gs ao c x)->∃ts:List Int,ts.Nodup/\ts.length=3*xs.length/\(∀t∈ts,al L t=true/\∃x∈xs,zA L t=qB x\/zA L t=vO c x\/∃l∈jb ao c x,zA L t=zT l true true)
 |[],_,_=>⟨[],Sm,Sm,Sm⟩
 |x :: xs,v,F=>by
  have v:=nodup_cons.1 v;have⟨ts,h1,h2,h3⟩:=Lr h I xs v.2 fun y u=>F y (by simp[u]);have⟨l,f,t,d,_,ht,e,_,H,m⟩:=LG h<|F x Sm;have⟨_,q,_,_,J,Q⟩:=GU h.wf H m;have⟨_,p,_,_,hp,w⟩:=GU h.wf J Q;have o:ao≠2:=fun e=>by subst e;simp[qM]at I
  have lt:∀{l:dy} {x:ByteArray},l∈jb ao c x->∃n D,zT l true true=yD n D/\((n=ao/\D=vO c x)\/(n=2/\D=qR (qB yG) (vO c x))):=fun {l x} f=>by
   simp only[jb,mem_cons,not_mem_nil,or_false]at f;rcases f with rfl|rfl;exact⟨_,_,rfl,.inl ⟨rfl,rfl⟩⟩;exact⟨_,_,rfl,.inr ⟨rfl,rfl⟩⟩
  have kd:∀{t x},zA L t=qB x->(zA L t).node.kind=3:=fun h=>by rw[h];rfl
  have kp:∀{t x},zA L t=vO c x->(zA L t).node.kind=4:=fun h=>by rw[h];rfl
  have k:∀{t l x},l∈jb ao c x->zA L t=zT l true true->(zA L t).node.kind=7:=fun f h=>by
   have⟨n,D,e,_⟩:=lt f;rw[h,e];rfl
  have j:∀{x y:ByteArray},vO c x=vO c y->x=y:=fun h=>by
   simp[vO,qR,qB]at h;exact h
  have iw:∀s,(zA L s=qB x\/zA L s=vO c x\/∃l∈jb ao c x,zA L s=zT l true true)->s∉ts:=fun s hs hm=>by
   have⟨_,y,u,N⟩:=h3 s hm;have g:x≠y:=fun e=>v.1<|e▸u;rcases hs with a|a|⟨la,B,a⟩<;>rcases N with b|b|⟨lb,z,b⟩;rw[a]at b;simp[qB]at b;exact g b;have:=kd a;have:=kp b;omega;have:=kd a;have:=k z b;omega;have:=kp a;have:=kd b;omega;exact g<|j<|a.symm.trans b;have:=kp a;have:=k z b;omega;have:=k B a;have:=kd b;omega;have:=k B a;have:=kp b;omega;have⟨n,D,R,K⟩:=lt B;have⟨T,S,P,M⟩:=lt z;have:=(R.symm.trans<|a.symm.trans b).trans P;simp only[yD,bt.mk.injEq,List.cons.injEq,and_true,true_and]at this;rcases K with⟨rfl,rfl⟩|⟨rfl,rfl⟩<;>rcases M with⟨rfl,rfl⟩|⟨rfl,rfl⟩;exact g<|j this.2;exact o this.1;exact o this.1.symm;have:=this.2;simp only[qR,bt.mk.injEq,List.cons.injEq,and_true,true_and]at this;exact g<|j this
  have C:p≠d:=fun e=>by have:=kd w;rw[e]at this;have:=kp m;omega
  have ij:p≠t:=fun A=>by have:=kd w;rw[A]at this;have:=k f e;omega
  have E:d≠t:=fun A=>by have:=kp m;rw[A]at this;have:=k f e;omega
  refine⟨p ::d ::t ::ts,?_,by simp only[length_cons];omega,fun s hs=>?_⟩;rw[nodup_cons,nodup_cons,nodup_cons];have o1:=iw p<|.inl w;have o2:=iw d<|.inr<|.inl m;have O:=iw t<|.inr<|.inr ⟨l,f,e⟩;simp only[mem_cons,not_or];exact⟨⟨C,ij,o1⟩,⟨E,o2⟩,O,h1⟩;simp only[mem_cons]at hs;rcases hs with rfl|rfl|rfl|hs;exact⟨hp,x,Sm,.inl w⟩;exact⟨H,x,Sm,.inr<|.inl m⟩;exact⟨ht,x,Sm,.inr<|.inr ⟨l,f,e⟩⟩;have⟨i,y,u,r⟩:=h3 s hs;exact⟨i,y,by simp[u],r⟩
def jSF{L G gs}(h:Gs L G gs){ao c xs}(ht:Ga L G ao c xs)(x):x∈xs↔DY gs ao c x:=by
 rw[ht.2];obtain rfl:=h.e;constructor;rintro⟨t,⟨k,f,m,p,g⟩,hs,hr,j,rfl⟩;have u:k=6\/(k=2/\f=ao):=by
  simp only[tO,Bool.and_eq_true,Bool.or_eq_true,beq_iff_eq]at j;exact j.2
 have q:m=c:=by simp only[tO,Bool.and_eq_true,beq_iff_eq]at j;exact j.1
 subst q;have⟨hi,_,n⟩:=U0 h.wf (t:=t) (by rw[hr];show k≠0;omega);rw[hr]at n;have⟨i,a,b,_,e⟩:=n;have⟨_,_,q1,_,q3,_⟩:=CH i;have r:g=false:=by cases g with
  |false=>rfl
  |true=>have:=q3 rfl;omega
 subst r;have d:=(xk h.wf h.iq hi).1 hs;rw[e]at d;rcases u with rfl|⟨rfl,rfl⟩;have s:f=0:=q1 De;subst s;exact⟨⟨6,0,m,p,false⟩,by simp[jb],i,d⟩;exact⟨⟨2,f,m,p,false⟩,by simp[jb],i,d⟩;rintro⟨l,o,i,hs⟩;have⟨t,ht,e,sn⟩:=CG h.wf h.iq hs;refine⟨t,l,sn,Ts h.wf ht (by rw[e];exact jXJ i),?_⟩;simp only[jb,mem_cons,not_mem_nil,or_false]at o;rcases o with rfl|rfl<;>simp[tO]
end Go.Proofs
end
section
open Go Go.SE List
namespace Go.Proofs
open Tryz
attribute [local irreducible] Calls
def VR{S:NP}(l1:Sl)(ls:List Act)(ao c:Int)(x:ByteArray)(m:World)(hL:dr S m 9 l1 (ls.map rj))(hok:∀y∈ls,tp S m y)(hS:∀y,S y->y<m.heap.size):
  cl 5 #[l1.v,.agg #[vi ao,vu c,vs x]] m<|XC fun r w'=>r=true/\Pure m w':=by
 suffices key:∀K:Bool->WP,(∀w',Pure m w'->K true w')->Mh l1 ao c x m K from
  Ue _ _ _ _ m _<|key _ fun _ h=>⟨rfl,h⟩
 intro Q hQ
 classical
 have hll:l1.len=ls.length:=by rw[hL.len];simp
 have N:∀H w,Pure m w->cl 8 #[] w (XC fun r1 w2=>aj H w w2/\Q r1 w2):=fun H w E=>by
  refine(S5 w).mono ?_;rintro _ w5 ⟨_,rfl,rfl,E5⟩;exact⟨_,rfl,E5.bz,hQ _<|E.trans E5⟩
 intro H1 w1 Z
 refine(YR l1 ls w1 (hL.pure Z.first) fun y z=>(hok y z).ext Z.first fun _ _ h=>h).mono ?_
 rintro _ w2 ⟨hg,rfl,p,E2⟩
 refine⟨_,rfl,E2.bz,?_⟩
 intro y1 z H6 w3 hs3
 have E3:Pure m w3:=(Z.first.trans E2).au hs3
 refine⟨fun _=>N _ _ E3,fun hx=>?_⟩
 rw[hx]at z
 have z:=z.symm
 simp only[Bool.or_eq_false_iff,Bool.and_eq_false_iff,bne_eq_false_iff_eq,decide_eq_false_iff_not]at z
 have p:IC ls:=p z.1.1
 have hxs:x.size<=64:=Oh z.1.2
 have hp:qM ao=true:=by unfold qM;simpa using z.2
 clear z
 refine(GB w3).mono ?_
 rintro _ w4 ⟨_,rfl,f,F,rfl,hf,E4,nf⟩
 refine⟨_,rfl,E4.bz,?_⟩
 refine(UF w4).mono ?_
 rintro _ w5 ⟨_,rfl,r,F2,rfl,hr,E5,nr⟩
 refine⟨_,rfl,E5.bz,?_⟩
 have h0:St ls r m 0 H6 f w5:=St.start E3 hs3.lt hf E4 nf hr E5 nr
 clear hf hr nf nr E4 E5
 refine⟨fun o i H w=>∃n f,i=((n:Nat):Int)/\n<=ls.length/\o=some f/\St ls r m n H f w,fun _ i _=>((ls.length:Int)-i).toNat,⟨0,f,rfl,Nat.zero_le _,rfl,h0⟩,?_⟩
 rintro _ _ Hl wl W ⟨n,f,rfl,hn,rfl,au⟩
 have El:=au.pure
 refine⟨fun d=>⟨fun h=>(by cases h),fun _=>?_⟩,fun d=>⟨fun h=>(by cases h),fun _=>?_⟩⟩
 .have d:=vQ hll d
  have⟨a1,X,_,D⟩:=(hL.pure El).kg d
  refine⟨a1,X,_,_,_,_,_,_,_,_,_,D,?_⟩
  refine(RB hok hS p d au).mono ?_
  rintro _ w6 ⟨_,_,rfl,kp,rfl,f',rfl,hst'⟩
  refine⟨_,_,rfl,kp,fun h=>(by cases h),fun _ H2 w7 hs7=>?_⟩
  unfold GI
  rw[zM d<|Oh p.ft]
  exact⟨⟨n+1,f',rfl,d,rfl,hst'.au hs7⟩,yQ d⟩
 have⟨L,M,G,K,a,b,T,Y,hM⟩:=au
 have hM6:M.length<=48000:=by have:=KP ls n;have:=p.bytes;have:=p.ft;omega
 have hl:L.length<=48000:=Oh Y.len
 have g0:Gs L G (G.map<|zA L):=⟨Y.wl,Y.g.l,rfl⟩
 generalize hgs:G.map (zA L)=gs at *
 have T0:Tk Hl (ic f L G a b) ar m wl:=T.sub ew.fst
 have⟨F1,hf,_,k1⟩:=T0.one
 refine(jTU f ao c wl hf).mono ?_
 rintro _ w7 ⟨s,rfl,xs,hs,htx,_⟩
 rw[if_pos hp]at htx
 have k:=jSF g0 htx
 have hnd:xs.Nodup:=Dh.oE htx.1
 have hfew:3*xs.length<=L.length:=by
  have⟨ts,t1,t2,t3⟩:=Lr g0 hp xs hnd fun y z=>(k y).1 z;have:=xW t1 fun t ht=>(t3 t ht).1;omega
 have W:s.len=xs.length:=by rw[hs.cm.len,yT]
 have T7:Tk Hl (ew (sF 9 1 s<|kv xs)<|ic f L G a b) ar m w7:=T0.ax qV (C:=sF 9 1 s<|kv xs) (F:=s.aq) ⟨hs.cm,fun _=>Iff.rfl⟩ hs.pure hs.ak
 refine⟨s,rfl,hs.bk,fun q i H w=>∃(j:Nat) (O:aw),i=j/\j<=xs.length/\q=decide (x∈xs.take j)/\Tk H (ew (sF 9 1 s<|kv xs)<|ic f O G a b) ar m w/\Gs O G gs/\O.length<=L.length+j,fun _ i _=>((xs.length:Int)-i).toNat,⟨0,L,rfl,Nat.zero_le _,Sm,T7,g0,Nat.le_refl _⟩,?_⟩
 clear T7 hs k1 hf T T0
 rintro _ _ H2 w8 hs8 ⟨j,O,rfl,hj,rfl,T8,P,hl8⟩
 have u:=xj (e:=9) (sz:=1) (s:=s) (rs:=kv xs)
 refine⟨fun d=>?_,fun d=>?_⟩
 .have d:=vQ W d
  have kg:∀{w},Tk H2 (ew (sF 9 1 s<|kv xs)<|ic f O G a b) ar m w->∃a,At s j 1 a/\w.cell? a=some (vs xs[j]):=fun h=>by
   have⟨_,⟨_,_,hR,_⟩,_⟩:=h;have⟨a,X,D⟩:=hR.1.kg (f:=fun x=>[vs x]) d;refine⟨a,X,?_⟩;have:=D 0 Sm;simpa[Addr.add]using this
  have J:∀(q:Bool) w,q=decide (x∈xs.take (j+1))->Tk H2 (ew (sF 9 1 s<|kv xs)<|ic f O G a b) ar m w->D4 ao c (some f) s j q H2 w (fun y'0 y'1 H' w'=>(∃(j:Nat) (O:aw),y'1=j/\j<=xs.length/\y'0=decide (x∈xs.take j)/\Tk H' (ew (sF 9 1 s<|kv xs)<|ic f O G a b) ar m w'/\Gs O G gs/\O.length<=L.length+j)/\((xs.length:Int)-y'1).toNat<((xs.length:Int)-j).toNat) Q:=by
   rintro q w rfl T9;refine⟨fun _=>True,trivial,?_⟩;rintro I rfl;have B:=T9.pure (u.sQ qV)<|ab.drew w;have⟨a2,hat2,hc2⟩:=kg B;refine⟨a2,hat2,_,hc2,?_⟩;have⟨F2,hf2,_,k2⟩:=B.r u qV;refine(Fs f ao c xs[j] _ hf2).mono ?_;rintro _ w11 ⟨r7,rfl,R,t⟩;have⟨T11,kp⟩:=k2 t;have hx:=(k xs[j]).1<|getElem_mem d;have hr:r7=true:=R.2 ((A0 P.wf P.iq Om ao c xs[j]).2 (by
    rw[P.e];have⟨l,hl,h0,hs⟩:=hx;exact⟨hp,l,hl,h0,.seen hs⟩))
   subst hr;refine⟨_,rfl,trivial,kp,Br.f rfl ?_⟩;rw[zM d Om];exact⟨⟨j+1,_,rfl,d,rfl,T11,(P.EK Om ao c xs[j]).1,by have:=Wg P hx Om;omega⟩,yQ d⟩
  have U:x∈xs.take (j+1)↔x∈xs.take j\/xs[j]=x:=by
   rw[take_succ_eq_append_getElem d,mem_append,mem_singleton];exact or_congr_right eq_comm
  refine⟨fun hi I A=>J true I ?_<|T8.au (u.sQ qV) A,fun hi=>?_⟩
  .have hi:=of_decide_eq_true hi
   simp[U,hi]
  .have⟨a3,V,_⟩:=kg T8
   refine⟨a3,V,fun I A=>?_⟩
   have B:=T8.au (u.sQ qV) A
   have⟨a4,hat4,hc4⟩:=kg B
   have ea:a3=a4:=by
    obtain⟨_,_,b,R,rfl⟩:=V;obtain⟨_,_,b',hb',rfl⟩:=hat4;rw[R]at hb';cases hb';rfl
   rw[ea]
   refine⟨_,hc4,J _ I ?_ B⟩
   have hi:=of_decide_eq_false hi
   simp[U,hi]
 have hge:=qU W hj d
 subst hge
 rw[take_length]
 have⟨F2,hf2,_,k2⟩:=T8.r u qV
 refine(Fs f ao c x w8 hf2).mono ?_
 rintro _ w9 ⟨r8,rfl,R,t⟩
 have⟨T9,kp⟩:=k2 t
 have g9:=(P.EK Om ao c x).1
 have R:r8=true↔zz gs ao\/x∈xs:=by
  rw[R,A0 P.wf P.iq Om ao c x,P.e,Fk hp hxs,k];rfl
 refine⟨_,rfl,kp,fun hi=>?_,fun hi=>?_⟩
 .have hi:=of_decide_eq_true hi
  have:r8=true:=R.2<|.inr hi
  subst this
  exact Br.t rfl (N _ _ T9.fr)
 .have hi:=of_decide_eq_false hi
  have⟨F3,hf3,_,k3⟩:=T9.r u qV
  refine(JE f ao w9 hf3).mono ?_
  rintro _ I ⟨_,rfl,rfl,E10⟩
  have hfr:=HL g9.wf g9.iq ao
  rw[g9.e]at hfr
  refine⟨_,rfl,E10.bz,?_⟩
  refine Br.t (beq_iff_eq.2<|Bool.eq_iff_iff.2 ?_)<|N _ _<|T9.fr.trans E10
  rw[R,hfr];simp[hi]
end Go.Proofs
end
section
namespace Go.SE
open Go.ChangeShapes Go.WideShapes Go.ChangeAt Go.RowKit
section
variable {H:Type} {enc:TypeId×Value->H} {P:Program}
def LS(i:laidOutB P=true){W W'}(j:Below W.heap.size W W'):∀(ts:List TypeId) (vs:List Value) (ds:List (DataW H)) (f:List MemPlace),(ts.all fun t=>P.readableRec t && decide (t<P.types.size))=true ->
  DataW.TrodAll enc P W 0 (fun _=>true) true ts vs ds f->(∀x∈f,x.block<W.heap.size)->DataW.TrodAll enc P W' 0 (fun b=>decide (b<W.heap.size)) true ts vs ds f
 |[],_,_,_,_,h,_=>by
  obtain⟨rfl,rfl,rfl⟩:=trodAll_nil h;exact h
 |t :: ts,_,_,_,hr,h,e=>by
  obtain⟨v,g,d,c,a,b,rfl,rfl,rfl,h1,h2⟩:=trodAll_cons h;simp only[List.all_cons,Bool.and_eq_true,decide_eq_true_eq]at hr;exact⟨a,b,Below.trod i hr.1.1 hr.1.2 h1 j Gd,LS i j ts g c b (by simpa using hr.2) h2 fun x k=>e x<|by simp[k],rfl⟩
def YT{f}{s:ChangeSpec}{W W' args}{ds I:List (DataW H)}{e:List MemPlace}{t}(A:laidOutB P=true)(r:s.vars=[])(C:∀ds:List (DataW H),ds.length=f.params.size->s.fn H ds={ results:=[.lit<|.bool true],args:=ds })(l:f.resultTypes=#[t])(ht:P.underlying t=some .bool)(hr:(f.params.toList.all fun t=>P.readableRec t && decide (t<P.types.size))=true)(u:DataW.Whole enc P f.params.toList s.vars false W args.toList ds I e)(E:Pure W W'):
  s.post enc P f false true false false W args (.bool true) W':=by
 have i:=u
 obtain⟨p,q,w,o,rfl,y,G⟩:=u
 rw[r]at o
 obtain⟨rfl,rfl⟩:=trodVars_none o
 have j:ds.length=f.params.size:=by
  have:∀(ts:List TypeId) (vs:List Value) (ds:List (DataW H)) (k:List MemPlace),DataW.TrodAll enc P W 0 (fun _=>true) true ts vs ds k->ds.length=ts.length:=by
   intro ts;induction ts with
   |nil=>intro vs ds k h;obtain⟨_,rfl,_⟩:=trodAll_nil h;rfl
   |cons t ts D =>
    intro vs ds k h
    obtain⟨v,F,d,z,a,b,_,rfl,_,_,h2⟩:=trodAll_cons h
    simp[D _ _ _ h2]
  simpa using this _ _ _ _ w
 have m:=C ds j
 have c:s.fn H (ds++[])={ results:=[.lit<|.bool true],args:=ds }:=by rw[List.append_nil];exact m
 have n:∀x∈p,x.block<W.heap.size:=fun x B=>by simpa using i.lt x (by simp[B])
 have g:=E.below
 refine⟨ds,[],p++[],[],p,[],i,?_,?_,?_,g.frame _,fun h=>by cases h⟩
 rw[c,l];exact trodAll_mk1<|shut_bool ht _
 rw[c];exact LS A g _ _ _ _ hr w n
 rw[c,r];exact o
end
end Go.SE
namespace Go.SE
open Go.ChangeShapes Go.WideShapes Go.ChangeAt Go.RowKit
section
variable {P:Program} {W:World} {r:Reach} {b0:Nat} {t:TypeId} {v:Value}
def Sf{fs:Array Field}{ts:List TypeId}(ht:P.underlying t=some (.struct fs))(j:P.cellTypes P.depth t=some ts)(k:P.cellsOf t=ts.length)(h:Value.okWide P W r b0 t v):
  ∃cs:Array Value,v=.agg cs/\cs.size=ts.length/\∀(i:Nat) (u:TypeId) (c:Value),ts[i]?=some u->cs[i]?=some c->Cell.okWide P W r b0 u c:=by
 unfold Value.okWide at h
 rw[ht]at h
 obtain⟨cs,rfl,hs,l,d,_,b⟩:=h
 rw[j]at d
 cases d
 refine⟨cs,rfl,hs.trans k,fun i u c g ez=>?_⟩
 have⟨m,a,f⟩:=b i c ez
 have e:i<ts.length:=(List.getElem?_eq_some_iff.1 g).1
 rw[Nat.mod_eq_of_lt e,g]at a
 cases a
 exact f
def QW{e}(ht:P.underlying t=some (.slice e))(h:Value.okWide P W r b0 t v):∃a n c,v=.slice a n c:=by
 unfold Value.okWide at h;rw[ht]at h;simp only at h;unfold Cell.okWide at h;rw[ht]at h;cases v<;>simp[Cell.ok,ht]at h;exact⟨_,_,_,rfl⟩
end
end Go.SE
end
section
open Go Go.SE List
namespace Go.Proofs
theorem Bj{α β:Type}{f:α->Option β}:∀{l:List α} {r:List β},l.mapM f=some r->r.length=l.length/\∀(i:Nat) (a:α),l[i]?=some a->∃b,f a=some b/\r[i]?=some b
 |[],r,h=>Gd
 |x :: xs,r,h=>by
  rw[mapM_cons]at h;cases d:f x with
  |none=>simp[d]at h
  |some y =>
   cases c:xs.mapM f with
   |none=>simp[d,c]at h
   |some g =>
    have:r=y ::g:=by simpa[d,c]using h.symm
    subst this
    have⟨h1,h2⟩:=Bj c
    refine⟨by simp[h1],fun i a e=>?_⟩
    cases i with
    |zero=>cases e;exact⟨y,d,rfl⟩
    |succ i=>exact h2 i a (by simpa using e)
theorem zBG{w ev a n cs}(h:w.cells? ev a n=some cs):cs.length=n/\Row w a cs:=by
 have⟨_,h1,h2⟩:=World.cells?_some h;exact⟨h1,fun j b=>h2 j Om⟩
section
variable {H:Type} {enc:TypeId×Value->H} {P:Program} {W:World} {ev:Nat} {sp:Nat->Bool} {held:Bool}
theorem tC{t k}(ht:P.underlying t=some (.int k)){n c}{x:DataW H×List MemPlace}(h:DataW.trod enc P W ev sp held n t [c]=some x):∃m,c=.int k m:=by
 cases n with
 |zero=>cases h
 |succ n =>
  rw[DataW.trod_step]at h
  unfold DataW.trodStep at h
  rw[ht]at h
  cases c<;>simp at h
  obtain⟨⟨rfl,_⟩,_⟩:=h
  exact⟨_,rfl⟩
theorem GS{t}(ht:P.underlying t=some (.int .u64)){n c}{x:DataW H×List MemPlace}(h:DataW.trod enc P W ev sp held n t [c]=some x):∃m,c=vu m/\yY m:=by
 cases n with
 |zero=>cases h
 |succ n =>
  rw[DataW.trod_step]at h
  unfold DataW.trodStep at h
  rw[ht]at h
  cases c with
  |int k z =>
   simp only at h
   split at h
   rename_i a
   obtain⟨rfl,a⟩:=a
   have h1:IntKind.u64.min=0:=by rfl
   have h2:IntKind.u64.max=18446744073709551615:=by rfl
   simp only[Lit.wf,Bool.and_eq_true,decide_eq_true_eq,h1,h2]at a
   exact⟨z,rfl,Om,Om⟩
   cases h
  |_=>simp at h
theorem jZB{t}(ht:P.underlying t=some .string){n c}{x:DataW H×List MemPlace}(h:DataW.trod enc P W ev sp held n t [c]=some x):∃m,c=vs m:=by
 cases n with
 |zero=>cases h
 |succ n =>
  rw[DataW.trod_step]at h
  unfold DataW.trodStep at h
  rw[ht]at h
  cases c<;>simp at h
  exact⟨_,rfl⟩
end
section
variable {H:Type} {enc:TypeId×Value->H} {P:Program} {W:World} {ev:Nat} {sp:Nat->Bool} {held:Bool}
theorem W2{a v vs}(h:Row W a (v ::vs)):a.block<W.heap.size:=by
 have:=h 0 Sm;have:=World.block_lt_of_cell? W (a.add 0) this;rwa [zC]at this
theorem jSE{t}{fs:Array Field}(ht:P.underlying t=some (.struct fs)){n cs}{x:DataW H×List MemPlace}(h:DataW.trod enc P W ev sp held n t cs=some x):
  ∃m,cs.length=P.cellsOf t/\∀(i:Nat) (f:Field),fs.toList[i]?=some f->∃y,DataW.trod enc P W ev sp held m f.type ((cs.drop f.offset).take<|P.cellsOf f.type)=some y:=by
 cases n with
 |zero=>cases h
 |succ n =>
  rw[DataW.trod_step]at h
  unfold DataW.trodStep at h
  rw[ht]at h
  simp only at h
  split at h
  rename_i d
  cases hm:fs.toList.mapM (fun f=>DataW.trod enc P W ev sp held n f.type<|(cs.drop f.offset).take<|P.cellsOf f.type)with
  |none=>rw[hm]at h;cases h
  |some r =>
   refine⟨n,d,fun i f a=>?_⟩
   have⟨b,c,_⟩:=(Bj hm).2 i f a
   exact⟨b,c⟩
  cases h
end
section
variable {H:Type} {enc:TypeId×Value->H} {W:World} {ev:Nat} {sp:Nat->Bool} {held:Bool}
end
end Go.Proofs
end
section
open Go Go.SE List
namespace Go.Proofs
open Tryz
section
variable {H:Type} {enc:TypeId×Value->H} {P:Program} {W:World} {ev:Nat} {sp:Nat->Bool} {held:Bool}
theorem YE{t}(ht:P.underlying t=some .bool){n c}{x:DataW H×List MemPlace}(h:DataW.trod enc P W ev sp held n t [c]=some x):∃m,c=vb m:=by
 cases n with
 |zero=>cases h
 |succ n =>
  rw[DataW.trod_step]at h
  unfold DataW.trodStep at h
  rw[ht]at h
  cases c<;>simp at h
  exact⟨_,rfl⟩
end
set_option maxRecDepth 100000 in
theorem Yk{H:Type}{enc:TypeId×Value->H}{W:World}{ev:Nat}{sp:Nat->Bool}{held:Bool}{n:Nat}{cs:List Value}{x:DataW H×List MemPlace}(h:DataW.trod enc prog W ev sp held n 25 cs=some x):∃ao c:Int,∃y:ByteArray,cs=[vi ao,vu c,vs y]/\yY c:=by
 have⟨m,d,a⟩:=jSE underlying25 h;rw[show(prog.cellsOf 25)=3 by kernel_rfl]at d;match cs,d with
 |[c0,i,j],_ =>
  have⟨_,b⟩:=a 0 _ rfl
  have⟨_,h1⟩:=a 1 _ rfl
  have⟨_,h2⟩:=a 2 _ rfl
  simp only[show(prog.cellsOf 3)=1 by kernel_rfl,show(prog.cellsOf 23)=1 by kernel_rfl,show(prog.cellsOf 9)=1 by kernel_rfl]at b h1 h2
  obtain⟨e,rfl⟩:=tC underlying3 b
  obtain⟨g,rfl,hm⟩:=GS underlying23 h1
  obtain⟨f,rfl⟩:=jZB underlying9 h2
  exact⟨e,g,f,rfl,hm⟩
end Go.Proofs
end
section
open Go Go.SE List
namespace Go.Proofs
end Go.Proofs
end
section
open Go Go.SE List
namespace Go.Proofs
open Tryz
structure G5{H:Type}(B:DataW H->Nat):Prop where
 str:∀l,l.length<=B (.lit<|.string l)
 agg:∀{ps d},d∈ps->B d<=B (.agg ps)
 elem:∀{es sp d},d∈es->B d<=B (.slice es sp)
 len:∀es sp,es.length<=B (.slice es sp)
section
variable {H:Type} {enc:TypeId×Value->H} {P:Program} {W:World} {ev:Nat} {sp:Nat->Bool} {held:Bool} {B:DataW H->Nat} (hB:G5 B) {N:Nat}
include hB
theorem I3{t}(ht:P.underlying t=some .string){n c}{x:DataW H×List MemPlace}(h:DataW.trod enc P W ev sp held n t [c]=some x)(a:B x.1<=N):∃m:ByteArray,c=.string m/\m.size<=N:=by
 cases n with
 |zero=>cases h
 |succ n =>
  rw[DataW.trod_step]at h
  unfold DataW.trodStep at h
  rw[ht]at h
  cases c<;>simp at h
  rename_i m
  obtain⟨_,rfl⟩:=h
  have:=hB.str m.data.toList
  exact⟨m,rfl,by simp at this;simp only at a;omega⟩
theorem Hc{t}{fs:Array Field}(ht:P.underlying t=some (.struct fs)){n cs}{x:DataW H×List MemPlace}(h:DataW.trod enc P W ev sp held n t cs=some x)(c:B x.1<=N):
  ∃m,cs.length=P.cellsOf t/\∀(i:Nat) (f:Field),fs.toList[i]?=some f->∃y,DataW.trod enc P W ev sp held m f.type ((cs.drop f.offset).take<|P.cellsOf f.type)=some y/\B y.1<=N:=by
 cases n with
 |zero=>cases h
 |succ n =>
  rw[DataW.trod_step]at h
  unfold DataW.trodStep at h
  rw[ht]at h
  simp only at h
  split at h
  rename_i e
  cases hm:fs.toList.mapM (fun f=>DataW.trod enc P W ev sp held n f.type<|(cs.drop f.offset).take<|P.cellsOf f.type)with
  |none=>rw[hm]at h;cases h
  |some r =>
   rw[hm]at h
   cases h
   refine⟨n,e,fun i f a=>?_⟩
   have⟨b,d,hr⟩:=(Bj hm).2 i f a
   exact⟨b,d,Nat.le_trans (hB.agg<|mem_map.2 ⟨b,mem_of_getElem? hr,rfl⟩) c⟩
  cases h
theorem Sd{t e}(ht:P.underlying t=some (.slice e)){n c}{x:DataW H×List MemPlace}(h:DataW.trod enc P W ev sp held (n+1) t [c]=some x)(d:B x.1<=N):
  c=.slice none 0 0\/∃a len cap,c=.slice (some a) len cap/\len<=cap/\len<=N/\∀i,i<len->∃cs y,W.cells? ev (a.add<|i*P.cellsOf e) (P.cellsOf e)=some cs/\DataW.trod enc P W ev sp held n e cs=some y/\B y.1<=N:=by
 rw[DataW.trod_step]at h
 unfold DataW.trodStep at h
 rw[ht]at h
 cases c with
 |slice a len cap =>
  cases a with
  |none =>
   cases len with
   |zero=>cases cap with
    |zero=>exact .inl rfl
    |succ c=>simp at h
   |succ l=>simp at h
  |some a =>
   right
   simp only at h
   split at h
   rename_i f
   cases hm:(range len).mapM fun i=>(W.cells? ev (a.add<|i*P.cellsOf e)<|P.cellsOf e).bind (DataW.trod enc P W ev sp held n e)with
   |none=>rw[hm]at h;cases h
   |some r =>
    rw[hm]at h
    obtain⟨q,_,rfl⟩:=Option.map_eq_some_iff.1 h
    have j:=(Bj hm).1
    simp at j
    have h1:=hB.len (r.map (·.1))<|q.map (·.1)
    rw[length_map]at h1
    refine⟨a,len,cap,rfl,f.2.1,by simp only at d;omega,fun i hi=>?_⟩
    have⟨b,g,hr⟩:=(Bj hm).2 i i (by simp[hi])
    have⟨cs,h1,h2⟩:=Option.bind_eq_some_iff.1 g
    exact⟨cs,b,h1,h2,Nat.le_trans (hB.elem<|mem_map.2 ⟨b,mem_of_getElem? hr,rfl⟩) d⟩
   cases h
 |_=>simp at h
theorem PI{α:Type}{tS e sz}{f:α->List Value}(hS:P.underlying tS=some (.slice e))(m:P.cellsOf e=sz)(r:∀a,∃v vs,f a=v :: vs)(l:α)(g:∀(n:Nat) (cs:List Value) (x:DataW H×List MemPlace),DataW.trod enc P W ev sp held n e cs=some x->B x.1<=N->∃a,cs=f a){n c}{x:DataW H×List MemPlace}(h:DataW.trod enc P W ev sp held n tS [c]=some x)(o:B x.1<=N):
  ∃s:Sl,∃xs:List α,c=s.v/\dr (fun b=>b<W.heap.size) W sz s (xs.map f)/\xs.length<=N:=by
 cases n with
 |zero=>cases h
 |succ n =>
  rcases Sd hB hS h o with rfl|⟨a,len,cap,rfl,p,k,d⟩
  exact⟨Sl.nil,[],rfl,⟨rfl,fun i hi=>by simp at hi⟩,Nat.zero_le _⟩
  rw[m]at d
  have j:∀i,∃q:α,i<len->Row W (a.add<|i*sz) (f q):=by
   intro i;by_cases hi:i<len;have⟨cs,y,h1,h2,h3⟩:=d i hi;obtain⟨q,rfl⟩:=g n cs y h2 h3;exact⟨q,fun _=>(zBG h1).2⟩;exact⟨l,fun h=>absurd h hi⟩
  have⟨q,t⟩:=Classical.axiomOfChoice j
  refine⟨⟨some a,len,cap⟩,(range len).map q,rfl,⟨Sm,fun i hi=>?_⟩,by simpa using k⟩
  have hi:i<len:=by simpa using hi
  have hr:=t i hi
  have⟨v,vs,e⟩:=r<|q i
  refine⟨a.add<|i*sz,⟨Om,by simpa using hi,a,rfl,Sm⟩,?_,by simpa using hr⟩
  rw[e]at hr;exact W2 hr
end
section
variable {H:Type} {enc:TypeId×Value->H} {W:World} {ev:Nat} {sp:Nat->Bool} {held:Bool} {B:DataW H->Nat} (hB:G5 B) {N:Nat}
include hB
set_option maxRecDepth 100000 in
theorem jST{n:Nat}{cs:List Value}{x:DataW H×List MemPlace}(h:DataW.trod enc prog W ev sp held n 88 cs=some x)(f:B x.1<=N):∃o:Op,cs=pD o/\yY o.num/\o.bb.size<=N:=by
 have⟨m,c,a⟩:=Hc hB underlying88 h f;rw[show(prog.cellsOf 88)=5 by kernel_rfl]at c;match cs,c with
 |[c0,q,r,p,s],_ =>
  have⟨_,b,_⟩:=a 0 _ rfl
  have⟨_,h1,_⟩:=a 1 _ rfl
  have⟨_,h2,_⟩:=a 2 _ rfl
  have⟨_,h3,_⟩:=a 3 _ rfl
  have⟨_,d,b4⟩:=a 4 _ rfl
  simp only[show(prog.cellsOf 3)=1 by kernel_rfl,show(prog.cellsOf 23)=1 by kernel_rfl,show(prog.cellsOf 9)=1 by kernel_rfl]at b h1 h2 h3 d
  obtain⟨g,rfl⟩:=tC underlying3 b
  obtain⟨l,rfl⟩:=tC underlying3 h1
  obtain⟨j,rfl⟩:=tC underlying3 h2
  obtain⟨i,rfl,hm⟩:=GS underlying23 h3
  obtain⟨e,rfl,k⟩:=I3 hB underlying9 d b4
  exact⟨⟨g,l,j,i,e⟩,rfl,hm,k⟩
set_option maxRecDepth 100000 in
theorem zHZ{n:Nat}{c:Value}{x:DataW H×List MemPlace}(h:DataW.trod enc prog W ev sp held n 36 [c]=some x)(d:B x.1<=N):∃s:Sl,∃l:List Op,c=s.v/\dr (fun b=>b<W.heap.size) W 5 s (l.map pD)/\l.length<=N/\∀o∈l,yY o.num/\o.bb.size<=N:=by
 have⟨s,xs,e,g,i⟩:=PI (α:={o:Op // yY o.num/\o.bb.size<=N}) (sz:=5) (f:=fun o=>pD o.1) hB underlying36 Kf (fun a=>⟨_,_,rfl⟩) ⟨⟨0,0,0,0,⟨#[]⟩⟩,⟨De,De⟩,Nat.zero_le _⟩ (fun _ _ _ h d=>by
  have⟨o,e,j⟩:=jST hB h d;exact⟨⟨o,j⟩,e⟩) h d
 refine⟨s,xs.map Subtype.val,e,by rw[map_map];exact g,by simpa using i,fun m hm=>?_⟩;obtain⟨y,_,rfl⟩:=mem_map.1 hm;exact y.2
set_option maxRecDepth 100000 in
theorem S7{n:Nat}{cs:List Value}{x:DataW H×List MemPlace}(h:DataW.trod enc prog W ev sp held n 35 cs=some x)(g:B x.1<=N):∃l:dy,cs=mf l/\yY l.c/\l.bb.size<=N:=by
 have⟨m,d,a⟩:=Hc hB underlying35 h g;rw[show(prog.cellsOf 35)=5 by kernel_rfl]at d;match cs,d with
 |[c0,r,s,q,t],_ =>
  have⟨_,b,_⟩:=a 0 _ rfl
  have⟨_,h1,_⟩:=a 1 _ rfl
  have⟨_,h2,_⟩:=a 2 _ rfl
  have⟨_,h3,b3⟩:=a 3 _ rfl
  have⟨_,e,_⟩:=a 4 _ rfl
  simp only[show(prog.cellsOf 3)=1 by kernel_rfl,show(prog.cellsOf 23)=1 by kernel_rfl,show(prog.cellsOf 9)=1 by kernel_rfl,show(prog.cellsOf 4)=1 by kernel_rfl]at b h1 h2 h3 e
  obtain⟨i,rfl⟩:=tC underlying3 b
  obtain⟨p,rfl⟩:=tC underlying3 h1
  obtain⟨k,rfl,hm⟩:=GS underlying23 h2
  obtain⟨j,rfl,o⟩:=I3 hB underlying9 h3 b3
  obtain⟨f,rfl⟩:=YE underlying4 e
  exact⟨⟨i,p,k,j,f⟩,rfl,hm,o⟩
set_option maxRecDepth 100000 in
theorem jUD(e:N<=1048576){n:Nat}{cs:List Value}{x:DataW H×List MemPlace}(h:DataW.trod enc prog W ev sp held n 38 cs=some x)(q:B x.1<=N):∃a:Act,cs=rj a/\tp (fun b=>b<W.heap.size) W a:=by
 have⟨m,c,d⟩:=Hc hB underlying38 h q;rw[show(prog.cellsOf 38)=9 by kernel_rfl]at c;match cs,c with
 |[c0,C,D,y,E,F,A,w,z],_ =>
  have⟨_,k,_⟩:=d 0 _ rfl
  have⟨_,h1,b1⟩:=d 1 _ rfl
  have⟨_,h2,b2⟩:=d 2 _ rfl
  have⟨_,h3,_⟩:=d 3 _ rfl
  have⟨_,p,b4⟩:=d 4 _ rfl
  simp only[show(prog.cellsOf 3)=1 by kernel_rfl,show(prog.cellsOf 9)=1 by kernel_rfl,show(prog.cellsOf 35)=5 by kernel_rfl,show(prog.cellsOf 36)=1 by kernel_rfl]at k h1 h2 h3 p
  obtain⟨t,rfl⟩:=tC underlying3 k
  obtain⟨v,rfl,r⟩:=I3 hB underlying9 h1 b1
  have⟨l,c,f,g⟩:=S7 hB h2 b2
  obtain⟨s,rfl⟩:=tC underlying3 h3
  obtain⟨so,ops,rfl,u,i,j⟩:=zHZ hB p b4
  simp only[mf,drop,take,List.cons.injEq,and_true]at c
  obtain⟨rfl,rfl,rfl,rfl,rfl⟩:=c
  exact⟨⟨t,v,l,s,so,ops⟩,rfl,f,fun o h=>(j o h).1,u,Nat.le_trans r e,Nat.le_trans g e,Nat.le_trans i e,fun o h=>Nat.le_trans (j o h).2 e⟩
set_option maxRecDepth 100000 in
theorem Xa(j:N<=1048576){n:Nat}{c:Value}{x:DataW H×List MemPlace}(h:DataW.trod enc prog W ev sp held n 22 [c]=some x)(d:B x.1<=N):∃s:Sl,∃l:List Act,c=s.v/\dr (fun b=>b<W.heap.size) W 9 s (l.map rj)/\∀a∈l,tp (fun b=>b<W.heap.size) W a:=by
 have⟨s,xs,e,g,_⟩:=PI (α:={a:Act // tp (fun b=>b<W.heap.size) W a}) (sz:=9) (f:=fun a=>rj a.1) hB underlying22 Kf (fun a=>⟨_,_,rfl⟩) ⟨⟨0,⟨#[]⟩,⟨0,0,0,⟨#[]⟩,false⟩,0,Sl.nil,[]⟩,⟨De,De⟩,Sm,⟨rfl,fun i hi=>by simp at hi⟩,Nat.zero_le _,Nat.zero_le _,Nat.zero_le _,Sm⟩ (fun _ _ _ h d=>by
  have⟨a,e,k⟩:=jUD hB j h d;exact⟨⟨a,k⟩,e⟩) h d
 refine⟨s,xs.map Subtype.val,e,by rw[map_map];exact g,fun m hm=>?_⟩;obtain⟨y,_,rfl⟩:=mem_map.1 hm;exact y.2
end
end Go.Proofs
end
section
namespace Go.SE
open Go.ChangeShapes Go.WideShapes Go.ChangeAt Go.RowKit
section
variable {H:Type} {enc:TypeId×Value->H} {P:Program}
def jTC{C:Checked}{os:Os}{f fn}{s:OpenSpec}{k:(H:Type)->List (DataW H)->Bool}(K:s.cond=some k){F:Stop.Interp}{t}(G:laidOutB C.prog=true)(y:s.vars=[])(l:(s.at F).vars=[])(J:∀ds:List (DataW H),ds.length=fn.params.size->(s.at F).fn H ds={ results:=[.lit<|.bool true],args:=ds })(o:fn.resultTypes=#[t])(ht:C.prog.underlying t=some .bool)(hr:(fn.params.toList.all fun t=>C.prog.readableRec t && decide (t<C.prog.types.size))=true)(ak:ownKnob C.prog.godebug=none)(b:os.Started)(d:C.prog.inits.idxOf? f=none)(u:C.prog.funcs[f]?=some fn)(c:∃(w:World) (tape:Tape) (i:Input),w.os=os/\(w.forCall tape i).Shaped C.prog/\i.vars=[]/\Input.okWide C.prog (w.forCall tape i) .any w.heap.size f i /\
   s.pre6 enc C.prog fn [] false (w.forCall tape i).memory i.args/\({}:Assume).holds C.prog (lone (Frame.enter C.prog f i.args .normal) []<|w.forCall tape i))(a:∀(W:World) (ev:Nat) (args:Array Value) (ds:List (DataW H)) (p:List MemPlace),
   (∀(j:Nat) t v,fn.params[j]?=some t->args[j]?=some v->Value.okWide C.prog W .any ev t v) ->
   DataW.TrodAll enc C.prog W 0 (fun _=>true) true fn.params.toList args.toList ds p->(∀x∈p,x.block<W.heap.size)->k H ds=true ->
   Calls C.prog f args W fun e z=>∃r:Bool,e=.returned (.bool r)/\(r=true/\Pure W z)):
  ReturnsInHanded {} C os f .any (s.pre6 enc C.prog fn [] false)<|(s.at F).post enc C.prog fn false true false false:=by
 refine returnsInHanded_of_cond K ak b d u c ?_
 intro W ev args ds N n m A _ h _
 have g:=A
 obtain⟨p,q,L,B,rfl,E,M⟩:=A
 rw[y]at B
 obtain⟨rfl,rfl⟩:=trodVars_none B
 rw[List.append_nil]at h
 refine(a W ev args ds p m L (fun x I=>by simpa using g.lt x (by simp[I])) h).mono fun e z ⟨r,D,h1,h2⟩=>?_
 subst h1
 rw[y,<-l]at g
 exact⟨_,D,YT G l J o ht hr g h2⟩
end
end Go.SE
end
