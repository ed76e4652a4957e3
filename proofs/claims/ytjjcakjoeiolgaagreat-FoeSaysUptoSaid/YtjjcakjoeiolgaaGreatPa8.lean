import Derived.Test.YtjjcakjoeiolgaaGreatPa5
import Derived.Test.YtjjcakjoeiolgaaGreatPa7
import Derived.Test.YtjjcakjoeiolgaaGreatProg
import Derived.KernelRfl
import Derived.Test.YtjjcakjoeiolgaaGreatPa3
import Derived.Test.YtjjcakjoeiolgaaGreatPa2
import Derived.Test.YtjjcakjoeiolgaaGreatPa6
import Derived.Test.YtjjcakjoeiolgaaGreatPa4
import Derived.Test.YtjjcakjoeiolgaaGreatPa1
import Derived.WalkKit
import Derived.Shelf.SlSortCmp.NoneTotal
import Derived.Sort.Walk0
import Derived.Sort.Statements
import Derived.Shelf.SlSortCmp.Insertion
import Derived.Lib.SlicesCompact
import Init.Data.List.Lex
import Derived.Laws.Strings
import Derived.Shelf.SlicesG.CompactS
import Derived.Test.YtjjcakjoeiolgaaGreatPa0
import Derived.ProofKit
import Derived.Carry
import Derived.OpenShut
import Derived.Stop.Joined
import Derived.JoinedCond
set_option linter.defProp false
section
open Go Go.SE List
namespace Go.Proofs
open Tryz
attribute [local irreducible] Calls
abbrev xw(f r:Addr)(L M:av)(G K:List Int)(a b:Bool):pY:=ez (gj f L G a b)<|rf r M K a b
def PH(h:NP)(w0:World)(r:Addr)(M:av)(n:Nat)(o:Option Addr)(w':World):Prop:=
 ∃e b a c d g f,o=some e/\Tn (xw e r b a c d g f) h w0 w'/\ll b a c d/\2*a.length<=2*M.length+n
def YI.fm{w f L M G K a b F}(h:gr w f L G a b F)(s:ll L M G K):K.length<=65536:=by
 have:=tT h.pI.1 h.pI.2;have:=h.wf.ok.fm;have:=s.g.len;omega
def Rw{S F0}(f r x w0){L M G K a b}(u:uc S w0 x)(hS:∀y,S y->y<w0.heap.size/\¬ F0 y)(hn:x.ops.length<=265)(h:xw f r L M G K a b w0 F0)(g:ll L M G K)(hM:2*M.length+x.body.size<=120000):
  cl 11 #[vp<|some f,vp<|some r,.agg (pT x).toArray] w0<|XT fun o ok w'=>ok=true/\PH F0 w0 r M (x.body.size+600) o w':=by
 suffices key:∀Q:Option Addr->Bool->WP,(∀o w',PH F0 w0 r M (x.body.size+600) o w'->Q o true w')->K7 (some f) (some r) x.kind x.body x.l.kind x.l.ay x.l.c x.l.ba x.l.dz x.who x.so w0 Q from
  YK _ _ _ _ _ _ _ _ _ _ _ w0 _<|key _ fun _ _ h=>⟨rfl,h⟩
 intro Q hQ
 have d:∀{L M:av} {G K:List Int} {a b a' b':Bool},kg<|ez (gj f L G a b)<|rf r M K a' b':=vO.vk qw
 have v:=Tk.start h d
 have hbs:x.body.data.toList.length=x.body.size:=Sm
 have i:∀{H w f' L' M' G' K' a' b'},Tk H (xw f' r L' M' G' K' a' b') F0 w0 w->ll L' M' G' K'->2*M'.length<=2*M.length+(x.body.size+600)->Q (some f') true w:=fun t s n=>hQ _ _ ⟨_,_,_,_,_,_,_,rfl,t.tn,s,n⟩
 have hK:K.length<=100000:=by
  have⟨_,_,m,_⟩:=h;have:=YI.fm m g;omega
 have p:∀{H w} (y:ByteArray) (Q1:Bool->WP),Tk H (xw f r L M G K a b) F0 w0 w->2*M.length+y.data.toList.length<=131072->(vS M K y.data.toList).1.length*2<=2*M.length+(x.body.size+600)->(∀w',Tk H (xw f r (vS L G y.data.toList).1 (vS M K y.data.toList).1 (vS L G y.data.toList).2.1 (vS M K y.data.toList).2.1 a b) F0 w0 w'->Q (some f) true w')->cl 23 #[vp<|some f,vs y] w (fun e q=>∃r1:Bool,e=.returned (vb r1)/\aj H w q/\cl 45 #[vp<|some r,vs y] q (XC fun r2 I=>aj H q I/\Q (some f) (r1==r2) I)):=by
  intro H w y _ T j _ hq;have⟨F1,m,_,J⟩:=T.l vO qw;refine(Cs f y w m).mono ?_;rintro _ q ⟨o,rfl,rfl,t⟩;have⟨T4,D⟩:=J (A':=gj _ _ _ _ _) t;refine⟨_,rfl,D,?_⟩;have⟨F2,hr,_,A⟩:=T4.r vO qw;refine(L8 r q hr g.wm y hK).mono ?_;rintro _ I ⟨o2,rfl,rfl,t2⟩;have⟨T5,kp5⟩:=A t2;refine⟨_,rfl,kp5,?_⟩;rw[(g.yj y.data.toList j).1,beq_self_eq_true];exact hq _ T5
 refine⟨fun _=>?_,fun _=>⟨fun _=>?_,fun _=>⟨fun _=>?_,fun _=>⟨fun _=>?_,fun _=>⟨fun _=>?_,fun _=>?_⟩⟩⟩⟩⟩
 .intro H1 F hs
  refine⟨fun _=>True,trivial,?_⟩
  rintro w3 rfl
  have⟨U,s1,n1⟩:=g.yj x.body.data.toList Om
  refine(p x.body (fun _ _=>True) ((v.aq d hs).pure d<|ab.drew F) Om Om fun w' T=>i T s1 Om).mono ?_
  rintro _ q ⟨r1,e,k,c⟩
  refine⟨r1,e,trivial,k,c.mono ?_⟩
  rintro _ I ⟨r2,e,k,c⟩
  exact⟨r2,e,trivial,k,c⟩
 .intro H1 F hs
  refine(H8 x.l u.num F).mono ?_
  rintro _ w6 ⟨_,rfl,rfl,E6⟩
  refine⟨_,rfl,E6.bo,?_⟩
  have h96:=OU x.l
  have hb:=Gq x.l
  have n2:=U3 g.wm K (l:=x.l) u.num Om
  have⟨U,s1,_⟩:=g.yj (qQ x.l).1 Om
  refine p (Bv x.l) (fun _ _=>True) ((v.aq d hs).pure d E6) (by rw[hb];omega) (by rw[hb];omega) fun w' T=>?_
  rw[hb]at T
  exact i T s1 Om
 .intro H1 F hs
  refine⟨fun _=>True,trivial,?_⟩
  rintro w3 rfl
  have T3:=(v.aq d hs).pure d<|ab.drew F
  have⟨F1,m,_,J⟩:=T3.l vO qw
  refine(Ih f x.who _ m).mono ?_
  rintro _ q ⟨o,rfl,rfl,t⟩
  have⟨T4,D⟩:=J (A':=gj _ _ _ _ _) t
  refine⟨_,rfl,trivial,D,?_⟩
  refine(zs _ q).mono ?_
  rintro _ I ⟨rfl,E5⟩
  refine⟨_,rfl,trivial,E5.bo,?_⟩
  have T5:=T4.pure d E5
  have⟨F2,hr,_,A⟩:=T5.r vO qw
  refine(jQO r I hr g.wm x.who hK Om).mono ?_
  rintro _ w6 ⟨o2,rfl,rfl,t2⟩
  have⟨T6,kp6⟩:=A t2
  refine⟨_,rfl,trivial,kp6,?_⟩
  have⟨U,s1,e2,n1⟩:=g.Es a b x.who Om
  have e3:(Kc (zS L G a b x.who).1==(zS M K a b x.who).1)=true:=beq_iff_eq.2 U
  rw[e3]
  rw[e2]at T6
  exact i T6 s1 Om
 .intro H2 w13 hs p2 w14 V
  have T14:=(v.aq d hs).pure d<|ab.aw V
  have X:=hs.first
  have z13:=X.size
  have lo:∀{w},ab F0 w0 w->dn S w 5 x.so (x.ops.map pn):=fun E=>u.ops.ext E fun y j=>(hS y j).2
  have⟨s1,w15,hr,R,E15,_,hnb,hk15⟩:=NY (u.ops.pure X) Om V
  refine⟨s1,w15,hr,hk15 H2 fun y j=>hs.lt y j,?_⟩
  have⟨F1,m,d1,J⟩:=(v.aq d hs).lP vO qw E15
  have⟨U,e2,e3,s1',n1⟩:=g.Ko u.re Om
  refine(MZ f s1 x.ops w15 m (uG g.nl G u.re) R.ei (fun y j=>⟨R.lt j,fun hF=>?_⟩) Om).mono ?_
  .have:=hnb y j;have:=d1 y hF;omega
  rintro _ w16 ⟨_,_,_,rfl,rfl,rfl,rfl,t⟩
  have⟨z,P⟩:=J (A':=gj _ _ _ _ _) t
  refine⟨_,_,_,rfl,P,?_⟩
  have⟨F2,hr2,d2,A⟩:=z.r vO qw
  refine(zEX r w16 hr2 g.wm x.so x.ops g.nm u.re (lo z.fr) (fun y j=>⟨?_,fun hF=>?_⟩) Om).mono ?_
  .have:=(hS y j).1;have:=z.fr.size;omega
  .have:=(hS y j).1
   rcases(d2 y hF).1 with h|h
   .exact(hS y j).2 h
   .omega
  rintro _ w17 ⟨_,_,_,rfl,rfl,rfl,rfl,t2⟩
  have⟨N,kp17⟩:=A t2
  refine⟨_,_,_,rfl,kp17,?_⟩
  rw[U,e2,e3]
  have n2:(xO M K x.ops).2.2.2.length<=M.length+256:=Om
  refine⟨fun hc=>?_,fun _ H7 w28 h28=>?_⟩
  .simp only[Bool.and_eq_true,beq_iff_eq]at hc
   have⟨a1,a2,a3,a4⟩:=g.jcx u.re Om hc.2
   refine Br.t Sm fun H4 w20 h20=>?_
   have T20:=N.aq d h20
   have⟨F3,B,_,k3⟩:=T20.l vO qw
   refine(Cs f ⟨(xO M K x.ops).1.toArray⟩ w20 B).mono ?_
   rintro _ w23 ⟨_,rfl,rfl,t⟩
   have⟨T23,kp23⟩:=k3 (A':=gj _ _ _ _ _) t
   refine⟨_,rfl,kp23,?_⟩
   refine Br.t a1 ?_
   have⟨F4,hr4,_,k4⟩:=T23.r vO qw
   refine(L8 r w23 hr4 s1'.wm ⟨(xO M K x.ops).1.toArray⟩ hK).mono ?_
   rintro _ w22 ⟨_,rfl,rfl,t⟩
   have⟨T22,kp22⟩:=k4 t
   refine⟨_,rfl,kp22,?_⟩
   rw[a2]
   exact i T22 a3 Sy
  .have T28:=N.aq d h28
   simpa using i T28 s1' Om
 .intro H2 w13 hs
  have Y:=v.aq d hs
  have⟨F1,m,d1,J⟩:=Y.l vO qw
  have hfG:=m.pI.1
  refine(OR f w13 m g.nl).mono ?_
  rintro _ w33 ⟨_,rfl,c,Fc,rfl,hc,E33,O⟩
  have T33:=Y.aw d (C:=gj c _ _ _ _) hc E33 O
  refine⟨_,rfl,E33.bo,fun h=>(by cases h),fun _=>?_⟩
  have⟨F2,hs2,_,A⟩:=T33.r vO d
  have⟨F3,B,_,k3⟩:=hs2.one qw<|d.lt hs2
  refine(Ih f 0 w33 B).mono ?_
  rintro _ w34 ⟨_,rfl,_,t⟩
  have⟨T34,W⟩:=A<|k3 (A':=gj _ _ _ _ _) t
  refine⟨_,rfl,W,?_⟩
  refine(H8 ⟨6,0,77,⟨#[122,122]⟩,false⟩ ⟨De,De⟩ w34).mono ?_
  rintro _ w35 ⟨_,rfl,rfl,E35⟩
  refine⟨_,rfl,E35.bo,?_⟩
  have T35:=T34.pure (vO.vk d) E35
  have⟨F4,hs4,_,k4⟩:=T35.r vO d
  have⟨F5,hf5,_,k5⟩:=hs4.one qw<|d.lt hs4
  refine(Cs f _ w35 hf5).mono ?_
  rintro _ w36 ⟨_,rfl,_,t⟩
  have⟨T36,Z⟩:=k4<|k5 (A':=gj _ _ _ _ _) t
  refine⟨_,rfl,Z,?_⟩
  exact i (T36.sub ez.ji) (g.jaI hfG) Om
 .intro H1 F hs
  exact i (v.aq d hs) g Om
def St(ls:List Act)(r:Addr)(w0:World)(n:Nat)(H:NP)(f:Addr)(w:World):Prop:=
 ∃L M G K a b,Tk H (xw f r L M G K a b) ar w0 w/\ll L M G K/\2*M.length<=uS (ls.take n)+n*600
def Tb{f r L M G K a b}:kg (xw f r L M G K a b):=vO.vk qw
section
variable {S:NP} {ls:List Act} {r f:Addr} {w0 w:World} {n:Nat} {H:NP}
def St.aq{H' w'}(h:St ls r w0 n H f w)(hs:af w0 H w H' w'):St ls r w0 n H' f w':=by
 have⟨L,M,G,K,a,b,T,r⟩:=h;exact⟨L,M,G,K,a,b,T.aq Tb hs,r⟩
def SC{j}(a:j<ls.length):uS (ls.take<|j+1)=uS (ls.take j)+ls[j].body.size:=by
 rw[take_succ_eq_append_getElem a];simp only[uS,map_append,sum_append,map_cons,map_nil,sum_cons,sum_nil,Nat.add_zero]
def PS(l):∀(j:Nat),uS (l.take j)<=uS l:=fun j=>by
 have h:uS l=uS (l.take j)+uS (l.drop j):=by
  unfold uS;rw[<-sum_append,<-map_append,take_append_drop]
 omega
def YQ{a b c d n}(h:a<=b+(c+600))(h2:b<=d+n*600):a<=d+c+(n+1)*600:=Om
def RP(g:∀x∈ls,uc S w0 x)(hS:∀y,S y->y<w0.heap.size)(hs:G6 ls)(i:n<ls.length)(h:St ls r w0 n H f w):
  cl 11 #[vp<|some f,vp<|some r,.agg (pT ls[n]).toArray] w<|XT fun o ok w'=>aj H w w'/\ok=true/\∃e,o=some e/\St ls r w0 (n+1) H e w':=by
 have⟨L,M,G,K,a,b,T,l,s⟩:=h
 have C:=g _<|getElem_mem i
 have N:=hs.ops _<|getElem_mem i
 have D:=SC i
 have h1:=PS ls<|n+1
 have h2:=hs.bytes;have h3:=hs.fm
 generalize ls[n]=x at *
 have⟨F,E,d,k⟩:=T.one
 have z:=T.fr.size
 refine(Rw (S:=S) f r x w (C.ext T.fr fun _ _ h=>h) (fun y p=>⟨Nat.lt_of_lt_of_le (hS y p) z,fun I=>?_⟩) N E l Om).mono ?_
 have:=hS y p
 rcases(d y I).1 with h|h
 exact h
 omega
 rintro _ w' ⟨o,ok,rfl,rfl,e,q,m,B,u,J,A,rfl,t,s',j⟩
 have⟨v,kp⟩:=k t
 have c:2*m.length<=uS (ls.take<|n+1)+(n+1)*600:=by rw[D];exact YQ j s
 exact⟨_,_,rfl,kp,rfl,e,rfl,q,m,B,u,J,A,v,s',c⟩
def St.start{w3 w4 w5 F F2}(E:Pure w0 w3)(g:∀y,H y->y<w3.heap.size)(e:gr w4 f [] [] false false F)(c:Pure w3 w4)(nf:∀y,F y->w3.heap.size<=y)(hr:rf r [] [] false false w5 F2)(a:Pure w4 w5)(d:∀y,F2 y->w4.heap.size<=y):St ls r w0 0 H f w5:=by
 have z:=E.size;have i:=c.size;have j:=a.size;refine⟨[],[],[],[],false,false,⟨fun y=>F y\/F2 y,⟨F,F2,e.pure a,hr,fun y h1 h2=>?_,fun _=>Iff.rfl⟩,(E.trans c).trans a,fun y b=>?_,fun y b=>Oh<|g y b⟩,ll.nil,Sm⟩;have:=e.lt h1;have:=d y h2;omega;have:w3.heap.size<=y:=b.elim (nf y) fun h=>Oh<|d y h;exact⟨.inr Om,fun hh=>Oh<|g y hh⟩
def St.pure(h:St ls r w0 n H f w):Pure w0 w:=by
 have⟨_,_,_,_,_,_,T,_⟩:=h;exact T.fr
end
end Go.Proofs
end
section
open Go Go.SE List
open Go.IntKind renaming i64 -> q6
namespace Go.Proofs
open Tryz
set_option maxRecDepth 100000
set_option maxHeartbeats 4000000
attribute [local irreducible] bu ft fg dw Calls
attribute [local irreducible] jq W WV WR yW pv ku jd nz ka lq ky lj mz mo iq fa im mv kq kp uP xG yA bn ub
def jcF(a:Sl)(d:Int)(b:World)(c:Int->WP)(K:Int->WP):Prop:=Br (decide (d<(a.len:Int))) (∃a1:Addr,At a d 1 a1/\li b a1 fun e=>Br (e !=0) (K e b)<|c (q6.wrap<|d+1) b)<|K 0 b
def PG(b:Sl)(g:World)(K:Int->WP):Prop:=∃(f:Int->WP) (d:Int->World->Nat),f 0 g/\∀(e:Int) (a:World),f e a->jcF b e a (fun c w'=>f c w'/\d c w'<d e a) K
def jat(vals1 w0 K)(h:PG vals1 w0 K):
  cl 77 #[vals1.v] w0<|XB K:=
 cy func77 h<|zg 5 [3,6,7] (fun a=>[(8,(vi a))])<|fun {_ _ a}=>fun b=>br 0 1 (ix 1<|ld 0<|br 0 4 (rr 3)<|de 3 b)<|rr 3
def jbQ(a:Int):Bool:=(a !=a)
def L0(a:Int)(c:World):cl 145 #[(.int .i64 a)] c (fun e w'=>e=.returned (.bool<|jbQ a)/\Pure c w'):=
 jr func145 [] (fun b=>(vb<|a !=a)) fun d=>ff 5 d
def NJ(b a:Int):Int:=(cond (b !=b) (cond (a !=a) 0<|-1)<|cond (a !=a) 1<|cond (decide (b<a)) (-1)<|cond (decide (b>a)) 1 0)
def GK(c d:Int)(f:World):cl 78 #[(.int .i64 c),(.int .i64 d)] f (fun e w'=>e=.returned (.int .i64<|NJ c d)/\Pure f w'):=
 jr func78 [(c !=c),(d !=d),(decide (c<d)),(decide (c>d))] (fun b=>(vi<|cond (b 0) (cond (b 1) 0<|-1)<|cond (b 1) 1<|cond (b 2) (-1)<|cond (b 3) 1 0)) fun a=>cp 2 call145 (L0 c)<|cp 2 call145 (L0 d)<|pb 0 2 0 a (fun a=>pb 0 2 1 a (fun a=>ff 2 a)<|fun a=>ff 2 a)<|fun a=>pb 0 2 1 a (fun a=>ff 2 a)<|fun a=>pb 0 4 2 a (fun a=>ff 2 a)<|fun a=>pb 0 4 3 a (fun a=>ff 2 a)<|fun a=>ff 2 a
def jba(a:Int):Bool:=(a !=a)
def KM(a:Int)(c:World):cl 146 #[(.int .u64 a)] c (fun e w'=>e=.returned (.bool<|jba a)/\Pure c w'):=
 jr func146 [] (fun b=>(vb<|a !=a)) fun d=>ff 5 d
def Hj(b a:Int):Int:=(cond (b !=b) (cond (a !=a) 0<|-1)<|cond (a !=a) 1<|cond (decide (b<a)) (-1)<|cond (decide (b>a)) 1 0)
def VB(c d:Int)(f:World):cl 79 #[(.int .u64 c),(.int .u64 d)] f (fun e w'=>e=.returned (.int .i64<|Hj c d)/\Pure f w'):=
 jr func79 [(c !=c),(d !=d),(decide (c<d)),(decide (c>d))] (fun b=>(vi<|cond (b 0) (cond (b 1) 0<|-1)<|cond (b 1) 1<|cond (b 2) (-1)<|cond (b 3) 1 0)) fun a=>cp 2 call146 (KM c)<|cp 2 call146 (KM d)<|pb 0 2 0 a (fun a=>pb 0 2 1 a (fun a=>ff 2 a)<|fun a=>ff 2 a)<|fun a=>pb 0 2 1 a (fun a=>ff 2 a)<|fun a=>pb 0 4 2 a (fun a=>ff 2 a)<|fun a=>pb 0 4 3 a (fun a=>ff 2 a)<|fun a=>ff 2 a
def YZ(a:ByteArray):Bool:=(!(decide (a=a)))
def OM(a:ByteArray)(c:World):cl 147 #[(.string a)] c (fun e w'=>e=.returned (.bool<|YZ a)/\Pure c w'):=
 jr func147 [] (fun b=>(vb<|!(decide (a=a)))) fun d=>ff 5 d
def jaO(d c:ByteArray)(b:World)(K:Int->WP):Prop:=Br (!(decide (d=d))) (Br (!(decide (c=c))) (∀a,af b ar b ar a->K 0 a)<|∀a,af b ar b ar a->K (-1) a)<|Br (!(decide (c=c))) (∀a,af b ar b ar a->K 1 a)<|∀a,af b ar b ar a->∃b1,(Go.binOp .lss 9 (vs d)<|vs c).run prog a=.ok (vb b1) a/\Br b1 (K (-1) a) (∃b2,(Go.binOp .gtr 9 (vs d)<|vs c).run prog a=.ok (vb b2) a/\Br b2 (K 1 a) (K 0 a))
def Up(x1 y1 w0 K)(h:jaO x1 y1 w0 K):
  cl 80 #[(vs x1),(vs y1)] w0<|XB K:=
 dv func80 h<|cp 2 call147 (OM x1)<|cp 2 call147 (OM y1)<|br 0 2 (br 0 2 (an<|rr 2)<|an<|rr 2)<|br 0 2 (an<|rr 2)<|an<|xe<|rb 3<|br 0 0 (rr 2)<|xe<|rb 3<|br 0 0 (rr 2)<|rr 2
def qY(a0 a1 a2:Int)(a3:ByteArray)(a4:Bool)(b0 b1 b2:Int)(b3:ByteArray)(b4:Bool)(w:World):(Go.binOp .eql 35 (.agg #[(.int .i64 a0),(.int .i64 a1),(.int .u64 a2),(.string a3),(.bool a4)])<|.agg #[(.int .i64 b0),(.int .i64 b1),(.int .u64 b2),(.string b3),(.bool b4)]).run prog w=.ok (.bool<|(a0==b0)&&((a1==b1)&&((a2==b2)&&((decide (a3=b3))&&(a4==b4))))) w:=by
 simp[Go.binOp,Op.equal,Op.maxDepth,go_sem,y4,bne]
 repeat' split
 all_goals simp_all
def qX(a0 a1 a2:Int)(a3:ByteArray)(a4:Bool)(b0 b1 b2:Int)(b3:ByteArray)(b4:Bool)(w:World):(Go.binOp .neq 35 (.agg #[(.int .i64 a0),(.int .i64 a1),(.int .u64 a2),(.string a3),(.bool a4)])<|.agg #[(.int .i64 b0),(.int .i64 b1),(.int .u64 b2),(.string b3),(.bool b4)]).run prog w=.ok (.bool<|!((a0==b0)&&((a1==b1)&&((a2==b2)&&((decide (a3=b3))&&(a4==b4)))))) w:=by
 simp[Go.binOp,Op.equal,Op.maxDepth,go_sem,y4,bne]
 repeat' split
 all_goals simp_all
def MN(s1 i:Sl)(f a:Int)(D:World)(b:NP)(c:World)(g:Int->Int->NP->WP)(K:Sl->WP):Prop:=Br (decide (a<(i.len:Int))) (∃a3:Addr,At i a 5 a3/\∀d,af D b c b d->∃y l u q C,Row d a3 (Ae y l u q C)/\∃a4:Addr,At i (q6.wrap<|a-1) 5 a4/\∃s x m k z,Row d a4 (Ae s x m k z)/\Br (!((y==s)&&((l==x)&&((u==m)&&((decide (q=k))&&(C==z)))))) (∃a5:Addr,At i a 5 a5/\∃A o t n w,Row d a5 (Ae A o t n w)/\∃h:Addr,At s1 f 5 h/\(∀j,j<5->zL d (h.add j))/\¬b h.block/\∀r,r=bb d h (Ae A o t n w)->g (q6.wrap<|f+1) (q6.wrap<|a+1) b r) (g f (q6.wrap<|a+1) b d))<|∃B:Sl,(Instr.sliceAt 64 s1.v (some<|vi f) none none).run prog c=.ok B.v c/\∃e:World,(Builtin.clear_ #[64] 0 #[B.v]).run prog c=.ok (.tuple #[]) e/\aj b c e/\∃p:Sl,(Instr.sliceAt 64 s1.v none (some<|vi f) none).run prog e=.ok p.v e/\K p e
def Y9(s1:Sl)(f:Int)(l:World)(b:NP)(g:World)(m:Int->NP->WP)(K:Sl->WP):Prop:=Br (decide (f<(s1.len:Int))) (∃a1:Addr,At s1 f 5 a1/\∀e,af l b g b e->∃t y o u x,Row e a1 (Ae t y o u x)/\∃a2:Addr,At s1 (q6.wrap<|f-1) 5 a2/\∃q s p r z,Row e a2 (Ae q s p r z)/\Br ((t==q)&&((y==s)&&((o==p)&&((decide (u=r))&&(x==z))))) (∃w:Sl,(Instr.sliceAt 64 s1.v (some<|vi f) none none).run prog e=.ok w.v e/\∃(n:Int->Int->NP->WP) (j:Int->Int->World->Nat),n f 1 b e/\∀(k d:Int) (c:NP) (a:World),af l c a c a->n k d c a->MN s1 w k d l c a (fun h i A w'=>n h i A w'/\j h i w'<j k d a) K) (m (q6.wrap<|f+1) b e))<|K s1 g
def FN(s1:Sl)(e:World)(K:Sl->WP):Prop:=Br (decide ((s1.len:Int)<2)) (K s1 e)<|∃(g:Int->NP->WP) (d:Int->World->Nat),g 1 ar e/\∀(f:Int) (b:NP) (a:World),af e b a b a->g f b a->Y9 s1 f e b a (fun c h w'=>g c h w'/\d c w'<d f a) K
def ZF(s1 w0 K)(h:FN s1 w0 K):
  cl 81 #[s1.v] w0<|XA K:=
 dv func81 h<|br 0 4 (rr 3)<|td 2 [0] (fun b=>[(3,(vi b))])<|fun {_ _ b}=>fun x=>br 0 4 (dq 1<|ix 2<|an<|gw<|fun {p y e r w}=>lr 0<|ix 3<|gw<|fun {k o g m A}=>lr 0<|ae 0 (qY p y e r w k o g m A)<|br 0 0 (xe<|rn 3<|ye 2 [0,4] (fun d a=>[(3,(vi d)),(5,(vi a))])<|fun {_ _ d a}=>fun c=>br 0 4 (dq 1<|ix 2<|an<|gw<|fun {u i q l z}=>lr 0<|ix 3<|gw<|fun {n s j f t}=>lr 0<|ae 0 (qX u i q l z n s j f t)<|br 0 0 (ix 5<|gw<|lr 0<|ix 0<|vy 0<|je 6 0 c)<|je 4 0 c)<|xe<|rn 3<|xe<|ef 0<|ie<|xe<|rn 2<|rr 1)<|je 4 0 x)<|rr 3
def Sh(a:Value)(b:World)(K:Sl->WP):Prop:=cl 276 #[Sl.nil.v,a] b<|XA K
def jag(seq1 w0 K)(h:Sh seq1 w0 K):
  cl 186 #[seq1] w0<|XA K:=
 cy func186 h<|fy 2 call276<|rr 1
def UG(a:Value)(d:World)(K:Sl->WP):Prop:=cl 186 #[a] d fun e c=>∃r1:Sl,e=.returned r1.v/\cl 187 #[r1.v] c fun e b=>e=.returned (.tuple #[])/\K r1 b
def jcl(seq1 w0 K)(h:UG seq1 w0 K):
  cl 137 #[seq1] w0<|XA K:=
 cy func137 h<|fy 2 call186<|wT 2 call187<|rr 2
def Y3(s1:Sl)(c:World)(K:Value->WP):Prop:=∀b a,au c (.cells #[s1.v] 46) b a->K (.func (.func 188) #[] #[(vp<|some b)]) a
def UP(s1 w0 K)(h:Y3 s1 w0 K):
  cl 138 #[s1.v] w0<|fun e w'=>∃r1:Value,e=.returned r1/\K r1 w':=
 cy func138 h<|cd 0<|rr 3
end Go.Proofs
end
section
open Go Go.SE List Go.Sort
namespace Go.Proofs
open Tryz
abbrev SP(a:World)(s:Sl)(Q:List Int->Prop)(w':World):Prop:=∃l,bf w' 73 1 s (bz l)/\ab s.ao a w'/\Q l
def JR(l:List Int):(bz l).flatten=l.map (Value.int .i64):=by
 induction l with
 |nil=>rfl
 |cons a l b=>simp only[bz,map_cons,flatten_cons]at *;rw[b];rfl
def Vv(s:Sl)(l:List Int)(f:World)(h:bf f 73 1 s (bz l))(K:l.length<=1000000):
  cl 187 #[s.v] f<|fun e w'=>e=.returned (.tuple #[])/\SP f s (fun l'=>l'.Perm l/\l'.Pairwise (·<=·)) w':=by
 have z:s.len=l.length:=by rw[h.len];simp[bz]
 rcases h.ak with⟨rfl,k⟩|⟨b,cur,u,o,E,hm,hs,ht⟩
 have G:l=[]:=by simpa[bz]using k
 subst G
 refine(show cl 187 #[Sl.nil.v] f _ from AnyG.slices_Sort_int_none LQ none 0 f).mono ?_
 rintro _ w' ⟨rfl,rfl⟩
 exact⟨rfl,[],h,ab.refl _,.refl _,.nil⟩
 have g:(bz l).length=l.length:=by simp[bz]
 rw[JR,g,Nat.mul_one]at ht
 rw[g]at E
 rw[Nat.mul_one]at hs
 have B:b<f.heap.size:=xY o
 have m:∀j,j<l.length->∃d:j<l.length,cur[j]?=some (vi l[j]):=fun j d=>⟨d,by
  have:cur.toList[j]?=(cur.toList.take l.length)[j]?:=by rw[getElem?_take_of_lt d]
  rw[<-Array.getElem?_toList,this,ht,getElem?_map,getElem?_eq_getElem d];rfl⟩
 have C:Holds (Value.int .i64) f b 0 l.toArray:=by
  intro j d;have d:j<l.length:=by simpa using d
  have⟨_,e⟩:=m j d;refine⟨?_,?_⟩;unfold World.cell?;rw[o];simp only[Option.isSome_none,Bool.false_eq_true,if_false,Nat.zero_add];rw[e,getElem!_pos l.toArray j<|by simpa using d];simp;unfold World.frozen?;rw[o];simp
 have D:s.v=.slice (some ⟨b,0,none⟩) l.length s.cap:=by unfold Sl.v;rw[u,z]
 rw[D]
 refine(show cl 187 #[.slice (some ⟨b,0,none⟩) l.length s.cap] f _ from AnyG.slices_Sort_int LQ b 0 s.cap l f C B Om).mono ?_
 rintro _ w' ⟨rfl,n,os,rfl⟩
 have A:(l.mergeSort fun x y=>decide (x<=y)).Perm l:=mergeSort_perm l _
 have p:(l.mergeSort fun x y=>decide (x<=y)).Pairwise (·<=·):=by
  have:=pairwise_mergeSort (le:=fun x y:Int=>decide (x<=y)) (fun a b c h1 h2=>by simp at *;omega) (fun a b=>So) l;simpa using this
 have F:(l.mergeSort fun x y=>decide (x<=y)).length=l.length:=A.length_eq
 generalize (l.mergeSort fun x y=>decide (x<=y))=q at *
 refine⟨rfl,q,⟨?_,?_,.inr ⟨b,putCells (Value.int .i64) 0 q.toArray cur,u,?_,by simp[bz];omega,hm,by simp[putCells,hs],?_⟩⟩,?_,A,p⟩
 intro r hr;simp[bz]at hr;obtain⟨t,_,rfl⟩:=hr;rfl
 rw[z];simp[bz,F]
 rw[heap_grow_old _ _<|by simpa using B]
 simp[putRow,mapBlock,Sort.ahead,Array.getElem?_modify,o,onCells]
 rw[JR]
 apply ext_getElem?
 intro j
 have I:(bz q).length*1=q.length:=by simp[bz]
 rw[I]
 by_cases d:j<q.length
 rw[getElem?_take_of_lt d,Array.getElem?_toList]
 unfold putCells
 rw[Array.getElem?_mapIdx,Array.getElem?_eq_getElem<|show j<cur.size by omega,Option.map_some,if_pos ⟨Nat.zero_le _,So⟩,Nat.sub_zero,getElem!_pos _ j<|by simpa using d,getElem?_map,getElem?_eq_getElem d]
 simp
 rw[getElem?_eq_none So,getElem?_eq_none So]
 refine⟨rfl,rfl,rfl,Nat.le_add_right _ _,by simp[size_grow],fun i hi H=>?_⟩
 have w:b≠i:=fun J=>H ⟨_,u,J⟩
 rw[heap_grow_old _ _<|by simpa using hi]
 simp[putRow,mapBlock,Sort.ahead,Array.getElem?_modify,w]
end Go.Proofs
end
section
open Go Go.SE List
namespace Go.Proofs
open Tryz
attribute [local irreducible] Calls
def sK.sA{P:Program}{a:FuncId}{lb:Array Value}{α:Type}{encs:α->Array Value}{xs:List α}{Rd:WP}{w b:World}(h:sK P a lb encs xs Rd w)(E:Pure w b):sK P a lb encs xs Rd b:=
 fun l J c W d=>h l J c W<|E.trans d
def zAF{S:NP}{n:Addr}{s:Sl}{xs:List Int}{r:World}(hB:ai r n [s.v] 46)(F:xs.length<=1000000):
  sK prog 188 #[vp<|some n] (fun z:Int=>#[vi z]) xs (fun A=>dn S A 1 s<|bz xs) r:=by
 intro l J y W E o D C c B
 refine(SX (.func (.yield l) #[] #[]) n W (fun A=>∃X,af W X A X A/\(J xs X A\/∃az,y az X A)) ?_).mono fun e A h=>⟨⟨_,h.1⟩,h.2⟩
 refine⟨s,(hB.pure E).bd,fun x A=>∃j:Nat,x=j/\j<=xs.length/\af W ar A ar A/\J (xs.take j) ar A,fun x _=>((xs.length:Int)-x).toNat,⟨0,rfl,Nat.zero_le _,af.start W,B⟩,?_⟩
 rintro _ A ⟨j,rfl,w,k,d⟩
 unfold Qw
 have q:=o _ _ _ d
 have g:s.len=xs.length:=by rw[q.len,vA]
 refine⟨fun b=>?_,fun b=>?_⟩
 have b:=vW g b
 have⟨a,p,_,u⟩:=uB q b
 refine⟨a,p,_,u,l,rfl,?_⟩
 refine(c (xs.take j) xs[j] _ A d k ⟨xs.drop<|j+1,by rw[<-drop_eq_getElem_cons b,take_append_drop]⟩).mono ?_
 rintro e A' (⟨rfl,m,i⟩|⟨rfl,m,i⟩)
 refine⟨_,rfl,Br.f rfl ⟨⟨j+1,zN b Om,b,k.gi m,by rw[take_succ_eq_append_getElem b];exact i⟩,?_⟩⟩
 rw[zN b Om]
 exact yY b
 exact⟨_,rfl,Br.t rfl ⟨_,k.gi m,.inr ⟨_,i⟩⟩⟩
 have b:=yJ g w b
 subst b
 rw[take_length]at d
 exact⟨_,k,.inl d⟩
def Vi{S:NP}{O:Addr}{s:Sl}{xs:List Int}(j:World)(hB:ai j O [s.v] 46)(W:dn S j 1 s (bz xs))(hS:∀b,S b->b<j.heap.size)(V:xs.length<=1000000):
  cl 276 #[Sl.nil.v,.func (.func 188) #[] #[vp<|some O]] j<|XA fun r w'=>fx j 73 1 (bz xs) r w':=by
 refine QZ _ _ j _ ?_
 unfold Km
 have p:∀b,¬Sl.nil.ao b:=fun b d=>by have⟨a,h,_⟩:=d;cases h
 intro g C h1
 have n:Pure j C:=ab.aw h1
 have s1:=h1.cu
 have Q:=ai.bh h1
 have l1:=Q.lt
 refine⟨_,_,rfl,call188,xs,_,sK.sA (zAF (S:=S) hB V) n,?_⟩
 refine⟨fun az Y A=>∃so:Sl,ai A g [so.v] 46/\bf A 73 1 so (bz az)/\dn S A 1 s (bz xs)/\Pure j A/\(∀b,so.ao b->C.heap.size<=b/\¬Y b)/\¬Y g.block/\C.heap.size<=A.heap.size,⟨?_,?_,fun _ _ _ _ _ h=>h.elim,fun _ _ _ _ _ h=>h.elim⟩,?_,?_,?_⟩
 rintro az Y A ⟨so,_,_,h,_⟩;exact h
 rintro az Y A U A' ⟨so,b1,k,w,u,f,q,L⟩ hs
 have d1:¬U g.block:=hs.ja (G:=(·=g.block)) (fun b e=>by subst e;exact⟨b1.lt,q⟩) _ rfl
 have d2:∀b,so.ao b->¬U b:=hs.ja (G:=so.ao) fun b d=>⟨k.lt d,(f b d).2⟩
 exact⟨so,b1.ext hs.ext d1,k.ext hs.ext d2,w.aq hs hS,u.aq hs,fun b d=>⟨(f b d).1,d2 b d⟩,d1,Nat.le_trans L hs.ext.size⟩
 exact⟨Sl.nil,Q,bf.nil _ _ _,W.pure n,n,fun b d=>(p b d).elim,id,Nat.le_refl _⟩
 rintro az z Y A ⟨so,b1,k,w,u,f,q,L⟩ F ⟨N,m⟩
 have Z:az.length<xs.length:=by rw[m];simp
 refine⟨so,b1.bd,?_⟩
 intro p2 R h2
 have B:Pure A R:=ab.aw h2
 have⟨y,D,E,R3,x,M⟩:=(k.pure B).append (P:=prog) (ty:=46) (c:=1) te (r:=[vi z]) (ai.bh h2).row rfl rfl (by rw[vA];omega) (by rw[vA];simp[maxLen];omega)
 have d1:¬so.ao g.block:=fun d=>Oh<|(f _ d).1
 have b3:=(b1.pure B).ext x d1
 have z2:=B.size;have z3:=x.size
 have H:aj ar R D:=x.bl fun b d=>d.elim
 refine⟨y,D,E,H,b3.ia Sm,id,fun I T=>?_⟩
 have K:ab (·=g.block) D I:=by rw[T];exact ab.setCell g _
 have b4:ai I g [y.v] 46:=by rw[T];exact b3.jb
 have o2:∀b,y.ao b->C.heap.size<=b:=fun b d=>(M b d).elim (fun h=>(f b h).1) fun h=>Om
 have t:=F.lt
 have J:ab (fun b=>so.ao b\/b=g.block) A I:=((B.pure).trans<|x.mono fun b _ h=>.inl h).trans (K.mono fun b _ h=>.inr h)
 refine⟨J.bl fun b o d=>d.elim (fun h=>(f b h).2 o) fun h=>q<|h▸o,y,b4,?_,?_,?_,fun b d=>⟨o2 b d,fun o=>(M b d).elim (fun h=>(f b h).2 o) fun h=>Oh<|t b o⟩,q,Oh K.size⟩
 rw[show bz (az++[z])=bz az++[[vi z]] by simp[bz]]
 exact R3.ext K fun b d e=>Oh<|o2 b d
 exact w.ext J (fun b d h=>by have:=hS b d;rcases h with h|h;(· have:=(f b h).1;have:=n.size;omega);(· omega))
 exact u.cg J (fun i hi d=>by rcases d with h|h;(· have:=(f i h).1;have:=n.size;omega);(· omega))
 rintro H1 w5 X _ _ ⟨so,b1,k,w,u,f,q,L⟩
 refine⟨so,b1.bd,fun w6 l=>⟨k.ext l.ext<|l.ja (G:=so.ao) fun b d=>⟨k.lt d,(f b d).2⟩,fun b d=>Oi ((f b d).1) n.size,u.aq l⟩⟩
def SV{S:NP}{d:Addr}{s:Sl}{xs:List Int}(a:World)(hB:ai a d [s.v] 46)(j:dn S a 1 s (bz xs))(hS:∀b,S b->b<a.heap.size)(e:xs.length<=1000000):
  cl 137 #[.func (.func 188) #[] #[vp<|some d]] a<|XA fun r w'=>∃l,fx a 73 1 (bz l) r w'/\l.Perm xs/\l.Pairwise (·<=·):=by
 refine jcl _ a _ ?_
 refine(jag _ a (fun r w'=>fx a 73 1 (bz xs) r w') ?_).mono ?_
 refine(Vi a hB j hS e).mono ?_
 rintro _ c ⟨r,rfl,hr⟩
 exact⟨r,rfl,hr⟩
 rintro _ c ⟨r,rfl,hr⟩
 refine⟨r,rfl,?_⟩
 refine(Vv r xs c hr.cj e).mono ?_
 rintro _ m ⟨rfl,l,f,h,g,hs⟩
 exact⟨rfl,l,⟨f,hr.ak,hr.pure.cg h fun i hi k=>Oh<|hr.ak i k⟩,g,hs⟩
def jXW(k p:Addr)(a:World){G:List Int}{W:List gx}{F:NP}(h:qJ a k p G W F)(o:(zG W).length<=1000000):
  cl 72 #[vp<|some k] a<|XA fun r w'=>∃l,fx a 73 1 (bz l) r w'/\l.Perm (zG W)/\l.Pairwise (·<=·):=by
 refine Ty _ a _ ?_
 unfold MP
 have⟨sg,m,sl,h,q⟩:=h
 refine Br.f rfl ⟨k,rfl,sl,h.box.cell rfl,?_⟩
 refine(UP sl a (fun r w'=>∃c,r=.func (.func 188) #[] #[vp<|some c]/\ai w' c [sl.v] 46/\Pure a w') ?_).mono ?_
 intro c i h1
 exact⟨c,rfl,ai.bh h1,ab.aw h1⟩
 rintro _ i ⟨r,rfl,c,rfl,n,d⟩
 refine⟨_,rfl,?_⟩
 refine(SV (S:=sl.ao) i n (h.pZ.pure d).ei (fun b g=>(h.pZ.pure d).lt g) o).mono ?_
 rintro _ s ⟨r2,rfl,l,e,j,hs⟩
 exact⟨r2,rfl,l,⟨e.cj,fun b g=>Oi (e.ak b g) d.size,d.trans e.pure⟩,j,hs⟩
end Go.Proofs
end
section
namespace Go.Proofs
open Tryz
open Go.Shelf
def RZ:Go.Shelf.Ren:=⟨fun|6=>75|15=>144|14=>143|28=>198|29=>199|20=>190|21=>191|22=>192|23=>193|24=>194|25=>195|26=>196|27=>197|46=>278|47=>279|48=>280|49=>281|50=>282|57=>306|n=>n,fun|22=>64|24=>35|25=>140|3=>3|39=>220|0=>0|53=>286|55=>23|4=>4|46=>280|45=>279|50=>234|5=>5|9=>9|66=>326|70=>194|76=>343|77=>344|n=>n,fun|n=>n⟩
def W6:Go.Proofs.SlLaysF0.n6 prog RZ:={
 mixed:=by kernel_rfl
 f6:=⟨f75.name,by decide,func75.trans<|congrArg some<|by kernel_rfl⟩
 f14:=⟨f143.name,by decide,func143.trans<|congrArg some<|by kernel_rfl⟩
 f15:=func144.trans<|congrArg some (by kernel_rfl)
 f20:=⟨f190.name,by decide,func190.trans<|congrArg some<|by kernel_rfl⟩
 f21:=⟨f191.name,by decide,func191.trans<|congrArg some<|by kernel_rfl⟩
 f22:=⟨f192.name,by decide,func192.trans<|congrArg some<|by kernel_rfl⟩
 f23:=⟨f193.name,by decide,func193.trans<|congrArg some<|by kernel_rfl⟩
 f24:=⟨f194.name,by decide,func194.trans<|congrArg some<|by kernel_rfl⟩
 f25:=⟨f195.name,by decide,func195.trans<|congrArg some<|by kernel_rfl⟩
 f26:=⟨f196.name,by decide,func196.trans<|congrArg some<|by kernel_rfl⟩
 f27:=⟨f197.name,by decide,func197.trans<|congrArg some<|by kernel_rfl⟩
 f28:=func198.trans<|congrArg some (by kernel_rfl)
 f29:=func199.trans<|congrArg some (by kernel_rfl)
 f46:=⟨f278.name,by decide,func278.trans<|congrArg some<|by kernel_rfl⟩
 f47:=func279.trans<|congrArg some (by kernel_rfl)
 f48:=func280.trans<|congrArg some (by kernel_rfl)
 f49:=⟨f281.name,by decide,func281.trans<|congrArg some<|by kernel_rfl⟩
 f50:=⟨f282.name,by decide,func282.trans<|congrArg some<|by kernel_rfl⟩
 f57:=⟨f306.name,by decide,func306.trans<|congrArg some<|by kernel_rfl⟩
 t0:=underlying0
 a0:=isAgg0
 z0:=sizeOf0
 v0:=zeroValue0
 t3:=underlying3
 a3:=isAgg3
 z3:=sizeOf3
 v3:=zeroValue3
 t4:=underlying4
 a4:=isAgg4
 z4:=sizeOf4
 v4:=zeroValue4
 t5:=underlying5
 a5:=isAgg5
 z5:=sizeOf5
 v5:=zeroValue5
 t9:=underlying9
 a9:=isAgg9
 z9:=sizeOf9
 v9:=zeroValue9
 t22:=underlying64
 a22:=isAgg64
 z22:=sizeOf64
 v22:=zeroValue64
 t25:=underlying140
 a25:=isAgg140
 z25:=sizeOf140
 v25:=zeroValue140
 t39:=underlying220
 a39:=isAgg220
 z39:=sizeOf220
 v39:=zeroValue220
 t45:=underlying279
 a45:=isAgg279
 z45:=sizeOf279
 v45:=zeroValue279
 t46:=underlying280
 a46:=isAgg280
 z46:=sizeOf280
 v46:=zeroValue280
 t50:=underlying234
 a50:=isAgg234
 z50:=sizeOf234
 v50:=zeroValue234
 t53:=underlying286
 a53:=isAgg286
 z53:=sizeOf286
 v53:=zeroValue286
 t55:=underlying23
 a55:=isAgg23
 z55:=sizeOf23
 v55:=zeroValue23
 t66:=underlying326
 a66:=isAgg326
 z66:=sizeOf326
 v66:=zeroValue326
 t70:=underlying194
 a70:=isAgg194
 z70:=sizeOf194
 v70:=zeroValue194
 t76:=underlying343
 a76:=isAgg343
 z76:=sizeOf343
 v76:=zeroValue343
 t77:=underlying344
 a77:=isAgg344
 z77:=sizeOf344
 v77:=zeroValue344 }
end Go.Proofs
end
section
open Go
namespace Go.Proofs
instance:Inhabited eo:=⟨⟨0,0,0,⟨#[]⟩,false⟩⟩
def me(a b:Int):Int:=if a<b then -1 else if b<a then 1 else 0
def rK(a b:ByteArray):Int:=if Op.bytesLess a.toList b.toList=true then -1 else if a=b then 0 else 1
def sD:List Int->Int
 |[]=>0
 |a :: l=>if a≠0 then a else sD l
def G8{a b:ByteArray}(h:a.toList=b.toList):a=b:=by
 rw[Lib.toList_data,Lib.toList_data]at h;have⟨a⟩:=a;have⟨b⟩:=b;simp only at h;congr 1;exact Array.toList_inj.1 h
structure Wo{α:Type}(f:α->α->Int):Prop where
 neg:∀a b,f b a=- f a b
 tr:∀{a b c},f a b<=0->f b c<=0->f a c<=0
section
variable {α β:Type} {f g:α->α->Int}
def Wo.wG(h:Wo f){a b c}(h1:f a b<0)(h2:f b c<=0):f a c<0:=by
 refine Int.not_le.1 fun h3=>?_;have n1:=h.neg a c;have n2:=h.neg a b;have:=h.tr h2 (show f c a<=0 by omega);omega
def Wo.lt2(h:Wo f){a b c}(h1:f a b<=0)(h2:f b c<0):f a c<0:=by
 refine Int.not_le.1 fun h3=>?_;have n1:=h.neg a c;have n2:=h.neg b c;have:=h.tr (show f c a<=0 by omega) h1;omega
def Wo.Te(h:Wo f)(k:Wo g):Wo (fun a b=>if f a b≠0 then f a b else g a b):=by
 refine⟨fun a b=>?_,fun {a b c} h1 h2=>?_⟩;have:=h.neg a b;have:=k.neg a b;split<;>split<;>omega;have j:=h.wG (a:=a) (b:=b) (c:=c);have i:=h.lt2 (a:=a) (b:=b) (c:=c);have e:=h.tr (a:=a) (b:=b) (c:=c);have d:=h.tr (a:=c) (b:=b) (c:=a);have:=k.tr (a:=a) (b:=b) (c:=c);have:=h.neg a c;have:=h.neg a b;have:=h.neg b c;split at h1<;>split at h2<;>split<;>omega
def Wo.Bf(h:Wo f)(r:β->α):Wo (fun a b=>f (r a)<|r b):=⟨fun _ _=>h.neg _ _,h.tr⟩
def Kt:∀{l:List (α->α->Int)},(∀f∈l,Wo f)->Wo (fun a b=>sD<|l.map (· a b))
 |[],_=>⟨fun _ _=>rfl,fun _ _=>Int.le_refl _⟩
 |f :: l,h=>(h f Sm).Te<|Kt fun g c=>h g (by simp[c])
def NH:∀{l:List Int},sD l=0->∀x∈l,x=0
 |[],_,_,h=>by simp at h
 |a :: l,h,x,b=>by
  unfold sD at h;split at h;omega;rename_i c;rcases List.mem_cons.1 b with rfl|b;omega;exact NH h x b
def Wo.SY(h:Wo f):Go.Sort.SWO (Go.Proofs.ltOf f):={
 irrefl x:=by have:=h.neg x x;unfold Go.Proofs.ltOf;simp;omega
 trans x y z h1 h2:=by
  unfold Go.Proofs.ltOf at *;simp only[decide_eq_true_eq]at *;exact h.wG h1 Om
 ntrans x y z h1 h2:=by
  unfold Go.Proofs.ltOf at *;simp only[decide_eq_false_iff_not]at *;have:=h.neg x y;have:=h.neg y z;have:=h.neg x z;have:=h.tr (a:=z) (b:=y) (c:=x) Om Om;omega }
end
def Em:Wo me:=⟨fun a b=>by unfold me;grind,fun {a b c} h1 h2=>by unfold me at *;grind⟩
def ND{a b:ByteArray}:Op.bytesLess a.toList b.toList=true↔a.toList<b.toList:=by rw[Go.Proofs.bytesLess_eq];simp
def jaD{a b:ByteArray}:rK a b<=0↔a.toList<=b.toList:=by
 unfold rK;simp only[ND];split;rename_i h;simp[List.le_of_lt h];split;rename_i e;subst e;simp;rename_i h1 h2;refine⟨fun h=>Om,fun h=>absurd (G8<|List.le_antisymm h<|List.not_lt.1 h1) h2⟩
def Zs:Wo rK:=by
 refine⟨fun a b=>?_,fun {a b c} h1 h2=>by rw[jaD]at *;exact List.le_trans h1 h2⟩;unfold rK;simp only[ND];by_cases h1:a.toList<b.toList;rw[if_pos h1,if_neg<|List.lt_asymm h1,if_neg fun e=>by subst e;exact List.lt_irrefl _ h1];rfl;rw[if_neg h1];by_cases h2:b.toList<a.toList;rw[if_pos h2,if_neg fun e=>by subst e;exact List.lt_irrefl _ h2];have e:a=b:=G8<|List.le_antisymm (List.not_lt.1 h2)<|List.not_lt.1 h1;subst e;rw[if_neg h1];simp
def rU(b:Bool):Int:=cond b 1 0
def xm(a b:eo):Int:=sD [me a.kind b.kind,me a.ay b.ay,me a.c b.c,rK a.ba b.ba,me (rU a.dz)<|rU b.dz]
def PQ:Wo xm:=by
 have:=Kt (l:=[fun a b:eo=>me a.kind b.kind,fun a b=>me a.ay b.ay,fun a b=>me a.c b.c,fun a b=>rK a.ba b.ba,fun a b=>me (rU a.dz)<|rU b.dz]) (by
  simp only[List.mem_cons,List.not_mem_nil,or_false,forall_eq_or_imp,forall_eq];exact⟨Em.Bf eo.kind,Em.Bf eo.ay,Em.Bf eo.c,Zs.Bf eo.ba,Em.Bf fun a:eo=>rU a.dz⟩)
 exact this
def Yw{a b:eo}(h:xm a b=0):a=b:=by
 have h:=NH h;simp only[List.mem_cons,List.not_mem_nil,or_false,forall_eq_or_imp,forall_eq]at h;have⟨h1,h2,h3,e,d⟩:=h;have z:∀{x y:Int},me x y=0->x=y:=fun {x y} h=>by unfold me at h;grind
 have q:∀{x y:Bool},rU x=rU y->x=y:=fun {x y} h=>by cases x<;>cases y<;>simp[rU]at h|-
 have t:a.ba=b.ba:=by unfold rK at e;grind
 have⟨k,f,c,x,g⟩:=a;have⟨k',m,l,j,i⟩:=b;simp only[eo.mk.injEq];exact⟨z h1,z h2,z h3,t,q<|z d⟩
def oC{α:Type}[DecidableEq α](a:α):List α->List α
 |[]=>[]
 |b :: l=>if a=b then oC b l else b :: oC b l
def pV{α:Type}[DecidableEq α]:List α->List α
 |[]=>[]
 |a :: l=>a :: oC a l
section
variable {α:Type} [DecidableEq α]
def KQ{x:α}:∀{l:List α} {a:α},(x=a\/x∈oC a l)↔(x=a\/x∈l)
 |[],_=>by simp[oC]
 |b :: l,a=>by
  have h:=KQ (x:=x) (l:=l) (a:=b);unfold oC;split;rename_i e;subst e;rw[h];simp;simp only[List.mem_cons,h]
def jbZ{l:List α}{x:α}:x∈pV l↔x∈l:=by
 cases l with
 |nil=>simp[pV]
 |cons a l=>simp only[pV,List.mem_cons];exact KQ
def Px{f:α->α->Int}(h:Wo f)(z:∀{a b},f a b=0->a=b):∀{l:List α} {a:α},(a ::l).Pairwise (fun a b=>¬f b a<0)->(a ::oC a l).Pairwise (f · ·<0)
 |[],_,_=>by simp[oC]
 |b :: l,a,j=>by
  have i:=List.pairwise_cons.1 j;unfold oC;have hs:=Px h z i.2;split;rename_i e;subst e;exact hs;rename_i d;have c:f a b<0:=by
   have:=i.1 b Sm;have:=h.neg a b;have:f a b≠0:=fun e=>d<|z e;omega
  refine List.pairwise_cons.2 ⟨fun x g=>?_,hs⟩;rcases List.mem_cons.1 g with rfl|g;exact c;exact h.wG c<|Int.le_of_lt<|(List.pairwise_cons.1 hs).1 x g
def Sf{f:α->α->Int}(h:Wo f)(z:∀{a b},f a b=0->a=b){l:List α}(c:l.Pairwise fun a b=>¬f b a<0):(pV l).Pairwise (f · ·<0):=by
 cases l with
 |nil=>simp[pV]
 |cons a l=>exact Px h z c
end
end Go.Proofs
end
section
namespace Go.SE
open Go.Sort Go.Shelf Go.Proofs
def Rx(w:World)(q:Nat):w.drewN q={ w with drawn:=w.drawn+q }:=rfl
def jPU{w w':World}(h:Pure w w'):∃q os,w'=Sort.grow (w.drewN q) os:=by
 refine⟨w'.drawn-w.drawn,w'.heap.extract w.heap.size w'.heap.size,?_⟩;have hh:w'.heap=w.heap++w'.heap.extract w.heap.size w'.heap.size:=by
  apply Array.ext_getElem?;intro i;by_cases hi:i<w.heap.size;rw[h.gq i hi id,Array.getElem?_append_left hi];rw[Array.getElem?_append_right Om,Array.getElem?_extract];by_cases h2:i<w'.heap.size;rw[if_pos Om];congr 1;omega;rw[if_neg Om,Array.getElem?_eq_none Om]
 have h1:=h.os;have h2:=h.tape;have h3:=h.output;have f:=h.drawn;clear h;have⟨a,b,c,d,e⟩:=w;have⟨l,j,k,g,m⟩:=w';simp only at h1 h2 h3 f hh;subst h1;subst h2;subst h3;rw[Rx];unfold Sort.grow;simp only[World.mk.injEq,and_true,true_and];exact⟨hh,Om⟩
def La{α:Type}[Inhabited α](enc:α->List Value)(k:Nat)(a:∀x,(enc x).length=k)(d:Array α):(flatK enc k d).toList=(d.toList.map enc).flatten:=by
 have c:∀q∈d.toList.map enc,q.length=k:=by
  intro q g;obtain⟨x,_,rfl⟩:=List.mem_map.1 g;exact a x
 have f:(d.toList.map enc).flatten.length=d.size*k:=by rw[vM c];simp
 apply List.ext_getElem?;intro t;by_cases ht:t<d.size*k;have k0:0<k:=by rcases Nat.eq_zero_or_pos k with h|h;subst h;simp at ht;exact h
 have b:t/k<d.size:=by rw[Nat.div_lt_iff_lt_mul k0];exact ht
 have hm:t%k<k:=Nat.mod_lt _ k0;have e:t=(t/k)*k+t%k:=(Nat.div_add_mod' t k).symm;have h1:=get_flatK enc k d t ht;rw[Array.getElem?_toList,Array.getElem?_eq_getElem<|by simpa using ht];rw[getElem!_pos _ t<|by simpa using ht,getElem!_pos d _ b,getElem!_pos _ (t%k) (by rw[a];exact hm)]at h1;rw[h1];have h2:=DV c (i:=t/k) (by simpa using b) hm;rw[<-e]at h2;rw[h2,List.getElem_map,List.getElem?_eq_getElem (by rw[a];exact hm)];simp;rw[List.getElem?_eq_none So,List.getElem?_eq_none Om]
variable {α:Type} [Inhabited α] {P:Program} {ρ:Ren} {k:Nat} {enc:α->List Value} {e:TypeId}
def bf.UC{w:World}{s:Sl}{g:Nat}{cur:Array Value}{ds:List α}(f:∀x,(enc x).length=k)(b:w.heap[g]?=some (.cells cur e (0,0)))(ht:cur.toList.take (ds.length*k)=(ds.map enc).flatten):HoldsK enc k w g 0 ds.toArray:=by
 intro j d;rw[size_flatK]at d;have c:=La enc k f ds.toArray;simp only at c;have a:j<ds.length*k:=by simpa using d
 have h:(flatK enc k ds.toArray).size=ds.length*k:=Sm;have h1:cur.toList[j]?=(flatK enc k ds.toArray).toList[j]?:=by
  rw[c,<-ht,List.getElem?_take_of_lt a]
 rw[Array.getElem?_toList,Array.getElem?_toList,Array.getElem?_eq_getElem<|show j<(flatK enc k ds.toArray).size by omega]at h1;refine⟨?_,?_⟩;unfold World.cell?;rw[b];simp only[Option.isSome_none,Bool.false_eq_true,if_false,Nat.zero_add,id];rw[h1,getElem!_pos _ j Om];unfold World.frozen?;rw[b];simp
def jNG(L:SlLaysF0.n6 P ρ)(aE:∀w,(isAgg<|ρ.t 24).run P w=.ok true w)(zE:∀w,(Go.sizeOf<|ρ.t 24).run P w=.ok k w)(C:∀x,(enc x).length=k)(h1:∀x,∀v∈enc x,v.oneCell'=true)(D:α->α->Int)(hO:SWO (ltOf D))(g:Nat)(N:Array Value)(eg:∀args w,(callFunc g args).run P w=.ok (.enter g args) w){w:World}{s:Sl}{ds:List α}(V:∀x y W,ab s.ao w W->Calls P g (#[.agg (enc x).toArray,.agg (enc y).toArray]++N) W fun o w'=>o=.returned (.int .i64<|D x y)/\Pure W w')(hr:bf w e k s (ds.map enc))(S:ds.length<4611686018427387904):
  Calls P (ρ.f 6) #[s.v,.func (.func g) #[] N] w<|fun o w'=>o=.returned (.tuple #[])/\∃r:List α,r.Perm ds/\r.Pairwise (fun a b=>¬D b a<0)/\bf w' e k s (r.map enc)/\ab s.ao w w':=by
 have O:s.len=ds.length:=by rw[hr.len];simp
 rcases hr.ak with⟨rfl,z⟩|⟨b,cur,G,J,h,hm,B,ht⟩
 have Z:ds=[]:=by simpa using z
 subst Z
 refine(AnyF.slices_SortFunc_none L none 0 _ w).mono ?_
 rintro _ w' ⟨rfl,rfl⟩
 exact⟨rfl,[],.refl _,.nil,hr,ab.refl _⟩
 rw[List.length_map]at h ht
 have T:HoldsK enc k w b 0 ds.toArray:=bf.UC (s:=s) C J ht
 have Q:b<w.heap.size:=xY J
 have U:s.v=.slice (some ⟨b,0,none⟩) ds.toArray.size s.cap:=by unfold Sl.v;rw[G,O];simp
 rw[U]
 have R:∀(n:Nat) (c:Array α) (os:Array Obj),ab s.ao w<|sortWorldK enc k w b 0 n c os:=fun n c os=>by
  refine⟨rfl,rfl,rfl,Nat.le_add_right _ _,by unfold sortWorldK putRowK;simp[size_grow],fun i hi hf=>?_⟩;have F:b≠i:=fun X=>hf ⟨_,G,X⟩;unfold sortWorldK putRowK;rw[heap_grow_old _ _<|by simpa using hi];simp[putRow,mapBlock,Sort.ahead,Array.getElem?_modify,F]
 refine(AnyQ.slices_SortFunc L k aE zE enc C h1 D hO g N b 0 s.cap ds.toArray w eg (fun m os dk _ x y=>?_) T Q<|by simpa using S).mono ?_
 refine(V x y _<|R m dk os).mono ?_
 rintro o w' ⟨rfl,H⟩
 exact⟨rfl,jPU H⟩
 rintro _ w' ⟨rfl,c,n,os,H,hs,rfl⟩
 have⟨A,_,p⟩:=H
 have d:c.size=ds.length:=by simpa using A
 have l:c.toList.Perm ds:=by
  rw[<-A]at p;rw[Array.extract_size]at p;simpa[d]using p
 refine⟨rfl,c.toList,l,?_,?_,?_⟩
 rw[List.pairwise_iff_getElem]
 intro i j hi u E
 have I:j<c.size:=by simpa using u
 have M:i<c.size:=by simpa using hi
 have:=hs i j (Nat.zero_le _) E So
 unfold ltOf at this
 rw[getElem!_pos c i M,getElem!_pos c j I]at this
 simpa using this
 have K:∀ q∈c.toList.map enc,q.length=k:=by
  intro q Y;obtain⟨x,_,rfl⟩:=List.mem_map.1 Y;exact C x
 refine⟨K,by rw[O];simp[d],.inr ⟨b,putCells id 0 (flatK enc k c) cur,G,?_,by simpa[d]using h,hm,by simp[putCells,B],?_⟩⟩
 unfold sortWorldK putRowK
 rw[heap_grow_old _ _<|by simpa using Q]
 simp[putRow,mapBlock,Sort.ahead,Array.getElem?_modify,J,onCells]
 rw[<-La enc k C c,List.length_map,Array.length_toList]
 apply List.ext_getElem?
 intro j
 have hle:ds.length*k<=s.cap*k:=Nat.mul_le_mul_right _ h
 by_cases u:j<c.size*k
 rw[List.getElem?_take_of_lt u,Array.getElem?_toList,Array.getElem?_toList]
 unfold putCells
 rw[Array.getElem?_mapIdx,Array.getElem?_eq_getElem (show j<cur.size by rw[B];rw[d]at u;omega),Option.map_some,if_pos ⟨Nat.zero_le _,by rw[size_flatK];omega⟩,Array.getElem?_eq_getElem (by rw[size_flatK];exact u),Nat.sub_zero,getElem!_pos _ j (by rw[size_flatK];exact u)]
 rfl
 rw[List.getElem?_eq_none So,List.getElem?_eq_none So]
 exact R n c os
def O3{α:Type}{sz:Nat}:∀(m:Nat) (l:List α),l.length=m*sz->∃qs:List (List α),qs.length=m/\(∀q∈qs,q.length=sz)/\qs.flatten=l
 |0,l,h=>⟨[],rfl,Sm,by rw[Nat.zero_mul]at h;simp[List.length_eq_zero_iff.1 h]⟩
 |m+1,l,h=>by
  rw[Nat.succ_mul]at h;have⟨qs,h1,h2,h3⟩:=O3 m (l.drop sz) (show(l.drop sz).length=m*sz by rw[List.length_drop];omega);refine⟨l.take sz ::qs,by simp[h1],fun q a=>?_,by simp[h3]⟩;rcases List.mem_cons.1 a with rfl|a;rw[List.length_take];omega;exact h2 q a
def bf.Vo{P:Program}{t ty:TypeId}{sz bytes:Nat}{z:Value}(T:j1 P t e sz bytes)(U:∀w,(zeroValue e).run P w=.ok z w)(f:z.cells.size=sz)(D:∀v∈z.cells.toList,vG v=true){w:World}{s:Sl}{rs:List (List Value)}(h:bf w e sz s rs){k:IntKind}{n:Int}(O:0<=n)(H:n<rs.length):
  ∃s':Sl,∃w':World,(∀w:World,(Instr.sliceAt t s.v (some<|.int k n) none none).run P w=.ok s'.v w)/\(Builtin.clear_ #[t] ty #[s'.v]).run P w=.ok (.tuple #[]) w'/\ab s.ao w w'/\∃d,bf w' e sz s d/\d.length=rs.length/\d.take n.toNat=rs.take n.toNat:=by
 rcases h.ak with⟨rfl,rfl⟩|⟨g,cur,x,M,L,hm,hs,ht⟩
 simp at H;omega
 have B:ai w ⟨g,0,none⟩ cur.toList e:=⟨rfl,by simpa using M⟩
 have I:s.len=rs.length:=h.len
 obtain⟨m,C⟩:∃m,s.len-n.toNat=m+1:=⟨s.len-n.toNat-1,Om⟩
 have a:(Builtin.zeroCells z.cells<|m+1).toList.length=(m+1)*sz:=by simp[Builtin.zeroCells,f]
 have E:∀v∈(Builtin.zeroCells z.cells<|m+1).toList,vG v=true:=by
  intro v F;simp only[Builtin.zeroCells,Array.toList_map,List.mem_map]at F;obtain⟨i,_,rfl⟩:=F;have K:0<z.cells.size:=by rw[f];exact T.pos
  rw[getElem!_pos z.cells _<|Nat.mod_lt _ K];exact D _ Sm
 have V:n.toNat*sz+(m+1)*sz=rs.length*sz:=by rw[<-Nat.add_mul];congr 1;omega
 have G:rs.length*sz<=s.cap*sz:=Nat.mul_le_mul_right _ L
 have c:cur.toList.length=s.cap*sz:=by simpa using hs
 generalize A:(Builtin.zeroCells z.cells<|m+1).toList=o at *
 have aq:=N4 (P:=P) ((⟨g,0,none⟩:Addr).add<|n.toNat*sz) o 0 w E (fun j W=>by rw[yL];exact B.ee (by rw[c];omega))
 have J:=ai.storeAt o 0 (n.toNat*sz) w _ B (by rw[c];omega)
 have R:ab (·=g) w (pN w ((⟨g,0,none⟩:Addr).add<|n.toNat*sz) 0 o):=by
  have:=ab.bb w ((⟨g,0,none⟩:Addr).add<|n.toNat*sz) o;rw[zC]at this;exact this
 have⟨qs,q1,q2,q3⟩:=O3 (m+1) o a
 have p:s.cap≠n.toNat:=Om
 have u:n<=(s.len:Int):=Om
 refine⟨⟨some<|(⟨g,0,none⟩:Addr).add<|n.toNat*sz,s.len-n.toNat,s.cap-n.toNat⟩,_,fun w=>?_,?_,R.mono fun b _ Q=>⟨_,x,Q.symm⟩,rs.take n.toNat++qs,⟨?_,?_,.inr ⟨g,_,x,J.ao,?_,hm,?_,?_⟩⟩,?_,?_⟩
 simp[Instr.sliceAt,Instr.slice,Sl.v,run_underlying T.ht,Instr.sliceBounds,Instr.sliceBound,asIntOf,T.sizeOf,O,u,p,x]
 rw[C]
 simp[Builtin.clear_,Sl.v,run_underlying T.ht,U,A,aq]
 intro q l
 rcases List.mem_append.1 l with l|l
 exact h.mi q<|List.mem_of_mem_take l
 exact q2 q l
 rw[List.length_append,List.length_take,q1];omega
 rw[List.length_append,List.length_take,q1];omega
 simp only[List.size_toArray,List.length_append,List.length_take,List.length_drop,c,a];omega
 rw[List.length_append,List.length_take,q1,show min n.toNat rs.length+(m+1)=rs.length by omega,List.flatten_append,q3]
 have S:rs=rs.take n.toNat++rs.drop n.toNat:=(List.take_append_drop _ _).symm
 have y:((rs.take n.toNat).flatten).length=n.toNat*sz:=by rw[vM fun r hr=>h.mi r<|List.mem_of_mem_take hr,List.length_take,Nat.min_eq_left Om]
 have N:cur.toList.take (n.toNat*sz)=(rs.take n.toNat).flatten:=by
  calc cur.toList.take (n.toNat*sz)=(cur.toList.take<|rs.length*sz).take (n.toNat*sz):=by rw[List.take_take,Nat.min_eq_left Om]
   _=((rs.take n.toNat).flatten++(rs.drop n.toNat).flatten).take (n.toNat*sz):=by rw[ht,<-List.flatten_append,<-S]
   _=(rs.take n.toNat).flatten:=by rw[<-y,List.take_left]
 simp only[Nat.add_zero,N]
 rw[List.take_append_of_le_length (by rw[List.length_append,y,a];omega),List.take_of_length_le (by rw[List.length_append,y,a];omega)]
 rw[List.length_append,List.length_take,q1];omega
 rw[List.take_append_of_le_length (by rw[List.length_take];omega),List.take_take,Nat.min_self]
def bf.Sn{P:Program}{t:TypeId}{sz bytes:Nat}(T:j1 P t e sz bytes){w:World}{s:Sl}{rs:List (List Value)}(h:bf w e sz s rs){k:IntKind}{n:Int}(o:0<=n)(p:n<rs.length):
  ∃s':Sl,(∀w:World,(Instr.sliceAt t s.v (some<|.int k n) none none).run P w=.ok s'.v w)/\s'.len=rs.length-n.toNat/\∀(i:Nat) (a:Addr),n.toNat+i<rs.length->At s ((n.toNat+i:Nat):Int) sz a->At s' (i:Int) sz a:=by
 rcases h.ak with⟨rfl,rfl⟩|⟨g,cur,l,q,r,hm,hs,ht⟩
 simp at p;omega
 have c:s.len=rs.length:=h.len
 have d:s.cap≠n.toNat:=Om
 have f:n<=(s.len:Int):=Om
 refine⟨⟨some<|(⟨g,0,none⟩:Addr).add<|n.toNat*sz,s.len-n.toNat,s.cap-n.toNat⟩,fun w=>?_,by simp[c],fun i a hi j=>?_⟩
 simp[Instr.sliceAt,Instr.slice,Sl.v,run_underlying T.ht,Instr.sliceBounds,Instr.sliceBound,asIntOf,T.sizeOf,o,f,d,l]
 obtain⟨_,_,b,m,rfl⟩:=j
 rw[l]at m;cases m
 refine⟨Om,by simp only[c];omega,_,rfl,?_⟩
 rw[yL,Int.toNat_natCast,Int.toNat_natCast,Nat.add_mul]
end Go.SE
end
section
open Go Go.SE List
namespace Go.Proofs
open Tryz
attribute [local irreducible] Calls
def Oa(x y:Int):Hj x y=me x y:=by
 unfold Hj me;by_cases h:x<y;simp[h];by_cases h2:y<x<;>simp[h,h2]
def TS(x y:Int):NJ x y=me x y:=Oa x y
def Wc(x y:ByteArray)(a:World):cl 80 #[vs x,vs y] a (XB fun r w'=>r=rK x y/\Pure a w'):=by
 refine Up x y a (fun r w'=>r=rK x y/\Pure a w') ?_;refine Br.f Sm<|Br.f Sm fun c b=>?_;have E:=b.first;refine⟨Op.bytesLess x.toList y.toList,by rw[binOp_string_lss];rfl,fun h=>⟨by unfold rK;rw[if_pos h],E⟩,fun h=>?_⟩;refine⟨!(Op.bytesLess x.toList y.toList ||x.toList==y.toList),by simp[binOp,Op.stringOp],fun h2=>⟨?_,E⟩,fun h2=>⟨?_,E⟩⟩
 all_goals
  unfold rK
  rw[if_neg (by rw[h];simp)]
  rw[h]at h2
 .rw[if_neg];intro e;subst e;simp at h2
 .rw[if_pos<|G8<|by simpa using h2]
def VI{S:NP}(p:Addr)(ts:List Int)(o:ts.length<=1000)(c:World)(l:dn S c 1 ⟨some p,ts.length,ts.length⟩ (bz ts)):cl 77 #[(Sl.mk (some p) ts.length ts.length).v] c (XB fun r w'=>r=sD ts/\Pure c w'):=by
 suffices key:∀K:Int->WP,(∀w',Pure c w'->K (sD ts) w')->PG ⟨some p,ts.length,ts.length⟩ c K from
  jat _ c _<|key _ fun _ h=>⟨rfl,h⟩
 intro K e;refine⟨fun i w'=>∃j:Nat,i=j/\j<=ts.length/\w'=c/\sD ts=sD (ts.drop j),fun i _=>((ts.length:Int)-i).toNat,⟨0,rfl,Nat.zero_le _,rfl,rfl⟩,?_⟩;rintro _ wl ⟨j,rfl,m,rfl,d⟩;refine⟨fun h=>?_,fun h=>?_⟩;have b:=vW (n:=ts.length) rfl h;have⟨a,f,_,k⟩:=uB l b;rw[drop_eq_getElem_cons b,sD]at d;refine⟨a,f,_,k,fun h2=>?_,fun h2=>?_⟩;rw[if_pos<|by simpa using h2]at d;rw[d]at e;exact e _<|ab.refl _;rw[if_neg<|by simpa using h2]at d;rw[zN b Om];exact⟨⟨j+1,rfl,b,rfl,d⟩,yY b⟩;have g:=yJ (n:=ts.length) rfl m h;rw[g,drop_length,sD]at d;rw[d]at e;exact e _<|ab.refl _
def zIJ(a b:eo)(p:Addr)(h:World)(hB:ai h p [.func (.func 74) #[] #[]] 134):cl 76 #[.agg (jh a).toArray,.agg (jh b).toArray,vp<|some p] h (XB fun r w'=>r=xm a b/\Pure h w'):=by
 refine VS a.kind a.ay a.c a.ba a.dz b.kind b.ay b.c b.ba b.dz p h (fun r w'=>r=xm a b/\Pure h w') ?_;intro A z l;have v:=l.first;refine⟨Pure h,v.trans<|ab.drew _,?_⟩;rintro _ rfl;have t:=v.trans<|ab.drew (F:=ar) z;refine⟨_,fun w' E=>(hB.pure E).bd,_,fun w' E=>(hB.pure E).bd,(GK a.kind b.kind _).mono ?_⟩;rintro _ I ⟨rfl,o⟩;refine⟨_,rfl,t.trans o,o.bo,(GK a.ay b.ay _).mono ?_⟩;rintro _ B ⟨rfl,s⟩;have d:=(t.trans o).trans s;refine⟨_,rfl,d,s.bo,(VB a.c b.c _).mono ?_⟩;rintro _ C ⟨rfl,n⟩;refine⟨_,rfl,d.trans n,n.bo,(Wc a.ba b.ba _).mono ?_⟩;rintro _ G ⟨_,rfl,rfl,u⟩;have f:=(d.trans n).trans u;refine⟨_,rfl,f,u.bo,_,_,_,rfl,call74,(Kq a.kind a.ay a.c a.ba a.dz _).mono ?_⟩;rintro _ D ⟨rfl,m⟩;refine⟨_,rfl,f.trans m,m.bo,_,_,_,rfl,call74,(Kq b.kind b.ay b.c b.ba b.dz _).mono ?_⟩;rintro _ H ⟨rfl,q⟩;have i:=(f.trans m).trans q;refine⟨_,rfl,i,q.bo,(GK _ _ _).mono ?_⟩;rintro _ y ⟨rfl,j⟩;have E010:=i.trans j;refine⟨_,rfl,E010,j.bo,fun x k g=>⟨E010.trans<|ab.aw g,?_⟩⟩;have E011:=E010.trans<|ab.aw (F:=ar) g;have R:=bf.lit (sz:=1) (rs:=bz [me a.kind b.kind,me a.ay b.ay,me a.c b.c,rK a.ba b.ba,me (rU a.dz)<|rU b.dz]) g (by simp[bz,Oa,TS];rfl) (by simp[bz]) (by simp[bz,maxLen]);refine(VI x [me a.kind b.kind,me a.ay b.ay,me a.c b.c,rK a.ba b.ba,me (rU a.dz)<|rU b.dz] Sm k R.ei).mono ?_;rintro _ w ⟨_,rfl,rfl,e⟩;exact⟨_,rfl,E011.trans e,e.bo,rfl,E011.trans e⟩
def ZD(s:Sl)(ls:List eo)(p:Addr)(d:World)(hB:ai d p [.func (.func 74) #[] #[]] 134)(h:¬ s.ao p.block)(hr:bf d 35 5 s (ls.map jh))(i:ls.length<=1000000):
  cl 75 #[s.v,.func (.func 76) #[] #[vp<|some p]] d<|fun e w'=>e=.returned (.tuple #[])/\∃c:List eo,c.Perm ls/\c.Pairwise (fun a b=>¬xm b a<0)/\bf w' 35 5 s (c.map jh)/\ab s.ao d w':=
 jNG W6 isAgg35 sizeOf35 (enc:=jh) (fun _=>rfl) (fun x v f=>by simp[jh]at f;rcases f with rfl|rfl|rfl|rfl|rfl<;>rfl) xm PQ.SY 76 #[vp<|some p]
  (enters_of func76 Kf rfl) (fun x y W g=>(zIJ x y p W<|hB.ext g h).mono (by rintro _ w' ⟨_,rfl,rfl,E⟩;exact⟨rfl,E⟩)) hr Om
def Ev(g h:eo):((g.kind==h.kind)&&((g.ay==h.ay)&&((g.c==h.c)&&((decide (g.ba=h.ba))&&(g.dz==h.dz)))))=decide (g=h):=by
 have⟨a,b,c,d,e⟩:=g;have⟨k,i,j,f,l⟩:=h;rw[Bool.eq_iff_iff];simp[eo.mk.injEq]
def jXX(s:Sl)(fs:List eo)(C:World)(hr:bf C 35 5 s (fs.map jh))(hn:fs.length<=1000000):
  cl 81 #[s.v] C<|XA fun r w'=>bf w' 35 5 r ((pV fs).map jh)/\ab s.ao C w'/\∀b,r.ao b->s.ao b:=by
 suffices key:∀K:Sl->WP,(∀r w',bf w' 35 5 r ((pV fs).map jh)->ab s.ao C w'->(∀b,r.ao b->s.ao b)->K r w')->FN s C K from
  ZF _ C _<|key _ fun _ _ h1 h2 h3=>⟨h1,h2,h3⟩
 intro K hK
 unfold FN
 have hl:s.len=fs.length:=by rw[hr.len];simp
 have hsb:∀b,s.ao b->b<C.heap.size:=fun b m=>hr.lt m
 refine⟨fun h=>?_,fun h=>?_⟩
 have h:=of_decide_eq_true h
 refine hK s C ?_ (ab.refl _) fun _ h=>h
 have:pV fs=fs:=by
  match fs,hl,h with
  |[],_,_=>rfl
  |[a],_,_=>rfl
  |a :: b :: l,hl,h=>simp[hl]at h;omega
 rw[this];exact hr
 have h2:2<=fs.length:=by have h:=of_decide_eq_false h;omega
 obtain⟨f0,fr,rfl⟩:∃f0 fr,fs=f0 ::fr:=by
  cases fs with
  |nil=>simp at h2
  |cons a l=>exact⟨a,l,rfl⟩
 generalize hfs:f0 ::fr=fs at *
 have hc0:pV fs=fs.take 1++oC fs[0] (fs.drop 1):=by subst hfs;rfl
 refine⟨fun k H w'=>∃j:Nat,k=j/\1<=j/\∃hj:j<=fs.length,Pure C w'/\ju H w' 35 5 s (fs.map jh)/\pV fs=fs.take j++oC (fs[j-1]' Om) (fs.drop j),fun k _=>((fs.length:Int)-k).toNat,⟨1,rfl,Nat.le_refl _,Om,ab.refl _,⟨hr,fun _ _ h=>h⟩,hc0⟩,?_⟩
 rintro _ Hl wl hl1 ⟨j,rfl,hj1,hj,El,Ol,W⟩
 refine⟨fun m=>?_,fun m=>?_⟩
 have c:=vW hl m
 have⟨a1,E,_⟩:=Ol.mm c
 refine⟨a1,E,fun w1 Y=>?_⟩
 have V:=Ol.aq Y
 have E1:=El.aq Y
 have⟨a1',S,y⟩:=V.mm c
 have⟨a2,hat2,O⟩:=V.mm (show j-1<fs.length by omega)
 have hw:IntKind.i64.wrap ((j:Int)-1)=((j-1:Nat):Int):=by rw[i64 Om Om];omega
 have ha:a1=a1':=by
  obtain⟨_,_,b,m,rfl⟩:=E;obtain⟨_,_,b',p,rfl⟩:=S;rw[m]at p;cases p;rfl
 rw[<-ha]at y
 rw[hw]
 refine⟨_,_,_,_,_,y,a2,hat2,_,_,_,_,_,O,fun D=>?_,fun D=>?_⟩
 rw[Ev]at D
 have D:=of_decide_eq_true D
 have⟨s2,I,B,hat⟩:=V.cj.Sn Ds (k:=.i64) (n:=(j:Int)) Om So
 have B:s2.len=fs.length-j:=by simpa using B
 refine⟨s2,I w1,fun k2 J H w'=>∃a i:Nat,k2=a/\J=i/\1<=i/\1<=a/\a<j+i/\∃hi:j+i<=fs.length,∃ls:List eo,ls.length=fs.length/\ls.drop (j+i-1)=fs.drop (j+i-1)/\ab s.ao C w'/\ju H w' 35 5 s (ls.map jh)/\pV fs=ls.take a++oC (fs[j+i-1]' Om) (fs.drop<|j+i),fun _ J _=>((fs.length:Int)-J).toNat,?_,?_⟩
 refine⟨j,1,rfl,rfl,Nat.le_refl _,hj1,Om,c,fs,rfl,rfl,ab.pure E1,V,?_⟩
 rw[W,drop_eq_getElem_cons c,oC,if_pos D.symm]
 rfl
 rintro _ _ H2 w2 hs2 ⟨a,i,rfl,rfl,hi1,ha1,hai,hi,ls,Z,M,E2,O2,g⟩
 unfold MN
 have G:∀q,(h:q<fs.length)->j+i-1<=q->ls[q]' Om=fs[q]:=by
  intro q h hq;have e:=congrArg (fun l=>l[q-(j+i-1)]?) M;simp only[getElem?_drop]at e;rw[show j+i-1+(q-(j+i-1))=q by omega,getElem?_eq_getElem Om,getElem?_eq_getElem h]at e;exact Option.some.inj e
 refine⟨fun R=>?_,fun R=>?_⟩
 have o:j+i<fs.length:=Oh<|of_decide_eq_true R
 have⟨a3,A,_⟩:=O2.mm (show j+i<ls.length by omega)
 have up:∀(q:Nat) (x:Addr),j+q<fs.length->At s ((j+q:Nat):Int) 5 x->At s2 (q:Int) 5 x:=fun q x hq hx=>hat q x (by simpa using hq) (by simpa using hx)
 refine⟨a3,up i a3 o A,fun w3 hs3=>?_⟩
 have T:=O2.aq hs3
 have E3:=E2.aq hs3
 have⟨a3',Q,f⟩:=T.mm (show j+i<ls.length by omega)
 have ha3:a3=a3':=by
  obtain⟨_,_,b,m,rfl⟩:=A;obtain⟨_,_,b',p,rfl⟩:=Q;rw[m]at p;cases p;rfl
 rw[<-ha3]at f
 have⟨a4,hat4,u⟩:=T.mm (show j+(i-1)<ls.length by omega)
 have hw2:IntKind.i64.wrap ((i:Int)-1)=((i-1:Nat):Int):=by rw[i64 Om Om];omega
 rw[hw2]
 rw[G (j+i) o Om]at f
 have e4:ls[j+(i-1)]' Om=fs[j+i-1]' Om:=by
  rw[G (j+(i-1)) Om Om];congr 1;omega
 rw[e4]at u
 rw[drop_eq_getElem_cons o,oC]at g
 refine⟨_,_,_,_,_,f,a4,up (i-1) a4 Om hat4,_,_,_,_,_,u,fun d=>?_,fun d=>?_⟩
 rw[Ev]at d
 have d:¬fs[j+i]=fs[j+i-1]' Om:=by simpa using d
 rw[if_neg fun e=>d e.symm]at g
 have⟨a6,F,hcw,X⟩:=T.cj.set (i:=a) (r:=jh fs[j+i]) So rfl rfl
 refine⟨a3,up i a3 o A,_,_,_,_,_,f,a6,F,hcw,?_,fun w4 hw4=>?_⟩
 obtain⟨_,_,b,m,rfl⟩:=F
 exact T.jf _ ⟨b,m,by rw[zC]⟩
 have⟨hR,hE⟩:=X w4 hw4
 rw[zN (show a<fs.length by omega) Om,zN (show i<fs.length by omega) Om]
 refine⟨⟨a+1,i+1,rfl,rfl,Om,Om,Om,Om,ls.set a fs[j+i],by simpa using Z,?_,E3.trans hE,⟨by rw[map_set];exact hR,T.jf⟩,?_⟩,yY<|show i<fs.length by omega⟩
 rw[drop_set_of_lt Om]
 have e:=congrArg (drop 1) M
 rw[drop_drop,drop_drop]at e
 rw[show j+(i+1)-1=j+i-1+1 by omega];exact e
 rw[g,take_succ_eq_append_getElem (by rw[length_set];omega),take_set_of_le<|Nat.le_refl _,getElem_set_self,append_assoc]
 rfl
 rw[Ev]at d
 have d:fs[j+i]=fs[j+i-1]' Om:=by simpa using d
 rw[if_pos d.symm]at g
 rw[zN (show i<fs.length by omega) Om]
 refine⟨⟨a,i+1,rfl,rfl,Om,Om,Om,Om,ls,Z,?_,E3,T,?_⟩,yY<|show i<fs.length by omega⟩
 have e:=congrArg (drop 1) M
 rw[drop_drop,drop_drop]at e
 rw[show j+(i+1)-1=j+i-1+1 by omega];exact e
 rw[g];rfl
 have hge:j+i=fs.length:=Oh<|of_decide_eq_false R
 rw[drop_eq_nil_of_le Om,oC,append_nil]at g
 have⟨s3,w4,N,hclr,U,rs',hR',hl',htk⟩:=O2.cj.Vo (P:=prog) (t:=64) (ty:=0) Ds (z:=.agg #[vi 0,vi 0,vu 0,vs ⟨#[]⟩,vb false]) (fun w=>zeroValue35 w) rfl (by intro v hv;simp[Value.cells]at hv;rcases hv with rfl|rfl|rfl|rfl|rfl<;>rfl) (k:=.i64) (n:=(a:Int)) Om So
 have⟨s4,L,hR4,hb4⟩:=hR'.hiA (P:=prog) Ds (k:=.i64) (n:=(a:Int)) Om (by rw[hl'];simp;omega)
 refine⟨s3,N w2,w4,hclr,U.bl fun b m hs=>O2.jf b hs m,s4,L w4,hK s4 w4 ?_ (E2.trans U) fun b m=>(hb4 b).1 m⟩
 rw[htk]at hR4
 rw[g,map_take];simpa using hR4
 rw[Ev]at D
 have D:¬fs[j]=fs[j-1]' Om:=by simpa using D
 rw[drop_eq_getElem_cons c,oC,if_neg fun e=>D e.symm]at W
 rw[zN c Om]
 refine⟨⟨j+1,rfl,Om,c,E1,V,?_⟩,yY c⟩
 rw[W,take_succ_eq_append_getElem c,append_assoc]
 rfl
 have hge:=yJ hl hj m
 subst hge
 rw[drop_length,oC,append_nil,take_length]at W
 exact hK s wl (by rw[W];exact Ol.cj) (ab.pure El) fun _ h=>h
end Go.Proofs
end
section
namespace Go.Proofs
open Go.Shelf
end Go.Proofs
end
section
open Go Go.SE Go.Sort
namespace Go.Proofs
def zIA{α:Type}[DecidableEq α](l:List α):∀a,(oC a l).length<=l.length:=by
 induction l with
 |nil=>intro a;simp[oC]
 |cons b l c=>intro a;have:=c b;unfold oC;split<;>simp only[List.length_cons]<;>omega
def jaK{α:Type}[DecidableEq α](l:List α):(pV l).length<=l.length:=by
 cases l with
 |nil=>simp[pV]
 |cons a l=>have:=zIA l a;simp only[pV,List.length_cons];omega
end Go.Proofs
namespace Go.Proofs
attribute [local irreducible] Calls
def JQ(l:List ByteArray):List (List Value):=l.map fun x=>[vs x]
section
variable {w:World} {e:TypeId} {s:Sl} {l:List ByteArray} {b:Nat} {cur:Array Value} (ha:s.a=some ⟨b,0,none⟩) (hg:w.heap[b]?=some (.cells cur e (0,0))) (ht:cur.toList.take ((JQ l).length*1)=(JQ l).flatten)
include hg ht
omit ht
include ha
end
end Go.Proofs
end
section
open Go Go.SE List
namespace Go.Proofs
def tt(L:av)(ts:List Int):List eo:=ts.filterMap fun t=>if(ri L t).2=true then some (ri L t).1 else none
def Qt(L:av)(G:List Int)(ls:List eo):Prop:=ls.Pairwise (xm · ·<0)/\∀l,l∈ls↔∃t,mg L G t/\ri L t=(l,true)
def U4{L t}(ts):tt L (ts++[t])=tt L ts++if(ri L t).2=true then[(ri L t).1]else[]:=by
 unfold tt;rw[filterMap_append];congr 1;simp only[filterMap_cons,filterMap_nil];split<;>rename_i h;split at h;cases h;rename_i h2;rw[if_neg h2];split at h;rename_i h2;cases h;rw[if_pos h2];cases h
def QB(L ts):(tt L ts).length<=ts.length:=length_filterMap_le _ _
def Vp{L ts l}:l∈tt L ts↔∃t∈ts,ri L t=(l,true):=by
 unfold tt;rw[mem_filterMap];constructor;rintro⟨t,ht,h⟩;split at h;rename_i h2;cases h;exact⟨t,ht,Prod.ext rfl h2⟩;cases h;rintro⟨t,ht,h⟩;exact⟨t,ht,by rw[h];rfl⟩
end Go.Proofs
namespace Go.Proofs
open Tryz
attribute [local irreducible] Calls
def Zq(f w0){L G a b F}(h:gr w0 f L G a b F):
  cl 24 #[vp<|some f] w0<|XA fun r w'=>∃ls,fx w0 35 5 (ls.map jh) r w'/\Qt L G ls/\ls.length<=65536:=by
 suffices key:∀K:Sl->WP,(∀r ls w',fx w0 35 5 (ls.map jh) r w'->Qt L G ls/\ls.length<=65536->K r w')->GW (some f) w0 K from
  Xz _ w0 _<|key _ fun r ls w' h1 h2=>⟨ls,h1,h2⟩
 intro K hK
 unfold GW
 have⟨k,p,S,FK,FP,A,hF⟩:=h
 have I:(zG S).length<=65536:=by rw[yH];exact Nat.le_trans A.ok.tooy.fm A.wf.ok.fm
 refine Br.f rfl ⟨f,rfl,some k,A.box.bd,?_⟩
 refine(jXW k p w0 A.fh Om).mono ?_
 rintro _ V ⟨r1,rfl,q,h1,n,_⟩
 have hql:q.length<=65536:=by rw[n.length_eq];exact I
 have J:r1.len=q.length:=by rw[h1.cj.len,vA]
 have E1:=h1.pure
 have z1:=E1.size
 refine⟨r1,rfl,h1.bl,fun o i H w'=>∃j:Nat,i=j/\j<=q.length/\Pure w0 w'/\V.heap.size<=w'.heap.size/\(∀y,o.ao y->V.heap.size<=y)/\(∀y,H y->V.heap.size<=y)/\ju H w' 35 5 o ((tt L<|q.take j).map jh)/\ju H w' 73 1 r1 (bz q),fun _ i _=>((q.length:Int)-i).toNat,⟨0,rfl,Nat.zero_le _,E1,Nat.le_refl _,fun y h=>(by have⟨a,h,_⟩:=h;cases h),fun _ h=>h.elim,ju.nil _ _,⟨h1.cj,fun _ _ h=>h⟩⟩,?_⟩
 rintro o _ Hl wl hl' ⟨j,rfl,hj,El,zl,g,hH,N,O1⟩
 refine⟨fun h=>?_,fun h=>?_⟩
 have m:=vW J h
 have⟨a1,hat,_,hv⟩:=uB O1.cj.ei m
 have z:=A.ext El fun _ _ h=>h
 refine⟨a1,hat,_,hv,f,rfl,some p,z.box.cell rfl,?_⟩
 refine(jOG p q[j] wl z.bj z.wf.ok).mono ?_
 rintro _ w2 ⟨k2,f2,c2,x2,g2,ok2,rfl,Y,E⟩
 have u:=U4 (L:=L) (t:=q[j])<|q.take j
 rw[<-take_succ_eq_append_getElem m,<-Y]at u
 have hbl:(tt L<|q.take j).length<=j:=Nat.le_trans (QB _ _) (by rw[length_take];omega)
 have O:=El.trans E
 have z2:=E.size
 have up:∀{U W},af w0 Hl w2 U W->∀y,U y->V.heap.size<=y:=fun hs y s=>(hs.aw y s).elim (hH y) fun h=>Om
 refine⟨_,_,_,_,_,_,rfl,E.bo,fun h2 U W d p2 w5 h5=>?_,fun h2 U W d=>?_⟩
 subst h2
 rw[if_pos rfl]at u
 have Q:Pure W w5:=ab.aw h5
 have O5:=((N.pure E).aq d).pure Q
 have hE5:=(O.aq d).trans Q
 have D:Row w5 p2 (jh ⟨k2,f2,c2,x2,g2⟩):=(ai.bh h5).row
 have⟨s',w6,hr,hO,hE,hk,hb⟩:=O5.append (P:=prog) (ty:=64) (c:=1) Ds (d.gi Q.bo) D rfl rfl So (by simp[maxLen];omega)
 refine⟨s',w6,hr,hk,?_⟩
 rw[zN m Om]
 have z4:=d.ext.size;have z5:=Q.size;have z6:=hE.size
 refine⟨⟨j+1,rfl,m,Sq O5 hE5 hE fun y s=>Nat.le_trans z1<|g y s,Om,fun y h=>(hb y h).elim (g y) fun h=>Om,up d,by rw[u,map_append];exact hO,?_⟩,yY m⟩
 refine(((O1.pure E).aq d).pure Q).ext hE fun y h3 h4=>?_
 have:=h1.cj.lt h3;have:=g y h4;omega
 subst h2
 rw[if_neg Sm,append_nil]at u
 rw[zN m Om]
 have z4:=d.ext.size
 exact⟨⟨j+1,rfl,m,O.aq d,Om,g,up d,by rw[u];exact(N.pure E).aq d,(O1.pure E).aq d⟩,yY m⟩
 have hge:=yJ J hj h
 subst hge
 rw[take_length]at N
 have hll:=QB L q
 have hml:∀l,l∈tt L q↔∃t,mg L G t/\ri L t=(l,true):=fun l=>by
  rw[Vp];constructor;rintro⟨t,ht,e⟩;exact⟨t,(A.ok.wC t).1<|n.mem_iff.1 ht,e⟩;rintro⟨t,ht,e⟩;exact⟨t,n.mem_iff.2<|(A.ok.wC t).2 ht,e⟩
 generalize tt L q=ls at *
 intro T w7 h7
 have E7:Pure wl w7:=ab.aw h7
 have n7:=h7.cu
 have B7:=ai.bh h7
 refine⟨B7.ia Sm,fun hh=>Oh<|hl'.lt _ hh,?_⟩
 rintro w8 rfl
 have X8:=ab.setCell (w:=w7) T<|.func (.func 74) #[] #[]
 have B8:=B7.jb (v:=.func (.func 74) #[] #[])
 have R:¬o.ao T.block:=fun hh=>Oh<|N.cj.lt hh
 have O8:=(N.pure E7).ext X8 fun y s e=>R<|e▸s
 have E8:Pure wl (w7.setCell T<|.func (.func 74) #[] #[]):=E7.cg X8 fun i hi e=>Om
 refine(ZD o ls T _ B8 R O8.cj Om).mono ?_
 rintro _ w9 ⟨rfl,B,C,X,R9,E9⟩
 refine⟨rfl,E9.bl fun y s hs=>O8.jf y hs s,?_⟩
 refine(jXX o B w9 R9 (by rw[C.length_eq];omega)).mono ?_
 rintro _ Z ⟨r,rfl,R10,M,hb⟩
 refine⟨r,rfl,M.bl fun y s hs=>O8.jf y hs s,hK r (pV B) Z ⟨R10,fun y s=>Nat.le_trans z1<|g y<|hb y s,(El.trans E8).cg (E9.trans M) fun i hi hs=>Oh<|g i hs⟩ ⟨⟨Sf PQ Yw X,fun x=>?_⟩,Oi (jaK B) C.length_eq⟩⟩
 rw[jbZ,C.mem_iff];exact hml x
def FA(L:av)(G:List Int)(t:bt):Prop:=(of L t).2.1=0/\dr (of L t).2.2 (mg (of L t).2.2 G) (of L t).1
def Qj{X:NP}(f k fr to u x ks)(s:Sl)(w0){L G a b F}(h:gr w0 f L G a b F)(Q:cr X w0 s (.mk k fr to u x ks))(A:∀y,X y->y<w0.heap.size/\¬ F y):
  cl 19 #[vp<|some f,.agg #[vi k,vi fr,vi to,vu u,vs x,s.v]] w0<|XC fun r w'=>(r=true↔FA L G (.mk k fr to u x ks))/\Tn (gj f (of L<|.mk k fr to u x ks).2.2 G a b) F w0 w':=by
 refine Zo _ _ _ _ _ _ _ w0 _ ?_
 unfold NZ FA
 have⟨l,p,S,I,R,i,e⟩:=h
 refine Br.f rfl fun D z hs=>?_
 have Z:=hs.first.size
 have W:=hs.first
 refine⟨fun _=>True,trivial,?_⟩
 rintro w2 rfl
 have m:Pure w0 z.drew:=W.trans<|ab.drew z
 have n:=i.ext m fun _ _ h=>h
 refine⟨f,rfl,some p,n.box.cell rfl,?_⟩
 have Y:=m.size
 refine(QK p (.mk k fr to u x ks) s _ (Q.pure m) n.bj n.wf.ok (fun y c T=>(A y T).2<|(e y).2<|.inr<|.inr c) fun y c=>Oh<|(A y c).1).mono ?_
 rintro _ j ⟨r1,r2,rfl,P,F',B,o,g⟩
 have⟨V,N⟩:=Prod.mk.inj P
 have C:=Ki i.wf<|.mk k fr to u x ks
 have⟨M,J⟩:=MH i.wf.ok<|.mk k fr to u x ks
 rw[<-V,<-N]
 rw[J]at B C|-
 have d:=n.pW B C o g
 have O:∀y,F y->¬D y:=fun y c hh=>by
  have:=gr.lt ⟨l,p,S,I,R,i,e⟩ c;have:=hs.old y hh;omega
 have K:ab F w0 j:=(ab.pure m).trans<|o.mono Gd
 have tn:∀{w'},Pure j w'->Tn (gj f (L++M) G a b) F w0 w':=fun E=>⟨_,⟨l,p,S,I,F',d.ext E fun _ _ h=>h,fun _=>Iff.rfl⟩,K.fb E,fun y c=>by
  rcases c with rfl|c|c
  .exact .inl<|(e _).2<|.inl rfl
  .exact .inl<|(e _).2<|.inr<|.inl c
  .rcases g y c with h|h
   .exact .inl<|(e _).2<|.inr<|.inr h
   .exact .inr Om⟩
 have kp:aj D z.drew j:=o.bl fun y hh c=>O y ((e y).2<|.inr<|.inr c) hh
 refine⟨r1,r2,rfl,trivial,kp,fun q=>?_,fun q=>?_⟩
 .refine⟨f,rfl,some l,d.box.bd,?_⟩
  refine(Mk l p r1 j d.wf d.ok d.fh d.bj).mono ?_
  rintro _ w4 ⟨r3,rfl,U,H⟩
  refine⟨r3,rfl,H.bo,?_,tn H⟩
  rw[U]
  have w:r2=0:=by simpa using q
  exact⟨fun h=>⟨w,h.mono fun t ht=>(d.ok.wC t).1 ht⟩,fun h=>h.2.mono fun t ht=>(d.ok.wC t).2 ht⟩
 .have w:r2≠0:=by simpa using q
  exact⟨by simp[w],tn<|ab.refl _⟩
end Go.Proofs
end
section
open Go Go.SE List
namespace Go.Proofs
section
variable {L:av} {G:List Int} {gs:List bt} (h:Gs L G gs) {who c:Int} {x:ByteArray} (hp:uC who=true)
include h
end
def P7{gs n}(h:iz gs (nj n)):mw gs (nj n):=by
 generalize e:nj n=y at h;cases h with
 |seen h=>exact h
 |free h=>unfold nj at e;injection e with e;subst e;cases h
 |ke _ _=>simp[nj]at e
 |ov _=>simp[nj]at e
 |ng a _ _=>simp[nj]at e
def RI{gs d y}(j:iz gs d)(h:In d y):iz gs y:=by
 induction h with
 |refl=>exact j
 |fst _ b =>
  generalize e:bt.mk 4 _ _ _ _ [_,_]=z at b
  cases b with
  |seen h=>subst e;have⟨g,i,hi⟩:=h;exact .seen ⟨g,i,.fst hi⟩
  |free h=>injection e with e;subst e;cases h
  |ke h1 _=>simp at e;obtain⟨_,_,_,_,rfl,rfl⟩:=e;exact h1
  |ov _=>simp at e
  |ng c _ _=>simp at e
 |snd _ b =>
  generalize e:bt.mk 4 _ _ _ _ [_,_]=z at b
  cases b with
  |seen h=>subst e;have⟨g,i,hi⟩:=h;exact .seen ⟨g,i,.snd hi⟩
  |free h=>injection e with e;subst e;cases h
  |ke _ h2=>simp at e;obtain⟨_,_,_,_,rfl,rfl⟩:=e;exact h2
  |ov _=>simp at e
  |ng c _ _=>simp at e
 |@wP k f t u x a c _ b =>
  generalize e:bt.mk k f t u x [a]=z at b
  cases b with
  |seen h=>subst e;have⟨g,i,hi⟩:=h;exact .seen ⟨g,i,.wP c hi⟩
  |free h =>
   injection e with e;subst e
   simp only[qP,Bool.or_eq_true,beq_iff_eq]at c
   rcases c with(rfl|rfl)|rfl<;>cases h
  |ke _ _=>simp at e
  |ov _=>injection e with e;subst e;cases c
  |ng _ h1 _=>simp at e;obtain⟨_,_,_,_,_,rfl⟩:=e;exact h1
def Ft{gs d y}(b:iz gs d)(h:mw (gs++[d]) y):iz gs y:=by
 have⟨g,a,hi⟩:=h;rcases mem_append.1 a with a|a;exact .seen ⟨g,a,hi⟩;simp at a;subst a;exact RI b hi
def Q5{gs d y}(a:iz gs d)(h:iz (gs++[d]) y):iz gs y:=by
 induction h with
 |seen h=>exact Ft a h
 |free h=>exact .free h
 |ke _ _ i1 i2=>exact .ke i1 i2
 |ov _ i1=>exact .ov i1
 |ng b _ hs i1=>exact .ng b i1<|P7<|Ft a hs
def mw.mono{gs hs y}(h:mw gs y)(hm:∀g∈gs,g∈hs):mw hs y:=by
 have⟨g,a,hi⟩:=h;exact⟨g,hm g a,hi⟩
def iz.mono{gs hs y}(h:iz gs y)(hm:∀g∈gs,g∈hs):iz hs y:=by
 induction h with
 |seen h=>exact .seen<|h.mono hm
 |free h=>exact .free h
 |ke _ _ i1 i2=>exact .ke i1 i2
 |ov _ i1=>exact .ov i1
 |ng a _ hs i1=>exact .ng a i1<|hs.mono hm
structure Au(a hs:List bt):Prop where
 l:∀y,mw hs y->iz a y
 d:∀{y},iz hs y↔iz a y
 k:∀{n},mw hs (nj n)↔mw a (nj n)
def YH{a hs:List bt}{d:bt}(b:iz a d)(h1:∀g∈a,g∈hs)(h2:∀g∈hs,g∈a++[d]):Au a hs:=
 ⟨fun _ h=>Ft b<|h.mono h2,⟨fun h=>Q5 b<|h.mono h2,fun h=>h.mono h1⟩,⟨fun h=>P7<|Ft b<|h.mono h2,fun h=>h.mono h1⟩⟩
def Au.binds{gs hs}(h:Au gs hs){who c x}:vc hs who c x↔vc gs who c x:=by
 unfold vc yx;simp only[h.d]
def Au.free{gs hs}(h:Au gs hs){who}:wo hs who↔wo gs who:=by
 unfold wo;simp only[h.k]
def zBZ{L G}(f:Wf L)(d:∀g∈G,al L g=true)(a:L.length<=64900){who c x}(b:yP L)(e:qW c):yP (tX L G who c x).2:=by
 unfold tX;split;exact((CH G (j0 who c x) L).yo f d CR (by simp[j0];omega)).re b (fun l a=>by simp[j0]at a;rcases a with rfl|rfl<;>exact e);exact b
def Vs{L G gs}(h:Gs L G gs)(a:L.length<=64900)(who c x):∃X,(tX L G who c x).2=L++X:=by
 unfold tX;split;exact((CH G (j0 who c x) L).yo h.wf h.gm CR (by simp[j0];omega)).gn;exact⟨[],Sm⟩
def ZV{L G gs S}(h:Gs L G gs)(c:ny L G S){l}(b:(zM L G l).2.1=0)(i:L.length+l.length<=65536):Gs (zM L G l).2.2.2 G gs/\iz gs (zA (zM L G l).2.2.2 (zM L G l).1):=by
 have⟨X,d⟩:=N0 L G l;have w:=zy h.wf G l;have hi:=jXG h.wf h.gm l i b;have g:Gs (zM L G l).2.2.2 G gs:=by rw[d]at w|-;exact h.gn w
 have f:=jTG h.wf c l b;have a:ny (zM L G l).2.2.2 G S:=by rw[d];exact c.gn
 refine⟨g,?_⟩;have:=(FJ g.wf g.gm hi).1<|f.mono fun t ht=>(a.wC t).1 ht;rwa [g.e]at this
def VF{L G gs S}(h:Gs L G gs)(b:yP L)(i:ny L G S){l}(c:∀o∈l,qW o.num)(f:L.length+l.length<=65536)(a:(xO L G l).2.1=0):
  ∃t,(xO L G l).1=qD (xO L G l).2.2.2 t/\(qD (xO L G l).2.2.2 t).length<=4096/\al (xO L G l).2.2.2 t=true/\Gs (xO L G l).2.2.2 G gs/\iz gs (zA (xO L G l).2.2.2 t)/\yP (xO L G l).2.2.2/\(xO L G l).2.2.2.length<=L.length+256:=by
 have⟨e,_,_⟩:=Hk h.wf b G c a
 have n1:=uG b G c
 have k:=Nb L G l
 have⟨g,d⟩:=ZV h i e f
 unfold xO at a|-
 rw[if_neg<|by simpa using e]at a|-
 have⟨i1,i2,j⟩:=MF a
 exact⟨_,j,i2,i1,g,d,n1,Sy⟩
def TJ{L G gs}(g:Gs L G gs)(f:yP L)(i:G.Nodup)(u:L.length<=60000){t bs}(ht:al L t=true)(m:bs=qD L t)(c:bs.length<=4096)(n:iz gs (zA L t)):
  (vS (vL L G).1 (vL L G).2 bs).2.2=true/\∃a,Gs (vS (vL L G).1 (vL L G).2 bs).1 (vS (vL L G).1 (vL L G).2 bs).2.1 a/\(vS (vL L G).1 (vL L G).2 bs).1.length<=L.length/\Au gs a/\∀y,mw a y->∃s,al L s=true/\zA L s=y:=by
 have⟨p,o,r,q⟩:=IN g.wf f G i g.gm
 have sm:ll (vL L G).1 L (vL L G).2 G:=⟨p,g.wf,o,f,q,r⟩
 have⟨k,s1,_⟩:=sm.yj bs Om
 have hh:vS L G bs=(L,ic G t,true):=by
  unfold vS;rw[m,(PX g.wf f ht (by rw[<-m];exact c)).1];simp only[ne_eq,not_true_eq_false,if_false];rw[tV ht]
 rw[hh]at k s1
 have hm:∀x,x∈ic G t↔x∈G\/x=t:=fun x=>y8
 have hi:∀x∈ic G t,al L x=true:=fun x d=>((hm x).1 d).elim (g.gm x) fun e=>e▸ht
 have j:Gs L (ic G t) ((ic G t).map<|zA L):=⟨g.wf,hi,rfl⟩
 refine⟨k,(ic G t).map<|zA L,⟨s1.wl,s1.g.l,s1.g.e⟩,s1.len,YH n (fun y b=>?_) fun y b=>?_,fun y b=>?_⟩
 rw[<-g.e]at b
 obtain⟨x,d,rfl⟩:=mem_map.1 b
 exact mem_map.2 ⟨x,(hm x).2<|.inl d,rfl⟩
 obtain⟨x,d,rfl⟩:=mem_map.1 b
 rw[mem_append,mem_singleton,<-g.e]
 rcases(hm x).1 d with h|rfl
 exact .inl<|mem_map.2 ⟨x,h,rfl⟩
 exact .inr rfl
 have⟨s,h1,h2,_⟩:=Io j.wf j.gm b
 exact⟨s,h1,h2⟩
def Z4{L}(f:Wf L){t}(ht:al L t=true){l}(h:ri L t=(l,true)):(l.ay=0\/l.ay=1)/\(l.dz=false->zA L t=zU l false false):=by
 have d:AD (zA L t) l:=by
  unfold ri at h;split at h;cases(Prod.mk.inj h).2;rename_i h2;have:=Wb f ht (by simpa using h2);rwa [(Prod.mk.inj h).1]at this
 have⟨c,a,b,_,e⟩:=d;refine⟨(Gf c).1,fun g=>?_⟩;rw[e];unfold zU;simp[g]
end Go.Proofs
end
section
open Go Go.SE List
namespace Go.SE
def Tk.Un{A:pY}{j H:NP}{g w c:World}(a:kg A)(h:Tk H A j g w)(E:Pure w c):∃b,A c b/\(∀y,b y->y<w.heap.size)/\∀{A':pY} {w'},Tn A' b c w'->Tk H A' j g w'/\aj H c w':=by
 have⟨b,f,d,k⟩:=h.one;exact⟨b,a.ext f E fun _ _ h=>h,a.lt f,fun {A' w'} ⟨F',m,i,n⟩=>⟨(k ⟨F',m,(ab.pure E).trans i,fun y e=>(n y e).imp id fun h=>Nat.le_trans E.size h⟩).1,i.bl fun y e l=>(d y l).2 e⟩⟩
def dn.up{S b:NP}{w sz s rs}(h:dn S w sz s rs)(c:∀y,S y->b y):dn b w sz s rs:=
 ⟨h.len,fun i hi=>let ⟨a,h1,h2,h3⟩:=h.at_ i hi;⟨a,h1,c _ h2,h3⟩⟩
end Go.SE
namespace Go.Proofs
open Tryz
attribute [local irreducible] Calls
def gr.fh{w f L G a b F}(h:gr w f L G a b F):∃S,ny L G S:=by
 have⟨_,_,S,_,_,h,_⟩:=h;exact⟨S,h.ok⟩
theorem jKT {S S2:NP} (l1:Sl) (ls:List Act) (so:Sl) (ops:List Op) (who c:Int) (x:ByteArray) (hc:qW c) (w0:World) (hL:dn S w0 9 l1 (ls.map pT)) (hok:∀y∈ls,uc S w0 y) (hS:∀y,S y→y<w0.heap.size)
  (hO:dn S2 w0 5 so (ops.map pn)) (hS2:∀y,S2 y→y<w0.heap.size) (hN:∀o∈ops,qW o.num) (hfew:ops.length≤1048576) (htx:∀o∈ops,o.ba.size≤1048576) :
  Calls prog 4 #[l1.v,so.v,.agg #[.int .i64 who,.int .u64 c,.string x]] w0 (fun e w'=>∃r:Bool,e=.returned (.bool r)∧(r=true∧Pure w0 w')):=by
 suffices key:∀K:Bool→WP,(∀w',Pure w0 w'→K true w')→IY l1 so who c x w0 K from
  Uj _ _ _ _ _ w0 _ (key _ (fun _ h=>⟨rfl,h⟩))
 intro Q hQ
 have hll:l1.len=ls.length:=by rw [hL.len];simp
 have live:∀H w,Pure w0 w→Calls prog 8 #[] w (fun e w2=>∃r1:Bool,e=.returned (.bool r1)∧aj H w w2∧Q r1 w2):=fun H w E=>by
  refine (jRB w).mono ?_;rintro _ w5 ⟨_,rfl,rfl,E5⟩;exact ⟨_,rfl,E5.bo,hQ _ (E.trans E5)⟩
 unfold IY
 intro H1 w1 hs1
 have E1:=hs1.first
 refine (JB l1 ls w1 (hL.pure E1) (fun y hy=>(hok y hy).ext E1 (fun _ _ h=>h))).mono ?_
 rintro _ w2 ⟨hg,rfl,hsm,E2⟩
 have J9:∀q H w,Pure w0 w→(q=false→G6 ls∧ops.length≤265)→EE l1 so who c x q w0 H w Q:=by
  intro q H w E hq H3 w3 hs3;have E3:=E.aq hs3;unfold Ht;refine ⟨fun _=>live _ _ E3,fun hx=>?_⟩;obtain ⟨hsm,h265⟩:=hq (by grind);clear hq hx;refine (G5 w3).mono ?_;rintro _ w4 ⟨_,rfl,f,F,rfl,hf,E4,nf⟩;refine ⟨_,rfl,E4.bo,?_⟩;refine (Vr w4).mono ?_;rintro _ w5 ⟨_,rfl,r,F2,rfl,hr,E5,nr⟩;refine ⟨_,rfl,E5.bo,?_⟩;have h0:St ls r w0 0 H3 f w5:=St.start E3 hs3.lt hf E4 nf hr E5 nr;clear hf hr nf nr E4 E5;refine ⟨fun o i H w=>∃n f,i=((n:Nat):Int)∧n≤ls.length∧o=some f∧St ls r w0 n H f w,fun _ i _=>((ls.length:Int) - i).toNat,⟨0,f,rfl,Nat.zero_le _,rfl,h0⟩,?_⟩;rintro _ _ Hl wl hsl ⟨n,f,rfl,hn,rfl,aq⟩;have El:=aq.pure;unfold NN;refine ⟨fun hlt=>⟨fun h=>(by cases h),fun _=>?_⟩,fun hlt=>⟨fun h=>(by cases h),fun _=>?_⟩⟩
  ·have hlt:=vW hll hlt;obtain ⟨a1,hat,_,hrow⟩:=(hL.pure El).mm hlt;refine ⟨a1,hat,_,_,_,_,_,_,_,_,_,hrow,?_⟩;refine (RP hok hS hsm hlt aq).mono ?_;rintro _ w6 ⟨_,_,rfl,kp,rfl,f',rfl,hst'⟩;refine ⟨_,_,rfl,kp,fun h=>(by cases h),fun _ H2 w7 hs7=>?_⟩;unfold H0;rw [zN hlt (by have:=hsm.fm;omega)];exact ⟨⟨n+1,f',rfl,hlt,rfl,hst'.aq hs7⟩,yY hlt⟩
  obtain ⟨L,M,G,K,a,b,T,sim,hM⟩:=aq;have hM6:M.length≤48000:=by have:=PS ls n;have:=hsm.bytes;have:=hsm.fm;omega
  have hl:L.length≤48000:=by have:=sim.len;omega
  have g0:Gs L G (G.map (zA L)):=⟨sim.wl,sim.g.l,rfl⟩;generalize G.map (zA L)=gs at g0;intro p2 w7 h7;obtain ⟨s1,w8,hr8,R8,E8,_,hnb,hk8⟩:=NY (hO.pure El) (by omega) h7;refine ⟨s1,w8,hr8,hk8 Hl hsl.lt,?_⟩;obtain ⟨F1,hf,d1,k1⟩:=T.lP vO qw E8;obtain ⟨SK,hk⟩:=gr.fh hf;have hnd:=hf.pI.1;refine (MZ f s1 ops w8 hf (uG sim.nl G hN) R8.ei (fun y hy=>⟨R8.lt hy,fun hF=>?_⟩) (by omega)).mono ?_
  ·have:=hnb y hy;have:=d1 y hF;omega
  rintro _ w9 ⟨_,_,_,rfl,rfl,rfl,rfl,t9⟩;have hsay:=VF g0 sim.nl hk hN (by omega);generalize xO L G ops=q at *;obtain ⟨bs,er,at_,L'⟩:=q;simp only at t9 hsay ⊢;obtain ⟨T9,kp9⟩:=k1 (A':=gj f L' G a b) t9;have T9:Tk Hl (gj f L' G a b) ar w0 w9:=T9.sub ez.fst;refine ⟨_,_,_,rfl,kp9,fun _ w10 hs10=>live _ _ (T9.aq vO hs10).fr,fun h0 w10 hs10=>?_⟩;obtain ⟨t,hb,hlen,ti,g1,hd,n1,f1⟩:=hsay (by simpa using h0);have T10:=T9.aq vO hs10;clear hf k1 d1 t9 T9 hs10;obtain ⟨c1,w12,hr12,E12,hs12,_⟩:=Ie (P:=prog) (src:=9) (dst:=59) underlying9 underlying59 underlying5 w10 ⟨bs.toArray⟩;refine ⟨c1,w12,hr12,E12.bo,?_⟩;refine (Mh c1 bs w12 (by simpa using hs12)).mono ?_;rintro _ w13 ⟨o,y,z,rfl,hy,hz,hout,E13⟩;obtain ⟨q,rq,wq,_,tq⟩:=Fx g1.wf n1 ti hlen;rw [← hb] at rq;unfold DN at hout;rw [rq] at hy hout;subst hy;obtain ⟨p,Fq,rfl,hPq,_⟩:=hout.1 q rfl;have hPq':=hPq;obtain ⟨v1,v2,v3,hv,_⟩:=hPq';have hv1:v1.len=q.length:=by rw [hv.r1.len];simp
  refine ⟨_,_,_,rfl,E13.bo,fun h=>absurd h (by simp),fun _=>⟨p,rfl,v1,hv.box.bd,?_⟩⟩;rw [hv1];refine (jQT p wq _ (q.length:Int) w13 Fq rfl hPq).mono ?_;rw [tq];rintro _ w25 ⟨s5,rfl,hT,E25⟩;have hknow:∀{y},iz gs y→∀{M:av},Gs M G gs→(∃s,al M s=true∧zA M s=y)→(of M y).2.2=M∧FA M G y:=fun {y} hy {M} gM ⟨s,h1,h2⟩=>by
   have e:=YL gM.wf h1;rw [h2] at e;unfold FA;rw [e];refine ⟨rfl,rfl,?_⟩;rw [FJ gM.wf gM.gm h1,h2,gM.e];exact hy
  obtain ⟨e25,k25⟩:=hknow hd g1 ⟨t,ti,rfl⟩;generalize hTT:zA L' t=TT at *;obtain ⟨k,fr,to,u,tx,ks⟩:=TT;refine ⟨_,_,_,_,_,_,rfl,E25.bo,?_⟩;have T13:=(T10.pure vO E12).pure vO E13;obtain ⟨F5,hf5,d5,k5⟩:=T13.Un vO E25;refine (Qj f k fr to u tx ks s5 w25 hf5 hT.lt (fun y hy=>⟨hy.2,fun h=>by have:=d5 y h;omega⟩)).mono ?_;rintro _ w26 ⟨r22,rfl,hr22,t26⟩;rw [e25] at t26;obtain ⟨T26,kp26⟩:=k5 t26;have:r22=true:=hr22.2 k25;subst this;refine ⟨_,rfl,kp26,?_⟩;clear hT hv hPq hs12 k5 t26 hf5 d5 T13 T10;unfold Ep;refine Br.f rfl ⟨fun _=>True,trivial,?_⟩;rintro w14 rfl;have T14:=T26.pure vO (ab.drew w26);obtain ⟨F6,hf6,_,k6⟩:=T14.one;refine (Hf f who c x _ hf6).mono ?_;rintro _ w15 ⟨r13,rfl,hb13,t15⟩;obtain ⟨T15,kp15⟩:=k6 t15;refine ⟨_,rfl,trivial,kp15,?_⟩;have hb13:r13=true↔vc gs who c x:=by rw [hb13,Bz g1.wf g1.gm (by omega) who c x,g1.e]
  obtain ⟨X,hX⟩:=Vs g1 (by omega) who c x;have n2:=zBZ g1.wf g1.gm (by omega) (who:=who) (x:=x) n1 hc;obtain ⟨g2,f2⟩:=g1.Fl (by omega) who c x;have ti2:al (tX L' G who c x).2 t=true:=by rw [hX];exact uF ti
  have tt2:zA (tX L' G who c x).2 t=zA L' t:=by
   have:=g2.wf;rw [hX] at this ⊢;exact Bo this ti
  have tb2:bs=qD (tX L' G who c x).2 t:=by rw [hb];exact FI g1.wf g2.wf ti ti2 tt2.symm
  rw [← hTT,← tt2] at hd;clear hX;generalize (tX L' G who c x).2=L1 at *;obtain ⟨F7,hf7,_,k7⟩:=T15.one;refine (Hy f who w15 hf7).mono ?_;rintro _ w16 ⟨_,rfl,rfl,E16⟩;refine ⟨_,rfl,trivial,E16.bo,?_⟩;have T16:=T15.pure vO E16;obtain ⟨F8,hf8,_,k8⟩:=T16.one;refine (OR f w16 hf8 n2).mono ?_;rintro _ w17 ⟨_,rfl,cc,Fc,rfl,hcp,E17,hn17⟩;have T17:=T16.aw vO (C:=gj cc _ _ _ _) hcp E17 hn17;refine ⟨_,rfl,E17.bo,Br.f rfl ?_⟩;obtain ⟨h2,gs2,g3,f3,jNJ,aq⟩:=TJ g2 n2 hnd (by omega) ti2 tb2 (by rw [hb];exact hlen) hd;obtain ⟨F9,hf9,_,k9⟩:=T17.l vO vO;refine (Cs cc ⟨bs.toArray⟩ w17 hf9).mono ?_;rintro _ w24 ⟨_,rfl,rfl,t24⟩;obtain ⟨T24,kp24⟩:=k9 (A':=gj cc _ _ _ _) t24;refine ⟨_,rfl,kp24,?_⟩;have eb:(⟨bs.toArray⟩:ByteArray).data.toList=bs:=by simp
  rw [eb] at T24 ⊢;rw [h2];generalize (vS (vL L1 G).1 (vL L1 G).2 bs)=q3 at *;obtain ⟨L3,G3,_⟩:=q3;simp only at T24 g3 f3 ⊢;unfold DY;refine Br.f rfl ?_;obtain ⟨F10,hf10,_,k10⟩:=T24.l vO vO;refine (Hf cc who c x w24 hf10).mono ?_;rintro _ w23 ⟨r20,rfl,hb20,t23⟩;obtain ⟨T23,kp23⟩:=k10 t23;have hb20:r20=true↔vc gs who c x:=by rw [hb20,Bz g3.wf g3.gm (by omega) who c x,g3.e];exact jNJ.binds
  have:r20=r13:=Bool.eq_iff_iff.2 (hb20.trans hb13.symm);subst this;refine ⟨_,rfl,kp23,?_⟩;unfold Ef;refine Br.f (by simp) ?_;obtain ⟨g4,f4⟩:=g3.Fl (by omega) who c x;generalize (tX L3 G3 who c x).2=L4 at *;obtain ⟨F11,hf11,_,k11⟩:=T23.l vO vO;refine (Hy cc who w23 hf11).mono ?_;rintro _ w22 ⟨_,rfl,rfl,E22⟩;refine ⟨_,rfl,E22.bo,?_⟩;have hfr:tu L4 G3 who=tu L1 G who:=Bool.eq_iff_iff.2 (by
   have h1:=DH g4.wf g4.gm who;have h2:=DH g2.wf g2.gm who;rw [g4.e] at h1;rw [g2.e] at h2;rw [h1,h2];exact jNJ.free)
  unfold DB;refine Br.f (by rw [hfr];simp) ?_;have T22:=T23.pure (vO.vk vO) E22;obtain ⟨F12,hf12,_,k12⟩:=T22.l vO vO;refine (Zq cc w22 hf12).mono ?_;rintro _ w18 ⟨s,rfl,ms,hs,⟨_,hml⟩,hmn⟩;have hsl:s.len=ms.length:=by rw [hs.cj.len];simp
  have T18:Tk Hl (ez (sW 35 5 s (ms.map jh)) (gj f L1 G a b)) ar w0 w18:=(T22.sT.sub ez.fst).aw vO (C:=sW 35 5 s (ms.map jh)) (F:=s.ao) ⟨hs.cj,fun _=>Iff.rfl⟩ hs.pure hs.ak;refine ⟨s,rfl,hs.bl,fun i H w=>∃j:Nat,i=j∧j≤ms.length∧Tk H (ez (sW 35 5 s (ms.map jh)) (gj f L1 G a b)) ar w0 w,fun i _=>((ms.length:Int) - i).toNat,⟨0,rfl,Nat.zero_le _,T18⟩,?_⟩;rintro _ H2 w hs2 ⟨j,rfl,hj,TT⟩;have clS:=yw (e:=35) (sz:=5) (s:=s) (rs:=ms.map jh);unfold N1;refine ⟨fun hlt=>?_,fun _=>live _ _ TT.fr⟩;have hlt:=vW hsl hlt;have TT':=TT;obtain ⟨_,⟨_,_,hR,_⟩,_⟩:=TT';obtain ⟨a2,hat,hrow⟩:=hR.1.mm hlt;obtain ⟨t',hs',hrd⟩:=(hml ms[j]).1 (List.getElem_mem hlt);have hnext:∀w',Tk H2 (ez (sW 35 5 s (ms.map jh)) (gj f L1 G a b)) ar w0 w'→(∃j':Nat,IntKind.i64.wrap ((j:Int)+1)=j'∧j'≤ms.length∧Tk H2 (ez (sW 35 5 s (ms.map jh)) (gj f L1 G a b)) ar w0 w')∧((ms.length:Int) - IntKind.i64.wrap ((j:Int)+1)).toNat<((ms.length:Int) - j).toNat:=fun w' h=>by
   rw [zN hlt (by omega)];exact ⟨⟨j+1,rfl,hlt,h⟩,yY hlt⟩
  generalize ms[j]=m at *;have hi:=(Nh g4.wf g4.gm hs').1;obtain ⟨hfr2,htr⟩:=Z4 g4.wf hi hrd;refine ⟨a2,hat,m.dz,by have:=hrow 4 (by simp [jh]);simpa [jh] using this,fun hfk=>?_,fun _=>hnext _ TT⟩;have hS:=(BV g4.wf g4.gm hi).1 hs';rw [g4.e,htr (by simpa using hfk)] at hS;obtain ⟨ek,kk⟩:=hknow (jNJ.l _ hS) g2 (aq _ hS);refine ⟨a2,hat,_,_,_,_,_,hrow,?_⟩;refine (N7 w.heap.size m.kind m.ay m.c m.ba m.dz false false w (Nat.le_refl _) hfr2).mono ?_;rintro _ w19 ⟨s6,rfl,hT6,E19⟩;generalize zU m false false=TR at *;obtain ⟨k,fr,to,u,tx,ks⟩:=TR;refine ⟨_,_,_,_,_,_,rfl,E19.bo,?_⟩;obtain ⟨F20,hf20,d20,k20⟩:=TT.sT.lP vO clS E19;refine (Qj f k fr to u tx ks s6 w19 hf20 hT6.lt (fun y hy=>⟨hy.2,fun h=>by have:=d20 y h;omega⟩)).mono ?_;rintro _ w20 ⟨r17,rfl,hr17,t20⟩;rw [ek] at t20;obtain ⟨T20,kp20⟩:=k20 t20;have:r17=true:=hr17.2 kk;subst this;exact ⟨_,rfl,kp20,Br.f rfl (hnext _ T20.sT)⟩
 refine ⟨_,rfl,E2.bo,fun _=>J9 true H1 w2 (E1.trans E2) (fun h=>by cases h),fun hg0=>?_⟩
 intro p3 w29 h29
 have E29:Pure w0 w29:=(E1.trans E2).trans (ab.aw h29)
 have R:=bf.lit (rs:=[pT ⟨0,⟨#[]⟩,⟨0,0,0,⟨#[]⟩,false⟩,0,so,ops⟩]) h29 rfl (by intro q hq;simp at hq;subst hq;rfl) (by simp [maxLen])
 refine (JB ⟨some p3,1,1⟩ [⟨0,⟨#[]⟩,⟨0,0,0,⟨#[]⟩,false⟩,0,so,ops⟩] w29 (S:=(·<w29.heap.size)) (R.ei.up (fun y hy=>R.lt hy)) (fun y hy=>?_)).mono ?_
 ·simp at hy;subst hy
  exact ⟨by simp [qW],hN,(hO.pure E29).up (fun y hy=>by have:=hS2 y hy;have:=E29.size;omega),Nat.zero_le _,Nat.zero_le _,hfew,htx⟩
 rintro _ w30 ⟨g2,rfl,hsm2,E30⟩
 exact ⟨_,rfl,E30.bo,J9 _ H1 w30 (E29.trans E30) (fun h=>⟨hsm hg0,(hsm2 h).ops ⟨0,⟨#[]⟩,⟨0,0,0,⟨#[]⟩,false⟩,0,so,ops⟩ (List.mem_singleton.2 rfl)⟩)⟩
end Go.Proofs
end
section
namespace Go.SE
open Go.ChangeShapes Go.WideShapes Go.ChangeAt Go.RowKit
section
variable {H:Type} {enc:TypeId×Value->H} {P:Program}
def NI(i:laidOutB P=true){W W'}(j:Below W.heap.size W W'):∀(ts:List TypeId) (vs:List Value) (ds:List (DataW H)) (g:List MemPlace),(ts.all fun t=>P.readableRec t && decide (t<P.types.size))=true ->
  DataW.TrodAll enc P W 0 (fun _=>true) true ts vs ds g->(∀x∈g,x.block<W.heap.size)->DataW.TrodAll enc P W' 0 (fun b=>decide (b<W.heap.size)) true ts vs ds g
 |[],_,_,_,_,h,_=>by
  obtain⟨rfl,rfl,rfl⟩:=trodAll_nil h;exact h
 |t :: ts,_,_,_,hr,h,e=>by
  obtain⟨v,c,d,f,a,b,rfl,rfl,rfl,h1,h2⟩:=trodAll_cons h;simp only[List.all_cons,Bool.and_eq_true,decide_eq_true_eq]at hr;exact⟨a,b,Below.trod i hr.1.1 hr.1.2 h1 j Gd,NI i j ts c f b (by simpa using hr.2) h2 fun x k=>e x<|by simp[k],rfl⟩
def Rj{f}{s:ChangeSpec}{W W' args}{ds B:List (DataW H)}{e:List MemPlace}{t}(z:laidOutB P=true)(u:s.vars=[])(I:∀ds:List (DataW H),ds.length=f.params.size->s.fn H ds={ results:=[.lit<|.bool true],args:=ds })(n:f.resultTypes=#[t])(ht:P.underlying t=some .bool)(hr:(f.params.toList.all fun t=>P.readableRec t && decide (t<P.types.size))=true)(w:DataW.Whole enc P f.params.toList s.vars false W args.toList ds B e)(E:Pure W W'):
  s.post enc P f false true false false W args (.bool true) W':=by
 have g:=w
 obtain⟨p,q,r,l,rfl,A,F⟩:=w
 rw[u]at l
 obtain⟨rfl,rfl⟩:=trodVars_none l
 have i:ds.length=f.params.size:=by
  have:∀(ts:List TypeId) (vs:List Value) (ds:List (DataW H)) (o:List MemPlace),DataW.TrodAll enc P W 0 (fun _=>true) true ts vs ds o->ds.length=ts.length:=by
   intro ts;induction ts with
   |nil=>intro vs ds o h;obtain⟨_,rfl,_⟩:=trodAll_nil h;rfl
   |cons t ts G =>
    intro vs ds o h
    obtain⟨v,y,d,C,a,b,_,rfl,_,_,h2⟩:=trodAll_cons h
    simp[G _ _ _ h2]
  simpa using this _ _ _ _ r
 have m:=I ds i
 have c:s.fn H (ds++[])={ results:=[.lit<|.bool true],args:=ds }:=by rw[List.append_nil];exact m
 have k:∀x∈p,x.block<W.heap.size:=fun x D=>by simpa using g.lt x (by simp[D])
 have j:=E.below
 refine⟨ds,[],p++[],[],p,[],g,?_,?_,?_,j.frame _,fun h=>by cases h⟩
 rw[c,n];exact trodAll_mk1<|shut_bool ht _
 rw[c];exact NI z j _ _ _ _ hr r k
 rw[c,u];exact l
end
end Go.SE
namespace Go.SE
open Go.ChangeShapes Go.WideShapes Go.ChangeAt Go.RowKit
section
variable {P:Program} {W:World} {r:Reach} {b0:Nat} {t:TypeId} {v:Value}
def Yz{fs:Array Field}{ts:List TypeId}(ht:P.underlying t=some (.struct fs))(k:P.cellTypes P.depth t=some ts)(l:P.cellsOf t=ts.length)(h:Value.okWide P W r b0 t v):
  ∃cs:Array Value,v=.agg cs/\cs.size=ts.length/\∀(i:Nat) (u:TypeId) (c:Value),ts[i]?=some u->cs[i]?=some c->Cell.okWide P W r b0 u c:=by
 unfold Value.okWide at h
 rw[ht]at h
 obtain⟨cs,rfl,hs,j,a,_,d⟩:=h
 rw[k]at a
 cases a
 refine⟨cs,rfl,hs.trans l,fun i u c g fa=>?_⟩
 have⟨m,b,f⟩:=d i c fa
 have e:i<ts.length:=(List.getElem?_eq_some_iff.1 g).1
 rw[Nat.mod_eq_of_lt e,g]at b
 cases b
 exact f
def Ls{e}(ht:P.underlying t=some (.slice e))(h:Value.okWide P W r b0 t v):∃a n c,v=.slice a n c:=by
 unfold Value.okWide at h;rw[ht]at h;simp only at h;unfold Cell.okWide at h;rw[ht]at h;cases v<;>simp[Cell.ok,ht]at h;exact⟨_,_,_,rfl⟩
end
end Go.SE
end
section
open Go Go.SE List
namespace Go.Proofs
theorem Cb{α β:Type}{f:α->Option β}:∀{l:List α} {r:List β},l.mapM f=some r->r.length=l.length/\∀(i:Nat) (a:α),l[i]?=some a->∃b,f a=some b/\r[i]?=some b
 |[],r,h=>Gd
 |x :: xs,r,h=>by
  rw[mapM_cons]at h;cases d:f x with
  |none=>simp[d]at h
  |some y =>
   cases c:xs.mapM f with
   |none=>simp[d,c]at h
   |some g =>
    have:r=y ::g:=by simpa[d,c]using h.symm
    subst this
    have⟨h1,h2⟩:=Cb c
    refine⟨by simp[h1],fun i a e=>?_⟩
    cases i with
    |zero=>cases e;exact⟨y,d,rfl⟩
    |succ i=>exact h2 i a (by simpa using e)
theorem W1{w ew a n cs}(h:w.cells? ew a n=some cs):cs.length=n/\Row w a cs:=by
 have⟨_,h1,h2⟩:=World.cells?_some h;exact⟨h1,fun j b=>h2 j Om⟩
section
variable {H:Type} {enc:TypeId×Value->H} {P:Program} {W:World} {ew:Nat} {sp:Nat->Bool} {held:Bool}
theorem tF{t k}(ht:P.underlying t=some (.int k)){n c}{x:DataW H×List MemPlace}(h:DataW.trod enc P W ew sp held n t [c]=some x):∃m,c=.int k m:=by
 cases n with
 |zero=>cases h
 |succ n =>
  rw[DataW.trod_step]at h
  unfold DataW.trodStep at h
  rw[ht]at h
  cases c<;>simp at h
  obtain⟨⟨rfl,_⟩,_⟩:=h
  exact⟨_,rfl⟩
theorem ID{t}(ht:P.underlying t=some (.int .u64)){n c}{x:DataW H×List MemPlace}(h:DataW.trod enc P W ew sp held n t [c]=some x):∃m,c=vu m/\qW m:=by
 cases n with
 |zero=>cases h
 |succ n =>
  rw[DataW.trod_step]at h
  unfold DataW.trodStep at h
  rw[ht]at h
  cases c with
  |int k z =>
   simp only at h
   split at h
   rename_i a
   obtain⟨rfl,a⟩:=a
   have h1:IntKind.u64.min=0:=by rfl
   have h2:IntKind.u64.max=18446744073709551615:=by rfl
   simp only[Lit.wf,Bool.and_eq_true,decide_eq_true_eq,h1,h2]at a
   exact⟨z,rfl,Om,Om⟩
   cases h
  |_=>simp at h
theorem jYU{t}(ht:P.underlying t=some .string){n c}{x:DataW H×List MemPlace}(h:DataW.trod enc P W ew sp held n t [c]=some x):∃m,c=vs m:=by
 cases n with
 |zero=>cases h
 |succ n =>
  rw[DataW.trod_step]at h
  unfold DataW.trodStep at h
  rw[ht]at h
  cases c<;>simp at h
  exact⟨_,rfl⟩
end
section
variable {H:Type} {enc:TypeId×Value->H} {P:Program} {W:World} {ew:Nat} {sp:Nat->Bool} {held:Bool}
theorem ZR{a v vs}(h:Row W a (v ::vs)):a.block<W.heap.size:=by
 have:=h 0 Sm;have:=World.block_lt_of_cell? W (a.add 0) this;rwa [zC]at this
theorem jSB{t}{fs:Array Field}(ht:P.underlying t=some (.struct fs)){n cs}{x:DataW H×List MemPlace}(h:DataW.trod enc P W ew sp held n t cs=some x):
  ∃m,cs.length=P.cellsOf t/\∀(i:Nat) (f:Field),fs.toList[i]?=some f->∃y,DataW.trod enc P W ew sp held m f.type ((cs.drop f.offset).take<|P.cellsOf f.type)=some y:=by
 cases n with
 |zero=>cases h
 |succ n =>
  rw[DataW.trod_step]at h
  unfold DataW.trodStep at h
  rw[ht]at h
  simp only at h
  split at h
  rename_i a
  cases hm:fs.toList.mapM (fun f=>DataW.trod enc P W ew sp held n f.type<|(cs.drop f.offset).take<|P.cellsOf f.type)with
  |none=>rw[hm]at h;cases h
  |some r =>
   refine⟨n,a,fun i f c=>?_⟩
   have⟨b,d,_⟩:=(Cb hm).2 i f c
   exact⟨b,d⟩
  cases h
end
section
variable {H:Type} {enc:TypeId×Value->H} {W:World} {ew:Nat} {sp:Nat->Bool} {held:Bool}
end
end Go.Proofs
end
section
open Go Go.SE List
namespace Go.Proofs
open Tryz
section
variable {H:Type} {enc:TypeId×Value->H} {P:Program} {W:World} {ew:Nat} {sp:Nat->Bool} {held:Bool}
theorem Vt{t}(ht:P.underlying t=some .bool){n c}{x:DataW H×List MemPlace}(h:DataW.trod enc P W ew sp held n t [c]=some x):∃m,c=vb m:=by
 cases n with
 |zero=>cases h
 |succ n =>
  rw[DataW.trod_step]at h
  unfold DataW.trodStep at h
  rw[ht]at h
  cases c<;>simp at h
  exact⟨_,rfl⟩
end
set_option maxRecDepth 100000 in
theorem zES{H:Type}{enc:TypeId×Value->H}{W:World}{ew:Nat}{sp:Nat->Bool}{held:Bool}{n:Nat}{cs:List Value}{x:DataW H×List MemPlace}(h:DataW.trod enc prog W ew sp held n 25 cs=some x):∃who c:Int,∃y:ByteArray,cs=[vi who,vu c,vs y]/\qW c:=by
 have⟨m,b,a⟩:=jSB underlying25 h;rw[show(prog.cellsOf 25)=3 by kernel_rfl]at b;match cs,b with
 |[c0,j,i],_ =>
  have⟨_,d⟩:=a 0 _ rfl
  have⟨_,h1⟩:=a 1 _ rfl
  have⟨_,h2⟩:=a 2 _ rfl
  simp only[show(prog.cellsOf 3)=1 by kernel_rfl,show(prog.cellsOf 23)=1 by kernel_rfl,show(prog.cellsOf 9)=1 by kernel_rfl]at d h1 h2
  obtain⟨f,rfl⟩:=tF underlying3 d
  obtain⟨g,rfl,hm⟩:=ID underlying23 h1
  obtain⟨e,rfl⟩:=jYU underlying9 h2
  exact⟨f,g,e,rfl,hm⟩
end Go.Proofs
end
section
open Go Go.SE List
namespace Go.Proofs
end Go.Proofs
end
section
open Go Go.SE List
namespace Go.Proofs
open Tryz
structure Gg{H:Type}(B:DataW H->Nat):Prop where
 Wt:∀l,l.length<=B (.lit<|.string l)
 agg:∀{ps d},d∈ps->B d<=B (.agg ps)
 elem:∀{es sp d},d∈es->B d<=B (.slice es sp)
 len:∀es sp,es.length<=B (.slice es sp)
section
variable {H:Type} {enc:TypeId×Value->H} {P:Program} {W:World} {ew:Nat} {sp:Nat->Bool} {held:Bool} {B:DataW H->Nat} (hB:Gg B) {N:Nat}
include hB
theorem Jr{t}(ht:P.underlying t=some .string){n c}{x:DataW H×List MemPlace}(h:DataW.trod enc P W ew sp held n t [c]=some x)(a:B x.1<=N):∃m:ByteArray,c=.string m/\m.size<=N:=by
 cases n with
 |zero=>cases h
 |succ n =>
  rw[DataW.trod_step]at h
  unfold DataW.trodStep at h
  rw[ht]at h
  cases c<;>simp at h
  rename_i m
  obtain⟨_,rfl⟩:=h
  have:=hB.Wt m.data.toList
  exact⟨m,rfl,by simp at this;simp only at a;omega⟩
theorem Hm{t}{fs:Array Field}(ht:P.underlying t=some (.struct fs)){n cs}{x:DataW H×List MemPlace}(h:DataW.trod enc P W ew sp held n t cs=some x)(a:B x.1<=N):
  ∃m,cs.length=P.cellsOf t/\∀(i:Nat) (f:Field),fs.toList[i]?=some f->∃y,DataW.trod enc P W ew sp held m f.type ((cs.drop f.offset).take<|P.cellsOf f.type)=some y/\B y.1<=N:=by
 cases n with
 |zero=>cases h
 |succ n =>
  rw[DataW.trod_step]at h
  unfold DataW.trodStep at h
  rw[ht]at h
  simp only at h
  split at h
  rename_i c
  cases hm:fs.toList.mapM (fun f=>DataW.trod enc P W ew sp held n f.type<|(cs.drop f.offset).take<|P.cellsOf f.type)with
  |none=>rw[hm]at h;cases h
  |some r =>
   rw[hm]at h
   cases h
   refine⟨n,c,fun i f d=>?_⟩
   have⟨b,e,hr⟩:=(Cb hm).2 i f d
   exact⟨b,e,Nat.le_trans (hB.agg<|mem_map.2 ⟨b,mem_of_getElem? hr,rfl⟩) a⟩
  cases h
theorem jSA{t e}(ht:P.underlying t=some (.slice e)){n c}{x:DataW H×List MemPlace}(h:DataW.trod enc P W ew sp held (n+1) t [c]=some x)(d:B x.1<=N):
  c=.slice none 0 0\/∃a len cap,c=.slice (some a) len cap/\len<=cap/\len<=N/\∀i,i<len->∃cs y,W.cells? ew (a.add<|i*P.cellsOf e) (P.cellsOf e)=some cs/\DataW.trod enc P W ew sp held n e cs=some y/\B y.1<=N:=by
 rw[DataW.trod_step]at h
 unfold DataW.trodStep at h
 rw[ht]at h
 cases c with
 |slice a len cap =>
  cases a with
  |none =>
   cases len with
   |zero=>cases cap with
    |zero=>exact .inl rfl
    |succ c=>simp at h
   |succ l=>simp at h
  |some a =>
   right
   simp only at h
   split at h
   rename_i j
   cases hm:(range len).mapM fun i=>(W.cells? ew (a.add<|i*P.cellsOf e)<|P.cellsOf e).bind (DataW.trod enc P W ew sp held n e)with
   |none=>rw[hm]at h;cases h
   |some r =>
    rw[hm]at h
    obtain⟨q,_,rfl⟩:=Option.map_eq_some_iff.1 h
    have f:=(Cb hm).1
    simp at f
    have h1:=hB.len (r.map (·.1))<|q.map (·.1)
    rw[length_map]at h1
    refine⟨a,len,cap,rfl,j.2.1,by simp only at d;omega,fun i hi=>?_⟩
    have⟨b,g,hr⟩:=(Cb hm).2 i i (by simp[hi])
    have⟨cs,h1,h2⟩:=Option.bind_eq_some_iff.1 g
    exact⟨cs,b,h1,h2,Nat.le_trans (hB.elem<|mem_map.2 ⟨b,mem_of_getElem? hr,rfl⟩) d⟩
   cases h
 |_=>simp at h
theorem Oc{α:Type}{tS e sz}{f:α->List Value}(hS:P.underlying tS=some (.slice e))(p:P.cellsOf e=sz)(m:∀a,∃v vs,f a=v :: vs)(l:α)(k:∀(n:Nat) (cs:List Value) (x:DataW H×List MemPlace),DataW.trod enc P W ew sp held n e cs=some x->B x.1<=N->∃a,cs=f a){n c}{x:DataW H×List MemPlace}(h:DataW.trod enc P W ew sp held n tS [c]=some x)(o:B x.1<=N):
  ∃s:Sl,∃xs:List α,c=s.v/\dn (fun b=>b<W.heap.size) W sz s (xs.map f)/\xs.length<=N:=by
 cases n with
 |zero=>cases h
 |succ n =>
  rcases jSA hB hS h o with rfl|⟨a,len,cap,rfl,r,j,d⟩
  exact⟨Sl.nil,[],rfl,⟨rfl,fun i hi=>by simp at hi⟩,Nat.zero_le _⟩
  rw[p]at d
  have g:∀i,∃q:α,i<len->Row W (a.add<|i*sz) (f q):=by
   intro i;by_cases hi:i<len;have⟨cs,y,h1,h2,h3⟩:=d i hi;obtain⟨q,rfl⟩:=k n cs y h2 h3;exact⟨q,fun _=>(W1 h1).2⟩;exact⟨l,fun h=>absurd h hi⟩
  have⟨q,t⟩:=Classical.axiomOfChoice g
  refine⟨⟨some a,len,cap⟩,(range len).map q,rfl,⟨Sm,fun i hi=>?_⟩,by simpa using j⟩
  have hi:i<len:=by simpa using hi
  have hr:=t i hi
  have⟨v,vs,e⟩:=m<|q i
  refine⟨a.add<|i*sz,⟨Om,by simpa using hi,a,rfl,Sm⟩,?_,by simpa using hr⟩
  rw[e]at hr;exact ZR hr
end
section
variable {H:Type} {enc:TypeId×Value->H} {W:World} {ew:Nat} {sp:Nat->Bool} {held:Bool} {B:DataW H->Nat} (hB:Gg B) {N:Nat}
include hB
set_option maxRecDepth 100000 in
theorem jSO{n:Nat}{cs:List Value}{x:DataW H×List MemPlace}(h:DataW.trod enc prog W ew sp held n 88 cs=some x)(g:B x.1<=N):∃o:Op,cs=pn o/\qW o.num/\o.ba.size<=N:=by
 have⟨m,b,a⟩:=Hm hB underlying88 h g;rw[show(prog.cellsOf 88)=5 by kernel_rfl]at b;match cs,b with
 |[c0,s,p,r,q],_ =>
  have⟨_,d,_⟩:=a 0 _ rfl
  have⟨_,h1,_⟩:=a 1 _ rfl
  have⟨_,h2,_⟩:=a 2 _ rfl
  have⟨_,h3,_⟩:=a 3 _ rfl
  have⟨_,c,b4⟩:=a 4 _ rfl
  simp only[show(prog.cellsOf 3)=1 by kernel_rfl,show(prog.cellsOf 23)=1 by kernel_rfl,show(prog.cellsOf 9)=1 by kernel_rfl]at d h1 h2 h3 c
  obtain⟨i,rfl⟩:=tF underlying3 d
  obtain⟨l,rfl⟩:=tF underlying3 h1
  obtain⟨f,rfl⟩:=tF underlying3 h2
  obtain⟨j,rfl,hm⟩:=ID underlying23 h3
  obtain⟨k,rfl,e⟩:=Jr hB underlying9 c b4
  exact⟨⟨i,l,f,j,k⟩,rfl,hm,e⟩
set_option maxRecDepth 100000 in
theorem Lk{n:Nat}{c:Value}{x:DataW H×List MemPlace}(h:DataW.trod enc prog W ew sp held n 36 [c]=some x)(d:B x.1<=N):∃s:Sl,∃l:List Op,c=s.v/\dn (fun b=>b<W.heap.size) W 5 s (l.map pn)/\l.length<=N/\∀o∈l,qW o.num/\o.ba.size<=N:=by
 have⟨s,xs,e,i,j⟩:=Oc (α:={o:Op // qW o.num/\o.ba.size<=N}) (sz:=5) (f:=fun o=>pn o.1) hB underlying36 Kf (fun a=>⟨_,_,rfl⟩) ⟨⟨0,0,0,0,⟨#[]⟩⟩,⟨De,De⟩,Nat.zero_le _⟩ (fun _ _ _ h d=>by
  have⟨o,e,g⟩:=jSO hB h d;exact⟨⟨o,g⟩,e⟩) h d
 refine⟨s,xs.map Subtype.val,e,by rw[map_map];exact i,by simpa using j,fun m hm=>?_⟩;obtain⟨y,_,rfl⟩:=mem_map.1 hm;exact y.2
set_option maxRecDepth 100000 in
theorem jKB{n:Nat}{cs:List Value}{x:DataW H×List MemPlace}(h:DataW.trod enc prog W ew sp held n 35 cs=some x)(i:B x.1<=N):∃l:eo,cs=jh l/\qW l.c/\l.ba.size<=N:=by
 have⟨m,b,a⟩:=Hm hB underlying35 h i;rw[show(prog.cellsOf 35)=5 by kernel_rfl]at b;match cs,b with
 |[c0,t,q,s,r],_ =>
  have⟨_,e,_⟩:=a 0 _ rfl
  have⟨_,h1,_⟩:=a 1 _ rfl
  have⟨_,h2,_⟩:=a 2 _ rfl
  have⟨_,h3,b3⟩:=a 3 _ rfl
  have⟨_,d,_⟩:=a 4 _ rfl
  simp only[show(prog.cellsOf 3)=1 by kernel_rfl,show(prog.cellsOf 23)=1 by kernel_rfl,show(prog.cellsOf 9)=1 by kernel_rfl,show(prog.cellsOf 4)=1 by kernel_rfl]at e h1 h2 h3 d
  obtain⟨j,rfl⟩:=tF underlying3 e
  obtain⟨p,rfl⟩:=tF underlying3 h1
  obtain⟨g,rfl,hm⟩:=ID underlying23 h2
  obtain⟨k,rfl,f⟩:=Jr hB underlying9 h3 b3
  obtain⟨o,rfl⟩:=Vt underlying4 d
  exact⟨⟨j,p,g,k,o⟩,rfl,hm,f⟩
set_option maxRecDepth 100000 in
theorem jTW(e:N<=1048576){n:Nat}{cs:List Value}{x:DataW H×List MemPlace}(h:DataW.trod enc prog W ew sp held n 38 cs=some x)(r:B x.1<=N):∃a:Act,cs=pT a/\uc (fun b=>b<W.heap.size) W a:=by
 have⟨m,c,d⟩:=Hm hB underlying38 h r;rw[show(prog.cellsOf 38)=9 by kernel_rfl]at c;match cs,c with
 |[c0,F,C,z,D,E,y,w,A],_ =>
  have⟨_,j,_⟩:=d 0 _ rfl
  have⟨_,h1,b1⟩:=d 1 _ rfl
  have⟨_,h2,b2⟩:=d 2 _ rfl
  have⟨_,h3,_⟩:=d 3 _ rfl
  have⟨_,k,b4⟩:=d 4 _ rfl
  simp only[show(prog.cellsOf 3)=1 by kernel_rfl,show(prog.cellsOf 9)=1 by kernel_rfl,show(prog.cellsOf 35)=5 by kernel_rfl,show(prog.cellsOf 36)=1 by kernel_rfl]at j h1 h2 h3 k
  obtain⟨s,rfl⟩:=tF underlying3 j
  obtain⟨q,rfl,u⟩:=Jr hB underlying9 h1 b1
  have⟨l,c,g,f⟩:=jKB hB h2 b2
  obtain⟨t,rfl⟩:=tF underlying3 h3
  obtain⟨so,ops,rfl,v,i,p⟩:=Lk hB k b4
  simp only[jh,drop,take,List.cons.injEq,and_true]at c
  obtain⟨rfl,rfl,rfl,rfl,rfl⟩:=c
  exact⟨⟨s,q,l,t,so,ops⟩,rfl,g,fun o h=>(p o h).1,v,Nat.le_trans u e,Nat.le_trans f e,Nat.le_trans i e,fun o h=>Nat.le_trans (p o h).2 e⟩
set_option maxRecDepth 100000 in
theorem zJF(k:N<=1048576){n:Nat}{c:Value}{x:DataW H×List MemPlace}(h:DataW.trod enc prog W ew sp held n 22 [c]=some x)(d:B x.1<=N):∃s:Sl,∃l:List Act,c=s.v/\dn (fun b=>b<W.heap.size) W 9 s (l.map pT)/\∀a∈l,uc (fun b=>b<W.heap.size) W a:=by
 have⟨s,xs,e,j,_⟩:=Oc (α:={a:Act // uc (fun b=>b<W.heap.size) W a}) (sz:=9) (f:=fun a=>pT a.1) hB underlying22 Kf (fun a=>⟨_,_,rfl⟩) ⟨⟨0,⟨#[]⟩,⟨0,0,0,⟨#[]⟩,false⟩,0,Sl.nil,[]⟩,⟨De,De⟩,Sm,⟨rfl,fun i hi=>by simp at hi⟩,Nat.zero_le _,Nat.zero_le _,Nat.zero_le _,Sm⟩ (fun _ _ _ h d=>by
  have⟨a,e,g⟩:=jTW hB k h d;exact⟨⟨a,g⟩,e⟩) h d
 refine⟨s,xs.map Subtype.val,e,by rw[map_map];exact j,fun m hm=>?_⟩;obtain⟨y,_,rfl⟩:=mem_map.1 hm;exact y.2
end
end Go.Proofs
end
section
namespace Go.SE
open Go.ChangeShapes Go.WideShapes Go.ChangeAt Go.RowKit
section
variable {H:Type} {enc:TypeId×Value->H} {P:Program}
def Xo{C:Checked}{os:Os}{f fn}{s:OpenSpec}{k:(H:Type)->List (DataW H)->Bool}(G:s.cond=some k){F:Stop.Interp}{t}(D:laidOutB C.prog=true)(z:s.vars=[])(l:(s.at F).vars=[])(M:∀ds:List (DataW H),ds.length=fn.params.size->(s.at F).fn H ds={ results:=[.lit<|.bool true],args:=ds })(u:fn.resultTypes=#[t])(ht:C.prog.underlying t=some .bool)(hr:(fn.params.toList.all fun t=>C.prog.readableRec t && decide (t<C.prog.types.size))=true)(ak:ownKnob C.prog.godebug=none)(c:os.Started)(d:C.prog.inits.idxOf? f=none)(o:C.prog.funcs[f]?=some fn)(b:∃(w:World) (tape:Tape) (i:Input),w.os=os/\(w.forCall tape i).Shaped C.prog/\i.vars=[]/\Input.okWide C.prog (w.forCall tape i) .any w.heap.size f i /\
   s.pre6 enc C.prog fn [] false (w.forCall tape i).memory i.args/\({}:Assume).holds C.prog (lone (Frame.enter C.prog f i.args .normal) []<|w.forCall tape i))(a:∀(W:World) (ew:Nat) (args:Array Value) (ds:List (DataW H)) (p:List MemPlace),
   (∀(j:Nat) t v,fn.params[j]?=some t->args[j]?=some v->Value.okWide C.prog W .any ew t v) ->
   DataW.TrodAll enc C.prog W 0 (fun _=>true) true fn.params.toList args.toList ds p->(∀x∈p,x.block<W.heap.size)->k H ds=true ->
   Calls C.prog f args W fun e A=>∃r:Bool,e=.returned (.bool r)/\(r=true/\Pure W A)):
  ReturnsInHanded {} C os f .any (s.pre6 enc C.prog fn [] false)<|(s.at F).post enc C.prog fn false true false false:=by
 refine returnsInHanded_of_cond G ak c d o b ?_
 intro W ew args ds N n h B _ m _
 have g:=B
 obtain⟨p,q,E,y,rfl,I,L⟩:=B
 rw[z]at y
 obtain⟨rfl,rfl⟩:=trodVars_none y
 rw[List.append_nil]at m
 refine(a W ew args ds p h E (fun x K=>by simpa using g.lt x (by simp[K])) m).mono fun e A ⟨r,J,h1,h2⟩=>?_
 subst h1
 rw[z,<-l]at g
 exact⟨_,J,Rj D l M u ht hr g h2⟩
end
end Go.SE
end
