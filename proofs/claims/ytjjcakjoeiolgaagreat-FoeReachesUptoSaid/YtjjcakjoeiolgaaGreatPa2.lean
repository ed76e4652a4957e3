import Derived.Test.YtjjcakjoeiolgaaGreatProg
import Derived.KernelRfl
import Derived.Test.YtjjcakjoeiolgaaGreatPa0
import Derived.Test.YtjjcakjoeiolgaaGreatPa1
import Derived.Laws.IdiomStrings
import Init.Data.Nat
import Derived.Recover
set_option linter.defProp false
section
open Go Go.SE List
open Go.IntKind renaming i64 -> q6
namespace Go.Proofs
open Tryz
set_option maxRecDepth 100000
set_option maxHeartbeats 4000000
attribute [local irreducible] wpL wpX opE wpE Calls
attribute [local irreducible] adv W WV WR yN pv lpC jBQ ctR ka rgP dgo nwV nhI hvl had hcs hpt stV stC kp yM uK qM bn ub
def m_S_j2(c:Sl)(i1 n2:Int)(H:NP)(w:World)(a:Int->Int->NP->WP)(K:Bool->WP):Prop:=∃a4:Addr,At c i1 9 a4/\∃b:Sl,w.cell? (a4.add 8)=some b.v/\Br (decide ((b.len:Int)>265)) (K true w) (a n2 (q6.wrap<|i1+1) H w)
def m_S_j4(d:Sl)(i1 n3 e:Int)(h:Bool)(H:NP)(w:World)(b:Int->Int->NP->WP)(a:Int->Int->NP->WP)(K:Bool->WP):Prop:=Br h (∃a5:Addr,At d i1 9 a5/\∃c:Sl,w.cell? (a5.add 8)=some c.v/\∃g:Addr,At c e 5 g/\∃f,w.cell? (g.add 4)=some (vs f)/\a (q6.wrap<|n3+(f.size:Int)) (q6.wrap<|e+1) H w)<|m_S_j2 d i1 n3 H w b K
def m_S_l3(h:Sl)(i1 n3 e:Int)(k:World)(b:NP)(a:World)(d:Int->Int->NP->WP)(c:Int->Int->NP->WP)(K:Bool->WP):Prop:=∃j:Addr,At h i1 9 j/\∃f:Sl,a.cell? (j.add 8)=some f.v/\∀g i,Hst k b a g i->m_S_j4 h i1 n3 e ((decide (e<(f.len:Int)))&&(decide (e<=256))) g i d c K
def m_S_l1(c:Sl)(n1 i1:Int)(j:World)(i:NP)(h:World)(k:Int->Int->NP->WP)(K:Bool->WP):Prop:=Br ((decide (i1<(c.len:Int)))&&(decide (i1<=60))) (∃a1:Addr,At c i1 9 a1/\∀o e,Hst j i h o e->∃r,e.cell? (a1.add 1)=some (vs r)/\∃a2:Addr,At c i1 9 a2/\∃p,e.cell? ((a2.add 2).add 3)=some (vs p)/\∃a3:Addr,At c i1 9 a3/\∃n:Sl,e.cell? (a3.add 8)=some n.v/\∃(m:Int->Int->NP->WP) (f:Int->Int->World->Nat),m (q6.wrap<|(q6.wrap<|(q6.wrap<|n1+(r.size:Int))+(p.size:Int))+(n.len:Int)) 0 o e/\∀(n3 l:Int) (b:NP) (a:World),Hst j b a b a->m n3 l b a->m_S_l3 c i1 n3 l j b a k (fun d g s w'=>m d g s w'/\f d g w'<f n3 l a) K)<|∀t q,Hst j i h t q->K ((decide ((c.len:Int)>60)) ||(decide (n1>60000))) q
def m_S(i:Sl)(g:World)(K:Bool->WP):Prop:=∃(f:Int->Int->NP->WP) (d:Int->Int->World->Nat),f 0 0 None g/\∀(n1 i1:Int) (b:NP) (a:World),Hst g b a b a->f n1 i1 b a->m_S_l1 i n1 i1 g b a (fun c e h w'=>f c e h w'/\d c e w'<d n1 i1 a) K
def w_S(l1 w0 K)(h:m_S l1 w0 K):
  cl 7 #[l1.v] w0<|XC K:=
 cwH func7 h<|wa2 3 [0] (fun n1 i1=>[(3,(vi n1)),(4,(vi i1))])<|fun {_ _ n1 i1}=>fun k=>pj 0 0 [(decide (i1<(l1.len:Int)))] [0,3,4] (fun b=>[(13,(vb<|(b 0)&&(decide (i1<=60))))]) (fun d=>pb 1 5 0 d (fun d=>pe 3 0 d)<|fun d=>pe 3 0 d)<|br 0 0 (dq 1<|ix 3<|ah<|ld 1<|ix 4<|ld 2<|ix 4<|ld 1<|ja1 4 1 [0,4] (fun n2=>[(3,(vi n2))]) (fun n2 H w=>m_S_j2 _ _ n2 H w _ _) (fun l=>wa2 0 [0,4] (fun n3 f=>[(3,(vi n3)),(5,(vi f))])<|fun {_ _ n3 f}=>fun j=>ja1 0 0 [0,3,4,5] (fun e=>[(50,(vb e))]) (fun e H w=>m_S_j4 _ _ _ _ e H w _ _ _) (fun m=>ix 3<|ld 1<|fun {g}=>ct 3 3<|pj 0 0 [(decide (f<(g.len:Int)))] [0,3,4,5] (fun b=>[(50,(vb<|(b 0)&&(decide (f<=256))))]) (fun a=>pb 1 0 0 a (fun a=>pe 3 0 a)<|fun a=>pe 3 0 a)<|ah<|je 0 0 m)<|fun {e}=>br 0 0 (ix 4<|ld 1<|ix 1<|ld 1<|je 6 0 j)<|je 1 0 l)<|fun {n2}=>ix 2<|ld 1<|br 0 2 (rr 2)<|je 4 0 k)<|pj 1 0 [] [] (fun b=>[(2,(vb<|(decide ((l1.len:Int)>60)) ||(decide (n1>60000))))]) (fun i=>ct 4 3<|pj 0 0 [(decide ((l1.len:Int)>60))] [] (fun b=>[(78,(vb<|(b 0) ||(decide (n1>60000))))]) (fun c=>pb 1 0 0 c (fun c=>pe 3 0 c)<|fun c=>pe 3 0 c)<|pe 1 0 i)<|ah<|rr 0
def m_H5(f h j:Int)(g:ByteArray)(i:Bool)(e:World)(K:ByteArray->WP):Prop:=∀d b,Hst e None e d b->cl 98 #[(.agg #[(vi f),(vi h),(vu j),(vs g),(vb i)])] b (XN fun r1 r2 a=>Kept d b a/\∃c,(convert 59 9 r1.v).run prog a=.ok (vs c) a/\K c a)
def w_H5(aA aB aC aD aE w0 K)(h:m_H5 aA aB aC aD aE w0 K):
  cl 40 #[(.agg #[(vi aA),(vi aB),(vu aC),(vs aD),(vb aE)])] w0<|XP K:=
 cwH func40 h<|nh 0<|lgg 1 0 [] 5<|ah<|ca2 0 call98<|xe<|rn 6<|rr 1
def s_N1(a:Int):Int:=a
def p_N1(a:Int)(c:World):cl 16 #[(.int .i64 a)] c (fun e w'=>e=.returned (.int .i64<|s_N1 a)/\Pure c w'):=
 cwp func16 [] (fun b=>(vi a)) fun d=>qpe 3 d
def m_G_j5(r1:Option Addr)(b:Bool)(H:NP)(w:World)(K:Bool->WP):Prop:=Br b (cl 13 #[(vp r1),(.agg #[(vi 0),(vu 9),(vs (⟨#[120]⟩:ByteArray))])] w<|XC fun r2 a=>Kept H w a/\K r2 a) (K false w)
def m_G_j4(r1:Option Addr)(b:Bool)(H:NP)(w:World)(K:Bool->WP):Prop:=Br b (cl 21 #[(vp r1),(vi 0)] w<|XC fun r3 a=>Kept H w a/\m_G_j5 r1 r3 H a K) (m_G_j5 r1 false H w K)
def m_G_j3(r1:Option Addr)(e:Bool)(d:World)(H:NP)(w:World)(K:Bool->WP):Prop:=Br e (cl 41 #[(vp r1),(vi 2)] w<|XB fun c a=>Kept H w a/\∀b,Hst d H a H b->m_G_j4 r1 (c==2) H b K) (m_G_j4 r1 false H w K)
def m_G_j2(r1:Option Addr)(a1:Bool)(a:World)(H:NP)(w:World)(K:Bool->WP):Prop:=Br a1 (cl 41 #[(vp r1),(vi 0)] w<|XB fun d c=>Kept H w c/\∀b,Hst a H c H b->m_G_j3 r1 (d==0) a H b K) (m_G_j3 r1 false a H w K)
def m_G_j6(r1:Option Addr)(c:Bool)(b:World)(H:NP)(w:World)(K:Bool->WP):Prop:=Br c (cl 21 #[(vp r1),(vi 1)] w<|XC fun d a=>Kept H w a/\m_G_j2 r1 (!d) b H a K) (m_G_j2 r1 false b H w K)
def m_G_j1(r1:Option Addr)(f:Bool)(d:World)(H:NP)(w:World)(K:Bool->WP):Prop:=Br f (K false w)<|cl 13 #[(vp r1),(.agg #[(vi 1),(vu 7),(vs (⟨#[116]⟩:ByteArray))])] w fun e b=>∃c,e=.returned (vb c)/\Kept H w b/\Br c (cl 13 #[(vp r1),(.agg #[(vi 0),(vu 7),(vs (⟨#[116]⟩:ByteArray))])] b<|XC fun g a=>Kept H b a/\m_G_j6 r1 (!g) d H a K) (m_G_j6 r1 false d H b K)
def m_G(g:World)(K:Bool->WP):Prop:=cl 9 #[] g fun e f=>∃r1,e=.returned (vp r1)/\Kept None g f/\Br (Option.isNone r1) (K false f) (cl 40 #[(.agg #[(vi 2),(vi 1),(vu 7),(vs (⟨#[116]⟩:ByteArray)),(vb false)])] f fun e b=>∃i,e=.returned (vs i)/\Kept None f b/\cl 23 #[(vp r1),(vs i)] b fun e a=>∃d,e=.returned (vb d)/\Kept None b a/\Br (!d) (m_G_j1 r1 true g None a K) (cl 23 #[(vp r1),(vs (⟨#[120]⟩:ByteArray))] a<|XC fun h c=>Kept None a c/\m_G_j1 r1 h g None c K))
def w_G(g:World)(K:Bool->WP)(h:m_G  g K):
  cl 8 #[] g<|XC K:=
 cwH func8 h<|ca1 1 call9<|br 0 3 (rr 2)<|ja1 1 0 [1] (fun b=>[(14,(vb b))]) (fun b H w=>m_G_j1 _ b _ H w _) (fun k=>ca1 2 call40<|ca1 0 call23<|br 1 2 (je 3 0 k)<|ca1 1 call23<|je 1 0 k)<|fun {b}=>br 0 0 (rr 2)<|ja1 1 0 [1] (fun a1=>[(2,(vb a1))]) (fun a1 H w=>m_G_j2 _ a1 _ H w _) (fun i=>ca1 2 call13<|ct 1 5<|ja1 0 0 [1] (fun a=>[(23,(vb a))]) (fun a H w=>m_G_j6 _ a _ H w _) (fun f=>br 1 0 (ca1 2 call13<|je 2 0 f)<|je 5 0 f)<|fun {a}=>br 1 1 (ca1 1 call21<|je 3 0 i)<|je 5 0 i)<|fun {a1}=>ct 2 5<|ja1 0 0 [1] (fun e=>[(35,(vb e))]) (fun e H w=>m_G_j3 _ e _ H w _) (fun l=>br 1 0 (ca1 1 call41<|fun {n}=>cp 0 call16 (p_N1 n)<|an<|je 2 0 l)<|je 5 0 l)<|fun {e}=>ct 1 5<|ja1 0 0 [1] (fun c=>[(41,(vb c))]) (fun c H w=>m_G_j4 _ c H w _) (fun j=>br 1 0 (ca1 1 call41<|fun {o}=>cp 0 call16 (p_N1 o)<|an<|je 2 0 j)<|je 5 0 j)<|fun {c}=>ct 1 3<|ja1 0 0 [1] (fun d=>[(45,(vb d))]) (fun d H w=>m_G_j5 _ d H w _) (fun m=>br 1 0 (ca1 1 call21<|je 1 0 m)<|je 3 0 m)<|fun {d}=>br 1 1 (ca1 2 call13<|rr 2)<|rr 5
end Go.Proofs
end
section
open Go Go.SE List
open Go.IntKind renaming i64 -> q6
namespace Go.Proofs
open Tryz
set_option maxRecDepth 100000
set_option maxHeartbeats 4000000
attribute [local irreducible] wpL wpX opE wpE Calls
attribute [local irreducible] adv W WV WR yN pv lpC jBQ ctR ka rgP dgo nwV nhI hvl had hcs hpt stV stC kp yM uK qM bn ub
def m_J1_j1(d:Option Addr)(f:Option Addr)(c:ByteArray)(e:Bool)(H:NP)(w:World)(K:(Option Addr)->Bool->WP):Prop:=Br e (cl 45 #[(vp f),(vs c)] w<|XC fun b a=>Kept H w a/\K d b a) (K d false w)
def m_J1(d:Option Addr)(y:Option Addr)(p:Int)(X:ByteArray)(aH aI aJ:Int)(aK:ByteArray)(aL:Bool)(W:Int)(U:Sl)(c:World)(K:(Option Addr)->Bool->WP):Prop:=Br (p==0) (∀f h,Hst c None c f h->∃Q:WP,Q h.drew/\∀O,O=h.drew->cl 23 #[(vp d),(vs X)] O fun e H=>∃r1,e=.returned (vb r1)/\Q H/\Kept f O H/\cl 45 #[(vp y),(vs X)] H (XC fun r2 M=>Q M/\Kept f H M/\K d (r1==r2) M)) (Br (p==1) (∀f h,Hst c None c f h->cl 40 #[(.agg #[(vi aH),(vi aI),(vu aJ),(vs aK),(vb aL)])] h fun e L=>∃r3,e=.returned (vs r3)/\Kept f h L/\cl 23 #[(vp d),(vs r3)] L fun e N=>∃S,e=.returned (vb S)/\Kept f L N/\cl 45 #[(vp y),(vs r3)] N (XC fun r5 T=>Kept f N T/\K d (S==r5) T)) (Br (p==2) (∀f h,Hst c None c f h->∃G:WP,G h.drew/\∀P,P=h.drew->cl 41 #[(vp d),(vi W)] P fun e l=>∃V,e=.returned (vi V)/\G l/\Kept f P l/\cl 16 #[(vi V)] l fun e k=>∃Y,e=.returned (vi Y)/\G k/\Kept f l k/\cl 46 #[(vp y),(vi W)] k (XB fun r8 t=>G t/\Kept f k t/\K d (Y==r8) t)) (Br (cond (p==3) (p==3)<|p==4) (∀b a,Hst c None c b a->∀Z q,New a (.cells #[] 88) Z q->∃s1:Sl,∃n:World,(Builtin.append_ #[36,36] 36 #[(Sl.mk (some Z) 0 0).v,U.v]).run prog q=.ok s1.v n/\Kept b q n/\cl 14 #[(vp d),s1.v] n fun e u=>∃I w E,e=.returned (.tuple #[(vs I),(vi w),(vi E)])/\Kept b n u/\cl 47 #[(vp y),U.v] u fun e o=>∃i j D,e=.returned (.tuple #[(vs i),(vi j),(vi D)])/\Kept b u o/\Br ((p==4)&&(j==0)) (Br ((decide (I=i))&&(w==j)) (∀z g,Hst c b o z g->cl 23 #[(vp d),(vs I)] g (XC fun R B=>Kept z g B/\m_J1_j1 d y i R z B K))<|∀z g,Hst c b o z g->m_J1_j1 d y i false z g K) (∀H7 C,Hst c b o H7 C->K d (((decide (I=i))&&(w==j))&&(E==D)) C)) (Br (p==5) (∀b a,Hst c None c b a->cl 22 #[(vp d)] a fun e m=>∃r,e=.returned (vp r)/\Kept b a m/\Br (Option.isNone r) (K none false m) (cl 41 #[(vp d),(vi 0)] m fun e s=>∃J,e=.returned (vi J)/\Kept b m s/\cl 40 #[(.agg #[(vi 6),(vi 0),(vu 77),(vs (⟨#[122,122]⟩:ByteArray)),(vb false)])] s fun e x=>∃F,e=.returned (vs F)/\Kept b s x/\cl 23 #[(vp d),(vs F)] x (XC fun r20 A=>Kept b x A/\K r true A))) (∀b a,Hst c None c b a->K d true a)))))
def w_J1(f1 w1 aA aE aH aI aJ aK aL aF aG w0 K)(h:m_J1 f1 w1 aA aE aH aI aJ aK aL aF aG w0 K):
  cl 11 #[(vp f1),(vp w1),(.agg #[(vi aA),(vs aE),(vi aH),(vi aI),(vu aJ),(vs aK),(vb aL),(vi aF),aG.v])] w0<|XQ K:=
 cwH func11 h<|nh 0<|lh 3 0 []<|br 0 2 (ah<|dC 1 [4,8] []<|lhc 3 0 [1]<|lhc 2 0 [1]<|cd1 0 call23<|cd1 0 call45<|rr 3)<|br 0 3 (lgg 2 0 [2] 5<|ah<|ca1 0 call40<|ca1 4 call23<|ca1 2 call45<|rr 3)<|br 0 3 (ah<|dC 1 [4,5,9] []<|lhc 3 0 [7]<|lhc 2 0 [7]<|cd1 0 call41<|cd1 0 call16<|cd1 0 call46<|rr 3)<|pj 3 0 [(aA==3)] [0,1,5,17] (fun b=>[(56,(vb<|cond (b 0) (aA==3)<|aA==4))]) (fun i=>pb 0 0 0 i (fun i=>pe 1 0 i)<|fun i=>pe 3 0 i)<|br 0 0 (ah<|nwh 2<|lh 1 0 [8]<|xe2<|ef 0<|aah<|ca3 0 call14<|fun {n a l}=>lh 9 0 [8]<|ca3 0 call47<|fun {d c j}=>pj 7 0 [(aA==4)] [0,1,9,10,11,12,13,14] (fun b=>[(83,(vb<|(b 0)&&(c==0)))]) (fun g=>lh 1 0 []<|pb 1 2 0 g (fun g=>pe 3 0 g)<|fun g=>pe 3 0 g)<|br 0 0 (ct 6 5<|pj 0 0 [(decide (n=d))] [0,1,9,12,84] (fun b=>[(93,(vb<|(b 0)&&(a==c)))]) (fun k=>pb 1 0 0 k (fun k=>cp 1 call16 (p_N1 a)<|pe 3 0 k)<|fun k=>pe 5 0 k)<|ct 1 4<|ja1 0 0 [1,12,84] (fun m=>[(98,(vb m))]) (fun m H w=>m_J1_j1 _ _ _ m H w _) (fun o=>br 1 0 (ah<|ca1 2 call23<|je 1 0 o)<|ah<|je 4 0 o)<|fun {m}=>br 1 1 (ca1 2 call45<|rr 3)<|rr 6)<|pj 1 0 [] [] (fun b=>[(6,(vp f1)),(7,(vb<|((decide (n=d))&&(a==c))&&(l==j)))]) (fun p=>ct 5 5<|pj 0 0 [(decide (n=d))] [11,14,104] (fun b=>[(113,(vb<|(b 0)&&(a==c)))]) (fun f=>pb 1 0 0 f (fun f=>cp 1 call16 (p_N1 a)<|pe 3 0 f)<|fun f=>pe 5 0 f)<|ct 1 4<|pj 0 0 [((decide (n=d))&&(a==c))] [104] (fun b=>[(118,(vb<|(b 0)&&(l==j)))]) (fun e=>pb 1 0 0 e (fun e=>pe 4 0 e)<|fun e=>pe 4 0 e)<|pe 2 0 p)<|ah<|rr 0)<|br 0 3 (ah<|ca1 2 call22<|br 0 3 (rr 3)<|ca1 2 call41<|ca1 2 call40<|ca1 0 call23<|rr 3)<|ah<|rr 4
def m_H_j3(i1:Int)(b:Option Addr)(H:NP)(w:World)(a:(Option Addr)->Int->NP->WP)(c:Bool->WP):Prop:=a b (q6.wrap<|i1+1) H w
def m_H_j4(c:Bool)(H:NP)(w:World)(K:Bool->WP):Prop:=Br c (cl 8 #[] w<|XC fun b a=>Kept H w a/\K b a) (K false w)
def m_H_j5(b:Sl)(a:Bool)(H:NP)(w:World)(K:Bool->WP):Prop:=Br (((b.len:Int):Int)==0) (m_H_j4 a H w K)<|m_H_j4 false H w K
def m_H_j6(c:Bool)(H:NP)(w:World)(K:Bool->WP):Prop:=Br c (cl 8 #[] w<|XC fun b a=>Kept H w a/\K b a) (K false w)
def m_H_l2(S:Sl)(y z:Int)(A:ByteArray)(r3:Option Addr)(k:Option Addr)(i1:Int)(u:World)(a:NP)(b:World)(B:(Option Addr)->Int->NP->WP)(K:Bool->WP):Prop:=Br (decide (i1<(S.len:Int))) (Br (Option.isNone k) (K false b)<|∃a1:Addr,At S i1 9 a1/\∃F T J L X O H N,∃M:Sl,Row b a1 [(vi F),(vs T),(vi J),(vi L),(vu X),(vs O),(vb H),(vi N),M.v]/\cl 11 #[(vp k),(vp r3),(.agg #[(vi F),(vs T),(vi J),(vi L),(vu X),(vs O),(vb H),(vi N),M.v])] b (XQ fun G r5 C=>Kept a b C/\Br ((!r5) ||(Option.isNone G)) (∀w o,Hst u a C w o->K false o) (∀w o,Hst u a C w o->m_H_j3 i1 G w o B K)))<|Br (Option.isNone k) (K false b)<|cl 12 #[(vp k),(.agg #[(vi y),(vu z),(vs A)])] b fun e d=>∃s:Sl,∃V,e=.returned (.tuple #[s.v,(vb V)])/\Kept a b d/\Br (!V) (∃a2,r3=some a2/\lp d a2 fun v1=>∃a3,v1=some a3/\lp d a3 fun Z=>∃a4,Z=some a4/\lx d a4 fun Y=>Br (((s.len:Int):Int)==0) (Br (!(decide ((q6.wrap<|(Y.len:Int)+20)<=256))) (m_H_j5 s true a d K)<|cl 13 #[(vp k),(.agg #[(vi y),(vu z),(vs A)])] d<|XC fun r9 W=>Kept a d W/\m_H_j5 s (!r9) a W K) (m_H_j4 false a d K)) (cl 14 #[(vp k),s.v] d fun e i=>∃t q D,e=.returned (.tuple #[(vs t),(vi q),(vi D)])/\Kept a d i/\∃I:Sl,∃f:World,(convert 9 59<|vs t).run prog i=.ok I.v f/\Kept a i f/\cl 15 #[I.v] f fun e n=>∃Q R E U P m,e=.returned (.tuple #[(.agg #[(vi Q),(vi R),(vu E),(vs U),(vb P)]),(vb m)])/\Kept a f n/\∀x g,Hst u a n x g->cl 13 #[(vp k),(.agg #[(vi y),(vu z),(vs A)])] g fun e j=>∃p,e=.returned (vb p)/\Kept x g j/\Br ((p&&(q==0))&&m) (∀l c,Hst u x j l c->∀p3 h,New c (.cells #[(vi Q),(vi R),(vu E),(vs U),(vb P)] 35) p3 h->cl 17 #[(Sl.mk (some p3) 1 1).v,(.agg #[(vi y),(vu z),(vs A)])] h (XR fun bA bB bC r=>Kept l h r/\m_H_j6 bA l r K)) (∀l c,Hst u x j l c->m_H_j6 false l c K))
def m_H_j1(q:Sl)(r o:Int)(p:ByteArray)(n:Bool)(l:World)(H:NP)(w:World)(K:Bool->WP):Prop:=Br n (cl 8 #[] w<|XC fun r1 k=>Kept H w k/\K r1 k) (cl 9 #[] w fun e g=>∃r2,e=.returned (vp r2)/\Kept H w g/\cl 10 #[] g (XD fun r3 j=>Kept H g j/\∃(h:(Option Addr)->Int->NP->WP) (d:(Option Addr)->Int->World->Nat),h r2 0 H j/\∀(i:Option Addr) (i1:Int) (b:NP) (a:World),Hst l b a b a->h i i1 b a->m_H_l2 q r o p r3 i i1 l b a (fun c f m w'=>h c f m w'/\d c f w'<d i i1 a) K))
def m_H(i:Sl)(k j:Int)(h:ByteArray)(c:World)(K:Bool->WP):Prop:=∀f d,Hst c None c f d->cl 7 #[i.v] d (XC fun e b=>Kept f d b/\∀g a,Hst c f b g a->m_H_j1 i k j h (e ||(decide ((h.size:Int)>60000))) c g a K)
def w_H(l1 aC aD aB w0 K)(h:m_H l1 aC aD aB w0 K):
  cl 3 #[l1.v,(.agg #[(vi aC),(vu aD),(vs aB)])] w0<|XC K:=
 cwH func3 h<|nh 0<|ja1 1 0 [0,3] (fun j=>[(25,(vb j))]) (fun j H w=>m_H_j1 _ _ _ _ j _ H w _) (fun y=>ah<|ca1 1 call7<|fun {p}=>ct 1 5<|pj 0 0 [p] [0,3] (fun b=>[(25,(vb<|(b 0) ||(decide ((aB.size:Int)>60000))))]) (fun a=>pb 1 0 0 a (fun a=>pe 5 0 a)<|fun a=>lh 1 0 [2]<|pe 3 0 a)<|ah<|je 0 0 y)<|fun {j}=>br 0 0 (ca1 1 call8<|rr 1)<|ca1 1 call9<|ca1 1 call10<|wa2 2 [0,3,6] (fun s i1=>[(5,(vp s)),(7,(vi i1))])<|fun {_ _ s i1}=>fun z=>br 0 4 (ja1 1 3 [0,3,6,7] (fun i=>[(5,(vp i))]) (fun i H w=>m_H_j3 _ i H w _ _) (fun t=>br 0 2 (rr 2)<|ix 5<|xe6<|xe3<|lr 0<|ca2 0 call11<|fun {u x}=>pj 5 0 [(!x)] [0,3,6,7,8] (fun b=>[(52,(vb<|(b 0) ||(Option.isNone u)))]) (fun g=>pb 1 3 0 g (fun g=>pe 3 0 g)<|fun g=>pe 3 0 g)<|br 0 0 (ah<|rr 2)<|ah<|je 3 0 t)<|fun {i}=>je 3 0 z)<|br 0 3 (rr 2)<|lgg 2 0 [] 3<|ca2 0 call12<|br 0 7 (nc 2<|ld 1<|nc 0<|ld 1<|nc 0<|ld 1<|ct 8 9<|ja1 0 0 [] (fun l=>[(89,(vb l))]) (fun l H w=>m_H_j4 l H w _) (fun o=>br 1 0 (ct 3 5<|ja1 0 0 [80] (fun m=>[(88,(vb m))]) (fun m H w=>m_H_j5 _ m H w _) (fun q=>br 1 0 (je 5 0 q)<|lgg 1 0 [] 3<|ca1 0 call13<|je 2 0 q)<|fun {m}=>br 2 0 (je 1 0 o)<|je 1 0 o)<|je 9 0 o)<|fun {l}=>br 1 1 (ca1 0 call8<|rr 2)<|rr 3)<|ca3 3 call14<|fun {_ c}=>xe2<|ef 8<|aah<|ca6 0 call15<|fun {_ _ _ _ _ n}=>nh 3<|sg 0 0 []<|lgg 2 1 [] 3<|ah<|ca1 0 call13<|fun {d}=>ct 1 4<|pj 0 0 [d] [3,16,17] (fun b=>[(113,(vb<|(b 0)&&(c==0)))]) (fun f=>pb 1 0 0 f (fun f=>cp 1 call16 (p_N1 c)<|pe 2 0 f)<|fun f=>pe 4 0 f)<|ct 1 2<|pj 0 0 [(d&&(c==0))] [3,16] (fun b=>[(116,(vb<|(b 0)&&n))]) (fun e=>pb 1 0 0 e (fun e=>pe 2 0 e)<|fun e=>pe 2 0 e)<|ct 1 6<|ja1 0 0 [] (fun k=>[(123,(vb k))]) (fun k H w=>m_H_j6 k H w _) (fun r=>br 1 0 (lgg 0 0 [] 5<|ah<|nwh 0<|lgg 0 1 [] 3<|ca3 0 call17<|je 2 0 r)<|ah<|je 6 0 r)<|fun {k}=>br 1 1 (ca1 0 call8<|rr 2)<|rr 3
end Go.Proofs
end
section
open Go Go.SE
namespace Go.Proofs
open Tryz
attribute [local irreducible] Calls
structure Act where
 kind:Int
 body:ByteArray
 l:Letter
 who:Int
 so:Sl
 ops:List Op
def tX(x:Act):List Value:=[vi x.kind,vs x.body,vi x.l.kind,vi x.l.frm,vu x.l.c,vs x.l.text,vb x.l.fake,vi x.who,x.so.v]
structure ActOk(S:NP)(w:World)(x:Act):Prop where
 num:yH x.l.c
 nums:∀o∈x.ops,yH o.num
 ops:Lst S w 5 x.so (x.ops.map oK)
 body:x.body.size<=1048576
 text:x.l.text.size<=1048576
 few:x.ops.length<=1048576
 texts:∀o∈x.ops,o.text.size<=1048576
def uO(l:List Act):Nat:=(l.map (·.body.size)).sum
structure Small(l:List Act):Prop where
 few:l.length<=60
 ops:∀x∈l,x.ops.length<=265
 bytes:uO l<=60000
def ActOk.ext{S X w w' x}(h:ActOk S w x)(E:Ext X w w')(a:∀y,S y->¬X y):ActOk S w' x:={ h with ops:=h.ops.ext E a }
def at_row{S w sz s}{α:Type}{g:α->List Value}{xs:List α}(h:Lst S w sz s (xs.map g)){j}(d:j<xs.length){a}(f:At s j sz a):Row w a (g xs[j]):=by
 have⟨b,h1,_,h2⟩:=h.nth d;obtain⟨_,_,y,e,rfl⟩:=f;obtain⟨_,_,z,c,rfl⟩:=h1;rw[e]at c;cases c;exact h2
def jQU{S}(l1 ls w0)(z:Lst S w0 9 l1 (ls.map tX))(A:∀x∈ls,ActOk S w0 x):
  cl 7 #[l1.v] w0<|XC fun r w'=>(r=false->Small ls)/\Pure w0 w':=by
 refine w_S l1 w0 _ ?_
 unfold m_S
 have K:l1.len=ls.length:=by rw[z.len];simp
 refine⟨fun n i H w=>∃j:Nat,i=j/\j<=ls.length/\j<=61/\(uO (ls.take j):Int)<=n/\n<=j*300000000/\(∀x∈ls.take j,x.ops.length<=265)/\Pure w0 w,fun _ i _=>(100-i).toNat,⟨0,rfl,Nat.zero_le _,Om,by simp[uO],Sm,Sm,Ext.refl _⟩,?_⟩
 rintro n1 _ Hl wl P ⟨j,rfl,hj,N,y,W,C,G⟩
 refine⟨fun u=>?_,fun u H4 w5 hs=>⟨fun h=>?_,G.hst hs⟩⟩
 simp only[Bool.and_eq_true,decide_eq_true_eq]at u
 have d:j<ls.length:=Om
 have D:j<=60:=Om
 have g:=A _<|List.getElem_mem d
 have f:ls.take (j+1)=ls.take j++[ls[j]]:=by rw[List.take_succ_eq_append_getElem d]
 have⟨a,b,_⟩:=z.nth d
 have one:∀{w},Pure w0 w->Row w a (tX ls[j]):=fun E=>at_row (z.pure E) d b
 generalize ls[j]=x at *
 refine⟨a,b,fun Y w2 B=>?_⟩
 have F:=G.hst B
 have r2:=one F
 have X:=g.body;have ht:=g.text;have hf:=g.few
 refine⟨x.body,r2 1<|by simp[tX],a,b,x.l.text,by rw[yP];exact r2 5<|by simp[tX],a,b,x.so,r2 8<|by simp[tX],?_⟩
 have V:x.so.len=x.ops.length:=by rw[g.ops.len];simp
 have T:0<=n1:=Om
 have hm:(uO (ls.take j):Int)+x.body.size<=IntKind.i64.wrap ((IntKind.i64.wrap<|(IntKind.i64.wrap<|n1+(x.body.size:Int))+(x.l.text.size:Int))+(x.so.len:Int))/\IntKind.i64.wrap ((IntKind.i64.wrap<|(IntKind.i64.wrap<|n1+(x.body.size:Int))+(x.l.text.size:Int))+(x.so.len:Int))<=j*300000000+3145728:=by
  rw[IntWalk.i64_in (n1+_) Om,IntWalk.i64_in (n1+_+_) Om,IntWalk.i64_in _ Om];omega
 generalize IntKind.i64.wrap ((IntKind.i64.wrap<|(IntKind.i64.wrap<|n1+(x.body.size:Int))+(x.l.text.size:Int))+(x.so.len:Int))=n2 at *
 refine⟨fun n k H w=>∃i:Nat,k=i/\i<=x.ops.length/\i<=257/\n2<=n/\n<=n2+i*1048576/\Pure w0 w,fun _ k _=>(1000-k).toNat,⟨0,rfl,Nat.zero_le _,Om,Int.le_refl _,Om,F⟩,?_⟩
 rintro n3 _ J O I ⟨k,rfl,hk,M,L,R,o⟩
 refine⟨a,b,x.so,one o 8<|by simp[tX],fun Z w3 t=>?_⟩
 have m:=o.hst t
 refine⟨fun q=>?_,fun q=>?_⟩
 simp only[Bool.and_eq_true,decide_eq_true_eq]at q
 have c:k<x.ops.length:=Om
 have⟨Q,p,_,s⟩:=(g.ops.pure m).nth c
 have U:=g.texts _<|List.getElem_mem c
 refine⟨a,b,x.so,one m 8<|by simp[tX],Q,p,x.ops[k].text,s 4<|by simp[oK],?_⟩
 rw[IntWalk.i64_in (n3+_) Om,zQ c Om]
 exact⟨⟨k+1,rfl,c,Om,Om,Om,m⟩,by show(1000-((k+1:Nat):Int)).toNat<(1000-(k:Int)).toNat;omega⟩
 refine⟨a,b,x.so,one m 8<|by simp[tX],fun _=>⟨fun h=>(by cases h),m⟩,fun e=>?_⟩
 have e:=of_decide_eq_false e
 rw[zQ (n:=100) Om Om]
 refine⟨⟨j+1,rfl,d,Om,?_,Om,?_,m⟩,by show(100-((j+1:Nat):Int)).toNat<(100-(j:Int)).toNat;omega⟩
 rw[f];simp only[uO,List.map_append,List.sum_append,List.map_cons,List.map_nil,List.sum_cons,List.sum_nil]at *;omega
 grind
 simp only[Bool.or_eq_false_iff,decide_eq_false_iff_not]at h
 simp only[Bool.and_eq_false_iff,decide_eq_false_iff_not]at u
 have:j=ls.length:=Om
 subst this
 rw[List.take_length]at y C
 exact⟨Om,C,Om⟩
end Go.Proofs
end
section
open Go Go.SE List
namespace Go.Proofs
open Tryz
set_option maxRecDepth 100000
set_option maxHeartbeats 4000000
attribute [local irreducible] wpL wpX opE wpE Calls
attribute [local irreducible] adv W WV WR yN pv lpC jBQ ctR ka rgP dgo nwV nhI hvl had hcs hpt stV stC kp yM uK qM bn ub
def m_I5(e:World)(K:(Option Addr)->WP):Prop:=cl 44 #[] e<|XD fun r1 d=>∀p1 b,New d (.cells #[(vp r1),Sl.nil.v] 48) p1 b->∀a c,New b (.cells #[(vp<|some p1),(vb false),(vb false)] 52) a c->K (some a) c
theorem w_I5(a:World)(K:(Option Addr)->WP)(h:m_I5  a K):
  cl 10 #[] a<|XD K:=
 cwN func10 h<|cn1 1 call44<|nwn 1<|nwn 1<|rr 1
def m_J5(g:Option Addr)(a:ByteArray)(b:World)(K:Bool->WP):Prop:=∃a1,g=some a1/\lp b a1 fun i=>∃a2,i=some a2/\lp b a2 fun h=>∃d:Sl,∃f:World,(convert 9 59<|vs a).run prog b=.ok d.v f/\cl 54 #[(vp h),d.v] f fun e c=>∃r1 r2 r3,e=.returned (.tuple #[(vi r1),(vi r2),(vi r3)])/\Br (r2 !=0) (K false c) (∃a3,g=some a3/\lp c a3 fun k=>cl 100 #[(vp k),(vi r1)] c<|XB fun l j=>K true j)
theorem w_J5(f1 body1 w0 K)(h:m_J5 f1 body1 w0 K):
  cl 45 #[(vp f1),(vs body1)] w0<|XC K:=
 cwN func45 h<|nc 2<|ld 1<|nc 0<|ld 1<|xe2<|ef 1<|aan<|cn3 0 call54<|br 0 9 (rr 2)<|nc 2<|ld 1<|cn1 1 call100<|rr 1
def m_K5(c:Option Addr)(a:Int)(b:World)(K:Int->WP):Prop:=Br ((a !=0)&&(a !=1)) (K 2 b)<|∃a1,c=some a1/\lp b a1 fun i=>∃a2,i=some a2/\lp b a2 fun h=>cl 60 #[(vp h),(.agg #[(vi 6),(vi a),(vi 0),(vu 0),ve,(vi 0),(vi 0)])] b fun e f=>∃r1 r2,e=.returned (.tuple #[(vi r1),(vi r2)])/\∃a3,c=some a3/\lp f a3 fun j=>cl 100 #[(vp j),(vi r1)] f<|XB fun r3 g=>∃a4,c=some a4/\∃a5:Addr,AtA (a4.add 1) a 2 1 a5/\zV g a5/\∀d,d=g.setCell a5 (vb true)->K 0 d
theorem w_K5(f1 who1 w0 K)(h:m_K5 f1 who1 w0 K):
  cl 46 #[(vp f1),(vi who1)] w0<|XB K:=
 cwN func46 h<|pjn 1 0 [(who1 !=0)] [0,1] (fun b=>[(12,(vb<|(b 0)&&(who1 !=1)))]) (fun a=>pb 1 3 0 a (fun a=>pen 3 a)<|fun a=>pen 3 a)<|br 0 0 (rr 2)<|nc 2<|ld 1<|nc 0<|ld 1<|cn2 2 call60<|nc 6<|ld 1<|cn1 1 call100<|nc 2<|ixa 1<|ssn 0<|rr 1
def m_L5(d:Option Addr)(o:Sl)(g:World)(K:ByteArray->Int->Int->WP):Prop:=∃i:WP,i g.drew/\∀b,b=g.drew->∃a1,d=some a1/\lp b a1 fun n=>∃a2,n=some a2/\lp b a2 fun k=>∃a3,d=some a3/\lp b a3 fun q=>∃a4,q=some a4/\lx b (a4.add 1) fun m=>cl 101 #[(vp k),m.v,o.v] b fun e a=>∃r1 r2 r3,e=.returned (.tuple #[(vi r1),(vi r2),(vi r3)])/\i a/\Kept None b a/\Br (r2 !=0) (K ⟨#[]⟩ r2 r3 a) (∃a5,d=some a5/\lp a a5 fun l=>∃j,l=some j/\lp a j fun p=>cl 102 #[(vp p),(vi r1)] a<|XN fun r h c=>Kept None a c/\Br (h !=0) (K ⟨#[]⟩ h 0 c) (∃f,(convert 59 9 r.v).run prog c=.ok (vs f) c/\K f 0 0 c))
theorem w_L5(f1 l1 w0 K)(h:m_L5 f1 l1 w0 K):
  cl 47 #[(vp f1),l1.v] w0<|XS K:=
 cwH func47 h<|dC 3 [15] []<|nc 1<|lde 1<|nc 0<|lde 1<|nc 1<|lde 1<|nc 0<|lde 1<|cd3 1 call101<|br 0 9 (rr 6)<|nc 2<|ld 1<|nc 0<|ld 1<|ca2 1 call102<|br 0 7 (rr 5)<|xe<|rn 2<|rr 3
end Go.Proofs
end
section
open Go Go.SE List
namespace Go.Proofs
open Tryz
set_option maxRecDepth 100000
set_option maxHeartbeats 4000000
attribute [local irreducible] wpL wpX opE wpE Calls
attribute [local irreducible] adv W WV WR yN pv lpC jBQ ctR ka rgP dgo nwV nhI hvl had hcs hpt stV stC kp yM uK qM bn ub
def m_M5(s1:Sl)(a:World)(K:Sl->WP):Prop:=∃b1,(Go.binOp .eql 59 s1.v Sl.nil.v).run prog a=.ok (vb b1) a/\Br b1 (K Sl.nil a) (∀p1 d,New a (.cells #[] 5) p1 d->∃c:Sl,∃b:World,(Builtin.append_ #[59,59] 59 #[(Sl.mk (some p1) 0 0).v,s1.v]).run prog d=.ok c.v b/\K c b)
def w_M5(s1 w0 K)(h:m_M5 s1 w0 K):
  cl 271 #[s1.v] w0<|XA K:=
 cwN func271 h<|xe<|rb 2<|br 0 0 (rr 2)<|nwn 1<|xe2<|ef 1<|aan<|rr 1
end Go.Proofs
end
section
namespace Go.SE
variable {P:Program}
def yldP(P:Program)(o:Oper)(ε:Operand->Value)(w:World)(R:Value->World->Prop)(X:List PanicEntry->World->Prop):Prop:=
 (∀c,o.op≠.defer c)/\match(execOp ε o).run P w with
 |.ok (.value v) w'=>R v w'
 |.ok .skip w'=>R undef w'
 |.ok (.enter f args) w'=>Calls P f args w' fun e a=>(∃v,e=.returned v/\R v a)\/∃b,e=.panicked b/\X b a
 |.ok (.row row args) w'=>Rows P row args w' R
 |.ok (.round l f tmps assign body) w'=>RoundIn Fence.wide 0 P l f tmps assign body w' fun e a=>∃v,e=.returned v/\R v a
 |.halt (.panic v) w'=>X [{ v,recovered:=false }] w'
 |_=>False
def jNV{o}{ε:Operand->Value}{w}{R c:Value->World->Prop}{X b:List PanicEntry->World->Prop}(h:yldP P o ε w R X)(hr:∀v w',R v w'->c v w')(g:∀d w',X d w'->b d w'):yldP P o ε w c b:=by
 unfold yldP at *;refine⟨h.1,?_⟩;have h:=h.2;generalize (execOp ε o).run P w=r at *;cases r with
 |ok n w' =>
  cases n<;>simp only at h|-<;>first
   |exact hr _ _ h
   |exact RoundIn.mono h fun e a ⟨v,i,f⟩=>⟨v,i,hr _ _ f⟩
   |exact Calls.mono h fun e a hh=>hh.elim Gd Gd
   |exact h.mono hr
 |halt x w'=>cases x<;>simp only at h|-<;> exact g _ _ h
def jNU{o}{ε:Operand->Value}{w}{R:Value->World->Prop}{X:List PanicEntry->World->Prop}(h:yld P o ε w R):yldP P o ε w R X:=by
 refine⟨jNT h,?_⟩;unfold yld at h;generalize (execOp ε o).run P w=r at *;cases r with
 |ok n w' =>
  cases n<;>simp only at h|-<;>first
   |exact h
   |exact Calls.mono h fun e a ⟨v,b,c⟩=>.inl ⟨v,b,c⟩
 |halt x w'=>exact h.elim
def jGT{ro:Option Nat}{m o a w}{K:Act->World->Prop}{Q:Exit->Act->World->Prop}(h:yldP P o a.eval w (fun v w'=>K (a.put o.dst v) w') fun g w'=>Q (.panic g) a w'):o.wpIn (fen ro) m P a w K Q:=by
 have⟨k,h⟩:=h;refine⟨fun f _=>jPQ ro f,?_⟩;rw[jPP,Oper.semAt_eq _ _ _ k];have d:(fen ro).depth.isSome=true->1<=m:=fun h=>by rw[jPR]at h;cases h
 generalize (execOp a.eval o).run P w=r at *;cases r with
 |ok n w' =>
  cases n<;>simp only at h<;>simp only[Oper.uponIn]
  case value=>exact h
  case skip=>exact h
  case enter =>
   refine⟨d,(Calls.fen h).mono ?_⟩
   rintro e b (⟨v,rfl,c⟩|⟨g,rfl,j⟩)
   .exact c
   .exact j
  case row=>exact⟨d,Rows.fen h⟩
  case round=>exact⟨d,(RoundIn.fen h).mono fun e b ⟨v,i,c⟩=>by subst i;exact c⟩
 |halt x w'=>cases x<;>simp only at h<;>simp only[Oper.uponIn];exact h
def jRN(P:Program)(ops:Array Oper)(Q:Env->World->Prop)(X:List PanicEntry->World->Prop):List Oper->Env->World->Prop
 |[],ρ,w=>Q ρ w
 |o :: rest,ρ,w =>
  if Region.wanted o (zK ops ρ)then yldP P o (evE ρ) w (fun v w'=>jRN P ops Q X rest (put ρ o.dst v) w') X
  else jRN P ops Q X rest (put ρ o.dst undef) w
section
variable {x:Cx} {n:Nat} {Q:Exit->Env->World->Prop} {ρ:Env} {w:World}
def tZ{ops Q'}{X:List PanicEntry->World->Prop}(c:∀ρ a w,Rep x.ds n ρ a->Q' ρ w->jWI x n Q .normal a w)(g:∀ρ a i w,Rep x.ds n ρ a->X i w->jWI x n Q (.panic i) a w):
  ∀(l:List Oper) (ρ:Env) (a:Act) (w:World),oV n l=true->Rep x.ds n ρ a->jRN P ops Q' X l ρ w->wpListIn (fen x.ro) 0 P ops (jWI x n Q) l a w
 |[],ρ,a,w,_,hr,h=>c _ _ _ hr h
 |o :: l,ρ,a,w,j,hr,h=>by
  have⟨e,b⟩:=jKE j;unfold jRN at h;unfold wpListIn;rw[hr.yielded];split;rename_i d;rw[if_pos d]at h;apply jGT;rw[hr.eval];exact jNV h (fun v w' hh=>tZ c g l _ _ _ b (hr.put e v) hh) Gd;rename_i d;rw[if_neg d]at h;exact⟨fun f _=>jPQ x.ro f,tZ c g l _ _ _ b (hr.put e undef) h⟩
def qW{id l}(d:oV n l=true)(h:jRN P l.toArray (fun ρ w=>Q .normal ρ w) (fun f w=>∀ρ,Q (.panic f) ρ w) l ρ w):wpE (x:=x) P n (.region id l.toArray false) Q ρ w:=fun a e =>
 wpIn_region_lit<|tZ (fun b _ _ hr c=>⟨b,.inl ⟨hr,c⟩⟩) (fun b _ _ _ hr c=>⟨b,.inl ⟨hr,c b⟩⟩) l ρ a w d e h
end
def zFS(P:Program)(fn:Func)(n:Nat)(R:Ending->World->Prop):Exit->Env->World->Prop
 |.normal,ρ,w|.ret,ρ,w=>∃v,(∀ds a,Rep ds n ρ a->(results fn a.tmps).run P w=.ok v w)/\R (.returned v) w
 |.panic b,_,w=>R (.panicked b) w
 |_,_,_=>False
def xH{n w f fn c args R}(m:P.funcs[f]?=some fn)(j:fn.body=some c)(l:fn.ntmps=n)(k:args.length<=n)(h:wpE (x:=⟨none,[]⟩) P n c (zFS P fn n R) (uK args) w):Calls P f args.toArray w R:=by
 subst l;refine callsIn_wide.1<|callsIn_of_wp_marks (n:=0) m j trivial ?_;refine wpIn_mono (h _<|jHU args k) ?_;rintro e a w' ⟨p,⟨hr,b⟩|⟨rfl,_,_,D,hr,o,b⟩⟩;have g:a.defers=[]:=hr.defers;cases e with
 |normal=>have⟨v,i,d⟩:=b;simp only[bodyPostM,g];exact tE (i _ a hr) d
 |ret=>have⟨v,i,d⟩:=b;simp only[bodyPostM,g];exact tE (i _ a hr) d
 |exit _=>exact b.elim
 |goto _=>exact b.elim
 |panic q=>simp only[bodyPostM,g];exact b
 |outgrown=>exact b.elim
 have⟨v,i,d⟩:=b;have g:a.defers=[mark D]:=hr.defers;simp only[bodyPostM,g];exact⟨Sm,.inl ⟨D,_,rfl,run_takeDeferred o,tE (i _ a hr) d⟩⟩
def ep{n fn R e ρ w}(h:jFV P fn n R e ρ w):zFS P fn n R e ρ w:=by
 cases e<;>first|exact h|exact h.elim
def qN{ops Q}{X:List PanicEntry->World->Prop}:∀(k:Nat) {l:List Oper} {ρ:Env} {w:World},wpL P ops (fun ρ w=>jRN P ops Q X (l.drop k) ρ w) (l.take k) ρ w->jRN P ops Q X l ρ w
 |0,l,ρ,w,h=>by simpa[wpL]using h
 |k+1,[],ρ,w,h=>by simpa[wpL]using h
 |k+1,o :: l,ρ,w,h=>by
  simp only[List.take_succ_cons,List.drop_succ_cons]at h;unfold wpL at h;unfold jRN;split;rename_i a;rw[if_pos a]at h;exact jNV (jNU (X:=X) h) (fun v w' hh=>qN k hh) fun _ _ h=>h;rename_i a;rw[if_neg a]at h;exact qN k h
def jEO{ops Q}{X:List PanicEntry->World->Prop}{l ρ w}(h:wpL P ops Q l ρ w):jRN P ops Q X l ρ w:=
 qN l.length (by rw[List.take_length,List.drop_length];exact jEN (fun ρ w a=>a) h)
section
variable {ε:Operand->Value} {w:World} {d:Option Tmp} {ty:TypeId} {pos:String} {aft:Array Edge} {g:Option (Nat×Bool)}
def jIF{x t v}(a:ε x=.iface t v):(execOp ε ⟨d,.panic x,ty,pos,aft,g⟩).run P w=.halt (.panic<|.iface t v) w:=by
 simp[execOp,a];rfl
end
section
variable {ops:Array Oper} {Q:Env->World->Prop} {X:List PanicEntry->World->Prop} {ρ:Env} {w w':World} {rest:List Oper} {o:Oper} {v:Value}
def zBQ(h:Q ρ w):jRN P ops Q X [] ρ w:=h
def jIW{f args}(d:Region.wanted o (zK ops ρ)=true)(g:∀c,o.op≠.defer c)(hr:(execOp (evE ρ) o).run P w=.ok (.enter f args) w')(h:Calls P f args w' fun e a=>(∃v,e=.returned v/\jRN P ops Q X rest (put ρ o.dst v) a)\/∃b,e=.panicked b/\X b a):jRN P ops Q X (o ::rest) ρ w:=by
 unfold jRN;rw[if_pos d];exact⟨g,by rw[hr];exact h⟩
def jEW{pv}(a:Region.wanted o (zK ops ρ)=true)(b:∀c,o.op≠.defer c)(hr:(execOp (evE ρ) o).run P w=.halt (.panic pv) w')(h:X [{ v:=pv,recovered:=false }] w'):jRN P ops Q X (o ::rest) ρ w:=by
 unfold jRN;rw[if_pos a];exact⟨b,by rw[hr];exact h⟩
end
section
variable {ε:Operand->Value} {w:World} {d:Option Tmp} {ty:TypeId} {pos:String} {aft:Array Edge} {g:Option (Nat×Bool)}
end
end Go.SE
end
section
open Go Go.SE List
open Go.IntKind renaming i64 -> q6
namespace Go.Proofs
open Tryz
set_option maxRecDepth 100000
set_option maxHeartbeats 4000000
attribute [local irreducible] wpL wpX opE wpE Calls
attribute [local irreducible] adv W WV WR yN pv lpC jBQ ctR ka rgP dgo nwV nhI hvl had hcs hpt stV stC kp yM uK qM bn ub
def m_N5(p1:Option Addr)(b:Int)(a:World)(K:Bool->WP):Prop:=Br (decide (b>=1)) (∃a1,p1=some a1/\lx a a1 fun c=>K (decide (b<=(c.len:Int))) a)<|K false a
def w_N5(p1 t1 w0 K)(h:m_N5 p1 t1 w0 K):
  cl 112 #[(vp p1),(vi t1)] w0<|XC K:=
 cwN func112 h<|br 1 4 (nc 2<|ld 1<|rr 4)<|rr 9
def m_O5(p1:Option Addr)(e:Int)(c:World)(K:Int->Int->Int->Int->ByteArray->Int->Int->Bool->WP):Prop:=∀a d,Hst c None c a d->cl 112 #[(vp p1),(vi e)] d (XC fun r1 b=>Kept a d b/\Br (!r1) (∀l,Hst c a b a l->K 0 0 0 0 ⟨#[]⟩ 0 0 false l) (∃a1,p1=some a1/\lx b a1 fun o=>∃a2:Addr,At o (q6.wrap<|e-1) 7 a2/\∃i j k g f n m,Row b a2 (Ab i j k g f n m)/\∀h,Hst c a b a h->K i j k g f n m true h))
def w_O5(p1 t1 w0 K)(h:m_O5 p1 t1 w0 K):
  cl 64 #[(vp p1),(vi t1)] w0<|fun e w'=>∃g a b i d c f r2,e=.returned (.tuple #[(Ae g a b i d c f),(vb r2)])/\K g a b i d c f r2 w':=
 cwH func64 h<|nh 0<|ah<|ca1 3 call112<|br 0 1 (sg 2 0 []<|an<|rss 1<|qgg 0 [] 7<|qee)<|nc 2<|ld 1<|ix 2<|xe6<|xe<|lr 0<|sg 0 0 []<|an<|rss 1<|qgg 0 [] 7<|qee
def s_A(a:Int):Int:=(cond (a==4) 2<|cond (cond (a==5) (a==5)<|cond (a==7) (a==7)<|cond (a==8) (a==8)<|a==9) 1 0)
def p_A(a:Int)(f:World):cl 65 #[(.int .i64 a)] f (fun e w'=>e=.returned (.int .i64<|s_A a)/\Pure f w'):=
 cwp func65 [(a==4),(cond (a==5) (a==5)<|cond (a==7) (a==7)<|cond (a==8) (a==8)<|a==9)] (fun b=>(vi<|cond (b 0) 2<|cond (b 1) 1 0)) fun d=>pb 0 4 0 d (fun d=>qpe 2 d)<|fun d=>pj 3 0 [(a==5),(a==7),(a==8)] [] (fun b=>[(6,(vb<|cond (b 0) (a==5)<|cond (b 1) (a==7)<|cond (b 2) (a==8)<|a==9))]) (fun c=>pb 0 0 0 c (fun c=>pe 1 0 c)<|fun c=>pb 0 3 1 c (fun c=>pe 1 0 c)<|fun c=>pb 0 3 2 c (fun c=>pe 1 0 c)<|fun c=>pe 3 0 c)<|pb 0 0 1 d (fun d=>qpe 2 d)<|fun d=>qpe 2 d
def m_D1_j1(p1:Option Addr)(z A:Int)(u q:Int)(t r:Int)(k:ByteArray)(x:Sl)(i:World)(H:NP)(w:World)(K:Int->Int->Int->Int->ByteArray->Sl->WP):Prop:=Br (((s_A z):Int)==2) (∀j,Hst i H w H j->∃h:WP,h j.drew/\∀d,d=j.drew->cl 20 #[(vp p1),(vi A)] d fun e c=>∃l y o p m s,e=.returned (Aa l y o p m s)/\h c/\Kept H d c/\∀n a,New c (.cells #[(vi l),(vi y),(vi o),(vu p),(vs m),s.v] 71) n a->h a/\∃s1:Sl,∃b:World,(Builtin.append_ #[69,69] 69 #[x.v,(Sl.mk (some n) 1 1).v]).run prog a=.ok s1.v b/\h b/\Kept H a b/\∀g,Hst i H b H g->K u q t r k s1 g) (∀f,Hst i H w H f->K u q t r k x f)
def m_D1(p1:Option Addr)(E:Int)(d:World)(K:Int->Int->Int->Int->ByteArray->Sl->WP):Prop:=∀k n,Hst d None d k n->cl 64 #[(vp p1),(vi E)] n fun e m=>∃i q o p r B s r1,e=.returned (.tuple #[(Ae i q o p r B s),(vb r1)])/\Kept k n m/\Br (!r1) (∀F y,Hst d k m F y->K 0 0 0 0 ⟨#[]⟩ Sl.nil y) (Br (decide ((s_A i)>=1)) (∀b h,Hst d k m b h->∃l:WP,l h.drew/\∀g,g=h.drew->cl 20 #[(vp p1),(vi B)] g fun e f=>∃z C w t A D,e=.returned (Aa z C w t A D)/\l f/\Kept b g f/\∀u c,New f (.cells #[(vi z),(vi C),(vi w),(vu t),(vs A),D.v] 71) u c->l c/\∃x:Sl,∃a:World,(Builtin.append_ #[69,69] 69 #[Sl.nil.v,(Sl.mk (some u) 1 1).v]).run prog c=.ok x.v a/\l a/\Kept b c a/\∀j,Hst d b a b j->m_D1_j1 p1 i s i q o p r x d b j K) (∀b h,Hst d k m b h->m_D1_j1 p1 i s i q o p r Sl.nil d b h K))
def w_D1(p1 t1 w0 K)(h:m_D1 p1 t1 w0 K):
  cl 20 #[(vp p1),(vi t1)] w0<|fun e w'=>∃n i o q p j,e=.returned (Aa n i o q p j)/\K n i o q p j w':=
 cwH func20 h<|nh 0<|ah<|cc 2 call64<|xe6<|fun {k}=>xe2<|rt<|aah<|nh 3<|sg 0 0 []<|br 0 3 (sg 2 1 []<|ah<|rss 0<|qgg 1 [] 6<|qee)<|lh 2 0 []<|lh 1 0 [1]<|lh 1 0 [2]<|lh 1 0 [3]<|lh 1 0 [4]<|nh 1<|sg 0 0 []<|lh 1 1 []<|cp 0 call65 (p_A k)<|jb6 1 0 [0,4,5,7] (fun g c a d b f=>[]) (fun g c a d b f l=>hpt l 0 0 [(vi g),(vi c),(vi a),(vu d),(vs b),(Sl.v f)]) (fun g c a d b f H w=>m_D1_j1 _ _ _ g c a d b f _ H w _) (fun m=>br 0 0 (ah<|dC 1 [5,6,7,9] [9]<|lhc 1 0 [5]<|lhc 2 1 [5]<|cd6 0 call20<|nwc 0<|xe2<|ef 0<|aac<|sh 1 0 [5]<|an<|je 0 0 m)<|ah<|je 1 0 m)<|fun {g c a d b f}=>lh 1 1 []<|cp 0 call65 (p_A k)<|br 0 1 (an<|dC 1 [5,6,7,9] [9]<|lhc 1 0 [5]<|lhc 2 1 [6]<|cd6 0 call20<|nwc 0<|xe2<|ef 0<|aac<|sh 1 0 [5]<|lgg 0 0 [] 6<|sg 0 2 []<|an<|rss 0<|qgg 2 [] 6<|qee)<|lgg 1 0 [] 6<|sg 0 2 []<|an<|rss 0<|qgg 2 [] 6<|qee
def m_P5(b:World)(K:(Option Addr)->WP):Prop:=∀p1 a,New b (.cells #[Sl.nil.v,Sl.nil.v,Sl.nil.v] 44) p1 a->K (some p1) a
def w_P5(a:World)(K:(Option Addr)->WP)(h:m_P5  a K):
  cl 44 #[] a<|XD K:=
 cwN func44 h<|nwn 2<|rr 1
def s_W2(a:Int):Bool:=((a==8) ||(a==9))
def p_W2(a:Int)(d:World):cl 174 #[(.int .i64 a)] d (fun e w'=>e=.returned (.bool<|s_W2 a)/\Pure d w'):=
 cwp func174 [] (fun b=>(vb<|(a==8) ||(a==9))) fun f=>pj 1 0 [] [] (fun b=>[(2,(vb<|(a==8) ||(a==9)))]) (fun g=>ct 3 3<|pj 0 0 [(a==8)] [] (fun b=>[(8,(vb<|(b 0) ||(a==9)))]) (fun c=>pb 1 0 0 c (fun c=>pe 3 0 c)<|fun c=>pe 3 0 c)<|pe 1 0 g)<|qpe 0 f
def s_R(a:Int):Bool:=((((a==1) ||(a==6)) ||(a==7)) ||((a==8) ||(a==9)))
def p_R(a:Int)(g:World):cl 172 #[(.int .i64 a)] g (fun e w'=>e=.returned (.bool<|s_R a)/\Pure g w'):=
 cwp func172 [] (fun b=>(vb<|(((a==1) ||(a==6)) ||(a==7)) ||((a==8) ||(a==9)))) fun h=>pj 1 0 [] [] (fun b=>[(2,(vb<|(((a==1) ||(a==6)) ||(a==7)) ||((a==8) ||(a==9))))]) (fun i=>ct 3 3<|pj 0 0 [(a==1)] [0] (fun b=>[(8,(vb<|(b 0) ||(a==6)))]) (fun d=>pb 1 0 0 d (fun d=>pe 3 0 d)<|fun d=>pe 3 0 d)<|ct 1 3<|pj 0 0 [((a==1) ||(a==6))] [0] (fun b=>[(12,(vb<|(b 0) ||(a==7)))]) (fun c=>pb 1 0 0 c (fun c=>pe 3 0 c)<|fun c=>pe 3 0 c)<|ct 1 3<|pj 0 0 [(((a==1) ||(a==6)) ||(a==7))] [] (fun b=>[(16,(vb<|(b 0) ||((a==8) ||(a==9))))]) (fun f=>pb 1 0 0 f (fun f=>pe 3 0 f)<|fun f=>cp 1 call174 (p_W2 a)<|pe 1 0 f)<|pe 1 0 i)<|qpe 0 h
def s_H2(a g:Int)(d f:Int)(b:ByteArray)(c e:Int):Bool:=(!((decide (a<1)) ||(decide (a>9)))&&(((((((s_R a) ||(g==0))&&(((a==8) ||(a==9)) ||(d==0)))&&((a==2) ||(f==0)))&&((a==3) ||(decide (b=⟨#[]⟩))))&&((decide ((s_A a)>=1)) ||(c==0)))&&((((s_A a):Int)==2) ||(e==0))))
def p_H2(a o:Int)(p q:Int)(r:ByteArray)(s t:Int)(x:World):cl 171 #[(.agg #[(.int .i64 a),(.int .i64 o),(.int .i64 p),(.int .u64 q),(.string r),(.int .i64 s),(.int .i64 t)])] x (fun e w'=>e=.returned (.bool<|s_H2 a o p q r s t)/\Pure x w'):=
 cwp func171 [((decide (a<1)) ||(decide (a>9)))] (fun b=>(vb<|!(b 0)&&(((((((s_R a) ||(o==0))&&(((a==8) ||(a==9)) ||(p==0)))&&((a==2) ||(q==0)))&&((a==3) ||(decide (r=⟨#[]⟩))))&&((decide ((s_A a)>=1)) ||(s==0)))&&((((s_A a):Int)==2) ||(t==0))))) fun u=>nh 0<|pj 1 0 [(decide (a<1))] [1] (fun b=>[(10,(vb<|(b 0) ||(decide (a>9))))]) (fun v=>lh 1 0 []<|pb 1 2 0 v (fun v=>pe 4 0 v)<|fun v=>lh 1 0 []<|pe 2 0 v)<|pb 0 0 0 u (fun u=>qpe 2 u)<|fun u=>pj 1 0 [] [] (fun b=>[(2,(vb<|((((((s_R a) ||(o==0))&&(((a==8) ||(a==9)) ||(p==0)))&&((a==2) ||(q==0)))&&((a==3) ||(decide (r=⟨#[]⟩))))&&((decide ((s_A a)>=1)) ||(s==0)))&&((((s_A a):Int)==2) ||(t==0))))]) (fun w=>lh 1 0 []<|cp 0 call172 (p_R a)<|ct 1 4<|pj 0 0 [(s_R a)] [1] (fun b=>[(18,(vb<|(b 0) ||(o==0)))]) (fun c=>pb 1 0 0 c (fun c=>pe 4 0 c)<|fun c=>lh 1 0 [1]<|pe 2 0 c)<|ct 1 9<|pj 0 0 [((s_R a) ||(o==0))] [1] (fun b=>[(28,(vb<|(b 0)&&(((a==8) ||(a==9)) ||(p==0))))]) (fun k=>pb 1 0 0 k (fun k=>lh 1 0 []<|cp 0 call174 (p_W2 a)<|ct 1 4<|pj 0 0 [((a==8) ||(a==9))] [1,19] (fun b=>[(27,(vb<|(b 0) ||(p==0)))]) (fun h=>pb 1 0 0 h (fun h=>pe 4 0 h)<|fun h=>lh 1 0 [2]<|pe 2 0 h)<|pe 1 0 k)<|fun k=>pe 9 0 k)<|ct 1 9<|pj 0 0 [(((s_R a) ||(o==0))&&(((a==8) ||(a==9)) ||(p==0)))] [1] (fun b=>[(38,(vb<|(b 0)&&((a==2) ||(q==0))))]) (fun g=>pb 1 0 0 g (fun g=>lh 1 0 []<|ct 2 4<|pj 0 0 [(a==2)] [1,29] (fun b=>[(37,(vb<|(b 0) ||(q==0)))]) (fun l=>pb 1 0 0 l (fun l=>pe 4 0 l)<|fun l=>lh 1 0 [3]<|pe 2 0 l)<|pe 1 0 g)<|fun g=>pe 9 0 g)<|ct 1 9<|pj 0 0 [((((s_R a) ||(o==0))&&(((a==8) ||(a==9)) ||(p==0)))&&((a==2) ||(q==0)))] [1] (fun b=>[(48,(vb<|(b 0)&&((a==3) ||(decide (r=⟨#[]⟩)))))]) (fun n=>pb 1 0 0 n (fun n=>lh 1 0 []<|ct 2 4<|pj 0 0 [(a==3)] [1,39] (fun b=>[(47,(vb<|(b 0) ||(decide (r=⟨#[]⟩))))]) (fun i=>pb 1 0 0 i (fun i=>pe 4 0 i)<|fun i=>lh 1 0 [4]<|pe 2 0 i)<|pe 1 0 n)<|fun n=>pe 9 0 n)<|ct 1 10<|pj 0 0 [(((((s_R a) ||(o==0))&&(((a==8) ||(a==9)) ||(p==0)))&&((a==2) ||(q==0)))&&((a==3) ||(decide (r=⟨#[]⟩))))] [1] (fun b=>[(59,(vb<|(b 0)&&((decide ((s_A a)>=1)) ||(s==0))))]) (fun f=>pb 1 0 0 f (fun f=>lh 1 0 []<|cp 0 call65 (p_A a)<|ct 2 4<|pj 0 0 [(decide ((s_A a)>=1))] [1,49] (fun b=>[(58,(vb<|(b 0) ||(s==0)))]) (fun j=>pb 1 0 0 j (fun j=>pe 4 0 j)<|fun j=>lh 1 0 [5]<|pe 2 0 j)<|pe 1 0 f)<|fun f=>pe 10 0 f)<|ct 1 10<|pj 0 0 [((((((s_R a) ||(o==0))&&(((a==8) ||(a==9)) ||(p==0)))&&((a==2) ||(q==0)))&&((a==3) ||(decide (r=⟨#[]⟩))))&&((decide ((s_A a)>=1)) ||(s==0)))] [] (fun b=>[(70,(vb<|(b 0)&&((((s_A a):Int)==2) ||(t==0))))]) (fun d=>pb 1 0 0 d (fun d=>lh 1 0 []<|cp 0 call65 (p_A a)<|ct 2 4<|pj 0 0 [(((s_A a):Int)==2)] [60] (fun b=>[(69,(vb<|(b 0) ||(t==0)))]) (fun m=>pb 1 0 0 m (fun m=>pe 4 0 m)<|fun m=>lh 1 0 [6]<|pe 2 0 m)<|pe 1 0 d)<|fun d=>pe 10 0 d)<|pe 1 0 w)<|qpe 0 u
def s_Q5(n1:Int):Bool:=((decide (n1>=0))&&(decide (n1<16)))
def p_Q5(n1:Int)(c:World):cl 173 #[(.int .i64 n1)] c (fun e w'=>e=.returned (.bool<|s_Q5 n1)/\Pure c w'):=
 cwp func173 [] (fun b=>(vb<|(decide (n1>=0))&&(decide (n1<16)))) fun d=>pj 1 0 [] [] (fun b=>[(2,(vb<|(decide (n1>=0))&&(decide (n1<16))))]) (fun f=>ct 3 3<|pj 0 0 [(decide (n1>=0))] [] (fun b=>[(8,(vb<|(b 0)&&(decide (n1<16))))]) (fun a=>pb 1 0 0 a (fun a=>pe 3 0 a)<|fun a=>pe 3 0 a)<|pe 1 0 f)<|qpe 0 d
def s_A1(a c:Int)(b g:Int)(d:ByteArray)(e f:Int):Int:=(cond (!(s_H2 a c b g d e f)) 53<|cond (((s_R a)&&(!((decide (c>=0))&&(decide (c<16))))) ||(((a==8) ||(a==9))&&((!((decide (b>=0))&&(decide (b<16)))) ||(c==b)))) 50<|cond (decide ((d.size:Int)>64)) 1 0)
def p_A1(c d:Int)(a n:Int)(g:ByteArray)(l m:Int)(o:World):cl 120 #[(.agg #[(.int .i64 c),(.int .i64 d),(.int .i64 a),(.int .u64 n),(.string g),(.int .i64 l),(.int .i64 m)])] o (fun e w'=>e=.returned (.int .i64<|s_A1 c d a n g l m)/\Pure o w'):=
 cwp func120 [(!(s_H2 c d a n g l m)),(((s_R c)&&(!((decide (d>=0))&&(decide (d<16))))) ||(((c==8) ||(c==9))&&((!((decide (a>=0))&&(decide (a<16)))) ||(d==a)))),(decide ((g.size:Int)>64))] (fun b=>(vi<|cond (b 0) 53<|cond (b 1) 50<|cond (b 2) 1 0)) fun f=>nh 0<|lgg 1 0 [] 7<|cp 0 call171 (p_H2 c d a n g l m)<|pb 0 1 0 f (fun f=>qpe 2 f)<|fun f=>pj 1 0 [((s_R c)&&(!((decide (d>=0))&&(decide (d<16)))))] [1] (fun b=>[(32,(vb<|(b 0) ||(((c==8) ||(c==9))&&((!((decide (a>=0))&&(decide (a<16)))) ||(d==a)))))]) (fun k=>lh 1 0 []<|cp 0 call172 (p_R c)<|ct 1 5<|pj 0 0 [(s_R c)] [1] (fun b=>[(14,(vb<|(b 0)&&(!((decide (d>=0))&&(decide (d<16))))))]) (fun h=>pb 1 0 0 h (fun h=>lh 1 0 [1]<|cp 0 call173 (p_Q5 d)<|pe 2 0 h)<|fun h=>pe 5 0 h)<|pb 1 1 0 k (fun k=>pe 17 0 k)<|fun k=>lh 1 0 []<|cp 0 call174 (p_W2 c)<|ct 1 12<|pj 0 0 [((c==8) ||(c==9))] [1,15] (fun b=>[(31,(vb<|(b 0)&&((!((decide (a>=0))&&(decide (a<16)))) ||(d==a))))]) (fun j=>pb 1 0 0 j (fun j=>lh 1 0 [2]<|cp 0 call173 (p_Q5 a)<|ct 2 6<|pj 0 0 [(!((decide (a>=0))&&(decide (a<16))))] [1,15,19] (fun b=>[(30,(vb<|(b 0) ||(d==a)))]) (fun i=>pb 1 0 0 i (fun i=>pe 6 0 i)<|fun i=>lh 1 0 [1]<|lh 1 0 [2]<|pe 2 0 i)<|pe 1 0 j)<|fun j=>pe 12 0 j)<|pe 1 0 k)<|pb 0 0 1 f (fun f=>qpe 2 f)<|fun f=>lh 2 0 [4]<|pb 0 2 2 f (fun f=>qpe 2 f)<|fun f=>qpe 2 f
def m_R5(p1:Option Addr)(b:Int)(e:World)(K:Int->WP):Prop:=cl 112 #[(vp p1),(vi b)] e<|XC fun r1 a=>Br (!r1) (K 0 a)<|∃a1,p1=some a1/\lx a (a1.add 1) fun d=>∃a2:Addr,At d (q6.wrap<|b-1) 1 a2/\li a a2 fun c=>K c a
def w_R5(p1 t1 w0 K)(h:m_R5 p1 t1 w0 K):
  cl 113 #[(vp p1),(vi t1)] w0<|XB K:=
 cwN func113 h<|cn1 3 call112<|br 0 1 (rr 2)<|nc 2<|ld 1<|ix 2<|ld 0<|rr 1
def m_S5(p1:Option Addr)(b:Int)(e:World)(K:Int->WP):Prop:=cl 112 #[(vp p1),(vi b)] e<|XC fun r1 a=>Br (!r1) (K 0 a)<|∃a1,p1=some a1/\lx a (a1.add 2) fun d=>∃a2:Addr,At d (q6.wrap<|b-1) 1 a2/\li a a2 fun c=>K c a
def w_S5(p1 t1 w0 K)(h:m_S5 p1 t1 w0 K):
  cl 121 #[(vp p1),(vi t1)] w0<|XB K:=
 cwN func121 h<|cn1 3 call112<|br 0 1 (rr 2)<|nc 2<|ld 1<|ix 2<|ld 0<|rr 1
def tP(a0 a1:Int)(a2 a3:Int)(a4:ByteArray)(a5 a:Int)(b0 b1:Int)(b2 b3:Int)(b4:ByteArray)(b5 b6:Int)(w:World):(Go.binOp .eql 119 (.agg #[(.int .i64 a0),(.int .i64 a1),(.int .i64 a2),(.int .u64 a3),(.string a4),(.int .i64 a5),(.int .i64 a)])<|.agg #[(.int .i64 b0),(.int .i64 b1),(.int .i64 b2),(.int .u64 b3),(.string b4),(.int .i64 b5),(.int .i64 b6)]).run prog w=.ok (.bool<|(a0==b0)&&((a1==b1)&&((a2==b2)&&((a3==b3)&&((decide (a4=b4))&&((a5==b5)&&(a==b6))))))) w:=by
 simp[Go.binOp,Op.equal,Op.maxDepth,go_sem,zBS,bne]
 repeat' split
 all_goals simp_all
def m_X1_l1(p1:Option Addr)(m r:Int)(t l:Int)(o:ByteArray)(s p i1:Int)(q:World)(b:NP)(a:World)(d:Int->NP->WP)(K:Int->Bool->WP):Prop:=∃a1,p1=some a1/\lx a a1 fun u=>Br (decide (i1<(u.len:Int))) (∃a2,p1=some a2/\∀c,Hst q b a b c->lx c a2 fun n=>∃a3:Addr,At n i1 7 a3/\∃j f g k i e h,Row c a3 (Ab j f g k i e h)/\Br ((j==m)&&((f==r)&&((g==t)&&((k==l)&&((decide (i=o))&&((e==s)&&(h==p))))))) (K (q6.wrap<|i1+1) true c) (d (q6.wrap<|i1+1) b c))<|K 0 false a
def m_X1(p1:Option Addr)(i n:Int)(m p:Int)(k:ByteArray)(l o:Int)(e:World)(K:Int->Bool->WP):Prop:=∀h g,Hst e None e h g->∃(f:Int->NP->WP) (d:Int->World->Nat),f 0 h g/\∀(i1:Int) (b:NP) (a:World),Hst e b a b a->f i1 b a->m_X1_l1 p1 i n m p k l o i1 e b a (fun c j w'=>f c j w'/\d c w'<d i1 a) K
def w_X1(p1 aA aC aB aI aG aH aE w0 K)(h:m_X1 p1 aA aC aB aI aG aH aE w0 K):
  cl 122 #[(vp p1),(.agg #[(vi aA),(vi aC),(vi aB),(vu aI),(vs aG),(vi aH),(vi aE)])] w0<|XE K:=
 cwH func122 h<|nh 0<|ah<|wa1 3 [0,3] (fun i1=>[(6,(vi i1))])<|fun {_ _ i1}=>fun c=>nc 2<|ld 1<|br 0 2 (dq 1<|nc 1<|an<|ld 1<|ix 1<|xe6<|fun {i e d g a b}=>xe<|fun {f}=>lr 0<|lgg 0 0 [] 7<|ae 0 (tP i e d g a b f aA aC aB aI aG aH aE)<|br 0 0 (rr 5)<|je 4 0 c)<|rr 3
def m_T_j1(p1:Option Addr)(J T:Int)(W E:Int)(P:ByteArray)(t s:Int)(Y:Bool)(S:World)(H:NP)(w:World)(K:Int->Int->WP):Prop:=Br Y (K 0 51 w)<|∃C:WP,C w.drew/\∀A,A=w.drew->cl 113 #[(vp p1),(vi t)] A fun e r=>∃r1,e=.returned (vi r1)/\C r/\Kept H A r/\cl 113 #[(vp p1),(vi s)] r fun e q=>∃r2,e=.returned (vi r2)/\C q/\Kept H r q/\∃o:WP,o q.drew/\∀B,B=q.drew->cl 121 #[(vp p1),(vi t)] B fun e p=>∃r3,e=.returned (vi r3)/\o p/\Kept H B p/\cl 121 #[(vp p1),(vi s)] p fun e u=>∃I,e=.returned (vi I)/\o u/\Kept H p u/\∃z,(∀w',o w'->(Builtin.max_ #[3,3] 3 #[(vi r3),(vi I)]).run prog w'=.ok (vi z) w')/\∀U:Bool,U=((decide ((q6.wrap<|(q6.wrap<|1+r1)+r2)>4096)) ||(decide ((q6.wrap<|1+z)>64)))->Br U (∀d b,Hst S H u d b->K 0 52 b) (∀d b,Hst S H u d b->cl 122 #[(vp p1),(.agg #[(vi J),(vi T),(vi W),(vu E),(vs P),(vi t),(vi s)])] b (XE fun Z r6 a=>Kept d b a/\Br r6 (K Z 0 a) (∃a1,p1=some a1/\∃X:Sl,a.cell? a1=some X.v/\Br (decide ((X.len:Int)>=65536)) (K 0 6 a) (∃y:WP,y a.drew/\∀n,n=a.drew->∃a2,p1=some a2/\∃L:Sl,(∀w',y w'->w'.cell? a2=some L.v)/\∀p3 g,New n (.cells #[(vi J),(vi T),(vi W),(vu E),(vs P),(vi t),(vi s)] 119) p3 g->y g/\∃s1:Sl,∃c:World,(Builtin.append_ #[41,41] 41 #[L.v,(Sl.mk (some p3) 1 1).v]).run prog g=.ok s1.v c/\y c/\Kept d g c/\∃a3,p1=some a3/\zV c a3/\¬d a3.block/\∀m,m=c.setCell a3 s1.v->∃a4,p1=some a4/\∃F:Sl,m.cell? (a4.add 1)=some F.v/\∀Q j,New m (.cells #[(vi<|q6.wrap<|(q6.wrap<|1+r1)+r2)] 3) Q j->∃N:Sl,∃h:World,(Builtin.append_ #[42,42] 42 #[F.v,(Sl.mk (some Q) 1 1).v]).run prog j=.ok N.v h/\Kept d j h/\∃a5,p1=some a5/\zV h (a5.add 1)/\¬d (a5.add 1).block/\∀l,l=h.setCell (a5.add 1) N.v->∃R,p1=some R/\∃V:Sl,l.cell? (R.add 2)=some V.v/\∀D k,New l (.cells #[(vi<|q6.wrap<|1+z)] 3) D k->∃O:Sl,∃f:World,(Builtin.append_ #[42,42] 42 #[V.v,(Sl.mk (some D) 1 1).v]).run prog k=.ok O.v f/\Kept d k f/\∃x,p1=some x/\zV f (x.add 2)/\¬d (x.add 2).block/\∀i,i=f.setCell (x.add 2) O.v->∃G,p1=some G/\∃M:Sl,i.cell? G=some M.v/\K (M.len:Int) 0 i))))
def m_T_j2(p1:Option Addr)(b i:Int)(f g:Int)(d:ByteArray)(e c:Int)(k:Bool)(h:World)(H:NP)(w:World)(K:Int->Int->WP):Prop:=Br k (m_T_j1 p1 b i f g d e c true h H w K)<|Br (((s_A b):Int)==2) (cl 112 #[(vp p1),(vi c)] w<|XC fun j a=>Kept H w a/\m_T_j1 p1 b i f g d e c (!j) h H a K) (m_T_j1 p1 b i f g d e c false h H w K)
def m_T(p1:Option Addr)(d k:Int)(h j:Int)(g:ByteArray)(e i:Int)(b:World)(K:Int->Int->WP):Prop:=Br (((s_A1 d k h j g e i):Int) !=0) (∀a l,Hst b None b a l->K 0 (s_A1 d k h j g e i) l)<|Br (decide ((s_A d)>=1)) (∀a c,Hst b None b a c->cl 112 #[(vp p1),(vi e)] c (XC fun m f=>Kept a c f/\m_T_j2 p1 d k h j g e i (!m) b a f K))<|∀a c,Hst b None b a c->m_T_j2 p1 d k h j g e i false b a c K
def w_T(p1 aA aC aB aI aG aH aE w0 K)(h:m_T p1 aA aC aB aI aG aH aE w0 K):
  cl 60 #[(vp p1),(.agg #[(vi aA),(vi aC),(vi aB),(vu aI),(vs aG),(vi aH),(vi aE)])] w0<|XH K:=
 cwH func60 h<|nh 0<|lgg 2 0 [] 7<|cp 0 call120 (p_A1 aA aC aB aI aG aH aE)<|br 0 3 (ah<|rr 4)<|lh 2 0 []<|cp 0 call65 (p_A aA)<|ja1 1 0 [0,3] (fun c=>[(39,(vb c))]) (fun c H w=>m_T_j1 _ _ _ _ _ _ _ _ c _ H w _) (fun e=>ct 3 6<|ja1 0 0 [0,3,7] (fun d=>[(28,(vb d))]) (fun d H w=>m_T_j2 _ _ _ _ _ _ _ _ d _ H w _) (fun f=>br 1 0 (lh 2 0 [5]<|ah<|ca1 0 call112<|je 2 0 f)<|ah<|je 6 0 f)<|fun {d}=>br 1 1 (je 10 0 e)<|br 1 3 (lh 2 0 [6]<|ca1 0 call112<|je 3 0 e)<|je 7 0 e)<|fun {c}=>br 0 0 (rr 3)<|dC 1 [3,8] []<|lhc 2 0 [5]<|lhc 2 0 [6]<|cd1 0 call113<|fun {r1}=>cd1 1 call113<|fun {r2}=>dC 2 [3,7] []<|lhc 2 0 [5]<|lhc 2 0 [6]<|cd1 0 call121<|cd1 0 call121<|xe<|fun {g}=>rnc 0<|pj 2 0 [(decide ((q6.wrap<|(q6.wrap<|1+r1)+r2)>4096))] [0,3,8,9] (fun b=>[(65,(vb<|(b 0) ||(decide ((q6.wrap<|1+g)>64))))]) (fun a=>pb 1 3 0 a (fun a=>pe 3 0 a)<|fun a=>pe 3 0 a)<|yy<|br 0 0 (ah<|rr 3)<|lgg 2 0 [] 7<|ah<|ca2 0 call122<|br 0 6 (rr 4)<|nc 2<|ld 1<|br 0 2 (rr 3)<|dC 1 [6,7,10] [10]<|nc 2<|ldc 1<|lgc 0 0 [] 7<|nwc 0<|xe2<|ef 0<|aac<|nc 0<|ssh 1<|nc 2<|ld 1<|nwh 1<|xe2<|ef 0<|aah<|nc 0<|ssh 1<|nc 2<|ld 1<|nwh 1<|xe2<|ef 0<|aah<|nc 0<|ssh 1<|nc 1<|ld 1<|rr 3
def m_E1_j1(a:Option Addr)(d:Int)(s:Bool)(w:World)(K:WP):Prop:=Br s (K w)<|∃a1,a=some a1/\lx w (a1.add 1) fun y=>∃a2:Addr,At y d 1 a2/\zV w a2/\∀c,c=w.setCell a2 (vb true)->∃a3,a=some a3/\lp c a3 fun q=>∃a4,q=some a4/\lx c a4 fun p=>∃a5:Addr,At p (q6.wrap<|d-1) 7 a5/\li c (a5.add 5) fun x=>cl 123 #[(vp a),(vi x)] c fun e f=>e=.returned (.tuple #[])/\∃m,a=some m/\lp f m fun t=>∃n,t=some n/\lx f n fun o=>∃i:Addr,At o (q6.wrap<|d-1) 7 i/\li f (i.add 6) fun r=>cl 123 #[(vp a),(vi r)] f fun e j=>e=.returned (.tuple #[])/\∃h,a=some h/\lx j (h.add 2) fun u=>∀p1 k,New j (.cells #[(vi d)] 73) p1 k->∃s1:Sl,∃g:World,(Builtin.append_ #[46,46] 46 #[u.v,(Sl.mk (some p1) 1 1).v]).run prog k=.ok s1.v g/\∃b,a=some b/\zV g (b.add 2)/\∀l,l=g.setCell (b.add 2) s1.v->K l
def m_E1(f:Option Addr)(d:Int)(i:World)(K:WP):Prop:=∃c,f=some c/\lp i c fun j=>cl 112 #[(vp j),(vi d)] i<|XC fun r1 e=>Br (!r1) (m_E1_j1 f d true e K)<|∃b,f=some b/\lx e (b.add 1) fun g=>∃a:Addr,At g d 1 a/\lb e a fun h=>m_E1_j1 f d h e K
def w_E1(w1 t1 w0 K)(h:m_E1 w1 t1 w0 K):
  cl 123 #[(vp w1),(vi t1)] w0<|fun e w'=>e=.returned (.tuple #[])/\K  w':=
 cwN func123 h<|jc1 0 0 [0,1] (fun a=>[(19,(vb a))]) (fun a w=>m_E1_j1 _ _ a w _) (fun b=>nc 1<|ld 1<|cn1 1 call112<|br 1 2 (jen 8 b)<|nc 1<|ld 1<|ix 1<|ld 0<|jen 1 b)<|fun {a}=>br 0 0 (rr 1)<|nc 2<|ld 1<|ix 1<|ssn 0<|nc 2<|ld 1<|nc 0<|ld 1<|ix 2<|ld 1<|cn0 0 call123<|nc 2<|ld 1<|nc 0<|ld 1<|ix 2<|ld 1<|cn0 0 call123<|nc 2<|ld 1<|nwn 1<|xe2<|ef 0<|aan<|nc 0<|ssn 1<|rr 0
def m_T5(p1:Option Addr)(i:Int)(h:World)(K:Sl->WP):Prop:=∃a1,p1=some a1/\∃b:Sl,h.cell? a1=some b.v/\∃s1:Sl,∃f:World,(Instr.makeSlice 189 (vi<|q6.wrap<|(b.len:Int)+1)<|vi<|q6.wrap<|(b.len:Int)+1).run prog h=.ok s1.v f/\∀a d,New f (.cells #[(vp p1),s1.v,Sl.nil.v] 191) a d->cl 123 #[(vp<|some a),(vi i)] d fun e g=>e=.returned (.tuple #[])/\∃c:Sl,g.cell? (a.add 2)=some c.v/\K c g
def w_T5(p1 t1 w0 K)(h:m_T5 p1 t1 w0 K):
  cl 61 #[(vp p1),(vi t1)] w0<|XA K:=
 cwN func61 h<|nc 3<|ld 1<|xe2<|ef 2<|aan<|nwn 1<|cn0 3 call123<|ld 3<|rr 1
def s_K1(e c:Int)(a d:Int)(b:ByteArray)(f:Sl):Int×Int×Int×Int×ByteArray×Int×Int:=(e,c,a,d,b,0,0)
def p_K1(g d:Int)(a f:Int)(c:ByteArray)(h:Sl)(i:World):cl 211 #[(.agg #[(.int .i64 g),(.int .i64 d),(.int .i64 a),(.int .u64 f),(.string c),h.v])] i (fun e w'=>e=.returned (.agg #[(.int .i64 (s_K1 g d a f c h).1),(.int .i64 (s_K1 g d a f c h).2.1),(.int .i64 (s_K1 g d a f c h).2.2.1),(.int .u64 (s_K1 g d a f c h).2.2.2.1),(.string (s_K1 g d a f c h).2.2.2.2.1),(.int .i64 (s_K1 g d a f c h).2.2.2.2.2.1),(.int .i64 (s_K1 g d a f c h).2.2.2.2.2.2)])/\Pure i w'):=
 cwp func211 [] (fun b=>(Ae g d a f c 0 0)) fun j=>nh 0<|nh 0<|lh 1 1 []<|lh 1 1 [1]<|lh 1 1 [2]<|lh 1 1 [3]<|lh 1 1 [4]<|sg 1 0 []<|rss 0<|qgg 0 [] 7<|qpf j
def m_B1_l2(m:Sl)(c:Int)(b:Option Addr)(i i1:Int)(l:World)(g:NP)(f:World)(h:Int->Int->NP->WP)(K:Int->WP):Prop:=Br ((i==0)&&(decide (i1<(m.len:Int)))) (∃a3:Addr,At m i1 6 a3/\∀d a,Hst l g f d a->∃q o p k j n,Row a a3 (Ac q o p k j n)/\cl 210 #[(.agg #[(vi q),(vi o),(vi p),(vu k),(vs j),n.v]),(vi<|q6.wrap<|c+1),(vp b)] a (XB fun r1 e=>Kept d a e/\h r1 (q6.wrap<|i1+1) d e))<|∀d a,Hst l g f d a->K i a
def m_B1_j1(k n:Int)(r o:Int)(m:ByteArray)(t:Sl)(d:Int)(a:Option Addr)(v:Bool)(l:World)(H:NP)(w:World)(K:Int->WP):Prop:=Br v (K 52 w)<|∃a1,a=some a1/\li w a1 fun x=>∃a2,a=some a2/\zV w a2/\¬H a2.block/\∀p,p=w.setCell a2 (vi<|q6.wrap<|x+1)->∀s:Bool,s=((((s_A1 k n r o m 0 0):Int) !=53)&&(((t.len:Int):Int) !=(s_A k)))->∀q g,Hst l H p q g->∃(j:Int->Int->NP->WP) (e:Int->Int->World->Nat),j (cond s 53<|s_A1 k n r o m 0 0) 0 q g/\∀(i i1:Int) (c:NP) (b:World),Hst l c b c b->j i i1 c b->m_B1_l2 t d a i i1 l c b (fun f h u w'=>j f h u w'/\e f h w'<e i i1 b) K
def m_B1(n k:Int)(i l:Int)(j:ByteArray)(m:Sl)(b:Int)(a:Option Addr)(d:World)(K:Int->WP):Prop:=∃a4,a=some a4/\∀g e,Hst d None d g e->li e a4 fun h=>∀f c,Hst d g e f c->m_B1_j1 n k i l j m b a ((decide (h>=4096)) ||(decide (b>=64))) d f c K
def w_B1(aF aJ aK aL aM aD deep1 seen1 w0 K)(h:m_B1 aF aJ aK aL aM aD deep1 seen1 w0 K):
  cl 210 #[(.agg #[(vi aF),(vi aJ),(vi aK),(vu aL),(vs aM),aD.v]),(vi deep1),(vp seen1)] w0<|XB K:=
 cwH func210 h<|nh 0<|ja1 1 0 [1,2,3] (fun f=>[(16,(vb f))]) (fun f H w=>m_B1_j1 _ _ _ _ _ _ _ _ f _ H w _) (fun k=>nc 1<|ah<|ld 0<|fun {i}=>ct 2 3<|pj 0 0 [(decide (i>=4096))] [1,2,3] (fun b=>[(16,(vb<|(b 0) ||(decide (deep1>=64))))]) (fun a=>pb 1 0 0 a (fun a=>pe 3 0 a)<|fun a=>pe 3 0 a)<|ah<|je 0 0 k)<|fun {f}=>br 0 0 (rr 2)<|nc 3<|ld 0<|nc 1<|ssh 0<|lgg 0 0 [] 6<|cp 0 call211 (p_K1 aF aJ aK aL aM aD)<|cp 0 call120 (p_A1 aF aJ aK aL aM 0 0)<|pj 1 0 [(((s_A1 aF aJ aK aL aM 0 0):Int) !=53)] [1,2,3,7] (fun b=>[(36,(vb<|(b 0)&&(((aD.len:Int):Int) !=(s_A aF))))]) (fun c=>dss 0 [8] []<|pb 1 3 0 c (fun c=>lhs 1 0 0 [5]<|lhs 2 0 0 []<|cps 0 0 call65 (p_A aF)<|pe 2 0 c)<|fun c=>pe 8 0 c)<|yy<|pj 0 0 [((((s_A1 aF aJ aK aL aM 0 0):Int) !=53)&&(((aD.len:Int):Int) !=(s_A aF)))] [1,2,3] (fun b=>[(7,(vi<|cond (b 0) 53<|s_A1 aF aJ aK aL aM 0 0))]) (fun d=>pb 0 0 0 d (fun d=>pe 2 0 d)<|fun d=>pe 1 0 d)<|ah<|wa2 1 [1,2,3] (fun g i1=>[(7,(vi g)),(8,(vi i1))])<|fun {_ _ g i1}=>fun j=>pj 0 0 [(g==0)] [1,2,3,7,8] (fun b=>[(45,(vb<|(b 0)&&(decide (i1<(aD.len:Int)))))]) (fun e=>pb 1 3 0 e (fun e=>lh 2 0 [5]<|pe 3 0 e)<|fun e=>pe 6 0 e)<|br 0 0 (lh 2 0 [5]<|ix 1<|ah<|xe6<|lr 0<|ca1 3 call210<|je 4 0 j)<|ah<|rr 3
def m_U5(m j:Int)(h k:Int)(i:ByteArray)(l:Sl)(g:World)(K:Int->WP):Prop:=∀d f,Hst g None g d f->∀a b,New f (.cells #[(vi 0)] 3) a b->zV b a/\¬d a.block/\∀c,c=b.setCell a (vi 0)->cl 210 #[(.agg #[(vi m),(vi j),(vi h),(vu k),(vs i),l.v]),(vi 0),(vp<|some a)] c (XB fun r1 e=>Kept d c e/\K r1 e)
def w_U5(aF aJ aK aL aM aD w0 K)(h:m_U5 aF aJ aK aL aM aD w0 K):
  cl 152 #[(.agg #[(vi aF),(vi aJ),(vi aK),(vu aL),(vs aM),aD.v])] w0<|XB K:=
 cwH func152 h<|nh 0<|ah<|nwh 1<|ssh 0<|lgg 0 0 [] 6<|ca1 0 call210<|rr 1
def m_Y1_l1(p1:Option Addr)(s:Sl)(i1 h:Int)(p t f:Int)(l:ByteArray)(r o:Int)(x:World)(b:NP)(a:World)(d:Int->Int->Int->Int->Int->ByteArray->Int->Int->NP->WP)(K:Int->Int->WP):Prop:=Br (decide (i1<(s.len:Int))) (∃a1:Addr,At s i1 6 a1/\∃q i j u m n,Row a a1 (Ac q i j u m n)/\cl 153 #[(vp p1),(.agg #[(vi q),(vi i),(vi j),(vu u),(vs m),n.v])] a (XH fun r1 r2 e=>Kept b a e/\Br (r2 !=0) (K 0 r2 e) (∀k g,Hst x b e k g->d (q6.wrap<|i1+1) h p t f l (cond (i1==0) r1 r) (cond (i1==0) o r1) k g)))<|cl 60 #[(vp p1),(.agg #[(vi h),(vi p),(vi t),(vu f),(vs l),(vi r),(vi o)])] a<|XH fun r3 w c=>Kept b a c/\K r3 w c
def m_Y1(p1:Option Addr)(B y:Int)(A z:Int)(w:ByteArray)(C:Sl)(l:World)(K:Int->Int->WP):Prop:=∀v u,Hst l None l v u->∃(o:Int->Int->Int->Int->Int->ByteArray->Int->Int->NP->WP) (c:Int->Int->Int->Int->Int->ByteArray->Int->Int->World->Nat),o 0 B y A z w 0 0 v u/\∀(i1 n:Int) (r t m:Int) (p:ByteArray) (s q:Int) (b:NP) (a:World),Hst l b a b a->o i1 n r t m p s q b a->m_Y1_l1 p1 C i1 n r t m p s q l b a (fun f g k e j d h i x w'=>o f g k e j d h i x w'/\c f g k e j d h i w'<c i1 n r t m p s q a) K
def w_Y1(p1 aF aJ aK aL aM aD w0 K)(h:m_Y1 p1 aF aJ aK aL aM aD w0 K):
  cl 153 #[(vp p1),(.agg #[(vi aF),(vi aJ),(vi aK),(vu aL),(vs aM),aD.v])] w0<|XH K:=
 cwH func153 h<|nh 0<|lgg 2 0 [] 6<|cp 0 call211 (p_K1 aF aJ aK aL aM aD)<|nh 0<|sg 0 0 []<|ah<|wb8 1 [0,3,6] (fun i1 c j f i d e g=>[(7,(vi i1))]) (fun i1 c j f i d e g l=>hpt l 0 0<|Ab c j f i d e g)<|fun {_ _ i1 c j f i d e g}=>fun k=>lh 2 1 [5]<|br 0 2 (lh 3 1 [5]<|ix 1<|xe6<|lr 0<|ca2 0 call153<|fun {r1}=>br 0 7 (rr 4)<|ph (fun b l=>hpt l 0 0<|Ab c j f i d (cond (b 0) r1 e)<|cond (b 0) g r1) 3 0 [(i1==0)] [0,3,6,7] (fun b=>[]) (fun a=>pb 0 0 0 a (fun a=>sh 3 0 [5]<|pe 0 0 a)<|fun a=>sh 3 0 [6]<|pe 0 0 a)<|ah<|je 3 0 k)<|lgg 2 0 [] 7<|ca2 0 call60<|rr 4
def m_X2(p1:Option Addr)(n1:Int)(c:World)(K:WP):Prop:=∃a1,p1=some a1/\lx c a1 fun i=>∃s1:Sl,(Instr.sliceAt 41 i.v none (some<|vi n1) none).run prog c=.ok s1.v c/\∃a2,p1=some a2/\zV c a2/\∀b,b=c.setCell a2 s1.v->∃a3,p1=some a3/\lx b (a3.add 1) fun h=>∃e:Sl,(Instr.sliceAt 42 h.v none (some<|vi n1) none).run prog b=.ok e.v b/\∃a4,p1=some a4/\zV b (a4.add 1)/\∀a,a=b.setCell (a4.add 1) e.v->∃a5,p1=some a5/\lx a (a5.add 2) fun j=>∃f:Sl,(Instr.sliceAt 42 j.v none (some<|vi n1) none).run prog a=.ok f.v a/\∃d,p1=some d/\zV a (d.add 2)/\∀g,g=a.setCell (d.add 2) f.v->K g
def w_X2(p1 n1 w0 K)(h:m_X2 p1 n1 w0 K):
  cl 154 #[(vp p1),(vi n1)] w0<|fun e w'=>e=.returned (.tuple #[])/\K  w':=
 cwN func154 h<|nc 2<|ld 1<|xe<|rn 1<|nc 0<|ssn 1<|nc 2<|ld 1<|xe<|rn 1<|nc 0<|ssn 1<|nc 2<|ld 1<|xe<|rn 1<|nc 0<|ssn 1<|rr 0
def m_Y2(p1:Option Addr)(l i:Int)(f j:Int)(h:ByteArray)(k:Sl)(m:World)(K:Int->Int->WP):Prop:=∀c d,Hst m None m c d->cl 152 #[(.agg #[(vi l),(vi i),(vi f),(vu j),(vs h),k.v])] d fun e a=>∃r1,e=.returned (vi r1)/\Kept c d a/\Br (r1 !=0) (K 0 r1 a) (∃a1,p1=some a1/\lx a a1 fun n=>cl 153 #[(vp p1),(.agg #[(vi l),(vi i),(vi f),(vu j),(vs h),k.v])] a fun e b=>∃r2 r3,e=.returned (.tuple #[(vi r2),(vi r3)])/\Kept c a b/\Br (r3 !=0) (cl 154 #[(vp p1),(vi (n.len:Int))] b fun e g=>e=.returned (.tuple #[])/\Kept c b g/\K r2 r3 g) (K r2 r3 b))
def w_Y2(p1 aF aJ aK aL aM aD w0 K)(h:m_Y2 p1 aF aJ aK aL aM aD w0 K):
  cl 96 #[(vp p1),(.agg #[(vi aF),(vi aJ),(vi aK),(vu aL),(vs aM),aD.v])] w0<|XH K:=
 cwH func96 h<|nh 0<|lgg 2 0 [] 6<|ah<|ca1 0 call152<|br 0 3 (rr 4)<|nc 2<|ld 1<|lgg 3 0 [] 6<|ca2 0 call153<|br 0 7 (ca0 3 call154<|rr 4)<|rr 5
def m_M_j3(p1:Option Addr)(r2 s1 k:Sl)(i1 q:Int)(m p l:Int)(n:ByteArray)(j o:Int)(H:NP)(w:World)(f:Int->NP->WP)(K:Int->Int->WP):Prop:=cl 60 #[(vp p1),(.agg #[(vi q),(vi m),(vi p),(vu l),(vs n),(vi j),(vi o)])] w fun e a=>∃r3 g,e=.returned (.tuple #[(vi r3),(vi g)])/\Kept H w a/\Br (g !=0) (cl 154 #[(vp p1),(vi (k.len:Int))] a fun e c=>e=.returned (.tuple #[])/\Kept H a c/\K 0 g c) (∃i:Addr,At r2 i1 1 i/\∃h,a.cell? i=some (vi h)/\∃d:Addr,At s1 h 1 d/\zV a d/\¬H d.block/\∀b,b=a.setCell d (vi r3)->f (q6.wrap<|i1+1) H b)
def m_M_j2(p1:Option Addr)(r2 s1 d:Sl)(i1 e:Int)(l h j:Int)(f:ByteArray)(g c:Int)(m:World)(H:NP)(w:World)(b:Int->NP->WP)(K:Int->Int->WP):Prop:=Br (decide (c>0)) (∃k:Addr,At s1 c 1 k/\∃i,w.cell? k=some (vi i)/\∀a,Hst m H w H a->m_M_j3 p1 r2 s1 d i1 e l h j f g i H a b K)<|m_M_j3 p1 r2 s1 d i1 e l h j f g c H w b K
def m_M_l1(p1:Option Addr)(x:Option Addr)(w:Int)(r2 s1 r:Sl)(i1:Int)(g:World)(b:NP)(a:World)(e:Int->NP->WP)(K:Int->Int->WP):Prop:=Br (decide (i1<(r2.len:Int))) (∃a3,x=some a3/\∃q:Sl,a.cell? a3=some q.v/\¬b a3.block/\∃a4:Addr,At r2 i1 1 a4/\∃u,a.cell? a4=some (vi u)/\¬b a4.block/\∃a5:Addr,At q (q6.wrap<|u-1) 7 a5/\∃n j k o m i l,Row a a5 (Ab n j k o m i l)/\¬b a5.block/\Br (decide (i>0)) (∃p:Addr,At s1 i 1 p/\∀c d,Hst g b a c d->∃s,d.cell? p=some (vi s)/\∀f,Hst g c d c f->m_M_j2 p1 r2 s1 r i1 n j k o m s l g c f e K) (∀c d,Hst g b a c d->m_M_j2 p1 r2 s1 r i1 n j k o m i l g c d e K))<|∃h:Addr,At s1 w 1 h/\∃t,a.cell? h=some (vi t)/\K t 0 a
def m_M(p1:Option Addr)(i:Option Addr)(k:Int)(j:World)(K:Int->Int->WP):Prop:=cl 112 #[(vp i),(vi k)] j fun e g=>∃r1,e=.returned (vb r1)/\Kept None j g/\Br (!r1) (K 0 51 g) (cl 61 #[(vp i),(vi k)] g<|XA fun r2 f=>Kept None g f/\∃a1,i=some a1/\∃m:Sl,f.cell? a1=some m.v/\∃s1:Sl,∃h:World,(Instr.makeSlice 46 (vi<|q6.wrap<|(m.len:Int)+1)<|vi<|q6.wrap<|(m.len:Int)+1).run prog f=.ok s1.v h/\Kept None f h/\∃a2,p1=some a2/\∃n:Sl,h.cell? a2=some n.v/\∃(l:Int->NP->WP) (d:Int->World->Nat),l 0 None h/\∀(i1:Int) (b:NP) (a:World),Hst j b a b a->l i1 b a->m_M_l1 p1 i k r2 s1 n i1 j b a (fun c o w'=>l c o w'/\d c w'<d i1 a) K)
def w_M(p1 aU t1 w0 K)(h:m_M p1 aU t1 w0 K):
  cl 111 #[(vp p1),(vp aU),(vi t1)] w0<|XH K:=by
 refine cw (args:=[(vp p1),(vp aU),(vi t1)]) func111 ntmps111 ?_
 have⟨hs,b⟩:=st0 w0
 refine eg<|qb<|ln<|zL<|eg<|qb<|sc call112 (h.mono fun e w1 ⟨r1,k,r,h⟩=>have⟨hs,b⟩:=r.hh hs b;⟨_,k,?_⟩)
 refine q (ln<|cbr h ?_ ?_)<;>intro h
 refine eg<|qb<|ln<|er<|jMM<|res2 (.inl rfl) results111 (v:=(vi 0)) Kf (v':=(vi 51)) Kf ⟨0,51,rfl,h⟩
 refine vB<|uZ<|eg<|qb<|sc call61 (h.mono fun e w2 ⟨r2,k,r,h⟩=>have⟨hs,b⟩:=r.hh hs b;⟨_,k,?_⟩)
 refine q<|ln<|eg<|q<|qm h fun a1 h=>q<|ql (isAgg41 _) h fun v1 h=>qb ?_
 have⟨s1,w3,hv16,r,h⟩:=h
 refine st (v:=s1.v) (qE rfl) (jIH Kf Kf hv16) ?_
 have⟨hs,b⟩:=r.hh hs b
 refine q<|ln<|eg<|q<|qm h fun a2 h=>q<|ql (isAgg41 _) h fun I h=>qb<|ln<|zL<|eg<|q<|ln<|qD ?_
 have⟨I1,m,h0,hr⟩:=h
 refine jAW (σ:=Int×NP×World) (fun s ρ w=>w=s.2.2/\Has ρ [(0,(vp p1)),(1,(vp aU)),(2,(vi t1)),(8,r2.v),(9,s1.v),(10,(vi (I.len:Int))),(11,(vi s.1))]/\Hst w0 s.2.1 w s.2.1 w/\HB s.2.1 w []/\I1 s.1 s.2.1 s.2.2) (fun s=>m s.1 s.2.2) (0,None,w3) ⟨rfl,hm,hs,b,h0⟩ ?_
 rintro⟨i1,f,c⟩ ρ w ⟨hw,t,hs,b,hI⟩
 dsimp only at hw t hs b;subst w
 have h:=hr i1 f c hs hI
 refine yW t (zL<|eg<|qd<|ln<|cbr h ?_ ?_)<;>intro h
 refine vB<|uZ<|zL<|qD<|zL<|jGA (fun x=>∃o,Hst w0 f c o x/\HB o x []) [11,12] [12] Kf Kf Kf Kf ⟨_,hs.drew,b.drew⟩ ?_
 intro w4 Z
 have hs:Hst w0 f c f w4:=by rw[Z];exact hs.drew
 have b:HB f w4 []:=by rw[Z];exact b.drew
 refine qx 0 (vp aU) Kp0<|qg 1 ?_
 have⟨a3,hp3,h⟩:=h
 refine sy Kp1 (fun _ _=>xn hp3)<|qx 2 (vp<|some a3) Kp2<|qg 3 ?_
 have⟨v3,W,l,h⟩:=h
 refine sy (v:=v3.v) Kp3 (fun w' g=>by have⟨o,n,X⟩:=g;exact(xl (isAgg41 _)<|jDB W l n)) (qx 4 r2.v Kp4<|qx 5 (vi i1) Kp5<|qg 6 ?_)
 have⟨a4,S,h⟩:=h
 refine sy Kp6 (fun _ _=>xi (runUnderlying46 _) (sizeOf73 _) S)<|qg 7 ?_
 have⟨v4,hv10,l,h⟩:=h
 refine sy (v:=(vi v4)) Kp7 (fun w' g=>by have⟨o,n,X⟩:=g;exact(xl (isAgg73 _)<|jDB hv10 l n)) (qx 8 (vi<|q6.wrap<|v4-1) Kp8<|qg 9 ?_)
 have⟨a5,hv9,h⟩:=h
 refine sy Kp9 (fun _ _=>xi (runUnderlying41 _) (sizeOf119 _) hv9)<|qg 10 ?_
 have⟨y,E,A,z,C,aS,B,hv8,l,h⟩:=h
 refine sy (v:=(Ae y E A z C aS B)) (jAB<|S8<|yY<|yY jAA) (fun w' g=>by have⟨o,n,X⟩:=g;exact(xa a5 (Ab y E A z C aS B) (isAgg119 _) (sizeOf119 _)<|jMQ hv8 l n)) (jXW (fun ρ wJ=>∃p3:Addr,∃HJ:NP,Hst w0 f c HJ wJ/\HB HJ wJ [(p3,(Ab y E A z C aS B),119)]/\Has ρ [(0,(vp p1)),(1,(vp aU)),(2,(vi t1)),(8,r2.v),(9,s1.v),(10,(vi (I.len:Int))),(11,(vi i1)),(12,(vp<|some p3))]) ?_ ?_)
 refine lg 11<|zEY (O:=(.cells #[(vi 0),(vi 0),(vi 0),(vu 0),ve,(vi 0),(vi 0)] 119)) (fun p=>.pointer<|some p) (jAB<|S8<|yY<|yY<|yY jAA) (qE rfl) Kf (gQ (zeroValue119 _) rfl) ?_
 intro p4 w8 hn3
 have⟨H3,hs,b⟩:=hs.alloc b hn3
 refine⟨.inr ⟨_,hs,b.drop 1⟩,?_⟩
 refine lg 12<|jYM (jAB<|S8<|S4 jAA) (qE rfl) Kf (xo p4 (Ab y E A z C aS B) (sizeOf119 _)<|b.k0 0 7 gZ) ?_
 intro w9 hn4
 have⟨hs,b⟩:=b.st1 0 hs hn4 gZ
 refine⟨.inl Kf,?_⟩
 refine wn ⟨p4,_,hs,b,hm⟩
 rintro ρ w7 ⟨p3,G,hs,b,t⟩
 refine q_has t<|uZ<|zL<|eg<|q<|q3 (xl (isAgg73 _)<|b.d 0 5 gZ)<|q<|ln<|yQ (fun ρ w=>∃J Q M P N L aE,∃H:NP,Has ρ [(0,(vp p1)),(1,(vp aU)),(2,(vi t1)),(8,r2.v),(9,s1.v),(10,(vi (I.len:Int))),(11,(vi i1)),(12,(vp<|some p3))]/\Hst w0 H w H w/\HB H w [(p3,(Ab J Q M P N L aE),119)]/\m_M_j2 p1 r2 s1 I i1 J Q M P N L aE w0 H w (fun j o w'=>I1 j o w'/\m j w'<m i1 c) K) ?_ ?_
 rintro ρ w ⟨J,Q,M,P,N,L,aE,H,t,hs,b,h⟩
 refine yW t<|zL<|eg<|q<|q3 (xl (isAgg73 _)<|b.d 0 6 gZ)<|q<|ln<|yQ (fun ρ w=>∃R T bS V bU U Y,∃H:NP,Has ρ [(0,(vp p1)),(1,(vp aU)),(2,(vi t1)),(8,r2.v),(9,s1.v),(10,(vi (I.len:Int))),(11,(vi i1)),(12,(vp<|some p3))]/\Hst w0 H w H w/\HB H w [(p3,(Ab R T bS V bU U Y),119)]/\m_M_j3 p1 r2 s1 I i1 R T bS V bU U Y H w (fun j o w'=>I1 j o w'/\m j w'<m i1 c) K) ?_ ?_
 rintro ρ w ⟨R,T,bS,V,bU,U,Y,H,t,hs,b,h⟩
 refine yW t<|eg<|q<|q2 (Ae R T bS V bU U Y) (xa p3 (Ab R T bS V bU U Y) (isAgg119 _) (sizeOf119 _)<|b.r0 0 7 gZ)<|sc call60 (h.mono fun e w10 ⟨r3,r4,k,r,h⟩=>have⟨hs,b⟩:=r.hh hs b;⟨_,k,?_⟩)
 refine q (qd<|ln<|zL<|eg<|qb<|ln<|cbr h ?_ ?_)<;>intro h
 refine eg<|qb<|sc call154 (h.mono fun e w11 ⟨k,r,h⟩=>have⟨hs,b⟩:=r.hh hs b;⟨_,k,?_⟩)
 refine ln<|eg<|qc<|ln<|er<|jMM<|zBA<|jMM<|jMM<|zBA<|jMM<|res2 (.inl rfl) results111 (v:=(vi 0)) Kf (v':=(vi r4)) Kf ⟨0,r4,rfl,h⟩
 refine vB<|uZ<|rg<|qc<|qi (runUnderlying46 _) (sizeOf73 _) h fun a6 h=>ql (isAgg73 _) h fun v5 h=>q<|qi (runUnderlying46 _) (sizeOf73 _) h fun a7 h=>st2 (sizeOf73 _) hs b h fun w12 hs b h=>vH<|zBB<|uZ<|rg<|qc<|ln ⟨((q6.wrap<|i1+1),H,w12),⟨rfl,hm,hs,b.drop 1,h.1⟩,h.2⟩
 refine cbr h ?_ ?_<;>intro h
 refine rg<|qb<|q3 (xl (isAgg73 _)<|b.d 0 6 gZ)<|qi (runUnderlying46 _) (sizeOf73 _) h fun a8 h=>ql (isAgg73 _) h fun v6 h=>q<|jIV (qE rfl) (tY (a:=(p3.add 6)) (v:=(vi v6)) Kf Kf rfl (sizeOf73 _) (b.canW 0 6 gZ Kf)) ?_
 intro u hn6
 have F:Hst w0 H w H u/\HB H u [(p3,(Ab J Q M P N L v6),119)]:=by
  rw[hn6];exact b.set (i:=0) 6 (v:=(vi v6)) hs gZ Kf
 have⟨hs,b⟩:=F
 refine vH ?_
 have⟨h,hs⟩:=hs.hr<|h u
 refine uZ ⟨J,Q,M,P,N,L,v6,H,hm,hs,b,h⟩
 refine vB<|uZ ⟨J,Q,M,P,N,L,aE,H,hm,hs,b,h⟩
 refine cbr h ?_ ?_<;>intro h
 refine rg<|qb<|q3 (xl (isAgg73 _)<|b.d 0 5 gZ)<|qi (runUnderlying46 _) (sizeOf73 _) h fun a9 h=>?_
 have⟨h,hs⟩:=hs.hr<|h G w7
 refine ql (isAgg73 _) h fun v7 h=>q<|jIV (qE rfl) (tY (a:=(p3.add 5)) (v:=(vi v7)) Kf Kf rfl (sizeOf73 _) (b.canW 0 5 gZ Kf)) ?_
 intro D hn7
 have F:Hst w0 G w7 G D/\HB G D [(p3,(Ab y E A z C v7 B),119)]:=by
  rw[hn7];exact b.set (i:=0) 5 (v:=(vi v7)) hs gZ Kf
 have⟨hs,b⟩:=F
 refine vH ?_
 have⟨h,hs⟩:=hs.hr<|h D
 refine uZ ⟨y,E,A,z,C,v7,B,G,hm,hs,b,h⟩
 refine vB ?_
 have⟨h,hs⟩:=hs.hr<|h G w7
 refine uZ ⟨y,E,A,z,C,aS,B,G,hm,hs,b,h⟩
 refine jAX<|jYH<|jYH<|jXK<|uZ<|eg<|q0 s1.v<|q0 (vi t1)<|qi (runUnderlying46 _) (sizeOf73 _) h fun a10 h=>ql (isAgg73 _) h fun v8 h=>qb<|ln<|er<|res2 (.inl rfl) results111 (v:=(vi v8)) Kf (v':=(vi 0)) Kf ⟨v8,0,rfl,h⟩
def m_Z1_l1(g t:Sl)(i1:Int)(d:NP)(c:World)(f:Int->NP->WP)(K:Bool->WP):Prop:=Br (decide (i1<(g.len:Int))) (∃e:WP,e c.drew/\∀b,b=c.drew->∃a1:Addr,At g i1 6 a1/\∃q j k s n o,(∀w',e w'->Row w' a1 (Ac q j k s n o))/\∃a2:Addr,At t i1 6 a2/\∃m i p r l h,(∀w',e w'->Row w' a2 (Ac m i p r l h))/\cl 169 #[(.agg #[(vi q),(vi j),(vi k),(vu s),(vs n),o.v]),(.agg #[(vi m),(vi i),(vi p),(vu r),(vs l),h.v])] b (XC fun r1 a=>e a/\Kept d b a/\Br (!r1) (K false a) (f (q6.wrap<|i1+1) d a)))<|K true c
def m_Z1(u p:Int)(m q:Int)(s:ByteArray)(i:Sl)(bK o:Int)(t r:Int)(l:ByteArray)(j:Sl)(f:World)(K:Bool->WP):Prop:=∀k:Bool,k=((((((u !=bK) ||(p !=o)) ||(m !=t)) ||(q !=r)) ||(!(decide (s=l)))) ||(((i.len:Int):Int) !=(j.len:Int)))->Br k (∀g e,Hst f None f g e->K false e) (∀g e,Hst f None f g e->∃(h:Int->NP->WP) (c:Int->World->Nat),h 0 g e/\∀(i1:Int) (b:NP) (a:World),Hst f b a b a->h i1 b a->m_Z1_l1 i j i1 b a (fun d n w'=>h d n w'/\c d w'<c i1 a) K)
def w_Z1(bI bJ bO bX bZ bH bK bL bP bY cA bN w0 K)(h:m_Z1 bI bJ bO bX bZ bH bK bL bP bY cA bN w0 K):
  cl 169 #[(.agg #[(vi bI),(vi bJ),(vi bO),(vu bX),(vs bZ),bH.v]),(.agg #[(vi bK),(vi bL),(vi bP),(vu bY),(vs cA),bN.v])] w0<|XC K:=
 cwH func169 h<|nh 0<|nh 0<|pj 1 0 [(((((bI !=bK) ||(bJ !=bL)) ||(bO !=bP)) ||(bX !=bY)) ||(!(decide (bZ=cA))))] [2,3] (fun b=>[(47,(vb<|(b 0) ||(((bH.len:Int):Int) !=(bN.len:Int))))]) (fun e=>lh 1 1 []<|lh 1 0 []<|ct 2 6<|pj 0 0 [(bI !=bK)] [2,3] (fun b=>[(17,(vb<|(b 0) ||(bJ !=bL)))]) (fun a=>pb 1 0 0 a (fun a=>pe 6 0 a)<|fun a=>lh 1 1 [1]<|lh 1 0 [1]<|pe 2 0 a)<|ct 1 6<|pj 0 0 [((bI !=bK) ||(bJ !=bL))] [2,3] (fun b=>[(24,(vb<|(b 0) ||(bO !=bP)))]) (fun f=>pb 1 0 0 f (fun f=>pe 6 0 f)<|fun f=>lh 1 1 [2]<|lh 1 0 [2]<|pe 2 0 f)<|ct 1 6<|pj 0 0 [(((bI !=bK) ||(bJ !=bL)) ||(bO !=bP))] [2,3] (fun b=>[(31,(vb<|(b 0) ||(bX !=bY)))]) (fun d=>pb 1 0 0 d (fun d=>pe 6 0 d)<|fun d=>lh 1 1 [3]<|lh 1 0 [3]<|pe 2 0 d)<|ct 1 6<|pj 0 0 [((((bI !=bK) ||(bJ !=bL)) ||(bO !=bP)) ||(bX !=bY))] [2,3] (fun b=>[(38,(vb<|(b 0) ||(!(decide (bZ=cA)))))]) (fun c=>pb 1 0 0 c (fun c=>pe 6 0 c)<|fun c=>lh 1 1 [4]<|lh 1 0 [4]<|pe 2 0 c)<|pb 1 1 0 e (fun e=>pe 8 0 e)<|fun e=>lh 1 1 [5]<|lh 2 0 [5]<|pe 3 0 e)<|yy<|br 0 0 (ah<|rr 2)<|ah<|wa1 2 [2,3] (fun i1=>[(5,(vi i1))])<|fun {_ _ i1}=>fun g=>lh 2 1 [5]<|br 0 2 (dC 1 [10] []<|lhc 1 1 [5]<|ix 1<|xe6<|lrc 0<|lhc 1 0 [5]<|ix 1<|xe6<|lrc 0<|cd1 0 call169<|br 0 1 (rr 2)<|je 4 0 g)<|rr 2
end Go.Proofs
end
section
open Go Go.SE List
open Go.IntKind renaming i64 -> q6
namespace Go.Proofs
open Tryz
set_option maxRecDepth 100000
set_option maxHeartbeats 4000000
attribute [local irreducible] wpL wpX opE wpE Calls
attribute [local irreducible] adv W WV WR yN pv lpC jBQ ctR ka rgP dgo nwV nhI hvl had hcs hpt stV stC kp yM uK qM bn ub
def m_V5(p1:Sl)(e:World)(K:(Option Addr)->WP):Prop:=∀a c,New e (.cells #[] 5) a c->∃s1:Sl,∃b:World,(Builtin.append_ #[59,59] 59 #[(Sl.mk (some a) 0 0).v,p1.v]).run prog c=.ok s1.v b/\∀p3 d,New b (.cells #[s1.v,(vi 0),(vi 0),(vi 0)] 117) p3 d->K (some p3) d
def w_V5(p1 w0 K)(h:m_V5 p1 w0 K):
  cl 57 #[p1.v] w0<|XD K:=
 cwN func57 h<|nwn 1<|xe2<|ef 1<|aan<|nwn 1<|rr 1
def m_W5(r1:Option Addr)(b:World)(K:Int->WP):Prop:=∃a1,r1=some a1/\∀a,Hst b None b None a->lx a a1 fun d=>∃a2,r1=some a2/\li a (a2.add 1) fun c=>K (q6.wrap<|(d.len:Int)-c) a
def w_W5(r1 w0 K)(h:m_W5 r1 w0 K):
  cl 58 #[(vp r1)] w0<|XB K:=
 cwH func58 h<|dq 1<|nc 1<|an<|ld 1<|nc 2<|ld 1<|rr 2
def m_X5(r1:Option Addr)(d at1:Int)(a:World)(K:WP):Prop:=∃a1,r1=some a1/\li a (a1.add 2) fun e=>Br (e==0) (∃a2,r1=some a2/\zV a (a2.add 2)/\∀b,b=a.setCell (a2.add 2) (vi d)->∃a3,r1=some a3/\zV b (a3.add 3)/\∀c,c=b.setCell (a3.add 3) (vi at1)->K c)<|K a
def w_X5(r1 e1 at1 w0 K)(h:m_X5 r1 e1 at1 w0 K):
  cl 170 #[(vp r1),(vi e1),(vi at1)] w0<|fun e w'=>e=.returned (.tuple #[])/\K  w':=
 cwN func170 h<|nc 1<|ld 1<|br 0 1 (nc 3<|ssn 1<|nc 2<|ssn 1<|rr 0)<|rr 1
def m_Y5(r1:Option Addr)(c:World)(K:Int->WP):Prop:=∃a1,r1=some a1/\li c (a1.add 2) fun p=>Br (p !=0) (K 0 c)<|∃a2,r1=some a2/\∀a,Hst c None c None a->li a (a2.add 1) fun l=>∃a3,r1=some a3/\lx a a3 fun r=>Br (l==(r.len:Int)) (∃a4,r1=some a4/\li a (a4.add 1) fun o=>cl 170 #[(vp r1),(vi 3),(vi o)] a fun e h=>e=.returned (.tuple #[])/\Kept None a h/\K 0 h) (∃a5,r1=some a5/\li a (a5.add 1) fun n=>∃d,r1=some d/\zV a (d.add 1)/\¬None (d.add 1).block/\∀f,f=a.setCell (d.add 1) (vi<|q6.wrap<|n+1)->∃i,r1=some i/\∀b,Hst c None f None b->lx b i fun q=>∃k,r1=some k/\li b (k.add 1) fun m=>∃j:Addr,At q (q6.wrap<|m-1) 1 j/\∃g:Int,b.cell? j=some (.int .u8 g)/\K g b)
def w_Y5(r1 w0 K)(h:m_Y5 r1 w0 K):
  cl 115 #[(vp r1)] w0<|XT K:=
 cwH func115 h<|nc 2<|ld 1<|br 0 1 (rr 2)<|dq 1<|nc 1<|an<|ld 1<|nc 1<|ld 1<|br 0 2 (nc 3<|ld 1<|ca0 0 call170<|rr 1)<|nc 2<|ld 1<|nc 1<|ssh 1<|dq 0<|nc 1<|an<|ld 1<|nc 1<|ld 1<|ix 1<|ld 0<|rr 1
def s_O(a:Int):Bool:=(((((a==1) ||(a==6)) ||(a==7)) ||(a==8)) ||(a==9))
def p_O(a:Int)(h:World):cl 116 #[(.int .i64 a)] h (fun e w'=>e=.returned (.bool<|s_O a)/\Pure h w'):=
 cwp func116 [] (fun b=>(vb<|((((a==1) ||(a==6)) ||(a==7)) ||(a==8)) ||(a==9))) fun i=>pj 1 0 [] [] (fun b=>[(2,(vb<|((((a==1) ||(a==6)) ||(a==7)) ||(a==8)) ||(a==9)))]) (fun j=>ct 3 3<|pj 0 0 [(a==1)] [0] (fun b=>[(8,(vb<|(b 0) ||(a==6)))]) (fun c=>pb 1 0 0 c (fun c=>pe 3 0 c)<|fun c=>pe 3 0 c)<|ct 1 3<|pj 0 0 [((a==1) ||(a==6))] [0] (fun b=>[(12,(vb<|(b 0) ||(a==7)))]) (fun g=>pb 1 0 0 g (fun g=>pe 3 0 g)<|fun g=>pe 3 0 g)<|ct 1 3<|pj 0 0 [(((a==1) ||(a==6)) ||(a==7))] [0] (fun b=>[(16,(vb<|(b 0) ||(a==8)))]) (fun f=>pb 1 0 0 f (fun f=>pe 3 0 f)<|fun f=>pe 3 0 f)<|ct 1 3<|pj 0 0 [((((a==1) ||(a==6)) ||(a==7)) ||(a==8))] [] (fun b=>[(20,(vb<|(b 0) ||(a==9)))]) (fun d=>pb 1 0 0 d (fun d=>pe 3 0 d)<|fun d=>pe 3 0 d)<|pe 1 0 j)<|qpe 0 i
def m_I2_l1(r1:Option Addr)(n1 i1:Int)(i:World)(a:NP)(o:World)(m:Int->Int->NP->WP)(K:Int->WP):Prop:=∃a2,r1=some a2/\∀g,Hst i a o a g->li g (a2.add 1) fun C=>∃a3,r1=some a3/\lx g a3 fun B=>Br (decide ((q6.wrap<|C+i1)>=(B.len:Int))) (∃a4,r1=some a4/\li g (a4.add 1) fun F=>cl 170 #[(vp r1),(vi 3),(vi F)] g fun e u=>e=.returned (.tuple #[])/\Kept a g u/\K 0 u) (∃a5,r1=some a5/\∀h,Hst i a g a h->lx h a5 fun D=>∃x,r1=some x/\li h (x.add 1) fun A=>∃y:Addr,At D (q6.wrap<|A+i1) 1 y/\∃j:Int,h.cell? y=some (.int .u8 j)/\Br ((i1==9)&&(decide (j>1))) (∃s,r1=some s/\∀f b,Hst i a h f b->li b (s.add 1) fun E=>cl 170 #[(vp r1),(vi 11),(vi E)] b fun e v=>e=.returned (.tuple #[])/\Kept f b v/\K 0 v) (∀f b,Hst i a h f b->∃q:Int,(Go.binOp .rem 5 (.int .u8 j)<|.int .u8 128).run prog b=.ok (.int .u8 q) b/\∃p,(Go.binOp .shl 23 (vu<|IntKind.u64.wrap q)<|vu<|IntKind.u64.wrap<|q6.wrap<|7*i1).run prog b=.ok (vu p) b/\Br (decide (j>=128)) (m (IntKind.u64.wrap<|n1+p) (q6.wrap<|i1+1) f b) (Br ((j==0)&&(decide (i1>0))) (∃r,r1=some r/\∀k d,Hst i f b k d->li d (r.add 1) fun z=>cl 170 #[(vp r1),(vi 10),(vi z)] d fun e w=>e=.returned (.tuple #[])/\Kept k d w/\K 0 w) (∃l,r1=some l/\∀k d,Hst i f b k d->li d (l.add 1) fun n=>∃c,r1=some c/\zV d (c.add 1)/\¬k (c.add 1).block/\∀t,t=d.setCell (c.add 1) (vi<|q6.wrap<|(q6.wrap<|n+i1)+1)->K (IntKind.u64.wrap<|n1+p) t))))
def m_I2(r1:Option Addr)(f:World)(K:Int->WP):Prop:=∃a1,r1=some a1/\li f (a1.add 2) fun i=>Br (i !=0) (K 0 f)<|∃(g:Int->Int->NP->WP) (d:Int->Int->World->Nat),g 0 0 None f/\∀(n1 i1:Int) (b:NP) (a:World),Hst f b a b a->g n1 i1 b a->m_I2_l1 r1 n1 i1 f b a (fun c e h w'=>g c e h w'/\d c e w'<d n1 i1 a) K
def w_I2(r1 w0 K)(h:m_I2 r1 w0 K):
  cl 118 #[(vp r1)] w0<|XU K:=
 cwH func118 h<|nc 2<|ld 1<|br 0 1 (rr 2)<|wa2 3 [0] (fun n1 i1=>[(3,(vu n1)),(4,(vi i1))])<|fun {_ _ n1 i1}=>fun e=>dq 0<|nc 1<|an<|ld 1<|nc 3<|ld 1<|br 0 2 (nc 3<|ld 1<|ca0 0 call170<|rr 1)<|dq 1<|nc 1<|an<|ld 1<|nc 1<|ld 1<|ix 2<|ld 0<|fun {d}=>pj 1 0 [(i1==9)] [0,3,4,5] (fun b=>[(48,(vb<|(b 0)&&(decide (d>1))))]) (fun a=>pb 1 3 0 a (fun a=>pe 3 0 a)<|fun a=>pe 3 0 a)<|br 0 0 (nc 3<|ah<|ld 1<|ca0 0 call170<|rr 1)<|ah<|xe<|rb 3<|xe<|rb 4<|br 0 4 (je 4 0 e)<|pj 1 0 [(d==0)] [0,3,4] (fun b=>[(71,(vb<|(b 0)&&(decide (i1>0))))]) (fun c=>pb 1 3 0 c (fun c=>pe 3 0 c)<|fun c=>pe 3 0 c)<|br 0 0 (nc 3<|ah<|ld 1<|ca0 0 call170<|rr 1)<|nc 3<|ah<|ld 1<|nc 3<|ssh 1<|rr 2
def s_I(n1:Int):Int:=(cond (decide (n1>1073741824)) 1073741824<|q6.wrap n1)
def p_I(n1:Int)(c:World):cl 117 #[(.int .u64 n1)] c (fun e w'=>e=.returned (.int .i64<|s_I n1)/\Pure c w'):=
 cwp func117 [(decide (n1>1073741824))] (fun b=>(vi<|cond (b 0) 1073741824<|q6.wrap n1)) fun a=>pb 0 3 0 a (fun a=>qpe 2 a)<|fun a=>qpe 4 a
def m_Z5(r1:Option Addr)(a:Int)(g:World)(K:ByteArray->WP):Prop:=∃a1,r1=some a1/\li g (a1.add 1) fun k=>cl 118 #[(vp r1)] g fun e h=>∃r2,e=.returned (vu r2)/\Kept None g h/\∃a2,r1=some a2/\li h (a2.add 2) fun y=>Br (y !=0) (K ⟨#[]⟩ h)<|Br ((decide (a<0)) ||(decide (r2>(IntKind.u64.wrap a)))) (∃a3,r1=some a3/\∀c l,Hst g None h c l->zV l (a3.add 1)/\¬c (a3.add 1).block/\∀n,n=l.setCell (a3.add 1) (vi k)->cl 170 #[(vp r1),(vi 1),(vi k)] n fun e r=>e=.returned (.tuple #[])/\Kept c n r/\K ⟨#[]⟩ r) (∃a4,r1=some a4/\∀c f,Hst g None h c f->lx f a4 fun x=>∃a5,r1=some a5/\li f (a5.add 1) fun C=>Br (decide (r2>(IntKind.u64.wrap<|q6.wrap<|(x.len:Int)-C))) (∃j,r1=some j/\zV f (j.add 1)/\¬c (j.add 1).block/\∀m,m=f.setCell (j.add 1) (vi k)->cl 170 #[(vp r1),(vi 3),(vi k)] m fun e s=>e=.returned (.tuple #[])/\Kept c m s/\K ⟨#[]⟩ s) (∃u,r1=some u/\∀b,Hst g c f c b->lx b u fun A=>∃p,r1=some p/\li b (p.add 1) fun w=>∃o,r1=some o/\li b (o.add 1) fun z=>∃s1:Sl,(Instr.sliceAt 59 A.v (some<|vi w) (some<|vi<|q6.wrap<|z+(q6.wrap r2)) none).run prog b=.ok s1.v b/\∃q,(convert 59 9 s1.v).run prog b=.ok (vs q) b/\∃i,r1=some i/\li b (i.add 1) fun B=>∃d,r1=some d/\zV b (d.add 1)/\¬c (d.add 1).block/\∀t,t=b.setCell (d.add 1) (vi<|q6.wrap<|B+(q6.wrap r2))->K q t))
def w_Z5(r1 most1 w0 K)(h:m_Z5 r1 most1 w0 K):
  cl 119 #[(vp r1),(vi most1)] w0<|XP K:=
 cwH func119 h<|nc 2<|ld 1<|ca1 2 call118<|fun {r2}=>nc 2<|ld 1<|br 0 1 (rr 2)<|pj 1 0 [(decide (most1<0))] [0,5,6] (fun b=>[(26,(vb<|(b 0) ||(decide (r2>(IntKind.u64.wrap most1)))))]) (fun a=>pb 1 3 0 a (fun a=>pe 5 0 a)<|fun a=>pe 5 0 a)<|br 0 0 (nc 3<|ah<|ssh 1<|ca0 2 call170<|rr 1)<|dq 1<|nc 2<|ah<|ld 1<|nc 2<|ld 1<|br 0 3 (nc 3<|ssh 1<|ca0 2 call170<|rr 1)<|dq 1<|nc 1<|an<|ld 1<|nc 1<|ld 1<|nc 1<|ld 1<|xe<|rn 3<|xe<|rn 0<|nc 3<|ld 1<|nc 3<|ssh 1<|rr 2
def m_C_j6(r1:Option Addr)(i1:Int)(p1:Addr)(r2 q:Int)(k i o:Int)(p:ByteArray)(r n:Int)(a1 b3:Int)(s:World)(H:NP)(w:World)(K:Int->Int->Int->Int->ByteArray->Int->Int->Int->WP):Prop:=∃a2,r1=some a2/\li w (a2.add 2) fun v1=>Br (v1 !=0) (∃t:WP,t w.drew/\∀d,d=w.drew->∃a3,r1=some a3/\∃F,(∀w',t w'->w'.cell? (a3.add 2)=some (vi F))/\(∀j,j<7->zV d (p1.add j))/\¬H p1.block/\∀a,a=storeRow d p1 (Ab q k i o p r n)->t a/\∃P y O u Z N R,Row a p1 (Ab P y O u Z N R)/\K P y O u Z N R F a)<|∀U:Bool,U=(((s_O<|q6.wrap r2)&&(decide (k>=16))) ||(((((q6.wrap r2):Int)==8) ||(((q6.wrap r2):Int)==9))&&((decide (i>=16)) ||(i==k))))->Br U (∀v e,Hst s H w v e->(∀j,j<7->zV e (p1.add j))/\¬v p1.block/\∀h,h=storeRow e p1 (Ab q k i o p r n)->∃S z Y A cD E G,Row h p1 (Ab S z Y A cD E G)/\K S z Y A cD E G 50 h) (∀J:Bool,J=(((decide ((s_A<|q6.wrap r2)>=1))&&(decide (a1>=i1))) ||((((s_A<|q6.wrap r2):Int)==2)&&(decide (b3>=i1))))->Br J (∀l f,Hst s H w l f->(∀j,j<7->zV f (p1.add j))/\¬l p1.block/\∀b,b=storeRow f p1 (Ab q k i o p r n)->∃B I cI M X D x,Row b p1 (Ab B I cI M X D x)/\K B I cI M X D x 71 b) (∀m g,Hst s H w m g->(∀j,j<7->zV g (p1.add j))/\¬m p1.block/\∀c,c=storeRow g p1 (Ab q k i o p (cond (decide ((s_A<|q6.wrap r2)>=1)) (q6.wrap<|a1+1) r)<|cond (((s_A<|q6.wrap r2):Int)==2) (q6.wrap<|b3+1) n)->∃T Q W C V L cT,Row c p1 (Ab T Q W C V L cT)/\K T Q W C V L cT 0 c))
def m_C_j5(r1:Option Addr)(i1:Int)(p1:Addr)(r2 e:Int)(g j f:Int)(k:ByteArray)(h i a1:Int)(d:World)(H:NP)(w:World)(K:Int->Int->Int->Int->ByteArray->Int->Int->Int->WP):Prop:=Br (((s_A<|q6.wrap r2):Int)==2) (∀a,Hst d H w H a->cl 118 #[(vp r1)] a (XU fun r3 b=>Kept H a b/\∀c,Hst d H b H c->m_C_j6 r1 i1 p1 r2 e g j f k h i a1 (s_I r3) d H c K))<|∀a,Hst d H w H a->m_C_j6 r1 i1 p1 r2 e g j f k h i a1 0 d H a K
def m_C_j4(r1:Option Addr)(i1:Int)(p1:Addr)(r2 e:Int)(g j f:Int)(k:ByteArray)(h i:Int)(c:World)(H:NP)(w:World)(K:Int->Int->Int->Int->ByteArray->Int->Int->Int->WP):Prop:=Br (decide ((s_A<|q6.wrap r2)>=1)) (∀a,Hst c H w H a->cl 118 #[(vp r1)] a (XU fun l b=>Kept H a b/\∀d,Hst c H b H d->m_C_j5 r1 i1 p1 r2 e g j f k h i (s_I l) c H d K))<|∀a,Hst c H w H a->m_C_j5 r1 i1 p1 r2 e g j f k h i 0 c H a K
def m_C_j3(r1:Option Addr)(i1:Int)(p1:Addr)(r2 d:Int)(i e g:Int)(k:ByteArray)(f h:Int)(c:World)(H:NP)(w:World)(K:Int->Int->Int->Int->ByteArray->Int->Int->Int->WP):Prop:=Br (((q6.wrap r2):Int)==3) (cl 119 #[(vp r1),(vi 64)] w<|XP fun j a=>Kept H w a/\∀b,Hst c H a H b->m_C_j4 r1 i1 p1 r2 d i e g j f h c H b K) (m_C_j4 r1 i1 p1 r2 d i e g k f h c H w K)
def m_C_j2(r1:Option Addr)(i1:Int)(p1:Addr)(r2 h:Int)(bK g j:Int)(e:ByteArray)(f d:Int)(c:World)(H:NP)(w:World)(K:Int->Int->Int->Int->ByteArray->Int->Int->Int->WP):Prop:=Br (((q6.wrap r2):Int)==2) (cl 118 #[(vp r1)] w<|XU fun i b=>Kept H w b/\∀a,Hst c H b H a->m_C_j3 r1 i1 p1 r2 h bK g i e f d c H a K) (m_C_j3 r1 i1 p1 r2 h bK g j e f d c H w K)
def m_C_j1(r1:Option Addr)(i1:Int)(p1:Addr)(r2 h:Int)(j m f:Int)(g:ByteArray)(k i:Int)(c:World)(H:NP)(w:World)(K:Int->Int->Int->Int->ByteArray->Int->Int->Int->WP):Prop:=Br ((((q6.wrap r2):Int)==8) ||(((q6.wrap r2):Int)==9)) (∀a b,Hst c H w a b->cl 118 #[(vp r1)] b (XU fun l d=>Kept a b d/\∀e,Hst c a d a e->m_C_j2 r1 i1 p1 r2 h j (s_I l) f g k i c a e K))<|∀a b,Hst c H w a b->m_C_j2 r1 i1 p1 r2 h j m f g k i c a b K
def m_C(r1:Option Addr)(i1:Int)(b:World)(K:Int->Int->Int->Int->ByteArray->Int->Int->Int->WP):Prop:=∀p1 i,New b (.cells #[(vi 0),(vi 0),(vi 0),(vu 0),ve,(vi 0),(vi 0)] 119) p1 i->cl 115 #[(vp r1)] i fun e g=>∃r2:Int,e=.returned (.int .u8 r2)/\Kept None i g/\Br ((decide ((q6.wrap r2)<1)) ||(decide ((q6.wrap r2)>9))) (∀a k,Hst b None g a k->(∀j,j<7->zV k (p1.add j))/\¬a p1.block/\∀h,h=storeRow k p1 [(vi<|q6.wrap r2),(vi 0),(vi 0),(vu 0),ve,(vi 0),(vi 0)]->∃r l o n p q m,Row h p1 (Ab r l o n p q m)/\K r l o n p q m 70 h) (Br (s_O<|q6.wrap r2) (∀a c,Hst b None g a c->cl 118 #[(vp r1)] c (XU fun s f=>Kept a c f/\∀d,Hst b a f a d->m_C_j1 r1 i1 p1 r2 (q6.wrap r2) (s_I s) 0 0 ⟨#[]⟩ 0 0 b a d K))<|∀a c,Hst b None g a c->m_C_j1 r1 i1 p1 r2 (q6.wrap r2) 0 0 0 ⟨#[]⟩ 0 0 b a c K)
def w_C(r1 i1 w0 K)(h:m_C r1 i1 w0 K):
  cl 59 #[(vp r1),(vi i1)] w0<|fun e w'=>∃V Z U X W aV aW r9,e=.returned (.tuple #[(Ae V Z U X W aV aW),(vi r9)])/\K V Z U X W aV aW r9 w':=
 cwH func59 h<|nwh 0<|ca1 2 call115<|fun {r2}=>nh 4<|sg 0 0 []<|pj 0 0 [(decide ((q6.wrap r2)<1))] [0,1,4,6,7] (fun b=>[(20,(vb<|(b 0) ||(decide ((q6.wrap r2)>9))))]) (fun D=>pb 1 3 0 D (fun D=>pe 3 0 D)<|fun D=>pe 3 0 D)<|br 0 0 (lgg 1 0 [] 7<|ah<|ush 0<|rss 1<|xe6<|xe<|qrr<|qee)<|cp 2 call116 (p_O<|q6.wrap r2)<|jb7 0 0 [0,1,4,6,7] (fun P Q L G M z B=>[]) (fun P Q L G M z B l=>hpt l 0 0<|Ab P Q L G M z B) (fun P Q L G M z B H w=>m_C_j1 _ _ _ _ P Q L G M z B _ H w _) (fun j2=>br 0 0 (ah<|ca1 2 call118<|fun {r8}=>cp 0 call117 (p_I r8)<|sh 1 0 [1]<|an<|je 0 0 j2)<|ah<|je 1 0 j2)<|fun {P Q L G M z B}=>pj 0 0 [(((q6.wrap r2):Int)==8)] [0,1,4,6,7] (fun b=>[(33,(vb<|(b 0) ||(((q6.wrap r2):Int)==9)))]) (fun y=>pb 1 3 0 y (fun y=>pe 3 0 y)<|fun y=>pe 3 0 y)<|jb7 0 0 [0,1,4,6,7] (fun F bK E x O J A=>[]) (fun F bK E x O J A l=>hpt l 0 0<|Ab F bK E x O J A) (fun F bK E x O J A H w=>m_C_j2 _ _ _ _ F bK E x O J A _ H w _) (fun j4=>br 0 0 (ah<|ca1 2 call118<|fun {r7}=>cp 0 call117 (p_I r7)<|sh 1 0 [2]<|an<|je 0 0 j4)<|ah<|je 1 0 j4)<|fun {F bK E x O J A}=>jb7 2 0 [0,1,4,6,7] (fun N T I C R v S=>[]) (fun N T I C R v S l=>hpt l 0 0<|Ab N T I C R v S) (fun N T I C R v S H w=>m_C_j3 _ _ _ _ N T I C R v S _ H w _) (fun j5=>br 0 0 (ca1 2 call118<|sh 1 0 [3]<|an<|je 0 0 j5)<|je 1 0 j5)<|fun {N T I C R v S}=>jb7 2 0 [0,1,4,6,7] (fun t c a r s u q=>[]) (fun t c a r s u q l=>hpt l 0 0<|Ab t c a r s u q) (fun t c a r s u q H w=>m_C_j4 _ _ _ _ t c a r s u q _ H w _) (fun Y=>br 0 0 (ca1 2 call119<|sh 1 0 [4]<|an<|je 0 0 Y)<|je 1 0 Y)<|fun {t c a r s u q}=>cp 3 call65 (p_A<|q6.wrap r2)<|ja1 1 0 [0,1,4,6,7,9] (fun a1=>[(8,(vi a1))]) (fun a1 H w=>m_C_j5 _ _ _ _ _ _ _ _ _ _ _ a1 _ H w _) (fun j7=>br 0 0 (an<|ca1 2 call118<|fun {r4}=>cp 0 call117 (p_I r4)<|an<|je 1 0 j7)<|an<|je 1 0 j7)<|fun {a1}=>cp 1 call65 (p_A<|q6.wrap r2)<|ja1 1 0 [0,1,4,6,7,8] (fun b3=>[(9,(vi b3))]) (fun b3 H w=>m_C_j6 _ _ _ _ _ _ _ _ _ _ _ _ b3 _ H w _) (fun j8=>br 0 0 (an<|ca1 2 call118<|fun {r3}=>cp 0 call117 (p_I r3)<|an<|je 1 0 j8)<|an<|je 1 0 j8)<|fun {b3}=>nc 1<|ld 1<|br 0 1 (dC 1 [5] []<|lgc 0 0 [] 7<|nc 1<|ldc 1<|usc 0<|rss 1<|xe6<|xe<|qrr<|qee)<|pj 1 0 [((s_O<|q6.wrap r2)&&(decide (c>=16)))] [1,4,6,7,8,9] (fun b=>[(96,(vb<|(b 0) ||(((((q6.wrap r2):Int)==8) ||(((q6.wrap r2):Int)==9))&&((decide (a>=16)) ||(a==c)))))]) (fun n=>cp 1 call116 (p_O<|q6.wrap r2)<|ct 1 4<|pj 0 0 [(s_O<|q6.wrap r2)] [1,4,6,7,8,9] (fun b=>[(76,(vb<|(b 0)&&(decide (c>=16))))]) (fun g=>pb 1 0 0 g (fun g=>lh 1 0 [1]<|pe 2 0 g)<|fun g=>pe 4 0 g)<|pb 1 1 0 n (fun n=>pe 19 0 n)<|fun n=>ct 3 3<|pj 0 0 [(((q6.wrap r2):Int)==8)] [1,4,6,7,8,9,77] (fun b=>[(83,(vb<|(b 0) ||(((q6.wrap r2):Int)==9)))]) (fun o=>pb 1 0 0 o (fun o=>pe 3 0 o)<|fun o=>pe 3 0 o)<|ct 1 11<|pj 0 0 [((((q6.wrap r2):Int)==8) ||(((q6.wrap r2):Int)==9))] [1,4,6,7,8,9,77] (fun b=>[(95,(vb<|(b 0)&&((decide (a>=16)) ||(a==c))))]) (fun p=>pb 1 0 0 p (fun p=>lh 1 0 [2]<|ct 2 6<|pj 0 0 [(decide (a>=16))] [1,4,6,7,8,9,77,84] (fun b=>[(94,(vb<|(b 0) ||(a==c)))]) (fun d=>pb 1 0 0 d (fun d=>pe 6 0 d)<|fun d=>lh 1 0 [2]<|lh 1 0 [1]<|pe 2 0 d)<|pe 1 0 p)<|fun p=>pe 11 0 p)<|pe 1 0 n)<|yy<|br 0 0 (lgg 1 0 [] 7<|ah<|ush 0<|rss 1<|xe6<|xe<|qrr<|qee)<|pj 1 0 [((decide ((s_A<|q6.wrap r2)>=1))&&(decide (a1>=i1)))] [4,6,7,8,9] (fun b=>[(115,(vb<|(b 0) ||((((s_A<|q6.wrap r2):Int)==2)&&(decide (b3>=i1)))))]) (fun j=>cp 1 call65 (p_A<|q6.wrap r2)<|ct 2 4<|pj 0 0 [(decide ((s_A<|q6.wrap r2)>=1))] [1,4,6,7,8,9] (fun b=>[(105,(vb<|(b 0)&&(decide (a1>=i1))))]) (fun f=>pb 1 0 0 f (fun f=>pe 4 0 f)<|fun f=>pe 4 0 f)<|pb 1 1 0 j (fun j=>pe 9 0 j)<|fun j=>cp 1 call65 (p_A<|q6.wrap r2)<|ct 2 4<|pj 0 0 [(((s_A<|q6.wrap r2):Int)==2)] [4,6,7,8,9,106] (fun b=>[(114,(vb<|(b 0)&&(decide (b3>=i1))))]) (fun i=>pb 1 0 0 i (fun i=>pe 4 0 i)<|fun i=>pe 4 0 i)<|pe 1 0 j)<|yy<|br 0 0 (lgg 1 0 [] 7<|ah<|ush 0<|rss 1<|xe6<|xe<|qrr<|qee)<|cp 2 call65 (p_A<|q6.wrap r2)<|ph (fun b l=>hpt l 0 0<|Ab t c a r s (cond (b 0) (q6.wrap<|a1+1) u) q) 1 0 [(decide ((s_A<|q6.wrap r2)>=1))] [4,6,7,9] (fun b=>[]) (fun k=>pb 0 0 0 k (fun k=>sh 4 0 [5]<|pe 0 0 k)<|fun k=>pe 1 0 k)<|cp 1 call65 (p_A<|q6.wrap r2)<|ph (fun b l=>hpt l 0 0<|Ab t c a r s (cond (decide ((s_A<|q6.wrap r2)>=1)) (q6.wrap<|a1+1) u)<|cond (b 0) (q6.wrap<|b3+1) q) 1 0 [(((s_A<|q6.wrap r2):Int)==2)] [4,7] (fun b=>[]) (fun m=>pb 0 0 0 m (fun m=>sh 4 0 [6]<|pe 0 0 m)<|fun m=>pe 1 0 m)<|lgg 0 0 [] 7<|ah<|ush 0<|rss 1<|xe6<|xe<|qrr<|qee
def m_L1_l2(r1:Option Addr)(a k:Sl)(i1:Int)(j:World)(c:NP)(b:World)(f:Int->NP->WP)(K:(Option Addr)->Int->Int->WP):Prop:=∃l,r1=some l/\∃m:Sl,b.cell? l=some m.v/\Br (decide (i1<(m.len:Int))) (Br (decide (i1>=(k.len:Int))) (∃n:Addr,At a i1 1 n/\∀e,Hst j c b c e->∃g,e.cell? n=some (vi g)/\K none 73 g e)<|∃p:Addr,At k i1 1 p/\∃i,b.cell? p=some (vi i)/\Br (i !=(q6.wrap<|i1+1)) (∃o:Addr,At a i1 1 o/\∀d,Hst j c b c d->∃h,d.cell? o=some (vi h)/\K none 73 h d) (f (q6.wrap<|i1+1) c b)) (K r1 0 0 b)
def m_L1_l1(r1:Option Addr)(r2:Option Addr)(a:Sl)(o:World)(b:NP)(n:World)(p:Sl->NP->WP)(K:(Option Addr)->Int->Int->WP):Prop:=cl 58 #[(vp r2)] n fun e f=>∃r3,e=.returned (vi r3)/\Kept b n f/\Br (decide (r3>0)) (∃a1,r2=some a1/\∃m,f.cell? (a1.add 1)=some (vi m)/\∃a2,r1=some a2/\∃x:Sl,f.cell? a2=some x.v/\cl 59 #[(vp r2),(vi (x.len:Int))] f fun e s=>∃A D y C B F G r,e=.returned (.tuple #[(Ae A D y C B F G),(vi r)])/\Kept b f s/\Br (r !=0) (∀h g,Hst o b s h g->K none r m g) (∃a3,r1=some a3/\∀h g,Hst o b s h g->∃w:Sl,g.cell? a3=some w.v/\cl 60 #[(vp r1),(.agg #[(vi A),(vi D),(vi y),(vu C),(vs B),(vi F),(vi G)])] g (XH fun M E l=>Kept h g l/\Br (E !=0) (K none E m l) (∃a4,r1=some a4/\∃H:Sl,l.cell? a4=some H.v/\Br (((H.len:Int):Int)==(w.len:Int)) (K none 72 m l) (∀I q,New l (.cells #[(vi m)] 3) I q->∃s1:Sl,∃u:World,(Builtin.append_ #[42,42] 42 #[a.v,(Sl.mk (some I) 1 1).v]).run prog q=.ok s1.v u/\Kept h q u/\p s1 h u))))) (∃a5,r1=some a5/\∃z:Sl,f.cell? a5=some z.v/\cl 61 #[(vp r1),(vi (z.len:Int))] f (XA fun L k=>Kept b f k/\∃(t:Int->NP->WP) (j:Int->World->Nat),t 0 b k/\∀(i1:Int) (d:NP) (c:World),Hst o d c d c->t i1 d c->m_L1_l2 r1 a L i1 o d c (fun i J w'=>t i J w'/\j i w'<j i1 c) K))
def m_L1(b1:Sl)(h:World)(K:(Option Addr)->Int->Int->WP):Prop:=cl 44 #[] h fun e g=>∃r1,e=.returned (vp r1)/\Kept None h g/\Br (decide ((b1.len:Int)>4096)) (K none 1 0 g) (Br (((b1.len:Int):Int)==0) (K none 3 0 g)<|cl 57 #[b1.v] g<|XD fun r2 j=>Kept None g j/\∃(i:Sl->NP->WP) (f:Sl->World->Nat),i Sl.nil None j/\∀(a:Sl) (c:NP) (b:World),Hst h c b c b->i a c b->m_L1_l1 r1 r2 a h c b (fun d k w'=>i d k w'/\f d w'<f a b) K)
def w_L1(b1 w0 K)(h:m_L1 b1 w0 K):
  cl 18 #[b1.v] w0<|XV K:=
 cwH func18 h<|ca1 3 call44<|br 0 4 (rr 4)<|br 0 4 (rr 4)<|ca1 2 call57<|wa1 2 [5,6] (fun a=>[(7,(Sl.v a))])<|fun {_ _ a}=>fun b=>ca1 1 call58<|br 0 1 (nc 2<|ld 1<|nc 3<|ld 1<|cc 1 call59<|xe6<|xe2<|rt<|aah<|nh 3<|sg 0 0 []<|br 0 3 (ah<|rr 6)<|nc 2<|ah<|ld 1<|lgg 3 0 [] 7<|ca2 0 call60<|br 0 6 (rr 6)<|nc 2<|ld 1<|br 0 3 (rr 5)<|nwh 3<|xe2<|ef 0<|aah<|je 1 1 b)<|nc 3<|ld 1<|ca1 1 call61<|wa1 2 [5,7,12] (fun i1=>[(13,(vi i1))])<|fun {_ _ i1}=>fun c=>nc 2<|ld 1<|br 0 2 (br 1 6 (dq 9<|ix 2<|an<|ld 0<|rr 3)<|ix 2<|ld 0<|br 0 4 (dq 1<|ix 2<|an<|ld 0<|rr 3)<|je 4 0 c)<|rr 5
def m_A6(w0:World)(K:(Option Nat)->WP):Prop:=∀p1 w1,New w0 (.cells #[(.nilFunc:Value),(.nilFunc:Value)] 255) p1 w1->(∀j,j<2->zV w1 (p1.add j))/\∀w2,w2=storeRow w1 p1 [(.func (.func 249) #[] #[]),(.func (.func 251) #[] #[])]->∀p2 w3,New w2 (.cells #[(.nilFunc:Value),(.nilFunc:Value)] 255) p2 w3->(∀j,j<2->zV w3 (p2.add j))/\∀w4,w4=storeRow w3 p2 [(.func (.func 253) #[] #[]),(.func (.func 254) #[] #[])]->∀p3 w5,New w4 (.cells #[(.nilFunc:Value),(.nilFunc:Value)] 255) p3 w5->(∀j,j<2->zV w5 (p3.add j))/\∀w6,w6=storeRow w5 p3 [(.func (.func 255) #[] #[]),(.func (.func 256) #[] #[])]->∀p4 w7,New w6 (.cells #[(.nilFunc:Value),(.nilFunc:Value)] 255) p4 w7->(∀j,j<2->zV w7 (p4.add j))/\∀w8,w8=storeRow w7 p4 [(.func (.func 257) #[] #[]),(.func (.func 259) #[] #[])]->∀M w9,New w8 (.cells #[(.nilFunc:Value),(.nilFunc:Value)] 255) M w9->(∀j,j<2->zV w9 (M.add j))/\∀w10,w10=storeRow w9 M [(.func (.func 261) #[] #[]),(.func (.func 262) #[] #[])]->∀p6 P,New w10 (.cells #[(.nilFunc:Value),(.nilFunc:Value)] 255) p6 P->(∀j,j<2->zV P (p6.add j))/\∀W,W=storeRow P p6 [(.func (.func 263) #[] #[]),(.func (.func 264) #[] #[])]->∀p Q,New W (.map #[] 0) p Q->∃A:Value,∃y:Value,Row Q p1 [A,y]/\∀p8 T,New Q (.cells #[A,y] 255) p8 T->∃R:World,(Instr.mapUpdate 249 (.map<|some p.block) (vi 1) (Sl.mk (some p8) 1 1).v).run prog T=.ok () R/\∃G:Value,∃q:Value,Row R p3 [G,q]/\∀p9 w16,New R (.cells #[G,q] 255) p9 w16->∃S:World,(Instr.mapUpdate 249 (.map<|some p.block) (vi 2) (Sl.mk (some p9) 1 1).v).run prog w16=.ok () S/\∃C:Value,∃D:Value,Row S p4 [C,D]/\∀p10 w18,New S (.cells #[C,D] 255) p10 w18->∃L:World,(Instr.mapUpdate 249 (.map<|some p.block) (vi 3) (Sl.mk (some p10) 1 1).v).run prog w18=.ok () L/\∃B:Value,∃n:Value,Row L M [B,n]/\∃u:Value,∃s:Value,Row L p6 [u,s]/\∀p11 X,New L (.cells #[B,n,u,s] 255) p11 X->∃N:World,(Instr.mapUpdate 249 (.map<|some p.block) (vi 4) (Sl.mk (some p11) 2 2).v).run prog X=.ok () N/\∃E:Value,∃t:Value,Row N M [E,t]/\∀p12 w22,New N (.cells #[E,t] 255) p12 w22->∃O:World,(Instr.mapUpdate 249 (.map<|some p.block) (vi 5) (Sl.mk (some p12) 1 1).v).run prog w22=.ok () O/\∃F:Value,∃H:Value,Row O p1 [F,H]/\∀V w24,New O (.cells #[F,H] 255) V w24->∃J:World,(Instr.mapUpdate 249 (.map<|some p.block) (vi 6) (Sl.mk (some V) 1 1).v).run prog w24=.ok () J/\∃x:Value,∃z:Value,Row J p1 [x,z]/\∃r:Value,∃I:Value,Row J M [r,I]/\∀p14 w26,New J (.cells #[x,z,r,I] 255) p14 w26->∃w:World,(Instr.mapUpdate 249 (.map<|some p.block) (vi 7) (Sl.mk (some p14) 2 2).v).run prog w26=.ok () w/\∃h:Value,∃a:Value,Row w p1 [h,a]/\∃d:Value,∃l:Value,Row w p2 [d,l]/\∃g:Value,∃m:Value,Row w M [g,m]/\∀p15 Z,New w (.cells #[h,a,d,l,g,m] 255) p15 Z->∃o:World,(Instr.mapUpdate 249 (.map<|some p.block) (vi 8) (Sl.mk (some p15) 3 3).v).run prog Z=.ok () o/\∃i:Value,∃b:Value,Row o p1 [i,b]/\∃e:Value,∃c:Value,Row o p2 [e,c]/\∃f:Value,∃k:Value,Row o M [f,k]/\∀U Y,New o (.cells #[i,b,e,c,f,k] 255) U Y->∃w31:World,(Instr.mapUpdate 249 (.map<|some p.block) (vi 9) (Sl.mk (some U) 3 3).v).run prog Y=.ok () w31/\K (some p.block) w31
def w_A6(a:World)(K:(Option Nat)->WP)(h:m_A6  a K):
  cl 164 #[] a<|fun e w'=>∃r1:Option Nat,e=.returned (.map r1)/\K r1 w':=
 cwN func164 h<|nwn 2<|usn 0<|nwn 1<|usn 0<|nwn 1<|usn 0<|nwn 1<|usn 0<|nwn 1<|usn 0<|nwn 1<|usn 0<|nwn 0<|xe2<|lr 0<|nwn 0<|xe<|es 0<|aan<|xe2<|lr 0<|nwn 0<|xe<|es 0<|aan<|xe2<|lr 0<|nwn 0<|xe<|es 0<|aan<|xe2<|lr 0<|xe2<|lr 0<|nwn 0<|xe<|es 0<|aan<|xe2<|lr 0<|nwn 0<|xe<|es 0<|aan<|xe2<|lr 0<|nwn 0<|xe<|es 0<|aan<|xe2<|lr 0<|xe2<|lr 0<|nwn 0<|xe<|es 0<|aan<|xe2<|lr 0<|xe2<|lr 0<|xe2<|lr 0<|nwn 0<|xe<|es 0<|aan<|xe2<|lr 0<|xe2<|lr 0<|xe2<|lr 0<|nwn 0<|xe<|es 0<|aan<|rr 2
def m_O1_l1(p3 q:Addr)(I:List (Int)->NP->WP)(m:List (Int))(B:Int)(x:NP)(F:World)(G K:Int)(D J:Int)(H:ByteArray)(L M:Int)(z:Sl)(s:Int)(e:NP)(a:World)(r:Int->NP->WP)(N:Sl->WP):Prop:=Br (decide (s<(z.len:Int))) (∃a1:Addr,At z s 2 a1/\∃c:Value,∃b:Value,Row a a1 [c,b]/\∀k h,New a (.cells #[(.nilFunc:Value),(.nilFunc:Value)] 255) k h->([c,b].all vE=true/\∀j,j<2->zV h (k.add j))/\¬e k.block/\∀d,d=storeRow h k [c,b]->∃y:Value,d.cell? k=some y/\lx d p3 fun E=>∃A:Option Nat,d.cell? q=some (.map A)/\∃(p:FuncId) (i n:Array Value),y=.func (.func p) i n/\(∀args w,(callFunc p args).run prog w=.ok (.enter p args) w)/\Calls prog p (i++#[E.v,(.agg #[(vi G),(vi K),(vi D),(vu J),(vs H),(vi L),(vi M)]),(.map A)]++n) d (XA fun C g=>Kept e d g/\zV g p3/\¬e p3.block/\∀l,l=g.setCell p3 C.v->r (q6.wrap<|s+1) e l)) (∃u:Option Nat,a.cell? q=some (.map u)/\∃o:Option Nat,a.cell? q=some (.map o)/\∃t,(Builtin.len_ #[231] 3 #[(.map o)]).run prog a=.ok (vi t) a/\∃f:World,(Instr.mapUpdate 231 (.map u) (vi B)<|vi t).run prog a=.ok () f/\Kept e a f/\Kept x F f/\I (m++[B]) x f)
def m_O1(p1:Option Addr)(t1:Int)(y:World)(K:Sl->WP):Prop:=∀N T,New y (.cells #[(vp p1)] 91) N T->∀p3 J,New T (.cells #[Sl.nil.v] 59) p3 J->cl 164 #[] J fun e w3=>∃r1:Option Nat,e=.returned (.map r1)/\Kept None J w3/\∀x I,New w3 (.cells #[(.map none)] 249) x I->zV I x/\¬None x.block/\∀U,U=I.setCell x (.map r1)->∀P S,New U (.map #[] 0) P S->∀n L,New S (.cells #[(.map none)] 231) n L->zV L n/\¬None n.block/\∀C,C=L.setCell n (.map<|some P.block)->lp C N fun v1=>cl 131 #[(vp v1),(vi t1)] C fun e G=>∃r2:Value,e=.returned r2/\Kept None C G/\∃(F:FuncId) (p:Array Value),r2=.func (.func F) #[] p/\(∀args w,(callFunc F args).run prog w=.ok (.enter F args) w)/\∃(k:List (Int)) (z:WP),zBF prog F p (fun(A:Int)=>#[(vi A)]) k z G/\∃(t:List (Int)->NP->WP),RngI y z t (fun _ _ _=>False) (fun _ _ _=>False)/\t [] None G/\(∀(c:List (Int)) (A:Int) (B:NP) (g:World),t c B g->Hst y B g B g->(∃q,k=c++A ::q)->lp g N fun v2=>cl 109 #[(vp v2),(vi A)] g fun e u=>∃E X Q W V Y Z r3,e=.returned (.tuple #[(Ae E X Q W V Y Z),(vb r3)])/\Kept None g u/\∀D l,Hst g None u D l->lx l p3 fun v3=>∀p8 j,New l (.cells #[(.int .u8<|IntKind.u8.wrap E)] 5) p8 j->∃s1:Sl,∃h:World,(Builtin.append_ #[59,59] 59 #[v3.v,(Sl.mk (some p8) 1 1).v]).run prog j=.ok s1.v h/\Kept D j h/\zV h p3/\¬D p3.block/\∀d,d=h.setCell p3 s1.v->∃v4:Option Nat,d.cell? x=some (.map v4)/\∃R:Sl,(Instr.lookup 249 (.map v4) (vi E) false).run prog d=.ok R.v d/\∃(M:Int->NP->WP) (o:Int->World->Nat),M 0 D d/\∀(H:Int) (i:NP) (f:World),Hst g i f i f->M H i f->m_O1_l1 p3 n t c A B g E X Q W V Y Z R H i f (fun r H' w'=>M r H' w'/\o r w'<o H f) K)/\∀m a,Hst y m a m a->(∀b,None b->m b)->Kept None G a->t k m a->lx a p3 fun O=>∀s,Hst y m a m s->K O s
def w_O1(p1 t1 w0 K)(h:m_O1 p1 t1 w0 K):
  cl 110 #[(vp p1),(vi t1)] w0<|XA K:=by
 refine cw (args:=[(vp p1),(vi t1)]) func110 ntmps110 ?_
 have⟨hs,c⟩:=st0 w0
 refine eg<|nw2 hs c h xb fun p2 w1 hs c h=>q<|ln<|eg<|nw2 hs c h (gQ (zeroValue59 _) rfl) fun p3 w2 hs c h=>ln<|eg<|sc call164 (h.mono fun e w3 ⟨r1,k,d,h⟩=>have⟨hs,c⟩:=d.hh hs c;⟨_,k,?_⟩)
 refine nw2 hs c h (gQ (zeroValue249 _) rfl) fun p4 w4 hs c h=>st2 (sizeOf249 _) hs c h fun w5 hs c h=>ln<|eg<|nw5 (fun p=>.map<|some p.block) hs c h fun p5 w6 hs c h=>nw2 hs c h (gQ (zeroValue231 _) rfl) fun p6 w7 hs c h=>st2 (sizeOf231 _) hs c h fun w8 hs c h=>ln<|jMH<|rg<|ql (isAgg91 _) h fun v1 h=>q<|sc call131 (h.mono fun e w9 ⟨r2,k,d,h⟩=>have⟨hs,c⟩:=d.hh hs c;⟨_,k,?_⟩)
 refine ln ?_
 have⟨f1,cs1,Z,hf1,h⟩:=h
 have⟨xs1,Rd1,hit,I1,V,X,i,h⟩:=h
 refine jIM (encs:=(fun(I:Int)=>#[(vi I)])) (Eq.trans (b:=r2) Kf Z) hf1 hit (fun _=>rfl) De hs I1 (fun _ _ _=>False) (fun _ _ _=>False) V X ?ha ?hr ?ht
 case ha =>
  intro l I w24
  refine rg<|q<|ln ⟨rfl,?_⟩
  intro y Y1 Y hi hY j
  have h:=i y I Y1 Y hi hY j
  have⟨hs,c⟩:=st0 Y
  refine qD<|eg<|ql (isAgg91 _) h fun v2 h=>q<|sc call109 (h.mono fun e w11 ⟨n,B,E,z,r,C,H,r3,k,d,h⟩=>have⟨hs,c⟩:=d.hh hs c;⟨_,k,?_⟩)
  refine qc<|nw3 [(vi 0),(vi 0),(vi 0),(vu 0),ve,(vi 0),(vi 0)] 119 hs c (gQ (zeroValue119 _) rfl) fun p7 w12 H1 hs c=>sbx 0 (Ab n B E z r C H) (sizeOf119 _) hs c gZ fun T hs c=>q<|ln<|eg ?_
  have⟨h,hs⟩:=hs.hr<|h H1 T
  refine ql (isAgg59 _) h fun v3 h=>q<|q3 (xl (isAgg3 _)<|c.d0 0 gZ)<|q<|jLE (O:=(.cells #[(.int .u8<|IntKind.u8.wrap n)] 5)) (fun p=>(Sl.mk (some p) 1 1).v) (qE rfl) (jNX (vs:=#[(0,(.int .u8<|IntKind.u8.wrap n))]) Kf Kf) ?_
  intro p8 w14 u
  have h:=h p8 w14 u
  have⟨hs,c⟩:=hs.nw c u
  have⟨s1,w15,o,d,h⟩:=h
  refine st (v:=s1.v) (qE rfl) (jEM (args:=#[v3.v,(Sl.mk (some p8) 1 1).v]) Kf (fun _=>rfl) o) ?_
  have⟨hs,c⟩:=d.hh hs c
  refine st2 (sizeOf59 _) hs c h fun w16 hs c h=>ln<|zL<|eg<|ql (isAgg249 _) h fun v4 h=>q<|q3 (xl (isAgg3 _)<|c.d0 0 gZ) ?_
  have⟨P,A,h⟩:=h
  refine q2 P.v (jHR Kf Kf A)<|qb<|ln<|qD ?_
  have⟨I2,mu1,X,hr⟩:=h
  refine jAW (σ:=Int×NP×World) (fun s ρ w=>w=s.2.2/\Has ρ [(5,(vp<|some p3)),(7,(vp<|some p6)),(8,(vi I)),(9,(vp<|some p7)),(34,P.v),(35,(vi (P.len:Int))),(36,(vi s.1))]/\Hst Y s.2.1 w s.2.1 w/\HB s.2.1 w [(p7,(Ab n B E z r C H),119)]/\I2 s.1 s.2.1 s.2.2) (fun s=>mu1 s.1 s.2.2) (0,H1,w16) ⟨rfl,hm,hs,c,X⟩ ?_
  rintro⟨x1,m,wl1⟩ ρ w ⟨hw,hH,hs,c,hI⟩
  dsimp only at hw hH hs c;subst w
  have h:=hr x1 m wl1 hs hI
  refine yW hH (eg<|q<|ln<|zL<|cbr h ?_ ?_)<;>intro h
  refine vB<|uZ<|zL<|qD<|eg<|qi (runUnderlying251 _) (sizeOf255 _) h fun a1 h=>?_
  have⟨g,f,U,h⟩:=h
  refine qa (isAgg255 _) (sizeOf255 _) U<|nw2 hs c h (gQ (zeroValue255 _) rfl) fun p9 w17 hs c h=>?_
  have⟨t,hnh,h⟩:=h
  refine ss (jHQ (a:=p9) (vs:=[g,f]) Kf Kf t.1 (sizeOf255 _) rfl t.2) ?_
  intro G D
  have h:=h G D
  have d:Kept m w17 G:=by rw[D];exact Kept.storeRow hnh
  have⟨hs,c⟩:=d.hh hs c
  refine ln<|rg<|q<|ql (isAgg252 _) h fun v6 h=>ql (isAgg59 _) h fun v7 h=>q2 (Ae n B E z r C H) (xa p7 (Ab n B E z r C H) (isAgg119 _) (sizeOf119 _)<|c.r0 0 7 gZ)<|ql (isAgg231 _) h fun v8 h=>?_
  have⟨f2,W,R,hp5,h⟩:=h
  have⟨L,h⟩:=h
  refine jRT (qE rfl) (zBO (fs:=W) (caps:=R) (args:=#[v7.v,(Ae n B E z r C H),(.map v8)]) Kf hp5 L Kf rfl) (h.mono ?_)
  rintro e w19 ⟨r4,rfl,d,h⟩
  refine⟨_,rfl,?_⟩
  have⟨hs,c⟩:=d.hh hs c
  refine st2 (sizeOf59 _) hs c h fun Q hs c h=>vH<|zBB<|uZ<|rg<|qb<|ln ⟨((q6.wrap<|x1+1),m,Q),⟨rfl,hm,hs,c,h.1⟩,h.2⟩
  refine jAX<|jYH<|jYH<|jXK<|uZ<|rg<|ql (isAgg231 _) h fun v9 h=>q<|ql (isAgg231 _) h fun v10 h=>?_
  have⟨z3,J,h⟩:=h
  refine q2 (vi z3) (jEM (args:=#[(.map v10)]) Kf (fun _=>rfl) J) ?_
  have⟨w21,N,d,h⟩:=h
  refine jDR (qE rfl) (jIG Kf Kf Kf N) ?_
  have⟨hs,c⟩:=d.hh hs c
  refine vH<|zBB ?_
  exact rd_n h
 case hr =>
  intro D1 H2 S hs' hD hDe bR F x
  have hb':=c.behind F bR hD hDe
  have hs:=hs'
  have c:=hb'
  have h:=h H2 S hs bR F<|x.elim id fun h=>h.elim fun _ h=>h.elim
  refine eg<|ql (isAgg59 _) h fun v11 h=>q<|ln<|er<|af_r c.dead ?_
  intro w23 M
  have hl:=c.leave hs M
  have⟨hs,c⟩:=hl
  -- behind the loop
  have⟨h,hs⟩:=hs.hr<|h w23
  refine rs1 results110 ⟨v11,rfl,h⟩
 case ht =>
  intro _ _ _ _ _ _ _ h
  exact h.elim
def m_B6(p1:Option Addr)(g:Int)(b:World)(K:Sl->Int->WP):Prop:=cl 109 #[(vp p1),(vi g)] b fun e f=>∃i h n m l j k r1,e=.returned (.tuple #[(Ae i h n m l j k),(vb r1)])/\Kept None b f/\Br (!r1) (∀c a,Hst b None f c a->K Sl.nil 51 a) (∀c a,Hst b None f c a->cl 110 #[(vp p1),(vi g)] a (XA fun r2 d=>Kept c a d/\Br (decide ((r2.len:Int)>4096)) (K Sl.nil 1 d) (K r2 0 d)))
def w_B6(p1 t1 w0 K)(h:m_B6 p1 t1 w0 K):
  cl 53 #[(vp p1),(vi t1)] w0<|XN K:=
 cwH func53 h<|cc 4 call109<|xe6<|xe2<|rt<|aah<|nh 3<|sg 0 0 []<|br 0 3 (ah<|rr 3)<|ah<|ca1 3 call110<|br 0 4 (rr 3)<|rr 4
def m_C6(p1:Option Addr)(b1:Sl)(g:World)(K:Int->Int->Int->WP):Prop:=cl 18 #[b1.v] g fun e a=>∃r1 r2 r3,e=.returned (.tuple #[(vp r1),(vi r2),(vi r3)])/\Br (r2 !=0) (K 0 r2 r3 a) (∃a1,r1=some a1/\∃b:Sl,a.cell? a1=some b.v/\cl 111 #[(vp p1),(vp r1),(vi (b.len:Int))] a (XH fun d c f=>K d c 0 f))
def w_C6(p1 b1 w0 K)(h:m_C6 p1 b1 w0 K):
  cl 54 #[(vp p1),b1.v] w0<|XJ K:=
 cwN func54 h<|cn3 4 call18<|br 0 9 (rr 6)<|nc 4<|ld 1<|cn2 1 call111<|rr 10
def m_D6(p1:Sl)(c:World)(K:(Option Addr)->WP):Prop:=cl 271 #[p1.v] c<|XA fun r1 d=>∀a b,New d (.cells #[r1.v,(vi 0),(vi 0),(vi 0)] 319) a b->K (some a) b
def w_D6(p1 w0 K)(h:m_D6 p1 w0 K):
  cl 182 #[p1.v] w0<|XD K:=
 cwN func182 h<|cn1 2 call271<|nwn 1<|rr 1
def m_E6(r1:Option Addr)(b:World)(K:Int->WP):Prop:=Br (Option.isNone r1) (K 0 b)<|∃a1,r1=some a1/\∀a,Hst b None b None a->lx a a1 fun d=>∃a2,r1=some a2/\li a (a2.add 1) fun c=>K (q6.wrap<|(d.len:Int)-c) a
def w_E6(r1 w0 K)(h:m_E6 r1 w0 K):
  cl 183 #[(vp r1)] w0<|XB K:=
 cwH func183 h<|br 0 3 (rr 2)<|dq 1<|nc 1<|an<|ld 1<|nc 2<|ld 1<|rr 2
def m_F6(r1:Option Addr)(a:World)(K:Int->WP):Prop:=Br (Option.isNone r1) (K 0 a)<|∃a1,r1=some a1/\li a (a1.add 1) fun b=>K b a
def w_F6(r1 w0 K)(h:m_F6 r1 w0 K):
  cl 184 #[(vp r1)] w0<|XB K:=
 cwN func184 h<|br 0 3 (rr 2)<|nc 2<|ld 1<|rr 1
def m_G6(r1:Option Addr)(j:World)(K:Int->WP):Prop:=∀p1 h,New j (.cells #[(vp r1)] 272) p1 h->∀a c,New h (.cells #[(.int .u8 0)] 5) a c->lp c p1 fun i=>cl 290 #[(vp i),(.func (.func 295) #[] #[(vp<|some p1),(vp<|some a)])] c fun e d=>e=.returned (.tuple #[])/\∃f:Int,d.cell? a=some (.int .u8 f)/\zV d a/\∀b,b=d.setCell a (.int .u8 f)->∃g:Int,b.cell? a=some (.int .u8 g)/\K g b
def w_G6(r1 w0 K)(h:m_G6 r1 w0 K):
  cl 272 #[(vp r1)] w0<|XT K:=
 cwN func272 h<|nwn 0<|nwn 0<|ld 0<|cn0 1 call290<|ld 0<|ssn 0<|rss 0<|qcc<|qee
def m_H6(r1:Option Addr)(b:World)(K:Int->Int->WP):Prop:=Br (Option.isNone r1) (K 0 0 b)<|∃a1,r1=some a1/\∀a,Hst b None b None a->li a (a1.add 2) fun d=>∃a2,r1=some a2/\li a (a2.add 3) fun c=>K d c a
def w_H6(r1 w0 K)(h:m_H6 r1 w0 K):
  cl 273 #[(vp r1)] w0<|XH K:=
 cwH func273 h<|br 0 4 (rr 3)<|dq 1<|nc 1<|an<|ld 1<|nc 1<|ld 1<|rr 2
def s_P(n1:Int):Int:=(cond (decide (n1>2147483647)) (-1)<|q6.wrap n1)
def p_P(n1:Int)(c:World):cl 274 #[(.int .u64 n1)] c (fun e w'=>e=.returned (.int .i64<|s_P n1)/\Pure c w'):=
 cwp func274 [(decide (n1>2147483647))] (fun b=>(vi<|cond (b 0) (-1)<|q6.wrap n1)) fun a=>pb 0 3 0 a (fun a=>qpe 2 a)<|fun a=>qpe 4 a
def s_J2(c a:Int)(b d:Int)(e:ByteArray)(g f:Int):Int:=(cond (((((decide (a<0)) ||(decide (a>=16))) ||(decide (b<0))) ||(decide (b>=16))) ||(((c==8) ||(c==9))&&(a==b))) 50 0)
def p_J2(c a:Int)(d m:Int)(n:ByteArray)(p o:Int)(q:World):cl 275 #[(.agg #[(.int .i64 c),(.int .i64 a),(.int .i64 d),(.int .u64 m),(.string n),(.int .i64 p),(.int .i64 o)])] q (fun e w'=>e=.returned (.int .i64<|s_J2 c a d m n p o)/\Pure q w'):=
 cwp func275 [(((((decide (a<0)) ||(decide (a>=16))) ||(decide (d<0))) ||(decide (d>=16))) ||(((c==8) ||(c==9))&&(a==d)))] (fun b=>(vi<|cond (b 0) 50 0)) fun j=>nh 0<|pj 1 0 [] [1] (fun b=>[(3,(vb<|(c==8) ||(c==9)))]) (fun r=>lh 1 0 []<|ct 2 4<|pj 0 0 [(c==8)] [1] (fun b=>[(11,(vb<|(b 0) ||(c==9)))]) (fun l=>pb 1 0 0 l (fun l=>pe 4 0 l)<|fun l=>lh 1 0 []<|pe 2 0 l)<|pe 1 0 r)<|pj 0 0 [((((decide (a<0)) ||(decide (a>=16))) ||(decide (d<0))) ||(decide (d>=16)))] [] (fun b=>[(39,(vb<|(b 0) ||(((c==8) ||(c==9))&&(a==d))))]) (fun k=>lh 1 0 [1]<|ct 2 4<|pj 0 0 [(decide (a<0))] [1,3] (fun b=>[(19,(vb<|(b 0) ||(decide (a>=16))))]) (fun i=>pb 1 0 0 i (fun i=>pe 4 0 i)<|fun i=>lh 1 0 [1]<|pe 2 0 i)<|ct 1 4<|pj 0 0 [((decide (a<0)) ||(decide (a>=16)))] [1,3] (fun b=>[(24,(vb<|(b 0) ||(decide (d<0))))]) (fun h=>pb 1 0 0 h (fun h=>pe 4 0 h)<|fun h=>lh 1 0 [2]<|pe 2 0 h)<|ct 1 4<|pj 0 0 [(((decide (a<0)) ||(decide (a>=16))) ||(decide (d<0)))] [1,3] (fun b=>[(29,(vb<|(b 0) ||(decide (d>=16))))]) (fun f=>pb 1 0 0 f (fun f=>pe 4 0 f)<|fun f=>lh 1 0 [2]<|pe 2 0 f)<|pb 1 1 0 k (fun k=>pe 9 0 k)<|fun k=>ct 2 6<|pj 0 0 [((c==8) ||(c==9))] [30] (fun b=>[(38,(vb<|(b 0)&&(a==d)))]) (fun g=>pb 1 0 0 g (fun g=>lh 1 0 [1]<|lh 1 0 [2]<|pe 2 0 g)<|fun g=>pe 6 0 g)<|pe 1 0 k)<|pb 0 0 0 j (fun j=>qpe 2 j)<|fun j=>qpe 2 j
def m_F_j4(f:Option Addr)(p1:Addr)(H:NP)(w:World)(K:Int->WP):Prop:=∃p r h dF l g q,Row w p1 (Ab p r h dF l g q)/\cl 127 #[(vp f),(.agg #[(vi p),(vi r),(vi h),(vu dF),(vs l),(vi g),(vi q)])] w fun e a=>∃t n,e=.returned (.tuple #[(vi t),(vb n)])/\Kept H w a/\Br n (K 72 a) (∃k j m d i o dP,Row a p1 (Ab k j m d i o dP)/\cl 132 #[(vp f),(.agg #[(vi k),(vi j),(vi m),(vu d),(vs i),(vi o),(vi dP)])] a (XH fun s c b=>Kept H a b/\K c b))
def m_F_j3(d:Option Addr)(p1:Addr)(H:NP)(w:World)(K:Int->WP):Prop:=∃c,w.cell? (p1.add 11)=some (vi c)/\Br (decide (c>1)) (∃b,w.cell? (p1.add 10)=some (vu b)/\zV w (p1.add 6)/\¬H (p1.add 6).block/\∀a,a=w.setCell (p1.add 6) (vi<|q6.wrap<|IntKind.u64.wrap<|b+1)->m_F_j4 d p1 H a K) (m_F_j4 d p1 H w K)
def m_F_j2(c:Option Addr)(p1:Addr)(e:Bool)(H:NP)(w:World)(K:Int->WP):Prop:=Br e (K 71 w)<|∃d,w.cell? (p1.add 11)=some (vi d)/\Br (decide (d>0)) (∃b,w.cell? (p1.add 9)=some (vu b)/\zV w (p1.add 5)/\¬H (p1.add 5).block/\∀a,a=w.setCell (p1.add 5) (vi<|q6.wrap<|IntKind.u64.wrap<|b+1)->m_F_j3 c p1 H a K) (m_F_j3 c p1 H w K)
def m_F_j5(c:Option Addr)(p1:Addr)(d:Int)(e:Bool)(H:NP)(w:World)(K:Int->WP):Prop:=Br e (m_F_j2 c p1 true H w K)<|∃a,w.cell? (p1.add 11)=some (vi a)/\Br (decide (a>1)) (∃b,w.cell? (p1.add 10)=some (vu b)/\m_F_j2 c p1 (decide (b>=(IntKind.u64.wrap d))) H w K) (m_F_j2 c p1 false H w K)
def m_F_l1(y:Option Addr)(r1:Option Addr)(p1:Addr)(L:Sl)(B:Int)(Q:World)(a:NP)(i:World)(z:Int->NP->WP)(K:Int->WP):Prop:=Br (decide (B<(L.len:Int))) (∃a1:Addr,At L B 2 a1/\∃c:Value,∃b:Value,Row i a1 [c,b]/\∀o G,New i (.cells #[(.nilFunc:Value),(.nilFunc:Value)] 255) o G->([c,b].all vE=true/\∀j,j<2->zV G (o.add j))/\¬a o.block/\∀r,r=storeRow G o [c,b]->∃J:Value,r.cell? (o.add 1)=some J/\∃(v:FuncId) (m l:Array Value),J=.func (.func v) m l/\(∀args w,(callFunc v args).run prog w=.ok (.enter v args) w)/\Calls prog v (m++#[(vp r1),(vp<|some p1)]++l) r fun e O=>e=.returned (.tuple #[])/\Kept a r O/\z (q6.wrap<|B+1) a O) (cl 273 #[(vp r1)] i fun e s=>∃r3 S,e=.returned (.tuple #[(vi r3),(vi S)])/\Kept a i s/\Br (r3 !=0) (K r3 s) (∃p:WP,p s.drew/\∀t,t=s.drew->∃R,t.cell? (p1.add 7)=some (vu R)/\∃M,(∀w',p w'->w'.cell? (p1.add 8)=some (vu M))/\cl 274 #[(vu R)] t fun e q=>∃N,e=.returned (vi N)/\p q/\Kept a t q/\cl 274 #[(vu M)] q fun e u=>∃P,e=.returned (vi P)/\p u/\Kept a q u/\zV u (p1.add 1)/\¬a (p1.add 1).block/\∀h,h=u.setCell (p1.add 1) (vi N)->p h/\zV h (p1.add 2)/\¬a (p1.add 2).block/\∀g,g=h.setCell (p1.add 2) (vi P)->∃A x C H D E F,Row g p1 (Ab A x C H D E F)/\Br (((s_J2 A x C H D E F):Int) !=0) (∀d,Hst Q a g a d->K (s_J2 A x C H D E F) d) (∀d,Hst Q a g a d->cl 136 #[(vp y)] d (XB fun I f=>Kept a d f/\∃n,f.cell? (p1.add 11)=some (vi n)/\Br (decide (n>0)) (∃k,f.cell? (p1.add 9)=some (vu k)/\m_F_j5 y p1 I (decide (k>=(IntKind.u64.wrap I))) a f K) (m_F_j5 y p1 I false a f K)))))
def m_F(o:Option Addr)(r1:Option Addr)(c:Option Nat)(h:World)(K:Int->WP):Prop:=cl 272 #[(vp r1)] h<|XT fun r2 m=>Kept None h m/\∀p1 d,New m (.cells #[(vi<|q6.wrap r2),(vi 0),(vi 0),(vu 0),ve,(vi 0),(vi 0),(vu 0),(vu 0),(vu 0),(vu 0),(vi 0)] 314) p1 d->∃l,d.cell? p1=some (vi l)/\∃k:Sl,∃g,(Instr.lookup 249 (.map c) (vi l) true).run prog d=.ok (.tuple #[k.v,(vb g)]) d/\Br (!g) (K 70 d) (∃(j:Int->NP->WP) (f:Int->World->Nat),j 0 None d/\∀(i:Int) (b:NP) (a:World),Hst h b a b a->j i b a->m_F_l1 o r1 p1 k i h b a (fun e n w'=>j e n w'/\f e w'<f i a) K)
def w_F(aM r1 kinds1 w0 K)(h:m_F aM r1 kinds1 w0 K):
  cl 185 #[(vp aM),(vp r1),(.map kinds1)] w0<|XB K:=
 cwH func185 h<|ca1 2 call272<|nwh 3<|ld 6<|xe2<|rn 0<|br 0 7 (rr 2)<|wa1 4 [0,1,7,38,39] (fun e=>[(40,(vi e))])<|fun {_ _ e}=>fun m=>br 0 1 (ix 1<|xe2<|lr 0<|nwh 0<|vsh 0<|ld 1<|fo<|fun d=>cv 2 d<|rt<|aah<|je 2 0 m)<|ca2 2 call273<|br 0 7 (rr 3)<|dC 1 [6,11,15,19] [19]<|lde 5<|ldc 3<|cd1 0 call274<|cd1 0 call274<|ssc 3<|ssh 3<|xe6<|fun {j k o q l n}=>xe<|fun {p}=>lr 3<|cp 0 call275 (p_J2 j k o q l n p)<|br 0 3 (an<|rr 3)<|an<|ca1 2 call136<|ja1 2 0 [0,7] (fun b=>[(114,(vb b))]) (fun b H w=>m_F_j2 _ _ b H w _) (fun c=>ld 3<|ct 2 7<|ja1 0 0 [0,7,15] (fun a=>[(99,(vb a))]) (fun a H w=>m_F_j5 _ _ _ a H w _) (fun i=>br 1 0 (ld 3<|je 3 0 i)<|je 7 0 i)<|fun {a}=>br 1 1 (je 14 0 c)<|ld 3<|br 1 2 (ld 3<|je 4 0 c)<|je 8 0 c)<|fun {b}=>br 0 0 (rr 2)<|ld 4<|ja0 1 0 [0,7] ([]) (fun H w=>m_F_j3 _ _ H w _) (fun g=>br 0 0 (ld 5<|ssh 5<|je 0 0 g)<|je 1 0 g)<|ld 3<|ja0 1 0 [0,7] ([]) (fun H w=>m_F_j4 _ _ H w _) (fun f=>br 0 0 (ld 5<|ssh 5<|je 0 0 f)<|je 1 0 f)<|xe6<|xe<|lr 4<|ca2 0 call127<|br 0 6 (rr 2)<|xe6<|xe<|lr 5<|ca2 0 call132<|rr 7
def m_P1_l1(r1:Option Addr)(r2:Option Addr)(r3:Option Nat)(a:Sl)(r:World)(c:NP)(B:World)(E:Sl->NP->WP)(K:(Option Addr)->Int->Int->WP):Prop:=cl 183 #[(vp r2)] B fun e C=>∃M,e=.returned (vi M)/\Kept c B C/\Br (decide (M>0)) (cl 184 #[(vp r2)] C fun e I=>∃G,e=.returned (vi G)/\Kept c C I/\cl 185 #[(vp r1),(vp r2),(.map r3)] I (XB fun N H=>Kept c I H/\Br (N !=0) (K none N G H) (∀p1 J,New H (.cells #[(vi G)] 3) p1 J->∃s1:Sl,∃F:World,(Builtin.append_ #[42,42] 42 #[a.v,(Sl.mk (some p1) 1 1).v]).run prog J=.ok s1.v F/\Kept c J F/\E s1 c F))) (∀i L,New C (.cells #[(vi 0)] 3) i L->zV L i/\¬c i.block/\∀p,p=L.setCell i (vi 0)->cl 136 #[(vp r1)] p fun e o=>∃O,e=.returned (vi O)/\Kept c p o/\cl 131 #[(vp r1),(vi O)] o fun e j=>∃P:Value,e=.returned P/\Kept c o j/\∃(D:FuncId) (t:Array Value),P=.func (.func D) #[] t/\(∀args w,(callFunc D args).run prog w=.ok (.enter D args) w)/\∃(n:List (Int)) (z:WP),zBF prog D t (fun(s:Int)=>#[(vi s)]) n z j/\∃(y q:List (Int)->NP->WP),RngI r z y q (fun _ _ _=>False)/\y [] c j/\(∀(f:List (Int)) (s:Int) (l:NP) (h:World),y f l h->Hst r l h l h->(∃u,n=f++s ::u)->li h i fun U=>Br (s !=(q6.wrap<|U+1)) (Kept l h h/\q (f++[s]) l h)<|li h i fun R=>zV h i/\¬None i.block/\∀m,m=h.setCell i (vi<|q6.wrap<|R+1)->Kept l h m/\y (f++[s]) l m)/\∀g d,Hst r g d g d->(∀b,c b->g b)->Kept c j d->(y n g d\/∃pre,q pre g d)->li d i fun Q=>Br (decide (Q<(a.len:Int))) (∀k,Hst r g d g k->li k i fun T=>∃a1:Addr,At a T 1 a1/\li k a1 fun S=>∀A,Hst r g k g A->K none 73 S A)<|∀x,Hst r g d g x->K r1 0 0 x)
def m_P1(b1:Sl)(d:World)(K:(Option Addr)->Int->Int->WP):Prop:=Br (decide ((b1.len:Int)>4096)) (K none 1 0 d)<|Br (((b1.len:Int):Int)==0) (K none 3 0 d)<|cl 42 #[] d fun e i=>∃r1,e=.returned (vp r1)/\Kept None d i/\cl 182 #[b1.v] i fun e h=>∃r2,e=.returned (vp r2)/\Kept None i h/\cl 164 #[] h fun e k=>∃r3:Option Nat,e=.returned (.map r3)/\Kept None h k/\∃(j:Sl->NP->WP) (g:Sl->World->Nat),j Sl.nil None k/\∀(a:Sl) (c:NP) (b:World),Hst d c b c b->j a c b->m_P1_l1 r1 r2 r3 a d c b (fun f l w'=>j f l w'/\g f w'<g a b) K
def w_P1(b1 w0 K)(h:m_P1 b1 w0 K):
  cl 135 #[b1.v] w0<|XV K:=by
 refine cw (args:=[b1.v]) func135 ntmps135 ?_
 have⟨hs,a⟩:=st0 w0
 refine eg (qc<|ln<|jNY rfl (fun _ _ _ h=>h) (zL<|qD<|eg<|qd<|ln<|cbr h ?_ ?_))<;>intro h
 refine eg<|qc<|ln<|er<|zBA<|jMM<|res3 (.inl rfl) results135 (v:=(vp none)) Kf (v':=(vi 1)) Kf (v'':=(vi 0)) Kf ⟨none,1,0,rfl,h⟩
 refine eg (qd<|ln<|cbr h ?_ ?_)<;>intro h
 refine eg<|qc<|ln<|er<|zBA<|jMM<|res3 (.inl rfl) results135 (v:=(vp none)) Kf (v':=(vi 3)) Kf (v'':=(vi 0)) Kf ⟨none,3,0,rfl,h⟩
 refine vB<|zBB<|uZ<|eg<|sc call42 (h.mono fun e w1 ⟨r1,k,d,h⟩=>have⟨hs,a⟩:=d.hh hs a;⟨_,k,?_⟩)
 refine q<|ln<|eg<|q<|sc call182 (h.mono fun e w2 ⟨r2,k,d,h⟩=>have⟨hs,a⟩:=d.hh hs a;⟨_,k,?_⟩)
 refine q<|ln<|eg<|sc call164 (h.mono fun e w3 ⟨r3,k,d,h⟩=>have⟨hs,a⟩:=d.hh hs a;⟨_,k,?_⟩)
 refine q<|ln<|eg<|q<|ln<|zL<|qD ?_
 have⟨I1,z,D,hr⟩:=h
 refine jAW (σ:=Sl×NP×World) (fun s ρ w=>w=s.2.2/\Has ρ [(5,(vp r1)),(6,(vp r2)),(7,(.map r3)),(8,s.1.v)]/\Hst w0 s.2.1 w s.2.1 w/\HB s.2.1 w []/\I1 s.1 s.2.1 s.2.2) (fun s=>z s.1 s.2.2) (Sl.nil,None,w3) ⟨rfl,hm,hs,a,D⟩ ?_
 rintro⟨c,x,R⟩ ρ w ⟨hw,U,hs,a,hI⟩
 dsimp only at hw U hs a;subst w
 have h:=hr c x R hs hI
 refine yW U<|zL<|eg<|q<|sc call183 (h.mono fun e w4 ⟨r4,k,d,h⟩=>have⟨hs,a⟩:=d.hh hs a;⟨_,k,?_⟩)
 refine q (ln<|cbr h ?_ ?_)<;>intro h
 refine vB<|uZ<|qD<|eg<|q<|sc call184 (h.mono fun e w5 ⟨V,k,d,h⟩=>have⟨hs,a⟩:=d.hh hs a;⟨_,k,?_⟩)
 refine q<|ln<|zL<|eg<|qc<|sc call185 (h.mono fun e w6 ⟨Y,k,d,h⟩=>have⟨hs,a⟩:=d.hh hs a;⟨_,k,?_⟩)
 refine q (ln<|eg<|qb<|ln<|cbr h ?_ ?_)<;>intro h
 refine eg<|q<|qd<|ln<|er<|jMM<|zBA<|jMM<|zBA<|jMM<|res3 (.inl rfl) results135 (v:=(vp none)) Kf (v':=(vi Y)) Kf (v'':=(vi V)) Kf ⟨none,Y,V,rfl,h⟩
 refine vB<|uZ<|rg<|qb<|nw5 (fun p=>(Sl.mk (some p) 1 1).v) hs a h fun p1 w7 hs a h=>?_
 have⟨s1,w8,H,d,h⟩:=h
 refine st (v:=s1.v) (qE rfl) (jEM (args:=#[c.v,(Sl.mk (some p1) 1 1).v]) Kf (fun _=>rfl) H) ?_
 have⟨hs,a⟩:=d.hh hs a
 refine q<|vH<|zBB<|uZ ⟨(s1,x,w8),⟨rfl,hm,hs,a,h.1⟩,h.2⟩
 refine jAX<|jYH<|jYH<|jXK<|uZ<|eg<|sn (O:=(.cells #[(vi 0)] 3)) (gQ (zeroValue3 _) rfl) ?_
 intro p2 w9 u
 have h:=h p2 w9 u
 have⟨hs,a⟩:=hs.nw a u
 refine st2 (sizeOf3 _) hs a h fun w10 hs a h=>ln<|zL<|jNZ<|uZ<|jMH<|rg<|q0 (vp r1)<|q0 (vp r1)<|sc call136 (h.mono fun e w11 ⟨r7,k,d,h⟩=>have⟨hs,a⟩:=d.hh hs a;⟨_,k,?_⟩)
 refine sc call131 (h.mono fun e w12 ⟨r8,k,d,h⟩=>have⟨hs,a⟩:=d.hh hs a;⟨_,k,?_⟩)
 refine ln ?_
 have⟨f1,Z,B,T,h⟩:=h
 have⟨xs1,Rd1,hit,I2,P,A,D,m,h⟩:=h
 refine jIM (encs:=(fun(S:Int)=>#[(vi S)])) (Eq.trans (b:=r8) Kf B) T hit (fun _=>rfl) De hs I2 P (fun _ _ _=>False) A D ?ha ?hr ?ht
 case ha =>
  intro l S w19
  refine rg<|q<|ln ⟨rfl,?_⟩
  intro n Y1 W hi hY i
  have h:=m n S Y1 W hi hY i
  have⟨hs,a⟩:=st0 W
  refine qD (zL<|eg<|q<|ql (isAgg3 _) h fun v1 h=>qb<|ln<|cbr h ?_ ?_)<;>intro h
  refine jAX<|jYH<|bl_ne rfl ?_
  exact rd_x h
  refine vB<|uZ<|rg<|ql (isAgg3 _) h fun v2 h=>q<|st2 (sizeOf3 _) hs a h fun w14 hs a h=>vH<|zBB ?_
  exact rd_n h
 case hr =>
  intro D1 y r M hD I X o t
  have L:=a.behind o X hD I
  have hs:=M
  have a:=L
  have h:=h y r hs X o t
  refine zL (eg<|ql (isAgg3 _) h fun v3 h=>qc<|ln<|cbr h ?_ ?_)<;>intro h
  refine zL<|jCQ Kf Kf Kf Kf ?_
  intro j f
  have hs:Hst w0 y r y j:=by rw[f];exact hs.drew
  have a:HBZ [(D1,.deferred<|some [])] y j []:=by rw[f];exact a.drew
  refine qq 0 c.v Kp0<|qg 1 ?_
  have⟨h,hs⟩:=hs.hr<|h j
  have⟨v4,C,h⟩:=h
  refine sxQ Kp1 (qE rfl) rfl (xl (isAgg3 _) C) (qg 2 ?_)
  have⟨a1,G,h⟩:=h
  refine sxQ Kp2 (qE rfl) rfl (xi (runUnderlying42 _) (sizeOf3 _) G) (qg 3 ?_)
  have⟨E,Q,h⟩:=h
  refine sxQ Kp3 (qE rfl) rfl (xl (isAgg3 _) Q) (qq 4 (vp none) Kp4<|qq 5 (vi 73) Kp5<|qq 6 (vi E) Kp6<|wn<|uZ<|er<|jMM<|af_r a.dead ?_)
  intro N g
  have F:=a.leave hs g
  have⟨hs,a⟩:=F
  -- behind the loop
  have⟨h,hs⟩:=hs.hr<|h N
  refine res3 (.inl rfl) results135 (v:=(vp none)) Kf (v':=(vi 73)) Kf (v'':=(vi E)) Kf ⟨none,73,E,rfl,h⟩
  refine vB<|uZ<|eg<|qd<|ln<|er<|af_r a.dead ?_
  intro J g
  have F:=a.leave hs g
  have⟨hs,a⟩:=F
  -- behind the loop
  have⟨h,hs⟩:=hs.hr<|h J
  refine res3 (.inl rfl) results135 (v:=(vp r1)) Kf (v':=(vi 0)) Kf (v'':=(vi 0)) Kf ⟨r1,0,0,rfl,h⟩
 case ht =>
  intro _ _ _ _ _ _ _ h
  exact h.elim
def m_I6(p1:Option Addr)(b1:Sl)(c:World)(K:Int->Int->Int->WP):Prop:=Br (Option.isNone p1) (K 0 2 0 c)<|cl 135 #[b1.v] c fun e b=>∃r1 r2 r3,e=.returned (.tuple #[(vp r1),(vi r2),(vi r3)])/\Br (r2 !=0) (K 0 r2 r3 b) (cl 136 #[(vp r1)] b fun e g=>∃a,e=.returned (vi a)/\cl 69 #[(vp p1),(vp r1),(vi a)] g (XH fun d f h=>K d f 0 h))
def w_I6(p1 b1 w0 K)(h:m_I6 p1 b1 w0 K):
  cl 71 #[(vp p1),b1.v] w0<|XJ K:=
 cwN func71 h<|br 0 5 (rr 4)<|cn3 2 call135<|br 0 9 (rr 6)<|cn1 4 call136<|cn2 0 call69<|rr 10
def m_K2_l1(n2:Int)(b:Sl)(a:World)(d:Int->Sl->WP)(K:Sl->WP):Prop:=Br (decide (n2>=128)) (∃g,(Go.binOp .rem 23 (vu n2)<|vu 128).run prog a=.ok (vu g) a/\∀e i,New a (.cells #[(.int .u8<|IntKind.u8.wrap<|IntKind.u64.wrap<|g+128)] 5) e i->∃f:Sl,∃c:World,(Builtin.append_ #[59,59] 59 #[b.v,(Sl.mk (some e) 1 1).v]).run prog i=.ok f.v c/\∃l,(Go.binOp .quo 23 (vu n2)<|vu 128).run prog c=.ok (vu l) c/\d l f c)<|∀p3 j,New a (.cells #[(.int .u8<|IntKind.u8.wrap n2)] 5) p3 j->∃h:Sl,∃k:World,(Builtin.append_ #[59,59] 59 #[b.v,(Sl.mk (some p3) 1 1).v]).run prog j=.ok h.v k/\K h k
def m_K2(b1:Sl)(n1:Int)(i:World)(K:Sl->WP):Prop:=∀p1 h,New i (.cells #[] 5) p1 h->∃s1:Sl,∃g:World,(Builtin.append_ #[59,59] 59 #[(Sl.mk (some p1) 0 0).v,b1.v]).run prog h=.ok s1.v g/\∃(f:Int->Sl->WP) (d:Int->Sl->World->Nat),f n1 s1 g/\∀(n2:Int) (a:Sl) (b:World),f n2 a b->m_K2_l1 n2 a b (fun c e w'=>f c e w'/\d c e w'<d n2 a b) K
def w_K2(b1 n1 w0 K)(h:m_K2 b1 n1 w0 K):
  cl 214 #[b1.v,(vu n1)] w0<|XA K:=
 cwN func214 h<|nwn 1<|xe2<|ef 1<|aan<|wc2 1 [] (fun n2 a=>[(1,(vu n2)),(5,(Sl.v a))])<|fun {_ _ n2 a}=>fun b=>br 0 2 (xe<|rb 3<|nwn 2<|xe2<|ef 0<|aan<|xe<|rb 2<|jen 1 b)<|nwn 4<|xe2<|ef 0<|aan<|rr 1
def m_J6(b1:Sl)(s1:ByteArray)(c:World)(K:Sl->WP):Prop:=cl 214 #[b1.v,(vu<|IntKind.u64.wrap (s1.size:Int))] c<|XA fun r1 d=>∃b:Sl,∃a:World,(Builtin.append_ #[59,9] 59 #[r1.v,(vs s1)]).run prog d=.ok b.v a/\K b a
def w_J6(b1 s1 w0 K)(h:m_J6 b1 s1 w0 K):
  cl 215 #[b1.v,(vs s1)] w0<|XA K:=
 cwN func215 h<|cn1 5 call214<|xe2<|ef 1<|aan<|rr 1
def m_B_j6(s1:Sl)(i1 g h:Int)(b8:Sl)(f:World)(H:NP)(w:World)(c:Sl->Int->NP->WP)(i:Sl->WP):Prop:=Br (((s_A g):Int)==2) (∃e:Addr,At s1 h 1 e/\∀a,Hst f H w H a->∃d,a.cell? e=some (vi d)/\cl 214 #[b8.v,(vu<|IntKind.u64.wrap d)] a (XA fun r2 b=>Kept H a b/\c r2 (q6.wrap<|i1+1) H b))<|∀a,Hst f H w H a->c b8 (q6.wrap<|i1+1) H a
def m_B_j5(s1:Sl)(i1 e:Int)(j g:Int)(f:Sl)(d:World)(H:NP)(w:World)(c:Sl->Int->NP->WP)(K:Sl->WP):Prop:=Br (decide ((s_A e)>=1)) (∃i:Addr,At s1 j 1 i/\∀a,Hst d H w H a->∃h,a.cell? i=some (vi h)/\cl 214 #[f.v,(vu<|IntKind.u64.wrap h)] a (XA fun r3 b=>Kept H a b/\m_B_j6 s1 i1 e g r3 d H b c K))<|∀a,Hst d H w H a->m_B_j6 s1 i1 e g f d H a c K
def m_B_j4(s1:Sl)(i1 c:Int)(g:ByteArray)(e f:Int)(b6:Sl)(d:World)(H:NP)(w:World)(b:Sl->Int->NP->WP)(K:Sl->WP):Prop:=Br (c==3) (cl 215 #[b6.v,(vs g)] w<|XA fun h a=>Kept H w a/\m_B_j5 s1 i1 c e f h d H a b K) (m_B_j5 s1 i1 c e f b6 d H w b K)
def m_B_j3(s1:Sl)(i1 c i:Int)(d:ByteArray)(e f:Int)(b5:Sl)(g:World)(H:NP)(w:World)(a:Sl->Int->NP->WP)(K:Sl->WP):Prop:=Br (c==2) (cl 214 #[b5.v,(vu i)] w<|XA fun h b=>Kept H w b/\m_B_j4 s1 i1 c d e f h g H b a K) (m_B_j4 s1 i1 c d e f b5 g H w a K)
def m_B_j2(s1:Sl)(i1 e:Int)(l j:Int)(g:ByteArray)(h i:Int)(b3:Sl)(f:World)(H:NP)(w:World)(d:Sl->Int->NP->WP)(K:Sl->WP):Prop:=Br ((e==8) ||(e==9)) (∀b a,Hst f H w b a->cl 214 #[b3.v,(vu<|IntKind.u64.wrap l)] a (XA fun k c=>Kept b a c/\m_B_j3 s1 i1 e j g h i k f b c d K))<|∀b a,Hst f H w b a->m_B_j3 s1 i1 e j g h i b3 f b a d K
def m_B_l1(p1:Option Addr)(r1 s1 b1:Sl)(i1:Int)(j:World)(e:NP)(b:World)(g:Sl->Int->NP->WP)(K:Sl->WP):Prop:=Br (decide (i1<(r1.len:Int))) (∃a2,p1=some a2/\∃w:Sl,b.cell? a2=some w.v/\¬e a2.block/\∃a3:Addr,At r1 i1 1 a3/\∃u,b.cell? a3=some (vi u)/\¬e a3.block/\∃a4:Addr,At w (q6.wrap<|u-1) 7 a4/\∃i s n r o p q,Row b a4 (Ab i s n r o p q)/\¬e a4.block/\∃a5:Addr,At r1 i1 1 a5/\∀c k,Hst j e b c k->∃x,k.cell? a5=some (vi x)/\∃l:Addr,At s1 x 1 l/\zV k l/\¬c l.block/\∀y,y=k.setCell l (vi i1)->∀t f,New y (.cells #[(.int .u8<|IntKind.u8.wrap i)] 5) t f->∃m:Sl,∃d:World,(Builtin.append_ #[59,59] 59 #[b1.v,(Sl.mk (some t) 1 1).v]).run prog f=.ok m.v d/\Kept c f d/\Br (s_O i) (∀a,Hst j c d c a->cl 214 #[m.v,(vu<|IntKind.u64.wrap s)] a (XA fun z h=>Kept c a h/\m_B_j2 s1 i1 i n r o p q z j c h g K)) (∀a,Hst j c d c a->m_B_j2 s1 i1 i n r o p q m j c a g K))<|K b1 b
def m_B(p1:Option Addr)(k:Int)(g:World)(K:Sl->WP):Prop:=cl 61 #[(vp p1),(vi k)] g<|XA fun r1 f=>Kept None g f/\∃a1,p1=some a1/\∃i:Sl,f.cell? a1=some i.v/\∃s1:Sl,∃h:World,(Instr.makeSlice 42 (vi<|q6.wrap<|(i.len:Int)+1)<|vi<|q6.wrap<|(i.len:Int)+1).run prog f=.ok s1.v h/\Kept None f h/\∃(j:Sl->Int->NP->WP) (d:Sl->Int->World->Nat),j Sl.nil 0 None h/\∀(b1:Sl) (i1:Int) (b:NP) (a:World),Hst g b a b a->j b1 i1 b a->m_B_l1 p1 r1 s1 b1 i1 g b a (fun c e l w'=>j c e l w'/\d c e w'<d b1 i1 a) K
def w_B(p1 t1 w0 K)(h:m_B p1 t1 w0 K):
  cl 157 #[(vp p1),(vi t1)] w0<|XA K:=by
 refine cw (args:=[(vp p1),(vi t1)]) func157 ntmps157 ?_
 have⟨hs,a⟩:=st0 w0
 refine eg<|q<|ln<|eg<|qb<|sc call61 (h.mono fun e w1 ⟨r1,k,l,h⟩=>have⟨hs,a⟩:=l.hh hs a;⟨_,k,?_⟩)
 refine q<|ln<|eg<|q<|qm h fun a1 h=>q<|ql (isAgg41 _) h fun v1 h=>qb ?_
 have⟨s1,w2,X,l,h⟩:=h
 refine st (v:=s1.v) (qE rfl) (jIH Kf Kf X) ?_
 have⟨hs,a⟩:=l.hh hs a
 refine q<|ln<|eg<|q<|ln<|zL<|eg<|q<|ln<|qD ?_
 have⟨G,f,h0,hr⟩:=h
 refine jAW (σ:=Sl×Int×NP×World) (fun s ρ w=>w=s.2.2.2/\Has ρ [(0,(vp p1)),(5,r1.v),(6,s1.v),(7,s.1.v),(8,(vi s.2.1))]/\Hst w0 s.2.2.1 w s.2.2.1 w/\HB s.2.2.1 w []/\G s.1 s.2.1 s.2.2.1 s.2.2.2) (fun s=>f s.1 s.2.1 s.2.2.2) (Sl.nil,0,None,w2) ⟨rfl,hm,hs,a,h0⟩ ?_
 rintro⟨b1,i1,u,i⟩ ρ w ⟨hw,m,hs,a,hI⟩
 dsimp only at hw m hs a;subst w
 have h:=hr b1 i1 u i hs hI
 refine yW m (zL<|eg<|qd<|ln<|cbr h ?_ ?_)<;>intro h
 refine vB<|uZ<|zL<|qD<|zL<|jGA (fun x=>∃o,Hst w0 u i o x/\HB o x []) [11,12] [12] Kf Kf Kf Kf ⟨_,hs.drew,a.drew⟩ ?_
 intro w3 M
 have hs:Hst w0 u i u w3:=by rw[M];exact hs.drew
 have a:HB u w3 []:=by rw[M];exact a.drew
 refine qx 0 (vp p1) Kp0<|qg 1 ?_
 have⟨a2,hp2,h⟩:=h
 refine sy Kp1 (fun _ _=>xn hp2)<|qx 2 (vp<|some a2) Kp2<|qg 3 ?_
 have⟨v2,I,C,h⟩:=h
 refine sy (v:=v2.v) Kp3 (fun w' z=>by have⟨o,D,T⟩:=z;exact(xl (isAgg41 _)<|jDB I C D)) (qx 4 r1.v Kp4<|qx 5 (vi i1) Kp5<|qg 6 ?_)
 have⟨a3,S,h⟩:=h
 refine sy Kp6 (fun _ _=>xi (runUnderlying46 _) (sizeOf73 _) S)<|qg 7 ?_
 have⟨v3,P,C,h⟩:=h
 refine sy (v:=(vi v3)) Kp7 (fun w' z=>by have⟨o,D,T⟩:=z;exact(xl (isAgg73 _)<|jDB P C D)) (qx 8 (vi<|q6.wrap<|v3-1) Kp8<|qg 9 ?_)
 have⟨a4,W,h⟩:=h
 refine sy Kp9 (fun _ _=>xi (runUnderlying41 _) (sizeOf119 _) W)<|qg 10 ?_
 have⟨g,E,B,y,t,r,n,hv9,C,h⟩:=h
 refine sy (v:=(Ae g E B y t r n)) (jAB<|S8<|yY<|yY jAA) (fun w' z=>by have⟨o,D,T⟩:=z;exact(xa a4 (Ab g E B y t r n) (isAgg119 _) (sizeOf119 _)<|jMQ hv9 C D)) (jXW (fun ρ R=>∃p3:Addr,∃V:NP,Hst w0 u i V R/\HB V R [(p3,(Ab g E B y t r n),119)]/\Has ρ [(0,(vp p1)),(5,r1.v),(6,s1.v),(7,b1.v),(8,(vi i1)),(9,(vp<|some p3))]) ?_ ?_)
 refine lg 11<|zEY (O:=(.cells #[(vi 0),(vi 0),(vi 0),(vu 0),ve,(vi 0),(vi 0)] 119)) (fun p=>.pointer<|some p) (jAB<|S8<|yY<|yY<|yY jAA) (qE rfl) Kf (gQ (zeroValue119 _) rfl) ?_
 intro p4 w7 hn3
 have⟨H3,hs,a⟩:=hs.alloc a hn3
 refine⟨.inr ⟨_,hs,a.drop 1⟩,?_⟩
 refine lg 12<|jYM (jAB<|S8<|S4 jAA) (qE rfl) Kf (xo p4 (Ab g E B y t r n) (sizeOf119 _)<|a.k0 0 7 gZ) ?_
 intro w8 hn4
 have⟨hs,a⟩:=a.st1 0 hs hn4 gZ
 refine⟨.inl Kf,?_⟩
 refine wn ⟨p4,_,hs,a,hm⟩
 rintro ρ w6 ⟨p3,H2,hs,a,m⟩
 refine q_has m<|uZ<|eg<|qc<|qi (runUnderlying46 _) (sizeOf73 _) h fun a5 h=>?_
 have⟨h,hs⟩:=hs.hr<|h H2 w6
 refine ql (isAgg73 _) h fun v4 h=>q<|qi (runUnderlying42 _) (sizeOf3 _) h fun a6 h=>st2 (sizeOf3 _) hs a h fun w9 hs a h=>ln<|eg<|qb<|q3 (xl (isAgg3 _)<|a.d0 0 gZ)<|q<|nw5 (fun p=>(Sl.mk (some p) 1 1).v) hs a h fun p5 w10 hs a h=>?_
 have⟨s2,w11,hv5,l,h⟩:=h
 refine st (v:=s2.v) (qE rfl) (jEM (args:=#[b1.v,(Sl.mk (some p5) 1 1).v]) Kf (fun _=>rfl) hv5) ?_
 have⟨hs,a⟩:=l.hh hs a
 refine q<|ln<|zL<|eg<|q<|q3 (xl (isAgg3 _)<|a.d0 0 gZ)<|sc call116<|(p_O g w11).mono ?_
 rintro e N ⟨U,J⟩
 refine⟨_,U,?_⟩
 have⟨hs,a⟩:=hs.pp a J
 refine ln<|yQ (fun ρ w=>∃b3:Sl,∃H:NP,Has ρ [(0,(vp p1)),(5,r1.v),(6,s1.v),(7,b3.v),(8,(vi i1)),(9,(vp<|some p3))]/\Hst w0 H w H w/\HB H w [(p3,(Ab g E B y t r n),119)]/\m_B_j2 s1 i1 g B y t r n b3 w0 H w (fun b c o w'=>G b c o w'/\f b c w'<f b1 i1 i) K) ?_ ?_
 rintro ρ w ⟨b3,H,m,hs,a,h⟩
 refine yW m<|zL<|zL<|jRO (fun ρ R=>∃A:Bool,∃V:NP,((g==8)=A)/\Hst w0 H w V R/\HB V R [(p3,(Ab g E B y t r n),119)]/\Has ρ [(0,(vp p1)),(5,r1.v),(6,s1.v),(7,b3.v),(8,(vi i1)),(9,(vp<|some p3)),(65,(vb<|A ||(g==9)))]) ?_ ?_
 refine rg<|q<|q3 (xl (isAgg3 _)<|a.d0 0 gZ)<|qb ?_
 rcases bte (g==8)with j|j
 refine sj3 61 j<|q2 (vb true) (xT j)<|ln ⟨true,_,j,hs,a,hm⟩
 refine qk 61 j<|q4 61 j (xl (isAgg3 _)<|a.d0 0 gZ)<|qk 61 j<|q2 (vb<|g==9) (xF j)<|ln ⟨false,_,j,hs,a,hm⟩
 rintro ρ L ⟨A,Z,he0,hs,a,m⟩
 subst he0
 refine jMW m<|uZ<|yQ (fun ρ w=>∃b5:Sl,∃H:NP,Has ρ [(0,(vp p1)),(5,r1.v),(6,s1.v),(7,b5.v),(8,(vi i1)),(9,(vp<|some p3))]/\Hst w0 H w H w/\HB H w [(p3,(Ab g E B y t r n),119)]/\m_B_j3 s1 i1 g y t r n b5 w0 H w (fun b c o w'=>G b c o w'/\f b c w'<f b1 i1 i) K) ?_ ?_
 rintro ρ w ⟨b5,H,m,hs,a,h⟩
 refine yW m<|zL<|eg<|q<|q3 (xl (isAgg3 _)<|a.d0 0 gZ)<|q<|ln<|yQ (fun ρ w=>∃b6:Sl,∃H:NP,Has ρ [(0,(vp p1)),(5,r1.v),(6,s1.v),(7,b6.v),(8,(vi i1)),(9,(vp<|some p3))]/\Hst w0 H w H w/\HB H w [(p3,(Ab g E B y t r n),119)]/\m_B_j4 s1 i1 g t r n b6 w0 H w (fun b c o w'=>G b c o w'/\f b c w'<f b1 i1 i) K) ?_ ?_
 rintro ρ w ⟨b6,H,m,hs,a,h⟩
 refine yW m<|zL<|eg<|q<|q3 (xl (isAgg3 _)<|a.d0 0 gZ)<|q<|ln<|yQ (fun ρ w=>∃Y:Sl,∃H:NP,Has ρ [(0,(vp p1)),(5,r1.v),(6,s1.v),(7,Y.v),(8,(vi i1)),(9,(vp<|some p3))]/\Hst w0 H w H w/\HB H w [(p3,(Ab g E B y t r n),119)]/\m_B_j5 s1 i1 g r n Y w0 H w (fun b c o w'=>G b c o w'/\f b c w'<f b1 i1 i) K) ?_ ?_
 rintro ρ w ⟨Y,H,m,hs,a,h⟩
 refine yW m<|zL<|eg<|q<|q3 (xl (isAgg3 _)<|a.d0 0 gZ)<|sc call65<|(p_A g w).mono ?_
 rintro e Q ⟨U,J⟩
 refine⟨_,U,?_⟩
 have⟨hs,a⟩:=hs.pp a J
 refine q<|ln<|yQ (fun ρ w=>∃b8:Sl,∃H:NP,Has ρ [(0,(vp p1)),(5,r1.v),(6,s1.v),(7,b8.v),(8,(vi i1)),(9,(vp<|some p3))]/\Hst w0 H w H w/\HB H w [(p3,(Ab g E B y t r n),119)]/\m_B_j6 s1 i1 g n b8 w0 H w (fun b c o w'=>G b c o w'/\f b c w'<f b1 i1 i) K) ?_ ?_
 rintro ρ w ⟨b8,H,m,hs,a,h⟩
 refine yW m<|eg<|q<|q3 (xl (isAgg3 _)<|a.d0 0 gZ)<|sc call65<|(p_A g w).mono ?_
 rintro e F ⟨U,J⟩
 refine⟨_,U,?_⟩
 have⟨hs,a⟩:=hs.pp a J
 refine q (ln<|cbr h ?_ ?_)<;>intro h
 refine rg<|qc<|q3 (xl (isAgg73 _)<|a.d 0 6 gZ)<|qi (runUnderlying42 _) (sizeOf3 _) h fun a7 h=>?_
 have⟨h,hs⟩:=hs.hr<|h F
 refine ql (isAgg3 _) h fun v5 h=>q<|sc call214 (h.mono fun e w16 ⟨r2,k,l,h⟩=>have⟨hs,a⟩:=l.hh hs a;⟨_,k,?_⟩)
 refine q<|vH<|zBB<|uZ<|rg<|qc<|ln ⟨(r2,(q6.wrap<|i1+1),H,w16),⟨rfl,hm,hs,a.drop 1,h.1⟩,h.2⟩
 refine vB<|zBB<|uZ<|rg<|qc<|vH ?_
 have⟨h,hs⟩:=hs.hr<|h F
 refine uZ ⟨(b8,(q6.wrap<|i1+1),H,F),⟨rfl,hm,hs,a.drop 1,h.1⟩,h.2⟩
 refine cbr h ?_ ?_<;>intro h
 refine rg<|qc<|q3 (xl (isAgg73 _)<|a.d 0 5 gZ)<|qi (runUnderlying42 _) (sizeOf3 _) h fun a8 h=>?_
 have⟨h,hs⟩:=hs.hr<|h Q
 refine ql (isAgg3 _) h fun v6 h=>q<|sc call214 (h.mono fun e w17 ⟨r3,k,l,h⟩=>have⟨hs,a⟩:=l.hh hs a;⟨_,k,?_⟩)
 refine q<|ln ⟨r3,H,hm,hs,a,h⟩
 refine vB ?_
 have⟨h,hs⟩:=hs.hr<|h Q
 refine uZ ⟨Y,H,hm,hs,a,h⟩
 refine cbr h ?_ ?_<;>intro h
 refine rg<|qb<|q3 (xl (isAgg9 _)<|a.d 0 4 gZ)<|sc call215 (h.mono fun e w18 ⟨r4,k,l,h⟩=>have⟨hs,a⟩:=l.hh hs a;⟨_,k,?_⟩)
 refine q<|ln ⟨r4,H,hm,hs,a,h⟩
 refine vB<|uZ ⟨b6,H,hm,hs,a,h⟩
 refine cbr h ?_ ?_<;>intro h
 refine rg<|qb<|q3 (xl (isAgg23 _)<|a.d 0 3 gZ)<|sc call214 (h.mono fun e w19 ⟨r5,k,l,h⟩=>have⟨hs,a⟩:=l.hh hs a;⟨_,k,?_⟩)
 refine q<|ln ⟨r5,H,hm,hs,a,h⟩
 refine vB<|uZ ⟨b5,H,hm,hs,a,h⟩
 refine cbr h ?_ ?_<;>intro h
 refine rg<|qb<|q3 (xl (isAgg3 _)<|a.d 0 2 gZ)<|q ?_
 have⟨h,hs⟩:=hs.hr<|h Z L
 refine sc call214 (h.mono fun e w20 ⟨r6,k,l,h⟩=>have⟨hs,a⟩:=l.hh hs a;⟨_,k,?_⟩)
 refine q<|ln ⟨r6,Z,hm,hs,a,h⟩
 refine vB ?_
 have⟨h,hs⟩:=hs.hr<|h Z L
 refine uZ ⟨b3,Z,hm,hs,a,h⟩
 refine cbr h ?_ ?_<;>intro h
 refine rg<|qb<|q3 (xl (isAgg3 _)<|a.d 0 1 gZ)<|q ?_
 have⟨h,hs⟩:=hs.hr<|h N
 refine sc call214 (h.mono fun e w21 ⟨r7,k,l,h⟩=>have⟨hs,a⟩:=l.hh hs a;⟨_,k,?_⟩)
 refine q<|ln ⟨r7,H2,hm,hs,a,h⟩
 refine vB ?_
 have⟨h,hs⟩:=hs.hr<|h N
 refine uZ ⟨s2,H2,hm,hs,a,h⟩
 refine jAX<|jYH<|jYH<|jXK<|uZ<|eg<|q0 b1.v<|q0 b1.v<|ln<|er<|rs1 results157 ⟨b1,rfl,h⟩
def m_K6(p1:Option Addr)(b:Int)(d:World)(K:Sl->Int->WP):Prop:=cl 112 #[(vp p1),(vi b)] d fun e c=>∃r1,e=.returned (vb r1)/\Br (!r1) (K Sl.nil 51 c) (cl 157 #[(vp p1),(vi b)] c<|XA fun r2 a=>Br (decide ((r2.len:Int)>4096)) (K Sl.nil 1 a)<|K r2 0 a)
def w_K6(p1 t1 w0 K)(h:m_K6 p1 t1 w0 K):
  cl 102 #[(vp p1),(vi t1)] w0<|XN K:=
 cwN func102 h<|cn1 4 call112<|br 0 1 (rr 3)<|cn1 3 call157<|br 0 4 (rr 3)<|rr 4
def m_L2_l1(b2:Sl)(n2:Int)(a:World)(c:Sl->Int->WP)(K:Sl->WP):Prop:=Br (decide (n2>=128)) (∃i:Int,(Go.binOp .or 5 (.int .u8<|IntKind.u8.wrap n2)<|.int .u8 128).run prog a=.ok (.int .u8 i) a/\∀p1 g,New a (.cells #[(.int .u8 i)] 5) p1 g->∃s1:Sl,∃b:World,(Builtin.append_ #[59,59] 59 #[b2.v,(Sl.mk (some p1) 1 1).v]).run prog g=.ok s1.v b/\∃j,(Go.binOp .shr 23 (vu n2)<|vu 7).run prog b=.ok (vu j) b/\c s1 j b)<|∀e f,New a (.cells #[(.int .u8<|IntKind.u8.wrap n2)] 5) e f->∃h:Sl,∃d:World,(Builtin.append_ #[59,59] 59 #[b2.v,(Sl.mk (some e) 1 1).v]).run prog f=.ok h.v d/\K h d
def m_L2(b1:Sl)(n1:Int)(g:World)(K:Sl->WP):Prop:=cl 271 #[b1.v] g<|XA fun r1 f=>∃(e:Sl->Int->WP) (c:Sl->Int->World->Nat),e r1 n1 f/\∀(b2:Sl) (n2:Int) (a:World),e b2 n2 a->m_L2_l1 b2 n2 a (fun b d w'=>e b d w'/\c b d w'<c b2 n2 a) K
def w_L2(b1 n1 w0 K)(h:m_L2 b1 n1 w0 K):
  cl 250 #[b1.v,(vu n1)] w0<|XA K:=
 cwN func250 h<|cn1 2 call271<|wc2 1 [] (fun b2 n2=>[(0,(Sl.v b2)),(1,(vu n2))])<|fun {_ _ b2 n2}=>fun a=>br 0 2 (xe<|rb 4<|nwn 0<|xe2<|ef 0<|aan<|xe<|rb 2<|jen 1 a)<|nwn 4<|xe2<|ef 0<|aan<|rr 1
def m_L6(b1:Sl)(i e:Int)(l f:Int)(g:ByteArray)(k j:Int)(h:Option Nat)(d:World)(K:Sl->WP):Prop:=∀c a,Hst d None d c a->cl 250 #[b1.v,(vu<|IntKind.u64.wrap e)] a (XA fun r1 b=>Kept c a b/\K r1 b)
def w_L6(b1 aD aB aC aG aH aI aJ x1 w0 K)(h:m_L6 b1 aD aB aC aG aH aI aJ x1 w0 K):
  cl 249 #[b1.v,(.agg #[(vi aD),(vi aB),(vi aC),(vu aG),(vs aH),(vi aI),(vi aJ)]),(.map x1)] w0<|XA K:=
 cwH func249 h<|nh 0<|lh 3 0 [1]<|ah<|ca1 1 call250<|rr 1
def m_M6(r1:Option Addr)(j:World)(K:Int->WP):Prop:=∀p1 f,New j (.cells #[(vp r1)] 272) p1 f->∀a c,New f (.cells #[(vu 0)] 23) a c->lp c p1 fun i=>cl 290 #[(vp i),(.func (.func 291) #[] #[(vp<|some p1),(vp<|some a)])] c fun e d=>e=.returned (.tuple #[])/\lu d a fun g=>zV d a/\∀b,b=d.setCell a (vu g)->lu b a fun h=>K h b
def w_M6(r1 w0 K)(h:m_M6 r1 w0 K):
  cl 252 #[(vp r1)] w0<|XU K:=
 cwN func252 h<|nwn 0<|nwn 0<|ld 0<|cn0 1 call290<|ld 0<|ssn 0<|rss 0<|qcc<|qee
def m_N6(r1:Option Addr)(n1:Option Addr)(c:World)(K:WP):Prop:=cl 252 #[(vp r1)] c<|XU fun r2 b=>∃a1,n1=some a1/\zV b (a1.add 7)/\∀a,a=b.setCell (a1.add 7) (vu r2)->K a
def w_N6(r1 n1 w0 K)(h:m_N6 r1 n1 w0 K):
  cl 251 #[(vp r1),(vp n1)] w0<|fun e w'=>e=.returned (.tuple #[])/\K  w':=
 cwN func251 h<|cn1 2 call252<|nc 0<|ssn 1<|rr 0
def m_O6(b1:Sl)(i j:Int)(e f:Int)(g:ByteArray)(l k:Int)(h:Option Nat)(d:World)(K:Sl->WP):Prop:=∀c a,Hst d None d c a->cl 250 #[b1.v,(vu<|IntKind.u64.wrap e)] a (XA fun r1 b=>Kept c a b/\K r1 b)
def w_O6(b1 aD aB aC aG aH aI aJ x1 w0 K)(h:m_O6 b1 aD aB aC aG aH aI aJ x1 w0 K):
  cl 253 #[b1.v,(.agg #[(vi aD),(vi aB),(vi aC),(vu aG),(vs aH),(vi aI),(vi aJ)]),(.map x1)] w0<|XA K:=
 cwH func253 h<|nh 0<|lh 3 0 [2]<|ah<|ca1 1 call250<|rr 1
def m_P6(r1:Option Addr)(n1:Option Addr)(c:World)(K:WP):Prop:=cl 252 #[(vp r1)] c<|XU fun r2 b=>∃a1,n1=some a1/\zV b (a1.add 8)/\∀a,a=b.setCell (a1.add 8) (vu r2)->K a
def w_P6(r1 n1 w0 K)(h:m_P6 r1 n1 w0 K):
  cl 254 #[(vp r1),(vp n1)] w0<|fun e w'=>e=.returned (.tuple #[])/\K  w':=
 cwN func254 h<|cn1 2 call252<|nc 0<|ssn 1<|rr 0
def m_Q6(b1:Sl)(h i:Int)(l e:Int)(f:ByteArray)(k j:Int)(g:Option Nat)(d:World)(K:Sl->WP):Prop:=∀c a,Hst d None d c a->cl 250 #[b1.v,(vu e)] a (XA fun r1 b=>Kept c a b/\K r1 b)
def w_Q6(b1 aD aB aC aG aH aI aJ x1 w0 K)(h:m_Q6 b1 aD aB aC aG aH aI aJ x1 w0 K):
  cl 255 #[b1.v,(.agg #[(vi aD),(vi aB),(vi aC),(vu aG),(vs aH),(vi aI),(vi aJ)]),(.map x1)] w0<|XA K:=
 cwH func255 h<|nh 0<|lh 3 0 [3]<|ah<|ca1 0 call250<|rr 1
def m_R6(r1:Option Addr)(n1:Option Addr)(c:World)(K:WP):Prop:=cl 252 #[(vp r1)] c<|XU fun r2 b=>∃a1,n1=some a1/\zV b (a1.add 3)/\∀a,a=b.setCell (a1.add 3) (vu r2)->K a
def w_R6(r1 n1 w0 K)(h:m_R6 r1 n1 w0 K):
  cl 256 #[(vp r1),(vp n1)] w0<|fun e w'=>e=.returned (.tuple #[])/\K  w':=
 cwN func256 h<|cn1 2 call252<|nc 0<|ssn 2<|rr 0
def m_S6(b1:Sl)(s1:ByteArray)(c:World)(K:Sl->WP):Prop:=cl 250 #[b1.v,(vu<|IntKind.u64.wrap (s1.size:Int))] c<|XA fun r1 d=>∃b:Sl,∃a:World,(Builtin.append_ #[59,9] 59 #[r1.v,(vs s1)]).run prog d=.ok b.v a/\K b a
def w_S6(b1 s1 w0 K)(h:m_S6 b1 s1 w0 K):
  cl 258 #[b1.v,(vs s1)] w0<|XA K:=
 cwN func258 h<|cn1 5 call250<|xe2<|ef 1<|aan<|rr 1
def m_T6(b1:Sl)(h i:Int)(l f:Int)(e:ByteArray)(k j:Int)(g:Option Nat)(d:World)(K:Sl->WP):Prop:=∀c a,Hst d None d c a->cl 258 #[b1.v,(vs e)] a (XA fun r1 b=>Kept c a b/\K r1 b)
def w_T6(b1 aD aB aC aG aH aI aJ x1 w0 K)(h:m_T6 b1 aD aB aC aG aH aI aJ x1 w0 K):
  cl 257 #[b1.v,(.agg #[(vi aD),(vi aB),(vi aC),(vu aG),(vs aH),(vi aI),(vi aJ)]),(.map x1)] w0<|XA K:=
 cwH func257 h<|nh 0<|lh 3 0 [4]<|ah<|ca1 0 call258<|rr 1
def m_U6(r1:Option Addr)(a:Int)(l:World)(K:ByteArray->WP):Prop:=∀p1 k,New l (.cells #[(vp r1)] 272) p1 k->∀g i,New k (.cells #[(vi a)] 3) g i->∀p3 d,New i (.cells #[ve] 9) p3 d->∃j,d.cell? p1=some (vp j)/\cl 290 #[(vp j),(.func (.func 293) #[] #[(vp<|some p1),(vp<|some g),(vp<|some p3)])] d fun e b=>e=.returned (.tuple #[])/\∃f,b.cell? p3=some (vs f)/\zV b p3/\∀c,c=b.setCell p3 (vs f)->∃h,c.cell? p3=some (vs h)/\K h c
def w_U6(r1 most1 w0 K)(h:m_U6 r1 most1 w0 K):
  cl 260 #[(vp r1),(vi most1)] w0<|XP K:=
 cwN func260 h<|nwn 0<|nwn 0<|nwn 0<|ld 0<|cn0 1 call290<|ld 0<|ssn 0<|rss 0<|qcc<|qee
def m_V6(r1:Option Addr)(n1:Option Addr)(c:World)(K:WP):Prop:=cl 260 #[(vp r1),(vi 64)] c<|XP fun r2 b=>∃a1,n1=some a1/\zV b (a1.add 4)/\∀a,a=b.setCell (a1.add 4) (vs r2)->K a
def w_V6(r1 n1 w0 K)(h:m_V6 r1 n1 w0 K):
  cl 259 #[(vp r1),(vp n1)] w0<|fun e w'=>e=.returned (.tuple #[])/\K  w':=
 cwN func259 h<|cn1 2 call260<|nc 0<|ssn 2<|rr 0
def m_W6(b1:Sl)(j l:Int)(m h:Int)(i:ByteArray)(g k:Int)(a:Option Nat)(f:World)(K:Sl->WP):Prop:=∀e b,Hst f None f e b->∃c,(Instr.lookup 231 (.map a) (vi g) false).run prog b=.ok (vi c) b/\cl 250 #[b1.v,(vu<|IntKind.u64.wrap c)] b (XA fun r1 d=>Kept e b d/\K r1 d)
def w_W6(b1 aD aB aC aG aH aI aJ number1 w0 K)(h:m_W6 b1 aD aB aC aG aH aI aJ number1 w0 K):
  cl 261 #[b1.v,(.agg #[(vi aD),(vi aB),(vi aC),(vu aG),(vs aH),(vi aI),(vi aJ)]),(.map number1)] w0<|XA K:=
 cwH func261 h<|nh 0<|lh 4 0 [5]<|ah<|xe<|rn 0<|ca1 1 call250<|rr 1
def m_X6(r1:Option Addr)(n1:Option Addr)(d:World)(K:WP):Prop:=cl 252 #[(vp r1)] d<|XU fun r2 c=>∃a1,n1=some a1/\zV c (a1.add 9)/\∀a,a=c.setCell (a1.add 9) (vu r2)->∃a2,n1=some a2/\zV a (a2.add 11)/\∀b,b=a.setCell (a2.add 11) (vi 1)->K b
def w_X6(r1 n1 w0 K)(h:m_X6 r1 n1 w0 K):
  cl 262 #[(vp r1),(vp n1)] w0<|fun e w'=>e=.returned (.tuple #[])/\K  w':=
 cwN func262 h<|cn1 3 call252<|nc 0<|ssn 1<|nc 0<|ssn 1<|rr 0
def m_Y6(b1:Sl)(j k:Int)(m h:Int)(i:ByteArray)(l g:Int)(a:Option Nat)(f:World)(K:Sl->WP):Prop:=∀e b,Hst f None f e b->∃c,(Instr.lookup 231 (.map a) (vi g) false).run prog b=.ok (vi c) b/\cl 250 #[b1.v,(vu<|IntKind.u64.wrap c)] b (XA fun r1 d=>Kept e b d/\K r1 d)
def w_Y6(b1 aD aB aC aG aH aI aJ number1 w0 K)(h:m_Y6 b1 aD aB aC aG aH aI aJ number1 w0 K):
  cl 263 #[b1.v,(.agg #[(vi aD),(vi aB),(vi aC),(vu aG),(vs aH),(vi aI),(vi aJ)]),(.map number1)] w0<|XA K:=
 cwH func263 h<|nh 0<|lh 4 0 [6]<|ah<|xe<|rn 0<|ca1 1 call250<|rr 1
def m_Z6(r1:Option Addr)(n1:Option Addr)(d:World)(K:WP):Prop:=cl 252 #[(vp r1)] d<|XU fun r2 c=>∃a1,n1=some a1/\zV c (a1.add 10)/\∀a,a=c.setCell (a1.add 10) (vu r2)->∃a2,n1=some a2/\zV a (a2.add 11)/\∀b,b=a.setCell (a2.add 11) (vi 2)->K b
def w_Z6(r1 n1 w0 K)(h:m_Z6 r1 n1 w0 K):
  cl 264 #[(vp r1),(vp n1)] w0<|fun e w'=>e=.returned (.tuple #[])/\K  w':=
 cwN func264 h<|cn1 3 call252<|nc 0<|ssn 1<|nc 0<|ssn 1<|rr 0
def m_M1_j1(r1:Option Addr)(i:World)(H:NP)(w:World)(K:Option (List PanicEntry)->Int->WP):Prop:=∃a3,r1=some a3/\li w (a3.add 1) fun h=>∃a4,r1=some a4/\zV w (a4.add 1)/\¬H (a4.add 1).block/\∀b,b=w.setCell (a4.add 1) (vi<|q6.wrap<|h+1)->∃a5,r1=some a5/\∀a,Hst i H b H a->lx a a5 fun g=>∃c,r1=some c/\li a (c.add 1) fun f=>∃e:Addr,At g (q6.wrap<|f-1) 1 e/\∃d:Int,a.cell? e=some (.int .u8 d)/\K none d a
def m_M1(r1:Option Addr)(b:World)(K:Option (List PanicEntry)->Int->WP):Prop:=∃a1,r1=some a1/\∀a,Hst b None b None a->li a (a1.add 1) fun d=>∃a2,r1=some a2/\lx a a2 fun c=>Br (d==(c.len:Int)) (K (some [{ v:=(.iface 334<|vi 3),recovered:=false }]) 0 a)<|m_M1_j1 r1 b None a K
def w_M1(r1 w0 K)(h:m_M1 r1 w0 K):
  cl 296 #[(vp r1)] w0<|fun e w'=>(∃r2:Int,e=.returned (.int .u8 r2)/\K none r2 w')\/∃x,e=.panicked x/\K (some x) 0 w':=by
 refine xH (args:=[(vp r1)]) func296 rfl ntmps296 (Nat.le_of_ble_eq_true rfl) ?_
 have⟨hs,a⟩:=st0 w0
 refine eg<|q<|ln<|zL<|zL<|jCQ Kf Kf Kf Kf ?_
 intro p d
 have hs:Hst w0 None w0 None p:=by rw[d];exact hs.drew
 have a:HB None p []:=by rw[d];exact a.drew
 refine qq 0 (vp r1) Kp0<|qg 1 ?_
 have⟨a1,g,h⟩:=h
 refine sxQ Kp1 (qE rfl) rfl (xn g) (qq 2 (vp<|some<|a1.add 1) Kp2<|qg 3 ?_)
 have⟨h,hs⟩:=hs.hr<|h p
 have⟨D,m,h⟩:=h
 refine sxQ Kp3 (qE rfl) rfl (xl (isAgg3 _) m) (qq 4 (vp r1) Kp4<|qg 5 ?_)
 have⟨a2,i,h⟩:=h
 refine sxQ Kp5 (qE rfl) rfl (xn i) (qq 6 (vp<|some a2) Kp6<|qg 7 ?_)
 have⟨u,n,h⟩:=h
 refine sxQ Kp7 (qE rfl) rfl (xl (isAgg59 _) n) (qq 8 (vi (u.len:Int)) Kp8<|qq 9 (vb<|D==(u.len:Int)) Kp9<|wn<|uZ<|yQ (fun ρ w=>∃H:NP,Has ρ [(0,(vp r1))]/\Hst w0 H w H w/\HB H w []/\m_M1_j1 r1 w0 H w K) ?_ ?_)
 rintro ρ w ⟨H,y,hs,a,h⟩
 refine yW y<|eg<|q<|qm h fun a3 h=>q<|ql (isAgg3 _) h fun E h=>q<|qm h fun a4 h=>q<|st2 (sizeOf3 _) hs a h fun B hs a h=>ln<|zL<|jCQ Kf Kf Kf Kf ?_
 intro s b
 have hs:Hst w0 H B H s:=by rw[b];exact hs.drew
 have a:HB H s []:=by rw[b];exact a.drew
 refine qq 0 (vp r1) Kp0<|qg 1 ?_
 have⟨a5,r,h⟩:=h
 refine sxQ Kp1 (qE rfl) rfl (xn r) (qq 2 (vp<|some a5) Kp2<|qg 3 ?_)
 have⟨h,hs⟩:=hs.hr<|h s
 have⟨G,f,h⟩:=h
 refine sxQ Kp3 (qE rfl) rfl (xl (isAgg59 _) f) (qq 4 (vp r1) Kp4<|qg 5 ?_)
 have⟨C,j,h⟩:=h
 refine sxQ Kp5 (qE rfl) rfl (xn j) (qq 6 (vp<|some<|C.add 1) Kp6<|qg 7 ?_)
 have⟨A,t,h⟩:=h
 refine sxQ Kp7 (qE rfl) rfl (xl (isAgg3 _) t) (qq 8 (vi<|q6.wrap<|A-1) Kp8<|qg 9 ?_)
 have⟨I,l,h⟩:=h
 refine sxQ Kp9 (qE rfl) rfl (xi (runUnderlying59 _) (sizeOf5 _) l) (qg 10 ?_)
 have⟨k,o,h⟩:=h
 refine sxQ (jAB<|S8<|yY<|yY jAA) (qE rfl) rfl (xl (isAgg5 _) o) (qq 11 (.int .u8 k) (jAB<|S8<|yY<|yY<|yY jAA)<|wn<|uZ<|er<|ep<|rs1 results296 (v:=(.int .u8 k)) ?_)
 exact .inl ⟨k,rfl,h⟩
 refine cbr h ?_ ?_<;>intro h
 refine qW Kf<|qN 1<|q0 (.iface 334<|vi 3)<|vH<|jEW (qE rfl) (by intro c z;cases z) (jIF Kf) fun F=>.inr ⟨_,rfl,h⟩
 refine vB<|uZ ⟨None,hm,hs,a,h⟩
def m_X_j2(n1 i1 r2:Int)(w:World)(b:Int->Int->WP)(K:Option (List PanicEntry)->Int->WP):Prop:=∃d:Int,(Go.binOp .and 5 (.int .u8 r2)<|.int .u8 127).run prog w=.ok (.int .u8 d) w/\∃c,(Go.binOp .shl 23 (vu<|IntKind.u64.wrap d)<|vi<|q6.wrap<|7*i1).run prog w=.ok (vu c) w/\∃a,(Go.binOp .or 23 (vu n1)<|vu c).run prog w=.ok (vu a) w/\Br (decide (r2<128)) (Br ((r2==0)&&(decide (i1>0))) (K (some [{ v:=(.iface 334<|vi 10),recovered:=false }]) 0 w)<|K none a w) (b a (q6.wrap<|i1+1) w)
def m_X_l1(r1:Option Addr)(n1 i1:Int)(a:World)(b:Int->Int->WP)(K:Option (List PanicEntry)->Int->WP):Prop:=cl 296 #[(vp r1)] a fun e c=>(∃r2:Int,e=.returned (.int .u8 r2)/\Br ((i1==9)&&(decide (r2>1))) (K (some [{ v:=(.iface 334<|vi 11),recovered:=false }]) 0 c) (m_X_j2 n1 i1 r2 c b K))\/∃d,e=.panicked d/\K (some d) 0 c
def m_X(r1:Option Addr)(f:World)(K:Option (List PanicEntry)->Int->WP):Prop:=∃(e:Int->Int->WP) (c:Int->Int->World->Nat),e 0 0 f/\∀(n1 i1:Int) (a:World),e n1 i1 a->m_X_l1 r1 n1 i1 a (fun b d w'=>e b d w'/\c b d w'<c n1 i1 a) K
def w_X(r1 w0 K)(h:m_X r1 w0 K):
  cl 292 #[(vp r1)] w0<|fun e w'=>(∃r3,e=.returned (vu r3)/\K none r3 w')\/∃n,e=.panicked n/\K (some n) 0 w':=by
 refine xH (args:=[(vp r1)]) func292 rfl ntmps292 (Nat.le_of_ble_eq_true rfl) (eg<|q0 (vu 0)<|ln<|eg<|q0 (vu 0)<|ln<|zL<|rg<|q<|ln<|qD ?_)
 have⟨z,i,C,hr⟩:=h
 refine jAW (σ:=Int×Int×World) (fun s ρ w=>w=s.2.2/\Has ρ [(0,(vp r1)),(3,(vu s.1)),(4,(vi s.2.1))]/\z s.1 s.2.1 s.2.2) (fun s=>i s.1 s.2.1 s.2.2) (0,0,w0) ⟨rfl,hm,C⟩ ?_
 rintro⟨n1,i1,r⟩ ρ w ⟨p,g,E⟩
 dsimp only at p g;subst w
 have h:=hr n1 i1 r E
 refine yW g<|zL<|qD<|zL<|qW Kf<|qN 1<|q0 (vp r1)<|vH<|jIW (qE rfl) (by intro c m;cases m) (xc call296)<|h.mono fun e D hh=>hh.elim ?_ (by rintro⟨n,rfl,h⟩;exact .inr ⟨n,rfl,fun A=>.inr ⟨n,rfl,h⟩⟩)
 rintro⟨r2,rfl,h⟩
 refine .inl ⟨_,rfl,?_⟩
 refine jEO<|q0 (.int .u8 r2)<|ln<|zL<|zL<|jRO (fun ρ u=>∃d:Bool,((i1==9)=d)/\D=u/\Has ρ [(0,(vp r1)),(3,(vu n1)),(4,(vi i1)),(5,(.int .u8 r2)),(15,(vb<|d&&(decide (r2>1))))]) ?_ ?_
 refine rg<|qc ?_
 rcases bte (i1==9)with a|a
 refine qk 12 a<|qk 12 a<|q2 (vb<|decide (r2>1)) (xT a)<|ln ⟨true,a,rfl,hm⟩
 refine sj2 12 a<|q2 (vb false) (xF a)<|ln ⟨false,a,rfl,hm⟩
 rintro ρ G ⟨d,j,p,g⟩
 subst j
 subst p
 refine jMW g<|uZ<|yQ (fun ρ w=>Has ρ [(0,(vp r1)),(3,(vu n1)),(4,(vi i1)),(5,(.int .u8 r2))]/\m_X_j2 n1 i1 r2 w (fun l o w'=>z l o w'/\i l o w'<i n1 i1 r) K) ?_ ?_
 rintro ρ w ⟨g,h⟩
 refine yW g<|eg<|qb ?_
 have⟨B,y,h⟩:=h
 refine q2 (.int .u8 B) (zBP Kf Kf Kf y)<|qc ?_
 have⟨F,t,h⟩:=h
 refine q2 (vu F) (zBP Kf Kf Kf t) ?_
 have⟨k,x,h⟩:=h
 refine q2 (vu k) (zBP Kf Kf Kf x) (q<|ln<|eg<|qb<|ln<|cbr h ?_ ?_)<;>intro h
 refine zL<|zL<|jRO (fun ρ u=>∃f:Bool,((r2==0)=f)/\w=u/\Has ρ [(3,(vu k)),(32,(vb<|f&&(decide (i1>0))))]) ?_ ?_
 refine rg<|qc ?_
 rcases bte (r2==0)with b|b
 refine qk 29 b<|qk 29 b<|q2 (vb<|decide (i1>0)) (xT b)<|ln ⟨true,b,rfl,hm⟩
 refine sj2 29 b<|q2 (vb false) (xF b)<|ln ⟨false,b,rfl,hm⟩
 rintro ρ H ⟨f,j,p,g⟩
 subst j
 subst p
 refine jMW g (uZ<|cbr h ?_ ?_)<;>intro h
 refine qW Kf<|qN 1<|q0 (.iface 334<|vi 10)<|vH<|jEW (qE rfl) (by intro c m;cases m) (jIF Kf) fun A=>.inr ⟨_,rfl,h⟩
 refine vB<|uZ<|eg<|qb<|ln<|er<|zBA<|jMM<|jMM<|zBA<|ep<|rs1 results292 (v:=(vu k)) ?_
 exact .inl ⟨k,rfl,h⟩
 refine vB<|zBB<|uZ<|rg<|qc<|ln ⟨(k,(q6.wrap<|i1+1),w),⟨rfl,hm,h.1⟩,h.2⟩
 refine cbr h ?_ ?_<;>intro h
 refine qW Kf<|qN 1<|q0 (.iface 334<|vi 11)<|vH<|jEW (qE rfl) (by intro c m;cases m) (jIF Kf) fun A=>.inr ⟨_,rfl,h⟩
 refine vB<|uZ ⟨hm,h⟩
def m_Z2(b a:Addr)(f:World)(K:Option (List PanicEntry)->WP):Prop:=lp f b fun h=>cl 292 #[(vp h)] f fun e c=>(∃r1,e=.returned (vu r1)/\zV c a/\∀d,d=c.setCell a (vu r1)->K none d)\/∃g,e=.panicked g/\K (some g)  c
def w_Z2(cap1 cap2 w0 K)(h:m_Z2 cap1 cap2 w0 K):
  cl 291 #[(vp<|some cap1),(vp<|some cap2)] w0<|fun e w'=>(e=.returned (.tuple #[])/\K none  w')\/∃a,e=.panicked a/\K (some a)  w':=by
 refine xH (args:=[(vp<|some cap1),(vp<|some cap2)]) func291 rfl ntmps291 (Nat.le_of_ble_eq_true rfl) (qW Kf<|qN 1<|ql (isAgg272 _) h fun f h=>vH<|jIW (qE rfl) (by intro c b;cases b) (xc call292)<|h.mono fun e i hh=>hh.elim ?_ (by rintro⟨a,rfl,h⟩;exact .inr ⟨a,rfl,fun d=>.inr ⟨a,rfl,h⟩⟩))
 rintro⟨r1,rfl,h⟩
 refine .inl ⟨_,rfl,?_⟩
 refine jEO<|st1 (sizeOf23 _) h fun g h=>vH<|ep<|res0 (.inr rfl) results291 ?_
 exact .inl ⟨rfl,h⟩
def m_Q_j3(a c:Addr)(r1:Int)(H:NP)(w:World)(K:Option (List PanicEntry)->WP):Prop:=∃q:WP,q w.drew/\∀b,b=w.drew->∃o,b.cell? a=some (vp o)/\∃a3,o=some a3/\∃j:Sl,b.cell? a3=some j.v/\∃m,b.cell? a=some (vp m)/\∃a4,m=some a4/\∃k,b.cell? (a4.add 1)=some (vi k)/\∃g,b.cell? a=some (vp g)/\∃a5,g=some a5/\∃h,b.cell? (a5.add 1)=some (vi h)/\∃s1:Sl,(Instr.sliceAt 59 j.v (some<|vi k) (some<|vi<|q6.wrap<|h+(q6.wrap r1)) none).run prog b=.ok s1.v b/\∃l,(convert 59 9 s1.v).run prog b=.ok (vs l) b/\zV b c/\¬H c.block/\∀e,e=b.setCell c (vs l)->∃d,e.cell? a=some (vp d)/\∃n,d=some n/\∃f,e.cell? (n.add 1)=some (vi f)/\∃i,d=some i/\zV e (i.add 1)/\¬H (i.add 1).block/\∀p,p=e.setCell (i.add 1) (vi<|q6.wrap<|f+(q6.wrap r1))->K none p
def m_Q_j2(a c:Addr)(r1:Int)(h:World)(H:NP)(w:World)(K:Option (List PanicEntry)->WP):Prop:=∀b,Hst h H w H b->∃d,b.cell? a=some (vp d)/\∃a1,d=some a1/\∃g:Sl,b.cell? a1=some g.v/\∃f,b.cell? a=some (vp f)/\∃a2,f=some a2/\∃e,b.cell? (a2.add 1)=some (vi e)/\Br (decide (r1>(IntKind.u64.wrap<|q6.wrap<|(g.len:Int)-e))) (K (some [{ v:=(.iface 334<|vi 3),recovered:=false }])  b) (m_Q_j3 a c r1 H b K)
def m_Q_j1(b a:Addr)(r1:Int)(d:Bool)(c:World)(H:NP)(w:World)(K:Option (List PanicEntry)->WP):Prop:=Br d (K (some [{ v:=(.iface 334<|vi 1),recovered:=false }])  w)<|m_Q_j2 b a r1 c H w K
def m_Q(a c b:Addr)(h:World)(K:Option (List PanicEntry)->WP):Prop:=∃i,h.cell? a=some (vp i)/\cl 292 #[(vp i)] h fun e d=>(∃r1,e=.returned (vu r1)/\Kept None h d/\∃g,d.cell? c=some (vi g)/\Br (decide (g<0)) (m_Q_j1 a b r1 true h None d K) (∃f,d.cell? c=some (vi f)/\m_Q_j1 a b r1 (decide (r1>(IntKind.u64.wrap f))) h None d K))\/∃j,e=.panicked j/\K (some j)  d
def w_Q(cap1 cap2 cap3 w0 K)(h:m_Q cap1 cap2 cap3 w0 K):
  cl 293 #[(vp<|some cap1),(vp<|some cap2),(vp<|some cap3)] w0<|fun e w'=>(e=.returned (.tuple #[])/\K none  w')\/∃k,e=.panicked k/\K (some k)  w':=by
 refine xH (args:=[(vp<|some cap1),(vp<|some cap2),(vp<|some cap3)]) func293 rfl ntmps293 (Nat.le_of_ble_eq_true rfl) ?_
 have⟨hs,a⟩:=st0 w0
 refine zL<|qW Kf<|qN 1<|ql (isAgg272 _) h fun v1 h=>vH<|jIW (qE rfl) (by intro c g;cases g) (xc call292)<|h.mono fun e w1 hh=>hh.elim ?_ (by rintro⟨k,rfl,h⟩;exact .inr ⟨k,rfl,fun R=>.inr ⟨k,rfl,h⟩⟩)
 rintro⟨r1,rfl,I,h⟩
 refine .inl ⟨_,rfl,?_⟩
 have⟨hs,a⟩:=I.hh hs a
 refine jEO<|q0 (vu r1)<|ln<|zL<|zL<|yQ (fun ρ w=>∃A,∃H:NP,Has ρ [(0,(vp<|some cap1)),(2,(vp<|some cap3)),(3,(vu r1)),(13,(vb A))]/\Hst w0 H w H w/\HB H w []/\m_Q_j1 cap1 cap3 r1 A w0 H w K) ?_ ?_
 rintro ρ w ⟨A,H,d,hs,a,h⟩
 refine yW d<|yQ (fun ρ w=>∃H:NP,Has ρ [(0,(vp<|some cap1)),(2,(vp<|some cap3)),(3,(vu r1))]/\Hst w0 H w H w/\HB H w []/\m_Q_j2 cap1 cap3 r1 w0 H w K) ?_ ?_
 rintro ρ w ⟨H,d,hs,a,h⟩
 refine yW d<|zL<|zL<|jCQ Kf Kf Kf Kf ?_
 intro D p
 have hs:Hst w0 H w H D:=by rw[p];exact hs.drew
 have a:HB H D []:=by rw[p];exact a.drew
 refine qq 0 (vu r1) Kp0<|qg 1 ?_
 have⟨h,hs⟩:=hs.hr<|h D
 have⟨v2,r,h⟩:=h
 refine sxQ Kp1 (qE rfl) rfl (xl (isAgg272 _) r) (qg 2 ?_)
 have⟨a1,u,h⟩:=h
 refine sxQ Kp2 (qE rfl) rfl (xn u) (qq 3 (vp<|some a1) Kp3<|qg 4 ?_)
 have⟨s,f,h⟩:=h
 refine sxQ Kp4 (qE rfl) rfl (xl (isAgg59 _) f) (qq 5 (vi (s.len:Int)) Kp5<|qg 6 ?_)
 have⟨v4,m,h⟩:=h
 refine sxQ Kp6 (qE rfl) rfl (xl (isAgg272 _) m) (qg 7 ?_)
 have⟨a2,t,h⟩:=h
 refine sxQ Kp7 (qE rfl) rfl (xn t) (qq 8 (vp<|some<|a2.add 1) Kp8<|qg 9 ?_)
 have⟨B,j,h⟩:=h
 refine sxQ Kp9 (qE rfl) rfl (xl (isAgg3 _) j) (qq 10 (vi<|q6.wrap<|(s.len:Int)-B) (jAB<|S8<|yY<|yY jAA)<|qq 11 (vu<|IntKind.u64.wrap<|q6.wrap<|(s.len:Int)-B) (jAB<|S8<|yY<|yY<|yY jAA)<|qq 12 (vb<|decide (r1>(IntKind.u64.wrap<|q6.wrap<|(s.len:Int)-B))) (jAB<|S8<|S4 jAA)<|wn<|uZ<|yQ (fun ρ w=>∃H:NP,Has ρ [(0,(vp<|some cap1)),(2,(vp<|some cap3)),(3,(vu r1))]/\Hst w0 H w H w/\HB H w []/\m_Q_j3 cap1 cap3 r1 H w K) ?_ ?_)
 rintro ρ w ⟨H,d,hs,a,h⟩
 refine yW d<|zL ?_
 have⟨X,W,h⟩:=h
 refine dr2 X [17] [17] W h hs a fun w3 hs a h=>?_
 have hs:=hs.here
 refine qg 0 ?_
 have⟨v6,l,h⟩:=h
 refine sye Kp0 (xl (isAgg272 _) l)<|qg 1 ?_
 have⟨a3,E,h⟩:=h
 refine sy Kp1 (fun _ _=>xn E)<|qx 2 (vp<|some a3) Kp2<|qg 3 ?_
 have⟨v7,F,h⟩:=h
 refine sye Kp3 (xl (isAgg59 _) F)<|qg 4 ?_
 have⟨v8,x,h⟩:=h
 refine sye Kp4 (xl (isAgg272 _) x)<|qg 5 ?_
 have⟨a4,G,h⟩:=h
 refine sy Kp5 (fun _ _=>xn G)<|qx 6 (vp<|some<|a4.add 1) Kp6<|qg 7 ?_
 have⟨Z,z,h⟩:=h
 refine sye Kp7 (xl (isAgg3 _) z)<|qg 8 ?_
 have⟨V,C,h⟩:=h
 refine sye Kp8 (xl (isAgg272 _) C)<|qg 9 ?_
 have⟨a5,P,h⟩:=h
 refine sy Kp9 (fun _ _=>xn P)<|qx 10 (vp<|some<|a5.add 1) (jAB<|S8<|yY<|yY jAA)<|qg 11 ?_
 have⟨N,M,h⟩:=h
 refine sye (jAB<|S8<|yY<|yY<|yY jAA) (xl (isAgg3 _) M)<|qx 12 (vu r1) (jAB<|S8<|S4 jAA)<|qx 13 (vi<|q6.wrap r1) (jAB<|S8<|S4<|yY jAA)<|qx 14 (vi<|q6.wrap<|N+(q6.wrap r1)) (jAB<|S8<|S4<|yY<|yY jAA)<|qg 15 ?_
 have⟨s1,y,h⟩:=h
 refine sye (v:=s1.v) (jAB<|S8<|S4<|yY<|yY<|yY jAA) (zGA Kf Kf Kf Kf y)<|qg 16 ?_
 have⟨Q,O,h⟩:=h
 refine sye (v:=(vs Q)) (jAB<|S8<|S8 jAA) (jXS Kf O)<|lg 17 ?_
 have⟨L,J,h⟩:=h
 refine sl_t (jAB<|S8<|S8<|yY jAA) (xs (v:=(vs Q)) (sizeOf9 _) L) ?_
 intro U i
 have h:=h U i
 refine⟨.inl Kf,?_⟩
 have I:=Kept.sc J i
 have⟨hs,a⟩:=I.hh hs a
 refine wn<|uZ<|rg<|ql (isAgg272 _) h fun Y h=>qm h fun a6 h=>q<|ql (isAgg3 _) h fun S h=>qc<|qm h fun a7 h=>q<|st2 (sizeOf3 _) hs a h fun w5 hs a h=>vH<|ep<|res0 (.inr rfl) results293 ?_
 exact .inl ⟨rfl,h⟩
 refine cbr h ?_ ?_<;>intro h
 refine qW Kf<|qN 1<|q0 (.iface 334<|vi 3)<|vH<|jEW (qE rfl) (by intro c g;cases g) (jIF Kf) fun R=>.inr ⟨_,rfl,h⟩
 refine vB<|uZ ⟨H,hm,hs,a,h⟩
 refine cbr h ?_ ?_<;>intro h
 refine qW Kf<|qN 1<|q0 (.iface 334<|vi 1)<|vH<|jEW (qE rfl) (by intro c g;cases g) (jIF Kf) fun R=>.inr ⟨_,rfl,h⟩
 refine vB<|uZ ⟨H,hm,hs,a,h⟩
 refine rg<|ql (isAgg3 _) h fun T h=>qb ?_
 obtain⟨b,h⟩|⟨b,h⟩:=h.br
 refine sj4 8 b<|q2 (vb true) (xT b)<|ln ⟨true,None,hm,hs,a,h⟩
 refine qk 8 b ?_
 have⟨o,n,h⟩:=h
 refine q4 8 b (xl (isAgg3 _) n)<|qk 8 b<|qk 8 b<|q2 (vb<|decide (r1>(IntKind.u64.wrap o))) (xF b)<|ln ⟨(decide (r1>(IntKind.u64.wrap o))),None,hm,hs,a,h⟩
def m_A3(b a:Addr)(f:World)(K:Option (List PanicEntry)->WP):Prop:=lp f b fun h=>cl 296 #[(vp h)] f fun e c=>(∃r1:Int,e=.returned (.int .u8 r1)/\zV c a/\∀d,d=c.setCell a (.int .u8 r1)->K none d)\/∃g,e=.panicked g/\K (some g)  c
def w_A3(cap1 cap2 w0 K)(h:m_A3 cap1 cap2 w0 K):
  cl 295 #[(vp<|some cap1),(vp<|some cap2)] w0<|fun e w'=>(e=.returned (.tuple #[])/\K none  w')\/∃a,e=.panicked a/\K (some a)  w':=by
 refine xH (args:=[(vp<|some cap1),(vp<|some cap2)]) func295 rfl ntmps295 (Nat.le_of_ble_eq_true rfl) (qW Kf<|qN 1<|ql (isAgg272 _) h fun f h=>vH<|jIW (qE rfl) (by intro c b;cases b) (xc call296)<|h.mono fun e i hh=>hh.elim ?_ (by rintro⟨a,rfl,h⟩;exact .inr ⟨a,rfl,fun d=>.inr ⟨a,rfl,h⟩⟩))
 rintro⟨r1,rfl,h⟩
 refine .inl ⟨_,rfl,?_⟩
 refine jEO<|st1 (sizeOf5 _) h fun g h=>vH<|ep<|res0 (.inr rfl) results295 ?_
 exact .inl ⟨rfl,h⟩
end Go.Proofs
end
section
open Go Go.SE List
namespace Go.SE
def byr(bs:List UInt8):List (List Value):=bs.map fun b=>[.int .u8 (b.toNat:Int)]
def vW(bs):(byr bs).length=bs.length:=by simp[byr]
def jTE(bs):∀q∈byr bs,q.all vE=true:=by intro q a;obtain⟨t,_,rfl⟩:=mem_map.1 a;rfl
def jMB(bs):∀q∈byr bs,q.length=1:=by intro q a;obtain⟨t,_,rfl⟩:=mem_map.1 a;rfl
def jNO(bs):(byr bs).flatten=bs.map fun b=>Value.int .u8 (b.toNat:Int):=by
 induction bs with
 |nil=>rfl
 |cons b bs a=>simp only[byr,map_cons,flatten_cons]at a|-;rw[a];rfl
def jNP(a b):byr (a++b)=byr a++byr b:=by simp[byr]
def jRC{S w s bs}(h:Lst S w 1 s (byr bs)){j}(b:j<bs.length):∃a,At s j 1 a/\S a.block/\w.cell? a=some (.int .u8 (bs[j].toNat:Int)):=by
 have⟨a,h1,h2,h3⟩:=h.at_ j (by simpa[byr]using b);exact⟨a,h1,h2,jBB<|by simpa[byr]using h3⟩
def jBR(n:Nat):IntKind.u8.wrap (n:Int)=((UInt8.ofNat n).toNat:Int):=by
 rw[UInt8.toNat_ofNat'];simp[IntKind.wrap,IntKind.bits,IntKind.signed]
def jJA{P src dst e}(hs:P.underlying src=some (.slice e))(k:P.underlying e=some (.int .u8))(i:P.underlying dst=some .string){S w s bs}(h:Lst S w 1 s (byr bs)):
  (convert src dst s.v).run P w=.ok (.string ⟨bs.toArray⟩) w:=by
 have f:s.len=bs.length:=by rw[h.len,vW]
 cases d:s.a with
 |none =>
  have c:bs=[]:=by
   cases bs with
   |nil=>rfl
   |cons b bs=>have⟨_,⟨_,_,p,g,_⟩,_⟩:=jRC h (j:=0) Sm;rw[d]at g;cases g
  subst c
  have:s.v=.slice none 0 s.cap:=by unfold Sl.v;rw[d,f];rfl
  rw[this,run_convert_bytes_string w src dst e none 0 s.cap hs k i];rfl
 |some p =>
  have:s.v=.slice (some p) bs.length s.cap:=by unfold Sl.v;rw[d,f]
  rw[this]
  refine run_convert_bytes_back w src dst e p s.cap bs hs k i fun j m=>?_
  obtain⟨a,⟨_,_,b,c,rfl⟩,_,l⟩:=jRC h m
  rw[d]at c;cases c
  simpa using l
section
variable {P:Program} {t u e ty:TypeId} {w:World}
def jDH(b):(Builtin.firstCells 1 b.size<|.string b).run P w=.ok (b.data.map fun x=>Value.int .u8 (x.toNat:Int)) w:=by
 have a:(Array.map (fun b:UInt8=>Value.int IntKind.u8 (b.toNat:Int)) b.data).extract 0 b.size=Array.map (fun b:UInt8=>Value.int IntKind.u8 (b.toNat:Int)) b.data:=by
  have hs:b.size=(Array.map (fun b:UInt8=>Value.int IntKind.u8 (b.toNat:Int)) b.data).size:=by rw[Array.size_map];rfl
  rw[hs,Array.extract_size]
 simp[Builtin.firstCells,a]
def jDT(T:SlType P t e 1 1)(h:P.underlying u=some .string)(s:Sl)(g:s.len<=s.cap)(b:ByteArray)(f:b.size=0):(Builtin.append_ #[t,u] ty #[s.v,.string b]).run P w=.ok s.v w:=by
 have⟨a,n,c⟩:=s;simp only at g;have d:b=⟨#[]⟩:=by cases b;simp only[ByteArray.size]at f;congr;exact Array.eq_empty_of_size_eq_zero f
 subst d;cases a<;>simp[Builtin.append_,Sl.v,run_underlying T.ht,run_underlying h,T.sizeOf,Builtin.lenOf,Builtin.firstCells,storeCells,g,ByteArray.size]
def Rws.appendStr(T:SlType P t e 1 1)(k:P.underlying u=some .string){s rs}(h:Rws w e 1 s rs)(b)(f:rs.length+b.size<=140737488355328)(hm:rs.length+b.size<=maxLen):
  ∃s' w',(Builtin.append_ #[t,u] ty #[s.v,.string b]).run P w=.ok s'.v w'/\Rws w' e 1 s' (rs++byr b.data.toList)/\Ext s.blk w w'/\(∀b,s'.blk b->s.blk b\/w.heap.size<=b):=by
 have⟨i,z,hi,U,y,E,J⟩:=T.hi
 have S:b.data.toList.length=b.size:=by rw[Array.length_toList];rfl
 by_cases X:b.size=0
 .have L : s.len <= s.cap:=by
   rcases h.own with⟨rfl,_⟩|⟨g,cur,_,_,L,_⟩
   .exact Nat.le_refl _
   .rw[h.len];exact L
  have:b.data.toList=[]:=length_eq_zero_iff.1 Om
  rw[this]
  exact⟨s,w,jDT T k s L b X,by simpa[byr]using h,Ext.refl w,fun b f=>.inl f⟩
 have K:rs.length+b.size<=9223372036854775807:=by simp only[maxLen]at hm;omega
 have N:=vZ h.each
 have d:(byr b.data.toList).length=b.size:=by rw[vW,S]
 have n:∀q∈rs++byr b.data.toList,q.length=1:=fun q W=>(mem_append.1 W).elim (h.each q)<|jMB _ q
 have F:(b.data.map fun x=>Value.int .u8 (x.toNat:Int)).toList=(byr b.data.toList).flatten:=by rw[jNO];simp
 have Z:(b.data.map fun x=>Value.int .u8 (x.toNat:Int)).size=b.size:=by rw[Array.size_map];rfl
 rcases h.own with⟨rfl,rfl⟩|⟨g,cur,A,Q,V,O,hcs,p⟩
 .simp only[length_nil,Nat.zero_add]at f K hm
  have c:=run_append_nil_string (P:=P) w t u ty e i z T.ht k hi U b Om Om (by rw[E];omega)
  have l:=Rws.grown (w:=w) (e:=e) (sz:=1) (rs:=byr b.data.toList) (jMB _) (cur:=b.data.map fun x=>Value.int .u8 (x.toNat:Int)) (by rw[J]) F (cap:=grownCap w b.size 0 e) (by rw[d];exact grownCap_ge w _ 0 e) (grownCap_le_maxLen w _ 0 e hm)
  rw[d]at l
  exact⟨⟨some ⟨w.heap.size,0,none⟩,b.size,grownCap w b.size 0 e⟩,_,c,by simpa using l,⟨rfl,rfl,rfl,Fe,Sm,fun b f _=>jAS w.drew _ b f⟩,fun b f=>by obtain⟨a,A,rfl⟩:=f;cases A;right;exact Nat.le_refl _⟩
 .have H:s.v=.slice (some ⟨g,0,none⟩) rs.length s.cap:=by unfold Sl.v;rw[A,h.len]
  by_cases m:rs.length+b.size<=s.cap
  .have o:rs.length+(byr b.data.toList).flatten.length<=cur.size:=by rw[vZ<|jMB _,d,hcs];omega
   have R:∀u∈(byr b.data.toList).flatten,u.oneCell'=true:=fun u k=>by
    rw[jNO]at k;obtain⟨x,_,rfl⟩:=mem_map.1 k;rfl
   have hst:=run_storeCells_at P g rs.length e (byr b.data.toList).flatten 0 cur w Q (by simpa using o) R
   have c:(Builtin.append_ #[t,u] ty #[s.v,.string b]).run P w=.ok (.slice (some ⟨g,0,none⟩) (rs.length+b.size) s.cap) (w.setRow g (cur.toList.take rs.length++(byr b.data.toList).flatten++cur.toList.drop (rs.length+(byr b.data.toList).flatten.length)).toArray):=by
    rw[H];simp only[Nat.add_zero]at hst;have C:=jDH (P:=P) (w:=w) b;rw[jNO]at hst|-;simp[Builtin.append_,run_underlying T.ht,run_underlying k,T.sizeOf,Builtin.lenOf,m,C,Addr.add_lit,hst]
   refine⟨⟨some ⟨g,0,none⟩,rs.length+b.size,s.cap⟩,_,c,⟨n,by simp[d],.inr ⟨g,_,rfl,setRow_heap w g cur _ e _ Q,by simpa[d]using m,O,?_,?_⟩⟩,⟨rfl,rfl,rfl,Fe,Sm,fun b f C=>setRow_other w g b _ fun e=>C ⟨_,A,e.symm⟩⟩,fun b f=>by obtain⟨a,M,rfl⟩:=f;cases M;exact .inl ⟨_,A,rfl⟩⟩
   .grind
   .grind
  .have r : ∀ j u, rs.flatten[j]? = some u -> w.cell? ((⟨g, 0, none⟩ : Addr).add j) = some u:=fun j u k => by
    have I:(⟨g,0,none⟩:Addr).add j=⟨g,j,none⟩:=by unfold Addr.add;split<;>simp_all
    rw[I,cell_of_row w g j cur e (0,0) Q];rw[<-p,getElem?_take]at k;split at k
    .simpa using k
    .cases k
   have o:=growslice_fits (need:=rs.length+b.size) (old:=s.cap) (bytes:=1) Om Om
   have l:=Rws.grown (w:=w) (e:=e) (sz:=1) (rs:=rs++byr b.data.toList) n (cur:=rs.flatten.toArray++b.data.map fun x=>Value.int .u8 (x.toNat:Int)) (by rw[J]) (by simp[<-F]) (cap:=grownCap w (rs.length+b.size) s.cap e) (by rw[length_append,d];exact grownCap_ge w _ s.cap e) (grownCap_le_maxLen w _ _ e hm)
   have c:(Builtin.append_ #[t,u] ty #[s.v,.string b]).run P w=.ok (.slice (some ⟨w.heap.size,0,none⟩) (rs.length+b.size)<|grownCap w (rs.length+b.size) s.cap e) (w.drew.alloc<|.cells (rs.flatten.toArray++b.data.map (fun x=>Value.int .u8 (x.toNat:Int))++Builtin.zeroCells z.cells (grownCap w (rs.length+b.size) s.cap e-(rs.length+b.size))) e):=by
    rw[H];have Y:¬(rs.length+b.size<=s.cap):=Om;have G:¬(9223372036854775807<((rs.length:Int)+(b.size:Int))):=Om;have B:¬(281474976710656<Builtin.nextslicecap (rs.length+b.size) s.cap*i.bytes):=by rw[E];omega
    have D:=run_firstCells_some (P:=P) w.drew i.size rs.length ⟨g,0,none⟩ rs.length s.cap rs.flatten (by rw[y];exact N) (by simpa using r);have C:=jDH (P:=P) (w:=w.drew) b;rw[y]at D;simp[Builtin.append_,run_underlying T.ht,run_underlying k,sizeOf,typeInfo,zeroValue,hi,U,Builtin.lenOf,Y,G,B,Question.forced,C,D,newRow,grownCap,y]
    try (congr 2;apply Array.ext';simp[append_assoc])
   rw[length_append,d]at l
   exact⟨⟨some ⟨w.heap.size,0,none⟩,rs.length+b.size,grownCap w (rs.length+b.size) s.cap e⟩,_,c,l,⟨rfl,rfl,rfl,Fe,Sm,fun b f _=>jAS w.drew _ b f⟩,fun b f=>by obtain⟨a,A,rfl⟩:=f;cases A;right;exact Nat.le_refl _⟩
end
section
variable {P:Program} {w:World} {t:TypeId}
set_option maxRecDepth 4000 in
def or128:∀m:Fin 256,m.val |||128=m.val%128+128:=De
def jYQ(n:Nat):(Go.binOp .or t (.int .u8<|IntKind.u8.wrap (n:Int))<|.int .u8 128).run P w=.ok (.int .u8 ((UInt8.ofNat<|n%128+128).toNat:Int)) w:=by
 have h:IntKind.u8.wrap ((BitVec.ofInt IntKind.u8.bits (IntKind.u8.wrap (n:Int)) |||BitVec.ofInt IntKind.u8.bits 128).toNat:Int)=((UInt8.ofNat<|n%128+128).toNat:Int):=by
  have a:(BitVec.ofInt IntKind.u8.bits<|IntKind.u8.wrap (n:Int)).toNat=n%256:=by
   rw[jBR,UInt8.toNat_ofNat',BitVec.toNat_ofInt];simp[IntKind.bits];omega
  have b:(BitVec.ofInt IntKind.u8.bits 128).toNat=128:=De;rw[BitVec.toNat_or,a,b,or128 ⟨n%256,Nat.mod_lt _ Om⟩,jBR];simp only[UInt8.toNat_ofNat'];omega
 show((pure (Value.int .u8 _):Sem Value)).run P w=_;rw[h];rfl
def zCD(n:Nat):(Go.binOp .shr t (.int .u64 (n:Int))<|.int .u64 7).run P w=.ok (.int .u64 ((n/128:Nat):Int)) w:=by
 simp[Go.binOp,go_sem,IntKind.bits]
def jVR(n:Nat)(h:n<18446744073709551616):(Go.binOp .quo t (.int .u64 (n:Int))<|.int .u64 128).run P w=.ok (.int .u64 ((n/128:Nat):Int)) w:=by
 have:IntKind.u64.wrap ((n:Int).tdiv 128)=((n/128:Nat):Int):=by
  rw[Int.tdiv_eq_ediv_of_nonneg Om];simp only[IntKind.wrap,IntKind.bits,IntKind.signed];simp;omega
 show((pure (Value.int .u64<|IntKind.u64.wrap<|(n:Int).tdiv 128):Sem Value)).run P w=_;rw[this];rfl
def jVQ(n:Nat):(Go.binOp .rem t (.int .u64 (n:Int))<|.int .u64 128).run P w=.ok (.int .u64 ((n%128:Nat):Int)) w:=by
 have:(n:Int).tmod 128=((n%128:Nat):Int):=Gd;simp[Go.binOp,Op.intDiv,this]
def jVS(c:Nat)(h:c<256):(Go.binOp .and t (.int .u8 (c:Int))<|.int .u8 127).run P w=.ok (.int .u8 ((c%128:Nat):Int)) w:=by
 have hr:IntKind.u8.wrap ((BitVec.ofInt IntKind.u8.bits (c:Int) &&& BitVec.ofInt IntKind.u8.bits 127).toNat:Int)=((c%128:Nat):Int):=by
  have a:(BitVec.ofInt IntKind.u8.bits (c:Int)).toNat=c:=by
   rw[BitVec.toNat_ofInt];simp[IntKind.bits];omega
  have b:(BitVec.ofInt IntKind.u8.bits 127).toNat=2^7-1:=De;rw[BitVec.toNat_and,a,b,Nat.and_two_pow_sub_one_eq_mod,jBR];simp only[UInt8.toNat_ofNat'];omega
 show((pure (Value.int .u8 _):Sem Value)).run P w=_;rw[hr];rfl
def vX{n:Nat}(h:n<18446744073709551616):IntKind.u64.wrap (n:Int)=(n:Int):=by
 simp[IntKind.wrap,IntKind.bits,IntKind.signed];omega
def zGM(x k:Nat)(b:k<64)(h:x*2^k<18446744073709551616):(Go.binOp .shl t (.int .u64 (x:Int))<|.int .i64 (k:Int)).run P w=.ok (.int .u64 ((x*2^k:Nat):Int)) w:=by
 have hr:IntKind.u64.wrap ((x:Int)*2^min (k:Int).toNat IntKind.u64.bits)=((x*2^k:Nat):Int):=by
  have:min (k:Int).toNat IntKind.u64.bits=k:=by simp[IntKind.bits];omega
  rw[this,<-vX h];simp
 have a:¬((k:Int)<0):=Om;show(Op.shift .shl .u64 (x:Int) .i64 (k:Int)).run P w=_;unfold Op.shift;rw[if_neg a];show((pure (Value.int .u64<|IntKind.u64.wrap<|(x:Int)*2^min (k:Int).toNat IntKind.u64.bits):Sem Value)).run P w=_;rw[hr];rfl
def zCG(x y:Nat)(a:x<18446744073709551616)(b:y<18446744073709551616):(Go.binOp .or t (.int .u64 (x:Int))<|.int .u64 (y:Int)).run P w=.ok (.int .u64 ((x |||y:Nat):Int)) w:=by
 have hr:IntKind.u64.wrap ((BitVec.ofInt IntKind.u64.bits (x:Int) |||BitVec.ofInt IntKind.u64.bits (y:Int)).toNat:Int)=((x |||y:Nat):Int):=by
  have e (z:Nat) (c:z<18446744073709551616):(BitVec.ofInt IntKind.u64.bits (z:Int)).toNat=z:=by
   rw[BitVec.toNat_ofInt];simp[IntKind.bits];omega
  rw[BitVec.toNat_or,e x a,e y b,vX<|Nat.or_lt_two_pow (n:=64) a b]
 show((pure (Value.int .u64 _):Sem Value)).run P w=_;rw[hr];rfl
def zFE{x y k}(h:x<2^k):x |||(y*2^k)=x+y*2^k:=by
 have:=Nat.shiftLeft_add_eq_or_of_lt h y;rw[Nat.shiftLeft_eq]at this;rw[Nat.or_comm,<-this,Nat.add_comm]
end
def Lst.sub{P t e sz bytes S}(T:SlType P t e sz bytes){w s rs}(h:Lst S w sz s rs)(b:s.len<=s.cap){k lo n}(g:lo+n<=rs.length):
  ∃s':Sl,(Instr.sliceAt t s.v (some<|.int k (lo:Int)) (some<|.int k ((lo+n:Nat):Int)) none).run P w=.ok s'.v w/\Lst S w sz s' ((rs.drop lo).take n):=by
 have h1:((lo+n:Nat):Int)<=(s.cap:Int):=by rw[h.len]at b;omega
 have h2:(lo:Int)<=((lo+n:Nat):Int):=by omega
 refine⟨⟨if s.cap=lo then s.a else s.a.map (·.add<|lo*sz),n,s.cap-lo⟩,?_,⟨by simp;omega,fun i hi=>?_⟩⟩
 simp[Instr.sliceAt,Instr.slice,Sl.v,run_underlying T.ht,Instr.sliceBounds,Instr.sliceBound,asIntOf,T.sizeOf]
 rw[if_pos<|by omega,if_pos<|by omega,show((lo:Int)+(n:Int)).toNat-lo=n by omega]
 have c:lo+i<rs.length:=by simp at hi;omega
 obtain⟨a,⟨_,d,p,f,rfl⟩,hS,hr⟩:=h.at_ (lo+i) c
 refine⟨_,⟨by omega,by simp at hi|-;omega,p.add<|lo*sz,?_,rfl⟩,?_,?_⟩
 grind
 simpa[zG]using hS
 have:(p.add<|lo*sz).add ((i:Int).toNat*sz)=p.add (((lo+i:Nat):Int).toNat*sz):=by
  rw[yP,Int.toNat_natCast,Int.toNat_natCast,Nat.add_mul]
 rw[this,getElem_take,getElem_drop];exact hr
end Go.SE
end
section
open Nat
namespace Go.Proofs
def vC(n:Nat):List UInt8:=if h:n<128 then[UInt8.ofNat n]else UInt8.ofNat (n%128+128) ::vC (n/128)
def oH{n}(h:n<128):vC n=[UInt8.ofNat n]:=by rw[vC,dif_pos h]
def jAD{n}(h:128<=n):vC n=UInt8.ofNat (n%128+128) ::vC (n/128):=by rw[vC,dif_neg Om]
def jVG(k):∀n,n<128^(k+1)->(vC n).length<=k+1:=by
 induction k with
 |zero=>intro n h;rw[oH<|by simpa using h];simp
 |succ k a =>
  intro n h
  by_cases h1:n<128
  rw[oH h1];simp
  rw[jAD Om,List.length_cons]
  have:=a (n/128) Gd
  omega
def vO{n}(h:n<18446744073709551616):(vC n).length<=10:=jVG 9 n Om
def vP(s:ByteArray):List UInt8:=vC s.size++s.data.toList
def xR:Nat->Nat->List UInt8->Except Nat (Nat×Nat)
 |_,_,[]=>.error 3
 |i,n,c :: l =>
  if i=9/\1<c.toNat then .error 11
  else if c.toNat<128 then(if c.toNat=0/\0<i then .error 10 else .ok (n+c.toNat*128^i,i+1))
  else xR (i+1) (n+c.toNat%128*128^i) l
def xQ(i n c l):xR i n (c :: l)=(if i=9/\1<c.toNat then .error 11
  else if c.toNat<128 then(if c.toNat=0/\0<i then .error 10 else .ok (n+c.toNat*128^i,i+1))
  else xR (i+1) (n+c.toNat%128*128^i) l):=rfl
structure Rd where
 at_:Nat
 err:Nat
 spot:Nat
def vU(bs:List UInt8)(r:Rd):Nat×Rd:=
 if r.err=0 then match xR 0 0 (bs.drop r.at_)with
  |.ok (n,k)=>(n,⟨r.at_+k,0,r.spot⟩)
  |.error x=>(0,⟨r.at_,x,r.at_⟩)
 else(0,r)
def xK(bs:List UInt8)(r:Rd):Nat×Rd:=
 if r.err=0 then(if h:r.at_<bs.length then(bs[r.at_].toNat,⟨r.at_+1,0,r.spot⟩)else(0,⟨r.at_,3,r.at_⟩))
 else(0,r)
def qF(bs:List UInt8)(a:Nat)(r:Rd):List UInt8×Rd:=
 if r.err=0 then match xR 0 0 (bs.drop r.at_)with
  |.ok (n,k)=>if a<n then([],⟨r.at_,1,r.at_⟩)else if bs.length<r.at_+k+n then([],⟨r.at_,3,r.at_⟩)else((bs.drop<|r.at_+k).take n,⟨r.at_+k+n,0,r.spot⟩)
  |.error x=>([],⟨r.at_,x,r.at_⟩)
 else([],r)
end Go.Proofs
end
section
open Go Go.SE List
namespace Go.Proofs
open Tryz
attribute [local irreducible] Calls
def jEY:SlType prog 59 5 1 1:=by
 refine⟨underlying59,⟨t5,_,Kf,(by kernel_rfl:t5.zero=some (.int .u8 0)),Kf,Kf,rfl⟩,Om⟩
def jRA{S:NP}(s:Sl)(bs:List UInt8)(c:World)(hs:Lst S c 1 s (byr bs))(l:s.a=none->s=Sl.nil)(t:bs.length<=100000000000):
  cl 271 #[s.v] c<|XA fun r w'=>RetO c 5 1 (byr bs) r w':=by
 refine w_M5 _ c _ ?_
 refine⟨s.a.isNone,?_,fun h=>?_,fun h=>?_⟩
 exact jFB c s.a s.len s.cap underlying59
 have j:=l<|Option.isNone_iff_eq_none.1 h
 subst j
 have:bs=[]:=by have:=hs.len;rw[vW]at this;exact length_eq_zero_iff.1 this.symm
 subst this
 exact⟨Rws.nil _ _ _,fun b d=>(by have⟨a,i,_⟩:=d;cases i),Ext.refl _⟩
 intro p1 o h1
 have f:Pure c o:=Ext.new h1
 have⟨n,m,hr,k,p,d⟩:=(Rws.empty (sz:=1) h1).appendL (P:=prog) (ty:=59) jEY (hs.pure f) (jMB _) (jTE _) (by rw[vW];simp;omega) (by rw[vW];simp[maxLen];omega)
 have q:=h1.at_size
 have g:∀b,(Sl.mk (some p1) 0 0).blk b->c.heap.size<=b:=fun b d=>(by have⟨a,i,e⟩:=d;cases i;omega)
 exact⟨n,m,hr,by simpa using k,fun b h=>(d b h).elim (g b) fun h=>Oh f.size,f.trans' p Gd⟩
def RetO.put{w0 w w1 s bs x p}(h:RetO w0 5 1 (byr bs) s w)(f:New w (.cells #[.int .u8 (x.toNat:Int)] 5) p w1)(l:bs.length<=100000000000):
  ∃s' w',(Builtin.append_ #[59,59] 59 #[s.v,(Sl.mk (some p) 1 1).v]).run prog w1=.ok s'.v w'/\RetO w0 5 1 (byr<|bs++[x]) s' w':=by
 have e:Pure w w1:=Ext.new f
 have a:Row w1 p [.int .u8 (x.toNat:Int)]:=(Box.of_newA f).row
 have⟨s',w',hr,j,k,g⟩:=(h.rows.pure e).append (ty:=59) (c:=1) jEY a rfl rfl (by rw[vW];omega) (by rw[vW];simp[maxLen];omega)
 have h1:=(h.pure.trans e)
 exact⟨s',w',hr,by rw[jNP];exact j,fun b d=>(g b d).elim (h.own b) fun h2=>Oh h1.size,h1.trans' k fun i hi h2=>Oh<|h.own i h2⟩
def RetO.text{c w:World}{s:Sl}{bs:List UInt8}{x:ByteArray}(h:RetO c 5 1 (byr<|bs++vC x.size) s w)(j:bs.length<=10000000000)(g:x.size<=10000000000):
  ∃s' w',(Builtin.append_ #[59,9] 59 #[s.v,vs x]).run prog w=.ok s'.v w'/\RetO c 5 1 (byr<|bs++vP x) s' w':=by
 have k:=vO (n:=x.size) Om
 have⟨s',w',hr,e,f,d⟩:=h.rows.appendStr (ty:=59) jEY underlying9 x (by rw[vW,length_append];omega) (by rw[vW,length_append];simp[maxLen];omega)
 refine⟨s',w',hr,?_,fun b a=>(d b a).elim (h.own b) fun h2=>Oh h.pure.size,h.pure.trans' f fun i hi h2=>Oh<|h.own i h2⟩
 rw[vP,<-append_assoc,jNP];exact e
def jDC{S}(s bs)(n:Nat)(w0)(hs:Lst S w0 1 s (byr bs))(j:s.a=none->s=Sl.nil)(p:bs.length<=10000000000)(e:n<18446744073709551616):
  cl 250 #[s.v,vu (n:Int)] w0<|XA fun r w'=>RetO w0 5 1 (byr<|bs++vC n) r w':=by
 refine w_L2 _ _ w0 _ ?_
 refine(jRA s bs w0 hs j Om).mono ?_
 rintro _ q ⟨r1,rfl,h1⟩
 refine⟨r1,rfl,fun b m w=>∃k:Nat,∃xs:List UInt8,m=(k:Int)/\k<18446744073709551616/\xs++vC k=bs++vC n/\RetO w0 5 1 (byr xs) b w,fun _ m _=>m.toNat,⟨n,bs,rfl,e,rfl,h1⟩,?_⟩
 rintro b _ w ⟨k,xs,rfl,o,d,f⟩
 have g:xs.length<=10000000010:=by
  have:=congrArg List.length d;have:=vO e;simp only[length_append]at *;omega
 refine⟨fun h=>?_,fun h=>?_⟩
 have h:=of_decide_eq_true h
 refine⟨_,jYQ k,fun i l h2=>?_⟩
 have⟨s',w',hr,c⟩:=f.put h2 Om
 refine⟨s',w',hr,_,zCD k,⟨k/128,xs++[UInt8.ofNat<|k%128+128],rfl,Om,?_,c⟩,by show(((k/128:Nat):Int)).toNat<((k:Int)).toNat;omega⟩
 rw[<-d,jAD (n:=k) Om];simp
 have h:=of_decide_eq_false h
 intro i l h2
 rw[jBR]at h2
 have⟨s',w',hr,c⟩:=f.put h2 Om
 refine⟨s',w',hr,?_⟩
 rw[<-d,oH (n:=k) Om];exact c
def jAP{S}(s bs)(n:Nat)(w0)(hs:Lst S w0 1 s (byr bs))(C:bs.length<=10000000000)(p:n<18446744073709551616):
  cl 214 #[s.v,vu (n:Int)] w0<|XA fun r w'=>RetO w0 5 1 (byr<|bs++vC n) r w':=by
 refine w_K2 _ _ w0 _ ?_
 intro p1 y h1
 have i:Pure w0 y:=Ext.new h1
 have⟨q,d,hr,f,A,g⟩:=(Rws.empty (sz:=1) h1).appendL (P:=prog) (ty:=59) jEY (hs.pure i) (jMB _) (jTE _) (by rw[vW];simp;omega) (by rw[vW];simp[maxLen];omega)
 have B:=h1.at_size
 have j:∀b,(Sl.mk (some p1) 0 0).blk b->w0.heap.size<=b:=fun b g=>(by have⟨a,z,e⟩:=g;cases z;omega)
 have o:RetO w0 5 1 (byr bs) q d:=⟨by simpa using f,fun b h=>(g b h).elim (j b) fun h=>Oh i.size,i.trans' A Gd⟩
 refine⟨q,d,hr,fun m b w=>∃k:Nat,∃xs:List UInt8,m=(k:Int)/\k<18446744073709551616/\xs++vC k=bs++vC n/\RetO w0 5 1 (byr xs) b w,fun m _ _=>m.toNat,⟨n,bs,rfl,p,rfl,o⟩,?_⟩
 rintro _ b w ⟨k,xs,rfl,u,l,f⟩
 have t:xs.length<=10000000010:=by
  have:=congrArg List.length l;have:=vO p;simp only[length_append]at *;omega
 refine⟨fun h=>?_,fun h=>?_⟩
 have h:=of_decide_eq_true h
 refine⟨_,jVQ k,fun x d h2=>?_⟩
 rw[show IntKind.u64.wrap (((k%128:Nat):Int)+128)=((k%128+128:Nat):Int) by simp[IntKind.wrap,IntKind.bits,IntKind.signed];omega,jBR]at h2
 have⟨s',w',hr,c⟩:=f.put h2 Om
 refine⟨s',w',hr,_,jVR k u,⟨k/128,xs++[UInt8.ofNat<|k%128+128],rfl,Om,?_,c⟩,by show(((k/128:Nat):Int)).toNat<((k:Int)).toNat;omega⟩
 rw[<-l,jAD (n:=k) Om];simp
 have h:=of_decide_eq_false h
 intro x d h2
 rw[jBR]at h2
 have⟨s',w',hr,c⟩:=f.put h2 Om
 refine⟨s',w',hr,?_⟩
 rw[<-l,oH (n:=k) Om];exact c
def zAN{S}(s bs x w0)(hs:Lst S w0 1 s (byr bs))(c:s.a=none->s=Sl.nil)(b:bs.length<=10000000000)(d:x.size<=10000000000):
  cl 258 #[s.v,vs x] w0<|XA fun r w'=>RetO w0 5 1 (byr<|bs++vP x) r w':=by
 refine w_S6 _ _ w0 _ ?_
 unfold m_S6
 rw[show IntKind.u64.wrap (x.size:Int)=(x.size:Int) by simp[IntKind.wrap,IntKind.bits,IntKind.signed];omega]
 refine(jDC s bs x.size w0 hs c b Om).mono ?_
 rintro _ e ⟨r1,rfl,h1⟩
 exact⟨r1,rfl,h1.text b d⟩
def jXA{S}(s bs x w0)(hs:Lst S w0 1 s (byr bs))(a:bs.length<=10000000000)(b:x.size<=10000000000):
  cl 215 #[s.v,vs x] w0<|XA fun r w'=>RetO w0 5 1 (byr<|bs++vP x) r w':=by
 refine w_J6 _ _ w0 _ ?_
 unfold m_J6
 rw[show IntKind.u64.wrap (x.size:Int)=(x.size:Int) by simp[IntKind.wrap,IntKind.bits,IntKind.signed];omega]
 refine(jAP s bs x.size w0 hs a Om).mono ?_
 rintro _ c ⟨r1,rfl,h1⟩
 exact⟨r1,rfl,h1.text a b⟩
end Go.Proofs
end
section
namespace Go.SE
section
variable {P:Program} {n:Nat} {ρ:Env} {w:World} {ds:List Deferred} {Q:Exit->Act->World->Prop} {a:Act}
def jIL{c1 c2}(f:Rep ds n ρ a)(h:wpE (x:=⟨none,ds⟩) P n c1 (fun e d w'=>match e with|.normal=>∀b,Rep ds n d b->c2.wp P Q b w'|.panic ch=>∀b,Rep ds n d b->Q (.panic ch) b w'|_=>False) ρ w):(Code.seq c1 c2).wp P Q a w:=by
 refine wp_seq<|wpIn_wide.1<|wpIn_mono (h a f) ?_;rintro e b w' ⟨d,⟨hr,c⟩|⟨rfl,_,_,D,hr,g,c⟩⟩
 .cases e<;>first|exact c.elim|exact c _ hr
 .exact c.elim
def jTI{c}(g:Rep ds n ρ a)(h:wpE (x:=⟨none,ds⟩) P n c (fun e d w'=>match e with|.normal=>∀b,Rep ds n d b->Q .normal b w'|.panic ch=>∀b,Rep ds n d b->Q (.panic ch) b w'|_=>False) ρ w):c.wp P Q a w:=by
 refine wpIn_wide.1<|wpIn_mono (h a g) ?_;rintro e b w' ⟨d,⟨hr,f⟩|⟨rfl,_,_,D,hr,i,f⟩⟩;grind;exact f.elim
def jYA{id t f}{caps:Array Operand}{ty ty'}{pos c:String}{aft b:Array Edge}{c2}(e:Rep ds n ρ a)(ht:t<n)(h:∀g,Rep (⟨.fn (.func f)<|caps.map<|evE ρ,#[]⟩ :: ds) n (put ρ (some t)<|.func (.func f) #[]<|caps.map<|evE ρ) g->c2.wp P Q g w):
  (Code.seq (.region id #[⟨some t,.makeFunc (.func f) #[] caps,ty,pos,aft,none⟩,⟨none,.defer ⟨.value<|.tmp t,#[],#[]⟩,ty',c,b,none⟩] false) c2).wp P Q a w:=by
 have h1:Rep ds n (put ρ (some t)<|.func (.func f) #[]<|caps.map<|evE ρ) (a.put (some t)<|.func (.func f) #[]<|caps.map<|evE ρ):=e.put Gd _
 have h2:=h ({ (a.put (some t)<|.func (.func f) #[]<|caps.map<|evE ρ)with defers:=⟨.fn (.func f)<|caps.map<|evE ρ,#[]⟩ ::ds }.put none undef) ⟨rfl,h1.size,h1.get⟩
 refine wp_seq<|(wpIn_wide (n:=0)).1<|wpIn_region_lit (l:=[_,_]) ?_
 unfold wpListIn
 rw[if_pos<|by simp[Region.wanted]]
 refine jGT (ro:=none) ⟨Sm,?_⟩
 rw[e.eval]
 simp only[execOp,Instr.makeFunc]
 show wpListIn _ 0 P _ _ _ _ _
 unfold wpListIn
 rw[if_pos<|by simp[Region.wanted]]
 refine⟨fun f _=>trivial,?_⟩
 have d:(a.put (some t)<|.func (.func f) #[]<|caps.map<|evE ρ).eval (.tmp t)=.func (.func f) #[] (caps.map<|evE ρ):=by
  rw[h1.eval];simp[evE,put,upd]
 have i:=h1.defers
 simp[Oper.semAt,Fence.wide,execOp,resolve,d,Deferred.ofValue,Oper.uponIn,wpListIn,Exit.then,i]
 exact h2
def jQA{f fn c args R}(g:P.funcs[f]?=some fn)(b:fn.body=some c)(d:fn.ntmps=n)(e:args.length<=n)(h:∀a,Rep [] n (uK args) a->c.wp P (bodyPostD P fn R) a w):Calls P f args.toArray w R:=by
 subst d;exact calls_of_wp_defers g b<|h _<|jHU args e
inductive Recov:FrameMode->Value->FrameMode->Prop
 |idle:Recov .returning .nilIface .returning
 |hit (v:Value) (a:List PanicEntry):Recov (.panicking ({ v:=v,recovered:=false } :: a)) v (.panicking ({ v:=v,recovered:=true } :: a))
def bodyEN(P:Program)(fn:Func)(n:Nat)(R:Ending->World->Prop):Exit->Env->World->Prop
 |.normal,ρ,w=>∃v,(∀ds a,Rep ds n ρ a->(results fn a.tmps).run P w=.ok v w)/\R (.returned v) w
 |.panic b,_,w=>R (.panicked b) w
 |_,_,_=>False
def jDI{id t t2:Nat}{f:FuncId}{fn:Func}{c:Code}{args:List Value}{v:Value}{u u':FrameMode}{R:Ending->World->Prop}{ty ty':TypeId}{pos pos':String}{aft aft':Array Edge}(hu:Recov u v u')(hf:P.funcs[f]?=some fn)(hb:fn.body=some (Code.seq (.region id #[⟨some t,.call ⟨.builtin .recover,#[],#[]⟩,ty,pos,aft,none⟩,⟨some t2,.assign<|.tmp t,ty',pos',aft',none⟩] false) c))(hn:fn.ntmps=n)(hl:args.length<=n)(ht:t<n)(ht2:t2<n)(h:wpE (x:=⟨none,[]⟩) P n c (bodyEN P fn n R) (put (put (uK args) (some t) v) (some t2) v) w):
  CallsD P f args.toArray u w<|fun e u1 w'=>u1=u'/\R e w':=by
 subst hn
 refine callsD_of_wpS hf hb fun c₀ cs hm=>?_
 apply wpS_seq
 apply wpS_region
 have hr:=jHU args hl
 have h1:Rep [] fn.ntmps (put (uK args) (some t) v) _:=hr.put (d:=some t) Gd v
 have h2:Rep [] fn.ntmps (put (put (uK args) (some t) v) (some t2) v) _:=h1.put (d:=some t2) Gd v
 have hv:((Act.mk (args.toArray++Array.replicate (fn.ntmps-args.toArray.size) undef) []).put (some t) v).eval (.tmp t)=v:=by
  rw[h1.eval];simp[evE,put,upd]
 have key:∀cs',cs'={ c₀ with mode:=u' } ::cs->c.wpS P (bodyPostS P fn c₀ cs fun e u1 w'=>u1=u'/\R e w') ((((Act.mk (args.toArray++Array.replicate (fn.ntmps-args.toArray.size) undef) []).put (some t) v)).put (some t2) v) cs' w:=by
  rintro cs' rfl;refine wpS_of_wp<|jTI h2<|jEP ?_ h;intro e ρ' w' hq;cases e with
  |normal =>
   intro a' ha'
   have⟨x,hx,hR⟩:=hq
   exact⟨ha'.defers,u',rfl,x,hx _ a' ha',rfl,hR⟩
  |panic ch =>
   intro a' ha'
   exact⟨ha'.defers,u',rfl,rfl,hq⟩
  |_=>exact hq.elim
 have h0:(execOp (Act.mk (args.toArray++Array.replicate (fn.ntmps-args.toArray.size) undef) []).eval ⟨some t,.call ⟨.builtin .recover,#[],#[]⟩,ty,pos,aft,none⟩).run P w=.ok .recover w:=by
  simp[execOp,resolve,invoke,builtin]
 show wpOpsS P _ _ [0,1] _ _ _
 cases hu with
 |idle =>
  have hrd:recoverD (c₀ ::cs)=none:=by simp[recoverD,hm]
  simp only[wpOpsS,List.getElem?_toArray,List.getElem?_cons_zero,List.getElem?_cons_succ]
  rw[if_pos<|by simp[Region.wanted],h0]
  simp only[hrd]
  rw[if_pos<|by simp[Region.wanted]]
  simp only[execOp,hv,Oper.upon]
  exact key _ (by cases c₀;simp_all)
 |hit v older =>
  have hrd:recoverD (c₀ ::cs)=some (v,{ c₀ with mode:=.panicking ({ v:=v,recovered:=true } ::older) } ::cs):=by simp[recoverD,hm]
  simp only[wpOpsS,List.getElem?_toArray,List.getElem?_cons_zero,List.getElem?_cons_succ]
  rw[if_pos<|by simp[Region.wanted],h0]
  simp only[hrd]
  rw[if_pos<|by simp[Region.wanted]]
  simp only[execOp,hv,Oper.upon]
  exact key _ rfl
end
section
variable {P:Program} {x:Cx} {n:Nat} {Q:Exit->Env->World->Prop} {ρ:Env} {w:World}
end
end Go.SE
end
section
open Go Go.SE List
namespace Go.Proofs
open Tryz
attribute [local irreducible] Calls CallsD
def jVB{P}{ε:Operand->Value}{w}{d:Option Tmp}{ty}{pos:String}{aft:Array Edge}{g:Option (Nat×Bool)}{x X T v}{a:TypeDesc}(b:ε x=.iface T v)(ht:P.underlying T=some a)(hi:∀m,a≠.interface m):
  (execOp ε ⟨d,.typeAssert x X T true,ty,pos,aft,g⟩).run P w=.ok (.value<|.tuple #[v,vb true]) w:=by
 simp only[execOp,b]
 have:(Instr.typeAssert (.iface T v) X T true).run P w=.ok (.tuple #[v,vb true]) w:=by
  unfold Instr.typeAssert;simp only[Sem.run_bind,run_underlying ht,Result.andThen];cases a<;>first|exact absurd rfl (hi _)|simp
 simp[this]
set_option maxRecDepth 100000 in
def zAJ(d c:Addr)(w:World):CallsD prog 308 #[vp<|some d,vp<|some c] .returning w (fun e f w'=>f=.returning/\(e=.returned (.tuple #[])/\w'=w)):=by
 refine jDI (args:=[vp<|some d,vp<|some c]) (R:=fun e w'=>e=.returned (.tuple #[])/\w'=w) .idle func308 rfl ntmps308 (Nat.le_of_ble_eq_true rfl) De De ?_;refine zL ?_;refine rg ?_;refine q0 .nilIface ?_;refine q0 (vb false) ?_;refine vH ?_;refine uZ ?_;refine jCR (t:=false) Kf (fun b=>by cases b) fun b=>?_;refine vB ?_;exact⟨.tuple #[],fun ds a g=>by rw[results_none results308],rfl,rfl⟩
set_option maxRecDepth 100000 in
def zEI(g f r:Addr)(b e:Int)(c:List PanicEntry)(w:World)(i:w.cell? g=some (vi b))(hr:w.cell? f=some (vp<|some r))(h1:zV w (r.add 1))(h2:zV w (r.add 2))(h3:zV w (r.add 3)):
  CallsD prog 308 #[vp<|some g,vp<|some f] (.panicking ({ v:=.iface 334<|vi e,recovered:=false } ::c)) w (fun h j w'=>j=.panicking ({ v:=.iface 334<|vi e,recovered:=true } ::c) /\
   (h=.returned (.tuple #[])/\w'=((w.setCell (r.add 1)<|vi b).setCell (r.add 2)<|vi e).setCell (r.add 3) (vi b))):=by
 refine jDI (args:=[vp<|some g,vp<|some f]) (R:=fun h w'=>h=.returned (.tuple #[])/\w'=((w.setCell (r.add 1)<|vi b).setCell (r.add 2)<|vi e).setCell (r.add 3) (vi b)) (.hit _ c) func308 rfl ntmps308 (Nat.le_of_ble_eq_true rfl) De De ?_
 refine zL ?_
 refine rg ?_
 refine q0 (.iface 334<|vi e) ?_
 refine q0 (vb true) ?_
 refine vH ?_
 refine uZ ?_
 refine jCR (t:=true) Kf (fun d=>?_) (fun d=>by cases d)
 refine zL ?_
 refine rg ?_
 refine q0 (.iface 334<|vi e) ?_
 refine q2 (.tuple #[vi e,vb true]) (jVB Kf underlying334 (by intro m;simp)) ?_
 refine q0 (.tuple #[vi e,vb true]) ?_
 refine q0 (vi e) ?_
 refine q0 (vb true) ?_
 refine q0 (vi e) ?_
 refine q0 (vb true) ?_
 refine vH ?_
 refine uZ ?_
 refine zL ?_
 refine zL ?_
 refine rg ?_
 refine q0 (vb true) ?_
 refine q0 (vb false) ?_
 refine vH ?_
 refine uZ ?_
 refine jCR (t:=false) Kf (fun d=>by cases d) fun d=>?_
 refine vB ?_
 refine uZ ?_
 refine rg ?_
 refine q2 (vp<|some r) (xZ (a:=f) Kf (isAgg272 _) hr) ?_
 refine q2 (vp<|some r) (xZ (a:=f) Kf (isAgg272 _) hr) ?_
 refine q2 (vp<|some r) (xZ (a:=f) Kf (isAgg272 _) hr) ?_
 refine q2 (vi b) (xZ (a:=g) Kf (isAgg3 _) i) ?_
 refine q0 (vi e) ?_
 refine q2 (vi b) (xZ (a:=g) Kf (isAgg3 _) i) ?_
 refine q0 (vp<|some r) ?_
 refine q0 (vp<|some<|r.add 1) ?_
 refine jIV (qE rfl) (tY (a:=r.add 1) (v:=vi b) Kf Kf rfl (sizeOf3 _) h1) ?_
 rintro n rfl
 refine q0 (vp<|some r) ?_
 refine q0 (vp<|some<|r.add 2) ?_
 refine jIV (qE rfl) (tY (a:=r.add 2) (v:=vi e) Kf Kf rfl (sizeOf54 _) (zV.setCell h2)) ?_
 rintro l rfl
 refine q0 (vp<|some r) ?_
 refine q0 (vp<|some<|r.add 3) ?_
 refine jIV (qE rfl) (tY (a:=r.add 3) (v:=vi b) Kf Kf rfl (sizeOf3 _) (zV.setCell<|zV.setCell h3)) ?_
 rintro o rfl
 refine vH ?_
 exact⟨.tuple #[],fun ds a k=>by rw[results_none results308],rfl,rfl⟩
def zFK{P w f cap args}(a:∀args w,(callFunc f args).run P w=.ok (.enter f args) w)(h:cap=args):(invoke (.fn (.func f) cap) #[]).run P w=.ok (.enter f args) w:=by
 subst h;simp[invoke,a]
set_option maxRecDepth 100000 in
def jGN(r:Addr)(c:Value)(e:Int)(g:World)(k:g.cell? (r.add 2)=some (vi e))(l:e≠0):
  cl 290 #[vp<|some r,c] g<|fun e w'=>e=.returned (.tuple #[])/\Pure g w':=by
 refine jCJ (args:=[vp<|some r,c]) func290 rfl ntmps290 (Nat.le_of_ble_eq_true rfl) ?_
 refine zL ?_
 refine rg ?_
 refine jLE (O:=(.cells #[(vp<|some r)] 272)) (fun p=>vp<|some p) (qE rfl) (zGB (cs:=#[(vp<|some r)]) Kf) ?_
 intro p1 j d
 have i:Pure g j:=Ext.new d
 have b:j.cell? p1=some (vp<|some r):=(Box.of_newA d).cell0
 have h:=i.cell k id
 refine vH ?_
 refine uZ ?_
 refine zL ?_
 refine zL ?_
 refine rg ?_
 refine q2 (vp<|some r) (xZ (a:=p1) Kf (isAgg272 _) b) ?_
 refine q2 (vb false) (jMF (x:=some r) Kf rfl underlying272) ?_
 refine q0 (vb false) ?_
 refine q2 (vp<|some r) (xZ (a:=p1) Kf (isAgg272 _) b) ?_
 refine q0 (vp<|some r) ?_
 refine q0 (vp<|some<|r.add 2) ?_
 refine q2 (vi e) (xZ (a:=r.add 2) Kf (isAgg54 _) h) ?_
 refine q0 (vb<|(e:Int) !=0) ?_
 refine q0 (vb<|(e:Int) !=0) ?_
 refine vH ?_
 refine uZ ?_
 refine jCR (t:=true) (by rw[show((e:Int) !=0)=true by simpa using l];kernel_rfl) (fun f=>?_) (fun f=>by cases f)
 refine jRP ?_
 refine jMM ?_
 exact res0 (.inl rfl) results290 ⟨rfl,i⟩
set_option maxRecDepth 100000 in
def jSZ(r:Addr)(n:FuncId)(caps:Array Value)(at_:Int)(i:World)(K:WP)(h1:i.cell? (r.add 1)=some (vi at_))(h2:i.cell? (r.add 2)=some (vi 0))(y:∀args w,(callFunc n args).run prog w=.ok (.enter n args) w)(hdo:∀k p A,Pure i k->i.heap.size<=Addr.block p->i.heap.size<=Addr.block A->k.cell? p=some (vp (some r))->k.cell? A=some (vi at_) ->
   Calls prog n caps k (fun e h=>(e=.returned (.tuple #[])/\K h)\/∃x,e=.panicked [{ v:=.iface 334 (vi x),recovered:=false }]/\h.cell? p=some (vp (some r))/\h.cell? A=some (vi at_)/\zV h (r.add 1)/\zV h (r.add 2)/\zV h (r.add 3) /\
    K (((h.setCell (r.add 1) (vi at_)).setCell (r.add 2) (vi x)).setCell (r.add 3) (vi at_)))):
  cl 290 #[vp (some r),.func (.func n) #[] caps] i (fun e w'=>e=.returned (.tuple #[])/\K w'):=by
 refine jQA (args:=[vp (some r),.func (.func n) #[] caps]) func290 rfl ntmps290 (Nat.le_of_ble_eq_true rfl) ?_
 intro a b
 refine jIL b ?_
 refine rg ?_
 refine jLE (O:=(.cells #[(vp (some r))] 272)) (fun p=>vp (some p)) (qE rfl) (zGB (cs:=#[(vp (some r))]) Kf) ?_
 intro p1 k l
 have s:Pure i k:=Ext.new l
 have d:k.cell? p1=some (vp (some r)):=(Box.of_newA l).cell0
 have C:=s.cell h2 id
 have R:=l.at_size
 clear b
 refine vH ?_
 intro a b
 refine jIL b ?_
 refine zL ?_
 refine rg ?_
 refine q2 (vp (some r)) (xZ (a:=p1) Kf (isAgg272 _) d) ?_
 refine q2 (vb false) (jMF (x:=some r) Kf rfl underlying272) ?_
 refine q0 (vb false) ?_
 refine q2 (vp (some r)) (xZ (a:=p1) Kf (isAgg272 _) d) ?_
 refine q0 (vp (some r)) ?_
 refine q0 (vp (some (r.add 2))) ?_
 refine q2 (vi 0) (xZ (a:=r.add 2) Kf (isAgg54 _) C) ?_
 refine q0 (vb false) ?_
 refine q0 (vb false) ?_
 refine vH ?_
 refine uZ ?_
 refine jCR (t:=false) Kf (fun q=>by cases q) fun q=>?_
 refine vB ?_
 clear b
 intro a b
 refine jIL b ?_
 refine rg ?_
 refine q2 (vp (some r)) (xZ (a:=p1) Kf (isAgg272 _) d) ?_
 refine q0 (vp (some r)) ?_
 refine q0 (vp (some (r.add 1))) ?_
 refine q2 (vi at_) (xZ (a:=r.add 1) Kf (isAgg3 _) (s.cell h1 id)) ?_
 refine jLE (O:=(.cells #[(vi 0)] 3)) (fun p=>vp (some p)) (qE rfl) (gQ (zeroValue3 _) rfl) ?_
 intro g h j
 have P:Pure i h:=s.trans (Ext.new j)
 have T:=j.at_size
 have L:=Box.of_newA j
 refine jIV (qE rfl) (tY (a:=g) (v:=vi at_) Kf Kf rfl (sizeOf3 _) (L.canW0 Sm)) ?_
 intro u m
 have S:=World.block_lt_of_cell? k p1 d
 have Q:Pure i u:=P.own (p:=g) (Oh s.size) (m▸Ext.setCell g _)
 have B:u.cell? p1=some (vp (some r)):=by
  rw[m];exact(Ext.setCell g _).cell ((Ext.new (F:=None) j).cell d id) fun e=>Om
 have H:u.cell? g=some (vi at_):=by
  rw[m];exact(L.set0).cell0
 refine vH ?_
 clear b
 intro a b
 refine jYA b De ?_
 clear b
 intro a b
 refine jTI b ?_
 refine qW Kf ?_
 refine qN 1 ?_
 refine q0 (.func (.func n) #[] caps) ?_
 refine vH ?_
 refine jIW (qE rfl) (by intro c y;cases y) (jXT (caps:=caps) (args:=#[]) (args':=caps) Kf y rfl Sm) ((hdo u p1 g Q Om (Oh s.size) B H).mono ?_)
 rintro e J (⟨rfl,G⟩|⟨x,rfl,z,I,D,E,o,G⟩)
 refine .inl ⟨_,rfl,?_⟩
 refine zBQ ?_
 clear b
 intro a b
 show Leaves _ _ _ _ _ _ _
 rw[b.defers]
 refine leaves_cons (f:=308) (args:=#[vp (some g),vp (some p1)]) Sm (zFK call308 (by simp[evE,put,upd])) ?_
 refine(zAJ g p1 J).mono ?_
 rintro e M N ⟨rfl,rfl,rfl⟩
 exact⟨_,results_none results290 _ _ _,rfl,G⟩
 refine .inr ⟨_,rfl,?_⟩
 intro U
 clear b
 intro a b
 show Leaves _ _ _ _ _ _ _
 rw[b.defers]
 refine leaves_cons (f:=308) (args:=#[vp (some g),vp (some p1)]) Sm (zFK call308 (by simp[evE,put,upd])) ?_
 refine(zEI g p1 r at_ x [] J I z D E o).mono ?_
 rintro e M N ⟨rfl,rfl,rfl⟩
 exact⟨_,results_none results290 _ _ _,rfl,G⟩
structure RdAt(S:NP)(w:World)(a:Addr)(s:Sl)(bs:List UInt8)(at_ err spot:Int):Prop where
 box:Box w a [s.v,vi at_,vi err,vi spot] 319
 lst:Lst S w 1 s (byr bs)
 apart:∀b,S b->b≠a.block
 small:bs.length<=100000000000
 room:s.len<=s.cap
def zDM(e:Int):List PanicEntry:=[{ v:=.iface 334<|vi e,recovered:=false }]
section
variable {S:NP} {w w':World} {a:Addr} {s:Sl} {bs:List UInt8} {at_ err spot:Int}
def RdAt.ext{F}(h:RdAt S w a s bs at_ err spot)(E:Ext F w w')(d:∀b,S b->¬F b)(c:¬F a.block):RdAt S w' a s bs at_ err spot:=
 ⟨h.box.ext E c,h.lst.ext E d,h.apart,h.small,h.room⟩
def RdAt.pure(h:RdAt S w a s bs at_ err spot)(E:Pure w w'):RdAt S w' a s bs at_ err spot:=h.ext E (fun _ _ h=>h) id
def RdAt.atC(h:RdAt S w a s bs at_ err spot):w.cell? (a.add 1)=some (vi at_):=h.box.cell (i:=1) rfl
def RdAt.errC(h:RdAt S w a s bs at_ err spot):w.cell? (a.add 2)=some (vi err):=h.box.cell (i:=2) rfl
def RdAt.setAt(h:RdAt S w a s bs at_ err spot)(k):RdAt S (w.setCell (a.add 1)<|vi k) a s bs k err spot:=
 ⟨h.box.set 1 _,h.lst.ext (Ext.setCell _ _) fun b c e=>h.apart b c (by rw[zG]at e;exact e),h.apart,h.small,h.room⟩
def RdAt.setErr(h:RdAt S w a s bs at_ err spot)(k):RdAt S (w.setCell (a.add 2)<|vi k) a s bs at_ k spot:=
 ⟨h.box.set 2 _,h.lst.ext (Ext.setCell _ _) fun b c e=>h.apart b c (by rw[zG]at e;exact e),h.apart,h.small,h.room⟩
def RdAt.setSpot(h:RdAt S w a s bs at_ err spot)(k):RdAt S (w.setCell (a.add 3)<|vi k) a s bs at_ err k:=
 ⟨h.box.set 3 _,h.lst.ext (Ext.setCell _ _) fun b c e=>h.apart b c (by rw[zG]at e;exact e),h.apart,h.small,h.room⟩
def qQ{k v}:Ext (·=a.block) w (w.setCell (a.add k) v):=(Ext.setCell _ _).mono (fun i _ e=>by rw[zG]at e;exact e)
end
def zFQ{S}(a s bs)(at_:Nat)(err spot:Int)(w0)(h:RdAt S w0 a s bs at_ err spot)(m:at_<=bs.length):
  cl 296 #[vp<|some a] w0 (fun e w'=>(∃b:at_<bs.length,e=.returned (.int .u8 (bs[at_].toNat:Int))/\RdAt S w' a s bs ((at_+1:Nat):Int) err spot/\Ext (·=a.block) w0 w') \/
   (at_=bs.length/\e=.panicked (zDM 3)/\RdAt S w' a s bs at_ err spot/\Ext (·=a.block) w0 w')):=by
 refine(w_M1 (some a) w0 (fun o r w'=>(∃b:at_<bs.length,o=none/\r=(bs[at_].toNat:Int)/\RdAt S w' a s bs ((at_+1:Nat):Int) err spot/\Ext (·=a.block) w0 w')\/(at_=bs.length/\o=some (zDM 3)/\RdAt S w' a s bs at_ err spot/\Ext (·=a.block) w0 w')) ?_).mono ?_
 .refine⟨a,rfl,fun t hs=>?_⟩
  have h1:=h.pure hs.first
  have p:s.len=bs.length:=by rw[h.lst.len,vW]
  refine⟨_,h1.atC,a,rfl,s,h1.box.cell0,fun f=>?_,fun f=>?_⟩
  .have:at_=bs.length:=Oh<|beq_iff_eq.1 f
   exact .inr ⟨this,rfl,h1,Ext.pure hs.first⟩
  .have l:at_≠bs.length:=Oh<|beq_eq_false_iff_ne.1 f
   have b:at_<bs.length:=Om
   refine⟨a,rfl,_,h1.atC,a,rfl,h1.box.canW (i:=1) Sm,id,?_⟩
   rintro q rfl
   have n:IntKind.i64.wrap ((at_:Int)+1)=((at_+1:Nat):Int):=zQ b<|Oh h.small
   rw[n]
   have h2:=h1.setAt ((at_+1:Nat):Int)
   refine⟨a,rfl,fun u d=>?_⟩
   have h3:=h2.pure d.ext
   have j:IntKind.i64.wrap (((at_+1:Nat):Int)-1)=(at_:Int):=by
    rw[IntWalk.i64_in _<|Oh h.small];omega
   have⟨c,k,_,g⟩:=jRC h3.lst b
   refine⟨s,h3.box.cell0,a,rfl,_,h3.atC,c,?_,_,g,.inl ⟨b,rfl,rfl,h3,((Ext.pure hs.first).trans qQ).thenPure d.ext⟩⟩
   rw[j];exact k
 .grind
def c_num{S}(a s bs)(at_:Nat)(err spot:Int)(w0)(h:RdAt S w0 a s bs at_ err spot)(G:at_<=bs.length):
  cl 292 #[vp<|some a] w0 (fun e w'=>(∃n k:Nat,xR 0 0 (bs.drop at_)=.ok (n,k)/\e=.returned (vu (n:Int))/\n<18446744073709551616/\at_+k<=bs.length/\RdAt S w' a s bs ((at_+k:Nat):Int) err spot/\Ext (·=a.block) w0 w') \/
   (∃x:Nat,∃v:Int,xR 0 0 (bs.drop at_)=.error x/\e=.panicked (zDM x)/\RdAt S w' a s bs v err spot/\Ext (·=a.block) w0 w')):=by
 refine (w_X (some a) w0 (fun o r w' => (∃ n k : Nat, xR 0 0 (bs.drop at_) = .ok (n, k) /\ o = none /\ r = (n : Int) /\ n < 18446744073709551616 /\ at_ + k <= bs.length /\ RdAt S w' a s bs ((at_ + k : Nat) : Int) err spot /\ Ext (· = a.block) w0 w') \/
   (∃x:Nat,∃v:Int,xR 0 0 (bs.drop at_)=.error x/\o=some (zDM x)/\RdAt S w' a s bs v err spot/\Ext (·=a.block) w0 w')) ?_).mono ?_
 refine⟨fun n i w=>∃d k:Nat,n=(d:Int)/\i=(k:Int)/\k<=9/\d<2^(7*k)/\at_+k<=bs.length/\xR k d (bs.drop<|at_+k)=xR 0 0 (bs.drop at_)/\RdAt S w a s bs ((at_+k:Nat):Int) err spot/\Ext (·=a.block) w0 w,fun _ i _=>(10-i).toNat,⟨0,0,rfl,rfl,Om,Sm,by simpa using G,rfl,by simpa using h,Ext.refl _⟩,?_⟩
 rintro _ _ wl ⟨d,k,rfl,rfl,R,m,H,b,O,A⟩
 refine(zFQ a s bs (at_+k) err spot wl O H).mono ?_
 rintro e Q (⟨I,rfl,g,f⟩|⟨F,rfl,g,f⟩)
 refine .inl ⟨_,rfl,?_⟩
 have u:bs.drop (at_+k)=bs[at_+k] ::bs.drop (at_+k+1):=drop_eq_getElem_cons I
 generalize N:bs[at_+k]=c at *
 have K:=c.toNat_lt
 rw[u,xQ]at b
 refine⟨fun D=>?_,fun D=>?_⟩
 have y:k=9/\1<c.toNat:=by simp at D;omega
 rw[if_pos y]at b
 exact .inr ⟨11,_,b.symm,rfl,g,A.trans f⟩
 have y:¬(k=9/\1<c.toNat):=by intro hh;simp at D;omega
 rw[if_neg y]at b
 have t:c.toNat%128*2^(7*k)<18446744073709551616:=by
  by_cases M:k=9;subst M;omega;have J:2^(7*k)<=2^56:=Nat.pow_le_pow_right Om Om;have p:c.toNat%128<=127:=Om
  calc c.toNat%128*2^(7*k)<=127*2^56:=Nat.mul_le_mul p J
   _<18446744073709551616:=De
 have B:d<18446744073709551616:=Nat.lt_of_lt_of_le m (by
  calc 2^(7*k)<=2^63:=Nat.pow_le_pow_right Om Om
   _<=18446744073709551616:=De)
 have P:IntKind.i64.wrap (7*(k:Int))=((7*k:Nat):Int):=by rw[IntWalk.i64_in _ Om];simp
 have q:128^k=2^(7*k):=by rw[Nat.pow_mul]
 have l:d |||(c.toNat%128*2^(7*k))=d+c.toNat%128*2^(7*k):=zFE m
 have C:d+c.toNat%128*2^(7*k)<18446744073709551616:=by
  rw[<-l];exact Nat.or_lt_two_pow (n:=64) B t
 unfold m_X_j2
 rw[P]
 refine⟨_,jVS c.toNat K,_,by rw[vX Om];exact zGM _ _ Om t,_,zCG _ _ B t,?_⟩
 rw[l]
 refine⟨fun hs=>?_,fun hs=>?_⟩
 have j:c.toNat<128:=Oh<|of_decide_eq_true hs
 rw[if_pos j]at b
 refine⟨fun E=>?_,fun E=>?_⟩
 have z:c.toNat=0/\0<k:=by simp at E;omega
 rw[if_pos z]at b
 exact .inr ⟨10,_,b.symm,rfl,g,A.trans f⟩
 have z:¬(c.toNat=0/\0<k):=by intro hh;simp at E;omega
 rw[if_neg z,q]at b
 rw[Nat.mod_eq_of_lt j]at C|-
 exact .inl ⟨_,k+1,b.symm,rfl,rfl,C,Om,g,A.trans f⟩
 have j:¬c.toNat<128:=Oh<|of_decide_eq_false hs
 rw[if_neg j,q]at b
 have L:k≠9:=Om
 rw[zQ (n:=10) Om Om]
 refine⟨⟨_,k+1,rfl,rfl,Om,?_,Om,b,g,A.trans f⟩,by show(10-((k+1:Nat):Int)).toNat<(10-(k:Int)).toNat;omega⟩
 have:2^(7*(k+1))=128*2^(7*k):=by rw[Nat.mul_add,Nat.pow_add];omega
 rw[this]
 have p:c.toNat%128*2^(7*k)<=127*2^(7*k):=Nat.mul_le_mul_right _ Om
 omega
 refine .inr ⟨_,rfl,.inr ⟨3,_,?_,rfl,g,A.trans f⟩⟩
 rw[<-b,F,drop_length];rfl
 grind
abbrev RdS(S:NP)(w:World)(a:Addr)(s:Sl)(bs:List UInt8)(r:Rd):Prop:=RdAt S w a s bs r.at_ r.err r.spot
def jGP{w p u v T}(h:Box w p [u] T):Box (w.setCell p v) p [v] T:=h.set0
def RdAt.gives{S w a s bs at_ err spot}(h:RdAt S w a s bs at_ err spot)(f e):
  zV w (a.add 1)/\zV w (a.add 2)/\zV w (a.add 3)/\RdAt S (((w.setCell (a.add 1)<|vi f).setCell (a.add 2)<|vi e).setCell (a.add 3)<|vi f) a s bs f e f:=
 ⟨h.box.canW (i:=1) Sm,h.box.canW (i:=2) Sm,h.box.canW (i:=3) Sm,((h.setAt f).setErr e).setSpot f⟩
def jDA{w:World}{a:Addr}{u v x:Value}:Ext (·=a.block) w (((w.setCell (a.add 1) u).setCell (a.add 2) v).setCell (a.add 3) x):=(qQ.trans qQ).trans qQ
def jRB{S:NP}(a:Addr)(s:Sl)(bs:List UInt8)(r:Rd)(g:World)(h:RdS S g a s bs r)(J:r.at_<=bs.length)(hS:∀b,S b->b<g.heap.size):
  cl 252 #[vp<|some a] g<|XU fun x w'=>x=((vU bs r).1:Int)/\RdS S w' a s bs (vU bs r).2/\Ext (·=a.block) g w':=by
 refine w_M6 (some a) g _ ?_
 intro p1 M n1 f C n2
 have m:Pure g M:=Ext.new n1
 have u:Pure g C:=m.trans<|Ext.new n2
 have w:C.cell? p1=some (vp<|some a):=(Ext.new (F:=None) n2).cell (Box.of_newA n1).cell0 id
 have b1:=n1.at_size
 have b2:=n2.at_size
 have X:p1.block≠f.block:=Oh<|World.block_lt_of_cell? M p1 (Box.of_newA n1).cell0
 have T:=World.block_lt_of_cell? g a h.box.cell0
 have H:=Box.of_newA n2
 have h2:=h.pure u
 refine⟨some a,w,?_⟩
 have I:∀d,(Box d f [vu ((vU bs r).1:Int)] 23/\RdS S d a s bs (vU bs r).2/\Ext (·=a.block) g d)->∃L:Int,d.cell? f=some (vu L)/\zV d f/\∀c:World,c=d.setCell f (vu L)->∃B:Int,c.cell? f=some (vu B)/\(B=((vU bs r).1:Int)/\RdS S c a s bs (vU bs r).2/\Ext (·=a.block) g c):=by
  rintro d ⟨hB,A,q⟩;refine⟨_,hB.cell0,hB.canW0 Sm,?_⟩;rintro c rfl;have y:Ext (·=f.block) d (d.setCell f<|vu ((vU bs r).1:Int)):=Ext.setCell _ _;exact⟨_,(jGP hB).cell0,rfl,A.ext y (fun b E e=>Oi (hS b E) m.size) fun e=>Oh m.size,q.trans' y fun i hi e=>Oh m.size⟩
 by_cases z:r.err=0
 refine(jSZ a 291 _ r.at_ C (fun d=>Box d f [vu ((vU bs r).1:Int)] 23/\RdS S d a s bs (vU bs r).2/\Ext (·=a.block) g d) h2.atC (by have:=h2.errC;rw[z]at this;exact this) call291 ?_).mono ?_
 intro d p P l Y R K v
 have h3:=h2.pure l
 refine(w_Z2 p1 f d (fun o c=>(o=none/\(Box c f [vu ((vU bs r).1:Int)] 23/\RdS S c a s bs (vU bs r).2/\Ext (·=a.block) g c))\/(∃x,o=some (zDM x)/\c.cell? p=some (vp<|some a)/\c.cell? P=some (vi r.at_)/\zV c (a.add 1)/\zV c (a.add 2)/\zV c (a.add 3) /\
  (Box (((c.setCell (a.add 1)<|vi r.at_).setCell (a.add 2)<|vi x).setCell (a.add 3)<|vi r.at_) f [vu ((vU bs r).1:Int)] 23/\RdS S (((c.setCell (a.add 1)<|vi r.at_).setCell (a.add 2)<|vi x).setCell (a.add 3)<|vi r.at_) a s bs (vU bs r).2/\Ext (·=a.block) g (((c.setCell (a.add 1)<|vi r.at_).setCell (a.add 2)<|vi x).setCell (a.add 3)<|vi r.at_)))) ?_).mono ?_
 refine⟨some a,l.cell w id,?_⟩
 refine(c_num a s bs r.at_ r.err r.spot d h3 J).mono ?_
 rintro e c (⟨n,k,G,rfl,W,V,A,q⟩|⟨x,U,G,rfl,A,q⟩)
 refine .inl ⟨_,rfl,?_⟩
 have t:Box c f [vu 0] 23:=(H.pure l).ext q fun e=>Oh m.size
 refine⟨t.canW0 Sm,?_⟩
 rintro Z rfl
 have y:Ext (·=f.block) c (c.setCell f<|vu (n:Int)):=Ext.setCell _ _
 have j:vU bs r=(n,⟨r.at_+k,0,r.spot⟩):=by simp[vU,z,G]
 rw[j]
 refine .inl ⟨rfl,jGP t,?_,((Ext.pure<|u.trans l).trans q).trans' y fun i hi e=>Oh m.size⟩
 have:=A.ext y (fun b E e=>Oi (hS b E) m.size) fun e=>Oh m.size
 rw[z]at this
 exact this
 refine .inr ⟨_,rfl,.inr ⟨x,rfl,?_⟩⟩
 have j:vU bs r=(0,⟨r.at_,x,r.at_⟩):=by simp[vU,z,G]
 have t:Box c f [vu 0] 23:=(H.pure l).ext q fun e=>Oh m.size
 have⟨O,N,Q,D⟩:=A.gives r.at_ x
 rw[j]
 exact⟨q.cell K fun e=>Oh u.size,q.cell v fun e=>Oh u.size,O,N,Q,t.ext jDA fun e=>Oh m.size,D,((Ext.pure<|u.trans l).trans q).trans jDA⟩
 rintro e c (⟨rfl,h⟩|⟨ch,rfl,h⟩)
 grind
 rcases h with⟨h,_⟩|⟨x,h1,h⟩
 cases h
 cases h1;exact .inr ⟨x,rfl,h⟩
 grind
 refine(jGN a _ r.err C h2.errC Om).mono ?_
 rintro e d ⟨rfl,l⟩
 have j:vU bs r=(0,r):=by simp[vU,z]
 refine⟨rfl,I d ?_⟩
 rw[j]
 exact⟨H.pure l,h2.pure l,Ext.pure<|u.trans l⟩
def c_Byte{S:NP}(a:Addr)(s:Sl)(bs:List UInt8)(r:Rd)(g:World)(h:RdS S g a s bs r)(H:r.at_<=bs.length)(hS:∀b,S b->b<g.heap.size):
  cl 272 #[vp<|some a] g<|XT fun x w'=>x=((xK bs r).1:Int)/\RdS S w' a s bs (xK bs r).2/\Ext (·=a.block) g w':=by
 refine w_G6 (some a) g _ ?_
 intro p1 L n1 f A n2
 have l:Pure g L:=Ext.new n1
 have q:Pure g A:=l.trans<|Ext.new n2
 have u:A.cell? p1=some (vp<|some a):=(Ext.new (F:=None) n2).cell (Box.of_newA n1).cell0 id
 have b1:=n1.at_size
 have b2:=n2.at_size
 have T:p1.block≠f.block:=Oh<|World.block_lt_of_cell? L p1 (Box.of_newA n1).cell0
 have R:=World.block_lt_of_cell? g a h.box.cell0
 have D:=Box.of_newA n2
 have h2:=h.pure q
 refine⟨some a,u,?_⟩
 have G:∀d,(Box d f [.int .u8 ((xK bs r).1:Int)] 5/\RdS S d a s bs (xK bs r).2/\Ext (·=a.block) g d)->∃K:Int,d.cell? f=some (.int .u8 K)/\zV d f/\∀c:World,c=d.setCell f (.int .u8 K)->∃z:Int,c.cell? f=some (.int .u8 z)/\(z=((xK bs r).1:Int)/\RdS S c a s bs (xK bs r).2/\Ext (·=a.block) g c):=by
  rintro d ⟨hB,y,m⟩;refine⟨_,hB.cell0,hB.canW0 Sm,?_⟩;rintro c rfl;have v:Ext (·=f.block) d (d.setCell f<|.int .u8 ((xK bs r).1:Int)):=Ext.setCell _ _;exact⟨_,(jGP hB).cell0,rfl,y.ext v (fun b C e=>Oi (hS b C) l.size) fun e=>Oh l.size,m.trans' v fun i hi e=>Oh l.size⟩
 by_cases w:r.err=0
 refine(jSZ a 295 _ r.at_ A (fun d=>Box d f [.int .u8 ((xK bs r).1:Int)] 5/\RdS S d a s bs (xK bs r).2/\Ext (·=a.block) g d) h2.atC (by have:=h2.errC;rw[w]at this;exact this) call295 ?_).mono ?_
 intro d p O k U Q I t
 have h3:=h2.pure k
 refine(w_A3 p1 f d (fun o c=>(o=none/\(Box c f [.int .u8 ((xK bs r).1:Int)] 5/\RdS S c a s bs (xK bs r).2/\Ext (·=a.block) g c))\/(∃x,o=some (zDM x)/\c.cell? p=some (vp<|some a)/\c.cell? O=some (vi r.at_)/\zV c (a.add 1)/\zV c (a.add 2)/\zV c (a.add 3) /\
  (Box (((c.setCell (a.add 1)<|vi r.at_).setCell (a.add 2)<|vi x).setCell (a.add 3)<|vi r.at_) f [.int .u8 ((xK bs r).1:Int)] 5/\RdS S (((c.setCell (a.add 1)<|vi r.at_).setCell (a.add 2)<|vi x).setCell (a.add 3)<|vi r.at_) a s bs (xK bs r).2/\Ext (·=a.block) g (((c.setCell (a.add 1)<|vi r.at_).setCell (a.add 2)<|vi x).setCell (a.add 3)<|vi r.at_)))) ?_).mono ?_
 refine⟨some a,k.cell u id,?_⟩
 refine(zFQ a s bs r.at_ r.err r.spot d h3 H).mono ?_
 rintro e c (⟨J,rfl,y,m⟩|⟨E,rfl,y,m⟩)
 refine .inl ⟨_,rfl,?_⟩
 have n:Box c f [.int .u8 0] 5:=(D.pure k).ext m fun e=>Oh l.size
 refine⟨n.canW0 Sm,?_⟩
 rintro V rfl
 have v:Ext (·=f.block) c (c.setCell f<|.int .u8 (bs[r.at_].toNat:Int)):=Ext.setCell _ _
 have j:xK bs r=(bs[r.at_].toNat,⟨r.at_+1,0,r.spot⟩):=by simp[xK,w,J]
 rw[j]
 refine .inl ⟨rfl,jGP n,?_,((Ext.pure<|q.trans k).trans m).trans' v fun i hi e=>Oh l.size⟩
 have:=y.ext v (fun b C e=>Oi (hS b C) l.size) fun e=>Oh l.size
 rw[w]at this
 exact this
 refine .inr ⟨_,rfl,.inr ⟨3,rfl,?_⟩⟩
 have j:xK bs r=(0,⟨r.at_,3,r.at_⟩):=by simp[xK,w,E]
 have n:Box c f [.int .u8 0] 5:=(D.pure k).ext m fun e=>Oh l.size
 have⟨N,M,P,B⟩:=y.gives r.at_ 3
 rw[j]
 exact⟨m.cell I fun e=>Oh q.size,m.cell t fun e=>Oh q.size,N,M,P,n.ext jDA fun e=>Oh l.size,B,((Ext.pure<|q.trans k).trans m).trans jDA⟩
 rintro e c (⟨rfl,h⟩|⟨W,rfl,h⟩)
 grind
 rcases h with⟨h,_⟩|⟨x,h1,h⟩
 cases h
 cases h1;exact .inr ⟨x,rfl,h⟩
 grind
 refine(jGN a _ r.err A h2.errC Om).mono ?_
 rintro e d ⟨rfl,k⟩
 have j:xK bs r=(0,r):=by simp[xK,w]
 refine⟨rfl,G d ?_⟩
 rw[j]
 exact⟨D.pure k,h2.pure k,Ext.pure<|q.trans k⟩
end Go.Proofs
end
section
open Go Go.SE
namespace Go.Proofs
open Tryz
attribute [local irreducible] Calls CallsD
def c_Text{S:NP}(a:Addr)(s:Sl)(bs:List UInt8)(c:Nat)(r:Rd)(g:World)(h:RdS S g a s bs r)(hat:r.at_<=bs.length)(hS:∀b,S b->b<g.heap.size)(hm:c<=1000000000):
  cl 260 #[vp<|some a,vi (c:Int)] g<|XP fun x w'=>x=⟨(qF bs c r).1.toArray⟩/\RdS S w' a s bs (qF bs c r).2/\Ext (·=a.block) g w':=by
 refine w_U6 (some a) c g _ ?_
 intro p1 w1 n1 pm I nm j R n2
 have E1:Pure g w1:=Ext.new n1
 have Y:Pure g I:=E1.trans<|Ext.new nm
 have N:Pure g R:=Y.trans<|Ext.new n2
 have D:I.cell? p1=some (vp<|some a):=(Ext.new (F:=None) nm).cell (Box.of_newA n1).cell0 id
 have E:R.cell? p1=some (vp<|some a):=(Ext.new (F:=None) n2).cell D id
 have Q:R.cell? pm=some (vi (c:Int)):=(Ext.new (F:=None) n2).cell (Box.of_newA nm).cell0 id
 have b1:=n1.at_size
 have bm:=nm.at_size
 have b2:=n2.at_size
 have b12:p1.block≠j.block:=by have:=World.block_lt_of_cell? I p1 D;omega
 have ha0:=World.block_lt_of_cell? g a h.box.cell0
 have B2:=Box.of_newA n2
 have h2:=h.pure N
 have g1:g.heap.size<=j.block:=by have:=Y.size;omega
 have g2:g.heap.size<=p1.block:=by omega
 have g3:g.heap.size<=pm.block:=by have:=E1.size;omega
 refine⟨some a,E,?_⟩
 have fin:∀f,(Box f j [vs ⟨(qF bs c r).1.toArray⟩] 9/\RdS S f a s bs (qF bs c r).2/\Ext (·=a.block) g f)->∃v2:ByteArray,f.cell? j=some (vs v2)/\zV f j/\∀d:World,d=f.setCell j (vs v2)->∃W:ByteArray,d.cell? j=some (vs W)/\(W=⟨(qF bs c r).1.toArray⟩/\RdS S d a s bs (qF bs c r).2/\Ext (·=a.block) g d):=by
  rintro f ⟨hB,C,l⟩;refine⟨_,hB.cell0,hB.canW0<|by simp,?_⟩;rintro d rfl;have M:Ext (·=j.block) f (f.setCell j<|vs ⟨(qF bs c r).1.toArray⟩):=Ext.setCell _ _;exact⟨_,(jGP hB).cell0,rfl,C.ext M (by grind) fun e=>by omega,l.trans' M fun i hi e=>by omega⟩
 by_cases G:r.err=0
 refine(jSZ a 293 _ r.at_ R (fun f=>Box f j [vs ⟨(qF bs c r).1.toArray⟩] 9/\RdS S f a s bs (qF bs c r).2/\Ext (·=a.block) g f) h2.atC (by have:=h2.errC;rw[G]at this;exact this) call293 ?_).mono ?_
 intro f p pf q hp hpf hpc O
 have h3:=h2.pure q
 refine(w_Q p1 pm j f (fun o d=>(o=none/\(Box d j [vs ⟨(qF bs c r).1.toArray⟩] 9/\RdS S d a s bs (qF bs c r).2/\Ext (·=a.block) g d))\/(∃x,o=some (zDM x)/\d.cell? p=some (vp<|some a)/\d.cell? pf=some (vi r.at_)/\zV d (a.add 1)/\zV d (a.add 2)/\zV d (a.add 3) /\
  (Box (((d.setCell (a.add 1)<|vi r.at_).setCell (a.add 2)<|vi x).setCell (a.add 3)<|vi r.at_) j [vs ⟨(qF bs c r).1.toArray⟩] 9/\RdS S (((d.setCell (a.add 1)<|vi r.at_).setCell (a.add 2)<|vi x).setCell (a.add 3)<|vi r.at_) a s bs (qF bs c r).2/\Ext (·=a.block) g (((d.setCell (a.add 1)<|vi r.at_).setCell (a.add 2)<|vi x).setCell (a.add 3)<|vi r.at_)))) ?_).mono ?_
 refine⟨some a,q.cell E id,?_⟩
 refine(c_num a s bs r.at_ r.err r.spot f h3 hat).mono ?_
 have t:∀(x:Nat) (w:Int) (d:World),qF bs c r=([],⟨r.at_,x,r.at_⟩)->RdAt S d a s bs w r.err r.spot->Ext (·=a.block) f d->(∃y,some (zDM x)=some (zDM y)/\d.cell? p=some (vp<|some a)/\d.cell? pf=some (vi r.at_)/\zV d (a.add 1)/\zV d (a.add 2)/\zV d (a.add 3) /\
  (Box (((d.setCell (a.add 1)<|vi r.at_).setCell (a.add 2)<|vi y).setCell (a.add 3)<|vi r.at_) j [vs ⟨(qF bs c r).1.toArray⟩] 9/\RdS S (((d.setCell (a.add 1)<|vi r.at_).setCell (a.add 2)<|vi y).setCell (a.add 3)<|vi r.at_) a s bs (qF bs c r).2/\Ext (·=a.block) g (((d.setCell (a.add 1)<|vi r.at_).setCell (a.add 2)<|vi y).setCell (a.add 3)<|vi r.at_))):=by
  intro x w d v C l
  have hB4:Box d j [vs ⟨#[]⟩] 9:=(B2.pure q).ext l (fun e=>by omega)
  have⟨c1,c2,c3,hR'⟩:=C.gives r.at_ x
  rw[v]
  exact⟨x,rfl,l.cell hpc fun e=>by have:=N.size;omega,l.cell O fun e=>by have:=N.size;omega,c1,c2,c3,hB4.ext jDA fun e=>by omega,hR',((Ext.pure<|N.trans q).trans l).trans jDA⟩
 rintro e d (⟨n,k,V,rfl,hlt,hle,C,l⟩|⟨x,w,V,rfl,C,l⟩)
 refine .inl ⟨_,rfl,l.kept fun b B=>B.elim,_,l.cell (q.cell Q id) fun e=>by omega,fun B=>?_,fun _=>⟨_,l.cell (q.cell Q id) fun e=>by omega,?_⟩⟩
 grind
 rw[vX<|by omega]
 refine⟨fun B=>?_,fun B=>?_⟩
 have m:c<n:=by have:=of_decide_eq_true B;omega
 exact .inr<|t 1 _ d (by simp[qF,G,V,m]) C l
 have m:¬c<n:=by have:=of_decide_eq_false B;omega
 intro w5 hs5
 have E5:=hs5.ext
 have A:=C.pure E5
 have L:w5.cell? p1=some (vp<|some a):=E5.cell (l.cell (q.cell E id) fun e=>by omega) id
 have hl:s.len=bs.length:=by rw[h.lst.len,vW]
 have hsm:=h.small
 have H:Ext (·=a.block) f w5:=l.thenPure E5
 refine⟨_,L,a,rfl,s,A.box.cell0,_,L,a,rfl,_,A.atC,?_⟩
 have hw1:IntKind.u64.wrap (IntKind.i64.wrap<|(s.len:Int)-((r.at_+k:Nat):Int))=((bs.length-(r.at_+k):Nat):Int):=by
  rw[hl,IntWalk.i64_in _<|by omega,show((bs.length:Int)-((r.at_+k:Nat):Int))=((bs.length-(r.at_+k):Nat):Int) by omega,vX<|by omega]
 rw[hw1]
 refine⟨fun K=>?_,fun K=>?_⟩
 have hg:bs.length<r.at_+k+n:=by have:=of_decide_eq_true K;omega
 exact .inr<|t 3 _ w5 (by simp[qF,G,V,m,hg]) A H
 have hg:¬bs.length<r.at_+k+n:=by have:=of_decide_eq_false K;omega
 have v:qF bs c r=((bs.drop<|r.at_+k).take n,⟨r.at_+k+n,0,r.spot⟩):=by simp[qF,G,V,m,hg]
 refine⟨fun _=>True,trivial,?_⟩
 intro T hw6
 have E6:Pure w5 T:=by rw[hw6];exact Ext.drew _
 have u:=A.pure E6
 have z:=E6.cell L id
 have U:IntKind.i64.wrap (n:Int)=(n:Int):=IntWalk.i64_in _ (by omega)
 have Z:IntKind.i64.wrap (((r.at_+k:Nat):Int)+(n:Int))=((r.at_+k+n:Nat):Int):=by rw[IntWalk.i64_in _<|by omega];simp
 have⟨s1,hr1,hL1⟩:=u.lst.sub (k:=.i64) (lo:=r.at_+k) (n:=n) jEY h.room (by rw[vW];omega)
 have P:Box T j [vs ⟨#[]⟩] 9:=((B2.pure q).ext H fun e=>by omega).pure E6
 have hL2:Lst S T 1 s1 (byr<|(bs.drop<|r.at_+k).take n):=by
  have e:(List.drop (r.at_+k)<|byr bs).take n=byr ((bs.drop<|r.at_+k).take n):=by simp[byr,List.map_take,List.map_drop]
  rw[<-e];exact hL1
 refine⟨_,z,a,rfl,s,u.box.cell0,_,z,a,rfl,_,u.atC,_,z,a,rfl,_,u.atC,s1,by rw[U,Z];exact hr1,_,jJA underlying59 underlying5 underlying9 hL2,P.canW0<|by simp,id,?_⟩
 rintro w7 rfl
 have M:Ext (·=j.block) T (T.setCell j<|vs ⟨((bs.drop<|r.at_+k).take n).toArray⟩):=Ext.setCell _ _
 have J:=u.ext M (fun b B e=>by have:=hS b B;omega) (fun e=>by omega)
 refine⟨_,M.cell z fun e=>b12 e,a,rfl,_,J.atC,a,rfl,J.box.canW (i:=1)<|by simp,id,?_⟩
 rintro w8 rfl
 rw[U,Z,v]
 have X:=J.setAt ((r.at_+k+n:Nat):Int)
 rw[G]at X
 exact .inl ⟨rfl,(jGP P).ext qQ fun e=>by omega,X,((((Ext.pure<|N.trans q).trans H).thenPure E6).trans' M fun i hi e=>by omega).trans qQ⟩
 exact .inr ⟨_,rfl,.inr<|t x w d (by simp[qF,G,V]) C l⟩
 rintro e d (⟨rfl,h⟩|⟨ch,rfl,h⟩)
 grind
 rcases h with⟨h,_⟩|⟨x,h1,h⟩
 cases h
 cases h1;exact .inr ⟨x,rfl,h⟩
 grind
 refine(jGN a _ r.err R h2.errC<|by omega).mono ?_
 rintro e f ⟨rfl,q⟩
 have v:qF bs c r=([],r):=by simp[qF,G]
 refine⟨rfl,fin f ?_⟩
 rw[v]
 exact⟨B2.pure q,h2.pure q,Ext.pure<|N.trans q⟩
end Go.Proofs
end
section
open Go Go.SE List
namespace Go.Proofs
open Tryz
attribute [local irreducible] Calls CallsD
def zCC{w e sz s rs}(h:Rws w e sz s rs):s.len<=s.cap:=by
 rcases h.own with⟨rfl,_⟩|⟨g,cur,_,_,a,_⟩;exact Nat.le_refl _;rw[h.len];exact a
def c_cNew{S}(s bs w0)(hs:Lst S w0 1 s (byr bs))(i:s.a=none->s=Sl.nil)(g:bs.length<=100000000000):
  cl 182 #[s.v] w0<|XD fun x w'=>∃a s',x=some a/\RdS s'.blk w' a s' bs ⟨0,0,0⟩/\Pure w0 w'/\w0.heap.size<=a.block/\(∀b,s'.blk b->w0.heap.size<=b/\b<w'.heap.size):=by
 refine w_D6 _ w0 _ ?_
 refine(jRA s bs w0 hs i g).mono ?_
 rintro _ j ⟨r1,rfl,c⟩
 refine⟨r1,rfl,fun h k n2=>⟨h,r1,rfl,?_,c.pure.trans<|Ext.new n2,by rw[n2.at_size];exact c.pure.size,fun b d=>⟨c.own b d,?_⟩⟩⟩
 have f:∀b,r1.blk b->b<j.heap.size:=fun b d=>c.rows.lt d
 exact⟨Box.of_newA n2,(c.rows.pure<|Ext.new n2).lst,fun b d e=>Oi (f b d) n2.at_size,g,zCC c.rows⟩
 exact(c.rows.pure<|Ext.new n2).lt d
def c_Left{S}(a s bs r w0)(h:RdS S w0 a s bs r)(b:r.at_<=bs.length):
  cl 183 #[vp<|some a] w0<|XB fun x w'=>x=((bs.length-r.at_:Nat):Int)/\Pure w0 w':=by
 refine w_E6 (some a) w0 _ ?_
 refine⟨fun d=>(by cases d),fun _=>⟨a,rfl,fun e hs=>?_⟩⟩
 have h1:=h.pure hs.first
 have c:s.len=bs.length:=by rw[h.lst.len,vW]
 refine⟨s,h1.box.cell0,a,rfl,_,h1.atC,?_,hs.first⟩
 rw[c,IntWalk.i64_in _<|Oh h.small];omega
def c_At{S}(a s bs r w0)(h:RdS S w0 a s bs r):
  cl 184 #[vp<|some a] w0<|XB fun x w'=>x=(r.at_:Int)/\w'=w0:=by
 refine w_F6 (some a) w0 _ ?_
 exact⟨fun b=>(by cases b),fun _=>⟨a,rfl,_,h.atC,rfl,rfl⟩⟩
def c_Why{S}(a s bs r w0)(h:RdS S w0 a s bs r):
  cl 273 #[vp<|some a] w0<|XH fun x y w'=>x=(r.err:Int)/\y=(r.spot:Int)/\Pure w0 w':=by
 refine w_H6 (some a) w0 _ ?_
 refine⟨fun b=>(by cases b),fun _=>⟨a,rfl,fun c hs=>?_⟩⟩
 have h1:=h.pure hs.first
 exact⟨_,h1.errC,a,rfl,_,h1.box.cell (i:=3) rfl,rfl,rfl,hs.first⟩
def RetO.after{w w1 w2 e sz rs s}(E:Pure w w1)(h:RetO w1 e sz rs s w2):RetO w e sz rs s w2:=
 ⟨h.rows,fun b a=>Nat.le_trans E.size<|h.own b a,E.trans h.pure⟩
section
variable {S:NP} (s:Sl) (bs:List UInt8) (k f t x a b:Int) (y:ByteArray) (m:Option Nat) (w0:World) (hs:Lst S w0 1 s (byr bs)) (hz:s.a=none->s=Sl.nil) (hn:bs.length<=10000000000)
include hs hz hn
def zAP(n:Nat)(e:f=n)(i:n<9223372036854775808):
  cl 249 #[s.v,.agg #[vi k,vi f,vi t,vu x,vs y,vi a,vi b],.map m] w0<|XA fun r w'=>RetO w0 5 1 (byr<|bs++vC n) r w':=by
 subst e
 refine w_L6 s k n t x y a b m w0 _ ?_
 intro j g c
 rw[vX Om]
 refine(jDC s bs n g (hs.pure c.first) hz hn Om).mono ?_
 rintro _ h ⟨r,rfl,d⟩
 exact⟨r,rfl,d.kept,d.after c.first⟩
def zHP(n:Nat)(ht:t=n)(h:n<9223372036854775808):
  cl 253 #[s.v,.agg #[vi k,vi f,vi t,vu x,vs y,vi a,vi b],.map m] w0<|XA fun r w'=>RetO w0 5 1 (byr<|bs++vC n) r w':=by
 subst ht
 refine w_O6 s k f n x y a b m w0 _ ?_
 intro i e c
 rw[vX Om]
 refine(jDC s bs n e (hs.pure c.first) hz hn Om).mono ?_
 rintro _ g ⟨r,rfl,d⟩
 exact⟨r,rfl,d.kept,d.after c.first⟩
def zAO(n:Nat)(g:x=n)(i:n<18446744073709551616):
  cl 255 #[s.v,.agg #[vi k,vi f,vi t,vu x,vs y,vi a,vi b],.map m] w0<|XA fun r w'=>RetO w0 5 1 (byr<|bs++vC n) r w':=by
 subst g
 refine w_Q6 s k f t n y a b m w0 _ ?_
 intro j e c
 refine(jDC s bs n e (hs.pure c.first) hz hn Om).mono ?_
 rintro _ h ⟨r,rfl,d⟩
 exact⟨r,rfl,d.kept,d.after c.first⟩
def jXD(e:y.size<=10000000000):
  cl 257 #[s.v,.agg #[vi k,vi f,vi t,vu x,vs y,vi a,vi b],.map m] w0<|XA fun r w'=>RetO w0 5 1 (byr<|bs++vP y) r w':=by
 refine w_T6 s k f t x y a b m w0 _ ?_
 intro i g c
 refine(zAN s bs y g (hs.pure c.first) hz hn e).mono ?_
 rintro _ h ⟨r,rfl,d⟩
 exact⟨r,rfl,d.kept,d.after c.first⟩
def c_putA(d:Nat)(M:List (Int×Int))(n:Nat)(h:IMap (fun i:Int=>vi i) w0 d M)(e:SE.look M a=some (n:Int))(m:n<9223372036854775808):
  cl 261 #[s.v,.agg #[vi k,vi f,vi t,vu x,vs y,vi a,vi b],.map<|some d] w0<|XA fun r w'=>RetO w0 5 1 (byr<|bs++vC n) r w':=by
 refine w_W6 s k f t x y a b (some d) w0 _ ?_
 intro p j c
 rcases(h.pure c.first).get (P:=prog) (T:=231) underlying231 underlying73 (zeroValue3 _) a false with⟨h1,_⟩|⟨v,h1,l⟩
 .rw[e]at h1;cases h1
 rw[e]at h1;cases h1
 refine⟨_,l,?_⟩
 rw[vX Om]
 refine(jDC s bs n j (hs.pure c.first) hz hn Om).mono ?_
 rintro _ o ⟨r,rfl,g⟩
 exact⟨r,rfl,g.kept,g.after c.first⟩
def c_putB(d:Nat)(M:List (Int×Int))(n:Nat)(h:IMap (fun i:Int=>vi i) w0 d M)(e:SE.look M b=some (n:Int))(m:n<9223372036854775808):
  cl 263 #[s.v,.agg #[vi k,vi f,vi t,vu x,vs y,vi a,vi b],.map<|some d] w0<|XA fun r w'=>RetO w0 5 1 (byr<|bs++vC n) r w':=by
 refine w_Y6 s k f t x y a b (some d) w0 _ ?_
 intro p j c
 rcases(h.pure c.first).get (P:=prog) (T:=231) underlying231 underlying73 (zeroValue3 _) b false with⟨h1,_⟩|⟨v,h1,l⟩
 .rw[e]at h1;cases h1
 rw[e]at h1;cases h1
 refine⟨_,l,?_⟩
 rw[vX Om]
 refine(jDC s bs n j (hs.pure c.first) hz hn Om).mono ?_
 rintro _ o ⟨r,rfl,g⟩
 exact⟨r,rfl,g.kept,g.after c.first⟩
end
section
variable {S:NP} (a q:Addr) (s:Sl) (bs:List UInt8) (r:Rd) (cells:List Value) (w0:World) (h:RdS S w0 a s bs r) (hat:r.at_<=bs.length) (hS:∀b,S b->b<w0.heap.size) (hq:Box w0 q cells 314) (hl:cells.length=12) (haq:a.block≠q.block) (hSq:∀b,S b->b≠q.block)
include h hat hS hq hl haq hSq
def zAU:cl 251 #[vp<|some a,vp<|some q] w0 (fun e w'=>e=.returned (.tuple #[])/\RdS S w' a s bs (vU bs r).2/\Box w' q (cells.set 7<|vu ((vU bs r).1:Int)) 314/\Ext (fun b=>b=a.block\/b=q.block) w0 w'):=by
 refine w_N6 (some a) (some q) w0 (fun w'=>RdS S w' a s bs (vU bs r).2/\Box w' q (cells.set 7<|vu ((vU bs r).1:Int)) 314/\Ext (fun b=>b=a.block\/b=q.block) w0 w') ?_;refine(jRB a s bs r w0 h hat hS).mono ?_;rintro e d ⟨x,rfl,rfl,k,g⟩;have c:=hq.ext g fun e=>haq e.symm;refine⟨_,rfl,q,rfl,c.canW (i:=7) Om,?_⟩;rintro l rfl;have f:Ext (·=q.block) d (d.setCell (q.add 7)<|vu ((vU bs r).1:Int)):=qQ;exact⟨k.ext f (fun b j e=>hSq b j e) haq,c.set 7 _,(g.mono fun _ _ e=>.inl e).trans<|f.mono fun _ _ e=>.inr e⟩
def zHS:cl 254 #[vp<|some a,vp<|some q] w0 (fun e w'=>e=.returned (.tuple #[])/\RdS S w' a s bs (vU bs r).2/\Box w' q (cells.set 8<|vu ((vU bs r).1:Int)) 314/\Ext (fun b=>b=a.block\/b=q.block) w0 w'):=by
 refine w_P6 (some a) (some q) w0 (fun w'=>RdS S w' a s bs (vU bs r).2/\Box w' q (cells.set 8<|vu ((vU bs r).1:Int)) 314/\Ext (fun b=>b=a.block\/b=q.block) w0 w') ?_;refine(jRB a s bs r w0 h hat hS).mono ?_;rintro e d ⟨x,rfl,rfl,k,g⟩;have c:=hq.ext g fun e=>haq e.symm;refine⟨_,rfl,q,rfl,c.canW (i:=8) Om,?_⟩;rintro l rfl;have f:Ext (·=q.block) d (d.setCell (q.add 8)<|vu ((vU bs r).1:Int)):=qQ;exact⟨k.ext f (fun b j e=>hSq b j e) haq,c.set 8 _,(g.mono fun _ _ e=>.inl e).trans<|f.mono fun _ _ e=>.inr e⟩
def zEL:cl 256 #[vp<|some a,vp<|some q] w0 (fun e w'=>e=.returned (.tuple #[])/\RdS S w' a s bs (vU bs r).2/\Box w' q (cells.set 3<|vu ((vU bs r).1:Int)) 314/\Ext (fun b=>b=a.block\/b=q.block) w0 w'):=by
 refine w_R6 (some a) (some q) w0 (fun w'=>RdS S w' a s bs (vU bs r).2/\Box w' q (cells.set 3<|vu ((vU bs r).1:Int)) 314/\Ext (fun b=>b=a.block\/b=q.block) w0 w') ?_;refine(jRB a s bs r w0 h hat hS).mono ?_;rintro e d ⟨x,rfl,rfl,k,g⟩;have c:=hq.ext g fun e=>haq e.symm;refine⟨_,rfl,q,rfl,c.canW (i:=3) Om,?_⟩;rintro l rfl;have f:Ext (·=q.block) d (d.setCell (q.add 3)<|vu ((vU bs r).1:Int)):=qQ;exact⟨k.ext f (fun b j e=>hSq b j e) haq,c.set 3 _,(g.mono fun _ _ e=>.inl e).trans<|f.mono fun _ _ e=>.inr e⟩
def zAT:cl 259 #[vp<|some a,vp<|some q] w0 (fun e w'=>e=.returned (.tuple #[])/\RdS S w' a s bs (qF bs 64 r).2/\Box w' q (cells.set 4<|vs ⟨(qF bs 64 r).1.toArray⟩) 314/\Ext (fun b=>b=a.block\/b=q.block) w0 w'):=by
 refine w_V6 (some a) (some q) w0 (fun w'=>RdS S w' a s bs (qF bs 64 r).2/\Box w' q (cells.set 4<|vs ⟨(qF bs 64 r).1.toArray⟩) 314/\Ext (fun b=>b=a.block\/b=q.block) w0 w') ?_;refine(c_Text a s bs 64 r w0 h hat hS Om).mono ?_;rintro e d ⟨x,rfl,rfl,k,g⟩;have c:=hq.ext g fun e=>haq e.symm;refine⟨_,rfl,q,rfl,c.canW (i:=4) Om,?_⟩;rintro l rfl;have f:Ext (·=q.block) d (d.setCell (q.add 4)<|vs ⟨(qF bs 64 r).1.toArray⟩):=qQ;exact⟨k.ext f (fun b j e=>hSq b j e) haq,c.set 4 _,(g.mono fun _ _ e=>.inl e).trans<|f.mono fun _ _ e=>.inr e⟩
def c_getA:cl 262 #[vp<|some a,vp<|some q] w0 (fun e w'=>e=.returned (.tuple #[])/\RdS S w' a s bs (vU bs r).2/\Box w' q ((cells.set 9<|vu ((vU bs r).1:Int)).set 11<|vi 1) 314/\Ext (fun b=>b=a.block\/b=q.block) w0 w'):=by
 refine w_X6 (some a) (some q) w0 (fun w'=>RdS S w' a s bs (vU bs r).2/\Box w' q ((cells.set 9<|vu ((vU bs r).1:Int)).set 11<|vi 1) 314/\Ext (fun b=>b=a.block\/b=q.block) w0 w') ?_;refine(jRB a s bs r w0 h hat hS).mono ?_;rintro e f ⟨x,rfl,rfl,l,j⟩;have c:=hq.ext j fun e=>haq e.symm;refine⟨_,rfl,q,rfl,c.canW (i:=9) Om,?_⟩;rintro m rfl;have g:Ext (·=q.block) f ((f.setCell (q.add 9)<|vu ((vU bs r).1:Int)).setCell (q.add 11)<|vi 1):=qQ.trans qQ;have d:=c.set 9<|vu ((vU bs r).1:Int);refine⟨q,rfl,d.canW (i:=11) Gd,?_⟩;rintro n rfl;exact⟨l.ext g (fun b k e=>hSq b k e) haq,d.set 11 _,(j.mono fun _ _ e=>.inl e).trans<|g.mono fun _ _ e=>.inr e⟩
def c_getB:cl 264 #[vp<|some a,vp<|some q] w0 (fun e w'=>e=.returned (.tuple #[])/\RdS S w' a s bs (vU bs r).2/\Box w' q ((cells.set 10<|vu ((vU bs r).1:Int)).set 11<|vi 2) 314/\Ext (fun b=>b=a.block\/b=q.block) w0 w'):=by
 refine w_Z6 (some a) (some q) w0 (fun w'=>RdS S w' a s bs (vU bs r).2/\Box w' q ((cells.set 10<|vu ((vU bs r).1:Int)).set 11<|vi 2) 314/\Ext (fun b=>b=a.block\/b=q.block) w0 w') ?_;refine(jRB a s bs r w0 h hat hS).mono ?_;rintro e f ⟨x,rfl,rfl,l,j⟩;have c:=hq.ext j fun e=>haq e.symm;refine⟨_,rfl,q,rfl,c.canW (i:=10) Om,?_⟩;rintro m rfl;have g:Ext (·=q.block) f ((f.setCell (q.add 10)<|vu ((vU bs r).1:Int)).setCell (q.add 11)<|vi 2):=qQ.trans qQ;have d:=c.set 10<|vu ((vU bs r).1:Int);refine⟨q,rfl,d.canW (i:=11) Gd,?_⟩;rintro n rfl;exact⟨l.ext g (fun b k e=>hSq b k e) haq,d.set 11 _,(j.mono fun _ _ e=>.inl e).trans<|g.mono fun _ _ e=>.inr e⟩
end
end Go.Proofs
end
section
open Go.SE
namespace Go.Proofs
def updq(V:Int->Bool)(t:Int)(b:Bool):Int->Bool:=fun x=>if x=t then b else V x
def yT(L:Pool):Nat->Int->(Int->Bool)×List Int->(Int->Bool)×List Int
 |0,_,st=>st
 | n + 1, t, st => if inP L t = true /\ st.1 t = false then
   let c:=yT L n (nodeOf L t).b<|yT L n (nodeOf L t).a (updq st.1 t true,st.2)
   (c.1,c.2++[t])
  else st
def subs(L:Pool)(t:Int):List Int:=(yT L (t.toNat+1) t (fun _=>false,[])).2
def Sub.head{L t y}(h:Sub L t y):y=t\/∃k∈zB (nodeOf L t),Sub L k y:=by
 induction h with
 |refl=>exact .inl rfl
 |kid _ a b =>
  rcases b with rfl|⟨k,h1,h2⟩
  exact .inr ⟨_,a,.refl _⟩
  exact .inr ⟨k,h1,h2.kid a⟩
def Sub.le{L}(c:Wf L){t y}(ht:inP L t=true)(h:Sub L t y):inP L y=true/\y<=t:=by
 induction h with
 |refl=>exact⟨ht,Int.le_refl _⟩
 |kid _ a b =>
  have:=(c.node b.1).2.2.2.2.1 _ a
  exact⟨this.1,Om⟩
def zFI{n k}(h:k∈zB n):k=n.a\/k=n.b:=by
 unfold zB at h;have:=List.mem_of_mem_take h;simpa using this
def jPE{L}(c:Wf L){t k}(ht:inP L t=true)(h:k=(nodeOf L t).a\/k=(nodeOf L t).b)(d:inP L k=true):k∈zB (nodeOf L t):=by
 have h1:=(c.node ht).2.1;have h2:=(c.node ht).2.2.1;have f:k≠0:=Oh<|(zI.1 d).1;unfold zB;rcases qX (nodeOf L t).kind with e|e|e;grind;have b0:=h2 Om;rcases h with h|h;rw[e,h];simp;grind;rw[e];rcases h with h|h<;>simp[h]
structure OvOk(L:Pool)(st:(Int->Bool)×List Int):Prop where
 marked:∀x∈st.2,st.1 x=true
 closed:∀x∈st.2,∀y,Sub L x y->y∈st.2
 nd:st.2.Nodup
 inp:∀x∈st.2,inP L x=true
structure OvRes(L:Pool)(t:Int)(st a:(Int->Bool)×List Int):Prop extends OvOk L a where
 app:∃M,a.2=st.2++M/\∀x∈M,Sub L t x/\inP L t=true
 keep:∀x,st.1 x=true->a.1 x=true
 back:∀x,a.1 x=true->st.1 x=true\/x∈a.2
 all:inP L t=true->∀y,Sub L t y->y∈a.2
def jAC{L}(m:Wf L):∀(n:Nat) (t:Int) (st:(Int->Bool)×List Int),t.toNat<n->OvOk L st->(∀x,st.1 x=true->x<=t->x∈st.2)->OvRes L t st (yT L n t st):=by
 intro n;induction n with
 |zero=>intro t st h;omega
 |succ n C =>
  intro t st I hst hm
  rw[yT]
  by_cases s:inP L t=true/\st.1 t=false
  rw[if_pos s]
  have⟨d,u⟩:=s
  have H:=(zI.1 d).1
  have f:=(m.node d).2.2.2.2.1
  have g:∀k,k=(nodeOf L t).a\/k=(nodeOf L t).b->k<t:=by
   intro k i;cases E:inP L k with
   |true=>exact(f k<|jPE m d i E).2
   |false =>
    have h1:=(m.node d).2.1
    have h2:=(m.node d).2.2.1
    rcases qX (nodeOf L t).kind with e|e|e
    grind
    have b0:=h2 Om
    rcases i with i|i
    have:=(f k (by unfold zB;rw[e,i];simp)).2;exact this
    omega
    exact(f k (by unfold zB;rw[e];rcases i with i|i<;>simp[i])).2
  have o1:OvOk L (updq st.1 t true,st.2):=⟨fun x c=>by simp only[updq];split<;>simp[hst.marked x c],hst.closed,hst.nd,hst.inp⟩
  have r1:=C (nodeOf L t).a (updq st.1 t true,st.2) (Oh<|g _<|.inl rfl) o1 (fun x c w=>by
   have:=g _<|.inl rfl;simp only[updq]at c;rw[if_neg Om]at c;exact hm x c Om)
  generalize yT L n (nodeOf L t).a (updq st.1 t true,st.2)=s1 at *
  have r2:=C (nodeOf L t).b s1 (Oh<|g _<|.inr rfl) r1.toOvOk (fun x c w=>by
   have:=g _<|.inr rfl;rcases r1.back x c with h|h;simp only[updq]at h;rw[if_neg Om]at h;have:=hm x h Om;have⟨M,e,_⟩:=r1.app;simp only at e;rw[e];exact List.mem_append_left _ this;exact h)
  generalize yT L n (nodeOf L t).b s1=v at *
  have⟨F,q,D⟩:=r1.app
  have⟨G,r,B⟩:=r2.app
  simp only at q
  have A:v.1 t=true:=r2.keep t<|r1.keep t (by simp[updq])
  have z:t∉v.2:=by
   rw[r,q];intro h;rcases List.mem_append.1 h with h|h;rcases List.mem_append.1 h with h|h;have:=hst.marked t h;rw[u]at this;cases this;have⟨h1,h2⟩:=D t h;have:=(h1.le m h2).2;have:=g _<|.inl rfl;omega;have⟨h1,h2⟩:=B t h;have:=(h1.le m h2).2;have:=g _<|.inr rfl;omega
  have l:∀y,Sub L t y->y∈v.2++[t]:=by
   intro y j;rcases j.head with rfl|⟨k,i,hs⟩;simp;refine List.mem_append_left _ ?_;have o:=(f k i).1;rcases zFI i with rfl|rfl;rw[r];exact List.mem_append_left _<|r1.all o y hs;exact r2.all o y hs
  refine⟨⟨fun x c=>?_,fun x c y j=>?_,?_,fun x c=>?_⟩,⟨F++G++[t],by simp[r,q],fun x c=>?_⟩,fun x c=>?_,fun x c=>?_,fun _=>l⟩
  simp only[List.mem_append,List.mem_singleton]at c
  rcases c with c|rfl
  exact r2.marked x c
  exact A
  simp only[List.mem_append,List.mem_singleton]at c
  rcases c with c|rfl
  exact List.mem_append_left _<|r2.closed x c y j
  exact l y j
  rw[List.nodup_append]
  exact⟨r2.nd,Sm,fun x c y j e=>by simp at j;subst j;exact z<|e▸c⟩
  simp only[List.mem_append,List.mem_singleton]at c
  rcases c with c|rfl
  exact r2.inp x c
  exact d
  refine⟨?_,d⟩
  simp only[List.mem_append,List.mem_singleton]at c
  rcases c with(c|c)|rfl
  have⟨h1,h2⟩:=D x c
  exact(Sub.kid (.refl t)<|jPE m d (.inl rfl) h2).trans h1
  have⟨h1,h2⟩:=B x c
  exact(Sub.kid (.refl t)<|jPE m d (.inr rfl) h2).trans h1
  exact .refl _
  exact r2.keep x<|r1.keep x (by simp only[updq];split<;>simp[c])
  rcases r2.back x c with h|h
  rcases r1.back x h with p|p
  simp only[updq]at p
  split at p
  grind
  exact .inl p
  grind
  grind
  rw[if_neg s]
  refine⟨hst,⟨[],Sm,Sm⟩,fun x h=>h,fun x h=>.inl h,fun d y j=>?_⟩
  have u:st.1 t=true:=Gd
  exact hst.closed t (hm t u<|Int.le_refl _) y j
def jCS{L}(a:Wf L){t x}:x∈subs L t↔inP L t=true/\Sub L t x:=by
 have r:=jAC a (t.toNat+1) t (fun _=>false,[]) Om ⟨Sm,Sm,Sm,Sm⟩ Sm;constructor;intro h;have⟨M,e,hm⟩:=r.app;unfold subs at h;rw[e]at h;simp only[List.nil_append]at h;exact⟨(hm x h).2,(hm x h).1⟩;intro h;exact r.all h.1 x h.2
def uH{L}(a:Wf L)(t):(subs L t).length<=L.length:=by
 have r:=jAC a (t.toNat+1) t (fun _=>false,[]) (by omega) ⟨by simp,by simp,by simp,by simp⟩ (by simp);exact xV r.nd r.inp
end Go.Proofs
end
section
namespace Go.Proofs
def Ord(L:Pool)(l:List Int):Prop:=∀pre z a,l=pre++z ::a->∀k∈zB (nodeOf L z),k∈pre
def Ord.snoc{L l t}(h:Ord L l)(ht:∀k∈zB (nodeOf L t),k∈l):Ord L (l++[t]):=by
 intro pre z b e k c;rcases List.eq_nil_or_concat b with rfl|⟨a,y,rfl⟩;have:=List.append_inj' e rfl;obtain⟨rfl,d⟩:=this;simp only[List.cons.injEq,and_true]at d;subst d;exact ht k c;have f:l++[t]=(pre++z ::a)++[y]:=by rw[e];simp
 have:=List.append_inj' f rfl;exact h pre z a this.1 k c
def zCS{L}(j:Wf L):∀(n:Nat) (t:Int) (st:(Int->Bool)×List Int),t.toNat<n->OvOk L st->(∀x,st.1 x=true->x<=t->x∈st.2)->Ord L st.2->Ord L (yT L n t st).2:=by
 intro n;induction n with
 |zero=>intro t st h;omega
 |succ n q =>
  intro t st y hst hm r
  rw[yT]
  by_cases m:inP L t=true/\st.1 t=false
  rw[if_pos m]
  have⟨f,z⟩:=m
  have w:=(zI.1 f).1
  have c:=(j.node f).2.2.2.2.1
  have g:∀k,k=(nodeOf L t).a\/k=(nodeOf L t).b->k<t:=by
   intro k d;cases v:inP L k with
   |true=>exact(c k<|jPE j f d v).2
   |false =>
    have h1:=(j.node f).2.1
    have h2:=(j.node f).2.2.1
    rcases qX (nodeOf L t).kind with e|e|e
    grind
    have b0:=h2 Om
    rcases d with d|d
    have:=(c k (by unfold zB;rw[e,d];simp)).2;exact this
    omega
    exact(c k (by unfold zB;rw[e];rcases d with d|d<;>simp[d])).2
  have o1:OvOk L (updq st.1 t true,st.2):=⟨fun x i=>by simp only[updq];split<;>simp[hst.marked x i],hst.closed,hst.nd,hst.inp⟩
  have s:∀x,(updq st.1 t true,st.2).1 x=true->x<=(nodeOf L t).a->x∈(updq st.1 t true,st.2).2:=fun x i o=>by
   have:=g _<|.inl rfl;simp only[updq]at i;rw[if_neg Om]at i;exact hm x i Om
  have n1:(nodeOf L t).a.toNat<n:=Oh<|g _<|.inl rfl
  have n2:(nodeOf L t).b.toNat<n:=Oh<|g _<|.inr rfl
  have r1:=jAC j n (nodeOf L t).a (updq st.1 t true,st.2) n1 o1 s
  have d1:=q (nodeOf L t).a (updq st.1 t true,st.2) n1 o1 s r
  generalize yT L n (nodeOf L t).a (updq st.1 t true,st.2)=s1 at *
  have p:∀x,s1.1 x=true->x<=(nodeOf L t).b->x∈s1.2:=fun x i o=>by
   have:=g _<|.inr rfl;rcases r1.back x i with h|h;simp only[updq]at h;rw[if_neg Om]at h;have:=hm x h Om;have⟨M,e,_⟩:=r1.app;simp only at e;rw[e];exact List.mem_append_left _ this;exact h
  have r2:=jAC j n (nodeOf L t).b s1 n2 r1.toOvOk p
  have d2:=q (nodeOf L t).b s1 n2 r1.toOvOk p d1
  generalize yT L n (nodeOf L t).b s1=A at *
  have⟨B,u,_⟩:=r2.app
  refine d2.snoc fun k d=>?_
  have l:=(c k d).1
  rcases zFI d with rfl|rfl
  rw[u];exact List.mem_append_left _<|r1.all l _<|.refl _
  exact r2.all l _<|.refl _
  rw[if_neg m];exact r
def jMN{L}(b:Wf L)(t):Ord L (subs L t):=
 zCS b (t.toNat+1) t (fun _=>false,[]) Om ⟨Sm,Sm,Sm,Sm⟩ Sm (fun pre z a e=>by simp at e)
def jAG{L}(a:Wf L)(t):(subs L t).Nodup:=
 (jAC a (t.toNat+1) t (fun _=>false,[]) Om ⟨Sm,Sm,Sm,Sm⟩ Sm).nd
inductive Fld|from_|to_|num|text|fst|snd
deriving DecidableEq
def qL(k:Int):List Fld:=
 if k=1 then[.from_]else if k=2 then[.num]else if k=3 then[.text]else if k=4 then[.fst,.snd]else if k=5 then[.fst]else if k=6 then[.from_]else if k=7 then[.from_,.fst]else if k=8 then[.from_,.to_,.fst]else if k=9 then[.from_,.to_,.fst]else[]
def Fld.bytes(n:Node)(b a:Nat):Fld->List UInt8
 |.from_=>vC n.frm.toNat|.to_=>vC n.to.toNat|.num=>vC n.num.toNat|.text=>vP n.text|.fst=>vC b|.snd=>vC a
def posOf(seen:List Int)(t:Int):Nat:=seen.idxOf t
def yB(L:Pool)(seen:List Int)(t:Int):List UInt8:=
 UInt8.ofNat (nodeOf L t).kind.toNat ::(qL (nodeOf L t).kind).flatMap (Fld.bytes (nodeOf L t) (posOf seen (nodeOf L t).a)<|posOf seen (nodeOf L t).b)
def textFrom(L:Pool):List Int->List Int->List UInt8
 |_,[]=>[]
 |seen,t :: l=>yB L seen t++textFrom L (seen++[t]) l
def jBA(L l t):∀seen,textFrom L seen (l++[t])=textFrom L seen l++yB L (seen++l) t:=by
 induction l with
 |nil=>intro seen;simp[textFrom]
 |cons x l a=>intro seen;simp only[List.cons_append,textFrom];rw[a];simp
def vI(L:Pool)(t:Int):List UInt8:=textFrom L []<|subs L t
def jJQ{l l' u}(h:u∈l):posOf (l++l') u=posOf l u:=by unfold posOf;rw[List.idxOf_append,if_pos h]
def jFD{l z}(h:z∉l):posOf (l++[z]) z=l.length:=by unfold posOf;rw[List.idxOf_append,if_neg h];simp
def jHX{l t}(ht:t∈l):posOf l t<l.length:=List.idxOf_lt_length_of_mem ht
def jAN(L:Pool)(t:Int):List UInt8×Int:=if inP L t then(if(vI L t).length>4096 then([],1)else(vI L t,0))else([],51)
end Go.Proofs
end
section
open Go Go.SE List
namespace Go.Proofs
open Tryz
attribute [local irreducible] Calls CallsD
def Fld.put:Fld->FuncId
 |.from_=>249|.to_=>253|.num=>255|.text=>257|.fst=>261|.snd=>263
def Fld.get:Fld->FuncId
 |.from_=>251|.to_=>254|.num=>256|.text=>259|.fst=>262|.snd=>264
def Fld.row(f:Fld):List Value:=[.func (.func f.put) #[] #[],.func (.func f.get) #[] #[]]
structure PartsAt(a w:World)(m:Nat)(c:List (Addr×Fld))(M:List (Int×Sl)):Prop where
 box:∀b∈c,Box w b.1 b.2.row 255/\b.1.block≠m
 map:IMap Sl.v w m M
 lst:∀p∈M,Lst (fun b=>a.heap.size<=b/\b≠m) w 2 p.2<|(qL p.1).map Fld.row
 pure:Pure a w
 own:a.heap.size<=m
def PartsAt.step{z w t:World}{m:Nat}{A:List (Addr×Fld)}{M:List (Int×Sl)}(h:PartsAt z w m A M){cs:Array Value}{p:Addr}(n1:New w (.cells cs 255) p t)(k:Int)(n:Nat)(C:(qL k).length=n)(hcs:cs.toList=((qL k).map Fld.row).flatten)(E:SE.look M k=none):
  ∃g,(Instr.mapUpdate 249 (.map<|some m) (vi k) (Sl.mk (some p) n n).v).run prog t=.ok () g/\PartsAt z g m A (M++[(k,Sl.mk (some p) n n)]):=by
 have s:Pure w t:=Ext.new n1
 have⟨g,hr,B,o⟩:=(h.map.pure s).put (P:=prog) (T:=249) underlying249 underlying3 E<|Sl.mk (some p) n n
 have G:=Box.of_newA n1
 have c:=n1.at_size
 have hm:=h.map.lt
 refine⟨g,hr,⟨fun b c=>⟨((h.box b c).1.pure s).ext o (h.box b c).2,(h.box b c).2⟩,B,?_,(h.pure.trans s).trans' o fun i hi e=>Oh h.own,h.own⟩⟩
 intro q d
 rcases mem_append.1 d with d|d
 exact((h.lst q d).pure s).ext o fun b c=>c.2
 simp only[mem_singleton]at d
 subst d
 refine⟨by simp[C],fun i hi=>?_⟩
 have F:i<(qL k).length:=by simpa using hi
 refine⟨p.add<|i*2,⟨Om,So,p,rfl,Sm⟩,?_,?_⟩
 rw[zG];exact⟨Oh h.pure.size,Om⟩
 have l:Row g p cs.toList:=o.row (G.row) Om
 intro j y
 rw[yP]
 have a:∀r∈(qL k).map Fld.row,r.length=2:=by intro r hr;obtain⟨f,_,rfl⟩:=mem_map.1 hr;rfl
 have x:j<2:=by rw[a _<|getElem_mem hi]at y;exact y
 have D:=jEB a hi x
 have u:i*2+j<cs.toList.length:=by rw[hcs,vZ a,length_map];omega
 rw[l _ u,hcs,D]
structure BxsAt(c w:World)(a:List (Addr×Fld)):Prop where
 box:∀b∈a,Box w b.1 b.2.row 255
 pure:Pure c w
def BxsAt.step{l w d:World}{g:List (Addr×Fld)}(h:BxsAt l w g){p:Addr}(n1:New w (.cells #[.nilFunc,.nilFunc] 255) p d)(f:Fld){A:WP}(k:∀w',BxsAt l w' (g++[(p,f)])->A w'):(∀j,j<2->zV d (p.add j))/\∀w',w'=storeRow d p f.row->A w':=by
 have i:Pure w d:=Ext.new n1;refine bx 2 (Box.of_newA n1) rfl rfl fun m b E=>k m ⟨fun c a=>?_,h.pure.own (p:=p) (by rw[n1.at_size];exact h.pure.size) ((Ext.pure i).trans E)⟩;rcases mem_append.1 a with a|a;have hB:=h.box c a;exact(hB.pure i).ext E fun e=>Oi (World.block_lt_of_cell? w c.1 hB.cell0) n1.at_size;grind
def PartsAt.get{w0 w m}{a:List (Addr×Fld)}{M:List (Int×Sl)}(h:PartsAt w0 w m a M){p f}(b:(p,f)∈a):Row w p [.func (.func f.put) #[] #[],.func (.func f.get) #[] #[]]:=(h.box _ b).1.row
def zHQ(a:World):cl 164 #[] a (fun e w'=>∃x:Option Nat,e=.returned (.map x)/\∃m M,x=some m/\(∃l,PartsAt a w' m l M)/\M.map Prod.fst=[1,2,3,4,5,6,7,8,9]):=by
 refine w_A6 a (fun x w'=>∃m M,x=some m/\(∃l,PartsAt a w' m l M)/\M.map Prod.fst=[1,2,3,4,5,6,7,8,9]) ?_;unfold m_A6;have F:BxsAt a a []:=⟨fun b g=>(by cases g),Ext.refl _⟩;intro p1 v1 n1;refine F.step n1 .from_ fun u1 h1=>?_;intro p2 v2 n2;refine h1.step n2 .to_ fun u2 h2=>?_;intro p3 v3 n3;refine h2.step n3 .num fun u3 h3=>?_;intro p4 v4 n4;refine h3.step n4 .text fun u4 D=>?_;intro p5 v5 n5;refine D.step n5 .fst fun u5 W=>?_;intro p6 v6 n6;refine W.step n6 .snd fun N i=>?_;intro o K c;have n:PartsAt a K o.block _ []:=⟨fun b g=>⟨(i.box b g).pure<|Ext.new c,fun e=>Oi (World.block_lt_of_cell? N b.1 (i.box b g).cell0) c.at_size⟩,IMap.of_new c,fun p y=>(by cases y),i.pure.trans<|Ext.new c,by rw[c.at_size];exact i.pure.size⟩;refine⟨_,_,n.get (f:=.from_) Sm,?_⟩;intro q1 x1 T;have⟨B,r1,s⟩:=n.step T 1 1 rfl rfl (by simp[SE.look]);refine⟨B,r1,?_⟩;refine⟨_,_,s.get (f:=.num) Sm,?_⟩;intro q2 x2 J;have⟨z2,r2,q⟩:=s.step J 2 1 rfl rfl (by simp[SE.look]);refine⟨z2,r2,?_⟩;refine⟨_,_,q.get (f:=.text) Sm,?_⟩;intro q3 x3 G;have⟨v,r3,k⟩:=q.step G 3 1 rfl rfl (by simp[SE.look]);refine⟨v,r3,?_⟩;refine⟨_,_,k.get (f:=.fst) Sm,?_⟩;refine⟨_,_,k.get (f:=.snd) Sm,?_⟩;intro q4 x4 z;have⟨A,E,r⟩:=k.step z 4 2 rfl rfl (by simp[SE.look]);refine⟨A,E,?_⟩;refine⟨_,_,r.get (f:=.fst) Sm,?_⟩;intro q5 x5 Y;have⟨S,H,t⟩:=r.step Y 5 1 rfl rfl (by simp[SE.look]);refine⟨S,H,?_⟩;refine⟨_,_,t.get (f:=.from_) Sm,?_⟩;intro q6 x6 w;have⟨u,Q,j⟩:=t.step w 6 1 rfl rfl (by simp[SE.look]);refine⟨u,Q,?_⟩;refine⟨_,_,j.get (f:=.from_) Sm,?_⟩;refine⟨_,_,j.get (f:=.fst) Sm,?_⟩;intro q7 x7 Z;have⟨C,V,d⟩:=j.step Z 7 2 rfl rfl (by simp[SE.look]);refine⟨C,V,?_⟩;refine⟨_,_,d.get (f:=.from_) Sm,?_⟩;refine⟨_,_,d.get (f:=.to_) Sm,?_⟩;refine⟨_,_,d.get (f:=.fst) Sm,?_⟩;intro q8 x8 L;have⟨U,X,h⟩:=d.step L 8 3 rfl rfl (by simp[SE.look]);refine⟨U,X,?_⟩;refine⟨_,_,h.get (f:=.from_) Sm,?_⟩;refine⟨_,_,h.get (f:=.to_) Sm,?_⟩;refine⟨_,_,h.get (f:=.fst) Sm,?_⟩;intro q9 x9 R;have⟨O,P,I⟩:=h.step R 9 3 rfl rfl (by simp[SE.look]);refine⟨O,P,?_⟩;exact⟨o.block,_,rfl,⟨_,I⟩,rfl⟩
end Go.Proofs
end
section
namespace Go.Proofs
def Fld.rd(bs:List UInt8)(r:Rd):Fld->Rd
 |.text=>(qF bs 64 r).2
 |_=>(vU bs r).2
structure Raw where
 num:Nat
 text:List UInt8
 frm:Nat
 to:Nat
 a:Nat
 b:Nat
 kids:Nat
def qZ:Raw:=⟨0,[],0,0,0,0,0⟩
def Fld.raw(bs:List UInt8)(r:Rd)(x:Raw):Fld->Raw
 |.from_=>{ x with frm:=(vU bs r).1 }
 |.to_=>{ x with to:=(vU bs r).1 }
 |.num=>{ x with num:=(vU bs r).1 }
 |.text=>{ x with text:=(qF bs 64 r).1 }
 |.fst=>{ x with a:=(vU bs r).1,kids:=1 }
 |.snd=>{ x with b:=(vU bs r).1,kids:=2 }
def vA(bs:List UInt8):List Fld->Raw×Rd->Raw×Rd
 |[],s=>s
 |f :: l,(x,r)=>vA bs l (f.raw bs r x,f.rd bs r)
def nodeErr(k n:Nat)(x:Raw)(e:Nat):Nat:=
 if e≠0 then e
 else if 16<=x.frm\/16<=x.to\/((k=8\/k=9)/\x.frm=x.to)then 50
 else if(0<x.kids/\n<=x.a)\/(1<x.kids/\n<=x.b)then 71
 else 0
def Raw.node(k:Nat)(x:Raw):Node:=⟨k,x.frm,x.to,x.num,⟨x.text.toArray⟩,if 0<x.kids then(x.a:Int)+1 else 0,if 1<x.kids then(x.b:Int)+1 else 0⟩
def uC(k:Nat):Bool:=decide (1<=k)&&decide (k<=9)
def jDW(L:Pool)(k:Nat)(s:Raw×Rd):Pool×Int×Rd:=
 if nodeErr k L.length s.1 s.2.err≠0 then(L,((nodeErr k L.length s.1 s.2.err:Nat):Int),s.2)
 else if(find L<|s.1.node k).isSome=true then(L,72,s.2)
 else((make L<|s.1.node k).2.2,(make L<|s.1.node k).2.1,s.2)
def vN(bs:List UInt8)(L:Pool)(r:Rd):Pool×Int×Rd:=
 if uC (xK bs r).1=true then jDW L (xK bs r).1 (vA bs (qL (xK bs r).1) (qZ,(xK bs r).2))
 else(L,70,(xK bs r).2)
def inRow:Nat->List Int->Nat
 |i,[]=>i
 |i,s :: l=>if s=(i:Int)+1 then inRow (i+1) l else i
def jDX(L:Pool)(a:List Nat):Option Pool×Int×Nat:=
 let i:=inRow 0<|subs L L.length
 if h:i<a.length then(none,73,a[i])else(some L,0,0)
def jLJ(bs:List UInt8):Nat->Pool->Rd->List Nat->Option Pool×Int×Nat
 |0,L,_,a=>jDX L a
 |n+1,L,r,a =>
  if r.at_<bs.length then
   if(vN bs L r).2.1≠0 then(none,(vN bs L r).2.1,r.at_)
   else jLJ bs n (vN bs L r).1 (vN bs L r).2.2 (a++[r.at_])
  else jDX L a
def zW(bs:List UInt8):Option Pool×Int×Nat:=
 if 4096<bs.length then(none,1,0)else if bs.length=0 then(none,3,0)else jLJ bs bs.length [] ⟨0,0,0⟩ []
def zS(Lq:Pool):List Int->Pool->(Int->Int)->Pool×Int×(Int->Int)
 |[],L,own=>(L,0,own)
 |s :: l,L,own =>
  let m:=make L { nodeOf Lq s with a:=own (nodeOf Lq s).a,b:=own (nodeOf Lq s).b }
  if m.2.1≠0 then(L,m.2.1,own)else zS Lq l m.2.2 fun x=>if x=s then m.1 else own x
def vD(L Lq:Pool)(t:Int):Int×Int×Pool:=
 if inP Lq t=true then
  let c:=zS Lq (subs Lq t) L fun _=>0
  if c.2.1≠0 then(0,c.2.1,L)else(c.2.2 t,0,c.1)
 else(0,51,L)
def qY(L:Pool)(bs:List UInt8):Int×Int×Nat×Pool:=
 match(zW bs).1 with
 |none=>(0,(zW bs).2.1,(zW bs).2.2,L)
 |some q=>((vD L q q.length).1,(vD L q q.length).2.1,0,(vD L q q.length).2.2)
def jMV(bs r)(h:r.at_<=bs.length):r.at_<=(vU bs r).2.at_/\(vU bs r).2.at_<=bs.length:=by
 have key:∀(l:List UInt8) (i n:Nat) (m k:Nat),xR i n l=.ok (m,k)->k<=i+l.length/\i<k:=by
  intro l;induction l with
  |nil=>intro i n m k h;simp[xR]at h
  |cons c l a =>
   intro i n m k h
   rw[xQ]at h
   split at h
   cases h
   grind
 unfold vU;split;grind;exact⟨Nat.le_refl _,h⟩
def jTX(bs m r)(h:r.at_<=bs.length):r.at_<=(qF bs m r).2.at_/\(qF bs m r).2.at_<=bs.length:=by
 have a:=jMV bs r h;unfold vU at a;unfold qF;split;grind;exact⟨Nat.le_refl _,h⟩
def Fld.rd_at(bs:List UInt8)(r:Rd)(f:Fld)(h:r.at_<=bs.length):r.at_<=(f.rd bs r).at_/\(f.rd bs r).at_<=bs.length:=by
 cases f<;>first|exact jTX bs 64 r h|exact jMV bs r h
def jOQ(bs:List UInt8):∀(l:List Fld) (x:Raw) (r:Rd),r.at_<=bs.length->r.at_<=(vA bs l (x,r)).2.at_/\(vA bs l (x,r)).2.at_<=bs.length:=by
 intro l;induction l with
 |nil=>intro x r h;exact⟨Nat.le_refl _,h⟩
 |cons f l a =>
  intro x r h
  have h1:=f.rd_at bs r h
  have h2:=a (f.raw bs r x) (f.rd bs r) h1.2
  rw[vA];omega
def jTY(bs r)(h:r.at_<bs.length)(a:r.err=0):xK bs r=(bs[r.at_].toNat,⟨r.at_+1,0,r.spot⟩):=by
 unfold xK;rw[if_pos a,dif_pos h]
def jAI(bs L r)(h:r.at_<bs.length)(a:r.err=0):vN bs L r =
  (if uC bs[r.at_].toNat=true then jDW L bs[r.at_].toNat (vA bs (qL bs[r.at_].toNat) (qZ,⟨r.at_+1,0,r.spot⟩))else(L,70,⟨r.at_+1,0,r.spot⟩)):=by
 unfold vN
 rw[jTY bs r h a]
def jJM{L k}{s:Raw×Rd}(h:(jDW L k s).2.1=0):s.2.err=0/\nodeErr k L.length s.1 s.2.err=0/\find L (s.1.node k)=none/\(make L<|s.1.node k).2.1=0/\jDW L k s=((make L<|s.1.node k).2.2,0,s.2):=by
 unfold jDW at *;split at h;grind;rename_i h1;rw[if_neg h1];have h1:nodeErr k L.length s.1 s.2.err=0:=Om;have a:s.2.err=0:=by
  by_cases h2:s.2.err=0;exact h2;exfalso;unfold nodeErr at h1;rw[if_pos h2]at h1;exact h2 h1
 split at h;simp at h;rename_i h3;rw[if_neg h3];simp only at h;exact⟨a,h1,by simpa using h3,h,by rw[h]⟩
def jJK(bs L r)(h:r.at_<bs.length)(e:r.err=0)(a:(vN bs L r).2.1=0):r.at_<(vN bs L r).2.2.at_/\(vN bs L r).2.2.at_<=bs.length/\(vN bs L r).2.2.err=0:=by
 have b:=jOQ bs (qL bs[r.at_].toNat) qZ ⟨r.at_+1,0,r.spot⟩ Sy;simp only at b;rw[jAI bs L r h e]at *;split at a;rename_i c;rw[if_pos c];have⟨h1,_,_,_,d⟩:=jJM a;rw[d];exact⟨Sy,b.2,h1⟩;simp at a
def jHV{bs L r ps}(h:¬r.at_<bs.length):∀n,jLJ bs n L r ps=jDX L ps:=by
 intro n;cases n with
 |zero=>rfl
 |succ n=>rw[jLJ,if_neg h]
end Go.Proofs
end
section
open Go Go.SE List
namespace Go.Proofs
open Tryz
attribute [local irreducible] Calls CallsD
def c_put{S:NP}(f:Fld)(s:Sl)(bs:List UInt8)(n:Node)(j h g:Nat)(M:List (Int×Int))(c:World)(hs:Lst S c 1 s (byr bs))(d:s.a=none->s=Sl.nil)(e:bs.length<=10000000000)(h1:0<=n.frm/\n.frm<9223372036854775808)(h2:0<=n.to/\n.to<9223372036854775808)(h3:0<=n.num/\n.num<18446744073709551616)(o:n.text.size<=10000000000)(k:IMap (fun i:Int=>vi i) c g M)(m:f=.fst->SE.look M n.a=some (j:Int)/\j<9223372036854775808)(l:f=.snd->SE.look M n.b=some (h:Int)/\h<9223372036854775808):
  Calls prog f.put #[s.v,.agg #[vi n.kind,vi n.frm,vi n.to,vu n.num,vs n.text,vi n.a,vi n.b],.map<|some g] c<|XA fun r w'=>RetO c 5 1 (byr<|bs++f.bytes n j h) r w':=by
 cases f
 exact zAP s bs _ _ _ _ _ _ _ _ c hs d e n.frm.toNat Om Om
 exact zHP s bs _ _ _ _ _ _ _ _ c hs d e n.to.toNat Om Om
 exact zAO s bs _ _ _ _ _ _ _ _ c hs d e n.num.toNat Om Om
 exact jXD s bs _ _ _ _ _ _ _ _ c hs d e o
 exact c_putA s bs _ _ _ _ _ _ _ c hs d e g M j k (m rfl).1 (m rfl).2
 exact c_putB s bs _ _ _ _ _ _ _ c hs d e g M h k (l rfl).1 (l rfl).2
def Fld.upd(bs:List UInt8)(r:Rd)(cells:List Value):Fld->List Value
 |.from_=>cells.set 7<|vu ((vU bs r).1:Int)
 |.to_=>cells.set 8<|vu ((vU bs r).1:Int)
 |.num=>cells.set 3<|vu ((vU bs r).1:Int)
 |.text=>cells.set 4<|vs ⟨(qF bs 64 r).1.toArray⟩
 |.fst=>(cells.set 9<|vu ((vU bs r).1:Int)).set 11<|vi 1
 |.snd=>(cells.set 10<|vu ((vU bs r).1:Int)).set 11<|vi 2
def c_get{S:NP}(f:Fld)(a q:Addr)(s:Sl)(bs:List UInt8)(r:Rd)(cells:List Value)(i:World)(h:RdS S i a s bs r)(c:r.at_<=bs.length)(hS:∀b,S b->b<i.heap.size)(k:Box i q cells 314)(j:cells.length=12)(d:a.block≠q.block)(g:∀b,S b->b≠q.block):
  Calls prog f.get #[vp<|some a,vp<|some q] i<|fun e w'=>e=.returned (.tuple #[])/\RdS S w' a s bs (f.rd bs r)/\Box w' q (f.upd bs r cells) 314/\Ext (fun b=>b=a.block\/b=q.block) i w':=by
 cases f
 exact zAU a q s bs r cells i h c hS k j d g
 exact zHS a q s bs r cells i h c hS k j d g
 exact zEL a q s bs r cells i h c hS k j d g
 exact zAT a q s bs r cells i h c hS k j d g
 exact c_getA a q s bs r cells i h c hS k j d g
 exact c_getB a q s bs r cells i h c hS k j d g
structure Kinds(w:World)(m:Nat)(F:NP):Prop where
 ex:∃M:List (Int×Sl),IMap Sl.v w m M/\(∀p∈M,Lst F w 2 p.2<|(qL p.1).map Fld.row)/\M.map Prod.fst=[1,2,3,4,5,6,7,8,9]
 lt:∀b,F b->b<w.heap.size
 ne:∀b,F b->b≠m
def Kinds.ext{w w' m F G}(h:Kinds w m F)(E:Ext G w w')(c:∀b,F b\/b=m->¬G b):Kinds w' m F:=by
 have⟨M,h1,h2,h3⟩:=h.ex;exact⟨⟨M,h1.ext E<|c m<|.inr rfl,fun p d=>(h2 p d).ext E fun b a=>c b<|.inl a,h3⟩,fun b a=>Nat.lt_of_lt_of_le (h.lt b a) E.size,h.ne⟩
def Kinds.pure{w w' m F}(h:Kinds w m F)(E:Pure w w'):Kinds w' m F:=h.ext E fun _ _ h=>h
def Kinds.mlt{w m F}(h:Kinds w m F):m<w.heap.size:=by have⟨M,h1,_⟩:=h.ex;exact h1.lt
def lst_lt{S w s rs sz}(h:Lst S w sz s rs)(hr:∀r∈rs,0<r.length):Lst (fun b=>S b/\b<w.heap.size) w sz s rs:=
 ⟨h.len,fun i hi=>let ⟨a,h1,h2,h3⟩:=h.at_ i hi;⟨a,h1,⟨h2,by
  have c:=hr _<|getElem_mem hi;have:=h3 0 c;rw[getElem?_eq_getElem c]at this;have:=World.block_lt_of_cell? w (a.add 0) this;rwa [zG]at this⟩,h3⟩⟩
def zAS(w0):cl 164 #[] w0 (fun e w'=>∃x:Option Nat,e=.returned (.map x)/\∃m F,x=some m/\Kinds w' m F/\Pure w0 w'/\w0.heap.size<=m/\∀b,F b->w0.heap.size<=b):=by
 refine(zHQ w0).mono ?_;rintro _ w' ⟨x,rfl,m,M,rfl,⟨g,h⟩,d⟩;refine⟨_,rfl,m,fun b=>(w0.heap.size<=b/\b≠m)/\b<w'.heap.size,rfl,⟨⟨M,h.map,fun p c=>lst_lt (h.lst p c) fun r hr=>by obtain⟨f,_,rfl⟩:=mem_map.1 hr;simp[Fld.row],d⟩,fun b a=>a.2,fun b a=>a.1.2⟩,h.pure,h.own,fun b a=>a.1.1⟩
def Kinds.get{w:World}{m:Nat}{F:NP}(h:Kinds w m F)(k:Int)(h1:1<=k)(e:k<=9)(ok:Bool):
  ∃s:Sl,(Instr.lookup 249 (.map<|some m) (vi k) ok).run prog w=.ok (if ok then .tuple #[s.v,vb true]else s.v) w/\Lst F w 2 s ((qL k).map Fld.row):=by
 have⟨M,b,d,a⟩:=h.ex
 rcases b.get (P:=prog) (T:=249) underlying249 underlying3 (zeroValue251 _) k ok with⟨c,_⟩|⟨s,hs,hr⟩
 have:=uS.1 c
 rw[a]at this
 simp at this;omega
 exact⟨s,hr,d _<|tB hs⟩
def Kinds.none{w:World}{m:Nat}{F:NP}(h:Kinds w m F)(k:Int)(c:¬(1<=k/\k<=9)):(Instr.lookup 249 (.map<|some m) (vi k) true).run prog w=.ok (.tuple #[Sl.nil.v,vb false]) w:=by
 have⟨M,b,d,a⟩:=h.ex;rcases b.get (P:=prog) (T:=249) underlying249 underlying3 (zeroValue251 _) k true with⟨_,hr⟩|⟨s,hs,_⟩;exact hr;have:k∈M.map Prod.fst:=mem_map.2 ⟨_,tB hs,rfl⟩;rw[a]at this;simp at this;omega
def uW:Nat->List Int->List (Int×Int)
 |_,[]=>[]
 |i,t :: l=>(t,(i:Int)) :: uW (i+1) l
def jOT(l t):∀i,uW i (l++[t])=uW i l++[(t,((i+l.length:Nat):Int))]:=by
 induction l with
 |nil=>intro i;simp[uW]
 |cons x l a=>intro i;simp only[cons_append,uW,a,length_cons];congr 3;simp;omega
def jOU(l):∀i,(uW i l).map Prod.fst=l:=by
 induction l with
 |nil=>intro i;rfl
 |cons x l a=>intro i;simp[uW,a]
def jSG(l):∀i,(uW i l).length=l.length:=by
 induction l with
 |nil=>intro i;rfl
 |cons x l a=>intro i;simp[uW,a]
def jHA(l t)(ht:t∈l):∀i,SE.look (uW i l) t=some ((i+posOf l t:Nat):Int):=by
 induction l with
 |nil=>cases ht
 |cons x l c =>
  intro i
  rw[uW,SE.look]
  by_cases e:x=t
  subst e;rw[if_pos rfl];simp[posOf]
  rw[if_neg e]
  have a:t∈l:=(mem_cons.1 ht).resolve_left fun h=>e h.symm
  rw[c a]
  have:posOf (x ::l) t=posOf l t+1:=by
   have b:(x==t)=false:=by simpa using e
   simp[posOf,idxOf_cons,b]
  rw[this];congr 2;omega
end Go.Proofs
end
section
open Go Go.SE List
namespace Go.Proofs
attribute [local irreducible] Calls
def xS(k):(k=1\/k=2\/k=3\/k=4\/k=5\/k=6\/k=7\/k=8\/k=9)\/(shapeOf k=noShape/\isKind k=false/\∀m:Int,1<=m->m<=9->(k==m)=false):=by
 by_cases h:k=1\/k=2\/k=3\/k=4\/k=5\/k=6\/k=7\/k=8\/k=9
 .exact .inl h
 .right;refine⟨?_,?_,fun m h1 h2=>?_⟩
  .unfold shapeOf;repeat rw[if_neg Om]
  .unfold isKind;apply Bool.eq_false_iff.2;intro h3;simp at h3;omega
  .grind
def qS(k):s_A k=(shapeOf k).kids:=by
 rcases xS k with h|⟨h,_,hm⟩;rcases h with rfl|rfl|rfl|rfl|rfl|rfl|rfl|rfl|rfl<;>decide;rw[h];unfold s_A;simp[hm,noShape]
def jJH(k):s_R k=(shapeOf k).frm:=by
 rcases xS k with h|⟨h,_,hm⟩;rcases h with rfl|rfl|rfl|rfl|rfl|rfl|rfl|rfl|rfl<;>decide;rw[h];unfold s_R;simp[hm,noShape]
def jOF(k):((k==8) ||(k==9))=(shapeOf k).to:=by
 rcases xS k with h|⟨h,_,hm⟩;rcases h with rfl|rfl|rfl|rfl|rfl|rfl|rfl|rfl|rfl<;>decide;rw[h];simp[hm,noShape]
def jYO(k):(k==2)=(shapeOf k).num:=by
 rcases xS k with h|⟨h,_,hm⟩;rcases h with rfl|rfl|rfl|rfl|rfl|rfl|rfl|rfl|rfl<;>decide;rw[h];simp[hm,noShape]
def jVN(k):(k==3)=(shapeOf k).text:=by
 rcases xS k with h|⟨h,_,hm⟩;rcases h with rfl|rfl|rfl|rfl|rfl|rfl|rfl|rfl|rfl<;>decide;rw[h];simp[hm,noShape]
def jVO(k):(!(decide (k<1) ||decide (k>9)))=isKind k:=by
 unfold isKind;by_cases h1:k<1<;>by_cases h2:k>9<;>simp[h1,h2]<;>omega
def ite53(q):decide ((if q=true then(53:Int)else 0)=0)=!q:=by cases q<;>rfl
def nodeErrq(n:Node):Int:=
 if zJ n≠0 then 53 else if(decide ((shapeOf n.kind).kids<1)&&n.a !=0) ||(decide ((shapeOf n.kind).kids<2)&&n.b !=0)then 53 else zM (shapeOf n.kind) n
def jRY(n):s_H2 n.kind n.frm n.to n.num n.text n.a n.b=(decide (zJ n=0)&&!((decide ((shapeOf n.kind).kids<1)&&n.a !=0) ||(decide ((shapeOf n.kind).kids<2)&&n.b !=0))):=by
 have⟨k,f,t,u,x,a,b⟩:=n;unfold s_H2 zJ;simp only[qS,jJH,jOF k,jYO k,jVN k,jVO];have r:=qX k;generalize shapeOf k=s at *;have⟨s1,l,m,o,c⟩:=s;generalize isKind k=i;have d:decide (c>=1)=!decide (c<1):=by by_cases h:c<1<;>simp[h]<;>omega
 have e:(c==2)=!decide (c<2):=Gd;simp only[d,e,bne,ite53];generalize (f==0)=j;generalize (t==0)=q;generalize (u==0)=p;generalize decide (x=⟨#[]⟩)=g;generalize (a==0)=z;generalize (b==0)=v;generalize decide (c<1)=w;generalize decide (c<2)=y;cases i<;>cases s1<;>cases l<;>cases m<;>cases o<;>cases j<;>cases q<;>cases p<;>cases g<;>simp
def jJG(n):s_A1 n.kind n.frm n.to n.num n.text n.a n.b=nodeErrq n:=by
 unfold s_A1 nodeErrq;rw[jRY,jJH,jOF];by_cases h1:zJ n=0;by_cases h2:((decide ((shapeOf n.kind).kids<1)&&n.a !=0) ||(decide ((shapeOf n.kind).kids<2)&&n.b !=0))=true;rw[h2];simp[h1];have h2:((decide ((shapeOf n.kind).kids<1)&&n.a !=0) ||(decide ((shapeOf n.kind).kids<2)&&n.b !=0))=false:=by simpa using h2
 rw[h2];simp only[h1,ne_eq,not_true_eq_false,if_false,Bool.false_eq_true,decide_true,Bool.not_false,Bool.and_true,Bool.not_true,cond_false];unfold zM uY;have e:(decide (n.frm>=0)&&decide (n.frm<16))=(decide (0<=n.frm)&&decide (n.frm<16)):=rfl;have f:(decide (n.to>=0)&&decide (n.to<16))=(decide (0<=n.to)&&decide (n.to<16)):=rfl;have g:(n.frm==n.to)=(n.to==n.frm):=by rw[Bool.eq_iff_iff];simp only[beq_iff_eq];exact eq_comm
 rw[e,f,g];have d:decide (((n.text.size:Int))>64)=decide (n.text.size>64):=decide_eq_decide.2 Om;rw[d];generalize ((shapeOf n.kind).frm&&!(decide (0<=n.frm)&&decide (n.frm<16)) ||(shapeOf n.kind).to&&(!(decide (0<=n.to)&&decide (n.to<16)) ||n.to==n.frm))=c;cases c;grind;rfl;simp[h1]
end Go.Proofs
end
section
open Go Go.SE List
namespace Go.Proofs
open Tryz
attribute [local irreducible] Calls
def jTN:SlType prog 41 119 7 64:=by
 refine⟨underlying41,⟨t119,_,Kf,(by kernel_rfl:t119.zero=some (.agg #[vi 0,vi 0,vi 0,vu 0,vs ⟨#[]⟩,vi 0,vi 0])),Kf,Kf,rfl⟩,Om⟩
def jDS:SlType prog 42 3 1 8:=by
 refine⟨underlying42,⟨t3,_,Kf,(by kernel_rfl:t3.zero=some (vi 0)),Kf,Kf,rfl⟩,Om⟩
def zCH(e:Ent):List Value:=oO e.node
def zGN(e:Ent):List Value:=[vi e.size]
def jYR(e:Ent):List Value:=[vi e.depth]
structure PoolRS(w:World)(p:Addr)(L:Pool)(s1 a c:Sl):Prop where
 box:Box w p [s1.v,a.v,c.v] 44
 r1:Rws w 119 7 s1 (L.map zCH)
 r2:Rws w 3 1 a (L.map zGN)
 r3:Rws w 3 1 c (L.map jYR)
 n1:¬s1.blk p.block
 n2:¬a.blk p.block
 n3:¬c.blk p.block
 d12:∀b,s1.blk b->¬a.blk b
 d13:∀b,s1.blk b->¬c.blk b
 d23:∀b,a.blk b->¬c.blk b
def vK(w:World)(p:Addr)(L:Pool)(F:NP):Prop:=∃s1 a c,PoolRS w p L s1 a c/\∀b,F b↔(b=p.block\/s1.blk b\/a.blk b\/c.blk b)
def vK.ext{G w w' p L F}(h:vK w p L F)(a:Ext G w w')(d:∀b,F b->¬G b):vK w' p L F:=by
 have⟨s1,f,g,h,c⟩:=h;exact⟨s1,f,g,⟨h.box.ext a<|d _<|(c _).2<|.inl rfl,h.r1.ext a fun b e=>d _<|(c _).2<|.inr<|.inl e,h.r2.ext a Gd,h.r3.ext a Gd,h.n1,h.n2,h.n3,h.d12,h.d13,h.d23⟩,c⟩
def vK.pure{w w' p L F}(h:vK w p L F)(a:Pure w w'):vK w' p L F:=h.ext a fun _ _ h=>h
def vK.lt{w p L F}(h:vK w p L F){b}(a:F b):b<w.heap.size:=by
 have⟨s1,d,e,h,c⟩:=h;rcases(c b).1 a with rfl|a|a|a;exact h.box.lt;exact h.r1.lt a;exact h.r2.lt a;exact h.r3.lt a
def jBI(w0):cl 44 #[] w0 (XD fun r w'=>∃p F,r=some p/\vK w' p [] F/\Pure w0 w'/\∀b,F b->w0.heap.size<=b):=by
 refine w_P5 w0 (fun r w'=>∃p F,r=some p/\vK w' p [] F/\Pure w0 w'/\∀b,F b->w0.heap.size<=b) ?_;unfold m_P5;have c:∀b,¬Sl.nil.blk b:=fun b d=>by have⟨a,h,_⟩:=d;cases h
 intro p f h1;have b1:=Box.of_new h1;have e:Pure w0 f:=Ext.new h1
 first
  |exact⟨p,(·=p.block),rfl,⟨Sl.nil,Sl.nil,Sl.nil,⟨b1,Rws.nil _ _ _,Rws.nil _ _ _,Rws.nil _ _ _,c _,c _,c _,fun b h=>(c b h).elim,fun b h=>(c b h).elim,fun b h=>(c b h).elim⟩,fun b=>by simp[c]⟩,e,fun b d=>by subst d;exact New.own (Ext.refl w0) h1⟩
  |skip
def yV(p t w0){L F}(c:vK w0 p L F):cl 112 #[vp<|some p,vi t] w0 (XC fun r w'=>r=inP L t/\w'=w0):=by
 refine w_N5 _ _ w0 (fun r w'=>r=inP L t/\w'=w0) ?_;unfold m_N5;have⟨s1,e,f,h,d⟩:=c;have b:s1.len=L.length:=by rw[h.r1.len];simp
 refine⟨fun a=>⟨p,rfl,s1,h.box.cell0,?_,rfl⟩,fun a=>⟨?_,rfl⟩⟩;have:=of_decide_eq_true a;rw[b];simp[inP,this];have:=of_decide_eq_false a;simp[inP];omega
def PoolRS.at1{w p L s1 s2 s3}(h:PoolRS w p L s1 s2 s3){t}(ht:inP L t=true)(b:Ok L):∃e,get L t=some e /\
  (∃a,At s1 (IntKind.i64.wrap<|t-1) 7 a/\Row w a (zCH e))/\(∃a,At s2 (IntKind.i64.wrap<|t-1) 1 a/\Row w a (zGN e))/\(∃a,At s3 (IntKind.i64.wrap<|t-1) 1 a/\Row w a (jYR e)):=by
 have⟨e,l,_,hi,c⟩:=jFL ht
 have i:=zI.1 ht
 have m:=b.few
 have k:IntKind.i64.wrap (t-1)=((t-1).toNat:Int):=by rw[i64 Om Om];omega
 have⟨a1,h1,d⟩:=h.r1.nth (j:=(t-1).toNat) hi
 have⟨a2,h2,g⟩:=h.r2.nth (j:=(t-1).toNat) hi
 have⟨a3,h3,f⟩:=h.r3.nth (j:=(t-1).toNat) hi
 rw[c]at d g f
 rw[k]
 exact⟨e,l,⟨a1,h1,d⟩,⟨a2,h2,g⟩,⟨a3,h3,f⟩⟩
def jCL(p t w0){L F}(d:vK w0 p L F)(b:Ok L):cl 113 #[vp<|some p,vi t] w0 (XB fun r w'=>r=sizeOf L t/\w'=w0):=by
 refine w_R5 _ _ w0 (fun r w'=>r=sizeOf L t/\w'=w0) ?_;refine(yV p t w0 d).mono ?_;rintro _ _ ⟨_,rfl,rfl,rfl⟩;refine⟨_,rfl,fun h=>⟨?_,rfl⟩,fun h=>?_⟩;have h:inP L t=false:=by simpa using h
 simp[sizeOf,yC h];have h:inP L t=true:=by simpa using h
 have⟨s1,f,j,hS,i⟩:=d;have⟨e,g,_,⟨a,c,hr⟩,_⟩:=hS.at1 h b;exact⟨p,rfl,f,hS.box.cell rfl,a,c,_,jBB hr,by simp[sizeOf,g],rfl⟩
def jFR(p t w0){L F}(d:vK w0 p L F)(b:Ok L):cl 121 #[vp<|some p,vi t] w0 (XB fun r w'=>r=depthOf L t/\w'=w0):=by
 refine w_S5 _ _ w0 (fun r w'=>r=depthOf L t/\w'=w0) ?_;refine(yV p t w0 d).mono ?_;rintro _ _ ⟨_,rfl,rfl,rfl⟩;refine⟨_,rfl,fun h=>⟨?_,rfl⟩,fun h=>?_⟩;have h:inP L t=false:=by simpa using h
 simp[depthOf,yC h];have h:inP L t=true:=by simpa using h
 have⟨s1,j,f,hS,i⟩:=d;have⟨e,g,_,_,⟨a,c,hr⟩⟩:=hS.at1 h b;exact⟨p,rfl,f,hS.box.cell rfl,a,c,_,jBB hr,by simp[depthOf,g],rfl⟩
def jCM(p t w0){L F}(m:vK w0 p L F)(g:Ok L):cl 64 #[vp<|some p,vi t] w0
  (XL fun k f n u x a b r w'=>((⟨k,f,n,u,x,a,b⟩:Node)=nodeOf L t/\r=inP L t)/\Pure w0 w'):=by
 refine w_O5 _ _ w0 _ ?_
 intro A o c
 have d:=m.pure c.first
 refine(yV p t o d).mono ?_
 rintro _ _ ⟨_,rfl,rfl,rfl⟩
 refine⟨_,rfl,Kept.refl _,fun h=>?_,fun h=>?_⟩
 .intro z l
  have h:inP L t=false:=by simpa using h
  exact⟨⟨by simp[nodeOf,yC h,xL],h.symm⟩,c.first.hst l⟩
 .have h:inP L t=true:=by simpa using h
  have⟨s1,w,y,hS,v⟩:=d
  have⟨e,q,⟨a,i,hr⟩,_,_⟩:=hS.at1 h g
  refine⟨p,rfl,s1,hS.box.cell0,a,i,_,_,_,_,_,_,_,hr,?_⟩
  intro s j
  exact⟨⟨by simp[nodeOf,q],h.symm⟩,c.first.hst j⟩
def zDA(m n:Node):((m.kind==n.kind)&&((m.frm==n.frm)&&((m.to==n.to)&&((m.num==n.num)&&((decide (m.text=n.text))&&((m.a==n.a)&&(m.b==n.b)))))))=decide (m=n):=by
 have⟨k,f,t,u,x,a,b⟩:=m;have⟨k',d,g,e,i,h,c⟩:=n;rw[Bool.eq_iff_iff];simp
def jSY(p n w0){L F}(J:vK w0 p L F)(D:Ok L):cl 122 #[vp<|some p,jHL n] w0
  (XE fun r ok w'=>(match find L n with|some i=>r=(i:Int)+1/\ok=true|none=>r=0/\ok=false)/\Pure w0 w'):=by
 have⟨k,f,t,u,x,a,b⟩:=n
 generalize w:(⟨k,f,t,u,x,a,b⟩:Node)=n
 have I:jHL n=.agg #[vi k,vi f,vi t,vu u,vs x,vi a,vi b]:=by rw[<-w];rfl
 rw[I]
 suffices key:∀K:Int->Bool->WP,(∀r ok w',((match find L n with|some i=>r=(i:Int)+1/\ok=true|none=>r=0/\ok=false)/\Pure w0 w')->K r ok w')->m_X1 (some p) k f t u x a b w0 K from
  w_X1 _ _ _ _ _ _ _ _ w0 _<|key _ fun _ _ _ h=>h
 intro K M
 intro R Y C
 refine⟨fun i H w'=>∃j:Nat,i=j/\j<=L.length/\Pure w0 w'/\∀q,q<j->∀e,L[q]?=some e->e.node≠n,fun i _=>((L.length:Int)-i).toNat,⟨0,rfl,Nat.zero_le _,C.first,fun q g=>absurd g Om⟩,?_⟩
 rintro _ Z wl S ⟨j,rfl,P,A,o⟩
 unfold m_X1_l1
 have⟨s1,V,W,hS,T⟩:=J.pure A
 have X:=D.few
 have d:s1.len=L.length:=by rw[hS.r1.len];simp
 refine⟨p,rfl,s1,hS.box.cell0,fun h=>?_,fun h=>?_⟩
 .have c:=vR d h
  refine⟨p,rfl,?_⟩
  intro U E
  have y:=A.hst E
  have⟨B,Q,N,m,_⟩:=J.pure y
  have⟨O,z,hr⟩:=m.r1.nth c
  refine⟨B,m.box.cell0,O,z,_,_,_,_,_,_,_,hr,?_⟩
  have hB:=zDA L[j].node n
  rw[<-w]at hB
  simp only at hB
  rw[hB,w]
  refine⟨fun h=>?_,fun h=>?_⟩
  .have h:=of_decide_eq_true h
   rw[zQ c Om]
   refine M _ _ _ ⟨?_,y⟩
   have l:find L n=some j:=by
    unfold find;rw[findIdx?_eq_some_iff_getElem];exact⟨c,by simp[h],fun q g=>by simpa using o q g _ (getElem?_eq_getElem Om)⟩
   rw[l];exact⟨Om,rfl⟩
  .have h:=of_decide_eq_false h
   rw[zQ c Om]
   refine⟨⟨j+1,rfl,c,y,fun q g e s=>?_⟩,uR c⟩
   by_cases v:q=j
   .subst v;rw[getElem?_eq_getElem c]at s;cases s;exact h
   .grind
 .have G:=yI d P h
  subst G
  refine M _ _ _ ⟨?_,A⟩
  have l:find L n=none:=find_none (fun e s=>by
   obtain⟨q,g,rfl⟩:=mem_iff_getElem.1 s;exact o q g _<|getElem?_eq_getElem g)
  rw[l];exact⟨rfl,rfl⟩
end Go.Proofs
end
section
open Go Go.SE
namespace Go.Proofs
open Tryz
attribute [local irreducible] Calls
def jKQ{P t ty e sz bytes}(T:SlType P t e sz bytes){w p c Tp}(hB:Box w p c Tp){s rs}(m:Rws w e sz s rs)(i:¬ s.blk p.block){a r}(hr:Row w a r)(k:r.length=sz)(h1:r.all vE=true)(l:(rs.length+1)*bytes<=140737488355328)(hm:rs.length+1<=maxLen):
  ∃s' w',(Builtin.append_ #[t,t] ty #[s.v,(Sl.mk (some a) 1 1).v]).run P w=.ok s'.v w'/\Rws w' e sz s' (rs++[r])/\Box w' p c Tp/\¬s'.blk p.block/\Ext s.blk w w'/\(∀b,s'.blk b->s.blk b\/w.heap.size<=b):=by
 have⟨s',w',f,g,j,d⟩:=m.append T (ty:=ty) (c:=1) hr k h1 l hm
 exact⟨s',w',f,g,hB.ext j i,fun h=>(d _ h).elim i fun h=>Oh hB.lt,j,d⟩
def jGZ(n):zJ n=53\/zJ n=0:=by
 unfold zJ;simp only;split;exact .inl rfl;exact .inr rfl
def vV(p n w0){L F}(R:vK w0 p L F)(l:Ok L):cl 60 #[vp<|some p,jHL n] w0
  (XH fun r1 r2 w'=>(r1,r2)=((make L n).1,(make L n).2.1)/\∃F',vK w' p (make L n).2.2 F'/\Ext F w0 w'/\∀b,F' b->F b\/w0.heap.size<=b):=by
 have⟨k,f,t,u,x,a,b⟩:=n
 generalize hn:(⟨k,f,t,u,x,a,b⟩:Node)=n
 have hnk:jHL n=.agg #[vi k,vi f,vi t,vu u,vs x,vi a,vi b]:=by rw[<-hn];rfl
 rw[hnk]
 suffices key:∀K:Int->Int->WP,(∀r1 r2 w',((r1,r2)=((make L n).1,(make L n).2.1)/\∃F',vK w' p (make L n).2.2 F'/\Ext F w0 w'/\∀b,F' b->F b\/w0.heap.size<=b)->K r1 r2 w')->m_T (some p) k f t u x a b w0 K from
  w_T _ _ _ _ _ _ _ _ w0 _<|key _ fun _ _ _ h=>h
 intro K hK
 have Z:=jJG n
 have hkd:=qS k
 rw[<-hn]at Z
 simp only at Z
 rw[hn]at Z
 have hna:n.a=a:=by rw[<-hn]
 have hnb:n.b=b:=by rw[<-hn]
 have D:n.kind=k:=by rw[<-hn]
 have hk:=qX k
 have jGC:∀(r1 r2:Int) (w':World),Pure w0 w'->make L n=(r1,r2,L)->K r1 r2 w':=fun r1 r2 w' E h=>hK _ _ _ ⟨by rw[h],F,by rw[h];exact R.pure E,E.pure,fun b h=>.inl h⟩
 have bad:∀(er:Int) (w':World),er≠0->Pure w0 w'->check L n=(0,0,er)->K 0 er w':=fun er w' h0 E h=>jGC 0 er w' E (by unfold make;simp[h,h0])
 unfold m_T
 rw[Z,hkd]
 have good:nodeErrq n=0->check L n=(if(zB n).any (fun t=>!inP L t)then(0,0,51)else if 1+((zB n).map<|sizeOf L).sum>4096\/(zB n).foldl (fun d t=>max d<|depthOf L t) 0+1>64 then(0,0,52)else(1+((zB n).map<|sizeOf L).sum,(zB n).foldl (fun d t=>max d<|depthOf L t) 0+1,0)):=by
  intro h;unfold nodeErrq at h;unfold check;split at h
  .cases h
  .grind
 refine⟨fun h=>?_,fun h=>?_⟩
 .intro H1 w2 hs2
  have h:nodeErrq n≠0:=by simpa using h
  refine bad _ _ h hs2.first ?_
  unfold nodeErrq at h|-
  unfold check
  by_cases h1:zJ n≠0
  .rw[if_pos h1,if_pos h1]
   have:zJ n=53:=(jGZ n).resolve_right h1
   rw[this]
  .grind
 have h0:nodeErrq n=0:=by simpa using h
 have j:=good h0
 have g:((shapeOf k).kids<1->a=0)/\((shapeOf k).kids<2->b=0):=by
  unfold nodeErrq at h0;split at h0
  .cases h0
  .grind
 have hz0:inP L 0=false:=by simp[inP]
 have hs0:sizeOf L 0=0:=by simp[sizeOf,get,hz0]
 have hd0:depthOf L 0=0:=by simp[depthOf,get,hz0]
 have hsa:=l.sizeOf a
 have hsb:=l.sizeOf b
 have hda:=l.depthOf a
 have hdb:=l.depthOf b
 have hany:(zB n).any (fun t=>!inP L t)=((decide (1<=(shapeOf k).kids)&&!inP L a) ||(decide ((shapeOf k).kids=2)&&!inP L b)):=by
  unfold zB;rw[D,hna,hnb];rcases hk with h|h|h<;>rw[h]<;>simp
 have hsum:((zB n).map<|sizeOf L).sum=sizeOf L a+sizeOf L b:=by
  unfold zB;rw[D,hna,hnb];rcases hk with h|h|h<;>rw[h]<;>simp
  .rw[g.1 Om,g.2 Om,hs0];rfl
  .rw[g.2 Om,hs0];omega
 have hmax:(zB n).foldl (fun d t=>max d<|depthOf L t) 0=max (depthOf L a) (depthOf L b):=by
  unfold zB;rw[D,hna,hnb];rcases hk with h|h|h<;>rw[h]<;>simp
  .rw[g.1 Om,g.2 Om,hd0];omega
  .rw[g.2 Om,hd0];omega
  .omega
 rw[hany,hsum,hmax]at j
 have J1:∀(x1:Bool) (H:NP) (w:World),Hst w0 H w H w->Pure w0 w->x1=((decide (1<=(shapeOf k).kids)&&!inP L a) ||(decide ((shapeOf k).kids=2)&&!inP L b))->m_T_j1 (some p) k f t u x a b x1 w0 H w K:=by
  intro x1 H w hs E hx;rw[<-hx]at j;refine⟨fun h=>bad 51 w Om E (by rw[j,h];rfl),fun h=>?_⟩;rw[h,if_neg Sm]at j;refine⟨fun _=>True,trivial,?_⟩;rintro _ rfl;have Ed:Pure w0 w.drew:=E.trans<|Ext.drew w;refine(jCL p a w.drew (R.pure Ed) l).mono ?_;rintro _ _ ⟨_,rfl,rfl,rfl⟩;refine⟨_,rfl,trivial,Kept.refl _,?_⟩;refine(jCL p b w.drew (R.pure Ed) l).mono ?_;rintro _ _ ⟨_,rfl,rfl,rfl⟩;refine⟨_,rfl,trivial,Kept.refl _,fun _=>True,trivial,?_⟩;rintro _ rfl;have Ed2:Pure w0 w.drew.drew:=Ed.trans<|Ext.drew w.drew;refine(jFR p a w.drew.drew (R.pure Ed2) l).mono ?_;rintro _ _ ⟨_,rfl,rfl,rfl⟩;refine⟨_,rfl,trivial,Kept.refl _,?_⟩;refine(jFR p b w.drew.drew (R.pure Ed2) l).mono ?_;rintro _ _ ⟨_,rfl,rfl,rfl⟩;refine⟨_,rfl,trivial,Kept.refl _,_,fun w' _=>run_max_int2 _ _ _ _ _ _ _,?_⟩;have hmx:(if depthOf L b>depthOf L a then depthOf L b else depthOf L a)=max (depthOf L a) (depthOf L b):=by
   split<;>omega
  generalize hz:(if depthOf L b>depthOf L a then depthOf L b else depthOf L a)=z at *;have hz64:0<=z/\z<=64:=by rw[hmx];omega
  have e1:IntKind.i64.wrap (IntKind.i64.wrap (1+sizeOf L a)+sizeOf L b)=1+(sizeOf L a+sizeOf L b):=by
   rw[i64 (n:=1+sizeOf L a) Om Om,i64 Om Om];omega
  have e2:IntKind.i64.wrap (1+z)=z+1:=by rw[i64 Om Om];omega
  rw[e1,e2];rw[<-hmx]at j;rintro y1 rfl;have hsx:Hst w0 H w.drew.drew H w.drew.drew:=(hs.drew.here.drew).here;refine⟨fun h=>?_,fun h=>?_⟩
  .intro H2 w10 s;refine bad 52 w10 Om (Ed2.hst s) ?_;rw[j,if_pos<|by simpa using h]
  .intro H2 w10 s;have hck:check L n=(1+(sizeOf L a+sizeOf L b),z+1,0):=by rw[j,if_neg (by simp at h;omega)]
   have E10:=Ed2.hst s;rw[<-hnk];refine(jSY p n w10 (R.pure E10) l).mono ?_;rintro _ B ⟨r,ok,rfl,hfd,E11⟩;refine⟨_,_,rfl,E11.keptP,?_⟩;have E11':=E10.trans E11;have hs11:Hst w0 H2 B H2 B:=s.again E11.keptP;cases hf:find L n with
   |some i =>
    rw[hf]at hfd
    obtain⟨rfl,rfl⟩:=hfd
    exact Br.t rfl (jGC _ _ _ E11' (by unfold make;simp[hck,hf]))
   |none =>
    rw[hf]at hfd
    obtain⟨rfl,rfl⟩:=hfd
    refine Br.f rfl ?_
    have⟨s1,s2,s3,hS,hF⟩:=R.pure E11'
    have hlen:s1.len=L.length:=by rw[hS.r1.len];simp
    refine⟨p,rfl,s1,hS.box.cell0,fun h=>?_,fun h=>?_⟩
    .have h2:65536<=L.length:=by have h:=of_decide_eq_true h;omega
     exact jGC _ _ _ E11' (by unfold make;simp[hck,hf,h2])
    .have h2:¬65536<=L.length:=by have h:=of_decide_eq_false h;omega
     have hmk:make L n=((L.length:Int)+1,0,L++[⟨n,1+(sizeOf L a+sizeOf L b),z+1⟩]):=by unfold make;simp[hck,hf,h2]
     have y:∀b,F b->¬H2 b:=fun b c h2=>Oi (R.lt c)<|hs11.old b h2
     have X:F p.block:=(hF _).2<|.inl rfl
     refine⟨fun w'=>w'.cell? p=some s1.v,hS.box.cell0,?_⟩
     rintro _ rfl
     have E12:Pure B B.drew:=Ext.drew B
     refine⟨p,rfl,s1,fun w' h'=>h',?_⟩
     intro p3 w13 h13
     have q:Pure B w13:=E12.trans<|Ext.new h13
     have B13:=hS.box.pure q
     refine⟨B13.cell0,?_⟩
     have⟨C,w14,hr14,R14,B14,U,G,nb1⟩:=jKQ (P:=prog) (ty:=41) jTN B13 (hS.r1.pure q) hS.n1 (a:=p3) (r:=oO n) (by rw[<-hn];exact(Box.of_new h13).row) rfl rfl So (by simp[maxLen];omega)
     refine⟨C,w14,hr14,B14.cell0,G.kept fun b c h=>y b ((hF b).2<|.inr<|.inl h) c,p,rfl,B14.canW0 Sm,y _ X,?_⟩
     rintro W M
     have B15:Box W p [C.v,s2.v,s3.v] 44:=by rw[M];exact B14.set0
     have O:Ext (·=p.block) w14 W:=by rw[M];exact Ext.setCell p _
     clear M
     have R15:=R14.ext O fun b c e=>U<|e▸c
     have R2:=((hS.r2.pure q).ext G fun b h2 h1=>hS.d12 b h1 h2).ext O fun b c e=>hS.n2<|e▸c
     have R3:=((hS.r3.pure q).ext G fun b h2 h1=>hS.d13 b h1 h2).ext O fun b c e=>hS.n3<|e▸c
     have d12':∀b,C.blk b->¬s2.blk b:=fun b c h2=>(nb1 b c).elim (fun h=>hS.d12 b h h2) fun h=>Oi (hS.r2.lt h2) q.size
     have d13':∀b,C.blk b->¬s3.blk b:=fun b c h2=>(nb1 b c).elim (fun h=>hS.d13 b h h2) fun h=>Oi (hS.r3.lt h2) q.size
     refine⟨p,rfl,s2,B15.cell rfl,?_⟩
     intro p4 w16 h16
     have m:Pure W w16:=Ext.new h16
     have B16:=B15.pure m
     have⟨S,Y,hr17,R17,B17,np2,J,nb2⟩:=jKQ (P:=prog) (ty:=42) jDS B16 (R2.pure m) hS.n2 (a:=p4) (r:=[vi<|1+(sizeOf L a+sizeOf L b)]) (Box.of_new h16).row rfl rfl So (by simp[maxLen];omega)
     refine⟨S,Y,hr17,J.kept Gd,p,rfl,B17.canW Sm,by rw[zG];exact y _ X,?_⟩
     rintro w18 I
     have B18:Box w18 p [C.v,S.v,s3.v] 44:=by rw[I];exact B17.set 1 _
     have Q:Ext (·=p.block) Y w18:=by rw[I];have:=Ext.setCell (w:=Y) (p.add 1) S.v;rw[zG]at this;exact this
     clear I
     have Q1:=((R15.pure m).ext J fun b h1 h2=>d12' b h1 h2).ext Q fun b c e=>U<|e▸c
     have Q2:=R17.ext Q fun b c e=>np2<|e▸c
     have Q3:=((R3.pure m).ext J fun b h3 h2=>hS.d23 b h2 h3).ext Q fun b c e=>hS.n3<|e▸c
     have d12'':∀b,C.blk b->¬S.blk b:=fun b c h2=>(nb2 b h2).elim (fun h=>d12' b c h) fun h=>Oh<|(R15.pure m).lt c
     have d23':∀b,S.blk b->¬s3.blk b:=fun b c h2=>(nb2 b c).elim (fun h=>hS.d23 b h h2) fun h=>Oh<|(R3.pure m).lt h2
     refine⟨p,rfl,s3,B18.cell rfl,?_⟩
     intro p5 w19 h19
     have o:Pure w18 w19:=Ext.new h19
     have B19:=B18.pure o
     have⟨t3,T,hr20,R20,B20,np3,V,nb3⟩:=jKQ (P:=prog) (ty:=42) jDS B19 (Q3.pure o) hS.n3 (a:=p5) (r:=[vi<|z+1]) (Box.of_new h19).row rfl rfl So (by simp[maxLen];omega)
     refine⟨t3,T,hr20,V.kept Gd,p,rfl,B20.canW Sm,by rw[zG];exact y _ X,?_⟩
     rintro w21 N
     have B21:Box w21 p [C.v,S.v,t3.v] 44:=by rw[N];exact B20.set 2 _
     have X21:Ext (·=p.block) T w21:=by rw[N];have:=Ext.setCell (w:=T) (p.add 2) t3.v;rw[zG]at this;exact this
     clear N
     have d13'':∀b,C.blk b->¬t3.blk b:=fun b c h2=>(nb3 b h2).elim (fun h=>d13' b c h) fun h=>Oh<|(Q1.pure o).lt c
     have d23'':∀b,S.blk b->¬t3.blk b:=fun b c h2=>(nb3 b h2).elim (fun h=>d23' b c h) fun h=>Oh<|(Q2.pure o).lt c
     have Z1:=((Q1.pure o).ext V fun b h1 h2=>d13' b h1 h2).ext X21 fun b c e=>U<|e▸c
     have Z2:=((Q2.pure o).ext V fun b h1 h2=>d23' b h1 h2).ext X21 fun b c e=>np2<|e▸c
     have Z3:=R20.ext X21 fun b c e=>np3<|e▸c
     have hl1:(C.len:Int)=L.length+1:=by rw[R14.len];simp
     refine⟨p,rfl,C,B21.cell0,?_⟩
     rw[hl1]
     refine hK _ _ _ ⟨by rw[hmk],fun b=>b=p.block\/C.blk b\/S.blk b\/t3.blk b,?_,?_,?_⟩
     .rw[hmk]
      exact⟨C,S,t3,⟨B21,by simpa[zCH]using Z1,by simpa[zGN]using Z2,by simpa[jYR]using Z3,U,np2,np3,d12'',d13'',d23''⟩,fun _=>Iff.rfl⟩
     .have a1:Ext F w0 w14:=(E11'.trans q).pure.trans' G fun i _ h=>(hF i).2<|.inr<|.inl h
      have a2:Ext F w0 W:=a1.trans' O fun i _ h=>(hF i).2<|.inl h
      have a3:Ext F w0 Y:=(a2.thenPure m).trans' J fun i _ h=>(hF i).2<|.inr<|.inr<|.inl h
      have a4:Ext F w0 w18:=a3.trans' Q fun i _ h=>(hF i).2<|.inl h
      have a5:Ext F w0 T:=(a4.thenPure o).trans' V fun i _ h=>(hF i).2<|.inr<|.inr<|.inr h
      exact a5.trans' X21 fun i _ h=>(hF i).2<|.inl h
     .have z13:w0.heap.size<=w13.heap.size:=(E11'.trans q).size
      have z16:w0.heap.size<=w16.heap.size:=by have:=G.size;have:=O.size;have:=m.size;omega
      have z19:w0.heap.size<=w19.heap.size:=by have:=J.size;have:=Q.size;have:=o.size;omega
      rintro b (rfl|c|c|c)
      .exact .inl X
      .grind
      .grind
      .grind
 have J2:∀(x2:Bool) (H:NP) (w:World),Hst w0 H w H w->Pure w0 w->x2=(decide (1<=(shapeOf k).kids)&&!inP L a)->m_T_j2 (some p) k f t u x a b x2 w0 H w K:=by
  intro x2 H w hs E hx;unfold m_T_j2;rw[hkd];refine⟨fun h=>J1 true H w hs E (by rw[<-hx,h];rfl),fun h=>⟨fun h2=>?_,fun h2=>J1 false H w hs E ?_⟩⟩
  .refine(yV p b w<|R.pure E).mono ?_;rintro _ _ ⟨_,rfl,rfl,rfl⟩;refine⟨_,rfl,Kept.refl _,J1 _ H _ hs E ?_⟩;have h2:(shapeOf k).kids=2:=by simpa using h2
   rw[<-hx,h];simp[h2]
  .grind
 refine⟨fun h=>?_,fun h=>?_⟩
 .intro H1 w3 A
  refine(yV p a w3<|R.pure A.first).mono ?_
  rintro _ _ ⟨_,rfl,rfl,rfl⟩
  refine⟨_,rfl,Kept.refl _,J2 _ H1 _ A.here A.first ?_⟩
  have:1<=(shapeOf k).kids:=Oh<|of_decide_eq_true h
  simp[this]
 .intro H1 w3 A
  refine J2 _ H1 _ A.here A.first ?_
  have:¬1<=(shapeOf k).kids:=Oh<|of_decide_eq_false h
  simp[this]
end Go.Proofs
end
section
open Go Go.SE List
namespace Go.Proofs
open Tryz
attribute [local irreducible] Calls
def jYY(k f t u x len):uA ⟨k,f,t,u,x,0,0⟩ len=(if(nodeErrq ⟨k,f,t,u,x,0,0⟩≠53/\(len:Int)≠(shapeOf k).kids)then 53 else nodeErrq ⟨k,f,t,u,x,0,0⟩):=by
 unfold uA nodeErrq;simp only;rcases jGZ ⟨k,f,t,u,x,0,0⟩with h|h;rw[h];simp;grind
def jKT{S}(q)(hq:¬ S q.block)(T t):∀(s:Sl) (c seen:Int) (o:World),0<=c->0<=seen->TreeAt S o s t->(∀b,S b->b<o.heap.size)->Box o q [vi seen] T ->
  cl 210 #[.agg (uP t s).toArray,vi c,vp<|some q] o
   (XB fun r w'=>r=(qK c seen t).1/\Box w' q [vi (qK c seen t).2] T/\Ext (·=q.block) o w'):=by
 induction t using Tree.ind with
 |h k f t u x g ih =>
 intro s c seen o hi0 hn0 V C hB
 suffices key:∀K:Int->WP,(∀r w',(r=(qK c seen<|.mk k f t u x g).1/\Box w' q [vi (qK c seen<|.mk k f t u x g).2] T/\Ext (·=q.block) o w')->K r w')->m_B1 k f t u x s c (some q) o K from
  w_B1 _ _ _ _ _ _ _ _ o _<|key _ fun _ _ h=>h
 intro K W
 have hql:=hB.lt
 refine⟨q,rfl,?_⟩
 intro H1 w1 P
 have Z:=hB.pure P.first
 refine⟨seen,Z.cell0,?_⟩
 intro H5 w13 U
 have D:=P.first.hst U
 have m:=hB.pure D
 have p:∀{H w' H' w''},Hst o H w' H' w''->¬H' q.block:=fun h hh=>Oh<|h.old _ hh
 refine⟨fun h=>?_,fun h=>?_⟩
 .have : qK c seen (.mk k f t u x g) = (52, seen):=by
   rw[qK];simp only[Bool.or_eq_true,decide_eq_true_eq]at h;by_cases h1:4096<=seen
   .rw[if_pos h1]
   .grind
  rw[this]at W;exact W _ _ ⟨rfl,m,D.pure⟩
 .have h1:¬4096<=seen/\¬64<=c:=Gd
  have hsp:qK c seen (.mk k f t u x g)=vF (c+1) (uA ⟨k,f,t,u,x,0,0⟩ g.length) (seen+1) g:=by rw[qK,if_neg h1.1,if_neg h1.2]
  rw[hsp]at W
  have y:s.len=g.length:=by cases V;assumption
  have hfit:g.length<=9223372036854775807:=by cases V;assumption
  refine⟨q,rfl,seen,m.cell0,q,rfl,m.canW0 Sm,p U,?_⟩
  rw[i64 (n:=seen+1) Om Om]
  rintro w2 E
  have Y:Box w2 q [vi<|seen+1] T:=by rw[E];exact m.set0
  have E2:Ext (·=q.block) o w2:=by rw[E];exact D.pure.trans<|Ext.setCell q _
  clear E
  rintro y1 rfl
  have G:=jJG ⟨k,f,t,u,x,0,0⟩
  simp only at G
  rw[G,qS,y]
  have M:cond ((nodeErrq ⟨k,f,t,u,x,0,0⟩ !=53)&&((g.length:Int) !=(shapeOf k).kids)) 53 (nodeErrq ⟨k,f,t,u,x,0,0⟩)=uA ⟨k,f,t,u,x,0,0⟩ g.length:=by
   rw[jYY];by_cases h2:nodeErrq ⟨k,f,t,u,x,0,0⟩=53
   .simp[h2]
   .grind
  rw[M]
  intro H3 w10 A
  have E10:Ext (·=q.block) o w10:=E2.hst A
  have N:=Y.ext A.ext<|p A
  refine⟨fun e i H w'=>∃j:Nat,i=j/\j<=g.length/\∃n:Int,0<=n/\Ext (·=q.block) o w'/\Box w' q [vi n] T/\vF (c+1) e n (g.drop j)=vF (c+1) (uA ⟨k,f,t,u,x,0,0⟩ g.length) (seen+1) g,fun _ i _=>((g.length:Int)-i).toNat,⟨0,rfl,Nat.zero_le _,seen+1,Om,E10,N,rfl⟩,?_⟩
  rintro X _ Hl wl hl ⟨j,rfl,hj,n,hn,El,F,v⟩
  unfold m_B1_l2
  have hTl:=V.ext El fun b z e=>hq<|e▸z
  refine⟨fun hc=>?_,fun hc=>?_⟩
  .simp only[Bool.and_eq_true,beq_iff_eq]at hc
   have⟨he,l⟩:=hc
   have l:=vR y l
   subst he
   cases hTl with
   |mk _ _ _ _ _ _ _ rs len fit row kid =>
   have⟨a,hat,ha,hr⟩:=row j l
   refine⟨a,hat,?_⟩
   intro H4 w d
   have B:=El.hst d
   have hT11:=V.ext B fun b z e=>hq<|e▸z
   have J:Row w a (uP g[j]<|rs j):=d.ext.row hr fun hh=>Oi (d.old _ hh)<|C _ ha
   have O:TreeAt S w (rs j) g[j]:=(kid j l).ext d.ext fun b z hh=>Oi (d.old _ hh)<|C _ z
   have Q:=F.ext d.ext<|p d
   refine⟨_,_,_,_,_,rs j,J,?_⟩
   rw[i64 (n:=c+1) Om Om]
   refine(ih j l (rs j) (c+1) n w Om hn O (fun b z=>Oi (C b z) B.size) Q).mono ?_
   rintro _ w12 ⟨r,rfl,rfl,R,I⟩
   refine⟨_,rfl,I.kept Gd,?_⟩
   rw[zQ l Om]
   refine⟨⟨j+1,rfl,l,_,jLO g[j] (c+1) n hn,B.trans I,R,?_⟩,uR l⟩
   rw[<-v];exact(jFJ l (c+1) n).symm
  .intro H4 w d
   have L:vF (c+1) X n (g.drop j)=(X,n):=by
    by_cases he:X=0
    .have hge:j=g.length:=Gd;rw[hge,drop_length];rfl
    .exact jHE he _ _
   rw[L]at v
   refine W _ _ ⟨by rw[<-v],?_,El.hst d⟩
   rw[<-v];exact F.ext d.ext<|p d
def jNK{S}(t s w0)(n:TreeAt S w0 s t)(j:∀b,S b->b<w0.heap.size):
  cl 152 #[.agg (uP t s).toArray] w0<|XB fun r w'=>r=(qK 0 0 t).1/\Pure w0 w':=by
 have⟨k,f,to,u,x,w⟩:=t
 refine w_U5 _ _ _ _ _ _ w0 _ ?_
 intro q y c p m h2
 have b2:=Box.of_new h2
 have o:Pure w0 m:=c.first.trans (Ext.new h2)
 have o2:=New.own c.first h2
 have d:¬q p.block:=fun hh=>Oi (c.lt _ hh) h2.at_size
 refine⟨b2.canW0 Sm,d,?_⟩
 rintro i a
 have b3:Box i p [vi 0] 3:=by rw[a];exact b2.set0
 have g:Pure w0 i:=by rw[a];exact o.own o2<|Ext.setCell p _
 clear a
 refine(jKT p Gd _ _ s 0 0 i (Int.le_refl _) (Int.le_refl _) (n.pure g) (fun b h=>Oi (j b h) g.size) b3).mono ?_
 rintro _ v ⟨r,rfl,rfl,_,l⟩
 exact⟨_,rfl,l.kept fun b h e=>d<|e▸h,rfl,g.own o2 l⟩
end Go.Proofs
end
