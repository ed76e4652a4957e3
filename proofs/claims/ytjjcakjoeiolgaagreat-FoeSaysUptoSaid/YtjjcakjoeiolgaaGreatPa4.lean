import Derived.Test.YtjjcakjoeiolgaaGreatProg
import Derived.KernelRfl
import Derived.Test.YtjjcakjoeiolgaaGreatPa3
import Derived.IntWalk
set_option linter.defProp false
section
open Go Go.SE List
open Go.IntKind renaming i64 -> q6
namespace Go.Proofs
open Tryz
set_option maxRecDepth 100000
set_option maxHeartbeats 4000000
attribute [local irreducible] bu ft fg dw Calls
attribute [local irreducible] jq W WV WR yW pv ku jd nz ka lq ky lj mz mo iq fa im mv kq kp uP xG yA bn ub
def jaP(c:Option Addr)(b:World)(K:(Option Addr)->WP):Prop:=Br (Option.isNone c) (K none b)<|∀a d,au b (.map #[] 0) a d->∀e f,au d (.cells #[(vp c),Sl.nil.v,(.map<|some a.block),Sl.nil.v] 163) e f->K (some e) f
def jcW(p1 w0 K)(h:jaP p1 w0 K):
  cl 43 #[(vp p1)] w0<|XD K:=
 cy func43 h<|br 0 3 (rr 2)<|cd 2<|cd 1<|rr 1
def LX(z:Option Addr)(C:Int)(B:World)(K:Sl->Bool->WP):Prop:=∀j i,au B (.cells #[(vp z)] 93) j i->lp i j fun y=>Br (Option.isNone y) (K Sl.nil false i)<|∀n x,au i (.cells #[Sl.nil.v] 169) n x->∀r s,au x (.map #[] 0) r s->∀g m,au s (.cells #[(.map none)] 231) g m->zL m g/\∀o,o=m.setCell g (.map<|some r.block)->∀u p,au o (.map #[] 0) u p->∀f k,au p (.cells #[(.map none)] 232) f k->zL k f/\∀t,t=k.setCell f (.map<|some u.block)->∀d l,au t (.cells #[(.nilFunc:Value)] 233) d l->zL l d/\∀b,b=l.setCell d (.func (.func 160) #[] #[(vp<|some g),(vp<|some f),(vp<|some j),(vp<|some d),(vp<|some n)])->∃q:Value,b.cell? d=some q/\∃(h:FuncId) (e c:Array Value),q=.func (.func h) e c/\(∀args w,(callFunc h args).run prog w=.ok (.enter h args) w)/\Calls prog h (e++#[(vi C)]++c) b (XE fun r1 r2 a=>Br (!r2) (K Sl.nil false a)<|lx a n fun A=>K A true a)
def jcf(k1 t1 w0 K)(h:LX k1 t1 w0 K):
  cl 105 #[(vp k1),(vi t1)] w0<|XF K:=
 cy func105 h<|cd 0<|ld 2<|br 0 1 (rr 3)<|cd 1<|cd 0<|cd 0<|gv 0<|cd 0<|cd 0<|gv 0<|cd 0<|gv 1<|ld 0<|fo<|fun a=>cv 1 a<|dt<|rt<|ev<|br 0 7 (rr 3)<|ld 1<|rr 2
def jcU(b:Option Addr)(c:Int)(d:World)(K:Bool->WP):Prop:=cl 105 #[(vp b),(vi c)] d<|XF fun r1 r2 a=>K r2 a
def Wp(k1 t1 w0 K)(h:jcU k1 t1 w0 K):
  cl 63 #[(vp k1),(vi t1)] w0<|XC K:=
 cy func63 h<|kz 3 call105<|rr 7
def Lu(b:Option Addr)(a:World)(K:Sl->WP):Prop:=Br (Option.isNone b) (K Sl.nil a)<|∃a1,b=some a1/\lx a (a1.add 1) fun c=>cl 129 #[c.v] a<|XA K
def SR(k1 w0 K)(h:Lu k1 w0 K):
  cl 68 #[(vp k1)] w0<|XA K:=
 cy func68 h<|br 0 3 (rr 2)<|nc 2<|ld 1<|fy 0 call129<|rr 1
def Bh(m:Addr)(kh:Int)(n i:Addr)(o:World)(H:NP)(w:World)(d:Int->NP->WP)(q:WP):Prop:=li w i fun b=>Br (b==4) (li w (i.add 5) fun k=>cl 181 #[(vi k),(vi 1),(vp<|some m),(vp<|some n)] w fun e c=>e=.returned (.tuple #[])/\aj H w c/\li c (i.add 6) fun j=>cl 181 #[(vi j),(vi 2),(vp<|some m),(vp<|some n)] c fun e h=>e=.returned (.tuple #[])/\aj H c h/\d (q6.wrap<|kh+1) H h) (∀p:Bool,p=(cond (b==7) (b==7)<|cond (b==8) (b==8)<|b==9)->Br p (∀f a,af o H w f a->li a (i.add 5) fun l=>cl 181 #[(vi l),(vi 3),(vp<|some m),(vp<|some n)] a fun e g=>e=.returned (.tuple #[])/\aj f a g/\d (q6.wrap<|kh+1) f g) (∀f a,af o H w f a->d (q6.wrap<|kh+1) f a))
def MA(r:Addr)(kh:Int)(T:World)(b:NP)(a:World)(w:Int->NP->WP)(K:WP):Prop:=lp a r fun z=>∃M,z=some M/\lx a (M.add 3) fun B=>Br (decide (kh<(B.len:Int))) (lp a r fun y=>∃E,y=some E/\lx a (E.add 3) fun A=>∃L:Addr,At A kh 1 L/\li a L fun x=>∀q m,au a (.cells #[(vi 0)] 73) q m->zL m q/\¬b q.block/\∀n,n=m.setCell q (vi x)->∃c:WP,c n.drew/\∀d,d=n.drew->∃s,(∀w',c w'->w'.cell? r=some (vp s))/\∃v,s=some v/\∃l,(∀w',c w'->w'.cell? v=some (vp l))/\∃p,(∀w',c w'->w'.cell? q=some (vi p))/\(cl 109 #[(vp l),(vi p)] d fun e k=>∃Q O I P R D F r1,e=.returned (.tuple #[(Ac Q O I P R D F),(vb r1)])/\c k/\aj b d k/\∀t h,au k (.cells #[(vi 0),(vi 0),(vi 0),(vu 0),ve,(vi 0),(vi 0)] 119) t h->c h/\(∀j,j<7->zL h (t.add j))/\¬b t.block/\∀o,o=bb h t (Ab Q O I P R D F)->c o/\Bh r kh q t T b o w K)/\(∀u g,au d (.cells #[(vi 0),(vi 0),(vi 0),(vu 0),ve,(vi 0),(vi 0)] 119) u g->c g/\cl 109 #[(vp l),(vi p)] g fun e f=>∃G N C J U S H r2,e=.returned (.tuple #[(Ac G N C J U S H),(vb r2)])/\c f/\aj b g f/\(∀j,j<7->zL f (u.add j))/\¬b u.block/\∀i,i=bb f u (Ab G N C J U S H)->c i/\Bh r kh q u T b i w K)) (K a)
def Mz(M:Option Addr)(y f c:Int)(m:World)(K:WP):Prop:=∀h G,au m (.cells #[(vp M)] 93) h G->∀x i,af m ar G x i->lp i h fun L=>∃a1,L=some a1/\∃A:Option Nat,i.cell? (a1.add 2)=some (.map A)/\∃e d q,(Instr.lookup 161 (.map A) (vi y) true).run prog i=.ok (.tuple #[(.agg #[(vi e),(vi d)]),(vb q)]) i/\Br q (∀g k,af m x i g k->K k) (∀g k,af m x i g k->∃t:WP,t k.drew/\∀u,u=k.drew->∃F,(∀w',t w'->w'.cell? h=some (vp F))/\∃a2,F=some a2/\∃C:Option Nat,(∀w',t w'->w'.cell? (a2.add 2)=some (.map C))/\∃j:World,(Instr.mapUpdate 161 (.map C) (vi y)<|.agg #[(vi f),(vi c)]).run prog u=.ok () j/\aj g u j/\lp j h fun N=>∃a3,N=some a3/\lx j (a3.add 3) fun J=>∃l:WP,l j.drew/\∀D,D=j.drew->∃H,(∀w',l w'->w'.cell? h=some (vp H))/\∃B,(∀w',l w'->w'.cell? h=some (vp B))/\∃a4,B=some a4/\∃z:Sl,(∀w',l w'->w'.cell? (a4.add 3)=some z.v)/\∀E s,au D (.cells #[(vi y)] 73) E s->l s/\∃s1:Sl,∃r:World,(Builtin.append_ #[46,46] 46 #[z.v,(Sl.mk (some E) 1 1).v]).run prog s=.ok s1.v r/\l r/\aj g s r/\∃a5,H=some a5/\zL r (a5.add 3)/\¬g (a5.add 3).block/\∀p,p=r.setCell (a5.add 3) s1.v->∃(w:Int->NP->WP) (o:Int->World->Nat),w (J.len:Int) g p/\∀(kh:Int) (b:NP) (a:World),af m b a b a->w kh b a->MA h kh m b a (fun n I w'=>w n I w'/\o n w'<o kh a) K)
def w_Y(k1 t1 wrule1 wfrom1 w0 K)(h:Mz k1 t1 wrule1 wfrom1 w0 K):
  cl 134 #[(vp k1),(vi t1),(.agg #[(vi wrule1),(vi wfrom1)])] w0<|fun e w'=>e=.returned (.tuple #[])/\K  w':=
 dv func134 h<|my 0<|nh 0<|ah<|ld 0<|nc 0<|ld 1<|um<|rn 1<|nh 3<|sg 0 0 []<|br 0 2 (ah<|rr 1)<|ah<|dC 1 [6] [6]<|ik 0<|nc 0<|ik 1<|sJ 1 1 [] 2<|xe<|es 0<|ie<|ld 0<|nc 0<|ld 1<|dC 2 [6,7,10] [10]<|ik 0<|ik 0<|nc 0<|ik 1<|sZ 1<|dt<|ef 0<|rM<|nc 0<|np 1<|td 0 [3] (fun kh=>[(8,(vi kh))])<|fun {_ _ kh}=>fun f=>ld 1<|nc 0<|ld 1<|br 0 2 (ld 1<|nc 0<|ld 1<|ix 1<|ld 0<|my 0<|np 0<|jk 0 0 [3,8,9] (fun d=>[(10,(vp<|some d))]) (fun d H w=>Bh _ _ _ d _ H w _ _) (fun g=>dC 0 [5,9,10] []<|ik 0<|nc 0<|ik 1<|ik 0<|uo 0 (cc 0 call109<|cf<|dt<|rt<|rM<|sZ 3<|I6 0<|je 1 0 g)<|sZ 0<|cc 0 call109<|cf<|dt<|rt<|rM<|I6 3<|je 1 0 g)<|fun {d}=>ld 3<|fun {a}=>br 0 2 (ld 3<|rA 0 call181<|ld 2<|rA 0 call181<|je 3 0 f)<|pj 3 0 [(a==7),(a==8)] [3,8,10,12] (fun b=>[(82,(vb<|cond (b 0) (a==7)<|cond (b 1) (a==8)<|a==9))]) (fun c=>pb 0 0 0 c (fun c=>pe 1 0 c)<|fun c=>pb 0 3 1 c (fun c=>pe 1 0 c)<|fun c=>pe 3 0 c)<|yy<|br 0 0 (ah<|ld 3<|rA 0 call181<|je 3 0 f)<|ah<|je 4 0 f)<|rr 1
def IC(c:Option Addr)(g:Int)(d:World)(K:Int->WP):Prop:=Br (Option.isNone c) (K 7 d)<|∃a1,c=some a1/\lp d a1 fun s=>cl 109 #[(vp s),(vi g)] d fun e k=>∃w t r u y o p r1,e=.returned (.tuple #[(Ac w t r u y o p),(vb r1)])/\aj ar d k/\Br (!r1) (∀a b,af d ar k a b->K 51 b) (∃a2,c=some a2/\∀a b,af d ar k a b->lx b (a2.add 1) fun q=>cl 133 #[q.v,(vi g)] b fun e f=>∃r2,e=.returned (vb r2)/\aj a b f/\Br (!r2) (∃a3,c=some a3/\lx f (a3.add 1) fun x=>∀n i,au f (.cells #[(vi g)] 73) n i->∃s1:Sl,∃h:World,(Builtin.append_ #[46,46] 46 #[x.v,(Sl.mk (some n) 1 1).v]).run prog i=.ok s1.v h/\aj a i h/\∃a4,c=some a4/\zL h (a4.add 1)/\¬a (a4.add 1).block/\∀j,j=h.setCell (a4.add 1) s1.v->cl 134 #[(vp c),(vi g),(.agg #[(vi 0),(vi 0)])] j fun e l=>e=.returned (.tuple #[])/\aj a j l/\K 0 l) (cl 134 #[(vp c),(vi g),(.agg #[(vi 0),(vi 0)])] f fun e m=>e=.returned (.tuple #[])/\aj a f m/\K 0 m))
def jcd(k1 t1 w0 K)(h:IC k1 t1 w0 K):
  cl 70 #[(vp k1),(vi t1)] w0<|XB K:=
 dv func70 h<|br 0 3 (rr 2)<|nc 2<|ld 1<|cc 1 call109<|cf<|dt<|rt<|ie<|nh 3<|sg 0 0 []<|br 0 3 (ah<|rr 2)<|nc 2<|ah<|ld 1<|du 1 call133<|br 0 1 (nc 3<|ld 1<|my 1<|dt<|ef 0<|ie<|nc 0<|np 1<|rA 3 call134<|rr 1)<|rA 4 call134<|rr 1
def MP(b:Option Addr)(a:World)(K:Sl->WP):Prop:=Br (Option.isNone b) (K Sl.nil a)<|∃a1,b=some a1/\lx a (a1.add 3) fun d=>cl 138 #[d.v] a fun e c=>∃r1:Value,e=.returned r1/\cl 137 #[r1] c (XA K)
def Ty(k1 w0 K)(h:MP k1 w0 K):
  cl 72 #[(vp k1)] w0<|XA K:=
 cy func72 h<|br 0 3 (rr 2)<|nc 2<|ld 1<|fy 0 call138<|fy 0 call137<|rr 1
def Mf(f:Option Addr)(i:Int)(c:World)(K:Bool->WP):Prop:=Br (Option.isNone f) (K false c)<|∃a1,f=some a1/\∃e:Option Nat,c.cell? (a1.add 2)=some (.map e)/\∃b a d,(Instr.lookup 161 (.map e) (vi i) true).run prog c=.ok (.tuple #[(.agg #[(vi b),(vi a)]),(vb d)]) c/\∀h g,af c ar c h g->K d g
def ZS(k1 t1 w0 K)(h:Mf k1 t1 w0 K):
  cl 128 #[(vp k1),(vi t1)] w0<|XC K:=
 dv func128 h<|br 0 3 (rr 2)<|nc 2<|ld 1<|um<|rn 1<|nh 3<|sg 0 0 []<|ah<|rr 3
def Ij(g:Option Addr)(h a:Int)(H:NP)(w:World)(K:Int->Int->Bool->Bool->WP):Prop:=∃a2,g=some a2/\lp w a2 fun j=>cl 127 #[(vp j),(.agg #[(vi 6),(vi a),(vi 0),(vu 0),ve,(vi 0),(vi 0)])] w fun e d=>∃r2 r3,e=.returned (.tuple #[(vi r2),(vb r3)])/\aj H w d/\∃f:WP,f d.drew/\∀b,b=d.drew->Br r3 (cl 128 #[(vp g),(vi r2)] b<|XC fun i c=>f c/\aj H b c/\K h r2 false i c) (K h r2 false false b)
def OO(n:Option Addr)(u:Int)(b:World)(K:Int->Int->Bool->Bool->WP):Prop:=∃a1,n=some a1/\lp b a1 fun q=>cl 109 #[(vp q),(vi u)] b fun e f=>∃a m j s t g i r1,e=.returned (.tuple #[(Ac a m j s t g i),(vb r1)])/\aj ar b f/\Br (!r1) (∀r k,af b ar f r k->K 0 0 false false k) (∀h:Bool,h=(cond (a==1) (a==1)<|cond (a==2) (a==2)<|a==3)->Br h (∀d c,af b ar f d c->K 0 0 true true c) (Br (a==4) (∀d l,af b ar f d l->K g i false true l)<|Br (a==5) (∀d c,af b ar f d c->K g 0 false true c)<|Br (a==6) (∀d c,af b ar f d c->K 0 0 false false c)<|∀p o,af b ar f p o->Ij n g (cond (a==9) j m) p o K))
def WA(k1 t1 w0 K)(h:OO k1 t1 w0 K):
  cl 161 #[(vp k1),(vi t1)] w0<|XG K:=
 dv func161 h<|nc 5<|ld 1<|cc 1 call109<|cf<|fun {d f i}=>dt<|rt<|ie<|nh 3<|sg 0 0 []<|br 0 3 (ah<|rr 5)<|lh 2 0 [1]<|lh 2 0 []<|jk 0 3 [0,8] (fun a=>[(10,(vi a))]) (fun a H w=>Ij _ _ a H w _) (fun g=>pj 2 0 [(d==1),(d==2)] [0,8,10,26] (fun b=>[(27,(vb<|cond (b 0) (d==1)<|cond (b 1) (d==2)<|d==3))]) (fun c=>pb 0 0 0 c (fun c=>pe 1 0 c)<|fun c=>pb 0 3 1 c (fun c=>pe 1 0 c)<|fun c=>pe 3 0 c)<|yy<|br 0 0 (ah<|rr 5)<|br 0 3 (dq 1<|lh 1 0 [5]<|lh 1 0 [6]<|ah<|rr 4)<|br 0 3 (lh 2 0 [5]<|ah<|rr 4)<|br 0 3 (ah<|rr 5)<|pj 3 0 [(d==9)] [0,8] (fun b=>[(10,(vi<|cond (b 0) i f))]) (fun e=>pb 0 0 0 e (fun e=>lh 2 0 [2]<|pe 1 0 e)<|fun e=>pe 1 0 e)<|ah<|je 0 0 g)<|fun {a}=>nc 1<|ld 1<|il 2 call127<|dC 5 [7] []<|jg 1 0 [5]<|br 1 3 (kr 2 call128<|rr 5)<|rr 8
def wE(m:Int)(b d a:Addr)(l:Bool)(r t:Int)(s u:Int)(H:NP)(w:World)(K:Int->Bool->WP):Prop:=Br (!l) (∃p:Option Nat,w.cell? d=some (.map p)/\∃i:World,(Instr.mapUpdate 232 (.map p) (vi m)<|vb true).run prog w=.ok () i/\aj H w i/\K 0 false i)<|∃o:Option Nat,w.cell? b=some (.map o)/\lx w a fun q=>∃g:World,(Instr.mapUpdate 231 (.map o) (vi m)<|vi (q.len:Int)).run prog w=.ok () g/\aj H w g/\lx g a fun j=>∀n k,au g (.cells #[(vi r),(vi t),(vi s),(vi u)] 173) n k->∃s1:Sl,∃h:World,(Builtin.append_ #[169,169] 169 #[j.v,(Sl.mk (some n) 1 1).v]).run prog k=.ok s1.v h/\aj H k h/\zL h a/\¬H a.block/\∀e,e=h.setCell a s1.v->∃f:Option Nat,e.cell? b=some (.map f)/\∃c,(Instr.lookup 231 (.map f) (vi m) false).run prog e=.ok (vi c) e/\K c true e
def DX(r:Int)(d b:Addr)(f e:Addr)(o:Int)(l:Bool)(s p:Int)(t q:Int)(n:World)(H:NP)(w:World)(K:Int->Bool->WP):Prop:=Br (l&&(decide (o>0))) (∀c a,af n H w c a->∃g:Value,a.cell? f=some g/\∃(m:FuncId) (h k:Array Value),g=.func (.func m) h k/\(∀args w,(callFunc m args).run prog w=.ok (.enter m args) w)/\Calls prog m (h++#[(vi o)]++k) a (XE fun u v i=>aj c a i/\∀j,af n c i c j->wE r d b e v s p u q c j K))<|∀c a,af n H w c a->wE r d b e l s p t q c a K
def G0(l:Int)(c b:Addr)(o j d:Addr)(g:World)(K:Int->Bool->WP):Prop:=∃Q:Option Nat,g.cell? c=some (.map Q)/\∃P C,(Instr.lookup 231 (.map Q) (vi l) true).run prog g=.ok (.tuple #[(vi P),(vb C)]) g/\Br C (K P true g) (∀D m,af g ar g D m->∃R:Option Nat,m.cell? b=some (.map R)/\∃z,(Instr.lookup 232 (.map R) (vi l) false).run prog m=.ok (vb z) m/\lp m o fun T=>∃a1,T=some a1/\∃O:Option Nat,m.cell? (a1.add 2)=some (.map O)/\∃a k s,(Instr.lookup 161 (.map O) (vi l) true).run prog m=.ok (.tuple #[(.agg #[(vi a),(vi k)]),(vb s)]) m/\Br s (Br (a !=0) (∀f i,af g D m f i->∃y:Value,i.cell? j=some y/\∃(H:FuncId) (E A:Array Value),y=.func (.func H) E A/\(∀args w,(callFunc H args).run prog w=.ok (.enter H args) w)/\Calls prog H (E++#[(vi k)]++A) i (XE fun r1 r2 v=>aj f i v/\∀x,af g f v f x->wE l c b d (!z) a r1 0 l f x K))<|∀f i,af g D m f i->wE l c b d (!z) a 0 0 l f i K) (Br (!z) (∀f q,af g D m f q->lp q o fun J=>cl 161 #[(vp J),(vi l)] q fun e p=>∃r3 I M N,e=.returned (.tuple #[(vi r3),(vi I),(vb M),(vb N)])/\aj f q p/\Br (N&&(decide (r3>0))) (∀n h,af g f p n h->∃B:Value,h.cell? j=some B/\∃(G:FuncId) (u F:Array Value),B=.func (.func G) u F/\(∀args w,(callFunc G args).run prog w=.ok (.enter G args) w)/\Calls prog G (u++#[(vi r3)]++F) h (XE fun S L t=>aj n h t/\∀r,af g n t n r->DX l c b j d I L (cond M 4 5) S 0 l g n r K)) (∀n h,af g f p n h->DX l c b j d I N (cond M 4 5) 0 0 l g n h K)) (∀f q,af g D m f q->wE l c b d (!z) 0 0 0 l f q K)))
def Xg(t1 cap1 cap2 cap3 cap4 cap5 w0 K)(h:G0 t1 cap1 cap2 cap3 cap4 cap5 w0 K):
  cl 160 #[(vi t1),(vp<|some cap1),(vp<|some cap2),(vp<|some cap3),(vp<|some cap4),(vp<|some cap5)] w0<|XE K:=
 dv func160 h<|ld 2<|dt<|rn 1<|br 0 6 (rr 4)<|nh 3<|sg 0 0 []<|ah<|ld 0<|xe<|rn 1<|ld 2<|nc 0<|ld 1<|um<|rn 1<|nh 3<|sg 0 0 []<|P2 2 0 [0,1,2,5,11] (fun c e n j p=>[(12,(vb c))]) (fun c e n j p l=>im l 1 0 [(vi e),(vi n),(vi j),(vi p)]) (fun c e n j p H w=>wE _ _ _ _ c e n j p H w _) (fun o=>br 0 0 (lh 2 0 []<|sh 1 1 []<|lh 1 0 []<|br 0 1 (ah<|ld 1<|lh 1 0 [1]<|fo<|fun s=>cv 0 s<|dt<|rt<|ie<|sh 4 1 [1]<|an<|je 0 0 o)<|ah<|je 1 0 o)<|br 0 2 (ah<|ld 1<|ca4 1 call161<|fun {r3 v x y}=>sh 11 1 []<|ph (fun b l=>im l 1 0 [(vi<|cond (b 0) 4 5),(vi 0),(vi 0),(vi t1)]) 2 0 [x] [0,1,2,4,5,11,12,15,16] (fun b=>[]) (fun k=>pb 0 0 0 k (fun k=>sh 2 1 []<|pe 0 0 k)<|fun k=>pe 1 0 k)<|pj 0 0 [y] [0,1,2,4,5,11,12,15,16] (fun b=>[(74,(vb<|(b 0)&&(decide (r3>0))))]) (fun g=>pb 1 2 0 g (fun g=>pe 3 0 g)<|fun g=>pe 3 0 g)<|P2 0 0 [0,1,2,4,5,11,16] (fun a q i d m=>[(12,(vb a))]) (fun a q i d m l=>im l 1 0 [(vi q),(vi i),(vi d),(vi m)]) (fun a q i d m H w=>DX _ _ _ _ _ _ a q i d m _ H w _) (fun u=>br 0 0 (ah<|ld 1<|fo<|fun t=>cv 1 t<|dt<|rt<|ie<|sh 4 1 [1]<|an<|je 1 0 u)<|ah<|je 1 0 u)<|fun {a q i d m}=>pj 0 0 [a] [0,1,2,4,5,11,12,16] (fun b=>[(86,(vb<|(b 0)&&(decide (v>0))))]) (fun f=>pb 1 2 0 f (fun f=>pe 3 0 f)<|fun f=>pe 3 0 f)<|br 0 0 (ah<|ld 1<|fo<|fun r=>cv 1 r<|dt<|rt<|ie<|sh 4 1 [2]<|an<|je 1 0 o)<|ah<|je 1 0 o)<|ah<|je 1 0 o)<|fun {c e n j p}=>br 0 2 (ld 1<|xe<|es 1<|ie<|rr 2)<|ld 1<|ld 1<|xe<|es 1<|ie<|ld 0<|ij 0 1 [] 4<|my 0<|dt<|ef 0<|ie<|np 0<|ld 0<|xe<|rn 1<|rr 2
def Ps(p e:Int)(a i:Addr)(d:World)(K:WP):Prop:=lp d a fun B=>∃a1,B=some a1/\∃s:Option Nat,d.cell? (a1.add 2)=some (.map s)/\∃c b k,(Instr.lookup 161 (.map s) (vi p) true).run prog d=.ok (.tuple #[(.agg #[(vi c),(vi b)]),(vb k)]) d/\Br (!k) (∀f g,af d ar d f g->∃l:WP,l g.drew/\∀o,o=g.drew->∃x,(∀w',l w'->w'.cell? a=some (vp x))/\∃a2,x=some a2/\∃w:Option Nat,(∀w',l w'->w'.cell? (a2.add 2)=some (.map w))/\∃z,(∀w',l w'->w'.cell? i=some (vi z))/\∃n:World,(Instr.mapUpdate 161 (.map w) (vi p)<|.agg #[(vi e),(vi z)]).run prog o=.ok () n/\aj f o n/\∃h:WP,h n.drew/\∀r,r=n.drew->∃q,(∀w',h w'->w'.cell? a=some (vp q))/\∃A,(∀w',h w'->w'.cell? a=some (vp A))/\∃a3,A=some a3/\∃u:Sl,(∀w',h w'->w'.cell? (a3.add 3)=some u.v)/\∀y m,au r (.cells #[(vi p)] 73) y m->h m/\∃s1:Sl,∃j:World,(Builtin.append_ #[46,46] 46 #[u.v,(Sl.mk (some y) 1 1).v]).run prog m=.ok s1.v j/\h j/\aj f m j/\∃a4,q=some a4/\zL j (a4.add 3)/\¬f (a4.add 3).block/\∀t,t=j.setCell (a4.add 3) s1.v->K t) (∀f g,af d ar d f g->K g)
def Sa(t1 rule1 cap1 cap2 w0 K)(h:Ps t1 rule1 cap1 cap2 w0 K):
  cl 181 #[(vi t1),(vi rule1),(vp<|some cap1),(vp<|some cap2)] w0<|fun e w'=>e=.returned (.tuple #[])/\K  w':=
 dv func181 h<|ld 0<|nc 0<|ld 1<|um<|rn 1<|nh 3<|sg 0 0 []<|br 0 3 (ah<|dC 1 [8] [8]<|ik 0<|nc 0<|ik 1<|ik 2<|xe<|es 1<|ie<|dC 0 [6,7,10] [10]<|ik 0<|ik 0<|nc 0<|ik 1<|sZ 1<|dt<|ef 0<|rM<|nc 0<|np 1<|rr 0)<|ah<|rr 1
end Go.Proofs
end
section
open Go Go.SE List
open Go.IntKind renaming i64 -> q6
namespace Go.Proofs
open Tryz
set_option maxRecDepth 100000
set_option maxHeartbeats 4000000
attribute [local irreducible] bu ft fg dw Calls
attribute [local irreducible] jq W WV WR yW pv ku jd nz ka lq ky lj mz mo iq fa im mv kq kp uP xG yA bn ub
def jaf(e:World)(K:(Option Addr)->WP):Prop:=∀b c,au e (.map #[] 0) b c->∀a d,au c (.cells #[Sl.nil.v,(.map<|some b.block)] 160) a d->K (some a) d
def jbr(a:World)(K:(Option Addr)->WP)(h:jaf  a K):
  cl 42 #[] a<|XD K:=
 cy func42 h<|cd 1<|cd 1<|rr 1
def Mw(a:Option Addr)(C y:Int)(A w:Int)(z:ByteArray)(E:Sl)(D:World)(K:Int->Int->WP):Prop:=∀g h,au D (.cells #[(vi C),(vi y),(vi A),(vu w),(vs z),E.v] 71) g h->Br (Option.isNone a) (K 0 0 h) (∀b f,au h (.cells #[(vi 0)] 3) b f->zL f b/\∀d,d=f.setCell b (vi 0)->∃k i r o u t,Row d g (Af k i r o u t)/\cl 124 #[(.agg #[(vi k),(vi i),(vi r),(vu o),(vs u),t.v]),(vi 0),(vp<|some b)] d fun e c=>∃r1,e=.returned (vi r1)/\Br (r1 !=0) (K 0 r1 c) (∃a1,a=some a1/\lx c a1 fun B=>∃s m n l p q,Row c g (Af s m n l p q)/\cl 125 #[(vp a),(.agg #[(vi s),(vi m),(vi n),(vu l),(vs p),q.v])] c fun e j=>∃r2 r3,e=.returned (.tuple #[(vi r2),(vi r3)])/\Br (r3 !=0) (cl 126 #[(vp a),(vi (B.len:Int))] j fun e x=>e=.returned (.tuple #[])/\K 0 r3 x) (K r2 0 j)))
def Rk(p1 aO aP aQ aR aS aT w0 K)(h:Mw p1 aO aP aQ aR aS aT w0 K):
  cl 62 #[(vp p1),(.agg #[(vi aO),(vi aP),(vi aQ),(vu aR),(vs aS),aT.v])] w0<|XH K:=
 cy func62 h<|cd 0<|br 0 4 (rr 3)<|cd 1<|gv 0<|cf<|lr 0<|fy 0 call124<|br 0 3 (rr 4)<|nc 2<|ld 1<|cf<|lr 3<|kz 0 call125<|br 0 7 (wT 3 call126<|rr 3)<|rr 4
def jbu(b:Option Addr)(n1:Int)(a:World)(K:Int->Int->WP):Prop:=cl 132 #[(vp b),(.agg #[(vi 6),(vi n1),(vi 0),(vu 0),ve,(vi 0),(vi 0)])] a<|XH K
def W3(p1 n1 w0 K)(h:jbu p1 n1 w0 K):
  cl 99 #[(vp p1),(vi n1)] w0<|XH K:=
 cy func99 h<|kz 5 call132<|rr 4
def SI(k:Option Addr)(A:Int)(E:World)(K:Int->Int->Int->Int->ByteArray->Int->Int->Bool->WP):Prop:=∀a x,au E (.cells #[(vi 0),(vi 0),(vi 0),(vu 0),ve,(vi 0),(vi 0)] 119) a x->cl 130 #[(vp k),(vi A)] x (XC fun r1 b=>Br (!r1) ((∀j,j<7->zL b (a.add j))/\∀c,c=bb b a [(vi 0),(vi 0),(vi 0),(vu 0),ve,(vi 0),(vi 0)]->∃B m y p n q u,Row c a (Ab B m y p n q u)/\K B m y p n q u false c)<|∃a1,k=some a1/\lx b a1 fun D=>∃a2:Addr,At D (q6.wrap<|A-1) 9 a2/\∃i h v o z e r,Row b a2 (Ab i h v o z e r)/\(∀j,j<7->zL b (a.add j))/\∀d,d=bb b a (Ab i h v o z e r)->∃w g l t C s f,Row d a (Ab w g l t C s f)/\K w g l t C s f true d)
def Mq(p1 t1 w0 K)(h:SI p1 t1 w0 K):
  cl 109 #[(vp p1),(vi t1)] w0<|fun e w'=>∃f d i b a g c r2,e=.returned (.tuple #[(Ac f d i b a g c),(vb r2)])/\K f d i b a g c r2 w':=
 cy func109 h<|cd 0<|fy 3 call130<|br 0 1 (dh 2<|dx 1<|cf<|xe<|gh<|dy)<|nc 2<|ld 1<|ix 2<|cf<|xe<|lr 1<|dh 0<|dx 1<|cf<|xe<|gh<|dy
def Ku(b:Int)(c:Option Addr)(g:Addr)(d i1:Int)(a:World)(e:Int->Int->WP)(K:Int->WP):Prop:=lx a (g.add 5) fun l=>Br (decide (i1<(l.len:Int))) (Br (d==0) (lx a (g.add 5) fun n=>∃a3:Addr,At n i1 6 a3/\∃f j bK k i h,Row a a3 (Af f j bK k i h)/\cl 124 #[(.agg #[(vi f),(vi j),(vi bK),(vu k),(vs i),h.v]),(vi<|q6.wrap<|b+1),(vp c)] a (XB fun r2 m=>e r2 (q6.wrap<|i1+1) m)) (K d a)) (K d a)
def CL(a:Int)(b:Option Addr)(j:Addr)(i:Int)(w:World)(K:Int->WP):Prop:=∃(h:Int->Int->WP) (e:Int->Int->World->Nat),h i 0 w/\∀(g i1:Int) (c:World),h g i1 c->Ku a b j g i1 c (fun d f w'=>h d f w'/\e d f w'<e g i1 c) K
def BI(a:Int)(e:Option Addr)(m s r:Addr)(q:Int)(w:World)(K:Int->WP):Prop:=Br (q==0) (∃b g f c d,Row w r (Ah b g f c d)/\∃i o n p k j l,Row w s (Ab i o n p k j l)/\cl 177 #[(.agg #[(vb b),(vb g),(vb f),(vb c),(vi d)]),(.agg #[(vi i),(vi o),(vi n),(vu p),(vs k),(vi j),(vi l)])] w (XB fun r3 h=>CL a e m r3 h K))<|CL a e m q w K
def PZ(a:Int)(b:Option Addr)(l:Addr)(w:World)(K:Int->WP):Prop:=∃a1,b=some a1/\li w a1 fun R=>∃a2,b=some a2/\zL w a2/\∀p,p=w.setCell a2 (vi<|q6.wrap<|R+1)->∃u s G C N M,Row p l (Af u s G C N M)/\cl 175 #[(.agg #[(vi u),(vi s),(vi G),(vu C),(vs N),M.v])] p fun e P=>∃A t I D y H L,e=.returned (Ac A t I D y H L)/\∀i q,au P (.cells #[(vi 0),(vi 0),(vi 0),(vu 0),ve,(vi 0),(vi 0)] 119) i q->(∀j,j<7->zL q (i.add j))/\∀n,n=bb q i (Ab A t I D y H L)->∃J z B x E r F,Row n i (Ab J z B x E r F)/\cl 176 #[(.agg #[(vi J),(vi z),(vi B),(vu x),(vs E),(vi r),(vi F)])] n (XI fun f m g d c r1 O=>∀h o,au O (.cells #[(vb false),(vb false),(vb false),(vb false),(vi 0)] 263) h o->(∀j,j<5->zL o (h.add j))/\∀k,k=bb o h (Ah f m g d c)->Br (r1==0) (lx k (l.add 5) fun Q=>li k (h.add 4) fun S=>Br (((Q.len:Int):Int) !=S) (BI a b l i h 53 k K)<|BI a b l i h r1 k K) (BI a b l i h r1 k K))
def Me(l g:Int)(e j:Int)(i:ByteArray)(k:Sl)(a:Int)(b:Option Addr)(h:World)(K:Int->WP):Prop:=∀d c,au h (.cells #[(vi l),(vi g),(vi e),(vu j),(vs i),k.v] 71) d c->∃a4,b=some a4/\li c a4 fun f=>Br (decide (f>=4096)) (K 52 c)<|Br (decide (a>=64)) (K 52 c)<|PZ a b d c K
def w_L(aO aP aQ aR aS aT inside1 seen1 w0 K)(h:Me aO aP aQ aR aS aT inside1 seen1 w0 K):
  cl 124 #[(.agg #[(vi aO),(vi aP),(vi aQ),(vu aR),(vs aS),aT.v]),(vi inside1),(vp seen1)] w0<|XB K:=
 cy func124 h<|cd 0<|Eh 1 1 [1,2,3] ([]) (fun w=>PZ _ _ _ w _) (fun f=>nc 1<|ld 0<|br 1 2 (rr 5)<|br 0 3 (rr 2)<|de 1 f)<|nc 1<|ld 0<|nc 1<|gv 0<|cf<|lr 0<|cc 0 call175<|cf<|xe<|rt<|ev<|cd 0<|dh 0<|cf<|xe<|lr 0<|lf 0 call176<|cd 3<|dh 0<|mc 1 1 [1,2,3,7,8] (fun b=>[(9,(vi b))]) (fun b w=>BI _ _ _ _ _ b w _) (fun c=>br 1 3 (ld 1<|ld 2<|br 0 2 (de 2 c)<|de 1 c)<|de 8 c)<|fun {b}=>mc 0 1 [1,2,3] (fun a=>[(9,(vi a))]) (fun a w=>CL _ _ _ a w _) (fun d=>br 0 2 (gw<|lr 1<|cf<|xe<|lr 0<|fy 0 call177<|de 1 d)<|de 1 d)<|fun {a}=>Dy 1 [1,2,3] (fun e i1=>[(9,(vi e)),(10,(vi i1))])<|fun {_ _ e i1}=>fun g=>ld 2<|br 1 3 (br 0 3 (ld 2<|ix 1<|cf<|lr 0<|fy 3 call124<|de 4 g)<|rr 3)<|rr 6
def TN(q:Option Addr)(F G:Addr)(t:Sl)(d:Int)(a:World)(g:Int->WP)(K:Int->Int->WP):Prop:=Br (decide (d<(t.len:Int))) (∃a1:Addr,At t d 6 a1/\∃C p r n u w,Row a a1 (Af C p r n u w)/\∀c e,au a (.cells #[(vi 0),(vi 0),(vi 0),(vu 0),ve,Sl.nil.v] 71) c e->(∀j,j<6->zL e (c.add j))/\∀f,f=bb e c (Af C p r n u w)->∃o m bK s z l,Row f c (Af o m bK s z l)/\cl 125 #[(vp q),(.agg #[(vi o),(vi m),(vi bK),(vu s),(vs z),l.v])] f (XH fun r1 r2 b=>Br (r2 !=0) (K 0 r2 b)<|∃a2:Addr,At (Sl.mk (some G) 2 2) d 1 a2/\lp b a2 fun E=>∃a3,E=some a3/\zL b a3/\∀A,A=b.setCell a3 (vi r1)->g (q6.wrap<|d+1) A)) (∃i B y D k h x,Row a F (Ab i B y D k h x)/\cl 132 #[(vp q),(.agg #[(vi i),(vi B),(vi y),(vu D),(vs k),(vi h),(vi x)])] a (XH K))
def Ma(E:Option Addr)(J D:Int)(G C:Int)(F:ByteArray)(M:Sl)(L:World)(K:Int->Int->WP):Prop:=∀k l,au L (.cells #[(vi J),(vi D),(vi G),(vu C),(vs F),M.v] 71) k l->∃o m u r B A,Row l k (Af o m u r B A)/\cl 175 #[(.agg #[(vi o),(vi m),(vi u),(vu r),(vs B),A.v])] l fun e I=>∃q n x s p y z,e=.returned (Ac q n x s p y z)/\∀b h,au I (.cells #[(vi 0),(vi 0),(vi 0),(vu 0),ve,(vi 0),(vi 0)] 119) b h->(∀j,j<7->zL h (b.add j))/\∀w,w=bb h b (Ab q n x s p y z)->∀t f,au w (.cells #[(vp<|some<|b.add 5),(vp<|some<|b.add 6)] 267) t f->lx f (k.add 5) fun H=>∃(g:Int->WP) (d:Int->World->Nat),g 0 f/\∀(i:Int) (a:World),g i a->TN E b t H i a (fun c w'=>g c w'/\d c w'<d i a) K
def jbi(p1 aO aP aQ aR aS aT w0 K)(h:Ma p1 aO aP aQ aR aS aT w0 K):
  cl 125 #[(vp p1),(.agg #[(vi aO),(vi aP),(vi aQ),(vu aR),(vs aS),aT.v])] w0<|XH K:=
 cy func125 h<|cd 0<|cf<|lr 2<|cc 0 call175<|cf<|xe<|rt<|ev<|cd 0<|dh 0<|cd 2<|ld 2<|zg 2 [0,6,7,18,19] (fun a=>[(20,(vi a))])<|fun {_ _ a}=>fun b=>br 0 1 (ix 2<|cf<|lr 0<|cd 0<|dh 1<|cf<|lr 1<|kz 0 call125<|br 0 7 (rr 4)<|ix 3<|ld 0<|nc 1<|gv 0<|de 2 b)<|cf<|xe<|lr 2<|kz 0 call132<|rr 4
def Wd(n:Option Addr)(n1:Int)(s1:Sl)(p:Int)(i:World)(q:Int->WP)(K:WP):Prop:=Br (decide (p<(s1.len:Int))) (∃a2:Addr,At s1 p 9 a2/\∃c a e d b f g k h,Row i a2 [(vi c),(vi a),(vi e),(vu d),(vs b),(vi f),(vi g),(vi k),(vi h)]/\∀l r,au i (.cells #[(vi 0),(vi 0),(vi 0),(vu 0),ve,(vi 0),(vi 0),(vi 0),(vi 0)] 248) l r->(∀j,j<9->zL r (l.add j))/\∀o,o=bb r l [(vi c),(vi a),(vi e),(vu d),(vs b),(vi f),(vi g),(vi k),(vi h)]->∃m:WP,m o.drew/\∀y,y=o.drew->∃a3,n=some a3/\∃x:Option Nat,(∀w',m w'->w'.cell? (a3.add 1)=some (.map x))/\∃w t C z E s A,(∀w',m w'->Row w' l (Ab w t C z E s A))/\∃D:World,(Builtin.delete_ #[157,119] 0 #[(.map x),(Ac w t C z E s A)]).run prog y=.ok (.tuple #[]) D/\q (q6.wrap<|p+1) D)<|∃a4,n=some a4/\lx i a4 fun F=>∃B:Sl,(Instr.sliceAt 158 F.v none (some<|vi n1) none).run prog i=.ok B.v i/\∃a5,n=some a5/\zL i a5/\∀u,u=i.setCell a5 B.v->K u
def HN(g:Option Addr)(n1:Int)(d:World)(K:WP):Prop:=∃a1,g=some a1/\lx d a1 fun h=>∃s1:Sl,(Instr.sliceAt 158 h.v (some<|vi n1) none none).run prog d=.ok s1.v d/\∃(f:Int->WP) (c:Int->World->Nat),f 0 d/\∀(e:Int) (a:World),f e a->Wd g n1 s1 e a (fun b w'=>f b w'/\c b w'<c e a) K
def jay(p1 n1 w0 K)(h:HN p1 n1 w0 K):
  cl 126 #[(vp p1),(vi n1)] w0<|fun e w'=>e=.returned (.tuple #[])/\K  w':=
 cy func126 h<|nc 1<|ld 1<|xe<|rn 1<|zg 2 [0,1,11,12] (fun a=>[(13,(vi a))])<|fun {_ _ a}=>fun b=>br 0 1 (ix 1<|cf<|um<|lr 0<|cd 0<|dh 0<|sO 0 [6] [6]<|nc 1<|ik 1<|cf<|xe<|Az 1<|xe<|ef 0<|ev<|de 2 b)<|nc 3<|ld 1<|xe<|rn 1<|nc 0<|gv 1<|rr 0
def Wa(h:Option Addr)(t o:Int)(r p:Int)(v:ByteArray)(q s:Int)(u:World)(K:Int->Bool->WP):Prop:=∀m c,au u (.cells #[(vi t),(vi o),(vi r),(vu p),(vs v),(vi q),(vi s)] 119) m c->Br (Option.isNone h) (K 0 false c) (∀a,a=c.drew->∃a1,h=some a1/\∃j:Option Nat,a.cell? (a1.add 1)=some (.map j)/\∃f e l i n d k,Row a m (Ab f e l i n d k)/\∃g b,(Instr.lookup 157 (.map j) (.agg #[(vi f),(vi e),(vi l),(vu i),(vs n),(vi d),(vi k)]) true).run prog a=.ok (.tuple #[(vi g),(vb b)]) a/\K g b a)
def jbe(p1 aA aB aC aD aE aF aG w0 K)(h:Wa p1 aA aB aC aD aE aF aG w0 K):
  cl 127 #[(vp p1),(.agg #[(vi aA),(vi aB),(vi aC),(vu aD),(vs aE),(vi aF),(vi aG)])] w0<|XE K:=
 cy func127 h<|cd 0<|br 0 4 (rr 3)<|Mx 1<|nc 1<|ld 1<|cf<|xe<|lr 0<|dt<|rn 0<|rr 9
def Cg(c:Option Addr)(a:Int)(b:Bool)(w:World)(K:Bool->WP):Prop:=Br b (∃a1,c=some a1/\lx w a1 fun d=>K (decide (a<=(d.len:Int))) w)<|K false w
def HI(b:Option Addr)(a:Int)(c:World)(K:Bool->WP):Prop:=Br (!(Option.isNone b)) (Cg b a (decide (a>=1)) c K)<|Cg b a false c K
def Ly(p1 t1 w0 K)(h:HI p1 t1 w0 K):
  cl 130 #[(vp p1),(vi t1)] w0<|XC K:=
 cy func130 h<|ct 4 3<|mc 0 0 [0,1] (fun a=>[(10,(vb a))]) (fun a w=>Cg _ _ a w _) (fun b=>br 1 0 (de 3 b)<|de 3 b)<|fun {a}=>br 1 1 (nc 2<|ld 1<|rr 4)<|rr 9
def jce(f:Option Addr)(g:Int)(e:World)(K:Value->WP):Prop:=∀a b,au e (.cells #[(vp f)] 91) a b->∀c d,au b (.cells #[(vi g)] 73) c d->K (.func (.func 178) #[] #[(vp<|some a),(vp<|some c)]) d
def jcz(p1 t1 w0 K)(h:jce p1 t1 w0 K):
  cl 131 #[(vp p1),(vi t1)] w0<|fun e w'=>∃r1:Value,e=.returned r1/\K r1 w':=
 cy func131 h<|cd 0<|cd 0<|rr 3
def O6(b:Option Addr)(aA Y:Int)(aC Z:Int)(aE:ByteArray)(aF aG:Int)(w0:World)(K:Int->Int->WP):Prop:=∀e h,au w0 (.cells #[(vi aA),(vi Y),(vi aC),(vu Z),(vs aE),(vi aF),(vi aG)] 119) e h->Br (Option.isNone b) (K 0 0 h) (∃t o P G V k I,Row h e (Ab t o P G V k I)/\cl 180 #[(vp b),(.agg #[(vi t),(vi o),(vi P),(vu G),(vs V),(vi k),(vi I)])] h (XJ fun r1 r2 r3 O=>Br (r3 !=0) (K 0 r3 O)<|∀a,a=O.drew->∃a1,b=some a1/\∃H:Option Nat,a.cell? (a1.add 1)=some (.map H)/\∃S y C u J n q,Row a e (Ab S y C u J n q)/\∃x d,(Instr.lookup 157 (.map H) (.agg #[(vi S),(vi y),(vi C),(vu u),(vs J),(vi n),(vi q)]) true).run prog a=.ok (.tuple #[(vi x),(vb d)]) a/\Br d (K x 0 a) (∃a2,b=some a2/\lx a a2 fun v3=>Br (decide ((v3.len:Int)>=65536)) (K 0 6 a)<|∃c:WP,c a.drew/\∀Q,Q=a.drew->∃a3,b=some a3/\∃F:Sl,(∀w',c w'->w'.cell? a3=some F.v)/\∃z s bK E M W w,(∀w',c w'->Row w' e (Ab z s bK E M W w))/\∀A i,au Q (.cells #[(vi z),(vi s),(vi bK),(vu E),(vs M),(vi W),(vi w),(vi r1),(vi r2)] 248) A i->c i/\∃s1:Sl,∃f:World,(Builtin.append_ #[158,158] 158 #[F.v,(Sl.mk (some A) 1 1).v]).run prog i=.ok s1.v f/\c f/\∃a4,b=some a4/\zL f a4/\∀g,g=f.setCell a4 s1.v->∃a5,b=some a5/\lx g a5 fun U=>∃j:WP,j g.drew/\∀B,B=g.drew->∃D,b=some D/\∃l:Option Nat,(∀w',j w'->w'.cell? (D.add 1)=some (.map l))/\∃m R L T p X r,(∀w',j w'->Row w' e (Ab m R L T p X r))/\∃N:World,(Instr.mapUpdate 157 (.map l) (.agg #[(vi m),(vi R),(vi L),(vu T),(vs p),(vi X),(vi r)])<|vi (U.len:Int)).run prog B=.ok () N/\K (U.len:Int) 0 N)))
def Xe(p1 aA aB aC aD aE aF aG w0 K)(h:O6 p1 aA aB aC aD aE aF aG w0 K):
  cl 132 #[(vp p1),(.agg #[(vi aA),(vi aB),(vi aC),(vu aD),(vs aE),(vi aF),(vi aG)])] w0<|XH K:=
 cy func132 h<|cd 0<|br 0 4 (rr 3)<|cf<|xe<|lr 2<|BS 0 call180<|br 0 9 (rr 4)<|Mx 1<|nc 1<|ld 1<|cf<|xe<|lr 0<|dt<|rn 0<|br 0 6 (rr 4)<|nc 2<|ld 1<|br 0 2 (rr 3)<|sO 1 [9,10,13] [13]<|nc 2<|ik 1<|cf<|xe<|Az 0<|o0 3<|dt<|ef 0<|jx<|nc 0<|gv 1<|nc 1<|ld 1<|sO 2 [6] [6]<|nc 1<|ik 1<|cf<|xe<|Az 0<|xe<|es 1<|ev<|rr 3
def Oz(b:Option Addr)(a:World)(K:Int->WP):Prop:=Br (Option.isNone b) (K 0 a)<|∃a1,b=some a1/\lx a a1 fun c=>K (c.len:Int) a
def jbC(p1 w0 K)(h:Oz p1 w0 K):
  cl 136 #[(vp p1)] w0<|XB K:=
 cy func136 h<|br 0 3 (rr 2)<|nc 2<|ld 1<|rr 2
def jcQ(u p:Int)(r n:Int)(q:ByteArray)(z:Sl)(x:World)(K:Int->Int->Int->Int->ByteArray->Int->Int->WP):Prop:=∀b k,au x (.cells #[(vi u),(vi p),(vi r),(vu n),(vs q),z.v] 71) b k->∀c a,au k (.cells #[(vi 0),(vi 0),(vi 0),(vu 0),ve,(vi 0),(vi 0)] 119) c a->li a b fun t=>li a (b.add 1) fun o=>li a (b.add 2) fun w=>lu a (b.add 3) fun s=>ls a (b.add 4) fun y=>(∀j,j<7->zL a (c.add j))/\∀d,d=bb a c (Ab t o w s y 0 0)->∃m e l g f h i,Row d c (Ab m e l g f h i)/\K m e l g f h i d
def UF(aO aP aQ aR aS aT w0 K)(h:jcQ aO aP aQ aR aS aT w0 K):
  cl 175 #[(.agg #[(vi aO),(vi aP),(vi aQ),(vu aR),(vs aS),aT.v])] w0<|fun e w'=>∃f d i b a g c,e=.returned (Ac f d i b a g c)/\K f d i b a g c w':=
 cy func175 h<|cd 0<|cd 0<|ld 1<|ld 1<|ld 1<|ld 1<|ld 1<|dh 1<|dx 0<|cf<|xe<|gh<|dy
def Bi(Y A S:Addr)(Z:Bool)(w:World)(K:Bool->Bool->Bool->Bool->Int->Int->WP):Prop:=Br Z (∃f M I h x,Row w S (Ah f M I h x)/\(∀j,j<5->zL w (A.add j))/\∀T,T=bb w A (Ah f M I h x)->∃k J E s u,Row T A (Ah k J E s u)/\K k J E s u 53 T)<|lb w (S.add 3) fun X=>Br (!X) (ls w (Y.add 4) fun v3=>Br (!(decide (v3=⟨#[]⟩))) (∃e N B o r,Row w S (Ah e N B o r)/\(∀j,j<5->zL w (A.add j))/\∀V,V=bb w A (Ah e N B o r)->∃q L F a n,Row V A (Ah q L F a n)/\K q L F a n 53 V)<|∃c O G g b,Row w S (Ah c O G g b)/\(∀j,j<5->zL w (A.add j))/\∀U,U=bb w A (Ah c O G g b)->∃p Q D z m,Row U A (Ah p Q D z m)/\K p Q D z m 0 U) (∃v R H i d,Row w S (Ah v R H i d)/\(∀j,j<5->zL w (A.add j))/\∀W,W=bb w A (Ah v R H i d)->∃l P C t y,Row W A (Ah l P C t y)/\K l P C t y 0 W)
def Eo(b a c:Addr)(d e:Bool)(w:World)(K:Bool->Bool->Bool->Bool->Int->Int->WP):Prop:=Br d (Bi b a c true w K)<|Bi b a c e w K
def BC(a d b:Addr)(c:Bool)(w:World)(K:Bool->Bool->Bool->Bool->Int->Int->WP):Prop:=Br c (Bi a d b true w K)<|lb w (b.add 2) fun e=>Br (!e) (lu w (a.add 3) fun f=>Eo a d b c (f !=0) w K) (Eo a d b c false w K)
def Fp(b a c:Addr)(e d:Bool)(w:World)(K:Bool->Bool->Bool->Bool->Int->Int->WP):Prop:=Br e (BC b a c true w K)<|BC b a c d w K
def Cn(a c b:Addr)(d:Bool)(w:World)(K:Bool->Bool->Bool->Bool->Int->Int->WP):Prop:=Br d (BC a c b true w K)<|lb w (b.add 1) fun e=>Br (!e) (li w (a.add 2) fun f=>Fp a c b d (f !=0) w K) (Fp a c b d false w K)
def Fg(c a:Addr)(r1:Bool)(b:Addr)(d:Bool)(w:World)(K:Bool->Bool->Bool->Bool->Int->Int->WP):Prop:=Br (!r1) (Cn c a b true w K)<|Cn c a b d w K
def Pr(w o:Int)(u p:Int)(y:ByteArray)(r v:Int)(x:World)(K:Bool->Bool->Bool->Bool->Int->Int->WP):Prop:=∀g m,au x (.cells #[(vi w),(vi o),(vi u),(vu p),(vs y),(vi r),(vi v)] 119) g m->∀i k,au m (.cells #[(vb false),(vb false),(vb false),(vb false),(vi 0)] 263) i k->li k g fun t=>cl 265 #[(vi t)] k<|XK fun c h d b a r1 q=>∀e l,au q (.cells #[(vb false),(vb false),(vb false),(vb false),(vi 0)] 263) e l->(∀j,j<5->zL l (e.add j))/\∀f,f=bb l e (Ah c h d b a)->Br (!r1) (Cn g i e true f K) (lb f e fun s=>Br (!s) (li f (g.add 1) fun n=>Fg g i r1 e (n !=0) f K) (Fg g i r1 e false f K))
def RQ(aA aB aC aD aE aF aG w0 K)(h:Pr aA aB aC aD aE aF aG w0 K):
  cl 176 #[(.agg #[(vi aA),(vi aB),(vi aC),(vu aD),(vs aE),(vi aF),(vi aG)])] w0<|XI K:=
 cy func176 h<|cd 0<|cd 0<|ld 2<|lf 0 call265<|cd 3<|dh 0<|ct 4 9<|mc 0 0 [1,2,4] (fun f=>[(23,(vb f))]) (fun f w=>Cn _ _ _ f w _) (fun i=>br 1 0 (de 9 i)<|ld 1<|ct 2 4<|mc 0 0 [1,2,4,14] (fun d=>[(22,(vb d))]) (fun d w=>Fg _ _ _ _ d w _) (fun k=>br 1 0 (ld 1<|de 2 k)<|de 4 k)<|fun {d}=>br 2 0 (de 1 i)<|de 1 i)<|fun {f}=>ct 1 9<|mc 0 0 [1,2,4] (fun a=>[(33,(vb a))]) (fun a w=>BC _ _ _ a w _) (fun j=>br 1 0 (de 9 j)<|ld 1<|ct 2 4<|mc 0 0 [1,2,4,24] (fun e=>[(32,(vb e))]) (fun e w=>Fp _ _ _ _ e w _) (fun m=>br 1 0 (ld 1<|de 2 m)<|de 4 m)<|fun {e}=>br 2 0 (de 1 j)<|de 1 j)<|fun {a}=>ct 1 9<|mc 0 0 [1,2,4] (fun b=>[(43,(vb b))]) (fun b w=>Bi _ _ _ b w _) (fun g=>br 1 0 (de 9 g)<|ld 1<|ct 2 4<|mc 0 0 [1,2,4,34] (fun c=>[(42,(vb c))]) (fun c w=>Eo _ _ _ _ c w _) (fun l=>br 1 0 (ld 1<|de 2 l)<|de 4 l)<|fun {c}=>br 2 0 (de 1 g)<|de 1 g)<|fun {b}=>br 1 1 (gw<|lr 10<|dh 0<|dx 1<|gw<|gh<|dy)<|ld 1<|br 1 2 (ld 1<|br 0 3 (gw<|lr 1<|dh 0<|dx 1<|gw<|gh<|dy)<|gw<|lr 1<|dh 0<|dx 1<|gw<|gh<|dy)<|gw<|lr 6<|dh 0<|dx 1<|gw<|gh<|dy
def DG(f b:Addr)(i:Bool)(w:World)(K:Int->WP):Prop:=Br i (K 50 w)<|lb w (f.add 1) fun g=>Br g (li w (b.add 2) fun e=>cl 266 #[(vi e)] w<|XC fun r1 a=>Br (!r1) (K 50 a)<|li a (b.add 2) fun j=>li a (b.add 1) fun c=>Br (j==c) (K 50 a)<|ls a (b.add 4) fun h=>Br (decide ((h.size:Int)>64)) (K 1 a)<|K 0 a) (ls w (b.add 4) fun d=>Br (decide ((d.size:Int)>64)) (K 1 w)<|K 0 w)
def jbF(a e:Bool)(d c:Bool)(b p:Int)(j n k:Int)(t:ByteArray)(l o:Int)(r:World)(K:Int->WP):Prop:=∀g i,au r (.cells #[(vb a),(vb e),(vb d),(vb c),(vi b)] 263) g i->∀h f,au i (.cells #[(vi p),(vi j),(vi n),(vu k),(vs t),(vi l),(vi o)] 119) h f->lb f g fun s=>Br s (li f (h.add 1) fun m=>cl 266 #[(vi m)] f<|XC fun r2 q=>DG g h (!r2) q K) (DG g h false f K)
def Xv(sfrom1 sto1 snum1 stext1 skids1 aA aB aC aD aE aF aG w0 K)(h:jbF sfrom1 sto1 snum1 stext1 skids1 aA aB aC aD aE aF aG w0 K):
  cl 177 #[(.agg #[(vb sfrom1),(vb sto1),(vb snum1),(vb stext1),(vi skids1)]),(.agg #[(vi aA),(vi aB),(vi aC),(vu aD),(vs aE),(vi aF),(vi aG)])] w0<|XB K:=
 cy func177 h<|cd 0<|cd 0<|mc 1 0 [2,3] (fun a=>[(5,(vb a))]) (fun a w=>DG _ _ a w _) (fun b=>ld 1<|br 1 1 (ld 1<|fy 0 call266<|de 3 b)<|de 6 b)<|fun {a}=>br 0 0 (rr 3)<|ld 2<|br 1 1 (ld 1<|fy 0 call266<|br 1 2 (rr 10)<|ld 1<|ld 1<|br 0 4 (rr 2)<|ld 2<|br 0 3 (rr 2)<|rr 2)<|ld 15<|br 0 3 (rr 2)<|rr 2
def Yg(u:Option Addr)(t:Int)(A:World)(K:Sl->WP):Prop:=∀l s,au A (.cells #[(vp u)] 91) l s->∀d r,au s (.cells #[Sl.nil.v] 46) d r->∀p o,au r (.map #[] 0) p o->∀g k,au o (.cells #[(.map none)] 231) g k->zL k g/\∀m,m=k.setCell g (.map<|some p.block)->∀b i,au m (.cells #[(.nilFunc:Value)] 192) b i->zL i b/\∀j,j=i.setCell b (.func (.func 267) #[] #[(vp<|some g),(vp<|some l),(vp<|some b),(vp<|some d)])->lp j l fun y=>cl 130 #[(vp y),(vi t)] j fun e f=>∃r1,e=.returned (vb r1)/\Br r1 (∃n:Value,f.cell? b=some n/\∃(h:FuncId) (c a:Array Value),n=.func (.func h) c a/\(∀args w,(callFunc h args).run prog w=.ok (.enter h args) w)/\Calls prog h (c++#[(vi t)]++a) f fun e q=>e=.returned (.tuple #[])/\lx q d fun z=>K z q) (lx f d fun x=>K x f)
def W0(p1 t1 w0 K)(h:Yg p1 t1 w0 K):
  cl 179 #[(vp p1),(vi t1)] w0<|XA K:=
 cy func179 h<|cd 0<|cd 1<|cd 0<|cd 0<|gv 0<|cd 0<|gv 1<|ld 0<|fy 1 call130<|br 0 0 (ld 1<|fo<|fun a=>cv 1 a<|rt<|ev<|ld 0<|rr 1)<|ld 1<|rr 1
def OC(f:Option Addr)(s1:Sl)(b a i:Int)(c:World)(g:Int->Int->Int->WP)(K:Int->Int->Int->WP):Prop:=Br (decide (i<(s1.len:Int))) (∃a1:Addr,At s1 i 1 a1/\li c a1 fun d=>cl 130 #[(vp f),(vi d)] c fun e j=>∃r2,e=.returned (vb r2)/\Br (!r2) (K 0 0 51 j) (cl 269 #[(vp f),(vi d)] j fun e l=>∃r3,e=.returned (vi r3)/\cl 270 #[(vp f),(vi d)] l (XB fun m h=>∃k,(Builtin.max_ #[3,3] 3 #[(vi a),(vi m)]).run prog h=.ok (vi k) h/\g (q6.wrap<|b+r3) k (q6.wrap<|i+1) h))) (Br (decide (b>4096)) (K 0 0 52 c)<|Br (decide ((q6.wrap<|a+1)>64)) (K 0 0 52 c)<|K b (q6.wrap<|a+1) 0 c)
def CY(o:Option Addr)(k q:Addr)(l:Int)(w:World)(K:Int->Int->Int->WP):Prop:=Br (l !=0) (K 0 0 l w)<|li w (k.add 5) fun p=>li w (k.add 6) fun n=>∀m f,au w (.cells #[(vi p),(vi n)] 73) m f->li f (q.add 4) fun r=>∃s1:Sl,(Instr.sliceAt 46 (Sl.mk (some m) 2 2).v none (some<|vi r) none).run prog f=.ok s1.v f/\∃(j:Int->Int->Int->WP) (e:Int->Int->Int->World->Nat),j 1 0 0 f/\∀(b a i:Int) (c:World),j b a i c->OC o s1 b a i c (fun d g h w'=>j d g h w'/\e d g h w'<e b a i c) K
def sG(j:Option Addr)(f g:Addr)(n:Int)(w:World)(K:Int->Int->Int->WP):Prop:=Br (n==0) (∃a e d b c,Row w g (Ah a e d b c)/\∃h i o p m k l,Row w f (Ab h i o p m k l)/\cl 177 #[(.agg #[(vb a),(vb e),(vb d),(vb b),(vi c)]),(.agg #[(vi h),(vi i),(vi o),(vu p),(vs m),(vi k),(vi l)])] w (XB fun q r=>CY j f g q r K))<|CY j f g n w K
def CN(b:Option Addr)(a:Addr)(r1:Int)(c:Addr)(d e:Bool)(w:World)(K:Int->Int->Int->WP):Prop:=Br (r1==0) (Br d (sG b a c 53 w K)<|Br e (sG b a c 53 w K)<|sG b a c r1 w K)<|sG b a c r1 w K
def DA(c:Option Addr)(a:Addr)(r1:Int)(b:Addr)(d:Bool)(w:World)(K:Int->Int->Int->WP):Prop:=Br (r1==0) (Br d (sG c a b 53 w K)<|li w (b.add 4) fun e=>Br (decide (e<2)) (li w (a.add 6) fun f=>CN c a r1 b d (f !=0) w K) (CN c a r1 b d false w K)) (sG c a b r1 w K)
def JM(i:Option Addr)(A t:Int)(x u:Int)(D:ByteArray)(v y:Int)(B:World)(K:Int->Int->Int->WP):Prop:=∀g l,au B (.cells #[(vi A),(vi t),(vi x),(vu u),(vs D),(vi v),(vi y)] 119) g l->∃o n r p s m q,Row l g (Ab o n r p s m q)/\cl 176 #[(.agg #[(vi o),(vi n),(vi r),(vu p),(vs s),(vi m),(vi q)])] l (XI fun c h d b a r1 z=>∀e k,au z (.cells #[(vb false),(vb false),(vb false),(vb false),(vi 0)] 263) e k->(∀j,j<5->zL k (e.add j))/\∀f,f=bb k e (Ah c h d b a)->Br (r1==0) (li f (e.add 4) fun C=>Br (decide (C<1)) (li f (g.add 5) fun w=>DA i g r1 e (w !=0) f K) (DA i g r1 e false f K)) (sG i g e r1 f K))
def w_G(p1 aA aB aC aD aE aF aG w0 K)(h:JM p1 aA aB aC aD aE aF aG w0 K):
  cl 180 #[(vp p1),(.agg #[(vi aA),(vi aB),(vi aC),(vu aD),(vs aE),(vi aF),(vi aG)])] w0<|XJ K:=
 cy func180 h<|cd 0<|cf<|xe<|lr 3<|lf 0 call176<|cd 3<|dh 0<|mc 1 1 [0,3,7] (fun g=>[(8,(vi g))]) (fun g w=>sG _ _ _ g w _) (fun c=>br 1 3 (ld 1<|ct 2 4<|mc 0 0 [0,3,7,8,20] (fun d=>[(28,(vb d))]) (fun d w=>DA _ _ _ _ d w _) (fun j=>br 1 0 (ld 1<|de 2 j)<|de 4 j)<|fun {d}=>br 1 0 (br 1 1 (de 12 c)<|ld 1<|ct 2 4<|mc 0 0 [0,3,7,8,20,29] (fun f=>[(37,(vb f))]) (fun f w=>CN _ _ _ _ _ f w _) (fun k=>br 1 0 (ld 1<|de 2 k)<|de 4 k)<|fun {f}=>br 1 0 (br 2 0 (de 4 c)<|br 0 2 (de 2 c)<|de 1 c)<|de 3 c)<|de 12 c)<|de 20 c)<|fun {g}=>mc 0 1 [0,3,7] (fun e=>[(8,(vi e))]) (fun e w=>CY _ _ _ e w _) (fun i=>br 0 2 (gw<|lr 1<|cf<|xe<|lr 0<|fy 0 call177<|de 1 i)<|de 1 i)<|fun {e}=>br 0 2 (rr 5)<|ld 4<|ld 1<|cd 0<|ld 1<|xe<|rn 0<|QU 2 [0,55,56] (fun b a l=>[(9,(vi b)),(10,(vi a)),(57,(vi l))])<|fun {_ _ b a l}=>fun m=>br 0 1 (ix 1<|ld 0<|fy 3 call130<|br 0 1 (rr 4)<|fy 4 call269<|fy 5 call270<|xe<|rn 0<|de 3 m)<|br 1 7 (rr 7)<|br 0 3 (rr 4)<|rr 6
def jco(b:Option Addr)(n1:Int)(a:World)(K:Int->Int->WP):Prop:=cl 132 #[(vp b),(.agg #[(vi 1),(vi n1),(vi 0),(vu 0),ve,(vi 0),(vi 0)])] a<|XH K
def TU(p1 n1 w0 K)(h:jco p1 n1 w0 K):
  cl 225 #[(vp p1),(vi n1)] w0<|XH K:=
 cy func225 h<|kz 5 call132<|rr 4
def Tx(b:Option Addr)(n1:Int)(a:World)(K:Int->Int->WP):Prop:=cl 132 #[(vp b),(.agg #[(vi 2),(vi 0),(vi 0),(vu n1),ve,(vi 0),(vi 0)])] a<|XH K
def jbf(p1 n1 w0 K)(h:Tx p1 n1 w0 K):
  cl 227 #[(vp p1),(vu n1)] w0<|XH K:=
 cy func227 h<|kz 5 call132<|rr 4
def UU(b:Option Addr)(s1:ByteArray)(a:World)(K:Int->Int->WP):Prop:=cl 132 #[(vp b),(.agg #[(vi 3),(vi 0),(vi 0),(vu 0),(vs s1),(vi 0),(vi 0)])] a<|XH K
def jcT(p1 s1 w0 K)(h:UU p1 s1 w0 K):
  cl 229 #[(vp p1),(vs s1)] w0<|XH K:=
 cy func229 h<|kz 5 call132<|rr 4
def ZN(b:Option Addr)(a1 b1:Int)(a:World)(K:Int->Int->WP):Prop:=cl 132 #[(vp b),(.agg #[(vi 4),(vi 0),(vi 0),(vu 0),ve,(vi a1),(vi b1)])] a<|XH K
def jbW(p1 a1 b1 w0 K)(h:ZN p1 a1 b1 w0 K):
  cl 232 #[(vp p1),(vi a1),(vi b1)] w0<|XH K:=
 cy func232 h<|kz 6 call132<|rr 4
def RY(a:Option Addr)(a1:Int)(b:World)(K:Int->Int->WP):Prop:=cl 132 #[(vp a),(.agg #[(vi 5),(vi 0),(vi 0),(vu 0),ve,(vi a1),(vi 0)])] b<|XH K
def Ru(p1 a1 w0 K)(h:RY p1 a1 w0 K):
  cl 234 #[(vp p1),(vi a1)] w0<|XH K:=
 cy func234 h<|kz 5 call132<|rr 4
def jaR(b:Option Addr)(n1 a1:Int)(a:World)(K:Int->Int->WP):Prop:=cl 132 #[(vp b),(.agg #[(vi 7),(vi n1),(vi 0),(vu 0),ve,(vi a1),(vi 0)])] a<|XH K
def jbg(p1 n1 a1 w0 K)(h:jaR p1 n1 a1 w0 K):
  cl 241 #[(vp p1),(vi n1),(vi a1)] w0<|XH K:=
 cy func241 h<|kz 6 call132<|rr 4
def jaH(d:Option Addr)(a b a1:Int)(c:World)(K:Int->Int->WP):Prop:=cl 132 #[(vp d),(.agg #[(vi 8),(vi a),(vi b),(vu 0),ve,(vi a1),(vi 0)])] c<|XH K
def Ux(p1 from1 to1 a1 w0 K)(h:jaH p1 from1 to1 a1 w0 K):
  cl 244 #[(vp p1),(vi from1),(vi to1),(vi a1)] w0<|XH K:=
 cy func244 h<|kz 7 call132<|rr 4
def jcA(d:Option Addr)(a b a1:Int)(c:World)(K:Int->Int->WP):Prop:=cl 132 #[(vp d),(.agg #[(vi 9),(vi a),(vi b),(vu 0),ve,(vi a1),(vi 0)])] c<|XH K
def Zv(p1 from1 to1 a1 w0 K)(h:jcA p1 from1 to1 a1 w0 K):
  cl 248 #[(vp p1),(vi from1),(vi to1),(vi a1)] w0<|XH K:=
 cy func248 h<|kz 7 call132<|rr 4
def WH(a:Int)(D:World)(K:Bool->Bool->Bool->Bool->Int->Bool->WP):Prop:=∀t y,au D (.cells #[(vb false),(vb false),(vb false),(vb false),(vi 0)] 263) t y->Br (decide (a<1)) ((∀j,j<5->zL y (t.add j))/\∀C,C=bb y t (Ah false false false false 0)->∃f u r m n,Row C t (Ah f u r m n)/\K f u r m n false C) (Br (decide (a>9)) ((∀j,j<5->zL y (t.add j))/\∀B,B=bb y t (Ah false false false false 0)->∃k v s b h,Row B t (Ah k v s b h)/\K k v s b h false B)<|cl 294 #[] y fun e z=>∃r1:Array Value,e=.returned (.agg r1)/\∃d w p c l,(Instr.index 335 (.agg r1)<|vi a).run prog z=.ok (.agg #[(vb d),(vb w),(vb p),(vb c),(vi l)]) z/\(∀j,j<5->zL z (t.add j))/\∀A,A=bb z t (Ah d w p c l)->∃i x q o g,Row A t (Ah i x q o g)/\K i x q o g true A)
def jda(kind1 w0 K)(h:WH kind1 w0 K):
  cl 265 #[(vi kind1)] w0<|XK K:=
 cy func265 h<|cd 0<|br 1 4 (dh 5<|dx 1<|gw<|gh<|dy)<|br 0 3 (dh 2<|dx 1<|gw<|gh<|dy)<|fy 1 call294<|gw<|rn 1<|dh 0<|dx 1<|gw<|gh<|dy
def U0(n1:Int)(a:World)(K:Bool->WP):Prop:=Br (decide (n1>=0)) (K (decide (n1<16)) a)<|K false a
def RB(n1 w0 K)(h:U0 n1 w0 K):
  cl 266 #[(vi n1)] w0<|XC K:=
 cy func266 h<|br 1 4 (rr 4)<|rr 4
def Mt(q:Int)(f a:Addr)(r1:Sl)(j:Int)(b:World)(h:Int->WP)(K:WP):Prop:=Br (decide (j<(r1.len:Int))) (∃a1:Addr,At r1 j 1 a1/\li b a1 fun o=>∃m:Value,b.cell? f=some m/\∃(g:FuncId) (d c:Array Value),m=.func (.func g) d c/\(∀args w,(callFunc g args).run prog w=.ok (.enter g args) w)/\Calls prog g (d++#[(vi o)]++c) b fun e p=>e=.returned (.tuple #[])/\h (q6.wrap<|j+1) p) (lx b a fun r=>∀l n,au b (.cells #[(vi q)] 73) l n->∃s1:Sl,∃i:World,(Builtin.append_ #[46,46] 46 #[r.v,(Sl.mk (some l) 1 1).v]).run prog n=.ok s1.v i/\zL i a/\∀k,k=i.setCell a s1.v->K k)
def HA(h:Int)(b i:Addr)(g d:Addr)(a:World)(K:WP):Prop:=∃p:Option Nat,a.cell? b=some (.map p)/\∃o,(Instr.lookup 231 (.map p) (vi h) false).run prog a=.ok (vi o) a/\Br (decide (o>0)) (K a) (∃m:Option Nat,a.cell? b=some (.map m)/\∃n,(Instr.lookup 231 (.map m) (vi h) false).run prog a=.ok (vi n) a/\∃j:World,(Instr.mapUpdate 231 (.map m) (vi h)<|vi<|q6.wrap<|n+1).run prog a=.ok () j/\lp j i fun q=>cl 268 #[(vp q),(vi h)] j<|XA fun r1 r=>∃(l:Int->WP) (f:Int->World->Nat),l 0 r/\∀(k:Int) (c:World),l k c->Mt h g d r1 k c (fun e w'=>l e w'/\f e w'<f k c) K)
def Zc(t1 cap1 cap2 cap3 cap4 w0 K)(h:HA t1 cap1 cap2 cap3 cap4 w0 K):
  cl 267 #[(vi t1),(vp<|some cap1),(vp<|some cap2),(vp<|some cap3),(vp<|some cap4)] w0<|fun e w'=>e=.returned (.tuple #[])/\K  w':=
 cy func267 h<|ld 0<|xe<|rn 1<|br 0 1 (rr 1)<|ld 1<|xe<|rn 1<|xe<|es 1<|ev<|ld 0<|fy 1 call268<|zg 2 [0,3,4,18,19] (fun b=>[(20,(vi b))])<|fun {_ _ b}=>fun c=>br 0 1 (ix 1<|ld 0<|ld 1<|fo<|fun a=>cv 1 a<|rt<|ev<|de 2 c)<|ld 1<|cd 1<|dt<|ef 0<|ev<|gv 0<|rr 0
def jbJ(y:Option Addr)(F:Int)(D:World)(K:Sl->WP):Prop:=cl 109 #[(vp y),(vi F)] D fun e E=>∃q o u r p t w r1,e=.returned (.tuple #[(Ac q o u r p t w),(vb r1)])/\∀f n,au E (.cells #[(vi 0),(vi 0),(vi 0),(vu 0),ve,(vi 0),(vi 0)] 119) f n->(∀j,j<7->zL n (f.add j))/\∀m,m=bb n f (Ab q o u r p t w)->li m f fun A=>cl 265 #[(vi A)] m<|XK fun c g d b a r2 B=>∀k l,au B (.cells #[(vb false),(vb false),(vb false),(vb false),(vi 0)] 263) k l->(∀j,j<5->zL l (k.add j))/\∀i,i=bb l k (Ah c g d b a)->li i (f.add 5) fun x=>li i (f.add 6) fun C=>∀s h,au i (.cells #[(vi x),(vi C)] 73) s h->li h (k.add 4) fun z=>∃s1:Sl,(Instr.sliceAt 46 (Sl.mk (some s) 2 2).v none (some<|vi z) none).run prog h=.ok s1.v h/\K s1 h
def SH(p1 t1 w0 K)(h:jbJ p1 t1 w0 K):
  cl 268 #[(vp p1),(vi t1)] w0<|XA K:=
 cy func268 h<|cc 3 call109<|cf<|dt<|rt<|ev<|cd 3<|dh 0<|ld 2<|lf 0 call265<|cd 3<|dh 0<|ld 2<|ld 1<|cd 0<|ld 1<|xe<|rn 0<|rr 1
def SU(b:Option Addr)(c:Int)(f:World)(K:Int->WP):Prop:=cl 130 #[(vp b),(vi c)] f<|XC fun r1 a=>Br (!r1) (K 0 a)<|∃a1,b=some a1/\lx a a1 fun e=>∃a2:Addr,At e (q6.wrap<|c-1) 9 a2/\li a (a2.add 7) fun d=>K d a
def VV(p1 t1 w0 K)(h:SU p1 t1 w0 K):
  cl 269 #[(vp p1),(vi t1)] w0<|XB K:=
 cy func269 h<|fy 3 call130<|br 0 1 (rr 2)<|nc 2<|ld 1<|ix 2<|ld 1<|rr 1
def YT(b:Option Addr)(c:Int)(f:World)(K:Int->WP):Prop:=cl 130 #[(vp b),(vi c)] f<|XC fun r1 a=>Br (!r1) (K 0 a)<|∃a1,b=some a1/\lx a a1 fun e=>∃a2:Addr,At e (q6.wrap<|c-1) 9 a2/\li a (a2.add 8) fun d=>K d a
def jbM(p1 t1 w0 K)(h:YT p1 t1 w0 K):
  cl 270 #[(vp p1),(vi t1)] w0<|XB K:=
 cy func270 h<|fy 3 call130<|br 0 1 (rr 2)<|nc 2<|ld 1<|ix 2<|ld 1<|rr 1
def YX(e:World)(K:(Array Value)->WP):Prop:=∀a c,au e (.cells #[(vb false),(vb false),(vb false),(vb false),(vi 0),(vb false),(vb false),(vb false),(vb false),(vi 0),(vb false),(vb false),(vb false),(vb false),(vi 0),(vb false),(vb false),(vb false),(vb false),(vi 0),(vb false),(vb false),(vb false),(vb false),(vi 0),(vb false),(vb false),(vb false),(vb false),(vi 0),(vb false),(vb false),(vb false),(vb false),(vi 0),(vb false),(vb false),(vb false),(vb false),(vi 0),(vb false),(vb false),(vb false),(vb false),(vi 0),(vb false),(vb false),(vb false),(vb false),(vi 0)] 335) a c->(∀j,j<50->zL c (a.add j))/\∀d,d=bb c a (Ai false false false false 0 true false false false 0 false false true false 0 false false false true 0 false false false false 2 false false false false 1 true false false false 0 true false false false 1 true true false false 1 true true false false 1)->∃b:Array Value,(b.size=50/\Row d a b.toList)/\K b d
def Zb(a:World)(K:(Array Value)->WP)(h:YX  a K):
  cl 294 #[] a<|fun e w'=>∃r1:Array Value,e=.returned (.agg r1)/\K r1 w':=
 cy func294 h<|cd 0<|dh 10<|dx 0<|xe<|QH<|dy
end Go.Proofs
end
section
namespace Go.Proofs
structure df where
 kind:Int
 ay:Int
 to:Int
 num:Int
 ba:ByteArray
 a:Int
 b:Int
deriving DecidableEq
structure yk where
 ay:Bool
 to:Bool
 num:Bool
 ba:Bool
 kids:Int
deriving DecidableEq
def sw:yk:=⟨false,false,false,false,0⟩
def bk(k:Int):yk:=
 if k=1 then⟨true,false,false,false,0⟩else if k=2 then⟨false,false,true,false,0⟩else if k=3 then⟨false,false,false,true,0⟩
 else if k=4 then⟨false,false,false,false,2⟩else if k=5 then⟨false,false,false,false,1⟩else if k=6 then⟨true,false,false,false,0⟩
 else if k=7 then⟨true,false,false,false,1⟩else if k=8 then⟨true,true,false,false,1⟩else if k=9 then⟨true,true,false,false,1⟩else sw
def oh(k:Int):Bool:=decide (1<=k)&&decide (k<=9)
def rp(n:Int):Bool:=decide (0<=n)&&decide (n<16)
def zO(n:df):Int:=
 let s:=bk n.kind
 if !oh n.kind ||(!s.ay&&n.ay !=0) ||(!s.to&&n.to !=0) ||(!s.num&&n.num !=0) ||(!s.ba&&!decide (n.ba=⟨#[]⟩))then 53 else 0
def zR(s:yk)(n:df):Int:=
 if(s.ay&&!rp n.ay) ||(s.to&&(!rp n.to ||n.to==n.ay))then 50 else if n.ba.size>64 then 1 else 0
end Go.Proofs
end
section
open Go Go.SE List
namespace Go.Proofs
open Tryz
attribute [local irreducible] Calls
def OF(n w):cl 266 #[vi n] w (XC fun r w'=>r=rp n/\w'=w):=by
 refine RB n w (fun r w'=>r=rp n/\w'=w) ?_;refine⟨fun h=>⟨?_,rfl⟩,fun h=>⟨?_,rfl⟩⟩;have:0<=n:=by simpa using h
 simp[rp,this];have:¬0<=n:=by simpa using h
 simp[rp,this]
def Lg(s1 s2 s3 s4 s5 k f t u x a b w):
  cl 177 #[.agg #[vb s1,vb s2,vb s3,vb s4,vi s5],.agg #[vi k,vi f,vi t,vu u,vs x,vi a,vi b]] w
   (XB fun r w'=>r=zR ⟨s1,s2,s3,s4,s5⟩ ⟨k,f,t,u,x,a,b⟩/\Pure w w'):=by
 refine Xv _ _ _ _ _ _ _ _ _ _ _ _ w _ ?_
 intro l m h1 j i h2
 have b1:=(ai.bh h1).pure<|ab.aw h2
 have b2:=ai.bh h2
 have E:Pure w i:=(ab.aw h1).trans<|ab.aw h2
 have J:∀c:Bool,c=(s1&&!rp f)->DG l j c i (fun r w'=>r=zR ⟨s1,s2,s3,s4,s5⟩ ⟨k,f,t,u,x,a,b⟩/\Pure w w'):=by
  intro c e;refine⟨fun h=>⟨?_,E⟩,fun h=>⟨_,b1.cell rfl,fun d=>⟨_,b2.cell rfl,?_⟩,fun d=>⟨_,b2.cell rfl,fun h3=>⟨?_,E⟩,fun h3=>⟨?_,E⟩⟩⟩⟩;rw[e]at h;simp[zR,h];refine(OF _ _).mono ?_;rintro _ _ ⟨r,rfl,rfl,rfl⟩;rw[e]at h;refine⟨_,rfl,fun h2=>⟨?_,E⟩,fun h2=>⟨_,b2.cell rfl,_,b2.cell rfl,fun h3=>⟨?_,E⟩,fun h3=>⟨_,b2.cell rfl,fun g=>⟨?_,E⟩,fun g=>⟨?_,E⟩⟩⟩⟩;simp[zR,d,h2];simp[zR,d,h3];simp only[zR,h,d,h3];simp at h2 g;simp[h2];omega;simp only[zR,h,d,h3];simp at h2 g;simp[h2];omega;rw[e]at h;simp only[zR,h,d];simp at h3;simp;omega;rw[e]at h;simp only[zR,h,d];simp at h3;simp;omega
 refine⟨_,b1.bd,fun h=>⟨_,b2.cell rfl,?_⟩,fun h=>J _<|by simp[h]⟩
 refine(OF _ _).mono ?_
 rintro _ _ ⟨r,rfl,rfl,rfl⟩
 exact⟨_,rfl,J _<|by simp[h]⟩
def HQ:Array Value:=#[vb false,vb false,vb false,vb false,vi 0,vb true,vb false,vb false,vb false,vi 0,vb false,vb false,vb true,vb false,vi 0,vb false,vb false,vb false,vb true,vi 0,vb false,vb false,vb false,vb false,vi 2,vb false,vb false,vb false,vb false,vi 1,vb true,vb false,vb false,vb false,vi 0,vb true,vb false,vb false,vb false,vi 1,vb true,vb true,vb false,vb false,vi 1,vb true,vb true,vb false,vb false,vi 1]
def Y8(w):cl 294 #[] w (fun e w'=>∃r,e=.returned (.agg r)/\(r=HQ/\Pure w w')):=by
 refine Zb w (fun r w'=>r=HQ/\Pure w w') ?_;intro f c h1;have d:Pure w c:=ab.aw h1;have a:=au.ak (ab.refl w) h1;have b1:=ai.fp h1;clear h1;refine bx 50 b1 Kf Kf fun w' b E=>?_;refine⟨HQ,⟨Kf,b.MU Kf⟩,rfl,d.ak a E⟩
def KD(k w):cl 265 #[vi k] w (XK fun r1 r2 r3 d f r w'=>((⟨r1,r2,r3,d,f⟩:yk)=bk k/\r=oh k)/\Pure w w'):=by
 refine jda k w (fun r1 r2 r3 d f r w'=>((⟨r1,r2,r3,d,f⟩:yk)=bk k/\r=oh k)/\Pure w w') ?_;intro m i h1;have e:Pure w i:=ab.aw h1;have b1:=ai.bh h1;have a:=au.ak (ab.refl w) h1;refine⟨fun h=>bx 5 b1 rfl rfl fun w' b E=>⟨_,_,_,_,_,b.row,⟨?_,?_⟩,e.ak a E⟩,fun h=>⟨fun h2=>bx 5 b1 rfl rfl fun w' b E=>⟨_,_,_,_,_,b.row,⟨?_,?_⟩,e.ak a E⟩,fun h2=>?_⟩⟩
 .have:k<1:=by simpa using h
  simp only[bk,sw];repeat rw[if_neg Om]
 .have:k<1:=by simpa using h
  simp[oh];omega
 .have:9<k:=by simpa using h2
  simp only[bk,sw];repeat rw[if_neg Om]
 .have:9<k:=by simpa using h2
  simp[oh];omega
 .have h3:¬k<1:=by simpa using h
  have n:¬9<k:=by simpa using h2
  refine(Y8 _).mono ?_;rintro _ l ⟨_,rfl,rfl,g⟩;refine⟨_,rfl,?_⟩;have b4:=b1.pure g;have c:Pure w l:=e.trans g;have j:k=1\/k=2\/k=3\/k=4\/k=5\/k=6\/k=7\/k=8\/k=9:=Om;rcases j with rfl|rfl|rfl|rfl|rfl|rfl|rfl|rfl|rfl
  .exact⟨true,false,false,false,0,Kf,bx 5 b4 rfl rfl fun w' b E=>⟨_,_,_,_,_,b.row,⟨De,De⟩,c.ak a E⟩⟩
  .exact⟨false,false,true,false,0,Kf,bx 5 b4 rfl rfl fun w' b E=>⟨_,_,_,_,_,b.row,⟨De,De⟩,c.ak a E⟩⟩
  .exact⟨false,false,false,true,0,Kf,bx 5 b4 rfl rfl fun w' b E=>⟨_,_,_,_,_,b.row,⟨De,De⟩,c.ak a E⟩⟩
  .exact⟨false,false,false,false,2,Kf,bx 5 b4 rfl rfl fun w' b E=>⟨_,_,_,_,_,b.row,⟨De,De⟩,c.ak a E⟩⟩
  .exact⟨false,false,false,false,1,Kf,bx 5 b4 rfl rfl fun w' b E=>⟨_,_,_,_,_,b.row,⟨De,De⟩,c.ak a E⟩⟩
  .exact⟨true,false,false,false,0,Kf,bx 5 b4 rfl rfl fun w' b E=>⟨_,_,_,_,_,b.row,⟨De,De⟩,c.ak a E⟩⟩
  .exact⟨true,false,false,false,1,Kf,bx 5 b4 rfl rfl fun w' b E=>⟨_,_,_,_,_,b.row,⟨De,De⟩,c.ak a E⟩⟩
  .exact⟨true,true,false,false,1,Kf,bx 5 b4 rfl rfl fun w' b E=>⟨_,_,_,_,_,b.row,⟨De,De⟩,c.ak a E⟩⟩
  .exact⟨true,true,false,false,1,Kf,bx 5 b4 rfl rfl fun w' b E=>⟨_,_,_,_,_,b.row,⟨De,De⟩,c.ak a E⟩⟩
def Py(k f t u x a b w):
  cl 176 #[.agg #[vi k,vi f,vi t,vu u,vs x,vi a,vi b]] w
   (XI fun r1 r2 r3 A B r w'=>((⟨r1,r2,r3,A,B⟩:yk)=bk k/\r=zO ⟨k,f,t,u,x,a,b⟩)/\Pure w w'):=by
 suffices key:∀K:Bool->Bool->Bool->Bool->Int->Int->WP,(∀r1 r2 r3 A B r w',((⟨r1,r2,r3,A,B⟩:yk)=bk k/\r=zO ⟨k,f,t,u,x,a,b⟩)/\Pure w w'->K r1 r2 r3 A B r w')->Pr k f t u x a b w K from
  RQ _ _ _ _ _ _ _ w _<|key _ fun _ _ _ _ _ _ _ h=>h
 intro K Z
 intro o w1 h1 i w2 h2
 have a1:=(ai.bh h1).pure<|ab.aw h2
 have a2:=ai.bh h2
 have N:Pure w w2:=(ab.aw h1).trans<|ab.aw h2
 have o2:=au.ak (ab.aw h1:Pure w w1) h2
 have X:o.block≠i.block:=au.ne h2 (ai.bh h1).ao
 refine⟨_,a1.bd,?_⟩
 refine(KD _ _).mono ?_
 rintro _ w3 ⟨s1,s,G,Q,R,ok,rfl,⟨hs,m⟩,q⟩
 refine⟨_,_,_,_,_,_,rfl,?_⟩
 intro p w4 h3
 have U:Pure w w4:=(N.trans q).trans<|ab.aw h3
 have o3:=au.ak (N.trans q) h3
 have I:o.block≠p.block:=au.ne h3 (a1.pure q).ao
 have L:i.block≠p.block:=au.ne h3 (a2.pure q).ao
 refine bx 5 (ai.bh h3) rfl rfl fun n b3 E=>?_
 have b1:=((a1.pure q).pure<|ab.aw h3).ext E I
 have b2:=((a2.pure q).pure<|ab.aw h3).ext E L
 have W:=U.ak o3 E
 clear E U q N a1 a2 h1 h2 h3
 have l : ∀ v : Int, v = zO ⟨k, f, t, u, x, a, b⟩ -> (∀ j, j < 5 -> zL n (i.add j)) /\ ∀ w', w' = bb n i [vb s1, vb s, vb G, vb Q, vi R] ->
   ∃q1:Bool,∃q2:Bool,∃q3:Bool,∃q4:Bool,∃V:Int,Row w' i [vb q1,vb q2,vb q3,vb q4,vi V]/\K q1 q2 q3 q4 V v w':=fun v Y =>
  bx 5 b2 rfl rfl fun w' b E=>⟨_,_,_,_,_,b.row,Z _ _ _ _ _ _ _ ⟨⟨hs,Y⟩,W.ak o2 E⟩⟩
 obtain⟨H,C,D,F,e5⟩:s1=(bk k).ay/\s=(bk k).to/\G=(bk k).num/\Q=(bk k).ba/\R=(bk k).kids:=by rw[<-hs];simp
 have O:∀c:Bool,c=(!ok ||(!s1&&f !=0) ||(!s&&t !=0) ||(!G&&u !=0))->Bi o i p c n K:=by
  intro c g;refine⟨fun h=>⟨_,_,_,_,_,b3.row,l _ ?_⟩,fun h=>⟨_,b3.cell rfl,fun e=>⟨_,b1.cell rfl,fun z=>⟨_,_,_,_,_,b3.row,l _ ?_⟩,fun z=>⟨_,_,_,_,_,b3.row,l _ ?_⟩⟩,fun e=>⟨_,_,_,_,_,b3.row,l _ ?_⟩⟩⟩;rw[h]at g;simp only[zO,<-H,<-C,<-D,<-F,<-m,<-g];simp;rw[h]at g;simp only[zO,<-H,<-C,<-D,<-F,<-m,<-g];simp at e z;simp[e,z];rw[h]at g;simp only[zO,<-H,<-C,<-D,<-F,<-m,<-g];simp at e z;simp[e,z];rw[h]at g;simp only[zO,<-H,<-C,<-D,<-F,<-m,<-g];simp at e;simp[e]
 have J:∀c:Bool,c=(!ok ||(!s1&&f !=0) ||(!s&&t !=0))->BC o i p c n K:=by
  intro c g;have T:∀d:Bool,d=(!G&&u !=0)->Eo o i p c d n K:=fun d y=>⟨fun h=>O _ (by rw[<-g,h];rfl),fun h=>O _ (by rw[<-g,h];simpa using y)⟩;exact⟨fun h=>O _ (by rw[<-g,h];rfl),fun h=>⟨_,b3.cell rfl,fun e=>⟨_,b1.cell rfl,T _ (by rw[e];rfl)⟩,fun e=>T _ (by rw[e];rfl)⟩⟩
 have M:∀c:Bool,c=(!ok ||(!s1&&f !=0))->Cn o i p c n K:=by
  intro c g;have S:∀d:Bool,d=(!s&&t !=0)->Fp o i p c d n K:=fun d y=>⟨fun h=>J _ (by rw[<-g,h];rfl),fun h=>J _ (by rw[<-g,h];simpa using y)⟩;exact⟨fun h=>J _ (by rw[<-g,h];rfl),fun h=>⟨_,b3.cell rfl,fun e=>⟨_,b1.cell rfl,S _ (by rw[e];rfl)⟩,fun e=>S _ (by rw[e];rfl)⟩⟩
 have P:∀d:Bool,d=(!s1&&f !=0)->Fg o i ok p d n K:=fun d y=>⟨fun h=>M _ (by rw[h];rfl),fun h=>M _ (by rw[h];simpa using y)⟩
 exact⟨fun h=>M _ (by rw[h];rfl),fun h=>⟨_,b3.bd,fun e=>⟨_,b1.cell rfl,P _ (by rw[e];rfl)⟩,fun e=>P _ (by rw[e];rfl)⟩⟩
end Go.Proofs
end
section
namespace Go.Proofs
structure sV where
 node:df
 size:Int
 depth:Int
deriving DecidableEq
abbrev av:=List sV
def al(L:av)(t:Int):Bool:=decide (1<=t)&&decide (t<=L.length)
def get(L:av)(t:Int):Option sV:=if al L t then L[(t-1).toNat]? else none
def sizeOf(L:av)(t:Int):Int:=((get L t).map (·.size)).getD 0
def cz(L:av)(t:Int):Int:=((get L t).map (·.depth)).getD 0
def xC:df:=⟨0,0,0,0,⟨#[]⟩,0,0⟩
def ad(L:av)(t:Int):df:=((get L t).map (·.node)).getD xC
def zB(n:df):List Int:=[n.a,n.b].take (bk n.kind).kids.toNat
def eh(L:av)(n:df):Int×Int×Int:=
 let s:=bk n.kind
 if zO n≠0 then(0,0,zO n)
 else if(decide (s.kids<1)&&n.a !=0) ||(decide (s.kids<2)&&n.b !=0)then(0,0,53)
 else if zR s n≠0 then(0,0,zR s n)
 else if(zB n).any (fun t=>!al L t)then(0,0,51)
 else
  let sz:=1+((zB n).map<|sizeOf L).sum
  let d:=(zB n).foldl (fun d t=>max d<|cz L t) 0+1
  if sz>4096\/d>64 then(0,0,52)else(sz,d,0)
def find(L:av)(n:df):Option Nat:=L.findIdx? fun e=>e.node=n
def ax(L:av)(n:df):Int×Int×av:=
 let c:=eh L n
 if c.2.2≠0 then(0,c.2.2,L)
 else match find L n with
  |some i=>(i+1,0,L)
  |none=>if 65536<=L.length then(0,6,L)else(L.length+1,0,L++[⟨n,c.1,c.2.1⟩])
structure Ok(L:av):Prop where
 fm:L.length<=65536
 pt:(L.map (·.node)).Nodup
 size:∀e∈L,1<=e.size/\e.size<=4096
 depth:∀e∈L,1<=e.depth/\e.depth<=64
def zI{L t}:al L t=true↔1<=t/\t<=L.length:=by simp[al]
def Cy{L t}(h:al L t=true):∃e,get L t=some e/\e∈L/\∃hi:(t-1).toNat<L.length,L[(t-1).toNat]=e:=by
 have⟨h1,h2⟩:=zI.1 h;have hi:(t-1).toNat<L.length:=Om;exact⟨L[(t-1).toNat],by simp[get,h],List.getElem_mem hi,hi,rfl⟩
def yR{L t}(h:al L t=false):get L t=none:=by simp[get,h]
def Ok.sizeOf{L}(h:Ok L)(t):0<=sizeOf L t/\sizeOf L t<=4096:=by
 cases ht:al L t with
 |true=>have⟨e,a,hm,_⟩:=Cy ht;have:=h.size e hm;simp[Proofs.sizeOf,a];omega
 |false=>simp[Proofs.sizeOf,yR ht]
def Ok.cz{L}(h:Ok L)(t):0<=cz L t/\cz L t<=64:=by
 cases ht:al L t with
 |true=>have⟨e,a,hm,_⟩:=Cy ht;have:=h.depth e hm;simp[Proofs.cz,a];omega
 |false=>simp[Proofs.cz,yR ht]
def Ok.nil:Ok []:=⟨Sm,Sm,Sm,Sm⟩
def qV(k):(bk k).kids=0\/(bk k).kids=1\/(bk k).kids=2:=by
 unfold bk sw;repeat' split
 all_goals simp
end Go.Proofs
end
section
open Go Go.SE List
namespace Go.Proofs
open Tryz
attribute [local irreducible] Calls
def tK(n:df):List Value:=[vi n.kind,vi n.ay,vi n.to,vu n.num,vs n.ba,vi n.a,vi n.b]
def sY(e:sV):List Value:=tK e.node++[vi e.size,vi e.depth]
def ly(n:df):Value:=.agg (tK n).toArray
def ig(L:av):List (Value×Value):=L.zipIdx.map fun p=>(ly p.1.node,vi (p.2+1:Nat))
structure Et(w:World)(p:Addr)(L:av)(s:Sl)(m:Nat):Prop where
 box:ai w p [s.v,.map<|some m] 160
 cj:bf w 248 9 s (L.map sY)
 map:jn w m (ig L)
 n1:m≠p.block
 n2:¬s.ao p.block
 n3:¬s.ao m
def zD(w:World)(p:Addr)(L:av)(F:NP):Prop:=∃s m,Et w p L s m/\∀b,F b↔(b=p.block\/s.ao b\/b=m)
def zD.ext{G w w' p L F}(h:zD w p L F)(a:ab G w w')(d:∀b,F b->¬G b):zD w' p L F:=by
 have⟨s,m,h,c⟩:=h;exact⟨s,m,⟨h.box.ext a<|d _<|(c _).2<|.inl rfl,h.cj.ext a Gd,h.map.ext a<|d _<|(c _).2<|.inr<|.inr rfl,h.n1,h.n2,h.n3⟩,c⟩
def zD.pure{w w' p L F}(h:zD w p L F)(a:Pure w w'):zD w' p L F:=h.ext a fun _ _ h=>h
def zD.lt{w p L F}(h:zD w p L F){b}(a:F b):b<w.heap.size:=by
 have⟨s,m,h,c⟩:=h;rcases(c b).1 a with rfl|a|rfl;exact h.box.lt;exact h.cj.lt a;exact h.map.lt
def i64{n}(h:-9223372036854775808<=n)(a:n<=9223372036854775807):IntKind.i64.wrap n=n:=IntWalk.i64_in n ⟨h,a⟩
def zm(p t w){L F}(a:zD w p L F):cl 130 #[vp<|some p,vi t] w (XC fun r w'=>r=al L t/\w=w'):=by
 have⟨s,m,h,_⟩:=a;refine Ly (some p) t w (fun r w'=>r=al L t/\w=w') ?_;unfold HI;have b:(s.len:Int)=L.length:=by rw[h.cj.len];simp
 refine Br.t rfl ⟨fun h1=>⟨p,rfl,s,h.box.bd,?_,rfl⟩,fun h1=>⟨?_,rfl⟩⟩;have:1<=t:=by simpa using h1
 simp[al,b,this];have:¬1<=t:=by simpa using h1
 simp[al,this]
def Et.at{w p L s m}(h:Et w p L s m){t}(ht:al L t=true)(c:Ok L):∃a e,At s (IntKind.i64.wrap<|t-1) 9 a/\Row w a (sY e)/\s.ao a.block/\get L t=some e:=by
 have⟨h1,h2⟩:=zI.1 ht;have⟨e,d,_,hi,g⟩:=Cy ht;have:=c.fm;rw[i64 Om Om];have⟨a,b,hr,f⟩:=h.cj.at (i:=t-1) Om (by simpa using hi);exact⟨a,e,b,Gd,f,d⟩
def SQ(p t w){L F}(d:zD w p L F)(b:Ok L):cl 269 #[vp<|some p,vi t] w (XB fun r w'=>r=sizeOf L t/\w=w'):=by
 refine VV (some p) t w (fun r w'=>r=sizeOf L t/\w=w') ?_;refine(zm p t w d).mono ?_;rintro _ _ ⟨_,rfl,rfl,rfl⟩;have⟨s,m,h,_⟩:=d;refine⟨_,rfl,fun h1=>⟨?_,rfl⟩,fun h1=>?_⟩;simp[sizeOf,yR<|show al L t=false by simpa using h1];have⟨a,e,c,hr,_,f⟩:=h.at (show al L t=true by simpa using h1) b;exact⟨p,rfl,s,h.box.bd,a,c,e.size,hr 7<|by simp[sY,tK],by simp[sizeOf,f],rfl⟩
def XX(p t w){L F}(d:zD w p L F)(b:Ok L):cl 270 #[vp<|some p,vi t] w (XB fun r w'=>r=cz L t/\w=w'):=by
 refine jbM (some p) t w (fun r w'=>r=cz L t/\w=w') ?_;refine(zm p t w d).mono ?_;rintro _ _ ⟨_,rfl,rfl,rfl⟩;have⟨s,m,h,_⟩:=d;refine⟨_,rfl,fun h1=>⟨?_,rfl⟩,fun h1=>?_⟩;simp[cz,yR<|show al L t=false by simpa using h1];have⟨a,e,c,hr,_,f⟩:=h.at (show al L t=true by simpa using h1) b;exact⟨p,rfl,s,h.box.bd,a,c,e.depth,hr 8<|by simp[sY,tK],by simp[cz,f],rfl⟩
def tz(p t w){L F}(n:zD w p L F)(j:Ok L):cl 109 #[vp<|some p,vi t] w
  (XL fun k f q u x a b r w'=>((⟨k,f,q,u,x,a,b⟩:df)=ad L t/\r=al L t)/\Pure w w'):=by
 refine Mq (some p) t w _ ?_
 intro y d h1
 have c:Pure w d:=ab.aw h1
 have b1:=ai.bh h1
 have l:=au.ak (ab.refl w) h1
 refine(zm p t d<|n.pure c).mono ?_
 rintro _ _ ⟨_,rfl,rfl,rfl⟩
 have⟨s,m,h,_⟩:=n.pure c
 refine⟨_,rfl,fun h1=>bx 7 b1 rfl rfl fun w' b E=>⟨_,_,_,_,_,_,_,b.row,⟨?_,?_⟩,c.ak l E⟩,fun h1=>?_⟩
 simp[ad,yR<|show al L t=false by simpa using h1,xC]
 symm;simpa using h1
 have ht:al L t=true:=by simpa using h1
 have⟨a,e,g,hr,_,o⟩:=h.at ht j
 have v:Row d a (tK e.node):=fun i hi=>by
  have:=hr i (by simp[sY];omega);rw[this];unfold sY;rw[getElem?_append_left hi]
 exact⟨p,rfl,s,h.box.bd,a,g,_,_,_,_,_,_,_,v,bx 7 b1 rfl rfl fun w' b E=>⟨_,_,_,_,_,_,_,b.row,⟨by simp[ad,o],ht.symm⟩,c.ak l E⟩⟩
end Go.Proofs
end
section
namespace Go.Proofs
inductive bt where
 |mk (k f t u:Int) (x:ByteArray) (kids:List bt)
def bt.kids:bt->List bt|.mk _ _ _ _ _ ks=>ks
def bt.node:bt->df|.mk k f t u x _=>⟨k,f,t,u,x,0,0⟩
def bt.ind{P:bt->Prop}(h:∀k f t u x (ks:List bt),(∀i (hi:i<ks.length),P ks[i])->P (.mk k f t u x ks))(t):P t:=by
 refine bt.rec (motive_1:=P) (motive_2:=fun ks=>∀i (hi:i<ks.length),P ks[i]) ?_ ?_ ?_ t;grind;intro i hi;simp at hi;grind
def yT(n:df)(len:Nat):Int:=
 let e:=if zO n=0 then if(len:Int)≠(bk n.kind).kids then 53 else 0 else zO n
 if e=0 then zR (bk n.kind) n else e
mutual
def qM (inside seen:Int):bt->Int×Int
 |.mk k f t u x ks=>if 4096<=seen then(52,seen)else if 64<=inside then(52,seen)else vK (inside+1) (yT ⟨k,f,t,u,x,0,0⟩ ks.length) (seen+1) ks
def vK (inside e seen:Int):List bt->Int×Int
 |[]=>(e,seen)
 |t :: ts=>if e=0 then vK inside (qM inside seen t).1 (qM inside seen t).2 ts else(e,seen)
end
mutual
def grow (L:av):bt->Int×Int×av
 |.mk k f t u x ks=>zZ ⟨k,f,t,u,x,0,0⟩ 0 L ks
def zZ (n:df) (i:Nat) (L:av):List bt->Int×Int×av
 |[]=>ax L n
 |t :: ts=>if(grow L t).2.1≠0 then(0,(grow L t).2.1,(grow L t).2.2)else zZ (if i=0 then { n with a:=(grow L t).1 }else { n with b:=(grow L t).1 }) (i+1) (grow L t).2.2 ts
end
def of(L:av)(t:bt):Int×Int×av:=
 if(qM 0 0 t).1≠0 then(0,(qM 0 0 t).1,L)
 else if(grow L t).2.1≠0 then(0,(grow L t).2.1,L)else((grow L t).1,0,(grow L t).2.2)
def Gt(L n):∃M,(ax L n).2.2=L++M:=by
 unfold ax;simp only;by_cases a:(eh L n).2.2=0;simp only[a];rw[if_neg Sm];split;exact⟨[],Sm⟩;split;exact⟨[],Sm⟩;exact⟨_,rfl⟩;rw[if_pos a];exact⟨[],Sm⟩
def YR{L n}(a:Ok L)(h:(eh L n).2.2=0):1<=(eh L n).1/\(eh L n).1<=4096/\1<=(eh L n).2.1/\(eh L n).2.1<=64:=by
 unfold eh at h|-;simp only at h|-;by_cases h1:zO n≠0;grind;rw[if_neg h1]at h|-;split at h;simp at h;rename_i h2;rw[if_neg h2];by_cases h3:zR (bk n.kind) n≠0;grind;rw[if_neg h3]at h|-;split at h;simp at h;rename_i f;rw[if_neg f];split at h;simp at h;rename_i e;rw[if_neg e];have hs:∀l:List Int,0<=(l.map<|sizeOf L).sum:=by
  intro l;induction l with
  |nil=>simp
  |cons y l b=>have:=a.sizeOf y;simp only[List.map_cons,List.sum_cons];omega
 have c:∀(l:List Int) (d:Int),0<=d->0<=l.foldl (fun d t=>max d<|cz L t) d:=by
  intro l;induction l with
  |nil=>intro d h;exact h
  |cons y l b=>intro d h;exact b (max d<|cz L y) Om
 have:=hs<|zB n;have:=c (zB n) 0 Om;simp only;omega
def Je{L}(c:Ok L)(n):Ok (ax L n).2.2:=by
 by_cases g:(eh L n).2.2=0;have:=YR c g;unfold ax;simp only[g];rw[if_neg Sm];split;exact c;rename_i f;split;exact c;rename_i k;refine⟨So,?_,?_,?_⟩;rw[List.map_append,List.nodup_append];refine⟨c.pt,Sm,?_⟩;intro a j b i;simp only[List.map_cons,List.map_nil,List.mem_singleton]at i;subst i;obtain⟨e,d,rfl⟩:=List.mem_map.1 j;unfold find at f;rw[List.findIdx?_eq_none_iff]at f;simpa using f e d;intro e d;rcases List.mem_append.1 d with h|h;exact c.size e h;grind;intro e d;rcases List.mem_append.1 d with h|h;exact c.depth e h;simp only[List.mem_singleton]at h;subst h;simp;omega;unfold ax;simp only;rw[if_pos g];exact c
def zz(t):∀L,Ok L->Ok (grow L t).2.2/\∃M,(grow L t).2.2=L++M:=by
 induction t using bt.ind with
 |h k f t u x ks j =>
  have:∀(ks:List bt),(∀i (hi:i<ks.length),∀L,Ok L->Ok (grow L ks[i]).2.2/\∃M,(grow L ks[i]).2.2=L++M)->∀n i L,Ok L->Ok (zZ n i L ks).2.2/\∃M,(zZ n i L ks).2.2=L++M:=by
   intro ks;induction ks with
   |nil=>intro _ n i L h;unfold zZ;exact⟨Je h n,Gt L n⟩
   |cons t ts c =>
    intro hh n i L h
    have d:=hh 0 Sm L h
    simp only[List.getElem_cons_zero]at d
    unfold zZ
    split
    exact d
    have⟨m,M,l⟩:=d
    have:=c (fun i hi=>hh (i+1)<|by simpa using hi) (if i=0 then { n with a:=(grow L t).1 }else { n with b:=(grow L t).1 }) (i+1) (grow L t).2.2 m
    refine⟨this.1,?_⟩
    have⟨g,e⟩:=this.2
    exact⟨M++g,by rw[e,l,List.append_assoc]⟩
  intro L h
  unfold grow
  exact this ks j _ _ L h
def qW(n:Int):Prop:=0<=n/\n<18446744073709551616
inductive qt:bt->Prop
 |mk (k f t u:Int) (x:ByteArray) (ks:List bt) (ak:qW u) (kids:∀i (hi:i<ks.length),qt ks[i]):qt (.mk k f t u x ks)
end Go.Proofs
end
section
namespace Go.Proofs
def qL{L}{i:Nat}(hi:i<L.length):ad L ((i:Int)+1)=L[i].node:=by
 have h:al L ((i:Int)+1)=true:=zI.2 ⟨Om,Om⟩;have e:((i:Int)+1-1).toNat=i:=Om;simp[ad,get,h,e,hi]
def si{L t}(h:al L t=true):∃i:Nat,i<L.length/\t=(i:Int)+1:=by
 have:=zI.1 h;exact⟨(t-1).toNat,Om,Om⟩
def wS{L}{i:Nat}(hi:i<L.length):get L ((i:Int)+1)=some L[i]:=by
 have h:al L ((i:Int)+1)=true:=zI.2 ⟨Om,Om⟩;have e:((i:Int)+1-1).toNat=i:=Om;simp[get,h,e,hi]
structure Wf(L:av):Prop where
 ok:Ok L
 mi:∀i (hi:i<L.length),eh (L.take i) L[i].node=(L[i].size,L[i].depth,0)
def Wf.nil:Wf []:=⟨Ok.nil,fun i hi=>by simp at hi⟩
def Qx{L n}(h:(eh L n).2.2=0):zO n=0/\((bk n.kind).kids<1->n.a=0)/\((bk n.kind).kids<2->n.b=0)/\zR (bk n.kind) n=0/\(∀t∈zB n,al L t=true) /\
  (eh L n).1=1+((zB n).map<|sizeOf L).sum/\(eh L n).2.1=(zB n).foldl (fun d t=>max d<|cz L t) 0+1/\(eh L n).1<=4096/\(eh L n).2.1<=64:=by
 unfold eh at h|-
 simp only at h|-
 by_cases h1:zO n≠0
 grind
 rw[if_neg h1]at h|-
 split at h
 simp at h
 rename_i h2;rw[if_neg h2]
 by_cases h3:zR (bk n.kind) n≠0
 grind
 rw[if_neg h3]at h|-
 split at h
 simp at h
 rename_i c;rw[if_neg c]
 split at h
 simp at h
 rename_i e;rw[if_neg e]
 simp only[Bool.or_eq_true,Bool.and_eq_true,decide_eq_true_eq,bne_iff_ne,ne_eq,not_or,not_and,Classical.not_not]at h2
 refine⟨by simpa using h1,h2.1,h2.2,by simpa using h3,fun t ht=>?_,rfl,rfl,Sy,Sy⟩
 cases hi:al L t with
 |true=>rfl
 |false=>exact absurd (List.any_eq_true.2 ⟨t,ht,by simp[hi]⟩) c
def Dl(L n):(ax L n).2.2=L\/((eh L n).2.2=0/\(ax L n).2.2=L++[⟨n,(eh L n).1,(eh L n).2.1⟩]):=by
 by_cases a:(eh L n).2.2=0;unfold ax;simp only[a];rw[if_neg Sm];split;exact .inl rfl;grind;unfold ax;simp only;rw[if_pos a];exact .inl rfl
def VP{L}{e:sV}(h:∀i (hi:i<L.length),eh (L.take i) L[i].node=(L[i].size,L[i].depth,0))(a:eh L e.node=(e.size,e.depth,0)):∀i (hi:i<(L++[e]).length),eh ((L++[e]).take i) (L++[e])[i].node=((L++[e])[i].size,(L++[e])[i].depth,0):=Gd
def uQ{L}(h:Wf L)(n):Wf (ax L n).2.2:=by
 have a:=Je h.ok n;rcases Dl L n with e|⟨b,e⟩;rw[e];exact h;rw[e]at a|-;exact⟨a,VP h.mi<|by rw[<-b]⟩
def Fi(t):∀L,Wf L->Wf (grow L t).2.2:=by
 induction t using bt.ind with
 |h k f t u x ks c =>
  have:∀(ks:List bt),(∀i (hi:i<ks.length),∀L,Wf L->Wf (grow L ks[i]).2.2)->∀n i L,Wf L->Wf (zZ n i L ks).2.2:=by
   intro ks;induction ks with
   |nil=>intro _ n i L h;unfold zZ;exact uQ h n
   |cons t ts b =>
    intro hh n i L h
    have a:=hh 0 Sm L h
    simp only[List.getElem_cons_zero]at a
    unfold zZ
    split
    exact a
    exact b (fun i hi=>hh (i+1)<|by simpa using hi) _ _ _ a
  intro L h
  unfold grow
  exact this ks c _ _ L h
def Ki{L}(h:Wf L)(t):Wf (of L t).2.2:=by
 unfold of;split;exact h;split;exact h;exact Fi t L h
def MH{L}(h:Ok L)(t):∃M,(of L t).2.2=L++M:=by
 unfold of;split;exact⟨[],Sm⟩;split;exact⟨[],Sm⟩;exact(zz t L h).2
def uF{L M t}(h:al L t=true):al (L++M) t=true:=by
 have:=zI.1 h;exact zI.2 ⟨this.1,by rw[List.length_append];omega⟩
def HW{L M}{t:Int}(h:al L t=true):get (L++M) t=get L t:=by
 obtain⟨i,hi,rfl⟩:=si h;rw[wS hi,wS Gd,List.getElem_append_left hi]
def zF{L M t}(h:al L t=true):ad (L++M) t=ad L t:=by unfold ad;rw[HW h]
def I0{L M t}(h:al L t=true):sizeOf (L++M) t=sizeOf L t:=by unfold sizeOf;rw[HW h]
def Jg{L M t}(h:al L t=true):cz (L++M) t=cz L t:=by unfold cz;rw[HW h]
def Wf.node{L}(h:Wf L){t:Int}(ht:al L t=true):zO (ad L t)=0/\((bk (ad L t).kind).kids<1->(ad L t).a=0)/\((bk (ad L t).kind).kids<2->(ad L t).b=0)/\zR (bk (ad L t).kind) (ad L t)=0 /\
  (∀k∈zB (ad L t),al L k=true/\k<t)/\sizeOf L t=1+((zB<|ad L t).map<|sizeOf L).sum/\cz L t=(zB<|ad L t).foldl (fun d k=>max d<|cz L k) 0+1:=by
 obtain⟨i,hi,rfl⟩:=si ht
 have p:=h.mi i hi
 have u:=Qx (L:=L.take i) (n:=L[i].node) (by rw[p])
 rw[qL hi]
 have⟨h1,h2,h3,s,r,m,j,_,_⟩:=u
 have f:∀k∈zB L[i].node,al (L.take i) k=true/\al L k=true/\k<(i:Int)+1:=by
  intro k e;have c:=r k e;have o:=zI.1 c;have:L.take i++L.drop i=L:=List.take_append_drop i L;refine⟨c,by rw[<-this];exact uF c,?_⟩;rw[List.length_take]at o;omega
 have g:∀k∈zB L[i].node,sizeOf (L.take i) k=sizeOf L k/\cz (L.take i) k=cz L k:=by
  intro k e;have c:=(f k e).1;have:L.take i++L.drop i=L:=List.take_append_drop i L;exact⟨by rw[<-I0 (M:=L.drop i) c,this],by rw[<-Jg (M:=L.drop i) c,this]⟩
 refine⟨h1,h2,h3,s,fun k e=>⟨(f k e).2.1,(f k e).2.2⟩,?_,?_⟩
 have:sizeOf L ((i:Int)+1)=L[i].size:=by simp[sizeOf,wS hi]
 rw[this]
 rw[p]at m
 simp only at m
 rw[m]
 congr 2
 exact List.map_congr_left fun k e=>(g k e).1
 have:cz L ((i:Int)+1)=L[i].depth:=by simp[cz,wS hi]
 rw[this]
 rw[p]at j
 simp only at j
 rw[j]
 congr 1
 have:∀(l:List Int) (d:Int),(∀k∈l,cz (L.take i) k=cz L k)->l.foldl (fun d t=>max d<|cz (L.take i) t) d=l.foldl (fun d k=>max d<|cz L k) d:=by
  intro l;induction l with
  |nil=>intro d _;rfl
  |cons a l q=>intro d hh;simp only[List.foldl_cons];rw[hh a Sm];exact q _ fun k e=>hh k (by simp[e])
 exact this _ _ fun k e=>(g k e).2
def yh:bt:=.mk 0 0 0 0 ⟨#[]⟩ []
def uk(L:av):Nat->Int->bt
 |0,_=>yh
 |fuel+1,t=>if al L t=true then .mk (ad L t).kind (ad L t).ay (ad L t).to (ad L t).num (ad L t).ba ((zB<|ad L t).map<|uk L fuel)else yh
def zA(L:av)(t:Int):bt:=uk L t.toNat t
def CF{L t}(h:al L t=false)(f):uk L f t=yh:=by
 cases f<;>simp[uk,h]
def VX{L}(h:Wf L):∀(f:Nat) (t:Int),t.toNat<=f->uk L f t=zA L t:=by
 have key:∀(f g:Nat) (t:Int),t.toNat<=f->t.toNat<=g->uk L f t=uk L g t:=by
  intro f;induction f with
  |zero =>
   intro g t a d
   have:al L t=false:=by
    apply Bool.eq_false_iff.2;intro hi;have:=zI.1 hi;omega
   rw[CF this,CF this]
  |succ f e =>
   intro g t a d
   cases hi:al L t with
   |false=>rw[CF hi,CF hi]
   |true =>
    have c:=zI.1 hi
    cases g with
    |zero=>omega
    |succ g =>
     simp only[uk,hi,if_true]
     congr 1
     refine List.map_congr_left fun k b=>e g k ?_ ?_
     have:=((h.node hi).2.2.2.2.1 k b).2;omega
     have:=((h.node hi).2.2.2.2.1 k b).2;omega
 intro f t a;exact key f t.toNat t a<|Nat.le_refl _
def Ha{L t}(h:al L t=false):zA L t=yh:=CF h _
def zX{L}(h:Wf L){t}(ht:al L t=true):zA L t=.mk (ad L t).kind (ad L t).ay (ad L t).to (ad L t).num (ad L t).ba ((zB<|ad L t).map<|zA L):=by
 have a:=zI.1 ht;have e:t.toNat=(t.toNat-1)+1:=Om;unfold zA;rw[e];simp only[uk,ht,if_true];congr 1;refine List.map_congr_left fun k b=>?_;have:=((h.node ht).2.2.2.2.1 k b).2;exact VX h _ k Om
def Wf.first{L M}(h:Wf (L++M)):Wf L:=by
 refine⟨⟨by have:=h.ok.fm;rw[List.length_append]at this;omega,?_,fun e a=>h.ok.size e<|by simp[a],fun e a=>h.ok.depth e<|by simp[a]⟩,fun i hi=>?_⟩
 .have:=h.ok.pt;rw[List.map_append]at this;exact(List.nodup_append.1 this).1
 .have:=h.mi i Gd;rw[List.getElem_append_left hi,List.take_append_of_le_length Om]at this;exact this
def uL{L M}(h:Wf (L++M)):∀(n:Nat) (t:Int),t.toNat=n->al L t=true->zA (L++M) t=zA L t:=by
 have b:=h.first;intro n;induction n using Nat.strongRecOn with
 |_ n c =>
  intro t e ht
  rw[zX h<|uF ht,zX b ht,zF ht]
  congr 1
  refine List.map_congr_left fun k d=>?_
  have a:=(b.node ht).2.2.2.2.1 k d
  have:=zI.1 a.1
  exact c k.toNat Om k rfl a.1
end Go.Proofs
end
section
namespace Go.Proofs
def qP(k:Int):Bool:=k==7 ||k==8 ||k==9
def sB(k:Int):Bool:=k==1 ||k==2 ||k==3
def zV(n:Int):df:=⟨6,n,0,0,⟨#[]⟩,0,0⟩
def oo(n:df):Int:=if n.kind=9 then n.to else n.ay
def xD(L:av)(r u t:Int):Prop:=
 (r=1/\(ad L u).kind=4/\(ad L u).a=t)\/(r=2/\(ad L u).kind=4/\(ad L u).b=t)\/(r=3/\qP (ad L u).kind=true/\(ad L u).a=t)
inductive mg(L:av)(G:List Int):Int->Prop
 |pI {t:Int}:t∈G->mg L G t
 |AJ {r u t:Int}:mg L G u->xD L r u t->mg L G t
inductive dr(L:av)(K:Int->Prop):Int->Prop
 |seen {t:Int}:K t->dr L K t
 |free {t:Int}:sB (ad L t).kind=true->dr L K t
 |ke {t:Int}:(ad L t).kind=4->dr L K (ad L t).a->dr L K (ad L t).b->dr L K t
 |ov {t:Int}:(ad L t).kind=5->dr L K (ad L t).a->dr L K t
 |ng {t:Int} {i:Nat}:qP (ad L t).kind=true->dr L K (ad L t).a->find L (zV<|oo<|ad L t)=some i->K ((i:Int)+1)->dr L K t
structure gx where
 t:Int
 gz:Int
 ay:Int
deriving DecidableEq
def zG(S:List gx):List Int:=S.map gx.t
def tf(L:av)(G:List Int)(az:List gx)(v:gx):Prop:=(v.gz=0/\v.ay=0/\v.t∈G)\/(v.gz≠0/\xD L v.gz v.ay v.t/\v.ay∈zG az)
structure oy(L:av)(G:List Int)(S:List gx):Prop where
 pt:(zG S).Nodup
 gm:∀t∈zG S,al L t=true
 ua:∀i (h:i<S.length),tf L G (S.take i) S[i]
def sQ(L:av)(S:List gx)(u:Int):Prop:=∀r t,xD L r u t->t∈zG S
structure ny(L:av)(G:List Int)(S:List gx):Prop extends oy L G S where
 rW:∀u∈zG S,sQ L S u
 jo:∀t∈G,t∈zG S
 DF:G.Nodup
def yH(S):(zG S).length=S.length:=by simp[zG]
def tf.mono{L G G' az v}(h:tf L G az v)(d:∀t∈G,t∈G'):tf L G' az v:=by
 rcases h with⟨a,b,c⟩|h;exact .inl ⟨a,b,d _ c⟩;exact .inr h
def oy.mono{L G G' S}(h:oy L G S)(a:∀t∈G,t∈G'):oy L G' S:=⟨h.pt,h.gm,fun i hi=>(h.ua i hi).mono a⟩
def oy.sd{L G S}(h:oy L G S){v}(d:v.t∉zG S)(hi:al L v.t=true)(g:tf L G S v):oy L G (S++[v]):=by
 refine⟨?_,?_,fun i a=>?_⟩;unfold zG at d|-;rw[List.map_append,List.nodup_append];exact⟨h.pt,Sm,fun x f y c e=>by simp at c;subst c;exact d<|e▸f⟩;intro t ht;unfold zG at ht;rw[List.map_append,List.mem_append]at ht;rcases ht with ht|ht;exact h.gm t ht;grind;rw[List.length_append]at a;simp only[List.length_cons,List.length_nil]at a;by_cases b:i<S.length;rw[List.getElem_append_left b,List.take_append_of_le_length Om];exact h.ua i b;grind
def sQ.sd{L S u v}(h:sQ L S u):sQ L (S++[v]) u:=fun r t a=>by
 unfold zG;rw[List.map_append];exact List.mem_append_left _<|h r t a
def IR{S t}(h:t∈zG S):∃i,∃hi:i<S.length,S[i].t=t/\(zG S).idxOf t=i:=by
 have a:=List.idxOf_lt_length_iff.2 h;refine⟨(zG S).idxOf t,by simpa[zG]using a,?_,rfl⟩;have:=List.getElem_idxOf a;simp only[zG,List.getElem_map]at this|-;exact this
def ny.wC{L G S}(h:ny L G S)(t):t∈zG S↔mg L G t:=by
 constructor;intro ht;have⟨i,hi,e,_⟩:=IR ht;subst e;have:∀(n i:Nat) (hi:i<S.length),i<=n->mg L G S[i].t:=by
  intro n;induction n with
  |zero =>
   intro i hi f
   have:i=0:=Om
   subst this
   rcases h.ua 0 hi with⟨_,_,a⟩|⟨_,_,hm⟩
   exact .pI a
   simp[zG]at hm
  |succ n c =>
   intro i hi g
   rcases h.ua i hi with⟨_,_,a⟩|⟨_,b,hm⟩
   exact .pI a
   have⟨j,d,e,_⟩:=IR hm
   rw[List.length_take]at d
   have:=c j Om Om
   rw[List.getElem_take]at e
   rw[e]at this
   exact .AJ this b
 exact this i i hi<|Nat.le_refl _;intro hs;induction hs with
 |pI a=>exact h.jo _ a
 |AJ _ b c=>exact h.rW _ c _ _ b
def dr.mono{L K K'}(d:∀t,K t->K' t){t}(h:dr L K t):dr L K' t:=by
 induction h with
 |seen h=>exact .seen<|d _ h
 |free h=>exact .free h
 |ke h _ _ b c=>exact .ke h b c
 |ov h _ a=>exact .ov h a
 |ng h _ e f a=>exact .ng h a e<|d _ f
structure gl where
 gz:Int
 a:Int
 b:Int
 t:Int
deriving DecidableEq
def ahead(i:Nat)(v:Int):Bool:=decide (0<=v)&&decide (v<i)
def pz(az:List gl)(v:Int):Int:=(az[v.toNat]?.map gl.t).getD 0
def G1(L:av)(r u t:Int):Bool:=
 if r=1 then(ad L u).kind==4&&(ad L u).a==t else if r=2 then(ad L u).kind==4&&(ad L u).b==t else qP (ad L u).kind&&(ad L u).a==t
def nn(L:av)(G:List Int)(az:List gl)(s:gl):Bool:=
 if al L s.t=false then false
 else if s.gz=0 then s.a==0&&s.b==0&&decide (s.t∈G)
 else if s.gz=1\/s.gz=2\/s.gz=3 then ahead az.length s.a&&s.b==0&&G1 L s.gz (pz az s.a) s.t
 else if s.gz=4 then s.a==0&&s.b==0&&sB (ad L s.t).kind
 else if s.gz=5 then
  if(ad L s.t).kind=4 then ahead az.length s.a&&ahead az.length s.b&&pz az s.a==(ad L s.t).a&&pz az s.b==(ad L s.t).b
  else if(ad L s.t).kind=5 then ahead az.length s.a&&s.b==0&&pz az s.a==(ad L s.t).a
  else if qP (ad L s.t).kind=true then ahead az.length s.a&&ahead az.length s.b&&pz az s.a==(ad L s.t).a&&(ad L<|pz az s.b).kind==6&&(ad L<|pz az s.b).ay==oo (ad L s.t)
  else false
 else false
end Go.Proofs
namespace Go.Proofs
def OA{α:Type}[DecidableEq α]:∀{l m:List α},l.Nodup->(∀x∈l,x∈m)->l.length<=m.length
 |[],m,_,_=>Sm
 |x :: l,m,b,hs=>by
  have a:=hs x Sm;rw[List.nodup_cons]at b;have:=OA (m:=m.erase x) b.2 Gd;rw[List.length_erase_of_mem a]at this;have:=List.length_pos_of_mem a;simp only[List.length_cons];omega
def tT{L}{l:List Int}(a:l.Nodup)(hi:∀t∈l,al L t=true):l.length<=L.length:=by
 have:=OA (m:=(List.range L.length).map fun i:Nat=>(i:Int)+1) a (fun t ht=>by
  have⟨i,h1,h2⟩:=si<|hi t ht;exact List.mem_map.2 ⟨i,List.mem_range.2 h1,h2.symm⟩)
 simpa using this
def oy.fm{L}{G:List Int}{S}(h:oy L G S):S.length<=L.length:=by
 have:=tT h.pt h.gm;rwa [yH]at this
def wI{L}(h:Wf L){t}(ht:al L t=true)(c:(ad L t).kind=4):(al L (ad L t).a=true/\(ad L t).a<t)/\(al L (ad L t).b=true/\(ad L t).b<t):=by
 have:=(h.node ht).2.2.2.2.1;simp only[zB,c,bk]at this;exact⟨this _ Sm,this _ Sm⟩
def L6{L}(h:Wf L){t}(ht:al L t=true)(b:(ad L t).kind=5):al L (ad L t).a=true/\(ad L t).a<t:=by
 have:=(h.node ht).2.2.2.2.1;simp only[zB,b,bk]at this;exact this _ Sm
def zh{L}(h:Wf L){t}(ht:al L t=true)(b:qP (ad L t).kind=true):al L (ad L t).a=true/\(ad L t).a<t:=by
 have:=(h.node ht).2.2.2.2.1;simp only[qP,Bool.or_eq_true,beq_iff_eq]at b;rcases b with(b|b)|b<;>simp only[zB,b,bk]at this<;>exact this _ Sm
def xD.gm{L}(h:Wf L){r u t}(b:al L u=true)(c:xD L r u t):al L t=true/\t<u:=by
 rcases c with⟨_,a,rfl⟩|⟨_,a,rfl⟩|⟨_,a,rfl⟩;exact(wI h b a).1;exact(wI h b a).2;exact zh h b a
def sL(S:List gx)(v:gx):List gx:=if v.t∈zG S then S else S++[v]
def tY(S v):zG (S++[v])=zG S++[v.t]:=by simp[zG]
def Ca(S v):v.t∈zG (sL S v)/\∀t∈zG S,t∈zG (sL S v):=by
 unfold sL;split;grind;rw[tY];exact⟨Sm,fun t ht=>List.mem_append_left _ ht⟩
def Gv(S v):∃M,sL S v=S++M:=by
 unfold sL;split;exact⟨[],Sm⟩;exact⟨[v],rfl⟩
def oy.add{L G S}(h:oy L G S){v}(hi:al L v.t=true)(a:tf L G S v):oy L G (sL S v):=by
 unfold sL;split;exact h;rename_i b;exact h.sd b hi a
end Go.Proofs
end
section
open Go Go.SE List
namespace Go.Proofs
open Tryz
attribute [local irreducible] Calls
def FZ(p:Int×Int):Value:=.agg #[vi p.1,vi p.2]
def ya(S:List gx):List (Int×(Int×Int)):=S.map fun v=>(v.t,(v.gz,v.ay))
def FT(S):(ya S).map Prod.fst=zG S:=by simp[ya,zG]
def XZ(S v):ya (S++[v])=ya S++[(v.t,(v.gz,v.ay))]:=by simp[ya]
structure mh(w:World)(k p:Addr)(G:List Int)(S:List gx)(ks:List Int)(sg:Sl)(m:Nat)(sl:Sl):Prop where
 box:ai w k [vp<|some p,sg.v,.map<|some m,sl.v] 163
 jo:bf w 73 1 sg (bz G)
 seen:fc FZ w m (ya S)
 pZ:bf w 73 1 sl (bz ks)
 n1:m≠k.block
 n2:¬sg.ao k.block
 n3:¬sl.ao k.block
 n4:¬sg.ao m
 n5:¬sl.ao m
 n6:∀b,sg.ao b->¬sl.ao b
def KF(k:Addr)(sg:Sl)(m:Nat)(sl:Sl)(b:Nat):Prop:=b=k.block\/sg.ao b\/b=m\/sl.ao b
def qJ(w:World)(k p:Addr)(G:List Int)(S:List gx)(F:NP):Prop:=∃sg m sl,mh w k p G S (zG S) sg m sl/\∀b,F b↔KF k sg m sl b
section
variable {w w':World} {k p:Addr} {G:List Int} {S:List gx} {ks:List Int} {sg sl:Sl} {m:Nat} {F:NP}
def mh.ext{X}(h:mh w k p G S ks sg m sl)(a:ab X w w')(c:∀b,KF k sg m sl b->¬X b):mh w' k p G S ks sg m sl:=
 ⟨h.box.ext a<|c _<|.inl rfl,h.jo.ext a fun b d=>c _<|.inr<|.inl d,h.seen.ext a<|c _<|.inr<|.inr<|.inl rfl,h.pZ.ext a fun b d=>c _<|.inr<|.inr<|.inr d,h.n1,h.n2,h.n3,h.n4,h.n5,h.n6⟩
def mh.pure(h:mh w k p G S ks sg m sl)(a:Pure w w'):mh w' k p G S ks sg m sl:=h.ext a fun _ _ h=>h
def mh.lt(h:mh w k p G S ks sg m sl){b}(a:KF k sg m sl b):b<w.heap.size:=by
 rcases a with rfl|a|rfl|a;exact h.box.lt;exact h.jo.lt a;exact h.seen.lt;exact h.pZ.lt a
def qJ.ext{X}(h:qJ w k p G S F)(a:ab X w w')(d:∀b,F b->¬X b):qJ w' k p G S F:=by
 have⟨sg,m,sl,h,c⟩:=h;exact⟨sg,m,sl,h.ext a Gd,c⟩
def qJ.pure(h:qJ w k p G S F)(a:Pure w w'):qJ w' k p G S F:=h.ext a fun _ _ h=>h
def qJ.lt(h:qJ w k p G S F){b}(c:F b):b<w.heap.size:=by
 have⟨sg,m,sl,h,a⟩:=h;exact h.lt<|(a b).1 c
def mh.eu(h:mh w k p G S ks sg m sl)(t:Int):∃r f:Int,(Instr.lookup 161 (.map<|some m) (vi t) true).run prog w=.ok (.tuple #[.agg #[vi r,vi f],vb<|decide (t∈zG S)]) w/\(t∈zG S->SE.eu (ya S) t=some (r,f)):=by
 rcases h.seen.get (P:=prog) (T:=161) underlying161 underlying73 (zeroValue205 _) t true with⟨h1,h2⟩|⟨⟨r,f⟩,h1,h2⟩;have a:t∉zG S:=by have:=uV.1 h1;rwa [FT]at this
 exact⟨0,0,by rw[decide_eq_false a];exact h2,fun h=>absurd h a⟩;have b:t∈zG S:=by
  have:=tU h1;rw[<-FT];exact mem_map.2 ⟨_,this,rfl⟩
 exact⟨r,f,by rw[decide_eq_true b];exact h2,fun _=>h1⟩
def mh.put(h:mh w k p G S ks sg m sl){v:gx}(c:v.t∉zG S):∃w',(Instr.mapUpdate 161 (.map<|some m) (vi v.t)<|.agg #[vi v.gz,vi v.ay]).run prog w=.ok () w'/\mh w' k p G (S++[v]) ks sg m sl/\ab (·=m) w w':=by
 have⟨w',h1,h2,h3⟩:=h.seen.put (P:=prog) (T:=161) (K:=73) underlying161 underlying73 (k:=v.t) (uV.2 (by rw[FT];exact c)) (v.gz,v.ay);exact⟨w',h1,⟨h.box.ext h3 fun e=>h.n1 e.symm,h.jo.ext h3 fun b a e=>h.n4<|e▸a,by rw[XZ];exact h2,h.pZ.ext h3 fun b a e=>h.n5<|e▸a,h.n1,h.n2,h.n3,h.n4,h.n5,h.n6⟩,h3⟩
def mh.gn(h:mh w k p G S ks sg m sl){t q w1}(o:au w (.cells #[vi t] 73) q w1)(u:ks.length<=1000000):∃s1 f,(Builtin.append_ #[46,46] 46 #[sl.v,(Sl.mk (some q) 1 1).v]).run prog w1=.ok s1.v f/\ab sl.ao w1 f/\ai f k [vp<|some p,sg.v,.map<|some m,sl.v] 163 /\
  mh (f.setCell (k.add 3) s1.v) k p G S (ks++[t]) sg m s1/\ab (KF k sg m sl) w (f.setCell (k.add 3) s1.v)/\∀b,KF k sg m s1 b->KF k sg m sl b\/w.heap.size<=b:=by
 have l:Pure w w1:=ab.aw o
 have h1:=h.pure l
 have⟨s1,f,hr,s,g,a⟩:=h1.pZ.append (P:=prog) (ty:=46) (c:=1) te (r:=[vi t]) (ai.bh o).row rfl rfl (by rw[vA];omega) (by rw[vA];simp[maxLen];omega)
 have i:=h1.box.ext g h1.n3
 have d:∀b,s1.ao b->sl.ao b\/w.heap.size<=b:=fun b h=>(a b h).imp_right fun h=>Oh l.size
 have n:¬s1.ao k.block:=fun hh=>(d _ hh).elim h.n3 fun hh=>Oh h.box.lt
 have nm:¬s1.ao m:=fun hh=>(d _ hh).elim h.n5 fun hh=>Oh h.seen.lt
 have j:=ab.setCell (w:=f) (k.add 3) s1.v
 rw[zC]at j
 refine⟨s1,f,hr,g,i,⟨i.set 3 s1.v,((h1.jo.ext g h.n6).ext j fun b a e=>h.n2<|e▸a),((h1.seen.ext g h.n5).ext j h.n1),by rw[show bz (ks++[t])=bz ks++[[vi t]] by simp[bz]];exact s.ext j fun b a e=>n<|e▸a,h.n1,h.n2,n,h.n4,nm,fun b h1 h2=>(d b h2).elim (h.n6 b h1) fun hh=>Oh<|h.jo.lt h1⟩,?_,?_⟩
 exact((l.pure (F:=KF k sg m sl)).trans<|g.mono fun b _ a=>.inr<|.inr<|.inr a).trans (j.mono fun b _ a=>.inl a)
 rintro b (a|a|a|a)
 exact .inl<|.inl a
 exact .inl<|.inr<|.inl a
 exact .inl<|.inr<|.inr<|.inl a
 exact(d b a).imp_left fun h=>.inr<|.inr<|.inr h
end
def TM(p w0):cl 43 #[vp<|some p] w0 (XD fun r w'=>∃k F,r=some k/\qJ w' k p [] [] F/\Pure w0 w'/\∀b,F b->w0.heap.size<=b):=by
 refine jcW _ w0 (fun r w'=>∃k F,r=some k/\qJ w' k p [] [] F/\Pure w0 w'/\∀b,F b->w0.heap.size<=b) ?_;refine Br.f rfl ?_;intro j g h1 l m h2;have e:Pure w0 g:=ab.aw h1;have i:Pure g m:=ab.aw h2;have c:∀b,¬Sl.nil.ao b:=fun b d=>by have⟨a,h,_⟩:=d;cases h
 refine⟨l,_,rfl,⟨Sl.nil,j.block,Sl.nil,⟨ai.bh h2,bf.nil _ _ _,(fc.bh (f:=FZ) h1).pure i,bf.nil _ _ _,?_,c _,c _,c _,c _,fun b d=>(c b d).elim⟩,fun b=>Iff.rfl⟩,e.trans i,?_⟩;have:=h1.cu;have:=h2.cu;have:=e.size;have:=(fc.bh (f:=FZ) h1).lt;omega;rintro b (rfl|d|rfl|d);have:=h2.cu;have:=e.size;omega;exact(c b d).elim;have:=h1.cu;omega;exact(c b d).elim
def LJ(k p t w0){G S F}(h:qJ w0 k p G S F):
  cl 128 #[vp<|some k,vi t] w0<|XC fun r w'=>r=decide (t∈zG S)/\Pure w0 w':=by
 refine ZS _ _ w0 _ ?_
 unfold Mf
 have⟨sg,m,sl,h,c⟩:=h
 have⟨r,f,h1,_⟩:=h.eu t
 exact Br.f rfl ⟨k,rfl,_,h.box.cell rfl,r,f,_,h1,fun b a hs=>⟨rfl,hs.first⟩⟩
def Nj(k p w0){G S F}(h:qJ w0 k p G S F)(c:G.length<=1000000):
  cl 68 #[vp<|some k] w0<|XA fun r w'=>fx w0 73 1 (bz G) r w':=by
 refine SR _ w0 _ ?_
 unfold Lu
 have⟨sg,m,sl,h,d⟩:=h
 refine Br.f rfl ⟨k,rfl,sg,h.box.cell rfl,?_⟩
 refine(WQ sg G w0 h.jo.ei (fun a=>?_) c).mono ?_
 rcases h.jo.ak with⟨e,_⟩|⟨g,cur,b,_⟩
 exact e
 rw[b]at a;cases a
 grind
section
variable {w w':World} {k p:Addr} {G:List Int} {S:List gx} {F:NP}
end
def GC(k p t gz u c1 c2 w0){G S F}(h:qJ w0 k p G S F)(h1:w0.cell? c1=some (vp<|some k))(h2:w0.cell? c2=some (vi u))(d1:¬ F c1.block)(d2:¬ F c2.block)(O:S.length<=1000000):
  cl 181 #[vi t,vi gz,vp<|some c1,vp<|some c2] w0<|fun e w'=>e=.returned (.tuple #[])/\∃F',qJ w' k p G (sL S ⟨t,gz,u⟩) F'/\ab F w0 w'/\∀b,F' b->F b\/w0.heap.size<=b:=by
 refine Sa _ _ _ _ w0 _ ?_
 unfold Ps
 have R:=h
 have⟨sg,m,sl,h,n⟩:=h
 have⟨r,f,N,_⟩:=h.eu t
 refine⟨_,h1,k,rfl,_,h.box.cell rfl,r,f,_,N,fun x=>?_,fun x=>?_⟩
 .have i:t∉zG S:=by simpa using x
  have g:sL S ⟨t,gz,u⟩=S++[⟨t,gz,u⟩]:=if_neg i
  rw[g]
  intro M A d
  have U:=d.first
  have hh:∀{b},b<w0.heap.size->¬M b:=fun c z=>Oh<|d.old _ z
  have l:Pure w0 A.drew:=U.trans<|ab.drew A
  have o:∀a:World,Pure a a.drew:=fun a=>ab.drew a
  have H:=World.block_lt_of_cell? w0 c1 h1
  refine⟨fun w'=>mh w' k p G S (zG S) sg m sl/\w'.cell? c1=some (vp<|some k)/\w'.cell? c2=some (vi u),⟨h.pure l,l.cell h1 fun h=>h,l.cell h2 fun h=>h⟩,?_⟩
  rintro _ rfl
  have h3:=h.pure l
  refine⟨_,fun w' h=>h.2.1,k,rfl,_,fun w' h=>h.1.box.cell rfl,_,fun w' h=>h.2.2,?_⟩
  have⟨a,C,V,s⟩:=h3.put (v:=⟨t,gz,u⟩) i
  refine⟨a,C,s.bl fun b c e=>by subst e;exact hh (h.lt<|.inr<|.inr<|.inl rfl) c,?_⟩
  have j:a.cell? c1=some (vp<|some k):=s.cell (l.cell h1 fun h=>h) fun e=>d1<|(n _).2<|.inr<|.inr<|.inl e
  have D:=V.pure<|ab.drew a
  refine⟨fun w'=>w'.cell? c1=some (vp<|some k)/\ai w' k [vp<|some p,sg.v,.map<|some m,sl.v] 163,⟨(o a).cell j fun h=>h,D.box⟩,?_⟩
  rintro _ rfl
  refine⟨_,fun w' h=>h.1,_,fun w' h=>h.1,k,rfl,sl,fun w' h=>h.2.cell rfl,?_⟩
  intro q P K
  have B:Pure a.drew P:=ab.aw K
  refine⟨⟨B.cell ((o a).cell j fun h=>h) fun h=>h,D.box.pure B⟩,?_⟩
  have⟨s1,J,y,E,I,L,T,Q⟩:=D.gn K (by rw[yH];exact O)
  have w:J.cell? c1=some (vp<|some k):=E.cell (B.cell ((o a).cell j fun h=>h) fun h=>h) fun c=>d1<|(n _).2<|.inr<|.inr<|.inr c
  refine⟨s1,J,y,⟨w,I⟩,E.bl fun b c z=>hh (h.lt<|.inr<|.inr<|.inr z) c,k,rfl,I.ee Sm,by rw[zC];exact hh h.box.lt,?_⟩
  rintro _ rfl
  rw[<-show zG (S++[⟨t,gz,u⟩])=zG S++[t]from tY S ⟨t,gz,u⟩]at L
  have W:w0.heap.size<=a.drew.heap.size:=Nat.le_trans l.size<|Nat.le_trans s.size (o a).size
  refine⟨_,⟨sg,m,s1,L,fun b=>Iff.rfl⟩,?_,fun b c=>(Q b c).imp (n b).2 fun h=>Om⟩
  refine((l.pure (F:=F)).trans<|s.mono fun b _ e=>(n b).2<|.inr<|.inr<|.inl e).trans (((ab.drew a:Pure a a.drew).pure (F:=F)).trans<|T.mono fun b _ c=>(n b).2 c)
 .have i:t∈zG S:=by simpa using x
  have g:sL S ⟨t,gz,u⟩=S:=if_pos i
  rw[g]
  intro M A d
  exact⟨F,R.pure d.first,d.first.pure,fun b c=>.inl c⟩
structure oD(w0:World)(H:NP)(w:World)(k p p1:Addr)(L:av)(G:List Int)(S:List gx)(F F0 FP:NP):Prop where
 fh:qJ w k p G S F
 bj:zD w p L FP
 cap:w.cell? p1=some (vp<|some k)
 ext:ab F0 w0 w
 ak:∀b,F b->F0 b\/w0.heap.size<=b
 h1:∀b,F b->¬H b
 h2:∀b,FP b->¬H b
 h3:¬H p1.block
 d1:¬F p1.block
 d2:∀b,F b->¬FP b
section
variable {w0 w w':World} {H H':NP} {k p p1:Addr} {L:av} {G:List Int} {S S':List gx} {F F' F0 FP:NP}
def oD.pure(h:oD w0 H w k p p1 L G S F F0 FP)(E:Pure w w'):oD w0 H w' k p p1 L G S F F0 FP:=
 ⟨h.fh.pure E,h.bj.pure E,E.cell h.cap fun h=>h,h.ext.fb E,h.ak,h.h1,h.h2,h.h3,h.d1,h.d2⟩
def oD.aq(h:oD w0 H w k p p1 L G S F F0 FP)(hs:af w0 H w H' w'):oD w0 H' w' k p p1 L G S F F0 FP:=by
 have c:=hs.ja (G:=F) fun b a=>⟨h.fh.lt a,h.h1 b a⟩;have d:=hs.ja (G:=FP) fun b a=>⟨h.bj.lt a,h.h2 b a⟩;have e:=hs.ja (G:=(·=p1.block)) (fun b a=>by subst a;exact⟨World.block_lt_of_cell? w p1 h.cap,h.h3⟩) _ rfl;exact⟨h.fh.ext hs.ext c,h.bj.ext hs.ext d,hs.ext.cell h.cap e,h.ext.cg hs.ext fun i hi a=>Oh<|hs.old i a,h.ak,c,d,e,h.d1,h.d2⟩
def oD.EJ(h:oD w0 H w k p p1 L G S F F0 FP){q}(E:ab (·=q) w w')(q1:¬F q)(q2:¬FP q)(q3:q≠p1.block)(q4:w0.heap.size<=q):oD w0 H w' k p p1 L G S F F0 FP:=
 ⟨h.fh.ext E fun b a e=>q1<|e▸a,h.bj.ext E fun b a e=>q2<|e▸a,E.cell h.cap fun e=>q3 e.symm,h.ext.cg E Gd,h.ak,h.h1,h.h2,h.h3,h.d1,h.d2⟩
def oD.step(h:oD w0 H w k p p1 L G S F F0 FP)(f:∀b,H b->b<w.heap.size)(e:qJ w' k p G S' F')(E:ab F w w')(c:∀b,F' b->F b\/w.heap.size<=b):oD w0 H w' k p p1 L G S' F' F0 FP:=by
 have a:=h.ext.size;refine⟨e,h.bj.ext E fun b a d=>h.d2 b d a,E.cell h.cap h.d1,h.ext.cg E fun i hi d=>(h.ak i d).elim id fun hh=>Om,fun b a=>?_,fun b a hh=>?_,h.h2,h.h3,fun hh=>?_,fun b a hh=>?_⟩;rcases c b a with h1|h1;exact h.ak b h1;right;omega;rcases c b a with h1|h1;exact h.h1 b h1 hh;have:=f b hh;omega;rcases c _ hh with h1|h1;exact h.d1 h1;have:=World.block_lt_of_cell? w p1 h.cap;omega;rcases c b a with h1|h1;exact h.d2 b h1 hh;have:=h.bj.lt hh;omega
end
def Sb(k p t gz ay w0){L G S F FP}(h:qJ w0 k p G S F)(hP:zD w0 p L FP)(hW:Wf L)(hd:∀b,F b->¬ FP b)(hwo:oy L G S)(hcl:∀u∈zG S,sQ L S u)(ht:al L t=true)(hv:tf L G S ⟨t,gz,ay⟩):
  cl 134 #[vp<|some k,vi t,.agg #[vi gz,vi ay]] w0<|fun e w'=>e=.returned (.tuple #[])/\∃S' F',qJ w' k p G S' F'/\(oy L G S'/\(∀u∈zG S',sQ L S' u)/\t∈zG S'/\∀u∈zG S,u∈zG S')/\ab F w0 w'/\∀b,F' b->F b\/w0.heap.size<=b:=by
 suffices key:∀K:WP,(∀S' F' w',qJ w' k p G S' F'->(oy L G S'/\(∀u∈zG S',sQ L S' u)/\t∈zG S'/\∀u∈zG S,u∈zG S')->ab F w0 w'->(∀b,F' b->F b\/w0.heap.size<=b)->K w')->Mz (some k) t gz ay w0 K from
  w_Y _ _ _ _ w0 _<|key _ fun S' F' w' a b c d=>⟨S',F',a,b,c,d⟩
 intro K hK
 intro p1 w1 h1 H1 w2 hs2
 have hp1:=h1.cu
 have E1:Pure w0 w1:=ab.aw h1
 have nF:∀{b},F b->b<w0.heap.size:=fun l=>h.lt l
 have nP:∀{b},FP b->b<w0.heap.size:=fun l=>hP.lt l
 have A1:oD w0 ar w1 k p p1 L G S F F FP:=⟨h.pure E1,hP.pure E1,(ai.bh h1).bd,E1.pure,fun b l=>.inl l,fun b _ h=>h,fun b _ h=>h,fun h=>h,fun l=>Oh<|nF l,hd⟩
 have A2:=A1.aq hs2
 have⟨sg,m,sl,k2,O⟩:=A2.fh
 have⟨r,f,hl,_⟩:=k2.eu t
 refine⟨_,A2.cap,k,rfl,_,k2.box.cell rfl,r,f,_,hl,fun hc=>?_,fun hc=>?_⟩
 intro H2 Y hs4
 have A4:=A2.aq hs4
 exact hK S F Y A4.fh ⟨hwo,hcl,by simpa using hc,fun _ h=>h⟩ A4.ext fun b l=>.inl l
 have hnt:t∉zG S:=by simpa using hc
 intro H2 Y hs4
 have A4:=A2.aq hs4
 have k4:mh Y k p G S (zG S) sg m sl:=k2.ext hs4.ext fun b l=>A4.h1 b<|(O b).2 l
 have D:∀w:World,Pure w w.drew:=fun w=>ab.drew w
 refine⟨fun w'=>w'.cell? p1=some (vp<|some k)/\ai w' k [vp<|some p,sg.v,.map<|some m,sl.v] 163,⟨(A4.pure<|D Y).cap,(k4.pure<|D Y).box⟩,?_⟩
 rintro _ rfl
 have A5:=A4.pure<|D Y
 have k5:=k4.pure<|D Y
 have hs5:af w0 H2 Y.drew H2 Y.drew:=hs4.fi.gi (D Y).bo
 refine⟨_,fun w' h=>h.1,k,rfl,_,fun w' h=>h.2.cell rfl,?_⟩
 have⟨w6,hr6,k6,E6⟩:=k5.put (v:=⟨t,gz,ay⟩) hnt
 have hm:¬H2 m:=A5.h1 m<|(O m).2<|.inr<|.inr<|.inl rfl
 refine⟨w6,hr6,E6.bl fun b l e=>hm<|e▸l,?_⟩
 have c16:w6.cell? p1=some (vp<|some k):=E6.cell A5.cap fun e=>A5.d1<|(O _).2<|.inr<|.inr<|.inl e
 refine⟨_,c16,k,rfl,sl,k6.box.cell rfl,?_⟩
 have k7:=k6.pure<|D w6
 have c17:w6.drew.cell? p1=some (vp<|some k):=(D w6).cell c16 fun h=>h
 refine⟨fun w'=>w'.cell? p1=some (vp<|some k)/\ai w' k [vp<|some p,sg.v,.map<|some m,sl.v] 163,⟨c17,k7.box⟩,?_⟩
 rintro _ rfl
 refine⟨_,fun w' h=>h.1,_,fun w' h=>h.1,k,rfl,sl,fun w' h=>h.2.cell rfl,?_⟩
 intro q w8 h8
 have E8:Pure w6.drew w8:=ab.aw h8
 refine⟨⟨E8.cell c17 fun h=>h,k7.box.pure E8⟩,?_⟩
 have hSn:S.length<=65536:=Oi hwo.fm hW.ok.fm
 have⟨s1,w9,hr9,X9,b9,k9,E9,f9⟩:=k7.gn h8 (by rw[yH];omega)
 have c19:w9.cell? p1=some (vp<|some k):=X9.cell (E8.cell c17 fun h=>h) fun l=>A5.d1<|(O _).2<|.inr<|.inr<|.inr l
 have hH8:∀b,H2 b->b<Y.drew.heap.size:=hs5.lt
 refine⟨s1,w9,hr9,⟨c19,b9⟩,X9.bl fun b l hx=>A5.h1 b ((O b).2<|.inr<|.inr<|.inr hx) l,k,rfl,b9.ee Sm,by rw[zC];exact A5.h1 _<|(O _).2<|.inl rfl,?_⟩
 rintro _ rfl
 rw[<-show zG (S++[⟨t,gz,ay⟩])=zG S++[t]from tY S ⟨t,gz,ay⟩]at k9
 have E59:ab F Y.drew (w9.setCell (k.add 3) s1.v):=(E6.mono fun b _ e=>(O b).2<|.inr<|.inr<|.inl e).trans<|((D w6).pure (F:=F)).trans<|E9.mono fun b _ l=>(O b).2 l
 have z6:Y.drew.heap.size<=w6.drew.heap.size:=Nat.le_trans E6.size (D w6).size
 have A10:oD w0 H2 (w9.setCell (k.add 3) s1.v) k p p1 L G (S++[⟨t,gz,ay⟩]) (KF k sg m s1) F FP:=A5.step hH8 ⟨sg,m,s1,k9,fun b=>Iff.rfl⟩ E59 fun b l=>(f9 b l).imp (O b).2 fun h=>Om
 have hw1:oy L G (S++[⟨t,gz,ay⟩]):=hwo.sd hnt ht hv
 have hl2:sl.len=S.length:=by rw[k2.pZ.len,vA,yH]
 refine⟨fun i H w'=>∃(j:Nat) (g:List gx) (W:NP),i=j/\j<=g.length/\oD w0 H w' k p p1 L G g W F FP/\oy L G g/\(∀u∈zG (g.take j),sQ L g u)/\t∈zG g/\∀u∈zG S,u∈zG g,fun i _=>((L.length:Int)-i).toNat,
  ⟨S.length,_,_,by rw[hl2],Sm,A10,hw1,fun u hu=>by rw[take_left]at hu;exact(hcl u hu).sd,by rw[tY];simp,fun u hu=>by rw[tY];exact mem_append_left _ hu⟩,?_⟩
 rintro _ P wl hl ⟨j,g,W,rfl,hj,A,Z,hcj,htj,hSj⟩
 unfold MA
 have⟨tg,mj,tl,kj,hFj⟩:=A.fh
 have hlj:tl.len=g.length:=by rw[kj.pZ.len,vA,yH]
 refine⟨_,A.cap,k,rfl,tl,kj.box.cell rfl,fun hc=>?_,fun hc=>?_⟩
 have hlt:=vW hlj hc
 have⟨a8,at8,_,c8⟩:=uB kj.pZ.ei (j:=j) (by rw[yH];exact hlt)
 have hu:(zG g)[j]'(by rw[yH];exact hlt)=g[j].t:=by simp[zG]
 rw[hu]at c8
 have hum:g[j].t∈zG g:=mem_map.2 ⟨_,getElem_mem hlt,rfl⟩
 have hui:=Z.gm _ hum
 have hLn:g.length<=L.length:=Z.fm
 have hL6:=hW.ok.fm
 have htk:zG (g.take<|j+1)=zG (g.take j)++[g[j].t]:=by rw[take_succ_eq_append_getElem hlt,tY]
 generalize g[j].t=u at *
 refine⟨_,A.cap,k,rfl,tl,kj.box.cell rfl,a8,at8,u,c8,?_⟩
 intro Q U h11
 have hp5:=h11.cu
 have E11:Pure wl U:=ab.aw h11
 have b5:=ai.bh h11
 have hnh5:¬P Q.block:=fun hh=>Oh<|hl.lt _ hh
 refine⟨b5.ia Sm,hnh5,?_⟩
 rintro _ rfl
 have b12:=b5.jb (v:=vi u)
 have E12:=ab.setCell (w:=U) Q<|vi u
 have wl0:=A.ext.size
 have n5:¬W Q.block:=fun hh=>Oh<|A.fh.lt hh
 have n5p:¬FP Q.block:=fun hh=>Oh<|A.bj.lt hh
 have n51:Q.block≠p1.block:=fun hh=>Oh<|World.block_lt_of_cell? wl p1 A.cap
 have A12:oD w0 P (U.setCell Q<|vi u) k p p1 L G g W F FP:=(A.pure E11).EJ E12 n5 n5p n51 Om
 have k12:mh (U.setCell Q<|vi u) k p G g (zG g) tg mj tl:=(kj.pure E11).ext E12 fun b l e=>n5<|e▸(hFj b).2 l
 have hl12:af w0 P (U.setCell Q<|vi u) P (U.setCell Q<|vi u):=(hl.gi E11.bo).gi<|E12.bl fun b l e=>hnh5<|e▸l
 generalize U.setCell Q (vi u)=z at *
 clear E11 E12 h11
 refine⟨fun w'=>w'.cell? p1=some (vp<|some k)/\ai w' k [vp<|some p,tg.v,.map<|some mj,tl.v] 163/\ai w' Q [vi u] 73,⟨(A12.pure<|D z).cap,(k12.pure<|D z).box,b12.pure<|D z⟩,?_⟩
 rintro _ rfl
 have o:=A12.pure<|D z
 have E:=b12.pure<|D z
 have T:=k12.pure<|D z
 have hs17:af w0 P z.drew P z.drew:=hl12.gi (D z).bo
 generalize C:ad L u=n at *
 have J2 : ∀ (a9 : Addr) (w : World), af w0 P w P w -> oD w0 P w k p p1 L G g W F FP -> w.cell? Q = some (vi u) -> Row w a9 (tK n) -> ¬ W a9.block -> ¬ P a9.block ->
   Bh p1 j Q a9 w0 P w (fun y'0 H' w'=>(∃(j:Nat) (g:List gx) (W:NP),y'0=j/\j<=g.length/\oD w0 H' w' k p p1 L G g W F FP/\oy L G g/\(∀u∈zG (g.take j),sQ L g u)/\t∈zG g/\∀u∈zG S,u∈zG g)/\((L.length:Int)-y'0).toNat<((L.length:Int)-(j:Int)).toNat) K:=by
  intro a9 w hs Aw c5 r9 n9 nh9
  have fin : ∀ (H' : NP) (w' : World) (S' : List gx) (F' : NP), oD w0 H' w' k p p1 L G S' F' F FP -> oy L G S' -> (∃ M, S' = g ++ M) -> sQ L S' u ->
    ((∃(j':Nat) (g:List gx) (W:NP),IntKind.i64.wrap ((j:Int)+1)=j'/\j'<=g.length/\oD w0 H' w' k p p1 L G g W F FP/\oy L G g/\(∀u∈zG (g.take j'),sQ L g u)/\t∈zG g/\∀u∈zG S,u∈zG g)/\((L.length:Int)-IntKind.i64.wrap ((j:Int)+1)).toNat<((L.length:Int)-(j:Int)).toNat):=by
   rintro H' w' S' F' A' hw' ⟨M,rfl⟩ hsh
   have hsub:∀x∈zG g,x∈zG (g++M):=fun x hx=>by unfold zG at hx|-;rw[map_append];exact mem_append_left _ hx
   rw[zN (n:=L.length) Om Om]
   refine⟨⟨j+1,_,F',rfl,by rw[length_append];omega,A',hw',fun x hx=>?_,hsub t htj,fun x hx=>hsub x<|hSj x hx⟩,yY Om⟩
   rw[take_append_of_le_length Om,htk,mem_append,mem_singleton]at hx
   rcases hx with hx|rfl
   exact fun r y ha=>hsub y<|hcj x hx r y ha
   exact hsh
  unfold Bh
  have ck:w.cell? a9=some (vi n.kind):=by simpa[Addr.add,tK]using r9 0 (by simp[tK])
  have ca:w.cell? (a9.add 5)=some (vi n.a):=r9 5 (by simp[tK])
  have cb:w.cell? (a9.add 6)=some (vi n.b):=r9 6 (by simp[tK])
  refine⟨_,ck,fun hk=>?_,fun hk=>?_⟩
  have J:n.kind=4:=by simpa using hk
  have B:=wI hW hui (by rw[C];exact J)
  rw[C]at B
  refine⟨_,ca,?_⟩
  refine(GC k p n.a 1 u p1 Q w Aw.fh Aw.cap c5 Aw.d1 (fun hh=>n5 hh) Om).mono ?_
  rintro _ w13 ⟨rfl,F1,K1,X1,f1⟩
  have A1:=Aw.step hs.lt K1 X1 f1
  have hs13:=hs.gi<|X1.bl fun b l hf=>Aw.h1 b hf l
  refine⟨rfl,X1.bl fun b l hf=>Aw.h1 b hf l,n.b,X1.cell cb (by rw[zC];exact n9),?_⟩
  have a1:xD L 1 u n.a:=.inl ⟨rfl,by rw[C];exact J,by rw[C]⟩
  have a2:xD L 2 u n.b:=.inr<|.inl ⟨rfl,by rw[C];exact J,by rw[C]⟩
  have hw1:=Z.add (v:=⟨n.a,1,u⟩) B.1.1<|.inr ⟨Sm,a1,hum⟩
  have u1:=(Ca g ⟨n.a,1,u⟩).2 u hum
  have hw2:=hw1.add (v:=⟨n.b,2,u⟩) B.2.1<|.inr ⟨Sm,a2,u1⟩
  have p5lt:=World.block_lt_of_cell? w Q c5
  have m5:¬F1 Q.block:=fun hh=>(f1 _ hh).elim n5 fun hx=>Om
  refine(GC k p n.b 2 u p1 Q w13 A1.fh A1.cap (X1.cell c5 n5) A1.d1 m5<|Oh hw1.fm).mono ?_
  rintro _ w14 ⟨rfl,F2,K2,X2,f2⟩
  have A2:=A1.step hs13.lt K2 X2 f2
  refine⟨rfl,X2.bl fun b l hf=>A1.h1 b hf l,?_⟩
  refine fin P w14 _ F2 A2 hw2 ?_ ?_
  have⟨M1,e1⟩:=Gv g ⟨n.a,1,u⟩
  have⟨M2,e2⟩:=Gv (sL g ⟨n.a,1,u⟩) ⟨n.b,2,u⟩
  exact⟨M1++M2,by rw[e2,e1,append_assoc]⟩
  rintro r y (⟨_,_,h3⟩|⟨_,_,h3⟩|⟨_,h2,_⟩)
  rw[C]at h3;subst h3
  exact(Ca _ ⟨n.b,2,u⟩).2 _ (Ca g ⟨n.a,1,u⟩).1
  rw[C]at h3;subst h3
  exact(Ca _ ⟨n.b,2,u⟩).1
  rw[C,J]at h2;cases h2
  have J:n.kind≠4:=by simpa using hk
  rintro y1 rfl
  have hy:(cond ((n.kind:Int)==7) ((n.kind:Int)==7)<|cond ((n.kind:Int)==8) ((n.kind:Int)==8)<|(n.kind:Int)==9)=qP n.kind:=by
   unfold qP;cases h7:(n.kind==7)<;>cases h8:(n.kind==8)<;>simp
  rw[hy]
  refine⟨fun hs7=>?_,fun hs7=>?_⟩
  intro H3 w15 I
  have A15:=Aw.aq I
  have B:=zh hW hui (by rw[C];exact hs7)
  rw[C]at B
  have r15:=Ho r9 nh9 I
  have ca15:w15.cell? (a9.add 5)=some (vi n.a):=r15 5 Sm
  have c515:=BQ c5 hnh5 I
  refine⟨n.a,ca15,?_⟩
  refine(GC k p n.a 3 u p1 Q w15 A15.fh A15.cap c515 A15.d1 n5 Om).mono ?_
  rintro _ w16 ⟨rfl,F1,K1,X1,f1⟩
  have A1:=A15.step I.lt K1 X1 f1
  refine⟨rfl,X1.bl fun b l hf=>A15.h1 b hf l,?_⟩
  have a3:xD L 3 u n.a:=.inr<|.inr ⟨rfl,by rw[C];exact hs7,by rw[C]⟩
  refine fin H3 w16 _ F1 A1 (Z.add (v:=⟨n.a,3,u⟩) B.1<|.inr ⟨Sm,a3,hum⟩) (Gv g ⟨n.a,3,u⟩) ?_
  rintro r y (⟨_,h2,_⟩|⟨_,h2,_⟩|⟨_,_,h3⟩)
  rw[C]at h2;exact absurd h2 J
  rw[C]at h2;exact absurd h2 J
  rw[C]at h3;subst h3
  exact(Ca g ⟨n.a,3,u⟩).1
  intro H3 w15 I
  refine fin H3 w15 g W (Aw.aq I) Z ⟨[],Sm⟩ ?_
  rintro r y (⟨_,h2,_⟩|⟨_,h2,_⟩|⟨_,h2,_⟩)
  rw[C]at h2;exact absurd h2 J
  rw[C]at h2;exact absurd h2 J
  rw[C,hs7]at h2;cases h2
 refine⟨_,fun w' h=>h.1,k,rfl,_,fun w' h=>h.2.1.bd,_,fun w' h=>h.2.2.bd,?_,?_⟩
 refine(tz p u z.drew o.bj hW.ok).mono ?_
 rintro _ w18 ⟨nk,nf,nt,nu,nx,na,nb,ok,rfl,⟨hnn,_⟩,X⟩
 rw[C]at hnn
 refine⟨_,_,_,_,_,_,_,_,rfl,⟨(o.pure X).cap,T.box.pure X,E.pure X⟩,X.bo,?_⟩
 intro p6 w19 h19
 have hp6:=h19.cu
 have s:=X.trans<|ab.aw h19
 have b6:=ai.bh h19
 have z18:=X.size
 have z12:wl.heap.size<=z.drew.heap.size:=Oh<|E.lt
 have V:¬P p6.block:=fun hh=>Oh<|hl.lt _ hh
 refine⟨⟨(o.pure s).cap,T.box.pure s,E.pure s⟩,b6.uz (n:=7) Sm,V,?_⟩
 rintro _ rfl
 have N:=ab.bb w19 p6 [(vi nk),(vi nf),(vi nt),(vu nu),(vs nx),(vi na),(vi nb)]
 have b20:=b6.store (vs:=[(vi nk),(vi nf),(vi nt),(vu nu),(vs nx),(vi na),(vi nb)]) rfl
 have A19:=o.pure s
 have n6:¬W p6.block:=fun hh=>Oh<|o.fh.lt hh
 have A20:=A19.EJ N n6 (fun hh=>Oh<|o.bj.lt hh) (fun hh=>Oh<|World.block_lt_of_cell? _ p1 o.cap)<|Oh o.ext.size
 have k20:=(T.box.pure s).ext N fun e=>Oh T.box.lt
 have R:=(E.pure s).ext N fun e=>Oh E.lt
 have hs20:af w0 P _ P _:=(hs17.gi s.bo).gi<|N.bl fun b l e=>V<|e▸l
 exact⟨⟨A20.cap,k20,R⟩,J2 p6 _ hs20 A20 R.bd (by rw[<-hnn];exact b20.row) n6 V⟩
 intro p7 w21 h21
 have hp6:=h21.cu
 have E21:Pure z.drew w21:=ab.aw h21
 have b7:=ai.bh h21
 refine⟨⟨(o.pure E21).cap,T.box.pure E21,E.pure E21⟩,?_⟩
 refine(tz p u w21 (o.pure E21).bj hW.ok).mono ?_
 rintro _ w22 ⟨nk,nf,nt,nu,nx,na,nb,ok,rfl,⟨hnn,_⟩,E22⟩
 rw[C]at hnn
 have s:=E21.trans E22
 have z12:wl.heap.size<=z.drew.heap.size:=Oh<|E.lt
 have V:¬P p7.block:=fun hh=>Oh<|hl.lt _ hh
 have b6:=b7.pure E22
 refine⟨_,_,_,_,_,_,_,_,rfl,⟨(o.pure s).cap,T.box.pure s,E.pure s⟩,E22.bo,b6.uz (n:=7) Sm,V,?_⟩
 rintro _ rfl
 have N:=ab.bb w22 p7 [(vi nk),(vi nf),(vi nt),(vu nu),(vs nx),(vi na),(vi nb)]
 have b20:=b6.store (vs:=[(vi nk),(vi nf),(vi nt),(vu nu),(vs nx),(vi na),(vi nb)]) rfl
 have A19:=o.pure s
 have n6:¬W p7.block:=fun hh=>Oh<|o.fh.lt hh
 have A20:=A19.EJ N n6 (fun hh=>Oh<|o.bj.lt hh) (fun hh=>Oh<|World.block_lt_of_cell? _ p1 o.cap)<|Oh o.ext.size
 have k20:=(T.box.pure s).ext N fun e=>Oh T.box.lt
 have R:=(E.pure s).ext N fun e=>Oh E.lt
 have hs20:af w0 P _ P _:=(hs17.gi s.bo).gi<|N.bl fun b l e=>V<|e▸l
 exact⟨⟨A20.cap,k20,R⟩,J2 p7 _ hs20 A20 R.bd (by rw[<-hnn];exact b20.row) n6 V⟩
 have hge:=yJ hlj hj hc
 subst hge
 rw[take_length]at hcj
 exact hK g W wl A.fh ⟨Z,hcj,htj,hSj⟩ A.ext A.ak
def KL(p k w)(a:k=0\/k=1\/k=2):(Instr.sliceAt 46 (Sl.mk (some p) 2 2).v .none (some<|vi k) .none).run prog w=.ok (Sl.mk (some p) k.toNat 2).v w:=by
 rcases a with rfl|rfl|rfl<;>kernel_rfl
def Yq(p k f t u x a b w){L F}(hP:zD w p L F)(o:Ok L):
  cl 180 #[vp<|some p,.agg #[vi k,vi f,vi t,vu u,vs x,vi a,vi b]] w
   (XJ fun r1 r2 r3 w'=>(r1,r2,r3)=eh L ⟨k,f,t,u,x,a,b⟩/\Pure w w'):=by
 suffices key:∀K:Int->Int->Int->WP,(∀r1 r2 r3 w',(r1,r2,r3)=eh L ⟨k,f,t,u,x,a,b⟩/\Pure w w'->K r1 r2 r3 w')->JM (some p) k f t u x a b w K from
  w_G _ _ _ _ _ _ _ _ w _<|key _ fun _ _ _ _ h=>h
 intro K V
 intro N w1 h1
 have b1:=ai.bh h1
 have E1:Pure w w1:=ab.aw h1
 refine⟨_,_,_,_,_,_,_,b1.row,?_⟩
 refine(Py _ _ _ _ _ _ _ _).mono ?_
 rintro _ w2 ⟨s1,s2,s3,s4,c,pe,rfl,⟨hs,r⟩,X⟩
 refine⟨_,_,_,_,_,_,rfl,?_⟩
 intro H w3 h3
 have b2:=(b1.pure X).pure<|ab.aw h3
 have n23:N.block≠H.block:=au.ne h3 (b1.pure X).ao
 have E3:Pure w w3:=(E1.trans X).trans<|ab.aw h3
 have o3:=au.ak (E1.trans X) h3
 refine bx 5 (ai.bh h3) rfl rfl fun M b3 E=>?_
 have b2:=b2.ext E n23
 have E4:Pure w M:=E3.ak o3 E
 clear E E3 X E1 b1 h1 h3
 have m:bk k=⟨s1,s2,s3,s4,c⟩:=hs.symm
 have R:c=0\/c=1\/c=2:=by have:=qV k;rw[m]at this;exact this
 generalize hn:(⟨k,f,t,u,x,a,b⟩:df)=n at *
 have s:n.kind=k:=by rw[<-hn]
 have z:n.a=a:=by rw[<-hn]
 have v:n.b=b:=by rw[<-hn]
 have J2:∀T w',Pure M w'->(T≠0->eh L n=(0,0,T))->(T=0->pe=0/\((decide (c<1)&&a !=0) ||(decide (c<2)&&b !=0))=false/\zR ⟨s1,s2,s3,s4,c⟩ n=0)->CY (some p) N H T w' K:=by
  intro T w' E' O C;have b2:=b2.pure E';have b3:=b3.pure E';have E5:=E4.trans E';have hP':=hP.pure E5;refine⟨fun h=>V _ _ _ _ ⟨(O<|by simpa using h).symm,E5⟩,fun h=>⟨_,b2.cell rfl,_,b2.cell rfl,?_⟩⟩;intro p4 P q;have⟨g,A,hf0⟩:=C (by simpa using h);have b4:=ai.bh q;have Z:=E5.trans<|ab.aw q;have B:=hP.pure Z;refine⟨_,(b3.pure<|ab.aw q).cell rfl,_,KL p4 c P R,?_⟩;have Q:zB n=[a,b].take c.toNat:=by simp[zB,s,m,z,v]
  have hlen:(zB n).length=c.toNat:=by rw[Q];rcases R with rfl|rfl|rfl<;>rfl
  have U:∀j (hj:j<(zB n).length),P.cell? (p4.add<|j*1)=some (vi (zB n)[j]):=by
   intro j hj;have hj2:j<c.toNat:=Om;have:(zB n)[j]=[a,b][j]' So:=by simp only[Q,getElem_take]
   rw[this,Nat.mul_one];refine b4.cell ?_;have h2:j=0\/j=1:=Om;rcases h2 with rfl|rfl<;>rfl
  have G:eh L n=if(zB n).any (fun t=>!al L t)then(0,0,51)else if 1+((zB n).map<|sizeOf L).sum>4096\/(zB n).foldl (fun d t=>max d<|cz L t) 0+1>64 then(0,0,52)else(1+((zB n).map<|sizeOf L).sum,(zB n).foldl (fun d t=>max d<|cz L t) 0+1,0):=by
   unfold eh;simp only[s,m,z,v,<-r,g,A,hf0];simp
  generalize hkk:zB n=ks at *;have hl2:ks.length<=2:=Om;have Y:∀j,0<=((ks.take j).map<|sizeOf L).sum/\((ks.take j).map<|sizeOf L).sum<=4096*(ks.take j).length:=by
   intro j;generalize ks.take j=l;induction l with
   |nil=>simp
   |cons y l ih=>have:=o.sizeOf y;simp only[map_cons,sum_cons,length_cons];omega
  have S:∀(l:List Int) (d:Int),0<=d->d<=64->0<=l.foldl (fun d t=>max d<|cz L t) d/\l.foldl (fun d t=>max d<|cz L t) d<=64:=by
   intro l;induction l with
   |nil=>intro d h1 h2;exact⟨h1,h2⟩
   |cons y l ih=>intro d h1 h2;have:=o.cz y;exact ih (max d<|cz L y) Om Om
  refine⟨fun sz d x w'=>∃j:Nat,x=j/\j<=ks.length/\sz=1+((ks.take j).map<|sizeOf L).sum/\d=(ks.take j).foldl (fun d t=>max d<|cz L t) 0/\(ks.take j).any (fun t=>!al L t)=false/\P=w',fun _ _ x _=>(2-x).toNat,⟨0,rfl,Nat.zero_le _,Sm,Sm,Sm,rfl⟩,?_⟩;rintro sz d _ _ ⟨j,rfl,hj,rfl,rfl,hin,rfl⟩;unfold OC;have hs1:=Y j;have hd1:=S (ks.take j) 0 Om Om;have htl:(ks.take j).length<=2:=by rw[length_take];omega
  refine⟨fun h=>?_,fun h=>?_⟩;have i:j<ks.length:=by have h:=of_decide_eq_true h;simp only at h;omega
  refine⟨p4.add<|j*1,⟨Om,of_decide_eq_true h,p4,rfl,Sm⟩,ks[j],U j i,?_⟩;have htk:ks.take (j+1)=ks.take j++[ks[j]]:=take_succ_eq_append_getElem i;refine(zm p _ P B).mono ?_;rintro _ _ ⟨_,rfl,rfl,rfl⟩;refine⟨_,rfl,fun h=>?_,fun h=>?_⟩;refine V _ _ _ _ ⟨?_,Z⟩;rw[G,if_pos];exact any_eq_true.2 ⟨ks[j],getElem_mem i,h⟩;refine(SQ p _ P B o).mono ?_;rintro _ _ ⟨_,rfl,rfl,rfl⟩;refine⟨_,rfl,?_⟩;refine(XX p _ P B o).mono ?_;rintro _ _ ⟨_,rfl,rfl,rfl⟩;refine⟨_,rfl,_,run_max_int2 _ _ _ _ _ _ _,⟨j+1,?_,i,?_,?_,?_,rfl⟩,?_⟩;rw[i64 Om Om];omega;have:=o.sizeOf ks[j];rw[i64 Om Om,htk,map_append,sum_append];simp only[map_cons,map_nil,sum_cons,sum_nil];omega;grind;grind;show(2-IntKind.i64.wrap ((j:Int)+1)).toNat<(2-(j:Int)).toNat;rw[i64 Om Om];omega;have hge:j=ks.length:=by have h:=of_decide_eq_false h;simp only at h;omega
  subst hge;rw[take_length]at hs1 hd1 hin|-;have i:(ks.length:Int)<=2:=Om;refine⟨fun h=>V _ _ _ _ ⟨?_,Z⟩,fun h=>?_⟩;grind;rw[i64 Om Om];refine⟨fun h'=>V _ _ _ _ ⟨?_,Z⟩,fun h'=>V _ _ _ _ ⟨?_,Z⟩⟩;grind;grind
 have J1:∀e1,(e1≠0->eh L n=(0,0,e1))->(e1=0->pe=0/\((decide (c<1)&&a !=0) ||(decide (c<2)&&b !=0))=false)->sG (some p) N H e1 M K:=by
  intro e1 O C;refine⟨fun h=>⟨_,_,_,_,_,b3.row,_,_,_,_,_,_,_,b2.row,?_⟩,fun h=>J2 _ _ (ab.refl _) O Gd⟩;have⟨g,A⟩:=C (by simpa using h);refine(Lg _ _ _ _ _ _ _ _ _ _ _ _ _).mono ?_;rintro _ w9 ⟨_,rfl,rfl,E9⟩;rw[hn];refine⟨_,rfl,J2 _ _ E9 (fun hf=>?_) fun hf=>⟨g,A,hf⟩⟩;unfold eh;simp only[s,m,z,v,<-r,g,A];simp[hf]
 have J:pe=0->((decide (c<1)&&a !=0) ||(decide (c<2)&&b !=0))=true->sG (some p) N H 53 M K:=fun g hc=>J1 53 (fun _=>by
  unfold eh;simp only[s,m,z,v,<-r,g,hc];simp) (fun e=>by cases e)
 have I:pe≠0->sG (some p) N H pe M K:=fun hp=>J1 pe (fun _=>by
  unfold eh;simp only[<-r];rw[if_pos hp]) fun e=>absurd e hp
 have J5:∀D x3,D=(decide (c<1)&&a !=0)->x3=(decide (c<2)&&b !=0)->CN (some p) N pe H D x3 M K:=by
  intro D x3 h2 h3;refine⟨fun h=>⟨fun W=>J (by simpa using h) (by rw[<-h2,W];rfl),fun W=>⟨fun hy=>J (by simpa using h) (by rw[<-h2,<-h3,hy];simp),fun hy=>J1 pe Gd Gd⟩⟩,fun h=>I<|by simpa using h⟩
 have J4:∀D,D=(decide (c<1)&&a !=0)->DA (some p) N pe H D M K:=by
  intro D h2;refine⟨fun h=>⟨fun W=>J (by simpa using h) (by rw[<-h2,W];rfl),fun W=>⟨_,b3.cell rfl,fun q=>⟨_,b2.cell rfl,J5 _ _ h2 (by rw[q];rfl)⟩,fun q=>J5 _ _ h2 (by rw[q];rfl)⟩⟩,fun h=>I<|by simpa using h⟩
 exact⟨fun h=>⟨_,b3.cell rfl,fun q=>⟨_,b2.cell rfl,J4 _ (by rw[q];rfl)⟩,fun q=>J4 _ (by rw[q];rfl)⟩,fun h=>I<|by simpa using h⟩
end Go.Proofs
end
section
open Go Go.SE
namespace Go.Proofs
open Tryz
attribute [local irreducible] Calls
def Qm(v:Value):Prop:=∃n,v=ly n
def IX{n n'}:ly n=ly n'↔n=n':=by
 constructor;intro h;cases n;cases n';simp[ly,tK]at h;simp[h];rintro rfl;rfl
def jNI(n):Instr.sameBits 10000 (ly n) (ly n)=true:=by
 have h:∀d,Instr.sameBits (d+1) (ly n) (ly n)=true:=fun d=>by
  have e:(n.ba==n.ba)=true:=by rw[beq_toListBytes];simp
  cases d<;>simp[Instr.sameBits,ly,tK,e]
 exact h 9999
def Dt:ru prog 119 Qm:=by
 refine ru.Ve underlying119 ?_ ?_ ?_
 .rintro _ ⟨n,rfl⟩ e w;kernel_rfl
 .rintro _ _ w ⟨n,rfl⟩ ⟨c,rfl⟩;refine⟨decide (n=c),?_,by simp only[IX,decide_eq_true_eq];exact eq_comm⟩;have⟨k,f,t,u,x,a,b⟩:=n;have⟨k',j,g,l,h,i,d⟩:=c;simp[Op.equal,Op.maxDepth,go_sem,y4,ly,tK]
  repeat' split
  all_goals simp_all
 .rintro _ ⟨n,rfl⟩;exact jNI n
def Gi:j1 prog 158 248 9 (16*5):=by
 refine⟨underlying158,⟨t248,_,Kf,(by kernel_rfl:t248.zero=some (.agg #[vi 0,vi 0,vi 0,vu 0,vs ⟨#[]⟩,vi 0,vi 0,vi 0,vi 0])),Kf,Kf,rfl⟩,Om⟩
def My{L}{i:Nat}{n v}(h:(ig L)[i]?=some (ly n,v)):∃e,L[i]?=some e/\e.node=n/\v=vi (i+1:Nat):=by
 simp only[ig,List.getElem?_map,List.getElem?_zipIdx,Option.map_map,Option.map_eq_some_iff]at h;have⟨e,a,h⟩:=h;simp only[Function.comp,Prod.mk.injEq]at h;exact⟨e,a,IX.1 h.1,by rw[<-h.2];simp⟩
def PM{L n}(h:∀q∈ig L,q.1≠ly n):∀e∈L,e.node≠n:=by
 intro e b a;obtain⟨i,hi,rfl⟩:=List.mem_iff_getElem.1 b;refine h (ly L[i].node,vi (i+1:Nat)) ?_ (by rw[a]);exact List.mem_map.2 ⟨(L[i],i),by rw[List.mem_zipIdx_iff_getElem?];simp[hi],rfl⟩
def EU{L}:∀q∈ig L,Qm q.1:=by
 intro q a;obtain⟨x,_,rfl⟩:=List.mem_map.1 a;exact⟨_,rfl⟩
def jZP(L)(e:sV):ig (L++[e])=ig L++[(ly e.node,vi (L.length+1:Nat))]:=by
 simp[ig,List.zipIdx_append]
def D5{L}(b:Ok L){i}{e:sV}(h:L[i]?=some e):find L e.node=some i:=by
 obtain⟨hi,rfl⟩:=List.getElem?_eq_some_iff.1 h;unfold find;rw[List.findIdx?_eq_some_iff_getElem];refine⟨hi,Sm,fun j c=>?_⟩;have a:=b.pt;simp only[decide_eq_true_eq];intro e;exact List.pairwise_iff_getElem.1 a j i So (by simpa using hi) c (by simpa using e)
def yr{L n}(h:∀e∈L,e.node≠n):find L n=none:=by
 unfold find;rw[List.findIdx?_eq_none_iff];intro e a;simpa using h e a
def rY(p:Addr)(k f t u:Int)(x:ByteArray)(a b:Int)(w:World){L:av}{F:NP}(hP:zD w p L F)(hok:Ok L):
  cl 132 #[vp<|some p,.agg #[vi k,vi f,vi t,vu u,vs x,vi a,vi b]] w
   (XH fun r1 r2 w'=>(r1,r2)=((ax L ⟨k,f,t,u,x,a,b⟩).1,(ax L ⟨k,f,t,u,x,a,b⟩).2.1)/\∃F',zD w' p (ax L ⟨k,f,t,u,x,a,b⟩).2.2 F'/\ab F w w'/\∀b,F' b->F b\/w.heap.size<=b):=by
 suffices key:∀K:Int->Int->WP,(∀r1 r2 w',((r1,r2)=((ax L ⟨k,f,t,u,x,a,b⟩).1,(ax L ⟨k,f,t,u,x,a,b⟩).2.1)/\∃F',zD w' p (ax L ⟨k,f,t,u,x,a,b⟩).2.2 F'/\ab F w w'/\∀b,F' b->F b\/w.heap.size<=b)->K r1 r2 w')->O6 (some p) k f t u x a b w K from
  Xe _ _ _ _ _ _ _ _ w _<|key _ fun _ _ _ h=>h
 intro K hK
 intro p2 w1 h1
 have b1:=ai.bh h1
 have E1:Pure w w1:=ab.aw h1
 have o2:¬F p2.block:=fun h=>Oi (hP.lt h) h1.cu
 refine Br.f rfl ⟨_,_,_,_,_,_,_,b1.row,?_⟩
 refine(Yq p k f t u x a b w1 (hP.pure E1) hok).mono ?_
 rintro _ w2 ⟨sz,dp,er,rfl,A,E2⟩
 refine⟨_,_,_,rfl,?_⟩
 generalize B:(⟨k,f,t,u,x,a,b⟩:df)=n at *
 have E3:Pure w w2:=E1.trans E2
 have W:∀w',Pure w w'->∃F',zD w' p L F'/\ab F w w'/\∀b,F' b->F b\/w.heap.size<=b:=fun w' E=>⟨F,hP.pure E,E.pure,fun _ h=>.inl h⟩
 refine⟨fun h=>hK _ _ _ ?_,fun h=>?_⟩
 have he:er≠0:=by simpa using h
 have:ax L n=(0,er,L):=by unfold ax;simp[<-A,he]
 rw[this];exact⟨rfl,W _ E3⟩
 have he:er=0:=by simpa using h
 subst he
 intro X V
 have Z:Pure w X:=by rw[V];exact E3.trans<|ab.drew w2
 have b3:=(b1.pure E2).pure (show Pure w2 X by rw[V];exact ab.drew w2)
 clear V
 have⟨s,m,hS,hF⟩:=hP.pure Z
 refine⟨p,rfl,_,hS.box.cell (i:=1) rfl,_,_,_,_,_,_,_,b3.row,?_⟩
 have C:(Value.agg #[vi k,vi f,vi t,vu u,vs x,vi a,vi b])=ly n:=by rw[<-B];rfl
 simp only[C]
 rcases hS.map.lookup (P:=prog) (T:=157) (E:=73) underlying157 Dt EU ⟨n,rfl⟩ (zeroValue73 _) true with⟨D,q⟩|⟨i,v,hi,q⟩
 refine⟨_,_,q,Br.f rfl ⟨p,rfl,s,hS.box.bd,?_⟩⟩
 have hno:=PM D
 have hfn:=yr hno
 have hlen:(s.len:Int)=L.length:=by rw[hS.cj.len];simp
 refine⟨fun h=>hK _ _ _ ?_,fun h=>?_⟩
 have h2:65536<=L.length:=by have h:=of_decide_eq_true h;omega
 have:ax L n=(0,6,L):=by unfold ax;simp[<-A,hfn,h2]
 rw[this];exact⟨rfl,W _ Z⟩
 have h2:¬65536<=L.length:=by have h:=of_decide_eq_false h;omega
 have hmk:ax L n=((L.length:Int)+1,0,L++[⟨n,sz,dp⟩]):=by unfold ax;simp[<-A,hfn,h2]
 refine⟨fun w'=>w'.cell? p=some s.v/\Row w' p2 (tK n),⟨?_,?_⟩,?_⟩
 exact ab.cell (F:=ar) (ab.drew X) hS.box.bd id
 rw[<-B];exact ab.row (F:=ar) (ab.drew X) b3.row id
 intro w4 hw4
 have I:Pure X w4:=by rw[hw4];exact ab.drew X
 clear hw4
 have G:Et w4 p L s m:=by
  exact⟨hS.box.pure I,hS.cj.pure I,hS.map.ext I id,hS.n1,hS.n2,hS.n3⟩
 have b4:=b3.pure I
 refine⟨p,rfl,s,fun w' h=>h.1,k,f,t,u,x,a,b,fun w' h=>by have:=h.2;rw[<-B]at this;exact this,?_⟩
 intro p3 w5 h5
 have Y:Pure w4 w5:=ab.aw h5
 have o3:w.heap.size<=p3.block:=au.ak (Z.trans I) h5
 have b5:=ai.bh h5
 have z:=G.cj.pure Y
 have d:=G.box.pure Y
 have o:jn w5 m (ig L):=G.map.ext Y id
 have b45:=b4.pure Y
 have hrow:Row w5 p3 (sY ⟨n,sz,dp⟩):=by rw[<-B];exact b5.row
 refine⟨⟨d.bd,by rw[<-B];exact b45.row⟩,?_⟩
 have⟨s1,w6,hr6,l,E7,U⟩:=z.append (P:=prog) (ty:=158) Gi (c:=1) hrow (by simp[sY,tK]) (by simp[sY,tK,vG]) So (by simp[maxLen];omega)
 have nb:∀b,s.ao b->b≠p2.block:=fun b hb e=>o2 Gd
 have g:=d.ext E7 hS.n2
 have H:=o.ext E7 hS.n3
 have b6:=b45.ext E7 fun h=>nb _ h rfl
 refine⟨s1,w6,hr6,⟨g.bd,by rw[<-B];exact b6.row⟩,p,rfl,g.ia Sm,?_⟩
 intro N M
 have j:ai N p [s1.v,.map<|some m] 160:=by rw[M];exact g.jb
 have E8:ab (·=p.block) w6 N:=by rw[M];exact ab.setCell p _
 clear M
 have hs1p:¬s1.ao p.block:=fun h=>(U _ h).elim hS.n2 fun h=>Oh d.lt
 have hs1m:¬s1.ao m:=fun h=>(U _ h).elim hS.n3 fun h=>Oh o.lt
 have y:=l.ext E8 Gd
 have J:=H.ext E8 hS.n1
 have b7:=b6.ext E8 Gd
 have hl1:(s1.len:Int)=L.length+1:=by rw[l.len];simp
 refine⟨p,rfl,s1,j.bd,?_⟩
 refine⟨fun w'=>w'.cell? (p.add 1)=some (.map<|some m)/\Row w' p2 (tK n),⟨?_,?_⟩,?_⟩
 exact ab.cell (F:=ar) (ab.drew N) (j.cell (i:=1) rfl) id
 rw[<-B];exact ab.row (F:=ar) (ab.drew N) b7.row id
 intro w8 hw8
 have E9:Pure N w8:=by rw[hw8];exact ab.drew N
 clear hw8
 refine⟨p,rfl,some m,fun w' h=>h.1,k,f,t,u,x,a,b,fun w' h=>by have:=h.2;rw[<-B]at this;exact this,?_⟩
 simp only[C];rw[hl1]
 have Q:jn w8 m (ig L):=J.ext E9 id
 have⟨w9,hr9,R,O⟩:=Q.insert (P:=prog) (v:=vi<|(L.length:Int)+1) underlying157 Dt EU ⟨n,rfl⟩ D
 refine⟨w9,hr9,hK _ _ _ ?_⟩
 rw[hmk]
 have S:=(j.pure E9).ext O fun e=>hS.n1 e.symm
 have r:=(y.pure E9).ext O Gd
 refine⟨rfl,fun b=>b=p.block\/s1.ao b\/b=m,⟨s1,m,⟨S,?_,?_,hS.n1,hs1p,hs1m⟩,fun _=>Iff.rfl⟩,?_,?_⟩
 simpa using r
 rw[jZP];simpa using R
 have hF':∀b,F b↔(b=p.block\/s.ao b\/b=m):=hF
 have Ea:ab F w w5:=((Z.trans I).trans Y).pure
 have Eb:ab F w w6:=Ea.cg E7 Gd
 have Ec:ab F w N:=Eb.cg E8 Gd
 have Ed:ab F w w8:=Ec.fb E9
 exact Ed.cg O Gd
 intro b hb
 rcases hb with rfl|hb|rfl
 grind
 rcases U b hb with h|h
 grind
 right;have:=((Z.trans I).trans Y).size;omega
 grind
 obtain⟨e,he,hen,rfl⟩:=My hi
 refine⟨_,_,q,Br.t rfl (hK _ _ _ ?_)⟩
 have hfd:=D5 hok he
 rw[hen]at hfd
 have:ax L n=((i:Int)+1,0,L):=by unfold ax;simp[<-A,hfd]
 rw[this];exact⟨Sm,W _ Z⟩
end Go.Proofs
end
section
open Go.SE
namespace Go.Proofs
def oE(L:av)(n:Int):Int×Bool:=match find L (zV n)with
 |some i=>((i:Int)+1,true)
 |none=>(0,false)
def JW{L n i}(h:find L n=some i):i<L.length/\ad L ((i:Int)+1)=n:=by
 unfold find at h;rw[List.findIdx?_eq_some_iff_getElem]at h;have⟨hi,h1,_⟩:=h;refine⟨hi,?_⟩;rw[qL hi];simpa using h1
def JL{L n}(h:(oE L n).2=true):al L (oE L n).1=true/\ad L (oE L n).1=zV n/\∃i,find L (zV n)=some i/\(oE L n).1=(i:Int)+1:=by
 unfold oE at h|-;cases a:find L (zV n)with
 |none=>rw[a]at h;cases h
 |some i =>
  have⟨hi,b⟩:=JW a
  exact⟨zI.2 ⟨Sy,Sy⟩,b,i,rfl,rfl⟩
def Wl{L n i}(h:find L (zV n)=some i):oE L n=((i:Int)+1,true):=by unfold oE;rw[h]
def dr.pD{L K t}(h:dr L K t):K t\/sB (ad L t).kind=true\/((ad L t).kind=4/\dr L K (ad L t).a/\dr L K (ad L t).b)\/((ad L t).kind=5/\dr L K (ad L t).a) \/
  (qP (ad L t).kind=true/\dr L K (ad L t).a/\(oE L<|oo<|ad L t).2=true/\K (oE L<|oo<|ad L t).1):=by
 cases h with
 |seen h=>exact .inl h
 |free h=>exact .inr<|.inl h
 |ke h a b=>exact .inr<|.inr<|.inl ⟨h,a,b⟩
 |ov h a=>exact .inr<|.inr<|.inr<|.inl ⟨h,a⟩
 |ng h a d c=>rw[Wl d];exact .inr<|.inr<|.inr<|.inr ⟨h,a,rfl,c⟩
def dr.signed{L K t}(h:qP (ad L t).kind=true)(d:dr L K (ad L t).a)(c:(oE L<|oo<|ad L t).2=true)(b:K (oE L<|oo<|ad L t).1):dr L K t:=by
 have⟨_,_,i,f,e⟩:=JL c;rw[e]at b;exact .ng h d f b
def CW{k}(h:qP k=true):k≠4/\k≠5/\k≠6/\sB k=false:=by
 simp only[qP,Bool.or_eq_true,beq_iff_eq]at h;rcases h with(rfl|rfl)|rfl<;>decide
def dr.Ji{L K}(e:∀r u t,K u->xD L r u t->K t){r u t}(h:dr L K u)(d:xD L r u t):dr L K t:=by
 rcases h.pD with h|h|⟨h,a,b⟩|⟨h,_⟩|⟨h,a,_⟩;exact .seen<|e r u t h d;rcases d with⟨_,c,_⟩|⟨_,c,_⟩|⟨_,c,_⟩;rw[c]at h;cases h;rw[c]at h;cases h;rw[(CW c).2.2.2]at h;cases h;rcases d with⟨_,_,rfl⟩|⟨_,_,rfl⟩|⟨_,c,rfl⟩;exact a;exact b;exact a;rcases d with⟨_,c,_⟩|⟨_,c,_⟩|⟨_,c,_⟩;rw[h]at c;cases c;rw[h]at c;cases c;grind;rcases d with⟨_,c,_⟩|⟨_,c,_⟩|⟨_,_,rfl⟩;exact absurd c (CW h).1;exact absurd c (CW h).1;exact a
def SA{L}(h:Wf L){t}(ht:al L t=true):sB (ad L t).kind=true\/(ad L t).kind=4\/(ad L t).kind=5\/(ad L t).kind=6\/qP (ad L t).kind=true:=by
 have h1:=(h.node ht).1;unfold zO at h1;simp only at h1;split at h1;cases h1;rename_i hh;simp only[Bool.or_eq_true,Bool.not_eq_true',not_or]at hh;have a:oh (ad L t).kind=true:=by simpa using hh.1.1.1.1
 simp only[oh,Bool.and_eq_true,decide_eq_true_eq]at a;simp only[sB,qP,Bool.or_eq_true,beq_iff_eq];omega
inductive iw(L:av):Int->Int->Prop
 |refl (t:Int):iw L t t
 |fl {t u k:Int}:iw L t u->k∈zB (ad L u)->iw L t k
def iw.trans{L a b c}(h:iw L a b)(k:iw L b c):iw L a c:=by
 induction k with
 |refl=>exact h
 |fl _ d e=>exact .fl e d
def AG{n}(h:n.kind=4\/n.kind=5\/qP n.kind=true):n.a∈zB n:=by
 simp only[qP,Bool.or_eq_true,beq_iff_eq]at h;rcases h with h|h|(h|h)|h<;>simp[zB,h,bk]
def M4{n}(h:n.kind=4):n.b∈zB n:=by simp[zB,h,bk]
def km(S:List gx)(t:Int):Nat:=(zG S).idxOf t+if t∈zG S then 0 else t.toNat
def HT{S t}(h:t∈zG S):km S t<S.length:=by
 have:=List.idxOf_lt_length_iff.2 h;unfold km;rw[if_pos h];rw[yH]at this;omega
def Fw{S t}(h:t∉zG S):km S t=S.length+t.toNat:=by
 unfold km;rw[if_neg h,List.idxOf_eq_length h,yH]
def Fm{S t a}(h:t∉zG S)(b:1<=a)(c:a<t):km S a<km S t:=by
 rw[Fw h];by_cases hm:a∈zG S;have:=HT hm;omega;rw[Fw hm];omega
def YF{S t a}(h:t∉zG S)(ht:1<=t)(hm:a∈zG S):km S a<km S t:=by
 rw[Fw h];have:=HT hm;omega
def VL{L G S}(h:oy L G S){t r f}(k:(t,(r,f))∈S.map fun v=>(v.t,(v.gz,v.ay))):(r=0/\f=0/\t∈G)\/(r≠0/\xD L r f t/\f∈zG S/\km S f<km S t):=by
 have⟨v,d,e⟩:=List.mem_map.1 k;obtain⟨i,hi,rfl⟩:=List.getElem_of_mem d;simp only[Prod.mk.injEq]at e;obtain⟨rfl,rfl,rfl⟩:=e;rcases h.ua i hi with l|⟨h1,h2,h3⟩;exact .inl l;right;have a:S[i].ay∈zG S:=by
  have⟨y,o,e⟩:=List.mem_map.1 h3;exact List.mem_map.2 ⟨y,List.mem_of_mem_take o,e⟩
 refine⟨h1,h2,a,?_⟩;have b:S[i].t∈zG S:=List.mem_map.2 ⟨_,d,rfl⟩;have c:(zG S).idxOf S[i].t=i:=by
  have⟨j,p,n,g⟩:=IR b;rw[g];have m:(zG S)[j]'(by rw[yH];exact p)=(zG S)[i]'(by rw[yH];exact hi):=by simp[zG,n]
  exact(List.getElem_inj h.pt).1 m
 have q:(zG S).idxOf S[i].ay<i:=by
  have e:zG S=zG (S.take i)++zG (S.drop i):=by unfold zG;rw[<-List.map_append,List.take_append_drop]
  rw[e,List.idxOf_append,if_pos h3];have:=List.idxOf_lt_length_iff.2 h3;rw[yH,List.length_take]at this;omega
 unfold km;rw[if_pos a,if_pos b,c];omega
def RG{L r u t}(hr:r=1\/r=2\/r=3):G1 L r u t=true↔xD L r u t:=by
 unfold G1 xD;rcases hr with rfl|rfl|rfl<;>simp
def xD.gz{L r u t}(h:xD L r u t):r=1\/r=2\/r=3:=by
 rcases h with⟨h,_⟩|⟨h,_⟩|⟨h,_⟩;exact .inl h;exact .inr<|.inl h;exact .inr<|.inr h
def ug(l:List gl):List (Int×Int):=l.zipIdx.map fun p=>(p.1.t,(p.2:Int))
def QG(l):(ug l).map Prod.fst=l.map gl.t:=by
 unfold ug;rw[List.map_map];show l.zipIdx.map (fun p=>p.1.t)=_;rw[show(fun p:gl×Nat=>p.1.t)=gl.t∘Prod.fst from rfl,<-List.map_map,List.zipIdx_map_fst]
def PU(l s):ug (l++[s])=ug l++[(s.t,(l.length:Int))]:=by simp[ug,List.zipIdx_append]
def RH{l t v}(h:SE.eu (ug l) t=some v):∃i,∃hi:i<l.length,v=i/\l[i].t=t:=by
 have:=tU h;have⟨q,a,e⟩:=List.mem_map.1 this;have⟨s,i⟩:=q;rw[List.mem_zipIdx_iff_getElem?]at a;have⟨hi,b⟩:=List.getElem?_eq_some_iff.1 a;simp only[Prod.mk.injEq]at e;exact⟨i,hi,e.2.symm,by rw[b];exact e.1⟩
def KU{l t}:SE.eu (ug l) t=none↔t∉l.map gl.t:=by rw[uV,QG]
structure qf(L:av)(G:List Int)(K:Int->Prop)(l:List gl)(B:List Int):Prop where
 nn:∀i (hi:i<l.length),nn L G (l.take i) l[i]=true
 nd:(l.map gl.t).Nodup
 yn:∀s∈l,dr L K s.t
 zj:∀t∈B,¬dr L K t
def qf.nil(L G K):qf L G K [] []:=⟨fun i hi=>by simp at hi,Sm,Sm,Sm⟩
def qf.sd{L G K l B}(h:qf L G K l B){s}(g:Proofs.nn L G l s=true)(d:s.t∉l.map gl.t)(f:dr L K s.t):qf L G K (l++[s]) B:=by
 refine⟨fun i hi=>?_,?_,fun x a=>?_,h.zj⟩;rw[List.length_append]at hi;simp only[List.length_cons,List.length_nil]at hi;by_cases b:i<l.length;rw[List.getElem_append_left b,List.take_append_of_le_length Om];exact h.nn i b;grind;rw[List.map_append,List.nodup_append];exact⟨h.nd,Sm,fun x a y c e=>by simp at c;subst c;exact d<|e▸a⟩;rcases List.mem_append.1 a with a|a;exact h.yn x a;grind
def qf.Yd{L G K l B}(h:qf L G K l B){t}(ht:¬dr L K t):qf L G K l (B++[t]):=
 ⟨h.nn,h.nd,h.yn,fun x a=>(List.mem_append.1 a).elim (h.zj x) Gd⟩
def jax{L G az s}(h:nn L G az s=true):al L s.t=true:=by
 unfold nn at h;split at h;cases h;grind
def qf.fm{L G K l B}(h:qf L G K l B):l.length<=L.length:=by
 have:=tT h.nd (fun t ht=>by
  obtain⟨s,hs,rfl⟩:=List.mem_map.1 ht;obtain⟨i,hi,rfl⟩:=List.getElem_of_mem hs;exact jax<|h.nn i hi)
 simpa using this
def zP{l}{i:Nat}(hi:i<l.length):pz l (i:Int)=l[i].t:=by simp[pz,hi]
def zi{n i}(h:i<n):ahead n (i:Int)=true:=by simp[ahead];omega
def OK{l M}{i:Nat}(hi:i<l.length):pz (l++M) (i:Int)=l[i].t:=by
 rw[zP Gd,List.getElem_append_left hi]
end Go.Proofs
end
section
open Go Go.SE List
namespace Go.Proofs
def ic(G:List Int)(t:Int):List Int:=if t∈G then G else G++[t]
def pd(L:av)(G:List Int)(t:Int):List Int:=if al L t=true then ic G t else G
def y8{G t x}:x∈ic G t↔x∈G\/x=t:=by
 unfold ic;split;grind;simp
def Sk{G t}(h:G.Nodup):(ic G t).Nodup:=by
 unfold ic;split;exact h;grind
def rj(L:av)(S:List gx)(t:Int):Int×Int×Bool×Bool:=
 if al L t=false then(0,0,false,false)
 else if sB (ad L t).kind=true then(0,0,true,true)
 else if(ad L t).kind=4 then((ad L t).a,(ad L t).b,false,true)
 else if(ad L t).kind=5 then((ad L t).a,0,false,true)
 else if(ad L t).kind=6 then(0,0,false,false)
 else((ad L t).a,(oE L<|oo<|ad L t).1,false,(oE L<|oo<|ad L t).2&&decide ((oE L<|oo<|ad L t).1∈zG S))
end Go.Proofs
namespace Go.Proofs
open Tryz
attribute [local irreducible] Calls
def Gp(p:Addr)(n:df)(w0:World){L:av}{F:NP}(hP:zD w0 p L F)(hok:Ok L):
  cl 127 #[vp<|some p,ly n] w0<|XE fun r ok w'=>(match find L n with|some i=>r=(i:Int)+1/\ok=true|none=>r=0/\ok=false)/\Pure w0 w':=by
 have⟨k,f,t,u,x,a,b⟩:=n
 generalize y:(⟨k,f,t,u,x,a,b⟩:df)=n
 have d:(Value.agg #[vi k,vi f,vi t,vu u,vs x,vi a,vi b])=ly n:=by rw[<-y];rfl
 rw[<-d]
 refine jbe _ _ _ _ _ _ _ _ w0 _ ?_
 intro z h h1
 have b1:=ai.bh h1
 have q:Pure w0 h:=ab.aw h1
 refine Br.f rfl ?_
 rintro _ rfl
 have o:Pure h h.drew:=ab.drew h
 have j:=q.trans o
 have⟨s,m,hS,A⟩:=hP.pure j
 refine⟨p,rfl,_,hS.box.cell (i:=1) rfl,_,_,_,_,_,_,_,(b1.pure o).row,?_⟩
 simp only[d]
 rcases hS.map.lookup (P:=prog) (T:=157) (E:=73) underlying157 Dt EU ⟨n,rfl⟩ (zeroValue73 _) true with⟨g,c⟩|⟨i,v,hi,c⟩
 refine⟨_,_,c,?_,j⟩
 rw[yr<|PM g];exact⟨rfl,rfl⟩
 obtain⟨e,w,l,rfl⟩:=My hi
 refine⟨_,_,c,?_,j⟩
 rw[<-l,D5 hok w];exact⟨Sm,rfl⟩
abbrev ud(p:Addr)(L:av)(F:NP)(w:World)(n:df)(e:Ending)(w':World):Prop:=
 ∃r1:Int,∃r2:Int,e=.returned (.tuple #[vi r1,vi r2])/\((r1,r2)=((ax L n).1,(ax L n).2.1)/\∃F',zD w' p (ax L n).2.2 F'/\ab F w w'/\∀b,F' b->F b\/w.heap.size<=b)
section
variable (p:Addr) (w0:World) {L:av} {F:NP} (hP:zD w0 p L F) (hok:Ok L)
include hP hok
def jcK(n):cl 227 #[vp<|some p,vu n] w0 (ud p L F w0 ⟨2,0,0,n,⟨#[]⟩,0,0⟩):=by
 refine jbf _ _ w0 (fun r1 r2 w'=>(r1,r2)=((ax L ⟨2,0,0,n,⟨#[]⟩,0,0⟩).1,(ax L ⟨2,0,0,n,⟨#[]⟩,0,0⟩).2.1)/\∃F',zD w' p (ax L ⟨2,0,0,n,⟨#[]⟩,0,0⟩).2.2 F'/\ab F w0 w'/\∀b,F' b->F b\/w0.heap.size<=b) ?_;refine(rY p _ _ _ _ _ _ _ w0 hP hok).mono ?_;rintro _ a ⟨r1,r2,rfl,h⟩;exact⟨r1,r2,rfl,h⟩
def jaE(n):cl 225 #[vp<|some p,vi n] w0 (ud p L F w0 ⟨1,n,0,0,⟨#[]⟩,0,0⟩):=by
 refine TU _ _ w0 (fun r1 r2 w'=>(r1,r2)=((ax L ⟨1,n,0,0,⟨#[]⟩,0,0⟩).1,(ax L ⟨1,n,0,0,⟨#[]⟩,0,0⟩).2.1)/\∃F',zD w' p (ax L ⟨1,n,0,0,⟨#[]⟩,0,0⟩).2.2 F'/\ab F w0 w'/\∀b,F' b->F b\/w0.heap.size<=b) ?_;refine(rY p _ _ _ _ _ _ _ w0 hP hok).mono ?_;rintro _ a ⟨r1,r2,rfl,h⟩;exact⟨r1,r2,rfl,h⟩
def Z6(a b):cl 232 #[vp<|some p,vi a,vi b] w0 (ud p L F w0 ⟨4,0,0,0,⟨#[]⟩,a,b⟩):=by
 refine jbW _ _ _ w0 (fun r1 r2 w'=>(r1,r2)=((ax L ⟨4,0,0,0,⟨#[]⟩,a,b⟩).1,(ax L ⟨4,0,0,0,⟨#[]⟩,a,b⟩).2.1)/\∃F',zD w' p (ax L ⟨4,0,0,0,⟨#[]⟩,a,b⟩).2.2 F'/\ab F w0 w'/\∀b,F' b->F b\/w0.heap.size<=b) ?_;refine(rY p _ _ _ _ _ _ _ w0 hP hok).mono ?_;rintro _ c ⟨r1,r2,rfl,h⟩;exact⟨r1,r2,rfl,h⟩
def jaa(n a):cl 241 #[vp<|some p,vi n,vi a] w0 (ud p L F w0 ⟨7,n,0,0,⟨#[]⟩,a,0⟩):=by
 refine jbg _ _ _ w0 (fun r1 r2 w'=>(r1,r2)=((ax L ⟨7,n,0,0,⟨#[]⟩,a,0⟩).1,(ax L ⟨7,n,0,0,⟨#[]⟩,a,0⟩).2.1)/\∃F',zD w' p (ax L ⟨7,n,0,0,⟨#[]⟩,a,0⟩).2.2 F'/\ab F w0 w'/\∀b,F' b->F b\/w0.heap.size<=b) ?_;refine(rY p _ _ _ _ _ _ _ w0 hP hok).mono ?_;rintro _ c ⟨r1,r2,rfl,h⟩;exact⟨r1,r2,rfl,h⟩
def jbq(a):cl 234 #[vp<|some p,vi a] w0 (ud p L F w0 ⟨5,0,0,0,⟨#[]⟩,a,0⟩):=by
 refine Ru _ _ w0 (fun r1 r2 w'=>(r1,r2)=((ax L ⟨5,0,0,0,⟨#[]⟩,a,0⟩).1,(ax L ⟨5,0,0,0,⟨#[]⟩,a,0⟩).2.1)/\∃F',zD w' p (ax L ⟨5,0,0,0,⟨#[]⟩,a,0⟩).2.2 F'/\ab F w0 w'/\∀b,F' b->F b\/w0.heap.size<=b) ?_;refine(rY p _ _ _ _ _ _ _ w0 hP hok).mono ?_;rintro _ c ⟨r1,r2,rfl,h⟩;exact⟨r1,r2,rfl,h⟩
def ZM(n):cl 99 #[vp<|some p,vi n] w0 (ud p L F w0 ⟨6,n,0,0,⟨#[]⟩,0,0⟩):=by
 refine W3 _ _ w0 (fun r1 r2 w'=>(r1,r2)=((ax L ⟨6,n,0,0,⟨#[]⟩,0,0⟩).1,(ax L ⟨6,n,0,0,⟨#[]⟩,0,0⟩).2.1)/\∃F',zD w' p (ax L ⟨6,n,0,0,⟨#[]⟩,0,0⟩).2.2 F'/\ab F w0 w'/\∀b,F' b->F b\/w0.heap.size<=b) ?_;refine(rY p _ _ _ _ _ _ _ w0 hP hok).mono ?_;rintro _ a ⟨r1,r2,rfl,h⟩;exact⟨r1,r2,rfl,h⟩
end
def mh.jap{w k p G S ks sg sl m}(h:mh w k p G S ks sg m sl){t q w1}(o:au w (.cells #[vi t] 73) q w1)(u:G.length<=1000000):∃s1 f,(Builtin.append_ #[46,46] 46 #[sg.v,(Sl.mk (some q) 1 1).v]).run prog w1=.ok s1.v f/\ab sg.ao w1 f/\zL f (k.add 1) /\
  mh (f.setCell (k.add 1) s1.v) k p (G++[t]) S ks s1 m sl/\ab (KF k sg m sl) w (f.setCell (k.add 1) s1.v)/\∀b,KF k s1 m sl b->KF k sg m sl b\/w.heap.size<=b:=by
 have l:Pure w w1:=ab.aw o
 have h1:=h.pure l
 have⟨s1,f,hr,s,g,a⟩:=h1.jo.append (P:=prog) (ty:=46) (c:=1) te (r:=[vi t]) (ai.bh o).row rfl rfl (by rw[vA];omega) (by rw[vA];simp[maxLen];omega)
 have i:=h1.box.ext g h1.n2
 have d:∀b,s1.ao b->sg.ao b\/w.heap.size<=b:=fun b h=>(a b h).imp_right fun h=>Oh l.size
 have n:¬s1.ao k.block:=fun hh=>(d _ hh).elim h.n2 fun hh=>Oh h.box.lt
 have nm:¬s1.ao m:=fun hh=>(d _ hh).elim h.n4 fun hh=>Oh h.seen.lt
 have j:=ab.setCell (w:=f) (k.add 1) s1.v
 rw[zC]at j
 refine⟨s1,f,hr,g,i.ee Sm,⟨i.set 1 s1.v,by rw[show bz (G++[t])=bz G++[[vi t]] by simp[bz]];exact s.ext j fun b a e=>n<|e▸a,((h1.seen.ext g h.n4).ext j h.n1),((h1.pZ.ext g fun b h2 h1=>h.n6 b h1 h2).ext j fun b a e=>h.n3<|e▸a),h.n1,n,h.n3,nm,h.n5,fun b h1 h2=>(d b h1).elim (fun h1=>h.n6 b h1 h2) fun hh=>Oh<|h.pZ.lt h2⟩,?_,?_⟩
 exact((l.pure (F:=KF k sg m sl)).trans<|g.mono fun b _ a=>.inr<|.inl a).trans (j.mono fun b _ a=>.inl a)
 rintro b (a|a|a|a)
 exact .inl<|.inl a
 exact(d b a).imp_left fun h=>.inr<|.inl h
 exact .inl<|.inr<|.inr<|.inl a
 exact .inl<|.inr<|.inr<|.inr a
def Gx(k p t w0){L G S F FP}(h:qJ w0 k p G S F)(hP:zD w0 p L FP)(P:Wf L)(hd:∀b,F b->¬ FP b)(n:ny L G S):
  cl 70 #[vp<|some k,vi t] w0<|XB fun r w'=>r=(if al L t=true then 0 else 51)/\∃u F',qJ w' k p (pd L G t) u F'/\ny L (pd L G t) u/\ab F w0 w'/\∀b,F' b->F b\/w0.heap.size<=b:=by
 suffices key:∀K:Int->WP,(∀u F' w',qJ w' k p (pd L G t) u F'->ny L (pd L G t) u->ab F w0 w'->(∀b,F' b->F b\/w0.heap.size<=b)->K (if al L t=true then 0 else 51) w')->IC (some k) t w0 K from
  jcd _ _ w0 _<|key _ Gd
 intro K D
 unfold IC
 have⟨sg,m,sl,k0,E⟩:=h
 refine Br.f rfl ⟨k,rfl,_,k0.box.bd,?_⟩
 refine(tz p t w0 hP P.ok).mono ?_
 rintro _ w1 ⟨nk,nf,nt,nu,nx,na,nb,ok,rfl,⟨_,rfl⟩,W⟩
 refine⟨_,_,_,_,_,_,_,_,rfl,W.bo,fun O=>?_,fun O=>?_⟩
 have d:al L t=false:=by simpa using O
 intro j i c
 have o:Pure w0 i:=W.aq c
 have C:pd L G t=G:=by unfold pd;rw[if_neg<|by simp[d]]
 have:=D S F i (by rw[C];exact⟨sg,m,sl,k0.pure o,E⟩) (by rw[C];exact n) o.pure fun b a=>.inl a
 simpa[d]using this
 have d:al L t=true:=by simpa using O
 have C:pd L G t=ic G t:=by unfold pd;rw[if_pos d]
 rw[C]at D
 simp only[d,if_true]at D
 refine⟨k,rfl,?_⟩
 intro j i c
 have o:Pure w0 i:=W.aq c
 have A:=k0.pure o
 have nh:∀b,b<w0.heap.size->¬j b:=fun b a hh=>Oh<|c.old b hh
 have hGn:G.length<=65536:=by have:=tT n.DF fun t ht=>n.gm t<|n.jo t ht;have:=P.ok.fm;omega
 have y:∀(w:World) (F':NP),qJ w k p (ic G t) S F'->ab F w0 w->(∀b,F' b->F b\/w0.heap.size<=b)->af w0 j w j w->(∀b,F' b->¬j b)->cl 134 #[vp<|some k,vi t,.agg #[vi 0,vi 0]] w (fun e B=>e=.returned (.tuple #[])/\aj j w B/\K 0 B):=by
  intro w F' hw U hf hs hh;have H:∀x∈G,x∈ic G t:=fun x l=>y8.2<|.inl l;have M:zD w p L FP:=hP.ext U fun b a J=>hd b J a;refine(Sb k p t 0 0 w hw M P (fun b a Z=>?_) (n.tooy.mono H) n.rW d<|.inl ⟨rfl,rfl,y8.2<|.inr rfl⟩).mono ?_;rcases hf b a with h1|h1;exact hd b h1 Z;have:=hP.lt Z;omega;rintro _ B ⟨rfl,u,F2,K2,⟨q1,q2,q3,q4⟩,X,f2⟩;have z:=U.size;refine⟨rfl,X.bl fun b a l=>hh b l a,D u F2 B K2 ⟨q1,q2,fun x l=>?_,Sk n.DF⟩ (U.cg X Gd) fun b a=>?_⟩;rcases y8.1 l with l|rfl;exact q4 x<|n.jo x l;exact q3;grind
 refine⟨_,A.box.cell rfl,?_⟩
 refine(jQL sg G t i A.jo.ei Om).mono ?_
 rintro _ i ⟨r,rfl,rfl,rfl⟩
 refine⟨_,rfl,aj.refl _,fun s=>?_,fun s=>?_⟩
 have R:t∉G:=by simpa using s
 have g:ic G t=G++[t]:=if_neg R
 refine⟨k,rfl,_,A.box.cell rfl,?_⟩
 intro q v V
 have⟨s1,Y,I,X6,N,k6,E6,f6⟩:=A.jap V Om
 have Q:af w0 j v j v:=c.fi.gi (ab.aw V:Pure i v).bo
 have T:∀b,sg.ao b->¬j b:=fun b a=>nh b<|k0.lt<|.inr<|.inl a
 have kk:aj j v Y:=X6.bl fun b a l=>T b l a
 refine⟨s1,Y,I,kk,k,rfl,N,by rw[zC];exact nh _ k0.box.lt,?_⟩
 rintro _ rfl
 have z3:=o.size
 have z5:i.heap.size<=v.heap.size:=(ab.aw V:Pure i v).size
 refine y _ (KF k s1 m sl) (by rw[g];exact⟨s1,m,sl,k6,fun b=>Iff.rfl⟩) ((o.pure (F:=F)).trans<|E6.mono fun b _ a=>(E b).2 a) Gd ((Q.gi kk).gi<|aj.setCell (by rw[zC];exact nh _ k0.box.lt)) fun b a hh=>?_
 rcases f6 b a with h1|h1
 exact nh b (k0.lt h1) hh
 have:=c.lt b hh;omega
 have hG:t∈G:=by simpa using s
 have g:ic G t=G:=if_pos hG
 exact y i F (by rw[g];exact⟨sg,m,sl,A,E⟩) o.pure (fun b a=>.inl a) c.fi fun b a=>nh b<|k0.lt<|(E b).1 a
def Xs(k p t w0){L G S F FP}(h:qJ w0 k p G S F)(hP:zD w0 p L FP)(O:Wf L):
  cl 161 #[vp<|some k,vi t] w0<|XG fun r1 r2 r3 M w'=>(r1,r2,r3,M)=rj L S t/\Pure w0 w':=by
 refine WA _ _ w0 _ ?_
 unfold OO
 have⟨sg,m,sl,k0,hF⟩:=h
 refine⟨k,rfl,_,k0.box.bd,?_⟩
 refine(tz p t w0 hP O.ok).mono ?_
 rintro _ w1 ⟨c,nf,N,nu,nx,Q,U,ok,rfl,⟨q,rfl⟩,o⟩
 refine⟨_,_,_,_,_,_,_,_,rfl,o.bo,fun B=>?_,fun B=>?_⟩
 intro H1 w3 I
 have l:al L t=false:=by simpa using B
 exact⟨by unfold rj;rw[if_pos l],o.aq I⟩
 have l:al L t=true:=by simpa using B
 have hi:¬al L t=false:=by simp[l]
 rintro y1 rfl
 have X:(cond ((c:Int)==1) ((c:Int)==1)<|cond ((c:Int)==2) ((c:Int)==2)<|(c:Int)==3)=sB c:=by
  unfold sB;cases(c==1)<;>cases(c==2)<;>simp
 rw[X]
 have f:(ad L t).kind=c:=by rw[<-q]
 have C:(ad L t).ay=nf:=by rw[<-q]
 have J:(ad L t).to=N:=by rw[<-q]
 have A:(ad L t).a=Q:=by rw[<-q]
 have Z:(ad L t).b=U:=by rw[<-q]
 refine⟨fun h1=>?_,fun h1=>⟨fun w=>?_,fun w=>⟨fun x=>?_,fun x=>⟨fun E=>?_,fun E=>?_⟩⟩⟩⟩
 intro y D e
 exact⟨by unfold rj;rw[if_neg hi,f,if_pos h1],o.aq e⟩
 intro y D e
 have d:c=4:=by simpa using w
 exact⟨by unfold rj;rw[if_neg hi,f,if_neg<|by simp[h1],if_pos d,A,Z],o.aq e⟩
 intro y D e
 have d:¬c=4:=by simpa using w
 have g:c=5:=by simpa using x
 exact⟨by unfold rj;rw[if_neg hi,f,if_neg<|by simp[h1],if_neg d,if_pos g,A],o.aq e⟩
 intro y D e
 have d:¬c=4:=by simpa using w
 have g:¬c=5:=by simpa using x
 have n:c=6:=by simpa using E
 exact⟨by unfold rj;rw[if_neg hi,f,if_neg<|by simp[h1],if_neg d,if_neg g,if_pos n],o.aq e⟩
 have d:¬c=4:=by simpa using w
 have g:¬c=5:=by simpa using x
 have n:¬c=6:=by simpa using E
 intro H3 P H
 have z:Pure w0 P:=o.aq H
 unfold Ij
 have W:=k0.pure z
 have r:(cond ((c:Int)==9) N nf)=oo (ad L t):=by
  unfold oo;rw[f,C,J];by_cases Y:c=9;subst Y;simp;grind
 rw[r]
 have hm:rj L S t=(Q,(oE L<|oo<|ad L t).1,false,(oE L<|oo<|ad L t).2&&decide ((oE L<|oo<|ad L t).1∈zG S)):=by
  unfold rj;rw[if_neg hi,f,if_neg<|by simp[h1],if_neg d,if_neg g,if_neg n,A]
 refine⟨k,rfl,_,W.box.bd,?_⟩
 refine(Gp p (zV<|oo<|ad L t) P (hP.pure z) O.ok).mono ?_
 rintro _ j ⟨r2,r3,rfl,hr,v⟩
 refine⟨r2,r3,rfl,v.bo,?_⟩
 have V:Pure j j.drew:=ab.drew j
 refine⟨fun _=>True,trivial,?_⟩
 rintro _ rfl
 have u:=(z.trans v).trans V
 have K:oE L (oo<|ad L t)=(r2,r3):=by
  unfold oE;cases R:find L (zV<|oo<|ad L t)with
  |none=>rw[R]at hr;simp only at hr;rw[hr.1,hr.2]
  |some i=>rw[R]at hr;simp only at hr;rw[hr.1,hr.2]
 rw[hm,K]
 refine⟨fun h=>?_,fun h=>?_⟩
 subst h
 refine(LJ k p r2 j.drew ⟨sg,m,sl,k0.pure u,hF⟩).mono ?_
 rintro _ T ⟨M,rfl,rfl,s⟩
 exact⟨_,rfl,trivial,s.bo,Sm,u.trans s⟩
 grind
end Go.Proofs
end
section
open Go Go.SE List
namespace Go.Proofs
structure Op where
 code:Int
 a:Int
 b:Int
 num:Int
 ba:ByteArray
deriving DecidableEq
abbrev pU:=Int×Int×av
def ej(M:List Int)(i:Int):Option Int:=if i<0 then none else M[i.toNat]?
def el(L:av)(M:List Int)(i:Int):df:=match ej M i with|none=>xC|some t=>ad L t
def rQ(n:Int):Int:=cond (decide (n>2147483648)) (-1)<|IntKind.i64.wrap n
def j9(L:av):pU:=(0,90,L)
def vQ(L:av)(M:List Int)(o:Op)(mk:Int->Int->df):pU:=
 match ej M o.a with
 |none=>j9 L
 |some a=>if(el L M o.b).kind=6 then ax L (mk (el L M o.b).ay a)else j9 L
def rV(L:av)(M:List Int)(o:Op):pU:=
 match ej M o.a with
 |none=>j9 L
 |some a=>match ej M o.b with
  |none=>j9 L
  |some b=>ax L ⟨4,0,0,0,⟨#[]⟩,a,b⟩
def sP(L:av)(M:List Int)(o:Op):pU:=
 match ej M o.a with
 |none=>j9 L
 |some a=>ax L ⟨5,0,0,0,⟨#[]⟩,a,0⟩
def uR(L:av)(G:List Int)(o:Op):pU:=
 match ej G o.a with
 |none=>j9 L
 |some a=>(a,0,L)
def yB(L:av)(M:List Int)(o:Op)(c:Bool):pU:=
 if(el L M o.a).kind=4 then(if c then(el L M o.a).b else(el L M o.a).a,0,L)else j9 L
def xI(L:av)(M:List Int)(o:Op):pU:=
 if qP (el L M o.a).kind=true then((el L M o.a).a,0,L)else j9 L
def qZ(L:av)(G M:List Int)(o:Op):pU:=
 if o.code=0 then uR L G o
 else if o.code=1 then ax L ⟨1,o.a,0,0,⟨#[]⟩,0,0⟩
 else if o.code=2 then ax L ⟨2,0,0,o.num,⟨#[]⟩,0,0⟩
 else if o.code=3 then ax L ⟨3,0,0,0,o.ba,0,0⟩
 else if o.code=4 then rV L M o
 else if o.code=5 then sP L M o
 else if o.code=6 then yB L M o false
 else if o.code=7 then yB L M o true
 else if o.code=8 then xI L M o
 else if o.code=9 then vQ L M o fun k a=>⟨7,k,0,0,⟨#[]⟩,a,0⟩
 else if o.code=10 then vQ L M o fun k a=>⟨8,k,rQ o.num,0,⟨#[]⟩,a,0⟩
 else if o.code=11 then vQ L M o fun k a=>⟨9,rQ o.num,k,0,⟨#[]⟩,a,0⟩
 else j9 L
def vC(L:av)(G:List Int)(M:List Int):List Op->List Int×Int×av
 |[]=>(M,0,L)
 |o :: os=>if(qZ L G M o).2.1≠0 then(M,(qZ L G M o).2.1,(qZ L G M o).2.2)else vC (qZ L G M o).2.2 G (M++[(qZ L G M o).1]) os
def zM(L:av)(G:List Int)(l:List Op):Int×Int×Int×av:=
 if l.length>256 then(0,6,0,L)else if l.length=0 then(0,3,0,L)
 else if(vC L G [] l).2.1≠0 then(0,(vC L G [] l).2.1,(vC L G [] l).1.length,(vC L G [] l).2.2)
 else(((vC L G [] l).1.getLast?).getD 0,0,0,(vC L G [] l).2.2)
def Of{L t}(h:al L t=false):ad L t=xC:=by simp[ad,yR h]
def uh{M i}(a:0<=i)(h1:i.toNat<M.length):ej M i=some M[i.toNat]:=by
 unfold ej;rw[if_neg Om,getElem?_eq_getElem h1]
def uw{M i}(h:i<0\/(M.length:Int)<=i):ej M i=none:=by
 unfold ej;split;rfl;rw[getElem?_eq_none];omega
def EM{M i t}(h:ej M i=some t):0<=i/\∃h1:i.toNat<M.length,M[i.toNat]=t:=by
 unfold ej at h;split at h;cases h;exact⟨Om,List.getElem?_eq_some_iff.1 h⟩
def tM{α:Type}{P:α->Prop}{c:Prop}[Decidable c]{x y:α}(b:P x)(a:P y):P (if c then x else y):=by split<;>assumption
def JT{L}(P:pU->Prop)(h1:∀t e,P (t,e,L))(G M o)(h2:∀n,n.num=0\/n.num=o.num->P (ax L n)):P (qZ L G M o):=by
 have c:∀mk:Int->Int->df,(∀k a,(mk k a).num=0)->P (vQ L M o mk):=fun mk hm=>by
  unfold vQ;split;exact h1 _ _;split;exact h2 _<|.inl<|hm _ _;exact h1 _ _
 have d:P (uR L G o):=by unfold uR;split<;>exact h1 _ _
 have f:P (rV L M o):=by
  unfold rV;split;exact h1 _ _;split;exact h1 _ _;exact h2 _<|.inl rfl
 have hh:P (sP L M o):=by
  unfold sP;split;exact h1 _ _;exact h2 _<|.inl rfl
 have b:∀s,P<|yB L M o s:=fun s=>by unfold yB;split<;>exact h1 _ _
 have hs:P (xI L M o):=by unfold xI;split<;>exact h1 _ _
 unfold qZ;refine tM d<|tM (h2 _<|.inl rfl)<|tM (h2 _<|.inr rfl)<|tM (h2 _<|.inl rfl)<|tM f<|tM hh<|tM (b _)<|tM (b _)<|tM hs<|tM (c _ fun _ _=>rfl)<|tM (c _ fun _ _=>rfl)<|tM (c _ fun _ _=>rfl)<|h1 _ _
def CV{L}(P:pU->Prop)(h1:∀t e,P (t,e,L))(h2:∀n,P<|ax L n)(G M o):P (qZ L G M o):=JT P h1 G M o fun n _=>h2 n
def u6{L}(h:Wf L)(G M o):Wf (qZ L G M o).2.2:=CV (fun r=>Wf r.2.2) (fun _ _=>h) (fun n=>uQ h n) G M o
def tW(L G M o):∃X,(qZ L G M o).2.2=L++X:=CV (fun r=>∃X,r.2.2=L++X) (fun _ _=>⟨[],Sm⟩) (fun n=>Gt L n) G M o
def Hs(G):∀(l:List Op) (L:av) (M:List Int),Wf L->Wf (vC L G M l).2.2
 |[],_,_,h=>h
 |o :: os,L,M,h=>by
  unfold vC;split;exact u6 h G M o;exact Hs G os _ _<|u6 h G M o
def Nu(G):∀(l:List Op) (L:av) (M:List Int),∃X,(vC L G M l).2.2=L++X
 |[],L,_=>⟨[],by simp[vC]⟩
 |o :: os,L,M=>by
  unfold vC;split;exact tW L G M o;have⟨X,b⟩:=tW L G M o;have⟨Y,a⟩:=Nu G os (qZ L G M o).2.2<|M++[(qZ L G M o).1];exact⟨X++Y,by rw[a,b,append_assoc]⟩
def BO(G):∀(l:List Op) (L:av) (M:List Int),(vC L G M l).1.length<=M.length+l.length/\((vC L G M l).2.1=0->(vC L G M l).1.length=M.length+l.length)
 |[],_,_=>⟨Nat.le_refl _,fun _=>rfl⟩
 |o :: os,L,M=>by
  unfold vC;split;grind;have⟨h1,h2⟩:=BO G os (qZ L G M o).2.2<|M++[(qZ L G M o).1];simp only[length_append,length_cons,length_nil]at h1 h2;simp only[length_cons];exact⟨Om,fun h=>Oh<|h2 h⟩
section
variable {L:av} {G M:List Int} {o:Op}
def Dx(h:o.code=0):qZ L G M o=uR L G o:=by unfold qZ;rw[if_pos h]
def Fv(h:o.code=1):qZ L G M o=ax L ⟨1,o.a,0,0,⟨#[]⟩,0,0⟩:=by unfold qZ;rw[if_neg Om,if_pos h]
def DE(h:o.code=2):qZ L G M o=ax L ⟨2,0,0,o.num,⟨#[]⟩,0,0⟩:=by unfold qZ;rw[if_neg Om,if_neg Om,if_pos h]
def Fh(h:o.code=3):qZ L G M o=ax L ⟨3,0,0,0,o.ba,0,0⟩:=by unfold qZ;rw[if_neg Om,if_neg Om,if_neg Om,if_pos h]
def zb(h:o.code=4):qZ L G M o=rV L M o:=by unfold qZ;rw[if_neg Om,if_neg Om,if_neg Om,if_neg Om,if_pos h]
def Cc(h:o.code=5):qZ L G M o=sP L M o:=by unfold qZ;rw[if_neg Om,if_neg Om,if_neg Om,if_neg Om,if_neg Om,if_pos h]
def Bm(h:o.code=6):qZ L G M o=yB L M o false:=by unfold qZ;rw[if_neg Om,if_neg Om,if_neg Om,if_neg Om,if_neg Om,if_neg Om,if_pos h]
def Bl(h:o.code=7):qZ L G M o=yB L M o true:=by unfold qZ;rw[if_neg Om,if_neg Om,if_neg Om,if_neg Om,if_neg Om,if_neg Om,if_neg Om,if_pos h]
def As(h:o.code=8):qZ L G M o=xI L M o:=by unfold qZ;rw[if_neg Om,if_neg Om,if_neg Om,if_neg Om,if_neg Om,if_neg Om,if_neg Om,if_neg Om,if_pos h]
def AH(h:o.code=9):qZ L G M o=vQ L M o (fun k a=>⟨7,k,0,0,⟨#[]⟩,a,0⟩):=by unfold qZ;rw[if_neg Om,if_neg Om,if_neg Om,if_neg Om,if_neg Om,if_neg Om,if_neg Om,if_neg Om,if_neg Om,if_pos h]
def y9(h:o.code=10):qZ L G M o=vQ L M o (fun k a=>⟨8,k,rQ o.num,0,⟨#[]⟩,a,0⟩):=by unfold qZ;rw[if_neg Om,if_neg Om,if_neg Om,if_neg Om,if_neg Om,if_neg Om,if_neg Om,if_neg Om,if_neg Om,if_neg Om,if_pos h]
def ze(h:o.code=11):qZ L G M o=vQ L M o (fun k a=>⟨9,rQ o.num,k,0,⟨#[]⟩,a,0⟩):=by unfold qZ;rw[if_neg Om,if_neg Om,if_neg Om,if_neg Om,if_neg Om,if_neg Om,if_neg Om,if_neg Om,if_neg Om,if_neg Om,if_neg Om,if_pos h]
def HH(h:ej M o.a=none)(mk:Int->Int->df):vQ L M o mk=j9 L:=by unfold vQ;rw[h]
def Hx(h:(el L M o.b).kind≠6)(mk:Int->Int->df):vQ L M o mk=j9 L:=by
 unfold vQ;split;rfl;rw[if_neg h]
def xA{i}(h:ej M i=none):el L M i=xC:=by unfold el;rw[h]
def U5(d:4<=o.code)(c:o.code<=11)(h:ej M o.a=none):qZ L G M o=j9 L:=by
 have b:(el L M o.a).kind=0:=by rw[xA h];rfl
 rcases(show o.code=4\/o.code=5\/o.code=6\/o.code=7\/o.code=8\/o.code=9\/o.code=10\/o.code=11 by omega)with e|e|e|e|e|e|e|e;rw[zb e];unfold rV;rw[h];rw[Cc e];unfold sP;rw[h];rw[Bm e];unfold yB;rw[b,if_neg Om];rw[Bl e];unfold yB;rw[b,if_neg Om];rw[As e];unfold xI;rw[b,if_neg De];rw[AH e,HH h];rw[y9 e,HH h];rw[ze e,HH h]
def LK(c:9<=o.code)(a:o.code<=11)(h:(el L M o.b).kind≠6):qZ L G M o=j9 L:=by
 rcases(show o.code=9\/o.code=10\/o.code=11 by omega)with e|e|e;rw[AH e,Hx h];rw[y9 e,Hx h];rw[ze e,Hx h]
def Tq(h:ej M o.b=none)(d:o.code=4\/9<=o.code/\o.code<=11):qZ L G M o=j9 L:=by
 rcases d with e|⟨c,a⟩;rw[zb e];unfold rV;rw[h];split<;>rfl;exact LK c a (by rw[xA h];decide)
def Bk(h:o.code<0\/11<o.code):qZ L G M o=j9 L:=by
 unfold qZ;rw[if_neg Om,if_neg Om,if_neg Om,if_neg Om,if_neg Om,if_neg Om,if_neg Om,if_neg Om,if_neg Om,if_neg Om,if_neg Om,if_neg Om]
end
def JV{L:av}{G M:List Int}{l:List Op}{j:Nat}(a:j<l.length):vC L G M (l.drop j) =
  if(qZ L G M l[j]).2.1≠0 then(M,(qZ L G M l[j]).2.1,(qZ L G M l[j]).2.2)else vC (qZ L G M l[j]).2.2 G (M++[(qZ L G M l[j]).1]) (l.drop<|j+1):=by
 rw[drop_eq_getElem_cons a,vC]
def zy{L}(h:Wf L)(G l):Wf (zM L G l).2.2.2:=by
 unfold zM
 repeat' split
 .exact h
 .exact h
 .exact Hs G l L [] h
 .exact Hs G l L [] h
end Go.Proofs
end
section
open Go Go.SE List
open Go.IntKind renaming i64 -> q6
namespace Go.Proofs
open Tryz
set_option maxRecDepth 100000
set_option maxHeartbeats 4000000
attribute [local irreducible] bu ft fg dw Calls
attribute [local irreducible] jq W WV WR yW pv ku jd nz ka lq ky lj mz mo iq fa im mv kq kp uP xG yA bn ub
def AX(c:Option Addr)(b:Option Addr)(a:Sl):Int:=(cond ((Option.isNone c) ||(Option.isNone b)) 2<|cond (decide ((a.len:Int)>256)) 6<|cond (((a.len:Int):Int)==0) 3 0)
def jbO(d:Option Addr)(f:Option Addr)(g:Sl)(h:World):cl 107 #[(.pointer d),(.pointer f),g.v] h (fun e w'=>e=.returned (.int .i64<|AX d f g)/\Pure h w'):=
 jr func107 [((Option.isNone d) ||(Option.isNone f)),(decide ((g.len:Int)>256)),(((g.len:Int):Int)==0)] (fun b=>(vi<|cond (b 0) 2<|cond (b 1) 6<|cond (b 2) 3 0)) fun a=>pj 1 0 [] [2] (fun b=>[(7,(vb<|(Option.isNone d) ||(Option.isNone f)))]) (fun i=>ct 3 3<|pj 0 0 [(Option.isNone d)] [2] (fun b=>[(13,(vb<|(b 0) ||(Option.isNone f)))]) (fun c=>pb 1 0 0 c (fun c=>pe 3 0 c)<|fun c=>pe 3 0 c)<|pe 1 0 i)<|pb 0 0 0 a (fun a=>ff 2 a)<|fun a=>pb 0 5 1 a (fun a=>ff 2 a)<|fun a=>pb 0 5 2 a (fun a=>ff 2 a)<|fun a=>ff 2 a
def jav(x:Option Addr)(w:World)(K:(Option Nat)->WP):Prop:=∀b k,au w (.cells #[(vp x)] 239) b k->lp k b fun u=>∃a1,u=some a1/\lp k a1 fun t=>∀c l,au k (.cells #[(vp none)] 91) c l->zL l c/\∀o,o=l.setCell c (vp t)->∀a s,au o (.map #[] 0) a s->∃m:World,(Instr.mapUpdate 242 (.map<|some a.block) (vi 0)<|.func (.func 223) #[] #[(vp<|some b)]).run prog s=.ok () m/\∃n:World,(Instr.mapUpdate 242 (.map<|some a.block) (vi 1)<|.func (.func 224) #[] #[(vp<|some c)]).run prog m=.ok () n/\∃q:World,(Instr.mapUpdate 242 (.map<|some a.block) (vi 2)<|.func (.func 226) #[] #[(vp<|some c)]).run prog n=.ok () q/\∃p:World,(Instr.mapUpdate 242 (.map<|some a.block) (vi 3)<|.func (.func 228) #[] #[(vp<|some c)]).run prog q=.ok () p/\∃r:World,(Instr.mapUpdate 242 (.map<|some a.block) (vi 4)<|.func (.func 230) #[] #[(vp<|some b),(vp<|some c)]).run prog p=.ok () r/\∃h:World,(Instr.mapUpdate 242 (.map<|some a.block) (vi 5)<|.func (.func 233) #[] #[(vp<|some b),(vp<|some c)]).run prog r=.ok () h/\∃f:World,(Instr.mapUpdate 242 (.map<|some a.block) (vi 6)<|.func (.func 235) #[] #[(vp<|some b)]).run prog h=.ok () f/\∃d:World,(Instr.mapUpdate 242 (.map<|some a.block) (vi 7)<|.func (.func 237) #[] #[(vp<|some b)]).run prog f=.ok () d/\lp d b fun v=>∃e:World,(Instr.mapUpdate 242 (.map<|some a.block) (vi 8)<|.func (.func 238) #[(vp v)] #[]).run prog d=.ok () e/\∃j:World,(Instr.mapUpdate 242 (.map<|some a.block) (vi 9)<|.func (.func 239) #[] #[(vp<|some b),(vp<|some c)]).run prog e=.ok () j/\∃g:World,(Instr.mapUpdate 242 (.map<|some a.block) (vi 10)<|.func (.func 242) #[] #[(vp<|some b),(vp<|some c)]).run prog j=.ok () g/\∃i:World,(Instr.mapUpdate 242 (.map<|some a.block) (vi 11)<|.func (.func 246) #[] #[(vp<|some b),(vp<|some c)]).run prog g=.ok () i/\K (some a.block) i
def Ry(c1 w0 K)(h:jav c1 w0 K):
  cl 163 #[(vp c1)] w0<|fun e w'=>∃r1:Option Nat,e=.returned (.map r1)/\K r1 w':=
 cy func163 h<|cd 0<|ld 1<|nc 0<|ld 1<|cd 0<|gv 0<|cd 0<|xe<|es 1<|ev<|xe<|es 1<|ev<|xe<|es 1<|ev<|xe<|es 1<|ev<|xe<|es 1<|ev<|xe<|es 1<|ev<|xe<|es 1<|ev<|xe<|es 1<|ev<|ld 0<|xe<|es 1<|ev<|xe<|es 1<|ev<|xe<|es 1<|ev<|xe<|es 1<|ev<|rr 2
def JY(y:Sl)(c:Addr)(r2:Option Nat)(n:Int)(D:World)(k:NP)(a:World)(o:Int->NP->WP)(K:Sl->Int->WP):Prop:=Br (decide (n<(y.len:Int))) (∃a1:Addr,At y n 5 a1/\∃l r z p u,Row a a1 [(vi l),(vi r),(vi z),(vu p),(vs u)]/\∀g b,af D k a g b->∃s:Value,∃f,(Instr.lookup 242 (.map r2) (vi l) true).run prog b=.ok (.tuple #[s,(vb f)]) b/\Br (!f) (lx b (c.add 2) fun A=>K A 90 b) (∃(j:FuncId) (h e:Array Value),s=.func (.func j) h e/\(∀args w,(callFunc j args).run prog w=.ok (.enter j args) w)/\Calls prog j (h++#[(.agg #[(vi l),(vi r),(vi z),(vu p),(vs u)])]++e) b (XH fun r3 q d=>aj g b d/\Br (q !=0) (lx d (c.add 2) fun C=>K C q d) (lx d (c.add 2) fun B=>∀t m,au d (.cells #[(vi r3)] 73) t m->∃s1:Sl,∃i:World,(Builtin.append_ #[46,46] 46 #[B.v,(Sl.mk (some t) 1 1).v]).run prog m=.ok s1.v i/\aj g m i/\zL i (c.add 2)/\¬g (c.add 2).block/\∀x,x=i.setCell (c.add 2) s1.v->o (q6.wrap<|n+1) g x)))) (lx a (c.add 2) fun E=>K E 0 a)
def jbl(n:Option Addr)(o:Option Addr)(p:Sl)(f:World)(K:Sl->Int->WP):Prop:=cl 68 #[(vp o)] f fun e k=>∃r1:Sl,e=.returned r1.v/\aj ar f k/\∀g h,au k (.cells #[(vp n),r1.v,Sl.nil.v] 241) g h->cl 163 #[(vp<|some g)] h fun e l=>∃r2:Option Nat,e=.returned (.map r2)/\aj ar h l/\∃(j:Int->NP->WP) (d:Int->World->Nat),j 0 ar l/\∀(i:Int) (b:NP) (a:World),af f b a b a->j i b a->JY p g r2 i f b a (fun c m w'=>j c m w'/\d c w'<d i a) K
def Se(p1 k1 l1 w0 K)(h:jbl p1 k1 l1 w0 K):
  cl 108 #[(vp p1),(vp k1),l1.v] w0<|XM K:=
 dv func108 h<|du 4 call68<|my 1<|du 2 call163<|td 4 [8,9,23,24] (fun b=>[(25,(vi b))])<|fun {_ _ b}=>fun c=>br 0 1 (ix 1<|gw<|lr 0<|nh 0<|sg 0 0 []<|lh 2 0 []<|ah<|dt<|rn 0<|br 0 7 (ld 4<|rr 2)<|ij 2 0 [] 5<|fo<|fun a=>cv 0 a<|dt<|rt<|ie<|br 0 7 (ld 4<|rr 3)<|ld 5<|my 1<|dt<|ef 0<|ie<|np 2<|je 2 1 c)<|ld 4<|rr 2
def LD(d:Option Addr)(e:Option Addr)(f:Sl)(b:World)(K:Int->Int->Int->WP):Prop:=Br (((AX d e f):Int) !=0) (∀a,af b ar b ar a->K 0 (AX d e f) 0 a)<|∀a,af b ar b ar a->cl 108 #[(vp d),(vp e),f.v] a (XM fun r1 r2 c=>aj ar a c/\Br (r2 !=0) (K 0 r2 (r1.len:Int) c) (∃a1:Addr,At r1 (q6.wrap<|(r1.len:Int)-1) 1 a1/\li c a1 fun g=>K g 0 0 c))
def ZU(p1 k1 l1 w0 K)(h:LD p1 k1 l1 w0 K):
  cl 52 #[(vp p1),(vp k1),l1.v] w0<|XJ K:=
 dv func52 h<|cp 6 call107 (jbO p1 k1 l1)<|br 0 3 (an<|rr 5)<|an<|il 4 call108<|br 0 7 (rr 7)<|ix 5<|ld 0<|rr 3
def Ja(f:Int)(b:Addr)(g:Bool)(e:World)(H:NP)(w:World)(K:Int->Int->WP):Prop:=Br g (K 0 90 w)<|∀a,af e H w H a->lp a b fun d=>∃a1,d=some a1/\lx a (a1.add 1) fun c=>∃a2:Addr,At c f 1 a2/\li a a2 fun h=>K h 0 a
def OP(j e:Int)(k h:Int)(i:ByteArray)(a:Addr)(c:World)(K:Int->Int->WP):Prop:=Br (decide (e<0)) (∀d b,af c ar c d b->Ja e a true c d b K)<|∀d b,af c ar c d b->lp b a fun f=>∃a3,f=some a3/\lx b (a3.add 1) fun g=>Ja e a (decide (e>=(g.len:Int))) c d b K
def YM(aE aA aB aC aD cap1 w0 K)(h:OP aE aA aB aC aD cap1 w0 K):
  cl 223 #[(.agg #[(vi aE),(vi aA),(vi aB),(vu aC),(vs aD)]),(vp<|some cap1)] w0<|XH K:=
 dv func223 h<|nh 0<|jk 2 0 [1,2] (fun a=>[(17,(vb a))]) (fun a H w=>Ja _ _ a _ H w _) (fun b=>dq 0<|lh 1 0 [1]<|br 1 2 (ah<|je 9 0 b)<|lh 1 0 [1]<|ah<|ld 0<|nc 0<|ld 1<|je 3 0 b)<|fun {a}=>br 0 0 (rr 3)<|dq 1<|an<|ld 0<|nc 0<|ld 1<|lh 1 0 [1]<|ix 0<|ld 0<|rr 2
def WL(j g:Int)(k h:Int)(i:ByteArray)(a:Addr)(c:World)(K:Int->Int->WP):Prop:=∀d b,af c ar c d b->lp b a fun f=>cl 225 #[(vp f),(vi g)] b<|XH fun r1 r2 e=>aj d b e/\K r1 r2 e
def jcn(aE aA aB aC aD cap1 w0 K)(h:WL aE aA aB aC aD cap1 w0 K):
  cl 224 #[(.agg #[(vi aE),(vi aA),(vi aB),(vu aC),(vs aD)]),(vp<|some cap1)] w0<|XH K:=
 dv func224 h<|nh 0<|ah<|ld 2<|lh 1 0 [1]<|il 0 call225<|rr 4
def V7(i k:Int)(j g:Int)(h:ByteArray)(a:Addr)(c:World)(K:Int->Int->WP):Prop:=∀d b,af c ar c d b->lp b a fun f=>cl 227 #[(vp f),(vu g)] b<|XH fun r1 r2 e=>aj d b e/\K r1 r2 e
def TC(aE aA aB aC aD cap1 w0 K)(h:V7 aE aA aB aC aD cap1 w0 K):
  cl 226 #[(.agg #[(vi aE),(vi aA),(vi aB),(vu aC),(vs aD)]),(vp<|some cap1)] w0<|XH K:=
 dv func226 h<|nh 0<|ah<|ld 2<|lh 1 0 [3]<|il 0 call227<|rr 4
def U1(i k:Int)(j h:Int)(g:ByteArray)(a:Addr)(c:World)(K:Int->Int->WP):Prop:=∀d b,af c ar c d b->lp b a fun f=>cl 229 #[(vp f),(vs g)] b<|XH fun r1 r2 e=>aj d b e/\K r1 r2 e
def Xu(aE aA aB aC aD cap1 w0 K)(h:U1 aE aA aB aC aD cap1 w0 K):
  cl 228 #[(.agg #[(vi aE),(vi aA),(vi aB),(vu aC),(vs aD)]),(vp<|some cap1)] w0<|XH K:=
 dv func228 h<|nh 0<|ah<|ld 2<|lh 1 0 [4]<|il 0 call229<|rr 4
def Kj(b:Option Addr)(i1:Int)(a:World)(K:Int->Bool->WP):Prop:=Br (decide (i1<0)) (K 0 false a)<|∃a1,b=some a1/\lx a (a1.add 2) fun d=>Br (decide (i1>=(d.len:Int))) (K 0 false a)<|∃a2,b=some a2/\lx a (a2.add 2) fun c=>∃a3:Addr,At c i1 1 a3/\li a a3 fun e=>K e true a
def jck(c1 i1 w0 K)(h:Kj c1 i1 w0 K):
  cl 231 #[(vp c1),(vi i1)] w0<|XE K:=
 cy func231 h<|br 1 5 (rr 11)<|nc 2<|ld 1<|br 0 3 (rr 3)<|nc 2<|ld 1<|ix 1<|ld 0<|rr 2
def Yo(v r:Int)(n u:Int)(t:ByteArray)(a c:Addr)(h:World)(K:Int->Int->WP):Prop:=∀d i,af h ar h d i->lp i a fun q=>cl 231 #[(vp q),(vi r)] i fun e g=>∃r1 r2,e=.returned (.tuple #[(vi r1),(vb r2)])/\aj d i g/\lp g a fun o=>cl 231 #[(vp o),(vi n)] g fun e j=>∃r3 k,e=.returned (.tuple #[(vi r3),(vb k)])/\aj d g j/\Br ((!r2) ||(!k)) (∀f b,af h d j f b->K 0 90 b) (∀f b,af h d j f b->lp b c fun s=>cl 232 #[(vp s),(vi r1),(vi r3)] b<|XH fun m p l=>aj f b l/\K m p l)
def TK(aE aA aB aC aD cap1 cap2 w0 K)(h:Yo aE aA aB aC aD cap1 cap2 w0 K):
  cl 230 #[(.agg #[(vi aE),(vi aA),(vi aB),(vu aC),(vs aD)]),(vp<|some cap1),(vp<|some cap2)] w0<|XH K:=
 dv func230 h<|nh 0<|ah<|ld 2<|lh 1 0 [1]<|il 0 call231<|fun {_ r2}=>ld 5<|lh 1 0 [2]<|il 0 call231<|fun {_ c}=>pj 5 0 [(!r2)] [2,6,8] (fun b=>[(29,(vb<|(b 0) ||(!c)))]) (fun a=>pb 1 3 0 a (fun a=>pe 3 0 a)<|fun a=>pe 3 0 a)<|br 0 0 (ah<|rr 3)<|ah<|ld 1<|il 2 call232<|rr 4
def Ys(o l:Int)(p m:Int)(n:ByteArray)(c a:Addr)(g:World)(K:Int->Int->WP):Prop:=∀f d,af g ar g f d->lp d c fun k=>cl 231 #[(vp k),(vi l)] d fun e b=>∃r1 r2,e=.returned (.tuple #[(vi r1),(vb r2)])/\aj f d b/\Br (!r2) (K 0 90 b) (lp b a fun j=>cl 234 #[(vp j),(vi r1)] b<|XH fun r3 i h=>aj f b h/\K r3 i h)
def jbB(aE aA aB aC aD cap1 cap2 w0 K)(h:Ys aE aA aB aC aD cap1 cap2 w0 K):
  cl 233 #[(.agg #[(vi aE),(vi aA),(vi aB),(vu aC),(vs aD)]),(vp<|some cap1),(vp<|some cap2)] w0<|XH K:=
 dv func233 h<|nh 0<|ah<|ld 2<|lh 1 0 [1]<|il 0 call231<|br 0 7 (rr 3)<|ld 1<|il 1 call234<|rr 4
def VT(p:Option Addr)(i1:Int)(c:World)(K:Int->Int->Int->Int->ByteArray->Int->Int->Bool->WP):Prop:=∀a d,af c ar c a d->cl 231 #[(vp p),(vi i1)] d fun e b=>∃r1 r2,e=.returned (.tuple #[(vi r1),(vb r2)])/\aj a d b/\Br (!r2) (∀i,af c a b a i->K 0 0 0 0 ⟨#[]⟩ 0 0 false i) (∃a1,p=some a1/\lp b a1 fun q=>cl 109 #[(vp q),(vi r1)] b fun e n=>∃m h o g f j l r3,e=.returned (.tuple #[(Ac m h o g f j l),(vb r3)])/\aj a b n/\∀k,af c a n a k->K m h o g f j l r3 k)
def U8(c1 i1 w0 K)(h:VT c1 i1 w0 K):
  cl 289 #[(vp c1),(vi i1)] w0<|fun e w'=>∃f d i a c g j b,e=.returned (.tuple #[(Ac f d i a c g j),(vb b)])/\K f d i a c g j b w':=
 dv func289 h<|nh 0<|ah<|il 3 call231<|br 0 7 (sg 2 0 []<|an<|dx 1<|oe 0 [] 7<|dy)<|nc 2<|ld 1<|cc 1 call109<|cf<|dt<|rt<|ie<|sg 2 0 []<|an<|dx 1<|oe 0 [] 7<|dy
def jbD(q:Option Addr)(u o:Int)(r t:Int)(s:ByteArray)(a:Bool)(f:World)(K:Int->Int->WP):Prop:=∀d h,af f ar f d h->cl 289 #[(vp q),(vi o)] h fun e g=>∃i l p m n j k r1,e=.returned (.tuple #[(Ac i l p m n j k),(vb r1)])/\aj d h g/\Br ((!r1) ||(i !=4)) (∀c b,af f d g c b->K 0 90 b) (Br a (∀c b,af f d g c b->K k 0 b)<|∀c b,af f d g c b->K j 0 b)
def jcE(c1 aE aA aB aC aD second1 w0 K)(h:jbD c1 aE aA aB aC aD second1 w0 K):
  cl 236 #[(vp c1),(.agg #[(vi aE),(vi aA),(vi aB),(vu aC),(vs aD)]),(vb second1)] w0<|XH K:=
 dv func236 h<|nh 0<|lh 4 0 [1]<|ah<|cc 0 call289<|cf<|fun {c}=>dt<|fun {_ r1}=>rt<|ie<|nh 3<|sg 0 0 []<|pj 1 0 [] [2,8] (fun b=>[(17,(vb<|(!r1) ||(c !=4)))]) (fun d=>ct 3 4<|pj 0 0 [(!r1)] [2,8] (fun b=>[(24,(vb<|(b 0) ||(c !=4)))]) (fun a=>pb 1 0 0 a (fun a=>pe 4 0 a)<|fun a=>lh 1 0 []<|pe 2 0 a)<|pe 1 0 d)<|br 0 0 (ah<|rr 3)<|br 0 3 (lh 2 0 [6]<|ah<|rr 2)<|lh 2 0 [5]<|ah<|rr 2
def VM(i k:Int)(j g:Int)(h:ByteArray)(a:Addr)(c:World)(K:Int->Int->WP):Prop:=∀d b,af c ar c d b->lp b a fun f=>cl 236 #[(vp f),(.agg #[(vi i),(vi k),(vi j),(vu g),(vs h)]),(vb false)] b<|XH fun r1 r2 e=>aj d b e/\K r1 r2 e
def jcP(aE aA aB aC aD cap1 w0 K)(h:VM aE aA aB aC aD cap1 w0 K):
  cl 235 #[(.agg #[(vi aE),(vi aA),(vi aB),(vu aC),(vs aD)]),(vp<|some cap1)] w0<|XH K:=
 dv func235 h<|nh 0<|ah<|ld 2<|ij 0 0 [] 5<|il 0 call236<|rr 4
def jam(i k:Int)(j g:Int)(h:ByteArray)(a:Addr)(c:World)(K:Int->Int->WP):Prop:=∀d b,af c ar c d b->lp b a fun f=>cl 236 #[(vp f),(.agg #[(vi i),(vi k),(vi j),(vu g),(vs h)]),(vb true)] b<|XH fun r1 r2 e=>aj d b e/\K r1 r2 e
def jcZ(aE aA aB aC aD cap1 w0 K)(h:jam aE aA aB aC aD cap1 w0 K):
  cl 237 #[(.agg #[(vi aE),(vi aA),(vi aB),(vu aC),(vs aD)]),(vp<|some cap1)] w0<|XH K:=
 dv func237 h<|nh 0<|ah<|ld 2<|ij 0 0 [] 5<|il 0 call236<|rr 4
def RW(p:Option Addr)(t n:Int)(q s:Int)(r:ByteArray)(d:World)(K:Int->Int->WP):Prop:=∀c h,af d ar d c h->cl 289 #[(vp p),(vi n)] h fun e g=>∃b j o k l i m r1,e=.returned (.tuple #[(Ac b j o k l i m),(vb r1)])/\aj c h g/\Br ((!r1) ||(((b !=7)&&(b !=8))&&(b !=9))) (∀f a,af d c g f a->K 0 90 a) (∀f a,af d c g f a->K i 0 a)
def jca(c1 aE aA aB aC aD w0 K)(h:RW c1 aE aA aB aC aD w0 K):
  cl 238 #[(vp c1),(.agg #[(vi aE),(vi aA),(vi aB),(vu aC),(vs aD)])] w0<|XH K:=
 dv func238 h<|nh 0<|lh 4 0 [1]<|ah<|cc 0 call289<|cf<|fun {a}=>dt<|fun {_ r1}=>rt<|ie<|nh 3<|sg 0 0 []<|pj 1 0 [(!r1)] [6] (fun b=>[(31,(vb<|(b 0) ||(((a !=7)&&(a !=8))&&(a !=9))))]) (fun d=>pb 1 3 0 d (fun d=>pe 14 0 d)<|fun d=>lh 1 0 []<|ct 2 4<|pj 0 0 [(a !=7)] [6,17] (fun b=>[(25,(vb<|(b 0)&&(a !=8)))]) (fun e=>pb 1 0 0 e (fun e=>lh 1 0 []<|pe 2 0 e)<|fun e=>pe 4 0 e)<|ct 1 4<|pj 0 0 [((a !=7)&&(a !=8))] [6,17] (fun b=>[(30,(vb<|(b 0)&&(a !=9)))]) (fun c=>pb 1 0 0 c (fun c=>lh 1 0 []<|pe 2 0 c)<|fun c=>pe 4 0 c)<|pe 1 0 d)<|br 0 0 (ah<|rr 3)<|lh 2 0 [5]<|ah<|rr 2
def UA(p:Option Addr)(C y:Int)(s B:Int)(A:ByteArray)(f:Value)(h:World)(K:Int->Int->WP):Prop:=∀c l,af h ar h c l->cl 231 #[(vp p),(vi y)] l fun e k=>∃r1 r2,e=.returned (.tuple #[(vi r1),(vb r2)])/\aj c l k/\cl 289 #[(vp p),(vi s)] k fun e j=>∃n m z t u v x r3,e=.returned (.tuple #[(Ac n m z t u v x),(vb r3)])/\aj c k j/\Br (((!r2) ||(!r3)) ||(n !=6)) (∀g a,af h c j g a->K 0 90 a) (∃(i:FuncId) (d b:Array Value),f=.func (.func i) d b/\∀g a,af h c j g a->(∀args w,(callFunc i args).run prog w=.ok (.enter i args) w)/\Calls prog i (d++#[(vi m),(vi r1)]++b) a (XH fun q r o=>aj g a o/\K q r o))
def S5(c1 aE aA aB aC aD how1 w0 K)(h:UA c1 aE aA aB aC aD how1 w0 K):
  cl 240 #[(vp c1),(.agg #[(vi aE),(vi aA),(vi aB),(vu aC),(vs aD)]),how1] w0<|XH K:=
 dv func240 h<|nh 0<|lh 4 0 [1]<|ah<|il 0 call231<|fun {_ r2}=>lh 7 0 [2]<|cc 0 call289<|cf<|fun {e}=>dt<|fun {_ r3}=>rt<|ie<|nh 3<|sg 0 0 []<|pj 1 0 [((!r2) ||(!r3))] [2,8,10] (fun b=>[(36,(vb<|(b 0) ||(e !=6)))]) (fun c=>ct 3 3<|pj 0 0 [(!r2)] [2,8,10] (fun b=>[(31,(vb<|(b 0) ||(!r3)))]) (fun a=>pb 1 0 0 a (fun a=>pe 3 0 a)<|fun a=>pe 3 0 a)<|pb 1 1 0 c (fun c=>pe 4 0 c)<|fun c=>lh 1 0 []<|pe 2 0 c)<|br 0 0 (ah<|rr 3)<|lh 3 0 [1]<|fo<|fun d=>ah<|cv 1 d<|dt<|rt<|ie<|rr 4
def Ss(k m:Int)(l i:Int)(j:ByteArray)(c b:Addr)(d:World)(K:Int->Int->WP):Prop:=∀e a,af d ar d e a->lp a c fun h=>lp a b fun g=>cl 240 #[(vp h),(.agg #[(vi k),(vi m),(vi l),(vu i),(vs j)]),(.func (.func 241) #[(vp g)] #[])] a<|XH fun r1 r2 f=>aj e a f/\K r1 r2 f
def Wv(aE aA aB aC aD cap1 cap2 w0 K)(h:Ss aE aA aB aC aD cap1 cap2 w0 K):
  cl 239 #[(.agg #[(vi aE),(vi aA),(vi aB),(vu aC),(vs aD)]),(vp<|some cap1),(vp<|some cap2)] w0<|XH K:=
 dv func239 h<|nh 0<|ah<|ld 2<|ij 0 0 [] 5<|ld 0<|il 1 call240<|rr 4
def jbx(n p:Int)(o k:Int)(m:ByteArray)(b a:Addr)(j:World)(K:Int->Int->WP):Prop:=∀d c,au j (.cells #[(vi n),(vi p),(vi o),(vu k),(vs m)] 88) d c->lp c b fun l=>∃g f i e h,Row c d [(vi g),(vi f),(vi i),(vu e),(vs h)]/\cl 240 #[(vp l),(.agg #[(vi g),(vi f),(vi i),(vu e),(vs h)]),(.func (.func 243) #[] #[(vp<|some a),(vp<|some d)])] c (XH K)
def Ta(aE aA aB aC aD cap1 cap2 w0 K)(h:jbx aE aA aB aC aD cap1 cap2 w0 K):
  cl 242 #[(.agg #[(vi aE),(vi aA),(vi aB),(vu aC),(vs aD)]),(vp<|some cap1),(vp<|some cap2)] w0<|XH K:=
 cy func242 h<|cd 0<|ld 2<|gw<|lr 0<|kz 1 call240<|rr 4
def IW(n1:Int):Int:=(cond (decide (n1>2147483648)) (-1)<|q6.wrap n1)
def Qk(n1:Int)(c:World):cl 245 #[(.int .u64 n1)] c (fun e w'=>e=.returned (.int .i64<|IW n1)/\Pure c w'):=
 jr func245 [(decide (n1>2147483648))] (fun b=>(vi<|cond (b 0) (-1)<|q6.wrap n1)) fun a=>pb 0 3 0 a (fun a=>ff 2 a)<|fun a=>ff 4 a
def Lw(b a1:Int)(d c:Addr)(k:World)(K:Int->Int->WP):Prop:=∃a:WP,a k.drew/\∀g,g=k.drew->∃j,(∀w',a w'->w'.cell? d=some (vp j))/\∃i,(∀w',a w'->w'.cell? (c.add 3)=some (vu i))/\cl 245 #[(vu i)] g fun e f=>∃r1,e=.returned (vi r1)/\a f/\aj ar g f/\cl 244 #[(vp j),(vi b),(vi r1),(vi a1)] f (XH fun r2 r3 h=>a h/\aj ar f h/\K r2 r3 h)
def ZW(who1 a1 cap1 cap2 w0 K)(h:Lw who1 a1 cap1 cap2 w0 K):
  cl 243 #[(vi who1),(vi a1),(vp<|some cap1),(vp<|some cap2)] w0<|XH K:=
 dv func243 h<|dC 2 [4,6] []<|ik 0<|ik 2<|kr 1 call245<|xh 0 call244<|rr 4
def Zf(n p:Int)(o k:Int)(m:ByteArray)(b a:Addr)(j:World)(K:Int->Int->WP):Prop:=∀d c,au j (.cells #[(vi n),(vi p),(vi o),(vu k),(vs m)] 88) d c->lp c b fun l=>∃g f i e h,Row c d [(vi g),(vi f),(vi i),(vu e),(vs h)]/\cl 240 #[(vp l),(.agg #[(vi g),(vi f),(vi i),(vu e),(vs h)]),(.func (.func 247) #[] #[(vp<|some a),(vp<|some d)])] c (XH K)
def TF(aE aA aB aC aD cap1 cap2 w0 K)(h:Zf aE aA aB aC aD cap1 cap2 w0 K):
  cl 246 #[(.agg #[(vi aE),(vi aA),(vi aB),(vu aC),(vs aD)]),(vp<|some cap1),(vp<|some cap2)] w0<|XH K:=
 cy func246 h<|cd 0<|ld 2<|gw<|lr 0<|kz 1 call240<|rr 4
def Qq(b a1:Int)(d c:Addr)(k:World)(K:Int->Int->WP):Prop:=∃a:WP,a k.drew/\∀g,g=k.drew->∃j,(∀w',a w'->w'.cell? d=some (vp j))/\∃i,(∀w',a w'->w'.cell? (c.add 3)=some (vu i))/\cl 245 #[(vu i)] g fun e f=>∃r1,e=.returned (vi r1)/\a f/\aj ar g f/\cl 248 #[(vp j),(vi r1),(vi b),(vi a1)] f (XH fun r2 r3 h=>a h/\aj ar f h/\K r2 r3 h)
def jbk(who1 a1 cap1 cap2 w0 K)(h:Qq who1 a1 cap1 cap2 w0 K):
  cl 247 #[(vi who1),(vi a1),(vp<|some cap1),(vp<|some cap2)] w0<|XH K:=
 dv func247 h<|dC 2 [3,6] []<|ik 0<|ik 1<|kr 2 call245<|xh 0 call248<|rr 4
end Go.Proofs
end
section
open Go Go.SE List
namespace Go.Proofs
open Tryz
attribute [local irreducible] Calls
abbrev po(p:Addr)(F:NP)(w:World)(R:pU)(e:Ending)(w':World):Prop:=
 ∃r1:Int,∃r2:Int,e=.returned (.tuple #[vi r1,vi r2])/\((r1,r2)=(R.1,R.2.1)/\∃F',zD w' p R.2.2 F'/\ab F w w'/\∀b,F' b->F b\/w.heap.size<=b)
section
variable (p:Addr) (w0:World) {L:av} {F:NP} (hP:zD w0 p L F) (hok:Ok L)
include hP hok
def jan(n t a):cl 244 #[vp<|some p,vi n,vi t,vi a] w0 (ud p L F w0 ⟨8,n,t,0,⟨#[]⟩,a,0⟩):=by
 refine Ux _ _ _ _ w0 (fun r1 r2 w'=>(r1,r2)=((ax L ⟨8,n,t,0,⟨#[]⟩,a,0⟩).1,(ax L ⟨8,n,t,0,⟨#[]⟩,a,0⟩).2.1)/\∃F',zD w' p (ax L ⟨8,n,t,0,⟨#[]⟩,a,0⟩).2.2 F'/\ab F w0 w'/\∀b,F' b->F b\/w0.heap.size<=b) ?_;refine(rY p _ _ _ _ _ _ _ w0 hP hok).mono ?_;rintro _ c ⟨r1,r2,rfl,h⟩;exact⟨r1,r2,rfl,h⟩
def Uv(n t a):cl 248 #[vp<|some p,vi n,vi t,vi a] w0 (ud p L F w0 ⟨9,n,t,0,⟨#[]⟩,a,0⟩):=by
 refine Zv _ _ _ _ w0 (fun r1 r2 w'=>(r1,r2)=((ax L ⟨9,n,t,0,⟨#[]⟩,a,0⟩).1,(ax L ⟨9,n,t,0,⟨#[]⟩,a,0⟩).2.1)/\∃F',zD w' p (ax L ⟨9,n,t,0,⟨#[]⟩,a,0⟩).2.2 F'/\ab F w0 w'/\∀b,F' b->F b\/w0.heap.size<=b) ?_;refine(rY p _ _ _ _ _ _ _ w0 hP hok).mono ?_;rintro _ c ⟨r1,r2,rfl,h⟩;exact⟨r1,r2,rfl,h⟩
def Rh(x):cl 229 #[vp<|some p,vs x] w0 (ud p L F w0 ⟨3,0,0,0,x,0,0⟩):=by
 refine jcT _ _ w0 (fun r1 r2 w'=>(r1,r2)=((ax L ⟨3,0,0,0,x,0,0⟩).1,(ax L ⟨3,0,0,0,x,0,0⟩).2.1)/\∃F',zD w' p (ax L ⟨3,0,0,0,x,0,0⟩).2.2 F'/\ab F w0 w'/\∀b,F' b->F b\/w0.heap.size<=b) ?_;refine(rY p _ _ _ _ _ _ _ w0 hP hok).mono ?_;rintro _ a ⟨r1,r2,rfl,h⟩;exact⟨r1,r2,rfl,h⟩
end
def pn(o:Op):List Value:=[vi o.code,vi o.a,vi o.b,vu o.num,vs o.ba]
def pa(o:Op):Value:=.agg #[vi o.code,vi o.a,vi o.b,vu o.num,vs o.ba]
structure rD(w:World)(c p:Addr)(sg sm:Sl)(G M:List Int):Prop where
 box:ai w c [vp<|some p,sg.v,sm.v] 241
 jo:bf w 73 1 sg (bz G)
 ou:bf w 73 1 sm (bz M)
def Il(c:Addr)(sg sm:Sl)(b:Nat):Prop:=b=c.block\/sg.ao b\/sm.ao b
section
variable {w w':World} {c p:Addr} {sg sm:Sl} {G M:List Int}
def rD.ext{X}(h:rD w c p sg sm G M)(a:ab X w w')(d:∀b,Il c sg sm b->¬X b):rD w' c p sg sm G M:=
 ⟨h.box.ext a<|d _<|.inl rfl,h.jo.ext a fun b e=>d _<|.inr<|.inl e,h.ou.ext a fun b e=>d _<|.inr<|.inr e⟩
def rD.pure(h:rD w c p sg sm G M)(a:Pure w w'):rD w' c p sg sm G M:=h.ext a fun _ _ h=>h
def rD.lt(h:rD w c p sg sm G M){b}(a:Il c sg sm b):b<w.heap.size:=by
 rcases a with rfl|a|a;exact h.box.lt;exact h.jo.lt a;exact h.ou.lt a
end
def AU{w e s ts}(h:bf w e 1 s (bz ts)){i t}(hi:ej ts i=some t):∃a,At s i 1 a/\w.cell? a=some (vi t):=by
 obtain⟨b,h1,rfl⟩:=EM hi;have⟨a,h2,h3,_⟩:=h.at b (by simpa[bz]using h1);exact⟨a,h2,Ap<|by simpa[bz]using h3⟩
section
variable {w0:World} {c p:Addr} {sg sm:Sl} {G M:List Int} (hC:rD w0 c p sg sm G M)
include hC
def CI(i):cl 231 #[vp<|some c,vi i] w0 (XE fun r ok w'=>(match ej M i with|none=>r=0/\ok=false|some t=>r=t/\ok=true)/\w'=w0):=by
 refine jck _ _ w0 (fun r ok w'=>(match ej M i with|none=>r=0/\ok=false|some t=>r=t/\ok=true)/\w'=w0) ?_;unfold Kj;have f:sm.len=M.length:=by rw[hC.ou.len,vA]
 refine⟨fun h=>?_,fun h=>?_⟩;rw[uw<|.inl<|of_decide_eq_true h];exact⟨⟨rfl,rfl⟩,rfl⟩;have h:=of_decide_eq_false h;refine⟨c,rfl,sm,hC.box.cell rfl,fun h1=>?_,fun h1=>?_⟩;rw[uw<|.inr Gd];exact⟨⟨rfl,rfl⟩,rfl⟩;have h1:=of_decide_eq_false h1;have e:ej M i=some (M[i.toNat]' Om):=uh Om Om;have⟨a,b,d⟩:=AU hC.ou e;refine⟨c,rfl,sm,hC.box.cell rfl,a,b,_,d,?_⟩;rw[e];exact⟨⟨rfl,rfl⟩,rfl⟩
variable {L:av} {F:NP} (hP:zD w0 p L F) (hok:Ok L)
include hP hok
def HE(i):cl 289 #[vp<|some c,vi i] w0
  (XL fun k f l u x a b r w'=>((⟨k,f,l,u,x,a,b⟩:df)=el L M i/\(r=false->el L M i=xC))/\Pure w0 w'):=by
 refine U8 _ _ w0 _ ?_
 intro n q g
 have d:=g.first
 refine(CI (hC.pure d) i).mono ?_
 rintro _ _ ⟨r,ok,rfl,hr,rfl⟩
 refine⟨_,_,rfl,aj.refl _,?_⟩
 unfold el
 cases ht:ej M i with
 |none =>
  rw[ht]at hr;obtain⟨rfl,rfl⟩:=hr
  exact Br.t rfl fun s e=>⟨⟨rfl,fun _=>rfl⟩,d.aq e⟩
 |some t =>
  rw[ht]at hr;obtain⟨rfl,rfl⟩:=hr
  refine Br.f rfl ⟨c,rfl,some p,(hC.pure d).box.bd,?_⟩
  refine(tz p r _ (hP.pure d) hok).mono ?_
  rintro _ w ⟨k,f,l,u,x,a,b,o,rfl,⟨h1,h2⟩,j⟩
  refine⟨_,_,_,_,_,_,_,_,rfl,j.bo,fun v h=>⟨⟨h1,fun m=>?_⟩,(d.trans j).aq h⟩⟩
  exact Of<|h2.symm.trans m
def Qh(o s):cl 236 #[vp<|some c,pa o,vb s] w0 (po p F w0<|yB L M o s):=by
 have⟨e,oa,l,on,g⟩:=o;refine jcE _ _ _ _ _ _ _ w0 (fun r1 r2 w'=>(r1,r2)=((yB L M ⟨e,oa,l,on,g⟩ s).1,(yB L M ⟨e,oa,l,on,g⟩ s).2.1)/\∃F',zD w' p (yB L M ⟨e,oa,l,on,g⟩ s).2.2 F'/\ab F w0 w'/\∀b,F' b->F b\/w0.heap.size<=b) ?_;intro q B i;have j:=i.first;refine(HE (hC.pure j) (hP.pure j) hok oa).mono ?_;rintro _ v ⟨k,f,A,u,x,a,b,r,rfl,⟨y,hr⟩,n⟩;refine⟨_,_,_,_,_,_,_,_,rfl,n.bo,?_⟩;have d:∀{H' w'},af w0 q v H' w'->∃F',zD w' p L F'/\ab F w0 w'/\∀b,F' b->F b\/w0.heap.size<=b:=fun hs=>by
  have E:=(j.trans n).aq hs;exact⟨F,hP.pure E,E.pure,fun b z=>.inl z⟩
 unfold yB;simp only;rw[<-y]at hr|-;refine⟨fun h=>fun H w hs=>?_,fun h=>?_⟩
 .rw[if_neg]
  .exact⟨rfl,d hs⟩
  .intro m;simp only at m;subst m;have:r=false:=by simpa using h
   have:=hr this;simp[xC]at this
 .have t:k=4:=Gd;rw[if_pos t];refine⟨fun h=>?_,fun h=>?_⟩<;>subst h<;>exact fun H w hs=>⟨rfl,d hs⟩
def jRF(o):cl 238 #[vp<|some c,pa o] w0 (po p F w0<|xI L M o):=by
 have⟨j,oa,m,on,s⟩:=o;refine jca _ _ _ _ _ _ w0 (fun r1 r2 w'=>(r1,r2)=((xI L M ⟨j,oa,m,on,s⟩).1,(xI L M ⟨j,oa,m,on,s⟩).2.1)/\∃F',zD w' p (xI L M ⟨j,oa,m,on,s⟩).2.2 F'/\ab F w0 w'/\∀b,F' b->F b\/w0.heap.size<=b) ?_;intro C K l;have q:=l.first;refine(HE (hC.pure q) (hP.pure q) hok oa).mono ?_;rintro _ D ⟨k,f,J,u,x,a,b,r,rfl,⟨y,hr⟩,t⟩;refine⟨_,_,_,_,_,_,_,_,rfl,t.bo,?_⟩;have e:∀{H' w'},af w0 C D H' w'->∃F',zD w' p L F'/\ab F w0 w'/\∀b,F' b->F b\/w0.heap.size<=b:=fun hs=>by
  have E:=(q.trans t).aq hs;exact⟨F,hP.pure E,E.pure,fun b I=>.inl I⟩
 unfold xI;simp only;rw[<-y]at hr|-;have g:qP k=!((((k:Int) !=7)&&((k:Int) !=8))&&((k:Int) !=9)):=by
  unfold qP;by_cases B:k=7<;>by_cases z:k=8<;>by_cases G:k=9<;>simp[bne,B,z,G]
 refine⟨fun h=>fun H w hs=>?_,fun h=>fun H w hs=>?_⟩
 .rw[if_neg]
  .exact⟨rfl,e hs⟩
  .intro n;simp only at n;rw[g]at n;have d:((((k:Int) !=7)&&((k:Int) !=8))&&((k:Int) !=9))=false:=by simpa only[Bool.not_eq_true']using n
   rw[d,Bool.or_false]at h;have i:r=false:=by simpa using h
   have v:=hr i;simp only[xC,df.mk.injEq]at v;rw[v.1]at d;revert d;decide
 .have A : qP k = true:=by
   rw[Bool.or_eq_false_iff]at h;rw[g,h.2];rfl
  rw[if_pos A];exact⟨rfl,e hs⟩
def GS(o f1 fs cs)(mk:Int->Int->df)(O:∀args w,(callFunc f1 args).run prog w=.ok (.enter f1 args) w)(v:∀(k a:Int) (j:World),Pure w0 j->Calls prog f1 (fs++#[vi k,vi a]++cs) j (ud p L F j<|mk k a)):
  cl 240 #[vp<|some c,pa o,.func (.func f1) fs cs] w0<|po p F w0<|vQ L M o mk:=by
 have⟨P,oa,K,on,S⟩:=o
 refine S5 _ _ _ _ _ _ _ w0 _ ?_
 intro G j s
 have i:=s.first
 refine(CI (hC.pure i) oa).mono ?_
 rintro _ _ ⟨D,N,rfl,d,rfl⟩
 refine⟨_,_,rfl,aj.refl _,?_⟩
 refine(HE (hC.pure i) (hP.pure i) hok K).mono ?_
 rintro _ J ⟨k,f,Q,u,x,a,b,r,rfl,⟨B,hr⟩,y⟩
 refine⟨_,_,_,_,_,_,_,_,rfl,y.bo,?_⟩
 have e:∀{H' w'},af w0 G J H' w'->∃F',zD w' p L F'/\ab F w0 w'/\∀b,F' b->F b\/w0.heap.size<=b:=fun hs=>by
  have E:=(i.trans y).aq hs;exact⟨F,hP.pure E,E.pure,fun b g=>.inl g⟩
 unfold vQ
 simp only
 rw[<-B]at hr|-
 have m:k=6->r=true:=fun q=>by
  cases r with
  |true=>rfl
  |false=>have:=hr rfl;simp only[xC,df.mk.injEq]at this;omega
 cases ht:ej M oa with
 |none =>
  rw[ht]at d;obtain⟨rfl,rfl⟩:=d
  exact Br.t Sm fun H w hs=>⟨rfl,e hs⟩
 |some t =>
  rw[ht]at d;obtain⟨rfl,rfl⟩:=d
  simp only
  refine⟨fun h=>fun H w hs=>?_,fun h=>?_⟩
  .rw[if_neg]
   .exact⟨rfl,e hs⟩
   .intro q
    rw[m q,q]at h
    revert h;decide
  .have C:k=6:=Gd
   rw[if_pos C]
   refine⟨f1,fs,cs,rfl,fun H w hs=>⟨O,?_⟩⟩
   have E:=(i.trans y).aq hs
   refine(v f D w E).mono ?_
   rintro _ R ⟨z,A,rfl,h1,F',l,X,n⟩
   exact⟨z,A,rfl,X.bl fun b g I=>Oi (hs.old b g)<|hP.lt I,h1,F',l,(E.pure (F:=F)).trans X,fun b g=>(n b g).imp_right fun h=>Oh E.size⟩
end
end Go.Proofs
end
section
open Go Go.SE
namespace Go.Proofs
open Tryz
attribute [local irreducible] Calls
def tE(t:bt)(s:Sl):List Value:=[vi t.node.kind,vi t.node.ay,vi t.node.to,vu t.node.num,vs t.node.ba,s.v]
inductive cr(S:NP)(w:World):Sl->bt->Prop
 | mk (k f t u : Int) (x : ByteArray) (ks : List bt) (s : Sl) (rs : Nat -> Sl) (len : s.len = ks.length) (b : ks.length <= 9223372036854775807)
   (row:∀i (h:i<ks.length),∃a,At s i 6 a/\S a.block/\Row w a (tE ks[i]<|rs i)) (fl:∀i (h:i<ks.length),cr S w (rs i) ks[i]):cr S w s (.mk k f t u x ks)
def cr.ext{S F w w' s t}(h:cr S w s t)(d:ab F w w')(e:∀b,S b->¬F b):cr S w' s t:=by
 induction h with
 |mk k f t u x ks s rs len c row fl g =>
  exact .mk k f t u x ks s rs len c (fun i h=>let ⟨a,h1,h2,h3⟩:=row i h;⟨a,h1,h2,d.row h3<|e _ h2⟩) g
def cr.pure{S w w' s t}(h:cr S w s t)(a:Pure w w'):cr S w' s t:=h.ext a fun _ _ h=>h
def cr.mono{S S' w s t}(h:cr S w s t)(d:∀b,S b->S' b):cr S' w s t:=by
 induction h with
 |mk k f t u x ks s rs len a row fl c =>
  exact .mk k f t u x ks s rs len a Gd c
def cr.lt{S w s t}(h:cr S w s t):cr (fun b=>S b/\b<w.heap.size) w s t:=by
 induction h with
 |mk k f t u x ks s rs len c row fl e =>
  refine .mk k f t u x ks s rs len c (fun i h=>let ⟨a,h1,h2,h3⟩:=row i h;⟨a,h1,⟨h2,?_⟩,h3⟩) e
  have:=h3 0 (by simp[tE])
  unfold World.cell? at this
  refine Classical.byContradiction fun d=>?_
  have:w.heap[(a.add 0).block]?=none:=by rw[zC];exact Array.getElem?_eq_none Om
  simp_all[tE]
def KW(k f t u:Int)(x:ByteArray)(s:Sl)(w:World):
  cl 175 #[.agg #[vi k,vi f,vi t,vu u,vs x,s.v]] w
   (XN fun k' h d i g a b w'=>(⟨k',h,d,i,g,a,b⟩:df)=⟨k,f,t,u,x,0,0⟩/\Pure w w'):=by
 refine UF _ _ _ _ _ _ w _ ?_
 intro l e h1 j m h2
 have c:Pure w e:=ab.aw h1
 have b1:=(ai.bh h1).pure<|ab.aw h2
 refine⟨_,b1.bd,_,b1.cell rfl,_,b1.cell rfl,_,b1.cell rfl,_,b1.cell rfl,?_⟩
 exact bx 7 (ai.bh h2) rfl rfl fun w' b E=>⟨_,_,_,_,_,_,_,b.row,rfl,(c.trans<|ab.aw h2).ak (au.ak c h2) E⟩
def Kl(t):∀i n:Int,0<=n->0<=(qM i n t).2:=by
 induction t using bt.ind with
 |h k f t u x ks b =>
  have:∀(ks:List bt),(∀i (hi:i<ks.length),∀j n:Int,0<=n->0<=(qM j n ks[i]).2)->∀i e n:Int,0<=n->0<=(vK i e n ks).2:=by
   intro ks;induction ks with
   |nil=>intro _ i e n h;simpa[vK]using h
   |cons t ts a =>
    intro hh i e n h
    unfold vK
    split
    exact a (fun i hi=>hh (i+1)<|by simpa using hi) _ _ _ (hh 0 Sm i n h)
    exact h
  intro i n h
  unfold qM
  split
  exact h
  grind
def OZ{ks:List bt}{j:Nat}(a:j<ks.length)(i n:Int):vK i 0 n (ks.drop j)=vK i (qM i n ks[j]).1 (qM i n ks[j]).2 (ks.drop<|j+1):=by
 rw[List.drop_eq_getElem_cons a,vK,if_pos rfl]
def L9{ks e}(h:e≠0)(i n):vK i e n ks=(e,n):=by
 cases ks<;>simp[vK,h]
def zIK{S:NP}(q:Addr)(hq:¬ S q.block)(T:TypeId)(t:bt):∀(s:Sl) (c seen:Int) (w:World),0<=c->0<=seen->cr S w s t->ai w q [vi seen] T ->
  cl 124 #[.agg (tE t s).toArray,vi c,vp<|some q] w
   (XB fun r w'=>r=(qM c seen t).1/\ai w' q [vi (qM c seen t).2] T/\ab (·=q.block) w w'):=by
 induction t using bt.ind with
 |h k f t u x ks ih =>
 intro s c seen w hi0 hn0 hT hB
 suffices key:∀K:Int->WP,(∀r w',(r=(qM c seen<|.mk k f t u x ks).1/\ai w' q [vi (qM c seen<|.mk k f t u x ks).2] T/\ab (·=q.block) w w')->K r w')->Me k f t u x s c (some q) w K from
  w_L _ _ _ _ _ _ _ _ w _<|key _ fun _ _ h=>h
 intro K B
 intro p1 w1 h1
 have b1:=ai.bh h1
 have M:Pure w w1:=ab.aw h1
 have n1:q.block≠p1.block:=au.ne h1 hB.ao
 have l:=hB.pure M
 have I:=hT.pure M
 refine⟨q,rfl,seen,l.bd,fun h=>?_,fun h=>⟨fun Q=>?_,fun Q=>?_⟩⟩
 .have h:=of_decide_eq_true h
  have:qM c seen (.mk k f t u x ks)=(52,seen):=by rw[qM,if_pos Om]
  rw[this]at B;exact B _ _ ⟨rfl,l,M.pure⟩
 .have h:=of_decide_eq_false h;have Q:=of_decide_eq_true Q
  have:qM c seen (.mk k f t u x ks)=(52,seen):=by rw[qM,if_neg Om,if_pos Om]
  rw[this]at B;exact B _ _ ⟨rfl,l,M.pure⟩
 have h:=of_decide_eq_false h;have Q:=of_decide_eq_false Q
 have hsp:qM c seen (.mk k f t u x ks)=vK (c+1) (yT ⟨k,f,t,u,x,0,0⟩ ks.length) (seen+1) ks:=by rw[qM,if_neg Om,if_neg Om]
 rw[hsp]at B
 refine⟨q,rfl,seen,l.bd,q,rfl,l.ia Sm,?_⟩
 rw[i64 (n:=seen+1) Om Om]
 intro A D
 have hB2:ai A q [vi<|seen+1] T:=by rw[D];exact l.jb
 have y:ab (·=q.block) w1 A:=by rw[D];exact ab.setCell q _
 clear D
 have b2:=b1.ext y fun e=>n1 e.symm
 have P:=I.ext y fun b hb e=>hq<|e▸hb
 have E2:ab (·=q.block) w A:=M.pure.trans y
 refine⟨_,_,_,_,_,_,b2.row,?_⟩
 refine(KW _ _ _ _ _ _ A).mono ?_
 rintro _ w3 ⟨k',f',t',u',x',a',b',rfl,Y,z⟩
 cases Y
 refine⟨_,_,_,_,_,_,_,rfl,?_⟩
 intro p2 w4 O
 have n2:p1.block≠p2.block:=au.ne O (b2.pure z).ao
 have R:Pure A w4:=z.trans<|ab.aw O
 have o2:=au.ak z O
 refine bx 7 (ai.bh O) rfl rfl fun w5 W J=>?_
 have F:Pure A w5:=R.ak o2 J
 refine⟨_,_,_,_,_,_,_,W.row,?_⟩
 refine(Py _ _ _ _ _ _ _ w5).mono ?_
 rintro _ w6 ⟨s1,s2,s3,s4,X,pe,rfl,⟨hs,hpe⟩,p⟩
 refine⟨_,_,_,_,_,_,rfl,?_⟩
 intro p3 w7 H
 have n3:p2.block≠p3.block:=au.ne H (W.pure p).ao
 have L:Pure A w7:=(F.trans p).trans<|ab.aw H
 have o3:=au.ak (F.trans p) H
 refine bx 5 (ai.bh H) rfl rfl fun N c3 G=>?_
 have v:Pure A N:=L.ak o3 G
 have d2:=((W.pure p).pure<|ab.aw H).ext G n3
 have d1:=b2.pure v
 have hB8:=hB2.pure v
 have hT8:=P.pure v
 have E8:ab (·=q.block) w N:=E2.fb v
 clear G L p F J R z y W b2 b1 P I l h1 O H
 have hlen:s.len=ks.length:=by cases hT;assumption
 have hfit:ks.length<=9223372036854775807:=by cases hT;assumption
 have hsh:bk k=⟨s1,s2,s3,s4,X⟩:=hs.symm
 have J3:∀e w',Pure N w'->e=yT ⟨k,f,t,u,x,0,0⟩ ks.length->CL c (some q) p1 e w' K:=by
  intro e w' E d;rw[<-d]at B;refine⟨fun e i w'=>∃j:Nat,i=j/\j<=ks.length/\∃n:Int,0<=n/\ab (·=q.block) N w'/\ai w' q [vi n] T/\vK (c+1) e n (ks.drop j)=vK (c+1) (yT ⟨k,f,t,u,x,0,0⟩ ks.length) (seen+1) ks,fun _ i _=>((ks.length:Int)-i).toNat,⟨0,rfl,Nat.zero_le _,seen+1,Om,E.pure,hB8.pure E,by rw[d];rfl⟩,?_⟩;rintro o _ wl ⟨j,rfl,hj,n,Y,Z,V,m⟩;unfold Ku;have dl:=d1.ext Z fun e=>n1 e.symm;have hTl:=hT8.ext Z fun b hb e=>hq<|e▸hb;rw[<-d]at m;have U:∀n',vK (c+1) e ((seen:Int)+1) ks=(o,n')->n'=n->K o wl:=by
   rintro n' h rfl;refine B _ _ ⟨by rw[h],by rw[h];exact V,E8.trans Z⟩
  refine⟨s,dl.cell rfl,fun g=>⟨fun C=>?_,fun C=>?_⟩,fun g=>?_⟩
  .have g:j<ks.length:=by have h:=of_decide_eq_true g;omega
   have C:o=0:=by simpa using C
   subst C;cases hTl with
   |mk _ _ _ _ _ _ _ rs len fit row fl =>
   have⟨a,hat,ha,hr⟩:=row j g;refine⟨s,dl.cell rfl,a,hat,_,_,_,_,_,rs j,hr,?_⟩;rw[i64 (n:=c+1) Om Om];refine(ih j g (rs j) (c+1) n wl Om Y (fl j g) V).mono ?_;rintro _ w9 ⟨r,rfl,rfl,hB9,E9⟩;rw[OZ g]at m;refine⟨_,rfl,⟨j+1,?_,g,_,Kl _ _ _ Y,Z.trans E9,hB9,by rw[<-d];exact m⟩,?_⟩
   .rw[i64 Om Om];omega
   .show((ks.length:Int)-IntKind.i64.wrap ((j:Int)+1)).toNat<((ks.length:Int)-(j:Int)).toNat;rw[i64 Om Om];omega
  .have C:o≠0:=by simpa using C
   rw[L9 C]at m;exact U _ m.symm rfl
  .have hge:j=ks.length:=by have h:=of_decide_eq_false g;omega
   rw[hge,List.drop_length,vK]at m;exact U _ m.symm rfl
 have J2:∀o,o=(if pe=0 then if(ks.length:Int)≠X then 53 else 0 else pe)->BI c (some q) p1 p2 p3 o N K:=by
  intro o he1;have d:yT ⟨k,f,t,u,x,0,0⟩ ks.length=if o=0 then zR ⟨s1,s2,s3,s4,X⟩ ⟨k,f,t,u,x,0,0⟩else o:=by
   unfold yT;simp only[hsh,<-hpe,he1]
  refine⟨fun h=>⟨_,_,_,_,_,c3.row,_,_,_,_,_,_,_,d2.row,?_⟩,fun h=>J3 _ _ (ab.refl _) ?_⟩
  .have h:o=0:=by simpa using h
   refine(Lg _ _ _ _ _ _ _ _ _ _ _ _ _).mono ?_;rintro _ w9 ⟨_,rfl,rfl,E9⟩;exact⟨_,rfl,J3 _ _ E9<|by rw[d,if_pos h]⟩
  .grind
 refine⟨fun h=>⟨s,d1.cell rfl,X,c3.cell rfl,fun h5=>J2 _ ?_,fun h5=>J2 _ ?_⟩,fun h=>J2 _ ?_⟩
 .grind
 .grind
 .grind
end Go.Proofs
end
section
open Go Go.SE List
namespace Go.Proofs
open Tryz
attribute [local irreducible] Calls
def KB(w):cl 42 #[] w (XD fun r w'=>∃p,r=some p/\Pure w w'/\∃F,zD w' p [] F/\∀b,F b->w.heap.size<=b):=by
 refine jbr w (fun r w'=>∃p,r=some p/\Pure w w'/\∃F,zD w' p [] F/\∀b,F b->w.heap.size<=b) ?_;intro c f h1 d i h2;have g:Pure w f:=ab.aw h1;have j:jn i c.block []:=(jn.bh h1).ext (ab.aw h2:Pure f i) id;have e:c.block≠d.block:=au.ne h2 h1.IJ;refine⟨d,rfl,g.trans<|ab.aw h2,fun b=>b=d.block\/Sl.nil.ao b\/b=c.block,⟨Sl.nil,c.block,⟨ai.bh h2,by simpa using bf.nil _ _ _,by simpa[ig]using j,e,?_,?_⟩,fun _=>Iff.rfl⟩,?_⟩;rintro⟨a,h,_⟩;cases h;rintro⟨a,h,_⟩;cases h;rintro b (rfl|⟨a,h,_⟩|rfl);exact au.ak g h2;cases h;exact au.ak (ab.refl w) h1
def UT(L n):ig (L.take n)=(ig L).take n:=by
 apply ext_getElem?;intro i;simp only[ig,getElem?_map,getElem?_zipIdx,getElem?_take];split<;>simp
def RA(L):(ig L).map (·.1)=(L.map (·.node)).map ly:=by
 apply ext_getElem?;intro i;simp only[ig,getElem?_map,getElem?_zipIdx];cases L[i]?<;>simp
def KV(p:Addr)(n:Nat)(w:World){L:av}{F:NP}(hP:zD w p L F)(H:Ok L)(hn:n<=L.length):
  cl 126 #[vp<|some p,vi n] w<|fun e w'=>e=.returned (.tuple #[])/\zD w' p (L.take n) F/\ab F w w':=by
 suffices key:∀K:WP,(∀w',zD w' p (L.take n) F/\ab F w w'->K w')->HN (some p) n w K from
  jay _ _ w _<|key _ fun _ h=>h
 intro K hK
 unfold HN
 have⟨s,m,hS,hF⟩:=hP
 have hfew:=H.fm
 have I:s.len<=s.cap:=by
  have:=hS.cj.len;rcases hS.cj.ak with⟨rfl,_⟩|⟨g,cur,_,_,hc,_⟩;simp[Sl.nil];omega
 have⟨s1,hr1,T⟩:=hS.cj.ei.lo (P:=prog) Gi I (k:=.i64) (n:=n) Om (by simpa using hn)
 have X:s1.len=L.length-n:=by rw[T.len];simp
 refine⟨p,rfl,s,hS.box.bd,s1,hr1,?_⟩
 refine⟨fun x w'=>∃j:Nat,x=j/\j<=L.length-n/\ab (·=m) w w'/\jn w' m ((ig L).take n++(ig L).drop (n+j)),fun x _=>((L.length:Int)-x).toNat,⟨0,rfl,Nat.zero_le _,ab.refl w,by simpa using hS.map⟩,?_⟩
 rintro _ wl ⟨j,rfl,hj,O,G⟩
 have c:=hS.box.ext O hS.n1.symm
 have l:=hS.cj.ext O fun b V e=>hS.n3<|e▸V
 refine⟨fun h=>?_,fun h=>?_⟩
 have d:n+j<L.length:=by have h:=of_decide_eq_true h;omega
 have hll:=T.ext O fun b V e=>hS.n3<|e▸V
 have⟨a,hat,_,hrow⟩:=hll.at_ j So
 generalize he:L[n+j]=e at *
 have ur:Row wl a (sY e):=Gd
 have⟨nd,sz,dp⟩:=e
 have⟨k,f,t,u,x,a1,b1⟩:=nd
 refine⟨a,hat,_,_,_,_,_,_,_,_,_,ur,?_⟩
 intro p2 w1 h1
 have E1:Pure wl w1:=ab.aw h1
 have o1:=au.ak (ab.refl wl) h1
 refine bx 9 (ai.bh h1) rfl rfl fun N b2 E=>?_
 have E2:Pure wl N:=E1.ak o1 E
 refine⟨fun w'=>w'.cell? (p.add 1)=some (.map<|some m)/\Row w' p2 (tK ⟨k,f,t,u,x,a1,b1⟩),⟨(c.pure<|E2.fb<|ab.drew N).cell (i:=1) rfl,?_⟩,?_⟩
 have:Row N p2 (tK ⟨k,f,t,u,x,a1,b1⟩):=fun i hi=>by
  have:=b2.row i (by simp[tK]at hi|-;omega);rw[this];have h7:i<7:=by simpa[tK]using hi
  have:i=0\/i=1\/i=2\/i=3\/i=4\/i=5\/i=6:=Om;rcases this with rfl|rfl|rfl|rfl|rfl|rfl|rfl<;>rfl
 exact ab.row (F:=ar) (ab.drew N) this id
 intro w3 S
 have E3:Pure wl w3:=by rw[S];exact E2.fb<|ab.drew N
 clear S
 refine⟨p,rfl,some m,fun w' h=>h.1,k,f,t,u,x,a1,b1,fun w' h=>h.2,?_⟩
 have hm3:=G.ext E3 id
 have R:(ig L).length=L.length:=by simp[ig]
 have J:(ig L)[n+j]?=some (ly ⟨k,f,t,u,x,a1,b1⟩,vi (n+j+1:Nat)):=by
  simp only[ig,List.getElem?_map,List.getElem?_zipIdx,List.getElem?_eq_getElem d,he];simp
 have y:((ig L).take n++(ig L).drop (n+j))[n]?=some (ly ⟨k,f,t,u,x,a1,b1⟩,vi (n+j+1:Nat)):=by
  have e0:n+j+(n-((ig L).take n).length)=n+j:=by rw[List.length_take];omega
  rw[List.getElem?_append_right Gd,List.getElem?_drop,e0,J]
 have hnd:((ig L).map (·.1)).Nodup:=by
  rw[RA,List.nodup_iff_pairwise_ne,List.pairwise_map];exact H.pt.imp fun h e=>h<|IX.1 e
 have A:List.Sublist ((ig L).take n++(ig L).drop (n+j)) (ig L):=by
  conv=>rhs;rw[<-List.take_append_drop n (ig L)]
  refine(List.Sublist.refl _).append ?_;have e0:(ig L).drop (n+j)=((ig L).drop n).drop j:=by rw[List.drop_drop]
  rw[e0];exact List.drop_sublist _ _
 have M:(((ig L).take n++(ig L).drop (n+j)).map (·.1)).Nodup:=hnd.sublist<|A.map _
 have⟨w4,hr4,o,E4⟩:=hm3.YS (P:=prog) (Q:=119) (z:=0) underlying157 Dt (fun q hq=>EU q<|A.subset hq) ⟨_,rfl⟩ y (fun i u hi=>by
  have⟨Y,hi2⟩:=List.getElem?_eq_some_iff.1 hi;have⟨hn1,hn2⟩:=List.getElem?_eq_some_iff.1 y;refine Classical.byContradiction fun U=>?_;have U:=List.pairwise_iff_getElem.1 M;rcases Nat.lt_or_gt_of_ne ‹_› with d|d;grind;exact U n i (by simpa using hn1) (by simpa using Y) d Gd)
 refine⟨w4,hr4,⟨j+1,?_,Om,(O.trans E3.pure).trans E4,?_⟩,?_⟩
 rw[i64 Om Om];omega
 rw[List.eraseIdx_append_of_length_le (by rw[List.length_take];omega)]at o
 have:n-((ig L).take n).length=0:=by rw[List.length_take];omega
 rw[this]at o
 have hd:((ig L).drop<|n+j).eraseIdx 0=(ig L).drop (n+(j+1)):=by
  rw[List.drop_eq_getElem_cons Om];simp;rfl
 rw[hd]at o;exact o
 show((L.length:Int)-IntKind.i64.wrap ((j:Int)+1)).toNat<((L.length:Int)-(j:Int)).toNat
 rw[i64 Om Om];omega
 have hge:n+j=L.length:=by have h:=of_decide_eq_false h;omega
 have R:(ig L).length=L.length:=by simp[ig]
 rw[hge,<-R,List.drop_length,List.append_nil]at G
 have⟨s2,W,r,D⟩:=l.hi (P:=prog) Gi (k:=.i64) (n:=n) Om (by simpa using hn)
 refine⟨p,rfl,s,c.bd,s2,W,p,rfl,c.ia Sm,?_⟩
 rintro w5 B
 have C:ai w5 p [s2.v,.map<|some m] 160:=by rw[B];exact c.jb
 have Z:ab (·=p.block) wl w5:=by rw[B];exact ab.setCell p _
 clear B
 refine hK _ ⟨⟨s2,m,⟨C,?_,?_,hS.n1,fun h=>hS.n2<|(D _).1 h,fun h=>hS.n3<|(D _).1 h⟩,fun b=>by rw[hF b,D b]⟩,?_⟩
 have:=r.ext Z fun b V e=>hS.n2 Gd
 simpa using this
 rw[UT];exact G.ext Z hS.n1
 exact(O.mono Gd).cg Z Gd
def Lr{n i L t ts}(h:(grow L t).2.1≠0):zZ n i L (t ::ts)=(0,(grow L t).2.1,(grow L t).2.2):=by rw[zZ,if_pos h]
def Pc{n i L t ts}(h:(grow L t).2.1=0):zZ n i L (t ::ts)=zZ (if i=0 then { n with a:=(grow L t).1 }else { n with b:=(grow L t).1 }) (i+1) (grow L t).2.2 ts:=by rw[zZ,if_neg<|by simp[h]]
def bt.ux(t:bt):Prop:=bt.rec (motive_1:=fun _=>Prop) (motive_2:=fun _=>Prop) (fun _ _ _ _ _ ks h=>ks.length<=2/\h) True (fun _ _ h1 h2=>h1/\h2) t
def AP:List bt->Prop
 |[]=>True
 |t :: ts=>bt.ux t/\AP ts
def GY{k f t u x ks}:bt.ux (.mk k f t u x ks)↔ks.length<=2/\AP ks:=by
 have:∀ks:List bt,(bt.rec_1 (motive_1:=fun _=>Prop) (motive_2:=fun _=>Prop) (fun _ _ _ _ _ ks h=>ks.length<=2/\h) True (fun _ _ h1 h2=>h1/\h2) ks:Prop)=AP ks:=by
  intro ks;induction ks with
  |nil=>rfl
  |cons t ts a=>show(bt.ux t/\_)=(bt.ux t/\_);rw[a]
 show(ks.length<=2/\_)↔_;rw[this]
def Jw{ks}(h:AP ks){i}(hi:i<ks.length):bt.ux ks[i]:=by
 induction ks generalizing i with
 |nil=>simp at hi
 |cons t ts a =>
  cases i with
  |zero=>exact h.1
  |succ i=>exact a h.2 (by simpa using hi)
def Ul{S}(p t):∀(s:Sl) (w:World) (L:av) (F:NP),bt.ux t->cr S w s t->zD w p L F->Ok L->(∀b,F b->¬ S b)->(∀b,S b->b<w.heap.size) ->
  cl 125 #[vp<|some p,.agg (tE t s).toArray] w
   (XH fun r1 r2 w'=>(r1,r2)=((grow L t).1,(grow L t).2.1)/\∃F',zD w' p (grow L t).2.2 F'/\ab F w w'/\∀b,F' b->F b\/w.heap.size<=b):=by
 induction t using bt.ind with
 |h k f t u x ks ih =>
 intro s w L F h2 hT hP hok hFS hSw
 suffices key:∀K:Int->Int->WP,(∀r1 r2 w',((r1,r2)=((grow L<|.mk k f t u x ks).1,(grow L<|.mk k f t u x ks).2.1)/\∃F',zD w' p (grow L<|.mk k f t u x ks).2.2 F'/\ab F w w'/\∀b,F' b->F b\/w.heap.size<=b)->K r1 r2 w')->Ma (some p) k f t u x s w K from
  jbi _ _ _ _ _ _ _ w _<|key _ fun _ _ _ h=>h
 intro K hK
 have⟨hk2,X⟩:=GY.1 h2
 intro p2 w1 h1
 have b1:=ai.bh h1
 have E1:Pure w w1:=ab.aw h1
 refine⟨_,_,_,_,_,_,b1.row,?_⟩
 refine(KW _ _ _ _ _ _ w1).mono ?_
 rintro _ w2 ⟨k',f',t',u',x',a',b',rfl,hn,z⟩
 cases hn
 refine⟨_,_,_,_,_,_,_,rfl,?_⟩
 intro c w3 h3
 have E3:Pure w w3:=(E1.trans z).trans<|ab.aw h3
 have o3:=au.ak (E1.trans z) h3
 have n23:p2.block≠c.block:=au.ne h3 (b1.pure z).ao
 refine bx 7 (ai.bh h3) rfl rfl fun w4 b3 H=>?_
 have E4:Pure w w4:=E3.ak o3 H
 have b2:=((b1.pure z).pure<|ab.aw h3).ext H n23
 intro q w5 D
 have E5:Pure w w5:=E4.trans<|ab.aw D
 have o4:=au.ak E4 D
 have n34:c.block≠q.block:=au.ne D b3.ao
 have c3:=b3.pure (ab.aw D:Pure w4 w5)
 have c4:=ai.bh D
 have c2:=b2.pure (ab.aw D:Pure w4 w5)
 refine⟨s,c2.cell rfl,?_⟩
 have hsp:grow L (.mk k f t u x ks)=zZ ⟨k,f,t,u,x,0,0⟩ 0 L ks:=by rw[grow]
 rw[hsp]at hK
 have hlen:s.len=ks.length:=by cases hT;assumption
 refine⟨fun i w'=>∃j:Nat,i=j/\j<=ks.length/\∃(nd:df) (d:av) (F':NP),zZ ⟨k,f,t,u,x,0,0⟩ 0 L ks=zZ nd j d (ks.drop j)/\Ok d/\zD w' p d F'/\(∀b,F' b->F b\/w.heap.size<=b)/\¬F' c.block/\¬F' q.block/\ab F w w'/\ai w' c (tK nd) 119/\ai w' q [vp<|some<|c.add 5,vp<|some<|c.add 6] 267,fun i _=>((ks.length:Int)-i).toNat,
  ⟨0,rfl,Nat.zero_le _,⟨k,f,t,u,x,0,0⟩,L,F,Sm,hok,hP.pure E5,fun b h=>.inl h,fun h=>Oh<|hP.lt h,fun h=>Oh<|hP.lt h,E5.pure,c3,c4⟩,?_⟩
 rintro _ wl ⟨j,rfl,hj,nd,d,F',g,n,I,C,J,M,P,d3,d4⟩
 refine⟨fun h=>?_,fun h=>?_⟩
 have m:j<ks.length:=by have h:=of_decide_eq_true h;omega
 have hTl:cr S wl s (.mk k f t u x ks):=hT.ext P fun b hs hf=>hFS b hf hs
 have V:∀i (h:i<ks.length),∃a r,At s i 6 a/\Row wl a (tE ks[i] r)/\cr S wl r ks[i]:=by
  cases hTl with
  |mk _ _ _ _ _ _ _ rs len fit row fl=>exact fun i h=>let ⟨a,h1,_,h3⟩:=row i h;⟨a,rs i,h1,h3,fl i h⟩
 have⟨a,r,hat,N,hTk⟩:=V j m
 refine⟨a,hat,_,_,_,_,_,r,N,?_⟩
 intro p5 w6 h6
 have o5:=au.ak (ab.refl wl) h6
 refine bx 6 (ai.bh h6) rfl rfl fun w7 b5 E67=>?_
 have v:Pure wl w7:=ab.ak (ab.aw h6) o5 E67
 refine⟨_,_,_,_,_,r,b5.row,?_⟩
 have hsz:w.heap.size<=wl.heap.size:=P.size
 refine(ih j m r w7 d F' (Jw X m) (hTk.pure v) (I.pure v) n Gd fun b hs=>Oi (hSw b hs) v.size).mono ?_
 rintro _ Y ⟨r1,r2,rfl,hr,O,W,E8,B⟩
 have e1:r1=(grow d ks[j]).1:=congrArg Prod.fst hr
 have e2:r2=(grow d ks[j]).2.1:=congrArg Prod.snd hr
 rw[drop_eq_getElem_cons m]at g
 have A:∀b,O b->F b\/w.heap.size<=b:=fun b R=>(B b R).elim (C b) (fun h=>by right;have:=v.size;omega)
 have U:ab F w Y:=(P.fb v).cg E8 Gd
 refine⟨_,_,rfl,fun h=>?_,fun h=>?_⟩
 have h:(grow d ks[j]).2.1≠0:=by rw[<-e2];simpa using h
 rw[Lr h]at g
 refine hK _ _ _ ?_
 rw[g];exact⟨by rw[e2],O,W,U,A⟩
 have h:(grow d ks[j]).2.1=0:=by rw[<-e2];simpa using h
 rw[Pc h]at g
 have q3:=(d3.pure v).ext E8 J
 have q4:=(d4.pure v).ext E8 M
 have hs7:wl.heap.size<=w7.heap.size:=v.size
 have G:¬O c.block:=fun h=>(B _ h).elim J fun h=>Oh<|(d3.pure v).lt
 have n48:¬O q.block:=fun h=>(B _ h).elim M fun h=>Oh<|(d4.pure v).lt
 have Q:=(zz ks[j] d n).1
 have T : ∀ (l : World) (y : df), y = (if j = 0 then { nd with a:=(grow d ks[j]).1 } else { nd with b:=(grow d ks[j]).1 }) -> ai l c (tK y) 119 -> ab (· = c.block) Y l ->
   (∃Z:Nat,IntKind.i64.wrap ((j:Int)+1)=Z/\Z<=ks.length/\∃(nd:df) (d:av) (F':NP),zZ ⟨k,f,t,u,x,0,0⟩ 0 L ks=zZ nd Z d (ks.drop Z)/\Ok d/\zD l p d F'/\(∀b,F' b->F b\/w.heap.size<=b)/\¬F' c.block/\¬F' q.block/\ab F w l/\ai l c (tK nd) 119/\ai l q [vp<|some<|c.add 5,vp<|some<|c.add 6] 267)/\((ks.length:Int)-IntKind.i64.wrap ((j:Int)+1)).toNat<((ks.length:Int)-(j:Int)).toNat:=by
  intro l y hnd B9 E
  rw[i64 Om Om]
  refine⟨⟨j+1,Om,m,y,_,O,by rw[g,hnd],Q,W.ext E fun b R e=>G<|e▸R,A,G,n48,U.cg E Gd,B9,q4.ext E n34.symm⟩,Om⟩
 have hj2:j=0\/j=1:=Om
 rcases hj2 with rfl|rfl
 refine⟨q,⟨Om,Sm,q,rfl,rfl⟩,some<|c.add 5,q4.bd,c.add 5,rfl,q3.ee<|by simp[tK],?_⟩
 intro l o
 refine T l _ rfl ?_ ?_
 rw[o,e1];exact q3.set 5 _
 rw[o];have:=ab.setCell (w:=Y) (c.add 5)<|vi r1;rw[zC]at this;exact this
 refine⟨q.add 1,⟨Om,Sm,q,rfl,rfl⟩,some<|c.add 6,q4.cell rfl,c.add 6,rfl,q3.ee<|by simp[tK],?_⟩
 intro l o
 refine T l _ rfl ?_ ?_
 rw[o,e1];exact q3.set 6 _
 rw[o];have:=ab.setCell (w:=Y) (c.add 6)<|vi r1;rw[zC]at this;exact this
 have hge:j=ks.length:=by have h:=of_decide_eq_false h;omega
 rw[hge,drop_length,zZ]at g
 have⟨k0,f0,t0,u0,x0,a0,b0⟩:=nd
 refine⟨_,_,_,_,_,_,_,d3.row,?_⟩
 refine(rY p k0 f0 t0 u0 x0 a0 b0 wl I n).mono ?_
 rintro _ l ⟨r1,r2,rfl,hr,F9,hP9,E,hF9⟩
 have hsz:w.heap.size<=wl.heap.size:=P.size
 refine⟨_,_,rfl,hK _ _ _ ?_⟩
 rw[g]
 exact⟨hr,F9,hP9,P.cg E fun i hi h=>(C i h).elim id fun h=>Om,fun b R=>(hF9 b R).elim (C b) fun h=>by right;omega⟩
def Pu(t):∀i n:Int,(qM i n t).1=0->bt.ux t:=by
 induction t using bt.ind with
 |h k f t u x ks d =>
  have c:∀(ks:List bt),(∀i (hi:i<ks.length),∀j n:Int,(qM j n ks[i]).1=0->bt.ux ks[i])->∀i e n:Int,(vK i e n ks).1=0->e=0/\AP ks:=by
   intro ks;induction ks with
   |nil=>intro _ i e n h;exact⟨by simpa[vK]using h,trivial⟩
   |cons t ts a =>
    intro hh i e n h
    unfold vK at h
    split at h
    rename_i g
    have:=a (fun i hi=>hh (i+1)<|by simpa using hi) _ _ _ h
    exact⟨g,hh 0 Sm i n this.1,this.2⟩
    grind
  intro i n h
  unfold qM at h
  split at h
  cases h
  split at h
  cases h
  have:=c ks d _ _ _ h
  refine GY.2 ⟨?_,this.2⟩
  have b:=this.1
  unfold yT at b
  simp only at b
  have m:=qV k
  by_cases l:zO ⟨k,f,t,u,x,0,0⟩=0
  grind
  grind
def QK{S}(p t s w){L F}(hT:cr S w s t)(hP:zD w p L F)(l:Ok L)(T:∀b,F b->¬ S b)(C:∀b,S b->b<w.heap.size):
  cl 62 #[vp<|some p,.agg (tE t s).toArray] w
   (XH fun r1 r2 w'=>(r1,r2)=((of L t).1,(of L t).2.1)/\∃F',zD w' p (of L t).2.2 F'/\ab F w w'/\∀b,F' b->F b\/w.heap.size<=b):=by
 have⟨k,f,to,u,x,ks⟩:=t
 suffices key:∀K:Int->Int->WP,(∀r1 r2 w',((r1,r2)=((of L<|.mk k f to u x ks).1,(of L<|.mk k f to u x ks).2.1)/\∃F',zD w' p (of L<|.mk k f to u x ks).2.2 F'/\ab F w w'/\∀b,F' b->F b\/w.heap.size<=b)->K r1 r2 w')->Mw (some p) k f to u x s w K from
  Rk _ _ _ _ _ _ _ w _<|key _ fun _ _ _ h=>h
 intro K J
 intro p2 w1 h1
 have b1:=ai.bh h1
 have E1:Pure w w1:=ab.aw h1
 refine Br.f rfl ?_
 intro m P h2
 have E2:Pure w P:=E1.trans<|ab.aw h2
 have o3:=au.ak E1 h2
 have X:=ai.bh h2
 have q:p2.block≠m.block:=au.ne h2 b1.ao
 refine⟨X.ia Sm,?_⟩
 intro A d
 have G:ai A m [vi 0] 3:=by rw[d];exact X.jb
 have i:ab (·=m.block) P A:=by rw[d];exact ab.setCell m _
 clear d
 have Y:Pure w A:=E2.ak o3 i
 have b3:=(b1.pure (ab.aw h2:Pure w1 P)).ext i q
 refine⟨_,_,_,_,_,s,b3.row,?_⟩
 generalize ht:bt.mk k f to u x ks=t at *
 have z:(Value.agg #[vi k,vi f,vi to,vu u,vs x,s.v])=.agg (tE t s).toArray:=by rw[<-ht];rfl
 rw[z]
 refine(zIK m Gd _ t s 0 0 A Om Om (hT.pure Y) G).mono ?_
 rintro _ Q ⟨r1,rfl,rfl,_,r⟩
 have e:Pure w Q:=Y.ak o3 r
 have b4:=b3.ext r q
 have U:∀w',Pure w w'->∃F',zD w' p L F'/\ab F w w'/\∀b,F' b->F b\/w.heap.size<=b:=fun w' E=>⟨F,hP.pure E,E.pure,fun _ h=>.inl h⟩
 refine⟨_,rfl,fun h=>?_,fun h=>?_⟩
 have h:(qM 0 0 t).1≠0:=by simpa using h
 have:of L t=(0,(qM 0 0 t).1,L):=by rw[of,if_pos h]
 refine J _ _ _ ?_
 rw[this];exact⟨rfl,U _ e⟩
 have h:(qM 0 0 t).1=0:=by simpa using h
 have j:=hP.pure e
 have⟨s0,m0,o,hF0⟩:=id j
 have I:s0.len=L.length:=by rw[o.cj.len];simp
 refine⟨p,rfl,s0,o.box.bd,_,_,_,_,_,s,b4.row,?_⟩
 rw[z]
 refine(Ul p t s Q L F (Pu t _ _ h) (hT.pure e) j l T fun b R=>Oi (C b R) e.size).mono ?_
 rintro _ W ⟨r1,r2,rfl,hr,B,y,O,N⟩
 have e1:r1=(grow L t).1:=congrArg Prod.fst hr
 have H:r2=(grow L t).2.1:=congrArg Prod.snd hr
 have hs4:w.heap.size<=Q.heap.size:=e.size
 have Z:ab F w W:=e.pure.trans O
 have a:∀b,B b->F b\/w.heap.size<=b:=fun b R=>(N b R).elim .inl fun h=>.inr Om
 refine⟨_,_,rfl,fun c=>?_,fun c=>?_⟩
 have c:(grow L t).2.1≠0:=by rw[<-H];simpa using c
 have⟨n,M,V⟩:=zz t L l
 rw[I]
 refine(KV p L.length W y n (by rw[V];simp)).mono ?_
 rintro _ w6 ⟨rfl,g,D⟩
 have:of L t=(0,(grow L t).2.1,L):=by rw[of,if_neg<|by simp[h],if_pos c]
 refine⟨rfl,J _ _ _ ?_⟩
 rw[this]
 rw[V,take_left]at g
 exact⟨by rw[H],B,g,Z.cg D Gd,a⟩
 have c:(grow L t).2.1=0:=by rw[<-H];simpa using c
 have:of L t=((grow L t).1,0,(grow L t).2.2):=by rw[of,if_neg<|by simp[h],if_neg<|by simp[c]]
 refine J _ _ _ ?_
 rw[this]
 exact⟨by rw[e1],B,y,Z,a⟩
end Go.Proofs
end
section
open Go Go.SE List
open Go.IntKind renaming i64 -> q6
namespace Go.Proofs
open Tryz
set_option maxRecDepth 100000
set_option maxHeartbeats 4000000
attribute [local irreducible] bu ft fg dw Calls
attribute [local irreducible] jq W WV WR yW pv ku jd nz ka lq ky lj mz mo iq fa im mv kq kp uP xG yA bn ub
def NQ(gS gT gU:Int)(gV:ByteArray)(gW g d:Bool)(w0:World)(K:Int->Int->Int->Int->ByteArray->Sl->WP):Prop:=∀f w1,au w0 (.cells #[(vi gS),(vi gT),(vu gU),(vs gV),(vb gW)] 35) f w1->∀a w2,au w1 (.cells #[(vi 0),(vi 0),(vi 0),(vu 0),ve,Sl.nil.v] 71) a w2->lu w2 (f.add 2) fun v1=>ls w2 (f.add 3) fun v2=>cl 82 #[(vu v1),(vs v2)] w2 fun e w3=>∃aB aC aD aA aE aU,e=.returned (Aa aB aC aD aA aE aU)/\∀h w4,au w3 (.cells #[(vi 0),(vi 0),(vi 0),(vu 0),ve,Sl.nil.v] 71) h w4->(∀j,j<6->zL w4 (h.add j))/\∀c,c=bb w4 h (Af aB aC aD aA aE aU)->li c f fun w=>Br (w==1) (li c (f.add 1) fun v4=>∃aO aP bN bO aQ cT,Row c h (Af aO aP bN bO aQ cT)/\lb c (f.add 4) fun v5=>cl 83 #[(vi v4),(.agg #[(vi aO),(vi aP),(vi bN),(vu bO),(vs aQ),cT.v]),(vb v5)] c fun e w6=>∃aM aN bB aI aJ eV,e=.returned (Aa aM aN bB aI aJ eV)/\(∀j,j<6->zL w6 (a.add j))/\∀w7,w7=bb w6 a (Af aM aN bB aI aJ eV)->∃aF aG aK aL aH aV,Row w7 a (Af aF aG aK aL aH aV)/\K aF aG aK aL aH aV w7) (Br (w==2) (li c (f.add 1) fun v6=>∃bG bH dM dN bI dO,Row c h (Af bG bH dM dN bI dO)/\cl 84 #[(vi v6),(.agg #[(vi bG),(vi bH),(vi dM),(vu dN),(vs bI),dO.v])] c fun e w8=>∃bJ bK cW cX bC eW,e=.returned (Aa bJ bK cW cX bC eW)/\(∀j,j<6->zL w8 (a.add j))/\∀w9,w9=bb w8 a (Af bJ bK cW cX bC eW)->∃aR aS dP dQ aT eX,Row w9 a (Af aR aS dP dQ aT eX)/\K aR aS dP dQ aT eX w9) (Br (w==3) (∃C1:WP,C1 c.drew/\∀w10,w10=c.drew->∃v7,(∀w',C1 w'->w'.cell? (f.add 2)=some (vu v7))/\cl 86 #[(vs (⟨#[97,98,111,114,116]⟩:ByteArray))] w10 fun e S=>∃bD bE eY eZ bF fA,e=.returned (Aa bD bE eY eZ bF fA)/\C1 S/\cl 87 #[(vu v7)] S fun e w12=>∃bV bW fB fC bX fD,e=.returned (Aa bV bW fB fC bX fD)/\cl 85 #[(.agg #[(vi bD),(vi bE),(vi eY),(vu eZ),(vs bF),fA.v]),(.agg #[(vi bV),(vi bW),(vi fB),(vu fC),(vs bX),fD.v])] w12 fun e w13=>∃dR dS fE fF dT fG,e=.returned (Aa dR dS fE fF dT fG)/\cl 84 #[(vi 0),(.agg #[(vi dR),(vi dS),(vi fE),(vu fF),(vs dT),fG.v])] w13 fun e z=>∃fH fI hU hV fJ hW,e=.returned (Aa fH fI hU hV fJ hW)/\(∀j,j<6->zL z (a.add j))/\∀u,u=bb z a (Af fH fI hU hV fJ hW)->∃aY aZ fK fL bA hX,Row u a (Af aY aZ fK fL bA hX)/\K aY aZ fK fL bA hX u) (Br (w==4) (∃b:WP,b c.drew/\∀W,W=c.drew->∃v8,(∀w',b w'->w'.cell? (f.add 1)=some (vi v8))/\∃cY cZ hF hG dA hI,(∀w',b w'->Row w' h (Af cY cZ hF hG dA hI))/\∃v9,(∀w',b w'->w'.cell? (f.add 4)=some (vb v9))/\∃Z P fM A cA B,(∀w',b w'->Row w' h (Af Z P fM A cA B))/\∃i,(∀w',b w'->w'.cell? (f.add 4)=some (vb i))/\cl 86 #[(vs (⟨#[114,101,115,111,108,118,101]⟩:ByteArray))] W fun e l=>∃dU H V fQ dW fR,e=.returned (Aa dU H V fQ dW fR)/\b l/\Br v9 (cl 83 #[(vi 0),(.agg #[(vi cY),(vi cZ),(vi hF),(vu hG),(vs dA),hI.v]),(vb g)] l fun e o=>∃dZ eA hJ hK eB hL,e=.returned (Aa dZ eA hJ hK eB hL)/\b o/\Br i (cl 83 #[(vi 1),(.agg #[(vi Z),(vi P),(vi fM),(vu A),(vs cA),B.v]),(vb d)] o fun e L=>∃eC eD hY hZ eE iA,e=.returned (Aa eC eD hY hZ eE iA)/\b L/\cl 85 #[(.agg #[(vi dZ),(vi eA),(vi hJ),(vu hK),(vs eB),hL.v]),(.agg #[(vi eC),(vi eD),(vi hY),(vu hZ),(vs eE),iA.v])] L fun e D=>∃fS fT iB iC fU iD,e=.returned (Aa fS fT iB iC fU iD)/\b D/\cl 85 #[(.agg #[(vi dU),(vi H),(vi V),(vu fQ),(vs dW),fR.v]),(.agg #[(vi fS),(vi fT),(vi iB),(vu iC),(vs fU),iD.v])] D fun e E=>∃fV fW iE iF fX iG,e=.returned (Aa fV fW iE iF fX iG)/\b E/\cl 84 #[(vi v8),(.agg #[(vi fV),(vi fW),(vi iE),(vu iF),(vs fX),iG.v])] E fun e N=>∃fY fZ iH iI gA iJ,e=.returned (Aa fY fZ iH iI gA iJ)/\(∀j,j<6->zL N (a.add j))/\∀s,s=bb N a (Af fY fZ iH iI gA iJ)->∃cB cC iK iL cD iM,Row s a (Af cB cC iK iL cD iM)/\K cB cC iK iL cD iM s) (cl 83 #[(vi 1),(.agg #[(vi Z),(vi P),(vi fM),(vu A),(vs cA),B.v]),(vb false)] o fun e O=>∃gB gC iN iO gD iP,e=.returned (Aa gB gC iN iO gD iP)/\b O/\cl 85 #[(.agg #[(vi dZ),(vi eA),(vi hJ),(vu hK),(vs eB),hL.v]),(.agg #[(vi gB),(vi gC),(vi iN),(vu iO),(vs gD),iP.v])] O fun e w25=>∃eF eG iQ iR eH iS,e=.returned (Aa eF eG iQ iR eH iS)/\b w25/\cl 85 #[(.agg #[(vi dU),(vi H),(vi V),(vu fQ),(vs dW),fR.v]),(.agg #[(vi eF),(vi eG),(vi iQ),(vu iR),(vs eH),iS.v])] w25 fun e J=>∃gE gF iT iU gG iV,e=.returned (Aa gE gF iT iU gG iV)/\b J/\cl 84 #[(vi v8),(.agg #[(vi gE),(vi gF),(vi iT),(vu iU),(vs gG),iV.v])] J fun e F=>∃gH gI iW iX gJ iY,e=.returned (Aa gH gI iW iX gJ iY)/\(∀j,j<6->zL F (a.add j))/\∀n,n=bb F a (Af gH gI iW iX gJ iY)->∃cE cF iZ jA cG jB,Row n a (Af cE cF iZ jA cG jB)/\K cE cF iZ jA cG jB n)) (cl 83 #[(vi 0),(.agg #[(vi cY),(vi cZ),(vi hF),(vu hG),(vs dA),hI.v]),(vb false)] l fun e q=>∃eI eJ hM hN eK hO,e=.returned (Aa eI eJ hM hN eK hO)/\b q/\Br i (cl 83 #[(vi 1),(.agg #[(vi Z),(vi P),(vi fM),(vu A),(vs cA),B.v]),(vb d)] q fun e T=>∃gK gL jC jD gM jE,e=.returned (Aa gK gL jC jD gM jE)/\b T/\cl 85 #[(.agg #[(vi eI),(vi eJ),(vi hM),(vu hN),(vs eK),hO.v]),(.agg #[(vi gK),(vi gL),(vi jC),(vu jD),(vs gM),jE.v])] T fun e x=>∃gN gO jF jG gP jH,e=.returned (Aa gN gO jF jG gP jH)/\b x/\cl 85 #[(.agg #[(vi dU),(vi H),(vi V),(vu fQ),(vs dW),fR.v]),(.agg #[(vi gN),(vi gO),(vi jF),(vu jG),(vs gP),jH.v])] x fun e M=>∃jI jJ jK jL jM jN,e=.returned (Aa jI jJ jK jL jM jN)/\b M/\cl 84 #[(vi v8),(.agg #[(vi jI),(vi jJ),(vi jK),(vu jL),(vs jM),jN.v])] M fun e I=>∃jO jP jQ jR jS jT,e=.returned (Aa jO jP jQ jR jS jT)/\(∀j,j<6->zL I (a.add j))/\∀m,m=bb I a (Af jO jP jQ jR jS jT)->∃cH cI jU jV cJ jW,Row m a (Af cH cI jU jV cJ jW)/\K cH cI jU jV cJ jW m) (cl 83 #[(vi 1),(.agg #[(vi Z),(vi P),(vi fM),(vu A),(vs cA),B.v]),(vb false)] q fun e w35=>∃jX jY jZ kA kB kC,e=.returned (Aa jX jY jZ kA kB kC)/\b w35/\cl 85 #[(.agg #[(vi eI),(vi eJ),(vi hM),(vu hN),(vs eK),hO.v]),(.agg #[(vi jX),(vi jY),(vi jZ),(vu kA),(vs kB),kC.v])] w35 fun e w36=>∃kD kE kF kG kH kI,e=.returned (Aa kD kE kF kG kH kI)/\b w36/\cl 85 #[(.agg #[(vi dU),(vi H),(vi V),(vu fQ),(vs dW),fR.v]),(.agg #[(vi kD),(vi kE),(vi kF),(vu kG),(vs kH),kI.v])] w36 fun e w37=>∃kJ kK kL kM kN kO,e=.returned (Aa kJ kK kL kM kN kO)/\b w37/\cl 84 #[(vi v8),(.agg #[(vi kJ),(vi kK),(vi kL),(vu kM),(vs kN),kO.v])] w37 fun e C=>∃kP kQ kR kS kT kU,e=.returned (Aa kP kQ kR kS kT kU)/\(∀j,j<6->zL C (a.add j))/\∀t,t=bb C a (Af kP kQ kR kS kT kU)->∃cK cL kV kW cM kX,Row t a (Af cK cL kV kW cM kX)/\K cK cL kV kW cM kX t))) (Br (w==5) (∃C3:WP,C3 c.drew/\∀w40,w40=c.drew->∃X,(∀w',C3 w'->w'.cell? (f.add 2)=some (vu X))/\cl 86 #[(vs (⟨#[97,98,111,114,116,101,100]⟩:ByteArray))] w40 fun e U=>∃kY kZ lA lB lC lD,e=.returned (Aa kY kZ lA lB lC lD)/\C3 U/\cl 87 #[(vu X)] U fun e w42=>∃lE lF lG lH lI lJ,e=.returned (Aa lE lF lG lH lI lJ)/\cl 85 #[(.agg #[(vi kY),(vi kZ),(vi lA),(vu lB),(vs lC),lD.v]),(.agg #[(vi lE),(vi lF),(vi lG),(vu lH),(vs lI),lJ.v])] w42 fun e w43=>∃lK lL lM lN lO lP,e=.returned (Aa lK lL lM lN lO lP)/\cl 84 #[(vi 2),(.agg #[(vi lK),(vi lL),(vi lM),(vu lN),(vs lO),lP.v])] w43 fun e G=>∃lQ lR lS lT lU lV,e=.returned (Aa lQ lR lS lT lU lV)/\(∀j,j<6->zL G (a.add j))/\∀r,r=bb G a (Af lQ lR lS lT lU lV)->∃dB dC lW lX dD lY,Row r a (Af dB dC lW lX dD lY)/\K dB dC lW lX dD lY r) (Br (w==6) (∃C4:WP,C4 c.drew/\∀Q,Q=c.drew->∃lZ mA mB mC mD mE,(∀w',C4 w'->Row w' h (Af lZ mA mB mC mD mE))/\cl 86 #[(vs (⟨#[105,110,115,116,101,97,100]⟩:ByteArray))] Q fun e w47=>∃mF mG mH mI mJ mK,e=.returned (Aa mF mG mH mI mJ mK)/\C4 w47/\cl 85 #[(.agg #[(vi mF),(vi mG),(vi mH),(vu mI),(vs mJ),mK.v]),(.agg #[(vi lZ),(vi mA),(vi mB),(vu mC),(vs mD),mE.v])] w47 fun e w48=>∃mL mM mN mO mP mQ,e=.returned (Aa mL mM mN mO mP mQ)/\cl 84 #[(vi 2),(.agg #[(vi mL),(vi mM),(vi mN),(vu mO),(vs mP),mQ.v])] w48 fun e R=>∃mR mS mT mU mV mW,e=.returned (Aa mR mS mT mU mV mW)/\(∀j,j<6->zL R (a.add j))/\∀p,p=bb R a (Af mR mS mT mU mV mW)->∃mX mY mZ nA nB nC,Row p a (Af mX mY mZ nA nB nC)/\K mX mY mZ nA nB nC p) (∃C5:WP,C5 c.drew/\∀w51,w51=c.drew->∃Y,(∀w',C5 w'->w'.cell? (f.add 2)=some (vu Y))/\cl 86 #[(vs (⟨#[102,117,108,108]⟩:ByteArray))] w51 fun e w52=>∃nD nE nF nG nH nI,e=.returned (Aa nD nE nF nG nH nI)/\C5 w52/\cl 87 #[(vu Y)] w52 fun e w53=>∃nJ nK nL nM nN nO,e=.returned (Aa nJ nK nL nM nN nO)/\cl 85 #[(.agg #[(vi nD),(vi nE),(vi nF),(vu nG),(vs nH),nI.v]),(.agg #[(vi nJ),(vi nK),(vi nL),(vu nM),(vs nN),nO.v])] w53 fun e y=>∃nP nQ nR nS nT nU,e=.returned (Aa nP nQ nR nS nT nU)/\(∀j,j<6->zL y (a.add j))/\∀k,k=bb y a (Af nP nQ nR nS nT nU)->∃nV nW nX nY nZ oA,Row k a (Af nV nW nX nY nZ oA)/\K nV nW nX nY nZ oA k))))))
def Va(gS gT gU gV gW first1 second1 w0 K)(h:NQ gS gT gU gV gW first1 second1 w0 K):
  cl 25 #[(.agg #[(vi gS),(vi gT),(vu gU),(vs gV),(vb gW)]),(vb first1),(vb second1)] w0<|fun e w'=>∃a d b c oF f,e=.returned (Aa a d b c oF f)/\K a d b c oF f w':=
 cy func25 h<|cd 0<|cd 0<|ld 1<|ld 1<|lf 0 call82<|cd 0<|dh 0<|ld 1<|br 0 2 (ld 2<|cf<|lr 0<|ld 1<|lf 0 call83<|dh 0<|dx 0<|cf<|gh<|dy)<|br 0 3 (ld 2<|cf<|lr 0<|lf 0 call84<|dh 0<|dx 0<|cf<|gh<|dy)<|br 0 3 (sO 1 [0,3,4,5,6] [3,4,5,6]<|ik 1<|cc 0 call86<|cf<|rt<|jx<|lf 0 call87<|lf 0 call85<|lf 0 call84<|dh 0<|dx 0<|cf<|gh<|dy)<|br 0 3 (sO 1 [2,9,16,17,18,19,20] [19,20]<|ik 1<|cf<|Az 0<|ik 1<|cf<|Az 0<|ik 1<|cc 0 call86<|cf<|rt<|jx<|br 1 1 (cc 2 call83<|cf<|rt<|jx<|br 1 1 (cc 2 call83<|cf<|rt<|jx<|cc 0 call85<|cf<|rt<|jx<|cc 0 call85<|cf<|rt<|jx<|lf 0 call84<|dh 0<|dx 0<|cf<|gh<|dy)<|cc 2 call83<|cf<|rt<|jx<|cc 0 call85<|cf<|rt<|jx<|cc 0 call85<|cf<|rt<|jx<|lf 0 call84<|dh 0<|dx 0<|cf<|gh<|dy)<|cc 2 call83<|cf<|rt<|jx<|br 1 1 (cc 2 call83<|cf<|rt<|jx<|cc 0 call85<|cf<|rt<|jx<|cc 0 call85<|cf<|rt<|jx<|lf 0 call84<|dh 0<|dx 0<|cf<|gh<|dy)<|cc 2 call83<|cf<|rt<|jx<|cc 0 call85<|cf<|rt<|jx<|cc 0 call85<|cf<|rt<|jx<|lf 0 call84<|dh 0<|dx 0<|cf<|gh<|dy)<|br 0 3 (sO 1 [0,3,4,5,6] [3,4,5,6]<|ik 1<|cc 0 call86<|cf<|rt<|jx<|lf 0 call87<|lf 0 call85<|lf 0 call84<|dh 0<|dx 0<|cf<|gh<|dy)<|br 0 3 (sO 1 [0,2,3,4] [2,3,4]<|cf<|Az 0<|cc 0 call86<|cf<|rt<|jx<|lf 0 call85<|lf 0 call84<|dh 0<|dx 0<|cf<|gh<|dy)<|sO 1 [0,3,4,5] [3,4,5]<|ik 1<|cc 0 call86<|cf<|rt<|jx<|lf 0 call87<|lf 0 call85<|dh 0<|dx 0<|cf<|gh<|dy
def JK(d p g:Addr)(r3:Int)(w:World)(K:Int->Int->Int->ByteArray->Bool->Bool->WP):Prop:=cl 142 #[(vp<|some p),(vi r3),(vi 2)] w fun e f=>∃A C D k F E B,e=.returned (Ac A C D k F E B)/\(∀j,j<5->zL f (g.add j))/\∀a,a=bb f g (Aj 7 0 k false)->lb a (p.add 1) fun z=>Br z ((∀j,j<5->zL a (d.add j))/\∀b,b=bb a d (Aj 0 0 0 false)->∃q t m y dF,Row b d (Ae q t m y dF)/\K q t m y dF false b)<|∃u x r v o,Row a g (Ae u x r v o)/\(∀j,j<5->zL a (d.add j))/\∀c,c=bb a d (Ae u x r v o)->∃s h i n l,Row c d (Ae s h i n l)/\K s h i n l true c
def ER(c d m:Addr)(r3:Int)(w:World)(K:Int->Int->Int->ByteArray->Bool->Bool->WP):Prop:=lb w (d.add 1) fun v=>Br v (lb w (d.add 1) fun u=>Br u ((∀j,j<5->zL w (c.add j))/\∀a,a=bb w c (Aj 0 0 0 false)->∃r g e s f,Row a c (Ae r g e s f)/\K r g e s f false a)<|∃l n p o h,Row w m (Ae l n p o h)/\(∀j,j<5->zL w (c.add j))/\∀b,b=bb w c (Ae l n p o h)->∃k dC q t i,Row b c (Ae k dC q t i)/\K k dC q t i true b) (JK c d m r3 w K)
def A8(F:Int)(d c l:Addr)(I:Bool)(w:World)(K:Int->Int->Int->ByteArray->Bool->Bool->WP):Prop:=Br I (cl 140 #[(vp<|some c),(vi F)] w fun e k=>∃q bK n y B,e=.returned (Ag q bK n y B)/\(∀j,j<5->zL k (l.add j))/\∀a,a=bb k l (Ae q bK n y B)->lb a (c.add 1) fun J=>Br J ((∀j,j<5->zL a (d.add j))/\∀f,f=bb a d (Aj 0 0 0 false)->∃z x p o v,Row f d (Ae z x p o v)/\K z x p o v false f)<|∃E A C t G,Row a l (Ae E A C t G)/\(∀j,j<5->zL a (d.add j))/\∀g,g=bb a d (Ae E A C t G)->∃u D r m s,Row g d (Ae u D r m s)/\K u D r m s true g) (cl 141 #[(vp<|some c),(vi F)] w<|XO fun r2 r3 b=>lb b (c.add 1) fun H=>Br H (zL b (c.add 1)/\∀i,i=b.setCell (c.add 1) (vb true)->ER d c l r3 i K)<|zL b (c.add 1)/\∀h,h=b.setCell (c.add 1) (vb<|!(decide (r2=(⟨#[102,117,108,108]⟩:ByteArray))))->ER d c l r3 h K)
def NW(x:Option Addr)(m:Int)(w:World)(K:Int->Int->Int->ByteArray->Bool->Bool->WP):Prop:=∀a S,au w (.cells #[(vi 0),(vi 0),(vu 0),ve,(vb false)] 35) a S->∀h M,au S (.cells #[(vp x),(vb false)] 212) h M->cl 109 #[(vp x),(vi m)] M fun e W=>∃p G y N T A t r1,e=.returned (.tuple #[(Ac p G y N T A t),(vb r1)])/\∀f l,au W (.cells #[(vi 0),(vi 0),(vi 0),(vu 0),ve,(vi 0),(vi 0)] 119) f l->(∀j,j<7->zL l (f.add j))/\∀q,q=bb l f (Ab p G y N T A t)->∀g b,au q (.cells #[(vi 0),(vi 0),(vu 0),ve,(vb false)] 35) g b->li b f fun i=>Br (i==7) (li b (f.add 1) fun V=>li b (f.add 5) fun Y=>cl 139 #[(vp<|some h),(vi V),(vi Y)] b fun e F=>∃n I C O L,e=.returned (Ag n I C O L)/\(∀j,j<5->zL F (g.add j))/\∀d,d=bb F g (Ae n I C O L)->lb d (h.add 1) fun X=>Br X ((∀j,j<5->zL d (a.add j))/\∀k,k=bb d a (Aj 0 0 0 false)->∃B J D r s,Row k a (Ae B J D r s)/\K B J D r s false k)<|∃Q v H E R,Row d g (Ae Q v H E R)/\(∀j,j<5->zL d (a.add j))/\∀c,c=bb d a (Ae Q v H E R)->∃o z u U P,Row c a (Ae o z u U P)/\K o z u U P true c) (Br (i==8) (A8 m a h g (i==8) b K)<|A8 m a h g (i==9) b K)
def w_K(p1 t1 w K)(h:NW p1 t1 w K):
  cl 73 #[(vp p1),(vi t1)] w<|fun e w'=>∃A C G B F D,e=.returned (.tuple #[(Ag A C G B F),(vb D)])/\K A C G B F D w':=by
 refine cw (args:=[(vp p1),(vi t1)]) func73 ntmps73<|eg<|sn (O:=(.cells #[(vi 0),(vi 0),(vu 0),ve,(vb false)] 35)) (uA (zeroValue35 _) rfl) ?_
 intro c X o
 have h:=h c X o
 refine q<|ln<|GA rfl (fun _ _ _ h=>h) (eg<|q0 (vp p1)<|q0 (.agg #[(vp p1),(vb false)])<|sn (O:=(.cells #[(vp p1),(vb false)] 212)) xb ?_)
 intro b W l
 have h:=h b W l
 refine q<|ln<|eg<|qb<|sc call109<|h.mono fun e w3 ⟨aB,aC,aD,aA,aE,aW,aX,r1,k,h⟩=>⟨_,k,?_⟩
 refine qc (MK h (uA (zeroValue119 _) rfl) fun V w4 h=>su (sizeOf119 _) h fun w5 h=>q<|ln<|eg<|MK h (uA (zeroValue35 _) rfl) fun d w6 h=>ln<|zK<|Im<|yZ<|zK<|eg<|q0 (vp<|some V)<|ql (isAgg3 _) h fun E h=>ln<|vP<|eg<|qb<|ln<|ib h ?_ ?_)<;>intro h
 refine rg<|qb<|ql (isAgg3 _) h fun v2 h=>q<|ql (isAgg73 _) h fun v3 h=>sc call139<|h.mono fun e w7 ⟨aM,aN,bL,aJ,bM,k,h⟩=>⟨_,k,?_⟩
 refine su (sizeOf35 _) h fun w8 h=>vJ (pO<|yZ<|zK<|eg<|qc<|ql (isAgg4 _) h fun v4 h=>ln<|ib h ?_ ?_)<;>intro h
 refine eg<|q<|su (sizeOf35 _) h fun w9 h=>q<|ln<|er<|l0 ?_
 have⟨aF,aG,cP,aH,cQ,u,h⟩:=h
 refine rO results73 (wF (isAgg35 _) (sizeOf35 _) u) (wh<|vb false) ⟨aF,aG,cP,aH,cQ,false,rfl,h⟩
 refine zW<|yZ<|eg ?_
 have⟨aO,aP,eT,aQ,eU,x,h⟩:=h
 refine qa (isAgg35 _) (sizeOf35 _) x<|su (sizeOf35 _) h fun U h=>q<|ln<|er ?_
 have⟨aR,aS,cR,aT,cS,r,h⟩:=h
 refine rO results73 (wF (isAgg35 _) (sizeOf35 _) r) (wh<|vb true) ⟨aR,aS,cR,aT,cS,true,rfl,h⟩
 refine Js (fun ρ w=>∃z,ed ρ [(1,(vi t1)),(4,(vp<|some c)),(6,(vp<|some b)),(9,(vp<|some d)),(57,(vb z))]/\A8 t1 c b d z w K) ?_ ?_
 rintro ρ w ⟨z,i,h⟩
 refine qS i (ib h ?_ ?_)<;>intro h
 refine rg<|qb<|sc call140<|h.mono fun e w11 ⟨bJ,bK,dX,bC,dY,k,h⟩=>⟨_,k,?_⟩
 refine su (sizeOf35 _) h fun T h=>vJ (pO<|yZ<|zK<|eg<|qc<|ql (isAgg4 _) h fun v5 h=>ln<|ib h ?_ ?_)<;>intro h
 refine eg<|q<|su (sizeOf35 _) h fun w13 h=>q<|ln<|er<|l0 ?_
 have⟨aY,aZ,cN,bA,cO,y,h⟩:=h
 refine rO results73 (wF (isAgg35 _) (sizeOf35 _) y) (wh<|vb false) ⟨aY,aZ,cN,bA,cO,false,rfl,h⟩
 refine zW<|yZ<|eg ?_
 have⟨bG,bH,eR,bI,eS,s,h⟩:=h
 refine qa (isAgg35 _) (sizeOf35 _) s<|su (sizeOf35 _) h fun Y h=>q<|ln<|er ?_
 have⟨cB,cC,Q,cD,S,t,h⟩:=h
 refine rO results73 (wF (isAgg35 _) (sizeOf35 _) t) (wh<|vb true) ⟨cB,cC,Q,cD,S,true,rfl,h⟩
 refine eg<|qb<|sc call141<|h.mono fun e w15 ⟨r2,r3,k,h⟩=>⟨_,k,?_⟩
 refine q<|qd<|ln<|Js (fun ρ w=>ed ρ [(4,(vp<|some c)),(6,(vp<|some b)),(9,(vp<|some d)),(11,(vi r3))]/\JK c b d r3 w K) ?_ ?_
 rintro ρ w ⟨i,h⟩
 refine qS i<|rg<|qb<|sc call142<|h.mono fun e w16 ⟨bD,bE,bB,aI,bF,cU,cV,k,h⟩=>⟨_,k,?_⟩
 refine qb (su (sizeOf35 _) h fun w17 h=>vJ<|pO<|yZ<|zK<|eg<|qc<|ql (isAgg4 _) h fun v6 h=>ln<|ib h ?_ ?_)<;>intro h
 refine eg<|q<|su (sizeOf35 _) h fun M h=>q<|ln<|er<|l0 ?_
 have⟨cE,cF,N,cG,dF,n,h⟩:=h
 refine rO results73 (wF (isAgg35 _) (sizeOf35 _) n) (wh<|vb false) ⟨cE,cF,N,cG,dF,false,rfl,h⟩
 refine zW<|yZ<|eg ?_
 have⟨cY,cZ,eL,dA,eM,j,h⟩:=h
 refine qa (isAgg35 _) (sizeOf35 _) j<|su (sizeOf35 _) h fun w19 h=>q<|ln<|er ?_
 have⟨cH,I,J,P,dH,m,h⟩:=h
 refine rO results73 (wF (isAgg35 _) (sizeOf35 _) m) (wh<|vb true) ⟨cH,I,J,P,dH,true,rfl,h⟩
 refine Js (fun ρ w=>ed ρ [(4,(vp<|some c)),(6,(vp<|some b)),(9,(vp<|some d)),(11,(vi r3))]/\ER c b d r3 w K) ?_ ?_
 rintro ρ w ⟨i,h⟩
 refine qS i (eg<|qc<|ql (isAgg4 _) h fun v7 h=>ln<|ib h ?_ ?_)<;>intro h
 refine tQ (qv<|wU<|yZ<|zK<|eg<|q0 (vp<|some b)<|q0 (vp<|some b)<|q0 (vp<|some<|b.add 1)<|ql (isAgg4 _) h fun v8 h=>ln<|ib h ?_ ?_)<;>intro h
 refine eg<|q<|su (sizeOf35 _) h fun w20 h=>q<|ln<|er<|l0 ?_
 have⟨cK,R,dI,Z,dJ,f,h⟩:=h
 refine rO results73 (wF (isAgg35 _) (sizeOf35 _) f) (wh<|vb false) ⟨cK,R,dI,Z,dJ,false,rfl,h⟩
 refine zW<|yZ<|eg ?_
 have⟨bY,bZ,eN,cA,eO,g,h⟩:=h
 refine qa (isAgg35 _) (sizeOf35 _) g<|su (sizeOf35 _) h fun w21 h=>q<|ln<|er ?_
 have⟨dB,dC,eP,dD,eQ,p,h⟩:=h
 refine rO results73 (wF (isAgg35 _) (sizeOf35 _) p) (wh<|vb true) ⟨dB,dC,eP,dD,eQ,true,rfl,h⟩
 refine zW<|yZ ⟨hm,h⟩
 refine rg<|qd<|ql (isAgg4 _) h fun v9 h=>q ?_
 obtain⟨a,h⟩|⟨a,h⟩:=h.br
 refine FM 34 a<|q2 (vb true) (xT a)<|qb<|qn (sizeOf4 _) h fun L h=>ln ⟨hm,h⟩
 refine qk 34 a<|stq (v:=(vb<|!(decide (r2=(⟨#[102,117,108,108]⟩:ByteArray))))) (wy 34 a) (Pi Kf Kf)<|q2 (vb<|!(decide (r2=(⟨#[102,117,108,108]⟩:ByteArray)))) (xF a)<|qb<|qn (sizeOf4 _) h fun H h=>ln ⟨hm,h⟩
 refine eg (qb<|ln<|ib h ?_ ?_)<;>intro h
 refine zW<|yZ ⟨(E==8),hm,h⟩
 refine rg<|qb<|ln ⟨(E==9),hm,h⟩
def Ui(X:Int)(a:ByteArray)(W:World)(K:Int->Int->Int->Int->ByteArray->Sl->WP):Prop:=∀b M,au W (.cells #[(vi 0),(vi 0),(vi 0),(vu 0),ve,Sl.nil.v] 71) b M->cl 86 #[(vs (⟨#[100,101,97,108]⟩:ByteArray))] M fun e U=>∃h z q H R L,e=.returned (Aa h z q H R L)/\cl 87 #[(vu X)] U fun e T=>∃d D J g G E,e=.returned (Aa d D J g G E)/\cl 86 #[(vs a)] T fun e V=>∃k bK Q w A s,e=.returned (Aa k bK Q w A s)/\cl 85 #[(.agg #[(vi d),(vi D),(vi J),(vu g),(vs G),E.v]),(.agg #[(vi k),(vi bK),(vi Q),(vu w),(vs A),s.v])] V fun e S=>∃o I r y N C,e=.returned (Aa o I r y N C)/\cl 85 #[(.agg #[(vi h),(vi z),(vi q),(vu H),(vs R),L.v]),(.agg #[(vi o),(vi I),(vi r),(vu y),(vs N),C.v])] S fun e n=>∃u O l i B f,e=.returned (Aa u O l i B f)/\(∀j,j<6->zL n (b.add j))/\∀c,c=bb n b (Af u O l i B f)->∃t F x P m p,Row c b (Af t F x P m p)/\K t F x P m p c
def jbI(c1 text1 w0 K)(h:Ui c1 text1 w0 K):
  cl 82 #[(vu c1),(vs text1)] w0<|fun e w'=>∃dR dS d b c a,e=.returned (Aa dR dS d b c a)/\K dR dS d b c a w':=
 cy func82 h<|cd 0<|lf 0 call86<|lf 1 call87<|lf 1 call86<|lf 0 call85<|lf 0 call85<|dh 0<|dx 0<|cf<|gh<|dy
def jcy(a P:Int)(Q N M:Int)(O:ByteArray)(S:Sl)(c:Bool)(R:World)(K:Int->Int->Int->Int->ByteArray->Sl->WP):Prop:=∀g G,au R (.cells #[(vi P),(vi Q),(vi N),(vu M),(vs O),S.v] 71) g G->∀b d,au G (.cells #[(vi 0),(vi 0),(vi 0),(vu 0),ve,Sl.nil.v] 71) b d->Br c (∃E o k C t y,Row d g (Af E o k C t y)/\∀q h,au d (.cells #[(vi E),(vi o),(vi k),(vu C),(vs t),y.v] 71) q h->(∀j,j<6->zL h (b.add j))/\∀i,i=bb h b [(vi 9),(vi a),(vi<|q6.wrap<|1-a),(vu 0),ve,(Sl.mk (some q) 1 1).v]->∃s B x I m p,Row i b (Af s B x I m p)/\K s B x I m p i) (∃H A D J n F,Row d g (Af H A D J n F)/\∀z e,au d (.cells #[(vi H),(vi A),(vi D),(vu J),(vs n),F.v] 71) z e->(∀j,j<6->zL e (b.add j))/\∀f,f=bb e b [(vi 8),(vi a),(vi<|q6.wrap<|1-a),(vu 0),ve,(Sl.mk (some z) 1 1).v]->∃l r dP w L u,Row f b (Af l r dP w L u)/\K l r dP w L u f)
def VW(who1 bP bQ bR bS bT bU fake1 w0 K)(h:jcy who1 bP bQ bR bS bT bU fake1 w0 K):
  cl 83 #[(vi who1),(.agg #[(vi bP),(vi bQ),(vi bR),(vu bS),(vs bT),bU.v]),(vb fake1)] w0<|fun e w'=>∃f b c g d a,e=.returned (Aa f b c g d a)/\K f b c g d a w':=
 cy func83 h<|cd 0<|cd 0<|br 0 2 (cf<|lr 6<|cd 0<|dh 1<|dx 0<|cf<|gh<|dy)<|cf<|lr 5<|cd 0<|dh 1<|dx 0<|cf<|gh<|dy
def jcu(a z:Int)(A x w:Int)(y:ByteArray)(C:Sl)(B:World)(K:Int->Int->Int->Int->ByteArray->Sl->WP):Prop:=∀i t,au B (.cells #[(vi z),(vi A),(vi x),(vu w),(vs y),C.v] 71) i t->∀b d,au t (.cells #[(vi 0),(vi 0),(vi 0),(vu 0),ve,Sl.nil.v] 71) b d->∃s h f r n p,Row d i (Af s h f r n p)/\∀l c,au d (.cells #[(vi s),(vi h),(vi f),(vu r),(vs n),p.v] 71) l c->(∀j,j<6->zL c (b.add j))/\∀e,e=bb c b [(vi 7),(vi a),(vi 0),(vu 0),ve,(Sl.mk (some l) 1 1).v]->∃m q o u g k,Row e b (Af m q o u g k)/\K m q o u g k e
def Ti(who1 bP bQ bR bS bT bU w0 K)(h:jcu who1 bP bQ bR bS bT bU w0 K):
  cl 84 #[(vi who1),(.agg #[(vi bP),(vi bQ),(vi bR),(vu bS),(vs bT),bU.v])] w0<|fun e w'=>∃f b c g d a,e=.returned (Aa f b c g d a)/\K f b c g d a w':=
 cy func84 h<|cd 0<|cd 0<|cf<|lr 1<|cd 0<|dh 1<|dx 0<|cf<|gh<|dy
def UN(J M:Int)(E D:Int)(F:ByteArray)(O:Sl)(G H:Int)(gZ I:Int)(hB:ByteArray)(L:Sl)(N:World)(K:Int->Int->Int->Int->ByteArray->Sl->WP):Prop:=∀h z,au N (.cells #[(vi J),(vi M),(vi E),(vu D),(vs F),O.v] 71) h z->∀y s,au z (.cells #[(vi G),(vi H),(vi gZ),(vu I),(vs hB),L.v] 71) y s->∀a b,au s (.cells #[(vi 0),(vi 0),(vi 0),(vu 0),ve,Sl.nil.v] 71) a b->∃w g e t m o,Row b h (Af w g e t m o)/\∃A q u C i x,Row b y (Af A q u C i x)/\∀p d,au b (.cells #[(vi w),(vi g),(vi e),(vu t),(vs m),o.v,(vi A),(vi q),(vi u),(vu C),(vs i),x.v] 71) p d->(∀j,j<6->zL d (a.add j))/\∀c,c=bb d a [(vi 4),(vi 0),(vi 0),(vu 0),ve,(Sl.mk (some p) 2 2).v]->∃l r n B f k,Row c a (Af l r n B f k)/\K l r n B f k c
def jaJ(bP bQ bR bS bT bU gX gY gZ hA hB hC w0 K)(h:UN bP bQ bR bS bT bU gX gY gZ hA hB hC w0 K):
  cl 85 #[(.agg #[(vi bP),(vi bQ),(vi bR),(vu bS),(vs bT),bU.v]),(.agg #[(vi gX),(vi gY),(vi gZ),(vu hA),(vs hB),hC.v])] w0<|fun e w'=>∃f b c g d a,e=.returned (Aa f b c g d a)/\K f b c g d a w':=
 cy func85 h<|cd 0<|cd 0<|cd 0<|cf<|lr 0<|cf<|lr 0<|cd 0<|dh 1<|dx 0<|cf<|gh<|dy
def Rr(s1:ByteArray)(k:World)(K:Int->Int->Int->Int->ByteArray->Sl->WP):Prop:=∀a b,au k (.cells #[(vi 0),(vi 0),(vi 0),(vu 0),ve,Sl.nil.v] 71) a b->(∀j,j<6->zL b (a.add j))/\∀c,c=bb b a [(vi 3),(vi 0),(vi 0),(vu 0),(vs s1),Sl.nil.v]->∃h g e f i d,Row c a (Af h g e f i d)/\K h g e f i d c
def V6(s1 w0 K)(h:Rr s1 w0 K):
  cl 86 #[(vs s1)] w0<|fun e w'=>∃f b c g d a,e=.returned (Aa f b c g d a)/\K f b c g d a w':=
 cy func86 h<|cd 0<|dh 2<|dx 0<|cf<|gh<|dy
def UZ(n1:Int)(k:World)(K:Int->Int->Int->Int->ByteArray->Sl->WP):Prop:=∀a b,au k (.cells #[(vi 0),(vi 0),(vi 0),(vu 0),ve,Sl.nil.v] 71) a b->(∀j,j<6->zL b (a.add j))/\∀c,c=bb b a [(vi 2),(vi 0),(vi 0),(vu n1),ve,Sl.nil.v]->∃h g e f i d,Row c a (Af h g e f i d)/\K h g e f i d c
def W7(n1 w0 K)(h:UZ n1 w0 K):
  cl 87 #[(vu n1)] w0<|fun e w'=>∃f b c g d a,e=.returned (Aa f b c g d a)/\K f b c g d a w':=
 cy func87 h<|cd 0<|dh 2<|dx 0<|cf<|gh<|dy
def Do(a:Int)(d a1 a2:Addr)(w:World)(K:Int->Int->Int->ByteArray->Bool->WP):Prop:=lu w (a1.add 2) fun h=>ls w (a1.add 3) fun g=>lb w (a1.add 4) fun r=>Br r ((∀j,j<5->zL w (d.add j))/\∀c,c=bb w d (Ae 4 a h g true)->∃k n l p dF,Row c d (Ae k n l p dF)/\K k n l p dF c)<|lb w (a2.add 4) fun q=>(∀j,j<5->zL w (d.add j))/\∀b,b=bb w d (Ae 4 a h g q)->∃m e f o i,Row b d (Ae m e f o i)/\K m e f o i b
def DK(r1:Option Addr)(a:Int)(d a1 a2:Addr)(e:Bool)(w:World)(K:Int->Int->Int->ByteArray->Bool->WP):Prop:=Br e (∃a4,r1=some a4/\zL w (a4.add 1)/\∀b,b=w.setCell (a4.add 1) (vb true)->Do a d a1 a2 b K)<|ls w (a1.add 3) fun f=>ls w (a2.add 3) fun g=>∃a5,r1=some a5/\zL w (a5.add 1)/\∀c,c=w.setCell (a5.add 1) (vb<|!(decide (f=g)))->Do a d a1 a2 c K
def CM(r1:Option Addr)(a:Int)(b a1 a2:Addr)(d:Bool)(w:World)(K:Int->Int->Int->ByteArray->Bool->WP):Prop:=Br d (DK r1 a b a1 a2 true w K)<|lu w (a1.add 2) fun e=>lu w (a2.add 2) fun c=>DK r1 a b a1 a2 (e !=c) w K
def D2(r1:Option Addr)(a:Int)(c a1 a2:Addr)(d:Bool)(w:World)(K:Int->Int->Int->ByteArray->Bool->WP):Prop:=Br d (CM r1 a c a1 a2 true w K)<|li w (a2.add 1) fun b=>CM r1 a c a1 a2 (b !=1) w K
def ry(r1:Option Addr)(a:Int)(c a1 a2:Addr)(w:World)(K:Int->Int->Int->ByteArray->Bool->WP):Prop:=∃a3,r1=some a3/\lb w (a3.add 1) fun d=>Br d (D2 r1 a c a1 a2 true w K)<|li w (a1.add 1) fun b=>D2 r1 a c a1 a2 (b !=0) w K
def BZ(r1:Option Addr)(a:Int)(g:Addr)(r3:Int)(x5:Bool)(w:World)(K:Int->Int->Int->ByteArray->Bool->WP):Prop:=Br x5 (cl 142 #[(vp r1),(vi r3),(vi 4)] w fun e w11=>∃bJ bK cW cX bC hD hE,e=.returned (Ac bJ bK cW cX bC hD hE)/\∀p2 J,au w11 (.cells #[(vi 0),(vi 0),(vi 0),(vu 0),ve,(vi 0),(vi 0)] 119) p2 J->(∀j,j<7->zL J (p2.add j))/\∀w13,w13=bb J p2 (Ab bJ bK cW cX bC hD hE)->∃b:WP,b w13.drew/\∀m,m=w13.drew->∃i,(∀w',b w'->w'.cell? (p2.add 5)=some (vi i))/\∃c,(∀w',b w'->w'.cell? (p2.add 6)=some (vi c))/\(cl 140 #[(vp r1),(vi i)] m fun e D=>∃Z O M Y V,e=.returned (Ag Z O M Y V)/\b D/\(cl 140 #[(vp r1),(vi c)] D fun e w20=>∃bV bW dX bX dY,e=.returned (Ag bV bW dX bX dY)/\(∀p3 T,au w20 (.cells #[(vi 0),(vi 0),(vu 0),ve,(vb false)] 35) p3 T->b T/\∀p4 l,au T (.cells #[(vi 0),(vi 0),(vu 0),ve,(vb false)] 35) p4 l->b l/\(∀j,j<5->zL l (p3.add j))/\∀F,F=bb l p3 (Ae Z O M Y V)->(∀j,j<5->zL F (p4.add j))/\∀w24,w24=bb F p4 (Ae bV bW dX bX dY)->ry r1 a g p3 p4 w24 K)/\(∀p5 G,au w20 (.cells #[(vi 0),(vi 0),(vu 0),ve,(vb false)] 35) p5 G->b G/\∀p6 C,au G (.cells #[(vi 0),(vi 0),(vu 0),ve,(vb false)] 35) p6 C->b C/\(∀j,j<5->zL C (p6.add j))/\∀W,W=bb C p6 (Ae Z O M Y V)->(∀j,j<5->zL W (p5.add j))/\∀w28,w28=bb W p5 (Ae bV bW dX bX dY)->ry r1 a g p6 p5 w28 K))/\(∀U E,au D (.cells #[(vi 0),(vi 0),(vu 0),ve,(vb false)] 35) U E->b E/\(cl 140 #[(vp r1),(vi c)] E fun e w30=>∃dR dS gQ dT gR,e=.returned (Ag dR dS gQ dT gR)/\∀p8 o,au w30 (.cells #[(vi 0),(vi 0),(vu 0),ve,(vb false)] 35) p8 o->b o/\(∀j,j<5->zL o (U.add j))/\∀w32,w32=bb o U (Ae Z O M Y V)->(∀j,j<5->zL w32 (p8.add j))/\∀w33,w33=bb w32 p8 (Ae dR dS gQ dT gR)->ry r1 a g U p8 w33 K)/\(∀p9 L,au E (.cells #[(vi 0),(vi 0),(vu 0),ve,(vb false)] 35) p9 L->b L/\cl 140 #[(vp r1),(vi c)] L fun e w35=>∃fH fI oH fJ oI,e=.returned (Ag fH fI oH fJ oI)/\(∀j,j<5->zL w35 (U.add j))/\∀w36,w36=bb w35 U (Ae Z O M Y V)->(∀j,j<5->zL w36 (p9.add j))/\∀w37,w37=bb w36 p9 (Ae fH fI oH fJ oI)->ry r1 a g U p9 w37 K))/\(∀h t,au D (.cells #[(vi 0),(vi 0),(vu 0),ve,(vb false)] 35) h t->b t/\(cl 140 #[(vp r1),(vi c)] t fun e w39=>∃dU dV oJ dW oK,e=.returned (Ag dU dV oJ dW oK)/\∀k x,au w39 (.cells #[(vi 0),(vi 0),(vu 0),ve,(vb false)] 35) k x->b x/\(∀j,j<5->zL x (k.add j))/\∀S,S=bb x k (Ae Z O M Y V)->(∀j,j<5->zL S (h.add j))/\∀w42,w42=bb S h (Ae dU dV oJ dW oK)->ry r1 a g k h w42 K)/\(∀p w43,au t (.cells #[(vi 0),(vi 0),(vu 0),ve,(vb false)] 35) p w43->b w43/\cl 140 #[(vp r1),(vi c)] w43 fun e w44=>∃dZ eA oL eB oM,e=.returned (Ag dZ eA oL eB oM)/\(∀j,j<5->zL w44 (p.add j))/\∀w45,w45=bb w44 p (Ae Z O M Y V)->(∀j,j<5->zL w45 (h.add j))/\∀w46,w46=bb w45 h (Ae dZ eA oL eB oM)->ry r1 a g p h w46 K)))/\(∀f s,au m (.cells #[(vi 0),(vi 0),(vu 0),ve,(vb false)] 35) f s->b s/\(cl 140 #[(vp r1),(vi i)] s fun e X=>∃eC eD hQ eE hR,e=.returned (Ag eC eD hQ eE hR)/\b X/\(cl 140 #[(vp r1),(vi c)] X fun e w49=>∃fS fT oN fU oO,e=.returned (Ag fS fT oN fU oO)/\∀B n,au w49 (.cells #[(vi 0),(vi 0),(vu 0),ve,(vb false)] 35) B n->b n/\(∀j,j<5->zL n (f.add j))/\∀w51,w51=bb n f (Ae eC eD hQ eE hR)->(∀j,j<5->zL w51 (B.add j))/\∀w52,w52=bb w51 B (Ae fS fT oN fU oO)->ry r1 a g f B w52 K)/\(∀u w53,au X (.cells #[(vi 0),(vi 0),(vu 0),ve,(vb false)] 35) u w53->b w53/\cl 140 #[(vp r1),(vi c)] w53 fun e w54=>∃fV fW oP fX oQ,e=.returned (Ag fV fW oP fX oQ)/\(∀j,j<5->zL w54 (f.add j))/\∀R,R=bb w54 f (Ae eC eD hQ eE hR)->(∀j,j<5->zL R (u.add j))/\∀w56,w56=bb R u (Ae fV fW oP fX oQ)->ry r1 a g f u w56 K))/\(∀z Q,au s (.cells #[(vi 0),(vi 0),(vu 0),ve,(vb false)] 35) z Q->b Q/\cl 140 #[(vp r1),(vi i)] Q fun e w58=>∃fY fZ oR gA oS,e=.returned (Ag fY fZ oR gA oS)/\b w58/\cl 140 #[(vp r1),(vi c)] w58 fun e w59=>∃gB gC oT gD oU,e=.returned (Ag gB gC oT gD oU)/\(∀j,j<5->zL w59 (f.add j))/\∀w60,w60=bb w59 f (Ae fY fZ oR gA oS)->(∀j,j<5->zL w60 (z.add j))/\∀w61,w61=bb w60 z (Ae gB gC oT gD oU)->ry r1 a g f z w61 K))/\(∀d r,au m (.cells #[(vi 0),(vi 0),(vu 0),ve,(vb false)] 35) d r->b r/\(cl 140 #[(vp r1),(vi i)] r fun e H=>∃eF eG hS eH hT,e=.returned (Ag eF eG hS eH hT)/\b H/\(cl 140 #[(vp r1),(vi c)] H fun e w64=>∃gE gF oV gG oW,e=.returned (Ag gE gF oV gG oW)/\∀q A,au w64 (.cells #[(vi 0),(vi 0),(vu 0),ve,(vb false)] 35) q A->b A/\(∀j,j<5->zL A (q.add j))/\∀w66,w66=bb A q (Ae eF eG hS eH hT)->(∀j,j<5->zL w66 (d.add j))/\∀w67,w67=bb w66 d (Ae gE gF oV gG oW)->ry r1 a g q d w67 K)/\(∀y w68,au H (.cells #[(vi 0),(vi 0),(vu 0),ve,(vb false)] 35) y w68->b w68/\cl 140 #[(vp r1),(vi c)] w68 fun e w69=>∃gH gI oX gJ oY,e=.returned (Ag gH gI oX gJ oY)/\(∀j,j<5->zL w69 (y.add j))/\∀w70,w70=bb w69 y (Ae eF eG hS eH hT)->(∀j,j<5->zL w70 (d.add j))/\∀w71,w71=bb w70 d (Ae gH gI oX gJ oY)->ry r1 a g y d w71 K))/\(∀v N,au r (.cells #[(vi 0),(vi 0),(vu 0),ve,(vb false)] 35) v N->b N/\cl 140 #[(vp r1),(vi i)] N fun e w73=>∃eI eJ oZ eK pA,e=.returned (Ag eI eJ oZ eK pA)/\b w73/\cl 140 #[(vp r1),(vi c)] w73 fun e w74=>∃gK gL pB gM pC,e=.returned (Ag gK gL pB gM pC)/\(∀j,j<5->zL w74 (v.add j))/\∀w75,w75=bb w74 v (Ae eI eJ oZ eK pA)->(∀j,j<5->zL w75 (d.add j))/\∀w76,w76=bb w75 d (Ae gK gL pB gM pC)->ry r1 a g v d w76 K))) (∃a6,r1=some a6/\zL w (a6.add 1)/\∀I,I=w.setCell (a6.add 1) (vb true)->(∀j,j<5->zL I (g.add j))/\∀P,P=bb I g (Aj 0 0 0 false)->∃cK cL dI cM dJ,Row P g (Ae cK cL dI cM dJ)/\K cK cL dI cM dJ P)
def ET(r1:Option Addr)(a b:Int)(d:Addr)(r2:ByteArray)(r3:Int)(l:Bool)(w:World)(K:Int->Int->Int->ByteArray->Bool->WP):Prop:=Br l (cl 189 #[(vp r1),(vi b)] w<|XP fun m n k=>(∀j,j<5->zL k (d.add j))/\∀c,c=bb k d (Ae 2 a m n false)->∃h i e g f,Row c d (Ae h i e g f)/\K h i e g f c) (Br (decide (r2=(⟨#[114,101,115,111,108,118,101]⟩:ByteArray))) (BZ r1 a d r3 (decide (a<=1)) w K)<|BZ r1 a d r3 false w K)
def EY(r1:Option Addr)(b a:Int)(c:Addr)(r2:ByteArray)(r3:Int)(m:Bool)(w:World)(K:Int->Int->Int->ByteArray->Bool->WP):Prop:=Br m (cl 189 #[(vp r1),(vi r3)] w<|XP fun l n e=>(∀j,j<5->zL e (c.add j))/\∀d,d=bb e c (Ae 6 0 l n false)->∃i f k g h,Row d c (Ae i f k g h)/\K i f k g h d) (Br (decide (r2=(⟨#[100,101,97,108]⟩:ByteArray))) (ET r1 b a c r2 r3 (decide (b<=1)) w K)<|ET r1 b a c r2 r3 false w K)
def Dv(r1:Option Addr)(b a:Int)(c:Addr)(r2:ByteArray)(r3:Int)(o:Bool)(w:World)(K:Int->Int->Int->ByteArray->Bool->WP):Prop:=Br o (cl 142 #[(vp r1),(vi r3),(vi 2)] w fun e l=>∃n r t h s q p,e=.returned (Ac n r t h s q p)/\(∀j,j<5->zL l (c.add j))/\∀d,d=bb l c (Aj 5 0 h false)->∃k i f g m,Row d c (Ae k i f g m)/\K k i f g m d) (Br (decide (r2=(⟨#[105,110,115,116,101,97,100]⟩:ByteArray))) (EY r1 b a c r2 r3 (b==2) w K)<|EY r1 b a c r2 r3 false w K)
def FB(r1:Option Addr)(b a:Int)(c:Addr)(r2:ByteArray)(r3:Int)(n:Bool)(w:World)(K:Int->Int->Int->ByteArray->Bool->WP):Prop:=Br n (cl 142 #[(vp r1),(vi r3),(vi 2)] w fun e i=>∃r o p l q s t,e=.returned (Ac r o p l q s t)/\(∀j,j<5->zL i (c.add j))/\∀d,d=bb i c (Aj 3 0 l false)->∃f k g m h,Row d c (Ae f k g m h)/\K f k g m h d) (Br (decide (r2=(⟨#[97,98,111,114,116,101,100]⟩:ByteArray))) (Dv r1 b a c r2 r3 (b==2) w K)<|Dv r1 b a c r2 r3 false w K)
def LL(r1:Option Addr)(b a:Int)(f:World)(K:Int->Int->Int->ByteArray->Bool->WP):Prop:=∀c d,au f (.cells #[(vi 0),(vi 0),(vu 0),ve,(vb false)] 35) c d->cl 141 #[(vp r1),(vi a)] d (XO fun r2 r3 e=>Br (decide (r2=(⟨#[97,98,111,114,116]⟩:ByteArray))) (FB r1 b a c r2 r3 (b==0) e K)<|FB r1 b a c r2 r3 false e K)
def VQ(r1 who1 body1 w0 K)(h:LL r1 who1 body1 w0 K):
  cl 139 #[(vp r1),(vi who1),(vi body1)] w0<|fun e w'=>∃z t o m s,e=.returned (Ag z t o m s)/\K z t o m s w':=
 cy func139 h<|cd 0<|kz 2 call141<|mc 5 0 [0,1,2,6,7,8] (fun k=>[(22,(vb k))]) (fun k w=>FB _ _ _ _ _ _ k w _) (fun v=>br 1 3 (de 4 v)<|de 4 v)<|fun {k}=>br 0 0 (cc 3 call142<|cf<|xe<|rt<|ev<|dh 2<|dx 0<|gw<|gh<|dy)<|mc 1 0 [0,1,2,6,7,8] (fun d=>[(34,(vb d))]) (fun d w=>Dv _ _ _ _ _ _ d w _) (fun u=>br 1 3 (de 4 u)<|de 4 u)<|fun {d}=>br 0 0 (cc 3 call142<|cf<|xe<|rt<|ev<|dh 2<|dx 0<|gw<|gh<|dy)<|mc 1 0 [0,1,2,6,7,8] (fun i=>[(46,(vb i))]) (fun i w=>EY _ _ _ _ _ _ i w _) (fun r=>br 1 3 (de 4 r)<|de 4 r)<|fun {i}=>br 0 0 (kz 3 call189<|dh 8<|dx 0<|gw<|gh<|dy)<|mc 1 0 [0,1,2,6,7,8] (fun f=>[(62,(vb f))]) (fun f w=>ET _ _ _ _ _ _ f w _) (fun y=>br 1 3 (de 4 y)<|de 4 y)<|fun {f}=>br 0 0 (kz 3 call189<|dh 9<|dx 0<|gw<|gh<|dy)<|mc 1 0 [0,1,6,8] (fun g=>[(79,(vb g))]) (fun g w=>BZ _ _ _ _ g w _) (fun q=>br 1 3 (de 4 q)<|de 4 q)<|fun {g}=>br 0 0 (cc 3 call142<|cf<|xe<|rt<|ev<|cd 0<|dh 0<|WM 0 0 [0,1,6] (fun a1 a2=>[(14,(vp<|some a1)),(15,(vp<|some a2))]) (fun a1 a2 w=>ry _ _ _ a1 a2 w _) (fun a=>sO 0 [3,7,8,9,10,11] [7,10,11]<|ik 2<|ik 2<|Ms 0 (cc 0 call140<|gw<|rt<|jx<|Ms 0 (sE 0 call140<|uo 0 (o0 0<|o0 0<|dh 0<|dh 0<|de 0 a)<|o0 0<|o0 0<|dh 0<|dh 0<|de 0 a) (o0 0<|uo 0 (sE 0 call140<|o0 0<|dh 0<|dh 0<|de 0 a)<|o0 0<|sE 0 call140<|dh 0<|dh 0<|de 0 a)<|o0 0<|uo 0 (sE 0 call140<|o0 0<|dh 0<|dh 0<|de 0 a)<|o0 0<|sE 0 call140<|dh 0<|dh 0<|de 0 a) (o0 0<|uo 0 (cc 0 call140<|gw<|rt<|jx<|uo 0 (sE 0 call140<|o0 0<|dh 0<|dh 0<|de 0 a)<|o0 0<|sE 0 call140<|dh 0<|dh 0<|de 0 a)<|o0 0<|cc 0 call140<|gw<|rt<|jx<|sE 0 call140<|dh 0<|dh 0<|de 0 a)<|o0 0<|uo 0 (cc 0 call140<|gw<|rt<|jx<|uo 0 (sE 0 call140<|o0 0<|dh 0<|dh 0<|de 0 a)<|o0 0<|sE 0 call140<|dh 0<|dh 0<|de 0 a)<|o0 0<|cc 0 call140<|gw<|rt<|jx<|sE 0 call140<|dh 0<|dh 0<|de 0 a)<|fun {a1 a2}=>Eh 0 0 [1,6,14,15] ([]) (fun w=>Do _ _ _ _ w _) (fun x=>nc 2<|ld 1<|ct 1 4<|mc 0 0 [1,6,14,15,97] (fun l=>[(106,(vb l))]) (fun l w=>D2 _ _ _ _ _ l w _) (fun n=>br 1 0 (de 4 n)<|ld 1<|de 2 n)<|fun {l}=>ct 1 4<|mc 0 0 [1,6,14,15,97] (fun j=>[(111,(vb j))]) (fun j w=>CM _ _ _ _ _ j w _) (fun p=>br 1 0 (de 4 p)<|ld 1<|de 2 p)<|fun {j}=>ct 1 6<|mc 0 0 [1,6,14,15,97] (fun c=>[(118,(vb c))]) (fun c w=>DK _ _ _ _ _ c w _) (fun b=>br 1 0 (de 6 b)<|ld 1<|ld 1<|de 2 b)<|fun {c}=>br 1 1 (nc 6<|gv 1<|de 0 x)<|ld 1<|ld 1<|nc 2<|gv 1<|de 0 x)<|ld 2<|ld 1<|ld 1<|br 1 1 (dh 4<|dx 0<|gw<|gh<|dy)<|ld 1<|dh 2<|dx 0<|gw<|gh<|dy)<|nc 2<|gv 1<|dh 1<|dx 0<|gw<|gh<|dy
def Jf(r1:Option Addr)(d c:Addr)(w:World)(K:Int->Int->Int->ByteArray->Bool->WP):Prop:=li w (c.add 5) fun m=>cl 189 #[(vp r1),(vi m)] w<|XP fun r3 l a=>li a (c.add 1) fun n=>li a c fun k=>(∀j,j<5->zL a (d.add j))/\∀b,b=bb a d (Ae 1 n r3 l<|k==9)->∃h g e i f,Row b d (Ae h g e i f)/\K h g e i f b
def Eu(r1:Option Addr)(a f:Addr)(r:Bool)(w:World)(K:Int->Int->Int->ByteArray->Bool->WP):Prop:=Br r (∃a2,r1=some a2/\zL w (a2.add 1)/\∀d,d=w.setCell (a2.add 1) (vb true)->(∀j,j<5->zL d (a.add j))/\∀c,c=bb d a (Aj 0 0 0 false)->∃h l k q p,Row c a (Ae h l k q p)/\K h l k q p c)<|li w (f.add 2) fun s=>li w (f.add 1) fun t=>Br (s !=(q6.wrap<|1-t)) (∃a3,r1=some a3/\zL w (a3.add 1)/\∀e,e=w.setCell (a3.add 1) (vb true)->(∀j,j<5->zL e (a.add j))/\∀b,b=bb e a (Aj 0 0 0 false)->∃o n i g m,Row b a (Ae o n i g m)/\K o n i g m b)<|Jf r1 a f w K
def DD(r1:Option Addr)(b a:Addr)(d:Bool)(w:World)(K:Int->Int->Int->ByteArray->Bool->WP):Prop:=Br d (Eu r1 b a true w K)<|li w (a.add 1) fun c=>Eu r1 b a (decide (c>1)) w K
def Nm(r1:Option Addr)(s:Int)(q:World)(K:Int->Int->Int->ByteArray->Bool->WP):Prop:=∀c d,au q (.cells #[(vi 0),(vi 0),(vu 0),ve,(vb false)] 35) c d->∃a1,r1=some a1/\lp d a1 fun p=>cl 109 #[(vp p),(vi s)] d fun e t=>∃k g h l i m n r2,e=.returned (.tuple #[(Ac k g h l i m n),(vb r2)])/\∀a f,au t (.cells #[(vi 0),(vi 0),(vi 0),(vu 0),ve,(vi 0),(vi 0)] 119) a f->(∀j,j<7->zL f (a.add j))/\∀b,b=bb f a (Ab k g h l i m n)->li b a fun r=>Br (r !=8) (li b a fun o=>DD r1 c a (o !=9) b K)<|DD r1 c a false b K
def Y2(r1 t1 w0 K)(h:Nm r1 t1 w0 K):
  cl 140 #[(vp r1),(vi t1)] w0<|fun e w'=>∃c g k j i,e=.returned (Ag c g k j i)/\K c g k j i w':=
 cy func140 h<|cd 0<|nc 1<|ld 1<|cc 1 call109<|cf<|dt<|rt<|ev<|cd 3<|dh 0<|Eh 1 1 [0,4,5] ([]) (fun w=>Jf _ _ _ w _) (fun l=>ld 1<|ct 2 4<|mc 0 0 [0,4,5] (fun b=>[(25,(vb b))]) (fun b w=>DD _ _ _ b w _) (fun f=>br 1 0 (ld 1<|de 2 f)<|de 4 f)<|fun {b}=>ct 1 4<|mc 0 0 [0,4,5] (fun a=>[(30,(vb a))]) (fun a w=>Eu _ _ _ a w _) (fun d=>br 1 0 (de 4 d)<|ld 1<|de 2 d)<|fun {a}=>br 1 1 (nc 9<|gv 1<|dh 1<|dx 0<|gw<|gh<|dy)<|ld 1<|ld 1<|br 0 3 (nc 2<|gv 1<|dh 1<|dx 0<|gw<|gh<|dy)<|de 1 l)<|ld 2<|kz 0 call189<|ld 6<|ld 3<|dh 2<|dx 0<|gw<|gh<|dy
def QQ(r1:Option Addr)(A:Int)(x:World)(K:ByteArray->Int->WP):Prop:=cl 142 #[(vp r1),(vi A),(vi 4)] x fun e z=>∃f n k p r l h,e=.returned (Ac f n k p r l h)/\∀a d,au z (.cells #[(vi 0),(vi 0),(vi 0),(vu 0),ve,(vi 0),(vi 0)] 119) a d->(∀j,j<7->zL d (a.add j))/\∀c,c=bb d a (Ab f n k p r l h)->∃b:WP,b c.drew/\∀q,q=c.drew->∃m,(∀w',b w'->w'.cell? (a.add 5)=some (vi m))/\∃i,(∀w',b w'->w'.cell? (a.add 6)=some (vi i))/\cl 142 #[(vp r1),(vi m),(vi 3)] q fun e g=>∃s v w t o y u,e=.returned (Ac s v w t o y u)/\b g/\K o i g
def Vf(r1 t1 w0 K)(h:QQ r1 t1 w0 K):
  cl 141 #[(vp r1),(vi t1)] w0<|XO K:=
 cy func141 h<|cc 4 call142<|cf<|xe<|rt<|ev<|cd 0<|dh 0<|sO 0 [3] []<|ik 2<|ik 1<|cc 0 call142<|cf<|xe<|rt<|jx<|rr 3
def KA(r1:Option Addr)(t1 c:Int)(Z:World)(K:Int->Int->Int->Int->ByteArray->Int->Int->WP):Prop:=∀a m,au Z (.cells #[(vi 0),(vi 0),(vi 0),(vu 0),ve,(vi 0),(vi 0)] 119) a m->∃a1,r1=some a1/\lp m a1 fun X=>cl 109 #[(vp X),(vi t1)] m fun e Y=>∃q J y O U C u r2,e=.returned (.tuple #[(Ac q J y O U C u),(vb r2)])/\∀d h,au Y (.cells #[(vi 0),(vi 0),(vi 0),(vu 0),ve,(vi 0),(vi 0)] 119) d h->(∀j,j<7->zL h (d.add j))/\∀b,b=bb h d (Ab q J y O U C u)->Br (!r2) (∃a2,r1=some a2/\zL b (a2.add 1)/\∀f,f=b.setCell (a2.add 1) (vb true)->(∀j,j<7->zL f (a.add j))/\∀g,g=bb f a [(vi 0),(vi 0),(vi 0),(vu 0),ve,(vi 0),(vi 0)]->∃D N I T t z E,Row g a (Ab D N I T t z E)/\K D N I T t z E g) (li b d fun W=>Br (W !=c) (∃a3,r1=some a3/\zL b (a3.add 1)/\∀k,k=b.setCell (a3.add 1) (vb true)->(∀j,j<7->zL k (a.add j))/\∀i,i=bb k a [(vi 0),(vi 0),(vi 0),(vu 0),ve,(vi 0),(vi 0)]->∃p A dP H V L F,Row i a (Ab p A dP H V L F)/\K p A dP H V L F i)<|∃S w n P G v x,Row b d (Ab S w n P G v x)/\(∀j,j<7->zL b (a.add j))/\∀l,l=bb b a (Ab S w n P G v x)->∃M B Q R o r s,Row l a (Ab M B Q R o r s)/\K M B Q R o r s l)
def jaA(r1 t1 kind1 w0 K)(h:KA r1 t1 kind1 w0 K):
  cl 142 #[(vp r1),(vi t1),(vi kind1)] w0<|fun e w'=>∃a f i d g c b,e=.returned (Ac a f i d g c b)/\K a f i d g c b w':=
 cy func142 h<|cd 0<|nc 1<|ld 1<|cc 1 call109<|cf<|dt<|rt<|ev<|cd 3<|dh 0<|br 1 4 (nc 7<|gv 1<|dh 1<|dx 0<|cf<|xe<|gh<|dy)<|ld 1<|br 0 3 (nc 2<|gv 1<|dh 1<|dx 0<|cf<|xe<|gh<|dy)<|cf<|xe<|lr 1<|dh 0<|dx 0<|cf<|xe<|gh<|dy
def DL(r1:Option Addr)(g:Addr)(w:World)(K:Int->ByteArray->WP):Prop:=∃a:WP,a w.drew/\∀c,c=w.drew->∃i,(∀w',a w'->w'.cell? (g.add 5)=some (vi i))/\∃f,(∀w',a w'->w'.cell? (g.add 6)=some (vi f))/\cl 142 #[(vp r1),(vi i),(vi 2)] c fun e d=>∃k o r b q t n,e=.returned (Ac k o r b q t n)/\a d/\cl 142 #[(vp r1),(vi f),(vi 3)] d fun e h=>∃l bK u m j p s,e=.returned (Ac l bK u m j p s)/\a h/\K b j h
def Lt(r1:Option Addr)(q:Int)(o:World)(K:Int->ByteArray->WP):Prop:=cl 141 #[(vp r1),(vi q)] o fun e p=>∃r2 r3,e=.returned (.tuple #[(vs r2),(vi r3)])/\cl 142 #[(vp r1),(vi r3),(vi 4)] p fun e r=>∃h d f l g m n,e=.returned (Ac h d f l g m n)/\∀b c,au r (.cells #[(vi 0),(vi 0),(vi 0),(vu 0),ve,(vi 0),(vi 0)] 119) b c->(∀j,j<7->zL c (b.add j))/\∀a,a=bb c b (Ab h d f l g m n)->∃a1,r1=some a1/\lb a (a1.add 1) fun s=>Br s (∃a2,r1=some a2/\zL a (a2.add 1)/\∀i,i=a.setCell (a2.add 1) (vb true)->DL r1 b i K)<|∃a3,r1=some a3/\zL a (a3.add 1)/\∀k,k=a.setCell (a3.add 1) (vb<|!(decide (r2=(⟨#[100,101,97,108]⟩:ByteArray))))->DL r1 b k K
def VN(r1 t1 w0 K)(h:Lt r1 t1 w0 K):
  cl 189 #[(vp r1),(vi t1)] w0<|XP K:=
 cy func189 h<|kz 4 call141<|cc 7 call142<|cf<|xe<|rt<|ev<|cd 0<|dh 0<|Eh 0 0 [0,8] ([]) (fun w=>DL _ _ w _) (fun a=>nc 2<|ld 1<|br 1 1 (nc 3<|gv 1<|de 0 a)<|nc 3<|gv 1<|de 0 a)<|sO 0 [3,8] []<|ik 2<|ik 2<|cc 0 call142<|cf<|xe<|rt<|jx<|cc 1 call142<|cf<|xe<|rt<|jx<|rr 3
end Go.Proofs
end
section
open Go Go.SE List
namespace Go.Proofs
def yN(x:ByteArray):bt:=.mk 3 0 0 0 x []
def jz(n:Int):bt:=.mk 2 0 0 n ⟨#[]⟩ []
def uT(a b:bt):bt:=.mk 4 0 0 0 ⟨#[]⟩ [a,b]
def xE(n:Int)(a:bt):bt:=.mk 7 n 0 0 ⟨#[]⟩ [a]
def uX(n:Int)(a:bt)(dz:Bool):bt:=.mk (if dz then 9 else 8) n (1-n) 0 ⟨#[]⟩ [a]
def qe:ByteArray:=⟨#[100,101,97,108]⟩
def yD(c:Int)(x:ByteArray):bt:=uT (yN qe)<|uT (jz c)<|yN x
end Go.Proofs
namespace Go.Proofs
open Tryz
attribute [local irreducible] Calls
def cr.leaf{S w k f t u x}:cr S w Sl.nil (.mk k f t u x []):=
 .mk k f t u x [] Sl.nil (fun _=>Sl.nil) rfl Sm (fun i h=>by simp at h) (fun i h=>by simp at h)
def cr.one{S w k f t u x p A sa T}(hB:ai w p (tE A sa) T)(hS:S p.block)(a:cr S w sa A):cr S w ⟨some p,1,1⟩ (.mk k f t u x [A]):=by
 refine .mk k f t u x [A] _ (fun _=>sa) rfl Sm (fun i h=>?_) fun i h=>?_;have:i=0:=by simpa using h
 subst this;exact⟨p,⟨Om,Sm,p,rfl,rfl⟩,hS,hB.row⟩;grind
def cr.ke{S w k f t u x p A B sa sb T}(hB:ai w p (tE A sa++tE B sb) T)(hS:S p.block)(c:cr S w sa A)(b:cr S w sb B):cr S w ⟨some p,2,2⟩ (.mk k f t u x [A,B]):=by
 refine .mk k f t u x [A,B] _ (fun i=>if i=0 then sa else sb) rfl Sm (fun i h=>?_) fun i h=>?_;have:i=0\/i=1:=by simp at h;omega
 rcases this with rfl|rfl;refine⟨p,⟨Om,Sm,p,rfl,rfl⟩,hS,fun i hi=>?_⟩;have:=hB.row i (by simp[tE]at hi|-;omega);have a:i<6:=by simpa[tE]using hi
 rw[this];exact getElem?_append_left (by simp[tE];omega);refine⟨p.add<|1*6,⟨Om,Sm,p,rfl,rfl⟩,by rw[zC];exact hS,fun i hi=>?_⟩;have a:i<6:=by simpa[tE]using hi
 have:=hB.row (6+i) (by simp[tE];omega);rw[yL,this,getElem?_append_right<|by simp[tE]];simp[tE];grind
abbrev wH(a:Nat)(w:World)(T:bt)(e:Ending)(w':World):Prop:=∃s,e=.returned (.agg (tE T s).toArray)/\cr (a<=·) w' s T/\Pure w w'
def uI(n0 x w)(g:n0<=w.heap.size):cl 86 #[vs x] w (wH n0 w<|yN x):=by
 refine(V6 x w (fun k f t u y s w'=>(⟨k,f,t,u,y,0,0⟩:df)=(yN x).node/\cr (n0<=·) w' s (yN x)/\Pure w w') ?_).mono ?_;intro d e h1;exact bx 6 (ai.bh h1) rfl rfl fun w' b E=>⟨_,_,_,_,_,Sl.nil,b.row,rfl,cr.leaf,ab.ak (ab.aw h1) (au.ak (ab.refl w) h1) E⟩;rintro _ w' ⟨k,f,t,u,y,s,rfl,c,a,E⟩;cases c;exact⟨s,rfl,a,E⟩
def tA(n0 n w)(g:n0<=w.heap.size):cl 87 #[vu n] w (wH n0 w<|jz n):=by
 refine(W7 n w (fun k f t u y s w'=>(⟨k,f,t,u,y,0,0⟩:df)=(jz n).node/\cr (n0<=·) w' s (jz n)/\Pure w w') ?_).mono ?_;intro d e h1;exact bx 6 (ai.bh h1) rfl rfl fun w' b E=>⟨_,_,_,_,_,Sl.nil,b.row,rfl,cr.leaf,ab.ak (ab.aw h1) (au.ak (ab.refl w) h1) E⟩;rintro _ w' ⟨k,f,t,u,y,s,rfl,c,a,E⟩;cases c;exact⟨s,rfl,a,E⟩
def yO(n0 A B sa sb w)(D:n0<=w.heap.size)(n:cr (n0<=·) w sa A)(hB:cr (n0<=·) w sb B):
  cl 85 #[.agg (tE A sa).toArray,.agg (tE B sb).toArray] w<|wH n0 w<|uT A B:=by
 refine(jaJ _ _ _ _ _ sa _ _ _ _ _ sb w (fun k f t u y s w'=>(⟨k,f,t,u,y,0,0⟩:df)=(uT A B).node/\cr (n0<=·) w' s (uT A B)/\Pure w w') ?_).mono ?_
 intro z v h1 F i h2 o c h3
 have x:Pure w v:=ab.aw h1
 have h:=x.trans<|ab.aw h2
 have e:Pure w c:=h.trans<|ab.aw h3
 have b1:=((ai.bh h1).pure<|ab.aw h2).pure (ab.aw h3:Pure i c)
 have b2:=(ai.bh h2).pure (ab.aw h3:Pure i c)
 refine⟨_,_,_,_,_,sa,b1.row,_,_,_,_,_,sb,b2.row,?_⟩
 intro q r a
 have l:=au.ak h h3
 have d:o.block≠q.block:=au.ne a (ai.bh h3).ao
 have j:Pure w r:=e.trans<|ab.aw a
 have C:=au.ak e a
 refine bx 6 ((ai.bh h3).pure<|ab.aw a) rfl rfl fun w' b E=>⟨_,_,_,_,_,_,b.row,rfl,?_,j.ak l E⟩
 have b4:=(ai.bh a).ext E d.symm
 have g:=j.ak l E
 refine cr.ke (A:=A) (B:=B) (sa:=sa) (sb:=sb) b4 (by show n0<=_;omega) (n.pure g)<|hB.pure g
 rintro _ w' ⟨k,f,t,u,y,s,rfl,m,p,E⟩
 cases m;exact⟨s,rfl,p,E⟩
def tH(n0 n A sa w)(B:n0<=w.heap.size)(l:cr (n0<=·) w sa A):
  cl 84 #[vi n,.agg (tE A sa).toArray] w<|wH n0 w<|xE n A:=by
 refine(Ti n _ _ _ _ _ sa w (fun k f t u y s w'=>(⟨k,f,t,u,y,0,0⟩:df)=(xE n A).node/\cr (n0<=·) w' s (xE n A)/\Pure w w') ?_).mono ?_
 intro z e h1 p i h3
 have j:Pure w e:=ab.aw h1
 have g:Pure w i:=j.trans<|ab.aw h3
 have b1:=(ai.bh h1).pure (ab.aw h3:Pure e i)
 refine⟨_,_,_,_,_,sa,b1.row,?_⟩
 intro o r a
 have h:=au.ak j h3
 have c:p.block≠o.block:=au.ne a (ai.bh h3).ao
 have d:Pure w r:=g.trans<|ab.aw a
 have x:=au.ak g a
 refine bx 6 ((ai.bh h3).pure<|ab.aw a) rfl rfl fun w' b E=>⟨_,_,_,_,_,_,b.row,rfl,?_,d.ak h E⟩
 have b4:=(ai.bh a).ext E c.symm
 have q:=d.ak h E
 exact cr.one (A:=A) (sa:=sa) b4 (by show n0<=_;omega)<|l.pure q
 rintro _ w' ⟨k,f,t,u,y,s,rfl,v,m,E⟩
 cases v;exact⟨s,rfl,m,E⟩
def uH(n0 n)(z:n=0\/n=1)(A dz sa w)(F:n0<=w.heap.size)(o:cr (n0<=·) w sa A):
  cl 83 #[vi n,.agg (tE A sa).toArray,vb dz] w<|wH n0 w<|uX n A dz:=by
 refine(VW n _ _ _ _ _ sa dz w (fun k f t u y s w'=>(⟨k,f,t,u,y,0,0⟩:df)=(uX n A dz).node/\cr (n0<=·) w' s (uX n A dz)/\Pure w w') ?_).mono ?_
 .intro C i h1 p e h3
  have l:Pure w i:=ab.aw h1
  have d:Pure w e:=l.trans<|ab.aw h3
  have b1:=(ai.bh h1).pure (ab.aw h3:Pure i e)
  have x:IntKind.i64.wrap (1-n)=1-n:=i64 Om Om
  rw[x]
  refine⟨fun h=>⟨_,_,_,_,_,sa,b1.row,?_⟩,fun h=>⟨_,_,_,_,_,sa,b1.row,?_⟩⟩
  all_goals
   intro v B a
   have j:=au.ak l h3
   have c:p.block≠v.block:=au.ne a (ai.bh h3).ao
   have g:Pure w B:=d.trans<|ab.aw a
   have D:=au.ak d a
   refine bx 6 ((ai.bh h3).pure<|ab.aw a) rfl rfl fun w' b E=>⟨_,_,_,_,_,_,b.row,by rw[h];rfl,?_,g.ak j E⟩
   have b4:=(ai.bh a).ext E c.symm
   have q:=g.ak j E
   exact cr.one (A:=A) (sa:=sa) b4 (by show n0<=_;omega)<|o.pure q
 .rintro _ w' ⟨k,f,t,u,y,s,rfl,m,r,E⟩
  cases m;exact⟨s,rfl,r,E⟩
def VA(n0 c x w)(L:n0<=w.heap.size):cl 82 #[vu c,vs x] w (wH n0 w<|yD c x):=by
 refine(jbI c x w (fun k f t u y s w'=>(⟨k,f,t,u,y,0,0⟩:df)=(yD c x).node/\cr (n0<=·) w' s (yD c x)/\Pure w w') ?_).mono ?_;intro I a h1;have m:Pure w a:=ab.aw h1;have o1:=au.ak (ab.refl w) h1;have s1:w.heap.size<=a.heap.size:=m.size;refine(uI a.heap.size _ a Om).mono ?_;rintro _ B ⟨sa,rfl,r,l⟩;have M:=l.size;refine⟨_,_,_,_,_,sa,rfl,?_⟩;refine(tA a.heap.size c B Om).mono ?_;rintro _ v ⟨sb,rfl,hB,h⟩;have N:=h.size;refine⟨_,_,_,_,_,sb,rfl,?_⟩;refine(uI a.heap.size x v Om).mono ?_;rintro _ D ⟨sc,rfl,A,d⟩;have J:=d.size;refine⟨_,_,_,_,_,sc,rfl,?_⟩;refine(yO a.heap.size (jz c) (yN x) sb sc D Om (hB.pure d) A).mono ?_;rintro _ o ⟨j,rfl,C,g⟩;have K:=g.size;refine⟨_,_,_,_,_,j,rfl,?_⟩;refine(yO a.heap.size (yN qe) (uT (jz c)<|yN x) sa j o Om (((r.pure h).pure d).pure g) C).mono ?_;rintro _ q ⟨i,rfl,G,H⟩;have E:Pure a q:=(((l.trans h).trans d).trans g).trans H;refine⟨_,_,_,_,_,i,rfl,?_⟩;refine bx 6 ((ai.bh h1).pure E) rfl rfl fun w' b n=>⟨_,_,_,_,_,i,b.row,rfl,?_,(m.trans E).ak o1 n⟩;exact(G.ext n fun b F e=>by have:=(ai.bh h1).lt;have:a.heap.size<=b:=F;omega).mono Gd;rintro _ w' ⟨k,f,t,u,y,s,rfl,p,z,E⟩;cases p;exact⟨s,rfl,z,E⟩
end Go.Proofs
end
section
open Go Go.SE List
namespace Go.Proofs
structure eo where
 kind:Int
 ay:Int
 c:Int
 ba:ByteArray
 dz:Bool
deriving DecidableEq
def xq:eo:=⟨0,0,0,⟨#[]⟩,false⟩
def qj:ByteArray:=⟨#[97,98,111,114,116]⟩
def uJ:ByteArray:=⟨#[114,101,115,111,108,118,101]⟩
def yX:ByteArray:=⟨#[97,98,111,114,116,101,100]⟩
def uK:ByteArray:=⟨#[105,110,115,116,101,97,100]⟩
def xz:ByteArray:=⟨#[102,117,108,108]⟩
def zU(l:eo)(first a:Bool):bt:=
 if l.kind=1 then uX l.ay (yD l.c l.ba) l.dz
 else if l.kind=2 then xE l.ay (yD l.c l.ba)
 else if l.kind=3 then xE 0 (uT (yN qj)<|jz l.c)
 else if l.kind=4 then xE l.ay (uT (yN uJ)<|uT (uX 0 (yD l.c l.ba)<|l.dz&&first) (uX 1 (yD l.c l.ba)<|l.dz&&a))
 else if l.kind=5 then xE 2 (uT (yN yX)<|jz l.c)
 else if l.kind=6 then xE 2 (uT (yN uK)<|yD l.c l.ba)
 else uT (yN xz) (jz l.c)
end Go.Proofs
namespace Go.Proofs
open Tryz
attribute [local irreducible] Calls
def N7(n0 k f c x dz first second w)(h0:n0<=w.heap.size)(hf:f=0\/f=1):
  cl 25 #[.agg #[vi k,vi f,vu c,vs x,vb dz],vb first,vb second] w (wH n0 w<|zU ⟨k,f,c,x,dz⟩ first second):=by
 generalize hR:zU ⟨k,f,c,x,dz⟩ first second=R
 suffices key:∀K:Int->Int->Int->Int->ByteArray->Sl->WP,(∀s w',cr (n0<=·) w' s R/\Pure w w'->K R.node.kind R.node.ay R.node.to R.node.num R.node.ba s w')->NQ k f c x dz first second w K by
  refine(Va k f c x dz first second w (fun k f t u y s w'=>(k=R.node.kind/\f=R.node.ay/\t=R.node.to/\u=R.node.num/\y=R.node.ba)/\cr (n0<=·) w' s R/\Pure w w') (key _ Gd)).mono ?_;rintro _ w' ⟨k,f,t,u,y,s,rfl,⟨rfl,rfl,rfl,rfl,rfl⟩,Q,E⟩;exact⟨s,rfl,Q,E⟩
 intro K hK
 intro p1 w1 h1 p2 n h2
 have E1:Pure w w1:=ab.aw h1
 have E2:Pure w n:=E1.trans<|ab.aw h2
 have o2:=au.ak E1 h2
 have a1:=(ai.bh h1).pure (ab.aw h2:Pure w1 n)
 have a2:=ai.bh h2
 have l1:=a1.lt
 have l2:=a2.lt
 have s2:=E2.size
 clear h1 h2
 refine⟨_,a1.cell rfl,_,a1.cell rfl,?_⟩
 refine(VA n.heap.size c x n<|Nat.le_refl _).mono ?_
 rintro _ w3 ⟨O,rfl,hD,E3⟩
 refine⟨_,_,_,_,_,O,rfl,?_⟩
 intro p3 w4 h4
 have o3:=au.ak (ab.refl w3) h4
 refine bx 6 (ai.bh h4) rfl rfl fun M b3 E'=>?_
 have E5:Pure w3 M:=ab.ak (ab.aw h4) o3 E'
 have Z:=hD.pure E5
 have E25:Pure n M:=E3.trans E5
 have s5:=E25.size
 have b1:=a1.pure E25
 have b3:ai M p3 (tE (yD c x) O) 71:=b3
 clear E' h4 E5 hD E3
 have S : ∀ (T : bt) (s : Sl) (w' : World), Pure M w' -> cr (n.heap.size <= ·) w' s T -> T = R ->
   (∀j,j<6->zL w' (p2.add j))/\∀A:World,A=bb w' p2 (tE T s) ->
   ∃q:Int,∃r:Int,∃N:Int,∃I:Int,∃z:ByteArray,∃p:Sl,Row A p2 [(vi q),(vi r),(vi N),(vu I),(vs z),p.v]/\K q r N I z p A:=by
  rintro T s w' E Q rfl
  refine bx 6 (a2.pure<|E25.trans E) rfl rfl fun A b E'=>⟨_,_,_,_,_,s,b.row,hK s A ⟨?_,(E2.trans<|E25.trans E).ak o2 E'⟩⟩
  exact(Q.ext E' Gd).mono Gd
 have drawn:∃C:WP,C M.drew/\(∀w' A,Pure w' A->C w'->C A)/\(∀w',C w'->ai w' p1 [vi k,vi f,vu c,vs x,vb dz] 35/\ai w' p3 (tE (yD c x) O) 71):=
  ⟨fun w'=>ai w' p1 [vi k,vi f,vu c,vs x,vb dz] 35/\ai w' p3 (tE (yD c x) O) 71,⟨b1.pure<|ab.drew M,b3.pure<|ab.drew M⟩,fun _ _ E h=>⟨h.1.pure E,h.2.pure E⟩,fun _ h=>h⟩
 have⟨C,X,G,L⟩:=drawn
 refine⟨k,b1.bd,fun D=>?_,fun hk1=>⟨fun D=>?_,fun hk2=>⟨fun D=>?_,fun hk3=>⟨fun D=>?_,fun hk4=>⟨fun D=>?_,fun hk5=>⟨fun D=>?_,fun hk6=>?_⟩⟩⟩⟩⟩⟩
 .have D:k=1:=by simpa using D
  refine⟨f,b1.cell rfl,_,_,_,_,_,O,b3.row,dz,b1.cell rfl,?_⟩
  refine(uH n.heap.size f hf (yD c x) dz O M s5 Z).mono ?_
  rintro _ w6 ⟨s,rfl,Q,E6⟩
  exact⟨_,_,_,_,_,s,rfl,S _ s w6 E6 Q (by rw[<-hR];simp only[zU];rw[if_pos D])⟩
 .have D:k=2:=by simpa using D
  refine⟨f,b1.cell rfl,_,_,_,_,_,O,b3.row,?_⟩
  refine(tH n.heap.size f (yD c x) O M s5 Z).mono ?_
  rintro _ w6 ⟨s,rfl,Q,E6⟩
  exact⟨_,_,_,_,_,s,rfl,S _ s w6 E6 Q (by rw[<-hR];simp only[zU];rw[if_neg Om,if_pos D])⟩
 .have D:k=3:=by simpa using D
  refine⟨C,X,?_⟩
  intro i a
  have m:Pure M i:=by rw[a];exact ab.drew M
  have o:C i:=by rw[a];exact X
  clear a
  have s10:=m.size
  refine⟨c,fun w' h=>(L w' h).1.cell rfl,?_⟩
  refine(uI n.heap.size _ i Om).mono ?_
  rintro _ F ⟨sa,rfl,Y,g⟩
  have s11:=g.size
  refine⟨_,_,_,_,_,sa,rfl,G _ _ g o,?_⟩
  refine(tA n.heap.size c F Om).mono ?_
  rintro _ J ⟨sb,rfl,hB,d⟩
  have s12:=d.size
  refine⟨_,_,_,_,_,sb,rfl,?_⟩
  refine(yO n.heap.size (yN qj) (jz c) sa sb J Om (Y.pure d) hB).mono ?_
  rintro _ H ⟨se,rfl,hE,l⟩
  have s13:=l.size
  refine⟨_,_,_,_,_,se,rfl,?_⟩
  refine(tH n.heap.size 0 (uT (yN qj)<|jz c) se H Om hE).mono ?_
  rintro _ V ⟨s,rfl,Q,W⟩
  exact⟨_,_,_,_,_,s,rfl,S _ s V ((((m.trans g).trans d).trans l).trans W) Q (by rw[<-hR];simp only[zU];rw[if_neg Om,if_neg Om,if_pos D])⟩
 .have D:k=4:=by simpa using D
  refine⟨C,X,?_⟩
  intro i a
  have m:Pure M i:=by rw[a];exact ab.drew M
  have o:C i:=by rw[a];exact X
  clear a
  have s10:=m.size
  refine⟨f,fun w' h=>(L w' h).1.cell rfl,_,_,_,_,_,O,fun w' h=>(L w' h).2.row,dz,fun w' h=>(L w' h).1.cell rfl,_,_,_,_,_,O,fun w' h=>(L w' h).2.row,dz,fun w' h=>(L w' h).1.cell rfl,?_⟩
  refine(uI n.heap.size _ i Om).mono ?_
  rintro _ F ⟨sa,rfl,Y,g⟩
  have s11:=g.size
  have U:=Z.pure<|m.trans g
  have B:=G _ _ g o
  refine⟨_,_,_,_,_,sa,rfl,B,?_⟩
  have rest : ∀ (u v : Bool) (sx sy : Sl) (w' : World), u = (dz && first) -> v = (dz && second) -> Pure F w' -> cr (n.heap.size <= ·) w' sx (uX 0 (yD c x) u) -> cr (n.heap.size <= ·) w' sy (uX 1 (yD c x) v) ->
    cl 85 #[.agg (tE (uX 0 (yD c x) u) sx).toArray,.agg (tE (uX 1 (yD c x) v) sy).toArray] w' (fun e wa=>∃k1 f1 t1 u1 y1,∃s1:Sl,e=.returned (.agg #[vi k1,vi f1,vi t1,vu u1,vs y1,s1.v])/\C wa /\
     cl 85 #[.agg (tE (yN uJ) sa).toArray,.agg #[vi k1,vi f1,vi t1,vu u1,vs y1,s1.v]] wa (fun e wb=>∃k1 f1 t1 u1 y1,∃s1:Sl,e=.returned (.agg #[vi k1,vi f1,vi t1,vu u1,vs y1,s1.v])/\C wb /\
      cl 84 #[vi f,.agg #[vi k1,vi f1,vi t1,vu u1,vs y1,s1.v]] wb (fun e wc=>∃k1 f1 t1 u1 y1,∃s1:Sl,e=.returned (.agg #[vi k1,vi f1,vi t1,vu u1,vs y1,s1.v]) /\
       (∀j,j<6->zL wc (p2.add j))/\∀A:World,A=bb wc p2 [vi k1,vi f1,vi t1,vu u1,vs y1,s1.v] ->
   ∃q:Int,∃r:Int,∃N:Int,∃I:Int,∃z:ByteArray,∃p:Sl,Row A p2 [(vi q),(vi r),(vi N),(vu I),(vs z),p.v]/\K q r N I z p A))):=by
   intro u v sx sy w' hu hv E hX hY
   have s':=E.size
   refine(yO n.heap.size (uX 0 (yD c x) u) (uX 1 (yD c x) v) sx sy w' Om hX hY).mono ?_
   rintro _ wa ⟨s1,rfl,h1,Ea⟩
   have sa':=Ea.size
   refine⟨_,_,_,_,_,s1,rfl,G _ _ (E.trans Ea) B,?_⟩
   refine(yO n.heap.size (yN uJ) (uT (uX 0 (yD c x) u)<|uX 1 (yD c x) v) sa s1 wa Om (Y.pure<|E.trans Ea) h1).mono ?_
   rintro _ wb ⟨s2,rfl,h2,Eb⟩
   have sb':=Eb.size
   refine⟨_,_,_,_,_,s2,rfl,G _ _ ((E.trans Ea).trans Eb) B,?_⟩
   refine(tH n.heap.size f (uT (yN uJ)<|uT (uX 0 (yD c x) u)<|uX 1 (yD c x) v) s2 wb Om h2).mono ?_
   rintro _ wc ⟨s3,rfl,h3,Ec⟩
   exact⟨_,_,_,_,_,s3,rfl,S _ s3 wc (((((m.trans g).trans E).trans Ea).trans Eb).trans Ec) h3 (by rw[<-hR,hu,hv];simp only[zU];rw[if_neg Om,if_neg Om,if_neg Om,if_pos D])⟩
  refine⟨fun P=>?_,fun P=>?_⟩
  .refine(uH n.heap.size 0 (.inl rfl) (yD c x) first O F Om U).mono ?_
   rintro _ J ⟨sx,rfl,hX,d⟩
   have s12:=d.size
   refine⟨_,_,_,_,_,sx,rfl,G _ _ d B,Br.t P ?_⟩
   refine(uH n.heap.size 1 (.inr rfl) (yD c x) second O J Om<|U.pure d).mono ?_
   rintro _ H ⟨sy,rfl,hY,l⟩
   exact⟨_,_,_,_,_,sy,rfl,G _ _ (d.trans l) B,rest first second sx sy H (by rw[P];rfl) (by rw[P];rfl) (d.trans l) (hX.pure l) hY⟩
  .refine(uH n.heap.size 0 (.inl rfl) (yD c x) false O F Om U).mono ?_
   rintro _ J ⟨sx,rfl,hX,d⟩
   have s12:=d.size
   refine⟨_,_,_,_,_,sx,rfl,G _ _ d B,Br.f P ?_⟩
   refine(uH n.heap.size 1 (.inr rfl) (yD c x) false O J Om<|U.pure d).mono ?_
   rintro _ H ⟨sy,rfl,hY,l⟩
   exact⟨_,_,_,_,_,sy,rfl,G _ _ (d.trans l) B,rest false false sx sy H (by rw[P];rfl) (by rw[P];rfl) (d.trans l) (hX.pure l) hY⟩
 .have D:k=5:=by simpa using D
  refine⟨C,X,?_⟩
  intro i a
  have m:Pure M i:=by rw[a];exact ab.drew M
  have o:C i:=by rw[a];exact X
  clear a
  have s10:=m.size
  refine⟨c,fun w' h=>(L w' h).1.cell rfl,?_⟩
  refine(uI n.heap.size _ i Om).mono ?_
  rintro _ F ⟨sa,rfl,Y,g⟩
  have s11:=g.size
  refine⟨_,_,_,_,_,sa,rfl,G _ _ g o,?_⟩
  refine(tA n.heap.size c F Om).mono ?_
  rintro _ J ⟨sb,rfl,hB,d⟩
  have s12:=d.size
  refine⟨_,_,_,_,_,sb,rfl,?_⟩
  refine(yO n.heap.size (yN yX) (jz c) sa sb J Om (Y.pure d) hB).mono ?_
  rintro _ H ⟨se,rfl,hE,l⟩
  have s13:=l.size
  refine⟨_,_,_,_,_,se,rfl,?_⟩
  refine(tH n.heap.size 2 (uT (yN yX)<|jz c) se H Om hE).mono ?_
  rintro _ V ⟨s,rfl,Q,W⟩
  exact⟨_,_,_,_,_,s,rfl,S _ s V ((((m.trans g).trans d).trans l).trans W) Q (by rw[<-hR];simp only[zU];rw[if_neg Om,if_neg Om,if_neg Om,if_neg Om,if_pos D])⟩
 .have D:k=6:=by simpa using D
  refine⟨C,X,?_⟩
  intro i a
  have m:Pure M i:=by rw[a];exact ab.drew M
  have o:C i:=by rw[a];exact X
  clear a
  have s10:=m.size
  refine⟨_,_,_,_,_,O,fun w' h=>(L w' h).2.row,?_⟩
  refine(uI n.heap.size _ i Om).mono ?_
  rintro _ F ⟨sa,rfl,Y,g⟩
  have s11:=g.size
  refine⟨_,_,_,_,_,sa,rfl,G _ _ g o,?_⟩
  refine(yO n.heap.size (yN uK) (yD c x) sa O F Om Y<|Z.pure<|m.trans g).mono ?_
  rintro _ H ⟨se,rfl,hE,l⟩
  have s13:=l.size
  refine⟨_,_,_,_,_,se,rfl,?_⟩
  refine(tH n.heap.size 2 (uT (yN uK)<|yD c x) se H Om hE).mono ?_
  rintro _ V ⟨s,rfl,Q,W⟩
  exact⟨_,_,_,_,_,s,rfl,S _ s V (((m.trans g).trans l).trans W) Q (by rw[<-hR];simp only[zU];rw[if_neg Om,if_neg Om,if_neg Om,if_neg Om,if_neg Om,if_pos D])⟩
 .have hk1:k≠1:=by simpa using hk1
  have hk2:k≠2:=by simpa using hk2
  have hk3:k≠3:=by simpa using hk3
  have hk4:k≠4:=by simpa using hk4
  have hk5:k≠5:=by simpa using hk5
  have hk6:k≠6:=by simpa using hk6
  refine⟨C,X,?_⟩
  intro i a
  have m:Pure M i:=by rw[a];exact ab.drew M
  have o:C i:=by rw[a];exact X
  clear a
  have s10:=m.size
  refine⟨c,fun w' h=>(L w' h).1.cell rfl,?_⟩
  refine(uI n.heap.size _ i Om).mono ?_
  rintro _ F ⟨sa,rfl,Y,g⟩
  have s11:=g.size
  refine⟨_,_,_,_,_,sa,rfl,G _ _ g o,?_⟩
  refine(tA n.heap.size c F Om).mono ?_
  rintro _ J ⟨sb,rfl,hB,d⟩
  have s12:=d.size
  refine⟨_,_,_,_,_,sb,rfl,?_⟩
  refine(yO n.heap.size (yN xz) (jz c) sa sb J Om (Y.pure d) hB).mono ?_
  rintro _ H ⟨s,rfl,Q,l⟩
  exact⟨_,_,_,_,_,s,rfl,S _ s H (((m.trans g).trans d).trans l) Q (by rw[<-hR];simp only[zU];rw[if_neg hk1,if_neg hk2,if_neg hk3,if_neg hk4,if_neg hk5,if_neg hk6])⟩
end Go.Proofs
end
section
open Go Go.SE List
namespace Go.Proofs
def vE(L:av)(t kind:Int):df×Bool:=if al L t=true/\(ad L t).kind=kind then(ad L t,false)else(xC,true)
def zY(L:av)(t:Int):(ByteArray×Int)×Bool:=
 (((vE L (vE L t 4).1.a 3).1.ba,(vE L t 4).1.b),(vE L t 4).2 ||(vE L (vE L t 4).1.a 3).2)
def qE(L:av)(t:Int):(Int×ByteArray)×Bool:=
 let g:=zY L t
 let n:=vE L g.1.2 4
 (((vE L n.1.a 2).1.num,(vE L n.1.b 3).1.ba),g.2 ||n.2 ||!decide (g.1.1=qe) ||(vE L n.1.a 2).2 ||(vE L n.1.b 3).2)
end Go.Proofs
namespace Go.Proofs
open Tryz
attribute [local irreducible] Calls
def sF(w:World)(q:Option Addr)(L:av)(F:NP):Prop:=match q with
 |some p=>zD w p L F
 |none=>L=[]/\∀b,¬F b
def sF.ext{G w w' p L F}(h:sF w p L F)(a:ab G w w')(c:∀b,F b->¬G b):sF w' p L F:=by
 cases p with
 |none=>exact h
 |some p=>exact zD.ext h a c
def sF.pure{w w' p L F}(h:sF w p L F)(a:Pure w w'):sF w' p L F:=h.ext a fun _ _ h=>h
def sF.lt{w p L F}(h:sF w p L F){b}(a:F b):b<w.heap.size:=by
 cases p with
 |none=>exact absurd a<|h.2 b
 |some p=>exact zD.lt h a
def IQ(p t w){L F}(l:sF w p L F)(i:Ok L):cl 109 #[vp p,vi t] w
  (XL fun k f m u x a b r w'=>((⟨k,f,m,u,x,a,b⟩:df)=ad L t/\r=al L t)/\Pure w w'):=by
 cases p with
 |some p=>exact tz p t w l i
 |none =>
  obtain⟨rfl,_⟩:=l
  have d:al [] t=false:=by cases h:al [] t;rfl;have:=zI.1 h;simp at this;omega
  have e:ad [] t=⟨0,0,0,0,⟨#[]⟩,0,0⟩:=by unfold ad get;split<;>simp[xC]
  rw[d,e]
  refine Mq none t w _ ?_
  intro q c h1
  have n:Pure w c:=ab.aw h1
  have b1:=ai.bh h1
  have o:=au.ak (ab.refl w) h1
  have g:cl 130 #[vp none,vi t] c (XC fun r w'=>r=false/\w'=c):=by
   refine Ly _ _ c (fun r w'=>r=false/\w'=c) ?_;unfold HI;have j:Cg none t false c (fun r w'=>r=false/\w'=c):=by
    unfold Cg
    first
     |exact Br.f rfl ⟨rfl,rfl⟩
     |exact⟨rfl,rfl⟩
     |(exact Br.f rfl ⟨rfl,rfl⟩)
     |(refine Br.f rfl ?_;exact⟨rfl,rfl⟩)
   first
    |exact Br.f rfl j
    |exact Br.t rfl j
  refine g.mono ?_
  rintro _ _ ⟨_,rfl,rfl,rfl⟩
  exact⟨_,rfl,fun h1=>bx 7 b1 rfl rfl fun w' b E=>⟨_,_,_,_,_,_,_,b.row,⟨rfl,rfl⟩,n.ak o E⟩,fun h1=>by cases h1⟩
structure lk(w:World)(r:Addr)(p:Option Addr)(a:Bool)(L:av)(F:NP):Prop where
 box:ai w r [vp p,vb a] 212
 bj:sF w p L F
 ok:Ok L
 ji:¬F r.block
def lk.pure{w w' r p bad L F}(h:lk w r p bad L F)(E:Pure w w'):lk w' r p bad L F:=⟨h.box.pure E,h.bj.pure E,h.ok,h.ji⟩
def tI(r p t kind bad w){L F}(k:lk w r p bad L F):
  cl 142 #[vp<|some r,vi t,vi kind] w
   (XN fun k' C E J H I D w'=>(⟨k',C,E,J,H,I,D⟩:df)=(vE L t kind).1/\lk w' r p (bad ||(vE L t kind).2) L F/\ab (·=r.block) w w'):=by
 suffices key:∀K:Int->Int->Int->Int->ByteArray->Int->Int->WP,(∀k' C E J H I D w',((⟨k',C,E,J,H,I,D⟩:df)=(vE L t kind).1/\lk w' r p (bad ||(vE L t kind).2) L F/\ab (·=r.block) w w')->K k' C E J H I D w')->KA (some r) t kind w K from
  jaA _ _ _ w _<|key _ fun _ _ _ _ _ _ _ _ h=>h
 intro K V
 intro B W h1
 have S:Pure w W:=ab.aw h1
 have o1:=au.ak (ab.refl w) h1
 have lr:=k.box.lt
 have b1:=ai.bh h1
 refine⟨r,rfl,p,(k.box.pure S).bd,?_⟩
 refine(IQ p t W (k.bj.pure S) k.ok).mono ?_
 rintro _ Y ⟨k',C,E,J,H,I,D,ok,rfl,⟨N,z⟩,l⟩
 refine⟨_,_,_,_,_,_,_,_,rfl,?_⟩
 intro p2 w3 h3
 have Q:Pure w Y:=S.trans l
 have o3:=au.ak Q h3
 have P:B.block≠p2.block:=au.ne h3 (b1.pure l).ao
 refine bx 7 (ai.bh h3) rfl rfl fun G b2 T=>?_
 have M:Pure w G:=(Q.trans<|ab.aw h3).ak o3 T
 have U:=((b1.pure l).pure<|ab.aw h3).ext T P
 have q:=k.pure M
 clear T Q l b1 h1 h3
 have m : vE L t kind = (xC, true) -> zL G (r.add 1) /\ ∀ s : World, s = G.setCell (r.add 1) (vb true) ->
   (∀j,j<7->zL s (B.add j))/\∀A:World,A=bb s B [(vi 0),(vi 0),(vi 0),(vu 0),(vs (⟨#[]⟩:ByteArray)),(vi 0),(vi 0)] ->
   ∃a:Int,∃c:Int,∃n:Int,∃g:Int,∃d:ByteArray,∃v:Int,∃x:Int,Row A B [(vi a),(vi c),(vi n),(vu g),(vs d),(vi v),(vi x)] /\
   K a c n g d v x A:=by
  intro f
  refine⟨q.box.ee Sm,?_⟩
  intro s o
  have Z:ai s r [vp p,vb true] 212:=by rw[o];exact q.box.set 1 _
  have O:ab (·=r.block) G s:=by rw[o];have:=ab.setCell (w:=G) (r.add 1)<|vb true;rw[zC]at this;exact this
  clear o
  have y:B.block≠r.block:=Om
  refine bx 7 (U.ext O y) rfl rfl fun A b6 u=>⟨_,_,_,_,_,_,_,b6.row,V _ _ _ _ _ _ _ _ ⟨by rw[f];rfl,⟨?_,?_,k.ok,k.ji⟩,?_⟩⟩
  rw[f];simp only[Bool.or_true];exact Z.ext u y.symm
  exact(q.bj.ext O fun b R e=>k.ji<|e▸R).ext u fun b R e=>Oh<|k.bj.lt R
  exact(M.pure.trans O).cg u fun i hi h=>Om
 refine⟨fun h=>⟨r,rfl,?_⟩,fun h=>⟨k',b2.bd,fun h2=>⟨r,rfl,?_⟩,fun h2=>?_⟩⟩
 refine m ?_
 have:¬al L t=true:=by rw[<-z];simpa using h
 unfold vE;rw[if_neg fun h=>this h.1]
 refine m ?_
 have:(ad L t).kind≠kind:=by rw[<-N];simpa using h2
 unfold vE;rw[if_neg fun h=>this h.2]
 have hi:al L t=true:=by rw[<-z];simpa using h
 have X:(ad L t).kind=kind:=by rw[<-N];simpa using h2
 have f:vE L t kind=(ad L t,false):=by unfold vE;rw[if_pos ⟨hi,X⟩]
 refine⟨_,_,_,_,_,_,_,b2.row,bx 7 U rfl rfl fun A b6 u=>⟨_,_,_,_,_,_,_,b6.row,V _ _ _ _ _ _ _ _ ⟨by rw[f];exact N,?_,?_⟩⟩⟩
 rw[f];simp only[Bool.or_false]
 exact k.pure<|M.ak o1 u
 exact(M.ak o1 u).pure
def Ga(r p t bad w){L F}(z:lk w r p bad L F):
  cl 141 #[vp<|some r,vi t] w
   (XO fun x b w'=>(x,b)=(zY L t).1/\lk w' r p (bad ||(zY L t).2) L F/\ab (·=r.block) w w'):=by
 suffices key:∀K:ByteArray->Int->WP,(∀x b w',((x,b)=(zY L t).1/\lk w' r p (bad ||(zY L t).2) L F/\ab (·=r.block) w w')->K x b w')->QQ (some r) t w K from
  Vf _ _ w _<|key _ fun _ _ _ h=>h
 intro K B
 refine(tI r p t 4 bad w z).mono ?_
 rintro _ l ⟨q,u,y,m,s,a1,b1,rfl,g,e,E⟩
 refine⟨_,_,_,_,_,_,_,rfl,?_⟩
 intro n O h2
 have o2:=au.ak (ab.refl l) h2
 refine bx 7 (ai.bh h2) rfl rfl fun f b3 G=>?_
 have A:Pure l f:=ab.ak (ab.aw h2) o2 G
 have Q:=e.box.lt
 refine⟨fun w'=>ai w' n [vi q,vi u,vi y,vu m,vs s,vi a1,vi b1] 119,b3.pure<|ab.drew f,?_⟩
 intro j c
 have v:Pure l j:=by rw[c];exact A.fb<|ab.drew f
 have D:ai j n [vi q,vi u,vi y,vu m,vs s,vi a1,vi b1] 119:=by rw[c];exact b3.pure<|ab.drew f
 clear c
 refine⟨a1,fun w' h=>h.cell rfl,b1,fun w' h=>h.cell rfl,?_⟩
 refine(tI r p a1 3 _ j<|e.pure v).mono ?_
 rintro _ M ⟨P,J,N,I,H,a2,b2,rfl,k,d,o⟩
 refine⟨_,_,_,_,_,_,_,rfl,D.ext o Om,B _ _ _ ⟨?_,?_,?_⟩⟩
 have i:a1=(vE L t 4).1.a:=by rw[<-g]
 have C:b1=(vE L t 4).1.b:=by rw[<-g]
 simp only[zY,<-i,<-C,<-k]
 have i:a1=(vE L t 4).1.a:=by rw[<-g]
 rw[i]at d
 simp only[zY,<-Bool.or_assoc]
 exact d
 exact(E.fb v).trans o
end Go.Proofs
end
section
open Go Go.SE List
namespace Go.Proofs
def zQ(L:av)(t:Int):eo×Bool:=
 let n:=ad L t
 if(n.kind≠8/\n.kind≠9)\/1<n.ay\/n.to≠IntKind.i64.wrap (1-n.ay)then(xq,true)
 else(⟨1,n.ay,(qE L n.a).1.1,(qE L n.a).1.2,n.kind==9⟩,(qE L n.a).2)
end Go.Proofs
namespace Go.Proofs
open Tryz
attribute [local irreducible] Calls
def OW(r p t bad w){L F}(o:lk w r p bad L F):
  cl 189 #[vp<|some r,vi t] w
   (XP fun c x w'=>(c,x)=(qE L t).1/\lk w' r p (bad ||(qE L t).2) L F/\ab (·=r.block) w w'):=by
 suffices key:∀K:Int->ByteArray->WP,(∀c x w',((c,x)=(qE L t).1/\lk w' r p (bad ||(qE L t).2) L F/\ab (·=r.block) w w')->K c x w')->Lt (some r) t w K from
  VN _ _ w _<|key _ fun _ _ _ h=>h
 intro K hK
 refine(Ga r p t bad w o).mono ?_
 rintro _ w1 ⟨q,j,rfl,P,D,E1⟩
 refine⟨_,_,rfl,?_⟩
 refine(tI r p j 4 _ w1 D).mono ?_
 rintro _ S ⟨k2,f2,t2,Z,Y,a2,b2,rfl,I,m,E2⟩
 refine⟨_,_,_,_,_,_,_,rfl,?_⟩
 intro M w3 h3
 have o3:=au.ak (ab.refl S) h3
 have l2:=m.box.lt
 refine bx 7 (ai.bh h3) rfl rfl fun i b4 V=>?_
 have U:Pure S i:=ab.ak (ab.aw h3) o3 V
 have d:=m.pure U
 clear V h3
 have W:j=(zY L t).1.2:=congrArg Prod.snd P
 have ex:q=(zY L t).1.1:=congrArg Prod.fst P
 have N:a2=(vE L j 4).1.a:=by rw[<-I]
 have R:b2=(vE L j 4).1.b:=by rw[<-I]
 generalize C:(bad ||(zY L t).2 ||(vE L j 4).2)=g at *
 have s:∀(v:Bool) (f:World),(v=(g ||!decide (q=qe)))->ai f r [vp p,vb v] 212->ab (·=r.block) i f->DL (some r) M f K:=by
  intro v f hv B5 A;have G:lk f r p v L F:=⟨B5,d.bj.ext A fun b hb e=>o.ji<|e▸hb,o.ok,o.ji⟩;have X:=b4.ext A Om;refine⟨fun w'=>ai w' M [vi k2,vi f2,vi t2,vu Z,vs Y,vi a2,vi b2] 119,X.pure<|ab.drew f,?_⟩;intro J n;have E:Pure f J:=by rw[n];exact ab.drew f
  clear n;have c6:=X.pure E;refine⟨a2,fun w' h=>h.cell rfl,b2,fun w' h=>h.cell rfl,?_⟩;refine(tI r p a2 2 _ J<|G.pure E).mono ?_;rintro _ w7 ⟨k3,f3,t3,u3,x3,a3,b3,rfl,y,B,Q⟩;have H:=c6.ext Q Om;refine⟨_,_,_,_,_,_,_,rfl,H,?_⟩;refine(tI r p b2 3 _ w7 B).mono ?_;rintro _ O ⟨k4,f4,t4,u4,x4,a4,b4',rfl,z,u,T⟩;have e3:u3=(vE L a2 2).1.num:=by rw[<-y]
  have e4:x4=(vE L b2 3).1.ba:=by rw[<-z]
  refine⟨_,_,_,_,_,_,_,rfl,H.ext T Om,hK _ _ _ ⟨?_,?_,?_⟩⟩;simp only[qE,<-W,<-N,<-R,<-e3,<-e4];have:(bad ||(qE L t).2)=(v ||(vE L a2 2).2 ||(vE L b2 3).2):=by
   simp only[qE,<-W,<-N,<-R,<-ex,hv,<-C,Bool.or_assoc]
  rw[this];exact u;exact((((E1.trans E2).fb U).trans A).fb E |>.trans Q).trans T
 have l:∀v:Bool,ai (i.setCell (r.add 1)<|vb v) r [vp p,vb v] 212/\ab (·=r.block) i (i.setCell (r.add 1)<|vb v):=fun v =>
  ⟨d.box.set 1 _,by have:=ab.setCell (w:=i) (r.add 1)<|vb v;rw[zC]at this;exact this⟩
 refine⟨r,rfl,g,d.box.cell rfl,fun h=>⟨r,rfl,d.box.ee Sm,?_⟩,fun h=>⟨r,rfl,d.box.ee Sm,?_⟩⟩
 grind
 intro O k
 have:=l<|!decide (q=qe)
 exact s (!decide (q=qe)) O (by rw[h];rfl) (by rw[k];exact this.1) (by rw[k];exact this.2)
def vH(r p t bad w){L F}(n:lk w r p bad L F):
  cl 140 #[vp<|some r,vi t] w
   (XQ fun k f c x N w'=>(⟨k,f,c,x,N⟩:eo)=(zQ L t).1/\lk w' r p (bad ||(zQ L t).2) L F/\ab (·=r.block) w w'):=by
 suffices key:∀K:Int->Int->Int->ByteArray->Bool->WP,(∀k f c x N w',((⟨k,f,c,x,N⟩:eo)=(zQ L t).1/\lk w' r p (bad ||(zQ L t).2) L F/\ab (·=r.block) w w')->K k f c x N w')->Nm (some r) t w K from
  Y2 _ _ w _<|key _ fun _ _ _ _ _ _ h=>h
 intro K hK
 intro A w1 h1
 have X:Pure w w1:=ab.aw h1
 have o1:=au.ak (ab.refl w) h1
 have lr:=n.box.lt
 have b1:=ai.bh h1
 refine⟨r,rfl,p,(n.box.pure X).bd,?_⟩
 refine(IQ p t w1 (n.bj.pure X) n.ok).mono ?_
 rintro _ w2 ⟨k,f,O,u,x,a,b,ok,rfl,⟨hn,hok⟩,s⟩
 refine⟨_,_,_,_,_,_,_,_,rfl,?_⟩
 intro P w3 h3
 have U:Pure w w2:=X.trans s
 have o3:=au.ak U h3
 have R:A.block≠P.block:=au.ne h3 (b1.pure s).ao
 refine bx 7 (ai.bh h3) rfl rfl fun z b2 Y=>?_
 have W:Pure w z:=(U.trans<|ab.aw h3).ak o3 Y
 have c1:=((b1.pure s).pure<|ab.aw h3).ext Y R
 have v:=n.pure W
 clear Y U s b1 h1 h3
 have q:A.block≠r.block:=Om
 have o:zQ L t=if(k≠8/\k≠9)\/1<f\/O≠IntKind.i64.wrap (1-f)then(xq,true)else(⟨1,f,(qE L a).1.1,(qE L a).1.2,k==9⟩,(qE L a).2):=by
  simp only[zQ,<-hn]
 have B : ((k ≠ 8 /\ k ≠ 9) \/ 1 < f \/ O ≠ IntKind.i64.wrap (1 - f)) -> zL z (r.add 1) /\ ∀ D : World, D = z.setCell (r.add 1) (vb true) ->
   (∀j,j<5->zL D (A.add j))/\∀H:World,H=bb D A [(vi 0),(vi 0),(vu 0),(vs (⟨#[]⟩:ByteArray)),(vb false)] ->
   ∃g:Int,∃l:Int,∃I:Int,∃m:ByteArray,∃d:Bool,Row H A [(vi g),(vi l),(vu I),(vs m),(vb d)] /\
   K g l I m d H:=by
  intro S
  rw[if_pos S]at o
  refine⟨v.box.ee Sm,?_⟩
  intro D C
  have d5:ai D r [vp p,vb true] 212:=by rw[C];exact v.box.set 1 _
  have E:ab (·=r.block) z D:=by rw[C];have:=ab.setCell (w:=z) (r.add 1)<|vb true;rw[zC]at this;exact this
  clear C
  refine bx 5 (c1.ext E q) rfl rfl fun H b6 G=>⟨0,0,0,⟨#[]⟩,false,b6.row,hK _ _ _ _ _ _ ⟨by rw[o];rfl,⟨?_,?_,n.ok,n.ji⟩,?_⟩⟩
  rw[o];simp only[Bool.or_true];exact d5.ext G q.symm
  exact(v.bj.ext E fun b J e=>n.ji<|e▸J).ext G fun b J e=>Oh<|n.bj.lt J
  exact(W.pure.trans E).cg G fun i hi h=>Om
 have J1:¬((k≠8/\k≠9)\/1<f\/O≠IntKind.i64.wrap (1-f))->Jf (some r) A P z K:=by
  intro S;rw[if_neg S]at o;refine⟨a,b2.cell rfl,?_⟩;refine(OW r p a bad z v).mono ?_;rintro _ D ⟨c,y,rfl,hd,M,E⟩;have d2:=b2.ext E Om;have d1:=c1.ext E q;have ec:c=(qE L a).1.1:=congrArg Prod.fst hd;have ey:y=(qE L a).1.2:=congrArg Prod.snd hd;refine⟨_,_,rfl,f,d2.cell rfl,k,d2.bd,bx 5 d1 rfl rfl fun H b6 G=>⟨1,f,c,y,k==9,b6.row,hK _ _ _ _ _ _ ⟨?_,?_,?_⟩⟩⟩;grind;rw[o];exact⟨M.box.ext G q.symm,M.bj.ext G fun b J e=>Oh<|n.bj.lt J,n.ok,n.ji⟩;exact(W.pure.trans E).cg G fun i hi h=>Om
 have J3:∀Q,Q=((k !=8&&k !=9) ||decide (1<f))->Eu (some r) A P Q z K:=by
  intro Q T;refine⟨fun h=>⟨r,rfl,B ?_⟩,fun h=>⟨O,b2.cell rfl,f,b2.cell rfl,fun h2=>⟨r,rfl,B ?_⟩,fun h2=>J1 ?_⟩⟩;grind;grind;grind
 have Z:∀V,V=(k !=8&&k !=9)->DD (some r) A P V z K:=by
  intro V T;exact⟨fun h=>J3 _ (by rw[<-T,h];rfl),fun h=>⟨f,b2.cell rfl,J3 _ (by rw[<-T,h];rfl)⟩⟩
 exact⟨k,b2.bd,fun h=>⟨k,b2.bd,Z _ (by rw[h];rfl)⟩,fun h=>Z _ (by rw[h];rfl)⟩
end Go.Proofs
end
