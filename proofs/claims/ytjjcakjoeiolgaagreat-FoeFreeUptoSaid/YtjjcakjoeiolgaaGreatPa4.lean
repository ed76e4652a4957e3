import Derived.Test.YtjjcakjoeiolgaaGreatProg
import Derived.KernelRfl
import Derived.Test.YtjjcakjoeiolgaaGreatPa3
import Derived.IntWalk
set_option linter.defProp false
section
open Go Go.SE List
open Go.IntKind renaming i64 -> q6
namespace Go.Proofs
open Tryz
set_option maxRecDepth 100000
set_option maxHeartbeats 4000000
attribute [local irreducible] bu fw fg dv Calls
attribute [local irreducible] jq W WV WR uC pv ku jn oe ka mm kq ll np my iy ez ij nn kz kp uS xD yC bn ub
def Rz(b:Option Addr)(e:World)(K:(Option Addr)->WP):Prop:=Br (Option.isNone b) (K none e)<|∀c d,av e (.map #[] 0) c d->∀a f,av d (.cells #[(vp b),Sl.nil.v,(.map<|some c.block),Sl.nil.v] 163) a f->K (some a) f
def Zz(p1 w0 K)(h:Rz p1 w0 K):
  cl 43 #[(vp p1)] w0<|XD K:=
 cy func43 h<|br 0 3 (rr 2)<|cf 2<|cf 1<|rr 1
def MJ(C:Option Addr)(y:Int)(A:World)(K:Sl->Bool->WP):Prop:=∀j g,av A (.cells #[(vp C)] 93) j g->lp g j fun B=>Br (Option.isNone B) (K Sl.nil false g)<|∀k x,av g (.cells #[Sl.nil.v] 169) k x->∀q t,av x (.map #[] 0) q t->∀h n,av t (.cells #[(.map none)] 231) h n->zL n h/\∀s,s=n.setCell h (.map<|some q.block)->∀u p,av s (.map #[] 0) u p->∀i l,av p (.cells #[(.map none)] 232) i l->zL l i/\∀o,o=l.setCell i (.map<|some u.block)->∀d m,av o (.cells #[(.nilFunc:Value)] 233) d m->zL m d/\∀a,a=m.setCell d (.func (.func 160) #[] #[(vp<|some h),(vp<|some i),(vp<|some j),(vp<|some d),(vp<|some k)])->∃r:Value,a.cell? d=some r/\∃(f:FuncId) (e c:Array Value),r=.func (.func f) e c/\(∀args w,(callFunc f args).run prog w=.ok (.enter f args) w)/\Calls prog f (e++#[(vi y)]++c) a (XE fun r1 r2 b=>Br (!r2) (K Sl.nil false b)<|lx b k fun z=>K z true b)
def jcr(k1 t1 w0 K)(h:MJ k1 t1 w0 K):
  cl 105 #[(vp k1),(vi t1)] w0<|XF K:=
 cy func105 h<|cf 0<|ld 2<|br 0 1 (rr 3)<|cf 1<|cf 0<|cf 0<|gr 0<|cf 0<|cf 0<|gr 0<|cf 0<|gr 1<|ld 0<|fo<|fun a=>cv 1 a<|dt<|rt<|eo<|br 0 7 (rr 3)<|ld 1<|rr 2
def jcC(c:Option Addr)(a:Int)(d:World)(K:Bool->WP):Prop:=cl 105 #[(vp c),(vi a)] d<|XF fun r1 r2 b=>K r2 b
def jcB(k1 t1 w0 K)(h:jcC k1 t1 w0 K):
  cl 63 #[(vp k1),(vi t1)] w0<|XC K:=
 cy func63 h<|lv 3 call105<|rr 7
def JU(b:Option Addr)(a:World)(K:Sl->WP):Prop:=Br (Option.isNone b) (K Sl.nil a)<|∃a1,b=some a1/\lx a (a1.add 1) fun c=>cl 129 #[c.v] a<|XA K
def jbx(k1 w0 K)(h:JU k1 w0 K):
  cl 68 #[(vp k1)] w0<|XA K:=
 cy func68 h<|br 0 3 (rr 2)<|nc 2<|ld 1<|gd 0 call129<|rr 1
def BA(k:Addr)(kr:Int)(m i:Addr)(o:World)(H:NP)(w:World)(d:Int->NP->WP)(q:WP):Prop:=li w i fun b=>Br (b==4) (li w (i.add 5) fun n=>cl 181 #[(vi n),(vi 1),(vp<|some k),(vp<|some m)] w fun e c=>e=.returned (.tuple #[])/\aj H w c/\li c (i.add 6) fun l=>cl 181 #[(vi l),(vi 2),(vp<|some k),(vp<|some m)] c fun e g=>e=.returned (.tuple #[])/\aj H c g/\d (q6.wrap<|kr+1) H g) (∀p:Bool,p=(cond (b==7) (b==7)<|cond (b==8) (b==8)<|b==9)->Br p (∀f a,af o H w f a->li a (i.add 5) fun j=>cl 181 #[(vi j),(vi 3),(vp<|some k),(vp<|some m)] a fun e h=>e=.returned (.tuple #[])/\aj f a h/\d (q6.wrap<|kr+1) f h) (∀f a,af o H w f a->d (q6.wrap<|kr+1) f a))
def JW(s:Addr)(kr:Int)(L:World)(b:NP)(a:World)(u:Int->NP->WP)(K:WP):Prop:=lp a s fun x=>∃H,x=some H/\lx a (H.add 3) fun B=>Br (decide (kr<(B.len:Int))) (lp a s fun z=>∃C,z=some C/\lx a (C.add 3) fun A=>∃J:Addr,At A kr 1 J/\li a J fun y=>∀o m,av a (.cells #[(vi 0)] 73) o m->zL m o/\¬b o.block/\∀n,n=m.setCell o (vi y)->∃c:WP,c n.drew/\∀f,f=n.drew->∃w,(∀w',c w'->w'.cell? s=some (vp w))/\∃r,w=some r/\∃q,(∀w',c w'->w'.cell? r=some (vp q))/\∃p,(∀w',c w'->w'.cell? o=some (vi p))/\(cl 109 #[(vp q),(vi p)] f fun e i=>∃I T G S P M U r1,e=.returned (.tuple #[(Ac I T G S P M U),(vb r1)])/\c i/\aj b f i/\∀t h,av i (.cells #[(vi 0),(vi 0),(vi 0),(vu 0),ve,(vi 0),(vi 0)] 119) t h->c h/\(∀j,j<7->zL h (t.add j))/\¬b t.block/\∀l,l=bd h t (Ab I T G S P M U)->c l/\BA s kr o t L b l u K)/\(∀v d,av f (.cells #[(vi 0),(vi 0),(vi 0),(vu 0),ve,(vi 0),(vi 0)] 119) v d->c d/\cl 109 #[(vp q),(vi p)] d fun e g=>∃O E F R Q N D r2,e=.returned (.tuple #[(Ac O E F R Q N D),(vb r2)])/\c g/\aj b d g/\(∀j,j<7->zL g (v.add j))/\¬b v.block/\∀k,k=bd g v (Ab O E F R Q N D)->c k/\BA s kr o v L b k u K)) (K a)
def NF(M:Option Addr)(x e c:Int)(l:World)(K:WP):Prop:=∀g z,av l (.cells #[(vp M)] 93) g z->∀t i,af l ar z t i->lp i g fun L=>∃a1,L=some a1/\∃H:Option Nat,i.cell? (a1.add 2)=some (.map H)/\∃f d n,(Instr.lookup 161 (.map H) (vi x) true).run prog i=.ok (.tuple #[(.agg #[(vi f),(vi d)]),(vb n)]) i/\Br n (∀h m,af l t i h m->K m) (∀h m,af l t i h m->∃u:WP,u m.drew/\∀y,y=m.drew->∃G,(∀w',u w'->w'.cell? g=some (vp G))/\∃a2,G=some a2/\∃E:Option Nat,(∀w',u w'->w'.cell? (a2.add 2)=some (.map E))/\∃j:World,(Instr.mapUpdate 161 (.map E) (vi x)<|.agg #[(vi e),(vi c)]).run prog y=.ok () j/\aj h y j/\lp j g fun I=>∃a3,I=some a3/\lx j (a3.add 3) fun N=>∃k:WP,k j.drew/\∀A,A=j.drew->∃D,(∀w',k w'->w'.cell? g=some (vp D))/\∃F,(∀w',k w'->w'.cell? g=some (vp F))/\∃a4,F=some a4/\∃C:Sl,(∀w',k w'->w'.cell? (a4.add 3)=some C.v)/\∀B s,av A (.cells #[(vi x)] 73) B s->k s/\∃s1:Sl,∃r:World,(Builtin.append_ #[46,46] 46 #[C.v,(Sl.mk (some B) 1 1).v]).run prog s=.ok s1.v r/\k r/\aj h s r/\∃a5,D=some a5/\zL r (a5.add 3)/\¬h (a5.add 3).block/\∀q,q=r.setCell (a5.add 3) s1.v->∃(w:Int->NP->WP) (p:Int->World->Nat),w (N.len:Int) h q/\∀(kr:Int) (b:NP) (a:World),af l b a b a->w kr b a->JW g kr l b a (fun o J w'=>w o J w'/\p o w'<p kr a) K)
def UD(k1 t1 wrule1 wfrom1 w0 K)(h:NF k1 t1 wrule1 wfrom1 w0 K):
  cl 134 #[(vp k1),(vi t1),(.agg #[(vi wrule1),(vi wfrom1)])] w0<|fun e w'=>e=.returned (.tuple #[])/\K  w':=
 du func134 h<|ot 0<|nh 0<|ah<|ld 0<|nc 0<|ld 1<|uy<|rn 1<|nh 3<|sg 0 0 []<|br 0 2 (ah<|rr 1)<|ah<|dC 1 [6] [6]<|il 0<|nc 0<|il 1<|uz 1 1 [] 2<|xe<|es 0<|iv<|ld 0<|nc 0<|ld 1<|dC 2 [6,7,10] [10]<|il 0<|il 0<|nc 0<|il 1<|wI 1<|dt<|ef 0<|sM<|nc 0<|ow 1<|uw 0 [3] (fun kr=>[(8,(vi kr))])<|fun {_ _ kr}=>fun f=>ld 1<|nc 0<|ld 1<|br 0 2 (ld 1<|nc 0<|ld 1<|ix 1<|ld 0<|ot 0<|ow 0<|ke 0 0 [3,8,9] (fun d=>[(10,(vp<|some d))]) (fun d H w=>BA _ _ _ d _ H w _ _) (fun g=>dC 0 [5,9,10] []<|il 0<|nc 0<|il 1<|il 0<|uu 0 (cc 0 call109<|cj<|dt<|rt<|sM<|wI 3<|Ge 0<|je 1 0 g)<|wI 0<|cc 0 call109<|cj<|dt<|rt<|sM<|Ge 3<|je 1 0 g)<|fun {d}=>ld 3<|fun {a}=>br 0 2 (ld 3<|ri 0 call181<|ld 2<|ri 0 call181<|je 3 0 f)<|pj 3 0 [(a==7),(a==8)] [3,8,10,12] (fun b=>[(82,(vb<|cond (b 0) (a==7)<|cond (b 1) (a==8)<|a==9))]) (fun c=>pb 0 0 0 c (fun c=>pe 1 0 c)<|fun c=>pb 0 3 1 c (fun c=>pe 1 0 c)<|fun c=>pe 3 0 c)<|yy<|br 0 0 (ah<|ld 3<|ri 0 call181<|je 3 0 f)<|ah<|je 4 0 f)<|rr 1
def GD(b:Option Addr)(f:Int)(d:World)(K:Int->WP):Prop:=Br (Option.isNone b) (K 7 d)<|∃a1,b=some a1/\lp d a1 fun u=>cl 109 #[(vp u),(vi f)] d fun e i=>∃p x o w t r y r1,e=.returned (.tuple #[(Ac p x o w t r y),(vb r1)])/\aj ar d i/\Br (!r1) (∀a c,af d ar i a c->K 51 c) (∃a2,b=some a2/\∀a c,af d ar i a c->lx c (a2.add 1) fun s=>cl 133 #[s.v,(vi f)] c fun e g=>∃r2,e=.returned (vb r2)/\aj a c g/\Br (!r2) (∃a3,b=some a3/\lx g (a3.add 1) fun q=>∀l k,av g (.cells #[(vi f)] 73) l k->∃s1:Sl,∃h:World,(Builtin.append_ #[46,46] 46 #[q.v,(Sl.mk (some l) 1 1).v]).run prog k=.ok s1.v h/\aj a k h/\∃a4,b=some a4/\zL h (a4.add 1)/\¬a (a4.add 1).block/\∀j,j=h.setCell (a4.add 1) s1.v->cl 134 #[(vp b),(vi f),(.agg #[(vi 0),(vi 0)])] j fun e m=>e=.returned (.tuple #[])/\aj a j m/\K 0 m) (cl 134 #[(vp b),(vi f),(.agg #[(vi 0),(vi 0)])] g fun e n=>e=.returned (.tuple #[])/\aj a g n/\K 0 n))
def Zs(k1 t1 w0 K)(h:GD k1 t1 w0 K):
  cl 70 #[(vp k1),(vi t1)] w0<|XB K:=
 du func70 h<|br 0 3 (rr 2)<|nc 2<|ld 1<|cc 1 call109<|cj<|dt<|rt<|iv<|nh 3<|sg 0 0 []<|br 0 3 (ah<|rr 2)<|nc 2<|ah<|ld 1<|dw 1 call133<|br 0 1 (nc 3<|ld 1<|ot 1<|dt<|ef 0<|iv<|nc 0<|ow 1<|ri 3 call134<|rr 1)<|ri 4 call134<|rr 1
def Lk(b:Option Addr)(a:World)(K:Sl->WP):Prop:=Br (Option.isNone b) (K Sl.nil a)<|∃a1,b=some a1/\lx a (a1.add 3) fun c=>cl 138 #[c.v] a fun e d=>∃r1:Value,e=.returned r1/\cl 137 #[r1] d (XA K)
def jbF(k1 w0 K)(h:Lk k1 w0 K):
  cl 72 #[(vp k1)] w0<|XA K:=
 cy func72 h<|br 0 3 (rr 2)<|nc 2<|ld 1<|gd 0 call138<|gd 0 call137<|rr 1
def JQ(e:Option Addr)(i:Int)(c:World)(K:Bool->WP):Prop:=Br (Option.isNone e) (K false c)<|∃a1,e=some a1/\∃f:Option Nat,c.cell? (a1.add 2)=some (.map f)/\∃a b d,(Instr.lookup 161 (.map f) (vi i) true).run prog c=.ok (.tuple #[(.agg #[(vi a),(vi b)]),(vb d)]) c/\∀h g,af c ar c h g->K d g
def jck(k1 t1 w0 K)(h:JQ k1 t1 w0 K):
  cl 128 #[(vp k1),(vi t1)] w0<|XC K:=
 du func128 h<|br 0 3 (rr 2)<|nc 2<|ld 1<|uy<|rn 1<|nh 3<|sg 0 0 []<|ah<|rr 3
def FT(g:Option Addr)(h a:Int)(H:NP)(w:World)(K:Int->Int->Bool->Bool->WP):Prop:=∃a2,g=some a2/\lp w a2 fun j=>cl 127 #[(vp j),(.agg #[(vi 6),(vi a),(vi 0),(vu 0),ve,(vi 0),(vi 0)])] w fun e d=>∃r2 r3,e=.returned (.tuple #[(vi r2),(vb r3)])/\aj H w d/\∃f:WP,f d.drew/\∀b,b=d.drew->Br r3 (cl 128 #[(vp g),(vi r2)] b<|XC fun i c=>f c/\aj H b c/\K h r2 false i c) (K h r2 false false b)
def P0(l:Option Addr)(r:Int)(b:World)(K:Int->Int->Bool->Bool->WP):Prop:=∃a1,l=some a1/\lp b a1 fun t=>cl 109 #[(vp t),(vi r)] b fun e d=>∃a m i u s g n r1,e=.returned (.tuple #[(Ac a m i u s g n),(vb r1)])/\aj ar b d/\Br (!r1) (∀q p,af b ar d q p->K 0 0 false false p) (∀k:Bool,k=(cond (a==1) (a==1)<|cond (a==2) (a==2)<|a==3)->Br k (∀f c,af b ar d f c->K 0 0 true true c) (Br (a==4) (∀f h,af b ar d f h->K g n false true h)<|Br (a==5) (∀f c,af b ar d f c->K g 0 false true c)<|Br (a==6) (∀f c,af b ar d f c->K 0 0 false false c)<|∀j o,af b ar d j o->FT l g (cond (a==9) i m) j o K))
def Zc(k1 t1 w0 K)(h:P0 k1 t1 w0 K):
  cl 161 #[(vp k1),(vi t1)] w0<|XG K:=
 du func161 h<|nc 5<|ld 1<|cc 1 call109<|cj<|fun {d g f}=>dt<|rt<|iv<|nh 3<|sg 0 0 []<|br 0 3 (ah<|rr 5)<|lh 2 0 [1]<|lh 2 0 []<|ke 0 3 [0,8] (fun a=>[(10,(vi a))]) (fun a H w=>FT _ _ a H w _) (fun i=>pj 2 0 [(d==1),(d==2)] [0,8,10,26] (fun b=>[(27,(vb<|cond (b 0) (d==1)<|cond (b 1) (d==2)<|d==3))]) (fun c=>pb 0 0 0 c (fun c=>pe 1 0 c)<|fun c=>pb 0 3 1 c (fun c=>pe 1 0 c)<|fun c=>pe 3 0 c)<|yy<|br 0 0 (ah<|rr 5)<|br 0 3 (dq 1<|lh 1 0 [5]<|lh 1 0 [6]<|ah<|rr 4)<|br 0 3 (lh 2 0 [5]<|ah<|rr 4)<|br 0 3 (ah<|rr 5)<|pj 3 0 [(d==9)] [0,8] (fun b=>[(10,(vi<|cond (b 0) f g))]) (fun e=>pb 0 0 0 e (fun e=>lh 2 0 [2]<|pe 1 0 e)<|fun e=>pe 1 0 e)<|ah<|je 0 0 i)<|fun {a}=>nc 1<|ld 1<|im 2 call127<|dC 5 [7] []<|ju 1 0 [5]<|br 1 3 (mg 2 call128<|rr 5)<|rr 8
def vo(l:Int)(b d a:Addr)(k:Bool)(t u:Int)(q s:Int)(H:NP)(w:World)(K:Int->Bool->WP):Prop:=Br (!k) (∃n:Option Nat,w.cell? d=some (.map n)/\∃m:World,(Instr.mapUpdate 232 (.map n) (vi l)<|vb true).run prog w=.ok () m/\aj H w m/\K 0 false m)<|∃o:Option Nat,w.cell? b=some (.map o)/\lx w a fun r=>∃h:World,(Instr.mapUpdate 231 (.map o) (vi l)<|vi (r.len:Int)).run prog w=.ok () h/\aj H w h/\lx h a fun j=>∀p i,av h (.cells #[(vi t),(vi u),(vi q),(vi s)] 173) p i->∃s1:Sl,∃g:World,(Builtin.append_ #[169,169] 169 #[j.v,(Sl.mk (some p) 1 1).v]).run prog i=.ok s1.v g/\aj H i g/\zL g a/\¬H a.block/\∀f,f=g.setCell a s1.v->∃e:Option Nat,f.cell? b=some (.map e)/\∃c,(Instr.lookup 231 (.map e) (vi l) false).run prog f=.ok (vi c) f/\K c true f
def Es(p:Int)(d c:Addr)(i e:Addr)(o:Int)(h:Bool)(r q:Int)(t s:Int)(n:World)(H:NP)(w:World)(K:Int->Bool->WP):Prop:=Br (h&&(decide (o>0))) (∀b a,af n H w b a->∃f:Value,a.cell? i=some f/\∃(m:FuncId) (g l:Array Value),f=.func (.func m) g l/\(∀args w,(callFunc m args).run prog w=.ok (.enter m args) w)/\Calls prog m (g++#[(vi o)]++l) a (XE fun u v k=>aj b a k/\∀j,af n b k b j->vo p d c e v r q u s b j K))<|∀b a,af n H w b a->vo p d c e h r q t s b a K
def Gm(k:Int)(c b:Addr)(n j d:Addr)(f:World)(K:Int->Bool->WP):Prop:=∃Q:Option Nat,f.cell? c=some (.map Q)/\∃P r,(Instr.lookup 231 (.map Q) (vi k) true).run prog f=.ok (.tuple #[(vi P),(vb r)]) f/\Br r (K P true f) (∀s m,af f ar f s m->∃O:Option Nat,m.cell? b=some (.map O)/\∃v,(Instr.lookup 232 (.map O) (vi k) false).run prog m=.ok (vb v) m/\lp m n fun S=>∃a1,S=some a1/\∃R:Option Nat,m.cell? (a1.add 2)=some (.map R)/\∃a l z,(Instr.lookup 161 (.map R) (vi k) true).run prog m=.ok (.tuple #[(.agg #[(vi a),(vi l)]),(vb z)]) m/\Br z (Br (a !=0) (∀g i,af f s m g i->∃A:Value,i.cell? j=some A/\∃(G:FuncId) (y t:Array Value),A=.func (.func G) y t/\(∀args w,(callFunc G args).run prog w=.ok (.enter G args) w)/\Calls prog G (y++#[(vi l)]++t) i (XE fun r1 r2 C=>aj g i C/\∀D,af f g C g D->vo k c b d (!v) a r1 0 k g D K))<|∀g i,af f s m g i->vo k c b d (!v) a 0 0 k g i K) (Br (!v) (∀g p,af f s m g p->lp p n fun L=>cl 161 #[(vp L),(vi k)] p fun e q=>∃r3 I J M,e=.returned (.tuple #[(vi r3),(vi I),(vb J),(vb M)])/\aj g p q/\Br (M&&(decide (r3>0))) (∀o h,af f g q o h->∃E:Value,h.cell? j=some E/\∃(H:FuncId) (F x:Array Value),E=.func (.func H) F x/\(∀args w,(callFunc H args).run prog w=.ok (.enter H args) w)/\Calls prog H (F++#[(vi r3)]++x) h (XE fun T N B=>aj o h B/\∀u,af f o B o u->Es k c b j d I N (cond J 4 5) T 0 k f o u K)) (∀o h,af f g q o h->Es k c b j d I M (cond J 4 5) 0 0 k f o h K)) (∀g p,af f s m g p->vo k c b d (!v) 0 0 0 k g p K)))
def w_N(t1 cap1 cap2 cap3 cap4 cap5 w0 K)(h:Gm t1 cap1 cap2 cap3 cap4 cap5 w0 K):
  cl 160 #[(vi t1),(vp<|some cap1),(vp<|some cap2),(vp<|some cap3),(vp<|some cap4),(vp<|some cap5)] w0<|XE K:=
 du func160 h<|ld 2<|dt<|rn 1<|br 0 6 (rr 4)<|nh 3<|sg 0 0 []<|ah<|ld 0<|xe<|rn 1<|ld 2<|nc 0<|ld 1<|uy<|rn 1<|nh 3<|sg 0 0 []<|N9 2 0 [0,1,2,5,11] (fun c i n e f=>[(12,(vb c))]) (fun c i n e f l=>ij l 1 0 [(vi i),(vi n),(vi e),(vi f)]) (fun c i n e f H w=>vo _ _ _ _ c i n e f H w _) (fun p=>br 0 0 (lh 2 0 []<|sh 1 1 []<|lh 1 0 []<|br 0 1 (ah<|ld 1<|lh 1 0 [1]<|fo<|fun r=>cv 0 r<|dt<|rt<|iv<|sh 4 1 [1]<|an<|je 0 0 p)<|ah<|je 1 0 p)<|br 0 2 (ah<|ld 1<|ca4 1 call161<|fun {r3 v x y}=>sh 11 1 []<|ph (fun b l=>ij l 1 0 [(vi<|cond (b 0) 4 5),(vi 0),(vi 0),(vi t1)]) 2 0 [x] [0,1,2,4,5,11,12,15,16] (fun b=>[]) (fun g=>pb 0 0 0 g (fun g=>sh 2 1 []<|pe 0 0 g)<|fun g=>pe 1 0 g)<|pj 0 0 [y] [0,1,2,4,5,11,12,15,16] (fun b=>[(74,(vb<|(b 0)&&(decide (r3>0))))]) (fun k=>pb 1 2 0 k (fun k=>pe 3 0 k)<|fun k=>pe 3 0 k)<|N9 0 0 [0,1,2,4,5,11,16] (fun a o j d q=>[(12,(vb a))]) (fun a o j d q l=>ij l 1 0 [(vi o),(vi j),(vi d),(vi q)]) (fun a o j d q H w=>Es _ _ _ _ _ _ a o j d q _ H w _) (fun u=>br 0 0 (ah<|ld 1<|fo<|fun t=>cv 1 t<|dt<|rt<|iv<|sh 4 1 [1]<|an<|je 1 0 u)<|ah<|je 1 0 u)<|fun {a o j d q}=>pj 0 0 [a] [0,1,2,4,5,11,12,16] (fun b=>[(86,(vb<|(b 0)&&(decide (v>0))))]) (fun m=>pb 1 2 0 m (fun m=>pe 3 0 m)<|fun m=>pe 3 0 m)<|br 0 0 (ah<|ld 1<|fo<|fun s=>cv 1 s<|dt<|rt<|iv<|sh 4 1 [2]<|an<|je 1 0 p)<|ah<|je 1 0 p)<|ah<|je 1 0 p)<|fun {c i n e f}=>br 0 2 (ld 1<|xe<|es 1<|iv<|rr 2)<|ld 1<|ld 1<|xe<|es 1<|iv<|ld 0<|iu 0 1 [] 4<|ot 0<|dt<|ef 0<|iv<|ow 0<|ld 0<|xe<|rn 1<|rr 2
def Mq(o e:Int)(a k:Addr)(d:World)(K:WP):Prop:=lp d a fun B=>∃a1,B=some a1/\∃y:Option Nat,d.cell? (a1.add 2)=some (.map y)/\∃c b i,(Instr.lookup 161 (.map y) (vi o) true).run prog d=.ok (.tuple #[(.agg #[(vi c),(vi b)]),(vb i)]) d/\Br (!i) (∀f h,af d ar d f h->∃l:WP,l h.drew/\∀p,p=h.drew->∃x,(∀w',l w'->w'.cell? a=some (vp x))/\∃a2,x=some a2/\∃u:Option Nat,(∀w',l w'->w'.cell? (a2.add 2)=some (.map u))/\∃r,(∀w',l w'->w'.cell? k=some (vi r))/\∃n:World,(Instr.mapUpdate 161 (.map u) (vi o)<|.agg #[(vi e),(vi r)]).run prog p=.ok () n/\aj f p n/\∃g:WP,g n.drew/\∀z,z=n.drew->∃A,(∀w',g w'->w'.cell? a=some (vp A))/\∃t,(∀w',g w'->w'.cell? a=some (vp t))/\∃a3,t=some a3/\∃w:Sl,(∀w',g w'->w'.cell? (a3.add 3)=some w.v)/\∀q m,av z (.cells #[(vi o)] 73) q m->g m/\∃s1:Sl,∃j:World,(Builtin.append_ #[46,46] 46 #[w.v,(Sl.mk (some q) 1 1).v]).run prog m=.ok s1.v j/\g j/\aj f m j/\∃a4,A=some a4/\zL j (a4.add 3)/\¬f (a4.add 3).block/\∀s,s=j.setCell (a4.add 3) s1.v->K s) (∀f h,af d ar d f h->K h)
def UK(t1 rule1 cap1 cap2 w0 K)(h:Mq t1 rule1 cap1 cap2 w0 K):
  cl 181 #[(vi t1),(vi rule1),(vp<|some cap1),(vp<|some cap2)] w0<|fun e w'=>e=.returned (.tuple #[])/\K  w':=
 du func181 h<|ld 0<|nc 0<|ld 1<|uy<|rn 1<|nh 3<|sg 0 0 []<|br 0 3 (ah<|dC 1 [8] [8]<|il 0<|nc 0<|il 1<|il 2<|xe<|es 1<|iv<|dC 0 [6,7,10] [10]<|il 0<|il 0<|nc 0<|il 1<|wI 1<|dt<|ef 0<|sM<|nc 0<|ow 1<|rr 0)<|ah<|rr 1
end Go.Proofs
end
section
open Go Go.SE List
open Go.IntKind renaming i64 -> q6
namespace Go.Proofs
open Tryz
set_option maxRecDepth 100000
set_option maxHeartbeats 4000000
attribute [local irreducible] bu fw fg dv Calls
attribute [local irreducible] jq W WV WR uC pv ku jn oe ka mm kq ll np my iy ez ij nn kz kp uS xD yC bn ub
def Yn(e:World)(K:(Option Addr)->WP):Prop:=∀b c,av e (.map #[] 0) b c->∀a d,av c (.cells #[Sl.nil.v,(.map<|some b.block)] 160) a d->K (some a) d
def jcH(a:World)(K:(Option Addr)->WP)(h:Yn  a K):
  cl 42 #[] a<|XD K:=
 cy func42 h<|cf 1<|cf 1<|rr 1
def Kp(a:Option Addr)(B A:Int)(x y:Int)(E:ByteArray)(D:Sl)(z:World)(K:Int->Int->WP):Prop:=∀d f,av z (.cells #[(vi B),(vi A),(vi x),(vu y),(vs E),D.v] 71) d f->Br (Option.isNone a) (K 0 0 f) (∀b h,av f (.cells #[(vi 0)] 3) b h->zL h b/\∀g,g=h.setCell b (vi 0)->∃u o t j k l,Row g d (Af u o t j k l)/\cl 124 #[(.agg #[(vi u),(vi o),(vi t),(vu j),(vs k),l.v]),(vi 0),(vp<|some b)] g fun e c=>∃r1,e=.returned (vi r1)/\Br (r1 !=0) (K 0 r1 c) (∃a1,a=some a1/\lx c a1 fun C=>∃q i m s p n,Row c d (Af q i m s p n)/\cl 125 #[(vp a),(.agg #[(vi q),(vi i),(vi m),(vu s),(vs p),n.v])] c fun e r=>∃r2 r3,e=.returned (.tuple #[(vi r2),(vi r3)])/\Br (r3 !=0) (cl 126 #[(vp a),(vi (C.len:Int))] r fun e w=>e=.returned (.tuple #[])/\K 0 r3 w) (K r2 0 r)))
def Z6(p1 aO aP aQ aR aS aT w0 K)(h:Kp p1 aO aP aQ aR aS aT w0 K):
  cl 62 #[(vp p1),(.agg #[(vi aO),(vi aP),(vi aQ),(vu aR),(vs aS),aT.v])] w0<|XH K:=
 cy func62 h<|cf 0<|br 0 4 (rr 3)<|cf 1<|gr 0<|cj<|lr 0<|gd 0 call124<|br 0 3 (rr 4)<|nc 2<|ld 1<|cj<|lr 3<|lv 0 call125<|br 0 7 (wF 3 call126<|rr 3)<|rr 4
def Yc(a:Option Addr)(n1:Int)(b:World)(K:Int->Int->WP):Prop:=cl 132 #[(vp a),(.agg #[(vi 6),(vi n1),(vi 0),(vu 0),ve,(vi 0),(vi 0)])] b<|XH K
def jaz(p1 n1 w0 K)(h:Yc p1 n1 w0 K):
  cl 99 #[(vp p1),(vi n1)] w0<|XH K:=
 cy func99 h<|lv 5 call132<|rr 4
def jaD(g:Option Addr)(q:Int)(D:World)(K:Int->Int->Int->Int->ByteArray->Int->Int->Bool->WP):Prop:=∀a h,av D (.cells #[(vi 0),(vi 0),(vi 0),(vu 0),ve,(vi 0),(vi 0)] 119) a h->cl 130 #[(vp g),(vi q)] h (XC fun r1 b=>Br (!r1) ((∀j,j<7->zL b (a.add j))/\∀c,c=bd b a [(vi 0),(vi 0),(vi 0),(vu 0),ve,(vi 0),(vi 0)]->∃y A r s t u C,Row c a (Ab y A r s t u C)/\K y A r s t u C false c)<|∃a1,g=some a1/\lx b a1 fun E=>∃a2:Addr,At E (q6.wrap<|q-1) 9 a2/\∃z p x l n e B,Row b a2 (Ab z p x l n e B)/\(∀j,j<7->zL b (a.add j))/\∀d,d=bd b a (Ab z p x l n e B)->∃k m i v o f w,Row d a (Ab k m i v o f w)/\K k m i v o f w true d)
def OM(p1 t1 w0 K)(h:jaD p1 t1 w0 K):
  cl 109 #[(vp p1),(vi t1)] w0<|fun e w'=>∃f b i a c d g r2,e=.returned (.tuple #[(Ac f b i a c d g),(vb r2)])/\K f b i a c d g r2 w':=
 cy func109 h<|cf 0<|gd 3 call130<|br 0 1 (dh 2<|dx 1<|cj<|xe<|gj<|ee)<|nc 2<|ld 1<|ix 2<|cj<|xe<|lr 1<|dh 0<|dx 1<|cj<|xe<|gj<|ee
def Mz(b:Int)(c:Option Addr)(g:Addr)(e i1:Int)(a:World)(d:Int->Int->WP)(K:Int->WP):Prop:=lx a (g.add 5) fun m=>Br (decide (i1<(m.len:Int))) (Br (e==0) (lx a (g.add 5) fun l=>∃a3:Addr,At l i1 6 a3/\∃f i bK j k h,Row a a3 (Af f i bK j k h)/\cl 124 #[(.agg #[(vi f),(vi i),(vi bK),(vu j),(vs k),h.v]),(vi<|q6.wrap<|b+1),(vp c)] a (XB fun r2 n=>d r2 (q6.wrap<|i1+1) n)) (K e a)) (K e a)
def Dx(a:Int)(b:Option Addr)(i:Addr)(j:Int)(w:World)(K:Int->WP):Prop:=∃(h:Int->Int->WP) (f:Int->Int->World->Nat),h j 0 w/\∀(g i1:Int) (c:World),h g i1 c->Mz a b i g i1 c (fun e d w'=>h e d w'/\f e d w'<f g i1 c) K
def Bt(a:Int)(f:Option Addr)(k r s:Addr)(p:Int)(w:World)(K:Int->WP):Prop:=Br (p==0) (∃c g e d b,Row w s (Ah c g e d b)/\∃q i o m j l n,Row w r (Ab q i o m j l n)/\cl 177 #[(.agg #[(vb c),(vb g),(vb e),(vb d),(vi b)]),(.agg #[(vi q),(vi i),(vi o),(vu m),(vs j),(vi l),(vi n)])] w (XB fun r3 h=>Dx a f k r3 h K))<|Dx a f k p w K
def Mt(b:Int)(a:Option Addr)(l:Addr)(w:World)(K:Int->WP):Prop:=∃a1,a=some a1/\li w a1 fun R=>∃a2,a=some a2/\zL w a2/\∀q,q=w.setCell a2 (vi<|q6.wrap<|R+1)->∃M C J x z A,Row q l (Af M C J x z A)/\cl 175 #[(.agg #[(vi M),(vi C),(vi J),(vu x),(vs z),A.v])] q fun e S=>∃D t I s L y H,e=.returned (Ac D t I s L y H)/\∀g p,av S (.cells #[(vi 0),(vi 0),(vi 0),(vu 0),ve,(vi 0),(vi 0)] 119) g p->(∀j,j<7->zL p (g.add j))/\∀o,o=bd p g (Ab D t I s L y H)->∃F u B G E r N,Row o g (Ab F u B G E r N)/\cl 176 #[(.agg #[(vi F),(vi u),(vi B),(vu G),(vs E),(vi r),(vi N)])] o (XI fun f m h c d r1 P=>∀i n,av P (.cells #[(vb false),(vb false),(vb false),(vb false),(vi 0)] 263) i n->(∀j,j<5->zL n (i.add j))/\∀k,k=bd n i (Ah f m h c d)->Br (r1==0) (lx k (l.add 5) fun Q=>li k (i.add 4) fun O=>Br (((Q.len:Int):Int) !=O) (Bt b a l g i 53 k K)<|Bt b a l g i r1 k K) (Bt b a l g i r1 k K))
def MO(j i:Int)(e f:Int)(g:ByteArray)(l:Sl)(a:Int)(b:Option Addr)(h:World)(K:Int->WP):Prop:=∀d c,av h (.cells #[(vi j),(vi i),(vi e),(vu f),(vs g),l.v] 71) d c->∃a4,b=some a4/\li c a4 fun k=>Br (decide (k>=4096)) (K 52 c)<|Br (decide (a>=64)) (K 52 c)<|Mt a b d c K
def w_L(aO aP aQ aR aS aT inside1 seen1 w0 K)(h:MO aO aP aQ aR aS aT inside1 seen1 w0 K):
  cl 124 #[(.agg #[(vi aO),(vi aP),(vi aQ),(vu aR),(vs aS),aT.v]),(vi inside1),(vp seen1)] w0<|XB K:=
 cy func124 h<|cf 0<|EL 1 1 [1,2,3] ([]) (fun w=>Mt _ _ _ w _) (fun g=>nc 1<|ld 0<|br 1 2 (rr 5)<|br 0 3 (rr 2)<|df 1 g)<|nc 1<|ld 0<|nc 1<|gr 0<|cj<|lr 0<|cc 0 call175<|cj<|xe<|rt<|eo<|cf 0<|dh 0<|cj<|xe<|lr 0<|lk 0 call176<|cf 3<|dh 0<|me 1 1 [1,2,3,7,8] (fun a=>[(9,(vi a))]) (fun a w=>Bt _ _ _ _ _ a w _) (fun c=>br 1 3 (ld 1<|ld 2<|br 0 2 (df 2 c)<|df 1 c)<|df 8 c)<|fun {a}=>me 0 1 [1,2,3] (fun b=>[(9,(vi b))]) (fun b w=>Dx _ _ _ b w _) (fun e=>br 0 2 (gv<|lr 1<|cj<|xe<|lr 0<|gd 0 call177<|df 1 e)<|df 1 e)<|fun {b}=>Dr 1 [1,2,3] (fun d i1=>[(9,(vi d)),(10,(vi i1))])<|fun {_ _ d i1}=>fun f=>ld 2<|br 1 3 (br 0 3 (ld 2<|ix 1<|cj<|lr 0<|gd 3 call124<|df 4 f)<|rr 3)<|rr 6
def TT(m:Option Addr)(F E:Addr)(y:Sl)(c:Int)(a:World)(g:Int->WP)(K:Int->Int->WP):Prop:=Br (decide (c<(y.len:Int))) (∃a1:Addr,At y c 6 a1/\∃u n p x t q,Row a a1 (Af u n p x t q)/\∀d f,av a (.cells #[(vi 0),(vi 0),(vi 0),(vu 0),ve,Sl.nil.v] 71) d f->(∀j,j<6->zL f (d.add j))/\∀e,e=bd f d (Af u n p x t q)->∃k w bK C o s,Row e d (Af k w bK C o s)/\cl 125 #[(vp m),(.agg #[(vi k),(vi w),(vi bK),(vu C),(vs o),s.v])] e (XH fun r1 r2 b=>Br (r2 !=0) (K 0 r2 b)<|∃a2:Addr,At (Sl.mk (some E) 2 2) c 1 a2/\lp b a2 fun G=>∃a3,G=some a3/\zL b a3/\∀D,D=b.setCell a3 (vi r1)->g (q6.wrap<|c+1) D)) (∃A h z r l i B,Row a F (Ab A h z r l i B)/\cl 132 #[(vp m),(.agg #[(vi A),(vi h),(vi z),(vu r),(vs l),(vi i),(vi B)])] a (XH K))
def ML(C:Option Addr)(H G:Int)(D E:Int)(L:ByteArray)(J:Sl)(F:World)(K:Int->Int->WP):Prop:=∀f g,av F (.cells #[(vi H),(vi G),(vi D),(vu E),(vs L),J.v] 71) f g->∃A t y p r s,Row g f (Af A t y p r s)/\cl 175 #[(.agg #[(vi A),(vi t),(vi y),(vu p),(vs r),s.v])] g fun e M=>∃u n x m z q w,e=.returned (Ac u n x m z q w)/\∀b l,av M (.cells #[(vi 0),(vi 0),(vi 0),(vu 0),ve,(vi 0),(vi 0)] 119) b l->(∀j,j<7->zL l (b.add j))/\∀B,B=bd l b (Ab u n x m z q w)->∀o k,av B (.cells #[(vp<|some<|b.add 5),(vp<|some<|b.add 6)] 267) o k->lx k (f.add 5) fun I=>∃(h:Int->WP) (d:Int->World->Nat),h 0 k/\∀(i:Int) (a:World),h i a->TT C b o I i a (fun c w'=>h c w'/\d c w'<d i a) K
def jaV(p1 aO aP aQ aR aS aT w0 K)(h:ML p1 aO aP aQ aR aS aT w0 K):
  cl 125 #[(vp p1),(.agg #[(vi aO),(vi aP),(vi aQ),(vu aR),(vs aS),aT.v])] w0<|XH K:=
 cy func125 h<|cf 0<|cj<|lr 2<|cc 0 call175<|cj<|xe<|rt<|eo<|cf 0<|dh 0<|cf 2<|ld 2<|As 2 [0,6,7,18,19] (fun a=>[(20,(vi a))])<|fun {_ _ a}=>fun b=>br 0 1 (ix 2<|cj<|lr 0<|cf 0<|dh 1<|cj<|lr 1<|lv 0 call125<|br 0 7 (rr 4)<|ix 3<|ld 0<|nc 1<|gr 0<|df 2 b)<|cj<|xe<|lr 2<|lv 0 call132<|rr 4
def Xl(n:Option Addr)(n1:Int)(s1:Sl)(q:Int)(i:World)(p:Int->WP)(K:WP):Prop:=Br (decide (q<(s1.len:Int))) (∃a2:Addr,At s1 q 9 a2/\∃a c e d b g f k h,Row i a2 [(vi a),(vi c),(vi e),(vu d),(vs b),(vi g),(vi f),(vi k),(vi h)]/\∀l o,av i (.cells #[(vi 0),(vi 0),(vi 0),(vu 0),ve,(vi 0),(vi 0),(vi 0),(vi 0)] 248) l o->(∀j,j<9->zL o (l.add j))/\∀r,r=bd o l [(vi a),(vi c),(vi e),(vu d),(vs b),(vi g),(vi f),(vi k),(vi h)]->∃m:WP,m r.drew/\∀E,E=r.drew->∃a3,n=some a3/\∃y:Option Nat,(∀w',m w'->w'.cell? (a3.add 1)=some (.map y))/\∃B x A u w t C,(∀w',m w'->Row w' l (Ab B x A u w t C))/\∃D:World,(Builtin.delete_ #[157,119] 0 #[(.map y),(Ac B x A u w t C)]).run prog E=.ok (.tuple #[]) D/\p (q6.wrap<|q+1) D)<|∃a4,n=some a4/\lx i a4 fun F=>∃s:Sl,(Instr.sliceAt 158 F.v none (some<|vi n1) none).run prog i=.ok s.v i/\∃a5,n=some a5/\zL i a5/\∀z,z=i.setCell a5 s.v->K z
def Gk(g:Option Addr)(n1:Int)(d:World)(K:WP):Prop:=∃a1,g=some a1/\lx d a1 fun h=>∃s1:Sl,(Instr.sliceAt 158 h.v (some<|vi n1) none none).run prog d=.ok s1.v d/\∃(f:Int->WP) (c:Int->World->Nat),f 0 d/\∀(e:Int) (a:World),f e a->Xl g n1 s1 e a (fun b w'=>f b w'/\c b w'<c e a) K
def Yl(p1 n1 w0 K)(h:Gk p1 n1 w0 K):
  cl 126 #[(vp p1),(vi n1)] w0<|fun e w'=>e=.returned (.tuple #[])/\K  w':=
 cy func126 h<|nc 1<|ld 1<|xe<|rn 1<|As 2 [0,1,11,12] (fun a=>[(13,(vi a))])<|fun {_ _ a}=>fun b=>br 0 1 (ix 1<|cj<|uy<|lr 0<|cf 0<|dh 0<|sE 0 [6] [6]<|nc 1<|il 1<|cj<|xe<|zs 1<|xe<|ef 0<|eo<|df 2 b)<|nc 3<|ld 1<|xe<|rn 1<|nc 0<|gr 1<|rr 0
def jcN(e:Option Addr)(p s:Int)(v o:Int)(u:ByteArray)(q t:Int)(r:World)(K:Int->Bool->WP):Prop:=∀f c,av r (.cells #[(vi p),(vi s),(vi v),(vu o),(vs u),(vi q),(vi t)] 119) f c->Br (Option.isNone e) (K 0 false c) (∀a,a=c.drew->∃a1,e=some a1/\∃k:Option Nat,a.cell? (a1.add 1)=some (.map k)/\∃m i l g h d n,Row a f (Ab m i l g h d n)/\∃j b,(Instr.lookup 157 (.map k) (.agg #[(vi m),(vi i),(vi l),(vu g),(vs h),(vi d),(vi n)]) true).run prog a=.ok (.tuple #[(vi j),(vb b)]) a/\K j b a)
def Ve(p1 aA aB aC aD aE aF aG w0 K)(h:jcN p1 aA aB aC aD aE aF aG w0 K):
  cl 127 #[(vp p1),(.agg #[(vi aA),(vi aB),(vi aC),(vu aD),(vs aE),(vi aF),(vi aG)])] w0<|XE K:=
 cy func127 h<|cf 0<|br 0 4 (rr 3)<|Mc 1<|nc 1<|ld 1<|cj<|xe<|lr 0<|dt<|rn 0<|rr 9
def BH(c:Option Addr)(a:Int)(d:Bool)(w:World)(K:Bool->WP):Prop:=Br d (∃a1,c=some a1/\lx w a1 fun b=>K (decide (a<=(b.len:Int))) w)<|K false w
def Gv(b:Option Addr)(a:Int)(c:World)(K:Bool->WP):Prop:=Br (!(Option.isNone b)) (BH b a (decide (a>=1)) c K)<|BH b a false c K
def K7(p1 t1 w0 K)(h:Gv p1 t1 w0 K):
  cl 130 #[(vp p1),(vi t1)] w0<|XC K:=
 cy func130 h<|ct 4 3<|me 0 0 [0,1] (fun a=>[(10,(vb a))]) (fun a w=>BH _ _ a w _) (fun b=>br 1 0 (df 3 b)<|df 3 b)<|fun {a}=>br 1 1 (nc 2<|ld 1<|rr 4)<|rr 9
def SK(e:Option Addr)(g:Int)(f:World)(K:Value->WP):Prop:=∀b c,av f (.cells #[(vp e)] 91) b c->∀a d,av c (.cells #[(vi g)] 73) a d->K (.func (.func 178) #[] #[(vp<|some b),(vp<|some a)]) d
def Wu(p1 t1 w0 K)(h:SK p1 t1 w0 K):
  cl 131 #[(vp p1),(vi t1)] w0<|fun e w'=>∃r1:Value,e=.returned r1/\K r1 w':=
 cy func131 h<|cf 0<|cf 0<|rr 3
def Ki(b:Option Addr)(Z aB:Int)(aC Y:Int)(aE:ByteArray)(aF aG:Int)(w0:World)(K:Int->Int->WP):Prop:=∀e f,av w0 (.cells #[(vi Z),(vi aB),(vi aC),(vu Y),(vs aE),(vi aF),(vi aG)] 119) e f->Br (Option.isNone b) (K 0 0 f) (∃R z P t u k S,Row f e (Ab R z P t u k S)/\cl 180 #[(vp b),(.agg #[(vi R),(vi z),(vi P),(vu t),(vs u),(vi k),(vi S)])] f (XJ fun r1 r2 r3 X=>Br (r3 !=0) (K 0 r3 X)<|∀a,a=X.drew->∃a1,b=some a1/\∃M:Option Nat,a.cell? (a1.add 1)=some (.map M)/\∃H o x L E p N,Row a e (Ab H o x L E p N)/\∃I c,(Instr.lookup 157 (.map M) (.agg #[(vi H),(vi o),(vi x),(vu L),(vs E),(vi p),(vi N)]) true).run prog a=.ok (.tuple #[(vi I),(vb c)]) a/\Br c (K I 0 a) (∃a2,b=some a2/\lx a a2 fun v3=>Br (decide ((v3.len:Int)>=65536)) (K 0 6 a)<|∃d:WP,d a.drew/\∀U,U=a.drew->∃a3,b=some a3/\∃w:Sl,(∀w',d w'->w'.cell? a3=some w.v)/\∃m J bK T s F B,(∀w',d w'->Row w' e (Ab m J bK T s F B))/\∀G j,av U (.cells #[(vi m),(vi J),(vi bK),(vu T),(vs s),(vi F),(vi B),(vi r1),(vi r2)] 248) G j->d j/\∃s1:Sl,∃h:World,(Builtin.append_ #[158,158] 158 #[w.v,(Sl.mk (some G) 1 1).v]).run prog j=.ok s1.v h/\d h/\∃a4,b=some a4/\zL h a4/\∀g,g=h.setCell a4 s1.v->∃a5,b=some a5/\lx g a5 fun q=>∃i:WP,i g.drew/\∀r,r=g.drew->∃y,b=some y/\∃W:Option Nat,(∀w',i w'->w'.cell? (y.add 1)=some (.map W))/\∃Q l O A n C D,(∀w',i w'->Row w' e (Ab Q l O A n C D))/\∃V:World,(Instr.mapUpdate 157 (.map W) (.agg #[(vi Q),(vi l),(vi O),(vu A),(vs n),(vi C),(vi D)])<|vi (q.len:Int)).run prog r=.ok () V/\K (q.len:Int) 0 V)))
def Up(p1 aA aB aC aD aE aF aG w0 K)(h:Ki p1 aA aB aC aD aE aF aG w0 K):
  cl 132 #[(vp p1),(.agg #[(vi aA),(vi aB),(vi aC),(vu aD),(vs aE),(vi aF),(vi aG)])] w0<|XH K:=
 cy func132 h<|cf 0<|br 0 4 (rr 3)<|cj<|xe<|lr 2<|BR 0 call180<|br 0 9 (rr 4)<|Mc 1<|nc 1<|ld 1<|cj<|xe<|lr 0<|dt<|rn 0<|br 0 6 (rr 4)<|nc 2<|ld 1<|br 0 2 (rr 3)<|sE 1 [9,10,13] [13]<|nc 2<|il 1<|cj<|xe<|zs 0<|pn 3<|dt<|ef 0<|j9<|nc 0<|gr 1<|nc 1<|ld 1<|sE 2 [6] [6]<|nc 1<|il 1<|cj<|xe<|zs 0<|xe<|es 1<|eo<|rr 3
def Ko(b:Option Addr)(a:World)(K:Int->WP):Prop:=Br (Option.isNone b) (K 0 a)<|∃a1,b=some a1/\lx a a1 fun c=>K (c.len:Int) a
def Zf(p1 w0 K)(h:Ko p1 w0 K):
  cl 136 #[(vp p1)] w0<|XB K:=
 cy func136 h<|br 0 3 (rr 2)<|nc 2<|ld 1<|rr 2
def YC(w u:Int)(o q:Int)(z:ByteArray)(y:Sl)(s:World)(K:Int->Int->Int->Int->ByteArray->Int->Int->WP):Prop:=∀b e,av s (.cells #[(vi w),(vi u),(vi o),(vu q),(vs z),y.v] 71) b e->∀c a,av e (.cells #[(vi 0),(vi 0),(vi 0),(vu 0),ve,(vi 0),(vi 0)] 119) c a->li a b fun x=>li a (b.add 1) fun t=>li a (b.add 2) fun r=>lu a (b.add 3) fun p=>ls a (b.add 4) fun n=>(∀j,j<7->zL a (c.add j))/\∀d,d=bd a c (Ab x t r p n 0 0)->∃l m g h i k f,Row d c (Ab l m g h i k f)/\K l m g h i k f d
def RP(aO aP aQ aR aS aT w0 K)(h:YC aO aP aQ aR aS aT w0 K):
  cl 175 #[(.agg #[(vi aO),(vi aP),(vi aQ),(vu aR),(vs aS),aT.v])] w0<|fun e w'=>∃f b i a c d g,e=.returned (Ac f b i a c d g)/\K f b i a c d g w':=
 cy func175 h<|cf 0<|cf 0<|ld 1<|ld 1<|ld 1<|ld 1<|ld 1<|dh 1<|dx 0<|cj<|xe<|gj<|ee
def Ct(X A S:Addr)(Y:Bool)(w:World)(K:Bool->Bool->Bool->Bool->Int->Int->WP):Prop:=Br Y (∃r Q C z h,Row w S (Ah r Q C z h)/\(∀j,j<5->zL w (A.add j))/\∀V,V=bd w A (Ah r Q C z h)->∃u R E p t,Row V A (Ah u R E p t)/\K u R E p t 53 V)<|lb w (S.add 3) fun v2=>Br (!v2) (ls w (X.add 4) fun Z=>Br (!(decide (Z=⟨#[]⟩))) (∃m P H o q,Row w S (Ah m P H o q)/\(∀j,j<5->zL w (A.add j))/\∀T,T=bd w A (Ah m P H o q)->∃v N F n l,Row T A (Ah v N F n l)/\K v N F n l 53 T)<|∃b J I f c,Row w S (Ah b J I f c)/\(∀j,j<5->zL w (A.add j))/\∀U,U=bd w A (Ah b J I f c)->∃y O D x d,Row U A (Ah y O D x d)/\K y O D x d 0 U) (∃a M B i g,Row w S (Ah a M B i g)/\(∀j,j<5->zL w (A.add j))/\∀W,W=bd w A (Ah a M B i g)->∃e L G s k,Row W A (Ah e L G s k)/\K e L G s k 0 W)
def DD(b c a:Addr)(d e:Bool)(w:World)(K:Bool->Bool->Bool->Bool->Int->Int->WP):Prop:=Br d (Ct b c a true w K)<|Ct b c a e w K
def AQ(b d a:Addr)(c:Bool)(w:World)(K:Bool->Bool->Bool->Bool->Int->Int->WP):Prop:=Br c (Ct b d a true w K)<|lb w (a.add 2) fun e=>Br (!e) (lu w (b.add 3) fun f=>DD b d a c (f !=0) w K) (DD b d a c false w K)
def D5(b c a:Addr)(d e:Bool)(w:World)(K:Bool->Bool->Bool->Bool->Int->Int->WP):Prop:=Br d (AQ b c a true w K)<|AQ b c a e w K
def BI(b d a:Addr)(c:Bool)(w:World)(K:Bool->Bool->Bool->Bool->Int->Int->WP):Prop:=Br c (AQ b d a true w K)<|lb w (a.add 1) fun f=>Br (!f) (li w (b.add 2) fun e=>D5 b d a c (e !=0) w K) (D5 b d a c false w K)
def DE(b c:Addr)(r1:Bool)(a:Addr)(d:Bool)(w:World)(K:Bool->Bool->Bool->Bool->Int->Int->WP):Prop:=Br (!r1) (BI b c a true w K)<|BI b c a d w K
def Md(q t:Int)(x o:Int)(w:ByteArray)(r v:Int)(s:World)(K:Bool->Bool->Bool->Bool->Int->Int->WP):Prop:=∀f m,av s (.cells #[(vi q),(vi t),(vi x),(vu o),(vs w),(vi r),(vi v)] 119) f m->∀i l,av m (.cells #[(vb false),(vb false),(vb false),(vb false),(vi 0)] 263) i l->li l f fun u=>cl 265 #[(vi u)] l<|XK fun c h d a b r1 y=>∀e k,av y (.cells #[(vb false),(vb false),(vb false),(vb false),(vi 0)] 263) e k->(∀j,j<5->zL k (e.add j))/\∀g,g=bd k e (Ah c h d a b)->Br (!r1) (BI f i e true g K) (lb g e fun p=>Br (!p) (li g (f.add 1) fun n=>DE f i r1 e (n !=0) g K) (DE f i r1 e false g K))
def w_E(aA aB aC aD aE aF aG w0 K)(h:Md aA aB aC aD aE aF aG w0 K):
  cl 176 #[(.agg #[(vi aA),(vi aB),(vi aC),(vu aD),(vs aE),(vi aF),(vi aG)])] w0<|XI K:=
 cy func176 h<|cf 0<|cf 0<|ld 2<|lk 0 call265<|cf 3<|dh 0<|ct 4 9<|me 0 0 [1,2,4] (fun b=>[(23,(vb b))]) (fun b w=>BI _ _ _ b w _) (fun i=>br 1 0 (df 9 i)<|ld 1<|ct 2 4<|me 0 0 [1,2,4,14] (fun c=>[(22,(vb c))]) (fun c w=>DE _ _ _ _ c w _) (fun l=>br 1 0 (ld 1<|df 2 l)<|df 4 l)<|fun {c}=>br 2 0 (df 1 i)<|df 1 i)<|fun {b}=>ct 1 9<|me 0 0 [1,2,4] (fun a=>[(33,(vb a))]) (fun a w=>AQ _ _ _ a w _) (fun g=>br 1 0 (df 9 g)<|ld 1<|ct 2 4<|me 0 0 [1,2,4,24] (fun d=>[(32,(vb d))]) (fun d w=>D5 _ _ _ _ d w _) (fun m=>br 1 0 (ld 1<|df 2 m)<|df 4 m)<|fun {d}=>br 2 0 (df 1 g)<|df 1 g)<|fun {a}=>ct 1 9<|me 0 0 [1,2,4] (fun f=>[(43,(vb f))]) (fun f w=>Ct _ _ _ f w _) (fun j=>br 1 0 (df 9 j)<|ld 1<|ct 2 4<|me 0 0 [1,2,4,34] (fun e=>[(42,(vb e))]) (fun e w=>DD _ _ _ _ e w _) (fun k=>br 1 0 (ld 1<|df 2 k)<|df 4 k)<|fun {e}=>br 2 0 (df 1 j)<|df 1 j)<|fun {f}=>br 1 1 (gv<|lr 10<|dh 0<|dx 1<|gv<|gj<|ee)<|ld 1<|br 1 2 (ld 1<|br 0 3 (gv<|lr 1<|dh 0<|dx 1<|gv<|gj<|ee)<|gv<|lr 1<|dh 0<|dx 1<|gv<|gj<|ee)<|gv<|lr 6<|dh 0<|dx 1<|gv<|gj<|ee
def Cz(f b:Addr)(e:Bool)(w:World)(K:Int->WP):Prop:=Br e (K 50 w)<|lb w (f.add 1) fun i=>Br i (li w (b.add 2) fun g=>cl 266 #[(vi g)] w<|XC fun r1 a=>Br (!r1) (K 50 a)<|li a (b.add 2) fun c=>li a (b.add 1) fun d=>Br (c==d) (K 50 a)<|ls a (b.add 4) fun h=>Br (decide ((h.size:Int)>64)) (K 1 a)<|K 0 a) (ls w (b.add 4) fun j=>Br (decide ((j.size:Int)>64)) (K 1 w)<|K 0 w)
def Rc(b e:Bool)(d c:Bool)(a m:Int)(p s k:Int)(r:ByteArray)(n q:Int)(o:World)(K:Int->WP):Prop:=∀g i,av o (.cells #[(vb b),(vb e),(vb d),(vb c),(vi a)] 263) g i->∀h f,av i (.cells #[(vi m),(vi p),(vi s),(vu k),(vs r),(vi n),(vi q)] 119) h f->lb f g fun j=>Br j (li f (h.add 1) fun l=>cl 266 #[(vi l)] f<|XC fun r2 t=>Cz g h (!r2) t K) (Cz g h false f K)
def Ty(sfrom1 sto1 snum1 stext1 skids1 aA aB aC aD aE aF aG w0 K)(h:Rc sfrom1 sto1 snum1 stext1 skids1 aA aB aC aD aE aF aG w0 K):
  cl 177 #[(.agg #[(vb sfrom1),(vb sto1),(vb snum1),(vb stext1),(vi skids1)]),(.agg #[(vi aA),(vi aB),(vi aC),(vu aD),(vs aE),(vi aF),(vi aG)])] w0<|XB K:=
 cy func177 h<|cf 0<|cf 0<|me 1 0 [2,3] (fun a=>[(5,(vb a))]) (fun a w=>Cz _ _ a w _) (fun b=>ld 1<|br 1 1 (ld 1<|gd 0 call266<|df 3 b)<|df 6 b)<|fun {a}=>br 0 0 (rr 3)<|ld 2<|br 1 1 (ld 1<|gd 0 call266<|br 1 2 (rr 10)<|ld 1<|ld 1<|br 0 4 (rr 2)<|ld 2<|br 0 3 (rr 2)<|rr 2)<|ld 15<|br 0 3 (rr 2)<|rr 2
def TS(u:Option Addr)(o:Int)(z:World)(K:Sl->WP):Prop:=∀i m,av z (.cells #[(vp u)] 91) i m->∀g t,av m (.cells #[Sl.nil.v] 46) g t->∀n s,av t (.map #[] 0) n s->∀h l,av s (.cells #[(.map none)] 231) h l->zL l h/\∀q,q=l.setCell h (.map<|some n.block)->∀b k,av q (.cells #[(.nilFunc:Value)] 192) b k->zL k b/\∀j,j=k.setCell b (.func (.func 267) #[] #[(vp<|some h),(vp<|some i),(vp<|some b),(vp<|some g)])->lp j i fun A=>cl 130 #[(vp A),(vi o)] j fun e f=>∃r1,e=.returned (vb r1)/\Br r1 (∃p:Value,f.cell? b=some p/\∃(d:FuncId) (c a:Array Value),p=.func (.func d) c a/\(∀args w,(callFunc d args).run prog w=.ok (.enter d args) w)/\Calls prog d (c++#[(vi o)]++a) f fun e r=>e=.returned (.tuple #[])/\lx r g fun y=>K y r) (lx f g fun x=>K x f)
def jce(p1 t1 w0 K)(h:TS p1 t1 w0 K):
  cl 179 #[(vp p1),(vi t1)] w0<|XA K:=
 cy func179 h<|cf 0<|cf 1<|cf 0<|cf 0<|gr 0<|cf 0<|gr 1<|ld 0<|gd 1 call130<|br 0 0 (ld 1<|fo<|fun a=>cv 1 a<|rt<|eo<|ld 0<|rr 1)<|ld 1<|rr 1
def Jd(g:Option Addr)(s1:Sl)(b a f:Int)(c:World)(i:Int->Int->Int->WP)(K:Int->Int->Int->WP):Prop:=Br (decide (f<(s1.len:Int))) (∃a1:Addr,At s1 f 1 a1/\li c a1 fun d=>cl 130 #[(vp g),(vi d)] c fun e k=>∃r2,e=.returned (vb r2)/\Br (!r2) (K 0 0 51 k) (cl 269 #[(vp g),(vi d)] k fun e m=>∃r3,e=.returned (vi r3)/\cl 270 #[(vp g),(vi d)] m (XB fun l h=>∃j,(Builtin.max_ #[3,3] 3 #[(vi a),(vi l)]).run prog h=.ok (vi j) h/\i (q6.wrap<|b+r3) j (q6.wrap<|f+1) h))) (Br (decide (b>4096)) (K 0 0 52 c)<|Br (decide ((q6.wrap<|a+1)>64)) (K 0 0 52 c)<|K b (q6.wrap<|a+1) 0 c)
def Dw(p:Option Addr)(k o:Addr)(l:Int)(w:World)(K:Int->Int->Int->WP):Prop:=Br (l !=0) (K 0 0 l w)<|li w (k.add 5) fun r=>li w (k.add 6) fun q=>∀m g,av w (.cells #[(vi r),(vi q)] 73) m g->li g (o.add 4) fun n=>∃s1:Sl,(Instr.sliceAt 46 (Sl.mk (some m) 2 2).v none (some<|vi n) none).run prog g=.ok s1.v g/\∃(j:Int->Int->Int->WP) (h:Int->Int->Int->World->Nat),j 1 0 0 g/\∀(b a i:Int) (c:World),j b a i c->Jd p s1 b a i c (fun e d f w'=>j e d f w'/\h e d f w'<h b a i c) K
def sC(j:Option Addr)(g f:Addr)(m:Int)(w:World)(K:Int->Int->Int->WP):Prop:=Br (m==0) (∃b e d c a,Row w f (Ah b e d c a)/\∃n k h o i l p,Row w g (Ab n k h o i l p)/\cl 177 #[(.agg #[(vb b),(vb e),(vb d),(vb c),(vi a)]),(.agg #[(vi n),(vi k),(vi h),(vu o),(vs i),(vi l),(vi p)])] w (XB fun q r=>Dw j g f q r K))<|Dw j g f m w K
def Eu(b:Option Addr)(c:Addr)(r1:Int)(a:Addr)(d e:Bool)(w:World)(K:Int->Int->Int->WP):Prop:=Br (r1==0) (Br d (sC b c a 53 w K)<|Br e (sC b c a 53 w K)<|sC b c a r1 w K)<|sC b c a r1 w K
def D6(c:Option Addr)(b:Addr)(r1:Int)(a:Addr)(d:Bool)(w:World)(K:Int->Int->Int->WP):Prop:=Br (r1==0) (Br d (sC c b a 53 w K)<|li w (a.add 4) fun f=>Br (decide (f<2)) (li w (b.add 6) fun e=>Eu c b r1 a d (e !=0) w K) (Eu c b r1 a d false w K)) (sC c b a r1 w K)
def ON(i:Option Addr)(x A:Int)(C v:Int)(B:ByteArray)(y D:Int)(z:World)(K:Int->Int->Int->WP):Prop:=∀f k,av z (.cells #[(vi x),(vi A),(vi C),(vu v),(vs B),(vi y),(vi D)] 119) f k->∃r p q n o m s,Row k f (Ab r p q n o m s)/\cl 176 #[(.agg #[(vi r),(vi p),(vi q),(vu n),(vs o),(vi m),(vi s)])] k (XI fun c h d a b r1 u=>∀e l,av u (.cells #[(vb false),(vb false),(vb false),(vb false),(vi 0)] 263) e l->(∀j,j<5->zL l (e.add j))/\∀g,g=bd l e (Ah c h d a b)->Br (r1==0) (li g (e.add 4) fun t=>Br (decide (t<1)) (li g (f.add 5) fun w=>D6 i f r1 e (w !=0) g K) (D6 i f r1 e false g K)) (sC i f e r1 g K))
def Xt(p1 aA aB aC aD aE aF aG w0 K)(h:ON p1 aA aB aC aD aE aF aG w0 K):
  cl 180 #[(vp p1),(.agg #[(vi aA),(vi aB),(vi aC),(vu aD),(vs aE),(vi aF),(vi aG)])] w0<|XJ K:=
 cy func180 h<|cf 0<|cj<|xe<|lr 3<|lk 0 call176<|cf 3<|dh 0<|me 1 1 [0,3,7] (fun e=>[(8,(vi e))]) (fun e w=>sC _ _ _ e w _) (fun c=>br 1 3 (ld 1<|ct 2 4<|me 0 0 [0,3,7,8,20] (fun d=>[(28,(vb d))]) (fun d w=>D6 _ _ _ _ d w _) (fun i=>br 1 0 (ld 1<|df 2 i)<|df 4 i)<|fun {d}=>br 1 0 (br 1 1 (df 12 c)<|ld 1<|ct 2 4<|me 0 0 [0,3,7,8,20,29] (fun g=>[(37,(vb g))]) (fun g w=>Eu _ _ _ _ _ g w _) (fun l=>br 1 0 (ld 1<|df 2 l)<|df 4 l)<|fun {g}=>br 1 0 (br 2 0 (df 4 c)<|br 0 2 (df 2 c)<|df 1 c)<|df 3 c)<|df 12 c)<|df 20 c)<|fun {e}=>me 0 1 [0,3,7] (fun f=>[(8,(vi f))]) (fun f w=>Dw _ _ _ f w _) (fun j=>br 0 2 (gv<|lr 1<|cj<|xe<|lr 0<|gd 0 call177<|df 1 j)<|df 1 j)<|fun {f}=>br 0 2 (rr 5)<|ld 4<|ld 1<|cf 0<|ld 1<|xe<|rn 0<|TG 2 [0,55,56] (fun b a k=>[(9,(vi b)),(10,(vi a)),(57,(vi k))])<|fun {_ _ b a k}=>fun m=>br 0 1 (ix 1<|ld 0<|gd 3 call130<|br 0 1 (rr 4)<|gd 4 call269<|gd 5 call270<|xe<|rn 0<|df 3 m)<|br 1 7 (rr 7)<|br 0 3 (rr 4)<|rr 6
def QB(a:Option Addr)(n1:Int)(b:World)(K:Int->Int->WP):Prop:=cl 132 #[(vp a),(.agg #[(vi 1),(vi n1),(vi 0),(vu 0),ve,(vi 0),(vi 0)])] b<|XH K
def Xh(p1 n1 w0 K)(h:QB p1 n1 w0 K):
  cl 225 #[(vp p1),(vi n1)] w0<|XH K:=
 cy func225 h<|lv 5 call132<|rr 4
def jbP(a:Option Addr)(n1:Int)(b:World)(K:Int->Int->WP):Prop:=cl 132 #[(vp a),(.agg #[(vi 2),(vi 0),(vi 0),(vu n1),ve,(vi 0),(vi 0)])] b<|XH K
def jcE(p1 n1 w0 K)(h:jbP p1 n1 w0 K):
  cl 227 #[(vp p1),(vu n1)] w0<|XH K:=
 cy func227 h<|lv 5 call132<|rr 4
def Y6(a:Option Addr)(s1:ByteArray)(b:World)(K:Int->Int->WP):Prop:=cl 132 #[(vp a),(.agg #[(vi 3),(vi 0),(vi 0),(vu 0),(vs s1),(vi 0),(vi 0)])] b<|XH K
def jco(p1 s1 w0 K)(h:Y6 p1 s1 w0 K):
  cl 229 #[(vp p1),(vs s1)] w0<|XH K:=
 cy func229 h<|lv 5 call132<|rr 4
def WQ(a:Option Addr)(a1 b1:Int)(b:World)(K:Int->Int->WP):Prop:=cl 132 #[(vp a),(.agg #[(vi 4),(vi 0),(vi 0),(vu 0),ve,(vi a1),(vi b1)])] b<|XH K
def Yo(p1 a1 b1 w0 K)(h:WQ p1 a1 b1 w0 K):
  cl 232 #[(vp p1),(vi a1),(vi b1)] w0<|XH K:=
 cy func232 h<|lv 6 call132<|rr 4
def QF(a:Option Addr)(a1:Int)(b:World)(K:Int->Int->WP):Prop:=cl 132 #[(vp a),(.agg #[(vi 5),(vi 0),(vi 0),(vu 0),ve,(vi a1),(vi 0)])] b<|XH K
def Zt(p1 a1 w0 K)(h:QF p1 a1 w0 K):
  cl 234 #[(vp p1),(vi a1)] w0<|XH K:=
 cy func234 h<|lv 5 call132<|rr 4
def jaR(a:Option Addr)(n1 a1:Int)(b:World)(K:Int->Int->WP):Prop:=cl 132 #[(vp a),(.agg #[(vi 7),(vi n1),(vi 0),(vu 0),ve,(vi a1),(vi 0)])] b<|XH K
def SM(p1 n1 a1 w0 K)(h:jaR p1 n1 a1 w0 K):
  cl 241 #[(vp p1),(vi n1),(vi a1)] w0<|XH K:=
 cy func241 h<|lv 6 call132<|rr 4
def jbs(c:Option Addr)(a b a1:Int)(d:World)(K:Int->Int->WP):Prop:=cl 132 #[(vp c),(.agg #[(vi 8),(vi a),(vi b),(vu 0),ve,(vi a1),(vi 0)])] d<|XH K
def YG(p1 from1 to1 a1 w0 K)(h:jbs p1 from1 to1 a1 w0 K):
  cl 244 #[(vp p1),(vi from1),(vi to1),(vi a1)] w0<|XH K:=
 cy func244 h<|lv 7 call132<|rr 4
def ZG(c:Option Addr)(a b a1:Int)(d:World)(K:Int->Int->WP):Prop:=cl 132 #[(vp c),(.agg #[(vi 9),(vi a),(vi b),(vu 0),ve,(vi a1),(vi 0)])] d<|XH K
def RT(p1 from1 to1 a1 w0 K)(h:ZG p1 from1 to1 a1 w0 K):
  cl 248 #[(vp p1),(vi from1),(vi to1),(vi a1)] w0<|XH K:=
 cy func248 h<|lv 7 call132<|rr 4
def Yd(a:Int)(D:World)(K:Bool->Bool->Bool->Bool->Int->Bool->WP):Prop:=∀t y,av D (.cells #[(vb false),(vb false),(vb false),(vb false),(vi 0)] 263) t y->Br (decide (a<1)) ((∀j,j<5->zL y (t.add j))/\∀C,C=bd y t (Ah false false false false 0)->∃k w s h i,Row C t (Ah k w s h i)/\K k w s h i false C) (Br (decide (a>9)) ((∀j,j<5->zL y (t.add j))/\∀B,B=bd y t (Ah false false false false 0)->∃l u r g f,Row B t (Ah l u r g f)/\K l u r g f false B)<|cl 294 #[] y fun e z=>∃r1:Array Value,e=.returned (.agg r1)/\∃b x p o c,(Instr.index 335 (.agg r1)<|vi a).run prog z=.ok (.agg #[(vb b),(vb x),(vb p),(vb o),(vi c)]) z/\(∀j,j<5->zL z (t.add j))/\∀A,A=bd z t (Ah b x p o c)->∃n v q m d,Row A t (Ah n v q m d)/\K n v q m d true A)
def XZ(kind1 w0 K)(h:Yd kind1 w0 K):
  cl 265 #[(vi kind1)] w0<|XK K:=
 cy func265 h<|cf 0<|br 1 4 (dh 5<|dx 1<|gv<|gj<|ee)<|br 0 3 (dh 2<|dx 1<|gv<|gj<|ee)<|gd 1 call294<|gv<|rn 1<|dh 0<|dx 1<|gv<|gj<|ee
def Vh(n1:Int)(a:World)(K:Bool->WP):Prop:=Br (decide (n1>=0)) (K (decide (n1<16)) a)<|K false a
def Rf(n1 w0 K)(h:Vh n1 w0 K):
  cl 266 #[(vi n1)] w0<|XC K:=
 cy func266 h<|br 1 4 (rr 4)<|rr 4
def MM(p:Int)(d b:Addr)(r1:Sl)(h:Int)(a:World)(i:Int->WP)(K:WP):Prop:=Br (decide (h<(r1.len:Int))) (∃a1:Addr,At r1 h 1 a1/\li a a1 fun r=>∃l:Value,a.cell? d=some l/\∃(g:FuncId) (c f:Array Value),l=.func (.func g) c f/\(∀args w,(callFunc g args).run prog w=.ok (.enter g args) w)/\Calls prog g (c++#[(vi r)]++f) a fun e q=>e=.returned (.tuple #[])/\i (q6.wrap<|h+1) q) (lx a b fun o=>∀m n,av a (.cells #[(vi p)] 73) m n->∃s1:Sl,∃j:World,(Builtin.append_ #[46,46] 46 #[o.v,(Sl.mk (some m) 1 1).v]).run prog n=.ok s1.v j/\zL j b/\∀k,k=j.setCell b s1.v->K k)
def Fu(g:Int)(a e:Addr)(f i:Addr)(b:World)(K:WP):Prop:=∃p:Option Nat,b.cell? a=some (.map p)/\∃o,(Instr.lookup 231 (.map p) (vi g) false).run prog b=.ok (vi o) b/\Br (decide (o>0)) (K b) (∃j:Option Nat,b.cell? a=some (.map j)/\∃n,(Instr.lookup 231 (.map j) (vi g) false).run prog b=.ok (vi n) b/\∃m:World,(Instr.mapUpdate 231 (.map j) (vi g)<|vi<|q6.wrap<|n+1).run prog b=.ok () m/\lp m e fun r=>cl 268 #[(vp r),(vi g)] m<|XA fun r1 q=>∃(l:Int->WP) (h:Int->World->Nat),l 0 q/\∀(k:Int) (c:World),l k c->MM g f i r1 k c (fun d w'=>l d w'/\h d w'<h k c) K)
def jaN(t1 cap1 cap2 cap3 cap4 w0 K)(h:Fu t1 cap1 cap2 cap3 cap4 w0 K):
  cl 267 #[(vi t1),(vp<|some cap1),(vp<|some cap2),(vp<|some cap3),(vp<|some cap4)] w0<|fun e w'=>e=.returned (.tuple #[])/\K  w':=
 cy func267 h<|ld 0<|xe<|rn 1<|br 0 1 (rr 1)<|ld 1<|xe<|rn 1<|xe<|es 1<|eo<|ld 0<|gd 1 call268<|As 2 [0,3,4,18,19] (fun b=>[(20,(vi b))])<|fun {_ _ b}=>fun c=>br 0 1 (ix 1<|ld 0<|ld 1<|fo<|fun a=>cv 1 a<|rt<|eo<|df 2 c)<|ld 1<|cf 1<|dt<|ef 0<|eo<|gr 0<|rr 0
def jcD(x:Option Addr)(A:Int)(C:World)(K:Sl->WP):Prop:=cl 109 #[(vp x),(vi A)] C fun e y=>∃s p u o w r t r1,e=.returned (.tuple #[(Ac s p u o w r t),(vb r1)])/\∀f n,av y (.cells #[(vi 0),(vi 0),(vi 0),(vu 0),ve,(vi 0),(vi 0)] 119) f n->(∀j,j<7->zL n (f.add j))/\∀m,m=bd n f (Ab s p u o w r t)->li m f fun E=>cl 265 #[(vi E)] m<|XK fun c h d a b r2 F=>∀k l,av F (.cells #[(vb false),(vb false),(vb false),(vb false),(vi 0)] 263) k l->(∀j,j<5->zL l (k.add j))/\∀i,i=bd l k (Ah c h d a b)->li i (f.add 5) fun D=>li i (f.add 6) fun B=>∀q g,av i (.cells #[(vi D),(vi B)] 73) q g->li g (k.add 4) fun z=>∃s1:Sl,(Instr.sliceAt 46 (Sl.mk (some q) 2 2).v none (some<|vi z) none).run prog g=.ok s1.v g/\K s1 g
def jaj(p1 t1 w0 K)(h:jcD p1 t1 w0 K):
  cl 268 #[(vp p1),(vi t1)] w0<|XA K:=
 cy func268 h<|cc 3 call109<|cj<|dt<|rt<|eo<|cf 3<|dh 0<|ld 2<|lk 0 call265<|cf 3<|dh 0<|ld 2<|ld 1<|cf 0<|ld 1<|xe<|rn 0<|rr 1
def TR(b:Option Addr)(c:Int)(e:World)(K:Int->WP):Prop:=cl 130 #[(vp b),(vi c)] e<|XC fun r1 a=>Br (!r1) (K 0 a)<|∃a1,b=some a1/\lx a a1 fun f=>∃a2:Addr,At f (q6.wrap<|c-1) 9 a2/\li a (a2.add 7) fun d=>K d a
def jaq(p1 t1 w0 K)(h:TR p1 t1 w0 K):
  cl 269 #[(vp p1),(vi t1)] w0<|XB K:=
 cy func269 h<|gd 3 call130<|br 0 1 (rr 2)<|nc 2<|ld 1<|ix 2<|ld 1<|rr 1
def ZI(b:Option Addr)(c:Int)(e:World)(K:Int->WP):Prop:=cl 130 #[(vp b),(vi c)] e<|XC fun r1 a=>Br (!r1) (K 0 a)<|∃a1,b=some a1/\lx a a1 fun f=>∃a2:Addr,At f (q6.wrap<|c-1) 9 a2/\li a (a2.add 8) fun d=>K d a
def jcW(p1 t1 w0 K)(h:ZI p1 t1 w0 K):
  cl 270 #[(vp p1),(vi t1)] w0<|XB K:=
 cy func270 h<|gd 3 call130<|br 0 1 (rr 2)<|nc 2<|ld 1<|ix 2<|ld 1<|rr 1
def Yg(e:World)(K:(Array Value)->WP):Prop:=∀a b,av e (.cells #[(vb false),(vb false),(vb false),(vb false),(vi 0),(vb false),(vb false),(vb false),(vb false),(vi 0),(vb false),(vb false),(vb false),(vb false),(vi 0),(vb false),(vb false),(vb false),(vb false),(vi 0),(vb false),(vb false),(vb false),(vb false),(vi 0),(vb false),(vb false),(vb false),(vb false),(vi 0),(vb false),(vb false),(vb false),(vb false),(vi 0),(vb false),(vb false),(vb false),(vb false),(vi 0),(vb false),(vb false),(vb false),(vb false),(vi 0),(vb false),(vb false),(vb false),(vb false),(vi 0)] 335) a b->(∀j,j<50->zL b (a.add j))/\∀d,d=bd b a (Ai false false false false 0 true false false false 0 false false true false 0 false false false true 0 false false false false 2 false false false false 1 true false false false 0 true false false false 1 true true false false 1 true true false false 1)->∃c:Array Value,(c.size=50/\Row d a c.toList)/\K c d
def Rt(a:World)(K:(Array Value)->WP)(h:Yg  a K):
  cl 294 #[] a<|fun e w'=>∃r1:Array Value,e=.returned (.agg r1)/\K r1 w':=
 cy func294 h<|cf 0<|dh 10<|dx 0<|xe<|Me<|ee
end Go.Proofs
end
section
namespace Go.Proofs
structure di where
 kind:Int
 az:Int
 to:Int
 num:Int
 bb:ByteArray
 a:Int
 b:Int
deriving DecidableEq
structure yo where
 az:Bool
 to:Bool
 num:Bool
 bb:Bool
 kids:Int
deriving DecidableEq
def sB:yo:=⟨false,false,false,false,0⟩
def bq(k:Int):yo:=
 if k=1 then⟨true,false,false,false,0⟩else if k=2 then⟨false,false,true,false,0⟩else if k=3 then⟨false,false,false,true,0⟩
 else if k=4 then⟨false,false,false,false,2⟩else if k=5 then⟨false,false,false,false,1⟩else if k=6 then⟨true,false,false,false,0⟩
 else if k=7 then⟨true,false,false,false,1⟩else if k=8 then⟨true,true,false,false,1⟩else if k=9 then⟨true,true,false,false,1⟩else sB
def ou(k:Int):Bool:=decide (1<=k)&&decide (k<=9)
def qw(n:Int):Bool:=decide (0<=n)&&decide (n<16)
def zO(n:di):Int:=
 let s:=bq n.kind
 if !ou n.kind ||(!s.az&&n.az !=0) ||(!s.to&&n.to !=0) ||(!s.num&&n.num !=0) ||(!s.bb&&!decide (n.bb=⟨#[]⟩))then 53 else 0
def zQ(s:yo)(n:di):Int:=
 if(s.az&&!qw n.az) ||(s.to&&(!qw n.to ||n.to==n.az))then 50 else if n.bb.size>64 then 1 else 0
end Go.Proofs
end
section
open Go Go.SE List
namespace Go.Proofs
open Tryz
attribute [local irreducible] Calls
def M4(n w):cl 266 #[vi n] w (XC fun r w'=>r=qw n/\w'=w):=by
 refine Rf n w (fun r w'=>r=qw n/\w'=w) ?_;refine⟨fun h=>⟨?_,rfl⟩,fun h=>⟨?_,rfl⟩⟩;have:0<=n:=by simpa using h
 simp[qw,this];have:¬0<=n:=by simpa using h
 simp[qw,this]
def OT(s1 s2 s3 s4 s5 k f t u x a b w):
  cl 177 #[.agg #[vb s1,vb s2,vb s3,vb s4,vi s5],.agg #[vi k,vi f,vi t,vu u,vs x,vi a,vi b]] w
   (XB fun r w'=>r=zQ ⟨s1,s2,s3,s4,s5⟩ ⟨k,f,t,u,x,a,b⟩/\Pure w w'):=by
 refine Ty _ _ _ _ _ _ _ _ _ _ _ _ w _ ?_
 intro j m h1 l i h2
 have b1:=(ai.bj h1).pure<|ab.ax h2
 have b2:=ai.bj h2
 have E:Pure w i:=(ab.ax h1).trans<|ab.ax h2
 have J:∀c:Bool,c=(s1&&!qw f)->Cz j l c i (fun r w'=>r=zQ ⟨s1,s2,s3,s4,s5⟩ ⟨k,f,t,u,x,a,b⟩/\Pure w w'):=by
  intro c e;refine⟨fun h=>⟨?_,E⟩,fun h=>⟨_,b1.cell rfl,fun d=>⟨_,b2.cell rfl,?_⟩,fun d=>⟨_,b2.cell rfl,fun h3=>⟨?_,E⟩,fun h3=>⟨?_,E⟩⟩⟩⟩;rw[e]at h;simp[zQ,h];refine(M4 _ _).mono ?_;rintro _ _ ⟨r,rfl,rfl,rfl⟩;rw[e]at h;refine⟨_,rfl,fun h2=>⟨?_,E⟩,fun h2=>⟨_,b2.cell rfl,_,b2.cell rfl,fun h3=>⟨?_,E⟩,fun h3=>⟨_,b2.cell rfl,fun g=>⟨?_,E⟩,fun g=>⟨?_,E⟩⟩⟩⟩;simp[zQ,d,h2];simp[zQ,d,h3];simp only[zQ,h,d,h3];simp at h2 g;simp[h2];omega;simp only[zQ,h,d,h3];simp at h2 g;simp[h2];omega;rw[e]at h;simp only[zQ,h,d];simp at h3;simp;omega;rw[e]at h;simp only[zQ,h,d];simp at h3;simp;omega
 refine⟨_,b1.bf,fun h=>⟨_,b2.cell rfl,?_⟩,fun h=>J _<|by simp[h]⟩
 refine(M4 _ _).mono ?_
 rintro _ _ ⟨r,rfl,rfl,rfl⟩
 exact⟨_,rfl,J _<|by simp[h]⟩
def FD:Array Value:=#[vb false,vb false,vb false,vb false,vi 0,vb true,vb false,vb false,vb false,vi 0,vb false,vb false,vb true,vb false,vi 0,vb false,vb false,vb false,vb true,vi 0,vb false,vb false,vb false,vb false,vi 2,vb false,vb false,vb false,vb false,vi 1,vb true,vb false,vb false,vb false,vi 0,vb true,vb false,vb false,vb false,vi 1,vb true,vb true,vb false,vb false,vi 1,vb true,vb true,vb false,vb false,vi 1]
def W7(w):cl 294 #[] w (fun e w'=>∃r,e=.returned (.agg r)/\(r=FD/\Pure w w')):=by
 refine Rt w (fun r w'=>r=FD/\Pure w w') ?_;intro f d h1;have c:Pure w d:=ab.ax h1;have a:=av.ak (ab.refl w) h1;have b1:=ai.fp h1;clear h1;refine bx 50 b1 Kf Kf fun w' b E=>?_;refine⟨FD,⟨Kf,b.L4 Kf⟩,rfl,c.ak a E⟩
def Pj(k w):cl 265 #[vi k] w (XK fun r1 r2 r3 d f r w'=>((⟨r1,r2,r3,d,f⟩:yo)=bq k/\r=ou k)/\Pure w w'):=by
 refine XZ k w (fun r1 r2 r3 d f r w'=>((⟨r1,r2,r3,d,f⟩:yo)=bq k/\r=ou k)/\Pure w w') ?_;intro m i h1;have e:Pure w i:=ab.ax h1;have b1:=ai.bj h1;have a:=av.ak (ab.refl w) h1;refine⟨fun h=>bx 5 b1 rfl rfl fun w' b E=>⟨_,_,_,_,_,b.row,⟨?_,?_⟩,e.ak a E⟩,fun h=>⟨fun h2=>bx 5 b1 rfl rfl fun w' b E=>⟨_,_,_,_,_,b.row,⟨?_,?_⟩,e.ak a E⟩,fun h2=>?_⟩⟩
 .have:k<1:=by simpa using h
  simp only[bq,sB];repeat rw[if_neg Om]
 .have:k<1:=by simpa using h
  simp[ou];omega
 .have:9<k:=by simpa using h2
  simp only[bq,sB];repeat rw[if_neg Om]
 .have:9<k:=by simpa using h2
  simp[ou];omega
 .have h3:¬k<1:=by simpa using h
  have n:¬9<k:=by simpa using h2
  refine(W7 _).mono ?_;rintro _ j ⟨_,rfl,rfl,g⟩;refine⟨_,rfl,?_⟩;have b4:=b1.pure g;have c:Pure w j:=e.trans g;have l:k=1\/k=2\/k=3\/k=4\/k=5\/k=6\/k=7\/k=8\/k=9:=Om;rcases l with rfl|rfl|rfl|rfl|rfl|rfl|rfl|rfl|rfl
  .exact⟨true,false,false,false,0,Kf,bx 5 b4 rfl rfl fun w' b E=>⟨_,_,_,_,_,b.row,⟨De,De⟩,c.ak a E⟩⟩
  .exact⟨false,false,true,false,0,Kf,bx 5 b4 rfl rfl fun w' b E=>⟨_,_,_,_,_,b.row,⟨De,De⟩,c.ak a E⟩⟩
  .exact⟨false,false,false,true,0,Kf,bx 5 b4 rfl rfl fun w' b E=>⟨_,_,_,_,_,b.row,⟨De,De⟩,c.ak a E⟩⟩
  .exact⟨false,false,false,false,2,Kf,bx 5 b4 rfl rfl fun w' b E=>⟨_,_,_,_,_,b.row,⟨De,De⟩,c.ak a E⟩⟩
  .exact⟨false,false,false,false,1,Kf,bx 5 b4 rfl rfl fun w' b E=>⟨_,_,_,_,_,b.row,⟨De,De⟩,c.ak a E⟩⟩
  .exact⟨true,false,false,false,0,Kf,bx 5 b4 rfl rfl fun w' b E=>⟨_,_,_,_,_,b.row,⟨De,De⟩,c.ak a E⟩⟩
  .exact⟨true,false,false,false,1,Kf,bx 5 b4 rfl rfl fun w' b E=>⟨_,_,_,_,_,b.row,⟨De,De⟩,c.ak a E⟩⟩
  .exact⟨true,true,false,false,1,Kf,bx 5 b4 rfl rfl fun w' b E=>⟨_,_,_,_,_,b.row,⟨De,De⟩,c.ak a E⟩⟩
  .exact⟨true,true,false,false,1,Kf,bx 5 b4 rfl rfl fun w' b E=>⟨_,_,_,_,_,b.row,⟨De,De⟩,c.ak a E⟩⟩
def Lj(k f t u x a b w):
  cl 176 #[.agg #[vi k,vi f,vi t,vu u,vs x,vi a,vi b]] w
   (XI fun r1 r2 r3 A B r w'=>((⟨r1,r2,r3,A,B⟩:yo)=bq k/\r=zO ⟨k,f,t,u,x,a,b⟩)/\Pure w w'):=by
 suffices key:∀K:Bool->Bool->Bool->Bool->Int->Int->WP,(∀r1 r2 r3 A B r w',((⟨r1,r2,r3,A,B⟩:yo)=bq k/\r=zO ⟨k,f,t,u,x,a,b⟩)/\Pure w w'->K r1 r2 r3 A B r w')->Md k f t u x a b w K from
  w_E _ _ _ _ _ _ _ w _<|key _ fun _ _ _ _ _ _ _ h=>h
 intro K W
 intro n X h1 i w2 h2
 have a1:=(ai.bj h1).pure<|ab.ax h2
 have a2:=ai.bj h2
 have J:Pure w w2:=(ab.ax h1).trans<|ab.ax h2
 have o2:=av.ak (ab.ax h1:Pure w X) h2
 have n12:n.block≠i.block:=av.ne h2 (ai.bj h1).aq
 refine⟨_,a1.bf,?_⟩
 refine(Pj _ _).mono ?_
 rintro _ w3 ⟨s1,s,C,S,T,ok,rfl,⟨hs,m⟩,q⟩
 refine⟨_,_,_,_,_,_,rfl,?_⟩
 intro o w4 h3
 have Q:Pure w w4:=(J.trans q).trans<|ab.ax h3
 have Y:=av.ak (J.trans q) h3
 have M:n.block≠o.block:=av.ne h3 (a1.pure q).aq
 have O:i.block≠o.block:=av.ne h3 (a2.pure q).aq
 refine bx 5 (ai.bj h3) rfl rfl fun p b3 E=>?_
 have b1:=((a1.pure q).pure<|ab.ax h3).ext E M
 have b2:=((a2.pure q).pure<|ab.ax h3).ext E O
 have E5:=Q.ak Y E
 clear E Q q J a1 a2 h1 h2 h3
 have l : ∀ v : Int, v = zO ⟨k, f, t, u, x, a, b⟩ -> (∀ j, j < 5 -> zL p (i.add j)) /\ ∀ w', w' = bd p i [vb s1, vb s, vb C, vb S, vi T] ->
   ∃q1:Bool,∃q2:Bool,∃q3:Bool,∃q4:Bool,∃R:Int,Row w' i [vb q1,vb q2,vb q3,vb q4,vi R]/\K q1 q2 q3 q4 R v w':=fun v Z =>
  bx 5 b2 rfl rfl fun w' b E=>⟨_,_,_,_,_,b.row,W _ _ _ _ _ _ _ ⟨⟨hs,Z⟩,E5.ak o2 E⟩⟩
 obtain⟨H,F,G,D,e5⟩:s1=(bq k).az/\s=(bq k).to/\C=(bq k).num/\S=(bq k).bb/\T=(bq k).kids:=by rw[<-hs];simp
 have I:∀c:Bool,c=(!ok ||(!s1&&f !=0) ||(!s&&t !=0) ||(!C&&u !=0))->Ct n i o c p K:=by
  intro c g;refine⟨fun h=>⟨_,_,_,_,_,b3.row,l _ ?_⟩,fun h=>⟨_,b3.cell rfl,fun e=>⟨_,b1.cell rfl,fun y=>⟨_,_,_,_,_,b3.row,l _ ?_⟩,fun y=>⟨_,_,_,_,_,b3.row,l _ ?_⟩⟩,fun e=>⟨_,_,_,_,_,b3.row,l _ ?_⟩⟩⟩;rw[h]at g;simp only[zO,<-H,<-F,<-G,<-D,<-m,<-g];simp;rw[h]at g;simp only[zO,<-H,<-F,<-G,<-D,<-m,<-g];simp at e y;simp[e,y];rw[h]at g;simp only[zO,<-H,<-F,<-G,<-D,<-m,<-g];simp at e y;simp[e,y];rw[h]at g;simp only[zO,<-H,<-F,<-G,<-D,<-m,<-g];simp at e;simp[e]
 have L:∀c:Bool,c=(!ok ||(!s1&&f !=0) ||(!s&&t !=0))->AQ n i o c p K:=by
  intro c g;have P:∀d:Bool,d=(!C&&u !=0)->DD n i o c d p K:=fun d z=>⟨fun h=>I _ (by rw[<-g,h];rfl),fun h=>I _ (by rw[<-g,h];simpa using z)⟩;exact⟨fun h=>I _ (by rw[<-g,h];rfl),fun h=>⟨_,b3.cell rfl,fun e=>⟨_,b1.cell rfl,P _ (by rw[e];rfl)⟩,fun e=>P _ (by rw[e];rfl)⟩⟩
 have N:∀c:Bool,c=(!ok ||(!s1&&f !=0))->BI n i o c p K:=by
  intro c g;have V:∀d:Bool,d=(!s&&t !=0)->D5 n i o c d p K:=fun d z=>⟨fun h=>L _ (by rw[<-g,h];rfl),fun h=>L _ (by rw[<-g,h];simpa using z)⟩;exact⟨fun h=>L _ (by rw[<-g,h];rfl),fun h=>⟨_,b3.cell rfl,fun e=>⟨_,b1.cell rfl,V _ (by rw[e];rfl)⟩,fun e=>V _ (by rw[e];rfl)⟩⟩
 have U:∀d:Bool,d=(!s1&&f !=0)->DE n i ok o d p K:=fun d z=>⟨fun h=>N _ (by rw[h];rfl),fun h=>N _ (by rw[h];simpa using z)⟩
 exact⟨fun h=>N _ (by rw[h];rfl),fun h=>⟨_,b3.bf,fun e=>⟨_,b1.cell rfl,U _ (by rw[e];rfl)⟩,fun e=>U _ (by rw[e];rfl)⟩⟩
end Go.Proofs
end
section
namespace Go.Proofs
structure tf where
 node:di
 size:Int
 depth:Int
deriving DecidableEq
abbrev aw:=List tf
def al(L:aw)(t:Int):Bool:=decide (1<=t)&&decide (t<=L.length)
def get(L:aw)(t:Int):Option tf:=if al L t then L[(t-1).toNat]? else none
def sizeOf(L:aw)(t:Int):Int:=((get L t).map (·.size)).getD 0
def c9(L:aw)(t:Int):Int:=((get L t).map (·.depth)).getD 0
def xC:di:=⟨0,0,0,0,⟨#[]⟩,0,0⟩
def ad(L:aw)(t:Int):di:=((get L t).map (·.node)).getD xC
def zB(n:di):List Int:=[n.a,n.b].take (bq n.kind).kids.toNat
def ej(L:aw)(n:di):Int×Int×Int:=
 let s:=bq n.kind
 if zO n≠0 then(0,0,zO n)
 else if(decide (s.kids<1)&&n.a !=0) ||(decide (s.kids<2)&&n.b !=0)then(0,0,53)
 else if zQ s n≠0 then(0,0,zQ s n)
 else if(zB n).any (fun t=>!al L t)then(0,0,51)
 else
  let sz:=1+((zB n).map<|sizeOf L).sum
  let d:=(zB n).foldl (fun d t=>max d<|c9 L t) 0+1
  if sz>4096\/d>64 then(0,0,52)else(sz,d,0)
def find(L:aw)(n:di):Option Nat:=L.findIdx? fun e=>e.node=n
def ay(L:aw)(n:di):Int×Int×aw:=
 let c:=ej L n
 if c.2.2≠0 then(0,c.2.2,L)
 else match find L n with
  |some i=>(i+1,0,L)
  |none=>if 65536<=L.length then(0,6,L)else(L.length+1,0,L++[⟨n,c.1,c.2.1⟩])
structure Ok(L:aw):Prop where
 ft:L.length<=65536
 oE:(L.map (·.node)).Nodup
 size:∀e∈L,1<=e.size/\e.size<=4096
 depth:∀e∈L,1<=e.depth/\e.depth<=64
def zI{L t}:al L t=true↔1<=t/\t<=L.length:=by simp[al]
def Ay{L t}(h:al L t=true):∃e,get L t=some e/\e∈L/\∃hi:(t-1).toNat<L.length,L[(t-1).toNat]=e:=by
 have⟨h1,h2⟩:=zI.1 h;have hi:(t-1).toNat<L.length:=Om;exact⟨L[(t-1).toNat],by simp[get,h],List.getElem_mem hi,hi,rfl⟩
def yI{L t}(h:al L t=false):get L t=none:=by simp[get,h]
def Ok.sizeOf{L}(h:Ok L)(t):0<=sizeOf L t/\sizeOf L t<=4096:=by
 cases ht:al L t with
 |true=>have⟨e,a,hm,_⟩:=Ay ht;have:=h.size e hm;simp[Proofs.sizeOf,a];omega
 |false=>simp[Proofs.sizeOf,yI ht]
def Ok.c9{L}(h:Ok L)(t):0<=c9 L t/\c9 L t<=64:=by
 cases ht:al L t with
 |true=>have⟨e,a,hm,_⟩:=Ay ht;have:=h.depth e hm;simp[Proofs.c9,a];omega
 |false=>simp[Proofs.c9,yI ht]
def Ok.nil:Ok []:=⟨Sm,Sm,Sm,Sm⟩
def yM(k):(bq k).kids=0\/(bq k).kids=1\/(bq k).kids=2:=by
 unfold bq sB;repeat' split
 all_goals simp
end Go.Proofs
end
section
open Go Go.SE List
namespace Go.Proofs
open Tryz
attribute [local irreducible] Calls
def tI(n:di):List Value:=[vi n.kind,vi n.az,vi n.to,vu n.num,vs n.bb,vi n.a,vi n.b]
def sY(e:tf):List Value:=tI e.node++[vi e.size,vi e.depth]
def mc(n:di):Value:=.agg (tI n).toArray
def ig(L:aw):List (Value×Value):=L.zipIdx.map fun p=>(mc p.1.node,vi (p.2+1:Nat))
structure Da(w:World)(p:Addr)(L:aw)(s:Sl)(m:Nat):Prop where
 box:ai w p [s.v,.map<|some m] 160
 cm:bg w 248 9 s (L.map sY)
 map:jt w m (ig L)
 n1:m≠p.block
 n2:¬s.aq p.block
 n3:¬s.aq m
def zD(w:World)(p:Addr)(L:aw)(F:NP):Prop:=∃s m,Da w p L s m/\∀b,F b↔(b=p.block\/s.aq b\/b=m)
def zD.ext{G w w' p L F}(h:zD w p L F)(c:ab G w w')(d:∀b,F b->¬G b):zD w' p L F:=by
 have⟨s,m,h,a⟩:=h;exact⟨s,m,⟨h.box.ext c<|d _<|(a _).2<|.inl rfl,h.cm.ext c Gd,h.map.ext c<|d _<|(a _).2<|.inr<|.inr rfl,h.n1,h.n2,h.n3⟩,a⟩
def zD.pure{w w' p L F}(h:zD w p L F)(a:Pure w w'):zD w' p L F:=h.ext a fun _ _ h=>h
def zD.lt{w p L F}(h:zD w p L F){b}(a:F b):b<w.heap.size:=by
 have⟨s,m,h,c⟩:=h;rcases(c b).1 a with rfl|a|rfl;exact h.box.lt;exact h.cm.lt a;exact h.map.lt
def i64{n}(h:-9223372036854775808<=n)(a:n<=9223372036854775807):IntKind.i64.wrap n=n:=IntWalk.i64_in n ⟨h,a⟩
def y3(p t w){L F}(a:zD w p L F):cl 130 #[vp<|some p,vi t] w (XC fun r w'=>r=al L t/\w=w'):=by
 have⟨s,m,h,_⟩:=a;refine K7 (some p) t w (fun r w'=>r=al L t/\w=w') ?_;unfold Gv;have b:(s.len:Int)=L.length:=by rw[h.cm.len];simp
 refine Br.t rfl ⟨fun h1=>⟨p,rfl,s,h.box.bf,?_,rfl⟩,fun h1=>⟨?_,rfl⟩⟩;have:1<=t:=by simpa using h1
 simp[al,b,this];have:¬1<=t:=by simpa using h1
 simp[al,this]
def Da.at{w p L s m}(h:Da w p L s m){t}(ht:al L t=true)(b:Ok L):∃a e,At s (IntKind.i64.wrap<|t-1) 9 a/\Row w a (sY e)/\s.aq a.block/\get L t=some e:=by
 have⟨h1,h2⟩:=zI.1 ht;have⟨e,f,_,hi,g⟩:=Ay ht;have:=b.ft;rw[i64 Om Om];have⟨a,c,hr,d⟩:=h.cm.at (i:=t-1) Om (by simpa using hi);exact⟨a,e,c,Gd,d,f⟩
def Zv(p t w){L F}(d:zD w p L F)(c:Ok L):cl 269 #[vp<|some p,vi t] w (XB fun r w'=>r=sizeOf L t/\w=w'):=by
 refine jaq (some p) t w (fun r w'=>r=sizeOf L t/\w=w') ?_;refine(y3 p t w d).mono ?_;rintro _ _ ⟨_,rfl,rfl,rfl⟩;have⟨s,m,h,_⟩:=d;refine⟨_,rfl,fun h1=>⟨?_,rfl⟩,fun h1=>?_⟩;simp[sizeOf,yI<|show al L t=false by simpa using h1];have⟨a,e,b,hr,_,f⟩:=h.at (show al L t=true by simpa using h1) c;exact⟨p,rfl,s,h.box.bf,a,b,e.size,hr 7<|by simp[sY,tI],by simp[sizeOf,f],rfl⟩
def zJU(p t w){L F}(d:zD w p L F)(c:Ok L):cl 270 #[vp<|some p,vi t] w (XB fun r w'=>r=c9 L t/\w=w'):=by
 refine jcW (some p) t w (fun r w'=>r=c9 L t/\w=w') ?_;refine(y3 p t w d).mono ?_;rintro _ _ ⟨_,rfl,rfl,rfl⟩;have⟨s,m,h,_⟩:=d;refine⟨_,rfl,fun h1=>⟨?_,rfl⟩,fun h1=>?_⟩;simp[c9,yI<|show al L t=false by simpa using h1];have⟨a,e,b,hr,_,f⟩:=h.at (show al L t=true by simpa using h1) c;exact⟨p,rfl,s,h.box.bf,a,b,e.depth,hr 8<|by simp[sY,tI],by simp[c9,f],rfl⟩
def tj(p t w){L F}(l:zD w p L F)(g:Ok L):cl 109 #[vp<|some p,vi t] w
  (XL fun k f o u x a b r w'=>((⟨k,f,o,u,x,a,b⟩:di)=ad L t/\r=al L t)/\Pure w w'):=by
 refine OM (some p) t w _ ?_
 intro y d h1
 have c:Pure w d:=ab.ax h1
 have b1:=ai.bj h1
 have n:=av.ak (ab.refl w) h1
 refine(y3 p t d<|l.pure c).mono ?_
 rintro _ _ ⟨_,rfl,rfl,rfl⟩
 have⟨s,m,h,_⟩:=l.pure c
 refine⟨_,rfl,fun h1=>bx 7 b1 rfl rfl fun w' b E=>⟨_,_,_,_,_,_,_,b.row,⟨?_,?_⟩,c.ak n E⟩,fun h1=>?_⟩
 simp[ad,yI<|show al L t=false by simpa using h1,xC]
 symm;simpa using h1
 have ht:al L t=true:=by simpa using h1
 have⟨a,e,j,hr,_,q⟩:=h.at ht g
 have v:Row d a (tI e.node):=fun i hi=>by
  have:=hr i (by simp[sY];omega);rw[this];unfold sY;rw[getElem?_append_left hi]
 exact⟨p,rfl,s,h.box.bf,a,j,_,_,_,_,_,_,_,v,bx 7 b1 rfl rfl fun w' b E=>⟨_,_,_,_,_,_,_,b.row,⟨by simp[ad,q],ht.symm⟩,c.ak n E⟩⟩
end Go.Proofs
end
section
namespace Go.Proofs
inductive bt where
 |mk (k f t u:Int) (x:ByteArray) (kids:List bt)
def bt.kids:bt->List bt|.mk _ _ _ _ _ ks=>ks
def bt.node:bt->di|.mk k f t u x _=>⟨k,f,t,u,x,0,0⟩
def bt.ind{P:bt->Prop}(h:∀k f t u x (a:List bt),(∀i (hi:i<a.length),P a[i])->P (.mk k f t u x a))(t):P t:=by
 refine bt.rec (motive_1:=P) (motive_2:=fun a=>∀i (hi:i<a.length),P a[i]) ?_ ?_ ?_ t;grind;intro i hi;simp at hi;grind
def yW(n:di)(len:Nat):Int:=
 let e:=if zO n=0 then if(len:Int)≠(bq n.kind).kids then 53 else 0 else zO n
 if e=0 then zQ (bq n.kind) n else e
mutual
def qO (inside seen:Int):bt->Int×Int
 |.mk k f t u x ks=>if 4096<=seen then(52,seen)else if 64<=inside then(52,seen)else vK (inside+1) (yW ⟨k,f,t,u,x,0,0⟩ ks.length) (seen+1) ks
def vK (inside e seen:Int):List bt->Int×Int
 |[]=>(e,seen)
 |t :: ts=>if e=0 then vK inside (qO inside seen t).1 (qO inside seen t).2 ts else(e,seen)
end
mutual
def grow (L:aw):bt->Int×Int×aw
 |.mk k f t u x ks=>zZ ⟨k,f,t,u,x,0,0⟩ 0 L ks
def zZ (n:di) (i:Nat) (L:aw):List bt->Int×Int×aw
 |[]=>ay L n
 |t :: ts=>if(grow L t).2.1≠0 then(0,(grow L t).2.1,(grow L t).2.2)else zZ (if i=0 then { n with a:=(grow L t).1 }else { n with b:=(grow L t).1 }) (i+1) (grow L t).2.2 ts
end
def of(L:aw)(t:bt):Int×Int×aw:=
 if(qO 0 0 t).1≠0 then(0,(qO 0 0 t).1,L)
 else if(grow L t).2.1≠0 then(0,(grow L t).2.1,L)else((grow L t).1,0,(grow L t).2.2)
def IG(L n):∃M,(ay L n).2.2=L++M:=by
 unfold ay;simp only;by_cases a:(ej L n).2.2=0;simp only[a];rw[if_neg Sm];split;exact⟨[],Sm⟩;split;exact⟨[],Sm⟩;exact⟨_,rfl⟩;rw[if_pos a];exact⟨[],Sm⟩
def Su{L n}(a:Ok L)(h:(ej L n).2.2=0):1<=(ej L n).1/\(ej L n).1<=4096/\1<=(ej L n).2.1/\(ej L n).2.1<=64:=by
 unfold ej at h|-;simp only at h|-;by_cases h1:zO n≠0;grind;rw[if_neg h1]at h|-;split at h;simp at h;rename_i h2;rw[if_neg h2];by_cases h3:zQ (bq n.kind) n≠0;grind;rw[if_neg h3]at h|-;split at h;simp at h;rename_i f;rw[if_neg f];split at h;simp at h;rename_i e;rw[if_neg e];have hs:∀l:List Int,0<=(l.map<|sizeOf L).sum:=by
  intro l;induction l with
  |nil=>simp
  |cons y l b=>have:=a.sizeOf y;simp only[List.map_cons,List.sum_cons];omega
 have c:∀(l:List Int) (d:Int),0<=d->0<=l.foldl (fun d t=>max d<|c9 L t) d:=by
  intro l;induction l with
  |nil=>intro d h;exact h
  |cons y l b=>intro d h;exact b (max d<|c9 L y) Om
 have:=hs<|zB n;have:=c (zB n) 0 Om;simp only;omega
def FH{L}(c:Ok L)(n):Ok (ay L n).2.2:=by
 by_cases f:(ej L n).2.2=0;have:=Su c f;unfold ay;simp only[f];rw[if_neg Sm];split;exact c;rename_i g;split;exact c;rename_i k;refine⟨So,?_,?_,?_⟩;rw[List.map_append,List.nodup_append];refine⟨c.oE,Sm,?_⟩;intro a j b i;simp only[List.map_cons,List.map_nil,List.mem_singleton]at i;subst i;obtain⟨e,d,rfl⟩:=List.mem_map.1 j;unfold find at g;rw[List.findIdx?_eq_none_iff]at g;simpa using g e d;intro e d;rcases List.mem_append.1 d with h|h;exact c.size e h;grind;intro e d;rcases List.mem_append.1 d with h|h;exact c.depth e h;simp only[List.mem_singleton]at h;subst h;simp;omega;unfold ay;simp only;rw[if_pos f];exact c
def tX(t):∀L,Ok L->Ok (grow L t).2.2/\∃M,(grow L t).2.2=L++M:=by
 induction t using bt.ind with
 |h k f t u x c m =>
  have:∀(c:List bt),(∀i (hi:i<c.length),∀L,Ok L->Ok (grow L c[i]).2.2/\∃M,(grow L c[i]).2.2=L++M)->∀n i L,Ok L->Ok (zZ n i L c).2.2/\∃M,(zZ n i L c).2.2=L++M:=by
   intro c;induction c with
   |nil=>intro _ n i L h;unfold zZ;exact⟨FH h n,IG L n⟩
   |cons t ts e =>
    intro hh n i L h
    have d:=hh 0 Sm L h
    simp only[List.getElem_cons_zero]at d
    unfold zZ
    split
    exact d
    have⟨j,M,l⟩:=d
    have:=e (fun i hi=>hh (i+1)<|by simpa using hi) (if i=0 then { n with a:=(grow L t).1 }else { n with b:=(grow L t).1 }) (i+1) (grow L t).2.2 j
    refine⟨this.1,?_⟩
    have⟨o,g⟩:=this.2
    exact⟨M++o,by rw[g,l,List.append_assoc]⟩
  intro L h
  unfold grow
  exact this c m _ _ L h
def yY(n:Int):Prop:=0<=n/\n<18446744073709551616
inductive ru:bt->Prop
 |mk (k f t u:Int) (x:ByteArray) (a:List bt) (ak:yY u) (kids:∀i (hi:i<a.length),ru a[i]):ru (.mk k f t u x a)
end Go.Proofs
end
section
namespace Go.Proofs
def qN{L}{i:Nat}(hi:i<L.length):ad L ((i:Int)+1)=L[i].node:=by
 have h:al L ((i:Int)+1)=true:=zI.2 ⟨Om,Om⟩;have e:((i:Int)+1-1).toNat=i:=Om;simp[ad,get,h,e,hi]
def rV{L t}(h:al L t=true):∃i:Nat,i<L.length/\t=(i:Int)+1:=by
 have:=zI.1 h;exact⟨(t-1).toNat,Om,Om⟩
def vy{L}{i:Nat}(hi:i<L.length):get L ((i:Int)+1)=some L[i]:=by
 have h:al L ((i:Int)+1)=true:=zI.2 ⟨Om,Om⟩;have e:((i:Int)+1-1).toNat=i:=Om;simp[get,h,e,hi]
structure Wf(L:aw):Prop where
 ok:Ok L
 mx:∀i (hi:i<L.length),ej (L.take i) L[i].node=(L[i].size,L[i].depth,0)
def Wf.nil:Wf []:=⟨Ok.nil,fun i hi=>by simp at hi⟩
def Kr{L n}(h:(ej L n).2.2=0):zO n=0/\((bq n.kind).kids<1->n.a=0)/\((bq n.kind).kids<2->n.b=0)/\zQ (bq n.kind) n=0/\(∀t∈zB n,al L t=true) /\
  (ej L n).1=1+((zB n).map<|sizeOf L).sum/\(ej L n).2.1=(zB n).foldl (fun d t=>max d<|c9 L t) 0+1/\(ej L n).1<=4096/\(ej L n).2.1<=64:=by
 unfold ej at h|-
 simp only at h|-
 by_cases h1:zO n≠0
 grind
 rw[if_neg h1]at h|-
 split at h
 simp at h
 rename_i h2;rw[if_neg h2]
 by_cases h3:zQ (bq n.kind) n≠0
 grind
 rw[if_neg h3]at h|-
 split at h
 simp at h
 rename_i c;rw[if_neg c]
 split at h
 simp at h
 rename_i e;rw[if_neg e]
 simp only[Bool.or_eq_true,Bool.and_eq_true,decide_eq_true_eq,bne_iff_ne,ne_eq,not_or,not_and,Classical.not_not]at h2
 refine⟨by simpa using h1,h2.1,h2.2,by simpa using h3,fun t ht=>?_,rfl,rfl,Sy,Sy⟩
 cases hi:al L t with
 |true=>rfl
 |false=>exact absurd (List.any_eq_true.2 ⟨t,ht,by simp[hi]⟩) c
def Ex(L n):(ay L n).2.2=L\/((ej L n).2.2=0/\(ay L n).2.2=L++[⟨n,(ej L n).1,(ej L n).2.1⟩]):=by
 by_cases a:(ej L n).2.2=0;unfold ay;simp only[a];rw[if_neg Sm];split;exact .inl rfl;grind;unfold ay;simp only;rw[if_pos a];exact .inl rfl
def RQ{L}{e:tf}(h:∀i (hi:i<L.length),ej (L.take i) L[i].node=(L[i].size,L[i].depth,0))(a:ej L e.node=(e.size,e.depth,0)):∀i (hi:i<(L++[e]).length),ej ((L++[e]).take i) (L++[e])[i].node=((L++[e])[i].size,(L++[e])[i].depth,0):=Gd
def uT{L}(h:Wf L)(n):Wf (ay L n).2.2:=by
 have a:=FH h.ok n;rcases Ex L n with e|⟨b,e⟩;rw[e];exact h;rw[e]at a|-;exact⟨a,RQ h.mx<|by rw[<-b]⟩
def Eg(t):∀L,Wf L->Wf (grow L t).2.2:=by
 induction t using bt.ind with
 |h k f t u x a d =>
  have:∀(a:List bt),(∀i (hi:i<a.length),∀L,Wf L->Wf (grow L a[i]).2.2)->∀n i L,Wf L->Wf (zZ n i L a).2.2:=by
   intro a;induction a with
   |nil=>intro _ n i L h;unfold zZ;exact uT h n
   |cons t ts b =>
    intro hh n i L h
    have c:=hh 0 Sm L h
    simp only[List.getElem_cons_zero]at c
    unfold zZ
    split
    exact c
    exact b (fun i hi=>hh (i+1)<|by simpa using hi) _ _ _ c
  intro L h
  unfold grow
  exact this a d _ _ L h
def jcP{L}(h:Wf L)(t):Wf (of L t).2.2:=by
 unfold of;split;exact h;split;exact h;exact Eg t L h
def SC{L}(h:Ok L)(t):∃M,(of L t).2.2=L++M:=by
 unfold of;split;exact⟨[],Sm⟩;split;exact⟨[],Sm⟩;exact(tX t L h).2
def uD{L M t}(h:al L t=true):al (L++M) t=true:=by
 have:=zI.1 h;exact zI.2 ⟨this.1,by rw[List.length_append];omega⟩
def Gz{L M}{t:Int}(h:al L t=true):get (L++M) t=get L t:=by
 obtain⟨i,hi,rfl⟩:=rV h;rw[vy hi,vy Gd,List.getElem_append_left hi]
def JO{L M t}(h:al L t=true):ad (L++M) t=ad L t:=by unfold ad;rw[Gz h]
def HE{L M t}(h:al L t=true):sizeOf (L++M) t=sizeOf L t:=by unfold sizeOf;rw[Gz h]
def IH{L M t}(h:al L t=true):c9 (L++M) t=c9 L t:=by unfold c9;rw[Gz h]
def Wf.node{L}(h:Wf L){t:Int}(ht:al L t=true):zO (ad L t)=0/\((bq (ad L t).kind).kids<1->(ad L t).a=0)/\((bq (ad L t).kind).kids<2->(ad L t).b=0)/\zQ (bq (ad L t).kind) (ad L t)=0 /\
  (∀k∈zB (ad L t),al L k=true/\k<t)/\sizeOf L t=1+((zB<|ad L t).map<|sizeOf L).sum/\c9 L t=(zB<|ad L t).foldl (fun d k=>max d<|c9 L k) 0+1:=by
 obtain⟨i,hi,rfl⟩:=rV ht
 have j:=h.mx i hi
 have q:=Kr (L:=L.take i) (n:=L[i].node) (by rw[j])
 rw[qN hi]
 have⟨h1,h2,h3,u,s,p,o,_,_⟩:=q
 have f:∀k∈zB L[i].node,al (L.take i) k=true/\al L k=true/\k<(i:Int)+1:=by
  intro k e;have c:=s k e;have m:=zI.1 c;have:L.take i++L.drop i=L:=List.take_append_drop i L;refine⟨c,by rw[<-this];exact uD c,?_⟩;rw[List.length_take]at m;omega
 have g:∀k∈zB L[i].node,sizeOf (L.take i) k=sizeOf L k/\c9 (L.take i) k=c9 L k:=by
  intro k e;have c:=(f k e).1;have:L.take i++L.drop i=L:=List.take_append_drop i L;exact⟨by rw[<-HE (M:=L.drop i) c,this],by rw[<-IH (M:=L.drop i) c,this]⟩
 refine⟨h1,h2,h3,u,fun k e=>⟨(f k e).2.1,(f k e).2.2⟩,?_,?_⟩
 have:sizeOf L ((i:Int)+1)=L[i].size:=by simp[sizeOf,vy hi]
 rw[this]
 rw[j]at p
 simp only at p
 rw[p]
 congr 2
 exact List.map_congr_left fun k e=>(g k e).1
 have:c9 L ((i:Int)+1)=L[i].depth:=by simp[c9,vy hi]
 rw[this]
 rw[j]at o
 simp only at o
 rw[o]
 congr 1
 have:∀(l:List Int) (d:Int),(∀k∈l,c9 (L.take i) k=c9 L k)->l.foldl (fun d t=>max d<|c9 (L.take i) t) d=l.foldl (fun d k=>max d<|c9 L k) d:=by
  intro l;induction l with
  |nil=>intro d _;rfl
  |cons a l r=>intro d hh;simp only[List.foldl_cons];rw[hh a Sm];exact r _ fun k e=>hh k (by simp[e])
 exact this _ _ fun k e=>(g k e).2
def Ei:bt:=.mk 0 0 0 0 ⟨#[]⟩ []
def uq(L:aw):Nat->Int->bt
 |0,_=>Ei
 |fuel+1,t=>if al L t=true then .mk (ad L t).kind (ad L t).az (ad L t).to (ad L t).num (ad L t).bb ((zB<|ad L t).map<|uq L fuel)else Ei
def zA(L:aw)(t:Int):bt:=uq L t.toNat t
def BM{L t}(h:al L t=false)(f):uq L f t=Ei:=by
 cases f<;>simp[uq,h]
def WY{L}(h:Wf L):∀(f:Nat) (t:Int),t.toNat<=f->uq L f t=zA L t:=by
 have key:∀(f g:Nat) (t:Int),t.toNat<=f->t.toNat<=g->uq L f t=uq L g t:=by
  intro f;induction f with
  |zero =>
   intro g t a e
   have:al L t=false:=by
    apply Bool.eq_false_iff.2;intro hi;have:=zI.1 hi;omega
   rw[BM this,BM this]
  |succ f d =>
   intro g t a e
   cases hi:al L t with
   |false=>rw[BM hi,BM hi]
   |true =>
    have b:=zI.1 hi
    cases g with
    |zero=>omega
    |succ g =>
     simp only[uq,hi,if_true]
     congr 1
     refine List.map_congr_left fun k c=>d g k ?_ ?_
     have:=((h.node hi).2.2.2.2.1 k c).2;omega
     have:=((h.node hi).2.2.2.2.1 k c).2;omega
 intro f t a;exact key f t.toNat t a<|Nat.le_refl _
def Ks{L t}(h:al L t=false):zA L t=Ei:=BM h _
def zW{L}(h:Wf L){t}(ht:al L t=true):zA L t=.mk (ad L t).kind (ad L t).az (ad L t).to (ad L t).num (ad L t).bb ((zB<|ad L t).map<|zA L):=by
 have a:=zI.1 ht;have e:t.toNat=(t.toNat-1)+1:=Om;unfold zA;rw[e];simp only[uq,ht,if_true];congr 1;refine List.map_congr_left fun k b=>?_;have:=((h.node ht).2.2.2.2.1 k b).2;exact WY h _ k Om
def Wf.first{L M}(h:Wf (L++M)):Wf L:=by
 refine⟨⟨by have:=h.ok.ft;rw[List.length_append]at this;omega,?_,fun e a=>h.ok.size e<|by simp[a],fun e a=>h.ok.depth e<|by simp[a]⟩,fun i hi=>?_⟩
 .have:=h.ok.oE;rw[List.map_append]at this;exact(List.nodup_append.1 this).1
 .have:=h.mx i Gd;rw[List.getElem_append_left hi,List.take_append_of_le_length Om]at this;exact this
def uO{L M}(h:Wf (L++M)):∀(n:Nat) (t:Int),t.toNat=n->al L t=true->zA (L++M) t=zA L t:=by
 have b:=h.first;intro n;induction n using Nat.strongRecOn with
 |_ n c =>
  intro t e ht
  rw[zW h<|uD ht,zW b ht,JO ht]
  congr 1
  refine List.map_congr_left fun k d=>?_
  have a:=(b.node ht).2.2.2.2.1 k d
  have:=zI.1 a.1
  exact c k.toNat Om k rfl a.1
end Go.Proofs
end
section
namespace Go.Proofs
def qY(k:Int):Bool:=k==7 ||k==8 ||k==9
def tw(k:Int):Bool:=k==1 ||k==2 ||k==3
def zX(n:Int):di:=⟨6,n,0,0,⟨#[]⟩,0,0⟩
def oG(n:di):Int:=if n.kind=9 then n.to else n.az
def tH(L:aw)(r u t:Int):Prop:=
 (r=1/\(ad L u).kind=4/\(ad L u).a=t)\/(r=2/\(ad L u).kind=4/\(ad L u).b=t)\/(r=3/\qY (ad L u).kind=true/\(ad L u).a=t)
inductive ky(L:aw)(G:List Int):Int->Prop
 |pX {t:Int}:t∈G->ky L G t
 |yz {r u t:Int}:ky L G u->tH L r u t->ky L G t
inductive ei(L:aw)(K:Int->Prop):Int->Prop
 |seen {t:Int}:K t->ei L K t
 |free {t:Int}:tw (ad L t).kind=true->ei L K t
 |pR {t:Int}:(ad L t).kind=4->ei L K (ad L t).a->ei L K (ad L t).b->ei L K t
 |ta {t:Int}:(ad L t).kind=5->ei L K (ad L t).a->ei L K t
 |sU {t:Int} {i:Nat}:qY (ad L t).kind=true->ei L K (ad L t).a->find L (zX<|oG<|ad L t)=some i->K ((i:Int)+1)->ei L K t
structure gy where
 t:Int
 gz:Int
 az:Int
deriving DecidableEq
def zH(S:List gy):List Int:=S.map gy.t
def ud(L:aw)(G:List Int)(ba:List gy)(v:gy):Prop:=(v.gz=0/\v.az=0/\v.t∈G)\/(v.gz≠0/\tH L v.gz v.az v.t/\v.az∈zH ba)
structure ny(L:aw)(G:List Int)(S:List gy):Prop where
 oE:(zH S).Nodup
 iq:∀t∈zH S,al L t=true
 tu:∀i (h:i<S.length),ud L G (S.take i) S[i]
def sT(L:aw)(S:List gy)(u:Int):Prop:=∀r t,tH L r u t->t∈zH S
structure rm(L:aw)(G:List Int)(S:List gy):Prop extends ny L G S where
 sL:∀u∈zH S,sT L S u
 jy:∀t∈G,t∈zH S
 Ez:G.Nodup
def yJ(S):(zH S).length=S.length:=by simp[zH]
def ud.mono{L G G' ba v}(h:ud L G ba v)(d:∀t∈G,t∈G'):ud L G' ba v:=by
 rcases h with⟨a,b,c⟩|h;exact .inl ⟨a,b,d _ c⟩;exact .inr h
def ny.mono{L G G' S}(h:ny L G S)(a:∀t∈G,t∈G'):ny L G' S:=⟨h.oE,h.iq,fun i hi=>(h.tu i hi).mono a⟩
def ny.sd{L G S}(h:ny L G S){v}(d:v.t∉zH S)(hi:al L v.t=true)(g:ud L G S v):ny L G (S++[v]):=by
 refine⟨?_,?_,fun i a=>?_⟩;unfold zH at d|-;rw[List.map_append,List.nodup_append];exact⟨h.oE,Sm,fun x f y c e=>by simp at c;subst c;exact d<|e▸f⟩;intro t ht;unfold zH at ht;rw[List.map_append,List.mem_append]at ht;rcases ht with ht|ht;exact h.iq t ht;grind;rw[List.length_append]at a;simp only[List.length_cons,List.length_nil]at a;by_cases b:i<S.length;rw[List.getElem_append_left b,List.take_append_of_le_length Om];exact h.tu i b;grind
def sT.sd{L S u v}(h:sT L S u):sT L (S++[v]) u:=fun r t a=>by
 unfold zH;rw[List.map_append];exact List.mem_append_left _<|h r t a
def IX{S t}(h:t∈zH S):∃i,∃hi:i<S.length,S[i].t=t/\(zH S).idxOf t=i:=by
 have a:=List.idxOf_lt_length_iff.2 h;refine⟨(zH S).idxOf t,by simpa[zH]using a,?_,rfl⟩;have:=List.getElem_idxOf a;simp only[zH,List.getElem_map]at this|-;exact this
def rm.AL{L G S}(h:rm L G S)(t):t∈zH S↔ky L G t:=by
 constructor;intro ht;have⟨i,hi,e,_⟩:=IX ht;subst e;have:∀(n i:Nat) (hi:i<S.length),i<=n->ky L G S[i].t:=by
  intro n;induction n with
  |zero =>
   intro i hi f
   have:i=0:=Om
   subst this
   rcases h.tu 0 hi with⟨_,_,a⟩|⟨_,_,hm⟩
   exact .pX a
   simp[zH]at hm
  |succ n b =>
   intro i hi g
   rcases h.tu i hi with⟨_,_,a⟩|⟨_,c,hm⟩
   exact .pX a
   have⟨j,d,e,_⟩:=IX hm
   rw[List.length_take]at d
   have:=b j Om Om
   rw[List.getElem_take]at e
   rw[e]at this
   exact .yz this c
 exact this i i hi<|Nat.le_refl _;intro hs;induction hs with
 |pX a=>exact h.jy _ a
 |yz _ c b=>exact h.sL _ b _ _ c
def ei.mono{L K K'}(d:∀t,K t->K' t){t}(h:ei L K t):ei L K' t:=by
 induction h with
 |seen h=>exact .seen<|d _ h
 |free h=>exact .free h
 |pR h _ _ c b=>exact .pR h c b
 |ta h _ a=>exact .ta h a
 |sU h _ e f a=>exact .sU h a e<|d _ f
structure gl where
 gz:Int
 a:Int
 b:Int
 t:Int
deriving DecidableEq
def ahead(i:Nat)(v:Int):Bool:=decide (0<=v)&&decide (v<i)
def pz(ba:List gl)(v:Int):Int:=(ba[v.toNat]?.map gl.t).getD 0
def FZ(L:aw)(r u t:Int):Bool:=
 if r=1 then(ad L u).kind==4&&(ad L u).a==t else if r=2 then(ad L u).kind==4&&(ad L u).b==t else qY (ad L u).kind&&(ad L u).a==t
def oq(L:aw)(G:List Int)(ba:List gl)(s:gl):Bool:=
 if al L s.t=false then false
 else if s.gz=0 then s.a==0&&s.b==0&&decide (s.t∈G)
 else if s.gz=1\/s.gz=2\/s.gz=3 then ahead ba.length s.a&&s.b==0&&FZ L s.gz (pz ba s.a) s.t
 else if s.gz=4 then s.a==0&&s.b==0&&tw (ad L s.t).kind
 else if s.gz=5 then
  if(ad L s.t).kind=4 then ahead ba.length s.a&&ahead ba.length s.b&&pz ba s.a==(ad L s.t).a&&pz ba s.b==(ad L s.t).b
  else if(ad L s.t).kind=5 then ahead ba.length s.a&&s.b==0&&pz ba s.a==(ad L s.t).a
  else if qY (ad L s.t).kind=true then ahead ba.length s.a&&ahead ba.length s.b&&pz ba s.a==(ad L s.t).a&&(ad L<|pz ba s.b).kind==6&&(ad L<|pz ba s.b).az==oG (ad L s.t)
  else false
 else false
end Go.Proofs
namespace Go.Proofs
def JV{α:Type}[DecidableEq α]:∀{l m:List α},l.Nodup->(∀x∈l,x∈m)->l.length<=m.length
 |[],m,_,_=>Sm
 |x :: l,m,a,hs=>by
  have b:=hs x Sm;rw[List.nodup_cons]at a;have:=JV (m:=m.erase x) a.2 Gd;rw[List.length_erase_of_mem b]at this;have:=List.length_pos_of_mem b;simp only[List.length_cons];omega
def xW{L}{l:List Int}(a:l.Nodup)(hi:∀t∈l,al L t=true):l.length<=L.length:=by
 have:=JV (m:=(List.range L.length).map fun i:Nat=>(i:Int)+1) a (fun t ht=>by
  have⟨i,h1,h2⟩:=rV<|hi t ht;exact List.mem_map.2 ⟨i,List.mem_range.2 h1,h2.symm⟩)
 simpa using this
def ny.ft{L}{G:List Int}{S}(h:ny L G S):S.length<=L.length:=by
 have:=xW h.oE h.iq;rwa [yJ]at this
def ug{L}(h:Wf L){t}(ht:al L t=true)(c:(ad L t).kind=4):(al L (ad L t).a=true/\(ad L t).a<t)/\(al L (ad L t).b=true/\(ad L t).b<t):=by
 have:=(h.node ht).2.2.2.2.1;simp only[zB,c,bq]at this;exact⟨this _ Sm,this _ Sm⟩
def Nx{L}(h:Wf L){t}(ht:al L t=true)(b:(ad L t).kind=5):al L (ad L t).a=true/\(ad L t).a<t:=by
 have:=(h.node ht).2.2.2.2.1;simp only[zB,b,bq]at this;exact this _ Sm
def xv{L}(h:Wf L){t}(ht:al L t=true)(b:qY (ad L t).kind=true):al L (ad L t).a=true/\(ad L t).a<t:=by
 have:=(h.node ht).2.2.2.2.1;simp only[qY,Bool.or_eq_true,beq_iff_eq]at b;rcases b with(b|b)|b<;>simp only[zB,b,bq]at this<;>exact this _ Sm
def tH.iq{L}(h:Wf L){r u t}(b:al L u=true)(c:tH L r u t):al L t=true/\t<u:=by
 rcases c with⟨_,a,rfl⟩|⟨_,a,rfl⟩|⟨_,a,rfl⟩;exact(ug h b a).1;exact(ug h b a).2;exact xv h b a
def sA(S:List gy)(v:gy):List gy:=if v.t∈zH S then S else S++[v]
def tU(S v):zH (S++[v])=zH S++[v.t]:=by simp[zH]
def BO(S v):v.t∈zH (sA S v)/\∀t∈zH S,t∈zH (sA S v):=by
 unfold sA;split;grind;rw[tU];exact⟨Sm,fun t ht=>List.mem_append_left _ ht⟩
def IJ(S v):∃M,sA S v=S++M:=by
 unfold sA;split;exact⟨[],Sm⟩;exact⟨[v],rfl⟩
def ny.add{L G S}(h:ny L G S){v}(hi:al L v.t=true)(a:ud L G S v):ny L G (sA S v):=by
 unfold sA;split;exact h;rename_i b;exact h.sd b hi a
end Go.Proofs
end
section
open Go Go.SE List
namespace Go.Proofs
open Tryz
attribute [local irreducible] Calls
def Gq(p:Int×Int):Value:=.agg #[vi p.1,vi p.2]
def yp(S:List gy):List (Int×(Int×Int)):=S.map fun v=>(v.t,(v.gz,v.az))
def IA(S):(yp S).map Prod.fst=zH S:=by simp[yp,zH]
def UL(S v):yp (S++[v])=yp S++[(v.t,(v.gz,v.az))]:=by simp[yp]
structure mw(w:World)(k p:Addr)(G:List Int)(S:List gy)(ks:List Int)(sg:Sl)(m:Nat)(sl:Sl):Prop where
 box:ai w k [vp<|some p,sg.v,.map<|some m,sl.v] 163
 jy:bg w 73 1 sg (cd G)
 seen:fc Gq w m (yp S)
 pW:bg w 73 1 sl (cd ks)
 n1:m≠k.block
 n2:¬sg.aq k.block
 n3:¬sl.aq k.block
 n4:¬sg.aq m
 n5:¬sl.aq m
 n6:∀b,sg.aq b->¬sl.aq b
def KF(k:Addr)(sg:Sl)(m:Nat)(sl:Sl)(b:Nat):Prop:=b=k.block\/sg.aq b\/b=m\/sl.aq b
def qI(w:World)(k p:Addr)(G:List Int)(S:List gy)(F:NP):Prop:=∃sg m sl,mw w k p G S (zH S) sg m sl/\∀b,F b↔KF k sg m sl b
section
variable {w w':World} {k p:Addr} {G:List Int} {S:List gy} {ks:List Int} {sg sl:Sl} {m:Nat} {F:NP}
def mw.ext{X}(h:mw w k p G S ks sg m sl)(c:ab X w w')(a:∀b,KF k sg m sl b->¬X b):mw w' k p G S ks sg m sl:=
 ⟨h.box.ext c<|a _<|.inl rfl,h.jy.ext c fun b d=>a _<|.inr<|.inl d,h.seen.ext c<|a _<|.inr<|.inr<|.inl rfl,h.pW.ext c fun b d=>a _<|.inr<|.inr<|.inr d,h.n1,h.n2,h.n3,h.n4,h.n5,h.n6⟩
def mw.pure(h:mw w k p G S ks sg m sl)(a:Pure w w'):mw w' k p G S ks sg m sl:=h.ext a fun _ _ h=>h
def mw.lt(h:mw w k p G S ks sg m sl){b}(a:KF k sg m sl b):b<w.heap.size:=by
 rcases a with rfl|a|rfl|a;exact h.box.lt;exact h.jy.lt a;exact h.seen.lt;exact h.pW.lt a
def qI.ext{X}(h:qI w k p G S F)(c:ab X w w')(d:∀b,F b->¬X b):qI w' k p G S F:=by
 have⟨sg,m,sl,h,a⟩:=h;exact⟨sg,m,sl,h.ext c Gd,a⟩
def qI.pure(h:qI w k p G S F)(a:Pure w w'):qI w' k p G S F:=h.ext a fun _ _ h=>h
def qI.lt(h:qI w k p G S F){b}(a:F b):b<w.heap.size:=by
 have⟨sg,m,sl,h,c⟩:=h;exact h.lt<|(c b).1 a
def mw.eu(h:mw w k p G S ks sg m sl)(t:Int):∃r f:Int,(Instr.lookup 161 (.map<|some m) (vi t) true).run prog w=.ok (.tuple #[.agg #[vi r,vi f],vb<|decide (t∈zH S)]) w/\(t∈zH S->SE.eu (yp S) t=some (r,f)):=by
 rcases h.seen.get (P:=prog) (T:=161) underlying161 underlying73 (zeroValue205 _) t true with⟨h1,h2⟩|⟨⟨r,f⟩,h1,h2⟩;have a:t∉zH S:=by have:=uV.1 h1;rwa [IA]at this
 exact⟨0,0,by rw[decide_eq_false a];exact h2,fun h=>absurd h a⟩;have b:t∈zH S:=by
  have:=tT h1;rw[<-IA];exact mem_map.2 ⟨_,this,rfl⟩
 exact⟨r,f,by rw[decide_eq_true b];exact h2,fun _=>h1⟩
def mw.put(h:mw w k p G S ks sg m sl){v:gy}(c:v.t∉zH S):∃w',(Instr.mapUpdate 161 (.map<|some m) (vi v.t)<|.agg #[vi v.gz,vi v.az]).run prog w=.ok () w'/\mw w' k p G (S++[v]) ks sg m sl/\ab (·=m) w w':=by
 have⟨w',h1,h2,h3⟩:=h.seen.put (P:=prog) (T:=161) (K:=73) underlying161 underlying73 (k:=v.t) (uV.2 (by rw[IA];exact c)) (v.gz,v.az);exact⟨w',h1,⟨h.box.ext h3 fun e=>h.n1 e.symm,h.jy.ext h3 fun b a e=>h.n4<|e▸a,by rw[UL];exact h2,h.pW.ext h3 fun b a e=>h.n5<|e▸a,h.n1,h.n2,h.n3,h.n4,h.n5,h.n6⟩,h3⟩
def mw.jf(h:mw w k p G S ks sg m sl){t q w1}(o:av w (.cells #[vi t] 73) q w1)(u:ks.length<=1000000):∃s1 f,(Builtin.append_ #[46,46] 46 #[sl.v,(Sl.mk (some q) 1 1).v]).run prog w1=.ok s1.v f/\ab sl.aq w1 f/\ai f k [vp<|some p,sg.v,.map<|some m,sl.v] 163 /\
  mw (f.setCell (k.add 3) s1.v) k p G S (ks++[t]) sg m s1/\ab (KF k sg m sl) w (f.setCell (k.add 3) s1.v)/\∀b,KF k sg m s1 b->KF k sg m sl b\/w.heap.size<=b:=by
 have l:Pure w w1:=ab.ax o
 have h1:=h.pure l
 have⟨s1,f,hr,s,i,a⟩:=h1.pW.append (P:=prog) (ty:=46) (c:=1) sZ (r:=[vi t]) (ai.bj o).row rfl rfl (by rw[vA];omega) (by rw[vA];simp[maxLen];omega)
 have g:=h1.box.ext i h1.n3
 have d:∀b,s1.aq b->sl.aq b\/w.heap.size<=b:=fun b h=>(a b h).imp_right fun h=>Oh l.size
 have n:¬s1.aq k.block:=fun hh=>(d _ hh).elim h.n3 fun hh=>Oh h.box.lt
 have nm:¬s1.aq m:=fun hh=>(d _ hh).elim h.n5 fun hh=>Oh h.seen.lt
 have j:=ab.setCell (w:=f) (k.add 3) s1.v
 rw[zC]at j
 refine⟨s1,f,hr,i,g,⟨g.set 3 s1.v,((h1.jy.ext i h.n6).ext j fun b a e=>h.n2<|e▸a),((h1.seen.ext i h.n5).ext j h.n1),by rw[show cd (ks++[t])=cd ks++[[vi t]] by simp[cd]];exact s.ext j fun b a e=>n<|e▸a,h.n1,h.n2,n,h.n4,nm,fun b h1 h2=>(d b h2).elim (h.n6 b h1) fun hh=>Oh<|h.jy.lt h1⟩,?_,?_⟩
 exact((l.pure (F:=KF k sg m sl)).trans<|i.mono fun b _ a=>.inr<|.inr<|.inr a).trans (j.mono fun b _ a=>.inl a)
 rintro b (a|a|a|a)
 exact .inl<|.inl a
 exact .inl<|.inr<|.inl a
 exact .inl<|.inr<|.inr<|.inl a
 exact(d b a).imp_left fun h=>.inr<|.inr<|.inr h
end
def zBZ(p w0):cl 43 #[vp<|some p] w0 (XD fun r w'=>∃k F,r=some k/\qI w' k p [] [] F/\Pure w0 w'/\∀b,F b->w0.heap.size<=b):=by
 refine Zz _ w0 (fun r w'=>∃k F,r=some k/\qI w' k p [] [] F/\Pure w0 w'/\∀b,F b->w0.heap.size<=b) ?_;refine Br.f rfl ?_;intro l g h1 j m h2;have e:Pure w0 g:=ab.ax h1;have i:Pure g m:=ab.ax h2;have c:∀b,¬Sl.nil.aq b:=fun b d=>by have⟨a,h,_⟩:=d;cases h
 refine⟨j,_,rfl,⟨Sl.nil,l.block,Sl.nil,⟨ai.bj h2,bg.nil _ _ _,(fc.bj (f:=Gq) h1).pure i,bg.nil _ _ _,?_,c _,c _,c _,c _,fun b d=>(c b d).elim⟩,fun b=>Iff.rfl⟩,e.trans i,?_⟩;have:=h1.cu;have:=h2.cu;have:=e.size;have:=(fc.bj (f:=Gq) h1).lt;omega;rintro b (rfl|d|rfl|d);have:=h2.cu;have:=e.size;omega;exact(c b d).elim;have:=h1.cu;omega;exact(c b d).elim
def KD(k p t w0){G S F}(h:qI w0 k p G S F):
  cl 128 #[vp<|some k,vi t] w0<|XC fun r w'=>r=decide (t∈zH S)/\Pure w0 w':=by
 refine jck _ _ w0 _ ?_
 unfold JQ
 have⟨sg,m,sl,h,c⟩:=h
 have⟨r,f,h1,_⟩:=h.eu t
 exact Br.f rfl ⟨k,rfl,_,h.box.cell rfl,r,f,_,h1,fun b a hs=>⟨rfl,hs.first⟩⟩
def Ny(k p w0){G S F}(h:qI w0 k p G S F)(c:G.length<=1000000):
  cl 68 #[vp<|some k] w0<|XA fun r w'=>fv w0 73 1 (cd G) r w':=by
 refine jbx _ w0 _ ?_
 unfold JU
 have⟨sg,m,sl,h,d⟩:=h
 refine Br.f rfl ⟨k,rfl,sg,h.box.cell rfl,?_⟩
 refine(UO sg G w0 h.jy.el (fun a=>?_) c).mono ?_
 rcases h.jy.ak with⟨e,_⟩|⟨g,cur,b,_⟩
 exact e
 rw[b]at a;cases a
 grind
section
variable {w w':World} {k p:Addr} {G:List Int} {S:List gy} {F:NP}
end
def GF(k p t gz u c1 c2 w0){G S F}(h:qI w0 k p G S F)(h1:w0.cell? c1=some (vp<|some k))(h2:w0.cell? c2=some (vi u))(d1:¬ F c1.block)(d2:¬ F c2.block)(Q:S.length<=1000000):
  cl 181 #[vi t,vi gz,vp<|some c1,vp<|some c2] w0<|fun e w'=>e=.returned (.tuple #[])/\∃F',qI w' k p G (sA S ⟨t,gz,u⟩) F'/\ab F w0 w'/\∀b,F' b->F b\/w0.heap.size<=b:=by
 refine UK _ _ _ _ w0 _ ?_
 unfold Mq
 have R:=h
 have⟨sg,m,sl,h,n⟩:=h
 have⟨r,f,N,_⟩:=h.eu t
 refine⟨_,h1,k,rfl,_,h.box.cell rfl,r,f,_,N,fun B=>?_,fun B=>?_⟩
 .have i:t∉zH S:=by simpa using B
  have d:sA S ⟨t,gz,u⟩=S++[⟨t,gz,u⟩]:=if_neg i
  rw[d]
  intro E D g
  have V:=g.first
  have hh:∀{b},b<w0.heap.size->¬E b:=fun c w=>Oh<|g.old _ w
  have j:Pure w0 D.drew:=V.trans<|ab.drew D
  have s:∀a:World,Pure a a.drew:=fun a=>ab.drew a
  have M:=World.block_lt_of_cell? w0 c1 h1
  refine⟨fun w'=>mw w' k p G S (zH S) sg m sl/\w'.cell? c1=some (vp<|some k)/\w'.cell? c2=some (vi u),⟨h.pure j,j.cell h1 fun h=>h,j.cell h2 fun h=>h⟩,?_⟩
  rintro _ rfl
  have h3:=h.pure j
  refine⟨_,fun w' h=>h.2.1,k,rfl,_,fun w' h=>h.1.box.cell rfl,_,fun w' h=>h.2.2,?_⟩
  have⟨a,C,T,o⟩:=h3.put (v:=⟨t,gz,u⟩) i
  refine⟨a,C,o.bk fun b c e=>by subst e;exact hh (h.lt<|.inr<|.inr<|.inl rfl) c,?_⟩
  have l:a.cell? c1=some (vp<|some k):=o.cell (j.cell h1 fun h=>h) fun e=>d1<|(n _).2<|.inr<|.inr<|.inl e
  have y:=T.pure<|ab.drew a
  refine⟨fun w'=>w'.cell? c1=some (vp<|some k)/\ai w' k [vp<|some p,sg.v,.map<|some m,sl.v] 163,⟨(s a).cell l fun h=>h,y.box⟩,?_⟩
  rintro _ rfl
  refine⟨_,fun w' h=>h.1,_,fun w' h=>h.1,k,rfl,sl,fun w' h=>h.2.cell rfl,?_⟩
  intro q O K
  have A:Pure a.drew O:=ab.ax K
  refine⟨⟨A.cell ((s a).cell l fun h=>h) fun h=>h,y.box.pure A⟩,?_⟩
  have⟨s1,H,z,I,L,J,P,U⟩:=y.jf K (by rw[yJ];exact Q)
  have x:H.cell? c1=some (vp<|some k):=I.cell (A.cell ((s a).cell l fun h=>h) fun h=>h) fun c=>d1<|(n _).2<|.inr<|.inr<|.inr c
  refine⟨s1,H,z,⟨x,L⟩,I.bk fun b c w=>hh (h.lt<|.inr<|.inr<|.inr w) c,k,rfl,L.eh Sm,by rw[zC];exact hh h.box.lt,?_⟩
  rintro _ rfl
  rw[<-show zH (S++[⟨t,gz,u⟩])=zH S++[t]from tU S ⟨t,gz,u⟩]at J
  have W:w0.heap.size<=a.drew.heap.size:=Nat.le_trans j.size<|Nat.le_trans o.size (s a).size
  refine⟨_,⟨sg,m,s1,J,fun b=>Iff.rfl⟩,?_,fun b c=>(U b c).imp (n b).2 fun h=>Om⟩
  refine((j.pure (F:=F)).trans<|o.mono fun b _ e=>(n b).2<|.inr<|.inr<|.inl e).trans (((ab.drew a:Pure a a.drew).pure (F:=F)).trans<|P.mono fun b _ c=>(n b).2 c)
 .have i:t∈zH S:=by simpa using B
  have d:sA S ⟨t,gz,u⟩=S:=if_pos i
  rw[d]
  intro E D g
  exact⟨F,R.pure g.first,g.first.pure,fun b c=>.inl c⟩
structure o0(w0:World)(H:NP)(w:World)(k p p1:Addr)(L:aw)(G:List Int)(S:List gy)(F F0 FP:NP):Prop where
 fl:qI w k p G S F
 bl:zD w p L FP
 cap:w.cell? p1=some (vp<|some k)
 ext:ab F0 w0 w
 ak:∀b,F b->F0 b\/w0.heap.size<=b
 h1:∀b,F b->¬H b
 h2:∀b,FP b->¬H b
 h3:¬H p1.block
 d1:¬F p1.block
 d2:∀b,F b->¬FP b
section
variable {w0 w w':World} {H H':NP} {k p p1:Addr} {L:aw} {G:List Int} {S S':List gy} {F F' F0 FP:NP}
def o0.pure(h:o0 w0 H w k p p1 L G S F F0 FP)(E:Pure w w'):o0 w0 H w' k p p1 L G S F F0 FP:=
 ⟨h.fl.pure E,h.bl.pure E,E.cell h.cap fun h=>h,h.ext.fb E,h.ak,h.h1,h.h2,h.h3,h.d1,h.d2⟩
def o0.au(h:o0 w0 H w k p p1 L G S F F0 FP)(hs:af w0 H w H' w'):o0 w0 H' w' k p p1 L G S F F0 FP:=by
 have e:=hs.ji (G:=F) fun b a=>⟨h.fl.lt a,h.h1 b a⟩;have c:=hs.ji (G:=FP) fun b a=>⟨h.bl.lt a,h.h2 b a⟩;have d:=hs.ji (G:=(·=p1.block)) (fun b a=>by subst a;exact⟨World.block_lt_of_cell? w p1 h.cap,h.h3⟩) _ rfl;exact⟨h.fl.ext hs.ext e,h.bl.ext hs.ext c,hs.ext.cell h.cap d,h.ext.cg hs.ext fun i hi a=>Oh<|hs.old i a,h.ak,e,c,d,h.d1,h.d2⟩
def o0.CV(h:o0 w0 H w k p p1 L G S F F0 FP){q}(E:ab (·=q) w w')(q1:¬F q)(q2:¬FP q)(q3:q≠p1.block)(q4:w0.heap.size<=q):o0 w0 H w' k p p1 L G S F F0 FP:=
 ⟨h.fl.ext E fun b a e=>q1<|e▸a,h.bl.ext E fun b a e=>q2<|e▸a,E.cell h.cap fun e=>q3 e.symm,h.ext.cg E Gd,h.ak,h.h1,h.h2,h.h3,h.d1,h.d2⟩
def o0.step(h:o0 w0 H w k p p1 L G S F F0 FP)(f:∀b,H b->b<w.heap.size)(e:qI w' k p G S' F')(E:ab F w w')(c:∀b,F' b->F b\/w.heap.size<=b):o0 w0 H w' k p p1 L G S' F' F0 FP:=by
 have a:=h.ext.size;refine⟨e,h.bl.ext E fun b a d=>h.d2 b d a,E.cell h.cap h.d1,h.ext.cg E fun i hi d=>(h.ak i d).elim id fun hh=>Om,fun b a=>?_,fun b a hh=>?_,h.h2,h.h3,fun hh=>?_,fun b a hh=>?_⟩;rcases c b a with h1|h1;exact h.ak b h1;right;omega;rcases c b a with h1|h1;exact h.h1 b h1 hh;have:=f b hh;omega;rcases c _ hh with h1|h1;exact h.d1 h1;have:=World.block_lt_of_cell? w p1 h.cap;omega;rcases c b a with h1|h1;exact h.d2 b h1 hh;have:=h.bl.lt hh;omega
end
def Tq(k p t gz az w0){L G S F FP}(h:qI w0 k p G S F)(hP:zD w0 p L FP)(hW:Wf L)(hd:∀b,F b->¬ FP b)(hwo:ny L G S)(hcl:∀u∈zH S,sT L S u)(ht:al L t=true)(hv:ud L G S ⟨t,gz,az⟩):
  cl 134 #[vp<|some k,vi t,.agg #[vi gz,vi az]] w0<|fun e w'=>e=.returned (.tuple #[])/\∃S' F',qI w' k p G S' F'/\(ny L G S'/\(∀u∈zH S',sT L S' u)/\t∈zH S'/\∀u∈zH S,u∈zH S')/\ab F w0 w'/\∀b,F' b->F b\/w0.heap.size<=b:=by
 suffices key:∀K:WP,(∀S' F' w',qI w' k p G S' F'->(ny L G S'/\(∀u∈zH S',sT L S' u)/\t∈zH S'/\∀u∈zH S,u∈zH S')->ab F w0 w'->(∀b,F' b->F b\/w0.heap.size<=b)->K w')->NF (some k) t gz az w0 K from
  UD _ _ _ _ w0 _<|key _ fun S' F' w' a b c d=>⟨S',F',a,b,c,d⟩
 intro K hK
 intro p1 w1 h1 H1 w2 hs2
 have hp1:=h1.cu
 have E1:Pure w0 w1:=ab.ax h1
 have nF:∀{b},F b->b<w0.heap.size:=fun l=>h.lt l
 have nP:∀{b},FP b->b<w0.heap.size:=fun l=>hP.lt l
 have A1:o0 w0 ar w1 k p p1 L G S F F FP:=⟨h.pure E1,hP.pure E1,(ai.bj h1).bf,E1.pure,fun b l=>.inl l,fun b _ h=>h,fun b _ h=>h,fun h=>h,fun l=>Oh<|nF l,hd⟩
 have A2:=A1.au hs2
 have⟨sg,m,sl,k2,J⟩:=A2.fl
 have⟨r,f,hl,_⟩:=k2.eu t
 refine⟨_,A2.cap,k,rfl,_,k2.box.cell rfl,r,f,_,hl,fun hc=>?_,fun hc=>?_⟩
 intro H2 X hs4
 have A4:=A2.au hs4
 exact hK S F X A4.fl ⟨hwo,hcl,by simpa using hc,fun _ h=>h⟩ A4.ext fun b l=>.inl l
 have hnt:t∉zH S:=by simpa using hc
 intro H2 X hs4
 have A4:=A2.au hs4
 have k4:mw X k p G S (zH S) sg m sl:=k2.ext hs4.ext fun b l=>A4.h1 b<|(J b).2 l
 have D:∀w:World,Pure w w.drew:=fun w=>ab.drew w
 refine⟨fun w'=>w'.cell? p1=some (vp<|some k)/\ai w' k [vp<|some p,sg.v,.map<|some m,sl.v] 163,⟨(A4.pure<|D X).cap,(k4.pure<|D X).box⟩,?_⟩
 rintro _ rfl
 have A5:=A4.pure<|D X
 have k5:=k4.pure<|D X
 have hs5:af w0 H2 X.drew H2 X.drew:=hs4.fm.ib (D X).bz
 refine⟨_,fun w' h=>h.1,k,rfl,_,fun w' h=>h.2.cell rfl,?_⟩
 have⟨w6,hr6,k6,E6⟩:=k5.put (v:=⟨t,gz,az⟩) hnt
 have hm:¬H2 m:=A5.h1 m<|(J m).2<|.inr<|.inr<|.inl rfl
 refine⟨w6,hr6,E6.bk fun b l e=>hm<|e▸l,?_⟩
 have c16:w6.cell? p1=some (vp<|some k):=E6.cell A5.cap fun e=>A5.d1<|(J _).2<|.inr<|.inr<|.inl e
 refine⟨_,c16,k,rfl,sl,k6.box.cell rfl,?_⟩
 have k7:=k6.pure<|D w6
 have c17:w6.drew.cell? p1=some (vp<|some k):=(D w6).cell c16 fun h=>h
 refine⟨fun w'=>w'.cell? p1=some (vp<|some k)/\ai w' k [vp<|some p,sg.v,.map<|some m,sl.v] 163,⟨c17,k7.box⟩,?_⟩
 rintro _ rfl
 refine⟨_,fun w' h=>h.1,_,fun w' h=>h.1,k,rfl,sl,fun w' h=>h.2.cell rfl,?_⟩
 intro q w8 h8
 have E8:Pure w6.drew w8:=ab.ax h8
 refine⟨⟨E8.cell c17 fun h=>h,k7.box.pure E8⟩,?_⟩
 have hSn:S.length<=65536:=Oi hwo.ft hW.ok.ft
 have⟨s1,w9,hr9,X9,b9,k9,E9,f9⟩:=k7.jf h8 (by rw[yJ];omega)
 have c19:w9.cell? p1=some (vp<|some k):=X9.cell (E8.cell c17 fun h=>h) fun l=>A5.d1<|(J _).2<|.inr<|.inr<|.inr l
 have hH8:∀b,H2 b->b<X.drew.heap.size:=hs5.lt
 refine⟨s1,w9,hr9,⟨c19,b9⟩,X9.bk fun b l hx=>A5.h1 b ((J b).2<|.inr<|.inr<|.inr hx) l,k,rfl,b9.eh Sm,by rw[zC];exact A5.h1 _<|(J _).2<|.inl rfl,?_⟩
 rintro _ rfl
 rw[<-show zH (S++[⟨t,gz,az⟩])=zH S++[t]from tU S ⟨t,gz,az⟩]at k9
 have E59:ab F X.drew (w9.setCell (k.add 3) s1.v):=(E6.mono fun b _ e=>(J b).2<|.inr<|.inr<|.inl e).trans<|((D w6).pure (F:=F)).trans<|E9.mono fun b _ l=>(J b).2 l
 have z6:X.drew.heap.size<=w6.drew.heap.size:=Nat.le_trans E6.size (D w6).size
 have A10:o0 w0 H2 (w9.setCell (k.add 3) s1.v) k p p1 L G (S++[⟨t,gz,az⟩]) (KF k sg m s1) F FP:=A5.step hH8 ⟨sg,m,s1,k9,fun b=>Iff.rfl⟩ E59 fun b l=>(f9 b l).imp (J b).2 fun h=>Om
 have hw1:ny L G (S++[⟨t,gz,az⟩]):=hwo.sd hnt ht hv
 have hl2:sl.len=S.length:=by rw[k2.pW.len,vA,yJ]
 refine⟨fun i H w'=>∃(j:Nat) (g:List gy) (W:NP),i=j/\j<=g.length/\o0 w0 H w' k p p1 L G g W F FP/\ny L G g/\(∀u∈zH (g.take j),sT L g u)/\t∈zH g/\∀u∈zH S,u∈zH g,fun i _=>((L.length:Int)-i).toNat,
  ⟨S.length,_,_,by rw[hl2],Sm,A10,hw1,fun u hu=>by rw[take_left]at hu;exact(hcl u hu).sd,by rw[tU];simp,fun u hu=>by rw[tU];exact mem_append_left _ hu⟩,?_⟩
 rintro _ P wl hl ⟨j,g,W,rfl,hj,A,Y,hcj,htj,hSj⟩
 unfold JW
 have⟨tg,mj,tl,kj,hFj⟩:=A.fl
 have hlj:tl.len=g.length:=by rw[kj.pW.len,vA,yJ]
 refine⟨_,A.cap,k,rfl,tl,kj.box.cell rfl,fun hc=>?_,fun hc=>?_⟩
 have hlt:=vQ hlj hc
 have⟨a8,at8,_,c8⟩:=uJ kj.pW.el (j:=j) (by rw[yJ];exact hlt)
 have hu:(zH g)[j]'(by rw[yJ];exact hlt)=g[j].t:=by simp[zH]
 rw[hu]at c8
 have hum:g[j].t∈zH g:=mem_map.2 ⟨_,getElem_mem hlt,rfl⟩
 have hui:=Y.iq _ hum
 have hLn:g.length<=L.length:=Y.ft
 have hL6:=hW.ok.ft
 have htk:zH (g.take<|j+1)=zH (g.take j)++[g[j].t]:=by rw[take_succ_eq_append_getElem hlt,tU]
 generalize g[j].t=u at *
 refine⟨_,A.cap,k,rfl,tl,kj.box.cell rfl,a8,at8,u,c8,?_⟩
 intro Q U h11
 have hp5:=h11.cu
 have E11:Pure wl U:=ab.ax h11
 have b5:=ai.bj h11
 have hnh5:¬P Q.block:=fun hh=>Oh<|hl.lt _ hh
 refine⟨b5.gx Sm,hnh5,?_⟩
 rintro _ rfl
 have b12:=b5.jh (v:=vi u)
 have E12:=ab.setCell (w:=U) Q<|vi u
 have wl0:=A.ext.size
 have n5:¬W Q.block:=fun hh=>Oh<|A.fl.lt hh
 have n5p:¬FP Q.block:=fun hh=>Oh<|A.bl.lt hh
 have n51:Q.block≠p1.block:=fun hh=>Oh<|World.block_lt_of_cell? wl p1 A.cap
 have A12:o0 w0 P (U.setCell Q<|vi u) k p p1 L G g W F FP:=(A.pure E11).CV E12 n5 n5p n51 Om
 have k12:mw (U.setCell Q<|vi u) k p G g (zH g) tg mj tl:=(kj.pure E11).ext E12 fun b l e=>n5<|e▸(hFj b).2 l
 have hl12:af w0 P (U.setCell Q<|vi u) P (U.setCell Q<|vi u):=(hl.ib E11.bz).ib<|E12.bk fun b l e=>hnh5<|e▸l
 generalize U.setCell Q (vi u)=z at *
 clear E11 E12 h11
 refine⟨fun w'=>w'.cell? p1=some (vp<|some k)/\ai w' k [vp<|some p,tg.v,.map<|some mj,tl.v] 163/\ai w' Q [vi u] 73,⟨(A12.pure<|D z).cap,(k12.pure<|D z).box,b12.pure<|D z⟩,?_⟩
 rintro _ rfl
 have o:=A12.pure<|D z
 have C:=b12.pure<|D z
 have T:=k12.pure<|D z
 have hs17:af w0 P z.drew P z.drew:=hl12.ib (D z).bz
 generalize E:ad L u=n at *
 have J2 : ∀ (a9 : Addr) (w : World), af w0 P w P w -> o0 w0 P w k p p1 L G g W F FP -> w.cell? Q = some (vi u) -> Row w a9 (tI n) -> ¬ W a9.block -> ¬ P a9.block ->
   BA p1 j Q a9 w0 P w (fun y'0 H' w'=>(∃(j:Nat) (g:List gy) (W:NP),y'0=j/\j<=g.length/\o0 w0 H' w' k p p1 L G g W F FP/\ny L G g/\(∀u∈zH (g.take j),sT L g u)/\t∈zH g/\∀u∈zH S,u∈zH g)/\((L.length:Int)-y'0).toNat<((L.length:Int)-(j:Int)).toNat) K:=by
  intro a9 w hs Aw c5 r9 n9 nh9
  have fin : ∀ (H' : NP) (w' : World) (S' : List gy) (F' : NP), o0 w0 H' w' k p p1 L G S' F' F FP -> ny L G S' -> (∃ M, S' = g ++ M) -> sT L S' u ->
    ((∃(j':Nat) (g:List gy) (W:NP),IntKind.i64.wrap ((j:Int)+1)=j'/\j'<=g.length/\o0 w0 H' w' k p p1 L G g W F FP/\ny L G g/\(∀u∈zH (g.take j'),sT L g u)/\t∈zH g/\∀u∈zH S,u∈zH g)/\((L.length:Int)-IntKind.i64.wrap ((j:Int)+1)).toNat<((L.length:Int)-(j:Int)).toNat):=by
   rintro H' w' S' F' A' hw' ⟨M,rfl⟩ hsh
   have hsub:∀x∈zH g,x∈zH (g++M):=fun x hx=>by unfold zH at hx|-;rw[map_append];exact mem_append_left _ hx
   rw[zM (n:=L.length) Om Om]
   refine⟨⟨j+1,_,F',rfl,by rw[length_append];omega,A',hw',fun x hx=>?_,hsub t htj,fun x hx=>hsub x<|hSj x hx⟩,yQ Om⟩
   rw[take_append_of_le_length Om,htk,mem_append,mem_singleton]at hx
   rcases hx with hx|rfl
   exact fun r y ha=>hsub y<|hcj x hx r y ha
   exact hsh
  unfold BA
  have ck:w.cell? a9=some (vi n.kind):=by simpa[Addr.add,tI]using r9 0 (by simp[tI])
  have ca:w.cell? (a9.add 5)=some (vi n.a):=r9 5 (by simp[tI])
  have cb:w.cell? (a9.add 6)=some (vi n.b):=r9 6 (by simp[tI])
  refine⟨_,ck,fun hk=>?_,fun hk=>?_⟩
  have N:n.kind=4:=by simpa using hk
  have B:=ug hW hui (by rw[E];exact N)
  rw[E]at B
  refine⟨_,ca,?_⟩
  refine(GF k p n.a 1 u p1 Q w Aw.fl Aw.cap c5 Aw.d1 (fun hh=>n5 hh) Om).mono ?_
  rintro _ w13 ⟨rfl,F1,K1,X1,f1⟩
  have A1:=Aw.step hs.lt K1 X1 f1
  have hs13:=hs.ib<|X1.bk fun b l hf=>Aw.h1 b hf l
  refine⟨rfl,X1.bk fun b l hf=>Aw.h1 b hf l,n.b,X1.cell cb (by rw[zC];exact n9),?_⟩
  have a1:tH L 1 u n.a:=.inl ⟨rfl,by rw[E];exact N,by rw[E]⟩
  have a2:tH L 2 u n.b:=.inr<|.inl ⟨rfl,by rw[E];exact N,by rw[E]⟩
  have hw1:=Y.add (v:=⟨n.a,1,u⟩) B.1.1<|.inr ⟨Sm,a1,hum⟩
  have u1:=(BO g ⟨n.a,1,u⟩).2 u hum
  have hw2:=hw1.add (v:=⟨n.b,2,u⟩) B.2.1<|.inr ⟨Sm,a2,u1⟩
  have p5lt:=World.block_lt_of_cell? w Q c5
  have m5:¬F1 Q.block:=fun hh=>(f1 _ hh).elim n5 fun hx=>Om
  refine(GF k p n.b 2 u p1 Q w13 A1.fl A1.cap (X1.cell c5 n5) A1.d1 m5<|Oh hw1.ft).mono ?_
  rintro _ w14 ⟨rfl,F2,K2,X2,f2⟩
  have A2:=A1.step hs13.lt K2 X2 f2
  refine⟨rfl,X2.bk fun b l hf=>A1.h1 b hf l,?_⟩
  refine fin P w14 _ F2 A2 hw2 ?_ ?_
  have⟨M1,e1⟩:=IJ g ⟨n.a,1,u⟩
  have⟨M2,e2⟩:=IJ (sA g ⟨n.a,1,u⟩) ⟨n.b,2,u⟩
  exact⟨M1++M2,by rw[e2,e1,append_assoc]⟩
  rintro r y (⟨_,_,h3⟩|⟨_,_,h3⟩|⟨_,h2,_⟩)
  rw[E]at h3;subst h3
  exact(BO _ ⟨n.b,2,u⟩).2 _ (BO g ⟨n.a,1,u⟩).1
  rw[E]at h3;subst h3
  exact(BO _ ⟨n.b,2,u⟩).1
  rw[E,N]at h2;cases h2
  have N:n.kind≠4:=by simpa using hk
  rintro y1 rfl
  have hy:(cond ((n.kind:Int)==7) ((n.kind:Int)==7)<|cond ((n.kind:Int)==8) ((n.kind:Int)==8)<|(n.kind:Int)==9)=qY n.kind:=by
   unfold qY;cases h7:(n.kind==7)<;>cases h8:(n.kind==8)<;>simp
  rw[hy]
  refine⟨fun hs7=>?_,fun hs7=>?_⟩
  intro H3 w15 I
  have A15:=Aw.au I
  have B:=xv hW hui (by rw[E];exact hs7)
  rw[E]at B
  have r15:=IE r9 nh9 I
  have ca15:w15.cell? (a9.add 5)=some (vi n.a):=r15 5 Sm
  have c515:=Cj c5 hnh5 I
  refine⟨n.a,ca15,?_⟩
  refine(GF k p n.a 3 u p1 Q w15 A15.fl A15.cap c515 A15.d1 n5 Om).mono ?_
  rintro _ w16 ⟨rfl,F1,K1,X1,f1⟩
  have A1:=A15.step I.lt K1 X1 f1
  refine⟨rfl,X1.bk fun b l hf=>A15.h1 b hf l,?_⟩
  have a3:tH L 3 u n.a:=.inr<|.inr ⟨rfl,by rw[E];exact hs7,by rw[E]⟩
  refine fin H3 w16 _ F1 A1 (Y.add (v:=⟨n.a,3,u⟩) B.1<|.inr ⟨Sm,a3,hum⟩) (IJ g ⟨n.a,3,u⟩) ?_
  rintro r y (⟨_,h2,_⟩|⟨_,h2,_⟩|⟨_,_,h3⟩)
  rw[E]at h2;exact absurd h2 N
  rw[E]at h2;exact absurd h2 N
  rw[E]at h3;subst h3
  exact(BO g ⟨n.a,3,u⟩).1
  intro H3 w15 I
  refine fin H3 w15 g W (Aw.au I) Y ⟨[],Sm⟩ ?_
  rintro r y (⟨_,h2,_⟩|⟨_,h2,_⟩|⟨_,h2,_⟩)
  rw[E]at h2;exact absurd h2 N
  rw[E]at h2;exact absurd h2 N
  rw[E,hs7]at h2;cases h2
 refine⟨_,fun w' h=>h.1,k,rfl,_,fun w' h=>h.2.1.bf,_,fun w' h=>h.2.2.bf,?_,?_⟩
 refine(tj p u z.drew o.bl hW.ok).mono ?_
 rintro _ w18 ⟨nk,nf,nt,nu,nx,na,nb,ok,rfl,⟨hnn,_⟩,Z⟩
 rw[E]at hnn
 refine⟨_,_,_,_,_,_,_,_,rfl,⟨(o.pure Z).cap,T.box.pure Z,C.pure Z⟩,Z.bz,?_⟩
 intro p6 w19 h19
 have hp6:=h19.cu
 have s:=Z.trans<|ab.ax h19
 have b6:=ai.bj h19
 have z18:=Z.size
 have z12:wl.heap.size<=z.drew.heap.size:=Oh<|C.lt
 have V:¬P p6.block:=fun hh=>Oh<|hl.lt _ hh
 refine⟨⟨(o.pure s).cap,T.box.pure s,C.pure s⟩,b6.uo (n:=7) Sm,V,?_⟩
 rintro _ rfl
 have O:=ab.bd w19 p6 [(vi nk),(vi nf),(vi nt),(vu nu),(vs nx),(vi na),(vi nb)]
 have b20:=b6.store (vs:=[(vi nk),(vi nf),(vi nt),(vu nu),(vs nx),(vi na),(vi nb)]) rfl
 have A19:=o.pure s
 have n6:¬W p6.block:=fun hh=>Oh<|o.fl.lt hh
 have A20:=A19.CV O n6 (fun hh=>Oh<|o.bl.lt hh) (fun hh=>Oh<|World.block_lt_of_cell? _ p1 o.cap)<|Oh o.ext.size
 have k20:=(T.box.pure s).ext O fun e=>Oh T.box.lt
 have R:=(C.pure s).ext O fun e=>Oh C.lt
 have hs20:af w0 P _ P _:=(hs17.ib s.bz).ib<|O.bk fun b l e=>V<|e▸l
 exact⟨⟨A20.cap,k20,R⟩,J2 p6 _ hs20 A20 R.bf (by rw[<-hnn];exact b20.row) n6 V⟩
 intro p7 w21 h21
 have hp6:=h21.cu
 have E21:Pure z.drew w21:=ab.ax h21
 have b7:=ai.bj h21
 refine⟨⟨(o.pure E21).cap,T.box.pure E21,C.pure E21⟩,?_⟩
 refine(tj p u w21 (o.pure E21).bl hW.ok).mono ?_
 rintro _ w22 ⟨nk,nf,nt,nu,nx,na,nb,ok,rfl,⟨hnn,_⟩,E22⟩
 rw[E]at hnn
 have s:=E21.trans E22
 have z12:wl.heap.size<=z.drew.heap.size:=Oh<|C.lt
 have V:¬P p7.block:=fun hh=>Oh<|hl.lt _ hh
 have b6:=b7.pure E22
 refine⟨_,_,_,_,_,_,_,_,rfl,⟨(o.pure s).cap,T.box.pure s,C.pure s⟩,E22.bz,b6.uo (n:=7) Sm,V,?_⟩
 rintro _ rfl
 have O:=ab.bd w22 p7 [(vi nk),(vi nf),(vi nt),(vu nu),(vs nx),(vi na),(vi nb)]
 have b20:=b6.store (vs:=[(vi nk),(vi nf),(vi nt),(vu nu),(vs nx),(vi na),(vi nb)]) rfl
 have A19:=o.pure s
 have n6:¬W p7.block:=fun hh=>Oh<|o.fl.lt hh
 have A20:=A19.CV O n6 (fun hh=>Oh<|o.bl.lt hh) (fun hh=>Oh<|World.block_lt_of_cell? _ p1 o.cap)<|Oh o.ext.size
 have k20:=(T.box.pure s).ext O fun e=>Oh T.box.lt
 have R:=(C.pure s).ext O fun e=>Oh C.lt
 have hs20:af w0 P _ P _:=(hs17.ib s.bz).ib<|O.bk fun b l e=>V<|e▸l
 exact⟨⟨A20.cap,k20,R⟩,J2 p7 _ hs20 A20 R.bf (by rw[<-hnn];exact b20.row) n6 V⟩
 have hge:=qU hlj hj hc
 subst hge
 rw[take_length]at hcj
 exact hK g W wl A.fl ⟨Y,hcj,htj,hSj⟩ A.ext A.ak
def Jj(p k w)(a:k=0\/k=1\/k=2):(Instr.sliceAt 46 (Sl.mk (some p) 2 2).v .none (some<|vi k) .none).run prog w=.ok (Sl.mk (some p) k.toNat 2).v w:=by
 rcases a with rfl|rfl|rfl<;>kernel_rfl
def zJR(p k f t u x a b w){L F}(hP:zD w p L F)(q:Ok L):
  cl 180 #[vp<|some p,.agg #[vi k,vi f,vi t,vu u,vs x,vi a,vi b]] w
   (XJ fun r1 r2 r3 w'=>(r1,r2,r3)=ej L ⟨k,f,t,u,x,a,b⟩/\Pure w w'):=by
 suffices key:∀K:Int->Int->Int->WP,(∀r1 r2 r3 w',(r1,r2,r3)=ej L ⟨k,f,t,u,x,a,b⟩/\Pure w w'->K r1 r2 r3 w')->ON (some p) k f t u x a b w K from
  Xt _ _ _ _ _ _ _ _ w _<|key _ fun _ _ _ _ h=>h
 intro K S
 intro G w1 h1
 have b1:=ai.bj h1
 have E1:Pure w w1:=ab.ax h1
 refine⟨_,_,_,_,_,_,_,b1.row,?_⟩
 refine(Lj _ _ _ _ _ _ _ _).mono ?_
 rintro _ w2 ⟨s1,s2,s3,s4,g,pe,rfl,⟨hs,v⟩,E2⟩
 refine⟨_,_,_,_,_,_,rfl,?_⟩
 intro M w3 h3
 have b2:=(b1.pure E2).pure<|ab.ax h3
 have n23:G.block≠M.block:=av.ne h3 (b1.pure E2).aq
 have E3:Pure w w3:=(E1.trans E2).trans<|ab.ax h3
 have o3:=av.ak (E1.trans E2) h3
 refine bx 5 (ai.bj h3) rfl rfl fun P b3 E=>?_
 have b2:=b2.ext E n23
 have E4:Pure w P:=E3.ak o3 E
 clear E E3 E2 E1 b1 h1 h3
 have o:bq k=⟨s1,s2,s3,s4,g⟩:=hs.symm
 have R:g=0\/g=1\/g=2:=by have:=yM k;rw[o]at this;exact this
 generalize hn:(⟨k,f,t,u,x,a,b⟩:di)=n at *
 have B:n.kind=k:=by rw[<-hn]
 have A:n.a=a:=by rw[<-hn]
 have s:n.b=b:=by rw[<-hn]
 have J2:∀Z w',Pure P w'->(Z≠0->ej L n=(0,0,Z))->(Z=0->pe=0/\((decide (g<1)&&a !=0) ||(decide (g<2)&&b !=0))=false/\zQ ⟨s1,s2,s3,s4,g⟩ n=0)->Dw (some p) G M Z w' K:=by
  intro Z w' E' J O;have b2:=b2.pure E';have b3:=b3.pure E';have E5:=E4.trans E';have hP':=hP.pure E5;refine⟨fun h=>S _ _ _ _ ⟨(J<|by simpa using h).symm,E5⟩,fun h=>⟨_,b2.cell rfl,_,b2.cell rfl,?_⟩⟩;intro p4 Q m;have⟨i,z,hf0⟩:=O (by simpa using h);have b4:=ai.bj m;have X:=E5.trans<|ab.ax m;have I:=hP.pure X;refine⟨_,(b3.pure<|ab.ax m).cell rfl,_,Jj p4 g Q R,?_⟩;have U:zB n=[a,b].take g.toNat:=by simp[zB,B,o,A,s]
  have hlen:(zB n).length=g.toNat:=by rw[U];rcases R with rfl|rfl|rfl<;>rfl
  have Y:∀j (hj:j<(zB n).length),Q.cell? (p4.add<|j*1)=some (vi (zB n)[j]):=by
   intro j hj;have hj2:j<g.toNat:=Om;have:(zB n)[j]=[a,b][j]' So:=by simp only[U,getElem_take]
   rw[this,Nat.mul_one];refine b4.cell ?_;have h2:j=0\/j=1:=Om;rcases h2 with rfl|rfl<;>rfl
  have H:ej L n=if(zB n).any (fun t=>!al L t)then(0,0,51)else if 1+((zB n).map<|sizeOf L).sum>4096\/(zB n).foldl (fun d t=>max d<|c9 L t) 0+1>64 then(0,0,52)else(1+((zB n).map<|sizeOf L).sum,(zB n).foldl (fun d t=>max d<|c9 L t) 0+1,0):=by
   unfold ej;simp only[B,o,A,s,<-v,i,z,hf0];simp
  generalize hkk:zB n=c at *;have hl2:c.length<=2:=Om;have V:∀j,0<=((c.take j).map<|sizeOf L).sum/\((c.take j).map<|sizeOf L).sum<=4096*(c.take j).length:=by
   intro j;generalize c.take j=l;induction l with
   |nil=>simp
   |cons y l ih=>have:=q.sizeOf y;simp only[map_cons,sum_cons,length_cons];omega
  have W:∀(l:List Int) (d:Int),0<=d->d<=64->0<=l.foldl (fun d t=>max d<|c9 L t) d/\l.foldl (fun d t=>max d<|c9 L t) d<=64:=by
   intro l;induction l with
   |nil=>intro d h1 h2;exact⟨h1,h2⟩
   |cons y l ih=>intro d h1 h2;have:=q.c9 y;exact ih (max d<|c9 L y) Om Om
  refine⟨fun sz d x w'=>∃j:Nat,x=j/\j<=c.length/\sz=1+((c.take j).map<|sizeOf L).sum/\d=(c.take j).foldl (fun d t=>max d<|c9 L t) 0/\(c.take j).any (fun t=>!al L t)=false/\Q=w',fun _ _ x _=>(2-x).toNat,⟨0,rfl,Nat.zero_le _,Sm,Sm,Sm,rfl⟩,?_⟩;rintro sz d _ _ ⟨j,rfl,hj,rfl,rfl,hin,rfl⟩;unfold Jd;have hs1:=V j;have hd1:=W (c.take j) 0 Om Om;have htl:(c.take j).length<=2:=by rw[length_take];omega
  refine⟨fun h=>?_,fun h=>?_⟩;have r:j<c.length:=by have h:=of_decide_eq_true h;simp only at h;omega
  refine⟨p4.add<|j*1,⟨Om,of_decide_eq_true h,p4,rfl,Sm⟩,c[j],Y j r,?_⟩;have htk:c.take (j+1)=c.take j++[c[j]]:=take_succ_eq_append_getElem r;refine(y3 p _ Q I).mono ?_;rintro _ _ ⟨_,rfl,rfl,rfl⟩;refine⟨_,rfl,fun h=>?_,fun h=>?_⟩;refine S _ _ _ _ ⟨?_,X⟩;rw[H,if_pos];exact any_eq_true.2 ⟨c[j],getElem_mem r,h⟩;refine(Zv p _ Q I q).mono ?_;rintro _ _ ⟨_,rfl,rfl,rfl⟩;refine⟨_,rfl,?_⟩;refine(zJU p _ Q I q).mono ?_;rintro _ _ ⟨_,rfl,rfl,rfl⟩;refine⟨_,rfl,_,run_max_int2 _ _ _ _ _ _ _,⟨j+1,?_,r,?_,?_,?_,rfl⟩,?_⟩;rw[i64 Om Om];omega;have:=q.sizeOf c[j];rw[i64 Om Om,htk,map_append,sum_append];simp only[map_cons,map_nil,sum_cons,sum_nil];omega;grind;grind;show(2-IntKind.i64.wrap ((j:Int)+1)).toNat<(2-(j:Int)).toNat;rw[i64 Om Om];omega;have hge:j=c.length:=by have h:=of_decide_eq_false h;simp only at h;omega
  subst hge;rw[take_length]at hs1 hd1 hin|-;have r:(c.length:Int)<=2:=Om;refine⟨fun h=>S _ _ _ _ ⟨?_,X⟩,fun h=>?_⟩;grind;rw[i64 Om Om];refine⟨fun h'=>S _ _ _ _ ⟨?_,X⟩,fun h'=>S _ _ _ _ ⟨?_,X⟩⟩;grind;grind
 have J1:∀e1,(e1≠0->ej L n=(0,0,e1))->(e1=0->pe=0/\((decide (g<1)&&a !=0) ||(decide (g<2)&&b !=0))=false)->sC (some p) G M e1 P K:=by
  intro e1 J O;refine⟨fun h=>⟨_,_,_,_,_,b3.row,_,_,_,_,_,_,_,b2.row,?_⟩,fun h=>J2 _ _ (ab.refl _) J Gd⟩;have⟨i,z⟩:=O (by simpa using h);refine(OT _ _ _ _ _ _ _ _ _ _ _ _ _).mono ?_;rintro _ w9 ⟨_,rfl,rfl,E9⟩;rw[hn];refine⟨_,rfl,J2 _ _ E9 (fun hf=>?_) fun hf=>⟨i,z,hf⟩⟩;unfold ej;simp only[B,o,A,s,<-v,i,z];simp[hf]
 have C:pe=0->((decide (g<1)&&a !=0) ||(decide (g<2)&&b !=0))=true->sC (some p) G M 53 P K:=fun i hc=>J1 53 (fun _=>by
  unfold ej;simp only[B,o,A,s,<-v,i,hc];simp) (fun e=>by cases e)
 have N:pe≠0->sC (some p) G M pe P K:=fun hp=>J1 pe (fun _=>by
  unfold ej;simp only[<-v];rw[if_pos hp]) fun e=>absurd e hp
 have J5:∀D x3,D=(decide (g<1)&&a !=0)->x3=(decide (g<2)&&b !=0)->Eu (some p) G pe M D x3 P K:=by
  intro D x3 h2 h3;refine⟨fun h=>⟨fun T=>C (by simpa using h) (by rw[<-h2,T];rfl),fun T=>⟨fun hy=>C (by simpa using h) (by rw[<-h2,<-h3,hy];simp),fun hy=>J1 pe Gd Gd⟩⟩,fun h=>N<|by simpa using h⟩
 have J4:∀D,D=(decide (g<1)&&a !=0)->D6 (some p) G pe M D P K:=by
  intro D h2;refine⟨fun h=>⟨fun T=>C (by simpa using h) (by rw[<-h2,T];rfl),fun T=>⟨_,b3.cell rfl,fun m=>⟨_,b2.cell rfl,J5 _ _ h2 (by rw[m];rfl)⟩,fun m=>J5 _ _ h2 (by rw[m];rfl)⟩⟩,fun h=>N<|by simpa using h⟩
 exact⟨fun h=>⟨_,b3.cell rfl,fun m=>⟨_,b2.cell rfl,J4 _ (by rw[m];rfl)⟩,fun m=>J4 _ (by rw[m];rfl)⟩,fun h=>N<|by simpa using h⟩
end Go.Proofs
end
section
open Go Go.SE
namespace Go.Proofs
open Tryz
attribute [local irreducible] Calls
def Pm(v:Value):Prop:=∃n,v=mc n
def GX{n n'}:mc n=mc n'↔n=n':=by
 constructor;intro h;cases n;cases n';simp[mc,tI]at h;simp[h];rintro rfl;rfl
def Zr(n):Instr.sameBits 10000 (mc n) (mc n)=true:=by
 have h:∀d,Instr.sameBits (d+1) (mc n) (mc n)=true:=fun d=>by
  have e:(n.bb==n.bb)=true:=by rw[beq_toListBytes];simp
  cases d<;>simp[Instr.sameBits,mc,tI,e]
 exact h 9999
def Di:rz prog 119 Pm:=by
 refine rz.jaF underlying119 ?_ ?_ ?_
 .rintro _ ⟨n,rfl⟩ g w;kernel_rfl
 .rintro _ _ w ⟨n,rfl⟩ ⟨c,rfl⟩;refine⟨decide (n=c),?_,by simp only[GX,decide_eq_true_eq];exact eq_comm⟩;have⟨k,f,t,u,x,a,b⟩:=n;have⟨k',h,d,e,l,j,i⟩:=c;simp[Op.equal,Op.maxDepth,go_sem,zp,mc,tI]
  repeat' split
  all_goals simp_all
 .rintro _ ⟨n,rfl⟩;exact Zr n
def G8:km prog 158 248 9 (16*5):=by
 refine⟨underlying158,⟨t248,_,Kf,(by kernel_rfl:t248.zero=some (.agg #[vi 0,vi 0,vi 0,vu 0,vs ⟨#[]⟩,vi 0,vi 0,vi 0,vi 0])),Kf,Kf,rfl⟩,Om⟩
def Ky{L}{i:Nat}{n v}(h:(ig L)[i]?=some (mc n,v)):∃e,L[i]?=some e/\e.node=n/\v=vi (i+1:Nat):=by
 simp only[ig,List.getElem?_map,List.getElem?_zipIdx,Option.map_map,Option.map_eq_some_iff]at h;have⟨e,a,h⟩:=h;simp only[Function.comp,Prod.mk.injEq]at h;exact⟨e,a,GX.1 h.1,by rw[<-h.2];simp⟩
def NK{L n}(h:∀q∈ig L,q.1≠mc n):∀e∈L,e.node≠n:=by
 intro e a b;obtain⟨i,hi,rfl⟩:=List.mem_iff_getElem.1 a;refine h (mc L[i].node,vi (i+1:Nat)) ?_ (by rw[b]);exact List.mem_map.2 ⟨(L[i],i),by rw[List.mem_zipIdx_iff_getElem?];simp[hi],rfl⟩
def C6{L}:∀q∈ig L,Pm q.1:=by
 intro q a;obtain⟨x,_,rfl⟩:=List.mem_map.1 a;exact⟨_,rfl⟩
def RF(L)(e:tf):ig (L++[e])=ig L++[(mc e.node,vi (L.length+1:Nat))]:=by
 simp[ig,List.zipIdx_append]
def Fh{L}(a:Ok L){i}{e:tf}(h:L[i]?=some e):find L e.node=some i:=by
 obtain⟨hi,rfl⟩:=List.getElem?_eq_some_iff.1 h;unfold find;rw[List.findIdx?_eq_some_iff_getElem];refine⟨hi,Sm,fun j c=>?_⟩;have b:=a.oE;simp only[decide_eq_true_eq];intro e;exact List.pairwise_iff_getElem.1 b j i So (by simpa using hi) c (by simpa using e)
def wZ{L n}(h:∀e∈L,e.node≠n):find L n=none:=by
 unfold find;rw[List.findIdx?_eq_none_iff];intro e a;simpa using h e a
def rR(p:Addr)(k f t u:Int)(x:ByteArray)(a b:Int)(w:World){L:aw}{F:NP}(hP:zD w p L F)(hok:Ok L):
  cl 132 #[vp<|some p,.agg #[vi k,vi f,vi t,vu u,vs x,vi a,vi b]] w
   (XH fun r1 r2 w'=>(r1,r2)=((ay L ⟨k,f,t,u,x,a,b⟩).1,(ay L ⟨k,f,t,u,x,a,b⟩).2.1)/\∃F',zD w' p (ay L ⟨k,f,t,u,x,a,b⟩).2.2 F'/\ab F w w'/\∀b,F' b->F b\/w.heap.size<=b):=by
 suffices key:∀K:Int->Int->WP,(∀r1 r2 w',((r1,r2)=((ay L ⟨k,f,t,u,x,a,b⟩).1,(ay L ⟨k,f,t,u,x,a,b⟩).2.1)/\∃F',zD w' p (ay L ⟨k,f,t,u,x,a,b⟩).2.2 F'/\ab F w w'/\∀b,F' b->F b\/w.heap.size<=b)->K r1 r2 w')->Ki (some p) k f t u x a b w K from
  Up _ _ _ _ _ _ _ _ w _<|key _ fun _ _ _ h=>h
 intro K hK
 intro p2 w1 h1
 have b1:=ai.bj h1
 have E1:Pure w w1:=ab.ax h1
 have o2:¬F p2.block:=fun h=>Oi (hP.lt h) h1.cu
 refine Br.f rfl ⟨_,_,_,_,_,_,_,b1.row,?_⟩
 refine(zJR p k f t u x a b w1 (hP.pure E1) hok).mono ?_
 rintro _ w2 ⟨sz,dp,er,rfl,y,E2⟩
 refine⟨_,_,_,rfl,?_⟩
 generalize C:(⟨k,f,t,u,x,a,b⟩:di)=n at *
 have E3:Pure w w2:=E1.trans E2
 have M:∀w',Pure w w'->∃F',zD w' p L F'/\ab F w w'/\∀b,F' b->F b\/w.heap.size<=b:=fun w' E=>⟨F,hP.pure E,E.pure,fun _ h=>.inl h⟩
 refine⟨fun h=>hK _ _ _ ?_,fun h=>?_⟩
 have he:er≠0:=by simpa using h
 have:ay L n=(0,er,L):=by unfold ay;simp[<-y,he]
 rw[this];exact⟨rfl,M _ E3⟩
 have he:er=0:=by simpa using h
 subst he
 intro Z S
 have X:Pure w Z:=by rw[S];exact E3.trans<|ab.drew w2
 have b3:=(b1.pure E2).pure (show Pure w2 Z by rw[S];exact ab.drew w2)
 clear S
 have⟨s,m,hS,hF⟩:=hP.pure X
 refine⟨p,rfl,_,hS.box.cell (i:=1) rfl,_,_,_,_,_,_,_,b3.row,?_⟩
 have D:(Value.agg #[vi k,vi f,vi t,vu u,vs x,vi a,vi b])=mc n:=by rw[<-C];rfl
 simp only[D]
 rcases hS.map.lookup (P:=prog) (T:=157) (E:=73) underlying157 Di C6 ⟨n,rfl⟩ (zeroValue73 _) true with⟨B,o⟩|⟨i,v,hi,o⟩
 refine⟨_,_,o,Br.f rfl ⟨p,rfl,s,hS.box.bf,?_⟩⟩
 have hno:=NK B
 have hfn:=wZ hno
 have hlen:(s.len:Int)=L.length:=by rw[hS.cm.len];simp
 refine⟨fun h=>hK _ _ _ ?_,fun h=>?_⟩
 have h2:65536<=L.length:=by have h:=of_decide_eq_true h;omega
 have:ay L n=(0,6,L):=by unfold ay;simp[<-y,hfn,h2]
 rw[this];exact⟨rfl,M _ X⟩
 have h2:¬65536<=L.length:=by have h:=of_decide_eq_false h;omega
 have hmk:ay L n=((L.length:Int)+1,0,L++[⟨n,sz,dp⟩]):=by unfold ay;simp[<-y,hfn,h2]
 refine⟨fun w'=>w'.cell? p=some s.v/\Row w' p2 (tI n),⟨?_,?_⟩,?_⟩
 exact ab.cell (F:=ar) (ab.drew Z) hS.box.bf id
 rw[<-C];exact ab.row (F:=ar) (ab.drew Z) b3.row id
 intro w4 hw4
 have R:Pure Z w4:=by rw[hw4];exact ab.drew Z
 clear hw4
 have V:Da w4 p L s m:=by
  exact⟨hS.box.pure R,hS.cm.pure R,hS.map.ext R id,hS.n1,hS.n2,hS.n3⟩
 have b4:=b3.pure R
 refine⟨p,rfl,s,fun w' h=>h.1,k,f,t,u,x,a,b,fun w' h=>by have:=h.2;rw[<-C]at this;exact this,?_⟩
 intro p3 w5 h5
 have Y:Pure w4 w5:=ab.ax h5
 have o3:w.heap.size<=p3.block:=av.ak (X.trans R) h5
 have b5:=ai.bj h5
 have z:=V.cm.pure Y
 have d:=V.box.pure Y
 have q:jt w5 m (ig L):=V.map.ext Y id
 have b45:=b4.pure Y
 have hrow:Row w5 p3 (sY ⟨n,sz,dp⟩):=by rw[<-C];exact b5.row
 refine⟨⟨d.bf,by rw[<-C];exact b45.row⟩,?_⟩
 have⟨s1,w6,hr6,l,E7,Q⟩:=z.append (P:=prog) (ty:=158) G8 (c:=1) hrow (by simp[sY,tI]) (by simp[sY,tI,vJ]) So (by simp[maxLen];omega)
 have nb:∀b,s.aq b->b≠p2.block:=fun b hb e=>o2 Gd
 have g:=d.ext E7 hS.n2
 have N:=q.ext E7 hS.n3
 have b6:=b45.ext E7 fun h=>nb _ h rfl
 refine⟨s1,w6,hr6,⟨g.bf,by rw[<-C];exact b6.row⟩,p,rfl,g.gx Sm,?_⟩
 intro J U
 have j:ai J p [s1.v,.map<|some m] 160:=by rw[U];exact g.jh
 have E8:ab (·=p.block) w6 J:=by rw[U];exact ab.setCell p _
 clear U
 have hs1p:¬s1.aq p.block:=fun h=>(Q _ h).elim hS.n2 fun h=>Oh d.lt
 have hs1m:¬s1.aq m:=fun h=>(Q _ h).elim hS.n3 fun h=>Oh q.lt
 have r:=l.ext E8 Gd
 have W:=N.ext E8 hS.n1
 have b7:=b6.ext E8 Gd
 have hl1:(s1.len:Int)=L.length+1:=by rw[l.len];simp
 refine⟨p,rfl,s1,j.bf,?_⟩
 refine⟨fun w'=>w'.cell? (p.add 1)=some (.map<|some m)/\Row w' p2 (tI n),⟨?_,?_⟩,?_⟩
 exact ab.cell (F:=ar) (ab.drew J) (j.cell (i:=1) rfl) id
 rw[<-C];exact ab.row (F:=ar) (ab.drew J) b7.row id
 intro w8 hw8
 have E9:Pure J w8:=by rw[hw8];exact ab.drew J
 clear hw8
 refine⟨p,rfl,some m,fun w' h=>h.1,k,f,t,u,x,a,b,fun w' h=>by have:=h.2;rw[<-C]at this;exact this,?_⟩
 simp only[D];rw[hl1]
 have G:jt w8 m (ig L):=W.ext E9 id
 have⟨w9,hr9,O,I⟩:=G.insert (P:=prog) (v:=vi<|(L.length:Int)+1) underlying157 Di C6 ⟨n,rfl⟩ B
 refine⟨w9,hr9,hK _ _ _ ?_⟩
 rw[hmk]
 have H:=(j.pure E9).ext I fun e=>hS.n1 e.symm
 have A:=(r.pure E9).ext I Gd
 refine⟨rfl,fun b=>b=p.block\/s1.aq b\/b=m,⟨s1,m,⟨H,?_,?_,hS.n1,hs1p,hs1m⟩,fun _=>Iff.rfl⟩,?_,?_⟩
 simpa using A
 rw[RF];simpa using O
 have hF':∀b,F b↔(b=p.block\/s.aq b\/b=m):=hF
 have Ea:ab F w w5:=((X.trans R).trans Y).pure
 have Eb:ab F w w6:=Ea.cg E7 Gd
 have Ec:ab F w J:=Eb.cg E8 Gd
 have Ed:ab F w w8:=Ec.fb E9
 exact Ed.cg I Gd
 intro b hb
 rcases hb with rfl|hb|rfl
 grind
 rcases Q b hb with h|h
 grind
 right;have:=((X.trans R).trans Y).size;omega
 grind
 obtain⟨e,he,hen,rfl⟩:=Ky hi
 refine⟨_,_,o,Br.t rfl (hK _ _ _ ?_)⟩
 have hfd:=Fh hok he
 rw[hen]at hfd
 have:ay L n=((i:Int)+1,0,L):=by unfold ay;simp[<-y,hfd]
 rw[this];exact⟨Sm,M _ X⟩
end Go.Proofs
end
section
open Go.SE
namespace Go.Proofs
def oC(L:aw)(n:Int):Int×Bool:=match find L (zX n)with
 |some i=>((i:Int)+1,true)
 |none=>(0,false)
def Pt{L n i}(h:find L n=some i):i<L.length/\ad L ((i:Int)+1)=n:=by
 unfold find at h;rw[List.findIdx?_eq_some_iff_getElem]at h;have⟨hi,h1,_⟩:=h;refine⟨hi,?_⟩;rw[qN hi];simpa using h1
def OR{L n}(h:(oC L n).2=true):al L (oC L n).1=true/\ad L (oC L n).1=zX n/\∃i,find L (zX n)=some i/\(oC L n).1=(i:Int)+1:=by
 unfold oC at h|-;cases a:find L (zX n)with
 |none=>rw[a]at h;cases h
 |some i =>
  have⟨hi,b⟩:=Pt a
  exact⟨zI.2 ⟨Sy,Sy⟩,b,i,rfl,rfl⟩
def QD{L n i}(h:find L (zX n)=some i):oC L n=((i:Int)+1,true):=by unfold oC;rw[h]
def ei.qf{L K t}(h:ei L K t):K t\/tw (ad L t).kind=true\/((ad L t).kind=4/\ei L K (ad L t).a/\ei L K (ad L t).b)\/((ad L t).kind=5/\ei L K (ad L t).a) \/
  (qY (ad L t).kind=true/\ei L K (ad L t).a/\(oC L<|oG<|ad L t).2=true/\K (oC L<|oG<|ad L t).1):=by
 cases h with
 |seen h=>exact .inl h
 |free h=>exact .inr<|.inl h
 |pR h a b=>exact .inr<|.inr<|.inl ⟨h,a,b⟩
 |ta h a=>exact .inr<|.inr<|.inr<|.inl ⟨h,a⟩
 |sU h a c d=>rw[QD c];exact .inr<|.inr<|.inr<|.inr ⟨h,a,rfl,d⟩
def ei.signed{L K t}(h:qY (ad L t).kind=true)(f:ei L K (ad L t).a)(c:(oC L<|oG<|ad L t).2=true)(b:K (oC L<|oG<|ad L t).1):ei L K t:=by
 have⟨_,_,i,d,e⟩:=OR c;rw[e]at b;exact .sU h f d b
def Vf{k}(h:qY k=true):k≠4/\k≠5/\k≠6/\tw k=false:=by
 simp only[qY,Bool.or_eq_true,beq_iff_eq]at h;rcases h with(rfl|rfl)|rfl<;>decide
def xVq{L}(h:Wf L){t}(ht:al L t=true):tw (ad L t).kind=true\/(ad L t).kind=4\/(ad L t).kind=5\/(ad L t).kind=6\/qY (ad L t).kind=true:=by
 have h1:=(h.node ht).1;unfold zO at h1;simp only at h1;split at h1;cases h1;rename_i hh;simp only[Bool.or_eq_true,Bool.not_eq_true',not_or]at hh;have a:ou (ad L t).kind=true:=by simpa using hh.1.1.1.1
 simp only[ou,Bool.and_eq_true,decide_eq_true_eq]at a;simp only[tw,qY,Bool.or_eq_true,beq_iff_eq];omega
inductive ja(L:aw):Int->Int->Prop
 |refl (t:Int):ja L t t
 |fj {t u k:Int}:ja L t u->k∈zB (ad L u)->ja L t k
def ja.trans{L a b c}(h:ja L a b)(k:ja L b c):ja L a c:=by
 induction k with
 |refl=>exact h
 |fj _ e d=>exact .fj d e
def y4{n}(h:n.kind=4\/n.kind=5\/qY n.kind=true):n.a∈zB n:=by
 simp only[qY,Bool.or_eq_true,beq_iff_eq]at h;rcases h with h|h|(h|h)|h<;>simp[zB,h,bq]
def P4{n}(h:n.kind=4):n.b∈zB n:=by simp[zB,h,bq]
def ly(S:List gy)(t:Int):Nat:=(zH S).idxOf t+if t∈zH S then 0 else t.toNat
def Il{S t}(h:t∈zH S):ly S t<S.length:=by
 have:=List.idxOf_lt_length_iff.2 h;unfold ly;rw[if_pos h];rw[yJ]at this;omega
def Ds{S t}(h:t∉zH S):ly S t=S.length+t.toNat:=by
 unfold ly;rw[if_neg h,List.idxOf_eq_length h,yJ]
def ES{S t a}(h:t∉zH S)(b:1<=a)(c:a<t):ly S a<ly S t:=by
 rw[Ds h];by_cases hm:a∈zH S;have:=Il hm;omega;rw[Ds hm];omega
def ZM{S t a}(h:t∉zH S)(ht:1<=t)(hm:a∈zH S):ly S a<ly S t:=by
 rw[Ds h];have:=Il hm;omega
def Uc{L G S}(h:ny L G S){t r f}(g:(t,(r,f))∈S.map fun v=>(v.t,(v.gz,v.az))):(r=0/\f=0/\t∈G)\/(r≠0/\tH L r f t/\f∈zH S/\ly S f<ly S t):=by
 have⟨v,d,e⟩:=List.mem_map.1 g;obtain⟨i,hi,rfl⟩:=List.getElem_of_mem d;simp only[Prod.mk.injEq]at e;obtain⟨rfl,rfl,rfl⟩:=e;rcases h.tu i hi with n|⟨h1,h2,h3⟩;exact .inl n;right;have a:S[i].az∈zH S:=by
  have⟨y,l,e⟩:=List.mem_map.1 h3;exact List.mem_map.2 ⟨y,List.mem_of_mem_take l,e⟩
 refine⟨h1,h2,a,?_⟩;have c:S[i].t∈zH S:=List.mem_map.2 ⟨_,d,rfl⟩;have b:(zH S).idxOf S[i].t=i:=by
  have⟨j,k,m,o⟩:=IX c;rw[o];have p:(zH S)[j]'(by rw[yJ];exact k)=(zH S)[i]'(by rw[yJ];exact hi):=by simp[zH,m]
  exact(List.getElem_inj h.oE).1 p
 have q:(zH S).idxOf S[i].az<i:=by
  have e:zH S=zH (S.take i)++zH (S.drop i):=by unfold zH;rw[<-List.map_append,List.take_append_drop]
  rw[e,List.idxOf_append,if_pos h3];have:=List.idxOf_lt_length_iff.2 h3;rw[yJ,List.length_take]at this;omega
 unfold ly;rw[if_pos a,if_pos c,b];omega
def jUA{L r u t}(hr:r=1\/r=2\/r=3):FZ L r u t=true↔tH L r u t:=by
 unfold FZ tH;rcases hr with rfl|rfl|rfl<;>simp
def tH.gz{L r u t}(h:tH L r u t):r=1\/r=2\/r=3:=by
 rcases h with⟨h,_⟩|⟨h,_⟩|⟨h,_⟩;exact .inl h;exact .inr<|.inl h;exact .inr<|.inr h
def tm(l:List gl):List (Int×Int):=l.zipIdx.map fun p=>(p.1.t,(p.2:Int))
def MD(l):(tm l).map Prod.fst=l.map gl.t:=by
 unfold tm;rw[List.map_map];show l.zipIdx.map (fun p=>p.1.t)=_;rw[show(fun p:gl×Nat=>p.1.t)=gl.t∘Prod.fst from rfl,<-List.map_map,List.zipIdx_map_fst]
def Mr(l s):tm (l++[s])=tm l++[(s.t,(l.length:Int))]:=by simp[tm,List.zipIdx_append]
def RM{l t v}(h:SE.eu (tm l) t=some v):∃i,∃hi:i<l.length,v=i/\l[i].t=t:=by
 have:=tT h;have⟨q,a,e⟩:=List.mem_map.1 this;have⟨s,i⟩:=q;rw[List.mem_zipIdx_iff_getElem?]at a;have⟨hi,b⟩:=List.getElem?_eq_some_iff.1 a;simp only[Prod.mk.injEq]at e;exact⟨i,hi,e.2.symm,by rw[b];exact e.1⟩
def OF{l t}:SE.eu (tm l) t=none↔t∉l.map gl.t:=by rw[uV,MD]
structure qn(L:aw)(G:List Int)(K:Int->Prop)(l:List gl)(B:List Int):Prop where
 oq:∀i (hi:i<l.length),oq L G (l.take i) l[i]=true
 nd:(l.map gl.t).Nodup
 xy:∀s∈l,ei L K s.t
 Am:∀t∈B,¬ei L K t
def qn.nil(L G K):qn L G K [] []:=⟨fun i hi=>by simp at hi,Sm,Sm,Sm⟩
def qn.sd{L G K l B}(h:qn L G K l B){s}(g:Proofs.oq L G l s=true)(d:s.t∉l.map gl.t)(f:ei L K s.t):qn L G K (l++[s]) B:=by
 refine⟨fun i hi=>?_,?_,fun x a=>?_,h.Am⟩;rw[List.length_append]at hi;simp only[List.length_cons,List.length_nil]at hi;by_cases b:i<l.length;rw[List.getElem_append_left b,List.take_append_of_le_length Om];exact h.oq i b;grind;rw[List.map_append,List.nodup_append];exact⟨h.nd,Sm,fun x a y c e=>by simp at c;subst c;exact d<|e▸a⟩;rcases List.mem_append.1 a with a|a;exact h.xy x a;grind
def qn.jdd{L G K l B}(h:qn L G K l B){t}(ht:¬ei L K t):qn L G K l (B++[t]):=
 ⟨h.oq,h.nd,h.xy,fun x a=>(List.mem_append.1 a).elim (h.Am x) Gd⟩
def YW{L G ba s}(h:oq L G ba s=true):al L s.t=true:=by
 unfold oq at h;split at h;cases h;grind
def qn.ft{L G K l B}(h:qn L G K l B):l.length<=L.length:=by
 have:=xW h.nd (fun t ht=>by
  obtain⟨s,hs,rfl⟩:=List.mem_map.1 ht;obtain⟨i,hi,rfl⟩:=List.getElem_of_mem hs;exact YW<|h.oq i hi)
 simpa using this
def y0{l}{i:Nat}(hi:i<l.length):pz l (i:Int)=l[i].t:=by simp[pz,hi]
def zo{n i}(h:i<n):ahead n (i:Int)=true:=by simp[ahead];omega
def Ji{l M}{i:Nat}(hi:i<l.length):pz (l++M) (i:Int)=l[i].t:=by
 rw[y0 Gd,List.getElem_append_left hi]
end Go.Proofs
end
section
open Go Go.SE List
namespace Go.Proofs
def jj(G:List Int)(t:Int):List Int:=if t∈G then G else G++[t]
def pd(L:aw)(G:List Int)(t:Int):List Int:=if al L t=true then jj G t else G
def AK{G t x}:x∈jj G t↔x∈G\/x=t:=by
 unfold jj;split;grind;simp
def TD{G t}(h:G.Nodup):(jj G t).Nodup:=by
 unfold jj;split;exact h;grind
def rh(L:aw)(S:List gy)(t:Int):Int×Int×Bool×Bool:=
 if al L t=false then(0,0,false,false)
 else if tw (ad L t).kind=true then(0,0,true,true)
 else if(ad L t).kind=4 then((ad L t).a,(ad L t).b,false,true)
 else if(ad L t).kind=5 then((ad L t).a,0,false,true)
 else if(ad L t).kind=6 then(0,0,false,false)
 else((ad L t).a,(oC L<|oG<|ad L t).1,false,(oC L<|oG<|ad L t).2&&decide ((oC L<|oG<|ad L t).1∈zH S))
end Go.Proofs
namespace Go.Proofs
open Tryz
attribute [local irreducible] Calls
def Gt(p:Addr)(n:di)(w0:World){L:aw}{F:NP}(hP:zD w0 p L F)(hok:Ok L):
  cl 127 #[vp<|some p,mc n] w0<|XE fun r ok w'=>(match find L n with|some i=>r=(i:Int)+1/\ok=true|none=>r=0/\ok=false)/\Pure w0 w':=by
 have⟨k,f,t,u,x,a,b⟩:=n
 generalize y:(⟨k,f,t,u,x,a,b⟩:di)=n
 have d:(Value.agg #[vi k,vi f,vi t,vu u,vs x,vi a,vi b])=mc n:=by rw[<-y];rfl
 rw[<-d]
 refine Ve _ _ _ _ _ _ _ _ w0 _ ?_
 intro A h h1
 have b1:=ai.bj h1
 have w:Pure w0 h:=ab.ax h1
 refine Br.f rfl ?_
 rintro _ rfl
 have o:Pure h h.drew:=ab.drew h
 have l:=w.trans o
 have⟨s,m,hS,z⟩:=hP.pure l
 refine⟨p,rfl,_,hS.box.cell (i:=1) rfl,_,_,_,_,_,_,_,(b1.pure o).row,?_⟩
 simp only[d]
 rcases hS.map.lookup (P:=prog) (T:=157) (E:=73) underlying157 Di C6 ⟨n,rfl⟩ (zeroValue73 _) true with⟨g,c⟩|⟨i,v,hi,c⟩
 refine⟨_,_,c,?_,l⟩
 rw[wZ<|NK g];exact⟨rfl,rfl⟩
 obtain⟨e,q,j,rfl⟩:=Ky hi
 refine⟨_,_,c,?_,l⟩
 rw[<-j,Fh hok q];exact⟨Sm,rfl⟩
abbrev tq(p:Addr)(L:aw)(F:NP)(w:World)(n:di)(e:Ending)(w':World):Prop:=
 ∃r1:Int,∃r2:Int,e=.returned (.tuple #[vi r1,vi r2])/\((r1,r2)=((ay L n).1,(ay L n).2.1)/\∃F',zD w' p (ay L n).2.2 F'/\ab F w w'/\∀b,F' b->F b\/w.heap.size<=b)
section
variable (p:Addr) (w0:World) {L:aw} {F:NP} (hP:zD w0 p L F) (hok:Ok L)
include hP hok
def jcM(n):cl 227 #[vp<|some p,vu n] w0 (tq p L F w0 ⟨2,0,0,n,⟨#[]⟩,0,0⟩):=by
 refine jcE _ _ w0 (fun r1 r2 w'=>(r1,r2)=((ay L ⟨2,0,0,n,⟨#[]⟩,0,0⟩).1,(ay L ⟨2,0,0,n,⟨#[]⟩,0,0⟩).2.1)/\∃F',zD w' p (ay L ⟨2,0,0,n,⟨#[]⟩,0,0⟩).2.2 F'/\ab F w0 w'/\∀b,F' b->F b\/w0.heap.size<=b) ?_;refine(rR p _ _ _ _ _ _ _ w0 hP hok).mono ?_;rintro _ a ⟨r1,r2,rfl,h⟩;exact⟨r1,r2,rfl,h⟩
def jbn(n):cl 225 #[vp<|some p,vi n] w0 (tq p L F w0 ⟨1,n,0,0,⟨#[]⟩,0,0⟩):=by
 refine Xh _ _ w0 (fun r1 r2 w'=>(r1,r2)=((ay L ⟨1,n,0,0,⟨#[]⟩,0,0⟩).1,(ay L ⟨1,n,0,0,⟨#[]⟩,0,0⟩).2.1)/\∃F',zD w' p (ay L ⟨1,n,0,0,⟨#[]⟩,0,0⟩).2.2 F'/\ab F w0 w'/\∀b,F' b->F b\/w0.heap.size<=b) ?_;refine(rR p _ _ _ _ _ _ _ w0 hP hok).mono ?_;rintro _ a ⟨r1,r2,rfl,h⟩;exact⟨r1,r2,rfl,h⟩
def TM(a b):cl 232 #[vp<|some p,vi a,vi b] w0 (tq p L F w0 ⟨4,0,0,0,⟨#[]⟩,a,b⟩):=by
 refine Yo _ _ _ w0 (fun r1 r2 w'=>(r1,r2)=((ay L ⟨4,0,0,0,⟨#[]⟩,a,b⟩).1,(ay L ⟨4,0,0,0,⟨#[]⟩,a,b⟩).2.1)/\∃F',zD w' p (ay L ⟨4,0,0,0,⟨#[]⟩,a,b⟩).2.2 F'/\ab F w0 w'/\∀b,F' b->F b\/w0.heap.size<=b) ?_;refine(rR p _ _ _ _ _ _ _ w0 hP hok).mono ?_;rintro _ c ⟨r1,r2,rfl,h⟩;exact⟨r1,r2,rfl,h⟩
def jbb(n a):cl 241 #[vp<|some p,vi n,vi a] w0 (tq p L F w0 ⟨7,n,0,0,⟨#[]⟩,a,0⟩):=by
 refine SM _ _ _ w0 (fun r1 r2 w'=>(r1,r2)=((ay L ⟨7,n,0,0,⟨#[]⟩,a,0⟩).1,(ay L ⟨7,n,0,0,⟨#[]⟩,a,0⟩).2.1)/\∃F',zD w' p (ay L ⟨7,n,0,0,⟨#[]⟩,a,0⟩).2.2 F'/\ab F w0 w'/\∀b,F' b->F b\/w0.heap.size<=b) ?_;refine(rR p _ _ _ _ _ _ _ w0 hP hok).mono ?_;rintro _ c ⟨r1,r2,rfl,h⟩;exact⟨r1,r2,rfl,h⟩
def VE(a):cl 234 #[vp<|some p,vi a] w0 (tq p L F w0 ⟨5,0,0,0,⟨#[]⟩,a,0⟩):=by
 refine Zt _ _ w0 (fun r1 r2 w'=>(r1,r2)=((ay L ⟨5,0,0,0,⟨#[]⟩,a,0⟩).1,(ay L ⟨5,0,0,0,⟨#[]⟩,a,0⟩).2.1)/\∃F',zD w' p (ay L ⟨5,0,0,0,⟨#[]⟩,a,0⟩).2.2 F'/\ab F w0 w'/\∀b,F' b->F b\/w0.heap.size<=b) ?_;refine(rR p _ _ _ _ _ _ _ w0 hP hok).mono ?_;rintro _ c ⟨r1,r2,rfl,h⟩;exact⟨r1,r2,rfl,h⟩
def jcV(n):cl 99 #[vp<|some p,vi n] w0 (tq p L F w0 ⟨6,n,0,0,⟨#[]⟩,0,0⟩):=by
 refine jaz _ _ w0 (fun r1 r2 w'=>(r1,r2)=((ay L ⟨6,n,0,0,⟨#[]⟩,0,0⟩).1,(ay L ⟨6,n,0,0,⟨#[]⟩,0,0⟩).2.1)/\∃F',zD w' p (ay L ⟨6,n,0,0,⟨#[]⟩,0,0⟩).2.2 F'/\ab F w0 w'/\∀b,F' b->F b\/w0.heap.size<=b) ?_;refine(rR p _ _ _ _ _ _ _ w0 hP hok).mono ?_;rintro _ a ⟨r1,r2,rfl,h⟩;exact⟨r1,r2,rfl,h⟩
end
def mw.jaf{w k p G S ks sg sl m}(h:mw w k p G S ks sg m sl){t q w1}(o:av w (.cells #[vi t] 73) q w1)(u:G.length<=1000000):∃s1 f,(Builtin.append_ #[46,46] 46 #[sg.v,(Sl.mk (some q) 1 1).v]).run prog w1=.ok s1.v f/\ab sg.aq w1 f/\zL f (k.add 1) /\
  mw (f.setCell (k.add 1) s1.v) k p (G++[t]) S ks s1 m sl/\ab (KF k sg m sl) w (f.setCell (k.add 1) s1.v)/\∀b,KF k s1 m sl b->KF k sg m sl b\/w.heap.size<=b:=by
 have l:Pure w w1:=ab.ax o
 have h1:=h.pure l
 have⟨s1,f,hr,s,i,a⟩:=h1.jy.append (P:=prog) (ty:=46) (c:=1) sZ (r:=[vi t]) (ai.bj o).row rfl rfl (by rw[vA];omega) (by rw[vA];simp[maxLen];omega)
 have g:=h1.box.ext i h1.n2
 have d:∀b,s1.aq b->sg.aq b\/w.heap.size<=b:=fun b h=>(a b h).imp_right fun h=>Oh l.size
 have n:¬s1.aq k.block:=fun hh=>(d _ hh).elim h.n2 fun hh=>Oh h.box.lt
 have nm:¬s1.aq m:=fun hh=>(d _ hh).elim h.n4 fun hh=>Oh h.seen.lt
 have j:=ab.setCell (w:=f) (k.add 1) s1.v
 rw[zC]at j
 refine⟨s1,f,hr,i,g.eh Sm,⟨g.set 1 s1.v,by rw[show cd (G++[t])=cd G++[[vi t]] by simp[cd]];exact s.ext j fun b a e=>n<|e▸a,((h1.seen.ext i h.n4).ext j h.n1),((h1.pW.ext i fun b h2 h1=>h.n6 b h1 h2).ext j fun b a e=>h.n3<|e▸a),h.n1,n,h.n3,nm,h.n5,fun b h1 h2=>(d b h1).elim (fun h1=>h.n6 b h1 h2) fun hh=>Oh<|h.pW.lt h2⟩,?_,?_⟩
 exact((l.pure (F:=KF k sg m sl)).trans<|i.mono fun b _ a=>.inr<|.inl a).trans (j.mono fun b _ a=>.inl a)
 rintro b (a|a|a|a)
 exact .inl<|.inl a
 exact(d b a).imp_left fun h=>.inr<|.inl h
 exact .inl<|.inr<|.inr<|.inl a
 exact .inl<|.inr<|.inr<|.inr a
def G4(k p t w0){L G S F FP}(h:qI w0 k p G S F)(hP:zD w0 p L FP)(V:Wf L)(Z:∀b,F b->¬ FP b)(n:rm L G S):
  cl 70 #[vp<|some k,vi t] w0<|XB fun r w'=>r=(if al L t=true then 0 else 51)/\∃o F',qI w' k p (pd L G t) o F'/\rm L (pd L G t) o/\ab F w0 w'/\∀b,F' b->F b\/w0.heap.size<=b:=by
 suffices key:∀K:Int->WP,(∀o F' w',qI w' k p (pd L G t) o F'->rm L (pd L G t) o->ab F w0 w'->(∀b,F' b->F b\/w0.heap.size<=b)->K (if al L t=true then 0 else 51) w')->GD (some k) t w0 K from
  Zs _ _ w0 _<|key _ Gd
 intro K B
 unfold GD
 have⟨sg,m,sl,k0,D⟩:=h
 refine Br.f rfl ⟨k,rfl,_,k0.box.bf,?_⟩
 refine(tj p t w0 hP V.ok).mono ?_
 rintro _ w1 ⟨nk,nf,nt,nu,nx,na,nb,ok,rfl,⟨_,rfl⟩,M⟩
 refine⟨_,_,_,_,_,_,_,_,rfl,M.bz,fun R=>?_,fun R=>?_⟩
 have d:al L t=false:=by simpa using R
 intro i j c
 have s:Pure w0 j:=M.au c
 have E:pd L G t=G:=by unfold pd;rw[if_neg<|by simp[d]]
 have:=B S F j (by rw[E];exact⟨sg,m,sl,k0.pure s,D⟩) (by rw[E];exact n) s.pure fun b a=>.inl a
 simpa[d]using this
 have d:al L t=true:=by simpa using R
 have E:pd L G t=jj G t:=by unfold pd;rw[if_pos d]
 rw[E]at B
 simp only[d,if_true]at B
 refine⟨k,rfl,?_⟩
 intro i j c
 have s:Pure w0 j:=M.au c
 have A:=k0.pure s
 have nh:∀b,b<w0.heap.size->¬i b:=fun b a hh=>Oh<|c.old b hh
 have hGn:G.length<=65536:=by have:=xW n.Ez fun t ht=>n.iq t<|n.jy t ht;have:=V.ok.ft;omega
 have y:∀(w:World) (F':NP),qI w k p (jj G t) S F'->ab F w0 w->(∀b,F' b->F b\/w0.heap.size<=b)->af w0 i w i w->(∀b,F' b->¬i b)->cl 134 #[vp<|some k,vi t,.agg #[vi 0,vi 0]] w (fun e C=>e=.returned (.tuple #[])/\aj i w C/\K 0 C):=by
  intro w F' hw Q hf hs hh;have W:∀x∈G,x∈jj G t:=fun x l=>AK.2<|.inl l;have P:zD w p L FP:=hP.ext Q fun b a I=>Z b I a;refine(Tq k p t 0 0 w hw P V (fun b a Y=>?_) (n.tony.mono W) n.sL d<|.inl ⟨rfl,rfl,AK.2<|.inr rfl⟩).mono ?_;rcases hf b a with h1|h1;exact Z b h1 Y;have:=hP.lt Y;omega;rintro _ C ⟨rfl,o,F2,K2,⟨q1,q2,q3,q4⟩,X2,f2⟩;have z:=Q.size;refine⟨rfl,X2.bk fun b a l=>hh b l a,B o F2 C K2 ⟨q1,q2,fun x l=>?_,TD n.Ez⟩ (Q.cg X2 Gd) fun b a=>?_⟩;rcases AK.1 l with l|rfl;exact q4 x<|n.jy x l;exact q3;grind
 refine⟨_,A.box.cell rfl,?_⟩
 refine(V8 sg G t j A.jy.el Om).mono ?_
 rintro _ j ⟨r,rfl,rfl,rfl⟩
 refine⟨_,rfl,aj.refl _,fun u=>?_,fun u=>?_⟩
 have O:t∉G:=by simpa using u
 have g:jj G t=G++[t]:=if_neg O
 refine⟨k,rfl,_,A.box.cell rfl,?_⟩
 intro q v J
 have⟨s1,X,N,X6,H,k6,E6,f6⟩:=A.jaf J Om
 have T:af w0 i v i v:=c.fm.ib (ab.ax J:Pure j v).bz
 have U:∀b,sg.aq b->¬i b:=fun b a=>nh b<|k0.lt<|.inr<|.inl a
 have kk:aj i v X:=X6.bk fun b a l=>U b l a
 refine⟨s1,X,N,kk,k,rfl,H,by rw[zC];exact nh _ k0.box.lt,?_⟩
 rintro _ rfl
 have z3:=s.size
 have z5:j.heap.size<=v.heap.size:=(ab.ax J:Pure j v).size
 refine y _ (KF k s1 m sl) (by rw[g];exact⟨s1,m,sl,k6,fun b=>Iff.rfl⟩) ((s.pure (F:=F)).trans<|E6.mono fun b _ a=>(D b).2 a) Gd ((T.ib kk).ib<|aj.setCell (by rw[zC];exact nh _ k0.box.lt)) fun b a hh=>?_
 rcases f6 b a with h1|h1
 exact nh b (k0.lt h1) hh
 have:=c.lt b hh;omega
 have hG:t∈G:=by simpa using u
 have g:jj G t=G:=if_pos hG
 exact y j F (by rw[g];exact⟨sg,m,sl,A,D⟩) s.pure (fun b a=>.inl a) c.fm fun b a=>nh b<|k0.lt<|(D b).1 a
def Wj(k p t w0){L G S F FP}(h:qI w0 k p G S F)(hP:zD w0 p L FP)(Q:Wf L):
  cl 161 #[vp<|some k,vi t] w0<|XG fun r1 r2 r3 M w'=>(r1,r2,r3,M)=rh L S t/\Pure w0 w':=by
 refine Zc _ _ w0 _ ?_
 unfold P0
 have⟨sg,m,sl,k0,T⟩:=h
 refine⟨k,rfl,_,k0.box.bf,?_⟩
 refine(tj p t w0 hP Q.ok).mono ?_
 rintro _ w1 ⟨c,nf,P,nu,nx,N,Y,ok,rfl,⟨s,rfl⟩,n⟩
 refine⟨_,_,_,_,_,_,_,_,rfl,n.bz,fun D=>?_,fun D=>?_⟩
 intro H1 w3 B
 have o:al L t=false:=by simpa using D
 exact⟨by unfold rh;rw[if_pos o],n.au B⟩
 have o:al L t=true:=by simpa using D
 have hi:¬al L t=false:=by simp[o]
 rintro y1 rfl
 have Z:(cond ((c:Int)==1) ((c:Int)==1)<|cond ((c:Int)==2) ((c:Int)==2)<|(c:Int)==3)=tw c:=by
  unfold tw;cases(c==1)<;>cases(c==2)<;>simp
 rw[Z]
 have f:(ad L t).kind=c:=by rw[<-s]
 have C:(ad L t).az=nf:=by rw[<-s]
 have J:(ad L t).to=P:=by rw[<-s]
 have E:(ad L t).a=N:=by rw[<-s]
 have U:(ad L t).b=Y:=by rw[<-s]
 refine⟨fun h1=>?_,fun h1=>⟨fun u=>?_,fun u=>⟨fun x=>?_,fun x=>⟨fun A=>?_,fun A=>?_⟩⟩⟩⟩
 intro K z e
 exact⟨by unfold rh;rw[if_neg hi,f,if_pos h1],n.au e⟩
 intro K z e
 have d:c=4:=by simpa using u
 exact⟨by unfold rh;rw[if_neg hi,f,if_neg<|by simp[h1],if_pos d,E,U],n.au e⟩
 intro K z e
 have d:¬c=4:=by simpa using u
 have g:c=5:=by simpa using x
 exact⟨by unfold rh;rw[if_neg hi,f,if_neg<|by simp[h1],if_neg d,if_pos g,E],n.au e⟩
 intro K z e
 have d:¬c=4:=by simpa using u
 have g:¬c=5:=by simpa using x
 have l:c=6:=by simpa using A
 exact⟨by unfold rh;rw[if_neg hi,f,if_neg<|by simp[h1],if_neg d,if_neg g,if_pos l],n.au e⟩
 have d:¬c=4:=by simpa using u
 have g:¬c=5:=by simpa using x
 have l:¬c=6:=by simpa using A
 intro H3 R I
 have y:Pure w0 R:=n.au I
 unfold FT
 have X:=k0.pure y
 have v:(cond ((c:Int)==9) P nf)=oG (ad L t):=by
  unfold oG;rw[f,C,J];by_cases V:c=9;subst V;simp;grind
 rw[v]
 have hm:rh L S t=(N,(oC L<|oG<|ad L t).1,false,(oC L<|oG<|ad L t).2&&decide ((oC L<|oG<|ad L t).1∈zH S)):=by
  unfold rh;rw[if_neg hi,f,if_neg<|by simp[h1],if_neg d,if_neg g,if_neg l,E]
 refine⟨k,rfl,_,X.box.bf,?_⟩
 refine(Gt p (zX<|oG<|ad L t) R (hP.pure y) Q.ok).mono ?_
 rintro _ j ⟨r2,r3,rfl,hr,q⟩
 refine⟨r2,r3,rfl,q.bz,?_⟩
 have W:Pure j j.drew:=ab.drew j
 refine⟨fun _=>True,trivial,?_⟩
 rintro _ rfl
 have r:=(y.trans q).trans W
 have H:oC L (oG<|ad L t)=(r2,r3):=by
  unfold oC;cases O:find L (zX<|oG<|ad L t)with
  |none=>rw[O]at hr;simp only at hr;rw[hr.1,hr.2]
  |some i=>rw[O]at hr;simp only at hr;rw[hr.1,hr.2]
 rw[hm,H]
 refine⟨fun h=>?_,fun h=>?_⟩
 subst h
 refine(KD k p r2 j.drew ⟨sg,m,sl,k0.pure r,T⟩).mono ?_
 rintro _ w12 ⟨M,rfl,rfl,w⟩
 exact⟨_,rfl,trivial,w.bz,Sm,r.trans w⟩
 grind
end Go.Proofs
end
section
open Go Go.SE List
namespace Go.Proofs
structure Op where
 code:Int
 a:Int
 b:Int
 num:Int
 bb:ByteArray
deriving DecidableEq
abbrev qo:=Int×Int×aw
def fa(M:List Int)(i:Int):Option Int:=if i<0 then none else M[i.toNat]?
def fh(L:aw)(M:List Int)(i:Int):di:=match fa M i with|none=>xC|some t=>ad L t
def rU(n:Int):Int:=cond (decide (n>2147483648)) (-1)<|IntKind.i64.wrap n
def mn(L:aw):qo:=(0,90,L)
def qA(L:aw)(M:List Int)(o:Op)(mk:Int->Int->di):qo:=
 match fa M o.a with
 |none=>mn L
 |some a=>if(fh L M o.b).kind=6 then ay L (mk (fh L M o.b).az a)else mn L
def sI(L:aw)(M:List Int)(o:Op):qo:=
 match fa M o.a with
 |none=>mn L
 |some a=>match fa M o.b with
  |none=>mn L
  |some b=>ay L ⟨4,0,0,0,⟨#[]⟩,a,b⟩
def te(L:aw)(M:List Int)(o:Op):qo:=
 match fa M o.a with
 |none=>mn L
 |some a=>ay L ⟨5,0,0,0,⟨#[]⟩,a,0⟩
def uZ(L:aw)(G:List Int)(o:Op):qo:=
 match fa G o.a with
 |none=>mn L
 |some a=>(a,0,L)
def uG(L:aw)(M:List Int)(o:Op)(c:Bool):qo:=
 if(fh L M o.a).kind=4 then(if c then(fh L M o.a).b else(fh L M o.a).a,0,L)else mn L
def xN(L:aw)(M:List Int)(o:Op):qo:=
 if qY (fh L M o.a).kind=true then((fh L M o.a).a,0,L)else mn L
def yN(L:aw)(G M:List Int)(o:Op):qo:=
 if o.code=0 then uZ L G o
 else if o.code=1 then ay L ⟨1,o.a,0,0,⟨#[]⟩,0,0⟩
 else if o.code=2 then ay L ⟨2,0,0,o.num,⟨#[]⟩,0,0⟩
 else if o.code=3 then ay L ⟨3,0,0,0,o.bb,0,0⟩
 else if o.code=4 then sI L M o
 else if o.code=5 then te L M o
 else if o.code=6 then uG L M o false
 else if o.code=7 then uG L M o true
 else if o.code=8 then xN L M o
 else if o.code=9 then qA L M o fun k a=>⟨7,k,0,0,⟨#[]⟩,a,0⟩
 else if o.code=10 then qA L M o fun k a=>⟨8,k,rU o.num,0,⟨#[]⟩,a,0⟩
 else if o.code=11 then qA L M o fun k a=>⟨9,rU o.num,k,0,⟨#[]⟩,a,0⟩
 else mn L
def vE(L:aw)(G:List Int)(M:List Int):List Op->List Int×Int×aw
 |[]=>(M,0,L)
 |o :: os=>if(yN L G M o).2.1≠0 then(M,(yN L G M o).2.1,(yN L G M o).2.2)else vE (yN L G M o).2.2 G (M++[(yN L G M o).1]) os
def zV(L:aw)(G:List Int)(l:List Op):Int×Int×Int×aw:=
 if l.length>256 then(0,6,0,L)else if l.length=0 then(0,3,0,L)
 else if(vE L G [] l).2.1≠0 then(0,(vE L G [] l).2.1,(vE L G [] l).1.length,(vE L G [] l).2.2)
 else(((vE L G [] l).1.getLast?).getD 0,0,0,(vE L G [] l).2.2)
def OW{L t}(h:al L t=false):ad L t=xC:=by simp[ad,yI h]
def th{M i}(a:0<=i)(h1:i.toNat<M.length):fa M i=some M[i.toNat]:=by
 unfold fa;rw[if_neg Om,getElem?_eq_getElem h1]
def ui{M i}(h:i<0\/(M.length:Int)<=i):fa M i=none:=by
 unfold fa;split;rfl;rw[getElem?_eq_none];omega
def Je{M i t}(h:fa M i=some t):0<=i/\∃h1:i.toNat<M.length,M[i.toNat]=t:=by
 unfold fa at h;split at h;cases h;exact⟨Om,List.getElem?_eq_some_iff.1 h⟩
def tJ{α:Type}{P:α->Prop}{c:Prop}[Decidable c]{x y:α}(a:P x)(b:P y):P (if c then x else y):=by split<;>assumption
def OU{L}(P:qo->Prop)(h1:∀t e,P (t,e,L))(G M o)(h2:∀n,n.num=0\/n.num=o.num->P (ay L n)):P (yN L G M o):=by
 have c:∀mk:Int->Int->di,(∀k a,(mk k a).num=0)->P (qA L M o mk):=fun mk hm=>by
  unfold qA;split;exact h1 _ _;split;exact h2 _<|.inl<|hm _ _;exact h1 _ _
 have d:P (uZ L G o):=by unfold uZ;split<;>exact h1 _ _
 have f:P (sI L M o):=by
  unfold sI;split;exact h1 _ _;split;exact h1 _ _;exact h2 _<|.inl rfl
 have hh:P (te L M o):=by
  unfold te;split;exact h1 _ _;exact h2 _<|.inl rfl
 have b:∀s,P<|uG L M o s:=fun s=>by unfold uG;split<;>exact h1 _ _
 have hs:P (xN L M o):=by unfold xN;split<;>exact h1 _ _
 unfold yN;refine tJ d<|tJ (h2 _<|.inl rfl)<|tJ (h2 _<|.inr rfl)<|tJ (h2 _<|.inl rfl)<|tJ f<|tJ hh<|tJ (b _)<|tJ (b _)<|tJ hs<|tJ (c _ fun _ _=>rfl)<|tJ (c _ fun _ _=>rfl)<|tJ (c _ fun _ _=>rfl)<|h1 _ _
def EZ{L}(P:qo->Prop)(h1:∀t e,P (t,e,L))(h2:∀n,P<|ay L n)(G M o):P (yN L G M o):=OU P h1 G M o fun n _=>h2 n
def vm{L}(h:Wf L)(G M o):Wf (yN L G M o).2.2:=EZ (fun r=>Wf r.2.2) (fun _ _=>h) (fun n=>uT h n) G M o
def wH(L G M o):∃X,(yN L G M o).2.2=L++X:=EZ (fun r=>∃X,r.2.2=L++X) (fun _ _=>⟨[],Sm⟩) (fun n=>IG L n) G M o
def Iw(G):∀(l:List Op) (L:aw) (M:List Int),Wf L->Wf (vE L G M l).2.2
 |[],_,_,h=>h
 |o :: os,L,M,h=>by
  unfold vE;split;exact vm h G M o;exact Iw G os _ _<|vm h G M o
def LU(G):∀(l:List Op) (L:aw) (M:List Int),∃X,(vE L G M l).2.2=L++X
 |[],L,_=>⟨[],by simp[vE]⟩
 |o :: os,L,M=>by
  unfold vE;split;exact wH L G M o;have⟨X,a⟩:=wH L G M o;have⟨Y,b⟩:=LU G os (yN L G M o).2.2<|M++[(yN L G M o).1];exact⟨X++Y,by rw[b,a,append_assoc]⟩
def EA(G):∀(l:List Op) (L:aw) (M:List Int),(vE L G M l).1.length<=M.length+l.length/\((vE L G M l).2.1=0->(vE L G M l).1.length=M.length+l.length)
 |[],_,_=>⟨Nat.le_refl _,fun _=>rfl⟩
 |o :: os,L,M=>by
  unfold vE;split;grind;have⟨h1,h2⟩:=EA G os (yN L G M o).2.2<|M++[(yN L G M o).1];simp only[length_append,length_cons,length_nil]at h1 h2;simp only[length_cons];exact⟨Om,fun h=>Oh<|h2 h⟩
section
variable {L:aw} {G M:List Int} {o:Op}
def Gi(h:o.code=0):yN L G M o=uZ L G o:=by unfold yN;rw[if_pos h]
def FY(h:o.code=1):yN L G M o=ay L ⟨1,o.a,0,0,⟨#[]⟩,0,0⟩:=by unfold yN;rw[if_neg Om,if_pos h]
def Hj(h:o.code=2):yN L G M o=ay L ⟨2,0,0,o.num,⟨#[]⟩,0,0⟩:=by unfold yN;rw[if_neg Om,if_neg Om,if_pos h]
def Ik(h:o.code=3):yN L G M o=ay L ⟨3,0,0,0,o.bb,0,0⟩:=by unfold yN;rw[if_neg Om,if_neg Om,if_neg Om,if_pos h]
def BU(h:o.code=4):yN L G M o=sI L M o:=by unfold yN;rw[if_neg Om,if_neg Om,if_neg Om,if_neg Om,if_pos h]
def DL(h:o.code=5):yN L G M o=te L M o:=by unfold yN;rw[if_neg Om,if_neg Om,if_neg Om,if_neg Om,if_neg Om,if_pos h]
def EE(h:o.code=6):yN L G M o=uG L M o false:=by unfold yN;rw[if_neg Om,if_neg Om,if_neg Om,if_neg Om,if_neg Om,if_neg Om,if_pos h]
def DZ(h:o.code=7):yN L G M o=uG L M o true:=by unfold yN;rw[if_neg Om,if_neg Om,if_neg Om,if_neg Om,if_neg Om,if_neg Om,if_neg Om,if_pos h]
def Bp(h:o.code=8):yN L G M o=xN L M o:=by unfold yN;rw[if_neg Om,if_neg Om,if_neg Om,if_neg Om,if_neg Om,if_neg Om,if_neg Om,if_neg Om,if_pos h]
def AV(h:o.code=9):yN L G M o=qA L M o (fun k a=>⟨7,k,0,0,⟨#[]⟩,a,0⟩):=by unfold yN;rw[if_neg Om,if_neg Om,if_neg Om,if_neg Om,if_neg Om,if_neg Om,if_neg Om,if_neg Om,if_neg Om,if_pos h]
def Bn(h:o.code=10):yN L G M o=qA L M o (fun k a=>⟨8,k,rU o.num,0,⟨#[]⟩,a,0⟩):=by unfold yN;rw[if_neg Om,if_neg Om,if_neg Om,if_neg Om,if_neg Om,if_neg Om,if_neg Om,if_neg Om,if_neg Om,if_neg Om,if_pos h]
def BD(h:o.code=11):yN L G M o=qA L M o (fun k a=>⟨9,rU o.num,k,0,⟨#[]⟩,a,0⟩):=by unfold yN;rw[if_neg Om,if_neg Om,if_neg Om,if_neg Om,if_neg Om,if_neg Om,if_neg Om,if_neg Om,if_neg Om,if_neg Om,if_neg Om,if_pos h]
def IU(h:fa M o.a=none)(mk:Int->Int->di):qA L M o mk=mn L:=by unfold qA;rw[h]
def Hu(h:(fh L M o.b).kind≠6)(mk:Int->Int->di):qA L M o mk=mn L:=by
 unfold qA;split;rfl;rw[if_neg h]
def CU{i}(h:fa M i=none):fh L M i=xC:=by unfold fh;rw[h]
def jaG(d:4<=o.code)(c:o.code<=11)(h:fa M o.a=none):yN L G M o=mn L:=by
 have b:(fh L M o.a).kind=0:=by rw[CU h];rfl
 rcases(show o.code=4\/o.code=5\/o.code=6\/o.code=7\/o.code=8\/o.code=9\/o.code=10\/o.code=11 by omega)with e|e|e|e|e|e|e|e;rw[BU e];unfold sI;rw[h];rw[DL e];unfold te;rw[h];rw[EE e];unfold uG;rw[b,if_neg Om];rw[DZ e];unfold uG;rw[b,if_neg Om];rw[Bp e];unfold xN;rw[b,if_neg De];rw[AV e,IU h];rw[Bn e,IU h];rw[BD e,IU h]
def PX(c:9<=o.code)(a:o.code<=11)(h:(fh L M o.b).kind≠6):yN L G M o=mn L:=by
 rcases(show o.code=9\/o.code=10\/o.code=11 by omega)with e|e|e;rw[AV e,Hu h];rw[Bn e,Hu h];rw[BD e,Hu h]
def jaC(h:fa M o.b=none)(d:o.code=4\/9<=o.code/\o.code<=11):yN L G M o=mn L:=by
 rcases d with e|⟨c,a⟩;rw[BU e];unfold sI;rw[h];split<;>rfl;exact PX c a (by rw[CU h];decide)
def Ef(h:o.code<0\/11<o.code):yN L G M o=mn L:=by
 unfold yN;rw[if_neg Om,if_neg Om,if_neg Om,if_neg Om,if_neg Om,if_neg Om,if_neg Om,if_neg Om,if_neg Om,if_neg Om,if_neg Om,if_neg Om]
end
def Jb{L:aw}{G M:List Int}{l:List Op}{j:Nat}(a:j<l.length):vE L G M (l.drop j) =
  if(yN L G M l[j]).2.1≠0 then(M,(yN L G M l[j]).2.1,(yN L G M l[j]).2.2)else vE (yN L G M l[j]).2.2 G (M++[(yN L G M l[j]).1]) (l.drop<|j+1):=by
 rw[drop_eq_getElem_cons a,vE]
def BX{L}(h:Wf L)(G l):Wf (zV L G l).2.2.2:=by
 unfold zV
 repeat' split
 .exact h
 .exact h
 .exact Iw G l L [] h
 .exact Iw G l L [] h
end Go.Proofs
end
section
open Go Go.SE List
open Go.IntKind renaming i64 -> q6
namespace Go.Proofs
open Tryz
set_option maxRecDepth 100000
set_option maxHeartbeats 4000000
attribute [local irreducible] bu fw fg dv Calls
attribute [local irreducible] jq W WV WR uC pv ku jn oe ka mm kq ll np my iy ez ij nn kz kp uS xD yC bn ub
def Bo(b:Option Addr)(c:Option Addr)(a:Sl):Int:=(cond ((Option.isNone b) ||(Option.isNone c)) 2<|cond (decide ((a.len:Int)>256)) 6<|cond (((a.len:Int):Int)==0) 3 0)
def Xv(c:Option Addr)(d:Option Addr)(g:Sl)(h:World):cl 107 #[(.pointer c),(.pointer d),g.v] h (fun e w'=>e=.returned (.int .i64<|Bo c d g)/\Pure h w'):=
 jr func107 [((Option.isNone c) ||(Option.isNone d)),(decide ((g.len:Int)>256)),(((g.len:Int):Int)==0)] (fun b=>(vi<|cond (b 0) 2<|cond (b 1) 6<|cond (b 2) 3 0)) fun a=>pj 1 0 [] [2] (fun b=>[(7,(vb<|(Option.isNone c) ||(Option.isNone d)))]) (fun i=>ct 3 3<|pj 0 0 [(Option.isNone c)] [2] (fun b=>[(13,(vb<|(b 0) ||(Option.isNone d)))]) (fun f=>pb 1 0 0 f (fun f=>pe 3 0 f)<|fun f=>pe 3 0 f)<|pe 1 0 i)<|pb 0 0 0 a (fun a=>fe 2 a)<|fun a=>pb 0 5 1 a (fun a=>fe 2 a)<|fun a=>pb 0 5 2 a (fun a=>fe 2 a)<|fun a=>fe 2 a
def Xx(x:Option Addr)(u:World)(K:(Option Nat)->WP):Prop:=∀b k,av u (.cells #[(vp x)] 239) b k->lp k b fun w=>∃a1,w=some a1/\lp k a1 fun v=>∀c l,av k (.cells #[(vp none)] 91) c l->zL l c/\∀s,s=l.setCell c (vp v)->∀a q,av s (.map #[] 0) a q->∃p:World,(Instr.mapUpdate 242 (.map<|some a.block) (vi 0)<|.func (.func 223) #[] #[(vp<|some b)]).run prog q=.ok () p/\∃o:World,(Instr.mapUpdate 242 (.map<|some a.block) (vi 1)<|.func (.func 224) #[] #[(vp<|some c)]).run prog p=.ok () o/\∃m:World,(Instr.mapUpdate 242 (.map<|some a.block) (vi 2)<|.func (.func 226) #[] #[(vp<|some c)]).run prog o=.ok () m/\∃n:World,(Instr.mapUpdate 242 (.map<|some a.block) (vi 3)<|.func (.func 228) #[] #[(vp<|some c)]).run prog m=.ok () n/\∃r:World,(Instr.mapUpdate 242 (.map<|some a.block) (vi 4)<|.func (.func 230) #[] #[(vp<|some b),(vp<|some c)]).run prog n=.ok () r/\∃g:World,(Instr.mapUpdate 242 (.map<|some a.block) (vi 5)<|.func (.func 233) #[] #[(vp<|some b),(vp<|some c)]).run prog r=.ok () g/\∃h:World,(Instr.mapUpdate 242 (.map<|some a.block) (vi 6)<|.func (.func 235) #[] #[(vp<|some b)]).run prog g=.ok () h/\∃d:World,(Instr.mapUpdate 242 (.map<|some a.block) (vi 7)<|.func (.func 237) #[] #[(vp<|some b)]).run prog h=.ok () d/\lp d b fun t=>∃i:World,(Instr.mapUpdate 242 (.map<|some a.block) (vi 8)<|.func (.func 238) #[(vp t)] #[]).run prog d=.ok () i/\∃j:World,(Instr.mapUpdate 242 (.map<|some a.block) (vi 9)<|.func (.func 239) #[] #[(vp<|some b),(vp<|some c)]).run prog i=.ok () j/\∃f:World,(Instr.mapUpdate 242 (.map<|some a.block) (vi 10)<|.func (.func 242) #[] #[(vp<|some b),(vp<|some c)]).run prog j=.ok () f/\∃e:World,(Instr.mapUpdate 242 (.map<|some a.block) (vi 11)<|.func (.func 246) #[] #[(vp<|some b),(vp<|some c)]).run prog f=.ok () e/\K (some a.block) e
def jbv(c1 w0 K)(h:Xx c1 w0 K):
  cl 163 #[(vp c1)] w0<|fun e w'=>∃r1:Option Nat,e=.returned (.map r1)/\K r1 w':=
 cy func163 h<|cf 0<|ld 1<|nc 0<|ld 1<|cf 0<|gr 0<|cf 0<|xe<|es 1<|eo<|xe<|es 1<|eo<|xe<|es 1<|eo<|xe<|es 1<|eo<|xe<|es 1<|eo<|xe<|es 1<|eo<|xe<|es 1<|eo<|xe<|es 1<|eo<|ld 0<|xe<|es 1<|eo<|xe<|es 1<|eo<|xe<|es 1<|eo<|xe<|es 1<|eo<|rr 2
def LJ(t:Sl)(b:Addr)(r2:Option Nat)(n:Int)(D:World)(m:NP)(a:World)(l:Int->NP->WP)(K:Sl->Int->WP):Prop:=Br (decide (n<(t.len:Int))) (∃a1:Addr,At t n 5 a1/\∃o s u p y,Row a a1 [(vi o),(vi s),(vi u),(vu p),(vs y)]/\∀e c,af D m a e c->∃x:Value,∃d,(Instr.lookup 242 (.map r2) (vi o) true).run prog c=.ok (.tuple #[x,(vb d)]) c/\Br (!d) (lx c (b.add 2) fun E=>K E 90 c) (∃(i:FuncId) (h f:Array Value),x=.func (.func i) h f/\(∀args w,(callFunc i args).run prog w=.ok (.enter i args) w)/\Calls prog i (h++#[(.agg #[(vi o),(vi s),(vi u),(vu p),(vs y)])]++f) c (XH fun r3 q g=>aj e c g/\Br (q !=0) (lx g (b.add 2) fun C=>K C q g) (lx g (b.add 2) fun B=>∀r k,av g (.cells #[(vi r3)] 73) r k->∃s1:Sl,∃j:World,(Builtin.append_ #[46,46] 46 #[B.v,(Sl.mk (some r) 1 1).v]).run prog k=.ok s1.v j/\aj e k j/\zL j (b.add 2)/\¬e (b.add 2).block/\∀z,z=j.setCell (b.add 2) s1.v->l (q6.wrap<|n+1) e z)))) (lx a (b.add 2) fun A=>K A 0 a)
def jaa(m:Option Addr)(n:Option Addr)(p:Sl)(f:World)(K:Sl->Int->WP):Prop:=cl 68 #[(vp n)] f fun e k=>∃r1:Sl,e=.returned r1.v/\aj ar f k/\∀h j,av k (.cells #[(vp m),r1.v,Sl.nil.v] 241) h j->cl 163 #[(vp<|some h)] j fun e l=>∃r2:Option Nat,e=.returned (.map r2)/\aj ar j l/\∃(i:Int->NP->WP) (d:Int->World->Nat),i 0 ar l/\∀(g:Int) (b:NP) (a:World),af f b a b a->i g b a->LJ p h r2 g f b a (fun c o w'=>i c o w'/\d c w'<d g a) K
def jam(p1 k1 l1 w0 K)(h:jaa p1 k1 l1 w0 K):
  cl 108 #[(vp p1),(vp k1),l1.v] w0<|XM K:=
 du func108 h<|dw 4 call68<|ot 1<|dw 2 call163<|uw 4 [8,9,23,24] (fun b=>[(25,(vi b))])<|fun {_ _ b}=>fun c=>br 0 1 (ix 1<|gv<|lr 0<|nh 0<|sg 0 0 []<|lh 2 0 []<|ah<|dt<|rn 0<|br 0 7 (ld 4<|rr 2)<|iu 2 0 [] 5<|fo<|fun a=>cv 0 a<|dt<|rt<|iv<|br 0 7 (ld 4<|rr 3)<|ld 5<|ot 1<|dt<|ef 0<|iv<|ow 2<|je 2 1 c)<|ld 4<|rr 2
def O8(d:Option Addr)(e:Option Addr)(f:Sl)(b:World)(K:Int->Int->Int->WP):Prop:=Br (((Bo d e f):Int) !=0) (∀a,af b ar b ar a->K 0 (Bo d e f) 0 a)<|∀a,af b ar b ar a->cl 108 #[(vp d),(vp e),f.v] a (XM fun r1 r2 c=>aj ar a c/\Br (r2 !=0) (K 0 r2 (r1.len:Int) c) (∃a1:Addr,At r1 (q6.wrap<|(r1.len:Int)-1) 1 a1/\li c a1 fun g=>K g 0 0 c))
def VJ(p1 k1 l1 w0 K)(h:O8 p1 k1 l1 w0 K):
  cl 52 #[(vp p1),(vp k1),l1.v] w0<|XJ K:=
 du func52 h<|cp 6 call107 (Xv p1 k1 l1)<|br 0 3 (an<|rr 5)<|an<|im 4 call108<|br 0 7 (rr 7)<|ix 5<|ld 0<|rr 3
def Hx(e:Int)(b:Addr)(d:Bool)(f:World)(H:NP)(w:World)(K:Int->Int->WP):Prop:=Br d (K 0 90 w)<|∀a,af f H w H a->lp a b fun h=>∃a1,h=some a1/\lx a (a1.add 1) fun g=>∃a2:Addr,At g e 1 a2/\li a a2 fun c=>K c 0 a
def PK(i e:Int)(j k:Int)(h:ByteArray)(a:Addr)(c:World)(K:Int->Int->WP):Prop:=Br (decide (e<0)) (∀d b,af c ar c d b->Hx e a true c d b K)<|∀d b,af c ar c d b->lp b a fun f=>∃a3,f=some a3/\lx b (a3.add 1) fun g=>Hx e a (decide (e>=(g.len:Int))) c d b K
def jca(aE aA aB aC aD cap1 w0 K)(h:PK aE aA aB aC aD cap1 w0 K):
  cl 223 #[(.agg #[(vi aE),(vi aA),(vi aB),(vu aC),(vs aD)]),(vp<|some cap1)] w0<|XH K:=
 du func223 h<|nh 0<|ke 2 0 [1,2] (fun a=>[(17,(vb a))]) (fun a H w=>Hx _ _ a _ H w _) (fun b=>dq 0<|lh 1 0 [1]<|br 1 2 (ah<|je 9 0 b)<|lh 1 0 [1]<|ah<|ld 0<|nc 0<|ld 1<|je 3 0 b)<|fun {a}=>br 0 0 (rr 3)<|dq 1<|an<|ld 0<|nc 0<|ld 1<|lh 1 0 [1]<|ix 0<|ld 0<|rr 2
def TO(i f:Int)(j k:Int)(h:ByteArray)(a:Addr)(e:World)(K:Int->Int->WP):Prop:=∀c b,af e ar e c b->lp b a fun g=>cl 225 #[(vp g),(vi f)] b<|XH fun r1 r2 d=>aj c b d/\K r1 r2 d
def Xq(aE aA aB aC aD cap1 w0 K)(h:TO aE aA aB aC aD cap1 w0 K):
  cl 224 #[(.agg #[(vi aE),(vi aA),(vi aB),(vu aC),(vs aD)]),(vp<|some cap1)] w0<|XH K:=
 du func224 h<|nh 0<|ah<|ld 2<|lh 1 0 [1]<|im 0 call225<|rr 4
def Xn(j i:Int)(k f:Int)(h:ByteArray)(a:Addr)(e:World)(K:Int->Int->WP):Prop:=∀c b,af e ar e c b->lp b a fun g=>cl 227 #[(vp g),(vu f)] b<|XH fun r1 r2 d=>aj c b d/\K r1 r2 d
def jbR(aE aA aB aC aD cap1 w0 K)(h:Xn aE aA aB aC aD cap1 w0 K):
  cl 226 #[(.agg #[(vi aE),(vi aA),(vi aB),(vu aC),(vs aD)]),(vp<|some cap1)] w0<|XH K:=
 du func226 h<|nh 0<|ah<|ld 2<|lh 1 0 [3]<|im 0 call227<|rr 4
def Y4(i h:Int)(j k:Int)(f:ByteArray)(a:Addr)(e:World)(K:Int->Int->WP):Prop:=∀c b,af e ar e c b->lp b a fun g=>cl 229 #[(vp g),(vs f)] b<|XH fun r1 r2 d=>aj c b d/\K r1 r2 d
def Ye(aE aA aB aC aD cap1 w0 K)(h:Y4 aE aA aB aC aD cap1 w0 K):
  cl 228 #[(.agg #[(vi aE),(vi aA),(vi aB),(vu aC),(vs aD)]),(vp<|some cap1)] w0<|XH K:=
 du func228 h<|nh 0<|ah<|ld 2<|lh 1 0 [4]<|im 0 call229<|rr 4
def L0(b:Option Addr)(i1:Int)(a:World)(K:Int->Bool->WP):Prop:=Br (decide (i1<0)) (K 0 false a)<|∃a1,b=some a1/\lx a (a1.add 2) fun e=>Br (decide (i1>=(e.len:Int))) (K 0 false a)<|∃a2,b=some a2/\lx a (a2.add 2) fun d=>∃a3:Addr,At d i1 1 a3/\li a a3 fun c=>K c true a
def jcF(c1 i1 w0 K)(h:L0 c1 i1 w0 K):
  cl 231 #[(vp c1),(vi i1)] w0<|XE K:=
 cy func231 h<|br 1 5 (rr 11)<|nc 2<|ld 1<|br 0 3 (rr 3)<|nc 2<|ld 1<|ix 1<|ld 0<|rr 2
def jaZ(u n:Int)(p v:Int)(t:ByteArray)(a d:Addr)(g:World)(K:Int->Int->WP):Prop:=∀c f,af g ar g c f->lp f a fun r=>cl 231 #[(vp r),(vi n)] f fun e i=>∃r1 r2,e=.returned (.tuple #[(vi r1),(vb r2)])/\aj c f i/\lp i a fun q=>cl 231 #[(vp q),(vi p)] i fun e j=>∃r3 k,e=.returned (.tuple #[(vi r3),(vb k)])/\aj c i j/\Br ((!r2) ||(!k)) (∀h b,af g c j h b->K 0 90 b) (∀h b,af g c j h b->lp b d fun o=>cl 232 #[(vp o),(vi r1),(vi r3)] b<|XH fun m s l=>aj h b l/\K m s l)
def SY(aE aA aB aC aD cap1 cap2 w0 K)(h:jaZ aE aA aB aC aD cap1 cap2 w0 K):
  cl 230 #[(.agg #[(vi aE),(vi aA),(vi aB),(vu aC),(vs aD)]),(vp<|some cap1),(vp<|some cap2)] w0<|XH K:=
 du func230 h<|nh 0<|ah<|ld 2<|lh 1 0 [1]<|im 0 call231<|fun {_ r2}=>ld 5<|lh 1 0 [2]<|im 0 call231<|fun {_ c}=>pj 5 0 [(!r2)] [2,6,8] (fun b=>[(29,(vb<|(b 0) ||(!c)))]) (fun a=>pb 1 3 0 a (fun a=>pe 3 0 a)<|fun a=>pe 3 0 a)<|br 0 0 (ah<|rr 3)<|ah<|ld 1<|im 2 call232<|rr 4
def Sx(o j:Int)(n p:Int)(m:ByteArray)(c a:Addr)(g:World)(K:Int->Int->WP):Prop:=∀f d,af g ar g f d->lp d c fun l=>cl 231 #[(vp l),(vi j)] d fun e b=>∃r1 r2,e=.returned (.tuple #[(vi r1),(vb r2)])/\aj f d b/\Br (!r2) (K 0 90 b) (lp b a fun k=>cl 234 #[(vp k),(vi r1)] b<|XH fun r3 i h=>aj f b h/\K r3 i h)
def UR(aE aA aB aC aD cap1 cap2 w0 K)(h:Sx aE aA aB aC aD cap1 cap2 w0 K):
  cl 233 #[(.agg #[(vi aE),(vi aA),(vi aB),(vu aC),(vs aD)]),(vp<|some cap1),(vp<|some cap2)] w0<|XH K:=
 du func233 h<|nh 0<|ah<|ld 2<|lh 1 0 [1]<|im 0 call231<|br 0 7 (rr 3)<|ld 1<|im 1 call234<|rr 4
def Rj(h:Option Addr)(i1:Int)(c:World)(K:Int->Int->Int->Int->ByteArray->Int->Int->Bool->WP):Prop:=∀a d,af c ar c a d->cl 231 #[(vp h),(vi i1)] d fun e b=>∃r1 r2,e=.returned (.tuple #[(vi r1),(vb r2)])/\aj a d b/\Br (!r2) (∀n,af c a b a n->K 0 0 0 0 ⟨#[]⟩ 0 0 false n) (∃a1,h=some a1/\lp b a1 fun q=>cl 109 #[(vp q),(vi r1)] b fun e m=>∃l i o k f p g r3,e=.returned (.tuple #[(Ac l i o k f p g),(vb r3)])/\aj a b m/\∀j,af c a m a j->K l i o k f p g r3 j)
def Sq(c1 i1 w0 K)(h:Rj c1 i1 w0 K):
  cl 289 #[(vp c1),(vi i1)] w0<|fun e w'=>∃a f j g d b i c,e=.returned (.tuple #[(Ac a f j g d b i),(vb c)])/\K a f j g d b i c w':=
 du func289 h<|nh 0<|ah<|im 3 call231<|br 0 7 (sg 2 0 []<|an<|dx 1<|pw 0 [] 7<|ee)<|nc 2<|ld 1<|cc 1 call109<|cj<|dt<|rt<|iv<|sg 2 0 []<|an<|dx 1<|pw 0 [] 7<|ee
def Wx(q:Option Addr)(t m:Int)(s u:Int)(r:ByteArray)(a:Bool)(d:World)(K:Int->Int->WP):Prop:=∀c h,af d ar d c h->cl 289 #[(vp q),(vi m)] h fun e g=>∃i n p o l k j r1,e=.returned (.tuple #[(Ac i n p o l k j),(vb r1)])/\aj c h g/\Br ((!r1) ||(i !=4)) (∀f b,af d c g f b->K 0 90 b) (Br a (∀f b,af d c g f b->K j 0 b)<|∀f b,af d c g f b->K k 0 b)
def jax(c1 aE aA aB aC aD second1 w0 K)(h:Wx c1 aE aA aB aC aD second1 w0 K):
  cl 236 #[(vp c1),(.agg #[(vi aE),(vi aA),(vi aB),(vu aC),(vs aD)]),(vb second1)] w0<|XH K:=
 du func236 h<|nh 0<|lh 4 0 [1]<|ah<|cc 0 call289<|cj<|fun {c}=>dt<|fun {_ r1}=>rt<|iv<|nh 3<|sg 0 0 []<|pj 1 0 [] [2,8] (fun b=>[(17,(vb<|(!r1) ||(c !=4)))]) (fun d=>ct 3 4<|pj 0 0 [(!r1)] [2,8] (fun b=>[(24,(vb<|(b 0) ||(c !=4)))]) (fun a=>pb 1 0 0 a (fun a=>pe 4 0 a)<|fun a=>lh 1 0 []<|pe 2 0 a)<|pe 1 0 d)<|br 0 0 (ah<|rr 3)<|br 0 3 (lh 2 0 [6]<|ah<|rr 2)<|lh 2 0 [5]<|ah<|rr 2
def RA(h g:Int)(i j:Int)(f:ByteArray)(a:Addr)(e:World)(K:Int->Int->WP):Prop:=∀c b,af e ar e c b->lp b a fun k=>cl 236 #[(vp k),(.agg #[(vi h),(vi g),(vi i),(vu j),(vs f)]),(vb false)] b<|XH fun r1 r2 d=>aj c b d/\K r1 r2 d
def jbZ(aE aA aB aC aD cap1 w0 K)(h:RA aE aA aB aC aD cap1 w0 K):
  cl 235 #[(.agg #[(vi aE),(vi aA),(vi aB),(vu aC),(vs aD)]),(vp<|some cap1)] w0<|XH K:=
 du func235 h<|nh 0<|ah<|ld 2<|iu 0 0 [] 5<|im 0 call236<|rr 4
def jcf(h g:Int)(i j:Int)(f:ByteArray)(a:Addr)(e:World)(K:Int->Int->WP):Prop:=∀c b,af e ar e c b->lp b a fun k=>cl 236 #[(vp k),(.agg #[(vi h),(vi g),(vi i),(vu j),(vs f)]),(vb true)] b<|XH fun r1 r2 d=>aj c b d/\K r1 r2 d
def QN(aE aA aB aC aD cap1 w0 K)(h:jcf aE aA aB aC aD cap1 w0 K):
  cl 237 #[(.agg #[(vi aE),(vi aA),(vi aB),(vu aC),(vs aD)]),(vp<|some cap1)] w0<|XH K:=
 du func237 h<|nh 0<|ah<|ld 2<|iu 0 0 [] 5<|im 0 call236<|rr 4
def Wh(p:Option Addr)(s k:Int)(r t:Int)(q:ByteArray)(d:World)(K:Int->Int->WP):Prop:=∀b f,af d ar d b f->cl 289 #[(vp p),(vi k)] f fun e h=>∃c l n m j i o r1,e=.returned (.tuple #[(Ac c l n m j i o),(vb r1)])/\aj b f h/\Br ((!r1) ||(((c !=7)&&(c !=8))&&(c !=9))) (∀g a,af d b h g a->K 0 90 a) (∀g a,af d b h g a->K i 0 a)
def Vd(c1 aE aA aB aC aD w0 K)(h:Wh c1 aE aA aB aC aD w0 K):
  cl 238 #[(vp c1),(.agg #[(vi aE),(vi aA),(vi aB),(vu aC),(vs aD)])] w0<|XH K:=
 du func238 h<|nh 0<|lh 4 0 [1]<|ah<|cc 0 call289<|cj<|fun {a}=>dt<|fun {_ r1}=>rt<|iv<|nh 3<|sg 0 0 []<|pj 1 0 [(!r1)] [6] (fun b=>[(31,(vb<|(b 0) ||(((a !=7)&&(a !=8))&&(a !=9))))]) (fun e=>pb 1 3 0 e (fun e=>pe 14 0 e)<|fun e=>lh 1 0 []<|ct 2 4<|pj 0 0 [(a !=7)] [6,17] (fun b=>[(25,(vb<|(b 0)&&(a !=8)))]) (fun c=>pb 1 0 0 c (fun c=>lh 1 0 []<|pe 2 0 c)<|fun c=>pe 4 0 c)<|ct 1 4<|pj 0 0 [((a !=7)&&(a !=8))] [6,17] (fun b=>[(30,(vb<|(b 0)&&(a !=9)))]) (fun d=>pb 1 0 0 d (fun d=>lh 1 0 []<|pe 2 0 d)<|fun d=>pe 4 0 d)<|pe 1 0 e)<|br 0 0 (ah<|rr 3)<|lh 2 0 [5]<|ah<|rr 2
def TY(o:Option Addr)(B t:Int)(u C:Int)(A:ByteArray)(d:Value)(h:World)(K:Int->Int->WP):Prop:=∀b j,af h ar h b j->cl 231 #[(vp o),(vi t)] j fun e k=>∃r1 r2,e=.returned (.tuple #[(vi r1),(vb r2)])/\aj b j k/\cl 289 #[(vp o),(vi u)] k fun e l=>∃n m x v s z y r3,e=.returned (.tuple #[(Ac n m x v s z y),(vb r3)])/\aj b k l/\Br (((!r2) ||(!r3)) ||(n !=6)) (∀i a,af h b l i a->K 0 90 a) (∃(g:FuncId) (f c:Array Value),d=.func (.func g) f c/\∀i a,af h b l i a->(∀args w,(callFunc g args).run prog w=.ok (.enter g args) w)/\Calls prog g (f++#[(vi m),(vi r1)]++c) a (XH fun q r p=>aj i a p/\K q r p))
def Zg(c1 aE aA aB aC aD how1 w0 K)(h:TY c1 aE aA aB aC aD how1 w0 K):
  cl 240 #[(vp c1),(.agg #[(vi aE),(vi aA),(vi aB),(vu aC),(vs aD)]),how1] w0<|XH K:=
 du func240 h<|nh 0<|lh 4 0 [1]<|ah<|im 0 call231<|fun {_ r2}=>lh 7 0 [2]<|cc 0 call289<|cj<|fun {e}=>dt<|fun {_ r3}=>rt<|iv<|nh 3<|sg 0 0 []<|pj 1 0 [((!r2) ||(!r3))] [2,8,10] (fun b=>[(36,(vb<|(b 0) ||(e !=6)))]) (fun c=>ct 3 3<|pj 0 0 [(!r2)] [2,8,10] (fun b=>[(31,(vb<|(b 0) ||(!r3)))]) (fun a=>pb 1 0 0 a (fun a=>pe 3 0 a)<|fun a=>pe 3 0 a)<|pb 1 1 0 c (fun c=>pe 4 0 c)<|fun c=>lh 1 0 []<|pe 2 0 c)<|br 0 0 (ah<|rr 3)<|lh 3 0 [1]<|fo<|fun d=>ah<|cv 1 d<|dt<|rt<|iv<|rr 4
def Tg(i h:Int)(j l:Int)(g:ByteArray)(c a:Addr)(f:World)(K:Int->Int->WP):Prop:=∀d b,af f ar f d b->lp b c fun m=>lp b a fun k=>cl 240 #[(vp m),(.agg #[(vi i),(vi h),(vi j),(vu l),(vs g)]),(.func (.func 241) #[(vp k)] #[])] b<|XH fun r1 r2 e=>aj d b e/\K r1 r2 e
def SH(aE aA aB aC aD cap1 cap2 w0 K)(h:Tg aE aA aB aC aD cap1 cap2 w0 K):
  cl 239 #[(.agg #[(vi aE),(vi aA),(vi aB),(vu aC),(vs aD)]),(vp<|some cap1),(vp<|some cap2)] w0<|XH K:=
 du func239 h<|nh 0<|ah<|ld 2<|iu 0 0 [] 5<|ld 0<|im 1 call240<|rr 4
def ZO(m k:Int)(n o:Int)(j:ByteArray)(b a:Addr)(l:World)(K:Int->Int->WP):Prop:=∀d c,av l (.cells #[(vi m),(vi k),(vi n),(vu o),(vs j)] 88) d c->lp c b fun p=>∃g i e f h,Row c d [(vi g),(vi i),(vi e),(vu f),(vs h)]/\cl 240 #[(vp p),(.agg #[(vi g),(vi i),(vi e),(vu f),(vs h)]),(.func (.func 243) #[] #[(vp<|some a),(vp<|some d)])] c (XH K)
def Xd(aE aA aB aC aD cap1 cap2 w0 K)(h:ZO aE aA aB aC aD cap1 cap2 w0 K):
  cl 242 #[(.agg #[(vi aE),(vi aA),(vi aB),(vu aC),(vs aD)]),(vp<|some cap1),(vp<|some cap2)] w0<|XH K:=
 cy func242 h<|cf 0<|ld 2<|gv<|lr 0<|lv 1 call240<|rr 4
def Hn(n1:Int):Int:=(cond (decide (n1>2147483648)) (-1)<|q6.wrap n1)
def MP(n1:Int)(c:World):cl 245 #[(.int .u64 n1)] c (fun e w'=>e=.returned (.int .i64<|Hn n1)/\Pure c w'):=
 jr func245 [(decide (n1>2147483648))] (fun b=>(vi<|cond (b 0) (-1)<|q6.wrap n1)) fun a=>pb 0 3 0 a (fun a=>fe 2 a)<|fun a=>fe 4 a
def JJ(c a1:Int)(d b:Addr)(i:World)(K:Int->Int->WP):Prop:=∃a:WP,a i.drew/\∀g,g=i.drew->∃k,(∀w',a w'->w'.cell? d=some (vp k))/\∃j,(∀w',a w'->w'.cell? (b.add 3)=some (vu j))/\cl 245 #[(vu j)] g fun e f=>∃r1,e=.returned (vi r1)/\a f/\aj ar g f/\cl 244 #[(vp k),(vi c),(vi r1),(vi a1)] f (XH fun r2 r3 h=>a h/\aj ar f h/\K r2 r3 h)
def jbq(who1 a1 cap1 cap2 w0 K)(h:JJ who1 a1 cap1 cap2 w0 K):
  cl 243 #[(vi who1),(vi a1),(vp<|some cap1),(vp<|some cap2)] w0<|XH K:=
 du func243 h<|dC 2 [4,6] []<|il 0<|il 2<|mg 1 call245<|Ax 0 call244<|rr 4
def QK(m k:Int)(n o:Int)(j:ByteArray)(b a:Addr)(l:World)(K:Int->Int->WP):Prop:=∀d c,av l (.cells #[(vi m),(vi k),(vi n),(vu o),(vs j)] 88) d c->lp c b fun p=>∃g i e f h,Row c d [(vi g),(vi i),(vi e),(vu f),(vs h)]/\cl 240 #[(vp p),(.agg #[(vi g),(vi i),(vi e),(vu f),(vs h)]),(.func (.func 247) #[] #[(vp<|some a),(vp<|some d)])] c (XH K)
def Sj(aE aA aB aC aD cap1 cap2 w0 K)(h:QK aE aA aB aC aD cap1 cap2 w0 K):
  cl 246 #[(.agg #[(vi aE),(vi aA),(vi aB),(vu aC),(vs aD)]),(vp<|some cap1),(vp<|some cap2)] w0<|XH K:=
 cy func246 h<|cf 0<|ld 2<|gv<|lr 0<|lv 1 call240<|rr 4
def N1(c a1:Int)(d b:Addr)(i:World)(K:Int->Int->WP):Prop:=∃a:WP,a i.drew/\∀g,g=i.drew->∃k,(∀w',a w'->w'.cell? d=some (vp k))/\∃j,(∀w',a w'->w'.cell? (b.add 3)=some (vu j))/\cl 245 #[(vu j)] g fun e f=>∃r1,e=.returned (vi r1)/\a f/\aj ar g f/\cl 248 #[(vp k),(vi r1),(vi c),(vi a1)] f (XH fun r2 r3 h=>a h/\aj ar f h/\K r2 r3 h)
def jcU(who1 a1 cap1 cap2 w0 K)(h:N1 who1 a1 cap1 cap2 w0 K):
  cl 247 #[(vi who1),(vi a1),(vp<|some cap1),(vp<|some cap2)] w0<|XH K:=
 du func247 h<|dC 2 [3,6] []<|il 0<|il 1<|mg 2 call245<|Ax 0 call248<|rr 4
end Go.Proofs
end
section
open Go Go.SE List
namespace Go.Proofs
open Tryz
attribute [local irreducible] Calls
abbrev pr(p:Addr)(F:NP)(w:World)(R:qo)(e:Ending)(w':World):Prop:=
 ∃r1:Int,∃r2:Int,e=.returned (.tuple #[vi r1,vi r2])/\((r1,r2)=(R.1,R.2.1)/\∃F',zD w' p R.2.2 F'/\ab F w w'/\∀b,F' b->F b\/w.heap.size<=b)
section
variable (p:Addr) (w0:World) {L:aw} {F:NP} (hP:zD w0 p L F) (hok:Ok L)
include hP hok
def V2(n t a):cl 244 #[vp<|some p,vi n,vi t,vi a] w0 (tq p L F w0 ⟨8,n,t,0,⟨#[]⟩,a,0⟩):=by
 refine YG _ _ _ _ w0 (fun r1 r2 w'=>(r1,r2)=((ay L ⟨8,n,t,0,⟨#[]⟩,a,0⟩).1,(ay L ⟨8,n,t,0,⟨#[]⟩,a,0⟩).2.1)/\∃F',zD w' p (ay L ⟨8,n,t,0,⟨#[]⟩,a,0⟩).2.2 F'/\ab F w0 w'/\∀b,F' b->F b\/w0.heap.size<=b) ?_;refine(rR p _ _ _ _ _ _ _ w0 hP hok).mono ?_;rintro _ c ⟨r1,r2,rfl,h⟩;exact⟨r1,r2,rfl,h⟩
def Qz(n t a):cl 248 #[vp<|some p,vi n,vi t,vi a] w0 (tq p L F w0 ⟨9,n,t,0,⟨#[]⟩,a,0⟩):=by
 refine RT _ _ _ _ w0 (fun r1 r2 w'=>(r1,r2)=((ay L ⟨9,n,t,0,⟨#[]⟩,a,0⟩).1,(ay L ⟨9,n,t,0,⟨#[]⟩,a,0⟩).2.1)/\∃F',zD w' p (ay L ⟨9,n,t,0,⟨#[]⟩,a,0⟩).2.2 F'/\ab F w0 w'/\∀b,F' b->F b\/w0.heap.size<=b) ?_;refine(rR p _ _ _ _ _ _ _ w0 hP hok).mono ?_;rintro _ c ⟨r1,r2,rfl,h⟩;exact⟨r1,r2,rfl,h⟩
def jcR(x):cl 229 #[vp<|some p,vs x] w0 (tq p L F w0 ⟨3,0,0,0,x,0,0⟩):=by
 refine jco _ _ w0 (fun r1 r2 w'=>(r1,r2)=((ay L ⟨3,0,0,0,x,0,0⟩).1,(ay L ⟨3,0,0,0,x,0,0⟩).2.1)/\∃F',zD w' p (ay L ⟨3,0,0,0,x,0,0⟩).2.2 F'/\ab F w0 w'/\∀b,F' b->F b\/w0.heap.size<=b) ?_;refine(rR p _ _ _ _ _ _ _ w0 hP hok).mono ?_;rintro _ a ⟨r1,r2,rfl,h⟩;exact⟨r1,r2,rfl,h⟩
end
def pD(o:Op):List Value:=[vi o.code,vi o.a,vi o.b,vu o.num,vs o.bb]
def pk(o:Op):Value:=.agg #[vi o.code,vi o.a,vi o.b,vu o.num,vs o.bb]
structure rB(w:World)(c p:Addr)(sg sm:Sl)(G M:List Int):Prop where
 box:ai w c [vp<|some p,sg.v,sm.v] 241
 jy:bg w 73 1 sg (cd G)
 nq:bg w 73 1 sm (cd M)
def GH(c:Addr)(sg sm:Sl)(b:Nat):Prop:=b=c.block\/sg.aq b\/sm.aq b
section
variable {w w':World} {c p:Addr} {sg sm:Sl} {G M:List Int}
def rB.ext{X}(h:rB w c p sg sm G M)(e:ab X w w')(a:∀b,GH c sg sm b->¬X b):rB w' c p sg sm G M:=
 ⟨h.box.ext e<|a _<|.inl rfl,h.jy.ext e fun b d=>a _<|.inr<|.inl d,h.nq.ext e fun b d=>a _<|.inr<|.inr d⟩
def rB.pure(h:rB w c p sg sm G M)(a:Pure w w'):rB w' c p sg sm G M:=h.ext a fun _ _ h=>h
def rB.lt(h:rB w c p sg sm G M){b}(a:GH c sg sm b):b<w.heap.size:=by
 rcases a with rfl|a|a;exact h.box.lt;exact h.jy.lt a;exact h.nq.lt a
end
def Ci{w e s ts}(h:bg w e 1 s (cd ts)){i t}(hi:fa ts i=some t):∃a,At s i 1 a/\w.cell? a=some (vi t):=by
 obtain⟨b,h1,rfl⟩:=Je hi;have⟨a,h2,h3,_⟩:=h.at b (by simpa[cd]using h1);exact⟨a,h2,zi<|by simpa[cd]using h3⟩
section
variable {w0:World} {c p:Addr} {sg sm:Sl} {G M:List Int} (hC:rB w0 c p sg sm G M)
include hC
def Bx(i):cl 231 #[vp<|some c,vi i] w0 (XE fun r ok w'=>(match fa M i with|none=>r=0/\ok=false|some t=>r=t/\ok=true)/\w'=w0):=by
 refine jcF _ _ w0 (fun r ok w'=>(match fa M i with|none=>r=0/\ok=false|some t=>r=t/\ok=true)/\w'=w0) ?_;unfold L0;have f:sm.len=M.length:=by rw[hC.nq.len,vA]
 refine⟨fun h=>?_,fun h=>?_⟩;rw[ui<|.inl<|of_decide_eq_true h];exact⟨⟨rfl,rfl⟩,rfl⟩;have h:=of_decide_eq_false h;refine⟨c,rfl,sm,hC.box.cell rfl,fun h1=>?_,fun h1=>?_⟩;rw[ui<|.inr Gd];exact⟨⟨rfl,rfl⟩,rfl⟩;have h1:=of_decide_eq_false h1;have e:fa M i=some (M[i.toNat]' Om):=th Om Om;have⟨a,b,d⟩:=Ci hC.nq e;refine⟨c,rfl,sm,hC.box.cell rfl,a,b,_,d,?_⟩;rw[e];exact⟨⟨rfl,rfl⟩,rfl⟩
variable {L:aw} {F:NP} (hP:zD w0 p L F) (hok:Ok L)
include hP hok
def HC(i):cl 289 #[vp<|some c,vi i] w0
  (XL fun k f j u x a b r w'=>((⟨k,f,j,u,x,a,b⟩:di)=fh L M i/\(r=false->fh L M i=xC))/\Pure w0 w'):=by
 refine Sq _ _ w0 _ ?_
 intro n q e
 have d:=e.first
 refine(Bx (hC.pure d) i).mono ?_
 rintro _ _ ⟨r,ok,rfl,hr,rfl⟩
 refine⟨_,_,rfl,aj.refl _,?_⟩
 unfold fh
 cases ht:fa M i with
 |none =>
  rw[ht]at hr;obtain⟨rfl,rfl⟩:=hr
  exact Br.t rfl fun w g=>⟨⟨rfl,fun _=>rfl⟩,d.au g⟩
 |some t =>
  rw[ht]at hr;obtain⟨rfl,rfl⟩:=hr
  refine Br.f rfl ⟨c,rfl,some p,(hC.pure d).box.bf,?_⟩
  refine(tj p r _ (hP.pure d) hok).mono ?_
  rintro _ v ⟨k,f,j,u,x,a,b,o,rfl,⟨h1,h2⟩,l⟩
  refine⟨_,_,_,_,_,_,_,_,rfl,l.bz,fun s h=>⟨⟨h1,fun m=>?_⟩,(d.trans l).au h⟩⟩
  exact OW<|h2.symm.trans m
def JN(o s):cl 236 #[vp<|some c,pk o,vb s] w0 (pr p F w0<|uG L M o s):=by
 have⟨l,oa,e,on,g⟩:=o;refine jax _ _ _ _ _ _ _ w0 (fun r1 r2 w'=>(r1,r2)=((uG L M ⟨l,oa,e,on,g⟩ s).1,(uG L M ⟨l,oa,e,on,g⟩ s).2.1)/\∃F',zD w' p (uG L M ⟨l,oa,e,on,g⟩ s).2.2 F'/\ab F w0 w'/\∀b,F' b->F b\/w0.heap.size<=b) ?_;intro q B j;have i:=j.first;refine(HC (hC.pure i) (hP.pure i) hok oa).mono ?_;rintro _ t ⟨k,f,A,u,x,a,b,r,rfl,⟨y,hr⟩,m⟩;refine⟨_,_,_,_,_,_,_,_,rfl,m.bz,?_⟩;have d:∀{H' w'},af w0 q t H' w'->∃F',zD w' p L F'/\ab F w0 w'/\∀b,F' b->F b\/w0.heap.size<=b:=fun hs=>by
  have E:=(i.trans m).au hs;exact⟨F,hP.pure E,E.pure,fun b v=>.inl v⟩
 unfold uG;simp only;rw[<-y]at hr|-;refine⟨fun h=>fun H w hs=>?_,fun h=>?_⟩
 .rw[if_neg]
  .exact⟨rfl,d hs⟩
  .intro n;simp only at n;subst n;have:r=false:=by simpa using h
   have:=hr this;simp[xC]at this
 .have z:k=4:=Gd;rw[if_pos z];refine⟨fun h=>?_,fun h=>?_⟩<;>subst h<;>exact fun H w hs=>⟨rfl,d hs⟩
def jRJ(o):cl 238 #[vp<|some c,pk o] w0 (pr p F w0<|xN L M o):=by
 have⟨s,oa,i,on,j⟩:=o;refine Vd _ _ _ _ _ _ w0 (fun r1 r2 w'=>(r1,r2)=((xN L M ⟨s,oa,i,on,j⟩).1,(xN L M ⟨s,oa,i,on,j⟩).2.1)/\∃F',zD w' p (xN L M ⟨s,oa,i,on,j⟩).2.2 F'/\ab F w0 w'/\∀b,F' b->F b\/w0.heap.size<=b) ?_;intro y J n;have l:=n.first;refine(HC (hC.pure l) (hP.pure l) hok oa).mono ?_;rintro _ I ⟨k,f,K,u,x,a,b,r,rfl,⟨G,hr⟩,v⟩;refine⟨_,_,_,_,_,_,_,_,rfl,v.bz,?_⟩;have e:∀{H' w'},af w0 y I H' w'->∃F',zD w' p L F'/\ab F w0 w'/\∀b,F' b->F b\/w0.heap.size<=b:=fun hs=>by
  have E:=(l.trans v).au hs;exact⟨F,hP.pure E,E.pure,fun b C=>.inl C⟩
 unfold xN;simp only;rw[<-G]at hr|-;have g:qY k=!((((k:Int) !=7)&&((k:Int) !=8))&&((k:Int) !=9)):=by
  unfold qY;by_cases A:k=7<;>by_cases z:k=8<;>by_cases D:k=9<;>simp[bne,A,z,D]
 refine⟨fun h=>fun H w hs=>?_,fun h=>fun H w hs=>?_⟩
 .rw[if_neg]
  .exact⟨rfl,e hs⟩
  .intro q;simp only at q;rw[g]at q;have d:((((k:Int) !=7)&&((k:Int) !=8))&&((k:Int) !=9))=false:=by simpa only[Bool.not_eq_true']using q
   rw[d,Bool.or_false]at h;have m:r=false:=by simpa using h
   have t:=hr m;simp only[xC,di.mk.injEq]at t;rw[t.1]at d;revert d;decide
 .have B : qY k = true:=by
   rw[Bool.or_eq_false_iff]at h;rw[g,h.2];rfl
  rw[if_pos B];exact⟨rfl,e hs⟩
def F6(o f1 fs cs)(mk:Int->Int->di)(I:∀args w,(callFunc f1 args).run prog w=.ok (.enter f1 args) w)(s:∀(k a:Int) (j:World),Pure w0 j->Calls prog f1 (fs++#[vi k,vi a]++cs) j (tq p L F j<|mk k a)):
  cl 240 #[vp<|some c,pk o,.func (.func f1) fs cs] w0<|pr p F w0<|qA L M o mk:=by
 have⟨S,oa,z,on,P⟩:=o
 refine Zg _ _ _ _ _ _ _ w0 _ ?_
 intro B j q
 have g:=q.first
 refine(Bx (hC.pure g) oa).mono ?_
 rintro _ _ ⟨J,A,rfl,d,rfl⟩
 refine⟨_,_,rfl,aj.refl _,?_⟩
 refine(HC (hC.pure g) (hP.pure g) hok z).mono ?_
 rintro _ O ⟨k,f,Q,u,x,a,b,r,rfl,⟨N,hr⟩,v⟩
 refine⟨_,_,_,_,_,_,_,_,rfl,v.bz,?_⟩
 have e:∀{H' w'},af w0 B O H' w'->∃F',zD w' p L F'/\ab F w0 w'/\∀b,F' b->F b\/w0.heap.size<=b:=fun hs=>by
  have E:=(g.trans v).au hs;exact⟨F,hP.pure E,E.pure,fun b i=>.inl i⟩
 unfold qA
 simp only
 rw[<-N]at hr|-
 have l:k=6->r=true:=fun m=>by
  cases r with
  |true=>rfl
  |false=>have:=hr rfl;simp only[xC,di.mk.injEq]at this;omega
 cases ht:fa M oa with
 |none =>
  rw[ht]at d;obtain⟨rfl,rfl⟩:=d
  exact Br.t Sm fun H w hs=>⟨rfl,e hs⟩
 |some t =>
  rw[ht]at d;obtain⟨rfl,rfl⟩:=d
  simp only
  refine⟨fun h=>fun H w hs=>?_,fun h=>?_⟩
  .rw[if_neg]
   .exact⟨rfl,e hs⟩
   .intro m
    rw[l m,m]at h
    revert h;decide
  .have K:k=6:=Gd
   rw[if_pos K]
   refine⟨f1,fs,cs,rfl,fun H w hs=>⟨I,?_⟩⟩
   have E:=(g.trans v).au hs
   refine(s f J w E).mono ?_
   rintro _ R ⟨C,G,rfl,h1,F',y,X,n⟩
   exact⟨C,G,rfl,X.bk fun b i D=>Oi (hs.old b i)<|hP.lt D,h1,F',y,(E.pure (F:=F)).trans X,fun b i=>(n b i).imp_right fun h=>Oh E.size⟩
end
end Go.Proofs
end
section
open Go Go.SE
namespace Go.Proofs
open Tryz
attribute [local irreducible] Calls
def fy(t:bt)(s:Sl):List Value:=[vi t.node.kind,vi t.node.az,vi t.node.to,vu t.node.num,vs t.node.bb,s.v]
inductive cz(S:NP)(w:World):Sl->bt->Prop
 | mk (k f t u : Int) (x : ByteArray) (b : List bt) (s : Sl) (rs : Nat -> Sl) (len : s.len = b.length) (c : b.length <= 9223372036854775807)
   (row:∀i (h:i<b.length),∃a,At s i 6 a/\S a.block/\Row w a (fy b[i]<|rs i)) (fj:∀i (h:i<b.length),cz S w (rs i) b[i]):cz S w s (.mk k f t u x b)
def cz.ext{S F w w' s t}(h:cz S w s t)(j:ab F w w')(d:∀b,S b->¬F b):cz S w' s t:=by
 induction h with
 |mk k f t u x g s rs len c row fj e =>
  exact .mk k f t u x g s rs len c (fun i h=>let ⟨a,h1,h2,h3⟩:=row i h;⟨a,h1,h2,j.row h3<|d _ h2⟩) e
def cz.pure{S w w' s t}(h:cz S w s t)(a:Pure w w'):cz S w' s t:=h.ext a fun _ _ h=>h
def cz.mono{S S' w s t}(h:cz S w s t)(e:∀b,S b->S' b):cz S' w s t:=by
 induction h with
 |mk k f t u x d s rs len a row fj c =>
  exact .mk k f t u x d s rs len a Gd c
def cz.lt{S w s t}(h:cz S w s t):cz (fun b=>S b/\b<w.heap.size) w s t:=by
 induction h with
 |mk k f t u x g s rs len c row fj d =>
  refine .mk k f t u x g s rs len c (fun i h=>let ⟨a,h1,h2,h3⟩:=row i h;⟨a,h1,⟨h2,?_⟩,h3⟩) d
  have:=h3 0 (by simp[fy])
  unfold World.cell? at this
  refine Classical.byContradiction fun e=>?_
  have:w.heap[(a.add 0).block]?=none:=by rw[zC];exact Array.getElem?_eq_none Om
  simp_all[fy]
def Kj(k f t u:Int)(x:ByteArray)(s:Sl)(w:World):
  cl 175 #[.agg #[vi k,vi f,vi t,vu u,vs x,s.v]] w
   (XN fun k' h d e i a b w'=>(⟨k',h,d,e,i,a,b⟩:di)=⟨k,f,t,u,x,0,0⟩/\Pure w w'):=by
 refine RP _ _ _ _ _ _ w _ ?_
 intro j g h1 l m h2
 have c:Pure w g:=ab.ax h1
 have b1:=(ai.bj h1).pure<|ab.ax h2
 refine⟨_,b1.bf,_,b1.cell rfl,_,b1.cell rfl,_,b1.cell rfl,_,b1.cell rfl,?_⟩
 exact bx 7 (ai.bj h2) rfl rfl fun w' b E=>⟨_,_,_,_,_,_,_,b.row,rfl,(c.trans<|ab.ax h2).ak (av.ak c h2) E⟩
def O6(t):∀i n:Int,0<=n->0<=(qO i n t).2:=by
 induction t using bt.ind with
 |h k f t u x a c =>
  have:∀(a:List bt),(∀i (hi:i<a.length),∀j n:Int,0<=n->0<=(qO j n a[i]).2)->∀i e n:Int,0<=n->0<=(vK i e n a).2:=by
   intro a;induction a with
   |nil=>intro _ i e n h;simpa[vK]using h
   |cons t ts b =>
    intro hh i e n h
    unfold vK
    split
    exact b (fun i hi=>hh (i+1)<|by simpa using hi) _ _ _ (hh 0 Sm i n h)
    exact h
  intro i n h
  unfold qO
  split
  exact h
  grind
def MZ{a:List bt}{j:Nat}(b:j<a.length)(i n:Int):vK i 0 n (a.drop j)=vK i (qO i n a[j]).1 (qO i n a[j]).2 (a.drop<|j+1):=by
 rw[List.drop_eq_getElem_cons b,vK,if_pos rfl]
def OY{ks e}(h:e≠0)(i n):vK i e n ks=(e,n):=by
 cases ks<;>simp[vK,h]
def Xm{S:NP}(q:Addr)(hq:¬ S q.block)(T:TypeId)(t:bt):∀(s:Sl) (c seen:Int) (w:World),0<=c->0<=seen->cz S w s t->ai w q [vi seen] T ->
  cl 124 #[.agg (fy t s).toArray,vi c,vp<|some q] w
   (XB fun r w'=>r=(qO c seen t).1/\ai w' q [vi (qO c seen t).2] T/\ab (·=q.block) w w'):=by
 induction t using bt.ind with
 |h k f t u x d ih =>
 intro s c seen w hi0 hn0 hT hB
 suffices key:∀K:Int->WP,(∀r w',(r=(qO c seen<|.mk k f t u x d).1/\ai w' q [vi (qO c seen<|.mk k f t u x d).2] T/\ab (·=q.block) w w')->K r w')->MO k f t u x s c (some q) w K from
  w_L _ _ _ _ _ _ _ _ w _<|key _ fun _ _ h=>h
 intro K C
 intro p1 w1 h1
 have b1:=ai.bj h1
 have W:Pure w w1:=ab.ax h1
 have n1:q.block≠p1.block:=av.ne h1 hB.aq
 have m:=hB.pure W
 have N:=hT.pure W
 refine⟨q,rfl,seen,m.bf,fun h=>?_,fun h=>⟨fun U=>?_,fun U=>?_⟩⟩
 .have h:=of_decide_eq_true h
  have:qO c seen (.mk k f t u x d)=(52,seen):=by rw[qO,if_pos Om]
  rw[this]at C;exact C _ _ ⟨rfl,m,W.pure⟩
 .have h:=of_decide_eq_false h;have U:=of_decide_eq_true U
  have:qO c seen (.mk k f t u x d)=(52,seen):=by rw[qO,if_neg Om,if_pos Om]
  rw[this]at C;exact C _ _ ⟨rfl,m,W.pure⟩
 have h:=of_decide_eq_false h;have U:=of_decide_eq_false U
 have hsp:qO c seen (.mk k f t u x d)=vK (c+1) (yW ⟨k,f,t,u,x,0,0⟩ d.length) (seen+1) d:=by rw[qO,if_neg Om,if_neg Om]
 rw[hsp]at C
 refine⟨q,rfl,seen,m.bf,q,rfl,m.gx Sm,?_⟩
 rw[i64 (n:=seen+1) Om Om]
 intro B H
 have hB2:ai B q [vi<|seen+1] T:=by rw[H];exact m.jh
 have A:ab (·=q.block) w1 B:=by rw[H];exact ab.setCell q _
 clear H
 have b2:=b1.ext A fun e=>n1 e.symm
 have L:=N.ext A fun b hb e=>hq<|e▸hb
 have E2:ab (·=q.block) w B:=W.pure.trans A
 refine⟨_,_,_,_,_,_,b2.row,?_⟩
 refine(Kj _ _ _ _ _ _ B).mono ?_
 rintro _ w3 ⟨k',f',t',u',x',a',b',rfl,Y,y⟩
 cases Y
 refine⟨_,_,_,_,_,_,_,rfl,?_⟩
 intro p2 w4 Q
 have n2:p1.block≠p2.block:=av.ne Q (b2.pure y).aq
 have V:Pure B w4:=y.trans<|ab.ax Q
 have o2:=av.ak y Q
 refine bx 7 (ai.bj Q) rfl rfl fun w5 Z M=>?_
 have G:Pure B w5:=V.ak o2 M
 refine⟨_,_,_,_,_,_,_,Z.row,?_⟩
 refine(Lj _ _ _ _ _ _ _ w5).mono ?_
 rintro _ w6 ⟨s1,s2,s3,s4,X,pe,rfl,⟨hs,hpe⟩,v⟩
 refine⟨_,_,_,_,_,_,rfl,?_⟩
 intro p3 w7 I
 have n3:p2.block≠p3.block:=av.ne I (Z.pure v).aq
 have P:Pure B w7:=(G.trans v).trans<|ab.ax I
 have o3:=av.ak (G.trans v) I
 refine bx 5 (ai.bj I) rfl rfl fun O c3 F=>?_
 have z:Pure B O:=P.ak o3 F
 have d2:=((Z.pure v).pure<|ab.ax I).ext F n3
 have d1:=b2.pure z
 have hB8:=hB2.pure z
 have hT8:=L.pure z
 have E8:ab (·=q.block) w O:=E2.fb z
 clear F P v G M V y A Z b2 b1 L N m h1 Q I
 have hlen:s.len=d.length:=by cases hT;assumption
 have hfit:d.length<=9223372036854775807:=by cases hT;assumption
 have hsh:bq k=⟨s1,s2,s3,s4,X⟩:=hs.symm
 have J3:∀e w',Pure O w'->e=yW ⟨k,f,t,u,x,0,0⟩ d.length->Dx c (some q) p1 e w' K:=by
  intro e w' E g;rw[<-g]at C;refine⟨fun e i w'=>∃j:Nat,i=j/\j<=d.length/\∃n:Int,0<=n/\ab (·=q.block) O w'/\ai w' q [vi n] T/\vK (c+1) e n (d.drop j)=vK (c+1) (yW ⟨k,f,t,u,x,0,0⟩ d.length) (seen+1) d,fun _ i _=>((d.length:Int)-i).toNat,⟨0,rfl,Nat.zero_le _,seen+1,Om,E.pure,hB8.pure E,by rw[g];rfl⟩,?_⟩;rintro p _ wl ⟨j,rfl,hj,n,Y,El,R,o⟩;unfold Mz;have dl:=d1.ext El fun e=>n1 e.symm;have hTl:=hT8.ext El fun b hb e=>hq<|e▸hb;rw[<-g]at o;have J:∀n',vK (c+1) e ((seen:Int)+1) d=(p,n')->n'=n->K p wl:=by
   rintro n' h rfl;refine C _ _ ⟨by rw[h],by rw[h];exact R,E8.trans El⟩
  refine⟨s,dl.cell rfl,fun l=>⟨fun D=>?_,fun D=>?_⟩,fun l=>?_⟩
  .have l:j<d.length:=by have h:=of_decide_eq_true l;omega
   have D:p=0:=by simpa using D
   subst D;cases hTl with
   |mk _ _ _ _ _ _ _ rs len fit row fj =>
   have⟨a,hat,ha,hr⟩:=row j l;refine⟨s,dl.cell rfl,a,hat,_,_,_,_,_,rs j,hr,?_⟩;rw[i64 (n:=c+1) Om Om];refine(ih j l (rs j) (c+1) n wl Om Y (fj j l) R).mono ?_;rintro _ w9 ⟨r,rfl,rfl,hB9,E9⟩;rw[MZ l]at o;refine⟨_,rfl,⟨j+1,?_,l,_,O6 _ _ _ Y,El.trans E9,hB9,by rw[<-g];exact o⟩,?_⟩
   .rw[i64 Om Om];omega
   .show((d.length:Int)-IntKind.i64.wrap ((j:Int)+1)).toNat<((d.length:Int)-(j:Int)).toNat;rw[i64 Om Om];omega
  .have D:p≠0:=by simpa using D
   rw[OY D]at o;exact J _ o.symm rfl
  .have hge:j=d.length:=by have h:=of_decide_eq_false l;omega
   rw[hge,List.drop_length,vK]at o;exact J _ o.symm rfl
 have J2:∀p,p=(if pe=0 then if(d.length:Int)≠X then 53 else 0 else pe)->Bt c (some q) p1 p2 p3 p O K:=by
  intro p he1;have g:yW ⟨k,f,t,u,x,0,0⟩ d.length=if p=0 then zQ ⟨s1,s2,s3,s4,X⟩ ⟨k,f,t,u,x,0,0⟩else p:=by
   unfold yW;simp only[hsh,<-hpe,he1]
  refine⟨fun h=>⟨_,_,_,_,_,c3.row,_,_,_,_,_,_,_,d2.row,?_⟩,fun h=>J3 _ _ (ab.refl _) ?_⟩
  .have h:p=0:=by simpa using h
   refine(OT _ _ _ _ _ _ _ _ _ _ _ _ _).mono ?_;rintro _ w9 ⟨_,rfl,rfl,E9⟩;exact⟨_,rfl,J3 _ _ E9<|by rw[g,if_pos h]⟩
  .grind
 refine⟨fun h=>⟨s,d1.cell rfl,X,c3.cell rfl,fun h5=>J2 _ ?_,fun h5=>J2 _ ?_⟩,fun h=>J2 _ ?_⟩
 .grind
 .grind
 .grind
end Go.Proofs
end
section
open Go Go.SE List
namespace Go.Proofs
open Tryz
attribute [local irreducible] Calls
def MB(w):cl 42 #[] w (XD fun r w'=>∃p,r=some p/\Pure w w'/\∃F,zD w' p [] F/\∀b,F b->w.heap.size<=b):=by
 refine jcH w (fun r w'=>∃p,r=some p/\Pure w w'/\∃F,zD w' p [] F/\∀b,F b->w.heap.size<=b) ?_;intro c g h1 e i h2;have f:Pure w g:=ab.ax h1;have j:jt i c.block []:=(jt.bj h1).ext (ab.ax h2:Pure g i) id;have d:c.block≠e.block:=av.ne h2 h1.Iy;refine⟨e,rfl,f.trans<|ab.ax h2,fun b=>b=e.block\/Sl.nil.aq b\/b=c.block,⟨Sl.nil,c.block,⟨ai.bj h2,by simpa using bg.nil _ _ _,by simpa[ig]using j,d,?_,?_⟩,fun _=>Iff.rfl⟩,?_⟩;rintro⟨a,h,_⟩;cases h;rintro⟨a,h,_⟩;cases h;rintro b (rfl|⟨a,h,_⟩|rfl);exact av.ak f h2;cases h;exact av.ak (ab.refl w) h1
def jZU(L n):ig (L.take n)=(ig L).take n:=by
 apply ext_getElem?;intro i;simp only[ig,getElem?_map,getElem?_zipIdx,getElem?_take];split<;>simp
def Yr(L):(ig L).map (·.1)=(L.map (·.node)).map mc:=by
 apply ext_getElem?;intro i;simp only[ig,getElem?_map,getElem?_zipIdx];cases L[i]?<;>simp
def Qk(p:Addr)(n:Nat)(w:World){L:aw}{F:NP}(hP:zD w p L F)(N:Ok L)(hn:n<=L.length):
  cl 126 #[vp<|some p,vi n] w<|fun e w'=>e=.returned (.tuple #[])/\zD w' p (L.take n) F/\ab F w w':=by
 suffices key:∀K:WP,(∀w',zD w' p (L.take n) F/\ab F w w'->K w')->Gk (some p) n w K from
  Yl _ _ w _<|key _ fun _ h=>h
 intro K hK
 unfold Gk
 have⟨s,m,hS,hF⟩:=hP
 have hfew:=N.ft
 have U:s.len<=s.cap:=by
  have:=hS.cm.len;rcases hS.cm.ak with⟨rfl,_⟩|⟨g,cur,_,_,hc,_⟩;simp[Sl.nil];omega
 have⟨s1,hr1,T⟩:=hS.cm.el.lo (P:=prog) G8 U (k:=.i64) (n:=n) Om (by simpa using hn)
 have Z:s1.len=L.length-n:=by rw[T.len];simp
 refine⟨p,rfl,s,hS.box.bf,s1,hr1,?_⟩
 refine⟨fun x w'=>∃j:Nat,x=j/\j<=L.length-n/\ab (·=m) w w'/\jt w' m ((ig L).take n++(ig L).drop (n+j)),fun x _=>((L.length:Int)-x).toNat,⟨0,rfl,Nat.zero_le _,ab.refl w,by simpa using hS.map⟩,?_⟩
 rintro _ wl ⟨j,rfl,hj,O,D⟩
 have c:=hS.box.ext O hS.n1.symm
 have l:=hS.cm.ext O fun b V e=>hS.n3<|e▸V
 refine⟨fun h=>?_,fun h=>?_⟩
 have r:n+j<L.length:=by have h:=of_decide_eq_true h;omega
 have Y:=T.ext O fun b V e=>hS.n3<|e▸V
 have⟨a,hat,_,hrow⟩:=Y.at_ j So
 generalize he:L[n+j]=e at *
 have ux:Row wl a (sY e):=Gd
 have⟨nd,sz,dp⟩:=e
 have⟨k,f,t,u,x,a1,b1⟩:=nd
 refine⟨a,hat,_,_,_,_,_,_,_,_,_,ux,?_⟩
 intro p2 w1 h1
 have E1:Pure wl w1:=ab.ax h1
 have o1:=av.ak (ab.refl wl) h1
 refine bx 9 (ai.bj h1) rfl rfl fun I b2 E=>?_
 have E2:Pure wl I:=E1.ak o1 E
 refine⟨fun w'=>w'.cell? (p.add 1)=some (.map<|some m)/\Row w' p2 (tI ⟨k,f,t,u,x,a1,b1⟩),⟨(c.pure<|E2.fb<|ab.drew I).cell (i:=1) rfl,?_⟩,?_⟩
 have:Row I p2 (tI ⟨k,f,t,u,x,a1,b1⟩):=fun i hi=>by
  have:=b2.row i (by simp[tI]at hi|-;omega);rw[this];have h7:i<7:=by simpa[tI]using hi
  have:i=0\/i=1\/i=2\/i=3\/i=4\/i=5\/i=6:=Om;rcases this with rfl|rfl|rfl|rfl|rfl|rfl|rfl<;>rfl
 exact ab.row (F:=ar) (ab.drew I) this id
 intro w3 S
 have E3:Pure wl w3:=by rw[S];exact E2.fb<|ab.drew I
 clear S
 refine⟨p,rfl,some m,fun w' h=>h.1,k,f,t,u,x,a1,b1,fun w' h=>h.2,?_⟩
 have hm3:=D.ext E3 id
 have R:(ig L).length=L.length:=by simp[ig]
 have M:(ig L)[n+j]?=some (mc ⟨k,f,t,u,x,a1,b1⟩,vi (n+j+1:Nat)):=by
  simp only[ig,List.getElem?_map,List.getElem?_zipIdx,List.getElem?_eq_getElem r,he];simp
 have A:((ig L).take n++(ig L).drop (n+j))[n]?=some (mc ⟨k,f,t,u,x,a1,b1⟩,vi (n+j+1:Nat)):=by
  have e0:n+j+(n-((ig L).take n).length)=n+j:=by rw[List.length_take];omega
  rw[List.getElem?_append_right Gd,List.getElem?_drop,e0,M]
 have hnd:((ig L).map (·.1)).Nodup:=by
  rw[Yr,List.nodup_iff_pairwise_ne,List.pairwise_map];exact N.oE.imp fun h e=>h<|GX.1 e
 have y:List.Sublist ((ig L).take n++(ig L).drop (n+j)) (ig L):=by
  conv=>rhs;rw[<-List.take_append_drop n (ig L)]
  refine(List.Sublist.refl _).append ?_;have e0:(ig L).drop (n+j)=((ig L).drop n).drop j:=by rw[List.drop_drop]
  rw[e0];exact List.drop_sublist _ _
 have H:(((ig L).take n++(ig L).drop (n+j)).map (·.1)).Nodup:=hnd.sublist<|y.map _
 have⟨w4,hr4,d,E4⟩:=hm3.RD (P:=prog) (Q:=119) (z:=0) underlying157 Di (fun q hq=>C6 q<|y.subset hq) ⟨_,rfl⟩ A (fun i u hi=>by
  have⟨hi1,hi2⟩:=List.getElem?_eq_some_iff.1 hi;have⟨hn1,hn2⟩:=List.getElem?_eq_some_iff.1 A;refine Classical.byContradiction fun J=>?_;have J:=List.pairwise_iff_getElem.1 H;rcases Nat.lt_or_gt_of_ne ‹_› with r|r;grind;exact J n i (by simpa using hn1) (by simpa using hi1) r Gd)
 refine⟨w4,hr4,⟨j+1,?_,Om,(O.trans E3.pure).trans E4,?_⟩,?_⟩
 rw[i64 Om Om];omega
 rw[List.eraseIdx_append_of_length_le (by rw[List.length_take];omega)]at d
 have:n-((ig L).take n).length=0:=by rw[List.length_take];omega
 rw[this]at d
 have hd:((ig L).drop<|n+j).eraseIdx 0=(ig L).drop (n+(j+1)):=by
  rw[List.drop_eq_getElem_cons Om];simp;rfl
 rw[hd]at d;exact d
 show((L.length:Int)-IntKind.i64.wrap ((j:Int)+1)).toNat<((L.length:Int)-(j:Int)).toNat
 rw[i64 Om Om];omega
 have hge:n+j=L.length:=by have h:=of_decide_eq_false h;omega
 have R:(ig L).length=L.length:=by simp[ig]
 rw[hge,<-R,List.drop_length,List.append_nil]at D
 have⟨W,X,o,G⟩:=l.hi (P:=prog) G8 (k:=.i64) (n:=n) Om (by simpa using hn)
 refine⟨p,rfl,s,c.bf,W,X,p,rfl,c.gx Sm,?_⟩
 rintro w5 C
 have B:ai w5 p [W.v,.map<|some m] 160:=by rw[C];exact c.jh
 have E5:ab (·=p.block) wl w5:=by rw[C];exact ab.setCell p _
 clear C
 refine hK _ ⟨⟨W,m,⟨B,?_,?_,hS.n1,fun h=>hS.n2<|(G _).1 h,fun h=>hS.n3<|(G _).1 h⟩,fun b=>by rw[hF b,G b]⟩,?_⟩
 have:=o.ext E5 fun b V e=>hS.n2 Gd
 simpa using this
 rw[jZU];exact D.ext E5 hS.n1
 exact(O.mono Gd).cg E5 Gd
def Oo{n i L t ts}(h:(grow L t).2.1≠0):zZ n i L (t ::ts)=(0,(grow L t).2.1,(grow L t).2.2):=by rw[zZ,if_pos h]
def Ov{n i L t ts}(h:(grow L t).2.1=0):zZ n i L (t ::ts)=zZ (if i=0 then { n with a:=(grow L t).1 }else { n with b:=(grow L t).1 }) (i+1) (grow L t).2.2 ts:=by rw[zZ,if_neg<|by simp[h]]
def bt.u9(t:bt):Prop:=bt.rec (motive_1:=fun _=>Prop) (motive_2:=fun _=>Prop) (fun _ _ _ _ _ a h=>a.length<=2/\h) True (fun _ _ h1 h2=>h1/\h2) t
def A7:List bt->Prop
 |[]=>True
 |t :: ts=>bt.u9 t/\A7 ts
def Hd{k f t u x a}:bt.u9 (.mk k f t u x a)↔a.length<=2/\A7 a:=by
 have:∀a:List bt,(bt.rec_1 (motive_1:=fun _=>Prop) (motive_2:=fun _=>Prop) (fun _ _ _ _ _ a h=>a.length<=2/\h) True (fun _ _ h1 h2=>h1/\h2) a:Prop)=A7 a:=by
  intro a;induction a with
  |nil=>rfl
  |cons t ts b=>show(bt.u9 t/\_)=(bt.u9 t/\_);rw[b]
 show(a.length<=2/\_)↔_;rw[this]
def J0{ks}(h:A7 ks){i}(hi:i<ks.length):bt.u9 ks[i]:=by
 induction ks generalizing i with
 |nil=>simp at hi
 |cons t ts a =>
  cases i with
  |zero=>exact h.1
  |succ i=>exact a h.2 (by simpa using hi)
def Zp{S}(p t):∀(s:Sl) (w:World) (L:aw) (F:NP),bt.u9 t->cz S w s t->zD w p L F->Ok L->(∀b,F b->¬ S b)->(∀b,S b->b<w.heap.size) ->
  cl 125 #[vp<|some p,.agg (fy t s).toArray] w
   (XH fun r1 r2 w'=>(r1,r2)=((grow L t).1,(grow L t).2.1)/\∃F',zD w' p (grow L t).2.2 F'/\ab F w w'/\∀b,F' b->F b\/w.heap.size<=b):=by
 induction t using bt.ind with
 |h k f t u x c ih =>
 intro s w L F h2 hT hP hok hFS hSw
 suffices key:∀K:Int->Int->WP,(∀r1 r2 w',((r1,r2)=((grow L<|.mk k f t u x c).1,(grow L<|.mk k f t u x c).2.1)/\∃F',zD w' p (grow L<|.mk k f t u x c).2.2 F'/\ab F w w'/\∀b,F' b->F b\/w.heap.size<=b)->K r1 r2 w')->ML (some p) k f t u x s w K from
  jaV _ _ _ _ _ _ _ w _<|key _ fun _ _ _ h=>h
 intro K hK
 have⟨hk2,W⟩:=Hd.1 h2
 intro p2 w1 h1
 have b1:=ai.bj h1
 have E1:Pure w w1:=ab.ax h1
 refine⟨_,_,_,_,_,_,b1.row,?_⟩
 refine(Kj _ _ _ _ _ _ w1).mono ?_
 rintro _ w2 ⟨k',f',t',u',x',a',b',rfl,hn,A⟩
 cases hn
 refine⟨_,_,_,_,_,_,_,rfl,?_⟩
 intro d w3 h3
 have E3:Pure w w3:=(E1.trans A).trans<|ab.ax h3
 have o3:=av.ak (E1.trans A) h3
 have n23:p2.block≠d.block:=av.ne h3 (b1.pure A).aq
 refine bx 7 (ai.bj h3) rfl rfl fun w4 b3 N=>?_
 have E4:Pure w w4:=E3.ak o3 N
 have b2:=((b1.pure A).pure<|ab.ax h3).ext N n23
 intro y w5 E
 have E5:Pure w w5:=E4.trans<|ab.ax E
 have o4:=av.ak E4 E
 have n34:d.block≠y.block:=av.ne E b3.aq
 have c3:=b3.pure (ab.ax E:Pure w4 w5)
 have c4:=ai.bj E
 have c2:=b2.pure (ab.ax E:Pure w4 w5)
 refine⟨s,c2.cell rfl,?_⟩
 have hsp:grow L (.mk k f t u x c)=zZ ⟨k,f,t,u,x,0,0⟩ 0 L c:=by rw[grow]
 rw[hsp]at hK
 have hlen:s.len=c.length:=by cases hT;assumption
 refine⟨fun i w'=>∃j:Nat,i=j/\j<=c.length/\∃(nd:di) (g:aw) (F':NP),zZ ⟨k,f,t,u,x,0,0⟩ 0 L c=zZ nd j g (c.drop j)/\Ok g/\zD w' p g F'/\(∀b,F' b->F b\/w.heap.size<=b)/\¬F' d.block/\¬F' y.block/\ab F w w'/\ai w' d (tI nd) 119/\ai w' y [vp<|some<|d.add 5,vp<|some<|d.add 6] 267,fun i _=>((c.length:Int)-i).toNat,
  ⟨0,rfl,Nat.zero_le _,⟨k,f,t,u,x,0,0⟩,L,F,Sm,hok,hP.pure E5,fun b h=>.inl h,fun h=>Oh<|hP.lt h,fun h=>Oh<|hP.lt h,E5.pure,c3,c4⟩,?_⟩
 rintro _ wl ⟨j,rfl,hj,nd,g,F',l,o,Q,D,I,M,Y,d3,d4⟩
 refine⟨fun h=>?_,fun h=>?_⟩
 have q:j<c.length:=by have h:=of_decide_eq_true h;omega
 have hTl:cz S wl s (.mk k f t u x c):=hT.ext Y fun b hs hf=>hFS b hf hs
 have O:∀i (h:i<c.length),∃a r,At s i 6 a/\Row wl a (fy c[i] r)/\cz S wl r c[i]:=by
  cases hTl with
  |mk _ _ _ _ _ _ _ rs len fit row fj=>exact fun i h=>let ⟨a,h1,_,h3⟩:=row i h;⟨a,rs i,h1,h3,fj i h⟩
 have⟨a,r,hat,P,hTk⟩:=O j q
 refine⟨a,hat,_,_,_,_,_,r,P,?_⟩
 intro p5 w6 h6
 have o5:=av.ak (ab.refl wl) h6
 refine bx 6 (ai.bj h6) rfl rfl fun w7 b5 E67=>?_
 have v:Pure wl w7:=ab.ak (ab.ax h6) o5 E67
 refine⟨_,_,_,_,_,r,b5.row,?_⟩
 have hsz:w.heap.size<=wl.heap.size:=Y.size
 refine(ih j q r w7 g F' (J0 W q) (hTk.pure v) (Q.pure v) o Gd fun b hs=>Oi (hSw b hs) v.size).mono ?_
 rintro _ Z ⟨r1,r2,rfl,hr,J,T,E8,C⟩
 have e1:r1=(grow g c[j]).1:=congrArg Prod.fst hr
 have e2:r2=(grow g c[j]).2.1:=congrArg Prod.snd hr
 rw[drop_eq_getElem_cons q]at l
 have B:∀b,J b->F b\/w.heap.size<=b:=fun b H=>(C b H).elim (D b) (fun h=>by right;have:=v.size;omega)
 have U:ab F w Z:=(Y.fb v).cg E8 Gd
 refine⟨_,_,rfl,fun h=>?_,fun h=>?_⟩
 have h:(grow g c[j]).2.1≠0:=by rw[<-e2];simpa using h
 rw[Oo h]at l
 refine hK _ _ _ ?_
 rw[l];exact⟨by rw[e2],J,T,U,B⟩
 have h:(grow g c[j]).2.1=0:=by rw[<-e2];simpa using h
 rw[Ov h]at l
 have q3:=(d3.pure v).ext E8 I
 have q4:=(d4.pure v).ext E8 M
 have hs7:wl.heap.size<=w7.heap.size:=v.size
 have X:¬J d.block:=fun h=>(C _ h).elim I fun h=>Oh<|(d3.pure v).lt
 have n48:¬J y.block:=fun h=>(C _ h).elim M fun h=>Oh<|(d4.pure v).lt
 have R:=(tX c[j] g o).1
 have G : ∀ (m : World) (z : di), z = (if j = 0 then { nd with a:=(grow g c[j]).1 } else { nd with b:=(grow g c[j]).1 }) -> ai m d (tI z) 119 -> ab (· = d.block) Z m ->
   (∃j':Nat,IntKind.i64.wrap ((j:Int)+1)=j'/\j'<=c.length/\∃(nd:di) (g:aw) (F':NP),zZ ⟨k,f,t,u,x,0,0⟩ 0 L c=zZ nd j' g (c.drop j')/\Ok g/\zD m p g F'/\(∀b,F' b->F b\/w.heap.size<=b)/\¬F' d.block/\¬F' y.block/\ab F w m/\ai m d (tI nd) 119/\ai m y [vp<|some<|d.add 5,vp<|some<|d.add 6] 267)/\((c.length:Int)-IntKind.i64.wrap ((j:Int)+1)).toNat<((c.length:Int)-(j:Int)).toNat:=by
  intro m z hnd B9 V
  rw[i64 Om Om]
  refine⟨⟨j+1,Om,q,z,_,J,by rw[l,hnd],R,T.ext V fun b H e=>X<|e▸H,B,X,n48,U.cg V Gd,B9,q4.ext V n34.symm⟩,Om⟩
 have hj2:j=0\/j=1:=Om
 rcases hj2 with rfl|rfl
 refine⟨y,⟨Om,Sm,y,rfl,rfl⟩,some<|d.add 5,q4.bf,d.add 5,rfl,q3.eh<|by simp[tI],?_⟩
 intro m n
 refine G m _ rfl ?_ ?_
 rw[n,e1];exact q3.set 5 _
 rw[n];have:=ab.setCell (w:=Z) (d.add 5)<|vi r1;rw[zC]at this;exact this
 refine⟨y.add 1,⟨Om,Sm,y,rfl,rfl⟩,some<|d.add 6,q4.cell rfl,d.add 6,rfl,q3.eh<|by simp[tI],?_⟩
 intro m n
 refine G m _ rfl ?_ ?_
 rw[n,e1];exact q3.set 6 _
 rw[n];have:=ab.setCell (w:=Z) (d.add 6)<|vi r1;rw[zC]at this;exact this
 have hge:j=c.length:=by have h:=of_decide_eq_false h;omega
 rw[hge,drop_length,zZ]at l
 have⟨k0,f0,t0,u0,x0,a0,b0⟩:=nd
 refine⟨_,_,_,_,_,_,_,d3.row,?_⟩
 refine(rR p k0 f0 t0 u0 x0 a0 b0 wl Q o).mono ?_
 rintro _ m ⟨r1,r2,rfl,hr,F9,hP9,V,hF9⟩
 have hsz:w.heap.size<=wl.heap.size:=Y.size
 refine⟨_,_,rfl,hK _ _ _ ?_⟩
 rw[l]
 exact⟨hr,F9,hP9,Y.cg V fun i hi h=>(D i h).elim id fun h=>Om,fun b H=>(hF9 b H).elim (D b) fun h=>by right;omega⟩
def MN(t):∀i n:Int,(qO i n t).1=0->bt.u9 t:=by
 induction t using bt.ind with
 |h k f t u x a g =>
  have l:∀(a:List bt),(∀i (hi:i<a.length),∀j n:Int,(qO j n a[i]).1=0->bt.u9 a[i])->∀i e n:Int,(vK i e n a).1=0->e=0/\A7 a:=by
   intro a;induction a with
   |nil=>intro _ i e n h;exact⟨by simpa[vK]using h,trivial⟩
   |cons t ts b =>
    intro hh i e n h
    unfold vK at h
    split at h
    rename_i d
    have:=b (fun i hi=>hh (i+1)<|by simpa using hi) _ _ _ h
    exact⟨d,hh 0 Sm i n this.1,this.2⟩
    grind
  intro i n h
  unfold qO at h
  split at h
  cases h
  split at h
  cases h
  have:=l a g _ _ _ h
  refine Hd.2 ⟨?_,this.2⟩
  have c:=this.1
  unfold yW at c
  simp only at c
  have o:=yM k
  by_cases m:zO ⟨k,f,t,u,x,0,0⟩=0
  grind
  grind
def Un{S}(p t s w){L F}(hT:cz S w s t)(hP:zD w p L F)(m:Ok L)(R:∀b,F b->¬ S b)(C:∀b,S b->b<w.heap.size):
  cl 62 #[vp<|some p,.agg (fy t s).toArray] w
   (XH fun r1 r2 w'=>(r1,r2)=((of L t).1,(of L t).2.1)/\∃F',zD w' p (of L t).2.2 F'/\ab F w w'/\∀b,F' b->F b\/w.heap.size<=b):=by
 have⟨k,f,to,u,x,A⟩:=t
 suffices key:∀K:Int->Int->WP,(∀r1 r2 w',((r1,r2)=((of L<|.mk k f to u x A).1,(of L<|.mk k f to u x A).2.1)/\∃F',zD w' p (of L<|.mk k f to u x A).2.2 F'/\ab F w w'/\∀b,F' b->F b\/w.heap.size<=b)->K r1 r2 w')->Kp (some p) k f to u x s w K from
  Z6 _ _ _ _ _ _ _ w _<|key _ fun _ _ _ h=>h
 intro K G
 intro p2 X h1
 have b1:=ai.bj h1
 have E1:Pure w X:=ab.ax h1
 refine Br.f rfl ?_
 intro l V h2
 have E2:Pure w V:=E1.trans<|ab.ax h2
 have Y:=av.ak E1 h2
 have W:=ai.bj h2
 have q:p2.block≠l.block:=av.ne h2 b1.aq
 refine⟨W.gx Sm,?_⟩
 intro B d
 have J:ai B l [vi 0] 3:=by rw[d];exact W.jh
 have i:ab (·=l.block) V B:=by rw[d];exact ab.setCell l _
 clear d
 have E3:Pure w B:=E2.ak Y i
 have b3:=(b1.pure (ab.ax h2:Pure X V)).ext i q
 refine⟨_,_,_,_,_,s,b3.row,?_⟩
 generalize ht:bt.mk k f to u x A=t at *
 have y:(Value.agg #[vi k,vi f,vi to,vu u,vs x,s.v])=.agg (fy t s).toArray:=by rw[<-ht];rfl
 rw[y]
 refine(Xm l Gd _ t s 0 0 B Om Om (hT.pure E3) J).mono ?_
 rintro _ U ⟨r1,rfl,rfl,_,n⟩
 have e:Pure w U:=E3.ak Y n
 have b4:=b3.ext n q
 have I:∀w',Pure w w'->∃F',zD w' p L F'/\ab F w w'/\∀b,F' b->F b\/w.heap.size<=b:=fun w' E=>⟨F,hP.pure E,E.pure,fun _ h=>.inl h⟩
 refine⟨_,rfl,fun h=>?_,fun h=>?_⟩
 have h:(qO 0 0 t).1≠0:=by simpa using h
 have:of L t=(0,(qO 0 0 t).1,L):=by rw[of,if_pos h]
 refine G _ _ _ ?_
 rw[this];exact⟨rfl,I _ e⟩
 have h:(qO 0 0 t).1=0:=by simpa using h
 have r:=hP.pure e
 have⟨s0,m0,z,hF0⟩:=id r
 have P:s0.len=L.length:=by rw[z.cm.len];simp
 refine⟨p,rfl,s0,z.box.bf,_,_,_,_,_,s,b4.row,?_⟩
 rw[y]
 refine(Zp p t s U L F (MN t _ _ h) (hT.pure e) r m R fun b N=>Oi (C b N) e.size).mono ?_
 rintro _ w5 ⟨r1,r2,rfl,hr,H,o,O,T⟩
 have e1:r1=(grow L t).1:=congrArg Prod.fst hr
 have Q:r2=(grow L t).2.1:=congrArg Prod.snd hr
 have hs4:w.heap.size<=U.heap.size:=e.size
 have E5:ab F w w5:=e.pure.trans O
 have a:∀b,H b->F b\/w.heap.size<=b:=fun b N=>(T b N).elim .inl fun h=>.inr Om
 refine⟨_,_,rfl,fun c=>?_,fun c=>?_⟩
 have c:(grow L t).2.1≠0:=by rw[<-Q];simpa using c
 have⟨g,M,Z⟩:=tX t L m
 rw[P]
 refine(Qk p L.length w5 o g (by rw[Z];simp)).mono ?_
 rintro _ w6 ⟨rfl,j,D⟩
 have:of L t=(0,(grow L t).2.1,L):=by rw[of,if_neg<|by simp[h],if_pos c]
 refine⟨rfl,G _ _ _ ?_⟩
 rw[this]
 rw[Z,take_left]at j
 exact⟨by rw[Q],H,j,E5.cg D Gd,a⟩
 have c:(grow L t).2.1=0:=by rw[<-Q];simpa using c
 have:of L t=((grow L t).1,0,(grow L t).2.2):=by rw[of,if_neg<|by simp[h],if_neg<|by simp[c]]
 refine G _ _ _ ?_
 rw[this]
 exact⟨by rw[e1],H,o,E5,a⟩
end Go.Proofs
end
section
open Go Go.SE List
open Go.IntKind renaming i64 -> q6
namespace Go.Proofs
open Tryz
set_option maxRecDepth 100000
set_option maxHeartbeats 4000000
attribute [local irreducible] bu fw fg dv Calls
attribute [local irreducible] jq W WV WR uC pv ku jn oe ka mm kq ll np my iy ez ij nn kz kp uS xD yC bn ub
def N4(gS gT gU:Int)(gV:ByteArray)(gW g d:Bool)(w0:World)(K:Int->Int->Int->Int->ByteArray->Sl->WP):Prop:=∀f w1,av w0 (.cells #[(vi gS),(vi gT),(vu gU),(vs gV),(vb gW)] 35) f w1->∀a w2,av w1 (.cells #[(vi 0),(vi 0),(vi 0),(vu 0),ve,Sl.nil.v] 71) a w2->lu w2 (f.add 2) fun v1=>ls w2 (f.add 3) fun v2=>cl 82 #[(vu v1),(vs v2)] w2 fun e w3=>∃aB aC aD aA aE aU,e=.returned (Aa aB aC aD aA aE aU)/\∀h w4,av w3 (.cells #[(vi 0),(vi 0),(vi 0),(vu 0),ve,Sl.nil.v] 71) h w4->(∀j,j<6->zL w4 (h.add j))/\∀c,c=bd w4 h (Af aB aC aD aA aE aU)->li c f fun w=>Br (w==1) (li c (f.add 1) fun v4=>∃aO aP bN bO aQ cT,Row c h (Af aO aP bN bO aQ cT)/\lb c (f.add 4) fun v5=>cl 83 #[(vi v4),(.agg #[(vi aO),(vi aP),(vi bN),(vu bO),(vs aQ),cT.v]),(vb v5)] c fun e w6=>∃aM aN bB aI aJ eV,e=.returned (Aa aM aN bB aI aJ eV)/\(∀j,j<6->zL w6 (a.add j))/\∀w7,w7=bd w6 a (Af aM aN bB aI aJ eV)->∃aF aG aK aL aH aV,Row w7 a (Af aF aG aK aL aH aV)/\K aF aG aK aL aH aV w7) (Br (w==2) (li c (f.add 1) fun v6=>∃bG bH dM dN bI dO,Row c h (Af bG bH dM dN bI dO)/\cl 84 #[(vi v6),(.agg #[(vi bG),(vi bH),(vi dM),(vu dN),(vs bI),dO.v])] c fun e w8=>∃bJ bK cW cX bC eW,e=.returned (Aa bJ bK cW cX bC eW)/\(∀j,j<6->zL w8 (a.add j))/\∀w9,w9=bd w8 a (Af bJ bK cW cX bC eW)->∃aR aS dP dQ aT eX,Row w9 a (Af aR aS dP dQ aT eX)/\K aR aS dP dQ aT eX w9) (Br (w==3) (∃C1:WP,C1 c.drew/\∀w10,w10=c.drew->∃v7,(∀w',C1 w'->w'.cell? (f.add 2)=some (vu v7))/\cl 86 #[(vs (⟨#[97,98,111,114,116]⟩:ByteArray))] w10 fun e J=>∃bD bE eY eZ bF fA,e=.returned (Aa bD bE eY eZ bF fA)/\C1 J/\cl 87 #[(vu v7)] J fun e w12=>∃bV bW fB fC bX fD,e=.returned (Aa bV bW fB fC bX fD)/\cl 85 #[(.agg #[(vi bD),(vi bE),(vi eY),(vu eZ),(vs bF),fA.v]),(.agg #[(vi bV),(vi bW),(vi fB),(vu fC),(vs bX),fD.v])] w12 fun e w13=>∃dR dS fE fF dT fG,e=.returned (Aa dR dS fE fF dT fG)/\cl 84 #[(vi 0),(.agg #[(vi dR),(vi dS),(vi fE),(vu fF),(vs dT),fG.v])] w13 fun e D=>∃fH fI hU hV fJ hW,e=.returned (Aa fH fI hU hV fJ hW)/\(∀j,j<6->zL D (a.add j))/\∀t,t=bd D a (Af fH fI hU hV fJ hW)->∃aY aZ fK fL bA hX,Row t a (Af aY aZ fK fL bA hX)/\K aY aZ fK fL bA hX t) (Br (w==4) (∃b:WP,b c.drew/\∀T,T=c.drew->∃R,(∀w',b w'->w'.cell? (f.add 1)=some (vi R))/\∃cY cZ hF hG dA hI,(∀w',b w'->Row w' h (Af cY cZ hF hG dA hI))/\∃v9,(∀w',b w'->w'.cell? (f.add 4)=some (vb v9))/\∃bY S Q Y cA fO,(∀w',b w'->Row w' h (Af bY S Q Y cA fO))/\∃i,(∀w',b w'->w'.cell? (f.add 4)=some (vb i))/\cl 86 #[(vs (⟨#[114,101,115,111,108,118,101]⟩:ByteArray))] T fun e u=>∃dU dV fP B P M,e=.returned (Aa dU dV fP B P M)/\b u/\Br v9 (cl 83 #[(vi 0),(.agg #[(vi cY),(vi cZ),(vi hF),(vu hG),(vs dA),hI.v]),(vb g)] u fun e s=>∃dZ eA hJ hK eB hL,e=.returned (Aa dZ eA hJ hK eB hL)/\b s/\Br i (cl 83 #[(vi 1),(.agg #[(vi bY),(vi S),(vi Q),(vu Y),(vs cA),fO.v]),(vb d)] s fun e w19=>∃eC eD hY hZ eE iA,e=.returned (Aa eC eD hY hZ eE iA)/\b w19/\cl 85 #[(.agg #[(vi dZ),(vi eA),(vi hJ),(vu hK),(vs eB),hL.v]),(.agg #[(vi eC),(vi eD),(vi hY),(vu hZ),(vs eE),iA.v])] w19 fun e z=>∃fS fT iB iC fU iD,e=.returned (Aa fS fT iB iC fU iD)/\b z/\cl 85 #[(.agg #[(vi dU),(vi dV),(vi fP),(vu B),(vs P),M.v]),(.agg #[(vi fS),(vi fT),(vi iB),(vu iC),(vs fU),iD.v])] z fun e y=>∃fV fW iE iF fX iG,e=.returned (Aa fV fW iE iF fX iG)/\b y/\cl 84 #[(vi R),(.agg #[(vi fV),(vi fW),(vi iE),(vu iF),(vs fX),iG.v])] y fun e A=>∃fY fZ iH iI gA iJ,e=.returned (Aa fY fZ iH iI gA iJ)/\(∀j,j<6->zL A (a.add j))/\∀m,m=bd A a (Af fY fZ iH iI gA iJ)->∃cB cC iK iL cD iM,Row m a (Af cB cC iK iL cD iM)/\K cB cC iK iL cD iM m) (cl 83 #[(vi 1),(.agg #[(vi bY),(vi S),(vi Q),(vu Y),(vs cA),fO.v]),(vb false)] s fun e H=>∃gB gC iN iO gD iP,e=.returned (Aa gB gC iN iO gD iP)/\b H/\cl 85 #[(.agg #[(vi dZ),(vi eA),(vi hJ),(vu hK),(vs eB),hL.v]),(.agg #[(vi gB),(vi gC),(vi iN),(vu iO),(vs gD),iP.v])] H fun e w25=>∃eF eG iQ iR eH iS,e=.returned (Aa eF eG iQ iR eH iS)/\b w25/\cl 85 #[(.agg #[(vi dU),(vi dV),(vi fP),(vu B),(vs P),M.v]),(.agg #[(vi eF),(vi eG),(vi iQ),(vu iR),(vs eH),iS.v])] w25 fun e x=>∃gE gF iT iU gG iV,e=.returned (Aa gE gF iT iU gG iV)/\b x/\cl 84 #[(vi R),(.agg #[(vi gE),(vi gF),(vi iT),(vu iU),(vs gG),iV.v])] x fun e G=>∃gH gI iW iX gJ iY,e=.returned (Aa gH gI iW iX gJ iY)/\(∀j,j<6->zL G (a.add j))/\∀k,k=bd G a (Af gH gI iW iX gJ iY)->∃cE cF iZ jA cG jB,Row k a (Af cE cF iZ jA cG jB)/\K cE cF iZ jA cG jB k)) (cl 83 #[(vi 0),(.agg #[(vi cY),(vi cZ),(vi hF),(vu hG),(vs dA),hI.v]),(vb false)] u fun e n=>∃eI eJ hM hN eK hO,e=.returned (Aa eI eJ hM hN eK hO)/\b n/\Br i (cl 83 #[(vi 1),(.agg #[(vi bY),(vi S),(vi Q),(vu Y),(vs cA),fO.v]),(vb d)] n fun e F=>∃gK gL jC jD gM jE,e=.returned (Aa gK gL jC jD gM jE)/\b F/\cl 85 #[(.agg #[(vi eI),(vi eJ),(vi hM),(vu hN),(vs eK),hO.v]),(.agg #[(vi gK),(vi gL),(vi jC),(vu jD),(vs gM),jE.v])] F fun e Z=>∃gN gO jF jG gP jH,e=.returned (Aa gN gO jF jG gP jH)/\b Z/\cl 85 #[(.agg #[(vi dU),(vi dV),(vi fP),(vu B),(vs P),M.v]),(.agg #[(vi gN),(vi gO),(vi jF),(vu jG),(vs gP),jH.v])] Z fun e E=>∃jI jJ jK jL jM jN,e=.returned (Aa jI jJ jK jL jM jN)/\b E/\cl 84 #[(vi R),(.agg #[(vi jI),(vi jJ),(vi jK),(vu jL),(vs jM),jN.v])] E fun e w33=>∃jO jP jQ jR jS jT,e=.returned (Aa jO jP jQ jR jS jT)/\(∀j,j<6->zL w33 (a.add j))/\∀l,l=bd w33 a (Af jO jP jQ jR jS jT)->∃cH cI jU jV cJ jW,Row l a (Af cH cI jU jV cJ jW)/\K cH cI jU jV cJ jW l) (cl 83 #[(vi 1),(.agg #[(vi bY),(vi S),(vi Q),(vu Y),(vs cA),fO.v]),(vb false)] n fun e w35=>∃jX jY jZ kA kB kC,e=.returned (Aa jX jY jZ kA kB kC)/\b w35/\cl 85 #[(.agg #[(vi eI),(vi eJ),(vi hM),(vu hN),(vs eK),hO.v]),(.agg #[(vi jX),(vi jY),(vi jZ),(vu kA),(vs kB),kC.v])] w35 fun e w36=>∃kD kE kF kG kH kI,e=.returned (Aa kD kE kF kG kH kI)/\b w36/\cl 85 #[(.agg #[(vi dU),(vi dV),(vi fP),(vu B),(vs P),M.v]),(.agg #[(vi kD),(vi kE),(vi kF),(vu kG),(vs kH),kI.v])] w36 fun e L=>∃kJ kK kL kM kN kO,e=.returned (Aa kJ kK kL kM kN kO)/\b L/\cl 84 #[(vi R),(.agg #[(vi kJ),(vi kK),(vi kL),(vu kM),(vs kN),kO.v])] L fun e w38=>∃kP kQ kR kS kT kU,e=.returned (Aa kP kQ kR kS kT kU)/\(∀j,j<6->zL w38 (a.add j))/\∀p,p=bd w38 a (Af kP kQ kR kS kT kU)->∃cK cL kV kW cM kX,Row p a (Af cK cL kV kW cM kX)/\K cK cL kV kW cM kX p))) (Br (w==5) (∃C3:WP,C3 c.drew/\∀U,U=c.drew->∃v11,(∀w',C3 w'->w'.cell? (f.add 2)=some (vu v11))/\cl 86 #[(vs (⟨#[97,98,111,114,116,101,100]⟩:ByteArray))] U fun e V=>∃kY kZ lA lB lC lD,e=.returned (Aa kY kZ lA lB lC lD)/\C3 V/\cl 87 #[(vu v11)] V fun e w42=>∃lE lF lG lH lI lJ,e=.returned (Aa lE lF lG lH lI lJ)/\cl 85 #[(.agg #[(vi kY),(vi kZ),(vi lA),(vu lB),(vs lC),lD.v]),(.agg #[(vi lE),(vi lF),(vi lG),(vu lH),(vs lI),lJ.v])] w42 fun e w43=>∃lK lL lM lN lO lP,e=.returned (Aa lK lL lM lN lO lP)/\cl 84 #[(vi 2),(.agg #[(vi lK),(vi lL),(vi lM),(vu lN),(vs lO),lP.v])] w43 fun e X=>∃lQ lR lS lT lU lV,e=.returned (Aa lQ lR lS lT lU lV)/\(∀j,j<6->zL X (a.add j))/\∀q,q=bd X a (Af lQ lR lS lT lU lV)->∃dB dC lW lX dD lY,Row q a (Af dB dC lW lX dD lY)/\K dB dC lW lX dD lY q) (Br (w==6) (∃C4:WP,C4 c.drew/\∀I,I=c.drew->∃lZ mA mB mC mD mE,(∀w',C4 w'->Row w' h (Af lZ mA mB mC mD mE))/\cl 86 #[(vs (⟨#[105,110,115,116,101,97,100]⟩:ByteArray))] I fun e W=>∃mF mG mH mI mJ mK,e=.returned (Aa mF mG mH mI mJ mK)/\C4 W/\cl 85 #[(.agg #[(vi mF),(vi mG),(vi mH),(vu mI),(vs mJ),mK.v]),(.agg #[(vi lZ),(vi mA),(vi mB),(vu mC),(vs mD),mE.v])] W fun e w48=>∃mL mM mN mO mP mQ,e=.returned (Aa mL mM mN mO mP mQ)/\cl 84 #[(vi 2),(.agg #[(vi mL),(vi mM),(vi mN),(vu mO),(vs mP),mQ.v])] w48 fun e C=>∃mR mS mT mU mV mW,e=.returned (Aa mR mS mT mU mV mW)/\(∀j,j<6->zL C (a.add j))/\∀r,r=bd C a (Af mR mS mT mU mV mW)->∃mX mY mZ nA nB nC,Row r a (Af mX mY mZ nA nB nC)/\K mX mY mZ nA nB nC r) (∃C5:WP,C5 c.drew/\∀w51,w51=c.drew->∃N,(∀w',C5 w'->w'.cell? (f.add 2)=some (vu N))/\cl 86 #[(vs (⟨#[102,117,108,108]⟩:ByteArray))] w51 fun e O=>∃nD nE nF nG nH nI,e=.returned (Aa nD nE nF nG nH nI)/\C5 O/\cl 87 #[(vu N)] O fun e w53=>∃nJ nK nL nM nN nO,e=.returned (Aa nJ nK nL nM nN nO)/\cl 85 #[(.agg #[(vi nD),(vi nE),(vi nF),(vu nG),(vs nH),nI.v]),(.agg #[(vi nJ),(vi nK),(vi nL),(vu nM),(vs nN),nO.v])] w53 fun e w54=>∃nP nQ nR nS nT nU,e=.returned (Aa nP nQ nR nS nT nU)/\(∀j,j<6->zL w54 (a.add j))/\∀o,o=bd w54 a (Af nP nQ nR nS nT nU)->∃nV nW nX nY nZ oA,Row o a (Af nV nW nX nY nZ oA)/\K nV nW nX nY nZ oA o))))))
def VZ(gS gT gU gV gW first1 second1 w0 K)(h:N4 gS gT gU gV gW first1 second1 w0 K):
  cl 25 #[(.agg #[(vi gS),(vi gT),(vu gU),(vs gV),(vb gW)]),(vb first1),(vb second1)] w0<|fun e w'=>∃d b c f oF a,e=.returned (Aa d b c f oF a)/\K d b c f oF a w':=
 cy func25 h<|cf 0<|cf 0<|ld 1<|ld 1<|lk 0 call82<|cf 0<|dh 0<|ld 1<|br 0 2 (ld 2<|cj<|lr 0<|ld 1<|lk 0 call83<|dh 0<|dx 0<|cj<|gj<|ee)<|br 0 3 (ld 2<|cj<|lr 0<|lk 0 call84<|dh 0<|dx 0<|cj<|gj<|ee)<|br 0 3 (sE 1 [0,3,4,5,6] [3,4,5,6]<|il 1<|cc 0 call86<|cj<|rt<|j9<|lk 0 call87<|lk 0 call85<|lk 0 call84<|dh 0<|dx 0<|cj<|gj<|ee)<|br 0 3 (sE 1 [2,9,16,17,18,19,20] [19,20]<|il 1<|cj<|zs 0<|il 1<|cj<|zs 0<|il 1<|cc 0 call86<|cj<|rt<|j9<|br 1 1 (cc 2 call83<|cj<|rt<|j9<|br 1 1 (cc 2 call83<|cj<|rt<|j9<|cc 0 call85<|cj<|rt<|j9<|cc 0 call85<|cj<|rt<|j9<|lk 0 call84<|dh 0<|dx 0<|cj<|gj<|ee)<|cc 2 call83<|cj<|rt<|j9<|cc 0 call85<|cj<|rt<|j9<|cc 0 call85<|cj<|rt<|j9<|lk 0 call84<|dh 0<|dx 0<|cj<|gj<|ee)<|cc 2 call83<|cj<|rt<|j9<|br 1 1 (cc 2 call83<|cj<|rt<|j9<|cc 0 call85<|cj<|rt<|j9<|cc 0 call85<|cj<|rt<|j9<|lk 0 call84<|dh 0<|dx 0<|cj<|gj<|ee)<|cc 2 call83<|cj<|rt<|j9<|cc 0 call85<|cj<|rt<|j9<|cc 0 call85<|cj<|rt<|j9<|lk 0 call84<|dh 0<|dx 0<|cj<|gj<|ee)<|br 0 3 (sE 1 [0,3,4,5,6] [3,4,5,6]<|il 1<|cc 0 call86<|cj<|rt<|j9<|lk 0 call87<|lk 0 call85<|lk 0 call84<|dh 0<|dx 0<|cj<|gj<|ee)<|br 0 3 (sE 1 [0,2,3,4] [2,3,4]<|cj<|zs 0<|cc 0 call86<|cj<|rt<|j9<|lk 0 call85<|lk 0 call84<|dh 0<|dx 0<|cj<|gj<|ee)<|sE 1 [0,3,4,5] [3,4,5]<|il 1<|cc 0 call86<|cj<|rt<|j9<|lk 0 call87<|lk 0 call85<|dh 0<|dx 0<|cj<|gj<|ee
def LH(d r g:Addr)(r3:Int)(w:World)(K:Int->Int->Int->ByteArray->Bool->Bool->WP):Prop:=cl 142 #[(vp<|some r),(vi r3),(vi 2)] w fun e f=>∃E z D o C A B,e=.returned (Ac E z D o C A B)/\(∀j,j<5->zL f (g.add j))/\∀a,a=bd f g (Aj 7 0 o false)->lb a (r.add 1) fun F=>Br F ((∀j,j<5->zL a (d.add j))/\∀b,b=bd a d (Aj 0 0 0 false)->∃i u l m dF,Row b d (Ae i u l m dF)/\K i u l m dF false b)<|∃q t n y k,Row a g (Ae q t n y k)/\(∀j,j<5->zL a (d.add j))/\∀c,c=bd a d (Ae q t n y k)->∃h v x p s,Row c d (Ae h v x p s)/\K h v x p s true c
def CX(a d t:Addr)(r3:Int)(w:World)(K:Int->Int->Int->ByteArray->Bool->Bool->WP):Prop:=lb w (d.add 1) fun u=>Br u (lb w (d.add 1) fun v=>Br v ((∀j,j<5->zL w (a.add j))/\∀c,c=bd w a (Aj 0 0 0 false)->∃p n k o g,Row c a (Ae p n k o g)/\K p n k o g false c)<|∃q r l s m,Row w t (Ae q r l s m)/\(∀j,j<5->zL w (a.add j))/\∀b,b=bd w a (Ae q r l s m)->∃h dC e f i,Row b a (Ae h dC e f i)/\K h dC e f i true b) (LH a d t r3 w K)
def Cq(x:Int)(d c l:Addr)(J:Bool)(w:World)(K:Int->Int->Int->ByteArray->Bool->Bool->WP):Prop:=Br J (cl 140 #[(vp<|some c),(vi x)] w fun e k=>∃D bK o m F,e=.returned (Ag D bK o m F)/\(∀j,j<5->zL k (l.add j))/\∀a,a=bd k l (Ae D bK o m F)->lb a (c.add 1) fun H=>Br H ((∀j,j<5->zL a (d.add j))/\∀g,g=bd a d (Aj 0 0 0 false)->∃B y A p u,Row g d (Ae B y A p u)/\K B y A p u false g)<|∃t v E n z,Row a l (Ae t v E n z)/\(∀j,j<5->zL a (d.add j))/\∀f,f=bd a d (Ae t v E n z)->∃G q s r C,Row f d (Ae G q s r C)/\K G q s r C true f) (cl 141 #[(vp<|some c),(vi x)] w<|XO fun r2 r3 b=>lb b (c.add 1) fun I=>Br I (zL b (c.add 1)/\∀i,i=b.setCell (c.add 1) (vb true)->CX d c l r3 i K)<|zL b (c.add 1)/\∀h,h=b.setCell (c.add 1) (vb<|!(decide (r2=(⟨#[102,117,108,108]⟩:ByteArray))))->CX d c l r3 h K)
def JK(o:Option Addr)(k:Int)(w:World)(K:Int->Int->Int->ByteArray->Bool->Bool->WP):Prop:=∀a q,av w (.cells #[(vi 0),(vi 0),(vu 0),ve,(vb false)] 35) a q->∀h U,av q (.cells #[(vp o),(vb false)] 212) h U->cl 109 #[(vp o),(vi k)] U fun e Y=>∃C R y z P v F r1,e=.returned (.tuple #[(Ac C R y z P v F),(vb r1)])/\∀f m,av Y (.cells #[(vi 0),(vi 0),(vi 0),(vu 0),ve,(vi 0),(vi 0)] 119) f m->(∀j,j<7->zL m (f.add j))/\∀D,D=bd m f (Ab C R y z P v F)->∀g c,av D (.cells #[(vi 0),(vi 0),(vu 0),ve,(vb false)] 35) g c->li c f fun i=>Br (i==7) (li c (f.add 1) fun X=>li c (f.add 5) fun W=>cl 139 #[(vp<|some h),(vi X),(vi W)] c fun e r=>∃n Q S M s,e=.returned (Ag n Q S M s)/\(∀j,j<5->zL r (g.add j))/\∀b,b=bd r g (Ae n Q S M s)->lb b (h.add 1) fun V=>Br V ((∀j,j<5->zL b (a.add j))/\∀l,l=bd b a (Aj 0 0 0 false)->∃A N t T B,Row l a (Ae A N t T B)/\K A N t T B false l)<|∃G E p u J,Row b g (Ae G E p u J)/\(∀j,j<5->zL b (a.add j))/\∀d,d=bd b a (Ae G E p u J)->∃x O I H L,Row d a (Ae x O I H L)/\K x O I H L true d) (Br (i==8) (Cq k a h g (i==8) c K)<|Cq k a h g (i==9) c K)
def w_K(p1 t1 w K)(h:JK p1 t1 w K):
  cl 73 #[(vp p1),(vi t1)] w<|fun e w'=>∃C E D F G A,e=.returned (.tuple #[(Ag C E D F G),(vb A)])/\K C E D F G A w':=by
 refine cw (args:=[(vp p1),(vi t1)]) func73 ntmps73<|eg<|sn (O:=(.cells #[(vi 0),(vi 0),(vu 0),ve,(vb false)] 35)) (uI (zeroValue35 _) rfl) ?_
 intro c V o
 have h:=h c V o
 refine q<|ln<|Gc rfl (fun _ _ _ h=>h) (eg<|q0 (vp p1)<|q0 (.agg #[(vp p1),(vb false)])<|sn (O:=(.cells #[(vp p1),(vb false)] 212)) xb ?_)
 intro b w2 m
 have h:=h b w2 m
 refine q<|ln<|eg<|qb<|sc call109<|h.mono fun e w3 ⟨aB,aC,aD,aA,aE,aW,aX,r1,k,h⟩=>⟨_,k,?_⟩
 refine qc (Jk h (uI (zeroValue119 _) rfl) fun p4 w4 h=>rT (sizeOf119 _) h fun w5 h=>q<|ln<|eg<|Jk h (uI (zeroValue35 _) rfl) fun d w6 h=>ln<|zK<|Gx<|uH<|zK<|eg<|q0 (vp<|some p4)<|ql (isAgg3 _) h fun B h=>ln<|vN<|eg<|qb<|ln<|gw h ?_ ?_)<;>intro h
 refine rg<|qb<|ql (isAgg3 _) h fun v2 h=>q<|ql (isAgg73 _) h fun v3 h=>sc call139<|h.mono fun e w7 ⟨aM,aN,bL,aJ,bM,k,h⟩=>⟨_,k,?_⟩
 refine rT (sizeOf35 _) h fun w8 h=>vI (pQ<|uH<|zK<|eg<|qc<|ql (isAgg4 _) h fun v4 h=>ln<|gw h ?_ ?_)<;>intro h
 refine eg<|q<|rT (sizeOf35 _) h fun w9 h=>q<|ln<|er<|l0 ?_
 have⟨aF,aG,X,aH,cQ,r,h⟩:=h
 refine rZ results73 (wX (isAgg35 _) (sizeOf35 _) r) (wD<|vb false) ⟨aF,aG,X,aH,cQ,false,rfl,h⟩
 refine zY<|uH<|eg ?_
 have⟨aO,aP,eT,aQ,eU,s,h⟩:=h
 refine qa (isAgg35 _) (sizeOf35 _) s<|rT (sizeOf35 _) h fun w10 h=>q<|ln<|er ?_
 have⟨aR,aS,cR,aT,cS,y,h⟩:=h
 refine rZ results73 (wX (isAgg35 _) (sizeOf35 _) y) (wD<|vb true) ⟨aR,aS,cR,aT,cS,true,rfl,h⟩
 refine HU (fun ρ w=>∃x,ek ρ [(1,(vi t1)),(4,(vp<|some c)),(6,(vp<|some b)),(9,(vp<|some d)),(57,(vb x))]/\Cq t1 c b d x w K) ?_ ?_
 rintro ρ w ⟨x,f,h⟩
 refine qW f (gw h ?_ ?_)<;>intro h
 refine rg<|qb<|sc call140<|h.mono fun e w11 ⟨bJ,bK,dX,bC,dY,k,h⟩=>⟨_,k,?_⟩
 refine rT (sizeOf35 _) h fun w12 h=>vI (pQ<|uH<|zK<|eg<|qc<|ql (isAgg4 _) h fun v5 h=>ln<|gw h ?_ ?_)<;>intro h
 refine eg<|q<|rT (sizeOf35 _) h fun w13 h=>q<|ln<|er<|l0 ?_
 have⟨P,aZ,cN,bA,cO,z,h⟩:=h
 refine rZ results73 (wX (isAgg35 _) (sizeOf35 _) z) (wD<|vb false) ⟨P,aZ,cN,bA,cO,false,rfl,h⟩
 refine zY<|uH<|eg ?_
 have⟨bG,bH,eR,bI,eS,t,h⟩:=h
 refine qa (isAgg35 _) (sizeOf35 _) t<|rT (sizeOf35 _) h fun T h=>q<|ln<|er ?_
 have⟨cB,cC,dK,I,dL,u,h⟩:=h
 refine rZ results73 (wX (isAgg35 _) (sizeOf35 _) u) (wD<|vb true) ⟨cB,cC,dK,I,dL,true,rfl,h⟩
 refine eg<|qb<|sc call141<|h.mono fun e w15 ⟨r2,r3,k,h⟩=>⟨_,k,?_⟩
 refine q<|qd<|ln<|HU (fun ρ w=>ek ρ [(4,(vp<|some c)),(6,(vp<|some b)),(9,(vp<|some d)),(11,(vi r3))]/\LH c b d r3 w K) ?_ ?_
 rintro ρ w ⟨f,h⟩
 refine qW f<|rg<|qb<|sc call142<|h.mono fun e N ⟨bD,bE,bB,aI,bF,cU,cV,k,h⟩=>⟨_,k,?_⟩
 refine qb (rT (sizeOf35 _) h fun w17 h=>vI<|pQ<|uH<|zK<|eg<|qc<|ql (isAgg4 _) h fun v6 h=>ln<|gw h ?_ ?_)<;>intro h
 refine eg<|q<|rT (sizeOf35 _) h fun w18 h=>q<|ln<|er<|l0 ?_
 have⟨cE,cF,Y,M,dF,j,h⟩:=h
 refine rZ results73 (wX (isAgg35 _) (sizeOf35 _) j) (wD<|vb false) ⟨cE,cF,Y,M,dF,false,rfl,h⟩
 refine zY<|uH<|eg ?_
 have⟨cY,cZ,eL,dA,eM,i,h⟩:=h
 refine qa (isAgg35 _) (sizeOf35 _) i<|rT (sizeOf35 _) h fun w19 h=>q<|ln<|er ?_
 have⟨cH,cI,S,Z,dH,l,h⟩:=h
 refine rZ results73 (wX (isAgg35 _) (sizeOf35 _) l) (wD<|vb true) ⟨cH,cI,S,Z,dH,true,rfl,h⟩
 refine HU (fun ρ w=>ek ρ [(4,(vp<|some c)),(6,(vp<|some b)),(9,(vp<|some d)),(11,(vi r3))]/\CX c b d r3 w K) ?_ ?_
 rintro ρ w ⟨f,h⟩
 refine qW f (eg<|qc<|ql (isAgg4 _) h fun v7 h=>ln<|gw h ?_ ?_)<;>intro h
 refine tQ (ry<|vn<|uH<|zK<|eg<|q0 (vp<|some b)<|q0 (vp<|some b)<|q0 (vp<|some<|b.add 1)<|ql (isAgg4 _) h fun v8 h=>ln<|gw h ?_ ?_)<;>intro h
 refine eg<|q<|rT (sizeOf35 _) h fun Q h=>q<|ln<|er<|l0 ?_
 have⟨cK,cL,dI,cM,dJ,p,h⟩:=h
 refine rZ results73 (wX (isAgg35 _) (sizeOf35 _) p) (wD<|vb false) ⟨cK,cL,dI,cM,dJ,false,rfl,h⟩
 refine zY<|uH<|eg ?_
 have⟨bY,bZ,eN,cA,eO,n,h⟩:=h
 refine qa (isAgg35 _) (sizeOf35 _) n<|rT (sizeOf35 _) h fun L h=>q<|ln<|er ?_
 have⟨J,dC,U,H,eQ,g,h⟩:=h
 refine rZ results73 (wX (isAgg35 _) (sizeOf35 _) g) (wD<|vb true) ⟨J,dC,U,H,eQ,true,rfl,h⟩
 refine zY<|uH ⟨hm,h⟩
 refine rg<|qd<|ql (isAgg4 _) h fun v9 h=>q ?_
 obtain⟨a,h⟩|⟨a,h⟩:=h.br
 refine HR 34 a<|q2 (vb true) (xT a)<|qb<|qh (sizeOf4 _) h fun R h=>ln ⟨hm,h⟩
 refine qk 34 a<|Zk (v:=(vb<|!(decide (r2=(⟨#[102,117,108,108]⟩:ByteArray))))) (wy 34 a) (JI Kf Kf)<|q2 (vb<|!(decide (r2=(⟨#[102,117,108,108]⟩:ByteArray)))) (xF a)<|qb<|qh (sizeOf4 _) h fun W h=>ln ⟨hm,h⟩
 refine eg (qb<|ln<|gw h ?_ ?_)<;>intro h
 refine zY<|uH ⟨(B==8),hm,h⟩
 refine rg<|qb<|ln ⟨(B==9),hm,h⟩
def jbj(V:Int)(a:ByteArray)(T:World)(K:Int->Int->Int->Int->ByteArray->Sl->WP):Prop:=∀b i,av T (.cells #[(vi 0),(vi 0),(vi 0),(vu 0),ve,Sl.nil.v] 71) b i->cl 86 #[(vs (⟨#[100,101,97,108]⟩:ByteArray))] i fun e S=>∃A N r s L B,e=.returned (Aa A N r s L B)/\cl 87 #[(vu V)] S fun e X=>∃f M G t H C,e=.returned (Aa f M G t H C)/\cl 86 #[(vs a)] X fun e W=>∃D bK O l g w,e=.returned (Aa D bK O l g w)/\cl 85 #[(.agg #[(vi f),(vi M),(vi G),(vu t),(vs H),C.v]),(.agg #[(vi D),(vi bK),(vi O),(vu l),(vs g),w.v])] W fun e U=>∃I n y J F d,e=.returned (Aa I n y J F d)/\cl 85 #[(.agg #[(vi A),(vi N),(vi r),(vu s),(vs L),B.v]),(.agg #[(vi I),(vi n),(vi y),(vu J),(vs F),d.v])] U fun e o=>∃P x E k z q,e=.returned (Aa P x E k z q)/\(∀j,j<6->zL o (b.add j))/\∀c,c=bd o b (Af P x E k z q)->∃u R m p Q h,Row c b (Af u R m p Q h)/\K u R m p Q h c
def jav(c1 text1 w0 K)(h:jbj c1 text1 w0 K):
  cl 82 #[(vu c1),(vs text1)] w0<|fun e w'=>∃dR dS a c d b,e=.returned (Aa dR dS a c d b)/\K dR dS a c d b w':=
 cy func82 h<|cf 0<|lk 0 call86<|lk 1 call87<|lk 1 call86<|lk 0 call85<|lk 0 call85<|dh 0<|dx 0<|cj<|gj<|ee
def jaA(a R:Int)(O M N:Int)(Q:ByteArray)(S:Sl)(b:Bool)(P:World)(K:Int->Int->Int->Int->ByteArray->Sl->WP):Prop:=∀e n,av P (.cells #[(vi R),(vi O),(vi M),(vu N),(vs Q),S.v] 71) e n->∀c d,av n (.cells #[(vi 0),(vi 0),(vi 0),(vu 0),ve,Sl.nil.v] 71) c d->Br b (∃E C I k t z,Row d e (Af E C I k t z)/\∀B i,av d (.cells #[(vi E),(vi C),(vi I),(vu k),(vs t),z.v] 71) B i->(∀j,j<6->zL i (c.add j))/\∀h,h=bd i c [(vi 9),(vi a),(vi<|q6.wrap<|1-a),(vu 0),ve,(Sl.mk (some B) 1 1).v]->∃y G q s J o,Row h c (Af y G q s J o)/\K y G q s J o h) (∃u x L A m l,Row d e (Af u x L A m l)/\∀p g,av d (.cells #[(vi u),(vi x),(vi L),(vu A),(vs m),l.v] 71) p g->(∀j,j<6->zL g (c.add j))/\∀f,f=bd g c [(vi 8),(vi a),(vi<|q6.wrap<|1-a),(vu 0),ve,(Sl.mk (some p) 1 1).v]->∃w H dP D F r,Row f c (Af w H dP D F r)/\K w H dP D F r f)
def jcp(who1 bP bQ bR bS bT bU fake1 w0 K)(h:jaA who1 bP bQ bR bS bT bU fake1 w0 K):
  cl 83 #[(vi who1),(.agg #[(vi bP),(vi bQ),(vi bR),(vu bS),(vs bT),bU.v]),(vb fake1)] w0<|fun e w'=>∃c g a b d f,e=.returned (Aa c g a b d f)/\K c g a b d f w':=
 cy func83 h<|cf 0<|cf 0<|br 0 2 (cj<|lr 6<|cf 0<|dh 1<|dx 0<|cj<|gj<|ee)<|cj<|lr 5<|cf 0<|dh 1<|dx 0<|cj<|gj<|ee
def Yq(a B:Int)(y w x:Int)(A:ByteArray)(C:Sl)(z:World)(K:Int->Int->Int->Int->ByteArray->Sl->WP):Prop:=∀g i,av z (.cells #[(vi B),(vi y),(vi w),(vu x),(vs A),C.v] 71) g i->∀b e,av i (.cells #[(vi 0),(vi 0),(vi 0),(vu 0),ve,Sl.nil.v] 71) b e->∃r q t f m o,Row e g (Af r q t f m o)/\∀p d,av e (.cells #[(vi r),(vi q),(vi t),(vu f),(vs m),o.v] 71) p d->(∀j,j<6->zL d (b.add j))/\∀c,c=bd d b [(vi 7),(vi a),(vi 0),(vu 0),ve,(Sl.mk (some p) 1 1).v]->∃n s k l u h,Row c b (Af n s k l u h)/\K n s k l u h c
def jdc(who1 bP bQ bR bS bT bU w0 K)(h:Yq who1 bP bQ bR bS bT bU w0 K):
  cl 84 #[(vi who1),(.agg #[(vi bP),(vi bQ),(vi bR),(vu bS),(vs bT),bU.v])] w0<|fun e w'=>∃c g a b d f,e=.returned (Aa c g a b d f)/\K c g a b d f w':=
 cy func84 h<|cf 0<|cf 0<|cj<|lr 1<|cf 0<|dh 1<|dx 0<|cj<|gj<|ee
def jbM(M G:Int)(D E:Int)(L:ByteArray)(O:Sl)(H F:Int)(gZ J:Int)(hB:ByteArray)(N:Sl)(I:World)(K:Int->Int->Int->Int->ByteArray->Sl->WP):Prop:=∀h l,av I (.cells #[(vi M),(vi G),(vi D),(vu E),(vs L),O.v] 71) h l->∀i C,av l (.cells #[(vi H),(vi F),(vi gZ),(vu J),(vs hB),N.v] 71) i C->∀a b,av C (.cells #[(vi 0),(vi 0),(vi 0),(vu 0),ve,Sl.nil.v] 71) a b->∃x w z e p t,Row b h (Af x w z e p t)/\∃q r B u g f,Row b i (Af q r B u g f)/\∀m d,av b (.cells #[(vi x),(vi w),(vi z),(vu e),(vs p),t.v,(vi q),(vi r),(vi B),(vu u),(vs g),f.v] 71) m d->(∀j,j<6->zL d (a.add j))/\∀c,c=bd d a [(vi 4),(vi 0),(vi 0),(vu 0),ve,(Sl.mk (some m) 2 2).v]->∃s y n o A k,Row c a (Af s y n o A k)/\K s y n o A k c
def jcO(bP bQ bR bS bT bU gX gY gZ hA hB hC w0 K)(h:jbM bP bQ bR bS bT bU gX gY gZ hA hB hC w0 K):
  cl 85 #[(.agg #[(vi bP),(vi bQ),(vi bR),(vu bS),(vs bT),bU.v]),(.agg #[(vi gX),(vi gY),(vi gZ),(vu hA),(vs hB),hC.v])] w0<|fun e w'=>∃c g a b d f,e=.returned (Aa c g a b d f)/\K c g a b d f w':=
 cy func85 h<|cf 0<|cf 0<|cf 0<|cj<|lr 0<|cj<|lr 0<|cf 0<|dh 1<|dx 0<|cj<|gj<|ee
def jaO(s1:ByteArray)(k:World)(K:Int->Int->Int->Int->ByteArray->Sl->WP):Prop:=∀a b,av k (.cells #[(vi 0),(vi 0),(vi 0),(vu 0),ve,Sl.nil.v] 71) a b->(∀j,j<6->zL b (a.add j))/\∀c,c=bd b a [(vi 3),(vi 0),(vi 0),(vu 0),(vs s1),Sl.nil.v]->∃h e i d g f,Row c a (Af h e i d g f)/\K h e i d g f c
def U5(s1 w0 K)(h:jaO s1 w0 K):
  cl 86 #[(vs s1)] w0<|fun e w'=>∃c g a b d f,e=.returned (Aa c g a b d f)/\K c g a b d f w':=
 cy func86 h<|cf 0<|dh 2<|dx 0<|cj<|gj<|ee
def ZF(n1:Int)(k:World)(K:Int->Int->Int->Int->ByteArray->Sl->WP):Prop:=∀a b,av k (.cells #[(vi 0),(vi 0),(vi 0),(vu 0),ve,Sl.nil.v] 71) a b->(∀j,j<6->zL b (a.add j))/\∀c,c=bd b a [(vi 2),(vi 0),(vi 0),(vu n1),ve,Sl.nil.v]->∃h e i d g f,Row c a (Af h e i d g f)/\K h e i d g f c
def S3(n1 w0 K)(h:ZF n1 w0 K):
  cl 87 #[(vu n1)] w0<|fun e w'=>∃c g a b d f,e=.returned (Aa c g a b d f)/\K c g a b d f w':=
 cy func87 h<|cf 0<|dh 2<|dx 0<|cj<|gj<|ee
def EY(a:Int)(d a1 a2:Addr)(w:World)(K:Int->Int->Int->ByteArray->Bool->WP):Prop:=lu w (a1.add 2) fun p=>ls w (a1.add 3) fun l=>lb w (a1.add 4) fun q=>Br q ((∀j,j<5->zL w (d.add j))/\∀b,b=bd w d (Ae 4 a p l true)->∃m k e g dF,Row b d (Ae m k e g dF)/\K m k e g dF b)<|lb w (a2.add 4) fun r=>(∀j,j<5->zL w (d.add j))/\∀c,c=bd w d (Ae 4 a p l r)->∃f n h o i,Row c d (Ae f n h o i)/\K f n h o i c
def C7(r1:Option Addr)(a:Int)(d a1 a2:Addr)(f:Bool)(w:World)(K:Int->Int->Int->ByteArray->Bool->WP):Prop:=Br f (∃a4,r1=some a4/\zL w (a4.add 1)/\∀b,b=w.setCell (a4.add 1) (vb true)->EY a d a1 a2 b K)<|ls w (a1.add 3) fun g=>ls w (a2.add 3) fun e=>∃a5,r1=some a5/\zL w (a5.add 1)/\∀c,c=w.setCell (a5.add 1) (vb<|!(decide (g=e)))->EY a d a1 a2 c K
def Cy(r1:Option Addr)(a:Int)(b a1 a2:Addr)(d:Bool)(w:World)(K:Int->Int->Int->ByteArray->Bool->WP):Prop:=Br d (C7 r1 a b a1 a2 true w K)<|lu w (a1.add 2) fun e=>lu w (a2.add 2) fun c=>C7 r1 a b a1 a2 (e !=c) w K
def DB(r1:Option Addr)(a:Int)(c a1 a2:Addr)(d:Bool)(w:World)(K:Int->Int->Int->ByteArray->Bool->WP):Prop:=Br d (Cy r1 a c a1 a2 true w K)<|li w (a2.add 1) fun b=>Cy r1 a c a1 a2 (b !=1) w K
def rq(r1:Option Addr)(a:Int)(c a1 a2:Addr)(w:World)(K:Int->Int->Int->ByteArray->Bool->WP):Prop:=∃a3,r1=some a3/\lb w (a3.add 1) fun d=>Br d (DB r1 a c a1 a2 true w K)<|li w (a1.add 1) fun b=>DB r1 a c a1 a2 (b !=0) w K
def Bz(r1:Option Addr)(a:Int)(h:Addr)(r3:Int)(x5:Bool)(w:World)(K:Int->Int->Int->ByteArray->Bool->WP):Prop:=Br x5 (cl 142 #[(vp r1),(vi r3),(vi 4)] w fun e w11=>∃bJ bK cW cX bC hD hE,e=.returned (Ac bJ bK cW cX bC hD hE)/\∀p2 W,av w11 (.cells #[(vi 0),(vi 0),(vi 0),(vu 0),ve,(vi 0),(vi 0)] 119) p2 W->(∀j,j<7->zL W (p2.add j))/\∀w13,w13=bd W p2 (Ab bJ bK cW cX bC hD hE)->∃b:WP,b w13.drew/\∀v,v=w13.drew->∃i,(∀w',b w'->w'.cell? (p2.add 5)=some (vi i))/\∃c,(∀w',b w'->w'.cell? (p2.add 6)=some (vi c))/\(cl 140 #[(vp r1),(vi i)] v fun e B=>∃U R bL J Y,e=.returned (Ag U R bL J Y)/\b B/\(cl 140 #[(vp r1),(vi c)] B fun e w20=>∃bV bW dX bX dY,e=.returned (Ag bV bW dX bX dY)/\(∀p3 G,av w20 (.cells #[(vi 0),(vi 0),(vu 0),ve,(vb false)] 35) p3 G->b G/\∀p4 q,av G (.cells #[(vi 0),(vi 0),(vu 0),ve,(vb false)] 35) p4 q->b q/\(∀j,j<5->zL q (p3.add j))/\∀Q,Q=bd q p3 (Ae U R bL J Y)->(∀j,j<5->zL Q (p4.add j))/\∀w24,w24=bd Q p4 (Ae bV bW dX bX dY)->rq r1 a h p3 p4 w24 K)/\(∀p5 Z,av w20 (.cells #[(vi 0),(vi 0),(vu 0),ve,(vb false)] 35) p5 Z->b Z/\∀p6 k,av Z (.cells #[(vi 0),(vi 0),(vu 0),ve,(vb false)] 35) p6 k->b k/\(∀j,j<5->zL k (p6.add j))/\∀S,S=bd k p6 (Ae U R bL J Y)->(∀j,j<5->zL S (p5.add j))/\∀w28,w28=bd S p5 (Ae bV bW dX bX dY)->rq r1 a h p6 p5 w28 K))/\(∀H A,av B (.cells #[(vi 0),(vi 0),(vu 0),ve,(vb false)] 35) H A->b A/\(cl 140 #[(vp r1),(vi c)] A fun e w30=>∃dR dS gQ dT gR,e=.returned (Ag dR dS gQ dT gR)/\∀p8 y,av w30 (.cells #[(vi 0),(vi 0),(vu 0),ve,(vb false)] 35) p8 y->b y/\(∀j,j<5->zL y (H.add j))/\∀P,P=bd y H (Ae U R bL J Y)->(∀j,j<5->zL P (p8.add j))/\∀w33,w33=bd P p8 (Ae dR dS gQ dT gR)->rq r1 a h H p8 w33 K)/\(∀p9 F,av A (.cells #[(vi 0),(vi 0),(vu 0),ve,(vb false)] 35) p9 F->b F/\cl 140 #[(vp r1),(vi c)] F fun e w35=>∃fH fI oH fJ oI,e=.returned (Ag fH fI oH fJ oI)/\(∀j,j<5->zL w35 (H.add j))/\∀T,T=bd w35 H (Ae U R bL J Y)->(∀j,j<5->zL T (p9.add j))/\∀w37,w37=bd T p9 (Ae fH fI oH fJ oI)->rq r1 a h H p9 w37 K))/\(∀g o,av B (.cells #[(vi 0),(vi 0),(vu 0),ve,(vb false)] 35) g o->b o/\(cl 140 #[(vp r1),(vi c)] o fun e w39=>∃dU dV oJ dW oK,e=.returned (Ag dU dV oJ dW oK)/\∀n p,av w39 (.cells #[(vi 0),(vi 0),(vu 0),ve,(vb false)] 35) n p->b p/\(∀j,j<5->zL p (n.add j))/\∀I,I=bd p n (Ae U R bL J Y)->(∀j,j<5->zL I (g.add j))/\∀w42,w42=bd I g (Ae dU dV oJ dW oK)->rq r1 a h n g w42 K)/\(∀l M,av o (.cells #[(vi 0),(vi 0),(vu 0),ve,(vb false)] 35) l M->b M/\cl 140 #[(vp r1),(vi c)] M fun e w44=>∃dZ eA oL eB oM,e=.returned (Ag dZ eA oL eB oM)/\(∀j,j<5->zL w44 (l.add j))/\∀X,X=bd w44 l (Ae U R bL J Y)->(∀j,j<5->zL X (g.add j))/\∀w46,w46=bd X g (Ae dZ eA oL eB oM)->rq r1 a h l g w46 K)))/\(∀d s,av v (.cells #[(vi 0),(vi 0),(vu 0),ve,(vb false)] 35) d s->b s/\(cl 140 #[(vp r1),(vi i)] s fun e w48=>∃eC eD hQ eE hR,e=.returned (Ag eC eD hQ eE hR)/\b w48/\(cl 140 #[(vp r1),(vi c)] w48 fun e w49=>∃fS fT oN fU oO,e=.returned (Ag fS fT oN fU oO)/\∀C x,av w49 (.cells #[(vi 0),(vi 0),(vu 0),ve,(vb false)] 35) C x->b x/\(∀j,j<5->zL x (d.add j))/\∀N,N=bd x d (Ae eC eD hQ eE hR)->(∀j,j<5->zL N (C.add j))/\∀w52,w52=bd N C (Ae fS fT oN fU oO)->rq r1 a h d C w52 K)/\(∀E V,av w48 (.cells #[(vi 0),(vi 0),(vu 0),ve,(vb false)] 35) E V->b V/\cl 140 #[(vp r1),(vi c)] V fun e w54=>∃fV fW oP fX oQ,e=.returned (Ag fV fW oP fX oQ)/\(∀j,j<5->zL w54 (d.add j))/\∀O,O=bd w54 d (Ae eC eD hQ eE hR)->(∀j,j<5->zL O (E.add j))/\∀w56,w56=bd O E (Ae fV fW oP fX oQ)->rq r1 a h d E w56 K))/\(∀r w57,av s (.cells #[(vi 0),(vi 0),(vu 0),ve,(vb false)] 35) r w57->b w57/\cl 140 #[(vp r1),(vi i)] w57 fun e w58=>∃fY fZ oR gA oS,e=.returned (Ag fY fZ oR gA oS)/\b w58/\cl 140 #[(vp r1),(vi c)] w58 fun e w59=>∃gB gC oT gD oU,e=.returned (Ag gB gC oT gD oU)/\(∀j,j<5->zL w59 (d.add j))/\∀w60,w60=bd w59 d (Ae fY fZ oR gA oS)->(∀j,j<5->zL w60 (r.add j))/\∀w61,w61=bd w60 r (Ae gB gC oT gD oU)->rq r1 a h d r w61 K))/\(∀f m,av v (.cells #[(vi 0),(vi 0),(vu 0),ve,(vb false)] 35) f m->b m/\(cl 140 #[(vp r1),(vi i)] m fun e w63=>∃eF eG hS eH hT,e=.returned (Ag eF eG hS eH hT)/\b w63/\(cl 140 #[(vp r1),(vi c)] w63 fun e w64=>∃gE gF oV gG oW,e=.returned (Ag gE gF oV gG oW)/\∀t z,av w64 (.cells #[(vi 0),(vi 0),(vu 0),ve,(vb false)] 35) t z->b z/\(∀j,j<5->zL z (t.add j))/\∀w66,w66=bd z t (Ae eF eG hS eH hT)->(∀j,j<5->zL w66 (f.add j))/\∀w67,w67=bd w66 f (Ae gE gF oV gG oW)->rq r1 a h t f w67 K)/\(∀D w68,av w63 (.cells #[(vi 0),(vi 0),(vu 0),ve,(vb false)] 35) D w68->b w68/\cl 140 #[(vp r1),(vi c)] w68 fun e w69=>∃gH gI oX gJ oY,e=.returned (Ag gH gI oX gJ oY)/\(∀j,j<5->zL w69 (D.add j))/\∀w70,w70=bd w69 D (Ae eF eG hS eH hT)->(∀j,j<5->zL w70 (f.add j))/\∀w71,w71=bd w70 f (Ae gH gI oX gJ oY)->rq r1 a h D f w71 K))/\(∀u w72,av m (.cells #[(vi 0),(vi 0),(vu 0),ve,(vb false)] 35) u w72->b w72/\cl 140 #[(vp r1),(vi i)] w72 fun e w73=>∃eI eJ oZ eK pA,e=.returned (Ag eI eJ oZ eK pA)/\b w73/\cl 140 #[(vp r1),(vi c)] w73 fun e w74=>∃gK gL pB gM pC,e=.returned (Ag gK gL pB gM pC)/\(∀j,j<5->zL w74 (u.add j))/\∀w75,w75=bd w74 u (Ae eI eJ oZ eK pA)->(∀j,j<5->zL w75 (f.add j))/\∀w76,w76=bd w75 f (Ae gK gL pB gM pC)->rq r1 a h u f w76 K))) (∃a6,r1=some a6/\zL w (a6.add 1)/\∀w77,w77=w.setCell (a6.add 1) (vb true)->(∀j,j<5->zL w77 (h.add j))/\∀L,L=bd w77 h (Aj 0 0 0 false)->∃cK cL dI cM dJ,Row L h (Ae cK cL dI cM dJ)/\K cK cL dI cM dJ L)
def CL(r1:Option Addr)(a b:Int)(d:Addr)(r2:ByteArray)(r3:Int)(n:Bool)(w:World)(K:Int->Int->Int->ByteArray->Bool->WP):Prop:=Br n (cl 189 #[(vp r1),(vi b)] w<|XP fun l m i=>(∀j,j<5->zL i (d.add j))/\∀c,c=bd i d (Ae 2 a l m false)->∃h g e k f,Row c d (Ae h g e k f)/\K h g e k f c) (Br (decide (r2=(⟨#[114,101,115,111,108,118,101]⟩:ByteArray))) (Bz r1 a d r3 (decide (a<=1)) w K)<|Bz r1 a d r3 false w K)
def Du(r1:Option Addr)(a b:Int)(c:Addr)(r2:ByteArray)(r3:Int)(n:Bool)(w:World)(K:Int->Int->Int->ByteArray->Bool->WP):Prop:=Br n (cl 189 #[(vp r1),(vi r3)] w<|XP fun l m i=>(∀j,j<5->zL i (c.add j))/\∀d,d=bd i c (Ae 6 0 l m false)->∃f k e g h,Row d c (Ae f k e g h)/\K f k e g h d) (Br (decide (r2=(⟨#[100,101,97,108]⟩:ByteArray))) (CL r1 a b c r2 r3 (decide (a<=1)) w K)<|CL r1 a b c r2 r3 false w K)
def Df(r1:Option Addr)(a b:Int)(c:Addr)(r2:ByteArray)(r3:Int)(n:Bool)(w:World)(K:Int->Int->Int->ByteArray->Bool->WP):Prop:=Br n (cl 142 #[(vp r1),(vi r3),(vi 2)] w fun e m=>∃o q t l p r s,e=.returned (Ac o q t l p r s)/\(∀j,j<5->zL m (c.add j))/\∀d,d=bd m c (Aj 5 0 l false)->∃h k f i g,Row d c (Ae h k f i g)/\K h k f i g d) (Br (decide (r2=(⟨#[105,110,115,116,101,97,100]⟩:ByteArray))) (Du r1 a b c r2 r3 (a==2) w K)<|Du r1 a b c r2 r3 false w K)
def EN(r1:Option Addr)(a b:Int)(c:Addr)(r2:ByteArray)(r3:Int)(o:Bool)(w:World)(K:Int->Int->Int->ByteArray->Bool->WP):Prop:=Br o (cl 142 #[(vp r1),(vi r3),(vi 2)] w fun e l=>∃q s p h r n t,e=.returned (Ac q s p h r n t)/\(∀j,j<5->zL l (c.add j))/\∀d,d=bd l c (Aj 3 0 h false)->∃k m g i f,Row d c (Ae k m g i f)/\K k m g i f d) (Br (decide (r2=(⟨#[97,98,111,114,116,101,100]⟩:ByteArray))) (Df r1 a b c r2 r3 (a==2) w K)<|Df r1 a b c r2 r3 false w K)
def N8(r1:Option Addr)(b a:Int)(f:World)(K:Int->Int->Int->ByteArray->Bool->WP):Prop:=∀c d,av f (.cells #[(vi 0),(vi 0),(vu 0),ve,(vb false)] 35) c d->cl 141 #[(vp r1),(vi a)] d (XO fun r2 r3 e=>Br (decide (r2=(⟨#[97,98,111,114,116]⟩:ByteArray))) (EN r1 b a c r2 r3 (b==0) e K)<|EN r1 b a c r2 r3 false e K)
def Y8(r1 who1 body1 w0 K)(h:N8 r1 who1 body1 w0 K):
  cl 139 #[(vp r1),(vi who1),(vi body1)] w0<|fun e w'=>∃z x m n s,e=.returned (Ag z x m n s)/\K z x m n s w':=
 cy func139 h<|cf 0<|lv 2 call141<|me 5 0 [0,1,2,6,7,8] (fun k=>[(22,(vb k))]) (fun k w=>EN _ _ _ _ _ _ k w _) (fun y=>br 1 3 (df 4 y)<|df 4 y)<|fun {k}=>br 0 0 (cc 3 call142<|cj<|xe<|rt<|eo<|dh 2<|dx 0<|gv<|gj<|ee)<|me 1 0 [0,1,2,6,7,8] (fun c=>[(34,(vb c))]) (fun c w=>Df _ _ _ _ _ _ c w _) (fun o=>br 1 3 (df 4 o)<|df 4 o)<|fun {c}=>br 0 0 (cc 3 call142<|cj<|xe<|rt<|eo<|dh 2<|dx 0<|gv<|gj<|ee)<|me 1 0 [0,1,2,6,7,8] (fun j=>[(46,(vb j))]) (fun j w=>Du _ _ _ _ _ _ j w _) (fun r=>br 1 3 (df 4 r)<|df 4 r)<|fun {j}=>br 0 0 (lv 3 call189<|dh 8<|dx 0<|gv<|gj<|ee)<|me 1 0 [0,1,2,6,7,8] (fun i=>[(62,(vb i))]) (fun i w=>CL _ _ _ _ _ _ i w _) (fun v=>br 1 3 (df 4 v)<|df 4 v)<|fun {i}=>br 0 0 (lv 3 call189<|dh 9<|dx 0<|gv<|gj<|ee)<|me 1 0 [0,1,6,8] (fun l=>[(79,(vb l))]) (fun l w=>Bz _ _ _ _ l w _) (fun u=>br 1 3 (df 4 u)<|df 4 u)<|fun {l}=>br 0 0 (cc 3 call142<|cj<|xe<|rt<|eo<|cf 0<|dh 0<|jc2 0 0 [0,1,6] (fun a1 a2=>[(14,(vp<|some a1)),(15,(vp<|some a2))]) (fun a1 a2 w=>rq _ _ _ a1 a2 w _) (fun a=>sE 0 [3,7,8,9,10,11] [7,10,11]<|il 2<|il 2<|Oc 0 (cc 0 call140<|gv<|rt<|j9<|Oc 0 (sO 0 call140<|uu 0 (pn 0<|pn 0<|dh 0<|dh 0<|df 0 a)<|pn 0<|pn 0<|dh 0<|dh 0<|df 0 a) (pn 0<|uu 0 (sO 0 call140<|pn 0<|dh 0<|dh 0<|df 0 a)<|pn 0<|sO 0 call140<|dh 0<|dh 0<|df 0 a)<|pn 0<|uu 0 (sO 0 call140<|pn 0<|dh 0<|dh 0<|df 0 a)<|pn 0<|sO 0 call140<|dh 0<|dh 0<|df 0 a) (pn 0<|uu 0 (cc 0 call140<|gv<|rt<|j9<|uu 0 (sO 0 call140<|pn 0<|dh 0<|dh 0<|df 0 a)<|pn 0<|sO 0 call140<|dh 0<|dh 0<|df 0 a)<|pn 0<|cc 0 call140<|gv<|rt<|j9<|sO 0 call140<|dh 0<|dh 0<|df 0 a)<|pn 0<|uu 0 (cc 0 call140<|gv<|rt<|j9<|uu 0 (sO 0 call140<|pn 0<|dh 0<|dh 0<|df 0 a)<|pn 0<|sO 0 call140<|dh 0<|dh 0<|df 0 a)<|pn 0<|cc 0 call140<|gv<|rt<|j9<|sO 0 call140<|dh 0<|dh 0<|df 0 a)<|fun {a1 a2}=>EL 0 0 [1,6,14,15] ([]) (fun w=>EY _ _ _ _ w _) (fun p=>nc 2<|ld 1<|ct 1 4<|me 0 0 [1,6,14,15,97] (fun g=>[(106,(vb g))]) (fun g w=>DB _ _ _ _ _ g w _) (fun t=>br 1 0 (df 4 t)<|ld 1<|df 2 t)<|fun {g}=>ct 1 4<|me 0 0 [1,6,14,15,97] (fun f=>[(111,(vb f))]) (fun f w=>Cy _ _ _ _ _ f w _) (fun q=>br 1 0 (df 4 q)<|ld 1<|df 2 q)<|fun {f}=>ct 1 6<|me 0 0 [1,6,14,15,97] (fun d=>[(118,(vb d))]) (fun d w=>C7 _ _ _ _ _ d w _) (fun b=>br 1 0 (df 6 b)<|ld 1<|ld 1<|df 2 b)<|fun {d}=>br 1 1 (nc 6<|gr 1<|df 0 p)<|ld 1<|ld 1<|nc 2<|gr 1<|df 0 p)<|ld 2<|ld 1<|ld 1<|br 1 1 (dh 4<|dx 0<|gv<|gj<|ee)<|ld 1<|dh 2<|dx 0<|gv<|gj<|ee)<|nc 2<|gr 1<|dh 1<|dx 0<|gv<|gj<|ee
def Hp(r1:Option Addr)(c d:Addr)(w:World)(K:Int->Int->Int->ByteArray->Bool->WP):Prop:=li w (d.add 5) fun n=>cl 189 #[(vp r1),(vi n)] w<|XP fun r3 m a=>li a (d.add 1) fun k=>li a d fun l=>(∀j,j<5->zL a (c.add j))/\∀b,b=bd a c (Ae 1 k r3 m<|l==9)->∃h i f g e,Row b c (Ae h i f g e)/\K h i f g e b
def EW(r1:Option Addr)(a c:Addr)(r:Bool)(w:World)(K:Int->Int->Int->ByteArray->Bool->WP):Prop:=Br r (∃a2,r1=some a2/\zL w (a2.add 1)/\∀d,d=w.setCell (a2.add 1) (vb true)->(∀j,j<5->zL d (a.add j))/\∀e,e=bd d a (Aj 0 0 0 false)->∃h q o n p,Row e a (Ae h q o n p)/\K h q o n p e)<|li w (c.add 2) fun t=>li w (c.add 1) fun s=>Br (t !=(q6.wrap<|1-s)) (∃a3,r1=some a3/\zL w (a3.add 1)/\∀f,f=w.setCell (a3.add 1) (vb true)->(∀j,j<5->zL f (a.add j))/\∀b,b=bd f a (Aj 0 0 0 false)->∃m k l g i,Row b a (Ae m k l g i)/\K m k l g i b)<|Hp r1 a c w K
def Dy(r1:Option Addr)(b a:Addr)(d:Bool)(w:World)(K:Int->Int->Int->ByteArray->Bool->WP):Prop:=Br d (EW r1 b a true w K)<|li w (a.add 1) fun c=>EW r1 b a (decide (c>1)) w K
def Jp(r1:Option Addr)(q:Int)(p:World)(K:Int->Int->Int->ByteArray->Bool->WP):Prop:=∀c d,av p (.cells #[(vi 0),(vi 0),(vu 0),ve,(vb false)] 35) c d->∃a1,r1=some a1/\lp d a1 fun s=>cl 109 #[(vp s),(vi q)] d fun e t=>∃k m h i l g n r2,e=.returned (.tuple #[(Ac k m h i l g n),(vb r2)])/\∀a f,av t (.cells #[(vi 0),(vi 0),(vi 0),(vu 0),ve,(vi 0),(vi 0)] 119) a f->(∀j,j<7->zL f (a.add j))/\∀b,b=bd f a (Ab k m h i l g n)->li b a fun r=>Br (r !=8) (li b a fun o=>Dy r1 c a (o !=9) b K)<|Dy r1 c a false b K
def w_O(r1 t1 w0 K)(h:Jp r1 t1 w0 K):
  cl 140 #[(vp r1),(vi t1)] w0<|fun e w'=>∃c g i d k,e=.returned (Ag c g i d k)/\K c g i d k w':=
 cy func140 h<|cf 0<|nc 1<|ld 1<|cc 1 call109<|cj<|dt<|rt<|eo<|cf 3<|dh 0<|EL 1 1 [0,4,5] ([]) (fun w=>Hp _ _ _ w _) (fun l=>ld 1<|ct 2 4<|me 0 0 [0,4,5] (fun b=>[(25,(vb b))]) (fun b w=>Dy _ _ _ b w _) (fun f=>br 1 0 (ld 1<|df 2 f)<|df 4 f)<|fun {b}=>ct 1 4<|me 0 0 [0,4,5] (fun a=>[(30,(vb a))]) (fun a w=>EW _ _ _ a w _) (fun j=>br 1 0 (df 4 j)<|ld 1<|df 2 j)<|fun {a}=>br 1 1 (nc 9<|gr 1<|dh 1<|dx 0<|gv<|gj<|ee)<|ld 1<|ld 1<|br 0 3 (nc 2<|gr 1<|dh 1<|dx 0<|gv<|gj<|ee)<|df 1 l)<|ld 2<|lv 0 call189<|ld 6<|ld 3<|dh 2<|dx 0<|gv<|gj<|ee
def ME(r1:Option Addr)(u:Int)(y:World)(K:ByteArray->Int->WP):Prop:=cl 142 #[(vp r1),(vi u),(vi 4)] y fun e t=>∃i q g h p f m,e=.returned (Ac i q g h p f m)/\∀a d,av t (.cells #[(vi 0),(vi 0),(vi 0),(vu 0),ve,(vi 0),(vi 0)] 119) a d->(∀j,j<7->zL d (a.add j))/\∀c,c=bd d a (Ab i q g h p f m)->∃b:WP,b c.drew/\∀r,r=c.drew->∃n,(∀w',b w'->w'.cell? (a.add 5)=some (vi n))/\∃k,(∀w',b w'->w'.cell? (a.add 6)=some (vi k))/\cl 142 #[(vp r1),(vi n),(vi 3)] r fun e l=>∃s A z v o w x,e=.returned (Ac s A z v o w x)/\b l/\K o k l
def jbO(r1 t1 w0 K)(h:ME r1 t1 w0 K):
  cl 141 #[(vp r1),(vi t1)] w0<|XO K:=
 cy func141 h<|cc 4 call142<|cj<|xe<|rt<|eo<|cf 0<|dh 0<|sE 0 [3] []<|il 2<|il 1<|cc 0 call142<|cj<|xe<|rt<|j9<|rr 3
def LN(r1:Option Addr)(X c:Int)(Y:World)(K:Int->Int->Int->Int->ByteArray->Int->Int->WP):Prop:=∀a f,av Y (.cells #[(vi 0),(vi 0),(vi 0),(vu 0),ve,(vi 0),(vi 0)] 119) a f->∃a1,r1=some a1/\lp f a1 fun v1=>cl 109 #[(vp v1),(vi X)] f fun e W=>∃H T x y R v L r2,e=.returned (.tuple #[(Ac H T x y R v L),(vb r2)])/\∀d m,av W (.cells #[(vi 0),(vi 0),(vi 0),(vu 0),ve,(vi 0),(vi 0)] 119) d m->(∀j,j<7->zL m (d.add j))/\∀b,b=bd m d (Ab H T x y R v L)->Br (!r2) (∃a2,r1=some a2/\zL b (a2.add 1)/\∀k,k=b.setCell (a2.add 1) (vb true)->(∀j,j<7->zL k (a.add j))/\∀i,i=bd k a [(vi 0),(vi 0),(vi 0),(vu 0),ve,(vi 0),(vi 0)]->∃A V r t S O F,Row i a (Ab A V r t S O F)/\K A V r t S O F i) (li b d fun Z=>Br (Z !=c) (∃a3,r1=some a3/\zL b (a3.add 1)/\∀g,g=b.setCell (a3.add 1) (vb true)->(∀j,j<7->zL g (a.add j))/\∀h,h=bd g a [(vi 0),(vi 0),(vi 0),(vu 0),ve,(vi 0),(vi 0)]->∃w P dP I N B D,Row h a (Ab w P dP I N B D)/\K w P dP I N B D h)<|∃M J Q n u E U,Row b d (Ab M J Q n u E U)/\(∀j,j<7->zL b (a.add j))/\∀l,l=bd b a (Ab M J Q n u E U)->∃G z C q o p s,Row l a (Ab G z C q o p s)/\K G z C q o p s l)
def WN(r1 t1 kind1 w0 K)(h:LN r1 t1 kind1 w0 K):
  cl 142 #[(vp r1),(vi t1),(vi kind1)] w0<|fun e w'=>∃a d i c b f g,e=.returned (Ac a d i c b f g)/\K a d i c b f g w':=
 cy func142 h<|cf 0<|nc 1<|ld 1<|cc 1 call109<|cj<|dt<|rt<|eo<|cf 3<|dh 0<|br 1 4 (nc 7<|gr 1<|dh 1<|dx 0<|cj<|xe<|gj<|ee)<|ld 1<|br 0 3 (nc 2<|gr 1<|dh 1<|dx 0<|cj<|xe<|gj<|ee)<|cj<|xe<|lr 1<|dh 0<|dx 0<|cj<|xe<|gj<|ee
def EM(r1:Option Addr)(c:Addr)(w:World)(K:Int->ByteArray->WP):Prop:=∃a:WP,a w.drew/\∀i,i=w.drew->∃j,(∀w',a w'->w'.cell? (c.add 5)=some (vi j))/\∃h,(∀w',a w'->w'.cell? (c.add 6)=some (vi h))/\cl 142 #[(vp r1),(vi j),(vi 2)] i fun e f=>∃k t r g s n p,e=.returned (Ac k t r g s n p)/\a f/\cl 142 #[(vp r1),(vi h),(vi 3)] f fun e d=>∃q bK u l b m o,e=.returned (Ac q bK u l b m o)/\a d/\K g b d
def Lh(r1:Option Addr)(r:Int)(q:World)(K:Int->ByteArray->WP):Prop:=cl 141 #[(vp r1),(vi r)] q fun e p=>∃r2 r3,e=.returned (.tuple #[(vs r2),(vi r3)])/\cl 142 #[(vp r1),(vi r3),(vi 4)] p fun e s=>∃h k f g i d l,e=.returned (Ac h k f g i d l)/\∀b c,av s (.cells #[(vi 0),(vi 0),(vi 0),(vu 0),ve,(vi 0),(vi 0)] 119) b c->(∀j,j<7->zL c (b.add j))/\∀a,a=bd c b (Ab h k f g i d l)->∃a1,r1=some a1/\lb a (a1.add 1) fun o=>Br o (∃a2,r1=some a2/\zL a (a2.add 1)/\∀m,m=a.setCell (a2.add 1) (vb true)->EM r1 b m K)<|∃a3,r1=some a3/\zL a (a3.add 1)/\∀n,n=a.setCell (a3.add 1) (vb<|!(decide (r2=(⟨#[100,101,97,108]⟩:ByteArray))))->EM r1 b n K
def jaI(r1 t1 w0 K)(h:Lh r1 t1 w0 K):
  cl 189 #[(vp r1),(vi t1)] w0<|XP K:=
 cy func189 h<|lv 4 call141<|cc 7 call142<|cj<|xe<|rt<|eo<|cf 0<|dh 0<|EL 0 0 [0,8] ([]) (fun w=>EM _ _ w _) (fun a=>nc 2<|ld 1<|br 1 1 (nc 3<|gr 1<|df 0 a)<|nc 3<|gr 1<|df 0 a)<|sE 0 [3,8] []<|il 2<|il 2<|cc 0 call142<|cj<|xe<|rt<|j9<|cc 1 call142<|cj<|xe<|rt<|j9<|rr 3
end Go.Proofs
end
section
open Go Go.SE List
namespace Go.Proofs
def qB(x:ByteArray):bt:=.mk 3 0 0 0 x []
def jl(n:Int):bt:=.mk 2 0 0 n ⟨#[]⟩ []
def qR(a b:bt):bt:=.mk 4 0 0 0 ⟨#[]⟩ [a,b]
def yD(n:Int)(a:bt):bt:=.mk 7 n 0 0 ⟨#[]⟩ [a]
def uA(n:Int)(a:bt)(dz:Bool):bt:=.mk (if dz then 9 else 8) n (1-n) 0 ⟨#[]⟩ [a]
def pU:ByteArray:=⟨#[100,101,97,108]⟩
def vO(c:Int)(x:ByteArray):bt:=qR (qB pU)<|qR (jl c)<|qB x
end Go.Proofs
namespace Go.Proofs
open Tryz
attribute [local irreducible] Calls
def cz.leaf{S w k f t u x}:cz S w Sl.nil (.mk k f t u x []):=
 .mk k f t u x [] Sl.nil (fun _=>Sl.nil) rfl Sm (fun i h=>by simp at h) (fun i h=>by simp at h)
def cz.one{S w k f t u x p A sa T}(hB:ai w p (fy A sa) T)(hS:S p.block)(a:cz S w sa A):cz S w ⟨some p,1,1⟩ (.mk k f t u x [A]):=by
 refine .mk k f t u x [A] _ (fun _=>sa) rfl Sm (fun i h=>?_) fun i h=>?_;have:i=0:=by simpa using h
 subst this;exact⟨p,⟨Om,Sm,p,rfl,rfl⟩,hS,hB.row⟩;grind
def cz.pR{S w k f t u x p A B sa sb T}(hB:ai w p (fy A sa++fy B sb) T)(hS:S p.block)(c:cz S w sa A)(b:cz S w sb B):cz S w ⟨some p,2,2⟩ (.mk k f t u x [A,B]):=by
 refine .mk k f t u x [A,B] _ (fun i=>if i=0 then sa else sb) rfl Sm (fun i h=>?_) fun i h=>?_;have:i=0\/i=1:=by simp at h;omega
 rcases this with rfl|rfl;refine⟨p,⟨Om,Sm,p,rfl,rfl⟩,hS,fun i hi=>?_⟩;have:=hB.row i (by simp[fy]at hi|-;omega);have a:i<6:=by simpa[fy]using hi
 rw[this];exact getElem?_append_left (by simp[fy];omega);refine⟨p.add<|1*6,⟨Om,Sm,p,rfl,rfl⟩,by rw[zC];exact hS,fun i hi=>?_⟩;have a:i<6:=by simpa[fy]using hi
 have:=hB.row (6+i) (by simp[fy];omega);rw[yO,this,getElem?_append_right<|by simp[fy]];simp[fy];grind
abbrev xt(a:Nat)(w:World)(T:bt)(e:Ending)(w':World):Prop:=∃s,e=.returned (.agg (fy T s).toArray)/\cz (a<=·) w' s T/\Pure w w'
def uN(n0 x w)(d:n0<=w.heap.size):cl 86 #[vs x] w (xt n0 w<|qB x):=by
 refine(U5 x w (fun k f t u y s w'=>(⟨k,f,t,u,y,0,0⟩:di)=(qB x).node/\cz (n0<=·) w' s (qB x)/\Pure w w') ?_).mono ?_;intro e g h1;exact bx 6 (ai.bj h1) rfl rfl fun w' b E=>⟨_,_,_,_,_,Sl.nil,b.row,rfl,cz.leaf,ab.ak (ab.ax h1) (av.ak (ab.refl w) h1) E⟩;rintro _ w' ⟨k,f,t,u,y,s,rfl,c,a,E⟩;cases c;exact⟨s,rfl,a,E⟩
def xY(n0 n w)(d:n0<=w.heap.size):cl 87 #[vu n] w (xt n0 w<|jl n):=by
 refine(S3 n w (fun k f t u y s w'=>(⟨k,f,t,u,y,0,0⟩:di)=(jl n).node/\cz (n0<=·) w' s (jl n)/\Pure w w') ?_).mono ?_;intro e g h1;exact bx 6 (ai.bj h1) rfl rfl fun w' b E=>⟨_,_,_,_,_,Sl.nil,b.row,rfl,cz.leaf,ab.ak (ab.ax h1) (av.ak (ab.refl w) h1) E⟩;rintro _ w' ⟨k,f,t,u,y,s,rfl,c,a,E⟩;cases c;exact⟨s,rfl,a,E⟩
def yR(n0 A B sa sb w)(D:n0<=w.heap.size)(v:cz (n0<=·) w sa A)(hB:cz (n0<=·) w sb B):
  cl 85 #[.agg (fy A sa).toArray,.agg (fy B sb).toArray] w<|xt n0 w<|qR A B:=by
 refine(jcO _ _ _ _ _ sa _ _ _ _ _ sb w (fun k f t u y s w'=>(⟨k,f,t,u,y,0,0⟩:di)=(qR A B).node/\cz (n0<=·) w' s (qR A B)/\Pure w w') ?_).mono ?_
 intro z m h1 C l h2 p d h3
 have o:Pure w m:=ab.ax h1
 have g:=o.trans<|ab.ax h2
 have i:Pure w d:=g.trans<|ab.ax h3
 have b1:=((ai.bj h1).pure<|ab.ax h2).pure (ab.ax h3:Pure l d)
 have b2:=(ai.bj h2).pure (ab.ax h3:Pure l d)
 refine⟨_,_,_,_,_,sa,b1.row,_,_,_,_,_,sb,b2.row,?_⟩
 intro n x a
 have h:=av.ak g h3
 have c:p.block≠n.block:=av.ne a (ai.bj h3).aq
 have e:Pure w x:=i.trans<|ab.ax a
 have F:=av.ak i a
 refine bx 6 ((ai.bj h3).pure<|ab.ax a) rfl rfl fun w' b E=>⟨_,_,_,_,_,_,b.row,rfl,?_,e.ak h E⟩
 have b4:=(ai.bj a).ext E c.symm
 have j:=e.ak h E
 refine cz.pR (A:=A) (B:=B) (sa:=sa) (sb:=sb) b4 (by show n0<=_;omega) (v.pure j)<|hB.pure j
 rintro _ w' ⟨k,f,t,u,y,s,rfl,r,q,E⟩
 cases r;exact⟨s,rfl,q,E⟩
def tF(n0 n A sa w)(x:n0<=w.heap.size)(r:cz (n0<=·) w sa A):
  cl 84 #[vi n,.agg (fy A sa).toArray] w<|xt n0 w<|yD n A:=by
 refine(jdc n _ _ _ _ _ sa w (fun k f t u y s w'=>(⟨k,f,t,u,y,0,0⟩:di)=(yD n A).node/\cz (n0<=·) w' s (yD n A)/\Pure w w') ?_).mono ?_
 intro B h h1 l i h3
 have g:Pure w h:=ab.ax h1
 have j:Pure w i:=g.trans<|ab.ax h3
 have b1:=(ai.bj h1).pure (ab.ax h3:Pure h i)
 refine⟨_,_,_,_,_,sa,b1.row,?_⟩
 intro v p a
 have d:=av.ak g h3
 have c:l.block≠v.block:=av.ne a (ai.bj h3).aq
 have e:Pure w p:=j.trans<|ab.ax a
 have z:=av.ak j a
 refine bx 6 ((ai.bj h3).pure<|ab.ax a) rfl rfl fun w' b E=>⟨_,_,_,_,_,_,b.row,rfl,?_,e.ak d E⟩
 have b4:=(ai.bj a).ext E c.symm
 have q:=e.ak d E
 exact cz.one (A:=A) (sa:=sa) b4 (by show n0<=_;omega)<|r.pure q
 rintro _ w' ⟨k,f,t,u,y,s,rfl,o,m,E⟩
 cases o;exact⟨s,rfl,m,E⟩
def uM(n0 n)(o:n=0\/n=1)(A dz sa w)(D:n0<=w.heap.size)(x:cz (n0<=·) w sa A):
  cl 83 #[vi n,.agg (fy A sa).toArray,vb dz] w<|xt n0 w<|uA n A dz:=by
 refine(jcp n _ _ _ _ _ sa dz w (fun k f t u y s w'=>(⟨k,f,t,u,y,0,0⟩:di)=(uA n A dz).node/\cz (n0<=·) w' s (uA n A dz)/\Pure w w') ?_).mono ?_
 .intro C e h1 p l h3
  have i:Pure w e:=ab.ax h1
  have j:Pure w l:=i.trans<|ab.ax h3
  have b1:=(ai.bj h1).pure (ab.ax h3:Pure e l)
  have B:IntKind.i64.wrap (1-n)=1-n:=i64 Om Om
  rw[B]
  refine⟨fun h=>⟨_,_,_,_,_,sa,b1.row,?_⟩,fun h=>⟨_,_,_,_,_,sa,b1.row,?_⟩⟩
  all_goals
   intro m z a
   have g:=av.ak i h3
   have c:p.block≠m.block:=av.ne a (ai.bj h3).aq
   have d:Pure w z:=j.trans<|ab.ax a
   have F:=av.ak j a
   refine bx 6 ((ai.bj h3).pure<|ab.ax a) rfl rfl fun w' b E=>⟨_,_,_,_,_,_,b.row,by rw[h];rfl,?_,d.ak g E⟩
   have b4:=(ai.bj a).ext E c.symm
   have v:=d.ak g E
   exact cz.one (A:=A) (sa:=sa) b4 (by show n0<=_;omega)<|x.pure v
 .rintro _ w' ⟨k,f,t,u,y,s,rfl,r,q,E⟩
  cases r;exact⟨s,rfl,q,E⟩
def jQU(n0 c x w)(M:n0<=w.heap.size):cl 82 #[vu c,vs x] w (xt n0 w<|vO c x):=by
 refine(jav c x w (fun k f t u y s w'=>(⟨k,f,t,u,y,0,0⟩:di)=(vO c x).node/\cz (n0<=·) w' s (vO c x)/\Pure w w') ?_).mono ?_;intro J a h1;have i:Pure w a:=ab.ax h1;have o1:=av.ak (ab.refl w) h1;have s1:w.heap.size<=a.heap.size:=i.size;refine(uN a.heap.size _ a Om).mono ?_;rintro _ H ⟨sa,rfl,C,m⟩;have I:=m.size;refine⟨_,_,_,_,_,sa,rfl,?_⟩;refine(xY a.heap.size c H Om).mono ?_;rintro _ F ⟨sb,rfl,hB,g⟩;have L:=g.size;refine⟨_,_,_,_,_,sb,rfl,?_⟩;refine(uN a.heap.size x F Om).mono ?_;rintro _ G ⟨sc,rfl,D,d⟩;have K:=d.size;refine⟨_,_,_,_,_,sc,rfl,?_⟩;refine(yR a.heap.size (jl c) (qB x) sb sc G Om (hB.pure d) D).mono ?_;rintro _ A ⟨n,rfl,o,h⟩;have N:=h.size;refine⟨_,_,_,_,_,n,rfl,?_⟩;refine(yR a.heap.size (qB pU) (qR (jl c)<|qB x) sa n A Om (((C.pure g).pure d).pure h) o).mono ?_;rintro _ p ⟨l,rfl,r,v⟩;have E:Pure a p:=(((m.trans g).trans d).trans h).trans v;refine⟨_,_,_,_,_,l,rfl,?_⟩;refine bx 6 ((ai.bj h1).pure E) rfl rfl fun w' b j=>⟨_,_,_,_,_,l,b.row,rfl,?_,(i.trans E).ak o1 j⟩;exact(r.ext j fun b q e=>by have:=(ai.bj h1).lt;have:a.heap.size<=b:=q;omega).mono Gd;rintro _ w' ⟨k,f,t,u,y,s,rfl,B,z,E⟩;cases B;exact⟨s,rfl,z,E⟩
end Go.Proofs
end
section
open Go Go.SE List
namespace Go.Proofs
structure dy where
 kind:Int
 az:Int
 c:Int
 bb:ByteArray
 dz:Bool
deriving DecidableEq
def vx:dy:=⟨0,0,0,⟨#[]⟩,false⟩
def tM:ByteArray:=⟨#[97,98,111,114,116]⟩
def uF:ByteArray:=⟨#[114,101,115,111,108,118,101]⟩
def yS:ByteArray:=⟨#[97,98,111,114,116,101,100]⟩
def yG:ByteArray:=⟨#[105,110,115,116,101,97,100]⟩
def wE:ByteArray:=⟨#[102,117,108,108]⟩
def zT(l:dy)(first a:Bool):bt:=
 if l.kind=1 then uA l.az (vO l.c l.bb) l.dz
 else if l.kind=2 then yD l.az (vO l.c l.bb)
 else if l.kind=3 then yD 0 (qR (qB tM)<|jl l.c)
 else if l.kind=4 then yD l.az (qR (qB uF)<|qR (uA 0 (vO l.c l.bb)<|l.dz&&first) (uA 1 (vO l.c l.bb)<|l.dz&&a))
 else if l.kind=5 then yD 2 (qR (qB yS)<|jl l.c)
 else if l.kind=6 then yD 2 (qR (qB yG)<|vO l.c l.bb)
 else qR (qB wE) (jl l.c)
end Go.Proofs
namespace Go.Proofs
open Tryz
attribute [local irreducible] Calls
def jQT(n0 k f c x dz first second w)(h0:n0<=w.heap.size)(hf:f=0\/f=1):
  cl 25 #[.agg #[vi k,vi f,vu c,vs x,vb dz],vb first,vb second] w (xt n0 w<|zT ⟨k,f,c,x,dz⟩ first second):=by
 generalize hR:zT ⟨k,f,c,x,dz⟩ first second=R
 suffices key:∀K:Int->Int->Int->Int->ByteArray->Sl->WP,(∀s w',cz (n0<=·) w' s R/\Pure w w'->K R.node.kind R.node.az R.node.to R.node.num R.node.bb s w')->N4 k f c x dz first second w K by
  refine(VZ k f c x dz first second w (fun k f t u y s w'=>(k=R.node.kind/\f=R.node.az/\t=R.node.to/\u=R.node.num/\y=R.node.bb)/\cz (n0<=·) w' s R/\Pure w w') (key _ Gd)).mono ?_;rintro _ w' ⟨k,f,t,u,y,s,rfl,⟨rfl,rfl,rfl,rfl,rfl⟩,S,E⟩;exact⟨s,rfl,S,E⟩
 intro K hK
 intro p1 w1 h1 p2 n h2
 have E1:Pure w w1:=ab.ax h1
 have E2:Pure w n:=E1.trans<|ab.ax h2
 have o2:=av.ak E1 h2
 have a1:=(ai.bj h1).pure (ab.ax h2:Pure w1 n)
 have a2:=ai.bj h2
 have l1:=a1.lt
 have l2:=a2.lt
 have s2:=E2.size
 clear h1 h2
 refine⟨_,a1.cell rfl,_,a1.cell rfl,?_⟩
 refine(jQU n.heap.size c x n<|Nat.le_refl _).mono ?_
 rintro _ w3 ⟨O,rfl,hD,E3⟩
 refine⟨_,_,_,_,_,O,rfl,?_⟩
 intro p3 w4 h4
 have o3:=av.ak (ab.refl w3) h4
 refine bx 6 (ai.bj h4) rfl rfl fun M b3 E'=>?_
 have E5:Pure w3 M:=ab.ak (ab.ax h4) o3 E'
 have hD5:=hD.pure E5
 have E25:Pure n M:=E3.trans E5
 have s5:=E25.size
 have b1:=a1.pure E25
 have b3:ai M p3 (fy (vO c x) O) 71:=b3
 clear E' h4 E5 hD E3
 have P : ∀ (T : bt) (s : Sl) (w' : World), Pure M w' -> cz (n.heap.size <= ·) w' s T -> T = R ->
   (∀j,j<6->zL w' (p2.add j))/\∀A:World,A=bd w' p2 (fy T s) ->
   ∃z:Int,∃p:Int,∃N:Int,∃B:Int,∃o:ByteArray,∃r:Sl,Row A p2 [(vi z),(vi p),(vi N),(vu B),(vs o),r.v]/\K z p N B o r A:=by
  rintro T s w' E S rfl
  refine bx 6 (a2.pure<|E25.trans E) rfl rfl fun A b E'=>⟨_,_,_,_,_,s,b.row,hK s A ⟨?_,(E2.trans<|E25.trans E).ak o2 E'⟩⟩
  exact(S.ext E' Gd).mono Gd
 have drawn:∃C:WP,C M.drew/\(∀w' A,Pure w' A->C w'->C A)/\(∀w',C w'->ai w' p1 [vi k,vi f,vu c,vs x,vb dz] 35/\ai w' p3 (fy (vO c x) O) 71):=
  ⟨fun w'=>ai w' p1 [vi k,vi f,vu c,vs x,vb dz] 35/\ai w' p3 (fy (vO c x) O) 71,⟨b1.pure<|ab.drew M,b3.pure<|ab.drew M⟩,fun _ _ E h=>⟨h.1.pure E,h.2.pure E⟩,fun _ h=>h⟩
 have⟨C,X,G,L⟩:=drawn
 refine⟨k,b1.bf,fun F=>?_,fun hk1=>⟨fun F=>?_,fun hk2=>⟨fun F=>?_,fun hk3=>⟨fun F=>?_,fun hk4=>⟨fun F=>?_,fun hk5=>⟨fun F=>?_,fun hk6=>?_⟩⟩⟩⟩⟩⟩
 .have F:k=1:=by simpa using F
  refine⟨f,b1.cell rfl,_,_,_,_,_,O,b3.row,dz,b1.cell rfl,?_⟩
  refine(uM n.heap.size f hf (vO c x) dz O M s5 hD5).mono ?_
  rintro _ w6 ⟨s,rfl,S,E6⟩
  exact⟨_,_,_,_,_,s,rfl,P _ s w6 E6 S (by rw[<-hR];simp only[zT];rw[if_pos F])⟩
 .have F:k=2:=by simpa using F
  refine⟨f,b1.cell rfl,_,_,_,_,_,O,b3.row,?_⟩
  refine(tF n.heap.size f (vO c x) O M s5 hD5).mono ?_
  rintro _ w6 ⟨s,rfl,S,E6⟩
  exact⟨_,_,_,_,_,s,rfl,P _ s w6 E6 S (by rw[<-hR];simp only[zT];rw[if_neg Om,if_pos F])⟩
 .have F:k=3:=by simpa using F
  refine⟨C,X,?_⟩
  intro i a
  have m:Pure M i:=by rw[a];exact ab.drew M
  have q:C i:=by rw[a];exact X
  clear a
  have Z:=m.size
  refine⟨c,fun w' h=>(L w' h).1.cell rfl,?_⟩
  refine(uN n.heap.size _ i Om).mono ?_
  rintro _ H ⟨sa,rfl,hA,g⟩
  have s11:=g.size
  refine⟨_,_,_,_,_,sa,rfl,G _ _ g q,?_⟩
  refine(xY n.heap.size c H Om).mono ?_
  rintro _ J ⟨sb,rfl,hB,d⟩
  have Y:=d.size
  refine⟨_,_,_,_,_,sb,rfl,?_⟩
  refine(yR n.heap.size (qB tM) (jl c) sa sb J Om (hA.pure d) hB).mono ?_
  rintro _ I ⟨se,rfl,hE,l⟩
  have s13:=l.size
  refine⟨_,_,_,_,_,se,rfl,?_⟩
  refine(tF n.heap.size 0 (qR (qB tM)<|jl c) se I Om hE).mono ?_
  rintro _ V ⟨s,rfl,S,W⟩
  exact⟨_,_,_,_,_,s,rfl,P _ s V ((((m.trans g).trans d).trans l).trans W) S (by rw[<-hR];simp only[zT];rw[if_neg Om,if_neg Om,if_pos F])⟩
 .have F:k=4:=by simpa using F
  refine⟨C,X,?_⟩
  intro i a
  have m:Pure M i:=by rw[a];exact ab.drew M
  have q:C i:=by rw[a];exact X
  clear a
  have Z:=m.size
  refine⟨f,fun w' h=>(L w' h).1.cell rfl,_,_,_,_,_,O,fun w' h=>(L w' h).2.row,dz,fun w' h=>(L w' h).1.cell rfl,_,_,_,_,_,O,fun w' h=>(L w' h).2.row,dz,fun w' h=>(L w' h).1.cell rfl,?_⟩
  refine(uN n.heap.size _ i Om).mono ?_
  rintro _ H ⟨sa,rfl,hA,g⟩
  have s11:=g.size
  have U:=hD5.pure<|m.trans g
  have D:=G _ _ g q
  refine⟨_,_,_,_,_,sa,rfl,D,?_⟩
  have rest : ∀ (u v : Bool) (sx sy : Sl) (w' : World), u = (dz && first) -> v = (dz && second) -> Pure H w' -> cz (n.heap.size <= ·) w' sx (uA 0 (vO c x) u) -> cz (n.heap.size <= ·) w' sy (uA 1 (vO c x) v) ->
    cl 85 #[.agg (fy (uA 0 (vO c x) u) sx).toArray,.agg (fy (uA 1 (vO c x) v) sy).toArray] w' (fun e wa=>∃k1 f1 t1 u1 y1,∃s1:Sl,e=.returned (.agg #[vi k1,vi f1,vi t1,vu u1,vs y1,s1.v])/\C wa /\
     cl 85 #[.agg (fy (qB uF) sa).toArray,.agg #[vi k1,vi f1,vi t1,vu u1,vs y1,s1.v]] wa (fun e wb=>∃k1 f1 t1 u1 y1,∃s1:Sl,e=.returned (.agg #[vi k1,vi f1,vi t1,vu u1,vs y1,s1.v])/\C wb /\
      cl 84 #[vi f,.agg #[vi k1,vi f1,vi t1,vu u1,vs y1,s1.v]] wb (fun e wc=>∃k1 f1 t1 u1 y1,∃s1:Sl,e=.returned (.agg #[vi k1,vi f1,vi t1,vu u1,vs y1,s1.v]) /\
       (∀j,j<6->zL wc (p2.add j))/\∀A:World,A=bd wc p2 [vi k1,vi f1,vi t1,vu u1,vs y1,s1.v] ->
   ∃z:Int,∃p:Int,∃N:Int,∃B:Int,∃o:ByteArray,∃r:Sl,Row A p2 [(vi z),(vi p),(vi N),(vu B),(vs o),r.v]/\K z p N B o r A))):=by
   intro u v sx sy w' hu hv E hX hY
   have s':=E.size
   refine(yR n.heap.size (uA 0 (vO c x) u) (uA 1 (vO c x) v) sx sy w' Om hX hY).mono ?_
   rintro _ wa ⟨s1,rfl,h1,Ea⟩
   have sa':=Ea.size
   refine⟨_,_,_,_,_,s1,rfl,G _ _ (E.trans Ea) D,?_⟩
   refine(yR n.heap.size (qB uF) (qR (uA 0 (vO c x) u)<|uA 1 (vO c x) v) sa s1 wa Om (hA.pure<|E.trans Ea) h1).mono ?_
   rintro _ wb ⟨s2,rfl,h2,Eb⟩
   have sb':=Eb.size
   refine⟨_,_,_,_,_,s2,rfl,G _ _ ((E.trans Ea).trans Eb) D,?_⟩
   refine(tF n.heap.size f (qR (qB uF)<|qR (uA 0 (vO c x) u)<|uA 1 (vO c x) v) s2 wb Om h2).mono ?_
   rintro _ wc ⟨s3,rfl,h3,Ec⟩
   exact⟨_,_,_,_,_,s3,rfl,P _ s3 wc (((((m.trans g).trans E).trans Ea).trans Eb).trans Ec) h3 (by rw[<-hR,hu,hv];simp only[zT];rw[if_neg Om,if_neg Om,if_neg Om,if_pos F])⟩
  refine⟨fun Q=>?_,fun Q=>?_⟩
  .refine(uM n.heap.size 0 (.inl rfl) (vO c x) first O H Om U).mono ?_
   rintro _ J ⟨sx,rfl,hX,d⟩
   have Y:=d.size
   refine⟨_,_,_,_,_,sx,rfl,G _ _ d D,Br.t Q ?_⟩
   refine(uM n.heap.size 1 (.inr rfl) (vO c x) second O J Om<|U.pure d).mono ?_
   rintro _ I ⟨sy,rfl,hY,l⟩
   exact⟨_,_,_,_,_,sy,rfl,G _ _ (d.trans l) D,rest first second sx sy I (by rw[Q];rfl) (by rw[Q];rfl) (d.trans l) (hX.pure l) hY⟩
  .refine(uM n.heap.size 0 (.inl rfl) (vO c x) false O H Om U).mono ?_
   rintro _ J ⟨sx,rfl,hX,d⟩
   have Y:=d.size
   refine⟨_,_,_,_,_,sx,rfl,G _ _ d D,Br.f Q ?_⟩
   refine(uM n.heap.size 1 (.inr rfl) (vO c x) false O J Om<|U.pure d).mono ?_
   rintro _ I ⟨sy,rfl,hY,l⟩
   exact⟨_,_,_,_,_,sy,rfl,G _ _ (d.trans l) D,rest false false sx sy I (by rw[Q];rfl) (by rw[Q];rfl) (d.trans l) (hX.pure l) hY⟩
 .have F:k=5:=by simpa using F
  refine⟨C,X,?_⟩
  intro i a
  have m:Pure M i:=by rw[a];exact ab.drew M
  have q:C i:=by rw[a];exact X
  clear a
  have Z:=m.size
  refine⟨c,fun w' h=>(L w' h).1.cell rfl,?_⟩
  refine(uN n.heap.size _ i Om).mono ?_
  rintro _ H ⟨sa,rfl,hA,g⟩
  have s11:=g.size
  refine⟨_,_,_,_,_,sa,rfl,G _ _ g q,?_⟩
  refine(xY n.heap.size c H Om).mono ?_
  rintro _ J ⟨sb,rfl,hB,d⟩
  have Y:=d.size
  refine⟨_,_,_,_,_,sb,rfl,?_⟩
  refine(yR n.heap.size (qB yS) (jl c) sa sb J Om (hA.pure d) hB).mono ?_
  rintro _ I ⟨se,rfl,hE,l⟩
  have s13:=l.size
  refine⟨_,_,_,_,_,se,rfl,?_⟩
  refine(tF n.heap.size 2 (qR (qB yS)<|jl c) se I Om hE).mono ?_
  rintro _ V ⟨s,rfl,S,W⟩
  exact⟨_,_,_,_,_,s,rfl,P _ s V ((((m.trans g).trans d).trans l).trans W) S (by rw[<-hR];simp only[zT];rw[if_neg Om,if_neg Om,if_neg Om,if_neg Om,if_pos F])⟩
 .have F:k=6:=by simpa using F
  refine⟨C,X,?_⟩
  intro i a
  have m:Pure M i:=by rw[a];exact ab.drew M
  have q:C i:=by rw[a];exact X
  clear a
  have Z:=m.size
  refine⟨_,_,_,_,_,O,fun w' h=>(L w' h).2.row,?_⟩
  refine(uN n.heap.size _ i Om).mono ?_
  rintro _ H ⟨sa,rfl,hA,g⟩
  have s11:=g.size
  refine⟨_,_,_,_,_,sa,rfl,G _ _ g q,?_⟩
  refine(yR n.heap.size (qB yG) (vO c x) sa O H Om hA<|hD5.pure<|m.trans g).mono ?_
  rintro _ I ⟨se,rfl,hE,l⟩
  have s13:=l.size
  refine⟨_,_,_,_,_,se,rfl,?_⟩
  refine(tF n.heap.size 2 (qR (qB yG)<|vO c x) se I Om hE).mono ?_
  rintro _ V ⟨s,rfl,S,W⟩
  exact⟨_,_,_,_,_,s,rfl,P _ s V (((m.trans g).trans l).trans W) S (by rw[<-hR];simp only[zT];rw[if_neg Om,if_neg Om,if_neg Om,if_neg Om,if_neg Om,if_pos F])⟩
 .have hk1:k≠1:=by simpa using hk1
  have hk2:k≠2:=by simpa using hk2
  have hk3:k≠3:=by simpa using hk3
  have hk4:k≠4:=by simpa using hk4
  have hk5:k≠5:=by simpa using hk5
  have hk6:k≠6:=by simpa using hk6
  refine⟨C,X,?_⟩
  intro i a
  have m:Pure M i:=by rw[a];exact ab.drew M
  have q:C i:=by rw[a];exact X
  clear a
  have Z:=m.size
  refine⟨c,fun w' h=>(L w' h).1.cell rfl,?_⟩
  refine(uN n.heap.size _ i Om).mono ?_
  rintro _ H ⟨sa,rfl,hA,g⟩
  have s11:=g.size
  refine⟨_,_,_,_,_,sa,rfl,G _ _ g q,?_⟩
  refine(xY n.heap.size c H Om).mono ?_
  rintro _ J ⟨sb,rfl,hB,d⟩
  have Y:=d.size
  refine⟨_,_,_,_,_,sb,rfl,?_⟩
  refine(yR n.heap.size (qB wE) (jl c) sa sb J Om (hA.pure d) hB).mono ?_
  rintro _ I ⟨s,rfl,S,l⟩
  exact⟨_,_,_,_,_,s,rfl,P _ s I (((m.trans g).trans d).trans l) S (by rw[<-hR];simp only[zT];rw[if_neg hk1,if_neg hk2,if_neg hk3,if_neg hk4,if_neg hk5,if_neg hk6])⟩
end Go.Proofs
end
section
open Go Go.SE List
namespace Go.Proofs
def vC(L:aw)(t kind:Int):di×Bool:=if al L t=true/\(ad L t).kind=kind then(ad L t,false)else(xC,true)
def zR(L:aw)(t:Int):(ByteArray×Int)×Bool:=
 (((vC L (vC L t 4).1.a 3).1.bb,(vC L t 4).1.b),(vC L t 4).2 ||(vC L (vC L t 4).1.a 3).2)
def vW(L:aw)(t:Int):(Int×ByteArray)×Bool:=
 let g:=zR L t
 let n:=vC L g.1.2 4
 (((vC L n.1.a 2).1.num,(vC L n.1.b 3).1.bb),g.2 ||n.2 ||!decide (g.1.1=pU) ||(vC L n.1.a 2).2 ||(vC L n.1.b 3).2)
end Go.Proofs
namespace Go.Proofs
open Tryz
attribute [local irreducible] Calls
def sS(w:World)(q:Option Addr)(L:aw)(F:NP):Prop:=match q with
 |some p=>zD w p L F
 |none=>L=[]/\∀b,¬F b
def sS.ext{G w w' p L F}(h:sS w p L F)(c:ab G w w')(a:∀b,F b->¬G b):sS w' p L F:=by
 cases p with
 |none=>exact h
 |some p=>exact zD.ext h c a
def sS.pure{w w' p L F}(h:sS w p L F)(a:Pure w w'):sS w' p L F:=h.ext a fun _ _ h=>h
def sS.lt{w p L F}(h:sS w p L F){b}(a:F b):b<w.heap.size:=by
 cases p with
 |none=>exact absurd a<|h.2 b
 |some p=>exact zD.lt h a
def Hs(p t w){L F}(j:sS w p L F)(e:Ok L):cl 109 #[vp p,vi t] w
  (XL fun k f m u x a b r w'=>((⟨k,f,m,u,x,a,b⟩:di)=ad L t/\r=al L t)/\Pure w w'):=by
 cases p with
 |some p=>exact tj p t w j e
 |none =>
  obtain⟨rfl,_⟩:=j
  have d:al [] t=false:=by cases h:al [] t;rfl;have:=zI.1 h;simp at this;omega
  have i:ad [] t=⟨0,0,0,0,⟨#[]⟩,0,0⟩:=by unfold ad get;split<;>simp[xC]
  rw[d,i]
  refine OM none t w _ ?_
  intro q c h1
  have o:Pure w c:=ab.ax h1
  have b1:=ai.bj h1
  have n:=av.ak (ab.refl w) h1
  have g:cl 130 #[vp none,vi t] c (XC fun r w'=>r=false/\w'=c):=by
   refine K7 _ _ c (fun r w'=>r=false/\w'=c) ?_;unfold Gv;have l:BH none t false c (fun r w'=>r=false/\w'=c):=by
    unfold BH
    first
     |exact Br.f rfl ⟨rfl,rfl⟩
     |exact⟨rfl,rfl⟩
     |(exact Br.f rfl ⟨rfl,rfl⟩)
     |(refine Br.f rfl ?_;exact⟨rfl,rfl⟩)
   first
    |exact Br.f rfl l
    |exact Br.t rfl l
  refine g.mono ?_
  rintro _ _ ⟨_,rfl,rfl,rfl⟩
  exact⟨_,rfl,fun h1=>bx 7 b1 rfl rfl fun w' b E=>⟨_,_,_,_,_,_,_,b.row,⟨rfl,rfl⟩,o.ak n E⟩,fun h1=>by cases h1⟩
structure lj(w:World)(r:Addr)(p:Option Addr)(a:Bool)(L:aw)(F:NP):Prop where
 box:ai w r [vp p,vb a] 212
 bl:sS w p L F
 ok:Ok L
 iw:¬F r.block
def lj.pure{w w' r p bad L F}(h:lj w r p bad L F)(E:Pure w w'):lj w' r p bad L F:=⟨h.box.pure E,h.bl.pure E,h.ok,h.iw⟩
def tG(r p t kind bad w){L F}(k:lj w r p bad L F):
  cl 142 #[vp<|some r,vi t,vi kind] w
   (XN fun k' D A B J z y w'=>(⟨k',D,A,B,J,z,y⟩:di)=(vC L t kind).1/\lj w' r p (bad ||(vC L t kind).2) L F/\ab (·=r.block) w w'):=by
 suffices key:∀K:Int->Int->Int->Int->ByteArray->Int->Int->WP,(∀k' D A B J z y w',((⟨k',D,A,B,J,z,y⟩:di)=(vC L t kind).1/\lj w' r p (bad ||(vC L t kind).2) L F/\ab (·=r.block) w w')->K k' D A B J z y w')->LN (some r) t kind w K from
  WN _ _ _ w _<|key _ fun _ _ _ _ _ _ _ _ h=>h
 intro K U
 intro v V h1
 have O:Pure w V:=ab.ax h1
 have o1:=av.ak (ab.refl w) h1
 have lr:=k.box.lt
 have b1:=ai.bj h1
 refine⟨r,rfl,p,(k.box.pure O).bf,?_⟩
 refine(Hs p t V (k.bl.pure O) k.ok).mono ?_
 rintro _ w2 ⟨k',D,A,B,J,z,y,ok,rfl,⟨R,E⟩,l⟩
 refine⟨_,_,_,_,_,_,_,_,rfl,?_⟩
 intro X w3 h3
 have N:Pure w w2:=O.trans l
 have Z:=av.ak N h3
 have T:v.block≠X.block:=av.ne h3 (b1.pure l).aq
 refine bx 7 (ai.bj h3) rfl rfl fun I b2 Q=>?_
 have M:Pure w I:=(N.trans<|ab.ax h3).ak Z Q
 have W:=((b1.pure l).pure<|ab.ax h3).ext Q T
 have o:=k.pure M
 clear Q N l b1 h1 h3
 have m : vC L t kind = (xC, true) -> zL I (r.add 1) /\ ∀ u : World, u = I.setCell (r.add 1) (vb true) ->
   (∀j,j<7->zL u (v.add j))/\∀x:World,x=bd u v [(vi 0),(vi 0),(vi 0),(vu 0),(vs (⟨#[]⟩:ByteArray)),(vi 0),(vi 0)] ->
   ∃d:Int,∃c:Int,∃n:Int,∃g:Int,∃a:ByteArray,∃H:Int,∃C:Int,Row x v [(vi d),(vi c),(vi n),(vu g),(vs a),(vi H),(vi C)] /\
   K d c n g a H C x:=by
  intro f
  refine⟨o.box.eh Sm,?_⟩
  intro u q
  have d5:ai u r [vp p,vb true] 212:=by rw[q];exact o.box.set 1 _
  have S:ab (·=r.block) I u:=by rw[q];have:=ab.setCell (w:=I) (r.add 1)<|vb true;rw[zC]at this;exact this
  clear q
  have G:v.block≠r.block:=Om
  refine bx 7 (W.ext S G) rfl rfl fun x b6 s=>⟨_,_,_,_,_,_,_,b6.row,U _ _ _ _ _ _ _ _ ⟨by rw[f];rfl,⟨?_,?_,k.ok,k.iw⟩,?_⟩⟩
  rw[f];simp only[Bool.or_true];exact d5.ext s G.symm
  exact(o.bl.ext S fun b P e=>k.iw<|e▸P).ext s fun b P e=>Oh<|k.bl.lt P
  exact(M.pure.trans S).cg s fun i hi h=>Om
 refine⟨fun h=>⟨r,rfl,?_⟩,fun h=>⟨k',b2.bf,fun h2=>⟨r,rfl,?_⟩,fun h2=>?_⟩⟩
 refine m ?_
 have:¬al L t=true:=by rw[<-E];simpa using h
 unfold vC;rw[if_neg fun h=>this h.1]
 refine m ?_
 have:(ad L t).kind≠kind:=by rw[<-R];simpa using h2
 unfold vC;rw[if_neg fun h=>this h.2]
 have hi:al L t=true:=by rw[<-E];simpa using h
 have Y:(ad L t).kind=kind:=by rw[<-R];simpa using h2
 have f:vC L t kind=(ad L t,false):=by unfold vC;rw[if_pos ⟨hi,Y⟩]
 refine⟨_,_,_,_,_,_,_,b2.row,bx 7 W rfl rfl fun x b6 s=>⟨_,_,_,_,_,_,_,b6.row,U _ _ _ _ _ _ _ _ ⟨by rw[f];exact R,?_,?_⟩⟩⟩
 rw[f];simp only[Bool.or_false]
 exact k.pure<|M.ak o1 s
 exact(M.ak o1 s).pure
def FB(r p t bad w){L F}(A:lj w r p bad L F):
  cl 141 #[vp<|some r,vi t] w
   (XO fun x b w'=>(x,b)=(zR L t).1/\lj w' r p (bad ||(zR L t).2) L F/\ab (·=r.block) w w'):=by
 suffices key:∀K:ByteArray->Int->WP,(∀x b w',((x,b)=(zR L t).1/\lj w' r p (bad ||(zR L t).2) L F/\ab (·=r.block) w w')->K x b w')->ME (some r) t w K from
  jbO _ _ w _<|key _ fun _ _ _ h=>h
 intro K z
 refine(tG r p t 4 bad w A).mono ?_
 rintro _ i ⟨y,m,q,s,u,a1,b1,rfl,k,e,B⟩
 refine⟨_,_,_,_,_,_,_,rfl,?_⟩
 intro o Q h2
 have o2:=av.ak (ab.refl i) h2
 refine bx 7 (ai.bj h2) rfl rfl fun f b3 E=>?_
 have C:Pure i f:=ab.ak (ab.ax h2) o2 E
 have M:=e.box.lt
 refine⟨fun w'=>ai w' o [vi y,vi m,vi q,vu s,vs u,vi a1,vi b1] 119,b3.pure<|ab.drew f,?_⟩
 intro l c
 have n:Pure i l:=by rw[c];exact C.fb<|ab.drew f
 have G:ai l o [vi y,vi m,vi q,vu s,vs u,vi a1,vi b1] 119:=by rw[c];exact b3.pure<|ab.drew f
 clear c
 refine⟨a1,fun w' h=>h.cell rfl,b1,fun w' h=>h.cell rfl,?_⟩
 refine(tG r p a1 3 _ l<|e.pure n).mono ?_
 rintro _ O ⟨N,J,P,H,I,a2,b2,rfl,j,d,v⟩
 refine⟨_,_,_,_,_,_,_,rfl,G.ext v Om,z _ _ _ ⟨?_,?_,?_⟩⟩
 have g:a1=(vC L t 4).1.a:=by rw[<-k]
 have D:b1=(vC L t 4).1.b:=by rw[<-k]
 simp only[zR,<-g,<-D,<-j]
 have g:a1=(vC L t 4).1.a:=by rw[<-k]
 rw[g]at d
 simp only[zR,<-Bool.or_assoc]
 exact d
 exact(B.fb n).trans v
end Go.Proofs
end
section
open Go Go.SE List
namespace Go.Proofs
def zN(L:aw)(t:Int):dy×Bool:=
 let n:=ad L t
 if(n.kind≠8/\n.kind≠9)\/1<n.az\/n.to≠IntKind.i64.wrap (1-n.az)then(vx,true)
 else(⟨1,n.az,(vW L n.a).1.1,(vW L n.a).1.2,n.kind==9⟩,(vW L n.a).2)
end Go.Proofs
namespace Go.Proofs
open Tryz
attribute [local irreducible] Calls
def Qt(r p t bad w){L F}(o:lj w r p bad L F):
  cl 189 #[vp<|some r,vi t] w
   (XP fun c x w'=>(c,x)=(vW L t).1/\lj w' r p (bad ||(vW L t).2) L F/\ab (·=r.block) w w'):=by
 suffices key:∀K:Int->ByteArray->WP,(∀c x w',((c,x)=(vW L t).1/\lj w' r p (bad ||(vW L t).2) L F/\ab (·=r.block) w w')->K c x w')->Lh (some r) t w K from
  jaI _ _ w _<|key _ fun _ _ _ h=>h
 intro K Z
 refine(FB r p t bad w o).mono ?_
 rintro _ w1 ⟨q,l,rfl,Q,B,E1⟩
 refine⟨_,_,rfl,?_⟩
 refine(tG r p l 4 _ w1 B).mono ?_
 rintro _ W ⟨k2,f2,t2,Y,x2,a2,b2,rfl,V,j,E2⟩
 refine⟨_,_,_,_,_,_,_,rfl,?_⟩
 intro M w3 h3
 have o3:=av.ak (ab.refl W) h3
 have l2:=j.box.lt
 refine bx 7 (ai.bj h3) rfl rfl fun i b4 U=>?_
 have J:Pure W i:=ab.ak (ab.ax h3) o3 U
 have d:=j.pure J
 clear U h3
 have R:l=(zR L t).1.2:=congrArg Prod.snd Q
 have ex:q=(zR L t).1.1:=congrArg Prod.fst Q
 have H:a2=(vC L l 4).1.a:=by rw[<-V]
 have S:b2=(vC L l 4).1.b:=by rw[<-V]
 generalize z:(bad ||(zR L t).2 ||(vC L l 4).2)=f at *
 have s:∀(v:Bool) (g:World),(v=(f ||!decide (q=pU)))->ai g r [vp p,vb v] 212->ab (·=r.block) i g->EM (some r) M g K:=by
  intro v g hv B5 C;have u:lj g r p v L F:=⟨B5,d.bl.ext C fun b hb e=>o.iw<|e▸hb,o.ok,o.iw⟩;have X:=b4.ext C Om;refine⟨fun w'=>ai w' M [vi k2,vi f2,vi t2,vu Y,vs x2,vi a2,vi b2] 119,X.pure<|ab.drew g,?_⟩;intro P m;have A:Pure g P:=by rw[m];exact ab.drew g
  clear m;have c6:=X.pure A;refine⟨a2,fun w' h=>h.cell rfl,b2,fun w' h=>h.cell rfl,?_⟩;refine(tG r p a2 2 _ P<|u.pure A).mono ?_;rintro _ w7 ⟨k3,f3,t3,u3,x3,a3,b3,rfl,D,E,T⟩;have I:=c6.ext T Om;refine⟨_,_,_,_,_,_,_,rfl,I,?_⟩;refine(tG r p b2 3 _ w7 E).mono ?_;rintro _ N ⟨k4,f4,t4,u4,x4,a4,b4',rfl,y,G,O⟩;have e3:u3=(vC L a2 2).1.num:=by rw[<-D]
  have e4:x4=(vC L b2 3).1.bb:=by rw[<-y]
  refine⟨_,_,_,_,_,_,_,rfl,I.ext O Om,Z _ _ _ ⟨?_,?_,?_⟩⟩;simp only[vW,<-R,<-H,<-S,<-e3,<-e4];have:(bad ||(vW L t).2)=(v ||(vC L a2 2).2 ||(vC L b2 3).2):=by
   simp only[vW,<-R,<-H,<-S,<-ex,hv,<-z,Bool.or_assoc]
  rw[this];exact G;exact((((E1.trans E2).fb J).trans C).fb A |>.trans T).trans O
 have n:∀v:Bool,ai (i.setCell (r.add 1)<|vb v) r [vp p,vb v] 212/\ab (·=r.block) i (i.setCell (r.add 1)<|vb v):=fun v =>
  ⟨d.box.set 1 _,by have:=ab.setCell (w:=i) (r.add 1)<|vb v;rw[zC]at this;exact this⟩
 refine⟨r,rfl,f,d.box.cell rfl,fun h=>⟨r,rfl,d.box.eh Sm,?_⟩,fun h=>⟨r,rfl,d.box.eh Sm,?_⟩⟩
 grind
 intro N k
 have:=n<|!decide (q=pU)
 exact s (!decide (q=pU)) N (by rw[h];rfl) (by rw[k];exact this.1) (by rw[k];exact this.2)
def vG(r p t bad w){L F}(n:lj w r p bad L F):
  cl 140 #[vp<|some r,vi t] w
   (XQ fun k f c x O w'=>(⟨k,f,c,x,O⟩:dy)=(zN L t).1/\lj w' r p (bad ||(zN L t).2) L F/\ab (·=r.block) w w'):=by
 suffices key:∀K:Int->Int->Int->ByteArray->Bool->WP,(∀k f c x O w',((⟨k,f,c,x,O⟩:dy)=(zN L t).1/\lj w' r p (bad ||(zN L t).2) L F/\ab (·=r.block) w w')->K k f c x O w')->Jp (some r) t w K from
  w_O _ _ w _<|key _ fun _ _ _ _ _ _ h=>h
 intro K hK
 intro A w1 h1
 have U:Pure w w1:=ab.ax h1
 have o1:=av.ak (ab.refl w) h1
 have lr:=n.box.lt
 have b1:=ai.bj h1
 refine⟨r,rfl,p,(n.box.pure U).bf,?_⟩
 refine(Hs p t w1 (n.bl.pure U) n.ok).mono ?_
 rintro _ w2 ⟨k,f,P,u,x,a,b,ok,rfl,⟨hn,hok⟩,v⟩
 refine⟨_,_,_,_,_,_,_,_,rfl,?_⟩
 intro N w3 h3
 have T:Pure w w2:=U.trans v
 have o3:=av.ak T h3
 have Y:A.block≠N.block:=av.ne h3 (b1.pure v).aq
 refine bx 7 (ai.bj h3) rfl rfl fun z b2 X=>?_
 have R:Pure w z:=(T.trans<|ab.ax h3).ak o3 X
 have c1:=((b1.pure v).pure<|ab.ax h3).ext X Y
 have q:=n.pure R
 clear X T v b1 h1 h3
 have s:A.block≠r.block:=Om
 have o:zN L t=if(k≠8/\k≠9)\/1<f\/P≠IntKind.i64.wrap (1-f)then(vx,true)else(⟨1,f,(vW L a).1.1,(vW L a).1.2,k==9⟩,(vW L a).2):=by
  simp only[zN,<-hn]
 have B : ((k ≠ 8 /\ k ≠ 9) \/ 1 < f \/ P ≠ IntKind.i64.wrap (1 - f)) -> zL z (r.add 1) /\ ∀ E : World, E = z.setCell (r.add 1) (vb true) ->
   (∀j,j<5->zL E (A.add j))/\∀I:World,I=bd E A [(vi 0),(vi 0),(vu 0),(vs (⟨#[]⟩:ByteArray)),(vb false)] ->
   ∃m:Int,∃l:Int,∃M:Int,∃d:ByteArray,∃g:Bool,Row I A [(vi m),(vi l),(vu M),(vs d),(vb g)] /\
   K m l M d g I:=by
  intro W
  rw[if_pos W]at o
  refine⟨q.box.eh Sm,?_⟩
  intro E C
  have d5:ai E r [vp p,vb true] 212:=by rw[C];exact q.box.set 1 _
  have G:ab (·=r.block) z E:=by rw[C];have:=ab.setCell (w:=z) (r.add 1)<|vb true;rw[zC]at this;exact this
  clear C
  refine bx 5 (c1.ext G s) rfl rfl fun I b6 D=>⟨0,0,0,⟨#[]⟩,false,b6.row,hK _ _ _ _ _ _ ⟨by rw[o];rfl,⟨?_,?_,n.ok,n.iw⟩,?_⟩⟩
  rw[o];simp only[Bool.or_true];exact d5.ext D s.symm
  exact(q.bl.ext G fun b J e=>n.iw<|e▸J).ext D fun b J e=>Oh<|n.bl.lt J
  exact(R.pure.trans G).cg D fun i hi h=>Om
 have J1:¬((k≠8/\k≠9)\/1<f\/P≠IntKind.i64.wrap (1-f))->Hp (some r) A N z K:=by
  intro W;rw[if_neg W]at o;refine⟨a,b2.cell rfl,?_⟩;refine(Qt r p a bad z q).mono ?_;rintro _ E ⟨c,y,rfl,hd,H,G⟩;have d2:=b2.ext G Om;have d1:=c1.ext G s;have ec:c=(vW L a).1.1:=congrArg Prod.fst hd;have ey:y=(vW L a).1.2:=congrArg Prod.snd hd;refine⟨_,_,rfl,f,d2.cell rfl,k,d2.bf,bx 5 d1 rfl rfl fun I b6 D=>⟨1,f,c,y,k==9,b6.row,hK _ _ _ _ _ _ ⟨?_,?_,?_⟩⟩⟩;grind;rw[o];exact⟨H.box.ext D s.symm,H.bl.ext D fun b J e=>Oh<|n.bl.lt J,n.ok,n.iw⟩;exact(R.pure.trans G).cg D fun i hi h=>Om
 have Z:∀Q,Q=((k !=8&&k !=9) ||decide (1<f))->EW (some r) A N Q z K:=by
  intro Q S;refine⟨fun h=>⟨r,rfl,B ?_⟩,fun h=>⟨P,b2.cell rfl,f,b2.cell rfl,fun h2=>⟨r,rfl,B ?_⟩,fun h2=>J1 ?_⟩⟩;grind;grind;grind
 have J2:∀V,V=(k !=8&&k !=9)->Dy (some r) A N V z K:=by
  intro V S;exact⟨fun h=>Z _ (by rw[<-S,h];rfl),fun h=>⟨f,b2.cell rfl,Z _ (by rw[<-S,h];rfl)⟩⟩
 exact⟨k,b2.bf,fun h=>⟨k,b2.bf,J2 _ (by rw[h];rfl)⟩,fun h=>J2 _ (by rw[h];rfl)⟩
end Go.Proofs
end
