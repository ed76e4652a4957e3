import Derived.Test.YtjjcakjoeiolgaaGreatPa0
import Derived.Test.YtjjcakjoeiolgaaGreatProg
import Derived.KernelRfl
import Derived.IntWalk
set_option linter.defProp false
section
namespace Go.SE
section
variable {P:Program} {fn:Func} {R:Ending->World->Prop} {c:Cf} {π A:Prop}
def jncN(T:List (Nat×Value)->World->Prop)(m i ks)(ka:∀{J:Env->World->Prop},(∀{L w},T L w->∀{ρ},Has ρ (kp ks (vv P fn m c).ρ++L)->J ρ w)->GG π A (W P fn R<|jBQ i J<|vv P fn m c))(a:∀{L w ρ},T L w->W P fn R (mtg i (kp ks (vv P fn m c).ρ++L) ρ w (vv P fn m c) []))(hs:(aa P fn m c).see=(aa P fn m c).so):GG π A (W P fn R c):=fun b hr=>by
 refine W.on m hs<|jUK (i:=i) (J:=fun ρ w=>∃L,T L w/\Has ρ (kp ks (vv P fn m c).ρ++L)) ?_<|ka (fun ht _ hh=>⟨_,ht,hh⟩) b hr;rintro ρ w ⟨L,ht,hh⟩;have:=a (ρ:=ρ) ht (fun _ _ h=>by cases h);unfold mtg at this;rw[uI hh]at this;exact this
def ja0{w0 wv w Hv H l}(m i ks)(f:List (Nat×Value))(B:(Nat->Prop)->World->Prop)(ka:∀{J:Env->World->Prop},(∀{H w},HS w0 H w H w l->B H w->∀{ρ},Has ρ (kp ks (vv P fn m c).ρ++f)->J ρ w)->GG (HS w0 Hv wv H w l) A (W P fn R<|jBQ i J<|vv P fn m c))(a:∀{H w ρ},GG (HS w0 H w H w l) (B H w)<|W P fn R<|mtg i (kp ks (vv P fn m c).ρ++f) ρ w (vv P fn m c) [])(h:(aa P fn m c).see=(aa P fn m c).so:=by kernel_rfl):GG (HS w0 Hv wv H w l) A (W P fn R c):=
 jnc (fun L l' H w=>L=f/\l'=l/\B H w) m i ks (fun j=>ka fun s b _ h=>j ⟨rfl,rfl,b⟩ s h) (fun t s=>by obtain⟨rfl,rfl,b⟩:=t;exact a s b) h
def jc0(m i:Nat)(a:List Nat)(f:List (Nat×Value))(B:World->Prop)(ka:∀{J:Env->World->Prop},(∀{w},B w->∀{ρ},Has ρ (kp a (vv P fn m c).ρ++f)->J ρ w)->GG π A (W P fn R<|jBQ i J<|vv P fn m c))(e:∀{w ρ},GG π (B w)<|W P fn R<|mtg i (kp a (vv P fn m c).ρ++f) ρ w (vv P fn m c) [])(h:(aa P fn m c).see=(aa P fn m c).so:=by kernel_rfl):GG π A (W P fn R c):=fun d hr =>
 jncN (fun L w=>L=f/\B w) m i a (fun j=>ka fun b _ h=>j ⟨rfl,b⟩ h) (fun t=>by obtain⟨rfl,b⟩:=t;exact e d b) h d hr
def ja1{d:Type}{w0 wv w Hv H l}(m i ks)(f:d->List (Nat×Value))(B:d->(Nat->Prop)->World->Prop)(ka:∀{J:Env->World->Prop},(∀{a H w},HS w0 H w H w l->B a H w->∀{ρ},Has ρ (kp ks (vv P fn m c).ρ++(f a))->J ρ w)->GG (HS w0 Hv wv H w l) A (W P fn R<|jBQ i J<|vv P fn m c))(e:∀{a H w ρ},GG (HS w0 H w H w l) (B a H w)<|W P fn R<|mtg i (kp ks (vv P fn m c).ρ++(f a)) ρ w (vv P fn m c) [])(h:(aa P fn m c).see=(aa P fn m c).so:=by kernel_rfl):GG (HS w0 Hv wv H w l) A (W P fn R c):=
 jnc (fun L l' H w=>∃a,L=(f a)/\l'=l/\B a H w) m i ks (fun j=>ka fun s b _ h=>j ⟨_,rfl,rfl,b⟩ s h) (fun t s=>by obtain⟨a,rfl,rfl,b⟩:=t;exact e s b) h
def wa1{b:Type}{w0 w H l}{o:b}{B:(b->(Nat->Prop)->World->Prop)->(b->World->Nat)->b->(Nat->Prop)->World->Prop}(m ks)(f:b->List (Nat×Value))(k:∀{I e g d a ρ} {J:Env->World->Prop},(∀{n i w'},HS w0 i w' i w' l->(I n i w'/\e n w'<e g a)->∀{ρ},Has ρ (kp ks (vv P fn m c).ρ++(f n))->J ρ w')->GG (HS w0 d a d a l) (B I e g d a) (W P fn R<|lpC J (kp ks (vv P fn m c).ρ++(f g)) ρ a<|vv P fn m c))(h:((aa P fn m c).see,lpI (vv P fn m c)<|kp ks (vv P fn m c).ρ++(f o))=((aa P fn m c).so,some (w,(kp ks (vv P fn m c).ρ++(f o)).map (·.2))):=by kernel_rfl):GG (HS w0 H w H w l) (∃(I:b->(Nat->Prop)->World->Prop) (e:b->World->Nat),I o H w/\∀g d a,Hst w0 d a d a->I g d a->B I e g d a) (W P fn R c):=by
 rintro r ⟨I,e,t,hr⟩;simp only[Prod.mk.injEq]at h;have⟨h1,h2⟩:=h;exact W.on m h1<|lpK (σ:=b×(Nat->Prop)) (fun s=>kp ks (vv P fn m c).ρ++(f s.1)) (fun s w=>HS w0 s.2 w s.2 w l/\I s.1 s.2 w) (fun s w=>e s.1 w) (s0:=(o,H)) h2 ⟨r,t⟩ fun {s a ρ J} j p=>k (fun {n i w'} hS q _ hh=>j (s':=(n,i)) ⟨⟨hS,q.1⟩,q.2⟩ hh) p.1<|hr s.1 s.2 a p.1.s p.2
def jc1{e:Type}(m i ks)(f:e->List (Nat×Value))(B:e->World->Prop)(ka:∀{J:Env->World->Prop},(∀{a w},B a w->∀{ρ},Has ρ (kp ks (vv P fn m c).ρ++(f a))->J ρ w)->GG π A (W P fn R<|jBQ i J<|vv P fn m c))(g:∀{a w ρ},GG π (B a w)<|W P fn R<|mtg i (kp ks (vv P fn m c).ρ++(f a)) ρ w (vv P fn m c) [])(h:(aa P fn m c).see=(aa P fn m c).so:=by kernel_rfl):GG π A (W P fn R c):=fun d hr =>
 jncN (fun L w=>∃a,L=(f a)/\B a w) m i ks (fun j=>ka fun b _ h=>j ⟨_,rfl,b⟩ h) (fun t=>by obtain⟨a,rfl,b⟩:=t;exact g d b) h d hr
def wc1{a:Type}{w}{i:a}{B:(a->World->Prop)->(a->World->Nat)->a->World->Prop}(m ks)(f:a->List (Nat×Value))(k:∀{I d e b ρ} {J:Env->World->Prop},(∀{g w'},(I g w'/\d g w'<d e b)->∀{ρ},Has ρ (kp ks (vv P fn m c).ρ++(f g))->J ρ w')->GG π (B I d e b) (W P fn R<|lpC J (kp ks (vv P fn m c).ρ++(f e)) ρ b<|vv P fn m c))(h:((aa P fn m c).see,lpI (vv P fn m c)<|kp ks (vv P fn m c).ρ++(f i))=((aa P fn m c).so,some (w,(kp ks (vv P fn m c).ρ++(f i)).map (·.2))):=by kernel_rfl):GG π (∃(I:a->World->Prop) (d:a->World->Nat),I i w/\∀e b,I e b->B I d e b) (W P fn R c):=by
 rintro n ⟨I,d,p,hr⟩;simp only[Prod.mk.injEq]at h;exact W.on m h.1<|lpK (σ:=a) (fun s=>kp ks (vv P fn m c).ρ++(f s)) (fun s w=>I s w) (fun s w=>d s w) (s0:=(i)) h.2 p fun {s b ρ J} j l=>k (fun {g w'} o _ hh=>j (s':=(g)) (w':=w') o hh) n<|hr s b l
def wa2{d b:Type}{w0 w H l}{r:d}{t:b}{B:(d->b->(Nat->Prop)->World->Prop)->(d->b->World->Nat)->d->b->(Nat->Prop)->World->Prop}(m ks)(f:d->b->List (Nat×Value))(k:∀{I g n i e a ρ} {J:Env->World->Prop},(∀{q o p w'},HS w0 p w' p w' l->(I q o p w'/\g q o w'<g n i a)->∀{ρ},Has ρ (kp ks (vv P fn m c).ρ++(f q o))->J ρ w')->GG (HS w0 e a e a l) (B I g n i e a) (W P fn R<|lpC J (kp ks (vv P fn m c).ρ++(f n i)) ρ a<|vv P fn m c))(h:((aa P fn m c).see,lpI (vv P fn m c)<|kp ks (vv P fn m c).ρ++(f r t))=((aa P fn m c).so,some (w,(kp ks (vv P fn m c).ρ++(f r t)).map (·.2))):=by kernel_rfl):GG (HS w0 H w H w l) (∃(I:d->b->(Nat->Prop)->World->Prop) (g:d->b->World->Nat),I r t H w/\∀n i e a,Hst w0 e a e a->I n i e a->B I g n i e a) (W P fn R c):=by
 rintro x ⟨I,g,y,hr⟩;simp only[Prod.mk.injEq]at h;have⟨h1,h2⟩:=h;exact W.on m h1<|lpK (σ:=d×b×(Nat->Prop)) (fun s=>kp ks (vv P fn m c).ρ++(f s.1 s.2.1)) (fun s w=>HS w0 s.2.2 w s.2.2 w l/\I s.1 s.2.1 s.2.2 w) (fun s w=>g s.1 s.2.1 w) (s0:=(r,t,H)) h2 ⟨x,y⟩ fun {s a ρ J} j u=>k (fun {q o p w'} hS v _ hh=>j (s':=(q,o,p)) ⟨⟨hS,v.1⟩,v.2⟩ hh) u.1<|hr s.1 s.2.1 s.2.2 a u.1.s u.2
def wc2{b a:Type}{w}{o:b}{p:a}{B:(b->a->World->Prop)->(b->a->World->Nat)->b->a->World->Prop}(m ks)(f:b->a->List (Nat×Value))(k:∀{I e i g d ρ} {J:Env->World->Prop},(∀{n l w'},(I n l w'/\e n l w'<e i g d)->∀{ρ},Has ρ (kp ks (vv P fn m c).ρ++(f n l))->J ρ w')->GG π (B I e i g d) (W P fn R<|lpC J (kp ks (vv P fn m c).ρ++(f i g)) ρ d<|vv P fn m c))(h:((aa P fn m c).see,lpI (vv P fn m c)<|kp ks (vv P fn m c).ρ++(f o p))=((aa P fn m c).so,some (w,(kp ks (vv P fn m c).ρ++(f o p)).map (·.2))):=by kernel_rfl):GG π (∃(I:b->a->World->Prop) (e:b->a->World->Nat),I o p w/\∀i g d,I i g d->B I e i g d) (W P fn R c):=by
 rintro r ⟨I,e,u,hr⟩;simp only[Prod.mk.injEq]at h;exact W.on m h.1<|lpK (σ:=b×a) (fun s=>kp ks (vv P fn m c).ρ++(f s.1 s.2)) (fun s w=>I s.1 s.2 w) (fun s w=>e s.1 s.2 w) (s0:=(o,p)) h.2 u fun {s d ρ J} j q=>k (fun {n l w'} t _ hh=>j (s':=(n,l)) (w':=w') t hh) r<|hr s.1 s.2 d q
def wc3{d b a:Type}{w}{t:d}{u:b}{r:a}{B:(d->b->a->World->Prop)->(d->b->a->World->Nat)->d->b->a->World->Prop}(m ks)(f:d->b->a->List (Nat×Value))(k:∀{I g l i n e ρ} {J:Env->World->Prop},(∀{p o q w'},(I p o q w'/\g p o q w'<g l i n e)->∀{ρ},Has ρ (kp ks (vv P fn m c).ρ++(f p o q))->J ρ w')->GG π (B I g l i n e) (W P fn R<|lpC J (kp ks (vv P fn m c).ρ++(f l i n)) ρ e<|vv P fn m c))(h:((aa P fn m c).see,lpI (vv P fn m c)<|kp ks (vv P fn m c).ρ++(f t u r))=((aa P fn m c).so,some (w,(kp ks (vv P fn m c).ρ++(f t u r)).map (·.2))):=by kernel_rfl):GG π (∃(I:d->b->a->World->Prop) (g:d->b->a->World->Nat),I t u r w/\∀l i n e,I l i n e->B I g l i n e) (W P fn R c):=by
 rintro x ⟨I,g,z,hr⟩;simp only[Prod.mk.injEq]at h;exact W.on m h.1<|lpK (σ:=d×b×a) (fun s=>kp ks (vv P fn m c).ρ++(f s.1 s.2.1 s.2.2)) (fun s w=>I s.1 s.2.1 s.2.2 w) (fun s w=>g s.1 s.2.1 s.2.2 w) (s0:=(t,u,r)) h.2 z fun {s e ρ J} j v=>k (fun {p o q w'} y _ hh=>j (s':=(p,o,q)) (w':=w') y hh) x<|hr s.1 s.2.1 s.2.2 e v
def wb4{g b d e:Type}{w0 w H l}{A:g}{C:b}{u:d}{t:e}{B:(g->b->d->e->(Nat->Prop)->World->Prop)->(g->b->d->e->World->Nat)->g->b->d->e->(Nat->Prop)->World->Prop}(m ks)(f:g->b->d->e->List (Nat×Value))(hs:g->b->d->e->List HBx->List HBx)(k:∀{I p o n q r i a ρ} {J:Env->World->Prop},(∀{z y x v D w'},HS w0 D w' D w' (hs z y x v l)->(I z y x v D w'/\p z y x v w'<p o n q r a)->∀{ρ},Has ρ (kp ks (vv P fn m c).ρ++(f z y x v))->J ρ w')->GG (HS w0 i a i a<|hs o n q r l) (B I p o n q r i a) (W P fn R<|lpC J (kp ks (vv P fn m c).ρ++(f o n q r)) ρ a<|vv P fn m c))(h:((aa P fn m c).see,lpI (vv P fn m c)<|kp ks (vv P fn m c).ρ++(f A C u t),l)=((aa P fn m c).so,some (w,(kp ks (vv P fn m c).ρ++(f A C u t)).map (·.2)),(hs A C u t l)):=by kernel_rfl):GG (HS w0 H w H w l) (∃(I:g->b->d->e->(Nat->Prop)->World->Prop) (p:g->b->d->e->World->Nat),I A C u t H w/\∀o n q r i a,Hst w0 i a i a->I o n q r i a->B I p o n q r i a) (W P fn R c):=by
 rintro E ⟨I,p,K,hr⟩;simp only[Prod.mk.injEq]at h;have⟨h1,h2,h3⟩:=h;replace E:HS w0 H w H w (hs A C u t l):=by rw[<-h3];exact E
 exact W.on m h1<|lpK (σ:=g×b×d×e×(Nat->Prop)) (fun s=>kp ks (vv P fn m c).ρ++(f s.1 s.2.1 s.2.2.1 s.2.2.2.1)) (fun s w=>HS w0 s.2.2.2.2 w s.2.2.2.2 w (hs s.1 s.2.1 s.2.2.1 s.2.2.2.1 l)/\I s.1 s.2.1 s.2.2.1 s.2.2.2.1 s.2.2.2.2 w) (fun s w=>p s.1 s.2.1 s.2.2.1 s.2.2.2.1 w) (s0:=(A,C,u,t,H)) h2 ⟨E,K⟩ fun {s a ρ J} j F=>k (fun {z y x v D w'} hS G _ hh=>j (s':=(z,y,x,v,D)) ⟨⟨hS,G.1⟩,G.2⟩ hh) F.1<|hr s.1 s.2.1 s.2.2.1 s.2.2.2.1 s.2.2.2.2 a F.1.s F.2
def jb5{q p n r o:Type}{w0 wv w Hv H l}(m i ks)(f:q->p->n->r->o->List (Nat×Value))(hs:q->p->n->r->o->List HBx->List HBx)(B:q->p->n->r->o->(Nat->Prop)->World->Prop)(ka:∀{J:Env->World->Prop},(∀{g a k d e H w},HS w0 H w H w (hs g a k d e l)->B g a k d e H w->∀{ρ},Has ρ (kp ks (vv P fn m c).ρ++(f g a k d e))->J ρ w)->GG (HS w0 Hv wv H w l) A (W P fn R<|jBQ i J<|vv P fn m c))(u:∀{g a k d e H w ρ},GG (HS w0 H w H w<|hs g a k d e l) (B g a k d e H w)<|W P fn R<|mtg i (kp ks (vv P fn m c).ρ++(f g a k d e)) ρ w (vv P fn m c) [])(h:(aa P fn m c).see=(aa P fn m c).so:=by kernel_rfl):GG (HS w0 Hv wv H w l) A (W P fn R c):=
 jnc (fun L l' H w=>∃g a k d e,L=(f g a k d e)/\l'=(hs g a k d e l)/\B g a k d e H w) m i ks (fun j=>ka fun s b _ h=>j ⟨_,_,_,_,_,rfl,rfl,b⟩ s h) (fun t s=>by obtain⟨g,a,k,d,e,rfl,rfl,b⟩:=t;exact u s b) h
def jb6{u p o v q r:Type}{w0 wv w Hv H l}(m i ks)(f:u->p->o->v->q->r->List (Nat×Value))(hs:u->p->o->v->q->r->List HBx->List HBx)(B:u->p->o->v->q->r->(Nat->Prop)->World->Prop)(ka:∀{J:Env->World->Prop},(∀{k d n e g a H w},HS w0 H w H w (hs k d n e g a l)->B k d n e g a H w->∀{ρ},Has ρ (kp ks (vv P fn m c).ρ++(f k d n e g a))->J ρ w)->GG (HS w0 Hv wv H w l) A (W P fn R<|jBQ i J<|vv P fn m c))(x:∀{k d n e g a H w ρ},GG (HS w0 H w H w<|hs k d n e g a l) (B k d n e g a H w)<|W P fn R<|mtg i (kp ks (vv P fn m c).ρ++(f k d n e g a)) ρ w (vv P fn m c) [])(h:(aa P fn m c).see=(aa P fn m c).so:=by kernel_rfl):GG (HS w0 Hv wv H w l) A (W P fn R c):=
 jnc (fun L l' H w=>∃k d n e g a,L=(f k d n e g a)/\l'=(hs k d n e g a l)/\B k d n e g a H w) m i ks (fun j=>ka fun s b _ h=>j ⟨_,_,_,_,_,_,rfl,rfl,b⟩ s h) (fun t s=>by obtain⟨k,d,n,e,g,a,rfl,rfl,b⟩:=t;exact x s b) h
def wb6{i b d g e n:Type}{w0 w H l}{L:i}{M:b}{A:d}{z:g}{G:e}{D:n}{B:(i->b->d->g->e->n->(Nat->Prop)->World->Prop)->(i->b->d->g->e->n->World->Nat)->i->b->d->g->e->n->(Nat->Prop)->World->Prop}(m ks)(f:i->b->d->g->e->n->List (Nat×Value))(hs:i->b->d->g->e->n->List HBx->List HBx)(k:∀{I u t q v x r p o a ρ} {J:Env->World->Prop},(∀{K F E C y N O w'},HS w0 O w' O w' (hs K F E C y N l)->(I K F E C y N O w'/\u K F E C y N w'<u t q v x r p a)->∀{ρ},Has ρ (kp ks (vv P fn m c).ρ++(f K F E C y N))->J ρ w')->GG (HS w0 o a o a<|hs t q v x r p l) (B I u t q v x r p o a) (W P fn R<|lpC J (kp ks (vv P fn m c).ρ++(f t q v x r p)) ρ a<|vv P fn m c))(h:((aa P fn m c).see,lpI (vv P fn m c)<|kp ks (vv P fn m c).ρ++(f L M A z G D),l)=((aa P fn m c).so,some (w,(kp ks (vv P fn m c).ρ++(f L M A z G D)).map (·.2)),(hs L M A z G D l)):=by kernel_rfl):GG (HS w0 H w H w l) (∃(I:i->b->d->g->e->n->(Nat->Prop)->World->Prop) (u:i->b->d->g->e->n->World->Nat),I L M A z G D H w/\∀t q v x r p o a,Hst w0 o a o a->I t q v x r p o a->B I u t q v x r p o a) (W P fn R c):=by
 rintro Q ⟨I,u,U,hr⟩;simp only[Prod.mk.injEq]at h;have⟨h1,h2,h3⟩:=h;replace Q:HS w0 H w H w (hs L M A z G D l):=by rw[<-h3];exact Q
 exact W.on m h1<|lpK (σ:=i×b×d×g×e×n×(Nat->Prop)) (fun s=>kp ks (vv P fn m c).ρ++(f s.1 s.2.1 s.2.2.1 s.2.2.2.1 s.2.2.2.2.1 s.2.2.2.2.2.1)) (fun s w=>HS w0 s.2.2.2.2.2.2 w s.2.2.2.2.2.2 w (hs s.1 s.2.1 s.2.2.1 s.2.2.2.1 s.2.2.2.2.1 s.2.2.2.2.2.1 l)/\I s.1 s.2.1 s.2.2.1 s.2.2.2.1 s.2.2.2.2.1 s.2.2.2.2.2.1 s.2.2.2.2.2.2 w) (fun s w=>u s.1 s.2.1 s.2.2.1 s.2.2.2.1 s.2.2.2.2.1 s.2.2.2.2.2.1 w) (s0:=(L,M,A,z,G,D,H)) h2 ⟨Q,U⟩ fun {s a ρ J} j S=>k (fun {K F E C y N O w'} hS T _ hh=>j (s':=(K,F,E,C,y,N,O)) ⟨⟨hS,T.1⟩,T.2⟩ hh) S.1<|hr s.1 s.2.1 s.2.2.1 s.2.2.2.1 s.2.2.2.2.1 s.2.2.2.2.2.1 s.2.2.2.2.2.2 a S.1.s S.2
def jb7{y q p x r v u:Type}{w0 wv w Hv H l}(m i ks)(f:y->q->p->x->r->v->u->List (Nat×Value))(hs:y->q->p->x->r->v->u->List HBx->List HBx)(B:y->q->p->x->r->v->u->(Nat->Prop)->World->Prop)(ka:∀{J:Env->World->Prop},(∀{k d o e g a n H w},HS w0 H w H w (hs k d o e g a n l)->B k d o e g a n H w->∀{ρ},Has ρ (kp ks (vv P fn m c).ρ++(f k d o e g a n))->J ρ w)->GG (HS w0 Hv wv H w l) A (W P fn R<|jBQ i J<|vv P fn m c))(z:∀{k d o e g a n H w ρ},GG (HS w0 H w H w<|hs k d o e g a n l) (B k d o e g a n H w)<|W P fn R<|mtg i (kp ks (vv P fn m c).ρ++(f k d o e g a n)) ρ w (vv P fn m c) [])(h:(aa P fn m c).see=(aa P fn m c).so:=by kernel_rfl):GG (HS w0 Hv wv H w l) A (W P fn R c):=
 jnc (fun L l' H w=>∃k d o e g a n,L=(f k d o e g a n)/\l'=(hs k d o e g a n l)/\B k d o e g a n H w) m i ks (fun j=>ka fun s b _ h=>j ⟨_,_,_,_,_,_,_,rfl,rfl,b⟩ s h) (fun t s=>by obtain⟨k,d,o,e,g,a,n,rfl,rfl,b⟩:=t;exact z s b) h
def wb8{o b e n g p d i:Type}{w0 w H l}{U:o}{V:b}{K:e}{G:n}{S:g}{N:p}{F:d}{L:i}{B:(o->b->e->n->g->p->d->i->(Nat->Prop)->World->Prop)->(o->b->e->n->g->p->d->i->World->Nat)->o->b->e->n->g->p->d->i->(Nat->Prop)->World->Prop}(m ks)(f:o->b->e->n->g->p->d->i->List (Nat×Value))(hs:o->b->e->n->g->p->d->i->List HBx->List HBx)(k:∀{I y v t z A u r x C q a ρ} {J:Env->World->Prop},(∀{T Q O M E X D Y Z w'},HS w0 Z w' Z w' (hs T Q O M E X D Y l)->(I T Q O M E X D Y Z w'/\y T Q O M E X D Y w'<y v t z A u r x C a)->∀{ρ},Has ρ (kp ks (vv P fn m c).ρ++(f T Q O M E X D Y))->J ρ w')->GG (HS w0 q a q a<|hs v t z A u r x C l) (B I y v t z A u r x C q a) (W P fn R<|lpC J (kp ks (vv P fn m c).ρ++(f v t z A u r x C)) ρ a<|vv P fn m c))(h:((aa P fn m c).see,lpI (vv P fn m c)<|kp ks (vv P fn m c).ρ++(f U V K G S N F L),l)=((aa P fn m c).so,some (w,(kp ks (vv P fn m c).ρ++(f U V K G S N F L)).map (·.2)),(hs U V K G S N F L l)):=by kernel_rfl):GG (HS w0 H w H w l) (∃(I:o->b->e->n->g->p->d->i->(Nat->Prop)->World->Prop) (y:o->b->e->n->g->p->d->i->World->Nat),I U V K G S N F L H w/\∀v t z A u r x C q a,Hst w0 q a q a->I v t z A u r x C q a->B I y v t z A u r x C q a) (W P fn R c):=by
 rintro hp ⟨I,y,h0,hr⟩;simp only[Prod.mk.injEq]at h;have⟨h1,h2,h3⟩:=h;replace hp:HS w0 H w H w (hs U V K G S N F L l):=by rw[<-h3];exact hp
 exact W.on m h1<|lpK (σ:=o×b×e×n×g×p×d×i×(Nat->Prop)) (fun s=>kp ks (vv P fn m c).ρ++(f s.1 s.2.1 s.2.2.1 s.2.2.2.1 s.2.2.2.2.1 s.2.2.2.2.2.1 s.2.2.2.2.2.2.1 s.2.2.2.2.2.2.2.1)) (fun s w=>HS w0 s.2.2.2.2.2.2.2.2 w s.2.2.2.2.2.2.2.2 w (hs s.1 s.2.1 s.2.2.1 s.2.2.2.1 s.2.2.2.2.1 s.2.2.2.2.2.1 s.2.2.2.2.2.2.1 s.2.2.2.2.2.2.2.1 l)/\I s.1 s.2.1 s.2.2.1 s.2.2.2.1 s.2.2.2.2.1 s.2.2.2.2.2.1 s.2.2.2.2.2.2.1 s.2.2.2.2.2.2.2.1 s.2.2.2.2.2.2.2.2 w) (fun s w=>y s.1 s.2.1 s.2.2.1 s.2.2.2.1 s.2.2.2.2.1 s.2.2.2.2.2.1 s.2.2.2.2.2.2.1 s.2.2.2.2.2.2.2.1 w) (s0:=(U,V,K,G,S,N,F,L,H)) h2 ⟨hp,h0⟩ fun {s a ρ J} j hI=>k (fun {T Q O M E X D Y Z w'} hS hq _ hh=>j (s':=(T,Q,O,M,E,X,D,Y,Z)) ⟨⟨hS,hq.1⟩,hq.2⟩ hh) hI.1<|hr s.1 s.2.1 s.2.2.1 s.2.2.2.1 s.2.2.2.2.1 s.2.2.2.2.2.1 s.2.2.2.2.2.2.1 s.2.2.2.2.2.2.2.1 s.2.2.2.2.2.2.2.2 a hI.1.s hI.2
def wb11{v i o t p x n r q u a:Type}{w0 w H l}{v0:v}{v1:i}{V:o}{U:t}{v4:p}{Z:x}{T:n}{X:r}{v8:q}{Q:u}{e:a}{B:(v->i->o->t->p->x->n->r->q->u->a->(Nat->Prop)->World->Prop)->(v->i->o->t->p->x->n->r->q->u->a->World->Nat)->v->i->o->t->p->x->n->r->q->u->a->(Nat->Prop)->World->Prop}(m ks)(f:v->i->o->t->p->x->n->r->q->u->a->List (Nat×Value))(hs:v->i->o->t->p->x->n->r->q->u->a->List HBx->List HBx)(k:∀{I G E C L M D z F N K A b y g ρ} {J:Env->World->Prop},(∀{y0 y1 y2 Y S y5 O y7 y8 y9 d H' w'},HS w0 H' w' H' w' (hs y0 y1 y2 Y S y5 O y7 y8 y9 d l)->(I y0 y1 y2 Y S y5 O y7 y8 y9 d H' w'/\G y0 y1 y2 Y S y5 O y7 y8 y9 d w'<G E C L M D z F N K A b g)->∀{ρ},Has ρ (kp ks (vv P fn m c).ρ++(f y0 y1 y2 Y S y5 O y7 y8 y9 d))->J ρ w')->GG (HS w0 y g y g<|hs E C L M D z F N K A b l) (B I G E C L M D z F N K A b y g) (W P fn R<|lpC J (kp ks (vv P fn m c).ρ++(f E C L M D z F N K A b)) ρ g<|vv P fn m c))(h:((aa P fn m c).see,lpI (vv P fn m c)<|kp ks (vv P fn m c).ρ++(f v0 v1 V U v4 Z T X v8 Q e),l)=((aa P fn m c).so,some (w,(kp ks (vv P fn m c).ρ++(f v0 v1 V U v4 Z T X v8 Q e)).map (·.2)),(hs v0 v1 V U v4 Z T X v8 Q e l)):=by kernel_rfl):GG (HS w0 H w H w l) (∃(I:v->i->o->t->p->x->n->r->q->u->a->(Nat->Prop)->World->Prop) (G:v->i->o->t->p->x->n->r->q->u->a->World->Nat),I v0 v1 V U v4 Z T X v8 Q e H w/\∀E C L M D z F N K A b y g,Hst w0 y g y g->I E C L M D z F N K A b y g->B I G E C L M D z F N K A b y g) (W P fn R c):=by
 rintro hp ⟨I,G,h0,hr⟩;simp only[Prod.mk.injEq]at h;have⟨h1,h2,h3⟩:=h;replace hp:HS w0 H w H w (hs v0 v1 V U v4 Z T X v8 Q e l):=by rw[<-h3];exact hp
 exact W.on m h1<|lpK (σ:=v×i×o×t×p×x×n×r×q×u×a×(Nat->Prop)) (fun s=>kp ks (vv P fn m c).ρ++(f s.1 s.2.1 s.2.2.1 s.2.2.2.1 s.2.2.2.2.1 s.2.2.2.2.2.1 s.2.2.2.2.2.2.1 s.2.2.2.2.2.2.2.1 s.2.2.2.2.2.2.2.2.1 s.2.2.2.2.2.2.2.2.2.1 s.2.2.2.2.2.2.2.2.2.2.1)) (fun s w=>HS w0 s.2.2.2.2.2.2.2.2.2.2.2 w s.2.2.2.2.2.2.2.2.2.2.2 w (hs s.1 s.2.1 s.2.2.1 s.2.2.2.1 s.2.2.2.2.1 s.2.2.2.2.2.1 s.2.2.2.2.2.2.1 s.2.2.2.2.2.2.2.1 s.2.2.2.2.2.2.2.2.1 s.2.2.2.2.2.2.2.2.2.1 s.2.2.2.2.2.2.2.2.2.2.1 l)/\I s.1 s.2.1 s.2.2.1 s.2.2.2.1 s.2.2.2.2.1 s.2.2.2.2.2.1 s.2.2.2.2.2.2.1 s.2.2.2.2.2.2.2.1 s.2.2.2.2.2.2.2.2.1 s.2.2.2.2.2.2.2.2.2.1 s.2.2.2.2.2.2.2.2.2.2.1 s.2.2.2.2.2.2.2.2.2.2.2 w) (fun s w=>G s.1 s.2.1 s.2.2.1 s.2.2.2.1 s.2.2.2.2.1 s.2.2.2.2.2.1 s.2.2.2.2.2.2.1 s.2.2.2.2.2.2.2.1 s.2.2.2.2.2.2.2.2.1 s.2.2.2.2.2.2.2.2.2.1 s.2.2.2.2.2.2.2.2.2.2.1 w) (s0:=(v0,v1,V,U,v4,Z,T,X,v8,Q,e,H)) h2 ⟨hp,h0⟩ fun {s g ρ J} j hI=>k (fun {y0 y1 y2 Y S y5 O y7 y8 y9 d H' w'} hS hq _ hh=>j (s':=(y0,y1,y2,Y,S,y5,O,y7,y8,y9,d,H')) ⟨⟨hS,hq.1⟩,hq.2⟩ hh) hI.1<|hr s.1 s.2.1 s.2.2.1 s.2.2.2.1 s.2.2.2.2.1 s.2.2.2.2.2.1 s.2.2.2.2.2.2.1 s.2.2.2.2.2.2.2.1 s.2.2.2.2.2.2.2.2.1 s.2.2.2.2.2.2.2.2.2.1 s.2.2.2.2.2.2.2.2.2.2.1 s.2.2.2.2.2.2.2.2.2.2.2 g hI.1.s hI.2
def wb13{F v y D z G x C A E b d a:Type}{w0 w H l}{v0:F}{v1:v}{v2:y}{v3:D}{v4:z}{v5:G}{v6:x}{v7:C}{v8:A}{v9:E}{p:b}{q:d}{t:a}{B:(F->v->y->D->z->G->x->C->A->E->b->d->a->(Nat->Prop)->World->Prop)->(F->v->y->D->z->G->x->C->A->E->b->d->a->World->Nat)->F->v->y->D->z->G->x->C->A->E->b->d->a->(Nat->Prop)->World->Prop}(m ks)(f:F->v->y->D->z->G->x->C->A->E->b->d->a->List (Nat×Value))(hs:F->v->y->D->z->G->x->C->A->E->b->d->a->List HBx->List HBx)(k:∀{I T Q N V Y O L S X U M i e g K u ρ} {J:Env->World->Prop},(∀{y0 y1 y2 y3 y4 y5 Z y7 y8 y9 o r n H' w'},HS w0 H' w' H' w' (hs y0 y1 y2 y3 y4 y5 Z y7 y8 y9 o r n l)->(I y0 y1 y2 y3 y4 y5 Z y7 y8 y9 o r n H' w'/\T y0 y1 y2 y3 y4 y5 Z y7 y8 y9 o r n w'<T Q N V Y O L S X U M i e g u)->∀{ρ},Has ρ (kp ks (vv P fn m c).ρ++(f y0 y1 y2 y3 y4 y5 Z y7 y8 y9 o r n))->J ρ w')->GG (HS w0 K u K u<|hs Q N V Y O L S X U M i e g l) (B I T Q N V Y O L S X U M i e g K u) (W P fn R<|lpC J (kp ks (vv P fn m c).ρ++(f Q N V Y O L S X U M i e g)) ρ u<|vv P fn m c))(h:((aa P fn m c).see,lpI (vv P fn m c)<|kp ks (vv P fn m c).ρ++(f v0 v1 v2 v3 v4 v5 v6 v7 v8 v9 p q t),l)=((aa P fn m c).so,some (w,(kp ks (vv P fn m c).ρ++(f v0 v1 v2 v3 v4 v5 v6 v7 v8 v9 p q t)).map (·.2)),(hs v0 v1 v2 v3 v4 v5 v6 v7 v8 v9 p q t l)):=by kernel_rfl):GG (HS w0 H w H w l) (∃(I:F->v->y->D->z->G->x->C->A->E->b->d->a->(Nat->Prop)->World->Prop) (T:F->v->y->D->z->G->x->C->A->E->b->d->a->World->Nat),I v0 v1 v2 v3 v4 v5 v6 v7 v8 v9 p q t H w/\∀Q N V Y O L S X U M i e g K u,Hst w0 K u K u->I Q N V Y O L S X U M i e g K u->B I T Q N V Y O L S X U M i e g K u) (W P fn R c):=by
 rintro hp ⟨I,T,h0,hr⟩;simp only[Prod.mk.injEq]at h;have⟨h1,h2,h3⟩:=h;replace hp:HS w0 H w H w (hs v0 v1 v2 v3 v4 v5 v6 v7 v8 v9 p q t l):=by rw[<-h3];exact hp
 exact W.on m h1<|lpK (σ:=F×v×y×D×z×G×x×C×A×E×b×d×a×(Nat->Prop)) (fun s=>kp ks (vv P fn m c).ρ++(f s.1 s.2.1 s.2.2.1 s.2.2.2.1 s.2.2.2.2.1 s.2.2.2.2.2.1 s.2.2.2.2.2.2.1 s.2.2.2.2.2.2.2.1 s.2.2.2.2.2.2.2.2.1 s.2.2.2.2.2.2.2.2.2.1 s.2.2.2.2.2.2.2.2.2.2.1 s.2.2.2.2.2.2.2.2.2.2.2.1 s.2.2.2.2.2.2.2.2.2.2.2.2.1)) (fun s w=>HS w0 s.2.2.2.2.2.2.2.2.2.2.2.2.2 w s.2.2.2.2.2.2.2.2.2.2.2.2.2 w (hs s.1 s.2.1 s.2.2.1 s.2.2.2.1 s.2.2.2.2.1 s.2.2.2.2.2.1 s.2.2.2.2.2.2.1 s.2.2.2.2.2.2.2.1 s.2.2.2.2.2.2.2.2.1 s.2.2.2.2.2.2.2.2.2.1 s.2.2.2.2.2.2.2.2.2.2.1 s.2.2.2.2.2.2.2.2.2.2.2.1 s.2.2.2.2.2.2.2.2.2.2.2.2.1 l)/\I s.1 s.2.1 s.2.2.1 s.2.2.2.1 s.2.2.2.2.1 s.2.2.2.2.2.1 s.2.2.2.2.2.2.1 s.2.2.2.2.2.2.2.1 s.2.2.2.2.2.2.2.2.1 s.2.2.2.2.2.2.2.2.2.1 s.2.2.2.2.2.2.2.2.2.2.1 s.2.2.2.2.2.2.2.2.2.2.2.1 s.2.2.2.2.2.2.2.2.2.2.2.2.1 s.2.2.2.2.2.2.2.2.2.2.2.2.2 w) (fun s w=>T s.1 s.2.1 s.2.2.1 s.2.2.2.1 s.2.2.2.2.1 s.2.2.2.2.2.1 s.2.2.2.2.2.2.1 s.2.2.2.2.2.2.2.1 s.2.2.2.2.2.2.2.2.1 s.2.2.2.2.2.2.2.2.2.1 s.2.2.2.2.2.2.2.2.2.2.1 s.2.2.2.2.2.2.2.2.2.2.2.1 s.2.2.2.2.2.2.2.2.2.2.2.2.1 w) (s0:=(v0,v1,v2,v3,v4,v5,v6,v7,v8,v9,p,q,t,H)) h2 ⟨hp,h0⟩ fun {s u ρ J} j hI=>k (fun {y0 y1 y2 y3 y4 y5 Z y7 y8 y9 o r n H' w'} hS hq _ hh=>j (s':=(y0,y1,y2,y3,y4,y5,Z,y7,y8,y9,o,r,n,H')) ⟨⟨hS,hq.1⟩,hq.2⟩ hh) hI.1<|hr s.1 s.2.1 s.2.2.1 s.2.2.2.1 s.2.2.2.2.1 s.2.2.2.2.2.1 s.2.2.2.2.2.2.1 s.2.2.2.2.2.2.2.1 s.2.2.2.2.2.2.2.2.1 s.2.2.2.2.2.2.2.2.2.1 s.2.2.2.2.2.2.2.2.2.2.1 s.2.2.2.2.2.2.2.2.2.2.2.1 s.2.2.2.2.2.2.2.2.2.2.2.2.1 s.2.2.2.2.2.2.2.2.2.2.2.2.2 u hI.1.s hI.2
def cn0{w:World}{f:FuncId}{args:Array Value}{F:Value}{r:World->Prop}(m:Nat)(b:∀args w,(callFunc f args).run P w=.ok (.enter f args) w)(k:∀{a},GG (π) (r a)<|W P fn R<|yN F a<|vv P fn m c)(h1:fre (vv P fn m c)=true:=by kernel_rfl)(h:((aa P fn m c).see,caI<|vv P fn m c,lok<|vv P fn m c,(vv P fn m c).w)=((aa P fn m c).so,some (f,args),true,w):=by kernel_rfl):GG (π) (Calls P f args w fun e a=>e=.returned F/\r a) (W P fn R c):=cc m b (rt<|aan k h1) h
def ca0{b w:World}{H:Nat->Prop}{l:List HBx}{f:FuncId}{args:Array Value}{F:Value}{r:World->Prop}(m:Nat)(d:∀args w,(callFunc f args).run P w=.ok (.enter f args) w)(k:∀{a},GG (HS b H a H a l) (r a)<|W P fn R<|yN F a<|vv P fn m c)(h1:fre (vv P fn m c)=true:=by kernel_rfl)(h:((aa P fn m c).see,caI<|vv P fn m c,lok<|vv P fn m c,(vv P fn m c).w)=((aa P fn m c).so,some (f,args),true,w):=by kernel_rfl):GG (HS b H w H w l) (Calls P f args w fun e a=>e=.returned F/\Kept H w a/\r a) (W P fn R c):=cc m d (rt<|aah k h1) h
def cn1{d:Type}{w f args}{F:d->Value}{r:d->World->Prop}(m)(g:∀args w,(callFunc f args).run P w=.ok (.enter f args) w)(k:∀{a b},GG (π) (r a b)<|W P fn R<|yN (F a) b<|vv P fn m c)(h1:fre (vv P fn m c)=true:=by kernel_rfl)(h:((aa P fn m c).see,caI<|vv P fn m c,lok<|vv P fn m c,(vv P fn m c).w)=((aa P fn m c).so,some (f,args),true,w):=by kernel_rfl):GG (π) (Calls P f args w fun e b=>∃a,e=.returned (F a)/\r a b) (W P fn R c):=cc m g (xe<|rt<|aan k h1) h
def ca1{d:Type}{w0 w H l f args}{F:d->Value}{r:d->World->Prop}(m)(g:∀args w,(callFunc f args).run P w=.ok (.enter f args) w)(k:∀{b a},GG (HS w0 H a H a l) (r b a)<|W P fn R<|yN (F b) a<|vv P fn m c)(h1:fre (vv P fn m c)=true:=by kernel_rfl)(h:((aa P fn m c).see,caI<|vv P fn m c,lok<|vv P fn m c,(vv P fn m c).w)=((aa P fn m c).so,some (f,args),true,w):=by kernel_rfl):GG (HS w0 H w H w l) (Calls P f args w fun e a=>∃b,e=.returned (F b)/\Kept H w a/\r b a) (W P fn R c):=cc m g (xe<|rt<|aah k h1) h
def cd1{d:Type}{w0 w H l C f args}{F:d->Value}{r:d->World->Prop}(m)(g:∀args w,(callFunc f args).run P w=.ok (.enter f args) w)(k:∀{b a},GG (HS w0 H a H a l) (r b a)<|W P fn R<|yN (F b) a<|vv P fn m c)(h1:(clC<|vv P fn m c,clH<|vv P fn m c,clL<|vv P fn m c)=(some C,H,l):=by kernel_rfl)(h:((aa P fn m c).see,caI<|vv P fn m c,lok<|vv P fn m c,(vv P fn m c).w)=((aa P fn m c).so,some (f,args),true,w):=by kernel_rfl):GG (HS w0 H w H w l) (Calls P f args w fun e a=>∃b,e=.returned (F b)/\C a/\Kept H w a/\r b a) (W P fn R c):=cc m g (xe<|rt<|aac k h1) h
def cn2{i g:Type}{w f args}{F:i->g->Value}{r:i->g->World->Prop}(m)(j:∀args w,(callFunc f args).run P w=.ok (.enter f args) w)(k:∀{b a d},GG (π) (r b a d)<|W P fn R<|yN (F b a) d<|vv P fn m c)(h1:fre (vv P fn m c)=true:=by kernel_rfl)(h:((aa P fn m c).see,caI<|vv P fn m c,lok<|vv P fn m c,(vv P fn m c).w)=((aa P fn m c).so,some (f,args),true,w):=by kernel_rfl):GG (π) (Calls P f args w fun e d=>∃b a,e=.returned (F b a)/\r b a d) (W P fn R c):=cc m j (xe2<|rt<|aan k h1) h
def ca2{i g:Type}{w0 w H l f args}{F:i->g->Value}{r:i->g->World->Prop}(m)(j:∀args w,(callFunc f args).run P w=.ok (.enter f args) w)(k:∀{d b a},GG (HS w0 H a H a l) (r d b a)<|W P fn R<|yN (F d b) a<|vv P fn m c)(h1:fre (vv P fn m c)=true:=by kernel_rfl)(h:((aa P fn m c).see,caI<|vv P fn m c,lok<|vv P fn m c,(vv P fn m c).w)=((aa P fn m c).so,some (f,args),true,w):=by kernel_rfl):GG (HS w0 H w H w l) (Calls P f args w fun e a=>∃d b,e=.returned (F d b)/\Kept H w a/\r d b a) (W P fn R c):=cc m j (xe2<|rt<|aah k h1) h
def cd2{i g:Type}{w0 w H l C f args}{F:i->g->Value}{r:i->g->World->Prop}(m)(j:∀args w,(callFunc f args).run P w=.ok (.enter f args) w)(k:∀{d b a},GG (HS w0 H a H a l) (r d b a)<|W P fn R<|yN (F d b) a<|vv P fn m c)(h1:(clC<|vv P fn m c,clH<|vv P fn m c,clL<|vv P fn m c)=(some C,H,l):=by kernel_rfl)(h:((aa P fn m c).see,caI<|vv P fn m c,lok<|vv P fn m c,(vv P fn m c).w)=((aa P fn m c).so,some (f,args),true,w):=by kernel_rfl):GG (HS w0 H w H w l) (Calls P f args w fun e a=>∃d b,e=.returned (F d b)/\C a/\Kept H w a/\r d b a) (W P fn R c):=cc m j (xe2<|rt<|aac k h1) h
def cn3{l j i:Type}{w f args}{F:l->j->i->Value}{r:l->j->i->World->Prop}(m)(n:∀args w,(callFunc f args).run P w=.ok (.enter f args) w)(k:∀{b a d g},GG (π) (r b a d g)<|W P fn R<|yN (F b a d) g<|vv P fn m c)(h1:fre (vv P fn m c)=true:=by kernel_rfl)(h:((aa P fn m c).see,caI<|vv P fn m c,lok<|vv P fn m c,(vv P fn m c).w)=((aa P fn m c).so,some (f,args),true,w):=by kernel_rfl):GG (π) (Calls P f args w fun e g=>∃b a d,e=.returned (F b a d)/\r b a d g) (W P fn R c):=cc m n (xe3<|rt<|aan k h1) h
def ca3{n j i:Type}{w0 w H l f args}{F:n->j->i->Value}{r:n->j->i->World->Prop}(m)(o:∀args w,(callFunc f args).run P w=.ok (.enter f args) w)(k:∀{d b g a},GG (HS w0 H a H a l) (r d b g a)<|W P fn R<|yN (F d b g) a<|vv P fn m c)(h1:fre (vv P fn m c)=true:=by kernel_rfl)(h:((aa P fn m c).see,caI<|vv P fn m c,lok<|vv P fn m c,(vv P fn m c).w)=((aa P fn m c).so,some (f,args),true,w):=by kernel_rfl):GG (HS w0 H w H w l) (Calls P f args w fun e a=>∃d b g,e=.returned (F d b g)/\Kept H w a/\r d b g a) (W P fn R c):=cc m o (xe3<|rt<|aah k h1) h
def cd3{n j i:Type}{w0 w H l C f args}{F:n->j->i->Value}{r:n->j->i->World->Prop}(m)(o:∀args w,(callFunc f args).run P w=.ok (.enter f args) w)(k:∀{d b g a},GG (HS w0 H a H a l) (r d b g a)<|W P fn R<|yN (F d b g) a<|vv P fn m c)(h1:(clC<|vv P fn m c,clH<|vv P fn m c,clL<|vv P fn m c)=(some C,H,l):=by kernel_rfl)(h:((aa P fn m c).see,caI<|vv P fn m c,lok<|vv P fn m c,(vv P fn m c).w)=((aa P fn m c).so,some (f,args),true,w):=by kernel_rfl):GG (HS w0 H w H w l) (Calls P f args w fun e a=>∃d b g,e=.returned (F d b g)/\C a/\Kept H w a/\r d b g a) (W P fn R c):=cc m o (xe3<|rt<|aac k h1) h
def ca4{o n j p:Type}{w0 w H l f args}{F:o->n->j->p->Value}{r:o->n->j->p->World->Prop}(m)(q:∀args w,(callFunc f args).run P w=.ok (.enter f args) w)(k:∀{g b i d a},GG (HS w0 H a H a l) (r g b i d a)<|W P fn R<|yN (F g b i d) a<|vv P fn m c)(h1:fre (vv P fn m c)=true:=by kernel_rfl)(h:((aa P fn m c).see,caI<|vv P fn m c,lok<|vv P fn m c,(vv P fn m c).w)=((aa P fn m c).so,some (f,args),true,w):=by kernel_rfl):GG (HS w0 H w H w l) (Calls P f args w fun e a=>∃g b i d,e=.returned (F g b i d)/\Kept H w a/\r g b i d a) (W P fn R c):=cc m q (xe4<|rt<|aah k h1) h
def ca5{q p n s o:Type}{w0 w H l f args}{F:q->p->n->s->o->Value}{r:q->p->n->s->o->World->Prop}(m)(t:∀args w,(callFunc f args).run P w=.ok (.enter f args) w)(k:∀{i b j d g a},GG (HS w0 H a H a l) (r i b j d g a)<|W P fn R<|yN (F i b j d g) a<|vv P fn m c)(h1:fre (vv P fn m c)=true:=by kernel_rfl)(h:((aa P fn m c).see,caI<|vv P fn m c,lok<|vv P fn m c,(vv P fn m c).w)=((aa P fn m c).so,some (f,args),true,w):=by kernel_rfl):GG (HS w0 H w H w l) (Calls P f args w fun e a=>∃i b j d g,e=.returned (F i b j d g)/\Kept H w a/\r i b j d g a) (W P fn R c):=cc m t (xe5<|rt<|aah k h1) h
def cn6{s o n t p q:Type}{w f args}{F:s->o->n->t->p->q->Value}{r:s->o->n->t->p->q->World->Prop}(m)(u:∀args w,(callFunc f args).run P w=.ok (.enter f args) w)(k:∀{i b j d g a l},GG (π) (r i b j d g a l)<|W P fn R<|yN (F i b j d g a) l<|vv P fn m c)(h1:fre (vv P fn m c)=true:=by kernel_rfl)(h:((aa P fn m c).see,caI<|vv P fn m c,lok<|vv P fn m c,(vv P fn m c).w)=((aa P fn m c).so,some (f,args),true,w):=by kernel_rfl):GG (π) (Calls P f args w fun e l=>∃i b j d g a,e=.returned (F i b j d g a)/\r i b j d g a l) (W P fn R c):=cc m u (xe6<|rt<|aan k h1) h
def ca6{t p o u q s:Type}{w0 w H l f args}{F:t->p->o->u->q->s->Value}{r:t->p->o->u->q->s->World->Prop}(m)(v:∀args w,(callFunc f args).run P w=.ok (.enter f args) w)(k:∀{j d n g i b a},GG (HS w0 H a H a l) (r j d n g i b a)<|W P fn R<|yN (F j d n g i b) a<|vv P fn m c)(h1:fre (vv P fn m c)=true:=by kernel_rfl)(h:((aa P fn m c).see,caI<|vv P fn m c,lok<|vv P fn m c,(vv P fn m c).w)=((aa P fn m c).so,some (f,args),true,w):=by kernel_rfl):GG (HS w0 H w H w l) (Calls P f args w fun e a=>∃j d n g i b,e=.returned (F j d n g i b)/\Kept H w a/\r j d n g i b a) (W P fn R c):=cc m v (xe6<|rt<|aah k h1) h
def cd6{t p o u q s:Type}{w0 w H l C f args}{F:t->p->o->u->q->s->Value}{r:t->p->o->u->q->s->World->Prop}(m)(v:∀args w,(callFunc f args).run P w=.ok (.enter f args) w)(k:∀{j d n g i b a},GG (HS w0 H a H a l) (r j d n g i b a)<|W P fn R<|yN (F j d n g i b) a<|vv P fn m c)(h1:(clC<|vv P fn m c,clH<|vv P fn m c,clL<|vv P fn m c)=(some C,H,l):=by kernel_rfl)(h:((aa P fn m c).see,caI<|vv P fn m c,lok<|vv P fn m c,(vv P fn m c).w)=((aa P fn m c).so,some (f,args),true,w):=by kernel_rfl):GG (HS w0 H w H w l) (Calls P f args w fun e a=>∃j d n g i b,e=.returned (F j d n g i b)/\C a/\Kept H w a/\r j d n g i b a) (W P fn R c):=cc m v (xe6<|rt<|aac k h1) h
end
end Go.SE
end
section
open Go Go.SE List
open Go.IntKind renaming i64 -> q6
namespace Go.Proofs
open Tryz
set_option maxRecDepth 100000
set_option maxHeartbeats 4000000
attribute [local irreducible] wpL wpX opE wpE Calls
attribute [local irreducible] adv W WV WR yN pv lpC jBQ ctR ka rgP dgo nwV nhI hvl had hcs hpt stV stC kp yM uK qM bn ub
def m_F3(s1:Sl)(a:World)(K:Sl->WP):Prop:=∃b1,(Go.binOp .eql 46 s1.v Sl.nil.v).run prog a=.ok (vb b1) a/\Br b1 (K Sl.nil a) (∀p1 d,New a (.cells #[] 73) p1 d->∃c:Sl,∃b:World,(Builtin.append_ #[46,46] 46 #[(Sl.mk (some p1) 0 0).v,s1.v]).run prog d=.ok c.v b/\K c b)
def w_F3(s1 w0 K)(h:m_F3 s1 w0 K):
  cl 129 #[s1.v] w0<|XA K:=
 cwN func129 h<|xe<|rb 2<|br 0 0 (rr 2)<|nwn 1<|xe2<|ef 1<|aan<|rr 1
def m_G1_l1(s1:Sl)(e b:Int)(a:World)(c:Int->WP)(K:Int->WP):Prop:=Br (decide (b<(s1.len:Int))) (∃a1:Addr,At s1 b 1 a1/\li a a1 fun d=>Br (e==d) (K b a)<|c (q6.wrap<|b+1) a)<|K (-1) a
def m_G1(s1:Sl)(f:Int)(g:World)(K:Int->WP):Prop:=∃(e:Int->WP) (c:Int->World->Nat),e 0 g/\∀(d:Int) (a:World),e d a->m_G1_l1 s1 f d a (fun b w'=>e b w'/\c b w'<c d a) K
def w_G1(s1 v1 w0 K)(h:m_G1 s1 v1 w0 K):
  cl 162 #[s1.v,(vi v1)] w0<|XB K:=
 cwN func162 h<|wc1 4 [0,1,7] (fun a=>[(8,(vi a))])<|fun {_ _ a}=>fun b=>br 0 1 (ix 6<|ld 0<|br 0 1 (rr 3)<|jen 3 b)<|rr 2
def m_G3(s1:Sl)(a:Int)(b:World)(K:Bool->WP):Prop:=cl 162 #[s1.v,(vi a)] b<|XB fun r1 c=>K (decide (r1>=0)) c
def w_G3(s1 v1 w0 K)(h:m_G3 s1 v1 w0 K):
  cl 133 #[s1.v,(vi v1)] w0<|XC K:=
 cwN func133 h<|cn1 3 call162<|rr 2
end Go.Proofs
end
section
open Go Go.SE List
namespace Go.Proofs
open Tryz
attribute [local irreducible] Calls
def tmr(ts:List Int):List (List Value):=ts.map fun t=>[vi t]
def zY(ts):(tmr ts).length=ts.length:=by simp[tmr]
def zGF(ts):∀q∈tmr ts,q.all vE=true:=by intro q a;obtain⟨t,_,rfl⟩:=mem_map.1 a;rfl
def tmr_sz(ts):∀q∈tmr ts,q.length=1:=by intro q a;obtain⟨t,_,rfl⟩:=mem_map.1 a;rfl
def jEX:SlType prog 46 73 1 8:=by
 refine⟨underlying46,⟨t73,_,Kf,(by kernel_rfl:t73.zero=some (vi 0)),Kf,Kf,rfl⟩,Om⟩
structure RetO(w:World)(e:TypeId)(sz:Nat)(rs:List (List Value))(s:Sl)(w':World):Prop where
 rows:Rws w' e sz s rs
 own:∀b,s.blk b->w.heap.size<=b
 pure:Pure w w'
def RetO.kept{w H e sz rs s w'}(h:RetO w e sz rs s w'):Kept H w w':=h.pure.keptP
def uQ{S w s ts}(h:Lst S w 1 s (tmr ts)){j}(b:j<ts.length):∃a,At s j 1 a/\S a.block/\w.cell? a=some (vi ts[j]):=by
 have⟨a,h1,h2,h3⟩:=h.at_ j (by simpa[tmr]using b);exact⟨a,h1,h2,jBB<|by simpa[tmr]using h3⟩
def jGE{P}(w d){t e}(a l c)(h:P.underlying t=some (.slice e)):(Op.equalIn (d+1) t (.slice a l c)<|.slice none 0 0).run P w=.ok a.isNone w:=by
 cases a<;>simp[Op.equalIn,run_underlying h]
def jFB{P}(w){t e}(a l c)(h:P.underlying t=some (.slice e)):(Go.binOp .eql t (.slice a l c)<|.slice none 0 0).run P w=.ok (vb a.isNone) w:=by
 simp only[Go.binOp];simp[Op.equal,Op.maxDepth,jGE w 9999 a l c h]
def zAH{S}(s ts v w0)(hs:Lst S w0 1 s (tmr ts))(l:ts.length<=1000000):
  cl 162 #[s.v,vi v] w0<|XB fun r w'=>(decide (r>=0)=decide (v∈ts))/\w'=w0:=by
 refine w_G1 _ _ w0 _ ?_
 unfold m_G1
 have g:s.len=ts.length:=by rw[hs.len,zY]
 refine⟨fun i w'=>w'=w0/\∃j:Nat,i=j/\j<=ts.length/\v∉ts.take j,fun i _=>((ts.length:Int)-i).toNat,⟨rfl,0,rfl,Nat.zero_le _,Sm⟩,?_⟩
 rintro _ _ ⟨rfl,j,rfl,m,k⟩
 refine⟨fun h=>?_,fun h=>?_⟩
 have b:=vR g h
 have⟨a,d,_,f⟩:=uQ hs b
 have e:ts.take (j+1)=ts.take j++[ts[j]]:=take_succ_eq_append_getElem b
 refine⟨a,d,_,f,fun h=>⟨?_,rfl⟩,fun h=>?_⟩
 grind
 rw[zQ b Om]
 refine⟨⟨rfl,j+1,rfl,b,?_⟩,uR b⟩
 rw[e,mem_append,mem_singleton]
 rintro(c|c)
 exact k c
 simp[c]at h
 grind
def jQB{S}(s ts v w0)(hs:Lst S w0 1 s (tmr ts))(a:ts.length<=1000000):
  cl 133 #[s.v,vi v] w0<|XC fun r w'=>r=decide (v∈ts)/\w'=w0:=by
 refine w_G3 _ _ w0 _ ?_
 refine(zAH s ts v w0 hs a).mono ?_
 rintro _ _ ⟨r,rfl,hr,rfl⟩
 exact⟨_,rfl,hr,rfl⟩
def zAI{S:NP}(s:Sl)(ts:List Int)(c:World)(hs:Lst S c 1 s (tmr ts))(l:s.a=none->s=Sl.nil)(t:ts.length<=1000000):
  cl 129 #[s.v] c<|XA fun r w'=>RetO c 73 1 (tmr ts) r w':=by
 refine w_F3 _ c _ ?_
 refine⟨s.a.isNone,?_,fun h=>?_,fun h=>?_⟩
 exact jFB c s.a s.len s.cap underlying46
 have j:=l<|Option.isNone_iff_eq_none.1 h
 subst j
 have:ts=[]:=by have:=hs.len;rw[zY]at this;exact length_eq_zero_iff.1 this.symm
 subst this
 exact⟨Rws.nil _ _ _,fun b d=>(by have⟨a,i,_⟩:=d;cases i),Ext.refl _⟩
 intro p1 o h1
 have f:Pure c o:=Ext.new h1
 have⟨n,m,hr,k,p,d⟩:=(Rws.empty (sz:=1) h1).appendL (P:=prog) (ty:=46) jEX (hs.pure f) (tmr_sz _) (zGF _) (by rw[zY];simp;omega) (by rw[zY];simp[maxLen];omega)
 have q:=h1.at_size
 have g:∀b,(Sl.mk (some p1) 0 0).blk b->c.heap.size<=b:=fun b d=>(by have⟨a,i,e⟩:=d;cases i;omega)
 exact⟨n,m,hr,by simpa using k,fun b h=>(d b h).elim (g b) fun h=>Oh f.size,f.trans' p Gd⟩
end Go.Proofs
end
section
open Go Go.SE List
open Go.IntKind renaming i64 -> q6
namespace Go.Proofs
open Tryz
set_option maxRecDepth 100000
set_option maxHeartbeats 4000000
attribute [local irreducible] wpL wpX opE wpE Calls
attribute [local irreducible] adv W WV WR yN pv lpC jBQ ctR ka rgP dgo nwV nhI hvl had hcs hpt stV stC kp yM uK qM bn ub
def m_H3(p1:Option Addr)(b:World)(K:(Option Addr)->WP):Prop:=Br (Option.isNone p1) (K none b)<|∀a d,New b (.map #[] 0) a d->∀p3 c,New d (.cells #[(vp p1),Sl.nil.v,(.map<|some a.block),Sl.nil.v] 163) p3 c->K (some p3) c
def w_H3(p1 w0 K)(h:m_H3 p1 w0 K):
  cl 43 #[(vp p1)] w0<|XD K:=
 cwN func43 h<|br 0 3 (rr 2)<|nwn 2<|nwn 1<|rr 1
def m_Q2(y:Option Addr)(x:Int)(z:World)(K:Sl->Bool->WP):Prop:=∀p1 g,New z (.cells #[(vp y)] 93) p1 g->lp g p1 fun A=>Br (Option.isNone A) (K Sl.nil false g)<|∀l q,New g (.cells #[Sl.nil.v] 169) l q->∀p3 t,New q (.map #[] 0) p3 t->∀h j,New t (.cells #[(.map none)] 231) h j->zV j h/\∀s,s=j.setCell h (.map<|some p3.block)->∀n r,New s (.map #[] 0) n r->∀f k,New r (.cells #[(.map none)] 232) f k->zV k f/\∀o,o=k.setCell f (.map<|some n.block)->∀d m,New o (.cells #[(.nilFunc:Value)] 233) d m->zV m d/\∀b,b=m.setCell d (.func (.func 160) #[] #[(vp<|some h),(vp<|some f),(vp<|some p1),(vp<|some d),(vp<|some l)])->∃p:Value,b.cell? d=some p/\∃(i:FuncId) (c e:Array Value),p=.func (.func i) c e/\(∀args w,(callFunc i args).run prog w=.ok (.enter i args) w)/\Calls prog i (c++#[(vi x)]++e) b (XE fun r1 r2 a=>Br (!r2) (K Sl.nil false a)<|lx a l fun u=>K u true a)
def w_Q2(k1 t1 w0 K)(h:m_Q2 k1 t1 w0 K):
  cl 105 #[(vp k1),(vi t1)] w0<|XF K:=
 cwN func105 h<|nwn 0<|ld 2<|br 0 1 (rr 3)<|nwn 1<|nwn 0<|nwn 0<|ssn 0<|nwn 0<|nwn 0<|ssn 0<|nwn 0<|ssn 1<|ld 0<|fo<|fun a=>cv 1 a<|xe2<|rt<|aan<|br 0 7 (rr 3)<|ld 1<|rr 2
def m_I3(c:Option Addr)(b:Int)(a:World)(K:Bool->WP):Prop:=cl 105 #[(vp c),(vi b)] a<|XF fun r1 r2 d=>K r2 d
def w_I3(k1 t1 w0 K)(h:m_I3 k1 t1 w0 K):
  cl 63 #[(vp k1),(vi t1)] w0<|XC K:=
 cwN func63 h<|cn2 3 call105<|rr 7
def m_J3(b:Option Addr)(a:World)(K:Sl->WP):Prop:=Br (Option.isNone b) (K Sl.nil a)<|∃a1,b=some a1/\lx a (a1.add 1) fun c=>cl 129 #[c.v] a<|XA K
def w_J3(k1 w0 K)(h:m_J3 k1 w0 K):
  cl 68 #[(vp k1)] w0<|XA K:=
 cwN func68 h<|br 0 3 (rr 2)<|nc 2<|ld 1<|cn1 0 call129<|rr 1
def m_W_j2(p1:Addr)(at1:Int)(k i:Addr)(o:World)(H:NP)(w:World)(d:Int->NP->WP)(p:WP):Prop:=li w i fun b=>Br (b==4) (li w (i.add 5) fun l=>cl 181 #[(vi l),(vi 1),(vp<|some p1),(vp<|some k)] w fun e c=>e=.returned (.tuple #[])/\Kept H w c/\li c (i.add 6) fun j=>cl 181 #[(vi j),(vi 2),(vp<|some p1),(vp<|some k)] c fun e h=>e=.returned (.tuple #[])/\Kept H c h/\d (q6.wrap<|at1+1) H h) (∀n:Bool,n=(cond (b==7) (b==7)<|cond (b==8) (b==8)<|b==9)->Br n (∀f a,Hst o H w f a->li a (i.add 5) fun m=>cl 181 #[(vi m),(vi 3),(vp<|some p1),(vp<|some k)] a fun e g=>e=.returned (.tuple #[])/\Kept f a g/\d (q6.wrap<|at1+1) f g) (∀f a,Hst o H w f a->d (q6.wrap<|at1+1) f a))
def m_W_l1(p1:Addr)(at1:Int)(M:World)(b:NP)(a:World)(s:Int->NP->WP)(K:WP):Prop:=lp a p1 fun y=>∃L,y=some L/\lx a (L.add 3) fun z=>Br (decide (at1<(z.len:Int))) (lp a p1 fun A=>∃S,A=some S/\lx a (S.add 3) fun w=>∃B:Addr,At w at1 1 B/\li a B fun x=>∀k p,New a (.cells #[(vi 0)] 73) k p->zV p k/\¬b k.block/\∀l,l=p.setCell k (vi x)->∃c:WP,c l.drew/\∀h,h=l.drew->∃u,(∀w',c w'->w'.cell? p1=some (vp u))/\∃v,u=some v/\∃n,(∀w',c w'->w'.cell? v=some (vp n))/\∃i,(∀w',c w'->w'.cell? k=some (vi i))/\(cl 109 #[(vp n),(vi i)] h fun e q=>∃D N Q O E R P r1,e=.returned (.tuple #[(Ae D N Q O E R P),(vb r1)])/\c q/\Kept b h q/\∀r g,New q (.cells #[(vi 0),(vi 0),(vi 0),(vu 0),ve,(vi 0),(vi 0)] 119) r g->c g/\(∀j,j<7->zV g (r.add j))/\¬b r.block/\∀m,m=storeRow g r (Ab D N Q O E R P)->c m/\m_W_j2 p1 at1 k r M b m s K)/\(∀t d,New h (.cells #[(vi 0),(vi 0),(vi 0),(vu 0),ve,(vi 0),(vi 0)] 119) t d->c d/\cl 109 #[(vp n),(vi i)] d fun e f=>∃F T I C H G J r2,e=.returned (.tuple #[(Ae F T I C H G J),(vb r2)])/\c f/\Kept b d f/\(∀j,j<7->zV f (t.add j))/\¬b t.block/\∀o,o=storeRow f t (Ab F T I C H G J)->c o/\m_W_j2 p1 at1 k t M b o s K)) (K a)
def m_W(L:Option Addr)(t e d:Int)(l:World)(K:WP):Prop:=∀p1 C,New l (.cells #[(vp L)] 93) p1 C->∀s h,Hst l None C s h->lp h p1 fun M=>∃a1,M=some a1/\∃A:Option Nat,h.cell? (a1.add 2)=some (.map A)/\∃c b p,(Instr.lookup 161 (.map A) (vi t) true).run prog h=.ok (.tuple #[(.agg #[(vi c),(vi b)]),(vb p)]) h/\Br p (∀g j,Hst l s h g j->K j) (∀g j,Hst l s h g j->∃x:WP,x j.drew/\∀u,u=j.drew->∃z,(∀w',x w'->w'.cell? p1=some (vp z))/\∃a2,z=some a2/\∃G:Option Nat,(∀w',x w'->w'.cell? (a2.add 2)=some (.map G))/\∃k:World,(Instr.mapUpdate 161 (.map G) (vi t)<|.agg #[(vi e),(vi d)]).run prog u=.ok () k/\Kept g u k/\lp k p1 fun J=>∃a3,J=some a3/\lx k (a3.add 3) fun H=>∃i:WP,i k.drew/\∀F,F=k.drew->∃B,(∀w',i w'->w'.cell? p1=some (vp B))/\∃D,(∀w',i w'->w'.cell? p1=some (vp D))/\∃a4,D=some a4/\∃y:Sl,(∀w',i w'->w'.cell? (a4.add 3)=some y.v)/\∀E r,New F (.cells #[(vi t)] 73) E r->i r/\∃s1:Sl,∃q:World,(Builtin.append_ #[46,46] 46 #[y.v,(Sl.mk (some E) 1 1).v]).run prog r=.ok s1.v q/\i q/\Kept g r q/\∃a5,B=some a5/\zV q (a5.add 3)/\¬g (a5.add 3).block/\∀o,o=q.setCell (a5.add 3) s1.v->∃(w:Int->NP->WP) (m:Int->World->Nat),w (H.len:Int) g o/\∀(at1:Int) (f:NP) (a:World),Hst l f a f a->w at1 f a->m_W_l1 p1 at1 l f a (fun n I w'=>w n I w'/\m n w'<m at1 a) K)
def w_W(k1 t1 wrule1 wfrom1 w0 K)(h:m_W k1 t1 wrule1 wfrom1 w0 K):
  cl 134 #[(vp k1),(vi t1),(.agg #[(vi wrule1),(vi wfrom1)])] w0<|fun e w'=>e=.returned (.tuple #[])/\K  w':=
 cwH func134 h<|nwh 0<|nh 0<|ah<|ld 0<|nc 0<|ld 1<|xe3<|rn 1<|nh 3<|sg 0 0 []<|br 0 2 (ah<|rr 1)<|ah<|dC 1 [6] [6]<|ldc 0<|nc 0<|ldc 1<|lgc 1 1 [] 2<|xe<|es 0<|aah<|ld 0<|nc 0<|ld 1<|dC 2 [6,7,10] [10]<|ldc 0<|ldc 0<|nc 0<|ldc 1<|nwc 1<|xe2<|ef 0<|aac<|nc 0<|ssh 1<|wa1 0 [3] (fun at1=>[(8,(vi at1))])<|fun {_ _ at1}=>fun f=>ld 1<|nc 0<|ld 1<|br 0 2 (ld 1<|nc 0<|ld 1<|ix 1<|ld 0<|nwh 0<|ssh 0<|ja1 0 0 [3,8,9] (fun d=>[(10,(vp<|some d))]) (fun d H w=>m_W_j2 _ _ _ d _ H w _ _) (fun g=>dC 0 [5,9,10] []<|ldc 0<|nc 0<|ldc 1<|ldc 0<|dgb 0 (cc 0 call109<|xe6<|xe2<|rt<|aac<|nwc 3<|usc 0<|je 1 0 g)<|nwc 0<|cc 0 call109<|xe6<|xe2<|rt<|aac<|usc 3<|je 1 0 g)<|fun {d}=>ld 3<|fun {a}=>br 0 2 (ld 3<|ca0 0 call181<|ld 2<|ca0 0 call181<|je 3 0 f)<|pj 3 0 [(a==7),(a==8)] [3,8,10,12] (fun b=>[(82,(vb<|cond (b 0) (a==7)<|cond (b 1) (a==8)<|a==9))]) (fun c=>pb 0 0 0 c (fun c=>pe 1 0 c)<|fun c=>pb 0 3 1 c (fun c=>pe 1 0 c)<|fun c=>pe 3 0 c)<|yy<|br 0 0 (ah<|ld 3<|ca0 0 call181<|je 3 0 f)<|ah<|je 4 0 f)<|rr 1
def m_R2(b:Option Addr)(f:Int)(d:World)(K:Int->WP):Prop:=Br (Option.isNone b) (K 7 d)<|∃a1,b=some a1/\lp d a1 fun y=>cl 109 #[(vp y),(vi f)] d fun e i=>∃p s w t r x u r1,e=.returned (.tuple #[(Ae p s w t r x u),(vb r1)])/\Kept None d i/\Br (!r1) (∀a c,Hst d None i a c->K 51 c) (∃a2,b=some a2/\∀a c,Hst d None i a c->lx c (a2.add 1) fun q=>cl 133 #[q.v,(vi f)] c fun e g=>∃r2,e=.returned (vb r2)/\Kept a c g/\Br (!r2) (∃a3,b=some a3/\lx g (a3.add 1) fun o=>∀m j,New g (.cells #[(vi f)] 73) m j->∃s1:Sl,∃h:World,(Builtin.append_ #[46,46] 46 #[o.v,(Sl.mk (some m) 1 1).v]).run prog j=.ok s1.v h/\Kept a j h/\∃a4,b=some a4/\zV h (a4.add 1)/\¬a (a4.add 1).block/\∀k,k=h.setCell (a4.add 1) s1.v->cl 134 #[(vp b),(vi f),(.agg #[(vi 0),(vi 0)])] k fun e l=>e=.returned (.tuple #[])/\Kept a k l/\K 0 l) (cl 134 #[(vp b),(vi f),(.agg #[(vi 0),(vi 0)])] g fun e n=>e=.returned (.tuple #[])/\Kept a g n/\K 0 n))
def w_R2(k1 t1 w0 K)(h:m_R2 k1 t1 w0 K):
  cl 70 #[(vp k1),(vi t1)] w0<|XB K:=
 cwH func70 h<|br 0 3 (rr 2)<|nc 2<|ld 1<|cc 1 call109<|xe6<|xe2<|rt<|aah<|nh 3<|sg 0 0 []<|br 0 3 (ah<|rr 2)<|nc 2<|ah<|ld 1<|ca1 1 call133<|br 0 1 (nc 3<|ld 1<|nwh 1<|xe2<|ef 0<|aah<|nc 0<|ssh 1<|ca0 3 call134<|rr 1)<|ca0 4 call134<|rr 1
def m_K3(g:Option Addr)(h:Int)(c:World)(K:Bool->WP):Prop:=Br (Option.isNone g) (K false c)<|∃a1,g=some a1/\∃e:Option Nat,c.cell? (a1.add 2)=some (.map e)/\∃b a d,(Instr.lookup 161 (.map e) (vi h) true).run prog c=.ok (.tuple #[(.agg #[(vi b),(vi a)]),(vb d)]) c/\∀i f,Hst c None c i f->K d f
def w_K3(k1 t1 w0 K)(h:m_K3 k1 t1 w0 K):
  cl 128 #[(vp k1),(vi t1)] w0<|XC K:=
 cwH func128 h<|br 0 3 (rr 2)<|nc 2<|ld 1<|xe3<|rn 1<|nh 3<|sg 0 0 []<|ah<|rr 3
def m_S1_j1(h:Option Addr)(f a:Int)(H:NP)(w:World)(K:Int->Int->Bool->Bool->WP):Prop:=∃a2,h=some a2/\lp w a2 fun i=>cl 127 #[(vp i),(.agg #[(vi 6),(vi a),(vi 0),(vu 0),ve,(vi 0),(vi 0)])] w fun e c=>∃r2 r3,e=.returned (.tuple #[(vi r2),(vb r3)])/\Kept H w c/\∃g:WP,g c.drew/\∀b,b=c.drew->Br r3 (cl 128 #[(vp h),(vi r2)] b<|XC fun j d=>g d/\Kept H b d/\K f r2 false j d) (K f r2 false false b)
def m_S1(j:Option Addr)(r:Int)(b:World)(K:Int->Int->Bool->Bool->WP):Prop:=∃a1,j=some a1/\lp b a1 fun u=>cl 109 #[(vp u),(vi r)] b fun e f=>∃a l o t s g n r1,e=.returned (.tuple #[(Ae a l o t s g n),(vb r1)])/\Kept None b f/\Br (!r1) (∀q k,Hst b None f q k->K 0 0 false false k) (∀m:Bool,m=(cond (a==1) (a==1)<|cond (a==2) (a==2)<|a==3)->Br m (∀d c,Hst b None f d c->K 0 0 true true c) (Br (a==4) (∀d h,Hst b None f d h->K g n false true h)<|Br (a==5) (∀d c,Hst b None f d c->K g 0 false true c)<|Br (a==6) (∀d c,Hst b None f d c->K 0 0 false false c)<|∀i p,Hst b None f i p->m_S1_j1 j g (cond (a==9) o l) i p K))
def w_S1(k1 t1 w0 K)(h:m_S1 k1 t1 w0 K):
  cl 161 #[(vp k1),(vi t1)] w0<|XG K:=
 cwH func161 h<|nc 5<|ld 1<|cc 1 call109<|xe6<|fun {d i f}=>xe2<|rt<|aah<|nh 3<|sg 0 0 []<|br 0 3 (ah<|rr 5)<|lh 2 0 [1]<|lh 2 0 []<|ja1 0 3 [0,8] (fun a=>[(10,(vi a))]) (fun a H w=>m_S1_j1 _ _ a H w _) (fun g=>pj 2 0 [(d==1),(d==2)] [0,8,10,26] (fun b=>[(27,(vb<|cond (b 0) (d==1)<|cond (b 1) (d==2)<|d==3))]) (fun c=>pb 0 0 0 c (fun c=>pe 1 0 c)<|fun c=>pb 0 3 1 c (fun c=>pe 1 0 c)<|fun c=>pe 3 0 c)<|yy<|br 0 0 (ah<|rr 5)<|br 0 3 (dq 1<|lh 1 0 [5]<|lh 1 0 [6]<|ah<|rr 4)<|br 0 3 (lh 2 0 [5]<|ah<|rr 4)<|br 0 3 (ah<|rr 5)<|pj 3 0 [(d==9)] [0,8] (fun b=>[(10,(vi<|cond (b 0) f i))]) (fun e=>pb 0 0 0 e (fun e=>lh 2 0 [2]<|pe 1 0 e)<|fun e=>pe 1 0 e)<|ah<|je 0 0 g)<|fun {a}=>nc 1<|ld 1<|ca2 2 call127<|dC 5 [7] []<|lhc 1 0 [5]<|br 1 3 (cd1 2 call128<|rr 5)<|rr 8
def m_N_j1(j:Int)(b c a:Addr)(i:Bool)(q r:Int)(t s:Int)(H:NP)(w:World)(K:Int->Bool->WP):Prop:=Br (!i) (∃n:Option Nat,w.cell? c=some (.map n)/\∃k:World,(Instr.mapUpdate 232 (.map n) (vi j)<|vb true).run prog w=.ok () k/\Kept H w k/\K 0 false k)<|∃o:Option Nat,w.cell? b=some (.map o)/\lx w a fun p=>∃h:World,(Instr.mapUpdate 231 (.map o) (vi j)<|vi (p.len:Int)).run prog w=.ok () h/\Kept H w h/\lx h a fun l=>∀p3 m,New h (.cells #[(vi q),(vi r),(vi t),(vi s)] 173) p3 m->∃s1:Sl,∃g:World,(Builtin.append_ #[169,169] 169 #[l.v,(Sl.mk (some p3) 1 1).v]).run prog m=.ok s1.v g/\Kept H m g/\zV g a/\¬H a.block/\∀d,d=g.setCell a s1.v->∃e:Option Nat,d.cell? b=some (.map e)/\∃f,(Instr.lookup 231 (.map e) (vi j) false).run prog d=.ok (vi f) d/\K f true d
def m_N_j2(p:Int)(d c:Addr)(f e:Addr)(o:Int)(j:Bool)(s r:Int)(t q:Int)(n:World)(H:NP)(w:World)(K:Int->Bool->WP):Prop:=Br (j&&(decide (o>0))) (∀b a,Hst n H w b a->∃k:Value,a.cell? f=some k/\∃(m:FuncId) (l i:Array Value),k=.func (.func m) l i/\(∀args w,(callFunc m args).run prog w=.ok (.enter m args) w)/\Calls prog m (l++#[(vi o)]++i) a (XE fun u v h=>Kept b a h/\∀g,Hst n b h b g->m_N_j1 p d c e v s r u q b g K))<|∀b a,Hst n H w b a->m_N_j1 p d c e j s r t q b a K
def m_N(l:Int)(c b:Addr)(n k d:Addr)(g:World)(K:Int->Bool->WP):Prop:=∃R:Option Nat,g.cell? c=some (.map R)/\∃Q D,(Instr.lookup 231 (.map R) (vi l) true).run prog g=.ok (.tuple #[(vi Q),(vb D)]) g/\Br D (K Q true g) (∀x m,Hst g None g x m->∃P:Option Nat,m.cell? b=some (.map P)/\∃E,(Instr.lookup 232 (.map P) (vi l) false).run prog m=.ok (vb E) m/\lp m n fun S=>∃a1,S=some a1/\∃O:Option Nat,m.cell? (a1.add 2)=some (.map O)/\∃a j r,(Instr.lookup 161 (.map O) (vi l) true).run prog m=.ok (.tuple #[(.agg #[(vi a),(vi j)]),(vb r)]) m/\Br r (Br (a !=0) (∀f h,Hst g x m f h->∃s:Value,h.cell? k=some s/\∃(G:FuncId) (t F:Array Value),s=.func (.func G) t F/\(∀args w,(callFunc G args).run prog w=.ok (.enter G args) w)/\Calls prog G (t++#[(vi j)]++F) h (XE fun r1 r2 C=>Kept f h C/\∀y,Hst g f C f y->m_N_j1 l c b d (!E) a r1 0 l f y K))<|∀f h,Hst g x m f h->m_N_j1 l c b d (!E) a 0 0 l f h K) (Br (!E) (∀f p,Hst g x m f p->lp p n fun I=>cl 161 #[(vp I),(vi l)] p fun e q=>∃r3 J L M,e=.returned (.tuple #[(vi r3),(vi J),(vb L),(vb M)])/\Kept f p q/\Br (M&&(decide (r3>0))) (∀o i,Hst g f q o i->∃u:Value,i.cell? k=some u/\∃(H:FuncId) (v A:Array Value),u=.func (.func H) v A/\(∀args w,(callFunc H args).run prog w=.ok (.enter H args) w)/\Calls prog H (v++#[(vi r3)]++A) i (XE fun T N B=>Kept o i B/\∀z,Hst g o B o z->m_N_j2 l c b k d J N (cond L 4 5) T 0 l g o z K)) (∀o i,Hst g f q o i->m_N_j2 l c b k d J M (cond L 4 5) 0 0 l g o i K)) (∀f p,Hst g x m f p->m_N_j1 l c b d (!E) 0 0 0 l f p K)))
def w_N(t1 cap1 cap2 cap3 cap4 cap5 w0 K)(h:m_N t1 cap1 cap2 cap3 cap4 cap5 w0 K):
  cl 160 #[(vi t1),(vp<|some cap1),(vp<|some cap2),(vp<|some cap3),(vp<|some cap4),(vp<|some cap5)] w0<|XE K:=
 cwH func160 h<|ld 2<|xe2<|rn 1<|br 0 6 (rr 4)<|nh 3<|sg 0 0 []<|ah<|ld 0<|xe<|rn 1<|ld 2<|nc 0<|ld 1<|xe3<|rn 1<|nh 3<|sg 0 0 []<|jb5 2 0 [0,1,2,5,11] (fun c f g m i=>[(12,(vb c))]) (fun c f g m i l=>hpt l 1 0 [(vi f),(vi g),(vi m),(vi i)]) (fun c f g m i H w=>m_N_j1 _ _ _ _ c f g m i H w _) (fun j=>br 0 0 (lh 2 0 []<|sh 1 1 []<|lh 1 0 []<|br 0 1 (ah<|ld 1<|lh 1 0 [1]<|fo<|fun r=>cv 0 r<|xe2<|rt<|aah<|sh 4 1 [1]<|an<|je 0 0 j)<|ah<|je 1 0 j)<|br 0 2 (ah<|ld 1<|ca4 1 call161<|fun {r3 v x y}=>sh 11 1 []<|ph (fun b l=>hpt l 1 0 [(vi<|cond (b 0) 4 5),(vi 0),(vi 0),(vi t1)]) 2 0 [x] [0,1,2,4,5,11,12,15,16] (fun b=>[]) (fun n=>pb 0 0 0 n (fun n=>sh 2 1 []<|pe 0 0 n)<|fun n=>pe 1 0 n)<|pj 0 0 [y] [0,1,2,4,5,11,12,15,16] (fun b=>[(74,(vb<|(b 0)&&(decide (r3>0))))]) (fun e=>pb 1 2 0 e (fun e=>pe 3 0 e)<|fun e=>pe 3 0 e)<|jb5 0 0 [0,1,2,4,5,11,16] (fun a p o d k=>[(12,(vb a))]) (fun a p o d k l=>hpt l 1 0 [(vi p),(vi o),(vi d),(vi k)]) (fun a p o d k H w=>m_N_j2 _ _ _ _ _ _ a p o d k _ H w _) (fun u=>br 0 0 (ah<|ld 1<|fo<|fun t=>cv 1 t<|xe2<|rt<|aah<|sh 4 1 [1]<|an<|je 1 0 u)<|ah<|je 1 0 u)<|fun {a p o d k}=>pj 0 0 [a] [0,1,2,4,5,11,12,16] (fun b=>[(86,(vb<|(b 0)&&(decide (v>0))))]) (fun q=>pb 1 2 0 q (fun q=>pe 3 0 q)<|fun q=>pe 3 0 q)<|br 0 0 (ah<|ld 1<|fo<|fun s=>cv 1 s<|xe2<|rt<|aah<|sh 4 1 [2]<|an<|je 1 0 j)<|ah<|je 1 0 j)<|ah<|je 1 0 j)<|fun {c f g m i}=>br 0 2 (ld 1<|xe<|es 1<|aah<|rr 2)<|ld 1<|ld 1<|xe<|es 1<|aah<|ld 0<|lgg 0 1 [] 4<|nwh 0<|xe2<|ef 0<|aah<|ssh 0<|ld 0<|xe<|rn 1<|rr 2
def m_L3(o e:Int)(a i:Addr)(d:World)(K:WP):Prop:=lp d a fun B=>∃a1,B=some a1/\∃t:Option Nat,d.cell? (a1.add 2)=some (.map t)/\∃c b k,(Instr.lookup 161 (.map t) (vi o) true).run prog d=.ok (.tuple #[(.agg #[(vi c),(vi b)]),(vb k)]) d/\Br (!k) (∀g h,Hst d None d g h->∃n:WP,n h.drew/\∀p,p=h.drew->∃r,(∀w',n w'->w'.cell? a=some (vp r))/\∃a2,r=some a2/\∃z:Option Nat,(∀w',n w'->w'.cell? (a2.add 2)=some (.map z))/\∃w,(∀w',n w'->w'.cell? i=some (vi w))/\∃l:World,(Instr.mapUpdate 161 (.map z) (vi o)<|.agg #[(vi e),(vi w)]).run prog p=.ok () l/\Kept g p l/\∃f:WP,f l.drew/\∀x,x=l.drew->∃q,(∀w',f w'->w'.cell? a=some (vp q))/\∃u,(∀w',f w'->w'.cell? a=some (vp u))/\∃a3,u=some a3/\∃y:Sl,(∀w',f w'->w'.cell? (a3.add 3)=some y.v)/\∀A m,New x (.cells #[(vi o)] 73) A m->f m/\∃s1:Sl,∃j:World,(Builtin.append_ #[46,46] 46 #[y.v,(Sl.mk (some A) 1 1).v]).run prog m=.ok s1.v j/\f j/\Kept g m j/\∃a4,q=some a4/\zV j (a4.add 3)/\¬g (a4.add 3).block/\∀s,s=j.setCell (a4.add 3) s1.v->K s) (∀g h,Hst d None d g h->K h)
def w_L3(t1 rule1 cap1 cap2 w0 K)(h:m_L3 t1 rule1 cap1 cap2 w0 K):
  cl 181 #[(vi t1),(vi rule1),(vp<|some cap1),(vp<|some cap2)] w0<|fun e w'=>e=.returned (.tuple #[])/\K  w':=
 cwH func181 h<|ld 0<|nc 0<|ld 1<|xe3<|rn 1<|nh 3<|sg 0 0 []<|br 0 3 (ah<|dC 1 [8] [8]<|ldc 0<|nc 0<|ldc 1<|ldc 2<|xe<|es 1<|aah<|dC 0 [6,7,10] [10]<|ldc 0<|ldc 0<|nc 0<|ldc 1<|nwc 1<|xe2<|ef 0<|aac<|nc 0<|ssh 1<|rr 0)<|ah<|rr 1
end Go.Proofs
end
section
open Go Go.SE List
open Go.IntKind renaming i64 -> q6
namespace Go.Proofs
open Tryz
set_option maxRecDepth 100000
set_option maxHeartbeats 4000000
attribute [local irreducible] wpL wpX opE wpE Calls
attribute [local irreducible] adv W WV WR yN pv lpC jBQ ctR ka rgP dgo nwV nhI hvl had hcs hpt stV stC kp yM uK qM bn ub
def m_M3(d:World)(K:(Option Addr)->WP):Prop:=∀p1 c,New d (.map #[] 0) p1 c->∀a b,New c (.cells #[Sl.nil.v,(.map<|some p1.block)] 160) a b->K (some a) b
def w_M3(a:World)(K:(Option Addr)->WP)(h:m_M3  a K):
  cl 42 #[] a<|XD K:=
 cwN func42 h<|nwn 1<|nwn 1<|rr 1
def m_S2(p1:Option Addr)(w x:Int)(C z:Int)(t:ByteArray)(y:Sl)(A:World)(K:Int->Int->WP):Prop:=∀f c,New A (.cells #[(vi w),(vi x),(vi C),(vu z),(vs t),y.v] 71) f c->Br (Option.isNone p1) (K 0 0 c) (∀p3 b,New c (.cells #[(vi 0)] 3) p3 b->zV b p3/\∀d,d=b.setCell p3 (vi 0)->∃s i j o k l,Row d f (Ac s i j o k l)/\cl 124 #[(.agg #[(vi s),(vi i),(vi j),(vu o),(vs k),l.v]),(vi 0),(vp<|some p3)] d fun e a=>∃r1,e=.returned (vi r1)/\Br (r1 !=0) (K 0 r1 a) (∃a1,p1=some a1/\lx a a1 fun B=>∃n p q g r h,Row a f (Ac n p q g r h)/\cl 125 #[(vp p1),(.agg #[(vi n),(vi p),(vi q),(vu g),(vs r),h.v])] a fun e m=>∃r2 r3,e=.returned (.tuple #[(vi r2),(vi r3)])/\Br (r3 !=0) (cl 126 #[(vp p1),(vi (B.len:Int))] m fun e u=>e=.returned (.tuple #[])/\K 0 r3 u) (K r2 0 m)))
def w_S2(p1 aO aP aQ aR aS aT w0 K)(h:m_S2 p1 aO aP aQ aR aS aT w0 K):
  cl 62 #[(vp p1),(.agg #[(vi aO),(vi aP),(vi aQ),(vu aR),(vs aS),aT.v])] w0<|XH K:=
 cwN func62 h<|nwn 0<|br 0 4 (rr 3)<|nwn 1<|ssn 0<|xe6<|lr 0<|cn1 0 call124<|br 0 3 (rr 4)<|nc 2<|ld 1<|xe6<|lr 3<|cn2 0 call125<|br 0 7 (cn0 3 call126<|rr 3)<|rr 4
def m_N3(p1:Option Addr)(n1:Int)(a:World)(K:Int->Int->WP):Prop:=cl 132 #[(vp p1),(.agg #[(vi 6),(vi n1),(vi 0),(vu 0),ve,(vi 0),(vi 0)])] a<|XH K
def w_N3(p1 n1 w0 K)(h:m_N3 p1 n1 w0 K):
  cl 99 #[(vp p1),(vi n1)] w0<|XH K:=
 cwN func99 h<|cn2 5 call132<|rr 4
def m_O3(p1:Option Addr)(m:Int)(C:World)(K:Int->Int->Int->Int->ByteArray->Int->Int->Bool->WP):Prop:=∀a r,New C (.cells #[(vi 0),(vi 0),(vi 0),(vu 0),ve,(vi 0),(vi 0)] 119) a r->cl 130 #[(vp p1),(vi m)] r (XC fun r1 b=>Br (!r1) ((∀j,j<7->zV b (a.add j))/\∀d,d=storeRow b a [(vi 0),(vi 0),(vi 0),(vu 0),ve,(vi 0),(vi 0)]->∃u e z s v w g,Row d a (Ab u e z s v w g)/\K u e z s v w g false d)<|∃a1,p1=some a1/\lx b a1 fun D=>∃a2:Addr,At D (q6.wrap<|m-1) 9 a2/\∃y l o t p f x,Row b a2 (Ab y l o t p f x)/\(∀j,j<7->zV b (a.add j))/\∀c,c=storeRow b a (Ab y l o t p f x)->∃h A k n i q B,Row c a (Ab h A k n i q B)/\K h A k n i q B true c)
def w_O3(p1 t1 w0 K)(h:m_O3 p1 t1 w0 K):
  cl 109 #[(vp p1),(vi t1)] w0<|fun e w'=>∃a g c f b i d r2,e=.returned (.tuple #[(Ae a g c f b i d),(vb r2)])/\K a g c f b i d r2 w':=
 cwN func109 h<|nwn 0<|cn1 3 call130<|br 0 1 (usn 2<|rss 1<|xe6<|xe<|qrr<|qee)<|nc 2<|ld 1<|ix 2<|xe6<|xe<|lr 1<|usn 0<|rss 1<|xe6<|xe<|qrr<|qee
def m_L_l4(b:Int)(c:Option Addr)(p1:Addr)(e i1:Int)(a:World)(d:Int->Int->WP)(K:Int->WP):Prop:=lx a (p1.add 5) fun k=>Br (decide (i1<(k.len:Int))) (Br (e==0) (lx a (p1.add 5) fun m=>∃a3:Addr,At m i1 6 a3/\∃i j bK h f g,Row a a3 (Ac i j bK h f g)/\cl 124 #[(.agg #[(vi i),(vi j),(vi bK),(vu h),(vs f),g.v]),(vi<|q6.wrap<|b+1),(vp c)] a (XB fun r2 l=>d r2 (q6.wrap<|i1+1) l)) (K e a)) (K e a)
def m_L_j3(a:Int)(c:Option Addr)(p1:Addr)(i:Int)(w:World)(K:Int->WP):Prop:=∃(g:Int->Int->WP) (e:Int->Int->World->Nat),g i 0 w/\∀(h i1:Int) (b:World),g h i1 b->m_L_l4 a c p1 h i1 b (fun d f w'=>g d f w'/\e d f w'<e h i1 b) K
def m_L_j2(a:Int)(f:Option Addr)(p1 q p3:Addr)(j:Int)(w:World)(K:Int->WP):Prop:=Br (j==0) (∃b g e c d,Row w p3 (Af b g e c d)/\∃o i m p l n k,Row w q (Ab o i m p l n k)/\cl 177 #[(.agg #[(vb b),(vb g),(vb e),(vb c),(vi d)]),(.agg #[(vi o),(vi i),(vi m),(vu p),(vs l),(vi n),(vi k)])] w (XB fun r3 h=>m_L_j3 a f p1 r3 h K))<|m_L_j3 a f p1 j w K
def m_L_j1(a:Int)(b:Option Addr)(p1:Addr)(w:World)(K:Int->WP):Prop:=∃a1,b=some a1/\li w a1 fun Q=>∃a2,b=some a2/\zV w a2/\∀m,m=w.setCell a2 (vi<|q6.wrap<|Q+1)->∃H r t A u x,Row m p1 (Ac H r t A u x)/\cl 175 #[(.agg #[(vi H),(vi r),(vi t),(vu A),(vs u),x.v])] m fun e O=>∃z E J s I L B,e=.returned (Ae z E J s I L B)/\∀g l,New O (.cells #[(vi 0),(vi 0),(vi 0),(vu 0),ve,(vi 0),(vi 0)] 119) g l->(∀j,j<7->zV l (g.add j))/\∀n,n=storeRow l g (Ab z E J s I L B)->∃y C D p G q F,Row n g (Ab y C D p G q F)/\cl 176 #[(.agg #[(vi y),(vi C),(vi D),(vu p),(vs G),(vi q),(vi F)])] n (XI fun f k h c d r1 N=>∀p3 o,New N (.cells #[(vb false),(vb false),(vb false),(vb false),(vi 0)] 263) p3 o->(∀j,j<5->zV o (p3.add j))/\∀i,i=storeRow o p3 (Af f k h c d)->Br (r1==0) (lx i (p1.add 5) fun P=>li i (p3.add 4) fun M=>Br (((P.len:Int):Int) !=M) (m_L_j2 a b p1 g p3 53 i K)<|m_L_j2 a b p1 g p3 r1 i K) (m_L_j2 a b p1 g p3 r1 i K))
def m_L(g f:Int)(j d:Int)(k:ByteArray)(i:Sl)(a:Int)(b:Option Addr)(e:World)(K:Int->WP):Prop:=∀p1 c,New e (.cells #[(vi g),(vi f),(vi j),(vu d),(vs k),i.v] 71) p1 c->∃a4,b=some a4/\li c a4 fun h=>Br (decide (h>=4096)) (K 52 c)<|Br (decide (a>=64)) (K 52 c)<|m_L_j1 a b p1 c K
def w_L(aO aP aQ aR aS aT inside1 seen1 w0 K)(h:m_L aO aP aQ aR aS aT inside1 seen1 w0 K):
  cl 124 #[(.agg #[(vi aO),(vi aP),(vi aQ),(vu aR),(vs aS),aT.v]),(vi inside1),(vp seen1)] w0<|XB K:=
 cwN func124 h<|nwn 0<|jc0 1 1 [1,2,3] ([]) (fun w=>m_L_j1 _ _ _ w _) (fun g=>nc 1<|ld 0<|br 1 2 (rr 5)<|br 0 3 (rr 2)<|jen 1 g)<|nc 1<|ld 0<|nc 1<|ssn 0<|xe6<|lr 0<|cc 0 call175<|xe6<|xe<|rt<|aan<|nwn 0<|usn 0<|xe6<|xe<|lr 0<|cn6 0 call176<|nwn 3<|usn 0<|jc1 1 1 [1,2,3,7,8] (fun a=>[(9,(vi a))]) (fun a w=>m_L_j2 _ _ _ _ _ a w _) (fun c=>br 1 3 (ld 1<|ld 2<|br 0 2 (jen 2 c)<|jen 1 c)<|jen 8 c)<|fun {a}=>jc1 0 1 [1,2,3] (fun b=>[(9,(vi b))]) (fun b w=>m_L_j3 _ _ _ b w _) (fun d=>br 0 2 (xe5<|lr 1<|xe6<|xe<|lr 0<|cn1 0 call177<|jen 1 d)<|jen 1 d)<|fun {b}=>wc2 1 [1,2,3] (fun e i1=>[(9,(vi e)),(10,(vi i1))])<|fun {_ _ e i1}=>fun f=>ld 2<|br 1 3 (br 0 3 (ld 2<|ix 1<|xe6<|lr 0<|cn1 3 call124<|jen 4 f)<|rr 3)<|rr 6
def m_T1_l1(p1:Option Addr)(p3 E:Addr)(B:Sl)(d:Int)(a:World)(e:Int->WP)(K:Int->Int->WP):Prop:=Br (decide (d<(B.len:Int))) (∃a1:Addr,At B d 6 a1/\∃o s t h x k,Row a a1 (Ac o s t h x k)/\∀b f,New a (.cells #[(vi 0),(vi 0),(vi 0),(vu 0),ve,Sl.nil.v] 71) b f->(∀j,j<6->zV f (b.add j))/\∀g,g=storeRow f b (Ac o s t h x k)->∃C p bK n y q,Row g b (Ac C p bK n y q)/\cl 125 #[(vp p1),(.agg #[(vi C),(vi p),(vi bK),(vu n),(vs y),q.v])] g (XH fun r1 r2 c=>Br (r2 !=0) (K 0 r2 c)<|∃a2:Addr,At (Sl.mk (some E) 2 2) d 1 a2/\lp c a2 fun D=>∃a3,D=some a3/\zV c a3/\∀z,z=c.setCell a3 (vi r1)->e (q6.wrap<|d+1) z)) (∃u m A l r i w,Row a p3 (Ab u m A l r i w)/\cl 132 #[(vp p1),(.agg #[(vi u),(vi m),(vi A),(vu l),(vs r),(vi i),(vi w)])] a (XH K))
def m_T1(p1:Option Addr)(D E:Int)(J G:Int)(B:ByteArray)(F:Sl)(H:World)(K:Int->Int->WP):Prop:=∀k f,New H (.cells #[(vi D),(vi E),(vi J),(vu G),(vs B),F.v] 71) k f->∃x l o s p q,Row f k (Ac x l o s p q)/\cl 175 #[(.agg #[(vi x),(vi l),(vi o),(vu s),(vs p),q.v])] f fun e C=>∃r w z n y A t,e=.returned (Ae r w z n y A t)/\∀p3 i,New C (.cells #[(vi 0),(vi 0),(vi 0),(vu 0),ve,(vi 0),(vi 0)] 119) p3 i->(∀j,j<7->zV i (p3.add j))/\∀m,m=storeRow i p3 (Ab r w z n y A t)->∀u g,New m (.cells #[(vp<|some<|p3.add 5),(vp<|some<|p3.add 6)] 267) u g->lx g (k.add 5) fun I=>∃(h:Int->WP) (b:Int->World->Nat),h 0 g/\∀(d:Int) (a:World),h d a->m_T1_l1 p1 p3 u I d a (fun c w'=>h c w'/\b c w'<b d a) K
def w_T1(p1 aO aP aQ aR aS aT w0 K)(h:m_T1 p1 aO aP aQ aR aS aT w0 K):
  cl 125 #[(vp p1),(.agg #[(vi aO),(vi aP),(vi aQ),(vu aR),(vs aS),aT.v])] w0<|XH K:=
 cwN func125 h<|nwn 0<|xe6<|lr 2<|cc 0 call175<|xe6<|xe<|rt<|aan<|nwn 0<|usn 0<|nwn 2<|ld 2<|wc1 2 [0,6,7,18,19] (fun a=>[(20,(vi a))])<|fun {_ _ a}=>fun b=>br 0 1 (ix 2<|xe6<|lr 0<|nwn 0<|usn 1<|xe6<|lr 1<|cn2 0 call125<|br 0 7 (rr 4)<|ix 3<|ld 0<|nc 1<|ssn 0<|jen 2 b)<|xe6<|xe<|lr 2<|cn2 0 call132<|rr 4
def m_U1_l1(p1:Option Addr)(n1:Int)(s1:Sl)(n:Int)(i:World)(m:Int->WP)(K:WP):Prop:=Br (decide (n<(s1.len:Int))) (∃a2:Addr,At s1 n 9 a2/\∃b c e d a g f k h,Row i a2 [(vi b),(vi c),(vi e),(vu d),(vs a),(vi g),(vi f),(vi k),(vi h)]/\∀l p,New i (.cells #[(vi 0),(vi 0),(vi 0),(vu 0),ve,(vi 0),(vi 0),(vi 0),(vi 0)] 248) l p->(∀j,j<9->zV p (l.add j))/\∀o,o=storeRow p l [(vi b),(vi c),(vi e),(vu d),(vs a),(vi g),(vi f),(vi k),(vi h)]->∃q:WP,q o.drew/\∀B,B=o.drew->∃a3,p1=some a3/\∃t:Option Nat,(∀w',q w'->w'.cell? (a3.add 1)=some (.map t))/\∃D s w A x r C,(∀w',q w'->Row w' l (Ab D s w A x r C))/\∃u:World,(Builtin.delete_ #[157,119] 0 #[(.map t),(Ae D s w A x r C)]).run prog B=.ok (.tuple #[]) u/\m (q6.wrap<|n+1) u)<|∃a4,p1=some a4/\lx i a4 fun E=>∃y:Sl,(Instr.sliceAt 158 E.v none (some<|vi n1) none).run prog i=.ok y.v i/\∃a5,p1=some a5/\zV i a5/\∀z,z=i.setCell a5 y.v->K z
def m_U1(p1:Option Addr)(n1:Int)(d:World)(K:WP):Prop:=∃a1,p1=some a1/\lx d a1 fun g=>∃s1:Sl,(Instr.sliceAt 158 g.v (some<|vi n1) none none).run prog d=.ok s1.v d/\∃(f:Int->WP) (c:Int->World->Nat),f 0 d/\∀(e:Int) (a:World),f e a->m_U1_l1 p1 n1 s1 e a (fun b w'=>f b w'/\c b w'<c e a) K
def w_U1(p1 n1 w0 K)(h:m_U1 p1 n1 w0 K):
  cl 126 #[(vp p1),(vi n1)] w0<|fun e w'=>e=.returned (.tuple #[])/\K  w':=
 cwN func126 h<|nc 1<|ld 1<|xe<|rn 1<|wc1 2 [0,1,11,12] (fun a=>[(13,(vi a))])<|fun {_ _ a}=>fun b=>br 0 1 (ix 1<|xe6<|xe3<|lr 0<|nwn 0<|usn 0<|dcn 0 [6] [6]<|nc 1<|ldc 1<|xe6<|xe<|lrc 1<|xe<|ef 0<|aan<|jen 2 b)<|nc 3<|ld 1<|xe<|rn 1<|nc 0<|ssn 1<|rr 0
def m_P3(p1:Option Addr)(n u:Int)(s t:Int)(q:ByteArray)(p o:Int)(r:World)(K:Int->Bool->WP):Prop:=∀l c,New r (.cells #[(vi n),(vi u),(vi s),(vu t),(vs q),(vi p),(vi o)] 119) l c->Br (Option.isNone p1) (K 0 false c) (∀a,a=c.drew->∃a1,p1=some a1/\∃m:Option Nat,a.cell? (a1.add 1)=some (.map m)/\∃k e g i h d j,Row a l (Ab k e g i h d j)/\∃f b,(Instr.lookup 157 (.map m) (.agg #[(vi k),(vi e),(vi g),(vu i),(vs h),(vi d),(vi j)]) true).run prog a=.ok (.tuple #[(vi f),(vb b)]) a/\K f b a)
def w_P3(p1 aA aB aC aD aE aF aG w0 K)(h:m_P3 p1 aA aB aC aD aE aF aG w0 K):
  cl 127 #[(vp p1),(.agg #[(vi aA),(vi aB),(vi aC),(vu aD),(vs aE),(vi aF),(vi aG)])] w0<|XE K:=
 cwN func127 h<|nwn 0<|br 0 4 (rr 3)<|dqn 1<|nc 1<|ld 1<|xe6<|xe<|lr 0<|xe2<|rn 0<|rr 9
def m_V1_j1(p1:Option Addr)(b:Int)(c:Bool)(w:World)(K:Bool->WP):Prop:=Br c (∃a1,p1=some a1/\lx w a1 fun a=>K (decide (b<=(a.len:Int))) w)<|K false w
def m_V1(p1:Option Addr)(a:Int)(b:World)(K:Bool->WP):Prop:=Br (!(Option.isNone p1)) (m_V1_j1 p1 a (decide (a>=1)) b K)<|m_V1_j1 p1 a false b K
def w_V1(p1 t1 w0 K)(h:m_V1 p1 t1 w0 K):
  cl 130 #[(vp p1),(vi t1)] w0<|XC K:=
 cwN func130 h<|ct 4 3<|jc1 0 0 [0,1] (fun a=>[(10,(vb a))]) (fun a w=>m_V1_j1 _ _ a w _) (fun b=>br 1 0 (jen 3 b)<|jen 3 b)<|fun {a}=>br 1 1 (nc 2<|ld 1<|rr 4)<|rr 9
def m_Q3(p1:Option Addr)(d:Int)(e:World)(K:Value->WP):Prop:=∀a c,New e (.cells #[(vp p1)] 91) a c->∀p3 b,New c (.cells #[(vi d)] 73) p3 b->K (.func (.func 178) #[] #[(vp<|some a),(vp<|some p3)]) b
def w_Q3(p1 t1 w0 K)(h:m_Q3 p1 t1 w0 K):
  cl 131 #[(vp p1),(vi t1)] w0<|fun e w'=>∃r1:Value,e=.returned r1/\K r1 w':=
 cwN func131 h<|nwn 0<|nwn 0<|rr 3
def m_T2(p1:Option Addr)(X aB:Int)(aC aD:Int)(aE:ByteArray)(Z Y:Int)(w0:World)(K:Int->Int->WP):Prop:=∀c f,New w0 (.cells #[(vi X),(vi aB),(vi aC),(vu aD),(vs aE),(vi Z),(vi Y)] 119) c f->Br (Option.isNone p1) (K 0 0 f) (∃O q x D y m L,Row f c (Ab O q x D y m L)/\cl 180 #[(vp p1),(.agg #[(vi O),(vi q),(vi x),(vu D),(vs y),(vi m),(vi L)])] f (XJ fun r1 r2 r3 z=>Br (r3 !=0) (K 0 r3 z)<|∀a,a=z.drew->∃a1,p1=some a1/\∃U:Option Nat,a.cell? (a1.add 1)=some (.map U)/\∃B G H k N F l,Row a c (Ab B G H k N F l)/\∃s b,(Instr.lookup 157 (.map U) (.agg #[(vi B),(vi G),(vi H),(vu k),(vs N),(vi F),(vi l)]) true).run prog a=.ok (.tuple #[(vi s),(vb b)]) a/\Br b (K s 0 a) (∃a2,p1=some a2/\lx a a2 fun W=>Br (decide ((W.len:Int)>=65536)) (K 0 6 a)<|∃d:WP,d a.drew/\∀w,w=a.drew->∃a3,p1=some a3/\∃Q:Sl,(∀w',d w'->w'.cell? a3=some Q.v)/\∃V C bK A R P o,(∀w',d w'->Row w' c (Ab V C bK A R P o))/\∀p3 i,New w (.cells #[(vi V),(vi C),(vi bK),(vu A),(vs R),(vi P),(vi o),(vi r1),(vi r2)] 248) p3 i->d i/\∃s1:Sl,∃e:World,(Builtin.append_ #[158,158] 158 #[Q.v,(Sl.mk (some p3) 1 1).v]).run prog i=.ok s1.v e/\d e/\∃a4,p1=some a4/\zV e a4/\∀g,g=e.setCell a4 s1.v->∃a5,p1=some a5/\lx g a5 fun u=>∃h:WP,h g.drew/\∀r,r=g.drew->∃J,p1=some J/\∃n:Option Nat,(∀w',h w'->w'.cell? (J.add 1)=some (.map n))/\∃I t S p E j M,(∀w',h w'->Row w' c (Ab I t S p E j M))/\∃T:World,(Instr.mapUpdate 157 (.map n) (.agg #[(vi I),(vi t),(vi S),(vu p),(vs E),(vi j),(vi M)])<|vi (u.len:Int)).run prog r=.ok () T/\K (u.len:Int) 0 T)))
def w_T2(p1 aA aB aC aD aE aF aG w0 K)(h:m_T2 p1 aA aB aC aD aE aF aG w0 K):
  cl 132 #[(vp p1),(.agg #[(vi aA),(vi aB),(vi aC),(vu aD),(vs aE),(vi aF),(vi aG)])] w0<|XH K:=
 cwN func132 h<|nwn 0<|br 0 4 (rr 3)<|xe6<|xe<|lr 2<|cn3 0 call180<|br 0 9 (rr 4)<|dqn 1<|nc 1<|ld 1<|xe6<|xe<|lr 0<|xe2<|rn 0<|br 0 6 (rr 4)<|nc 2<|ld 1<|br 0 2 (rr 3)<|dcn 1 [9,10,13] [13]<|nc 2<|ldc 1<|xe6<|xe<|lrc 0<|nxc 3<|xe2<|ef 0<|acn<|nc 0<|ssn 1<|nc 1<|ld 1<|dcn 2 [6] [6]<|nc 1<|ldc 1<|xe6<|xe<|lrc 0<|xe<|es 1<|aan<|rr 3
def m_R3(p1:Option Addr)(a:World)(K:Int->WP):Prop:=Br (Option.isNone p1) (K 0 a)<|∃a1,p1=some a1/\lx a a1 fun b=>K (b.len:Int) a
def w_R3(p1 w0 K)(h:m_R3 p1 w0 K):
  cl 136 #[(vp p1)] w0<|XB K:=
 cwN func136 h<|br 0 3 (rr 2)<|nc 2<|ld 1<|rr 2
def m_S3(q r:Int)(y t:Int)(n:ByteArray)(s:Sl)(u:World)(K:Int->Int->Int->Int->ByteArray->Int->Int->WP):Prop:=∀p1 f,New u (.cells #[(vi q),(vi r),(vi y),(vu t),(vs n),s.v] 71) p1 f->∀b a,New f (.cells #[(vi 0),(vi 0),(vi 0),(vu 0),ve,(vi 0),(vi 0)] 119) b a->li a p1 fun x=>li a (p1.add 1) fun o=>li a (p1.add 2) fun m=>lu a (p1.add 3) fun w=>ls a (p1.add 4) fun p=>(∀j,j<7->zV a (b.add j))/\∀c,c=storeRow a b (Ab x o m w p 0 0)->∃h d l g i k e,Row c b (Ab h d l g i k e)/\K h d l g i k e c
def w_S3(aO aP aQ aR aS aT w0 K)(h:m_S3 aO aP aQ aR aS aT w0 K):
  cl 175 #[(.agg #[(vi aO),(vi aP),(vi aQ),(vu aR),(vs aS),aT.v])] w0<|fun e w'=>∃a g c f b i d,e=.returned (Ae a g c f b i d)/\K a g c f b i d w':=
 cwN func175 h<|nwn 0<|nwn 0<|ld 1<|ld 1<|ld 1<|ld 1<|ld 1<|usn 1<|rss 0<|xe6<|xe<|qrr<|qee
def m_D_j3(p1 A p3:Addr)(Y:Bool)(w:World)(K:Bool->Bool->Bool->Bool->Int->Int->WP):Prop:=Br Y (∃a J D b t,Row w p3 (Af a J D b t)/\(∀j,j<5->zV w (A.add j))/\∀T,T=storeRow w A (Af a J D b t)->∃c L B n f,Row T A (Af c L B n f)/\K c L B n f 53 T)<|lb w (p3.add 3) fun X=>Br (!X) (ls w (p1.add 4) fun W=>Br (!(decide (W=⟨#[]⟩))) (∃q N G y p,Row w p3 (Af q N G y p)/\(∀j,j<5->zV w (A.add j))/\∀U,U=storeRow w A (Af q N G y p)->∃h M E u o,Row U A (Af h M E u o)/\K h M E u o 53 U)<|∃z Q F r l,Row w p3 (Af z Q F r l)/\(∀j,j<5->zV w (A.add j))/\∀S,S=storeRow w A (Af z Q F r l)->∃s P H x e,Row S A (Af s P H x e)/\K s P H x e 0 S) (∃g O C m i,Row w p3 (Af g O C m i)/\(∀j,j<5->zV w (A.add j))/\∀V,V=storeRow w A (Af g O C m i)->∃v R I k d,Row V A (Af v R I k d)/\K v R I k d 0 V)
def m_D_j4(p1 a p3:Addr)(c b:Bool)(w:World)(K:Bool->Bool->Bool->Bool->Int->Int->WP):Prop:=Br c (m_D_j3 p1 a p3 true w K)<|m_D_j3 p1 a p3 b w K
def m_D_j2(p1 a p3:Addr)(b:Bool)(w:World)(K:Bool->Bool->Bool->Bool->Int->Int->WP):Prop:=Br b (m_D_j3 p1 a p3 true w K)<|lb w (p3.add 2) fun c=>Br (!c) (lu w (p1.add 3) fun d=>m_D_j4 p1 a p3 b (d !=0) w K) (m_D_j4 p1 a p3 b false w K)
def m_D_j5(p1 a p3:Addr)(c b:Bool)(w:World)(K:Bool->Bool->Bool->Bool->Int->Int->WP):Prop:=Br c (m_D_j2 p1 a p3 true w K)<|m_D_j2 p1 a p3 b w K
def m_D_j1(p1 a p3:Addr)(b:Bool)(w:World)(K:Bool->Bool->Bool->Bool->Int->Int->WP):Prop:=Br b (m_D_j2 p1 a p3 true w K)<|lb w (p3.add 1) fun d=>Br (!d) (li w (p1.add 2) fun c=>m_D_j5 p1 a p3 b (c !=0) w K) (m_D_j5 p1 a p3 b false w K)
def m_D_j6(p1 a:Addr)(r1:Bool)(p3:Addr)(b:Bool)(w:World)(K:Bool->Bool->Bool->Bool->Int->Int->WP):Prop:=Br (!r1) (m_D_j1 p1 a p3 true w K)<|m_D_j1 p1 a p3 b w K
def m_D(m v:Int)(t u:Int)(q:ByteArray)(p n:Int)(s:World)(K:Bool->Bool->Bool->Bool->Int->Int->WP):Prop:=∀p1 k,New s (.cells #[(vi m),(vi v),(vi t),(vu u),(vs q),(vi p),(vi n)] 119) p1 k->∀g i,New k (.cells #[(vb false),(vb false),(vb false),(vb false),(vi 0)] 263) g i->li i p1 fun w=>cl 265 #[(vi w)] i<|XK fun c f d a b r1 r=>∀p3 h,New r (.cells #[(vb false),(vb false),(vb false),(vb false),(vi 0)] 263) p3 h->(∀j,j<5->zV h (p3.add j))/\∀e,e=storeRow h p3 (Af c f d a b)->Br (!r1) (m_D_j1 p1 g p3 true e K) (lb e p3 fun o=>Br (!o) (li e (p1.add 1) fun l=>m_D_j6 p1 g r1 p3 (l !=0) e K) (m_D_j6 p1 g r1 p3 false e K))
def w_D(aA aB aC aD aE aF aG w0 K)(h:m_D aA aB aC aD aE aF aG w0 K):
  cl 176 #[(.agg #[(vi aA),(vi aB),(vi aC),(vu aD),(vs aE),(vi aF),(vi aG)])] w0<|XI K:=
 cwN func176 h<|nwn 0<|nwn 0<|ld 2<|cn6 0 call265<|nwn 3<|usn 0<|ct 4 9<|jc1 0 0 [1,2,4] (fun b=>[(23,(vb b))]) (fun b w=>m_D_j1 _ _ _ b w _) (fun i=>br 1 0 (jen 9 i)<|ld 1<|ct 2 4<|jc1 0 0 [1,2,4,14] (fun e=>[(22,(vb e))]) (fun e w=>m_D_j6 _ _ _ _ e w _) (fun k=>br 1 0 (ld 1<|jen 2 k)<|jen 4 k)<|fun {e}=>br 2 0 (jen 1 i)<|jen 1 i)<|fun {b}=>ct 1 9<|jc1 0 0 [1,2,4] (fun f=>[(33,(vb f))]) (fun f w=>m_D_j2 _ _ _ f w _) (fun g=>br 1 0 (jen 9 g)<|ld 1<|ct 2 4<|jc1 0 0 [1,2,4,24] (fun a=>[(32,(vb a))]) (fun a w=>m_D_j5 _ _ _ _ a w _) (fun m=>br 1 0 (ld 1<|jen 2 m)<|jen 4 m)<|fun {a}=>br 2 0 (jen 1 g)<|jen 1 g)<|fun {f}=>ct 1 9<|jc1 0 0 [1,2,4] (fun c=>[(43,(vb c))]) (fun c w=>m_D_j3 _ _ _ c w _) (fun j=>br 1 0 (jen 9 j)<|ld 1<|ct 2 4<|jc1 0 0 [1,2,4,34] (fun d=>[(42,(vb d))]) (fun d w=>m_D_j4 _ _ _ _ d w _) (fun l=>br 1 0 (ld 1<|jen 2 l)<|jen 4 l)<|fun {d}=>br 2 0 (jen 1 j)<|jen 1 j)<|fun {c}=>br 1 1 (xe5<|lr 10<|usn 0<|rss 1<|xe5<|qrr<|qee)<|ld 1<|br 1 2 (ld 1<|br 0 3 (xe5<|lr 1<|usn 0<|rss 1<|xe5<|qrr<|qee)<|xe5<|lr 1<|usn 0<|rss 1<|xe5<|qrr<|qee)<|xe5<|lr 6<|usn 0<|rss 1<|xe5<|qrr<|qee
def m_H1_j1(p1 b:Addr)(f:Bool)(w:World)(K:Int->WP):Prop:=Br f (K 50 w)<|lb w (p1.add 1) fun g=>Br g (li w (b.add 2) fun c=>cl 266 #[(vi c)] w<|XC fun r1 a=>Br (!r1) (K 50 a)<|li a (b.add 2) fun i=>li a (b.add 1) fun e=>Br (i==e) (K 50 a)<|ls a (b.add 4) fun d=>Br (decide ((d.size:Int)>64)) (K 1 a)<|K 0 a) (ls w (b.add 4) fun h=>Br (decide ((h.size:Int)>64)) (K 1 w)<|K 0 w)
def m_H1(b e:Bool)(d a:Bool)(c i:Int)(r q s:Int)(o:ByteArray)(n l:Int)(p:World)(K:Int->WP):Prop:=∀p1 h,New p (.cells #[(vb b),(vb e),(vb d),(vb a),(vi c)] 263) p1 h->∀g f,New h (.cells #[(vi i),(vi r),(vi q),(vu s),(vs o),(vi n),(vi l)] 119) g f->lb f p1 fun j=>Br j (li f (g.add 1) fun m=>cl 266 #[(vi m)] f<|XC fun r2 k=>m_H1_j1 p1 g (!r2) k K) (m_H1_j1 p1 g false f K)
def w_H1(sfrom1 sto1 snum1 stext1 skids1 aA aB aC aD aE aF aG w0 K)(h:m_H1 sfrom1 sto1 snum1 stext1 skids1 aA aB aC aD aE aF aG w0 K):
  cl 177 #[(.agg #[(vb sfrom1),(vb sto1),(vb snum1),(vb stext1),(vi skids1)]),(.agg #[(vi aA),(vi aB),(vi aC),(vu aD),(vs aE),(vi aF),(vi aG)])] w0<|XB K:=
 cwN func177 h<|nwn 0<|nwn 0<|jc1 1 0 [2,3] (fun a=>[(5,(vb a))]) (fun a w=>m_H1_j1 _ _ a w _) (fun b=>ld 1<|br 1 1 (ld 1<|cn1 0 call266<|jen 3 b)<|jen 6 b)<|fun {a}=>br 0 0 (rr 3)<|ld 2<|br 1 1 (ld 1<|cn1 0 call266<|br 1 2 (rr 10)<|ld 1<|ld 1<|br 0 4 (rr 2)<|ld 2<|br 0 3 (rr 2)<|rr 2)<|ld 15<|br 0 3 (rr 2)<|rr 2
def m_T3(p1:Option Addr)(m:Int)(u:World)(K:Sl->WP):Prop:=∀k o,New u (.cells #[(vp p1)] 91) k o->∀p3 n,New o (.cells #[Sl.nil.v] 46) p3 n->∀q r,New n (.map #[] 0) q r->∀d h,New r (.cells #[(.map none)] 231) d h->zV h d/\∀p,p=h.setCell d (.map<|some q.block)->∀a i,New p (.cells #[(.nilFunc:Value)] 192) a i->zV i a/\∀j,j=i.setCell a (.func (.func 267) #[] #[(vp<|some d),(vp<|some k),(vp<|some a),(vp<|some p3)])->lp j k fun y=>cl 130 #[(vp y),(vi m)] j fun e f=>∃r1,e=.returned (vb r1)/\Br r1 (∃l:Value,f.cell? a=some l/\∃(g:FuncId) (b c:Array Value),l=.func (.func g) b c/\(∀args w,(callFunc g args).run prog w=.ok (.enter g args) w)/\Calls prog g (b++#[(vi m)]++c) f fun e s=>e=.returned (.tuple #[])/\lx s p3 fun t=>K t s) (lx f p3 fun x=>K x f)
def w_T3(p1 t1 w0 K)(h:m_T3 p1 t1 w0 K):
  cl 179 #[(vp p1),(vi t1)] w0<|XA K:=
 cwN func179 h<|nwn 0<|nwn 1<|nwn 0<|nwn 0<|ssn 0<|nwn 0<|ssn 1<|ld 0<|cn1 1 call130<|br 0 0 (ld 1<|fo<|fun a=>cv 1 a<|rt<|aan<|ld 0<|rr 1)<|ld 1<|rr 1
def m_E_l3(p1:Option Addr)(s1:Sl)(b a f:Int)(c:World)(h:Int->Int->Int->WP)(K:Int->Int->Int->WP):Prop:=Br (decide (f<(s1.len:Int))) (∃a1:Addr,At s1 f 1 a1/\li c a1 fun g=>cl 130 #[(vp p1),(vi g)] c fun e i=>∃r2,e=.returned (vb r2)/\Br (!r2) (K 0 0 51 i) (cl 269 #[(vp p1),(vi g)] i fun e k=>∃r3,e=.returned (vi r3)/\cl 270 #[(vp p1),(vi g)] k (XB fun l d=>∃j,(Builtin.max_ #[3,3] 3 #[(vi a),(vi l)]).run prog d=.ok (vi j) d/\h (q6.wrap<|b+r3) j (q6.wrap<|f+1) d))) (Br (decide (b>4096)) (K 0 0 52 c)<|Br (decide ((q6.wrap<|a+1)>64)) (K 0 0 52 c)<|K b (q6.wrap<|a+1) 0 c)
def m_E_j2(p1:Option Addr)(l p3:Addr)(k:Int)(w:World)(K:Int->Int->Int->WP):Prop:=Br (k !=0) (K 0 0 k w)<|li w (l.add 5) fun o=>li w (l.add 6) fun n=>∀m h,New w (.cells #[(vi o),(vi n)] 73) m h->li h (p3.add 4) fun p=>∃s1:Sl,(Instr.sliceAt 46 (Sl.mk (some m) 2 2).v none (some<|vi p) none).run prog h=.ok s1.v h/\∃(j:Int->Int->Int->WP) (e:Int->Int->Int->World->Nat),j 1 0 0 h/\∀(b a i:Int) (c:World),j b a i c->m_E_l3 p1 s1 b a i c (fun d g f w'=>j d g f w'/\e d g f w'<e b a i c) K
def m_E_j1(p1:Option Addr)(f p3:Addr)(g:Int)(w:World)(K:Int->Int->Int->WP):Prop:=Br (g==0) (∃a e d b c,Row w p3 (Af a e d b c)/\∃n l m i h k j,Row w f (Ab n l m i h k j)/\cl 177 #[(.agg #[(vb a),(vb e),(vb d),(vb b),(vi c)]),(.agg #[(vi n),(vi l),(vi m),(vu i),(vs h),(vi k),(vi j)])] w (XB fun o p=>m_E_j2 p1 f p3 o p K))<|m_E_j2 p1 f p3 g w K
def m_E_j5(p1:Option Addr)(a:Addr)(r1:Int)(p3:Addr)(c b:Bool)(w:World)(K:Int->Int->Int->WP):Prop:=Br (r1==0) (Br c (m_E_j1 p1 a p3 53 w K)<|Br b (m_E_j1 p1 a p3 53 w K)<|m_E_j1 p1 a p3 r1 w K)<|m_E_j1 p1 a p3 r1 w K
def m_E_j4(p1:Option Addr)(a:Addr)(r1:Int)(p3:Addr)(b:Bool)(w:World)(K:Int->Int->Int->WP):Prop:=Br (r1==0) (Br b (m_E_j1 p1 a p3 53 w K)<|li w (p3.add 4) fun d=>Br (decide (d<2)) (li w (a.add 6) fun c=>m_E_j5 p1 a r1 p3 b (c !=0) w K) (m_E_j5 p1 a r1 p3 b false w K)) (m_E_j1 p1 a p3 r1 w K)
def m_E(p1:Option Addr)(r B:Int)(z A:Int)(x:ByteArray)(w u:Int)(y:World)(K:Int->Int->Int->WP):Prop:=∀f h,New y (.cells #[(vi r),(vi B),(vi z),(vu A),(vs x),(vi w),(vi u)] 119) f h->∃q l m o n k p,Row h f (Ab q l m o n k p)/\cl 176 #[(.agg #[(vi q),(vi l),(vi m),(vu o),(vs n),(vi k),(vi p)])] h (XI fun c g d a b r1 t=>∀p3 i,New t (.cells #[(vb false),(vb false),(vb false),(vb false),(vi 0)] 263) p3 i->(∀j,j<5->zV i (p3.add j))/\∀e,e=storeRow i p3 (Af c g d a b)->Br (r1==0) (li e (p3.add 4) fun s=>Br (decide (s<1)) (li e (f.add 5) fun v=>m_E_j4 p1 f r1 p3 (v !=0) e K) (m_E_j4 p1 f r1 p3 false e K)) (m_E_j1 p1 f p3 r1 e K))
def w_E(p1 aA aB aC aD aE aF aG w0 K)(h:m_E p1 aA aB aC aD aE aF aG w0 K):
  cl 180 #[(vp p1),(.agg #[(vi aA),(vi aB),(vi aC),(vu aD),(vs aE),(vi aF),(vi aG)])] w0<|XJ K:=
 cwN func180 h<|nwn 0<|xe6<|xe<|lr 3<|cn6 0 call176<|nwn 3<|usn 0<|jc1 1 1 [0,3,7] (fun d=>[(8,(vi d))]) (fun d w=>m_E_j1 _ _ _ d w _) (fun c=>br 1 3 (ld 1<|ct 2 4<|jc1 0 0 [0,3,7,8,20] (fun g=>[(28,(vb g))]) (fun g w=>m_E_j4 _ _ _ _ g w _) (fun k=>br 1 0 (ld 1<|jen 2 k)<|jen 4 k)<|fun {g}=>br 1 0 (br 1 1 (jen 12 c)<|ld 1<|ct 2 4<|jc1 0 0 [0,3,7,8,20,29] (fun f=>[(37,(vb f))]) (fun f w=>m_E_j5 _ _ _ _ _ f w _) (fun l=>br 1 0 (ld 1<|jen 2 l)<|jen 4 l)<|fun {f}=>br 1 0 (br 2 0 (jen 4 c)<|br 0 2 (jen 2 c)<|jen 1 c)<|jen 3 c)<|jen 12 c)<|jen 20 c)<|fun {d}=>jc1 0 1 [0,3,7] (fun e=>[(8,(vi e))]) (fun e w=>m_E_j2 _ _ _ e w _) (fun j=>br 0 2 (xe5<|lr 1<|xe6<|xe<|lr 0<|cn1 0 call177<|jen 1 j)<|jen 1 j)<|fun {e}=>br 0 2 (rr 5)<|ld 4<|ld 1<|nwn 0<|ld 1<|xe<|rn 0<|wc3 2 [0,55,56] (fun b a i=>[(9,(vi b)),(10,(vi a)),(57,(vi i))])<|fun {_ _ b a i}=>fun m=>br 0 1 (ix 1<|ld 0<|cn1 3 call130<|br 0 1 (rr 4)<|cn1 4 call269<|cn1 5 call270<|xe<|rn 0<|jen 3 m)<|br 1 7 (rr 7)<|br 0 3 (rr 4)<|rr 6
def m_U3(p1:Option Addr)(n1:Int)(a:World)(K:Int->Int->WP):Prop:=cl 132 #[(vp p1),(.agg #[(vi 1),(vi n1),(vi 0),(vu 0),ve,(vi 0),(vi 0)])] a<|XH K
def w_U3(p1 n1 w0 K)(h:m_U3 p1 n1 w0 K):
  cl 225 #[(vp p1),(vi n1)] w0<|XH K:=
 cwN func225 h<|cn2 5 call132<|rr 4
def m_V3(p1:Option Addr)(n1:Int)(a:World)(K:Int->Int->WP):Prop:=cl 132 #[(vp p1),(.agg #[(vi 2),(vi 0),(vi 0),(vu n1),ve,(vi 0),(vi 0)])] a<|XH K
def w_V3(p1 n1 w0 K)(h:m_V3 p1 n1 w0 K):
  cl 227 #[(vp p1),(vu n1)] w0<|XH K:=
 cwN func227 h<|cn2 5 call132<|rr 4
def m_W3(p1:Option Addr)(s1:ByteArray)(a:World)(K:Int->Int->WP):Prop:=cl 132 #[(vp p1),(.agg #[(vi 3),(vi 0),(vi 0),(vu 0),(vs s1),(vi 0),(vi 0)])] a<|XH K
def w_W3(p1 s1 w0 K)(h:m_W3 p1 s1 w0 K):
  cl 229 #[(vp p1),(vs s1)] w0<|XH K:=
 cwN func229 h<|cn2 5 call132<|rr 4
def m_X3(p1:Option Addr)(a1 b1:Int)(a:World)(K:Int->Int->WP):Prop:=cl 132 #[(vp p1),(.agg #[(vi 4),(vi 0),(vi 0),(vu 0),ve,(vi a1),(vi b1)])] a<|XH K
def w_X3(p1 a1 b1 w0 K)(h:m_X3 p1 a1 b1 w0 K):
  cl 232 #[(vp p1),(vi a1),(vi b1)] w0<|XH K:=
 cwN func232 h<|cn2 6 call132<|rr 4
def m_Y3(p1:Option Addr)(a1:Int)(a:World)(K:Int->Int->WP):Prop:=cl 132 #[(vp p1),(.agg #[(vi 5),(vi 0),(vi 0),(vu 0),ve,(vi a1),(vi 0)])] a<|XH K
def w_Y3(p1 a1 w0 K)(h:m_Y3 p1 a1 w0 K):
  cl 234 #[(vp p1),(vi a1)] w0<|XH K:=
 cwN func234 h<|cn2 5 call132<|rr 4
def m_Z3(p1:Option Addr)(n1 a1:Int)(a:World)(K:Int->Int->WP):Prop:=cl 132 #[(vp p1),(.agg #[(vi 7),(vi n1),(vi 0),(vu 0),ve,(vi a1),(vi 0)])] a<|XH K
def w_Z3(p1 n1 a1 w0 K)(h:m_Z3 p1 n1 a1 w0 K):
  cl 241 #[(vp p1),(vi n1),(vi a1)] w0<|XH K:=
 cwN func241 h<|cn2 6 call132<|rr 4
def m_A4(p1:Option Addr)(a b a1:Int)(c:World)(K:Int->Int->WP):Prop:=cl 132 #[(vp p1),(.agg #[(vi 8),(vi a),(vi b),(vu 0),ve,(vi a1),(vi 0)])] c<|XH K
def w_A4(p1 from1 to1 a1 w0 K)(h:m_A4 p1 from1 to1 a1 w0 K):
  cl 244 #[(vp p1),(vi from1),(vi to1),(vi a1)] w0<|XH K:=
 cwN func244 h<|cn2 7 call132<|rr 4
def m_B4(p1:Option Addr)(a b a1:Int)(c:World)(K:Int->Int->WP):Prop:=cl 132 #[(vp p1),(.agg #[(vi 9),(vi a),(vi b),(vu 0),ve,(vi a1),(vi 0)])] c<|XH K
def w_B4(p1 from1 to1 a1 w0 K)(h:m_B4 p1 from1 to1 a1 w0 K):
  cl 248 #[(vp p1),(vi from1),(vi to1),(vi a1)] w0<|XH K:=
 cwN func248 h<|cn2 7 call132<|rr 4
def m_C4(a:Int)(C:World)(K:Bool->Bool->Bool->Bool->Int->Bool->WP):Prop:=∀p1 x,New C (.cells #[(vb false),(vb false),(vb false),(vb false),(vi 0)] 263) p1 x->Br (decide (a<1)) ((∀j,j<5->zV x (p1.add j))/\∀z,z=storeRow x p1 (Af false false false false 0)->∃d t p h f,Row z p1 (Af d t p h f)/\K d t p h f false z) (Br (decide (a>9)) ((∀j,j<5->zV x (p1.add j))/\∀B,B=storeRow x p1 (Af false false false false 0)->∃g u r m i,Row B p1 (Af g u r m i)/\K g u r m i false B)<|cl 294 #[] x fun e y=>∃r1:Array Value,e=.returned (.agg r1)/\∃k w q c b,(Instr.index 335 (.agg r1)<|vi a).run prog y=.ok (.agg #[(vb k),(vb w),(vb q),(vb c),(vi b)]) y/\(∀j,j<5->zV y (p1.add j))/\∀A,A=storeRow y p1 (Af k w q c b)->∃l v s n o,Row A p1 (Af l v s n o)/\K l v s n o true A)
def w_C4(kind1 w0 K)(h:m_C4 kind1 w0 K):
  cl 265 #[(vi kind1)] w0<|XK K:=
 cwN func265 h<|nwn 0<|br 1 4 (usn 5<|rss 1<|xe5<|qrr<|qee)<|br 0 3 (usn 2<|rss 1<|xe5<|qrr<|qee)<|cn1 1 call294<|xe5<|rn 1<|usn 0<|rss 1<|xe5<|qrr<|qee
def m_D4(n1:Int)(a:World)(K:Bool->WP):Prop:=Br (decide (n1>=0)) (K (decide (n1<16)) a)<|K false a
def w_D4(n1 w0 K)(h:m_D4 n1 w0 K):
  cl 266 #[(vi n1)] w0<|XC K:=
 cwN func266 h<|br 1 4 (rr 4)<|rr 4
def m_W1_l1(n:Int)(c a:Addr)(r1:Sl)(h:Int)(b:World)(i:Int->WP)(K:WP):Prop:=Br (decide (h<(r1.len:Int))) (∃a1:Addr,At r1 h 1 a1/\li b a1 fun p=>∃k:Value,b.cell? c=some k/\∃(g:FuncId) (f d:Array Value),k=.func (.func g) f d/\(∀args w,(callFunc g args).run prog w=.ok (.enter g args) w)/\Calls prog g (f++#[(vi p)]++d) b fun e q=>e=.returned (.tuple #[])/\i (q6.wrap<|h+1) q) (lx b a fun o=>∀p1 l,New b (.cells #[(vi n)] 73) p1 l->∃s1:Sl,∃j:World,(Builtin.append_ #[46,46] 46 #[o.v,(Sl.mk (some p1) 1 1).v]).run prog l=.ok s1.v j/\zV j a/\∀m,m=j.setCell a s1.v->K m)
def m_W1(d:Int)(a i:Addr)(f g:Addr)(b:World)(K:WP):Prop:=∃p:Option Nat,b.cell? a=some (.map p)/\∃n,(Instr.lookup 231 (.map p) (vi d) false).run prog b=.ok (vi n) b/\Br (decide (n>0)) (K b) (∃m:Option Nat,b.cell? a=some (.map m)/\∃o,(Instr.lookup 231 (.map m) (vi d) false).run prog b=.ok (vi o) b/\∃k:World,(Instr.mapUpdate 231 (.map m) (vi d)<|vi<|q6.wrap<|o+1).run prog b=.ok () k/\lp k i fun q=>cl 268 #[(vp q),(vi d)] k<|XA fun r1 r=>∃(l:Int->WP) (h:Int->World->Nat),l 0 r/\∀(j:Int) (c:World),l j c->m_W1_l1 d f g r1 j c (fun e w'=>l e w'/\h e w'<h j c) K)
def w_W1(t1 cap1 cap2 cap3 cap4 w0 K)(h:m_W1 t1 cap1 cap2 cap3 cap4 w0 K):
  cl 267 #[(vi t1),(vp<|some cap1),(vp<|some cap2),(vp<|some cap3),(vp<|some cap4)] w0<|fun e w'=>e=.returned (.tuple #[])/\K  w':=
 cwN func267 h<|ld 0<|xe<|rn 1<|br 0 1 (rr 1)<|ld 1<|xe<|rn 1<|xe<|es 1<|aan<|ld 0<|cn1 1 call268<|wc1 2 [0,3,4,18,19] (fun b=>[(20,(vi b))])<|fun {_ _ b}=>fun c=>br 0 1 (ix 1<|ld 0<|ld 1<|fo<|fun a=>cv 1 a<|rt<|aan<|jen 2 c)<|ld 1<|nwn 1<|xe2<|ef 0<|aan<|ssn 0<|rr 0
def m_E4(p1:Option Addr)(y:Int)(B:World)(K:Sl->WP):Prop:=cl 109 #[(vp p1),(vi y)] B fun e A=>∃o r t n s u p r1,e=.returned (.tuple #[(Ae o r t n s u p),(vb r1)])/\∀f k,New A (.cells #[(vi 0),(vi 0),(vi 0),(vu 0),ve,(vi 0),(vi 0)] 119) f k->(∀j,j<7->zV k (f.add j))/\∀m,m=storeRow k f (Ab o r t n s u p)->li m f fun D=>cl 265 #[(vi D)] m<|XK fun c g d a b r2 z=>∀p3 l,New z (.cells #[(vb false),(vb false),(vb false),(vb false),(vi 0)] 263) p3 l->(∀j,j<5->zV l (p3.add j))/\∀i,i=storeRow l p3 (Af c g d a b)->li i (f.add 5) fun x=>li i (f.add 6) fun w=>∀q h,New i (.cells #[(vi x),(vi w)] 73) q h->li h (p3.add 4) fun C=>∃s1:Sl,(Instr.sliceAt 46 (Sl.mk (some q) 2 2).v none (some<|vi C) none).run prog h=.ok s1.v h/\K s1 h
def w_E4(p1 t1 w0 K)(h:m_E4 p1 t1 w0 K):
  cl 268 #[(vp p1),(vi t1)] w0<|XA K:=
 cwN func268 h<|cc 3 call109<|xe6<|xe2<|rt<|aan<|nwn 3<|usn 0<|ld 2<|cn6 0 call265<|nwn 3<|usn 0<|ld 2<|ld 1<|nwn 0<|ld 1<|xe<|rn 0<|rr 1
def m_F4(p1:Option Addr)(b:Int)(e:World)(K:Int->WP):Prop:=cl 130 #[(vp p1),(vi b)] e<|XC fun r1 a=>Br (!r1) (K 0 a)<|∃a1,p1=some a1/\lx a a1 fun d=>∃a2:Addr,At d (q6.wrap<|b-1) 9 a2/\li a (a2.add 7) fun c=>K c a
def w_F4(p1 t1 w0 K)(h:m_F4 p1 t1 w0 K):
  cl 269 #[(vp p1),(vi t1)] w0<|XB K:=
 cwN func269 h<|cn1 3 call130<|br 0 1 (rr 2)<|nc 2<|ld 1<|ix 2<|ld 1<|rr 1
def m_G4(p1:Option Addr)(b:Int)(e:World)(K:Int->WP):Prop:=cl 130 #[(vp p1),(vi b)] e<|XC fun r1 a=>Br (!r1) (K 0 a)<|∃a1,p1=some a1/\lx a a1 fun d=>∃a2:Addr,At d (q6.wrap<|b-1) 9 a2/\li a (a2.add 8) fun c=>K c a
def w_G4(p1 t1 w0 K)(h:m_G4 p1 t1 w0 K):
  cl 270 #[(vp p1),(vi t1)] w0<|XB K:=
 cwN func270 h<|cn1 3 call130<|br 0 1 (rr 2)<|nc 2<|ld 1<|ix 2<|ld 1<|rr 1
def m_H4(d:World)(K:(Array Value)->WP):Prop:=∀p1 c,New d (.cells #[(vb false),(vb false),(vb false),(vb false),(vi 0),(vb false),(vb false),(vb false),(vb false),(vi 0),(vb false),(vb false),(vb false),(vb false),(vi 0),(vb false),(vb false),(vb false),(vb false),(vi 0),(vb false),(vb false),(vb false),(vb false),(vi 0),(vb false),(vb false),(vb false),(vb false),(vi 0),(vb false),(vb false),(vb false),(vb false),(vi 0),(vb false),(vb false),(vb false),(vb false),(vi 0),(vb false),(vb false),(vb false),(vb false),(vi 0),(vb false),(vb false),(vb false),(vb false),(vi 0)] 335) p1 c->(∀j,j<50->zV c (p1.add j))/\∀a,a=storeRow c p1 (Ag false false false false 0 true false false false 0 false false true false 0 false false false true 0 false false false false 2 false false false false 1 true false false false 0 true false false false 1 true true false false 1 true true false false 1)->∃b:Array Value,(b.size=50/\Row a p1 b.toList)/\K b a
def w_H4(a:World)(K:(Array Value)->WP)(h:m_H4  a K):
  cl 294 #[] a<|fun e w'=>∃r1:Array Value,e=.returned (.agg r1)/\K r1 w':=
 cwN func294 h<|nwn 0<|usn 10<|rss 0<|xe<|qaa<|qee
end Go.Proofs
end
section
namespace Go.Proofs
structure Node where
 kind:Int
 frm:Int
 to:Int
 num:Int
 text:ByteArray
 a:Int
 b:Int
deriving DecidableEq
structure Shape where
 frm:Bool
 to:Bool
 num:Bool
 text:Bool
 kids:Int
deriving DecidableEq
def noShape:Shape:=⟨false,false,false,false,0⟩
def shapeOf(k:Int):Shape:=
 if k=1 then⟨true,false,false,false,0⟩else if k=2 then⟨false,false,true,false,0⟩else if k=3 then⟨false,false,false,true,0⟩
 else if k=4 then⟨false,false,false,false,2⟩else if k=5 then⟨false,false,false,false,1⟩else if k=6 then⟨true,false,false,false,0⟩
 else if k=7 then⟨true,false,false,false,1⟩else if k=8 then⟨true,true,false,false,1⟩else if k=9 then⟨true,true,false,false,1⟩else noShape
def isKind(k:Int):Bool:=decide (1<=k)&&decide (k<=9)
def uY(n:Int):Bool:=decide (0<=n)&&decide (n<16)
def zJ(n:Node):Int:=
 let s:=shapeOf n.kind
 if !isKind n.kind ||(!s.frm&&n.frm !=0) ||(!s.to&&n.to !=0) ||(!s.num&&n.num !=0) ||(!s.text&&!decide (n.text=⟨#[]⟩))then 53 else 0
def zM(s:Shape)(n:Node):Int:=
 if(s.frm&&!uY n.frm) ||(s.to&&(!uY n.to ||n.to==n.frm))then 50 else if n.text.size>64 then 1 else 0
end Go.Proofs
end
section
open Go Go.SE List
namespace Go.Proofs
open Tryz
attribute [local irreducible] Calls
def jUU(n w):cl 266 #[vi n] w (XC fun r w'=>r=uY n/\w'=w):=by
 refine w_D4 n w (fun r w'=>r=uY n/\w'=w) ?_;refine⟨fun h=>⟨?_,rfl⟩,fun h=>⟨?_,rfl⟩⟩;have:0<=n:=by simpa using h
 simp[uY,this];have:¬0<=n:=by simpa using h
 simp[uY,this]
def jUV(s1 s2 s3 s4 s5 k f t u x a b w):
  cl 177 #[.agg #[vb s1,vb s2,vb s3,vb s4,vi s5],.agg #[vi k,vi f,vi t,vu u,vs x,vi a,vi b]] w
   (XB fun r w'=>r=zM ⟨s1,s2,s3,s4,s5⟩ ⟨k,f,t,u,x,a,b⟩/\Pure w w'):=by
 refine w_H1 _ _ _ _ _ _ _ _ _ _ _ _ w _ ?_
 intro p1 l h1 j i h2
 have b1:=(Box.of_new h1).pure<|Ext.new h2
 have b2:=Box.of_new h2
 have E:Pure w i:=(Ext.new h1).trans<|Ext.new h2
 have J:∀c:Bool,c=(s1&&!uY f)->m_H1_j1 p1 j c i (fun r w'=>r=zM ⟨s1,s2,s3,s4,s5⟩ ⟨k,f,t,u,x,a,b⟩/\Pure w w'):=by
  intro c e;refine⟨fun h=>⟨?_,E⟩,fun h=>⟨_,b1.cell rfl,fun d=>⟨_,b2.cell rfl,?_⟩,fun d=>⟨_,b2.cell rfl,fun h3=>⟨?_,E⟩,fun h3=>⟨?_,E⟩⟩⟩⟩;rw[e]at h;simp[zM,h];refine(jUU _ _).mono ?_;rintro _ _ ⟨r,rfl,rfl,rfl⟩;rw[e]at h;refine⟨_,rfl,fun h2=>⟨?_,E⟩,fun h2=>⟨_,b2.cell rfl,_,b2.cell rfl,fun h3=>⟨?_,E⟩,fun h3=>⟨_,b2.cell rfl,fun g=>⟨?_,E⟩,fun g=>⟨?_,E⟩⟩⟩⟩;simp[zM,d,h2];simp[zM,d,h3];simp only[zM,h,d,h3];simp at h2 g;simp[h2];omega;simp only[zM,h,d,h3];simp at h2 g;simp[h2];omega;rw[e]at h;simp only[zM,h,d];simp at h3;simp;omega;rw[e]at h;simp only[zM,h,d];simp at h3;simp;omega
 refine⟨_,b1.cell0,fun h=>⟨_,b2.cell rfl,?_⟩,fun h=>J _<|by simp[h]⟩
 refine(jUU _ _).mono ?_
 rintro _ _ ⟨r,rfl,rfl,rfl⟩
 exact⟨_,rfl,J _<|by simp[h]⟩
def jRV:Array Value:=#[vb false,vb false,vb false,vb false,vi 0,vb true,vb false,vb false,vb false,vi 0,vb false,vb false,vb true,vb false,vi 0,vb false,vb false,vb false,vb true,vi 0,vb false,vb false,vb false,vb false,vi 2,vb false,vb false,vb false,vb false,vi 1,vb true,vb false,vb false,vb false,vi 0,vb true,vb false,vb false,vb false,vi 1,vb true,vb true,vb false,vb false,vi 1,vb true,vb true,vb false,vb false,vi 1]
def zEF(w):cl 294 #[] w (fun e w'=>∃r,e=.returned (.agg r)/\(r=jRV/\Pure w w')):=by
 refine w_H4 w (fun r w'=>r=jRV/\Pure w w') ?_;intro p1 d h1;have c:Pure w d:=Ext.new h1;have a:=New.own (Ext.refl w) h1;have b1:=Box.of_newA h1;clear h1;refine bx 50 b1 Kf Kf fun w' b E=>?_;refine⟨jRV,⟨Kf,b.row_eq Kf⟩,rfl,c.own a E⟩
def jQC(k w):cl 265 #[vi k] w (XK fun r1 r2 r3 f d r w'=>((⟨r1,r2,r3,f,d⟩:Shape)=shapeOf k/\r=isKind k)/\Pure w w'):=by
 refine w_C4 k w (fun r1 r2 r3 f d r w'=>((⟨r1,r2,r3,f,d⟩:Shape)=shapeOf k/\r=isKind k)/\Pure w w') ?_;intro p1 l h1;have e:Pure w l:=Ext.new h1;have b1:=Box.of_new h1;have a:=New.own (Ext.refl w) h1;refine⟨fun h=>bx 5 b1 rfl rfl fun w' b E=>⟨_,_,_,_,_,b.row,⟨?_,?_⟩,e.own a E⟩,fun h=>⟨fun h2=>bx 5 b1 rfl rfl fun w' b E=>⟨_,_,_,_,_,b.row,⟨?_,?_⟩,e.own a E⟩,fun h2=>?_⟩⟩
 .have:k<1:=by simpa using h
  simp only[shapeOf,noShape];repeat rw[if_neg Om]
 .have:k<1:=by simpa using h
  simp[isKind];omega
 .have:9<k:=by simpa using h2
  simp only[shapeOf,noShape];repeat rw[if_neg Om]
 .have:9<k:=by simpa using h2
  simp[isKind];omega
 .have h3:¬k<1:=by simpa using h
  have m:¬9<k:=by simpa using h2
  refine(zEF _).mono ?_;rintro _ j ⟨_,rfl,rfl,g⟩;refine⟨_,rfl,?_⟩;have b4:=b1.pure g;have c:Pure w j:=e.trans g;have i:k=1\/k=2\/k=3\/k=4\/k=5\/k=6\/k=7\/k=8\/k=9:=Om;rcases i with rfl|rfl|rfl|rfl|rfl|rfl|rfl|rfl|rfl
  .exact⟨true,false,false,false,0,Kf,bx 5 b4 rfl rfl fun w' b E=>⟨_,_,_,_,_,b.row,⟨De,De⟩,c.own a E⟩⟩
  .exact⟨false,false,true,false,0,Kf,bx 5 b4 rfl rfl fun w' b E=>⟨_,_,_,_,_,b.row,⟨De,De⟩,c.own a E⟩⟩
  .exact⟨false,false,false,true,0,Kf,bx 5 b4 rfl rfl fun w' b E=>⟨_,_,_,_,_,b.row,⟨De,De⟩,c.own a E⟩⟩
  .exact⟨false,false,false,false,2,Kf,bx 5 b4 rfl rfl fun w' b E=>⟨_,_,_,_,_,b.row,⟨De,De⟩,c.own a E⟩⟩
  .exact⟨false,false,false,false,1,Kf,bx 5 b4 rfl rfl fun w' b E=>⟨_,_,_,_,_,b.row,⟨De,De⟩,c.own a E⟩⟩
  .exact⟨true,false,false,false,0,Kf,bx 5 b4 rfl rfl fun w' b E=>⟨_,_,_,_,_,b.row,⟨De,De⟩,c.own a E⟩⟩
  .exact⟨true,false,false,false,1,Kf,bx 5 b4 rfl rfl fun w' b E=>⟨_,_,_,_,_,b.row,⟨De,De⟩,c.own a E⟩⟩
  .exact⟨true,true,false,false,1,Kf,bx 5 b4 rfl rfl fun w' b E=>⟨_,_,_,_,_,b.row,⟨De,De⟩,c.own a E⟩⟩
  .exact⟨true,true,false,false,1,Kf,bx 5 b4 rfl rfl fun w' b E=>⟨_,_,_,_,_,b.row,⟨De,De⟩,c.own a E⟩⟩
def zAQ(k f t u x a b w):
  cl 176 #[.agg #[vi k,vi f,vi t,vu u,vs x,vi a,vi b]] w
   (XI fun r1 r2 r3 C D r w'=>((⟨r1,r2,r3,C,D⟩:Shape)=shapeOf k/\r=zJ ⟨k,f,t,u,x,a,b⟩)/\Pure w w'):=by
 suffices key:∀K:Bool->Bool->Bool->Bool->Int->Int->WP,(∀r1 r2 r3 C D r w',((⟨r1,r2,r3,C,D⟩:Shape)=shapeOf k/\r=zJ ⟨k,f,t,u,x,a,b⟩)/\Pure w w'->K r1 r2 r3 C D r w')->m_D k f t u x a b w K from
  w_D _ _ _ _ _ _ _ w _<|key _ fun _ _ _ _ _ _ _ h=>h
 intro K hK
 intro p1 X h1 i V h2
 have a1:=(Box.of_new h1).pure<|Ext.new h2
 have a2:=Box.of_new h2
 have J:Pure w V:=(Ext.new h1).trans<|Ext.new h2
 have o2:=New.own (Ext.new h1:Pure w X) h2
 have Z:p1.block≠i.block:=New.ne h2 (Box.of_new h1).blk
 refine⟨_,a1.cell0,?_⟩
 refine(jQC _ _).mono ?_
 rintro _ w3 ⟨s1,p,F,O,P,ok,rfl,⟨hs,m⟩,o⟩
 refine⟨_,_,_,_,_,_,rfl,?_⟩
 intro p3 U h3
 have Q:Pure w U:=(J.trans o).trans<|Ext.new h3
 have Y:=New.own (J.trans o) h3
 have M:p1.block≠p3.block:=New.ne h3 (a1.pure o).blk
 have I:i.block≠p3.block:=New.ne h3 (a2.pure o).blk
 refine bx 5 (Box.of_new h3) rfl rfl fun n b3 E=>?_
 have b1:=((a1.pure o).pure<|Ext.new h3).ext E M
 have b2:=((a2.pure o).pure<|Ext.new h3).ext E I
 have E5:=Q.own Y E
 clear E Q o J a1 a2 h1 h2 h3
 have l : ∀ v : Int, v = zJ ⟨k, f, t, u, x, a, b⟩ -> (∀ j, j < 5 -> zV n (i.add j)) /\ ∀ w', w' = storeRow n i [vb s1, vb p, vb F, vb O, vi P] ->
   ∃q1:Bool,∃q2:Bool,∃q3:Bool,∃q4:Bool,∃N:Int,Row w' i [vb q1,vb q2,vb q3,vb q4,vi N]/\K q1 q2 q3 q4 N v w':=fun v W =>
  bx 5 b2 rfl rfl fun w' b E=>⟨_,_,_,_,_,b.row,hK _ _ _ _ _ _ _ ⟨⟨hs,W⟩,E5.own o2 E⟩⟩
 obtain⟨y,z,B,A,e5⟩:s1=(shapeOf k).frm/\p=(shapeOf k).to/\F=(shapeOf k).num/\O=(shapeOf k).text/\P=(shapeOf k).kids:=by rw[<-hs];simp
 have L:∀c:Bool,c=(!ok ||(!s1&&f !=0) ||(!p&&t !=0) ||(!F&&u !=0))->m_D_j3 p1 i p3 c n K:=by
  intro c g;refine⟨fun h=>⟨_,_,_,_,_,b3.row,l _ ?_⟩,fun h=>⟨_,b3.cell rfl,fun e=>⟨_,b1.cell rfl,fun s=>⟨_,_,_,_,_,b3.row,l _ ?_⟩,fun s=>⟨_,_,_,_,_,b3.row,l _ ?_⟩⟩,fun e=>⟨_,_,_,_,_,b3.row,l _ ?_⟩⟩⟩;rw[h]at g;simp only[zJ,<-y,<-z,<-B,<-A,<-m,<-g];simp;rw[h]at g;simp only[zJ,<-y,<-z,<-B,<-A,<-m,<-g];simp at e s;simp[e,s];rw[h]at g;simp only[zJ,<-y,<-z,<-B,<-A,<-m,<-g];simp at e s;simp[e,s];rw[h]at g;simp only[zJ,<-y,<-z,<-B,<-A,<-m,<-g];simp at e;simp[e]
 have H:∀c:Bool,c=(!ok ||(!s1&&f !=0) ||(!p&&t !=0))->m_D_j2 p1 i p3 c n K:=by
  intro c g;have T:∀d:Bool,d=(!F&&u !=0)->m_D_j4 p1 i p3 c d n K:=fun d q=>⟨fun h=>L _ (by rw[<-g,h];rfl),fun h=>L _ (by rw[<-g,h];simpa using q)⟩;exact⟨fun h=>L _ (by rw[<-g,h];rfl),fun h=>⟨_,b3.cell rfl,fun e=>⟨_,b1.cell rfl,T _ (by rw[e];rfl)⟩,fun e=>T _ (by rw[e];rfl)⟩⟩
 have G:∀c:Bool,c=(!ok ||(!s1&&f !=0))->m_D_j1 p1 i p3 c n K:=by
  intro c g;have R:∀d:Bool,d=(!p&&t !=0)->m_D_j5 p1 i p3 c d n K:=fun d q=>⟨fun h=>H _ (by rw[<-g,h];rfl),fun h=>H _ (by rw[<-g,h];simpa using q)⟩;exact⟨fun h=>H _ (by rw[<-g,h];rfl),fun h=>⟨_,b3.cell rfl,fun e=>⟨_,b1.cell rfl,R _ (by rw[e];rfl)⟩,fun e=>R _ (by rw[e];rfl)⟩⟩
 have S:∀d:Bool,d=(!s1&&f !=0)->m_D_j6 p1 i ok p3 d n K:=fun d q=>⟨fun h=>G _ (by rw[h];rfl),fun h=>G _ (by rw[h];simpa using q)⟩
 exact⟨fun h=>G _ (by rw[h];rfl),fun h=>⟨_,b3.cell0,fun e=>⟨_,b1.cell rfl,S _ (by rw[e];rfl)⟩,fun e=>S _ (by rw[e];rfl)⟩⟩
end Go.Proofs
end
section
namespace Go.Proofs
structure Ent where
 node:Node
 size:Int
 depth:Int
deriving DecidableEq
abbrev Pool:=List Ent
def inP(L:Pool)(t:Int):Bool:=decide (1<=t)&&decide (t<=L.length)
def get(L:Pool)(t:Int):Option Ent:=if inP L t then L[(t-1).toNat]? else none
def sizeOf(L:Pool)(t:Int):Int:=((get L t).map (·.size)).getD 0
def depthOf(L:Pool)(t:Int):Int:=((get L t).map (·.depth)).getD 0
def xL:Node:=⟨0,0,0,0,⟨#[]⟩,0,0⟩
def nodeOf(L:Pool)(t:Int):Node:=((get L t).map (·.node)).getD xL
def zB(n:Node):List Int:=[n.a,n.b].take (shapeOf n.kind).kids.toNat
def check(L:Pool)(n:Node):Int×Int×Int:=
 let s:=shapeOf n.kind
 if zJ n≠0 then(0,0,zJ n)
 else if(decide (s.kids<1)&&n.a !=0) ||(decide (s.kids<2)&&n.b !=0)then(0,0,53)
 else if zM s n≠0 then(0,0,zM s n)
 else if(zB n).any (fun t=>!inP L t)then(0,0,51)
 else
  let sz:=1+((zB n).map<|sizeOf L).sum
  let d:=(zB n).foldl (fun d t=>max d<|depthOf L t) 0+1
  if sz>4096\/d>64 then(0,0,52)else(sz,d,0)
def find(L:Pool)(n:Node):Option Nat:=L.findIdx? fun e=>e.node=n
def make(L:Pool)(n:Node):Int×Int×Pool:=
 let c:=check L n
 if c.2.2≠0 then(0,c.2.2,L)
 else match find L n with
  |some i=>(i+1,0,L)
  |none=>if 65536<=L.length then(0,6,L)else(L.length+1,0,L++[⟨n,c.1,c.2.1⟩])
structure Ok(L:Pool):Prop where
 few:L.length<=65536
 nodup:(L.map (·.node)).Nodup
 size:∀e∈L,1<=e.size/\e.size<=4096
 depth:∀e∈L,1<=e.depth/\e.depth<=64
def zI{L t}:inP L t=true↔1<=t/\t<=L.length:=by simp[inP]
def jFL{L t}(h:inP L t=true):∃e,get L t=some e/\e∈L/\∃hi:(t-1).toNat<L.length,L[(t-1).toNat]=e:=by
 have⟨h1,h2⟩:=zI.1 h;have hi:(t-1).toNat<L.length:=Om;exact⟨L[(t-1).toNat],by simp[get,h],List.getElem_mem hi,hi,rfl⟩
def yC{L t}(h:inP L t=false):get L t=none:=by simp[get,h]
def Ok.sizeOf{L}(h:Ok L)(t):0<=sizeOf L t/\sizeOf L t<=4096:=by
 cases ht:inP L t with
 |true=>have⟨e,a,hm,_⟩:=jFL ht;have:=h.size e hm;simp[Proofs.sizeOf,a];omega
 |false=>simp[Proofs.sizeOf,yC ht]
def Ok.depthOf{L}(h:Ok L)(t):0<=depthOf L t/\depthOf L t<=64:=by
 cases ht:inP L t with
 |true=>have⟨e,a,hm,_⟩:=jFL ht;have:=h.depth e hm;simp[Proofs.depthOf,a];omega
 |false=>simp[Proofs.depthOf,yC ht]
def Ok.nil:Ok []:=⟨Sm,Sm,Sm,Sm⟩
def qX(k):(shapeOf k).kids=0\/(shapeOf k).kids=1\/(shapeOf k).kids=2:=by
 unfold shapeOf noShape;repeat' split
 all_goals simp
end Go.Proofs
end
section
open Go Go.SE List
namespace Go.Proofs
open Tryz
attribute [local irreducible] Calls
def oO(n:Node):List Value:=[vi n.kind,vi n.frm,vi n.to,vu n.num,vs n.text,vi n.a,vi n.b]
def zBJ(e:Ent):List Value:=oO e.node++[vi e.size,vi e.depth]
def jHL(n:Node):Value:=.agg (oO n).toArray
def jBD(L:Pool):List (Value×Value):=L.zipIdx.map fun p=>(jHL p.1.node,vi (p.2+1:Nat))
structure PoolS(w:World)(p:Addr)(L:Pool)(s:Sl)(m:Nat):Prop where
 box:Box w p [s.v,.map<|some m] 160
 rows:Rws w 248 9 s (L.map zBJ)
 map:CMap w m (jBD L)
 n1:m≠p.block
 n2:¬s.blk p.block
 n3:¬s.blk m
def zD(w:World)(p:Addr)(L:Pool)(F:NP):Prop:=∃s m,PoolS w p L s m/\∀b,F b↔(b=p.block\/s.blk b\/b=m)
def zD.ext{G w w' p L F}(h:zD w p L F)(a:Ext G w w')(d:∀b,F b->¬G b):zD w' p L F:=by
 have⟨s,m,h,c⟩:=h;exact⟨s,m,⟨h.box.ext a<|d _<|(c _).2<|.inl rfl,h.rows.ext a Gd,h.map.ext a<|d _<|(c _).2<|.inr<|.inr rfl,h.n1,h.n2,h.n3⟩,c⟩
def zD.pure{w w' p L F}(h:zD w p L F)(a:Pure w w'):zD w' p L F:=h.ext a fun _ _ h=>h
def zD.lt{w p L F}(h:zD w p L F){b}(a:F b):b<w.heap.size:=by
 have⟨s,m,h,c⟩:=h;rcases(c b).1 a with rfl|a|rfl;exact h.box.lt;exact h.rows.lt a;exact h.map.lt
def i64{n}(h:-9223372036854775808<=n)(a:n<=9223372036854775807):IntKind.i64.wrap n=n:=IntWalk.i64_in n ⟨h,a⟩
def c_in(p t w){L F}(b:zD w p L F):cl 130 #[vp<|some p,vi t] w (XC fun r w'=>r=inP L t/\w=w'):=by
 have⟨s,m,h,_⟩:=b;refine w_V1 (some p) t w (fun r w'=>r=inP L t/\w=w') ?_;unfold m_V1;have a:(s.len:Int)=L.length:=by rw[h.rows.len];simp
 refine Br.t rfl ⟨fun h1=>⟨p,rfl,s,h.box.cell0,?_,rfl⟩,fun h1=>⟨?_,rfl⟩⟩;have:1<=t:=by simpa using h1
 simp[inP,a,this];have:¬1<=t:=by simpa using h1
 simp[inP,this]
def PoolS.at{w p L s m}(h:PoolS w p L s m){t}(ht:inP L t=true)(b:Ok L):∃a e,At s (IntKind.i64.wrap<|t-1) 9 a/\Row w a (zBJ e)/\s.blk a.block/\get L t=some e:=by
 have⟨h1,h2⟩:=zI.1 ht;have⟨e,f,_,hi,g⟩:=jFL ht;have:=b.few;rw[i64 Om Om];have⟨a,c,hr,d⟩:=h.rows.at (i:=t-1) Om (by simpa using hi);exact⟨a,e,c,Gd,d,f⟩
def c_Size(p t w){L F}(d:zD w p L F)(b:Ok L):cl 269 #[vp<|some p,vi t] w (XB fun r w'=>r=sizeOf L t/\w=w'):=by
 refine w_F4 (some p) t w (fun r w'=>r=sizeOf L t/\w=w') ?_;refine(c_in p t w d).mono ?_;rintro _ _ ⟨_,rfl,rfl,rfl⟩;have⟨s,m,h,_⟩:=d;refine⟨_,rfl,fun h1=>⟨?_,rfl⟩,fun h1=>?_⟩;simp[sizeOf,yC<|show inP L t=false by simpa using h1];have⟨a,e,c,hr,_,f⟩:=h.at (show inP L t=true by simpa using h1) b;exact⟨p,rfl,s,h.box.cell0,a,c,e.size,hr 7<|by simp[zBJ,oO],by simp[sizeOf,f],rfl⟩
def zIE(p t w){L F}(d:zD w p L F)(b:Ok L):cl 270 #[vp<|some p,vi t] w (XB fun r w'=>r=depthOf L t/\w=w'):=by
 refine w_G4 (some p) t w (fun r w'=>r=depthOf L t/\w=w') ?_;refine(c_in p t w d).mono ?_;rintro _ _ ⟨_,rfl,rfl,rfl⟩;have⟨s,m,h,_⟩:=d;refine⟨_,rfl,fun h1=>⟨?_,rfl⟩,fun h1=>?_⟩;simp[depthOf,yC<|show inP L t=false by simpa using h1];have⟨a,e,c,hr,_,f⟩:=h.at (show inP L t=true by simpa using h1) b;exact⟨p,rfl,s,h.box.cell0,a,c,e.depth,hr 8<|by simp[zBJ,oO],by simp[depthOf,f],rfl⟩
def jDK(p t w){L F}(n:zD w p L F)(d:Ok L):cl 109 #[vp<|some p,vi t] w
  (XL fun k f q u x a b r w'=>((⟨k,f,q,u,x,a,b⟩:Node)=nodeOf L t/\r=inP L t)/\Pure w w'):=by
 refine w_O3 (some p) t w _ ?_
 intro p1 j h1
 have c:Pure w j:=Ext.new h1
 have b1:=Box.of_new h1
 have l:=New.own (Ext.refl w) h1
 refine(c_in p t j<|n.pure c).mono ?_
 rintro _ _ ⟨_,rfl,rfl,rfl⟩
 have⟨s,m,h,_⟩:=n.pure c
 refine⟨_,rfl,fun h1=>bx 7 b1 rfl rfl fun w' b E=>⟨_,_,_,_,_,_,_,b.row,⟨?_,?_⟩,c.own l E⟩,fun h1=>?_⟩
 simp[nodeOf,yC<|show inP L t=false by simpa using h1,xL]
 symm;simpa using h1
 have ht:inP L t=true:=by simpa using h1
 have⟨a,e,g,hr,_,v⟩:=h.at ht d
 have o:Row j a (oO e.node):=fun i hi=>by
  have:=hr i (by simp[zBJ];omega);rw[this];unfold zBJ;rw[getElem?_append_left hi]
 exact⟨p,rfl,s,h.box.cell0,a,g,_,_,_,_,_,_,_,o,bx 7 b1 rfl rfl fun w' b E=>⟨_,_,_,_,_,_,_,b.row,⟨by simp[nodeOf,v],ht.symm⟩,c.own l E⟩⟩
end Go.Proofs
end
section
namespace Go.Proofs
inductive Tree where
 |mk (k f t u:Int) (x:ByteArray) (kids:List Tree)
def Tree.kids:Tree->List Tree|.mk _ _ _ _ _ ks=>ks
def Tree.node:Tree->Node|.mk k f t u x _=>⟨k,f,t,u,x,0,0⟩
def Tree.ind{P:Tree->Prop}(h:∀k f t u x (a:List Tree),(∀i (hi:i<a.length),P a[i])->P (.mk k f t u x a))(t):P t:=by
 refine Tree.rec (motive_1:=P) (motive_2:=fun a=>∀i (hi:i<a.length),P a[i]) ?_ ?_ ?_ t;grind;intro i hi;simp at hi;grind
def uA(n:Node)(len:Nat):Int:=
 let e:=if zJ n=0 then if(len:Int)≠(shapeOf n.kind).kids then 53 else 0 else zJ n
 if e=0 then zM (shapeOf n.kind) n else e
mutual
def qK (inside seen:Int):Tree->Int×Int
 |.mk k f t u x ks=>if 4096<=seen then(52,seen)else if 64<=inside then(52,seen)else vF (inside+1) (uA ⟨k,f,t,u,x,0,0⟩ ks.length) (seen+1) ks
def vF (inside e seen:Int):List Tree->Int×Int
 |[]=>(e,seen)
 |t :: ts=>if e=0 then vF inside (qK inside seen t).1 (qK inside seen t).2 ts else(e,seen)
end
mutual
def grow (L:Pool):Tree->Int×Int×Pool
 |.mk k f t u x ks=>zX ⟨k,f,t,u,x,0,0⟩ 0 L ks
def zX (n:Node) (i:Nat) (L:Pool):List Tree->Int×Int×Pool
 |[]=>make L n
 |t :: ts=>if(grow L t).2.1≠0 then(0,(grow L t).2.1,(grow L t).2.2)else zX (if i=0 then { n with a:=(grow L t).1 }else { n with b:=(grow L t).1 }) (i+1) (grow L t).2.2 ts
end
def of(L:Pool)(t:Tree):Int×Int×Pool:=
 if(qK 0 0 t).1≠0 then(0,(qK 0 0 t).1,L)
 else if(grow L t).2.1≠0 then(0,(grow L t).2.1,L)else((grow L t).1,0,(grow L t).2.2)
def jGJ(L n):∃M,(make L n).2.2=L++M:=by
 unfold make;simp only;by_cases a:(check L n).2.2=0;simp only[a];rw[if_neg Sm];split;exact⟨[],Sm⟩;split;exact⟨[],Sm⟩;exact⟨_,rfl⟩;rw[if_pos a];exact⟨[],Sm⟩
def zEC{L n}(a:Ok L)(h:(check L n).2.2=0):1<=(check L n).1/\(check L n).1<=4096/\1<=(check L n).2.1/\(check L n).2.1<=64:=by
 unfold check at h|-;simp only at h|-;by_cases h1:zJ n≠0;grind;rw[if_neg h1]at h|-;split at h;simp at h;rename_i h2;rw[if_neg h2];by_cases h3:zM (shapeOf n.kind) n≠0;grind;rw[if_neg h3]at h|-;split at h;simp at h;rename_i c;rw[if_neg c];split at h;simp at h;rename_i e;rw[if_neg e];have hs:∀l:List Int,0<=(l.map<|sizeOf L).sum:=by
  intro l;induction l with
  |nil=>simp
  |cons y l b=>have:=a.sizeOf y;simp only[List.map_cons,List.sum_cons];omega
 have f:∀(l:List Int) (d:Int),0<=d->0<=l.foldl (fun d t=>max d<|depthOf L t) d:=by
  intro l;induction l with
  |nil=>intro d h;exact h
  |cons y l b=>intro d h;exact b (max d<|depthOf L y) Om
 have:=hs<|zB n;have:=f (zB n) 0 Om;simp only;omega
def jSH{L}(c:Ok L)(n):Ok (make L n).2.2:=by
 by_cases f:(check L n).2.2=0;have:=zEC c f;unfold make;simp only[f];rw[if_neg Sm];split;exact c;rename_i g;split;exact c;rename_i k;refine⟨So,?_,?_,?_⟩;rw[List.map_append,List.nodup_append];refine⟨c.nodup,Sm,?_⟩;intro a j b i;simp only[List.map_cons,List.map_nil,List.mem_singleton]at i;subst i;obtain⟨e,d,rfl⟩:=List.mem_map.1 j;unfold find at g;rw[List.findIdx?_eq_none_iff]at g;simpa using g e d;intro e d;rcases List.mem_append.1 d with h|h;exact c.size e h;grind;intro e d;rcases List.mem_append.1 d with h|h;exact c.depth e h;simp only[List.mem_singleton]at h;subst h;simp;omega;unfold make;simp only;rw[if_pos f];exact c
def tF(t):∀L,Ok L->Ok (grow L t).2.2/\∃M,(grow L t).2.2=L++M:=by
 induction t using Tree.ind with
 |h k f t u x c m =>
  have:∀(c:List Tree),(∀i (hi:i<c.length),∀L,Ok L->Ok (grow L c[i]).2.2/\∃M,(grow L c[i]).2.2=L++M)->∀n i L,Ok L->Ok (zX n i L c).2.2/\∃M,(zX n i L c).2.2=L++M:=by
   intro c;induction c with
   |nil=>intro _ n i L h;unfold zX;exact⟨jSH h n,jGJ L n⟩
   |cons t ts e =>
    intro hh n i L h
    have g:=hh 0 Sm L h
    simp only[List.getElem_cons_zero]at g
    unfold zX
    split
    exact g
    have⟨o,M,j⟩:=g
    have:=e (fun i hi=>hh (i+1)<|by simpa using hi) (if i=0 then { n with a:=(grow L t).1 }else { n with b:=(grow L t).1 }) (i+1) (grow L t).2.2 o
    refine⟨this.1,?_⟩
    have⟨l,d⟩:=this.2
    exact⟨M++l,by rw[d,j,List.append_assoc]⟩
  intro L h
  unfold grow
  exact this c m _ _ L h
def yH(n:Int):Prop:=0<=n/\n<18446744073709551616
inductive NumT:Tree->Prop
 |mk (k f t u:Int) (x:ByteArray) (a:List Tree) (own:yH u) (kids:∀i (hi:i<a.length),NumT a[i]):NumT (.mk k f t u x a)
end Go.Proofs
end
section
namespace Go.Proofs
def qJ{L}{i:Nat}(hi:i<L.length):nodeOf L ((i:Int)+1)=L[i].node:=by
 have h:inP L ((i:Int)+1)=true:=zI.2 ⟨Om,Om⟩;have e:((i:Int)+1-1).toNat=i:=Om;simp[nodeOf,get,h,e,hi]
def jCA{L t}(h:inP L t=true):∃i:Nat,i<L.length/\t=(i:Int)+1:=by
 have:=zI.1 h;exact⟨(t-1).toNat,Om,Om⟩
def jUN{L}{i:Nat}(hi:i<L.length):get L ((i:Int)+1)=some L[i]:=by
 have h:inP L ((i:Int)+1)=true:=zI.2 ⟨Om,Om⟩;have e:((i:Int)+1-1).toNat=i:=Om;simp[get,h,e,hi]
structure Wf(L:Pool):Prop where
 ok:Ok L
 each:∀i (hi:i<L.length),check (L.take i) L[i].node=(L[i].size,L[i].depth,0)
def Wf.nil:Wf []:=⟨Ok.nil,fun i hi=>by simp at hi⟩
def jLZ{L n}(h:(check L n).2.2=0):zJ n=0/\((shapeOf n.kind).kids<1->n.a=0)/\((shapeOf n.kind).kids<2->n.b=0)/\zM (shapeOf n.kind) n=0/\(∀t∈zB n,inP L t=true) /\
  (check L n).1=1+((zB n).map<|sizeOf L).sum/\(check L n).2.1=(zB n).foldl (fun d t=>max d<|depthOf L t) 0+1/\(check L n).1<=4096/\(check L n).2.1<=64:=by
 unfold check at h|-
 simp only at h|-
 by_cases h1:zJ n≠0
 grind
 rw[if_neg h1]at h|-
 split at h
 simp at h
 rename_i h2;rw[if_neg h2]
 by_cases h3:zM (shapeOf n.kind) n≠0
 grind
 rw[if_neg h3]at h|-
 split at h
 simp at h
 rename_i c;rw[if_neg c]
 split at h
 simp at h
 rename_i e;rw[if_neg e]
 simp only[Bool.or_eq_true,Bool.and_eq_true,decide_eq_true_eq,bne_iff_ne,ne_eq,not_or,not_and,Classical.not_not]at h2
 refine⟨by simpa using h1,h2.1,h2.2,by simpa using h3,fun t ht=>?_,rfl,rfl,Sy,Sy⟩
 cases hi:inP L t with
 |true=>rfl
 |false=>exact absurd (List.any_eq_true.2 ⟨t,ht,by simp[hi]⟩) c
def jFH(L n):(make L n).2.2=L\/((check L n).2.2=0/\(make L n).2.2=L++[⟨n,(check L n).1,(check L n).2.1⟩]):=by
 by_cases a:(check L n).2.2=0;unfold make;simp only[a];rw[if_neg Sm];split;exact .inl rfl;grind;unfold make;simp only;rw[if_pos a];exact .inl rfl
def jYK{L}{e:Ent}(h:∀i (hi:i<L.length),check (L.take i) L[i].node=(L[i].size,L[i].depth,0))(a:check L e.node=(e.size,e.depth,0)):∀i (hi:i<(L++[e]).length),check ((L++[e]).take i) (L++[e])[i].node=((L++[e])[i].size,(L++[e])[i].depth,0):=Gd
def uM{L}(h:Wf L)(n):Wf (make L n).2.2:=by
 have a:=jSH h.ok n;rcases jFH L n with e|⟨b,e⟩;rw[e];exact h;rw[e]at a|-;exact⟨a,jYK h.each<|by rw[<-b]⟩
def jNC(t):∀L,Wf L->Wf (grow L t).2.2:=by
 induction t using Tree.ind with
 |h k f t u x a d =>
  have:∀(a:List Tree),(∀i (hi:i<a.length),∀L,Wf L->Wf (grow L a[i]).2.2)->∀n i L,Wf L->Wf (zX n i L a).2.2:=by
   intro a;induction a with
   |nil=>intro _ n i L h;unfold zX;exact uM h n
   |cons t ts b =>
    intro hh n i L h
    have c:=hh 0 Sm L h
    simp only[List.getElem_cons_zero]at c
    unfold zX
    split
    exact c
    exact b (fun i hi=>hh (i+1)<|by simpa using hi) _ _ _ c
  intro L h
  unfold grow
  exact this a d _ _ L h
def of_wf{L}(h:Wf L)(t):Wf (of L t).2.2:=by
 unfold of;split;exact h;split;exact h;exact jNC t L h
def zCY{L}(h:Ok L)(t):∃M,(of L t).2.2=L++M:=by
 unfold of;split;exact⟨[],Sm⟩;split;exact⟨[],Sm⟩;exact(tF t L h).2
def uD{L M t}(h:inP L t=true):inP (L++M) t=true:=by
 have:=zI.1 h;exact zI.2 ⟨this.1,by rw[List.length_append];omega⟩
def jSR{L M}{t:Int}(h:inP L t=true):get (L++M) t=get L t:=by
 obtain⟨i,hi,rfl⟩:=jCA h;rw[jUN hi,jUN Gd,List.getElem_append_left hi]
def jLN{L M t}(h:inP L t=true):nodeOf (L++M) t=nodeOf L t:=by unfold nodeOf;rw[jSR h]
def jGB{L M t}(h:inP L t=true):sizeOf (L++M) t=sizeOf L t:=by unfold sizeOf;rw[jSR h]
def jEC{L M t}(h:inP L t=true):depthOf (L++M) t=depthOf L t:=by unfold depthOf;rw[jSR h]
def Wf.node{L}(h:Wf L){t:Int}(ht:inP L t=true):zJ (nodeOf L t)=0/\((shapeOf (nodeOf L t).kind).kids<1->(nodeOf L t).a=0)/\((shapeOf (nodeOf L t).kind).kids<2->(nodeOf L t).b=0)/\zM (shapeOf (nodeOf L t).kind) (nodeOf L t)=0 /\
  (∀k∈zB (nodeOf L t),inP L k=true/\k<t)/\sizeOf L t=1+((zB<|nodeOf L t).map<|sizeOf L).sum/\depthOf L t=(zB<|nodeOf L t).foldl (fun d k=>max d<|depthOf L k) 0+1:=by
 obtain⟨i,hi,rfl⟩:=jCA ht
 have p:=h.each i hi
 have s:=jLZ (L:=L.take i) (n:=L[i].node) (by rw[p])
 rw[qJ hi]
 have⟨h1,h2,h3,q,r,o,j,_,_⟩:=s
 have f:∀k∈zB L[i].node,inP (L.take i) k=true/\inP L k=true/\k<(i:Int)+1:=by
  intro k e;have c:=r k e;have m:=zI.1 c;have:L.take i++L.drop i=L:=List.take_append_drop i L;refine⟨c,by rw[<-this];exact uD c,?_⟩;rw[List.length_take]at m;omega
 have g:∀k∈zB L[i].node,sizeOf (L.take i) k=sizeOf L k/\depthOf (L.take i) k=depthOf L k:=by
  intro k e;have c:=(f k e).1;have:L.take i++L.drop i=L:=List.take_append_drop i L;exact⟨by rw[<-jGB (M:=L.drop i) c,this],by rw[<-jEC (M:=L.drop i) c,this]⟩
 refine⟨h1,h2,h3,q,fun k e=>⟨(f k e).2.1,(f k e).2.2⟩,?_,?_⟩
 have:sizeOf L ((i:Int)+1)=L[i].size:=by simp[sizeOf,jUN hi]
 rw[this]
 rw[p]at o
 simp only at o
 rw[o]
 congr 2
 exact List.map_congr_left fun k e=>(g k e).1
 have:depthOf L ((i:Int)+1)=L[i].depth:=by simp[depthOf,jUN hi]
 rw[this]
 rw[p]at j
 simp only at j
 rw[j]
 congr 1
 have:∀(l:List Int) (d:Int),(∀k∈l,depthOf (L.take i) k=depthOf L k)->l.foldl (fun d t=>max d<|depthOf (L.take i) t) d=l.foldl (fun d k=>max d<|depthOf L k) d:=by
  intro l;induction l with
  |nil=>intro d _;rfl
  |cons a l u=>intro d hh;simp only[List.foldl_cons];rw[hh a Sm];exact u _ fun k e=>hh k (by simp[e])
 exact this _ _ fun k e=>(g k e).2
def jHD:Tree:=.mk 0 0 0 0 ⟨#[]⟩ []
def jMK(L:Pool):Nat->Int->Tree
 |0,_=>jHD
 |fuel+1,t=>if inP L t=true then .mk (nodeOf L t).kind (nodeOf L t).frm (nodeOf L t).to (nodeOf L t).num (nodeOf L t).text ((zB<|nodeOf L t).map<|jMK L fuel)else jHD
def zA(L:Pool)(t:Int):Tree:=jMK L t.toNat t
def jAF{L t}(h:inP L t=false)(f):jMK L f t=jHD:=by
 cases f<;>simp[jMK,h]
def jVI{L}(h:Wf L):∀(f:Nat) (t:Int),t.toNat<=f->jMK L f t=zA L t:=by
 have key:∀(f g:Nat) (t:Int),t.toNat<=f->t.toNat<=g->jMK L f t=jMK L g t:=by
  intro f;induction f with
  |zero =>
   intro g t a e
   have:inP L t=false:=by
    apply Bool.eq_false_iff.2;intro hi;have:=zI.1 hi;omega
   rw[jAF this,jAF this]
  |succ f d =>
   intro g t a e
   cases hi:inP L t with
   |false=>rw[jAF hi,jAF hi]
   |true =>
    have c:=zI.1 hi
    cases g with
    |zero=>omega
    |succ g =>
     simp only[jMK,hi,if_true]
     congr 1
     refine List.map_congr_left fun k b=>d g k ?_ ?_
     have:=((h.node hi).2.2.2.2.1 k b).2;omega
     have:=((h.node hi).2.2.2.2.1 k b).2;omega
 intro f t a;exact key f t.toNat t a<|Nat.le_refl _
def jDO{L t}(h:inP L t=false):zA L t=jHD:=jAF h _
def zU{L}(h:Wf L){t}(ht:inP L t=true):zA L t=.mk (nodeOf L t).kind (nodeOf L t).frm (nodeOf L t).to (nodeOf L t).num (nodeOf L t).text ((zB<|nodeOf L t).map<|zA L):=by
 have a:=zI.1 ht;have e:t.toNat=(t.toNat-1)+1:=Om;unfold zA;rw[e];simp only[jMK,ht,if_true];congr 1;refine List.map_congr_left fun k b=>?_;have:=((h.node ht).2.2.2.2.1 k b).2;exact jVI h _ k Om
def Wf.first{L M}(h:Wf (L++M)):Wf L:=by
 refine⟨⟨by have:=h.ok.few;rw[List.length_append]at this;omega,?_,fun e a=>h.ok.size e<|by simp[a],fun e a=>h.ok.depth e<|by simp[a]⟩,fun i hi=>?_⟩
 .have:=h.ok.nodup;rw[List.map_append]at this;exact(List.nodup_append.1 this).1
 .have:=h.each i Gd;rw[List.getElem_append_left hi,List.take_append_of_le_length Om]at this;exact this
def uG{L M}(h:Wf (L++M)):∀(n:Nat) (t:Int),t.toNat=n->inP L t=true->zA (L++M) t=zA L t:=by
 have b:=h.first;intro n;induction n using Nat.strongRecOn with
 |_ n d =>
  intro t e ht
  rw[zU h<|uD ht,zU b ht,jLN ht]
  congr 1
  refine List.map_congr_left fun k c=>?_
  have a:=(b.node ht).2.2.2.2.1 k c
  have:=zI.1 a.1
  exact d k.toNat Om k rfl a.1
end Go.Proofs
end
section
namespace Go.Proofs
def qO(k:Int):Bool:=k==7 ||k==8 ||k==9
def jHN(k:Int):Bool:=k==1 ||k==2 ||k==3
def zT(n:Int):Node:=⟨6,n,0,0,⟨#[]⟩,0,0⟩
def xM(n:Node):Int:=if n.kind=9 then n.to else n.frm
def oN(L:Pool)(r u t:Int):Prop:=
 (r=1/\(nodeOf L u).kind=4/\(nodeOf L u).a=t)\/(r=2/\(nodeOf L u).kind=4/\(nodeOf L u).b=t)\/(r=3/\qO (nodeOf L u).kind=true/\(nodeOf L u).a=t)
inductive Seen(L:Pool)(G:List Int):Int->Prop
 |given {t:Int}:t∈G->Seen L G t
 |aris {r u t:Int}:Seen L G u->oN L r u t->Seen L G t
inductive Drv(L:Pool)(K:Int->Prop):Int->Prop
 |seen {t:Int}:K t->Drv L K t
 |free {t:Int}:jHN (nodeOf L t).kind=true->Drv L K t
 |pair {t:Int}:(nodeOf L t).kind=4->Drv L K (nodeOf L t).a->Drv L K (nodeOf L t).b->Drv L K t
 |hash {t:Int}:(nodeOf L t).kind=5->Drv L K (nodeOf L t).a->Drv L K t
 |sign {t:Int} {i:Nat}:qO (nodeOf L t).kind=true->Drv L K (nodeOf L t).a->find L (zT<|xM<|nodeOf L t)=some i->K ((i:Int)+1)->Drv L K t
structure Way where
 t:Int
 rule:Int
 frm:Int
deriving DecidableEq
def zH(S:List Way):List Int:=S.map Way.t
def jKX(L:Pool)(G:List Int)(pre:List Way)(v:Way):Prop:=(v.rule=0/\v.frm=0/\v.t∈G)\/(v.rule≠0/\oN L v.rule v.frm v.t/\v.frm∈zH pre)
structure WaysOk(L:Pool)(G:List Int)(S:List Way):Prop where
 nodup:(zH S).Nodup
 inp:∀t∈zH S,inP L t=true
 way:∀i (h:i<S.length),jKX L G (S.take i) S[i]
def jKR(L:Pool)(S:List Way)(u:Int):Prop:=∀r t,oN L r u t->t∈zH S
structure KnowOk(L:Pool)(G:List Int)(S:List Way):Prop extends WaysOk L G S where
 closed:∀u∈zH S,jKR L S u
 giv:∀t∈G,t∈zH S
 gnd:G.Nodup
def yR(S):(zH S).length=S.length:=by simp[zH]
def jKX.mono{L G G' pre v}(h:jKX L G pre v)(d:∀t∈G,t∈G'):jKX L G' pre v:=by
 rcases h with⟨a,b,c⟩|h;exact .inl ⟨a,b,d _ c⟩;exact .inr h
def WaysOk.mono{L G G' S}(h:WaysOk L G S)(a:∀t∈G,t∈G'):WaysOk L G' S:=⟨h.nodup,h.inp,fun i hi=>(h.way i hi).mono a⟩
def WaysOk.snoc{L G S}(h:WaysOk L G S){v}(c:v.t∉zH S)(hi:inP L v.t=true)(g:jKX L G S v):WaysOk L G (S++[v]):=by
 refine⟨?_,?_,fun i a=>?_⟩;unfold zH at c|-;rw[List.map_append,List.nodup_append];exact⟨h.nodup,Sm,fun x f y d e=>by simp at d;subst d;exact c<|e▸f⟩;intro t ht;unfold zH at ht;rw[List.map_append,List.mem_append]at ht;rcases ht with ht|ht;exact h.inp t ht;grind;rw[List.length_append]at a;simp only[List.length_cons,List.length_nil]at a;by_cases b:i<S.length;rw[List.getElem_append_left b,List.take_append_of_le_length Om];exact h.way i b;grind
def jKR.snoc{L S u v}(h:jKR L S u):jKR L (S++[v]) u:=fun r t a=>by
 unfold zH;rw[List.map_append];exact List.mem_append_left _<|h r t a
def jMI{S t}(h:t∈zH S):∃i,∃hi:i<S.length,S[i].t=t/\(zH S).idxOf t=i:=by
 have a:=List.idxOf_lt_length_iff.2 h;refine⟨(zH S).idxOf t,by simpa[zH]using a,?_,rfl⟩;have:=List.getElem_idxOf a;simp only[zH,List.getElem_map]at this|-;exact this
def KnowOk.seen_iff{L G S}(h:KnowOk L G S)(t):t∈zH S↔Seen L G t:=by
 constructor;intro ht;have⟨i,hi,e,_⟩:=jMI ht;subst e;have:∀(n i:Nat) (hi:i<S.length),i<=n->Seen L G S[i].t:=by
  intro n;induction n with
  |zero =>
   intro i hi g
   have:i=0:=Om
   subst this
   rcases h.way 0 hi with⟨_,_,a⟩|⟨_,_,hm⟩
   exact .given a
   simp[zH]at hm
  |succ n c =>
   intro i hi f
   rcases h.way i hi with⟨_,_,a⟩|⟨_,b,hm⟩
   exact .given a
   have⟨j,d,e,_⟩:=jMI hm
   rw[List.length_take]at d
   have:=c j Om Om
   rw[List.getElem_take]at e
   rw[e]at this
   exact .aris this b
 exact this i i hi<|Nat.le_refl _;intro hs;induction hs with
 |given a=>exact h.giv _ a
 |aris _ b c=>exact h.closed _ c _ _ b
def Drv.mono{L K K'}(d:∀t,K t->K' t){t}(h:Drv L K t):Drv L K' t:=by
 induction h with
 |seen h=>exact .seen<|d _ h
 |free h=>exact .free h
 |pair h _ _ b a=>exact .pair h b a
 |hash h _ c=>exact .hash h c
 |sign h _ f e c=>exact .sign h c f<|d _ e
structure Step where
 rule:Int
 a:Int
 b:Int
 t:Int
deriving DecidableEq
def jKW(i:Nat)(v:Int):Bool:=decide (0<=v)&&decide (v<i)
def tAt(pre:List Step)(v:Int):Int:=(pre[v.toNat]?.map Step.t).getD 0
def jNR(L:Pool)(r u t:Int):Bool:=
 if r=1 then(nodeOf L u).kind==4&&(nodeOf L u).a==t else if r=2 then(nodeOf L u).kind==4&&(nodeOf L u).b==t else qO (nodeOf L u).kind&&(nodeOf L u).a==t
def fol(L:Pool)(G:List Int)(pre:List Step)(s:Step):Bool:=
 if inP L s.t=false then false
 else if s.rule=0 then s.a==0&&s.b==0&&decide (s.t∈G)
 else if s.rule=1\/s.rule=2\/s.rule=3 then jKW pre.length s.a&&s.b==0&&jNR L s.rule (tAt pre s.a) s.t
 else if s.rule=4 then s.a==0&&s.b==0&&jHN (nodeOf L s.t).kind
 else if s.rule=5 then
  if(nodeOf L s.t).kind=4 then jKW pre.length s.a&&jKW pre.length s.b&&tAt pre s.a==(nodeOf L s.t).a&&tAt pre s.b==(nodeOf L s.t).b
  else if(nodeOf L s.t).kind=5 then jKW pre.length s.a&&s.b==0&&tAt pre s.a==(nodeOf L s.t).a
  else if qO (nodeOf L s.t).kind=true then jKW pre.length s.a&&jKW pre.length s.b&&tAt pre s.a==(nodeOf L s.t).a&&(nodeOf L<|tAt pre s.b).kind==6&&(nodeOf L<|tAt pre s.b).frm==xM (nodeOf L s.t)
  else false
 else false
end Go.Proofs
namespace Go.Proofs
def jOV{α:Type}[DecidableEq α]:∀{l m:List α},l.Nodup->(∀x∈l,x∈m)->l.length<=m.length
 |[],m,_,_=>Sm
 |x :: l,m,a,hs=>by
  have b:=hs x Sm;rw[List.nodup_cons]at a;have:=jOV (m:=m.erase x) a.2 Gd;rw[List.length_erase_of_mem b]at this;have:=List.length_pos_of_mem b;simp only[List.length_cons];omega
def xV{L}{l:List Int}(a:l.Nodup)(hi:∀t∈l,inP L t=true):l.length<=L.length:=by
 have:=jOV (m:=(List.range L.length).map fun i:Nat=>(i:Int)+1) a (fun t ht=>by
  have⟨i,h1,h2⟩:=jCA<|hi t ht;exact List.mem_map.2 ⟨i,List.mem_range.2 h1,h2.symm⟩)
 simpa using this
def WaysOk.few{L}{G:List Int}{S}(h:WaysOk L G S):S.length<=L.length:=by
 have:=xV h.nodup h.inp;rwa [yR]at this
def jPD{L}(h:Wf L){t}(ht:inP L t=true)(c:(nodeOf L t).kind=4):(inP L (nodeOf L t).a=true/\(nodeOf L t).a<t)/\(inP L (nodeOf L t).b=true/\(nodeOf L t).b<t):=by
 have:=(h.node ht).2.2.2.2.1;simp only[zB,c,shapeOf]at this;exact⟨this _ Sm,this _ Sm⟩
def kids5{L}(h:Wf L){t}(ht:inP L t=true)(b:(nodeOf L t).kind=5):inP L (nodeOf L t).a=true/\(nodeOf L t).a<t:=by
 have:=(h.node ht).2.2.2.2.1;simp only[zB,b,shapeOf]at this;exact this _ Sm
def jWK{L}(h:Wf L){t}(ht:inP L t=true)(b:qO (nodeOf L t).kind=true):inP L (nodeOf L t).a=true/\(nodeOf L t).a<t:=by
 have:=(h.node ht).2.2.2.2.1;simp only[qO,Bool.or_eq_true,beq_iff_eq]at b;rcases b with(b|b)|b<;>simp only[zB,b,shapeOf]at this<;>exact this _ Sm
def oN.inp{L}(h:Wf L){r u t}(b:inP L u=true)(c:oN L r u t):inP L t=true/\t<u:=by
 rcases c with⟨_,a,rfl⟩|⟨_,a,rfl⟩|⟨_,a,rfl⟩;exact(jPD h b a).1;exact(jPD h b a).2;exact jWK h b a
def jBP(S:List Way)(v:Way):List Way:=if v.t∈zH S then S else S++[v]
def tC(S v):zH (S++[v])=zH S++[v.t]:=by simp[zH]
def tN(S v):v.t∈zH (jBP S v)/\∀t∈zH S,t∈zH (jBP S v):=by
 unfold jBP;split;grind;rw[tC];exact⟨Sm,fun t ht=>List.mem_append_left _ ht⟩
def jEL(S v):∃M,jBP S v=S++M:=by
 unfold jBP;split;exact⟨[],Sm⟩;exact⟨[v],rfl⟩
def WaysOk.add{L G S}(h:WaysOk L G S){v}(hi:inP L v.t=true)(a:jKX L G S v):WaysOk L G (jBP S v):=by
 unfold jBP;split;exact h;rename_i b;exact h.snoc b hi a
end Go.Proofs
end
section
open Go Go.SE List
namespace Go.Proofs
open Tryz
attribute [local irreducible] Calls
def wayv(p:Int×Int):Value:=.agg #[vi p.1,vi p.2]
def zGD(S:List Way):List (Int×(Int×Int)):=S.map fun v=>(v.t,(v.rule,v.frm))
def jIO(S):(zGD S).map Prod.fst=zH S:=by simp[zGD,zH]
def jYB(S v):zGD (S++[v])=zGD S++[(v.t,(v.rule,v.frm))]:=by simp[zGD]
structure KnowS(w:World)(k p:Addr)(G:List Int)(S:List Way)(ks:List Int)(sg:Sl)(m:Nat)(sl:Sl):Prop where
 box:Box w k [vp<|some p,sg.v,.map<|some m,sl.v] 163
 giv:Rws w 73 1 sg (tmr G)
 seen:IMap wayv w m (zGD S)
 list:Rws w 73 1 sl (tmr ks)
 n1:m≠k.block
 n2:¬sg.blk k.block
 n3:¬sl.blk k.block
 n4:¬sg.blk m
 n5:¬sl.blk m
 n6:∀b,sg.blk b->¬sl.blk b
def KF(k:Addr)(sg:Sl)(m:Nat)(sl:Sl)(b:Nat):Prop:=b=k.block\/sg.blk b\/b=m\/sl.blk b
def qC(w:World)(k p:Addr)(G:List Int)(S:List Way)(F:NP):Prop:=∃sg m sl,KnowS w k p G S (zH S) sg m sl/\∀b,F b↔KF k sg m sl b
section
variable {w w':World} {k p:Addr} {G:List Int} {S:List Way} {ks:List Int} {sg sl:Sl} {m:Nat} {F:NP}
def KnowS.ext{X}(h:KnowS w k p G S ks sg m sl)(a:Ext X w w')(c:∀b,KF k sg m sl b->¬X b):KnowS w' k p G S ks sg m sl:=
 ⟨h.box.ext a<|c _<|.inl rfl,h.giv.ext a fun b d=>c _<|.inr<|.inl d,h.seen.ext a<|c _<|.inr<|.inr<|.inl rfl,h.list.ext a fun b d=>c _<|.inr<|.inr<|.inr d,h.n1,h.n2,h.n3,h.n4,h.n5,h.n6⟩
def KnowS.pure(h:KnowS w k p G S ks sg m sl)(a:Pure w w'):KnowS w' k p G S ks sg m sl:=h.ext a fun _ _ h=>h
def KnowS.lt(h:KnowS w k p G S ks sg m sl){b}(a:KF k sg m sl b):b<w.heap.size:=by
 rcases a with rfl|a|rfl|a;exact h.box.lt;exact h.giv.lt a;exact h.seen.lt;exact h.list.lt a
def qC.ext{X}(h:qC w k p G S F)(a:Ext X w w')(d:∀b,F b->¬X b):qC w' k p G S F:=by
 have⟨sg,m,sl,h,c⟩:=h;exact⟨sg,m,sl,h.ext a Gd,c⟩
def qC.pure(h:qC w k p G S F)(a:Pure w w'):qC w' k p G S F:=h.ext a fun _ _ h=>h
def qC.lt(h:qC w k p G S F){b}(a:F b):b<w.heap.size:=by
 have⟨sg,m,sl,h,c⟩:=h;exact h.lt<|(c b).1 a
def KnowS.look(h:KnowS w k p G S ks sg m sl)(t:Int):∃r f:Int,(Instr.lookup 161 (.map<|some m) (vi t) true).run prog w=.ok (.tuple #[.agg #[vi r,vi f],vb<|decide (t∈zH S)]) w/\(t∈zH S->SE.look (zGD S) t=some (r,f)):=by
 rcases h.seen.get (P:=prog) (T:=161) underlying161 underlying73 (zeroValue205 _) t true with⟨h1,h2⟩|⟨⟨r,f⟩,h1,h2⟩;have a:t∉zH S:=by have:=uS.1 h1;rwa [jIO]at this
 exact⟨0,0,by rw[decide_eq_false a];exact h2,fun h=>absurd h a⟩;have b:t∈zH S:=by
  have:=tB h1;rw[<-jIO];exact mem_map.2 ⟨_,this,rfl⟩
 exact⟨r,f,by rw[decide_eq_true b];exact h2,fun _=>h1⟩
def KnowS.put(h:KnowS w k p G S ks sg m sl){v:Way}(c:v.t∉zH S):∃w',(Instr.mapUpdate 161 (.map<|some m) (vi v.t)<|.agg #[vi v.rule,vi v.frm]).run prog w=.ok () w'/\KnowS w' k p G (S++[v]) ks sg m sl/\Ext (·=m) w w':=by
 have⟨w',h1,h2,h3⟩:=h.seen.put (P:=prog) (T:=161) (K:=73) underlying161 underlying73 (k:=v.t) (uS.2 (by rw[jIO];exact c)) (v.rule,v.frm);exact⟨w',h1,⟨h.box.ext h3 fun e=>h.n1 e.symm,h.giv.ext h3 fun b a e=>h.n4<|e▸a,by rw[jYB];exact h2,h.list.ext h3 fun b a e=>h.n5<|e▸a,h.n1,h.n2,h.n3,h.n4,h.n5,h.n6⟩,h3⟩
def KnowS.app(h:KnowS w k p G S ks sg m sl){t q w1}(o:New w (.cells #[vi t] 73) q w1)(u:ks.length<=1000000):∃s1 f,(Builtin.append_ #[46,46] 46 #[sl.v,(Sl.mk (some q) 1 1).v]).run prog w1=.ok s1.v f/\Ext sl.blk w1 f/\Box f k [vp<|some p,sg.v,.map<|some m,sl.v] 163 /\
  KnowS (f.setCell (k.add 3) s1.v) k p G S (ks++[t]) sg m s1/\Ext (KF k sg m sl) w (f.setCell (k.add 3) s1.v)/\∀b,KF k sg m s1 b->KF k sg m sl b\/w.heap.size<=b:=by
 have l:Pure w w1:=Ext.new o
 have h1:=h.pure l
 have⟨s1,f,hr,s,i,a⟩:=h1.list.append (P:=prog) (ty:=46) (c:=1) jEX (r:=[vi t]) (Box.of_new o).row rfl rfl (by rw[zY];omega) (by rw[zY];simp[maxLen];omega)
 have j:=h1.box.ext i h1.n3
 have d:∀b,s1.blk b->sl.blk b\/w.heap.size<=b:=fun b h=>(a b h).imp_right fun h=>Oh l.size
 have n:¬s1.blk k.block:=fun hh=>(d _ hh).elim h.n3 fun hh=>Oh h.box.lt
 have nm:¬s1.blk m:=fun hh=>(d _ hh).elim h.n5 fun hh=>Oh h.seen.lt
 have g:=Ext.setCell (w:=f) (k.add 3) s1.v
 rw[zG]at g
 refine⟨s1,f,hr,i,j,⟨j.set 3 s1.v,((h1.giv.ext i h.n6).ext g fun b a e=>h.n2<|e▸a),((h1.seen.ext i h.n5).ext g h.n1),by rw[show tmr (ks++[t])=tmr ks++[[vi t]] by simp[tmr]];exact s.ext g fun b a e=>n<|e▸a,h.n1,h.n2,n,h.n4,nm,fun b h1 h2=>(d b h2).elim (h.n6 b h1) fun hh=>Oh<|h.giv.lt h1⟩,?_,?_⟩
 exact((l.pure (F:=KF k sg m sl)).trans<|i.mono fun b _ a=>.inr<|.inr<|.inr a).trans (g.mono fun b _ a=>.inl a)
 rintro b (a|a|a|a)
 exact .inl<|.inl a
 exact .inl<|.inr<|.inl a
 exact .inl<|.inr<|.inr<|.inl a
 exact(d b a).imp_left fun h=>.inr<|.inr<|.inr h
end
def zAW(p w0):cl 43 #[vp<|some p] w0 (XD fun r w'=>∃k F,r=some k/\qC w' k p [] [] F/\Pure w0 w'/\∀b,F b->w0.heap.size<=b):=by
 refine w_H3 _ w0 (fun r w'=>∃k F,r=some k/\qC w' k p [] [] F/\Pure w0 w'/\∀b,F b->w0.heap.size<=b) ?_;refine Br.f rfl ?_;intro j g h1 p3 l h2;have e:Pure w0 g:=Ext.new h1;have i:Pure g l:=Ext.new h2;have c:∀b,¬Sl.nil.blk b:=fun b d=>by have⟨a,h,_⟩:=d;cases h
 refine⟨p3,_,rfl,⟨Sl.nil,j.block,Sl.nil,⟨Box.of_new h2,Rws.nil _ _ _,(IMap.of_new (f:=wayv) h1).pure i,Rws.nil _ _ _,?_,c _,c _,c _,c _,fun b d=>(c b d).elim⟩,fun b=>Iff.rfl⟩,e.trans i,?_⟩;have:=h1.at_size;have:=h2.at_size;have:=e.size;have:=(IMap.of_new (f:=wayv) h1).lt;omega;rintro b (rfl|d|rfl|d);have:=h2.at_size;have:=e.size;omega;exact(c b d).elim;have:=h1.at_size;omega;exact(c b d).elim
def jMA(k p t w0){G S F}(h:qC w0 k p G S F):
  cl 128 #[vp<|some k,vi t] w0<|XC fun r w'=>r=decide (t∈zH S)/\Pure w0 w':=by
 refine w_K3 _ _ w0 _ ?_
 unfold m_K3
 have⟨sg,m,sl,h,b⟩:=h
 have⟨r,f,h1,_⟩:=h.look t
 exact Br.f rfl ⟨k,rfl,_,h.box.cell rfl,r,f,_,h1,fun c a hs=>⟨rfl,hs.first⟩⟩
def jEI(k p w0){G S F}(h:qC w0 k p G S F)(b:G.length<=1000000):
  cl 68 #[vp<|some k] w0<|XA fun r w'=>RetO w0 73 1 (tmr G) r w':=by
 refine w_J3 _ w0 _ ?_
 unfold m_J3
 have⟨sg,m,sl,h,d⟩:=h
 refine Br.f rfl ⟨k,rfl,sg,h.box.cell rfl,?_⟩
 refine(zAI sg G w0 h.giv.lst (fun a=>?_) b).mono ?_
 rcases h.giv.own with⟨e,_⟩|⟨g,cur,c,_⟩
 exact e
 rw[c]at a;cases a
 grind
section
variable {w w':World} {k p:Addr} {G:List Int} {S:List Way} {F:NP}
end
def jEH(k p t rule u c1 c2 w0){G S F}(h:qC w0 k p G S F)(h1:w0.cell? c1=some (vp<|some k))(h2:w0.cell? c2=some (vi u))(d1:¬ F c1.block)(d2:¬ F c2.block)(R:S.length<=1000000):
  cl 181 #[vi t,vi rule,vp<|some c1,vp<|some c2] w0<|fun e w'=>e=.returned (.tuple #[])/\∃F',qC w' k p G (jBP S ⟨t,rule,u⟩) F'/\Ext F w0 w'/\∀b,F' b->F b\/w0.heap.size<=b:=by
 refine w_L3 _ _ _ _ w0 _ ?_
 unfold m_L3
 have Q:=h
 have⟨sg,m,sl,h,n⟩:=h
 have⟨r,f,P,_⟩:=h.look t
 refine⟨_,h1,k,rfl,_,h.box.cell rfl,r,f,_,P,fun y=>?_,fun y=>?_⟩
 .have i:t∉zH S:=by simpa using y
  have d:jBP S ⟨t,rule,u⟩=S++[⟨t,rule,u⟩]:=if_neg i
  rw[d]
  intro H z g
  have U:=g.first
  have hh:∀{b},b<w0.heap.size->¬H b:=fun c A=>Oh<|g.old _ A
  have l:Pure w0 z.drew:=U.trans<|Ext.drew z
  have s:∀a:World,Pure a a.drew:=fun a=>Ext.drew a
  have I:=World.block_lt_of_cell? w0 c1 h1
  refine⟨fun w'=>KnowS w' k p G S (zH S) sg m sl/\w'.cell? c1=some (vp<|some k)/\w'.cell? c2=some (vi u),⟨h.pure l,l.cell h1 fun h=>h,l.cell h2 fun h=>h⟩,?_⟩
  rintro _ rfl
  have h3:=h.pure l
  refine⟨_,fun w' h=>h.2.1,k,rfl,_,fun w' h=>h.1.box.cell rfl,_,fun w' h=>h.2.2,?_⟩
  have⟨a,C,N,o⟩:=h3.put (v:=⟨t,rule,u⟩) i
  refine⟨a,C,o.kept fun b c e=>by subst e;exact hh (h.lt<|.inr<|.inr<|.inl rfl) c,?_⟩
  have j:a.cell? c1=some (vp<|some k):=o.cell (l.cell h1 fun h=>h) fun e=>d1<|(n _).2<|.inr<|.inr<|.inl e
  have D:=N.pure<|Ext.drew a
  refine⟨fun w'=>w'.cell? c1=some (vp<|some k)/\Box w' k [vp<|some p,sg.v,.map<|some m,sl.v] 163,⟨(s a).cell j fun h=>h,D.box⟩,?_⟩
  rintro _ rfl
  refine⟨_,fun w' h=>h.1,_,fun w' h=>h.1,k,rfl,sl,fun w' h=>h.2.cell rfl,?_⟩
  intro q T K
  have w:Pure a.drew T:=Ext.new K
  refine⟨⟨w.cell ((s a).cell j fun h=>h) fun h=>h,D.box.pure w⟩,?_⟩
  have⟨s1,L,B,J,E,M,O,V⟩:=D.app K (by rw[yR];exact R)
  have x:L.cell? c1=some (vp<|some k):=J.cell (w.cell ((s a).cell j fun h=>h) fun h=>h) fun c=>d1<|(n _).2<|.inr<|.inr<|.inr c
  refine⟨s1,L,B,⟨x,E⟩,J.kept fun b c A=>hh (h.lt<|.inr<|.inr<|.inr A) c,k,rfl,E.canW Sm,by rw[zG];exact hh h.box.lt,?_⟩
  rintro _ rfl
  rw[<-show zH (S++[⟨t,rule,u⟩])=zH S++[t]from tC S ⟨t,rule,u⟩]at M
  have W:w0.heap.size<=a.drew.heap.size:=Nat.le_trans l.size<|Nat.le_trans o.size (s a).size
  refine⟨_,⟨sg,m,s1,M,fun b=>Iff.rfl⟩,?_,fun b c=>(V b c).imp (n b).2 fun h=>Om⟩
  refine((l.pure (F:=F)).trans<|o.mono fun b _ e=>(n b).2<|.inr<|.inr<|.inl e).trans (((Ext.drew a:Pure a a.drew).pure (F:=F)).trans<|O.mono fun b _ c=>(n b).2 c)
 .have i:t∈zH S:=by simpa using y
  have d:jBP S ⟨t,rule,u⟩=S:=if_pos i
  rw[d]
  intro H z g
  exact⟨F,Q.pure g.first,g.first.pure,fun b c=>.inl c⟩
structure SeesAt(w0:World)(H:NP)(w:World)(k p p1:Addr)(L:Pool)(G:List Int)(S:List Way)(F F0 FP:NP):Prop where
 know:qC w k p G S F
 pool:zD w p L FP
 cap:w.cell? p1=some (vp<|some k)
 ext:Ext F0 w0 w
 own:∀b,F b->F0 b\/w0.heap.size<=b
 h1:∀b,F b->¬H b
 h2:∀b,FP b->¬H b
 h3:¬H p1.block
 d1:¬F p1.block
 d2:∀b,F b->¬FP b
section
variable {w0 w w':World} {H H':NP} {k p p1:Addr} {L:Pool} {G:List Int} {S S':List Way} {F F' F0 FP:NP}
def SeesAt.pure(h:SeesAt w0 H w k p p1 L G S F F0 FP)(E:Pure w w'):SeesAt w0 H w' k p p1 L G S F F0 FP:=
 ⟨h.know.pure E,h.pool.pure E,E.cell h.cap fun h=>h,h.ext.thenPure E,h.own,h.h1,h.h2,h.h3,h.d1,h.d2⟩
def SeesAt.hst(h:SeesAt w0 H w k p p1 L G S F F0 FP)(hs:Hst w0 H w H' w'):SeesAt w0 H' w' k p p1 L G S F F0 FP:=by
 have e:=hs.disj (G:=F) fun b a=>⟨h.know.lt a,h.h1 b a⟩;have d:=hs.disj (G:=FP) fun b a=>⟨h.pool.lt a,h.h2 b a⟩;have c:=hs.disj (G:=(·=p1.block)) (fun b a=>by subst a;exact⟨World.block_lt_of_cell? w p1 h.cap,h.h3⟩) _ rfl;exact⟨h.know.ext hs.ext e,h.pool.ext hs.ext d,hs.ext.cell h.cap c,h.ext.trans' hs.ext fun i hi a=>Oh<|hs.old i a,h.own,e,d,c,h.d1,h.d2⟩
def SeesAt.fresh(h:SeesAt w0 H w k p p1 L G S F F0 FP){q}(E:Ext (·=q) w w')(q1:¬F q)(q2:¬FP q)(q3:q≠p1.block)(q4:w0.heap.size<=q):SeesAt w0 H w' k p p1 L G S F F0 FP:=
 ⟨h.know.ext E fun b a e=>q1<|e▸a,h.pool.ext E fun b a e=>q2<|e▸a,E.cell h.cap fun e=>q3 e.symm,h.ext.trans' E Gd,h.own,h.h1,h.h2,h.h3,h.d1,h.d2⟩
def SeesAt.step(h:SeesAt w0 H w k p p1 L G S F F0 FP)(f:∀b,H b->b<w.heap.size)(e:qC w' k p G S' F')(E:Ext F w w')(c:∀b,F' b->F b\/w.heap.size<=b):SeesAt w0 H w' k p p1 L G S' F' F0 FP:=by
 have a:=h.ext.size;refine⟨e,h.pool.ext E fun b a d=>h.d2 b d a,E.cell h.cap h.d1,h.ext.trans' E fun i hi d=>(h.own i d).elim id fun hh=>Om,fun b a=>?_,fun b a hh=>?_,h.h2,h.h3,fun hh=>?_,fun b a hh=>?_⟩;rcases c b a with h1|h1;exact h.own b h1;right;omega;rcases c b a with h1|h1;exact h.h1 b h1 hh;have:=f b hh;omega;rcases c _ hh with h1|h1;exact h.d1 h1;have:=World.block_lt_of_cell? w p1 h.cap;omega;rcases c b a with h1|h1;exact h.d2 b h1 hh;have:=h.pool.lt hh;omega
end
def jXG(k p t rule frm w0){L G S F FP}(h:qC w0 k p G S F)(hP:zD w0 p L FP)(hW:Wf L)(hd:∀b,F b->¬ FP b)(hwo:WaysOk L G S)(hcl:∀u∈zH S,jKR L S u)(ht:inP L t=true)(hv:jKX L G S ⟨t,rule,frm⟩):
  cl 134 #[vp<|some k,vi t,.agg #[vi rule,vi frm]] w0<|fun e w'=>e=.returned (.tuple #[])/\∃S' F',qC w' k p G S' F'/\(WaysOk L G S'/\(∀u∈zH S',jKR L S' u)/\t∈zH S'/\∀u∈zH S,u∈zH S')/\Ext F w0 w'/\∀b,F' b->F b\/w0.heap.size<=b:=by
 suffices key:∀K:WP,(∀S' F' w',qC w' k p G S' F'->(WaysOk L G S'/\(∀u∈zH S',jKR L S' u)/\t∈zH S'/\∀u∈zH S,u∈zH S')->Ext F w0 w'->(∀b,F' b->F b\/w0.heap.size<=b)->K w')->m_W (some k) t rule frm w0 K from
  w_W _ _ _ _ w0 _<|key _ fun S' F' w' a b c d=>⟨S',F',a,b,c,d⟩
 intro K hK
 intro p1 w1 h1 H1 w2 hs2
 have hp1:=h1.at_size
 have E1:Pure w0 w1:=Ext.new h1
 have nF:∀{b},F b->b<w0.heap.size:=fun l=>h.lt l
 have nP:∀{b},FP b->b<w0.heap.size:=fun l=>hP.lt l
 have A1:SeesAt w0 None w1 k p p1 L G S F F FP:=⟨h.pure E1,hP.pure E1,(Box.of_new h1).cell0,E1.pure,fun b l=>.inl l,fun b _ h=>h,fun b _ h=>h,fun h=>h,fun l=>Oh<|nF l,hd⟩
 have A2:=A1.hst hs2
 have⟨sg,m,sl,k2,J⟩:=A2.know
 have⟨r,f,hl,_⟩:=k2.look t
 refine⟨_,A2.cap,k,rfl,_,k2.box.cell rfl,r,f,_,hl,fun hc=>?_,fun hc=>?_⟩
 intro H2 Z hs4
 have A4:=A2.hst hs4
 exact hK S F Z A4.know ⟨hwo,hcl,by simpa using hc,fun _ h=>h⟩ A4.ext fun b l=>.inl l
 have hnt:t∉zH S:=by simpa using hc
 intro H2 Z hs4
 have A4:=A2.hst hs4
 have k4:KnowS Z k p G S (zH S) sg m sl:=k2.ext hs4.ext fun b l=>A4.h1 b<|(J b).2 l
 have D:∀w:World,Pure w w.drew:=fun w=>Ext.drew w
 refine⟨fun w'=>w'.cell? p1=some (vp<|some k)/\Box w' k [vp<|some p,sg.v,.map<|some m,sl.v] 163,⟨(A4.pure<|D Z).cap,(k4.pure<|D Z).box⟩,?_⟩
 rintro _ rfl
 have A5:=A4.pure<|D Z
 have k5:=k4.pure<|D Z
 have hs5:Hst w0 H2 Z.drew H2 Z.drew:=hs4.here.again (D Z).keptP
 refine⟨_,fun w' h=>h.1,k,rfl,_,fun w' h=>h.2.cell rfl,?_⟩
 have⟨w6,hr6,k6,E6⟩:=k5.put (v:=⟨t,rule,frm⟩) hnt
 have hm:¬H2 m:=A5.h1 m<|(J m).2<|.inr<|.inr<|.inl rfl
 refine⟨w6,hr6,E6.kept fun b l e=>hm<|e▸l,?_⟩
 have c16:w6.cell? p1=some (vp<|some k):=E6.cell A5.cap fun e=>A5.d1<|(J _).2<|.inr<|.inr<|.inl e
 refine⟨_,c16,k,rfl,sl,k6.box.cell rfl,?_⟩
 have k7:=k6.pure<|D w6
 have c17:w6.drew.cell? p1=some (vp<|some k):=(D w6).cell c16 fun h=>h
 refine⟨fun w'=>w'.cell? p1=some (vp<|some k)/\Box w' k [vp<|some p,sg.v,.map<|some m,sl.v] 163,⟨c17,k7.box⟩,?_⟩
 rintro _ rfl
 refine⟨_,fun w' h=>h.1,_,fun w' h=>h.1,k,rfl,sl,fun w' h=>h.2.cell rfl,?_⟩
 intro q w8 h8
 have E8:Pure w6.drew w8:=Ext.new h8
 refine⟨⟨E8.cell c17 fun h=>h,k7.box.pure E8⟩,?_⟩
 have hSn:S.length<=65536:=Oi hwo.few hW.ok.few
 have⟨s1,w9,hr9,X9,b9,k9,E9,f9⟩:=k7.app h8 (by rw[yR];omega)
 have c19:w9.cell? p1=some (vp<|some k):=X9.cell (E8.cell c17 fun h=>h) fun l=>A5.d1<|(J _).2<|.inr<|.inr<|.inr l
 have hH8:∀b,H2 b->b<Z.drew.heap.size:=hs5.lt
 refine⟨s1,w9,hr9,⟨c19,b9⟩,X9.kept fun b l hx=>A5.h1 b ((J b).2<|.inr<|.inr<|.inr hx) l,k,rfl,b9.canW Sm,by rw[zG];exact A5.h1 _<|(J _).2<|.inl rfl,?_⟩
 rintro _ rfl
 rw[<-show zH (S++[⟨t,rule,frm⟩])=zH S++[t]from tC S ⟨t,rule,frm⟩]at k9
 have E59:Ext F Z.drew (w9.setCell (k.add 3) s1.v):=(E6.mono fun b _ e=>(J b).2<|.inr<|.inr<|.inl e).trans<|((D w6).pure (F:=F)).trans<|E9.mono fun b _ l=>(J b).2 l
 have z6:Z.drew.heap.size<=w6.drew.heap.size:=Nat.le_trans E6.size (D w6).size
 have A10:SeesAt w0 H2 (w9.setCell (k.add 3) s1.v) k p p1 L G (S++[⟨t,rule,frm⟩]) (KF k sg m s1) F FP:=A5.step hH8 ⟨sg,m,s1,k9,fun b=>Iff.rfl⟩ E59 fun b l=>(f9 b l).imp (J b).2 fun h=>Om
 have hw1:WaysOk L G (S++[⟨t,rule,frm⟩]):=hwo.snoc hnt ht hv
 have hl2:sl.len=S.length:=by rw[k2.list.len,zY,yR]
 refine⟨fun i H w'=>∃(j:Nat) (g:List Way) (W:NP),i=j/\j<=g.length/\SeesAt w0 H w' k p p1 L G g W F FP/\WaysOk L G g/\(∀u∈zH (g.take j),jKR L g u)/\t∈zH g/\∀u∈zH S,u∈zH g,fun i _=>((L.length:Int)-i).toNat,
  ⟨S.length,_,_,by rw[hl2],Sm,A10,hw1,fun u hu=>by rw[take_left]at hu;exact(hcl u hu).snoc,by rw[tC];simp,fun u hu=>by rw[tC];exact mem_append_left _ hu⟩,?_⟩
 rintro _ Q wl hl ⟨j,g,W,rfl,hj,A,Y,hcj,htj,hSj⟩
 unfold m_W_l1
 have⟨tg,mj,tl,kj,hFj⟩:=A.know
 have hlj:tl.len=g.length:=by rw[kj.list.len,zY,yR]
 refine⟨_,A.cap,k,rfl,tl,kj.box.cell rfl,fun hc=>?_,fun hc=>?_⟩
 have hlt:=vR hlj hc
 have⟨a8,at8,_,c8⟩:=uQ kj.list.lst (j:=j) (by rw[yR];exact hlt)
 have hu:(zH g)[j]'(by rw[yR];exact hlt)=g[j].t:=by simp[zH]
 rw[hu]at c8
 have hum:g[j].t∈zH g:=mem_map.2 ⟨_,getElem_mem hlt,rfl⟩
 have hui:=Y.inp _ hum
 have hLn:g.length<=L.length:=Y.few
 have hL6:=hW.ok.few
 have htk:zH (g.take<|j+1)=zH (g.take j)++[g[j].t]:=by rw[take_succ_eq_append_getElem hlt,tC]
 generalize g[j].t=u at *
 refine⟨_,A.cap,k,rfl,tl,kj.box.cell rfl,a8,at8,u,c8,?_⟩
 intro P U h11
 have hp5:=h11.at_size
 have E11:Pure wl U:=Ext.new h11
 have b5:=Box.of_new h11
 have hnh5:¬Q P.block:=fun hh=>Oh<|hl.lt _ hh
 refine⟨b5.canW0 Sm,hnh5,?_⟩
 rintro _ rfl
 have b12:=b5.set0 (v:=vi u)
 have E12:=Ext.setCell (w:=U) P<|vi u
 have wl0:=A.ext.size
 have n5:¬W P.block:=fun hh=>Oh<|A.know.lt hh
 have n5p:¬FP P.block:=fun hh=>Oh<|A.pool.lt hh
 have n51:P.block≠p1.block:=fun hh=>Oh<|World.block_lt_of_cell? wl p1 A.cap
 have A12:SeesAt w0 Q (U.setCell P<|vi u) k p p1 L G g W F FP:=(A.pure E11).fresh E12 n5 n5p n51 Om
 have k12:KnowS (U.setCell P<|vi u) k p G g (zH g) tg mj tl:=(kj.pure E11).ext E12 fun b l e=>n5<|e▸(hFj b).2 l
 have hl12:Hst w0 Q (U.setCell P<|vi u) Q (U.setCell P<|vi u):=(hl.again E11.keptP).again<|E12.kept fun b l e=>hnh5<|e▸l
 generalize U.setCell P (vi u)=B at *
 clear E11 E12 h11
 refine⟨fun w'=>w'.cell? p1=some (vp<|some k)/\Box w' k [vp<|some p,tg.v,.map<|some mj,tl.v] 163/\Box w' P [vi u] 73,⟨(A12.pure<|D B).cap,(k12.pure<|D B).box,b12.pure<|D B⟩,?_⟩
 rintro _ rfl
 have o:=A12.pure<|D B
 have C:=b12.pure<|D B
 have T:=k12.pure<|D B
 have hs17:Hst w0 Q B.drew Q B.drew:=hl12.again (D B).keptP
 generalize E:nodeOf L u=n at *
 have J2 : ∀ (a9 : Addr) (w : World), Hst w0 Q w Q w -> SeesAt w0 Q w k p p1 L G g W F FP -> w.cell? P = some (vi u) -> Row w a9 (oO n) -> ¬ W a9.block -> ¬ Q a9.block ->
   m_W_j2 p1 j P a9 w0 Q w (fun y'0 H' w'=>(∃(j:Nat) (g:List Way) (W:NP),y'0=j/\j<=g.length/\SeesAt w0 H' w' k p p1 L G g W F FP/\WaysOk L G g/\(∀u∈zH (g.take j),jKR L g u)/\t∈zH g/\∀u∈zH S,u∈zH g)/\((L.length:Int)-y'0).toNat<((L.length:Int)-(j:Int)).toNat) K:=by
  intro a9 w hs Aw c5 r9 n9 nh9
  have fin : ∀ (H' : NP) (w' : World) (S' : List Way) (F' : NP), SeesAt w0 H' w' k p p1 L G S' F' F FP -> WaysOk L G S' -> (∃ M, S' = g ++ M) -> jKR L S' u ->
    ((∃(j':Nat) (g:List Way) (W:NP),IntKind.i64.wrap ((j:Int)+1)=j'/\j'<=g.length/\SeesAt w0 H' w' k p p1 L G g W F FP/\WaysOk L G g/\(∀u∈zH (g.take j'),jKR L g u)/\t∈zH g/\∀u∈zH S,u∈zH g)/\((L.length:Int)-IntKind.i64.wrap ((j:Int)+1)).toNat<((L.length:Int)-(j:Int)).toNat):=by
   rintro H' w' S' F' A' hw' ⟨M,rfl⟩ hsh
   have hsub:∀x∈zH g,x∈zH (g++M):=fun x hx=>by unfold zH at hx|-;rw[map_append];exact mem_append_left _ hx
   rw[zQ (n:=L.length) Om Om]
   refine⟨⟨j+1,_,F',rfl,by rw[length_append];omega,A',hw',fun x hx=>?_,hsub t htj,fun x hx=>hsub x<|hSj x hx⟩,uR Om⟩
   rw[take_append_of_le_length Om,htk,mem_append,mem_singleton]at hx
   rcases hx with hx|rfl
   exact fun r y ha=>hsub y<|hcj x hx r y ha
   exact hsh
  unfold m_W_j2
  have ck:w.cell? a9=some (vi n.kind):=by simpa[Addr.add,oO]using r9 0 (by simp[oO])
  have ca:w.cell? (a9.add 5)=some (vi n.a):=r9 5 (by simp[oO])
  have cb:w.cell? (a9.add 6)=some (vi n.b):=r9 6 (by simp[oO])
  refine⟨_,ck,fun hk=>?_,fun hk=>?_⟩
  have N:n.kind=4:=by simpa using hk
  have z:=jPD hW hui (by rw[E];exact N)
  rw[E]at z
  refine⟨_,ca,?_⟩
  refine(jEH k p n.a 1 u p1 P w Aw.know Aw.cap c5 Aw.d1 (fun hh=>n5 hh) Om).mono ?_
  rintro _ w13 ⟨rfl,F1,K1,X1,f1⟩
  have A1:=Aw.step hs.lt K1 X1 f1
  have hs13:=hs.again<|X1.kept fun b l hf=>Aw.h1 b hf l
  refine⟨rfl,X1.kept fun b l hf=>Aw.h1 b hf l,n.b,X1.cell cb (by rw[zG];exact n9),?_⟩
  have a1:oN L 1 u n.a:=.inl ⟨rfl,by rw[E];exact N,by rw[E]⟩
  have a2:oN L 2 u n.b:=.inr<|.inl ⟨rfl,by rw[E];exact N,by rw[E]⟩
  have hw1:=Y.add (v:=⟨n.a,1,u⟩) z.1.1<|.inr ⟨Sm,a1,hum⟩
  have u1:=(tN g ⟨n.a,1,u⟩).2 u hum
  have hw2:=hw1.add (v:=⟨n.b,2,u⟩) z.2.1<|.inr ⟨Sm,a2,u1⟩
  have p5lt:=World.block_lt_of_cell? w P c5
  have m5:¬F1 P.block:=fun hh=>(f1 _ hh).elim n5 fun hx=>Om
  refine(jEH k p n.b 2 u p1 P w13 A1.know A1.cap (X1.cell c5 n5) A1.d1 m5<|Oh hw1.few).mono ?_
  rintro _ w14 ⟨rfl,F2,K2,X2,f2⟩
  have A2:=A1.step hs13.lt K2 X2 f2
  refine⟨rfl,X2.kept fun b l hf=>A1.h1 b hf l,?_⟩
  refine fin Q w14 _ F2 A2 hw2 ?_ ?_
  have⟨M1,e1⟩:=jEL g ⟨n.a,1,u⟩
  have⟨M2,e2⟩:=jEL (jBP g ⟨n.a,1,u⟩) ⟨n.b,2,u⟩
  exact⟨M1++M2,by rw[e2,e1,append_assoc]⟩
  rintro r y (⟨_,_,h3⟩|⟨_,_,h3⟩|⟨_,h2,_⟩)
  rw[E]at h3;subst h3
  exact(tN _ ⟨n.b,2,u⟩).2 _ (tN g ⟨n.a,1,u⟩).1
  rw[E]at h3;subst h3
  exact(tN _ ⟨n.b,2,u⟩).1
  rw[E,N]at h2;cases h2
  have N:n.kind≠4:=by simpa using hk
  rintro y1 rfl
  have hy:(cond ((n.kind:Int)==7) ((n.kind:Int)==7)<|cond ((n.kind:Int)==8) ((n.kind:Int)==8)<|(n.kind:Int)==9)=qO n.kind:=by
   unfold qO;cases h7:(n.kind==7)<;>cases h8:(n.kind==8)<;>simp
  rw[hy]
  refine⟨fun hs7=>?_,fun hs7=>?_⟩
  intro H3 w15 I
  have A15:=Aw.hst I
  have z:=jWK hW hui (by rw[E];exact hs7)
  rw[E]at z
  have r15:=jMQ r9 nh9 I
  have ca15:w15.cell? (a9.add 5)=some (vi n.a):=r15 5 Sm
  have c515:=jDB c5 hnh5 I
  refine⟨n.a,ca15,?_⟩
  refine(jEH k p n.a 3 u p1 P w15 A15.know A15.cap c515 A15.d1 n5 Om).mono ?_
  rintro _ w16 ⟨rfl,F1,K1,X1,f1⟩
  have A1:=A15.step I.lt K1 X1 f1
  refine⟨rfl,X1.kept fun b l hf=>A15.h1 b hf l,?_⟩
  have a3:oN L 3 u n.a:=.inr<|.inr ⟨rfl,by rw[E];exact hs7,by rw[E]⟩
  refine fin H3 w16 _ F1 A1 (Y.add (v:=⟨n.a,3,u⟩) z.1<|.inr ⟨Sm,a3,hum⟩) (jEL g ⟨n.a,3,u⟩) ?_
  rintro r y (⟨_,h2,_⟩|⟨_,h2,_⟩|⟨_,_,h3⟩)
  rw[E]at h2;exact absurd h2 N
  rw[E]at h2;exact absurd h2 N
  rw[E]at h3;subst h3
  exact(tN g ⟨n.a,3,u⟩).1
  intro H3 w15 I
  refine fin H3 w15 g W (Aw.hst I) Y ⟨[],Sm⟩ ?_
  rintro r y (⟨_,h2,_⟩|⟨_,h2,_⟩|⟨_,h2,_⟩)
  rw[E]at h2;exact absurd h2 N
  rw[E]at h2;exact absurd h2 N
  rw[E,hs7]at h2;cases h2
 refine⟨_,fun w' h=>h.1,k,rfl,_,fun w' h=>h.2.1.cell0,_,fun w' h=>h.2.2.cell0,?_,?_⟩
 refine(jDK p u B.drew o.pool hW.ok).mono ?_
 rintro _ w18 ⟨nk,nf,nt,nu,nx,na,nb,ok,rfl,⟨hnn,_⟩,X⟩
 rw[E]at hnn
 refine⟨_,_,_,_,_,_,_,_,rfl,⟨(o.pure X).cap,T.box.pure X,C.pure X⟩,X.keptP,?_⟩
 intro p6 w19 h19
 have hp6:=h19.at_size
 have s:=X.trans<|Ext.new h19
 have b6:=Box.of_new h19
 have z18:=X.size
 have z12:wl.heap.size<=B.drew.heap.size:=Oh<|C.lt
 have V:¬Q p6.block:=fun hh=>Oh<|hl.lt _ hh
 refine⟨⟨(o.pure s).cap,T.box.pure s,C.pure s⟩,b6.canWs (n:=7) Sm,V,?_⟩
 rintro _ rfl
 have O:=Ext.storeRow w19 p6 [(vi nk),(vi nf),(vi nt),(vu nu),(vs nx),(vi na),(vi nb)]
 have b20:=b6.store (vs:=[(vi nk),(vi nf),(vi nt),(vu nu),(vs nx),(vi na),(vi nb)]) rfl
 have A19:=o.pure s
 have n6:¬W p6.block:=fun hh=>Oh<|o.know.lt hh
 have A20:=A19.fresh O n6 (fun hh=>Oh<|o.pool.lt hh) (fun hh=>Oh<|World.block_lt_of_cell? _ p1 o.cap)<|Oh o.ext.size
 have k20:=(T.box.pure s).ext O fun e=>Oh T.box.lt
 have R:=(C.pure s).ext O fun e=>Oh C.lt
 have hs20:Hst w0 Q _ Q _:=(hs17.again s.keptP).again<|O.kept fun b l e=>V<|e▸l
 exact⟨⟨A20.cap,k20,R⟩,J2 p6 _ hs20 A20 R.cell0 (by rw[<-hnn];exact b20.row) n6 V⟩
 intro p7 w21 h21
 have hp6:=h21.at_size
 have E21:Pure B.drew w21:=Ext.new h21
 have b7:=Box.of_new h21
 refine⟨⟨(o.pure E21).cap,T.box.pure E21,C.pure E21⟩,?_⟩
 refine(jDK p u w21 (o.pure E21).pool hW.ok).mono ?_
 rintro _ w22 ⟨nk,nf,nt,nu,nx,na,nb,ok,rfl,⟨hnn,_⟩,E22⟩
 rw[E]at hnn
 have s:=E21.trans E22
 have z12:wl.heap.size<=B.drew.heap.size:=Oh<|C.lt
 have V:¬Q p7.block:=fun hh=>Oh<|hl.lt _ hh
 have b6:=b7.pure E22
 refine⟨_,_,_,_,_,_,_,_,rfl,⟨(o.pure s).cap,T.box.pure s,C.pure s⟩,E22.keptP,b6.canWs (n:=7) Sm,V,?_⟩
 rintro _ rfl
 have O:=Ext.storeRow w22 p7 [(vi nk),(vi nf),(vi nt),(vu nu),(vs nx),(vi na),(vi nb)]
 have b20:=b6.store (vs:=[(vi nk),(vi nf),(vi nt),(vu nu),(vs nx),(vi na),(vi nb)]) rfl
 have A19:=o.pure s
 have n6:¬W p7.block:=fun hh=>Oh<|o.know.lt hh
 have A20:=A19.fresh O n6 (fun hh=>Oh<|o.pool.lt hh) (fun hh=>Oh<|World.block_lt_of_cell? _ p1 o.cap)<|Oh o.ext.size
 have k20:=(T.box.pure s).ext O fun e=>Oh T.box.lt
 have R:=(C.pure s).ext O fun e=>Oh C.lt
 have hs20:Hst w0 Q _ Q _:=(hs17.again s.keptP).again<|O.kept fun b l e=>V<|e▸l
 exact⟨⟨A20.cap,k20,R⟩,J2 p7 _ hs20 A20 R.cell0 (by rw[<-hnn];exact b20.row) n6 V⟩
 have hge:=yI hlj hj hc
 subst hge
 rw[take_length]at hcj
 exact hK g W wl A.know ⟨Y,hcj,htj,hSj⟩ A.ext A.own
def jTT(p k w)(a:k=0\/k=1\/k=2):(Instr.sliceAt 46 (Sl.mk (some p) 2 2).v .none (some<|vi k) .none).run prog w=.ok (Sl.mk (some p) k.toNat 2).v w:=by
 rcases a with rfl|rfl|rfl<;>kernel_rfl
def zIC(p k f t u x a b w){L F}(hP:zD w p L F)(o:Ok L):
  cl 180 #[vp<|some p,.agg #[vi k,vi f,vi t,vu u,vs x,vi a,vi b]] w
   (XJ fun r1 r2 r3 w'=>(r1,r2,r3)=check L ⟨k,f,t,u,x,a,b⟩/\Pure w w'):=by
 suffices key:∀K:Int->Int->Int->WP,(∀r1 r2 r3 w',(r1,r2,r3)=check L ⟨k,f,t,u,x,a,b⟩/\Pure w w'->K r1 r2 r3 w')->m_E (some p) k f t u x a b w K from
  w_E _ _ _ _ _ _ _ _ w _<|key _ fun _ _ _ _ h=>h
 intro K Z
 intro M w1 h1
 have b1:=Box.of_new h1
 have E1:Pure w w1:=Ext.new h1
 refine⟨_,_,_,_,_,_,_,b1.row,?_⟩
 refine(zAQ _ _ _ _ _ _ _ _).mono ?_
 rintro _ w2 ⟨s1,s2,s3,s4,g,pe,rfl,⟨hs,s⟩,Y⟩
 refine⟨_,_,_,_,_,_,rfl,?_⟩
 intro p3 w3 h3
 have b2:=(b1.pure Y).pure<|Ext.new h3
 have n23:M.block≠p3.block:=New.ne h3 (b1.pure Y).blk
 have E3:Pure w w3:=(E1.trans Y).trans<|Ext.new h3
 have o3:=New.own (E1.trans Y) h3
 refine bx 5 (Box.of_new h3) rfl rfl fun G b3 E=>?_
 have b2:=b2.ext E n23
 have E4:Pure w G:=E3.own o3 E
 clear E E3 Y E1 b1 h1 h3
 have m:shapeOf k=⟨s1,s2,s3,s4,g⟩:=hs.symm
 have U:g=0\/g=1\/g=2:=by have:=qX k;rw[m]at this;exact this
 generalize hn:(⟨k,f,t,u,x,a,b⟩:Node)=n at *
 have A:n.kind=k:=by rw[<-hn]
 have v:n.a=a:=by rw[<-hn]
 have z:n.b=b:=by rw[<-hn]
 have J2:∀R w',Pure G w'->(R≠0->check L n=(0,0,R))->(R=0->pe=0/\((decide (g<1)&&a !=0) ||(decide (g<2)&&b !=0))=false/\zM ⟨s1,s2,s3,s4,g⟩ n=0)->m_E_j2 (some p) M p3 R w' K:=by
  intro R w' E' D H;have b2:=b2.pure E';have b3:=b3.pure E';have E5:=E4.trans E';have hP':=hP.pure E5;refine⟨fun h=>Z _ _ _ _ ⟨(D<|by simpa using h).symm,E5⟩,fun h=>⟨_,b2.cell rfl,_,b2.cell rfl,?_⟩⟩;intro p4 P r;have⟨i,B,hf0⟩:=H (by simpa using h);have b4:=Box.of_new r;have S:=E5.trans<|Ext.new r;have N:=hP.pure S;refine⟨_,(b3.pure<|Ext.new r).cell rfl,_,jTT p4 g P U,?_⟩;have X:zB n=[a,b].take g.toNat:=by simp[zB,A,m,v,z]
  have hlen:(zB n).length=g.toNat:=by rw[X];rcases U with rfl|rfl|rfl<;>rfl
  have hget:∀j (hj:j<(zB n).length),P.cell? (p4.add<|j*1)=some (vi (zB n)[j]):=by
   intro j hj;have hj2:j<g.toNat:=Om;have:(zB n)[j]=[a,b][j]' So:=by simp only[X,getElem_take]
   rw[this,Nat.mul_one];refine b4.cell ?_;have h2:j=0\/j=1:=Om;rcases h2 with rfl|rfl<;>rfl
  have I:check L n=if(zB n).any (fun t=>!inP L t)then(0,0,51)else if 1+((zB n).map<|sizeOf L).sum>4096\/(zB n).foldl (fun d t=>max d<|depthOf L t) 0+1>64 then(0,0,52)else(1+((zB n).map<|sizeOf L).sum,(zB n).foldl (fun d t=>max d<|depthOf L t) 0+1,0):=by
   unfold check;simp only[A,m,v,z,<-s,i,B,hf0];simp
  generalize hkk:zB n=c at *;have hl2:c.length<=2:=Om;have T:∀j,0<=((c.take j).map<|sizeOf L).sum/\((c.take j).map<|sizeOf L).sum<=4096*(c.take j).length:=by
   intro j;generalize c.take j=l;induction l with
   |nil=>simp
   |cons y l ih=>have:=o.sizeOf y;simp only[map_cons,sum_cons,length_cons];omega
  have V:∀(l:List Int) (d:Int),0<=d->d<=64->0<=l.foldl (fun d t=>max d<|depthOf L t) d/\l.foldl (fun d t=>max d<|depthOf L t) d<=64:=by
   intro l;induction l with
   |nil=>intro d h1 h2;exact⟨h1,h2⟩
   |cons y l ih=>intro d h1 h2;have:=o.depthOf y;exact ih (max d<|depthOf L y) Om Om
  refine⟨fun sz d x w'=>∃j:Nat,x=j/\j<=c.length/\sz=1+((c.take j).map<|sizeOf L).sum/\d=(c.take j).foldl (fun d t=>max d<|depthOf L t) 0/\(c.take j).any (fun t=>!inP L t)=false/\P=w',fun _ _ x _=>(2-x).toNat,⟨0,rfl,Nat.zero_le _,Sm,Sm,Sm,rfl⟩,?_⟩;rintro sz d _ _ ⟨j,rfl,hj,rfl,rfl,hin,rfl⟩;unfold m_E_l3;have hs1:=T j;have hd1:=V (c.take j) 0 Om Om;have htl:(c.take j).length<=2:=by rw[length_take];omega
  refine⟨fun h=>?_,fun h=>?_⟩;have q:j<c.length:=by have h:=of_decide_eq_true h;simp only at h;omega
  refine⟨p4.add<|j*1,⟨Om,of_decide_eq_true h,p4,rfl,Sm⟩,c[j],hget j q,?_⟩;have htk:c.take (j+1)=c.take j++[c[j]]:=take_succ_eq_append_getElem q;refine(c_in p _ P N).mono ?_;rintro _ _ ⟨_,rfl,rfl,rfl⟩;refine⟨_,rfl,fun h=>?_,fun h=>?_⟩;refine Z _ _ _ _ ⟨?_,S⟩;rw[I,if_pos];exact any_eq_true.2 ⟨c[j],getElem_mem q,h⟩;refine(c_Size p _ P N o).mono ?_;rintro _ _ ⟨_,rfl,rfl,rfl⟩;refine⟨_,rfl,?_⟩;refine(zIE p _ P N o).mono ?_;rintro _ _ ⟨_,rfl,rfl,rfl⟩;refine⟨_,rfl,_,run_max_int2 _ _ _ _ _ _ _,⟨j+1,?_,q,?_,?_,?_,rfl⟩,?_⟩;rw[i64 Om Om];omega;have:=o.sizeOf c[j];rw[i64 Om Om,htk,map_append,sum_append];simp only[map_cons,map_nil,sum_cons,sum_nil];omega;grind;grind;show(2-IntKind.i64.wrap ((j:Int)+1)).toNat<(2-(j:Int)).toNat;rw[i64 Om Om];omega;have hge:j=c.length:=by have h:=of_decide_eq_false h;simp only at h;omega
  subst hge;rw[take_length]at hs1 hd1 hin|-;have q:(c.length:Int)<=2:=Om;refine⟨fun h=>Z _ _ _ _ ⟨?_,S⟩,fun h=>?_⟩;grind;rw[i64 Om Om];refine⟨fun h'=>Z _ _ _ _ ⟨?_,S⟩,fun h'=>Z _ _ _ _ ⟨?_,S⟩⟩;grind;grind
 have J1:∀Q,(Q≠0->check L n=(0,0,Q))->(Q=0->pe=0/\((decide (g<1)&&a !=0) ||(decide (g<2)&&b !=0))=false)->m_E_j1 (some p) M p3 Q G K:=by
  intro Q D H;refine⟨fun h=>⟨_,_,_,_,_,b3.row,_,_,_,_,_,_,_,b2.row,?_⟩,fun h=>J2 _ _ (Ext.refl _) D Gd⟩;have⟨i,B⟩:=H (by simpa using h);refine(jUV _ _ _ _ _ _ _ _ _ _ _ _ _).mono ?_;rintro _ w9 ⟨_,rfl,rfl,E9⟩;rw[hn];refine⟨_,rfl,J2 _ _ E9 (fun hf=>?_) fun hf=>⟨i,B,hf⟩⟩;unfold check;simp only[A,m,v,z,<-s,i,B];simp[hf]
 have C:pe=0->((decide (g<1)&&a !=0) ||(decide (g<2)&&b !=0))=true->m_E_j1 (some p) M p3 53 G K:=fun i hc=>J1 53 (fun _=>by
  unfold check;simp only[A,m,v,z,<-s,i,hc];simp) (fun e=>by cases e)
 have O:pe≠0->m_E_j1 (some p) M p3 pe G K:=fun hp=>J1 pe (fun _=>by
  unfold check;simp only[<-s];rw[if_pos hp]) fun e=>absurd e hp
 have J5:∀J x3,J=(decide (g<1)&&a !=0)->x3=(decide (g<2)&&b !=0)->m_E_j5 (some p) M pe p3 J x3 G K:=by
  intro J x3 h2 h3;refine⟨fun h=>⟨fun W=>C (by simpa using h) (by rw[<-h2,W];rfl),fun W=>⟨fun hy=>C (by simpa using h) (by rw[<-h2,<-h3,hy];simp),fun hy=>J1 pe Gd Gd⟩⟩,fun h=>O<|by simpa using h⟩
 have J4:∀J,J=(decide (g<1)&&a !=0)->m_E_j4 (some p) M pe p3 J G K:=by
  intro J h2;refine⟨fun h=>⟨fun W=>C (by simpa using h) (by rw[<-h2,W];rfl),fun W=>⟨_,b3.cell rfl,fun r=>⟨_,b2.cell rfl,J5 _ _ h2 (by rw[r];rfl)⟩,fun r=>J5 _ _ h2 (by rw[r];rfl)⟩⟩,fun h=>O<|by simpa using h⟩
 exact⟨fun h=>⟨_,b3.cell rfl,fun r=>⟨_,b2.cell rfl,J4 _ (by rw[r];rfl)⟩,fun r=>J4 _ (by rw[r];rfl)⟩,fun h=>O<|by simpa using h⟩
end Go.Proofs
end
section
open Go Go.SE
namespace Go.Proofs
open Tryz
attribute [local irreducible] Calls
def jRJ(v:Value):Prop:=∃n,v=jHL n
def jMX{n n'}:jHL n=jHL n'↔n=n':=by
 constructor;intro h;cases n;cases n';simp[jHL,oO]at h;simp[h];rintro rfl;rfl
def jMO(n):Instr.sameBits 10000 (jHL n) (jHL n)=true:=by
 have h:∀d,Instr.sameBits (d+1) (jHL n) (jHL n)=true:=fun d=>by
  have e:(n.text==n.text)=true:=by rw[beq_toListBytes];simp
  cases d<;>simp[Instr.sameBits,jHL,oO,e]
 exact h 9999
def jCY:KeyOK prog 119 jRJ:=by
 refine KeyOK.of_struct underlying119 ?_ ?_ ?_
 .rintro _ ⟨n,rfl⟩ d w;kernel_rfl
 .rintro _ _ w ⟨n,rfl⟩ ⟨c,rfl⟩;refine⟨decide (n=c),?_,by simp only[jMX,decide_eq_true_eq];exact eq_comm⟩;have⟨k,f,t,u,x,a,b⟩:=n;have⟨k',e,i,h,l,j,g⟩:=c;simp[Op.equal,Op.maxDepth,go_sem,zBS,jHL,oO]
  repeat' split
  all_goals simp_all
 .rintro _ ⟨n,rfl⟩;exact jMO n
def jIX:SlType prog 158 248 9 (16*5):=by
 refine⟨underlying158,⟨t248,_,Kf,(by kernel_rfl:t248.zero=some (.agg #[vi 0,vi 0,vi 0,vu 0,vs ⟨#[]⟩,vi 0,vi 0,vi 0,vi 0])),Kf,Kf,rfl⟩,Om⟩
def jUA{L}{i:Nat}{n v}(h:(jBD L)[i]?=some (jHL n,v)):∃e,L[i]?=some e/\e.node=n/\v=vi (i+1:Nat):=by
 simp only[jBD,List.getElem?_map,List.getElem?_zipIdx,Option.map_map,Option.map_eq_some_iff]at h;have⟨e,a,h⟩:=h;simp only[Function.comp,Prod.mk.injEq]at h;exact⟨e,a,jMX.1 h.1,by rw[<-h.2];simp⟩
def jTZ{L n}(h:∀q∈jBD L,q.1≠jHL n):∀e∈L,e.node≠n:=by
 intro e b a;obtain⟨i,hi,rfl⟩:=List.mem_iff_getElem.1 b;refine h (jHL L[i].node,vi (i+1:Nat)) ?_ (by rw[a]);exact List.mem_map.2 ⟨(L[i],i),by rw[List.mem_zipIdx_iff_getElem?];simp[hi],rfl⟩
def jFE{L}:∀q∈jBD L,jRJ q.1:=by
 intro q a;obtain⟨x,_,rfl⟩:=List.mem_map.1 a;exact⟨_,rfl⟩
def jYX(L)(e:Ent):jBD (L++[e])=jBD L++[(jHL e.node,vi (L.length+1:Nat))]:=by
 simp[jBD,List.zipIdx_append]
def jNG{L}(a:Ok L){i}{e:Ent}(h:L[i]?=some e):find L e.node=some i:=by
 obtain⟨hi,rfl⟩:=List.getElem?_eq_some_iff.1 h;unfold find;rw[List.findIdx?_eq_some_iff_getElem];refine⟨hi,Sm,fun j c=>?_⟩;have b:=a.nodup;simp only[decide_eq_true_eq];intro e;exact List.pairwise_iff_getElem.1 b j i So (by simpa using hi) c (by simpa using e)
def find_none{L n}(h:∀e∈L,e.node≠n):find L n=none:=by
 unfold find;rw[List.findIdx?_eq_none_iff];intro e a;simpa using h e a
def jBN(p:Addr)(k f t u:Int)(x:ByteArray)(a b:Int)(w:World){L:Pool}{F:NP}(hP:zD w p L F)(hok:Ok L):
  cl 132 #[vp<|some p,.agg #[vi k,vi f,vi t,vu u,vs x,vi a,vi b]] w
   (XH fun r1 r2 w'=>(r1,r2)=((make L ⟨k,f,t,u,x,a,b⟩).1,(make L ⟨k,f,t,u,x,a,b⟩).2.1)/\∃F',zD w' p (make L ⟨k,f,t,u,x,a,b⟩).2.2 F'/\Ext F w w'/\∀b,F' b->F b\/w.heap.size<=b):=by
 suffices key:∀K:Int->Int->WP,(∀r1 r2 w',((r1,r2)=((make L ⟨k,f,t,u,x,a,b⟩).1,(make L ⟨k,f,t,u,x,a,b⟩).2.1)/\∃F',zD w' p (make L ⟨k,f,t,u,x,a,b⟩).2.2 F'/\Ext F w w'/\∀b,F' b->F b\/w.heap.size<=b)->K r1 r2 w')->m_T2 (some p) k f t u x a b w K from
  w_T2 _ _ _ _ _ _ _ _ w _<|key _ fun _ _ _ h=>h
 intro K hK
 intro p2 w1 h1
 have b1:=Box.of_new h1
 have E1:Pure w w1:=Ext.new h1
 have o2:¬F p2.block:=fun h=>Oi (hP.lt h) h1.at_size
 refine Br.f rfl ⟨_,_,_,_,_,_,_,b1.row,?_⟩
 refine(zIC p k f t u x a b w1 (hP.pure E1) hok).mono ?_
 rintro _ w2 ⟨sz,dp,er,rfl,A,E2⟩
 refine⟨_,_,_,rfl,?_⟩
 generalize B:(⟨k,f,t,u,x,a,b⟩:Node)=n at *
 have E3:Pure w w2:=E1.trans E2
 have G:∀w',Pure w w'->∃F',zD w' p L F'/\Ext F w w'/\∀b,F' b->F b\/w.heap.size<=b:=fun w' E=>⟨F,hP.pure E,E.pure,fun _ h=>.inl h⟩
 refine⟨fun h=>hK _ _ _ ?_,fun h=>?_⟩
 have he:er≠0:=by simpa using h
 have:make L n=(0,er,L):=by unfold make;simp[<-A,he]
 rw[this];exact⟨rfl,G _ E3⟩
 have he:er=0:=by simpa using h
 subst he
 intro Y O
 have Z:Pure w Y:=by rw[O];exact E3.trans<|Ext.drew w2
 have b3:=(b1.pure E2).pure (show Pure w2 Y by rw[O];exact Ext.drew w2)
 clear O
 have⟨s,m,hS,hF⟩:=hP.pure Z
 refine⟨p,rfl,_,hS.box.cell (i:=1) rfl,_,_,_,_,_,_,_,b3.row,?_⟩
 have D:(Value.agg #[vi k,vi f,vi t,vu u,vs x,vi a,vi b])=jHL n:=by rw[<-B];rfl
 simp only[D]
 rcases hS.map.lookup (P:=prog) (T:=157) (E:=73) underlying157 jCY jFE ⟨n,rfl⟩ (zeroValue73 _) true with⟨C,o⟩|⟨i,v,hi,o⟩
 refine⟨_,_,o,Br.f rfl ⟨p,rfl,s,hS.box.cell0,?_⟩⟩
 have hno:=jTZ C
 have hfn:=find_none hno
 have hlen:(s.len:Int)=L.length:=by rw[hS.rows.len];simp
 refine⟨fun h=>hK _ _ _ ?_,fun h=>?_⟩
 have h2:65536<=L.length:=by have h:=of_decide_eq_true h;omega
 have:make L n=(0,6,L):=by unfold make;simp[<-A,hfn,h2]
 rw[this];exact⟨rfl,G _ Z⟩
 have h2:¬65536<=L.length:=by have h:=of_decide_eq_false h;omega
 have hmk:make L n=((L.length:Int)+1,0,L++[⟨n,sz,dp⟩]):=by unfold make;simp[<-A,hfn,h2]
 refine⟨fun w'=>w'.cell? p=some s.v/\Row w' p2 (oO n),⟨?_,?_⟩,?_⟩
 exact Ext.cell (F:=None) (Ext.drew Y) hS.box.cell0 id
 rw[<-B];exact Ext.row (F:=None) (Ext.drew Y) b3.row id
 intro w4 hw4
 have W:Pure Y w4:=by rw[hw4];exact Ext.drew Y
 clear hw4
 have U:PoolS w4 p L s m:=by
  exact⟨hS.box.pure W,hS.rows.pure W,hS.map.ext W id,hS.n1,hS.n2,hS.n3⟩
 have b4:=b3.pure W
 refine⟨p,rfl,s,fun w' h=>h.1,k,f,t,u,x,a,b,fun w' h=>by have:=h.2;rw[<-B]at this;exact this,?_⟩
 intro p3 w5 h5
 have X:Pure w4 w5:=Ext.new h5
 have o3:w.heap.size<=p3.block:=New.own (Z.trans W) h5
 have b5:=Box.of_new h5
 have z:=U.rows.pure X
 have j:=U.box.pure X
 have q:CMap w5 m (jBD L):=U.map.ext X id
 have b45:=b4.pure X
 have hrow:Row w5 p3 (zBJ ⟨n,sz,dp⟩):=by rw[<-B];exact b5.row
 refine⟨⟨j.cell0,by rw[<-B];exact b45.row⟩,?_⟩
 have⟨s1,w6,hr6,l,E7,M⟩:=z.append (P:=prog) (ty:=158) jIX (c:=1) hrow (by simp[zBJ,oO]) (by simp[zBJ,oO,vE]) So (by simp[maxLen];omega)
 have nb:∀b,s.blk b->b≠p2.block:=fun b hb e=>o2 Gd
 have g:=j.ext E7 hS.n2
 have V:=q.ext E7 hS.n3
 have b6:=b45.ext E7 fun h=>nb _ h rfl
 refine⟨s1,w6,hr6,⟨g.cell0,by rw[<-B];exact b6.row⟩,p,rfl,g.canW0 Sm,?_⟩
 intro R J
 have d:Box R p [s1.v,.map<|some m] 160:=by rw[J];exact g.set0
 have E8:Ext (·=p.block) w6 R:=by rw[J];exact Ext.setCell p _
 clear J
 have hs1p:¬s1.blk p.block:=fun h=>(M _ h).elim hS.n2 fun h=>Oh j.lt
 have hs1m:¬s1.blk m:=fun h=>(M _ h).elim hS.n3 fun h=>Oh q.lt
 have r:=l.ext E8 Gd
 have I:=V.ext E8 hS.n1
 have b7:=b6.ext E8 Gd
 have hl1:(s1.len:Int)=L.length+1:=by rw[l.len];simp
 refine⟨p,rfl,s1,d.cell0,?_⟩
 refine⟨fun w'=>w'.cell? (p.add 1)=some (.map<|some m)/\Row w' p2 (oO n),⟨?_,?_⟩,?_⟩
 exact Ext.cell (F:=None) (Ext.drew R) (d.cell (i:=1) rfl) id
 rw[<-B];exact Ext.row (F:=None) (Ext.drew R) b7.row id
 intro w8 hw8
 have E9:Pure R w8:=by rw[hw8];exact Ext.drew R
 clear hw8
 refine⟨p,rfl,some m,fun w' h=>h.1,k,f,t,u,x,a,b,fun w' h=>by have:=h.2;rw[<-B]at this;exact this,?_⟩
 simp only[D];rw[hl1]
 have H:CMap w8 m (jBD L):=I.ext E9 id
 have⟨w9,hr9,N,Q⟩:=H.insert (P:=prog) (v:=vi<|(L.length:Int)+1) underlying157 jCY jFE ⟨n,rfl⟩ C
 refine⟨w9,hr9,hK _ _ _ ?_⟩
 rw[hmk]
 have S:=(d.pure E9).ext Q fun e=>hS.n1 e.symm
 have y:=(r.pure E9).ext Q Gd
 refine⟨rfl,fun b=>b=p.block\/s1.blk b\/b=m,⟨s1,m,⟨S,?_,?_,hS.n1,hs1p,hs1m⟩,fun _=>Iff.rfl⟩,?_,?_⟩
 simpa using y
 rw[jYX];simpa using N
 have hF':∀b,F b↔(b=p.block\/s.blk b\/b=m):=hF
 have Ea:Ext F w w5:=((Z.trans W).trans X).pure
 have Eb:Ext F w w6:=Ea.trans' E7 Gd
 have Ec:Ext F w R:=Eb.trans' E8 Gd
 have Ed:Ext F w w8:=Ec.thenPure E9
 exact Ed.trans' Q Gd
 intro b hb
 rcases hb with rfl|hb|rfl
 grind
 rcases M b hb with h|h
 grind
 right;have:=((Z.trans W).trans X).size;omega
 grind
 obtain⟨e,he,hen,rfl⟩:=jUA hi
 refine⟨_,_,o,Br.t rfl (hK _ _ _ ?_)⟩
 have hfd:=jNG hok he
 rw[hen]at hfd
 have:make L n=((i:Int)+1,0,L):=by unfold make;simp[<-A,hfd]
 rw[this];exact⟨Sm,G _ Z⟩
end Go.Proofs
end
section
open Go.SE
namespace Go.Proofs
def jAK(L:Pool)(n:Int):Int×Bool:=match find L (zT n)with
 |some i=>((i:Int)+1,true)
 |none=>(0,false)
def jPO{L n i}(h:find L n=some i):i<L.length/\nodeOf L ((i:Int)+1)=n:=by
 unfold find at h;rw[List.findIdx?_eq_some_iff_getElem]at h;have⟨hi,h1,_⟩:=h;refine⟨hi,?_⟩;rw[qJ hi];simpa using h1
def jUJ{L n}(h:(jAK L n).2=true):inP L (jAK L n).1=true/\nodeOf L (jAK L n).1=zT n/\∃i,find L (zT n)=some i/\(jAK L n).1=(i:Int)+1:=by
 unfold jAK at h|-;cases a:find L (zT n)with
 |none=>rw[a]at h;cases h
 |some i =>
  have⟨hi,b⟩:=jPO a
  exact⟨zI.2 ⟨Sy,Sy⟩,b,i,rfl,rfl⟩
def jWL{L n i}(h:find L (zT n)=some i):jAK L n=((i:Int)+1,true):=by unfold jAK;rw[h]
def Drv.inv{L K t}(h:Drv L K t):K t\/jHN (nodeOf L t).kind=true\/((nodeOf L t).kind=4/\Drv L K (nodeOf L t).a/\Drv L K (nodeOf L t).b)\/((nodeOf L t).kind=5/\Drv L K (nodeOf L t).a) \/
  (qO (nodeOf L t).kind=true/\Drv L K (nodeOf L t).a/\(jAK L<|xM<|nodeOf L t).2=true/\K (jAK L<|xM<|nodeOf L t).1):=by
 cases h with
 |seen h=>exact .inl h
 |free h=>exact .inr<|.inl h
 |pair h a b=>exact .inr<|.inr<|.inl ⟨h,a,b⟩
 |hash h a=>exact .inr<|.inr<|.inr<|.inl ⟨h,a⟩
 |sign h a d c=>rw[jWL d];exact .inr<|.inr<|.inr<|.inr ⟨h,a,rfl,c⟩
def Drv.signed{L K t}(h:qO (nodeOf L t).kind=true)(f:Drv L K (nodeOf L t).a)(c:(jAK L<|xM<|nodeOf L t).2=true)(b:K (jAK L<|xM<|nodeOf L t).1):Drv L K t:=by
 have⟨_,_,i,d,e⟩:=jUJ c;rw[e]at b;exact .sign h f d b
def zCA{k}(h:qO k=true):k≠4/\k≠5/\k≠6/\jHN k=false:=by
 simp only[qO,Bool.or_eq_true,beq_iff_eq]at h;rcases h with(rfl|rfl)|rfl<;>decide
def xSq{L}(h:Wf L){t}(ht:inP L t=true):jHN (nodeOf L t).kind=true\/(nodeOf L t).kind=4\/(nodeOf L t).kind=5\/(nodeOf L t).kind=6\/qO (nodeOf L t).kind=true:=by
 have h1:=(h.node ht).1;unfold zJ at h1;simp only at h1;split at h1;cases h1;rename_i hh;simp only[Bool.or_eq_true,Bool.not_eq_true',not_or]at hh;have a:isKind (nodeOf L t).kind=true:=by simpa using hh.1.1.1.1
 simp only[isKind,Bool.and_eq_true,decide_eq_true_eq]at a;simp only[jHN,qO,Bool.or_eq_true,beq_iff_eq];omega
inductive Sub(L:Pool):Int->Int->Prop
 |refl (t:Int):Sub L t t
 |kid {t u k:Int}:Sub L t u->k∈zB (nodeOf L u)->Sub L t k
def Sub.trans{L a b c}(h:Sub L a b)(k:Sub L b c):Sub L a c:=by
 induction k with
 |refl=>exact h
 |kid _ d e=>exact .kid e d
def jLQ{n}(h:n.kind=4\/n.kind=5\/qO n.kind=true):n.a∈zB n:=by
 simp only[qO,Bool.or_eq_true,beq_iff_eq]at h;rcases h with h|h|(h|h)|h<;>simp[zB,h,shapeOf]
def zFG{n}(h:n.kind=4):n.b∈zB n:=by simp[zB,h,shapeOf]
def jGY(S:List Way)(t:Int):Nat:=(zH S).idxOf t+if t∈zH S then 0 else t.toNat
def jJP{S t}(h:t∈zH S):jGY S t<S.length:=by
 have:=List.idxOf_lt_length_iff.2 h;unfold jGY;rw[if_pos h];rw[yR]at this;omega
def jMU{S t}(h:t∉zH S):jGY S t=S.length+t.toNat:=by
 unfold jGY;rw[if_neg h,List.idxOf_eq_length h,yR]
def jHW{S t a}(h:t∉zH S)(c:1<=a)(b:a<t):jGY S a<jGY S t:=by
 rw[jMU h];by_cases hm:a∈zH S;have:=jJP hm;omega;rw[jMU hm];omega
def zCQ{S t a}(h:t∉zH S)(ht:1<=t)(hm:a∈zH S):jGY S a<jGY S t:=by
 rw[jMU h];have:=jJP hm;omega
def way_of{L G S}(h:WaysOk L G S){t r f}(l:(t,(r,f))∈S.map fun v=>(v.t,(v.rule,v.frm))):(r=0/\f=0/\t∈G)\/(r≠0/\oN L r f t/\f∈zH S/\jGY S f<jGY S t):=by
 have⟨v,d,e⟩:=List.mem_map.1 l;obtain⟨i,hi,rfl⟩:=List.getElem_of_mem d;simp only[Prod.mk.injEq]at e;obtain⟨rfl,rfl,rfl⟩:=e;rcases h.way i hi with m|⟨h1,h2,h3⟩;exact .inl m;right;have a:S[i].frm∈zH S:=by
  have⟨y,p,e⟩:=List.mem_map.1 h3;exact List.mem_map.2 ⟨y,List.mem_of_mem_take p,e⟩
 refine⟨h1,h2,a,?_⟩;have c:S[i].t∈zH S:=List.mem_map.2 ⟨_,d,rfl⟩;have b:(zH S).idxOf S[i].t=i:=by
  have⟨j,o,g,k⟩:=jMI c;rw[k];have n:(zH S)[j]'(by rw[yR];exact o)=(zH S)[i]'(by rw[yR];exact hi):=by simp[zH,g]
  exact(List.getElem_inj h.nodup).1 n
 have q:(zH S).idxOf S[i].frm<i:=by
  have e:zH S=zH (S.take i)++zH (S.drop i):=by unfold zH;rw[<-List.map_append,List.take_append_drop]
  rw[e,List.idxOf_append,if_pos h3];have:=List.idxOf_lt_length_iff.2 h3;rw[yR,List.length_take]at this;omega
 unfold jGY;rw[if_pos a,if_pos c,b];omega
def jTF{L r u t}(hr:r=1\/r=2\/r=3):jNR L r u t=true↔oN L r u t:=by
 unfold jNR oN;rcases hr with rfl|rfl|rfl<;>simp
def oN.rule{L r u t}(h:oN L r u t):r=1\/r=2\/r=3:=by
 rcases h with⟨h,_⟩|⟨h,_⟩|⟨h,_⟩;exact .inl h;exact .inr<|.inl h;exact .inr<|.inr h
def zBK(l:List Step):List (Int×Int):=l.zipIdx.map fun p=>(p.1.t,(p.2:Int))
def jRH(l):(zBK l).map Prod.fst=l.map Step.t:=by
 unfold zBK;rw[List.map_map];show l.zipIdx.map (fun p=>p.1.t)=_;rw[show(fun p:Step×Nat=>p.1.t)=Step.t∘Prod.fst from rfl,<-List.map_map,List.zipIdx_map_fst]
def jRF(l s):zBK (l++[s])=zBK l++[(s.t,(l.length:Int))]:=by simp[zBK,List.zipIdx_append]
def zBC{l t v}(h:SE.look (zBK l) t=some v):∃i,∃hi:i<l.length,v=i/\l[i].t=t:=by
 have:=tB h;have⟨q,a,e⟩:=List.mem_map.1 this;have⟨s,i⟩:=q;rw[List.mem_zipIdx_iff_getElem?]at a;have⟨hi,b⟩:=List.getElem?_eq_some_iff.1 a;simp only[Prod.mk.injEq]at e;exact⟨i,hi,e.2.symm,by rw[b];exact e.1⟩
def jRG{l t}:SE.look (zBK l) t=none↔t∉l.map Step.t:=by rw[uS,jRH]
structure PrfOk(L:Pool)(G:List Int)(K:Int->Prop)(l:List Step)(B:List Int):Prop where
 fol:∀i (hi:i<l.length),fol L G (l.take i) l[i]=true
 nd:(l.map Step.t).Nodup
 drv:∀s∈l,Drv L K s.t
 bar:∀t∈B,¬Drv L K t
def PrfOk.nil(L G K):PrfOk L G K [] []:=⟨fun i hi=>by simp at hi,Sm,Sm,Sm⟩
def PrfOk.snoc{L G K l B}(h:PrfOk L G K l B){s}(g:Proofs.fol L G l s=true)(d:s.t∉l.map Step.t)(f:Drv L K s.t):PrfOk L G K (l++[s]) B:=by
 refine⟨fun i hi=>?_,?_,fun x a=>?_,h.bar⟩;rw[List.length_append]at hi;simp only[List.length_cons,List.length_nil]at hi;by_cases b:i<l.length;rw[List.getElem_append_left b,List.take_append_of_le_length Om];exact h.fol i b;grind;rw[List.map_append,List.nodup_append];exact⟨h.nd,Sm,fun x a y c e=>by simp at c;subst c;exact d<|e▸a⟩;rcases List.mem_append.1 a with a|a;exact h.drv x a;grind
def PrfOk.bars{L G K l B}(h:PrfOk L G K l B){t}(ht:¬Drv L K t):PrfOk L G K l (B++[t]):=
 ⟨h.fol,h.nd,h.drv,fun x a=>(List.mem_append.1 a).elim (h.bar x) Gd⟩
def zFM{L G pre s}(h:fol L G pre s=true):inP L s.t=true:=by
 unfold fol at h;split at h;cases h;grind
def PrfOk.few{L G K l B}(h:PrfOk L G K l B):l.length<=L.length:=by
 have:=xV h.nd (fun t ht=>by
  obtain⟨s,hs,rfl⟩:=List.mem_map.1 ht;obtain⟨i,hi,rfl⟩:=List.getElem_of_mem hs;exact zFM<|h.fol i hi)
 simpa using this
def jLD{l}{i:Nat}(hi:i<l.length):tAt l (i:Int)=l[i].t:=by simp[tAt,hi]
def jDF{n i}(h:i<n):jKW n (i:Int)=true:=by simp[jKW];omega
def jYI{l M}{i:Nat}(hi:i<l.length):tAt (l++M) (i:Int)=l[i].t:=by
 rw[jLD Gd,List.getElem_append_left hi]
end Go.Proofs
end
section
open Go Go.SE List
namespace Go.Proofs
def addT(G:List Int)(t:Int):List Int:=if t∈G then G else G++[t]
def jAL(L:Pool)(G:List Int)(t:Int):List Int:=if inP L t=true then addT G t else G
def jFF{G t x}:x∈addT G t↔x∈G\/x=t:=by
 unfold addT;split;grind;simp
def zIJ{G t}(h:G.Nodup):(addT G t).Nodup:=by
 unfold addT;split;exact h;grind
def jDY(L:Pool)(S:List Way)(t:Int):Int×Int×Bool×Bool:=
 if inP L t=false then(0,0,false,false)
 else if jHN (nodeOf L t).kind=true then(0,0,true,true)
 else if(nodeOf L t).kind=4 then((nodeOf L t).a,(nodeOf L t).b,false,true)
 else if(nodeOf L t).kind=5 then((nodeOf L t).a,0,false,true)
 else if(nodeOf L t).kind=6 then(0,0,false,false)
 else((nodeOf L t).a,(jAK L<|xM<|nodeOf L t).1,false,(jAK L<|xM<|nodeOf L t).2&&decide ((jAK L<|xM<|nodeOf L t).1∈zH S))
end Go.Proofs
namespace Go.Proofs
open Tryz
attribute [local irreducible] Calls
def zID(p:Addr)(n:Node)(w0:World){L:Pool}{F:NP}(hP:zD w0 p L F)(hok:Ok L):
  cl 127 #[vp<|some p,jHL n] w0<|XE fun r ok w'=>(match find L n with|some i=>r=(i:Int)+1/\ok=true|none=>r=0/\ok=false)/\Pure w0 w':=by
 have⟨k,f,t,u,x,a,b⟩:=n
 generalize y:(⟨k,f,t,u,x,a,b⟩:Node)=n
 have d:(Value.agg #[vi k,vi f,vi t,vu u,vs x,vi a,vi b])=jHL n:=by rw[<-y];rfl
 rw[<-d]
 refine w_P3 _ _ _ _ _ _ _ _ w0 _ ?_
 intro z h h1
 have b1:=Box.of_new h1
 have w:Pure w0 h:=Ext.new h1
 refine Br.f rfl ?_
 rintro _ rfl
 have o:Pure h h.drew:=Ext.drew h
 have l:=w.trans o
 have⟨s,m,hS,A⟩:=hP.pure l
 refine⟨p,rfl,_,hS.box.cell (i:=1) rfl,_,_,_,_,_,_,_,(b1.pure o).row,?_⟩
 simp only[d]
 rcases hS.map.lookup (P:=prog) (T:=157) (E:=73) underlying157 jCY jFE ⟨n,rfl⟩ (zeroValue73 _) true with⟨g,c⟩|⟨i,v,hi,c⟩
 refine⟨_,_,c,?_,l⟩
 rw[find_none<|jTZ g];exact⟨rfl,rfl⟩
 obtain⟨e,q,j,rfl⟩:=jUA hi
 refine⟨_,_,c,?_,l⟩
 rw[<-j,jNG hok q];exact⟨Sm,rfl⟩
abbrev MakePost(p:Addr)(L:Pool)(F:NP)(w:World)(n:Node)(e:Ending)(w':World):Prop:=
 ∃r1:Int,∃r2:Int,e=.returned (.tuple #[vi r1,vi r2])/\((r1,r2)=((make L n).1,(make L n).2.1)/\∃F',zD w' p (make L n).2.2 F'/\Ext F w w'/\∀b,F' b->F b\/w.heap.size<=b)
section
variable (p:Addr) (w0:World) {L:Pool} {F:NP} (hP:zD w0 p L F) (hok:Ok L)
include hP hok
def c_Num(n):cl 227 #[vp<|some p,vu n] w0 (MakePost p L F w0 ⟨2,0,0,n,⟨#[]⟩,0,0⟩):=by
 refine w_V3 _ _ w0 (fun r1 r2 w'=>(r1,r2)=((make L ⟨2,0,0,n,⟨#[]⟩,0,0⟩).1,(make L ⟨2,0,0,n,⟨#[]⟩,0,0⟩).2.1)/\∃F',zD w' p (make L ⟨2,0,0,n,⟨#[]⟩,0,0⟩).2.2 F'/\Ext F w0 w'/\∀b,F' b->F b\/w0.heap.size<=b) ?_;refine(jBN p _ _ _ _ _ _ _ w0 hP hok).mono ?_;rintro _ a ⟨r1,r2,rfl,h⟩;exact⟨r1,r2,rfl,h⟩
def c_Name(n):cl 225 #[vp<|some p,vi n] w0 (MakePost p L F w0 ⟨1,n,0,0,⟨#[]⟩,0,0⟩):=by
 refine w_U3 _ _ w0 (fun r1 r2 w'=>(r1,r2)=((make L ⟨1,n,0,0,⟨#[]⟩,0,0⟩).1,(make L ⟨1,n,0,0,⟨#[]⟩,0,0⟩).2.1)/\∃F',zD w' p (make L ⟨1,n,0,0,⟨#[]⟩,0,0⟩).2.2 F'/\Ext F w0 w'/\∀b,F' b->F b\/w0.heap.size<=b) ?_;refine(jBN p _ _ _ _ _ _ _ w0 hP hok).mono ?_;rintro _ a ⟨r1,r2,rfl,h⟩;exact⟨r1,r2,rfl,h⟩
def c_Pair(a b):cl 232 #[vp<|some p,vi a,vi b] w0 (MakePost p L F w0 ⟨4,0,0,0,⟨#[]⟩,a,b⟩):=by
 refine w_X3 _ _ _ w0 (fun r1 r2 w'=>(r1,r2)=((make L ⟨4,0,0,0,⟨#[]⟩,a,b⟩).1,(make L ⟨4,0,0,0,⟨#[]⟩,a,b⟩).2.1)/\∃F',zD w' p (make L ⟨4,0,0,0,⟨#[]⟩,a,b⟩).2.2 F'/\Ext F w0 w'/\∀b,F' b->F b\/w0.heap.size<=b) ?_;refine(jBN p _ _ _ _ _ _ _ w0 hP hok).mono ?_;rintro _ c ⟨r1,r2,rfl,h⟩;exact⟨r1,r2,rfl,h⟩
def c_Sign(n a):cl 241 #[vp<|some p,vi n,vi a] w0 (MakePost p L F w0 ⟨7,n,0,0,⟨#[]⟩,a,0⟩):=by
 refine w_Z3 _ _ _ w0 (fun r1 r2 w'=>(r1,r2)=((make L ⟨7,n,0,0,⟨#[]⟩,a,0⟩).1,(make L ⟨7,n,0,0,⟨#[]⟩,a,0⟩).2.1)/\∃F',zD w' p (make L ⟨7,n,0,0,⟨#[]⟩,a,0⟩).2.2 F'/\Ext F w0 w'/\∀b,F' b->F b\/w0.heap.size<=b) ?_;refine(jBN p _ _ _ _ _ _ _ w0 hP hok).mono ?_;rintro _ c ⟨r1,r2,rfl,h⟩;exact⟨r1,r2,rfl,h⟩
def c_Hash(a):cl 234 #[vp<|some p,vi a] w0 (MakePost p L F w0 ⟨5,0,0,0,⟨#[]⟩,a,0⟩):=by
 refine w_Y3 _ _ w0 (fun r1 r2 w'=>(r1,r2)=((make L ⟨5,0,0,0,⟨#[]⟩,a,0⟩).1,(make L ⟨5,0,0,0,⟨#[]⟩,a,0⟩).2.1)/\∃F',zD w' p (make L ⟨5,0,0,0,⟨#[]⟩,a,0⟩).2.2 F'/\Ext F w0 w'/\∀b,F' b->F b\/w0.heap.size<=b) ?_;refine(jBN p _ _ _ _ _ _ _ w0 hP hok).mono ?_;rintro _ c ⟨r1,r2,rfl,h⟩;exact⟨r1,r2,rfl,h⟩
def c_Key(n):cl 99 #[vp<|some p,vi n] w0 (MakePost p L F w0 ⟨6,n,0,0,⟨#[]⟩,0,0⟩):=by
 refine w_N3 _ _ w0 (fun r1 r2 w'=>(r1,r2)=((make L ⟨6,n,0,0,⟨#[]⟩,0,0⟩).1,(make L ⟨6,n,0,0,⟨#[]⟩,0,0⟩).2.1)/\∃F',zD w' p (make L ⟨6,n,0,0,⟨#[]⟩,0,0⟩).2.2 F'/\Ext F w0 w'/\∀b,F' b->F b\/w0.heap.size<=b) ?_;refine(jBN p _ _ _ _ _ _ _ w0 hP hok).mono ?_;rintro _ a ⟨r1,r2,rfl,h⟩;exact⟨r1,r2,rfl,h⟩
end
def KnowS.appG{w k p G S ks sg sl m}(h:KnowS w k p G S ks sg m sl){t q w1}(o:New w (.cells #[vi t] 73) q w1)(u:G.length<=1000000):∃s1 f,(Builtin.append_ #[46,46] 46 #[sg.v,(Sl.mk (some q) 1 1).v]).run prog w1=.ok s1.v f/\Ext sg.blk w1 f/\zV f (k.add 1) /\
  KnowS (f.setCell (k.add 1) s1.v) k p (G++[t]) S ks s1 m sl/\Ext (KF k sg m sl) w (f.setCell (k.add 1) s1.v)/\∀b,KF k s1 m sl b->KF k sg m sl b\/w.heap.size<=b:=by
 have l:Pure w w1:=Ext.new o
 have h1:=h.pure l
 have⟨s1,f,hr,s,i,a⟩:=h1.giv.append (P:=prog) (ty:=46) (c:=1) jEX (r:=[vi t]) (Box.of_new o).row rfl rfl (by rw[zY];omega) (by rw[zY];simp[maxLen];omega)
 have j:=h1.box.ext i h1.n2
 have d:∀b,s1.blk b->sg.blk b\/w.heap.size<=b:=fun b h=>(a b h).imp_right fun h=>Oh l.size
 have n:¬s1.blk k.block:=fun hh=>(d _ hh).elim h.n2 fun hh=>Oh h.box.lt
 have nm:¬s1.blk m:=fun hh=>(d _ hh).elim h.n4 fun hh=>Oh h.seen.lt
 have g:=Ext.setCell (w:=f) (k.add 1) s1.v
 rw[zG]at g
 refine⟨s1,f,hr,i,j.canW Sm,⟨j.set 1 s1.v,by rw[show tmr (G++[t])=tmr G++[[vi t]] by simp[tmr]];exact s.ext g fun b a e=>n<|e▸a,((h1.seen.ext i h.n4).ext g h.n1),((h1.list.ext i fun b h2 h1=>h.n6 b h1 h2).ext g fun b a e=>h.n3<|e▸a),h.n1,n,h.n3,nm,h.n5,fun b h1 h2=>(d b h1).elim (fun h1=>h.n6 b h1 h2) fun hh=>Oh<|h.list.lt h2⟩,?_,?_⟩
 exact((l.pure (F:=KF k sg m sl)).trans<|i.mono fun b _ a=>.inr<|.inl a).trans (g.mono fun b _ a=>.inl a)
 rintro b (a|a|a|a)
 exact .inl<|.inl a
 exact(d b a).imp_left fun h=>.inr<|.inl h
 exact .inl<|.inr<|.inr<|.inl a
 exact .inl<|.inr<|.inr<|.inr a
def jKM(k p t w0){L G S F FP}(h:qC w0 k p G S F)(hP:zD w0 p L FP)(P:Wf L)(hd:∀b,F b->¬ FP b)(n:KnowOk L G S):
  cl 70 #[vp<|some k,vi t] w0<|XB fun r w'=>r=(if inP L t=true then 0 else 51)/\∃u F',qC w' k p (jAL L G t) u F'/\KnowOk L (jAL L G t) u/\Ext F w0 w'/\∀b,F' b->F b\/w0.heap.size<=b:=by
 suffices key:∀K:Int->WP,(∀u F' w',qC w' k p (jAL L G t) u F'->KnowOk L (jAL L G t) u->Ext F w0 w'->(∀b,F' b->F b\/w0.heap.size<=b)->K (if inP L t=true then 0 else 51) w')->m_R2 (some k) t w0 K from
  w_R2 _ _ w0 _<|key _ Gd
 intro K E
 unfold m_R2
 have⟨sg,m,sl,k0,C⟩:=h
 refine Br.f rfl ⟨k,rfl,_,k0.box.cell0,?_⟩
 refine(jDK p t w0 hP P.ok).mono ?_
 rintro _ w1 ⟨nk,nf,nt,nu,nx,na,nb,ok,rfl,⟨_,rfl⟩,T⟩
 refine⟨_,_,_,_,_,_,_,_,rfl,T.keptP,fun M=>?_,fun M=>?_⟩
 have d:inP L t=false:=by simpa using M
 intro i j c
 have o:Pure w0 j:=T.hst c
 have D:jAL L G t=G:=by unfold jAL;rw[if_neg<|by simp[d]]
 have:=E S F j (by rw[D];exact⟨sg,m,sl,k0.pure o,C⟩) (by rw[D];exact n) o.pure fun b a=>.inl a
 simpa[d]using this
 have d:inP L t=true:=by simpa using M
 have D:jAL L G t=addT G t:=by unfold jAL;rw[if_pos d]
 rw[D]at E
 simp only[d,if_true]at E
 refine⟨k,rfl,?_⟩
 intro i j c
 have o:Pure w0 j:=T.hst c
 have y:=k0.pure o
 have nh:∀b,b<w0.heap.size->¬i b:=fun b a hh=>Oh<|c.old b hh
 have hGn:G.length<=65536:=by have:=xV n.gnd fun t ht=>n.inp t<|n.giv t ht;have:=P.ok.few;omega
 have A:∀(w:World) (F':NP),qC w k p (addT G t) S F'->Ext F w0 w->(∀b,F' b->F b\/w0.heap.size<=b)->Hst w0 i w i w->(∀b,F' b->¬i b)->cl 134 #[vp<|some k,vi t,.agg #[vi 0,vi 0]] w (fun e B=>e=.returned (.tuple #[])/\Kept i w B/\K 0 B):=by
  intro w F' hw J hf hs hh;have Q:∀x∈G,x∈addT G t:=fun x l=>jFF.2<|.inl l;have R:zD w p L FP:=hP.ext J fun b a N=>hd b N a;refine(jXG k p t 0 0 w hw R P (fun b a X=>?_) (n.toWaysOk.mono Q) n.closed d<|.inl ⟨rfl,rfl,jFF.2<|.inr rfl⟩).mono ?_;rcases hf b a with h1|h1;exact hd b h1 X;have:=hP.lt X;omega;rintro _ B ⟨rfl,u,F2,K2,⟨q1,q2,q3,q4⟩,X2,f2⟩;have z:=J.size;refine⟨rfl,X2.kept fun b a l=>hh b l a,E u F2 B K2 ⟨q1,q2,fun x l=>?_,zIJ n.gnd⟩ (J.trans' X2 Gd) fun b a=>?_⟩;rcases jFF.1 l with l|rfl;exact q4 x<|n.giv x l;exact q3;grind
 refine⟨_,y.box.cell rfl,?_⟩
 refine(jQB sg G t j y.giv.lst Om).mono ?_
 rintro _ j ⟨r,rfl,rfl,rfl⟩
 refine⟨_,rfl,Kept.refl _,fun s=>?_,fun s=>?_⟩
 have W:t∉G:=by simpa using s
 have g:addT G t=G++[t]:=if_neg W
 refine⟨k,rfl,_,y.box.cell rfl,?_⟩
 intro q v V
 have⟨s1,Y,H,X6,O,k6,E6,f6⟩:=y.appG V Om
 have U:Hst w0 i v i v:=c.here.again (Ext.new V:Pure j v).keptP
 have I:∀b,sg.blk b->¬i b:=fun b a=>nh b<|k0.lt<|.inr<|.inl a
 have Z:Kept i v Y:=X6.kept fun b a l=>I b l a
 refine⟨s1,Y,H,Z,k,rfl,O,by rw[zG];exact nh _ k0.box.lt,?_⟩
 rintro _ rfl
 have z3:=o.size
 have z5:j.heap.size<=v.heap.size:=(Ext.new V:Pure j v).size
 refine A _ (KF k s1 m sl) (by rw[g];exact⟨s1,m,sl,k6,fun b=>Iff.rfl⟩) ((o.pure (F:=F)).trans<|E6.mono fun b _ a=>(C b).2 a) Gd ((U.again Z).again<|Kept.setCell (by rw[zG];exact nh _ k0.box.lt)) fun b a hh=>?_
 rcases f6 b a with h1|h1
 exact nh b (k0.lt h1) hh
 have:=c.lt b hh;omega
 have hG:t∈G:=by simpa using s
 have g:addT G t=G:=if_pos hG
 exact A j F (by rw[g];exact⟨sg,m,sl,y,C⟩) o.pure (fun b a=>.inl a) c.here fun b a=>nh b<|k0.lt<|(C b).1 a
def jXH(k p t w0){L G S F FP}(h:qC w0 k p G S F)(hP:zD w0 p L FP)(P:Wf L):
  cl 161 #[vp<|some k,vi t] w0<|XG fun r1 r2 r3 N w'=>(r1,r2,r3,N)=jDY L S t/\Pure w0 w':=by
 refine w_S1 _ _ w0 _ ?_
 unfold m_S1
 have⟨sg,m,sl,k0,W⟩:=h
 refine⟨k,rfl,_,k0.box.cell0,?_⟩
 refine(jDK p t w0 hP P.ok).mono ?_
 rintro _ w1 ⟨c,nf,R,nu,nx,M,U,ok,rfl,⟨s,rfl⟩,o⟩
 refine⟨_,_,_,_,_,_,_,_,rfl,o.keptP,fun B=>?_,fun B=>?_⟩
 intro H1 w3 A
 have l:inP L t=false:=by simpa using B
 exact⟨by unfold jDY;rw[if_pos l],o.hst A⟩
 have l:inP L t=true:=by simpa using B
 have hi:¬inP L t=false:=by simp[l]
 rintro y1 rfl
 have Z:(cond ((c:Int)==1) ((c:Int)==1)<|cond ((c:Int)==2) ((c:Int)==2)<|(c:Int)==3)=jHN c:=by
  unfold jHN;cases(c==1)<;>cases(c==2)<;>simp
 rw[Z]
 have f:(nodeOf L t).kind=c:=by rw[<-s]
 have C:(nodeOf L t).frm=nf:=by rw[<-s]
 have K:(nodeOf L t).to=R:=by rw[<-s]
 have J:(nodeOf L t).a=M:=by rw[<-s]
 have T:(nodeOf L t).b=U:=by rw[<-s]
 refine⟨fun h1=>?_,fun h1=>⟨fun q=>?_,fun q=>⟨fun x=>?_,fun x=>⟨fun H=>?_,fun H=>?_⟩⟩⟩⟩
 intro D I e
 exact⟨by unfold jDY;rw[if_neg hi,f,if_pos h1],o.hst e⟩
 intro D I e
 have d:c=4:=by simpa using q
 exact⟨by unfold jDY;rw[if_neg hi,f,if_neg<|by simp[h1],if_pos d,J,T],o.hst e⟩
 intro D I e
 have d:¬c=4:=by simpa using q
 have g:c=5:=by simpa using x
 exact⟨by unfold jDY;rw[if_neg hi,f,if_neg<|by simp[h1],if_neg d,if_pos g,J],o.hst e⟩
 intro D I e
 have d:¬c=4:=by simpa using q
 have g:¬c=5:=by simpa using x
 have n:c=6:=by simpa using H
 exact⟨by unfold jDY;rw[if_neg hi,f,if_neg<|by simp[h1],if_neg d,if_neg g,if_pos n],o.hst e⟩
 have d:¬c=4:=by simpa using q
 have g:¬c=5:=by simpa using x
 have n:¬c=6:=by simpa using H
 intro H3 Q y
 have E:Pure w0 Q:=o.hst y
 unfold m_S1_j1
 have Y:=k0.pure E
 have v:(cond ((c:Int)==9) R nf)=xM (nodeOf L t):=by
  unfold xM;rw[f,C,K];by_cases X:c=9;subst X;simp;grind
 rw[v]
 have hm:jDY L S t=(M,(jAK L<|xM<|nodeOf L t).1,false,(jAK L<|xM<|nodeOf L t).2&&decide ((jAK L<|xM<|nodeOf L t).1∈zH S)):=by
  unfold jDY;rw[if_neg hi,f,if_neg<|by simp[h1],if_neg d,if_neg g,if_neg n,J]
 refine⟨k,rfl,_,Y.box.cell0,?_⟩
 refine(zID p (zT<|xM<|nodeOf L t) Q (hP.pure E) P.ok).mono ?_
 rintro _ j ⟨r2,r3,rfl,hr,u⟩
 refine⟨r2,r3,rfl,u.keptP,?_⟩
 have Ed:Pure j j.drew:=Ext.drew j
 refine⟨fun _=>True,trivial,?_⟩
 rintro _ rfl
 have r:=(E.trans u).trans Ed
 have z:jAK L (xM<|nodeOf L t)=(r2,r3):=by
  unfold jAK;cases O:find L (zT<|xM<|nodeOf L t)with
  |none=>rw[O]at hr;simp only at hr;rw[hr.1,hr.2]
  |some i=>rw[O]at hr;simp only at hr;rw[hr.1,hr.2]
 rw[hm,z]
 refine⟨fun h=>?_,fun h=>?_⟩
 subst h
 refine(jMA k p r2 j.drew ⟨sg,m,sl,k0.pure r,W⟩).mono ?_
 rintro _ V ⟨N,rfl,rfl,w⟩
 exact⟨_,rfl,trivial,w.keptP,Sm,r.trans w⟩
 grind
end Go.Proofs
end
section
open Go Go.SE List
namespace Go.Proofs
structure Op where
 code:Int
 a:Int
 b:Int
 num:Int
 text:ByteArray
deriving DecidableEq
abbrev Res:=Int×Int×Pool
def atM(M:List Int)(i:Int):Option Int:=if i<0 then none else M[i.toNat]?
def nodeAt(L:Pool)(M:List Int)(i:Int):Node:=match atM M i with|none=>xL|some t=>nodeOf L t
def oU(n:Int):Int:=cond (decide (n>2147483648)) (-1)<|IntKind.i64.wrap n
def jHK(L:Pool):Res:=(0,90,L)
def vM(L:Pool)(M:List Int)(o:Op)(mk:Int->Int->Node):Res:=
 match atM M o.a with
 |none=>jHK L
 |some a=>if(nodeAt L M o.b).kind=6 then make L (mk (nodeAt L M o.b).frm a)else jHK L
def jBL(L:Pool)(M:List Int)(o:Op):Res:=
 match atM M o.a with
 |none=>jHK L
 |some a=>match atM M o.b with
  |none=>jHK L
  |some b=>make L ⟨4,0,0,0,⟨#[]⟩,a,b⟩
def jCB(L:Pool)(M:List Int)(o:Op):Res:=
 match atM M o.a with
 |none=>jHK L
 |some a=>make L ⟨5,0,0,0,⟨#[]⟩,a,0⟩
def uN(L:Pool)(G:List Int)(o:Op):Res:=
 match atM G o.a with
 |none=>jHK L
 |some a=>(a,0,L)
def yJ(L:Pool)(M:List Int)(o:Op)(c:Bool):Res:=
 if(nodeAt L M o.a).kind=4 then(if c then(nodeAt L M o.a).b else(nodeAt L M o.a).a,0,L)else jHK L
def xA(L:Pool)(M:List Int)(o:Op):Res:=
 if qO (nodeAt L M o.a).kind=true then((nodeAt L M o.a).a,0,L)else jHK L
def yD(L:Pool)(G M:List Int)(o:Op):Res:=
 if o.code=0 then uN L G o
 else if o.code=1 then make L ⟨1,o.a,0,0,⟨#[]⟩,0,0⟩
 else if o.code=2 then make L ⟨2,0,0,o.num,⟨#[]⟩,0,0⟩
 else if o.code=3 then make L ⟨3,0,0,0,o.text,0,0⟩
 else if o.code=4 then jBL L M o
 else if o.code=5 then jCB L M o
 else if o.code=6 then yJ L M o false
 else if o.code=7 then yJ L M o true
 else if o.code=8 then xA L M o
 else if o.code=9 then vM L M o fun k a=>⟨7,k,0,0,⟨#[]⟩,a,0⟩
 else if o.code=10 then vM L M o fun k a=>⟨8,k,oU o.num,0,⟨#[]⟩,a,0⟩
 else if o.code=11 then vM L M o fun k a=>⟨9,oU o.num,k,0,⟨#[]⟩,a,0⟩
 else jHK L
def zZ(L:Pool)(G:List Int)(M:List Int):List Op->List Int×Int×Pool
 |[]=>(M,0,L)
 |o :: os=>if(yD L G M o).2.1≠0 then(M,(yD L G M o).2.1,(yD L G M o).2.2)else zZ (yD L G M o).2.2 G (M++[(yD L G M o).1]) os
def zN(L:Pool)(G:List Int)(l:List Op):Int×Int×Int×Pool:=
 if l.length>256 then(0,6,0,L)else if l.length=0 then(0,3,0,L)
 else if(zZ L G [] l).2.1≠0 then(0,(zZ L G [] l).2.1,(zZ L G [] l).1.length,(zZ L G [] l).2.2)
 else(((zZ L G [] l).1.getLast?).getD 0,0,0,(zZ L G [] l).2.2)
def jLM{L t}(h:inP L t=false):nodeOf L t=xL:=by simp[nodeOf,yC h]
def jBO{M i}(a:0<=i)(h1:i.toNat<M.length):atM M i=some M[i.toNat]:=by
 unfold atM;rw[if_neg Om,getElem?_eq_getElem h1]
def jBK{M i}(h:i<0\/(M.length:Int)<=i):atM M i=none:=by
 unfold atM;split;rfl;rw[getElem?_eq_none];omega
def jUX{M i t}(h:atM M i=some t):0<=i/\∃h1:i.toNat<M.length,M[i.toNat]=t:=by
 unfold atM at h;split at h;cases h;exact⟨Om,List.getElem?_eq_some_iff.1 h⟩
def oQ{α:Type}{P:α->Prop}{c:Prop}[Decidable c]{x y:α}(a:P x)(b:P y):P (if c then x else y):=by split<;>assumption
def jPV{L}(P:Res->Prop)(h1:∀t e,P (t,e,L))(G M o)(h2:∀n,n.num=0\/n.num=o.num->P (make L n)):P (yD L G M o):=by
 have c:∀mk:Int->Int->Node,(∀k a,(mk k a).num=0)->P (vM L M o mk):=fun mk hm=>by
  unfold vM;split;exact h1 _ _;split;exact h2 _<|.inl<|hm _ _;exact h1 _ _
 have d:P (uN L G o):=by unfold uN;split<;>exact h1 _ _
 have f:P (jBL L M o):=by
  unfold jBL;split;exact h1 _ _;split;exact h1 _ _;exact h2 _<|.inl rfl
 have hh:P (jCB L M o):=by
  unfold jCB;split;exact h1 _ _;exact h2 _<|.inl rfl
 have b:∀s,P<|yJ L M o s:=fun s=>by unfold yJ;split<;>exact h1 _ _
 have hs:P (xA L M o):=by unfold xA;split<;>exact h1 _ _
 unfold yD;refine oQ d<|oQ (h2 _<|.inl rfl)<|oQ (h2 _<|.inr rfl)<|oQ (h2 _<|.inl rfl)<|oQ f<|oQ hh<|oQ (b _)<|oQ (b _)<|oQ hs<|oQ (c _ fun _ _=>rfl)<|oQ (c _ fun _ _=>rfl)<|oQ (c _ fun _ _=>rfl)<|h1 _ _
def jID{L}(P:Res->Prop)(h1:∀t e,P (t,e,L))(h2:∀n,P<|make L n)(G M o):P (yD L G M o):=jPV P h1 G M o fun n _=>h2 n
def jCF{L}(h:Wf L)(G M o):Wf (yD L G M o).2.2:=jID (fun r=>Wf r.2.2) (fun _ _=>h) (fun n=>uM h n) G M o
def tV(L G M o):∃X,(yD L G M o).2.2=L++X:=jID (fun r=>∃X,r.2.2=L++X) (fun _ _=>⟨[],Sm⟩) (fun n=>jGJ L n) G M o
def jJD(G):∀(l:List Op) (L:Pool) (M:List Int),Wf L->Wf (zZ L G M l).2.2
 |[],_,_,h=>h
 |o :: os,L,M,h=>by
  unfold zZ;split;exact jCF h G M o;exact jJD G os _ _<|jCF h G M o
def jLI(G):∀(l:List Op) (L:Pool) (M:List Int),∃X,(zZ L G M l).2.2=L++X
 |[],L,_=>⟨[],by simp[zZ]⟩
 |o :: os,L,M=>by
  unfold zZ;split;exact tV L G M o;have⟨X,a⟩:=tV L G M o;have⟨Y,b⟩:=jLI G os (yD L G M o).2.2<|M++[(yD L G M o).1];exact⟨X++Y,by rw[b,a,append_assoc]⟩
def jCT(G):∀(l:List Op) (L:Pool) (M:List Int),(zZ L G M l).1.length<=M.length+l.length/\((zZ L G M l).2.1=0->(zZ L G M l).1.length=M.length+l.length)
 |[],_,_=>⟨Nat.le_refl _,fun _=>rfl⟩
 |o :: os,L,M=>by
  unfold zZ;split;grind;have⟨h1,h2⟩:=jCT G os (yD L G M o).2.2<|M++[(yD L G M o).1];simp only[length_append,length_cons,length_nil]at h1 h2;simp only[length_cons];exact⟨Om,fun h=>Oh<|h2 h⟩
section
variable {L:Pool} {G M:List Int} {o:Op}
def zDY(h:o.code=0):yD L G M o=uN L G o:=by unfold yD;rw[if_pos h]
def zDX(h:o.code=1):yD L G M o=make L ⟨1,o.a,0,0,⟨#[]⟩,0,0⟩:=by unfold yD;rw[if_neg Om,if_pos h]
def zDW(h:o.code=2):yD L G M o=make L ⟨2,0,0,o.num,⟨#[]⟩,0,0⟩:=by unfold yD;rw[if_neg Om,if_neg Om,if_pos h]
def zDV(h:o.code=3):yD L G M o=make L ⟨3,0,0,0,o.text,0,0⟩:=by unfold yD;rw[if_neg Om,if_neg Om,if_neg Om,if_pos h]
def jWT(h:o.code=4):yD L G M o=jBL L M o:=by unfold yD;rw[if_neg Om,if_neg Om,if_neg Om,if_neg Om,if_pos h]
def jZY(h:o.code=5):yD L G M o=jCB L M o:=by unfold yD;rw[if_neg Om,if_neg Om,if_neg Om,if_neg Om,if_neg Om,if_pos h]
def jZX(h:o.code=6):yD L G M o=yJ L M o false:=by unfold yD;rw[if_neg Om,if_neg Om,if_neg Om,if_neg Om,if_neg Om,if_neg Om,if_pos h]
def jZW(h:o.code=7):yD L G M o=yJ L M o true:=by unfold yD;rw[if_neg Om,if_neg Om,if_neg Om,if_neg Om,if_neg Om,if_neg Om,if_neg Om,if_pos h]
def jWS(h:o.code=8):yD L G M o=xA L M o:=by unfold yD;rw[if_neg Om,if_neg Om,if_neg Om,if_neg Om,if_neg Om,if_neg Om,if_neg Om,if_neg Om,if_pos h]
def jWR(h:o.code=9):yD L G M o=vM L M o (fun k a=>⟨7,k,0,0,⟨#[]⟩,a,0⟩):=by unfold yD;rw[if_neg Om,if_neg Om,if_neg Om,if_neg Om,if_neg Om,if_neg Om,if_neg Om,if_neg Om,if_neg Om,if_pos h]
def jLT(h:o.code=10):yD L G M o=vM L M o (fun k a=>⟨8,k,oU o.num,0,⟨#[]⟩,a,0⟩):=by unfold yD;rw[if_neg Om,if_neg Om,if_neg Om,if_neg Om,if_neg Om,if_neg Om,if_neg Om,if_neg Om,if_neg Om,if_neg Om,if_pos h]
def jLS(h:o.code=11):yD L G M o=vM L M o (fun k a=>⟨9,oU o.num,k,0,⟨#[]⟩,a,0⟩):=by unfold yD;rw[if_neg Om,if_neg Om,if_neg Om,if_neg Om,if_neg Om,if_neg Om,if_neg Om,if_neg Om,if_neg Om,if_neg Om,if_neg Om,if_pos h]
def jJX(h:atM M o.a=none)(mk:Int->Int->Node):vM L M o mk=jHK L:=by unfold vM;rw[h]
def jJW(h:(nodeAt L M o.b).kind≠6)(mk:Int->Int->Node):vM L M o mk=jHK L:=by
 unfold vM;split;rfl;rw[if_neg h]
def jBG{i}(h:atM M i=none):nodeAt L M i=xL:=by unfold nodeAt;rw[h]
def doOp_a(d:4<=o.code)(c:o.code<=11)(h:atM M o.a=none):yD L G M o=jHK L:=by
 have b:(nodeAt L M o.a).kind=0:=by rw[jBG h];rfl
 rcases(show o.code=4\/o.code=5\/o.code=6\/o.code=7\/o.code=8\/o.code=9\/o.code=10\/o.code=11 by omega)with e|e|e|e|e|e|e|e;rw[jWT e];unfold jBL;rw[h];rw[jZY e];unfold jCB;rw[h];rw[jZX e];unfold yJ;rw[b,if_neg<|by omega];rw[jZW e];unfold yJ;rw[b,if_neg<|by omega];rw[jWS e];unfold xA;rw[b,if_neg<|by decide];rw[jWR e,jJX h];rw[jLT e,jJX h];rw[jLS e,jJX h]
def jUR(c:9<=o.code)(a:o.code<=11)(h:(nodeAt L M o.b).kind≠6):yD L G M o=jHK L:=by
 rcases(show o.code=9\/o.code=10\/o.code=11 by omega)with e|e|e;rw[jWR e,jJW h];rw[jLT e,jJW h];rw[jLS e,jJW h]
def doOp_b(h:atM M o.b=none)(d:o.code=4\/9<=o.code/\o.code<=11):yD L G M o=jHK L:=by
 rcases d with e|⟨c,a⟩;rw[jWT e];unfold jBL;rw[h];split<;>rfl;exact jUR c a (by rw[jBG h];decide)
def jIC(h:o.code<0\/11<o.code):yD L G M o=jHK L:=by
 unfold yD;rw[if_neg Om,if_neg Om,if_neg Om,if_neg Om,if_neg Om,if_neg Om,if_neg Om,if_neg Om,if_neg Om,if_neg Om,if_neg Om,if_neg Om]
end
def jDU{L:Pool}{G M:List Int}{l:List Op}{j:Nat}(a:j<l.length):zZ L G M (l.drop j) =
  if(yD L G M l[j]).2.1≠0 then(M,(yD L G M l[j]).2.1,(yD L G M l[j]).2.2)else zZ (yD L G M l[j]).2.2 G (M++[(yD L G M l[j]).1]) (l.drop<|j+1):=by
 rw[drop_eq_getElem_cons a,zZ]
def jAM{L}(h:Wf L)(G l):Wf (zN L G l).2.2.2:=by
 unfold zN
 repeat' split
 .exact h
 .exact h
 .exact jJD G l L [] h
 .exact jJD G l L [] h
end Go.Proofs
end
section
open Go Go.SE List
open Go.IntKind renaming i64 -> q6
namespace Go.Proofs
open Tryz
set_option maxRecDepth 100000
set_option maxHeartbeats 4000000
attribute [local irreducible] wpL wpX opE wpE Calls
attribute [local irreducible] adv W WV WR yN pv lpC jBQ ctR ka rgP dgo nwV nhI hvl had hcs hpt stV stC kp yM uK qM bn ub
def m_U2(p1:Option Addr)(f:Sl)(r g:Int)(s B:Int)(b:World)(K:Int->Int->Int->Int->ByteArray->WP):Prop:=∀c t,Hst b None b c t->cl 109 #[(vp p1),(vi B)] t fun e d=>∃h w x D y G F r1,e=.returned (.tuple #[(Ae h w x D y G F),(vb r1)])/\Kept c t d/\Br (r==0) (∀a u,Hst b c d a u->cl 162 #[f.v,(vi B)] u (XB fun r2 A=>Kept a u A/\∀C,Hst b a A a C->K 0 r2 0 0 ⟨#[]⟩ C)) (Br (r==1) (∀a z,Hst b c d a z->K 6 g 0 0 ⟨#[]⟩ z)<|Br (r==2) (∀a E,Hst b c d a E->K 7 g 0 0 ⟨#[]⟩ E)<|Br (r==3) (∀a m,Hst b c d a m->K 8 g 0 0 ⟨#[]⟩ m)<|Br (h==1) (∀a l,Hst b c d a l->K 1 w 0 0 ⟨#[]⟩ l)<|Br (h==2) (∀a j,Hst b c d a j->K 2 0 0 D ⟨#[]⟩ j)<|Br (h==3) (∀a n,Hst b c d a n->K 3 0 0 0 y n)<|Br (h==4) (∀a i,Hst b c d a i->K 4 g s 0 ⟨#[]⟩ i)<|Br (h==5) (∀a p,Hst b c d a p->K 5 g 0 0 ⟨#[]⟩ p)<|Br (h==7) (∀a k,Hst b c d a k->K 9 g s 0 ⟨#[]⟩ k)<|Br (h==8) (∀a q,Hst b c d a q->K 10 g s (IntKind.u64.wrap x) ⟨#[]⟩ q)<|∀a o,Hst b c d a o->K 11 g s (IntKind.u64.wrap w) ⟨#[]⟩ o)
def w_U2(p1 given1 aS aL aT aU w0 K)(h:m_U2 p1 given1 aS aL aT aU w0 K):
  cl 106 #[(vp p1),given1.v,(.agg #[(vi aS),(vi aL),(vi aT),(vi aU)])] w0<|XM K:=
 cwH func106 h<|nh 0<|nh 0<|lh 2 1 [3]<|ah<|cc 0 call109<|xe6<|xe2<|rt<|aah<|nh 3<|sg 0 0 []<|lh 2 2 []<|br 0 2 (lh 3 2 [3]<|ah<|ca1 0 call162<|sg 1 1 []<|an<|rss 0<|qgg 1 [] 5<|qee)<|br 0 3 (lh 2 2 [1]<|sg 1 1 []<|ah<|rss 0<|qgg 1 [] 5<|qee)<|br 0 3 (lh 2 2 [1]<|sg 1 1 []<|ah<|rss 0<|qgg 1 [] 5<|qee)<|br 0 3 (lh 2 2 [1]<|sg 1 1 []<|ah<|rss 0<|qgg 1 [] 5<|qee)<|lh 2 0 []<|br 0 2 (lh 2 0 [1]<|sg 1 1 []<|ah<|rss 0<|qgg 1 [] 5<|qee)<|br 0 3 (lh 2 0 [3]<|sg 1 1 []<|ah<|rss 0<|qgg 1 [] 5<|qee)<|br 0 3 (lh 2 0 [4]<|sg 1 1 []<|ah<|rss 0<|qgg 1 [] 5<|qee)<|br 0 3 (lh 2 2 [1]<|lh 1 2 [2]<|sg 1 1 []<|ah<|rss 0<|qgg 1 [] 5<|qee)<|br 0 3 (lh 2 2 [1]<|sg 1 1 []<|ah<|rss 0<|qgg 1 [] 5<|qee)<|br 0 3 (lh 2 2 [1]<|lh 1 2 [2]<|sg 1 1 []<|ah<|rss 0<|qgg 1 [] 5<|qee)<|br 0 3 (lh 2 2 [1]<|lh 1 2 [2]<|lh 1 0 [2]<|sg 2 1 []<|ah<|rss 0<|qgg 1 [] 5<|qee)<|lh 2 2 [1]<|lh 1 2 [2]<|lh 1 0 [1]<|sg 2 1 []<|ah<|rss 0<|qgg 1 [] 5<|qee
def m_E2_l1(p1:Option Addr)(r1 r3 k:Sl)(e:Int)(s:World)(h:NP)(a:World)(c:Sl->Int->NP->WP)(K:Sl->Bool->WP):Prop:=Br (decide (e<(r1.len:Int))) (∃a1:Addr,At r1 e 4 a1/\∃l m i n,Row a a1 [(vi l),(vi m),(vi i),(vi n)]/\∀b f,Hst s h a b f->cl 106 #[(vp p1),r3.v,(.agg #[(vi l),(vi m),(vi i),(vi n)])] f (XM fun r q p t o j=>Kept b f j/\∀p3 d,New j (.cells #[(vi r),(vi q),(vi p),(vu t),(vs o)] 88) p3 d->∃s1:Sl,∃g:World,(Builtin.append_ #[36,36] 36 #[k.v,(Sl.mk (some p3) 1 1).v]).run prog d=.ok s1.v g/\Kept b d g/\c s1 (q6.wrap<|e+1) b g))<|K k true a
def m_E2(p1:Option Addr)(o:Option Addr)(r:Int)(c:World)(K:Sl->Bool->WP):Prop:=Br ((Option.isNone p1) ||(Option.isNone o)) (∀g d,Hst c None c g d->K Sl.nil false d)<|∀g d,Hst c None c g d->cl 105 #[(vp o),(vi r)] d fun e m=>∃r1:Sl,∃r2,e=.returned (.tuple #[r1.v,(vb r2)])/\Kept g d m/\Br ((!r2) ||(decide ((r1.len:Int)>256))) (∀j f,Hst c g m j f->K Sl.nil false f) (∀j f,Hst c g m j f->cl 68 #[(vp o)] f (XA fun r3 q=>Kept j f q/\∃(p:Sl->Int->NP->WP) (i:Sl->Int->World->Nat),p Sl.nil 0 j q/\∀(n:Sl) (l:Int) (b:NP) (a:World),Hst c b a b a->p n l b a->m_E2_l1 p1 r1 r3 n l c b a (fun h k s w'=>p h k s w'/\i h k w'<i n l a) K))
def w_E2(p1 k1 t1 w0 K)(h:m_E2 p1 k1 t1 w0 K):
  cl 50 #[(vp p1),(vp k1),(vi t1)] w0<|XF K:=
 cwH func50 h<|pj 2 0 [(Option.isNone p1)] [0,1,2] (fun b=>[(19,(vb<|(b 0) ||(Option.isNone k1)))]) (fun c=>pb 1 3 0 c (fun c=>pe 3 0 c)<|fun c=>pe 3 0 c)<|br 0 0 (ah<|rr 3)<|ah<|ca2 3 call105<|fun {r1 r2}=>pj 5 0 [(!r2)] [0,1,8] (fun b=>[(32,(vb<|(b 0) ||(decide ((r1.len:Int)>256))))]) (fun a=>pb 1 3 0 a (fun a=>pe 4 0 a)<|fun a=>pe 4 0 a)<|br 0 0 (ah<|rr 3)<|ah<|ca1 3 call68<|wa2 4 [0,11,35,36] (fun e d=>[(10,(Sl.v e)),(37,(vi d))])<|fun {_ _ e d}=>fun f=>br 0 1 (ix 1<|xe4<|lr 0<|nh 0<|sg 0 0 []<|lgg 3 0 [] 4<|ah<|ca5 0 call106<|nwh 0<|xe2<|ef 0<|aah<|je 3 1 f)<|rr 4
def s_F2(p1:Option Addr)(b:Option Addr)(a:Sl):Int:=(cond ((Option.isNone p1) ||(Option.isNone b)) 2<|cond (decide ((a.len:Int)>256)) 6<|cond (((a.len:Int):Int)==0) 3 0)
def p_F2(p1:Option Addr)(c:Option Addr)(f:Sl)(g:World):cl 107 #[(.pointer p1),(.pointer c),f.v] g (fun e w'=>e=.returned (.int .i64<|s_F2 p1 c f)/\Pure g w'):=
 cwp func107 [((Option.isNone p1) ||(Option.isNone c)),(decide ((f.len:Int)>256)),(((f.len:Int):Int)==0)] (fun b=>(vi<|cond (b 0) 2<|cond (b 1) 6<|cond (b 2) 3 0)) fun a=>pj 1 0 [] [2] (fun b=>[(7,(vb<|(Option.isNone p1) ||(Option.isNone c)))]) (fun h=>ct 3 3<|pj 0 0 [(Option.isNone p1)] [2] (fun b=>[(13,(vb<|(b 0) ||(Option.isNone c)))]) (fun d=>pb 1 0 0 d (fun d=>pe 3 0 d)<|fun d=>pe 3 0 d)<|pe 1 0 h)<|pb 0 0 0 a (fun a=>qpe 2 a)<|fun a=>pb 0 5 1 a (fun a=>qpe 2 a)<|fun a=>pb 0 5 2 a (fun a=>qpe 2 a)<|fun a=>qpe 2 a
def m_I4(t:Option Addr)(u:World)(K:(Option Nat)->WP):Prop:=∀p1 i,New u (.cells #[(vp t)] 239) p1 i->lp i p1 fun v=>∃a1,v=some a1/\lp i a1 fun s=>∀a j,New i (.cells #[(vp none)] 91) a j->zV j a/\∀p,p=j.setCell a (vp s)->∀p3 l,New p (.map #[] 0) p3 l->∃n:World,(Instr.mapUpdate 242 (.map<|some p3.block) (vi 0)<|.func (.func 223) #[] #[(vp<|some p1)]).run prog l=.ok () n/\∃m:World,(Instr.mapUpdate 242 (.map<|some p3.block) (vi 1)<|.func (.func 224) #[] #[(vp<|some a)]).run prog n=.ok () m/\∃o:World,(Instr.mapUpdate 242 (.map<|some p3.block) (vi 2)<|.func (.func 226) #[] #[(vp<|some a)]).run prog m=.ok () o/\∃k:World,(Instr.mapUpdate 242 (.map<|some p3.block) (vi 3)<|.func (.func 228) #[] #[(vp<|some a)]).run prog o=.ok () k/\∃q:World,(Instr.mapUpdate 242 (.map<|some p3.block) (vi 4)<|.func (.func 230) #[] #[(vp<|some p1),(vp<|some a)]).run prog k=.ok () q/\∃f:World,(Instr.mapUpdate 242 (.map<|some p3.block) (vi 5)<|.func (.func 233) #[] #[(vp<|some p1),(vp<|some a)]).run prog q=.ok () f/\∃e:World,(Instr.mapUpdate 242 (.map<|some p3.block) (vi 6)<|.func (.func 235) #[] #[(vp<|some p1)]).run prog f=.ok () e/\∃b:World,(Instr.mapUpdate 242 (.map<|some p3.block) (vi 7)<|.func (.func 237) #[] #[(vp<|some p1)]).run prog e=.ok () b/\lp b p1 fun r=>∃g:World,(Instr.mapUpdate 242 (.map<|some p3.block) (vi 8)<|.func (.func 238) #[(vp r)] #[]).run prog b=.ok () g/\∃c:World,(Instr.mapUpdate 242 (.map<|some p3.block) (vi 9)<|.func (.func 239) #[] #[(vp<|some p1),(vp<|some a)]).run prog g=.ok () c/\∃h:World,(Instr.mapUpdate 242 (.map<|some p3.block) (vi 10)<|.func (.func 242) #[] #[(vp<|some p1),(vp<|some a)]).run prog c=.ok () h/\∃d:World,(Instr.mapUpdate 242 (.map<|some p3.block) (vi 11)<|.func (.func 246) #[] #[(vp<|some p1),(vp<|some a)]).run prog h=.ok () d/\K (some p3.block) d
def w_I4(c1 w0 K)(h:m_I4 c1 w0 K):
  cl 163 #[(vp c1)] w0<|fun e w'=>∃r1:Option Nat,e=.returned (.map r1)/\K r1 w':=
 cwN func163 h<|nwn 0<|ld 1<|nc 0<|ld 1<|nwn 0<|ssn 0<|nwn 0<|xe<|es 1<|aan<|xe<|es 1<|aan<|xe<|es 1<|aan<|xe<|es 1<|aan<|xe<|es 1<|aan<|xe<|es 1<|aan<|xe<|es 1<|aan<|xe<|es 1<|aan<|ld 0<|xe<|es 1<|aan<|xe<|es 1<|aan<|xe<|es 1<|aan<|xe<|es 1<|aan<|rr 2
def m_G2_l1(t:Sl)(c:Addr)(r2:Option Nat)(l:Int)(D:World)(o:NP)(a:World)(k:Int->NP->WP)(K:Sl->Int->WP):Prop:=Br (decide (l<(t.len:Int))) (∃a1:Addr,At t l 5 a1/\∃m u q z r,Row a a1 [(vi m),(vi u),(vi q),(vu z),(vs r)]/\∀e b,Hst D o a e b->∃y:Value,∃g,(Instr.lookup 242 (.map r2) (vi m) true).run prog b=.ok (.tuple #[y,(vb g)]) b/\Br (!g) (lx b (c.add 2) fun B=>K B 90 b) (∃(j:FuncId) (d h:Array Value),y=.func (.func j) d h/\(∀args w,(callFunc j args).run prog w=.ok (.enter j args) w)/\Calls prog j (d++#[(.agg #[(vi m),(vi u),(vi q),(vu z),(vs r)])]++h) b (XH fun r3 p f=>Kept e b f/\Br (p !=0) (lx f (c.add 2) fun A=>K A p f) (lx f (c.add 2) fun E=>∀s n,New f (.cells #[(vi r3)] 73) s n->∃s1:Sl,∃i:World,(Builtin.append_ #[46,46] 46 #[E.v,(Sl.mk (some s) 1 1).v]).run prog n=.ok s1.v i/\Kept e n i/\zV i (c.add 2)/\¬e (c.add 2).block/\∀x,x=i.setCell (c.add 2) s1.v->k (q6.wrap<|l+1) e x)))) (lx a (c.add 2) fun C=>K C 0 a)
def m_G2(p1:Option Addr)(o:Option Addr)(n:Sl)(f:World)(K:Sl->Int->WP):Prop:=cl 68 #[(vp o)] f fun e k=>∃r1:Sl,e=.returned r1.v/\Kept None f k/\∀h i,New k (.cells #[(vp p1),r1.v,Sl.nil.v] 241) h i->cl 163 #[(vp<|some h)] i fun e l=>∃r2:Option Nat,e=.returned (.map r2)/\Kept None i l/\∃(j:Int->NP->WP) (d:Int->World->Nat),j 0 None l/\∀(g:Int) (b:NP) (a:World),Hst f b a b a->j g b a->m_G2_l1 n h r2 g f b a (fun c m w'=>j c m w'/\d c w'<d g a) K
def w_G2(p1 k1 l1 w0 K)(h:m_G2 p1 k1 l1 w0 K):
  cl 108 #[(vp p1),(vp k1),l1.v] w0<|XN K:=
 cwH func108 h<|ca1 4 call68<|nwh 1<|ca1 2 call163<|wa1 4 [8,9,23,24] (fun b=>[(25,(vi b))])<|fun {_ _ b}=>fun c=>br 0 1 (ix 1<|xe5<|lr 0<|nh 0<|sg 0 0 []<|lh 2 0 []<|ah<|xe2<|rn 0<|br 0 7 (ld 4<|rr 2)<|lgg 2 0 [] 5<|fo<|fun a=>cv 0 a<|xe2<|rt<|aah<|br 0 7 (ld 4<|rr 3)<|ld 5<|nwh 1<|xe2<|ef 0<|aah<|ssh 2<|je 2 1 c)<|ld 4<|rr 2
def m_J4(p1:Option Addr)(e:Option Addr)(d:Sl)(c:World)(K:Int->Int->Int->WP):Prop:=Br (((s_F2 p1 e d):Int) !=0) (∀a,Hst c None c None a->K 0 (s_F2 p1 e d) 0 a)<|∀a,Hst c None c None a->cl 108 #[(vp p1),(vp e),d.v] a (XN fun r1 r2 b=>Kept None a b/\Br (r2 !=0) (K 0 r2 (r1.len:Int) b) (∃a1:Addr,At r1 (q6.wrap<|(r1.len:Int)-1) 1 a1/\li b a1 fun f=>K f 0 0 b))
def w_J4(p1 k1 l1 w0 K)(h:m_J4 p1 k1 l1 w0 K):
  cl 52 #[(vp p1),(vp k1),l1.v] w0<|XJ K:=
 cwH func52 h<|cp 6 call107 (p_F2 p1 k1 l1)<|br 0 3 (an<|rr 5)<|an<|ca2 4 call108<|br 0 7 (rr 7)<|ix 5<|ld 0<|rr 3
def m_I1_j1(c:Int)(b:Addr)(e:Bool)(h:World)(H:NP)(w:World)(K:Int->Int->WP):Prop:=Br e (K 0 90 w)<|∀a,Hst h H w H a->lp a b fun f=>∃a1,f=some a1/\lx a (a1.add 1) fun d=>∃a2:Addr,At d c 1 a2/\li a a2 fun g=>K g 0 a
def m_I1(j e:Int)(i k:Int)(h:ByteArray)(a:Addr)(c:World)(K:Int->Int->WP):Prop:=Br (decide (e<0)) (∀d b,Hst c None c d b->m_I1_j1 e a true c d b K)<|∀d b,Hst c None c d b->lp b a fun g=>∃a3,g=some a3/\lx b (a3.add 1) fun f=>m_I1_j1 e a (decide (e>=(f.len:Int))) c d b K
def w_I1(aE aA aB aC aD cap1 w0 K)(h:m_I1 aE aA aB aC aD cap1 w0 K):
  cl 223 #[(.agg #[(vi aE),(vi aA),(vi aB),(vu aC),(vs aD)]),(vp<|some cap1)] w0<|XH K:=
 cwH func223 h<|nh 0<|ja1 2 0 [1,2] (fun a=>[(17,(vb a))]) (fun a H w=>m_I1_j1 _ _ a _ H w _) (fun b=>dq 0<|lh 1 0 [1]<|br 1 2 (ah<|je 9 0 b)<|lh 1 0 [1]<|ah<|ld 0<|nc 0<|ld 1<|je 3 0 b)<|fun {a}=>br 0 0 (rr 3)<|dq 1<|an<|ld 0<|nc 0<|ld 1<|lh 1 0 [1]<|ix 0<|ld 0<|rr 2
def m_K4(j f:Int)(i k:Int)(h:ByteArray)(a:Addr)(e:World)(K:Int->Int->WP):Prop:=∀d b,Hst e None e d b->lp b a fun g=>cl 225 #[(vp g),(vi f)] b<|XH fun r1 r2 c=>Kept d b c/\K r1 r2 c
def w_K4(aE aA aB aC aD cap1 w0 K)(h:m_K4 aE aA aB aC aD cap1 w0 K):
  cl 224 #[(.agg #[(vi aE),(vi aA),(vi aB),(vu aC),(vs aD)]),(vp<|some cap1)] w0<|XH K:=
 cwH func224 h<|nh 0<|ah<|ld 2<|lh 1 0 [1]<|ca2 0 call225<|rr 4
def m_L4(k h:Int)(j g:Int)(i:ByteArray)(a:Addr)(e:World)(K:Int->Int->WP):Prop:=∀d b,Hst e None e d b->lp b a fun f=>cl 227 #[(vp f),(vu g)] b<|XH fun r1 r2 c=>Kept d b c/\K r1 r2 c
def w_L4(aE aA aB aC aD cap1 w0 K)(h:m_L4 aE aA aB aC aD cap1 w0 K):
  cl 226 #[(.agg #[(vi aE),(vi aA),(vi aB),(vu aC),(vs aD)]),(vp<|some cap1)] w0<|XH K:=
 cwH func226 h<|nh 0<|ah<|ld 2<|lh 1 0 [3]<|ca2 0 call227<|rr 4
def m_M4(j h:Int)(i k:Int)(f:ByteArray)(a:Addr)(e:World)(K:Int->Int->WP):Prop:=∀d b,Hst e None e d b->lp b a fun g=>cl 229 #[(vp g),(vs f)] b<|XH fun r1 r2 c=>Kept d b c/\K r1 r2 c
def w_M4(aE aA aB aC aD cap1 w0 K)(h:m_M4 aE aA aB aC aD cap1 w0 K):
  cl 228 #[(.agg #[(vi aE),(vi aA),(vi aB),(vu aC),(vs aD)]),(vp<|some cap1)] w0<|XH K:=
 cwH func228 h<|nh 0<|ah<|ld 2<|lh 1 0 [4]<|ca2 0 call229<|rr 4
def m_N4(b:Option Addr)(i1:Int)(a:World)(K:Int->Bool->WP):Prop:=Br (decide (i1<0)) (K 0 false a)<|∃a1,b=some a1/\lx a (a1.add 2) fun d=>Br (decide (i1>=(d.len:Int))) (K 0 false a)<|∃a2,b=some a2/\lx a (a2.add 2) fun c=>∃a3:Addr,At c i1 1 a3/\li a a3 fun e=>K e true a
def w_N4(c1 i1 w0 K)(h:m_N4 c1 i1 w0 K):
  cl 231 #[(vp c1),(vi i1)] w0<|XE K:=
 cwN func231 h<|br 1 5 (rr 11)<|nc 2<|ld 1<|br 0 3 (rr 3)<|nc 2<|ld 1<|ix 1<|ld 0<|rr 2
def m_O4(t n:Int)(r u:Int)(v:ByteArray)(a c:Addr)(i:World)(K:Int->Int->WP):Prop:=∀d h,Hst i None i d h->lp h a fun s=>cl 231 #[(vp s),(vi n)] h fun e g=>∃r1 r2,e=.returned (.tuple #[(vi r1),(vb r2)])/\Kept d h g/\lp g a fun o=>cl 231 #[(vp o),(vi r)] g fun e j=>∃r3 k,e=.returned (.tuple #[(vi r3),(vb k)])/\Kept d g j/\Br ((!r2) ||(!k)) (∀f b,Hst i d j f b->K 0 90 b) (∀f b,Hst i d j f b->lp b c fun m=>cl 232 #[(vp m),(vi r1),(vi r3)] b<|XH fun p q l=>Kept f b l/\K p q l)
def w_O4(aE aA aB aC aD cap1 cap2 w0 K)(h:m_O4 aE aA aB aC aD cap1 cap2 w0 K):
  cl 230 #[(.agg #[(vi aE),(vi aA),(vi aB),(vu aC),(vs aD)]),(vp<|some cap1),(vp<|some cap2)] w0<|XH K:=
 cwH func230 h<|nh 0<|ah<|ld 2<|lh 1 0 [1]<|ca2 0 call231<|fun {_ r2}=>ld 5<|lh 1 0 [2]<|ca2 0 call231<|fun {_ c}=>pj 5 0 [(!r2)] [2,6,8] (fun b=>[(29,(vb<|(b 0) ||(!c)))]) (fun a=>pb 1 3 0 a (fun a=>pe 3 0 a)<|fun a=>pe 3 0 a)<|br 0 0 (ah<|rr 3)<|ah<|ld 1<|ca2 2 call232<|rr 4
def m_P4(p i:Int)(n o:Int)(m:ByteArray)(b c:Addr)(g:World)(K:Int->Int->WP):Prop:=∀f d,Hst g None g f d->lp d b fun k=>cl 231 #[(vp k),(vi i)] d fun e a=>∃r1 r2,e=.returned (.tuple #[(vi r1),(vb r2)])/\Kept f d a/\Br (!r2) (K 0 90 a) (lp a c fun j=>cl 234 #[(vp j),(vi r1)] a<|XH fun r3 l h=>Kept f a h/\K r3 l h)
def w_P4(aE aA aB aC aD cap1 cap2 w0 K)(h:m_P4 aE aA aB aC aD cap1 cap2 w0 K):
  cl 233 #[(.agg #[(vi aE),(vi aA),(vi aB),(vu aC),(vs aD)]),(vp<|some cap1),(vp<|some cap2)] w0<|XH K:=
 cwH func233 h<|nh 0<|ah<|ld 2<|lh 1 0 [1]<|ca2 0 call231<|br 0 7 (rr 3)<|ld 1<|ca2 1 call234<|rr 4
def m_Q4(h:Option Addr)(i1:Int)(c:World)(K:Int->Int->Int->Int->ByteArray->Int->Int->Bool->WP):Prop:=∀a d,Hst c None c a d->cl 231 #[(vp h),(vi i1)] d fun e b=>∃r1 r2,e=.returned (.tuple #[(vi r1),(vb r2)])/\Kept a d b/\Br (!r2) (∀p,Hst c a b a p->K 0 0 0 0 ⟨#[]⟩ 0 0 false p) (∃a1,h=some a1/\lp b a1 fun q=>cl 109 #[(vp q),(vi r1)] b fun e j=>∃m i k g o f l r3,e=.returned (.tuple #[(Ae m i k g o f l),(vb r3)])/\Kept a b j/\∀n,Hst c a j a n->K m i k g o f l r3 n)
def w_Q4(c1 i1 w0 K)(h:m_Q4 c1 i1 w0 K):
  cl 289 #[(vp c1),(vi i1)] w0<|fun e w'=>∃f b i a c g d j,e=.returned (.tuple #[(Ae f b i a c g d),(vb j)])/\K f b i a c g d j w':=
 cwH func289 h<|nh 0<|ah<|ca2 3 call231<|br 0 7 (sg 2 0 []<|an<|rss 1<|qgg 0 [] 7<|qee)<|nc 2<|ld 1<|cc 1 call109<|xe6<|xe2<|rt<|aah<|sg 2 0 []<|an<|rss 1<|qgg 0 [] 7<|qee
def m_R4(o:Option Addr)(r n:Int)(t s:Int)(u:ByteArray)(a:Bool)(d:World)(K:Int->Int->WP):Prop:=∀c h,Hst d None d c h->cl 289 #[(vp o),(vi n)] h fun e g=>∃k p l q m j i r1,e=.returned (.tuple #[(Ae k p l q m j i),(vb r1)])/\Kept c h g/\Br ((!r1) ||(k !=4)) (∀f b,Hst d c g f b->K 0 90 b) (Br a (∀f b,Hst d c g f b->K i 0 b)<|∀f b,Hst d c g f b->K j 0 b)
def w_R4(c1 aE aA aB aC aD second1 w0 K)(h:m_R4 c1 aE aA aB aC aD second1 w0 K):
  cl 236 #[(vp c1),(.agg #[(vi aE),(vi aA),(vi aB),(vu aC),(vs aD)]),(vb second1)] w0<|XH K:=
 cwH func236 h<|nh 0<|lh 4 0 [1]<|ah<|cc 0 call289<|xe6<|fun {c}=>xe2<|fun {_ r1}=>rt<|aah<|nh 3<|sg 0 0 []<|pj 1 0 [] [2,8] (fun b=>[(17,(vb<|(!r1) ||(c !=4)))]) (fun d=>ct 3 4<|pj 0 0 [(!r1)] [2,8] (fun b=>[(24,(vb<|(b 0) ||(c !=4)))]) (fun a=>pb 1 0 0 a (fun a=>pe 4 0 a)<|fun a=>lh 1 0 []<|pe 2 0 a)<|pe 1 0 d)<|br 0 0 (ah<|rr 3)<|br 0 3 (lh 2 0 [6]<|ah<|rr 2)<|lh 2 0 [5]<|ah<|rr 2
def m_S4(j f:Int)(h k:Int)(g:ByteArray)(a:Addr)(e:World)(K:Int->Int->WP):Prop:=∀d b,Hst e None e d b->lp b a fun i=>cl 236 #[(vp i),(.agg #[(vi j),(vi f),(vi h),(vu k),(vs g)]),(vb false)] b<|XH fun r1 r2 c=>Kept d b c/\K r1 r2 c
def w_S4(aE aA aB aC aD cap1 w0 K)(h:m_S4 aE aA aB aC aD cap1 w0 K):
  cl 235 #[(.agg #[(vi aE),(vi aA),(vi aB),(vu aC),(vs aD)]),(vp<|some cap1)] w0<|XH K:=
 cwH func235 h<|nh 0<|ah<|ld 2<|lgg 0 0 [] 5<|ca2 0 call236<|rr 4
def m_T4(j f:Int)(h k:Int)(g:ByteArray)(a:Addr)(e:World)(K:Int->Int->WP):Prop:=∀d b,Hst e None e d b->lp b a fun i=>cl 236 #[(vp i),(.agg #[(vi j),(vi f),(vi h),(vu k),(vs g)]),(vb true)] b<|XH fun r1 r2 c=>Kept d b c/\K r1 r2 c
def w_T4(aE aA aB aC aD cap1 w0 K)(h:m_T4 aE aA aB aC aD cap1 w0 K):
  cl 237 #[(.agg #[(vi aE),(vi aA),(vi aB),(vu aC),(vs aD)]),(vp<|some cap1)] w0<|XH K:=
 cwH func237 h<|nh 0<|ah<|ld 2<|lgg 0 0 [] 5<|ca2 0 call236<|rr 4
def m_U4(m:Option Addr)(q l:Int)(s r:Int)(t:ByteArray)(d:World)(K:Int->Int->WP):Prop:=∀b h,Hst d None d b h->cl 289 #[(vp m),(vi l)] h fun e g=>∃c o j p k i n r1,e=.returned (.tuple #[(Ae c o j p k i n),(vb r1)])/\Kept b h g/\Br ((!r1) ||(((c !=7)&&(c !=8))&&(c !=9))) (∀f a,Hst d b g f a->K 0 90 a) (∀f a,Hst d b g f a->K i 0 a)
def w_U4(c1 aE aA aB aC aD w0 K)(h:m_U4 c1 aE aA aB aC aD w0 K):
  cl 238 #[(vp c1),(.agg #[(vi aE),(vi aA),(vi aB),(vu aC),(vs aD)])] w0<|XH K:=
 cwH func238 h<|nh 0<|lh 4 0 [1]<|ah<|cc 0 call289<|xe6<|fun {a}=>xe2<|fun {_ r1}=>rt<|aah<|nh 3<|sg 0 0 []<|pj 1 0 [(!r1)] [6] (fun b=>[(31,(vb<|(b 0) ||(((a !=7)&&(a !=8))&&(a !=9))))]) (fun c=>pb 1 3 0 c (fun c=>pe 14 0 c)<|fun c=>lh 1 0 []<|ct 2 4<|pj 0 0 [(a !=7)] [6,17] (fun b=>[(25,(vb<|(b 0)&&(a !=8)))]) (fun d=>pb 1 0 0 d (fun d=>lh 1 0 []<|pe 2 0 d)<|fun d=>pe 4 0 d)<|ct 1 4<|pj 0 0 [((a !=7)&&(a !=8))] [6,17] (fun b=>[(30,(vb<|(b 0)&&(a !=9)))]) (fun e=>pb 1 0 0 e (fun e=>lh 1 0 []<|pe 2 0 e)<|fun e=>pe 4 0 e)<|pe 1 0 c)<|br 0 0 (ah<|rr 3)<|lh 2 0 [5]<|ah<|rr 2
def m_V4(m:Option Addr)(A t:Int)(z B:Int)(C:ByteArray)(d:Value)(g:World)(K:Int->Int->WP):Prop:=∀c k,Hst g None g c k->cl 231 #[(vp m),(vi t)] k fun e j=>∃r1 r2,e=.returned (.tuple #[(vi r1),(vb r2)])/\Kept c k j/\cl 289 #[(vp m),(vi z)] j fun e l=>∃o n q y r x v r3,e=.returned (.tuple #[(Ae o n q y r x v),(vb r3)])/\Kept c j l/\Br (((!r2) ||(!r3)) ||(o !=6)) (∀i a,Hst g c l i a->K 0 90 a) (∃(h:FuncId) (b f:Array Value),d=.func (.func h) b f/\∀i a,Hst g c l i a->(∀args w,(callFunc h args).run prog w=.ok (.enter h args) w)/\Calls prog h (b++#[(vi n),(vi r1)]++f) a (XH fun s u p=>Kept i a p/\K s u p))
def w_V4(c1 aE aA aB aC aD how1 w0 K)(h:m_V4 c1 aE aA aB aC aD how1 w0 K):
  cl 240 #[(vp c1),(.agg #[(vi aE),(vi aA),(vi aB),(vu aC),(vs aD)]),how1] w0<|XH K:=
 cwH func240 h<|nh 0<|lh 4 0 [1]<|ah<|ca2 0 call231<|fun {_ r2}=>lh 7 0 [2]<|cc 0 call289<|xe6<|fun {e}=>xe2<|fun {_ r3}=>rt<|aah<|nh 3<|sg 0 0 []<|pj 1 0 [((!r2) ||(!r3))] [2,8,10] (fun b=>[(36,(vb<|(b 0) ||(e !=6)))]) (fun c=>ct 3 3<|pj 0 0 [(!r2)] [2,8,10] (fun b=>[(31,(vb<|(b 0) ||(!r3)))]) (fun a=>pb 1 0 0 a (fun a=>pe 3 0 a)<|fun a=>pe 3 0 a)<|pb 1 1 0 c (fun c=>pe 4 0 c)<|fun c=>lh 1 0 []<|pe 2 0 c)<|br 0 0 (ah<|rr 3)<|lh 3 0 [1]<|fo<|fun d=>ah<|cv 1 d<|xe2<|rt<|aah<|rr 4
def m_W4(l g:Int)(j m:Int)(i:ByteArray)(a b:Addr)(f:World)(K:Int->Int->WP):Prop:=∀e c,Hst f None f e c->lp c a fun k=>lp c b fun h=>cl 240 #[(vp k),(.agg #[(vi l),(vi g),(vi j),(vu m),(vs i)]),(.func (.func 241) #[(vp h)] #[])] c<|XH fun r1 r2 d=>Kept e c d/\K r1 r2 d
def w_W4(aE aA aB aC aD cap1 cap2 w0 K)(h:m_W4 aE aA aB aC aD cap1 cap2 w0 K):
  cl 239 #[(.agg #[(vi aE),(vi aA),(vi aB),(vu aC),(vs aD)]),(vp<|some cap1),(vp<|some cap2)] w0<|XH K:=
 cwH func239 h<|nh 0<|ah<|ld 2<|lgg 0 0 [] 5<|ld 0<|ca2 1 call240<|rr 4
def m_X4(m i:Int)(k o:Int)(j:ByteArray)(a b:Addr)(n:World)(K:Int->Int->WP):Prop:=∀p1 c,New n (.cells #[(vi m),(vi i),(vi k),(vu o),(vs j)] 88) p1 c->lp c a fun l=>∃f h g e d,Row c p1 [(vi f),(vi h),(vi g),(vu e),(vs d)]/\cl 240 #[(vp l),(.agg #[(vi f),(vi h),(vi g),(vu e),(vs d)]),(.func (.func 243) #[] #[(vp<|some b),(vp<|some p1)])] c (XH K)
def w_X4(aE aA aB aC aD cap1 cap2 w0 K)(h:m_X4 aE aA aB aC aD cap1 cap2 w0 K):
  cl 242 #[(.agg #[(vi aE),(vi aA),(vi aB),(vu aC),(vs aD)]),(vp<|some cap1),(vp<|some cap2)] w0<|XH K:=
 cwN func242 h<|nwn 0<|ld 2<|xe5<|lr 0<|cn2 1 call240<|rr 4
def s_O2(n1:Int):Int:=(cond (decide (n1>2147483648)) (-1)<|q6.wrap n1)
def p_O2(n1:Int)(c:World):cl 245 #[(.int .u64 n1)] c (fun e w'=>e=.returned (.int .i64<|s_O2 n1)/\Pure c w'):=
 cwp func245 [(decide (n1>2147483648))] (fun b=>(vi<|cond (b 0) (-1)<|q6.wrap n1)) fun a=>pb 0 3 0 a (fun a=>qpe 2 a)<|fun a=>qpe 4 a
def m_Y4(d a1:Int)(b c:Addr)(k:World)(K:Int->Int->WP):Prop:=∃a:WP,a k.drew/\∀g,g=k.drew->∃j,(∀w',a w'->w'.cell? b=some (vp j))/\∃i,(∀w',a w'->w'.cell? (c.add 3)=some (vu i))/\cl 245 #[(vu i)] g fun e f=>∃r1,e=.returned (vi r1)/\a f/\Kept None g f/\cl 244 #[(vp j),(vi d),(vi r1),(vi a1)] f (XH fun r2 r3 h=>a h/\Kept None f h/\K r2 r3 h)
def w_Y4(who1 a1 cap1 cap2 w0 K)(h:m_Y4 who1 a1 cap1 cap2 w0 K):
  cl 243 #[(vi who1),(vi a1),(vp<|some cap1),(vp<|some cap2)] w0<|XH K:=
 cwH func243 h<|dC 2 [4,6] []<|ldc 0<|ldc 2<|cd1 1 call245<|cd2 0 call244<|rr 4
def m_Z4(m i:Int)(k o:Int)(j:ByteArray)(a b:Addr)(n:World)(K:Int->Int->WP):Prop:=∀p1 c,New n (.cells #[(vi m),(vi i),(vi k),(vu o),(vs j)] 88) p1 c->lp c a fun l=>∃f h g e d,Row c p1 [(vi f),(vi h),(vi g),(vu e),(vs d)]/\cl 240 #[(vp l),(.agg #[(vi f),(vi h),(vi g),(vu e),(vs d)]),(.func (.func 247) #[] #[(vp<|some b),(vp<|some p1)])] c (XH K)
def w_Z4(aE aA aB aC aD cap1 cap2 w0 K)(h:m_Z4 aE aA aB aC aD cap1 cap2 w0 K):
  cl 246 #[(.agg #[(vi aE),(vi aA),(vi aB),(vu aC),(vs aD)]),(vp<|some cap1),(vp<|some cap2)] w0<|XH K:=
 cwN func246 h<|nwn 0<|ld 2<|xe5<|lr 0<|cn2 1 call240<|rr 4
def m_A5(d a1:Int)(b c:Addr)(k:World)(K:Int->Int->WP):Prop:=∃a:WP,a k.drew/\∀g,g=k.drew->∃j,(∀w',a w'->w'.cell? b=some (vp j))/\∃i,(∀w',a w'->w'.cell? (c.add 3)=some (vu i))/\cl 245 #[(vu i)] g fun e f=>∃r1,e=.returned (vi r1)/\a f/\Kept None g f/\cl 248 #[(vp j),(vi r1),(vi d),(vi a1)] f (XH fun r2 r3 h=>a h/\Kept None f h/\K r2 r3 h)
def w_A5(who1 a1 cap1 cap2 w0 K)(h:m_A5 who1 a1 cap1 cap2 w0 K):
  cl 247 #[(vi who1),(vi a1),(vp<|some cap1),(vp<|some cap2)] w0<|XH K:=
 cwH func247 h<|dC 2 [3,6] []<|ldc 0<|ldc 1<|cd1 2 call245<|cd2 0 call248<|rr 4
end Go.Proofs
end
section
open Go Go.SE List
namespace Go.Proofs
open Tryz
attribute [local irreducible] Calls
abbrev DoPost(p:Addr)(F:NP)(w:World)(R:Res)(e:Ending)(w':World):Prop:=
 ∃r1:Int,∃r2:Int,e=.returned (.tuple #[vi r1,vi r2])/\((r1,r2)=(R.1,R.2.1)/\∃F',zD w' p R.2.2 F'/\Ext F w w'/\∀b,F' b->F b\/w.heap.size<=b)
section
variable (p:Addr) (w0:World) {L:Pool} {F:NP} (hP:zD w0 p L F) (hok:Ok L)
include hP hok
def c_Prom(n t a):cl 244 #[vp<|some p,vi n,vi t,vi a] w0 (MakePost p L F w0 ⟨8,n,t,0,⟨#[]⟩,a,0⟩):=by
 refine w_A4 _ _ _ _ w0 (fun r1 r2 w'=>(r1,r2)=((make L ⟨8,n,t,0,⟨#[]⟩,a,0⟩).1,(make L ⟨8,n,t,0,⟨#[]⟩,a,0⟩).2.1)/\∃F',zD w' p (make L ⟨8,n,t,0,⟨#[]⟩,a,0⟩).2.2 F'/\Ext F w0 w'/\∀b,F' b->F b\/w0.heap.size<=b) ?_;refine(jBN p _ _ _ _ _ _ _ w0 hP hok).mono ?_;rintro _ c ⟨r1,r2,rfl,h⟩;exact⟨r1,r2,rfl,h⟩
def c_Fake(n t a):cl 248 #[vp<|some p,vi n,vi t,vi a] w0 (MakePost p L F w0 ⟨9,n,t,0,⟨#[]⟩,a,0⟩):=by
 refine w_B4 _ _ _ _ w0 (fun r1 r2 w'=>(r1,r2)=((make L ⟨9,n,t,0,⟨#[]⟩,a,0⟩).1,(make L ⟨9,n,t,0,⟨#[]⟩,a,0⟩).2.1)/\∃F',zD w' p (make L ⟨9,n,t,0,⟨#[]⟩,a,0⟩).2.2 F'/\Ext F w0 w'/\∀b,F' b->F b\/w0.heap.size<=b) ?_;refine(jBN p _ _ _ _ _ _ _ w0 hP hok).mono ?_;rintro _ c ⟨r1,r2,rfl,h⟩;exact⟨r1,r2,rfl,h⟩
def c_Data(x):cl 229 #[vp<|some p,vs x] w0 (MakePost p L F w0 ⟨3,0,0,0,x,0,0⟩):=by
 refine w_W3 _ _ w0 (fun r1 r2 w'=>(r1,r2)=((make L ⟨3,0,0,0,x,0,0⟩).1,(make L ⟨3,0,0,0,x,0,0⟩).2.1)/\∃F',zD w' p (make L ⟨3,0,0,0,x,0,0⟩).2.2 F'/\Ext F w0 w'/\∀b,F' b->F b\/w0.heap.size<=b) ?_;refine(jBN p _ _ _ _ _ _ _ w0 hP hok).mono ?_;rintro _ a ⟨r1,r2,rfl,h⟩;exact⟨r1,r2,rfl,h⟩
end
def oK(o:Op):List Value:=[vi o.code,vi o.a,vi o.b,vu o.num,vs o.text]
def opv(o:Op):Value:=.agg #[vi o.code,vi o.a,vi o.b,vu o.num,vs o.text]
structure CookS(w:World)(c p:Addr)(sg sm:Sl)(G M:List Int):Prop where
 box:Box w c [vp<|some p,sg.v,sm.v] 241
 giv:Rws w 73 1 sg (tmr G)
 made:Rws w 73 1 sm (tmr M)
def zIO(c:Addr)(sg sm:Sl)(b:Nat):Prop:=b=c.block\/sg.blk b\/sm.blk b
section
variable {w w':World} {c p:Addr} {sg sm:Sl} {G M:List Int}
def CookS.ext{X}(h:CookS w c p sg sm G M)(d:Ext X w w')(e:∀b,zIO c sg sm b->¬X b):CookS w' c p sg sm G M:=
 ⟨h.box.ext d<|e _<|.inl rfl,h.giv.ext d fun b a=>e _<|.inr<|.inl a,h.made.ext d fun b a=>e _<|.inr<|.inr a⟩
def CookS.pure(h:CookS w c p sg sm G M)(a:Pure w w'):CookS w' c p sg sm G M:=h.ext a fun _ _ h=>h
def CookS.lt(h:CookS w c p sg sm G M){b}(a:zIO c sg sm b):b<w.heap.size:=by
 rcases a with rfl|a|a;exact h.box.lt;exact h.giv.lt a;exact h.made.lt a
end
def jIU{w e s ts}(h:Rws w e 1 s (tmr ts)){i t}(hi:atM ts i=some t):∃a,At s i 1 a/\w.cell? a=some (vi t):=by
 obtain⟨b,h1,rfl⟩:=jUX hi;have⟨a,h2,h3,_⟩:=h.at b (by simpa[tmr]using h1);exact⟨a,h2,jBB<|by simpa[tmr]using h3⟩
section
variable {w0:World} {c p:Addr} {sg sm:Sl} {G M:List Int} (hC:CookS w0 c p sg sm G M)
include hC
def jCP(i):cl 231 #[vp<|some c,vi i] w0 (XE fun r ok w'=>(match atM M i with|none=>r=0/\ok=false|some t=>r=t/\ok=true)/\w'=w0):=by
 refine w_N4 _ _ w0 (fun r ok w'=>(match atM M i with|none=>r=0/\ok=false|some t=>r=t/\ok=true)/\w'=w0) ?_;unfold m_N4;have f:sm.len=M.length:=by rw[hC.made.len,zY]
 refine⟨fun h=>?_,fun h=>?_⟩;rw[jBK<|.inl<|of_decide_eq_true h];exact⟨⟨rfl,rfl⟩,rfl⟩;have h:=of_decide_eq_false h;refine⟨c,rfl,sm,hC.box.cell rfl,fun h1=>?_,fun h1=>?_⟩;rw[jBK<|.inr Gd];exact⟨⟨rfl,rfl⟩,rfl⟩;have h1:=of_decide_eq_false h1;have e:atM M i=some (M[i.toNat]' Om):=jBO Om Om;have⟨a,b,d⟩:=jIU hC.made e;refine⟨c,rfl,sm,hC.box.cell rfl,a,b,_,d,?_⟩;rw[e];exact⟨⟨rfl,rfl⟩,rfl⟩
variable {L:Pool} {F:NP} (hP:zD w0 p L F) (hok:Ok L)
include hP hok
def jEJ(i):cl 289 #[vp<|some c,vi i] w0
  (XL fun k f l u x a b r w'=>((⟨k,f,l,u,x,a,b⟩:Node)=nodeAt L M i/\(r=false->nodeAt L M i=xL))/\Pure w0 w'):=by
 refine w_Q4 _ _ w0 _ ?_
 intro w s g
 have d:=g.first
 refine(jCP (hC.pure d) i).mono ?_
 rintro _ _ ⟨r,ok,rfl,hr,rfl⟩
 refine⟨_,_,rfl,Kept.refl _,?_⟩
 unfold nodeAt
 cases ht:atM M i with
 |none =>
  rw[ht]at hr;obtain⟨rfl,rfl⟩:=hr
  exact Br.t rfl fun n h=>⟨⟨rfl,fun _=>rfl⟩,d.hst h⟩
 |some t =>
  rw[ht]at hr;obtain⟨rfl,rfl⟩:=hr
  refine Br.f rfl ⟨c,rfl,some p,(hC.pure d).box.cell0,?_⟩
  refine(jDK p r _ (hP.pure d) hok).mono ?_
  rintro _ q ⟨k,f,l,u,x,a,b,o,rfl,⟨h1,h2⟩,j⟩
  refine⟨_,_,_,_,_,_,_,_,rfl,j.keptP,fun v e=>⟨⟨h1,fun m=>?_⟩,(d.trans j).hst e⟩⟩
  exact jLM<|h2.symm.trans m
def jKN(o s):cl 236 #[vp<|some c,opv o,vb s] w0 (DoPost p F w0<|yJ L M o s):=by
 have⟨e,oa,g,on,j⟩:=o;refine w_R4 _ _ _ _ _ _ _ w0 (fun r1 r2 w'=>(r1,r2)=((yJ L M ⟨e,oa,g,on,j⟩ s).1,(yJ L M ⟨e,oa,g,on,j⟩ s).2.1)/\∃F',zD w' p (yJ L M ⟨e,oa,g,on,j⟩ s).2.2 F'/\Ext F w0 w'/\∀b,F' b->F b\/w0.heap.size<=b) ?_;intro z B l;have i:=l.first;refine(jEJ (hC.pure i) (hP.pure i) hok oa).mono ?_;rintro _ v ⟨k,f,A,u,x,a,b,r,rfl,⟨y,hr⟩,n⟩;refine⟨_,_,_,_,_,_,_,_,rfl,n.keptP,?_⟩;have d:∀{H' w'},Hst w0 z v H' w'->∃F',zD w' p L F'/\Ext F w0 w'/\∀b,F' b->F b\/w0.heap.size<=b:=fun hs=>by
  have E:=(i.trans n).hst hs;exact⟨F,hP.pure E,E.pure,fun b t=>.inl t⟩
 unfold yJ;simp only;rw[<-y]at hr|-;refine⟨fun h=>fun H w hs=>?_,fun h=>?_⟩
 .rw[if_neg]
  .exact⟨rfl,d hs⟩
  .intro m;simp only at m;subst m;have:r=false:=by simpa using h
   have:=hr this;simp[xL]at this
 .have q:k=4:=Gd;rw[if_pos q];refine⟨fun h=>?_,fun h=>?_⟩<;>subst h<;>exact fun H w hs=>⟨rfl,d hs⟩
def jQZ(o):cl 238 #[vp<|some c,opv o] w0 (DoPost p F w0<|xA L M o):=by
 have⟨l,oa,s,on,i⟩:=o;refine w_U4 _ _ _ _ _ _ w0 (fun r1 r2 w'=>(r1,r2)=((xA L M ⟨l,oa,s,on,i⟩).1,(xA L M ⟨l,oa,s,on,i⟩).2.1)/\∃F',zD w' p (xA L M ⟨l,oa,s,on,i⟩).2.2 F'/\Ext F w0 w'/\∀b,F' b->F b\/w0.heap.size<=b) ?_;intro A J m;have q:=m.first;refine(jEJ (hC.pure q) (hP.pure q) hok oa).mono ?_;rintro _ B ⟨k,f,K,u,x,a,b,r,rfl,⟨C,hr⟩,v⟩;refine⟨_,_,_,_,_,_,_,_,rfl,v.keptP,?_⟩;have e:∀{H' w'},Hst w0 A B H' w'->∃F',zD w' p L F'/\Ext F w0 w'/\∀b,F' b->F b\/w0.heap.size<=b:=fun hs=>by
  have E:=(q.trans v).hst hs;exact⟨F,hP.pure E,E.pure,fun b z=>.inl z⟩
 unfold xA;simp only;rw[<-C]at hr|-;have g:qO k=!((((k:Int) !=7)&&((k:Int) !=8))&&((k:Int) !=9)):=by
  unfold qO;by_cases I:k=7<;>by_cases y:k=8<;>by_cases D:k=9<;>simp[bne,I,y,D]
 refine⟨fun h=>fun H w hs=>?_,fun h=>fun H w hs=>?_⟩
 .rw[if_neg]
  .exact⟨rfl,e hs⟩
  .intro j;simp only at j;rw[g]at j;have d:((((k:Int) !=7)&&((k:Int) !=8))&&((k:Int) !=9))=false:=by simpa only[Bool.not_eq_true']using j
   rw[d,Bool.or_false]at h;have n:r=false:=by simpa using h
   have t:=hr n;simp only[xL,Node.mk.injEq]at t;rw[t.1]at d;revert d;decide
 .have G : qO k = true:=by
   rw[Bool.or_eq_false_iff]at h;rw[g,h.2];rfl
  rw[if_pos G];exact⟨rfl,e hs⟩
def jCO(o f1 fs cs)(mk:Int->Int->Node)(J:∀args w,(callFunc f1 args).run prog w=.ok (.enter f1 args) w)(y:∀(k a:Int) (j:World),Pure w0 j->Calls prog f1 (fs++#[vi k,vi a]++cs) j (MakePost p L F j<|mk k a)):
  cl 240 #[vp<|some c,opv o,.func (.func f1) fs cs] w0<|DoPost p F w0<|vM L M o mk:=by
 have⟨Q,oa,A,on,P⟩:=o
 refine w_V4 _ _ _ _ _ _ _ w0 _ ?_
 intro C j s
 have i:=s.first
 refine(jCP (hC.pure i) oa).mono ?_
 rintro _ _ ⟨O,z,rfl,d,rfl⟩
 refine⟨_,_,rfl,Kept.refl _,?_⟩
 refine(jEJ (hC.pure i) (hP.pure i) hok A).mono ?_
 rintro _ G ⟨k,f,S,u,x,a,b,r,rfl,⟨I,hr⟩,m⟩
 refine⟨_,_,_,_,_,_,_,_,rfl,m.keptP,?_⟩
 have g:∀{H' w'},Hst w0 C G H' w'->∃F',zD w' p L F'/\Ext F w0 w'/\∀b,F' b->F b\/w0.heap.size<=b:=fun hs=>by
  have E:=(i.trans m).hst hs;exact⟨F,hP.pure E,E.pure,fun b e=>.inl e⟩
 unfold vM
 simp only
 rw[<-I]at hr|-
 have v:k=6->r=true:=fun q=>by
  cases r with
  |true=>rfl
  |false=>have:=hr rfl;simp only[xL,Node.mk.injEq]at this;omega
 cases ht:atM M oa with
 |none =>
  rw[ht]at d;obtain⟨rfl,rfl⟩:=d
  exact Br.t Sm fun H w hs=>⟨rfl,g hs⟩
 |some t =>
  rw[ht]at d;obtain⟨rfl,rfl⟩:=d
  simp only
  refine⟨fun h=>fun H w hs=>?_,fun h=>?_⟩
  .rw[if_neg]
   .exact⟨rfl,g hs⟩
   .intro q
    rw[v q,q]at h
    revert h;decide
  .have N:k=6:=Gd
   rw[if_pos N]
   refine⟨f1,fs,cs,rfl,fun H w hs=>⟨J,?_⟩⟩
   have E:=(i.trans m).hst hs
   refine(y f O w E).mono ?_
   rintro _ R ⟨B,D,rfl,h1,F',n,X,l⟩
   exact⟨B,D,rfl,X.kept fun b e K=>Oi (hs.old b e)<|hP.lt K,h1,F',n,(E.pure (F:=F)).trans X,fun b e=>(l b e).imp_right fun h=>Oh E.size⟩
end
end Go.Proofs
end
section
open Go Go.SE
namespace Go.Proofs
open Tryz
attribute [local irreducible] Calls
def uP(t:Tree)(s:Sl):List Value:=[vi t.node.kind,vi t.node.frm,vi t.node.to,vu t.node.num,vs t.node.text,s.v]
inductive TreeAt(S:NP)(w:World):Sl->Tree->Prop
 | mk (k f t u : Int) (x : ByteArray) (b : List Tree) (s : Sl) (rs : Nat -> Sl) (len : s.len = b.length) (c : b.length <= 9223372036854775807)
   (row:∀i (h:i<b.length),∃a,At s i 6 a/\S a.block/\Row w a (uP b[i]<|rs i)) (kid:∀i (h:i<b.length),TreeAt S w (rs i) b[i]):TreeAt S w s (.mk k f t u x b)
def TreeAt.ext{S F w w' s t}(h:TreeAt S w s t)(g:Ext F w w')(d:∀b,S b->¬F b):TreeAt S w' s t:=by
 induction h with
 |mk k f t u x j s rs len c row kid e =>
  exact .mk k f t u x j s rs len c (fun i h=>let ⟨a,h1,h2,h3⟩:=row i h;⟨a,h1,h2,g.row h3<|d _ h2⟩) e
def TreeAt.pure{S w w' s t}(h:TreeAt S w s t)(a:Pure w w'):TreeAt S w' s t:=h.ext a fun _ _ h=>h
def TreeAt.mono{S S' w s t}(h:TreeAt S w s t)(e:∀b,S b->S' b):TreeAt S' w s t:=by
 induction h with
 |mk k f t u x d s rs len a row kid c =>
  exact .mk k f t u x d s rs len a Gd c
def TreeAt.lt{S w s t}(h:TreeAt S w s t):TreeAt (fun b=>S b/\b<w.heap.size) w s t:=by
 induction h with
 |mk k f t u x g s rs len c row kid d =>
  refine .mk k f t u x g s rs len c (fun i h=>let ⟨a,h1,h2,h3⟩:=row i h;⟨a,h1,⟨h2,?_⟩,h3⟩) d
  have:=h3 0 (by simp[uP])
  unfold World.cell? at this
  refine Classical.byContradiction fun e=>?_
  have:w.heap[(a.add 0).block]?=none:=by rw[zG];exact Array.getElem?_eq_none Om
  simp_all[uP]
def jUT(k f t u:Int)(x:ByteArray)(s:Sl)(w:World):
  cl 175 #[.agg #[vi k,vi f,vi t,vu u,vs x,s.v]] w
   (XO fun k' d h e i a b w'=>(⟨k',d,h,e,i,a,b⟩:Node)=⟨k,f,t,u,x,0,0⟩/\Pure w w'):=by
 refine w_S3 _ _ _ _ _ _ w _ ?_
 intro p1 g h1 j l h2
 have c:Pure w g:=Ext.new h1
 have b1:=(Box.of_new h1).pure<|Ext.new h2
 refine⟨_,b1.cell0,_,b1.cell rfl,_,b1.cell rfl,_,b1.cell rfl,_,b1.cell rfl,?_⟩
 exact bx 7 (Box.of_new h2) rfl rfl fun w' b E=>⟨_,_,_,_,_,_,_,b.row,rfl,(c.trans<|Ext.new h2).own (New.own c h2) E⟩
def jLO(t):∀i n:Int,0<=n->0<=(qK i n t).2:=by
 induction t using Tree.ind with
 |h k f t u x a c =>
  have:∀(a:List Tree),(∀i (hi:i<a.length),∀j n:Int,0<=n->0<=(qK j n a[i]).2)->∀i e n:Int,0<=n->0<=(vF i e n a).2:=by
   intro a;induction a with
   |nil=>intro _ i e n h;simpa[vF]using h
   |cons t ts b =>
    intro hh i e n h
    unfold vF
    split
    exact b (fun i hi=>hh (i+1)<|by simpa using hi) _ _ _ (hh 0 Sm i n h)
    exact h
  intro i n h
  unfold qK
  split
  exact h
  grind
def jFJ{a:List Tree}{j:Nat}(b:j<a.length)(i n:Int):vF i 0 n (a.drop j)=vF i (qK i n a[j]).1 (qK i n a[j]).2 (a.drop<|j+1):=by
 rw[List.drop_eq_getElem_cons b,vF,if_pos rfl]
def jHE{ks e}(h:e≠0)(i n):vF i e n ks=(e,n):=by
 cases ks<;>simp[vF,h]
def zHR{S:NP}(q:Addr)(hq:¬ S q.block)(T:TypeId)(t:Tree):∀(s:Sl) (c seen:Int) (w:World),0<=c->0<=seen->TreeAt S w s t->Box w q [vi seen] T ->
  cl 124 #[.agg (uP t s).toArray,vi c,vp<|some q] w
   (XB fun r w'=>r=(qK c seen t).1/\Box w' q [vi (qK c seen t).2] T/\Ext (·=q.block) w w'):=by
 induction t using Tree.ind with
 |h k f t u x d ih =>
 intro s c seen w hi0 hn0 hT hB
 suffices key:∀K:Int->WP,(∀r w',(r=(qK c seen<|.mk k f t u x d).1/\Box w' q [vi (qK c seen<|.mk k f t u x d).2] T/\Ext (·=q.block) w w')->K r w')->m_L k f t u x s c (some q) w K from
  w_L _ _ _ _ _ _ _ _ w _<|key _ fun _ _ h=>h
 intro K C
 intro p1 w1 h1
 have b1:=Box.of_new h1
 have W:Pure w w1:=Ext.new h1
 have n1:q.block≠p1.block:=New.ne h1 hB.blk
 have m:=hB.pure W
 have V:=hT.pure W
 refine⟨q,rfl,seen,m.cell0,fun h=>?_,fun h=>⟨fun P=>?_,fun P=>?_⟩⟩
 .have h:=of_decide_eq_true h
  have:qK c seen (.mk k f t u x d)=(52,seen):=by rw[qK,if_pos Om]
  rw[this]at C;exact C _ _ ⟨rfl,m,W.pure⟩
 .have h:=of_decide_eq_false h;have P:=of_decide_eq_true P
  have:qK c seen (.mk k f t u x d)=(52,seen):=by rw[qK,if_neg Om,if_pos Om]
  rw[this]at C;exact C _ _ ⟨rfl,m,W.pure⟩
 have h:=of_decide_eq_false h;have P:=of_decide_eq_false P
 have hsp:qK c seen (.mk k f t u x d)=vF (c+1) (uA ⟨k,f,t,u,x,0,0⟩ d.length) (seen+1) d:=by rw[qK,if_neg Om,if_neg Om]
 rw[hsp]at C
 refine⟨q,rfl,seen,m.cell0,q,rfl,m.canW0 Sm,?_⟩
 rw[i64 (n:=seen+1) Om Om]
 intro B G
 have hB2:Box B q [vi<|seen+1] T:=by rw[G];exact m.set0
 have A:Ext (·=q.block) w1 B:=by rw[G];exact Ext.setCell q _
 clear G
 have b2:=b1.ext A fun e=>n1 e.symm
 have O:=V.ext A fun b hb e=>hq<|e▸hb
 have E2:Ext (·=q.block) w B:=W.pure.trans A
 refine⟨_,_,_,_,_,_,b2.row,?_⟩
 refine(jUT _ _ _ _ _ _ B).mono ?_
 rintro _ w3 ⟨k',f',t',u',x',a',b',rfl,hn,y⟩
 cases hn
 refine⟨_,_,_,_,_,_,_,rfl,?_⟩
 intro p2 w4 L
 have n2:p1.block≠p2.block:=New.ne L (b2.pure y).blk
 have J:Pure B w4:=y.trans<|Ext.new L
 have o2:=New.own y L
 refine bx 7 (Box.of_new L) rfl rfl fun w5 Z N=>?_
 have H:Pure B w5:=J.own o2 N
 refine⟨_,_,_,_,_,_,_,Z.row,?_⟩
 refine(zAQ _ _ _ _ _ _ _ w5).mono ?_
 rintro _ w6 ⟨s1,s2,s3,s4,X,pe,rfl,⟨hs,hpe⟩,v⟩
 refine⟨_,_,_,_,_,_,rfl,?_⟩
 intro p3 w7 I
 have n3:p2.block≠p3.block:=New.ne I (Z.pure v).blk
 have U:Pure B w7:=(H.trans v).trans<|Ext.new I
 have o3:=New.own (H.trans v) I
 refine bx 5 (Box.of_new I) rfl rfl fun M c3 D=>?_
 have z:Pure B M:=U.own o3 D
 have d2:=((Z.pure v).pure<|Ext.new I).ext D n3
 have d1:=b2.pure z
 have hB8:=hB2.pure z
 have hT8:=O.pure z
 have E8:Ext (·=q.block) w M:=E2.thenPure z
 clear D U v H N J y A Z b2 b1 O V m h1 L I
 have hlen:s.len=d.length:=by cases hT;assumption
 have hfit:d.length<=9223372036854775807:=by cases hT;assumption
 have hsh:shapeOf k=⟨s1,s2,s3,s4,X⟩:=hs.symm
 have J3:∀e w',Pure M w'->e=uA ⟨k,f,t,u,x,0,0⟩ d.length->m_L_j3 c (some q) p1 e w' K:=by
  intro e w' E g;rw[<-g]at C;refine⟨fun e i w'=>∃j:Nat,i=j/\j<=d.length/\∃n:Int,0<=n/\Ext (·=q.block) M w'/\Box w' q [vi n] T/\vF (c+1) e n (d.drop j)=vF (c+1) (uA ⟨k,f,t,u,x,0,0⟩ d.length) (seen+1) d,fun _ i _=>((d.length:Int)-i).toNat,⟨0,rfl,Nat.zero_le _,seen+1,Om,E.pure,hB8.pure E,by rw[g];rfl⟩,?_⟩;rintro p _ wl ⟨j,rfl,hj,n,hn,Y,R,o⟩;unfold m_L_l4;have dl:=d1.ext Y fun e=>n1 e.symm;have hTl:=hT8.ext Y fun b hb e=>hq<|e▸hb;rw[<-g]at o;have Q:∀n',vF (c+1) e ((seen:Int)+1) d=(p,n')->n'=n->K p wl:=by
   rintro n' h rfl;refine C _ _ ⟨by rw[h],by rw[h];exact R,E8.trans Y⟩
  refine⟨s,dl.cell rfl,fun l=>⟨fun F=>?_,fun F=>?_⟩,fun l=>?_⟩
  .have l:j<d.length:=by have h:=of_decide_eq_true l;omega
   have F:p=0:=by simpa using F
   subst F;cases hTl with
   |mk _ _ _ _ _ _ _ rs len fit row kid =>
   have⟨a,hat,ha,hr⟩:=row j l;refine⟨s,dl.cell rfl,a,hat,_,_,_,_,_,rs j,hr,?_⟩;rw[i64 (n:=c+1) Om Om];refine(ih j l (rs j) (c+1) n wl Om hn (kid j l) R).mono ?_;rintro _ w9 ⟨r,rfl,rfl,hB9,E9⟩;rw[jFJ l]at o;refine⟨_,rfl,⟨j+1,?_,l,_,jLO _ _ _ hn,Y.trans E9,hB9,by rw[<-g];exact o⟩,?_⟩
   .rw[i64 Om Om];omega
   .show((d.length:Int)-IntKind.i64.wrap ((j:Int)+1)).toNat<((d.length:Int)-(j:Int)).toNat;rw[i64 Om Om];omega
  .have F:p≠0:=by simpa using F
   rw[jHE F]at o;exact Q _ o.symm rfl
  .have hge:j=d.length:=by have h:=of_decide_eq_false l;omega
   rw[hge,List.drop_length,vF]at o;exact Q _ o.symm rfl
 have J2:∀p,p=(if pe=0 then if(d.length:Int)≠X then 53 else 0 else pe)->m_L_j2 c (some q) p1 p2 p3 p M K:=by
  intro p he1;have g:uA ⟨k,f,t,u,x,0,0⟩ d.length=if p=0 then zM ⟨s1,s2,s3,s4,X⟩ ⟨k,f,t,u,x,0,0⟩else p:=by
   unfold uA;simp only[hsh,<-hpe,he1]
  refine⟨fun h=>⟨_,_,_,_,_,c3.row,_,_,_,_,_,_,_,d2.row,?_⟩,fun h=>J3 _ _ (Ext.refl _) ?_⟩
  .have h:p=0:=by simpa using h
   refine(jUV _ _ _ _ _ _ _ _ _ _ _ _ _).mono ?_;rintro _ w9 ⟨_,rfl,rfl,E9⟩;exact⟨_,rfl,J3 _ _ E9<|by rw[g,if_pos h]⟩
  .grind
 refine⟨fun h=>⟨s,d1.cell rfl,X,c3.cell rfl,fun h5=>J2 _ ?_,fun h5=>J2 _ ?_⟩,fun h=>J2 _ ?_⟩
 .grind
 .grind
 .grind
end Go.Proofs
end
section
open Go Go.SE List
namespace Go.Proofs
open Tryz
attribute [local irreducible] Calls
def c_New(w):cl 42 #[] w (XD fun r w'=>∃p,r=some p/\Pure w w'/\∃F,zD w' p [] F/\∀b,F b->w.heap.size<=b):=by
 refine w_M3 w (fun r w'=>∃p,r=some p/\Pure w w'/\∃F,zD w' p [] F/\∀b,F b->w.heap.size<=b) ?_;intro p1 g h1 c f h2;have e:Pure w g:=Ext.new h1;have i:CMap f p1.block []:=(CMap.of_new h1).ext (Ext.new h2:Pure g f) id;have d:p1.block≠c.block:=New.ne h2 h1.block_new;refine⟨c,rfl,e.trans<|Ext.new h2,fun b=>b=c.block\/Sl.nil.blk b\/b=p1.block,⟨Sl.nil,p1.block,⟨Box.of_new h2,by simpa using Rws.nil _ _ _,by simpa[jBD]using i,d,?_,?_⟩,fun _=>Iff.rfl⟩,?_⟩;rintro⟨a,h,_⟩;cases h;rintro⟨a,h,_⟩;cases h;rintro b (rfl|⟨a,h,_⟩|rfl);exact New.own e h2;cases h;exact New.own (Ext.refl w) h1
def jYW(L n):jBD (L.take n)=(jBD L).take n:=by
 apply ext_getElem?;intro i;simp only[jBD,getElem?_map,getElem?_zipIdx,getElem?_take];split<;>simp
def zCR(L):(jBD L).map (·.1)=(L.map (·.node)).map jHL:=by
 apply ext_getElem?;intro i;simp only[jBD,getElem?_map,getElem?_zipIdx];cases L[i]?<;>simp
def c_cut(p:Addr)(n:Nat)(w:World){L:Pool}{F:NP}(hP:zD w p L F)(S:Ok L)(hn:n<=L.length):
  cl 126 #[vp<|some p,vi n] w<|fun e w'=>e=.returned (.tuple #[])/\zD w' p (L.take n) F/\Ext F w w':=by
 suffices key:∀K:WP,(∀w',zD w' p (L.take n) F/\Ext F w w'->K w')->m_U1 (some p) n w K from
  w_U1 _ _ w _<|key _ fun _ h=>h
 intro K hK
 unfold m_U1
 have⟨s,m,hS,hF⟩:=hP
 have hfew:=S.few
 have U:s.len<=s.cap:=by
  have:=hS.rows.len;rcases hS.rows.own with⟨rfl,_⟩|⟨g,cur,_,_,hc,_⟩;simp[Sl.nil];omega
 have⟨s1,Z,I⟩:=hS.rows.lst.lo (P:=prog) jIX U (k:=.i64) (n:=n) Om (by simpa using hn)
 have hlen1:s1.len=L.length-n:=by rw[I.len];simp
 refine⟨p,rfl,s,hS.box.cell0,s1,Z,?_⟩
 refine⟨fun x w'=>∃j:Nat,x=j/\j<=L.length-n/\Ext (·=m) w w'/\CMap w' m ((jBD L).take n++(jBD L).drop (n+j)),fun x _=>((L.length:Int)-x).toNat,⟨0,rfl,Nat.zero_le _,Ext.refl w,by simpa using hS.map⟩,?_⟩
 rintro _ wl ⟨j,rfl,hj,O,C⟩
 have c:=hS.box.ext O hS.n1.symm
 have o:=hS.rows.ext O fun b V e=>hS.n3<|e▸V
 refine⟨fun h=>?_,fun h=>?_⟩
 have r:n+j<L.length:=by have h:=of_decide_eq_true h;omega
 have hll:=I.ext O fun b V e=>hS.n3<|e▸V
 have⟨a,hat,_,hrow⟩:=hll.at_ j So
 generalize he:L[n+j]=e at *
 have jNA:Row wl a (zBJ e):=Gd
 have⟨nd,sz,dp⟩:=e
 have⟨k,f,t,u,x,a1,b1⟩:=nd
 refine⟨a,hat,_,_,_,_,_,_,_,_,_,jNA,?_⟩
 intro p2 w1 h1
 have E1:Pure wl w1:=Ext.new h1
 have o1:=New.own (Ext.refl wl) h1
 refine bx 9 (Box.of_new h1) rfl rfl fun M b2 E=>?_
 have E2:Pure wl M:=E1.own o1 E
 refine⟨fun w'=>w'.cell? (p.add 1)=some (.map<|some m)/\Row w' p2 (oO ⟨k,f,t,u,x,a1,b1⟩),⟨(c.pure<|E2.thenPure<|Ext.drew M).cell (i:=1) rfl,?_⟩,?_⟩
 have:Row M p2 (oO ⟨k,f,t,u,x,a1,b1⟩):=fun i hi=>by
  have:=b2.row i (by simp[oO]at hi|-;omega);rw[this];have h7:i<7:=by simpa[oO]using hi
  have:i=0\/i=1\/i=2\/i=3\/i=4\/i=5\/i=6:=Om;rcases this with rfl|rfl|rfl|rfl|rfl|rfl|rfl<;>rfl
 exact Ext.row (F:=None) (Ext.drew M) this id
 intro w3 N
 have E3:Pure wl w3:=by rw[N];exact E2.thenPure<|Ext.drew M
 clear N
 refine⟨p,rfl,some m,fun w' h=>h.1,k,f,t,u,x,a1,b1,fun w' h=>h.2,?_⟩
 have W:=C.ext E3 id
 have H:(jBD L).length=L.length:=by simp[jBD]
 have T:(jBD L)[n+j]?=some (jHL ⟨k,f,t,u,x,a1,b1⟩,vi (n+j+1:Nat)):=by
  simp only[jBD,List.getElem?_map,List.getElem?_zipIdx,List.getElem?_eq_getElem r,he];simp
 have A:((jBD L).take n++(jBD L).drop (n+j))[n]?=some (jHL ⟨k,f,t,u,x,a1,b1⟩,vi (n+j+1:Nat)):=by
  have e0:n+j+(n-((jBD L).take n).length)=n+j:=by rw[List.length_take];omega
  rw[List.getElem?_append_right Gd,List.getElem?_drop,e0,T]
 have hnd:((jBD L).map (·.1)).Nodup:=by
  rw[zCR,List.nodup_iff_pairwise_ne,List.pairwise_map];exact S.nodup.imp fun h e=>h<|jMX.1 e
 have y:List.Sublist ((jBD L).take n++(jBD L).drop (n+j)) (jBD L):=by
  conv=>rhs;rw[<-List.take_append_drop n (jBD L)]
  refine(List.Sublist.refl _).append ?_;have e0:(jBD L).drop (n+j)=((jBD L).drop n).drop j:=by rw[List.drop_drop]
  rw[e0];exact List.drop_sublist _ _
 have R:(((jBD L).take n++(jBD L).drop (n+j)).map (·.1)).Nodup:=hnd.sublist<|y.map _
 have⟨w4,hr4,d,E4⟩:=W.delete (P:=prog) (Q:=119) (z:=0) underlying157 jCY (fun q hq=>jFE q<|y.subset hq) ⟨_,rfl⟩ A (fun i u hi=>by
  have⟨hi1,hi2⟩:=List.getElem?_eq_some_iff.1 hi;have⟨Y,hn2⟩:=List.getElem?_eq_some_iff.1 A;refine Classical.byContradiction fun J=>?_;have J:=List.pairwise_iff_getElem.1 R;rcases Nat.lt_or_gt_of_ne ‹_› with r|r;grind;exact J n i (by simpa using Y) (by simpa using hi1) r Gd)
 refine⟨w4,hr4,⟨j+1,?_,Om,(O.trans E3.pure).trans E4,?_⟩,?_⟩
 rw[i64 Om Om];omega
 rw[List.eraseIdx_append_of_length_le (by rw[List.length_take];omega)]at d
 have:n-((jBD L).take n).length=0:=by rw[List.length_take];omega
 rw[this]at d
 have hd:((jBD L).drop<|n+j).eraseIdx 0=(jBD L).drop (n+(j+1)):=by
  rw[List.drop_eq_getElem_cons Om];simp;rfl
 rw[hd]at d;exact d
 show((L.length:Int)-IntKind.i64.wrap ((j:Int)+1)).toNat<((L.length:Int)-(j:Int)).toNat
 rw[i64 Om Om];omega
 have hge:n+j=L.length:=by have h:=of_decide_eq_false h;omega
 have H:(jBD L).length=L.length:=by simp[jBD]
 rw[hge,<-H,List.drop_length,List.append_nil]at C
 have⟨X,hr2,l,D⟩:=o.hi (P:=prog) jIX (k:=.i64) (n:=n) Om (by simpa using hn)
 refine⟨p,rfl,s,c.cell0,X,hr2,p,rfl,c.canW0 Sm,?_⟩
 rintro w5 B
 have G:Box w5 p [X.v,.map<|some m] 160:=by rw[B];exact c.set0
 have E5:Ext (·=p.block) wl w5:=by rw[B];exact Ext.setCell p _
 clear B
 refine hK _ ⟨⟨X,m,⟨G,?_,?_,hS.n1,fun h=>hS.n2<|(D _).1 h,fun h=>hS.n3<|(D _).1 h⟩,fun b=>by rw[hF b,D b]⟩,?_⟩
 have:=l.ext E5 fun b V e=>hS.n2 Gd
 simpa using this
 rw[jYW];exact C.ext E5 hS.n1
 exact(O.mono Gd).trans' E5 Gd
def jKB{n i L t ts}(h:(grow L t).2.1≠0):zX n i L (t ::ts)=(0,(grow L t).2.1,(grow L t).2.2):=by rw[zX,if_pos h]
def jHF{n i L t ts}(h:(grow L t).2.1=0):zX n i L (t ::ts)=zX (if i=0 then { n with a:=(grow L t).1 }else { n with b:=(grow L t).1 }) (i+1) (grow L t).2.2 ts:=by rw[zX,if_neg<|by simp[h]]
def Tree.two(t:Tree):Prop:=Tree.rec (motive_1:=fun _=>Prop) (motive_2:=fun _=>Prop) (fun _ _ _ _ _ a h=>a.length<=2/\h) True (fun _ _ h1 h2=>h1/\h2) t
def jOB:List Tree->Prop
 |[]=>True
 |t :: ts=>Tree.two t/\jOB ts
def jYE{k f t u x a}:Tree.two (.mk k f t u x a)↔a.length<=2/\jOB a:=by
 have:∀a:List Tree,(Tree.rec_1 (motive_1:=fun _=>Prop) (motive_2:=fun _=>Prop) (fun _ _ _ _ _ a h=>a.length<=2/\h) True (fun _ _ h1 h2=>h1/\h2) a:Prop)=jOB a:=by
  intro a;induction a with
  |nil=>rfl
  |cons t ts b=>show(Tree.two t/\_)=(Tree.two t/\_);rw[b]
 show(a.length<=2/\_)↔_;rw[this]
def jLC{ks}(h:jOB ks){i}(hi:i<ks.length):Tree.two ks[i]:=by
 induction ks generalizing i with
 |nil=>simp at hi
 |cons t ts a =>
  cases i with
  |zero=>exact h.1
  |succ i=>exact a h.2 (by simpa using hi)
def c_grow{S}(p t):∀(s:Sl) (w:World) (L:Pool) (F:NP),Tree.two t->TreeAt S w s t->zD w p L F->Ok L->(∀b,F b->¬ S b)->(∀b,S b->b<w.heap.size) ->
  cl 125 #[vp<|some p,.agg (uP t s).toArray] w
   (XH fun r1 r2 w'=>(r1,r2)=((grow L t).1,(grow L t).2.1)/\∃F',zD w' p (grow L t).2.2 F'/\Ext F w w'/\∀b,F' b->F b\/w.heap.size<=b):=by
 induction t using Tree.ind with
 |h k f t u x c ih =>
 intro s w L F h2 hT hP hok hFS hSw
 suffices key:∀K:Int->Int->WP,(∀r1 r2 w',((r1,r2)=((grow L<|.mk k f t u x c).1,(grow L<|.mk k f t u x c).2.1)/\∃F',zD w' p (grow L<|.mk k f t u x c).2.2 F'/\Ext F w w'/\∀b,F' b->F b\/w.heap.size<=b)->K r1 r2 w')->m_T1 (some p) k f t u x s w K from
  w_T1 _ _ _ _ _ _ _ w _<|key _ fun _ _ _ h=>h
 intro K hK
 have⟨hk2,Q⟩:=jYE.1 h2
 intro p2 w1 h1
 have b1:=Box.of_new h1
 have E1:Pure w w1:=Ext.new h1
 refine⟨_,_,_,_,_,_,b1.row,?_⟩
 refine(jUT _ _ _ _ _ _ w1).mono ?_
 rintro _ w2 ⟨k',f',t',u',x',a',b',rfl,hn,y⟩
 cases hn
 refine⟨_,_,_,_,_,_,_,rfl,?_⟩
 intro p3 w3 h3
 have E3:Pure w w3:=(E1.trans y).trans<|Ext.new h3
 have o3:=New.own (E1.trans y) h3
 have n23:p2.block≠p3.block:=New.ne h3 (b1.pure y).blk
 refine bx 7 (Box.of_new h3) rfl rfl fun w4 b3 W=>?_
 have E4:Pure w w4:=E3.own o3 W
 have b2:=((b1.pure y).pure<|Ext.new h3).ext W n23
 intro q w5 D
 have E5:Pure w w5:=E4.trans<|Ext.new D
 have o4:=New.own E4 D
 have n34:p3.block≠q.block:=New.ne D b3.blk
 have c3:=b3.pure (Ext.new D:Pure w4 w5)
 have c4:=Box.of_new D
 have c2:=b2.pure (Ext.new D:Pure w4 w5)
 refine⟨s,c2.cell rfl,?_⟩
 have hsp:grow L (.mk k f t u x c)=zX ⟨k,f,t,u,x,0,0⟩ 0 L c:=by rw[grow]
 rw[hsp]at hK
 have hlen:s.len=c.length:=by cases hT;assumption
 refine⟨fun i w'=>∃j:Nat,i=j/\j<=c.length/\∃(nd:Node) (d:Pool) (F':NP),zX ⟨k,f,t,u,x,0,0⟩ 0 L c=zX nd j d (c.drop j)/\Ok d/\zD w' p d F'/\(∀b,F' b->F b\/w.heap.size<=b)/\¬F' p3.block/\¬F' q.block/\Ext F w w'/\Box w' p3 (oO nd) 119/\Box w' q [vp<|some<|p3.add 5,vp<|some<|p3.add 6] 267,fun i _=>((c.length:Int)-i).toNat,
  ⟨0,rfl,Nat.zero_le _,⟨k,f,t,u,x,0,0⟩,L,F,Sm,hok,hP.pure E5,fun b h=>.inl h,fun h=>Oh<|hP.lt h,fun h=>Oh<|hP.lt h,E5.pure,c3,c4⟩,?_⟩
 rintro _ wl ⟨j,rfl,hj,nd,d,F',g,n,H,B,M,T,O,d3,d4⟩
 refine⟨fun h=>?_,fun h=>?_⟩
 have o:j<c.length:=by have h:=of_decide_eq_true h;omega
 have hTl:TreeAt S wl s (.mk k f t u x c):=hT.ext O fun b hs hf=>hFS b hf hs
 have P:∀i (h:i<c.length),∃a r,At s i 6 a/\Row wl a (uP c[i] r)/\TreeAt S wl r c[i]:=by
  cases hTl with
  |mk _ _ _ _ _ _ _ rs len fit row kid=>exact fun i h=>let ⟨a,h1,_,h3⟩:=row i h;⟨a,rs i,h1,h3,kid i h⟩
 have⟨a,r,hat,I,hTk⟩:=P j o
 refine⟨a,hat,_,_,_,_,_,r,I,?_⟩
 intro p5 w6 h6
 have o5:=New.own (Ext.refl wl) h6
 refine bx 6 (Box.of_new h6) rfl rfl fun w7 b5 E67=>?_
 have v:Pure wl w7:=Ext.own (Ext.new h6) o5 E67
 refine⟨_,_,_,_,_,r,b5.row,?_⟩
 have hsz:w.heap.size<=wl.heap.size:=O.size
 refine(ih j o r w7 d F' (jLC Q o) (hTk.pure v) (H.pure v) n Gd fun b hs=>Oi (hSw b hs) v.size).mono ?_
 rintro _ Z ⟨r1,r2,rfl,hr,N,E,E8,C⟩
 have e1:r1=(grow d c[j]).1:=congrArg Prod.fst hr
 have e2:r2=(grow d c[j]).2.1:=congrArg Prod.snd hr
 rw[drop_eq_getElem_cons o]at g
 have A:∀b,N b->F b\/w.heap.size<=b:=fun b J=>(C b J).elim (B b) (fun h=>by right;have:=v.size;omega)
 have V:Ext F w Z:=(O.thenPure v).trans' E8 Gd
 refine⟨_,_,rfl,fun h=>?_,fun h=>?_⟩
 have h:(grow d c[j]).2.1≠0:=by rw[<-e2];simpa using h
 rw[jKB h]at g
 refine hK _ _ _ ?_
 rw[g];exact⟨by rw[e2],N,E,V,A⟩
 have h:(grow d c[j]).2.1=0:=by rw[<-e2];simpa using h
 rw[jHF h]at g
 have q3:=(d3.pure v).ext E8 M
 have q4:=(d4.pure v).ext E8 T
 have hs7:wl.heap.size<=w7.heap.size:=v.size
 have G:¬N p3.block:=fun h=>(C _ h).elim M fun h=>Oh<|(d3.pure v).lt
 have n48:¬N q.block:=fun h=>(C _ h).elim T fun h=>Oh<|(d4.pure v).lt
 have U:=(tF c[j] d n).1
 have R : ∀ (l : World) (z : Node), z = (if j = 0 then { nd with a:=(grow d c[j]).1 } else { nd with b:=(grow d c[j]).1 }) -> Box l p3 (oO z) 119 -> Ext (· = p3.block) Z l ->
   (∃Y:Nat,IntKind.i64.wrap ((j:Int)+1)=Y/\Y<=c.length/\∃(nd:Node) (d:Pool) (F':NP),zX ⟨k,f,t,u,x,0,0⟩ 0 L c=zX nd Y d (c.drop Y)/\Ok d/\zD l p d F'/\(∀b,F' b->F b\/w.heap.size<=b)/\¬F' p3.block/\¬F' q.block/\Ext F w l/\Box l p3 (oO nd) 119/\Box l q [vp<|some<|p3.add 5,vp<|some<|p3.add 6] 267)/\((c.length:Int)-IntKind.i64.wrap ((j:Int)+1)).toNat<((c.length:Int)-(j:Int)).toNat:=by
  intro l z hnd B9 X
  rw[i64 Om Om]
  refine⟨⟨j+1,Om,o,z,_,N,by rw[g,hnd],U,E.ext X fun b J e=>G<|e▸J,A,G,n48,V.trans' X Gd,B9,q4.ext X n34.symm⟩,Om⟩
 have hj2:j=0\/j=1:=Om
 rcases hj2 with rfl|rfl
 refine⟨q,⟨Om,Sm,q,rfl,rfl⟩,some<|p3.add 5,q4.cell0,p3.add 5,rfl,q3.canW<|by simp[oO],?_⟩
 intro l m
 refine R l _ rfl ?_ ?_
 rw[m,e1];exact q3.set 5 _
 rw[m];have:=Ext.setCell (w:=Z) (p3.add 5)<|vi r1;rw[zG]at this;exact this
 refine⟨q.add 1,⟨Om,Sm,q,rfl,rfl⟩,some<|p3.add 6,q4.cell rfl,p3.add 6,rfl,q3.canW<|by simp[oO],?_⟩
 intro l m
 refine R l _ rfl ?_ ?_
 rw[m,e1];exact q3.set 6 _
 rw[m];have:=Ext.setCell (w:=Z) (p3.add 6)<|vi r1;rw[zG]at this;exact this
 have hge:j=c.length:=by have h:=of_decide_eq_false h;omega
 rw[hge,drop_length,zX]at g
 have⟨k0,f0,t0,u0,x0,a0,b0⟩:=nd
 refine⟨_,_,_,_,_,_,_,d3.row,?_⟩
 refine(jBN p k0 f0 t0 u0 x0 a0 b0 wl H n).mono ?_
 rintro _ l ⟨r1,r2,rfl,hr,F9,hP9,X,hF9⟩
 have hsz:w.heap.size<=wl.heap.size:=O.size
 refine⟨_,_,rfl,hK _ _ _ ?_⟩
 rw[g]
 exact⟨hr,F9,hP9,O.trans' X fun i hi h=>(B i h).elim id fun h=>Om,fun b J=>(hF9 b J).elim (B b) fun h=>by right;omega⟩
def jPB(t):∀i n:Int,(qK i n t).1=0->Tree.two t:=by
 induction t using Tree.ind with
 |h k f t u x a g =>
  have d:∀(a:List Tree),(∀i (hi:i<a.length),∀j n:Int,(qK j n a[i]).1=0->Tree.two a[i])->∀i e n:Int,(vF i e n a).1=0->e=0/\jOB a:=by
   intro a;induction a with
   |nil=>intro _ i e n h;exact⟨by simpa[vF]using h,trivial⟩
   |cons t ts b =>
    intro hh i e n h
    unfold vF at h
    split at h
    rename_i l
    have:=b (fun i hi=>hh (i+1)<|by simpa using hi) _ _ _ h
    exact⟨l,hh 0 Sm i n this.1,this.2⟩
    grind
  intro i n h
  unfold qK at h
  split at h
  cases h
  split at h
  cases h
  have:=d a g _ _ _ h
  refine jYE.2 ⟨?_,this.2⟩
  have c:=this.1
  unfold uA at c
  simp only at c
  have m:=qX k
  by_cases o:zJ ⟨k,f,t,u,x,0,0⟩=0
  grind
  grind
def c_Of{S}(p t s w){L F}(W:TreeAt S w s t)(hP:zD w p L F)(q:Ok L)(I:∀b,F b->¬ S b)(P:∀b,S b->b<w.heap.size):
  cl 62 #[vp<|some p,.agg (uP t s).toArray] w
   (XH fun r1 r2 w'=>(r1,r2)=((of L t).1,(of L t).2.1)/\∃F',zD w' p (of L t).2.2 F'/\Ext F w w'/\∀b,F' b->F b\/w.heap.size<=b):=by
 have⟨k,f,to,u,x,A⟩:=t
 suffices key:∀K:Int->Int->WP,(∀r1 r2 w',((r1,r2)=((of L<|.mk k f to u x A).1,(of L<|.mk k f to u x A).2.1)/\∃F',zD w' p (of L<|.mk k f to u x A).2.2 F'/\Ext F w w'/\∀b,F' b->F b\/w.heap.size<=b)->K r1 r2 w')->m_S2 (some p) k f to u x s w K from
  w_S2 _ _ _ _ _ _ _ w _<|key _ fun _ _ _ h=>h
 intro K T
 intro p2 X h1
 have b1:=Box.of_new h1
 have E1:Pure w X:=Ext.new h1
 refine Br.f rfl ?_
 intro p3 N h2
 have E2:Pure w N:=E1.trans<|Ext.new h2
 have Z:=New.own E1 h2
 have c3:=Box.of_new h2
 have n:p2.block≠p3.block:=New.ne h2 b1.blk
 refine⟨c3.canW0 Sm,?_⟩
 intro z d
 have H:Box z p3 [vi 0] 3:=by rw[d];exact c3.set0
 have g:Ext (·=p3.block) N z:=by rw[d];exact Ext.setCell p3 _
 clear d
 have E3:Pure w z:=E2.own Z g
 have b3:=(b1.pure (Ext.new h2:Pure X N)).ext g n
 refine⟨_,_,_,_,_,s,b3.row,?_⟩
 generalize ht:Tree.mk k f to u x A=t at *
 have l:(Value.agg #[vi k,vi f,vi to,vu u,vs x,s.v])=.agg (uP t s).toArray:=by rw[<-ht];rfl
 rw[l]
 refine(zHR p3 Gd _ t s 0 0 z Om Om (W.pure E3) H).mono ?_
 rintro _ J ⟨r1,rfl,rfl,_,j⟩
 have e:Pure w J:=E3.own Z j
 have b4:=b3.ext j n
 have C:∀w',Pure w w'->∃F',zD w' p L F'/\Ext F w w'/\∀b,F' b->F b\/w.heap.size<=b:=fun w' E=>⟨F,hP.pure E,E.pure,fun _ h=>.inl h⟩
 refine⟨_,rfl,fun h=>?_,fun h=>?_⟩
 have h:(qK 0 0 t).1≠0:=by simpa using h
 have:of L t=(0,(qK 0 0 t).1,L):=by rw[of,if_pos h]
 refine T _ _ _ ?_
 rw[this];exact⟨rfl,C _ e⟩
 have h:(qK 0 0 t).1=0:=by simpa using h
 have i:=hP.pure e
 have⟨s0,m0,y,hF0⟩:=id i
 have Q:s0.len=L.length:=by rw[y.rows.len];simp
 refine⟨p,rfl,s0,y.box.cell0,_,_,_,_,_,s,b4.row,?_⟩
 rw[l]
 refine(c_grow p t s J L F (jPB t _ _ h) (W.pure e) i q I fun b D=>Oi (P b D) e.size).mono ?_
 rintro _ Y ⟨r1,r2,rfl,hr,U,m,O,R⟩
 have e1:r1=(grow L t).1:=congrArg Prod.fst hr
 have B:r2=(grow L t).2.1:=congrArg Prod.snd hr
 have hs4:w.heap.size<=J.heap.size:=e.size
 have E5:Ext F w Y:=e.pure.trans O
 have a:∀b,U b->F b\/w.heap.size<=b:=fun b D=>(R b D).elim .inl fun h=>.inr Om
 refine⟨_,_,rfl,fun c=>?_,fun c=>?_⟩
 have c:(grow L t).2.1≠0:=by rw[<-B];simpa using c
 have⟨o,M,V⟩:=tF t L q
 rw[Q]
 refine(c_cut p L.length Y m o (by rw[V];simp)).mono ?_
 rintro _ w6 ⟨rfl,r,G⟩
 have:of L t=(0,(grow L t).2.1,L):=by rw[of,if_neg<|by simp[h],if_pos c]
 refine⟨rfl,T _ _ _ ?_⟩
 rw[this]
 rw[V,take_left]at r
 exact⟨by rw[B],U,r,E5.trans' G Gd,a⟩
 have c:(grow L t).2.1=0:=by rw[<-B];simpa using c
 have:of L t=((grow L t).1,0,(grow L t).2.2):=by rw[of,if_neg<|by simp[h],if_neg<|by simp[c]]
 refine T _ _ _ ?_
 rw[this]
 exact⟨by rw[e1],U,m,E5,a⟩
end Go.Proofs
end
section
open Go Go.SE List
open Go.IntKind renaming i64 -> q6
namespace Go.Proofs
open Tryz
set_option maxRecDepth 100000
set_option maxHeartbeats 4000000
attribute [local irreducible] wpL wpX opE wpE Calls
attribute [local irreducible] adv W WV WR yN pv lpC jBQ ctR ka rgP dgo nwV nhI hvl had hcs hpt stV stC kp yM uK qM bn ub
def m_V2(gS gT gU:Int)(gV:ByteArray)(gW f d:Bool)(w0:World)(K:Int->Int->Int->Int->ByteArray->Sl->WP):Prop:=∀p1 w1,New w0 (.cells #[(vi gS),(vi gT),(vu gU),(vs gV),(vb gW)] 35) p1 w1->∀a w2,New w1 (.cells #[(vi 0),(vi 0),(vi 0),(vu 0),ve,Sl.nil.v] 71) a w2->lu w2 (p1.add 2) fun v1=>ls w2 (p1.add 3) fun v2=>cl 82 #[(vu v1),(vs v2)] w2 fun e w3=>∃aB aC aD aA aE aU,e=.returned (Aa aB aC aD aA aE aU)/\∀p3 w4,New w3 (.cells #[(vi 0),(vi 0),(vi 0),(vu 0),ve,Sl.nil.v] 71) p3 w4->(∀j,j<6->zV w4 (p3.add j))/\∀c,c=storeRow w4 p3 (Ac aB aC aD aA aE aU)->li c p1 fun t=>Br (t==1) (li c (p1.add 1) fun v4=>∃aO aP bN bO aQ cT,Row c p3 (Ac aO aP bN bO aQ cT)/\lb c (p1.add 4) fun v5=>cl 83 #[(vi v4),(.agg #[(vi aO),(vi aP),(vi bN),(vu bO),(vs aQ),cT.v]),(vb v5)] c fun e w6=>∃aM aN bB aI aJ eV,e=.returned (Aa aM aN bB aI aJ eV)/\(∀j,j<6->zV w6 (a.add j))/\∀w7,w7=storeRow w6 a (Ac aM aN bB aI aJ eV)->∃aF aG aK aL aH aV,Row w7 a (Ac aF aG aK aL aH aV)/\K aF aG aK aL aH aV w7) (Br (t==2) (li c (p1.add 1) fun v6=>∃bG bH dM dN bI dO,Row c p3 (Ac bG bH dM dN bI dO)/\cl 84 #[(vi v6),(.agg #[(vi bG),(vi bH),(vi dM),(vu dN),(vs bI),dO.v])] c fun e w8=>∃bJ bK cW cX bC eW,e=.returned (Aa bJ bK cW cX bC eW)/\(∀j,j<6->zV w8 (a.add j))/\∀w9,w9=storeRow w8 a (Ac bJ bK cW cX bC eW)->∃aR aS dP dQ aT eX,Row w9 a (Ac aR aS dP dQ aT eX)/\K aR aS dP dQ aT eX w9) (Br (t==3) (∃C1:WP,C1 c.drew/\∀w10,w10=c.drew->∃v7,(∀w',C1 w'->w'.cell? (p1.add 2)=some (vu v7))/\cl 86 #[(vs (⟨#[97,98,111,114,116]⟩:ByteArray))] w10 fun e P=>∃bD bE eY eZ bF fA,e=.returned (Aa bD bE eY eZ bF fA)/\C1 P/\cl 87 #[(vu v7)] P fun e w12=>∃bV bW fB fC bX fD,e=.returned (Aa bV bW fB fC bX fD)/\cl 85 #[(.agg #[(vi bD),(vi bE),(vi eY),(vu eZ),(vs bF),fA.v]),(.agg #[(vi bV),(vi bW),(vi fB),(vu fC),(vs bX),fD.v])] w12 fun e w13=>∃dR dS fE fF dT fG,e=.returned (Aa dR dS fE fF dT fG)/\cl 84 #[(vi 0),(.agg #[(vi dR),(vi dS),(vi fE),(vu fF),(vs dT),fG.v])] w13 fun e w14=>∃fH fI hU hV fJ hW,e=.returned (Aa fH fI hU hV fJ hW)/\(∀j,j<6->zV w14 (a.add j))/\∀g,g=storeRow w14 a (Ac fH fI hU hV fJ hW)->∃aY aZ fK fL bA hX,Row g a (Ac aY aZ fK fL bA hX)/\K aY aZ fK fL bA hX g) (Br (t==4) (∃b:WP,b c.drew/\∀w16,w16=c.drew->∃Z,(∀w',b w'->w'.cell? (p1.add 1)=some (vi Z))/\∃cY cZ hF hG dA hI,(∀w',b w'->Row w' p3 (Ac cY cZ hF hG dA hI))/\∃v9,(∀w',b w'->w'.cell? (p1.add 4)=some (vb v9))/\∃W M V S y w,(∀w',b w'->Row w' p3 (Ac W M V S y w))/\∃k,(∀w',b w'->w'.cell? (p1.add 4)=some (vb k))/\cl 86 #[(vs (⟨#[114,101,115,111,108,118,101]⟩:ByteArray))] w16 fun e h=>∃dU dV A fQ F fR,e=.returned (Aa dU dV A fQ F fR)/\b h/\Br v9 (cl 83 #[(vi 0),(.agg #[(vi cY),(vi cZ),(vi hF),(vu hG),(vs dA),hI.v]),(vb f)] h fun e o=>∃dZ eA hJ hK eB hL,e=.returned (Aa dZ eA hJ hK eB hL)/\b o/\Br k (cl 83 #[(vi 1),(.agg #[(vi W),(vi M),(vi V),(vu S),(vs y),w.v]),(vb d)] o fun e w19=>∃eC eD hY hZ eE iA,e=.returned (Aa eC eD hY hZ eE iA)/\b w19/\cl 85 #[(.agg #[(vi dZ),(vi eA),(vi hJ),(vu hK),(vs eB),hL.v]),(.agg #[(vi eC),(vi eD),(vi hY),(vu hZ),(vs eE),iA.v])] w19 fun e w20=>∃fS fT iB iC fU iD,e=.returned (Aa fS fT iB iC fU iD)/\b w20/\cl 85 #[(.agg #[(vi dU),(vi dV),(vi A),(vu fQ),(vs F),fR.v]),(.agg #[(vi fS),(vi fT),(vi iB),(vu iC),(vs fU),iD.v])] w20 fun e w21=>∃fV fW iE iF fX iG,e=.returned (Aa fV fW iE iF fX iG)/\b w21/\cl 84 #[(vi Z),(.agg #[(vi fV),(vi fW),(vi iE),(vu iF),(vs fX),iG.v])] w21 fun e u=>∃fY fZ iH iI gA iJ,e=.returned (Aa fY fZ iH iI gA iJ)/\(∀j,j<6->zV u (a.add j))/\∀s,s=storeRow u a (Ac fY fZ iH iI gA iJ)->∃cB cC iK iL cD iM,Row s a (Ac cB cC iK iL cD iM)/\K cB cC iK iL cD iM s) (cl 83 #[(vi 1),(.agg #[(vi W),(vi M),(vi V),(vu S),(vs y),w.v]),(vb false)] o fun e Q=>∃gB gC iN iO gD iP,e=.returned (Aa gB gC iN iO gD iP)/\b Q/\cl 85 #[(.agg #[(vi dZ),(vi eA),(vi hJ),(vu hK),(vs eB),hL.v]),(.agg #[(vi gB),(vi gC),(vi iN),(vu iO),(vs gD),iP.v])] Q fun e x=>∃eF eG iQ iR eH iS,e=.returned (Aa eF eG iQ iR eH iS)/\b x/\cl 85 #[(.agg #[(vi dU),(vi dV),(vi A),(vu fQ),(vs F),fR.v]),(.agg #[(vi eF),(vi eG),(vi iQ),(vu iR),(vs eH),iS.v])] x fun e I=>∃gE gF iT iU gG iV,e=.returned (Aa gE gF iT iU gG iV)/\b I/\cl 84 #[(vi Z),(.agg #[(vi gE),(vi gF),(vi iT),(vu iU),(vs gG),iV.v])] I fun e U=>∃gH gI iW iX gJ iY,e=.returned (Aa gH gI iW iX gJ iY)/\(∀j,j<6->zV U (a.add j))/\∀n,n=storeRow U a (Ac gH gI iW iX gJ iY)->∃cE cF iZ jA cG jB,Row n a (Ac cE cF iZ jA cG jB)/\K cE cF iZ jA cG jB n)) (cl 83 #[(vi 0),(.agg #[(vi cY),(vi cZ),(vi hF),(vu hG),(vs dA),hI.v]),(vb false)] h fun e p=>∃eI eJ hM hN eK hO,e=.returned (Aa eI eJ hM hN eK hO)/\b p/\Br k (cl 83 #[(vi 1),(.agg #[(vi W),(vi M),(vi V),(vu S),(vs y),w.v]),(vb d)] p fun e Y=>∃gK gL jC jD gM jE,e=.returned (Aa gK gL jC jD gM jE)/\b Y/\cl 85 #[(.agg #[(vi eI),(vi eJ),(vi hM),(vu hN),(vs eK),hO.v]),(.agg #[(vi gK),(vi gL),(vi jC),(vu jD),(vs gM),jE.v])] Y fun e J=>∃gN gO jF jG gP jH,e=.returned (Aa gN gO jF jG gP jH)/\b J/\cl 85 #[(.agg #[(vi dU),(vi dV),(vi A),(vu fQ),(vs F),fR.v]),(.agg #[(vi gN),(vi gO),(vi jF),(vu jG),(vs gP),jH.v])] J fun e L=>∃jI jJ jK jL jM jN,e=.returned (Aa jI jJ jK jL jM jN)/\b L/\cl 84 #[(vi Z),(.agg #[(vi jI),(vi jJ),(vi jK),(vu jL),(vs jM),jN.v])] L fun e w33=>∃jO jP jQ jR jS jT,e=.returned (Aa jO jP jQ jR jS jT)/\(∀j,j<6->zV w33 (a.add j))/\∀i,i=storeRow w33 a (Ac jO jP jQ jR jS jT)->∃cH cI jU jV cJ jW,Row i a (Ac cH cI jU jV cJ jW)/\K cH cI jU jV cJ jW i) (cl 83 #[(vi 1),(.agg #[(vi W),(vi M),(vi V),(vu S),(vs y),w.v]),(vb false)] p fun e B=>∃jX jY jZ kA kB kC,e=.returned (Aa jX jY jZ kA kB kC)/\b B/\cl 85 #[(.agg #[(vi eI),(vi eJ),(vi hM),(vu hN),(vs eK),hO.v]),(.agg #[(vi jX),(vi jY),(vi jZ),(vu kA),(vs kB),kC.v])] B fun e w36=>∃kD kE kF kG kH kI,e=.returned (Aa kD kE kF kG kH kI)/\b w36/\cl 85 #[(.agg #[(vi dU),(vi dV),(vi A),(vu fQ),(vs F),fR.v]),(.agg #[(vi kD),(vi kE),(vi kF),(vu kG),(vs kH),kI.v])] w36 fun e N=>∃kJ kK kL kM kN kO,e=.returned (Aa kJ kK kL kM kN kO)/\b N/\cl 84 #[(vi Z),(.agg #[(vi kJ),(vi kK),(vi kL),(vu kM),(vs kN),kO.v])] N fun e z=>∃kP kQ kR kS kT kU,e=.returned (Aa kP kQ kR kS kT kU)/\(∀j,j<6->zV z (a.add j))/\∀m,m=storeRow z a (Ac kP kQ kR kS kT kU)->∃cK cL kV kW cM kX,Row m a (Ac cK cL kV kW cM kX)/\K cK cL kV kW cM kX m))) (Br (t==5) (∃C3:WP,C3 c.drew/\∀G,G=c.drew->∃T,(∀w',C3 w'->w'.cell? (p1.add 2)=some (vu T))/\cl 86 #[(vs (⟨#[97,98,111,114,116,101,100]⟩:ByteArray))] G fun e w41=>∃kY kZ lA lB lC lD,e=.returned (Aa kY kZ lA lB lC lD)/\C3 w41/\cl 87 #[(vu T)] w41 fun e w42=>∃lE lF lG lH lI lJ,e=.returned (Aa lE lF lG lH lI lJ)/\cl 85 #[(.agg #[(vi kY),(vi kZ),(vi lA),(vu lB),(vs lC),lD.v]),(.agg #[(vi lE),(vi lF),(vi lG),(vu lH),(vs lI),lJ.v])] w42 fun e w43=>∃lK lL lM lN lO lP,e=.returned (Aa lK lL lM lN lO lP)/\cl 84 #[(vi 2),(.agg #[(vi lK),(vi lL),(vi lM),(vu lN),(vs lO),lP.v])] w43 fun e H=>∃lQ lR lS lT lU lV,e=.returned (Aa lQ lR lS lT lU lV)/\(∀j,j<6->zV H (a.add j))/\∀q,q=storeRow H a (Ac lQ lR lS lT lU lV)->∃dB dC lW lX dD lY,Row q a (Ac dB dC lW lX dD lY)/\K dB dC lW lX dD lY q) (Br (t==6) (∃C4:WP,C4 c.drew/\∀R,R=c.drew->∃lZ mA mB mC mD mE,(∀w',C4 w'->Row w' p3 (Ac lZ mA mB mC mD mE))/\cl 86 #[(vs (⟨#[105,110,115,116,101,97,100]⟩:ByteArray))] R fun e O=>∃mF mG mH mI mJ mK,e=.returned (Aa mF mG mH mI mJ mK)/\C4 O/\cl 85 #[(.agg #[(vi mF),(vi mG),(vi mH),(vu mI),(vs mJ),mK.v]),(.agg #[(vi lZ),(vi mA),(vi mB),(vu mC),(vs mD),mE.v])] O fun e w48=>∃mL mM mN mO mP mQ,e=.returned (Aa mL mM mN mO mP mQ)/\cl 84 #[(vi 2),(.agg #[(vi mL),(vi mM),(vi mN),(vu mO),(vs mP),mQ.v])] w48 fun e E=>∃mR mS mT mU mV mW,e=.returned (Aa mR mS mT mU mV mW)/\(∀j,j<6->zV E (a.add j))/\∀l,l=storeRow E a (Ac mR mS mT mU mV mW)->∃mX mY mZ nA nB nC,Row l a (Ac mX mY mZ nA nB nC)/\K mX mY mZ nA nB nC l) (∃C5:WP,C5 c.drew/\∀w51,w51=c.drew->∃D,(∀w',C5 w'->w'.cell? (p1.add 2)=some (vu D))/\cl 86 #[(vs (⟨#[102,117,108,108]⟩:ByteArray))] w51 fun e C=>∃nD nE nF nG nH nI,e=.returned (Aa nD nE nF nG nH nI)/\C5 C/\cl 87 #[(vu D)] C fun e w53=>∃nJ nK nL nM nN nO,e=.returned (Aa nJ nK nL nM nN nO)/\cl 85 #[(.agg #[(vi nD),(vi nE),(vi nF),(vu nG),(vs nH),nI.v]),(.agg #[(vi nJ),(vi nK),(vi nL),(vu nM),(vs nN),nO.v])] w53 fun e X=>∃nP nQ nR nS nT nU,e=.returned (Aa nP nQ nR nS nT nU)/\(∀j,j<6->zV X (a.add j))/\∀r,r=storeRow X a (Ac nP nQ nR nS nT nU)->∃nV nW nX nY nZ oA,Row r a (Ac nV nW nX nY nZ oA)/\K nV nW nX nY nZ oA r))))))
def w_V2(gS gT gU gV gW first1 second1 w0 K)(h:m_V2 gS gT gU gV gW first1 second1 w0 K):
  cl 25 #[(.agg #[(vi gS),(vi gT),(vu gU),(vs gV),(vb gW)]),(vb first1),(vb second1)] w0<|fun e w'=>∃c b d a oF f,e=.returned (Aa c b d a oF f)/\K c b d a oF f w':=
 cwN func25 h<|nwn 0<|nwn 0<|ld 1<|ld 1<|cn6 0 call82<|nwn 0<|usn 0<|ld 1<|br 0 2 (ld 2<|xe6<|lr 0<|ld 1<|cn6 0 call83<|usn 0<|rss 0<|xe6<|qrr<|qee)<|br 0 3 (ld 2<|xe6<|lr 0<|cn6 0 call84<|usn 0<|rss 0<|xe6<|qrr<|qee)<|br 0 3 (dcn 1 [0,3,4,5,6] [3,4,5,6]<|ldc 1<|cc 0 call86<|xe6<|rt<|acn<|cn6 0 call87<|cn6 0 call85<|cn6 0 call84<|usn 0<|rss 0<|xe6<|qrr<|qee)<|br 0 3 (dcn 1 [2,9,16,17,18,19,20] [19,20]<|ldc 1<|xe6<|lrc 0<|ldc 1<|xe6<|lrc 0<|ldc 1<|cc 0 call86<|xe6<|rt<|acn<|br 1 1 (cc 2 call83<|xe6<|rt<|acn<|br 1 1 (cc 2 call83<|xe6<|rt<|acn<|cc 0 call85<|xe6<|rt<|acn<|cc 0 call85<|xe6<|rt<|acn<|cn6 0 call84<|usn 0<|rss 0<|xe6<|qrr<|qee)<|cc 2 call83<|xe6<|rt<|acn<|cc 0 call85<|xe6<|rt<|acn<|cc 0 call85<|xe6<|rt<|acn<|cn6 0 call84<|usn 0<|rss 0<|xe6<|qrr<|qee)<|cc 2 call83<|xe6<|rt<|acn<|br 1 1 (cc 2 call83<|xe6<|rt<|acn<|cc 0 call85<|xe6<|rt<|acn<|cc 0 call85<|xe6<|rt<|acn<|cn6 0 call84<|usn 0<|rss 0<|xe6<|qrr<|qee)<|cc 2 call83<|xe6<|rt<|acn<|cc 0 call85<|xe6<|rt<|acn<|cc 0 call85<|xe6<|rt<|acn<|cn6 0 call84<|usn 0<|rss 0<|xe6<|qrr<|qee)<|br 0 3 (dcn 1 [0,3,4,5,6] [3,4,5,6]<|ldc 1<|cc 0 call86<|xe6<|rt<|acn<|cn6 0 call87<|cn6 0 call85<|cn6 0 call84<|usn 0<|rss 0<|xe6<|qrr<|qee)<|br 0 3 (dcn 1 [0,2,3,4] [2,3,4]<|xe6<|lrc 0<|cc 0 call86<|xe6<|rt<|acn<|cn6 0 call85<|cn6 0 call84<|usn 0<|rss 0<|xe6<|qrr<|qee)<|dcn 1 [0,3,4,5] [3,4,5]<|ldc 1<|cc 0 call86<|xe6<|rt<|acn<|cn6 0 call87<|cn6 0 call85<|usn 0<|rss 0<|xe6<|qrr<|qee
def m_B5(R:Int)(a:ByteArray)(W:World)(K:Int->Int->Int->Int->ByteArray->Sl->WP):Prop:=∀p1 p,New W (.cells #[(vi 0),(vi 0),(vi 0),(vu 0),ve,Sl.nil.v] 71) p1 p->cl 86 #[(vs (⟨#[100,101,97,108]⟩:ByteArray))] p fun e T=>∃L B M k A q,e=.returned (Aa L B M k A q)/\cl 87 #[(vu R)] T fun e V=>∃f C I i m d,e=.returned (Aa f C I i m d)/\cl 86 #[(vs a)] V fun e S=>∃r bK y N l g,e=.returned (Aa r bK y N l g)/\cl 85 #[(.agg #[(vi f),(vi C),(vi I),(vu i),(vs m),d.v]),(.agg #[(vi r),(vi bK),(vi y),(vu N),(vs l),g.v])] S fun e U=>∃G Q P h w D,e=.returned (Aa G Q P h w D)/\cl 85 #[(.agg #[(vi L),(vi B),(vi M),(vu k),(vs A),q.v]),(.agg #[(vi G),(vi Q),(vi P),(vu h),(vs w),D.v])] U fun e o=>∃c J F O t E,e=.returned (Aa c J F O t E)/\(∀j,j<6->zV o (p1.add j))/\∀b,b=storeRow o p1 (Ac c J F O t E)->∃z s u n H x,Row b p1 (Ac z s u n H x)/\K z s u n H x b
def w_B5(c1 text1 w0 K)(h:m_B5 c1 text1 w0 K):
  cl 82 #[(vu c1),(vs text1)] w0<|fun e w'=>∃dR dS b d c a,e=.returned (Aa dR dS b d c a)/\K dR dS b d c a w':=
 cwN func82 h<|nwn 0<|cn6 0 call86<|cn6 1 call87<|cn6 1 call86<|cn6 0 call85<|cn6 0 call85<|usn 0<|rss 0<|xe6<|qrr<|qee
def m_C5(a Q:Int)(L M O:Int)(J:ByteArray)(N:Sl)(b:Bool)(P:World)(K:Int->Int->Int->Int->ByteArray->Sl->WP):Prop:=∀p1 s,New P (.cells #[(vi Q),(vi L),(vi M),(vu O),(vs J),N.v] 71) p1 s->∀c d,New s (.cells #[(vi 0),(vi 0),(vi 0),(vu 0),ve,Sl.nil.v] 71) c d->Br b (∃r t C n I F,Row d p1 (Ac r t C n I F)/\∀p3 h,New d (.cells #[(vi r),(vi t),(vi C),(vu n),(vs I),F.v] 71) p3 h->(∀j,j<6->zV h (c.add j))/\∀e,e=storeRow h c [(vi 9),(vi a),(vi<|q6.wrap<|1-a),(vu 0),ve,(Sl.mk (some p3) 1 1).v]->∃D w y p E B,Row e c (Ac D w y p E B)/\K D w y p E B e) (∃q k i o H z,Row d p1 (Ac q k i o H z)/\∀A g,New d (.cells #[(vi q),(vi k),(vi i),(vu o),(vs H),z.v] 71) A g->(∀j,j<6->zV g (c.add j))/\∀f,f=storeRow g c [(vi 8),(vi a),(vi<|q6.wrap<|1-a),(vu 0),ve,(Sl.mk (some A) 1 1).v]->∃x m dP l u G,Row f c (Ac x m dP l u G)/\K x m dP l u G f)
def w_C5(who1 bP bQ bR bS bT bU fake1 w0 K)(h:m_C5 who1 bP bQ bR bS bT bU fake1 w0 K):
  cl 83 #[(vi who1),(.agg #[(vi bP),(vi bQ),(vi bR),(vu bS),(vs bT),bU.v]),(vb fake1)] w0<|fun e w'=>∃c g b a d f,e=.returned (Aa c g b a d f)/\K c g b a d f w':=
 cwN func83 h<|nwn 0<|nwn 0<|br 0 2 (xe6<|lr 6<|nwn 0<|usn 1<|rss 0<|xe6<|qrr<|qee)<|xe6<|lr 5<|nwn 0<|usn 1<|rss 0<|xe6<|qrr<|qee
def m_D5(a A:Int)(u w y:Int)(t:ByteArray)(x:Sl)(z:World)(K:Int->Int->Int->Int->ByteArray->Sl->WP):Prop:=∀p1 i,New z (.cells #[(vi A),(vi u),(vi w),(vu y),(vs t),x.v] 71) p1 i->∀b d,New i (.cells #[(vi 0),(vi 0),(vi 0),(vu 0),ve,Sl.nil.v] 71) b d->∃h k o f s r,Row d p1 (Ac h k o f s r)/\∀p3 e,New d (.cells #[(vi h),(vi k),(vi o),(vu f),(vs s),r.v] 71) p3 e->(∀j,j<6->zV e (b.add j))/\∀c,c=storeRow e b [(vi 7),(vi a),(vi 0),(vu 0),ve,(Sl.mk (some p3) 1 1).v]->∃p l m g q n,Row c b (Ac p l m g q n)/\K p l m g q n c
def w_D5(who1 bP bQ bR bS bT bU w0 K)(h:m_D5 who1 bP bQ bR bS bT bU w0 K):
  cl 84 #[(vi who1),(.agg #[(vi bP),(vi bQ),(vi bR),(vu bS),(vs bT),bU.v])] w0<|fun e w'=>∃c g b a d f,e=.returned (Aa c g b a d f)/\K c g b a d f w':=
 cwN func84 h<|nwn 0<|nwn 0<|xe6<|lr 1<|nwn 0<|usn 1<|rss 0<|xe6<|qrr<|qee
def m_E5(M C:Int)(E I:Int)(B:ByteArray)(G:Sl)(H F:Int)(gZ D:Int)(hB:ByteArray)(L:Sl)(J:World)(K:Int->Int->Int->Int->ByteArray->Sl->WP):Prop:=∀p1 n,New J (.cells #[(vi M),(vi C),(vi E),(vu I),(vs B),G.v] 71) p1 n->∀x k,New n (.cells #[(vi H),(vi F),(vi gZ),(vu D),(vs hB),L.v] 71) x k->∀p3 a,New k (.cells #[(vi 0),(vi 0),(vi 0),(vu 0),ve,Sl.nil.v] 71) p3 a->∃l m s f A y,Row a p1 (Ac l m s f A y)/\∃i e d g z q,Row a x (Ac i e d g z q)/\∀r b,New a (.cells #[(vi l),(vi m),(vi s),(vu f),(vs A),y.v,(vi i),(vi e),(vi d),(vu g),(vs z),q.v] 71) r b->(∀j,j<6->zV b (p3.add j))/\∀c,c=storeRow b p3 [(vi 4),(vi 0),(vi 0),(vu 0),ve,(Sl.mk (some r) 2 2).v]->∃u o p h w t,Row c p3 (Ac u o p h w t)/\K u o p h w t c
def w_E5(bP bQ bR bS bT bU gX gY gZ hA hB hC w0 K)(h:m_E5 bP bQ bR bS bT bU gX gY gZ hA hB hC w0 K):
  cl 85 #[(.agg #[(vi bP),(vi bQ),(vi bR),(vu bS),(vs bT),bU.v]),(.agg #[(vi gX),(vi gY),(vi gZ),(vu hA),(vs hB),hC.v])] w0<|fun e w'=>∃c g b a d f,e=.returned (Aa c g b a d f)/\K c g b a d f w':=
 cwN func85 h<|nwn 0<|nwn 0<|nwn 0<|xe6<|lr 0<|xe6<|lr 0<|nwn 0<|usn 1<|rss 0<|xe6<|qrr<|qee
def m_F5(s1:ByteArray)(i:World)(K:Int->Int->Int->Int->ByteArray->Sl->WP):Prop:=∀p1 b,New i (.cells #[(vi 0),(vi 0),(vi 0),(vu 0),ve,Sl.nil.v] 71) p1 b->(∀j,j<6->zV b (p1.add j))/\∀a,a=storeRow b p1 [(vi 3),(vi 0),(vi 0),(vu 0),(vs s1),Sl.nil.v]->∃h c e f d g,Row a p1 (Ac h c e f d g)/\K h c e f d g a
def w_F5(s1 w0 K)(h:m_F5 s1 w0 K):
  cl 86 #[(vs s1)] w0<|fun e w'=>∃c g b a d f,e=.returned (Aa c g b a d f)/\K c g b a d f w':=
 cwN func86 h<|nwn 0<|usn 2<|rss 0<|xe6<|qrr<|qee
def m_G5(n1:Int)(i:World)(K:Int->Int->Int->Int->ByteArray->Sl->WP):Prop:=∀p1 b,New i (.cells #[(vi 0),(vi 0),(vi 0),(vu 0),ve,Sl.nil.v] 71) p1 b->(∀j,j<6->zV b (p1.add j))/\∀a,a=storeRow b p1 [(vi 2),(vi 0),(vi 0),(vu n1),ve,Sl.nil.v]->∃h c e f d g,Row a p1 (Ac h c e f d g)/\K h c e f d g a
def w_G5(n1 w0 K)(h:m_G5 n1 w0 K):
  cl 87 #[(vu n1)] w0<|fun e w'=>∃c g b a d f,e=.returned (Aa c g b a d f)/\K c g b a d f w':=
 cwN func87 h<|nwn 0<|usn 2<|rss 0<|xe6<|qrr<|qee
end Go.Proofs
end
section
open Go Go.SE List
namespace Go.Proofs
def qH(x:ByteArray):Tree:=.mk 3 0 0 0 x []
def jCV(n:Int):Tree:=.mk 2 0 0 n ⟨#[]⟩ []
def qV(a b:Tree):Tree:=.mk 4 0 0 0 ⟨#[]⟩ [a,b]
def yX(n:Int)(a:Tree):Tree:=.mk 7 n 0 0 ⟨#[]⟩ [a]
def yS(n:Int)(a:Tree)(fake:Bool):Tree:=.mk (if fake then 9 else 8) n (1-n) 0 ⟨#[]⟩ [a]
def jVF:ByteArray:=⟨#[100,101,97,108]⟩
def qG(c:Int)(x:ByteArray):Tree:=qV (qH jVF)<|qV (jCV c)<|qH x
end Go.Proofs
namespace Go.Proofs
open Tryz
attribute [local irreducible] Calls
def TreeAt.leaf{S w k f t u x}:TreeAt S w Sl.nil (.mk k f t u x []):=
 .mk k f t u x [] Sl.nil (fun _=>Sl.nil) rfl Sm (fun i h=>by simp at h) (fun i h=>by simp at h)
def TreeAt.one{S w k f t u x p A sa T}(hB:Box w p (uP A sa) T)(hS:S p.block)(a:TreeAt S w sa A):TreeAt S w ⟨some p,1,1⟩ (.mk k f t u x [A]):=by
 refine .mk k f t u x [A] _ (fun _=>sa) rfl Sm (fun i h=>?_) fun i h=>?_;have:i=0:=by simpa using h
 subst this;exact⟨p,⟨Om,Sm,p,rfl,rfl⟩,hS,hB.row⟩;grind
def TreeAt.pair{S w k f t u x p A B sa sb T}(hB:Box w p (uP A sa++uP B sb) T)(hS:S p.block)(c:TreeAt S w sa A)(b:TreeAt S w sb B):TreeAt S w ⟨some p,2,2⟩ (.mk k f t u x [A,B]):=by
 refine .mk k f t u x [A,B] _ (fun i=>if i=0 then sa else sb) rfl Sm (fun i h=>?_) fun i h=>?_;have:i=0\/i=1:=by simp at h;omega
 rcases this with rfl|rfl;refine⟨p,⟨Om,Sm,p,rfl,rfl⟩,hS,fun i hi=>?_⟩;have:=hB.row i (by simp[uP]at hi|-;omega);have a:i<6:=by simpa[uP]using hi
 rw[this];exact getElem?_append_left (by simp[uP];omega);refine⟨p.add<|1*6,⟨Om,Sm,p,rfl,rfl⟩,by rw[zG];exact hS,fun i hi=>?_⟩;have a:i<6:=by simpa[uP]using hi
 have:=hB.row (6+i) (by simp[uP];omega);rw[yP,this,getElem?_append_right<|by simp[uP]];simp[uP];grind
abbrev RetT(a:Nat)(w:World)(T:Tree)(e:Ending)(w':World):Prop:=∃s,e=.returned (.agg (uP T s).toArray)/\TreeAt (a<=·) w' s T/\Pure w w'
def uF(n0 x w)(e:n0<=w.heap.size):cl 86 #[vs x] w (RetT n0 w<|qH x):=by
 refine(w_F5 x w (fun k f t u y s w'=>(⟨k,f,t,u,y,0,0⟩:Node)=(qH x).node/\TreeAt (n0<=·) w' s (qH x)/\Pure w w') ?_).mono ?_;intro p1 d h1;exact bx 6 (Box.of_new h1) rfl rfl fun w' b E=>⟨_,_,_,_,_,Sl.nil,b.row,rfl,TreeAt.leaf,Ext.own (Ext.new h1) (New.own (Ext.refl w) h1) E⟩;rintro _ w' ⟨k,f,t,u,y,s,rfl,a,c,E⟩;cases a;exact⟨s,rfl,c,E⟩
def xX(n0 n w)(e:n0<=w.heap.size):cl 87 #[vu n] w (RetT n0 w<|jCV n):=by
 refine(w_G5 n w (fun k f t u y s w'=>(⟨k,f,t,u,y,0,0⟩:Node)=(jCV n).node/\TreeAt (n0<=·) w' s (jCV n)/\Pure w w') ?_).mono ?_;intro p1 d h1;exact bx 6 (Box.of_new h1) rfl rfl fun w' b E=>⟨_,_,_,_,_,Sl.nil,b.row,rfl,TreeAt.leaf,Ext.own (Ext.new h1) (New.own (Ext.refl w) h1) E⟩;rintro _ w' ⟨k,f,t,u,y,s,rfl,a,c,E⟩;cases a;exact⟨s,rfl,c,E⟩
def yL(n0 A B sa sb w)(x:n0<=w.heap.size)(n:TreeAt (n0<=·) w sa A)(hB:TreeAt (n0<=·) w sb B):
  cl 85 #[.agg (uP A sa).toArray,.agg (uP B sb).toArray] w<|RetT n0 w<|qV A B:=by
 refine(w_E5 _ _ _ _ _ sa _ _ _ _ _ sb w (fun k f t u y s w'=>(⟨k,f,t,u,y,0,0⟩:Node)=(qV A B).node/\TreeAt (n0<=·) w' s (qV A B)/\Pure w w') ?_).mono ?_
 intro p1 q h1 z e h2 p3 d h3
 have v:Pure w q:=Ext.new h1
 have g:=v.trans<|Ext.new h2
 have i:Pure w d:=g.trans<|Ext.new h3
 have b1:=((Box.of_new h1).pure<|Ext.new h2).pure (Ext.new h3:Pure e d)
 have b2:=(Box.of_new h2).pure (Ext.new h3:Pure e d)
 refine⟨_,_,_,_,_,sa,b1.row,_,_,_,_,_,sb,b2.row,?_⟩
 intro r o a
 have h:=New.own g h3
 have c:p3.block≠r.block:=New.ne a (Box.of_new h3).blk
 have j:Pure w o:=i.trans<|Ext.new a
 have C:=New.own i a
 refine bx 6 ((Box.of_new h3).pure<|Ext.new a) rfl rfl fun w' b E=>⟨_,_,_,_,_,_,b.row,rfl,?_,j.own h E⟩
 have b4:=(Box.of_new a).ext E c.symm
 have l:=j.own h E
 refine TreeAt.pair (A:=A) (B:=B) (sa:=sa) (sb:=sb) b4 (by show n0<=_;omega) (n.pure l)<|hB.pure l
 rintro _ w' ⟨k,f,t,u,y,s,rfl,p,m,E⟩
 cases p;exact⟨s,rfl,m,E⟩
def oM(n0 n A sa w)(x:n0<=w.heap.size)(l:TreeAt (n0<=·) w sa A):
  cl 84 #[vi n,.agg (uP A sa).toArray] w<|RetT n0 w<|yX n A:=by
 refine(w_D5 n _ _ _ _ _ sa w (fun k f t u y s w'=>(⟨k,f,t,u,y,0,0⟩:Node)=(yX n A).node/\TreeAt (n0<=·) w' s (yX n A)/\Pure w w') ?_).mono ?_
 intro p1 i h1 p3 g h3
 have h:Pure w i:=Ext.new h1
 have d:Pure w g:=h.trans<|Ext.new h3
 have b1:=(Box.of_new h1).pure (Ext.new h3:Pure i g)
 refine⟨_,_,_,_,_,sa,b1.row,?_⟩
 intro p m a
 have j:=New.own h h3
 have c:p3.block≠p.block:=New.ne a (Box.of_new h3).blk
 have e:Pure w m:=d.trans<|Ext.new a
 have v:=New.own d a
 refine bx 6 ((Box.of_new h3).pure<|Ext.new a) rfl rfl fun w' b E=>⟨_,_,_,_,_,_,b.row,rfl,?_,e.own j E⟩
 have b4:=(Box.of_new a).ext E c.symm
 have o:=e.own j E
 exact TreeAt.one (A:=A) (sa:=sa) b4 (by show n0<=_;omega)<|l.pure o
 rintro _ w' ⟨k,f,t,u,y,s,rfl,q,r,E⟩
 cases q;exact⟨s,rfl,r,E⟩
def uE(n0 n)(x:n=0\/n=1)(A fake sa w)(C:n0<=w.heap.size)(m:TreeAt (n0<=·) w sa A):
  cl 83 #[vi n,.agg (uP A sa).toArray,vb fake] w<|RetT n0 w<|yS n A fake:=by
 refine(w_C5 n _ _ _ _ _ sa fake w (fun k f t u y s w'=>(⟨k,f,t,u,y,0,0⟩:Node)=(yS n A fake).node/\TreeAt (n0<=·) w' s (yS n A fake)/\Pure w w') ?_).mono ?_
 .intro p1 j h1 p3 g h3
  have i:Pure w j:=Ext.new h1
  have d:Pure w g:=i.trans<|Ext.new h3
  have b1:=(Box.of_new h1).pure (Ext.new h3:Pure j g)
  have p:IntKind.i64.wrap (1-n)=1-n:=i64 Om Om
  rw[p]
  refine⟨fun h=>⟨_,_,_,_,_,sa,b1.row,?_⟩,fun h=>⟨_,_,_,_,_,sa,b1.row,?_⟩⟩
  all_goals
   intro r o a
   have l:=New.own i h3
   have c:p3.block≠r.block:=New.ne a (Box.of_new h3).blk
   have e:Pure w o:=d.trans<|Ext.new a
   have B:=New.own d a
   refine bx 6 ((Box.of_new h3).pure<|Ext.new a) rfl rfl fun w' b E=>⟨_,_,_,_,_,_,b.row,by rw[h];rfl,?_,e.own l E⟩
   have b4:=(Box.of_new a).ext E c.symm
   have q:=e.own l E
   exact TreeAt.one (A:=A) (sa:=sa) b4 (by show n0<=_;omega)<|m.pure q
 .rintro _ w' ⟨k,f,t,u,y,s,rfl,v,z,E⟩
  cases v;exact⟨s,rfl,z,E⟩
def jQG(n0 c x w)(I:n0<=w.heap.size):cl 82 #[vu c,vs x] w (RetT n0 w<|qG c x):=by
 refine(w_B5 c x w (fun k f t u y s w'=>(⟨k,f,t,u,y,0,0⟩:Node)=(qG c x).node/\TreeAt (n0<=·) w' s (qG c x)/\Pure w w') ?_).mono ?_;intro p1 a h1;have n:Pure w a:=Ext.new h1;have o1:=New.own (Ext.refl w) h1;have s1:w.heap.size<=a.heap.size:=n.size;refine(uF a.heap.size _ a Om).mono ?_;rintro _ A ⟨sa,rfl,v,i⟩;have J:=i.size;refine⟨_,_,_,_,_,sa,rfl,?_⟩;refine(xX a.heap.size c A Om).mono ?_;rintro _ F ⟨sb,rfl,hB,g⟩;have K:=g.size;refine⟨_,_,_,_,_,sb,rfl,?_⟩;refine(uF a.heap.size x F Om).mono ?_;rintro _ z ⟨sc,rfl,G,d⟩;have L:=d.size;refine⟨_,_,_,_,_,sc,rfl,?_⟩;refine(yL a.heap.size (jCV c) (qH x) sb sc z Om (hB.pure d) G).mono ?_;rintro _ D ⟨j,rfl,H,h⟩;have M:=h.size;refine⟨_,_,_,_,_,j,rfl,?_⟩;refine(yL a.heap.size (qH jVF) (qV (jCV c)<|qH x) sa j D Om (((v.pure g).pure d).pure h) H).mono ?_;rintro _ C ⟨l,rfl,r,o⟩;have E:Pure a C:=(((i.trans g).trans d).trans h).trans o;refine⟨_,_,_,_,_,l,rfl,?_⟩;refine bx 6 ((Box.of_new h1).pure E) rfl rfl fun w' b m=>⟨_,_,_,_,_,l,b.row,rfl,?_,(n.trans E).own o1 m⟩;exact(r.ext m fun b p e=>by have:=(Box.of_new h1).lt;have:a.heap.size<=b:=p;omega).mono Gd;rintro _ w' ⟨k,f,t,u,y,s,rfl,B,q,E⟩;cases B;exact⟨s,rfl,q,E⟩
end Go.Proofs
end
section
open Go Go.SE List
namespace Go.Proofs
structure Letter where
 kind:Int
 frm:Int
 c:Int
 text:ByteArray
 fake:Bool
deriving DecidableEq
def tA:Letter:=⟨0,0,0,⟨#[]⟩,false⟩
def jIP:ByteArray:=⟨#[97,98,111,114,116]⟩
def tQ:ByteArray:=⟨#[114,101,115,111,108,118,101]⟩
def jAZ:ByteArray:=⟨#[97,98,111,114,116,101,100]⟩
def jAY:ByteArray:=⟨#[105,110,115,116,101,97,100]⟩
def jYC:ByteArray:=⟨#[102,117,108,108]⟩
def zR(l:Letter)(first a:Bool):Tree:=
 if l.kind=1 then yS l.frm (qG l.c l.text) l.fake
 else if l.kind=2 then yX l.frm (qG l.c l.text)
 else if l.kind=3 then yX 0 (qV (qH jIP)<|jCV l.c)
 else if l.kind=4 then yX l.frm (qV (qH tQ)<|qV (yS 0 (qG l.c l.text)<|l.fake&&first) (yS 1 (qG l.c l.text)<|l.fake&&a))
 else if l.kind=5 then yX 2 (qV (qH jAZ)<|jCV l.c)
 else if l.kind=6 then yX 2 (qV (qH jAY)<|qG l.c l.text)
 else qV (qH jYC) (jCV l.c)
end Go.Proofs
namespace Go.Proofs
open Tryz
attribute [local irreducible] Calls
def jHG(n0 k f c x fake first second w)(h0:n0<=w.heap.size)(hf:f=0\/f=1):
  cl 25 #[.agg #[vi k,vi f,vu c,vs x,vb fake],vb first,vb second] w (RetT n0 w<|zR ⟨k,f,c,x,fake⟩ first second):=by
 generalize hR:zR ⟨k,f,c,x,fake⟩ first second=R
 suffices key:∀K:Int->Int->Int->Int->ByteArray->Sl->WP,(∀s w',TreeAt (n0<=·) w' s R/\Pure w w'->K R.node.kind R.node.frm R.node.to R.node.num R.node.text s w')->m_V2 k f c x fake first second w K by
  refine(w_V2 k f c x fake first second w (fun k f t u y s w'=>(k=R.node.kind/\f=R.node.frm/\t=R.node.to/\u=R.node.num/\y=R.node.text)/\TreeAt (n0<=·) w' s R/\Pure w w') (key _ Gd)).mono ?_;rintro _ w' ⟨k,f,t,u,y,s,rfl,⟨rfl,rfl,rfl,rfl,rfl⟩,P,E⟩;exact⟨s,rfl,P,E⟩
 intro K hK
 intro p1 w1 h1 p2 n h2
 have E1:Pure w w1:=Ext.new h1
 have E2:Pure w n:=E1.trans<|Ext.new h2
 have o2:=New.own E1 h2
 have a1:=(Box.of_new h1).pure (Ext.new h2:Pure w1 n)
 have a2:=Box.of_new h2
 have l1:=a1.lt
 have l2:=a2.lt
 have s2:=E2.size
 clear h1 h2
 refine⟨_,a1.cell rfl,_,a1.cell rfl,?_⟩
 refine(jQG n.heap.size c x n<|Nat.le_refl _).mono ?_
 rintro _ w3 ⟨O,rfl,hD,E3⟩
 refine⟨_,_,_,_,_,O,rfl,?_⟩
 intro p3 w4 h4
 have o3:=New.own (Ext.refl w3) h4
 refine bx 6 (Box.of_new h4) rfl rfl fun M b3 E'=>?_
 have E5:Pure w3 M:=Ext.own (Ext.new h4) o3 E'
 have hD5:=hD.pure E5
 have E25:Pure n M:=E3.trans E5
 have s5:=E25.size
 have b1:=a1.pure E25
 have b3:Box M p3 (uP (qG c x) O) 71:=b3
 clear E' h4 E5 hD E3
 have S : ∀ (T : Tree) (s : Sl) (w' : World), Pure M w' -> TreeAt (n.heap.size <= ·) w' s T -> T = R ->
   (∀j,j<6->zV w' (p2.add j))/\∀A:World,A=storeRow w' p2 (uP T s) ->
   ∃q:Int,∃p:Int,∃N:Int,∃G:Int,∃r:ByteArray,∃o:Sl,Row A p2 [(vi q),(vi p),(vi N),(vu G),(vs r),o.v]/\K q p N G r o A:=by
  rintro T s w' E P rfl
  refine bx 6 (a2.pure<|E25.trans E) rfl rfl fun A b E'=>⟨_,_,_,_,_,s,b.row,hK s A ⟨?_,(E2.trans<|E25.trans E).own o2 E'⟩⟩
  exact(P.ext E' Gd).mono Gd
 have drawn:∃C:WP,C M.drew/\(∀w' A,Pure w' A->C w'->C A)/\(∀w',C w'->Box w' p1 [vi k,vi f,vu c,vs x,vb fake] 35/\Box w' p3 (uP (qG c x) O) 71):=
  ⟨fun w'=>Box w' p1 [vi k,vi f,vu c,vs x,vb fake] 35/\Box w' p3 (uP (qG c x) O) 71,⟨b1.pure<|Ext.drew M,b3.pure<|Ext.drew M⟩,fun _ _ E h=>⟨h.1.pure E,h.2.pure E⟩,fun _ h=>h⟩
 have⟨C,X,F,L⟩:=drawn
 refine⟨k,b1.cell0,fun I=>?_,fun hk1=>⟨fun I=>?_,fun hk2=>⟨fun I=>?_,fun hk3=>⟨fun I=>?_,fun hk4=>⟨fun I=>?_,fun hk5=>⟨fun I=>?_,fun hk6=>?_⟩⟩⟩⟩⟩⟩
 .have I:k=1:=by simpa using I
  refine⟨f,b1.cell rfl,_,_,_,_,_,O,b3.row,fake,b1.cell rfl,?_⟩
  refine(uE n.heap.size f hf (qG c x) fake O M s5 hD5).mono ?_
  rintro _ w6 ⟨s,rfl,P,E6⟩
  exact⟨_,_,_,_,_,s,rfl,S _ s w6 E6 P (by rw[<-hR];simp only[zR];rw[if_pos I])⟩
 .have I:k=2:=by simpa using I
  refine⟨f,b1.cell rfl,_,_,_,_,_,O,b3.row,?_⟩
  refine(oM n.heap.size f (qG c x) O M s5 hD5).mono ?_
  rintro _ w6 ⟨s,rfl,P,E6⟩
  exact⟨_,_,_,_,_,s,rfl,S _ s w6 E6 P (by rw[<-hR];simp only[zR];rw[if_neg Om,if_pos I])⟩
 .have I:k=3:=by simpa using I
  refine⟨C,X,?_⟩
  intro i a
  have m:Pure M i:=by rw[a];exact Ext.drew M
  have z:C i:=by rw[a];exact X
  clear a
  have s10:=m.size
  refine⟨c,fun w' h=>(L w' h).1.cell rfl,?_⟩
  refine(uF n.heap.size _ i Om).mono ?_
  rintro _ D ⟨sa,rfl,hA,g⟩
  have Y:=g.size
  refine⟨_,_,_,_,_,sa,rfl,F _ _ g z,?_⟩
  refine(xX n.heap.size c D Om).mono ?_
  rintro _ J ⟨sb,rfl,hB,d⟩
  have Z:=d.size
  refine⟨_,_,_,_,_,sb,rfl,?_⟩
  refine(yL n.heap.size (qH jIP) (jCV c) sa sb J Om (hA.pure d) hB).mono ?_
  rintro _ B ⟨se,rfl,hE,l⟩
  have s13:=l.size
  refine⟨_,_,_,_,_,se,rfl,?_⟩
  refine(oM n.heap.size 0 (qV (qH jIP)<|jCV c) se B Om hE).mono ?_
  rintro _ W ⟨s,rfl,P,V⟩
  exact⟨_,_,_,_,_,s,rfl,S _ s W ((((m.trans g).trans d).trans l).trans V) P (by rw[<-hR];simp only[zR];rw[if_neg Om,if_neg Om,if_pos I])⟩
 .have I:k=4:=by simpa using I
  refine⟨C,X,?_⟩
  intro i a
  have m:Pure M i:=by rw[a];exact Ext.drew M
  have z:C i:=by rw[a];exact X
  clear a
  have s10:=m.size
  refine⟨f,fun w' h=>(L w' h).1.cell rfl,_,_,_,_,_,O,fun w' h=>(L w' h).2.row,fake,fun w' h=>(L w' h).1.cell rfl,_,_,_,_,_,O,fun w' h=>(L w' h).2.row,fake,fun w' h=>(L w' h).1.cell rfl,?_⟩
  refine(uF n.heap.size _ i Om).mono ?_
  rintro _ D ⟨sa,rfl,hA,g⟩
  have Y:=g.size
  have U:=hD5.pure<|m.trans g
  have H:=F _ _ g z
  refine⟨_,_,_,_,_,sa,rfl,H,?_⟩
  have rest : ∀ (u v : Bool) (sx sy : Sl) (w' : World), u = (fake && first) -> v = (fake && second) -> Pure D w' -> TreeAt (n.heap.size <= ·) w' sx (yS 0 (qG c x) u) -> TreeAt (n.heap.size <= ·) w' sy (yS 1 (qG c x) v) ->
    cl 85 #[.agg (uP (yS 0 (qG c x) u) sx).toArray,.agg (uP (yS 1 (qG c x) v) sy).toArray] w' (fun e wa=>∃k1 f1 t1 u1 y1,∃s1:Sl,e=.returned (.agg #[vi k1,vi f1,vi t1,vu u1,vs y1,s1.v])/\C wa /\
     cl 85 #[.agg (uP (qH tQ) sa).toArray,.agg #[vi k1,vi f1,vi t1,vu u1,vs y1,s1.v]] wa (fun e wb=>∃k1 f1 t1 u1 y1,∃s1:Sl,e=.returned (.agg #[vi k1,vi f1,vi t1,vu u1,vs y1,s1.v])/\C wb /\
      cl 84 #[vi f,.agg #[vi k1,vi f1,vi t1,vu u1,vs y1,s1.v]] wb (fun e wc=>∃k1 f1 t1 u1 y1,∃s1:Sl,e=.returned (.agg #[vi k1,vi f1,vi t1,vu u1,vs y1,s1.v]) /\
       (∀j,j<6->zV wc (p2.add j))/\∀A:World,A=storeRow wc p2 [vi k1,vi f1,vi t1,vu u1,vs y1,s1.v] ->
   ∃q:Int,∃p:Int,∃N:Int,∃G:Int,∃r:ByteArray,∃o:Sl,Row A p2 [(vi q),(vi p),(vi N),(vu G),(vs r),o.v]/\K q p N G r o A))):=by
   intro u v sx sy w' hu hv E hX hY
   have s':=E.size
   refine(yL n.heap.size (yS 0 (qG c x) u) (yS 1 (qG c x) v) sx sy w' Om hX hY).mono ?_
   rintro _ wa ⟨s1,rfl,h1,Ea⟩
   have sa':=Ea.size
   refine⟨_,_,_,_,_,s1,rfl,F _ _ (E.trans Ea) H,?_⟩
   refine(yL n.heap.size (qH tQ) (qV (yS 0 (qG c x) u)<|yS 1 (qG c x) v) sa s1 wa Om (hA.pure<|E.trans Ea) h1).mono ?_
   rintro _ wb ⟨s2,rfl,h2,Eb⟩
   have sb':=Eb.size
   refine⟨_,_,_,_,_,s2,rfl,F _ _ ((E.trans Ea).trans Eb) H,?_⟩
   refine(oM n.heap.size f (qV (qH tQ)<|qV (yS 0 (qG c x) u)<|yS 1 (qG c x) v) s2 wb Om h2).mono ?_
   rintro _ wc ⟨s3,rfl,h3,Ec⟩
   exact⟨_,_,_,_,_,s3,rfl,S _ s3 wc (((((m.trans g).trans E).trans Ea).trans Eb).trans Ec) h3 (by rw[<-hR,hu,hv];simp only[zR];rw[if_neg Om,if_neg Om,if_neg Om,if_pos I])⟩
  refine⟨fun Q=>?_,fun Q=>?_⟩
  .refine(uE n.heap.size 0 (.inl rfl) (qG c x) first O D Om U).mono ?_
   rintro _ J ⟨sx,rfl,hX,d⟩
   have Z:=d.size
   refine⟨_,_,_,_,_,sx,rfl,F _ _ d H,Br.t Q ?_⟩
   refine(uE n.heap.size 1 (.inr rfl) (qG c x) second O J Om<|U.pure d).mono ?_
   rintro _ B ⟨sy,rfl,hY,l⟩
   exact⟨_,_,_,_,_,sy,rfl,F _ _ (d.trans l) H,rest first second sx sy B (by rw[Q];rfl) (by rw[Q];rfl) (d.trans l) (hX.pure l) hY⟩
  .refine(uE n.heap.size 0 (.inl rfl) (qG c x) false O D Om U).mono ?_
   rintro _ J ⟨sx,rfl,hX,d⟩
   have Z:=d.size
   refine⟨_,_,_,_,_,sx,rfl,F _ _ d H,Br.f Q ?_⟩
   refine(uE n.heap.size 1 (.inr rfl) (qG c x) false O J Om<|U.pure d).mono ?_
   rintro _ B ⟨sy,rfl,hY,l⟩
   exact⟨_,_,_,_,_,sy,rfl,F _ _ (d.trans l) H,rest false false sx sy B (by rw[Q];rfl) (by rw[Q];rfl) (d.trans l) (hX.pure l) hY⟩
 .have I:k=5:=by simpa using I
  refine⟨C,X,?_⟩
  intro i a
  have m:Pure M i:=by rw[a];exact Ext.drew M
  have z:C i:=by rw[a];exact X
  clear a
  have s10:=m.size
  refine⟨c,fun w' h=>(L w' h).1.cell rfl,?_⟩
  refine(uF n.heap.size _ i Om).mono ?_
  rintro _ D ⟨sa,rfl,hA,g⟩
  have Y:=g.size
  refine⟨_,_,_,_,_,sa,rfl,F _ _ g z,?_⟩
  refine(xX n.heap.size c D Om).mono ?_
  rintro _ J ⟨sb,rfl,hB,d⟩
  have Z:=d.size
  refine⟨_,_,_,_,_,sb,rfl,?_⟩
  refine(yL n.heap.size (qH jAZ) (jCV c) sa sb J Om (hA.pure d) hB).mono ?_
  rintro _ B ⟨se,rfl,hE,l⟩
  have s13:=l.size
  refine⟨_,_,_,_,_,se,rfl,?_⟩
  refine(oM n.heap.size 2 (qV (qH jAZ)<|jCV c) se B Om hE).mono ?_
  rintro _ W ⟨s,rfl,P,V⟩
  exact⟨_,_,_,_,_,s,rfl,S _ s W ((((m.trans g).trans d).trans l).trans V) P (by rw[<-hR];simp only[zR];rw[if_neg Om,if_neg Om,if_neg Om,if_neg Om,if_pos I])⟩
 .have I:k=6:=by simpa using I
  refine⟨C,X,?_⟩
  intro i a
  have m:Pure M i:=by rw[a];exact Ext.drew M
  have z:C i:=by rw[a];exact X
  clear a
  have s10:=m.size
  refine⟨_,_,_,_,_,O,fun w' h=>(L w' h).2.row,?_⟩
  refine(uF n.heap.size _ i Om).mono ?_
  rintro _ D ⟨sa,rfl,hA,g⟩
  have Y:=g.size
  refine⟨_,_,_,_,_,sa,rfl,F _ _ g z,?_⟩
  refine(yL n.heap.size (qH jAY) (qG c x) sa O D Om hA<|hD5.pure<|m.trans g).mono ?_
  rintro _ B ⟨se,rfl,hE,l⟩
  have s13:=l.size
  refine⟨_,_,_,_,_,se,rfl,?_⟩
  refine(oM n.heap.size 2 (qV (qH jAY)<|qG c x) se B Om hE).mono ?_
  rintro _ W ⟨s,rfl,P,V⟩
  exact⟨_,_,_,_,_,s,rfl,S _ s W (((m.trans g).trans l).trans V) P (by rw[<-hR];simp only[zR];rw[if_neg Om,if_neg Om,if_neg Om,if_neg Om,if_neg Om,if_pos I])⟩
 .have hk1:k≠1:=by simpa using hk1
  have hk2:k≠2:=by simpa using hk2
  have hk3:k≠3:=by simpa using hk3
  have hk4:k≠4:=by simpa using hk4
  have hk5:k≠5:=by simpa using hk5
  have hk6:k≠6:=by simpa using hk6
  refine⟨C,X,?_⟩
  intro i a
  have m:Pure M i:=by rw[a];exact Ext.drew M
  have z:C i:=by rw[a];exact X
  clear a
  have s10:=m.size
  refine⟨c,fun w' h=>(L w' h).1.cell rfl,?_⟩
  refine(uF n.heap.size _ i Om).mono ?_
  rintro _ D ⟨sa,rfl,hA,g⟩
  have Y:=g.size
  refine⟨_,_,_,_,_,sa,rfl,F _ _ g z,?_⟩
  refine(xX n.heap.size c D Om).mono ?_
  rintro _ J ⟨sb,rfl,hB,d⟩
  have Z:=d.size
  refine⟨_,_,_,_,_,sb,rfl,?_⟩
  refine(yL n.heap.size (qH jYC) (jCV c) sa sb J Om (hA.pure d) hB).mono ?_
  rintro _ B ⟨s,rfl,P,l⟩
  exact⟨_,_,_,_,_,s,rfl,S _ s B (((m.trans g).trans d).trans l) P (by rw[<-hR];simp only[zR];rw[if_neg hk1,if_neg hk2,if_neg hk3,if_neg hk4,if_neg hk5,if_neg hk6])⟩
end Go.Proofs
end
section
open Go Go.SE List
namespace Go.Proofs
def qU(L:Pool)(t kind:Int):Node×Bool:=if inP L t=true/\(nodeOf L t).kind=kind then(nodeOf L t,false)else(xL,true)
def vQ(L:Pool)(t:Int):(ByteArray×Int)×Bool:=
 (((qU L (qU L t 4).1.a 3).1.text,(qU L t 4).1.b),(qU L t 4).2 ||(qU L (qU L t 4).1.a 3).2)
def oT(L:Pool)(t:Int):(Int×ByteArray)×Bool:=
 let g:=vQ L t
 let n:=qU L g.1.2 4
 (((qU L n.1.a 2).1.num,(qU L n.1.b 3).1.text),g.2 ||n.2 ||!decide (g.1.1=jVF) ||(qU L n.1.a 2).2 ||(qU L n.1.b 3).2)
end Go.Proofs
namespace Go.Proofs
attribute [local irreducible] Calls
end Go.Proofs
end
section
open Go Go.SE List
namespace Go.Proofs
def qI(L:Pool)(t:Int):Letter×Bool:=
 let n:=nodeOf L t
 if(n.kind≠8/\n.kind≠9)\/1<n.frm\/n.to≠IntKind.i64.wrap (1-n.frm)then(tA,true)
 else(⟨1,n.frm,(oT L n.a).1.1,(oT L n.a).1.2,n.kind==9⟩,(oT L n.a).2)
end Go.Proofs
namespace Go.Proofs
attribute [local irreducible] Calls
end Go.Proofs
end
section
open Go Go.SE List
namespace Go.Proofs
def tH(L:Pool)(who n:Int):Letter×Bool:=
 let m:=qU L n 4
 let a:=qI L m.1.a
 let b:=qI L m.1.b
 (⟨4,who,a.1.c,a.1.text,a.1.fake ||b.1.fake⟩,m.2 ||a.2 ||b.2 ||a.1.frm !=0 ||b.1.frm !=1 ||a.1.c !=b.1.c ||!decide (a.1.text=b.1.text))
def oY(L:Pool)(who body:Int):Letter×Bool:=
 let g:=vQ L body
 if g.1.1=jIP/\who=0 then(⟨3,0,(qU L g.1.2 2).1.num,⟨#[]⟩,false⟩,g.2 ||(qU L g.1.2 2).2)
 else if g.1.1=jAZ/\who=2 then(⟨5,0,(qU L g.1.2 2).1.num,⟨#[]⟩,false⟩,g.2 ||(qU L g.1.2 2).2)
 else if g.1.1=jAY/\who=2 then(⟨6,0,(oT L g.1.2).1.1,(oT L g.1.2).1.2,false⟩,g.2 ||(oT L g.1.2).2)
 else if g.1.1=jVF/\who<=1 then(⟨2,who,(oT L body).1.1,(oT L body).1.2,false⟩,g.2 ||(oT L body).2)
 else if g.1.1=tQ/\who<=1 then((tH L who g.1.2).1,g.2 ||(tH L who g.1.2).2)
 else(tA,true)
end Go.Proofs
namespace Go.Proofs
attribute [local irreducible] Calls
end Go.Proofs
end
section
open Go Go.SE List
namespace Go.Proofs
def jBV(L:Pool)(t:Int):Letter×Bool:=
 let n:=nodeOf L t
 if n.kind=7 then oY L n.frm n.a else if n.kind=8\/n.kind=9 then qI L t
 else if((vQ L t).2 ||!decide ((vQ L t).1.1=jYC))=true then(tA,true)
 else(⟨7,0,(qU L (vQ L t).1.2 2).1.num,⟨#[]⟩,false⟩,(qU L (vQ L t).1.2 2).2)
def zFB(L:Pool)(t:Int):Letter×Bool:=if(jBV L t).2=true then(tA,false)else((jBV L t).1,true)
end Go.Proofs
namespace Go.Proofs
attribute [local irreducible] Calls
end Go.Proofs
end
section
open Go Go.SE List
namespace Go.Proofs
attribute [local irreducible] Calls
end Go.Proofs
end
section
open Go Go.SE List
namespace Go.SE
def Rws.lit{w w' p cs e sz rs}(g:New w (.cells cs e) p w')(b:cs.toList=rs.flatten)(c:∀r∈rs,r.length=sz)(hm:rs.length<=maxLen):Rws w' e sz ⟨some p,rs.length,rs.length⟩ rs:=by
 have⟨f,d⟩:=g;have a:cs.size=rs.length*sz:=by rw[<-vZ c,<-b,Array.length_toList]
 refine⟨c,rfl,.inr ⟨w.heap.size,cs,by rw[f],?_,Nat.le_refl _,hm,a,?_⟩⟩;rw[d];exact heap_alloc_new w _;rw[b,take_of_length_le Gd]
end Go.SE
namespace Go.Proofs
def jWG(l:Letter):List Value:=[vi l.kind,vi l.frm,vu l.c,vs l.text,vb l.fake]
end Go.Proofs
end
