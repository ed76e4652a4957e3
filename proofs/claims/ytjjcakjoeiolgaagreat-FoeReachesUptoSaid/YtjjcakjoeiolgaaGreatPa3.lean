import Derived.Test.YtjjcakjoeiolgaaGreatPa2
import Derived.Test.YtjjcakjoeiolgaaGreatPa1
import Derived.Test.YtjjcakjoeiolgaaGreatProg
import Derived.KernelRfl
import Derived.Test.YtjjcakjoeiolgaaGreatPa0
set_option linter.defProp false
section
open Go Go.SE List
namespace Go.Proofs
open Tryz
attribute [local irreducible] Calls
def jKJ(p n w0){L F}(N:vK w0 p L F)(u:n<=L.length):
  cl 154 #[vp<|some p,vi n] w0<|fun e w'=>e=.returned (.tuple #[])/\vK w' p (L.take n) F/\Ext F w0 w':=by
 suffices key:∀K:WP,(∀w',vK w' p (L.take n) F/\Ext F w0 w'->K w')->m_X2 (some p) n w0 K from
  w_X2 _ _ w0 _<|key _ fun _ h=>h
 intro K Q
 unfold m_X2
 have⟨s1,G,x,hS,M⟩:=N
 have⟨l,y,I,a⟩:=Rws.hi (P:=prog) jTN hS.r1 (k:=.i64) (n:=n) Om (by simpa using u)
 refine⟨p,rfl,s1,hS.box.cell0,l,y,p,rfl,hS.box.canW0 Sm,?_⟩
 rintro r i
 have C:Box r p [l.v,G.v,x.v] 44:=by rw[i];exact hS.box.set0
 have t:Ext (·=p.block) w0 r:=by rw[i];exact Ext.setCell p _
 clear i
 have⟨m,D,J,d⟩:=Rws.hi (P:=prog) jDS (hS.r2.ext t fun b f e=>hS.n2<|e▸f) (k:=.i64) (n:=n) Om (by simpa using u)
 refine⟨p,rfl,G,C.cell rfl,m,D,p,rfl,C.canW Sm,?_⟩
 rintro q j
 have z:Box q p [l.v,m.v,x.v] 44:=by rw[j];exact C.set 1 _
 have B:Ext (·=p.block) r q:=by rw[j];have:=Ext.setCell (w:=r) (p.add 1) m.v;rw[zG]at this;exact this
 clear j
 have⟨o,A,O,c⟩:=Rws.hi (P:=prog) jDS (hS.r3.ext (t.trans B) fun b f e=>hS.n3<|e▸f) (k:=.i64) (n:=n) Om (by simpa using u)
 refine⟨p,rfl,x,z.cell rfl,o,A,p,rfl,z.canW Sm,?_⟩
 rintro H g
 have R:Box H p [l.v,m.v,o.v] 44:=by rw[g];exact z.set 2 _
 have s:Ext (·=p.block) q H:=by rw[g];have:=Ext.setCell (w:=q) (p.add 2) o.v;rw[zG]at this;exact this
 clear g
 have E:=(t.trans B).trans s
 refine Q _ ⟨⟨l,m,o,⟨R,?_,?_,?_,fun h=>hS.n1<|(a _).1 h,fun h=>hS.n2<|(d _).1 h,fun h=>hS.n3<|(c _).1 h,fun b h1 h2=>hS.d12 b ((a b).1 h1)<|(d b).1 h2,fun b h1 h2=>hS.d13 b ((a b).1 h1)<|(c b).1 h2,fun b h1 h2=>hS.d23 b ((d b).1 h1)<|(c b).1 h2⟩,fun b=>by rw[M b,a b,d b,c b]⟩,E.mono Gd⟩
 have:=I.ext E fun b f e=>hS.n1<|(a _).1<|e▸f
 rw[map_take];simpa using this
 have:=J.ext (B.trans s) fun b f e=>hS.n2<|(d _).1<|e▸f
 rw[map_take];simpa using this
 have:=O.ext s fun b f e=>hS.n3<|(c _).1<|e▸f
 rw[map_take];simpa using this
def jQJ{S}(p t):∀(s:Sl) (d:World) (L:Pool) (F:NP),Tree.two t->TreeAt S d s t->vK d p L F->Ok L->(∀b,F b->¬ S b)->(∀b,S b->b<d.heap.size) ->
  cl 153 #[vp<|some p,.agg (uP t s).toArray] d
   (XH fun r1 r2 w'=>(r1,r2)=((grow L t).1,(grow L t).2.1)/\∃F',vK w' p (grow L t).2.2 F'/\Ext F d w'/\∀b,F' b->F b\/d.heap.size<=b):=by
 induction t using Tree.ind with
 |h k f t u x c ih =>
 intro s d L F h2 hT hP hok R hSw
 suffices key:∀K:Int->Int->WP,(∀r1 r2 w',((r1,r2)=((grow L<|.mk k f t u x c).1,(grow L<|.mk k f t u x c).2.1)/\∃F',vK w' p (grow L<|.mk k f t u x c).2.2 F'/\Ext F d w'/\∀b,F' b->F b\/d.heap.size<=b)->K r1 r2 w')->m_Y1 (some p) k f t u x s d K from
  w_Y1 _ _ _ _ _ _ _ d _<|key _ fun _ _ _ h=>h
 intro K hK
 have⟨hk2,E⟩:=jYE.1 h2
 have hsp:grow L (.mk k f t u x c)=zX ⟨k,f,t,u,x,0,0⟩ 0 L c:=by rw[grow]
 rw[hsp]at hK
 have o:s.len=c.length:=by cases hT;assumption
 intro H2 w4 y
 refine⟨fun i a1 a2 a3 a4 a5 a6 a7 H w'=>∃j:Nat,i=j/\j<=c.length/\∃(n:Pool) (F':NP),zX ⟨k,f,t,u,x,0,0⟩ 0 L c=zX ⟨a1,a2,a3,a4,a5,a6,a7⟩ j n (c.drop j)/\Ok n/\vK w' p n F'/\(∀b,F' b->F b\/d.heap.size<=b)/\(∀b,F' b->¬H b)/\Ext F d w',fun i _ _ _ _ _ _ _ _=>((c.length:Int)-i).toNat,
  ⟨0,rfl,Nat.zero_le _,L,F,Sm,hok,hP.pure y.first,fun b h=>.inl h,y.disj0 fun b m=>hP.lt m,y.first.pure⟩,?_⟩
 rintro _ a1 a2 a3 a4 a5 a6 a7 Hl wl hl ⟨j,rfl,hj,n,F',g,l,M,A,U,J⟩
 refine⟨fun h=>?_,fun h=>?_⟩
 .have e:=vR o h
  have W:TreeAt S wl s (.mk k f t u x c):=hT.ext J fun b hs hf=>R b hf hs
  have C:∃a r,At s j 6 a/\Row wl a (uP c[j] r)/\TreeAt S wl r c[j]:=by
   cases W with
   |mk _ _ _ _ _ _ _ rs len fit row kid=>exact let ⟨a,h1,_,h3⟩:=row j e;⟨a,rs j,h1,h3,kid j e⟩
  have⟨a,r,X,O,Y⟩:=C
  refine⟨a,X,_,_,_,_,_,r,O,?_⟩
  have Z:d.heap.size<=wl.heap.size:=J.size
  refine(ih j e r wl n F' (jLC E e) Y M l Gd Gd).mono ?_
  rintro _ w8 ⟨r1,r2,rfl,hr,I,z,E8,N⟩
  have e1:r1=(grow n c[j]).1:=congrArg Prod.fst hr
  have P:r2=(grow n c[j]).2.1:=congrArg Prod.snd hr
  rw[drop_eq_getElem_cons e]at g
  have v:∀b,I b->F b\/d.heap.size<=b:=fun b m=>(N b m).elim (A b) (fun h=>by right;omega)
  have D:Ext F d w8:=J.trans' E8 Gd
  refine⟨_,_,rfl,E8.kept fun b B T=>U b T B,fun h=>?_,fun h=>?_⟩
  .have h:(grow n c[j]).2.1≠0:=by rw[<-P];simpa using h
   rw[jKB h]at g
   refine hK _ _ _ ?_
   rw[g];exact⟨by rw[P],I,z,D,v⟩
  .have h:(grow n c[j]).2.1=0:=by rw[<-P];simpa using h
   rw[jHF h]at g
   intro H3 w9 w
   have Q:∀b,I b->¬Hl b:=fun b m B=>(N b m).elim (fun h=>U b h B) fun h=>Oh<|hl.lt b B
   have G:∀b,I b->¬H3 b:=w.disj fun b m=>⟨z.lt m,Q b m⟩
   rw[zQ e Om]
   refine⟨⟨j+1,rfl,e,_,I,?_,(tF c[j] n l).1,z.ext w.ext G,v,G,D.hst w⟩,uR e⟩
   rw[g,e1]
   have V:(((j:Int))==0)=decide (j=0):=by rw[Bool.eq_iff_iff];simp
   rw[V]
   by_cases q:j=0
   .subst q;rfl
   .simp[q]
 .have hge:=yI o hj h
  rw[hge,drop_length,zX]at g
  refine(vV p ⟨a1,a2,a3,a4,a5,a6,a7⟩ wl M l).mono ?_
  rintro _ w9 ⟨r1,r2,rfl,hr,F9,hP9,E9,hF9⟩
  have Z:d.heap.size<=wl.heap.size:=J.size
  refine⟨_,_,rfl,E9.kept fun b B T=>U b T B,hK _ _ _ ?_⟩
  rw[g]
  exact⟨hr,F9,hP9,J.trans' E9 fun i hi h=>(A i h).elim id fun h=>Om,fun b m=>(hF9 b m).elim (A b) fun h=>by right;omega⟩
def jND(t):∀L,(grow L t).2.1≠0->(grow L t).1=0:=by
 induction t using Tree.ind with
 |h k f t u x a d =>
  have b:∀L n,(make L n).2.1≠0->(make L n).1=0:=by
   intro L n h;unfold make at h|-;simp only at h|-;split at h;grind;grind
  have:∀(a:List Tree),(∀i (hi:i<a.length),∀L,(grow L a[i]).2.1≠0->(grow L a[i]).1=0)->∀n i L,(zX n i L a).2.1≠0->(zX n i L a).1=0:=by
   intro a;induction a with
   |nil=>intro _ n i L h;unfold zX at h|-;exact b L n h
   |cons t ts c =>
    intro hh n i L h
    unfold zX at h|-
    split at h
    rename_i h1;rw[if_pos h1]
    rename_i h1;rw[if_neg h1];exact c (fun i hi=>hh (i+1)<|by simpa using hi) _ _ _ h
  intro L h
  unfold grow at h|-
  exact this a d _ _ L h
def jWZ{S}(p t s w0){L F}(R:TreeAt S w0 s t)(G:vK w0 p L F)(q:Ok L)(A:∀b,F b->¬ S b)(m:∀b,S b->b<w0.heap.size):
  cl 96 #[vp<|some p,.agg (uP t s).toArray] w0
   (XH fun r1 r2 w'=>(r1,r2)=((of L t).1,(of L t).2.1)/\∃F',vK w' p (of L t).2.2 F'/\Ext F w0 w'/\∀b,F' b->F b\/w0.heap.size<=b):=by
 have⟨k,f,to,u,x,y⟩:=t
 suffices key:∀K:Int->Int->WP,(∀r1 r2 w',((r1,r2)=((of L<|.mk k f to u x y).1,(of L<|.mk k f to u x y).2.1)/\∃F',vK w' p (of L<|.mk k f to u x y).2.2 F'/\Ext F w0 w'/\∀b,F' b->F b\/w0.heap.size<=b)->K r1 r2 w')->m_Y2 (some p) k f to u x s w0 K from
  w_Y2 _ _ _ _ _ _ _ w0 _<|key _ fun _ _ _ h=>h
 intro K H
 intro T w1 g
 have N:=g.first
 generalize ht:Tree.mk k f to u x y=t at *
 have C:(Value.agg #[vi k,vi f,vi to,vu u,vs x,s.v])=.agg (uP t s).toArray:=by rw[<-ht];rfl
 rw[C]
 refine(jNK t s w1 (R.pure N) fun b c=>Oi (m b c) N.size).mono ?_
 rintro _ U ⟨r1,rfl,rfl,D⟩
 have a:=N.trans D
 refine⟨_,rfl,D.keptP,fun h=>?_,fun h=>?_⟩
 .have h:(qK 0 0 t).1≠0:=by simpa using h
  have:of L t=(0,(qK 0 0 t).1,L):=by rw[of,if_pos h]
  refine H _ _ _ ?_
  rw[this];exact⟨rfl,F,G.pure a,a.pure,fun _ h=>.inl h⟩
 .have h:(qK 0 0 t).1=0:=by simpa using h
  have o:=G.pure a
  have V:∀b,F b->¬T b:=g.disj0 fun b c=>G.lt c
  have⟨s1,s2,s3,hS,hF0⟩:=id o
  have E:s1.len=L.length:=by rw[hS.r1.len];simp
  refine⟨p,rfl,s1,hS.box.cell0,?_⟩
  refine(jQJ p t s U L F (jPB t _ _ h) (R.pure a) o q A fun b c=>Oi (m b c) a.size).mono ?_
  rintro _ W ⟨r1,r2,rfl,hr,z,l,Y,n⟩
  have O:r1=(grow L t).1:=congrArg Prod.fst hr
  have w:r2=(grow L t).2.1:=congrArg Prod.snd hr
  have Z:w0.heap.size<=U.heap.size:=a.size
  have j:Ext F w0 W:=a.pure.trans Y
  have e:∀b,z b->F b\/w0.heap.size<=b:=fun b c=>(n b c).elim .inl fun h=>.inr Om
  have I:=g.again D.keptP
  have J:∀b,z b->¬T b:=fun b c i=>(n b c).elim (fun h=>V b h i) fun h=>Oh<|I.lt b i
  refine⟨_,_,rfl,Y.kept fun b i B=>V b B i,fun d=>?_,fun d=>?_⟩
  .have d:(grow L t).2.1≠0:=by rw[<-w];simpa using d
   have⟨X,M,Q⟩:=tF t L q
   rw[E]
   refine(jKJ p L.length W l (by rw[Q];simp)).mono ?_
   rintro _ w6 ⟨rfl,r,P⟩
   have:of L t=(0,(grow L t).2.1,L):=by rw[of,if_neg<|by simp[h],if_pos d]
   refine⟨rfl,P.kept fun b i B=>J b B i,H _ _ _ ?_⟩
   rw[this]
   rw[Q,take_left]at r
   exact⟨by rw[O,w,jND t L d],z,r,j.trans' P Gd,e⟩
  .have d:(grow L t).2.1=0:=by rw[<-w];simpa using d
   have:of L t=((grow L t).1,0,(grow L t).2.2):=by rw[of,if_neg<|by simp[h],if_neg<|by simp[d]]
   refine H _ _ _ ?_
   rw[this]
   exact⟨by rw[O,w,d],z,l,j,e⟩
end Go.Proofs
end
section
namespace Go.Proofs
def jCD{L n i}(h:find L n=some i):∃hi:i<L.length,L[i].node=n:=by
 unfold find at h;rw[List.findIdx?_eq_some_iff_getElem]at h;have⟨hi,h1,_⟩:=h;exact⟨hi,by simpa using h1⟩
def xD{L n}(h:(make L n).2.1=0):inP (make L n).2.2 (make L n).1=true/\nodeOf (make L n).2.2 (make L n).1=n/\(check L n).2.2=0:=by
 unfold make at h|-;simp only at h|-;by_cases a:(check L n).2.2≠0;grind;rw[if_neg a]at h|-;have a:(check L n).2.2=0:=by simpa using a
 cases b:find L n with
 |some i =>
  have⟨hi,d⟩:=jCD b
  simp only
  exact⟨zI.2 ⟨Om,Om⟩,by rw[qJ hi,d],a⟩
 |none =>
  rw[b]at h
  simp only at h|-
  split at h
  simp at h
  rename_i c
  rw[if_neg c]
  simp only
  have hi:L.length<(L++[(⟨n,(check L n).1,(check L n).2.1⟩:Ent)]).length:=Sm
  refine⟨zI.2 ⟨Om,Sm⟩,?_,a⟩
  rw[qJ hi]
  simp
def yO(L n):∃M,(make L n).2.2=L++M:=jGJ L n
inductive Goodq:Tree->Prop
 |mk (k f t u:Int) (x:ByteArray) (a:List Tree) (own:uA ⟨k,f,t,u,x,0,0⟩ a.length=0) (kids:∀i (hi:i<a.length),Goodq a[i]):Goodq (.mk k f t u x a)
def jWH(t):∀i n:Int,(qK i n t).1=0->Goodq t:=by
 induction t using Tree.ind with
 |h k f t u x a g =>
  have c:∀(a:List Tree),(∀i (hi:i<a.length),∀j n:Int,(qK j n a[i]).1=0->Goodq a[i])->∀i e n:Int,(vF i e n a).1=0->e=0/\∀i (hi:i<a.length),Goodq a[i]:=by
   intro a;induction a with
   |nil=>intro _ i e n h;exact⟨by simpa[vF]using h,fun i hi=>by simp at hi⟩
   |cons t ts b =>
    intro hh i e n h
    unfold vF at h
    split at h
    rename_i l
    have:=b (fun i hi=>hh (i+1)<|by simpa using hi) _ _ _ h
    refine⟨l,fun j d=>?_⟩
    cases j with
    |zero=>exact hh 0 Sm i n this.1
    |succ j=>exact this.2 j (by simpa using d)
    grind
  intro i n h
  unfold qK at h
  split at h
  cases h
  split at h
  cases h
  have:=c a g _ _ _ h
  exact .mk _ _ _ _ _ _ this.1 this.2
def Goodq.inv{k f t u x ks}(h:Goodq (.mk k f t u x ks)):zJ ⟨k,f,t,u,x,0,0⟩=0/\(ks.length:Int)=(shapeOf k).kids/\zM (shapeOf k) ⟨k,f,t,u,x,0,0⟩=0/\∀i (hi:i<ks.length),Goodq ks[i]:=by
 cases h with
 |mk _ _ _ _ _ _ own kids =>
  unfold uA at own
  simp only at own
  by_cases a:zJ ⟨k,f,t,u,x,0,0⟩=0
  grind
  grind
def jZQ(x):∀L,Wf L->Goodq x->(grow L x).2.1=0->inP (grow L x).2.2 (grow L x).1=true/\zA (grow L x).2.2 (grow L x).1=x:=by
 induction x using Tree.ind with
 |h k f t u x D p =>
  intro L z P e
  have⟨_,d,_,r⟩:=P.inv
  have g:∀(n:Node) (j:Pool),Wf j->n.kind=k->n.frm=f->n.to=t->n.num=u->n.text=x->(make j n).2.1=0->(zB n).map (zA j)=D->inP (make j n).2.2 (make j n).1=true/\zA (make j n).2.2 (make j n).1=.mk k f t u x D:=by
   intro n j A I J O K R hm E;have⟨s,m,Q⟩:=xD hm;refine⟨s,?_⟩;rw[zU (uM A n) s,m,I,J,O,K,R,<-E];congr 1;refine List.map_congr_left fun q N=>?_;have⟨M,B⟩:=yO j n;have F:=(jLZ Q).2.2.2.2.1 q N;rw[B];have y:=uM A n;rw[B]at y;exact uG y _ q rfl F
  rw[grow]at e|-
  match D,p,d,r,g,e with
  |[],_,d,_,g,e =>
   rw[zX]at e|-
   have v:(shapeOf k).kids=0:=by simpa using d.symm
   exact g _ L z rfl rfl rfl rfl rfl e (by simp[zB,v])
  |[a],p,d,r,g,e =>
   have v:(shapeOf k).kids=1:=by simpa using d.symm
   rw[zX]at e|-
   by_cases i:(grow L a).2.1≠0
   grind
   rw[if_neg i]at e|-
   have i:(grow L a).2.1=0:=by simpa using i
   have⟨i1,w⟩:=p 0 Sm L z (r 0 Sm) i
   simp only[List.getElem_cons_zero]at i1 w
   rw[zX]at e|-
   exact g _ _ (jNC a L z) rfl rfl rfl rfl rfl e (by simp[zB,v,w])
  |[a,b],p,d,r,g,e =>
   have v:(shapeOf k).kids=2:=by simpa using d.symm
   rw[zX]at e|-
   by_cases i:(grow L a).2.1≠0
   rw[if_pos i]at e;exact absurd e i
   rw[if_neg i]at e|-
   have i:(grow L a).2.1=0:=by simpa using i
   have o:=jNC a L z
   have⟨i1,w⟩:=p 0 Sm L z (r 0 Sm) i
   simp only[List.getElem_cons_zero]at i1 w
   rw[zX]at e|-
   by_cases C:(grow (grow L a).2.2 b).2.1≠0
   grind
   rw[if_neg C]at e|-
   have C:(grow (grow L a).2.2 b).2.1=0:=by simpa using C
   have l:=jNC b _ o
   have⟨i2,H⟩:=p 1 Sm (grow L a).2.2 o (r 1 Sm) C
   simp only[List.getElem_cons_succ,List.getElem_cons_zero]at i2 H
   have⟨M,B⟩:=(tF b (grow L a).2.2 o.ok).2
   have G:zA (grow (grow L a).2.2 b).2.2 (grow L a).1=a:=by
    rw[B]at l|-;exact(uG l _ _ rfl i1).trans w
   rw[zX]at e|-
   exact g _ _ l rfl rfl rfl rfl rfl e (by simp[zB,v,G,H])
  |a :: b :: c :: D,_,d,_,_,_ =>
   have:=qX k
   simp only[List.length_cons]at d
   omega
def jZC{L}(b:Wf L){x}(h:(of L x).2.1=0):inP (of L x).2.2 (of L x).1=true/\zA (of L x).2.2 (of L x).1=x/\Goodq x:=by
 unfold of at h|-;by_cases h1:(qK 0 0 x).1≠0;grind;rw[if_neg h1]at h|-;have a:=jWH x 0 0 (by simpa using h1);by_cases h2:(grow L x).2.1≠0;grind;rw[if_neg h2]at h|-;have:=jZQ x L b a (by simpa using h2);exact⟨this.1,this.2,a⟩
def yF{L}(l:Wf L):∀(n:Nat) (s t:Int),s.toNat+t.toNat=n->inP L s=true->inP L t=true->zA L s=zA L t->s=t:=by
 intro n;induction n using Nat.strongRecOn with
 |_ n D =>
  intro s t I hs ht A
  rw[zU l hs,zU l ht]at A
  injection A with g o q p u k
  obtain⟨i,hi,rfl⟩:=jCA hs
  obtain⟨j,E,rfl⟩:=jCA ht
  have d:=(l.node hs)
  have e:=(l.node ht)
  rw[qJ hi]at g o q p u k d
  rw[qJ E]at g o q p u k e
  generalize v:L[i].node=m at *
  generalize x:L[j].node=r at *
  have c:∀a∈zB m,∀b∈zB r,zA L a=zA L b->a=b:=by
   intro a F b B f;have h1:=d.2.2.2.2.1 a F;have h2:=e.2.2.2.2.1 b B;have p1:=zI.1 h1.1;have J:=zI.1 h2.1;exact D (a.toNat+b.toNat) Om a b rfl h1.1 h2.1 f
  have f:m.a=r.a/\m.b=r.b:=by
   have C:=d.2.1;have H:=d.2.2.1;have y:=e.2.1;have z:=e.2.2.1;unfold zB at k c;rw[<-g]at k c y z;rcases qX m.kind with h|h|h<;>rw[h]at k c C H y z;grind;grind;grind
  have G:L[i].node=L[j].node:=by
   rw[v,x];have⟨_,_,_,_,_,_,_⟩:=m;have⟨_,_,_,_,_,_,_⟩:=r;simp at g o q p u f;simp[g,o,q,p,u,f]
  have:=List.pairwise_iff_getElem.1 l.ok.nodup
  have w:i=j:=Gd
  rw[w]
end Go.Proofs
end
section
namespace Go.Proofs
mutual
def cnt:Tree->Nat
 |.mk _ _ _ _ _ ks=>1+jCI ks
def jCI:List Tree->Nat
 |[]=>0
 |t :: ts=>cnt t+jCI ts
end
mutual
def parts (most:Int):Tree->Int
 |.mk _ _ _ _ _ ks=>jUB most 1 ks
def jUB (most n:Int):List Tree->Int
 |[]=>n
 |t :: ts=>if n<=most then jUB most (n+parts (most-n) t) ts else n
end
mutual
def jGC:Tree->Tree->Bool
 |.mk k f t u x ks,.mk k' f' t' u' x' ks'=>decide (k=k')&&decide (f=f')&&decide (t=t')&&decide (u=u')&&decide (x=x')&&uL ks ks'
def uL:List Tree->List Tree->Bool
 |[],[]=>true
 |t :: ts,t' :: ts'=>jGC t t'&&uL ts ts'
 |_,_=>false
end
def jTQ(a):∀b,jGC a b=true↔a=b:=by
 induction a using Tree.ind with
 |h k f t u x d n =>
  have m:∀(d:List Tree),(∀i (hi:i<d.length),∀b,jGC d[i] b=true↔d[i]=b)->∀c,uL d c=true↔d=c:=by
   intro d;induction d with
   |nil=>intro _ c;cases c<;>simp[uL]
   |cons t ts e =>
    intro hh c
    cases c with
    |nil=>simp[uL]
    |cons j g =>
     have l:=hh 0 Sm j
     simp only[List.getElem_cons_zero]at l
     simp only[uL,Bool.and_eq_true,l,e (fun i hi=>hh (i+1)<|by simpa using hi) g,List.cons.injEq]
  intro b
  have⟨k',o,j,p,q,c⟩:=b
  simp only[jGC,Bool.and_eq_true,decide_eq_true_eq,m d n c,Tree.mk.injEq]
  constructor
  grind
  grind
end Go.Proofs
end
section
open Go Go.SE List
namespace Go.Proofs
open Tryz
attribute [local irreducible] Calls
def TreeAt.hst{S w0 w w' H H' s t}(h:TreeAt S w s t)(hs:Hst w0 H w H' w')(c:∀b,S b->b<w.heap.size/\¬H b):TreeAt S w' s t:=
 h.ext hs.ext fun b a hh=>hs.disj (G:=S) c b a hh
def jOH{xs a:List Tree}{j:Nat}(c:xs.length=a.length)(b:j<xs.length):uL (xs.drop j) (a.drop j)=(jGC xs[j] (a[j]'(by omega))&&uL (xs.drop<|j+1) (a.drop<|j+1)):=by
 rw[drop_eq_getElem_cons b,drop_eq_getElem_cons<|show j<a.length by omega,uL]
def jIZ:∀{xs c:List Tree},uL xs c=true->xs.length=c.length
 |[],[],_=>rfl
 |a :: xs,b :: c,h=>by simp only[uL,Bool.and_eq_true]at h;simp[jIZ h.2]
 |[],b :: c,h=>by simp[uL]at h
 |a :: xs,[],h=>by simp[uL]at h
def jQL{S}(t):∀(A:Tree) (s s':Sl) (d:World),TreeAt S d s t->TreeAt S d s' A->(∀b,S b->b<d.heap.size) ->
  cl 169 #[.agg (uP t s).toArray,.agg (uP A s').toArray] d (XC fun r w'=>r=jGC t A/\Pure d w'):=by
 induction t using Tree.ind with
 |h k f t u x g Z =>
 intro A s s' d I B N
 have⟨k',F,p,G,R,c⟩:=A
 suffices key:∀K:Bool->WP,(∀r w',(r=jGC (.mk k f t u x g) (.mk k' F p G R c)/\Pure d w')->K r w')->m_Z1 k f t u x s k' F p G R s' d K from
  w_Z1 _ _ _ _ _ _ _ _ _ _ _ _ d _ (key _ fun _ _ h=>h)
 intro K D
 have m:s.len=g.length:=by cases I;assumption
 have w:s'.len=c.length:=by cases B;assumption
 have X:g.length<=9223372036854775807:=by cases I;assumption
 rintro y1 rfl
 refine⟨fun h=>?_,fun h=>?_⟩
 .intro H7 w7 v
  refine D _ _ ⟨?_,v.first⟩
  symm
  apply Bool.eq_false_iff.2
  intro hs
  simp only[jGC,Bool.and_eq_true,decide_eq_true_eq]at hs
  obtain⟨⟨⟨⟨⟨rfl,rfl⟩,rfl⟩,rfl⟩,rfl⟩,h6⟩:=hs
  have:=jIZ h6
  simp[m,w,this]at h
 .have J:k=k'/\f=F/\t=p/\u=G/\x=R/\g.length=c.length:=Gd
  obtain⟨rfl,rfl,rfl,rfl,rfl,C⟩:=J
  have T:jGC (.mk k f t u x g) (.mk k f t u x c)=uL g c:=by simp[jGC]
  rw[T]at D
  intro H7 w7 v
  refine⟨fun i H w'=>∃j:Nat,i=j/\j<=g.length/\Pure d w'/\uL g c=uL (g.drop j) (c.drop j),fun i _=>((g.length:Int)-i).toNat,⟨0,rfl,Nat.zero_le _,v.first,rfl⟩,?_⟩
  rintro _ Hl wl hl ⟨j,rfl,hj,P,l⟩
  refine⟨fun L=>?_,fun L=>?_⟩
  .have e:=vR m L
   have o:j<c.length:=Om
   rw[jOH C e]at l
   have g1:∃a r,At s j 6 a/\S a.block/\(∀w',Pure d w'->Row w' a (uP g[j] r))/\TreeAt S d r g[j]:=by
    cases I with
    |mk _ _ _ _ _ _ _ rs len Q row kid=>have⟨a,h1,h2,h3⟩:=row j e;exact⟨a,rs j,h1,h2,fun w' E=>E.row h3 id,kid j e⟩
   have g2:∃a r,At s' j 6 a/\S a.block/\(∀w',Pure d w'->Row w' a (uP c[j] r))/\TreeAt S d r c[j]:=by
    cases B with
    |mk _ _ _ _ _ _ _ rs len Q row kid=>have⟨a,h1,h2,h3⟩:=row j o;exact⟨a,rs j,h1,h2,fun w' E=>E.row h3 id,kid j o⟩
   have⟨a,r,O,_,hr,hk⟩:=g1
   have⟨a',W,z,_,M,V⟩:=g2
   refine⟨fun w'=>Pure d w',P.trans (Ext.drew wl),?_⟩
   rintro _ rfl
   have y:=P.trans (Ext.drew wl)
   refine⟨a,O,_,_,_,_,_,r,fun w' h=>hr w' h,a',z,_,_,_,_,_,W,fun w' h=>M w' h,?_⟩
   refine(Z j e c[j] r W wl.drew (hk.pure y) (V.pure y) fun b Y=>Oi (N b Y) y.size).mono ?_
   rintro _ w13 ⟨q,rfl,rfl,n⟩
   refine⟨_,rfl,y.trans n,n.keptP,fun h=>?_,fun h=>?_⟩
   .have h:jGC g[j] c[j]=false:=by simpa using h
    exact D _ _ ⟨by rw[l,h];rfl,y.trans n⟩
   .have h:jGC g[j] c[j]=true:=by simpa using h
    rw[h,Bool.true_and]at l
    rw[zQ e Om]
    exact⟨⟨j+1,rfl,e,y.trans n,l⟩,uR e⟩
  .have U:=yI m hj L
   subst U
   rw[drop_length,C,drop_length]at l
   exact D _ _ ⟨l.symm,P⟩
def jTM:SlType prog 69 71 6 72:=by
 refine⟨underlying69,⟨t71,_,Kf,(by kernel_rfl:t71.zero=some (.agg #[vi 0,vi 0,vi 0,vu 0,vs ⟨#[]⟩,.slice none 0 0])),Kf,Kf,rfl⟩,Om⟩
def zGQ(p:Tree×Sl):List Value:=uP p.1 p.2
def TreeAt.of_pairs{S w s e}{c:List (Tree×Sl)}{k f t u x}(m:Rws w e 6 s (c.map zGQ))(hS:∀b,s.blk b->S b)(n:∀p∈c,TreeAt S w p.2 p.1)(l:c.length<=9223372036854775807):TreeAt S w s (.mk k f t u x<|c.map Prod.fst):=by
 refine .mk k f t u x _ s (fun i=>(c.getD i (jHD,Sl.nil)).2) (by rw[m.len];simp) (by simpa using l) (fun i h=>?_) fun i h=>?_;have d:i<c.length:=by simpa using h
 have⟨a,h1,h2,h3⟩:=m.at (i:=i) Om (by simpa using d);refine⟨a,h1,hS _ h3,?_⟩;have g:(c.map Prod.fst)[i]=c[i].1:=Sm;have j:(c.getD i (jHD,Sl.nil)).2=c[i].2:=by simp[getD_eq_getElem?_getD,d]
 rw[g,j];simpa[zGQ]using h2;have d:i<c.length:=by simpa using h
 have g:(c.map Prod.fst)[i]=c[i].1:=Sm;have j:(c.getD i (jHD,Sl.nil)).2=c[i].2:=by simp[getD_eq_getElem?_getD,d]
 rw[g,j];exact n _<|getElem_mem d
def jTJ(t s):(uP t s).all vE=true:=by simp[uP,vE,Sl.v]
def jGM(p w){L F}(a:zD w p L F):cl 136 #[vp<|some p] w (XB fun r w'=>r=L.length/\w'=w):=by
 refine w_R3 _ w (fun r w'=>r=L.length/\w'=w) ?_;unfold m_R3;have⟨s,m,h,_⟩:=a;refine Br.f rfl ⟨p,rfl,s,h.box.cell0,?_,rfl⟩;have:=h.rows.len;rw[this];simp
def c_kids(p t w){L F}(X:zD w p L F)(B:Ok L):cl 268 #[vp<|some p,vi t] w (XA fun s w'=>Lst (fun b=>w.heap.size<=b/\b<w'.heap.size) w' 1 s (tmr<|zB<|nodeOf L t)/\Pure w w'):=by
 refine w_E4 _ _ w (fun s w'=>Lst (fun b=>w.heap.size<=b/\b<w'.heap.size) w' 1 s (tmr<|zB<|nodeOf L t)/\Pure w w') ?_;refine(jDK p t w X B).mono ?_;rintro _ w1 ⟨k,f,t',u,x,a,b,r,rfl,⟨S,_⟩,O⟩;refine⟨_,_,_,_,_,_,_,_,rfl,?_⟩;intro p2 R h2;have W:Pure w R:=O.trans<|Ext.new h2;have o2:=New.own O h2;refine bx 7 (Box.of_new h2) rfl rfl fun M b2 E=>?_;have J:Pure w M:=W.own o2 E;refine⟨k,b2.cell0,?_⟩;refine(jQC k M).mono ?_;rintro _ Q ⟨s1,T,U,V,c,ok,rfl,⟨hs,_⟩,D⟩;refine⟨_,_,_,_,_,_,rfl,?_⟩;have g:=b2.pure D;intro p3 I m;have N:Pure Q I:=Ext.new m;have o:=g.pure N;have ne:p2.block≠p3.block:=m.ne g.blk;have q:Pure w I:=(J.trans D).trans N;have o5:=New.own (J.trans D) m;refine bx 5 (Box.of_new m) rfl rfl fun H b3 E=>?_;have d:=o.ext E ne;have h:Pure w H:=q.own o5 E;refine⟨a,d.cell rfl,b,d.cell rfl,?_⟩;intro A K C;have G:Pure H K:=Ext.new C;have b4:=Box.of_new C;have e:shapeOf k=⟨s1,T,U,V,c⟩:=hs.symm;have l:c=0\/c=1\/c=2:=by have:=qX k;rw[e]at this;exact this
 refine⟨c,(b3.pure G).cell rfl,_,jTT A c K l,?_,h.trans G⟩;have v:zB (nodeOf L t)=[a,b].take c.toNat:=by rw[<-S];simp[zB,e]
 rw[v];have z:=C.at_size;have z6:=h.size;have zl:=b4.lt;refine⟨by rcases l with rfl|rfl|rfl<;>rfl,fun i hi=>?_⟩;rw[zY]at hi;have P:i<c.toNat:=by simp at hi;omega
 refine⟨A.add<|i*1,⟨Om,by show(i:Int)<(c.toNat:Int);omega,A,rfl,rfl⟩,by rw[zG];omega,?_⟩;intro j Z;have Y:j<1:=by simp only[tmr,getElem_map,length_cons,length_nil]at Z;omega
 have y:j=0:=Om;subst y;rw[yP];have n:i=0\/i=1:=Om;rcases n with rfl|rfl;rw[b4.cell (i:=0*1+0) rfl];simp[tmr];rw[b4.cell (i:=1*1+0) rfl];simp[tmr]
end Go.Proofs
end
section
namespace Go.Proofs
def toNat_ofNat{n:Nat}(h:n<256):(UInt8.ofNat n).toNat=n:=by simp[UInt8.toNat_ofNat];omega
def pow9{i m}(hi:i<=9)(h:m*128^i<18446744073709551616):i=9->m<2:=by
 rintro rfl;omega
def jYS:∀(m i a:Nat) (c:List UInt8),i<=9->m*128^i<18446744073709551616->(0<i->0<m)->xR i a (vC m++c)=.ok (a+m*128^i,i+(vC m).length):=by
 intro m;induction m using Nat.strongRecOn with
 |ind m d =>
  intro i a c hi hm j
  have g:=pow9 hi hm
  by_cases h:m<128
  rw[oH h,List.singleton_append,xQ,toNat_ofNat Om,if_neg Om,if_pos h,if_neg Om,List.length_singleton]
  rw[jAD Om,List.cons_append,xQ,toNat_ofNat Om,if_neg Om,if_neg Om]
  have e:m/128*128^(i+1)=m/128*128*128^i:=by rw[Nat.pow_succ,Nat.mul_assoc,Nat.mul_comm 128]
  have le:m/128*128*128^i<=m*128^i:=Nat.mul_le_mul_right _ Om
  rw[d (m/128) Om (i+1) _ c Om Om Om,e,List.length_cons]
  have b:(m%128+128)%128=m%128:=Om
  have f:m*128^i=m%128*128^i+m/128*128*128^i:=by rw[<-Nat.add_mul];congr 1;omega
  rw[b,f]
  congr 2
  omega
  omega
def jGX{n}(h:n<18446744073709551616)(c):xR 0 0 (vC n++c)=.ok (n,(vC n).length):=by
 rw[jYS n 0 0 c Om (by simpa using h) Om];simp
def zGR{i y m}(hi:i<=8)(d:y<=127)(a:m*128^(i+1)<18446744073709551616):(y+128*m)*128^i<18446744073709551616:=by
 rw[Nat.pow_succ]at a;obtain⟨q,c⟩:∃q,18446744073709551616=q*(128^i*128):=by
  refine⟨2^(64-7*(i+1)),?_⟩;rw[show 128^i*128=2^(7*(i+1)) by rw[Nat.pow_mul];rfl,<-Nat.pow_add,show 64-7*(i+1)+7*(i+1)=64 by omega]
 have b:0<128^i:=Nat.pow_pos (by omega);generalize 128^i=P at *;rw[c]at a|-;have hm:m<q:=Nat.lt_of_mul_lt_mul_right a;have h1:(y+128*m)*P<128*(m+1)*P:=Nat.mul_lt_mul_of_pos_right (by omega) b;have h2:128*(m+1)*P<=128*q*P:=Nat.mul_le_mul_right _<|Nat.mul_le_mul_left _ hm;have h3:q*(P*128)=128*q*P:=by rw[Nat.mul_comm P,<-Nat.mul_assoc,Nat.mul_comm q]
 omega
def jYT:∀(l:List UInt8) (i b n k:Nat),i<=9->xR i b l=.ok (n,k)->∃m c,l=vC m++c/\n=b+m*128^i/\k=i+(vC m).length/\(0<i->0<m)/\m*128^i<18446744073709551616:=by
 intro l;induction l with
 |nil=>intro i b n k _ h;simp[xR]at h
 |cons x l r =>
  intro i b n k hi h
  have t:=x.toNat_lt
  have d:UInt8.ofNat x.toNat=x:=Sm
  rw[xQ]at h
  split at h
  cases h
  rename_i u
  split at h
  rename_i a
  split at h
  cases h
  rename_i s
  cases h
  refine⟨x.toNat,l,by rw[oH a,d];rfl,rfl,by rw[oH a];rfl,Om,?_⟩
  have:i=0\/i=1\/i=2\/i=3\/i=4\/i=5\/i=6\/i=7\/i=8\/i=9:=Om
  rcases this with rfl|rfl|rfl|rfl|rfl|rfl|rfl|rfl|rfl|rfl<;>omega
  rename_i a
  have j:i<=8:=Om
  obtain⟨m,c,rfl,rfl,rfl,o,q⟩:=r _ _ _ _ Om h
  have o:=o Om
  have f:0<x.toNat%128+128*m:=Om
  have e:x.toNat%128+128*m=x.toNat%128+128*m:=rfl
  refine⟨x.toNat%128+128*m,c,?_,?_,?_,fun _=>f,?_⟩
  rw[jAD (n:=x.toNat%128+128*m) Om,List.cons_append]
  have p:(x.toNat%128+128*m)%128+128=x.toNat:=Om
  have g:(x.toNat%128+128*m)/128=m:=Om
  rw[p,g,d]
  grind
  rw[jAD (n:=x.toNat%128+128*m) Om,List.length_cons]
  have g:(x.toNat%128+128*m)/128=m:=Om
  rw[g];omega
  exact zGR j Om q
def jOP{l n k}(h:xR 0 0 l=.ok (n,k)):∃c,l=vC n++c/\k=(vC n).length/\n<18446744073709551616:=by
 have⟨m,c,h1,h2,h3,_,a⟩:=jYT l 0 0 n k Om h;simp at h2 h3 a;subst h2;exact⟨c,h1,h3,a⟩
end Go.Proofs
end
section
namespace Go.Proofs
def yU(L:Pool):Prop:=∀e∈L,yH e.node.num
def yU.nil:yU []:=fun _ h=>(by cases h)
def yU.make{L}(h:yU L){n}(b:yH n.num):yU (make L n).2.2:=by
 rcases jFH L n with e|⟨_,e⟩;rw[e];exact h;rw[e];intro x a;rcases List.mem_append.1 a with a|a;exact h x a;grind
def yU.grow(t):∀L,yU L->NumT t->yU (grow L t).2.2:=by
 induction t using Tree.ind with
 |h k f t u x a g =>
  have:∀(a:List Tree),(∀i (hi:i<a.length),∀L,yU L->NumT a[i]->yU (Proofs.grow L a[i]).2.2)->(∀i (hi:i<a.length),NumT a[i])->∀(n:Node) i L,yH n.num->yU L->yU (zX n i L a).2.2:=by
   intro a;induction a with
   |nil=>intro _ _ n i L b h;unfold zX;exact h.make b
   |cons t ts c =>
    intro hh e n i L b h
    have d:=hh 0 Sm L h<|e 0 Sm
    simp only[List.getElem_cons_zero]at d
    unfold zX
    split
    exact d
    exact c (fun i hi=>hh (i+1)<|by simpa using hi) (fun i hi=>e (i+1)<|by simpa using hi) _ _ _ (by split<;>exact b) d
  intro L h j
  cases j with
  |mk _ _ _ _ _ _ own kids =>
   unfold Proofs.grow
   exact this a g kids _ _ L own h
def yU.of{L}(h:yU L){t}(a:NumT t):yU (of L t).2.2:=by
 unfold Proofs.of;split;exact h;split;exact h;exact yU.grow t L h a
def yU.node{L}(h:yU L)(t):yH (nodeOf L t).num:=by
 cases ht:inP L t with
 |true=>have⟨e,a,hm,_⟩:=jFL ht;simp only[nodeOf,a,Option.map_some,Option.getD_some];exact h e hm
 |false=>simp only[nodeOf,yC ht,Option.map_none,Option.getD_none];exact⟨De,De⟩
def jBF{L}(e:Wf L){t}(ht:inP L t=true):1<=(nodeOf L t).kind/\(nodeOf L t).kind<=9/\0<=(nodeOf L t).frm/\(nodeOf L t).frm<16/\0<=(nodeOf L t).to/\(nodeOf L t).to<16/\(nodeOf L t).text.size<=64:=by
 have⟨h1,_,_,d,_⟩:=e.node ht;generalize nodeOf L t=n at *;have b:isKind n.kind=true/\((shapeOf n.kind).frm=false->n.frm=0)/\((shapeOf n.kind).to=false->n.to=0):=by
  unfold zJ at h1;simp only at h1;split at h1;cases h1;grind
 have a:=b.1;simp only[isKind,Bool.and_eq_true,decide_eq_true_eq]at a;have c:((shapeOf n.kind).frm=true->uY n.frm=true)/\((shapeOf n.kind).to=true->uY n.to=true)/\n.text.size<=64:=by
  unfold zM at d;split at d;cases d;grind
 refine⟨a.1,a.2,?_⟩;have n1:0<=n.frm/\n.frm<16:=by
  cases hs:(shapeOf n.kind).frm with
  |true=>have:=c.1 hs;simpa[uY]using this
  |false=>rw[b.2.1 hs];decide
 have n2:0<=n.to/\n.to<16:=by
  cases hs:(shapeOf n.kind).to with
  |true=>have:=c.2.1 hs;simpa[uY]using this
  |false=>rw[b.2.2 hs];decide
 exact⟨n1.1,n1.2,n2.1,n2.2,c.2.2⟩
end Go.Proofs
namespace Go.Proofs
def jNF(k):(qL k).length<=3:=by
 unfold qL;repeat' split
 all_goals decide
def jZR(n:Node)(b a:Nat)(f:Fld)(h1:n.frm<16)(h2:n.to<16)(h3:yH n.num)(e:n.text.size<=64)(d:b<65537)(c:a<65537):(f.bytes n b a).length<=74:=by
 have h3:=h3.2;cases f<;>simp only[Fld.bytes,vP,List.length_append];have:=vO (n:=n.frm.toNat) Om;omega;have:=vO (n:=n.to.toNat) Om;omega;have:=vO (n:=n.num.toNat) Om;omega;have:=vO (n:=n.text.size) Om;have:n.text.data.toList.length=n.text.size:=Array.length_toList;omega;have:=vO (n:=b) Om;omega;have:=vO (n:=a) Om;omega
def jPN{α β:Type}(f:α->List β)(c):∀l:List α,(∀x∈l,(f x).length<=c)->(l.flatMap f).length<=c*l.length:=by
 intro l;induction l with
 |nil=>intro _;simp
 |cons a l b =>
  intro h
  have h1:=h a Sm
  have h2:=b Gd
  rw[List.flatMap_cons,List.length_append,List.length_cons,Nat.mul_succ];omega
def oZ(l t):posOf l t<=l.length:=List.idxOf_le_length
def jOX{L}(d:Wf L)(e:yU L){seen t}(ht:inP L t=true)(hs:seen.length<=65536):(yB L seen t).length<=300:=by
 have⟨_,_,_,h1,_,h2,c⟩:=jBF d ht;have:=jPN (Fld.bytes (nodeOf L t) (posOf seen (nodeOf L t).a)<|posOf seen (nodeOf L t).b) 74 (qL (nodeOf L t).kind) fun f _=>jZR _ _ _ f h1 h2 (e.node t) c (Oh<|oZ seen (nodeOf L t).a)<|Oh<|oZ seen (nodeOf L t).b;have h3:=jNF (nodeOf L t).kind;have:74*(qL (nodeOf L t).kind).length<=74*3:=Nat.mul_le_mul_left _ h3;unfold yB;rw[List.length_cons];omega
def jBU{L}(c:Wf L)(d:yU L):∀(l seen:List Int),(∀t∈l,inP L t=true)->seen.length+l.length<=65536->(textFrom L seen l).length<=300*l.length:=by
 intro l;induction l with
 |nil=>intro seen _ _;simp[textFrom]
 |cons t l b =>
  intro seen h a
  rw[List.length_cons]at a
  have h1:=jOX c d (seen:=seen) (h t Sm) Om
  have h2:=b (seen++[t]) Gd Gd
  rw[textFrom,List.length_append,List.length_cons,Nat.mul_succ];omega
end Go.Proofs
end
section
namespace Go.Proofs
def zDB{L}(c:Wf L){t}(ht:inP L t=true):
  (Fld.from_∈qL (nodeOf L t).kind\/(nodeOf L t).frm=0)/\(Fld.to_∈qL (nodeOf L t).kind\/(nodeOf L t).to=0)/\(Fld.num∈qL (nodeOf L t).kind\/(nodeOf L t).num=0) /\
  (Fld.text∈qL (nodeOf L t).kind\/(nodeOf L t).text=⟨#[]⟩)/\(Fld.fst∈qL (nodeOf L t).kind\/(nodeOf L t).a=0)/\(Fld.snd∈qL (nodeOf L t).kind\/(nodeOf L t).b=0):=by
 have⟨h1,h2,h3,_⟩:=c.node ht
 have⟨e,d,_⟩:=jBF c ht
 generalize nodeOf L t=n at *
 have⟨k,f,t,u,x,a,b⟩:=n
 simp only at *
 unfold zJ at h1
 have:k=1\/k=2\/k=3\/k=4\/k=5\/k=6\/k=7\/k=8\/k=9:=Om
 rcases this with rfl|rfl|rfl|rfl|rfl|rfl|rfl|rfl|rfl<;>simp[qL,shapeOf,isKind]at*<;>simp_all
def jSS{n}(h:Fld.fst∈qL n.kind):n.a∈zB n:=by
 unfold qL at h;unfold zB shapeOf
 repeat' split at h
 all_goals first|(exfalso;revert h;decide)|skip
 all_goals (rename_i h1;rw[h1];simp)
def jRU{n}(h:Fld.snd∈qL n.kind):n.b∈zB n:=by
 unfold qL at h;unfold zB shapeOf
 repeat' split at h
 all_goals first|(exfalso;revert h;decide)|skip
 all_goals (rename_i h1;rw[h1];simp)
def jWD{L}(b:Wf L){s t}(hs:inP L s=true)(ht:inP L t=true)(h:nodeOf L s=nodeOf L t):s=t:=by
 obtain⟨i,hi,rfl⟩:=jCA hs;obtain⟨j,a,rfl⟩:=jCA ht;rw[qJ hi,qJ a]at h;have:=b.ok.nodup;have e:i=j:=by
  refine(List.getElem_inj (h₀:=by simpa using hi) (h₁:=by simpa using a) this).1 ?_;simpa using h
 rw[e]
def zFX(L:Pool):List Int->List Int->Prop
 |_,[]=>True
 |seen,z :: l=>(∀k∈zB (nodeOf L z),k∈seen)/\zFX L (seen++[z]) l
def zGS{L}:∀(l seen:List Int),(∀pre z a,l=pre++z ::a->∀k∈zB (nodeOf L z),k∈seen++pre)->zFX L seen l:=by
 intro l;induction l with
 |nil=>intro _ _;trivial
 |cons z l c =>
  intro seen h
  refine⟨fun k b=>by simpa using h [] z l rfl k b,c _ fun pre y a e k b=>?_⟩
  have:=h (z ::pre) y a (by rw[e];rfl) k b
  simpa using this
def xB{L}(c:Wf L)(t):zFX L [] (subs L t):=zGS _ _ (fun pre z a e k b=>by rw[List.nil_append];exact jMN c t pre z a e k b)
def uU{L}(a:Wf L){t u}(h:u∈subs L t):inP L u=true:=have h:=(jCS a).1 h;(Sub.le a h.1 h.2).1
def jHT{L}(a:Wf L){t}(h:inP L t=true):t∈subs L t:=(jCS a).2 ⟨h,.refl _⟩
def jIA{α β γ δ:Type}{f:α->γ}{g:β->γ}{e:α->δ}{i:β->δ}:∀{d:List α} {c:List β},d.map f=c.map g->(∀a∈d,∀b∈c,f a=g b->e a=i b)->d.map e=c.map i:=by
 intro d;induction d with
 |nil=>intro c h _;cases c with
  |nil=>rfl
  |cons b c=>simp at h
 |cons a d j=>intro c h hh;cases c with
  |nil=>simp at h
  |cons b c =>
   simp only[List.map_cons,List.cons.injEq]at h|-
   exact⟨hh a Sm b Sm h.1,j h.2 Gd⟩
def jAE{L M}(hL:Wf L)(a:Wf M){s t}(hs:inP L s=true)(ht:inP M t=true)(h:zA L s=zA M t):
  (nodeOf L s).kind=(nodeOf M t).kind/\(nodeOf L s).frm=(nodeOf M t).frm/\(nodeOf L s).to=(nodeOf M t).to/\(nodeOf L s).num=(nodeOf M t).num/\(nodeOf L s).text=(nodeOf M t).text/\(zB<|nodeOf L s).map (zA L)=(zB<|nodeOf M t).map (zA M):=by
 rw[zU hL hs,zU a ht]at h
 simpa using h
def jOC{L M}(hL:Wf L)(j:Wf M):∀(n:Nat) (s t:Int),s.toNat=n->inP L s=true->inP M t=true->zA L s=zA M t->sizeOf L s=sizeOf M t/\depthOf L s=depthOf M t:=by
 intro n;induction n using Nat.strongRecOn with
 |_ n p =>
 intro s t r hs ht h;have i:=(jAE hL j hs ht h).2.2.2.2.2;have⟨_,_,_,_,g,q,o⟩:=hL.node hs;have⟨_,_,_,_,d1,d2,d3⟩:=j.node ht;have key:∀a∈zB (nodeOf L s),∀b∈zB (nodeOf M t),zA L a=zA M b->sizeOf L a=sizeOf M b/\depthOf L a=depthOf M b:=fun a c b f e=>by
  have:=zI.1 (g a c).1;exact p a.toNat (Oh<|(g a c).2) a b rfl (g a c).1 (d1 b f).1 e
 refine⟨?_,?_⟩;rw[q,d2,jIA i fun a c b f e=>(key a c b f e).1];have e:=jIA i fun a c b f e=>(key a c b f e).2;rw[o,d3];have m:∀(l:List Int) (P:Pool),l.foldl (fun d k=>max d<|depthOf P k) 0=(l.map<|depthOf P).foldl max 0:=fun l P=>by rw[List.foldl_map]
 rw[m,m,e]
def jZG{L}(hL:Wf L):∀{d c:List Int},(∀k∈d,inP L k=true)->(∀k∈c,inP L k=true)->d.map (zA L)=c.map (zA L)->d=c:=by
 intro d;induction d with
 |nil=>intro c _ _ h;cases c with
  |nil=>rfl
  |cons b c=>simp at h
 |cons a d e=>intro c h1 h2 h;cases c with
  |nil=>simp at h
  |cons b c =>
   simp only[List.map_cons,List.cons.injEq]at h
   rw[yF hL _ a b rfl (h1 a Sm) (h2 b Sm) h.1,e Gd Gd h.2]
structure Ren(L q:Pool)(z:Int)(n:Node):Prop where
 kind:n.kind=(nodeOf L z).kind
 frm:n.frm=(nodeOf L z).frm
 to:n.to=(nodeOf L z).to
 num:n.num=(nodeOf L z).num
 text:n.text=(nodeOf L z).text
 kin:∀k∈zB n,inP q k=true
 kids:(zB n).map (zA q)=(zB<|nodeOf L z).map (zA L)
 a0:(shapeOf n.kind).kids<1->n.a=0
 b0:(shapeOf n.kind).kids<2->n.b=0
def jZL{n m}(c:n.kind=m.kind)(h:zB n=zB m)(a1:(shapeOf n.kind).kids<1->n.a=0)(b1:(shapeOf n.kind).kids<2->n.b=0)(a2:(shapeOf m.kind).kids<1->m.a=0)(b2:(shapeOf m.kind).kids<2->m.b=0):n.a=m.a/\n.b=m.b:=by
 unfold zB at h;rw[<-c]at h a2 b2;rcases qX n.kind with e|e|e;grind;rw[e]at h;simp at h;exact⟨h,by rw[b1 Om,b2 Om]⟩;rw[e]at h;simpa using h
section
variable {L q:Pool} (hL:Wf L) (hq:Wf q) {z:Int} (hz:inP L z=true) {n:Node} (h:Ren L q z n)
include hL hq hz h
def Ren.check:check q n=(sizeOf L z,depthOf L z,0):=by
 have⟨p1,w,p3,p,t,o,u⟩:=hL.node hz;have j:zJ n=0:=by
  have:zJ n=zJ (nodeOf L z):=by unfold zJ;rw[h.kind,h.frm,h.to,h.num,h.text]
  rw[this,p1]
 have m:zM (shapeOf n.kind) n=0:=by
  have:zM (shapeOf n.kind) n=zM (shapeOf (nodeOf L z).kind) (nodeOf L z):=by unfold zM;rw[h.kind,h.frm,h.to,h.text]
  rw[this,p]
 have key:∀a∈zB n,∀b∈zB (nodeOf L z),zA q a=zA L b->sizeOf q a=sizeOf L b/\depthOf q a=depthOf L b:=fun a f b c e=>jOC hq hL _ a b rfl (h.kin a f) (t b c).1 e;have v:=jIA h.kids fun a f b c e=>(key a f b c e).1;have r:=jIA h.kids fun a f b c e=>(key a f b c e).2;have g:∀(l:List Int) (P:Pool),l.foldl (fun d k=>max d<|depthOf P k) 0=(l.map<|depthOf P).foldl max 0:=fun l P=>by rw[List.foldl_map]
 have s1:1+((zB n).map<|sizeOf q).sum=sizeOf L z:=by rw[v,o]
 have s:(zB n).foldl (fun d k=>max d<|depthOf q k) 0+1=depthOf L z:=by rw[g,r,<-g,u]
 have b1:=hL.ok.sizeOf z;have b2:=hL.ok.depthOf z;unfold Proofs.check;simp only;rw[if_neg<|by simpa using j,if_neg,if_neg<|by simpa using m,if_neg,s1,s,if_neg Om];simp only[List.any_eq_true,not_exists,not_and];intro k i;rw[h.kin k i];decide;have a0:=h.a0;have b0:=h.b0;simp only[Bool.or_eq_true,Bool.and_eq_true,decide_eq_true_eq,bne_iff_ne,ne_eq,not_or,not_and,Decidable.not_not];exact⟨a0,b0⟩
omit hq in
def Ren.tree{v M}(d:Wf M)(b:inP M v=true)(c:nodeOf M v=n)(a:∀k∈zB n,zA M k=zA q k):zA M v=zA L z:=by
 rw[zU d b,zU hL hz,c,h.kind,h.frm,h.to,h.num,h.text,<-h.kids];congr 1;exact List.map_congr_left a
def Ren.node{v}(b:inP q v=true)(ht:zA q v=zA L z):nodeOf q v=n:=by
 have⟨i,r,l,j,w,e⟩:=jAE hq hL b hz ht;have⟨_,c,f,_,d,_⟩:=hq.node b;have a:=jZG hq (fun k g=>(d k g).1) h.kin<|e.trans h.kids.symm;have⟨p,u⟩:=jZL (i.trans h.kind.symm) a c f h.a0 h.b0;have x:=h.kind;have s:=h.frm;have y:=h.to;have t:=h.num;have A:=h.text;generalize nodeOf q v=m at *;generalize nodeOf L z=o at *;cases m;cases n;simp_all
def Ren.find_none(b:∀v,inP q v=true->zA q v≠zA L z):find q n=none:=by
 cases c:find q n with
 |none=>rfl
 |some i =>
  exfalso
  have⟨hi,e⟩:=jCD c
  have a:inP q ((i:Int)+1)=true:=zI.2 ⟨Om,Om⟩
  exact b _ a<|h.tree hL hz hq a (by rw[qJ hi,e]) fun _ _=>rfl
def Ren.find_old{v}(c:inP q v=true)(ht:zA q v=zA L z):find q n=some (v-1).toNat:=by
 have d:=h.node hL hq hz c ht;cases a:find q n with
 |none =>
  exfalso
  unfold find at a
  rw[List.findIdx?_eq_none_iff]at a
  obtain⟨i,hi,rfl⟩:=jCA c
  rw[qJ hi]at d
  have:=a q[i]<|List.getElem_mem hi
  simp at this;exact this d
 |some i =>
  have⟨hi,e⟩:=jCD a
  have b:inP q ((i:Int)+1)=true:=zI.2 ⟨Om,Om⟩
  have:=Go.Proofs.jWD hq b c (by rw[qJ hi,e,d])
  rw[<-this];simp
def Ren.make_old{v}(a:inP q v=true)(ht:zA q v=zA L z):make q n=(v,0,q):=by
 have c:=h.check hL hq hz;have b:=h.find_old hL hq hz a ht;have h1:=(zI.1 a).1;unfold make;simp only[c,b];rw[if_neg Sm];simp only[Prod.mk.injEq,and_true];omega
def Ren.make_new(a:∀v,inP q v=true->zA q v≠zA L z)(d:q.length<65536):make q n=((q.length:Int)+1,0,q++[⟨n,sizeOf L z,depthOf L z⟩]):=by
 have c:=h.check hL hq hz;have b:=h.find_none hL hq hz a;unfold make;simp only[c,b];rw[if_neg Sm,if_neg Om]
def Ren.make_full(d:¬q.length<65536)(a:∀v,inP q v=true->zA q v≠zA L z):make q n=(0,6,q):=by
 have c:=h.check hL hq hz;have b:=h.find_none hL hq hz a;unfold make;simp only[c,b];rw[if_neg Sm,if_pos Om]
def Ren.made(i:(make q n).2.1=0):Wf (make q n).2.2/\inP (make q n).2.2 (make q n).1=true/\zA (make q n).2.2 (make q n).1=zA L z/\∀v,inP q v=true->inP (make q n).2.2 v=true/\zA (make q n).2.2 v=zA q v:=by
 have b:=uM hq n;have⟨M,e⟩:=yO q n;have⟨c,g,_⟩:=xD i;have a:∀v,inP q v=true->inP (make q n).2.2 v=true/\zA (make q n).2.2 v=zA q v:=fun v d=>by
  rw[e]at b|-;exact⟨uD d,uG b _ v rfl d⟩
 exact⟨b,c,h.tree hL hz b c g fun k f=>(a k<|h.kin k f).2,a⟩
def Ren.err:(make q n).2.1=0\/(make q n).2.1=6/\65536<=q.length/\∀v,inP q v=true->zA q v≠zA L z:=by
 by_cases a:∃v,inP q v=true/\zA q v=zA L z;have⟨v,b,ht⟩:=a;rw[h.make_old hL hq hz b ht];exact .inl rfl;have a:∀v,inP q v=true->zA q v≠zA L z:=fun v b e=>a ⟨v,b,e⟩;by_cases c:q.length<65536;rw[h.make_new hL hq hz a c];exact .inl rfl;rw[h.make_full hL hq hz c a];exact .inr ⟨rfl,Om,a⟩
end
structure Cp(Lq L:Pool)(own:Int->Int)(seen:List Int):Prop where
 wf:Wf L
 inn:∀s∈seen,inP Lq s=true
 at_:∀s∈seen,inP L (own s)=true/\zA L (own s)=zA Lq s
 out:∀x,x∉seen->own x=0
def jLR(n)(own:Int->Int):zB { n with a:=own n.a,b:=own n.b }=(zB n).map own:=by
 unfold zB;simp only[List.map_take,List.map_cons,List.map_nil]
def Cp.ren{Lq L}{own:Int->Int}{seen}(h:Cp Lq L own seen)(j:Wf Lq){z}(i:inP Lq z=true)(f:∀k∈zB (nodeOf Lq z),k∈seen):
  Ren Lq L z { nodeOf Lq z with a:=own (nodeOf Lq z).a,b:=own (nodeOf Lq z).b }:=by
 have⟨_,m,l,_⟩:=j.node i
 have g:own 0=0:=h.out 0 fun n=>Oh<|(zI.1<|h.inn 0 n).1
 refine⟨rfl,rfl,rfl,rfl,rfl,?_,?_,fun e=>by simp only;rw[m e,g],fun e=>by simp only;rw[l e,g]⟩
 intro k c
 rw[jLR]at c
 obtain⟨x,d,rfl⟩:=List.mem_map.1 c
 exact(h.at_ x<|f x d).1
 rw[jLR,List.map_map]
 exact List.map_congr_left fun x d=>(h.at_ x<|f x d).2
def Cp.step{Lq L}{own:Int->Int}{seen}(h:Cp Lq L own seen)(g:Wf Lq){z}(d:inP Lq z=true)(l:∀k∈zB (nodeOf Lq z),k∈seen){n}(f:Ren Lq L z n)(i:(make L n).2.1=0):
  Cp Lq (make L n).2.2 (fun x=>if x=z then(make L n).1 else own x) (seen++[z]):=by
 have⟨c,j,m,b⟩:=f.made g h.wf d i
 refine⟨c,fun s hs=>?_,fun s hs=>?_,fun x a=>?_⟩
 rcases List.mem_append.1 hs with hs|hs
 exact h.inn s hs
 grind
 by_cases e:s=z
 grind
 simp only[if_neg e]
 have hs:s∈seen:=(List.mem_append.1 hs).resolve_right Gd
 have⟨a1,a2⟩:=h.at_ s hs
 exact⟨(b _ a1).1,(b _ a1).2.trans a2⟩
 simp only[List.mem_append,List.mem_singleton,not_or]at a
 rw[if_neg a.2];exact h.out x a.1
def jFI(L n):(make L n).2.2.length<=L.length+1:=by
 rcases jFH L n with e|⟨_,e⟩<;>rw[e]<;>simp
def qA(Lq z l L)(own:Int->Int){n}(c:{ nodeOf Lq z with a:=own (nodeOf Lq z).a,b:=own (nodeOf Lq z).b }=n){x e L'}(hm:make L n=(x,e,L')):
  zS Lq (z ::l) L own=if e≠0 then(L,e,own)else zS Lq l L' (fun y=>if y=z then x else own y):=by
 subst c
 show(if(make L _).2.1≠0 then _ else _)=_
 rw[hm]
def jFQ{Lq}(i:Wf Lq):∀(l seen:List Int) (L:Pool) (own:Int->Int),Cp Lq L own seen->(∀z∈l,inP Lq z=true)->zFX Lq seen l ->
  ((zS Lq l L own).2.1=0/\Cp Lq (zS Lq l L own).1 (zS Lq l L own).2.2 (seen++l))\/((zS Lq l L own).2.1=6/\¬(L.length+l.length<=65536)):=by
 intro l
 induction l with
 |nil=>intro seen L own h _ _;exact .inl ⟨rfl,by rw[List.append_nil];exact h⟩
 |cons z l s =>
  intro seen L own h r k
  have d:=r z Sm
  have f:=h.ren i d k.1
  generalize c:({ nodeOf Lq z with a:=own (nodeOf Lq z).a,b:=own (nodeOf Lq z).b }:Node)=n at f
  have p:=jFI L n
  have j:=f.err i h.wf d
  have hs:=fun t=>h.step i d k.1 f t
  obtain⟨x,e,q,hm⟩:∃x e q,make L n=(x,e,q):=⟨_,_,_,rfl⟩
  rw[qA Lq z l L own c hm]
  rw[hm]at p j hs
  simp only at p j hs
  rcases j with rfl|⟨rfl,u,_⟩
  rw[if_neg Sm]
  rcases s _ _ _ (hs rfl) Gd k.2 with⟨m,o⟩|⟨m,o⟩
  grind
  refine .inr ⟨m,fun g=>o ?_⟩
  rw[List.length_cons]at g;omega
  grind
def jWX{Lq}(b:Wf Lq):∀(l seen:List Int) (L:Pool) (own:Int->Int),Cp Lq L own seen->(∀z∈l,inP Lq z=true)->zFX Lq seen l->(∀z∈l,∃v,inP L v=true/\zA L v=zA Lq z) ->
  (zS Lq l L own).2.1=0/\(zS Lq l L own).1=L:=by
 intro l
 induction l with
 |nil=>intro seen L own h _ _ _;exact⟨rfl,rfl⟩
 |cons z l j =>
  intro seen L own h f c g
  have a:=f z Sm
  have d:=h.ren b a c.1
  have⟨v,i,e⟩:=g z Sm
  have hm:=d.make_old b h.wf a i e
  have hs:=h.step b a c.1 d (by rw[hm])
  rw[qA Lq z l L own rfl hm]
  rw[hm]at hs
  rw[if_neg Sm]
  exact j _ _ _ hs Gd c.2 Gd
def Cp.start{Lq L}(a:Wf L):Cp Lq L (fun _=>0) []:=⟨a,fun _ h=>(by cases h),fun _ h=>(by cases h),fun _ _=>rfl⟩
def zAD{L Lq}(a:Wf L)(b:Wf Lq)(t):(vD L Lq t).2.1=0\/((vD L Lq t).1=0/\(vD L Lq t).2.2=L):=by
 unfold vD;split;grind;exact .inr ⟨rfl,rfl⟩
def xW{L Lq}(c:Wf L)(a:Wf Lq){t}(ht:inP Lq t=true)(d:(vD L Lq t).2.1=0):
  Wf (vD L Lq t).2.2/\inP (vD L Lq t).2.2 (vD L Lq t).1=true/\zA (vD L Lq t).2.2 (vD L Lq t).1=zA Lq t:=by
 have h:=jFQ a (subs Lq t) [] L (fun _=>0) (Cp.start c) (fun z b=>uU a b)<|xB a t
 unfold vD at *
 rw[if_pos ht]at *
 simp only at *
 split at d
 grind
 rename_i h1
 rw[if_neg h1]
 simp only
 rcases h with⟨_,h⟩|⟨e,_⟩
 rw[List.nil_append]at h
 have:=h.at_ t<|jHT a ht
 exact⟨h.wf,this.1,this.2⟩
 grind
def jTK{L Lq}(f:Wf L)(d:Wf Lq){t z}(h:Sub Lq t z):inP Lq t=true->∀v,inP L v=true->zA L v=zA Lq t->∃v',inP L v'=true/\zA L v'=zA Lq z:=by
 intro ht v j e;induction h with
 |refl=>exact⟨v,j,e⟩
 |@kid u k h1 g l =>
  have⟨v',a,i⟩:=l
  have h1:=(Sub.le d ht h1).1
  have⟨_,_,_,_,_,b⟩:=jAE f d a h1 i
  have hm:zA Lq k∈(zB<|nodeOf L v').map (zA L):=by rw[b];exact List.mem_map_of_mem g
  have⟨x,m,c⟩:=List.mem_map.1 hm
  exact⟨x,((f.node a).2.2.2.2.1 x m).1,c⟩
def zAB{L Lq}(b:Wf L)(a:Wf Lq){t v}(ht:inP Lq t=true)(f:inP L v=true)(e:zA L v=zA Lq t):vD L Lq t=(v,0,L):=by
 have h:=jWX a (subs Lq t) [] L (fun _=>0) (Cp.start b) (fun z c=>uU a c) (xB a t) fun z c=>jTK b a ((jCS a).1 c).2 ht v f e;have j:(vD L Lq t).2.1=0:=by unfold vD;rw[if_pos ht];simp only;rw[if_neg (by rw[h.1];simp)]
 have d:(vD L Lq t).2.2=L:=by unfold vD;rw[if_pos ht];simp only;rw[if_neg (by rw[h.1];simp)];exact h.2
 have⟨_,g,i⟩:=xW b a ht j;rw[d]at g i;have k:=yF b _ _ v rfl g f (i.trans e.symm);refine Prod.ext k<|Prod.ext j d
def zAC{Lq}(a:Wf Lq){t}(ht:inP Lq t=true):(vD [] Lq t).2.1=0:=by
 have c:=uH a t;have:=a.ok.few;rcases jFQ a (subs Lq t) [] [] (fun _=>0) (Cp.start Wf.nil) (fun z b=>uU a b) (xB a t)with⟨h,_⟩|⟨_,h⟩;unfold vD;rw[if_pos ht];simp only;rw[if_neg (by rw[h];simp)];grind
structure OvC(L M:Pool)(s1 a:(Int->Bool)×List Int):Prop where
 list:s1.2.map (zA L)=a.2.map (zA M)
 i1:∀x∈s1.2,inP L x=true
 i2:∀x∈a.2,inP M x=true
 mark:∀x y,inP L x=true->inP M y=true->zA L x=zA M y->s1.1 x=a.1 y
def jYZ{L M}(o:Wf L)(l:Wf M):∀(n:Nat) (m:Nat) (s t:Int) (st1 st2:(Int->Bool)×List Int),s.toNat<n->t.toNat<m->((inP L s=false/\inP M t=false)\/(inP L s=true/\inP M t=true/\zA L s=zA M t))->OvC L M st1 st2->OvC L M (yT L n s st1) (yT M m t st2):=by
 intro n;induction n with
 |zero=>intro m s t st1 st2 h;omega
 |succ n p =>
  intro m s t st1 st2 G hm hst j
  cases m with
  |zero=>omega
  |succ m =>
  rw[yT,yT]
  rcases hst with⟨D,E⟩|⟨hs,ht,e⟩
  grind
  have k:=j.mark s t hs ht e
  rw[hs,ht]
  cases q:st1.1 s with
  |true=>rw[if_neg Sm,if_neg (by rw[<-k,q];simp)];exact j
  |false =>
   rw[if_pos ⟨rfl,rfl⟩,if_pos ⟨rfl,by rw[<-k,q]⟩]
   have⟨z,_,_,_,_,g⟩:=jAE o l hs ht e
   have⟨_,F,v,_,f,_⟩:=o.node hs
   have⟨_,d2,d3,_,c,_⟩:=l.node ht
   have B:OvC L M (updq st1.1 s true,st1.2) (updq st2.1 t true,st2.2):=⟨j.list,j.i1,j.i2,fun x y d r i=>by
    simp only[updq];by_cases ex:x=s;subst ex;have:y=t:=yF l _ y t rfl r ht (i.symm.trans e);rw[if_pos rfl,if_pos this];have:y≠t:=fun w=>ex<|yF o _ x s rfl d hs (by rw[i,w,e]);rw[if_neg ex,if_neg this];exact j.mark x y d r i⟩
   have A:=(zI.1 hs).1
   have C:=(zI.1 ht).1
   have kid : (((inP L (nodeOf L s).a = false /\ inP M (nodeOf M t).a = false) \/ (inP L (nodeOf L s).a = true /\ inP M (nodeOf M t).a = true /\ zA L (nodeOf L s).a = zA M (nodeOf M t).a)) /\
     ((inP L (nodeOf L s).b=false/\inP M (nodeOf M t).b=false)\/(inP L (nodeOf L s).b=true/\inP M (nodeOf M t).b=true/\zA L (nodeOf L s).b=zA M (nodeOf M t).b))) /\
     ((nodeOf L s).a.toNat<n/\(nodeOf L s).b.toNat<n)/\(nodeOf M t).a.toNat<m/\(nodeOf M t).b.toNat<m:=by
    have u:∀P:Pool,inP P 0=false:=fun P=>by simp[inP]
    unfold zB at g f c
    rw[<-z]at g d2 d3 c
    rcases qX (nodeOf L s).kind with h|h|h
    grind
    rw[v Om,d3 Om]
    rw[h]at g f c
    simp at g f c
    have:=zI.1 f.1;have:=zI.1 c.1
    exact⟨⟨.inr ⟨f.1,c.1,g⟩,.inl ⟨u _,u _⟩⟩,⟨Om,Om⟩,Om,Om⟩
    rw[h]at g f c
    simp at g f c
    have:=zI.1 f.1.1;have:=zI.1 c.1.1;have:=zI.1 f.2.1;have:=zI.1 c.2.1
    exact⟨⟨.inr ⟨f.1.1,c.1.1,g.1⟩,.inr ⟨f.2.1,c.2.1,g.2⟩⟩,⟨Om,Om⟩,Om,Om⟩
   have r1:=p m _ _ _ _ kid.2.1.1 kid.2.2.1 kid.1.1 B
   have r2:=p m _ _ _ _ kid.2.1.2 kid.2.2.2 kid.1.2 r1
   refine⟨?_,?_,?_,r2.mark⟩
   simp only[List.map_append,List.map_cons,List.map_nil,r2.list,e]
   intro x d
   rcases List.mem_append.1 d with d|d
   exact r2.i1 x d
   grind
   intro x d
   rcases List.mem_append.1 d with d|d
   exact r2.i2 x d
   grind
def jOD{L M}(a:Wf L)(b:Wf M){s t}(hs:inP L s=true)(ht:inP M t=true)(e:zA L s=zA M t):(subs L s).map (zA L)=(subs M t).map (zA M):=
 (jYZ a b (s.toNat+1) (t.toNat+1) s t (fun _=>false,[]) (fun _=>false,[]) Om Om (.inr ⟨hs,ht,e⟩) ⟨rfl,Sm,Sm,fun _ _ _ _ _=>rfl⟩).list
def jLK{L M}(m:Wf L)(g:Wf M){a b}(j:inP L a=true)(i:inP M b=true)(e:zA L a=zA M b):∀(d c:List Int),(∀x∈d,inP L x=true)->(∀x∈c,inP M x=true)->d.map (zA L)=c.map (zA M)->posOf d a=posOf c b:=by
 intro d;induction d with
 |nil=>intro c _ _ h;cases c with
  |nil=>rfl
  |cons y c=>simp at h
 |cons x d k=>intro c h1 h2 h;cases c with
  |nil=>simp at h
  |cons y c =>
   simp only[List.map_cons,List.cons.injEq]at h
   have hi:=k c Gd Gd h.2
   have f:(x==a)=(y==b):=by
    by_cases ex:x=a;have:y=b:=yF g _ y b rfl (h2 y Sm) i (by rw[<-h.1,ex,e]);simp[ex,this];have:y≠b:=fun l=>ex<|yF m _ x a rfl (h1 x Sm) j (by rw[h.1,l,e]);rw[beq_false_of_ne ex,beq_false_of_ne this]
   unfold posOf at *
   rw[List.idxOf_cons,List.idxOf_cons,f,hi]
def jEV{L M}(p:Wf L)(m:Wf M):∀(k g s1 d:List Int),(∀x∈k,inP L x=true)->(∀x∈g,inP M x=true)->(∀x∈s1,inP L x=true)->(∀x∈d,inP M x=true)->k.map (zA L)=g.map (zA M)->s1.map (zA L)=d.map (zA M)->textFrom L s1 k=textFrom M d g:=by
 intro k;induction k with
 |nil=>intro g s1 d _ _ _ _ h _;cases g with
  |nil=>rfl
  |cons y g=>simp at h
 |cons x k E=>intro g s1 d h1 h2 h3 o h v;cases g with
  |nil=>simp at h
  |cons y g =>
   simp only[List.map_cons,List.cons.injEq]at h
   have B:=h1 x Sm
   have C:=h2 y Sm
   have⟨l,H,F,D,I,i⟩:=jAE p m B C h.1
   have⟨_,_,_,_,A,_⟩:=p.node B
   have⟨_,_,_,_,z,_⟩:=m.node C
   have hi:=E g (s1++[x]) (d++[y]) Gd Gd
    Gd
    Gd h.2 (by simp[v,h.1])
   rw[textFrom,textFrom,hi]
   congr 1
   unfold yB
   rw[l]
   congr 1
   have c:∀f∈qL (nodeOf M y).kind,f.bytes (nodeOf L x) (posOf s1 (nodeOf L x).a) (posOf s1 (nodeOf L x).b)=f.bytes (nodeOf M y) (posOf d (nodeOf M y).a) (posOf d (nodeOf M y).b):=by
    intro f c;have r:Fld.fst∈qL (nodeOf M y).kind->posOf s1 (nodeOf L x).a=posOf d (nodeOf M y).a:=fun c=>by
     have j:=jSS (n:=nodeOf L x) (by rw[l];exact c);have q:=jSS c;refine jLK p m (A _ j).1 (z _ q).1 ?_ s1 d h3 o v;unfold zB at i j;rw[l]at i j;rcases qX (nodeOf M y).kind with e|e|e<;>rw[e]at i j<;>simp at i j
     .exact i
     .exact i.1
    have t:Fld.snd∈qL (nodeOf M y).kind->posOf s1 (nodeOf L x).b=posOf d (nodeOf M y).b:=fun c=>by
     have j:=jRU (n:=nodeOf L x) (by rw[l];exact c);have q:=jRU c;have e:(shapeOf (nodeOf M y).kind).kids=2:=by
      unfold qL at c
      repeat' split at c
      all_goals first|(exfalso;revert c;decide)|skip
      all_goals (rename_i o;rw[o];rfl)
     refine jLK p m (A _ j).1 (z _ q).1 ?_ s1 d h3 o v;unfold zB at i;rw[l,e]at i;simp at i;exact i.2
    cases f
    .simp only[Fld.bytes,H]
    .simp only[Fld.bytes,F]
    .simp only[Fld.bytes,D]
    .simp only[Fld.bytes,I]
    .simp only[Fld.bytes,r c]
    .simp only[Fld.bytes,t c]
   have G:∀(fs:List Fld) (u s:Fld->List UInt8),(∀f∈fs,u f=s f)->fs.flatMap u=fs.flatMap s:=by
    intro fs u s;induction fs with
    |nil=>intro _;rfl
    |cons f fs w=>intro hh;rw[List.flatMap_cons,List.flatMap_cons,hh f Sm,w Gd]
   exact G _ _ _ c
def jDQ{L M}(a:Wf L)(b:Wf M){s t}(hs:inP L s=true)(ht:inP M t=true)(e:zA L s=zA M t):vI L s=vI M t:=
 jEV a b _ _ [] [] (fun _ h=>uU a h) (fun _ h=>uU b h) Sm Sm (jOD a b hs ht e) rfl
def _root_.Go.Proofs.Fld.fill(n:Node)(d c:Nat)(x:Raw):Fld->Raw
 |.from_=>{ x with frm:=n.frm.toNat }
 |.to_=>{ x with to:=n.to.toNat }
 |.num=>{ x with num:=n.num.toNat }
 |.text=>{ x with text:=n.text.data.toList }
 |.fst=>{ x with a:=d,kids:=1 }
 |.snd=>{ x with b:=c,kids:=2 }
def jFC{bs r}(a:r.err=0){m}(hm:m<18446744073709551616){rest}(h:bs.drop r.at_=vC m++rest):vU bs r=(m,⟨r.at_+(vC m).length,0,r.spot⟩):=by
 unfold vU;rw[if_pos a,h,jGX hm]
def jYU{bs r}(d:r.err=0){s}(hs:s.size<=64){rest}(h:bs.drop r.at_=vP s++rest):qF bs 64 r=(s.data.toList,⟨r.at_+(vP s).length,0,r.spot⟩):=by
 have b:s.data.toList.length=s.size:=Array.length_toList;have a:=congrArg List.length h;unfold vP at h a|-;rw[List.append_assoc]at h;rw[List.length_drop,List.length_append,List.length_append,b]at a;unfold qF;rw[if_pos d,h,jGX Om];simp only;have e:0<(vC s.size).length:=by unfold vC;split<;>simp
 rw[if_neg Om,if_neg Om];have c:bs.drop (r.at_+(vC s.size).length)=s.data.toList++rest:=by
  rw[<-List.drop_drop,h,List.drop_left]
 rw[c,<-b,List.take_left,List.length_append];simp only[Prod.mk.injEq,Rd.mk.injEq,and_true,true_and];omega
def jVV{bs n na nb}(h1:n.frm<16)(h2:n.to<16)(h3:yH n.num)(g:n.text.size<=64)(k:na<65537)(j:nb<65537):∀(fs:List Fld) (x:Raw) (r:Rd) (b:List UInt8),r.err=0->bs.drop r.at_=fs.flatMap (Fld.bytes n na nb)++b ->
  vA bs fs (x,r)=(fs.foldl (fun x f=>f.fill n na nb x) x,⟨r.at_+(fs.flatMap<|Fld.bytes n na nb).length,0,r.spot⟩):=by
 intro fs
 induction fs with
 |nil=>intro x r b c _;rw[vA];have⟨a,e,s⟩:=r;simp only at c;subst c;rfl
 |cons f fs i =>
  intro x r b c h
  rw[List.flatMap_cons,List.append_assoc]at h
  have d:=h3.2
  have key:f.raw bs r x=f.fill n na nb x/\f.rd bs r=⟨r.at_+(f.bytes n na nb).length,0,r.spot⟩:=by
   cases f;have:=jFC c (m:=n.frm.toNat) Om h;simp only[Fld.raw,Fld.rd,Fld.fill,Fld.bytes,this,and_self];have:=jFC c (m:=n.to.toNat) Om h;simp only[Fld.raw,Fld.rd,Fld.fill,Fld.bytes,this,and_self];have:=jFC c (m:=n.num.toNat) Om h;simp only[Fld.raw,Fld.rd,Fld.fill,Fld.bytes,this,and_self];have:=jYU c g h;simp only[Fld.raw,Fld.rd,Fld.fill,Fld.bytes,this,and_self];have:=jFC c (m:=na) Om h;simp only[Fld.raw,Fld.rd,Fld.fill,Fld.bytes,this,and_self];have:=jFC c (m:=nb) Om h;simp only[Fld.raw,Fld.rd,Fld.fill,Fld.bytes,this,and_self]
  rw[vA,key.1,key.2,i _ _ b rfl (by simp only;rw[<-List.drop_drop,h,List.drop_left]),List.foldl_cons,List.flatMap_cons,List.length_append,Nat.add_assoc]
def uV(seen:List Int)(x:Int):Int:=if x∈seen then(posOf seen x:Int)+1 else 0
def jVZ{seen z}(h:z∉seen):uV (seen++[z])=fun x=>if x=z then((seen.length:Int)+1)else uV seen x:=by
 funext x;unfold uV;by_cases e:x=z;subst e;simp only[List.mem_append,List.mem_singleton,or_true,if_true];rw[jFD h];rw[if_neg e];by_cases a:x∈seen;rw[if_pos<|List.mem_append_left _ a,if_pos a,jJQ a];grind
def zCP{L}(c:Wf L)(s:yU L){z}(d:inP L z=true){seen}(C:(0:Int) ∉ seen)(m:∀k∈zB (nodeOf L z),k∈seen):
  let x:=(qL (nodeOf L z).kind).foldl (fun x f=>f.fill (nodeOf L z) (posOf seen (nodeOf L z).a) (posOf seen (nodeOf L z).b) x) qZ
  x.node (nodeOf L z).kind.toNat={ nodeOf L z with a:=uV seen (nodeOf L z).a,b:=uV seen (nodeOf L z).b }/\nodeErr (nodeOf L z).kind.toNat seen.length x 0=0:=by
 have⟨P,Q,O,R,N,K,M⟩:=jBF c d
 have⟨d1,d2,d3,J,B,G⟩:=zDB c d
 have⟨_,_,_,o,_⟩:=c.node d
 have v:=s.node z
 have w:=jSS (n:=nodeOf L z)
 have hs:=jRU (n:=nodeOf L z)
 generalize nodeOf L z=n at *
 have⟨k,f,t,u,p,a,b⟩:=n
 simp only at *
 have i:=v.1
 have I:uV seen 0=0:=by unfold uV;rw[if_neg C]
 have H:Fld.fst∈qL k->uV seen a=(posOf seen a:Int)+1/\posOf seen a<seen.length:=fun h=>by
  have:=m _<|w h;unfold uV;rw[if_pos this];exact⟨rfl,jHX this⟩
 have y:Fld.snd∈qL k->uV seen b=(posOf seen b:Int)+1/\posOf seen b<seen.length:=fun h=>by
  have:=m _<|hs h;unfold uV;rw[if_pos this];exact⟨rfl,jHX this⟩
 have E:(f.toNat:Int)=f:=Om
 have A:(t.toNat:Int)=t:=Om
 have F:(u.toNat:Int)=u:=Om
 have r:¬16<=f.toNat:=Om
 have j:¬16<=t.toNat:=Om
 have D:(⟨p.data.toList.toArray⟩:ByteArray)=p:=by cases p;simp
 have q:f.toNat=t.toNat->f=t:=fun h=>Om
 have g:k=8\/k=9->f.toNat≠t.toNat:=fun l e=>by
  have:=q e;subst this;unfold zM at o;rcases l with rfl|rfl<;>simp[shapeOf]at o
 clear o w hs m v i c s
 have:k=1\/k=2\/k=3\/k=4\/k=5\/k=6\/k=7\/k=8\/k=9:=Om
 rcases this with rfl|rfl|rfl|rfl|rfl|rfl|rfl|rfl|rfl <;>
  simp[qL,shapeOf,qZ,Fld.fill,Raw.node,nodeErr,I,E,A,F,r,j,D]at d1 d2 d3 J B G H y g|-<;>simp_all<;>omega
def cp_le{L q seen}(h:Cp L q (uV seen) seen)(f:q.length=seen.length)(d:seen.Nodup){v}(e:inP q v=true):∃s∈seen,uV seen s=v/\zA q v=zA L s:=by
 have⟨h1,h2⟩:=zI.1 e;have hi:(v-1).toNat<seen.length:=Om;have hm:seen[(v-1).toNat]∈seen:=List.getElem_mem hi;have c:posOf seen seen[(v-1).toNat]=(v-1).toNat:=by
  have a:=jHX hm;refine(List.getElem_inj (h₀:=a) (h₁:=hi) d).1 ?_;exact List.getElem_idxOf a
 have b:uV seen seen[(v-1).toNat]=v:=by unfold uV;rw[if_pos hm,c];omega
 refine⟨_,hm,b,?_⟩;have:=(h.at_ _ hm).2;rw[b]at this;exact this
def jHC(L seen z):0<(yB L seen z).length:=by unfold yB;simp
def zCM{L}(w:Wf L)(Y:yU L){bs}:∀(l seen:List Int) (q:Pool) (r:Rd) (C:List Nat) (c:Nat),Cp L q (uV seen) seen->q.length=seen.length->C.length=seen.length->zFX L seen l->(seen++l).Nodup->(∀z∈l,inP L z=true) ->
  r.err=0->r.at_<=bs.length->bs.drop r.at_=textFrom L seen l->bs.length-r.at_<=c->seen.length+l.length<=65535 ->
  ∃E i,jLJ bs c q r C=jDX E i/\Cp L E (uV<|seen++l) (seen++l)/\E.length=(seen++l).length/\i.length=(seen++l).length:=by
 intro l
 induction l with
 |nil =>
  intro seen q r C c j B M _ _ _ _ T H _ _
  refine⟨q,C,jHV ?_ c,by rw[List.append_nil];exact j,by rw[List.append_nil];exact B,by rw[List.append_nil];exact M⟩
  have:=congrArg List.length H
  simp[textFrom]at this;omega
 |cons z l ih =>
  intro seen q r C c j B M J u hl he T H hfu N
  have p:=hl z Sm
  have I:z∉seen:=fun h=>(List.nodup_append.1 u).2.2 z h z Sm rfl
  have W:seen.Nodup:=(List.nodup_append.1 u).1
  have h0:(0:Int)∉seen:=fun h=>Oh<|(zI.1<|j.inn 0 h).1
  rw[textFrom]at H
  have X:=jHC L seen z
  have O:=congrArg List.length H
  rw[List.length_drop,List.length_append]at O
  have A:r.at_<bs.length:=Om
  obtain⟨c,rfl⟩:∃k,c=k+1:=⟨c-1,Om⟩
  rw[List.length_cons]at N
  have⟨k1,k9,f0,f1,t0,t1,x1⟩:=jBF w p
  have D:=Y.node z
  have t:bs.drop r.at_=bs[r.at_] ::bs.drop (r.at_+1):=List.drop_eq_getElem_cons A
  have f:=H
  rw[t]at f
  unfold yB at f
  rw[List.cons_append,List.cons.injEq]at f
  have⟨hb,d⟩:=f
  have V:bs[r.at_].toNat=(nodeOf L z).kind.toNat:=by rw[hb,toNat_ofNat Om]
  have K:(((nodeOf L z).kind.toNat:Nat):Int)=(nodeOf L z).kind:=Om
  have R:=jVV f1 t1 D x1 (Oh<|oZ seen (nodeOf L z).a) (Oh<|oZ seen (nodeOf L z).b) (qL (nodeOf L z).kind) qZ ⟨r.at_+1,0,r.spot⟩ (textFrom L (seen++[z]) l) rfl d
  have⟨n,F⟩:=zCP w Y p h0 J.1
  have g:=j.ren w p J.1
  have o:∀v,inP q v=true->zA q v≠zA L z:=fun v hv e=>by
   have⟨s,hs,_,e2⟩:=cp_le j B W hv;have:=yF w _ s z rfl (j.inn s hs) p (e2.symm.trans e);exact I<|this▸hs
  have m:=g.make_new w j.wf p o Om
  have Q:=g.find_none w j.wf p o
  have hst:=j.step w p J.1 g (by rw[m])
  have y:vN bs q r=((make q { nodeOf L z with a:=uV seen (nodeOf L z).a,b:=uV seen (nodeOf L z).b }).2.2,0,⟨r.at_+1+((qL (nodeOf L z).kind).flatMap<|Fld.bytes (nodeOf L z) (posOf seen (nodeOf L z).a)<|posOf seen (nodeOf L z).b).length,0,r.spot⟩):=by
   rw[jAI bs q r A he,V,K,R,if_pos (by unfold uC;simp;omega)];unfold jDW;simp only at n F|-;rw[n,B,F,Q,if_neg Sm,if_neg Sm,m]
  have S:(make q { nodeOf L z with a:=uV seen (nodeOf L z).a,b:=uV seen (nodeOf L z).b }).2.2.length=(seen++[z]).length:=by rw[m];simp[B]
  have G:(fun x=>if x=z then(make q { nodeOf L z with a:=uV seen (nodeOf L z).a,b:=uV seen (nodeOf L z).b }).1 else uV seen x)=uV (seen++[z]):=by rw[jVZ I,m,B]
  rw[G]at hst
  have P:bs.drop (r.at_+1+((qL (nodeOf L z).kind).flatMap<|Fld.bytes (nodeOf L z) (posOf seen (nodeOf L z).a)<|posOf seen (nodeOf L z).b).length)=textFrom L (seen++[z]) l:=by
   rw[<-List.drop_drop,d,List.drop_left]
  have U:r.at_+1+((qL (nodeOf L z).kind).flatMap<|Fld.bytes (nodeOf L z) (posOf seen (nodeOf L z).a)<|posOf seen (nodeOf L z).b).length<=bs.length:=by
   have:=congrArg List.length d;rw[List.length_drop,List.length_append]at this;omega
  rw[jLJ,if_pos A,y]
  simp only
  rw[if_neg Sm]
  have⟨E,i,g1,Z,g3,g4⟩:=ih (seen++[z]) _ ⟨_,0,r.spot⟩ (C++[r.at_]) c hst S (by simp[M]) J.2 (by simpa using u) Gd rfl U P Sy Gd
  rw[List.append_assoc,List.singleton_append]at Z g3 g4
  exact⟨E,i,g1,Z,g3,g4⟩
def jZP:∀(l:List Int) (i:Nat),(∀j (h:j<l.length),l[j]=((i+j:Nat):Int)+1)->inRow i l=i+l.length:=by
 intro l;induction l with
 |nil=>intro i _;rfl
 |cons s l b =>
  intro i h
  have a:=h 0 Sm
  simp only[List.getElem_cons_zero,Nat.add_zero]at a
  rw[inRow,if_pos a,b (i+1) fun j c=>by have:=h (j+1) (by simpa using c);simp only[List.getElem_cons_succ]at this;rw[this];congr 2;omega,List.length_cons]
  omega
def jVK{L t}(h:inP L t=true):∃pre,subs L t=pre++[t]:=by
 unfold subs;rw[yT,if_pos ⟨h,rfl⟩];exact⟨_,rfl⟩
def jGH{L}(f:Wf L)(D:yU L){t}(ht:inP L t=true)(G:(vI L t).length<=4096):
  ∃q:Pool,zW (vI L t)=(some q,0,0)/\Wf q/\inP q q.length=true/\zA q q.length=zA L t:=by
 have a:=jHT f ht
 have c:=jAG f t
 have s:(subs L t).length<=(vI L t).length:=by
  have:∀(l seen:List Int),l.length<=(textFrom L seen l).length:=by
   intro l;induction l with
   |nil=>intro _;simp
   |cons z l B=>intro seen;have:=jHC L seen z;have:=B<|seen++[z];rw[textFrom,List.length_append,List.length_cons];omega
  exact this _ _
 have C:0<(subs L t).length:=List.length_pos_of_mem a
 have⟨q, E, F, d, w, u⟩:=zCM f D (bs:=vI L t) (subs L t) [] [] ⟨0, 0, 0⟩ [] (vI L t).length (by
   have:=Cp.start (Lq:=L) Wf.nil;have e:uV []=fun _=>0:=by funext x;simp[uV]
   rw[e];exact this) rfl rfl (xB f t) (by simpa using c) (fun z A=>uU f A) rfl (Nat.zero_le _) rfl (Nat.le_refl _) So
 rw[List.nil_append]at d w u
 have i:uV (subs L t) t=q.length:=by
  have⟨pre,n⟩:=jVK ht;have r:t∉pre:=by rw[n]at c;exact fun h=>(List.nodup_append.1 c).2.2 t h t Sm rfl
  unfold uV;rw[if_pos a,w,n,jFD r];simp
 have⟨a1,a2⟩:=d.at_ t a
 rw[i]at a1 a2
 have b:subs q q.length=(subs L t).map (uV<|subs L t):=by
  refine jZG d.wf (fun k p=>uU d.wf p) (fun k p=>?_) ?_;obtain⟨x,o,rfl⟩:=List.mem_map.1 p;exact(d.at_ x o).1;rw[jOD d.wf f a1 ht a2,List.map_map];exact List.map_congr_left fun x o=>((d.at_ x o).2).symm
 have y:inRow 0 (subs q q.length)=E.length:=by
  rw[jZP,b,List.length_map,Nat.zero_add,u];intro j v;have g:j<(subs L t).length:=by rw[b,List.length_map]at v;exact v
  simp only[b,List.getElem_map,Nat.zero_add];have hm:(subs L t)[j]∈subs L t:=List.getElem_mem g;have n:posOf (subs L t) (subs L t)[j]=j:=by
   have m:=jHX hm;exact(List.getElem_inj (h₀:=m) (h₁:=g) c).1<|List.getElem_idxOf m
  unfold uV;rw[if_pos hm,n]
 refine⟨q,?_,d.wf,a1,a2⟩
 unfold zW
 rw[if_neg Om,if_neg Om,F]
 unfold jDX
 simp only
 rw[dif_neg Om]
def jZZ{L}(a:Wf L)(e:yU L){t}(ht:inP L t=true)(d:(vI L t).length<=4096):
  qY L (vI L t)=(t,0,0,L)/\(qY []<|vI L t).2.1=0/\zA (qY []<|vI L t).2.2.2 (qY []<|vI L t).1=zA L t:=by
 have⟨q,h1,h2,h3,b⟩:=jGH a e ht d
 refine⟨?_,?_⟩
 unfold qY;rw[h1];simp only
 rw[zAB a h2 h3 ht b.symm]
 unfold qY;rw[h1];simp only
 have c:=zAC h2 h3
 exact⟨c,by rw[(xW Wf.nil h2 h3 c).2.2,b]⟩
def jHJ:Nat->List Int
 |0=>[]
 |n+1=>jHJ n++[(n:Int)+1]
def jHZ(n):(jHJ n).length=n:=by induction n with
 |zero=>rfl
 |succ n a=>simp[jHJ,a]
def jHY{n x}:x∈jHJ n↔1<=x/\x<=n:=by
 induction n with
 |zero=>simp[jHJ];omega
 |succ n a=>simp only[jHJ,List.mem_append,a,List.mem_singleton];omega
def jUC{n:Nat}:∀{x:Int},1<=x->x<=n->posOf (jHJ n) x=(x-1).toNat:=by
 induction n with
 |zero=>intro x h1 h2;omega
 |succ n a =>
  intro x h1 h2
  rw[jHJ]
  by_cases h:x<=n
  rw[jJQ<|jHY.2 ⟨h1,h⟩,a h1 h]
  have:x=(n:Int)+1:=Om
  subst this
  rw[jFD (by rw[jHY];omega),jHZ];omega
def zCX{n j}(h:j<(jHJ n).length):(jHJ n)[j]=(j:Int)+1:=by
 induction n with
 |zero=>simp[jHJ]at h
 |succ n a =>
  simp only[jHJ]
  rw[List.getElem_append]
  split
  exact a _
  rename_i h1
  have:j=n:=by rw[jHZ]at h h1;omega
  subst this;simp
def _root_.Go.Proofs.Fld.said(x:Raw):Fld->List UInt8
 |.from_=>vC x.frm|.to_=>vC x.to|.num=>vC x.num|.text=>vP ⟨x.text.toArray⟩|.fst=>vC x.a|.snd=>vC x.b
def jJL:∀{l:List UInt8} {i n x:Nat},xR i n l=.error x->x≠0:=by
 intro l;induction l with
 |nil=>intro i n x h;simp[xR]at h;omega
 |cons c l a =>
  intro i n x h
  rw[xQ]at h
  split at h
  cases h;decide
  grind
def uJ{bs r}(h:(vU bs r).2.err=0):r.err=0/\bs.drop r.at_=vC (vU bs r).1++bs.drop (vU bs r).2.at_/\(vU bs r).1<18446744073709551616:=by
 unfold vU at h|-;by_cases a:r.err=0;rw[if_pos a]at h|-;cases hr:xR 0 0 (bs.drop r.at_)with
 |error x =>
  rw[hr]at h
  simp only at h
  exact absurd h<|jJL hr
 |ok p =>
  have⟨n,k⟩:=p
  have⟨c,h1,h2,h3⟩:=jOP hr
  refine⟨a,?_,h3⟩
  simp only
  rw[<-List.drop_drop,h1,h2,List.drop_left]
 grind
def jYV{bs r}(h:(qF bs 64 r).2.err=0):r.err=0/\bs.drop r.at_=vP ⟨(qF bs 64 r).1.toArray⟩++bs.drop (qF bs 64 r).2.at_:=by
 have a:=@uJ bs r;unfold vU at a;unfold qF at h|-;by_cases i:r.err=0;rw[if_pos i]at h a|-;cases hr:xR 0 0 (bs.drop r.at_)with
 |error x =>
  rw[hr]at h a
  simp only at h a
  exact absurd (a h).2.1 (by
   have:=(a h).2.1;intro _;have g:=congrArg List.length this;rw[List.length_append,oH Om]at g;simp at g)
 |ok p =>
  have⟨n,k⟩:=p
  rw[hr]at h a
  simp only at h a|-
  have⟨c,h1,h2,h3⟩:=jOP hr
  split at h
  simp at h
  rename_i d
  rw[if_neg d]
  split at h
  simp at h
  rename_i b
  rw[if_neg b]
  refine⟨i,?_⟩
  simp only
  have f:bs.drop (r.at_+k)=c:=by rw[<-List.drop_drop,h1,h2,List.drop_left]
  have j:n<=c.length:=by rw[<-f,List.length_drop];omega
  have hs:(ByteArray.mk (c.take n).toArray).size=n:=by show(c.take n).toArray.size=n;simp;omega
  have e:bs.drop (r.at_+k+n)=c.drop n:=by rw[<-List.drop_drop,f]
  rw[f,e]
  unfold vP
  rw[hs,h1,List.append_assoc]
  congr 1
  simp
 grind
def zHF{bs:List UInt8}{r:Rd}{x:Raw}(f:Fld)(h:(f.rd bs r).err=0):r.err=0/\bs.drop r.at_=f.said (f.raw bs r x)++bs.drop (f.rd bs r).at_:=by
 cases f;exact⟨(uJ h).1,(uJ h).2.1⟩;exact⟨(uJ h).1,(uJ h).2.1⟩;exact⟨(uJ h).1,(uJ h).2.1⟩;exact jYV h;exact⟨(uJ h).1,(uJ h).2.1⟩;exact⟨(uJ h).1,(uJ h).2.1⟩
def jYP{bs:List UInt8}{r:Rd}{x:Raw}{f g:Fld}(h:f≠g):f.said (g.raw bs r x)=f.said x:=by
 cases f<;>cases g<;>first|rfl|exact absurd rfl h
def jSC{bs f}:∀(fs:List Fld) (x:Raw) (r:Rd),f∉fs->f.said (vA bs fs (x,r)).1=f.said x:=by
 intro fs;induction fs with
 |nil=>intro x r _;rfl
 |cons g fs a =>
  intro x r h
  simp only[List.mem_cons,not_or]at h
  rw[vA,a _ _ h.2,jYP h.1]
def jVX{bs:List UInt8}:∀(fs:List Fld) (x:Raw) (r:Rd),fs.Nodup->(vA bs fs (x,r)).2.err=0->r.err=0/\bs.drop r.at_=fs.flatMap (fun f=>f.said (vA bs fs (x,r)).1)++bs.drop (vA bs fs (x,r)).2.at_:=by
 intro fs;induction fs with
 |nil=>intro x r _ h;exact⟨h,rfl⟩
 |cons f fs b =>
  intro x r a h
  rw[vA]at h|-
  rw[List.nodup_cons]at a
  have⟨h1,h2⟩:=b _ _ a.2 h
  have⟨h3,c⟩:=zHF (x:=x) f h1
  refine⟨h3,?_⟩
  rw[List.flatMap_cons,c,h2,jSC fs _ _ a.1,List.append_assoc]
def jWP(k):(qL k).Nodup:=by
 unfold qL;repeat' split
 all_goals decide
def zGV{bs}:∀(fs:List Fld) (x:Raw) (r:Rd),(x.num<18446744073709551616)->(vA bs fs (x,r)).1.num<18446744073709551616:=by
 intro fs;induction fs with
 |nil=>intro x r h;exact h
 |cons f fs b =>
  intro x r h
  rw[vA]
  refine b _ _ ?_
  cases f<;>try exact h
  simp only[Fld.raw]
  by_cases a:(vU bs r).2.err=0
  .exact(uJ a).2.2
  .unfold vU at a|-
   split
   .grind
   .simp
def jPM{bs k}(h1:1<=k)(a:k<=9)(r):(vA bs (qL k) (qZ,r)).1.kids=(shapeOf k).kids.toNat/\(Fld.fst∈qL k↔0<(shapeOf k).kids)/\(Fld.snd∈qL k↔1<(shapeOf k).kids):=by
 have:k=1\/k=2\/k=3\/k=4\/k=5\/k=6\/k=7\/k=8\/k=9:=Om;rcases this with rfl|rfl|rfl|rfl|rfl|rfl|rfl|rfl|rfl<;>simp[qL,vA,Fld.raw,qZ,shapeOf]
def jVU{bs:List UInt8}{q:Pool}{r:Rd}(T:Wf q)(P:yU q)(G:r.at_<bs.length)(S:r.err=0)(j:(vN bs q r).2.1=0):
  Wf (vN bs q r).1/\yU (vN bs q r).1/\(vN bs q r).1.length=q.length+1/\(∀v,inP q v=true->inP (vN bs q r).1 v=true/\zA (vN bs q r).1 v=zA q v) /\
  bs.drop r.at_=yB (vN bs q r).1 (jHJ q.length) ((q.length:Int)+1)++bs.drop (vN bs q r).2.2.at_:=by
 rw[jAI bs q r G S]at j|-
 have h:bs.drop r.at_=bs[r.at_] ::bs.drop (r.at_+1):=List.drop_eq_getElem_cons G
 have l:UInt8.ofNat bs[r.at_].toNat=bs[r.at_]:=Sm
 generalize bs[r.at_]=c at *
 split at j
 rename_i o
 rw[if_pos o]
 have O:1<=c.toNat/\c.toNat<=9:=by unfold uC at o;simpa using o
 have g:=@jVX bs (qL c.toNat) qZ ⟨r.at_+1,0,r.spot⟩<|jWP _
 have E:=@zGV bs (qL c.toNat) qZ ⟨r.at_+1,0,r.spot⟩ De
 have⟨K,p,z⟩:=@jPM bs (c.toNat:Int) Om Om ⟨r.at_+1,0,r.spot⟩
 generalize vA bs (qL c.toNat) (qZ,⟨r.at_+1,0,r.spot⟩)=s at *
 have⟨x,R⟩:=s
 simp only at *
 have⟨B,C,F,e,J⟩:=jJM j
 simp only at B C F e J
 rw[J]
 simp only
 have⟨_,g⟩:=g B
 have⟨W,A,Q⟩:=xD e
 have w:=uM T<|x.node c.toNat
 have u:yU (make q<|x.node c.toNat).2.2:=P.make (by simp only[Raw.node,yH];omega)
 have i:(make q<|x.node c.toNat).1=(q.length:Int)+1/\(make q<|x.node c.toNat).2.2.length=q.length+1:=by
  have L:=Q;unfold make at e|-;simp only[F]at e|-;rw[if_neg (by rw[L];simp)]at e|-;split at e;simp at e;grind
 have⟨M,V⟩:=yO q<|x.node c.toNat
 refine⟨w,u,i.2,fun v H=>?_,?_⟩
 rw[V]at w|-;exact⟨uD H,uG w _ v rfl H⟩
 rw[i.1]at A
 rw[h,g]
 unfold yB
 rw[A]
 have k:(x.node c.toNat).kind=c.toNat:=rfl
 rw[k,Int.toNat_natCast,l,List.cons_append]
 congr 1
 congr 1
 have d:nodeErr c.toNat q.length x R.err=0:=C
 unfold nodeErr at d
 rw[if_neg Om]at d
 split at d
 simp at d
 split at d
 simp at d
 rename_i D
 have N:∀(fs:List Fld) (t m:Fld->List UInt8),(∀f∈fs,t f=m f)->fs.flatMap t=fs.flatMap m:=by
  intro fs t m;induction fs with
  |nil=>intro _;rfl
  |cons f fs y=>intro hh;rw[List.flatMap_cons,List.flatMap_cons,hh f Sm,y Gd]
 refine N _ _ _ fun f I=>?_
 cases f
 simp[Fld.said,Fld.bytes,Raw.node]
 simp[Fld.said,Fld.bytes,Raw.node]
 simp[Fld.said,Fld.bytes,Raw.node]
 simp[Fld.said,Fld.bytes,Raw.node]
 have h2:=p.1 I
 have n:0<x.kids:=Om
 have U:x.a<q.length:=Om
 simp only[Fld.said,Fld.bytes,Raw.node,if_pos n]
 rw[jUC Om Om]
 congr 1;omega
 have h2:=z.1 I
 have n:1<x.kids:=Om
 have U:x.b<q.length:=Om
 simp only[Fld.said,Fld.bytes,Raw.node,if_pos n]
 rw[jUC Om Om]
 congr 1;omega
 simp at j
def jTW{bs}:∀(b:Nat) (q:Pool) (r:Rd) (c:List Nat) (a:Pool),Wf q->yU q->c.length=q.length->r.err=0->r.at_<=bs.length->bs.length - r.at_<=b->bs.take r.at_=textFrom q [] (jHJ q.length)->(jLJ bs b q r c).1=some a ->
  Wf a/\yU a/\q.length<=a.length/\bs=textFrom a [] (jHJ a.length)/\a.length<=inRow 0 (subs a a.length):=by
 have e:∀(q:Pool) (c:List Nat) (a:Pool),c.length=q.length->(jDX q c).1=some a->q=a/\q.length<=inRow 0 (subs q q.length):=by
  intro q c a i h;unfold jDX at h;simp only at h;split at h;cases h;grind
 intro b
 induction b with
 |zero =>
  intro q r c a l n i p s y ht h
  obtain⟨rfl,h2⟩:=e q c a i h
  rw[List.take_of_length_le Om]at ht
  exact⟨l,n,Nat.le_refl _,ht,h2⟩
 |succ b w =>
  intro q r c a l n i p s y ht h
  by_cases m:r.at_<bs.length
  rw[jLJ,if_pos m]at h
  by_cases o:(vN bs q r).2.1=0
  rw[if_neg<|by simpa using o]at h
  have⟨s1,x,t,E,u⟩:=jVU l n m p o
  have⟨a1,a2,a3⟩:=jJK bs q r m p o
  have f:bs.take (vN bs q r).2.2.at_=textFrom (vN bs q r).1 [] (jHJ (vN bs q r).1.length):=by
   have k:∀z∈jHJ q.length,inP q z=true:=fun z v=>zI.2<|jHY.1 v;have g:textFrom q [] (jHJ q.length)=textFrom (vN bs q r).1 [] (jHJ q.length):=
    jEV l s1 _ _ [] [] k Gd Sm Sm (List.map_congr_left Gd) rfl
   rw[t,jHJ,jBA,List.nil_append,<-g,<-ht];have d:bs.take (vN bs q r).2.2.at_=bs.take r.at_++(bs.drop r.at_).take ((vN bs q r).2.2.at_-r.at_):=by
    rw[<-List.take_add];congr 1;omega
   rw[d];congr 1;have j:=congrArg List.length u;rw[List.length_drop,List.length_append,List.length_drop]at j;rw[u,List.take_append_of_le_length Om,List.take_of_length_le Om]
  have⟨C,A,F,B,D⟩:=w _ _ _ a s1 x (by simp[i,t]) a3 a2 Om f h
  exact⟨C,A,Om,B,D⟩
  grind
  rw[jHV m]at h
  obtain⟨rfl,h2⟩:=e q c a i h
  rw[List.take_of_length_le Om]at ht
  exact⟨l,n,Nat.le_refl _,ht,h2⟩
def jPG:∀(l:List Int) (i m:Nat),i+m<=inRow i l->m<=l.length/\∀j (h:j<l.length),j<m->l[j]=((i+j:Nat):Int)+1:=by
 intro l;induction l with
 |nil=>intro i m h;rw[inRow]at h;exact⟨So,fun j h=>(by simp at h)⟩
 |cons s l c =>
  intro i m h
  rw[inRow]at h
  split at h
  rename_i hs
  cases m with
  |zero=>exact⟨Sm,fun j _ a=>Om⟩
  |succ m =>
   have⟨h1,h2⟩:=c (i+1) m Om
   refine⟨by rw[List.length_cons];omega,fun j a b=>?_⟩
   cases j with
   |zero=>simp[hs]
   |succ j=>simp only[List.getElem_cons_succ];rw[h2 j (by simpa using a) Om];congr 2;omega
  exact⟨So,fun j _ a=>Om⟩
def uX{bs q}(h:(zW bs).1=some q):Wf q/\yU q/\inP q q.length=true/\vI q q.length=bs/\bs.length<=4096:=by
 unfold zW at h;split at h;cases h;split at h;cases h;rename_i h1 h2;have⟨c,i,_,b,k⟩:=jTW bs.length [] ⟨0,0,0⟩ [] q Wf.nil yU.nil rfl rfl (Nat.zero_le _) (Nat.le_refl _) (by simp[jHJ,textFrom]) h;have d:0<q.length:=by
  rcases Nat.eq_zero_or_pos q.length with e|e;rw[e,jHJ,textFrom]at b;rw[b]at h2;simp at h2;exact e
 have a:inP q q.length=true:=zI.2 ⟨Om,Om⟩;have⟨l,g⟩:=jPG (subs q q.length) 0 q.length Om;have f:=uH c q.length;have hs:subs q q.length=jHJ q.length:=by
  refine List.ext_getElem (by rw[jHZ];omega) fun j h1 h2=>?_;rw[g j h1 Gd,zCX];simp
 refine⟨c,i,a,?_,Om⟩;unfold vI;rw[hs];exact b.symm
def jSV{Lq}(f:yU Lq):∀(l:List Int) (L:Pool) (own:Int->Int),yU L->yU (zS Lq l L own).1:=by
 intro l;induction l with
 |nil=>intro L own h;exact h
 |cons z l d =>
  intro L own h
  obtain⟨x,e,c,hm⟩:∃x e c,make L { nodeOf Lq z with a:=own (nodeOf Lq z).a,b:=own (nodeOf Lq z).b }=(x,e,c):=⟨_,_,_,rfl⟩
  have h2:=h.make (n:={ nodeOf Lq z with a:=own (nodeOf Lq z).a,b:=own (nodeOf Lq z).b })<|f.node z
  rw[qA Lq z l L own rfl hm]
  rw[hm]at h2
  split
  exact h
  exact d _ _ h2
def jLV{L Lq}(h:yU L)(a:yU Lq)(t):yU (vD L Lq t).2.2:=by
 unfold vD;split;simp only;split;exact h;exact jSV a _ _ _ h;exact h
def jKF{L}(h:yU L)(bs):yU (qY L bs).2.2.2:=by
 unfold qY;cases a:(zW bs).1 with
 |none=>exact h
 |some q=>exact jLV h (uX a).2.1 _
def jED{L}(h:Wf L)(bs):Wf (qY L bs).2.2.2:=by
 unfold qY;cases c:(zW bs).1 with
 |none=>exact h
 |some q =>
  have⟨b,_,d,_⟩:=uX c
  by_cases a:(vD L q q.length).2.1=0
  exact(xW h b d a).1
  simp only;rw[((zAD h b _).resolve_left a).2];exact h
def xN{bs}(h:(zW bs).1=none):(zW bs).2.1≠0:=by
 have c:∀(q:Pool) (b:List Nat),(jDX q b).1=none->(jDX q b).2.1≠0:=by
  intro q b h;unfold jDX at h|-;simp only at h|-;split at h;grind;cases h
 have d:∀(bs:List UInt8) (a:Nat) (q:Pool) (r:Rd) (b:List Nat),(jLJ bs a q r b).1=none->(jLJ bs a q r b).2.1≠0:=by
  intro bs a;induction a with
  |zero=>intro q r b h;exact c _ _ h
  |succ a e =>
   intro q r b h
   rw[jLJ]at h|-
   split at h
   grind
   grind
 unfold zW at h|-;split at h;grind;grind
def jOM{bs q}(h:(zW bs).1=some q):(zW bs).2.1=0:=by
 have c:∀(q:Pool) (b:List Nat) (x:Pool),(jDX q b).1=some x->(jDX q b).2.1=0:=by
  intro q b x h;unfold jDX at h|-;simp only at h|-;split at h;cases h;grind
 have d:∀(a:Nat) (q:Pool) (r:Rd) (b:List Nat) (x:Pool),(jLJ bs a q r b).1=some x->(jLJ bs a q r b).2.1=0:=by
  intro a;induction a with
  |zero=>intro q r b x h;exact c _ _ _ h
  |succ a e =>
   intro q r b x h
   rw[jLJ]at h|-
   split at h
   grind
   grind
 unfold zW at h|-;split at h;cases h;grind
def jZT{L}(h:Wf L){bs}(a:(qY L bs).2.1=0):Wf (qY L bs).2.2.2/\inP (qY L bs).2.2.2 (qY L bs).1=true/\vI (qY L bs).2.2.2 (qY L bs).1=bs/\bs.length<=4096:=by
 cases b:(zW bs).1 with
 |none =>
  unfold qY at a;rw[b]at a
  exact absurd a<|xN b
 |some q =>
  have⟨c,k,e,g,i⟩:=uX b
  unfold qY at a|-
  rw[b]at a|-
  simp only at a|-
  have⟨d,f,j⟩:=xW h c e a
  exact⟨d,f,by rw[jDQ d c f e j,g],i⟩
end Go.Proofs
end
section
open Go Go.SE
namespace Go.Proofs
open Tryz
attribute [local irreducible] Calls CallsD
def Raw.cells(k:Nat)(x:Raw):List Value:=[vi k,vi 0,vi 0,vu x.num,vs ⟨x.text.toArray⟩,vi 0,vi 0,vu x.frm,vu x.to,vu x.a,vu x.b,vi x.kids]
def jYD(bs:List UInt8)(r:Rd)(k:Nat)(x:Raw)(f:Fld):f.upd bs r (x.cells k)=(f.raw bs r x).cells k:=by cases f<;>rfl
def jVY(bs):∀(a b:List Fld) (s:Raw×Rd),vA bs (a++b) s=vA bs b (vA bs a s):=by
 intro a;induction a with
 |nil=>intro b s;rfl
 |cons f a c=>intro b s;have⟨x,r⟩:=s;rw[List.cons_append,vA,vA,c]
def jSB(bs)(fs:List Fld)(j)(a:j<fs.length)(s:Raw×Rd):vA bs (fs.take<|j+1) s=(fs[j].raw bs (vA bs (fs.take j) s).2 (vA bs (fs.take j) s).1,fs[j].rd bs (vA bs (fs.take j) s).2):=by
 rw[List.take_succ_eq_append_getElem a,jVY];have⟨x,r⟩:=vA bs (fs.take j) s;rfl
def zEE(f:Fld):∀args w,(callFunc f.get args).run prog w=.ok (.enter f.get args) w:=by
 cases f;exact call251;exact call254;exact call256;exact call259;exact call262;exact call264
structure StAt(w:World)(q a:Addr)(s:Sl)(bs:List UInt8)(L:Pool)(r:Rd)(m:Nat)(S c F:NP):Prop where
 pool:zD w q L c
 rd:RdS S w a s bs r
 kinds:Kinds w m F
 lS:∀b,S b->b<w.heap.size
 la:a.block<w.heap.size
 dP:∀b,c b->b≠a.block/\¬S b/\¬F b/\b≠m
 dF:∀b,F b->b≠a.block/\¬S b
 dm:m≠a.block/\¬S m
def StAt.ext{w w' q a s bs L r m S FP F G}(h:StAt w q a s bs L r m S FP F)(E:Ext G w w')(d:∀b,b<w.heap.size->¬G b):StAt w' q a s bs L r m S FP F:=
 ⟨h.pool.ext E fun b c=>d b<|h.pool.lt c,h.rd.ext E (fun b c=>d b<|h.lS b c)<|d _ h.la,h.kinds.ext E fun b c=>d b<|c.elim (h.kinds.lt b) fun e=>e▸h.kinds.mlt,fun b c=>Nat.lt_of_lt_of_le (h.lS b c) E.size,Nat.lt_of_lt_of_le h.la E.size,h.dP,h.dF,h.dm⟩
def StAt.pure{w w' q a s bs L r m S FP F}(h:StAt w q a s bs L r m S FP F)(E:Pure w w'):StAt w' q a s bs L r m S FP F:=h.ext E fun _ _ h=>h
def tG{n:Nat}(h:n<9223372036854775808):IntKind.i64.wrap (n:Int)=(n:Int):=IntWalk.i64_in _ Om
def jEQ(n:Nat):s_P (n:Int)=if 2147483647<n then -1 else(n:Int):=by
 unfold s_P;by_cases h:2147483647<n;grind;rw[if_neg h,show decide ((n:Int)>2147483647)=false by simp;omega];exact tG (by omega)
def jVE(k f t:Nat)(u:Int)(x:ByteArray)(a b:Int):s_J2 (k:Int) (s_P (f:Int)) (s_P (t:Int)) u x a b=if 16<=f\/16<=t\/((k=8\/k=9)/\f=t)then 50 else 0:=by
 unfold s_J2;rw[jEQ,jEQ];have key:((((decide ((if 2147483647<f then -1 else(f:Int))<0) ||decide ((if 2147483647<f then -1 else(f:Int))>=16)) ||decide ((if 2147483647<t then -1 else(t:Int))<0)) ||decide ((if 2147483647<t then -1 else(t:Int))>=16)) ||((((k:Int)==8) ||((k:Int)==9))&&((if 2147483647<f then -1 else(f:Int))==(if 2147483647<t then -1 else(t:Int)))))=decide (16<=f\/16<=t\/((k=8\/k=9)/\f=t)):=Gd;rw[key];by_cases h:16<=f\/16<=t\/((k=8\/k=9)/\f=t);grind;grind
def jMP{w p n cs T}(h:Box w p (oO n++cs) T):Row w p (oO n):=fun i hi=>by
 have:=h.row i Gd;rw[List.getElem?_append_left hi]at this;exact this
def c_sub4(q a s bs r m){S FP F L}(p n cs){w}(h:StAt w q a s bs L r m S FP F)(e:Ok L)(hB:Box w p (oO n++cs) 314)(y:¬ FP p.block)(K:Int->WP)(i:∀x w',x=(if (find L n).isSome=true then 72 else (make L n).2.1)->(∃F',zD w' q (if (find L n).isSome=true then L else (make L n).2.2) F'/\RdS S w' a s bs r/\Ext FP w w'/\∀b,F' b->FP b\/w.heap.size<=b)->K x w'):
  m_F_j4 (some q) p None w K:=by
 refine⟨n.kind,n.frm,n.to,n.num,n.text,n.a,n.b,jMP hB,?_⟩
 refine(zID q n w h.pool e).mono ?_
 rintro _ t ⟨x,ok,rfl,A,c⟩
 refine⟨_,_,rfl,c.keptP,fun f=>?_,fun f=>?_⟩
 have:(find L n).isSome=true:=Gd
 rw[if_pos this,if_pos this]at i
 exact i _ _ rfl ⟨FP,h.pool.pure c,h.rd.pure c,Ext.pure c,fun b d=>.inl d⟩
 have:¬(find L n).isSome=true:=Gd
 rw[if_neg this,if_neg this]at i
 refine⟨n.kind,n.frm,n.to,n.num,n.text,n.a,n.b,jMP<|hB.pure c,?_⟩
 refine(jBN q n.kind n.frm n.to n.num n.text n.a n.b t (h.pool.pure c) e).mono ?_
 rintro _ z ⟨l,v,rfl,u,F',o,k,j⟩
 have g:=congrArg Prod.snd u
 simp only at g
 refine⟨l,v,rfl,k.kept fun b d=>d.elim,i _ _ g ⟨F',o,(h.rd.pure c).ext k (fun b d hh=>(h.dP b hh).2.1 d) fun hh=>(h.dP _ hh).1 rfl,(Ext.pure c).trans k,fun b d=>(j b d).elim .inl fun d=>.inr<|Oh c.size⟩⟩
def zGP(k:Nat)(x:Raw):(((x.cells k).set 1<|vi<|s_P x.frm).set 2<|vi<|s_P x.to)=oO ⟨k,s_P x.frm,s_P x.to,x.num,⟨x.text.toArray⟩,0,0⟩++[vu x.frm,vu x.to,vu x.a,vu x.b,vi x.kids]:=rfl
def zCO(n cs v):(oO n++cs).set 5 (vi v)=oO { n with a:=v }++cs:=rfl
def zCN(n cs v):(oO n++cs).set 6 (vi v)=oO { n with b:=v }++cs:=rfl
def c_sub3(q a:Addr)(s:Sl)(bs:List UInt8)(r:Rd)(m:Nat){S l F:NP}{L:Pool}(p:Addr)(k:Nat)(x:Raw){w:World}(h:StAt w q a s bs L r m S l F)(B:Ok L)(h1:x.frm<16)(h2:x.to<16)(R:0<x.kids->x.a<L.length)(u:1<x.kids->x.b<L.length)(hB:Box w p (oO ⟨k,s_P x.frm,s_P x.to,x.num,⟨x.text.toArray⟩,0,0⟩++[vu x.frm,vu x.to,vu x.a,vu x.b,vi x.kids]) 314)(A:p.block≠a.block/\¬ S p.block/\¬ l p.block/\¬ F p.block/\p.block≠m)(K:Int->WP)(T:∀y w',y=(if (find L<|x.node k).isSome=true then 72 else (make L<|x.node k).2.1)->(∃F',zD w' q (if (find L<|x.node k).isSome=true then L else (make L<|x.node k).2.2) F'/\RdS S w' a s bs r/\Ext (fun b=>l b\/b=p.block) w w'/\∀b,F' b->l b\/w.heap.size<=b)->K y w'):
  m_F_j2 (some q) p false None w K:=by
 have M:=B.few
 have fs:s_P (x.frm:Int)=(x.frm:Int):=by rw[jEQ,if_neg<|by omega]
 have ts:s_P (x.to:Int)=(x.to:Int):=by rw[jEQ,if_neg<|by omega]
 rw[fs,ts]at hB
 have z:∀{w w':World} {i:Nat} {v:Value},StAt w q a s bs L r m S l F->w'=w.setCell (p.add i) v->StAt w' q a s bs L r m S l F/\Ext (·=p.block) w w':=fun {w w' i v} h e=>by
  have E:Ext (·=p.block) w w':=by rw[e];exact qQ
  refine⟨⟨h.pool.ext E<|by grind,h.rd.ext E (by grind) fun e=>A.1 e.symm,h.kinds.ext E<|by grind,fun b u=>Nat.lt_of_lt_of_le (h.lS b u) E.size,Nat.lt_of_lt_of_le h.la E.size,h.dP,h.dF,h.dm⟩,E⟩
 have J:∀n:Nat,n<L.length->IntKind.i64.wrap (IntKind.u64.wrap<|(n:Int)+1)=(n:Int)+1:=fun n O=>by
  rw[show(n:Int)+1=((n+1:Nat):Int) by omega,vX<|by omega,tG<|by omega]
 have I : ∀ (j vb : Int) (g : World), StAt g q a s bs L r m S l F -> Box g p (oO ⟨k, x.frm, x.to, x.num, ⟨x.text.toArray⟩, j, vb⟩ ++ [vu x.frm, vu x.to, vu x.a, vu x.b, vi x.kids]) 314 -> Ext (· = p.block) w g ->
   j=(if 0<x.kids then(x.a:Int)+1 else 0)->vb=(if 1<x.kids then(x.b:Int)+1 else 0)->m_F_j4 (some q) p None g K:=by
  intro j vb g h1 d C o D
  have O:(⟨k,x.frm,x.to,x.num,⟨x.text.toArray⟩,j,vb⟩:Node)=x.node k:=by subst o D;rfl
  rw[O]at d
  refine c_sub4 q a s bs r m p (x.node k) _ h1 B d A.2.2.1 K fun y w' W ⟨F',U,P,V,Q⟩=>T y w' W ⟨F',U,P,(C.mono fun b _ h=>.inr h).trans<|V.mono fun b _ h=>.inl h,fun b u=>(Q b u).imp id fun h=>by have:=C.size;omega⟩
 refine⟨fun c=>(by cases c),fun _=>⟨x.kids,hB.cell (i:=11) rfl,?_⟩⟩
 have N : ∀ (j : Int) (g : World), StAt g q a s bs L r m S l F -> Box g p (oO ⟨k, x.frm, x.to, x.num, ⟨x.text.toArray⟩, j, 0⟩ ++ [vu x.frm, vu x.to, vu x.a, vu x.b, vi x.kids]) 314 -> Ext (· = p.block) w g ->
   j=(if 0<x.kids then(x.a:Int)+1 else 0)->m_F_j3 (some q) p None g K:=by
  intro j g h1 d C o
  refine⟨x.kids,d.cell (i:=11) rfl,fun c=>?_,fun c=>?_⟩
  have c:1<x.kids:=by have:=of_decide_eq_true c;omega
  refine⟨x.b,d.cell (i:=10) rfl,d.canW (i:=6)<|by simp[oO],id,?_⟩
  rintro G t
  have⟨h2,H⟩:=z h1 t
  have f:=d.set 6<|vi<|IntKind.i64.wrap<|IntKind.u64.wrap<|(x.b:Int)+1
  rw[<-t,zCN,J _<|u c]at f
  exact I j _ G h2 f (C.trans H) o (by rw[if_pos c])
  grind
 refine⟨fun c=>?_,fun c=>?_⟩
 have c:0<x.kids:=by have:=of_decide_eq_true c;omega
 refine⟨x.a,hB.cell (i:=9) rfl,hB.canW (i:=5)<|by simp[oO],id,?_⟩
 rintro G t
 have⟨h2,H⟩:=z h t
 have f:=hB.set 5<|vi<|IntKind.i64.wrap<|IntKind.u64.wrap<|(x.a:Int)+1
 rw[<-t,zCO,J _<|R c]at f
 exact N _ G h2 f H (by rw[if_pos c])
 have c:¬0<x.kids:=by have:=of_decide_eq_false c;omega
 exact N 0 w h hB (Ext.refl _) (by rw[if_neg c])
def zAG(q a s bs r m){S FP F L w0}(h:StAt w0 q a s bs L r m S FP F)(U:Ok L)(K:r.at_<bs.length)(he:r.err=0):
  cl 185 #[vp<|some q,vp<|some a,.map<|some m] w0<|XB fun y w'=>y=(vN bs L r).2.1/\∃F',zD w' q (vN bs L r).1 F'/\RdS S w' a s bs (vN bs L r).2.2/\Ext (fun b=>FP b\/b=a.block) w0 w'/\∀b,F' b->FP b\/w0.heap.size<=b:=by
 refine w_F (some q) (some a) (some m) w0 _ ?_
 refine(c_Byte a s bs r w0 h.rd (Nat.le_of_lt K) h.lS).mono ?_
 rintro _ w1 ⟨_,rfl,rfl,O,N⟩
 refine⟨_,rfl,N.kept fun b c=>c.elim,?_⟩
 rw[jAI bs L r K he]
 rw[jTY bs r K he]at O|-
 simp only at O|-
 generalize hk:bs[r.at_].toNat=k at *
 have hk256:k<256:=by rw[<-hk];exact bs[r.at_].toNat_lt
 have S1:StAt w1 q a s bs L ⟨r.at_+1,0,r.spot⟩ m S FP F:=⟨h.pool.ext N fun b c e=>(h.dP b c).1 e,O,h.kinds.ext N fun b c e=>c.elim (fun c=>(h.dF b c).1 e) fun c=>h.dm.1<|c.symm.trans e,fun b c=>Nat.lt_of_lt_of_le (h.lS b c) N.size,Nat.lt_of_lt_of_le h.la N.size,h.dP,h.dF,h.dm⟩
 intro p1 w2 n2
 rw[tG<|by omega]at n2
 have E2:Pure w1 w2:=Ext.new n2
 have S2:=S1.pure E2
 have B2:Box w2 p1 (qZ.cells k) 314:=Box.of_newA n2
 have bp:=n2.at_size
 have z1:=N.size
 have Z:Ext (·=a.block) w0 w2:=N.thenPure E2
 refine⟨k,B2.cell0,?_⟩
 by_cases p:uC k=true
 have hk19:1<=k/\k<=9:=by unfold uC at p;simpa using p
 have⟨v2,M,Q⟩:=S2.kinds.get (k:Int) (by omega) (by omega) true
 refine⟨v2,true,M,fun d=>(by cases d),fun _=>?_⟩
 rw[if_pos p]
 generalize T:qL (k:Int)=fs at *
 have hf3:fs.length<=3:=by rw[<-T];exact jNF _
 have hrat:∀j,(vA bs (fs.take j) (qZ,⟨r.at_+1,0,r.spot⟩)).2.at_<=bs.length:=fun j=>(jOQ bs (fs.take j) qZ ⟨r.at_+1,0,r.spot⟩ (by simp only;omega)).2
 refine⟨fun x1 Hl w=>∃j:Nat,x1=j/\j<=fs.length/\Hl=None/\StAt w q a s bs L (vA bs (fs.take j) (qZ,⟨r.at_+1,0,r.spot⟩)).2 m S FP F/\Box w p1 ((vA bs (fs.take j) (qZ,⟨r.at_+1,0,r.spot⟩)).1.cells k) 314/\Lst F w 2 v2 (fs.map Fld.row)/\Ext (·=a.block) w0 w,fun x1 _=>((fs.length:Int)-x1).toNat,⟨0,rfl,Nat.zero_le _,rfl,S2,B2,Q,Z⟩,?_⟩
 rintro _ _ wl _ ⟨j,rfl,hj,rfl,hS,hB,hL,hE⟩
 unfold m_F_l1
 have G:v2.len=fs.length:=by rw[hL.len,List.length_map]
 have ple:p1.block<wl.heap.size:=hB.lt
 have zE:=hE.size
 have nS:¬S p1.block:=fun hh=>by have:=h.lS _ hh;omega
 have nF:¬F p1.block:=fun hh=>by have:=h.kinds.lt _ hh;omega
 have nP:¬FP p1.block:=fun hh=>by have:=h.pool.lt hh;omega
 have na:p1.block≠a.block:=fun hh=>by have:=h.la;omega
 have nm:p1.block≠m:=fun hh=>by have:=h.kinds.mlt;omega
 refine⟨fun d=>?_,fun d=>?_⟩
 have d:=vR G d
 have⟨a1,hat,_,W⟩:=hL.nth d
 refine⟨a1,hat,_,_,W,?_⟩
 intro p2 w3 n3
 have E3:Pure wl w3:=Ext.new n3
 refine⟨⟨rfl,fun i hi=>(Box.of_newA n3).canW<|by simpa using hi⟩,id,?_⟩
 rintro w4 e4
 have X4:Ext (·=p2.block) w3 w4:=by rw[e4];exact Ext.storeRow _ _ _
 have B4:Box w4 p2 [.func (.func fs[j].put) #[] #[],.func (.func fs[j].get) #[] #[]] 255:=by rw[e4];exact(Box.of_newA n3).store rfl
 have hp2:=n3.at_size
 have D:Pure wl w4:=E3.own (by grind) X4
 have S4:=hS.pure D
 refine⟨_,B4.cell (i:=1) rfl,fs[j].get,#[],#[],rfl,zEE fs[j],?_⟩
 refine(c_get fs[j] a p1 s bs _ _ w4 S4.rd (hrat j) S4.lS (hB.pure D) rfl (fun e=>na e.symm) fun b c e=>nS<|e▸c).mono ?_
 rintro _ w5 ⟨rfl,hR5,R,H⟩
 rw[jYD]at R
 have X:=jSB bs fs j d (qZ,⟨r.at_+1,0,r.spot⟩)
 refine⟨rfl,H.kept fun b c=>c.elim,⟨j+1,zQ d<|by omega,d,rfl,?_,?_,?_,?_⟩,by rw[zQ d<|by omega];exact uR d⟩
 rw[X]
 exact⟨S4.pool.ext H fun b c e=>e.elim (fun e=>(h.dP b c).1 e) fun e=>nP<|e▸c,hR5,S4.kinds.ext H fun b c e=>c.elim (fun c=>e.elim (fun e=>(h.dF b c).1 e) fun e=>nF<|e▸c) fun c=>e.elim (fun e=>h.dm.1<|c.symm.trans e) fun e=>nm<|e.symm.trans c,fun b c=>Nat.lt_of_lt_of_le (S4.lS b c) H.size,Nat.lt_of_lt_of_le S4.la H.size,h.dP,h.dF,h.dm⟩
 rw[X];exact R
 exact(hL.pure D).ext H fun b c e=>e.elim (fun e=>(h.dF b c).1 e) fun e=>nF<|e▸c
 exact(hE.thenPure D).trans' H (by grind)
 have d:=yI G hj d
 subst d
 rw[List.take_length]at hS hB
 have hkd:=(@jPM bs (k:Int) (by omega) (by omega) ⟨r.at_+1,0,r.spot⟩).1
 rw[T]at hkd
 generalize vA bs fs (qZ,⟨r.at_+1,0,r.spot⟩)=st at *
 have⟨x,f⟩:=st
 simp only at hS hB hkd
 have fin : ∀ (y : Int) (w : World) (F' : NP), zD w q (jDW L k (x, f)).1 F' -> RdS S w a s bs (jDW L k (x, f)).2.2 -> Ext (fun b => FP b \/ b = a.block) w0 w -> (∀ b, F' b -> FP b \/ w0.heap.size <= b) -> y = (jDW L k (x, f)).2.1 ->
   y=(jDW L k (x,f)).2.1/\∃F',zD w q (jDW L k (x,f)).1 F'/\RdS S w a s bs (jDW L k (x,f)).2.2/\Ext (fun b=>FP b\/b=a.block) w0 w/\∀b,F' b->FP b\/w0.heap.size<=b:=fun y w F' a1 a2 a3 a4 a5=>⟨a5,F',a1,a2,a3,a4⟩
 have Y:Ext (fun b=>FP b\/b=a.block) w0 wl:=hE.mono fun b _ h=>.inr h
 have J:∀(e:Nat) (w:World),nodeErr k L.length x f.err=e->e≠0->Ext (·=p1.block) wl w->(((e:Nat):Int)=(jDW L k (x,f)).2.1/\∃F',zD w q (jDW L k (x,f)).1 F'/\RdS S w a s bs (jDW L k (x,f)).2.2/\Ext (fun b=>FP b\/b=a.block) w0 w/\∀b,F' b->FP b\/w0.heap.size<=b):=by
  intro e w A h0 E;have hr:jDW L k (x,f)=(L,(e:Int),f):=by
   unfold jDW;simp only;rw[if_pos (by rw[A];exact h0),A]
  rw[hr];exact⟨rfl,FP,hS.pool.ext E fun b c e=>nP<|e▸c,hS.rd.ext E (fun b c e=>nS<|e▸c) fun e=>na e.symm,Y.trans' E fun i hi e=>by omega,fun b c=>.inl c⟩
 refine(c_Why a s bs f wl hS.rd).mono ?_
 rintro _ w6 ⟨_,_,rfl,rfl,rfl,P⟩
 have S6:=hS.pure P
 have B6:=hB.pure P
 refine⟨_,_,rfl,P.keptP,fun d=>?_,fun d=>?_⟩
 have d:f.err≠0:=by have:=bne_iff_ne.1 d;omega
 exact J f.err w6 (by unfold nodeErr;rw[if_pos d]) d<|Ext.pure P
 have d:f.err=0:=by grind
 refine⟨fun w'=>w'.cell? (p1.add 8)=some (vu x.to),(B6.pure<|Ext.drew w6).cell (i:=8) rfl,?_⟩
 rintro w7 e7
 have E7:Pure w6 w7:=by rw[e7];exact Ext.drew w6
 have B7:=B6.pure E7
 refine⟨x.frm,B7.cell (i:=7) rfl,x.to,fun w' hw'=>hw',?_⟩
 refine(p_P (x.frm:Int) w7).mono ?_
 rintro _ w8 ⟨rfl,E8⟩
 have B8:=B7.pure E8
 refine⟨_,rfl,B8.cell (i:=8) rfl,E8.keptP,?_⟩
 refine(p_P (x.to:Int) w8).mono ?_
 rintro _ w9 ⟨rfl,E9⟩
 have B9:=B8.pure E9
 refine⟨_,rfl,B9.cell (i:=8) rfl,E9.keptP,B9.canW (i:=1)<|by simp[Raw.cells],id,?_⟩
 rintro w10 V
 have X10:Ext (·=p1.block) w9 w10:=by rw[V];exact qQ
 have z:=B9.set 1<|vi<|s_P x.frm
 rw[<-V]at z
 refine⟨z.cell (i:=8) rfl,z.canW (i:=2)<|by simp[Raw.cells],id,?_⟩
 rintro C e11
 have X11:Ext (·=p1.block) w10 C:=by rw[e11];exact qQ
 have I:=z.set 2<|vi<|s_P x.to
 rw[<-e11,zGP]at I
 have g:Ext (·=p1.block) wl C:=((Ext.pure<|((P.trans E7).trans E8).trans E9).trans X10).trans X11
 have S11:StAt C q a s bs L f m S FP F:=⟨hS.pool.ext g fun b c e=>nP<|e▸c,hS.rd.ext g (fun b c e=>nS<|e▸c) fun e=>na e.symm,hS.kinds.ext g<|by grind,fun b c=>Nat.lt_of_lt_of_le (hS.lS b c) g.size,Nat.lt_of_lt_of_le hS.la g.size,h.dP,h.dF,h.dm⟩
 refine⟨k,s_P x.frm,s_P x.to,x.num,⟨x.text.toArray⟩,0,0,jMP I,?_⟩
 rw[jVE]
 by_cases t:16<=x.frm\/16<=x.to\/((k=8\/k=9)/\x.frm=x.to)
 rw[if_pos t]
 refine⟨fun _ B o=>?_,fun d=>(by cases d)⟩
 exact J 50 B (by unfold nodeErr;rw[if_neg<|by omega,if_pos t]) (by decide)<|g.thenPure o.ext
 rw[if_neg t]
 refine⟨fun d=>(by cases d),fun _ B o=>?_⟩
 have v:Pure C B:=o.ext
 have S12:=S11.pure v
 refine(jGM q B S12.pool).mono ?_
 rintro _ l ⟨_,rfl,rfl,rfl⟩
 have n:=I.pure v
 have hLs:=U.few
 refine⟨_,rfl,Kept.refl _,x.kids,n.cell (i:=11) rfl,?_⟩
 rw[vX<|by omega]
 have u:((0<x.kids/\L.length<=x.a)\/(1<x.kids/\L.length<=x.b))->((71:Int)=(jDW L k (x,f)).2.1/\∃F',zD l q (jDW L k (x,f)).1 F'/\RdS S l a s bs (jDW L k (x,f)).2.2/\Ext (fun b=>FP b\/b=a.block) w0 l/\∀b,F' b->FP b\/w0.heap.size<=b):=fun hh =>
  J 71 l (by unfold nodeErr;rw[if_neg<|by omega,if_neg t,if_pos hh]) (by decide)<|g.thenPure v
 have good:¬((0<x.kids/\L.length<=x.a)\/(1<x.kids/\L.length<=x.b))->m_F_j2 (some q) p1 false None l (fun y w'=>y=(jDW L k (x,f)).2.1/\∃F',zD w' q (jDW L k (x,f)).1 F'/\RdS S w' a s bs (jDW L k (x,f)).2.2/\Ext (fun b=>FP b\/b=a.block) w0 w'/\∀b,F' b->FP b\/w0.heap.size<=b):=fun hh=>by
  have hr:jDW L k (x,f)=(if(find L<|x.node k).isSome=true then L else(make L<|x.node k).2.2,if(find L<|x.node k).isSome=true then 72 else(make L<|x.node k).2.1,f):=by
   have A:nodeErr k L.length x f.err=0:=by unfold nodeErr;rw[if_neg<|by omega,if_neg t,if_neg hh]
   unfold jDW;simp only;rw[if_neg (by rw[A];simp)];split<;>rfl
  rw[hr];refine c_sub3 q a s bs f m p1 k x S12 U (by omega) (by omega) (by omega) (by omega) n ⟨na,nS,nP,nF,nm⟩ _ ?_;rintro y w' hy ⟨F',g1,g2,g3,g4⟩;exact⟨hy,F',g1,g2,(Y.trans' (g.thenPure v) fun i hi e=>by omega).trans' g3 (by grind),fun b c=>(g4 b c).imp id fun hh=>by have:=g.size;have:=v.size;omega⟩
 have j5:∀x3:Bool,x3=decide (0<x.kids/\L.length<=x.a)->m_F_j5 (some q) p1 (L.length:Int) x3 None l (fun y w'=>y=(jDW L k (x,f)).2.1/\∃F',zD w' q (jDW L k (x,f)).1 F'/\RdS S w' a s bs (jDW L k (x,f)).2.2/\Ext (fun b=>FP b\/b=a.block) w0 w'/\∀b,F' b->FP b\/w0.heap.size<=b):=by
  intro x3 h3;refine⟨fun d=>?_,fun d=>?_⟩;rw[d]at h3;have h3:=of_decide_eq_true h3.symm;exact⟨fun _=>u<|.inl h3,fun d=>(by cases d)⟩;rw[d]at h3;have h3:=of_decide_eq_false h3.symm;refine⟨x.kids,n.cell (i:=11) rfl,fun d=>?_,fun d=>?_⟩;have d:=of_decide_eq_true d;refine⟨x.b,n.cell (i:=10) rfl,?_⟩;rw[vX<|by omega];by_cases c:L.length<=x.b;rw[decide_eq_true<|show(x.b:Int)>=(L.length:Int) by omega];exact⟨fun _=>u<|.inr ⟨by omega,c⟩,fun d=>(by cases d)⟩;grind;grind
 refine⟨fun d=>?_,fun d=>?_⟩
 have d:=of_decide_eq_true d
 refine⟨x.a,n.cell (i:=9) rfl,j5 _ ?_⟩
 rw[decide_eq_decide];omega
 have d:=of_decide_eq_false d
 refine j5 _ ?_
 rw[decide_eq_false];omega
 have hnk:¬(1<=(k:Int)/\(k:Int)<=9):=fun hh=>p (by unfold uC;simp;omega)
 refine⟨_,false,S2.kinds.none (k:Int) hnk,fun _=>?_,fun d=>(by cases d)⟩
 rw[if_neg p]
 exact⟨rfl,FP,S2.pool,S2.rd,Z.mono fun b _ h=>.inr h,fun b c=>.inl c⟩
end Go.Proofs
end
section
open Go Go.SE List
open Go.IntKind renaming i64 -> q6
namespace Go.Proofs
open Tryz
set_option maxRecDepth 100000
set_option maxHeartbeats 4000000
attribute [local irreducible] wpL wpX opE wpE Calls
attribute [local irreducible] adv W WV WR yN pv lpC jBQ ctR ka rgP dgo nwV nhI hvl had hcs hpt stV stC kp yM uK qM bn ub
def m_B3(p1:Option Addr)(aA:Option Addr)(t1:Int)(L:World)(K:Int->Int->WP):Prop:=∀p2 w1,New L (.cells #[(vp p1)] 91) p2 w1->∀p3 w2,New w1 (.cells #[(vp aA)] 91) p3 w2->∀f w3,New w2 (.cells #[(vi 0)] 73) f w3->∀c E,New w3 (.cells #[(vi 0)] 54) c E->∃v1,E.cell? p2=some (vp v1)/\Br (Option.isNone v1) (zV E f/\¬None f.block/\∀w5,w5=E.setCell f (vi 0)->zV w5 c/\¬None c.block/\∀w6,w6=w5.setCell c (vi 0)->∃aB,w6.cell? f=some (vi aB)/\∃aC,w6.cell? c=some (vi aC)/\K aB aC w6) (∃v2,E.cell? p3=some (vp v2)/\cl 130 #[(vp v2),(vi t1)] E fun e J=>∃r1,e=.returned (vb r1)/\Kept None E J/\Br (!r1) (zV J f/\¬None f.block/\∀w8,w8=J.setCell f (vi 0)->zV w8 c/\¬None c.block/\∀w9,w9=w8.setCell c (vi 51)->∃aD,w9.cell? f=some (vi aD)/\∃aE,w9.cell? c=some (vi aE)/\K aD aE w9) (∃v3,J.cell? p2=some (vp v3)/\∃a1,v3=some a1/\∃v4:Sl,J.cell? a1=some v4.v/\∀P G,New J (.cells #[(vi 0)] 3) P G->zV G P/\¬None P.block/\∀T,T=G.setCell P (vi (v4.len:Int))->∀p7 S,New T (.map #[] 0) p7 S->∀t u,New S (.cells #[(.map none)] 197) t u->zV u t/\¬None t.block/\∀o,o=u.setCell t (.map<|some p7.block)->∃v5,o.cell? p3=some (vp v5)/\cl 131 #[(vp v5),(vi t1)] o fun e n=>∃r2:Value,e=.returned r2/\Kept None o n/\∃(f1:FuncId) (O:Array Value),r2=.func (.func f1) #[] O/\(∀args w,(callFunc f1 args).run prog w=.ok (.enter f1 args) w)/\∃(F:List (Int)) (Rd1:WP),zBF prog f1 O (fun(y:Int)=>#[(vi y)]) F Rd1 n/\∃(I1 x:List (Int)->NP->WP),RngI L Rd1 I1 (fun _ _ _=>False) x/\I1 [] None n/\(∀(h:List (Int)) (y:Int) (A:NP) (s:World),I1 h A s->Hst L A s A s->(∃R,F=h++y ::R)->∃v6,s.cell? p3=some (vp v6)/\cl 109 #[(vp v6),(vi y)] s fun e V=>∃aF aG aH aI aJ aK aL r3,e=.returned (.tuple #[(Ae aF aG aH aI aJ aK aL),(vb r3)])/\Kept None s V/\∀i H,New V (.cells #[(vi 0),(vi 0),(vi 0),(vu 0),ve,(vi 0),(vi 0)] 119) i H->(∀j,j<7->zV H (i.add j))/\¬None i.block/\∀C,C=storeRow H i (Ab aF aG aH aI aJ aK aL)->∃C1:WP,C1 C.drew/\∀d,d=C.drew->∃v7:Option Nat,d.cell? t=some (.map v7)/\∃v8,d.cell? (i.add 5)=some (vi v8)/\∃v9,(Instr.lookup 197 (.map v7) (vi v8) false).run prog d=.ok (vi v9) d/\∃v10:Option Nat,(∀w',C1 w'->w'.cell? t=some (.map v10))/\∃v11,d.cell? (i.add 6)=some (vi v11)/\∃Y,(∀w',C1 w'->(Instr.lookup 197 (.map v10) (vi v11) false).run prog w'=.ok (vi Y) w')/\zV d (i.add 5)/\¬None (i.add 5).block/\∀p,p=d.setCell (i.add 5) (vi v9)->C1 p/\zV p (i.add 6)/\¬None (i.add 6).block/\∀l,l=p.setCell (i.add 6) (vi Y)->∃Z,l.cell? p2=some (vp Z)/\∃aQ aR aS aT aU aV aW,Row l i (Ab aQ aR aS aT aU aV aW)/\cl 132 #[(vp Z),(.agg #[(vi aQ),(vi aR),(vi aS),(vu aT),(vs aU),(vi aV),(vi aW)])] l fun e g=>∃r4 r5,e=.returned (.tuple #[(vi r4),(vi r5)])/\Kept None l g/\Br (r5 !=0) (∃v14,g.cell? p2=some (vp v14)/\∃U,g.cell? P=some (vi U)/\cl 126 #[(vp v14),(vi U)] g fun e D=>e=.returned (.tuple #[])/\Kept None g D/\zV D f/\¬None f.block/\∀z,z=D.setCell f (vi 0)->zV z c/\¬None c.block/\∀I,I=z.setCell c (vi r5)->Kept A s I/\x (h++[y]) A I) (∃Q:Option Nat,g.cell? t=some (.map Q)/\∃q:World,(Instr.mapUpdate 197 (.map Q) (vi y)<|vi r4).run prog g=.ok () q/\Kept None g q/\Kept A s q/\I1 (h++[y]) A q))/\(∀r a,Hst L r a r a->(∀b,None b->r b)->Kept None n a->I1 F r a->∃N:Option Nat,a.cell? t=some (.map N)/\∃W,(Instr.lookup 197 (.map N) (vi t1) false).run prog a=.ok (vi W) a/\zV a f/\¬r f.block/\∀B,B=a.setCell f (vi W)->zV B c/\¬r c.block/\∀M,M=B.setCell c (vi 0)->∀m,Hst L r M r m->∃aM,m.cell? f=some (vi aM)/\∃aN,m.cell? c=some (vi aN)/\K aM aN m)/\(∀(X:List (Int)) (H2:NP) (k:World),Hst L H2 k H2 k->x X H2 k->∃aO,k.cell? f=some (vi aO)/\∃aP,k.cell? c=some (vi aP)/\K aO aP k)))
def w_B3(p1 aA t1 w0 K)(h:m_B3 p1 aA t1 w0 K):
  cl 69 #[(vp p1),(vp aA),(vi t1)] w0<|XH K:=by
 refine cw (args:=[(vp p1),(vp aA),(vi t1)]) func69 ntmps69 ?_
 have⟨hs,a⟩:=st0 w0
 refine eg (nw2 hs a h xb fun p2 w1 hs a h=>nw2 hs a h xb fun p3 w2 hs a h=>nw2 hs a h (gQ (zeroValue73 _) rfl) fun Y w3 hs a h=>nw2 hs a h (gQ (zeroValue54 _) rfl) fun X w4 hs a h=>ln<|zL<|eg<|ql (isAgg91 _) h fun v1 h=>q2 (vb<|Option.isNone v1) (jMF Kf rfl underlying91)<|ln<|cbr h ?_ ?_)<;>intro h
 refine eg<|st2 (sizeOf73 _) hs a h fun w5 hs a h=>st2 (sizeOf54 _) hs a h fun w6 hs a h=>ln<|er<|jMM ?_
 have⟨aB,hv1,h⟩:=h
 have⟨aC,hv2,h⟩:=h
 refine gg2 results69 (RV.cell1 (A:=Y) Kf (isAgg73 _) hv1) (RV.cell1 (A:=X) Kf (isAgg54 _) hv2) ⟨aB,aC,rfl,h⟩
 refine vB<|uZ<|zL<|eg<|ql (isAgg91 _) h fun v2 h=>q<|sc call130 (h.mono fun e w7 ⟨r1,k,c,h⟩=>have⟨hs,a⟩:=c.hh hs a;⟨_,k,?_⟩)
 refine q (ln<|cbr h ?_ ?_)<;>intro h
 refine eg<|st2 (sizeOf73 _) hs a h fun w8 hs a h=>st2 (sizeOf54 _) hs a h fun w9 hs a h=>ln<|er<|jMM ?_
 have⟨aD,hv3,h⟩:=h
 have⟨aE,hv4,h⟩:=h
 refine gg2 results69 (RV.cell1 (A:=Y) Kf (isAgg73 _) hv3) (RV.cell1 (A:=X) Kf (isAgg54 _) hv4) ⟨aD,aE,rfl,h⟩
 refine vB<|uZ<|eg<|ql (isAgg91 _) h fun v3 h=>qm h fun a1 h=>q<|ql (isAgg158 _) h fun v4 h=>q<|sn (O:=(.cells #[(vi 0)] 3)) (gQ (zeroValue3 _) rfl) ?_
 intro p6 w10 i
 have h:=h p6 w10 i
 have⟨hs,a⟩:=hs.nw a i
 refine st2 (sizeOf3 _) hs a h fun w11 hs a h=>ln<|eg<|nw5 (fun p=>.map<|some p.block) hs a h fun p7 w12 hs a h=>nw2 hs a h (gQ (zeroValue197 _) rfl) fun p8 w13 hs a h=>st2 (sizeOf197 _) hs a h fun w14 hs a h=>ln<|jMH<|rg<|ql (isAgg91 _) h fun v5 h=>q<|sc call131 (h.mono fun e w15 ⟨r2,k,c,h⟩=>have⟨hs,a⟩:=c.hh hs a;⟨_,k,?_⟩)
 refine ln ?_
 have⟨f1,cs1,hv5,hf1,h⟩:=h
 have⟨xs1,Rd1,hit,I1,Ir1,C,h0,m,h⟩:=h
 refine jIM (encs:=(fun(z2:Int)=>#[(vi z2)])) (Eq.trans (b:=r2) Kf hv5) hf1 hit (fun _=>rfl) De hs I1 (fun _ _ _=>False) Ir1 C h0 ?ha ?hr ?ht
 case ha =>
  intro l z2 w34
  refine rg<|q<|ln ⟨rfl,?_⟩
  intro D Y1 A1 hi hY n
  have h:=m D z2 Y1 A1 hi hY n
  have⟨hs,a⟩:=st0 A1
  refine qD<|eg<|ql (isAgg91 _) h fun v6 h=>q<|sc call109 (h.mono fun e w17 ⟨aF,aG,aH,aI,aJ,aK,aL,r3,k,c,h⟩=>have⟨hs,a⟩:=c.hh hs a;⟨_,k,?_⟩)
  refine qc<|nw2 hs a h (gQ (zeroValue119 _) rfl) fun u w18 hs a h=>?_
  have⟨hp8,d,h⟩:=h
  refine ss (xo u (Ab aF aG aH aI aJ aK aL) (sizeOf119 _) hp8) ?_
  intro F W
  have h:=h F W
  have c:Kept None w18 F:=by rw[W];exact Kept.storeRow d
  have⟨hs,a⟩:=c.hh hs a
  refine q<|ln<|zL ?_
  have⟨C1,hC,h⟩:=h
  refine dr2 C1 [9,11] [11] hC h hs a fun w20 hs a h=>?_
  have hs:=hs.here
  refine qg 0 ?_
  have⟨v7,J,h⟩:=h
  refine sye Kp0 (xl (isAgg197 _) J)<|qx 1 (vp<|some<|u.add 5) Kp1<|qg 2 ?_
  have⟨v8,U,h⟩:=h
  refine sye Kp2 (xl (isAgg73 _) U)<|qg 3 ?_
  have⟨v9,x,h⟩:=h
  refine sye (v:=(vi v9)) Kp3 (jHR Kf Kf x)<|qg 4 ?_
  have⟨v10,V,h⟩:=h
  refine sy Kp4 (fun _ k=>xl (isAgg197 _)<|V _ k)<|qx 5 (vp<|some<|u.add 6) Kp5<|qg 6 ?_
  have⟨v11,t,h⟩:=h
  refine sye Kp6 (xl (isAgg73 _) t)<|qg 7 ?_
  have⟨H,I,h⟩:=h
  refine sy (v:=(vi H)) Kp7 (fun w' j=>(jHR Kf Kf<|I w' j))<|qx 8 (vp<|some<|u.add 5) Kp8<|lg 9 ?_
  have⟨hp9,d,h⟩:=h
  refine sl_t Kp9 (xs (v:=(vi v9)) (sizeOf73 _) hp9) ?_
  intro w21 B
  have h:=h w21 B
  refine⟨.inr h.1,?_⟩
  have h:=h.2
  have c:=Kept.sc d B
  have⟨hs,a⟩:=c.hh hs a
  refine qx 10 (vp<|some<|u.add 6) (jAB<|S8<|yY<|yY jAA)<|lg 11 ?_
  have⟨S,d,h⟩:=h
  refine sl_t (jAB<|S8<|yY<|yY<|yY jAA) (xs (v:=(vi H)) (sizeOf73 _) S) ?_
  intro w22 y
  have h:=h w22 y
  refine⟨.inl Kf,?_⟩
  have c:=Kept.sc d y
  have⟨hs,a⟩:=c.hh hs a
  refine wn<|uZ<|eg<|ql (isAgg91 _) h fun v13 h=>?_
  have⟨aQ,aR,aS,aT,aU,aV,aW,P,h⟩:=h
  refine qa (isAgg119 _) (sizeOf119 _) P<|sc call132 (h.mono fun e w23 ⟨r4,r5,k,c,h⟩=>have⟨hs,a⟩:=c.hh hs a;⟨_,k,?_⟩)
  refine q (qd<|ln<|zL<|eg<|qb<|ln<|cbr h ?_ ?_)<;>intro h
  refine eg<|ql (isAgg91 _) h fun v14 h=>ql (isAgg3 _) h fun v15 h=>sc call126 (h.mono fun e w24 ⟨k,c,h⟩=>have⟨hs,a⟩:=c.hh hs a;⟨_,k,?_⟩)
  refine ln<|eg<|q<|st2 (sizeOf73 _) hs a h fun w25 hs a h=>st2 (sizeOf54 _) hs a h fun w26 hs a h=>ln<|er<|jMM<|zBA ?_
  exact rd_r h
  refine vB<|uZ<|rg<|ql (isAgg197 _) h fun v16 h=>qb ?_
  have⟨w27,Z,c,h⟩:=h
  refine jDR (qE rfl) (jIG Kf Kf Kf Z) ?_
  have⟨hs,a⟩:=c.hh hs a
  refine vH<|zBB ?_
  exact rd_n h
 case hr =>
  intro D1 H1 w28 s hD E aX N z
  have hb':=a.behind N aX hD E
  have hs:=s
  have a:=hb'
  have h:=h.1 H1 w28 hs aX N<|z.elim id fun h=>h.elim fun _ h=>h.elim
  refine eg<|ql (isAgg197 _) h fun v17 h=>q ?_
  have⟨v18,T,h⟩:=h
  refine q2 (vi v18) (jHR Kf Kf T)<|st2 (sizeOf73 _) hs a h fun w29 hs a h=>st2 (sizeOf54 _) hs a h fun w30 hs a h=>ln<|er<|af_r a.dead ?_
  intro w31 j
  have hl:=a.leave hs j
  have⟨hs,a⟩:=hl
  -- behind the loop
  have⟨h,hs⟩:=hs.hr<|h w31
  have⟨aM,R,h⟩:=h
  have⟨aN,M,h⟩:=h
  refine gg2 results69 (RV.cell1 (A:=Y) Kf (isAgg73 _) R) (RV.cell1 (A:=X) Kf (isAgg54 _) M) ⟨aM,aN,rfl,h⟩
 case ht =>
  intro D1 G H2 w32 s hD E f
  have g:=s.putD (o:=.deferred none) hD
  have f:=C.r _ _ _ _ _ f g
  have g:=g.here
  have hs:=g
  generalize World.putObj w32 D1 (.deferred none)=w at hs f|-
  have a:=HB.nil H2 w
  have h:=h.2 G H2 w hs f
  have⟨aO,Q,h⟩:=h
  have⟨aP,L,h⟩:=h
  refine gg2 results69 (RV.cell1 (A:=Y) Kf (isAgg73 _) Q) (RV.cell1 (A:=X) Kf (isAgg54 _) L) ⟨aO,aP,rfl,h⟩
def m_Q1_l1(a:Value)(r1:Sl)(d:Int)(b:World)(e:Int->WP)(K:WP):Prop:=Br (decide (d<(r1.len:Int))) (∃a1:Addr,At r1 d 1 a1/\li b a1 fun g=>∃(c:Nat),a=.func (.yield c) #[] #[]/\Yld prog c #[(vi g)] b (XC fun b1 f=>Br (!b1) (K f)<|e (q6.wrap<|d+1) f))<|K b
def m_Q1(a:Value)(e f:Addr)(i:World)(K:WP):Prop:=lp i e fun k=>li i f fun j=>cl 179 #[(vp k),(vi j)] i<|XA fun r1 l=>∃(h:Int->WP) (d:Int->World->Nat),h 0 l/\∀(g:Int) (b:World),h g b->m_Q1_l1 a r1 g b (fun c w'=>h c w'/\d c w'<d g b) K
def w_Q1(yield1 cap1 cap2 w0 K)(h:m_Q1 yield1 cap1 cap2 w0 K):
  cl 178 #[yield1,(vp<|some cap1),(vp<|some cap2)] w0<|fun e w'=>e=.returned (.tuple #[])/\K  w':=by
 refine cw (args:=[yield1,(vp<|some cap1),(vp<|some cap2)]) func178 ntmps178<|eg ?_
 refine ql (isAgg91 _) h fun r h=>ql (isAgg73 _) h fun p h=>sc call179<|h.mono fun e l ⟨r1,k,h⟩=>⟨_,k,?_⟩
 refine qb<|ln<|qD ?_
 have⟨m,b,o,hr⟩:=h
 refine jAW (σ:=Int×World) (fun s ρ w=>w=s.2/\Has ρ [(0,yield1),(8,r1.v),(9,(vi (r1.len:Int))),(10,(vi s.1))]/\m s.1 s.2) (fun s=>b s.1 s.2) (0,l) ⟨rfl,hm,o⟩ ?_
 rintro⟨f,c⟩ ρ w ⟨i,d,g⟩
 dsimp only at i d;subst w
 have h:=hr f c g
 refine yW d (eg<|q<|ln<|zL<|cbr h ?_ ?_)<;>intro h
 refine vB<|uZ<|zL<|qD<|eg<|qi (runUnderlying46 _) (sizeOf73 _) h fun a1 h=>ql (isAgg73 _) h fun t h=>q<|ln<|eg<|qb ?_
 have⟨n,a,h⟩:=h
 refine zBV (qE rfl) Kf a Kf<|h.mono ?_
 rintro e j ⟨b1,rfl,h⟩
 refine⟨_,rfl,?_⟩
 refine q (ln<|cbr h ?_ ?_)<;>intro h
 refine er<|zBA<|jMM<|jMM<|zBA<|res0 (.inl rfl) results178 ⟨rfl,h⟩
 refine vB<|zBB<|uZ<|rg<|qb<|ln ⟨((q6.wrap<|f+1),j),⟨rfl,hm,h.1⟩,h.2⟩
 refine jAX<|jYH<|jYH<|jXK<|res0 (.inr rfl) results178 ⟨rfl,h⟩
end Go.Proofs
end
section
open Go Go.SE List
namespace Go.SE
def Rws.kept{w w' X e sz s rs}(h:Rws w e sz s rs)(d:Kept X w w')(i:∀b,s.blk b->X b):Rws w' e sz s rs:=by
 refine⟨h.each,h.len,?_⟩;rcases h.own with f|⟨g,cur,a,c,r⟩;exact .inl f;exact .inr ⟨g,cur,a,by rw[d.keep g (tM c)<|i g ⟨_,a,rfl⟩];exact c,r⟩
end Go.SE
namespace Go.Proofs
def jWA{L}(c:Wf L){t}(ht:inP L t=true)(n)(st:(Int->Bool)×List Int):(zB<|nodeOf L t).foldl (fun st k=>yT L n k st) st=yT L n (nodeOf L t).b (yT L n (nodeOf L t).a st):=by
 have z:∀st,yT L n 0 st=st:=fun st=>by
  cases n with
  |zero=>rfl
  |succ n=>rw[yT,if_neg<|by simp[inP]]
 have h1:=(c.node ht).2.1;have h2:=(c.node ht).2.2.1;unfold zB;rcases qX (nodeOf L t).kind with e|e|e;rw[e,h1 Om,h2 Om,z,z];rfl;rw[e,h2 Om,z];rfl;rw[e];rfl
end Go.Proofs
namespace Go.Proofs
open Tryz
attribute [local irreducible] Calls
def zGE(M:List Int):List (Int×Unit):=M.map fun t=>(t,())
def zBR(M):(zGE M).map Prod.fst=M:=by simp[zGE,Function.comp_def]
def one1(_:Unit):Value:=vi 1
structure WkAt(w:World)(p c1 c2 c3 c4:Addr)(m:Nat)(so:Sl)(L:Pool)(FP:NP)(st:(Int->Bool)×List Int):Prop where
 b1:Box w c1 [.map<|some m] 231
 b2:Box w c2 [vp<|some p] 91
 b3:Box w c3 [.func (.func 267) #[] #[vp<|some c1,vp<|some c2,vp<|some c3,vp<|some c4]] 192
 b4:Box w c4 [so.v] 46
 mp:∃M,IMap one1 w m (zGE M)/\∀x,st.1 x=decide (x∈M)
 out:Rws w 73 1 so (tmr st.2)
 pool:zD w p L FP
 n4:c4.block≠c1.block/\c4.block≠c2.block/\c4.block≠c3.block/\c4.block≠m
 nm:m≠c1.block/\m≠c2.block/\m≠c3.block
 ns:∀b,so.blk b->b≠c1.block/\b≠c2.block/\b≠c3.block/\b≠c4.block/\b≠m
 nf:∀b,FP b->b≠c4.block/\b≠m/\¬so.blk b
def WkF(c4:Addr)(m:Nat)(so:Sl)(b:Nat):Prop:=b=c4.block\/b=m\/so.blk b
section
variable {w w':World} {p c1 c2 c3 c4:Addr} {m:Nat} {so:Sl} {L:Pool} {FP:NP} {st:(Int->Bool)×List Int}
def WkAt.pure(h:WkAt w p c1 c2 c3 c4 m so L FP st)(E:Pure w w'):WkAt w' p c1 c2 c3 c4 m so L FP st:=
 ⟨h.b1.pure E,h.b2.pure E,h.b3.pure E,h.b4.pure E,let ⟨M,h1,h2⟩:=h.mp;⟨M,h1.pure E,h2⟩,h.out.pure E,h.pool.pure E,h.n4,h.nm,h.ns,h.nf⟩
end
def c_walk(p c1 c2 c3 c4:Addr)(m:Nat){L:Pool}{FP:NP}(Q:Wf L):∀(n:Nat) (t:Int) (q:World) (st:(Int->Bool)×List Int) (so:Sl),t.toNat<n->inP L t=true->WkAt q p c1 c2 c3 c4 m so L FP st->OvOk L st->(∀y,st.1 y=true->y<=t->y∈st.2) ->
  cl 267 #[vi t,vp (some c1),vp (some c2),vp (some c3),vp (some c4)] q (fun e w'=>e=.returned (.tuple #[])/\∃o,WkAt w' p c1 c2 c3 c4 m o L FP (yT L n t st)/\Ext (WkF c4 m so) q w'/\∀b,o.blk b->so.blk b\/q.heap.size<=b):=by
 intro n
 induction n with
 |zero=>intro t q st so h;omega
 |succ n ih =>
 intro t q st so hn G h hst hm
 have hR:=jAC Q (n+1) t st hn hst hm
 suffices key:∀K:WP,(∀o w',WkAt w' p c1 c2 c3 c4 m o L FP (yT L (n+1) t st)->Ext (WkF c4 m so) q w'->(∀b,o.blk b->so.blk b\/q.heap.size<=b)->K w')->m_W1 t c1 c2 c3 c4 q K from
  w_W1 _ _ _ _ _ q _ (key _ Gd)
 intro K O
 unfold m_W1
 have⟨M,hM,hV⟩:=h.mp
 have hz:∀w,(zeroValue 3).run prog w=.ok (vi 0) w:=fun w=>zeroValue3 w
 rcases hM.get underlying231 underlying73 (hz q) t false with⟨Y,hl⟩|⟨u,hyes,hl⟩
 have X:t∉M:=by have:=uS.1 Y;rwa [zBR]at this
 have U:st.1 t=false:=by rw[hV];simpa using X
 rw[yT,if_pos ⟨G,U⟩]at O hR
 refine⟨some m,h.b1.cell0,0,hl,Br.f Sm ?_⟩
 have⟨w1,hu,Z,E⟩:=hM.put (f:=one1) underlying231 underlying73 Y ()
 refine⟨some m,h.b1.cell0,0,hl,w1,by rw[i64 Om Om];exact hu,?_⟩
 have A1:WkAt w1 p c1 c2 c3 c4 m so L FP (updq st.1 t true,st.2):=
  ⟨h.b1.ext E fun e=>h.nm.1 e.symm,h.b2.ext E fun e=>h.nm.2.1 e.symm,h.b3.ext E fun e=>h.nm.2.2 e.symm,h.b4.ext E h.n4.2.2.2,
  ⟨M ++ [t], by rw[show zGE (M ++ [t]) = zGE M ++ [(t, ())] by simp[zGE]]; exact Z, fun x => by
    simp only[updq,mem_append,mem_singleton];by_cases e:x=t;simp[e];rw[if_neg e,hV];simp[e]⟩,
  h.out.ext E fun b d=>(h.ns b d).2.2.2.2,h.pool.ext E fun b d=>(h.nf b d).2.1,h.n4,h.nm,h.ns,h.nf⟩
 refine⟨some p,A1.b2.cell0,?_⟩
 refine(c_kids p t w1 A1.pool Q.ok).mono ?_
 rintro _ w2 ⟨r1,rfl,W,E2⟩
 refine⟨_,rfl,?_⟩
 have A2:=A1.pure E2
 have o1:OvOk L (updq st.1 t true,st.2):=⟨fun y C=>by simp only[updq];split<;>simp[hst.marked y C],hst.closed,hst.nd,hst.inp⟩
 have D:=(Q.node G).2.2.2.2.1
 have hlen:(zB (nodeOf L t)).length<=2:=by rw[zB];simp;omega
 generalize hks0:zB (nodeOf L t)=l at *
 let sj:Nat->(Int->Bool)×List Int:=fun j=>(l.take j).foldl (fun st k=>yT L n k st) (updq st.1 t true,st.2)
 have good:∀j,j<=l.length->OvOk L (sj j)/\∀y,(sj j).1 y=true->y<t->y∈(sj j).2:=by
  intro j;induction j with
  |zero =>
   intro _
   refine⟨o1,fun y C N=>?_⟩
   simp only[sj,take_zero,foldl_nil,updq]at C|-
   rw[if_neg Om]at C
   exact hm y C Om
  |succ j ihj =>
   intro hj
   have⟨g1,g2⟩:=ihj Om
   have hk:=D l[j] (getElem_mem _)
   have hk1:=(zI.1 hk.1).1
   have e:sj (j+1)=yT L n l[j] (sj j):=by simp only[sj];rw[take_succ_eq_append_getElem Om,foldl_append];rfl
   have r:=jAC Q n l[j] (sj j) Om g1 Gd
   rw[e]
   refine⟨r.toOvOk,fun y C N=>?_⟩
   rcases r.back y C with h1|h1
   have⟨M',e',_⟩:=r.app
   rw[e'];exact mem_append_left _ (g2 y h1 N)
   exact h1
 refine⟨fun x A=>∃(j:Nat) (o:Sl),x=j/\j<=l.length/\WkAt A p c1 c2 c3 c4 m o L FP (sj j)/\Ext (WkF c4 m so) w2 A/\∀b,o.blk b->so.blk b\/w2.heap.size<=b,fun x _=>((l.length:Int)-x).toNat,⟨0,so,rfl,Nat.zero_le _,A2,Ext.refl _,fun b d=>.inl d⟩,?_⟩
 rintro _ R ⟨j,s,rfl,hj,g,X3,f3⟩
 unfold m_W1_l1
 have hlen1:r1.len=l.length:=by rw[W.len,zY]
 have hks3:Lst (fun b=>w1.heap.size<=b/\b<w2.heap.size) R 1 r1 (tmr l):=W.ext X3 (fun b d V=>by
  rcases V with V|V|V;have:=A1.b4.lt;omega;have:m<w1.heap.size:=Z.lt;omega;have:=A1.out.lt V;omega)
 have⟨g1,g2⟩:=good j hj
 refine⟨fun B=>?_,fun B=>?_⟩
 have B:j<l.length:=Oh (of_decide_eq_true B)
 have⟨a,hat,_,U⟩:=uQ hks3 B
 refine⟨a,hat,_,U,_,g.b3.cell0,_,_,_,rfl,call267,?_⟩
 have hk:=D l[j] (getElem_mem _)
 have hk1:=(zI.1 hk.1).1
 refine(ih l[j] R (sj j) s Om hk.1 g g1 fun y C hle=>g2 y C Om).mono ?_
 rintro _ w4 ⟨rfl,so4,A4,X4,f4⟩
 refine⟨rfl,⟨j+1,so4,zQ B Om,B,?_,X3.trans' X4 fun i hi d=>?_,fun b d=>?_⟩,?_⟩
 have e:sj (j+1)=yT L n l[j] (sj j):=by simp only[sj];rw[take_succ_eq_append_getElem Om,foldl_append];rfl
 rw[e];exact A4
 rcases d with d|d|d
 exact .inl d
 exact .inr (.inl d)
 exact .inr (.inr ((f3 i d).elim id fun h=>Om))
 rcases f4 b d with h1|h1
 exact f3 b h1
 have:=X3.size;right;omega
 rw[zQ B Om]
 show((l.length:Int)-((j+1:Nat):Int)).toNat<((l.length:Int)-(j:Int)).toNat
 omega
 have B:j=l.length:=Oh (of_decide_eq_false B)
 subst B
 have es:sj l.length=yT L n (nodeOf L t).b (yT L n (nodeOf L t).a (updq st.1 t true,st.2)):=by
  rw[<-jWA Q G,hks0];simp only[sj,take_length]
 simp only at O hR
 rw[<-es]at O hR
 generalize sj l.length=s3 at *
 refine⟨s,g.b4.cell0,?_⟩
 intro p1 w4 h4
 have H:Pure R w4:=Ext.new h4
 have hfew:s3.2.length<=65536:=Oi (xV g1.nd g1.inp) Q.ok.few
 have⟨z,w5,hr5,R5,X5,f5⟩:=(g.out.pure H).append (P:=prog) (ty:=46) (c:=1) jEX (r:=[vi t]) (Box.of_new h4).row rfl rfl (by rw[zY];omega) (by rw[zY];simp[maxLen];omega)
 have b5:=(g.b4.pure H).ext X5 fun d=>(g.ns _ d).2.2.2.1 rfl
 refine⟨z,w5,hr5,b5.canW0 Sm,?_⟩
 intro w6 h6
 have S:Ext (·=c4.block) w5 w6:=by rw[h6];exact Ext.setCell c4 _
 have b6:Box w6 c4 [z.v] 46:=by rw[h6];exact b5.set0
 have z1:=E.size
 have z2:=E2.size
 have z3:=X3.size
 have z4:=H.size
 have f5':∀b,z.blk b->s.blk b\/R.heap.size<=b:=fun b d=>(f5 b d).imp_right fun h=>Om
 have ns':∀b,z.blk b->b≠c1.block/\b≠c2.block/\b≠c3.block/\b≠c4.block/\b≠m:=fun b d=>(f5' b d).elim (g.ns b) (fun hh=>by
  have q1:=g.b1.lt;have q2:=g.b2.lt;have q3:=g.b3.lt;have q4:=g.b4.lt;have q5:m<R.heap.size:=by have⟨M',J,_⟩:=g.mp;exact J.lt
  exact⟨Om,Om,Om,Om,Om⟩)
 have up:∀{T:TypeId} {c:Addr} {vs:List Value},Box R c vs T->¬s.blk c.block->c.block≠c4.block->Box w6 c vs T:=fun h h1 h2=>((h.pure H).ext X5 h1).ext S h2
 refine O z w6 ⟨up g.b1 (fun d=>(g.ns _ d).1 rfl) g.n4.1.symm,up g.b2 (fun d=>(g.ns _ d).2.1 rfl) g.n4.2.1.symm,up g.b3 (fun d=>(g.ns _ d).2.2.1 rfl) g.n4.2.2.1.symm,b6,?_,?_,((g.pool.pure H).ext X5 fun b d=>(g.nf b d).2.2).ext S fun b d e=>(g.nf b d).1 e,g.n4,g.nm,ns',fun b d=>⟨(g.nf b d).1,(g.nf b d).2.1,fun hh=>(f5' b hh).elim (g.nf b d).2.2 fun hh=>Oh (g.pool.lt d)⟩⟩ ?_ ?_
 have⟨M',J,hV'⟩:=g.mp
 exact⟨M',((J.pure H).ext X5 fun d=>(g.ns _ d).2.2.2.2 rfl).ext S g.n4.2.2.2.symm,hV'⟩
 show Rws _ _ _ _ (tmr (s3.2++[t]))
 rw[show tmr (s3.2++[t])=tmr s3.2++[[vi t]] by simp[tmr]]
 exact R5.ext S Gd
 have f33:∀b,s.blk b->b<q.heap.size->so.blk b:=fun b d N=>(f3 b d).elim id fun h2=>Om
 refine(((E.mono fun b _ d=>.inr (.inl d)).thenPure E2).trans X3).trans' ((H.pure (F:=WkF c4 m s)).trans ((X5.mono fun b _ d=>.inr (.inr d)).trans (S.mono fun b _ e=>.inl e))) fun i hi d=>?_
 rcases d with d|d|d
 exact .inl d
 exact .inr (.inl d)
 exact .inr (.inr (f33 i d hi))
 grind
 have I:t∈M:=by have:=tB hyes;simp[zGE]at this;exact this
 have U:st.1 t=true:=by rw[hV];simpa using I
 rw[yT,if_neg (by simp[U])]at O
 refine⟨some m,h.b1.cell0,1,hl,Br.t Sm ?_⟩
 exact O so q h (Ext.refl _) fun b d=>.inl d
def c_subs(p:Addr)(t:Int)(l:World){L:Pool}{FP:NP}(Z:Wf L)(R:zD l p L FP):
  cl 179 #[vp (some p),vi t] l (XA fun r w'=>RetO l 73 1 (tmr (subs L t)) r w'):=by
 refine w_T3 _ _ l _ ?_
 intro H P h1 p3 M h2 G S h3 j z v
 have O:=Box.of_new h1
 have X:=Box.of_new h2
 have J:=IMap.of_new (f:=one1) h3
 have B:=Box.of_new v
 have V:Pure l P:=Ext.new h1
 have D:Pure P M:=Ext.new h2
 have q:Pure M S:=Ext.new h3
 have o:Pure S z:=Ext.new v
 have s1:=h1.at_size;have s2:=h2.at_size;have s3:=h3.at_size;have s4:=v.at_size
 have z1:=V.size;have z2:=D.size;have z3:=q.size;have z4:=o.size
 have l1:=O.lt;have l2:=X.lt;have l3:=J.lt;have l4:=B.lt
 refine⟨B.canW0 Sm,fun C W=>?_⟩
 have s:Ext (·=j.block) z C:=by rw[W];exact Ext.setCell j _
 have u:Box C j [.map (some G.block)] 231:=by rw[W];exact B.set0
 intro g N F
 have E:=Box.of_new F
 have m:Pure C N:=Ext.new F
 have s6:=F.at_size;have z5:=s.size;have z6:=m.size;have l6:=E.lt
 refine⟨E.canW0 Sm,fun k U=>?_⟩
 have n:Ext (·=g.block) N k:=by rw[U];exact Ext.setCell g _
 have w:Box k g [.func (.func 267) #[] #[vp (some j),vp (some H),vp (some g),vp (some p3)]] 192:=by rw[U];exact E.set0
 have z7:=n.size
 have I:Pure l k:=((((((V.trans D).trans q).trans o).own Om s).trans m).own Om n)
 have Q:∀{T:TypeId} {c:Addr} {vs:List Value},Box z c vs T->c.block≠j.block->c.block≠g.block->Box k c vs T:=fun h h1 h2=>((h.ext s h1).pure m).ext n h2
 have e:∀b,¬Sl.nil.blk b:=fun b d=>by have⟨a,h,_⟩:=d;cases h
 have A:WkAt k p j H g p3 G.block Sl.nil L FP (fun _=>false,[]):=
  ⟨(u.pure m).ext n Om,Q (((O.pure D).pure q).pure o) Om Om,w,Q ((X.pure q).pure o) Om Om,
  ⟨[],(((J.pure o).ext s Om).pure m).ext n Om,fun x=>Sm⟩,Rws.nil _ _ _,R.pure I,⟨Om,Om,Om,Om⟩,⟨Om,Om,Om⟩,fun b d=>(e b d).elim,fun b d=>by
   have:=R.lt d;exact⟨Om,Om,e b⟩⟩
 refine⟨some p,A.b2.cell0,?_⟩
 refine(c_in p t k A.pool).mono ?_
 rintro _ _ ⟨r1,rfl,rfl,rfl⟩
 refine⟨_,rfl,fun y=>?_,fun y=>?_⟩
 refine⟨_,A.b3.cell0,_,_,_,rfl,call267,?_⟩
 refine(c_walk p j H g p3 G.block Z (t.toNat+1) t k _ Sl.nil Om y A ⟨Sm,Sm,Sm,Sm⟩ Sm).mono ?_
 rintro _ w8 ⟨rfl,so,K,Y,f8⟩
 refine⟨rfl,so,K.b4.cell0,K.out,fun b d=>?_,I.trans' Y fun i hi d=>?_⟩
 grind
 rcases d with d|d|d
 omega
 omega
 exact e _ d
 have:subs L t=[]:=by
  unfold subs;rw[yT,if_neg (by simp[y])]
 rw[this]
 exact⟨Sl.nil,A.b4.cell0,Rws.nil _ _ _,fun b d=>(e b d).elim,I⟩
def zAX(p t w0):cl 131 #[vp<|some p,vi t] w0 (fun e w'=>∃r:Value,e=.returned r/\∃a p3:Addr,r=.func (.func 178) #[] #[vp<|some a,vp<|some p3]/\Box w' a [vp<|some p] 91/\Box w' p3 [vi t] 73/\Pure w0 w'):=by
 refine w_Q3 _ _ w0 (fun r w'=>∃a p3:Addr,r=.func (.func 178) #[] #[vp<|some a,vp<|some p3]/\Box w' a [vp<|some p] 91/\Box w' p3 [vi t] 73/\Pure w0 w') ?_;intro a b h1 p3 c h2;exact⟨a,p3,rfl,(Box.of_new h1).pure<|Ext.new h2,Box.of_new h2,(show Pure w0 b from Ext.new h1).trans<|Ext.new h2⟩
def jSM{p p2 p3 t w0 L FP}(u:Wf L)(M:zD w0 p L FP)(I:Box w0 p2 [vp<|some p] 91)(N:Box w0 p3 [vi t] 73):
  zBF prog 178 #[vp<|some p2,vp<|some p3] (fun z:Int=>#[vi z]) (subs L t) (fun _=>True) w0:=by
 intro l J G W E _ C D d F
 refine(w_Q1 (.func (.yield l) #[] #[]) p2 p3 W (fun A=>∃X,Hst W X A X A/\(J (subs L t) X A\/∃pre,G pre X A)) ?_).mono fun e A h=>⟨⟨_,h.1⟩,h.2⟩
 refine⟨some p,(I.pure E).cell0,t,(N.pure E).cell0,?_⟩
 refine(c_subs p t W u<|M.pure E).mono ?_
 rintro _ i ⟨r,rfl,hr⟩
 refine⟨_,rfl,?_⟩
 generalize v:subs L t=xs at *
 have B:xs.length<=65536:=by rw[<-v];have:=uH u t;have:=u.ok.few;omega
 have k:Hst W None W (fun b=>W.heap.size<=b/\b<i.heap.size) i:=⟨hr.pure.pure,fun _ h=>h.elim,fun b h=>.inr h.1,fun b h=>h.1,fun b h=>h.2,hr.pure.size⟩
 have K:∀b,r.blk b->W.heap.size<=b/\b<i.heap.size:=fun b w=>⟨hr.own b w,hr.rows.lt w⟩
 refine⟨fun x A=>∃j:Nat,x=j/\j<=xs.length/\Hst W (fun b=>W.heap.size<=b/\b<i.heap.size) A (fun b=>W.heap.size<=b/\b<i.heap.size) A/\J (xs.take j) (fun b=>W.heap.size<=b/\b<i.heap.size) A/\Rws A 73 1 r (tmr xs),fun x _=>((xs.length:Int)-x).toNat,⟨0,rfl,Nat.zero_le _,k.here,C _ _ _ _ _ F k,hr.rows⟩,?_⟩
 rintro _ A ⟨j,rfl,O,o,q,m⟩
 unfold m_Q1_l1
 have y:r.len=xs.length:=by rw[hr.rows.len,zY]
 refine⟨fun c=>?_,fun c=>?_⟩
 have c:j<xs.length:=Oh<|of_decide_eq_true c
 have⟨a,s,_,H⟩:=uQ m.lst c
 refine⟨a,s,_,H,l,rfl,?_⟩
 refine(d (xs.take j) xs[j] _ A q o ⟨xs.drop<|j+1,by rw[<-drop_eq_getElem_cons c,take_append_drop]⟩).mono ?_
 rintro e A' (⟨rfl,n,g⟩|⟨rfl,n,g⟩)
 refine⟨_,rfl,Br.f rfl ⟨⟨j+1,zQ c Om,c,o.again n,by rw[take_succ_eq_append_getElem c];exact g,m.kept n K⟩,?_⟩⟩
 rw[zQ c Om]
 show((xs.length:Int)-((j+1:Nat):Int)).toNat<((xs.length:Int)-(j:Int)).toNat
 omega
 exact⟨_,rfl,Br.t rfl ⟨_,o.again n,.inr ⟨_,g⟩⟩⟩
 grind
end Go.Proofs
end
section
open Go Go.SE List
namespace Go.Proofs
open Tryz
attribute [local irreducible] Calls CallsD
def zBD(a w':World)(bs:List UInt8)(x:Option Addr):Prop:=
 (∀q,(zW bs).1=some q->∃p F,x=some p/\zD w' p q F/\∀b,F b->a.heap.size<=b)/\((zW bs).1=none->x=none)
structure ReAt(c w:World)(q a:Addr)(s:Sl)(bs:List UInt8)(L:Pool)(r:Rd)(m:Nat)(S d F:NP)(f:List Nat)(e:Sl):Prop where
 st:StAt w q a s bs L r m S d F
 pure:Pure c w
 oP:∀b,d b->c.heap.size<=b
 oa:c.heap.size<=a.block
 rows:Rws w 3 1 e (tmr<|f.map Int.ofNat)
 own:∀b,e.blk b->c.heap.size<=b/\¬d b/\b≠a.block/\¬S b/\¬F b/\b≠m
def jWN:∀(l:List Int) (i:Nat) (z:Int),inRow i l=i+l.length->inRow i (l++[z])=if z=((i+l.length:Nat):Int)+1 then i+l.length+1 else i+l.length:=by
 intro l;induction l with
 |nil=>intro i z _;simp only[nil_append,inRow,length_nil,Nat.add_zero]
 |cons s l a =>
  intro i z h
  rw[inRow]at h
  rw[cons_append,inRow]
  split
  grind
  grind
def jWM:∀(l:List Int) (i:Nat) (z:Int) (post:List Int),inRow i l=i+l.length->z≠((i+l.length:Nat):Int)+1->inRow i (l++z ::post)=i+l.length:=by
 intro l;induction l with
 |nil=>intro i z post _ a;simp only[nil_append,inRow,length_nil,Nat.add_zero]at *;rw[if_neg a]
 |cons s l b =>
  intro i z post h a
  rw[inRow]at h
  rw[cons_append,inRow]
  split
  grind
  grind
def c_read{p:NP}(sb:Sl)(bs:List UInt8)(o:World)(hs:Lst p o 1 sb (byr bs))(hz:sb.a=none->sb=Sl.nil):
  cl 135 #[sb.v] o<|XV fun x y z w'=>y=(zW bs).2.1/\z=((zW bs).2.2:Int)/\zBD o w' bs x/\Pure o w':=by
 refine w_P1 sb o _ ?_
 unfold m_P1
 have hl:sb.len=bs.length:=by rw[hs.len,vW]
 have bad:∀(e:Int) (n:Nat) (w':World),zW bs=(none,e,n)->Pure o w'->e=(zW bs).2.1/\(n:Int)=((zW bs).2.2:Int)/\zBD o w' bs none/\Pure o w':=fun e n w' h E=>by
  rw[h];exact⟨rfl,rfl,⟨fun q hq=>(by rw[h]at hq;cases hq),fun _=>rfl⟩,E⟩
 refine⟨fun g=>?_,fun g=>?_⟩
 have g:4096<bs.length:=Oh<|of_decide_eq_true g
 exact bad 1 0 o (by unfold zW;rw[if_pos g])<|Ext.refl _
 have g:bs.length<=4096:=Oh<|of_decide_eq_false g
 refine⟨fun B=>?_,fun B=>?_⟩
 have B:bs.length=0:=Oh<|beq_iff_eq.1 B
 exact bad 3 0 o (by unfold zW;rw[if_neg Om,if_pos B])<|Ext.refl _
 have B:bs.length≠0:=Oh<|beq_eq_false_iff_ne.1 B
 have htxt:zW bs=jLJ bs bs.length [] ⟨0,0,0⟩ []:=by unfold zW;rw[if_neg Om,if_neg B]
 refine(c_New o).mono ?_
 rintro _ w1 ⟨_,rfl,q,rfl,E1,FP0,hP,hFP⟩
 refine⟨_,rfl,E1.keptP,?_⟩
 refine(c_cNew sb bs w1 (hs.pure E1) hz Om).mono ?_
 rintro _ w2 ⟨_,rfl,a,s,rfl,hR,E2,ha,S⟩
 refine⟨_,rfl,E2.keptP,?_⟩
 refine(zAS w2).mono ?_
 rintro _ w3 ⟨_,rfl,m,F,rfl,hK,E3,hm,hF⟩
 refine⟨_,rfl,E3.keptP,?_⟩
 have z1:=E1.size;have z2:=E2.size;have z3:=E3.size
 have la:a.block<w2.heap.size:=hR.box.lt
 have hnil:∀b,¬Sl.nil.blk b:=fun b d=>by have⟨a,h,_⟩:=d;cases h
 have R3:ReAt o w3 q a s bs [] ⟨0,0,0⟩ m s.blk FP0 F [] Sl.nil:=
  ⟨⟨(hP.pure E2).pure E3,hR.pure E3,hK,fun b d=>Oh<|S b d,Om,fun b d=>by have h1:=hP.lt d;exact⟨Om,fun hh=>Oh<|S b hh,fun hh=>Oh<|hF b hh,Om⟩,fun b d=>by have:=hF b d;exact⟨Om,fun hh=>Oh<|S b hh⟩,Om,fun hh=>Oh<|S _ hh⟩,(E1.trans E2).trans E3,hFP,Om,Rws.nil _ _ _,fun b d=>(hnil b d).elim⟩
 refine⟨fun t Hl w=>∃(L:Pool) (r:Rd) (D:List Nat) (C:NP) (n:Nat),Hl=None/\ReAt o w q a s bs L r m s.blk C F D t/\Wf L/\D.length=L.length/\D.length<=r.at_/\r.at_<=bs.length/\r.err=0/\bs.length-r.at_<=n/\jLJ bs n L r D=zW bs,fun t _=>bs.length+1-t.len,⟨[],⟨0,0,0⟩,[],FP0,bs.length,rfl,R3,Wf.nil,rfl,Nat.zero_le _,Nat.zero_le _,rfl,Nat.le_refl _,htxt.symm⟩,?_⟩
 rintro t _ wl _ ⟨L,r,D,C,n,rfl,f,hW,hps,hpr,hra,hre,hn,l⟩
 unfold m_P1_l1
 have hpl:t.len=D.length:=by rw[f.rows.len,zY,length_map]
 refine(c_Left a s bs r wl f.st.rd hra).mono ?_
 rintro _ w4 ⟨_,rfl,rfl,E4⟩
 refine⟨_,rfl,E4.keptP,fun Z=>?_,fun Z=>?_⟩
 have U:r.at_<bs.length:=Oh<|of_decide_eq_true Z
 obtain⟨n,rfl⟩:∃k,n=k+1:=⟨n-1,Om⟩
 rw[jLJ,if_pos U]at l
 have S4:=f.st.pure E4
 refine(c_At a s bs r w4 S4.rd).mono ?_
 rintro _ _ ⟨_,rfl,rfl,rfl⟩
 refine⟨_,rfl,Kept.refl _,?_⟩
 refine(zAG q a s bs r m S4 hW.ok U hre).mono ?_
 rintro _ w6 ⟨_,rfl,rfl,F',hP6,hR6,E6,hF6⟩
 have z4:=E4.size;have z6:=E6.size
 have E06:Pure o w6:=(f.pure.trans E4).trans' E6 fun i hi hh=>hh.elim (fun hh=>Oh<|f.oP i hh) Gd
 refine⟨_,rfl,E6.kept fun b d=>d.elim,fun hc4=>?_,fun hc4=>?_⟩
 grind
 have h0:(vN bs L r).2.1=0:=by simpa using hc4
 rw[if_neg<|by simpa using h0]at l
 have⟨a1,a2,a3⟩:=jJK bs L r U hre h0
 have hw6:Wf (vN bs L r).1/\(vN bs L r).1.length=L.length+1:=by
  rw[jAI bs L r U hre]at h0|-;split at h0;rename_i hk;rw[if_pos hk];have⟨_,_,e3,e4,e5⟩:=jJM h0;rw[e5];simp only;refine⟨uM hW _,?_⟩;have g:=(xD e4).2.2;unfold make at e4|-;simp only[e3]at e4|-;rw[if_neg (by rw[g];simp)]at e4|-;split at e4;simp at e4;grind;simp at h0
 intro p1 w7 n7
 have E7:Pure w6 w7:=Ext.new n7
 have z7:=E7.size
 have R7:Rws w7 3 1 t (tmr<|D.map Int.ofNat):=((f.rows.pure E4).ext E6 fun b d hh=>hh.elim (f.own b d).2.1 (f.own b d).2.2.1).pure E7
 have⟨s1,w8,hr8,hR8,I,hb8⟩:=R7.append (P:=prog) (ty:=42) (c:=1) jDS (Box.of_newA n7).row rfl rfl (by rw[zY,length_map];omega) (by rw[zY,length_map];simp only[maxLen];omega)
 have hpw:∀b,t.blk b->b<wl.heap.size:=fun b d=>f.rows.lt d
 have z8:=I.size
 have E08:Pure o w8:=(E06.trans E7).trans' I fun i hi hh=>Oh<|(f.own i hh).1
 have W:∀b,F' b->¬t.blk b:=fun b d hh=>(hF6 b d).elim (fun h=>(f.own b hh).2.1 h) Gd
 have p:=S4
 have S8:StAt w8 q a s bs (vN bs L r).1 (vN bs L r).2.2 m s.blk F' F:=by
  refine⟨(hP6.pure E7).ext I W,(hR6.pure E7).ext I (fun b d hh=>(f.own b hh).2.2.2.1 d) fun hh=>(f.own _ hh).2.2.1 rfl,((p.kinds.ext E6 fun b d hh=>?_).pure E7).ext I fun b d hh=>?_,fun b d=>Oh<|p.lS b d,Oh p.la,fun b d=>?_,p.dF,p.dm⟩;rcases d with d|rfl;exact hh.elim (fun hh=>(p.dP b hh).2.2.1 d) fun hh=>(p.dF b d).1 hh;exact hh.elim (fun hh=>(p.dP _ hh).2.2.2 rfl) fun hh=>p.dm.1 hh;rcases d with d|rfl;exact(f.own b hh).2.2.2.2.1 d;exact(f.own _ hh).2.2.2.2.2 rfl;rcases hF6 b d with h|h;exact p.dP b h;exact⟨Oh p.la,fun hh=>Oh<|p.lS b hh,fun hh=>Oh<|p.kinds.lt b hh,Oh p.kinds.mlt⟩
 refine⟨s1,w8,hr8,I.kept fun b d=>d.elim,⟨(vN bs L r).1,(vN bs L r).2.2,D++[r.at_],F',n,rfl,⟨S8,E08,fun b d=>(hF6 b d).elim (f.oP b) fun h=>Oh f.pure.size,f.oa,?_,fun b d=>?_⟩,hw6.1,by rw[length_append,length_singleton,hw6.2];omega,by rw[length_append,length_singleton];omega,a2,a3,Om,l⟩,?_⟩
 have:tmr ((D++[r.at_]).map Int.ofNat)=tmr (D.map Int.ofNat)++[[vi (r.at_:Int)]]:=by simp[tmr]
 rw[this];exact hR8
 rcases hb8 b d with h|h
 have:=f.own b h
 exact⟨this.1,fun hh=>W b hh h,this.2.2⟩
 have h1:=f.pure.size
 exact⟨Om,fun hh=>Oh<|hP6.lt hh,Oh p.la,fun hh=>Oh<|p.lS b hh,fun hh=>Oh<|p.kinds.lt b hh,Oh p.kinds.mlt⟩
 have h1:s1.len=D.length+1:=by rw[hR8.len,length_append,zY,length_map];rfl
 show bs.length+1-s1.len<bs.length+1-t.len
 omega
 have hge:¬r.at_<bs.length:=Oh<|of_decide_eq_false Z
 rw[jHV hge]at l
 intro u w9 n9
 have E9:Pure w4 w9:=Ext.new n9
 have B9:=Box.of_newA n9
 have b9:=n9.at_size
 refine⟨B9.canW0 Sm,id,?_⟩
 rintro J e10
 have X10:Ext (·=u.block) w9 J:=by rw[e10];exact Ext.setCell _ _
 have B10:Box J u [vi 0] 3:=by rw[e10];exact B9.set0
 have z4:=E4.size;have z9:=E9.size;have z10:=X10.size
 have E4':Pure wl J:=(E4.trans E9).own Om X10
 have zw:=f.pure.size
 have P10:=f.st.pool.pure E4'
 have R10:=f.rows.pure E4'
 refine(jGM q J P10).mono ?_
 rintro _ J ⟨_,rfl,rfl,rfl⟩
 refine⟨_,rfl,Kept.refl _,?_⟩
 refine(zAX q L.length J).mono ?_
 rintro _ w12 ⟨_,rfl,q2,q3,rfl,Bq2,Bq3,G⟩
 have z12:=G.size
 refine⟨_,rfl,G.keptP,_,_,rfl,call178,_,_,jSM hW (P10.pure G) Bq2 Bq3,?_⟩
 have hfew:=uH hW L.length
 have hlf:=hW.ok.few
 unfold jDX at l
 simp only at l
 generalize hxs:subs L L.length=xs at *
 have E012:Pure o w12:=(f.pure.trans E4').trans G
 have vb:∀b,(b=u.block\/C b\/t.blk b)->o.heap.size<=b:=fun b d=>d.elim (fun h=>Om) fun d=>d.elim (f.oP b) fun h=>(f.own b h).1
 have dP2:¬C u.block/\¬t.blk u.block:=⟨fun hh=>Oh<|f.st.pool.lt hh,fun hh=>Oh<|f.rows.lt hh⟩
 refine⟨fun pre Y A=>Box A u [vi (pre.length:Int)] 3/\inRow 0 pre=pre.length/\zD A q L C/\Rws A 3 1 t (tmr<|D.map Int.ofNat)/\(∀b,(b=u.block\/C b\/t.blk b)->¬Y b)/\Pure o A,
  fun pre Y A=>Box A u [vi (inRow 0 xs:Int)] 3/\zD A q L C/\Rws A 3 1 t (tmr<|D.map Int.ofNat)/\(∀b,(b=u.block\/C b\/t.blk b)->¬Y b)/\Pure o A,⟨fun _ _ _ _=>trivial,?_,?_,fun _ _ _ _ _ h=>h.elim⟩,?_,?_,?_⟩
 rintro pre Y A Y' A' ⟨H,g2,O,N,X,Q⟩ hst
 have hv:∀b,(b=u.block\/C b\/t.blk b)->¬Y' b:=hst.disj fun b d=>⟨d.elim (fun e=>e▸H.lt) fun d=>d.elim (fun h=>O.lt h) fun h=>N.lt h,X b d⟩
 exact⟨H.ext hst.ext<|hv _<|.inl rfl,g2,O.ext hst.ext Gd,N.ext hst.ext Gd,hv,Q.hst hst⟩
 rintro pre Y A Y' A' ⟨H,O,N,X,Q⟩ hst
 have hv:∀b,(b=u.block\/C b\/t.blk b)->¬Y' b:=hst.disj fun b d=>⟨d.elim (fun e=>e▸H.lt) fun d=>d.elim (fun h=>O.lt h) fun h=>N.lt h,X b d⟩
 exact⟨H.ext hst.ext<|hv _<|.inl rfl,O.ext hst.ext fun b d=>hv b<|.inr<|.inl d,N.ext hst.ext fun b d=>hv b<|.inr<|.inr d,hv,Q.hst hst⟩
 exact⟨B10.pure G,rfl,P10.pure G,R10.pure G,fun _ _ h=>h,E012⟩
 rintro pre z Y A ⟨H,g2,O,N,X,Q⟩ hsA ⟨post,M⟩
 have hpl2:pre.length<65536:=by have:=congrArg List.length M;simp only[length_append,length_cons]at this;omega
 have hw:IntKind.i64.wrap ((pre.length:Int)+1)=((pre.length+1:Nat):Int):=zQ (n:=pre.length+1) Om Om
 refine⟨_,H.cell0,fun g=>?_,fun g=>?_⟩
 have g:z≠((pre.length+1:Nat):Int):=by rw[hw]at g;exact bne_iff_ne.1 g
 have hst:=jWM pre 0 z post Om Om
 rw[<-M,Nat.zero_add]at hst
 exact⟨Kept.refl _,by rw[hst];exact H,O,N,X,Q⟩
 have g:z=((pre.length+1:Nat):Int):=by rw[hw]at g;simpa using g
 have hsn:=jWN pre 0 z Om
 rw[if_pos Om]at hsn
 refine⟨_,H.cell0,H.canW0 Sm,id,?_⟩
 rintro w13 e13
 have T:Ext (·=u.block) A w13:=by rw[e13];exact Ext.setCell _ _
 have B13:Box w13 u [vi ((pre++[z]).length:Int)] 3:=by
  rw[e13,length_append,length_singleton,<-hw];exact H.set0
 exact⟨T.kept Gd,B13,by rw[hsn,length_append,length_singleton];omega,O.ext T fun b d e=>dP2.1<|e▸d,N.ext T fun b d e=>dP2.2<|e▸d,X,Q.trans' T fun i hi e=>Om⟩
 rintro H1 R hs14 _ _ hI
 have hI:Box R u [vi (inRow 0 xs:Int)] 3/\zD R q L C/\Rws R 3 1 t (tmr<|D.map Int.ofNat)/\(∀b,(b=u.block\/C b\/t.blk b)->¬H1 b)/\Pure o R:=Gd
 have⟨H,O,N,X,Q⟩:=hI
 refine⟨_,H.cell0,fun g=>?_,fun g=>?_⟩
 have g:=vR hpl g
 rw[dif_pos g]at l
 intro w15 K
 have hv15:∀b,(b=u.block\/C b\/t.blk b)->¬H1 b:=X
 have g1':=H.ext K.ext<|hv15 _<|.inl rfl
 have g4':=N.ext K.ext Gd
 have⟨a1,hat,_,hv5⟩:=uQ g4'.lst (j:=inRow 0 xs) (by simpa using g)
 refine⟨_,g1'.cell0,a1,hat,_,hv5,fun w16 hs16=>?_⟩
 have:=bad _ _ w16 l.symm<|(Q.hst K).hst hs16
 rw[getElem_map]
 exact this
 have g:¬inRow 0 xs<D.length:=Oh<|of_decide_eq_false g
 rw[dif_neg g]at l
 intro w17 V
 have hF17:zD w17 q L C:=O.ext V.ext Gd
 rw[<-l]
 exact⟨rfl,rfl,⟨fun q' hq'=>by rw[<-l]at hq';cases hq';exact⟨q,C,rfl,hF17,f.oP⟩,fun hn=>by rw[<-l]at hn;cases hn⟩,Q.hst V⟩
def zBD.pool{w0 w' bs x}(h:zBD w0 w' bs x){q}(a:(zW bs).1=some q):∃p F,x=some p/\zD w' p q F/\∀b,F b->w0.heap.size<=b:=h.1 q a
end Go.Proofs
end
section
open Go Go.SE
namespace Go.Proofs
def jLX(Lq):∀(c d:List Int) (L:Pool) (own:Int->Int),zS Lq (c++d) L own=if(zS Lq c L own).2.1≠0 then zS Lq c L own else zS Lq d (zS Lq c L own).1 (zS Lq c L own).2.2:=by
 intro c;induction c with
 |nil=>intro d L own;rw[List.nil_append];exact(if_neg fun h=>h rfl).symm
 |cons z c g =>
  intro d L own
  obtain⟨x,e,f,hm⟩:∃x e f,make L { nodeOf Lq z with a:=own (nodeOf Lq z).a,b:=own (nodeOf Lq z).b }=(x,e,f):=⟨_,_,_,rfl⟩
  rw[List.cons_append,qA Lq z (c++d) L own rfl hm,qA Lq z c L own rfl hm]
  by_cases i:e≠0
  grind
  grind
def jCG(Lq):∀(l:List Int) (L:Pool) (own:Int->Int),∃M,(zS Lq l L own).1=L++M:=by
 intro l;induction l with
 |nil=>intro L own;exact⟨[],(List.append_nil L).symm⟩
 |cons z l i =>
  intro L own
  obtain⟨x,e,d,hm⟩:∃x e d,make L { nodeOf Lq z with a:=own (nodeOf Lq z).a,b:=own (nodeOf Lq z).b }=(x,e,d):=⟨_,_,_,rfl⟩
  rw[qA Lq z l L own rfl hm]
  split
  exact⟨[],Sm⟩
  have⟨g,c⟩:=yO L { nodeOf Lq z with a:=own (nodeOf Lq z).a,b:=own (nodeOf Lq z).b }
  rw[hm]at c
  have⟨h,f⟩:=i d fun y=>if y=z then x else own y
  simp only at c
  exact⟨g++h,by rw[f,c,List.append_assoc]⟩
def jPW{Lq}:∀(l:List Int) (L:Pool) (own:Int->Int),Wf L->Wf (zS Lq l L own).1:=by
 intro l;induction l with
 |nil=>intro L own h;exact h
 |cons z l f =>
  intro L own h
  obtain⟨x,e,d,hm⟩:∃x e d,make L { nodeOf Lq z with a:=own (nodeOf Lq z).a,b:=own (nodeOf Lq z).b }=(x,e,d):=⟨_,_,_,rfl⟩
  have c:=uM h { nodeOf Lq z with a:=own (nodeOf Lq z).a,b:=own (nodeOf Lq z).b }
  rw[qA Lq z l L own rfl hm]
  rw[hm]at c
  split
  exact h
  exact f _ _ c
def jKI{Lq l post z L}{own:Int->Int}(g:(zS Lq l L own).2.1=0){n}(f:{ nodeOf Lq z with a:=(zS Lq l L own).2.2 (nodeOf Lq z).a,b:=(zS Lq l L own).2.2 (nodeOf Lq z).b }=n)(c:(make (zS Lq l L own).1 n).2.1≠0):
  (zS Lq (l++z ::post) L own).2.1=(make (zS Lq l L own).1 n).2.1:=by
 obtain⟨x,e,d,hm⟩:∃x e d,make (zS Lq l L own).1 n=(x,e,d):=⟨_,_,_,rfl⟩
 rw[hm]at c|-
 rw[jLX,if_neg Gd,qA Lq z post _ _ f hm,if_pos c]
def jKH{Lq l z L}{own:Int->Int}(g:(zS Lq l L own).2.1=0){n}(f:{ nodeOf Lq z with a:=(zS Lq l L own).2.2 (nodeOf Lq z).a,b:=(zS Lq l L own).2.2 (nodeOf Lq z).b }=n)(c:(make (zS Lq l L own).1 n).2.1=0):
  zS Lq (l++[z]) L own=((make (zS Lq l L own).1 n).2.2,0,fun x=>if x=z then(make (zS Lq l L own).1 n).1 else(zS Lq l L own).2.2 x):=by
 obtain⟨x,e,d,hm⟩:∃x e d,make (zS Lq l L own).1 n=(x,e,d):=⟨_,_,_,rfl⟩
 rw[hm]at c|-
 rw[jLX,if_neg Gd,qA Lq z [] _ _ f hm,if_neg fun h=>h c]
 rfl
end Go.Proofs
namespace Go.Proofs
open Tryz
attribute [local irreducible] Calls CallsD
def jUP{w:World}{a:Addr}{k:Nat}{v:Value}:Ext (·=a.block) w (w.setCell (a.add k) v):=(Ext.setCell _ _).mono (fun i _ e=>by rw[zG]at e;exact e)
def ownM(M:List (Int×Int))(x:Int):Int:=(SE.look M x).getD 0
def CoV(c p3 d f a g:Addr)(e:Nat)(F' FQ:NP)(b:Nat):Prop:=b=c.block\/b=p3.block\/b=d.block\/b=f.block\/b=a.block\/b=g.block\/b=e\/F' b\/FQ b
structure CoB(A:World)(p q b p3 c e a f:Addr)(d n:Nat):Prop where
 b2:Box A b [vp<|some p] 91
 b3:Box A p3 [vp<|some q] 91
 b4:Box A c [vi 0] 73
 b5:Box A e [vi 0] 54
 b6:Box A a [vi (n:Int)] 3
 b8:Box A f [.map<|some d] 197
def CoB.ext{A A':World}{p q d p3 e f c g:Addr}{i n:Nat}{F' FQ G:NP}(h:CoB A p q d p3 e f c g i n)(E:Ext G A A')(a:∀b,(b=d.block\/b=p3.block\/b=e.block\/b=f.block\/b=c.block\/b=g.block)->¬G b):CoB A' p q d p3 e f c g i n:=
 ⟨h.b2.ext E<|a _<|.inl rfl,h.b3.ext E<|a _<|.inr<|.inl rfl,h.b4.ext E<|a _<|.inr<|.inr<|.inl rfl,h.b5.ext E<|a _<|.inr<|.inr<|.inr<|.inl rfl,h.b6.ext E<|a _<|.inr<|.inr<|.inr<|.inr<|.inl rfl,h.b8.ext E<|a _<|.inr<|.inr<|.inr<|.inr<|.inr rfl⟩
def CoB.pure{A A':World}{p q b p3 c e a f:Addr}{d n:Nat}(h:CoB A p q b p3 c e a f d n)(E:Pure A A'):CoB A' p q b p3 c e a f d n:=h.ext (F':=None) (FQ:=None) E fun _ _ h=>h
def CoB.lt{A p q p2 p3 p4 p5 p6 p8 mb n b}(h:CoB A p q p2 p3 p4 p5 p6 p8 mb n)(a:b=p2.block\/b=p3.block\/b=p4.block\/b=p5.block\/b=p6.block\/b=p8.block):b<A.heap.size:=by
 rcases a with rfl|rfl|rfl|rfl|rfl|rfl;exact h.b2.lt;exact h.b3.lt;exact h.b4.lt;exact h.b5.lt;exact h.b6.lt;exact h.b8.lt
def zFR(p q:Addr)(t:Int)(n:World){L Lq:Pool}{Z FQ:NP}(hW:Wf L)(hQ:Wf Lq)(hP:zD n p L Z)(hPQ:zD n q Lq FQ)(hd:∀b,Z b->¬ FQ b):
  cl 69 #[vp<|some p,vp<|some q,vi t] n<|XH fun r1 r2 w'=>r1=(vD L Lq t).1/\r2=(vD L Lq t).2.1/\∃F',zD w' p (vD L Lq t).2.2 F'/\Ext Z n w'/\∀b,F' b->Z b\/n.heap.size<=b:=by
 refine w_B3 _ _ _ n _ ?_
 intro U w1 n2 p3 w2 n3 l w3 n4 j w4 n5
 have E1:Pure n w1:=Ext.new n2
 have E2:Pure w1 w2:=Ext.new n3
 have E3:Pure w2 w3:=Ext.new n4
 have E4:Pure w3 w4:=Ext.new n5
 have B2:=(((Box.of_newA n2).pure E2).pure E3).pure E4
 have B3:=((Box.of_newA n3).pure E3).pure E4
 have B4:=(Box.of_newA n4).pure E4
 have B5:=Box.of_newA n5
 have b2:=n2.at_size;have b3:=n3.at_size;have b4:=n4.at_size;have b5:=n5.at_size
 have z1:=E1.size;have z2:=E2.size;have z3:=E3.size;have z4:=E4.size
 have l1:=(Box.of_newA n2).lt;have l2:=(Box.of_newA n3).lt;have l3:=(Box.of_newA n4).lt;have l4:=B5.lt
 have E04:Pure n w4:=((E1.trans E2).trans E3).trans E4
 refine⟨some p,B2.cell0,fun hc=>(by cases hc),fun _=>⟨some q,B3.cell0,?_⟩⟩
 refine(c_in q t w4<|hPQ.pure E04).mono ?_
 rintro _ _ ⟨_,rfl,rfl,rfl⟩
 refine⟨_,rfl,Kept.refl _,fun hc=>?_,fun hc=>?_⟩
 have hin:inP Lq t=false:=by simpa using hc
 have e:vD L Lq t=(0,51,L):=by unfold vD;rw[if_neg (by rw[hin];simp)]
 rw[e]
 refine⟨B4.canW0 Sm,id,?_⟩
 rintro w8 e8
 have X8:Ext (·=l.block) w4 w8:=by rw[e8];exact Ext.setCell _ _
 have B48:Box w8 l [vi 0] 73:=by rw[e8];exact B4.set0
 have B58:=B5.ext X8 Om
 refine⟨B58.canW0 Sm,id,?_⟩
 rintro w9 e9
 have X9:Ext (·=j.block) w8 w9:=by rw[e9];exact Ext.setCell _ _
 have B59:Box w9 j [vi 51] 54:=by rw[e9];exact B58.set0
 have B49:=B48.ext X9 Om
 refine⟨_,B49.cell0,_,B59.cell0,rfl,rfl,Z,((hP.pure E04).ext X8 fun b d e=>Oh<|hP.lt d).ext X9 fun b d e=>Oh<|hP.lt d,Ext.pure<|(E04.own Om X8).own Om X9,fun b d=>.inl d⟩
 have hin:inP Lq t=true:=by simpa using hc
 obtain⟨sl,hsl,hsll⟩:∃v4:Sl,w4.cell? p=some v4.v/\v4.len=L.length:=by
  have⟨s,m,h,_⟩:=hP.pure E04;exact⟨s,h.box.cell0,by rw[h.rows.len,List.length_map]⟩
 refine⟨some p,B2.cell0,p,rfl,sl,hsl,?_⟩
 rw[hsll]
 intro D w10 n6
 have E10:Pure w4 w10:=Ext.new n6
 have B6:=Box.of_newA n6
 have b6:=n6.at_size
 refine⟨B6.canW0 Sm,id,?_⟩
 rintro w11 e11
 have X11:Ext (·=D.block) w10 w11:=by rw[e11];exact Ext.setCell _ _
 have B6':Box w11 D [vi (L.length:Int)] 3:=by rw[e11];exact B6.set0
 intro p7 w12 n7
 have E12:Pure w11 w12:=Ext.new n7
 have M7:=IMap.of_new (f:=fun i:Int=>vi i) n7
 have b7:=n7.at_size
 intro C w13 n8
 have V:Pure w12 w13:=Ext.new n8
 have B8:=Box.of_newA n8
 have b8:=n8.at_size
 refine⟨B8.canW0 Sm,id,?_⟩
 rintro R e14
 have O:Ext (·=C.block) w13 R:=by rw[e14];exact Ext.setCell _ _
 have B8':Box R C [.map<|some p7.block] 197:=by rw[e14];exact B8.set0
 have z10:=E10.size;have z11:=X11.size;have z12:=E12.size;have z13:=V.size;have z14:=O.size
 have l6:=B6'.lt;have l7:=M7.lt;have l8:=B8.lt
 have E07:Pure n R:=((((E04.trans E10).own Om X11).trans E12).trans V).own Om O
 have up:∀{T:TypeId} {c:Addr} {vs:List Value},Box w4 c vs T->c.block≠D.block->c.block≠C.block->Box R c vs T:=fun h h1 h2=>((((h.pure E10).ext X11 h1).pure E12).pure V).ext O h2
 have C14:CoB R p q U p3 l j D C p7.block L.length:=⟨up B2 Om Om,up B3 Om Om,up B4 Om Om,up B5 Om Om,((B6'.pure E12).pure V).ext O Om,B8'⟩
 have M14:=(M7.pure V).ext O Om
 refine⟨some q,C14.b3.cell0,?_⟩
 refine(zAX q t R).mono ?_
 rintro _ w15 ⟨_,rfl,q2,q3,rfl,Bq2,Bq3,E15⟩
 have E015:=E07.trans E15
 have z15:=E15.size
 refine⟨_,rfl,E15.keptP,_,_,rfl,call178,_,_,jSM hQ (hPQ.pure E015) Bq2 Bq3,?_⟩
 have hfew:=uH hQ t
 have hlq:=hQ.ok.few
 have hsub:∀u∈subs Lq t,inP Lq u=true:=fun u hu=>uU hQ hu
 have hnd:=jAG hQ t
 generalize hcs:vD L Lq t=cs at *
 have hcs':cs=if(zS Lq (subs Lq t) L fun _=>0).2.1≠0 then(0,(zS Lq (subs Lq t) L fun _=>0).2.1,L)else((zS Lq (subs Lq t) L fun _=>0).2.2 t,0,(zS Lq (subs Lq t) L fun _=>0).1):=by rw[<-hcs];unfold vD;rw[if_pos hin]
 have htin:t∈subs Lq t:=jHT hQ hin
 generalize subs Lq t=xs at *
 have C15:=C14.pure E15
 have M15:=M14.pure E15
 have o2:n.heap.size<=U.block:=Om
 have o3:n.heap.size<=p3.block:=Om
 have o4:n.heap.size<=l.block:=Om
 have o5:n.heap.size<=j.block:=Om
 have o6:n.heap.size<=D.block:=Om
 have o8:n.heap.size<=C.block:=Om
 have om:n.heap.size<=p7.block:=Om
 have d45:l.block≠j.block:=Om
 have dm:∀b,(b=U.block\/b=p3.block\/b=l.block\/b=j.block\/b=D.block\/b=C.block)->b≠p7.block:=fun b d=>by rcases d with rfl|rfl|rfl|rfl|rfl|rfl<;>omega
 have ob:∀b,(b=U.block\/b=p3.block\/b=l.block\/b=j.block\/b=D.block\/b=C.block\/b=p7.block)->n.heap.size<=b/\b<w15.heap.size:=fun b d=>by rcases d with rfl|rfl|rfl|rfl|rfl|rfl|rfl<;>omega
 generalize p7.block=o at *
 clear up B2 B3 B4 B5 B6 B6' B8 B8' M7 M14 C14 n2 n3 n4 n5 n6 n7 n8 X11 O E10 E12 V e11 e14 Bq2 Bq3 hsl
 have hPq:∀b,FQ b->b<n.heap.size:=fun b d=>hPQ.lt d
 refine⟨fun pre Y A=>∃(F':NP) (M:List (Int×Int)),(zS Lq pre L fun _=>0).2.1=0/\zD A p (zS Lq pre L fun _=>0).1 F'/\IMap (fun i:Int=>vi i) A o M/\M.map Prod.fst=pre/\(∀x,(zS Lq pre L fun _=>0).2.2 x=ownM M x)/\CoB A p q U p3 l j D C o L.length/\zD A q Lq FQ/\(∀b,F' b->Z b\/(n.heap.size<=b/\¬(b=U.block\/b=p3.block\/b=l.block\/b=j.block\/b=D.block\/b=C.block\/b=o)))/\(∀b,CoV U p3 l j D C o F' FQ b->¬Y b)/\Ext Z n A/\w15.heap.size<=A.heap.size,
  fun pre Y A=>∃(F':NP) (e:Int),cs=(0,e,L)/\zD A p L F'/\Box A l [vi 0] 73/\Box A j [vi e] 54/\(∀b,F' b->Z b\/n.heap.size<=b)/\(∀b,(b=l.block\/b=j.block\/F' b)->¬Y b)/\Ext Z n A,⟨fun _ _ _ _=>trivial,?_,fun _ _ _ _ _ h=>h.elim,?_⟩,?_,?_,?_,?_⟩
 rintro pre Y A Y' A' ⟨F',M,g1,W,X,g4,g5,F,g7,g8,B,Q,g11⟩ hst
 have J:∀b,CoV U p3 l j D C o F' FQ b->¬Y' b:=hst.disj (fun b d=>⟨by
  rcases d with d|d|d|d|d|d|d|d|d;exact F.lt<|.inl d;exact F.lt<|.inr<|.inl d;exact F.lt<|.inr<|.inr<|.inl d;grind;grind;grind;exact d▸X.lt;exact W.lt d;exact g7.lt d,B b d⟩)
 exact⟨F',M,g1,W.ext hst.ext fun b d=>J b<|.inr<|.inr<|.inr<|.inr<|.inr<|.inr<|.inr<|.inl d,X.ext hst.ext<|J _<|.inr<|.inr<|.inr<|.inr<|.inr<|.inr<|.inl rfl,g4,g5,F.ext (F':=F') (FQ:=FQ) hst.ext fun b d=>J b (by rcases d with h|h|h|h|h|h<;>simp only[CoV,h,true_or,or_true]),g7.ext hst.ext fun b d=>J b<|.inr<|.inr<|.inr<|.inr<|.inr<|.inr<|.inr<|.inr d,g8,J,Q.hst hst,Nat.le_trans g11 hst.ext.size⟩
 rintro pre Y A Y' A' ⟨F',e,g1,W,X,g4,g5,F,g7⟩ hst
 have J:∀b,(b=l.block\/b=j.block\/F' b)->¬Y' b:=hst.disj (fun b d=>⟨by
  rcases d with d|d|d;exact d▸X.lt;exact d▸g4.lt;exact W.lt d,F b d⟩)
 exact⟨F',e,g1,W.ext hst.ext fun b d=>J b<|.inr<|.inr d,X.ext hst.ext<|J _<|.inl rfl,g4.ext hst.ext<|J _<|.inr<|.inl rfl,g5,J,g7.hst hst⟩
 exact⟨Z,[],rfl,hP.pure E015,M15,rfl,fun _=>rfl,C15,hPQ.pure E015,fun b d=>.inl d,fun _ _ h=>h,Ext.pure E015,Nat.le_refl _⟩
 rintro pre z Y A ⟨F',M,g1,W,X,g4,g5,F,g7,g8,B,Q,g11⟩ hsA ⟨post,hpost⟩
 have hzin:inP Lq z=true:=hsub z (by rw[hpost];simp)
 have hzn:z∉pre:=Gd
 generalize r:zS Lq pre L (fun _=>0)=g at *
 have hok:Ok g.1:=by rw[<-r];exact(jPW pre L _ hW).ok
 have hA0:=hsA.lt
 refine⟨some q,F.b3.cell0,?_⟩
 refine(jDK q z A g7 hQ.ok).mono ?_
 rintro _ w16 ⟨k,f,t',u,x,a,b,r3,rfl,⟨hn,_⟩,E16⟩
 have z16:=E16.size
 refine⟨_,_,_,_,_,_,_,_,rfl,E16.kept fun b d=>d.elim,?_⟩
 intro p9 w17 n9
 have E17:Pure w16 w17:=Ext.new n9
 have B9:=Box.of_newA n9
 have b9:=n9.at_size
 have z17:=E17.size
 refine⟨B9.canWs Sm,id,?_⟩
 rintro S e18
 have X18:Ext (·=p9.block) w17 S:=by rw[e18];exact Ext.storeRow _ _ _
 have B18:Box S p9 (oO ⟨k,f,t',u,x,a,b⟩) 119:=by rw[e18];exact B9.store rfl
 have z18:=X18.size
 have l9:=B18.lt
 have keep:∀{G:NP} {w':World},Ext G A w'->(∀b,b<A.heap.size->¬G b)->IMap (fun i:Int=>vi i) w' o M/\CoB w' p q U p3 l j D C o L.length/\zD w' q Lq FQ/\zD w' p g.1 F':=fun {G w'} E hG =>
  ⟨X.ext E<|hG _ X.lt,F.ext (F':=F') (FQ:=FQ) E fun b d=>hG b<|F.lt d,g7.ext E fun b d=>hG b<|g7.lt d,W.ext E fun b d=>hG b<|W.lt d⟩
 have E18:Ext (·=p9.block) A S:=(Ext.pure<|E16.trans E17).trans X18
 have hg9:∀b,b<A.heap.size->¬(b=p9.block):=fun b d e=>Om
 have look:∀{w':World},IMap (fun i:Int=>vi i) w' o M->∀y,(Instr.lookup 197 (.map<|some o) (vi y) false).run prog w'=.ok (vi<|g.2.2 y) w':=fun {w'} h y=>by
  rw[g5 y];rcases h.get (P:=prog) (T:=197) underlying197 underlying73 (zeroValue73 _) y false with⟨hn,hr⟩|⟨v,J,hr⟩;unfold ownM;rw[hn];exact hr;unfold ownM;rw[J];exact hr
 refine⟨fun w'=>w'.cell? C=some (.map<|some o)/\IMap (fun i:Int=>vi i) w' o M,?_,?_⟩
 have⟨k1,k2,_,_⟩:=keep (E18.thenPure<|Ext.drew S) hg9
 exact⟨k2.b8.cell0,k1⟩
 rintro w19 e19
 have E19:Ext (·=p9.block) A w19:=by rw[e19];exact E18.thenPure<|Ext.drew S
 have B19:Box w19 p9 (oO ⟨k,f,t',u,x,a,b⟩) 119:=by rw[e19];exact B18.pure<|Ext.drew S
 have⟨k1,k2,k3,k4⟩:=keep E19 hg9
 refine⟨some o,k2.b8.cell0,a,B19.cell (i:=5) rfl,_,look k1 a,some o,fun w' h=>h.1,b,B19.cell (i:=6) rfl,_,fun w' h=>look h.2 b,B19.canW (i:=5)<|by simp[oO],id,?_⟩
 rintro w20 e20
 have X20:Ext (·=p9.block) w19 w20:=by rw[e20];exact jUP
 have B20:Box w20 p9 (oO ⟨k,f,t',u,x,g.2.2 a,b⟩) 119:=by rw[e20];exact B19.set 5 _
 have E20:=E19.trans X20
 have⟨k1',k2',_,_⟩:=keep E20 hg9
 refine⟨⟨k2'.b8.cell0,k1'⟩,B20.canW (i:=6)<|by simp[oO],id,?_⟩
 rintro w21 e21
 have X21:Ext (·=p9.block) w20 w21:=by rw[e21];exact jUP
 have B21:Box w21 p9 (oO ⟨k,f,t',u,x,g.2.2 a,g.2.2 b⟩) 119:=by rw[e21];exact B20.set 6 _
 have E21:=E20.trans X21
 have⟨m1,m2,m3,m4⟩:=keep E21 hg9
 have z21:=E21.size
 refine⟨some p,m2.b2.cell0,k,f,t',u,x,g.2.2 a,g.2.2 b,B21.row,?_⟩
 have hnn:({ nodeOf Lq z with a:=g.2.2 (nodeOf Lq z).a,b:=g.2.2 (nodeOf Lq z).b }:Node)=⟨k,f,t',u,x,g.2.2 a,g.2.2 b⟩:=by rw[<-hn]
 refine(jBN p k f t' u x (g.2.2 a) (g.2.2 b) w21 m4 hok).mono ?_
 rintro _ w22 ⟨r4,r5,rfl,he,F2,hP2,I,hF2⟩
 have he1:=congrArg Prod.fst he
 have he2:=congrArg Prod.snd he
 simp only at he1 he2
 have z22:=I.size
 have hF'o:∀b,F' b->¬(b=U.block\/b=p3.block\/b=l.block\/b=j.block\/b=D.block\/b=C.block\/b=o):=fun b d hh=>(g8 b d).elim (fun h=>Oi (hP.lt h)<|(ob b hh).1) fun h=>h.2 hh
 have n22:CoB w22 p q U p3 l j D C o L.length:=m2.ext (F':=F') (FQ:=FQ) I Gd
 have M22:=m1.ext I fun hh=>hF'o _ hh Sm
 have Q22:=m3.ext I Gd
 have kY:Kept Y A w22:=(E21.kept fun b d e=>Oh<|hA0 b d).trans<|I.kept fun b d hh=>B b (.inr<|.inr<|.inr<|.inr<|.inr<|.inr<|.inr<|.inl hh) d
 have E022:Ext Z n w22:=(Q.trans' E21 fun i hi e=>Oh Q.size).trans' I Gd
 have N:∀b,F2 b->Z b\/(n.heap.size<=b/\¬(b=U.block\/b=p3.block\/b=l.block\/b=j.block\/b=D.block\/b=C.block\/b=o)):=fun b d=>(hF2 b d).elim (g8 b) Gd
 have hF2Y:∀b,F2 b->¬Y b:=fun b d hY=>(hF2 b d).elim (fun h=>B b (.inr<|.inr<|.inr<|.inr<|.inr<|.inr<|.inr<|.inl h) hY) fun h=>Oh<|hA0 b hY
 refine⟨r4,r5,rfl,I.kept fun b d=>d.elim,fun hc=>?_,fun hc=>?_⟩
 have h5:(make g.1 ⟨k,f,t',u,x,g.2.2 a,g.2.2 b⟩).2.1≠0:=by rw[<-he2];exact bne_iff_ne.1 hc
 have hfail:=@jKI Lq pre post z L (fun _=>0) (by rw[r];exact g1) ⟨k,f,t',u,x,g.2.2 a,g.2.2 b⟩ (by rw[r];exact hnn) (by rw[r];exact h5)
 rw[<-hpost,r,<-he2]at hfail
 have hcs2:cs=(0,r5,L):=by rw[hcs',hfail,if_pos (by rw[he2];exact h5)]
 refine⟨some p,n22.b2.cell0,_,n22.b6.cell0,?_⟩
 have⟨Mg,hMg⟩:=jCG Lq pre L fun _=>0
 rw[r]at hMg
 have hmk:∃M2,(make g.1 ⟨k,f,t',u,x,g.2.2 a,g.2.2 b⟩).2.2=g.1++M2:=yO _ _
 have⟨M2,hM2⟩:=hmk
 rw[hM2,hMg,List.append_assoc]at hP2
 have hok2:Ok (L++(Mg++M2)):=by rw[<-List.append_assoc,<-hMg,<-hM2];exact jSH hok _
 refine(c_cut p L.length w22 hP2 hok2 (by rw[List.length_append];omega)).mono ?_
 rintro _ w23 ⟨rfl,hP3,E23⟩
 rw[List.take_left]at hP3
 have n23:CoB w23 p q U p3 l j D C o L.length:=n22.ext (F':=F') (FQ:=FQ) E23 Gd
 refine⟨rfl,E23.kept fun b d=>d.elim,n23.b4.canW0 Sm,id,?_⟩
 rintro w24 e24
 have X24:Ext (·=l.block) w23 w24:=by rw[e24];exact Ext.setCell _ _
 have B24:Box w24 l [vi 0] 73:=by rw[e24];exact n23.b4.set0
 have B25:=n23.b5.ext X24 fun e=>d45 e.symm
 refine⟨B25.canW0 Sm,id,?_⟩
 rintro w25 e25
 have X25:Ext (·=j.block) w24 w25:=by rw[e25];exact Ext.setCell _ _
 have B25':Box w25 j [vi r5] 54:=by rw[e25];exact B25.set0
 have nF:∀b,F2 b->b≠l.block/\b≠j.block:=fun b d=>(N b d).elim (fun h=>Oh<|hP.lt h) Gd
 have nY4:¬Y l.block:=B _<|.inr<|.inr<|.inl rfl
 have nY5:¬Y j.block:=B _<|.inr<|.inr<|.inr<|.inl rfl
 refine⟨((kY.trans<|E23.kept fun b d hh=>hF2Y b hh d).trans<|X24.kept fun b d e=>nY4<|e▸d).trans (X25.kept fun b d e=>nY5<|e▸d),F2,r5,hcs2,(hP3.ext X24 fun b d e=>(nF b d).1 e).ext X25 fun b d e=>(nF b d).2 e,B24.ext X25 d45,B25',fun b d=>(N b d).imp id fun h=>h.1,?_,((E022.trans' E23 Gd).trans' X24 fun i hi e=>Om).trans' X25 fun i hi e=>Om⟩
 rintro b (rfl|rfl|d)
 exact nY4
 exact nY5
 exact hF2Y b d
 have h5:(make g.1 ⟨k,f,t',u,x,g.2.2 a,g.2.2 b⟩).2.1=0:=by rw[<-he2];simpa using hc
 have w:=@jKH Lq pre z L (fun _=>0) (by rw[r];exact g1) ⟨k,f,t',u,x,g.2.2 a,g.2.2 b⟩ (by rw[r];exact hnn) (by rw[r];exact h5)
 rw[r,<-he1]at w
 have hlk:SE.look M z=none:=uS.2 (by rw[g4];exact hzn)
 have⟨w26,hr26,hM26,H⟩:=M22.put (P:=prog) (T:=197) underlying197 underlying73 hlk r4
 have nm:∀b,F2 b->b≠o:=fun b d=>(N b d).elim Gd fun h e=>h.2 (by simp[e])
 have nYm:¬Y o:=B _<|.inr<|.inr<|.inr<|.inr<|.inr<|.inr<|.inl rfl
 have hmbo:=(ob o Sm).1
 refine⟨some o,n22.b8.cell0,w26,hr26,H.kept fun b d=>d.elim,kY.trans<|H.kept fun b d e=>nYm<|e▸d,F2,M++[(z,r4)],by rw[w],by rw[w];exact hP2.ext H fun b d e=>nm b d e,hM26,by simp[g4],?_,n22.ext (F':=F') (FQ:=FQ) H fun b d e=>dm b d e,Q22.ext H Gd,N,?_,E022.trans' H fun i hi e=>Om,Oh H.size⟩
 intro y
 rw[w]
 simp only
 unfold ownM
 rw[jPC (by rw[g4];exact hzn)]
 by_cases e:y=z
 rw[if_pos e,if_pos e.symm];rfl
 rw[if_neg e,if_neg fun h=>e h.symm];exact g5 y
 rintro b (d|d|d|d|d|d|d|d|d)
 exact B b<|.inl d
 exact B b<|.inr<|.inl d
 exact B b<|.inr<|.inr<|.inl d
 exact B b<|.inr<|.inr<|.inr<|.inl d
 exact B b<|.inr<|.inr<|.inr<|.inr<|.inl d
 exact B b<|.inr<|.inr<|.inr<|.inr<|.inr<|.inl d
 grind
 exact hF2Y b d
 exact B b<|.inr<|.inr<|.inr<|.inr<|.inr<|.inr<|.inr<|.inr d
 rintro H1 w27 hs27 _ _ ⟨F',M,g1,W,X,g4,g5,F,g7,g8,B,Q,g11⟩
 have hcs2:cs=((zS Lq xs L fun _=>0).2.2 t,0,(zS Lq xs L fun _=>0).1):=by rw[hcs',if_neg<|by simpa using g1]
 have hlk:(Instr.lookup 197 (.map<|some o) (vi t) false).run prog w27=.ok (vi<|(zS Lq xs L fun _=>0).2.2 t) w27:=by
  rw[g5 t];rcases X.get (P:=prog) (T:=197) underlying197 underlying73 (zeroValue73 _) t false with⟨hn,hr⟩|⟨v,J,hr⟩;unfold ownM;rw[hn];exact hr;unfold ownM;rw[J];exact hr
 generalize r:zS Lq xs L (fun _=>0)=g at *
 have nY4:¬H1 l.block:=B _<|.inr<|.inr<|.inl rfl
 have nY5:¬H1 j.block:=B _<|.inr<|.inr<|.inr<|.inl rfl
 refine⟨some o,F.b8.cell0,_,hlk,F.b4.canW0 Sm,nY4,?_⟩
 rintro w28 e28
 have X28:Ext (·=l.block) w27 w28:=by rw[e28];exact Ext.setCell _ _
 have B28:Box w28 l [vi<|g.2.2 t] 73:=by rw[e28];exact F.b4.set0
 have B28':=F.b5.ext X28 fun e=>d45 e.symm
 refine⟨B28'.canW0 Sm,nY5,?_⟩
 rintro w29 e29
 have X29:Ext (·=j.block) w28 w29:=by rw[e29];exact Ext.setCell _ _
 have B29:Box w29 j [vi 0] 54:=by rw[e29];exact B28'.set0
 have B29':=B28.ext X29 d45
 intro w30 K
 have nF:∀b,F' b->b≠l.block/\b≠j.block:=fun b d=>(g8 b d).elim (fun h=>Oh<|hP.lt h) fun h=>⟨fun e=>h.2<|.inr<|.inr<|.inl e,fun e=>h.2<|.inr<|.inr<|.inr<|.inl e⟩
 refine⟨_,(B29'.ext K.ext nY4).cell0,_,(B29.ext K.ext nY5).cell0,?_⟩
 rw[hcs2]
 refine⟨rfl,rfl,F',((W.ext X28 fun b d e=>(nF b d).1 e).ext X29 fun b d e=>(nF b d).2 e).ext K.ext fun b d=>B b<|.inr<|.inr<|.inr<|.inr<|.inr<|.inr<|.inr<|.inl d,((Q.trans' X28 fun i hi e=>Om).trans' X29 fun i hi e=>Om).hst K,fun b d=>(g8 b d).imp id fun h=>h.1⟩
 rintro pre H2 w32 hs32 ⟨F',e,g1,W,X,g4,g5,F,g7⟩
 refine⟨_,X.cell0,_,g4.cell0,?_⟩
 rw[g1]
 exact⟨rfl,rfl,F',W,g7,g5⟩
end Go.Proofs
end
section
open Go Go.SE List
namespace Go.Proofs
open Tryz
attribute [local irreducible] Calls CallsD
def zEP{S0}(p sb bs w0){L FP}(D:Wf L)(m:zD w0 p L FP)(hs:Lst S0 w0 1 sb (byr bs))(r:sb.a=none->sb=Sl.nil):
  cl 71 #[vp<|some p,sb.v] w0<|XJ fun t x y w'=>t=(qY L bs).1/\x=(qY L bs).2.1/\y=((qY L bs).2.2.1:Int)/\∃F',zD w' p (qY L bs).2.2.2 F'/\Ext FP w0 w'/\∀b,F' b->FP b\/w0.heap.size<=b:=by
 refine w_I6 _ _ w0 _ ?_
 refine⟨fun e=>(by cases e),fun _=>?_⟩
 refine(c_read sb bs w0 hs r).mono ?_
 rintro _ A ⟨x,y,z,rfl,j,o,f,i⟩
 refine⟨_,_,_,rfl,?_⟩
 cases c:(zW bs).1 with
 |none =>
  have n:qY L bs=(0,(zW bs).2.1,(zW bs).2.2,L):=by unfold qY;rw[c]
  have B:y≠0:=by rw[j];exact xN c
  refine⟨fun _=>?_,fun e=>absurd (by simpa using e) B⟩
  rw[n]
  exact⟨rfl,j,o,FP,m.pure i,Ext.pure i,fun b d=>.inl d⟩
 |some q =>
  obtain⟨a,F,rfl,g,u⟩:=f.pool c
  have⟨E,_,H,_⟩:=uX c
  have s:=jOM c
  have n:qY L bs=((vD L q q.length).1,(vD L q q.length).2.1,0,(vD L q q.length).2.2):=by unfold qY;rw[c]
  rw[s]at j
  refine⟨fun e=>absurd j<|by simpa using e,fun _=>?_⟩
  refine(jGM a A g).mono ?_
  rintro _ w ⟨_,rfl,rfl,rfl⟩
  refine⟨_,rfl,?_⟩
  refine(zFR p a q.length w D E (m.pure i) g fun b d hh=>Oi (m.lt d)<|u b hh).mono ?_
  rintro _ G ⟨r1,r2,rfl,h1,h2,F',l,C,k⟩
  refine⟨_,_,rfl,?_⟩
  rw[n]
  exact⟨h1,h2,rfl,F',l,(Ext.pure i).trans C,fun b d=>(k b d).imp id fun h=>Oh i.size⟩
end Go.Proofs
end
section
open Go Go.SE
namespace Go.Proofs
open Tryz
attribute [local irreducible] Calls CallsD
def rws_hz{w e sz s rs}(h:Rws w e sz s rs):s.a=none->s=Sl.nil:=by
 intro b;rcases h.own with⟨h,_⟩|⟨g,cur,h,_⟩;exact h;rw[b]at h;cases h
def zED(f:Fld):∀args w,(callFunc f.put args).run prog w=.ok (.enter f.put args) w:=by
 cases f;exact call249;exact call253;exact call255;exact call257;exact call261;exact call263
def zAE{P T K E Q w m}{es:List (Value×Value)}(h:CMap w m es)(c:P.underlying T=some (.map K E)):(Builtin.len_ #[T] Q #[.map<|some m]).run P w=.ok (vi (es.length:Int)) w:=by
 obtain⟨b,a,hm,rfl,_,_⟩:=h.ex;have d:(getObj m).run P w=.ok (.map b a) w:=by simp[getObj,Sem.run,hm]
 simp[Builtin.len_,run_underlying c,d,goInt]
def zDP{n}(h:Fld.fst∈qL n.kind):n.a∈zB n:=by
 unfold qL at h;unfold zB shapeOf
 repeat' split at h
 all_goals first|(exfalso;revert h;decide)|skip
 all_goals (rename_i h1;rw[h1];simp)
def zDN{n}(h:Fld.snd∈qL n.kind):n.b∈zB n:=by
 unfold qL at h;unfold zB shapeOf
 repeat' split at h
 all_goals first|(exfalso;revert h;decide)|skip
 all_goals (rename_i h1;rw[h1];simp)
structure LaySep(p2 p3 p4 p6:Addr)(m mb:Nat)(FP F:NP)(B:Nat):Prop where
 lt:p2.block<B/\p3.block<B/\p4.block<B/\p6.block<B/\m<B/\mb<B
 lF:∀b,F b->b<B
 lP:∀b,FP b->b<B
 d3:p2.block≠p3.block/\p4.block≠p3.block/\p6.block≠p3.block/\mb≠p3.block/\m≠p3.block/\¬F p3.block/\¬FP p3.block
 db:p2.block≠mb/\p4.block≠mb/\p6.block≠mb/\m≠mb/\¬F mb/\¬FP mb
def LayV(p2 p3 p4 p6:Addr)(m mb:Nat)(FP F:NP)(s:Sl)(b:Nat):Prop:=
 b=p2.block\/b=p3.block\/b=p4.block\/b=p6.block\/b=m\/b=mb\/F b\/FP b\/s.blk b
structure LayAt(A:World)(p p2 p3 p4 p6:Addr)(m mb:Nat)(L:Pool)(FP F:NP)(s:Sl)(bs:List UInt8)(M:List (Int×Int)):Prop where
 b2:Box A p2 [vp<|some p] 91
 b3:Box A p3 [s.v] 59
 b4:Box A p4 [.map<|some m] 249
 b6:Box A p6 [.map<|some mb] 231
 rows:Rws A 5 1 s (byr bs)
 nums:IMap (fun i:Int=>vi i) A mb M
 kinds:Kinds A m F
 pool:zD A p L FP
section
variable {A A':World} {p p2 p3 p4 p6:Addr} {m mb B:Nat} {L:Pool} {FP F G:NP} {s s':Sl} {bs bs':List UInt8} {M:List (Int×Int)}
def LayAt.ext(h:LayAt A p p2 p3 p4 p6 m mb L FP F s bs M)(E:Ext G A A')(a:∀b,LayV p2 p3 p4 p6 m mb FP F s b->¬G b):LayAt A' p p2 p3 p4 p6 m mb L FP F s bs M:=
 ⟨h.b2.ext E<|a _<|.inl rfl,h.b3.ext E<|a _<|.inr<|.inl rfl,h.b4.ext E<|a _<|.inr<|.inr<|.inl rfl,h.b6.ext E<|a _<|.inr<|.inr<|.inr<|.inl rfl,
 h.rows.ext E fun b c=>a b<|.inr<|.inr<|.inr<|.inr<|.inr<|.inr<|.inr<|.inr c,h.nums.ext E<|a _<|.inr<|.inr<|.inr<|.inr<|.inr<|.inl rfl,
 h.kinds.ext E fun b c=>c.elim (fun c=>a b<|.inr<|.inr<|.inr<|.inr<|.inr<|.inr<|.inl c) fun e=>a b<|.inr<|.inr<|.inr<|.inr<|.inl e,
 h.pool.ext E fun b c=>a b<|.inr<|.inr<|.inr<|.inr<|.inr<|.inr<|.inr<|.inl c⟩
def LayAt.pure(h:LayAt A p p2 p3 p4 p6 m mb L FP F s bs M)(E:Pure A A'):LayAt A' p p2 p3 p4 p6 m mb L FP F s bs M:=h.ext E fun _ _ h=>h
def LayAt.lt(h:LayAt A p p2 p3 p4 p6 m mb L FP F s bs M){b}(a:LayV p2 p3 p4 p6 m mb FP F s b):b<A.heap.size:=by
 rcases a with rfl|rfl|rfl|rfl|rfl|rfl|a|a|a;exact h.b2.lt;exact h.b3.lt;exact h.b4.lt;exact h.b6.lt;exact h.kinds.mlt;exact h.nums.lt;exact h.kinds.lt _ a;exact h.pool.lt a;exact h.rows.lt a
def LayAt.put(h:LayAt A p p2 p3 p4 p6 m mb L FP F s bs M)(S:LaySep p2 p3 p4 p6 m mb FP F B)(hs:∀b,s.blk b->B<=b)(l:∀b,s'.blk b->B<=b)(E:Ext s.blk A A')(j:Rws A' 5 1 s' (byr bs')):
  LayAt (A'.setCell p3 s'.v) p p2 p3 p4 p6 m mb L FP F s' bs' M/\Ext (fun b=>s.blk b\/b=p3.block) A (A'.setCell p3 s'.v):=by
 have e:Ext (·=p3.block) A' (A'.setCell p3 s'.v):=Ext.setCell p3 _
 have a:Ext (fun b=>s.blk b\/b=p3.block) A (A'.setCell p3 s'.v):=(E.mono fun b _ h=>.inl h).trans<|e.mono fun b _ h=>.inr h
 have⟨o,i,q,r,k,lb⟩:=S.lt
 have⟨d2,u,n,t,f,g,d⟩:=S.d3
 have ns:∀b,b<B->¬s.blk b:=fun b c hh=>Oh<|hs b hh
 have b3:=(h.b3.ext E<|ns _ i).set0 (v:=s'.v)
 refine⟨⟨h.b2.ext a ?_,b3,h.b4.ext a ?_,h.b6.ext a ?_,j.ext e Gd,h.nums.ext a ?_,h.kinds.ext a ?_,h.pool.ext a ?_⟩,a⟩
 grind
 grind
 grind
 grind
 rintro b (c|rfl) (hh|hh)
 exact ns _ (S.lF b c) hh
 subst hh;exact g c
 exact ns _ k hh
 exact f hh
 rintro b c (hh|hh)
 exact ns _ (S.lP b c) hh
 subst hh;exact d c
end
def c_lay(p:Addr)(t:Int)(I:World){L:Pool}{FP:NP}(hW:Wf L)(hN:yU L)(hP:zD I p L FP):
  cl 110 #[vp<|some p,vi t] I<|XA fun r w'=>RetO I 5 1 (byr<|vI L t) r w':=by
 refine w_O1 _ _ I _ ?_
 intro p2 w1 h1 p3 w2 h2
 have E1:Pure I w1:=Ext.new h1
 have E2:Pure w1 w2:=Ext.new h2
 have B2:=(Box.of_new h1).pure E2
 have B3:=Box.of_new h2
 have s1:=h1.at_size;have s2:=h2.at_size;have l2:=(Box.of_new h1).lt;have l3:=B3.lt;have z1:=E1.size;have z2:=E2.size
 refine(zAS w2).mono ?_
 rintro _ w3 ⟨_,rfl,m,F,rfl,hK,E3,hm,hF⟩
 have z3:=E3.size
 have lm:=hK.mlt
 refine⟨_,rfl,E3.keptP,?_⟩
 intro p4 w4 h4
 have E4:Pure w3 w4:=Ext.new h4
 have B4:=Box.of_new h4
 have s4:=h4.at_size;have l4:=B4.lt;have z4:=E4.size
 refine⟨B4.canW0 Sm,fun h=>h,?_⟩
 rintro w5 h5
 have X5:Ext (·=p4.block) w4 w5:=by rw[h5];exact Ext.setCell p4 _
 have B4':Box w5 p4 [.map<|some m] 249:=by rw[h5];exact B4.set0
 have z5:=X5.size
 intro p5 w6 h6
 have E6:Pure w5 w6:=Ext.new h6
 have M5:=IMap.of_new (f:=fun i:Int=>vi i) h6
 have s6:=h6.at_size;have l5:=M5.lt;have z6:=E6.size
 intro p6 w7 h7
 have E7:Pure w6 w7:=Ext.new h7
 have B6:=Box.of_new h7
 have s7:=h7.at_size;have l6:=B6.lt;have z7:=E7.size
 refine⟨B6.canW0 Sm,fun h=>h,?_⟩
 rintro w8 h8
 have X8:Ext (·=p6.block) w7 w8:=by rw[h8];exact Ext.setCell p6 _
 have B6':Box w8 p6 [.map<|some p5.block] 231:=by rw[h8];exact B6.set0
 have z8:=X8.size
 have E08:Pure I w8:=((((((E1.trans E2).trans E3).trans E4).own Om X5).trans E6).trans E7).own Om X8
 have P8:=hP.pure E08
 have up:∀{T:TypeId} {c:Addr} {vs:List Value},Box w5 c vs T->c.block≠p6.block->Box w8 c vs T:=fun h h2=>((h.pure E6).pure E7).ext X8 h2
 have up3:∀{T:TypeId} {c:Addr} {vs:List Value},Box w2 c vs T->c.block≠p4.block->c.block≠p6.block->Box w8 c vs T:=fun h h1 h2=>up (((h.pure E3).pure E4).ext X5 h1) h2
 have B28:=up3 B2 Om Om
 have B38:=up3 B3 Om Om
 have B48:=up B4' Om
 have M58:=(M5.pure E7).ext X8 Om
 have C:=hK.lt
 have K8:Kinds w8 m F:=(((((hK.pure E4).ext X5 fun b d e=>d.elim (fun d=>Oh<|C b d) fun d=>Om).pure E6).pure E7).ext X8 fun b d e=>d.elim (fun d=>Oh<|C b d) fun d=>Om)
 refine⟨some p,B28.cell0,?_⟩
 refine(zAX p t w8).mono ?_
 rintro _ w9 ⟨_,rfl,q2,q3,rfl,Bq2,Bq3,E9⟩
 have z9:=E9.size
 have E09:=E08.trans E9
 refine⟨_,rfl,E9.keptP,_,_,rfl,call178,_,_,jSM hW (P8.pure E9) Bq2 Bq3,?_⟩
 have O:∀b,FP b->b<I.heap.size:=fun b d=>hP.lt d
 have S:LaySep p2 p3 p4 p6 m p5.block FP F w9.heap.size:=⟨⟨Om,Om,Om,Om,Om,Om⟩,fun b d=>Oh<|C b d,fun b d=>Oh<|O b d,
  ⟨Om,Om,Om,Om,Om,fun d=>Oh<|hF _ d,fun d=>Oh<|O _ d⟩,⟨Om,Om,Om,Om,fun d=>Oh<|C _ d,fun d=>Oh<|O _ d⟩⟩
 have A9:LayAt w9 p p2 p3 p4 p6 m p5.block L FP F Sl.nil [] []:=⟨B28.pure E9,B38.pure E9,B48.pure E9,B6'.pure E9,Rws.nil _ _ _,M58.pure E9,K8.pure E9,P8.pure E9⟩
 have hnil:∀b,¬Sl.nil.blk b:=fun b d=>by have⟨a,h,_⟩:=d;cases h
 have hfew:=uH hW t
 have hsub:∀u∈subs L t,inP L u=true:=fun u hu=>have h:=(jCS hW).1 hu;(Sub.le hW h.1 h.2).1
 have hord:=jMN hW t
 have hnd:=jAG hW t
 have htx:vI L t=textFrom L [] (subs L t):=rfl
 rw[htx]
 generalize hxs:subs L t=xs at *
 have hL:=hW.ok.few
 generalize hB:w9.heap.size=B at *
 have hw3:I.heap.size<=p3.block:=Om
 have hw5:I.heap.size<=p5.block:=Om
 have hwB:I.heap.size<=B:=Om
 generalize p5.block=mb at *
 clear up up3 B28 B38 B48 M58 K8 P8 B2 B3 B4 B4' M5 B6 B6' X5 X8 E1 E2 E3 E4 E6 E7 h1 h2 h4 h5 h6 h7 h8 hK hF C Bq2 Bq3
 refine⟨fun pre Y A=>∃s:Sl,LayAt A p p2 p3 p4 p6 m mb L FP F s (textFrom L [] pre) (uW 0 pre)/\(∀b,s.blk b->B<=b)/\(∀b,LayV p2 p3 p4 p6 m mb FP F s b->¬Y b)/\B<=A.heap.size/\Pure I A,⟨fun _ _ _ _=>trivial,?_,fun _ _ _ _ _ h=>h.elim,fun _ _ _ _ _ h=>h.elim⟩,?_,?_,?_⟩
 rintro pre Y A Y' A' ⟨s,K,hs,D,hz,hE⟩ hst
 have hv':∀b,LayV p2 p3 p4 p6 m mb FP F s b->¬Y' b:=hst.disj fun b d=>⟨K.lt d,D b d⟩
 exact⟨s,K.ext hst.ext hv',hs,hv',Nat.le_trans hz hst.ext.size,hE.hst hst⟩
 exact⟨Sl.nil,A9,fun b d=>(hnil b d).elim,fun b _ h=>h,Om,E09⟩
 rintro pre z Y A ⟨s,K,hs,D,hz,hE⟩ hsA ⟨post,l⟩
 have hzin:inP L z=true:=hsub z (by rw[l];simp)
 have hprein:∀u∈pre,inP L u=true:=fun u hu=>hsub u (by rw[l];simp[hu])
 have hplen:pre.length<65536:=by have:=congrArg List.length l;simp only[List.length_append,List.length_cons]at this;omega
 have hzn:z∉pre:=by
  rw[l]at hnd;have:=(List.nodup_append.1 hnd).2.2;exact fun h=>this z h z Sm rfl
 have hbs:=jBU hW hN pre [] hprein (by simp only[List.length_nil];omega)
 refine⟨some p,K.b2.cell0,?_⟩
 refine(jDK p z A K.pool hW.ok).mono ?_
 rintro _ w10 ⟨k,r,N,u,x,a,b,r3,rfl,⟨hn,_⟩,X⟩
 refine⟨_,_,_,_,_,_,_,_,rfl,X.keptP,fun H1 w12 v=>?_⟩
 have⟨k1,k9,f0,f1,t0,t1,x1⟩:=jBF hW hzin
 have J:=hN.node z
 have hko:=hord pre z post l
 have hnt:yB L pre z=UInt8.ofNat k.toNat ::(qL k).flatMap (Fld.bytes ⟨k,r,N,u,x,a,b⟩ (posOf pre a)<|posOf pre b):=by rw[yB,<-hn]
 rw[<-hn]at k1 k9 f0 f1 t0 t1 x1 J hko
 simp only at k1 k9 f0 f1 t0 t1 x1 J
 have q:∀b,H1 b->A.heap.size<=b:=v.old
 have A12:=(K.pure X).ext v.ext fun b d hh=>Oi (q b hh)<|K.lt d
 have E012:Pure I w12:=(hE.trans X).trans' v.ext fun i hi hh=>Oi (q i hh) hE.size
 have k12:Kept Y A w12:=(X.keptP).trans<|v.ext.kept fun b d hh=>Oi (q b hh)<|hsA.lt b d
 have z10:=X.size
 have z12:=v.ext.size
 refine⟨s,A12.b3.cell0,fun p8 w13 h8=>?_⟩
 have E13:Pure w12 w13:=Ext.new h8
 have A13:=A12.pure E13
 have z13:=E13.size
 obtain⟨kn,rfl⟩:∃kn:Nat,k=kn:=⟨k.toNat,Om⟩
 simp only[Int.toNat_natCast]at hnt
 rw[jBR]at h8
 have⟨s1,w14,hr,hR,hEx,d⟩:=A13.rows.append (P:=prog) (ty:=59) (c:=1) jEY (Box.of_newA h8).row rfl rfl (by rw[vW];omega) (by rw[vW];simp only[maxLen];omega)
 have hs1:∀b,s1.blk b->B<=b:=fun b hh=>(d b hh).elim (hs b) fun h=>Om
 have hy1:∀b,s1.blk b->¬Y b:=fun b hh g=>(d b hh).elim (fun h=>D b (.inr<|.inr<|.inr<|.inr<|.inr<|.inr<|.inr<|.inr h) g) fun h=>Oh<|hsA.lt b g
 have h3A:p3.block<A.heap.size:=K.b3.lt
 have hH3:¬H1 p3.block:=fun h=>Oh<|q _ h
 have hHs:∀b,H1 b->¬s.blk b:=fun b hh d=>Oi (q b hh)<|K.rows.lt d
 have hY3:¬Y p3.block:=D _<|.inr<|.inl rfl
 have hYs:∀b,Y b->¬s.blk b:=fun b g d=>D b (.inr<|.inr<|.inr<|.inr<|.inr<|.inr<|.inr<|.inr d) g
 refine⟨s1,w14,hr,hEx.kept hHs,((A13.b3.ext hEx fun d=>Oi (hs _ d) S.lt).canW0 Sm),hH3,?_⟩
 rintro w15 h15
 have hR':Rws w14 5 1 s1 (byr<|textFrom L [] pre++[UInt8.ofNat kn]):=by rw[jNP];exact hR
 have⟨A15,X15⟩:=A13.put S hs hs1 hEx hR'
 rw[<-h15]at A15 X15
 have E015:Pure I w15:=(E012.trans E13).trans' X15 fun i hi hh=>hh.elim (fun hh=>Oh<|hs _ hh) fun hh=>Om
 have k15:Kept Y A w15:=(k12.trans E13.keptP).trans (X15.kept fun b g hh=>hh.elim (hYs b g) fun e=>by subst e;exact hY3 g)
 have z15:=X15.size
 have⟨fs,hlk,hLf⟩:=A15.kinds.get kn k1 k9 false
 refine⟨some m,A15.b4.cell0,fs,hlk,?_⟩
 have hfl3:=jNF kn
 refine⟨fun y H w=>∃(j:Nat) (s:Sl),y=j/\j<=(qL kn).length/\H=H1/\LayAt w p p2 p3 p4 p6 m mb L FP F s (textFrom L [] pre++UInt8.ofNat kn ::((qL kn).take j).flatMap (Fld.bytes ⟨kn,r,N,u,x,a,b⟩ (posOf pre a)<|posOf pre b)) (uW 0 pre)/\Lst F w 2 fs ((qL kn).map Fld.row)/\(∀b,s.blk b->B<=b)/\(∀b,s.blk b->¬Y b)/\Kept Y A w/\Pure I w/\A.heap.size<=w.heap.size,fun y _=>(((qL kn).length:Int)-y).toNat,⟨0,s1,rfl,Nat.zero_le _,rfl,by simpa using A15,hLf,hs1,hy1,k15,E015,Om⟩,?_⟩
 rintro _ _ wl hst ⟨j,s2,rfl,hj,rfl,G,hL2,hs2,hy2,k2,E2,z2⟩
 unfold m_O1_l1
 have hlen:fs.len=(qL kn).length:=by rw[hL2.len,List.length_map]
 refine⟨fun M=>?_,fun M=>?_⟩
 have M:=vR hlen M
 have⟨a1,hat,hF1,hrow⟩:=hL2.at_ j (by simpa using M)
 rw[List.getElem_map]at hrow
 refine⟨a1,hat,.func (.func (qL kn)[j].put) #[] #[],.func (.func (qL kn)[j].get) #[] #[],hrow,fun p9 w16 h9=>?_⟩
 have V:Pure wl w16:=Ext.new h9
 have B9:=Box.of_newA h9
 have s9:=h9.at_size
 have z16:=V.size
 refine⟨⟨rfl,B9.canWs Sm⟩,fun hh=>Oh<|hst.lt _ hh,?_⟩
 rintro Z h17
 have U:Ext (·=p9.block) w16 Z:=by rw[h17];exact Ext.storeRow _ _ _
 have B9':Box Z p9 [.func (.func (qL kn)[j].put) #[] #[],.func (.func (qL kn)[j].get) #[] #[]] 255:=by rw[h17];exact B9.store rfl
 have E:=(G.pure V).ext U fun b d e=>Oh<|G.lt d
 have L17:=(hL2.pure V).ext U fun b d e=>Oh<|G.kinds.lt b d
 have z17:=U.size
 have E017:Pure I Z:=(E2.trans V).own (Oh E2.size) U
 have k17:Kept Y A Z:=(k2.trans V.keptP).trans<|U.kept fun b g e=>Oh<|hsA.lt b g
 refine⟨_,B9'.cell0,s2,E.b3.cell0,some mb,E.b6.cell0,_,#[],#[],rfl,zED _,?_⟩
 simp only[Array.empty_append,Array.append_empty]
 have hbl:=jPN (Fld.bytes ⟨kn,r,N,u,x,a,b⟩ (posOf pre a)<|posOf pre b) 74 ((qL kn).take j) fun f _=>jZR _ _ _ f f1 t1 J x1 (Oh<|oZ pre a)<|Oh<|oZ pre b
 have hbl2:((qL kn).take j).length<=3:=by rw[List.length_take];omega
 have hbn:(textFrom L [] pre++UInt8.ofNat kn ::((qL kn).take j).flatMap (Fld.bytes ⟨kn,r,N,u,x,a,b⟩ (posOf pre a)<|posOf pre b)).length<=10000000000:=by
  rw[List.length_append,List.length_cons];omega
 refine(c_put (qL kn)[j] s2 _ ⟨kn,r,N,u,x,a,b⟩ (posOf pre a) (posOf pre b) mb (uW 0 pre) Z E.rows.lst (rws_hz E.rows) hbn ⟨f0,Sy⟩ ⟨t0,Sy⟩ J Sy E.nums (fun e=>?_) fun e=>?_).mono ?_
 have R:a∈pre:=hko _<|zDP (n:=⟨kn,r,N,u,x,a,b⟩) (by rw[<-e];exact List.getElem_mem _)
 exact⟨by rw[jHA pre a R 0];simp,Oh<|oZ pre a⟩
 have R:b∈pre:=hko _<|zDN (n:=⟨kn,r,N,u,x,a,b⟩) (by rw[<-e];exact List.getElem_mem _)
 exact⟨by rw[jHA pre b R 0];simp,Oh<|oZ pre b⟩
 rintro _ w18 ⟨r4,rfl,hR4⟩
 have E18:=hR4.pure
 have z18:=E18.size
 refine⟨r4,rfl,hR4.kept,(E.b3.pure E18).canW0 Sm,hH3,?_⟩
 rintro w19 h19
 have hs4:∀b,r4.blk b->B<=b:=fun b d=>Oh<|hR4.own b d
 have hR5:Rws w18 5 1 r4 (byr (textFrom L [] pre++UInt8.ofNat kn ::((qL kn).take<|j+1).flatMap (Fld.bytes ⟨kn,r,N,u,x,a,b⟩ (posOf pre a)<|posOf pre b))):=by
  have e:textFrom L [] pre++UInt8.ofNat kn ::((qL kn).take<|j+1).flatMap (Fld.bytes ⟨kn,r,N,u,x,a,b⟩ (posOf pre a)<|posOf pre b)=(textFrom L [] pre++UInt8.ofNat kn ::((qL kn).take j).flatMap (Fld.bytes ⟨kn,r,N,u,x,a,b⟩ (posOf pre a)<|posOf pre b))++(qL kn)[j].bytes ⟨kn,r,N,u,x,a,b⟩ (posOf pre a) (posOf pre b):=by
   rw[List.take_succ_eq_append_getElem M,List.flatMap_append];simp
  rw[e];exact hR4.rows
 have⟨A19,W⟩:=E.put S hs2 hs4 E18.pure hR5
 rw[<-h19]at A19 W
 have z19:=W.size
 refine⟨⟨j+1,r4,zQ M Om,M,trivial,A19,L17.ext W fun b d hh=>?_,hs4,fun b d g=>Oi (hR4.own b d)<|hsA.lt b g,k17.trans (W.kept fun b g hh=>hh.elim (fun h=>hy2 b h g) fun e=>by subst e;exact hY3 g),E017.trans' W fun i hi hh=>hh.elim (fun hh=>Oh<|hs2 _ hh) fun hh=>Om,Om⟩,?_⟩
 rcases hh with hh|hh
 have:=hs2 b hh;have:=S.lF b d;omega
 subst hh;exact S.d3.2.2.2.2.2.1 d
 rw[zQ M Om];exact uR M
 have M:=yI hlen hj M
 subst M
 rw[List.take_length]at G
 have e:textFrom L [] (pre++[z])=textFrom L [] pre++UInt8.ofNat kn ::(qL kn).flatMap (Fld.bytes ⟨kn,r,N,u,x,a,b⟩ (posOf pre a)<|posOf pre b):=by rw[jBA,List.nil_append,hnt]
 have hlk0:SE.look (uW 0 pre) z=none:=uS.2 (by rw[jOU];exact hzn)
 have⟨w20,hr20,hM20,o⟩:=G.nums.put (P:=prog) (T:=231) underlying231 underlying73 hlk0 ((pre.length:Nat):Int)
 have hz3:(Builtin.len_ #[231] 3 #[.map<|some mb]).run prog wl=.ok (vi ((pre.length:Nat):Int)) wl:=by
  have:=zAE G.nums.map (P:=prog) (T:=231) (Q:=3) underlying231;rw[List.length_map,jSG]at this;exact this
 have hYb:¬Y mb:=D _<|.inr<|.inr<|.inr<|.inr<|.inr<|.inl rfl
 have kk:∀{H:NP},¬H mb->Kept H wl w20:=fun h=>o.kept (fun b d e=>by subst e;exact h d)
 have hmbA:mb<A.heap.size:=K.nums.lt
 refine⟨some mb,G.b6.cell0,some mb,G.b6.cell0,_,hz3,w20,hr20,kk fun h=>Oh<|q _ h,k2.trans<|kk hYb,s2,?_,hs2,fun b d g=>?_,Oi o.size E2.size,E2.trans' o fun i hi e=>Om⟩
 rw[e,jOT,Nat.zero_add]
 have⟨g1,g2,g3,g4,g5,g6⟩:=S.db
 exact⟨G.b2.ext o g1,G.b3.ext o fun e=>S.d3.2.2.2.1 e.symm,G.b4.ext o g2,G.b6.ext o g3,G.rows.ext o fun b d e=>Oi (hs2 b d) S.lt,hM20,G.kinds.ext o fun b d e=>d.elim (fun d=>by subst e;exact g5 d) fun d=>g4<|d▸e,G.pool.ext o fun b d e=>by subst e;exact g6 d⟩
 rcases d with d|d|d|d|d|d|d|d|d
 exact D b (.inl d) g
 exact D b (.inr<|.inl d) g
 exact D b (.inr<|.inr<|.inl d) g
 exact D b (.inr<|.inr<|.inr<|.inl d) g
 exact D b (.inr<|.inr<|.inr<|.inr<|.inl d) g
 exact D b (.inr<|.inr<|.inr<|.inr<|.inr<|.inl d) g
 exact D b (.inr<|.inr<|.inr<|.inr<|.inr<|.inr<|.inl d) g
 exact D b (.inr<|.inr<|.inr<|.inr<|.inr<|.inr<|.inr<|.inl d) g
 exact hy2 b d g
 rintro H2 w21 hs21 _ _ ⟨s,K,hs,D,hz,hE⟩
 refine⟨s,K.b3.cell0,fun w22 hs22=>⟨K.rows.ext hs22.ext fun b d=>D b<|.inr<|.inr<|.inr<|.inr<|.inr<|.inr<|.inr<|.inr d,fun b d=>Oh<|hs b d,hE.hst hs22⟩⟩
def zEO(p t w0){L FP}(q:Wf L)(s:yU L)(o:zD w0 p L FP):
  cl 53 #[vp<|some p,vi t] w0<|XN fun r n w'=>n=(jAN L t).2/\RetO w0 5 1 (byr (jAN L t).1) r w':=by
 refine w_B6 _ _ w0 _ ?_
 unfold m_B6
 have f:∀b,¬Sl.nil.blk b:=fun b g=>by have⟨a,h,_⟩:=g;cases h
 refine(jDK p t w0 o q.ok).mono ?_
 rintro _ A ⟨k,r,B,u,x,a,b,r3,rfl,⟨z,rfl⟩,l⟩
 refine⟨_,_,_,_,_,_,_,_,rfl,l.keptP,fun d v m i=>?_,fun d v m i=>?_⟩
 have c:inP L t=false:=by simpa using d
 have e:jAN L t=([],51):=by unfold jAN;rw[c];rfl
 rw[e]
 exact⟨rfl,Rws.nil _ _ _,fun b g=>(f b g).elim,l.hst i⟩
 have c:inP L t=true:=by simpa using d
 have j:Pure w0 m:=l.hst i
 refine(c_lay p t m q s<|o.pure j).mono ?_
 rintro _ w ⟨r2,rfl,h⟩
 have y:r2.len=(vI L t).length:=by rw[h.rows.len,vW]
 refine⟨r2,rfl,h.kept,fun d=>?_,fun d=>?_⟩
 have d:=of_decide_eq_true d
 have e:jAN L t=([],1):=by unfold jAN;rw[c,if_pos rfl,if_pos Om]
 rw[e]
 exact⟨rfl,Rws.nil _ _ _,fun b g=>(f b g).elim,j.trans h.pure⟩
 have d:=of_decide_eq_false d
 have e:jAN L t=(vI L t,0):=by unfold jAN;rw[c,if_pos rfl,if_neg Om]
 rw[e]
 exact⟨rfl,h.rows,fun b g=>Oi (h.own b g) j.size,j.trans h.pure⟩
end Go.Proofs
end
section
open Go Go.SE List
namespace Go.Proofs
end Go.Proofs
namespace Go.Proofs
open Tryz
attribute [local irreducible] Calls CallsD
def str_of{w:World}{s:Sl}{bs:List UInt8}{S:NP}(h:Lst S w 1 s (byr bs)):(convert 59 9 s.v).run prog w=.ok (vs ⟨bs.toArray⟩) w:=
 jJA underlying59 underlying5 underlying9 h
end Go.Proofs
end
section
open Go Go.SE List
namespace Go.Proofs
open Tryz
attribute [local irreducible] Calls CallsD
structure RfS(S:NP)(w:World)(a:Addr)(s:Sl)(bs:List UInt8)(r:Rd):Prop where
 box:Box w a [s.v,vi (r.at_:Int),vi (r.err:Int),vi (r.spot:Int)] 117
 lst:Lst S w 1 s (byr bs)
 apart:∀b,S b->b≠a.block
 small:bs.length<=100000000
 room:s.len<=s.cap
section
variable {S:NP} {w w':World} {a:Addr} {s:Sl} {bs:List UInt8} {r:Rd}
def RfS.ext{F}(h:RfS S w a s bs r)(E:Ext F w w')(c:∀b,(b=a.block\/S b)->¬F b):RfS S w' a s bs r:=
 ⟨h.box.ext E<|c _<|.inl rfl,h.lst.ext E fun b d=>c b<|.inr d,h.apart,h.small,h.room⟩
def RfS.pure(h:RfS S w a s bs r)(E:Pure w w'):RfS S w' a s bs r:=h.ext E fun _ _ h=>h
def RfS.atC(h:RfS S w a s bs r):w.cell? (a.add 1)=some (vi (r.at_:Int)):=h.box.cell (i:=1) rfl
def RfS.errC(h:RfS S w a s bs r):w.cell? (a.add 2)=some (vi (r.err:Int)):=h.box.cell (i:=2) rfl
def RfS.len(h:RfS S w a s bs r):s.len=bs.length:=by rw[h.lst.len,vW]
def RfS.setAt(h:RfS S w a s bs r)(k:Nat):RfS S (w.setCell (a.add 1)<|vi (k:Int)) a s bs ⟨k,r.err,r.spot⟩:=
 ⟨h.box.set 1 _,h.lst.ext (Ext.setCell _ _) fun b c e=>h.apart b c (by rw[zG]at e;exact e),h.apart,h.small,h.room⟩
def RfS.setErr(h:RfS S w a s bs r)(k:Nat):RfS S (w.setCell (a.add 2)<|vi (k:Int)) a s bs ⟨r.at_,k,r.spot⟩:=
 ⟨h.box.set 2 _,h.lst.ext (Ext.setCell _ _) fun b c e=>h.apart b c (by rw[zG]at e;exact e),h.apart,h.small,h.room⟩
def RfS.setSpot(h:RfS S w a s bs r)(k:Nat):RfS S (w.setCell (a.add 3)<|vi (k:Int)) a s bs ⟨r.at_,r.err,k⟩:=
 ⟨h.box.set 3 _,h.lst.ext (Ext.setCell _ _) fun b c e=>h.apart b c (by rw[zG]at e;exact e),h.apart,h.small,h.room⟩
end
section
variable {S:NP} (a:Addr) (s:Sl) (bs:List UInt8) (r:Rd) (w0:World)
def zAK(h:RfS S w0 a s bs r)(d:r.err=0)(e x:Nat):
  cl 170 #[vp<|some a,vi e,vi x] w0<|fun b w'=>b=.returned (.tuple #[])/\(RfS S w' a s bs ⟨r.at_,e,x⟩/\Ext (·=a.block) w0 w'):=by
 refine w_X5 (some a) _ _ w0 _ ?_
 refine⟨a,rfl,_,h.errC,fun _=>⟨a,rfl,h.box.canW (i:=2) Sm,?_⟩,fun c=>absurd (by rw[d];rfl) (beq_eq_false_iff_ne.1 c)⟩
 rintro g rfl
 have h1:=h.setErr e
 refine⟨a,rfl,h1.box.canW (i:=3) Sm,?_⟩
 rintro f rfl
 exact⟨h1.setSpot x,qQ.trans qQ⟩
def zHN(h:RfS S w0 a s bs r)(c:r.at_<=bs.length):
  cl 58 #[vp<|some a] w0<|XB fun x w'=>x=((bs.length-r.at_:Nat):Int)/\Pure w0 w':=by
 refine w_W5 (some a) w0 _ ?_
 refine⟨a,rfl,fun d hs=>?_⟩
 have b:Pure w0 d:=hs.first
 have h1:=h.pure b
 refine⟨s,h1.box.cell0,a,rfl,_,h1.atC,?_,b⟩
 rw[h.len,IntWalk.i64_in _<|Oh h.small];omega
def zHO(h:RfS S w0 a s bs r)(b:r.at_<bs.length)(t:r.err=0):
  cl 115 #[vp<|some a] w0<|XT fun x w'=>x=(bs[r.at_].toNat:Int)/\RfS S w' a s bs ⟨r.at_+1,0,r.spot⟩/\Ext (·=a.block) w0 w':=by
 refine w_Y5 (some a) w0 _ ?_
 unfold m_Y5
 have v:=h.small
 refine⟨a,rfl,_,h.errC,fun e=>absurd (by rw[t];rfl) (bne_iff_ne.1 e),fun _=>⟨a,rfl,fun q k=>?_⟩⟩
 have p:Pure w0 q:=k.first
 have h1:=h.pure p
 refine⟨_,h1.atC,a,rfl,s,h1.box.cell0,fun e=>?_,fun _=>⟨a,rfl,_,h1.atC,a,rfl,h1.box.canW (i:=1) Sm,id,?_⟩⟩
 .have:=beq_iff_eq.1 e;rw[h.len]at this;omega
 rintro o l
 have w:IntKind.i64.wrap ((r.at_:Int)+1)=((r.at_+1:Nat):Int):=zQ b Om
 rw[w]at l
 have h3:=h1.setAt<|r.at_+1
 rw[<-l]at h3
 have y:Ext (·=a.block) q o:=by rw[l];exact qQ
 refine⟨a,rfl,fun u g=>?_⟩
 have n:Pure o u:=g.ext
 have d:=h3.pure n
 have j:IntKind.i64.wrap (((r.at_+1:Nat):Int)-1)=(r.at_:Int):=by rw[IntWalk.i64_in _ Om];omega
 have⟨c,m,_,f⟩:=jRC d.lst b
 refine⟨s,d.box.cell0,a,rfl,_,d.atC,c,by simp only;rw[j];exact m,_,f,rfl,?_,((Ext.pure p).trans y).thenPure n⟩
 rw[t]at d;exact d
def zCE{P t w}(x k:Nat)(b:k<64)(h:x*2^k<18446744073709551616):(Go.binOp .shl t (.int .u64 (x:Int))<|.int .u64 (k:Int)).run P w=.ok (.int .u64 ((x*2^k:Nat):Int)) w:=by
 have hr:IntKind.u64.wrap ((x:Int)*2^min (k:Int).toNat IntKind.u64.bits)=((x*2^k:Nat):Int):=by
  have:min (k:Int).toNat IntKind.u64.bits=k:=by simp[IntKind.bits];omega
  rw[this,<-vX h];simp
 have a:¬((k:Int)<0):=Om;show(Op.shift .shl .u64 (x:Int) .u64 (k:Int)).run P w=_;unfold Op.shift;rw[if_neg a];show((pure (Value.int .u64<|IntKind.u64.wrap<|(x:Int)*2^min (k:Int).toNat IntKind.u64.bits):Sem Value)).run P w=_;rw[hr];rfl
def zCF{P t w}(c:Nat)(h:c<256):(Go.binOp .rem t (.int .u8 (c:Int))<|.int .u8 128).run P w=.ok (.int .u8 ((c%128:Nat):Int)) w:=by
 have a:((c:Int).tmod 128)=((c%128:Nat):Int):=by rw[Int.tmod_eq_emod_of_nonneg Om];omega
 simp[Go.binOp,Op.intDiv,a]
theorem zFP (h:RfS S w0 a s bs r) (hat:r.at_≤bs.length) (hS:∀b,(b=a.block∨S b)→b<w0.heap.size) :
  Calls prog 118 #[.pointer (some a)] w0 (fun e w'=>∃x:Int,e=.returned (.int .u64 x)∧(x=((vU bs r).1:Int)∧RfS S w' a s bs (vU bs r).2∧Ext (·=a.block) w0 w')):=by
 refine w_I2 (some a) w0 (fun x w'=>x=((vU bs r).1:Int)∧RfS S w' a s bs (vU bs r).2∧Ext (·=a.block) w0 w') ?_
 unfold m_I2
 have hsm:=h.small
 refine ⟨a,rfl,_,h.errC,fun hc=>?_,fun hc=>?_⟩
 ·have he:r.err≠0:=by have:=bne_iff_ne.1 hc;omega
  have hr:vU bs r=(0,r):=by unfold vU;rw [if_neg he]
  rw [hr];exact ⟨rfl,h,Ext.refl _⟩
 have he:r.err=0:=by grind
 have bad : ∀ (x : Nat) (H : NP) (w : World), (∀ b, (b = a.block ∨ S b) → ¬ H b) → RfS S w a s bs r → Ext (· = a.block) w0 w → xR 0 0 (bs.drop r.at_) = .error x →
   Calls prog 170 #[.pointer (some a),.int .i64 x,.int .i64 (r.at_:Int)] w (fun e w'=>e=.returned (.tuple #[])∧Kept H w w'∧((0:Int)=((vU bs r).1:Int)∧RfS S w' a s bs (vU bs r).2∧Ext (·=a.block) w0 w')):=by
  intro x H w hv hR hE hrd
  have hr:vU bs r=(0,⟨r.at_,x,r.at_⟩):=by unfold vU;rw [if_pos he,hrd]
  refine (zAK a s bs r w hR he x r.at_).mono ?_
  rintro _ w' ⟨rfl,hR',X⟩
  rw [hr]
  exact ⟨rfl,X.kept (by grind),rfl,hR',hE.trans X⟩
 refine ⟨fun n i Hl w=>∃acc k:Nat,n=(acc:Int)∧i=(k:Int)∧k≤9∧acc<2 ^ (7*k)∧r.at_+k≤bs.length∧xR k acc (bs.drop (r.at_+k))=xR 0 0 (bs.drop r.at_)∧RfS S w a s bs r∧(∀b,(b=a.block∨S b)→¬ Hl b)∧Pure w0 w,fun _ i _=>(10 - i).toNat,⟨0,0,rfl,rfl,by omega,by simp,by simpa using hat,rfl,h,fun _ _ h=>h,Ext.refl _⟩,?_⟩
 rintro _ _ Hl wl hl ⟨acc,k,rfl,rfl,hk,hacc,hle,hrd,hR,hv,hE⟩
 unfold m_I2_l1
 have hSl:∀{w:World},Pure w0 w→∀b,(b=a.block∨S b)→b<w.heap.size:=fun E b hb=>by have:=hS b hb;have:=E.size;omega
 refine ⟨a,rfl,fun w1 hs1=>?_⟩
 have R1:=hR.ext hs1.ext (hs1.disj (by grind))
 have E1:=hE.hst hs1
 have hwk:IntKind.i64.wrap ((r.at_:Int)+(k:Int))=((r.at_+k:Nat):Int):=by rw [IntWalk.i64_in _ (by omega)];omega
 refine ⟨_,R1.atC,a,rfl,s,R1.box.cell0,fun hc=>?_,fun hc=>?_⟩
 ·have hge:r.at_+k=bs.length:=by rw [hwk] at hc;have:=of_decide_eq_true hc;have:=R1.len;omega
  refine ⟨a,rfl,_,R1.atC,?_⟩
  exact bad 3 Hl w1 hv R1 (Ext.pure E1) (by rw [← hrd,hge,List.drop_length];rfl)
 ·have hlt:r.at_+k<bs.length:=by rw [hwk] at hc;have:=of_decide_eq_false hc;have:=R1.len;omega
  refine ⟨a,rfl,fun w3 hs3=>?_⟩
  have R3:=R1.ext hs3.ext (hs3.disj (by grind))
  have E3:=E1.hst hs3
  obtain ⟨a7,hat7,_,hv7⟩:=jRC R3.lst hlt
  have hdrop:bs.drop (r.at_+k)=bs[r.at_+k] :: bs.drop (r.at_+k+1):=List.drop_eq_getElem_cons hlt
  refine ⟨s,R3.box.cell0,a,rfl,_,R3.atC,a7,by rw [hwk];exact hat7,_,hv7,?_⟩
  generalize bs[r.at_+k]=c at *
  have hc256:=c.toNat_lt
  rw [hdrop,xQ] at hrd
  have visH:∀{H H':NP} {w w':World},Pure w0 w→(∀b,(b=a.block∨S b)→¬ H b)→Hst w0 H w H' w'→∀b,(b=a.block∨S b)→¬ H' b:=fun E hv hs=>hs.disj (by grind)
  refine ⟨fun hb=>⟨a,rfl,fun H1 w4 hs4=>?_⟩,fun hb H1 w4 hs4=>?_⟩
  ·have hv4:=visH E3 hv hs4
   have R4:=R3.ext hs4.ext hv4
   have hb':k=9∧1<c.toNat:=by simp at hb;omega
   rw [if_pos hb'] at hrd
   exact ⟨_,R4.atC,bad 11 H1 w4 hv4 R4 (Ext.pure (E3.hst hs4)) hrd.symm⟩
  ·have hv4:=visH E3 hv hs4
   have R4:=R3.ext hs4.ext hv4
   have E4:=E3.hst hs4
   have hb':¬ (k=9∧1<c.toNat):=by intro hh;simp at hb;omega
   rw [if_neg hb'] at hrd
   have hpw:c.toNat % 128*2 ^ (7*k)<18446744073709551616:=by
    by_cases h9:k=9
    ·subst h9;omega
    ·have h8:2 ^ (7*k)≤2 ^ 56:=Nat.pow_le_pow_right (by omega) (by omega);have h127:c.toNat % 128≤127:=by omega
     calc c.toNat % 128*2 ^ (7*k)≤127*2 ^ 56:=Nat.mul_le_mul h127 h8
      _<18446744073709551616:=by decide
   have hac:acc<18446744073709551616:=Nat.lt_of_lt_of_le hacc (by
    calc 2 ^ (7*k)≤2 ^ 63:=Nat.pow_le_pow_right (by omega) (by omega)
     _≤18446744073709551616:=by decide)
   have h7:IntKind.u64.wrap (IntKind.i64.wrap (7*(k:Int)))=((7*k:Nat):Int):=by
    rw [IntWalk.i64_in _ (by omega),show (7*(k:Int))=((7*k:Nat):Int) by omega,vX (by omega)]
   have h128:128 ^ k=2 ^ (7*k):=by rw [Nat.pow_mul]
   have hsum:acc ||| (c.toNat % 128*2 ^ (7*k))=acc+c.toNat % 128*2 ^ (7*k):=zFE hacc
   have hsl:acc+c.toNat % 128*2 ^ (7*k)<18446744073709551616:=by rw [← hsum];exact Nat.or_lt_two_pow (n:=64) hac hpw
   have hwn:IntKind.u64.wrap ((acc:Int)+((c.toNat % 128*2 ^ (7*k):Nat):Int))=((acc+c.toNat % 128*2 ^ (7*k):Nat):Int):=by
    rw [show ((acc:Int)+((c.toNat % 128*2 ^ (7*k):Nat):Int))=((acc+c.toNat % 128*2 ^ (7*k):Nat):Int) by omega,vX hsl]
   refine ⟨_,zCF c.toNat hc256,((c.toNat % 128*2 ^ (7*k):Nat):Int),by rw [h7,vX (by omega)];exact zCE _ _ (by omega) hpw,?_⟩
   rw [hwn]
   refine ⟨fun hs=>?_,fun hs=>⟨fun hz=>⟨a,rfl,fun H2 w6 hs6=>?_⟩,fun hz=>⟨a,rfl,fun H2 w6 hs6=>?_⟩⟩⟩
   ·have hs':¬ c.toNat<128:=by have:=of_decide_eq_true hs;omega
    rw [if_neg hs',h128] at hrd
    have hk9:k≠9:=by omega
    rw [zQ (n:=10) (by omega) (by omega)]
    refine ⟨⟨_,k+1,rfl,rfl,by omega,?_,by omega,hrd,R4,hv4,E4⟩,by show (10 - ((k+1:Nat):Int)).toNat<(10 - (k:Int)).toNat;omega⟩
    have:2 ^ (7*(k+1))=128*2 ^ (7*k):=by rw [Nat.mul_add,Nat.pow_add];omega
    rw [this]
    have h127:c.toNat % 128*2 ^ (7*k)≤127*2 ^ (7*k):=Nat.mul_le_mul_right _ (by omega)
    omega
   ·have hs':c.toNat<128:=by have:=of_decide_eq_false hs;omega
    rw [if_pos hs'] at hrd
    have hv6:=visH E4 hv4 hs6
    have R6:=R4.ext hs6.ext hv6
    have hz':c.toNat=0∧0<k:=by simp at hz;omega
    rw [if_pos hz'] at hrd
    exact ⟨_,R6.atC,bad 10 H2 w6 hv6 R6 (Ext.pure (E4.hst hs6)) hrd.symm⟩
   ·have hs':c.toNat<128:=by have:=of_decide_eq_false hs;omega
    rw [if_pos hs'] at hrd
    have hv6:=visH E4 hv4 hs6
    have R6:=R4.ext hs6.ext hv6
    have hz':¬ (c.toNat=0∧0<k):=by intro hh;simp at hz;omega
    rw [if_neg hz',h128] at hrd
    have hr:vU bs r=(acc+c.toNat*2 ^ (7*k),⟨r.at_+(k+1),0,r.spot⟩):=by unfold vU;rw [if_pos he,← hrd]
    rw [hr]
    have hwa:IntKind.i64.wrap (IntKind.i64.wrap ((r.at_:Int)+(k:Int))+1)=((r.at_+(k+1):Nat):Int):=by
     rw [hwk,IntWalk.i64_in _ (by omega)];omega
    refine ⟨_,R6.atC,a,rfl,R6.box.canW (i:=1) (by simp),by rw [zG];exact hv6 _ (.inl rfl),?_⟩
    rintro w8 e8
    rw [hwa] at e8
    have R8:=R6.setAt (r.at_+(k+1))
    rw [← e8,he] at R8
    refine ⟨by rw [Nat.mod_eq_of_lt hs'],R8,?_⟩
    rw [e8]
    exact (Ext.pure (E4.hst hs6)).trans qQ
theorem zHK (most:Nat) (hm:most<1000000) (h:RfS S w0 a s bs r) (hat:r.at_≤bs.length) (hS:∀b,(b=a.block∨S b)→b<w0.heap.size) :
  Calls prog 119 #[.pointer (some a),.int .i64 most] w0 (fun e w'=>∃x:ByteArray,e=.returned (.string x)∧(x=⟨(qF bs most r).1.toArray⟩∧RfS S w' a s bs (qF bs most r).2∧Ext (·=a.block) w0 w')):=by
 refine w_Z5 (some a) _ w0 (fun x w'=>x=⟨(qF bs most r).1.toArray⟩∧RfS S w' a s bs (qF bs most r).2∧Ext (·=a.block) w0 w') ?_
 unfold m_Z5
 have hsm:=h.small
 refine ⟨a,rfl,_,h.atC,?_⟩
 refine (zFP a s bs r w0 h hat hS).mono ?_
 rintro _ w1 ⟨_,rfl,rfl,hR1,X1⟩
 refine ⟨_,rfl,X1.kept (fun b hb=>hb.elim),a,rfl,_,hR1.errC,fun hc=>?_,fun hc=>?_⟩
 ·have he:(vU bs r).2.err≠0:=by have:=bne_iff_ne.1 hc;omega
  have hr:qF bs most r=([],(vU bs r).2):=by
   unfold qF vU at *;by_cases h0:r.err=0
   ·grind
   ·rw [if_neg h0,if_neg h0]
  rw [hr];exact ⟨rfl,hR1,X1⟩
 have he1:(vU bs r).2.err=0:=by grind
 obtain ⟨he0,hdr,hn64⟩:=uJ he1
 have hat1:=(jMV bs r hat)
 have hrt:qF bs most r=(if most<(vU bs r).1 then ([],⟨r.at_,1,r.at_⟩) else if bs.length<(vU bs r).2.at_+(vU bs r).1 then ([],⟨r.at_,3,r.at_⟩) else ((bs.drop (vU bs r).2.at_).take (vU bs r).1,⟨(vU bs r).2.at_+(vU bs r).1,0,r.spot⟩)):=by
  unfold qF vU at *;rw [if_pos he0] at he1 ⊢;rw [if_pos he0];cases hrd:xR 0 0 (bs.drop r.at_) with
  | error x=>rw [hrd] at he1;simp only at he1;exfalso;exact jJL hrd he1
  | ok p=>rfl
 have hsp:(vU bs r).2.spot=r.spot:=by
  unfold vU at he1 ⊢;rw [if_pos he0] at he1 ⊢;cases hrd:xR 0 0 (bs.drop r.at_) with
  | error x=>rw [hrd] at he1;simp only at he1;exfalso;exact jJL hrd he1
  | ok p=>rfl
 rw [hrt]
 generalize vU bs r=q at *
 obtain ⟨n,r1⟩:=q
 simp only at *
 have hS1:∀b,(b=a.block∨S b)→b<w1.heap.size:=fun b hb=>by have:=hS b hb;have:=X1.size;omega
 have bad : ∀ (e : Nat) (H : NP) (w w' : World), (∀ b, (b = a.block ∨ S b) → ¬ H b) → RfS S w a s bs r1 → Ext (· = a.block) w0 w → w' = w.setCell (a.add 1) (.int .i64 (r.at_ : Int)) →
   Calls prog 170 #[.pointer (some a),.int .i64 e,.int .i64 (r.at_:Int)] w' (fun en w2=>en=.returned (.tuple #[])∧Kept H w' w2∧(RfS S w2 a s bs ⟨r.at_,e,r.at_⟩∧Ext (·=a.block) w0 w2)):=by
  intro e H w w' hv hR hE e'
  have hR':=hR.setAt r.at_
  rw [← e'] at hR'
  refine (zAK a s bs _ w' hR' he1 e r.at_).mono ?_
  rintro _ w2 ⟨rfl,hR2,X⟩
  refine ⟨rfl,X.kept (by grind),hR2,(hE.trans ?_).trans X⟩
  rw [e'];exact qQ
 have hwm:IntKind.u64.wrap (most:Int)=(most:Int):=vX (by omega)
 refine ⟨fun hc=>⟨a,rfl,fun H1 w2 hs2=>?_⟩,fun hc=>⟨a,rfl,fun H1 w5 hs5=>?_⟩⟩
 ·have hc:most<n:=by rw [hwm] at hc;simp at hc;omega
  rw [if_pos hc]
  have hv:∀b,(b=a.block∨S b)→¬ H1 b:=hs2.disj (fun b hb=>⟨hS1 b hb,id⟩)
  have R2:=hR1.ext hs2.ext hv
  refine ⟨R2.box.canW (i:=1) (by simp),by rw [zG];exact hv _ (.inl rfl),?_⟩
  rintro w3 e3
  refine (bad 1 H1 w2 w3 hv R2 (X1.hst hs2) e3).mono ?_
  rintro _ w4 ⟨rfl,hk,hR4,X4⟩
  exact ⟨rfl,hk,rfl,hR4,X4⟩
 ·have hc:¬ most<n:=by rw [hwm] at hc;simp at hc;omega
  rw [if_neg hc]
  have hv:∀b,(b=a.block∨S b)→¬ H1 b:=hs5.disj (fun b hb=>⟨hS1 b hb,id⟩)
  have R5:=hR1.ext hs5.ext hv
  have X5:=X1.hst hs5
  have hwl:IntKind.u64.wrap (IntKind.i64.wrap ((s.len:Int) - (r1.at_:Int)))=((bs.length - r1.at_:Nat):Int):=by
   rw [hR1.len,IntWalk.i64_in _ (by omega),show ((bs.length:Int) - (r1.at_:Int))=((bs.length - r1.at_:Nat):Int) by omega,vX (by omega)]
  refine ⟨s,R5.box.cell0,a,rfl,_,R5.atC,fun hc2=>⟨a,rfl,R5.box.canW (i:=1) (by simp),by rw [zG];exact hv _ (.inl rfl),?_⟩,fun hc2=>⟨a,rfl,fun w8 hs8=>?_⟩⟩
  ·have hc2:bs.length<r1.at_+n:=by rw [hwl] at hc2;have:=of_decide_eq_true hc2;omega
   rw [if_pos hc2]
   rintro w6 e6
   refine (bad 3 H1 w5 w6 hv R5 X5 e6).mono ?_
   rintro _ w7 ⟨rfl,hk,hR7,X7⟩
   exact ⟨rfl,hk,rfl,hR7,X7⟩
  ·have hc2:¬ bs.length<r1.at_+n:=by rw [hwl] at hc2;have:=of_decide_eq_false hc2;omega
   rw [if_neg hc2]
   have hv8:∀b,(b=a.block∨S b)→¬ H1 b:=hv
   have R8:=R5.ext hs8.ext hv8
   have hwn:IntKind.i64.wrap (n:Int)=(n:Int):=IntWalk.i64_in _ (by omega)
   have hwa:IntKind.i64.wrap ((r1.at_:Int)+(n:Int))=((r1.at_+n:Nat):Int):=by rw [IntWalk.i64_in _ (by omega)];omega
   rw [hwn]
   obtain ⟨s1,hsl,hL1⟩:=R8.lst.sub (P:=prog) jEY R8.room (k:=.i64) (lo:=r1.at_) (n:=n) (by rw [vW];omega)
   have hbt:((byr bs).drop r1.at_).take n=byr ((bs.drop r1.at_).take n):=by simp [byr,List.map_take,List.map_drop]
   rw [hbt] at hL1
   refine ⟨s,R8.box.cell0,a,rfl,_,R8.atC,a,rfl,_,R8.atC,s1,by rw [hwa];exact hsl,_,str_of hL1,a,rfl,_,R8.atC,a,rfl,R8.box.canW (i:=1) (by simp),by rw [zG];exact hv _ (.inl rfl),?_⟩
   rintro w9 e9
   rw [hwa] at e9
   have R9:=R8.setAt (r1.at_+n)
   rw [← e9,he1,hsp] at R9
   refine ⟨rfl,R9,?_⟩
   rw [e9]
   exact (X5.hst hs8).trans qQ
def c_rNew{S0}(sb bs w0)(hs:Lst S0 w0 1 sb (byr bs))(t:bs.length<=100000000):
  cl 57 #[sb.v] w0<|XD fun x w'=>∃a s',x=some a/\RfS s'.blk w' a s' bs ⟨0,0,0⟩/\Pure w0 w'/\w0.heap.size<=a.block/\(∀b,s'.blk b->w0.heap.size<=b/\b<w'.heap.size):=by
 refine w_V5 _ w0 _ ?_
 intro m o n2
 have n:Pure w0 o:=Ext.new n2
 have r:Rws o 5 1 ⟨some m,0,0⟩ []:=Rws.empty n2
 have q:=n2.at_size
 have B:=n.size
 have⟨s1,i,hr,f,z,k⟩:=r.appendL (P:=prog) (ty:=59) jEY (hs.pure n) (jMB bs) (jTE bs) (by rw[vW];simp;omega) (by rw[vW];simp only[maxLen,length_nil];omega)
 rw[nil_append]at f
 have o2:∀b,(Sl.mk (some m) 0 0).blk b->b=m.block:=fun b c=>by obtain⟨a,u,rfl⟩:=c;cases u;rfl
 have l:∀b,s1.blk b->w0.heap.size<=b:=fun b c=>(k b c).elim Gd fun h=>Om
 have p:Pure w0 i:=n.trans' z Gd
 refine⟨s1,i,hr,?_⟩
 intro p3 w n3
 have j:Pure i w:=Ext.new n3
 have y:=n3.at_size
 have C:=p.size;have A:=j.size
 have d:s1.len<=s1.cap:=by
  rcases f.own with⟨rfl,_⟩|⟨g,cur,_,_,s,_⟩;exact Nat.le_refl _;rw[f.len];exact s
 exact⟨p3,s1,rfl,⟨Box.of_newA n3,f.lst.pure j,fun b c e=>Oh<|f.lt c,t,d⟩,p.trans j,Om,fun b c=>⟨l b c,Oh<|f.lt c⟩⟩
end
end Go.Proofs
end
section
open Go Go.SE
namespace Go.Proofs
open Tryz
attribute [local irreducible] Calls
def zBY:SlType prog 189 4 1 1:=by
 refine⟨underlying189,⟨t4,_,Kf,(by kernel_rfl:t4.zero=some (vb false)),Kf,Kf,rfl⟩,Om⟩
def jXO:∀i z,prog.info? 4=some i->i.zero=some z->z.cells=#[Value.bool false]:=by
 intro i z hi a;have h1:prog.info? 4=some t4:=Kf;rw[h1]at hi;cases hi;have h2:t4.zero=some (vb false):=Kf;rw[h2]at a;cases a;rfl
def brw(n:Nat)(V:Int->Bool):List (List Value):=(List.range n).map fun i:Nat=>[Value.bool<|V (i:Int)]
def jNQ(n V):(brw n V).length=n:=by simp[brw]
def zAY(n):List.replicate n [Value.bool false]=brw n (fun _=>false):=by
 unfold brw;rw[List.map_const',List.length_range]
def zIG(n V t b):(brw n V).set t [vb b]=brw n (updq V (t:Int) b):=by
 apply List.ext_getElem?;intro i;rw[List.getElem?_set];by_cases h:t=i;subst h;rw[if_pos rfl];by_cases a:t<n;simp[brw,a,updq];simp[brw,a];rw[if_neg h];by_cases a:i<n;simp[brw,a,updq,show ¬(i:Int)=t by omega];simp[brw,a]
section
variable {w w':World} {e:TypeId} {s:Sl} {n:Nat} {V:Int->Bool}
def zII(h:Rws w e 1 s (brw n V)){t:Int}(b:0<=t)(ht:t<n):∃a,At s t 1 a/\s.blk a.block/\w.cell? a=some (vb<|V t):=by
 have⟨a,h1,h2,h3⟩:=h.at b (by rw[jNQ];omega);refine⟨a,h1,h3,?_⟩;have:(brw n V)[t.toNat]'(by rw[jNQ];omega)=[Value.bool<|V t]:=by
  simp only[brw,List.getElem_map,List.getElem_range];rw[show((t.toNat:Nat):Int)=t by omega]
 rw[this]at h2;exact jBB h2
def zIH(h:Rws w e 1 s (brw n V)){t:Int}(r:0<=t)(ht:t<n):∃a,At s t 1 a/\s.blk a.block/\zV w a/\∀b,Rws (w.setCell a<|vb b) e 1 s (brw n<|updq V t b)/\Ext s.blk w (w.setCell a<|vb b):=by
 have c:∀b:Bool,∃a,At s t 1 a/\(∀j,j<1->zV w (a.add j))/\∀w',w'=storeRow w a [Value.bool b]->Rws w' e 1 s ((brw n V).set t.toNat [vb b])/\Ext s.blk w w':=fun b=>h.set (i:=t.toNat) (by rw[jNQ];omega) rfl (by omega);have⟨a,f,q,_⟩:=c true;have⟨u,h1,_,p⟩:=h.at r (by rw[jNQ];omega);have k:∀{x:Addr},At s t 1 x->x=a:=fun o=>by
  obtain⟨_,_,b1,l,rfl⟩:=o;obtain⟨_,_,b2,d,rfl⟩:=f;rw[l]at d;cases d;rfl
 have g:a.add 0=a:=by simp[Addr.add]
 refine⟨a,f,?_,by have:=q 0 (by omega);rwa [g]at this,fun b=>?_⟩;grind;have⟨x,o,_,m⟩:=c b;have:=k o;subst this;have hst:storeRow w x [Value.bool b]=w.setCell x (vb b):=by show w.setCell (x.add 0) (vb b)=_;rw[g]
 have⟨r1,r2⟩:=m _ rfl;rw[hst]at r1 r2;rw[zIG,show((t.toNat:Nat):Int)=t by omega]at r1;exact⟨r1,r2⟩
end
structure WalkAt(w:World)(x q:Addr)(L:Pool)(st:(Int->Bool)×List Int)(a:NP)(sv so:Sl):Prop where
 box:Box w x [vp<|some q,sv.v,so.v] 191
 seen:Rws w 4 1 sv (brw (L.length+1) st.1)
 out:Rws w 73 1 so (tmr st.2)
 pool:vK w q L a
 n1:¬sv.blk x.block
 n2:¬so.blk x.block
 n3:∀b,sv.blk b->¬so.blk b
 n4:∀b,a b->b≠x.block/\¬sv.blk b/\¬so.blk b
def WF(x:Addr)(sv so:Sl)(b:Nat):Prop:=b=x.block\/sv.blk b\/so.blk b
def vK.at7{w q L FR}(h:vK w q L FR){t}(ht:inP L t=true)(c:Ok L):∃v,w.cell? q=some (Sl.v v)/\∃a,At v (IntKind.i64.wrap<|t-1) 7 a/\w.cell? (a.add 5)=some (vi (nodeOf L t).a)/\w.cell? (a.add 6)=some (vi (nodeOf L t).b):=by
 have⟨s1,f,g,h,_⟩:=h;obtain⟨i,hi,rfl⟩:=jCA ht;have:=c.few;have⟨a,h1,h2⟩:=h.r1.nth hi;rw[IntWalk.i64_in _<|by omega,show(i:Int)+1-1=i by omega];have d:=qJ hi;have e:zCH L[i]=oO (nodeOf L<|(i:Int)+1):=by rw[d];rfl
 rw[e]at h2;exact⟨s1,h.box.cell0,a,h1,h2 5<|by simp[oO],h2 6<|by simp[oO]⟩
def jQI(x q:Addr){L:Pool}(s:Wf L):∀(n:Nat) (t:Int) (g:World) (st:(Int->Bool)×List Int) (A:NP) (sv so:Sl),t.toNat<n->WalkAt g x q L st A sv so->OvOk L st->(∀y,st.1 y=true->y<=t->y∈st.2) ->
  cl 123 #[vp (some x),vi t] g (fun e w'=>e=.returned (.tuple #[])/\∃m,WalkAt w' x q L (yT L n t st) A sv m/\Ext (WF x sv so) g w'/\∀b,m.blk b->so.blk b\/g.heap.size<=b):=by
 intro n
 induction n with
 |zero=>intro t g st A sv so h;omega
 |succ n ih =>
 intro t g st A sv so hn h hst hm
 have hR:=jAC s (n+1) t st hn hst hm
 suffices key:∀K:WP,(∀m w',WalkAt w' x q L (yT L (n+1) t st) A sv m->Ext (WF x sv so) g w'->(∀b,m.blk b->so.blk b\/g.heap.size<=b)->K w')->m_E1 (some x) t g K from
  w_E1 _ _ g _ (key _ Gd)
 intro K D
 refine⟨x,rfl,_,h.box.cell0,?_⟩
 refine(yV q t g h.pool).mono ?_
 rintro _ g ⟨r1,rfl,rfl,rfl⟩
 refine⟨_,rfl,fun hc=>?_,fun hc=>?_⟩
 have f:inP L t=false:=by simpa using hc
 refine Br.t rfl ?_
 rw[yT,if_neg (by simp[f])]at D
 exact D so g h (Ext.refl _) fun b d=>.inl d
 have f:inP L t=true:=by simpa using hc
 have⟨t1,tL⟩:=zI.1 f
 have⟨a13,N,_,Y⟩:=zII h.seen (t:=t) Om Om
 refine⟨x,rfl,sv,h.box.cell rfl,a13,N,_,Y,?_⟩
 refine⟨fun V=>?_,fun V=>?_⟩
 rw[yT,if_neg (by simp[V])]at D
 exact D so g h (Ext.refl _) fun b d=>.inl d
 rw[yT,if_pos ⟨f,V⟩]at D hR
 have⟨a2,at2,z,cw2,I⟩:=zIH h.seen (t:=t) Om Om
 refine⟨x,rfl,sv,h.box.cell rfl,a2,at2,cw2,?_⟩
 rintro _ rfl
 have⟨R2,R⟩:=I true
 have A2:WalkAt (g.setCell a2 (vb true)) x q L (updq st.1 t true,st.2) A sv so:=
  ⟨h.box.ext R h.n1,R2,h.out.ext R fun b d z=>h.n3 b z d,h.pool.ext R fun b d z=>(h.n4 b d).2.1 z,h.n1,h.n2,h.n3,h.n4⟩
 generalize g.setCell a2 (vb true)=w2 at *
 have⟨v3,c3,a5,X,ca,cb⟩:=A2.pool.at7 f s.ok
 refine⟨x,rfl,_,A2.box.cell0,q,rfl,v3,c3,a5,X,_,ca,?_⟩
 have Q:∀k,k=(nodeOf L t).a\/k=(nodeOf L t).b->k<t:=by
  intro k u;have o:=(s.node f).2.2.2.2.1;cases hp:inP L k with
  |true=>exact(o k (jPE s f u hp)).2
  |false =>
   have h1:=(s.node f).2.1
   have h2:=(s.node f).2.2.1
   rcases qX (nodeOf L t).kind with e|e|e
   grind
   have b0:=h2 Om
   rcases u with u|u
   have:=(o k (by unfold zB;rw[e,u];simp)).2;exact this
   omega
   exact(o k (by unfold zB;rw[e];rcases u with u|u<;>simp[u])).2
 have la:=Q _ (.inl rfl)
 have lb:=Q _ (.inr rfl)
 have o1:OvOk L (updq st.1 t true,st.2):=⟨fun y C=>by simp only[updq];split<;>simp[hst.marked y C],hst.closed,hst.nd,hst.inp⟩
 have m1:∀y,(updq st.1 t true,st.2).1 y=true->y<=(nodeOf L t).a->y∈(updq st.1 t true,st.2).2:=fun y C hle=>by
  simp only[updq]at C;rw[if_neg Om]at C;exact hm y C Om
 have r1:=jAC s n (nodeOf L t).a _ Om o1 m1
 refine(ih (nodeOf L t).a w2 _ A sv so Om A2 o1 m1).mono ?_
 rintro _ w3 ⟨rfl,S,A3,X3,f3⟩
 generalize hs1:yT L n (nodeOf L t).a (updq st.1 t true,st.2)=s1 at *
 have⟨v6,c6,a8,at8,_,cb3⟩:=A3.pool.at7 f s.ok
 refine⟨rfl,x,rfl,_,A3.box.cell0,q,rfl,v6,c6,a8,at8,_,cb3,?_⟩
 have m2:∀y,s1.1 y=true->y<=(nodeOf L t).b->y∈s1.2:=fun y C hle=>by
  rcases r1.back y C with J|J;simp only[updq]at J;rw[if_neg Om]at J;have:=hm y J Om;have⟨M,e,_⟩:=r1.app;simp only at e;rw[e];exact List.mem_append_left _ this;exact J
 have r2:=jAC s n (nodeOf L t).b s1 Om r1.toOvOk m2
 refine(ih (nodeOf L t).b w3 s1 A sv S Om A3 r1.toOvOk m2).mono ?_
 rintro _ w4 ⟨rfl,p,j,X4,f4⟩
 generalize hs2:yT L n (nodeOf L t).b s1=T at *
 refine⟨rfl,x,rfl,p,j.box.cell rfl,?_⟩
 intro p1 w5 h5
 have E:Pure w4 w5:=Ext.new h5
 have hfew:T.2.length<=65536:=Oi (xV r2.nd r2.inp) s.ok.few
 have⟨l,W,Z,R6,U,f6⟩:=(j.out.pure E).append (P:=prog) (ty:=46) (c:=1) jEX (r:=[vi t]) (Box.of_new h5).row rfl rfl (by rw[zY];omega) (by rw[zY];simp[maxLen];omega)
 have b6:=(j.box.pure E).ext U j.n2
 refine⟨l,W,Z,x,rfl,b6.canW Sm,?_⟩
 rintro _ rfl
 have O:=Ext.setCell (w:=W) (x.add 2) l.v
 rw[zG]at O
 have z2:g.heap.size<=w2.heap.size:=R.size
 have z3:=X3.size
 have z4:=X4.size
 have z5:=E.size
 have B:∀b,l.blk b->p.blk b\/w4.heap.size<=b:=fun b d=>(f6 b d).imp_right fun h=>Om
 have nx:¬l.blk x.block:=fun hh=>(B _ hh).elim j.n2 fun hh=>Oh j.box.lt
 have nv:∀b,sv.blk b->¬l.blk b:=fun b d hh=>(B b hh).elim (j.n3 b d) fun hh=>Oh (j.seen.lt d)
 have H:=D l (W.setCell (x.add 2) l.v)
 refine H ⟨b6.set 2 l.v,((j.seen.pure E).ext U j.n3).ext O fun b d e=>j.n1 (e▸d),?_,((j.pool.pure E).ext U fun b d=>(j.n4 b d).2.2).ext O fun b d e=>(j.n4 b d).1 e,j.n1,nx,nv,fun b d=>⟨(j.n4 b d).1,(j.n4 b d).2.1,fun hh=>(B b hh).elim (j.n4 b d).2.2 fun hh=>Oh (j.pool.lt d)⟩⟩ ?_ ?_
 show Rws _ _ _ _ (tmr (T.2++[t]))
 rw[show tmr (T.2++[t])=tmr T.2++[[vi t]] by simp[tmr]]
 exact R6.ext O fun b d e=>nx (e▸d)
 have G:∀b,p.blk b->b<g.heap.size->so.blk b:=fun b d hlt=>Gd
 have f33:∀b,S.blk b->b<g.heap.size->so.blk b:=fun b d hlt=>(f3 b d).elim id fun h2=>Om
 refine((((R.mono fun b _ d=>.inr (.inl d)).trans X3).trans' X4 fun i hi d=>?_).trans' (E.pure (F:=WF x sv p)) fun i hi d=>?_).trans' ((U.mono fun b _ d=>.inr (.inr d)).trans (O.mono fun b _ e=>.inl e)) fun i hi (d:WF x sv p i)=>?_
 rcases d with d|d|d
 exact .inl d
 exact .inr (.inl d)
 exact .inr (.inr (f33 i d hi))
 rcases d with d|d|d
 exact .inl d
 exact .inr (.inl d)
 exact .inr (.inr (G i d hi))
 rcases d with d|d|d
 exact .inl d
 exact .inr (.inl d)
 exact .inr (.inr (G i d hi))
 grind
theorem jCK (q t w0) {L FR} (hW:Wf L) (hP:vK w0 q L FR) :
  Calls prog 61 #[.pointer (some q),.int .i64 t] w0 (fun e w'=>∃r:Sl,e=.returned r.v∧RetO w0 73 1 (tmr (subs L t)) r w'):=by
 refine w_T5 _ _ w0 (fun r w'=>RetO w0 73 1 (tmr (subs L t)) r w') ?_
 unfold m_T5
 obtain ⟨v1,hv1,hv1l⟩:∃v1:Sl,w0.cell? q=some v1.v∧v1.len=L.length:=by
  obtain ⟨s1,s2,s3,h,_⟩:=hP;exact ⟨s1,h.box.cell0,by rw [h.r1.len];simp⟩
 have hL:=hW.ok.few
 refine ⟨q,rfl,v1,hv1,?_⟩
 rw [hv1l,IntWalk.i64_in _ (by omega),show ((L.length:Int)+1)=((L.length+1:Nat):Int) by omega]
 obtain ⟨w1,hr1,R1,E1⟩:=Rws.make (P:=prog) zBY jXO (k:=.i64) (k':=.i64) (n:=L.length+1) (by omega) (by simp [maxLen];omega) w0
 rw [zAY] at R1
 refine ⟨_,w1,hr1,?_⟩
 intro p2 w2 h2
 have E2:Pure w1 w2:=Ext.new h2
 have hp2:=h2.at_size
 have hnil:∀b,¬ Sl.nil.blk b:=fun b hb=>by obtain ⟨a,h,_⟩:=hb;cases h
 have hsv:∀b,(Sl.mk (some ⟨w0.heap.size,0,none⟩) (L.length+1) (L.length+1)).blk b→b=w0.heap.size:=by rintro b ⟨a,ha,rfl⟩;cases ha;rfl
 have z1:=E1.size
 have l1:w0.heap.size<w1.heap.size:=R1.lt ⟨_,rfl,rfl⟩
 have A2:WalkAt w2 p2 q L (fun _=>false,[]) FR ⟨some ⟨w0.heap.size,0,none⟩,L.length+1,L.length+1⟩ Sl.nil:=by
  refine ⟨Box.of_new h2,R1.pure E2,Rws.nil _ _ _,(hP.pure E1).pure E2,fun hb=>by have:=hsv _ hb;omega,hnil _,fun b _=>hnil b,fun b hb=>⟨fun e=>?_,fun hh=>?_,hnil b⟩⟩
  ·have:=hP.lt hb;omega
  ·have:=hsv _ hh;have:=hP.lt hb;omega
 refine (jQI p2 q hW (t.toNat+1) t w2 _ FR _ Sl.nil (by omega) A2 ⟨by simp,by simp,by simp,by simp⟩ (by simp)).mono ?_
 rintro _ w3 ⟨rfl,so,A3,X3,f3⟩
 refine ⟨rfl,so,A3.box.cell rfl,A3.out,fun b hb=>?_,(E1.trans E2).trans' X3 (fun i hi hb=>?_)⟩
 ·rcases f3 b hb with h | h
  ·exact (hnil b h).elim
  ·have:=E2.size;omega
 ·rcases hb with hb | hb | hb
  ·omega
  ·have:=hsv _ hb;omega
  ·exact hnil _ hb
end Go.Proofs
end
section
open Go Go.SE
namespace Go.Proofs
open Tryz
attribute [local irreducible] Calls CallsD
def jMC{s i sz a}(h:At s i sz a):s.blk a.block:=by
 obtain⟨_,_,b,c,rfl⟩:=h;exact⟨b,c,(zG _ _).symm⟩
def jYG{w e s A}(h:Rws w e 1 s (tmr A)){k:Int}{j:Nat}(o:k=j)(r:j<A.length):
  ∃a,At s k 1 a/\s.blk a.block/\zV w a/\∀v,Rws (w.setCell a<|.int .i64 v) e 1 s (tmr<|A.set j v)/\Ext s.blk w (w.setCell a<|.int .i64 v):=by
 have b:∀v:Int,∃a,At s k 1 a/\(∀j,j<1->zV w (a.add j))/\∀w',w'=storeRow w a [Value.int .i64 v]->Rws w' e 1 s ((tmr A).set j [.int .i64 v])/\Ext s.blk w w':=fun v=>h.set (i:=j) (by rw[zY];omega) rfl o
 have⟨a,c,p,_⟩:=b 0
 have g:∀{x:Addr},At s k 1 x->x=a:=fun n=>by
  obtain⟨_,_,b1,l,rfl⟩:=n;obtain⟨_,_,b2,d,rfl⟩:=c;rw[l]at d;cases d;rfl
 have f:a.add 0=a:=by simp[Addr.add]
 refine⟨a,c,jMC c,by have:=p 0 Om;rwa [f]at this,fun v=>?_⟩
 have⟨x,n,_,m⟩:=b v
 have:=g n;subst this
 have hst:storeRow w x [Value.int .i64 v]=w.setCell x (.int .i64 v):=by show w.setCell (x.add 0) (.int .i64 v)=_;rw[f]
 have⟨r1,r2⟩:=m _ rfl
 rw[hst]at r1 r2
 have q:(tmr A).set j [.int .i64 v]=tmr (A.set j v):=by simp[tmr,List.map_set]
 rw[q]at r1
 exact⟨r1,r2⟩
def opt(c:Bool)(f:Fld)(n:Node)(na nb:Nat):List UInt8:=if c then f.bytes n na nb else[]
def zDO(n na nb)(h1:1<=n.kind)(a:n.kind<=9):(qL n.kind).flatMap (Fld.bytes n na nb) =
  opt (s_O n.kind) .from_ n na nb++opt ((n.kind==8) ||(n.kind==9)) .to_ n na nb++opt (n.kind==2) .num n na nb++opt (n.kind==3) .text n na nb++opt (decide (s_A n.kind>=1)) .fst n na nb++opt (s_A n.kind==2) .snd n na nb:=by
 rw[qS]
 have:n.kind=1\/n.kind=2\/n.kind=3\/n.kind=4\/n.kind=5\/n.kind=6\/n.kind=7\/n.kind=8\/n.kind=9:=Om
 rcases this with e|e|e|e|e|e|e|e|e<;>simp[e,qL,opt,s_O,shapeOf]
def zDI{n}(h:s_A n.kind>=1):n.a∈zB n:=by
 rw[qS]at h;unfold zB;rcases qX n.kind with e|e|e<;>rw[e]at h|-<;>simp at h|-
def zDH{n}(h:s_A n.kind=2):n.b∈zB n:=by
 rw[qS]at h;unfold zB;rw[h];simp
structure TxSep(w0:World)(q:Addr)(FR:NP)(s1 r1:Sl)(B:Nat):Prop where
 lR:∀x,FR x->x<B
 lr:∀x,r1.blk x->x<B
 ls:∀x,s1.blk x->x<B/\w0.heap.size<=x/\¬FR x/\¬r1.blk x
 base:w0.heap.size<=B
structure TxAt(w0 w:World)(H:NP)(q:Addr)(L:Pool)(FR:NP)(s1 r1:Sl)(A xs:List Int)(B:Nat)(b:Sl)(bs:List UInt8):Prop where
 pool:vK w q L FR
 at_:Rws w 3 1 s1 (tmr A)
 subs:Rws w 73 1 r1 (tmr xs)
 rows:Rws w 5 1 b (byr bs)
 pure:Pure w0 w
 hB:∀x,H x->B<=x/\x<w.heap.size
 own:∀x,b.blk x->B<=x/\¬H x
 lt:B<=w.heap.size
section
variable {w0 w w':World} {H H':NP} {q:Addr} {L:Pool} {FR:NP} {s1 r1:Sl} {A xs:List Int} {B:Nat} {b b':Sl} {bs bs':List UInt8}
def TxAt.hst(h:TxAt w0 w H q L FR s1 r1 A xs B b bs)(S:TxSep w0 q FR s1 r1 B)(hs:Hst w0 H w H' w'):TxAt w0 w' H' q L FR s1 r1 A xs B b bs:=by
 have c:∀x,H' x->B<=x:=fun x a=>(hs.new x a).elim (fun h1=>(h.hB x h1).1) fun h1=>Oh h.lt;have d:∀x,b.blk x->¬H' x:=hs.disj fun x a=>⟨h.rows.lt a,(h.own x a).2⟩;exact⟨h.pool.ext hs.ext fun x a hh=>Oi (S.lR x a)<|c x hh,h.at_.ext hs.ext fun x a hh=>Oi (S.ls x a)<|c x hh,h.subs.ext hs.ext fun x a hh=>Oi (S.lr x a)<|c x hh,h.rows.ext hs.ext d,h.pure.hst hs,fun x a=>⟨c x a,hs.lt x a⟩,fun x a=>⟨(h.own x a).1,d x a⟩,Nat.le_trans h.lt hs.ext.size⟩
def TxAt.call(h:TxAt w0 w H q L FR s1 r1 A xs B b bs)(hr:RetO w 5 1 (byr bs') b' w'):TxAt w0 w' H q L FR s1 r1 A xs B b' bs':=
 ⟨h.pool.pure hr.pure,h.at_.pure hr.pure,h.subs.pure hr.pure,hr.rows,h.pure.trans hr.pure,fun x a=>⟨(h.hB x a).1,Nat.lt_of_lt_of_le (h.hB x a).2 hr.pure.size⟩,fun x a=>⟨Nat.le_trans h.lt<|hr.own x a,fun hh=>Oi (hr.own x a)<|(h.hB x hh).2⟩,Nat.le_trans h.lt hr.pure.size⟩
end
section
variable (w0:World) (q:Addr) {L:Pool} (hW:Wf L) (hN:yU L) {FR:NP} {s1 r1:Sl} {A xs:List Int} {B:Nat} (S:TxSep w0 q FR s1 r1 B) (i1:Int) (n:Node) (na nb:Nat)
include S
def c_tx6(s:s_A n.kind=2->0<=n.b/\A[n.b.toNat]?=some (nb:Int)/\nb<65537){H w b bs}(h:TxAt w0 w H q L FR s1 r1 A xs B b bs)(y:bs.length<=1000000000)(o:Sl->Int->NP->WP)(K:Sl->WP)(f:∀b' H' w',TxAt w0 w' H' q L FR s1 r1 A xs B b' (bs++opt (s_A n.kind==2) .snd n na nb)->o b' (IntKind.i64.wrap<|i1+1) H' w'):m_B_j6 s1 i1 n.kind n.b b w0 H w o K:=by
 refine⟨fun i=>?_,fun i=>?_⟩;rw[i]at f;have⟨x,t,h2⟩:=s (by simpa using i);have⟨p,l⟩:=List.getElem?_eq_some_iff.1 t;have⟨a,d,_,z⟩:=uQ h.at_.lst p;rw[show((n.b.toNat:Nat):Int)=n.b by omega]at d;refine⟨a,d,fun e hs=>?_⟩;have j:=h.hst S hs;have⟨v,c,_,m⟩:=uQ j.at_.lst p;rw[show((n.b.toNat:Nat):Int)=n.b by omega]at c;have:v=a:=by
  obtain⟨_,_,b1,k,rfl⟩:=d;obtain⟨_,_,b2,g,rfl⟩:=c;rw[k]at g;cases g;rfl
 subst this;refine⟨_,m,?_⟩;rw[l,vX<|by omega];refine(jAP b bs nb e j.rows.lst (by omega)<|by omega).mono ?_;rintro _ u ⟨r,rfl,hr⟩;exact⟨r,rfl,hr.kept,f _ _ _<|j.call hr⟩;rw[i]at f;simp only[opt,Bool.false_eq_true,if_false,List.append_nil]at f;exact fun e hs=>f _ _ _<|h.hst S hs
def c_tx5(x:s_A n.kind>=1->0<=n.a/\A[n.a.toNat]?=some (na:Int)/\na<65537)(p:s_A n.kind=2->0<=n.b/\A[n.b.toNat]?=some (nb:Int)/\nb<65537){H w b bs}(h:TxAt w0 w H q L FR s1 r1 A xs B b bs)(z:bs.length<=900000000)(i:Sl->Int->NP->WP)(K:Sl->WP)(f:∀b' H' w',TxAt w0 w' H' q L FR s1 r1 A xs B b' (bs++opt (decide (s_A n.kind>=1)) .fst n na nb++opt (s_A n.kind==2) .snd n na nb)->i b' (IntKind.i64.wrap<|i1+1) H' w'):m_B_j5 s1 i1 n.kind n.a n.b b w0 H w i K:=by
 refine⟨fun j=>?_,fun j=>?_⟩;rw[j]at f;have⟨y,t,h2⟩:=x<|of_decide_eq_true j;have⟨s,m⟩:=List.getElem?_eq_some_iff.1 t;have⟨a,d,_,C⟩:=uQ h.at_.lst s;rw[show((n.a.toNat:Nat):Int)=n.a by omega]at d;refine⟨a,d,fun e hs=>?_⟩;have k:=h.hst S hs;have⟨v,c,_,o⟩:=uQ k.at_.lst s;rw[show((n.a.toNat:Nat):Int)=n.a by omega]at c;have:v=a:=by
  obtain⟨_,_,b1,l,rfl⟩:=d;obtain⟨_,_,b2,g,rfl⟩:=c;rw[l]at g;cases g;rfl
 subst this;refine⟨_,o,?_⟩;rw[m,vX<|by omega];refine(jAP b bs na e k.rows.lst (by omega)<|by omega).mono ?_;rintro _ u ⟨r,rfl,hr⟩;have:=vO (n:=na) (by omega);exact⟨r,rfl,hr.kept,c_tx6 w0 q S i1 n na nb p (k.call hr) (by grind) i K f⟩;rw[j]at f;simp only[opt,Bool.false_eq_true,if_false,List.append_nil]at f;exact fun e hs=>c_tx6 w0 q S i1 n na nb p (h.hst S hs) (by omega) i K f
def c_tx4(l:n.text.size<=64)(i:s_A n.kind>=1->0<=n.a/\A[n.a.toNat]?=some (na:Int)/\na<65537)(g:s_A n.kind=2->0<=n.b/\A[n.b.toNat]?=some (nb:Int)/\nb<65537){H w b bs}(h:TxAt w0 w H q L FR s1 r1 A xs B b bs)(k:bs.length<=800000000)(d:Sl->Int->NP->WP)(K:Sl->WP)(c:∀b' H' w',TxAt w0 w' H' q L FR s1 r1 A xs B b' (bs++opt (n.kind==3) .text n na nb++opt (decide (s_A n.kind>=1)) .fst n na nb++opt (s_A n.kind==2) .snd n na nb)->d b' (IntKind.i64.wrap<|i1+1) H' w'):m_B_j4 s1 i1 n.kind n.text n.a n.b b w0 H w d K:=by
 refine⟨fun f=>?_,fun f=>?_⟩;rw[f]at c;refine(jXA b bs n.text w h.rows.lst (by omega)<|by omega).mono ?_;rintro _ j ⟨r,rfl,hr⟩;have:=vO (n:=n.text.size) (by omega);have e:n.text.data.toList.length=n.text.size:=Array.length_toList;exact⟨r,rfl,hr.kept,c_tx5 w0 q S i1 n na nb i g (h.call hr) (by rw[List.length_append,vP,List.length_append];omega) d K c⟩;rw[f]at c;simp only[opt,Bool.false_eq_true,if_false,List.append_nil]at c;exact c_tx5 w0 q S i1 n na nb i g h (by omega) d K c
def c_tx3(l:yH n.num)(j:n.text.size<=64)(i:s_A n.kind>=1->0<=n.a/\A[n.a.toNat]?=some (na:Int)/\na<65537)(g:s_A n.kind=2->0<=n.b/\A[n.b.toNat]?=some (nb:Int)/\nb<65537){H w b bs}(h:TxAt w0 w H q L FR s1 r1 A xs B b bs)(o:bs.length<=700000000)(d:Sl->Int->NP->WP)(K:Sl->WP)(c:∀b' H' w',TxAt w0 w' H' q L FR s1 r1 A xs B b' (bs++opt (n.kind==2) .num n na nb++opt (n.kind==3) .text n na nb++opt (decide (s_A n.kind>=1)) .fst n na nb++opt (s_A n.kind==2) .snd n na nb)->d b' (IntKind.i64.wrap<|i1+1) H' w'):m_B_j3 s1 i1 n.kind n.num n.text n.a n.b b w0 H w d K:=by
 refine⟨fun f=>?_,fun f=>?_⟩;rw[f]at c;have⟨p,m⟩:=l;have e:n.num=((n.num.toNat:Nat):Int):=by omega
 rw[e];refine(jAP b bs n.num.toNat w h.rows.lst (by omega)<|by omega).mono ?_;rintro _ k ⟨r,rfl,hr⟩;have:=vO (n:=n.num.toNat) (by omega);exact⟨r,rfl,hr.kept,c_tx4 w0 q S i1 n na nb j i g (h.call hr) (by grind) d K c⟩;rw[f]at c;simp only[opt,Bool.false_eq_true,if_false,List.append_nil]at c;exact c_tx4 w0 q S i1 n na nb j i g h (by omega) d K c
def c_tx2(ht:0<=n.to/\n.to<16)(m:yH n.num)(l:n.text.size<=64)(k:s_A n.kind>=1->0<=n.a/\A[n.a.toNat]?=some (na:Int)/\na<65537)(j:s_A n.kind=2->0<=n.b/\A[n.b.toNat]?=some (nb:Int)/\nb<65537){H w b bs}(h:TxAt w0 w H q L FR s1 r1 A xs B b bs)(s:bs.length<=600000000)(f:Sl->Int->NP->WP)(K:Sl->WP)(c:∀b' H' w',TxAt w0 w' H' q L FR s1 r1 A xs B b' (bs++opt ((n.kind==8) ||(n.kind==9)) .to_ n na nb++opt (n.kind==2) .num n na nb++opt (n.kind==3) .text n na nb++opt (decide (s_A n.kind>=1)) .fst n na nb++opt (s_A n.kind==2) .snd n na nb)->f b' (IntKind.i64.wrap<|i1+1) H' w'):m_B_j2 s1 i1 n.kind n.to n.num n.text n.a n.b b w0 H w f K:=by
 refine⟨fun g o d hs=>?_,fun g o d hs=>?_⟩;rw[g]at c;have i:=h.hst S hs;have e:n.to=((n.to.toNat:Nat):Int):=by omega
 rw[e,vX<|by omega];refine(jAP b bs n.to.toNat d i.rows.lst (by omega)<|by omega).mono ?_;rintro _ p ⟨r,rfl,hr⟩;have:=vO (n:=n.to.toNat) (by omega);exact⟨r,rfl,hr.kept,c_tx3 w0 q S i1 n na nb m l k j (i.call hr) (by grind) f K c⟩;rw[g]at c;simp only[opt,Bool.false_eq_true,if_false,List.append_nil]at c;exact c_tx3 w0 q S i1 n na nb m l k j (h.hst S hs) (by omega) f K c
end
def jQH(q:Addr)(t:Int)(w0:World){L:Pool}{FR:NP}(hW:Wf L)(hN:yU L)(hP:vK w0 q L FR):
  cl 157 #[.pointer<|some q,.int .i64 t] w0<|XA fun r w'=>RetO w0 5 1 (byr<|vI L t) r w':=by
 refine w_B _ _ w0 _ ?_
 refine(jCK q t w0 hW hP).mono ?_
 rintro _ w1 ⟨r1,rfl,f⟩
 have P1:=hP.pure f.pure
 have hfew:=uH hW t
 have T:∀u∈subs L t,inP L u=true:=fun u y=>have h:=(jCS hW).1 y;(Sub.le hW h.1 h.2).1
 have hord:=jMN hW t
 have hnd:=jAG hW t
 have htx:vI L t=textFrom L [] (subs L t):=rfl
 rw[htx]
 generalize hxs:subs L t=xs at *
 have hL:=hW.ok.few
 have Y:∃v1:Sl,w1.cell? q=some v1.v/\v1.len=L.length:=by
  have⟨sa,sb,sc,h,_⟩:=P1;exact⟨sa,h.box.cell0,by rw[h.r1.len];simp⟩
 have⟨v1,Y,hv1l⟩:=Y
 refine⟨r1,rfl,f.kept,q,rfl,v1,Y,?_⟩
 rw[hv1l,show IntKind.i64.wrap ((L.length:Int)+1)=((L.length+1:Nat):Int) by rw[i64 Om Om];omega]
 have⟨w2, hmk, hR2, E2⟩:=Rws.make (P:=prog) jDS (zr:=[.int .i64 0]) (fun i z hi hz => by
   have h1:prog.info? 3=some t3:=Kf;rw[h1]at hi;cases hi;have h2:t3.zero=some (.int .i64 0):=Kf;rw[h2]at hz;cases hz;rfl) (k:=.i64) (k':=.i64) (n:=L.length+1) Om (by simp only[maxLen];omega) w1
 refine⟨_,w2,hmk,E2.keptP,?_⟩
 generalize hs1e:(Sl.mk (some ⟨w1.heap.size,0,none⟩) (L.length+1)<|L.length+1)=s1 at *
 have I:∀x,s1.blk x->x=w1.heap.size:=fun x d=>by subst hs1e;obtain⟨a,ha,rfl⟩:=d;cases ha;rfl
 have hrep:List.replicate (L.length+1) [Value.int .i64 0]=tmr (List.replicate (L.length+1) 0):=by simp[tmr]
 rw[hrep]at hR2
 have z1:=f.pure.size
 have z2:=E2.size
 have W:∀x,s1.blk x->x<w2.heap.size:=fun x d=>hR2.lt d
 have hnil:∀b,¬Sl.nil.blk b:=fun b hb=>by have⟨a,h,_⟩:=hb;cases h
 have S:TxSep w0 q FR s1 r1 w2.heap.size:=⟨fun x d=>Oh<|hP.lt d,fun x d=>Oh<|f.rows.lt d,fun x d=>⟨W x d,Oh<|I x d,fun hh=>Oi (hP.lt hh)<|I x d,fun hh=>Oi (f.rows.lt hh)<|I x d⟩,Om⟩
 have T2:TxAt w0 w2 None q L FR s1 r1 (List.replicate (L.length+1) 0) xs w2.heap.size Sl.nil []:=⟨P1.pure E2,hR2,f.rows.pure E2,Rws.nil _ _ _,f.pure.trans E2,fun x d=>d.elim,fun x d=>(hnil x d).elim,Nat.le_refl _⟩
 generalize w2.heap.size=B at *
 refine⟨fun b i H w=>∃(j:Nat) (A:List Int),i=j/\j<=xs.length/\A.length=L.length+1/\(∀u∈xs.take j,A[u.toNat]?=some ((posOf (xs.take j) u:Nat):Int))/\TxAt w0 w H q L FR s1 r1 A xs B b (textFrom L []<|xs.take j),fun _ i _=>((xs.length:Int)-i).toNat,⟨0,_,rfl,Nat.zero_le _,Sm,Sm,T2⟩,?_⟩
 rintro b _ Hl wl hst ⟨j,A,rfl,hj,hAl,hA,K⟩
 unfold m_B_l1
 have R:r1.len=xs.length:=by rw[K.subs.len,zY]
 refine⟨fun g=>?_,fun g=>?_⟩
 have g:=vR R g
 have D:=T xs[j]<|List.getElem_mem _
 have hz:=zI.1 D
 have M:xs=xs.take j++xs[j] ::xs.drop (j+1):=by rw[<-List.drop_eq_getElem_cons g,List.take_append_drop]
 have hko:=hord _ _ _ M
 have hzn:xs[j]∉xs.take j:=Gd
 have htk:xs.take (j+1)=xs.take j++[xs[j]]:=List.take_succ_eq_append_getElem g
 have hbs:=jBU hW hN (xs.take j) [] Gd Gd
 have hjl:(xs.take j).length=j:=by rw[List.length_take];omega
 rw[hjl]at hbs
 have⟨k1,k9,f0,f1,t0,t1,x1⟩:=jBF hW D
 have O:=hN.node xs[j]
 have⟨a3,l,_,hv3⟩:=uQ K.subs.lst g
 have X:∃(v2:Sl) (a4:Addr),wl.cell? q=some v2.v/\FR q.block/\At v2 (IntKind.i64.wrap<|xs[j]-1) 7 a4/\Row wl a4 (oO<|nodeOf L xs[j])/\FR a4.block:=by
  have⟨sa,sb,sc,h,hF⟩:=K.pool;have⟨e,he,⟨a,g1,g2⟩,_⟩:=h.at1 D hW.ok;refine⟨sa,a,h.box.cell0,(hF _).2<|.inl rfl,g1,?_,(hF _).2<|.inr<|.inl<|jMC g1⟩;have:nodeOf L xs[j]=e.node:=by simp only[nodeOf,he,Option.map_some,Option.getD_some]
  rw[this];exact g2
 have⟨v2,a4,hv2,hFq,hat4,hrow4,hF4⟩:=X
 have hHR:∀x,FR x->¬Hl x:=fun x d hh=>Oi (S.lR x d)<|(K.hB x hh).1
 refine⟨q,rfl,v2,hv2,hHR _ hFq,a3,l,_,hv3,fun hh=>Oi (S.lr _<|jMC l)<|(K.hB _ hh).1,a4,hat4,_,_,_,_,_,_,_,hrow4,hHR _ hF4,a3,l,fun H2 w6 hs6=>?_⟩
 have s:=K.hst S hs6
 have⟨a3',hat3',_,hv3'⟩:=uQ s.subs.lst g
 have:a3'=a3:=by
  obtain⟨_,_,b1,hb1,rfl⟩:=l;obtain⟨_,_,b2,hb2,rfl⟩:=hat3';rw[hb1]at hb2;cases hb2;rfl
 subst this
 have⟨a6,hat6,hb6,hw6,hset⟩:=jYG s.at_ (k:=xs[j]) (j:=xs[j].toNat) Om Om
 refine⟨_,hv3',a6,hat6,hw6,fun hh=>Oi (S.ls _ hb6)<|(s.hB _ hh).1,?_⟩
 rintro w9 h9
 have⟨hA9,Z⟩:=hset (j:Int)
 rw[<-h9]at hA9 Z
 have m:TxAt w0 w9 H2 q L FR s1 r1 (A.set xs[j].toNat j) xs B b (textFrom L []<|xs.take j):=
  ⟨s.pool.ext Z fun x d hh=>(S.ls x hh).2.2.1 d,hA9,s.subs.ext Z fun x d hh=>(S.ls x hh).2.2.2 d,s.rows.ext Z fun x d hh=>Oi ((s.own x d).1)<|(S.ls x hh).1,s.pure.trans' Z Gd,fun x d=>⟨(s.hB x d).1,Oi ((s.hB x d).2) Z.size⟩,s.own,Oi s.lt Z.size⟩
 generalize hz':xs[j]=z at *
 have hnt:yB L (xs.take j) z=UInt8.ofNat (nodeOf L z).kind.toNat ::(qL (nodeOf L z).kind).flatMap (Fld.bytes (nodeOf L z) (posOf (xs.take j) (nodeOf L z).a)<|posOf (xs.take j) (nodeOf L z).b):=rfl
 rw[zDO _ _ _ k1 k9]at hnt
 have V:∀u∈zB (nodeOf L z),0<=u/\(A.set z.toNat (j:Int))[u.toNat]?=some ((posOf (xs.take j) u:Nat):Int)/\posOf (xs.take j) u<65537:=fun u y=>by
  have hm:=hko u y;have hin:=zI.1<|T u<|List.mem_of_mem_take hm;refine⟨Om,?_,by have:=oZ (xs.take j) u;rw[hjl]at this;omega⟩;rw[List.getElem?_set_ne Gd];exact hA u hm
 have hA':∀u∈xs.take (j+1),(A.set z.toNat (j:Int))[u.toNat]?=some ((posOf (xs.take<|j+1) u:Nat):Int):=fun u y=>by
  rw[htk]at y|-;rcases List.mem_append.1 y with y|y;rw[jJQ y,List.getElem?_set_ne Gd];exact hA u y;rw[List.mem_singleton]at y;subst y;rw[jFD hzn,hjl,List.getElem?_set_self Om]
 have hlA':(A.set z.toNat (j:Int)).length=L.length+1:=by rw[List.length_set];exact hAl
 have C:textFrom L [] (xs.take<|j+1)=textFrom L [] (xs.take j)++yB L (xs.take j) z:=by rw[htk,jBA,List.nil_append]
 rw[hnt]at C
 generalize hnz:nodeOf L z=n at *
 obtain⟨kn,hkn⟩:∃kn:Nat,n.kind=kn:=⟨n.kind.toNat,Om⟩
 intro p5 w10 h10
 have p:Pure w9 w10:=Ext.new h10
 rw[hkn,jBR]at h10
 have⟨s2,w11,hr11,hR11,o,U⟩:=(m.rows.pure p).append (P:=prog) (ty:=59) (c:=1) jEY (Box.of_newA h10).row rfl rfl (by rw[vW];omega) (by rw[vW];simp only[maxLen];omega)
 have z10:=p.size
 have z11:=o.size
 have nb:∀x,x<B->¬b.blk x:=fun x d hh=>Oh<|(m.own x hh).1
 have T11:TxAt w0 w11 H2 q L FR s1 r1 (A.set z.toNat j) xs B s2 (textFrom L [] (xs.take j)++[UInt8.ofNat kn]):=
  ⟨(m.pool.pure p).ext o fun x d hh=>nb x (S.lR x d) hh,(m.at_.pure p).ext o Gd,(m.subs.pure p).ext o fun x d hh=>nb x (S.lr x d) hh,by rw[jNP];exact hR11,(m.pure.trans p).trans' o Gd,fun x d=>⟨(m.hB x d).1,Oh<|(m.hB x d).2⟩,fun x d=>⟨(U x d).elim (fun h=>(m.own x h).1) fun h=>Oh m.lt,(U x d).elim (fun h=>(m.own x h).2) fun h hh=>Oh<|(m.hB x hh).2⟩,Oh m.lt⟩
 refine⟨s2,w11,hr11,o.kept fun x d hh=>(m.own x hh).2 d,?_⟩
 have J:n.kind.toNat=kn:=Om
 rw[J]at C
 have Q : ∀ (b' : Sl) (H' : NP) (w' : World), TxAt w0 w' H' q L FR s1 r1 (A.set z.toNat j) xs B b' (textFrom L [] (xs.take j) ++ [UInt8.ofNat kn] ++ opt (s_O n.kind) .from_ n (posOf (xs.take j) n.a) (posOf (xs.take j) n.b) ++ opt ((n.kind == 8) || (n.kind == 9)) .to_ n (posOf (xs.take j) n.a) (posOf (xs.take j) n.b) ++ opt (n.kind == 2) .num n (posOf (xs.take j) n.a) (posOf (xs.take j) n.b) ++ opt (n.kind == 3) .text n (posOf (xs.take j) n.a) (posOf (xs.take j) n.b) ++ opt (decide (s_A n.kind >= 1)) .fst n (posOf (xs.take j) n.a) (posOf (xs.take j) n.b) ++ opt (s_A n.kind == 2) .snd n (posOf (xs.take j) n.a) (posOf (xs.take j) n.b)) ->
   (∃(j':Nat) (A':List Int),IntKind.i64.wrap ((j:Int)+1)=j'/\j'<=xs.length/\A'.length=L.length+1/\(∀u∈xs.take j',A'[u.toNat]?=some ((posOf (xs.take j') u:Nat):Int))/\TxAt w0 w' H' q L FR s1 r1 A' xs B b' (textFrom L []<|xs.take j'))/\((xs.length:Int)-IntKind.i64.wrap ((j:Int)+1)).toNat<((xs.length:Int)-(j:Int)).toNat:=fun b' H' w' h=>by
  refine⟨⟨j+1,_,zQ g Om,g,hlA',hA',?_⟩,by rw[zQ g Om];exact uR g⟩
  rw[C]
  simpa using h
 have E:s_A n.kind>=1->0<=n.a/\(A.set z.toNat (j:Int))[n.a.toNat]?=some ((posOf (xs.take j) n.a:Nat):Int)/\posOf (xs.take j) n.a<65537:=fun h=>V _<|zDI h
 have G:s_A n.kind=2->0<=n.b/\(A.set z.toNat (j:Int))[n.b.toNat]?=some ((posOf (xs.take j) n.b:Nat):Int)/\posOf (xs.take j) n.b<65537:=fun h=>V _<|zDH h
 refine⟨fun J w12 F=>?_,fun J w12 F=>?_⟩
 have N:=T11.hst S F
 have e:n.frm=((n.frm.toNat:Nat):Int):=Om
 rw[e,vX Om]
 refine(jAP s2 _ n.frm.toNat w12 N.rows.lst Gd Om).mono ?_
 rintro _ w16 ⟨r,rfl,hr⟩
 have:=vO (n:=n.frm.toNat) Om
 refine⟨r,rfl,hr.kept,?_⟩
 refine c_tx2 w0 q S j n (posOf (xs.take j) n.a) (posOf (xs.take j) n.b) ⟨t0,t1⟩ O x1 E G (N.call hr) Gd _ _ fun b' H' w' h=>Q b' H' w' ?_
 rw[J];exact h
 have N:=T11.hst S F
 refine c_tx2 w0 q S j n (posOf (xs.take j) n.a) (posOf (xs.take j) n.b) ⟨t0,t1⟩ O x1 E G N (by rw[List.length_append,List.length_singleton];omega) _ _ fun b' H' w' h=>Q b' H' w' ?_
 rw[J]
 simp only[opt,Bool.false_eq_true,if_false,List.append_nil]at h|-
 exact h
 have g:=yI R hj g
 subst g
 rw[List.take_length]at K
 exact⟨K.rows,fun x d=>Oi ((K.own x d).1) S.base,K.pure⟩
def jDJ(q t w0){L FR}(hW:Wf L)(hN:yU L)(i:vK w0 q L FR):
  cl 102 #[vp<|some q,vi t] w0<|XN fun r n w'=>n=(jAN L t).2/\RetO w0 5 1 (byr (jAN L t).1) r w':=by
 refine w_K6 _ _ w0 _ ?_
 unfold m_K6
 have f:∀b,¬Sl.nil.blk b:=fun b g=>by have⟨a,h,_⟩:=g;cases h
 refine(yV q t w0 i).mono ?_
 rintro _ _ ⟨_,rfl,rfl,rfl⟩
 refine⟨_,rfl,fun d=>?_,fun d=>?_⟩
 have c:inP L t=false:=by simpa using d
 have e:jAN L t=([],51):=by unfold jAN;rw[c];rfl
 rw[e]
 exact⟨rfl,Rws.nil _ _ _,fun b g=>(f b g).elim,Ext.refl _⟩
 have c:inP L t=true:=by simpa using d
 refine(jQH q t _ hW hN i).mono ?_
 rintro _ k ⟨r2,rfl,h⟩
 have j:r2.len=(vI L t).length:=by rw[h.rows.len,vW]
 refine⟨r2,rfl,fun d=>?_,fun d=>?_⟩
 have d:=of_decide_eq_true d
 have e:jAN L t=([],1):=by unfold jAN;rw[c,if_pos rfl,if_pos Om]
 rw[e]
 exact⟨rfl,Rws.nil _ _ _,fun b g=>(f b g).elim,h.pure⟩
 have d:=of_decide_eq_false d
 have e:jAN L t=(vI L t,0):=by unfold jAN;rw[c,if_pos rfl,if_neg Om]
 rw[e]
 exact⟨rfl,h⟩
end Go.Proofs
end
section
open Go Go.SE List
namespace Go.Proofs
open Tryz
attribute [local irreducible] Calls CallsD
def stp(bs:List UInt8)(c:Bool)(f:Fld)(s:Raw×Rd):Raw×Rd:=if c then(f.raw bs s.2 s.1,f.rd bs s.2)else s
def jVL(bs:List UInt8)(f:Fld)(s:Raw×Rd):stp bs false f s=s:=rfl
def zGG(bs:List UInt8)(u f t a b kd:Nat)(c:List UInt8)(r:Rd):stp bs true .snd (⟨u,c,f,t,a,b,kd⟩,r)=(⟨u,c,f,t,a,(vU bs r).1,2⟩,(vU bs r).2):=rfl
def zGI(bs:List UInt8)(u f t a b kd:Nat)(c:List UInt8)(r:Rd):stp bs true .fst (⟨u,c,f,t,a,b,kd⟩,r)=(⟨u,c,f,t,(vU bs r).1,b,1⟩,(vU bs r).2):=rfl
def zBT(bs:List UInt8)(u f t a b kd:Nat)(c:List UInt8)(r:Rd):stp bs true .text (⟨u,c,f,t,a,b,kd⟩,r)=(⟨u,(qF bs 64 r).1,f,t,a,b,kd⟩,(qF bs 64 r).2):=rfl
def zGH(bs:List UInt8)(u f t a b kd:Nat)(c:List UInt8)(r:Rd):stp bs true .num (⟨u,c,f,t,a,b,kd⟩,r)=(⟨(vU bs r).1,c,f,t,a,b,kd⟩,(vU bs r).2):=rfl
def stp_to(bs:List UInt8)(u f t a b kd:Nat)(c:List UInt8)(r:Rd):stp bs true .to_ (⟨u,c,f,t,a,b,kd⟩,r)=(⟨u,c,f,(vU bs r).1,a,b,kd⟩,(vU bs r).2):=rfl
def zBU(bs:List UInt8)(u f t a b kd:Nat)(c:List UInt8)(r:Rd):stp bs true .from_ (⟨u,c,f,t,a,b,kd⟩,r)=(⟨u,c,(vU bs r).1,t,a,b,kd⟩,(vU bs r).2):=rfl
def jVW(bs:List UInt8)(k:Nat)(h1:1<=k)(a:k<=9)(s:Raw×Rd):vA bs (qL (k:Int)) s =
  stp bs (s_A (k:Int)==2) .snd (stp bs (decide (s_A (k:Int)>=1)) .fst (stp bs ((k:Int)==3) .text (stp bs ((k:Int)==2) .num (stp bs (((k:Int)==8) ||((k:Int)==9)) .to_ (stp bs (s_O (k:Int)) .from_ s))))):=by
 have⟨x,r⟩:=s
 rw[qS]
 have:k=1\/k=2\/k=3\/k=4\/k=5\/k=6\/k=7\/k=8\/k=9:=Om
 rcases this with e|e|e|e|e|e|e|e|e<;>subst e<;>simp[qL,stp,s_O,shapeOf,vA]
structure NdF(k:Nat)(x:Raw):Prop where
 frm:s_O (k:Int)=false->x.frm=0
 to:(((k:Int)==8) ||((k:Int)==9))=false->x.to=0
 kids:s_A (k:Int)=(x.kids:Int)
def zCL(bs:List UInt8)(k:Nat)(h1:1<=k)(a:k<=9)(r:Rd):NdF k (vA bs (qL (k:Int)) (qZ,r)).1:=by
 have:k=1\/k=2\/k=3\/k=4\/k=5\/k=6\/k=7\/k=8\/k=9:=Om;refine⟨?_,?_,?_⟩;rcases this with e|e|e|e|e|e|e|e|e<;>subst e<;>simp[qL,s_O,vA,Fld.raw,qZ];rcases this with e|e|e|e|e|e|e|e|e<;>subst e<;>simp[qL,vA,Fld.raw,qZ];rw[qS];rcases this with e|e|e|e|e|e|e|e|e<;>subst e<;>simp[qL,shapeOf,vA,Fld.raw,qZ]
def oJ(n:Nat):s_I (n:Int)=if 1073741824<n then 1073741824 else(n:Int):=by
 unfold s_I;by_cases h:1073741824<n;grind;rw[if_neg h,show decide ((n:Int)>1073741824)=false by simp;omega];exact tG (by omega)
def zBL:List Value:=[vi 0,vi 0,vi 0,vu 0,vs ⟨#[]⟩,vi 0,vi 0]
structure NdAt(S:NP)(w0:World)(H:NP)(w:World)(p1 a:Addr)(s:Sl)(bs:List UInt8)(r:Rd):Prop where
 rd:RfS S w a s bs r
 box:Box w p1 zBL 119
 vis:∀b,(b=a.block\/S b\/b=p1.block)->¬H b/\b<w.heap.size
 ext:Ext (·=a.block) w0 w
 at_:r.at_<=bs.length
 o1:w0.heap.size<=p1.block
 d1:p1.block≠a.block/\¬S p1.block
section
variable {S:NP} {w0 w w':World} {H H':NP} {p1 a:Addr} {s:Sl} {bs:List UInt8} {r:Rd}
def NdAt.hst(h:NdAt S w0 H w p1 a s bs r)(hs:Hst w0 H w H' w'):NdAt S w0 H' w' p1 a s bs r:=by
 have d:∀b,(b=a.block\/S b\/b=p1.block)->¬H' b:=hs.disj fun b c=>⟨(h.vis b c).2,(h.vis b c).1⟩;exact⟨h.rd.ext hs.ext Gd,h.box.ext hs.ext<|d _<|.inr<|.inr rfl,fun b c=>⟨d b c,Oi ((h.vis b c).2) hs.ext.size⟩,h.ext.hst hs,h.at_,h.o1,h.d1⟩
def NdAt.hS(h:NdAt S w0 H w p1 a s bs r):∀b,(b=a.block\/S b)->b<w.heap.size:=fun b c=>(h.vis b<|c.elim .inl fun h=>.inr<|.inl h).2
def NdAt.next{f:Rd}(h:NdAt S w0 H w p1 a s bs r)(g:RfS S w' a s bs f)(E:Ext (·=a.block) w w')(d:f.at_<=bs.length):NdAt S w0 H w' p1 a s bs f/\Kept H w w':=
 ⟨⟨g,h.box.ext E h.d1.1,fun b c=>⟨(h.vis b c).1,Oi ((h.vis b c).2) E.size⟩,h.ext.trans E,d,h.o1,h.d1⟩,E.kept fun b c e=>(h.vis _<|.inl rfl).1<|e▸c⟩
def NdAt.num(h:NdAt S w0 H w p1 a s bs r){R:Int->WP}(e:∀w',NdAt S w0 H w' p1 a s bs (vU bs r).2->R ((vU bs r).1:Int) w'):
  cl 118 #[vp<|some a] w<|XU fun x w'=>Kept H w w'/\R x w':=by
 refine(zFP a s bs r w h.rd h.at_ h.hS).mono ?_
 rintro _ w' ⟨_,rfl,rfl,b,E⟩
 have⟨d,c⟩:=h.next b E (jMV bs r h.at_).2
 exact⟨_,rfl,c,e w' d⟩
def NdP(S:NP)(w0:World)(a:Addr)(s:Sl)(bs:List UInt8)(k i:Nat)(K:Int->Int->Int->Int->ByteArray->Int->Int->Int->WP)(b:Raw×Rd):Prop:=
 ∀kd f t u d c vb e w',e=((nodeErr k i b.1 b.2.err:Nat):Int)->(e=0->(⟨kd,f,t,u,d,c,vb⟩:Node)=b.1.node k)->RfS S w' a s bs b.2->Ext (·=a.block) w0 w'->K kd f t u d c vb e w'
variable (k i:Nat) (hk:1<=k/\k<=9) (hi:i<=100000) {K:Int->Int->Int->Int->ByteArray->Int->Int->Int->WP}
include hk hi
def c_nd6(x:Raw)(h:NdAt S w0 H w p1 a s bs r)(hF:NdF k x)(hK:NdP S w0 a s bs k i K (x,r)):
  m_C_j6 (some a) i p1 k k (s_I x.frm) (s_I x.to) x.num ⟨x.text.toArray⟩ 0 0 (s_I x.a) (s_I x.b) w0 H w K:=by
 unfold m_C_j6
 have V:IntKind.i64.wrap (k:Int)=(k:Int):=tG (by omega)
 rw[V]
 have q : ∀ (c : List Value) (kd f t u : Int) (L : ByteArray) (J vb : Int) (e : Nat) (H' : NP) (A I : World), NdAt S w0 H' A p1 a s bs r -> I = storeRow A p1 [vi kd, vi f, vi t, vu u, vs L, vi J, vi vb] -> e = nodeErr k i x r.err -> (e = 0 -> (⟨kd, f, t, u, L, J, vb⟩ : Node) = x.node k) ->
   Row I p1 [vi kd,vi f,vi t,vu u,vs L,vi J,vi vb]/\K kd f t u L J vb e I:=by
  intro c kd f t u L J vb e H' A I h1 e2 P hn
  have X:Ext (·=p1.block) A I:=by rw[e2];exact Ext.storeRow _ _ _
  have B:Box I p1 [vi kd,vi f,vi t,vu u,vs L,vi J,vi vb] 119:=by rw[e2];exact h1.box.store rfl
  refine⟨B.row,hK _ _ _ _ _ _ _ _ _ (by rw[P]) (fun n=>hn<|by omega) (h1.rd.ext X fun b y e=>?_) (h1.ext.trans' X fun j hj e=>by have:=h1.o1;omega)⟩
  rcases y with rfl|y
  .exact h1.d1.1 e.symm
  .exact h1.d1.2<|e▸y
 have o:∀{H':NP} {A:World},NdAt S w0 H' A p1 a s bs r->(∀j,j<7->zV A (p1.add j)):=fun h1 j hj=>h1.box.canW (by simpa[zBL]using hj)
 refine⟨a,rfl,_,h.rd.errC,fun hc=>?_,fun hc=>?_⟩
 .have P:r.err≠0:=by have:=bne_iff_ne.1 hc;omega
  have hne:nodeErr k i x r.err=r.err:=by unfold nodeErr;rw[if_pos P]
  refine⟨fun w'=>RfS S w' a s bs r,h.rd.pure<|Ext.drew w,?_⟩
  rintro p e11
  have m:NdAt S w0 H p p1 a s bs r:=by
   have E:Pure w p:=by rw[e11];exact Ext.drew w
   exact(h.next (h.rd.pure E) (Ext.pure E) h.at_).1
  refine⟨a,rfl,_,fun w' W=>W.errC,o m,(m.vis _<|.inr<|.inr rfl).1,?_⟩
  rintro O Q
  have⟨F,C⟩:=q [] _ _ _ _ _ _ _ r.err H p O m Q hne.symm fun n=>absurd n P
  have X:Ext (·=p1.block) p O:=by rw[Q];exact Ext.storeRow _ _ _
  refine⟨m.rd.ext X fun b y e=>?_,_,_,_,_,_,_,_,F,C⟩
  rcases y with rfl|y
  .exact m.d1.1 e.symm
  .exact m.d1.2<|e▸y
 have P:r.err=0:=by grind
 have hfr:=hF.frm
 have hto:=hF.to
 have g:=hF.kids
 have M:(((k:Int)==8) ||((k:Int)==9))=decide (k=8\/k=9):=by grind
 rintro y1 U
 have hy:y1=decide (16<=x.frm\/16<=x.to\/((k=8\/k=9)/\x.frm=x.to)):=by
  rw[U,oJ,oJ,M];rw[M]at hto;rw[Bool.eq_iff_iff];simp only[Bool.or_eq_true,Bool.and_eq_true,decide_eq_true_eq,beq_iff_eq];by_cases hn:s_O (k:Int)=true
  .grind
  .grind
 rw[hy]
 refine⟨fun d=>?_,fun d=>?_⟩
 .have d:=of_decide_eq_true d
  intro H9 w19 N
  have v:=h.hst N
  refine⟨o v,(v.vis _<|.inr<|.inr rfl).1,fun w26 e26=>?_⟩
  have⟨F,C⟩:=q [] _ _ _ _ _ _ _ 50 H9 w19 w26 v e26 (by unfold nodeErr;rw[if_neg<|by omega,if_pos d]) (fun n=>by cases n)
  exact⟨_,_,_,_,_,_,_,F,C⟩
 have d:=of_decide_eq_false d
 rintro y2 hy2
 have hy:y2=decide ((0<x.kids/\i<=x.a)\/(1<x.kids/\i<=x.b)):=by
  rw[hy2,oJ,oJ,g];have hle:x.kids<=2:=by
   rw[qS]at g;rcases qX (k:Int)with e|e|e<;>rw[e]at g<;>omega
  rw[Bool.eq_iff_iff];simp only[Bool.or_eq_true,Bool.and_eq_true,decide_eq_true_eq,beq_iff_eq];split<;>split<;>omega
 rw[hy]
 refine⟨fun l=>?_,fun l=>?_⟩
 .have l:=of_decide_eq_true l
  intro H17 w31 R
  have G:=h.hst R
  refine⟨o G,(G.vis _<|.inr<|.inr rfl).1,fun Y e36=>?_⟩
  have⟨F,C⟩:=q [] _ _ _ _ _ _ _ 71 H17 w31 Y G e36 (by unfold nodeErr;rw[if_neg<|by omega,if_neg d,if_pos l]) (fun n=>by cases n)
  exact⟨_,_,_,_,_,_,_,F,C⟩
 have l:=of_decide_eq_false l
 intro H21 w43 T
 have D:=h.hst T
 refine⟨o D,(D.vis _<|.inr<|.inr rfl).1,fun w45 Z=>?_⟩
 have hle:x.kids<=2:=by
  rw[qS]at g;rcases qX (k:Int)with e|e|e<;>rw[e]at g<;>omega
 have z:(⟨(k:Int),s_I x.frm,s_I x.to,x.num,⟨x.text.toArray⟩,cond (decide (s_A (k:Int)>=1)) (IntKind.i64.wrap<|s_I x.a+1) 0,cond ((s_A (k:Int):Int)==2) (IntKind.i64.wrap<|s_I x.b+1) 0⟩:Node)=x.node k:=by
  have ef:s_I x.frm=x.frm:=by rw[oJ,if_neg<|by omega]
  have et:s_I x.to=x.to:=by rw[oJ,if_neg<|by omega]
  have ea:cond (decide (s_A (k:Int)>=1)) (IntKind.i64.wrap<|s_I x.a+1) 0=(if 0<x.kids then(x.a:Int)+1 else 0):=by
   rw[g];by_cases n:0<x.kids
   .rw[if_pos n,decide_eq_true<|by omega,oJ,if_neg<|by omega];show IntKind.i64.wrap ((x.a:Int)+1)=_;rw[IntWalk.i64_in _<|by omega]
   .grind
  have eb:cond ((s_A (k:Int):Int)==2) (IntKind.i64.wrap<|s_I x.b+1) 0=(if 1<x.kids then(x.b:Int)+1 else 0):=by
   rw[g];by_cases n:1<x.kids
   .rw[if_pos n,show((x.kids:Int)==2)=true by simp;omega,oJ,if_neg<|by omega];show IntKind.i64.wrap ((x.b:Int)+1)=_;rw[IntWalk.i64_in _<|by omega]
   .grind
  rw[ef,et,ea,eb];rfl
 have⟨F,C⟩:=q [] _ _ _ _ _ _ _ 0 H21 w43 w45 D Z (by unfold nodeErr;rw[if_neg<|by omega,if_neg d,if_neg l]) fun _=>z
 exact⟨_,_,_,_,_,_,_,F,C⟩
def c_nd5(u f t d kd:Nat)(e:List UInt8)(h:NdAt S w0 H w p1 a s bs r)(j:NdF k (stp bs (s_A (k:Int) == 2) .snd (⟨u,e,f,t,d,0,kd⟩,r)).1)(g:NdP S w0 a s bs k i K (stp bs (s_A (k:Int) == 2) .snd (⟨u,e,f,t,d,0,kd⟩,r))):
  m_C_j5 (some a) i p1 k k (s_I f) (s_I t) u ⟨e.toArray⟩ 0 0 (s_I d) w0 H w K:=by
 unfold m_C_j5
 have n:IntKind.i64.wrap (k:Int)=(k:Int):=tG Om
 rw[n]
 refine⟨fun m l b=>?_,fun m l b=>?_⟩
 rw[m,zGG]at j g
 exact(h.hst b).num fun w' o p c=>c_nd6 k i hk hi ⟨u,e,f,t,d,(vU bs r).1,2⟩ (o.hst c) j g
 rw[m,jVL]at j g
 exact c_nd6 k i hk hi ⟨u,e,f,t,d,0,kd⟩ (h.hst b) j g
def c_nd4(u f t:Nat)(c:List UInt8)(h:NdAt S w0 H w p1 a s bs r)(g:NdF k (stp bs (s_A (k:Int) == 2) .snd<|stp bs (decide (s_A (k:Int)>=1)) .fst (⟨u,c,f,t,0,0,0⟩,r)).1)(e:NdP S w0 a s bs k i K (stp bs (s_A (k:Int) == 2) .snd<|stp bs (decide (s_A (k:Int)>=1)) .fst (⟨u,c,f,t,0,0,0⟩,r))):
  m_C_j4 (some a) i p1 k k (s_I f) (s_I t) u ⟨c.toArray⟩ 0 0 w0 H w K:=by
 unfold m_C_j4
 have l:IntKind.i64.wrap (k:Int)=(k:Int):=tG Om
 rw[l]
 refine⟨fun j n b=>?_,fun j n b=>?_⟩
 rw[j,zGI]at g e
 exact(h.hst b).num fun w' m o d=>c_nd5 k i hk hi u f t (vU bs r).1 1 c (m.hst d) g e
 rw[j,jVL]at g e
 exact c_nd5 k i hk hi u f t 0 0 c (h.hst b) g e
def c_nd3(u f t:Nat)(h:NdAt S w0 H w p1 a s bs r)(d:NdF k (stp bs (s_A (k:Int) == 2) .snd<|stp bs (decide (s_A (k:Int)>=1)) .fst<|stp bs ((k:Int) == 3) .text (⟨u,[],f,t,0,0,0⟩,r)).1)(c:NdP S w0 a s bs k i K (stp bs (s_A (k:Int) == 2) .snd<|stp bs (decide (s_A (k:Int)>=1)) .fst<|stp bs ((k:Int) == 3) .text (⟨u,[],f,t,0,0,0⟩,r))):
  m_C_j3 (some a) i p1 k k (s_I f) (s_I t) u ⟨#[]⟩ 0 0 w0 H w K:=by
 unfold m_C_j3
 have j:IntKind.i64.wrap (k:Int)=(k:Int):=tG Om
 rw[j]
 refine⟨fun e=>?_,fun e=>?_⟩
 .rw[e,zBT]at d c
  refine(zHK a s bs r w 64 Om h.rd h.at_ h.hS).mono ?_
  rintro _ w' ⟨_,rfl,rfl,g,E⟩
  have⟨l,m⟩:=h.next g E (jTX bs 64 r h.at_).2
  exact⟨_,rfl,m,fun n b=>c_nd4 k i hk hi u f t (qF bs 64 r).1 (l.hst b) d c⟩
 .rw[e,jVL]at d c
  exact c_nd4 k i hk hi u f t [] h d c
def c_nd2(f t:Nat)(h:NdAt S w0 H w p1 a s bs r)(d:NdF k (stp bs (s_A (k:Int) == 2) .snd<|stp bs (decide (s_A (k:Int)>=1)) .fst<|stp bs ((k:Int) == 3) .text<|stp bs ((k:Int) == 2) .num (⟨0,[],f,t,0,0,0⟩,r)).1)(c:NdP S w0 a s bs k i K (stp bs (s_A (k:Int) == 2) .snd<|stp bs (decide (s_A (k:Int)>=1)) .fst<|stp bs ((k:Int) == 3) .text<|stp bs ((k:Int) == 2) .num (⟨0,[],f,t,0,0,0⟩,r))):
  m_C_j2 (some a) i p1 k k (s_I f) (s_I t) 0 ⟨#[]⟩ 0 0 w0 H w K:=by
 unfold m_C_j2
 have g:IntKind.i64.wrap (k:Int)=(k:Int):=tG Om
 rw[g]
 refine⟨fun e=>?_,fun e=>?_⟩
 rw[e,zGH]at d c
 exact h.num fun w' j l b=>c_nd3 k i hk hi (vU bs r).1 f t (j.hst b) d c
 rw[e,jVL]at d c
 exact c_nd3 k i hk hi 0 f t h d c
def c_nd1(f:Nat)(h:NdAt S w0 H w p1 a s bs r)(e:NdF k (stp bs (s_A (k:Int) == 2) .snd<|stp bs (decide (s_A (k:Int)>=1)) .fst<|stp bs ((k:Int) == 3) .text<|stp bs ((k:Int) == 2) .num<|stp bs (((k:Int) == 8) || ((k:Int) == 9)) .to_ (⟨0,[],f,0,0,0,0⟩,r)).1)(d:NdP S w0 a s bs k i K (stp bs (s_A (k:Int) == 2) .snd<|stp bs (decide (s_A (k:Int)>=1)) .fst<|stp bs ((k:Int) == 3) .text<|stp bs ((k:Int) == 2) .num<|stp bs (((k:Int) == 8) || ((k:Int) == 9)) .to_ (⟨0,[],f,0,0,0,0⟩,r))):
  m_C_j1 (some a) i p1 k k (s_I f) 0 0 ⟨#[]⟩ 0 0 w0 H w K:=by
 unfold m_C_j1
 have j:IntKind.i64.wrap (k:Int)=(k:Int):=tG Om
 rw[j]
 refine⟨fun g n o b=>?_,fun g n o b=>?_⟩
 rw[g,stp_to]at e d
 exact(h.hst b).num fun w' l m c=>c_nd2 k i hk hi f (vU bs r).1 (l.hst c) e d
 rw[g,jVL]at e d
 exact c_nd2 k i hk hi f 0 (h.hst b) e d
end
def zHM{S:NP}(a:Addr)(s:Sl)(bs:List UInt8)(r:Rd)(i:Nat)(w0:World)(h:RfS S w0 a s bs r)(G:r.at_<bs.length)(Y:r.err=0)(hS:∀b,(b=a.block\/S b)->b<w0.heap.size)(hi:i<=100000):
  cl 59 #[vp<|some a,vi i] w0 (fun e w'=>∃kd f t u:Int,∃n:ByteArray,∃m vb x:Int,e=.returned (.tuple #[.agg #[vi kd,vi f,vi t,vu u,vs n,vi m,vi vb],vi x]) /\
   (∃g:Rd,(if uC bs[r.at_].toNat=true then x=((nodeErr bs[r.at_].toNat i (vA bs (qL bs[r.at_].toNat) (qZ,⟨r.at_+1,0,r.spot⟩)).1 (vA bs (qL bs[r.at_].toNat) (qZ,⟨r.at_+1,0,r.spot⟩)).2.err:Nat):Int)/\(x=0->(⟨kd,f,t,u,n,m,vb⟩:Node)=(vA bs (qL bs[r.at_].toNat) (qZ,⟨r.at_+1,0,r.spot⟩)).1.node bs[r.at_].toNat)/\g=(vA bs (qL bs[r.at_].toNat) (qZ,⟨r.at_+1,0,r.spot⟩)).2 else x=70/\g=⟨r.at_+1,0,r.spot⟩)/\RfS S w' a s bs g/\Ext (·=a.block) w0 w')):=by
 generalize p:bs[r.at_].toNat=k
 have H:k<256:=by rw[<-p];exact bs[r.at_].toNat_lt
 refine w_C _ _ w0 _ ?_
 intro p1 F n1
 have L:Pure w0 F:=Ext.new n1
 have R:Box F p1 zBL 119:=Box.of_newA n1
 have b1:=n1.at_size
 have z1:=L.size
 refine(zHO a s bs r F (h.pure L) G Y).mono ?_
 rintro _ U ⟨_,rfl,rfl,D,z⟩
 rw[p]
 have z2:=z.size
 have dp:p1.block≠a.block/\¬S p1.block:=⟨fun e=>Oh<|hS _<|.inl e,fun hh=>Oh<|hS _<|.inr hh⟩
 have J:NdAt S w0 None U p1 a s bs ⟨r.at_+1,0,r.spot⟩:=⟨D,R.ext z dp.1,fun b d=>⟨id,by
  rcases d with d|d|d;have:=hS b<|.inl d;omega;grind;have:=R.lt;omega⟩,(Ext.pure L).trans z,Sy,Om,dp⟩
 have A:IntKind.i64.wrap (k:Int)=(k:Int):=tG Om
 refine⟨_,rfl,z.kept fun b d=>d.elim,?_⟩
 rw[A]
 have I:((decide ((k:Int)<1)) ||(decide ((k:Int)>9)))=!uC k:=by
  rw[Bool.eq_iff_iff];unfold uC;simp;omega
 rw[I]
 refine⟨fun l=>?_,fun l=>?_⟩
 have l:¬uC k=true:=by simpa using l
 intro N V M
 have v:=J.hst M
 refine⟨fun j Q=>v.box.canW<|by simpa[zBL]using Q,(v.vis _<|.inr<|.inr rfl).1,?_⟩
 rintro O P
 have X:Ext (·=p1.block) V O:=by rw[P];exact Ext.storeRow _ _ _
 have B:Box O p1 [vi (k:Int),vi 0,vi 0,vu 0,vs ⟨#[]⟩,vi 0,vi 0] 119:=by rw[P];exact v.box.store rfl
 refine⟨_,_,_,_,_,_,_,B.row,_,by rw[if_neg l];exact⟨rfl,rfl⟩,v.rd.ext X fun b d e=>?_,v.ext.trans' X fun j Q e=>Om⟩
 rcases d with rfl|d
 exact dp.1 e.symm
 exact dp.2<|e▸d
 have l:uC k=true:=by simpa using l
 have c:1<=k/\k<=9:=by unfold uC at l;simpa using l
 have q:=zCL bs k c.1 c.2 ⟨r.at_+1,0,r.spot⟩
 have C:=jVW bs k c.1 c.2 (qZ,⟨r.at_+1,0,r.spot⟩)
 have w:NdP S w0 a s bs k i (fun kd f t u n m vb x w'=>∃g:Rd,(if uC k=true then x=((nodeErr k i (vA bs (qL k) (qZ,⟨r.at_+1,0,r.spot⟩)).1 (vA bs (qL k) (qZ,⟨r.at_+1,0,r.spot⟩)).2.err:Nat):Int)/\(x=0->(⟨kd,f,t,u,n,m,vb⟩:Node)=(vA bs (qL k) (qZ,⟨r.at_+1,0,r.spot⟩)).1.node k)/\g=(vA bs (qL k) (qZ,⟨r.at_+1,0,r.spot⟩)).2 else x=70/\g=⟨r.at_+1,0,r.spot⟩)/\RfS S w' a s bs g/\Ext (·=a.block) w0 w') (vA bs (qL k) (qZ,⟨r.at_+1,0,r.spot⟩)):=
  fun kd f t u n m vb e w' g1 W g3 g4=>⟨_,by rw[if_pos l];exact⟨g1,W,rfl⟩,g3,g4⟩
 generalize (fun(kd f t u:Int) (n:ByteArray) (m vb x:Int) (w':World)=>∃g:Rd,(if uC k=true then x=((nodeErr k i (vA bs (qL k) (qZ,⟨r.at_+1,0,r.spot⟩)).1 (vA bs (qL k) (qZ,⟨r.at_+1,0,r.spot⟩)).2.err:Nat):Int)/\(x=0->(⟨kd,f,t,u,n,m,vb⟩:Node)=(vA bs (qL k) (qZ,⟨r.at_+1,0,r.spot⟩)).1.node k)/\g=(vA bs (qL k) (qZ,⟨r.at_+1,0,r.spot⟩)).2 else x=70/\g=⟨r.at_+1,0,r.spot⟩)/\RfS S w' a s bs g/\Ext (·=a.block) w0 w')=K at *
 rw[C,show qZ=⟨0,[],0,0,0,0,0⟩from rfl]at q w
 refine⟨fun E N w7 o=>?_,fun E N w7 o=>?_⟩
 rw[E,zBU]at q w
 exact(J.hst o).num fun w' Z T y=>c_nd1 k i c hi (vU bs ⟨r.at_+1,0,r.spot⟩).1 (Z.hst y) q w
 rw[E,jVL]at q w
 exact c_nd1 k i c hi 0 (J.hst o) q w
end Go.Proofs
end
section
open Go Go.SE
namespace Go.Proofs
def jOZ{L}(a:Wf L){n i}(h:find L n=some i):make L n=((i:Int)+1,0,L):=by
 have⟨hi,e⟩:=jCD h;have b:inP L ((i:Int)+1)=true:=zI.2 ⟨Om,Om⟩;have c:nodeOf L ((i:Int)+1)=n:=by rw[qJ hi,e]
 have⟨_,f,d,_,g,_⟩:=a.node b;rw[c]at f d g;have l:Ren L L ((i:Int)+1) n:=by
  refine⟨?_,?_,?_,?_,?_,fun k j=>(g k j).1,?_,f,d⟩<;>rw[c]
 exact l.make_old a a b b rfl
def make_new{L n}(h:find L n=none)(a:(make L n).2.1=0):(make L n).2.2.length=L.length+1:=by
 have b:=(xD a).2.2;unfold make at a|-;simp only[h]at a|-;rw[if_neg (by rw[b];simp)]at a|-;split at a;simp at a;grind
def jUL:∀(l:List Int) (i:Nat),i<=inRow i l/\inRow i l<=i+l.length:=by
 intro l;induction l with
 |nil=>intro i;simp[inRow]
 |cons s l a =>
  intro i
  rw[inRow]
  split
  grind
  simp
def jWO:∀(l:List Int) (i j:Nat) (h:j<l.length),i+j<=inRow i l->l[j]=((i+j:Nat):Int)+1->i+j+1<=inRow i l:=by
 intro l;induction l with
 |nil=>intro i j h;simp at h
 |cons s l a =>
  intro i j h h1 h2
  rw[inRow]at h1|-
  cases j with
  |zero =>
   simp only[List.getElem_cons_zero,Nat.add_zero]at h2
   rw[if_pos h2]
   have:=(jUL l<|i+1).1;omega
  |succ j =>
   simp only[List.getElem_cons_succ]at h2
   split
   rename_i hs
   rw[if_pos hs]at h1
   have:=a (i+1) j (by simpa using h) Om (by rw[h2];congr 2;omega)
   omega
   grind
end Go.Proofs
namespace Go.Proofs
open Tryz
attribute [local irreducible] Calls CallsD
def zEV(a w':World)(bs:List UInt8)(x:Option Addr):Prop:=
 (∀q,(zW bs).1=some q->∃p F,x=some p/\vK w' p q F/\∀b,F b->a.heap.size<=b)/\((zW bs).1=none->x=none)
def RrV(a:Addr)(S c:NP)(d:Sl)(b:Nat):Prop:=c b\/b=a.block\/S b\/d.blk b
structure RrAt(e:World)(H:NP)(w:World)(q a:Addr)(s:Sl)(bs:List UInt8)(L:Pool)(r:Rd)(S d:NP)(f:List Nat)(c:Sl):Prop where
 pool:vK w q L d
 rd:RfS S w a s bs r
 rows:Rws w 3 1 c (tmr<|f.map Int.ofNat)
 pure:Pure e w
 own:∀b,RrV a S d c b->e.heap.size<=b/\¬H b
 lt:∀b,(b=a.block\/S b)->b<w.heap.size
 dR:∀b,d b->b≠a.block/\¬S b/\¬c.blk b
 dp:∀b,c.blk b->b≠a.block/\¬S b
def RrAt.vlt{w0 w H q a s bs L r S FR ps pl}(h:RrAt w0 H w q a s bs L r S FR ps pl):∀b,RrV a S FR pl b->b<w.heap.size:=by
 rintro b (c|c|c|c);exact h.pool.lt c;exact h.lt b<|.inl c;exact h.lt b<|.inr c;exact h.rows.lt c
def RrAt.hst{w0 w w' H H' q a s bs L r S FR ps pl}(h:RrAt w0 H w q a s bs L r S FR ps pl)(hs:Hst w0 H w H' w'):RrAt w0 H' w' q a s bs L r S FR ps pl:=by
 have d:∀b,RrV a S FR pl b->¬H' b:=hs.disj fun b c=>⟨h.vlt b c,(h.own b c).2⟩;exact⟨h.pool.ext hs.ext fun b c=>d b<|.inl c,h.rd.ext hs.ext fun b c=>d b<|c.elim (fun h=>.inr<|.inl h) fun h=>.inr<|.inr<|.inl h,h.rows.ext hs.ext fun b c=>d b<|.inr<|.inr<|.inr c,h.pure.hst hs,fun b c=>⟨(h.own b c).1,d b c⟩,fun b c=>Oi (h.lt b c) hs.ext.size,h.dR,h.dp⟩
def RrAt.pureE{w0 w w' H q a s bs L r S FR ps pl}(h:RrAt w0 H w q a s bs L r S FR ps pl)(E:Pure w w'):RrAt w0 H w' q a s bs L r S FR ps pl:=
 ⟨h.pool.pure E,h.rd.pure E,h.rows.pure E,h.pure.trans E,h.own,fun b c=>Oi (h.lt b c) E.size,h.dR,h.dp⟩
def zHL{S0}(sb bs w0)(hs:Lst S0 w0 1 sb (byr bs)):
  cl 18 #[sb.v] w0<|XV fun x y z w'=>y=(zW bs).2.1/\z=((zW bs).2.2:Int)/\zEV w0 w' bs x/\Pure w0 w':=by
 refine w_L1 sb w0 _ ?_
 unfold m_L1
 have hl:sb.len=bs.length:=by rw[hs.len,vW]
 have M:∀(e:Int) (n:Nat) (w':World),zW bs=(none,e,n)->Pure w0 w'->e=(zW bs).2.1/\(n:Int)=((zW bs).2.2:Int)/\zEV w0 w' bs none/\Pure w0 w':=fun e n w' h E=>by
  rw[h];exact⟨rfl,rfl,⟨fun q hq=>(by rw[h]at hq;cases hq),fun _=>rfl⟩,E⟩
 refine(jBI w0).mono ?_
 rintro _ w1 ⟨_,rfl,q,FR0,rfl,hP,E1,hFR⟩
 refine⟨_,rfl,E1.keptP,fun W=>?_,fun W=>?_⟩
 have W:4096<bs.length:=Oh<|of_decide_eq_true W
 exact M 1 0 w1 (by unfold zW;rw[if_pos W]) E1
 have W:bs.length<=4096:=Oh<|of_decide_eq_false W
 refine⟨fun K=>?_,fun K=>?_⟩
 have K:bs.length=0:=Oh<|beq_iff_eq.1 K
 exact M 3 0 w1 (by unfold zW;rw[if_neg Om,if_pos K]) E1
 have K:bs.length≠0:=Oh<|beq_eq_false_iff_ne.1 K
 have htxt:zW bs=jLJ bs bs.length [] ⟨0,0,0⟩ []:=by unfold zW;rw[if_neg Om,if_neg K]
 refine(c_rNew sb bs w1 (hs.pure E1) Om).mono ?_
 rintro _ w2 ⟨_,rfl,a,s,rfl,hR,E2,ha,hsb⟩
 refine⟨_,rfl,E2.keptP,?_⟩
 have z1:=E1.size;have z2:=E2.size
 have la:a.block<w2.heap.size:=hR.box.lt
 have Q:∀b,¬Sl.nil.blk b:=fun b d=>by have⟨a,h,_⟩:=d;cases h
 have R2:RrAt w0 None w2 q a s bs [] ⟨0,0,0⟩ s.blk FR0 [] Sl.nil:=
  ⟨hP.pure E2,hR,Rws.nil _ _ _,E1.trans E2,fun b d=>⟨by
   rcases d with d|d|d|d;exact hFR b d;omega;have:=hsb b d;omega;exact(Q b d).elim,id⟩,fun b d=>d.elim (fun h=>Om) fun h=>(hsb b h).2,fun b d=>by have:=hP.lt d;exact⟨Om,fun hh=>Oh<|hsb b hh,Q b⟩,fun b d=>(Q b d).elim⟩
 refine⟨fun V Hl w=>∃(L:Pool) (r:Rd) (G:List Nat) (FR:NP) (n:Nat),RrAt w0 Hl w q a s bs L r s.blk FR G V/\Wf L/\G.length=L.length/\G.length<=r.at_/\r.at_<=bs.length/\r.err=0/\bs.length-r.at_<=n/\jLJ bs n L r G=zW bs,fun V _=>bs.length+1-V.len,⟨[],⟨0,0,0⟩,[],FR0,bs.length,R2,Wf.nil,rfl,Nat.zero_le _,Nat.zero_le _,rfl,Nat.le_refl _,htxt.symm⟩,?_⟩
 rintro V Hl wl hst ⟨L,r,G,FR,n,m,hW,hps,hpr,hra,hre,hn,g⟩
 unfold m_L1_l1
 have hpl:V.len=G.length:=by rw[m.rows.len,zY,List.length_map]
 have hok:=hW.ok
 have hfew:=hok.few
 refine(zHN a s bs r wl m.rd hra).mono ?_
 rintro _ w3 ⟨_,rfl,rfl,E3⟩
 have T:=m.pureE E3
 have o:∀{w:World} {L:Pool} {F:NP},vK w q L F->∃v:Sl,w.cell? q=some v.v/\v.len=L.length:=fun h=>by
  have⟨sa,sb,sc,h,_⟩:=h;exact⟨sa,h.box.cell0,by rw[h.r1.len];simp⟩
 refine⟨_,rfl,E3.keptP,fun hc3=>?_,fun hc3=>?_⟩
 have p:r.at_<bs.length:=Oh<|of_decide_eq_true hc3
 obtain⟨n,rfl⟩:∃k,n=k+1:=⟨n-1,Om⟩
 rw[jLJ,if_pos p]at g
 have⟨v2,hv2,hv2l⟩:=o T.pool
 refine⟨a,rfl,_,T.rd.atC,q,rfl,v2,hv2,?_⟩
 rw[hv2l]
 refine(zHM a s bs r L.length w3 T.rd p hre (fun b d=>T.lt b d) Om).mono ?_
 rintro _ w4 ⟨kd,f,t,u,O,N,vb,x,rfl,r',hx,hR4,X4⟩
 have l:=jAI bs L r p hre
 generalize bs[r.at_].toNat=k at *
 have z3:=E3.size;have z4:=X4.size
 have R4:RrAt w0 Hl w4 q a s bs L r' s.blk FR G V:=⟨T.pool.ext X4 fun b d e=>(m.dR b d).1 e,hR4,T.rows.ext X4 fun b d e=>(m.dp b d).1 e,T.pure.trans' X4 Gd,m.own,fun b d=>Oh<|T.lt b d,m.dR,m.dp⟩
 refine⟨_,_,_,_,_,_,_,_,rfl,X4.kept fun b d e=>(m.own _<|.inr<|.inl rfl).2<|e▸d,fun hc4=>?_,fun hc4=>⟨q,rfl,?_⟩⟩
 have hx0:x≠0:=bne_iff_ne.1 hc4
 have he:(vN bs L r).2.1=x:=by
  rw[l];split at hx;rename_i hk;rw[if_pos hk];unfold jDW;rw[if_pos Gd];exact hx.1.symm;grind
 intro H1 w6 R
 rw[if_pos (by rw[he];exact hx0),he]at g
 exact M _ _ w6 g.symm (R4.hst R).pure
 have hx0:x=0:=by simpa using hc4
 have hk:uC k=true:=Gd
 rw[if_pos hk]at hx
 have⟨hx1,hx2',hx3⟩:=hx
 have hx2:=hx2' hx0
 clear hx2'
 rw[if_pos hk]at l
 generalize vA bs (qL k) (qZ,⟨r.at_+1,0,r.spot⟩)=st at *
 have⟨X,rX⟩:=st
 simp only at hx1 hx2 hx3
 subst hx3
 have hne:nodeErr k L.length X r'.err=0:=Om
 have hin:jDW L k (X,r')=(if(find L<|X.node k).isSome=true then(L,72,r')else((make L<|X.node k).2.2,(make L<|X.node k).2.1,r')):=by
  unfold jDW;simp only;rw[if_neg (by rw[hne];simp)]
 rw[hin,<-hx2]at l
 intro H1 w6 R
 have B:=R4.hst R
 have⟨v3,hv3,hv3l⟩:=o B.pool
 refine⟨v3,hv3,?_⟩
 refine(vV q ⟨kd,f,t,u,O,N,vb⟩ w6 B.pool hok).mono ?_
 rintro _ w7 ⟨r5,r6,rfl,he56,FR',hP7,X7,hF7⟩
 have Y:=congrArg Prod.snd he56
 simp only at Y
 have hH1:∀b,H1 b->b<w6.heap.size:=fun b d=>R.lt b d
 have z6:=R.ext.size
 have z7:=X7.size
 have A:Pure w0 w7:=B.pure.trans' X7 fun i hi d=>Oh<|(m.own i<|.inl d).1
 refine⟨r5,r6,rfl,X7.kept fun b d hh=>(B.own b<|.inl hh).2 d,fun hc5=>?_,fun hc5=>⟨q,rfl,?_⟩⟩
 have D:(make L ⟨kd,f,t,u,O,N,vb⟩).2.1≠0:=by rw[<-Y];exact bne_iff_ne.1 hc5
 have Z:¬(find L ⟨kd,f,t,u,O,N,vb⟩).isSome=true:=fun hs=>by
  have⟨i,hi⟩:=Option.isSome_iff_exists.1 hs;rw[jOZ hW hi]at D;exact D rfl
 rw[if_neg Z]at l
 rw[l]at g
 simp only at g
 rw[if_pos D,<-Y]at g
 exact M _ _ w7 g.symm A
 have D:(make L ⟨kd,f,t,u,O,N,vb⟩).2.1=0:=by rw[<-Y];simpa using hc5
 have⟨v4,hv4,hv4l⟩:=o hP7
 refine⟨v4,hv4,fun J=>?_,fun J=>?_⟩
 have J:(make L ⟨kd,f,t,u,O,N,vb⟩).2.2.length=L.length:=Oh<|beq_iff_eq.1 J
 have hfs:(find L ⟨kd,f,t,u,O,N,vb⟩).isSome=true:=by
  cases hf:find L ⟨kd,f,t,u,O,N,vb⟩with
  |some i=>rfl
  |none=>have:=make_new hf D;omega
 rw[if_pos hfs]at l
 rw[l]at g
 simp only at g
 rw[if_pos De]at g
 exact M 72 _ w7 g.symm A
 have J:(make L ⟨kd,f,t,u,O,N,vb⟩).2.2.length≠L.length:=Oh<|beq_eq_false_iff_ne.1 J
 have Z:¬(find L ⟨kd,f,t,u,O,N,vb⟩).isSome=true:=fun hs=>by
  have⟨i,hi⟩:=Option.isSome_iff_exists.1 hs;rw[jOZ hW hi]at J;exact J rfl
 have hlen7:(make L ⟨kd,f,t,u,O,N,vb⟩).2.2.length=L.length+1:=make_new (by simpa using Z) D
 rw[if_neg Z]at l
 have I:=jJK bs L r p hre (by rw[l];exact D)
 rw[l]at g I
 simp only at g I
 rw[if_neg<|by simpa using D]at g
 have hW7:=uM hW ⟨kd,f,t,u,O,N,vb⟩
 generalize make L ⟨kd,f,t,u,O,N,vb⟩=mk at *
 intro p2 w8 n8
 have E8:Pure w7 w8:=Ext.new n8
 have b8:=n8.at_size
 have z8:=E8.size
 have hdr:∀b,FR' b->b≠a.block/\¬s.blk b/\¬V.blk b:=fun b d=>(hF7 b d).elim (m.dR b) fun h=>⟨Oh<|B.lt a.block<|.inl rfl,fun hh=>Oh<|B.lt b<|.inr hh,fun hh=>Oh<|B.rows.lt hh⟩
 have Rw8:=(B.rows.ext X7 fun b d hh=>(m.dR b hh).2.2 d).pure E8
 have⟨s1,w9,hr9,hR9,X9,hb9⟩:=Rw8.append (P:=prog) (ty:=42) (c:=1) jDS (Box.of_newA n8).row rfl rfl (by rw[zY,List.length_map];omega) (by rw[zY,List.length_map];simp only[maxLen];omega)
 have hpo:∀b,V.blk b->w0.heap.size<=b/\¬H1 b:=fun b d=>B.own b<|.inr<|.inr<|.inr d
 have hpure9:Pure w0 w9:=(A.trans E8).trans' X9 Gd
 have z9:=X9.size
 refine⟨s1,w9,hr9,X9.kept Gd,⟨mk.2.2,r',G++[r.at_],FR',n,⟨(hP7.pure E8).ext X9 Gd,((B.rd.ext X7 fun b d hh=>?_).pure E8).ext X9 fun b d hh=>?_,?_,hpure9,fun b d=>?_,fun b d=>Oh<|B.lt b d,fun b d=>⟨(hdr b d).1,(hdr b d).2.1,fun hh=>?_⟩,fun b d=>?_⟩,hW7,by rw[List.length_append,List.length_singleton];omega,by rw[List.length_append,List.length_singleton];omega,I.2.1,I.2.2,Om,g⟩,?_⟩
 rcases d with d|d
 exact(m.dR b hh).1 d
 exact(m.dR b hh).2.1 d
 rcases d with d|d
 exact(m.dp b hh).1 d
 exact(m.dp b hh).2 d
 have:tmr ((G++[r.at_]).map Int.ofNat)=tmr (G.map Int.ofNat)++[[vi (r.at_:Int)]]:=by simp[tmr]
 rw[this];exact hR9
 rcases d with d|d|d|d
 rcases hF7 b d with h|h
 exact B.own b<|.inl h
 exact⟨Oh B.pure.size,fun hh=>Oh<|hH1 b hh⟩
 exact B.own b<|.inr<|.inl d
 exact B.own b<|.inr<|.inr<|.inl d
 rcases hb9 b d with h|h
 exact hpo b h
 exact⟨Oh B.pure.size,fun hh=>Oh<|hH1 b hh⟩
 rcases hb9 b hh with h|h
 exact(hdr b d).2.2 h
 have:=hP7.lt d;omega
 rcases hb9 b d with h|h
 exact m.dp b h
 exact⟨Oh<|B.lt a.block<|.inl rfl,fun hh=>Oh<|B.lt b<|.inr hh⟩
 have h1:s1.len=G.length+1:=by rw[hR9.len,List.length_append,zY,List.length_map];rfl
 show bs.length+1-s1.len<bs.length+1-V.len
 omega
 have hge:¬r.at_<bs.length:=Oh<|of_decide_eq_false hc3
 rw[jHV hge]at g
 have⟨v5,hv5,hv5l⟩:=o T.pool
 refine⟨q,rfl,v5,hv5,?_⟩
 rw[hv5l]
 refine(jCK q L.length w3 hW T.pool).mono ?_
 rintro _ w10 ⟨r7,rfl,S⟩
 have R10:=T.pureE S.pure
 refine⟨r7,rfl,S.kept,?_⟩
 have hfew2:=uH hW L.length
 unfold jDX at g
 simp only at g
 have hw3:∀b,Hl b->b<w3.heap.size:=fun b d=>Oi (hst.lt b d) E3.size
 have o7:∀b,r7.blk b->¬Hl b/\b<w10.heap.size:=fun b d=>⟨fun hh=>Oi (hw3 b hh)<|S.own b d,S.rows.lt d⟩
 generalize subs L L.length=xs at *
 have hrow:=(jUL xs 0).2
 refine⟨fun i H w=>∃j:Nat,i=j/\j<=L.length/\j<=inRow 0 xs/\RrAt w0 H w q a s bs L r s.blk FR G V/\Rws w 73 1 r7 (tmr xs)/\(∀b,r7.blk b->¬H b),fun i _=>((L.length:Int)-i).toNat,⟨0,rfl,Nat.zero_le _,Nat.zero_le _,R10,S.rows,fun b d=>(o7 b d).1⟩,?_⟩
 rintro _ H2 w2' hst2 ⟨j,rfl,hj,hjr,RL,hX,hv7⟩
 unfold m_L1_l2
 have⟨v6,hv6,hv6l⟩:=o RL.pool
 have h7l:r7.len=xs.length:=by rw[hX.len,zY]
 have tell:∀(h:j<G.length) (C:World),inRow 0 xs=j->Hst w0 H2 w2' H2 C->∃a7:Addr,At V j 1 a7/\∀(C:World),Hst w0 H2 w2' H2 C->∃v7:Int,C.cell? a7=some (vi v7)/\(73=(zW bs).2.1/\v7=((zW bs).2.2:Int)/\zEV w0 C bs none/\Pure w0 C):=by
  intro h w hi _;have⟨a7,I,_,hrw⟩:=uQ RL.rows.lst (j:=j) (by simpa using h);refine⟨a7,I,fun C hs11=>?_⟩;have R11:=RL.hst hs11;have⟨a7',hat',_,hv'⟩:=uQ R11.rows.lst (j:=j) (by simpa using h);have:a7'=a7:=by
   obtain⟨_,_,b1,hb1,rfl⟩:=I;obtain⟨_,_,b2,hb2,rfl⟩:=hat';rw[hb1]at hb2;cases hb2;rfl
  subst this;refine⟨_,hv',?_⟩;rw[List.getElem_map];have p:inRow 0 xs<G.length:=Om;rw[dif_pos p]at g;have he:G[inRow 0 xs]=G[j]:=by simp only[hi]
  rw[he]at g;exact M 73 _ C g.symm R11.pure
 refine⟨q,rfl,v6,hv6,fun W=>?_,fun W=>?_⟩
 have p:j<L.length:=Oh<|of_decide_eq_true W
 refine⟨fun hc7=>?_,fun hc7=>?_⟩
 grind
 have U:j<xs.length:=Oh<|of_decide_eq_false hc7
 have⟨a8,hat8,_,hv8⟩:=uQ hX.lst U
 refine⟨a8,hat8,_,hv8,?_⟩
 rw[zQ p Om]
 refine⟨fun hc8=>?_,fun hc8=>?_⟩
 have hne:xs[j]≠((j+1:Nat):Int):=bne_iff_ne.1 hc8
 have hi:inRow 0 xs=j:=by
  rcases Nat.lt_or_ge j (inRow 0 xs)with h|h;exfalso;have:=(jPG xs 0 (inRow 0 xs) Om).2 j U h;apply hne;rw[this];omega;omega
 exact tell Om w2' hi hst2.here
 have heq:xs[j]=((j+1:Nat):Int):=by simpa using hc8
 exact⟨⟨j+1,rfl,p,by have:=jWO xs 0 j U Om (by rw[heq];omega);omega,RL,hX,hv7⟩,uR p⟩
 have hge2:j=L.length:=Oh<|of_decide_eq_false W
 have p:¬inRow 0 xs<G.length:=Om
 rw[dif_neg p]at g
 rw[<-g]
 exact⟨rfl,rfl,⟨fun q' hq'=>by rw[<-g]at hq';cases hq';exact⟨q,FR,rfl,RL.pool,fun b d=>(RL.own b<|.inl d).1⟩,fun hn=>by rw[<-g]at hn;cases hn⟩,RL.pure⟩
end Go.Proofs
end
section
open Go Go.SE
namespace Go.Proofs
def jWW{Lq x}:∀(l:List Int) (L:Pool) (own:Int->Int),x∉l->(zS Lq l L own).2.2 x=own x:=by
 intro l;induction l with
 |nil=>intro L own _;rfl
 |cons z l d =>
  intro L own h
  simp only[List.mem_cons,not_or]at h
  obtain⟨y,e,c,hm⟩:∃y e c,make L { nodeOf Lq z with a:=own (nodeOf Lq z).a,b:=own (nodeOf Lq z).b }=(y,e,c):=⟨_,_,_,rfl⟩
  rw[qA Lq z l L own rfl hm]
  split
  rfl
  grind
end Go.Proofs
namespace Go.Proofs
open Tryz
attribute [local irreducible] Calls CallsD
structure CrAt(w0:World)(H:NP)(w:World)(p q:Addr)(Lc Lq:Pool)(s1 r2:Sl)(A xs:List Int)(FP F' FQ:NP):Prop where
 pp:vK w p Lc F'
 pq:vK w q Lq FQ
 at_:Rws w 73 1 s1 (tmr A)
 subs:Rws w 73 1 r2 (tmr xs)
 ext:Ext FP w0 w
 own:∀b,(F' b\/FQ b\/s1.blk b\/r2.blk b)->¬H b
 oF:∀b,F' b->FP b\/w0.heap.size<=b
 oS:∀b,(s1.blk b\/r2.blk b)->w0.heap.size<=b
 dis:∀b,F' b->¬FQ b/\¬s1.blk b/\¬r2.blk b
 dS:∀b,s1.blk b->¬FQ b/\¬r2.blk b
section
variable {w0 w w':World} {H H':NP} {p q:Addr} {Lc Lq:Pool} {s1 r2:Sl} {A xs:List Int} {FP F' FQ:NP}
def CrAt.vlt(h:CrAt w0 H w p q Lc Lq s1 r2 A xs FP F' FQ):∀b,(F' b\/FQ b\/s1.blk b\/r2.blk b)->b<w.heap.size:=by
 rintro b (a|a|a|a);exact h.pp.lt a;exact h.pq.lt a;exact h.at_.lt a;exact h.subs.lt a
def CrAt.hst(h:CrAt w0 H w p q Lc Lq s1 r2 A xs FP F' FQ)(hs:Hst w0 H w H' w'):CrAt w0 H' w' p q Lc Lq s1 r2 A xs FP F' FQ:=by
 have d:=hs.disj fun b a=>⟨h.vlt b a,h.own b a⟩;exact⟨h.pp.ext hs.ext fun b a=>d b<|.inl a,h.pq.ext hs.ext Gd,h.at_.ext hs.ext Gd,h.subs.ext hs.ext Gd,h.ext.hst hs,d,h.oF,h.oS,h.dis,h.dS⟩
end
theorem jQM (p q:Addr) (t:Int) (w0:World) {L Lq:Pool} {FP FQ:NP} (hW:Wf L) (hQ:Wf Lq) (hP:vK w0 p L FP) (hPQ:vK w0 q Lq FQ) (hd:∀b,FP b→¬ FQ b) :
  Calls prog 111 #[.pointer (some p),.pointer (some q),.int .i64 t] w0 (fun e w'=>∃r1 r2:Int,e=.returned (.tuple #[.int .i64 r1,.int .i64 r2])∧(r1=(vD L Lq t).1∧r2=(vD L Lq t).2.1∧∃F',vK w' p (vD L Lq t).2.2 F'∧Ext FP w0 w'∧∀b,F' b→FP b∨w0.heap.size≤b)):=by
 refine w_M _ _ _ w0 (fun r1 r2 w'=>r1=(vD L Lq t).1∧r2=(vD L Lq t).2.1∧∃F',vK w' p (vD L Lq t).2.2 F'∧Ext FP w0 w'∧∀b,F' b→FP b∨w0.heap.size≤b) ?_
 unfold m_M
 refine (yV q t w0 hPQ).mono ?_
 rintro _ w1 ⟨_,rfl,rfl,rfl⟩
 refine ⟨_,rfl,Kept.refl _,fun hc=>?_,fun hc=>?_⟩
 ·have hin:inP Lq t=false:=by simpa using hc
  have e:vD L Lq t=(0,51,L):=by unfold vD;rw [if_neg (by rw [hin];simp)]
  rw [e]
  exact ⟨rfl,rfl,FP,hP,Ext.refl _,fun b hb=>.inl hb⟩
 have hin:inP Lq t=true:=by simpa using hc
 refine (jCK q t w1 hQ hPQ).mono ?_
 rintro _ w2 ⟨r2,rfl,hr2⟩
 have E2:=hr2.pure
 have z2:=E2.size
 have poolLen:∀{w:World} {a:Addr} {L:Pool} {F:NP},vK w a L F→∃v:Sl,w.cell? a=some v.v∧v.len=L.length:=fun h=>by
  obtain ⟨sa,sb,sc,h,_⟩:=h;exact ⟨sa,h.box.cell0,by rw [h.r1.len];simp⟩
 obtain ⟨v1,hv1,hv1l⟩:=poolLen (hPQ.pure E2)
 have hLq:=hQ.ok.few
 refine ⟨r2,rfl,E2.keptP,q,rfl,v1,hv1,?_⟩
 rw [hv1l,show IntKind.i64.wrap ((Lq.length:Int)+1)=((Lq.length+1:Nat):Int) by rw [i64 (by omega) (by omega)];omega]
 obtain ⟨w3, hmk, hR3, E3⟩ := Rws.make (P := prog) jEX (zr := [.int .i64 0]) (fun i z hi hz => by
   have h1:prog.info? 73=some t73:=by kernel_rfl
   rw [h1] at hi;cases hi;have h2:t73.zero=some (.int .i64 0):=by kernel_rfl
   rw [h2] at hz;cases hz;rfl) (k:=.i64) (k':=.i64) (n:=Lq.length+1) (by omega) (by simp only [maxLen];omega) w2
 refine ⟨_,w3,hmk,E3.keptP,?_⟩
 generalize hs1e:(Sl.mk (some ⟨w2.heap.size,0,none⟩) (Lq.length+1) (Lq.length+1))=s1 at *
 have hs1b:∀x,s1.blk x→x=w2.heap.size:=fun x hx=>by subst hs1e;obtain ⟨a,ha,rfl⟩:=hx;cases ha;rfl
 have hrep:List.replicate (Lq.length+1) [Value.int .i64 0]=tmr (List.replicate (Lq.length+1) 0):=by simp [tmr]
 rw [hrep] at hR3
 have z3:=E3.size
 have P3:=(hP.pure E2).pure E3
 obtain ⟨v2,hv2,hv2l⟩:=poolLen P3
 refine ⟨p,rfl,v2,hv2,?_⟩
 have hfew:=uH hQ t
 have hsub:∀u∈subs Lq t,inP Lq u=true:=fun u hu=>uU hQ hu
 have hnd:=jAG hQ t
 have htin:t∈subs Lq t:=jHT hQ hin
 generalize hcs:vD L Lq t=cs at *
 have hcs':cs=if (zS Lq (subs Lq t) L (fun _=>0)).2.1≠0 then (0,(zS Lq (subs Lq t) L (fun _=>0)).2.1,L) else ((zS Lq (subs Lq t) L (fun _=>0)).2.2 t,0,(zS Lq (subs Lq t) L (fun _=>0)).1):=by rw [← hcs];unfold vD;rw [if_pos hin]
 generalize subs Lq t=xs at *
 have h00:zS Lq (xs.take 0) L (fun _=>0)=(L,0,fun _=>0):=by rw [List.take_zero];rfl
 have C3:CrAt w1 None w3 p q L Lq s1 r2 (List.replicate (Lq.length+1) 0) xs FP FP FQ:=⟨P3,(hPQ.pure E2).pure E3,hR3,hr2.rows.pure E3,Ext.pure (E2.trans E3),fun _ _ h=>h,fun b hb=>.inl hb,fun b hb=>hb.elim (fun h=>by have:=hs1b b h;omega) (hr2.own b),fun b hb=>⟨hd b hb,fun hh=>by have:=hs1b b hh;have:=hP.lt hb;omega,fun hh=>by have:=hr2.own b hh;have:=hP.lt hb;omega⟩,fun b hb=>⟨fun hh=>by have:=hs1b b hb;have:=hPQ.lt hh;omega,fun hh=>by have:=hs1b b hb;have:=hr2.rows.lt hh;omega⟩⟩
 refine ⟨fun i H w=>∃(j:Nat) (A:List Int) (F':NP),i=j∧j≤xs.length∧(zS Lq (xs.take j) L (fun _=>0)).2.1=0∧A.length=Lq.length+1∧(∀x:Nat,x≤Lq.length→A[x]?=some ((zS Lq (xs.take j) L (fun _=>0)).2.2 (x:Int)))∧CrAt w1 H w p q (zS Lq (xs.take j) L (fun _=>0)).1 Lq s1 r2 A xs FP F' FQ,fun i _=>((xs.length:Int) - i).toNat,⟨0,List.replicate (Lq.length+1) 0,FP,rfl,Nat.zero_le _,by rw [h00],by rw [List.length_replicate],fun x hx=>by rw [h00,List.getElem?_replicate,if_pos (by omega)],by rw [h00];exact C3⟩,?_⟩
 rintro _ Hl wl hst ⟨j,A,F',rfl,hj,h0,hAl,hA,hC⟩
 unfold m_M_l1
 have hlen:r2.len=xs.length:=by rw [hC.subs.len,zY]
 refine ⟨fun hc=>?_,fun hc=>?_⟩
 ·have hc:=vR hlen hc
  have hzin:=hsub xs[j] (List.getElem_mem _)
  have hz:=zI.1 hzin
  have htk:xs.take (j+1)=xs.take j++[xs[j]]:=List.take_succ_eq_append_getElem hc
  have hsplit:xs=xs.take j++xs[j] :: xs.drop (j+1):=by rw [← List.drop_eq_getElem_cons hc,List.take_append_drop]
  obtain ⟨a4,hat4,_,hv4⟩:=uQ hC.subs.lst hc
  obtain ⟨v3,a5,hv3,hFq,hat5,hrow5,hF5⟩:∃(v3:Sl) (a5:Addr),wl.cell? q=some v3.v∧FQ q.block∧At v3 (IntKind.i64.wrap (xs[j] - 1)) 7 a5∧Row wl a5 (oO (nodeOf Lq xs[j]))∧FQ a5.block:=by
   obtain ⟨sa,sb,sc,h,hF⟩:=hC.pq;obtain ⟨e,he,⟨a,g1,g2⟩,_⟩:=h.at1 hzin hQ.ok;refine ⟨sa,a,h.box.cell0,(hF _).2 (.inl rfl),g1,?_,(hF _).2 (.inr (.inl (jMC g1)))⟩;have:nodeOf Lq xs[j]=e.node:=by simp only [nodeOf,he,Option.map_some,Option.getD_some]
   rw [this];exact g2
  obtain ⟨_,c2,c3,_,c5,_⟩:=hQ.node hzin
  have kid:∀y:Int,(y=(nodeOf Lq xs[j]).a∨y=(nodeOf Lq xs[j]).b)→y=0∨(1≤y∧y≤Lq.length):=by
   intro y hy;rcases qX (nodeOf Lq xs[j]).kind with e | e | e
   ·grind
   ·have hb:=c3 (by omega);rcases hy with h | h
    ·right;have:=(c5 y (by unfold zB;rw [e,h];simp)).1;exact zI.1 this
    ·left;omega
   ·right;have:=(c5 y (by unfold zB;rw [e];rcases hy with h | h <;> simp [h])).1;exact zI.1 this
  have hz0:(zS Lq (xs.take j) L (fun _=>0)).2.2 0=0:=jWW _ _ _ (fun h=>by have:=zI.1 (hsub 0 (List.mem_of_mem_take h));omega)
  have hfail:=fun n=>@jKI Lq (xs.take j) (xs.drop (j+1)) xs[j] L (fun _=>0) h0 n
  have hnext:=fun n=>@jKH Lq (xs.take j) xs[j] L (fun _=>0) h0 n
  have hgrow:=jCG Lq (xs.take j) L (fun _=>0)
  have hwc:=jPW (Lq:=Lq) (xs.take j) L (fun _=>0) hW
  rw [← htk] at hnext
  rw [← hsplit] at hfail
  generalize hnz:nodeOf Lq xs[j]=n at *
  generalize xs[j]=z at *
  generalize zS Lq (xs.take j) L (fun _=>0)=cg at *
  have rdA:∀(y:Int),1≤y→y≤Lq.length→∀{H:NP} {w:World} {F':NP},CrAt w1 H w p q cg.1 Lq s1 r2 A xs FP F' FQ→∃a9:Addr,At s1 y 1 a9∧s1.blk a9.block∧w.cell? a9=some (.int .i64 (cg.2.2 y)):=by
   intro y h1 h2 H w F' h;have hy:((y.toNat:Nat):Int)=y:=by omega
   have hlt:y.toNat<A.length:=by omega
   obtain ⟨a9,g1,_,g3⟩:=uQ h.at_.lst hlt;have hAy:=hA y.toNat (by omega);rw [List.getElem?_eq_getElem hlt,hy] at hAy;have hAy:=Option.some.inj hAy;rw [hy] at g1;exact ⟨a9,g1,jMC g1,by rw [g3,hAy]⟩
  have kH:=hC.own
  refine ⟨q,rfl,v3,hv3,kH _ (.inr (.inl hFq)),a4,hat4,z,hv4,kH _ (.inr (.inr (.inr (jMC hat4)))),a5,hat5,n.kind,n.frm,n.to,n.num,n.text,n.a,n.b,hrow5,kH _ (.inr (.inl hF5)),?_⟩
  have hnn:({ n with a:=cg.2.2 n.a,b:=cg.2.2 n.b }:Node)=⟨n.kind,n.frm,n.to,n.num,n.text,cg.2.2 n.a,cg.2.2 n.b⟩:=rfl
  have j3 : ∀ (va vb : Int) (H : NP) (w : World), va = cg.2.2 n.a → vb = cg.2.2 n.b → Hst w1 H w H w → CrAt w1 H w p q cg.1 Lq s1 r2 A xs FP F' FQ →
    m_M_j3 (some p) r2 s1 v2 j n.kind n.frm n.to n.num n.text va vb H w (fun y'0 H' w'=>(∃(j:Nat) (A:List Int) (F':NP),y'0=j∧j≤xs.length∧(zS Lq (xs.take j) L (fun _=>0)).2.1=0∧A.length=Lq.length+1∧(∀x:Nat,x≤Lq.length→A[x]?=some ((zS Lq (xs.take j) L (fun _=>0)).2.2 (x:Int)))∧CrAt w1 H' w' p q (zS Lq (xs.take j) L (fun _=>0)).1 Lq s1 r2 A xs FP F' FQ)∧((xs.length:Int) - y'0).toNat<((xs.length:Int) - (j:Int)).toNat) (fun r1 r2 w'=>r1=cs.1∧r2=cs.2.1∧∃F',vK w' p cs.2.2 F'∧Ext FP w1 w'∧∀b,F' b→FP b∨w1.heap.size≤b):=by
   rintro va vb H w rfl rfl hsw h
   unfold m_M_j3
   refine (vV p ⟨n.kind,n.frm,n.to,n.num,n.text,cg.2.2 n.a,cg.2.2 n.b⟩ w h.pp hwc.ok).mono ?_
   rintro _ w10 ⟨r3,r4,rfl,he,F2,hP2,X10,hF2⟩
   have he1:=congrArg Prod.fst he
   have he2:=congrArg Prod.snd he
   simp only at he1 he2
   have hHlt:∀b,H b→b<w.heap.size:=fun b hb=>hsw.lt b hb
   have z10:=X10.size
   have zw:=h.ext.size
   have C10:CrAt w1 H w10 p q (make cg.1 ⟨n.kind,n.frm,n.to,n.num,n.text,cg.2.2 n.a,cg.2.2 n.b⟩).2.2 Lq s1 r2 A xs FP F2 FQ :=
    ⟨hP2,h.pq.ext X10 (fun b hb hh=>(h.dis b hh).1 hb),h.at_.ext X10 (fun b hb hh=>(h.dis b hh).2.1 hb),h.subs.ext X10 (fun b hb hh=>(h.dis b hh).2.2 hb),h.ext.trans' X10 (fun i hi hh=>(h.oF i hh).elim id (fun h=>by omega)),fun b hb=>by
     rcases hb with hb | hb
     ·exact (hF2 b hb).elim (fun h1=>h.own b (.inl h1)) (fun h1 hh=>by have:=hHlt b hh;omega)
     ·exact h.own b (.inr hb),fun b hb=>(hF2 b hb).elim (h.oF b) (fun h1=>.inr (by omega)),h.oS,fun b hb=>(hF2 b hb).elim (h.dis b) (fun h1=>⟨fun hh=>by have:=h.pq.lt hh;omega,fun hh=>by have:=h.at_.lt hh;omega,fun hh=>by have:=h.subs.lt hh;omega⟩),h.dS⟩
   refine ⟨r3,r4,rfl,X10.kept (fun b hb hh=>h.own b (.inl hh) hb),fun hc4=>?_,fun hc4=>?_⟩
   ·have h5:(make cg.1 ⟨n.kind,n.frm,n.to,n.num,n.text,cg.2.2 n.a,cg.2.2 n.b⟩).2.1≠0:=by rw [← he2];exact bne_iff_ne.1 hc4
    have hf:=hfail _ hnn h5
    rw [← he2] at hf
    have hcs2:cs=(0,r4,L):=by rw [hcs',hf,if_pos (by rw [he2];exact h5)]
    obtain ⟨Mg,hMg⟩:=hgrow
    obtain ⟨M2,hM2⟩:=yO cg.1 ⟨n.kind,n.frm,n.to,n.num,n.text,cg.2.2 n.a,cg.2.2 n.b⟩
    rw [hM2,hMg,List.append_assoc] at hP2
    rw [hv2l]
    refine (jKJ p L.length w10 hP2 (by rw [List.length_append];omega)).mono ?_
    rintro _ w11 ⟨rfl,hP3,X11⟩
    rw [List.take_left] at hP3
    refine ⟨rfl,X11.kept (fun b hb hh=>C10.own b (.inl hh) hb),?_⟩
    rw [hcs2]
    exact ⟨rfl,rfl,F2,hP3,C10.ext.trans' X11 (fun i hi hh=>(C10.oF i hh).elim id (fun h=>by omega)),C10.oF⟩
   ·have h5:(make cg.1 ⟨n.kind,n.frm,n.to,n.num,n.text,cg.2.2 n.a,cg.2.2 n.b⟩).2.1=0:=by rw [← he2];simpa using hc4
    have hn:=hnext _ hnn h5
    rw [← he1] at hn
    obtain ⟨a6,hat6,_,hv6⟩:=uQ C10.subs.lst hc
    have hv6':w10.cell? a6=some (.int .i64 z):=by grind
    obtain ⟨a7,hat7,hb7,hw7,hset⟩:=jYG C10.at_ (k:=z) (j:=z.toNat) (by omega) (by omega)
    refine ⟨a6,hat6,z,hv6',a7,hat7,hw7,C10.own _ (.inr (.inr (.inl hb7))),?_⟩
    rintro w12 e12
    obtain ⟨hA12,X12⟩:=hset r3
    rw [← e12] at hA12 X12
    refine ⟨⟨j+1,A.set z.toNat r3,F2,zQ hc (by omega),hc,by rw [hn],by rw [List.length_set];exact hAl,fun x hx=>?_,?_⟩,by rw [zQ hc (by omega)];exact uR hc⟩
    ·rw [hn]
     simp only
     by_cases e:(x:Int)=z
     ·rw [if_pos e,show z.toNat=x by omega,List.getElem?_set_self (by omega)]
     ·rw [if_neg e,List.getElem?_set_ne (by omega)];exact hA x hx
    ·rw [hn]
     exact ⟨C10.pp.ext X12 (fun b hb hh=>(C10.dis b hb).2.1 hh),C10.pq.ext X12 (fun b hb hh=>(C10.dS b hh).1 hb),hA12,C10.subs.ext X12 (fun b hb hh=>(C10.dS b hh).2 hb),C10.ext.trans' X12 (fun i hi hh=>by have:=C10.oS i (.inl hh);omega),C10.own,C10.oF,C10.oS,C10.dis,C10.dS⟩
  have j2 : ∀ (va : Int) (H : NP) (w : World), va = cg.2.2 n.a → Hst w1 H w H w → CrAt w1 H w p q cg.1 Lq s1 r2 A xs FP F' FQ →
    m_M_j2 (some p) r2 s1 v2 j n.kind n.frm n.to n.num n.text va n.b w1 H w (fun y'0 H' w'=>(∃(j:Nat) (A:List Int) (F':NP),y'0=j∧j≤xs.length∧(zS Lq (xs.take j) L (fun _=>0)).2.1=0∧A.length=Lq.length+1∧(∀x:Nat,x≤Lq.length→A[x]?=some ((zS Lq (xs.take j) L (fun _=>0)).2.2 (x:Int)))∧CrAt w1 H' w' p q (zS Lq (xs.take j) L (fun _=>0)).1 Lq s1 r2 A xs FP F' FQ)∧((xs.length:Int) - y'0).toNat<((xs.length:Int) - (j:Int)).toNat) (fun r1 r2 w'=>r1=cs.1∧r2=cs.2.1∧∃F',vK w' p cs.2.2 F'∧Ext FP w1 w'∧∀b,F' b→FP b∨w1.heap.size≤b):=by
   rintro va H w hva hsw h
   unfold m_M_j2
   refine ⟨fun hc=>?_,fun hc=>?_⟩
   ·have hb:=(kid n.b (.inr rfl)).resolve_left (fun e=>by have:=of_decide_eq_true hc;omega)
    obtain ⟨a8,g1,g2,g3⟩:=rdA n.b hb.1 hb.2 h
    exact ⟨a8,g1,_,g3,fun w13 hs13=>j3 va _ H w13 hva rfl hs13.here (h.hst hs13)⟩
   ·grind
  refine ⟨fun hc2=>?_,fun hc2=>?_⟩
  ·have ha:=(kid n.a (.inl rfl)).resolve_left (fun e=>by have:=of_decide_eq_true hc2;omega)
   obtain ⟨a9,g1,g2,g3⟩:=rdA n.a ha.1 ha.2 hC
   refine ⟨a9,g1,fun H2 w7 hs7=>?_⟩
   have h7:=hC.hst hs7
   obtain ⟨a9',g1',_,g3'⟩:=rdA n.a ha.1 ha.2 h7
   have:a9'=a9:=by
    obtain ⟨_,_,b1,hb1,rfl⟩:=g1';obtain ⟨_,_,b2,hb2,rfl⟩:=g1;rw [hb1] at hb2;cases hb2;rfl
   subst this
   exact ⟨_,g3',fun w14 hs14=>j2 _ H2 w14 rfl hs14.here (h7.hst hs14)⟩
  ·have ha:n.a=0:=(kid n.a (.inl rfl)).resolve_right (fun e=>by have:=of_decide_eq_false hc2;omega)
   exact fun H2 w7 hs7=>j2 n.a H2 w7 (by rw [ha,hz0]) hs7.here (hC.hst hs7)
 ·have hc:=yI hlen hj hc
  subst hc
  rw [List.take_length] at h0 hA hC
  have ht:=zI.1 hin
  have hlt:t.toNat<A.length:=by omega
  obtain ⟨a10,g1,_,g3⟩:=uQ hC.at_.lst hlt
  have hAt:=hA t.toNat (by omega)
  rw [List.getElem?_eq_getElem hlt] at hAt
  have ht2:((t.toNat:Nat):Int)=t:=by omega
  rw [ht2] at hAt g1
  have hAt:=Option.some.inj hAt
  refine ⟨a10,g1,_,g3,?_⟩
  rw [hcs',if_neg (by rw [h0];exact fun h=>h rfl)]
  exact ⟨hAt,rfl,F',hC.pp,hC.ext,hC.oF⟩
end Go.Proofs
end
section
namespace Go.Proofs
def jPA(L n):(make L n).2.2.length<=L.length+1:=by
 rcases jFH L n with e|⟨_,e⟩<;>rw[e]<;>simp
end Go.Proofs
end
section
open Go Go.SE List
namespace Go.Proofs
end Go.Proofs
namespace Go.Proofs
attribute [local irreducible] Calls
structure Pl2(w0:World)(H:NP)(w:World)(p q:Addr)(L1 L2:Pool)(F1 F2:NP):Prop where
 pure:Pure w0 w
 pool:zD w p L1 F1
 ref:vK w q L2 F2
 o1:∀b,F1 b->w0.heap.size<=b/\¬H b/\¬F2 b
 o2:∀b,F2 b->w0.heap.size<=b/\¬H b
section
variable {w0 w w':World} {H H':NP} {p q:Addr} {L1 L2:Pool} {F1 F2:NP}
def Pl2.pureE(h:Pl2 w0 H w p q L1 L2 F1 F2)(E:Pure w w'):Pl2 w0 H w' p q L1 L2 F1 F2:=⟨h.pure.trans E,h.pool.pure E,h.ref.pure E,h.o1,h.o2⟩
def Pl2.first(h:Pl2 w H w' p q L1 L2 F1 F2)(E:Pure w0 w):Pl2 w0 H w' p q L1 L2 F1 F2:=
 ⟨E.trans h.pure,h.pool,h.ref,fun b a=>⟨Nat.le_trans E.size (h.o1 b a).1,(h.o1 b a).2⟩,fun b a=>⟨Nat.le_trans E.size (h.o2 b a).1,(h.o2 b a).2⟩⟩
def Pl2.hst(h:Pl2 w0 H w p q L1 L2 F1 F2)(hs:Hst w0 H w H' w'):Pl2 w0 H' w' p q L1 L2 F1 F2:=by
 have d:∀b,b<w.heap.size->¬H b->¬H' b:=fun b h1 h2=>hs.disj (G:=(·=b)) Gd b rfl;have d1:∀b,F1 b->¬H' b:=fun b a=>d b (h.pool.lt a) (h.o1 b a).2.1;have d2:∀b,F2 b->¬H' b:=fun b a=>d b (h.ref.lt a) (h.o2 b a).2;exact⟨h.pure.hst hs,h.pool.ext hs.ext d1,h.ref.ext hs.ext d2,fun b a=>⟨(h.o1 b a).1,d1 b a,(h.o1 b a).2.2⟩,fun b a=>⟨(h.o2 b a).1,d2 b a⟩⟩
end
end Go.Proofs
end
section
open Go Go.SE List
namespace Go.Proofs
end Go.Proofs
namespace Go.Proofs
attribute [local irreducible] Calls CallsD
end Go.Proofs
end
section
open Go Go.SE List
namespace Go.Proofs
open Tryz
attribute [local irreducible] Calls
def jQK(p){L}(hW:Wf L):∀(n:Nat) (t:Int) (g:World) (F:NP),t.toNat=n->vK g p L F ->
  cl 20 #[vp (some p),vi t] g (RetT g.heap.size g (zA L t)):=by
 intro n
 induction n using Nat.strongRecOn with
 |_ n ih =>
 intro t g F hn hP
 suffices key:∀K:Int->Int->Int->Int->ByteArray->Sl->WP,(∀k f C u x s' w' ks,zA L t=.mk k f C u x ks->TreeAt (g.heap.size<=·) w' s' (.mk k f C u x ks)->Pure g w'->K k f C u x s' w')->m_D1 (some p) t g K by
  refine(w_D1 _ _ g (fun k f C u x s' w'=>∃ks,zA L t=.mk k f C u x ks/\TreeAt (g.heap.size<=·) w' s' (.mk k f C u x ks)/\Pure g w') (key _ Gd)).mono ?_;rintro _ w' ⟨k,f,C,u,x,s',rfl,ks,h1,h2,h3⟩;rw[h1];exact⟨s',rfl,h2,h3⟩
 intro K hK
 have hok:=hW.ok
 have N:∀b,¬Sl.nil.blk b:=fun b d=>by have⟨a,h,_⟩:=d;cases h
 intro H1 w1 hs1
 have E1:=hs1.first
 refine(jCM p t w1 (hP.pure E1) hok).mono ?_
 rintro _ w2 ⟨k,f,C,u,x,a,b,r,rfl,⟨hnd,hr⟩,E2⟩
 have E02:=E1.trans E2
 have hs2:=hs1.again E2.keptP
 refine⟨_,_,_,_,_,_,_,_,rfl,E2.keptP,fun h=>?_,fun h=>?_⟩
 .intro H2 w5 hs5
  have D:inP L t=false:=by rw[<-hr];simpa using h
  exact hK _ _ _ _ _ _ _ [] (by rw[jDO D];rfl) TreeAt.leaf (E02.hst hs5)
 .have D:inP L t=true:=by rw[<-hr];simpa using h
  have T:=zU hW D
  have m:=hW.node D
  rw[<-hnd]at T m
  simp only at T m
  have⟨_,_,_,_,Z,_,_⟩:=m
  have hpos:=zI.1 D
  rw[qS]
  have J1 : ∀ (xs : Sl) (H : NP) (w : World) (X : List (Tree × Sl)) (S' : NP), Hst g H w H w -> Pure g w -> Own H w 71 6 xs (X.map zGQ) -> X.length <= 1 -> (∀ p ∈ X, TreeAt S' w p.2 p.1) -> (∀ b, S' b -> g.heap.size <= b /\ b < w.heap.size /\ ¬ H b /\ ¬ xs.blk b) -> (∀ b, xs.blk b -> g.heap.size <= b) ->
    ((shapeOf k).kids=2->X.map Prod.fst=[zA L a])->((shapeOf k).kids≠2->X.map Prod.fst=(zB ⟨k,f,C,u,x,a,b⟩).map (zA L)) ->
    m_D1_j1 (some p) k b k f C u x xs g H w K:=by
   intro xs H w X S' hs E O hpl M l hxs h2 h1
   unfold m_D1_j1
   rw[qS]
   refine⟨fun h=>?_,fun h=>?_⟩
   .have I:(shapeOf k).kids=2:=by simpa using h
    have hps:=h2 I
    intro w9 A
    have E9:=E.hst A
    have O9:=O.hst A
    have R:Pure w9 w9.drew:=Ext.drew w9
    refine⟨fun _=>True,trivial,?_⟩
    rintro _ rfl
    have d:=Z b (by simp[zB,I])
    have hbp:=zI.1 d.1
    refine(ih b.toNat Om b w9.drew F rfl (hP.pure (E9.trans R))).mono ?_
    rintro _ w11 ⟨s',rfl,hTb,y⟩
    generalize hTt:zA L b=tb at *
    have⟨k2,f2,t2,u2,x2,s⟩:=tb
    refine⟨_,_,_,_,_,s',rfl,trivial,y.keptP,?_⟩
    intro p5 w12 h12
    have B:Pure w11 w12:=Ext.new h12
    refine⟨trivial,?_⟩
    have hs12:Hst g H w12 H w12:=(A.again R.keptP).again (y.trans B).keptP
    have⟨s1,w13,hr13,J,v,hk13,hb13⟩:=(O9.pure ((R.trans y).trans B)).append (P:=prog) (ty:=69) (c:=1) jTM hs12 (r:=uP (.mk k2 f2 t2 u2 x2 s) s') (Box.of_new h12).row rfl (jTJ _ _) So (by simp[maxLen];omega)
    refine⟨s1,w13,hr13,trivial,hk13,?_⟩
    intro w15 j
    have zd:w9.drew.heap.size=w9.heap.size:=rfl
    have z9:=A.ext.size
    have z11:=y.size
    have z12:=B.size
    have z13:=v.size
    have hS9:∀b,S' b->g.heap.size<=b/\b<w9.heap.size/\¬H b/\¬xs.blk b:=fun b d=>⟨(l b d).1,Oh ((l b d).2.1),(l b d).2.2.1,(l b d).2.2.2⟩
    have hvs:∀b,s1.blk b->b<w13.heap.size/\¬H b:=fun b d=>⟨J.rows.lt d,J.vis b d⟩
    have Y:=J.rows.ext j.ext (j.disj (G:=s1.blk) hvs)
    have e1:X.map zGQ++[uP (.mk k2 f2 t2 u2 x2 s) s']=(X++[((.mk k2 f2 t2 u2 x2 s:Tree),s')]).map zGQ:=by simp[zGQ]
    rw[e1]at Y
    have hT:=TreeAt.of_pairs (S:=fun b=>g.heap.size<=b) (k:=k) (f:=f) (t:=C) (u:=u) (x:=x) Y (fun b d=>(hb13 b d).elim (hxs b) fun h=>Oh E9.size) (fun q hq=>?_) So
    .have e2 : (X ++ [((.mk k2 f2 t2 u2 x2 s : Tree), s')]).map Prod.fst = (zB ⟨k, f, C, u, x, a, b⟩).map (zA L):=by
      rw[map_append,hps];simp[zB,I,hTt]
     rw[e2]at hT
     exact hK _ _ _ _ _ _ _ _ T hT ((((E9.trans R).trans y).trans B).trans' v Gd |>.hst j)
    .rcases mem_append.1 hq with h|h
     .have q1:=(M q h).hst A Gd
      have q2:=(q1.pure ((R.trans y).trans B)).ext v Gd
      exact(q2.hst j Gd).mono fun b d=>(l b d).1
     .simp only[mem_singleton]at h;subst h
      have q1:=(hTb.lt.pure B).ext v fun b d hy=>Oi (O9.rows.lt hy) d.1
      exact(q1.hst j fun b d=>⟨Oh d.2,fun hh=>Oi (A.lt b hh) d.1⟩).mono fun b d=>Oi d.1 E9.size
   .have I:(shapeOf k).kids≠2:=by simpa using h
    intro w16 Q
    have O16:=O.hst Q
    have hT:=TreeAt.of_pairs (S:=fun b=>g.heap.size<=b) (k:=k) (f:=f) (t:=C) (u:=u) (x:=x) O16.rows hxs (fun q hq=>((M q hq).hst Q fun b d=>⟨(l b d).2.1,(l b d).2.2.1⟩).mono fun b d=>(l b d).1) Om
    rw[h1 I]at hT
    exact hK _ _ _ _ _ _ _ _ T hT (E.hst Q)
  have hkk:=qX k
  refine⟨fun h=>?_,fun h=>?_⟩
  .have hk1:1<=(shapeOf k).kids:=Oh (of_decide_eq_true h)
   intro H3 U o
   have E8:=E02.hst o
   have E17:Pure U U.drew:=Ext.drew U
   refine⟨fun _=>True,trivial,?_⟩
   rintro _ rfl
   have ha:=Z a (by rcases hkk with h|h|h<;>simp[zB,h]<;>omega)
   have hap:=zI.1 ha.1
   refine(ih a.toNat Om a U.drew F rfl (hP.pure (E8.trans E17))).mono ?_
   rintro _ w18 ⟨s',rfl,hTa,W⟩
   generalize hTt:zA L a=ta at *
   have⟨k2,f2,t2,u2,x2,s⟩:=ta
   refine⟨_,_,_,_,_,s',rfl,trivial,W.keptP,?_⟩
   intro p6 z h19
   have V:Pure w18 z:=Ext.new h19
   refine⟨trivial,?_⟩
   have hs19:Hst g H3 z H3 z:=(o.again E17.keptP).again (W.trans V).keptP
   have⟨s2,w20,hr20,hO20,hE20,hk20,hb20⟩:=(Own.nil (sz:=6) (e:=71) H3 z).append (P:=prog) (ty:=69) (c:=1) jTM hs19 (r:=uP (.mk k2 f2 t2 u2 x2 s) s') (Box.of_new h19).row rfl (jTJ _ _) Sm (by simp[maxLen])
   refine⟨s2,w20,hr20,trivial,hk20,?_⟩
   intro w21 i
   have zd:U.drew.heap.size=U.heap.size:=rfl
   have z18:=W.size
   have z19:=V.size
   have z20:=hE20.size
   have z21:=i.ext.size
   have E20:Pure z w20:=hE20.mono fun b _ d=>N b d
   have hs2n:∀b,s2.blk b->z.heap.size<=b:=fun b d=>(hb20 b d).elim (fun h=>(N b h).elim) id
   refine J1 s2 H3 w21 [((.mk k2 f2 t2 u2 x2 s:Tree),s')] (fun b=>U.heap.size<=b/\b<w18.heap.size) i.here ((((E8.trans E17).trans W).trans V).trans E20 |>.hst i) ?_ Sm ?_ ?_ (fun b d=>Oi (hs2n b d) E8.size) (fun _=>Sm) fun hne=>?_
   .have:=hO20.hst i;simpa[zGQ]using this
   .intro q hq
    simp only[mem_singleton]at hq;subst hq
    exact((hTa.lt.pure V).pure E20).hst i fun b d=>⟨Oh d.2,fun hh=>Oi (o.lt b hh) d.1⟩
   .rintro b ⟨h1,h2⟩
    exact⟨Oh E8.size,Om,fun hh=>Oh (o.lt b hh),fun hh=>Oh (hs2n b hh)⟩
   .rcases hkk with h|h|h
    .omega
    .simp[zB,h,hTt]
    .exact absurd h hne
  .have hk0:(shapeOf k).kids=0:=Oh (of_decide_eq_false h)
   intro H3 U o
   exact J1 Sl.nil H3 U [] (fun _=>False) o.here (E02.hst o) (Own.nil _ _) Sm Sm (fun b h=>h.elim) (fun b h=>(N b h).elim) (fun h=>Om) (fun _=>by simp[zB,hk0])
end Go.Proofs
end
section
open Go Go.SE
namespace Go.Proofs
open Tryz
attribute [local irreducible] Calls CallsD
def jQP{S0}(p sb bs w0){L FP}(D:Wf L)(o:vK w0 p L FP)(hs:Lst S0 w0 1 sb (byr bs)):
  cl 54 #[vp<|some p,sb.v] w0<|XJ fun t x y w'=>t=(qY L bs).1/\x=(qY L bs).2.1/\y=((qY L bs).2.2.1:Int)/\∃F',vK w' p (qY L bs).2.2.2 F'/\Ext FP w0 w'/\∀b,F' b->FP b\/w0.heap.size<=b:=by
 refine w_C6 _ _ w0 _ ?_
 refine(zHL sb bs w0 hs).mono ?_
 rintro _ u ⟨x,y,z,rfl,j,s,e,g⟩
 refine⟨_,_,_,rfl,?_⟩
 cases c:(zW bs).1 with
 |none =>
  have r:qY L bs=(0,(zW bs).2.1,(zW bs).2.2,L):=by unfold qY;rw[c]
  have B:y≠0:=by rw[j];exact xN c
  refine⟨fun _=>?_,fun k=>absurd (by simpa using k) B⟩
  rw[r]
  exact⟨rfl,j,s,FP,o.pure g,Ext.pure g,fun b d=>.inl d⟩
 |some q =>
  obtain⟨a,F,rfl,f,A⟩:=e.1 q c
  have⟨E,_,I,_⟩:=uX c
  have w:=jOM c
  have r:qY L bs=((vD L q q.length).1,(vD L q q.length).2.1,0,(vD L q q.length).2.2):=by unfold qY;rw[c]
  rw[w]at j
  obtain⟨G,m,i⟩:∃v:Sl,u.cell? a=some v.v/\v.len=q.length:=by
   have⟨sa,sb,sc,h,_⟩:=f;exact⟨sa,h.box.cell0,by rw[h.r1.len];simp⟩
  refine⟨fun k=>absurd j<|by simpa using k,fun _=>⟨a,rfl,G,m,?_⟩⟩
  rw[i]
  refine(jQM p a q.length u D E (o.pure g) f fun b d hh=>Oi (o.lt d)<|A b hh).mono ?_
  rintro _ H ⟨r1,r2,rfl,h1,h2,F',n,C,l⟩
  refine⟨_,_,rfl,?_⟩
  rw[r]
  exact⟨h1,h2,rfl,F',n,(Ext.pure g).trans C,fun b d=>(l b d).imp id fun h=>Oh g.size⟩
end Go.Proofs
end
