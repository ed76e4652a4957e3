import Derived.Test.YtjjcakjoeiolgaaGreatPa3
import Derived.Test.YtjjcakjoeiolgaaGreatPa9
import Derived.Test.YtjjcakjoeiolgaaGreatPa8
import Derived.Test.YtjjcakjoeiolgaaGreatPa6
set_option linter.defProp false
set_option linter.unusedVariables false
set_option linter.unusedSimpArgs false
section
open Go Go.SE List
open Go.IntKind renaming i64 -> q6
open Go renaming World->af,Value->bk,Addr->ao,Ending->fb,Program->ez,TypeId->dz
open Option renaming some->ab,none->bo
open Bool renaming true->ai,false->ak
open Go.Builtin renaming append_->cm
open Prod.mk renaming injEq->ei
open Go.IntKind renaming u64->dc
namespace Go.Proofs
open Tryz
set_option maxRecDepth 100000
set_option maxHeartbeats 4000000
attribute [local irreducible] cr ed dv de Calls CallsD
attribute [local irreducible] ee W WV WR uP pv e0 eh fe ka ek el ev eu fa dw di dn fc eo kp yS xA yF bn ub
def wq(L:bw)(ts:List Int):List gq:=ts.filterMap fun t=>if(pK L t).2=ai then ab (pK L t).1 else bo
def IV(L:bw)(G:List Int)(ls:List gq):Prop:=ls.Pairwise (rM · ·<0)/\∀l,l∈ls↔∃t,jn L G t/\pK L t=(l,ai)
def uE(bb c:Int)(l:gq):Bool:=(l.c==c)&&((l.ba==6) ||((l.ba==2)&&(l.cj==bb)))
def Hn(L:bw)(G:List Int)(bb c:Int)(xs:List ByteArray):Prop:=xs.Pairwise (oz · ·<0)/\∀x,x∈xs↔∃t l,jn L G t/\pK L t=(l,ai)/\uE bb c l=ai/\l.cf=x
def jUN{L t}(ts):wq L (ts++[t])=wq L ts++if(pK L t).2=ai then[(pK L t).1]else[]:=by
 unfold wq;rw[filterMap_append];congr 1;simp only[filterMap_cons,filterMap_nil];split<;>rename_i h;split at h;cases h;rename_i h2;rw[aw h2];split at h;rename_i h2;cases h;rw[bt h2];cases h
def OX(L ts):(wq L ts).length<=ts.length:=length_filterMap_le _ _
def zGL{L ts l}:l∈wq L ts↔∃t∈ts,pK L t=(l,ai):=by
 unfold wq;rw[mem_filterMap];constructor;rintro⟨t,ht,h⟩;split at h;rename_i h2;cases h;exact⟨t,ht,Prod.ext rfl h2⟩;cases h;rintro⟨t,ht,h⟩;exact⟨t,ht,Uc⟩
def LS(f w0){L G a b F}(h:lv w0 f L G a b F):
  cl 24 #[vp<|ab f] w0<|XA fun r w'=>∃ls,jd w0 35 5 (ls.map xW) r w'/\IV L G ls/\ls.length<=65536:=by
 suffices key:∀K:Sl->WP,(∀r ls w',jd w0 35 5 (ls.map xW) r w'->IV L G ls/\ls.length<=65536->K r w')->Ij (ab f) w0 K from
  Uv _ w0 _<|key _ fun r ls w' h1 h2=>⟨ls,h1,h2⟩
 intro K hK
 unfold Ij
 have⟨k,p,S,FK,FP,C,hF⟩:=h
 have O:(zK S).length<=65536:=by rw[yX];exact Nat.le_trans C.ok.toqj.jl C.wf.ok.jl
 refine Br.f rfl ⟨f,rfl,ab k,C.box.dj,?_⟩
 refine(zAD k p w0 C.ic Om).mono ?_
 rintro _ T ⟨r1,rfl,q,h1,n,_⟩
 have hql:q.length<=65536:=by rw[n.length_eq];exact O
 have R:r1.ay=q.length:=by rw[h1.fg.ay,zV]
 have E1:=h1.pure
 have z1:=E1.size
 refine⟨r1,rfl,h1.ff,fun o i H w'=>∃j:Nat,i=j/\j<=q.length/\aq w0 w'/\T.heap.size<=w'.heap.size/\(∀y,o.bg y->T.heap.size<=y)/\(∀y,H y->T.heap.size<=y)/\ji H w' 35 5 o ((wq L<|q.take j).map xW)/\ji H w' 73 1 r1 (fv q),fun _ i _=>((q.length:Int)-i).toNat,⟨0,rfl,Nat.zero_le _,E1,Nat.le_refl _,fun y h=>(by have⟨a,h,_⟩:=h;cases h),fun _ h=>h.elim,ji.nil _ _,⟨h1.fg,fun _ _ h=>h⟩⟩,?_⟩
 rintro o _ Hl wl hl' ⟨j,rfl,hj,El,zl,g,hH,M,O1⟩
 refine⟨fun h=>?_,fun h=>?_⟩
 have m:=vA R h
 have⟨a1,hat,_,hv⟩:=yN O1.fg.gS m
 have E:=C.ext El fun _ _ h=>h
 refine⟨a1,hat,_,hv,f,rfl,ab p,E.box.cell rfl,?_⟩
 refine(jPH p q[j] wl E.ew E.wf.ok).mono ?_
 rintro _ w2 ⟨k2,f2,c2,x2,g2,ok2,rfl,hrd,z⟩
 have u:=jUN (L:=L) (t:=q[j])<|q.take j
 rw[<-take_succ_eq_append_getElem m,<-hrd]at u
 have hbl:(wq L<|q.take j).length<=j:=Nat.le_trans (OX _ _) Uc
 have J:=El.trans z
 have z2:=z.size
 have up:∀{W U},au w0 Hl w2 W U->∀y,W y->T.heap.size<=y:=fun hs y s=>(hs.bu y s).elim (hH y) fun h=>Om
 refine⟨_,_,_,_,_,_,rfl,z.dy,fun h2 W U d p2 w5 h5=>?_,fun h2 W U d=>?_⟩
 subst h2
 rw[bt rfl]at u
 have I:aq U w5:=aj.bu h5
 have O5:=((M.pure z).bh d).pure I
 have hE5:=(J.bh d).trans I
 have D:Row w5 p2 (xW ⟨k2,f2,c2,x2,g2⟩):=(az.fi h5).row
 have⟨s',w6,hr,hO,Y,hk,hb⟩:=O5.append (P:=prog) (ty:=64) (c:=1) xM (d.jg I.dy) D rfl rfl So (by simp[maxLen];omega)
 refine⟨s',w6,hr,hk,?_⟩
 rw[zI m Om]
 have z4:=d.ext.size;have z5:=I.size;have z6:=Y.size
 refine⟨⟨j+1,rfl,m,MF O5 hE5 Y fun y s=>Nat.le_trans z1<|g y s,Om,fun y h=>(hb y h).elim (g y) fun h=>Om,up d,Uc,?_⟩,vT m⟩
 refine(((O1.pure z).bh d).pure I).ext Y fun y h3 h4=>?_
 have:=h1.fg.lt h3;have:=g y h4;omega
 subst h2
 rw[aw Sm,append_nil]at u
 rw[zI m Om]
 have z4:=d.ext.size
 exact⟨⟨j+1,rfl,m,J.bh d,Om,g,up d,by rw[u];exact(M.pure z).bh d,(O1.pure z).bh d⟩,vT m⟩
 have X:=vH R hj h
 subst X
 rw[take_length]at M
 have hll:=OX L q
 have hml:∀l,l∈wq L q↔∃t,jn L G t/\pK L t=(l,ai):=fun l=>by
  rw[zGL];constructor;rintro⟨t,ht,e⟩;exact⟨t,(C.ok.zz t).1<|n.mem_iff.1 ht,e⟩;rintro⟨t,ht,e⟩;exact⟨t,n.mem_iff.2<|(C.ok.zz t).2 ht,e⟩
 generalize wq L q=ls at *
 intro V w7 Z
 have E7:aq wl w7:=aj.bu Z
 have n7:=Z.gp
 have B7:=az.fi Z
 refine⟨B7.mi Sm,fun hh=>Oh<|hl'.lt _ hh,?_⟩
 rintro w8 rfl
 have X8:=aj.setCell (w:=w7) V<|.func (.func 74) #[] #[]
 have B8:=B7.nw (v:=.func (.func 74) #[] #[])
 have Q:¬o.bg V.block:=fun hh=>Oh<|M.fg.lt hh
 have O8:=(M.pure E7).ext X8 fun y s e=>Q<|e▸s
 have E8:aq wl (w7.setCell V<|.func (.func 74) #[] #[]):=E7.ft X8 fun i hi e=>Om
 refine(WC o ls V _ B8 Q O8.fg Om).mono ?_
 rintro _ w9 ⟨rfl,B,A,hsd,R9,E9⟩
 refine⟨rfl,E9.ff fun y s hs=>O8.lf y hs s,?_⟩
 refine(UL o B w9 R9 (by rw[A.length_eq];omega)).mono ?_
 rintro _ w10 ⟨r,rfl,R10,N,hb⟩
 refine⟨r,rfl,N.ff fun y s hs=>O8.lf y hs s,hK r (nU B) w10 ⟨R10,fun y s=>Nat.le_trans z1<|g y<|hb y s,(El.trans E8).ft (E9.trans N) fun i hi hs=>Uc⟩ ⟨⟨RE Ez QK hsd,fun x=>?_⟩,Oi (JM B) A.length_eq⟩⟩
 rw[LF,A.mem_iff];exact hml x
def EK:nY prog 79 9 1 16:=by
 refine⟨underlying79,⟨t9,_,Kf,(by kernel_rfl:t9.zero=ab (vs ⟨#[]⟩)),Kf,Kf,rfl⟩,Om⟩
def jVG(f bb c w0){L G a b F}(h:lv w0 f L G a b F):
  cl 26 #[vp<|ab f,vi bb,vu c] w0<|XA fun r w'=>∃xs,jd w0 9 1 (nQ xs) r w'/\(if vY bb=ai then Hn L G bb c xs else xs=[])/\xs.length<=65536:=by
 suffices key:∀K:Sl->WP,(∀r xs w',jd w0 9 1 (nQ xs) r w'->(if vY bb=ai then Hn L G bb c xs else xs=[])/\xs.length<=65536->K r w')->KW (ab f) bb c w0 K from
  jaC _ _ _ w0 _<|key _ fun r xs w' h1 h2=>⟨xs,h1,h2⟩
 intro K hK
 unfold KW
 have u:∀y,¬Sl.nil.bg y:=fun y h=>by have⟨a,h,_⟩:=h;cases h
 refine⟨fun Q U hs=>?_,fun Q U hs=>?_⟩
 .have hp:vY bb=ak:=by unfold vY;simpa using Q
  exact hK Sl.nil [] U ⟨c9.nil _ _ _,fun y h=>(u y h).elim,hs.first⟩ ⟨Uc,Sm⟩
 have hp:vY bb=ai:=by unfold vY;simpa only[Bool.not_eq_false']using Q
 have W:=hs.first
 refine(LS f U<|h.pure W).mono ?_
 rintro _ O ⟨r1,rfl,ls,h1,⟨hso,C⟩,hlen⟩
 have N:r1.ay=ls.length:=by rw[h1.fg.ay];simp
 have E2:=W.trans h1.pure
 have z1:=W.size;have z2:=h1.pure.size
 refine⟨r1,rfl,h1.ff,fun o i H w'=>∃j:Nat,i=j/\j<=ls.length/\aq w0 w'/\O.heap.size<=w'.heap.size/\(∀y,o.bg y->O.heap.size<=y)/\(∀y,H y->O.heap.size<=y)/\ji H w' 9 1 o (nQ<|((ls.take j).filter<|uE bb c).map gq.cf)/\ji H w' 35 5 r1 (ls.map xW),fun _ i _=>((ls.length:Int)-i).toNat,⟨0,rfl,Nat.zero_le _,E2,Nat.le_refl _,fun y h=>(u y h).elim,fun _ h=>h.elim,ji.nil _ _,⟨h1.fg,fun _ _ h=>h⟩⟩,?_⟩
 rintro o _ Hl wl hl' ⟨j,rfl,hj,Z,zl,k,hH,z,O1⟩
 refine⟨fun h=>?_,fun h=>?_⟩
 .have g:=vA N h
  have⟨a1,hat,D⟩:=O1.mv g
  have q:(ls.take<|j+1).filter (uE bb c)=(ls.take j).filter (uE bb c)++(if uE bb c ls[j]=ai then[ls[j]]else[]):=by
   rw[take_succ_eq_append_getElem g,filter_append];simp only[filter_cons,filter_nil]
  have hbl:(((ls.take j).filter<|uE bb c).map gq.cf).length<=j:=by
   have:=length_filter_le (uE bb c)<|ls.take j;rw[length_take]at this;rw[length_map];omega
  generalize ls[j]=m at *
  refine⟨a1,hat,_,_,_,_,_,D,?_⟩
  rintro y1 p
  have p:y1=uE bb c m:=p
  have up:∀{H1 w4},au w0 Hl wl H1 w4->∀y,H1 y->O.heap.size<=y:=fun hs y p=>(hs.bu y p).elim (hH y) fun h=>Om
  refine⟨fun h2 H5 w8 d p2 R M=>?_,fun h2 H5 w8 d=>?_⟩
  .rw[bt Uc]at q
   have n:aq w8 R:=aj.bu M
   have I:=(z.bh d).pure n
   have J:=(Z.bh d).trans n
   have s:=(az.fi M).row
   have⟨s',w13,A,hO,Y,hk,hb⟩:=I.append (P:=prog) (ty:=79) (c:=1) EK (d.jg n.dy) s rfl rfl (by rw[qD];omega) (by rw[qD];unfold maxLen;omega)
   refine⟨s',w13,A,hk,?_⟩
   rw[zI g Om]
   have z4:=d.ext.size;have z5:=n.size;have z6:=Y.size
   refine⟨⟨j+1,rfl,g,MF I J Y fun y p=>Uc,Om,fun y h=>(hb y h).elim (k y) fun h=>Om,up d,?_,?_⟩,vT g⟩
   .rw[q]
    simpa[nQ]using hO
   .refine((O1.bh d).pure n).ext Y fun y h3 B=>?_
    have:=h1.fg.lt h3;have:=k y B;omega
  .rw[aw Uc,append_nil]at q
   rw[zI g Om]
   have z4:=d.ext.size
   exact⟨⟨j+1,rfl,g,Z.bh d,Om,k,up d,by rw[q];exact z.bh d,O1.bh d⟩,vT g⟩
 have V:=vH N hj h
 subst V
 rw[take_length]at z
 have hfl:=length_filter_le (uE bb c) ls
 have X:∀x,x∈(ls.filter<|uE bb c).map gq.cf↔∃t l,jn L G t/\pK L t=(l,ai)/\uE bb c l=ai/\l.cf=x:=fun x=>by
  rw[mem_map];constructor
  .rintro⟨l,hl,e⟩;have⟨h3,B⟩:=mem_filter.1 hl;have⟨t,ht,A⟩:=(C l).1 h3;exact⟨t,l,ht,A,B,e⟩
  .rintro⟨t,l,ht,A,B,e⟩;exact⟨l,mem_filter.2 ⟨(C l).2 ⟨t,ht,A⟩,B⟩,e⟩
 have hxl:((ls.filter<|uE bb c).map gq.cf).length<=65536:=Uc
 generalize (ls.filter<|uE bb c).map gq.cf=xs at *
 refine(zEH o xs wl z.fg Om).mono ?_
 rintro _ w9 ⟨rfl,w,v,T,R9,E9⟩
 refine⟨rfl,E9.ff fun y p hs=>z.lf y hs p,?_⟩
 refine(jSY o w w9 R9 (by rw[v.length_eq];omega)).mono ?_
 rintro _ S ⟨r,rfl,R10,E,hb⟩
 refine⟨r,rfl,E.ff fun y p hs=>z.lf y hs p,hK r (nU w) S ⟨R10,fun y p=>Uc,Z.ft (E9.trans E) fun i hi hs=>Uc⟩ ⟨?_,Oi (JM w) v.length_eq⟩⟩
 rw[bt hp]
 exact⟨RE Bh (fun {a b} h=>by unfold oz at h;grind) T,fun x=>by rw[LF,v.mem_iff];exact X x⟩
def Au(L:bw)(G:List Int)(t:ej):Prop:=(of L t).2.1=0/\iw (of L t).2.2 (jn (of L t).2.2 G) (of L t).1
def jVH{X:NP}(f k fr to u x ks)(s:Sl)(w0){L G a b F}(h:lv w0 f L G a b F)(V:fm X w0 s (.mk k fr to u x ks))(U:∀y,X y->y<w0.heap.size/\¬ F y):
  cl 19 #[vp<|ab f,.agg #[vi k,vi fr,vi to,vu u,vs x,s.v]] w0<|XC fun r w'=>(r=ai↔Au L G (.mk k fr to u x ks))/\Tn (mx f (of L<|.mk k fr to u x ks).2.2 G a b) F w0 w':=by
 refine V2 _ _ _ _ _ _ _ w0 _ ?_
 unfold Au
 have⟨j,p,S,A,K,l,e⟩:=h
 refine Br.f rfl fun P I hs=>?_
 have Z:=hs.first.size
 have N:=hs.first
 refine⟨fun _=>True,trivial,?_⟩
 rintro W rfl
 have i:=N.trans<|aj.drew I
 have m:=l.ext i fun _ _ h=>h
 refine⟨f,rfl,ab p,m.box.cell rfl,?_⟩
 have Y:=i.size
 refine(QG p (.mk k fr to u x ks) s _ (V.pure i) m.ew m.wf.ok (fun y c hx=>(U y hx).2<|(e y).2<|.inr<|.inr c) fun y c=>Uc).mono ?_
 rintro _ o ⟨r1,r2,rfl,O,F',C,n,g⟩
 have⟨H,J⟩:=Prod.mk.inj O
 have q:=Hu l.wf<|.mk k fr to u x ks
 have⟨M,R⟩:=Jb l.wf.ok<|.mk k fr to u x ks
 rw[<-H,<-J]
 rw[R]at C q|-
 have d:=m.rq C q n g
 have D:∀y,F y->¬P y:=fun y c hh=>by
  have:=lv.lt ⟨j,p,S,A,K,l,e⟩ c;have:=hs.old y hh;omega
 have T:aj F w0 o:=(aj.pure i).trans<|n.mono Gd
 have tn:∀{w'},aq o w'->Tn (mx f (L++M) G a b) F w0 w':=fun E=>⟨_,⟨j,p,S,A,F',d.ext E fun _ _ h=>h,fun _=>Iff.rfl⟩,T.mh E,fun y c=>by
  rcases c with rfl|c|c
  .exact .inl<|(e _).2<|.inl rfl
  .exact .inl<|(e _).2<|.inr<|.inl c
  .rcases g y c with h|h
   .exact .inl<|(e _).2<|.inr<|.inr h
   .exact .inr Om⟩
 have kp:=n.ff fun y hh c=>D y ((e y).2<|.inr<|.inr c) hh
 refine⟨r1,r2,rfl,trivial,kp,fun w=>?_,fun w=>?_⟩
 .refine⟨f,rfl,ab j,d.box.dj,?_⟩
  refine(N7 j p r1 o d.wf d.ok d.ic d.ew).mono ?_
  rintro _ w4 ⟨r3,rfl,Q,B⟩
  refine⟨r3,rfl,B.dy,?_,tn B⟩
  rw[Q]
  have z:r2=0:=Uc
  exact⟨fun h=>⟨z,h.mono fun t ht=>(d.ok.zz t).1 ht⟩,fun h=>h.2.mono fun t ht=>(d.ok.zz t).2 ht⟩
 .have z:r2≠0:=by simpa using w
  exact⟨Uc,tn<|aj.refl _⟩
section
variable {L:bw} {G:List Int} {gs:List ej} (h:Gs L G gs) {bb c:Int} {x:ByteArray} (hp:vY bb=ai)
include h
end
def Nd{L G}(e:Wf L)(d:∀g∈G,bj L g=ai)(a:L.length<=64900){bb c x}(b:yT L)(f:yA c):yT (uX L G bb c x).2:=by
 unfold uX;split;exact((EN G (pa bb c x) L).zn e d Jq (by simp[pa];omega)).sH b (fun l a=>by simp[pa]at a;rcases a with rfl|rfl<;>exact f);exact b
def Qu(x q:ao)(t:Int)(w0:af){L:bw}{G:List Int}{F j:NP}(h:qi w0 x q G F)(d:vJ w0 q L j)(hW:Wf L)(e:∀g∈G,bj L g=ai)(b:G.length<=100000):
  cl 97 #[vp<|ab x,vi t] w0<|XC fun r w'=>(r=ai↔bj L t=ai/\iw L (jn L G) t)/\aq w0 w':=by
 refine jcO _ t w0 _ ?_
 have⟨_,f,_⟩:=h.box
 refine⟨x,rfl,ab q,f,?_⟩
 refine(yJ q t w0 d).mono ?_
 rintro _ k ⟨_,rfl,rfl,rfl⟩
 refine⟨_,rfl,fun hi=>?_,fun hi=>⟨Uc,aj.refl _⟩⟩
 refine(Vu x q k h d hW e b).mono ?_
 rintro _ m ⟨r,rfl,D,c,n⟩
 have:=zG.1 hi
 have⟨a,l,_,i⟩:=xh c.fg (t:=t) Om Om
 exact⟨r,rfl,a,l,_,i,Uc,c.pure⟩
section
variable (r:ao) (w0:af) {M:bw} {K:List Int} {a b:Bool} {F:NP} (h:pC r M K a b w0 F)
include h
def jZU:cl 29 #[vp<|ab r] w0 (XB fun o w'=>o=K.length/\w'=w0):=by
 refine UX _ w0 (fun o w'=>o=K.length/\w'=w0) ?_;have⟨x,q,c,e,h,d⟩:=h;have⟨sg,_,a,b,_⟩:=h.ic.box;exact⟨r,rfl,ab x,h.box.dj,x,rfl,sg,a,by rw[b.ay,zV],rfl⟩
def Yu(bb:Int):cl 31 #[vp<|ab r,vi bb] w0 (XC fun o w'=>o=(if bb=0 then a else if bb=1 then b else ak)/\w'=w0):=by
 refine Ur _ _ w0 (fun o w'=>o=(if bb=0 then a else if bb=1 then b else ak)/\w'=w0) ?_;have⟨x,q,d,f,h,e⟩:=h;refine⟨fun c=>?_,fun c=>?_⟩;simp only[Bool.or_eq_true,beq_iff_eq]at c;rcases c with rfl|rfl;exact⟨r,rfl,(r.add 1).add 0,⟨Om,Om,Sm⟩,a,by have:=h.box.cell (i:=1) rfl;simpa[ao.add]using this,rfl,rfl⟩;exact⟨r,rfl,(r.add 1).add 1,⟨Om,Om,Sm⟩,b,by have:=h.box.cell (i:=2) rfl;rw[qN];exact this,rfl,rfl⟩;simp only[Bool.or_eq_false_iff,beq_eq_false_iff_ne]at c;exact⟨Uc,rfl⟩
end
section
variable (r:ao) (w0:af) {M:bw} {K:List Int} {a b:Bool} {F:NP} (h:pC r M K a b w0 F) (hW:Wf M) (hK:∀g∈K,bj M g=ai) (hn:K.length<=100000)
include h hW hK hn
def Ot(l:gq):cl 90 #[vp<|ab r,.agg #[vi l.ba,vi l.cj,vu l.c,vs l.cf,vb l.gR]] w0 (XC fun o w'=>(o=ai↔(zC M l).2.1=0/\iw (zC M l).2.2 (jn (zC M l).2.2 K) (zC M l).1)/\Tn (pC r (zC M l).2.2 K a b) F w0 w'):=by
 refine jbx _ l.ba l.cj l.c l.cf l.gR w0 (fun o w'=>(o=ai↔(zC M l).2.1=0/\iw (zC M l).2.2 (jn (zC M l).2.2 K) (zC M l).1)/\Tn (pC r (zC M l).2.2 K a b) F w0 w') ?_;have i:=qG.lt h;have⟨x,q,v,L,h,e⟩:=h;intro C u hs;have A:=hs.first;refine⟨fun _=>True,trivial,?_⟩;rintro I rfl;have j:=A.trans<|aj.drew u;have h2:=h.ext j fun _ _ h=>h;have⟨_,B,_⟩:=h2.ic.box;refine⟨r,rfl,ab x,h2.box.dj,x,rfl,ab q,B,?_⟩;refine(Nq q l _ h2.ew hW.ok).mono ?_;rintro _ s ⟨r1,r2,rfl,rfl,rfl,F',z,m,f⟩;have w':=uR hW l;have⟨X,H⟩:=xZ hW.ok l;have h3:=h2.rq z m f;have J:=j.size;have t:∀y,F y->¬C y:=fun y d hh=>Oi (i y d)<|hs.old y hh;have G:=(aj.pure j).trans<|m.mono fun y _ d=>(e y).2<|.inr<|.inr d;have tn:∀{w'},aq s w'->Tn (pC r (zC M l).2.2 K a b) F w0 w':=fun E=>⟨_,⟨x,q,v,F',h3.ext E fun _ _ h=>h,fun _=>Iff.rfl⟩,G.mh E,fun y d=>by
  rcases d with rfl|d|d
  .exact .inl<|(e _).2<|.inl rfl
  .exact .inl<|(e _).2<|.inr<|.inl d
  .rcases f y d with h|h
   .exact .inl<|(e _).2<|.inr<|.inr h
   .exact .inr Om⟩
 refine⟨_,_,rfl,trivial,m.ff fun y hh d=>t y ((e y).2<|.inr<|.inr d) hh,fun n=>?_,fun n=>?_⟩
 .refine⟨r,rfl,ab x,h3.box.dj,?_⟩;refine(Qu x q _ s h3.ic h3.ew w' (fun g w=>by rw[H];exact yP<|hK g w) hn).mono ?_;rintro _ N ⟨r3,rfl,D,p⟩;refine⟨r3,rfl,p.dy,?_,tn p⟩;have k:(zC M l).2.1=0:=Uc;rw[D];exact⟨fun h=>⟨k,h.2⟩,fun h=>⟨(tJ k hW).2.1,h.2⟩⟩
 .have k:(zC M l).2.1≠0:=by simpa using n
  exact⟨Uc,tn<|aj.refl _⟩
def Ri(n:Int)(m:n=0\/n=1\/n=2):cl 93 #[vp<|ab r,vi n] w0 (XC fun o w'=>o=wO M K n/\aq w0 w'):=by
 refine jdw _ _ w0 (fun o w'=>o=wO M K n/\aq w0 w') ?_;have⟨x,q,w,A,h,z⟩:=h;have⟨_,p,_⟩:=h.ic.box;refine⟨r,rfl,ab x,h.box.dj,x,rfl,ab q,p,?_⟩;refine(show Calls _ _ #[_,px<|zQ n] w0 _ from(HI q (zQ n) w0 h.ew hW.ok).mono ?_);rintro _ s ⟨v,ok,rfl,a,c⟩;have h1:=h.ext c fun _ _ h=>h;unfold wO;cases d:find M (zQ n)with
 |none =>
  rw[d]at a
  obtain⟨rfl,rfl⟩:=a
  exact⟨_,_,rfl,Br.f rfl ⟨rfl,c⟩⟩
 |some i =>
  rw[d]at a
  obtain⟨rfl,rfl⟩:=a
  refine⟨_,_,rfl,Br.t rfl ⟨r,rfl,ab x,h1.box.dj,?_⟩⟩
  refine(Qw x q s h1.ic h1.ew hW hK hn).mono ?_
  rintro _ u ⟨r3,rfl,l,e,j,b⟩
  have g:=xD (b.imp fun h=>Int.ne_of_lt h) fun y k=>((j y).1 k).1
  have:=hW.ok.jl
  refine⟨r3,rfl,?_⟩
  refine(Sj r3 l _ u e.fg.gS Om).mono ?_
  rintro _ B ⟨_,rfl,rfl,rfl⟩
  refine⟨_,rfl,?_,c.trans e.pure⟩
  classical
  refine Bool.eq_iff_iff.2 ?_
  rw[decide_eq_true_iff,j]
  exact Iff.trans ⟨fun h=>h.2,fun h=>⟨(Im hW d).1,h⟩⟩ decide_eq_true_iff.symm
def zDP(bb:Int):cl 33 #[vp<|ab r,vi bb] w0 (XC fun o w'=>o=tv M K bb/\aq w0 w'):=by
 refine jbo _ _ w0 (fun o w'=>o=tv M K bb/\aq w0 w') ?_;unfold tv vY;refine⟨fun b=>?_,fun b=>⟨Uc,aj.refl _⟩⟩;rw[b];have e:bb=0\/bb=1:=Uc;refine(Ri r w0 h hW hK hn bb Om).mono ?_;rintro _ d ⟨_,rfl,rfl,a⟩;refine⟨_,rfl,fun h1=>⟨Uc,a⟩,fun h1=>?_⟩;refine(Ri r d (qG.ext h a fun _ _ h=>h) hW hK hn 2 Om).mono ?_;rintro _ f ⟨_,rfl,rfl,c⟩;exact⟨_,rfl,Uc,a.trans c⟩
def jZV(bb c:Int)(x:ByteArray):cl 32 #[vp<|ab r,.agg #[vi bb,vu c,vs x]] w0 (XC fun o w'=>(o=ai↔(uX M K bb c x).1≠0)/\Tn (pC r (uX M K bb c x).2 K a b) F w0 w'):=by
 refine jcq _ _ _ _ w0 (fun o w'=>(o=ai↔(uX M K bb c x).1≠0)/\Tn (pC r (uX M K bb c x).2 K a b) F w0 w') ?_;unfold uX vY;have u:=Tk.start h qG;refine⟨fun n w v d=>?_,fun n w v d=>?_⟩;rw[bt n];have A:pa bb c x=[⟨2,bb,c,x,ak⟩,⟨6,0,c,x,ak⟩]:=rfl;rw[A,sG];have z:=u.bh qG d;have⟨J,h1,_,E⟩:=z.one;refine(Ot r v h1 hW hK hn ⟨2,bb,c,x,ak⟩).mono ?_;rintro _ P ⟨r1,rfl,j,y⟩;have⟨p,l⟩:=E y;refine⟨_,rfl,l,fun e=>?_,fun e I k=>?_⟩;have h2:=j.1 e;rw[bt h2];refine⟨⟨fun _ q=>?_,fun _=>rfl⟩,p.tn⟩;have:=(zG.1 (tJ h2.1 hW).2.1).1;simp only at q;omega;rw[aw fun h=>Uc];have s:=uR hW ⟨2,bb,c,x,ak⟩;have⟨X,G⟩:=xZ hW.ok ⟨2,bb,c,x,ak⟩;have i:∀g∈K,bj (zC M ⟨2,bb,c,x,ak⟩).2.2 g=ai:=by rw[G];exact fun g C=>yP<|hK g C
 generalize (zC M ⟨2,bb,c,x,ak⟩).2.2=N at *;have H:=p.bh qG k;have⟨O,h2,_,B⟩:=H.one;refine(Ot r I h2 s i hn ⟨6,0,c,x,ak⟩).mono ?_;rintro _ L ⟨r2,rfl,f,D⟩;have⟨t,m⟩:=B D;refine⟨_,rfl,m,?_⟩;rw[sG];show(_↔_)/\_;rw[f];split;rename_i h3;have:=(zG.1 (tJ h3.1 s).2.1).1;exact⟨⟨fun _ q=>Uc,fun _=>h3⟩,t.tn⟩;rename_i h3;exact⟨⟨fun h=>absurd h h3,fun h=>absurd rfl h⟩,t.tn⟩;rw[aw Uc];exact⟨⟨fun h=>Uc,fun h=>absurd rfl h⟩,(u.bh qG d).tn⟩
end
def zDO{y S2:NP}(sa sb:Sl)(la lb:List gq)(w0:af)(u:gr y w0 5 sa (la.map xW))(hB:gr S2 w0 5 sb (lb.map xW))(hn:la.length<=1000000):
  cl 36 #[sa.v,sb.v] w0<|XC fun o w'=>(o=ai↔la=lb)/\aq w0 w':=by
 refine jaL _ _ w0 _ ?_
 have s:sa.ay=la.length:=by rw[u.ay];simp
 have t:sb.ay=lb.length:=by rw[hB.ay];simp
 refine⟨fun l=>⟨⟨fun h=>Uc,fun e=>?_⟩,aj.refl _⟩,fun l=>?_⟩
 subst e;rw[s,t]at l;simp at l
 have z:la.length=lb.length:=Uc
 refine⟨fun i H w=>∃j:Nat,i=j/\j<=la.length/\aq w0 w/\la.take j=lb.take j,fun i _=>((la.length:Int)-i).toNat,⟨0,rfl,Nat.zero_le _,aj.refl _,Sm⟩,?_⟩
 rintro _ F wl C ⟨j,rfl,B,q,p⟩
 refine⟨fun h=>?_,fun h=>?_⟩
 have a:=vA s h
 have⟨a2,f,_⟩:=(u.pure q).mv a
 refine⟨a2,f,fun D x=>?_⟩
 have k:=q.bh x
 have⟨a3,c,_,m⟩:=(u.pure k).mv a
 have⟨a4,d,_,r⟩:=(hB.pure k).mv (show j<lb.length by omega)
 have A:a2=a3:=by
  obtain⟨_,_,b,t,rfl⟩:=f;obtain⟨_,_,E,g,rfl⟩:=c;rw[t]at g;cases g;rfl
 rw[A]
 refine⟨_,_,_,_,_,m,a4,d,_,_,_,_,_,r,?_⟩
 dsimp only;rw[AW]
 refine⟨fun h2=>⟨⟨fun h=>Uc,fun e=>?_⟩,k⟩,fun h2=>?_⟩
 subst e;simp at h2
 rw[zI a Om]
 have h2:la[j]=lb[j]' Om:=Uc
 exact⟨⟨j+1,rfl,a,k,by rw[take_succ_eq_append_getElem a,take_succ_eq_append_getElem Om,p,h2]⟩,vT a⟩
 have n:=vH s B h
 rw[n,take_length,z,take_length]at p
 exact⟨⟨fun _=>p,fun _=>rfl⟩,q⟩
def jVB{D S2:NP}(sa sb:Sl)(la lb:List ByteArray)(w0:af)(A:gr D w0 1 sa (nQ la))(hB:gr S2 w0 1 sb (nQ lb))(hn:la.length<=1000000):
  cl 34 #[sa.v,sb.v] w0<|XC fun o w'=>(o=ai↔la=lb)/\aq w0 w':=by
 refine YK _ _ w0 _ ?_
 have u:sa.ay=la.length:=by rw[A.ay,qD]
 have z:sb.ay=lb.length:=by rw[hB.ay,qD]
 refine⟨fun n=>⟨⟨fun h=>Uc,fun e=>?_⟩,aj.refl _⟩,fun n=>?_⟩
 subst e;rw[u,z]at n;simp at n
 have E:la.length=lb.length:=Uc
 refine⟨fun i H w=>∃j:Nat,i=j/\j<=la.length/\aq w0 w/\la.take j=lb.take j,fun i _=>((la.length:Int)-i).toNat,⟨0,rfl,Nat.zero_le _,aj.refl _,Sm⟩,?_⟩
 rintro _ L wl I ⟨j,rfl,G,s,r⟩
 unfold NS
 have C:∀{w a y},Row w a [vs y]->w.cell? a=ab (vs y):=fun h=>by
  have:=h 0 Sm;simpa[ao.add]using this
 refine⟨fun h=>?_,fun h=>?_⟩
 have c:=vA u h
 have⟨a2,k,_⟩:=(A.pure s).mv (f:=fun x=>[vs x]) c
 refine⟨a2,k,fun J B=>?_⟩
 have m:=s.bh B
 have⟨a3,d,_,p⟩:=(A.pure m).mv (f:=fun x=>[vs x]) c
 have⟨a4,g,_,t⟩:=(hB.pure m).mv (f:=fun x=>[vs x]) (show j<lb.length by omega)
 have F:a2=a3:=by
  obtain⟨_,_,b,z,rfl⟩:=k;obtain⟨_,_,K,l,rfl⟩:=d;rw[z]at l;cases l;rfl
 rw[F]
 refine⟨_,C p,a4,g,_,C t,fun h2=>⟨⟨fun h=>Uc,fun e=>?_⟩,m⟩,fun h2=>?_⟩
 subst e;simp at h2
 rw[zI c Om]
 have h2:la[j]=lb[j]' Om:=Uc
 exact⟨⟨j+1,rfl,c,m,by rw[take_succ_eq_append_getElem c,take_succ_eq_append_getElem Om,r,h2]⟩,vT c⟩
 have q:=vH u G h
 rw[q,take_length,E,take_length]at r
 exact⟨⟨fun _=>r,fun _=>rfl⟩,s⟩
end Go.Proofs
end
section
open Go Go.SE List
namespace Go.Proofs
def Gt{a:Int}{l}(h:a≠0):rJ (a ::l)=a:=by unfold rJ;rw[if_pos h]
def EB{a:Int}{l}(h:a=0):rJ (a ::l)=rJ l:=by subst h;unfold rJ;rw[if_neg Sm];cases l<;>rfl
def I8{a b:Int}:oq a b≠0↔a≠b:=by unfold oq;grind
def JU{a b:Int}:oq a b<0↔a<b:=by unfold oq;grind
def Hp(a:Int):oq a a=0:=by unfold oq;simp
def RX{α:Type}{f:α->α->Int}(h:Wo f)(z:∀{a b},f a b=0->a=b){l:List α}{m:α}{k:Nat}(hs:l.Pairwise (f · ·<0))(q:k<=l.length)(h1:∀i (_:i<k),f (l[i]' Om) m<0)(h2:∀hi,¬ f l[k] m<0/\l[k]≠m):
  (l.take k++([m]++l.drop k)).Pairwise (f · ·<0):=by
 have e:l=l.take k++l.drop k:=(take_append_drop _ _).symm
 rw[e,pairwise_append]at hs
 have⟨n,g,j⟩:=hs
 have o:∀x∈l.drop k,f m x<0:=fun x hx=>by
  have c:k<l.length:=by
   rcases Nat.lt_or_ge k l.length with h|h;exact h;rw[drop_eq_nil_of_le h]at hx;cases hx
  have⟨r,q2⟩:=h2 c;have n1:=h.neg l[k] m;have n2:f l[k] m≠0:=fun e=>q2<|z e;rw[drop_eq_getElem_cons c]at hx g;rcases mem_cons.1 hx with rfl|hx;omega;exact h.vx (b:=l[k]) Om<|Int.le_of_lt<|(pairwise_cons.1 g).1 x hx
 have p:∀x∈l.take k,f x m<0:=fun x hx=>by
  obtain⟨i,hi,rfl⟩:=getElem_of_mem hx;rw[length_take]at hi;rw[getElem_take];exact h1 i Om
 rw[pairwise_append]
 refine⟨n,?_,fun x hx y d=>?_⟩
 rw[singleton_append,pairwise_cons];exact⟨o,g⟩
 rw[singleton_append,mem_cons]at d
 rcases d with rfl|d
 exact p x hx
 exact j x hx y d
def P4{α:Type}{l:List α}{m x:α}{k:Nat}:x∈l.take k++([m]++l.drop k)↔x=m\/x∈l:=by
 have e:x∈l↔x∈l.take k\/x∈l.drop k:=by rw[<-mem_append,take_append_drop]
 rw[e];simp only[mem_append,mem_singleton];grind
end Go.Proofs
namespace Go.SE
def c9.RM{P:Program}{t e:TypeId}{sz bytes:Nat}(T:nY P t e sz bytes){w:World}{s:Sl}{rs:List (List Value)}(h:c9 w e sz s rs){k:IntKind}{n:Int}(f:0<=n)(x:n<=rs.length):
  ∃s',(∀w,(Instr.sliceAt t s.v (some<|.int k n) none none).run P w=.ok s'.v w)/\gr s.bg w sz s' (rs.drop n.toNat):=by
 by_cases d:n<rs.length
 have⟨s',h1,h2,h3⟩:=h.Me T (k:=k) f d
 refine⟨s',h1,Uc,fun i hi=>?_⟩
 rw[length_drop]at hi
 have⟨a,m,q2,q⟩:=h.gS.at_ (n.toNat+i) Om
 exact⟨a,h3 i a Om m,q2,Uc⟩
 have e:n.toNat=rs.length:=Om
 have l:rs.drop n.toNat=[]:=drop_eq_nil_of_le Om
 rw[l]
 have o:=h.ay
 have c:n<=(s.ay:Int):=Om
 rcases h.bf with⟨rfl,rfl⟩|⟨g,ga,j,r,p,u,hs,ht⟩
 have:n=0:=by simp at e;omega
 subst this
 refine⟨Sl.nil,fun w=>?_,rfl,fun i hi=>Uc⟩
 simp[Instr.sliceAt,Instr.slice,Sl.v,Sl.nil,run_underlying T.ht,Instr.sliceBounds,Instr.sliceBound,asIntOf,T.sizeOf]
 by_cases b:s.cap=n.toNat
 refine⟨⟨some ⟨g,0,none⟩,0,0⟩,fun w=>?_,rfl,fun i hi=>Uc⟩
 have:s.ay-n.toNat=0:=Om
 simp[Instr.sliceAt,Instr.slice,Sl.v,run_underlying T.ht,Instr.sliceBounds,Instr.sliceBound,asIntOf,T.sizeOf,f,c,b,j,this]
 refine⟨⟨some<|(⟨g,0,none⟩:Addr).add<|n.toNat*sz,s.ay-n.toNat,s.cap-n.toNat⟩,fun w=>?_,So,fun i hi=>Uc⟩
 simp[Instr.sliceAt,Instr.slice,Sl.v,run_underlying T.ht,Instr.sliceBounds,Instr.sliceBound,asIntOf,T.sizeOf,f,c,b,j]
def Ja{P:Program}{t e:TypeId}{sz bytes:Nat}(T:nY P t e sz bytes){ty:TypeId}{w v:World}{sl x:Sl}{rs qs:List (List Value)}{S H:NP}(E:aq w v)(h:c9 v e sz sl rs)(d:∀y,sl.bg y->w.heap.size<=y)(hx:gr S v sz x qs)(l:∀q∈qs,q.length=sz)(h1:∀q∈qs,q.all vC=true)(j:(rs.length+qs.length)*bytes<=140737488355328)(k:rs.length+qs.length<=maxLen)(m:∀y,H y->y<w.heap.size):
  ∃s' v',(Builtin.append_ #[t,t] ty #[sl.v,x.v]).run P v=.ok s'.v v'/\aq w v'/\av H v v'/\c9 v' e sz s' (rs++qs)/\(∀y,s'.bg y->w.heap.size<=y)/\aj sl.bg v v':=by
 have⟨s',v',f,g,a,b⟩:=h.Am T (ty:=ty) hx l h1 j k
 have z:=E.size
 exact⟨s',v',f,E.ft a fun i hi hs=>Uc,a.ff fun y c hs=>Uc,g,fun y c=>(b y c).elim (d y) fun h=>Om,a⟩
def NC{P:Program}{t e:TypeId}{sz bytes:Nat}(T:nY P t e sz bytes){ty:TypeId}{w:World}{s1 s2:Sl}{A B:List (List Value)}{row:List Value}{S H:NP}{k:Sl->WP}(hR1:c9 w e sz s1 A)(hR2:gr S w sz s2 B)(la:∀q∈A,q.length=sz)(oa:∀q∈A,q.all vC=true)(lb:∀q∈B,q.length=sz)(ob:∀q∈B,q.all vC=true)(lr:row.length=sz)(or:row.all vC=true)(O:(A.length+1+B.length)*bytes<=140737488355328)(hm:A.length+1+B.length<=maxLen)(hH:∀y,H y->y<w.heap.size)(J:∀s v,aq w v->c9 v e sz s (A++[row]++B)->(∀y,s.bg y->w.heap.size<=y)->k s v):
  (∀o M,fp w.drew (.cells #[] e) o M->aq w M /\
   (∃a:Sl,∃p:World,(Builtin.append_ #[t,t] ty #[(Sl.mk (some o) 0 0).v,s1.v]).run P M=.ok a.v p/\aq w p/\av H M p /\
    ∀N w5,fp p (.cells row.toArray e) N w5->aq w w5 /\
    ∃b:Sl,∃i:World,(Builtin.append_ #[t,t] ty #[a.v,(Sl.mk (some N) 1 1).v]).run P w5=.ok b.v i/\aq w i/\av H w5 i /\
    ∃f:Sl,∃d:World,(Builtin.append_ #[t,t] ty #[b.v,s2.v]).run P i=.ok f.v d/\aq w d/\av H i d/\k f d) /\
   (∀p3 U,fp M (.cells row.toArray e) p3 U->aq w U /\
    ∃s6:Sl,∃R:World,(Builtin.append_ #[t,t] ty #[(Sl.mk (some o) 0 0).v,s1.v]).run P U=.ok s6.v R/\aq w R/\av H U R /\
    ∃s7:Sl,∃g:World,(Builtin.append_ #[t,t] ty #[s6.v,(Sl.mk (some p3) 1 1).v]).run P R=.ok s7.v g/\aq w g/\av H R g /\
    ∃s8:Sl,∃r:World,(Builtin.append_ #[t,t] ty #[s7.v,s2.v]).run P g=.ok s8.v r/\aq w r/\av H g r/\k s8 r)) /\
  (∀p4 z,fp w.drew (.cells row.toArray e) p4 z->aq w z /\
   ∀p5 l,fp z (.cells #[] e) p5 l->aq w l /\
   ∃s9:Sl,∃j:World,(Builtin.append_ #[t,t] ty #[(Sl.mk (some p5) 0 0).v,s1.v]).run P l=.ok s9.v j/\aq w j/\av H l j /\
   ∃s10:Sl,∃m:World,(Builtin.append_ #[t,t] ty #[s9.v,(Sl.mk (some p4) 1 1).v]).run P j=.ok s10.v m/\aq w m/\av H j m /\
   ∃s11:Sl,∃u:World,(Builtin.append_ #[t,t] ty #[s10.v,s2.v]).run P m=.ok s11.v u/\aq w u/\av H m u/\k s11 u):=by
 have E2:aq w w.drew:=aj.drew w
 have hbA:A.length*bytes<=140737488355328:=Nat.le_trans (Nat.mul_le_mul_right _ Om) O
 have hbB:(A.length+1)*bytes<=140737488355328:=Nat.le_trans (Nat.mul_le_mul_right _ Om) O
 have Z:∀{o:Addr} {n c y},(Sl.mk (some o) n c).bg y->y=o.block:=fun h=>by have⟨_,h,e⟩:=h;cases h;exact e.symm
 have A1:∀{v L x:World} {pp:Addr},fp L (.cells #[] e) pp x->aq w L->aq x v->∃s' v',(Builtin.append_ #[t,t] ty #[(Sl.mk (some pp) 0 0).v,s1.v]).run P v=.ok s'.v v'/\aq w v'/\av H v v'/\c9 v' e sz s' A/\(∀y,s'.bg y->w.heap.size<=y)/\aj (Sl.mk (some pp) 0 0).bg v v':=fun {v L x pp} hN E0 E1=>by
  have K:=(E0.trans<|aj.bu hN).trans E1;have:=Ja (P:=P) (ty:=ty) T (H:=H) K ((c9.empty (sz:=sz) hN).pure E1) (fun y hy=>by have:=Z hy;have:=hN.gp;have:=E0.size;omega) (hR1.pure K).gS la oa Uc So hH;simpa using this
 have A2:∀{v:World} {a:Sl} {pp:Addr} {S:NP},c9 v e sz a A->(∀y,a.bg y->w.heap.size<=y)->gr S v sz ⟨some pp,1,1⟩ [row]->aq w v->∃s' v',(Builtin.append_ #[t,t] ty #[a.v,(Sl.mk (some pp) 1 1).v]).run P v=.ok s'.v v'/\aq w v'/\av H v v'/\c9 v' e sz s' (A++[row])/\(∀y,s'.bg y->w.heap.size<=y)/\aj a.bg v v':=fun {v a pp S} hR ho hx K =>
  Ja (P:=P) (ty:=ty) T (H:=H) K hR ho hx Uc Uc hbB So hH
 have A3:∀{v:World} {b:Sl},c9 v e sz b (A++[row])->(∀y,b.bg y->w.heap.size<=y)->aq w v->∃s' v',(Builtin.append_ #[t,t] ty #[b.v,s2.v]).run P v=.ok s'.v v'/\aq w v'/\av H v v'/\c9 v' e sz s' (A++[row]++B)/\(∀y,s'.bg y->w.heap.size<=y)/\aj b.bg v v':=fun {v b} hR ho K =>
  Ja (P:=P) (ty:=ty) T (H:=H) K hR ho (hR2.pure K) lb ob Uc So hH
 have lit:∀{L x:World} {pp:Addr},fp L (.cells row.toArray e) pp x->c9 x e sz ⟨some pp,1,1⟩ [row]:=fun hN=>c9.lit (rs:=[row]) hN Sm Uc Uc
 have apart:∀{L x v3:World} {o N:Addr} {c1 c2},fp L c1 o x->fp x c2 N v3->o.block≠N.block:=fun hA hB e=>by
  have:=uM hA.EP;have:=hB.gp;omega
 refine⟨fun o M h3=>?_,fun p4 z I=>?_⟩
 have E3:=E2.trans<|aj.bu h3
 refine⟨E3,?_,fun p3 U h8=>?_⟩
 have⟨a,p,Q,D,x3,Y,x5,_⟩:=A1 h3 E2<|aj.refl _
 refine⟨a,p,Q,D,x3,fun N w5 h5=>?_⟩
 have E5:=D.trans<|aj.bu h5
 have⟨b,i,W,E,V,y4,y5,_⟩:=A2 (Y.pure<|aj.bu h5) x5 (lit h5).gS E5
 have⟨f,d,u1,F,u3,u4,u5,_⟩:=A3 y4 y5 E
 exact⟨E5,b,i,W,E,V,f,d,u1,F,u3,J f d F u4 u5⟩
 have E8:=E3.trans<|aj.bu h8
 have⟨a,p,Q,D,x3,Y,x5,X⟩:=A1 h3 E2<|aj.bu h8
 have L4:=(lit h8).ext X fun y hy O=>apart h3 h8<|(Z O).symm.trans<|Z hy
 have⟨b,i,W,E,V,y4,y5,_⟩:=A2 Y x5 L4.gS D
 have⟨f,d,u1,F,u3,u4,u5,_⟩:=A3 y4 y5 E
 exact⟨E8,a,p,Q,D,x3,b,i,W,E,V,f,d,u1,F,u3,J f d F u4 u5⟩
 have G:=E2.trans<|aj.bu I
 refine⟨G,fun p5 l C=>?_⟩
 have E13:=G.trans<|aj.bu C
 have⟨a,p,Q,D,x3,Y,x5,X⟩:=A1 C G<|aj.refl _
 have L4:=((lit I).pure<|aj.bu C).ext X fun y hy O=>apart I C<|(Z hy).symm.trans<|Z O
 have⟨b,i,W,E,V,y4,y5,_⟩:=A2 Y x5 L4.gS D
 have⟨f,d,u1,F,u3,u4,u5,_⟩:=A3 y4 y5 E
 exact⟨E13,a,p,Q,D,x3,b,i,W,E,V,f,d,u1,F,u3,J f d F u4 u5⟩
end Go.SE
namespace Go.Proofs
open Tryz
attribute [local irreducible] Calls
def Zo(a b:gq)(w0):cl 95 #[.agg (xW a).toArray,.agg (xW b).toArray] w0 (XC fun o w'=>o=decide (rM a b<0)/\aq w0 w'):=by
 refine jca a.ba a.cj a.c a.cf a.gR b.ba b.cj b.c b.cf b.gR w0 (fun o w'=>o=decide (rM a b<0)/\aq w0 w') ?_;unfold rM;refine⟨fun h d e hs=>⟨?_,hs.first⟩,fun h=>?_⟩
 .have h:a.ba≠b.ba:=by simpa using h
  rw[Gt<|I8.2 h];simp only[JU]
 have h:a.ba=b.ba:=Uc;rw[h,Hp,EB rfl];refine⟨fun h d e hs=>⟨?_,hs.first⟩,fun h=>?_⟩
 .have h:a.cj≠b.cj:=by simpa using h
  rw[Gt<|I8.2 h];simp only[JU]
 have h:a.cj=b.cj:=Uc;rw[h,Hp,EB rfl];refine⟨fun h d e hs=>⟨?_,hs.first⟩,fun h=>?_⟩
 .have h:a.c≠b.c:=by simpa using h
  rw[Gt<|I8.2 h];simp only[JU]
 have h:a.c=b.c:=Uc;rw[h,Hp,EB rfl];refine⟨fun h d e hs=>⟨_,by rw[binOp_string_lss];rfl,?_,hs.first⟩,fun h d e hs=>⟨?_,hs.first⟩⟩
 .have h:a.cf≠b.cf:=by simpa using h
  have i:oz a.cf b.cf≠0:=by unfold oz;grind
  rw[Gt i];unfold oz;by_cases f:Op.bytesLess a.cf.toList b.cf.toList=true
  .rw[f];simp
  .rw[Bool.not_eq_true]at f;rw[f];simp[h]
 have h:a.cf=b.cf:=Uc;have g:oz a.cf b.cf=0:=by rw[h];have:=Bh.neg b.cf b.cf;omega
 rw[EB g];cases a.gR<;>cases b.gR<;>decide
def SD(l:List gq):∀q∈l.map xW,q.all vC=true:=by intro q a;obtain⟨t,_,rfl⟩:=mem_map.1 a;rfl
def Of(l:List gq):∀q∈l.map xW,q.length=5:=by intro q a;obtain⟨t,_,rfl⟩:=mem_map.1 a;rfl
def AN(M:bw)(q:List Int)(r1:Sl)(c b:World)(o:Sl)(i:Int)(H:NP)(w':World):Prop:=(∀y,¬H y)/\∃(j:Nat) (a:List gq),i=j/\j<=q.length/\aq c w'/\b.heap.size<=w'.heap.size/\(∀y,o.bg y->b.heap.size<=y)/\c9 w' 35 5 o (a.map xW)/\c9 w' 73 1 r1 (fv q)/\a.Pairwise (rM · ·<0)/\(∀l,l∈a↔∃t∈q.take j,xQ M t=(l,true))/\a.length<=j
def zh(M:bw)(K:List Int)(a:List gq):Prop:=a.Pairwise (rM · ·<0)/\∀l,l∈a↔∃t,bj M t=true/\jn M K t/\xQ M t=(l,true)
def L9(r:Addr)(C:World){M:bw}{K:List Int}{a b:Bool}{F:NP}(h:pC r M K a b C F)(hW:Wf M)(hK:∀g∈K,bj M g=true)(hn:K.length<=100000):
  cl 37 #[vp<|some r] C<|XA fun s w'=>∃d,jd C 35 5 (d.map xW) s w'/\zh M K d/\d.length<=65536:=by
 suffices key:∀Q:Sl->WP,(∀s d w',jd C 35 5 (d.map xW) s w'->zh M K d/\d.length<=65536->Q s w')->JC (some r) C Q from
  w_L _ C _<|key _ fun s d w' h1 h2=>⟨d,h1,h2⟩
 intro Q hQ
 unfold JC
 have⟨x,p,FK,FP,h,hF⟩:=h
 have⟨_,k1,_⟩:=h.ic.box
 refine⟨r,rfl,some x,h.box.dj,?_⟩
 refine(Qw x p C h.ic h.ew hW hK hn).mono ?_
 rintro _ w1 ⟨r1,rfl,q,h1,hq,u⟩
 have hql:=xD (u.imp fun h=>Int.ne_of_lt h) fun y Z=>((hq y).1 Z).1
 have h65:=hW.ok.jl
 have hq1:r1.ay=q.length:=by rw[h1.fg.ay,zV]
 have z1:=h1.pure.size
 have nil0:∀y,¬Sl.nil.bg y:=fun y h=>by have⟨a,h,_⟩:=h;cases h
 refine⟨r1,rfl,h1.ff,AN M q r1 C w1,fun _ i _=>((q.length:Int)-i).toNat,⟨fun _ h=>h,0,[],rfl,Nat.zero_le _,h1.pure,Nat.le_refl _,fun y h=>(nil0 y h).elim,c9.nil _ _ _,h1.fg,.nil,Sm,Nat.le_refl _⟩,?_⟩
 rintro o _ Hl wl hl' ⟨hH0,j,d,rfl,hj,El,zl,hown,Y,R1,hso,L,hml⟩
 refine⟨fun B=>?_,fun B=>?_⟩
 rotate_left
 have hge:=vH hq1 hj B
 rw[hge,take_length]at L
 refine hQ o d wl ⟨Y,fun y Z=>Uc,El⟩ ⟨⟨hso,fun l=>?_⟩,Om⟩
 rw[L]
 constructor
 rintro⟨t,ht,e⟩;exact⟨t,((hq t).1 ht).1,((hq t).1 ht).2,e⟩
 rintro⟨t,h1,h2,e⟩;exact⟨t,(hq t).2 ⟨h1,h2⟩,e⟩
 have u:=vA hq1 B
 have hHl:=hl'.lt
 have J2:∀X(m:gq)(ok:Bool)w,aq wl w->(∀y,o.bg y->y≠X.block)->az w X (xW m) 35->(m,ok)=xQ M q[j]->Gc o j X ok C Hl w (fun R A H' w'=>AN M q r1 C w1 R A H' w'/\((q.length:Int)-A).toNat<((q.length:Int)-j).toNat) Q:=by
  intro X m ok w E6 hop B6 D;have O:∀l,(∃t∈q.take (j+1),xQ M t=(l,true))↔l∈d\/(m=l/\ok=true):=fun l=>by
   rw[take_succ_eq_append_getElem u,L];simp only[mem_append,mem_singleton];constructor;rintro⟨t,ht|rfl,e⟩;exact .inl ⟨t,ht,e⟩;rw[<-D]at e;exact .inr<|Prod.mk.inj e;rintro(⟨t,ht,e⟩|⟨rfl,rfl⟩);exact⟨t,.inl ht,e⟩;exact⟨_,.inr rfl,D.symm⟩
  have skip:∀(H:NP) w',(∀y,¬H y)->aq wl w'->(ok=true->m∈d)->AN M q r1 C w1 o (IntKind.i64.wrap<|(j:Int)+1) H w'/\((q.length:Int)-IntKind.i64.wrap ((j:Int)+1)).toNat<((q.length:Int)-j).toNat:=fun H w' I E hm=>by
   rw[zI u Om];refine⟨⟨I,j+1,d,rfl,u,El.trans E,Oh E.size,hown,Y.pure E,R1.pure E,hso,fun l=>?_,Om⟩,vT u⟩;rw[O];exact⟨.inl,fun h=>h.elim id fun⟨e,k⟩=>e▸hm k⟩
  have J4 : ∀(k:Nat)(c:Bool)H w', (hk : k <= d.length) -> aq w w' -> (∀ y, ¬ H y) -> (c = true -> ok = true -> m ∈ d) -> (c = false -> ok = true /\ (∀ i (_ : i < k), rM (d[i]' Om) m < 0) /\ ∀ (_ : k < d.length), ¬ rM d[k] m < 0 /\ d[k] ≠ m) ->
    Cc o j X k c H w' (fun R A H' w'=>AN M q r1 C w1 R A H' w'/\((q.length:Int)-A).toNat<((q.length:Int)-j).toNat) Q:=by
   intro k c H w' hk E I hc1 hc2
   refine⟨fun B=>skip H w' I (E6.trans E)<|hc1 B,fun B=>?_⟩
   have⟨U,i1,i2⟩:=hc2 B
   have Ew:=E6.trans E
   refine⟨aq w',aj.drew w',?_⟩
   rintro w2 rfl
   have E2:aq w' w'.drew:=aj.drew w'
   have⟨s1,hr1,hR1,hb1⟩:=(Y.pure Ew).Fp (P:=prog) xM (k:=.i64) (n:=(k:Int)) Om So
   have⟨s2,hr2,hR2⟩:=(Y.pure Ew).RM (P:=prog) xM (k:=.i64) (n:=(k:Int)) Om So
   rw[Int.toNat_natCast,<-map_take]at hR1
   rw[Int.toNat_natCast,<-map_drop]at hR2
   have zw:=Ew.size
   have ta:=Uc
   have tb:=Uc
   have fin:∀s v,aq w' v->c9 v 35 5 s ((d.take k).map xW++[xW m]++(d.drop k).map xW)->(∀y,s.bg y->w'.heap.size<=y)->AN M q r1 C w1 s (IntKind.i64.wrap<|(j:Int)+1) H v/\((q.length:Int)-IntKind.i64.wrap ((j:Int)+1)).toNat<((q.length:Int)-j).toNat:=fun s v Ev hR ho=>by
    rw[zI u Om];have zv:=Ev.size;refine⟨⟨I,j+1,d.take k++([m]++d.drop k),rfl,u,(El.trans Ew).trans Ev,Om,fun y Z=>Uc,Uc,(R1.pure Ew).pure Ev,RX Ez QK hso hk i1 i2,fun l=>?_,So⟩,vT u⟩;rw[O,P4];simp only[U,and_true];exact⟨fun h=>h.elim (fun h=>.inr h.symm) .inl,fun h=>h.elim .inr fun h=>.inl h.symm⟩
   refine⟨s1,fun w' _=>hr1 w',m.ba,m.cj,m.c,m.cf,m.gR,fun v Ev=>((B6.pure E).pure Ev).row,s2,fun w' _=>hr2 w',?_⟩
   exact NC (P:=prog) (ty:=64) xM (row:=xW m) hR1 hR2 (Of _) (SD _) (Of _) (SD _) rfl rfl So (by simp[maxLen];omega) (fun y Z=>(I y Z).elim) fin
  have hol:o.ay=d.length:=by rw[Y.ay];simp
  refine⟨fun i H w'=>(∀y,¬H y)/\∃k:Nat,i=k/\k<=d.length/\aq w w'/\∀i (_:i<k) (hi:i<d.length),rM d[i] m<0,fun i _=>((d.length:Int)-i).toNat,⟨hH0,0,rfl,Nat.zero_le _,aj.refl _,fun i h=>Om⟩,?_⟩;rintro _ H2 w2 hs2 ⟨I,k,rfl,hk,E2,hlo⟩;refine⟨fun _=>True,trivial,?_⟩;rintro w18 rfl;have N:=E2.trans<|aj.drew w2;have J3:∀w',aq w w'->(∀(_:k<d.length),¬rM d[k] m<0)->D4 o j X ok k C H2 w' (fun R A H' w'=>AN M q r1 C w1 R A H' w'/\((q.length:Int)-A).toNat<((q.length:Int)-j).toNat) Q:=by
   intro w' E hno;have bh:∀{z},au C H2 w' H2 z->aq w z:=fun hs=>E.trans<|hs.ext.mono fun y _ Z=>(I y Z).elim;refine⟨fun h z hs=>J4 k true H2 z hk (bh hs) I (fun _ h'=>Uc) fun h=>Uc,fun h=>?_⟩;have U:ok=true:=Uc;refine⟨fun B=>?_,fun B z hs=>?_⟩;have f:=vA hol B;have⟨a3,hat3,_⟩:=(Y.pure<|E6.trans E).mv f;refine⟨a3,hat3,fun z hs=>?_⟩;have⟨a4,J,hr4⟩:=(Y.pure<|E6.trans<|bh hs).mv f;have ea:a3=a4:=by
    obtain⟨_,_,b,hb,rfl⟩:=hat3;obtain⟨_,_,b',S,rfl⟩:=J;rw[hb]at S;cases S;rfl
   rw[ea];refine⟨_,_,_,_,_,hr4,m.ba,m.cj,m.c,m.cf,m.gR,(B6.pure<|bh hs).row,?_⟩;dsimp only;rw[AW];refine J4 k _ H2 z hk (bh hs) I (fun h _=>of_decide_eq_true h▸getElem_mem f) fun h=>⟨U,fun i hi=>hlo i hi Om,fun _=>⟨hno f,of_decide_eq_false h⟩⟩;have hge:=vH hol hk B;exact J4 k false H2 z hk (bh hs) I (fun h=>Uc) fun _=>⟨U,fun i hi=>hlo i hi Om,fun h=>Om⟩
  refine⟨fun B=>?_,fun B=>J3 _ N fun h=>Uc⟩;have f:=vA hol B;have⟨a4,J,hr4⟩:=(Y.pure<|E6.trans N).mv f;refine⟨a4,J,_,_,_,_,_,hr4,m.ba,m.cj,m.c,m.cf,m.gR,(B6.pure N).row,?_⟩;refine(Zo d[k] m _).mono ?_;rintro _ w19 ⟨_,rfl,rfl,E19⟩;refine⟨_,rfl,trivial,E19.dy,fun h=>?_,fun h=>J3 w19 (N.trans E19) fun _=>of_decide_eq_false h⟩;rw[zI f Om];refine⟨⟨I,k+1,rfl,f,N.trans E19,fun i hi hi2=>?_⟩,vT f⟩;by_cases e:i=k;subst e;exact of_decide_eq_true h;exact hlo i Om hi2
 refine⟨aq wl,aj.drew wl,?_⟩
 rintro w20 rfl
 have G:aq wl wl.drew:=aj.drew wl
 have hA:∀{v},aq wl v->ur v r x p M K a b FK FP:=fun E=>h.ext (El.trans E) fun _ _ h=>h
 have⟨a7,hat7,_⟩:=yN R1.gS u
 have hc7:∀v,aq wl v->v.cell? a7=some (vi q[j]):=fun v E=>by
  have⟨a8,hat8,_,B⟩:=yN (R1.pure E).gS u;have ea:a7=a8:=by
   obtain⟨_,_,b,hb,rfl⟩:=hat7;obtain⟨_,_,b',S,rfl⟩:=hat8;rw[hb]at S;cases S;rfl
  rw[ea];exact B
 have hop:∀{v v':World} {pp:Addr} {cs},aq wl v->fp v cs pp v'->∀y,o.bg y->y≠pp.block:=fun E hN y Z e=>by
  have:=Y.lt Z;have:=E.size;have:=hN.gp;omega
 refine⟨r,rfl,some x,fun v E=>(hA E).box.dj,x,rfl,some p,fun v E=>by have⟨_,k,_⟩:=(hA E).ic.box;exact k,a7,hat7,q[j],hc7,?_,fun p7 w24 T=>?_⟩
 refine(OO p hW q[j] wl.drew FP (hA G).ew).mono ?_
 rintro _ w21 ⟨k2,f2,c2,x2,g2,ok,rfl,D,E1⟩
 have W:=G.trans E1
 refine⟨_,_,_,_,_,_,rfl,W,E1.dy,fun X w22 V=>?_⟩
 have E22:=W.trans<|aj.bu V
 have B22:=az.fi V
 refine⟨E22,fun j hj=>B22.im So,hH0 _,?_⟩
 rintro w23 rfl
 have B23:=B22.store (vs:=xW ⟨k2,f2,c2,x2,g2⟩) (by simp[xW])
 have E23:=E22.ft (aj.ib w22 X<|xW ⟨k2,f2,c2,x2,g2⟩) fun i hi e=>Oi V.gp W.size
 exact⟨E23,J2 X ⟨k2,f2,c2,x2,g2⟩ ok _ E23 (hop W V) B23 D⟩
 have E24:=G.trans<|aj.bu T
 refine⟨E24,?_⟩
 refine(OO p hW q[j] w24 FP (hA E24).ew).mono ?_
 rintro _ w25 ⟨k2,f2,c2,x2,g2,ok,rfl,D,E1⟩
 have E25:=E24.trans E1
 have B25:=(az.fi T).pure E1
 refine⟨_,_,_,_,_,_,rfl,E25,E1.dy,fun j hj=>B25.im So,hH0 _,?_⟩
 rintro w26 rfl
 have B26:=B25.store (vs:=xW ⟨k2,f2,c2,x2,g2⟩) (by simp[xW])
 have E26:=E25.ft (aj.ib w25 p7<|xW ⟨k2,f2,c2,x2,g2⟩) fun i hi e=>Oi T.gp G.size
 exact⟨E26,J2 p7 ⟨k2,f2,c2,x2,g2⟩ ok _ E26 (hop G T) B26 D⟩
end Go.Proofs
end
section
open Go Go.SE List
open Go.IntKind renaming i64 -> q6
open Go renaming World->af,Value->bk,Addr->ao,Ending->fb,Program->ez,TypeId->dz
open Option renaming some->ab,none->bo
open Bool renaming true->ai,false->ak
open Go.Builtin renaming append_->cm
open Prod.mk renaming injEq->ei
open Go.IntKind renaming u64->dc
namespace Go.Proofs
open Tryz
set_option maxRecDepth 100000
set_option maxHeartbeats 4000000
attribute [local irreducible] cr ed dv de Calls CallsD
attribute [local irreducible] ee W WV WR uP pv e0 eh fe ka ek el ev eu fa dw di dn fc eo kp yS xA yF bn ub
def PQ(l:List ByteArray):∀q∈nQ l,q.all vC=ai:=by intro q a;obtain⟨t,_,rfl⟩:=mem_map.1 a;rfl
def LV(l:List ByteArray):∀q∈nQ l,q.length=1:=by intro q a;obtain⟨t,_,rfl⟩:=mem_map.1 a;rfl
structure sD(c b a:af)(r1 o:Sl)(d:List gq)(xs:List ByteArray)(H:NP)(v:af):Prop where
 fr:aq c v
 sz:a.heap.size<=v.heap.size
 ow:∀y,o.bg y->a.heap.size<=y
 hh:∀y,H y->(y<b.heap.size\/a.heap.size<=y)/\y<v.heap.size
 ro:ji H v 9 1 o (nQ xs)
 rr:c9 v 35 5 r1 (d.map xW)
 l1:∀y,r1.bg y->b.heap.size<=y/\y<a.heap.size
def sD.pure{w0 w1 w2 r1 o ms xs H v v'}(h:sD w0 w1 w2 r1 o ms xs H v)(E:aq v v'):sD w0 w1 w2 r1 o ms xs H v':=
 ⟨h.fr.trans E,Nat.le_trans h.sz E.size,h.ow,fun y a=>⟨(h.hh y a).1,Nat.lt_of_lt_of_le (h.hh y a).2 E.size⟩,h.ro.pure E,h.rr.pure E,h.l1⟩
def sD.bh{w0 w1 w2 r1 o ms xs H H' v v'}(h:sD w0 w1 w2 r1 o ms xs H v)(hs:au w0 H v H' v'):sD w0 w1 w2 r1 o ms xs H' v':=by
 have z:=h.sz;have b:∀y,H' y->y<w1.heap.size\/w2.heap.size<=y:=fun y a=>(hs.bu y a).elim (fun k=>(h.hh y k).1) fun k=>.inr Om;exact⟨h.fr.bh hs,Nat.le_trans z hs.ext.size,h.ow,fun y a=>⟨b y a,hs.lt y a⟩,h.ro.bh hs,h.rr.ext hs.ext fun y a hh=>Oi (h.l1 y a)<|b y hh,h.l1⟩
def EM(bb c:Int)(a:List gq)(xs:List ByteArray):Prop:=xs.Pairwise (oz · ·<0)/\∀x,x∈xs↔∃l∈a,uE bb c l=ai/\l.cf=x
def AQ(d e b:af)(r1:Sl)(a:List gq)(bb c:Int)(o:Sl)(i:Int)(H:NP)(v:af):Prop:=∃(j:Nat) (xs:List ByteArray),i=j/\j<=a.length/\sD d e b r1 o a xs H v/\EM bb c (a.take j) xs/\xs.length<=j
def Vr(r:ao)(bb c:Int)(u:af){M:bw}{K:List Int}{a b:Bool}{F:NP}(h:pC r M K a b u F)(hW:Wf M)(hK:∀g∈K,bj M g=ai)(hn:K.length<=100000):
  cl 35 #[vp<|ab r,vi bb,vu c] u<|XA fun s w'=>∃xs,jd u 9 1 (nQ xs) s w'/\(if vY bb=ai then ∃d,zh M K d/\EM bb c d xs else xs=[])/\xs.length<=65536:=by
 suffices key:∀Q:Sl->WP,(∀s xs w',jd u 9 1 (nQ xs) s w'->(if vY bb=ai then ∃d,zh M K d/\EM bb c d xs else xs=[])/\xs.length<=65536->Q s w')->Kd (ab r) bb c u Q from
  Xc _ _ _ u _<|key _ fun s xs w' h1 h2=>⟨xs,h1,h2⟩
 intro Q hQ
 unfold Kd
 have V:∀y,¬Sl.nil.bg y:=fun y h=>by have⟨a,h,_⟩:=h;cases h
 refine⟨fun p H1 A hs=>?_,fun p H1 A hs=>?_⟩
 .have hp:vY bb=ak:=by unfold vY;simpa using p
  exact hQ Sl.nil [] A ⟨c9.nil _ _ _,fun y h=>(V y h).elim,hs.first⟩ ⟨Uc,Sm⟩
 have hp:vY bb=ai:=by
  unfold vY;simp only[Bool.and_eq_false_iff,bne_eq_false_iff_eq]at p;simpa using p
 have E1:=hs.first
 refine(L9 r A (qG.ext h E1 fun _ _ h=>h) hW hK hn).mono ?_
 rintro _ G ⟨r1,rfl,d,h1,hLR,hlen⟩
 have hl1:r1.ay=d.length:=by rw[h1.fg.ay];simp
 have E2:=E1.trans h1.pure
 have z1:=h1.pure.size
 refine⟨r1,rfl,h1.ff,AQ u A G r1 d bb c,fun _ i _=>((d.length:Int)-i).toNat,⟨0,[],rfl,Nat.zero_le _,⟨E2,Nat.le_refl _,fun y h=>(V y h).elim,fun y J=>⟨.inl<|hs.lt y J,Oh<|hs.lt y J⟩,ji.nil _ _,h1.fg,fun y J=>⟨h1.bf y J,h1.fg.lt J⟩⟩,⟨.nil,Sm⟩,Nat.le_refl _⟩,?_⟩
 rintro o _ Hl wl hl' ⟨j,xs,rfl,hj,W,L,hxl⟩
 refine⟨fun p=>?_,fun p=>?_⟩
 rotate_left
 .have hge:=vH hl1 hj p
  rw[hge,take_length]at L
  refine hQ o xs wl ⟨W.ro.fg,fun y J=>Oi (W.ow y J) E1.size,W.fr⟩ ⟨?_,Om⟩
  rw[bt hp];exact⟨d,hLR,L⟩
 have z:=vA hl1 p
 have N:∀x,(∃l∈d.take (j+1),uE bb c l=ai/\l.cf=x)↔x∈xs\/(uE bb c d[j]=ai/\d[j].cf=x):=fun x=>by
  rw[take_succ_eq_append_getElem z,L.2];simp only[mem_append,mem_singleton];constructor
  .rintro⟨l,hl|rfl,e⟩
   .exact .inl ⟨l,hl,e⟩
   .exact .inr e
  .rintro(⟨l,hl,e⟩|e)
   .exact⟨l,.inl hl,e⟩
   .exact⟨_,.inr rfl,e⟩
 have cells:∀{H v},sD u A G r1 o d xs H v->∃a,At r1 j 5 a/\v.cell? a=ab (vi d[j].ba)/\v.cell? (a.add 1)=ab (vi d[j].cj)/\v.cell? (a.add 2)=ab (vu d[j].c)/\v.cell? (a.add 3)=ab (vs d[j].cf):=fun h=>by
  have⟨a,I,hr⟩:=h.rr.mv z;have r0:=hr 0 (by simp[xW]);have r1:=hr 1 (by simp[xW]);have r2:=hr 2 (by simp[xW]);have r3:=hr 3 (by simp[xW]);exact⟨a,I,by simpa[xW,ao.add]using r0,by simpa[xW]using r1,by simpa[xW]using r2,by simpa[xW]using r3⟩
 have hol:o.ay=xs.length:=by rw[W.ro.fg.ay,qD]
 have Z:∀{s:Sl} {n sz a a'},At s n sz a->At s n sz a'->a=a':=fun h h'=>by
  obtain⟨_,_,b,hb,rfl⟩:=h;obtain⟨_,_,b',hb',rfl⟩:=h';rw[hb]at hb';cases hb';rfl
 have U:∀H v,sD u A G r1 o d xs H v->(uE bb c d[j]=ai->d[j].cf∈xs)->AQ u A G r1 d bb c o (q6.wrap<|(j:Int)+1) H v/\((d.length:Int)-q6.wrap ((j:Int)+1)).toNat<((d.length:Int)-j).toNat:=fun H v T hm=>by
  rw[zI z Om];refine⟨⟨j+1,xs,rfl,z,T,⟨L.1,fun x=>?_⟩,Om⟩,vT z⟩;rw[N];exact⟨.inl,fun h=>h.elim id fun⟨e,k⟩=>k▸hm e⟩
 have J4 : ∀(k:Nat)(q:Bool)H v, (R : k <= xs.length) -> sD u A G r1 o d xs H v -> (q = ai -> d[j].cf ∈ xs) -> (q = ak -> uE bb c d[j] = ai /\ (∀ i (_ : i < k), oz (xs[i]' Om) d[j].cf < 0) /\ ∀ (_ : k < xs.length), ¬ oz xs[k] d[j].cf < 0 /\ xs[k] ≠ d[j].cf) ->
   Er r1 o j k q H v (fun B t H' w'=>AQ u A G r1 d bb c B t H' w'/\((d.length:Int)-t).toNat<((d.length:Int)-j).toNat) Q:=by
  intro k q H v R T hq1 hq2
  refine⟨fun p=>U H v T fun _=>hq1 p,fun p=>?_⟩
  have⟨hb,i1,i2⟩:=hq2 p
  refine⟨aq v,aj.drew v,?_⟩
  rintro w3 rfl
  have⟨s1,hr1,hR1,_⟩:=T.ro.fg.Fp (P:=prog) EK (k:=.i64) (n:=(k:Int)) Om (by rw[qD];omega)
  have⟨s2,hr2,hR2⟩:=T.ro.fg.RM (P:=prog) EK (k:=.i64) (n:=(k:Int)) Om (by rw[qD];omega)
  have e1:(nQ xs).take (k:Int).toNat=nQ (xs.take k):=by unfold nQ;rw[Int.toNat_natCast,map_take]
  have e2:(nQ xs).drop (k:Int).toNat=nQ (xs.drop k):=by unfold nQ;rw[Int.toNat_natCast,map_drop]
  rw[e1]at hR1;rw[e2]at hR2
  have⟨a1,I,_⟩:=cells T
  refine⟨s1,fun w' _=>hr1 w',a1,I,d[j].cf,fun w' E=>?_,s2,fun w' _=>hr2 w',?_⟩
  .have⟨a2,D,_,_,_,h⟩:=cells<|T.pure E
   rw[Z I D];exact h
  refine NC (P:=prog) (ty:=79) EK (row:=[vs d[j].cf]) hR1 hR2 (LV _) (PQ _) (LV _) (PQ _) rfl rfl (by simp only[qD,length_take,length_drop];omega) (by simp only[qD,length_take,length_drop];unfold maxLen;omega) (fun y J=>(T.hh y J).2) fun s v' E hR ho=>?_
  have S:=T.pure E
  have zv:=T.sz
  rw[zI z Om]
  refine⟨⟨j+1,xs.take k++([d[j].cf]++xs.drop k),rfl,z,⟨S.fr,S.sz,fun y J=>Uc,S.hh,⟨by simpa[nQ]using hR,fun y J hh=>Oi (ho y J)<|(T.hh y hh).2⟩,S.rr,S.l1⟩,⟨RX Bh (fun {a b} h=>by unfold oz at h;grind) L.1 R i1 i2,fun x=>?_⟩,So⟩,vT z⟩
  rw[N,P4]
  simp only[hb,true_and]
  exact⟨fun h=>h.elim (fun h=>.inr h.symm) .inl,fun h=>h.elim .inr fun h=>.inl h.symm⟩
 have oc:∀{H v k},sD u A G r1 o d xs H v->(R:k<xs.length)->∃a,At o k 1 a/\v.cell? a=ab (vs xs[k]):=fun T R=>by
  have⟨a,I,hr⟩:=T.ro.fg.mv (f:=fun x=>[vs x]) R;refine⟨a,I,?_⟩;have:=hr 0 Sm;simpa[ao.add]using this
 have J2:∀(q:Bool)H v,sD u A G r1 o d xs H v->q=!uE bb c d[j]->C8 r1 o j q u H v (fun B t H' w'=>AQ u A G r1 d bb c B t H' w'/\((d.length:Int)-t).toNat<((d.length:Int)-j).toNat) Q:=by
  intro q H v T hq;refine⟨fun p=>U H v T fun h=>Uc,fun p=>?_⟩;have hb:uE bb c d[j]=ai:=Uc;refine⟨fun i H v=>∃k:Nat,i=k/\k<=xs.length/\sD u A G r1 o d xs H v/\∀i (_:i<k) (hi:i<xs.length),oz xs[i] d[j].cf<0,fun i _=>((xs.length:Int)-i).toNat,⟨0,rfl,Nat.zero_le _,T,fun i h=>Om⟩,?_⟩;rintro _ H2 v2 hs2 ⟨k,rfl,R,T2,hlo⟩;have J3:∀v',sD u A G r1 o d xs H2 v'->(∀(_:k<xs.length),¬oz xs[k] d[j].cf<0)->Gh r1 o j k u H2 v' (fun B t H' w'=>AQ u A G r1 d bb c B t H' w'/\((d.length:Int)-t).toNat<((d.length:Int)-j).toNat) Q:=by
   intro v' S hno;refine⟨fun p=>?_,fun p X hs=>?_⟩
   .have m:=vA hol p;have⟨a2,D,_⟩:=oc S m;refine⟨a2,D,fun X hs=>?_⟩;have T18:=S.bh hs;have⟨a3,hat3,hc3⟩:=oc T18 m;have⟨a4,C,_,_,_,hc4⟩:=cells T18;rw[Z D hat3];exact⟨_,hc3,a4,C,_,hc4,J4 k _ H2 X R T18 (fun h=>ij h▸getElem_mem m) fun h=>⟨hb,fun i hi=>hlo i hi Om,fun _=>⟨hno m,il h⟩⟩⟩
   .have hge:=vH hol R p;exact J4 k ak H2 X R (S.bh hs) (fun h=>Uc) fun _=>⟨hb,fun i hi=>hlo i hi Om,fun h=>Om⟩
  refine⟨fun p=>?_,fun p w19 hs=>J3 w19 (T2.bh hs) fun h=>Uc⟩;have m:=vA hol p;have⟨a4,C,_⟩:=oc T2 m;refine⟨a4,C,fun w19 hs=>?_⟩;have O:=T2.bh hs;have⟨a5,hat5,hc5⟩:=oc O m;have⟨a6,w,_,_,_,Y⟩:=cells O;rw[Z C hat5];have hcm:Op.bytesLess xs[k].toList d[j].cf.toList=ai↔oz xs[k] d[j].cf<0:=by unfold oz;grind
  refine⟨_,hc5,a6,w,_,Y,Op.bytesLess xs[k].toList d[j].cf.toList,by rw[binOp_string_lss];rfl,fun h=>?_,fun h=>J3 w19 O fun _ h'=>Uc⟩;rw[zI m Om];refine⟨⟨k+1,rfl,m,O,fun i hi hi2=>?_⟩,vT m⟩;by_cases e:i=k
  .subst e;exact hcm.1 h
  .exact hlo i Om hi2
 have⟨a6,w,hk6,hf6,Y,_⟩:=cells W
 refine⟨a6,w,_,Y,fun p=>J2 ai Hl wl W ?_,fun p=>?_⟩
 .have:d[j].c≠c:=by simpa using p
  unfold uE;simp[this]
 have hcc:d[j].c=c:=Uc
 have J6:∀q,(d[j].ba≠6)->q=!((d[j].ba==2)&&(d[j].cj==bb))->GC c r1 o j d[j].c d[j].ba q u Hl wl (fun B t H' w'=>AQ u A G r1 d bb c B t H' w'/\((d.length:Int)-t).toNat<((d.length:Int)-j).toNat) Q:=by
  intro q h6 hq H3 w21 hs;refine J2 _ H3 w21 (W.bh hs) ?_;subst hq;unfold uE;simp[hcc,h6,bne]
 refine⟨a6,w,_,hk6,fun h6=>⟨a6,w,_,hk6,fun h2=>J6 ai Uc ?_,fun h2=>⟨a6,w,_,hf6,J6 _ Uc ?_⟩⟩,fun h6=>J2 ak Hl wl W ?_⟩
 .have:d[j].ba≠2:=by simpa using h2
  simp[this]
 .have:d[j].ba=2:=by simpa using h2
  simp[this,bne]
 .have:d[j].ba=6:=by simpa using h6
  unfold uE;simp[this,hcc]
def WA{X:NP}(r:ao)(k fr to u x ks)(s:Sl)(w0){M K a b F}(h:pC r M K a b w0 F)(j:Wf M)(A:∀g∈K,bj M g=ai)(D:K.length<=100000)(U:fm X w0 s (.mk k fr to u x ks))(T:∀y,X y->y<w0.heap.size/\¬ F y):
  cl 39 #[vp<|ab r,.agg #[vi k,vi fr,vi to,vu u,vs x,s.v]] w0<|XC fun o w'=>(o=ai↔Au M K (.mk k fr to u x ks))/\Tn (pC r (of M<|.mk k fr to u x ks).2.2 K a b) F w0 w':=by
 refine SS _ _ _ _ _ _ _ w0 _ ?_
 have i:=qG.lt h
 have⟨e,q,G,Z,h,d⟩:=h
 intro P C hs
 have L:=hs.first
 refine⟨fun _=>True,trivial,?_⟩
 rintro V rfl
 have l:=L.trans<|aj.drew C
 have h2:=h.ext l fun _ _ h=>h
 have⟨_,O,_⟩:=h2.ic.box
 have W:=l.size
 refine⟨r,rfl,ab e,h2.box.dj,e,rfl,ab q,O,?_⟩
 refine(Qo q (.mk k fr to u x ks) s _ (U.pure l) h2.ew j.ok (fun y c hx=>(T y hx).2<|(d y).2<|.inr<|.inr c) fun y c=>Uc).mono ?_
 rintro _ z ⟨r1,r2,rfl,N,F',J,m,f⟩
 have⟨p,H⟩:=Prod.mk.inj N
 have w':=Hu j<|.mk k fr to u x ks
 have⟨Y,R⟩:=Jb j.ok<|.mk k fr to u x ks
 have h3:=h2.rq J m f
 unfold Au
 rw[<-p,<-H]
 have B:∀y,F y->¬P y:=fun y c hh=>Oi (i y c)<|hs.old y hh
 have S:=(aj.pure l).trans<|m.mono fun y _ c=>(d y).2<|.inr<|.inr c
 have tn:∀{w'},aq z w'->Tn (pC r (of M<|.mk k fr to u x ks).2.2 K a b) F w0 w':=fun E=>⟨_,⟨e,q,G,F',h3.ext E fun _ _ h=>h,fun _=>Iff.rfl⟩,S.mh E,fun y c=>by
  rcases c with rfl|c|c
  .exact .inl<|(d _).2<|.inl rfl
  .exact .inl<|(d _).2<|.inr<|.inl c
  .rcases f y c with h|h
   .exact .inl<|(d _).2<|.inr<|.inr h
   .exact .inr Om⟩
 refine⟨r1,r2,rfl,trivial,m.ff fun y hh c=>B y ((d y).2<|.inr<|.inr c) hh,fun n=>?_,fun n=>?_⟩
 .refine⟨r,rfl,ab e,h3.box.dj,?_⟩
  refine(Qu e q r1 z h3.ic h3.ew w' (fun g I=>by rw[R];exact yP<|A g I) D).mono ?_
  rintro _ w4 ⟨r3,rfl,Q,w⟩
  refine⟨r3,rfl,w.dy,?_,tn w⟩
  have t:r2=0:=Uc
  rw[Q]
  have hi:=(Da j (x:=.mk k fr to u x ks) Uc).1
  rw[<-p]at hi
  exact⟨fun h=>⟨t,h.2⟩,fun h=>⟨hi,h.2⟩⟩
 .have t:r2≠0:=by simpa using n
  exact⟨Uc,tn<|aj.refl _⟩
def jVI(f w0){L G a b F}(h:lv w0 f L G a b F):
  cl 28 #[vp<|ab f] w0<|XB fun o w'=>o=G.length/\aq w0 w':=by
 refine jcf _ w0 _ ?_
 have e:=h.jl
 have⟨k,p,S,g,j,d,i⟩:=h
 refine Br.f rfl ⟨f,rfl,ab k,d.box.dj,?_⟩
 refine(KE k p w0 d.ic Om).mono ?_
 rintro _ l ⟨r1,rfl,c⟩
 exact⟨r1,rfl,by rw[c.fg.ay,zV],c.pure⟩
def jLK(f bb w0){L G a b F}(h:lv w0 f L G a b F):
  cl 30 #[vp<|ab f,vi bb] w0<|XC fun o w'=>o=(if bb=0 then a else if bb=1 then b else ak)/\aq w0 w':=by
 refine Xf _ _ w0 _ ?_
 have⟨k,p,S,j,m,e,l⟩:=h
 refine⟨fun c=>?_,fun c d g hs=>?_⟩
 .simp only[Option.isNone_some,Bool.not_false,Bool.true_and,Bool.or_eq_true,beq_iff_eq]at c
  rcases c with rfl|rfl
  .refine⟨f,rfl,(f.add 2).add 0,⟨Om,Om,Sm⟩,fun d g hs=>⟨a,?_,rfl,hs.first⟩⟩
   have:=(e.box.pure hs.first).cell (i:=2) rfl
   rw[qN];exact this
  .refine⟨f,rfl,(f.add 2).add 1,⟨Om,Om,Sm⟩,fun d g hs=>⟨b,?_,rfl,hs.first⟩⟩
   have:=(e.box.pure hs.first).cell (i:=3) rfl
   rw[qN];exact this
 .simp only[Option.isNone_some,Bool.not_false,Bool.true_and,Bool.or_eq_false_iff,beq_eq_false_iff_ne]at c
  exact⟨Uc,hs.first⟩
def NR.me{L M X Y n m}(r:NR L M n m)(d:Wf (L++X))(c:Wf (M++Y)):NR (L++X) (M++Y) n m:=
 ⟨r.k,r.f,r.t,r.u,r.x,r.a.imp id fun h=>h.me d c,r.b.imp id fun h=>h.me d c⟩
structure Gw(L M:bw)(r1 r2:rC):Prop where
 rs:RS r1 r2
 s:mz r1.2.2 r2.2.2
 wl:Wf r1.2.2
 wm:Wf r2.2.2
 al:∃X,r1.2.2=L++X
 am:∃Y,r2.2.2=M++Y
def K5:∀ts,(∀t∈ts,∀L M,Wf L->Wf M->mz L M->L.length+cnt t<=65536->M.length+cnt t<=65536->Gw L M (grow L t) (grow M t)) ->
  ∀i n m L M,Wf L->Wf M->mz L M->NR L M n m->L.length+cntAll ts+1<=65536->M.length+cntAll ts+1<=65536->Gw L M (zU n i L ts) (zU m i M ts)
 |[],_,i,n,m,L,M,l,j,hs,w,G,J=>by
  simp only[zU];have C:=w.bz l j Om Om;exact⟨C,hs.pU (yG l n) (yG j m) (qM L n) (qM M m) C fun v=>CZ L n,yG l n,yG j m,qM L n,qM M m⟩
 |t :: ts,E,i,n,m,L,M,l,j,hs,w,G,J=>by
  have N:cntAll (t ::ts)=cnt t+cntAll ts:=rfl;have⟨rs,s,q,r,⟨X,B⟩,⟨Y,A⟩⟩:=E t Sm L M l j hs Om Om;have P:=Jh t L;have O:=Jh t M;rw[zU,zU];by_cases g:(grow L t).2.1=0;have h1:=rs.1▸g;rw[aw<|show ¬(grow L t).2.1≠0 by simp[g],aw<|show ¬(grow M t).2.1≠0 by simp[h1]];have D:=rs.2 g;have e:NR (grow L t).2.2 (grow M t).2.2 n m:=by
   have o:=q;have p:=r;rw[B]at o|-;rw[A]at p|-;exact w.me o p
  have H:=K5 ts (fun u F=>E u<|by simp[F]) (i+1) (if i=0 then { n with a:=(grow L t).1 }else { n with b:=(grow L t).1 }) (if i=0 then { m with a:=(grow M t).1 }else { m with b:=(grow M t).1 }) _ _ q r s (by
   split;exact⟨e.k,e.f,e.t,e.u,e.x,.inr D,e.b⟩;exact⟨e.k,e.f,e.t,e.u,e.x,e.a,.inr D⟩) Om Om
  have⟨a,b,c,d,⟨I,y⟩,⟨K,z⟩⟩:=H;exact⟨a,b,c,d,⟨X++I,by rw[y,B,append_assoc]⟩,⟨Y++K,by rw[z,A,append_assoc]⟩⟩;have h1:=rs.1▸g;rw[bt<|show(grow L t).2.1≠0 from g,bt<|show(grow M t).2.1≠0 from h1];exact⟨⟨rs.1,fun h=>absurd h g⟩,s,q,r,⟨X,B⟩,⟨Y,A⟩⟩
def zGV(t:ej):∀L M,Wf L->Wf M->mz L M->L.length+cnt t<=65536->M.length+cnt t<=65536->Gw L M (grow L t) (grow M t):=by
 refine ej.ind (P:=fun t=>∀L M,Wf L->Wf M->mz L M->L.length+cnt t<=65536->M.length+cnt t<=65536->Gw L M (grow L t) (grow M t)) (fun k f t u x ks c L M b a hs g e=>?_) t;have d:cnt (.mk k f t u x ks)=1+cntAll ks:=by rw[cnt]
 rw[grow,grow];exact K5 ks (fun t ht=>by obtain⟨i,hi,rfl⟩:=getElem_of_mem ht;exact c i hi) 0 _ _ L M b a hs ⟨rfl,rfl,rfl,rfl,rfl,.inl ⟨rfl,rfl⟩,.inl ⟨rfl,rfl⟩⟩ Om Om
def Pu(t:ej){L M}(c:Wf L)(b:Wf M)(hs:mz L M)(j:L.length+cnt t<=65536)(g:M.length+cnt t<=65536):Gw L M (of L t) (of M t):=by
 have⟨rs,s,d,k,e,i⟩:=zGV t L M c b hs j g;unfold of;split;rename_i h;exact⟨⟨rfl,fun f=>absurd f h⟩,hs,c,b,⟨[],Sm⟩,⟨[],Sm⟩⟩;by_cases a:(grow L t).2.1=0;have h1:=rs.1▸a;rw[aw<|show ¬(grow L t).2.1≠0 by simp[a],aw<|show ¬(grow M t).2.1≠0 by simp[h1]];exact⟨⟨rfl,fun _=>rs.2 a⟩,s,d,k,e,i⟩;have h1:=rs.1▸a;rw[bt<|show(grow L t).2.1≠0 from a,bt<|show(grow M t).2.1≠0 from h1];exact⟨⟨rs.1,fun h=>absurd h a⟩,hs,c,b,⟨[],Sm⟩,⟨[],Sm⟩⟩
def Vs(l:gq){L M}(b:Wf L)(a:Wf M)(hs:mz L M)(f:L.length+40<=65536)(e:M.length+40<=65536):Gw L M (zC L l) (zC M l):=by
 have d:=JS l ai ai;unfold zC;split;rename_i h;exact⟨⟨rfl,fun c=>absurd c h⟩,hs,b,a,⟨[],Sm⟩,⟨[],Sm⟩⟩;exact Pu _ b a hs Om Om
def MJ{d:List ej}{G K:List Int}:∀(ls:List gq) {L M:bw},Gs L G d->Gs M K d->mz L M->L.length+40*ls.length<=65000->M.length+40*ls.length<=65000->mz (sG G ls L).2 (sG K ls M).2
 |[],_,_,_,_,h,_,_=>h
 |l :: ls,L,M,gl,gm,h,k,n=>by
  rw[length_cons]at k n;have⟨_,s,g,i,⟨X,j⟩,⟨Y,m⟩⟩:=Vs l gl.wf gm.wf h Om Om;have c:=FM gl.wf gl.kq (l:=l) Om;have b:=FM gm.wf gm.kq (l:=l) Om;rw[gl.e]at c;rw[gm.e]at b;have f:∀N,(zC N l).2.2.length<=N.length+40:=fun N=>by
   unfold zC;split;simp;have:=ZL N<|zR l ai ai;have:=JS l ai ai;omega
  have o:=f L;have p:=f M;rw[sG,sG];by_cases a:zs d l;rw[bt<|c.2 a,bt<|b.2 a];exact s;rw[aw fun h=>a<|c.1 h,aw fun h=>a<|b.1 h];exact MJ ls (by rw[j]at g|-;exact gl.me g) (by rw[m]at i|-;exact gm.me i) s Om Om
section
variable {L M:bw} {G K:List Int} (h:nZ L M G K)
include h
def nZ.gl:Gs L G (G.map<|zA L):=⟨h.wl,h.g.l,rfl⟩
def nZ.gm:Gs M K (G.map<|zA L):=⟨h.wm,h.g.m,h.g.e.symm⟩
def nZ.bind(g:M.length<=64900)(bb:Int){c}(x)(d:yA c):((uX L G bb c x).1≠0↔(uX M K bb c x).1≠0)/\nZ (uX L G bb c x).2 (uX M K bb c x).2 G K/\(uX M K bb c x).2.length<=M.length+16:=by
 have i:=h.ay;have b1:=CO h.gl.wf h.gl.kq Om bb c x;have b2:=CO h.gm.wf h.gm.kq Om bb c x;rw[h.gm.e]at b2;have⟨a,_⟩:=h.gl.Fo Om bb c x;have⟨b,f⟩:=h.gm.Fo Om bb c x;refine⟨b1.trans b2.symm,⟨a.wf,b.wf,Nd h.gl.wf h.gl.kq Om h.nl d,Nd h.gm.wf h.gm.kq Om h.nm d,⟨a.kq,b.kq,a.e.trans b.e.symm⟩,?_⟩,f⟩;unfold uX;split;exact MJ _ h.gl h.gm h.s (by simp[pa];omega) (by simp[pa];omega);exact h.s
def nZ.free(bb):tv L G bb=tv M K bb:=Bool.eq_iff_iff.2 (by
 have h1:=FX h.gl.wf h.gl.kq bb;have h2:=FX h.gm.wf h.gm.kq bb;rw[h.gm.e]at h2;exact h1.trans h2.symm)
def nZ.CN{t:ej}(l:M.length+cnt t<=65536):Proofs.Au L G t↔Proofs.Au M K t:=by
 have m:=h.ay;have⟨rs,_,d,c,⟨X,g⟩,⟨Y,k⟩⟩:=Pu t h.wl h.wm h.s Om l;unfold Proofs.Au;rw[<-rs.1];refine and_congr_right fun f=>?_;have⟨i1,j,_⟩:=Da h.wl f;have⟨i2,i,_⟩:=Da h.wm<|rs.1▸f;have a:Gs (of L t).2.2 G (G.map<|zA L):=by rw[g]at d|-;exact h.gl.me d
 have b:Gs (of M t).2.2 K (G.map<|zA L):=by rw[k]at c|-;exact h.gm.me c
 rw[JL a.wf a.kq i1,JL b.wf b.kq i2,a.e,b.e,j,i]
end
def HX{α:Type}{f:α->α->Int}(h:Wo f):∀{l m:List α},l.Pairwise (f · ·<0)->m.Pairwise (f · ·<0)->(∀x,x∈l↔x∈m)->l=m
 |[],[],_,_,_=>rfl
 |[],b :: m,_,_,h=>by have:=(h b).2 Sm;simp at this
 |a :: l,[],_,_,h=>by have:=(h a).1 Sm;simp at this
 |a :: l,b :: m,h1,h2,d=>by
  have g:=pairwise_cons.1 h1;have j:=pairwise_cons.1 h2;have c:∀x,¬f x x<0:=fun x=>Oh<|h.neg x x;have i:a=b:=by
   rcases mem_cons.1 ((d a).1 Sm)with e|o;exact e;rcases mem_cons.1 ((d b).2 Sm)with e|n;exact e.symm;exact absurd (h.vx (g.1 b n)<|Int.le_of_lt<|j.1 a o)<|c a
  subst i;congr 1;refine HX h g.2 j.2 fun x=>⟨fun hx=>?_,fun hx=>?_⟩;rcases mem_cons.1 ((d x).1 Uc)with rfl|k;exact absurd (g.1 x hx)<|c x;exact k;rcases mem_cons.1 ((d x).2 Uc)with rfl|k;exact absurd (j.1 x hx)<|c x;exact k
def QA(a:List ej)(l:gq):Prop:=∃y,sC a y/\td y l
def Lg{L}(a:Wf L){t}(ht:bj L t=ai){l}:pK L t=(l,ai)↔td (zA L t) l:=by
 refine⟨fun h=>?_,fun h=>UF a ht h⟩;unfold pK at h;split at h;cases(Prod.mk.inj h).2;rename_i h2;have:=Pi a ht Uc;rwa [(Prod.mk.inj h).1]at this
def Ep{L G gs}(h:Gs L G gs)(l):(∃t,jn L G t/\pK L t=(l,ai))↔QA gs l:=by
 obtain rfl:=h.e;constructor;rintro⟨t,hs,a⟩;have hi:=(Jk h.wf h.kq hs).1;exact⟨_,(BP h.wf h.kq hi).1 hs,(Lg h.wf hi).1 a⟩;rintro⟨y,hs,c⟩;obtain⟨t,hi,rfl,b⟩:=H8 h.wf h.kq hs;exact⟨t,b,(Lg h.wf hi).2 c⟩
def Ji{M K gs}(h:Gs M K gs){ms}(b:Proofs.zh M K ms)(l):l∈ms↔QA gs l:=by
 rw[b.2,<-Ep h];constructor;rintro⟨t,_,hs,a⟩;exact⟨t,hs,by rw[RT h.wf];exact a⟩;rintro⟨t,hs,a⟩;exact⟨t,(Jk h.wf h.kq hs).1,hs,by rw[<-RT h.wf];exact a⟩
def zKR{L M G K gs}(h1:Gs L G gs)(h2:Gs M K gs){ls ms}(b:IV L G ls)(a:Proofs.zh M K ms):ls=ms:=
 HX Ez b.1 a.1 (fun l=>by rw[Ji h2 a,b.2];exact Ep h1 l)
def zFF{L M G K gs}(h1:Gs L G gs)(h2:Gs M K gs){bb c xs ys ms}(a:Hn L G bb c xs)(f:Proofs.zh M K ms)(ht:Proofs.EM bb c ms ys):xs=ys:=
 HX Bh a.1 ht.1 (fun x=>by
  rw[a.2,ht.2];constructor;rintro⟨t,l,hs,d,b,e⟩;exact⟨l,(Ji h2 f l).2<|(Ep h1 l).1 ⟨t,hs,d⟩,b,e⟩;rintro⟨l,a,b,e⟩;have⟨t,hs,d⟩:=(Ep h1 l).2<|(Ji h2 f l).1 a;exact⟨t,l,hs,d,b,e⟩)
def Ex(ls:List Act)(r:ao)(w0:af)(n:Nat)(H:NP)(f:ao)(w:af):Prop:=
 ∃L M G K a b,Tk H (xl f r L M G K a b) bl w0 w/\nZ L M G K/\2*M.length<=uN (ls.take n)+n*640
def Uy{a b c d n:Nat}(h:a<=b+(c+600))(h2:b<=d+n*640):a+32<=d+c+(n+1)*640:=Om
section
variable {S:NP} {l1:Sl} {ls:List Act} {bb c:Int} {x:ByteArray} (hc:yA c) {w0:af} (hL:gr S w0 9 l1 (ls.map tQ)) (hok:∀y∈ls,we S w0 y) (hS:∀y,S y->y<w0.heap.size) (hsm:H0 ls)
include hc hL hok hS hsm
def jVE(k fr to u:Int)(tx:ByteArray)(sx:Sl){r f:ao}{n:Nat}(A:n<ls.length){Hl:NP}{wl:af}(bh:Ex ls r w0 n Hl f wl)(Q:Bool->WP):
  Nc l1 bb c x k fr to u tx sx (ab r) (ab f) n w0 Hl wl (fun y'0 y'1 H' w'=>(∃n f,y'1=((n:Nat):Int)/\n<=ls.length/\y'0=ab f/\Ex ls r w0 n H' f w')/\((ls.length:Int)-y'1).toNat<((ls.length:Int)-(n:Int)).toNat) Q:=by
 have hll:l1.ay=ls.length:=by rw[hL.ay];simp
 refine Br.t Uc<|Br.f rfl ?_
 have⟨L,M,G,K,a,b,T,sim,hM⟩:=bh
 have El:=T.fr
 have⟨a1,hat,_,hrow⟩:=(hL.pure El).mv A
 refine⟨a1,hat,_,_,_,_,_,_,_,_,_,hrow,?_⟩
 have hx:=hok _<|getElem_mem A
 have ho:=hsm.ax _<|getElem_mem A
 have hb:=TN A
 have h1:=MI ls<|n+1
 have h2:=hsm.bytes;have h3:=hsm.jl
 have i:∀{w'},aq w0 w'->∃a,At l1 n 9 a/\w'.cell? (a.add 7)=ab (vi ls[n].bb):=fun E=>by
  have⟨a,h,_,hr⟩:=(hL.pure E).mv A;refine⟨a,h,?_⟩;have:=hr 7 (by simp[tQ]);simpa[tQ]using this
 generalize ls[n]=y at *
 have⟨F,hF,d,kk⟩:=T.one
 have z:=T.fr.size
 refine(jST (S:=S) f r y wl (hx.ext T.fr fun _ _ h=>h) (fun v hv=>⟨Nat.lt_of_lt_of_le (hS v hv) z,fun hf=>?_⟩) ho hF sim Om).mono ?_
 have:=hS v hv
 rcases(d v hf).1 with h|h
 exact h
 omega
 rintro _ w6 ⟨_,_,rfl,rfl,g,L1,M1,G1,K1,a',b',rfl,t,s1,hM1⟩
 have⟨T6,kp⟩:=kk t
 have hM2:=Uy hM1 hM
 clear t kk d hF sim hM
 refine⟨_,_,rfl,kp,fun h=>Uc,fun _ H3 w7 hs7=>?_⟩
 have T7:=T6.bh xY hs7
 refine⟨aq w0,T7.fr.trans<|aj.drew w7,?_⟩
 rintro w8 rfl
 have T8:=T7.pure xY<|aj.drew w7
 have⟨F1,hf1,_,k1⟩:=T8.l vZ qG
 refine(jVI g _ hf1).mono ?_
 rintro _ w9 ⟨_,rfl,rfl,E9⟩
 have U:=T8.pure xY E9
 refine⟨_,rfl,U.fr,E9.dy,?_⟩
 have⟨F2,hr2,_,_⟩:=U.r vZ qG
 have hK1:=KL.jl hf1 s1
 refine(jZU r w9 hr2).mono ?_
 rintro _ w10 ⟨_,rfl,rfl,rfl⟩
 refine⟨_,rfl,U.fr,av.refl _,Br.f (by rw[s1.g.ay];simp) ?_⟩
 have⟨a2,j,hc2⟩:=i U.fr
 have c7:∀w',aq w0 w'->w'.cell? (a2.add 7)=ab (vi y.bb):=fun w' E=>by
  have⟨a3,hat3,h⟩:=i E;have:a2=a3:=by
   obtain⟨_,_,b,hb,rfl⟩:=j;obtain⟨_,_,b',hb',rfl⟩:=hat3;rw[hb]at hb';cases hb';rfl
  rw[this];exact h
 refine⟨a2,j,_,c7,a2,j,_,c7,?_⟩
 have⟨F3,hf3,_,_⟩:=U.l vZ qG
 refine(jLK g y.bb w10 hf3).mono ?_
 rintro _ w11 ⟨_,rfl,rfl,E11⟩
 have q:=U.pure xY E11
 refine⟨_,rfl,q.fr,E11.dy,?_⟩
 have⟨F4,hr4,_,_⟩:=q.r vZ qG
 refine(Yu r w11 hr4 y.bb).mono ?_
 rintro _ w12 ⟨_,rfl,rfl,rfl⟩
 refine⟨_,rfl,q.fr,av.refl _,Br.f Sm ?_⟩
 have⟨F5,hf5,_,k5⟩:=q.l vZ qG
 refine(Rh g bb c x w12 hf5).mono ?_
 rintro _ w13 ⟨r10,rfl,B,t13⟩
 have⟨Y,kp13⟩:=k5 t13
 refine⟨_,rfl,Y.fr,kp13,?_⟩
 have⟨F6,hr6,_,k6⟩:=Y.r vZ qG
 refine(jZV r w13 hr6 s1.wm s1.g.m Om bb c x).mono ?_
 rintro _ w14 ⟨r11,rfl,C,t14⟩
 have⟨O,X⟩:=k6 t14
 have⟨eb,e,f2⟩:=s1.bind Om bb x hc
 have:r10=r11:=Bool.eq_iff_iff.2<|B.trans<|eb.trans C.symm
 subst this
 refine⟨_,rfl,O.fr,X,Br.f Sm ?_⟩
 clear B C eb
 have hM3:2*(uX M1 K1 bb c x).2.length<=2*M1.length+32:=Om
 generalize (uX L1 G1 bb c x).2=L2 at *
 generalize (uX M1 K1 bb c x).2=M2 at *
 have⟨F7,hf7,_,_⟩:=O.l vZ qG
 refine(Nz g bb w14 hf7).mono ?_
 rintro _ w15 ⟨_,rfl,rfl,W⟩
 have R:=O.pure xY W
 refine⟨_,rfl,R.fr,W.dy,?_⟩
 have⟨F8,hr8,_,_⟩:=R.r vZ qG
 refine(zDP r w15 hr8 e.wm e.g.m Om bb).mono ?_
 rintro _ w16 ⟨_,rfl,rfl,V⟩
 have N:=R.pure xY V
 refine⟨_,rfl,N.fr,V.dy,Br.f (by rw[e.free bb];simp) ?_⟩
 have⟨F9,hf9,_,_⟩:=N.l vZ qG
 refine(jVG g bb c w16 hf9).mono ?_
 rintro _ w17 ⟨r14,rfl,xs,H,s,hxl⟩
 have D:=N.pure xY H.pure
 refine⟨_,rfl,D.fr,H.ff,?_⟩
 have⟨F10,hr10,_,_⟩:=D.r vZ qG
 refine(Vr r bb c w17 hr10 e.wm e.g.m Om).mono ?_
 rintro _ w18 ⟨r15,rfl,ys,o,w,_⟩
 have T18:=D.pure xY o.pure
 refine⟨_,rfl,T18.fr,o.ff,?_⟩
 have exy:xs=ys:=by
  by_cases hp:vY bb=ai;rw[bt hp]at s w;have⟨ms,hm,ht⟩:=w;exact zFF e.gl e.gm s hm ht;rw[aw hp]at s w;rw[s,w]
 refine(jVB r14 r15 xs ys w18 (H.fg.pure o.pure).gS o.fg.gS Om).mono ?_
 rintro _ w19 ⟨r16,rfl,h16,E19⟩
 have J:=T18.pure xY E19
 have:r16=ai:=h16.2 exy
 subst this
 refine⟨_,rfl,J.fr,E19.dy,Br.f rfl ?_⟩
 have⟨F11,Z,_,_⟩:=J.l vZ qG
 refine(LS g w19 Z).mono ?_
 rintro _ w20 ⟨r17,rfl,la,I,hlo,hll2⟩
 have P:=J.pure xY I.pure
 refine⟨_,rfl,P.fr,I.ff,?_⟩
 have⟨F12,hr12,_,_⟩:=P.r vZ qG
 refine(L9 r w20 hr12 e.wm e.g.m Om).mono ?_
 rintro _ w21 ⟨r18,rfl,lb,p,hlr,_⟩
 have T21:=P.pure xY p.pure
 refine⟨_,rfl,T21.fr,p.ff,?_⟩
 have eab:=zKR e.gl e.gm hlo hlr
 refine(zDO r17 r18 la lb w21 (I.fg.pure p.pure).gS p.fg.gS Om).mono ?_
 rintro _ w22 ⟨r19,rfl,h19,E22⟩
 have T22:=T21.pure xY E22
 have:r19=ai:=h19.2 eab
 subst this
 refine⟨_,rfl,T22.fr,E22.dy,?_⟩
 refine Br.f rfl ?_
 unfold G4
 rw[zI A Om]
 exact⟨⟨n+1,g,rfl,A,rfl,L2,M2,G1,K1,a',b',T22,e,Om⟩,vT A⟩
end
def Zm{S S2:NP}(l1:Sl)(ls:List Act)(bb c:Int)(x:ByteArray)(hc:yA c)(k fr to u:Int)(d:ByteArray)(ks:List ej)(sx:Sl)(w0:af)(hL:gr S w0 9 l1 (ls.map tQ))(hok:∀y∈ls,we S w0 y)(hS:∀y,S y->y<w0.heap.size)(hT:fm S2 w0 sx (.mk k fr to u d ks))(Y:∀y,S2 y->y<w0.heap.size):
  cl 6 #[l1.v,.agg #[vi bb,vu c,vs x],.agg #[vi k,vi fr,vi to,vu u,vs d,sx.v]] w0<|XC fun r w'=>r=ai/\aq w0 w':=by
 suffices key:∀K,(∀w',aq w0 w'->K ai w')->Lz l1 bb c x k fr to u d sx w0 K from
  Wi _ _ _ _ _ _ _ _ _ _ w0 _<|key _ fun _ h=>⟨rfl,h⟩
 intro Q hQ
 have hll:l1.ay=ls.length:=by rw[hL.ay];simp
 have z:∀H w,aq w0 w->cl 8 #[] w (XC fun r1 P=>aq w0 P/\av H w P/\Q r1 P):=fun H w E=>by
  refine(jSR w).mono ?_;rintro _ w5 ⟨_,rfl,rfl,A⟩;exact⟨_,rfl,E.trans A,A.dy,hQ _<|E.trans A⟩
 have J1:∀(q:Bool)H w,aq w0 w->(∀y,H y->y<w.heap.size)->(q=ak->H0 ls/\cnt (.mk k fr to u d ks)<=6000)->DS l1 bb c x k fr to u d sx q w0 H w Q:=by
  intro q H w3 E3 hH hq;refine⟨fun _=>(z H w3 E3).mono fun e w' ⟨r1,h1,_,h3,h4⟩=>⟨r1,h1,h3,h4⟩,fun hx=>?_⟩;have⟨hsm,hcn⟩:=hq hx;refine(GX w3).mono ?_;rintro _ w4 ⟨_,rfl,f,F,rfl,hf,E4,nf⟩;refine⟨_,rfl,E4.dy,?_⟩;refine(Tf w4).mono ?_;rintro _ w5 ⟨_,rfl,r,F2,rfl,hr,A,nr⟩;refine⟨_,rfl,A.dy,?_⟩;have h0:Ex ls r w0 0 H f w5:=by
   have⟨L,M,G,K,a,b,h1,h2,h3⟩:=St.start (ls:=ls) E3 hH hf E4 nf hr A nr;exact⟨L,M,G,K,a,b,h1,h2,Om⟩
  clear hf hr nf nr E4 A;refine⟨fun o i H w=>∃n f,i=((n:Nat):Int)/\n<=ls.length/\o=ab f/\Ex ls r w0 n H f w,fun _ i _=>((ls.length:Int)-i).toNat,⟨0,f,rfl,Nat.zero_le _,rfl,h0⟩,?_⟩;rintro _ _ Hl wl hsl ⟨n,f,rfl,hn,rfl,bh⟩;by_cases hlt:n<ls.length
  .exact jVE hc hL hok hS hsm k fr to u d sx hlt bh Q
  have⟨L,M,G,K,a,b,T,s,hM⟩:=bh;have hM6:M.length<=50000:=by have:=MI ls n;have:=hsm.bytes;have:=hsm.jl;omega
  refine Br.f Uc ⟨aq w0,T.fr.trans<|aj.drew wl,?_⟩;rintro w23 rfl;refine Br.t rfl ?_;have l:=T.pure xY<|aj.drew wl;have z23:=l.fr.size;refine(jSI (.mk k fr to u d ks) sx _ Om (hT.pure l.fr) fun y p=>Uc).mono ?_;rintro _ w24 ⟨s5,rfl,hT5,C⟩;refine⟨_,_,_,_,_,_,rfl,l.fr.trans C,C.dy,?_⟩;have⟨F1,O,d1,k1⟩:=l.lP vZ qG C;refine(jVH f k fr to u d ks s5 w24 O hT5.lt fun y p=>⟨p.2,fun h=>Uc⟩).mono ?_;rintro _ w25 ⟨r20,rfl,h20,W⟩;have⟨j,R⟩:=k1 W;refine⟨_,rfl,j.fr,R,?_⟩;have⟨F2,X,d2,k2⟩:=j.r vZ qG;have hK:=KL.jl O s;have z25:=j.fr.size;refine(WA r k fr to u d ks sx w25 X s.wm s.g.m Om (hT.pure j.fr) fun y p=>⟨Uc,fun h=>?_⟩).mono ?_
  .have:=Y y p;rcases(d2 y h).1 with h|h
   .exact h
   .omega
  rintro _ w26 ⟨r21,rfl,h21,Z⟩;have⟨U,N⟩:=k2 Z;have:r20=r21:=Bool.eq_iff_iff.2<|h20.trans<|(s.CN Om).trans h21.symm;subst this;exact⟨_,rfl,U.fr,N,Br.t Sm<|z _ _ U.fr⟩
 intro H2 P hs2
 have V:=hs2.first
 refine(jSS l1 ls P (hL.pure V) fun y p=>(hok y p).ext V fun _ _ h=>h).mono ?_
 rintro _ w28 ⟨hg,rfl,hsm,B⟩
 refine⟨_,rfl,B.dy,fun hx H4 D hs=>?_,fun hx H4 D hs=>?_⟩
 .exact J1 ai H4 D ((V.trans B).bh hs) hs.lt fun h=>Uc
 .have I:=(V.trans B).bh hs
  have z29:=I.size
  refine(jPD (.mk k fr to u d ks) sx 6000 D Om Om (hT.pure I) fun y p=>Uc).mono ?_
  rintro _ w30 ⟨_,rfl,rfl,J⟩
  have z30:=J.size
  refine⟨_,rfl,J.dy,J1 _ H4 w30 (I.trans J) (fun y p=>Oh<|hs.lt y p) fun h=>⟨hsm Gd,?_⟩⟩
  have h:=il h
  have:=(Le (.mk k fr to u d ks) 6000 Om).2.2 Om
  omega
end Go.Proofs
end
