import Derived.Test.YtjjcakjoeiolgaaGreatPa3
import Derived.Test.YtjjcakjoeiolgaaGreatPa8
import Derived.Test.YtjjcakjoeiolgaaGreatPa7
import Derived.Test.YtjjcakjoeiolgaaGreatPa4
import Derived.Test.YtjjcakjoeiolgaaGreatPa5
import Derived.Laws.Strings
set_option linter.defProp false
set_option linter.unusedVariables false
set_option linter.unusedSimpArgs false
section
open Go Go.SE List
open Go.IntKind renaming i64 -> q6
open Go renaming World->af,Value->bk,Addr->ao,Ending->fb,Program->ez,TypeId->dz
open Option renaming some->ab,none->bo
open Bool renaming true->ai,false->ak
open Go.Builtin renaming append_->cm
open Prod.mk renaming injEq->ei
open Go.IntKind renaming u64->dc
namespace Go.Proofs
open Tryz
set_option maxRecDepth 100000
set_option maxHeartbeats 4000000
attribute [local irreducible] cr ed dv de Calls CallsD
attribute [local irreducible] ee W WV WR uP pv e0 eh fe ka ek el ev eu fa dw di dn fc eo kp yS xA yF bn ub
def LC{s:Sl}{i:Int}{n:Nat}{a b:ao}(h:At s i n a)(k:At s i n b):a=b:=by
 obtain⟨_,_,b1,d,rfl⟩:=h;obtain⟨_,_,b2,c,rfl⟩:=k;rw[d]at c;cases c;rfl
def Yh{k:Int}(h:(cond (k==7) (k==7)<|k==8)=ai):qH k=ai:=by
 unfold qH;cases b:(k==7)<;>cases a:(k==8)<;>simp_all
def VT{k:Int}(h:(cond (k==7) (k==7)<|k==8)=ak)(b:(k==9)=ak):qH k=ak:=by
 unfold qH;cases c:(k==7)<;>cases a:(k==8)<;>simp_all
def Vu(x q:ao)(A:af){L:bw}{G:List Int}{F FR:NP}(h:qi A x q G F)(hP:vJ A q L FR)(hW:Wf L)(hG:∀g∈G,bj L g=ai)(hGn:G.length<=100000):
  cl 155 #[vp<|ab x] A<|XA fun r w'=>∃D,jd A 4 1 (lq (L.length+1) D) r w'/\∀t,bj L t=ai->(D t=ai↔iw L (jn L G) t):=by
 suffices key:∀K:Sl->WP,(∀r w' D,jd A 4 1 (lq (L.length+1) D) r w'->(∀t,bj L t=ai->(D t=ai↔iw L (jn L G) t))->K r w')->Kv (ab x) A K from
  Tb _ A _<|key _ fun r w' D a b=>⟨D,a,b⟩
 intro K hK
 unfold Kv
 have hL:=hW.ok.jl
 refine(N1 x q A h hP hW hG hGn).mono ?_
 rintro _ w1 ⟨r1,rfl,V,hr,hV⟩
 have E1:=hr.pure
 refine⟨r1,rfl,E1.dy,?_⟩
 intro p1 w2 h2
 have⟨s1,w3,hr3,R3,X3,k3,o3⟩:=Jl (P:=prog) (ty:=189) Hd h2 hr.fg.gS (Ya _ _) (TV _ _) (by rw[zx];omega) (by rw[zx];simp[maxLen];omega) (H:=bl) fun b h=>h.elim
 refine⟨s1,w3,hr3,k3,?_⟩
 have hl1:r1.ay=L.length+1:=by rw[hr.fg.ay,zx]
 have E3:=E1.trans X3
 refine⟨fun t H w'=>∃j:Nat,t=(j:Int)+1/\j<=L.length/\aq A w'/\ji H w' 4 1 r1 (lq (L.length+1) V)/\∃D,ji H w' 4 1 s1 (lq (L.length+1) D)/\(∀u,1<=u->u<t->(D u=ai↔iw L (jn L G) u))/\∀u,t<=u->D u=V u,fun t _=>((L.length:Int)+1-t).toNat,
  ⟨0,Sm,Nat.zero_le _,E3,⟨hr.fg.pure X3,fun b _ h=>h⟩,V,⟨R3,fun b _ h=>h⟩,fun u h1 h2=>Om,fun u _=>rfl⟩,?_⟩
 rintro _ Hl wl hl ⟨j,rfl,hj,El,Or,D,Os,Y,hD2⟩
 refine⟨fun hc=>?_,fun hc=>?_⟩
 have hc:=ij hc
 have hlt:j<L.length:=Om
 have hin:bj L ((j:Int)+1)=ai:=zG.2 ⟨Om,Om⟩
 have C:q6.wrap ((j:Int)+1+1)=((j+1:Nat):Int)+1:=by rw[IntWalk.i64_in _ Om];omega
 have hmu:∀y:Int,y=((j+1:Nat):Int)+1->((L.length:Int)+1-y).toNat<((L.length:Int)+1-((j:Int)+1)).toNat:=fun y e=>Om
 generalize ht:(j:Int)+1=t at *
 have hVt:=hV t hin
 have hDt:=hD2 t<|Int.le_refl _
 have t1:1<=t:=Om
 have tL:t<=L.length:=Om
 have⟨sg,h8,hF⟩:=h
 have h8':qi A x q G F:=⟨sg,h8,hF⟩
 refine⟨x,rfl,_,(h8.box.pure El).dj,?_⟩
 refine(tH q t wl (hP.pure El) hW.ok).mono ?_
 rintro _ w4 ⟨z,nf,nt,nu,nx,W,nb,ok,rfl,⟨hn,_⟩,E4⟩
 refine⟨_,_,_,_,_,_,_,_,rfl,E4.dy,?_⟩
 have m:(ar L t).ba=z:=Uc
 have hfr:(ar L t).cj=nf:=Uc
 have hto:(ar L t).to=nt:=Uc
 have ha:(ar L t).a=W:=Uc
 have hb:(ar L t).b=nb:=Uc
 have Q:=El.trans E4
 have hs4:=hl.jg E4.dy
 have J:=Or.pure E4
 have B:=Os.pure E4
 have⟨a0,l,_,_⟩:=xh B.fg (t:=t) Om Om
 have rd:∀{H:NP} {w:af} (y:Int),ji H w 4 1 s1 (lq (L.length+1) D)->0<=y->y<=L.length->∃a,At s1 y 1 a/\w.cell? a=ab (vb<|D y):=fun y O h0 hy=>by
  have⟨a,q1,_,q2⟩:=xh O.fg (t:=y) h0 Om;exact⟨a,q1,q2⟩
 have rd0:∀{H:NP} {w:af},ji H w 4 1 s1 (lq (L.length+1) D)->w.cell? a0=ab (vb<|D t):=fun O=>by
  have⟨a,q1,q2⟩:=rd t O Om tL;rw[LC l q1];exact q2
 have put : ∀ {H : NP} {w : af} (b : Bool), aq A w -> ji H w 4 1 r1 (lq (L.length + 1) V) -> ji H w 4 1 s1 (lq (L.length + 1) D) -> (b = ai ↔ iw L (jn L G) t) -> zJ w a0 /\ ¬ H a0.block /\ ∀w', w' = w.setCell a0 (vb b) ->
   (∃j:Nat,q6.wrap (t+1)=(j:Int)+1/\j<=L.length/\aq A w'/\ji H w' 4 1 r1 (lq (L.length+1) V)/\∃D,ji H w' 4 1 s1 (lq (L.length+1) D)/\(∀u,1<=u->u<q6.wrap (t+1)->(D u=ai↔iw L (jn L G) u))/\∀u,q6.wrap (t+1)<=u->D u=V u)/\((L.length:Int)+1-q6.wrap (t+1)).toNat<((L.length:Int)+1-t).toNat:=by
  intro H w b E Or Os hb
  have⟨a,q1,hblk,cw,hput⟩:=BU Os.fg (t:=t) Om Om
  have:=LC q1 l
  subst this
  refine⟨cw,Os.lf _ hblk,?_⟩
  rintro _ rfl
  have⟨R',X'⟩:=hput b
  have hdis:∀c,r1.bg c->¬s1.bg c:=fun c hc hs=>by
   have:=hr.fg.lt hc;have:=o3 c hs;omega
  refine⟨⟨j+1,C,hlt,E.ft X' fun i hi hb=>Oi (o3 i hb) E1.size,⟨Or.fg.ext X' hdis,Or.lf⟩,_,⟨R',Os.lf⟩,fun u h1 h2=>?_,fun u hu=>?_⟩,hmu _ C⟩
  rw[C]at h2
  simp only[jf]
  split
  rename_i e;rw[e];exact hb
  exact Y u h1 Om
  rw[C]at hu
  simp only[jf]
  rw[aw Om]
  exact hD2 u Om
 have I:∀k,bj L k=ai->k<t->(D k=ai↔iw L (jn L G) k):=fun k hk hlt=>Y k (zG.1 hk).1 hlt
 rintro y1 rfl
 have hy:(cond ((z:Int)==1) ((z:Int)==1)<|cond ((z:Int)==2) ((z:Int)==2)<|(z:Int)==3)=tw z:=by
  unfold tw;cases(z==1)<;>cases(z==2)<;>simp
 rw[hy]
 have p:D t=ai->iw L (jn L G) t:=fun h=>.bM<|hVt.1<|hDt▸h
 have s:D t=ak->¬jn L G t:=fun h hs=>Uc
 refine⟨fun hf=>?_,fun hf=>⟨fun U=>?_,fun U=>⟨fun k5=>?_,fun k5=>?_⟩⟩⟩
 refine⟨a0,l,?_⟩
 intro H2 w7 o
 exact put ai (Q.bh o) (J.bh o) (B.bh o) ⟨fun _=>.free Uc,fun _=>rfl⟩
 have U:z=4:=by simpa using U
 have d:=ud hW hin Uc
 rw[ha,hb]at d
 have na1:=zG.1 d.1.1
 have nb1:=zG.1 d.2.1
 have S:=I W d.1.1 d.1.2
 have hdb:=I nb d.2.1 d.2.2
 have pT:D t=ak->(iw L (jn L G) t↔iw L (jn L G) W/\iw L (jn L G) nb):=fun R=>by
  constructor;intro hd;rcases hd.pT with h|h|⟨_,h1,h2⟩|⟨h,_⟩|⟨h,_⟩;exact absurd h<|s R;rw[m,hf]at h;cases h;rw[ha]at h1;rw[hb]at h2;exact⟨h1,h2⟩;rw[m,U]at h;cases h;rw[m,U]at h;cases h;intro h;exact .ru Uc Uc Uc
 refine⟨a0,l,?_⟩
 intro H2 w7 o
 have E7:=Q.bh o
 have M:=J.bh o
 have n:=B.bh o
 refine⟨_,rd0 n,fun N=>⟨a0,l,put ai E7 M n ⟨fun _=>p N,fun _=>rfl⟩⟩,fun N=>?_⟩
 have⟨a5,at5,c5⟩:=rd W n Om Om
 refine⟨a5,at5,_,c5,fun T=>?_,fun T=>⟨a0,l,put ak E7 M n ?_⟩⟩
 have⟨a6,at6,c6⟩:=rd nb n Om Om
 refine⟨a6,at6,_,c6,a0,l,put _ E7 M n ?_⟩
 rw[pT N,hdb];exact⟨fun h=>⟨S.1 T,h⟩,fun h=>h.2⟩
 rw[pT N];exact⟨(fun h=>Uc),fun h=>Uc⟩
 have U:¬z=4:=by simpa using U
 have k5:z=5:=Uc
 have d:=I0 hW hin Uc
 rw[ha]at d
 have na1:=zG.1 d.1
 have S:=I W d.1 d.2
 refine⟨a0,l,?_⟩
 intro H2 w7 o
 have E7:=Q.bh o
 have M:=J.bh o
 have n:=B.bh o
 refine⟨_,rd0 n,fun N=>⟨a0,l,put ai E7 M n ⟨fun _=>p N,fun _=>rfl⟩⟩,fun N=>?_⟩
 have⟨a6,at6,c6⟩:=rd W n Om Om
 refine⟨a6,at6,_,c6,a0,l,put _ E7 M n ?_⟩
 rw[S]
 constructor
 intro h;exact .ue Uc Uc
 intro hd
 rcases hd.pT with h|h|⟨h,_⟩|⟨_,h⟩|⟨h,_⟩
 exact absurd h<|s N
 rw[m,hf]at h;cases h
 rw[m,k5]at h;cases h
 rw[ha]at h;exact h
 rw[m,k5]at h;cases h
 have U:¬z=4:=by simpa using U
 have k5:¬z=5:=Uc
 have sgn : ∀(bb:Int)H w, qH z = ai -> bb = tO (ar L t) -> au A H w H w -> aq A w -> ji H w 4 1 r1 (lq (L.length + 1) V) -> ji H w 4 1 s1 (lq (L.length + 1) D) ->
   ∃ v7 : Bool, w.cell? a0 = ab (vb v7) /\ Br v7 (∃a14, At s1 t 1 a14 /\ zJ w a14 /\ ¬ H a14.block /\ ∀w15, w15 = w.setCell a14 (vb ai) ->
     (∃j:Nat,q6.wrap (t+1)=(j:Int)+1/\j<=L.length/\aq A w15/\ji H w15 4 1 r1 (lq (L.length+1) V)/\∃D,ji H w15 4 1 s1 (lq (L.length+1) D)/\(∀u,1<=u->u<q6.wrap (t+1)->(D u=ai↔iw L (jn L G) u))/\∀u,q6.wrap (t+1)<=u->D u=V u)/\((L.length:Int)+1-q6.wrap (t+1)).toNat<((L.length:Int)+1-t).toNat)
    (∃a15,At s1 W 1 a15/\∃v8:Bool,w.cell? a15=ab (vb v8)/\Br v8
     (cl 212 #[vp<|ab x,r1.v,vi bb] w (XC fun r3 w16=>av H w w16/\∃a16,At s1 t 1 a16/\zJ w16 a16/\¬H a16.block/\∀w17,w17=w16.setCell a16 (vb r3) ->
      (∃j:Nat,q6.wrap (t+1)=(j:Int)+1/\j<=L.length/\aq A w17/\ji H w17 4 1 r1 (lq (L.length+1) V)/\∃D,ji H w17 4 1 s1 (lq (L.length+1) D)/\(∀u,1<=u->u<q6.wrap (t+1)->(D u=ai↔iw L (jn L G) u))/\∀u,q6.wrap (t+1)<=u->D u=V u)/\((L.length:Int)+1-q6.wrap (t+1)).toNat<((L.length:Int)+1-t).toNat))
     (∃a17,At s1 t 1 a17/\zJ w a17/\¬H a17.block/\∀Z,Z=w.setCell a17 (vb ak) ->
      (∃j:Nat,q6.wrap (t+1)=(j:Int)+1/\j<=L.length/\aq A Z/\ji H Z 4 1 r1 (lq (L.length+1) V)/\∃D,ji H Z 4 1 s1 (lq (L.length+1) D)/\(∀u,1<=u->u<q6.wrap (t+1)->(D u=ai↔iw L (jn L G) u))/\∀u,q6.wrap (t+1)<=u->D u=V u)/\((L.length:Int)+1-q6.wrap (t+1)).toNat<((L.length:Int)+1-t).toNat)):=by
  rintro _ H w h7 rfl hs E Or Os
  have⟨x4,x5,_,xf⟩:=LO h7
  have d:=xo hW hin Uc
  rw[ha]at d
  have na1:=zG.1 d.1
  have S:=I W d.1 d.2
  have pT:D t=ak->(iw L (jn L G) t↔iw L (jn L G) W/\(xL L<|tO<|ar L t).2=ai/\jn L G (xL L<|tO<|ar L t).1):=fun R=>by
   constructor;intro hd;rcases hd.pT with h|h|⟨h,_⟩|⟨h,_⟩|⟨_,h1,h2,h3⟩;exact absurd h<|s R;rw[m,xf]at h;cases h;rw[m]at h;exact absurd h x4;rw[m]at h;exact absurd h x5;rw[ha]at h1;exact⟨h1,h2,h3⟩;rintro⟨h1,h2,h3⟩;exact .signed Uc Uc h2 h3
  refine⟨_,rd0 Os,fun N=>⟨a0,l,put ai E Or Os ⟨fun _=>p N,fun _=>rfl⟩⟩,fun N=>?_⟩
  have⟨a5,at5,c5⟩:=rd W Os Om Om
  refine⟨a5,at5,_,c5,fun T=>?_,fun T=>⟨a0,l,put ak E Or Os ?_⟩⟩
  refine(zDU x q _ r1 w (h8'.pure E) (hP.pure E) hW.ok Or.fg).mono ?_
  rintro _ w16 ⟨r3,rfl,rfl,X⟩
  refine⟨_,rfl,X.dy,a0,l,put _ (E.trans X) (Or.pure X) (Os.pure X) ?_⟩
  rw[pT N,Bool.and_eq_true]
  constructor
  rintro⟨g1,g2⟩;exact⟨S.1 T,g1,(hV _ (DB g1).1).1 g2⟩
  rintro⟨_,g1,g2⟩;exact⟨g1,(hV _ (DB g1).1).2 g2⟩
  rw[pT N];exact⟨(fun h=>Uc),fun h=>Uc⟩
 refine⟨fun k7=>?_,fun k7=>⟨fun k9=>?_,fun k9=>?_⟩⟩
 have h7:=Yh k7
 have h9:¬z=9:=fun e=>Uc
 refine⟨a0,l,?_⟩
 intro H3 w14 f
 exact sgn nf H3 w14 h7 (by unfold tO;rw[m,aw h9,hfr]) f.jj (Q.bh f) (J.bh f)<|B.bh f
 have k9:z=9:=by simpa using k9
 refine⟨a0,l,?_⟩
 intro H3 w14 f
 exact sgn nt H3 w14 (by rw[k9];rfl) (by unfold tO;rw[m,bt k9,hto]) f.jj (Q.bh f) (J.bh f) (B.bh f)
 intro H3 w14 f
 have h7:=VT k7 k9
 have R:D t=ai↔iw L (jn L G) t:=by
  refine⟨p,fun hd=>?_⟩;rcases hd.pT with h|h|⟨h,_⟩|⟨h,_⟩|⟨h,_⟩;rw[hDt];exact hVt.2 h;rw[m,hf]at h;cases h;rw[m]at h;exact absurd h U;rw[m]at h;exact absurd h k5;rw[m,h7]at h;cases h
 refine⟨⟨j+1,C,hlt,Q.bh f,J.bh f,D,B.bh f,fun u h1 h2=>?_,fun u hu=>hD2 u Uc⟩,hmu _ C⟩
 rw[C]at h2
 by_cases e:u=t
 rw[e];exact R
 exact Y u h1 Om
 have hc:=il hc
 refine hK s1 wl D ⟨Os.fg,fun b hb=>Oi (o3 b hb) E1.size,El⟩ fun t ht=>Y t (zG.1 ht).1<|Oh<|(zG.1 ht).2
def Qw(x q:ao)(n:af){L:bw}{G:List Int}{F U:NP}(h:qi n x q G F)(R:vJ n q L U)(C:Wf L)(O:∀g∈G,bj L g=ai)(u:G.length<=100000):
  cl 94 #[vp<|ab x] n<|XA fun r w'=>∃l,jd n 73 1 (fv l) r w'/\(∀y,y∈l↔bj L y=ai/\jn L G y)/\l.Pairwise (·<·):=by
 refine jbn _ n _ ?_
 have p:∀b,¬Sl.nil.bg b:=fun b f=>by have⟨a,h,_⟩:=f;cases h
 have Z:=C.ok.jl
 refine(N1 x q n h R C O u).mono ?_
 rintro _ H ⟨r1,rfl,V,s,Q⟩
 refine⟨_,rfl,?_⟩
 have lr:r1.ay=L.length+1:=by rw[s.fg.ay,zx]
 refine⟨fun l t w'=>∃(j:Nat) (ls:List Int),t=(j:Int)+1/\j<=L.length/\aq H w'/\c9 w' 73 1 l (fv ls)/\(∀b,l.bg b->H.heap.size<=b)/\(∀y,y∈ls↔(1<=y/\y<=j)/\V y=ai)/\ls.Pairwise (·<·)/\ls.length<=j,fun _ t _=>((L.length:Int)+1-t).toNat,
  ⟨0,[],Om,Nat.zero_le _,aj.refl _,c9.nil _ _ _,fun b f=>(p b f).elim,fun y=>⟨fun h=>Uc,fun h=>Om⟩,List.Pairwise.nil,Nat.le_refl _⟩,?_⟩
 rintro l _ wl ⟨j,ls,rfl,hj,E,A,m,z,k,I⟩
 unfold PS
 rw[lr]
 refine⟨fun o=>?_,fun o=>?_⟩
 have o:=ij o
 have d:j<L.length:=Om
 have D:q6.wrap ((j:Int)+1+1)=((j+1:Nat):Int)+1:=by rw[IntWalk.i64_in _ Om];omega
 have⟨a,B,_,K⟩:=xh (s.fg.pure E) (t:=(j:Int)+1) Om Om
 refine⟨a,B,_,K,fun ht=>?_,fun J=>?_⟩
 intro Y M h2
 have w:aq wl M:=aj.bu h2
 have⟨s1,S,v,N,X,W⟩:=(A.pure w).append (P:=prog) (ty:=46) (c:=1) ux (r:=[vi<|(j:Int)+1]) (az.fi h2).row rfl rfl (by rw[zV];omega) (by rw[zV];simp[maxLen];omega)
 refine⟨s1,S,v,?_⟩
 rw[D]
 refine⟨⟨j+1,ls++[(j:Int)+1],rfl,d,(E.trans w).ft X fun i hi f=>Uc,by rw[show fv (ls++[(j:Int)+1])=fv ls++[[vi<|(j:Int)+1]] by simp[fv]];exact N,fun b f=>(W b f).elim (m b) fun h=>Oh<|(E.trans w).size,fun y=>?_,?_,So⟩,Uc⟩
 rw[mem_append,z,mem_singleton]
 constructor
 rintro(⟨h1,h2⟩|rfl)
 exact⟨Om,h2⟩
 exact⟨Om,ht⟩
 rintro⟨h1,h2⟩
 by_cases e:y=(j:Int)+1
 exact .inr e
 exact .inl ⟨Om,h2⟩
 rw[pairwise_append]
 exact⟨k,Sm,fun a ha b f=>Uc⟩
 rw[D]
 refine⟨⟨j+1,ls,rfl,d,E,A,m,fun y=>?_,k,Om⟩,Uc⟩
 rw[z]
 constructor
 rintro⟨h1,h2⟩;exact⟨Om,h2⟩
 rintro⟨h1,h2⟩
 by_cases e:y=(j:Int)+1
 subst e;rw[h2]at J;cases J
 exact⟨Om,h2⟩
 have o:=il o
 have d:j=L.length:=Om
 subst d
 refine⟨ls,⟨A,fun b f=>Oi (m b f) s.pure.size,s.pure.trans E⟩,fun y=>?_,k⟩
 rw[z,<-zG]
 exact and_congr_right fun T=>Q y T
section
variable {H:Type} {enc:dz×bk->H} {P:ez} {W:af} {ie:Nat} {sp:Nat->Bool} {held:Bool}
theorem jYH{t}(ht:P.underlying t=ab .bool){n c}{x:DataW H×List MemPlace}(h:DataW.trod enc P W ie sp held n t [c]=ab x):∃m,c=vb m:=by
 cases n with
 |zero=>cases h
 |succ n =>
  rw[DataW.trod_step]at h
  unfold DataW.trodStep at h
  rw[ht]at h
  cases c<;>simp at h
  exact⟨_,rfl⟩
end
set_option maxRecDepth 100000 in
theorem Zb{H:Type}{enc:dz×bk->H}{W:af}{ie:Nat}{sp:Nat->Bool}{held:Bool}{n:Nat}{cs:List bk}{x:DataW H×List MemPlace}(h:DataW.trod enc prog W ie sp held n 25 cs=ab x):∃bb c:Int,∃y,cs=[vi bb,vu c,vs y]/\yA c:=by
 have⟨m,d,a⟩:=jTR underlying25 h;rw[show(prog.cellsOf 25)=3 by kernel_rfl]at d;match cs,d with
 |[l,k,j],_ =>
  have⟨_,b⟩:=a 0 _ rfl
  have⟨_,h1⟩:=a 1 _ rfl
  have⟨_,h2⟩:=a 2 _ rfl
  simp only[show(prog.cellsOf 3)=1 by kernel_rfl,show(prog.cellsOf 23)=1 by kernel_rfl,show(prog.cellsOf 9)=1 by kernel_rfl]at b h1 h2
  obtain⟨e,rfl⟩:=yY underlying3 b
  obtain⟨f,rfl,i⟩:=EY underlying23 h1
  obtain⟨g,rfl⟩:=MM underlying9 h2
  exact⟨e,f,g,rfl,i⟩
structure Kl{H:Type}(B:DataW H->Nat):Prop where
 str:∀l,l.length<=B (.lit<|.string l)
 agg:∀{ps d},d∈ps->B d<=B (.agg ps)
 elem:∀{es sp d},d∈es->B d<=B (.slice es sp)
 ay:∀es sp,es.length<=B (.slice es sp)
section
variable {H:Type} {enc:dz×bk->H} {P:ez} {W:af} {ie:Nat} {sp:Nat->Bool} {held:Bool} {B:DataW H->Nat} (hB:Kl B) {N:Nat}
include hB
theorem Iy{t}(ht:P.underlying t=ab .string){n c}{x:DataW H×List MemPlace}(h:DataW.trod enc P W ie sp held n t [c]=ab x)(hx:B x.1<=N):∃m,c=.string m/\m.size<=N:=by
 cases n with
 |zero=>cases h
 |succ n =>
  rw[DataW.trod_step]at h
  unfold DataW.trodStep at h
  rw[ht]at h
  cases c<;>simp at h
  rename_i m
  obtain⟨_,rfl⟩:=h
  have:=hB.str m.data.toList
  exact⟨m,rfl,by simp at this;simp only at hx;omega⟩
theorem Hq{t}{a:Array Field}(ht:P.underlying t=ab (.struct a)){n cs}{x:DataW H×List MemPlace}(h:DataW.trod enc P W ie sp held n t cs=ab x)(hx:B x.1<=N):
  ∃m,cs.length=P.cellsOf t/\∀(i:Nat) (f:Field),a.toList[i]?=ab f->∃y,DataW.trod enc P W ie sp held m f.type ((cs.drop f.offset).take<|P.cellsOf f.type)=ab y/\B y.1<=N:=by
 cases n with
 |zero=>cases h
 |succ n =>
  rw[DataW.trod_step]at h
  unfold DataW.trodStep at h
  rw[ht]at h
  simp only at h
  split at h
  rename_i j
  cases c:a.toList.mapM (fun f=>DataW.trod enc P W ie sp held n f.type<|(cs.drop f.offset).take<|P.cellsOf f.type)with
  |none=>rw[c]at h;cases h
  |some r =>
   rw[c]at h
   cases h
   refine⟨n,j,fun i f g=>?_⟩
   have⟨b,e,d⟩:=(xV c).2 i f g
   exact⟨b,e,Nat.le_trans (hB.agg<|mem_map.2 ⟨b,mem_of_getElem? d,rfl⟩) hx⟩
  cases h
theorem jTP{t e}(ht:P.underlying t=ab (.slice e)){n c}{x:DataW H×List MemPlace}(h:DataW.trod enc P W ie sp held (n+1) t [c]=ab x)(hx:B x.1<=N):
  c=.slice bo 0 0\/∃a ay cap,c=.slice (ab a) ay cap/\ay<=cap/\ay<=N/\∀i,i<ay->∃cs y,W.cells? ie (a.add<|i*P.cellsOf e) (P.cellsOf e)=ab cs/\DataW.trod enc P W ie sp held n e cs=ab y/\B y.1<=N:=by
 rw[DataW.trod_step]at h
 unfold DataW.trodStep at h
 rw[ht]at h
 cases c with
 |slice a ay cap =>
  cases a with
  |none =>
   cases ay with
   |zero=>cases cap with
    |zero=>exact .inl rfl
    |succ c=>simp at h
   |succ l=>simp at h
  |some a =>
   right
   simp only at h
   split at h
   rename_i f
   cases d:(range ay).mapM fun i=>(W.cells? ie (a.add<|i*P.cellsOf e)<|P.cellsOf e).bind (DataW.trod enc P W ie sp held n e)with
   |none=>rw[d]at h;cases h
   |some r =>
    rw[d]at h
    obtain⟨q,_,rfl⟩:=Option.map_eq_some_iff.1 h
    have k:=(xV d).1
    simp at k
    have h1:=hB.ay (r.map (·.1))<|q.map (·.1)
    rw[length_map]at h1
    refine⟨a,ay,cap,rfl,f.2.1,by simp only at hx;omega,fun i hi=>?_⟩
    have⟨b,j,g⟩:=(xV d).2 i i (by simp[hi])
    have⟨cs,h1,h2⟩:=Option.bind_eq_some_iff.1 j
    exact⟨cs,b,h1,h2,Nat.le_trans (hB.elem<|mem_map.2 ⟨b,mem_of_getElem? g,rfl⟩) hx⟩
   cases h
 |_=>simp at h
theorem Q6{α:Type}{tS e sz}{f:α->List bk}(hS:P.underlying tS=ab (.slice e))(m:P.cellsOf e=sz)(r:∀a,∃v vs,f a=v :: vs)(t:α)(k:∀(n:Nat) (cs:List bk) (x:DataW H×List MemPlace),DataW.trod enc P W ie sp held n e cs=ab x->B x.1<=N->∃a,cs=f a){n c}{x:DataW H×List MemPlace}(h:DataW.trod enc P W ie sp held n tS [c]=ab x)(hx:B x.1<=N):
  ∃s,∃xs:List α,c=s.v/\gr (fun b=>b<W.heap.size) W sz s (xs.map f)/\xs.length<=N:=by
 cases n with
 |zero=>cases h
 |succ n =>
  rcases jTP hB hS h hx with rfl|⟨a,ay,cap,rfl,p,l,d⟩
  exact⟨Sl.nil,[],rfl,⟨rfl,fun i hi=>by simp at hi⟩,Nat.zero_le _⟩
  rw[m]at d
  have j:∀i,∃q:α,i<ay->Row W (a.add<|i*sz) (f q):=by
   intro i;by_cases hi:i<ay;have⟨cs,y,h1,h2,h3⟩:=d i hi;obtain⟨q,rfl⟩:=k n cs y h2 h3;exact⟨q,fun _=>(Mr h1).2⟩;exact⟨t,fun h=>absurd h hi⟩
  have⟨q,o⟩:=Classical.axiomOfChoice j
  refine⟨⟨ab a,ay,cap⟩,(range ay).map q,rfl,⟨Sm,fun i hi=>?_⟩,by simpa using l⟩
  have hi:i<ay:=by simpa using hi
  have g:=o i hi
  have⟨v,vs,e⟩:=r<|q i
  refine⟨a.add<|i*sz,⟨Om,by simpa using hi,a,rfl,Sm⟩,?_,by simpa using g⟩
  rw[e]at g;exact jcE g
end
section
variable {H:Type} {enc:dz×bk->H} {W:af} {ie:Nat} {sp:Nat->Bool} {held:Bool} {B:DataW H->Nat} (hB:Kl B) {N:Nat}
include hB
set_option maxRecDepth 100000 in
theorem ZY{n:Nat}{cs:List bk}{x:DataW H×List MemPlace}(h:DataW.trod enc prog W ie sp held n 88 cs=ab x)(hx:B x.1<=N):∃o,cs=rS o/\yA o.num/\o.cf.size<=N:=by
 have⟨m,d,a⟩:=Hq hB underlying88 h hx;rw[show(prog.cellsOf 88)=5 by kernel_rfl]at d;match cs,d with
 |[s,r,q,p,t],_ =>
  have⟨_,c,_⟩:=a 0 _ rfl
  have⟨_,h1,_⟩:=a 1 _ rfl
  have⟨_,h2,_⟩:=a 2 _ rfl
  have⟨_,h3,_⟩:=a 3 _ rfl
  have⟨_,b,b4⟩:=a 4 _ rfl
  simp only[show(prog.cellsOf 3)=1 by kernel_rfl,show(prog.cellsOf 23)=1 by kernel_rfl,show(prog.cellsOf 9)=1 by kernel_rfl]at c h1 h2 h3 b
  obtain⟨e,rfl⟩:=yY underlying3 c
  obtain⟨j,rfl⟩:=yY underlying3 h1
  obtain⟨k,rfl⟩:=yY underlying3 h2
  obtain⟨f,rfl,l⟩:=EY underlying23 h3
  obtain⟨i,rfl,g⟩:=Iy hB underlying9 b b4
  exact⟨⟨e,j,k,f,i⟩,rfl,l,g⟩
set_option maxRecDepth 100000 in
theorem WO{n:Nat}{c:bk}{x:DataW H×List MemPlace}(h:DataW.trod enc prog W ie sp held n 36 [c]=ab x)(hx:B x.1<=N):∃s,∃l:List Op,c=s.v/\gr (fun b=>b<W.heap.size) W 5 s (l.map rS)/\l.length<=N/\∀o∈l,yA o.num/\o.cf.size<=N:=by
 have⟨s,xs,e,d,j⟩:=Q6 (α:={o:Op // yA o.num/\o.cf.size<=N}) (sz:=5) (f:=fun o=>rS o.1) hB underlying36 Kf (fun a=>⟨_,_,rfl⟩) ⟨⟨0,0,0,0,⟨#[]⟩⟩,⟨De,De⟩,Nat.zero_le _⟩ (fun _ _ _ h hx=>by
  have⟨o,e,g⟩:=ZY hB h hx;exact⟨⟨o,g⟩,e⟩) h hx
 refine⟨s,xs.map Subtype.val,e,by rw[map_map];exact d,by simpa using j,fun m i=>?_⟩;obtain⟨y,_,rfl⟩:=mem_map.1 i;exact y.2
set_option maxRecDepth 100000 in
theorem jKP{n:Nat}{cs:List bk}{x:DataW H×List MemPlace}(h:DataW.trod enc prog W ie sp held n 35 cs=ab x)(hx:B x.1<=N):∃l,cs=xW l/\yA l.c/\l.cf.size<=N:=by
 have⟨m,e,a⟩:=Hq hB underlying35 h hx;rw[show(prog.cellsOf 35)=5 by kernel_rfl]at e;match cs,e with
 |[t,s,r,q,u],_ =>
  have⟨_,d,_⟩:=a 0 _ rfl
  have⟨_,h1,_⟩:=a 1 _ rfl
  have⟨_,h2,_⟩:=a 2 _ rfl
  have⟨_,h3,b3⟩:=a 3 _ rfl
  have⟨_,b,_⟩:=a 4 _ rfl
  simp only[show(prog.cellsOf 3)=1 by kernel_rfl,show(prog.cellsOf 23)=1 by kernel_rfl,show(prog.cellsOf 9)=1 by kernel_rfl,show(prog.cellsOf 4)=1 by kernel_rfl]at d h1 h2 h3 b
  obtain⟨f,rfl⟩:=yY underlying3 d
  obtain⟨k,rfl⟩:=yY underlying3 h1
  obtain⟨o,rfl,p⟩:=EY underlying23 h2
  obtain⟨g,rfl,i⟩:=Iy hB underlying9 h3 b3
  obtain⟨j,rfl⟩:=jYH underlying4 b
  exact⟨⟨f,k,o,g,j⟩,rfl,p,i⟩
set_option maxRecDepth 100000 in
theorem UG(e:N<=1048576){n:Nat}{cs:List bk}{x:DataW H×List MemPlace}(h:DataW.trod enc prog W ie sp held n 38 cs=ab x)(hx:B x.1<=N):∃a,cs=tQ a/\we (fun b=>b<W.heap.size) W a:=by
 have⟨m,d,c⟩:=Hq hB underlying38 h hx;rw[show(prog.cellsOf 38)=9 by kernel_rfl]at d;match cs,d with
 |[F,E,w,v,z,D,y,C,A],_ =>
  have⟨_,k,_⟩:=c 0 _ rfl
  have⟨_,h1,b1⟩:=c 1 _ rfl
  have⟨_,h2,b2⟩:=c 2 _ rfl
  have⟨_,h3,_⟩:=c 3 _ rfl
  have⟨_,j,b4⟩:=c 4 _ rfl
  simp only[show(prog.cellsOf 3)=1 by kernel_rfl,show(prog.cellsOf 9)=1 by kernel_rfl,show(prog.cellsOf 35)=5 by kernel_rfl,show(prog.cellsOf 36)=1 by kernel_rfl]at k h1 h2 h3 j
  obtain⟨s,rfl⟩:=yY underlying3 k
  obtain⟨t,rfl,r⟩:=Iy hB underlying9 h1 b1
  have⟨l,d,f,i⟩:=jKP hB h2 b2
  obtain⟨q,rfl⟩:=yY underlying3 h3
  obtain⟨so,ax,rfl,u,g,p⟩:=WO hB j b4
  simp only[xW,drop,take,List.cons.injEq,and_true]at d
  obtain⟨rfl,rfl,rfl,rfl,rfl⟩:=d
  exact⟨⟨s,t,l,q,so,ax⟩,rfl,f,fun o h=>(p o h).1,u,Nat.le_trans r e,Nat.le_trans i e,Nat.le_trans g e,fun o h=>Nat.le_trans (p o h).2 e⟩
set_option maxRecDepth 100000 in
theorem Te(k:N<=1048576){n:Nat}{c:bk}{x:DataW H×List MemPlace}(h:DataW.trod enc prog W ie sp held n 22 [c]=ab x)(hx:B x.1<=N):∃s,∃l:List Act,c=s.v/\gr (fun b=>b<W.heap.size) W 9 s (l.map tQ)/\∀a∈l,we (fun b=>b<W.heap.size) W a:=by
 have⟨s,xs,e,d,_⟩:=Q6 (α:={a:Act // we (fun b=>b<W.heap.size) W a}) (sz:=9) (f:=fun a=>tQ a.1) hB underlying22 Kf (fun a=>⟨_,_,rfl⟩) ⟨⟨0,⟨#[]⟩,⟨0,0,0,⟨#[]⟩,ak⟩,0,Sl.nil,[]⟩,⟨De,De⟩,Sm,⟨rfl,fun i hi=>by simp at hi⟩,Nat.zero_le _,Nat.zero_le _,Nat.zero_le _,Sm⟩ (fun _ _ _ h hx=>by
  have⟨a,e,g⟩:=UG hB k h hx;exact⟨⟨a,g⟩,e⟩) h hx
 refine⟨s,xs.map Subtype.val,e,by rw[map_map];exact d,fun m j=>?_⟩;obtain⟨y,_,rfl⟩:=mem_map.1 j;exact y.2
end
end Go.Proofs
end
section
open Go Go.SE List
namespace Go.SE
def c9.ff{w w' X e sz s rs}(h:c9 w e sz s rs)(f:av X w w')(d:∀b,s.bg b->X b):c9 w' e sz s rs:=by
 refine⟨h.pP,h.ay,?_⟩;rcases h.bf with i|⟨g,ga,c,a,r⟩;exact .inl i;exact .inr ⟨g,ga,c,by rw[f.ly g (uM a)<|d g ⟨_,c,rfl⟩];exact a,r⟩
end Go.SE
namespace Go.Proofs
def Uj{L}(c:Wf L){t}(ht:bj L t=true)(n)(st:(Int->Bool)×List Int):(zB<|ar L t).foldl (fun st k=>yR L n k st) st=yR L n (ar L t).b (yR L n (ar L t).a st):=by
 have z:∀st,yR L n 0 st=st:=fun st=>by
  cases n with
  |zero=>rfl
  |succ n=>rw[yR,if_neg<|by simp[bj]]
 have h1:=(c.dr ht).2.1;have h2:=(c.dr ht).2.2.1;unfold zB;rcases qW (ar L t).ba with e|e|e;rw[e,h1 Om,h2 Om,z,z];rfl;rw[e,h2 Om,z];rfl;rw[e];rfl
end Go.Proofs
namespace Go.Proofs
open Tryz
attribute [local irreducible] Calls
def za(M:List Int):List (Int×Unit):=M.map fun t=>(t,())
def zFE(M):(za M).map Prod.fst=M:=by simp[za,Function.comp_def]
def GW(_:Unit):Value:=vi 1
structure wP(w:World)(p c1 c2 c3 c4:Addr)(m:Nat)(so:Sl)(L:bw)(FP:NP)(st:(Int->Bool)×List Int):Prop where
 b1:az w c1 [.map<|some m] 231
 b2:az w c2 [vp<|some p] 91
 b3:az w c3 [.func (.func 267) #[] #[vp<|some c1,vp<|some c2,vp<|some c3,vp<|some c4]] 192
 b4:az w c4 [so.v] 46
 mp:∃M,jm GW w m (za M)/\∀x,st.1 x=decide (x∈M)
 od:c9 w 73 1 so (fv st.2)
 ew:zH w p L FP
 n4:c4.block≠c1.block/\c4.block≠c2.block/\c4.block≠c3.block/\c4.block≠m
 nm:m≠c1.block/\m≠c2.block/\m≠c3.block
 ns:∀b,so.bg b->b≠c1.block/\b≠c2.block/\b≠c3.block/\b≠c4.block/\b≠m
 nf:∀b,FP b->b≠c4.block/\b≠m/\¬so.bg b
def Fa(c4:Addr)(m:Nat)(so:Sl)(b:Nat):Prop:=b=c4.block\/b=m\/so.bg b
section
variable {w w':World} {p c1 c2 c3 c4:Addr} {m:Nat} {so:Sl} {L:bw} {FP:NP} {st:(Int->Bool)×List Int}
def wP.pure(h:wP w p c1 c2 c3 c4 m so L FP st)(E:aq w w'):wP w' p c1 c2 c3 c4 m so L FP st:=
 ⟨h.b1.pure E,h.b2.pure E,h.b3.pure E,h.b4.pure E,let ⟨M,h1,h2⟩:=h.mp;⟨M,h1.pure E,h2⟩,h.od.pure E,h.ew.pure E,h.n4,h.nm,h.ns,h.nf⟩
end
def jcT(p c1 c2 c3 c4:Addr)(m:Nat){L:bw}{FP:NP}(O:Wf L):∀(n:Nat) (t:Int) (q:World) (st:(Int->Bool)×List Int) (so:Sl),t.toNat<n->bj L t=true->wP q p c1 c2 c3 c4 m so L FP st->vy L st->(∀y,st.1 y=true->y<=t->y∈st.2) ->
  cl 267 #[vi t,vp (some c1),vp (some c2),vp (some c3),vp (some c4)] q (XG fun w'=>∃l,wP w' p c1 c2 c3 c4 m l L FP (yR L n t st)/\aj (Fa c4 m so) q w'/\∀b,l.bg b->so.bg b\/q.heap.size<=b):=by
 intro n
 induction n with
 |zero=>intro t q st so h;omega
 |succ n ih =>
 intro t q st so hn H h bh hm
 have hR:=wu O (n+1) t st hn bh hm
 suffices key:∀K:WP,(∀l w',wP w' p c1 c2 c3 c4 m l L FP (yR L (n+1) t st)->aj (Fa c4 m so) q w'->(∀b,l.bg b->so.bg b\/q.heap.size<=b)->K w')->KV t c1 c2 c3 c4 q K from
  jdg _ _ _ _ _ q _ (key _ Gd)
 intro K Q
 unfold KV
 have⟨M,hM,hV⟩:=h.mp
 have hz:∀w,(zeroValue 3).run prog w=.ok (vi 0) w:=fun w=>zeroValue3 w
 rcases hM.get underlying231 underlying73 (hz q) t false with⟨X,hl⟩|⟨u,V,hl⟩
 have R:t∉M:=by have:=uQ.1 X;rwa [zFE]at this
 have hv:st.1 t=false:=by rw[hV];simpa using R
 rw[yR,if_pos ⟨H,hv⟩]at Q hR
 refine⟨some m,h.b1.dj,0,hl,Br.f Sm ?_⟩
 have⟨w1,hu,W,E⟩:=hM.put (f:=GW) underlying231 underlying73 X ()
 refine⟨some m,h.b1.dj,0,hl,w1,by rw[i64 Om Om];exact hu,?_⟩
 have A1:wP w1 p c1 c2 c3 c4 m so L FP (jf st.1 t true,st.2):=
  ⟨h.b1.ext E fun e=>h.nm.1 e.symm,h.b2.ext E fun e=>h.nm.2.1 e.symm,h.b3.ext E fun e=>h.nm.2.2 e.symm,h.b4.ext E h.n4.2.2.2,
  ⟨M ++ [t], by rw[show za (M ++ [t]) = za M ++ [(t, ())] by simp[za]]; exact W, fun x => by
    simp only[jf,mem_append,mem_singleton];by_cases e:x=t;simp[e];rw[if_neg e,hV];simp[e]⟩,
  h.od.ext E fun b d=>(h.ns b d).2.2.2.2,h.ew.ext E fun b d=>(h.nf b d).2.1,h.n4,h.nm,h.ns,h.nf⟩
 refine⟨some p,A1.b2.dj,?_⟩
 refine(jan p t w1 A1.ew O.ok).mono ?_
 rintro _ w2 ⟨r1,rfl,Z,E2⟩
 refine⟨_,rfl,?_⟩
 have A2:=A1.pure E2
 have o1:vy L (jf st.1 t true,st.2):=⟨fun y C=>by simp only[jf];split<;>simp[bh.AP y C],bh.wt,bh.nd,bh.kq⟩
 have D:=(O.dr H).2.2.2.2.1
 have hlen:(zB (ar L t)).length<=2:=by rw[zB];simp;omega
 generalize hks0:zB (ar L t)=ks at *
 let o:Nat->(Int->Bool)×List Int:=fun j=>(ks.take j).foldl (fun st k=>yR L n k st) (jf st.1 t true,st.2)
 have good:∀j,j<=ks.length->vy L (o j)/\∀y,(o j).1 y=true->y<t->y∈(o j).2:=by
  intro j;induction j with
  |zero =>
   intro _
   refine⟨o1,fun y C G=>?_⟩
   simp only[o,take_zero,foldl_nil,jf]at C|-
   rw[if_neg Om]at C
   exact hm y C Om
  |succ j ihj =>
   intro hj
   have⟨Y,g2⟩:=ihj Om
   have hk:=D ks[j] (getElem_mem _)
   have hk1:=(zG.1 hk.1).1
   have e:o (j+1)=yR L n ks[j] (o j):=by simp only[o];rw[take_succ_eq_append_getElem Om,foldl_append];rfl
   have r:=wu O n ks[j] (o j) Om Y Gd
   rw[e]
   refine⟨r.tovy,fun y C G=>?_⟩
   rcases r.sW y C with h1|h1
   have⟨M',e',_⟩:=r.me
   rw[e'];exact mem_append_left _ (g2 y h1 G)
   exact h1
 refine⟨fun x A=>∃(j:Nat) (l:Sl),x=j/\j<=ks.length/\wP A p c1 c2 c3 c4 m l L FP (o j)/\aj (Fa c4 m so) w2 A/\∀b,l.bg b->so.bg b\/w2.heap.size<=b,fun x _=>((ks.length:Int)-x).toNat,⟨0,so,rfl,Nat.zero_le _,A2,aj.refl _,fun b d=>.inl d⟩,?_⟩
 rintro _ w3 ⟨j,s,rfl,hj,g,S,f3⟩
 unfold K3
 have hlen1:r1.ay=ks.length:=by rw[Z.ay,zV]
 have hks3:=Z.ext S (fun b d hx=>by
  rcases hx with hx|hx|hx;have:=A1.b4.lt;omega;have:m<w1.heap.size:=W.lt;omega;have:=A1.od.lt hx;omega)
 have⟨Y,g2⟩:=good j hj
 refine⟨fun B=>?_,fun B=>?_⟩
 have B:j<ks.length:=Oh (of_decide_eq_true B)
 have⟨a,hat,_,hv⟩:=yN hks3 B
 refine⟨a,hat,_,hv,_,g.b3.dj,_,_,_,rfl,call267,?_⟩
 have hk:=D ks[j] (getElem_mem _)
 have hk1:=(zG.1 hk.1).1
 refine(ih ks[j] w3 (o j) s Om hk.1 g Y fun y C hle=>g2 y C Om).mono ?_
 rintro _ w4 ⟨rfl,so4,A4,X4,f4⟩
 refine⟨rfl,⟨j+1,so4,zI B Om,B,?_,S.ft X4 fun i hi d=>?_,fun b d=>?_⟩,?_⟩
 have e:o (j+1)=yR L n ks[j] (o j):=by simp only[o];rw[take_succ_eq_append_getElem Om,foldl_append];rfl
 rw[e];exact A4
 rcases d with d|d|d
 exact .inl d
 exact .inr (.inl d)
 exact .inr (.inr ((f3 i d).elim id fun h=>Om))
 rcases f4 b d with h1|h1
 exact f3 b h1
 have:=S.size;right;omega
 rw[zI B Om]
 show((ks.length:Int)-((j+1:Nat):Int)).toNat<((ks.length:Int)-(j:Int)).toNat
 omega
 have B:j=ks.length:=Oh (of_decide_eq_false B)
 subst B
 have es:o ks.length=yR L n (ar L t).b (yR L n (ar L t).a (jf st.1 t true,st.2)):=by
  rw[<-Uj O H,hks0];simp only[o,take_length]
 simp only at Q hR
 rw[<-es]at Q hR
 generalize o ks.length=s3 at *
 refine⟨s,g.b4.dj,?_⟩
 intro p1 w4 h4
 have I:aq w3 w4:=aj.bu h4
 have hfew:s3.2.length<=65536:=Oi (xD Y.nd Y.kq) O.ok.jl
 have⟨z,w5,hr5,R5,X5,f5⟩:=(g.od.pure I).append (P:=prog) (ty:=46) (c:=1) ux (r:=[vi t]) (az.fi h4).row rfl rfl (by rw[zV];omega) (by rw[zV];simp[maxLen];omega)
 have b5:=(g.b4.pure I).ext X5 fun d=>(g.ns _ d).2.2.2.1 rfl
 refine⟨z,w5,hr5,b5.mi Sm,?_⟩
 intro w6 h6
 have E6:aj (·=c4.block) w5 w6:=by rw[h6];exact aj.setCell c4 _
 have b6:az w6 c4 [z.v] 46:=by rw[h6];exact b5.nw
 have z1:=E.size
 have z2:=E2.size
 have z3:=S.size
 have z4:=I.size
 have U:∀b,z.bg b->s.bg b\/w3.heap.size<=b:=fun b d=>(f5 b d).imp_right fun h=>Om
 have ns':∀b,z.bg b->b≠c1.block/\b≠c2.block/\b≠c3.block/\b≠c4.block/\b≠m:=fun b d=>(U b d).elim (g.ns b) (fun hh=>by
  have q1:=g.b1.lt;have q2:=g.b2.lt;have q3:=g.b3.lt;have q4:=g.b4.lt;have q5:m<w3.heap.size:=by have⟨M',N,_⟩:=g.mp;exact N.lt
  exact⟨Om,Om,Om,Om,Om⟩)
 have up:∀{T:TypeId} {c:Addr} {vs:List Value},az w3 c vs T->¬s.bg c.block->c.block≠c4.block->az w6 c vs T:=fun h h1 h2=>((h.pure I).ext X5 h1).ext E6 h2
 refine Q z w6 ⟨up g.b1 (fun d=>(g.ns _ d).1 rfl) g.n4.1.symm,up g.b2 (fun d=>(g.ns _ d).2.1 rfl) g.n4.2.1.symm,up g.b3 (fun d=>(g.ns _ d).2.2.1 rfl) g.n4.2.2.1.symm,b6,?_,?_,((g.ew.pure I).ext X5 fun b d=>(g.nf b d).2.2).ext E6 fun b d e=>(g.nf b d).1 e,g.n4,g.nm,ns',fun b d=>⟨(g.nf b d).1,(g.nf b d).2.1,fun hh=>(U b hh).elim (g.nf b d).2.2 fun hh=>Oh (g.ew.lt d)⟩⟩ ?_ ?_
 have⟨M',N,hV'⟩:=g.mp
 exact⟨M',((N.pure I).ext X5 fun d=>(g.ns _ d).2.2.2.2 rfl).ext E6 g.n4.2.2.2.symm,hV'⟩
 show c9 _ _ _ _ (fv (s3.2++[t]))
 rw[show fv (s3.2++[t])=fv s3.2++[[vi t]] by simp[fv]]
 exact R5.ext E6 Gd
 have f33:∀b,s.bg b->b<q.heap.size->so.bg b:=fun b d G=>(f3 b d).elim id fun h2=>Om
 refine(((E.mono fun b _ d=>.inr (.inl d)).mh E2).trans S).ft ((I.pure (F:=Fa c4 m s)).trans ((X5.mono fun b _ d=>.inr (.inr d)).trans (E6.mono fun b _ e=>.inl e))) fun i hi d=>?_
 rcases d with d|d|d
 exact .inl d
 exact .inr (.inl d)
 exact .inr (.inr (f33 i d hi))
 grind
 have J:t∈M:=by have:=tV V;simp[za]at this;exact this
 have hv:st.1 t=true:=by rw[hV];simpa using J
 rw[yR,if_neg (by simp[hv])]at Q
 refine⟨some m,h.b1.dj,1,hl,Br.t Sm ?_⟩
 exact Q so q h (aj.refl _) fun b d=>.inl d
theorem jaG(p:Addr)(t:Int)(m:World){L:bw}{FP:NP}(Y:Wf L)(R:zH m p L FP):
  cl 179 #[vp<|some p,vi t] m<|XA fun r w'=>jd m 73 1 (fv<|gz L t) r w':=by
 refine VE _ _ m _ ?_
 intro z K h1 y M h2 E V h3 g D s
 have W:=az.fi h1
 have P:=az.fi h2
 have O:=jm.fi (f:=GW) h3
 have C:=az.fi s
 have E1:aq m K:=aj.bu h1
 have J:aq K M:=aj.bu h2
 have v:aq M V:=aj.bu h3
 have o:aq V D:=aj.bu s
 have s1:=h1.gp;have s2:=h2.gp;have s3:=h3.gp;have s4:=s.gp
 have l1:=W.lt;have l2:=P.lt;have l3:=O.lt;have l4:=C.lt
 refine⟨C.mi Sm,fun G N=>?_⟩
 have n:aj (·=g.block) D G:=by rw[N];exact aj.setCell g _
 have u:az G g [.map<|some E.block] 231:=by rw[N];exact C.nw
 intro j Q H
 have B:=az.fi H
 have q:aq G Q:=aj.bu H
 have s6:=H.gp;have z5:=n.size;have l6:=B.lt
 refine⟨B.mi Sm,fun k U=>?_⟩
 have l:aj (·=j.block) Q k:=by rw[U];exact aj.setCell j _
 have F:az k j [.func (.func 267) #[] #[vp<|some g,vp<|some z,vp<|some j,vp<|some y]] 192:=by rw[U];exact B.nw
 have z7:=l.size
 have w:=((((((E1.trans J).trans v).trans o).bf Om n).trans q).bf Om l)
 have X:∀{T:TypeId} {c:Addr} {vs:List Value},az D c vs T->c.block≠g.block->c.block≠j.block->az k c vs T:=fun h h1 h2=>((h.ext n h1).pure q).ext l h2
 have d:∀b,¬Sl.nil.bg b:=fun b e=>by have⟨a,h,_⟩:=e;cases h
 have A:wP k p g z j y E.block Sl.nil L FP (fun _=>false,[]):=
  ⟨(u.pure q).ext l Om,X (((W.pure J).pure v).pure o) Om Om,F,X ((P.pure v).pure o) Om Om,
  ⟨[],(((O.pure o).ext n Om).pure q).ext l Om,fun x=>Sm⟩,c9.nil _ _ _,R.pure w,⟨Om,Om,Om,Om⟩,⟨Om,Om,Om⟩,fun b e=>(d b e).elim,fun b e=>by
   have:=R.lt e;exact⟨Om,Om,d b⟩⟩
 refine⟨some p,A.b2.dj,?_⟩
 refine(AK p t k A.ew).mono ?_
 rintro _ _ ⟨r1,rfl,rfl,rfl⟩
 refine⟨_,rfl,fun I=>?_,fun I=>?_⟩
 refine⟨_,A.b3.dj,_,_,_,rfl,call267,?_⟩
 refine(jcT p g z j y E.block Y (t.toNat+1) t k _ Sl.nil Om I A ⟨Sm,Sm,Sm,Sm⟩ Sm).mono ?_
 rintro _ w8 ⟨rfl,so,S,Z,f8⟩
 refine⟨rfl,so,S.b4.dj,S.od,fun b e=>?_,w.ft Z fun i hi e=>?_⟩
 grind
 rcases e with e|e|e
 omega
 omega
 exact d _ e
 have:gz L t=[]:=by
  unfold gz;rw[yR,if_neg Uc]
 rw[this]
 exact⟨Sl.nil,A.b4.dj,c9.nil _ _ _,fun b e=>(d b e).elim,w⟩
def IM(p t w0):cl 131 #[vp<|some p,vi t] w0 (XI fun r w'=>∃b a:Addr,r=.func (.func 178) #[] #[vp<|some b,vp<|some a]/\az w' b [vp<|some p] 91/\az w' a [vi t] 73/\aq w0 w'):=by
 refine Xa _ _ w0 (fun r w'=>∃b a:Addr,r=.func (.func 178) #[] #[vp<|some b,vp<|some a]/\az w' b [vp<|some p] 91/\az w' a [vi t] 73/\aq w0 w') ?_;intro b c h1 a d h2;exact⟨b,a,rfl,(az.fi h1).pure<|aj.bu h2,az.fi h2,(show aq w0 c from aj.bu h1).trans<|aj.bu h2⟩
def Hr{p p2 p3 t w0 L FP}(q:Wf L)(K:zH w0 p L FP)(O:az w0 p2 [vp<|some p] 91)(I:az w0 p3 [vi t] 73):
  sX prog 178 #[vp<|some p2,vp<|some p3] (fun z:Int=>#[vi z]) (gz L t) (fun _=>True) w0:=by
 intro l J M W E _ F G c H
 refine(YJ (.func (.yield l) #[] #[]) p2 p3 W (fun A=>∃X,au W X A X A/\(J (gz L t) X A\/∃cd,M cd X A)) ?_).mono fun e A h=>⟨⟨_,h.1⟩,h.2⟩
 refine⟨some p,(O.pure E).dj,t,(I.pure E).dj,?_⟩
 refine(jaG p t W q<|K.pure E).mono ?_
 rintro _ i ⟨r,rfl,g⟩
 refine⟨_,rfl,?_⟩
 generalize u:gz L t=xs at *
 have B:xs.length<=65536:=by rw[<-u];have:=tA q t;have:=q.ok.jl;omega
 have n:au W bl W (fun b=>W.heap.size<=b/\b<i.heap.size) i:=⟨g.pure.pure,fun _ h=>h.elim,fun b h=>.inr h.1,fun b h=>h.1,fun b h=>h.2,g.pure.size⟩
 have N:∀b,r.bg b->W.heap.size<=b/\b<i.heap.size:=fun b C=>⟨g.bf b C,g.fg.lt C⟩
 refine⟨fun x A=>∃j:Nat,x=j/\j<=xs.length/\au W (fun b=>W.heap.size<=b/\b<i.heap.size) A (fun b=>W.heap.size<=b/\b<i.heap.size) A/\J (xs.take j) (fun b=>W.heap.size<=b/\b<i.heap.size) A/\c9 A 73 1 r (fv xs),fun x _=>((xs.length:Int)-x).toNat,⟨0,rfl,Nat.zero_le _,n.jj,F _ _ _ _ _ H n,g.fg⟩,?_⟩
 rintro _ A ⟨j,rfl,P,w,s,m⟩
 unfold OV
 have y:r.ay=xs.length:=by rw[g.fg.ay,zV]
 refine⟨fun d=>?_,fun d=>?_⟩
 have d:j<xs.length:=Oh<|of_decide_eq_true d
 have⟨a,v,_,D⟩:=yN m.gS d
 refine⟨a,v,_,D,l,rfl,?_⟩
 refine(c (xs.take j) xs[j] _ A s w ⟨xs.drop<|j+1,Uc⟩).mono ?_
 rintro e A' (⟨rfl,o,k⟩|⟨rfl,o,k⟩)
 refine⟨_,rfl,Br.f rfl ⟨⟨j+1,zI d Om,d,w.jg o,Uc,m.ff o N⟩,?_⟩⟩
 rw[zI d Om]
 show((xs.length:Int)-((j+1:Nat):Int)).toNat<((xs.length:Int)-(j:Int)).toNat
 omega
 exact⟨_,rfl,Br.t rfl ⟨_,w.jg o,.inr ⟨_,k⟩⟩⟩
 grind
end Go.Proofs
end
section
open Go Go.SE List
open Go.IntKind renaming i64 -> q6
open Go renaming World->af,Value->bk,Addr->ao,Ending->fb,Program->ez,TypeId->dz
open Option renaming some->ab,none->bo
open Bool renaming true->ai,false->ak
open Go.Builtin renaming append_->cm
open Prod.mk renaming injEq->ei
open Go.IntKind renaming u64->dc
namespace Go.Proofs
open Tryz
set_option maxRecDepth 100000
set_option maxHeartbeats 4000000
attribute [local irreducible] cr ed dv de Calls CallsD
attribute [local irreducible] ee W WV WR uP pv e0 eh fe ka ek el ev eu fa dw di dn fc eo kp yS xA yF bn ub
def EW(a w':af)(bs:List UInt8)(x:Option ao):Prop:=
 (∀q,(zY bs).1=ab q->∃p F,x=ab p/\zH w' p q F/\∀b,F b->a.heap.size<=b)/\((zY bs).1=bo->x=bo)
structure Mj(c w:af)(q a:ao)(s:Sl)(bs:List UInt8)(L:bw)(r:Rd)(m:Nat)(S d F:NP)(ps:List Nat)(e:Sl):Prop where
 st:qt w q a s bs L r m S d F
 pure:aq c w
 oP:∀b,d b->c.heap.size<=b
 oa:c.heap.size<=a.block
 fg:c9 w 3 1 e (fv<|ps.map Int.ofNat)
 bf:∀b,e.bg b->c.heap.size<=b/\¬d b/\b≠a.block/\¬S b/\¬F b/\b≠m
def jZJ:∀l i z,mm i l=i+l.length->mm i (l++[z])=if z=((i+l.length:Nat):Int)+1 then i+l.length+1 else i+l.length:=by
 intro l;induction l with
 |nil=>intro i z _;simp only[nil_append,mm,length_nil,Nat.add_zero]
 |cons s l a =>
  intro i z h
  rw[mm]at h
  rw[cons_append,mm]
  split
  grind
  grind
def jZI:∀l i z post,mm i l=i+l.length->z≠((i+l.length:Nat):Int)+1->mm i (l++z ::post)=i+l.length:=by
 intro l;induction l with
 |nil=>intro i z post _ a;simp only[nil_append,mm,length_nil,Nat.add_zero]at *;rw[aw a]
 |cons s l b =>
  intro i z post h a
  rw[mm]at h
  rw[cons_append,mm]
  split
  grind
  grind
def Uf{o:NP}(sb:Sl)(bs:List UInt8)(t:af)(hs:gr o t 1 sb (gO bs))(hz:sb.a=bo->sb=Sl.nil):
  cl 135 #[sb.v] t<|YI fun x y z w'=>y=(zY bs).2.1/\z=((zY bs).2.2:Int)/\EW t w' bs x/\aq t w':=by
 refine jbH sb t _ ?_
 have hl:sb.ay=bs.length:=by rw[hs.ay,vW]
 have Z:∀(e:Int)(n:Nat)w',zY bs=(bo,e,n)->aq t w'->e=(zY bs).2.1/\(n:Int)=((zY bs).2.2:Int)/\EW t w' bs bo/\aq t w':=fun e n w' h E=>by
  rw[h];exact⟨rfl,rfl,⟨fun q hq=>Uc,fun _=>rfl⟩,E⟩
 refine⟨fun g=>?_,fun g=>?_⟩
 have g:4096<bs.length:=Oh<|ij g
 exact Z 1 0 t (by unfold zY;rw[bt g])<|aj.refl _
 have g:bs.length<=4096:=Uc
 refine⟨fun D=>?_,fun D=>?_⟩
 have D:bs.length=0:=Oh<|beq_iff_eq.1 D
 exact Z 3 0 t (by unfold zY;rw[aw Om,bt D])<|aj.refl _
 have D:bs.length≠0:=Uc
 have htxt:zY bs=qf bs bs.length [] ⟨0,0,0⟩ []:=by unfold zY;rw[aw Om,aw D]
 refine(OW t).mono ?_
 rintro _ w1 ⟨_,rfl,q,rfl,E1,FP0,hP,hFP⟩
 refine⟨_,rfl,E1.dy,?_⟩
 refine(jav sb bs w1 (hs.pure E1) hz Om).mono ?_
 rintro _ w2 ⟨_,rfl,a,s,rfl,hR,E2,ha,hsb⟩
 refine⟨_,rfl,E2.dy,?_⟩
 refine(Mx w2).mono ?_
 rintro _ w3 ⟨_,rfl,m,F,rfl,hK,E3,hm,hF⟩
 refine⟨_,rfl,E3.dy,?_⟩
 have z1:=E1.size;have z2:=E2.size;have z3:=E3.size
 have la:=hR.box.lt
 have hnil:∀b,¬Sl.nil.bg b:=fun b d=>by have⟨a,h,_⟩:=d;cases h
 have R3:Mj t w3 q a s bs [] ⟨0,0,0⟩ m s.bg FP0 F [] Sl.nil:=
  ⟨⟨(hP.pure E2).pure E3,hR.pure E3,hK,fun b d=>Uc,Om,fun b d=>by have h1:=hP.lt d;exact⟨Om,fun hh=>Oh<|hsb b hh,fun hh=>Oh<|hF b hh,Om⟩,fun b d=>Uc,Om,fun hh=>Uc⟩,(E1.trans E2).trans E3,hFP,Om,c9.nil _ _ _,fun b d=>(hnil b d).elim⟩
 refine⟨fun p Hl w=>∃L r ps H n,Hl=bl/\Mj t w q a s bs L r m s.bg H F ps p/\Wf L/\ps.length=L.length/\ps.length<=r.at_/\r.at_<=bs.length/\r.gd=0/\bs.length-r.at_<=n/\qf bs n L r ps=zY bs,fun p _=>bs.length+1-p.ay,⟨[],⟨0,0,0⟩,[],FP0,bs.length,rfl,R3,Wf.nil,rfl,Nat.zero_le _,Nat.zero_le _,rfl,Nat.le_refl _,htxt.symm⟩,?_⟩
 rintro p _ wl _ ⟨L,r,ps,H,n,rfl,f,hW,hps,hpr,hra,V,hn,l⟩
 unfold RP
 have hpl:p.ay=ps.length:=by rw[f.fg.ay,zV,length_map]
 refine(U0 a s bs r wl f.st.rd hra).mono ?_
 rintro _ w4 ⟨_,rfl,rfl,E4⟩
 refine⟨_,rfl,E4.dy,fun hc3=>?_,fun hc3=>?_⟩
 have N:r.at_<bs.length:=Oh<|ij hc3
 obtain⟨n,rfl⟩:∃k,n=k+1:=⟨n-1,Om⟩
 rw[qf,bt N]at l
 have S4:=f.st.pure E4
 refine(jcK a s bs r w4 S4.rd).mono ?_
 rintro _ _ ⟨_,rfl,rfl,rfl⟩
 refine⟨_,rfl,av.refl _,?_⟩
 refine(Yg q a s bs r m S4 hW.ok N V).mono ?_
 rintro _ w6 ⟨_,rfl,rfl,F',hP6,hR6,E6,hF6⟩
 have z4:=E4.size;have z6:=E6.size
 have E06:=(f.pure.trans E4).ft E6 fun i hi hh=>hh.elim (fun hh=>Oh<|f.oP i hh) Gd
 refine⟨_,rfl,E6.ff fun b d=>d.elim,fun hc4=>?_,fun hc4=>?_⟩
 grind
 have h0:(vL bs L r).2.1=0:=by simpa using hc4
 rw[aw Uc]at l
 have⟨a1,a2,a3⟩:=Is bs L r N V h0
 have hw6:Wf (vL bs L r).1/\(vL bs L r).1.length=L.length+1:=by
  rw[AI bs L r N V]at h0|-;split at h0;rename_i hk;rw[bt hk];have⟨_,_,e3,e4,e5⟩:=Jv h0;rw[e5];simp only;refine⟨yG hW _,?_⟩;have g:=(xH e4).2.2;unfold bz at e4|-;simp only[e3]at e4|-;rw[aw Uc]at e4|-;split at e4;simp at e4;grind;simp at h0
 intro p1 w7 n7
 have E7:aq w6 w7:=aj.bu n7
 have z7:=E7.size
 have R7:c9 w7 3 1 p (fv<|ps.map Int.ofNat):=((f.fg.pure E4).ext E6 fun b d hh=>hh.elim (f.bf b d).2.1 (f.bf b d).2.2.1).pure E7
 have⟨s1,w8,hr8,hR8,G,hb8⟩:=R7.append (P:=prog) (ty:=42) (c:=1) Av (az.j0 n7).row rfl rfl (by rw[zV,length_map];omega) (by rw[zV,length_map];simp only[maxLen];omega)
 have hpw:∀b,p.bg b->b<wl.heap.size:=fun b d=>f.fg.lt d
 have z8:=G.size
 have E08:=(E06.trans E7).ft G fun i hi hh=>Oh<|(f.bf i hh).1
 have U:∀b,F' b->¬p.bg b:=fun b d hh=>(hF6 b d).elim (fun h=>(f.bf b hh).2.1 h) Gd
 have o:=S4
 have S8:qt w8 q a s bs (vL bs L r).1 (vL bs L r).2.2 m s.bg F' F:=by
  refine⟨(hP6.pure E7).ext G U,(hR6.pure E7).ext G (fun b d hh=>(f.bf b hh).2.2.2.1 d) fun hh=>(f.bf _ hh).2.2.1 rfl,((o.pL.ext E6 fun b d hh=>?_).pure E7).ext G fun b d hh=>?_,fun b d=>Oh<|o.lS b d,Oh o.la,fun b d=>?_,o.dF,o.dm⟩;rcases d with d|rfl;exact hh.elim (fun hh=>(o.dP b hh).2.2.1 d) fun hh=>(o.dF b d).1 hh;exact hh.elim (fun hh=>(o.dP _ hh).2.2.2 rfl) fun hh=>o.dm.1 hh;rcases d with d|rfl;exact(f.bf b hh).2.2.2.2.1 d;exact(f.bf _ hh).2.2.2.2.2 rfl;rcases hF6 b d with h|h;exact o.dP b h;exact⟨Oh o.la,fun hh=>Oh<|o.lS b hh,fun hh=>Oh<|o.pL.lt b hh,Oh o.pL.Bo⟩
 refine⟨s1,w8,hr8,G.ff fun b d=>d.elim,⟨(vL bs L r).1,(vL bs L r).2.2,ps++[r.at_],F',n,rfl,⟨S8,E08,fun b d=>(hF6 b d).elim (f.oP b) fun h=>Oh f.pure.size,f.oa,?_,fun b d=>?_⟩,hw6.1,Uc,Uc,a2,a3,Om,l⟩,?_⟩
 have:fv ((ps++[r.at_]).map Int.ofNat)=fv (ps.map Int.ofNat)++[[vi (r.at_:Int)]]:=by simp[fv]
 rw[this];exact hR8
 rcases hb8 b d with h|h
 have:=f.bf b h
 exact⟨this.1,fun hh=>U b hh h,this.2.2⟩
 have h1:=f.pure.size
 exact⟨Om,fun hh=>Oh<|hP6.lt hh,Oh o.la,fun hh=>Oh<|o.lS b hh,fun hh=>Oh<|o.pL.lt b hh,Oh o.pL.Bo⟩
 have h1:s1.ay=ps.length+1:=by rw[hR8.ay,length_append,zV,length_map];rfl
 show bs.length+1-s1.ay<bs.length+1-p.ay
 omega
 have hge:¬r.at_<bs.length:=Oh<|il hc3
 rw[D1 hge]at l
 intro B w9 n9
 have E9:aq w4 w9:=aj.bu n9
 have B9:=az.j0 n9
 have b9:=n9.gp
 refine⟨B9.mi Sm,id,?_⟩
 rintro I e10
 have X10:aj (·=B.block) w9 I:=by rw[e10];exact aj.setCell _ _
 have B10:az I B [vi 0] 3:=by rw[e10];exact B9.nw
 have z4:=E4.size;have z9:=E9.size;have z10:=X10.size
 have X:=(E4.trans E9).bf Om X10
 have zw:=f.pure.size
 have W:=f.st.ew.pure X
 have R10:=f.fg.pure X
 refine(IW q I W).mono ?_
 rintro _ I ⟨_,rfl,rfl,rfl⟩
 refine⟨_,rfl,av.refl _,?_⟩
 refine(IM q L.length I).mono ?_
 rintro _ w12 ⟨_,rfl,q2,q3,rfl,Bq2,Bq3,u⟩
 have z12:=u.size
 refine⟨_,rfl,u.dy,_,_,rfl,call178,_,_,Hr hW (W.pure u) Bq2 Bq3,?_⟩
 have hfew:=tA hW L.length
 have hlf:=hW.ok.jl
 unfold rR at l
 simp only at l
 generalize hxs:gz L L.length=xs at *
 have E012:=(f.pure.trans X).trans u
 have vb:∀b,(b=B.block\/H b\/p.bg b)->t.heap.size<=b:=fun b d=>d.elim (fun h=>Om) fun d=>d.elim (f.oP b) fun h=>(f.bf b h).1
 have dP2:¬H B.block/\¬p.bg B.block:=⟨fun hh=>Oh<|f.st.ew.lt hh,fun hh=>Oh<|f.fg.lt hh⟩
 refine⟨fun cd Y A=>az A B [vi (cd.length:Int)] 3/\mm 0 cd=cd.length/\zH A q L H/\c9 A 3 1 p (fv<|ps.map Int.ofNat)/\(∀b,(b=B.block\/H b\/p.bg b)->¬Y b)/\aq t A,
  fun cd Y A=>az A B [vi (mm 0 xs:Int)] 3/\zH A q L H/\c9 A 3 1 p (fv<|ps.map Int.ofNat)/\(∀b,(b=B.block\/H b\/p.bg b)->¬Y b)/\aq t A,⟨fun _ _ _ _=>trivial,?_,?_,fun _ _ _ _ _ h=>h.elim⟩,?_,?_,?_⟩
 rintro cd Y A Y' A' ⟨C,g2,M,K,S,Q⟩ bh
 have hv:=bh.mn fun b d=>⟨d.elim (fun e=>e▸C.lt) fun d=>d.elim (fun h=>M.lt h) fun h=>K.lt h,S b d⟩
 exact⟨C.ext bh.ext<|hv _<|.inl rfl,g2,M.ext bh.ext Gd,K.ext bh.ext Gd,hv,Q.bh bh⟩
 rintro cd Y A Y' A' ⟨C,M,K,S,Q⟩ bh
 have hv:=bh.mn fun b d=>⟨d.elim (fun e=>e▸C.lt) fun d=>d.elim (fun h=>M.lt h) fun h=>K.lt h,S b d⟩
 exact⟨C.ext bh.ext<|hv _<|.inl rfl,M.ext bh.ext fun b d=>hv b<|.inr<|.inl d,K.ext bh.ext fun b d=>hv b<|.inr<|.inr d,hv,Q.bh bh⟩
 exact⟨B10.pure u,rfl,W.pure u,R10.pure u,fun _ _ h=>h,E012⟩
 rintro cd z Y A ⟨C,g2,M,K,S,Q⟩ hsA ⟨post,hpost⟩
 have hpl2:cd.length<65536:=Uc
 have hw:q6.wrap ((cd.length:Int)+1)=((cd.length+1:Nat):Int):=zI (n:=cd.length+1) Om Om
 refine⟨_,C.dj,fun g=>?_,fun g=>?_⟩
 have g:z≠((cd.length+1:Nat):Int):=by rw[hw]at g;exact bne_iff_ne.1 g
 have bh:=jZI cd 0 z post Om Om
 rw[<-hpost,Nat.zero_add]at bh
 exact⟨av.refl _,Uc,M,K,S,Q⟩
 have g:z=((cd.length+1:Nat):Int):=by rw[hw]at g;simpa using g
 have hsn:=jZJ cd 0 z Om
 rw[bt Om]at hsn
 refine⟨_,C.dj,C.mi Sm,id,?_⟩
 rintro w13 e13
 have O:aj (·=B.block) A w13:=by rw[e13];exact aj.setCell _ _
 have B13:az w13 B [vi ((cd++[z]).length:Int)] 3:=by
  rw[e13,length_append,length_singleton,<-hw];exact C.nw
 exact⟨O.ff Gd,B13,Uc,M.ext O fun b d e=>dP2.1<|e▸d,K.ext O fun b d e=>dP2.2<|e▸d,S,Q.ft O fun i hi e=>Om⟩
 rintro H1 R hs14 _ _ hI
 have hI:az R B [vi (mm 0 xs:Int)] 3/\zH R q L H/\c9 R 3 1 p (fv<|ps.map Int.ofNat)/\(∀b,(b=B.block\/H b\/p.bg b)->¬H1 b)/\aq t R:=Gd
 have⟨C,M,K,S,Q⟩:=hI
 refine⟨_,C.dj,fun g=>?_,fun g=>?_⟩
 have g:=vA hpl g
 rw[dif_pos g]at l
 intro w15 J
 have hv15:∀b,(b=B.block\/H b\/p.bg b)->¬H1 b:=S
 have g1':=C.ext J.ext<|hv15 _<|.inl rfl
 have g4':=K.ext J.ext Gd
 have⟨a1,hat,_,hv5⟩:=yN g4'.gS (j:=mm 0 xs) Uc
 refine⟨_,g1'.dj,a1,hat,_,hv5,fun w16 hs16=>?_⟩
 have:=Z _ _ w16 l.symm<|(Q.bh J).bh hs16
 rw[getElem_map]
 exact this
 have g:¬mm 0 xs<ps.length:=Oh<|il g
 rw[dif_neg g]at l
 intro w17 T
 have hF17:zH w17 q L H:=M.ext T.ext Gd
 rw[<-l]
 exact⟨rfl,rfl,⟨fun q' hq'=>Uc,fun hn=>Uc⟩,Q.bh T⟩
def EW.ew{w0 w' bs x}(h:EW w0 w' bs x){q}(a:(zY bs).1=ab q):∃p F,x=ab p/\zH w' p q F/\∀b,F b->w0.heap.size<=b:=h.1 q a
def PF(Lq):∀l1 c L bf,zS Lq (l1++c) L bf=if(zS Lq l1 L bf).2.1≠0 then zS Lq l1 L bf else zS Lq c (zS Lq l1 L bf).1 (zS Lq l1 L bf).2.2:=by
 intro l1;induction l1 with
 |nil=>intro c L bf;rw[nil_append];exact(aw fun h=>h rfl).symm
 |cons z l1 g =>
  intro c L bf
  obtain⟨x,e,d,f⟩:∃x e d,bz L { ar Lq z with a:=bf (ar Lq z).a,b:=bf (ar Lq z).b }=(x,e,d):=⟨_,_,_,rfl⟩
  rw[cons_append,qB Lq z (l1++c) L bf rfl f,qB Lq z l1 L bf rfl f]
  by_cases i:e≠0
  grind
  grind
def Jx(Lq):∀l L bf,∃M,(zS Lq l L bf).1=L++M:=by
 intro l;induction l with
 |nil=>intro L bf;exact⟨[],(append_nil L).symm⟩
 |cons z l g =>
  intro L bf
  obtain⟨x,e,c,f⟩:∃x e c,bz L { ar Lq z with a:=bf (ar Lq z).a,b:=bf (ar Lq z).b }=(x,e,c):=⟨_,_,_,rfl⟩
  rw[qB Lq z l L bf rfl f]
  split
  exact⟨[],Sm⟩
  have⟨h,d⟩:=qM L { ar Lq z with a:=bf (ar Lq z).a,b:=bf (ar Lq z).b }
  rw[f]at d
  have⟨i,j⟩:=g c fun y=>if y=z then x else bf y
  simp only at d
  exact⟨h++i,Uc⟩
def Lf{Lq}:∀l L bf,Wf L->Wf (zS Lq l L bf).1:=by
 intro l;induction l with
 |nil=>intro L bf h;exact h
 |cons z l g =>
  intro L bf h
  obtain⟨x,e,c,d⟩:∃x e c,bz L { ar Lq z with a:=bf (ar Lq z).a,b:=bf (ar Lq z).b }=(x,e,c):=⟨_,_,_,rfl⟩
  have f:=yG h { ar Lq z with a:=bf (ar Lq z).a,b:=bf (ar Lq z).b }
  rw[qB Lq z l L bf rfl d]
  rw[d]at f
  split
  exact h
  exact g _ _ f
def QL{Lq l post z L}{bf:Int->Int}(h:(zS Lq l L bf).2.1=0){n}(g:{ ar Lq z with a:=(zS Lq l L bf).2.2 (ar Lq z).a,b:=(zS Lq l L bf).2.2 (ar Lq z).b }=n)(f:(bz (zS Lq l L bf).1 n).2.1≠0):
  (zS Lq (l++z ::post) L bf).2.1=(bz (zS Lq l L bf).1 n).2.1:=by
 obtain⟨x,e,c,d⟩:∃x e c,bz (zS Lq l L bf).1 n=(x,e,c):=⟨_,_,_,rfl⟩
 rw[d]at f|-
 rw[PF,aw Gd,qB Lq z post _ _ g d,bt f]
def OD{Lq l z L}{bf:Int->Int}(i:(zS Lq l L bf).2.1=0){n}(g:{ ar Lq z with a:=(zS Lq l L bf).2.2 (ar Lq z).a,b:=(zS Lq l L bf).2.2 (ar Lq z).b }=n)(f:(bz (zS Lq l L bf).1 n).2.1=0):
  zS Lq (l++[z]) L bf=((bz (zS Lq l L bf).1 n).2.2,0,fun x=>if x=z then(bz (zS Lq l L bf).1 n).1 else(zS Lq l L bf).2.2 x):=by
 obtain⟨x,e,c,d⟩:∃x e c,bz (zS Lq l L bf).1 n=(x,e,c):=⟨_,_,_,rfl⟩
 rw[d]at f|-
 rw[PF,aw Gd,qB Lq z [] _ _ g d,aw fun h=>h f]
 rfl
def QV{w:af}{a:ao}{k:Nat}{v:bk}:aj (·=a.block) w (w.setCell (a.add k) v):=(aj.setCell _ _).mono (fun i _ e=>by rw[zD]at e;exact e)
def Bl(M:List (Int×Int))(x:Int):Int:=(SE.iv M x).getD 0
def Hc(g a c f e h:ao)(d:Nat)(F' FQ:NP)(b:Nat):Prop:=b=g.block\/b=a.block\/b=c.block\/b=f.block\/b=e.block\/b=h.block\/b=d\/F' b\/FQ b
structure sK(A:af)(p q f a b d e g:ao)(c n:Nat):Prop where
 b2:az A f [vp<|ab p] 91
 b3:az A a [vp<|ab q] 91
 b4:az A b [vi 0] 73
 b5:az A d [vi 0] 54
 b6:az A e [vi (n:Int)] 3
 b8:az A g [.map<|ab c] 197
def sK.ext{A A':af}{p q g c d e f i:ao}{j n:Nat}{F' FQ G:NP}(h:sK A p q g c d e f i j n)(E:aj G A A')(a:∀b,(b=g.block\/b=c.block\/b=d.block\/b=e.block\/b=f.block\/b=i.block)->¬G b):sK A' p q g c d e f i j n:=
 ⟨h.b2.ext E<|a _<|.inl rfl,h.b3.ext E<|a _<|.inr<|.inl rfl,h.b4.ext E<|a _<|.inr<|.inr<|.inl rfl,h.b5.ext E<|a _<|.inr<|.inr<|.inr<|.inl rfl,h.b6.ext E<|a _<|.inr<|.inr<|.inr<|.inr<|.inl rfl,h.b8.ext E<|a _<|.inr<|.inr<|.inr<|.inr<|.inr rfl⟩
def sK.pure{A A':af}{p q f a b d e g:ao}{c n:Nat}(h:sK A p q f a b d e g c n)(E:aq A A'):sK A' p q f a b d e g c n:=h.ext (F':=bl) (FQ:=bl) E fun _ _ h=>h
def sK.lt{A p q p2 p3 p4 p5 p6 p8 mb n b}(h:sK A p q p2 p3 p4 p5 p6 p8 mb n)(a:b=p2.block\/b=p3.block\/b=p4.block\/b=p5.block\/b=p6.block\/b=p8.block):b<A.heap.size:=by
 rcases a with rfl|rfl|rfl|rfl|rfl|rfl;exact h.b2.lt;exact h.b3.lt;exact h.b4.lt;exact h.b5.lt;exact h.b6.lt;exact h.b8.lt
def Qn (p q:ao) (t:Int) (w0:af) {L Lq:bw} {FP FQ:NP} (hW:Wf L) (hQ:Wf Lq) (hP:zH w0 p L FP) (hPQ:zH w0 q Lq FQ) (hd:∀b,FP b->¬ FQ b) :
  cl 69 #[vp<|ab p,vp<|ab q,vi t] w0<|XK fun r1 r2 w'=>r1=(vF L Lq t).1/\r2=(vF L Lq t).2.1/\∃F',zH w' p (vF L Lq t).2.2 F'/\aj FP w0 w'/\∀b,F' b->FP b\/w0.heap.size<=b:=by
 refine SL _ _ _ w0 _ ?_
 intro p2 w1 n2 p3 w2 n3 p4 w3 n4 p5 w4 n5
 have E1:aq w0 w1:=aj.bu n2
 have E2:aq w1 w2:=aj.bu n3
 have E3:aq w2 w3:=aj.bu n4
 have E4:aq w3 w4:=aj.bu n5
 have B2:=(((az.j0 n2).pure E2).pure E3).pure E4
 have B3:=((az.j0 n3).pure E3).pure E4
 have B4:=(az.j0 n4).pure E4
 have B5:=az.j0 n5
 have b2:=n2.gp;have b3:=n3.gp;have b4:=n4.gp;have b5:=n5.gp
 have z1:=E2.size;have z3:=E4.size
 have l1:=(az.j0 n2).lt;have l2:=(az.j0 n3).lt;have l3:=(az.j0 n4).lt;have l4:=B5.lt
 have E04:=((E1.trans E2).trans E3).trans E4
 refine ⟨ab p,B2.dj,fun hc=>Uc,fun _=>⟨ab q,B3.dj,?_⟩⟩
 refine (AK q t w4<|hPQ.pure E04).mono ?_
 rintro _ _ ⟨_,rfl,rfl,rfl⟩
 refine ⟨_,rfl,av.refl _,fun hc=>?_,fun hc=>?_⟩
 have hin:bj Lq t=ak:=by simpa using hc
 have e:vF L Lq t=(0,51,L):=by unfold vF;rw [aw (by rw [hin];simp)]
 rw [e]
 refine ⟨B4.mi Sm,id,?_⟩
 rintro w8 e8
 have X8:aj (·=p4.block) w4 w8:=by rw [e8];exact aj.setCell _ _
 have B48:az w8 p4 [vi 0] 73:=by rw [e8];exact B4.nw
 have B58:=B5.ext X8 Om
 refine ⟨B58.mi Sm,id,?_⟩
 rintro w9 e9
 have X9:aj (·=p5.block) w8 w9:=by rw [e9];exact aj.setCell _ _
 have B59:az w9 p5 [vi 51] 54:=by rw [e9];exact B58.nw
 have B49:=B48.ext X9 Om
 refine ⟨_,B49.dj,_,B59.dj,rfl,rfl,FP,((hP.pure E04).ext X8 fun b hb e=>Oh<|hP.lt hb).ext X9 fun b hb e=>Oh<|hP.lt hb,aj.pure<|(E04.bf Om X8).bf Om X9,fun b hb=>.inl hb⟩
 have hin:bj Lq t=ai:=Uc
 obtain ⟨sl,hsl,hsll⟩:∃v4:Sl,w4.cell? p=ab v4.v/\v4.ay=L.length:=by
  have⟨s,m,h,_⟩:=hP.pure E04;exact ⟨s,h.box.dj,by rw [h.fg.ay,length_map]⟩
 refine ⟨ab p,B2.dj,p,rfl,sl,hsl,?_⟩
 dsimp only;rw [hsll]
 intro p6 w10 n6
 have E10:aq w4 w10:=aj.bu n6
 have B6:=az.j0 n6
 have b6:=n6.gp
 refine ⟨B6.mi Sm,id,?_⟩
 rintro w11 e11
 have X11:aj (·=p6.block) w10 w11:=by rw [e11];exact aj.setCell _ _
 have B6':az w11 p6 [vi (L.length:Int)] 3:=by rw [e11];exact B6.nw
 intro p7 w12 n7
 have E12:aq w11 w12:=aj.bu n7
 have M7:=jm.fi (f:=fun i:Int=>vi i) n7
 have b7:=n7.gp
 intro p8 w13 n8
 have E13:aq w12 w13:=aj.bu n8
 have B8:=az.j0 n8
 have b8:=n8.gp
 refine ⟨B8.mi Sm,id,?_⟩
 rintro w14 e14
 have X14:aj (·=p8.block) w13 w14:=by rw [e14];exact aj.setCell _ _
 have B8':az w14 p8 [.map<|ab p7.block] 197:=by rw [e14];exact B8.nw
 have z10:=E10.size;have z11:=X11.size;have z12:=E12.size;have z13:=E13.size;have z14:=X14.size
 have l6:=B6'.lt;have l7:=M7.lt;have l8:=B8.lt
 have E07:aq w0 w14:=((((E04.trans E10).bf Om X11).trans E12).trans E13).bf Om X14
 have up:∀{T:dz} {c:ao} {vs:List bk},az w4 c vs T->c.block≠p6.block->c.block≠p8.block->az w14 c vs T:=fun h h1 h2=>((((h.pure E10).ext X11 h1).pure E12).pure E13).ext X14 h2
 have C14:sK w14 p q p2 p3 p4 p5 p6 p8 p7.block L.length:=⟨up B2 Om Om,up B3 Om Om,up B4 Om Om,up B5 Om Om,((B6'.pure E12).pure E13).ext X14 Om,B8'⟩
 have M14:=(M7.pure E13).ext X14 Om
 refine ⟨ab q,C14.b3.dj,?_⟩
 refine (IM q t w14).mono ?_
 rintro _ w15 ⟨_,rfl,q2,q3,rfl,Bq2,Bq3,E15⟩
 have E015:=E07.trans E15
 have z15:=E15.size
 refine ⟨_,rfl,E15.dy,_,_,rfl,call178,_,_,Hr hQ (hPQ.pure E015) Bq2 Bq3,?_⟩
 have hsub:∀u∈gz Lq t,bj Lq u=ai:=fun u hu=>xC hQ hu
 have hnd:=EC hQ t
 generalize di:vF L Lq t=cs at *
 have hcs':cs=if (zS Lq (gz Lq t) L fun _=>0).2.1≠0 then (0,(zS Lq (gz Lq t) L fun _=>0).2.1,L) else ((zS Lq (gz Lq t) L fun _=>0).2.2 t,0,(zS Lq (gz Lq t) L fun _=>0).1):=by rw [<-di];unfold vF;rw [bt hin]
 generalize gz Lq t=xs at *
 have C15:=C14.pure E15
 have M15:=M14.pure E15
 have o3:w0.heap.size<=p3.block:=Om
 have o4:w0.heap.size<=p4.block:=Om
 have o5:w0.heap.size<=p5.block:=Om
 have o6:w0.heap.size<=p6.block:=Om
 have o8:w0.heap.size<=p8.block:=Om
 have om:w0.heap.size<=p7.block:=Om
 have d45:p4.block≠p5.block:=Om
 have dm:∀b,(b=p2.block\/b=p3.block\/b=p4.block\/b=p5.block\/b=p6.block\/b=p8.block)->b≠p7.block:=fun b hb=>Uc
 have ob:∀b,(b=p2.block\/b=p3.block\/b=p4.block\/b=p5.block\/b=p6.block\/b=p8.block\/b=p7.block)->w0.heap.size<=b/\b<w15.heap.size:=fun b hb=>Uc
 generalize p7.block=mb at *
 clear up B2 B3 B4 B5 B6 B6' B8 B8' M7 M14 C14 n2 n3 n4 n5 n6 n7 n8 X11 X14 E10 E12 E13 e11 e14 Bq2 Bq3 hsl
 have hPq:∀b,FQ b->b<w0.heap.size:=fun b hb=>hPQ.lt hb
 refine ⟨fun cd Y A=>∃(F':NP) (M:List (Int×Int)),(zS Lq cd L fun _=>0).2.1=0/\zH A p (zS Lq cd L fun _=>0).1 F'/\jm (fun i:Int=>vi i) A mb M/\M.map Prod.fst=cd/\(∀x,(zS Lq cd L fun _=>0).2.2 x=Bl M x)/\sK A p q p2 p3 p4 p5 p6 p8 mb L.length/\zH A q Lq FQ/\(∀b,F' b->FP b\/(w0.heap.size<=b/\¬ (b=p2.block\/b=p3.block\/b=p4.block\/b=p5.block\/b=p6.block\/b=p8.block\/b=mb)))/\(∀b,Hc p2 p3 p4 p5 p6 p8 mb F' FQ b->¬ Y b)/\aj FP w0 A/\w15.heap.size<=A.heap.size,
  fun cd Y A=>∃(F':NP) (e:Int),cs=(0,e,L)/\zH A p L F'/\az A p4 [vi 0] 73/\az A p5 [vi e] 54/\(∀b,F' b->FP b\/w0.heap.size<=b)/\(∀b,(b=p4.block\/b=p5.block\/F' b)->¬ Y b)/\aj FP w0 A,⟨fun _ _ _ _=>trivial,?_,fun _ _ _ _ _ h=>h.elim,?_⟩,?_,?_,?_,?_⟩
 rintro cd Y A Y' A' ⟨F',M,g1,g2,g3,g4,g5,g6,g7,g8,g9,g10,g11⟩ bh
 have hv:∀b,Hc p2 p3 p4 p5 p6 p8 mb F' FQ b->¬ Y' b:=bh.mn (fun b hb=>⟨by
  rcases hb with hb | hb | hb | hb | hb | hb | hb | hb | hb;exact g6.lt<|.inl hb;exact g6.lt<|.inr<|.inl hb;exact g6.lt<|.inr<|.inr<|.inl hb;grind;grind;grind;exact hb▸g3.lt;exact g2.lt hb;exact g7.lt hb,g9 b hb⟩)
 exact ⟨F',M,g1,g2.ext bh.ext fun b hb=>hv b<|.inr<|.inr<|.inr<|.inr<|.inr<|.inr<|.inr<|.inl hb,g3.ext bh.ext<|hv _<|.inr<|.inr<|.inr<|.inr<|.inr<|.inr<|.inl rfl,g4,g5,g6.ext (F':=F') (FQ:=FQ) bh.ext fun b hb=>hv b (by rcases hb with h | h | h | h | h | h <;> simp only [Hc,h,true_or,or_true]),g7.ext bh.ext fun b hb=>hv b<|.inr<|.inr<|.inr<|.inr<|.inr<|.inr<|.inr<|.inr hb,g8,hv,g10.bh bh,Nat.le_trans g11 bh.ext.size⟩
 rintro cd Y A Y' A' ⟨F',e,g1,g2,g3,g4,g5,g6,g7⟩ bh
 have hv:∀b,(b=p4.block\/b=p5.block\/F' b)->¬ Y' b:=bh.mn (fun b hb=>⟨by
  rcases hb with hb | hb | hb;exact hb▸g3.lt;exact hb▸g4.lt;exact g2.lt hb,g6 b hb⟩)
 exact ⟨F',e,g1,g2.ext bh.ext fun b hb=>hv b<|.inr<|.inr hb,g3.ext bh.ext<|hv _<|.inl rfl,g4.ext bh.ext<|hv _<|.inr<|.inl rfl,g5,hv,g7.bh bh⟩
 exact ⟨FP,[],rfl,hP.pure E015,M15,rfl,fun _=>rfl,C15,hPQ.pure E015,fun b hb=>.inl hb,fun _ _ h=>h,aj.pure E015,Nat.le_refl _⟩
 rintro cd z Y A ⟨F',M,g1,g2,g3,g4,g5,g6,g7,g8,g9,g10,g11⟩ hsA ⟨post,hpost⟩
 have hzin:bj Lq z=ai:=hsub z Uc
 have hzn:z ∉ cd:=Gd
 generalize hcg:zS Lq cd L (fun _=>0)=cg at *
 have hok:Ok cg.1:=by rw [<-hcg];exact (Lf cd L _ hW).ok
 have hA0:=hsA.lt
 refine ⟨ab q,g6.b3.dj,?_⟩
 refine (wh q z A g7 hQ.ok).mono ?_
 rintro _ w16 ⟨k,f,t',u,x,a,b,r3,rfl,⟨hn,_⟩,E16⟩
 have z16:=E16.size
 refine ⟨_,_,_,_,_,_,_,_,rfl,E16.ff fun b hb=>hb.elim,?_⟩
 intro p9 w17 n9
 have E17:aq w16 w17:=aj.bu n9
 have B9:=az.j0 n9
 have b9:=n9.gp
 have z17:=E17.size
 refine ⟨B9.uy Sm,id,?_⟩
 rintro w18 e18
 have X18:aj (·=p9.block) w17 w18:=by rw [e18];exact aj.ib _ _ _
 have B18:az w18 p9 (tM ⟨k,f,t',u,x,a,b⟩) 119:=by rw [e18];exact B9.store rfl
 have z18:=X18.size
 have l9:=B18.lt
 have ly:∀{G:NP} {w':af},aj G A w'->(∀b,b<A.heap.size->¬ G b)->jm (fun i:Int=>vi i) w' mb M/\sK w' p q p2 p3 p4 p5 p6 p8 mb L.length/\zH w' q Lq FQ/\zH w' p cg.1 F':=fun {G w'} E hG =>
  ⟨g3.ext E<|hG _ g3.lt,g6.ext (F':=F') (FQ:=FQ) E fun b hb=>hG b<|g6.lt hb,g7.ext E fun b hb=>hG b<|g7.lt hb,g2.ext E fun b hb=>hG b<|g2.lt hb⟩
 have E18:aj (·=p9.block) A w18:=(aj.pure<|E16.trans E17).trans X18
 have hg9:∀b,b<A.heap.size->¬ (b=p9.block):=fun b hb e=>Om
 have iv:∀{w':af},jm (fun i:Int=>vi i) w' mb M->∀y,(Instr.lookup 197 (.map<|ab mb) (vi y) ak).run prog w'=.ok (vi<|cg.2.2 y) w':=fun {w'} h y=>by
  rw [g5 y];rcases h.get (P:=prog) (T:=197) underlying197 underlying73 (zeroValue73 _) y ak with ⟨hn,hr⟩ | ⟨v,hv,hr⟩;unfold Bl;rw [hn];exact hr;unfold Bl;rw [hv];exact hr
 refine ⟨fun w'=>w'.cell? p8=ab (.map<|ab mb)/\jm (fun i:Int=>vi i) w' mb M,?_,?_⟩
 have⟨k1,k2,_,_⟩:=ly (E18.mh<|aj.drew w18) hg9
 exact ⟨k2.b8.dj,k1⟩
 rintro w19 e19
 have E19:aj (·=p9.block) A w19:=by rw [e19];exact E18.mh<|aj.drew w18
 have B19:az w19 p9 (tM ⟨k,f,t',u,x,a,b⟩) 119:=by rw [e19];exact B18.pure<|aj.drew w18
 have⟨k1,k2,k3,k4⟩:=ly E19 hg9
 refine ⟨ab mb,k2.b8.dj,a,B19.cell (i:=5) rfl,_,iv k1 a,ab mb,fun w' h=>h.1,b,B19.cell (i:=6) rfl,_,fun w' h=>iv h.2 b,B19.im (i:=5)<|by simp [tM],id,?_⟩
 rintro w20 e20
 have X20:aj (·=p9.block) w19 w20:=by rw [e20];exact QV
 have B20:az w20 p9 (tM ⟨k,f,t',u,x,cg.2.2 a,b⟩) 119:=by rw [e20];exact B19.set 5 _
 have E20:=E19.trans X20
 have⟨k1',k2',_,_⟩:=ly E20 hg9
 refine ⟨⟨k2'.b8.dj,k1'⟩,B20.im (i:=6)<|by simp [tM],id,?_⟩
 rintro w21 e21
 have X21:aj (·=p9.block) w20 w21:=by rw [e21];exact QV
 have B21:az w21 p9 (tM ⟨k,f,t',u,x,cg.2.2 a,cg.2.2 b⟩) 119:=by rw [e21];exact B20.set 6 _
 have E21:=E20.trans X21
 have⟨m1,m2,m3,m4⟩:=ly E21 hg9
 have z21:=E21.size
 refine ⟨ab p,m2.b2.dj,k,f,t',u,x,cg.2.2 a,cg.2.2 b,B21.row,?_⟩
 have hnn:({ ar Lq z with a:=cg.2.2 (ar Lq z).a,b:=cg.2.2 (ar Lq z).b }:gP)=⟨k,f,t',u,x,cg.2.2 a,cg.2.2 b⟩:=Uc
 refine (sV p k f t' u x (cg.2.2 a) (cg.2.2 b) w21 m4 hok).mono ?_
 rintro _ w22 ⟨r4,r5,rfl,he,F2,hP2,E22,hF2⟩
 have he1:=mu Prod.fst he
 have he2:=mu Prod.snd he
 simp only at he1 he2
 have z22:=E22.size
 have hF'o:∀b,F' b->¬ (b=p2.block\/b=p3.block\/b=p4.block\/b=p5.block\/b=p6.block\/b=p8.block\/b=mb):=fun b hb hh=>(g8 b hb).elim (fun h=>Oi (hP.lt h)<|(ob b hh).1) fun h=>h.2 hh
 have n22:sK w22 p q p2 p3 p4 p5 p6 p8 mb L.length:=m2.ext (F':=F') (FQ:=FQ) E22 Gd
 have M22:=m1.ext E22 fun hh=>hF'o _ hh Sm
 have Q22:=m3.ext E22 Gd
 have kY:av Y A w22:=(E21.ff fun b hb e=>Uc).trans<|E22.ff fun b hb hh=>g9 b (.inr<|.inr<|.inr<|.inr<|.inr<|.inr<|.inr<|.inl hh) hb
 have E022:aj FP w0 w22:=(g10.ft E21 fun i hi e=>Uc).ft E22 Gd
 have hF2o:∀b,F2 b->FP b\/(w0.heap.size<=b/\¬ (b=p2.block\/b=p3.block\/b=p4.block\/b=p5.block\/b=p6.block\/b=p8.block\/b=mb)):=fun b hb=>(hF2 b hb).elim (g8 b) Gd
 have hF2Y:∀b,F2 b->¬ Y b:=fun b hb hY=>(hF2 b hb).elim (fun h=>g9 b (.inr<|.inr<|.inr<|.inr<|.inr<|.inr<|.inr<|.inl h) hY) fun h=>Uc
 refine ⟨r4,r5,rfl,E22.ff fun b hb=>hb.elim,fun hc=>?_,fun hc=>?_⟩
 have h5:(bz cg.1 ⟨k,f,t',u,x,cg.2.2 a,cg.2.2 b⟩).2.1≠0:=by rw [<-he2];exact bne_iff_ne.1 hc
 have hfail:=@QL Lq cd post z L (fun _=>0) Uc ⟨k,f,t',u,x,cg.2.2 a,cg.2.2 b⟩ Uc Uc
 rw [<-hpost,hcg,<-he2] at hfail
 have hcs2:cs=(0,r5,L):=Uc
 refine ⟨ab p,n22.b2.dj,_,n22.b6.dj,?_⟩
 have⟨Mg,hMg⟩:=Jx Lq cd L fun _=>0
 rw [hcg] at hMg
 have hmk:∃M2,(bz cg.1 ⟨k,f,t',u,x,cg.2.2 a,cg.2.2 b⟩).2.2=cg.1++M2:=qM _ _
 have⟨M2,hM2⟩:=hmk
 rw [hM2,hMg,append_assoc] at hP2
 have hok2:Ok (L++(Mg++M2)):=by rw [<-append_assoc,<-hMg,<-hM2];exact JR hok _
 refine (Sx p L.length w22 hP2 hok2 Uc).mono ?_
 rintro _ w23 ⟨rfl,hP3,E23⟩
 rw [take_left] at hP3
 have n23:sK w23 p q p2 p3 p4 p5 p6 p8 mb L.length:=n22.ext (F':=F') (FQ:=FQ) E23 Gd
 refine ⟨rfl,E23.ff fun b hb=>hb.elim,n23.b4.mi Sm,id,?_⟩
 rintro w24 e24
 have X24:aj (·=p4.block) w23 w24:=by rw [e24];exact aj.setCell _ _
 have B24:az w24 p4 [vi 0] 73:=by rw [e24];exact n23.b4.nw
 have B25:=n23.b5.ext X24 fun e=>d45 e.symm
 refine ⟨B25.mi Sm,id,?_⟩
 rintro w25 e25
 have X25:aj (·=p5.block) w24 w25:=by rw [e25];exact aj.setCell _ _
 have B25':az w25 p5 [vi r5] 54:=by rw [e25];exact B25.nw
 have nF:∀b,F2 b->b≠p4.block/\b≠p5.block:=fun b hb=>(hF2o b hb).elim (fun h=>Uc) Gd
 have nY4:¬ Y p4.block:=g9 _<|.inr<|.inr<|.inl rfl
 have nY5:¬ Y p5.block:=g9 _<|.inr<|.inr<|.inr<|.inl rfl
 refine ⟨((kY.trans<|E23.ff fun b hb hh=>hF2Y b hh hb).trans<|X24.ff fun b hb e=>nY4<|e▸hb).trans (X25.ff fun b hb e=>nY5<|e▸hb),F2,r5,hcs2,(hP3.ext X24 fun b hb e=>(nF b hb).1 e).ext X25 fun b hb e=>(nF b hb).2 e,B24.ext X25 d45,B25',fun b hb=>(hF2o b hb).imp id fun h=>h.1,?_,((E022.ft E23 Gd).ft X24 fun i hi e=>Om).ft X25 fun i hi e=>Om⟩
 rintro b (rfl | rfl | hb)
 exact nY4
 exact nY5
 exact hF2Y b hb
 have h5:(bz cg.1 ⟨k,f,t',u,x,cg.2.2 a,cg.2.2 b⟩).2.1=0:=by rw [<-he2];simpa using hc
 have hnext:=@OD Lq cd z L (fun _=>0) Uc ⟨k,f,t',u,x,cg.2.2 a,cg.2.2 b⟩ Uc Uc
 rw [hcg,<-he1] at hnext
 have hlk:SE.iv M z=bo:=uQ.2 Uc
 have⟨w26,hr26,hM26,X26⟩:=M22.put (P:=prog) (T:=197) underlying197 underlying73 hlk r4
 have nm:∀b,F2 b->b≠mb:=fun b hb=>(hF2o b hb).elim Gd fun h e=>h.2 Uc
 have nYm:¬ Y mb:=g9 _<|.inr<|.inr<|.inr<|.inr<|.inr<|.inr<|.inl rfl
 have hmbo:=(ob mb Sm).1
 refine ⟨ab mb,n22.b8.dj,w26,hr26,X26.ff fun b hb=>hb.elim,kY.trans<|X26.ff fun b hb e=>nYm<|e▸hb,F2,M++[(z,r4)],Uc,by rw [hnext];exact hP2.ext X26 fun b hb e=>nm b hb e,hM26,Uc,?_,n22.ext (F':=F') (FQ:=FQ) X26 fun b hb e=>dm b hb e,Q22.ext X26 Gd,hF2o,?_,E022.ft X26 fun i hi e=>Om,Oh X26.size⟩
 intro y
 rw [hnext]
 simp only
 unfold Bl
 rw [M4 Uc]
 by_cases e:y=z
 rw [bt e,bt e.symm];rfl
 rw [aw e,aw fun h=>e h.symm];exact g5 y
 rintro b (hb | hb | hb | hb | hb | hb | hb | hb | hb)
 exact g9 b<|.inl hb
 exact g9 b<|.inr<|.inl hb
 exact g9 b<|.inr<|.inr<|.inl hb
 exact g9 b<|.inr<|.inr<|.inr<|.inl hb
 exact g9 b<|.inr<|.inr<|.inr<|.inr<|.inl hb
 exact g9 b<|.inr<|.inr<|.inr<|.inr<|.inr<|.inl hb
 grind
 exact hF2Y b hb
 exact g9 b<|.inr<|.inr<|.inr<|.inr<|.inr<|.inr<|.inr<|.inr hb
 rintro H1 w27 hs27 _ _ ⟨F',M,g1,g2,g3,g4,g5,g6,g7,g8,g9,g10,g11⟩
 have hcs2:cs=((zS Lq xs L fun _=>0).2.2 t,0,(zS Lq xs L fun _=>0).1):=Uc
 have hlk:(Instr.lookup 197 (.map<|ab mb) (vi t) ak).run prog w27=.ok (vi<|(zS Lq xs L fun _=>0).2.2 t) w27:=by
  rw [g5 t];rcases g3.get (P:=prog) (T:=197) underlying197 underlying73 (zeroValue73 _) t ak with ⟨hn,hr⟩ | ⟨v,hv,hr⟩;unfold Bl;rw [hn];exact hr;unfold Bl;rw [hv];exact hr
 generalize hcg:zS Lq xs L (fun _=>0)=cg at *
 have nY4:¬ H1 p4.block:=g9 _<|.inr<|.inr<|.inl rfl
 have nY5:¬ H1 p5.block:=g9 _<|.inr<|.inr<|.inr<|.inl rfl
 refine ⟨ab mb,g6.b8.dj,_,hlk,g6.b4.mi Sm,nY4,?_⟩
 rintro w28 e28
 have X28:aj (·=p4.block) w27 w28:=by rw [e28];exact aj.setCell _ _
 have B28:az w28 p4 [vi<|cg.2.2 t] 73:=by rw [e28];exact g6.b4.nw
 have B28':=g6.b5.ext X28 fun e=>d45 e.symm
 refine ⟨B28'.mi Sm,nY5,?_⟩
 rintro w29 e29
 have X29:aj (·=p5.block) w28 w29:=by rw [e29];exact aj.setCell _ _
 have B29:az w29 p5 [vi 0] 54:=by rw [e29];exact B28'.nw
 have B29':=B28.ext X29 d45
 intro w30 hs30
 have nF:∀b,F' b->b≠p4.block/\b≠p5.block:=fun b hb=>(g8 b hb).elim (fun h=>Oh<|hP.lt h) fun h=>⟨fun e=>h.2<|.inr<|.inr<|.inl e,fun e=>h.2<|.inr<|.inr<|.inr<|.inl e⟩
 refine ⟨_,(B29'.ext hs30.ext nY4).dj,_,(B29.ext hs30.ext nY5).dj,?_⟩
 rw [hcs2]
 refine ⟨rfl,rfl,F',((g2.ext X28 fun b hb e=>(nF b hb).1 e).ext X29 fun b hb e=>(nF b hb).2 e).ext hs30.ext fun b hb=>g9 b<|.inr<|.inr<|.inr<|.inr<|.inr<|.inr<|.inr<|.inl hb,((g10.ft X28 fun i hi e=>Om).ft X29 fun i hi e=>Om).bh hs30,fun b hb=>(g8 b hb).imp id fun h=>h.1⟩
 rintro cd H2 w32 hs32 ⟨F',e,g1,g2,g3,g4,g5,g6,g7⟩
 refine ⟨_,g3.dj,_,g4.dj,?_⟩
 rw [g1]
 exact ⟨rfl,rfl,F',g2,g7,g5⟩
def zIA{S0}(p sb bs w0){L FP}(r:Wf L)(k:zH w0 p L FP)(hs:gr S0 w0 1 sb (gO bs))(C:sb.a=bo->sb=Sl.nil):
  cl 71 #[vp<|ab p,sb.v] w0<|XN fun t x y w'=>t=(yM L bs).1/\x=(yM L bs).2.1/\y=((yM L bs).2.2.1:Int)/\∃F',zH w' p (yM L bs).2.2.2 F'/\aj FP w0 w'/\∀b,F' b->FP b\/w0.heap.size<=b:=by
 refine TF _ _ w0 _ ?_
 refine⟨fun o=>Uc,fun _=>?_⟩
 refine(Uf sb bs w0 hs C).mono ?_
 rintro _ s ⟨x,y,z,rfl,i,m,e,d⟩
 refine⟨_,_,_,rfl,?_⟩
 cases c:(zY bs).1 with
 |none =>
  have l:yM L bs=(0,(zY bs).2.1,(zY bs).2.2,L):=by unfold yM;rw[c]
  have B:y≠0:=by rw[i];exact xR c
  refine⟨fun _=>?_,fun o=>absurd Uc B⟩
  rw[l]
  exact⟨rfl,i,m,FP,k.pure d,aj.pure d,fun b g=>.inl g⟩
 |some q =>
  obtain⟨a,F,rfl,f,E⟩:=e.ew c
  have⟨D,_,G,_⟩:=uY c
  have w:=KZ c
  have l:yM L bs=((vF L q q.length).1,(vF L q q.length).2.1,0,(vF L q q.length).2.2):=by unfold yM;rw[c]
  rw[w]at i
  refine⟨fun o=>absurd i Uc,fun _=>?_⟩
  refine(IW a s f).mono ?_
  rintro _ u ⟨_,rfl,rfl,rfl⟩
  refine⟨_,rfl,?_⟩
  refine(Qn p a q.length u r D (k.pure d) f fun b g hh=>Oi (k.lt g)<|E b hh).mono ?_
  rintro _ H ⟨r1,r2,rfl,h1,h2,F',j,A,n⟩
  refine⟨_,_,rfl,?_⟩
  rw[l]
  exact⟨h1,h2,rfl,F',j,(aj.pure d).trans A,fun b g=>(n b g).imp id fun h=>Oh d.size⟩
def UH{w e sz s rs}(h:c9 w e sz s rs):s.a=bo->s=Sl.nil:=by
 intro b;rcases h.bf with⟨h,_⟩|⟨g,ga,h,_⟩;exact h;rw[b]at h;cases h
def Vc(f:fj):∀args w,(callFunc f.put args).run prog w=.ok (.enter f.put args) w:=by
 cases f;exact call249;exact call253;exact call255;exact call257;exact call261;exact call263
def zDH{P T K E Q w m}{es:List (bk×bk)}(h:pk w m es)(c:P.underlying T=ab (.map K E)):(Builtin.len_ #[T] Q #[.map<|ab m]).run P w=.ok (vi (es.length:Int)) w:=by
 obtain⟨b,a,e,rfl,_,_⟩:=h.ex;have d:(getObj m).run P w=.ok (.map b a) w:=by simp[getObj,Sem.run,e]
 simp[Builtin.len_,run_underlying c,d,goInt]
def Zh{n}(h:fj.fst∈qL n.ba):n.a∈zB n:=by
 unfold qL at h;unfold zB fl
 repeat' split at h
 all_goals first|(exfalso;revert h;decide)|skip
 all_goals (rename_i h1;rw[h1];simp)
def zGY{n}(h:fj.snd∈qL n.ba):n.b∈zB n:=by
 unfold qL at h;unfold zB fl
 repeat' split at h
 all_goals first|(exfalso;revert h;decide)|skip
 all_goals (rename_i h1;rw[h1];simp)
structure OS(p2 p3 p4 p6:ao)(m mb:Nat)(FP F:NP)(B:Nat):Prop where
 lt:p2.block<B/\p3.block<B/\p4.block<B/\p6.block<B/\m<B/\mb<B
 lF:∀b,F b->b<B
 lP:∀b,FP b->b<B
 d3:p2.block≠p3.block/\p4.block≠p3.block/\p6.block≠p3.block/\mb≠p3.block/\m≠p3.block/\¬F p3.block/\¬FP p3.block
 db:p2.block≠mb/\p4.block≠mb/\p6.block≠mb/\m≠mb/\¬F mb/\¬FP mb
def EE(p2 p3 p4 p6:ao)(m mb:Nat)(FP F:NP)(s:Sl)(b:Nat):Prop:=
 b=p2.block\/b=p3.block\/b=p4.block\/b=p6.block\/b=m\/b=mb\/F b\/FP b\/s.bg b
structure ss(A:af)(p p2 p3 p4 p6:ao)(m mb:Nat)(L:bw)(FP F:NP)(s:Sl)(bs:List UInt8)(M:List (Int×Int)):Prop where
 b2:az A p2 [vp<|ab p] 91
 b3:az A p3 [s.v] 59
 b4:az A p4 [.map<|ab m] 249
 b6:az A p6 [.map<|ab mb] 231
 fg:c9 A 5 1 s (gO bs)
 sH:jm (fun i:Int=>vi i) A mb M
 pL:sd A m F
 ew:zH A p L FP
section
variable {A A':af} {p p2 p3 p4 p6:ao} {m mb B:Nat} {L:bw} {FP F G:NP} {s s':Sl} {bs bs':List UInt8} {M:List (Int×Int)}
def ss.ext(h:ss A p p2 p3 p4 p6 m mb L FP F s bs M)(E:aj G A A')(a:∀b,EE p2 p3 p4 p6 m mb FP F s b->¬G b):ss A' p p2 p3 p4 p6 m mb L FP F s bs M:=
 ⟨h.b2.ext E<|a _<|.inl rfl,h.b3.ext E<|a _<|.inr<|.inl rfl,h.b4.ext E<|a _<|.inr<|.inr<|.inl rfl,h.b6.ext E<|a _<|.inr<|.inr<|.inr<|.inl rfl,
 h.fg.ext E fun b c=>a b<|.inr<|.inr<|.inr<|.inr<|.inr<|.inr<|.inr<|.inr c,h.sH.ext E<|a _<|.inr<|.inr<|.inr<|.inr<|.inr<|.inl rfl,
 h.pL.ext E fun b c=>c.elim (fun c=>a b<|.inr<|.inr<|.inr<|.inr<|.inr<|.inr<|.inl c) fun e=>a b<|.inr<|.inr<|.inr<|.inr<|.inl e,
 h.ew.ext E fun b c=>a b<|.inr<|.inr<|.inr<|.inr<|.inr<|.inr<|.inr<|.inl c⟩
def ss.pure(h:ss A p p2 p3 p4 p6 m mb L FP F s bs M)(E:aq A A'):ss A' p p2 p3 p4 p6 m mb L FP F s bs M:=h.ext E fun _ _ h=>h
def ss.lt(h:ss A p p2 p3 p4 p6 m mb L FP F s bs M){b}(a:EE p2 p3 p4 p6 m mb FP F s b):b<A.heap.size:=by
 rcases a with rfl|rfl|rfl|rfl|rfl|rfl|a|a|a;exact h.b2.lt;exact h.b3.lt;exact h.b4.lt;exact h.b6.lt;exact h.pL.Bo;exact h.sH.lt;exact h.pL.lt _ a;exact h.ew.lt a;exact h.fg.lt a
def ss.put(h:ss A p p2 p3 p4 p6 m mb L FP F s bs M)(S:OS p2 p3 p4 p6 m mb FP F B)(hs:∀b,s.bg b->B<=b)(k:∀b,s'.bg b->B<=b)(E:aj s.bg A A')(i:c9 A' 5 1 s' (gO bs')):
  ss (A'.setCell p3 s'.v) p p2 p3 p4 p6 m mb L FP F s' bs' M/\aj (fun b=>s.bg b\/b=p3.block) A (A'.setCell p3 s'.v):=by
 have e:aj (·=p3.block) A' (A'.setCell p3 s'.v):=aj.setCell p3 _
 have a:aj (fun b=>s.bg b\/b=p3.block) A (A'.setCell p3 s'.v):=(E.mono fun b _ h=>.inl h).trans<|e.mono fun b _ h=>.inr h
 have⟨u,g,r,o,j,lb⟩:=S.lt
 have⟨d2,q,n,t,l,f,d⟩:=S.d3
 have ns:∀b,b<B->¬s.bg b:=fun b c hh=>Uc
 have b3:=(h.b3.ext E<|ns _ g).nw (v:=s'.v)
 refine⟨⟨h.b2.ext a ?_,b3,h.b4.ext a ?_,h.b6.ext a ?_,i.ext e Gd,h.sH.ext a ?_,h.pL.ext a ?_,h.ew.ext a ?_⟩,a⟩
 grind
 grind
 grind
 grind
 rintro b (c|rfl) (hh|hh)
 exact ns _ (S.lF b c) hh
 subst hh;exact f c
 exact ns _ j hh
 exact l hh
 rintro b c (hh|hh)
 exact ns _ (S.lP b c) hh
 subst hh;exact d c
end
def VH(p:ao)(t:Int)(V:af){L:bw}{FP:NP}(hW:Wf L)(hN:yT L)(hP:zH V p L FP):
  cl 110 #[vp<|ab p,vi t] V<|XA fun r w'=>jd V 5 1 (gO<|qJ L t) r w':=by
 refine Xl _ _ V _ ?_
 intro p2 w1 h1 p3 w2 h2
 have E1:aq V w1:=aj.bu h1
 have E2:aq w1 w2:=aj.bu h2
 have B2:=(az.fi h1).pure E2
 have B3:=az.fi h2
 have s1:=h2.gp;have l2:=(az.fi h1).lt;have l3:=B3.lt;have z1:=E1.size;have z2:=E2.size
 refine(Mx w2).mono ?_
 rintro _ w3 ⟨_,rfl,m,F,rfl,hK,E3,hm,hF⟩
 have lm:=hK.Bo
 refine⟨_,rfl,E3.dy,?_⟩
 intro p4 w4 h4
 have E4:aq w3 w4:=aj.bu h4
 have B4:=az.fi h4
 have s4:=h4.gp;have l4:=B4.lt;have z4:=E4.size
 refine⟨B4.mi Sm,fun h=>h,?_⟩
 rintro w5 h5
 have X5:aj (·=p4.block) w4 w5:=by rw[h5];exact aj.setCell p4 _
 have B4':az w5 p4 [.map<|ab m] 249:=by rw[h5];exact B4.nw
 have z5:=X5.size
 intro p5 w6 h6
 have E6:aq w5 w6:=aj.bu h6
 have M5:=jm.fi (f:=fun i:Int=>vi i) h6
 have s6:=h6.gp;have l5:=M5.lt;have z6:=E6.size
 intro p6 w7 h7
 have E7:aq w6 w7:=aj.bu h7
 have B6:=az.fi h7
 have s7:=h7.gp;have l6:=B6.lt;have z7:=E7.size
 refine⟨B6.mi Sm,fun h=>h,?_⟩
 rintro w8 h8
 have X8:aj (·=p6.block) w7 w8:=by rw[h8];exact aj.setCell p6 _
 have B6':az w8 p6 [.map<|ab p5.block] 231:=by rw[h8];exact B6.nw
 have z8:=X8.size
 have E08:=((((((E1.trans E2).trans E3).trans E4).bf Om X5).trans E6).trans E7).bf Om X8
 have P8:=hP.pure E08
 have up:∀{T:dz} {c:ao} {vs:List bk},az w5 c vs T->c.block≠p6.block->az w8 c vs T:=fun h h2=>((h.pure E6).pure E7).ext X8 h2
 have up3:∀{T:dz} {c:ao} {vs:List bk},az w2 c vs T->c.block≠p4.block->c.block≠p6.block->az w8 c vs T:=fun h h1 h2=>up (((h.pure E3).pure E4).ext X5 h1) h2
 have B28:=up3 B2 Om Om
 have B38:=up3 B3 Om Om
 have B48:=up B4' Om
 have M58:=(M5.pure E7).ext X8 Om
 have hFlt:=hK.lt
 have K8:=(((((hK.pure E4).ext X5 fun b d e=>d.elim (fun d=>Uc) fun d=>Om).pure E6).pure E7).ext X8 fun b d e=>d.elim (fun d=>Uc) fun d=>Om)
 refine⟨ab p,B28.dj,?_⟩
 refine(IM p t w8).mono ?_
 rintro _ w9 ⟨_,rfl,q2,q3,rfl,Bq2,Bq3,K⟩
 have z9:=K.size
 have E09:=E08.trans K
 refine⟨_,rfl,K.dy,_,_,rfl,call178,_,_,Hr hW (P8.pure K) Bq2 Bq3,?_⟩
 have hPlt:∀b,FP b->b<V.heap.size:=fun b d=>hP.lt d
 have S:OS p2 p3 p4 p6 m p5.block FP F w9.heap.size:=⟨⟨Om,Om,Om,Om,Om,Om⟩,fun b d=>Uc,fun b d=>Uc,
  ⟨Om,Om,Om,Om,Om,fun d=>Uc,fun d=>Uc⟩,⟨Om,Om,Om,Om,fun d=>Uc,fun d=>Uc⟩⟩
 have A9:ss w9 p p2 p3 p4 p6 m p5.block L FP F Sl.nil [] []:=⟨B28.pure K,B38.pure K,B48.pure K,B6'.pure K,c9.nil _ _ _,M58.pure K,K8.pure K,P8.pure K⟩
 have hnil:∀b,¬Sl.nil.bg b:=fun b d=>by have⟨a,h,_⟩:=d;cases h
 have hfew:=tA hW t
 have hsub:∀u∈gz L t,bj L u=ai:=fun u hu=>have h:=(A6 hW).1 hu;(mw.le hW h.1 h.2).1
 have hord:=I2 hW t
 have hnd:=EC hW t
 have htx:qJ L t=kh L [] (gz L t):=rfl
 rw[htx]
 generalize hxs:gz L t=xs at *
 have hL:=hW.ok.jl
 generalize hB:w9.heap.size=B at *
 generalize p5.block=mb at *
 clear up up3 B28 B38 B48 M58 K8 P8 B2 B3 B4 B4' M5 B6 B6' X5 X8 E1 E2 E3 E4 E6 E7 h1 h2 h4 h5 h6 h7 h8 hK hF hFlt Bq2 Bq3
 refine⟨fun cd Y A=>∃s,ss A p p2 p3 p4 p6 m mb L FP F s (kh L [] cd) (uV 0 cd)/\(∀b,s.bg b->B<=b)/\(∀b,EE p2 p3 p4 p6 m mb FP F s b->¬Y b)/\B<=A.heap.size/\aq V A,⟨fun _ _ _ _=>trivial,?_,fun _ _ _ _ _ h=>h.elim,fun _ _ _ _ _ h=>h.elim⟩,?_,?_,?_⟩
 rintro cd Y A Y' A' ⟨s,E,hs,q,hz,hE⟩ bh
 have hv':∀b,EE p2 p3 p4 p6 m mb FP F s b->¬Y' b:=bh.mn fun b d=>⟨E.lt d,q b d⟩
 exact⟨s,E.ext bh.ext hv',hs,hv',Nat.le_trans hz bh.ext.size,hE.bh bh⟩
 exact⟨Sl.nil,A9,fun b d=>(hnil b d).elim,fun b _ h=>h,Om,E09⟩
 rintro cd z Y A ⟨s,E,hs,q,hz,hE⟩ hsA ⟨post,Z⟩
 have hzin:bj L z=ai:=hsub z Uc
 have hprein:∀u∈cd,bj L u=ai:=fun u hu=>hsub u Uc
 have hplen:cd.length<65536:=Uc
 have hzn:z∉cd:=by
  rw[Z]at hnd;have:=(nodup_append.1 hnd).2.2;exact fun h=>this z h z Sm rfl
 have hbs:=PK hW hN cd [] hprein Uc
 refine⟨ab p,E.b2.dj,?_⟩
 refine(wh p z A E.ew hW.ok).mono ?_
 rintro _ w10 ⟨k,r,G,u,x,a,b,r3,rfl,⟨hn,_⟩,N⟩
 refine⟨_,_,_,_,_,_,_,_,rfl,N.dy,fun H1 w12 o=>?_⟩
 have⟨k1,k9,f0,f1,t0,t1,x1⟩:=yu hW hzin
 have D:=hN.dr z
 have hko:=hord cd z post Z
 have hnt:yC L cd z=UInt8.ofNat k.toNat ::(qL k).flatMap (fj.bytes ⟨k,r,G,u,x,a,b⟩ (gv cd a)<|gv cd b):=by rw[yC,<-hn]
 rw[<-hn]at k1 k9 f0 f1 t0 t1 x1 D hko
 simp only at k1 k9 f0 f1 t0 t1 x1 D
 have J:∀b,H1 b->A.heap.size<=b:=o.old
 have A12:=(E.pure N).ext o.ext fun b d hh=>Oi (J b hh)<|E.lt d
 have E012:aq V w12:=(hE.trans N).ft o.ext fun i hi hh=>Uc
 have k12:av Y A w12:=(N.dy).trans<|o.ext.ff fun b d hh=>Oi (J b hh)<|hsA.lt b d
 have z10:=N.size
 have z12:=o.ext.size
 refine⟨s,A12.b3.dj,fun p8 w13 h8=>?_⟩
 have E13:aq w12 w13:=aj.bu h8
 have A13:=A12.pure E13
 have z13:=E13.size
 obtain⟨kn,rfl⟩:∃kn:Nat,k=kn:=⟨k.toNat,Om⟩
 simp only[Int.toNat_natCast]at hnt
 rw[yb]at h8
 have⟨s1,w14,hr,hR,hEx,d⟩:=A13.fg.append (P:=prog) (ty:=59) (c:=1) wU (az.j0 h8).row rfl rfl (by rw[vW];omega) (by rw[vW];simp only[maxLen];omega)
 have hs1:∀b,s1.bg b->B<=b:=fun b hh=>(d b hh).elim (hs b) fun h=>Om
 have hy1:∀b,s1.bg b->¬Y b:=fun b hh g=>(d b hh).elim (fun h=>q b (.inr<|.inr<|.inr<|.inr<|.inr<|.inr<|.inr<|.inr h) g) fun h=>Oh<|hsA.lt b g
 have h3A:p3.block<A.heap.size:=E.b3.lt
 have hH3:¬H1 p3.block:=fun h=>Uc
 have hHs:∀b,H1 b->¬s.bg b:=fun b hh d=>Oi (J b hh)<|E.fg.lt d
 have hY3:¬Y p3.block:=q _<|.inr<|.inl rfl
 have hYs:∀b,Y b->¬s.bg b:=fun b g d=>q b (.inr<|.inr<|.inr<|.inr<|.inr<|.inr<|.inr<|.inr d) g
 refine⟨s1,w14,hr,hEx.ff hHs,((A13.b3.ext hEx fun d=>Uc).mi Sm),hH3,?_⟩
 rintro w15 h15
 have hR':c9 w14 5 1 s1 (gO<|kh L [] cd++[UInt8.ofNat kn]):=by rw[Eu];exact hR
 have⟨A15,X15⟩:=A13.put S hs hs1 hEx hR'
 rw[<-h15]at A15 X15
 have E015:aq V w15:=(E012.trans E13).ft X15 fun i hi hh=>hh.elim (fun hh=>Uc) fun hh=>Om
 have k15:av Y A w15:=(k12.trans E13.dy).trans<|X15.ff fun b g hh=>hh.elim (hYs b g) fun e=>Uc
 have z15:=X15.size
 have⟨fs,hlk,hLf⟩:=A15.pL.get kn k1 k9 ak
 refine⟨ab m,A15.b4.dj,fs,hlk,?_⟩
 have hfl3:=Hi kn
 refine⟨fun y H w=>∃(j:Nat) (s:Sl),y=j/\j<=(qL kn).length/\H=H1/\ss w p p2 p3 p4 p6 m mb L FP F s (kh L [] cd++UInt8.ofNat kn ::((qL kn).take j).flatMap (fj.bytes ⟨kn,r,G,u,x,a,b⟩ (gv cd a)<|gv cd b)) (uV 0 cd)/\gr F w 2 fs ((qL kn).map fj.row)/\(∀b,s.bg b->B<=b)/\(∀b,s.bg b->¬Y b)/\av Y A w/\aq V w/\A.heap.size<=w.heap.size,fun y _=>(((qL kn).length:Int)-y).toNat,⟨0,s1,rfl,Nat.zero_le _,rfl,Uc,hLf,hs1,hy1,k15,E015,Om⟩,?_⟩
 rintro _ _ wl bh ⟨j,s2,rfl,hj,rfl,v,hL2,hs2,hy2,k2,E2,z2⟩
 unfold Na
 have hlen:fs.ay=(qL kn).length:=by rw[hL2.ay,length_map]
 refine⟨fun M=>?_,fun M=>?_⟩
 have M:=vA hlen M
 have⟨a1,hat,hF1,hrow⟩:=hL2.at_ j Uc
 rw[getElem_map]at hrow
 refine⟨a1,hat,.func (.func (qL kn)[j].put) #[] #[],.func (.func (qL kn)[j].get) #[] #[],hrow,fun p9 w16 h9=>?_⟩
 have I:aq wl w16:=aj.bu h9
 have B9:=az.j0 h9
 have s9:=h9.gp
 have z16:=I.size
 refine⟨⟨rfl,B9.uy Sm⟩,fun hh=>Oh<|bh.lt _ hh,?_⟩
 rintro R h17
 have U:aj (·=p9.block) w16 R:=by rw[h17];exact aj.ib _ _ _
 have B9':az R p9 [.func (.func (qL kn)[j].put) #[] #[],.func (.func (qL kn)[j].get) #[] #[]] 255:=by rw[h17];exact B9.store rfl
 have C:=(v.pure I).ext U fun b d e=>Oh<|v.lt d
 have L17:=(hL2.pure I).ext U fun b d e=>Oh<|v.pL.lt b d
 have z17:=U.size
 have E017:aq V R:=(E2.trans I).bf Uc U
 have k17:av Y A R:=(k2.trans I.dy).trans<|U.ff fun b g e=>Oh<|hsA.lt b g
 refine⟨_,B9'.dj,s2,C.b3.dj,ab mb,C.b6.dj,_,#[],#[],rfl,Vc _,?_⟩
 simp only[Array.empty_append,Array.append_empty]
 have hbl:=LA (fj.bytes ⟨kn,r,G,u,x,a,b⟩ (gv cd a)<|gv cd b) 74 ((qL kn).take j) fun f _=>K4 _ _ _ f f1 t1 D x1 (Oh<|tU cd a)<|Oh<|tU cd b
 have hbl2:((qL kn).take j).length<=3:=Uc
 have hbn:(kh L [] cd++UInt8.ofNat kn ::((qL kn).take j).flatMap (fj.bytes ⟨kn,r,G,u,x,a,b⟩ (gv cd a)<|gv cd b)).length<=10000000000:=by
  rw[length_append,length_cons];omega
 refine(Wp (qL kn)[j] s2 _ ⟨kn,r,G,u,x,a,b⟩ (gv cd a) (gv cd b) mb (uV 0 cd) R C.fg.gS (UH C.fg) hbn ⟨f0,Uc⟩ ⟨t0,Uc⟩ D Uc C.sH (fun e=>?_) fun e=>?_).mono ?_
 have O:a∈cd:=hko _<|Zh (n:=⟨kn,r,G,u,x,a,b⟩) Uc
 exact⟨by rw[OC cd a O 0];simp,Oh<|tU cd a⟩
 have O:b∈cd:=hko _<|zGY (n:=⟨kn,r,G,u,x,a,b⟩) Uc
 exact⟨by rw[OC cd b O 0];simp,Oh<|tU cd b⟩
 rintro _ w18 ⟨r4,rfl,X⟩
 have E18:=X.pure
 have z18:=E18.size
 refine⟨r4,rfl,X.ff,(C.b3.pure E18).mi Sm,hH3,?_⟩
 rintro w19 h19
 have hs4:∀b,r4.bg b->B<=b:=fun b d=>Oh<|X.bf b d
 have hR5:c9 w18 5 1 r4 (gO (kh L [] cd++UInt8.ofNat kn ::((qL kn).take<|j+1).flatMap (fj.bytes ⟨kn,r,G,u,x,a,b⟩ (gv cd a)<|gv cd b))):=by
  have e:kh L [] cd++UInt8.ofNat kn ::((qL kn).take<|j+1).flatMap (fj.bytes ⟨kn,r,G,u,x,a,b⟩ (gv cd a)<|gv cd b)=(kh L [] cd++UInt8.ofNat kn ::((qL kn).take j).flatMap (fj.bytes ⟨kn,r,G,u,x,a,b⟩ (gv cd a)<|gv cd b))++(qL kn)[j].bytes ⟨kn,r,G,u,x,a,b⟩ (gv cd a) (gv cd b):=by
   rw[take_succ_eq_append_getElem M,flatMap_append];simp
  rw[e];exact X.fg
 have⟨A19,W⟩:=C.put S hs2 hs4 E18.pure hR5
 rw[<-h19]at A19 W
 have z19:=W.size
 refine⟨⟨j+1,r4,zI M Om,M,trivial,A19,L17.ext W fun b d hh=>?_,hs4,fun b d g=>Oi (X.bf b d)<|hsA.lt b g,k17.trans<|W.ff fun b g hh=>hh.elim (fun h=>hy2 b h g) fun e=>Uc,E017.ft W fun i hi hh=>hh.elim (fun hh=>Uc) fun hh=>Om,Om⟩,?_⟩
 rcases hh with hh|hh
 have:=hs2 b hh;have:=S.lF b d;omega
 subst hh;exact S.d3.2.2.2.2.2.1 d
 rw[zI M Om];exact vT M
 have M:=vH hlen hj M
 subst M
 rw[take_length]at v
 have e:kh L [] (cd++[z])=kh L [] cd++UInt8.ofNat kn ::(qL kn).flatMap (fj.bytes ⟨kn,r,G,u,x,a,b⟩ (gv cd a)<|gv cd b):=by rw[HH,nil_append,hnt]
 have hlk0:SE.iv (uV 0 cd) z=bo:=uQ.2 (by rw[Wx];exact hzn)
 have⟨w20,hr20,hM20,l⟩:=v.sH.put (P:=prog) (T:=231) underlying231 underlying73 hlk0 ((cd.length:Nat):Int)
 have hz3:(Builtin.len_ #[231] 3 #[.map<|ab mb]).run prog wl=.ok (vi ((cd.length:Nat):Int)) wl:=by
  have:=zDH v.sH.map (P:=prog) (T:=231) (Q:=3) underlying231;rw[length_map,Tr]at this;exact this
 have hYb:¬Y mb:=q _<|.inr<|.inr<|.inr<|.inr<|.inr<|.inl rfl
 have kk:∀{H:NP},¬H mb->av H wl w20:=fun h=>l.ff fun b d e=>Uc
 have hmbA:mb<A.heap.size:=E.sH.lt
 refine⟨ab mb,v.b6.dj,ab mb,v.b6.dj,_,hz3,w20,hr20,kk fun h=>Uc,k2.trans<|kk hYb,s2,?_,hs2,fun b d g=>?_,Oi l.size E2.size,E2.ft l fun i hi e=>Om⟩
 rw[e,TK,Nat.zero_add]
 have⟨g1,g2,g3,g4,g5,g6⟩:=S.db
 exact⟨v.b2.ext l g1,v.b3.ext l fun e=>S.d3.2.2.2.1 e.symm,v.b4.ext l g2,v.b6.ext l g3,v.fg.ext l fun b d e=>Uc,hM20,v.pL.ext l fun b d e=>d.elim (fun d=>Uc) fun d=>g4<|d▸e,v.ew.ext l fun b d e=>Uc⟩
 rcases d with d|d|d|d|d|d|d|d|d
 exact q b (.inl d) g
 exact q b (.inr<|.inl d) g
 exact q b (.inr<|.inr<|.inl d) g
 exact q b (.inr<|.inr<|.inr<|.inl d) g
 exact q b (.inr<|.inr<|.inr<|.inr<|.inl d) g
 exact q b (.inr<|.inr<|.inr<|.inr<|.inr<|.inl d) g
 exact q b (.inr<|.inr<|.inr<|.inr<|.inr<|.inr<|.inl d) g
 exact q b (.inr<|.inr<|.inr<|.inr<|.inr<|.inr<|.inr<|.inl d) g
 exact hy2 b d g
 rintro H2 w21 hs21 _ _ ⟨s,E,hs,q,hz,hE⟩
 refine⟨s,E.b3.dj,fun w22 hs22=>⟨E.fg.ext hs22.ext fun b d=>q b<|.inr<|.inr<|.inr<|.inr<|.inr<|.inr<|.inr<|.inr d,fun b d=>Uc,hE.bh hs22⟩⟩
def zHZ(p t w0){L FP}(m:Wf L)(v:yT L)(o:zH w0 p L FP):
  cl 53 #[vp<|ab p,vi t] w0<|XR fun r n w'=>n=(my L t).2/\jd w0 5 1 (gO (my L t).1) r w':=by
 refine jaK _ _ w0 _ ?_
 have f:∀b,¬Sl.nil.bg b:=fun b g=>by have⟨a,h,_⟩:=g;cases h
 refine(wh p t w0 o m.ok).mono ?_
 rintro _ z ⟨k,r,y,u,x,a,b,r3,rfl,⟨A,rfl⟩,l⟩
 refine⟨_,_,_,_,_,_,_,_,rfl,l.dy,fun c s q i=>?_,fun c s q i=>?_⟩
 have d:bj L t=ak:=by simpa using c
 have e:my L t=([],51):=by unfold my;rw[d];rfl
 rw[e]
 exact⟨rfl,c9.nil _ _ _,fun b g=>(f b g).elim,l.bh i⟩
 have d:bj L t=ai:=by simpa using c
 have j:=l.bh i
 refine(VH p t q m v<|o.pure j).mono ?_
 rintro _ w ⟨r2,rfl,h⟩
 have B:r2.ay=(qJ L t).length:=by rw[h.fg.ay,vW]
 refine⟨r2,rfl,h.ff,fun c=>?_,fun c=>?_⟩
 have c:=ij c
 have e:my L t=([],1):=by unfold my;rw[d,bt rfl,bt Om]
 rw[e]
 exact⟨rfl,c9.nil _ _ _,fun b g=>(f b g).elim,j.trans h.pure⟩
 have c:=il c
 have e:my L t=(qJ L t,0):=by unfold my;rw[d,bt rfl,aw Om]
 rw[e]
 exact⟨rfl,h.fg,fun b g=>Oi (h.bf b g) j.size,j.trans h.pure⟩
def jdt{w:af}{s:Sl}{bs:List UInt8}{S:NP}(h:gr S w 1 s (gO bs)):(convert 59 9 s.v).run prog w=.ok (vs ⟨bs.toArray⟩) w:=
 CJ underlying59 underlying5 underlying9 h
structure ky(S:NP)(w:af)(a:ao)(s:Sl)(bs:List UInt8)(r:Rd):Prop where
 box:az w a [s.v,vi (r.at_:Int),vi (r.gd:Int),vi (r.spot:Int)] 117
 gS:gr S w 1 s (gO bs)
 apart:∀b,S b->b≠a.block
 rj:bs.length<=100000000
 room:s.ay<=s.cap
section
variable {S:NP} {w w':af} {a:ao} {s:Sl} {bs:List UInt8} {r:Rd}
def ky.ext{F}(h:ky S w a s bs r)(E:aj F w w')(c:∀b,(b=a.block\/S b)->¬F b):ky S w' a s bs r:=
 ⟨h.box.ext E<|c _<|.inl rfl,h.gS.ext E fun b d=>c b<|.inr d,h.apart,h.rj,h.room⟩
def ky.pure(h:ky S w a s bs r)(E:aq w w'):ky S w' a s bs r:=h.ext E fun _ _ h=>h
def ky.oA(h:ky S w a s bs r):w.cell? (a.add 1)=ab (vi (r.at_:Int)):=h.box.cell (i:=1) rfl
def ky.sF(h:ky S w a s bs r):w.cell? (a.add 2)=ab (vi (r.gd:Int)):=h.box.cell (i:=2) rfl
def ky.ay(h:ky S w a s bs r):s.ay=bs.length:=by rw[h.gS.ay,vW]
def ky.xv(h:ky S w a s bs r)(k:Nat):ky S (w.setCell (a.add 1)<|vi (k:Int)) a s bs ⟨k,r.gd,r.spot⟩:=
 ⟨h.box.set 1 _,h.gS.ext (aj.setCell _ _) fun b c e=>h.apart b c (by rw[zD]at e;exact e),h.apart,h.rj,h.room⟩
def ky.IB(h:ky S w a s bs r)(k:Nat):ky S (w.setCell (a.add 2)<|vi (k:Int)) a s bs ⟨r.at_,k,r.spot⟩:=
 ⟨h.box.set 2 _,h.gS.ext (aj.setCell _ _) fun b c e=>h.apart b c (by rw[zD]at e;exact e),h.apart,h.rj,h.room⟩
def ky.Ko(h:ky S w a s bs r)(k:Nat):ky S (w.setCell (a.add 3)<|vi (k:Int)) a s bs ⟨r.at_,r.gd,k⟩:=
 ⟨h.box.set 3 _,h.gS.ext (aj.setCell _ _) fun b c e=>h.apart b c (by rw[zD]at e;exact e),h.apart,h.rj,h.room⟩
end
section
variable {S:NP} (a:ao) (s:Sl) (bs:List UInt8) (r:Rd) (w0:af)
def Oa(h:ky S w0 a s bs r)(g:r.gd=0)(e x:Nat):
  cl 170 #[vp<|ab a,vi e,vi x] w0<|fun c w'=>c=.returned (.tuple #[])/\(ky S w' a s bs ⟨r.at_,e,x⟩/\aj (·=a.block) w0 w'):=by
 refine W6 (ab a) _ _ w0 _ ?_
 refine⟨a,rfl,_,h.sF,fun _=>⟨a,rfl,h.box.im (i:=2) Sm,?_⟩,fun b=>absurd Uc<|beq_eq_false_iff_ne.1 b⟩
 rintro d rfl
 have h1:=h.IB e
 refine⟨a,rfl,h1.box.im (i:=3) Sm,?_⟩
 rintro f rfl
 exact⟨h1.Ko x,qP.trans qP⟩
def US(h:ky S w0 a s bs r)(c:r.at_<=bs.length):
  cl 58 #[vp<|ab a] w0<|XB fun x w'=>x=((bs.length-r.at_:Nat):Int)/\aq w0 w':=by
 refine TA (ab a) w0 _ ?_
 refine⟨a,rfl,fun d hs=>?_⟩
 have b:=hs.first
 have h1:=h.pure b
 refine⟨s,h1.box.dj,a,rfl,_,h1.oA,?_,b⟩
 rw[h.ay,IntWalk.i64_in _<|Oh h.rj];omega
def zLO(h:ky S w0 a s bs r)(d:r.at_<bs.length)(w:r.gd=0):
  cl 115 #[vp<|ab a] w0<|YF fun x w'=>x=(bs[r.at_].toNat:Int)/\ky S w' a s bs ⟨r.at_+1,0,r.spot⟩/\aj (·=a.block) w0 w':=by
 refine jal (ab a) w0 _ ?_
 have n:=h.rj
 refine⟨a,rfl,_,h.sF,fun f=>absurd Uc<|bne_iff_ne.1 f,fun _=>⟨a,rfl,fun u j=>?_⟩⟩
 have m:=j.first
 have h1:=h.pure m
 refine⟨_,h1.oA,a,rfl,s,h1.box.dj,fun f=>?_,fun _=>⟨a,rfl,_,h1.oA,a,rfl,h1.box.im (i:=1) Sm,id,?_⟩⟩
 .have:=beq_iff_eq.1 f;rw[h.ay]at this;omega
 rintro v k
 have t:=zI d Om
 rw[t]at k
 have h3:=h1.xv<|r.at_+1
 rw[<-k]at h3
 have o:aj (·=a.block) u v:=by rw[k];exact qP
 refine⟨a,rfl,fun y g=>?_⟩
 have l:=g.ext
 have b:=h3.pure l
 have q:q6.wrap (((r.at_+1:Nat):Int)-1)=(r.at_:Int):=by rw[IntWalk.i64_in _ Om];omega
 have⟨c,p,_,e⟩:=Ci b.gS d
 refine⟨s,b.box.dj,a,rfl,_,b.oA,c,Uc,_,e,rfl,?_,((aj.pure m).trans o).mh l⟩
 rw[w]at b;exact b
def zFP{P t w}(x k:Nat)(c:k<64)(h:x*2^k<18446744073709551616):(Go.binOp .shl t (.int .u64 (x:Int))<|.int .u64 (k:Int)).run P w=.ok (.int .u64 ((x*2^k:Nat):Int)) w:=by
 have b:dc.wrap ((x:Int)*2^min (k:Int).toNat dc.bits)=((x*2^k:Nat):Int):=by
  have:min (k:Int).toNat dc.bits=k:=by simp[IntKind.bits];omega
  rw[this,<-vX h];simp
 have a:¬((k:Int)<0):=Om;show(Op.shift .shl .u64 (x:Int) .u64 (k:Int)).run P w=_;unfold Op.shift;rw[aw a];show((pure (bk.int .u64<|dc.wrap<|(x:Int)*2^min (k:Int).toNat dc.bits):Sem bk)).run P w=_;rw[b];rfl
def zFQ{P t w}(c:Nat)(h:c<256):(Go.binOp .rem t (.int .u8 (c:Int))<|.int .u8 128).run P w=.ok (.int .u8 ((c%128:Nat):Int)) w:=by
 have a:((c:Int).tmod 128)=((c%128:Nat):Int):=Uc;simp[Go.binOp,Op.intDiv,a]
def MT(h:ky S w0 a s bs r)(hat:r.at_<=bs.length)(hS:∀b,(b=a.block\/S b)->b<w0.heap.size):
  cl 118 #[vp (ab a)] w0 (YG fun x w'=>x=((vS bs r).1:Int)/\ky S w' a s bs (vS bs r).2/\aj (·=a.block) w0 w'):=by
 refine TO (ab a) w0 _ ?_
 have hsm:=h.rj
 refine⟨a,rfl,_,h.sF,fun p=>?_,fun p=>?_⟩
 have K:r.gd≠0:=Oh (bne_iff_ne.1 p)
 have L:vS bs r=(0,r):=by unfold vS;rw[aw K]
 rw[L];exact⟨rfl,h,aj.refl _⟩
 have K:r.gd=0:=Gd
 have v : ∀(x:Nat)H w, (∀ b, (b = a.block \/ S b) -> ¬ H b) -> ky S w a s bs r -> aj (· = a.block) w0 w -> xU 0 0 (bs.drop r.at_) = .error x ->
   cl 170 #[vp (ab a),vi x,vi (r.at_:Int)] w (XG fun w'=>av H w w'/\((0:Int)=((vS bs r).1:Int)/\ky S w' a s bs (vS bs r).2/\aj (·=a.block) w0 w')):=by
  intro x H w M U hE d
  have L:vS bs r=(0,⟨r.at_,x,r.at_⟩):=by unfold vS;rw[bt K,d]
  refine(Oa a s bs r w U K x r.at_).mono ?_
  rintro _ w' ⟨rfl,hR',X⟩
  rw[L]
  exact⟨rfl,X.ff Gd,rfl,hR',hE.trans X⟩
 refine⟨fun n i Hl w=>∃e k:Nat,n=(e:Int)/\i=(k:Int)/\k<=9/\e<2^(7*k)/\r.at_+k<=bs.length/\xU k e (bs.drop (r.at_+k))=xU 0 0 (bs.drop r.at_)/\ky S w a s bs r/\(∀b,(b=a.block\/S b)->¬Hl b)/\aq w0 w,fun _ i _=>(10-i).toNat,⟨0,0,rfl,rfl,Om,Sm,Uc,rfl,h,fun _ _ h=>h,aj.refl _⟩,?_⟩
 rintro _ _ Hl wl hl ⟨e,k,rfl,rfl,hk,q,hle,d,U,M,hE⟩
 unfold Nj
 have hSl:∀{w:af},aq w0 w->∀b,(b=a.block\/S b)->b<w.heap.size:=fun E b hb=>Oi (hS b hb) E.size
 refine⟨a,rfl,fun w1 D=>?_⟩
 have z:=U.ext D.ext (D.mn Gd)
 have E1:=hE.bh D
 have A:q6.wrap ((r.at_:Int)+(k:Int))=((r.at_+k:Nat):Int):=by rw[IntWalk.i64_in _ Om];omega
 refine⟨_,z.oA,a,rfl,s,z.box.dj,fun p=>?_,fun p=>?_⟩
 have Y:r.at_+k=bs.length:=by rw[A]at p;have:=ij p;have:=z.ay;omega
 refine⟨a,rfl,_,z.oA,?_⟩
 exact v 3 Hl w1 M z (aj.pure E1) (by rw[<-d,Y,drop_length];rfl)
 have Q:r.at_+k<bs.length:=by rw[A]at p;have:=il p;have:=z.ay;omega
 refine⟨a,rfl,fun w3 F=>?_⟩
 have N:=z.ext F.ext (F.mn Gd)
 have T:=E1.bh F
 have⟨a7,hat7,_,Z⟩:=Ci N.gS Q
 have y:=drop_eq_getElem_cons Q
 refine⟨s,N.box.dj,a,rfl,_,N.oA,a7,Uc,_,Z,?_⟩
 generalize bs[r.at_+k]=c at *
 have C:=c.toNat_lt
 rw[y,xT]at d
 have l:∀{H H':NP} {w w':af},aq w0 w->(∀b,(b=a.block\/S b)->¬H b)->au w0 H w H' w'->∀b,(b=a.block\/S b)->¬H' b:=fun E M hs=>hs.mn Gd
 refine⟨fun hb=>⟨a,rfl,fun H1 w4 g=>?_⟩,fun hb H1 w4 g=>?_⟩
 have f:=l T M g
 have J:=N.ext g.ext f
 have G:k=9/\1<c.toNat:=Uc
 rw[bt G]at d
 exact⟨_,J.oA,v 11 H1 w4 f J (aj.pure (T.bh g)) d.symm⟩
 have f:=l T M g
 have J:=N.ext g.ext f
 have P:=T.bh g
 have G:¬(k=9/\1<c.toNat):=Uc
 rw[aw G]at d
 have R:c.toNat%128*2^(7*k)<18446744073709551616:=by
  by_cases h9:k=9;subst h9;omega;have h8:2^(7*k)<=2^56:=Nat.pow_le_pow_right Om Om;have u:c.toNat%128<=127:=Om
  calc c.toNat%128*2^(7*k)<=127*2^56:=Nat.mul_le_mul u h8
   _<18446744073709551616:=De
 have hac:=Nat.lt_of_lt_of_le q (by
  calc 2^(7*k)<=2^63:=Nat.pow_le_pow_right Om Om
   _<=18446744073709551616:=by decide)
 have h7:dc.wrap (q6.wrap (7*(k:Int)))=((7*k:Nat):Int):=by
  rw[IntWalk.i64_in _ Om,show(7*(k:Int))=((7*k:Nat):Int) by omega,vX Om]
 have t:128^k=2^(7*k):=by rw[Nat.pow_mul]
 have O:e |||(c.toNat%128*2^(7*k))=e+c.toNat%128*2^(7*k):=Rp q
 have hsl:e+c.toNat%128*2^(7*k)<18446744073709551616:=by rw[<-O];exact Nat.or_lt_two_pow (n:=64) hac R
 have V:dc.wrap ((e:Int)+((c.toNat%128*2^(7*k):Nat):Int))=((e+c.toNat%128*2^(7*k):Nat):Int):=by
  rw[show((e:Int)+((c.toNat%128*2^(7*k):Nat):Int))=((e+c.toNat%128*2^(7*k):Nat):Int) by omega,vX hsl]
 refine⟨_,zFQ c.toNat C,((c.toNat%128*2^(7*k):Nat):Int),by rw[h7,vX Om];exact zFP _ _ Om R,?_⟩
 rw[V]
 refine⟨fun hs=>?_,fun hs=>⟨fun hz=>⟨a,rfl,fun H2 w6 j=>?_⟩,fun hz=>⟨a,rfl,fun H2 w6 j=>?_⟩⟩⟩
 have m:¬c.toNat<128:=Oh (ij hs)
 rw[aw m,t]at d
 rw[zI (n:=10) Om Om]
 refine⟨⟨_,k+1,rfl,rfl,Om,?_,Om,d,J,f,P⟩,Uc⟩
 have:2^(7*(k+1))=128*2^(7*k):=Uc
 rw[this]
 have u:c.toNat%128*2^(7*k)<=127*2^(7*k):=Nat.mul_le_mul_right _ Om
 omega
 have m:c.toNat<128:=Oh (il hs)
 rw[bt m]at d
 have o:=l P f j
 have I:=J.ext j.ext o
 have B:c.toNat=0/\0<k:=Uc
 rw[bt B]at d
 exact⟨_,I.oA,v 10 H2 w6 o I (aj.pure (P.bh j)) d.symm⟩
 have m:c.toNat<128:=Oh (il hs)
 rw[bt m]at d
 have o:=l P f j
 have I:=J.ext j.ext o
 have B:¬(c.toNat=0/\0<k):=Uc
 rw[aw B,t]at d
 have L:vS bs r=(e+c.toNat*2^(7*k),⟨r.at_+(k+1),0,r.spot⟩):=by unfold vS;rw[bt K,<-d]
 rw[L]
 have W:q6.wrap (q6.wrap ((r.at_:Int)+(k:Int))+1)=((r.at_+(k+1):Nat):Int):=by
  rw[A,IntWalk.i64_in _ Om];omega
 refine⟨_,I.oA,a,rfl,I.box.im (i:=1) Sm,by rw[zD];exact o _ (.inl rfl),?_⟩
 rintro w8 e8
 rw[W]at e8
 have R8:=I.xv (r.at_+(k+1))
 rw[<-e8,K]at R8
 refine⟨Uc,R8,?_⟩
 rw[e8]
 exact(aj.pure (P.bh j)).trans qP
def Vv(c:Nat)(hm:c<1000000)(h:ky S w0 a s bs r)(J:r.at_<=bs.length)(hS:∀b,(b=a.block\/S b)->b<w0.heap.size):
  cl 119 #[vp (ab a),vi c] w0 (YC fun x w'=>x=⟨(qF bs c r).1.toArray⟩/\ky S w' a s bs (qF bs c r).2/\aj (·=a.block) w0 w'):=by
 refine Ut (ab a) _ w0 _ ?_
 have hsm:=h.rj
 refine⟨a,rfl,_,h.oA,?_⟩
 refine(MT a s bs r w0 h J hS).mono ?_
 rintro _ w1 ⟨_,rfl,rfl,l,D⟩
 refine⟨_,rfl,D.ff fun b y=>y.elim,a,rfl,_,l.sF,fun g=>?_,fun g=>?_⟩
 have he:(vS bs r).2.gd≠0:=Oh (bne_iff_ne.1 g)
 have hr:qF bs c r=([],(vS bs r).2):=by
  unfold qF vS at *;by_cases h0:r.gd=0;grind;rw[aw h0,aw h0]
 rw[hr];exact⟨rfl,l,D⟩
 have d:(vS bs r).2.gd=0:=Gd
 have⟨v,hdr,hn64⟩:=uJ d
 have hat1:=(DF bs r J)
 have Y:qF bs c r=(if c<(vS bs r).1 then([],⟨r.at_,1,r.at_⟩)else if bs.length<(vS bs r).2.at_+(vS bs r).1 then([],⟨r.at_,3,r.at_⟩)else((bs.drop (vS bs r).2.at_).take (vS bs r).1,⟨(vS bs r).2.at_+(vS bs r).1,0,r.spot⟩)):=by
  unfold qF vS at *;rw[bt v]at d|-;rw[bt v];cases j:xU 0 0 (bs.drop r.at_)with
  |error x=>rw[j]at d;simp only at d;exfalso;exact KT j d
  |ok p=>rfl
 have T:(vS bs r).2.spot=r.spot:=by
  unfold vS at d|-;rw[bt v]at d|-;cases j:xU 0 0 (bs.drop r.at_)with
  |error x=>rw[j]at d;simp only at d;exfalso;exact KT j d
  |ok p=>rfl
 rw[Y]
 generalize vS bs r=q at *
 have⟨n,r1⟩:=q
 simp only at *
 have F:∀b,(b=a.block\/S b)->b<w1.heap.size:=fun b y=>Oi (hS b y) D.size
 have B : ∀(e:Nat)H w w', (∀ b, (b = a.block \/ S b) -> ¬ H b) -> ky S w a s bs r1 -> aj (· = a.block) w0 w -> w' = w.setCell (a.add 1) (vi (r.at_ : Int)) ->
   cl 170 #[vp (ab a),vi e,vi (r.at_:Int)] w' (fun en z=>en=.returned (.tuple #[])/\av H w' z/\(ky S z a s bs ⟨r.at_,e,r.at_⟩/\aj (·=a.block) w0 z)):=by
  intro e H w w' m hR hE e'
  have G:=hR.xv r.at_
  rw[<-e']at G
  refine(Oa a s bs _ w' G d e r.at_).mono ?_
  rintro _ z ⟨rfl,Z,X⟩
  refine⟨rfl,X.ff Gd,Z,(hE.trans ?_).trans X⟩
  rw[e'];exact qP
 have C:dc.wrap (c:Int)=(c:Int):=vX Om
 refine⟨fun g=>⟨a,rfl,fun R z t=>?_⟩,fun g=>⟨a,rfl,fun R w5 u=>?_⟩⟩
 have g:c<n:=by rw[C]at g;simp at g;omega
 rw[bt g]
 have m:=t.mn fun b y=>⟨F b y,id⟩
 have R2:=l.ext t.ext m
 refine⟨R2.box.im (i:=1) Sm,by rw[zD];exact m _ (.inl rfl),?_⟩
 rintro w3 e3
 refine(B 1 R z w3 m R2 (D.bh t) e3).mono ?_
 rintro _ w4 ⟨rfl,L,U,X4⟩
 exact⟨rfl,L,rfl,U,X4⟩
 have g:¬c<n:=by rw[C]at g;simp at g;omega
 rw[aw g]
 have m:=u.mn fun b y=>⟨F b y,id⟩
 have K:=l.ext u.ext m
 have X5:=D.bh u
 have A:dc.wrap (q6.wrap ((s.ay:Int)-(r1.at_:Int)))=((bs.length-r1.at_:Nat):Int):=by
  rw[l.ay,IntWalk.i64_in _ Om,show((bs.length:Int)-(r1.at_:Int))=((bs.length-r1.at_:Nat):Int) by omega,vX Om]
 refine⟨s,K.box.dj,a,rfl,_,K.oA,fun f=>⟨a,rfl,K.box.im (i:=1) Sm,by rw[zD];exact m _ (.inl rfl),?_⟩,fun f=>⟨a,rfl,fun w8 E=>?_⟩⟩
 have f:bs.length<r1.at_+n:=by rw[A]at f;have:=ij f;omega
 rw[bt f]
 rintro w6 e6
 refine(B 3 R w5 w6 m K X5 e6).mono ?_
 rintro _ w7 ⟨rfl,L,Q,X7⟩
 exact⟨rfl,L,rfl,Q,X7⟩
 have f:¬bs.length<r1.at_+n:=by rw[A]at f;have:=il f;omega
 rw[aw f]
 have V:=m
 have o:=K.ext E.ext V
 have M:q6.wrap (n:Int)=(n:Int):=IntWalk.i64_in _ Om
 have N:q6.wrap ((r1.at_:Int)+(n:Int))=((r1.at_+n:Nat):Int):=by rw[IntWalk.i64_in _ Om];omega
 rw[M]
 have⟨s1,hsl,I⟩:=o.gS.sub (P:=prog) wU o.room (k:=.i64) (lo:=r1.at_) (n:=n) (by rw[vW];omega)
 have W:((gO bs).drop r1.at_).take n=gO ((bs.drop r1.at_).take n):=by simp[gO,map_take,map_drop]
 rw[W]at I
 refine⟨s,o.box.dj,a,rfl,_,o.oA,a,rfl,_,o.oA,s1,Uc,_,jdt I,a,rfl,_,o.oA,a,rfl,o.box.im (i:=1) Sm,by rw[zD];exact m _ (.inl rfl),?_⟩
 rintro w9 O
 rw[N]at O
 have R9:=o.xv (r1.at_+n)
 rw[<-O,d,T]at R9
 refine⟨rfl,R9,?_⟩
 rw[O]
 exact(X5.bh E).trans qP
def jcF{S0}(sb bs w0)(hs:gr S0 w0 1 sb (gO bs))(u:bs.length<=100000000):
  cl 57 #[sb.v] w0<|XD fun x w'=>∃a s',x=ab a/\ky s'.bg w' a s' bs ⟨0,0,0⟩/\aq w0 w'/\w0.heap.size<=a.block/\(∀b,s'.bg b->w0.heap.size<=b/\b<w'.heap.size):=by
 refine jai _ w0 _ ?_
 intro k o n2
 have l:aq w0 o:=aj.bu n2
 have y:c9 o 5 1 ⟨ab k,0,0⟩ []:=c9.empty n2
 have z:=n2.gp
 have C:=l.size
 have⟨s1,p,r,f,t,m⟩:=y.Am (P:=prog) (ty:=59) wU (hs.pure l) (AG bs) (JN bs) (by rw[vW];simp;omega) (by rw[vW];simp only[maxLen,length_nil];omega)
 rw[nil_append]at f
 have o2:∀b,(Sl.mk (ab k) 0 0).bg b->b=k.block:=fun b c=>by obtain⟨a,A,rfl⟩:=c;cases A;rfl
 have j:∀b,s1.bg b->w0.heap.size<=b:=fun b c=>(m b c).elim Gd fun h=>Om
 have n:=l.ft t Gd
 refine⟨s1,p,r,?_⟩
 intro w B n3
 have i:aq p B:=aj.bu n3
 have s:=n3.gp
 have E:=n.size;have D:=i.size
 have d:s1.ay<=s1.cap:=by
  rcases f.bf with⟨rfl,_⟩|⟨g,ga,_,_,q,_⟩;exact Nat.le_refl _;rw[f.ay];exact q
 exact⟨w,s1,rfl,⟨az.j0 n3,f.gS.pure i,fun b c e=>Oh<|f.lt c,u,d⟩,n.trans i,Om,fun b c=>⟨j b c,Oh<|f.lt c⟩⟩
end
def AZ{s i sz a}(h:At s i sz a):s.bg a.block:=by
 obtain⟨_,_,b,c,rfl⟩:=h;exact⟨b,c,(zD _ _).symm⟩
def NX{w e s A}(h:c9 w e 1 s (fv A)){k:Int}{j:Nat}(o:k=j)(p:j<A.length):
  ∃a,At s k 1 a/\s.bg a.block/\zJ w a/\∀v,c9 (w.setCell a<|.int .i64 v) e 1 s (fv<|A.set j v)/\aj s.bg w (w.setCell a<|.int .i64 v):=by
 have b:∀v,∃a,At s k 1 a/\(∀j,j<1->zJ w (a.add j))/\∀w',w'=ib w a [bk.int .i64 v]->c9 w' e 1 s ((fv A).set j [.int .i64 v])/\aj s.bg w w':=fun v=>h.set (i:=j) (by rw[zV];omega) rfl o
 have⟨a,c,q,_⟩:=b 0
 have f:∀{x:ao},At s k 1 x->x=a:=fun hx=>by
  obtain⟨_,_,b1,l,rfl⟩:=hx;obtain⟨_,_,b2,d,rfl⟩:=c;rw[l]at d;cases d;rfl
 have m:a.add 0=a:=by simp[ao.add]
 refine⟨a,c,AZ c,Uc,fun v=>?_⟩
 have⟨x,hx,_,g⟩:=b v
 have:=f hx;subst this
 have bh:ib w x [bk.int .i64 v]=w.setCell x (.int .i64 v):=by show w.setCell (x.add 0) (.int .i64 v)=_;rw[m]
 have⟨r1,r2⟩:=g _ rfl
 rw[bh]at r1 r2
 have n:(fv A).set j [.int .i64 v]=fv (A.set j v):=by simp[fv,map_set]
 rw[n]at r1
 exact⟨r1,r2⟩
def ny(c:Bool)(f:fj)(n:gP)(na nb:Nat):List UInt8:=if c then f.bytes n na nb else[]
def Yy(n na nb)(h1:1<=n.ba)(a:n.ba<=9):(qL n.ba).flatMap (fj.bytes n na nb) =
  ny (sJ n.ba) .pQ n na nb++ny ((n.ba==8) ||(n.ba==9)) .qk n na nb++ny (n.ba==2) .num n na nb++ny (n.ba==3) .cf n na nb++ny (decide (gy n.ba>=1)) .fst n na nb++ny (gy n.ba==2) .snd n na nb:=by
 rw[qU]
 have:n.ba=1\/n.ba=2\/n.ba=3\/n.ba=4\/n.ba=5\/n.ba=6\/n.ba=7\/n.ba=8\/n.ba=9:=Om
 rcases this with e|e|e|e|e|e|e|e|e<;>simp[e,qL,ny,sJ,fl]
def zGQ{n}(h:gy n.ba>=1):n.a∈zB n:=by
 rw[qU]at h;unfold zB;rcases qW n.ba with e|e|e<;>rw[e]at h|-<;>simp at h|-
def zGP{n}(h:gy n.ba=2):n.b∈zB n:=by
 rw[qU]at h;unfold zB;rw[h];simp
structure G7(w0:af)(q:ao)(FR:NP)(s1 r1:Sl)(B:Nat):Prop where
 lR:∀x,FR x->x<B
 lr:∀x,r1.bg x->x<B
 ls:∀x,s1.bg x->x<B/\w0.heap.size<=x/\¬FR x/\¬r1.bg x
 ie:w0.heap.size<=B
structure pX(w0 w:af)(H:NP)(q:ao)(L:bw)(FR:NP)(s1 r1:Sl)(A xs:List Int)(B:Nat)(b:Sl)(bs:List UInt8):Prop where
 ew:vJ w q L FR
 at_:c9 w 3 1 s1 (fv A)
 gz:c9 w 73 1 r1 (fv xs)
 fg:c9 w 5 1 b (gO bs)
 pure:aq w0 w
 hB:∀x,H x->B<=x/\x<w.heap.size
 bf:∀x,b.bg x->B<=x/\¬H x
 lt:B<=w.heap.size
section
variable {w0 w w':af} {H H':NP} {q:ao} {L:bw} {FR:NP} {s1 r1:Sl} {A xs:List Int} {B:Nat} {b b':Sl} {bs bs':List UInt8}
def pX.bh(h:pX w0 w H q L FR s1 r1 A xs B b bs)(S:G7 w0 q FR s1 r1 B)(hs:au w0 H w H' w'):pX w0 w' H' q L FR s1 r1 A xs B b bs:=by
 have a:∀x,H' x->B<=x:=fun x hx=>(hs.bu x hx).elim (fun h1=>(h.hB x h1).1) fun h1=>Oh h.lt;have c:=hs.mn fun x hx=>⟨h.fg.lt hx,(h.bf x hx).2⟩;exact⟨h.ew.ext hs.ext fun x hx hh=>Oi (S.lR x hx)<|a x hh,h.at_.ext hs.ext fun x hx hh=>Oi (S.ls x hx)<|a x hh,h.gz.ext hs.ext fun x hx hh=>Oi (S.lr x hx)<|a x hh,h.fg.ext hs.ext c,h.pure.bh hs,fun x hx=>⟨a x hx,hs.lt x hx⟩,fun x hx=>⟨(h.bf x hx).1,c x hx⟩,Nat.le_trans h.lt hs.ext.size⟩
def pX.call(h:pX w0 w H q L FR s1 r1 A xs B b bs)(a:jd w 5 1 (gO bs') b' w'):pX w0 w' H q L FR s1 r1 A xs B b' bs':=
 ⟨h.ew.pure a.pure,h.at_.pure a.pure,h.gz.pure a.pure,a.fg,h.pure.trans a.pure,fun x hx=>⟨(h.hB x hx).1,Nat.lt_of_lt_of_le (h.hB x hx).2 a.pure.size⟩,fun x hx=>⟨Nat.le_trans h.lt<|a.bf x hx,fun hh=>Oi (a.bf x hx)<|(h.hB x hh).2⟩,Nat.le_trans h.lt a.pure.size⟩
end
section
variable (w0:af) (q:ao) {L:bw} (hW:Wf L) (hN:yT L) {FR:NP} {s1 r1:Sl} {A xs:List Int} {B:Nat} (S:G7 w0 q FR s1 r1 B) (i1:Int) (n:gP) (na nb:Nat)
include S
def MG(v:gy n.ba=2->0<=n.b/\A[n.b.toNat]?=ab (nb:Int)/\nb<65537){H w b bs}(h:pX w0 w H q L FR s1 r1 A xs B b bs)(C:bs.length<=1000000000)(p:Sl->Int->NP->WP)(K:Sl->WP)(e:∀b' H' w',pX w0 w' H' q L FR s1 r1 A xs B b' (bs++ny (gy n.ba==2) .snd n na nb)->p b' (q6.wrap<|i1+1) H' w'):D2 s1 i1 n.ba n.b b w0 H w p K:=by
 refine⟨fun i=>?_,fun i=>?_⟩;rw[i]at e;have⟨z,x,h2⟩:=v Uc;have⟨s,k⟩:=List.getElem?_eq_some_iff.1 x;have⟨a,d,_,y⟩:=yN h.at_.gS s;rw[show((n.b.toNat:Nat):Int)=n.b by omega]at d;refine⟨a,d,fun g hs=>?_⟩;have j:=h.bh S hs;have⟨t,c,_,m⟩:=yN j.at_.gS s;rw[show((n.b.toNat:Nat):Int)=n.b by omega]at c;have:t=a:=by
  obtain⟨_,_,b1,l,rfl⟩:=d;obtain⟨_,_,b2,f,rfl⟩:=c;rw[l]at f;cases f;rfl
 subst this;refine⟨_,m,?_⟩;rw[k,vX Om];refine(Bx b bs nb g j.fg.gS Om Om).mono ?_;rintro _ u ⟨r,rfl,o⟩;exact⟨r,rfl,o.ff,e _ _ _<|j.call o⟩;rw[i]at e;simp only[ny,Bool.false_eq_true,if_false,List.append_nil]at e;exact fun g hs=>e _ _ _<|h.bh S hs
def NT(x:gy n.ba>=1->0<=n.a/\A[n.a.toNat]?=ab (na:Int)/\na<65537)(s:gy n.ba=2->0<=n.b/\A[n.b.toNat]?=ab (nb:Int)/\nb<65537){H w b bs}(h:pX w0 w H q L FR s1 r1 A xs B b bs)(D:bs.length<=900000000)(j:Sl->Int->NP->WP)(K:Sl->WP)(e:∀b' H' w',pX w0 w' H' q L FR s1 r1 A xs B b' (bs++ny (decide (gy n.ba>=1)) .fst n na nb++ny (gy n.ba==2) .snd n na nb)->j b' (q6.wrap<|i1+1) H' w'):DZ s1 i1 n.ba n.a n.b b w0 H w j K:=by
 refine⟨fun i=>?_,fun i=>?_⟩;rw[i]at e;have⟨C,y,h2⟩:=x<|ij i;have⟨t,l⟩:=List.getElem?_eq_some_iff.1 y;have⟨a,d,_,z⟩:=yN h.at_.gS t;rw[show((n.a.toNat:Nat):Int)=n.a by omega]at d;refine⟨a,d,fun g hs=>?_⟩;have k:=h.bh S hs;have⟨u,c,_,o⟩:=yN k.at_.gS t;rw[show((n.a.toNat:Nat):Int)=n.a by omega]at c;have:u=a:=by
  obtain⟨_,_,b1,m,rfl⟩:=d;obtain⟨_,_,b2,f,rfl⟩:=c;rw[m]at f;cases f;rfl
 subst this;refine⟨_,o,?_⟩;rw[l,vX Om];refine(Bx b bs na g k.fg.gS Om Om).mono ?_;rintro _ v ⟨r,rfl,p⟩;have:=vN (n:=na) Om;exact⟨r,rfl,p.ff,MG w0 q S i1 n na nb s (k.call p) Gd j K e⟩;rw[i]at e;simp only[ny,Bool.false_eq_true,if_false,List.append_nil]at e;exact fun g hs=>MG w0 q S i1 n na nb s (h.bh S hs) Om j K e
def PL(hx:n.cf.size<=64)(j:gy n.ba>=1->0<=n.a/\A[n.a.toNat]?=ab (na:Int)/\na<65537)(i:gy n.ba=2->0<=n.b/\A[n.b.toNat]?=ab (nb:Int)/\nb<65537){H w b bs}(h:pX w0 w H q L FR s1 r1 A xs B b bs)(l:bs.length<=800000000)(d:Sl->Int->NP->WP)(K:Sl->WP)(c:∀b' H' w',pX w0 w' H' q L FR s1 r1 A xs B b' (bs++ny (n.ba==3) .cf n na nb++ny (decide (gy n.ba>=1)) .fst n na nb++ny (gy n.ba==2) .snd n na nb)->d b' (q6.wrap<|i1+1) H' w'):FY s1 i1 n.ba n.cf n.a n.b b w0 H w d K:=by
 refine⟨fun f=>?_,fun f=>?_⟩
 .rw[f]at c;refine(Vp b bs n.cf w h.fg.gS Om Om).mono ?_;rintro _ k ⟨r,rfl,g⟩;have:=vN (n:=n.cf.size) Om;have e:n.cf.data.toList.length=n.cf.size:=Array.length_toList;exact⟨r,rfl,g.ff,NT w0 q S i1 n na nb j i (h.call g) (by rw[length_append,vO,length_append];omega) d K c⟩
 .rw[f]at c;simp only[ny,Bool.false_eq_true,if_false,append_nil]at c;exact NT w0 q S i1 n na nb j i h Om d K c
def LZ(k:yA n.num)(hx:n.cf.size<=64)(j:gy n.ba>=1->0<=n.a/\A[n.a.toNat]?=ab (na:Int)/\na<65537)(i:gy n.ba=2->0<=n.b/\A[n.b.toNat]?=ab (nb:Int)/\nb<65537){H w b bs}(h:pX w0 w H q L FR s1 r1 A xs B b bs)(p:bs.length<=700000000)(d:Sl->Int->NP->WP)(K:Sl->WP)(c:∀b' H' w',pX w0 w' H' q L FR s1 r1 A xs B b' (bs++ny (n.ba==2) .num n na nb++ny (n.ba==3) .cf n na nb++ny (decide (gy n.ba>=1)) .fst n na nb++ny (gy n.ba==2) .snd n na nb)->d b' (q6.wrap<|i1+1) H' w'):Fv s1 i1 n.ba n.num n.cf n.a n.b b w0 H w d K:=by
 refine⟨fun f=>?_,fun f=>?_⟩;rw[f]at c;have⟨o,m⟩:=k;have e:n.num=((n.num.toNat:Nat):Int):=Om;rw[e];refine(Bx b bs n.num.toNat w h.fg.gS Om Om).mono ?_;rintro _ l ⟨r,rfl,g⟩;have:=vN (n:=n.num.toNat) Om;exact⟨r,rfl,g.ff,PL w0 q S i1 n na nb hx j i (h.call g) Gd d K c⟩;rw[f]at c;simp only[ny,Bool.false_eq_true,if_false,List.append_nil]at c;exact PL w0 q S i1 n na nb hx j i h Om d K c
def Rb(ht:0<=n.to/\n.to<16)(l:yA n.num)(hx:n.cf.size<=64)(m:gy n.ba>=1->0<=n.a/\A[n.a.toNat]?=ab (na:Int)/\na<65537)(j:gy n.ba=2->0<=n.b/\A[n.b.toNat]?=ab (nb:Int)/\nb<65537){H w b bs}(h:pX w0 w H q L FR s1 r1 A xs B b bs)(s:bs.length<=600000000)(f:Sl->Int->NP->WP)(K:Sl->WP)(c:∀b' H' w',pX w0 w' H' q L FR s1 r1 A xs B b' (bs++ny ((n.ba==8) ||(n.ba==9)) .qk n na nb++ny (n.ba==2) .num n na nb++ny (n.ba==3) .cf n na nb++ny (decide (gy n.ba>=1)) .fst n na nb++ny (gy n.ba==2) .snd n na nb)->f b' (q6.wrap<|i1+1) H' w'):Fm s1 i1 n.ba n.to n.num n.cf n.a n.b b w0 H w f K:=by
 refine⟨fun g p d hs=>?_,fun g p d hs=>?_⟩
 .rw[g]at c;have k:=h.bh S hs;have e:n.to=((n.to.toNat:Nat):Int):=Om;rw[e,vX Om];refine(Bx b bs n.to.toNat d k.fg.gS Om Om).mono ?_;rintro _ o ⟨r,rfl,i⟩;have:=vN (n:=n.to.toNat) Om;exact⟨r,rfl,i.ff,LZ w0 q S i1 n na nb l hx m j (k.call i) Gd f K c⟩
 .rw[g]at c;simp only[ny,Bool.false_eq_true,if_false,append_nil]at c;exact LZ w0 q S i1 n na nb l hx m j (h.bh S hs) Om f K c
end
def jSD (q:ao) (t:Int) (w0:af) {L:bw} {FR:NP} (hW:Wf L) (hN:yT L) (hP:vJ w0 q L FR) :
  cl 157 #[.pointer<|ab q,.int .i64 t] w0<|XA fun r w'=>jd w0 5 1 (gO<|qJ L t) r w':=by
 refine w_F _ _ w0 _ ?_
 refine (HY q t w0 hW hP).mono ?_
 rintro _ w1 ⟨r1,rfl,d⟩
 have P1:=hP.pure d.pure
 have hfew:=tA hW t
 have R:∀u∈gz L t,bj L u=ai:=fun u p=>have h:=(A6 hW).1 p;(mw.le hW h.1 h.2).1
 have hord:=I2 hW t
 have hnd:=EC hW t
 have htx:qJ L t=kh L [] (gz L t):=rfl
 rw [htx]
 generalize hxs:gz L t=xs at *
 have hL:=hW.ok.jl
 have Z:∃v1:Sl,w1.cell? q=ab v1.v/\v1.ay=L.length:=by
  have⟨sa,sb,sc,h,_⟩:=P1;exact ⟨sa,h.box.dj,by rw [h.r1.ay];simp⟩
 have⟨v1,Z,hv1l⟩:=Z
 refine ⟨r1,rfl,d.ff,q,rfl,v1,Z,?_⟩
 dsimp only;rw [hv1l,show q6.wrap ((L.length:Int)+1)=((L.length+1:Nat):Int) by rw [i64 Om Om];omega]
 have⟨w2, hmk, hR2, E2⟩ := c9.bz (P := prog) Av (zr := [.int .i64 0]) (fun i z hi hz => by
   have h1:prog.info? 3=ab t3:=Kf;rw [h1] at hi;cases hi;have h2:t3.zero=ab (.int .i64 0):=Kf;rw [h2] at hz;cases hz;rfl) (k:=.i64) (k':=.i64) (n:=L.length+1) Om (by simp only [maxLen];omega) w1
 refine ⟨_,w2,hmk,E2.dy,?_⟩
 generalize hs1e:(Sl.mk (ab ⟨w1.heap.size,0,bo⟩) (L.length+1)<|L.length+1)=s1 at *
 have E:∀x,s1.bg x->x=w1.heap.size:=fun x hx=>by subst hs1e;obtain ⟨a,ha,rfl⟩:=hx;cases ha;rfl
 have hrep:replicate (L.length+1) [bk.int .i64 0]=fv (replicate (L.length+1) 0):=by simp [fv]
 rw [hrep] at hR2
 have z1:=d.pure.size
 have z2:=E2.size
 have W:∀x,s1.bg x->x<w2.heap.size:=fun x hx=>hR2.lt hx
 have hnil:∀b,¬ Sl.nil.bg b:=fun b hb=>by have⟨a,h,_⟩:=hb;cases h
 have S:G7 w0 q FR s1 r1 w2.heap.size:=⟨fun x hx=>Oh<|hP.lt hx,fun x hx=>Oh<|d.fg.lt hx,fun x hx=>⟨W x hx,Oh<|E x hx,fun hh=>Oi (hP.lt hh)<|E x hx,fun hh=>Oi (d.fg.lt hh)<|E x hx⟩,Om⟩
 have T2:pX w0 w2 bl q L FR s1 r1 (replicate (L.length+1) 0) xs w2.heap.size Sl.nil []:=⟨P1.pure E2,hR2,d.fg.pure E2,c9.nil _ _ _,d.pure.trans E2,fun x hx=>hx.elim,fun x hx=>(hnil x hx).elim,Nat.le_refl _⟩
 generalize w2.heap.size=B at *
 refine ⟨fun b i H w=>∃(j:Nat) (A:List Int),i=j/\j<=xs.length/\A.length=L.length+1/\(∀u∈xs.take j,A[u.toNat]?=ab ((gv (xs.take j) u:Nat):Int))/\pX w0 w H q L FR s1 r1 A xs B b (kh L []<|xs.take j),fun _ i _=>((xs.length:Int) - i).toNat,⟨0,_,rfl,Nat.zero_le _,Sm,Sm,T2⟩,?_⟩
 rintro b _ Hl wl bh ⟨j,A,rfl,hj,hAl,hA,J⟩
 unfold MU
 have N:r1.ay=xs.length:=by rw [J.gz.ay,zV]
 refine ⟨fun f=>?_,fun f=>?_⟩
 have f:=vA N f
 have F:=R xs[j]<|getElem_mem _
 have hz:=zG.1 F
 have M:xs=xs.take j++xs[j] :: xs.drop (j+1):=by rw [<-drop_eq_getElem_cons f,take_append_drop]
 have hko:=hord _ _ _ M
 have hzn:xs[j] ∉ xs.take j:=Gd
 have htk:=take_succ_eq_append_getElem f
 have hbs:=PK hW hN (xs.take j) [] Gd Gd
 have hjl:(xs.take j).length=j:=by rw [length_take];omega
 rw [hjl] at hbs
 have⟨k1,k9,f0,f1,t0,t1,x1⟩:=yu hW F
 have O:=hN.dr xs[j]
 have⟨a3,g,_,hv3⟩:=yN J.gz.gS f
 have V:∃(v2:Sl) (a4:ao),wl.cell? q=ab v2.v/\FR q.block/\At v2 (q6.wrap<|xs[j] - 1) 7 a4/\Row wl a4 (tM<|ar L xs[j])/\FR a4.block:=by
  have⟨sa,sb,sc,h,hF⟩:=J.ew;have⟨e,he,⟨a,g1,g2⟩,_⟩:=h.ju F hW.ok;refine ⟨sa,a,h.box.dj,(hF _).2<|.inl rfl,g1,?_,(hF _).2<|.inr<|.inl<|AZ g1⟩;have:ar L xs[j]=e.dr:=by simp only [ar,he,Option.map_some,Option.getD_some]
  rw [this];exact g2
 have⟨v2,a4,hv2,hFq,hat4,X,hF4⟩:=V
 have hHR:∀x,FR x->¬ Hl x:=fun x hx hh=>Oi (S.lR x hx)<|(J.hB x hh).1
 refine ⟨q,rfl,v2,hv2,hHR _ hFq,a3,g,_,hv3,fun hh=>Oi (S.lr _<|AZ g)<|(J.hB _ hh).1,a4,hat4,_,_,_,_,_,_,_,X,hHR _ hF4,a3,g,fun H2 w6 hs6=>?_⟩
 have s:=J.bh S hs6
 have⟨a3',hat3',_,hv3'⟩:=yN s.gz.gS f
 have:a3'=a3:=by
  obtain ⟨_,_,b1,hb1,rfl⟩:=g;obtain ⟨_,_,b2,hb2,rfl⟩:=hat3';rw [hb1] at hb2;cases hb2;rfl
 subst this
 have⟨a6,hat6,hb6,hw6,hset⟩:=NX s.at_ (k:=xs[j]) (j:=xs[j].toNat) Om Om
 refine ⟨_,hv3',a6,hat6,hw6,fun hh=>Oi (S.ls _ hb6)<|(s.hB _ hh).1,?_⟩
 rintro w9 h9
 have⟨hA9,X9⟩:=hset (j:Int)
 rw [<-h9] at hA9 X9
 have l:pX w0 w9 H2 q L FR s1 r1 (A.set xs[j].toNat j) xs B b (kh L []<|xs.take j) :=
  ⟨s.ew.ext X9 fun x hx hh=>(S.ls x hh).2.2.1 hx,hA9,s.gz.ext X9 fun x hx hh=>(S.ls x hh).2.2.2 hx,s.fg.ext X9 fun x hx hh=>Oi ((s.bf x hx).1)<|(S.ls x hh).1,s.pure.ft X9 Gd,fun x hx=>⟨(s.hB x hx).1,Oi ((s.hB x hx).2) X9.size⟩,s.bf,Oi s.lt X9.size⟩
 generalize hz':xs[j]=z at *
 have hnt:yC L (xs.take j) z=UInt8.ofNat (ar L z).ba.toNat :: (qL (ar L z).ba).flatMap (fj.bytes (ar L z) (gv (xs.take j) (ar L z).a)<|gv (xs.take j) (ar L z).b):=rfl
 rw [Yy _ _ _ k1 k9] at hnt
 have Q:∀u∈zB (ar L z),0<=u/\(A.set z.toNat (j:Int))[u.toNat]?=ab ((gv (xs.take j) u:Nat):Int)/\gv (xs.take j) u<65537:=fun u p=>by
  have hm:=hko u p;have hin:=zG.1<|R u<|mem_of_mem_take hm;refine ⟨Om,?_,by have:=tU (xs.take j) u;rw [hjl] at this;omega⟩;rw [getElem?_set_ne Gd];exact hA u hm
 have hA':∀u∈xs.take (j+1),(A.set z.toNat (j:Int))[u.toNat]?=ab ((gv (xs.take<|j+1) u:Nat):Int):=fun u p=>by
  rw [htk] at p |-;rcases mem_append.1 p with p | p;rw [HA p,getElem?_set_ne Gd];exact hA u p;rw [mem_singleton] at p;subst p;rw [Fb hzn,hjl,getElem?_set_self Om]
 have hlA':(A.set z.toNat (j:Int)).length=L.length+1:=by rw [length_set];exact hAl
 have C:kh L [] (xs.take<|j+1)=kh L [] (xs.take j)++yC L (xs.take j) z:=by rw [htk,HH,nil_append]
 rw [hnt] at C
 generalize hnz:ar L z=n at *
 obtain ⟨kn,hkn⟩:∃kn:Nat,n.ba=kn:=⟨n.ba.toNat,Om⟩
 intro p5 w10 Y
 have o:aq w9 w10:=aj.bu Y
 rw [hkn,yb] at Y
 have⟨s2,w11,hr11,hR11,m,U⟩:=(l.fg.pure o).append (P:=prog) (ty:=59) (c:=1) wU (az.j0 Y).row rfl rfl (by rw [vW];omega) (by rw [vW];simp only [maxLen];omega)
 have z10:=o.size
 have z11:=m.size
 have nb:∀x,x<B->¬ b.bg x:=fun x hx hh=>Oh<|(l.bf x hh).1
 have T11:pX w0 w11 H2 q L FR s1 r1 (A.set z.toNat j) xs B s2 (kh L [] (xs.take j)++[UInt8.ofNat kn]) :=
  ⟨(l.ew.pure o).ext m fun x hx hh=>nb x (S.lR x hx) hh,(l.at_.pure o).ext m Gd,(l.gz.pure o).ext m fun x hx hh=>nb x (S.lr x hx) hh,by rw [Eu];exact hR11,(l.pure.trans o).ft m Gd,fun x hx=>⟨(l.hB x hx).1,Oh<|(l.hB x hx).2⟩,fun x hx=>⟨(U x hx).elim (fun h=>(l.bf x h).1) fun h=>Oh l.lt,(U x hx).elim (fun h=>(l.bf x h).2) fun h hh=>Oh<|(l.hB x hh).2⟩,Oh l.lt⟩
 refine ⟨s2,w11,hr11,m.ff fun x hx hh=>(l.bf x hh).2 hx,?_⟩
 have G:n.ba.toNat=kn:=Om
 rw [G] at C
 have T : ∀ (b' : Sl) (H' : NP) (w' : af), pX w0 w' H' q L FR s1 r1 (A.set z.toNat j) xs B b' (kh L [] (xs.take j) ++ [UInt8.ofNat kn] ++ ny (sJ n.ba) .pQ n (gv (xs.take j) n.a) (gv (xs.take j) n.b) ++ ny ((n.ba == 8) || (n.ba == 9)) .qk n (gv (xs.take j) n.a) (gv (xs.take j) n.b) ++ ny (n.ba == 2) .num n (gv (xs.take j) n.a) (gv (xs.take j) n.b) ++ ny (n.ba == 3) .cf n (gv (xs.take j) n.a) (gv (xs.take j) n.b) ++ ny (decide (gy n.ba >= 1)) .fst n (gv (xs.take j) n.a) (gv (xs.take j) n.b) ++ ny (gy n.ba == 2) .snd n (gv (xs.take j) n.a) (gv (xs.take j) n.b)) ->
   (∃(j':Nat) (A':List Int),q6.wrap ((j:Int)+1)=j'/\j'<=xs.length/\A'.length=L.length+1/\(∀u∈xs.take j',A'[u.toNat]?=ab ((gv (xs.take j') u:Nat):Int))/\pX w0 w' H' q L FR s1 r1 A' xs B b' (kh L []<|xs.take j'))/\((xs.length:Int) - q6.wrap ((j:Int)+1)).toNat<((xs.length:Int) - (j:Int)).toNat:=fun b' H' w' h=>by
  refine ⟨⟨j+1,_,zI f Om,f,hlA',hA',?_⟩,by rw [zI f Om];exact vT f⟩
  rw [C]
  simpa using h
 have D:gy n.ba>=1->0<=n.a/\(A.set z.toNat (j:Int))[n.a.toNat]?=ab ((gv (xs.take j) n.a:Nat):Int)/\gv (xs.take j) n.a<65537:=fun h=>Q _<|zGQ h
 have y:gy n.ba=2->0<=n.b/\(A.set z.toNat (j:Int))[n.b.toNat]?=ab ((gv (xs.take j) n.b:Nat):Int)/\gv (xs.take j) n.b<65537:=fun h=>Q _<|zGP h
 refine ⟨fun G w12 I=>?_,fun G w12 I=>?_⟩
 have K:=T11.bh S I
 have e:n.cj=((n.cj.toNat:Nat):Int):=Om
 rw [e,vX Om]
 refine (Bx s2 _ n.cj.toNat w12 K.fg.gS Gd Om).mono ?_
 rintro _ w16 ⟨r,rfl,hr⟩
 have:=vN (n:=n.cj.toNat) Om
 refine ⟨r,rfl,hr.ff,?_⟩
 refine Rb w0 q S j n (gv (xs.take j) n.a) (gv (xs.take j) n.b) ⟨t0,t1⟩ O x1 D y (K.call hr) Gd _ _ fun b' H' w' h=>T b' H' w' ?_
 rw [G];exact h
 have K:=T11.bh S I
 refine Rb w0 q S j n (gv (xs.take j) n.a) (gv (xs.take j) n.b) ⟨t0,t1⟩ O x1 D y K (by rw [length_append,length_singleton];omega) _ _ fun b' H' w' h=>T b' H' w' ?_
 rw [G]
 simp only [ny,Bool.false_eq_true,if_false,append_nil] at h |-
 exact h
 have f:=vH N hj f
 subst f
 rw [take_length] at J
 exact ⟨J.fg,fun x hx=>Oi ((J.bf x hx).1) S.ie,J.pure⟩
def Lp(q t w0){L FR}(hW:Wf L)(hN:yT L)(i:vJ w0 q L FR):
  cl 102 #[vp<|ab q,vi t] w0<|XR fun r n w'=>n=(my L t).2/\jd w0 5 1 (gO (my L t).1) r w':=by
 refine Ty _ _ w0 _ ?_
 have f:∀b,¬Sl.nil.bg b:=fun b g=>by have⟨a,h,_⟩:=g;cases h
 refine(yJ q t w0 i).mono ?_
 rintro _ _ ⟨_,rfl,rfl,rfl⟩
 refine⟨_,rfl,fun c=>?_,fun c=>?_⟩
 have d:bj L t=ak:=by simpa using c
 have e:my L t=([],51):=by unfold my;rw[d];rfl
 rw[e]
 exact⟨rfl,c9.nil _ _ _,fun b g=>(f b g).elim,aj.refl _⟩
 have d:bj L t=ai:=by simpa using c
 refine(jSD q t _ hW hN i).mono ?_
 rintro _ j ⟨r2,rfl,h⟩
 have k:r2.ay=(qJ L t).length:=by rw[h.fg.ay,vW]
 refine⟨r2,rfl,fun c=>?_,fun c=>?_⟩
 have c:=ij c
 have e:my L t=([],1):=by unfold my;rw[d,bt rfl,bt Om]
 rw[e]
 exact⟨rfl,c9.nil _ _ _,fun b g=>(f b g).elim,h.pure⟩
 have c:=il c
 have e:my L t=(qJ L t,0):=by unfold my;rw[d,bt rfl,aw Om]
 rw[e]
 exact⟨rfl,h⟩
def kg(bs:List UInt8)(c:Bool)(f:fj)(s:mo×Rd):mo×Rd:=if c then(f.qp bs s.2 s.1,f.rd bs s.2)else s
def Bq(bs:List UInt8)(f:fj)(s:mo×Rd):kg bs ak f s=s:=rfl
def zJW(bs:List UInt8)(u f t a b kd:Nat)(c:List UInt8)(r:Rd):kg bs ai .snd (⟨u,c,f,t,a,b,kd⟩,r)=(⟨u,c,f,t,a,(vS bs r).1,2⟩,(vS bs r).2):=rfl
def zJY(bs:List UInt8)(u f t a b kd:Nat)(c:List UInt8)(r:Rd):kg bs ai .fst (⟨u,c,f,t,a,b,kd⟩,r)=(⟨u,c,f,t,(vS bs r).1,b,1⟩,(vS bs r).2):=rfl
def zFG(bs:List UInt8)(u f t a b kd:Nat)(c:List UInt8)(r:Rd):kg bs ai .cf (⟨u,c,f,t,a,b,kd⟩,r)=(⟨u,(qF bs 64 r).1,f,t,a,b,kd⟩,(qF bs 64 r).2):=rfl
def zJX(bs:List UInt8)(u f t a b kd:Nat)(c:List UInt8)(r:Rd):kg bs ai .num (⟨u,c,f,t,a,b,kd⟩,r)=(⟨(vS bs r).1,c,f,t,a,b,kd⟩,(vS bs r).2):=rfl
def Zc(bs:List UInt8)(u f t a b kd:Nat)(c:List UInt8)(r:Rd):kg bs ai .qk (⟨u,c,f,t,a,b,kd⟩,r)=(⟨u,c,f,(vS bs r).1,a,b,kd⟩,(vS bs r).2):=rfl
def zFH(bs:List UInt8)(u f t a b kd:Nat)(c:List UInt8)(r:Rd):kg bs ai .pQ (⟨u,c,f,t,a,b,kd⟩,r)=(⟨u,c,(vS bs r).1,t,a,b,kd⟩,(vS bs r).2):=rfl
def jYX(bs:List UInt8)(k:Nat)(h1:1<=k)(a:k<=9)(s:mo×Rd):vB bs (qL (k:Int)) s =
  kg bs (gy (k:Int)==2) .snd (kg bs (decide (gy (k:Int)>=1)) .fst (kg bs ((k:Int)==3) .cf (kg bs ((k:Int)==2) .num (kg bs (((k:Int)==8) ||((k:Int)==9)) .qk (kg bs (sJ (k:Int)) .pQ s))))):=by
 have⟨x,r⟩:=s
 rw[qU]
 have:k=1\/k=2\/k=3\/k=4\/k=5\/k=6\/k=7\/k=8\/k=9:=Om
 rcases this with e|e|e|e|e|e|e|e|e<;>subst e<;>simp[qL,kg,sJ,fl,vB]
structure Ay(k:Nat)(x:mo):Prop where
 cj:sJ (k:Int)=ak->x.cj=0
 to:(((k:Int)==8) ||((k:Int)==9))=ak->x.to=0
 fw:gy (k:Int)=(x.fw:Int)
def Xy(bs:List UInt8)(k:Nat)(h1:1<=k)(a:k<=9)(r:Rd):Ay k (vB bs (qL (k:Int)) (qZ,r)).1:=by
 have:k=1\/k=2\/k=3\/k=4\/k=5\/k=6\/k=7\/k=8\/k=9:=Om;refine⟨?_,?_,?_⟩;rcases this with e|e|e|e|e|e|e|e|e<;>subst e<;>simp[qL,sJ,vB,fj.qp,qZ];rcases this with e|e|e|e|e|e|e|e|e<;>subst e<;>simp[qL,vB,fj.qp,qZ];rw[qU];rcases this with e|e|e|e|e|e|e|e|e<;>subst e<;>simp[qL,fl,vB,fj.qp,qZ]
def tE(n:Nat):oB (n:Int)=if 1073741824<n then 1073741824 else(n:Int):=by
 unfold oB;by_cases h:1073741824<n;grind;rw[aw h,show decide ((n:Int)>1073741824)=ak by simp;omega];exact uc Om
def DK:List bk:=[vi 0,vi 0,vi 0,vu 0,vs ⟨#[]⟩,vi 0,vi 0]
structure qc(S:NP)(w0:af)(H:NP)(w:af)(p1 a:ao)(s:Sl)(bs:List UInt8)(r:Rd):Prop where
 rd:ky S w a s bs r
 box:az w p1 DK 119
 lf:∀b,(b=a.block\/S b\/b=p1.block)->¬H b/\b<w.heap.size
 ext:aj (·=a.block) w0 w
 at_:r.at_<=bs.length
 o1:w0.heap.size<=p1.block
 d1:p1.block≠a.block/\¬S p1.block
section
variable {S:NP} {w0 w w':af} {H H':NP} {p1 a:ao} {s:Sl} {bs:List UInt8} {r:Rd}
def qc.bh(h:qc S w0 H w p1 a s bs r)(hs:au w0 H w H' w'):qc S w0 H' w' p1 a s bs r:=by
 have d:=hs.mn fun b c=>⟨(h.lf b c).2,(h.lf b c).1⟩;exact⟨h.rd.ext hs.ext Gd,h.box.ext hs.ext<|d _<|.inr<|.inr rfl,fun b c=>⟨d b c,Oi ((h.lf b c).2) hs.ext.size⟩,h.ext.bh hs,h.at_,h.o1,h.d1⟩
def qc.hS(h:qc S w0 H w p1 a s bs r):∀b,(b=a.block\/S b)->b<w.heap.size:=fun b c=>(h.lf b<|c.elim .inl fun h=>.inr<|.inl h).2
def qc.next{d:Rd}(h:qc S w0 H w p1 a s bs r)(g:ky S w' a s bs d)(E:aj (·=a.block) w w')(f:d.at_<=bs.length):qc S w0 H w' p1 a s bs d/\av H w w':=
 ⟨⟨g,h.box.ext E h.d1.1,fun b c=>⟨(h.lf b c).1,Oi ((h.lf b c).2) E.size⟩,h.ext.trans E,f,h.o1,h.d1⟩,E.ff fun b c e=>(h.lf _<|.inl rfl).1<|e▸c⟩
def qc.num(h:qc S w0 H w p1 a s bs r){R:Int->WP}(e:∀w',qc S w0 H w' p1 a s bs (vS bs r).2->R ((vS bs r).1:Int) w'):
  cl 118 #[vp<|ab a] w<|YG fun x w'=>av H w w'/\R x w':=by
 refine(MT a s bs r w h.rd h.at_ h.hS).mono ?_
 rintro _ w' ⟨_,rfl,rfl,b,E⟩
 have⟨c,d⟩:=h.next b E (DF bs r h.at_).2
 exact⟨_,rfl,d,e w' c⟩
def zq(S:NP)(w0:af)(a:ao)(s:Sl)(bs:List UInt8)(k i:Nat)(K:Int->Int->Int->Int->ByteArray->Int->Int->Int->WP)(b:mo×Rd):Prop:=
 ∀kd f t u d c g e w',e=((pF k i b.1 b.2.gd:Nat):Int)->(e=0->(⟨kd,f,t,u,d,c,g⟩:gP)=b.1.dr k)->ky S w' a s bs b.2->aj (·=a.block) w0 w'->K kd f t u d c g e w'
variable (k i:Nat) (hk:1<=k/\k<=9) (hi:i<=100000) {K:Int->Int->Int->Int->ByteArray->Int->Int->Int->WP}
include hk hi
def Mu(x:mo)(h:qc S w0 H w p1 a s bs r)(hF:Ay k x)(hK:zq S w0 a s bs k i K (x,r)):
  CX (ab a) i p1 k k (oB x.cj) (oB x.to) x.num ⟨x.cf.toArray⟩ 0 0 (oB x.a) (oB x.b) w0 H w K:=by
 unfold CX
 have hwk:q6.wrap (k:Int)=(k:Int):=uc Om
 rw[hwk]
 have n : ∀(c:List bk)(kd f t u:Int)M(J L:Int)(e:Nat)H' y I, qc S w0 H' y p1 a s bs r -> I = ib y p1 [vi kd, vi f, vi t, vu u, vs M, vi J, vi L] -> e = pF k i x r.gd -> (e = 0 -> (⟨kd, f, t, u, M, J, L⟩ : gP) = x.dr k) ->
   Row I p1 [vi kd,vi f,vi t,vu u,vs M,vi J,vi L]/\K kd f t u M J L e I:=by
  intro c kd f t u M J L e H' y I h1 e2 U hn
  have X:aj (·=p1.block) y I:=by rw[e2];exact aj.ib _ _ _
  have B:az I p1 [vi kd,vi f,vi t,vu u,vs M,vi J,vi L] 119:=by rw[e2];exact h1.box.store rfl
  refine⟨B.row,hK _ _ _ _ _ _ _ _ _ Uc (fun q=>hn Om) (h1.rd.ext X fun b D e=>?_)<|h1.ext.ft X fun j hj e=>Oh h1.o1⟩
  rcases D with rfl|D
  .exact h1.d1.1 e.symm
  .exact h1.d1.2<|e▸D
 have p:∀{H':NP} {y:af},qc S w0 H' y p1 a s bs r->(∀j,j<7->zJ y (p1.add j)):=fun h1 j hj=>h1.box.im (by simpa[DK]using hj)
 refine⟨a,rfl,_,h.rd.sF,fun hc=>?_,fun hc=>?_⟩
 .have U:r.gd≠0:=Oh<|bne_iff_ne.1 hc
  have hne:pF k i x r.gd=r.gd:=by unfold pF;rw[bt U]
  refine⟨fun w'=>ky S w' a s bs r,h.rd.pure<|aj.drew w,?_⟩
  rintro o e11
  have m:qc S w0 H o p1 a s bs r:=by
   have E:aq w o:=by rw[e11];exact aj.drew w
   exact(h.next (h.rd.pure E) (aj.pure E) h.at_).1
  refine⟨a,rfl,_,fun w' hw'=>hw'.sF,p m,(m.lf _<|.inr<|.inr rfl).1,?_⟩
  rintro O R
  have⟨C,G⟩:=n [] _ _ _ _ _ _ _ r.gd H o O m R hne.symm fun q=>absurd q U
  have X:aj (·=p1.block) o O:=by rw[R];exact aj.ib _ _ _
  refine⟨m.rd.ext X fun b D e=>?_,_,_,_,_,_,_,_,C,G⟩
  rcases D with rfl|D
  .exact m.d1.1 e.symm
  .exact m.d1.2<|e▸D
 have U:r.gd=0:=Gd
 have hfr:=hF.cj
 have hto:=hF.to
 have g:=hF.fw
 have P:(((k:Int)==8) ||((k:Int)==9))=decide (k=8\/k=9):=Gd
 rintro y1 hy1
 have hy:y1=decide (16<=x.cj\/16<=x.to\/((k=8\/k=9)/\x.cj=x.to)):=by
  rw[hy1,tE,tE,P];rw[P]at hto;rw[Bool.eq_iff_iff];simp only[Bool.or_eq_true,Bool.and_eq_true,decide_eq_true_eq,beq_iff_eq];by_cases hn:sJ (k:Int)=ai
  .grind
  .grind
 rw[hy]
 refine⟨fun d=>?_,fun d=>?_⟩
 .have d:=ij d
  intro H9 V T
  have F:=h.bh T
  refine⟨p F,(F.lf _<|.inr<|.inr rfl).1,fun Y e26=>?_⟩
  have⟨C,G⟩:=n [] _ _ _ _ _ _ _ 50 H9 V Y F e26 (by unfold pF;rw[aw Om,bt d]) fun q=>Uc
  exact⟨_,_,_,_,_,_,_,C,G⟩
 have d:=il d
 rintro y2 hy2
 have hy:y2=decide ((0<x.fw/\i<=x.a)\/(1<x.fw/\i<=x.b)):=by
  rw[hy2,tE,tE,g];have W:x.fw<=2:=by
   rw[qU]at g;rcases qW (k:Int)with e|e|e<;>rw[e]at g<;>omega
  rw[Bool.eq_iff_iff];simp only[Bool.or_eq_true,Bool.and_eq_true,decide_eq_true_eq,beq_iff_eq];split<;>split<;>omega
 rw[hy]
 refine⟨fun l=>?_,fun l=>?_⟩
 .have l:=ij l
  intro H17 w31 Q
  have v:=h.bh Q
  refine⟨p v,(v.lf _<|.inr<|.inr rfl).1,fun w36 e36=>?_⟩
  have⟨C,G⟩:=n [] _ _ _ _ _ _ _ 71 H17 w31 w36 v e36 (by unfold pF;rw[aw Om,aw d,bt l]) fun q=>Uc
  exact⟨_,_,_,_,_,_,_,C,G⟩
 have l:=il l
 intro H21 w43 N
 have A:=h.bh N
 refine⟨p A,(A.lf _<|.inr<|.inr rfl).1,fun Z e45=>?_⟩
 have W:x.fw<=2:=by
  rw[qU]at g;rcases qW (k:Int)with e|e|e<;>rw[e]at g<;>omega
 have z:(⟨(k:Int),oB x.cj,oB x.to,x.num,⟨x.cf.toArray⟩,cond (decide (gy (k:Int)>=1)) (q6.wrap<|oB x.a+1) 0,cond ((gy (k:Int):Int)==2) (q6.wrap<|oB x.b+1) 0⟩:gP)=x.dr k:=by
  have ef:oB x.cj=x.cj:=by rw[tE,aw Om]
  have et:oB x.to=x.to:=by rw[tE,aw Om]
  have ea:cond (decide (gy (k:Int)>=1)) (q6.wrap<|oB x.a+1) 0=(if 0<x.fw then(x.a:Int)+1 else 0):=by
   rw[g];by_cases q:0<x.fw
   .rw[bt q,decide_eq_true Om,tE,aw Om];show q6.wrap ((x.a:Int)+1)=_;rw[IntWalk.i64_in _ Om]
   .grind
  have eb:cond ((gy (k:Int):Int)==2) (q6.wrap<|oB x.b+1) 0=(if 1<x.fw then(x.b:Int)+1 else 0):=by
   rw[g];by_cases q:1<x.fw
   .rw[bt q,show((x.fw:Int)==2)=ai by simp;omega,tE,aw Om];show q6.wrap ((x.b:Int)+1)=_;rw[IntWalk.i64_in _ Om]
   .grind
  rw[ef,et,ea,eb];rfl
 have⟨C,G⟩:=n [] _ _ _ _ _ _ _ 0 H21 w43 Z A e45 (by unfold pF;rw[aw Om,aw d,aw l]) fun _=>z
 exact⟨_,_,_,_,_,_,_,C,G⟩
def Nk(u f t d kd:Nat)(e:List UInt8)(h:qc S w0 H w p1 a s bs r)(j:Ay k (kg bs (gy (k:Int) == 2) .snd (⟨u,e,f,t,d,0,kd⟩,r)).1)(g:zq S w0 a s bs k i K (kg bs (gy (k:Int) == 2) .snd (⟨u,e,f,t,d,0,kd⟩,r))):
  C6 (ab a) i p1 k k (oB f) (oB t) u ⟨e.toArray⟩ 0 0 (oB d) w0 H w K:=by
 unfold C6
 have n:q6.wrap (k:Int)=(k:Int):=uc Om
 rw[n]
 refine⟨fun l m b=>?_,fun l m b=>?_⟩
 rw[l,zJW]at j g
 exact(h.bh b).num fun w' p o c=>Mu k i hk hi ⟨u,e,f,t,d,(vS bs r).1,2⟩ (p.bh c) j g
 rw[l,Bq]at j g
 exact Mu k i hk hi ⟨u,e,f,t,d,0,kd⟩ (h.bh b) j g
def RI(u f t:Nat)(d:List UInt8)(h:qc S w0 H w p1 a s bs r)(g:Ay k (kg bs (gy (k:Int) == 2) .snd<|kg bs (decide (gy (k:Int)>=1)) .fst (⟨u,d,f,t,0,0,0⟩,r)).1)(e:zq S w0 a s bs k i K (kg bs (gy (k:Int) == 2) .snd<|kg bs (decide (gy (k:Int)>=1)) .fst (⟨u,d,f,t,0,0,0⟩,r))):
  Dg (ab a) i p1 k k (oB f) (oB t) u ⟨d.toArray⟩ 0 0 w0 H w K:=by
 unfold Dg
 have l:q6.wrap (k:Int)=(k:Int):=uc Om
 rw[l]
 refine⟨fun j m b=>?_,fun j m b=>?_⟩
 rw[j,zJY]at g e
 exact(h.bh b).num fun w' n o c=>Nk k i hk hi u f t (vS bs r).1 1 d (n.bh c) g e
 rw[j,Bq]at g e
 exact Nk k i hk hi u f t 0 0 d (h.bh b) g e
def Ld(u f t:Nat)(h:qc S w0 H w p1 a s bs r)(d:Ay k (kg bs (gy (k:Int) == 2) .snd<|kg bs (decide (gy (k:Int)>=1)) .fst<|kg bs ((k:Int) == 3) .cf (⟨u,[],f,t,0,0,0⟩,r)).1)(c:zq S w0 a s bs k i K (kg bs (gy (k:Int) == 2) .snd<|kg bs (decide (gy (k:Int)>=1)) .fst<|kg bs ((k:Int) == 3) .cf (⟨u,[],f,t,0,0,0⟩,r))):
  CK (ab a) i p1 k k (oB f) (oB t) u ⟨#[]⟩ 0 0 w0 H w K:=by
 unfold CK
 have j:q6.wrap (k:Int)=(k:Int):=uc Om
 rw[j]
 refine⟨fun e=>?_,fun e=>?_⟩
 .rw[e,zFG]at d c
  refine(Vv a s bs r w 64 Om h.rd h.at_ h.hS).mono ?_
  rintro _ w' ⟨_,rfl,rfl,g,E⟩
  have⟨n,m⟩:=h.next g E (Ro bs 64 r h.at_).2
  exact⟨_,rfl,m,fun l b=>RI k i hk hi u f t (qF bs 64 r).1 (n.bh b) d c⟩
 .rw[e,Bq]at d c
  exact RI k i hk hi u f t [] h d c
def Qa(f t:Nat)(h:qc S w0 H w p1 a s bs r)(d:Ay k (kg bs (gy (k:Int) == 2) .snd<|kg bs (decide (gy (k:Int)>=1)) .fst<|kg bs ((k:Int) == 3) .cf<|kg bs ((k:Int) == 2) .num (⟨0,[],f,t,0,0,0⟩,r)).1)(c:zq S w0 a s bs k i K (kg bs (gy (k:Int) == 2) .snd<|kg bs (decide (gy (k:Int)>=1)) .fst<|kg bs ((k:Int) == 3) .cf<|kg bs ((k:Int) == 2) .num (⟨0,[],f,t,0,0,0⟩,r))):
  Cz (ab a) i p1 k k (oB f) (oB t) 0 ⟨#[]⟩ 0 0 w0 H w K:=by
 unfold Cz
 have g:q6.wrap (k:Int)=(k:Int):=uc Om
 rw[g]
 refine⟨fun e=>?_,fun e=>?_⟩
 rw[e,zJX]at d c
 exact h.num fun w' j l b=>Ld k i hk hi (vS bs r).1 f t (j.bh b) d c
 rw[e,Bq]at d c
 exact Ld k i hk hi 0 f t h d c
def MP(f:Nat)(h:qc S w0 H w p1 a s bs r)(e:Ay k (kg bs (gy (k:Int) == 2) .snd<|kg bs (decide (gy (k:Int)>=1)) .fst<|kg bs ((k:Int) == 3) .cf<|kg bs ((k:Int) == 2) .num<|kg bs (((k:Int) == 8) || ((k:Int) == 9)) .qk (⟨0,[],f,0,0,0,0⟩,r)).1)(d:zq S w0 a s bs k i K (kg bs (gy (k:Int) == 2) .snd<|kg bs (decide (gy (k:Int)>=1)) .fst<|kg bs ((k:Int) == 3) .cf<|kg bs ((k:Int) == 2) .num<|kg bs (((k:Int) == 8) || ((k:Int) == 9)) .qk (⟨0,[],f,0,0,0,0⟩,r))):
  CY (ab a) i p1 k k (oB f) 0 0 ⟨#[]⟩ 0 0 w0 H w K:=by
 unfold CY
 have j:q6.wrap (k:Int)=(k:Int):=uc Om
 rw[j]
 refine⟨fun g o l b=>?_,fun g o l b=>?_⟩
 rw[g,Zc]at e d
 exact(h.bh b).num fun w' n m c=>Qa k i hk hi f (vS bs r).1 (n.bh c) e d
 rw[g,Bq]at e d
 exact Qa k i hk hi f 0 (h.bh b) e d
end
def Wj{S:NP}(a:ao)(s:Sl)(bs:List UInt8)(r:Rd)(i:Nat)(w0:af)(h:ky S w0 a s bs r)(J:r.at_<bs.length)(Y:r.gd=0)(hS:∀b,(b=a.block\/S b)->b<w0.heap.size)(hi:i<=100000):
  cl 59 #[vp<|ab a,vi i] w0 (fun e w'=>∃kd f t u:Int,∃o,∃l m x:Int,e=.returned (.tuple #[.agg #[vi kd,vi f,vi t,vu u,vs o,vi l,vi m],vi x]) /\
   (∃d,(if uL bs[r.at_].toNat=ai then x=((pF bs[r.at_].toNat i (vB bs (qL bs[r.at_].toNat) (qZ,⟨r.at_+1,0,r.spot⟩)).1 (vB bs (qL bs[r.at_].toNat) (qZ,⟨r.at_+1,0,r.spot⟩)).2.gd:Nat):Int)/\(x=0->(⟨kd,f,t,u,o,l,m⟩:gP)=(vB bs (qL bs[r.at_].toNat) (qZ,⟨r.at_+1,0,r.spot⟩)).1.dr bs[r.at_].toNat)/\d=(vB bs (qL bs[r.at_].toNat) (qZ,⟨r.at_+1,0,r.spot⟩)).2 else x=70/\d=⟨r.at_+1,0,r.spot⟩)/\ky S w' a s bs d/\aj (·=a.block) w0 w')):=by
 generalize q:bs[r.at_].toNat=k
 have I:k<256:=by rw[<-q];exact bs[r.at_].toNat_lt
 refine w_C _ _ w0 _ ?_
 intro p1 D n1
 have G:aq w0 D:=aj.bu n1
 have R:az D p1 DK 119:=az.j0 n1
 have b1:=n1.gp
 have z1:=G.size
 refine(zLO a s bs r D (h.pure G) J Y).mono ?_
 rintro _ U ⟨_,rfl,rfl,N,A⟩
 rw[q]
 have z2:=A.size
 have dp:p1.block≠a.block/\¬S p1.block:=⟨fun e=>Uc,fun hh=>Uc⟩
 have L:qc S w0 bl U p1 a s bs ⟨r.at_+1,0,r.spot⟩:=⟨N,R.ext A dp.1,fun b g=>⟨id,by
  rcases g with g|g|g;have:=hS b<|.inl g;omega;grind;have:=R.lt;omega⟩,(aj.pure G).trans A,Uc,Om,dp⟩
 have H:q6.wrap (k:Int)=(k:Int):=uc Om
 refine⟨_,rfl,A.ff fun b g=>g.elim,?_⟩
 rw[H]
 have M:((decide ((k:Int)<1)) ||(decide ((k:Int)>9)))=!uL k:=by
  rw[Bool.eq_iff_iff];unfold uL;simp;omega
 rw[M]
 refine⟨fun p=>?_,fun p=>?_⟩
 have p:¬uL k=ai:=by simpa using p
 intro O w5 E
 have z:=L.bh E
 refine⟨fun j T=>z.box.im<|by simpa[DK]using T,(z.lf _<|.inr<|.inr rfl).1,?_⟩
 rintro P Q
 have X:aj (·=p1.block) w5 P:=by rw[Q];exact aj.ib _ _ _
 have B:az P p1 [vi (k:Int),vi 0,vi 0,vu 0,vs ⟨#[]⟩,vi 0,vi 0] 119:=by rw[Q];exact z.box.store rfl
 refine⟨_,_,_,_,_,_,_,B.row,_,Uc,z.rd.ext X fun b g e=>?_,z.ext.ft X fun j T e=>Om⟩
 rcases g with rfl|g
 exact dp.1 e.symm
 exact dp.2<|e▸g
 have p:uL k=ai:=by simpa using p
 have c:1<=k/\k<=9:=Uc
 have y:=Xy bs k c.1 c.2 ⟨r.at_+1,0,r.spot⟩
 have C:=jYX bs k c.1 c.2 (qZ,⟨r.at_+1,0,r.spot⟩)
 have v:zq S w0 a s bs k i (fun kd f t u o l m x w'=>∃d,(if uL k=ai then x=((pF k i (vB bs (qL k) (qZ,⟨r.at_+1,0,r.spot⟩)).1 (vB bs (qL k) (qZ,⟨r.at_+1,0,r.spot⟩)).2.gd:Nat):Int)/\(x=0->(⟨kd,f,t,u,o,l,m⟩:gP)=(vB bs (qL k) (qZ,⟨r.at_+1,0,r.spot⟩)).1.dr k)/\d=(vB bs (qL k) (qZ,⟨r.at_+1,0,r.spot⟩)).2 else x=70/\d=⟨r.at_+1,0,r.spot⟩)/\ky S w' a s bs d/\aj (·=a.block) w0 w') (vB bs (qL k) (qZ,⟨r.at_+1,0,r.spot⟩)):=
  fun kd f t u o l m e w' g1 g2 W g4=>⟨_,Uc,W,g4⟩
 generalize (fun(kd f t u:Int) (o:ByteArray) (l m x:Int) (w':af)=>∃d,(if uL k=ai then x=((pF k i (vB bs (qL k) (qZ,⟨r.at_+1,0,r.spot⟩)).1 (vB bs (qL k) (qZ,⟨r.at_+1,0,r.spot⟩)).2.gd:Nat):Int)/\(x=0->(⟨kd,f,t,u,o,l,m⟩:gP)=(vB bs (qL k) (qZ,⟨r.at_+1,0,r.spot⟩)).1.dr k)/\d=(vB bs (qL k) (qZ,⟨r.at_+1,0,r.spot⟩)).2 else x=70/\d=⟨r.at_+1,0,r.spot⟩)/\ky S w' a s bs d/\aj (·=a.block) w0 w')=K at *
 rw[C,show qZ=⟨0,[],0,0,0,0,0⟩from rfl]at y v
 refine⟨fun F O w7 n=>?_,fun F O w7 n=>?_⟩
 rw[F,zFH]at y v
 exact(L.bh n).num fun w' V Z w=>MP k i c hi (vS bs ⟨r.at_+1,0,r.spot⟩).1 (V.bh w) y v
 rw[F,Bq]at y v
 exact MP k i c hi 0 (L.bh n) y v
def L8{L}(a:Wf L){n i}(h:find L n=ab i):bz L n=((i:Int)+1,0,L):=by
 have⟨hi,e⟩:=Bz h;have b:bj L ((i:Int)+1)=ai:=zG.2 ⟨Om,Om⟩;have g:ar L ((i:Int)+1)=n:=by rw[qO hi,e]
 have⟨_,d,c,_,f,_⟩:=a.dr b;rw[g]at d c f;have j:Ren L L ((i:Int)+1) n:=by
  refine⟨?_,?_,?_,?_,?_,fun k l=>(f k l).1,?_,d,c⟩<;>rw[g]
 exact j.Hx a a b b rfl
def BG{L n}(h:find L n=bo)(a:(bz L n).2.1=0):(bz L n).2.2.length=L.length+1:=by
 have b:=(xH a).2.2;unfold bz at a|-;simp only[h]at a|-;rw[aw Uc]at a|-;split at a;simp at a;grind
def RU:∀l i,i<=mm i l/\mm i l<=i+l.length:=by
 intro l;induction l with
 |nil=>intro i;simp[mm]
 |cons s l a =>
  intro i
  rw[mm]
  split
  grind
  simp
def jZK:∀l i j h,i+j<=mm i l->l[j]=((i+j:Nat):Int)+1->i+j+1<=mm i l:=by
 intro l;induction l with
 |nil=>intro i j h;simp at h
 |cons s l a =>
  intro i j h h1 h2
  rw[mm]at h1|-
  cases j with
  |zero =>
   simp only[getElem_cons_zero,Nat.add_zero]at h2
   rw[bt h2]
   have:=(RU l<|i+1).1;omega
  |succ j =>
   simp only[getElem_cons_succ]at h2
   split
   rename_i hs
   rw[bt hs]at h1
   have:=a (i+1) j Uc Om Uc
   omega
   grind
def KU(a w':af)(bs:List UInt8)(x:Option ao):Prop:=
 (∀q,(zY bs).1=ab q->∃p F,x=ab p/\vJ w' p q F/\∀b,F b->a.heap.size<=b)/\((zY bs).1=bo->x=bo)
def QT(a:ao)(S c:NP)(d:Sl)(b:Nat):Prop:=c b\/b=a.block\/S b\/d.bg b
structure sZ(e:af)(H:NP)(w:af)(q a:ao)(s:Sl)(bs:List UInt8)(L:bw)(r:Rd)(S d:NP)(ps:List Nat)(c:Sl):Prop where
 ew:vJ w q L d
 rd:ky S w a s bs r
 fg:c9 w 3 1 c (fv<|ps.map Int.ofNat)
 pure:aq e w
 bf:∀b,QT a S d c b->e.heap.size<=b/\¬H b
 lt:∀b,(b=a.block\/S b)->b<w.heap.size
 dR:∀b,d b->b≠a.block/\¬S b/\¬c.bg b
 dp:∀b,c.bg b->b≠a.block/\¬S b
def sZ.Jd{w0 w H q a s bs L r S FR ps pl}(h:sZ w0 H w q a s bs L r S FR ps pl):∀b,QT a S FR pl b->b<w.heap.size:=by
 rintro b (c|c|c|c);exact h.ew.lt c;exact h.lt b<|.inl c;exact h.lt b<|.inr c;exact h.fg.lt c
def sZ.bh{w0 w w' H H' q a s bs L r S FR ps pl}(h:sZ w0 H w q a s bs L r S FR ps pl)(hs:au w0 H w H' w'):sZ w0 H' w' q a s bs L r S FR ps pl:=by
 have d:=hs.mn fun b c=>⟨h.Jd b c,(h.bf b c).2⟩;exact⟨h.ew.ext hs.ext fun b c=>d b<|.inl c,h.rd.ext hs.ext fun b c=>d b<|c.elim (fun h=>.inr<|.inl h) fun h=>.inr<|.inr<|.inl h,h.fg.ext hs.ext fun b c=>d b<|.inr<|.inr<|.inr c,h.pure.bh hs,fun b c=>⟨(h.bf b c).1,d b c⟩,fun b c=>Oi (h.lt b c) hs.ext.size,h.dR,h.dp⟩
def sZ.zk{w0 w w' H q a s bs L r S FR ps pl}(h:sZ w0 H w q a s bs L r S FR ps pl)(E:aq w w'):sZ w0 H w' q a s bs L r S FR ps pl:=
 ⟨h.ew.pure E,h.rd.pure E,h.fg.pure E,h.pure.trans E,h.bf,fun b c=>Oi (h.lt b c) E.size,h.dR,h.dp⟩
def Wm {S0} (sb bs w0) (hs:gr S0 w0 1 sb (gO bs)) :
  cl 18 #[sb.v] w0<|YI fun x y z w'=>y=(zY bs).2.1/\z=((zY bs).2.2:Int)/\KU w0 w' bs x/\aq w0 w':=by
 refine ZU sb w0 _ ?_
 have hl:sb.ay=bs.length:=by rw [hs.ay,vW]
 have bad:∀(e:Int) (n:Nat) (w':af),zY bs=(bo,e,n)->aq w0 w'->e=(zY bs).2.1/\(n:Int)=((zY bs).2.2:Int)/\KU w0 w' bs bo/\aq w0 w':=fun e n w' h E=>by
  rw [h];exact ⟨rfl,rfl,⟨fun q hq=>Uc,fun _=>rfl⟩,E⟩
 refine (Jw w0).mono ?_
 rintro _ w1 ⟨_,rfl,q,FR0,rfl,hP,E1,hFR⟩
 refine ⟨_,rfl,E1.dy,fun hc=>?_,fun hc=>?_⟩
 .have hc:4096<bs.length:=Oh<|ij hc
  exact bad 1 0 w1 (by unfold zY;rw [bt hc]) E1
 have hc:bs.length<=4096:=Uc
 refine ⟨fun hc2=>?_,fun hc2=>?_⟩
 .have hc2:bs.length=0:=Oh<|beq_iff_eq.1 hc2
  exact bad 3 0 w1 (by unfold zY;rw [aw Om,bt hc2]) E1
 have hc2:bs.length≠0:=Uc
 have htxt:zY bs=qf bs bs.length [] ⟨0,0,0⟩ []:=by unfold zY;rw [aw Om,aw hc2]
 refine (jcF sb bs w1 (hs.pure E1) Om).mono ?_
 rintro _ w2 ⟨_,rfl,a,s,rfl,hR,E2,ha,hsb⟩
 refine ⟨_,rfl,E2.dy,?_⟩
 have z1:=E1.size
 have la:=hR.box.lt
 have hnil:∀b,¬ Sl.nil.bg b:=fun b hb=>by obtain ⟨a,h,_⟩:=hb;cases h
 have R2:sZ w0 bl w2 q a s bs [] ⟨0,0,0⟩ s.bg FR0 [] Sl.nil :=
  ⟨hP.pure E2,hR,c9.nil _ _ _,E1.trans E2,fun b hb=>⟨by
   rcases hb with hb | hb | hb | hb
   .exact hFR b hb
   .omega
   .have:=hsb b hb;omega
   .exact (hnil b hb).elim,id⟩,fun b hb=>hb.elim (fun h=>Om) fun h=>(hsb b h).2,fun b hb=>by have:=hP.lt hb;exact ⟨Om,fun hh=>Oh<|hsb b hh,hnil b⟩,fun b hb=>(hnil b hb).elim⟩
 refine ⟨fun pl Hl w=>∃(L:bw) (r:Rd) (ps:List Nat) (FR:NP) (n:Nat),sZ w0 Hl w q a s bs L r s.bg FR ps pl/\Wf L/\ps.length=L.length/\ps.length<=r.at_/\r.at_<=bs.length/\r.gd=0/\bs.length - r.at_<=n/\qf bs n L r ps=zY bs,fun pl _=>bs.length+1 - pl.ay,⟨[],⟨0,0,0⟩,[],FR0,bs.length,R2,Wf.nil,rfl,Nat.zero_le _,Nat.zero_le _,rfl,Nat.le_refl _,htxt.symm⟩,?_⟩
 rintro pl Hl wl bh ⟨L,r,ps,FR,n,hRe,hW,hps,hpr,hra,hre,hn,hgo⟩
 unfold RK
 have hpl:pl.ay=ps.length:=by rw [hRe.fg.ay,zV,length_map]
 have hok:=hW.ok
 refine (US a s bs r wl hRe.rd hra).mono ?_
 rintro _ w3 ⟨_,rfl,rfl,E3⟩
 have R3:=hRe.zk E3
 have poolLen:∀{w:af} {L:bw} {F:NP},vJ w q L F->∃v:Sl,w.cell? q=ab v.v/\v.ay=L.length:=fun h=>by
  obtain ⟨sa,sb,sc,h,_⟩:=h;exact ⟨sa,h.box.dj,by rw [h.r1.ay];simp⟩
 refine ⟨_,rfl,E3.dy,fun hc3=>?_,fun hc3=>?_⟩
 .have hlt:r.at_<bs.length:=Oh<|ij hc3
  obtain ⟨n,rfl⟩:∃k,n=k+1:=⟨n - 1,Om⟩
  rw [qf,bt hlt] at hgo
  obtain ⟨v2,hv2,hv2l⟩:=poolLen R3.ew
  refine ⟨a,rfl,_,R3.rd.oA,q,rfl,v2,hv2,?_⟩
  dsimp only;rw [hv2l]
  refine (Wj a s bs r L.length w3 R3.rd hlt hre (fun b hb=>R3.lt b hb) Om).mono ?_
  rintro _ w4 ⟨kd,f,t,u,tx,va,vb,x,rfl,r',hx,hR4,X4⟩
  have hstep:=AI bs L r hlt hre
  generalize bs[r.at_].toNat=k at *
  have z3:=X4.size
  have R4:sZ w0 Hl w4 q a s bs L r' s.bg FR ps pl:=⟨R3.ew.ext X4 fun b hb e=>(hRe.dR b hb).1 e,hR4,R3.fg.ext X4 fun b hb e=>(hRe.dp b hb).1 e,R3.pure.ft X4 Gd,hRe.bf,fun b hb=>Oh<|R3.lt b hb,hRe.dR,hRe.dp⟩
  refine ⟨_,_,_,_,_,_,_,_,rfl,X4.ff fun b hb e=>(hRe.bf _<|.inr<|.inl rfl).2<|e▸hb,fun hc4=>?_,fun hc4=>⟨q,rfl,?_⟩⟩
  .have hx0:=bne_iff_ne.1 hc4
   have he:(vL bs L r).2.1=x:=by
    rw [hstep];split at hx
    .rename_i hk;rw [bt hk];unfold oh;rw [bt Gd];exact hx.1.symm
    .grind
   intro H1 w6 hs6
   rw [bt Uc,he] at hgo
   exact bad _ _ w6 hgo.symm (R4.bh hs6).pure
  .have hx0:x=0:=by simpa using hc4
   have hk:uL k=ai:=Gd
   rw [bt hk] at hx
   obtain ⟨hx1,hx2',hx3⟩:=hx
   have hx2:=hx2' hx0
   clear hx2'
   rw [bt hk] at hstep
   generalize vB bs (qL k) (qZ,⟨r.at_+1,0,r.spot⟩)=st at *
   obtain ⟨X,rX⟩:=st
   simp only at hx1 hx2 hx3
   subst hx3
   have hne:pF k L.length X r'.gd=0:=Om
   have hin:oh L k (X,r')=(if (find L<|X.dr k).isSome=ai then (L,72,r') else ((bz L<|X.dr k).2.2,(bz L<|X.dr k).2.1,r')):=by
    unfold oh;simp only;rw [aw Uc]
   rw [hin,<-hx2] at hstep
   intro H1 w6 hs6
   have R6:=R4.bh hs6
   obtain ⟨v3,hv3,hv3l⟩:=poolLen R6.ew
   refine ⟨v3,hv3,?_⟩
   refine (vU q ⟨kd,f,t,u,tx,va,vb⟩ w6 R6.ew hok).mono ?_
   rintro _ w7 ⟨r5,r6,rfl,he56,FR',hP7,X7,hF7⟩
   have he6:=mu Prod.snd he56
   simp only at he6
   have hH1:∀b,H1 b->b<w6.heap.size:=fun b hb=>hs6.lt b hb
   have z7:=X7.size
   have hpure7:=R6.pure.ft X7 fun i hi hb=>Oh<|(hRe.bf i<|.inl hb).1
   refine ⟨r5,r6,rfl,X7.ff fun b hb hh=>(R6.bf b<|.inl hh).2 hb,fun hc5=>?_,fun hc5=>⟨q,rfl,?_⟩⟩
   .have h60:(bz L ⟨kd,f,t,u,tx,va,vb⟩).2.1≠0:=by rw [<-he6];exact bne_iff_ne.1 hc5
    have hfn:¬ (find L ⟨kd,f,t,u,tx,va,vb⟩).isSome=ai:=fun hs=>by
     obtain ⟨i,hi⟩:=Option.isSome_iff_exists.1 hs;rw [L8 hW hi] at h60;exact h60 rfl
    rw [aw hfn] at hstep
    rw [hstep] at hgo
    simp only at hgo
    rw [bt h60,<-he6] at hgo
    exact bad _ _ w7 hgo.symm hpure7
   .have h60:(bz L ⟨kd,f,t,u,tx,va,vb⟩).2.1=0:=by rw [<-he6];simpa using hc5
    obtain ⟨v4,hv4,hv4l⟩:=poolLen hP7
    refine ⟨v4,hv4,fun hc6=>?_,fun hc6=>?_⟩
    .have hc6:(bz L ⟨kd,f,t,u,tx,va,vb⟩).2.2.length=L.length:=Oh<|beq_iff_eq.1 hc6
     have hfs:(find L ⟨kd,f,t,u,tx,va,vb⟩).isSome=ai:=by
      cases hf:find L ⟨kd,f,t,u,tx,va,vb⟩ with
      | some i=>rfl
      | none=>have:=BG hf h60;omega
     rw [bt hfs] at hstep
     rw [hstep] at hgo
     simp only at hgo
     rw [bt De] at hgo
     exact bad 72 _ w7 hgo.symm hpure7
    .have hc6:(bz L ⟨kd,f,t,u,tx,va,vb⟩).2.2.length≠L.length:=Oh<|beq_eq_false_iff_ne.1 hc6
     have hfn:¬ (find L ⟨kd,f,t,u,tx,va,vb⟩).isSome=ai:=fun hs=>by
      obtain ⟨i,hi⟩:=Option.isSome_iff_exists.1 hs;rw [L8 hW hi] at hc6;exact hc6 rfl
     have hlen7:=BG Uc h60
     rw [aw hfn] at hstep
     have hat:=Is bs L r hlt hre Uc
     rw [hstep] at hgo hat
     simp only at hgo hat
     rw [aw Uc] at hgo
     have hW7:=yG hW ⟨kd,f,t,u,tx,va,vb⟩
     generalize bz L ⟨kd,f,t,u,tx,va,vb⟩=mk at *
     intro p2 w8 n8
     have E8:aq w7 w8:=aj.bu n8
     have z8:=E8.size
     have hdr:∀b,FR' b->b≠a.block/\¬ s.bg b/\¬ pl.bg b:=fun b hb=>(hF7 b hb).elim (hRe.dR b) fun h=>⟨Oh<|R6.lt a.block<|.inl rfl,fun hh=>Oh<|R6.lt b<|.inr hh,fun hh=>Oh<|R6.fg.lt hh⟩
     have Rw8:=(R6.fg.ext X7 fun b hb hh=>(hRe.dR b hh).2.2 hb).pure E8
     obtain ⟨s1,w9,hr9,hR9,X9,hb9⟩:=Rw8.append (P:=prog) (ty:=42) (c:=1) Av (az.j0 n8).row rfl rfl (by rw [zV,length_map];omega) (by rw [zV,length_map];simp only [maxLen];omega)
     have hpo:∀b,pl.bg b->w0.heap.size<=b/\¬ H1 b:=fun b hb=>R6.bf b<|.inr<|.inr<|.inr hb
     have hpure9:=(hpure7.trans E8).ft X9 Gd
     have z9:=X9.size
     refine ⟨s1,w9,hr9,X9.ff Gd,⟨mk.2.2,r',ps++[r.at_],FR',n,⟨(hP7.pure E8).ext X9 Gd,((R6.rd.ext X7 fun b hb hh=>?_).pure E8).ext X9 fun b hb hh=>?_,?_,hpure9,fun b hb=>?_,fun b hb=>Oh<|R6.lt b hb,fun b hb=>⟨(hdr b hb).1,(hdr b hb).2.1,fun hh=>?_⟩,fun b hb=>?_⟩,hW7,Uc,Uc,hat.2.1,hat.2.2,Om,hgo⟩,?_⟩
     .rcases hb with hb | hb
      .exact (hRe.dR b hh).1 hb
      .exact (hRe.dR b hh).2.1 hb
     .rcases hb with hb | hb
      .exact (hRe.dp b hh).1 hb
      .exact (hRe.dp b hh).2 hb
     .have:fv ((ps++[r.at_]).map Int.ofNat)=fv (ps.map Int.ofNat)++[[vi (r.at_:Int)]]:=by simp [fv]
      rw [this];exact hR9
     .rcases hb with hb | hb | hb | hb
      .rcases hF7 b hb with h | h
       .exact R6.bf b<|.inl h
       .exact ⟨Oh R6.pure.size,fun hh=>Uc⟩
      .exact R6.bf b<|.inr<|.inl hb
      .exact R6.bf b<|.inr<|.inr<|.inl hb
      .rcases hb9 b hb with h | h
       .exact hpo b h
       .exact ⟨Oh R6.pure.size,fun hh=>Uc⟩
     .rcases hb9 b hh with h | h
      .exact (hdr b hb).2.2 h
      .have:=hP7.lt hb;omega
     .rcases hb9 b hb with h | h
      .exact hRe.dp b h
      .exact ⟨Oh<|R6.lt a.block<|.inl rfl,fun hh=>Oh<|R6.lt b<|.inr hh⟩
     .have h1:s1.ay=ps.length+1:=by rw [hR9.ay,length_append,zV,length_map];rfl
      show bs.length+1 - s1.ay<bs.length+1 - pl.ay
      omega
 .have hge:¬ r.at_<bs.length:=Oh<|il hc3
  rw [D1 hge] at hgo
  obtain ⟨v5,hv5,hv5l⟩:=poolLen R3.ew
  refine ⟨q,rfl,v5,hv5,?_⟩
  dsimp only;rw [hv5l]
  refine (HY q L.length w3 hW R3.ew).mono ?_
  rintro _ w10 ⟨r7,rfl,hr7⟩
  have R10:=R3.zk hr7.pure
  refine ⟨r7,rfl,hr7.ff,?_⟩
  unfold rR at hgo
  simp only at hgo
  have hw3:∀b,Hl b->b<w3.heap.size:=fun b hb=>Oi (bh.lt b hb) E3.size
  have o7:∀b,r7.bg b->¬ Hl b/\b<w10.heap.size:=fun b hb=>⟨fun hh=>Oi (hw3 b hh)<|hr7.bf b hb,hr7.fg.lt hb⟩
  generalize gz L L.length=xs at *
  have hrow:=(RU xs 0).2
  refine ⟨fun i H w=>∃j:Nat,i=j/\j<=L.length/\j<=mm 0 xs/\sZ w0 H w q a s bs L r s.bg FR ps pl/\c9 w 73 1 r7 (fv xs)/\(∀b,r7.bg b->¬ H b),fun i _=>((L.length:Int) - i).toNat,⟨0,rfl,Nat.zero_le _,Nat.zero_le _,R10,hr7.fg,fun b hb=>(o7 b hb).1⟩,?_⟩
  rintro _ H2 w2' hst2 ⟨j,rfl,hj,hjr,RL,hX,hv7⟩
  unfold Ly
  obtain ⟨v6,hv6,hv6l⟩:=poolLen RL.ew
  have h7l:r7.ay=xs.length:=by rw [hX.ay,zV]
  have tell:∀(h:j<ps.length) (w11:af),mm 0 xs=j->au w0 H2 w2' H2 w11->∃a7:ao,At pl j 1 a7/\∀(w11:af),au w0 H2 w2' H2 w11->∃v7:Int,w11.cell? a7=ab (vi v7)/\(73=(zY bs).2.1/\v7=((zY bs).2.2:Int)/\KU w0 w11 bs bo/\aq w0 w11):=by
   intro h w hi _;obtain ⟨a7,hat,_,hrw⟩:=yN RL.fg.gS (j:=j) Uc;refine ⟨a7,hat,fun w11 hs11=>?_⟩;have R11:=RL.bh hs11;obtain ⟨a7',hat',_,hv'⟩:=yN R11.fg.gS (j:=j) Uc;have:a7'=a7:=by
    obtain ⟨_,_,b1,hb1,rfl⟩:=hat;obtain ⟨_,_,b2,hb2,rfl⟩:=hat';rw [hb1] at hb2;cases hb2;rfl
   subst this;refine ⟨_,hv',?_⟩;rw [getElem_map];have hlt:mm 0 xs<ps.length:=Om;rw [dif_pos hlt] at hgo;have he:ps[mm 0 xs]=ps[j]:=Uc;rw [he] at hgo;exact bad 73 _ w11 hgo.symm R11.pure
  refine ⟨q,rfl,v6,hv6,fun hc=>?_,fun hc=>?_⟩
  .have hlt:j<L.length:=Oh<|ij hc
   refine ⟨fun hc7=>?_,fun hc7=>?_⟩
   .grind
   .have hlt7:j<xs.length:=Oh<|il hc7
    obtain ⟨a8,hat8,_,hv8⟩:=yN hX.gS hlt7
    refine ⟨a8,hat8,_,hv8,?_⟩
    rw [zI hlt Om]
    refine ⟨fun hc8=>?_,fun hc8=>?_⟩
    .have hne:=bne_iff_ne.1 hc8
     have hi:mm 0 xs=j:=by
      rcases Nat.lt_or_ge j (mm 0 xs) with h | h
      .exfalso;have:=(Og xs 0 (mm 0 xs) Om).2 j hlt7 h;apply hne;rw [this];omega
      .omega
     exact tell Om w2' hi hst2.jj
    .have heq:xs[j]=((j+1:Nat):Int):=by simpa using hc8
     exact ⟨⟨j+1,rfl,hlt,by have:=jZK xs 0 j hlt7 Om (by rw [heq];omega);omega,RL,hX,hv7⟩,vT hlt⟩
  .have hge2:j=L.length:=Oh<|il hc
   have hlt:¬ mm 0 xs<ps.length:=Om
   rw [dif_neg hlt] at hgo
   rw [<-hgo]
   exact ⟨rfl,rfl,⟨fun q' hq'=>by rw [<-hgo] at hq';cases hq';exact ⟨q,FR,rfl,RL.ew,fun b hb=>(RL.bf b<|.inl hb).1⟩,fun hn=>Uc⟩,RL.pure⟩
def Xb{Lq x}:∀l L bf,x∉l->(zS Lq l L bf).2.2 x=bf x:=by
 intro l;induction l with
 |nil=>intro L bf _;rfl
 |cons z l f =>
  intro L bf h
  simp only[mem_cons,not_or]at h
  obtain⟨y,e,c,d⟩:∃y e c,bz L { ar Lq z with a:=bf (ar Lq z).a,b:=bf (ar Lq z).b }=(y,e,c):=⟨_,_,_,rfl⟩
  rw[qB Lq z l L bf rfl d]
  split
  rfl
  grind
structure sR(w0:af)(H:NP)(w:af)(p q:ao)(Lc Lq:bw)(s1 r2:Sl)(A xs:List Int)(FP F' FQ:NP):Prop where
 pp:vJ w p Lc F'
 pq:vJ w q Lq FQ
 at_:c9 w 73 1 s1 (fv A)
 gz:c9 w 73 1 r2 (fv xs)
 ext:aj FP w0 w
 bf:∀b,(F' b\/FQ b\/s1.bg b\/r2.bg b)->¬H b
 oF:∀b,F' b->FP b\/w0.heap.size<=b
 oS:∀b,(s1.bg b\/r2.bg b)->w0.heap.size<=b
 y8:∀b,F' b->¬FQ b/\¬s1.bg b/\¬r2.bg b
 dS:∀b,s1.bg b->¬FQ b/\¬r2.bg b
section
variable {w0 w w':af} {H H':NP} {p q:ao} {Lc Lq:bw} {s1 r2:Sl} {A xs:List Int} {FP F' FQ:NP}
def sR.Jd(h:sR w0 H w p q Lc Lq s1 r2 A xs FP F' FQ):∀b,(F' b\/FQ b\/s1.bg b\/r2.bg b)->b<w.heap.size:=by
 rintro b (a|a|a|a);exact h.pp.lt a;exact h.pq.lt a;exact h.at_.lt a;exact h.gz.lt a
def sR.bh(h:sR w0 H w p q Lc Lq s1 r2 A xs FP F' FQ)(hs:au w0 H w H' w'):sR w0 H' w' p q Lc Lq s1 r2 A xs FP F' FQ:=by
 have d:=hs.mn fun b a=>⟨h.Jd b a,h.bf b a⟩;exact⟨h.pp.ext hs.ext fun b a=>d b<|.inl a,h.pq.ext hs.ext Gd,h.at_.ext hs.ext Gd,h.gz.ext hs.ext Gd,h.ext.bh hs,d,h.oF,h.oS,h.y8,h.dS⟩
end
def jSJ (p q:ao) (t:Int) (w0:af) {L Lq:bw} {FP FQ:NP} (hW:Wf L) (hQ:Wf Lq) (hP:vJ w0 p L FP) (B:vJ w0 q Lq FQ) (hd:∀b,FP b->¬ FQ b) :
  cl 111 #[.pointer<|ab p,.pointer<|ab q,.int .i64 t] w0<|XK fun r1 r2 w'=>r1=(vF L Lq t).1/\r2=(vF L Lq t).2.1/\∃F',vJ w' p (vF L Lq t).2.2 F'/\aj FP w0 w'/\∀b,F' b->FP b\/w0.heap.size<=b:=by
 refine Zf _ _ _ w0 _ ?_
 refine (yJ q t w0 B).mono ?_
 rintro _ m ⟨_,rfl,rfl,rfl⟩
 refine ⟨_,rfl,av.refl _,fun g=>?_,fun g=>?_⟩
 have R:bj Lq t=ak:=by simpa using g
 have e:vF L Lq t=(0,51,L):=by unfold vF;rw [aw (by rw [R];simp)]
 rw [e]
 exact ⟨rfl,rfl,FP,hP,aj.refl _,fun b c=>.inl c⟩
 have R:bj Lq t=ai:=by simpa using g
 refine (HY q t m hQ B).mono ?_
 rintro _ w2 ⟨r2,rfl,M⟩
 have E2:=M.pure
 have z2:=E2.size
 have l:∀{w:af} {a:ao} {L:bw} {F:NP},vJ w a L F->∃v:Sl,w.cell? a=ab v.v/\v.ay=L.length:=fun h=>by
  have⟨sa,sb,sc,h,_⟩:=h;exact ⟨sa,h.box.dj,by rw [h.r1.ay];simp⟩
 have⟨v1,hv1,hv1l⟩:=l<|B.pure E2
 have hLq:=hQ.ok.jl
 refine ⟨r2,rfl,E2.dy,q,rfl,v1,hv1,?_⟩
 dsimp only;rw [hv1l,show q6.wrap ((Lq.length:Int)+1)=((Lq.length+1:Nat):Int) by rw [i64 Om Om];omega]
 have⟨w3, hmk, hR3, E3⟩ := c9.bz (P := prog) ux (zr := [.int .i64 0]) (fun i z hi hz => by
   have h1:prog.info? 73=ab t73:=Kf;rw [h1] at hi;cases hi;have h2:t73.zero=ab (.int .i64 0):=Kf;rw [h2] at hz;cases hz;rfl) (k:=.i64) (k':=.i64) (n:=Lq.length+1) Om (by simp only [maxLen];omega) w2
 refine ⟨_,w3,hmk,E3.dy,?_⟩
 generalize hs1e:(Sl.mk (ab ⟨w2.heap.size,0,bo⟩) (Lq.length+1)<|Lq.length+1)=s1 at *
 have o:∀x,s1.bg x->x=w2.heap.size:=fun x hx=>by subst hs1e;obtain ⟨a,ha,rfl⟩:=hx;cases ha;rfl
 have hrep:replicate (Lq.length+1) [bk.int .i64 0]=fv (replicate (Lq.length+1) 0):=by simp [fv]
 rw [hrep] at hR3
 have P3:=(hP.pure E2).pure E3
 have⟨v2,hv2,hv2l⟩:=l P3
 refine ⟨p,rfl,v2,hv2,?_⟩
 have hfew:=tA hQ t
 have hsub:∀u∈gz Lq t,bj Lq u=ai:=fun u hu=>xC hQ hu
 generalize di:vF L Lq t=cs at *
 have U:cs=if (zS Lq (gz Lq t) L fun _=>0).2.1≠0 then (0,(zS Lq (gz Lq t) L fun _=>0).2.1,L) else ((zS Lq (gz Lq t) L fun _=>0).2.2 t,0,(zS Lq (gz Lq t) L fun _=>0).1):=by rw [<-di];unfold vF;rw [bt R]
 generalize gz Lq t=xs at *
 have h00:zS Lq (xs.take 0) L (fun _=>0)=(L,0,fun _=>0):=by rw [take_zero];rfl
 have C3:sR m bl w3 p q L Lq s1 r2 (replicate (Lq.length+1) 0) xs FP FP FQ:=⟨P3,(B.pure E2).pure E3,hR3,M.fg.pure E3,aj.pure<|E2.trans E3,fun _ _ h=>h,fun b c=>.inl c,fun b c=>c.elim (fun h=>Oh<|o b h)<|M.bf b,fun b c=>⟨hd b c,fun hh=>Oi (o b hh)<|hP.lt c,fun hh=>Oi (M.bf b hh)<|hP.lt c⟩,fun b c=>⟨fun hh=>Oi (o b c)<|B.lt hh,fun hh=>Oi (o b c)<|M.fg.lt hh⟩⟩
 refine ⟨fun i H w=>∃(j:Nat) (A:List Int) (F':NP),i=j/\j<=xs.length/\(zS Lq (xs.take j) L fun _=>0).2.1=0/\A.length=Lq.length+1/\(∀x:Nat,x<=Lq.length->A[x]?=ab ((zS Lq (xs.take j) L fun _=>0).2.2 (x:Int)))/\sR m H w p q (zS Lq (xs.take j) L fun _=>0).1 Lq s1 r2 A xs FP F' FQ,fun i _=>((xs.length:Int) - i).toNat,⟨0,replicate (Lq.length+1) 0,FP,rfl,Nat.zero_le _,by rw [h00],by rw [length_replicate],fun x hx=>by rw [h00,getElem?_replicate,bt Om],by rw [h00];exact C3⟩,?_⟩
 rintro _ Hl wl bh ⟨j,A,F',rfl,hj,h0,hAl,hA,s⟩
 unfold SA
 have Z:r2.ay=xs.length:=by rw [s.gz.ay,zV]
 refine ⟨fun g=>?_,fun g=>?_⟩
 have g:=vA Z g
 have J:=hsub xs[j]<|getElem_mem _
 have hz:=zG.1 J
 have htk:=take_succ_eq_append_getElem g
 have T:xs=xs.take j++xs[j] :: xs.drop (j+1):=by rw [<-drop_eq_getElem_cons g,take_append_drop]
 have⟨a4,Y,_,hv4⟩:=yN s.gz.gS g
 obtain ⟨v3,a5,hv3,hFq,hat5,hrow5,hF5⟩:∃(v3:Sl) (a5:ao),wl.cell? q=ab v3.v/\FQ q.block/\At v3 (q6.wrap<|xs[j] - 1) 7 a5/\Row wl a5 (tM<|ar Lq xs[j])/\FQ a5.block:=by
  have⟨sa,sb,sc,h,hF⟩:=s.pq;have⟨e,he,⟨a,r,g2⟩,_⟩:=h.ju J hQ.ok;refine ⟨sa,a,h.box.dj,(hF _).2<|.inl rfl,r,?_,(hF _).2<|.inr<|.inl<|AZ r⟩;have:ar Lq xs[j]=e.dr:=by simp only [ar,he,Option.map_some,Option.getD_some]
  rw [this];exact g2
 have⟨_,c2,c3,_,c5,_⟩:=hQ.dr J
 have ku:∀y:Int,(y=(ar Lq xs[j]).a\/y=(ar Lq xs[j]).b)->y=0\/(1<=y/\y<=Lq.length):=by
  intro y hy;rcases qW (ar Lq xs[j]).ba with e | e | e;grind;have c:=c3 Om;rcases hy with h | h;right;have:=(c5 y (by unfold zB;rw [e,h];simp)).1;exact zG.1 this;left;omega;right;have:=(c5 y (by unfold zB;rw [e];rcases hy with h | h <;> simp [h])).1;exact zG.1 this
 have hz0:(zS Lq (xs.take j) L fun _=>0).2.2 0=0:=Xb _ _ _ fun h=>Oh<|zG.1<|hsub 0<|mem_of_mem_take h
 have C:=fun n=>@QL Lq (xs.take j) (xs.drop<|j+1) xs[j] L (fun _=>0) h0 n
 have I:=fun n=>@OD Lq (xs.take j) xs[j] L (fun _=>0) h0 n
 have hgrow:=Jx Lq (xs.take j) L fun _=>0
 have hwc:=Lf (Lq:=Lq) (xs.take j) L (fun _=>0) hW
 rw [<-htk] at I
 rw [<-T] at C
 generalize hnz:ar Lq xs[j]=n at *
 generalize xs[j]=z at *
 generalize zS Lq (xs.take j) L (fun _=>0)=f at *
 have rdA:∀(y:Int),1<=y->y<=Lq.length->∀{H:NP} {w:af} {F':NP},sR m H w p q f.1 Lq s1 r2 A xs FP F' FQ->∃W:ao,At s1 y 1 W/\s1.bg W.block/\w.cell? W=ab (.int .i64<|f.2.2 y):=by
  intro y h1 h2 H w F' h;have hy:((y.toNat:Nat):Int)=y:=Om;have D:y.toNat<A.length:=Om;have⟨W,r,_,g3⟩:=yN h.at_.gS D;have Q:=hA y.toNat Om;rw [getElem?_eq_getElem D,hy] at Q;have Q:=Option.some.inj Q;rw [hy] at r;exact ⟨W,r,AZ r,by rw [g3,Q]⟩
 have kH:=s.bf
 refine ⟨q,rfl,v3,hv3,kH _<|.inr<|.inl hFq,a4,Y,z,hv4,kH _<|.inr<|.inr<|.inr<|AZ Y,a5,hat5,n.ba,n.cj,n.to,n.num,n.cf,n.a,n.b,hrow5,kH _<|.inr<|.inl hF5,?_⟩
 have hnn:({ n with a:=f.2.2 n.a,b:=f.2.2 n.b }:gP)=⟨n.ba,n.cj,n.to,n.num,n.cf,f.2.2 n.a,f.2.2 n.b⟩:=rfl
 have j3 : ∀ (X vb : Int) (H : NP) (w : af), X = f.2.2 n.a -> vb = f.2.2 n.b -> au m H w H w -> sR m H w p q f.1 Lq s1 r2 A xs FP F' FQ ->
   Ek (ab p) r2 s1 v2 j n.ba n.cj n.to n.num n.cf X vb H w (fun N H' w'=>(∃(j:Nat) (A:List Int) (F':NP),N=j/\j<=xs.length/\(zS Lq (xs.take j) L fun _=>0).2.1=0/\A.length=Lq.length+1/\(∀x:Nat,x<=Lq.length->A[x]?=ab ((zS Lq (xs.take j) L fun _=>0).2.2 (x:Int)))/\sR m H' w' p q (zS Lq (xs.take j) L fun _=>0).1 Lq s1 r2 A xs FP F' FQ)/\((xs.length:Int) - N).toNat<((xs.length:Int) - (j:Int)).toNat) (fun r1 r2 w'=>r1=cs.1/\r2=cs.2.1/\∃F',vJ w' p cs.2.2 F'/\aj FP m w'/\∀b,F' b->FP b\/m.heap.size<=b):=by
  rintro X vb H w rfl rfl hsw h
  refine (vU p ⟨n.ba,n.cj,n.to,n.num,n.cf,f.2.2 n.a,f.2.2 n.b⟩ w h.pp hwc.ok).mono ?_
  rintro _ w10 ⟨r3,r4,rfl,he,F2,hP2,G,hF2⟩
  have he1:=mu Prod.fst he
  have O:=mu Prod.snd he
  simp only at he1 O
  have hHlt:∀b,H b->b<w.heap.size:=fun b c=>hsw.lt b c
  have zw:=h.ext.size
  have d:sR m H w10 p q (bz f.1 ⟨n.ba,n.cj,n.to,n.num,n.cf,f.2.2 n.a,f.2.2 n.b⟩).2.2 Lq s1 r2 A xs FP F2 FQ :=
   ⟨hP2,h.pq.ext G fun b c hh=>(h.y8 b hh).1 c,h.at_.ext G fun b c hh=>(h.y8 b hh).2.1 c,h.gz.ext G fun b c hh=>(h.y8 b hh).2.2 c,h.ext.ft G fun i hi hh=>(h.oF i hh).elim id fun h=>Om,fun b c=>by
    rcases c with c | c;exact (hF2 b c).elim (fun h1=>h.bf b<|.inl h1) fun h1 hh=>Oh<|hHlt b hh;exact h.bf b<|.inr c,fun b c=>(hF2 b c).elim (h.oF b) fun h1=>.inr Om,h.oS,fun b c=>(hF2 b c).elim (h.y8 b) fun h1=>⟨fun hh=>Oh<|h.pq.lt hh,fun hh=>Oh<|h.at_.lt hh,fun hh=>Oh<|h.gz.lt hh⟩,h.dS⟩
  refine ⟨r3,r4,rfl,G.ff fun b c hh=>h.bf b (.inl hh) c,fun hc4=>?_,fun hc4=>?_⟩
  have h5:(bz f.1 ⟨n.ba,n.cj,n.to,n.num,n.cf,f.2.2 n.a,f.2.2 n.b⟩).2.1≠0:=by rw [<-O];exact bne_iff_ne.1 hc4
  have hf:=C _ hnn h5
  rw [<-O] at hf
  have hcs2:cs=(0,r4,L):=by rw [U,hf,bt (by rw [O];exact h5)]
  have⟨Mg,hMg⟩:=hgrow
  have⟨M2,hM2⟩:=qM f.1 ⟨n.ba,n.cj,n.to,n.num,n.cf,f.2.2 n.a,f.2.2 n.b⟩
  rw [hM2,hMg,append_assoc] at hP2
  rw [hv2l]
  refine (OL p L.length w10 hP2 (by rw [length_append];omega)).mono ?_
  rintro _ w11 ⟨rfl,hP3,X11⟩
  rw [take_left] at hP3
  refine ⟨rfl,X11.ff fun b c hh=>d.bf b (.inl hh) c,?_⟩
  rw [hcs2]
  exact ⟨rfl,rfl,F2,hP3,d.ext.ft X11 fun i hi hh=>(d.oF i hh).elim id fun h=>Om,d.oF⟩
  have h5:(bz f.1 ⟨n.ba,n.cj,n.to,n.num,n.cf,f.2.2 n.a,f.2.2 n.b⟩).2.1=0:=by rw [<-O];simpa using hc4
  have hn:=I _ hnn h5
  rw [<-he1] at hn
  have⟨a6,hat6,_,hv6⟩:=yN d.gz.gS g
  have hv6':w10.cell? a6=ab (.int .i64 z):=Gd
  have⟨a7,hat7,hb7,hw7,hset⟩:=NX d.at_ (k:=z) (j:=z.toNat) Om Om
  refine ⟨a6,hat6,z,hv6',a7,hat7,hw7,d.bf _<|.inr<|.inr<|.inl hb7,?_⟩
  rintro w12 e12
  have⟨V,K⟩:=hset r3
  rw [<-e12] at V K
  refine ⟨⟨j+1,A.set z.toNat r3,F2,zI g Om,g,by rw [hn],by rw [length_set];exact hAl,fun x hx=>?_,?_⟩,by rw [zI g Om];exact vT g⟩
  rw [hn]
  simp only
  by_cases e:(x:Int)=z
  rw [bt e,show z.toNat=x by omega,getElem?_set_self Om]
  rw [aw e,getElem?_set_ne Om];exact hA x hx
  rw [hn]
  exact ⟨d.pp.ext K fun b c hh=>(d.y8 b c).2.1 hh,d.pq.ext K fun b c hh=>(d.dS b hh).1 c,V,d.gz.ext K fun b c hh=>(d.dS b hh).2 c,d.ext.ft K fun i hi hh=>Oh<|d.oS i<|.inl hh,d.bf,d.oF,d.oS,d.y8,d.dS⟩
 have j2 : ∀ (X : Int) (H : NP) (w : af), X = f.2.2 n.a -> au m H w H w -> sR m H w p q f.1 Lq s1 r2 A xs FP F' FQ ->
   Fu (ab p) r2 s1 v2 j n.ba n.cj n.to n.num n.cf X n.b m H w (fun N H' w'=>(∃(j:Nat) (A:List Int) (F':NP),N=j/\j<=xs.length/\(zS Lq (xs.take j) L fun _=>0).2.1=0/\A.length=Lq.length+1/\(∀x:Nat,x<=Lq.length->A[x]?=ab ((zS Lq (xs.take j) L fun _=>0).2.2 (x:Int)))/\sR m H' w' p q (zS Lq (xs.take j) L fun _=>0).1 Lq s1 r2 A xs FP F' FQ)/\((xs.length:Int) - N).toNat<((xs.length:Int) - (j:Int)).toNat) (fun r1 r2 w'=>r1=cs.1/\r2=cs.2.1/\∃F',vJ w' p cs.2.2 F'/\aj FP m w'/\∀b,F' b->FP b\/m.heap.size<=b):=by
  rintro X H w hva hsw h
  refine ⟨fun g=>?_,fun g=>?_⟩
  have c:=(ku n.b<|.inr rfl).resolve_left fun e=>Oh<|ij g
  have⟨a8,r,g2,g3⟩:=rdA n.b c.1 c.2 h
  exact ⟨a8,r,_,g3,fun w13 hs13=>j3 X _ H w13 hva rfl hs13.jj (h.bh hs13)⟩
  grind
 refine ⟨fun hc2=>?_,fun hc2=>?_⟩
 have ha:=(ku n.a<|.inl rfl).resolve_left fun e=>Oh<|ij hc2
 have⟨W,r,g2,g3⟩:=rdA n.a ha.1 ha.2 s
 refine ⟨W,r,fun H2 w7 S=>?_⟩
 have h7:=s.bh S
 have⟨a9',g1',_,g3'⟩:=rdA n.a ha.1 ha.2 h7
 have:a9'=W:=by
  obtain ⟨_,_,b1,hb1,rfl⟩:=g1';obtain ⟨_,_,b2,hb2,rfl⟩:=r;rw [hb1] at hb2;cases hb2;rfl
 subst this
 exact ⟨_,g3',fun w14 hs14=>j2 _ H2 w14 rfl hs14.jj (h7.bh hs14)⟩
 have ha:=(ku n.a<|.inl rfl).resolve_right fun e=>Oh<|il hc2
 exact fun H2 w7 S=>j2 n.a H2 w7 (by rw [ha,hz0]) S.jj<|s.bh S
 have g:=vH Z hj g
 subst g
 rw [take_length] at h0 hA s
 have ht:=zG.1 R
 have D:t.toNat<A.length:=Om
 have⟨a10,r,_,g3⟩:=yN s.at_.gS D
 have E:=hA t.toNat Om
 rw [getElem?_eq_getElem D] at E
 have ht2:((t.toNat:Nat):Int)=t:=Om
 rw [ht2] at E r
 have E:=Option.some.inj E
 refine ⟨a10,r,_,g3,?_⟩
 rw [U,aw (by rw [h0];exact fun h=>h rfl)]
 exact ⟨E,rfl,F',s.pp,s.ext,s.oF⟩
def WL {S0} (p sb bs w0) {L FP} (hW:Wf L) (hP:vJ w0 p L FP) (hs:gr S0 w0 1 sb (gO bs)) :
  cl 54 #[vp<|ab p,sb.v] w0<|XN fun t x y w'=>t=(yM L bs).1/\x=(yM L bs).2.1/\y=((yM L bs).2.2.1:Int)/\∃F',vJ w' p (yM L bs).2.2.2 F'/\aj FP w0 w'/\∀b,F' b->FP b\/w0.heap.size<=b:=by
 refine jbC _ _ w0 _ ?_
 refine (Wm sb bs w0 hs).mono ?_
 rintro _ w1 ⟨x,y,z,rfl,hy,hz',hout,E1⟩
 refine ⟨_,_,_,rfl,?_⟩
 cases hq:(zY bs).1 with
 | none =>
  have hd:yM L bs=(0,(zY bs).2.1,(zY bs).2.2,L):=by unfold yM;rw [hq]
  have he:y≠0:=by rw [hy];exact xR hq
  refine ⟨fun _=>?_,fun hc=>absurd Uc he⟩
  rw [hd]
  exact ⟨rfl,hy,hz',FP,hP.pure E1,aj.pure E1,fun b hb=>.inl hb⟩
 | some q =>
  obtain ⟨a,F,rfl,hPq,hF⟩:=hout.1 q hq
  have⟨g1,_,g3,_⟩:=uY hq
  have h0:=KZ hq
  have hd:yM L bs=((vF L q q.length).1,(vF L q q.length).2.1,0,(vF L q q.length).2.2):=by unfold yM;rw [hq]
  rw [h0] at hy
  obtain ⟨v1,hv1,hv1l⟩:∃v:Sl,w1.cell? a=ab v.v/\v.ay=q.length:=by
   have⟨sa,sb,sc,h,_⟩:=hPq;exact ⟨sa,h.box.dj,by rw [h.r1.ay];simp⟩
  refine ⟨fun hc=>absurd hy Uc,fun _=>⟨a,rfl,v1,hv1,?_⟩⟩
  dsimp only;rw [hv1l]
  refine (jSJ p a q.length w1 hW g1 (hP.pure E1) hPq fun b hb hh=>Oi (hP.lt hb)<|hF b hh).mono ?_
  rintro _ w3 ⟨r1,r2,rfl,h1,h2,F',hP',E3,hF'⟩
  refine ⟨_,_,rfl,?_⟩
  rw [hd]
  exact ⟨h1,h2,rfl,F',hP',(aj.pure E1).trans E3,fun b hb=>(hF' b hb).imp id fun h=>Oh E1.size⟩
def qR(l:gq):List UInt8×Int:=if(zC [] l).2.1≠0 then([],(zC [] l).2.1)else my (zC [] l).2.2 (zC [] l).1
def Dr(l:gq):ByteArray:=⟨(qR l).1.toArray⟩
def yq{k f t u x a}(h:yA u)(b:rz a):rz (.mk k f t u x [a]):=.mk _ _ _ _ _ _ h Gd
def yi{k f t u x a b}(h:yA u)(c:rz a)(d:rz b):rz (.mk k f t u x [a,b]):=.mk _ _ _ _ _ _ h Gd
def uB{k f t u x}(h:yA u):rz (.mk k f t u x []):=.mk _ _ _ _ _ _ h fun i hi=>Uc
def pz:yA 0:=⟨De,De⟩
def Yn{c x}(h:yA c):rz (qQ c x):=yi pz (uB pz)<|yi pz (uB h)<|uB pz
def Wn{l}(h:yA l.c)(a b):rz (zR l a b):=by
 unfold zR;have d:=Yn (x:=l.cf) h;split;· exact yq pz d
 split;· exact yq pz d
 split;· exact yq pz<|yi pz (uB pz)<|uB h
 split;· exact yq pz<|yi pz (uB pz)<|yi pz (yq pz d)<|yq pz d
 split;· exact yq pz<|yi pz (uB pz)<|uB h
 split;· exact yq pz<|yi pz (uB pz) d
 exact yi pz (uB pz)<|uB h
def Cd{L}(a:yT L){l}(h:yA l.c):yT (zC L l).2.2:=by
 unfold zC;split;exact a;exact a.of<|Wn h _ _
def xZ{L}(a:Ok L)(l):∃M,(zC L l).2.2=L++M:=by
 unfold zC;split;exact⟨[],(append_nil L).symm⟩;exact Jb a _
def YL(l)(A:yA l.c)(w0):
  cl 98 #[.agg #[vi l.ba,vi l.cj,vu l.c,vs l.cf,vb l.gR]] w0<|XR fun r n w'=>n=(qR l).2/\jd w0 5 1 (gO (qR l).1) r w':=by
 refine Yp _ _ _ _ _ w0 _ ?_
 intro G v hs
 have t:=hs.first
 refine(Jw v).mono ?_
 rintro _ w ⟨_,rfl,p,F,rfl,y,q,u⟩
 refine⟨_,rfl,q.dy,?_⟩
 refine(Nq p l w y Wf.nil.ok).mono ?_
 rintro _ D ⟨r2,r3,rfl,x,k,E,j,s,B⟩
 have m:=t.trans q
 have f:=m.ft s fun i hi o=>Oi (u i o) t.size
 refine⟨_,_,rfl,s.ff fun b g o=>Oi (hs.lt b g)<|u b o,fun d=>?_,fun d=>?_⟩
 .have d:=bne_iff_ne.1 d
  have e:qR l=([],(zC [] l).2.1):=by unfold qR;rw[bt (by rw[<-k];exact d)]
  rw[e]
  exact⟨k,c9.nil _ _ _,fun b g=>(by have⟨a,z,_⟩:=g;cases z),f⟩
 .have d:r3=0:=by simpa using d
  have e:qR l=my (zC [] l).2.2 (zC [] l).1:=by unfold qR;rw[aw (by rw[<-k];simpa using d)]
  rw[e,<-x]
  refine(Lp p r2 D (uR Wf.nil l) (Cd yT.nil A) j).mono ?_
  rintro _ I ⟨H,J,rfl,C,h⟩
  exact⟨_,_,rfl,h.pure.dy,C,h.fg,fun b g=>Oi (h.bf b g) f.size,f.trans h.pure⟩
end Go.Proofs
end
section
open Go Go.SE List
namespace Go.Proofs
def Fs(L Lq t):∃M,(vF L Lq t).2.2=L++M:=by
 unfold vF;split;simp only;split;exact⟨[],(append_nil L).symm⟩;exact Jx _ _ L _;exact⟨[],(append_nil L).symm⟩
def DQ(L bs):∃M,(yM L bs).2.2.2=L++M:=by
 unfold yM;split;exact⟨[],(append_nil L).symm⟩;exact Fs _ _ _
def qA(L:bw)(G:List Int)(bs:List UInt8):bw×List Int×Bool:=
 if(yM L bs).2.1≠0 then((yM L bs).2.2.2,G,false)else((yM L bs).2.2.2,rh (yM L bs).2.2.2 G (yM L bs).1,true)
def vY(bb:Int):Bool:=(bb==0) ||(bb==1)
def zN(L:bw)(G:List Int)(a b:Bool)(bb:Int):Int×bw×List Int×Bool×Bool:=
 if vY bb=false then(2,L,G,a,b)else
 if(bz L<|zQ bb).2.1≠0 then((bz L<|zQ bb).2.1,(bz L<|zQ bb).2.2,G,a,b)else
 (0,(bz L<|zQ bb).2.2,rh (bz L<|zQ bb).2.2 G (bz L<|zQ bb).1,a ||(bb==0),b ||(bb==1))
end Go.Proofs
namespace Go.SE
def jVM(s c i)(h:i<s.data.toList.length):(bytesRow s c)[i]?=some (.int .u8 ((s.data.toList[i]).toNat:Int)):=by
 unfold bytesRow;have a:=Uc;rw[Array.getElem?_append_left Gd,Array.getElem?_map,Array.getElem?_eq_getElem a,Option.map_some,Array.getElem_toList]
def Zg(b i):(⟨b,0,none⟩:Addr).add i=⟨b,i,none⟩:=by
 unfold Addr.add;split;rename_i h;subst h;rfl;simp
def NU{P src dst e}(hs:P.underlying src=some .string)(l:P.underlying dst=some (.slice e))(m:P.underlying e=some (.int .u8))(w x):
  ∃s w',(convert src dst<|vs x).run P w=.ok s.v w'/\aq w w'/\gr (·=w.heap.size) w' 1 s (gO x.data.toList)/\(s.a=none->s=Sl.nil):=by
 refine⟨⟨some ⟨w.heap.size,0,none⟩,x.size,grownCap w x.size 0 e⟩,_,run_bytes_of_string w src dst e x hs l m,?_,?_,fun h=>Uc⟩
 exact⟨rfl,rfl,rfl,Nat.le_succ _,Uc,fun b k _=>(RowKit.Below.heap_alloc _ _ _ k)⟩
 have c:(w.drew.alloc<|.cells (bytesRow x<|grownCap w x.size 0 e) e ((bytesRow x<|grownCap w x.size 0 e).size,(bytesRow x<|grownCap w x.size 0 e).size+1)).heap[w.heap.size]?=some (.cells (bytesRow x<|grownCap w x.size 0 e) e ((bytesRow x<|grownCap w x.size 0 e).size,(bytesRow x<|grownCap w x.size 0 e).size+1)):=World.alloc_heap_new w.drew _
 refine⟨by rw[vW];rfl,fun i hi=>?_⟩
 have d:i<x.data.toList.length:=by simpa[gO]using hi
 have g:=Uc
 refine⟨(⟨w.heap.size,0,none⟩:Addr).add<|i*1,⟨Om,Uc,_,rfl,Sm⟩,by rw[zD],?_⟩
 intro j f
 have:j=0:=by simp[gO]at f;exact f
 subst this
 simp only[gO,getElem_map,Nat.mul_one,Nat.add_zero,qN]
 rw[Zg]
 unfold World.cell?
 simp only[c]
 simpa using jVM x _ i d
end Go.SE
namespace Go.Proofs
open Tryz
attribute [local irreducible] Calls
structure uf(w:World)(f:Addr)(L:bw)(G:List Int)(a b:Bool)(k p:Addr)(S:List ln)(FK FP:NP):Prop where
 box:az w f [vp<|some k,vp<|some p,vb a,vb b] 98
 ic:qC w k p G S FK
 ew:zH w p L FP
 wf:Wf L
 ok:rK L G S
 d:∀x,FK x->¬FP x
 dk:¬FK f.block
 dp:¬FP f.block
def lv(w:World)(f:Addr)(L:bw)(G:List Int)(a b:Bool)(F:NP):Prop:=∃k p S FK FP,uf w f L G a b k p S FK FP/\∀x,F x↔x=f.block\/FK x\/FP x
section
variable {w w':World} {f k p:Addr} {L:bw} {G:List Int} {a b:Bool} {S:List ln} {FK FP F:NP}
def uf.ext{X}(h:uf w f L G a b k p S FK FP)(E:aj X w w')(c:∀x,x=f.block\/FK x\/FP x->¬X x):uf w' f L G a b k p S FK FP:=
 ⟨h.box.ext E<|c _<|.inl rfl,h.ic.ext E Gd,h.ew.ext E Gd,h.wf,h.ok,h.d,h.dk,h.dp⟩
def lv.ext{X}(h:lv w f L G a b F)(E:aj X w w')(d:∀x,F x->¬X x):lv w' f L G a b F:=by
 have⟨k,p,S,FK,FP,h,c⟩:=h;exact⟨k,p,S,FK,FP,h.ext E Gd,c⟩
def lv.pure(h:lv w f L G a b F)(E:aq w w'):lv w' f L G a b F:=h.ext E fun _ _ h=>h
def lv.lt(h:lv w f L G a b F){x}(hx:F x):x<w.heap.size:=by
 have⟨k,p,S,FK,FP,h,c⟩:=h;rcases(c x).1 hx with rfl|hx|hx;exact h.box.lt;exact h.ic.lt hx;exact h.ew.lt hx
def lv.wf(h:lv w f L G a b F):Wf L:=by have⟨k,p,S,FK,FP,h,c⟩:=h;exact h.wf
def lv.rv(h:lv w f L G a b F):G.Nodup/\∀t∈G,bj L t=true:=by
 have⟨k,p,S,FK,FP,h,c⟩:=h;exact⟨h.ok.Gi,fun t ht=>h.ok.kq t<|h.ok.oe t ht⟩
def uf.rq{M FP'}(h:uf w f L G a b k p S FK FP)(j:zH w' p (L++M) FP')(g:Wf (L++M))(E:aj FP w w')(e:∀x,FP' x->FP x\/w.heap.size<=x):uf w' f (L++M) G a b k p S FK FP':=
 ⟨h.box.ext E h.dp,h.ic.ext E fun x hx=>h.d x hx,j,g,h.ok.me,fun x hx c=>(e x c).elim (h.d x hx) fun i=>Oh<|h.ic.lt hx,h.dk,fun hx=>(e _ hx).elim h.dp fun i=>Oh h.box.lt⟩
def uf.CN{G' S' FK'}(h:uf w f L G a b k p S FK FP)(i:qC w' k p G' S' FK')(g:rK L G' S')(E:aj FK w w')(e:∀x,FK' x->FK x\/w.heap.size<=x):uf w' f L G' a b k p S' FK' FP:=
 ⟨h.box.ext E h.dk,i,h.ew.ext E fun x hx c=>h.d x c hx,h.wf,g,fun x hx=>(e x hx).elim (h.d x) fun j c=>Oh<|h.ew.lt c,fun hx=>(e _ hx).elim h.dk fun j=>Oh h.box.lt,h.dp⟩
end
def GX(w0):cl 9 #[] w0 (XD fun r w'=>∃f F,r=some f/\lv w' f [] [] false false F/\aq w0 w'/\∀x,F x->w0.heap.size<=x):=by
 refine jdd w0 (fun r w'=>∃f F,r=some f/\lv w' f [] [] false false F/\aq w0 w'/\∀x,F x->w0.heap.size<=x) ?_;refine(OW w0).mono ?_;rintro _ l ⟨_,rfl,p,rfl,j,FP,c,s⟩;refine⟨_,rfl,?_⟩;refine(zEE p l).mono ?_;rintro _ n ⟨_,rfl,k,FK,rfl,g,e,b⟩;refine⟨_,rfl,fun h m h3=>?_⟩;have a:aq n m:=aj.bu h3;have q:=j.size;have t:=e.size;have o:=h3.gp;refine⟨h,fun x=>x=h.block\/FK x\/FP x,rfl,⟨k,p,[],FK,FP,⟨az.j0 h3,g.pure a,(c.pure e).pure a,Wf.nil,⟨⟨by simp[zK],by simp[zK],fun i hi=>Uc⟩,by simp[zK],Sm,Sm⟩,fun x hx d=>?_,fun hx=>?_,fun hx=>?_⟩,fun x=>Iff.rfl⟩,(j.trans e).trans a,?_⟩;have:=b x hx;have:=c.lt d;omega;have:=g.lt hx;omega;have:=c.lt hx;omega;grind
def GQ(f:Addr)(body:ByteArray)(c:World){L:bw}{G:List Int}{a b:Bool}{F:NP}(h:lv c f L G a b F):
  cl 23 #[vp<|some f,vs body] c<|XC fun r w'=>r=(qA L G body.data.toList).2.2/\∃F',lv w' f (qA L G body.data.toList).1 (qA L G body.data.toList).2.1 a b F'/\aj F c w'/\∀x,F' x->F x\/c.heap.size<=x:=by
 refine jcA _ _ c _ ?_
 have⟨k,p,S,FK,FP,h,H⟩:=h
 refine Br.f rfl ⟨f,rfl,some p,h.box.cell rfl,?_⟩
 have⟨s,v,B,m,hs,D⟩:=NU (P:=prog) (src:=9) (dst:=59) underlying9 underlying59 underlying5 c body
 refine⟨s,v,B,?_⟩
 have h1:=h.ext m fun _ _ h=>h
 refine(zIA p s body.data.toList v h1.wf h1.ew hs D).mono ?_
 rintro _ w ⟨t,x,y,rfl,rfl,rfl,rfl,i,A,j,q⟩
 have⟨M,n⟩:=DQ L body.data.toList
 have u:=Ee h.wf body.data.toList
 rw[n]at A u
 have h2:=h1.rq A u j q
 have g:aj F c w:=(aj.pure m).trans<|j.mono Gd
 have I:=m.size;have J:=j.size
 refine⟨_,_,_,rfl,fun e=>?_,fun e=>?_⟩
 have e:=bne_iff_ne.1 e
 unfold qA
 rw[if_pos e,n]
 refine⟨rfl,_,⟨k,p,S,FK,i,h2,fun _=>Iff.rfl⟩,g,?_⟩
 rintro x (rfl|hx|hx)
 grind
 grind
 grind
 have e:(yM L body.data.toList).2.1=0:=by simpa using e
 refine⟨f,rfl,some k,h2.box.dj,?_⟩
 refine(IA k p (yM L body.data.toList).1 w h2.ic h2.ew h2.wf h2.d h2.ok).mono ?_
 rintro _ N ⟨K,rfl,_,S',o,C,E,z,l⟩
 refine⟨_,rfl,?_⟩
 have h3:=h2.CN C E z l
 unfold qA
 rw[if_neg Uc,n]
 refine⟨rfl,_,⟨k,p,S',o,i,h3,fun _=>Iff.rfl⟩,g.trans<|z.mono Gd,?_⟩
 rintro x (rfl|hx|hx)
 exact .inl<|(H _).2<|.inl rfl
 grind
 grind
def He(f bb w0){L G a b F}(h:lv w0 f L G a b F):
  cl 41 #[vp<|some f,vi bb] w0<|XB fun r w'=>r=(zN L G a b bb).1/\∃F',lv w' f (zN L G a b bb).2.1 (zN L G a b bb).2.2.1 (zN L G a b bb).2.2.2.1 (zN L G a b bb).2.2.2.2 F'/\aj F w0 w'/\∀x,F' x->F x\/w0.heap.size<=x:=by
 refine jdu _ _ w0 _ ?_
 refine Br.f rfl ⟨fun c=>?_,fun c=>?_⟩
 .intro H hs
  have e:zN L G a b bb=(2,L,G,a,b):=by
   unfold zN vY;rw[if_pos Uc]
  rw[e]
  exact⟨rfl,F,h.pure hs.first,aj.pure hs.first,fun x hx=>.inl hx⟩
 have X:vY bb=true:=by unfold vY;simpa only[Bool.not_eq_eq_eq_not,Bool.not_false]using c
 have V:bb=0\/bb=1:=Uc
 refine⟨f,rfl,fun H hs=>?_⟩
 have v:=hs.first
 have⟨k,p,S,FK,FP,h,T⟩:=h
 have h1:=h.ext v fun _ _ h=>h
 refine⟨some p,h1.box.cell rfl,?_⟩
 refine(jbc p H h1.ew h1.wf.ok bb).mono ?_
 rintro _ I ⟨r1,r2,rfl,J,g,u,m,C⟩
 have O:(⟨6,bb,0,0,⟨#[]⟩,0,0⟩:gP)=zQ bb:=rfl
 rw[O]at J u
 have⟨N,P⟩:=Prod.mk.inj J
 have⟨M,y⟩:=qM L<|zQ bb
 have D:=yG h.wf<|zQ bb
 rw[y]at u D
 have h2:=h1.rq u D m C
 have j:aj F w0 I:=(aj.pure v).trans<|m.mono Gd
 have U:=v.size;have W:=m.size
 refine⟨_,_,rfl,m.ff fun _ h=>h.elim,fun c=>?_,fun c=>?_⟩
 .have c:=bne_iff_ne.1 c
  unfold zN
  rw[if_neg Uc,if_pos Uc,y]
  refine⟨P,_,⟨k,p,S,FK,g,h2,fun _=>Iff.rfl⟩,j,?_⟩
  rintro x (rfl|hx|hx)
  .grind
  .grind
  .grind
 .have Q:r2=0:=by simpa using c
  refine⟨f,rfl,some k,h2.box.dj,?_⟩
  refine(IA k p r1 I h2.ic h2.ew h2.wf h2.d h2.ok).mono ?_
  rintro _ n ⟨Y,rfl,_,S',l,E,R,s,t⟩
  refine⟨_,rfl,s.ff fun _ h=>h.elim,?_⟩
  have h3:=h2.CN E R s t
  have A:∃i:Nat,bb=(i:Int)/\i<2:=⟨bb.toNat,Om,Om⟩
  obtain⟨i,rfl,hi⟩:=A
  refine⟨f,rfl,(f.add 2).add i,⟨Om,Om,Sm⟩,?_⟩
  rw[qN]
  refine⟨h3.box.im So,id,?_⟩
  rintro _ rfl
  have K:=h3.box.set (2+i)<|vb true
  have z:aj (·=f.block) n (n.setCell (f.add<|2+i)<|vb true):=by
   have:=aj.setCell (w:=n) (f.add<|2+i)<|vb true;rw[zD]at this;exact this.mono fun x _ hx=>hx.symm▸rfl
  unfold zN
  rw[if_neg Uc,if_neg Uc,y,<-N]
  have q:=E.ext z fun x hx e=>h3.dk<|e▸hx
  have o:=h3.ew.ext z fun x hx e=>h3.dp<|e▸hx
  have B:az (n.setCell (f.add<|2+i)<|vb true) f [vp<|some k,vp<|some p,vb<|a ||((i:Int)==0),vb<|b ||((i:Int)==1)] 98:=by
   rcases(show i=0\/i=1 by omega)with rfl|rfl
   .simpa using K
   .simpa using K
  refine⟨rfl,fun x=>x=f.block\/l x\/g x,⟨k,p,S',l,g,⟨B,q,o,h3.wf,h3.ok,h3.d,h3.dk,h3.dp⟩,fun _=>Iff.rfl⟩,(j.trans<|s.mono Gd).trans<|z.mono Gd,?_⟩
  rintro x (rfl|hx|hx)
  .exact .inl<|(T _).2<|.inl rfl
  .grind
  .grind
end Go.Proofs
end
section
open Go Go.SE List
open Go.IntKind renaming i64 -> q6
open Go renaming World->af,Value->bk,Addr->ao,Ending->fb,Program->ez,TypeId->dz
open Option renaming some->ab,none->bo
open Bool renaming true->ai,false->ak
open Go.Builtin renaming append_->cm
open Prod.mk renaming injEq->ei
open Go.IntKind renaming u64->dc
namespace Go.Proofs
open Tryz
set_option maxRecDepth 100000
set_option maxHeartbeats 4000000
attribute [local irreducible] cr ed dv de Calls CallsD
attribute [local irreducible] ee W WV WR uP pv e0 eh fe ka ek el ev eu fa dw di dn fc eo kp yS xA yF bn ub
open Classical in
noncomputable def sG(G:List Int):List gq->bw->Int×bw
 |[],L=>(0,L)
 |l :: ls,L=>if(zC L l).2.1=0/\iw (zC L l).2.2 (jn (zC L l).2.2 G) (zC L l).1 then((zC L l).1,(zC L l).2.2)else sG G ls (zC L l).2.2
def pa(bb c:Int)(x:ByteArray):List gq:=[⟨2,bb,c,x,ak⟩,⟨6,0,c,x,ak⟩]
noncomputable def uX(L:bw)(G:List Int)(bb c:Int)(x:ByteArray):Int×bw:=if vY bb=ai then sG G (pa bb c x) L else(0,L)
def tJ{L l}(h:(zC L l).2.1=0)(e:Wf L):vM l=0/\bj (zC L l).2.2 (zC L l).1=ai/\zA (zC L l).2.2 (zC L l).1=zR l ai ai:=by
 have a:vM l=0:=by
  unfold zC at h;split at h;exact h;grind
 have c:zC L l=of L (zR l ai ai):=by unfold zC;rw[aw Om]
 obtain⟨b,d,_⟩:=Da e (by rw[<-c];exact h);rw[<-c]at b d;exact⟨a,b,d⟩
inductive rO(a:bw->Int->Prop)(G:List Int):List gq->bw->Int->bw->Prop
 |nil {L:bw}:rO a G [] L 0 L
 |oy {l:gq} {ls:List gq} {L:bw}:(zC L l).2.1=0->iw (zC L l).2.2 (jn (zC L l).2.2 G) (zC L l).1->rO a G (l :: ls) L (zC L l).1 (zC L l).2.2
 |FJ {l:gq} {ls:List gq} {L b:bw} {r:Int}:(¬((zC L l).2.1=0/\iw (zC L l).2.2 (jn (zC L l).2.2 G) (zC L l).1)\/a (zC L l).2.2 (zC L l).1)->rO a G ls (zC L l).2.2 r b->rO a G (l :: ls) L r b
def rO.eq{G ls L L' r}(h:rO (fun _ _=>False) G ls L r L'):sG G ls L=(r,L'):=by
 induction h with
 |nil=>rfl
 |oy h1 h2=>rw[sG,bt ⟨h1,h2⟩]
 |FJ h1 _ a=>rw[sG,aw<|h1.resolve_right id,a]
open Classical in
noncomputable def wO(L:bw)(G:List Int)(n:Int):Bool:=match find L (zQ n)with|some i=>decide (jn L G<|(i:Int)+1)|none=>ak
noncomputable def tv(L:bw)(G:List Int)(bb:Int):Bool:=vY bb&&(wO L G bb ||wO L G 2)
end Go.Proofs
end
section
open Go Go.SE List
open Go.IntKind renaming i64 -> q6
open Go renaming World->af,Value->bk,Addr->ao,Ending->fb,Program->ez,TypeId->dz
open Option renaming some->ab,none->bo
open Bool renaming true->ai,false->ak
open Go.Builtin renaming append_->cm
open Prod.mk renaming injEq->ei
open Go.IntKind renaming u64->dc
namespace Go.Proofs
open Tryz
set_option maxRecDepth 100000
set_option maxHeartbeats 4000000
attribute [local irreducible] cr ed dv de Calls CallsD
attribute [local irreducible] ee W WV WR uP pv e0 eh fe ka ek el ev eu fa dw di dn fc eo kp yS xA yF bn ub
def Hs(l:gq)(d:yA l.c)(w0:af):
  cl 40 #[.agg #[vi l.ba,vi l.cj,vu l.c,vs l.cf,vb l.gR]] w0<|YC fun r w'=>r=Dr l/\aq w0 w':=by
 refine jcW _ _ _ _ _ w0 _ ?_
 intro e b hs
 refine(YL l d b).mono ?_
 rintro _ f ⟨r1,r2,rfl,_,a⟩
 refine⟨_,_,rfl,a.pure.dy,_,CJ underlying59 underlying5 underlying9 a.fg.gS,rfl,hs.first.trans a.pure⟩
def Vd(bb c x w0):
  cl 103 #[.agg #[vi bb,vu c,vs x]] w0<|XA fun r w'=>jd w0 35 5 ((pa bb c x).map xW) r w':=by
 refine jbr _ _ _ w0 _ ?_
 intro j m hs l n h2
 have d:=hs.first
 have i:=h2.gp
 have k:=d.size
 exact⟨c9.lit (rs:=(pa bb c x).map xW) h2 rfl (by intro q g;obtain⟨t,_,rfl⟩:=mem_map.1 g;rfl) (by simp[pa,maxLen]),fun b f=>(by have⟨a,h,e⟩:=f;cases h;omega),d.trans<|aj.bu h2⟩
def ui(w0:af)(F0 X H:NP)(w:af)(f:ao)(L:bw)(G:List Int)(a b:Bool):Prop:=
 ∃F,lv w f L G a b F/\aj F0 w0 w/\(∀y,F y->(F0 y\/w0.heap.size<=y)/\¬H y/\¬X y)/\(∀y,X y->y<w.heap.size/\¬H y)/\∀y,H y->y<w.heap.size
section
variable {w0 w w' wv:af} {F0 F F' X H H' Hv:NP} {f:ao} {L L':bw} {G G':List Int} {a b a' b':Bool}
def ui.zk(h:ui w0 F0 X H w f L G a b)(E:aq w w'):ui w0 F0 X H w' f L G a b:=by
 have⟨F,d,e,h1,h2,h3⟩:=h;exact⟨F,d.pure E,e.mh E,h1,fun y c=>⟨Nat.lt_of_lt_of_le (h2 y c).1 E.size,(h2 y c).2⟩,fun y c=>Nat.lt_of_lt_of_le (h3 y c) E.size⟩
def ui.step(h1:∀y,F y->(F0 y\/w0.heap.size<=y)/\¬ H y/\¬ X y)(h2:∀y,X y->y<w.heap.size/\¬ H y)(h3:∀y,H y->y<w.heap.size)(b:aj F0 w0 w)(c:lv w' f L' G' a' b' F')(E:aj F w w')(d:∀y,F' y->F y\/w.heap.size<=y):
  ui w0 F0 X H w' f L' G' a' b'/\av H w w':=by
 have e:=b.size
 refine⟨⟨F',c,b.ft E Gd,fun y a=>?_,fun y a=>⟨Nat.lt_of_lt_of_le (h2 y a).1 E.size,(h2 y a).2⟩,fun y a=>Nat.lt_of_lt_of_le (h3 y a) E.size⟩,E.ff Gd⟩
 rcases d y a with h|h
 exact h1 y h
 grind
end
abbrev mx(f:ao)(L:bw)(G:List Int)(a b:Bool):sQ:=fun w F=>lv w f L G a b F
def vZ{f L G a b}:pI (mx f L G a b):=⟨fun h E d=>lv.ext h E d,fun h _ c=>lv.lt h c⟩
structure LI(P:ez)(f:ao)(G:List Int)(a b:Bool)(I:sQ)(J:bw->Int->sQ)(d:bw->Int->Prop)(c:FuncId)(e cs:Array bk):Prop where
 cl:pI I
 ent:∀args w,(callFunc c args).run P w=.ok (.enter c args) w
 VR:∀w(L:bw)(t:Int)F,jr (mx f L G a b) I w F->bj L t=ai->iw L (jn L G) t->Calls P c (e++#[(vi t)]++cs) w (XC fun ok w'=>(ok=ai->Tn (jr (mx f L G a b)<|J L t) F w w')/\(ok=ak->d L t/\Tn (jr (mx f L G a b) I) F w w'))
def jVF(f bb c x fq fs cs){G a b I J Bad}(U:LI prog f G a b I J Bad fq fs cs)(w0){L F}(h:jr (mx f L G a b) I w0 F):
  cl 48 #[vp<|ab f,.agg #[vi bb,vu c,vs x],.func (.func fq) fs cs] w0<|XB fun r w'=>∃L',rO Bad G (if vY bb=ai then pa bb c x else[]) L r L'/\(r=0->Tn (jr (mx f L' G a b) I) F w0 w')/\(r≠0->Tn (jr (mx f L' G a b)<|J L' r) F w0 w'):=by
 suffices key:∀K:Int->WP,(∀r w',(∃L',rO Bad G (if vY bb=ai then pa bb c x else[]) L r L'/\(r=0->Tn (jr (mx f L' G a b) I) F w0 w')/\(r≠0->Tn (jr (mx f L' G a b)<|J L' r) F w0 w'))->K r w')->Jz (ab f) bb c x (.func (.func fq) fs cs) w0 K from
  jby _ _ _ _ _ w0 _<|key _ fun _ _ h=>h
 intro K v
 unfold Jz
 have d:∀{L},pI<|jr (mx f L G a b) I:=vZ.yf U.cl
 have T0:=Tk.start h d
 refine⟨fun o=>?_,fun o=>?_⟩
 .intro H2 w3 hs
  rw[aw (by unfold vY;simpa using o)]at v
  exact v 0 w3 ⟨L,.nil,fun _=>(T0.bh d hs).tn,fun h=>absurd rfl h⟩
 intro H2 w3 hs
 have hp:vY bb=ai:=by
  unfold vY;simp at o|-;omega
 rw[bt hp]at v
 have T3:=T0.bh d hs
 refine(Vd bb c x w3).mono ?_
 rintro _ w5 ⟨r1,rfl,z⟩
 refine⟨_,rfl,z.pure.dy,?_⟩
 have hrl:r1.ay=2:=by rw[z.fg.ay];rfl
 have hlen:(pa bb c x).length=2:=rfl
 have T5:Tk H2 (jr (BR 35 5 r1<|(pa bb c x).map xW)<|jr (mx f L G a b) I) F w0 w5:=T3.bu d ⟨z.fg,fun _=>Iff.rfl⟩ z.pure z.bf
 generalize pa bb c x=ls at *
 refine⟨fun i H w=>∃n:Nat,i=n/\n<=ls.length/\∃L',(∀r u,rO Bad G (ls.drop n) L' r u->rO Bad G ls L r u)/\Tk H (jr (BR 35 5 r1<|ls.map xW)<|jr (mx f L' G a b) I) F w0 w,fun i _=>((ls.length:Int)-i).toNat,⟨0,rfl,Nat.zero_le _,L,fun _ _ h=>h,T5⟩,?_⟩
 rintro _ Hl wl hsl ⟨n,rfl,hn,L',j,T⟩
 refine⟨fun g=>?_,fun g=>?_⟩
 .have g:n<ls.length:=Oh<|ij g
  have⟨_,Z,_⟩:=T.l Bv d
  have⟨a1,hat,_,B⟩:=Z.1.gS.mv g
  rw[drop_eq_getElem_cons g]at j
  generalize ls[n]=l at *
  refine⟨a1,hat,l.ba,l.cj,l.c,l.cf,l.gR,B,fun H3 w7 hs7=>⟨fun _=>True,trivial,?_⟩⟩
  rintro w8 rfl
  have T8:=(T.bh (Bv.yf d) hs7).pure (Bv.yf d)<|aj.drew w7
  generalize w7.drew=w8 at *
  have⟨F1,N,_,k8⟩:=T8.r Bv d
  have⟨F2,q,_,V⟩:=N.one U.cl<|d.lt N
  have⟨k,p,S,FK,FP,q,hF⟩:=q
  refine⟨f,rfl,ab p,q.box.cell rfl,?_⟩
  refine(zMI p l w8 q.ew q.wf.ok).mono ?_
  rintro _ w9 ⟨r2,r3,rfl,e2,e3,FP',E,E9,A⟩
  have⟨M,hM⟩:=xZ q.wf.ok l
  have s:=uR q.wf l
  have Y:=hM
  rw[hM]at E s
  have e:=q.rq E s E9 A
  rw[<-Y]at e s
  have⟨T9,W⟩:=k8 (V (A':=mx f (zC L' l).2.2 G a b) ⟨_,⟨k,p,S,FK,FP',e,fun _=>Iff.rfl⟩,E9.mono Gd,by
   rintro y (rfl|R|R)
   .grind
   .grind
   .exact(A y R).imp Gd id⟩)
  refine⟨r2,r3,rfl,trivial,W,?_⟩
  have C:iw (zC L' l).2.2 (fun y=>y∈zK S) r2↔iw (zC L' l).2.2 (jn (zC L' l).2.2 G) r2:=
   ⟨iw.mono fun t ht=>(e.ok.zz t).1 ht,iw.mono fun t ht=>(e.ok.zz t).2 ht⟩
  have next : ∀ w, Tk H3 (jr (BR 35 5 r1<|ls.map xW)<|jr (mx f (zC L' l).2.2 G a b) I) F w0 w -> (¬ ((zC L' l).2.1 = 0 /\ iw (zC L' l).2.2 (jn (zC L' l).2.2 G) (zC L' l).1) \/ Bad (zC L' l).2.2 (zC L' l).1) ->
    (∃m:Nat,q6.wrap ((n:Int)+1)=m/\m<=ls.length/\∃L',(∀r u,rO Bad G (ls.drop m) L' r u->rO Bad G ls L r u)/\Tk H3 (jr (BR 35 5 r1<|ls.map xW)<|jr (mx f L' G a b) I) F w0 w)/\((ls.length:Int)-q6.wrap ((n:Int)+1)).toNat<((ls.length:Int)-(n:Int)).toNat:=by
   intro w h1 h3
   rw[zI g Om]
   exact⟨⟨n+1,rfl,g,_,fun r u h=>j _ _<|.FJ h3 h,h1⟩,vT g⟩
  refine⟨fun o=>?_,fun o=>?_⟩
  .have o:=beq_iff_eq.1 o
   have D:(zC L' l).2.1=0:=Uc
   refine⟨f,rfl,ab k,e.box.dj,?_⟩
   refine(N7 k p r2 w9 e.wf e.ok e.ic e.ew).mono ?_
   rintro _ X ⟨r5,rfl,hr5,Q⟩
   refine⟨_,rfl,Q.dy,?_⟩
   have P:=T9.pure (Bv.yf d) Q
   refine⟨fun h5=>?_,fun h5=>?_⟩
   .have hd:=C.1<|hr5.1 h5
    rw[e2]at hd
    have⟨F3,hs3,_,k3⟩:=P.r Bv d
    have⟨_,b2,_⟩:=tJ D q.wf
    refine⟨fq,fs,cs,rfl,U.ent,?_⟩
    rw[e2]
    refine(U.VR X _ _ F3 hs3 b2 hd).mono ?_
    rintro _ w10 ⟨ok,rfl,R,O⟩
    refine⟨ok,rfl,?_,fun h=>?_,fun h=>?_⟩
    .grind
    .subst h
     have T12:=(k3<|R rfl).1
     have hr0:(zC L' l).1≠0:=Oh<|(zG.1 b2).1
     exact v _ _ ⟨_,j _ _<|.oy D hd,fun h=>absurd h hr0,fun _=>(T12.yz.sub jr.fst).tn⟩
    .subst h
     exact next _ (k3 (O rfl).2).1 (.inr (O rfl).1)
   .exact next _ P (.inl Gd)
  .have o:¬r3=0:=fun h=>by rw[h]at o;cases o
   refine⟨fun h=>Uc,fun _=>?_⟩
   exact next _ T9 (.inl Gd)
 .have:n=ls.length:=Oh<|il g
  subst this
  rw[drop_length]at j
  exact v 0 wl ⟨L',j _ _ .nil,fun _=>(T.yz.sub jr.fst).tn,fun h=>absurd rfl h⟩
def jVQ{f:ao}{G:List Int}{a b:Bool}:LI prog f G a b BZ (fun _ _=>BZ) (fun _ _=>False) 51 #[] #[]:=
 ⟨NG,call51,fun w L t F h _ _=>(jaE t w).mono fun e w' ⟨d,E⟩=>⟨ai,d,fun _=>⟨F,(vZ.yf NG).ext h E fun _ _ h=>h,aj.pure E,fun y c=>.inl c⟩,fun h=>Uc⟩⟩
def Rh(f bb c x w0){L G a b F}(h:lv w0 f L G a b F):
  cl 13 #[vp<|ab f,.agg #[vi bb,vu c,vs x]] w0<|XC fun r w'=>(r=ai↔(uX L G bb c x).1≠0)/\Tn (mx f (uX L G bb c x).2 G a b) F w0 w':=by
 refine Zv _ _ _ _ w0 _ ?_
 intro o d hs
 have j:=(Tk.start h vZ).bh vZ hs
 have⟨k,n,_,g⟩:=(j.bu (C:=BZ) vZ (fun _ h=>h) (aj.refl _) fun _ h=>h.elim).yz.one
 refine(jVF f bb c x _ #[] #[] jVQ d n).mono ?_
 rintro _ l ⟨r,rfl,L',i,p,h1⟩
 have e:(r,L')=uX L G bb c x:=by
  rw[<-i.eq];unfold uX;split<;>rfl
 have t:Tn (jr (mx f L' G a b) BZ) k d l:=Gd
 have⟨m,kp⟩:=g t
 rw[<-e]
 exact⟨_,rfl,kp,Sm,(m.sub jr.fst).tn⟩
def OZ(f bb w0){L G a b F}(h:lv w0 f L G a b F):
  cl 67 #[vp<|ab f,vi bb] w0<|XC fun r w'=>r=wO L G bb/\aq w0 w':=by
 refine jaY _ _ w0 _ ?_
 have⟨k,p,S,j,m,h,l⟩:=h
 refine⟨f,rfl,ab p,h.box.cell rfl,?_⟩
 refine(Hg p (zQ bb) w0 h.ew h.wf.ok).mono ?_
 rintro _ g ⟨r1,r2,rfl,c,d⟩
 have h1:=h.ext d fun _ _ h=>h
 refine⟨r1,r2,rfl,?_⟩
 unfold wO
 split at c
 rename_i i hi
 obtain⟨rfl,rfl⟩:=c
 refine⟨fun _=>?_,fun h=>Uc⟩
 refine⟨f,rfl,ab k,h1.box.dj,?_⟩
 refine(Mk k p ((i:Int)+1) g h1.ic).mono ?_
 rintro _ n ⟨r3,rfl,rfl,e⟩
 refine⟨_,rfl,?_,d.trans e⟩
 rw[hi]
 classical
 exact decide_eq_decide.2<|h1.ok.zz _
 rename_i hi
 obtain⟨rfl,rfl⟩:=c
 refine⟨fun h=>Uc,fun _=>⟨?_,d⟩⟩
 rw[hi]
def Nz(f bb w0){L G a b F}(h:lv w0 f L G a b F):
  cl 21 #[vp<|ab f,vi bb] w0<|XC fun r w'=>r=tv L G bb/\aq w0 w':=by
 refine jbB _ _ w0 _ ?_
 refine⟨fun g=>?_,fun g=>?_⟩
 .intro m k hs
  have c:vY bb=ai:=by unfold vY;simpa using g
  have d:=hs.first
  refine(OZ f bb k<|h.pure d).mono ?_
  rintro _ l ⟨r1,rfl,j,e⟩
  refine⟨_,rfl,e.dy,fun h1=>?_,fun h1=>?_⟩
  .refine⟨?_,d.trans e⟩
   unfold tv;rw[c,<-j,h1];rfl
  .refine(OZ f 2 l<|(h.pure d).pure e).mono ?_
   rintro _ o ⟨r2,rfl,n,i⟩
   refine⟨_,rfl,i.dy,?_,(d.trans e).trans i⟩
   unfold tv;rw[c,<-j,h1,n];rfl
 .intro m k hs
  refine⟨?_,hs.first⟩
  have c:vY bb=ak:=by unfold vY;simpa using g
  unfold tv;rw[c];rfl
section
variable {w0 w:af} {F0 X H:NP} {f:ao} {L:bw} {G:List Int} {a b:Bool}
end
inductive In(T:ej):ej->Prop
 |refl:In T T
 |fst {f t u:Int} {x:ByteArray} {a b:ej}:In T (.mk 4 f t u x [a,b])->In T a
 |snd {f t u:Int} {x:ByteArray} {a b:ej}:In T (.mk 4 f t u x [a,b])->In T b
 |Bi {k f t u:Int} {x:ByteArray} {a:ej}:qH k=ai->In T (.mk k f t u x [a])->In T a
def In.trans{T y z}(h:In T y)(h2:In y z):In T z:=by
 induction h2 with
 |refl=>exact h
 |fst _ a=>exact .fst a
 |snd _ a=>exact .snd a
 |Bi b _ a=>exact .Bi b a
def ej.kd:ej->Int|.mk k _ _ _ _ _=>k
def Lo(y:ej):Prop:=∀z,In y z->z.kd≠7/\z.kd≠6
def MD{T}(j:∀f t u x a b,T=.mk 4 f t u x [a,b]->Lo a/\Lo b)(i:∀k f t u x a,T=.mk k f t u x [a]->Lo a){y}(h:In T y):y=T\/Lo y:=by
 induction h with
 |refl=>exact .inl rfl
 |fst _ d =>
  rcases d with e|e
  grind
  exact .inr fun z c=>e z<|(In.fst .refl).trans c
 |snd _ d =>
  rcases d with e|e
  grind
  exact .inr fun z c=>e z<|(In.snd .refl).trans c
 |Bi g _ d =>
  rcases d with e|e
  grind
  exact .inr fun z c=>e z<|(In.Bi g .refl).trans c
def EZ{T}(c:T.kd≠7/\T.kd≠6)(d:∀f t u x a b,T=.mk 4 f t u x [a,b]->Lo a/\Lo b)(g:∀k f t u x a,T=.mk k f t u x [a]->Lo a):Lo T:=fun z e=>by
 rcases MD d g e with rfl|h;exact c;exact h z .refl
def An(x):Lo (qS x):=EZ ⟨by simp[qS,ej.kd],by simp[qS,ej.kd]⟩ (fun _ _ _ _ _ _ h=>by simp[qS]at h) (fun _ _ _ _ _ _ h=>by simp[qS]at h)
def D6(c):Lo (ot c):=EZ ⟨by simp[ot,ej.kd],by simp[ot,ej.kd]⟩ (fun _ _ _ _ _ _ h=>by simp[ot]at h) (fun _ _ _ _ _ _ h=>by simp[ot]at h)
def yd{a b}(c:Lo a)(d:Lo b):Lo (yQ a b):=EZ ⟨by simp[yQ,ej.kd],by simp[yQ,ej.kd]⟩ (fun _ _ _ _ _ _ h=>by simp[yQ]at h;obtain⟨_,_,_,_,rfl,rfl⟩:=h;exact⟨c,d⟩) (fun _ _ _ _ _ _ h=>by simp[yQ]at h)
def G6{n a g}(b:Lo a):Lo (yZ n a g):=EZ ⟨by cases g<;>simp[yZ,ej.kd],by cases g<;>simp[yZ,ej.kd]⟩ (fun _ _ _ _ _ _ h=>by simp[yZ]at h) (fun _ _ _ _ _ _ h=>by simp[yZ]at h;obtain⟨_,_,_,_,_,rfl⟩:=h;exact b)
def Ca(c x):Lo (qQ c x):=yd (An _)<|yd (D6 _)<|An _
def BY{n a y}(b:Lo a)(h:In (uO n a) y):y=uO n a\/Lo y:=MD (fun _ _ _ _ _ _ h=>by simp[uO]at h) (fun _ _ _ _ _ _ h=>by simp[uO]at h;obtain⟨_,_,_,_,_,rfl⟩:=h;exact b) h
def zCR(l a b){y}(h:In (zR l a b) y):y=zR l a b\/Lo y:=by
 unfold zR at h|-;split at h;rename_i e;rw[bt e];exact .inr fun z c=>G6 (Ca _ _) z<|h.trans c;rename_i e;rw[aw e];split at h;rename_i e;rw[bt e];exact BY (Ca _ _) h;rename_i e;rw[aw e];split at h;rename_i e;rw[bt e];exact BY (yd (An _)<|D6 _) h;rename_i e;rw[aw e];split at h;rename_i e;rw[bt e];exact BY (yd (An _)<|yd (G6<|Ca _ _)<|G6<|Ca _ _) h;rename_i e;rw[aw e];split at h;rename_i e;rw[bt e];exact BY (yd (An _)<|D6 _) h;rename_i e;rw[aw e];split at h;rename_i e;rw[bt e];exact BY (yd (An _)<|Ca _ _) h;rename_i e;rw[aw e];exact .inr fun z c=>yd (An _) (D6 _) z<|h.trans c
def tq(n:Int):ej:=.mk 6 n 0 0 ⟨#[]⟩ []
def Jk{L G}(e:Wf L)(j:∀g∈G,bj L g=ai){t}(h:jn L G t):bj L t=ai/\∃g∈G,In (zA L g)<|zA L t:=by
 induction h with
 |rv d=>exact⟨j _ d,_,d,.refl⟩
 |vn _ i k =>
  rename_i r u t _
  have⟨f,g,d,hi⟩:=k
  refine⟨(i.kq e f).1,g,d,?_⟩
  rw[zW e f]at hi
  rcases i with⟨_,c,rfl⟩|⟨_,c,rfl⟩|⟨_,c,rfl⟩
  rw[c,show zB (ar L u)=[(ar L u).a,(ar L u).b] by simp[zB,c,fl]]at hi
  exact .fst hi
  rw[c,show zB (ar L u)=[(ar L u).a,(ar L u).b] by simp[zB,c,fl]]at hi
  exact .snd hi
  rw[show zB (ar L u)=[(ar L u).a] by
   simp only[qH,Bool.or_eq_true,beq_iff_eq]at c;rcases c with(c|c)|c<;>simp[zB,c,fl]]at hi
  exact .Bi c hi
def D9{A M}(a:Wf (A++M)){v}(h:bj A v=ai):zA (A++M) v=zA A v:=uI a _ v rfl h
def tY:(zY []).1=bo:=by unfold zY;simp
def SJ{L G}(h:Wf L)(s:yT L){l}(u:yA l.c):
  ∃M,(qA L G (qR l).1).1=L++M/\Wf (L++M)/\yT (L++M)/\(((qA L G (qR l).1).2.2=ak/\(qA L G (qR l).1).2.1=G) \/
   ((qA L G (qR l).1).2.2=ai/\vM l=0/\∃t,(qA L G (qR l).1).2.1=nV G t/\bj (L++M) t=ai/\zA (L++M) t=zR l ai ai)):=by
 obtain⟨M,g⟩:=DQ L (qR l).1
 have o:=Ee h (qR l).1
 have n1:=Ie s (qR l).1
 rw[g]at o n1
 refine⟨M,?_⟩
 unfold qA
 by_cases a:(yM L (qR l).1).2.1≠0
 grind
 rw[aw a]
 have a:=Classical.byContradiction a
 refine⟨g,o,n1,.inr ⟨rfl,?_⟩⟩
 obtain⟨d1,d2,d3,B⟩:=ZB h a
 by_cases b:(zC [] l).2.1≠0
 have e:(qR l).1=[]:=by unfold qR;rw[bt b]
 rw[e]at a
 have:(yM L []).2.1=(zY []).2.1:=by unfold yM;rw[tY]
 rw[this]at a
 exact absurd a<|xR tY
 have b:=Classical.byContradiction b
 have i:vM l=0:=by
  unfold zC at b;split at b;exact b;grind
 have p:zC [] l=of [] (zR l ai ai):=by unfold zC;rw[aw Om]
 obtain⟨f,r,_⟩:=Da Wf.nil (by rw[<-p];exact b)
 have k:=uR Wf.nil l
 have j:=Cd yT.nil u
 rw[<-p]at f r
 have e:qR l=my (zC [] l).2.2 (zC [] l).1:=by unfold qR;rw[aw Om]
 have z:my (zC [] l).2.2 (zC [] l).1=(qJ (zC [] l).2.2 (zC [] l).1,0):=by
  unfold my;rw[bt f];split;rename_i d;exfalso;have:(qR l).1=[]:=by rw[e];unfold my;rw[bt f,bt d]
  rw[this]at a;have:(yM L []).2.1=(zY []).2.1:=by unfold yM;rw[tY]
  rw[this]at a;exact absurd a<|xR tY;rfl
 have w:(qR l).1=qJ (zC [] l).2.2 (zC [] l).1:=Uc
 obtain⟨q,n,q2,v,A⟩:=Kq k j f Uc
 rw[<-w]at n
 have m:yM L (qR l).1=((vF L q q.length).1,(vF L q q.length).2.1,0,(vF L q q.length).2.2):=by unfold yM;rw[n]
 rw[m]at a
 obtain⟨C,y,x⟩:=tB h q2 v a
 rw[m]at g d2
 simp only at g d2
 refine⟨i,(vF L q q.length).1,?_,Uc,Uc⟩
 rw[m];simp only
 exact xq d2
section
variable {L M:bw} {G:List Int} {ls:List gq} {K:Int->Prop}
end
section
variable {L M:bw} {G:List Int} {ls:List gq} {K:Int->Prop}
def Ny{T sz d}(h:GP T sz d)(hs:sz<=4096)(b:d<=64)(a:Wf L):((of L T).2.2.length:Int)<=L.length+sz:=by
 have:=h.s1;unfold of;rw[h.xc 0 0 Om Om Om Om,aw Sm];rcases h.C7 L a hs b with⟨r,M,e,_,_,_,_,l⟩|⟨e,l⟩;rw[e];simpa using l;grind
def zAG(e:Wf L)(l):(zC L l).2.2.length<=L.length+40:=by
 unfold zC;split;simp;rename_i h;have h:=Classical.byContradiction h;have⟨k,f,c,x,g⟩:=l;have⟨_,a,_,_,_,hx⟩:=FV h;have⟨sz,d,b,hs,i⟩:=LG (l:=⟨k,f,c,x,g⟩) a hx ai ai;have:=Ny b Om Om e;omega
def Rc(b:Wf L)(f:L.length<65536){n}(a:n=0\/n=1\/n=2):(bz L<|zQ n).2.1=0/\(bz L<|zQ n).2.2.length<=L.length+1:=by
 have c:zB (zQ n)=[]:=rfl;rcases Eg (n:=zQ n) b (by rcases a with rfl|rfl|rfl<;>kernel_rfl) (fun _=>rfl) (fun _=>rfl) (by rcases a with rfl|rfl|rfl<;>kernel_rfl) Uc (sz:=1) (d:=1) Uc Uc Om with⟨r,M,e,_,_,_,_,_,l⟩|⟨_,l⟩;rw[e];exact⟨rfl,l⟩;omega
def zGR(a:Wf L){k n}(b:bj L k=ai)(e:ar L k=zQ n):zA L k=tq n:=by
 rw[zW a b,e];rfl
end
def f23:gq:=⟨2,1,7,⟨#[116]⟩,ak⟩
def Vw:(qA [] [] (qR f23).1).2.2=ai/\(qA [] [] (qR f23).1).1.length<=100:=by
 refine⟨Kf,ij Kf⟩
def jbP(L G):qA L G [120]=(L,G,ak):=by
 have a:(zY [120]).1=bo:=Kf;have:(zY [120]).2.1≠0:=xR a;unfold qA yM;rw[a];simp only;rw[bt this]
def mz(L M:bw):Prop:=∀s,bj L s=ai->∃t,bj M t=ai/\zA L s=zA M t
section
variable {L M Y:bw}
def mz.nil:mz [] M:=fun s h=>by have:=zG.1 h;simp at this;omega
def mz.me(h:mz L M)(a:Wf (M++Y)):mz L (M++Y):=fun s hs=>by
 have⟨t,ht,e⟩:=h s hs;exact⟨t,yP ht,by rw[e,D9 a ht]⟩
def mz.jl(m:Wf L)(h:mz L M){l:List Int}(p:l.Nodup)(hi:∀z∈l,bj M z=ai)(g:∀z∈l,∀s,bj L s=ai->zA L s≠zA M z):L.length+l.length<=M.length:=by
 have:∃φ:Int->Int,∀s,bj L s=ai->bj M (φ s)=ai/\zA L s=zA M (φ s):=by
  classical
  exact⟨fun s=>if hs:bj L s=ai then(h s hs).choose else 0,fun s hs=>Uc⟩
 have⟨φ,d⟩:=this;have c:∀i∈range L.length,bj L ((i:Int)+1)=ai:=fun i hi=>zG.2 ⟨Om,Uc⟩;have:=xD (L:=M) (l:=l++(range L.length).map fun i:Nat=>φ<|(i:Int)+1) (by
  rw[nodup_append];refine⟨p,?_,fun a o b k e=>?_⟩;refine pairwise_map.2<|List.Pairwise.imp_of_mem ?_ nodup_range;intro i j hi f n e;have a:=d _<|c j f;have:=yE m _ _ _ rfl (c i hi) (c j f) Uc;omega;obtain⟨i,hi,rfl⟩:=mem_map.1 k;have a2:=d _<|c i hi;exact g a o _ (c i hi) Uc) Gd
 simp at this;omega
def mz.ay(a:Wf L)(h:mz L M):L.length<=M.length:=by
 have:=h.jl a (l:=[]) nodup_nil Sm Sm;simpa using this
def CZ(L n){v}(c:bj (bz L n).2.2 v=ai):bj L v=ai\/((bz L n).2.1=0/\v=(bz L n).1):=by
 unfold bz at c|-;simp only at c|-;split at c;exact .inl c;rename_i h;rw[aw h];split at c;exact .inl c;rename_i h2;split at c;exact .inl c;rename_i h3;rw[aw h3];have⟨a,b⟩:=zG.1 c;simp at b;by_cases e:v=(L.length:Int)+1;exact .inr ⟨rfl,e⟩;exact .inl<|zG.2 ⟨a,Om⟩
def VI(L G A o){v}:bj (yI L G A o).2.2 v=ai->bj L v=ai\/((yI L G A o).2.1=0/\v=(yI L G A o).1):=
 Ei (fun r=>bj r.2.2 v=ai->bj L v=ai\/(r.2.1=0/\v=r.1)) (fun _ _ h=>.inl h) (fun n h=>CZ L n h) G A o
def mz.pU{r1 r2}(h:mz L M)(b:Wf r1.2.2)(a:Wf r2.2.2)(a1:∃X,r1.2.2=L++X)(a2:∃Y,r2.2.2=M++Y)(d:RS r1 r2)(hi:∀v,bj r1.2.2 v=ai->bj L v=ai\/(r1.2.1=0/\v=r1.1)):mz r1.2.2 r2.2.2:=fun v f=>by
 have⟨X,c⟩:=a1;have⟨Y,g⟩:=a2;rcases hi v f with h1|⟨i,rfl⟩;rw[g]at a|-;rw[c]at b|-;have⟨t,ht,e⟩:=h.me a v h1;exact⟨t,ht,by rw[D9 b h1,e]⟩;have:=d.2 i;exact⟨_,this.m,this.e⟩
end
def MZ:∀(l:List Op) {L M:bw} {G K A B:List Int},Wf L->Wf M->LR L M G K->LR L M A B->mz L M->L.length+l.length<=65536->M.length+l.length<=65536->mz (vD L G A l).2.2 (vD M K B l).2.2
 |[],_,_,_,_,_,_,_,_,_,_,hs,_,_=>hs
 |o :: l,L,M,G,K,A,B,k,j,g,i,hs,p,q=>by
  rw[length_cons]at p q;have n:=KX k j g i o Om Om;have⟨e,r⟩:=n;have t:=Cg L G A o;have u:=Cg M K B o;have b:=xw k G A o;have a:=xw j K B o;have c:=hs.pU b a (xy L G A o) (xy M K B o) ⟨e,r⟩ fun v=>VI L G A o;have⟨X,h⟩:=xy L G A o;have⟨Y,m⟩:=xy M K B o;have d:LR (yI L G A o).2.2 (yI M K B o).2.2 G K:=by rw[h]at b|-;rw[m]at a|-;exact g.me b a
  have f:LR (yI L G A o).2.2 (yI M K B o).2.2 A B:=by rw[h]at b|-;rw[m]at a|-;exact i.me b a
  unfold vD;rw[<-e];split;exact c;rename_i s;exact MZ l b a d (f.te<|r<|Classical.byContradiction s) c Om Om
def jZO{Lq:bw}(g:Wf Lq):∀l bM L bf,Cp Lq L bf bM->(∀z∈l,bj Lq z=ai)->xm Lq bM l->mz L Lq ->
  (zS Lq l L bf).2.1=0/\mz (zS Lq l L bf).1 Lq:=by
 intro l
 induction l with
 |nil=>intro bM L bf h _ _ hs;exact⟨rfl,hs⟩
 |cons z l u =>
  intro bM L bf h y o hs
  have f:=y z Sm
  have i:=h.Cq g f o.1
  generalize k:({ ar Lq z with a:=bf (ar Lq z).a,b:=bf (ar Lq z).b }:gP)=n at i
  have m:=i.gd g h.wf f
  have bh:=fun j=>h.step g f o.1 i j
  have c:=fun j=>i.pU g h.wf f j
  have d:=fun v=>CZ L n (v:=v)
  obtain⟨x,e,q,p⟩:∃x e q,bz L n=(x,e,q):=⟨_,_,_,rfl⟩
  rw[qB Lq z l L bf k p]
  rw[p]at m bh c d
  simp only at m bh c d
  rcases m with rfl|⟨_,B,w⟩
  rw[aw Sm]
  have⟨_,C,r,A⟩:=c rfl
  refine u _ _ _ (bh rfl) Gd o.2 fun v s=>?_
  rcases d v s with h1|⟨_,rfl⟩
  have⟨t,ht,e⟩:=hs v h1
  exact⟨t,ht,Uc⟩
  exact⟨z,f,r⟩
  have:=hs.jl h.wf (l:=[z]) Sm Uc Uc
  have:=g.ok.jl
  simp at *
  omega
def zDC{L Lq}(d:Wf L)(c:Wf Lq)(hs:mz L Lq){t}(ht:bj Lq t=ai):(vF L Lq t).2.1=0/\mz (vF L Lq t).2.2 Lq:=by
 have⟨a,b⟩:=jZO c (gz Lq t) [] L (fun _=>0) (Cp.start d) (fun z e=>xC c e) (xE c t) hs;unfold vF;rw[bt ht];simp only;rw[aw Uc];exact⟨rfl,b⟩
def RO{Lq}(j:Wf Lq):∀l bM L bf,Cp Lq L bf bM->(∀z∈l,bj Lq z=ai)->xm Lq bM l->L.length+l.length<=65536 ->
  ∀v,bj (zS Lq l L bf).1 v=ai->(bj L v=ai/\zA (zS Lq l L bf).1 v=zA L v)\/∃z∈l,zA (zS Lq l L bf).1 v=zA Lq z:=by
 intro l
 induction l with
 |nil=>intro bM L bf h _ _ _ v k;exact .inl ⟨k,rfl⟩
 |cons z l t =>
  intro bM L bf h A q w
  have i:=A z Sm
  have g:=h.Cq j i q.1
  generalize o:({ ar Lq z with a:=bf (ar Lq z).a,b:=bf (ar Lq z).b }:gP)=n at g
  have p:=g.gd j h.wf i
  have bh:=fun m=>h.step j i q.1 g m
  have c:=fun m=>g.pU j h.wf i m
  have d:=fun v=>CZ L n (v:=v)
  have f:=DL L n
  obtain⟨x,e,s,r⟩:∃x e s,bz L n=(x,e,s):=⟨_,_,_,rfl⟩
  rw[qB Lq z l L bf o r]
  rw[r]at p bh c d f
  simp only at p bh c d f
  rw[length_cons]at w
  rcases p with rfl|⟨_,D,u⟩
  rw[aw Sm]
  have⟨_,F,B,C⟩:=c rfl
  intro v k
  rcases t _ _ _ (bh rfl) Gd q.2 Om v k with⟨h1,h2⟩|⟨y,E,h2⟩
  grind
  grind
  omega
def Ve{L M q}(k:Wf L)(g:Wf M)(c:Wf q)(hs:mz L M){t}(ht:bj q t=ai)(r:L.length+q.length<=65536)(p:M.length+q.length<=65536):mz (vF L q t).2.2 (vF M q t).2.2:=by
 have a:=(Bu k c ht r).1;have b:=(Bu g c ht p).1;have s:=tA c t;have⟨h,_⟩:=tB g c ht b;have⟨Y,n⟩:=Fs M q t;have hi:=RO c (gz q t) [] L (fun _=>0) (Cp.start k) (fun z d=>xC c d) (xE c t) Om;have f:=GM c (gz q t) [] M (fun _=>0) (Cp.start g) (fun z d=>xC c d)<|xE c t;have m:(vF L q t).2.2=(zS q (gz q t) L fun _=>0).1:=by
  unfold vF at a|-;rw[bt ht]at a|-;simp only at a|-;split;grind;rfl
 have i:(vF M q t).2.2=(zS q (gz q t) M fun _=>0).1/\(zS q (gz q t) M fun _=>0).2.1=0:=by
  unfold vF at b|-;rw[bt ht]at b|-;simp only at b|-;split;grind;grind
 rcases f with⟨_,f⟩|⟨l,_⟩;intro v j;rw[m]at j|-;rcases hi v j with⟨h1,h2⟩|⟨z,d,h2⟩;rw[n]at h|-;have⟨u,o,e⟩:=hs.me h v h1;exact⟨u,o,h2.trans e⟩;have:=f.at_ z Uc;rw[i.1];exact⟨_,this.1,h2.trans this.2.symm⟩;rw[i.2]at l;cases l
structure nZ(L M:bw)(G K:List Int):Prop where
 wl:Wf L
 wm:Wf M
 nl:yT L
 nm:yT M
 g:LR L M G K
 s:mz L M
def nZ.nil:nZ [] [] [] []:=⟨Wf.nil,Wf.nil,yT.nil,yT.nil,LR.nil,mz.nil⟩
section
variable {L M:bw} {G K:List Int} (h:nZ L M G K)
include h
def nZ.ay:L.length<=M.length:=h.s.ay h.wl
def nZ.AY(bs)(d:2*M.length+bs.length<=131072):
  (qA L G bs).2.2=(qA M K bs).2.2/\nZ (qA L G bs).1 (qA M K bs).1 (qA L G bs).2.1 (qA M K bs).2.1/\2*(qA M K bs).1.length<=2*M.length+bs.length:=by
 have t:=h.ay
 have⟨e,r⟩:=Vl h.wl h.wm bs Om d
 have i:=zHJ h.wm bs d
 have b:=Ee h.wl bs;have a:=Ee h.wm bs
 have n1:=Ie h.nl bs;have n2:=Ie h.nm bs
 have hs:mz (yM L bs).2.2.2 (yM M bs).2.2.2:=by
  unfold yM;split;exact h.s;rename_i q f;have h2:=DX f;have⟨p,_,k,_,_⟩:=uY f;exact Ve h.wl h.wm p h.s k Om Om
 have⟨X,j⟩:=DQ L bs
 have⟨Y,n⟩:=DQ M bs
 have c:LR (yM L bs).2.2.2 (yM M bs).2.2.2 G K:=by rw[j]at b|-;rw[n]at a|-;exact h.g.me b a
 unfold qA
 rw[<-e]
 split
 exact⟨rfl,⟨b,a,n1,n2,c,hs⟩,i⟩
 rename_i o
 have r:=r<|Classical.byContradiction o
 rw[xq r.l,xq r.m]
 exact⟨rfl,⟨b,a,n1,n2,c.nV b a r,hs⟩,i⟩
def nZ.EX(a b bb)(n:M.length<65536):
  (zN L G a b bb).1=(zN M K a b bb).1/\nZ (zN L G a b bb).2.1 (zN M K a b bb).2.1 (zN L G a b bb).2.2.1 (zN M K a b bb).2.2.1/\(zN L G a b bb).2.2.2=(zN M K a b bb).2.2.2/\(zN M K a b bb).2.1.length<=M.length+1:=by
 have q:=h.ay
 have p:NR L M (zQ bb) (zQ bb):=⟨rfl,rfl,rfl,rfl,rfl,.inl ⟨rfl,rfl⟩,.inl ⟨rfl,rfl⟩⟩
 have⟨e,r⟩:=p.bz h.wl h.wm Om n
 have d:=yG h.wl<|zQ bb;have c:=yG h.wm<|zQ bb
 have n1:yT (bz L<|zQ bb).2.2:=h.nl.bz pz
 have n2:yT (bz M<|zQ bb).2.2:=h.nm.bz pz
 have hs:=h.s.pU d c (qM L _) (qM M _) ⟨e,r⟩ fun v=>CZ L _
 have i:=DL M<|zQ bb
 have⟨X,j⟩:=qM L<|zQ bb
 have⟨Y,k⟩:=qM M<|zQ bb
 have f:LR (bz L<|zQ bb).2.2 (bz M<|zQ bb).2.2 G K:=by rw[j]at d|-;rw[k]at c|-;exact h.g.me d c
 unfold zN
 split
 grind
 rw[<-e]
 split
 exact⟨rfl,⟨d,c,n1,n2,f,hs⟩,rfl,i⟩
 rename_i o
 have r:=r<|Classical.byContradiction o
 rw[xq r.l,xq r.m]
 exact⟨rfl,⟨d,c,n1,n2,f.nV d c r,hs⟩,rfl,i⟩
end
def sC(a:List ej)(y:ej):Prop:=∃g∈a,In g y
inductive rL(c:List ej):ej->Prop
 |bM {y:ej}:sC c y->rL c y
 |free {k f t u:Int} {x:ByteArray} {ks:List ej}:tw k=ai->rL c (.mk k f t u x ks)
 |ru {f t u:Int} {x:ByteArray} {a b:ej}:rL c a->rL c b->rL c (.mk 4 f t u x [a,b])
 |ue {f t u:Int} {x:ByteArray} {a:ej}:rL c a->rL c (.mk 5 f t u x [a])
 |uk {k f t u:Int} {x:ByteArray} {a:ej}:qH k=ai->rL c a->sC c (tq<|if k=9 then t else f)->rL c (.mk k f t u x [a])
def Ft{n}(h:n.ba=4):zB n=[n.a,n.b]:=by simp[zB,h,fl]
def Ou{n}(h:n.ba=5):zB n=[n.a]:=by simp[zB,h,fl]
def Ks{n}(h:qH n.ba=ai):zB n=[n.a]:=by
 simp only[qH,Bool.or_eq_true,beq_iff_eq]at h;rcases h with(h|h)|h<;>simp[zB,h,fl]
section
variable {L:bw} {G:List Int} (hW:Wf L) (hG:∀g∈G,bj L g=ai)
include hW hG
def Ml{g}(i:g∈G){y}(h:In (zA L g) y):∃t,bj L t=ai/\zA L t=y/\jn L G t:=by
 induction h with
 |refl=>exact⟨g,hG g i,rfl,.rv i⟩
 |fst _ d =>
  have⟨u,c,e,hs⟩:=d
  rw[zW hW c]at e
  injection e with b _ _ _ _ a
  rw[Ft b]at a
  simp at a
  exact⟨_,(ud hW c b).1.1,a.1,.vn hs<|.inl ⟨rfl,b,rfl⟩⟩
 |snd _ d =>
  have⟨u,c,e,hs⟩:=d
  rw[zW hW c]at e
  injection e with b _ _ _ _ a
  rw[Ft b]at a
  simp at a
  exact⟨_,(ud hW c b).2.1,a.2,.vn hs<|.inr<|.inl ⟨rfl,b,rfl⟩⟩
 |Bi f _ d =>
  have⟨u,c,e,hs⟩:=d
  rw[zW hW c]at e
  injection e with b _ _ _ _ a
  rw[<-b]at f
  rw[Ks f]at a
  simp at a
  exact⟨_,(xo hW c f).1,a,.vn hs<|.inr<|.inr ⟨rfl,f,rfl⟩⟩
def BP{t}(ht:bj L t=ai):jn L G t↔sC (G.map<|zA L) (zA L t):=by
 constructor;intro h;have⟨_,g,a,hi⟩:=Jk hW hG h;exact⟨_,mem_map.2 ⟨g,a,rfl⟩,hi⟩;rintro⟨_,c,hi⟩;obtain⟨g,a,rfl⟩:=mem_map.1 c;have⟨v,b,e,hs⟩:=Ml hW hG a hi;rw[yE hW _ v t rfl b ht e]at hs;exact hs
def H8{y}(h:sC (G.map<|zA L) y):∃t,bj L t=ai/\zA L t=y/\jn L G t:=by
 have⟨_,b,hi⟩:=h;obtain⟨g,a,rfl⟩:=mem_map.1 b;exact Ml hW hG a hi
omit hG in
def Ma{v n}(c:bj L v=ai)(e:zA L v=tq n):∃i,find L (zQ n)=ab i/\v=(i:Int)+1:=by
 rw[zW hW c]at e;injection e with b a;have⟨i,h1,h2⟩:=zHB hW b;rw[a]at h1;exact⟨i,h1,h2⟩
omit hG in
def Im{i n}(h:find L (zQ n)=ab i):bj L ((i:Int)+1)=ai/\zA L ((i:Int)+1)=tq n:=by
 have⟨h1,h2⟩:=QR h;have hi:bj L ((i:Int)+1)=ai:=zG.2 ⟨Om,Om⟩;exact⟨hi,by rw[zW hW hi,h2];rfl⟩
def JL{t}(ht:bj L t=ai):iw L (jn L G) t↔rL (G.map<|zA L) (zA L t):=by
 constructor;intro h;induction h with
 |bM h=>exact .bM<|(BP hW hG ht).1 h
 |free h=>rw[zW hW ht];exact .free h
 |ru h _ _ d j =>
  have⟨a,b⟩:=ud hW ht h
  rw[zW hW ht,Ft h,h];exact .ru (d a.1)<|j b.1
 |ue h _ d =>
  have a:=I0 hW ht h
  rw[zW hW ht,Ou h,h];exact .ue<|d a.1
 |uk h _ s g d =>
  have a:=xo hW ht h
  rw[zW hW ht,Ks h]
  have⟨k,l⟩:=Im hW s
  rw[BP hW hG k,l]at g
  exact .uk h (d a.1) g
 intro h;have key:∀y,rL (G.map<|zA L) y->∀t,bj L t=ai->zA L t=y->iw L (jn L G) t:=by
  intro y h;induction h with
  |bM h=>rintro t ht rfl;exact .bM<|(BP hW hG ht).2 h
  |free h=>intro t ht e;rw[zW hW ht]at e;injection e with f;exact .free Uc
  |ru _ _ d j =>
   intro t ht e
   rw[zW hW ht]at e;injection e with f _ _ _ _ c
   rw[Ft f]at c;simp at c
   have⟨a,b⟩:=ud hW ht f
   exact .ru f (d _ a.1 c.1)<|j _ b.1 c.2
  |ue _ d =>
   intro t ht e
   rw[zW hW ht]at e;injection e with f _ _ _ _ c
   rw[Ou f]at c;simp at c
   exact .ue f<|d _ (I0 hW ht f).1 c
  |uk g _ hs d =>
   intro t ht e
   rw[zW hW ht]at e;injection e with f r m _ _ c
   rw[<-f]at g
   rw[Ks g]at c;simp at c
   have⟨v,n,p,q⟩:=H8 hW hG hs
   obtain⟨i,o,rfl⟩:=Ma hW n p
   refine .uk g (d _ (xo hW ht g).1 c) (i:=i) ?_ q
   unfold tO
   rw[f,r,m];exact o
 exact key _ h t ht rfl
def P0(n):wO L G n=ai↔sC (G.map<|zA L) (tq n):=by
 unfold Proofs.wO;constructor;intro h;split at h;rename_i i hi;have⟨a,b⟩:=Im hW hi
 classical
 have:=ij h;rw[BP hW hG a,b]at this;exact this;cases h;intro h;have⟨v,d,e,f⟩:=H8 hW hG h;obtain⟨i,c,rfl⟩:=Ma hW d e;rw[c]
 classical
 exact decide_eq_true f
end
def zs(a:List ej)(l:gq):Prop:=vM l=0/\rL a (zR l ai ai)
def RG{l}(h:vM l=0):(l.cj=0\/l.cj=1)/\l.cf.size<=64:=by
 have⟨k,f,c,x,g⟩:=l;have⟨_,a,_,_,_,hx⟩:=FV h;exact⟨a,hx⟩
def JJ{L}(hW:Wf L){l}(f:L.length<=65000):(zC L l).2.1=vM l:=by
 unfold zC;split;rfl;rename_i h;have a:=Classical.byContradiction h;have⟨h1,h2⟩:=RG a;have⟨sz,d,g,b,c⟩:=LG h1 h2 ai ai;rw[a];rcases g.of Om Om hW with e|⟨_,e⟩;exact e;grind
def G3{L M}{G:List Int}(hW:Wf (L++M))(hG:∀g∈G,bj L g=ai):G.map (zA<|L++M)=G.map (zA L):=map_congr_left fun g a=>D9 hW<|hG g a
section
variable {L:bw} {G:List Int} (hW:Wf L) (hG:∀g∈G,bj L g=ai)
include hW hG
def FM{l:gq}(b:L.length<=65000):((zC L l).2.1=0/\iw (zC L l).2.2 (jn (zC L l).2.2 G) (zC L l).1)↔zs (G.map<|zA L) l:=by
 rw[JJ hW b];unfold zs;refine and_congr_right fun e=>?_;obtain⟨M,c⟩:=xZ hW.ok l;have a:=uR hW l;obtain⟨_,b2,b3⟩:=tJ (by rw[JJ hW b];exact e) hW;rw[c]at a b2 b3|-;rw[JL a (fun g d=>yP<|hG g d) b2,b3,G3 a hG]
end
def EN(G):∀ls L,rO (fun _ _=>False) G ls L (sG G ls L).1 (sG G ls L).2
 |[],_=>.nil
 |l :: ls,L=>by
  rw[sG];split;rename_i h;exact .oy h.1 h.2;rename_i h;exact .FJ (.inl h)<|EN G ls _
structure Tx(b:bw->Int->Prop)(G:List Int)(ls:List gq)(L:bw)(r:Int)(a:bw):Prop where
 wf:Wf a
 me:∃X,a=L++X
 jl:a.length<=L.length+8*ls.length
 sH:yT L->(∀l∈ls,yA l.c)->yT a
 no:r=0->∀l∈ls,zs (G.map<|zA L) l->∃d t,b d t/\d.length<=L.length+8*ls.length
 xc:r≠0->∃l∈ls,zs (G.map<|zA L) l/\bj a r=ai/\zA a r=zR l ai ai/\iw a (jn a G) r
def Kw(l:gq):Prop:=vM l=0->∃sz d,GP (zR l ai ai) sz d/\sz<=8/\d<=20
def Pp{L}(hW:Wf L){l}(a:Kw l):(zC L l).2.2.length<=L.length+8:=by
 unfold zC;split;simp;rename_i h;have⟨sz,d,g,h1,h2⟩:=a<|Classical.byContradiction h;have:=Ny g Om Om hW;omega
def rO.zn{a:bw->Int->Prop}{G ls L d r}(h:rO a G ls L r d):Wf L->(∀g∈G,bj L g=ai)->(∀l∈ls,Kw l)->L.length+8*ls.length<=65000->Tx a G ls L r d:=by
 induction h with
 | nil=>intro hW _ _ _;exact⟨hW,⟨[],Sm⟩,Sm,fun h _=>h,fun _=>Sm,fun h=>absurd rfl h⟩
 | @oy l ls L h1 h2 =>
  intro hW hG i f
  rw[length_cons] at f
  have⟨b1,b2,b3⟩:=tJ h1 hW
  have s:=Pp hW<|i l Sm
  refine⟨uR hW l,xZ hW.ok l,Uc,fun h c=>Cd h<|c l Sm,fun h=>?_,fun _=>⟨l,Sm,(FM hW hG Om).1 ⟨h1,h2⟩,b2,b3,h2⟩⟩
  have:=(zG.1 b2).1;omega
 | @FJ l ls L d r h1 _ n =>
  intro hW hG i f
  rw[length_cons] at f
  have⟨M,j⟩:=xZ hW.ok l
  have e:=uR hW l
  have s:=Pp hW<|i l Sm
  have b:G.map (zA (zC L l).2.2)=G.map (zA L):=by rw[j] at e |-;exact G3 e hG
  have⟨i1,⟨X,i2⟩,u,t,p,q⟩:=n e (by rw[j];exact fun g o=>yP<|hG g o) Gd Om
  rw[b] at p q
  refine⟨i1,⟨M++X,Uc⟩,Uc,fun h c=>t (Cd h<|c l Sm) Gd,fun h m b hs=>?_,fun h=>?_⟩
  rcases mem_cons.1 b with rfl | b
  have k:=(FM hW hG (l:=m) Om).2 hs
  exact⟨_,_,h1.resolve_left fun h=>h k,Uc⟩
  grind
  grind
def Jq{bb c x}:∀l∈pa bb c x,Kw l:=by
 intro l a b;have⟨h1,h2⟩:=RG b;simp[pa]at a;rcases a with rfl|rfl;exact⟨_,_,Ao (h1.imp id .inl)<|JY c h2,Om,Om⟩;exact⟨_,_,Ao (.inr<|.inr rfl)<|wX (yt De)<|JY c h2,Om,Om⟩
def GR(a:List ej)(bb c:Int)(x:ByteArray):Prop:=vY bb=ai/\∃l∈pa bb c x,zs a l
def CO{L G}(hW:Wf L)(hG:∀g∈G,bj L g=ai)(a:L.length<=64900)(bb c x):(uX L G bb c x).1≠0↔GR (G.map<|zA L) bb c x:=by
 unfold uX GR;split;rename_i h;have R:=(EN G (pa bb c x) L).zn hW hG Jq (by simp[pa];omega);refine⟨fun b=>?_,fun⟨_,l,a,hs⟩ b=>?_⟩;have⟨l,a,hs,_⟩:=R.xc b;exact⟨h,l,a,hs⟩;have⟨_,_,d,_⟩:=R.no b l a hs;exact d;rename_i h;simp[h]
def Ce(a:List ej)(bb:Int):Prop:=vY bb=ai/\(sC a (tq bb)\/sC a (tq 2))
def FX{L G}(hW:Wf L)(hG:∀g∈G,bj L g=ai)(bb):tv L G bb=ai↔Ce (G.map<|zA L) bb:=by
 unfold tv Ce;rw[Bool.and_eq_true,Bool.or_eq_true,P0 hW hG,P0 hW hG]
def Ry(gs c x):rL gs (qQ c x):=.ru (.free rfl)<|.ru (.free rfl)<|.free rfl
def zCW{gs n D}:rL gs (uO n D)↔sC gs (uO n D)\/(rL gs D/\sC gs (tq n)):=by
 constructor;intro h;generalize e:uO n D=y at h;cases h with
 |bM h=>exact .inl h
 |free h=>unfold uO at e;injection e with e;rw[<-e]at h;cases h
 |ru _ _=>simp[uO]at e
 |ue _=>simp[uO]at e
 |uk a h1 h2 =>
  simp only[uO,ej.mk.injEq,List.cons.injEq,and_true]at e
  obtain⟨rfl,rfl,rfl,rfl,rfl,rfl⟩:=e
  exact .inr ⟨h1,h2⟩
 rintro(h|⟨h1,h2⟩);exact .bM h;exact .uk rfl h1 h2
def KP{gs bb c x}(b:vY bb=ai)(hx:x.size<=64):GR gs bb c x↔Ce gs bb\/∃l∈pa bb c x,vM l=0/\sC gs (zR l ai ai):=by
 have d:bb=0\/bb=1:=by unfold vY at b;simpa using b
 have g:vM ⟨2,bb,c,x,ak⟩=0:=xI Om d (by simp[vI]) (by simp[vQ,vI]) Sm hx;have f:vM ⟨6,0,c,x,ak⟩=0:=xI Om (.inl rfl) Uc (by simp[vQ,vI]) Sm hx;have e:zR ⟨2,bb,c,x,ak⟩ ai ai=uO bb (qQ c x):=rfl;have a:∃D,zR ⟨6,0,c,x,ak⟩ ai ai=uO 2 D/\rL gs D:=⟨_,rfl,.ru (.free rfl)<|Ry gs c x⟩;have⟨D,a,d2⟩:=a;have d1:=Ry gs c x;unfold GR Ce zs;simp only[b,true_and,pa,mem_cons,not_mem_nil,or_false,exists_eq_or_imp,exists_eq_left,g,f,e,a,zCW,d1,d2];constructor;grind;grind
structure Gs(L:bw)(G:List Int)(a:List ej):Prop where
 wf:Wf L
 kq:∀g∈G,bj L g=ai
 e:G.map (zA L)=a
def Gs.me{L X:bw}{G gs}(h:Gs L G gs)(w:Wf (L++X)):Gs (L++X) G gs:=⟨w,fun g a=>yP<|h.kq g a,by rw[G3 w h.kq,h.e]⟩
def Gs.Fo{L G gs}(h:Gs L G gs)(b:L.length<=64900)(bb c x):Gs (uX L G bb c x).2 G gs/\(uX L G bb c x).2.length<=L.length+16:=by
 unfold uX;split;obtain⟨w,⟨X,a⟩,f,_⟩:=(EN G (pa bb c x) L).zn h.wf h.kq Jq (by simp[pa];omega);rw[a]at w f|-;exact⟨h.me w,by simpa[pa]using f⟩;exact⟨h,Sm⟩
def Qr{y:ej}(h:sC [zR f23 ai ai] y):y=zR f23 ai ai\/Lo y:=by
 have⟨g,a,hi⟩:=h;simp at a;subst a;exact zCR _ _ _ hi
def JQ(n:Int):¬sC [zR f23 ai ai] (tq n):=fun h=>by
 rcases Qr h with e|e;have:(tq n).kd=(zR f23 ai ai).kd:=by rw[e]
 simp[tq,ej.kd,zR,f23,uO]at this;exact(e _ .refl).2 rfl
def ZI:∃L G,qA [] [] (qR f23).1=(L,G,ai)/\Gs L G [zR f23 ai ai]/\L.length<=100:=by
 have⟨h1,h2⟩:=Vw;obtain⟨M,b,d,n1,h|⟨_,f,t,e,ht,a⟩⟩:=SJ (G:=[]) Wf.nil yT.nil (l:=f23) ⟨De,De⟩;rw[h1]at h;cases h.1;rw[nil_append]at b d ht a;exact⟨M,nV [] t,Prod.ext b<|Prod.ext e h1,⟨d,fun g c=>by simp[nV]at c;rw[c];exact ht,by simp[nV,a]⟩,Uc⟩
def lj(L:bw)(G:List Int)(l:List Op):List UInt8×Int×Int×bw:=
 if(zT L G l).2.1≠0 then([],(zT L G l).2.1,(zT L G l).2.2.1,(zT L G l).2.2.2)
 else((my (zT L G l).2.2.2 (zT L G l).1).1,(my (zT L G l).2.2.2 (zT L G l).1).2,0,(zT L G l).2.2.2)
def ZN{L}(h:yT L)(G M){o}(a:yA o.num):yT (yI L G M o).2.2:=
 N6 (fun r=>yT r.2.2) (fun _ _=>h) G M o fun n b=>h.bz (by rcases b with e|e<;>rw[e];exact pz;exact a)
def Pe(G):∀l L M,yT L->(∀o∈l,yA o.num)->yT (vD L G M l).2.2
 |[],_,_,h,_=>h
 |o :: l,L,M,h,a=>by
  have h1:=ZN h G M<|a o Sm;unfold vD;split;exact h1;exact Pe G l _ _ h1 Gd
def Vt(L G l):(zT L G l).2.2.2=L\/(zT L G l).2.2.2=(vD L G [] l).2.2:=by
 unfold zT;split;exact .inl rfl;grind
def tF{L}(h:yT L)(G){l}(a:∀o∈l,yA o.num):yT (zT L G l).2.2.2:=by
 rcases Vt L G l with e|e<;>rw[e];exact h;exact Pe G l L [] h a
def jRK(L G l):(zT L G l).2.2.2.length<=L.length+min 256 l.length:=by
 unfold zT;split;simp;rename_i a;have:=Ss G l L [];split;simp;grind
def ZZ{L t}(h:(my L t).2=0):bj L t=ai/\(qJ L t).length<=4096/\(my L t).1=qJ L t:=by
 unfold my at h|-;split;grind;grind
def QH{L}(d:Wf L)(e:yT L)(G){l}(b:∀o∈l,yA o.num)(a:(lj L G l).2.1=0):
  (zT L G l).2.1=0/\bj (lj L G l).2.2.2 (zT L G l).1=ai/\qA (lj L G l).2.2.2 G (lj L G l).1=((lj L G l).2.2.2,nV G (zT L G l).1,ai):=by
 have f:=CB d G l
 have n1:=tF e G b
 unfold lj at a|-
 split at a
 grind
 rename_i h
 rw[aw h]
 have⟨i1,i2,c⟩:=ZZ a
 refine⟨Classical.byContradiction h,i1,?_⟩
 simp only
 unfold qA
 rw[c,(zLG f n1 i1 i2).1]
 simp only[ne_eq,not_true_eq_false,if_false]
 rw[xq i1]
section
variable {L M:bw} {G K:List Int}
def nZ.QI(h:nZ L M G K){l}(b:∀o∈l,yA o.num)(a:M.length+l.length<=65536):
  (lj L G l).1=(lj M K l).1/\(lj L G l).2.1=(lj M K l).2.1/\(lj L G l).2.2.1=(lj M K l).2.2.1/\nZ (lj L G l).2.2.2 (lj M K l).2.2.2 G K/\(lj M K l).2.2.2.length<=M.length+min 256 l.length:=by
 have n:=h.ay
 have⟨j,i,k,e⟩:=QZ h.wl h.wm h.g l Om a
 have d:=CB h.wl G l;have c:=CB h.wm K l
 have n1:=tF h.nl G b;have n2:=tF h.nm K b
 have f:=jRK M K l
 have hs:mz (zT L G l).2.2.2 (zT M K l).2.2.2:=by
  have:=MZ l h.wl h.wm h.g LR.nil h.s Om a;have hx:=(KK l h.wl h.wm h.g LR.nil Om a).1;unfold zT;by_cases h1:l.length>256;rw[bt h1,bt h1];exact h.s;rw[aw h1,aw h1];by_cases h2:l.length=0;rw[bt h2,bt h2];exact h.s;rw[aw h2,aw h2,<-hx];split<;>exact this
 have S:nZ (zT L G l).2.2.2 (zT M K l).2.2.2 G K:=⟨d,c,n1,n2,k,hs⟩
 unfold lj
 rw[<-j]
 split
 exact⟨rfl,rfl,i,S,f⟩
 rename_i m
 have r:=e<|Classical.byContradiction m
 rw[zHD d c r]
 exact⟨rfl,rfl,rfl,S,f⟩
def nZ.jce(h:nZ L M G K){l}(a:∀o∈l,yA o.num)(b:M.length+l.length<=65536)(c:(lj M K l).2.1=0):
  (qA (lj L G l).2.2.2 G (lj M K l).1).2.2=ai/\(qA (lj M K l).2.2.2 K (lj M K l).1).2.2=ai /\
  nZ (qA (lj L G l).2.2.2 G (lj M K l).1).1 (qA (lj M K l).2.2.2 K (lj M K l).1).1 (qA (lj L G l).2.2.2 G (lj M K l).1).2.1 (qA (lj M K l).2.2.2 K (lj M K l).1).2.1 /\
  (qA (lj M K l).2.2.2 K (lj M K l).1).1.length<=M.length+min 256 l.length:=by
 have⟨e,d,_,S,f⟩:=h.QI a b
 have i:=h.ay
 have⟨a1,a2,a3⟩:=QH h.wl h.nl G a<|d.trans c
 have⟨b1,b2,b3⟩:=QH h.wm h.nm K a c
 have⟨_,_,_,r⟩:=QZ h.wl h.wm h.g l Om b
 have ep:∀L G,(lj L G l).2.2.2=(zT L G l).2.2.2:=fun L G=>by unfold lj;split<;>rfl
 have r:=r a1
 rw[<-ep,<-ep]at r
 rw[e]at a3
 rw[a3,b3]
 exact⟨rfl,rfl,⟨S.wl,S.wm,S.nl,S.nm,S.g.nV S.wl S.wm r,S.s⟩,f⟩
end
def zKS{l}(j:yA l.c):(zY (qR l).1).1=bo\/(vM l=0/\∃q,zY (qR l).1=(ab q,0,0)/\Wf q/\bj q q.length=ai/\zA q q.length=zR l ai ai):=by
 by_cases b:(zC [] l).2.1≠0;have e:(qR l).1=[]:=by unfold qR;rw[bt b]
 rw[e];exact .inl tY;have b:=Classical.byContradiction b;have⟨f,d,m⟩:=tJ b Wf.nil;have e:qR l=my (zC [] l).2.2 (zC [] l).1:=by unfold qR;rw[aw Om]
 by_cases a:(qJ (zC [] l).2.2 (zC [] l).1).length>4096;have:(qR l).1=[]:=by rw[e];unfold my;rw[bt d,bt a]
 rw[this];exact .inl tY;have h:(qR l).1=qJ (zC [] l).2.2 (zC [] l).1:=by rw[e];unfold my;rw[bt d,aw a]
 have⟨q,i,q2,g,k⟩:=Kq (uR Wf.nil l) (Cd yT.nil j) d Om;rw[h];exact .inr ⟨f,q,i,q2,g,Uc⟩
def Nv(l):(qR l).1.length<=4096:=by
 unfold qR;split;simp;unfold my;split;grind;simp
def zGT{M}(b:Wf M)(K){l}(s:yA l.c)(w:M.length<=60000):(qA M K (qR l).1).1.length<=M.length+40:=by
 have e:(qA M K (qR l).1).1=(yM M (qR l).1).2.2.2:=by unfold qA;split<;>rfl
 rw[e];rcases zKS s with h|⟨i,q,o,q2,d,u⟩;have:(yM M (qR l).1).2.2.2=M:=by unfold yM;rw[h]
 rw[this];exact Nat.le_add_right _ _;have:(yM M (qR l).1).2.2.2=(vF M q q.length).2.2:=by unfold yM;rw[o]
 rw[this];have r:2*q.length<=(qR l).1.length:=DX Uc;have p:=Nv l;have a:=(Bu b q2 d Om).1;have b1:=JJ b (l:=l) Om;obtain⟨_,b2,b3⟩:=tJ (by rw[b1];exact i) b;have f:=uR b l;have x:=zAG b l;obtain⟨X,k⟩:=xZ b.ok l;obtain⟨n,_⟩:=tB b q2 d a;have hi:=RO q2 (gz q q.length) [] M (fun _=>0) (Cp.start b) (fun z g=>xC q2 g) (xE q2 _) (by have:=tA q2 (q.length:Int);omega);have m:(vF M q q.length).2.2=(zS q (gz q q.length) M fun _=>0).1:=by
  unfold vF at a|-;rw[bt d]at a|-;simp only at a|-;split;grind;rfl
 have:mz (vF M q q.length).2.2 (zC M l).2.2:=by
  intro v j;rw[m]at j|-;rcases hi v j with⟨h1,h2⟩|⟨z,g,h2⟩;rw[k]at f|-;exact⟨v,yP h1,by rw[h2,D9 f h1]⟩;obtain⟨v',h3,t⟩:=PI f q2 ((A6 q2).1 g).2 d _ b2 Uc;exact⟨v',h3,Uc⟩
 have:=this.ay n;omega
def Dn(Lq:bw)(q:bw×List Int)(t:Int):bw×List Int:=((vF q.1 Lq t).2.2,if(vF q.1 Lq t).2.1=0 then rh (vF q.1 Lq t).2.2 q.2 (vF q.1 Lq t).1 else q.2)
def qT(Lq:bw)(G:List Int):bw×List Int:=G.foldl (Dn Lq) ([],[])
def Kr(Lq G t):qT Lq (G++[t])=Dn Lq (qT Lq G) t:=by unfold qT;rw[foldl_append];rfl
def VW{P:List Int->Prop}(a:P [])(h1:∀l t,P l->P (l++[t]))(l):P l:=by
 have:∀m:List Int,P m.reverse:=fun m=>by
  induction m with
  |nil=>exact a
  |cons x m b=>rw[reverse_cons];exact h1 _ _ b
 have:=this l.reverse;rwa [reverse_reverse]at this
def Su{Lq}(c:Wf Lq)(m:yT Lq):∀G,G.Nodup->(∀g∈G,bj Lq g=ai)->Wf (qT Lq G).1/\yT (qT Lq G).1/\mz (qT Lq G).1 Lq/\LR (qT Lq G).1 Lq (qT Lq G).2 G:=by
 refine VW (fun _ _=>⟨Wf.nil,yT.nil,mz.nil,LR.nil⟩) fun G t l p hi=>?_;have⟨n1,_,n2⟩:=nodup_append.1 p;have⟨w,n,s,g⟩:=l n1 Gd;have ht:=hi t Sm;rw[Kr];generalize qT Lq G=q at *;have⟨e,s'⟩:=zDC w c s ht;have⟨a,d,i⟩:=tB w c ht e;have o:=Si n m t;have⟨X,k⟩:=Fs q.1 Lq t;have j:LR (vF q.1 Lq t).2.2 Lq q.2 G:=by
  rw[k]at a|-;have:=g.me (Y:=[]) a Gd;rwa [append_nil]at this
 have f:=j.nV a c (s:=(vF q.1 Lq t).1) (t:=t) ⟨d,ht,i⟩;have b:t∉G:=fun h=>n2 t h t Sm rfl;unfold Dn;rw[bt e,xq d];rw[show nV G t=G++[t] by unfold Proofs.nV;rw[aw b]]at f;exact⟨a,o,s',f⟩
def nZ.Jl{L M G K}(h:nZ L M G K)(d:G.Nodup):nZ (qT L G).1 M (qT L G).2 K:=by
 have⟨w,n,s,g⟩:=Su h.wl h.nl G d h.g.l;refine⟨w,h.wm,n,h.nm,⟨g.l,h.g.m,g.e.trans h.g.e⟩,fun v c=>?_⟩;have⟨t,ht,e⟩:=s v c;have⟨u,b,a⟩:=h.s t ht;exact⟨u,b,e.trans a⟩
def lv.jl{w f L G a b F}(h:lv w f L G a b F):G.length<=1000000:=by
 have:=xD h.rv.1 h.rv.2;have:=h.wf.ok.jl;omega
abbrev Gb(A:af->bw->NP->Prop)(S:List UInt8×Int×Int×bw)(F:NP)(a:af)(r1:ByteArray)(r2 r3:Int)(w':af):Prop:=r1=⟨S.1.toArray⟩/\r2=S.2.1/\r3=S.2.2.1/\∃F',A w' S.2.2.2 F'/\aj F a w'/\∀y,F' y->F y\/a.heap.size<=y
def UA{C:NP}(f:ao)(sl:Sl)(l:List Op)(c:af){L:bw}{G:List Int}{a b:Bool}{F:NP}(h:lv c f L G a b F)(z:yT (zT L G l).2.2.2)(N:gr C c 5 sl (l.map rS))(P:∀y,C y->y<c.heap.size/\¬ F y)(J:l.length<=1000):
  cl 14 #[vp<|ab f,sl.v] c<|YD fun r1 r2 r3 w'=>Gb (fun w L F=>lv w f L G a b F) (lj L G l) F c r1 r2 r3 w':=by
 refine Xr _ _ c (Gb (fun w L F=>lv w f L G a b F) (lj L G l) F c) ?_
 have K:=h.jl
 have⟨k,p,S,s,T,E,W⟩:=h
 refine Br.f rfl ⟨fun _=>True,trivial,?_⟩
 rintro R rfl
 have n:aq c c.drew:=aj.drew c
 have h1:=E.ext n fun _ _ h=>h
 have Q:=n.size
 refine⟨f,rfl,ab p,h1.box.cell rfl,f,rfl,ab k,h1.box.dj,?_⟩
 refine(jPF p k sl l c.drew h1.wf h1.ew h1.ic (N.pure n) Gd K J).mono ?_
 rintro _ B ⟨r1,r2,r3,rfl,M,d,x,r,o⟩
 have⟨H,q⟩:=Prod.mk.inj M
 have⟨t,I⟩:=Prod.mk.inj q
 have⟨X,D⟩:=VP L G l
 have j:=CB E.wf G l
 have u:=D
 rw[D]at x j
 have h2:=h1.rq x j r o
 rw[<-u]at h2 x j
 have g:aj F c B:=(aj.pure n).trans<|r.mono Gd
 have i:∀y,(y=f.block\/s y\/d y)->F y\/c.heap.size<=y:=Gd
 refine⟨_,_,_,rfl,trivial,r.ff fun _ h=>h.elim,fun e=>?_,fun e=>?_⟩
 have e:=bne_iff_ne.1 e
 rw[t]at e
 unfold lj
 rw[bt e]
 exact⟨rfl,t,I,_,⟨k,p,S,s,d,h2,fun _=>Iff.rfl⟩,g,i⟩
 have A:r2=0:=by simpa using e
 rw[t]at A
 unfold lj
 rw[aw Uc,<-H]
 refine⟨f,rfl,ab p,h2.box.cell rfl,?_⟩
 refine(zHZ p r1 B j z h2.ew).mono ?_
 rintro _ Y ⟨U,V,rfl,O,m⟩
 refine⟨_,_,rfl,m.pure.dy,_,CJ underlying59 underlying5 underlying9 m.fg.gS,rfl,O,rfl,_,⟨k,p,S,s,d,h2.ext m.pure fun _ _ h=>h,fun _=>Iff.rfl⟩,g.mh m.pure,i⟩
def zAA(f w0){L G a b F}(h:lv w0 f L G a b F)(hN:yT L):
  cl 22 #[vp<|ab f] w0<|XD fun r w'=>∃c F',r=ab c/\lv w' c (qT L G).1 (qT L G).2 a b F'/\aq w0 w'/\∀y,F' y->w0.heap.size<=y:=by
 suffices key:∀K:Option ao->WP,(∀c w',(∃F',lv w' c (qT L G).1 (qT L G).2 a b F'/\aq w0 w'/\∀y,F' y->w0.heap.size<=y)->K (ab c) w')->It (ab f) w0 K from
  YS _ w0 _<|key _ Gd
 intro K hK
 unfold It
 have hG:=h.jl
 have hg:=h.rv
 have hFl:∀y,F y->y<w0.heap.size:=fun y g=>h.lt g
 have hwf:=h.wf
 have⟨k,p,S,FK,FP,R,hF⟩:=h
 refine Br.f rfl ?_
 refine(GX w0).mono ?_
 rintro _ O ⟨_,rfl,c,Fc,rfl,T,E1,hn1⟩
 have hA:=R.ext E1 fun _ _ h=>h
 have⟨kc,pc,Sc,U,W,o,J⟩:=T
 refine⟨_,rfl,E1.dy,f,rfl,a,b,fun i hi=>?_,c,rfl,fun j hj=>?_,id,?_⟩
 .rw[qN]
  rcases(show i=0\/i=1 by simp at hi;omega)with rfl|rfl
  .exact hA.box.cell rfl
  .exact hA.box.cell rfl
 .rw[qN];exact o.box.im So
 rintro w2 rfl
 have Bc:=az.storeAt [vb a,vb b] 0 2 O _ o.box Sm
 have X2:aj (·=c.block) O (ib O (c.add 2) [vb a,vb b]):=by
  have:=aj.ib O (c.add 2) [vb a,vb b];rw[zD]at this;exact this
 have Bc:az (ib O (c.add 2) [vb a,vb b]) c [vp<|ab kc,vp<|ab pc,vb a,vb b] 98:=Bc
 generalize ib O (c.add 2) [vb a,vb b]=w2 at *
 have z:uf w2 c [] [] a b kc pc Sc U W:=⟨Bc,o.ic.ext X2 fun y g e=>o.dk<|e▸g,o.ew.ext X2 fun y g e=>o.dp<|e▸g,o.wf,o.ok,o.d,o.dk,o.dp⟩
 have cn:=hn1 _<|(J _).2<|.inl rfl
 have E2:=E1.ft X2 Gd
 have Q:=hA.ext X2 Gd
 clear o hA Bc
 refine⟨f,rfl,ab k,Q.box.dj,?_⟩
 refine(KE k p w2 Q.ic hG).mono ?_
 rintro _ w3 ⟨r2,rfl,D⟩
 have E3:=E2.trans D.pure
 refine⟨_,rfl,D.pure.dy,?_⟩
 have hlen:r2.ay=G.length:=by rw[D.fg.ay,zV]
 have C:ui w0 bl r2.bg bl w3 c [] [] a b:=by
  have l:∀y,Fc y->y<w2.heap.size:=fun y g=>by
   rcases(J y).1 g with rfl|g|g
   .exact z.box.lt
   .exact z.ic.lt g
   .exact z.ew.lt g
  refine⟨Fc,⟨kc,pc,Sc,U,W,z.ext D.pure fun _ _ h=>h,J⟩,E3,fun y g=>⟨.inr<|hn1 y g,id,fun hb=>?_⟩,fun y g=>⟨D.fg.lt g,id⟩,fun y g=>g.elim⟩;have:=D.bf y hb;have:=l y g;omega
 have B:ji bl w3 73 1 r2 (fv G):=⟨D.fg,fun _ _ h=>h⟩
 refine⟨fun i H w=>∃n:Nat,i=n/\n<=G.length/\H=bl/\ui w0 bl r2.bg bl w c (qT L<|G.take n).1 (qT L<|G.take n).2 a b/\ji bl w 73 1 r2 (fv G),fun i _=>((G.length:Int)-i).toNat,⟨0,rfl,Nat.zero_le _,rfl,C,B⟩,?_⟩
 clear C B
 rintro _ Hl wl hsl ⟨n,rfl,hn,rfl,x,ho⟩
 refine⟨fun l=>?_,fun l=>?_⟩
 .have l:n<G.length:=Oh<|ij l
  have u:G.take (n+1)=G.take n++[G[n]]:=by rw[take_succ_eq_append_getElem l]
  have⟨a4,hat,wY⟩:=CP ho.fg (i:=(n:Int)) (t:=G[n]) (by rw[vm Om<|by simpa using l];simp)
  generalize G[n]=t at *
  have Y:=(Su hwf hN (G.take<|n+1) (hg.1.sublist<|take_sublist _ G) Gd).1
  rw[u,Kr]at Y
  refine⟨a4,hat,t,wY,fun _=>True,trivial,?_⟩
  rintro w4 rfl
  have N:=x.zk<|aj.drew wl
  have ho4:=ho.pure<|aj.drew wl
  generalize wl.drew=w4 at *
  have⟨F4,N,E4,d1,d2,d3⟩:=N
  have⟨k4,Z,S4,FK4,FP4,h4,s⟩:=N
  have I:=R.ext E4 fun _ _ h=>h
  refine⟨c,rfl,ab Z,h4.box.cell rfl,f,rfl,ab p,I.box.cell rfl,?_⟩
  refine(Qn Z p t w4 h4.wf I.wf h4.ew I.ew Gd).mono ?_
  rintro _ w5 ⟨r3,r4,rfl,e3,e4,FP5,hP5,P,hF5⟩
  have next : ∀ w, ui w0 bl r2.bg bl w c (qT L<|G.take<|n + 1).1 (qT L<|G.take<|n + 1).2 a b -> ji bl w 73 1 r2 (fv G) ->
    (∃m:Nat,q6.wrap ((n:Int)+1)=m/\m<=G.length/\bl=bl/\ui w0 bl r2.bg bl w c (qT L<|G.take m).1 (qT L<|G.take m).2 a b/\ji bl w 73 1 r2 (fv G))/\((G.length:Int)-q6.wrap ((n:Int)+1)).toNat<((G.length:Int)-(n:Int)).toNat:=by
   intro w g1 g2
   rw[zI l Om]
   exact⟨⟨n+1,rfl,l,rfl,g1,g2⟩,vT l⟩
  rw[u,Kr]at next
  generalize qT L (G.take n)=q at *
  have⟨X,hX⟩:=Fs q.1 L t
  have hX':=hX
  have M:Wf (vF q.1 L t).2.2:=Y
  rw[hX]at hP5 M
  have A:=h4.rq hP5 M P hF5
  rw[<-hX']at A M
  have V:=ho4.ext (P.mono Gd) fun y g hf=>(d1 y hf).2.2 g
  refine⟨_,_,rfl,trivial,P.ff fun _ h=>h.elim,fun T=>?_,fun T=>?_⟩
  .have v:r4=0:=by simpa using T
   rw[e4]at v
   refine⟨c,rfl,ab k4,A.box.dj,?_⟩
   refine(IA k4 Z r3 w5 A.ic A.ew A.wf A.d A.ok).mono ?_
   rintro _ w6 ⟨r5,rfl,_,S6,FK6,hK6,ok6,E6,hF6⟩
   have h6:=A.CN hK6 ok6 E6 hF6
   refine⟨_,rfl,E6.ff fun _ h=>h.elim,?_⟩
   have X46:=(P.mono fun y _ g=>(s y).2<|.inr<|.inr g).trans<|E6.mono Gd
   have z5:=P.size
   refine next _ (ui.step d1 d2 d3 E4 ⟨k4,Z,S6,FK6,FP5,?_,fun _=>Iff.rfl⟩ X46 ?_).1 (V.ext (E6.mono fun y _ g=>(s y).2<|.inr<|.inl g) fun y g hf=>(d1 y hf).2.2 g)
   .unfold Dn
    rw[bt v,<-e3];exact h6
   .grind
  .have v:¬r4=0:=by simpa using T
   rw[e4]at v
   refine next _ (ui.step d1 d2 d3 E4 ⟨k4,Z,S4,FK4,FP5,?_,fun _=>Iff.rfl⟩ (P.mono fun y _ g=>(s y).2<|.inr<|.inr g) ?_).1 V
   .unfold Dn
    rw[aw v];exact A
   .grind
 .have:n=G.length:=Oh<|il l
  subst this
  rw[take_length]at x
  have⟨F',x,E,h1,_⟩:=x
  exact hK c wl ⟨F',x,E,fun y g=>(h1 y g).1.elim False.elim id⟩
structure ur(w:af)(r x q:ao)(M:bw)(K:List Int)(a b:Bool)(FK FP:NP):Prop where
 box:az w r [vp<|ab x,vb a,vb b] 52
 ic:qi w x q K FK
 ew:vJ w q M FP
 d:∀y,FK y->¬FP y
 dk:¬FK r.block
 dp:¬FP r.block
def pC(r:ao)(M:bw)(K:List Int)(a b:Bool):sQ:=fun w F=>∃x q FK FP,ur w r x q M K a b FK FP/\∀y,F y↔y=r.block\/FK y\/FP y
section
variable {w w':af} {f r x q:ao} {L M:bw} {G K:List Int} {a b:Bool} {FK FP F:NP}
def ur.ext{X}(h:ur w r x q M K a b FK FP)(E:aj X w w')(e:∀y,y=r.block\/FK y\/FP y->¬X y):ur w' r x q M K a b FK FP:=
 ⟨h.box.ext E<|e _<|.inl rfl,h.ic.ext E fun b c=>e _<|.inr<|.inl c,h.ew.ext E fun b c=>e _<|.inr<|.inr c,h.d,h.dk,h.dp⟩
def qG:pI (pC r M K a b):=by
 refine⟨fun⟨x,q,FK,FP,h,e⟩ E d=>⟨x,q,FK,FP,h.ext E fun y c=>d y<|(e y).2 c,e⟩,fun⟨x,q,FK,FP,h,e⟩ y c=>?_⟩;rcases(e y).1 c with rfl|c|c;exact h.box.lt;exact h.ic.lt c;exact h.ew.lt c
def ur.rq{M' FP'}(h:ur w r x q M K a b FK FP)(i:vJ w' q M' FP')(E:aj FP w w')(f:∀y,FP' y->FP y\/w.heap.size<=y):ur w' r x q M' K a b FK FP':=
 ⟨h.box.ext E h.dp,h.ic.ext E fun y c=>h.d y c,i,fun y c e=>(f y e).elim (h.d y c) fun g=>Oh<|h.ic.lt c,h.dk,fun c=>(f _ c).elim h.dp fun g=>Oh h.box.lt⟩
def ur.rv{K' FK'}(h:ur w r x q M K a b FK FP)(g:qi w' x q K' FK')(E:aj FK w w')(f:∀y,FK' y->FK y\/w.heap.size<=y):ur w' r x q M K' a b FK' FP:=
 ⟨h.box.ext E h.dk,g,h.ew.ext E fun y e c=>h.d y c e,fun y e=>(f y e).elim (h.d y) fun i c=>Oh<|h.ew.lt c,fun e=>(f _ e).elim h.dk fun i=>Oh h.box.lt,h.dp⟩
end
def qi.box{w x q G F}(h:qi w x q G F):∃sg,w.cell? x=ab (vp<|ab q)/\w.cell? (x.add 1)=ab sg.v/\c9 w 73 1 sg (fv G)/\∀y,sg.bg y->F y:=by
 have⟨sg,h,b⟩:=h;exact⟨sg,h.box.dj,h.box.cell rfl,h.oe,fun y a=>(b y).2<|.inr a⟩
def Tf(w0):cl 10 #[] w0 (XD fun r w'=>∃c F,r=ab c/\pC c [] [] ak ak w' F/\aq w0 w'/\∀y,F y->w0.heap.size<=y):=by
 refine jbE w0 (fun r w'=>∃c F,r=ab c/\pC c [] [] ak ak w' F/\aq w0 w'/\∀y,F y->w0.heap.size<=y) ?_;refine(Jw w0).mono ?_;rintro _ k ⟨_,rfl,q,FP,rfl,e,g,n⟩;refine⟨_,rfl,fun f j h2 m o h3=>?_⟩;have i:aq k j:=aj.bu h2;have d:aq j o:=aj.bu h3;have p:=g.size;have b1:=h2.gp;have b2:=h3.gp;have l1:=(az.j0 h2).lt;have b:∀y,¬Sl.nil.bg y:=fun y l=>by have⟨_,h,_⟩:=l;cases h
 refine⟨m,_,rfl,⟨f,q,fun y=>y=f.block,FP,⟨az.j0 h3,⟨Sl.nil,⟨(az.j0 h2).pure d,c9.nil _ _ _,b _⟩,fun y=>Uc⟩,(e.pure i).pure d,?_,?_,?_⟩,fun _=>Iff.rfl⟩,(g.trans i).trans d,?_⟩;rintro y rfl a;have:=e.lt a;omega;omega;intro a;have:=e.lt a;omega;rintro y (rfl|rfl|a);omega;omega;exact n y a
section
variable (r:ao) (w0:af) {M:bw} {K:List Int} {a b:Bool} {F:NP} (h:pC r M K a b w0 F) (hW:Wf M)
include h hW
def LQ(body:ByteArray)(B:K.length<=100000):cl 45 #[vp<|ab r,vs body] w0 (XC fun o w'=>o=(qA M K body.data.toList).2.2/\Tn (pC r (qA M K body.data.toList).1 (qA M K body.data.toList).2.1 a b) F w0 w'):=by
 refine Z5 _ _ w0 (fun o w'=>o=(qA M K body.data.toList).2.2/\Tn (pC r (qA M K body.data.toList).1 (qA M K body.data.toList).2.1 a b) F w0 w') ?_;have⟨x,q,FK,FP,h,d⟩:=h;have⟨sg,D,H,_⟩:=h.ic.box;refine⟨r,rfl,ab x,h.box.dj,x,rfl,ab q,D,?_⟩;have⟨s,p,w,m,hs,_⟩:=NU (P:=prog) (src:=9) (dst:=59) underlying9 underlying59 underlying5 w0 body;refine⟨s,p,w,?_⟩;have h1:=h.ext m fun _ _ h=>h;refine(WL q s body.data.toList p hW h1.ew hs).mono ?_;rintro _ A ⟨t,e,y,rfl,rfl,rfl,rfl,f,C,l,k⟩;have h2:=h1.rq C l k;have E:=m.size;have G:=l.size;have j:=(aj.pure m).trans<|l.mono fun y _ c=>(d y).2<|.inr<|.inr c;have v:∀y,f y->F y\/w0.heap.size<=y:=fun y c=>(k y c).imp (fun h=>(d y).2<|.inr<|.inr h) fun h=>Om;refine⟨_,_,_,rfl,fun g=>?_,fun g=>?_⟩;have g:=bne_iff_ne.1 g;unfold qA;rw[bt g];refine⟨rfl,_,⟨x,q,FK,f,h2,fun _=>Iff.rfl⟩,j,?_⟩;rintro y (rfl|c|c);exact .inl<|(d _).2<|.inl rfl;exact .inl<|(d y).2<|.inr<|.inl c;exact v y c;have g:(yM M body.data.toList).2.1=0:=by simpa using g
 refine⟨r,rfl,ab x,h2.box.dj,?_⟩;refine(Mv x q (yM M body.data.toList).1 A h2.ic h2.ew B).mono ?_;rintro _ J ⟨I,rfl,n,z,u,i⟩;refine⟨_,rfl,?_⟩;unfold qA;rw[aw Uc];refine⟨rfl,_,⟨x,q,n,f,h2.rv z u i,fun _=>Iff.rfl⟩,j.trans<|u.mono fun y _ c=>(d y).2<|.inr<|.inl c,?_⟩;rintro y (rfl|c|c);exact .inl<|(d _).2<|.inl rfl;exact(i y c).imp (fun h=>(d y).2<|.inr<|.inl h) fun h=>Om;exact v y c
def jSB(bb)(D:K.length<=100000)(I:M.length<65536):cl 46 #[vp<|ab r,vi bb] w0 (XB fun o w'=>o=(zN M K a b bb).1/\Tn (pC r (zN M K a b bb).2.1 (zN M K a b bb).2.2.1 (zN M K a b bb).2.2.2.1 (zN M K a b bb).2.2.2.2) F w0 w'):=by
 refine jbj _ _ w0 (fun o w'=>o=(zN M K a b bb).1/\Tn (pC r (zN M K a b bb).2.1 (zN M K a b bb).2.2.1 (zN M K a b bb).2.2.2.1 (zN M K a b bb).2.2.2.2) F w0 w') ?_;refine⟨fun l=>?_,fun l=>?_⟩;have e:zN M K a b bb=(2,M,K,a,b):=by
  unfold zN vY;rw[bt Uc]
 rw[e];exact⟨rfl,F,h,aj.refl _,fun y c=>.inl c⟩;have J:bb=0\/bb=1:=by
  simp only[Bool.and_eq_false_iff,bne_eq_false_iff_eq]at l;exact l
 have⟨x,q,FK,FP,h,f⟩:=h;have⟨sg,H,N,_⟩:=h.ic.box;refine⟨r,rfl,ab x,h.box.dj,x,rfl,ab q,H,?_⟩;refine(vU q (zQ bb) w0 h.ew hW.ok).mono ?_;rintro _ C ⟨r1,r2,rfl,G,u,E,m,j⟩;have⟨B,O⟩:=Prod.mk.inj G;have⟨P,_⟩:=Rc hW I (n:=bb) Om;have h2:=h.rq E m j;refine⟨_,_,rfl,r,rfl,ab x,h2.box.dj,?_⟩;refine(Mv x q r1 C h2.ic h2.ew D).mono ?_;rintro _ k ⟨r3,rfl,s,A,v,g⟩;have h3:=h2.rv A v g;have L:=m.size;obtain⟨i,rfl,hi⟩:∃i:Nat,bb=(i:Int)/\i<2:=⟨bb.toNat,Om,Om⟩;refine⟨_,rfl,r,rfl,(r.add 1).add i,⟨Om,Om,Sm⟩,?_⟩;rw[qN];refine⟨h3.box.im So,?_⟩;rintro _ rfl;have z:=h3.box.set (1+i)<|vb ai;have p:aj (·=r.block) k (k.setCell (r.add<|1+i)<|vb ai):=by
  have:=aj.setCell (w:=k) (r.add<|1+i)<|vb ai;rw[zD]at this;exact this
 unfold zN;rw[aw (by unfold vY;rcases(show i=0\/i=1 by omega)with rfl|rfl<;>simp),aw Uc,<-B];have t:az (k.setCell (r.add<|1+i)<|vb ai) r [vp<|ab x,vb<|a ||((i:Int)==0),vb<|b ||((i:Int)==1)] 52:=by
  rcases(show i=0\/i=1 by omega)with rfl|rfl;simpa using z;simpa using z
 refine⟨rfl,_,⟨x,q,s,u,⟨t,h3.ic.ext p fun y c e=>h3.dk<|e▸c,h3.ew.ext p fun y c e=>h3.dp<|e▸c,h3.d,h3.dk,h3.dp⟩,fun _=>Iff.rfl⟩,((m.mono fun y _ c=>(f y).2<|.inr<|.inr c).trans<|v.mono fun y _ c=>(f y).2<|.inr<|.inl c).trans (p.mono fun y _ c=>(f y).2<|.inl c),?_⟩;rintro y (rfl|c|c);exact .inl<|(f _).2<|.inl rfl;exact(g y c).imp (fun h=>(f y).2<|.inr<|.inl h) fun h=>Om;exact(j y c).imp (fun h=>(f y).2<|.inr<|.inr h) id
def Um{G:NP}(sl:Sl)(l:List Op)(X:yT M)(Y:∀o∈l,yA o.num)(E:gr G w0 5 sl (l.map rS))(p:∀y,G y->y<w0.heap.size/\¬ F y)(R:l.length<=1000):
  cl 47 #[vp<|ab r,sl.v] w0<|YD fun r1 r2 r3 w'=>Gb (fun w M F=>pC r M K a b w F) (lj M K l) F w0 r1 r2 r3 w':=by
 refine jdf _ _ w0 (Gb (fun w M F=>pC r M K a b w F) (lj M K l) F w0) ?_
 have⟨x,q,FK,FP,h,n⟩:=h
 refine⟨fun _=>True,trivial,?_⟩
 rintro w1 rfl
 have t:aq w0 w0.drew:=aj.drew w0
 have h1:=h.ext t fun _ _ h=>h
 have N:=t.size
 have⟨sg,W,S,I,ks⟩:=h1.ic.box
 refine⟨r,rfl,ab x,h1.box.dj,x,rfl,ab q,W,r,rfl,ab x,h1.box.dj,x,rfl,sg,S,?_⟩
 refine(ZC q sg sl K l w0.drew hW h1.ew I.gS (E.pure t) (fun y e=>⟨I.lt e,h1.d y<|ks y e⟩) (fun y e=>⟨Nat.lt_of_lt_of_le (p y e).1 N,fun V=>(p y e).2<|(n y).2<|.inr<|.inr V⟩) R).mono ?_
 rintro _ Q ⟨r1,r2,r3,rfl,U,f,T,z,g⟩
 have⟨O,u⟩:=Prod.mk.inj U
 have⟨A,P⟩:=Prod.mk.inj u
 have D:=CB hW K l
 have C:=tF X K Y
 have h2:=h1.rq T z g
 have k:=(aj.pure t).trans<|z.mono fun y _ e=>(n y).2<|.inr<|.inr e
 have m:∀y,(y=r.block\/FK y\/f y)->F y\/w0.heap.size<=y:=by
  rintro y (rfl|e|e);exact .inl<|(n _).2<|.inl rfl;exact .inl<|(n y).2<|.inr<|.inl e;exact(g y e).imp (fun h=>(n y).2<|.inr<|.inr h) fun h=>Om
 refine⟨_,_,_,rfl,trivial,z.ff fun _ h=>h.elim,fun c=>?_,fun c=>?_⟩
 have c:=bne_iff_ne.1 c
 rw[A]at c
 unfold lj
 rw[bt c]
 exact⟨rfl,A,P,_,⟨x,q,FK,f,h2,fun _=>Iff.rfl⟩,k,m⟩
 have j:r2=0:=by simpa using c
 rw[A]at j
 unfold lj
 rw[aw Uc,<-O]
 have⟨L,B,_⟩:=h2.ic.box
 refine⟨r,rfl,ab x,h2.box.dj,x,rfl,ab q,B,?_⟩
 refine(Lp q r1 Q D C h2.ew).mono ?_
 rintro _ J ⟨r4,Z,rfl,H,s⟩
 have i:∃F',pC r (zT M K l).2.2.2 K a b J F'/\aj F w0 J/\∀y,F' y->F y\/w0.heap.size<=y:=⟨_,⟨x,q,FK,f,h2.ext s.pure fun _ _ h=>h,fun _=>Iff.rfl⟩,k.mh s.pure,m⟩
 refine⟨_,_,rfl,s.pure.dy,fun c=>?_,fun c=>?_⟩
 have c:=bne_iff_ne.1 c
 refine⟨?_,H,rfl,i⟩
 have:(my (zT M K l).2.2.2 r1).1=[]:=by
  rw[H]at c;unfold my at c|-;split;rename_i hi;rw[bt hi]at c;split;rfl;rename_i E;rw[aw E]at c;exact absurd rfl c;rfl
 rw[this]
 have j:Z=0:=by simpa using c
 exact⟨_,CJ underlying59 underlying5 underlying9 s.fg.gS,rfl,Uc,rfl,i⟩
end
def Kp(l:gq):(Dr l).data.toList=(qR l).1:=by unfold Dr;simp
section
variable {w0 w:af} {F0 H:NP} {f:ao} {L:bw} {G:List Int} {a b:Bool} (T:Tk H (mx f L G a b) F0 w0 w)
include T
def _root_.Go.SE.Tk.binds(bb c x):cl 13 #[vp<|ab f,.agg #[vi bb,vu c,vs x]] w (XC fun r w'=>(r=ai↔(uX L G bb c x).1≠0)/\Tk H (mx f (uX L G bb c x).2 G a b) F0 w0 w'/\av H w w'):=by
 have⟨F,d,_,k⟩:=T.one;exact(Rh f bb c x w d).mono fun e w' ⟨r,h,g,t⟩=>⟨r,h,g,k t⟩
def _root_.Go.SE.Tk.AY(body):cl 23 #[vp<|ab f,vs body] w (XC fun r w'=>r=(qA L G body.data.toList).2.2/\Tk H (mx f (qA L G body.data.toList).1 (qA L G body.data.toList).2.1 a b) F0 w0 w'/\av H w w'):=by
 have⟨F,c,_,k⟩:=T.one;exact(GQ f body w c).mono fun e w' ⟨r,g,d,t⟩=>⟨r,g,d,k (A':=mx _ _ _ _ _) t⟩
def _root_.Go.SE.Tk.EX(bb):cl 41 #[vp<|ab f,vi bb] w (XB fun r w'=>r=(zN L G a b bb).1/\Tk H (mx f (zN L G a b bb).2.1 (zN L G a b bb).2.2.1 (zN L G a b bb).2.2.2.1 (zN L G a b bb).2.2.2.2) F0 w0 w'/\av H w w'):=by
 have⟨F,c,_,k⟩:=T.one;exact(He f bb w c).mono fun e w' ⟨r,g,d,t⟩=>⟨r,g,d,k (A':=mx _ _ _ _ _) t⟩
def _root_.Go.SE.Tk.free(bb):cl 21 #[vp<|ab f,vi bb] w (XC fun r w'=>r=tv L G bb/\Tk H (mx f L G a b) F0 w0 w'/\av H w w'):=by
 have g:=T;have⟨F,c,_⟩:=T;exact(Nz f bb w c).mono fun e w' ⟨r,h,d,E⟩=>⟨r,h,d,g.pure vZ E,E.dy⟩
end
def jSR(w0):cl 8 #[] w0 (XC fun r w'=>r=ai/\aq w0 w'):=by
 refine W9 w0 (fun r w'=>r=ai/\aq w0 w') ?_;refine(GX w0).mono ?_;rintro _ C ⟨_,rfl,f,F,rfl,N,J,H⟩;refine⟨ab f,rfl,J.dy,fun h=>Uc,fun _=>?_⟩;have K:Tk bl (mx f [] [] ak ak) bl w0 C:=⟨F,N,J,fun y hy=>⟨.inr<|H y hy,id⟩,fun _ h=>h.elim⟩;clear N H;refine(Hs f23 ⟨De,De⟩ C).mono ?_;rintro _ w2 ⟨_,rfl,rfl,D⟩;refine⟨_,rfl,D.dy,?_⟩;refine((K.pure vZ D).AY<|Dr f23).mono ?_;rintro _ w3 ⟨_,rfl,rfl,o,P⟩;have⟨L,G,e,b,j⟩:=ZI;rw[Kp,e]at o;refine⟨_,rfl,P,fun h=>?_,fun _=>?_⟩;rw[Kp,e]at h;cases h;refine(o.AY ⟨#[120]⟩).mono ?_;rintro _ w4 ⟨_,rfl,rfl,B,O⟩;have ex:=jbP L G;rw[ex]at B;refine⟨_,rfl,O,?_⟩;rw[ex];refine⟨fun h=>Uc,fun _=>?_⟩;clear K o P O;refine(B.binds 1 7 ⟨#[116]⟩).mono ?_;rintro _ w5 ⟨r5,rfl,W,T5,k5⟩;have⟨k,l5⟩:=b.Fo Om 1 7 ⟨#[116]⟩;have Q:=W.2 ((CO b.wf b.kq Om 1 7 _).2 (by
  rw[b.e];exact(KP rfl De).2<|.inr ⟨f23,by simp[pa,f23],Kf,_,Sm,.refl⟩))
 subst Q;refine⟨_,rfl,k5,fun _=>?_,fun h=>Uc⟩;generalize (uX L G 1 7 ⟨#[116]⟩).2=L2 at *;refine(T5.binds 0 7 ⟨#[116]⟩).mono ?_;rintro _ w6 ⟨r6,rfl,h6,Z,k6⟩;have⟨c,l6⟩:=k.Fo Om 0 7 ⟨#[116]⟩;have t6:=Bool.eq_false_iff.2 (fun h=>by
  have:=(CO k.wf k.kq Om 0 7 _).1<|h6.1 h;rw[k.e]at this;rcases(KP rfl De).1 this with⟨_,h|h⟩|⟨l,j,_,hs⟩;exact JQ _ h;exact JQ _ h;rcases Qr hs with e|e;simp[pa]at j;rcases j with rfl|rfl<;>simp[zR,f23,uO]at e;simp[pa]at j;rcases j with rfl|rfl<;>exact(e _ .refl).1 rfl)
 subst t6;refine⟨_,rfl,k6,?_⟩;generalize (uX L2 G 0 7 ⟨#[116]⟩).2=a at *;refine⟨fun _=>?_,fun h=>Uc⟩;refine(Z.free 1).mono ?_;rintro _ w7 ⟨_,rfl,rfl,T7,k7⟩;refine⟨_,rfl,k7,?_⟩;have U:=Bool.eq_false_iff.2 (fun h=>by
  have:=(FX c.wf c.kq 1).1 h;rw[c.e]at this;rcases this.2 with h|h<;>exact JQ _ h)
 rw[U];refine⟨fun _=>?_,fun h=>Uc⟩;have⟨m0,ml⟩:=Rc c.wf Om (n:=0)<|.inl rfl;have⟨q,m2,_⟩:=xH m0;have x:=yG c.wf<|zQ 0;have⟨X,hX⟩:=qM a<|zQ 0;have A:zN a G ak ak 0=(0,(bz a<|zQ 0).2.2,nV G (bz a<|zQ 0).1,ai,ak):=by
  unfold zN;rw[aw De,aw Uc,xq q];rfl
 refine(T7.EX 0).mono ?_;rintro _ w8' ⟨_,rfl,rfl,E,k8⟩;rw[A]at E;refine⟨_,rfl,k8,fun w9 u=>?_⟩;have T9:=E.bh vZ u;rw[A];have hs:sC ((nV G (bz a<|zQ 0).1).map<|zA (bz a<|zQ 0).2.2) (tq 0):=⟨_,mem_map.2 ⟨_,BF.2<|.inr rfl,rfl⟩,by rw[zGR x q m2];exact .refl⟩;have M:∀g∈nV G (bz a<|zQ 0).1,bj (bz a<|zQ 0).2.2 g=ai:=fun g b=>by
  rcases BF.1 b with h|rfl;rw[hX];exact yP<|c.kq g h;exact q
 generalize (bz a<|zQ 0).2.2=t,(bz a<|zQ 0).1=Y at *;generalize nV G Y=m at *;refine⟨fun _=>?_,fun h=>Uc⟩;have I:zN t m ai ak 2=(2,t,m,ai,ak):=by unfold zN;rw[bt De]
 refine(T9.EX 2).mono ?_;rintro _ T ⟨_,rfl,rfl,d,v⟩;rw[I]at d;refine⟨_,rfl,v,fun V i=>?_⟩;rw[I];refine⟨fun _=>?_,fun h=>Uc⟩;refine((d.bh vZ i).free 0).mono ?_;rintro _ S ⟨_,rfl,rfl,w,s⟩;refine⟨_,rfl,s,?_⟩;have fr:Ce (m.map<|zA t) 0:=⟨rfl,.inl hs⟩;rw[(FX x M 0).2 fr];refine⟨fun _=>?_,fun h=>Uc⟩;refine(w.binds 0 9 ⟨#[120]⟩).mono ?_;rintro _ w13 ⟨r,rfl,R,p,z⟩;exact⟨_,rfl,z,R.2<|(CO x M Om 0 9 _).2<|(KP rfl De).2<|.inl fr,p.fr⟩
abbrev xl(f r:ao)(L M:bw)(G K:List Int)(a b:Bool):sQ:=jr (mx f L G a b)<|pC r M K a b
def PZ(f:NP)(w0:af)(r:ao)(M:bw)(n:Nat)(o:Option ao)(w':af):Prop:=
 ∃b d a e c g h,o=ab b/\Tn (xl b r d a e c g h) f w0 w'/\nZ d a e c/\2*a.length<=2*M.length+n
def KL.jl{w f L M G K a b F}(h:lv w f L G a b F)(s:nZ L M G K):K.length<=65536:=by
 have:=xD h.rv.1 h.rv.2;have:=h.wf.ok.jl;have:=s.g.ay;omega
def jST{S F0}(f r x w0){L M G K a b}(p:we S w0 x)(hS:∀y,S y->y<w0.heap.size/\¬ F0 y)(hn:x.ax.length<=265)(h:xl f r L M G K a b w0 F0)(g:nZ L M G K)(hM:2*M.length+x.body.size<=120000):
  cl 11 #[vp<|ab f,vp<|ab r,.agg (tQ x).toArray] w0<|YE fun o ok w'=>ok=ai/\PZ F0 w0 r M (x.body.size+600) o w':=by
 suffices key:∀Q,(∀o w',PZ F0 w0 r M (x.body.size+600) o w'->Q o ai w')->QU (ab f) (ab r) x.ba x.body x.l.ba x.l.cj x.l.c x.l.cf x.l.gR x.bb x.so w0 Q from
  Xx _ _ _ _ _ _ _ _ _ _ _ w0 _<|key _ fun _ _ h=>⟨rfl,h⟩
 intro Q hQ
 have d:∀{L M:bw} {G K:List Int} {a b a' b':Bool},pI<|jr (mx f L G a b)<|pC r M K a' b':=vZ.yf qG
 have I:=Tk.start h d
 have hbs:x.body.data.toList.length=x.body.size:=Sm
 have i:∀{H w f' L' M' G' K' a' b'},Tk H (xl f' r L' M' G' K' a' b') F0 w0 w->nZ L' M' G' K'->2*M'.length<=2*M.length+(x.body.size+600)->Q (ab f') ai w:=fun t s n=>hQ _ _ ⟨_,_,_,_,_,_,_,rfl,t.tn,s,n⟩
 have hK:K.length<=100000:=by
  have⟨_,_,m,_⟩:=h;have:=KL.jl m g;omega
 have q:∀{H w} (y:ByteArray) (Q1:Bool->WP),Tk H (xl f r L M G K a b) F0 w0 w->2*M.length+y.data.toList.length<=131072->(qA M K y.data.toList).1.length*2<=2*M.length+(x.body.size+600)->(∀w',Tk H (xl f r (qA L G y.data.toList).1 (qA M K y.data.toList).1 (qA L G y.data.toList).2.1 (qA M K y.data.toList).2.1 a b) F0 w0 w'->Q (ab f) ai w')->cl 23 #[vp<|ab f,vs y] w (XC fun r1 u=>av H w u/\cl 45 #[vp<|ab r,vs y] u (XC fun r2 D=>av H u D/\Q (ab f) (r1==r2) D)):=by
  intro H w y _ T j _ hq;have⟨F1,m,_,J⟩:=T.l vZ qG;refine(GQ f y w m).mono ?_;rintro _ u ⟨o,rfl,rfl,t⟩;have⟨T4,v⟩:=J (A':=mx _ _ _ _ _) t;refine⟨_,rfl,v,?_⟩;have⟨F2,W,_,z⟩:=T4.r vZ qG;refine(LQ r u W g.wm y hK).mono ?_;rintro _ D ⟨o2,rfl,rfl,t2⟩;have⟨T5,kp5⟩:=z t2;refine⟨_,rfl,kp5,?_⟩;rw[(g.AY y.data.toList j).1,beq_self_eq_true];exact hq _ T5
 refine⟨fun _=>?_,fun _=>⟨fun _=>?_,fun _=>⟨fun _=>?_,fun _=>⟨fun _=>?_,fun _=>⟨fun _=>?_,fun _=>?_⟩⟩⟩⟩⟩
 .intro H1 F hs
  refine⟨fun _=>True,trivial,?_⟩
  rintro w3 rfl
  have⟨X,s1,n1⟩:=g.AY x.body.data.toList Om
  refine(q x.body (fun _ _=>True) ((I.bh d hs).pure d<|aj.drew F) Om Om fun w' T=>i T s1 Om).mono ?_
  rintro _ u ⟨r1,e,k,c⟩
  refine⟨r1,e,trivial,k,c.mono ?_⟩
  rintro _ D ⟨r2,e,k,c⟩
  exact⟨r2,e,trivial,k,c⟩
 .intro H1 F hs
  refine(Hs x.l p.num F).mono ?_
  rintro _ w6 ⟨_,rfl,rfl,E6⟩
  refine⟨_,rfl,E6.dy,?_⟩
  have h96:=Nv x.l
  have hb:=Kp x.l
  have n2:=zGT g.wm K (l:=x.l) p.num Om
  have⟨X,s1,_⟩:=g.AY (qR x.l).1 Om
  refine q (Dr x.l) (fun _ _=>True) ((I.bh d hs).pure d E6) Uc Uc fun w' T=>?_
  rw[hb]at T
  exact i T s1 Om
 .intro H1 F hs
  refine⟨fun _=>True,trivial,?_⟩
  rintro w3 rfl
  have T3:=(I.bh d hs).pure d<|aj.drew F
  have⟨F1,m,_,J⟩:=T3.l vZ qG
  refine(He f x.bb _ m).mono ?_
  rintro _ u ⟨o,rfl,rfl,t⟩
  have⟨T4,v⟩:=J (A':=mx _ _ _ _ _) t
  refine⟨_,rfl,trivial,v,?_⟩
  refine(Cs _ u).mono ?_
  rintro _ D ⟨rfl,E5⟩
  refine⟨_,rfl,trivial,E5.dy,?_⟩
  have T5:=T4.pure d E5
  have⟨F2,W,_,z⟩:=T5.r vZ qG
  refine(jSB r D W g.wm x.bb hK Om).mono ?_
  rintro _ w6 ⟨o2,rfl,rfl,t2⟩
  have⟨T6,kp6⟩:=z t2
  refine⟨_,rfl,trivial,kp6,?_⟩
  have⟨X,s1,e2,n1⟩:=g.EX a b x.bb Om
  have e3:(RR (zN L G a b x.bb).1==(zN M K a b x.bb).1)=ai:=beq_iff_eq.2 X
  rw[e3]
  rw[e2]at T6
  exact i T6 s1 Om
 .intro H2 w13 hs p2 w14 h14
  have E13:=hs.first
  have lo:∀{w},aj F0 w0 w->gr S w 5 x.so (x.ax.map rS):=fun E=>p.ax.ext E fun y j=>(hS y j).2
  have⟨s1,w15,W,R,E15,_,hnb,U⟩:=zGC (p.ax.pure E13) Om h14
  refine⟨s1,w15,W,U H2 fun y j=>hs.lt y j,?_⟩
  have⟨F1,m,d1,J⟩:=(I.bh d hs).lP vZ qG E15
  have⟨X,e2,e3,N,n1⟩:=g.QI p.sH Om
  refine(UA f s1 x.ax w15 m (tF g.nl G p.sH) R.gS (fun y j=>⟨R.lt j,fun hF=>?_⟩) Om).mono ?_
  .have:=hnb y j;have:=d1 y hF;omega
  rintro _ w16 ⟨_,_,_,rfl,rfl,rfl,rfl,t⟩
  have⟨A,P⟩:=J (A':=mx _ _ _ _ _) t
  refine⟨_,_,_,rfl,P,?_⟩
  have⟨F2,hr2,d2,z⟩:=A.r vZ qG
  refine(Um r w16 hr2 g.wm x.so x.ax g.nm p.sH (lo A.fr) (fun y j=>⟨?_,fun hF=>?_⟩) Om).mono ?_
  .have:=(hS y j).1;have:=A.fr.size;omega
  .have:=(hS y j).1
   rcases(d2 y hF).1 with h|h
   .exact(hS y j).2 h
   .omega
  rintro _ w17 ⟨_,_,_,rfl,rfl,rfl,rfl,t2⟩
  have⟨V,kp17⟩:=z t2
  refine⟨_,_,_,rfl,kp17,?_⟩
  rw[X,e2,e3]
  have n2:(lj M K x.ax).2.2.2.length<=M.length+256:=Om
  refine⟨fun hc=>?_,fun _ H7 w28 h28=>?_⟩
  .simp only[Bool.and_eq_true,beq_iff_eq]at hc
   have⟨a1,a2,a3,a4⟩:=g.jce p.sH Om hc.2
   refine Br.t Sm fun H4 w20 h20=>?_
   have T20:=V.bh d h20
   have⟨F3,B,_,k3⟩:=T20.l vZ qG
   refine(GQ f ⟨(lj M K x.ax).1.toArray⟩ w20 B).mono ?_
   rintro _ w23 ⟨_,rfl,rfl,t⟩
   have⟨T23,kp23⟩:=k3 (A':=mx _ _ _ _ _) t
   refine⟨_,rfl,kp23,?_⟩
   refine Br.t a1 ?_
   have⟨F4,hr4,_,k4⟩:=T23.r vZ qG
   refine(LQ r w23 hr4 N.wm ⟨(lj M K x.ax).1.toArray⟩ hK).mono ?_
   rintro _ w22 ⟨_,rfl,rfl,t⟩
   have⟨T22,kp22⟩:=k4 t
   refine⟨_,rfl,kp22,?_⟩
   rw[a2]
   exact i T22 a3 Uc
  .have T28:=V.bh d h28
   simpa using i T28 N Om
 .intro H2 w13 hs
  have Z:=I.bh d hs
  have⟨F1,m,d1,J⟩:=Z.l vZ qG
  have hfG:=m.rv.1
  refine(zAA f w13 m g.nl).mono ?_
  rintro _ w33 ⟨_,rfl,c,Fc,rfl,hc,E33,O⟩
  have T33:=Z.bu d (C:=mx c _ _ _ _) hc E33 O
  refine⟨_,rfl,E33.dy,fun h=>Uc,fun _=>?_⟩
  have⟨F2,Y,_,z⟩:=T33.r vZ d
  have⟨F3,B,_,k3⟩:=Y.one qG<|d.lt Y
  refine(He f 0 w33 B).mono ?_
  rintro _ w34 ⟨_,rfl,_,t⟩
  have⟨T34,kp34⟩:=z<|k3 (A':=mx _ _ _ _ _) t
  refine⟨_,rfl,kp34,?_⟩
  refine(Hs ⟨6,0,77,⟨#[122,122]⟩,ak⟩ ⟨De,De⟩ w34).mono ?_
  rintro _ w35 ⟨_,rfl,rfl,E35⟩
  refine⟨_,rfl,E35.dy,?_⟩
  have T35:=T34.pure (vZ.yf d) E35
  have⟨F4,hs4,_,k4⟩:=T35.r vZ d
  have⟨F5,hf5,_,k5⟩:=hs4.one qG<|d.lt hs4
  refine(GQ f _ w35 hf5).mono ?_
  rintro _ w36 ⟨_,rfl,_,t⟩
  have⟨T36,kp36⟩:=k4<|k5 (A':=mx _ _ _ _ _) t
  refine⟨_,rfl,kp36,?_⟩
  exact i (T36.sub jr.od) (g.Jl hfG) Om
 .intro H1 F hs
  exact i (I.bh d hs) g Om
def St(ls:List Act)(r:ao)(w0:af)(n:Nat)(H:NP)(f:ao)(w:af):Prop:=
 ∃L M G K a b,Tk H (xl f r L M G K a b) bl w0 w/\nZ L M G K/\2*M.length<=uN (ls.take n)+n*600
def xY{f r L M G K a b}:pI (xl f r L M G K a b):=vZ.yf qG
section
variable {S:NP} {ls:List Act} {r f:ao} {w0 w:af} {n:Nat} {H:NP}
def TN{j}(a:j<ls.length):uN (ls.take<|j+1)=uN (ls.take j)+ls[j].body.size:=by
 rw[take_succ_eq_append_getElem a];simp only[uN,map_append,sum_append,map_cons,map_nil,sum_cons,sum_nil,Nat.add_zero]
def MI(l):∀j,uN (l.take j)<=uN l:=fun j=>by
 have h:uN l=uN (l.take j)+uN (l.drop j):=by
  unfold uN;rw[<-sum_append,<-map_append,take_append_drop]
 omega
def St.start{w3 w4 w5 F F2}(E:aq w0 w3)(j:∀y,H y->y<w3.heap.size)(d:lv w4 f [] [] ak ak F)(c:aq w3 w4)(nf:∀y,F y->w3.heap.size<=y)(g:pC r [] [] ak ak w5 F2)(a:aq w4 w5)(e:∀y,F2 y->w4.heap.size<=y):St ls r w0 0 H f w5:=by
 have z:=E.size;have i:=c.size;have k:=a.size;refine⟨[],[],[],[],ak,ak,⟨fun y=>F y\/F2 y,⟨F,F2,d.pure a,g,fun y h1 h2=>?_,fun _=>Iff.rfl⟩,(E.trans c).trans a,fun y b=>?_,fun y b=>Uc⟩,nZ.nil,Sm⟩;have:=d.lt h1;have:=e y h2;omega;have:w3.heap.size<=y:=b.elim (nf y) fun h=>Uc;exact⟨.inr Om,fun hh=>Uc⟩
end
def Qj(x y:Int):Ik x y=oq x y:=by
 unfold Ik oq;by_cases h:x<y;simp[h];by_cases h2:y<x<;>simp[h,h2]
def Ym(x y:Int):OP x y=oq x y:=Qj x y
def zHY(x y:ByteArray)(a:af):cl 80 #[vs x,vs y] a (XB fun r w'=>r=oz x y/\aq a w'):=by
 refine jcw x y a (fun r w'=>r=oz x y/\aq a w') ?_;refine Br.f Sm<|Br.f Sm fun c b=>?_;have E:=b.first;refine⟨Op.bytesLess x.toList y.toList,by rw[binOp_string_lss];rfl,fun h=>⟨by unfold oz;rw[bt h],E⟩,fun h=>?_⟩;refine⟨!(Op.bytesLess x.toList y.toList ||x.toList==y.toList),by simp[binOp,Op.stringOp],fun h2=>⟨?_,E⟩,fun h2=>⟨?_,E⟩⟩
 all_goals
  unfold oz
  rw[aw Uc]
  rw[h]at h2
 .rw[aw];intro e;subst e;simp at h2
 .rw[bt<|FI Uc]
def Yq{S:NP}(p:ao)(ts:List Int)(o:ts.length<=1000)(d:af)(l:gr S d 1 ⟨ab p,ts.length,ts.length⟩ (fv ts)):cl 77 #[(Sl.mk (ab p) ts.length ts.length).v] d (XB fun r w'=>r=rJ ts/\aq d w'):=by
 suffices key:∀K:Int->WP,(∀w',aq d w'->K (rJ ts) w')->Rr ⟨ab p,ts.length,ts.length⟩ d K from
  jbs _ d _<|key _ fun _ h=>⟨rfl,h⟩
 intro K e;refine⟨fun i w'=>∃j:Nat,i=j/\j<=ts.length/\w'=d/\rJ ts=rJ (ts.drop j),fun i _=>((ts.length:Int)-i).toNat,⟨0,rfl,Nat.zero_le _,rfl,rfl⟩,?_⟩;rintro _ wl ⟨j,rfl,m,rfl,c⟩;refine⟨fun h=>?_,fun h=>?_⟩;have b:=vA (n:=ts.length) rfl h;have⟨a,g,_,k⟩:=yN l b;rw[drop_eq_getElem_cons b,rJ]at c;refine⟨a,g,_,k,fun h2=>?_,fun h2=>?_⟩;rw[bt Uc]at c;rw[c]at e;exact e _<|aj.refl _;rw[aw Uc]at c;rw[zI b Om];exact⟨⟨j+1,rfl,b,rfl,c⟩,vT b⟩;have f:=vH (n:=ts.length) rfl m h;rw[f,drop_length,rJ]at c;rw[c]at e;exact e _<|aj.refl _
def zLR(a b:gq)(p:ao)(h:af)(hB:az h p [.func (.func 74) #[] #[]] 134):cl 76 #[.agg (xW a).toArray,.agg (xW b).toArray,vp<|ab p] h (XB fun r w'=>r=rM a b/\aq h w'):=by
 refine WK a.ba a.cj a.c a.cf a.gR b.ba b.cj b.c b.cf b.gR p h (fun r w'=>r=rM a b/\aq h w') ?_;intro A y l;have s:=l.first;refine⟨aq h,s.trans<|aj.drew _,?_⟩;rintro _ rfl;have u:=s.trans<|aj.drew (F:=bl) y;refine⟨_,fun w' E=>(hB.pure E).dj,_,fun w' E=>(hB.pure E).dj,(KH a.ba b.ba _).mono ?_⟩;rintro _ D ⟨rfl,m⟩;refine⟨_,rfl,u.trans m,m.dy,(KH a.cj b.cj _).mono ?_⟩;rintro _ I ⟨rfl,t⟩;have f:=(u.trans m).trans t;refine⟨_,rfl,f,t.dy,(Xk a.c b.c _).mono ?_⟩;rintro _ B ⟨rfl,n⟩;refine⟨_,rfl,f.trans n,n.dy,(zHY a.cf b.cf _).mono ?_⟩;rintro _ G ⟨_,rfl,rfl,q⟩;have g:=(f.trans n).trans q;refine⟨_,rfl,g,q.dy,_,_,_,rfl,call74,(Nu a.ba a.cj a.c a.cf a.gR _).mono ?_⟩;rintro _ H ⟨rfl,o⟩;refine⟨_,rfl,g.trans o,o.dy,_,_,_,rfl,call74,(Nu b.ba b.cj b.c b.cf b.gR _).mono ?_⟩;rintro _ C ⟨rfl,v⟩;have i:=(g.trans o).trans v;refine⟨_,rfl,i,v.dy,(KH _ _ _).mono ?_⟩;rintro _ x ⟨rfl,j⟩;have E010:=i.trans j;refine⟨_,rfl,E010,j.dy,fun z k e=>⟨E010.trans<|aj.bu e,?_⟩⟩;have E011:=E010.trans<|aj.bu (F:=bl) e;have R:=c9.lit (sz:=1) (rs:=fv [oq a.ba b.ba,oq a.cj b.cj,oq a.c b.c,oz a.cf b.cf,oq (tf a.gR)<|tf b.gR]) e (by simp[fv,Qj,Ym];rfl) (by simp[fv]) (by simp[fv,maxLen]);refine(Yq z [oq a.ba b.ba,oq a.cj b.cj,oq a.c b.c,oz a.cf b.cf,oq (tf a.gR)<|tf b.gR] Sm k R.gS).mono ?_;rintro _ w ⟨_,rfl,rfl,d⟩;exact⟨_,rfl,E011.trans d,d.dy,rfl,E011.trans d⟩
def WC(s:Sl)(ls:List gq)(p:ao)(d:af)(hB:az d p [.func (.func 74) #[] #[]] 134)(f:¬ s.bg p.block)(h:c9 d 35 5 s (ls.map xW))(i:ls.length<=1000000):
  cl 75 #[s.v,.func (.func 76) #[] #[vp<|ab p]] d<|XG fun w'=>∃c:List gq,c.Perm ls/\c.Pairwise (fun a b=>¬rM b a<0)/\c9 w' 35 5 s (c.map xW)/\aj s.bg d w':=
 TD Tw isAgg35 sizeOf35 (enc:=xW) (fun _=>rfl) (fun x v e=>by simp[xW]at e;rcases e with rfl|rfl|rfl|rfl|rfl<;>rfl) rM Ez.Z7 76 #[vp<|ab p]
  (enters_of func76 Kf rfl) (fun x y W g=>(zLR x y p W<|hB.ext g f).mono Uc) h Om
def AW(g h:gq):((g.ba==h.ba)&&((g.cj==h.cj)&&((g.c==h.c)&&((decide (g.cf=h.cf))&&(g.gR==h.gR)))))=decide (g=h):=by
 have⟨a,b,c,d,e⟩:=g;have⟨k,l,j,i,f⟩:=h;rw[Bool.eq_iff_iff];simp[gq.mk.injEq]
def UL(s:Sl)(c:List gq)(C:af)(hr:c9 C 35 5 s (c.map xW))(hn:c.length<=1000000):
  cl 81 #[s.v] C<|XA fun r w'=>c9 w' 35 5 r ((nU c).map xW)/\aj s.bg C w'/\∀b,r.bg b->s.bg b:=by
 suffices key:∀K:Sl->WP,(∀r w',c9 w' 35 5 r ((nU c).map xW)->aj s.bg C w'->(∀b,r.bg b->s.bg b)->K r w')->IX s C K from
  jag _ C _<|key _ fun _ _ h1 h2 h3=>⟨h1,h2,h3⟩
 intro K hK
 unfold IX
 have hl:s.ay=c.length:=by rw[hr.ay];simp
 have hsb:∀b,s.bg b->b<C.heap.size:=fun b o=>hr.lt o
 refine⟨fun h=>?_,fun h=>?_⟩
 have h:=ij h
 refine hK s C ?_ (aj.refl _) fun _ h=>h
 have:nU c=c:=by
  match c,hl,h with
  |[],_,_=>rfl
  |[a],_,_=>rfl
  |a :: b :: l,hl,h=>simp[hl]at h;omega
 rw[this];exact hr
 have h2:2<=c.length:=Uc
 obtain⟨f0,fr,rfl⟩:∃f0 fr,c=f0 ::fr:=by
  cases c with
  |nil=>simp at h2
  |cons a l=>exact⟨a,l,rfl⟩
 generalize hfs:f0 ::fr=c at *
 have hc0:nU c=c.take 1++pg c[0] (c.drop 1):=by subst hfs;rfl
 refine⟨fun k H w'=>∃j:Nat,k=j/\1<=j/\∃hj:j<=c.length,aq C w'/\ji H w' 35 5 s (c.map xW)/\nU c=c.take j++pg (c[j-1]' Om) (c.drop j),fun k _=>((c.length:Int)-k).toNat,⟨1,rfl,Nat.le_refl _,Om,aj.refl _,⟨hr,fun _ _ h=>h⟩,hc0⟩,?_⟩
 rintro _ Hl wl hl1 ⟨j,rfl,hj1,hj,El,Ol,Z⟩
 refine⟨fun o=>?_,fun o=>?_⟩
 have d:=vA hl o
 have⟨a1,G,_⟩:=Ol.mv d
 refine⟨a1,G,fun w1 hs1=>?_⟩
 have O1:=Ol.bh hs1
 have E1:=El.bh hs1
 have⟨a1',J,A⟩:=O1.mv d
 have⟨a2,hat2,L⟩:=O1.mv (show j-1<c.length by omega)
 have hw:q6.wrap ((j:Int)-1)=((j-1:Nat):Int):=by rw[i64 Om Om];omega
 have ha:a1=a1':=by
  obtain⟨_,_,b,o,rfl⟩:=G;obtain⟨_,_,b',B,rfl⟩:=J;rw[o]at B;cases B;rfl
 rw[<-ha]at A
 rw[hw]
 refine⟨_,_,_,_,_,A,a2,hat2,_,_,_,_,_,L,fun F=>?_,fun F=>?_⟩
 rw[AW]at F
 have F:=ij F
 have⟨s2,I,N,hat⟩:=O1.fg.Me xM (k:=.i64) (n:=(j:Int)) Om So
 have N:s2.ay=c.length-j:=Uc
 refine⟨s2,I w1,fun k2 O H w'=>∃a i:Nat,k2=a/\O=i/\1<=i/\1<=a/\a<j+i/\∃hi:j+i<=c.length,∃ls:List gq,ls.length=c.length/\ls.drop (j+i-1)=c.drop (j+i-1)/\aj s.bg C w'/\ji H w' 35 5 s (ls.map xW)/\nU c=ls.take a++pg (c[j+i-1]' Om) (c.drop<|j+i),fun _ O _=>((c.length:Int)-O).toNat,?_,?_⟩
 refine⟨j,1,rfl,rfl,Nat.le_refl _,hj1,Om,d,c,rfl,rfl,aj.pure E1,O1,?_⟩
 rw[Z,drop_eq_getElem_cons d,pg,bt F.symm]
 rfl
 rintro _ _ H2 w2 hs2 ⟨a,i,rfl,rfl,hi1,ha1,hai,hi,ls,hll,M,E2,O2,m⟩
 unfold P7
 have E:∀q,(h:q<c.length)->j+i-1<=q->ls[q]' Om=c[q]:=by
  intro q h hq;have e:=mu (fun l=>l[q-(j+i-1)]?) M;simp only[getElem?_drop]at e;rw[show j+i-1+(q-(j+i-1))=q by omega,getElem?_eq_getElem Om,getElem?_eq_getElem h]at e;exact Option.some.inj e
 refine⟨fun S=>?_,fun S=>?_⟩
 have p:j+i<c.length:=Oh<|ij S
 have⟨a3,y,_⟩:=O2.mv (show j+i<ls.length by omega)
 have up:∀(q:Nat)x,j+q<c.length->At s ((j+q:Nat):Int) 5 x->At s2 (q:Int) 5 x:=fun q x hq hx=>hat q x Uc Uc
 refine⟨a3,up i a3 p y,fun w3 Y=>?_⟩
 have U:=O2.bh Y
 have E3:=E2.bh Y
 have⟨a3',R,f⟩:=U.mv (show j+i<ls.length by omega)
 have ha3:a3=a3':=by
  obtain⟨_,_,b,o,rfl⟩:=y;obtain⟨_,_,b',B,rfl⟩:=R;rw[o]at B;cases B;rfl
 rw[<-ha3]at f
 have⟨a4,hat4,u⟩:=U.mv (show j+(i-1)<ls.length by omega)
 have hw2:q6.wrap ((i:Int)-1)=((i-1:Nat):Int):=by rw[i64 Om Om];omega
 rw[hw2]
 rw[E (j+i) p Om]at f
 have e4:ls[j+(i-1)]' Om=c[j+i-1]' Om:=by
  rw[E (j+(i-1)) Om Om];congr 1;omega
 rw[e4]at u
 rw[drop_eq_getElem_cons p,pg]at m
 refine⟨_,_,_,_,_,f,a4,up (i-1) a4 Om hat4,_,_,_,_,_,u,fun g=>?_,fun g=>?_⟩
 rw[AW]at g
 have g:¬c[j+i]=c[j+i-1]' Om:=Uc
 rw[aw fun e=>g e.symm]at m
 have⟨a6,D,hcw,V⟩:=U.fg.set (i:=a) (r:=xW c[j+i]) So rfl rfl
 refine⟨a3,up i a3 p y,_,_,_,_,_,f,a6,D,hcw,?_,fun w4 hw4=>?_⟩
 obtain⟨_,_,b,o,rfl⟩:=D
 exact U.lf _ ⟨b,o,by rw[zD]⟩
 have⟨hR,hE⟩:=V w4 hw4
 rw[zI (show a<c.length by omega) Om,zI (show i<c.length by omega) Om]
 refine⟨⟨a+1,i+1,rfl,rfl,Om,Om,Om,Om,ls.set a c[j+i],Uc,?_,E3.trans hE,⟨Uc,U.lf⟩,?_⟩,vT<|show i<c.length by omega⟩
 rw[drop_set_of_lt Om]
 have e:=mu (drop 1) M
 rw[drop_drop,drop_drop]at e
 rw[show j+(i+1)-1=j+i-1+1 by omega];exact e
 rw[m,take_succ_eq_append_getElem Uc,take_set_of_le<|Nat.le_refl _,getElem_set_self,append_assoc]
 rfl
 rw[AW]at g
 have g:c[j+i]=c[j+i-1]' Om:=Uc
 rw[bt g.symm]at m
 rw[zI (show i<c.length by omega) Om]
 refine⟨⟨a,i+1,rfl,rfl,Om,Om,Om,Om,ls,hll,?_,E3,U,?_⟩,vT<|show i<c.length by omega⟩
 have e:=mu (drop 1) M
 rw[drop_drop,drop_drop]at e
 rw[show j+(i+1)-1=j+i-1+1 by omega];exact e
 rw[m];rfl
 have W:j+i=c.length:=Oh<|il S
 rw[drop_eq_nil_of_le Om,pg,append_nil]at m
 have⟨s3,w4,Q,X,hE4,rs',hR',hl',htk⟩:=O2.fg.jcZ (P:=prog) (t:=64) (ty:=0) xM (z:=.agg #[vi 0,vi 0,vu 0,vs ⟨#[]⟩,vb ak]) (fun w=>zeroValue35 w) rfl (by intro v hv;simp[bk.cells]at hv;rcases hv with rfl|rfl|rfl|rfl|rfl<;>rfl) (k:=.i64) (n:=(a:Int)) Om So
 have⟨s4,T,hR4,hb4⟩:=hR'.Fp (P:=prog) xM (k:=.i64) (n:=(a:Int)) Om Uc
 refine⟨s3,Q w2,w4,X,hE4.ff fun b o hs=>O2.lf b hs o,s4,T w4,hK s4 w4 ?_ (E2.trans hE4) fun b o=>(hb4 b).1 o⟩
 rw[htk]at hR4
 rw[m,map_take];simpa using hR4
 rw[AW]at F
 have F:¬c[j]=c[j-1]' Om:=Uc
 rw[drop_eq_getElem_cons d,pg,aw fun e=>F e.symm]at Z
 rw[zI d Om]
 refine⟨⟨j+1,rfl,Om,d,E1,O1,?_⟩,vT d⟩
 rw[Z,take_succ_eq_append_getElem d,append_assoc]
 rfl
 have W:=vH hl hj o
 subst W
 rw[drop_length,pg,append_nil,take_length]at Z
 exact hK s wl (by rw[Z];exact Ol.fg) (aj.pure El) fun _ h=>h
end Go.Proofs
end
