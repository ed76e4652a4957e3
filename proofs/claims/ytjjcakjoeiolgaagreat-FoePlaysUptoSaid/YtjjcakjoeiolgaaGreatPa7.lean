import Derived.Test.YtjjcakjoeiolgaaGreatPa3
import Derived.Test.YtjjcakjoeiolgaaGreatPa4
import Derived.Test.YtjjcakjoeiolgaaGreatPa2
import Derived.Test.YtjjcakjoeiolgaaGreatPa5
set_option linter.defProp false
set_option linter.unusedVariables false
set_option linter.unusedSimpArgs false
section
open Go Go.SE List Go.Sort
namespace Go.Proofs
open Tryz
abbrev SP(a:World)(s:Sl)(Q:List Int->Prop)(w':World):Prop:=∃l,c9 w' 73 1 s (fv l)/\aj s.bg a w'/\Q l
def Ll(l:List Int):(fv l).flatten=l.map (Value.int .i64):=by
 induction l with
 |nil=>rfl
 |cons a l b=>simp only[fv,map_cons,flatten_cons]at *;rw[b];rfl
def jdn(s:Sl)(l:List Int)(g:World)(h:c9 g 73 1 s (fv l))(M:l.length<=1000000):
  cl 187 #[s.v] g<|XG fun w'=>SP g s (fun l'=>l'.Perm l/\l'.Pairwise (·<=·)) w':=by
 have B:s.ay=l.length:=by rw[h.ay];simp[fv]
 rcases h.bf with⟨rfl,k⟩|⟨b,ga,w,o,D,H,hs,ht⟩
 have I:l=[]:=by simpa[fv]using k
 subst I
 refine(show cl 187 #[Sl.nil.v] g _ from AnyG.slices_Sort_int_none PH none 0 g).mono ?_
 rintro _ w' ⟨rfl,rfl⟩
 exact⟨rfl,[],h,aj.refl _,.refl _,.nil⟩
 have f:(fv l).length=l.length:=by simp[fv]
 rw[Ll,f,Nat.mul_one]at ht
 rw[f]at D
 rw[Nat.mul_one]at hs
 have K:=uM o
 have m:∀j,j<l.length->∃d,ga[j]?=some (vi l[j]):=fun j d=>⟨d,by
  have:ga.toList[j]?=(ga.toList.take l.length)[j]?:=by rw[getElem?_take_of_lt d]
  rw[<-Array.getElem?_toList,this,ht,getElem?_map,getElem?_eq_getElem d];rfl⟩
 have E:Holds (Value.int .i64) g b 0 l.toArray:=by
  intro j d;have d:=Uc;have⟨_,e⟩:=m j d;refine⟨?_,?_⟩;unfold World.cell?;rw[o];simp only[Option.isSome_none,Bool.false_eq_true,if_false,Nat.zero_add];rw[e,getElem!_pos l.toArray j Uc];simp;unfold World.frozen?;rw[o];simp
 have F:s.v=.slice (some ⟨b,0,none⟩) l.length s.cap:=by unfold Sl.v;rw[w,B]
 rw[F]
 refine(show cl 187 #[.slice (some ⟨b,0,none⟩) l.length s.cap] g _ from AnyG.slices_Sort_int PH b 0 s.cap l g E K Om).mono ?_
 rintro _ w' ⟨rfl,n,os,rfl⟩
 have A:(l.mergeSort fun x y=>decide (x<=y)).Perm l:=mergeSort_perm l _
 have p:(l.mergeSort fun x y=>decide (x<=y)).Pairwise (·<=·):=by
  have:=pairwise_mergeSort (le:=fun x y:Int=>decide (x<=y)) (fun a b c h1 h2=>Uc) (fun a b=>So) l;simpa using this
 have L:=A.length_eq
 generalize (l.mergeSort fun x y=>decide (x<=y))=q at *
 refine⟨rfl,q,⟨?_,?_,.inr ⟨b,putCells (Value.int .i64) 0 q.toArray ga,w,?_,by simp[fv];omega,H,by simp[putCells,hs],?_⟩⟩,?_,A,p⟩
 intro r z;simp[fv]at z;obtain⟨t,_,rfl⟩:=z;rfl
 rw[B];simp[fv,L]
 rw[heap_grow_old _ _ Uc]
 simp[putRow,mapBlock,Sort.ahead,Array.getElem?_modify,o,onCells]
 rw[Ll]
 apply ext_getElem?
 intro j
 have G:(fv q).length*1=q.length:=by simp[fv]
 rw[G]
 by_cases d:j<q.length
 rw[getElem?_take_of_lt d,Array.getElem?_toList]
 unfold putCells
 rw[Array.getElem?_mapIdx,Array.getElem?_eq_getElem<|show j<ga.size by omega,Option.map_some,if_pos ⟨Nat.zero_le _,So⟩,Nat.sub_zero,getElem!_pos _ j Uc,getElem?_map,getElem?_eq_getElem d]
 simp
 rw[getElem?_eq_none So,getElem?_eq_none So]
 refine⟨rfl,rfl,rfl,Nat.le_add_right _ _,Uc,fun i hi J=>?_⟩
 have u:b≠i:=fun C=>J ⟨_,w,C⟩
 rw[heap_grow_old _ _ Uc]
 simp[putRow,mapBlock,Sort.ahead,Array.getElem?_modify,u]
end Go.Proofs
end
section
namespace Go.Proofs
inductive ej where
 |mk (k f t u:Int) (x:ByteArray) (fw:List ej)
def ej.fw:ej->List ej|.mk _ _ _ _ _ ks=>ks
def ej.dr:ej->gP|.mk k f t u x _=>⟨k,f,t,u,x,0,0⟩
def ej.ind{P:ej->Prop}(h:∀k f t u x (ks:List ej),(∀i (hi:i<ks.length),P ks[i])->P (.mk k f t u x ks))(t):P t:=by
 refine ej.rec (motive_1:=P) (motive_2:=fun ks=>∀i (hi:i<ks.length),P ks[i]) ?_ ?_ ?_ t;grind;intro i hi;simp at hi;grind
def uA(n:gP)(ay:Nat):Int:=
 let e:=if zM n=0 then if(ay:Int)≠(fl n.ba).fw then 53 else 0 else zM n
 if e=0 then zO (fl n.ba) n else e
mutual
def qK (inside bM:Int):ej->Int×Int
 |.mk k f t u x ks=>if 4096<=bM then(52,bM)else if 64<=inside then(52,bM)else vG (inside+1) (uA ⟨k,f,t,u,x,0,0⟩ ks.length) (bM+1) ks
def vG (inside e bM:Int):List ej->Int×Int
 |[]=>(e,bM)
 |t :: ts=>if e=0 then vG inside (qK inside bM t).1 (qK inside bM t).2 ts else(e,bM)
end
mutual
def grow (L:bw):ej->Int×Int×bw
 |.mk k f t u x ks=>zU ⟨k,f,t,u,x,0,0⟩ 0 L ks
def zU (n:gP) (i:Nat) (L:bw):List ej->Int×Int×bw
 |[]=>bz L n
 |t :: ts=>if(grow L t).2.1≠0 then(0,(grow L t).2.1,(grow L t).2.2)else zU (if i=0 then { n with a:=(grow L t).1 }else { n with b:=(grow L t).1 }) (i+1) (grow L t).2.2 ts
end
def of(L:bw)(t:ej):Int×Int×bw:=
 if(qK 0 0 t).1≠0 then(0,(qK 0 0 t).1,L)
 else if(grow L t).2.1≠0 then(0,(grow L t).2.1,L)else((grow L t).1,0,(grow L t).2.2)
def IG(L n):∃M,(bz L n).2.2=L++M:=by
 unfold bz;simp only;by_cases a:(ik L n).2.2=0;simp only[a];rw[if_neg Sm];split;exact⟨[],Sm⟩;split;exact⟨[],Sm⟩;exact⟨_,rfl⟩;rw[if_pos a];exact⟨[],Sm⟩
def Vm{L n}(a:Ok L)(h:(ik L n).2.2=0):1<=(ik L n).1/\(ik L n).1<=4096/\1<=(ik L n).2.1/\(ik L n).2.1<=64:=by
 unfold ik at h|-;simp only at h|-;by_cases h1:zM n≠0;grind;rw[if_neg h1]at h|-;split at h;simp at h;rename_i h2;rw[if_neg h2];by_cases h3:zO (fl n.ba) n≠0;grind;rw[if_neg h3]at h|-;split at h;simp at h;rename_i c;rw[if_neg c];split at h;simp at h;rename_i f;rw[if_neg f];have hs:∀l:List Int,0<=(l.map<|sizeOf L).sum:=by
  intro l;induction l with
  |nil=>simp
  |cons y l b=>have:=a.sizeOf y;simp only[List.map_cons,List.sum_cons];omega
 have e:∀(l:List Int) (d:Int),0<=d->0<=l.foldl (fun d t=>max d<|gN L t) d:=by
  intro l;induction l with
  |nil=>intro d h;exact h
  |cons y l b=>intro d h;exact b (max d<|gN L y) Om
 have:=hs<|zB n;have:=e (zB n) 0 Om;simp only;omega
def JR{L}(c:Ok L)(n):Ok (bz L n).2.2:=by
 by_cases f:(ik L n).2.2=0;have:=Vm c f;unfold bz;simp only[f];rw[if_neg Sm];split;exact c;rename_i g;split;exact c;rename_i k;refine⟨So,?_,?_,?_⟩;rw[List.map_append,List.nodup_append];refine⟨c.qu,Sm,?_⟩;intro a j b i;simp only[List.map_cons,List.map_nil,List.mem_singleton]at i;subst i;obtain⟨e,d,rfl⟩:=List.mem_map.1 j;unfold find at g;rw[List.findIdx?_eq_none_iff]at g;simpa using g e d;intro e d;rcases List.mem_append.1 d with h|h;exact c.size e h;grind;intro e d;rcases List.mem_append.1 d with h|h;exact c.depth e h;simp only[List.mem_singleton]at h;subst h;simp;omega;unfold bz;simp only;rw[if_pos f];exact c
def AO(t):∀L,Ok L->Ok (grow L t).2.2/\∃M,(grow L t).2.2=L++M:=by
 induction t using ej.ind with
 |h k f t u x ks g =>
  have:∀ks,(∀i (hi:i<ks.length),∀L,Ok L->Ok (grow L ks[i]).2.2/\∃M,(grow L ks[i]).2.2=L++M)->∀n i L,Ok L->Ok (zU n i L ks).2.2/\∃M,(zU n i L ks).2.2=L++M:=by
   intro ks;induction ks with
   |nil=>intro _ n i L h;unfold zU;exact⟨JR h n,IG L n⟩
   |cons t ts c =>
    intro hh n i L h
    have d:=hh 0 Sm L h
    simp only[List.getElem_cons_zero]at d
    unfold zU
    split
    exact d
    have⟨e,M,m⟩:=d
    have:=c (fun i hi=>hh (i+1) Uc) (if i=0 then { n with a:=(grow L t).1 }else { n with b:=(grow L t).1 }) (i+1) (grow L t).2.2 e
    refine⟨this.1,?_⟩
    have⟨j,l⟩:=this.2
    exact⟨M++j,Uc⟩
  intro L h
  unfold grow
  exact this ks g _ _ L h
def yA(n:Int):Prop:=0<=n/\n<18446744073709551616
inductive rz:ej->Prop
 |mk (k f t u:Int) (x:ByteArray) (ks:List ej) (bf:yA u) (fw:∀i (hi:i<ks.length),rz ks[i]):rz (.mk k f t u x ks)
end Go.Proofs
end
section
open Go Go.SE List
open Go.IntKind renaming i64 -> q6
open Go renaming World->af,Value->bk,Addr->ao,Ending->fb,Program->ez,TypeId->dz
open Option renaming some->ab,none->bo
open Bool renaming true->ai,false->ak
open Go.Builtin renaming append_->cm
open Prod.mk renaming injEq->ei
open Go.IntKind renaming u64->dc
namespace Go.Proofs
open Tryz
set_option maxRecDepth 100000
set_option maxHeartbeats 4000000
attribute [local irreducible] cr ed dv de Calls CallsD
attribute [local irreducible] ee W WV WR uP pv e0 eh fe ka ek el ev eu fa dw di dn fc eo kp yS xA yF bn ub
def qO{L}{i:Nat}(hi:i<L.length):ar L ((i:Int)+1)=L[i].dr:=by
 have h:bj L ((i:Int)+1)=ai:=zG.2 ⟨Om,Om⟩;have e:((i:Int)+1-1).toNat=i:=Om;simp[ar,get,h,e,hi]
def wC{L t}(h:bj L t=ai):∃i,i<L.length/\t=(i:Int)+1:=by
 have:=zG.1 h;exact⟨(t-1).toNat,Om,Om⟩
def Gl{L}{i:Nat}(hi:i<L.length):get L ((i:Int)+1)=ab L[i]:=by
 have h:bj L ((i:Int)+1)=ai:=zG.2 ⟨Om,Om⟩;have e:((i:Int)+1-1).toNat=i:=Om;simp[get,h,e,hi]
structure Wf(L:bw):Prop where
 ok:Ok L
 pP:∀i (hi:i<L.length),ik (L.take i) L[i].dr=(L[i].size,L[i].depth,0)
def Wf.nil:Wf []:=⟨Ok.nil,fun i hi=>Uc⟩
def Lw{L n}(h:(ik L n).2.2=0):zM n=0/\((fl n.ba).fw<1->n.a=0)/\((fl n.ba).fw<2->n.b=0)/\zO (fl n.ba) n=0/\(∀t∈zB n,bj L t=ai) /\
  (ik L n).1=1+((zB n).map<|sizeOf L).sum/\(ik L n).2.1=(zB n).foldl (fun d t=>max d<|gN L t) 0+1/\(ik L n).1<=4096/\(ik L n).2.1<=64:=by
 unfold ik at h|-
 simp only at h|-
 by_cases h1:zM n≠0
 grind
 rw[aw h1]at h|-
 split at h
 simp at h
 rename_i h2;rw[aw h2]
 by_cases h3:zO (fl n.ba) n≠0
 grind
 rw[aw h3]at h|-
 split at h
 simp at h
 rename_i c;rw[aw c]
 split at h
 simp at h
 rename_i e;rw[aw e]
 simp only[Bool.or_eq_true,Bool.and_eq_true,decide_eq_true_eq,bne_iff_ne,ne_eq,not_or,not_and,Classical.not_not]at h2
 refine⟨Uc,h2.1,h2.2,Uc,fun t ht=>?_,rfl,rfl,Uc,Uc⟩
 cases hi:bj L t with
 |true=>rfl
 |false=>exact absurd (List.any_eq_true.2 ⟨t,ht,Uc⟩) c
def FE(L n):(bz L n).2.2=L\/((ik L n).2.2=0/\(bz L n).2.2=L++[⟨n,(ik L n).1,(ik L n).2.1⟩]):=by
 by_cases a:(ik L n).2.2=0;unfold bz;simp only[a];rw[aw Sm];split;exact .inl rfl;grind;unfold bz;simp only;rw[bt a];exact .inl rfl
def ZP{L}{e:vd}(h:∀i (hi:i<L.length),ik (L.take i) L[i].dr=(L[i].size,L[i].depth,0))(a:ik L e.dr=(e.size,e.depth,0)):∀i (hi:i<(L++[e]).length),ik ((L++[e]).take i) (L++[e])[i].dr=((L++[e])[i].size,(L++[e])[i].depth,0):=Gd
def yG{L}(h:Wf L)(n):Wf (bz L n).2.2:=by
 have a:=JR h.ok n;rcases FE L n with e|⟨b,e⟩;rw[e];exact h;rw[e]at a|-;exact⟨a,ZP h.pP Uc⟩
def Gz(t):∀L,Wf L->Wf (grow L t).2.2:=by
 induction t using ej.ind with
 |h k f t u x ks c =>
  have:∀ks,(∀i (hi:i<ks.length),∀L,Wf L->Wf (grow L ks[i]).2.2)->∀n i L,Wf L->Wf (zU n i L ks).2.2:=by
   intro ks;induction ks with
   |nil=>intro _ n i L h;unfold zU;exact yG h n
   |cons t ts b =>
    intro hh n i L h
    have a:=hh 0 Sm L h
    simp only[List.getElem_cons_zero]at a
    unfold zU
    split
    exact a
    exact b (fun i hi=>hh (i+1) Uc) _ _ _ a
  intro L h
  unfold grow
  exact this ks c _ _ L h
def Hu{L}(h:Wf L)(t):Wf (of L t).2.2:=by
 unfold of;split;exact h;split;exact h;exact Gz t L h
def Jb{L}(h:Ok L)(t):∃M,(of L t).2.2=L++M:=by
 unfold of;split;exact⟨[],Sm⟩;split;exact⟨[],Sm⟩;exact(AO t L h).2
def yP{L M t}(h:bj L t=ai):bj (L++M) t=ai:=by
 have:=zG.1 h;exact zG.2 ⟨this.1,Uc⟩
def Jg{L M}{t:Int}(h:bj L t=ai):get (L++M) t=get L t:=by
 obtain⟨i,hi,rfl⟩:=wC h;rw[Gl hi,Gl Gd,List.getElem_append_left hi]
def OQ{L M t}(h:bj L t=ai):ar (L++M) t=ar L t:=by unfold ar;rw[Jg h]
def IK{L M t}(h:bj L t=ai):sizeOf (L++M) t=sizeOf L t:=by unfold sizeOf;rw[Jg h]
def IF{L M t}(h:bj L t=ai):gN (L++M) t=gN L t:=by unfold gN;rw[Jg h]
def Wf.dr{L}(h:Wf L){t:Int}(ht:bj L t=ai):zM (ar L t)=0/\((fl (ar L t).ba).fw<1->(ar L t).a=0)/\((fl (ar L t).ba).fw<2->(ar L t).b=0)/\zO (fl (ar L t).ba) (ar L t)=0 /\
  (∀k∈zB (ar L t),bj L k=ai/\k<t)/\sizeOf L t=1+((zB<|ar L t).map<|sizeOf L).sum/\gN L t=(zB<|ar L t).foldl (fun d k=>max d<|gN L k) 0+1:=by
 obtain⟨i,hi,rfl⟩:=wC ht
 have p:=h.pP i hi
 have r:=Lw (L:=L.take i) (n:=L[i].dr) Uc
 rw[qO hi]
 have⟨h1,h2,h3,q,u,o,j,_,_⟩:=r
 have f:∀k∈zB L[i].dr,bj (L.take i) k=ai/\bj L k=ai/\k<(i:Int)+1:=by
  intro k e;have c:=u k e;have m:=zG.1 c;have:L.take i++L.drop i=L:=List.take_append_drop i L;refine⟨c,by rw[<-this];exact yP c,?_⟩;rw[List.length_take]at m;omega
 have g:∀k∈zB L[i].dr,sizeOf (L.take i) k=sizeOf L k/\gN (L.take i) k=gN L k:=by
  intro k e;have c:=(f k e).1;have:L.take i++L.drop i=L:=List.take_append_drop i L;exact⟨by rw[<-IK (M:=L.drop i) c,this],by rw[<-IF (M:=L.drop i) c,this]⟩
 refine⟨h1,h2,h3,q,fun k e=>⟨(f k e).2.1,(f k e).2.2⟩,?_,?_⟩
 have:sizeOf L ((i:Int)+1)=L[i].size:=by simp[sizeOf,Gl hi]
 rw[this]
 rw[p]at o
 simp only at o
 rw[o]
 congr 2
 exact List.map_congr_left fun k e=>(g k e).1
 have:gN L ((i:Int)+1)=L[i].depth:=by simp[gN,Gl hi]
 rw[this]
 rw[p]at j
 simp only at j
 rw[j]
 congr 1
 have:∀(l:List Int) (d:Int),(∀k∈l,gN (L.take i) k=gN L k)->l.foldl (fun d t=>max d<|gN (L.take i) t) d=l.foldl (fun d k=>max d<|gN L k) d:=by
  intro l;induction l with
  |nil=>intro d _;rfl
  |cons a l s=>intro d hh;simp only[List.foldl_cons];rw[hh a Sm];exact s _ fun k e=>hh k Uc
 exact this _ _ fun k e=>(g k e).2
def yp:ej:=.mk 0 0 0 0 ⟨#[]⟩ []
def wT(L:bw):Nat->Int->ej
 |0,_=>yp
 |fuel+1,t=>if bj L t=ai then .mk (ar L t).ba (ar L t).cj (ar L t).to (ar L t).num (ar L t).cf ((zB<|ar L t).map<|wT L fuel)else yp
def zA(L:bw)(t:Int):ej:=wT L t.toNat t
def Du{L t}(h:bj L t=ak)(f):wT L f t=yp:=by
 cases f<;>simp[wT,h]
def Wc{L}(h:Wf L):∀f t,t.toNat<=f->wT L f t=zA L t:=by
 have key:∀f g t,t.toNat<=f->t.toNat<=g->wT L f t=wT L g t:=by
  intro f;induction f with
  |zero =>
   intro g t a e
   have:bj L t=ak:=by
    apply Bool.eq_false_iff.2;intro hi;have:=zG.1 hi;omega
   rw[Du this,Du this]
  |succ f d =>
   intro g t a e
   cases hi:bj L t with
   |false=>rw[Du hi,Du hi]
   |true =>
    have c:=zG.1 hi
    cases g with
    |zero=>omega
    |succ g =>
     simp only[wT,hi,if_true]
     congr 1
     refine List.map_congr_left fun k b=>d g k ?_ ?_
     have:=((h.dr hi).2.2.2.2.1 k b).2;omega
     have:=((h.dr hi).2.2.2.2.1 k b).2;omega
 intro f t a;exact key f t.toNat t a<|Nat.le_refl _
def Kx{L t}(h:bj L t=ak):zA L t=yp:=Du h _
def zW{L}(h:Wf L){t}(ht:bj L t=ai):zA L t=.mk (ar L t).ba (ar L t).cj (ar L t).to (ar L t).num (ar L t).cf ((zB<|ar L t).map<|zA L):=by
 have a:=zG.1 ht;have e:t.toNat=(t.toNat-1)+1:=Om;unfold zA;rw[e];simp only[wT,ht,if_true];congr 1;refine List.map_congr_left fun k b=>?_;have:=((h.dr ht).2.2.2.2.1 k b).2;exact Wc h _ k Om
def Wf.first{L M}(h:Wf (L++M)):Wf L:=by
 refine⟨⟨by have:=h.ok.jl;rw[List.length_append]at this;omega,?_,fun e a=>h.ok.size e Uc,fun e a=>h.ok.depth e Uc⟩,fun i hi=>?_⟩
 .have:=h.ok.qu;rw[List.map_append]at this;exact(List.nodup_append.1 this).1
 .have:=h.pP i Gd;rw[List.getElem_append_left hi,List.take_append_of_le_length Om]at this;exact this
def uI{L M}(h:Wf (L++M)):∀n t,t.toNat=n->bj L t=ai->zA (L++M) t=zA L t:=by
 have b:=h.first;intro n;induction n using Nat.strongRecOn with
 |_ n c =>
  intro t e ht
  rw[zW h<|yP ht,zW b ht,OQ ht]
  congr 1
  refine List.map_congr_left fun k d=>?_
  have a:=(b.dr ht).2.2.2.2.1 k d
  have:=zG.1 a.1
  exact c k.toNat Om k rfl a.1
def qH(k:Int):Bool:=k==7 ||k==8 ||k==9
def tw(k:Int):Bool:=k==1 ||k==2 ||k==3
def zQ(n:Int):gP:=⟨6,n,0,0,⟨#[]⟩,0,0⟩
def tO(n:gP):Int:=if n.ba=9 then n.to else n.cj
def tK(L:bw)(r u t:Int):Prop:=
 (r=1/\(ar L u).ba=4/\(ar L u).a=t)\/(r=2/\(ar L u).ba=4/\(ar L u).b=t)\/(r=3/\qH (ar L u).ba=ai/\(ar L u).a=t)
inductive jn(L:bw)(G:List Int):Int->Prop
 |rv {t:Int}:t∈G->jn L G t
 |vn {r u t:Int}:jn L G u->tK L r u t->jn L G t
inductive iw(L:bw)(K:Int->Prop):Int->Prop
 |bM {t:Int}:K t->iw L K t
 |free {t:Int}:tw (ar L t).ba=ai->iw L K t
 |ru {t:Int}:(ar L t).ba=4->iw L K (ar L t).a->iw L K (ar L t).b->iw L K t
 |ue {t:Int}:(ar L t).ba=5->iw L K (ar L t).a->iw L K t
 |uk {t:Int} {i:Nat}:qH (ar L t).ba=ai->iw L K (ar L t).a->find L (zQ<|tO<|ar L t)=ab i->K ((i:Int)+1)->iw L K t
structure ln where
 t:Int
 mr:Int
 cj:Int
deriving DecidableEq
def zK(S:List ln):List Int:=S.map ln.t
def wo(L:bw)(G:List Int)(cd:List ln)(v:ln):Prop:=(v.mr=0/\v.cj=0/\v.t∈G)\/(v.mr≠0/\tK L v.mr v.cj v.t/\v.cj∈zK cd)
structure qj(L:bw)(G:List Int)(S:List ln):Prop where
 qu:(zK S).Nodup
 kq:∀t∈zK S,bj L t=ai
 wg:∀i (h:i<S.length),wo L G (S.take i) S[i]
def uj(L:bw)(S:List ln)(u:Int):Prop:=∀r t,tK L r u t->t∈zK S
structure rK(L:bw)(G:List Int)(S:List ln):Prop extends qj L G S where
 wt:∀u∈zK S,uj L S u
 oe:∀t∈G,t∈zK S
 Gi:G.Nodup
def yX(S):(zK S).length=S.length:=by simp[zK]
def wo.mono{L G G' cd v}(h:wo L G cd v)(d:∀t∈G,t∈G'):wo L G' cd v:=by
 rcases h with⟨a,b,c⟩|h;exact .inl ⟨a,b,d _ c⟩;exact .inr h
def qj.mono{L G G' S}(h:qj L G S)(a:∀t∈G,t∈G'):qj L G' S:=⟨h.qu,h.kq,fun i hi=>(h.wg i hi).mono a⟩
def qj.te{L G S}(h:qj L G S){v}(c:v.t∉zK S)(hi:bj L v.t=ai)(f:wo L G S v):qj L G (S++[v]):=by
 refine⟨?_,?_,fun i a=>?_⟩;unfold zK at c|-;rw[List.map_append,List.nodup_append];exact⟨h.qu,Sm,fun x hx y d e=>Uc⟩;intro t ht;unfold zK at ht;rw[List.map_append,List.mem_append]at ht;rcases ht with ht|ht;exact h.kq t ht;grind;rw[List.length_append]at a;simp only[List.length_cons,List.length_nil]at a;by_cases b:i<S.length;rw[List.getElem_append_left b,List.take_append_of_le_length Om];exact h.wg i b;grind
def uj.te{L S u v}(h:uj L S u):uj L (S++[v]) u:=fun r t a=>by
 unfold zK;rw[List.map_append];exact List.mem_append_left _<|h r t a
def HO{S t}(h:t∈zK S):∃i,∃hi,S[i].t=t/\(zK S).idxOf t=i:=by
 have a:=List.idxOf_lt_length_iff.2 h;refine⟨(zK S).idxOf t,by simpa[zK]using a,?_,rfl⟩;have:=List.getElem_idxOf a;simp only[zK,List.getElem_map]at this|-;exact this
def rK.zz{L G S}(h:rK L G S)(t):t∈zK S↔jn L G t:=by
 constructor;intro ht;have⟨i,hi,e,_⟩:=HO ht;subst e;have:∀(n i:Nat) (hi:i<S.length),i<=n->jn L G S[i].t:=by
  intro n;induction n with
  |zero =>
   intro i hi g
   have:i=0:=Om
   subst this
   rcases h.wg 0 hi with⟨_,_,a⟩|⟨_,_,c⟩
   exact .rv a
   simp[zK]at c
  |succ n b =>
   intro i hi k
   rcases h.wg i hi with⟨_,_,a⟩|⟨_,d,c⟩
   exact .rv a
   have⟨j,f,e,_⟩:=HO c
   rw[List.length_take]at f
   have:=b j Om Om
   rw[List.getElem_take]at e
   rw[e]at this
   exact .vn this d
 exact this i i hi<|Nat.le_refl _;intro hs;induction hs with
 |rv a=>exact h.oe _ a
 |vn _ d b=>exact h.wt _ b _ _ d
def iw.mono{L K K'}(d:∀t,K t->K' t){t}(h:iw L K t):iw L K' t:=by
 induction h with
 |bM h=>exact .bM<|d _ h
 |free h=>exact .free h
 |ru h _ _ a c=>exact .ru h a c
 |ue h _ b=>exact .ue h b
 |uk h _ f e b=>exact .uk h b f<|d _ e
structure mf where
 mr:Int
 a:Int
 b:Int
 t:Int
deriving DecidableEq
def ahead(i:Nat)(v:Int):Bool:=decide (0<=v)&&decide (v<i)
def ry(cd:List mf)(v:Int):Int:=(cd[v.toNat]?.map mf.t).getD 0
def HF(L:bw)(r u t:Int):Bool:=
 if r=1 then(ar L u).ba==4&&(ar L u).a==t else if r=2 then(ar L u).ba==4&&(ar L u).b==t else qH (ar L u).ba&&(ar L u).a==t
def qb(L:bw)(G:List Int)(cd:List mf)(s:mf):Bool:=
 if bj L s.t=ak then ak
 else if s.mr=0 then s.a==0&&s.b==0&&decide (s.t∈G)
 else if s.mr=1\/s.mr=2\/s.mr=3 then ahead cd.length s.a&&s.b==0&&HF L s.mr (ry cd s.a) s.t
 else if s.mr=4 then s.a==0&&s.b==0&&tw (ar L s.t).ba
 else if s.mr=5 then
  if(ar L s.t).ba=4 then ahead cd.length s.a&&ahead cd.length s.b&&ry cd s.a==(ar L s.t).a&&ry cd s.b==(ar L s.t).b
  else if(ar L s.t).ba=5 then ahead cd.length s.a&&s.b==0&&ry cd s.a==(ar L s.t).a
  else if qH (ar L s.t).ba=ai then ahead cd.length s.a&&ahead cd.length s.b&&ry cd s.a==(ar L s.t).a&&(ar L<|ry cd s.b).ba==6&&(ar L<|ry cd s.b).cj==tO (ar L s.t)
  else ak
 else ak
def MA{α:Type}[DecidableEq α]:∀{l m:List α},l.Nodup->(∀x∈l,x∈m)->l.length<=m.length
 |[],m,_,_=>Sm
 |x :: l,m,a,hs=>by
  have hx:=hs x Sm;rw[List.nodup_cons]at a;have:=MA (m:=m.erase x) a.2 Gd;rw[List.length_erase_of_mem hx]at this;have:=List.length_pos_of_mem hx;simp only[List.length_cons];omega
def xD{L}{l:List Int}(a:l.Nodup)(hi:∀t∈l,bj L t=ai):l.length<=L.length:=by
 have:=MA (m:=(List.range L.length).map fun i:Nat=>(i:Int)+1) a (fun t ht=>by
  have⟨i,h1,h2⟩:=wC<|hi t ht;exact List.mem_map.2 ⟨i,List.mem_range.2 h1,h2.symm⟩)
 simpa using this
def qj.jl{L}{G:List Int}{S}(h:qj L G S):S.length<=L.length:=by
 have:=xD h.qu h.kq;rwa [yX]at this
def ud{L}(h:Wf L){t}(ht:bj L t=ai)(c:(ar L t).ba=4):(bj L (ar L t).a=ai/\(ar L t).a<t)/\(bj L (ar L t).b=ai/\(ar L t).b<t):=by
 have:=(h.dr ht).2.2.2.2.1;simp only[zB,c,fl]at this;exact⟨this _ Sm,this _ Sm⟩
def I0{L}(h:Wf L){t}(ht:bj L t=ai)(b:(ar L t).ba=5):bj L (ar L t).a=ai/\(ar L t).a<t:=by
 have:=(h.dr ht).2.2.2.2.1;simp only[zB,b,fl]at this;exact this _ Sm
def xo{L}(h:Wf L){t}(ht:bj L t=ai)(b:qH (ar L t).ba=ai):bj L (ar L t).a=ai/\(ar L t).a<t:=by
 have:=(h.dr ht).2.2.2.2.1;simp only[qH,Bool.or_eq_true,beq_iff_eq]at b;rcases b with(b|b)|b<;>simp only[zB,b,fl]at this<;>exact this _ Sm
def tK.kq{L}(h:Wf L){r u t}(b:bj L u=ai)(c:tK L r u t):bj L t=ai/\t<u:=by
 rcases c with⟨_,a,rfl⟩|⟨_,a,rfl⟩|⟨_,a,rfl⟩;exact(ud h b a).1;exact(ud h b a).2;exact xo h b a
def uh(S:List ln)(v:ln):List ln:=if v.t∈zK S then S else S++[v]
def tX(S v):zK (S++[v])=zK S++[v.t]:=by simp[zK]
def Cm(S v):v.t∈zK (uh S v)/\∀t∈zK S,t∈zK (uh S v):=by
 unfold uh;split;grind;rw[tX];exact⟨Sm,fun t ht=>List.mem_append_left _ ht⟩
def KJ(S v):∃M,uh S v=S++M:=by
 unfold uh;split;exact⟨[],Sm⟩;exact⟨[v],rfl⟩
def qj.add{L G S}(h:qj L G S){v}(hi:bj L v.t=ai)(a:wo L G S v):qj L G (uh S v):=by
 unfold uh;split;exact h;rename_i b;exact h.te b hi a
def GZ(p:Int×Int):bk:=.agg #[vi p.1,vi p.2]
def yw(S:List ln):List (Int×(Int×Int)):=S.map fun v=>(v.t,(v.mr,v.cj))
def Kt(S):(yw S).map Prod.fst=zK S:=by simp[yw,zK]
def Va(S v):yw (S++[v])=yw S++[(v.t,(v.mr,v.cj))]:=by simp[yw]
structure pW(w:af)(k p:ao)(G:List Int)(S:List ln)(ks:List Int)(sg:Sl)(m:Nat)(sl:Sl):Prop where
 box:az w k [vp<|ab p,sg.v,.map<|ab m,sl.v] 163
 oe:c9 w 73 1 sg (fv G)
 bM:jm GZ w m (yw S)
 rP:c9 w 73 1 sl (fv ks)
 n1:m≠k.block
 n2:¬sg.bg k.block
 n3:¬sl.bg k.block
 n4:¬sg.bg m
 n5:¬sl.bg m
 n6:∀b,sg.bg b->¬sl.bg b
def KF(k:ao)(sg:Sl)(m:Nat)(sl:Sl)(b:Nat):Prop:=b=k.block\/sg.bg b\/b=m\/sl.bg b
def qC(w:af)(k p:ao)(G:List Int)(S:List ln)(F:NP):Prop:=∃sg m sl,pW w k p G S (zK S) sg m sl/\∀b,F b↔KF k sg m sl b
section
variable {w w':af} {k p:ao} {G:List Int} {S:List ln} {ks:List Int} {sg sl:Sl} {m:Nat} {F:NP}
def pW.ext{X}(h:pW w k p G S ks sg m sl)(a:aj X w w')(c:∀b,KF k sg m sl b->¬X b):pW w' k p G S ks sg m sl:=
 ⟨h.box.ext a<|c _<|.inl rfl,h.oe.ext a fun b d=>c _<|.inr<|.inl d,h.bM.ext a<|c _<|.inr<|.inr<|.inl rfl,h.rP.ext a fun b d=>c _<|.inr<|.inr<|.inr d,h.n1,h.n2,h.n3,h.n4,h.n5,h.n6⟩
def pW.pure(h:pW w k p G S ks sg m sl)(a:aq w w'):pW w' k p G S ks sg m sl:=h.ext a fun _ _ h=>h
def pW.lt(h:pW w k p G S ks sg m sl){b}(a:KF k sg m sl b):b<w.heap.size:=by
 rcases a with rfl|a|rfl|a;exact h.box.lt;exact h.oe.lt a;exact h.bM.lt;exact h.rP.lt a
def qC.ext{X}(h:qC w k p G S F)(a:aj X w w')(d:∀b,F b->¬X b):qC w' k p G S F:=by
 have⟨sg,m,sl,h,c⟩:=h;exact⟨sg,m,sl,h.ext a Gd,c⟩
def qC.pure(h:qC w k p G S F)(a:aq w w'):qC w' k p G S F:=h.ext a fun _ _ h=>h
def qC.lt(h:qC w k p G S F){b}(c:F b):b<w.heap.size:=by
 have⟨sg,m,sl,h,a⟩:=h;exact h.lt<|(a b).1 c
def pW.iv(h:pW w k p G S ks sg m sl)(t:Int):∃r f:Int,(Instr.lookup 161 (.map<|ab m) (vi t) ai).run prog w=.ok (.tuple #[.agg #[vi r,vi f],vb<|decide (t∈zK S)]) w/\(t∈zK S->SE.iv (yw S) t=ab (r,f)):=by
 rcases h.bM.get (P:=prog) (T:=161) underlying161 underlying73 (zeroValue205 _) t ai with⟨h1,h2⟩|⟨⟨r,f⟩,h1,h2⟩;have b:t∉zK S:=by have:=uQ.1 h1;rwa [Kt]at this
 exact⟨0,0,Uc,fun h=>absurd h b⟩;have a:t∈zK S:=by
  have:=tV h1;rw[<-Kt];exact mem_map.2 ⟨_,this,rfl⟩
 exact⟨r,f,by rw[decide_eq_true a];exact h2,fun _=>h1⟩
def pW.put(h:pW w k p G S ks sg m sl){v:ln}(c:v.t∉zK S):∃w',(Instr.mapUpdate 161 (.map<|ab m) (vi v.t)<|.agg #[vi v.mr,vi v.cj]).run prog w=.ok () w'/\pW w' k p G (S++[v]) ks sg m sl/\aj (·=m) w w':=by
 have⟨w',h1,h2,h3⟩:=h.bM.put (P:=prog) (T:=161) (K:=73) underlying161 underlying73 (k:=v.t) (uQ.2 (by rw[Kt];exact c)) (v.mr,v.cj);exact⟨w',h1,⟨h.box.ext h3 fun e=>h.n1 e.symm,h.oe.ext h3 fun b a e=>h.n4<|e▸a,by rw[Va];exact h2,h.rP.ext h3 fun b a e=>h.n5<|e▸a,h.n1,h.n2,h.n3,h.n4,h.n5,h.n6⟩,h3⟩
def pW.me(h:pW w k p G S ks sg m sl){t q w1}(o:fp w (.cells #[vi t] 73) q w1)(x:ks.length<=1000000):∃s1 f,(cm #[46,46] 46 #[sl.v,(Sl.mk (ab q) 1 1).v]).run prog w1=.ok s1.v f/\aj sl.bg w1 f/\az f k [vp<|ab p,sg.v,.map<|ab m,sl.v] 163 /\
  pW (f.setCell (k.add 3) s1.v) k p G S (ks++[t]) sg m s1/\aj (KF k sg m sl) w (f.setCell (k.add 3) s1.v)/\∀b,KF k sg m s1 b->KF k sg m sl b\/w.heap.size<=b:=by
 have l:aq w w1:=aj.bu o
 have h1:=h.pure l
 have⟨s1,f,s,u,g,a⟩:=h1.rP.append (P:=prog) (ty:=46) (c:=1) ux (r:=[vi t]) (az.fi o).row rfl rfl (by rw[zV];omega) (by rw[zV];simp[maxLen];omega)
 have j:=h1.box.ext g h1.n3
 have d:∀b,s1.bg b->sl.bg b\/w.heap.size<=b:=fun b h=>(a b h).imp_right fun h=>Oh l.size
 have n:¬s1.bg k.block:=fun hh=>(d _ hh).elim h.n3 fun hh=>Oh h.box.lt
 have nm:¬s1.bg m:=fun hh=>(d _ hh).elim h.n5 fun hh=>Oh h.bM.lt
 have i:=aj.setCell (w:=f) (k.add 3) s1.v
 rw[zD]at i
 refine⟨s1,f,s,g,j,⟨j.set 3 s1.v,((h1.oe.ext g h.n6).ext i fun b a e=>h.n2<|e▸a),((h1.bM.ext g h.n5).ext i h.n1),by rw[show fv (ks++[t])=fv ks++[[vi t]] by simp[fv]];exact u.ext i fun b a e=>n<|e▸a,h.n1,h.n2,n,h.n4,nm,fun b h1 h2=>(d b h2).elim (h.n6 b h1) fun hh=>Oh<|h.oe.lt h1⟩,?_,?_⟩
 exact((l.pure (F:=KF k sg m sl)).trans<|g.mono fun b _ a=>.inr<|.inr<|.inr a).trans (i.mono fun b _ a=>.inl a)
 rintro b (a|a|a|a)
 exact .inl<|.inl a
 exact .inl<|.inr<|.inl a
 exact .inl<|.inr<|.inr<|.inl a
 exact(d b a).imp_left fun h=>.inr<|.inr<|.inr h
end
def zEE(p w0):cl 43 #[vp<|ab p] w0 (XD fun r w'=>∃k F,r=ab k/\qC w' k p [] [] F/\aq w0 w'/\∀b,F b->w0.heap.size<=b):=by
 refine Y4 _ w0 (fun r w'=>∃k F,r=ab k/\qC w' k p [] [] F/\aq w0 w'/\∀b,F b->w0.heap.size<=b) ?_;refine Br.f rfl ?_;intro l g h1 j m h2;have e:aq w0 g:=aj.bu h1;have i:aq g m:=aj.bu h2;have c:∀b,¬Sl.nil.bg b:=fun b d=>by have⟨a,h,_⟩:=d;cases h
 refine⟨j,_,rfl,⟨Sl.nil,l.block,Sl.nil,⟨az.fi h2,c9.nil _ _ _,(jm.fi (f:=GZ) h1).pure i,c9.nil _ _ _,?_,c _,c _,c _,c _,fun b d=>(c b d).elim⟩,fun b=>Iff.rfl⟩,e.trans i,?_⟩;have:=h1.gp;have:=h2.gp;have:=e.size;have:=(jm.fi (f:=GZ) h1).lt;omega;rintro b (rfl|d|rfl|d);have:=h2.gp;have:=e.size;omega;exact(c b d).elim;have:=h1.gp;omega;exact(c b d).elim
def Mk(k p t w0){G S F}(h:qC w0 k p G S F):
  cl 128 #[vp<|ab k,vi t] w0<|XC fun r w'=>r=decide (t∈zK S)/\aq w0 w':=by
 refine jci _ _ w0 _ ?_
 have⟨sg,m,sl,h,c⟩:=h
 have⟨r,f,h1,_⟩:=h.iv t
 exact Br.f rfl ⟨k,rfl,_,h.box.cell rfl,r,f,_,h1,fun b a hs=>⟨rfl,hs.first⟩⟩
def KE(k p w0){G S F}(h:qC w0 k p G S F)(c:G.length<=1000000):
  cl 68 #[vp<|ab k] w0<|XA fun r w'=>jd w0 73 1 (fv G) r w':=by
 refine ZM _ w0 _ ?_
 have⟨sg,m,sl,h,d⟩:=h
 refine Br.f rfl ⟨k,rfl,sg,h.box.cell rfl,?_⟩
 refine(zDM sg G w0 h.oe.gS (fun a=>?_) c).mono ?_
 rcases h.oe.bf with⟨e,_⟩|⟨g,ga,b,_⟩
 exact e
 rw[b]at a;cases a
 grind
section
variable {w w':af} {k p:ao} {G:List Int} {S:List ln} {F:NP}
end
def Kk(k p t mr u c1 c2 w0){G S F}(h:qC w0 k p G S F)(h1:w0.cell? c1=ab (vp<|ab k))(h2:w0.cell? c2=ab (vi u))(d1:¬ F c1.block)(d2:¬ F c2.block)(N:S.length<=1000000):
  cl 181 #[vi t,vi mr,vp<|ab c1,vp<|ab c2] w0<|XG fun w'=>∃F',qC w' k p G (uh S ⟨t,mr,u⟩) F'/\aj F w0 w'/\∀b,F' b->F b\/w0.heap.size<=b:=by
 refine SZ _ _ _ _ w0 _ ?_
 have T:=h
 have⟨sg,m,sl,h,n⟩:=h
 have⟨r,f,Q,_⟩:=h.iv t
 refine⟨_,h1,k,rfl,_,h.box.cell rfl,r,f,_,Q,fun w=>?_,fun w=>?_⟩
 .have i:t∉zK S:=by simpa using w
  have g:uh S ⟨t,mr,u⟩=S++[⟨t,mr,u⟩]:=aw i
  rw[g]
  intro E C d
  have M:=d.first
  have hh:∀{b},b<w0.heap.size->¬E b:=fun c hx=>Oh<|d.old _ hx
  have j:=M.trans<|aj.drew C
  have s:∀a,aq a a.drew:=fun a=>aj.drew a
  refine⟨fun w'=>pW w' k p G S (zK S) sg m sl/\w'.cell? c1=ab (vp<|ab k)/\w'.cell? c2=ab (vi u),⟨h.pure j,j.cell h1 fun h=>h,j.cell h2 fun h=>h⟩,?_⟩
  rintro _ rfl
  have h3:=h.pure j
  refine⟨_,fun w' h=>h.2.1,k,rfl,_,fun w' h=>h.1.box.cell rfl,_,fun w' h=>h.2.2,?_⟩
  have⟨a,A,L,o⟩:=h3.put (v:=⟨t,mr,u⟩) i
  refine⟨a,A,o.ff fun b c e=>by subst e;exact hh (h.lt<|.inr<|.inr<|.inl rfl) c,?_⟩
  have l:=o.cell (j.cell h1 fun h=>h) fun e=>d1<|(n _).2<|.inr<|.inr<|.inl e
  have x:=L.pure<|aj.drew a
  refine⟨fun w'=>w'.cell? c1=ab (vp<|ab k)/\az w' k [vp<|ab p,sg.v,.map<|ab m,sl.v] 163,⟨(s a).cell l fun h=>h,x.box⟩,?_⟩
  rintro _ rfl
  refine⟨_,fun w' h=>h.1,_,fun w' h=>h.1,k,rfl,sl,fun w' h=>h.2.cell rfl,?_⟩
  intro q O J
  have z:aq a.drew O:=aj.bu J
  refine⟨⟨z.cell ((s a).cell l fun h=>h) fun h=>h,x.box.pure z⟩,?_⟩
  have⟨s1,R,B,D,I,H,K,P⟩:=x.me J (by rw[yX];exact N)
  have y:=D.cell (z.cell ((s a).cell l fun h=>h) fun h=>h) fun c=>d1<|(n _).2<|.inr<|.inr<|.inr c
  refine⟨s1,R,B,⟨y,I⟩,D.ff fun b c hx=>hh (h.lt<|.inr<|.inr<|.inr hx) c,k,rfl,I.im Sm,by rw[zD];exact hh h.box.lt,?_⟩
  rintro _ rfl
  rw[<-show zK (S++[⟨t,mr,u⟩])=zK S++[t]from tX S ⟨t,mr,u⟩]at H
  have U:=Nat.le_trans j.size<|Nat.le_trans o.size (s a).size
  refine⟨_,⟨sg,m,s1,H,fun b=>Iff.rfl⟩,?_,fun b c=>(P b c).imp (n b).2 fun h=>Om⟩
  refine((j.pure (F:=F)).trans<|o.mono fun b _ e=>(n b).2<|.inr<|.inr<|.inl e).trans (((aj.drew a:aq a a.drew).pure (F:=F)).trans<|K.mono fun b _ c=>(n b).2 c)
 .have i:t∈zK S:=by simpa using w
  have g:uh S ⟨t,mr,u⟩=S:=bt i
  rw[g]
  intro E C d
  exact⟨F,T.pure d.first,d.first.pure,fun b c=>.inl c⟩
structure re(w0:af)(H:NP)(w:af)(k p p1:ao)(L:bw)(G:List Int)(S:List ln)(F F0 FP:NP):Prop where
 ic:qC w k p G S F
 ew:zH w p L FP
 cap:w.cell? p1=ab (vp<|ab k)
 ext:aj F0 w0 w
 bf:∀b,F b->F0 b\/w0.heap.size<=b
 h1:∀b,F b->¬H b
 h2:∀b,FP b->¬H b
 h3:¬H p1.block
 d1:¬F p1.block
 d2:∀b,F b->¬FP b
section
variable {w0 w w':af} {H H':NP} {k p p1:ao} {L:bw} {G:List Int} {S S':List ln} {F F' F0 FP:NP}
def re.pure(h:re w0 H w k p p1 L G S F F0 FP)(E:aq w w'):re w0 H w' k p p1 L G S F F0 FP:=
 ⟨h.ic.pure E,h.ew.pure E,E.cell h.cap fun h=>h,h.ext.mh E,h.bf,h.h1,h.h2,h.h3,h.d1,h.d2⟩
def re.bh(h:re w0 H w k p p1 L G S F F0 FP)(hs:au w0 H w H' w'):re w0 H' w' k p p1 L G S F F0 FP:=by
 have d:=hs.mn (G:=F) fun b a=>⟨h.ic.lt a,h.h1 b a⟩;have c:=hs.mn (G:=FP) fun b a=>⟨h.ew.lt a,h.h2 b a⟩;have e:=hs.mn (G:=(·=p1.block)) (fun b a=>by subst a;exact⟨af.block_lt_of_cell? w p1 h.cap,h.h3⟩) _ rfl;exact⟨h.ic.ext hs.ext d,h.ew.ext hs.ext c,hs.ext.cell h.cap e,h.ext.ft hs.ext fun i hi a=>Oh<|hs.old i a,h.bf,d,c,e,h.d1,h.d2⟩
def re.KC(h:re w0 H w k p p1 L G S F F0 FP){q}(E:aj (·=q) w w')(d:¬F q)(q2:¬FP q)(c:q≠p1.block)(f:w0.heap.size<=q):re w0 H w' k p p1 L G S F F0 FP:=
 ⟨h.ic.ext E fun b a e=>d<|e▸a,h.ew.ext E fun b a e=>q2<|e▸a,E.cell h.cap fun e=>c e.symm,h.ext.ft E Gd,h.bf,h.h1,h.h2,h.h3,h.d1,h.d2⟩
def re.step(h:re w0 H w k p p1 L G S F F0 FP)(f:∀b,H b->b<w.heap.size)(e:qC w' k p G S' F')(E:aj F w w')(c:∀b,F' b->F b\/w.heap.size<=b):re w0 H w' k p p1 L G S' F' F0 FP:=by
 have a:=h.ext.size;refine⟨e,h.ew.ext E fun b a d=>h.d2 b d a,E.cell h.cap h.d1,h.ext.ft E fun i hi d=>(h.bf i d).elim id fun hh=>Om,fun b a=>?_,fun b a hh=>?_,h.h2,h.h3,fun hh=>?_,fun b a hh=>?_⟩;rcases c b a with h1|h1;exact h.bf b h1;right;omega;rcases c b a with h1|h1;exact h.h1 b h1 hh;have:=f b hh;omega;rcases c _ hh with h1|h1;exact h.d1 h1;have:=af.block_lt_of_cell? w p1 h.cap;omega;rcases c b a with h1|h1;exact h.d2 b h1 hh;have:=h.ew.lt hh;omega
end
def zAB(k p t mr cj w0){L G S F FP}(h:qC w0 k p G S F)(hP:zH w0 p L FP)(hW:Wf L)(hd:∀b,F b->¬ FP b)(hwo:qj L G S)(hcl:∀u∈zK S,uj L S u)(ht:bj L t=ai)(hv:wo L G S ⟨t,mr,cj⟩):
  cl 134 #[vp<|ab k,vi t,.agg #[vi mr,vi cj]] w0<|XG fun w'=>∃S' F',qC w' k p G S' F'/\(qj L G S'/\(∀u∈zK S',uj L S' u)/\t∈zK S'/\∀u∈zK S,u∈zK S')/\aj F w0 w'/\∀b,F' b->F b\/w0.heap.size<=b:=by
 suffices key:∀K:WP,(∀S' F' w',qC w' k p G S' F'->(qj L G S'/\(∀u∈zK S',uj L S' u)/\t∈zK S'/\∀u∈zK S,u∈zK S')->aj F w0 w'->(∀b,F' b->F b\/w0.heap.size<=b)->K w')->K9 (ab k) t mr cj w0 K from
  jdi _ _ _ _ w0 _<|key _ fun S' F' w' a b c d=>⟨S',F',a,b,c,d⟩
 intro K hK
 intro p1 w1 h1 H1 w2 hs2
 have hp1:=h1.gp
 have E1:aq w0 w1:=aj.bu h1
 have nF:∀{b},F b->b<w0.heap.size:=fun l=>h.lt l
 have A1:re w0 bl w1 k p p1 L G S F F FP:=⟨h.pure E1,hP.pure E1,(az.fi h1).dj,E1.pure,fun b l=>.inl l,fun b _ h=>h,fun b _ h=>h,fun h=>h,fun l=>Uc,hd⟩
 have A2:=A1.bh hs2
 have⟨sg,m,sl,k2,J⟩:=A2.ic
 have⟨r,f,hl,_⟩:=k2.iv t
 refine⟨_,A2.cap,k,rfl,_,k2.box.cell rfl,r,f,_,hl,fun hc=>?_,fun hc=>?_⟩
 intro H2 w4 hs4
 have A4:=A2.bh hs4
 exact hK S F w4 A4.ic ⟨hwo,hcl,Uc,fun _ h=>h⟩ A4.ext fun b l=>.inl l
 have hnt:t∉zK S:=Uc
 intro H2 w4 hs4
 have A4:=A2.bh hs4
 have k4:=k2.ext hs4.ext fun b l=>A4.h1 b<|(J b).2 l
 have D:∀w,aq w w.drew:=fun w=>aj.drew w
 refine⟨fun w'=>w'.cell? p1=ab (vp<|ab k)/\az w' k [vp<|ab p,sg.v,.map<|ab m,sl.v] 163,⟨(A4.pure<|D w4).cap,(k4.pure<|D w4).box⟩,?_⟩
 rintro _ rfl
 have A5:=A4.pure<|D w4
 have k5:=k4.pure<|D w4
 have hs5:=hs4.jj.jg (D w4).dy
 refine⟨_,fun w' h=>h.1,k,rfl,_,fun w' h=>h.2.cell rfl,?_⟩
 have⟨w6,hr6,k6,E6⟩:=k5.put (v:=⟨t,mr,cj⟩) hnt
 have hm:=A5.h1 m<|(J m).2<|.inr<|.inr<|.inl rfl
 refine⟨w6,hr6,E6.ff fun b l e=>hm<|e▸l,?_⟩
 have c16:=E6.cell A5.cap fun e=>A5.d1<|(J _).2<|.inr<|.inr<|.inl e
 refine⟨_,c16,k,rfl,sl,k6.box.cell rfl,?_⟩
 have k7:=k6.pure<|D w6
 have c17:=(D w6).cell c16 fun h=>h
 refine⟨fun w'=>w'.cell? p1=ab (vp<|ab k)/\az w' k [vp<|ab p,sg.v,.map<|ab m,sl.v] 163,⟨c17,k7.box⟩,?_⟩
 rintro _ rfl
 refine⟨_,fun w' h=>h.1,_,fun w' h=>h.1,k,rfl,sl,fun w' h=>h.2.cell rfl,?_⟩
 intro q w8 h8
 have E8:aq w6.drew w8:=aj.bu h8
 refine⟨⟨E8.cell c17 fun h=>h,k7.box.pure E8⟩,?_⟩
 have hSn:S.length<=65536:=Oi hwo.jl hW.ok.jl
 have⟨s1,w9,hr9,X9,b9,k9,E9,f9⟩:=k7.me h8 (by rw[yX];omega)
 have c19:=X9.cell (E8.cell c17 fun h=>h) fun l=>A5.d1<|(J _).2<|.inr<|.inr<|.inr l
 have hH8:=hs5.lt
 refine⟨s1,w9,hr9,⟨c19,b9⟩,X9.ff fun b l hx=>A5.h1 b ((J b).2<|.inr<|.inr<|.inr hx) l,k,rfl,b9.im Sm,by rw[zD];exact A5.h1 _<|(J _).2<|.inl rfl,?_⟩
 rintro _ rfl
 rw[<-show zK (S++[⟨t,mr,cj⟩])=zK S++[t]from tX S ⟨t,mr,cj⟩]at k9
 have E59:=(E6.mono fun b _ e=>(J b).2<|.inr<|.inr<|.inl e).trans<|((D w6).pure (F:=F)).trans<|E9.mono fun b _ l=>(J b).2 l
 have z6:=Nat.le_trans E6.size (D w6).size
 have A10:=A5.step hH8 ⟨sg,m,s1,k9,fun b=>Iff.rfl⟩ E59 fun b l=>(f9 b l).imp (J b).2 fun h=>Om
 have hw1:=hwo.te hnt ht hv
 have hl2:sl.ay=S.length:=by rw[k2.rP.ay,zV,yX]
 refine⟨fun i H w'=>∃(j:Nat) (g:List ln) (U:NP),i=j/\j<=g.length/\re w0 H w' k p p1 L G g U F FP/\qj L G g/\(∀u∈zK (g.take j),uj L g u)/\t∈zK g/\∀u∈zK S,u∈zK g,fun i _=>((L.length:Int)-i).toNat,
  ⟨S.length,_,_,Uc,Sm,A10,hw1,fun u hu=>by rw[take_left]at hu;exact(hcl u hu).te,by rw[tX];simp,fun u hu=>by rw[tX];exact mem_append_left _ hu⟩,?_⟩
 rintro _ O wl hl ⟨j,g,U,rfl,hj,A,W,hcj,htj,hSj⟩
 unfold Od
 have⟨tg,mj,tl,kj,hFj⟩:=A.ic
 have hlj:tl.ay=g.length:=by rw[kj.rP.ay,zV,yX]
 refine⟨_,A.cap,k,rfl,tl,kj.box.cell rfl,fun hc=>?_,fun hc=>?_⟩
 have hlt:=vA hlj hc
 have⟨a8,at8,_,c8⟩:=yN kj.rP.gS (j:=j) (by rw[yX];exact hlt)
 have hu:(zK g)[j]' Uc=g[j].t:=by simp[zK]
 rw[hu]at c8
 have hum:g[j].t∈zK g:=mem_map.2 ⟨_,getElem_mem hlt,rfl⟩
 have hui:=W.kq _ hum
 have hLn:=W.jl
 have hL6:=hW.ok.jl
 have htk:zK (g.take<|j+1)=zK (g.take j)++[g[j].t]:=by rw[take_succ_eq_append_getElem hlt,tX]
 generalize g[j].t=u at *
 refine⟨_,A.cap,k,rfl,tl,kj.box.cell rfl,a8,at8,u,c8,?_⟩
 intro N T h11
 have hp5:=h11.gp
 have E11:aq wl T:=aj.bu h11
 have b5:=az.fi h11
 have hnh5:¬O N.block:=fun hh=>Oh<|hl.lt _ hh
 refine⟨b5.mi Sm,hnh5,?_⟩
 rintro _ rfl
 have b12:=b5.nw (v:=vi u)
 have E12:=aj.setCell (w:=T) N<|vi u
 have wl0:=A.ext.size
 have n5:¬U N.block:=fun hh=>Oh<|A.ic.lt hh
 have n5p:¬FP N.block:=fun hh=>Oh<|A.ew.lt hh
 have n51:N.block≠p1.block:=fun hh=>Oh<|af.block_lt_of_cell? wl p1 A.cap
 have A12:=(A.pure E11).KC E12 n5 n5p n51 Om
 have k12:pW (T.setCell N<|vi u) k p G g (zK g) tg mj tl:=(kj.pure E11).ext E12 fun b l e=>n5<|e▸(hFj b).2 l
 have hl12:au w0 O (T.setCell N<|vi u) O (T.setCell N<|vi u):=(hl.jg E11.dy).jg<|E12.ff fun b l e=>hnh5<|e▸l
 generalize T.setCell N (vi u)=s at *
 clear E11 E12 h11
 refine⟨fun w'=>w'.cell? p1=ab (vp<|ab k)/\az w' k [vp<|ab p,tg.v,.map<|ab mj,tl.v] 163/\az w' N [vi u] 73,⟨(A12.pure<|D s).cap,(k12.pure<|D s).box,b12.pure<|D s⟩,?_⟩
 rintro _ rfl
 have B:=A12.pure<|D s
 have C:=b12.pure<|D s
 have P:=k12.pure<|D s
 have hs17:au w0 O s.drew O s.drew:=hl12.jg (D s).dy
 generalize Y:ar L u=n at *
 have J2 : ∀a9 w, au w0 O w O w -> re w0 O w k p p1 L G g U F FP -> w.cell? N = ab (vi u) -> Row w a9 (tM n) -> ¬ U a9.block -> ¬ O a9.block ->
   Dc p1 j N a9 w0 O w (fun y'0 H' w'=>(∃(j:Nat) (g:List ln) (U:NP),y'0=j/\j<=g.length/\re w0 H' w' k p p1 L G g U F FP/\qj L G g/\(∀u∈zK (g.take j),uj L g u)/\t∈zK g/\∀u∈zK S,u∈zK g)/\((L.length:Int)-y'0).toNat<((L.length:Int)-(j:Int)).toNat) K:=by
  intro a9 w hs Aw c5 r9 n9 nh9
  have fin : ∀H' w'(S':List ln)F', re w0 H' w' k p p1 L G S' F' F FP -> qj L G S' -> (∃ M, S' = g ++ M) -> uj L S' u ->
    ((∃(j':Nat) (g:List ln) (U:NP),q6.wrap ((j:Int)+1)=j'/\j'<=g.length/\re w0 H' w' k p p1 L G g U F FP/\qj L G g/\(∀u∈zK (g.take j'),uj L g u)/\t∈zK g/\∀u∈zK S,u∈zK g)/\((L.length:Int)-q6.wrap ((j:Int)+1)).toNat<((L.length:Int)-(j:Int)).toNat):=by
   rintro H' w' S' F' A' hw' ⟨M,rfl⟩ hsh
   have hsub:∀x∈zK g,x∈zK (g++M):=fun x hx=>by unfold zK at hx|-;rw[map_append];exact mem_append_left _ hx
   rw[zI (n:=L.length) Om Om]
   refine⟨⟨j+1,_,F',rfl,Uc,A',hw',fun x hx=>?_,hsub t htj,fun x hx=>hsub x<|hSj x hx⟩,vT Om⟩
   rw[take_append_of_le_length Om,htk,mem_append,mem_singleton]at hx
   rcases hx with hx|rfl
   exact fun r y ha=>hsub y<|hcj x hx r y ha
   exact hsh
  unfold Dc
  have ck:w.cell? a9=ab (vi n.ba):=by simpa[ao.add,tM]using r9 0 (by simp[tM])
  have ca:w.cell? (a9.add 5)=ab (vi n.a):=r9 5 (by simp[tM])
  have cb:w.cell? (a9.add 6)=ab (vi n.b):=r9 6 (by simp[tM])
  refine⟨_,ck,fun hk=>?_,fun hk=>?_⟩
  have V:n.ba=4:=by simpa using hk
  have z:=ud hW hui Uc
  rw[Y]at z
  refine⟨_,ca,?_⟩
  refine(Kk k p n.a 1 u p1 N w Aw.ic Aw.cap c5 Aw.d1 (fun hh=>n5 hh) Om).mono ?_
  rintro _ w13 ⟨rfl,F1,K1,X1,f1⟩
  have A1:=Aw.step hs.lt K1 X1 f1
  have hs13:=hs.jg<|X1.ff fun b l hf=>Aw.h1 b hf l
  refine⟨rfl,X1.ff fun b l hf=>Aw.h1 b hf l,n.b,X1.cell cb (by rw[zD];exact n9),?_⟩
  have a1:tK L 1 u n.a:=.inl ⟨rfl,Uc,Uc⟩
  have a2:tK L 2 u n.b:=.inr<|.inl ⟨rfl,Uc,Uc⟩
  have hw1:=W.add (v:=⟨n.a,1,u⟩) z.1.1<|.inr ⟨Sm,a1,hum⟩
  have u1:=(Cm g ⟨n.a,1,u⟩).2 u hum
  have hw2:=hw1.add (v:=⟨n.b,2,u⟩) z.2.1<|.inr ⟨Sm,a2,u1⟩
  have p5lt:=af.block_lt_of_cell? w N c5
  have m5:¬F1 N.block:=fun hh=>(f1 _ hh).elim n5 fun hx=>Om
  refine(Kk k p n.b 2 u p1 N w13 A1.ic A1.cap (X1.cell c5 n5) A1.d1 m5<|Oh hw1.jl).mono ?_
  rintro _ w14 ⟨rfl,F2,K2,X2,f2⟩
  have A2:=A1.step hs13.lt K2 X2 f2
  refine⟨rfl,X2.ff fun b l hf=>A1.h1 b hf l,?_⟩
  refine fin O w14 _ F2 A2 hw2 ?_ ?_
  have⟨M1,e1⟩:=KJ g ⟨n.a,1,u⟩
  have⟨M2,e2⟩:=KJ (uh g ⟨n.a,1,u⟩) ⟨n.b,2,u⟩
  exact⟨M1++M2,Uc⟩
  rintro r y (⟨_,_,h3⟩|⟨_,_,h3⟩|⟨_,h2,_⟩)
  rw[Y]at h3;subst h3
  exact(Cm _ ⟨n.b,2,u⟩).2 _ (Cm g ⟨n.a,1,u⟩).1
  rw[Y]at h3;subst h3
  exact(Cm _ ⟨n.b,2,u⟩).1
  rw[Y,V]at h2;cases h2
  have V:n.ba≠4:=by simpa using hk
  rintro y1 rfl
  have hy:(cond ((n.ba:Int)==7) ((n.ba:Int)==7)<|cond ((n.ba:Int)==8) ((n.ba:Int)==8)<|(n.ba:Int)==9)=qH n.ba:=by
   unfold qH;cases h7:(n.ba==7)<;>cases h8:(n.ba==8)<;>simp
  rw[hy]
  refine⟨fun hs7=>?_,fun hs7=>?_⟩
  intro H3 w15 E
  have A15:=Aw.bh E
  have z:=xo hW hui Uc
  rw[Y]at z
  have r15:=L0 r9 nh9 E
  have ca15:w15.cell? (a9.add 5)=ab (vi n.a):=r15 5 Sm
  have c515:=ND c5 hnh5 E
  refine⟨n.a,ca15,?_⟩
  refine(Kk k p n.a 3 u p1 N w15 A15.ic A15.cap c515 A15.d1 n5 Om).mono ?_
  rintro _ w16 ⟨rfl,F1,K1,X1,f1⟩
  have A1:=A15.step E.lt K1 X1 f1
  refine⟨rfl,X1.ff fun b l hf=>A15.h1 b hf l,?_⟩
  have a3:tK L 3 u n.a:=.inr<|.inr ⟨rfl,Uc,Uc⟩
  refine fin H3 w16 _ F1 A1 (W.add (v:=⟨n.a,3,u⟩) z.1<|.inr ⟨Sm,a3,hum⟩) (KJ g ⟨n.a,3,u⟩) ?_
  rintro r y (⟨_,h2,_⟩|⟨_,h2,_⟩|⟨_,_,h3⟩)
  rw[Y]at h2;exact absurd h2 V
  rw[Y]at h2;exact absurd h2 V
  rw[Y]at h3;subst h3
  exact(Cm g ⟨n.a,3,u⟩).1
  intro H3 w15 E
  refine fin H3 w15 g U (Aw.bh E) W ⟨[],Sm⟩ ?_
  rintro r y (⟨_,h2,_⟩|⟨_,h2,_⟩|⟨_,h2,_⟩)
  rw[Y]at h2;exact absurd h2 V
  rw[Y]at h2;exact absurd h2 V
  rw[Y,hs7]at h2;cases h2
 refine⟨_,fun w' h=>h.1,k,rfl,_,fun w' h=>h.2.1.dj,_,fun w' h=>h.2.2.dj,?_,?_⟩
 refine(wh p u s.drew B.ew hW.ok).mono ?_
 rintro _ w18 ⟨nk,nf,nt,nu,nx,na,nb,ok,rfl,⟨Z,_⟩,X⟩
 rw[Y]at Z
 refine⟨_,_,_,_,_,_,_,_,rfl,⟨(B.pure X).cap,P.box.pure X,C.pure X⟩,X.dy,?_⟩
 intro p6 w19 h19
 have hp6:=h19.gp
 have o:=X.trans<|aj.bu h19
 have b6:=az.fi h19
 have z18:=X.size
 have z12:wl.heap.size<=s.drew.heap.size:=Oh<|C.lt
 have R:¬O p6.block:=fun hh=>Oh<|hl.lt _ hh
 refine⟨⟨(B.pure o).cap,P.box.pure o,C.pure o⟩,b6.uy (n:=7) Sm,R,?_⟩
 rintro _ rfl
 have I:=aj.ib w19 p6 [(vi nk),(vi nf),(vi nt),(vu nu),(vs nx),(vi na),(vi nb)]
 have b20:=b6.store (vs:=[(vi nk),(vi nf),(vi nt),(vu nu),(vs nx),(vi na),(vi nb)]) rfl
 have A19:=B.pure o
 have n6:¬U p6.block:=fun hh=>Oh<|B.ic.lt hh
 have A20:=A19.KC I n6 (fun hh=>Oh<|B.ew.lt hh) (fun hh=>Uc) Uc
 have k20:=(P.box.pure o).ext I fun e=>Oh P.box.lt
 have Q:=(C.pure o).ext I fun e=>Oh C.lt
 have hs20:au w0 O _ O _:=(hs17.jg o.dy).jg<|I.ff fun b l e=>R<|e▸l
 exact⟨⟨A20.cap,k20,Q⟩,J2 p6 _ hs20 A20 Q.dj (by rw[<-Z];exact b20.row) n6 R⟩
 intro p7 w21 h21
 have hp6:=h21.gp
 have E21:aq s.drew w21:=aj.bu h21
 have b7:=az.fi h21
 refine⟨⟨(B.pure E21).cap,P.box.pure E21,C.pure E21⟩,?_⟩
 refine(wh p u w21 (B.pure E21).ew hW.ok).mono ?_
 rintro _ w22 ⟨nk,nf,nt,nu,nx,na,nb,ok,rfl,⟨Z,_⟩,E22⟩
 rw[Y]at Z
 have o:=E21.trans E22
 have z12:wl.heap.size<=s.drew.heap.size:=Oh<|C.lt
 have R:¬O p7.block:=fun hh=>Oh<|hl.lt _ hh
 have b6:=b7.pure E22
 refine⟨_,_,_,_,_,_,_,_,rfl,⟨(B.pure o).cap,P.box.pure o,C.pure o⟩,E22.dy,b6.uy (n:=7) Sm,R,?_⟩
 rintro _ rfl
 have I:=aj.ib w22 p7 [(vi nk),(vi nf),(vi nt),(vu nu),(vs nx),(vi na),(vi nb)]
 have b20:=b6.store (vs:=[(vi nk),(vi nf),(vi nt),(vu nu),(vs nx),(vi na),(vi nb)]) rfl
 have A19:=B.pure o
 have n6:¬U p7.block:=fun hh=>Oh<|B.ic.lt hh
 have A20:=A19.KC I n6 (fun hh=>Oh<|B.ew.lt hh) (fun hh=>Uc) Uc
 have k20:=(P.box.pure o).ext I fun e=>Oh P.box.lt
 have Q:=(C.pure o).ext I fun e=>Oh C.lt
 have hs20:au w0 O _ O _:=(hs17.jg o.dy).jg<|I.ff fun b l e=>R<|e▸l
 exact⟨⟨A20.cap,k20,Q⟩,J2 p7 _ hs20 A20 Q.dj (by rw[<-Z];exact b20.row) n6 R⟩
 have hge:=vH hlj hj hc
 subst hge
 rw[take_length]at hcj
 exact hK g U wl A.ic ⟨W,hcj,htj,hSj⟩ A.ext A.bf
def xL(L:bw)(n:Int):Int×Bool:=match find L (zQ n)with
 |some i=>((i:Int)+1,ai)
 |none=>(0,ak)
def QR{L n i}(h:find L n=ab i):i<L.length/\ar L ((i:Int)+1)=n:=by
 unfold find at h;rw[List.findIdx?_eq_some_iff_getElem]at h;have⟨hi,h1,_⟩:=h;refine⟨hi,?_⟩;rw[qO hi];simpa using h1
def DB{L n}(h:(xL L n).2=ai):bj L (xL L n).1=ai/\ar L (xL L n).1=zQ n/\∃i,find L (zQ n)=ab i/\(xL L n).1=(i:Int)+1:=by
 unfold xL at h|-;cases a:find L (zQ n)with
 |none=>rw[a]at h;cases h
 |some i =>
  have⟨hi,b⟩:=QR a
  exact⟨zG.2 ⟨Uc,Uc⟩,b,i,rfl,rfl⟩
def jZH{L n i}(h:find L (zQ n)=ab i):xL L n=((i:Int)+1,ai):=by unfold xL;rw[h]
def iw.pT{L K t}(h:iw L K t):K t\/tw (ar L t).ba=ai\/((ar L t).ba=4/\iw L K (ar L t).a/\iw L K (ar L t).b)\/((ar L t).ba=5/\iw L K (ar L t).a) \/
  (qH (ar L t).ba=ai/\iw L K (ar L t).a/\(xL L<|tO<|ar L t).2=ai/\K (xL L<|tO<|ar L t).1):=by
 cases h with
 |bM h=>exact .inl h
 |free h=>exact .inr<|.inl h
 |ru h a b=>exact .inr<|.inr<|.inl ⟨h,a,b⟩
 |ue h a=>exact .inr<|.inr<|.inr<|.inl ⟨h,a⟩
 |uk h a c d=>rw[jZH c];exact .inr<|.inr<|.inr<|.inr ⟨h,a,rfl,d⟩
def iw.signed{L K t}(h:qH (ar L t).ba=ai)(d:iw L K (ar L t).a)(f:(xL L<|tO<|ar L t).2=ai)(b:K (xL L<|tO<|ar L t).1):iw L K t:=by
 have⟨_,_,i,c,e⟩:=DB f;rw[e]at b;exact .uk h d c b
def LO{k}(h:qH k=ai):k≠4/\k≠5/\k≠6/\tw k=ak:=by
 simp only[qH,Bool.or_eq_true,beq_iff_eq]at h;rcases h with(rfl|rfl)|rfl<;>decide
def xXq{L}(h:Wf L){t}(ht:bj L t=ai):tw (ar L t).ba=ai\/(ar L t).ba=4\/(ar L t).ba=5\/(ar L t).ba=6\/qH (ar L t).ba=ai:=by
 have h1:=(h.dr ht).1;unfold zM at h1;simp only at h1;split at h1;cases h1;rename_i hh;simp only[Bool.or_eq_true,Bool.not_eq_true',not_or]at hh;have a:qe (ar L t).ba=ai:=Uc;simp only[qe,Bool.and_eq_true,decide_eq_true_eq]at a;simp only[tw,qH,Bool.or_eq_true,beq_iff_eq];omega
inductive mw(L:bw):Int->Int->Prop
 |refl (t:Int):mw L t t
 |ku {t u k:Int}:mw L t u->k∈zB (ar L u)->mw L t k
def mw.trans{L a b c}(h:mw L a b)(k:mw L b c):mw L a c:=by
 induction k with
 |refl=>exact h
 |ku _ e d=>exact .ku d e
def A8{n}(h:n.ba=4\/n.ba=5\/qH n.ba=ai):n.a∈zB n:=by
 simp only[qH,Bool.or_eq_true,beq_iff_eq]at h;rcases h with h|h|(h|h)|h<;>simp[zB,h,fl]
def O6{n}(h:n.ba=4):n.b∈zB n:=by simp[zB,h,fl]
def pw(S:List ln)(t:Int):Nat:=(zK S).idxOf t+if t∈zK S then 0 else t.toNat
def Ky{S t}(h:t∈zK S):pw S t<S.length:=by
 have:=List.idxOf_lt_length_iff.2 h;unfold pw;rw[bt h];rw[yX]at this;omega
def GA{S t}(h:t∉zK S):pw S t=S.length+t.toNat:=by
 unfold pw;rw[aw h,List.idxOf_eq_length h,yX]
def DO{S t a}(h:t∉zK S)(c:1<=a)(d:a<t):pw S a<pw S t:=by
 rw[GA h];by_cases b:a∈zK S;have:=Ky b;omega;rw[GA b];omega
def Vi{S t a}(h:t∉zK S)(ht:1<=t)(b:a∈zK S):pw S a<pw S t:=by
 rw[GA h];have:=Ky b;omega
def XX{L G S}(h:qj L G S){t r f}(o:(t,(r,f))∈S.map fun v=>(v.t,(v.mr,v.cj))):(r=0/\f=0/\t∈G)\/(r≠0/\tK L r f t/\f∈zK S/\pw S f<pw S t):=by
 have⟨v,d,e⟩:=List.mem_map.1 o;obtain⟨i,hi,rfl⟩:=List.getElem_of_mem d;simp only[ei]at e;obtain⟨rfl,rfl,rfl⟩:=e;rcases h.wg i hi with n|⟨h1,h2,h3⟩;exact .inl n;right;have a:S[i].cj∈zK S:=by
  have⟨y,g,e⟩:=List.mem_map.1 h3;exact List.mem_map.2 ⟨y,List.mem_of_mem_take g,e⟩
 refine⟨h1,h2,a,?_⟩;have b:S[i].t∈zK S:=List.mem_map.2 ⟨_,d,rfl⟩;have c:(zK S).idxOf S[i].t=i:=by
  have⟨j,p,l,m⟩:=HO b;rw[m];have k:(zK S)[j]' Uc=(zK S)[i]'(by rw[yX];exact hi):=by simp[zK,l]
  exact(List.getElem_inj h.qu).1 k
 have q:(zK S).idxOf S[i].cj<i:=by
  have e:zK S=zK (S.take i)++zK (S.drop i):=by unfold zK;rw[<-List.map_append,List.take_append_drop]
  rw[e,List.idxOf_append,bt h3];have:=List.idxOf_lt_length_iff.2 h3;rw[yX,List.length_take]at this;omega
 unfold pw;rw[bt a,bt b,c];omega
def jVO{L r u t}(a:r=1\/r=2\/r=3):HF L r u t=ai↔tK L r u t:=by
 unfold HF tK;rcases a with rfl|rfl|rfl<;>simp
def tK.mr{L r u t}(h:tK L r u t):r=1\/r=2\/r=3:=by
 rcases h with⟨h,_⟩|⟨h,_⟩|⟨h,_⟩;exact .inl h;exact .inr<|.inl h;exact .inr<|.inr h
def wH(l:List mf):List (Int×Int):=l.zipIdx.map fun p=>(p.1.t,(p.2:Int))
def Oq(l):(wH l).map Prod.fst=l.map mf.t:=by
 unfold wH;rw[List.map_map];show l.zipIdx.map (fun p=>p.1.t)=_;rw[show(fun p:mf×Nat=>p.1.t)=mf.t∘Prod.fst from rfl,<-List.map_map,List.zipIdx_map_fst]
def Sa(l s):wH (l++[s])=wH l++[(s.t,(l.length:Int))]:=by simp[wH,List.zipIdx_append]
def Xi{l t v}(h:SE.iv (wH l) t=ab v):∃i,∃hi:i<l.length,v=i/\l[i].t=t:=by
 have:=tV h;have⟨q,a,e⟩:=List.mem_map.1 this;have⟨s,i⟩:=q;rw[List.mem_zipIdx_iff_getElem?]at a;have⟨hi,b⟩:=List.getElem?_eq_some_iff.1 a;simp only[ei]at e;exact⟨i,hi,e.2.symm,Uc⟩
def Pk{l t}:SE.iv (wH l) t=bo↔t∉l.map mf.t:=by rw[uQ,Oq]
structure rU(L:bw)(G:List Int)(K:Int->Prop)(l:List mf)(B:List Int):Prop where
 qb:∀i (hi:i<l.length),qb L G (l.take i) l[i]=ai
 nd:(l.map mf.t).Nodup
 Aq:∀s∈l,iw L K s.t
 Bf:∀t∈B,¬iw L K t
def rU.nil(L G K):rU L G K [] []:=⟨fun i hi=>Uc,Sm,Sm,Sm⟩
def rU.te{L G K l B}(h:rU L G K l B){s}(d:Proofs.qb L G l s=ai)(f:s.t∉l.map mf.t)(c:iw L K s.t):rU L G K (l++[s]) B:=by
 refine⟨fun i hi=>?_,?_,fun x hx=>?_,h.Bf⟩;rw[List.length_append]at hi;simp only[List.length_cons,List.length_nil]at hi;by_cases a:i<l.length;rw[List.getElem_append_left a,List.take_append_of_le_length Om];exact h.qb i a;grind;rw[List.map_append,List.nodup_append];exact⟨h.nd,Sm,fun x hx y b e=>Uc⟩;rcases List.mem_append.1 hx with hx|hx;exact h.Aq x hx;grind
def rU.jck{L G K l B}(h:rU L G K l B){t}(ht:¬iw L K t):rU L G K l (B++[t]):=
 ⟨h.qb,h.nd,h.Aq,fun x hx=>(List.mem_append.1 hx).elim (h.Bf x) Gd⟩
def WU{L G cd s}(h:qb L G cd s=ai):bj L s.t=ai:=by
 unfold qb at h;split at h;cases h;grind
def rU.jl{L G K l B}(h:rU L G K l B):l.length<=L.length:=by
 have:=xD h.nd (fun t ht=>by
  obtain⟨s,hs,rfl⟩:=List.mem_map.1 ht;obtain⟨i,hi,rfl⟩:=List.getElem_of_mem hs;exact WU<|h.qb i hi)
 simpa using this
def Bk{l}{i:Nat}(hi:i<l.length):ry l (i:Int)=l[i].t:=by simp[ry,hi]
def Bg{n i}(h:i<n):ahead n (i:Int)=ai:=by simp[ahead];omega
def Rg{l M}{i:Nat}(hi:i<l.length):ry (l++M) (i:Int)=l[i].t:=by
 rw[Bk Gd,List.getElem_append_left hi]
def nV(G:List Int)(t:Int):List Int:=if t∈G then G else G++[t]
def rh(L:bw)(G:List Int)(t:Int):List Int:=if bj L t=ai then nV G t else G
def BF{G t x}:x∈nV G t↔x∈G\/x=t:=by
 unfold nV;split;grind;simp
def zMM{G t}(h:G.Nodup):(nV G t).Nodup:=by
 unfold nV;split;exact h;grind
def sE(L:bw)(S:List ln)(t:Int):Int×Int×Bool×Bool:=
 if bj L t=ak then(0,0,ak,ak)
 else if tw (ar L t).ba=ai then(0,0,ai,ai)
 else if(ar L t).ba=4 then((ar L t).a,(ar L t).b,ak,ai)
 else if(ar L t).ba=5 then((ar L t).a,0,ak,ai)
 else if(ar L t).ba=6 then(0,0,ak,ak)
 else((ar L t).a,(xL L<|tO<|ar L t).1,ak,(xL L<|tO<|ar L t).2&&decide ((xL L<|tO<|ar L t).1∈zK S))
def Hg(p:ao)(n:gP)(w0:af){L:bw}{F:NP}(hP:zH w0 p L F)(hok:Ok L):
  cl 127 #[vp<|ab p,px n] w0<|XE fun r ok w'=>(match find L n with|some i=>r=(i:Int)+1/\ok=ai|none=>r=0/\ok=ak)/\aq w0 w':=by
 have⟨k,f,t,u,x,a,b⟩:=n
 generalize y:(⟨k,f,t,u,x,a,b⟩:gP)=n
 have d:(bk.agg #[vi k,vi f,vi t,vu u,vs x,vi a,vi b])=px n:=by rw[<-y];rfl
 rw[<-d]
 refine Uo _ _ _ _ _ _ _ _ w0 _ ?_
 intro z h h1
 have b1:=az.fi h1
 have q:aq w0 h:=aj.bu h1
 refine Br.f rfl ?_
 rintro _ rfl
 have o:aq h h.drew:=aj.drew h
 have l:=q.trans o
 have⟨s,m,hS,A⟩:=hP.pure l
 refine⟨p,rfl,_,hS.box.cell (i:=1) rfl,_,_,_,_,_,_,_,(b1.pure o).row,?_⟩
 simp only[d]
 rcases hS.map.lookup (P:=prog) (T:=157) (E:=73) underlying157 EJ FU ⟨n,rfl⟩ (zeroValue73 _) ai with⟨g,c⟩|⟨i,v,hi,c⟩
 refine⟨_,_,c,?_,l⟩
 rw[zm<|Ox g];exact⟨rfl,rfl⟩
 obtain⟨e,w,j,rfl⟩:=Qv hi
 refine⟨_,_,c,?_,l⟩
 rw[<-j,IQ hok w];exact⟨Sm,rfl⟩
abbrev wG(p:ao)(L:bw)(F:NP)(w:af)(n:gP)(e:fb)(w':af):Prop:=
 ∃r1,∃r2,e=.returned (.tuple #[vi r1,vi r2])/\((r1,r2)=((bz L n).1,(bz L n).2.1)/\∃F',zH w' p (bz L n).2.2 F'/\aj F w w'/\∀b,F' b->F b\/w.heap.size<=b)
section
variable (p:ao) (w0:af) {L:bw} {F:NP} (hP:zH w0 p L F) (hok:Ok L)
include hP hok
def jbN(n):cl 227 #[vp<|ab p,vu n] w0 (wG p L F w0 ⟨2,0,0,n,⟨#[]⟩,0,0⟩):=by
 refine jcB _ _ w0 (fun r1 r2 w'=>(r1,r2)=((bz L ⟨2,0,0,n,⟨#[]⟩,0,0⟩).1,(bz L ⟨2,0,0,n,⟨#[]⟩,0,0⟩).2.1)/\∃F',zH w' p (bz L ⟨2,0,0,n,⟨#[]⟩,0,0⟩).2.2 F'/\aj F w0 w'/\∀b,F' b->F b\/w0.heap.size<=b) ?_;refine(sV p _ _ _ _ _ _ _ w0 hP hok).mono ?_;rintro _ a ⟨r1,r2,rfl,h⟩;exact⟨r1,r2,rfl,h⟩
def jaJ(n):cl 225 #[vp<|ab p,vi n] w0 (wG p L F w0 ⟨1,n,0,0,⟨#[]⟩,0,0⟩):=by
 refine Y6 _ _ w0 (fun r1 r2 w'=>(r1,r2)=((bz L ⟨1,n,0,0,⟨#[]⟩,0,0⟩).1,(bz L ⟨1,n,0,0,⟨#[]⟩,0,0⟩).2.1)/\∃F',zH w' p (bz L ⟨1,n,0,0,⟨#[]⟩,0,0⟩).2.2 F'/\aj F w0 w'/\∀b,F' b->F b\/w0.heap.size<=b) ?_;refine(sV p _ _ _ _ _ _ _ w0 hP hok).mono ?_;rintro _ a ⟨r1,r2,rfl,h⟩;exact⟨r1,r2,rfl,h⟩
def Xo(a b):cl 232 #[vp<|ab p,vi a,vi b] w0 (wG p L F w0 ⟨4,0,0,0,⟨#[]⟩,a,b⟩):=by
 refine jas _ _ _ w0 (fun r1 r2 w'=>(r1,r2)=((bz L ⟨4,0,0,0,⟨#[]⟩,a,b⟩).1,(bz L ⟨4,0,0,0,⟨#[]⟩,a,b⟩).2.1)/\∃F',zH w' p (bz L ⟨4,0,0,0,⟨#[]⟩,a,b⟩).2.2 F'/\aj F w0 w'/\∀b,F' b->F b\/w0.heap.size<=b) ?_;refine(sV p _ _ _ _ _ _ _ w0 hP hok).mono ?_;rintro _ c ⟨r1,r2,rfl,h⟩;exact⟨r1,r2,rfl,h⟩
def jbQ(n a):cl 241 #[vp<|ab p,vi n,vi a] w0 (wG p L F w0 ⟨7,n,0,0,⟨#[]⟩,a,0⟩):=by
 refine Y2 _ _ _ w0 (fun r1 r2 w'=>(r1,r2)=((bz L ⟨7,n,0,0,⟨#[]⟩,a,0⟩).1,(bz L ⟨7,n,0,0,⟨#[]⟩,a,0⟩).2.1)/\∃F',zH w' p (bz L ⟨7,n,0,0,⟨#[]⟩,a,0⟩).2.2 F'/\aj F w0 w'/\∀b,F' b->F b\/w0.heap.size<=b) ?_;refine(sV p _ _ _ _ _ _ _ w0 hP hok).mono ?_;rintro _ c ⟨r1,r2,rfl,h⟩;exact⟨r1,r2,rfl,h⟩
def Wa(a):cl 234 #[vp<|ab p,vi a] w0 (wG p L F w0 ⟨5,0,0,0,⟨#[]⟩,a,0⟩):=by
 refine jcV _ _ w0 (fun r1 r2 w'=>(r1,r2)=((bz L ⟨5,0,0,0,⟨#[]⟩,a,0⟩).1,(bz L ⟨5,0,0,0,⟨#[]⟩,a,0⟩).2.1)/\∃F',zH w' p (bz L ⟨5,0,0,0,⟨#[]⟩,a,0⟩).2.2 F'/\aj F w0 w'/\∀b,F' b->F b\/w0.heap.size<=b) ?_;refine(sV p _ _ _ _ _ _ _ w0 hP hok).mono ?_;rintro _ c ⟨r1,r2,rfl,h⟩;exact⟨r1,r2,rfl,h⟩
def jbc(n):cl 99 #[vp<|ab p,vi n] w0 (wG p L F w0 ⟨6,n,0,0,⟨#[]⟩,0,0⟩):=by
 refine Zp _ _ w0 (fun r1 r2 w'=>(r1,r2)=((bz L ⟨6,n,0,0,⟨#[]⟩,0,0⟩).1,(bz L ⟨6,n,0,0,⟨#[]⟩,0,0⟩).2.1)/\∃F',zH w' p (bz L ⟨6,n,0,0,⟨#[]⟩,0,0⟩).2.2 F'/\aj F w0 w'/\∀b,F' b->F b\/w0.heap.size<=b) ?_;refine(sV p _ _ _ _ _ _ _ w0 hP hok).mono ?_;rintro _ a ⟨r1,r2,rfl,h⟩;exact⟨r1,r2,rfl,h⟩
end
def pW.TU{w k p G S ks sg sl m}(h:pW w k p G S ks sg m sl){t q w1}(o:fp w (.cells #[vi t] 73) q w1)(x:G.length<=1000000):∃s1 f,(cm #[46,46] 46 #[sg.v,(Sl.mk (ab q) 1 1).v]).run prog w1=.ok s1.v f/\aj sg.bg w1 f/\zJ f (k.add 1) /\
  pW (f.setCell (k.add 1) s1.v) k p (G++[t]) S ks s1 m sl/\aj (KF k sg m sl) w (f.setCell (k.add 1) s1.v)/\∀b,KF k s1 m sl b->KF k sg m sl b\/w.heap.size<=b:=by
 have l:aq w w1:=aj.bu o
 have h1:=h.pure l
 have⟨s1,f,s,u,g,a⟩:=h1.oe.append (P:=prog) (ty:=46) (c:=1) ux (r:=[vi t]) (az.fi o).row rfl rfl (by rw[zV];omega) (by rw[zV];simp[maxLen];omega)
 have j:=h1.box.ext g h1.n2
 have d:∀b,s1.bg b->sg.bg b\/w.heap.size<=b:=fun b h=>(a b h).imp_right fun h=>Oh l.size
 have n:¬s1.bg k.block:=fun hh=>(d _ hh).elim h.n2 fun hh=>Oh h.box.lt
 have nm:¬s1.bg m:=fun hh=>(d _ hh).elim h.n4 fun hh=>Oh h.bM.lt
 have i:=aj.setCell (w:=f) (k.add 1) s1.v
 rw[zD]at i
 refine⟨s1,f,s,g,j.im Sm,⟨j.set 1 s1.v,by rw[show fv (G++[t])=fv G++[[vi t]] by simp[fv]];exact u.ext i fun b a e=>n<|e▸a,((h1.bM.ext g h.n4).ext i h.n1),((h1.rP.ext g fun b h2 h1=>h.n6 b h1 h2).ext i fun b a e=>h.n3<|e▸a),h.n1,n,h.n3,nm,h.n5,fun b h1 h2=>(d b h1).elim (fun h1=>h.n6 b h1 h2) fun hh=>Oh<|h.rP.lt h2⟩,?_,?_⟩
 exact((l.pure (F:=KF k sg m sl)).trans<|g.mono fun b _ a=>.inr<|.inl a).trans (i.mono fun b _ a=>.inl a)
 rintro b (a|a|a|a)
 exact .inl<|.inl a
 exact(d b a).imp_left fun h=>.inr<|.inl h
 exact .inl<|.inr<|.inr<|.inl a
 exact .inl<|.inr<|.inr<|.inr a
def IA(k p t w0){L G S F FP}(h:qC w0 k p G S F)(hP:zH w0 p L FP)(B:Wf L)(X:∀b,F b->¬ FP b)(i:rK L G S):
  cl 70 #[vp<|ab k,vi t] w0<|XB fun r w'=>r=(if bj L t=ai then 0 else 51)/\∃S' F',qC w' k p (rh L G t) S' F'/\rK L (rh L G t) S'/\aj F w0 w'/\∀b,F' b->F b\/w0.heap.size<=b:=by
 suffices key:∀K,(∀S' F' w',qC w' k p (rh L G t) S' F'->rK L (rh L G t) S'->aj F w0 w'->(∀b,F' b->F b\/w0.heap.size<=b)->K (if bj L t=ai then 0 else 51) w')->Ka (ab k) t w0 K from
  jcC _ _ w0 _<|key _ Gd
 intro K v
 unfold Ka
 have⟨sg,m,sl,g,A⟩:=h
 refine Br.f rfl ⟨k,rfl,_,g.box.dj,?_⟩
 refine(wh p t w0 hP B.ok).mono ?_
 rintro _ w1 ⟨nk,nf,nt,nu,nx,na,nb,ok,rfl,⟨_,rfl⟩,H⟩
 refine⟨_,_,_,_,_,_,_,_,rfl,H.dy,fun R=>?_,fun R=>?_⟩
 have d:bj L t=ak:=by simpa using R
 intro l o c
 have j:=H.bh c
 have E:rh L G t=G:=by unfold rh;rw[aw<|by simp[d]]
 have:=v S F o (by rw[E];exact⟨sg,m,sl,g.pure j,A⟩) Uc j.pure fun b a=>.inl a
 simpa[d]using this
 have d:bj L t=ai:=Uc
 have E:rh L G t=nV G t:=by unfold rh;rw[bt d]
 rw[E]at v
 simp only[d,if_true]at v
 refine⟨k,rfl,?_⟩
 intro l o c
 have j:=H.bh c
 have u:=g.pure j
 have nh:∀b,b<w0.heap.size->¬l b:=fun b a hh=>Oh<|c.old b hh
 have Y:G.length<=65536:=by have:=xD i.Gi fun t ht=>i.kq t<|i.oe t ht;have:=B.ok.jl;omega
 have s:∀w F',qC w k p (nV G t) S F'->aj F w0 w->(∀b,F' b->F b\/w0.heap.size<=b)->au w0 l w l w->(∀b,F' b->¬l b)->cl 134 #[vp<|ab k,vi t,.agg #[vi 0,vi 0]] w (XG fun y=>av l w y/\K 0 y):=by
  intro w F' hw I hf hs hh;have Q:∀x∈G,x∈nV G t:=fun x hx=>BF.2<|.inl hx;have O:=hP.ext I fun b a M=>X b M a;refine(zAB k p t 0 0 w hw O B (fun b a W=>?_) (i.toqj.mono Q) i.wt d<|.inl ⟨rfl,rfl,BF.2<|.inr rfl⟩).mono ?_;rcases hf b a with h1|h1;exact X b h1 W;have:=hP.lt W;omega;rintro _ y ⟨rfl,S',F2,K2,⟨q1,q2,q3,q4⟩,T,f2⟩;have z:=I.size;refine⟨rfl,T.ff fun b a hx=>hh b hx a,v S' F2 y K2 ⟨q1,q2,fun x hx=>?_,zMM i.Gi⟩ (I.ft T Gd) fun b a=>?_⟩;rcases BF.1 hx with hx|rfl;exact q4 x<|i.oe x hx;exact q3;grind
 refine⟨_,u.box.cell rfl,?_⟩
 refine(Xv sg G t o u.oe.gS Om).mono ?_
 rintro _ o ⟨r,rfl,rfl,rfl⟩
 refine⟨_,rfl,av.refl _,fun n=>?_,fun n=>?_⟩
 have J:t∉G:=by simpa using n
 have e:nV G t=G++[t]:=aw J
 refine⟨k,rfl,_,u.box.cell rfl,?_⟩
 intro q w5 U
 have⟨s1,w6,P,Z,C,k6,E6,f6⟩:=u.TU U Om
 have D:=c.jj.jg (aj.bu U:aq o w5).dy
 have N:∀b,sg.bg b->¬l b:=fun b a=>nh b<|g.lt<|.inr<|.inl a
 have V:=Z.ff fun b a hx=>N b hx a
 refine⟨s1,w6,P,V,k,rfl,C,by rw[zD];exact nh _ g.box.lt,?_⟩
 rintro _ rfl
 have z3:=j.size
 refine s _ (KF k s1 m sl) (by rw[e];exact⟨s1,m,sl,k6,fun b=>Iff.rfl⟩) ((j.pure (F:=F)).trans<|E6.mono fun b _ a=>(A b).2 a) Gd ((D.jg V).jg<|av.setCell (by rw[zD];exact nh _ g.box.lt)) fun b a hh=>?_
 rcases f6 b a with h1|h1
 exact nh b (g.lt h1) hh
 have:=c.lt b hh;omega
 have hG:t∈G:=by simpa using n
 have e:nV G t=G:=bt hG
 exact s o F (by rw[e];exact⟨sg,m,sl,u,A⟩) j.pure (fun b a=>.inl a) c.jj fun b a=>nh b<|g.lt<|(A b).1 a
def zAC(k p t w0){L G S F FP}(h:qC w0 k p G S F)(hP:zH w0 p L FP)(I:Wf L):
  cl 161 #[vp<|ab k,vi t] w0<|XJ fun r1 r2 r3 O w'=>(r1,r2,r3,O)=sE L S t/\aq w0 w':=by
 refine jbb _ _ w0 _ ?_
 have⟨sg,m,sl,x,hF⟩:=h
 refine⟨k,rfl,_,x.box.dj,?_⟩
 refine(wh p t w0 hP I.ok).mono ?_
 rintro _ w1 ⟨c,nf,K,nu,nx,M,R,ok,rfl,⟨hn,rfl⟩,n⟩
 refine⟨_,_,_,_,_,_,_,_,rfl,n.dy,fun Q=>?_,fun Q=>?_⟩
 intro H1 w3 H
 have r:bj L t=ak:=Uc
 exact⟨by unfold sE;rw[bt r],n.bh H⟩
 have r:=Uc
 have hi:¬bj L t=ak:=Uc
 rintro y1 rfl
 have W:(cond ((c:Int)==1) ((c:Int)==1)<|cond ((c:Int)==2) ((c:Int)==2)<|(c:Int)==3)=tw c:=by
  unfold tw;cases(c==1)<;>cases(c==2)<;>simp
 rw[W]
 have f:(ar L t).ba=c:=Uc
 have A:(ar L t).cj=nf:=Uc
 have B:(ar L t).to=K:=Uc
 have C:(ar L t).a=M:=Uc
 have Z:(ar L t).b=R:=Uc
 refine⟨fun h1=>?_,fun h1=>⟨fun J=>?_,fun J=>⟨fun U=>?_,fun U=>⟨fun h6=>?_,fun h6=>?_⟩⟩⟩⟩
 intro w E e
 exact⟨by unfold sE;rw[aw hi,f,bt h1],n.bh e⟩
 intro w E e
 have d:c=4:=Uc
 exact⟨by unfold sE;rw[aw hi,f,aw<|by simp[h1],bt d,C,Z],n.bh e⟩
 intro w E e
 have d:¬c=4:=Uc
 have g:c=5:=Uc
 exact⟨by unfold sE;rw[aw hi,f,aw<|by simp[h1],aw d,bt g,C],n.bh e⟩
 intro w E e
 have d:¬c=4:=Uc
 have g:¬c=5:=Uc
 have o:c=6:=Uc
 exact⟨by unfold sE;rw[aw hi,f,aw<|by simp[h1],aw d,aw g,bt o],n.bh e⟩
 have d:¬c=4:=by simpa using J
 have g:¬c=5:=Uc
 have o:¬c=6:=Uc
 intro H3 N z
 have D:aq w0 N:=n.bh z
 unfold Hw
 have Y:=x.pure D
 have v:(cond ((c:Int)==9) K nf)=tO (ar L t):=by
  unfold tO;rw[f,A,B];by_cases h9:c=9;subst h9;simp;grind
 rw[v]
 have V:sE L S t=(M,(xL L<|tO<|ar L t).1,ak,(xL L<|tO<|ar L t).2&&decide ((xL L<|tO<|ar L t).1∈zK S)):=by
  unfold sE;rw[aw hi,f,aw Uc,aw d,aw g,aw o,C]
 refine⟨k,rfl,_,Y.box.dj,?_⟩
 refine(Hg p (zQ<|tO<|ar L t) N (hP.pure D) I.ok).mono ?_
 rintro _ j ⟨r2,r3,rfl,l,s⟩
 refine⟨r2,r3,rfl,s.dy,?_⟩
 have X:aq j j.drew:=aj.drew j
 refine⟨fun _=>True,trivial,?_⟩
 rintro _ rfl
 have u:=(D.trans s).trans X
 have y:xL L (tO<|ar L t)=(r2,r3):=by
  unfold xL;cases P:find L (zQ<|tO<|ar L t)with
  |none=>rw[P]at l;simp only at l;rw[l.1,l.2]
  |some i=>rw[P]at l;simp only at l;rw[l.1,l.2]
 rw[V,y]
 refine⟨fun h=>?_,fun h=>?_⟩
 subst h
 refine(Mk k p r2 j.drew ⟨sg,m,sl,x.pure u,hF⟩).mono ?_
 rintro _ T ⟨O,rfl,rfl,q⟩
 exact⟨_,rfl,trivial,q.dy,Sm,u.trans q⟩
 grind
structure Op where
 code:Int
 a:Int
 b:Int
 num:Int
 cf:ByteArray
deriving DecidableEq
abbrev rC:=Int×Int×bw
def jo(M:List Int)(i:Int):Option Int:=if i<0 then bo else M[i.toNat]?
def jt(L:bw)(M:List Int)(i:Int):gP:=match jo M i with|none=>uZ|some t=>ar L t
def tz(n:Int):Int:=cond (decide (n>2147483648)) (-1)<|q6.wrap n
def pG(L:bw):rC:=(0,90,L)
def vV(L:bw)(M:List Int)(o:Op)(mk:Int->Int->gP):rC:=
 match jo M o.a with
 |none=>pG L
 |some a=>if(jt L M o.b).ba=6 then bz L (mk (jt L M o.b).cj a)else pG L
def uq(L:bw)(M:List Int)(o:Op):rC:=
 match jo M o.a with
 |none=>pG L
 |some a=>match jo M o.b with
  |none=>pG L
  |some b=>bz L ⟨4,0,0,0,⟨#[]⟩,a,b⟩
def vg(L:bw)(M:List Int)(o:Op):rC:=
 match jo M o.a with
 |none=>pG L
 |some a=>bz L ⟨5,0,0,0,⟨#[]⟩,a,0⟩
def uW(L:bw)(G:List Int)(o:Op):rC:=
 match jo G o.a with
 |none=>pG L
 |some a=>(a,0,L)
def yW(L:bw)(M:List Int)(o:Op)(c:Bool):rC:=
 if(jt L M o.a).ba=4 then(if c then(jt L M o.a).b else(jt L M o.a).a,0,L)else pG L
def xN(L:bw)(M:List Int)(o:Op):rC:=
 if qH (jt L M o.a).ba=ai then((jt L M o.a).a,0,L)else pG L
def yI(L:bw)(G M:List Int)(o:Op):rC:=
 if o.code=0 then uW L G o
 else if o.code=1 then bz L ⟨1,o.a,0,0,⟨#[]⟩,0,0⟩
 else if o.code=2 then bz L ⟨2,0,0,o.num,⟨#[]⟩,0,0⟩
 else if o.code=3 then bz L ⟨3,0,0,0,o.cf,0,0⟩
 else if o.code=4 then uq L M o
 else if o.code=5 then vg L M o
 else if o.code=6 then yW L M o ak
 else if o.code=7 then yW L M o ai
 else if o.code=8 then xN L M o
 else if o.code=9 then vV L M o fun k a=>⟨7,k,0,0,⟨#[]⟩,a,0⟩
 else if o.code=10 then vV L M o fun k a=>⟨8,k,tz o.num,0,⟨#[]⟩,a,0⟩
 else if o.code=11 then vV L M o fun k a=>⟨9,tz o.num,k,0,⟨#[]⟩,a,0⟩
 else pG L
def vD(L:bw)(G:List Int)(M:List Int):List Op->List Int×Int×bw
 |[]=>(M,0,L)
 |o :: os=>if(yI L G M o).2.1≠0 then(M,(yI L G M o).2.1,(yI L G M o).2.2)else vD (yI L G M o).2.2 G (M++[(yI L G M o).1]) os
def zT(L:bw)(G:List Int)(l:List Op):Int×Int×Int×bw:=
 if l.length>256 then(0,6,0,L)else if l.length=0 then(0,3,0,L)
 else if(vD L G [] l).2.1≠0 then(0,(vD L G [] l).2.1,(vD L G [] l).1.length,(vD L G [] l).2.2)
 else(((vD L G [] l).1.getLast?).getD 0,0,0,(vD L G [] l).2.2)
def ML{L t}(h:bj L t=ak):ar L t=uZ:=by simp[ar,yD h]
def vm{M i}(a:0<=i)(h1:i.toNat<M.length):jo M i=ab M[i.toNat]:=by
 unfold jo;rw[aw Om,getElem?_eq_getElem h1]
def wS{M i}(h:i<0\/(M.length:Int)<=i):jo M i=bo:=by
 unfold jo;split;rfl;rw[getElem?_eq_none];omega
def RZ{M i t}(h:jo M i=ab t):0<=i/\∃h1,M[i.toNat]=t:=by
 unfold jo at h;split at h;cases h;exact⟨Om,List.getElem?_eq_some_iff.1 h⟩
def tP{α:Type}{P:α->Prop}{c:Prop}[Decidable c]{x y:α}(hx:P x)(a:P y):P (if c then x else y):=by split<;>assumption
def N6{L}(P:rC->Prop)(h1:∀t e,P (t,e,L))(G M o)(h2:∀n,n.num=0\/n.num=o.num->P (bz L n)):P (yI L G M o):=by
 have d:∀mk,(∀k a,(mk k a).num=0)->P (vV L M o mk):=fun mk g=>by
  unfold vV;split;exact h1 _ _;split;exact h2 _<|.inl<|g _ _;exact h1 _ _
 have c:P (uW L G o):=by unfold uW;split<;>exact h1 _ _
 have f:P (uq L M o):=by
  unfold uq;split;exact h1 _ _;split;exact h1 _ _;exact h2 _<|.inl rfl
 have hh:P (vg L M o):=by
  unfold vg;split;exact h1 _ _;exact h2 _<|.inl rfl
 have b:∀s,P<|yW L M o s:=fun s=>by unfold yW;split<;>exact h1 _ _
 have hs:P (xN L M o):=by unfold xN;split<;>exact h1 _ _
 unfold yI;refine tP c<|tP (h2 _<|.inl rfl)<|tP (h2 _<|.inr rfl)<|tP (h2 _<|.inl rfl)<|tP f<|tP hh<|tP (b _)<|tP (b _)<|tP hs<|tP (d _ fun _ _=>rfl)<|tP (d _ fun _ _=>rfl)<|tP (d _ fun _ _=>rfl)<|h1 _ _
def Ei{L}(P:rC->Prop)(h1:∀t e,P (t,e,L))(h2:∀n,P<|bz L n)(G M o):P (yI L G M o):=N6 P h1 G M o fun n _=>h2 n
def xw{L}(h:Wf L)(G M o):Wf (yI L G M o).2.2:=Ei (fun r=>Wf r.2.2) (fun _ _=>h) (fun n=>yG h n) G M o
def xy(L G M o):∃X,(yI L G M o).2.2=L++X:=Ei (fun r=>∃X,r.2.2=L++X) (fun _ _=>⟨[],Sm⟩) (fun n=>IG L n) G M o
def Kc(G):∀l L M,Wf L->Wf (vD L G M l).2.2
 |[],_,_,h=>h
 |o :: os,L,M,h=>by
  unfold vD;split;exact xw h G M o;exact Kc G os _ _<|xw h G M o
def MS(G):∀l L M,∃X,(vD L G M l).2.2=L++X
 |[],L,_=>⟨[],by simp[vD]⟩
 |o :: os,L,M=>by
  unfold vD;split;exact xy L G M o;have⟨X,b⟩:=xy L G M o;have⟨Y,a⟩:=MS G os (yI L G M o).2.2<|M++[(yI L G M o).1];exact⟨X++Y,by rw[a,b,append_assoc]⟩
def EI(G):∀l L M,(vD L G M l).1.length<=M.length+l.length/\((vD L G M l).2.1=0->(vD L G M l).1.length=M.length+l.length)
 |[],_,_=>⟨Nat.le_refl _,fun _=>rfl⟩
 |o :: os,L,M=>by
  unfold vD;split;grind;have⟨h1,h2⟩:=EI G os (yI L G M o).2.2<|M++[(yI L G M o).1];simp only[length_append,length_cons,length_nil]at h1 h2;simp only[length_cons];exact⟨Om,fun h=>Oh<|h2 h⟩
section
variable {L:bw} {G M:List Int} {o:Op}
def G9(h:o.code=0):yI L G M o=uW L G o:=by unfold yI;rw[bt h]
def IS(h:o.code=1):yI L G M o=bz L ⟨1,o.a,0,0,⟨#[]⟩,0,0⟩:=by unfold yI;rw[aw Om,bt h]
def Iw(h:o.code=2):yI L G M o=bz L ⟨2,0,0,o.num,⟨#[]⟩,0,0⟩:=by unfold yI;rw[aw Om,aw Om,bt h]
def Kj(h:o.code=3):yI L G M o=bz L ⟨3,0,0,0,o.cf,0,0⟩:=by unfold yI;rw[aw Om,aw Om,aw Om,bt h]
def Cr(h:o.code=4):yI L G M o=uq L M o:=by unfold yI;rw[aw Om,aw Om,aw Om,aw Om,bt h]
def ER(h:o.code=5):yI L G M o=vg L M o:=by unfold yI;rw[aw Om,aw Om,aw Om,aw Om,aw Om,bt h]
def En(h:o.code=6):yI L G M o=yW L M o ak:=by unfold yI;rw[aw Om,aw Om,aw Om,aw Om,aw Om,aw Om,bt h]
def FZ(h:o.code=7):yI L G M o=yW L M o ai:=by unfold yI;rw[aw Om,aw Om,aw Om,aw Om,aw Om,aw Om,aw Om,bt h]
def Dj(h:o.code=8):yI L G M o=xN L M o:=by unfold yI;rw[aw Om,aw Om,aw Om,aw Om,aw Om,aw Om,aw Om,aw Om,bt h]
def Cv(h:o.code=9):yI L G M o=vV L M o (fun k a=>⟨7,k,0,0,⟨#[]⟩,a,0⟩):=by unfold yI;rw[aw Om,aw Om,aw Om,aw Om,aw Om,aw Om,aw Om,aw Om,aw Om,bt h]
def Di(h:o.code=10):yI L G M o=vV L M o (fun k a=>⟨8,k,tz o.num,0,⟨#[]⟩,a,0⟩):=by unfold yI;rw[aw Om,aw Om,aw Om,aw Om,aw Om,aw Om,aw Om,aw Om,aw Om,aw Om,bt h]
def BC(h:o.code=11):yI L G M o=vV L M o (fun k a=>⟨9,tz o.num,k,0,⟨#[]⟩,a,0⟩):=by unfold yI;rw[aw Om,aw Om,aw Om,aw Om,aw Om,aw Om,aw Om,aw Om,aw Om,aw Om,aw Om,bt h]
def GY(h:jo M o.a=bo)(mk:Int->Int->gP):vV L M o mk=pG L:=by unfold vV;rw[h]
def HC(h:(jt L M o.b).ba≠6)(mk:Int->Int->gP):vV L M o mk=pG L:=by
 unfold vV;split;rfl;rw[aw h]
def Es{i}(h:jo M i=bo):jt L M i=uZ:=by unfold jt;rw[h]
def Ub(d:4<=o.code)(c:o.code<=11)(h:jo M o.a=bo):yI L G M o=pG L:=by
 have b:(jt L M o.a).ba=0:=by rw[Es h];rfl
 rcases(show o.code=4\/o.code=5\/o.code=6\/o.code=7\/o.code=8\/o.code=9\/o.code=10\/o.code=11 by omega)with e|e|e|e|e|e|e|e;rw[Cr e];unfold uq;rw[h];rw[ER e];unfold vg;rw[h];rw[En e];unfold yW;rw[b,aw Om];rw[FZ e];unfold yW;rw[b,aw Om];rw[Dj e];unfold xN;rw[b,aw De];rw[Cv e,GY h];rw[Di e,GY h];rw[BC e,GY h]
def Qg(c:9<=o.code)(a:o.code<=11)(h:(jt L M o.b).ba≠6):yI L G M o=pG L:=by
 rcases(show o.code=9\/o.code=10\/o.code=11 by omega)with e|e|e;rw[Cv e,HC h];rw[Di e,HC h];rw[BC e,HC h]
def jae(h:jo M o.b=bo)(c:o.code=4\/9<=o.code/\o.code<=11):yI L G M o=pG L:=by
 rcases c with e|⟨d,a⟩;rw[Cr e];unfold uq;rw[h];split<;>rfl;exact Qg d a (by rw[Es h];decide)
def GI(h:o.code<0\/11<o.code):yI L G M o=pG L:=by
 unfold yI;rw[aw Om,aw Om,aw Om,aw Om,aw Om,aw Om,aw Om,aw Om,aw Om,aw Om,aw Om,aw Om]
end
def Mb{L:bw}{G M:List Int}{l:List Op}{j:Nat}(a:j<l.length):vD L G M (l.drop j) =
  if(yI L G M l[j]).2.1≠0 then(M,(yI L G M l[j]).2.1,(yI L G M l[j]).2.2)else vD (yI L G M l[j]).2.2 G (M++[(yI L G M l[j]).1]) (l.drop<|j+1):=by
 rw[drop_eq_getElem_cons a,vD]
def CB{L}(h:Wf L)(G l):Wf (zT L G l).2.2.2:=by
 unfold zT
 repeat' split
 .exact h
 .exact h
 .exact Kc G l L [] h
 .exact Kc G l L [] h
abbrev qx(p:ao)(F:NP)(w:af)(R:rC)(e:fb)(w':af):Prop:=
 ∃r1,∃r2,e=.returned (.tuple #[vi r1,vi r2])/\((r1,r2)=(R.1,R.2.1)/\∃F',zH w' p R.2.2 F'/\aj F w w'/\∀b,F' b->F b\/w.heap.size<=b)
section
variable (p:ao) (w0:af) {L:bw} {F:NP} (hP:zH w0 p L F) (hok:Ok L)
include hP hok
def jak(n t a):cl 244 #[vp<|ab p,vi n,vi t,vi a] w0 (wG p L F w0 ⟨8,n,t,0,⟨#[]⟩,a,0⟩):=by
 refine jaq _ _ _ _ w0 (fun r1 r2 w'=>(r1,r2)=((bz L ⟨8,n,t,0,⟨#[]⟩,a,0⟩).1,(bz L ⟨8,n,t,0,⟨#[]⟩,a,0⟩).2.1)/\∃F',zH w' p (bz L ⟨8,n,t,0,⟨#[]⟩,a,0⟩).2.2 F'/\aj F w0 w'/\∀b,F' b->F b\/w0.heap.size<=b) ?_;refine(sV p _ _ _ _ _ _ _ w0 hP hok).mono ?_;rintro _ c ⟨r1,r2,rfl,h⟩;exact⟨r1,r2,rfl,h⟩
def U6(n t a):cl 248 #[vp<|ab p,vi n,vi t,vi a] w0 (wG p L F w0 ⟨9,n,t,0,⟨#[]⟩,a,0⟩):=by
 refine ZA _ _ _ _ w0 (fun r1 r2 w'=>(r1,r2)=((bz L ⟨9,n,t,0,⟨#[]⟩,a,0⟩).1,(bz L ⟨9,n,t,0,⟨#[]⟩,a,0⟩).2.1)/\∃F',zH w' p (bz L ⟨9,n,t,0,⟨#[]⟩,a,0⟩).2.2 F'/\aj F w0 w'/\∀b,F' b->F b\/w0.heap.size<=b) ?_;refine(sV p _ _ _ _ _ _ _ w0 hP hok).mono ?_;rintro _ c ⟨r1,r2,rfl,h⟩;exact⟨r1,r2,rfl,h⟩
def jbm(x):cl 229 #[vp<|ab p,vs x] w0 (wG p L F w0 ⟨3,0,0,0,x,0,0⟩):=by
 refine jdp _ _ w0 (fun r1 r2 w'=>(r1,r2)=((bz L ⟨3,0,0,0,x,0,0⟩).1,(bz L ⟨3,0,0,0,x,0,0⟩).2.1)/\∃F',zH w' p (bz L ⟨3,0,0,0,x,0,0⟩).2.2 F'/\aj F w0 w'/\∀b,F' b->F b\/w0.heap.size<=b) ?_;refine(sV p _ _ _ _ _ _ _ w0 hP hok).mono ?_;rintro _ a ⟨r1,r2,rfl,h⟩;exact⟨r1,r2,rfl,h⟩
end
def rS(o:Op):List bk:=[vi o.code,vi o.a,vi o.b,vu o.num,vs o.cf]
def qo(o:Op):bk:=.agg #[vi o.code,vi o.a,vi o.b,vu o.num,vs o.cf]
structure sT(w:af)(c p:ao)(sg sm:Sl)(G M:List Int):Prop where
 box:az w c [vp<|ab p,sg.v,sm.v] 241
 oe:c9 w 73 1 sg (fv G)
 pU:c9 w 73 1 sm (fv M)
def Je(c:ao)(sg sm:Sl)(b:Nat):Prop:=b=c.block\/sg.bg b\/sm.bg b
section
variable {w w':af} {c p:ao} {sg sm:Sl} {G M:List Int}
def sT.ext{X}(h:sT w c p sg sm G M)(a:aj X w w')(e:∀b,Je c sg sm b->¬X b):sT w' c p sg sm G M:=
 ⟨h.box.ext a<|e _<|.inl rfl,h.oe.ext a fun b d=>e _<|.inr<|.inl d,h.pU.ext a fun b d=>e _<|.inr<|.inr d⟩
def sT.pure(h:sT w c p sg sm G M)(a:aq w w'):sT w' c p sg sm G M:=h.ext a fun _ _ h=>h
def sT.lt(h:sT w c p sg sm G M){b}(a:Je c sg sm b):b<w.heap.size:=by
 rcases a with rfl|a|a;exact h.box.lt;exact h.oe.lt a;exact h.pU.lt a
end
def CP{w e s ts}(h:c9 w e 1 s (fv ts)){i t}(hi:jo ts i=ab t):∃a,At s i 1 a/\w.cell? a=ab (vi t):=by
 obtain⟨b,h1,rfl⟩:=RZ hi;have⟨a,h2,h3,_⟩:=h.at b (by simpa[fv]using h1);exact⟨a,h2,y9<|by simpa[fv]using h3⟩
section
variable {w0:af} {c p:ao} {sg sm:Sl} {G M:List Int} (hC:sT w0 c p sg sm G M)
include hC
def BX(i):cl 231 #[vp<|ab c,vi i] w0 (XE fun r ok w'=>(match jo M i with|none=>r=0/\ok=ak|some t=>r=t/\ok=ai)/\w'=w0):=by
 refine jaZ _ _ w0 (fun r ok w'=>(match jo M i with|none=>r=0/\ok=ak|some t=>r=t/\ok=ai)/\w'=w0) ?_;have f:sm.ay=M.length:=by rw[hC.pU.ay,zV]
 refine⟨fun h=>?_,fun h=>?_⟩;rw[wS<|.inl<|ij h];exact⟨⟨rfl,rfl⟩,rfl⟩;have h:=il h;refine⟨c,rfl,sm,hC.box.cell rfl,fun h1=>?_,fun h1=>?_⟩;rw[wS<|.inr Gd];exact⟨⟨rfl,rfl⟩,rfl⟩;have h1:=il h1;have e:jo M i=ab (M[i.toNat]' Om):=vm Om Om;have⟨a,b,d⟩:=CP hC.pU e;refine⟨c,rfl,sm,hC.box.cell rfl,a,b,_,d,?_⟩;rw[e];exact⟨⟨rfl,rfl⟩,rfl⟩
variable {L:bw} {F:NP} (hP:zH w0 p L F) (hok:Ok L)
include hP hok
def HL(i):cl 289 #[vp<|ab c,vi i] w0
  (XP fun k f l u x a b r w'=>((⟨k,f,l,u,x,a,b⟩:gP)=jt L M i/\(r=ak->jt L M i=uZ))/\aq w0 w'):=by
 refine Vn _ _ w0 _ ?_
 intro s v g
 have d:=g.first
 refine(BX (hC.pure d) i).mono ?_
 rintro _ _ ⟨r,ok,rfl,e,rfl⟩
 refine⟨_,_,rfl,av.refl _,?_⟩
 unfold jt
 cases ht:jo M i with
 |none =>
  rw[ht]at e;obtain⟨rfl,rfl⟩:=e
  exact Br.t rfl fun y h=>⟨⟨rfl,fun _=>rfl⟩,d.bh h⟩
 |some t =>
  rw[ht]at e;obtain⟨rfl,rfl⟩:=e
  refine Br.f rfl ⟨c,rfl,ab p,(hC.pure d).box.dj,?_⟩
  refine(wh p r _ (hP.pure d) hok).mono ?_
  rintro _ q ⟨k,f,l,u,x,a,b,o,rfl,⟨h1,h2⟩,m⟩
  refine⟨_,_,_,_,_,_,_,_,rfl,m.dy,fun w j=>⟨⟨h1,fun n=>?_⟩,(d.trans m).bh j⟩⟩
  exact ML<|h2.symm.trans n
def SH(o s):cl 236 #[vp<|ab c,qo o,vb s] w0 (qx p F w0<|yW L M o s):=by
 have⟨g,oa,e,on,i⟩:=o;refine jbR _ _ _ _ _ _ _ w0 (fun r1 r2 w'=>(r1,r2)=((yW L M ⟨g,oa,e,on,i⟩ s).1,(yW L M ⟨g,oa,e,on,i⟩ s).2.1)/\∃F',zH w' p (yW L M ⟨g,oa,e,on,i⟩ s).2.2 F'/\aj F w0 w'/\∀b,F' b->F b\/w0.heap.size<=b) ?_;intro t B j;have l:=j.first;refine(HL (hC.pure l) (hP.pure l) hok oa).mono ?_;rintro _ z ⟨k,f,C,u,x,a,b,r,rfl,⟨A,m⟩,q⟩;refine⟨_,_,_,_,_,_,_,_,rfl,q.dy,?_⟩;have d:∀{H' w'},au w0 t z H' w'->∃F',zH w' p L F'/\aj F w0 w'/\∀b,F' b->F b\/w0.heap.size<=b:=fun hs=>by
  have E:=(l.trans q).bh hs;exact⟨F,hP.pure E,E.pure,fun b v=>.inl v⟩
 unfold yW;simp only;rw[<-A]at m|-;refine⟨fun h=>fun H w hs=>?_,fun h=>?_⟩
 .rw[aw]
  .exact⟨rfl,d hs⟩
  .intro n;simp only at n;subst n;have:r=ak:=Uc;have:=m this;simp[uZ]at this
 .have y:k=4:=Gd;rw[bt y];refine⟨fun h=>?_,fun h=>?_⟩<;>subst h<;>exact fun H w hs=>⟨rfl,d hs⟩
def UV(o):cl 238 #[vp<|ab c,qo o] w0 (qx p F w0<|xN L M o):=by
 have⟨m,oa,j,on,n⟩:=o;refine W3 _ _ _ _ _ _ w0 (fun r1 r2 w'=>(r1,r2)=((xN L M ⟨m,oa,j,on,n⟩).1,(xN L M ⟨m,oa,j,on,n⟩).2.1)/\∃F',zH w' p (xN L M ⟨m,oa,j,on,n⟩).2.2 F'/\aj F w0 w'/\∀b,F' b->F b\/w0.heap.size<=b) ?_;intro D K q;have l:=q.first;refine(HL (hC.pure l) (hP.pure l) hok oa).mono ?_;rintro _ B ⟨k,f,N,u,x,a,b,r,rfl,⟨C,s⟩,v⟩;refine⟨_,_,_,_,_,_,_,_,rfl,v.dy,?_⟩;have e:∀{H' w'},au w0 D B H' w'->∃F',zH w' p L F'/\aj F w0 w'/\∀b,F' b->F b\/w0.heap.size<=b:=fun hs=>by
  have E:=(l.trans v).bh hs;exact⟨F,hP.pure E,E.pure,fun b I=>.inl I⟩
 unfold xN;simp only;rw[<-C]at s|-;have g:qH k=!((((k:Int) !=7)&&((k:Int) !=8))&&((k:Int) !=9)):=by
  unfold qH;by_cases G:k=7<;>by_cases A:k=8<;>by_cases J:k=9<;>simp[bne,G,A,J]
 refine⟨fun h=>fun H w hs=>?_,fun h=>fun H w hs=>?_⟩
 .rw[aw]
  .exact⟨rfl,e hs⟩
  .intro t;simp only at t;rw[g]at t;have d:((((k:Int) !=7)&&((k:Int) !=8))&&((k:Int) !=9))=ak:=Uc;rw[d,Bool.or_false]at h;have i:r=ak:=Uc;have y:=s i;simp only[uZ,gP.mk.injEq]at y;rw[y.1]at d;revert d;decide
 .have z : qH k = ai:=by
   rw[Bool.or_eq_false_iff]at h;rw[g,h.2];rfl
  rw[bt z];exact⟨rfl,e hs⟩
def Jj(o f1 fs cs)(mk:Int->Int->gP)(J:∀args w,(callFunc f1 args).run prog w=.ok (.enter f1 args) w)(y:∀(k a:Int)j,aq w0 j->Calls prog f1 (fs++#[vi k,vi a]++cs) j (wG p L F j<|mk k a)):
  cl 240 #[vp<|ab c,qo o,.func (.func f1) fs cs] w0<|qx p F w0<|vV L M o mk:=by
 have⟨Q,oa,D,on,S⟩:=o
 refine jcm _ _ _ _ _ _ _ w0 _ ?_
 intro G j q
 have g:=q.first
 refine(BX (hC.pure g) oa).mono ?_
 rintro _ _ ⟨K,O,rfl,d,rfl⟩
 refine⟨_,_,rfl,av.refl _,?_⟩
 refine(HL (hC.pure g) (hP.pure g) hok D).mono ?_
 rintro _ B ⟨k,f,R,u,x,a,b,r,rfl,⟨C,z⟩,l⟩
 refine⟨_,_,_,_,_,_,_,_,rfl,l.dy,?_⟩
 have e:∀{H' w'},au w0 G B H' w'->∃F',zH w' p L F'/\aj F w0 w'/\∀b,F' b->F b\/w0.heap.size<=b:=fun hs=>by
  have E:=(g.trans l).bh hs;exact⟨F,hP.pure E,E.pure,fun b i=>.inl i⟩
 unfold vV
 simp only
 rw[<-C]at z|-
 have n:k=6->r=ai:=fun v=>by
  cases r with
  |true=>rfl
  |false=>have:=z rfl;simp only[uZ,gP.mk.injEq]at this;omega
 cases ht:jo M oa with
 |none =>
  rw[ht]at d;obtain⟨rfl,rfl⟩:=d
  exact Br.t Sm fun H w hs=>⟨rfl,e hs⟩
 |some t =>
  rw[ht]at d;obtain⟨rfl,rfl⟩:=d
  simp only
  refine⟨fun h=>fun H w hs=>?_,fun h=>?_⟩
  .rw[aw]
   .exact⟨rfl,e hs⟩
   .intro v
    rw[n v,v]at h
    revert h;decide
  .have A:k=6:=Gd
   rw[bt A]
   refine⟨f1,fs,cs,rfl,fun H w hs=>⟨J,?_⟩⟩
   have E:=(g.trans l).bh hs
   refine(y f K w E).mono ?_
   rintro _ P ⟨I,N,rfl,h1,F',m,X,s⟩
   exact⟨I,N,rfl,X.ff fun b i hx=>Oi (hs.old b i)<|hP.lt hx,h1,F',m,(E.pure (F:=F)).trans X,fun b i=>(s b i).imp_right fun h=>Oh E.size⟩
end
def uF(t:ej)(s:Sl):List bk:=[vi t.dr.ba,vi t.dr.cj,vi t.dr.to,vu t.dr.num,vs t.dr.cf,s.v]
inductive fm(S:NP)(w:af):Sl->ej->Prop
 | mk (k f t u : Int) (x : ByteArray) (ks : List ej) (s : Sl) (rs : Nat -> Sl) (ay : s.ay = ks.length) (b : ks.length <= 9223372036854775807)
   (row:∀i (h:i<ks.length),∃a,At s i 6 a/\S a.block/\Row w a (uF ks[i]<|rs i)) (ku:∀i (h:i<ks.length),fm S w (rs i) ks[i]):fm S w s (.mk k f t u x ks)
def fm.ext{S F w w' s t}(h:fm S w s t)(d:aj F w w')(e:∀b,S b->¬F b):fm S w' s t:=by
 induction h with
 |mk k f t u x ks s rs ay c row ku g =>
  exact .mk k f t u x ks s rs ay c (fun i h=>let ⟨a,h1,h2,h3⟩:=row i h;⟨a,h1,h2,d.row h3<|e _ h2⟩) g
def fm.pure{S w w' s t}(h:fm S w s t)(a:aq w w'):fm S w' s t:=h.ext a fun _ _ h=>h
def fm.mono{S S' w s t}(h:fm S w s t)(d:∀b,S b->S' b):fm S' w s t:=by
 induction h with
 |mk k f t u x ks s rs ay a row ku c =>
  exact .mk k f t u x ks s rs ay a Gd c
def fm.lt{S w s t}(h:fm S w s t):fm (fun b=>S b/\b<w.heap.size) w s t:=by
 induction h with
 |mk k f t u x ks s rs ay c row ku e =>
  refine .mk k f t u x ks s rs ay c (fun i h=>let ⟨a,h1,h2,h3⟩:=row i h;⟨a,h1,⟨h2,?_⟩,h3⟩) e
  have:=h3 0 (by simp[uF])
  unfold af.cell? at this
  refine Classical.byContradiction fun d=>?_
  have:w.heap[(a.add 0).block]?=bo:=by rw[zD];exact Array.getElem?_eq_none Om
  simp_all[uF]
def QM(k f t u:Int)(x:ByteArray)(s:Sl)(w:af):
  cl 175 #[.agg #[vi k,vi f,vi t,vu u,vs x,s.v]] w
   (XS fun k' d e g i a b w'=>(⟨k',d,e,g,i,a,b⟩:gP)=⟨k,f,t,u,x,0,0⟩/\aq w w'):=by
 refine Ww _ _ _ _ _ _ w _ ?_
 intro j h h1 l m h2
 have c:aq w h:=aj.bu h1
 have b1:=(az.fi h1).pure<|aj.bu h2
 refine⟨_,b1.dj,_,b1.cell rfl,_,b1.cell rfl,_,b1.cell rfl,_,b1.cell rfl,?_⟩
 exact bx 7 (az.fi h2) rfl rfl fun w' b E=>⟨_,_,_,_,_,_,_,b.row,rfl,(c.trans<|aj.bu h2).bf (fp.bf c h2) E⟩
def NM(t):∀i n:Int,0<=n->0<=(qK i n t).2:=by
 induction t using ej.ind with
 |h k f t u x ks b =>
  have:∀ks,(∀i (hi:i<ks.length),∀j n:Int,0<=n->0<=(qK j n ks[i]).2)->∀i e n:Int,0<=n->0<=(vG i e n ks).2:=by
   intro ks;induction ks with
   |nil=>intro _ i e n h;simpa[vG]using h
   |cons t ts a =>
    intro hh i e n h
    unfold vG
    split
    exact a (fun i hi=>hh (i+1) Uc) _ _ _<|hh 0 Sm i n h
    exact h
  intro i n h
  unfold qK
  split
  exact h
  grind
def Qk{ks:List ej}{j:Nat}(a:j<ks.length)(i n:Int):vG i 0 n (ks.drop j)=vG i (qK i n ks[j]).1 (qK i n ks[j]).2 (ks.drop<|j+1):=by
 rw[drop_eq_getElem_cons a,vG,bt rfl]
def QY{ks e}(h:e≠0)(i n):vG i e n ks=(e,n):=by
 cases ks<;>simp[vG,h]
def TE{S:NP}(q:ao)(hq:¬ S q.block)(T:dz)(t:ej):∀s(c bM:Int)w,0<=c->0<=bM->fm S w s t->az w q [vi bM] T ->
  cl 124 #[.agg (uF t s).toArray,vi c,vp<|ab q] w
   (XB fun r w'=>r=(qK c bM t).1/\az w' q [vi (qK c bM t).2] T/\aj (·=q.block) w w'):=by
 induction t using ej.ind with
 |h k f t u x ks ih =>
 intro s c bM w hi0 hn0 hT hB
 suffices key:∀K:Int->WP,(∀r w',(r=(qK c bM<|.mk k f t u x ks).1/\az w' q [vi (qK c bM<|.mk k f t u x ks).2] T/\aj (·=q.block) w w')->K r w')->Pz k f t u x s c (ab q) w K from
  w_O _ _ _ _ _ _ _ _ w _<|key _ fun _ _ h=>h
 intro K C
 intro p1 w1 h1
 have b1:=az.fi h1
 have N:aq w w1:=aj.bu h1
 have n1:=fp.ne h1 hB.bg
 have g:=hB.pure N
 have M:=hT.pure N
 refine⟨q,rfl,bM,g.dj,fun h=>?_,fun h=>⟨fun Q=>?_,fun Q=>?_⟩⟩
 .have h:=ij h
  have:qK c bM (.mk k f t u x ks)=(52,bM):=by rw[qK,bt Om]
  rw[this]at C;exact C _ _ ⟨rfl,g,N.pure⟩
 .have h:=il h;have Q:=ij Q
  have:qK c bM (.mk k f t u x ks)=(52,bM):=by rw[qK,aw Om,bt Om]
  rw[this]at C;exact C _ _ ⟨rfl,g,N.pure⟩
 have h:=il h;have Q:=il Q
 have hsp:qK c bM (.mk k f t u x ks)=vG (c+1) (uA ⟨k,f,t,u,x,0,0⟩ ks.length) (bM+1) ks:=by rw[qK,aw Om,aw Om]
 rw[hsp]at C
 refine⟨q,rfl,bM,g.dj,q,rfl,g.mi Sm,?_⟩
 rw[i64 (n:=bM+1) Om Om]
 intro w2 B
 have hB2:az w2 q [vi<|bM+1] T:=by rw[B];exact g.nw
 have v:aj (·=q.block) w1 w2:=by rw[B];exact aj.setCell q _
 clear B
 have b2:=b1.ext v fun e=>n1 e.symm
 have L:=M.ext v fun b hb e=>hq<|e▸hb
 have E2:=N.pure.trans v
 refine⟨_,_,_,_,_,_,b2.row,?_⟩
 refine(QM _ _ _ _ _ _ w2).mono ?_
 rintro _ w3 ⟨k',f',t',u',x',a',b',rfl,V,z⟩
 cases V
 refine⟨_,_,_,_,_,_,_,rfl,?_⟩
 intro p2 w4 O
 have n2:=fp.ne O (b2.pure z).bg
 have J:=z.trans<|aj.bu O
 have o2:=fp.bf z O
 refine bx 7 (az.fi O) rfl rfl fun w5 U I=>?_
 have A:=J.bf o2 I
 refine⟨_,_,_,_,_,_,_,U.row,?_⟩
 refine(Qt _ _ _ _ _ _ _ w5).mono ?_
 rintro _ w6 ⟨s1,s2,s3,s4,s5,pe,rfl,⟨hs,hpe⟩,p⟩
 refine⟨_,_,_,_,_,_,rfl,?_⟩
 intro p3 w7 F
 have n3:=fp.ne F (U.pure p).bg
 have H:=(A.trans p).trans<|aj.bu F
 have o3:=fp.bf (A.trans p) F
 refine bx 5 (az.fi F) rfl rfl fun w8 c3 D=>?_
 have y:=H.bf o3 D
 have d2:=((U.pure p).pure<|aj.bu F).ext D n3
 have d1:=b2.pure y
 have Z:=hB2.pure y
 have hT8:=L.pure y
 have E8:=E2.mh y
 clear D H p A I J z v U b2 b1 L M g h1 O F
 have hlen:s.ay=ks.length:=by cases hT;assumption
 have hfit:ks.length<=9223372036854775807:=by cases hT;assumption
 have X:=hs.symm
 have J3:∀e w',aq w8 w'->e=uA ⟨k,f,t,u,x,0,0⟩ ks.length->GJ c (ab q) p1 e w' K:=by
  intro e w' E m;rw[<-m]at C;refine⟨fun e i w'=>∃j:Nat,i=j/\j<=ks.length/\∃n:Int,0<=n/\aj (·=q.block) w8 w'/\az w' q [vi n] T/\vG (c+1) e n (ks.drop j)=vG (c+1) (uA ⟨k,f,t,u,x,0,0⟩ ks.length) (bM+1) ks,fun _ i _=>((ks.length:Int)-i).toNat,⟨0,rfl,Nat.zero_le _,bM+1,Om,E.pure,Z.pure E,Uc⟩,?_⟩;rintro o _ wl ⟨j,rfl,hj,n,V,R,hBl,l⟩;unfold LL;have dl:=d1.ext R fun e=>n1 e.symm;have hTl:=hT8.ext R fun b hb e=>hq<|e▸hb;rw[<-m]at l;have P:∀W,vG (c+1) e ((bM:Int)+1) ks=(o,W)->W=n->K o wl:=by
   rintro W h rfl;refine C _ _ ⟨by rw[h],Uc,E8.trans R⟩
  refine⟨s,dl.cell rfl,fun d=>⟨fun G=>?_,fun G=>?_⟩,fun d=>?_⟩
  .have d:j<ks.length:=by have h:=ij d;omega
   have G:o=0:=Uc;subst G;cases hTl with
   |mk _ _ _ _ _ _ _ rs ay fit row ku =>
   have⟨a,hat,ha,hr⟩:=row j d;refine⟨s,dl.cell rfl,a,hat,_,_,_,_,_,rs j,hr,?_⟩;rw[i64 (n:=c+1) Om Om];refine(ih j d (rs j) (c+1) n wl Om V (ku j d) hBl).mono ?_;rintro _ w9 ⟨r,rfl,rfl,Y,E9⟩;rw[Qk d]at l;refine⟨_,rfl,⟨j+1,?_,d,_,NM _ _ _ V,R.trans E9,Y,Uc⟩,?_⟩
   .rw[i64 Om Om];omega
   .show((ks.length:Int)-q6.wrap ((j:Int)+1)).toNat<((ks.length:Int)-(j:Int)).toNat;rw[i64 Om Om];omega
  .have G:o≠0:=by simpa using G
   rw[QY G]at l;exact P _ l.symm rfl
  .have hge:j=ks.length:=by have h:=il d;omega
   rw[hge,drop_length,vG]at l;exact P _ l.symm rfl
 have J2:∀o,o=(if pe=0 then if(ks.length:Int)≠s5 then 53 else 0 else pe)->BD c (ab q) p1 p2 p3 o w8 K:=by
  intro o he1;have m:uA ⟨k,f,t,u,x,0,0⟩ ks.length=if o=0 then zO ⟨s1,s2,s3,s4,s5⟩ ⟨k,f,t,u,x,0,0⟩else o:=by
   unfold uA;simp only[X,<-hpe,he1]
  refine⟨fun h=>⟨_,_,_,_,_,c3.row,_,_,_,_,_,_,_,d2.row,?_⟩,fun h=>J3 _ _ (aj.refl _) ?_⟩
  .have h:o=0:=by simpa using h
   refine(Sk _ _ _ _ _ _ _ _ _ _ _ _ _).mono ?_;rintro _ w9 ⟨_,rfl,rfl,E9⟩;exact⟨_,rfl,J3 _ _ E9 Uc⟩
  .grind
 refine⟨fun h=>⟨s,d1.cell rfl,s5,c3.cell rfl,fun h5=>J2 _ ?_,fun h5=>J2 _ ?_⟩,fun h=>J2 _ ?_⟩
 .grind
 .grind
 .grind
def OW(w):cl 42 #[] w (XD fun r w'=>∃p,r=ab p/\aq w w'/\∃F,zH w' p [] F/\∀b,F b->w.heap.size<=b):=by
 refine jcd w (fun r w'=>∃p,r=ab p/\aq w w'/\∃F,zH w' p [] F/\∀b,F b->w.heap.size<=b) ?_;intro d g h1 e j h2;have f:aq w g:=aj.bu h1;have i:=(pk.fi h1).ext (aj.bu h2:aq g j) id;have c:=fp.ne h2 h1.EP;refine⟨e,rfl,f.trans<|aj.bu h2,fun b=>b=e.block\/Sl.nil.bg b\/b=d.block,⟨Sl.nil,d.block,⟨az.fi h2,by simpa using c9.nil _ _ _,by simpa[np]using i,c,?_,?_⟩,fun _=>Iff.rfl⟩,?_⟩;rintro⟨a,h,_⟩;cases h;rintro⟨a,h,_⟩;cases h;rintro b (rfl|⟨a,h,_⟩|rfl);exact fp.bf f h2;cases h;exact fp.bf (aj.refl w) h1
def zBX(L n):np (L.take n)=(np L).take n:=by
 apply ext_getElem?;intro i;simp only[np,getElem?_map,getElem?_zipIdx,getElem?_take];split<;>simp
def zGA(L):(np L).map (·.1)=(L.map (·.dr)).map px:=by
 apply ext_getElem?;intro i;simp only[np,getElem?_map,getElem?_zipIdx];cases L[i]?<;>simp
def Sx(p:ao)(n:Nat)(w:af){L:bw}{F:NP}(hP:zH w p L F)(H:Ok L)(hn:n<=L.length):
  cl 126 #[vp<|ab p,vi n] w<|XG fun w'=>zH w' p (L.take n) F/\aj F w w':=by
 suffices key:∀K:WP,(∀w',zH w' p (L.take n) F/\aj F w w'->K w')->KA (ab p) n w K from
  jdv _ _ w _<|key _ fun _ h=>h
 intro K hK
 unfold KA
 have⟨s,m,hS,hF⟩:=hP
 have hfew:=H.jl
 have R:s.ay<=s.cap:=by
  have:=hS.fg.ay;rcases hS.fg.bf with⟨rfl,_⟩|⟨g,ga,_,_,hc,_⟩;simp[Sl.nil];omega
 have⟨s1,Y,T⟩:=hS.fg.gS.lo (P:=prog) If R (k:=.i64) (n:=n) Om Uc
 have hlen1:s1.ay=L.length-n:=by rw[T.ay];simp
 refine⟨p,rfl,s,hS.box.dj,s1,Y,?_⟩
 refine⟨fun x w'=>∃j:Nat,x=j/\j<=L.length-n/\aj (·=m) w w'/\pk w' m ((np L).take n++(np L).drop (n+j)),fun x _=>((L.length:Int)-x).toNat,⟨0,rfl,Nat.zero_le _,aj.refl w,by simpa using hS.map⟩,?_⟩
 rintro _ wl ⟨j,rfl,hj,N,B⟩
 have c:=hS.box.ext N hS.n1.symm
 have d:=hS.fg.ext N fun b V e=>hS.n3<|e▸V
 refine⟨fun h=>?_,fun h=>?_⟩
 have r:n+j<L.length:=by have h:=ij h;omega
 have Z:=T.ext N fun b V e=>hS.n3<|e▸V
 have⟨a,hat,_,hrow⟩:=Z.at_ j So
 generalize he:L[n+j]=e at *
 have wV:Row wl a (vj e):=Gd
 have⟨nd,sz,dp⟩:=e
 have⟨k,f,t,u,x,a1,b1⟩:=nd
 refine⟨a,hat,_,_,_,_,_,_,_,_,_,wV,?_⟩
 intro p2 w1 h1
 have E1:aq wl w1:=aj.bu h1
 have o1:=fp.bf (aj.refl wl) h1
 refine bx 9 (az.fi h1) rfl rfl fun U b2 E=>?_
 have E2:=E1.bf o1 E
 refine⟨fun w'=>w'.cell? (p.add 1)=ab (.map<|ab m)/\Row w' p2 (tM ⟨k,f,t,u,x,a1,b1⟩),⟨(c.pure<|E2.mh<|aj.drew U).cell (i:=1) rfl,?_⟩,?_⟩
 have:Row U p2 (tM ⟨k,f,t,u,x,a1,b1⟩):=fun i hi=>by
  have:=b2.row i (by simp[tM]at hi|-;omega);rw[this];have h7:i<7:=by simpa[tM]using hi
  have:i=0\/i=1\/i=2\/i=3\/i=4\/i=5\/i=6:=Om;rcases this with rfl|rfl|rfl|rfl|rfl|rfl|rfl<;>rfl
 exact aj.row (F:=bl) (aj.drew U) this id
 intro w3 G
 have E3:aq wl w3:=by rw[G];exact E2.mh<|aj.drew U
 clear G
 refine⟨p,rfl,ab m,fun w' h=>h.1,k,f,t,u,x,a1,b1,fun w' h=>h.2,?_⟩
 have hm3:=B.ext E3 id
 have I:(np L).length=L.length:=by simp[np]
 have J:(np L)[n+j]?=ab (px ⟨k,f,t,u,x,a1,b1⟩,vi (n+j+1:Nat)):=by
  simp only[np,List.getElem?_map,List.getElem?_zipIdx,List.getElem?_eq_getElem r,he];simp
 have A:((np L).take n++(np L).drop (n+j))[n]?=ab (px ⟨k,f,t,u,x,a1,b1⟩,vi (n+j+1:Nat)):=by
  have W:n+j+(n-((np L).take n).length)=n+j:=Uc;rw[List.getElem?_append_right Gd,List.getElem?_drop,W,J]
 have hnd:((np L).map (·.1)).Nodup:=by
  rw[zGA,List.nodup_iff_pairwise_ne,List.pairwise_map];exact H.qu.imp fun h e=>h<|HJ.1 e
 have y:List.Sublist ((np L).take n++(np L).drop (n+j)) (np L):=by
  conv=>rhs;rw[<-List.take_append_drop n (np L)]
  refine(List.Sublist.refl _).append ?_;have W:(np L).drop (n+j)=((np L).drop n).drop j:=Uc;rw[W];exact List.drop_sublist _ _
 have S:=hnd.sublist<|y.map _
 have⟨w4,hr4,l,E4⟩:=hm3.W5 (P:=prog) (Q:=119) (z:=0) underlying157 EJ (fun q hq=>FU q<|y.subset hq) ⟨_,rfl⟩ A (fun i u hi=>by
  have⟨hi1,hi2⟩:=List.getElem?_eq_some_iff.1 hi;have⟨hn1,hn2⟩:=List.getElem?_eq_some_iff.1 A;refine Classical.byContradiction fun M=>?_;have M:=List.pairwise_iff_getElem.1 S;rcases Nat.lt_or_gt_of_ne ‹_› with r|r;grind;exact M n i Uc Uc r Gd)
 refine⟨w4,hr4,⟨j+1,?_,Om,(N.trans E3.pure).trans E4,?_⟩,?_⟩
 rw[i64 Om Om];omega
 rw[List.eraseIdx_append_of_length_le Uc]at l
 have:n-((np L).take n).length=0:=Uc
 rw[this]at l
 have hd:((np L).drop<|n+j).eraseIdx 0=(np L).drop (n+(j+1)):=by
  rw[List.drop_eq_getElem_cons Om];simp;rfl
 rw[hd]at l;exact l
 show((L.length:Int)-q6.wrap ((j:Int)+1)).toNat<((L.length:Int)-(j:Int)).toNat
 rw[i64 Om Om];omega
 have hge:n+j=L.length:=by have h:=il h;omega
 have I:(np L).length=L.length:=by simp[np]
 rw[hge,<-I,List.drop_length,List.append_nil]at B
 have⟨s2,X,o,O⟩:=d.hi (P:=prog) If (k:=.i64) (n:=n) Om Uc
 refine⟨p,rfl,s,c.dj,s2,X,p,rfl,c.mi Sm,?_⟩
 rintro w5 C
 have D:az w5 p [s2.v,.map<|ab m] 160:=by rw[C];exact c.nw
 have E5:aj (·=p.block) wl w5:=by rw[C];exact aj.setCell p _
 clear C
 refine hK _ ⟨⟨s2,m,⟨D,?_,?_,hS.n1,fun h=>hS.n2<|(O _).1 h,fun h=>hS.n3<|(O _).1 h⟩,fun b=>Uc⟩,?_⟩
 have:=o.ext E5 fun b V e=>hS.n2 Gd
 simpa using this
 rw[zBX];exact B.ext E5 hS.n1
 exact(N.mono Gd).ft E5 Gd
def Lv{n i L t ts}(h:(grow L t).2.1≠0):zU n i L (t ::ts)=(0,(grow L t).2.1,(grow L t).2.2):=by rw[zU,bt h]
def NL{n i L t ts}(h:(grow L t).2.1=0):zU n i L (t ::ts)=zU (if i=0 then { n with a:=(grow L t).1 }else { n with b:=(grow L t).1 }) (i+1) (grow L t).2.2 ts:=by rw[zU,aw<|by simp[h]]
def ej.wK(t:ej):Prop:=ej.rec (motive_1:=fun _=>Prop) (motive_2:=fun _=>Prop) (fun _ _ _ _ _ ks h=>ks.length<=2/\h) True (fun _ _ h1 h2=>h1/\h2) t
def BQ:List ej->Prop
 |[]=>True
 |t :: ts=>ej.wK t/\BQ ts
def JI{k f t u x ks}:ej.wK (.mk k f t u x ks)↔ks.length<=2/\BQ ks:=by
 have:∀ks,(ej.rec_1 (motive_1:=fun _=>Prop) (motive_2:=fun _=>Prop) (fun _ _ _ _ _ ks h=>ks.length<=2/\h) True (fun _ _ h1 h2=>h1/\h2) ks:Prop)=BQ ks:=by
  intro ks;induction ks with
  |nil=>rfl
  |cons t ts a=>show(ej.wK t/\_)=(ej.wK t/\_);rw[a]
 show(ks.length<=2/\_)↔_;rw[this]
def N2{ks}(h:BQ ks){i}(hi:i<ks.length):ej.wK ks[i]:=by
 induction ks generalizing i with
 |nil=>simp at hi
 |cons t ts a =>
  cases i with
  |zero=>exact h.1
  |succ i=>exact a h.2 Uc
def Yv{S}(p t):∀s w(L:bw)F,ej.wK t->fm S w s t->zH w p L F->Ok L->(∀b,F b->¬ S b)->(∀b,S b->b<w.heap.size) ->
  cl 125 #[vp<|ab p,.agg (uF t s).toArray] w
   (XK fun r1 r2 w'=>(r1,r2)=((grow L t).1,(grow L t).2.1)/\∃F',zH w' p (grow L t).2.2 F'/\aj F w w'/\∀b,F' b->F b\/w.heap.size<=b):=by
 induction t using ej.ind with
 |h k f t u x ks ih =>
 intro s w L F h2 hT hP hok hFS hSw
 suffices key:∀K:Int->Int->WP,(∀r1 r2 w',((r1,r2)=((grow L<|.mk k f t u x ks).1,(grow L<|.mk k f t u x ks).2.1)/\∃F',zH w' p (grow L<|.mk k f t u x ks).2.2 F'/\aj F w w'/\∀b,F' b->F b\/w.heap.size<=b)->K r1 r2 w')->PV (ab p) k f t u x s w K from
  jbf _ _ _ _ _ _ _ w _<|key _ fun _ _ _ h=>h
 intro K hK
 have⟨hk2,M⟩:=JI.1 h2
 intro p2 w1 h1
 have b1:=az.fi h1
 have E1:aq w w1:=aj.bu h1
 refine⟨_,_,_,_,_,_,b1.row,?_⟩
 refine(QM _ _ _ _ _ _ w1).mono ?_
 rintro _ w2 ⟨k',f',t',u',x',a',b',rfl,hn,v⟩
 cases hn
 refine⟨_,_,_,_,_,_,_,rfl,?_⟩
 intro c w3 h3
 have E3:=(E1.trans v).trans<|aj.bu h3
 have o3:=fp.bf (E1.trans v) h3
 have n23:=fp.ne h3 (b1.pure v).bg
 refine bx 7 (az.fi h3) rfl rfl fun w4 b3 X=>?_
 have E4:=E3.bf o3 X
 have b2:=((b1.pure v).pure<|aj.bu h3).ext X n23
 intro z w5 D
 have E5:=E4.trans<|aj.bu D
 have o4:=fp.bf E4 D
 have n34:=fp.ne D b3.bg
 have c3:=b3.pure (aj.bu D:aq w4 w5)
 have c4:=az.fi D
 have c2:=b2.pure (aj.bu D:aq w4 w5)
 refine⟨s,c2.cell rfl,?_⟩
 have hsp:grow L (.mk k f t u x ks)=zU ⟨k,f,t,u,x,0,0⟩ 0 L ks:=by rw[grow]
 rw[hsp]at hK
 have hlen:s.ay=ks.length:=by cases hT;assumption
 refine⟨fun i w'=>∃j:Nat,i=j/\j<=ks.length/\∃(nd:gP) (d:bw) (F':NP),zU ⟨k,f,t,u,x,0,0⟩ 0 L ks=zU nd j d (ks.drop j)/\Ok d/\zH w' p d F'/\(∀b,F' b->F b\/w.heap.size<=b)/\¬F' c.block/\¬F' z.block/\aj F w w'/\az w' c (tM nd) 119/\az w' z [vp<|ab<|c.add 5,vp<|ab<|c.add 6] 267,fun i _=>((ks.length:Int)-i).toNat,
  ⟨0,rfl,Nat.zero_le _,⟨k,f,t,u,x,0,0⟩,L,F,Sm,hok,hP.pure E5,fun b h=>.inl h,fun h=>Oh<|hP.lt h,fun h=>Oh<|hP.lt h,E5.pure,c3,c4⟩,?_⟩
 rintro _ wl ⟨j,rfl,hj,nd,d,F',g,o,E,C,V,O,N,d3,d4⟩
 refine⟨fun h=>?_,fun h=>?_⟩
 have m:j<ks.length:=by have h:=ij h;omega
 have hTl:=hT.ext N fun b hs hf=>hFS b hf hs
 have G:∀i (h:i<ks.length),∃a r,At s i 6 a/\Row wl a (uF ks[i] r)/\fm S wl r ks[i]:=by
  cases hTl with
  |mk _ _ _ _ _ _ _ rs ay fit row ku=>exact fun i h=>let ⟨a,h1,_,h3⟩:=row i h;⟨a,rs i,h1,h3,ku i h⟩
 have⟨a,r,hat,R,hTk⟩:=G j m
 refine⟨a,hat,_,_,_,_,_,r,R,?_⟩
 intro p5 w6 h6
 have o5:=fp.bf (aj.refl wl) h6
 refine bx 6 (az.fi h6) rfl rfl fun w7 b5 E67=>?_
 have q:=aj.bf (aj.bu h6) o5 E67
 refine⟨_,_,_,_,_,r,b5.row,?_⟩
 have hsz:=N.size
 refine(ih j m r w7 d F' (N2 M m) (hTk.pure q) (E.pure q) o Gd fun b hs=>Oi (hSw b hs) q.size).mono ?_
 rintro _ w8 ⟨r1,r2,rfl,Y,H,Q,E8,B⟩
 have e1:r1=(grow d ks[j]).1:=mu Prod.fst Y
 have e2:r2=(grow d ks[j]).2.1:=mu Prod.snd Y
 rw[drop_eq_getElem_cons m]at g
 have A:∀b,H b->F b\/w.heap.size<=b:=fun b U=>(B b U).elim (C b) (fun h=>by right;have:=q.size;omega)
 have J:=(N.mh q).ft E8 Gd
 refine⟨_,_,rfl,fun h=>?_,fun h=>?_⟩
 have h:(grow d ks[j]).2.1≠0:=by rw[<-e2];simpa using h
 rw[Lv h]at g
 refine hK _ _ _ ?_
 rw[g];exact⟨Uc,H,Q,J,A⟩
 have h:(grow d ks[j]).2.1=0:=by rw[<-e2];simpa using h
 rw[NL h]at g
 have Z:=(d3.pure q).ext E8 V
 have q4:=(d4.pure q).ext E8 O
 have hs7:=q.size
 have T:¬H c.block:=fun h=>(B _ h).elim V fun h=>Oh<|(d3.pure q).lt
 have n48:¬H z.block:=fun h=>(B _ h).elim O fun h=>Oh<|(d4.pure q).lt
 have W:=(AO ks[j] d o).1
 have P : ∀l(y:gP), y = (if j = 0 then { nd with a:=(grow d ks[j]).1 } else { nd with b:=(grow d ks[j]).1 }) -> az l c (tM y) 119 -> aj (· = c.block) w8 l ->
   (∃j':Nat,q6.wrap ((j:Int)+1)=j'/\j'<=ks.length/\∃(nd:gP) (d:bw) (F':NP),zU ⟨k,f,t,u,x,0,0⟩ 0 L ks=zU nd j' d (ks.drop j')/\Ok d/\zH l p d F'/\(∀b,F' b->F b\/w.heap.size<=b)/\¬F' c.block/\¬F' z.block/\aj F w l/\az l c (tM nd) 119/\az l z [vp<|ab<|c.add 5,vp<|ab<|c.add 6] 267)/\((ks.length:Int)-q6.wrap ((j:Int)+1)).toNat<((ks.length:Int)-(j:Int)).toNat:=by
  intro l y hnd B9 I
  rw[i64 Om Om]
  refine⟨⟨j+1,Om,m,y,_,H,Uc,W,Q.ext I fun b U e=>T<|e▸U,A,T,n48,J.ft I Gd,B9,q4.ext I n34.symm⟩,Om⟩
 have hj2:j=0\/j=1:=Om
 rcases hj2 with rfl|rfl
 refine⟨z,⟨Om,Sm,z,rfl,rfl⟩,ab<|c.add 5,q4.dj,c.add 5,rfl,Z.im<|by simp[tM],?_⟩
 intro l n
 refine P l _ rfl ?_ ?_
 rw[n,e1];exact Z.set 5 _
 rw[n];have:=aj.setCell (w:=w8) (c.add 5)<|vi r1;rw[zD]at this;exact this
 refine⟨z.add 1,⟨Om,Sm,z,rfl,rfl⟩,ab<|c.add 6,q4.cell rfl,c.add 6,rfl,Z.im<|by simp[tM],?_⟩
 intro l n
 refine P l _ rfl ?_ ?_
 rw[n,e1];exact Z.set 6 _
 rw[n];have:=aj.setCell (w:=w8) (c.add 6)<|vi r1;rw[zD]at this;exact this
 have hge:j=ks.length:=by have h:=il h;omega
 rw[hge,drop_length,zU]at g
 have⟨k0,f0,t0,u0,x0,a0,b0⟩:=nd
 refine⟨_,_,_,_,_,_,_,d3.row,?_⟩
 refine(sV p k0 f0 t0 u0 x0 a0 b0 wl E o).mono ?_
 rintro _ l ⟨r1,r2,rfl,Y,F9,hP9,I,hF9⟩
 have hsz:=N.size
 refine⟨_,_,rfl,hK _ _ _ ?_⟩
 rw[g]
 exact⟨Y,F9,hP9,N.ft I fun i hi h=>(C i h).elim id fun h=>Om,fun b U=>(hF9 b U).elim (C b) fun h=>Uc⟩
def PG(t):∀i n:Int,(qK i n t).1=0->ej.wK t:=by
 induction t using ej.ind with
 |h k f t u x ks d =>
  have c:∀ks,(∀i (hi:i<ks.length),∀j n:Int,(qK j n ks[i]).1=0->ej.wK ks[i])->∀i e n:Int,(vG i e n ks).1=0->e=0/\BQ ks:=by
   intro ks;induction ks with
   |nil=>intro _ i e n h;exact⟨by simpa[vG]using h,trivial⟩
   |cons t ts a =>
    intro hh i e n h
    unfold vG at h
    split at h
    rename_i g
    have:=a (fun i hi=>hh (i+1) Uc) _ _ _ h
    exact⟨g,hh 0 Sm i n this.1,this.2⟩
    grind
  intro i n h
  unfold qK at h
  split at h
  cases h
  split at h
  cases h
  have:=c ks d _ _ _ h
  refine JI.2 ⟨?_,this.2⟩
  have b:=this.1
  unfold uA at b
  simp only at b
  have m:=qW k
  by_cases l:zM ⟨k,f,t,u,x,0,0⟩=0
  grind
  grind
def QG{S}(p t s w){L F}(hT:fm S w s t)(Z:zH w p L F)(j:Ok L)(A:∀b,F b->¬ S b)(D:∀b,S b->b<w.heap.size):
  cl 62 #[vp<|ab p,.agg (uF t s).toArray] w
   (XK fun r1 r2 w'=>(r1,r2)=((of L t).1,(of L t).2.1)/\∃F',zH w' p (of L t).2.2 F'/\aj F w w'/\∀b,F' b->F b\/w.heap.size<=b):=by
 have⟨k,f,to,u,x,ks⟩:=t
 suffices key:∀K,(∀r1 r2 w',((r1,r2)=((of L<|.mk k f to u x ks).1,(of L<|.mk k f to u x ks).2.1)/\∃F',zH w' p (of L<|.mk k f to u x ks).2.2 F'/\aj F w w'/\∀b,F' b->F b\/w.heap.size<=b)->K r1 r2 w')->RY (ab p) k f to u x s w K from
  jbZ _ _ _ _ _ _ _ w _<|key _ fun _ _ _ h=>h
 intro K B
 intro p2 U h1
 have b1:=az.fi h1
 have E1:aq w U:=aj.bu h1
 refine Br.f rfl ?_
 intro z V h2
 have E2:=E1.trans<|aj.bu h2
 have o3:=fp.bf E1 h2
 have R:=az.fi h2
 have m:=fp.ne h2 b1.bg
 refine⟨R.mi Sm,?_⟩
 intro Q c
 have P:az Q z [vi 0] 3:=by rw[c];exact R.nw
 have g:aj (·=z.block) V Q:=by rw[c];exact aj.setCell z _
 clear c
 have X:=E2.bf o3 g
 have b3:=(b1.pure (aj.bu h2:aq U V)).ext g m
 refine⟨_,_,_,_,_,s,b3.row,?_⟩
 generalize ht:ej.mk k f to u x ks=t at *
 have l:(bk.agg #[vi k,vi f,vi to,vu u,vs x,s.v])=.agg (uF t s).toArray:=by rw[<-ht];rfl
 rw[l]
 refine(TE z Gd _ t s 0 0 Q Om Om (hT.pure X) P).mono ?_
 rintro _ w4 ⟨r1,rfl,rfl,_,q⟩
 have e:=X.bf o3 q
 have b4:=b3.ext q m
 have J:∀w',aq w w'->∃F',zH w' p L F'/\aj F w w'/\∀b,F' b->F b\/w.heap.size<=b:=fun w' E=>⟨F,Z.pure E,E.pure,fun _ h=>.inl h⟩
 refine⟨_,rfl,fun h=>?_,fun h=>?_⟩
 have h:(qK 0 0 t).1≠0:=by simpa using h
 have:of L t=(0,(qK 0 0 t).1,L):=by rw[of,bt h]
 refine B _ _ _ ?_
 rw[this];exact⟨rfl,J _ e⟩
 have h:(qK 0 0 t).1=0:=by simpa using h
 have i:=Z.pure e
 have⟨s0,m0,y,hF0⟩:=id i
 have C:s0.ay=L.length:=by rw[y.fg.ay];simp
 refine⟨p,rfl,s0,y.box.dj,_,_,_,_,_,s,b4.row,?_⟩
 rw[l]
 refine(Yv p t s w4 L F (PG t _ _ h) (hT.pure e) i j A fun b N=>Oi (D b N) e.size).mono ?_
 rintro _ w5 ⟨r1,r2,rfl,T,H,r,G,O⟩
 have e1:=mu Prod.fst T
 have Y:r2=(grow L t).2.1:=mu Prod.snd T
 have hs4:=e.size
 have W:=e.pure.trans G
 have a:∀b,H b->F b\/w.heap.size<=b:=fun b N=>(O b N).elim .inl fun h=>.inr Om
 refine⟨_,_,rfl,fun d=>?_,fun d=>?_⟩
 have d:(grow L t).2.1≠0:=by rw[<-Y];simpa using d
 have⟨n,M,hM⟩:=AO t L j
 rw[C]
 refine(Sx p L.length w5 r n Uc).mono ?_
 rintro _ w6 ⟨rfl,o,I⟩
 have:of L t=(0,(grow L t).2.1,L):=by rw[of,aw<|by simp[h],bt d]
 refine⟨rfl,B _ _ _ ?_⟩
 rw[this]
 rw[hM,take_left]at o
 exact⟨Uc,H,o,W.ft I Gd,a⟩
 have d:(grow L t).2.1=0:=by rw[<-Y];simpa using d
 have:of L t=((grow L t).1,0,(grow L t).2.2):=by rw[of,aw<|by simp[h],aw<|by simp[d]]
 refine B _ _ _ ?_
 rw[this]
 exact⟨Uc,H,r,W,a⟩
def qS(x:ByteArray):ej:=.mk 3 0 0 0 x []
def ot(n:Int):ej:=.mk 2 0 0 n ⟨#[]⟩ []
def yQ(a b:ej):ej:=.mk 4 0 0 0 ⟨#[]⟩ [a,b]
def uO(n:Int)(a:ej):ej:=.mk 7 n 0 0 ⟨#[]⟩ [a]
def yZ(n:Int)(a:ej)(gR:Bool):ej:=.mk (if gR then 9 else 8) n (1-n) 0 ⟨#[]⟩ [a]
def rN:ByteArray:=⟨#[100,101,97,108]⟩
def qQ(c:Int)(x:ByteArray):ej:=yQ (qS rN)<|yQ (ot c)<|qS x
def fm.leaf{S w k f t u x}:fm S w Sl.nil (.mk k f t u x []):=
 .mk k f t u x [] Sl.nil (fun _=>Sl.nil) rfl Sm (fun i h=>Uc) fun i h=>Uc
def fm.one{S w k f t u x p A sa T}(hB:az w p (uF A sa) T)(hS:S p.block)(a:fm S w sa A):fm S w ⟨ab p,1,1⟩ (.mk k f t u x [A]):=by
 refine .mk k f t u x [A] _ (fun _=>sa) rfl Sm (fun i h=>?_) fun i h=>?_;have:i=0:=by simpa using h
 subst this;exact⟨p,⟨Om,Sm,p,rfl,rfl⟩,hS,hB.row⟩;grind
def fm.ru{S w k f t u x p A B sa sb T}(hB:az w p (uF A sa++uF B sb) T)(hS:S p.block)(c:fm S w sa A)(b:fm S w sb B):fm S w ⟨ab p,2,2⟩ (.mk k f t u x [A,B]):=by
 refine .mk k f t u x [A,B] _ (fun i=>if i=0 then sa else sb) rfl Sm (fun i h=>?_) fun i h=>?_;have:i=0\/i=1:=by simp at h;omega
 rcases this with rfl|rfl;refine⟨p,⟨Om,Sm,p,rfl,rfl⟩,hS,fun i hi=>?_⟩;have:=hB.row i Uc;have a:i<6:=by simpa[uF]using hi
 rw[this];exact getElem?_append_left Uc;refine⟨p.add<|1*6,⟨Om,Sm,p,rfl,rfl⟩,by rw[zD];exact hS,fun i hi=>?_⟩;have a:i<6:=by simpa[uF]using hi
 have:=hB.row (6+i) (by simp[uF];omega);rw[qN,this,getElem?_append_right<|by simp[uF]];simp[uF];grind
abbrev wI(a:Nat)(w:af)(T:ej)(e:fb)(w':af):Prop:=∃s,e=.returned (.agg (uF T s).toArray)/\fm (a<=·) w' s T/\aq w w'
def uD(n0 x w)(g:n0<=w.heap.size):cl 86 #[vs x] w (wI n0 w<|qS x):=by
 refine(UP x w (fun k f t u y s w'=>(⟨k,f,t,u,y,0,0⟩:gP)=(qS x).dr/\fm (n0<=·) w' s (qS x)/\aq w w') ?_).mono ?_;intro d e h1;exact bx 6 (az.fi h1) rfl rfl fun w' b E=>⟨_,_,_,_,_,Sl.nil,b.row,rfl,fm.leaf,aj.bf (aj.bu h1) (fp.bf (aj.refl w) h1) E⟩;rintro _ w' ⟨k,f,t,u,y,s,rfl,c,a,E⟩;cases c;exact⟨s,rfl,a,E⟩
def tC(n0 n w)(g:n0<=w.heap.size):cl 87 #[vu n] w (wI n0 w<|ot n):=by
 refine(Uk n w (fun k f t u y s w'=>(⟨k,f,t,u,y,0,0⟩:gP)=(ot n).dr/\fm (n0<=·) w' s (ot n)/\aq w w') ?_).mono ?_;intro d e h1;exact bx 6 (az.fi h1) rfl rfl fun w' b E=>⟨_,_,_,_,_,Sl.nil,b.row,rfl,fm.leaf,aj.bf (aj.bu h1) (fp.bf (aj.refl w) h1) E⟩;rintro _ w' ⟨k,f,t,u,y,s,rfl,c,a,E⟩;cases c;exact⟨s,rfl,a,E⟩
def yO(n0 A B sa sb w)(r:n0<=w.heap.size)(o:fm (n0<=·) w sa A)(hB:fm (n0<=·) w sb B):
  cl 85 #[.agg (uF A sa).toArray,.agg (uF B sb).toArray] w<|wI n0 w<|yQ A B:=by
 refine(TJ _ _ _ _ _ sa _ _ _ _ _ sb w (fun k f t u y s w'=>(⟨k,f,t,u,y,0,0⟩:gP)=(yQ A B).dr/\fm (n0<=·) w' s (yQ A B)/\aq w w') ?_).mono ?_
 intro q l h1 x e h2 v j h3
 have n:aq w l:=aj.bu h1
 have d:=n.trans<|aj.bu h2
 have h:=d.trans<|aj.bu h3
 have b1:=((az.fi h1).pure<|aj.bu h2).pure (aj.bu h3:aq e j)
 have b2:=(az.fi h2).pure (aj.bu h3:aq e j)
 refine⟨_,_,_,_,_,sa,b1.row,_,_,_,_,_,sb,b2.row,?_⟩
 intro C z a
 have o3:=fp.bf d h3
 have c:=fp.ne a (az.fi h3).bg
 have i:=h.trans<|aj.bu a
 have D:=fp.bf h a
 refine bx 6 ((az.fi h3).pure<|aj.bu a) rfl rfl fun w' b E=>⟨_,_,_,_,_,_,b.row,rfl,?_,i.bf o3 E⟩
 have b4:=(az.fi a).ext E c.symm
 have g:=i.bf o3 E
 refine fm.ru (A:=A) (B:=B) (sa:=sa) (sb:=sb) b4 Uc (o.pure g)<|hB.pure g
 rintro _ w' ⟨k,f,t,u,y,s,rfl,m,p,E⟩
 cases m;exact⟨s,rfl,p,E⟩
def tG(n0 n A sa w)(z:n0<=w.heap.size)(i:fm (n0<=·) w sa A):
  cl 84 #[vi n,.agg (uF A sa).toArray] w<|wI n0 w<|uO n A:=by
 refine(Tj n _ _ _ _ _ sa w (fun k f t u y s w'=>(⟨k,f,t,u,y,0,0⟩:gP)=(uO n A).dr/\fm (n0<=·) w' s (uO n A)/\aq w w') ?_).mono ?_
 intro v h h1 q l h3
 have g:aq w h:=aj.bu h1
 have d:=g.trans<|aj.bu h3
 have b1:=(az.fi h1).pure (aj.bu h3:aq h l)
 refine⟨_,_,_,_,_,sa,b1.row,?_⟩
 intro r p a
 have o3:=fp.bf g h3
 have c:=fp.ne a (az.fi h3).bg
 have e:=d.trans<|aj.bu a
 have x:=fp.bf d a
 refine bx 6 ((az.fi h3).pure<|aj.bu a) rfl rfl fun w' b E=>⟨_,_,_,_,_,_,b.row,rfl,?_,e.bf o3 E⟩
 have b4:=(az.fi a).ext E c.symm
 have o:=e.bf o3 E
 exact fm.one (A:=A) (sa:=sa) b4 Uc<|i.pure o
 rintro _ w' ⟨k,f,t,u,y,s,rfl,m,j,E⟩
 cases m;exact⟨s,rfl,j,E⟩
def uC(n0 n)(q:n=0\/n=1)(A gR sa w)(x:n0<=w.heap.size)(o:fm (n0<=·) w sa A):
  cl 83 #[vi n,.agg (uF A sa).toArray,vb gR] w<|wI n0 w<|yZ n A gR:=by
 refine(jbi n _ _ _ _ _ sa gR w (fun k f t u y s w'=>(⟨k,f,t,u,y,0,0⟩:gP)=(yZ n A gR).dr/\fm (n0<=·) w' s (yZ n A gR)/\aq w w') ?_).mono ?_
 .intro v d h1 z r h3
  have i:aq w d:=aj.bu h1
  have e:=i.trans<|aj.bu h3
  have b1:=(az.fi h1).pure (aj.bu h3:aq d r)
  have j:q6.wrap (1-n)=1-n:=i64 Om Om
  rw[j]
  refine⟨fun h=>⟨_,_,_,_,_,sa,b1.row,?_⟩,fun h=>⟨_,_,_,_,_,sa,b1.row,?_⟩⟩
  all_goals
   intro C B a
   have o3:=fp.bf i h3
   have c:=fp.ne a (az.fi h3).bg
   have g:=e.trans<|aj.bu a
   have D:=fp.bf e a
   refine bx 6 ((az.fi h3).pure<|aj.bu a) rfl rfl fun w' b E=>⟨_,_,_,_,_,_,b.row,by rw[h];rfl,?_,g.bf o3 E⟩
   have b4:=(az.fi a).ext E c.symm
   have m:=g.bf o3 E
   exact fm.one (A:=A) (sa:=sa) b4 Uc<|o.pure m
 .rintro _ w' ⟨k,f,t,u,y,s,rfl,l,p,E⟩
  cases l;exact⟨s,rfl,p,E⟩
def Wt(n0 c x w)(J:n0<=w.heap.size):cl 82 #[vu c,vs x] w (wI n0 w<|qQ c x):=by
 refine(jbv c x w (fun k f t u y s w'=>(⟨k,f,t,u,y,0,0⟩:gP)=(qQ c x).dr/\fm (n0<=·) w' s (qQ c x)/\aq w w') ?_).mono ?_;intro I a h1;have n:aq w a:=aj.bu h1;have o1:=fp.bf (aj.refl w) h1;have s1:=n.size;refine(uD a.heap.size _ a Om).mono ?_;rintro _ o ⟨sa,rfl,C,j⟩;have M:=j.size;refine⟨_,_,_,_,_,sa,rfl,?_⟩;refine(tC a.heap.size c o Om).mono ?_;rintro _ F ⟨sb,rfl,hB,h⟩;have H:=h.size;refine⟨_,_,_,_,_,sb,rfl,?_⟩;refine(uD a.heap.size x F Om).mono ?_;rintro _ z ⟨sc,rfl,A,d⟩;have K:=d.size;refine⟨_,_,_,_,_,sc,rfl,?_⟩;refine(yO a.heap.size (ot c) (qS x) sb sc z Om (hB.pure d) A).mono ?_;rintro _ G ⟨i,rfl,q,g⟩;have N:=g.size;refine⟨_,_,_,_,_,i,rfl,?_⟩;refine(yO a.heap.size (qS rN) (yQ (ot c)<|qS x) sa i G Om (((C.pure h).pure d).pure g) q).mono ?_;rintro _ L ⟨m,rfl,r,v⟩;have E:=(((j.trans h).trans d).trans g).trans v;refine⟨_,_,_,_,_,m,rfl,?_⟩;refine bx 6 ((az.fi h1).pure E) rfl rfl fun w' b l=>⟨_,_,_,_,_,m,b.row,rfl,?_,(n.trans E).bf o1 l⟩;exact(r.ext l fun b B e=>by have:=(az.fi h1).lt;have:a.heap.size<=b:=B;omega).mono Gd;rintro _ w' ⟨k,f,t,u,y,s,rfl,p,D,E⟩;cases p;exact⟨s,rfl,D,E⟩
structure gq where
 ba:Int
 cj:Int
 c:Int
 cf:ByteArray
 gR:Bool
deriving DecidableEq
def xF:gq:=⟨0,0,0,⟨#[]⟩,ak⟩
def rQ:ByteArray:=⟨#[97,98,111,114,116]⟩
def uG:ByteArray:=⟨#[114,101,115,111,108,118,101]⟩
def yU:ByteArray:=⟨#[97,98,111,114,116,101,100]⟩
def uH:ByteArray:=⟨#[105,110,115,116,101,97,100]⟩
def y0:ByteArray:=⟨#[102,117,108,108]⟩
def zR(l:gq)(first a:Bool):ej:=
 if l.ba=1 then yZ l.cj (qQ l.c l.cf) l.gR
 else if l.ba=2 then uO l.cj (qQ l.c l.cf)
 else if l.ba=3 then uO 0 (yQ (qS rQ)<|ot l.c)
 else if l.ba=4 then uO l.cj (yQ (qS uG)<|yQ (yZ 0 (qQ l.c l.cf)<|l.gR&&first) (yZ 1 (qQ l.c l.cf)<|l.gR&&a))
 else if l.ba=5 then uO 2 (yQ (qS yU)<|ot l.c)
 else if l.ba=6 then uO 2 (yQ (qS uH)<|qQ l.c l.cf)
 else yQ (qS y0) (ot l.c)
def Mp(n0 k f c x gR first second w)(h0:n0<=w.heap.size)(hf:f=0\/f=1):
  cl 25 #[.agg #[vi k,vi f,vu c,vs x,vb gR],vb first,vb second] w (wI n0 w<|zR ⟨k,f,c,x,gR⟩ first second):=by
 generalize hR:zR ⟨k,f,c,x,gR⟩ first second=R
 suffices key:∀K:Int->Int->Int->Int->ByteArray->Sl->WP,(∀s w',fm (n0<=·) w' s R/\aq w w'->K R.dr.ba R.dr.cj R.dr.to R.dr.num R.dr.cf s w')->OT k f c x gR first second w K by
  refine(jaR k f c x gR first second w (fun k f t u y s w'=>(k=R.dr.ba/\f=R.dr.cj/\t=R.dr.to/\u=R.dr.num/\y=R.dr.cf)/\fm (n0<=·) w' s R/\aq w w') (key _ Gd)).mono ?_;rintro _ w' ⟨k,f,t,u,y,s,rfl,⟨rfl,rfl,rfl,rfl,rfl⟩,P,E⟩;exact⟨s,rfl,P,E⟩
 intro K hK
 intro p1 w1 h1 p2 n h2
 have E1:aq w w1:=aj.bu h1
 have E2:=E1.trans<|aj.bu h2
 have o2:=fp.bf E1 h2
 have a1:=(az.fi h1).pure (aj.bu h2:aq w1 n)
 have a2:=az.fi h2
 have l1:=a1.lt
 have l2:=a2.lt
 have s2:=E2.size
 clear h1 h2
 refine⟨_,a1.cell rfl,_,a1.cell rfl,?_⟩
 refine(Wt n.heap.size c x n<|Nat.le_refl _).mono ?_
 rintro _ w3 ⟨O,rfl,hD,E3⟩
 refine⟨_,_,_,_,_,O,rfl,?_⟩
 intro p3 w4 h4
 have o3:=fp.bf (aj.refl w3) h4
 refine bx 6 (az.fi h4) rfl rfl fun M b3 E'=>?_
 have E5:=aj.bf (aj.bu h4) o3 E'
 have hD5:=hD.pure E5
 have X:=E3.trans E5
 have s5:=X.size
 have b1:=a1.pure X
 have b3:az M p3 (uF (qQ c x) O) 71:=b3
 clear E' h4 E5 hD E3
 have Q : ∀ (T : ej) (s : Sl) (w' : af), aq M w' -> fm (n.heap.size <= ·) w' s T -> T = R ->
   (∀j,j<6->zJ w' (p2.add j))/\∀A:af,A=ib w' p2 (uF T s) ->
   ∃o:Int,∃q:Int,∃N:Int,∃G:Int,∃z:ByteArray,∃p:Sl,Row A p2 [(vi o),(vi q),(vi N),(vu G),(vs z),p.v]/\K o q N G z p A:=by
  rintro T s w' E P rfl
  refine bx 6 (a2.pure<|X.trans E) rfl rfl fun A b E'=>⟨_,_,_,_,_,s,b.row,hK s A ⟨?_,(E2.trans<|X.trans E).bf o2 E'⟩⟩
  exact(P.ext E' Gd).mono Gd
 have drawn:∃C:WP,C M.drew/\(∀w' A,aq w' A->C w'->C A)/\(∀w',C w'->az w' p1 [vi k,vi f,vu c,vs x,vb gR] 35/\az w' p3 (uF (qQ c x) O) 71):=
  ⟨fun w'=>az w' p1 [vi k,vi f,vu c,vs x,vb gR] 35/\az w' p3 (uF (qQ c x) O) 71,⟨b1.pure<|aj.drew M,b3.pure<|aj.drew M⟩,fun _ _ E h=>⟨h.1.pure E,h.2.pure E⟩,fun _ h=>h⟩
 have⟨C,hC,H,J⟩:=drawn
 refine⟨k,b1.dj,fun F=>?_,fun hk1=>⟨fun F=>?_,fun hk2=>⟨fun F=>?_,fun hk3=>⟨fun F=>?_,fun hk4=>⟨fun F=>?_,fun hk5=>⟨fun F=>?_,fun hk6=>?_⟩⟩⟩⟩⟩⟩
 .have F:k=1:=by simpa using F
  refine⟨f,b1.cell rfl,_,_,_,_,_,O,b3.row,gR,b1.cell rfl,?_⟩
  refine(uC n.heap.size f hf (qQ c x) gR O M s5 hD5).mono ?_
  rintro _ w6 ⟨s,rfl,P,E6⟩
  exact⟨_,_,_,_,_,s,rfl,Q _ s w6 E6 P (by rw[<-hR];simp only[zR];rw[bt F])⟩
 .have F:k=2:=by simpa using F
  refine⟨f,b1.cell rfl,_,_,_,_,_,O,b3.row,?_⟩
  refine(tG n.heap.size f (qQ c x) O M s5 hD5).mono ?_
  rintro _ w6 ⟨s,rfl,P,E6⟩
  exact⟨_,_,_,_,_,s,rfl,Q _ s w6 E6 P (by rw[<-hR];simp only[zR];rw[aw Om,bt F])⟩
 .have F:k=3:=by simpa using F
  refine⟨C,hC,?_⟩
  intro i d
  have m:aq M i:=by rw[d];exact aj.drew M
  have r:C i:=Uc
  clear d
  have Z:=m.size
  refine⟨c,fun w' h=>(J w' h).1.cell rfl,?_⟩
  refine(uD n.heap.size _ i Om).mono ?_
  rintro _ B ⟨sa,rfl,hA,g⟩
  have s11:=g.size
  refine⟨_,_,_,_,_,sa,rfl,H _ _ g r,?_⟩
  refine(tC n.heap.size c B Om).mono ?_
  rintro _ L ⟨sb,rfl,hB,a⟩
  have Y:=a.size
  refine⟨_,_,_,_,_,sb,rfl,?_⟩
  refine(yO n.heap.size (qS rQ) (ot c) sa sb L Om (hA.pure a) hB).mono ?_
  rintro _ I ⟨se,rfl,hE,l⟩
  have s13:=l.size
  refine⟨_,_,_,_,_,se,rfl,?_⟩
  refine(tG n.heap.size 0 (yQ (qS rQ)<|ot c) se I Om hE).mono ?_
  rintro _ V ⟨s,rfl,P,U⟩
  exact⟨_,_,_,_,_,s,rfl,Q _ s V ((((m.trans g).trans a).trans l).trans U) P (by rw[<-hR];simp only[zR];rw[aw Om,aw Om,bt F])⟩
 .have F:k=4:=by simpa using F
  refine⟨C,hC,?_⟩
  intro i d
  have m:aq M i:=by rw[d];exact aj.drew M
  have r:C i:=Uc
  clear d
  have Z:=m.size
  refine⟨f,fun w' h=>(J w' h).1.cell rfl,_,_,_,_,_,O,fun w' h=>(J w' h).2.row,gR,fun w' h=>(J w' h).1.cell rfl,_,_,_,_,_,O,fun w' h=>(J w' h).2.row,gR,fun w' h=>(J w' h).1.cell rfl,?_⟩
  refine(uD n.heap.size _ i Om).mono ?_
  rintro _ B ⟨sa,rfl,hA,g⟩
  have s11:=g.size
  have S:=hD5.pure<|m.trans g
  have D:=H _ _ g r
  refine⟨_,_,_,_,_,sa,rfl,D,?_⟩
  have rest : ∀ (u v : Bool) (sx W : Sl) (w' : af), u = (gR && first) -> v = (gR && second) -> aq B w' -> fm (n.heap.size <= ·) w' sx (yZ 0 (qQ c x) u) -> fm (n.heap.size <= ·) w' W (yZ 1 (qQ c x) v) ->
    cl 85 #[.agg (uF (yZ 0 (qQ c x) u) sx).toArray,.agg (uF (yZ 1 (qQ c x) v) W).toArray] w' (XZ fun k1 f1 t1 u1 y1 s1 wa=>C wa /\
     cl 85 #[.agg (uF (qS uG) sa).toArray,.agg #[vi k1,vi f1,vi t1,vu u1,vs y1,s1.v]] wa (XZ fun k1 f1 t1 u1 y1 s1 wb=>C wb /\
      cl 84 #[vi f,.agg #[vi k1,vi f1,vi t1,vu u1,vs y1,s1.v]] wb (fun e wc=>∃k1 f1 t1 u1 y1,∃s1:Sl,e=.returned (.agg #[vi k1,vi f1,vi t1,vu u1,vs y1,s1.v]) /\
       (∀j,j<6->zJ wc (p2.add j))/\∀A:af,A=ib wc p2 [vi k1,vi f1,vi t1,vu u1,vs y1,s1.v] ->
   ∃o:Int,∃q:Int,∃N:Int,∃G:Int,∃z:ByteArray,∃p:Sl,Row A p2 [(vi o),(vi q),(vi N),(vu G),(vs z),p.v]/\K o q N G z p A))):=by
   intro u v sx W w' hu hv E hX hY
   have s':=E.size
   refine(yO n.heap.size (yZ 0 (qQ c x) u) (yZ 1 (qQ c x) v) sx W w' Om hX hY).mono ?_
   rintro _ wa ⟨s1,rfl,h1,Ea⟩
   have sa':=Ea.size
   refine⟨_,_,_,_,_,s1,rfl,H _ _ (E.trans Ea) D,?_⟩
   refine(yO n.heap.size (qS uG) (yQ (yZ 0 (qQ c x) u)<|yZ 1 (qQ c x) v) sa s1 wa Om (hA.pure<|E.trans Ea) h1).mono ?_
   rintro _ wb ⟨s2,rfl,h2,Eb⟩
   have sb':=Eb.size
   refine⟨_,_,_,_,_,s2,rfl,H _ _ ((E.trans Ea).trans Eb) D,?_⟩
   refine(tG n.heap.size f (yQ (qS uG)<|yQ (yZ 0 (qQ c x) u)<|yZ 1 (qQ c x) v) s2 wb Om h2).mono ?_
   rintro _ wc ⟨s3,rfl,h3,Ec⟩
   exact⟨_,_,_,_,_,s3,rfl,Q _ s3 wc (((((m.trans g).trans E).trans Ea).trans Eb).trans Ec) h3 (by rw[<-hR,hu,hv];simp only[zR];rw[aw Om,aw Om,aw Om,bt F])⟩
  refine⟨fun hfk=>?_,fun hfk=>?_⟩
  .refine(uC n.heap.size 0 (.inl rfl) (qQ c x) first O B Om S).mono ?_
   rintro _ L ⟨sx,rfl,hX,a⟩
   have Y:=a.size
   refine⟨_,_,_,_,_,sx,rfl,H _ _ a D,Br.t hfk ?_⟩
   refine(uC n.heap.size 1 (.inr rfl) (qQ c x) second O L Om<|S.pure a).mono ?_
   rintro _ I ⟨W,rfl,hY,l⟩
   exact⟨_,_,_,_,_,W,rfl,H _ _ (a.trans l) D,rest first second sx W I Uc Uc (a.trans l) (hX.pure l) hY⟩
  .refine(uC n.heap.size 0 (.inl rfl) (qQ c x) ak O B Om S).mono ?_
   rintro _ L ⟨sx,rfl,hX,a⟩
   have Y:=a.size
   refine⟨_,_,_,_,_,sx,rfl,H _ _ a D,Br.f hfk ?_⟩
   refine(uC n.heap.size 1 (.inr rfl) (qQ c x) ak O L Om<|S.pure a).mono ?_
   rintro _ I ⟨W,rfl,hY,l⟩
   exact⟨_,_,_,_,_,W,rfl,H _ _ (a.trans l) D,rest ak ak sx W I Uc Uc (a.trans l) (hX.pure l) hY⟩
 .have F:k=5:=by simpa using F
  refine⟨C,hC,?_⟩
  intro i d
  have m:aq M i:=by rw[d];exact aj.drew M
  have r:C i:=Uc
  clear d
  have Z:=m.size
  refine⟨c,fun w' h=>(J w' h).1.cell rfl,?_⟩
  refine(uD n.heap.size _ i Om).mono ?_
  rintro _ B ⟨sa,rfl,hA,g⟩
  have s11:=g.size
  refine⟨_,_,_,_,_,sa,rfl,H _ _ g r,?_⟩
  refine(tC n.heap.size c B Om).mono ?_
  rintro _ L ⟨sb,rfl,hB,a⟩
  have Y:=a.size
  refine⟨_,_,_,_,_,sb,rfl,?_⟩
  refine(yO n.heap.size (qS yU) (ot c) sa sb L Om (hA.pure a) hB).mono ?_
  rintro _ I ⟨se,rfl,hE,l⟩
  have s13:=l.size
  refine⟨_,_,_,_,_,se,rfl,?_⟩
  refine(tG n.heap.size 2 (yQ (qS yU)<|ot c) se I Om hE).mono ?_
  rintro _ V ⟨s,rfl,P,U⟩
  exact⟨_,_,_,_,_,s,rfl,Q _ s V ((((m.trans g).trans a).trans l).trans U) P (by rw[<-hR];simp only[zR];rw[aw Om,aw Om,aw Om,aw Om,bt F])⟩
 .have F:k=6:=by simpa using F
  refine⟨C,hC,?_⟩
  intro i d
  have m:aq M i:=by rw[d];exact aj.drew M
  have r:C i:=Uc
  clear d
  have Z:=m.size
  refine⟨_,_,_,_,_,O,fun w' h=>(J w' h).2.row,?_⟩
  refine(uD n.heap.size _ i Om).mono ?_
  rintro _ B ⟨sa,rfl,hA,g⟩
  have s11:=g.size
  refine⟨_,_,_,_,_,sa,rfl,H _ _ g r,?_⟩
  refine(yO n.heap.size (qS uH) (qQ c x) sa O B Om hA<|hD5.pure<|m.trans g).mono ?_
  rintro _ I ⟨se,rfl,hE,l⟩
  have s13:=l.size
  refine⟨_,_,_,_,_,se,rfl,?_⟩
  refine(tG n.heap.size 2 (yQ (qS uH)<|qQ c x) se I Om hE).mono ?_
  rintro _ V ⟨s,rfl,P,U⟩
  exact⟨_,_,_,_,_,s,rfl,Q _ s V (((m.trans g).trans l).trans U) P (by rw[<-hR];simp only[zR];rw[aw Om,aw Om,aw Om,aw Om,aw Om,bt F])⟩
 .have hk1:k≠1:=by simpa using hk1
  have hk2:k≠2:=Uc
  have hk3:k≠3:=Uc
  have hk4:k≠4:=Uc
  have hk5:k≠5:=Uc
  have hk6:k≠6:=Uc
  refine⟨C,hC,?_⟩
  intro i d
  have m:aq M i:=by rw[d];exact aj.drew M
  have r:C i:=Uc
  clear d
  have Z:=m.size
  refine⟨c,fun w' h=>(J w' h).1.cell rfl,?_⟩
  refine(uD n.heap.size _ i Om).mono ?_
  rintro _ B ⟨sa,rfl,hA,g⟩
  have s11:=g.size
  refine⟨_,_,_,_,_,sa,rfl,H _ _ g r,?_⟩
  refine(tC n.heap.size c B Om).mono ?_
  rintro _ L ⟨sb,rfl,hB,a⟩
  have Y:=a.size
  refine⟨_,_,_,_,_,sb,rfl,?_⟩
  refine(yO n.heap.size (qS y0) (ot c) sa sb L Om (hA.pure a) hB).mono ?_
  rintro _ I ⟨s,rfl,P,l⟩
  exact⟨_,_,_,_,_,s,rfl,Q _ s I (((m.trans g).trans a).trans l) P (by rw[<-hR];simp only[zR];rw[aw hk1,aw hk2,aw hk3,aw hk4,aw hk5,aw hk6])⟩
def zZ(L:bw)(t ba:Int):gP×Bool:=if bj L t=ai/\(ar L t).ba=ba then(ar L t,ak)else(uZ,ai)
def zX(L:bw)(t:Int):(ByteArray×Int)×Bool:=
 (((zZ L (zZ L t 4).1.a 3).1.cf,(zZ L t 4).1.b),(zZ L t 4).2 ||(zZ L (zZ L t 4).1.a 3).2)
def qE(L:bw)(t:Int):(Int×ByteArray)×Bool:=
 let g:=zX L t
 let n:=zZ L g.1.2 4
 (((zZ L n.1.a 2).1.num,(zZ L n.1.b 3).1.cf),g.2 ||n.2 ||!decide (g.1.1=rN) ||(zZ L n.1.a 2).2 ||(zZ L n.1.b 3).2)
def uv(w:af)(q:Option ao)(L:bw)(F:NP):Prop:=match q with
 |some p=>zH w p L F
 |none=>L=[]/\∀b,¬F b
def uv.ext{G w w' p L F}(h:uv w p L F)(a:aj G w w')(c:∀b,F b->¬G b):uv w' p L F:=by
 cases p with
 |none=>exact h
 |some p=>exact zH.ext h a c
def uv.pure{w w' p L F}(h:uv w p L F)(a:aq w w'):uv w' p L F:=h.ext a fun _ _ h=>h
def uv.lt{w p L F}(h:uv w p L F){b}(a:F b):b<w.heap.size:=by
 cases p with
 |none=>exact absurd a<|h.2 b
 |some p=>exact zH.lt h a
def I7(p t w){L F}(j:uv w p L F)(g:Ok L):cl 109 #[vp p,vi t] w
  (XP fun k f n u x a b r w'=>((⟨k,f,n,u,x,a,b⟩:gP)=ar L t/\r=bj L t)/\aq w w'):=by
 cases p with
 |some p=>exact wh p t w j g
 |none =>
  obtain⟨rfl,_⟩:=j
  have d:bj [] t=ak:=by cases h:bj [] t;rfl;have:=zG.1 h;simp at this;omega
  have i:ar [] t=⟨0,0,0,0,⟨#[]⟩,0,0⟩:=by unfold ar get;split<;>simp[uZ]
  rw[d,i]
  refine PM bo t w _ ?_
  intro q c h1
  have o:aq w c:=aj.bu h1
  have b1:=az.fi h1
  have m:=fp.bf (aj.refl w) h1
  have e:cl 130 #[vp bo,vi t] c (XC fun r w'=>r=ak/\w'=c):=by
   refine OH _ _ c (fun r w'=>r=ak/\w'=c) ?_;have l:By bo t ak c (fun r w'=>r=ak/\w'=c):=by
    unfold By
    first
     |exact Br.f rfl ⟨rfl,rfl⟩
     |exact⟨rfl,rfl⟩
     |(exact Br.f rfl ⟨rfl,rfl⟩)
     |(refine Br.f rfl ?_;exact⟨rfl,rfl⟩)
   first
    |exact Br.f rfl l
    |exact Br.t rfl l
  refine e.mono ?_
  rintro _ _ ⟨_,rfl,rfl,rfl⟩
  exact⟨_,rfl,fun h1=>bx 7 b1 rfl rfl fun w' b E=>⟨_,_,_,_,_,_,_,b.row,⟨rfl,rfl⟩,o.bf m E⟩,fun h1=>Uc⟩
structure pr(w:af)(r:ao)(p:Option ao)(a:Bool)(L:bw)(F:NP):Prop where
 box:az w r [vp p,vb a] 212
 ew:uv w p L F
 ok:Ok L
 od:¬F r.block
def pr.pure{w w' r p bad L F}(h:pr w r p bad L F)(E:aq w w'):pr w' r p bad L F:=⟨h.box.pure E,h.ew.pure E,h.ok,h.od⟩
def tI(r p t ba bad w){L F}(g:pr w r p bad L F):
  cl 142 #[vp<|ab r,vi t,vi ba] w
   (XS fun k' E B z y v D w'=>(⟨k',E,B,z,y,v,D⟩:gP)=(zZ L t ba).1/\pr w' r p (bad ||(zZ L t ba).2) L F/\aj (·=r.block) w w'):=by
 suffices key:∀K:Int->Int->Int->Int->ByteArray->Int->Int->WP,(∀k' E B z y v D w',((⟨k',E,B,z,y,v,D⟩:gP)=(zZ L t ba).1/\pr w' r p (bad ||(zZ L t ba).2) L F/\aj (·=r.block) w w')->K k' E B z y v D w')->LH (ab r) t ba w K from
  Wr _ _ _ w _<|key _ fun _ _ _ _ _ _ _ _ h=>h
 intro K T
 intro H U h1
 have Q:aq w U:=aj.bu h1
 have o1:=fp.bf (aj.refl w) h1
 have lr:=g.box.lt
 have b1:=az.fi h1
 refine⟨r,rfl,p,(g.box.pure Q).dj,?_⟩
 refine(I7 p t U (g.ew.pure Q) g.ok).mono ?_
 rintro _ Y ⟨k',E,B,z,y,v,D,ok,rfl,⟨Z,M⟩,k⟩
 refine⟨_,_,_,_,_,_,_,_,rfl,?_⟩
 intro p2 w3 h3
 have N:=Q.trans k
 have o3:=fp.bf N h3
 have R:=fp.ne h3 (b1.pure k).bg
 refine bx 7 (az.fi h3) rfl rfl fun J b2 P=>?_
 have I:=(N.trans<|aj.bu h3).bf o3 P
 have V:=((b1.pure k).pure<|aj.bu h3).ext P R
 have q:=g.pure I
 clear P N k b1 h1 h3
 have m : zZ L t ba = (uZ, ai) -> zJ J (r.add 1) /\ ∀u, u = J.setCell (r.add 1) (vb ai) ->
   (∀j,j<7->zJ u (H.add j))/\∀A,A=ib u H [(vi 0),(vi 0),(vi 0),(vu 0),(vs (⟨#[]⟩:ByteArray)),(vi 0),(vi 0)] ->
   ∃c,∃d,∃n,∃f,∃a,∃C,∃x,Row A H [(vi c),(vi d),(vi n),(vu f),(vs a),(vi C),(vi x)] /\
   K c d n f a C x A:=by
  intro l
  refine⟨q.box.im Sm,?_⟩
  intro u o
  have X:az u r [vp p,vb ai] 212:=by rw[o];exact q.box.set 1 _
  have O:aj (·=r.block) J u:=by rw[o];have:=aj.setCell (w:=J) (r.add 1)<|vb ai;rw[zD]at this;exact this
  clear o
  have G:H.block≠r.block:=Om
  refine bx 7 (V.ext O G) rfl rfl fun A b6 s=>⟨_,_,_,_,_,_,_,b6.row,T _ _ _ _ _ _ _ _ ⟨by rw[l];rfl,⟨?_,?_,g.ok,g.od⟩,?_⟩⟩
  rw[l];simp only[Bool.or_true];exact X.ext s G.symm
  exact(q.ew.ext O fun b S e=>g.od<|e▸S).ext s fun b S e=>Oh<|g.ew.lt S
  exact(I.pure.trans O).ft s fun i hi h=>Om
 refine⟨fun h=>⟨r,rfl,?_⟩,fun h=>⟨k',b2.dj,fun h2=>⟨r,rfl,?_⟩,fun h2=>?_⟩⟩
 refine m ?_
 have:¬bj L t=ai:=Uc
 unfold zZ;rw[aw fun h=>this h.1]
 refine m ?_
 have:(ar L t).ba≠ba:=Uc
 unfold zZ;rw[aw fun h=>this h.2]
 have hi:bj L t=ai:=by rw[<-M];simpa using h
 have W:(ar L t).ba=ba:=Uc
 have l:zZ L t ba=(ar L t,ak):=by unfold zZ;rw[bt ⟨hi,W⟩]
 refine⟨_,_,_,_,_,_,_,b2.row,bx 7 V rfl rfl fun A b6 s=>⟨_,_,_,_,_,_,_,b6.row,T _ _ _ _ _ _ _ _ ⟨Uc,?_,?_⟩⟩⟩
 rw[l];simp only[Bool.or_false]
 exact g.pure<|I.bf o1 s
 exact(I.bf o1 s).pure
def Ke(r p t bad w){L F}(A:pr w r p bad L F):
  cl 141 #[vp<|ab r,vi t] w
   (XV fun x b w'=>(x,b)=(zX L t).1/\pr w' r p (bad ||(zX L t).2) L F/\aj (·=r.block) w w'):=by
 suffices key:∀K,(∀x b w',((x,b)=(zX L t).1/\pr w' r p (bad ||(zX L t).2) L F/\aj (·=r.block) w w')->K x b w')->Oy (ab r) t w K from
  V9 _ _ w _<|key _ fun _ _ _ h=>h
 intro K z
 refine(tI r p t 4 bad w A).mono ?_
 rintro _ n ⟨u,y,k,v,m,a1,b1,rfl,o,d,E⟩
 refine⟨_,_,_,_,_,_,_,rfl,?_⟩
 intro l I h2
 have o2:=fp.bf (aj.refl n) h2
 refine bx 7 (az.fi h2) rfl rfl fun j b3 D=>?_
 have C:=aj.bf (aj.bu h2) o2 D
 have l1:=d.box.lt
 refine⟨fun w'=>az w' l [vi u,vi y,vi k,vu v,vs m,vi a1,vi b1] 119,b3.pure<|aj.drew j,?_⟩
 intro g c
 have s:aq n g:=by rw[c];exact C.mh<|aj.drew j
 have B:az g l [vi u,vi y,vi k,vu v,vs m,vi a1,vi b1] 119:=by rw[c];exact b3.pure<|aj.drew j
 clear c
 refine⟨a1,fun w' h=>h.cell rfl,b1,fun w' h=>h.cell rfl,?_⟩
 refine(tI r p a1 3 _ g<|d.pure s).mono ?_
 rintro _ P ⟨M,J,N,H,O,a2,b2,rfl,f,e,q⟩
 refine⟨_,_,_,_,_,_,_,rfl,B.ext q Om,z _ _ _ ⟨?_,?_,?_⟩⟩
 have i:a1=(zZ L t 4).1.a:=by rw[<-o]
 have G:b1=(zZ L t 4).1.b:=Uc
 simp only[zX,<-i,<-G,<-f]
 have i:a1=(zZ L t 4).1.a:=by rw[<-o]
 rw[i]at e
 simp only[zX,<-Bool.or_assoc]
 exact e
 exact(E.mh s).trans q
def zL(L:bw)(t:Int):gq×Bool:=
 let n:=ar L t
 if(n.ba≠8/\n.ba≠9)\/1<n.cj\/n.to≠q6.wrap (1-n.cj)then(xF,ai)
 else(⟨1,n.cj,(qE L n.a).1.1,(qE L n.a).1.2,n.ba==9⟩,(qE L n.a).2)
def PY(r p t bad w){L F}(m:pr w r p bad L F):
  cl 189 #[vp<|ab r,vi t] w
   (XY fun c x w'=>(c,x)=(qE L t).1/\pr w' r p (bad ||(qE L t).2) L F/\aj (·=r.block) w w'):=by
 suffices key:∀K,(∀c x w',((c,x)=(qE L t).1/\pr w' r p (bad ||(qE L t).2) L F/\aj (·=r.block) w w')->K c x w')->MN (ab r) t w K from
  Z8 _ _ w _<|key _ fun _ _ _ h=>h
 intro K U
 refine(Ke r p t bad w m).mono ?_
 rintro _ Y ⟨o,n,rfl,J,C,E1⟩
 refine⟨_,_,rfl,?_⟩
 refine(tI r p n 4 _ Y C).mono ?_
 rintro _ w2 ⟨k2,f2,t2,u2,x2,a2,b2,rfl,hn,l,Z⟩
 refine⟨_,_,_,_,_,_,_,rfl,?_⟩
 intro G w3 h3
 have o3:=fp.bf (aj.refl w2) h3
 have l2:=l.box.lt
 refine bx 7 (az.fi h3) rfl rfl fun k b4 N=>?_
 have M:=aj.bf (aj.bu h3) o3 N
 have d:=l.pure M
 clear N h3
 have H:=mu Prod.snd J
 have ex:=mu Prod.fst J
 have S:a2=(zZ L n 4).1.a:=Uc
 have O:b2=(zZ L n 4).1.b:=Uc
 generalize D:(bad ||(zX L t).2 ||(zZ L n 4).2)=f at *
 have q:∀(v:Bool)g,(v=(f ||!decide (o=rN)))->az g r [vp p,vb v] 212->aj (·=r.block) k g->Fz (ab r) G g K:=by
  intro v g W B5 u;have y:pr g r p v L F:=⟨B5,d.ew.ext u fun b hb e=>m.od<|e▸hb,m.ok,m.od⟩;have Q:=b4.ext u Om;refine⟨fun w'=>az w' G [vi k2,vi f2,vi t2,vu u2,vs x2,vi a2,vi b2] 119,Q.pure<|aj.drew g,?_⟩;intro I i;have A:aq g I:=by rw[i];exact aj.drew g
  clear i;have V:=Q.pure A;refine⟨a2,fun w' h=>h.cell rfl,b2,fun w' h=>h.cell rfl,?_⟩;refine(tI r p a2 2 _ I<|y.pure A).mono ?_;rintro _ w7 ⟨k3,f3,t3,u3,x3,a3,b3,rfl,hn3,z,E⟩;have P:=V.ext E Om;refine⟨_,_,_,_,_,_,_,rfl,P,?_⟩;refine(tI r p b2 3 _ w7 z).mono ?_;rintro _ R ⟨k4,f4,t4,u4,x4,a4,b4',rfl,hn4,B,T⟩;have X:u3=(zZ L a2 2).1.num:=Uc;have e4:x4=(zZ L b2 3).1.cf:=Uc;refine⟨_,_,_,_,_,_,_,rfl,P.ext T Om,U _ _ _ ⟨?_,?_,?_⟩⟩;simp only[qE,<-H,<-S,<-O,<-X,<-e4];have:(bad ||(qE L t).2)=(v ||(zZ L a2 2).2 ||(zZ L b2 3).2):=by
   simp only[qE,<-H,<-S,<-O,<-ex,W,<-D,Bool.or_assoc]
  rw[this];exact B;exact((((E1.trans Z).mh M).trans u).mh A |>.trans E).trans T
 have j:∀v,az (k.setCell (r.add 1)<|vb v) r [vp p,vb v] 212/\aj (·=r.block) k (k.setCell (r.add 1)<|vb v):=fun v =>
  ⟨d.box.set 1 _,by have:=aj.setCell (w:=k) (r.add 1)<|vb v;rw[zD]at this;exact this⟩
 refine⟨r,rfl,f,d.box.cell rfl,fun h=>⟨r,rfl,d.box.im Sm,?_⟩,fun h=>⟨r,rfl,d.box.im Sm,?_⟩⟩
 grind
 intro R s
 have:=j<|!decide (o=rN)
 exact q (!decide (o=rN)) R Uc (by rw[s];exact this.1) Uc
def KR(r p t bad w){L F}(n:pr w r p bad L F):
  cl 140 #[vp<|ab r,vi t] w
   (YA fun k f c x N w'=>(⟨k,f,c,x,N⟩:gq)=(zL L t).1/\pr w' r p (bad ||(zL L t).2) L F/\aj (·=r.block) w w'):=by
 suffices key:∀K,(∀k f c x N w',((⟨k,f,c,x,N⟩:gq)=(zL L t).1/\pr w' r p (bad ||(zL L t).2) L F/\aj (·=r.block) w w')->K k f c x N w')->QE (ab r) t w K from
  Wh _ _ w _<|key _ fun _ _ _ _ _ _ h=>h
 intro K Y
 intro B Z h1
 have V:aq w Z:=aj.bu h1
 have o1:=fp.bf (aj.refl w) h1
 have lr:=n.box.lt
 have b1:=az.fi h1
 refine⟨r,rfl,p,(n.box.pure V).dj,?_⟩
 refine(I7 p t Z (n.ew.pure V) n.ok).mono ?_
 rintro _ w2 ⟨k,f,O,u,x,a,b,ok,rfl,⟨hn,hok⟩,q⟩
 refine⟨_,_,_,_,_,_,_,_,rfl,?_⟩
 intro S w3 h3
 have R:=V.trans q
 have o3:=fp.bf R h3
 have X:=fp.ne h3 (b1.pure q).bg
 refine bx 7 (az.fi h3) rfl rfl fun A b2 T=>?_
 have U:=(R.trans<|aj.bu h3).bf o3 T
 have c1:=((b1.pure q).pure<|aj.bu h3).ext T X
 have s:=n.pure U
 clear T R q b1 h1 h3
 have v:B.block≠r.block:=Om
 have o:zL L t=if(k≠8/\k≠9)\/1<f\/O≠q6.wrap (1-f)then(xF,ai)else(⟨1,f,(qE L a).1.1,(qE L a).1.2,k==9⟩,(qE L a).2):=by
  simp only[zL,<-hn]
 have z : ((k ≠ 8 /\ k ≠ 9) \/ 1 < f \/ O ≠ q6.wrap (1 - f)) -> zJ A (r.add 1) /\ ∀G, G = A.setCell (r.add 1) (vb ai) ->
   (∀j,j<5->zJ G (B.add j))/\∀J,J=ib G B [(vi 0),(vi 0),(vu 0),(vs (⟨#[]⟩:ByteArray)),(vb ak)] ->
   ∃g,∃l,∃I,∃d,∃m,Row J B [(vi g),(vi l),(vu I),(vs d),(vb m)] /\
   K g l I d m J:=by
  intro P
  rw[bt P]at o
  refine⟨s.box.im Sm,?_⟩
  intro G E
  have d5:az G r [vp p,vb ai] 212:=by rw[E];exact s.box.set 1 _
  have C:aj (·=r.block) A G:=by rw[E];have:=aj.setCell (w:=A) (r.add 1)<|vb ai;rw[zD]at this;exact this
  clear E
  refine bx 5 (c1.ext C v) rfl rfl fun J b6 D=>⟨0,0,0,⟨#[]⟩,ak,b6.row,Y _ _ _ _ _ _ ⟨by rw[o];rfl,⟨?_,?_,n.ok,n.od⟩,?_⟩⟩
  rw[o];simp only[Bool.or_true];exact d5.ext D v.symm
  exact(s.ew.ext C fun b M e=>n.od<|e▸M).ext D fun b M e=>Oh<|n.ew.lt M
  exact(U.pure.trans C).ft D fun i hi h=>Om
 have J1:¬((k≠8/\k≠9)\/1<f\/O≠q6.wrap (1-f))->Km (ab r) B S A K:=by
  intro P;rw[aw P]at o;refine⟨a,b2.cell rfl,?_⟩;refine(PY r p a bad A s).mono ?_;rintro _ G ⟨c,y,rfl,hd,H,C⟩;have d2:=b2.ext C Om;have d1:=c1.ext C v;have ec:=mu Prod.fst hd;have ey:=mu Prod.snd hd;refine⟨_,_,rfl,f,d2.cell rfl,k,d2.dj,bx 5 d1 rfl rfl fun J b6 D=>⟨1,f,c,y,k==9,b6.row,Y _ _ _ _ _ _ ⟨?_,?_,?_⟩⟩⟩;grind;rw[o];exact⟨H.box.ext D v.symm,H.ew.ext D fun b M e=>Oh<|n.ew.lt M,n.ok,n.od⟩;exact(U.pure.trans C).ft D fun i hi h=>Om
 have J3:∀W,W=((k !=8&&k !=9) ||decide (1<f))->FT (ab r) B S W A K:=by
  intro W hx;refine⟨fun h=>⟨r,rfl,z ?_⟩,fun h=>⟨O,b2.cell rfl,f,b2.cell rfl,fun h2=>⟨r,rfl,z ?_⟩,fun h2=>J1 ?_⟩⟩;grind;grind;grind
 have J2:∀Q,Q=(k !=8&&k !=9)->GN (ab r) B S Q A K:=by
  intro Q hx;exact⟨fun h=>J3 _ Uc,fun h=>⟨f,b2.cell rfl,J3 _ Uc⟩⟩
 exact⟨k,b2.dj,fun h=>⟨k,b2.dj,J2 _ Uc⟩,fun h=>J2 _ Uc⟩
def vP(L:bw)(bb n:Int):gq×Bool:=
 let m:=zZ L n 4
 let a:=zL L m.1.a
 let b:=zL L m.1.b
 (⟨4,bb,a.1.c,a.1.cf,a.1.gR ||b.1.gR⟩,m.2 ||a.2 ||b.2 ||a.1.cj !=0 ||b.1.cj !=1 ||a.1.c !=b.1.c ||!decide (a.1.cf=b.1.cf))
def qI(L:bw)(bb body:Int):gq×Bool:=
 let g:=zX L body
 if g.1.1=rQ/\bb=0 then(⟨3,0,(zZ L g.1.2 2).1.num,⟨#[]⟩,ak⟩,g.2 ||(zZ L g.1.2 2).2)
 else if g.1.1=yU/\bb=2 then(⟨5,0,(zZ L g.1.2 2).1.num,⟨#[]⟩,ak⟩,g.2 ||(zZ L g.1.2 2).2)
 else if g.1.1=uH/\bb=2 then(⟨6,0,(qE L g.1.2).1.1,(qE L g.1.2).1.2,ak⟩,g.2 ||(qE L g.1.2).2)
 else if g.1.1=rN/\bb<=1 then(⟨2,bb,(qE L body).1.1,(qE L body).1.2,ak⟩,g.2 ||(qE L body).2)
 else if g.1.1=uG/\bb<=1 then((vP L bb g.1.2).1,g.2 ||(vP L bb g.1.2).2)
 else(xF,ai)
def lz:List bk:=[vi 0,vi 0,vu 0,vs ⟨#[]⟩,vb ak]
def tj(c:af)(r:ao)(p:Option ao)(L:bw)(F:NP)(w:af)(bd:Bool)(l:List ao):Prop:=pr w r p bd L F/\aj (·=r.block) c w/\(∀q∈l,az w q [vi 0,vi 0,vu 0,vs ⟨#[]⟩,vb ak] 35/\c.heap.size<=q.block)/\l.Pairwise fun a b=>a.block≠b.block
def tj.call{w0 r p L F w bd l v bd'}(i:tj w0 r p L F w bd l)(b:r.block<w0.heap.size)(R:pr v r p bd' L F)(e:aj (·=r.block) w v):tj w0 r p L F v bd' l:=
 ⟨R,i.2.1.trans e,fun q a=>⟨(i.2.2.1 q a).1.ext e<|Oh<|(i.2.2.1 q a).2,(i.2.2.1 q a).2⟩,i.2.2.2⟩
def tj.bu{w0 r p L F w bd l v q}(i:tj w0 r p L F w bd l)(h:fp w (.cells #[vi 0,vi 0,vu 0,vs ⟨#[]⟩,vb ak] 35) q v):tj w0 r p L F v bd (q ::l):=by
 have o:=h.gp;have s:=i.2.1.size;refine⟨i.1.pure<|aj.bu h,i.2.1.mh<|aj.bu h,fun x hx=>?_,pairwise_cons.2 ⟨fun x hx=>Oh<|(i.2.2.1 x hx).1.lt,i.2.2.2⟩⟩;rcases mem_cons.1 hx with rfl|hx;exact⟨az.fi h,Om⟩;exact⟨(i.2.2.1 x hx).1.pure<|aj.bu h,(i.2.2.1 x hx).2⟩
def tj.sw{w0 r p L F w bd a b}(i:tj w0 r p L F w bd [a,b]):tj w0 r p L F w bd [b,a]:=⟨i.1,i.2.1,fun q c=>i.2.2.1 q Gd,by have:=i.2.2.2;simp at this|-;exact fun h=>this h.symm⟩
def Ue(r p p1 bb n bad w){L F}(X:pr w r p bad L F)(hB:az w p1 lz 35)(V:p1.block≠r.block)(K:Int->Int->Int->ByteArray->Bool->WP)(hK:∀S w',pr S r p (bad || (vP L bb n).2) L F->aj (·=r.block) w S->az w' p1 [vi 4,vi bb,vu (vP L bb n).1.c,vs (vP L bb n).1.cf,vb (vP L bb n).1.gR] 35->aj (·=p1.block) S w'->K 4 bb (vP L bb n).1.c (vP L bb n).1.cf (vP L bb n).1.gR w'):
  CL (ab r) bb p1 n ai w K:=by
 refine Br.t rfl ?_
 refine(tI r p n 4 bad w X).mono ?_
 rintro _ w11 ⟨k2,f2,t2,u2,x2,a2,b2,rfl,hn,O,P⟩
 refine⟨_,_,_,_,_,_,_,rfl,?_⟩
 intro p2 w12 G
 have o12:=fp.bf (aj.refl w11) G
 have l11:=O.box.lt
 have l1:=hB.lt
 have s11:=P.size
 refine bx 7 (az.fi G) rfl rfl fun U b13 E'=>?_
 have E13:=aj.bf (aj.bu G) o12 E'
 have hB11:=hB.ext P V
 clear E' G
 refine⟨fun w'=>az w' p2 [vi k2,vi f2,vi t2,vu u2,vs x2,vi a2,vi b2] 119,b13.pure<|aj.drew U,?_⟩
 intro m z
 have H:aq w11 m:=by rw[z];exact E13.mh<|aj.drew U
 have cN:az m p2 [vi k2,vi f2,vi t2,vu u2,vs x2,vi a2,vi b2] 119:=by rw[z];exact b13.pure<|aj.drew U
 clear z
 have N:=O.pure H
 have hB18:=hB11.pure H
 have s18:=H.size
 have Ew18:=P.mh H
 have ea:a2=(zZ L n 4).1.a:=Uc
 have eb:b2=(zZ L n 4).1.b:=Uc
 generalize hbad:(bad ||(zZ L n 4).2)=k at *
 have leaf : ∀ {B A w' ka u o s Z kb D J M W}, tj m r p L F w' (k || (zL L a2).2 || (zL L b2).2) [B, A] -> (⟨ka, u, o, s, Z⟩ : gq) = (zL L a2).1 -> (⟨kb, D, J, M, W⟩ : gq) = (zL L b2).1 ->
   (∀j,j<5->zJ w' (B.add j))/\∀I,I=ib w' B [vi ka,vi u,vu o,vs s,vb Z] ->
   (∀j,j<5->zJ I (A.add j))/\∀d,d=ib I A [vi kb,vi D,vu J,vs M,vb W]->sI (ab r) bb p1 B A d K:=by
  rintro B A w' ka u o s Z kb D J M W ⟨E,E',hq,hp⟩ hla hlb
  have⟨hA,hoA⟩:=hq B Sm
  have⟨hBb,hoB⟩:=hq A Sm
  have hAB:B.block≠A.block:=Uc
  have s':=E'.size
  refine bx 5 hA rfl rfl fun I bA C=>?_
  refine bx 5 (hBb.ext C hAB.symm) rfl rfl fun d bB y=>?_
  have dA:=bA.ext y hAB
  have g:pr d r p (k ||(zL L a2).2 ||(zL L b2).2) L F:=⟨(E.box.ext C Om).ext y Om,(E.ew.ext C fun b hb e=>Oh<|X.ew.lt hb).ext y fun b hb e=>Oh<|X.ew.lt hb,E.ok,E.od⟩
  have hB24:az d p1 lz 35:=((hB18.ext E' V).ext C Om).ext y Om
  have E24':=((Ew18.trans E').ft C fun i hi h=>Om).ft y fun i hi h=>Om
  have e1:u=(zL L a2).1.cj:=Uc
  have e2:D=(zL L b2).1.cj:=Uc
  have e3:o=(zL L a2).1.c:=Uc
  have e4:J=(zL L b2).1.c:=Uc
  have e5:s=(zL L a2).1.cf:=Uc
  have e6:M=(zL L b2).1.cf:=Uc
  have e7:Z=(zL L a2).1.gR:=Uc
  have e8:W=(zL L b2).1.gR:=Uc
  generalize hb3:(k ||(zL L a2).2 ||(zL L b2).2)=f at *
  have hsp:vP L bb n=(⟨4,bb,o,s,Z ||W⟩,(zZ L n 4).2 ||(zL L a2).2 ||(zL L b2).2 ||u !=0 ||D !=1 ||o !=J ||!decide (s=M)):=by
   simp only[vP,<-ea,<-eb,<-e1,<-e2,<-e3,<-e4,<-e5,<-e6,<-e7,<-e8]
  have hbb:(bad ||(vP L bb n).2)=(f ||u !=0 ||D !=1 ||o !=J ||!decide (s=M)):=Gd
  rw[hbb]at hK
  rw[hsp]at hK
  have J7:∀(v:Bool)Q,v=(f ||u !=0 ||D !=1 ||o !=J ||!decide (s=M))->az Q r [vp p,vb v] 212->aj (·=r.block) d Q->DW bb p1 B A Q K:=by
   intro v Q hv B5 Y;have hR5:pr Q r p v L F:=⟨B5,g.ew.ext Y fun b hb e=>X.od<|e▸hb,X.ok,X.od⟩;have T:=dA.ext Y Om;have dB5:=bB.ext Y Om;have h15:=hB24.ext Y V;refine⟨o,T.cell rfl,s,T.cell rfl,Z,T.cell rfl,fun hg=>?_,fun hg=>⟨W,dB5.cell rfl,?_⟩⟩
   .refine bx 5 h15 rfl rfl fun S b6 E6=>⟨4,bb,o,s,ai,b6.row,?_⟩;have:=hK Q S Uc (E24'.trans Y) Uc E6;rw[hg]at this;exact this
   .refine bx 5 h15 rfl rfl fun S b6 E6=>⟨4,bb,o,s,W,b6.row,?_⟩;have:=hK Q S Uc (E24'.trans Y) Uc E6;rw[hg]at this;exact this
  have setr:∀v,az (d.setCell (r.add 1)<|vb v) r [vp p,vb v] 212/\aj (·=r.block) d (d.setCell (r.add 1)<|vb v):=fun v =>
   ⟨g.box.set 1 _,by have:=aj.setCell (w:=d) (r.add 1)<|vb v;rw[zD]at this;exact this⟩
  have J10:∀x,x=(f ||u !=0 ||D !=1 ||o !=J)->Gx (ab r) bb p1 B A x d K:=by
   intro x hx;refine⟨fun h=>⟨r,rfl,g.box.im Sm,?_⟩,fun h=>⟨s,dA.cell rfl,M,bB.cell rfl,r,rfl,g.box.im Sm,?_⟩⟩
   .grind
   .grind
  have J9:∀x,x=(f ||u !=0 ||D !=1)->DM (ab r) bb p1 B A x d K:=by
   intro x hx;exact⟨fun h=>J10 _ Uc,fun h=>⟨o,dA.cell rfl,J,bB.cell rfl,J10 _ Uc⟩⟩
  have J8:∀x,x=(f ||u !=0)->GL (ab r) bb p1 B A x d K:=by
   intro x hx;exact⟨fun h=>J9 _ Uc,fun h=>⟨D,bB.cell rfl,J9 _ Uc⟩⟩
  exact⟨r,rfl,f,g.box.cell rfl,fun h=>J8 _ Uc,fun h=>⟨u,dA.cell rfl,J8 _ Uc⟩⟩
 have l18:=N.box.lt
 have i:tj m r p L F m k []:=⟨N,aj.refl _,nofun,List.Pairwise.nil⟩
 have cn:∀{v b l},tj m r p L F v b l->_:=fun j=>cN.ext j.2.1 Om
 refine⟨a2,fun w' h=>h.cell rfl,b2,fun w' h=>h.cell rfl,?_⟩
 repeat' first
  |exact leaf i a b
  |exact leaf i.sw a b
  |(refine(KR r p b2 _ _ i.1).mono ?_;rintro _ v ⟨_,_,_,_,_,rfl,b,R,e⟩;have i:=i.call l18 R e;refine⟨_,_,_,_,_,rfl,?_⟩)
  |(refine(KR r p a2 _ _ i.1).mono ?_;rintro _ v ⟨_,_,_,_,_,rfl,a,R,e⟩;have i:=i.call l18 R e;refine⟨_,_,_,_,_,rfl,cn i,?_⟩)
  |(intro q v h;have i:=i.bu h;refine⟨cn i,?_⟩)
  |refine⟨?_,?_⟩
def qd(L:bw)(t:Int):gq×Bool:=
 let n:=ar L t
 if n.ba=7 then qI L n.cj n.a else if n.ba=8\/n.ba=9 then zL L t
 else if((zX L t).2 ||!decide ((zX L t).1.1=y0))=ai then(xF,ai)
 else(⟨7,0,(zZ L (zX L t).1.2 2).1.num,⟨#[]⟩,ak⟩,(zZ L (zX L t).1.2 2).2)
def pK(L:bw)(t:Int):gq×Bool:=if(qd L t).2=ai then(xF,ak)else((qd L t).1,ai)
def jVD(r p bb body bad w){L F}(C:pr w r p bad L F):
  cl 139 #[vp<|ab r,vi bb,vi body] w
   (YA fun k f c x H w'=>(⟨k,f,c,x,H⟩:gq)=(qI L bb body).1/\pr w' r p (bad ||(qI L bb body).2) L F/\aj (·=r.block) w w'):=by
 suffices key:∀K,(∀k f c x H w',((⟨k,f,c,x,H⟩:gq)=(qI L bb body).1/\pr w' r p (bad ||(qI L bb body).2) L F/\aj (·=r.block) w w')->K k f c x H w')->OY (ab r) bb body w K from
  w_B _ _ _ w _<|key _ fun _ _ _ _ _ _ h=>h
 intro K hK
 intro q Z h1
 have E1:aq w Z:=aj.bu h1
 have o1:=fp.bf (aj.refl w) h1
 have lr:=C.box.lt
 have b1:az Z q lz 35:=az.fi h1
 have ne:q.block≠r.block:=Om
 refine(Ke r p body bad Z<|C.pure E1).mono ?_
 rintro _ u ⟨x,y,rfl,hg,B,P⟩
 refine⟨_,_,rfl,?_⟩
 have b2:=b1.ext P ne
 have E2:=E1.pure.trans P
 have ex:=mu Prod.fst hg
 have ey:=mu Prod.snd hg
 have A:qI L bb body=if x=rQ/\bb=0 then(⟨3,0,(zZ L y 2).1.num,⟨#[]⟩,ak⟩,(zX L body).2 ||(zZ L y 2).2)
  else if x=yU/\bb=2 then(⟨5,0,(zZ L y 2).1.num,⟨#[]⟩,ak⟩,(zX L body).2 ||(zZ L y 2).2)
  else if x=uH/\bb=2 then(⟨6,0,(qE L y).1.1,(qE L y).1.2,ak⟩,(zX L body).2 ||(qE L y).2)
  else if x=rN/\bb<=1 then(⟨2,bb,(qE L body).1.1,(qE L body).1.2,ak⟩,(zX L body).2 ||(qE L body).2)
  else if x=uG/\bb<=1 then((vP L bb y).1,(zX L body).2 ||(vP L bb y).2)
  else(xF,ai):=by
  simp only[qI,<-ex,<-ey]
 clear ex ey hg
 generalize hbg:(zX L body).2=g2 at *
 have M : ∀(k f c:Int)z(H v:Bool)W, qI L bb body = (⟨k, f, c, z, H⟩, v) -> pr W r p (bad || v) L F -> aj (· = r.block) u W ->
   (∀j,j<5->zJ W (q.add j))/\∀T,T=ib W q [(vi k),(vi f),(vu c),(vs z),(vb H)] ->
   ∃d,∃g,∃s,∃a,∃l,Row T q [(vi d),(vi g),(vu s),(vs a),(vb l)] /\
   K d g s a l T:=by
  intro k f c z H v W hs S R
  refine bx 5 (b2.ext R ne) rfl rfl fun T b6 U=>⟨k,f,c,z,H,b6.row,hK _ _ _ _ _ _ ⟨Uc,?_,?_⟩⟩
  rw[hs];exact⟨S.box.ext U ne.symm,S.ew.ext U fun b E e=>Oh<|C.ew.lt E,C.ok,C.od⟩
  exact(E2.trans R).ft U fun i hi h=>Om
 have o : ∀k, qI L bb body = (⟨k, 0, (zZ L y 2).1.num, ⟨#[]⟩, ak⟩, g2 || (zZ L y 2).2) ->
   cl 142 #[vp<|ab r,vi y,vi 2] u (fun e O=>∃G,∃I,∃V,∃D,∃J,∃rA1,∃rB1,e=.returned (.agg #[(vi G),(vi I),(vi V),(vu D),(vs J),(vi rA1),(vi rB1)]) /\
    (∀j,j<5->zJ O (q.add j))/\∀w4,w4=ib O q [(vi k),(vi 0),(vu D),(vs (⟨#[]⟩:ByteArray)),(vb ak)] ->
    ∃d,∃g,∃s,∃a,∃l,Row w4 q [(vi d),(vi g),(vu s),(vs a),(vb l)] /\
    K d g s a l w4):=by
  intro k hs
  refine(tI r p y 2 _ u B).mono ?_
  rintro _ O ⟨k3,f3,t3,u3,x3,a3,b3,rfl,hn3,hR3,E3⟩
  have e3:u3=(zZ L y 2).1.num:=Uc
  refine⟨_,_,_,_,_,_,_,rfl,?_⟩
  rw[<-e3]at hs
  exact M _ _ _ _ _ _ O hs Gd E3
 have n : ∀k f t, qI L bb body = (⟨k, f, (qE L t).1.1, (qE L t).1.2, ak⟩, g2 || (qE L t).2) ->
   cl 189 #[vp<|ab r,vi t] u (fun e w7=>∃r4,∃r5,e=.returned (.tuple #[(vu r4),(vs r5)]) /\
    (∀j,j<5->zJ w7 (q.add j))/\∀w8,w8=ib w7 q [(vi k),(vi f),(vu r4),(vs r5),(vb ak)] ->
    ∃d,∃g,∃s,∃a,∃l,Row w8 q [(vi d),(vi g),(vu s),(vs a),(vb l)] /\
    K d g s a l w8):=by
  intro k f t hs
  refine(PY r p t _ u B).mono ?_
  rintro _ O ⟨c,z,rfl,hd,hR3,E3⟩
  have e1:=mu Prod.fst hd
  have e2:=mu Prod.snd hd
  refine⟨_,_,rfl,?_⟩
  rw[<-e1,<-e2]at hs
  exact M _ _ _ _ _ _ O hs Uc E3
 have J5:∀b,b=decide (x=uG/\bb<=1)->¬(x=rQ/\bb=0)->¬(x=yU/\bb=2)->¬(x=uH/\bb=2)->¬(x=rN/\bb<=1)->CL (ab r) bb q y b u K:=by
  intro b E h1 h2 h3 X;rw[aw h1,aw h2,aw h3,aw X]at A;cases hbv:b with
  |true =>
   have Y:x=uG/\bb<=1:=ij Uc
   rw[bt Y]at A
   refine Ue r p q bb y _ u B b2 ne K fun T w' Q U b' E'=>hK _ _ _ _ _ _ ⟨by rw[A];rfl,?_,?_⟩
   rw[A];simp only[<-Bool.or_assoc]
   exact⟨Q.box.ext E' ne.symm,Q.ew.ext E' fun b E e=>Oh<|C.ew.lt E,C.ok,C.od⟩
   exact(E2.trans U).ft E' fun i hi h=>Om
  |false =>
   have Y:¬(x=uG/\bb<=1):=il Uc
   rw[aw Y]at A
   refine Br.f rfl ⟨r,rfl,B.box.im Sm,?_⟩
   intro N m
   have d5:az N r [vp p,vb ai] 212:=by rw[m];exact B.box.set 1 _
   have R:aj (·=r.block) u N:=by rw[m];have:=aj.setCell (w:=u) (r.add 1)<|vb ai;rw[zD]at this;exact this
   exact M 0 0 0 ⟨#[]⟩ ak ai N A (by rw[Bool.or_true];exact⟨d5,B.ew.ext R fun b E e=>C.od<|e▸E,C.ok,C.od⟩) R
 have J4:∀b,b=decide (x=rN/\bb<=1)->¬(x=rQ/\bb=0)->¬(x=yU/\bb=2)->¬(x=uH/\bb=2)->GB (ab r) bb body q x y b u K:=by
  intro b E h1 h2 h3;refine⟨fun h=>n 2 bb body ?_,fun h=>?_⟩;grind;have X:¬(x=rN/\bb<=1):=il Uc;exact⟨fun m=>J5 _ (by have:x=uG:=ij m;simp[this]) h1 h2 h3 X,fun m=>J5 _ (by have:¬x=uG:=il m;simp[this]) h1 h2 h3 X⟩
 have J3:∀b,b=decide (x=uH/\bb=2)->¬(x=rQ/\bb=0)->¬(x=yU/\bb=2)->GO (ab r) bb body q x y b u K:=by
  intro b E h1 h2;refine⟨fun h=>n 6 0 y ?_,fun h=>?_⟩;grind;have h3:¬(x=uH/\bb=2):=il Uc;exact⟨fun m=>J4 _ (by have:x=rN:=ij m;simp[this]) h1 h2 h3,fun m=>J4 _ (by have:¬x=rN:=il m;simp[this]) h1 h2 h3⟩
 have J2:∀b,b=decide (x=yU/\bb=2)->¬(x=rQ/\bb=0)->Fk (ab r) bb body q x y b u K:=by
  intro b E h1;refine⟨fun h=>o 5 ?_,fun h=>?_⟩;grind;have h2:¬(x=yU/\bb=2):=il Uc;exact⟨fun m=>J3 _ (by have:x=uH:=ij m;simp[this];rfl) h1 h2,fun m=>J3 _ (by have:¬x=uH:=il m;simp[this]) h1 h2⟩
 have J1:∀b,b=decide (x=rQ/\bb=0)->GD (ab r) bb body q x y b u K:=by
  intro b E;refine⟨fun h=>o 3 ?_,fun h=>?_⟩;grind;have h1:¬(x=rQ/\bb=0):=il Uc;exact⟨fun m=>J2 _ (by have:x=yU:=ij m;simp[this];rfl) h1,fun m=>J2 _ (by have:¬x=yU:=il m;simp[this]) h1⟩
 exact⟨fun m=>J1 _ (by have:x=rQ:=ij m;simp[this];rfl),fun m=>J1 _ (by have:¬x=rQ:=il m;simp[this])⟩
def Wb(p t w){L F}(hP:uv w p L F)(R:Ok L):
  cl 73 #[vp p,vi t] w
   (YB fun k f c x fk ok w'=>((⟨k,f,c,x,fk⟩:gq),ok)=pK L t/\aq w w'):=by
 suffices key:∀K:Int->Int->Int->ByteArray->Bool->Bool->WP,(∀k f c x fk ok w',(((⟨k,f,c,x,fk⟩:gq),ok)=pK L t/\aq w w')->K k f c x fk ok w')->NO p t w K from
  Xt _ _ w _<|key _ fun _ _ _ _ _ _ _ h=>h
 intro K hK
 intro J w1 h1 q w2 h2
 have E1:aq w w1:=aj.bu h1
 have E2:=E1.trans<|aj.bu h2
 have o2:=fp.bf (aj.refl w) h1
 have o3:=fp.bf E1 h2
 have n23:=fp.ne h2 (az.fi h1).bg
 have b2:az w2 J lz 35:=(az.fi h1).pure<|aj.bu h2
 have M:¬F q.block:=fun h=>Oh<|hP.lt h
 have U:pr w2 q p ak L F:=⟨az.fi h2,hP.pure E2,R,M⟩
 refine(I7 p t w2 U.ew R).mono ?_
 rintro _ w3 ⟨k,f,t',u,x,a,b,ok,rfl,⟨hn,_⟩,E23⟩
 refine⟨_,_,_,_,_,_,_,_,rfl,?_⟩
 intro p4 w4 h4
 have E3:=E23
 have o4:=fp.bf (aj.refl w3) h4
 have l3:=(U.pure E3).box.lt
 have l2:=(b2.pure E3).lt
 refine bx 7 (az.fi h4) rfl rfl fun w5 b4 E'=>?_
 have E5:=aj.bf (aj.bu h4) o4 E'
 intro E H Y
 have E6:=E5.trans<|aj.bu Y
 have o5:=fp.bf E5 Y
 have n45:=fp.ne Y b4.bg
 have c4:=b4.pure (aj.bu Y:aq w5 H)
 have c5:az H E lz 35:=az.fi Y
 have c2:=b2.pure<|E3.trans E6
 have Q:=U.pure<|E3.trans E6
 have E26:=(E2.trans E3).trans E6
 clear E' h1 h2 h4 Y
 have G:q.block≠E.block:=Om
 have n25:J.block≠E.block:=Om
 have X:qd L t=if k=7 then qI L f a else if k=8\/k=9 then zL L t else if((zX L t).2 ||!decide ((zX L t).1.1=y0))=ai then(xF,ai)else(⟨7,0,(zZ L (zX L t).1.2 2).1.num,⟨#[]⟩,ak⟩,(zZ L (zX L t).1.2 2).2):=by
  simp only[qd,<-hn]
 have z : ∀o, (qd L t).2 = ai -> aj (fun b => b = q.block \/ b = E.block) H o -> (∀ j, j < 5 -> zJ o (J.add j)) /\ ∀P, P = ib o J [(vi 0), (vi 0), (vu 0), (vs (⟨#[]⟩ : ByteArray)), (vb ak)] ->
   ∃d,∃g,∃I,∃m,∃n,Row P J [(vi d),(vi g),(vu I),(vs m),(vb n)]/\K d g I m n ak P:=by
  intro o hb s
  refine bx 5 (c2.ext s Uc) rfl rfl fun P b9 E9=>⟨0,0,0,⟨#[]⟩,ak,b9.row,hK _ _ _ _ _ _ _ ⟨?_,?_⟩⟩
  rw[pK,bt hb];rfl
  exact(E26.ft s Gd).ft E9 fun i hi h=>Om
 have y : ∀o(l:gq), qd L t = (l, ak) -> aj (fun b => b = q.block \/ b = E.block) H o -> az o E [vi l.ba, vi l.cj, vu l.c, vs l.cf, vb l.gR] 35 ->
   ∃B,∃D,∃vC1,∃A,∃C,Row o E [(vi B),(vi D),(vu vC1),(vs A),(vb C)] /\
   (∀j,j<5->zJ o (J.add j))/\∀P,P=ib o J [(vi B),(vi D),(vu vC1),(vs A),(vb C)] ->
   ∃d,∃g,∃I,∃m,∃n,Row P J [(vi d),(vi g),(vu I),(vs m),(vb n)]/\K d g I m n ai P:=by
  intro o l hb s B8
  refine⟨_,_,_,_,_,B8.row,?_⟩
  refine bx 5 (c2.ext s Uc) rfl rfl fun P b9 E9=>⟨l.ba,l.cj,l.c,l.cf,l.gR,b9.row,hK _ _ _ _ _ _ _ ⟨?_,?_⟩⟩
  rw[pK,aw Uc,hb]
  exact(E26.ft s fun i hi h=>Uc).ft E9 fun i hi h=>Om
 have V:∀{N o:af},aj (·=q.block) H N->aj (·=E.block) N o->aj (fun b=>b=q.block\/b=E.block) H o:=fun h h'=>(h.mono fun _ _ h=>.inl h).ft h' fun _ _ h=>.inr h
 have J1p:∀b,b=ai->k≠7->(k=8\/k=9)->BM t J q E b H K:=by
  rintro _ rfl Z S;rw[aw Z,bt S]at X;refine Br.t rfl ?_;refine(KR q p t ak H Q).mono ?_;rintro _ N ⟨k7,f7,c7,W,g7,rfl,hl,r,O⟩;refine⟨_,_,_,_,_,rfl,bx 5 (c5.ext O G.symm) rfl rfl fun o b8 s=>⟨(zL L t).2,?_,fun h=>z o Uc<|V O s,fun h=>y o ⟨k7,f7,c7,W,g7⟩ Uc (V O s) b8⟩⟩;have:=(r.box.ext s G).cell (i:=1) rfl;simpa using this
 have J1t:∀b,b=ak->k≠7->¬(k=8\/k=9)->BM t J q E b H K:=by
  rintro _ rfl Z S;rw[aw Z,aw S]at X;refine Br.f rfl ?_;refine(Ke q p t ak H Q).mono ?_;rintro _ N ⟨W,y7,rfl,hg,r,O⟩;have ex:=mu Prod.fst hg;have ey:=mu Prod.snd hg;rw[<-ex,<-ey]at X;have setr:∀v,az (N.setCell (q.add 1)<|vb v) q [vp p,vb v] 212/\aj (·=q.block) N (N.setCell (q.add 1)<|vb v):=fun v =>
   ⟨r.box.set 1 _,by have:=aj.setCell (w:=N) (q.add 1)<|vb v;rw[zD]at this;exact this⟩
  have J3:∀(v:Bool)o,v=((zX L t).2 ||!decide (W=y0))->az o q [vp p,vb v] 212->aj (·=q.block) N o->ED J q E y7 o K:=by
   intro v o hv B8 s;have E68:=O.trans s;have E68':aj (fun b=>b=q.block\/b=E.block) H o:=E68.mono fun _ _ h=>.inl h;refine⟨v,B8.cell rfl,fun h=>⟨v,B8.cell rfl,fun _=>z o Uc E68',fun h'=>Uc⟩,fun h=>?_⟩;rw[<-hv,aw Uc]at X;subst h;refine(tI q p y7 2 ak o ⟨B8,r.ew.ext s fun b hb e=>M<|e▸hb,R,M⟩).mono ?_;rintro _ w16 ⟨k3,f3,t3,u3,x3,a3,b3,rfl,hn3,hR3,E16⟩;have e3:u3=(zZ L y7 2).1.num:=Uc;rw[<-e3]at X;have E616:=E68.trans E16;refine⟨_,_,_,_,_,_,_,rfl,bx 5 (c5.ext E616 G.symm) rfl rfl fun w17 b17 T=>⟨(zZ L y7 2).2,?_,fun h=>z w17 Uc<|V E616 T,fun h=>y w17 ⟨7,0,u3,⟨#[]⟩,ak⟩ Uc (V E616 T) b17⟩⟩;have:=(hR3.box.ext T G).cell (i:=1) rfl;simpa using this
  refine⟨_,_,rfl,(zX L t).2,?_,fun h=>⟨r.box.im Sm,?_⟩,fun h=>⟨r.box.im Sm,?_⟩⟩;have:=r.box.cell (i:=1) rfl;simpa using this;grind;intro w22 hw;exact J3 (!decide (W=y0)) w22 Uc (by rw[hw];exact(setr _).1) Uc
 refine⟨k,c4.dj,fun h=>⟨f,c4.cell rfl,a,c4.cell rfl,?_⟩,fun h=>⟨fun h8=>?_,fun h8=>?_⟩⟩
 have Z:k=7:=by simpa using h
 rw[bt Z]at X
 refine(jVD q p f a ak H Q).mono ?_
 rintro _ N ⟨k7,f7,c7,W,g7,rfl,hl,r,O⟩
 refine⟨_,_,_,_,_,rfl,bx 5 (c5.ext O G.symm) rfl rfl fun o b8 s=>⟨(qI L f a).2,?_,fun h=>z o Uc<|V O s,fun h=>y o ⟨k7,f7,c7,W,g7⟩ Uc (V O s) b8⟩⟩
 have:=(r.box.ext s G).cell (i:=1) rfl
 simpa using this
 grind
 grind
def jPH(p t w){L F}(b:zH w p L F)(a:Ok L):
  cl 73 #[vp<|ab p,vi t] w
   (YB fun k f c x d ok w'=>((⟨k,f,c,x,d⟩:gq),ok)=pK L t/\aq w w'):=Wb (ab p) t w b a
def jf(V:Int->Bool)(t:Int)(b:Bool):Int->Bool:=fun x=>if x=t then b else V x
def yR(L:bw):Nat->Int->(Int->Bool)×List Int->(Int->Bool)×List Int
 |0,_,st=>st
 | n + 1, t, st => if bj L t = ai /\ st.1 t = ak then
   let c:=yR L n (ar L t).b<|yR L n (ar L t).a (jf st.1 t ai,st.2)
   (c.1,c.2++[t])
  else st
def gz(L:bw)(t:Int):List Int:=(yR L (t.toNat+1) t (fun _=>ak,[])).2
def mw.head{L t y}(h:mw L t y):y=t\/∃k∈zB (ar L t),mw L k y:=by
 induction h with
 |refl=>exact .inl rfl
 |ku _ a b =>
  rcases b with rfl|⟨k,h1,h2⟩
  exact .inr ⟨_,a,.refl _⟩
  exact .inr ⟨k,h1,h2.ku a⟩
def mw.le{L}(a:Wf L){t y}(ht:bj L t=ai)(h:mw L t y):bj L y=ai/\y<=t:=by
 induction h with
 |refl=>exact⟨ht,Int.le_refl _⟩
 |ku _ c b =>
  have:=(a.dr b.1).2.2.2.2.1 _ c
  exact⟨this.1,Om⟩
def Nb{n k}(h:k∈zB n):k=n.a\/k=n.b:=by
 unfold zB at h;have:=List.mem_of_mem_take h;simpa using this
def DA{L}(c:Wf L){t k}(ht:bj L t=ai)(h:k=(ar L t).a\/k=(ar L t).b)(f:bj L k=ai):k∈zB (ar L t):=by
 have h1:=(c.dr ht).2.1;have h2:=(c.dr ht).2.2.1;have d:k≠0:=Oh<|(zG.1 f).1;unfold zB;rcases qW (ar L t).ba with e|e|e;grind;have b0:=h2 Om;rcases h with h|h;rw[e,h];simp;grind;rw[e];rcases h with h|h<;>simp[h]
structure vy(L:bw)(st:(Int->Bool)×List Int):Prop where
 AP:∀x∈st.2,st.1 x=ai
 wt:∀x∈st.2,∀y,mw L x y->y∈st.2
 nd:st.2.Nodup
 kq:∀x∈st.2,bj L x=ai
structure jaU(L:bw)(t:Int)(st a:(Int->Bool)×List Int):Prop extends vy L a where
 me:∃M,a.2=st.2++M/\∀x∈M,mw L t x/\bj L t=ai
 ly:∀x,st.1 x=ai->a.1 x=ai
 sW:∀x,a.1 x=ai->st.1 x=ai\/x∈a.2
 all:bj L t=ai->∀y,mw L t y->y∈a.2
def wu{L}(i:Wf L):∀(n:Nat) (t:Int) (st:(Int->Bool)×List Int),t.toNat<n->vy L st->(∀x,st.1 x=ai->x<=t->x∈st.2)->jaU L t st (yR L n t st):=by
 intro n;induction n with
 |zero=>intro t st h;omega
 |succ n z =>
  intro t st I bh s
  rw[yR]
  by_cases p:bj L t=ai/\st.1 t=ak
  rw[bt p]
  have⟨c,q⟩:=p
  have G:=(zG.1 c).1
  have d:=(i.dr c).2.2.2.2.1
  have f:∀k,k=(ar L t).a\/k=(ar L t).b->k<t:=by
   intro k g;cases F:bj L k with
   |true=>exact(d k<|DA i c g F).2
   |false =>
    have h1:=(i.dr c).2.1
    have h2:=(i.dr c).2.2.1
    rcases qW (ar L t).ba with e|e|e
    grind
    have b0:=h2 Om
    rcases g with g|g
    have:=(d k (by unfold zB;rw[e,g];simp)).2;exact this
    omega
    exact(d k (by unfold zB;rw[e];rcases g with g|g<;>simp[g])).2
  have o1:vy L (jf st.1 t ai,st.2):=⟨fun x hx=>by simp only[jf];split<;>simp[bh.AP x hx],bh.wt,bh.nd,bh.kq⟩
  have r1:=z (ar L t).a (jf st.1 t ai,st.2) (Oh<|f _<|.inl rfl) o1 (fun x hx r=>by
   have:=f _<|.inl rfl;simp only[jf]at hx;rw[aw Om]at hx;exact s x hx Om)
  generalize yR L n (ar L t).a (jf st.1 t ai,st.2)=s1 at *
  have r2:=z (ar L t).b s1 (Oh<|f _<|.inr rfl) r1.tovy (fun x hx r=>by
   have:=f _<|.inr rfl;rcases r1.sW x hx with h|h;simp only[jf]at h;rw[aw Om]at h;have:=s x h Om;have⟨M,e,_⟩:=r1.me;simp only at e;rw[e];exact List.mem_append_left _ this;exact h)
  generalize yR L n (ar L t).b s1=B at *
  have⟨D,v,A⟩:=r1.me
  have⟨E,w,C⟩:=r2.me
  simp only at v
  have u:=r2.ly t<|r1.ly t (by simp[jf])
  have H:t∉B.2:=by
   rw[w,v];intro h;rcases List.mem_append.1 h with h|h;rcases List.mem_append.1 h with h|h;have:=bh.AP t h;rw[q]at this;cases this;have⟨h1,h2⟩:=A t h;have:=(h1.le i h2).2;have:=f _<|.inl rfl;omega;have⟨h1,h2⟩:=C t h;have:=(h1.le i h2).2;have:=f _<|.inr rfl;omega
  have j:∀y,mw L t y->y∈B.2++[t]:=by
   intro y l;rcases l.head with rfl|⟨k,g,hs⟩;simp;refine List.mem_append_left _ ?_;have m:=(d k g).1;rcases Nb g with rfl|rfl;rw[w];exact List.mem_append_left _<|r1.all m y hs;exact r2.all m y hs
  refine⟨⟨fun x hx=>?_,fun x hx y l=>?_,?_,fun x hx=>?_⟩,⟨D++E++[t],Uc,fun x hx=>?_⟩,fun x hx=>?_,fun x hx=>?_,fun _=>j⟩
  simp only[List.mem_append,List.mem_singleton]at hx
  rcases hx with hx|rfl
  exact r2.AP x hx
  exact u
  simp only[List.mem_append,List.mem_singleton]at hx
  rcases hx with hx|rfl
  exact List.mem_append_left _<|r2.wt x hx y l
  exact j y l
  rw[List.nodup_append]
  exact⟨r2.nd,Sm,fun x hx y l e=>Uc⟩
  simp only[List.mem_append,List.mem_singleton]at hx
  rcases hx with hx|rfl
  exact r2.kq x hx
  exact c
  refine⟨?_,c⟩
  simp only[List.mem_append,List.mem_singleton]at hx
  rcases hx with(hx|hx)|rfl
  have⟨h1,h2⟩:=A x hx
  exact(mw.ku (.refl t)<|DA i c (.inl rfl) h2).trans h1
  have⟨h1,h2⟩:=C x hx
  exact(mw.ku (.refl t)<|DA i c (.inr rfl) h2).trans h1
  exact .refl _
  exact r2.ly x<|r1.ly x (by simp only[jf];split<;>simp[hx])
  rcases r2.sW x hx with h|h
  rcases r1.sW x h with o|o
  simp only[jf]at o
  split at o
  grind
  exact .inl o
  grind
  grind
  rw[aw p]
  refine⟨bh,⟨[],Sm,Sm⟩,fun x h=>h,fun x h=>.inl h,fun c y l=>?_⟩
  have q:st.1 t=ai:=Gd
  exact bh.wt t (s t q<|Int.le_refl _) y l
def A6{L}(b:Wf L){t x}:x∈gz L t↔bj L t=ai/\mw L t x:=by
 have r:=wu b (t.toNat+1) t (fun _=>ak,[]) Om ⟨Sm,Sm,Sm,Sm⟩ Sm;constructor;intro h;have⟨M,e,a⟩:=r.me;unfold gz at h;rw[e]at h;simp only[List.nil_append]at h;exact⟨(a x h).2,(a x h).1⟩;intro h;exact r.all h.1 x h.2
def tA{L}(a:Wf L)(t):(gz L t).length<=L.length:=by
 have r:=wu a (t.toNat+1) t (fun _=>ak,[]) Om ⟨Sm,Sm,Sm,Sm⟩ Sm;exact xD r.nd r.kq
def Ord(L:bw)(l:List Int):Prop:=∀cd z a,l=cd++z ::a->∀k∈zB (ar L z),k∈cd
def Ord.te{L l t}(h:Ord L l)(ht:∀k∈zB (ar L t),k∈l):Ord L (l++[t]):=by
 intro cd z b e k d;rcases List.eq_nil_or_concat b with rfl|⟨a,y,rfl⟩;have:=List.append_inj' e rfl;obtain⟨rfl,c⟩:=this;simp only[List.cons.injEq,and_true]at c;subst c;exact ht k d;have f:l++[t]=(cd++z ::a)++[y]:=by rw[e];simp
 have:=List.append_inj' f rfl;exact h cd z a this.1 k d
def Xq{L}(i:Wf L):∀(n:Nat) (t:Int) (st:(Int->Bool)×List Int),t.toNat<n->vy L st->(∀x,st.1 x=ai->x<=t->x∈st.2)->Ord L st.2->Ord L (yR L n t st).2:=by
 intro n;induction n with
 |zero=>intro t st h;omega
 |succ n o =>
  intro t st z bh q r
  rw[yR]
  by_cases l:bj L t=ai/\st.1 t=ak
  rw[bt l]
  have⟨f,y⟩:=l
  have w:=(zG.1 f).1
  have c:=(i.dr f).2.2.2.2.1
  have g:∀k,k=(ar L t).a\/k=(ar L t).b->k<t:=by
   intro k d;cases v:bj L k with
   |true=>exact(c k<|DA i f d v).2
   |false =>
    have h1:=(i.dr f).2.1
    have h2:=(i.dr f).2.2.1
    rcases qW (ar L t).ba with e|e|e
    grind
    have b0:=h2 Om
    rcases d with d|d
    have:=(c k (by unfold zB;rw[e,d];simp)).2;exact this
    omega
    exact(c k (by unfold zB;rw[e];rcases d with d|d<;>simp[d])).2
  have o1:vy L (jf st.1 t ai,st.2):=⟨fun x hx=>by simp only[jf];split<;>simp[bh.AP x hx],bh.wt,bh.nd,bh.kq⟩
  have p:∀x,(jf st.1 t ai,st.2).1 x=ai->x<=(ar L t).a->x∈(jf st.1 t ai,st.2).2:=fun x hx m=>by
   have:=g _<|.inl rfl;simp only[jf]at hx;rw[aw Om]at hx;exact q x hx Om
  have n1:(ar L t).a.toNat<n:=Oh<|g _<|.inl rfl
  have n2:(ar L t).b.toNat<n:=Oh<|g _<|.inr rfl
  have r1:=wu i n (ar L t).a (jf st.1 t ai,st.2) n1 o1 p
  have d1:=o (ar L t).a (jf st.1 t ai,st.2) n1 o1 p r
  generalize yR L n (ar L t).a (jf st.1 t ai,st.2)=s1 at *
  have s:∀x,s1.1 x=ai->x<=(ar L t).b->x∈s1.2:=fun x hx m=>by
   have:=g _<|.inr rfl;rcases r1.sW x hx with h|h;simp only[jf]at h;rw[aw Om]at h;have:=q x h Om;have⟨M,e,_⟩:=r1.me;simp only at e;rw[e];exact List.mem_append_left _ this;exact h
  have r2:=wu i n (ar L t).b s1 n2 r1.tovy s
  have d2:=o (ar L t).b s1 n2 r1.tovy s d1
  generalize yR L n (ar L t).b s1=B at *
  have⟨A,u,_⟩:=r2.me
  refine d2.te fun k d=>?_
  have j:=(c k d).1
  rcases Nb d with rfl|rfl
  rw[u];exact List.mem_append_left _<|r1.all j _<|.refl _
  exact r2.all j _<|.refl _
  rw[aw l];exact r
def I2{L}(b:Wf L)(t):Ord L (gz L t):=
 Xq b (t.toNat+1) t (fun _=>ak,[]) Om ⟨Sm,Sm,Sm,Sm⟩ Sm fun cd z a e=>Uc
def EC{L}(a:Wf L)(t):(gz L t).Nodup:=
 (wu a (t.toNat+1) t (fun _=>ak,[]) Om ⟨Sm,Sm,Sm,Sm⟩ Sm).nd
inductive fj|pQ|qk|num|cf|fst|snd
deriving DecidableEq
def qL(k:Int):List fj:=
 if k=1 then[.pQ]else if k=2 then[.num]else if k=3 then[.cf]else if k=4 then[.fst,.snd]else if k=5 then[.fst]else if k=6 then[.pQ]else if k=7 then[.pQ,.fst]else if k=8 then[.pQ,.qk,.fst]else if k=9 then[.pQ,.qk,.fst]else[]
def fj.bytes(n:gP)(b a:Nat):fj->List UInt8
 |.pQ=>vE n.cj.toNat|.qk=>vE n.to.toNat|.num=>vE n.num.toNat|.cf=>vO n.cf|.fst=>vE b|.snd=>vE a
def gv(bM:List Int)(t:Int):Nat:=bM.idxOf t
def yC(L:bw)(bM:List Int)(t:Int):List UInt8:=
 UInt8.ofNat (ar L t).ba.toNat ::(qL (ar L t).ba).flatMap (fj.bytes (ar L t) (gv bM (ar L t).a)<|gv bM (ar L t).b)
def kh(L:bw):List Int->List Int->List UInt8
 |_,[]=>[]
 |bM,t :: l=>yC L bM t++kh L (bM++[t]) l
def HH(L l t):∀bM,kh L bM (l++[t])=kh L bM l++yC L (bM++l) t:=by
 induction l with
 |nil=>intro bM;simp[kh]
 |cons x l a=>intro bM;simp only[List.cons_append,kh];rw[a];simp
def qJ(L:bw)(t:Int):List UInt8:=kh L []<|gz L t
def HA{l l' u}(h:u∈l):gv (l++l') u=gv l u:=by unfold gv;rw[List.idxOf_append,bt h]
def Fb{l z}(h:z∉l):gv (l++[z]) z=l.length:=by unfold gv;rw[List.idxOf_append,aw h];simp
def GF{l t}(ht:t∈l):gv l t<l.length:=List.idxOf_lt_length_of_mem ht
def my(L:bw)(t:Int):List UInt8×Int:=if bj L t then(if(qJ L t).length>4096 then([],1)else(qJ L t,0))else([],51)
def fj.put:fj->FuncId
 |.pQ=>249|.qk=>253|.num=>255|.cf=>257|.fst=>261|.snd=>263
def fj.get:fj->FuncId
 |.pQ=>251|.qk=>254|.num=>256|.cf=>259|.fst=>262|.snd=>264
def fj.row(f:fj):List bk:=[.func (.func f.put) #[] #[],.func (.func f.get) #[] #[]]
structure xn(a w:af)(m:Nat)(c:List (ao×fj))(M:List (Int×Sl)):Prop where
 box:∀b∈c,az w b.1 b.2.row 255/\b.1.block≠m
 map:jm Sl.v w m M
 gS:∀p∈M,gr (fun b=>a.heap.size<=b/\b≠m) w 2 p.2<|(qL p.1).map fj.row
 pure:aq a w
 bf:a.heap.size<=m
def xn.step{A w x:af}{m:Nat}{z:List (ao×fj)}{M:List (Int×Sl)}(h:xn A w m z M){cs:Array bk}{p:ao}(n1:fp w (.cells cs 255) p x)(k:Int)(n:Nat)(G:(qL k).length=n)(di:cs.toList=((qL k).map fj.row).flatten)(B:SE.iv M k=bo):
  ∃l,(Instr.mapUpdate 249 (.map<|ab m) (vi k) (Sl.mk (ab p) n n).v).run prog x=.ok () l/\xn A l m z (M++[(k,Sl.mk (ab p) n n)]):=by
 have o:aq w x:=aj.bu n1
 have⟨l,t,E,s⟩:=(h.map.pure o).put (P:=prog) (T:=249) underlying249 underlying3 B<|Sl.mk (ab p) n n
 have D:=az.j0 n1
 have a:=n1.gp
 have H:=h.map.lt
 refine⟨l,t,⟨fun b a=>⟨((h.box b a).1.pure o).ext s (h.box b a).2,(h.box b a).2⟩,E,?_,(h.pure.trans o).ft s fun i hi e=>Oh h.bf,h.bf⟩⟩
 intro q c
 rcases mem_append.1 c with c|c
 exact((h.gS q c).pure o).ext s fun b a=>a.2
 simp only[mem_singleton]at c
 subst c
 refine⟨Uc,fun i hi=>?_⟩
 have F:i<(qL k).length:=Uc
 refine⟨p.add<|i*2,⟨Om,So,p,rfl,Sm⟩,?_,?_⟩
 rw[zD];exact⟨Oh h.pure.size,Om⟩
 have d:=s.row (D.row) Om
 intro j I
 rw[qN]
 have g:∀r∈(qL k).map fj.row,r.length=2:=by intro r t;obtain⟨f,_,rfl⟩:=mem_map.1 t;rfl
 have u:j<2:=Uc
 have C:=Gv g hi u
 have y:i*2+j<cs.toList.length:=Uc
 rw[d _ y,di,C]
structure GK(c w:af)(a:List (ao×fj)):Prop where
 box:∀b∈a,az w b.1 b.2.row 255
 pure:aq c w
def GK.step{i w d:af}{g:List (ao×fj)}(h:GK i w g){p:ao}(n1:fp w (.cells #[.nilFunc,.nilFunc] 255) p d)(f:fj){A:WP}(k:∀w',GK i w' (g++[(p,f)])->A w'):(∀j,j<2->zJ d (p.add j))/\∀w',w'=ib d p f.row->A w':=by
 have l:aq w d:=aj.bu n1;refine bx 2 (az.j0 n1) rfl rfl fun m b E=>k m ⟨fun c a=>?_,h.pure.bf (p:=p) (by rw[n1.gp];exact h.pure.size) ((aj.pure l).trans E)⟩;rcases mem_append.1 a with a|a;have hB:=h.box c a;exact(hB.pure l).ext E fun e=>Oi (af.block_lt_of_cell? w c.1 hB.dj) n1.gp;grind
def xn.get{w0 w m}{a:List (ao×fj)}{M:List (Int×Sl)}(h:xn w0 w m a M){p f}(b:(p,f)∈a):Row w p [.func (.func f.put) #[] #[],.func (.func f.get) #[] #[]]:=(h.box _ b).1.row
def VU(a:af):cl 164 #[] a (XQ fun x w'=>∃m M,x=ab m/\(∃k,xn a w' m k M)/\M.map Prod.fst=[1,2,3,4,5,6,7,8,9]):=by
 refine Tl a (fun x w'=>∃m M,x=ab m/\(∃k,xn a w' m k M)/\M.map Prod.fst=[1,2,3,4,5,6,7,8,9]) ?_;unfold Pg;have P:GK a a []:=⟨fun b l=>Uc,aj.refl _⟩;intro p1 v1 n1;refine P.step n1 .pQ fun u1 h1=>?_;intro p2 v2 n2;refine h1.step n2 .qk fun u2 h2=>?_;intro p3 v3 n3;refine h2.step n3 .num fun u3 h3=>?_;intro p4 v4 n4;refine h3.step n4 .cf fun u4 L=>?_;intro p5 v5 n5;refine L.step n5 .fst fun u5 R=>?_;intro p6 v6 n6;refine R.step n6 .snd fun V h=>?_;intro q u c;have o:xn a u q.block _ []:=⟨fun b l=>⟨(h.box b l).pure<|aj.bu c,fun e=>Oi (af.block_lt_of_cell? V b.1 (h.box b l).dj) c.gp⟩,jm.fi c,fun p hp=>Uc,h.pure.trans<|aj.bu c,by rw[c.gp];exact h.pure.size⟩;refine⟨_,_,o.get (f:=.pQ) Sm,?_⟩;intro q1 x1 A;have⟨y,r1,s⟩:=o.step A 1 1 rfl rfl (by simp[SE.iv]);refine⟨y,r1,?_⟩;refine⟨_,_,s.get (f:=.num) Sm,?_⟩;intro q2 x2 E;have⟨B,r2,t⟩:=s.step E 2 1 rfl rfl (by simp[SE.iv]);refine⟨B,r2,?_⟩;refine⟨_,_,t.get (f:=.cf) Sm,?_⟩;intro q3 x3 z;have⟨N,r3,j⟩:=t.step z 3 1 rfl rfl (by simp[SE.iv]);refine⟨N,r3,?_⟩;refine⟨_,_,j.get (f:=.fst) Sm,?_⟩;refine⟨_,_,j.get (f:=.snd) Sm,?_⟩;intro q4 x4 Y;have⟨Q,H,n⟩:=j.step Y 4 2 rfl rfl (by simp[SE.iv]);refine⟨Q,H,?_⟩;refine⟨_,_,n.get (f:=.fst) Sm,?_⟩;intro q5 x5 T;have⟨C,J,r⟩:=n.step T 5 1 rfl rfl (by simp[SE.iv]);refine⟨C,J,?_⟩;refine⟨_,_,r.get (f:=.pQ) Sm,?_⟩;intro q6 x6 w;have⟨Z,S,i⟩:=r.step w 6 1 rfl rfl (by simp[SE.iv]);refine⟨Z,S,?_⟩;refine⟨_,_,i.get (f:=.pQ) Sm,?_⟩;refine⟨_,_,i.get (f:=.fst) Sm,?_⟩;intro q7 x7 F;have⟨U,G,d⟩:=i.step F 7 2 rfl rfl (by simp[SE.iv]);refine⟨U,G,?_⟩;refine⟨_,_,d.get (f:=.pQ) Sm,?_⟩;refine⟨_,_,d.get (f:=.qk) Sm,?_⟩;refine⟨_,_,d.get (f:=.fst) Sm,?_⟩;intro q8 x8 W;have⟨X,D,g⟩:=d.step W 8 3 rfl rfl (by simp[SE.iv]);refine⟨X,D,?_⟩;refine⟨_,_,g.get (f:=.pQ) Sm,?_⟩;refine⟨_,_,g.get (f:=.qk) Sm,?_⟩;refine⟨_,_,g.get (f:=.fst) Sm,?_⟩;intro q9 x9 K;have⟨O,v,I⟩:=g.step K 9 3 rfl rfl (by simp[SE.iv]);refine⟨O,v,?_⟩;exact⟨q.block,_,rfl,⟨_,I⟩,rfl⟩
def fj.rd(bs:List UInt8)(r:Rd):fj->Rd
 |.cf=>(qF bs 64 r).2
 |_=>(vS bs r).2
structure mo where
 num:Nat
 cf:List UInt8
 cj:Nat
 to:Nat
 a:Nat
 b:Nat
 fw:Nat
def qZ:mo:=⟨0,[],0,0,0,0,0⟩
def fj.qp(bs:List UInt8)(r:Rd)(x:mo):fj->mo
 |.pQ=>{ x with cj:=(vS bs r).1 }
 |.qk=>{ x with to:=(vS bs r).1 }
 |.num=>{ x with num:=(vS bs r).1 }
 |.cf=>{ x with cf:=(qF bs 64 r).1 }
 |.fst=>{ x with a:=(vS bs r).1,fw:=1 }
 |.snd=>{ x with b:=(vS bs r).1,fw:=2 }
def vB(bs:List UInt8):List fj->mo×Rd->mo×Rd
 |[],s=>s
 |f :: l,(x,r)=>vB bs l (f.qp bs r x,f.rd bs r)
def pF(k n:Nat)(x:mo)(e:Nat):Nat:=
 if e≠0 then e
 else if 16<=x.cj\/16<=x.to\/((k=8\/k=9)/\x.cj=x.to)then 50
 else if(0<x.fw/\n<=x.a)\/(1<x.fw/\n<=x.b)then 71
 else 0
def mo.dr(k:Nat)(x:mo):gP:=⟨k,x.cj,x.to,x.num,⟨x.cf.toArray⟩,if 0<x.fw then(x.a:Int)+1 else 0,if 1<x.fw then(x.b:Int)+1 else 0⟩
def uL(k:Nat):Bool:=decide (1<=k)&&decide (k<=9)
def oh(L:bw)(k:Nat)(s:mo×Rd):bw×Int×Rd:=
 if pF k L.length s.1 s.2.gd≠0 then(L,((pF k L.length s.1 s.2.gd:Nat):Int),s.2)
 else if(find L<|s.1.dr k).isSome=ai then(L,72,s.2)
 else((bz L<|s.1.dr k).2.2,(bz L<|s.1.dr k).2.1,s.2)
def vL(bs:List UInt8)(L:bw)(r:Rd):bw×Int×Rd:=
 if uL (xK bs r).1=ai then oh L (xK bs r).1 (vB bs (qL (xK bs r).1) (qZ,(xK bs r).2))
 else(L,70,(xK bs r).2)
def mm:Nat->List Int->Nat
 |i,[]=>i
 |i,s :: l=>if s=(i:Int)+1 then mm (i+1) l else i
def rR(L:bw)(ps:List Nat):Option bw×Int×Nat:=
 let i:=mm 0<|gz L L.length
 if h:i<ps.length then(bo,73,ps[i])else(ab L,0,0)
def qf(bs:List UInt8):Nat->bw->Rd->List Nat->Option bw×Int×Nat
 |0,L,_,ps=>rR L ps
 |n+1,L,r,ps =>
  if r.at_<bs.length then
   if(vL bs L r).2.1≠0 then(bo,(vL bs L r).2.1,r.at_)
   else qf bs n (vL bs L r).1 (vL bs L r).2.2 (ps++[r.at_])
  else rR L ps
def zY(bs:List UInt8):Option bw×Int×Nat:=
 if 4096<bs.length then(bo,1,0)else if bs.length=0 then(bo,3,0)else qf bs bs.length [] ⟨0,0,0⟩ []
def zS(Lq:bw):List Int->bw->(Int->Int)->bw×Int×(Int->Int)
 |[],L,bf=>(L,0,bf)
 |s :: l,L,bf =>
  let m:=bz L { ar Lq s with a:=bf (ar Lq s).a,b:=bf (ar Lq s).b }
  if m.2.1≠0 then(L,m.2.1,bf)else zS Lq l m.2.2 fun x=>if x=s then m.1 else bf x
def vF(L Lq:bw)(t:Int):Int×Int×bw:=
 if bj Lq t=ai then
  let c:=zS Lq (gz Lq t) L fun _=>0
  if c.2.1≠0 then(0,c.2.1,L)else(c.2.2 t,0,c.1)
 else(0,51,L)
def yM(L:bw)(bs:List UInt8):Int×Int×Nat×bw:=
 match(zY bs).1 with
 |none=>(0,(zY bs).2.1,(zY bs).2.2,L)
 |some q=>((vF L q q.length).1,(vF L q q.length).2.1,0,(vF L q q.length).2.2)
def DF(bs r)(h:r.at_<=bs.length):r.at_<=(vS bs r).2.at_/\(vS bs r).2.at_<=bs.length:=by
 have key:∀l i n m k,xU i n l=.ok (m,k)->k<=i+l.length/\i<k:=by
  intro l;induction l with
  |nil=>intro i n m k h;simp[xU]at h
  |cons c l a =>
   intro i n m k h
   rw[xT]at h
   split at h
   cases h
   grind
 unfold vS;split;grind;exact⟨Nat.le_refl _,h⟩
def Ro(bs m r)(h:r.at_<=bs.length):r.at_<=(qF bs m r).2.at_/\(qF bs m r).2.at_<=bs.length:=by
 have a:=DF bs r h;unfold vS at a;unfold qF;split;grind;exact⟨Nat.le_refl _,h⟩
def fj.YM(bs:List UInt8)(r:Rd)(f:fj)(h:r.at_<=bs.length):r.at_<=(f.rd bs r).at_/\(f.rd bs r).at_<=bs.length:=by
 cases f<;>first|exact Ro bs 64 r h|exact DF bs r h
def NJ(bs:List UInt8):∀l x r,r.at_<=bs.length->r.at_<=(vB bs l (x,r)).2.at_/\(vB bs l (x,r)).2.at_<=bs.length:=by
 intro l;induction l with
 |nil=>intro x r h;exact⟨Nat.le_refl _,h⟩
 |cons f l a =>
  intro x r h
  have h1:=f.YM bs r h
  have h2:=a (f.qp bs r x) (f.rd bs r) h1.2
  rw[vB];omega
def Mo(bs r)(h:r.at_<bs.length)(a:r.gd=0):xK bs r=(bs[r.at_].toNat,⟨r.at_+1,0,r.spot⟩):=by
 unfold xK;rw[bt a,dif_pos h]
def AI(bs L r)(h:r.at_<bs.length)(a:r.gd=0):vL bs L r =
  (if uL bs[r.at_].toNat=ai then oh L bs[r.at_].toNat (vB bs (qL bs[r.at_].toNat) (qZ,⟨r.at_+1,0,r.spot⟩))else(L,70,⟨r.at_+1,0,r.spot⟩)):=by
 unfold vL
 rw[Mo bs r h a]
def Jv{L k}{s:mo×Rd}(h:(oh L k s).2.1=0):s.2.gd=0/\pF k L.length s.1 s.2.gd=0/\find L (s.1.dr k)=bo/\(bz L<|s.1.dr k).2.1=0/\oh L k s=((bz L<|s.1.dr k).2.2,0,s.2):=by
 unfold oh at *;split at h;grind;rename_i h1;rw[aw h1];have h1:pF k L.length s.1 s.2.gd=0:=Om;have a:s.2.gd=0:=by
  by_cases h2:s.2.gd=0;exact h2;exfalso;unfold pF at h1;rw[bt h2]at h1;exact h2 h1
 split at h;simp at h;rename_i h3;rw[aw h3];simp only at h;exact⟨a,h1,Uc,h,by rw[h]⟩
def Is(bs L r)(h:r.at_<bs.length)(e:r.gd=0)(a:(vL bs L r).2.1=0):r.at_<(vL bs L r).2.2.at_/\(vL bs L r).2.2.at_<=bs.length/\(vL bs L r).2.2.gd=0:=by
 have b:=NJ bs (qL bs[r.at_].toNat) qZ ⟨r.at_+1,0,r.spot⟩ Uc;simp only at b;rw[AI bs L r h e]at *;split at a;rename_i c;rw[bt c];have⟨h1,_,_,_,d⟩:=Jv a;rw[d];exact⟨Uc,b.2,h1⟩;simp at a
def D1{bs L r ps}(h:¬r.at_<bs.length):∀n,qf bs n L r ps=rR L ps:=by
 intro n;cases n with
 |zero=>rfl
 |succ n=>rw[qf,aw h]
def Wp{S:NP}(f:fj)(s:Sl)(bs:List UInt8)(n:gP)(j g h:Nat)(M:List (Int×Int))(c:af)(hs:gr S c 1 s (gO bs))(d:s.a=bo->s=Sl.nil)(e:bs.length<=10000000000)(h1:0<=n.cj/\n.cj<9223372036854775808)(h2:0<=n.to/\n.to<9223372036854775808)(h3:0<=n.num/\n.num<18446744073709551616)(o:n.cf.size<=10000000000)(l:jm (fun i:Int=>vi i) c h M)(m:f=.fst->SE.iv M n.a=ab (j:Int)/\j<9223372036854775808)(k:f=.snd->SE.iv M n.b=ab (g:Int)/\g<9223372036854775808):
  Calls prog f.put #[s.v,.agg #[vi n.ba,vi n.cj,vi n.to,vu n.num,vs n.cf,vi n.a,vi n.b],.map<|ab h] c<|XA fun r w'=>jd c 5 1 (gO<|bs++f.bytes n j g) r w':=by
 cases f
 exact zDX s bs _ _ _ _ _ _ _ _ c hs d e n.cj.toNat Om Om
 exact zLP s bs _ _ _ _ _ _ _ _ c hs d e n.to.toNat Om Om
 exact zDW s bs _ _ _ _ _ _ _ _ c hs d e n.num.toNat Om Om
 exact WM s bs _ _ _ _ _ _ _ _ c hs d e o
 exact ZH s bs _ _ _ _ _ _ _ c hs d e h M j l (m rfl).1 (m rfl).2
 exact jcU s bs _ _ _ _ _ _ _ c hs d e h M g l (k rfl).1 (k rfl).2
def fj.sM(bs:List UInt8)(r:Rd)(cells:List bk):fj->List bk
 |.pQ=>cells.set 7<|vu ((vS bs r).1:Int)
 |.qk=>cells.set 8<|vu ((vS bs r).1:Int)
 |.num=>cells.set 3<|vu ((vS bs r).1:Int)
 |.cf=>cells.set 4<|vs ⟨(qF bs 64 r).1.toArray⟩
 |.fst=>(cells.set 9<|vu ((vS bs r).1:Int)).set 11<|vi 1
 |.snd=>(cells.set 10<|vu ((vS bs r).1:Int)).set 11<|vi 2
def Tt{S:NP}(f:fj)(a q:ao)(s:Sl)(bs:List UInt8)(r:Rd)(cells:List bk)(g:af)(h:jv S g a s bs r)(c:r.at_<=bs.length)(hS:∀b,S b->b<g.heap.size)(i:az g q cells 314)(j:cells.length=12)(d:a.block≠q.block)(e:∀b,S b->b≠q.block):
  Calls prog f.get #[vp<|ab a,vp<|ab q] g<|XG fun w'=>jv S w' a s bs (f.rd bs r)/\az w' q (f.sM bs r cells) 314/\aj (fun b=>b=a.block\/b=q.block) g w':=by
 cases f
 exact ZG a q s bs r cells g h c hS i j d e
 exact TR a q s bs r cells g h c hS i j d e
 exact Zi a q s bs r cells g h c hS i j d e
 exact Vz a q s bs r cells g h c hS i j d e
 exact jbu a q s bs r cells g h c hS i j d e
 exact jct a q s bs r cells g h c hS i j d e
structure sd(w:af)(m:Nat)(F:NP):Prop where
 ex:∃M:List (Int×Sl),jm Sl.v w m M/\(∀p∈M,gr F w 2 p.2<|(qL p.1).map fj.row)/\M.map Prod.fst=[1,2,3,4,5,6,7,8,9]
 lt:∀b,F b->b<w.heap.size
 ne:∀b,F b->b≠m
def sd.ext{w w' m F G}(h:sd w m F)(E:aj G w w')(c:∀b,F b\/b=m->¬G b):sd w' m F:=by
 have⟨M,h1,h2,h3⟩:=h.ex;exact⟨⟨M,h1.ext E<|c m<|.inr rfl,fun p d=>(h2 p d).ext E fun b a=>c b<|.inl a,h3⟩,fun b a=>Nat.lt_of_lt_of_le (h.lt b a) E.size,h.ne⟩
def sd.pure{w w' m F}(h:sd w m F)(E:aq w w'):sd w' m F:=h.ext E fun _ _ h=>h
def sd.Bo{w m F}(h:sd w m F):m<w.heap.size:=by have⟨M,h1,_⟩:=h.ex;exact h1.lt
def jcp{S w s rs sz}(h:gr S w sz s rs)(d:∀r∈rs,0<r.length):gr (fun b=>S b/\b<w.heap.size) w sz s rs:=
 ⟨h.ay,fun i hi=>let ⟨a,h1,h2,h3⟩:=h.at_ i hi;⟨a,h1,⟨h2,by
  have c:=d _<|getElem_mem hi;have:=h3 0 c;rw[getElem?_eq_getElem c]at this;have:=af.block_lt_of_cell? w (a.add 0) this;rwa [zD]at this⟩,h3⟩⟩
def Mx(w0):cl 164 #[] w0 (XQ fun x w'=>∃m F,x=ab m/\sd w' m F/\aq w0 w'/\w0.heap.size<=m/\∀b,F b->w0.heap.size<=b):=by
 refine(VU w0).mono ?_;rintro _ w' ⟨x,rfl,m,M,rfl,⟨g,h⟩,e⟩;refine⟨_,rfl,m,fun b=>(w0.heap.size<=b/\b≠m)/\b<w'.heap.size,rfl,⟨⟨M,h.map,fun p c=>jcp (h.gS p c) fun r d=>by obtain⟨f,_,rfl⟩:=mem_map.1 d;simp[fj.row],e⟩,fun b a=>a.2,fun b a=>a.1.2⟩,h.pure,h.bf,fun b a=>a.1.1⟩
def sd.get{w:af}{m:Nat}{F:NP}(h:sd w m F)(k:Int)(h1:1<=k)(f:k<=9)(ok:Bool):
  ∃s,(Instr.lookup 249 (.map<|ab m) (vi k) ok).run prog w=.ok (if ok then .tuple #[s.v,vb ai]else s.v) w/\gr F w 2 s ((qL k).map fj.row):=by
 have⟨M,b,d,c⟩:=h.ex
 rcases b.get (P:=prog) (T:=249) underlying249 underlying3 (zeroValue251 _) k ok with⟨e,_⟩|⟨s,hs,a⟩
 have:=uQ.1 e
 rw[c]at this
 simp at this;omega
 exact⟨s,a,d _<|tV hs⟩
def sd.none{w:af}{m:Nat}{F:NP}(h:sd w m F)(k:Int)(d:¬(1<=k/\k<=9)):(Instr.lookup 249 (.map<|ab m) (vi k) ai).run prog w=.ok (.tuple #[Sl.nil.v,vb ak]) w:=by
 have⟨M,c,e,a⟩:=h.ex;rcases c.get (P:=prog) (T:=249) underlying249 underlying3 (zeroValue251 _) k ai with⟨_,b⟩|⟨s,hs,_⟩;exact b;have:k∈M.map Prod.fst:=mem_map.2 ⟨_,tV hs,rfl⟩;rw[a]at this;simp at this;omega
def uV:Nat->List Int->List (Int×Int)
 |_,[]=>[]
 |i,t :: l=>(t,(i:Int)) :: uV (i+1) l
def TK(l t):∀i,uV i (l++[t])=uV i l++[(t,((i+l.length:Nat):Int))]:=by
 induction l with
 |nil=>intro i;simp[uV]
 |cons x l a=>intro i;simp only[cons_append,uV,a,length_cons];congr 3;simp;omega
def Wx(l):∀i,(uV i l).map Prod.fst=l:=by
 induction l with
 |nil=>intro i;rfl
 |cons x l a=>intro i;simp[uV,a]
def Tr(l):∀i,(uV i l).length=l.length:=by
 induction l with
 |nil=>intro i;rfl
 |cons x l a=>intro i;simp[uV,a]
def OC(l t)(ht:t∈l):∀i,SE.iv (uV i l) t=ab ((i+gv l t:Nat):Int):=by
 induction l with
 |nil=>cases ht
 |cons x l c =>
  intro i
  rw[uV,SE.iv]
  by_cases e:x=t
  subst e;rw[bt rfl];simp[gv]
  rw[aw e]
  have a:=(mem_cons.1 ht).resolve_left fun h=>e h.symm
  rw[c a]
  have:gv (x ::l) t=gv l t+1:=by
   have b:(x==t)=ak:=Uc;simp[gv,idxOf_cons,b]
  rw[this];congr 2;omega
def Z9(k f t u x ay):uA ⟨k,f,t,u,x,0,0⟩ ay=(if(sB ⟨k,f,t,u,x,0,0⟩≠53/\(ay:Int)≠(fl k).fw)then 53 else sB ⟨k,f,t,u,x,0,0⟩):=by
 unfold uA sB;simp only;rcases Pn ⟨k,f,t,u,x,0,0⟩with h|h;rw[h];simp;grind
def jLZ{S}(q)(hq:¬ S q.block)(T t):∀s(c bM:Int)m,0<=c->0<=bM->fm S m s t->(∀b,S b->b<m.heap.size)->az m q [vi bM] T ->
  cl 210 #[.agg (uF t s).toArray,vi c,vp<|ab q] m
   (XB fun r w'=>r=(qK c bM t).1/\az w' q [vi (qK c bM t).2] T/\aj (·=q.block) m w'):=by
 induction t using ej.ind with
 |h k f t u x ks ih =>
 intro s c bM m hi0 hn0 V w hB
 suffices key:∀K:Int->WP,(∀r w',(r=(qK c bM<|.mk k f t u x ks).1/\az w' q [vi (qK c bM<|.mk k f t u x ks).2] T/\aj (·=q.block) m w')->K r w')->O3 k f t u x s c (ab q) m K from
  Wv _ _ _ _ _ _ _ _ m _<|key _ fun _ _ h=>h
 intro K U
 have hql:=hB.lt
 refine⟨q,rfl,?_⟩
 intro H1 w1 Q
 have hB1:=hB.pure Q.first
 refine⟨bM,hB1.dj,?_⟩
 intro H5 w13 J
 have v:=Q.first.bh J
 have l:=hB.pure v
 have o:∀{H w' H' w''},au m H w' H' w''->¬H' q.block:=fun h hh=>Oh<|h.old _ hh
 refine⟨fun h=>?_,fun h=>?_⟩
 .have : qK c bM (.mk k f t u x ks) = (52, bM):=by
   rw[qK];simp only[Bool.or_eq_true,decide_eq_true_eq]at h;by_cases h1:4096<=bM
   .rw[bt h1]
   .grind
  rw[this]at U;exact U _ _ ⟨rfl,l,v.pure⟩
 .have h1:¬4096<=bM/\¬64<=c:=Gd
  have hsp:qK c bM (.mk k f t u x ks)=vG (c+1) (uA ⟨k,f,t,u,x,0,0⟩ ks.length) (bM+1) ks:=by rw[qK,aw h1.1,aw h1.2]
  rw[hsp]at U
  have p:s.ay=ks.length:=by cases V;assumption
  have hfit:ks.length<=9223372036854775807:=by cases V;assumption
  refine⟨q,rfl,bM,l.dj,q,rfl,l.mi Sm,o J,?_⟩
  rw[i64 (n:=bM+1) Om Om]
  rintro w2 C
  have hB2:az w2 q [vi<|bM+1] T:=by rw[C];exact l.nw
  have E2:aj (·=q.block) m w2:=by rw[C];exact v.pure.trans<|aj.setCell q _
  clear C
  rintro y1 rfl
  have F:=Oe ⟨k,f,t,u,x,0,0⟩
  simp only at F
  rw[F,qU,p]
  have D:cond ((sB ⟨k,f,t,u,x,0,0⟩ !=53)&&((ks.length:Int) !=(fl k).fw)) 53 (sB ⟨k,f,t,u,x,0,0⟩)=uA ⟨k,f,t,u,x,0,0⟩ ks.length:=by
   rw[Z9];by_cases h2:sB ⟨k,f,t,u,x,0,0⟩=53
   .simp[h2]
   .grind
  rw[D]
  intro H3 w10 B
  have E10:=E2.bh B
  have R:=hB2.ext B.ext<|o B
  refine⟨fun e i H w'=>∃j:Nat,i=j/\j<=ks.length/\∃n:Int,0<=n/\aj (·=q.block) m w'/\az w' q [vi n] T/\vG (c+1) e n (ks.drop j)=vG (c+1) (uA ⟨k,f,t,u,x,0,0⟩ ks.length) (bM+1) ks,fun _ i _=>((ks.length:Int)-i).toNat,⟨0,rfl,Nat.zero_le _,bM+1,Om,E10,R,rfl⟩,?_⟩
  rintro X _ Hl wl hl ⟨j,rfl,hj,n,hn,El,O,A⟩
  unfold QS
  have hTl:=V.ext El fun b z e=>hq<|e▸z
  refine⟨fun W=>?_,fun W=>?_⟩
  .simp only[Bool.and_eq_true,beq_iff_eq]at W
   have⟨Z,g⟩:=W
   have g:=vA p g
   subst Z
   cases hTl with
   |mk _ _ _ _ _ _ _ rs ay fit row ku =>
   have⟨a,hat,ha,hr⟩:=row j g
   refine⟨a,hat,?_⟩
   intro H4 G d
   have y:=El.bh d
   have hT11:=V.ext y fun b z e=>hq<|e▸z
   have P:=d.ext.row hr fun hh=>Oi (d.old _ hh)<|w _ ha
   have I:=(ku j g).ext d.ext fun b z hh=>Oi (d.old _ hh)<|w _ z
   have M:=O.ext d.ext<|o d
   refine⟨_,_,_,_,_,rs j,P,?_⟩
   rw[i64 (n:=c+1) Om Om]
   refine(ih j g (rs j) (c+1) n G Om hn I (fun b z=>Oi (w b z) y.size) M).mono ?_
   rintro _ w12 ⟨r,rfl,rfl,L,E⟩
   refine⟨_,rfl,E.ff Gd,?_⟩
   rw[zI g Om]
   refine⟨⟨j+1,rfl,g,_,NM ks[j] (c+1) n hn,y.trans E,L,?_⟩,vT g⟩
   rw[<-A];exact(Qk g (c+1) n).symm
  .intro H4 G d
   have N:vG (c+1) X n (ks.drop j)=(X,n):=by
    by_cases Z:X=0
    .have Y:j=ks.length:=Gd;rw[Y,drop_length];rfl
    .exact QY Z _ _
   rw[N]at A
   refine U _ _ ⟨Uc,?_,El.bh d⟩
   rw[<-A];exact O.ext d.ext<|o d
def jPE{S}(t s w0)(n:fm S w0 s t)(i:∀b,S b->b<w0.heap.size):
  cl 152 #[.agg (uF t s).toArray] w0<|XB fun r w'=>r=(qK 0 0 t).1/\aq w0 w':=by
 have⟨k,f,to,u,x,ks⟩:=t
 refine jcI _ _ _ _ _ _ w0 _ ?_
 intro m v c p w h2
 have b2:=az.fi h2
 have o:=c.first.trans (aj.bu h2)
 have o2:=fp.bf c.first h2
 have d:¬m p.block:=fun hh=>Oi (c.lt _ hh) h2.gp
 refine⟨b2.mi Sm,d,?_⟩
 rintro j a
 have b3:az j p [vi 0] 3:=by rw[a];exact b2.nw
 have g:aq w0 j:=by rw[a];exact o.bf o2<|aj.setCell p _
 clear a
 refine(jLZ p Gd _ _ s 0 0 j (Int.le_refl _) (Int.le_refl _) (n.pure g) (fun b h=>Oi (i b h) g.size) b3).mono ?_
 rintro _ q ⟨r,rfl,rfl,_,l⟩
 exact⟨_,rfl,l.ff fun b h e=>d<|e▸h,rfl,g.bf o2 l⟩
def OL(p n w0){L F}(N:vJ w0 p L F)(Q:n<=L.length):
  cl 154 #[vp<|ab p,vi n] w0<|XG fun w'=>vJ w' p (L.take n) F/\aj F w0 w':=by
 suffices key:∀K,(∀w',vJ w' p (L.take n) F/\aj F w0 w'->K w')->Hy (ab p) n w0 K from
  TW _ _ w0 _<|key _ fun _ h=>h
 intro K H
 unfold Hy
 have⟨s1,D,s,hS,R⟩:=N
 have⟨l,y,I,a⟩:=c9.hi (P:=prog) Lk hS.r1 (k:=.i64) (n:=n) Om Uc
 refine⟨p,rfl,s1,hS.box.dj,l,y,p,rfl,hS.box.mi Sm,?_⟩
 rintro o i
 have A:az o p [l.v,D.v,s.v] 44:=by rw[i];exact hS.box.nw
 have z:aj (·=p.block) w0 o:=by rw[i];exact aj.setCell p _
 clear i
 have⟨m,t,O,d⟩:=c9.hi (P:=prog) Av (hS.r2.ext z fun b f e=>hS.n2<|e▸f) (k:=.i64) (n:=n) Om Uc
 refine⟨p,rfl,D,A.cell rfl,m,t,p,rfl,A.im Sm,?_⟩
 rintro q j
 have C:az q p [l.v,m.v,s.v] 44:=by rw[j];exact A.set 1 _
 have x:aj (·=p.block) o q:=by rw[j];have:=aj.setCell (w:=o) (p.add 1) m.v;rw[zD]at this;exact this
 clear j
 have⟨r,u,J,c⟩:=c9.hi (P:=prog) Av (hS.r3.ext (z.trans x) fun b f e=>hS.n3<|e▸f) (k:=.i64) (n:=n) Om Uc
 refine⟨p,rfl,s,C.cell rfl,r,u,p,rfl,C.im Sm,?_⟩
 rintro G g
 have M:az G p [l.v,m.v,r.v] 44:=by rw[g];exact C.set 2 _
 have B:aj (·=p.block) q G:=by rw[g];have:=aj.setCell (w:=q) (p.add 2) r.v;rw[zD]at this;exact this
 clear g
 have E:=(z.trans x).trans B
 refine H _ ⟨⟨l,m,r,⟨M,?_,?_,?_,fun h=>hS.n1<|(a _).1 h,fun h=>hS.n2<|(d _).1 h,fun h=>hS.n3<|(c _).1 h,fun b h1 h2=>hS.DG b ((a b).1 h1)<|(d b).1 h2,fun b h1 h2=>hS.DT b ((a b).1 h1)<|(c b).1 h2,fun b h1 h2=>hS.Gk b ((d b).1 h1)<|(c b).1 h2⟩,fun b=>Uc⟩,E.mono Gd⟩
 have:=I.ext E fun b f e=>hS.n1<|(a _).1<|e▸f
 rw[map_take];simpa using this
 have:=O.ext (x.trans B) fun b f e=>hS.n2<|(d _).1<|e▸f
 rw[map_take];simpa using this
 have:=J.ext B fun b f e=>hS.n3<|(c _).1<|e▸f
 rw[map_take];simpa using this
def SM{S}(p t):∀s e(L:bw)F,ej.wK t->fm S e s t->vJ e p L F->Ok L->(∀b,F b->¬ S b)->(∀b,S b->b<e.heap.size) ->
  cl 153 #[vp<|ab p,.agg (uF t s).toArray] e
   (XK fun r1 r2 w'=>(r1,r2)=((grow L t).1,(grow L t).2.1)/\∃F',vJ w' p (grow L t).2.2 F'/\aj F e w'/\∀b,F' b->F b\/e.heap.size<=b):=by
 induction t using ej.ind with
 |h k f t u x ks ih =>
 intro s e L F h2 hT hP U P hSw
 suffices key:∀K:Int->Int->WP,(∀r1 r2 w',((r1,r2)=((grow L<|.mk k f t u x ks).1,(grow L<|.mk k f t u x ks).2.1)/\∃F',vJ w' p (grow L<|.mk k f t u x ks).2.2 F'/\aj F e w'/\∀b,F' b->F b\/e.heap.size<=b)->K r1 r2 w')->Qc (ab p) k f t u x s e K from
  jbA _ _ _ _ _ _ _ e _<|key _ fun _ _ _ h=>h
 intro K Q
 have⟨hk2,B⟩:=JI.1 h2
 have hsp:grow L (.mk k f t u x ks)=zU ⟨k,f,t,u,x,0,0⟩ 0 L ks:=by rw[grow]
 rw[hsp]at Q
 have o:s.ay=ks.length:=by cases hT;assumption
 intro H2 w4 w
 refine⟨fun i a1 a2 a3 a4 a5 W a7 H w'=>∃j:Nat,i=j/\j<=ks.length/\∃(l:bw) (F':NP),zU ⟨k,f,t,u,x,0,0⟩ 0 L ks=zU ⟨a1,a2,a3,a4,a5,W,a7⟩ j l (ks.drop j)/\Ok l/\vJ w' p l F'/\(∀b,F' b->F b\/e.heap.size<=b)/\(∀b,F' b->¬H b)/\aj F e w',fun i _ _ _ _ _ _ _ _=>((ks.length:Int)-i).toNat,
  ⟨0,rfl,Nat.zero_le _,L,F,Sm,U,hP.pure w.first,fun b h=>.inl h,w.N8 fun b m=>hP.lt m,w.first.pure⟩,?_⟩
 rintro _ a1 a2 a3 a4 a5 W a7 Hl wl hl ⟨j,rfl,hj,l,F',d,g,E,z,T,I⟩
 refine⟨fun h=>?_,fun h=>?_⟩
 .have c:=vA o h
  have hTl:=hT.ext I fun b hs hf=>P b hf hs
  have G:∃a r,At s j 6 a/\Row wl a (uF ks[j] r)/\fm S wl r ks[j]:=by
   cases hTl with
   |mk _ _ _ _ _ _ _ rs ay fit row ku=>exact let ⟨a,h1,_,h3⟩:=row j c;⟨a,rs j,h1,h3,ku j c⟩
  have⟨a,r,hat,C,Y⟩:=G
  refine⟨a,hat,_,_,_,_,_,r,C,?_⟩
  have hsz:=I.size
  refine(ih j c r wl l F' (N2 B c) Y E g Gd Gd).mono ?_
  rintro _ w8 ⟨r1,r2,rfl,N,O,v,E8,M⟩
  have e1:r1=(grow l ks[j]).1:=mu Prod.fst N
  have e2:r2=(grow l ks[j]).2.1:=mu Prod.snd N
  rw[drop_eq_getElem_cons c]at d
  have q:∀b,O b->F b\/e.heap.size<=b:=fun b m=>(M b m).elim (z b) fun h=>Uc
  have J:=I.ft E8 Gd
  refine⟨_,_,rfl,E8.ff fun b A hF=>T b hF A,fun h=>?_,fun h=>?_⟩
  .have h:(grow l ks[j]).2.1≠0:=by rw[<-e2];simpa using h
   rw[Lv h]at d
   refine Q _ _ _ ?_
   rw[d];exact⟨Uc,O,v,J,q⟩
  .have h:(grow l ks[j]).2.1=0:=by rw[<-e2];simpa using h
   rw[NL h]at d
   intro H3 w9 y
   have hv8:∀b,O b->¬Hl b:=fun b m A=>(M b m).elim (fun h=>T b h A) fun h=>Oh<|hl.lt b A
   have D:=y.mn fun b m=>⟨v.lt m,hv8 b m⟩
   rw[zI c Om]
   refine⟨⟨j+1,rfl,c,_,O,?_,(AO ks[j] l g).1,v.ext y.ext D,q,D,J.bh y⟩,vT c⟩
   rw[d,e1]
   have V:(((j:Int))==0)=decide (j=0):=Uc
   rw[V]
   by_cases n:j=0
   .subst n;rfl
   .simp[n]
 .have X:=vH o hj h
  rw[X,drop_length,zU]at d
  refine(vU p ⟨a1,a2,a3,a4,a5,W,a7⟩ wl E g).mono ?_
  rintro _ w9 ⟨r1,r2,rfl,N,F9,Z,E9,R⟩
  have hsz:=I.size
  refine⟨_,_,rfl,E9.ff fun b A hF=>T b hF A,Q _ _ _ ?_⟩
  rw[d]
  exact⟨N,F9,Z,I.ft E9 fun i hi h=>(z i h).elim id fun h=>Om,fun b m=>(R b m).elim (z b) fun h=>Uc⟩
def jOW(t):∀L,(grow L t).2.1≠0->(grow L t).1=0:=by
 induction t using ej.ind with
 |h k f t u x ks c =>
  have a:∀L n,(bz L n).2.1≠0->(bz L n).1=0:=by
   intro L n h;unfold bz at h|-;simp only at h|-;split at h;grind;grind
  have:∀ks,(∀i (hi:i<ks.length),∀L,(grow L ks[i]).2.1≠0->(grow L ks[i]).1=0)->∀n i L,(zU n i L ks).2.1≠0->(zU n i L ks).1=0:=by
   intro ks;induction ks with
   |nil=>intro _ n i L h;unfold zU at h|-;exact a L n h
   |cons t ts b =>
    intro hh n i L h
    unfold zU at h|-
    split at h
    rename_i h1;rw[bt h1]
    rename_i h1;rw[aw h1];exact b (fun i hi=>hh (i+1) Uc) _ _ _ h
  intro L h
  unfold grow at h|-
  exact this ks c _ _ L h
def Qo{S}(p t s w0){L F}(T:fm S w0 s t)(G:vJ w0 p L F)(l:Ok L)(y:∀b,F b->¬ S b)(m:∀b,S b->b<w0.heap.size):
  cl 96 #[vp<|ab p,.agg (uF t s).toArray] w0
   (XK fun r1 r2 w'=>(r1,r2)=((of L t).1,(of L t).2.1)/\∃F',vJ w' p (of L t).2.2 F'/\aj F w0 w'/\∀b,F' b->F b\/w0.heap.size<=b):=by
 have⟨k,f,to,u,x,ks⟩:=t
 suffices key:∀K,(∀r1 r2 w',((r1,r2)=((of L<|.mk k f to u x ks).1,(of L<|.mk k f to u x ks).2.1)/\∃F',vJ w' p (of L<|.mk k f to u x ks).2.2 F'/\aj F w0 w'/\∀b,F' b->F b\/w0.heap.size<=b)->K r1 r2 w')->Mf (ab p) k f to u x s w0 K from
  jcr _ _ _ _ _ _ _ w0 _<|key _ fun _ _ _ h=>h
 intro K z
 intro X V g
 have H:=g.first
 generalize ht:ej.mk k f to u x ks=t at *
 have C:(bk.agg #[vi k,vi f,vi to,vu u,vs x,s.v])=.agg (uF t s).toArray:=by rw[<-ht];rfl
 rw[C]
 refine(jPE t s V (T.pure H) fun b c=>Oi (m b c) H.size).mono ?_
 rintro _ W ⟨r1,rfl,rfl,A⟩
 have a:=H.trans A
 refine⟨_,rfl,A.dy,fun h=>?_,fun h=>?_⟩
 .have h:(qK 0 0 t).1≠0:=by simpa using h
  have:of L t=(0,(qK 0 0 t).1,L):=by rw[of,bt h]
  refine z _ _ _ ?_
  rw[this];exact⟨rfl,F,G.pure a,a.pure,fun _ h=>.inl h⟩
 .have h:(qK 0 0 t).1=0:=by simpa using h
  have j:=G.pure a
  have O:=g.N8 fun b c=>G.lt c
  have⟨s1,s2,s3,hS,Z⟩:=id j
  have D:s1.ay=L.length:=by rw[hS.r1.ay];simp
  refine⟨p,rfl,s1,hS.box.dj,?_⟩
  refine(SM p t s W L F (PG t _ _ h) (T.pure a) j l y fun b c=>Oi (m b c) a.size).mono ?_
  rintro _ w5 ⟨r1,r2,rfl,N,w,r,P,q⟩
  have U:r1=(grow L t).1:=mu Prod.fst N
  have E:r2=(grow L t).2.1:=mu Prod.snd N
  have Y:=a.size
  have n:=a.pure.trans P
  have e:∀b,w b->F b\/w0.heap.size<=b:=fun b c=>(q b c).elim .inl fun h=>.inr Om
  have B:=g.jg A.dy
  have I:∀b,w b->¬X b:=fun b c i=>(q b c).elim (fun h=>O b h i) fun h=>Oh<|B.lt b i
  refine⟨_,_,rfl,P.ff fun b i J=>O b J i,fun d=>?_,fun d=>?_⟩
  .have d:(grow L t).2.1≠0:=by rw[<-E];simpa using d
   have⟨R,M,hM⟩:=AO t L l
   rw[D]
   refine(OL p L.length w5 r Uc).mono ?_
   rintro _ w6 ⟨rfl,o,Q⟩
   have:of L t=(0,(grow L t).2.1,L):=by rw[of,aw<|by simp[h],bt d]
   refine⟨rfl,Q.ff fun b i J=>I b J i,z _ _ _ ?_⟩
   rw[this]
   rw[hM,take_left]at o
   exact⟨by rw[U,E,jOW t L d],w,o,n.ft Q Gd,e⟩
  .have d:(grow L t).2.1=0:=by rw[<-E];simpa using d
   have:of L t=((grow L t).1,0,(grow L t).2.2):=by rw[of,aw<|by simp[h],aw<|by simp[d]]
   refine z _ _ _ ?_
   rw[this]
   exact⟨Uc,w,r,n,e⟩
def Bz{L n i}(h:find L n=ab i):∃hi,L[i].dr=n:=by
 unfold find at h;rw[List.findIdx?_eq_some_iff_getElem]at h;have⟨hi,h1,_⟩:=h;exact⟨hi,Uc⟩
def xH{L n}(h:(bz L n).2.1=0):bj (bz L n).2.2 (bz L n).1=ai/\ar (bz L n).2.2 (bz L n).1=n/\(ik L n).2.2=0:=by
 unfold bz at h|-;simp only at h|-;by_cases a:(ik L n).2.2≠0;grind;rw[aw a]at h|-;have a:(ik L n).2.2=0:=Uc;cases b:find L n with
 |some i =>
  have⟨hi,c⟩:=Bz b
  simp only
  exact⟨zG.2 ⟨Om,Om⟩,by rw[qO hi,c],a⟩
 |none =>
  rw[b]at h
  simp only at h|-
  split at h
  simp at h
  rename_i d
  rw[aw d]
  simp only
  have hi:L.length<(L++[(⟨n,(ik L n).1,(ik L n).2.1⟩:vd)]).length:=Sm
  refine⟨zG.2 ⟨Om,Sm⟩,?_,a⟩
  rw[qO hi]
  simp
def qM(L n):∃M,(bz L n).2.2=L++M:=IG L n
inductive wB:ej->Prop
 |mk (k f t u:Int) (x:ByteArray) (ks:List ej) (bf:uA ⟨k,f,t,u,x,0,0⟩ ks.length=0) (fw:∀i (hi:i<ks.length),wB ks[i]):wB (.mk k f t u x ks)
def VB(t):∀i n:Int,(qK i n t).1=0->wB t:=by
 induction t using ej.ind with
 |h k f t u x ks c =>
  have b:∀ks,(∀i (hi:i<ks.length),∀j n:Int,(qK j n ks[i]).1=0->wB ks[i])->∀i e n:Int,(vG i e n ks).1=0->e=0/\∀i (hi:i<ks.length),wB ks[i]:=by
   intro ks;induction ks with
   |nil=>intro _ i e n h;exact⟨by simpa[vG]using h,fun i hi=>Uc⟩
   |cons t ts a =>
    intro hh i e n h
    unfold vG at h
    split at h
    rename_i d
    have:=a (fun i hi=>hh (i+1) Uc) _ _ _ h
    refine⟨d,fun j g=>?_⟩
    cases j with
    |zero=>exact hh 0 Sm i n this.1
    |succ j=>exact this.2 j Uc
    grind
  intro i n h
  unfold qK at h
  split at h
  cases h
  split at h
  cases h
  have:=b ks c _ _ _ h
  exact .mk _ _ _ _ _ _ this.1 this.2
def wB.pT{k f t u x ks}(h:wB (.mk k f t u x ks)):zM ⟨k,f,t,u,x,0,0⟩=0/\(ks.length:Int)=(fl k).fw/\zO (fl k) ⟨k,f,t,u,x,0,0⟩=0/\∀i (hi:i<ks.length),wB ks[i]:=by
 cases h with
 |mk _ _ _ _ _ _ bf fw =>
  unfold uA at bf
  simp only at bf
  by_cases a:zM ⟨k,f,t,u,x,0,0⟩=0
  grind
  grind
def zCT(x):∀L,Wf L->wB x->(grow L x).2.1=0->bj (grow L x).2.2 (grow L x).1=ai/\zA (grow L x).2.2 (grow L x).1=x:=by
 induction x using ej.ind with
 |h k f t u x ks r =>
  intro L s K e
  have⟨_,d,_,p⟩:=K.pT
  have g:∀n i,Wf i->n.ba=k->n.cj=f->n.to=t->n.num=u->n.cf=x->(bz i n).2.1=0->(zB n).map (zA i)=ks->bj (bz i n).2.2 (bz i n).1=ai/\zA (bz i n).2.2 (bz i n).1=.mk k f t u x ks:=by
   intro n i y I N J P R O F;have⟨w,m,H⟩:=xH O;refine⟨w,?_⟩;rw[zW (yG y n) w,m,I,N,J,P,R,<-F];congr 1;refine List.map_congr_left fun q Q=>?_;have⟨M,B⟩:=qM i n;have D:=(Lw H).2.2.2.2.1 q Q;rw[B];have A:=yG y n;rw[B]at A;exact uI A _ q rfl D
  rw[grow]at e|-
  match ks,r,d,p,g,e with
  |[],_,d,_,g,e =>
   rw[zU]at e|-
   have z:(fl k).fw=0:=Uc
   exact g _ L s rfl rfl rfl rfl rfl e (by simp[zB,z])
  |[a],r,d,p,g,e =>
   have z:(fl k).fw=1:=Uc
   rw[zU]at e|-
   by_cases j:(grow L a).2.1≠0
   grind
   rw[aw j]at e|-
   have j:(grow L a).2.1=0:=Uc
   have⟨i1,v⟩:=r 0 Sm L s (p 0 Sm) j
   simp only[List.getElem_cons_zero]at i1 v
   rw[zU]at e|-
   exact g _ _ (Gz a L s) rfl rfl rfl rfl rfl e (by simp[zB,z,v])
  |[a,b],r,d,p,g,e =>
   have z:(fl k).fw=2:=Uc
   rw[zU]at e|-
   by_cases j:(grow L a).2.1≠0
   rw[bt j]at e;exact absurd e j
   rw[aw j]at e|-
   have j:(grow L a).2.1=0:=Uc
   have l:=Gz a L s
   have⟨i1,v⟩:=r 0 Sm L s (p 0 Sm) j
   simp only[List.getElem_cons_zero]at i1 v
   rw[zU]at e|-
   by_cases E:(grow (grow L a).2.2 b).2.1≠0
   grind
   rw[aw E]at e|-
   have E:(grow (grow L a).2.2 b).2.1=0:=Uc
   have o:=Gz b _ l
   have⟨i2,G⟩:=r 1 Sm (grow L a).2.2 l (p 1 Sm) E
   simp only[List.getElem_cons_succ,List.getElem_cons_zero]at i2 G
   have⟨M,B⟩:=(AO b (grow L a).2.2 l.ok).2
   have C:zA (grow (grow L a).2.2 b).2.2 (grow L a).1=a:=by
    rw[B]at o|-;exact(uI o _ _ rfl i1).trans v
   rw[zU]at e|-
   exact g _ _ o rfl rfl rfl rfl rfl e (by simp[zB,z,C,G])
  |a :: b :: c :: ks,_,d,_,_,_ =>
   have:=qW k
   simp only[List.length_cons]at d
   omega
def Da{L}(b:Wf L){x}(h:(of L x).2.1=0):bj (of L x).2.2 (of L x).1=ai/\zA (of L x).2.2 (of L x).1=x/\wB x:=by
 unfold of at h|-;by_cases h1:(qK 0 0 x).1≠0;grind;rw[aw h1]at h|-;have a:=VB x 0 0 Uc;by_cases h2:(grow L x).2.1≠0;grind;rw[aw h2]at h|-;have:=zCT x L b a Uc;exact⟨this.1,this.2,a⟩
def yE{L}(g:Wf L):∀n s t,s.toNat+t.toNat=n->bj L s=ai->bj L t=ai->zA L s=zA L t->s=t:=by
 intro n;induction n using Nat.strongRecOn with
 |_ n E =>
  intro s t J hs ht A
  rw[zW g hs,zW g ht]at A
  injection A with k q p r u m
  obtain⟨i,hi,rfl⟩:=wC hs
  obtain⟨j,H,rfl⟩:=wC ht
  have f:=(g.dr hs)
  have e:=(g.dr ht)
  rw[qO hi]at k q p r u m f
  rw[qO H]at k q p r u m e
  generalize x:L[i].dr=l at *
  generalize v:L[j].dr=o at *
  have c:∀a∈zB l,∀b∈zB o,zA L a=zA L b->a=b:=by
   intro a F b G d;have h1:=f.2.2.2.2.1 a F;have h2:=e.2.2.2.2.1 b G;have I:=zG.1 h1.1;have K:=zG.1 h2.1;exact E (a.toNat+b.toNat) Om a b rfl h1.1 h2.1 d
  have d:l.a=o.a/\l.b=o.b:=by
   have B:=f.2.1;have C:=f.2.2.1;have z:=e.2.1;have y:=e.2.2.1;unfold zB at m c;rw[<-k]at m c z y;rcases qW l.ba with h|h|h<;>rw[h]at m c B C z y;grind;grind;grind
  have D:L[i].dr=L[j].dr:=by
   rw[x,v];have⟨_,_,_,_,_,_,_⟩:=l;have⟨_,_,_,_,_,_,_⟩:=o;simp at k q p r u d;simp[k,q,p,r,u,d]
  have:=List.pairwise_iff_getElem.1 g.ok.qu
  have w:i=j:=Gd
  rw[w]
def GV{n:Nat}(h:n<256):(UInt8.ofNat n).toNat=n:=Uc
def jcP{i m}(hi:i<=9)(h:m*128^i<18446744073709551616):i=9->m<2:=by
 rintro rfl;omega
def zBR:∀m i a c,i<=9->m*128^i<18446744073709551616->(0<i->0<m)->xU i a (vE m++c)=.ok (a+m*128^i,i+(vE m).length):=by
 intro m;induction m using Nat.strongRecOn with
 |ind m d =>
  intro i a c hi g j
  have k:=jcP hi g
  by_cases h:m<128
  rw[tD h,List.singleton_append,xT,GV Om,aw Om,bt h,aw Om,List.length_singleton]
  rw[Bm Om,List.cons_append,xT,GV Om,aw Om,aw Om]
  have e:m/128*128^(i+1)=m/128*128*128^i:=Uc
  have le:m/128*128*128^i<=m*128^i:=Nat.mul_le_mul_right _ Om
  rw[d (m/128) Om (i+1) _ c Om Om Om,e,List.length_cons]
  have b:(m%128+128)%128=m%128:=Om
  have f:m*128^i=m%128*128^i+m/128*128*128^i:=by rw[<-Nat.add_mul];congr 1;omega
  rw[b,f]
  congr 2
  omega
  omega
def PB{n}(h:n<18446744073709551616)(c):xU 0 0 (vE n++c)=.ok (n,(vE n).length):=by
 rw[zBR n 0 0 c Om Uc Om];simp
def X0{i y m}(hi:i<=8)(e:y<=127)(a:m*128^(i+1)<18446744073709551616):(y+128*m)*128^i<18446744073709551616:=by
 rw[Nat.pow_succ]at a;obtain⟨q,c⟩:∃q,18446744073709551616=q*(128^i*128):=by
  refine⟨2^(64-7*(i+1)),?_⟩;rw[show 128^i*128=2^(7*(i+1)) by rw[Nat.pow_mul];rfl,<-Nat.pow_add,show 64-7*(i+1)+7*(i+1)=64 by omega]
 have b:0<128^i:=Nat.pow_pos Om;generalize 128^i=P at *;rw[c]at a|-;have d:=Nat.lt_of_mul_lt_mul_right a;have h1:(y+128*m)*P<128*(m+1)*P:=Nat.mul_lt_mul_of_pos_right Om b;have h2:128*(m+1)*P<=128*q*P:=Nat.mul_le_mul_right _<|Nat.mul_le_mul_left _ d;have h3:q*(P*128)=128*q*P:=by rw[Nat.mul_comm P,<-Nat.mul_assoc,Nat.mul_comm q]
 omega
def zBS:∀l i b n k,i<=9->xU i b l=.ok (n,k)->∃m c,l=vE m++c/\n=b+m*128^i/\k=i+(vE m).length/\(0<i->0<m)/\m*128^i<18446744073709551616:=by
 intro l;induction l with
 |nil=>intro i b n k _ h;simp[xU]at h
 |cons x l q =>
  intro i b n k hi h
  have hx:=x.toNat_lt
  have d:UInt8.ofNat x.toNat=x:=Sm
  rw[xT]at h
  split at h
  cases h
  rename_i t
  split at h
  rename_i a
  split at h
  cases h
  rename_i s
  cases h
  refine⟨x.toNat,l,by rw[tD a,d];rfl,rfl,by rw[tD a];rfl,Om,?_⟩
  have:i=0\/i=1\/i=2\/i=3\/i=4\/i=5\/i=6\/i=7\/i=8\/i=9:=Om
  rcases this with rfl|rfl|rfl|rfl|rfl|rfl|rfl|rfl|rfl|rfl<;>omega
  rename_i a
  have g:i<=8:=Om
  obtain⟨m,c,rfl,rfl,rfl,o,r⟩:=q _ _ _ _ Om h
  have o:=o Om
  have j:0<x.toNat%128+128*m:=Om
  have e:x.toNat%128+128*m=x.toNat%128+128*m:=rfl
  refine⟨x.toNat%128+128*m,c,?_,?_,?_,fun _=>j,?_⟩
  rw[Bm (n:=x.toNat%128+128*m) Om,List.cons_append]
  have p:(x.toNat%128+128*m)%128+128=x.toNat:=Om
  have f:(x.toNat%128+128*m)/128=m:=Om
  rw[p,f,d]
  grind
  rw[Bm (n:=x.toNat%128+128*m) Om,List.length_cons]
  have f:(x.toNat%128+128*m)/128=m:=Om
  rw[f];omega
  exact X0 g Om r
def PT{l n k}(h:xU 0 0 l=.ok (n,k)):∃c,l=vE n++c/\k=(vE n).length/\n<18446744073709551616:=by
 have⟨m,c,h1,h2,h3,_,a⟩:=zBS l 0 0 n k Om h;simp at h2 h3 a;subst h2;exact⟨c,h1,h3,a⟩
def yT(L:bw):Prop:=∀e∈L,yA e.dr.num
def yT.nil:yT []:=fun _ h=>Uc
def yT.bz{L}(h:yT L){n}(a:yA n.num):yT (bz L n).2.2:=by
 rcases FE L n with e|⟨_,e⟩;rw[e];exact h;rw[e];intro x hx;rcases List.mem_append.1 hx with hx|hx;exact h x hx;grind
def yT.grow(t):∀L,yT L->rz t->yT (grow L t).2.2:=by
 induction t using ej.ind with
 |h k f t u x ks e =>
  have:∀ks,(∀i (hi:i<ks.length),∀L,yT L->rz ks[i]->yT (Proofs.grow L ks[i]).2.2)->(∀i (hi:i<ks.length),rz ks[i])->∀(n:gP) i L,yA n.num->yT L->yT (zU n i L ks).2.2:=by
   intro ks;induction ks with
   |nil=>intro _ _ n i L d h;unfold zU;exact h.bz d
   |cons t ts a =>
    intro hh c n i L d h
    have b:=hh 0 Sm L h<|c 0 Sm
    simp only[List.getElem_cons_zero]at b
    unfold zU
    split
    exact b
    exact a (fun i hi=>hh (i+1) Uc) (fun i hi=>c (i+1) Uc) _ _ _ Uc b
  intro L h g
  cases g with
  |mk _ _ _ _ _ _ bf fw =>
   unfold Proofs.grow
   exact this ks e fw _ _ L bf h
def yT.of{L}(h:yT L){t}(a:rz t):yT (of L t).2.2:=by
 unfold Proofs.of;split;exact h;split;exact h;exact yT.grow t L h a
def yT.dr{L}(h:yT L)(t):yA (ar L t).num:=by
 cases ht:bj L t with
 |true=>have⟨e,a,b,_⟩:=Cn ht;simp only[ar,a,Option.map_some,Option.getD_some];exact h e b
 |false=>simp only[ar,yD ht,Option.map_none,Option.getD_none];exact⟨De,De⟩
def yu{L}(e:Wf L){t}(ht:bj L t=ai):1<=(ar L t).ba/\(ar L t).ba<=9/\0<=(ar L t).cj/\(ar L t).cj<16/\0<=(ar L t).to/\(ar L t).to<16/\(ar L t).cf.size<=64:=by
 have⟨h1,_,_,b,_⟩:=e.dr ht;generalize ar L t=n at *;have a:qe n.ba=ai/\((fl n.ba).cj=ak->n.cj=0)/\((fl n.ba).to=ak->n.to=0):=by
  unfold zM at h1;simp only at h1;split at h1;cases h1;grind
 have c:=a.1;simp only[qe,Bool.and_eq_true,decide_eq_true_eq]at c;have d:((fl n.ba).cj=ai->sr n.cj=ai)/\((fl n.ba).to=ai->sr n.to=ai)/\n.cf.size<=64:=by
  unfold zO at b;split at b;cases b;grind
 refine⟨c.1,c.2,?_⟩;have n1:0<=n.cj/\n.cj<16:=by
  cases hs:(fl n.ba).cj with
  |true=>have:=d.1 hs;simpa[sr]using this
  |false=>rw[a.2.1 hs];decide
 have n2:0<=n.to/\n.to<16:=by
  cases hs:(fl n.ba).to with
  |true=>have:=d.2.1 hs;simpa[sr]using this
  |false=>rw[a.2.2 hs];decide
 exact⟨n1.1,n1.2,n2.1,n2.2,d.2.2⟩
def Hi(k):(qL k).length<=3:=by
 unfold qL;repeat' split
 all_goals decide
def K4(n:gP)(b a:Nat)(f:fj)(h1:n.cj<16)(h2:n.to<16)(h3:yA n.num)(c:n.cf.size<=64)(e:b<65537)(d:a<65537):(f.bytes n b a).length<=74:=by
 have h3:=h3.2;cases f<;>simp only[fj.bytes,vO,List.length_append];have:=vN (n:=n.cj.toNat) Om;omega;have:=vN (n:=n.to.toNat) Om;omega;have:=vN (n:=n.num.toNat) Om;omega;have:=vN (n:=n.cf.size) Om;have:n.cf.data.toList.length=n.cf.size:=Array.length_toList;omega;have:=vN (n:=b) Om;omega;have:=vN (n:=a) Om;omega
def LA{α β:Type}(f:α->List β)(c):∀l:List α,(∀x∈l,(f x).length<=c)->(l.flatMap f).length<=c*l.length:=by
 intro l;induction l with
 |nil=>intro _;simp
 |cons a l b =>
  intro h
  have h1:=h a Sm
  have h2:=b Gd
  rw[List.flatMap_cons,List.length_append,List.length_cons,Nat.mul_succ];omega
def tU(l t):gv l t<=l.length:=List.idxOf_le_length
def jQM{L}(d:Wf L)(c:yT L){bM t}(ht:bj L t=ai)(hs:bM.length<=65536):(yC L bM t).length<=300:=by
 have⟨_,_,_,h1,_,h2,e⟩:=yu d ht;have:=LA (fj.bytes (ar L t) (gv bM (ar L t).a)<|gv bM (ar L t).b) 74 (qL (ar L t).ba) fun f _=>K4 _ _ _ f h1 h2 (c.dr t) e (Oh<|tU bM (ar L t).a)<|Oh<|tU bM (ar L t).b;have h3:=Hi (ar L t).ba;have:74*(qL (ar L t).ba).length<=74*3:=Nat.mul_le_mul_left _ h3;unfold yC;rw[List.length_cons];omega
def PK{L}(b:Wf L)(a:yT L):∀l bM,(∀t∈l,bj L t=ai)->bM.length+l.length<=65536->(kh L bM l).length<=300*l.length:=by
 intro l;induction l with
 |nil=>intro bM _ _;simp[kh]
 |cons t l c =>
  intro bM h d
  rw[List.length_cons]at d
  have h1:=jQM b a (bM:=bM) (h t Sm) Om
  have h2:=c (bM++[t]) Gd Gd
  rw[kh,List.length_append,List.length_cons,Nat.mul_succ];omega
def VG{L}(c:Wf L){t}(ht:bj L t=ai):
  (fj.pQ∈qL (ar L t).ba\/(ar L t).cj=0)/\(fj.qk∈qL (ar L t).ba\/(ar L t).to=0)/\(fj.num∈qL (ar L t).ba\/(ar L t).num=0) /\
  (fj.cf∈qL (ar L t).ba\/(ar L t).cf=⟨#[]⟩)/\(fj.fst∈qL (ar L t).ba\/(ar L t).a=0)/\(fj.snd∈qL (ar L t).ba\/(ar L t).b=0):=by
 have⟨h1,h2,h3,_⟩:=c.dr ht
 have⟨d,e,_⟩:=yu c ht
 generalize ar L t=n at *
 have⟨k,f,t,u,x,a,b⟩:=n
 simp only at *
 unfold zM at h1
 have:k=1\/k=2\/k=3\/k=4\/k=5\/k=6\/k=7\/k=8\/k=9:=Om
 rcases this with rfl|rfl|rfl|rfl|rfl|rfl|rfl|rfl|rfl<;>simp[qL,fl,qe]at*<;>simp_all
def Ia{n}(h:fj.fst∈qL n.ba):n.a∈zB n:=by
 unfold qL at h;unfold zB fl
 repeat' split at h
 all_goals first|(exfalso;revert h;decide)|skip
 all_goals (rename_i h1;rw[h1];simp)
def JZ{n}(h:fj.snd∈qL n.ba):n.b∈zB n:=by
 unfold qL at h;unfold zB fl
 repeat' split at h
 all_goals first|(exfalso;revert h;decide)|skip
 all_goals (rename_i h1;rw[h1];simp)
def TI{L}(a:Wf L){s t}(hs:bj L s=ai)(ht:bj L t=ai)(h:ar L s=ar L t):s=t:=by
 obtain⟨i,hi,rfl⟩:=wC hs;obtain⟨j,b,rfl⟩:=wC ht;rw[qO hi,qO b]at h;have:=a.ok.qu;have e:i=j:=by
  refine(List.getElem_inj (h₀:=Uc) (h₁:=Uc) this).1 ?_;simpa using h
 rw[e]
def xm(L:bw):List Int->List Int->Prop
 |_,[]=>True
 |bM,z :: l=>(∀k∈zB (ar L z),k∈bM)/\xm L (bM++[z]) l
def Y0{L}:∀l bM,(∀cd z a,l=cd++z ::a->∀k∈zB (ar L z),k∈bM++cd)->xm L bM l:=by
 intro l;induction l with
 |nil=>intro _ _;trivial
 |cons z l c =>
  intro bM h
  refine⟨fun k b=>by simpa using h [] z l rfl k b,c _ fun cd y a e k b=>?_⟩
  have:=h (z ::cd) y a Uc k b
  simpa using this
def xE{L}(b:Wf L)(t):xm L [] (gz L t):=Y0 _ _ (fun cd z a e k c=>by rw[List.nil_append];exact I2 b t cd z a e k c)
def xC{L}(a:Wf L){t u}(h:u∈gz L t):bj L u=ai:=have h:=(A6 a).1 h;(mw.le a h.1 h.2).1
def NQ{L}(a:Wf L){t}(h:bj L t=ai):t∈gz L t:=(A6 a).2 ⟨h,.refl _⟩
def FG{α β γ δ:Type}{f:α->γ}{g:β->γ}{i:α->δ}{e:β->δ}:∀{d:List α} {c:List β},d.map f=c.map g->(∀a∈d,∀b∈c,f a=g b->i a=e b)->d.map i=c.map e:=by
 intro d;induction d with
 |nil=>intro c h _;cases c with
  |nil=>rfl
  |cons b c=>simp at h
 |cons a d j=>intro c h hh;cases c with
  |nil=>simp at h
  |cons b c =>
   simp only[List.map_cons,List.cons.injEq]at h|-
   exact⟨hh a Sm b Sm h.1,j h.2 Gd⟩
def AX{L M}(hL:Wf L)(a:Wf M){s t}(hs:bj L s=ai)(ht:bj M t=ai)(h:zA L s=zA M t):
  (ar L s).ba=(ar M t).ba/\(ar L s).cj=(ar M t).cj/\(ar L s).to=(ar M t).to/\(ar L s).num=(ar M t).num/\(ar L s).cf=(ar M t).cf/\(zB<|ar L s).map (zA L)=(zB<|ar M t).map (zA M):=by
 rw[zW hL hs,zW a ht]at h
 simpa using h
def L6{L M}(hL:Wf L)(m:Wf M):∀(n:Nat) (s t:Int),s.toNat=n->bj L s=ai->bj M t=ai->zA L s=zA M t->sizeOf L s=sizeOf M t/\gN L s=gN M t:=by
 intro n;induction n using Nat.strongRecOn with
 |_ n q =>
 intro s t r hs ht h;have j:=(AX hL m hs ht h).2.2.2.2.2;have⟨_,_,_,_,g,p,o⟩:=hL.dr hs;have⟨_,_,_,_,d1,d2,d3⟩:=m.dr ht;have key:∀a∈zB (ar L s),∀b∈zB (ar M t),zA L a=zA M b->sizeOf L a=sizeOf M b/\gN L a=gN M b:=fun a c b f e=>by
  have:=zG.1 (g a c).1;exact q a.toNat Uc a b rfl (g a c).1 (d1 b f).1 e
 refine⟨?_,?_⟩;rw[p,d2,FG j fun a c b f e=>(key a c b f e).1];have e:=FG j fun a c b f e=>(key a c b f e).2;rw[o,d3];have i:∀(l:List Int) (P:bw),l.foldl (fun d k=>max d<|gN P k) 0=(l.map<|gN P).foldl max 0:=fun l P=>by rw[List.foldl_map]
 rw[i,i,e]
def Ni{L}(hL:Wf L):∀{d c:List Int},(∀k∈d,bj L k=ai)->(∀k∈c,bj L k=ai)->d.map (zA L)=c.map (zA L)->d=c:=by
 intro d;induction d with
 |nil=>intro c _ _ h;cases c with
  |nil=>rfl
  |cons b c=>simp at h
 |cons a d e=>intro c h1 h2 h;cases c with
  |nil=>simp at h
  |cons b c =>
   simp only[List.map_cons,List.cons.injEq]at h
   rw[yE hL _ a b rfl (h1 a Sm) (h2 b Sm) h.1,e Gd Gd h.2]
structure Ren(L q:bw)(z:Int)(n:gP):Prop where
 ba:n.ba=(ar L z).ba
 cj:n.cj=(ar L z).cj
 to:n.to=(ar L z).to
 num:n.num=(ar L z).num
 cf:n.cf=(ar L z).cf
 DH:∀k∈zB n,bj q k=ai
 fw:(zB n).map (zA q)=(zB<|ar L z).map (zA L)
 a0:(fl n.ba).fw<1->n.a=0
 b0:(fl n.ba).fw<2->n.b=0
def Ze{n m}(c:n.ba=m.ba)(h:zB n=zB m)(a1:(fl n.ba).fw<1->n.a=0)(b1:(fl n.ba).fw<2->n.b=0)(a2:(fl m.ba).fw<1->m.a=0)(b2:(fl m.ba).fw<2->m.b=0):n.a=m.a/\n.b=m.b:=by
 unfold zB at h;rw[<-c]at h a2 b2;rcases qW n.ba with e|e|e;grind;rw[e]at h;simp at h;exact⟨h,Uc⟩;rw[e]at h;simpa using h
section
variable {L q:bw} (hL:Wf L) (hq:Wf q) {z:Int} (hz:bj L z=ai) {n:gP} (h:Ren L q z n)
include hL hq hz h
def Ren.ik:ik q n=(sizeOf L z,gN L z,0):=by
 have⟨i,u,p,g,j,w,x⟩:=hL.dr hz;have t:zM n=0:=by
  have:zM n=zM (ar L z):=by unfold zM;rw[h.ba,h.cj,h.to,h.num,h.cf]
  rw[this,i]
 have s:zO (fl n.ba) n=0:=by
  have:zO (fl n.ba) n=zO (fl (ar L z).ba) (ar L z):=by unfold zO;rw[h.ba,h.cj,h.to,h.cf]
  rw[this,g]
 have key:∀a∈zB n,∀b∈zB (ar L z),zA q a=zA L b->sizeOf q a=sizeOf L b/\gN q a=gN L b:=fun a f b c e=>L6 hq hL _ a b rfl (h.DH a f) (j b c).1 e;have y:=FG h.fw fun a f b c e=>(key a f b c e).1;have r:=FG h.fw fun a f b c e=>(key a f b c e).2;have v:∀(l:List Int) (P:bw),l.foldl (fun d k=>max d<|gN P k) 0=(l.map<|gN P).foldl max 0:=fun l P=>by rw[List.foldl_map]
 have s1:1+((zB n).map<|sizeOf q).sum=sizeOf L z:=Uc;have o:(zB n).foldl (fun d k=>max d<|gN q k) 0+1=gN L z:=Uc;have b1:=hL.ok.sizeOf z;have b2:=hL.ok.gN z;unfold Proofs.ik;simp only;rw[aw Uc,aw,aw Uc,aw,s1,o,aw Om];simp only[List.any_eq_true,not_exists,not_and];intro k m;rw[h.DH k m];decide;have a0:=h.a0;have b0:=h.b0;simp only[Bool.or_eq_true,Bool.and_eq_true,decide_eq_true_eq,bne_iff_ne,ne_eq,not_or,not_and,Decidable.not_not];exact⟨a0,b0⟩
omit hq in
def Ren.zn{v M}(c:Wf M)(b:bj M v=ai)(a:ar M v=n)(d:∀k∈zB n,zA M k=zA q k):zA M v=zA L z:=by
 rw[zW c b,zW hL hz,a,h.ba,h.cj,h.to,h.num,h.cf,<-h.fw];congr 1;exact List.map_congr_left d
def Ren.dr{v}(b:bj q v=ai)(ht:zA q v=zA L z):ar q v=n:=by
 have⟨g,j,A,x,t,f⟩:=AX hq hL b hz ht;have⟨_,d,c,_,i,_⟩:=hq.dr b;have a:=Ni hq (fun k e=>(i k e).1) h.DH<|f.trans h.fw.symm;have⟨w,p⟩:=Ze (g.trans h.ba.symm) a d c h.a0 h.b0;have s:=h.ba;have y:=h.cj;have l:=h.to;have u:=h.num;have r:=h.cf;generalize ar q v=m at *;generalize ar L z=o at *;cases m;cases n;simp_all
def Ren.zm(c:∀v,bj q v=ai->zA q v≠zA L z):find q n=bo:=by
 cases b:find q n with
 |none=>rfl
 |some i =>
  exfalso
  have⟨hi,e⟩:=Bz b
  have a:bj q ((i:Int)+1)=ai:=zG.2 ⟨Om,Om⟩
  exact c _ a<|h.zn hL hz hq a (by rw[qO hi,e]) fun _ _=>rfl
def Ren.jaM{v}(c:bj q v=ai)(ht:zA q v=zA L z):find q n=ab (v-1).toNat:=by
 have d:=h.dr hL hq hz c ht;cases a:find q n with
 |none =>
  exfalso
  unfold find at a
  rw[List.findIdx?_eq_none_iff]at a
  obtain⟨i,hi,rfl⟩:=wC c
  rw[qO hi]at d
  have:=a q[i]<|List.getElem_mem hi
  simp at this;exact this d
 |some i =>
  have⟨hi,e⟩:=Bz a
  have b:bj q ((i:Int)+1)=ai:=zG.2 ⟨Om,Om⟩
  have:=Go.Proofs.TI hq b c (by rw[qO hi,e,d])
  rw[<-this];simp
def Ren.Hx{v}(a:bj q v=ai)(ht:zA q v=zA L z):bz q n=(v,0,q):=by
 have b:=h.ik hL hq hz;have c:=h.jaM hL hq hz a ht;have h1:=(zG.1 a).1;unfold bz;simp only[b,c];rw[aw Sm];simp only[ei,and_true];omega
def Ren.BG(c:∀v,bj q v=ai->zA q v≠zA L z)(d:q.length<65536):bz q n=((q.length:Int)+1,0,q++[⟨n,sizeOf L z,gN L z⟩]):=by
 have b:=h.ik hL hq hz;have a:=h.zm hL hq hz c;unfold bz;simp only[b,a];rw[aw Sm,aw Om]
def Ren.jax(d:¬q.length<65536)(c:∀v,bj q v=ai->zA q v≠zA L z):bz q n=(0,6,q):=by
 have b:=h.ik hL hq hz;have a:=h.zm hL hq hz c;unfold bz;simp only[b,a];rw[aw Sm,bt Om]
def Ren.pU(i:(bz q n).2.1=0):Wf (bz q n).2.2/\bj (bz q n).2.2 (bz q n).1=ai/\zA (bz q n).2.2 (bz q n).1=zA L z/\∀v,bj q v=ai->bj (bz q n).2.2 v=ai/\zA (bz q n).2.2 v=zA q v:=by
 have b:=yG hq n;have⟨M,e⟩:=qM q n;have⟨d,g,_⟩:=xH i;have a:∀v,bj q v=ai->bj (bz q n).2.2 v=ai/\zA (bz q n).2.2 v=zA q v:=fun v c=>by
  rw[e]at b|-;exact⟨yP c,uI b _ v rfl c⟩
 exact⟨b,d,h.zn hL hz b d g fun k f=>(a k<|h.DH k f).2,a⟩
def Ren.gd:(bz q n).2.1=0\/(bz q n).2.1=6/\65536<=q.length/\∀v,bj q v=ai->zA q v≠zA L z:=by
 by_cases hx:∃v,bj q v=ai/\zA q v=zA L z;have⟨v,a,ht⟩:=hx;rw[h.Hx hL hq hz a ht];exact .inl rfl;have hx:∀v,bj q v=ai->zA q v≠zA L z:=fun v a e=>hx ⟨v,a,e⟩;by_cases b:q.length<65536;rw[h.BG hL hq hz hx b];exact .inl rfl;rw[h.jax hL hq hz b hx];exact .inr ⟨rfl,Om,hx⟩
end
structure Cp(Lq L:bw)(bf:Int->Int)(bM:List Int):Prop where
 wf:Wf L
 DJ:∀s∈bM,bj Lq s=ai
 at_:∀s∈bM,bj L (bf s)=ai/\zA L (bf s)=zA Lq s
 od:∀x,x∉bM->bf x=0
def Pc(n)(bf:Int->Int):zB { n with a:=bf n.a,b:=bf n.b }=(zB n).map bf:=by
 unfold zB;simp only[List.map_take,List.map_cons,List.map_nil]
def Cp.Cq{Lq L}{bf:Int->Int}{bM}(h:Cp Lq L bf bM)(g:Wf Lq){z}(f:bj Lq z=ai)(d:∀k∈zB (ar Lq z),k∈bM):
  Ren Lq L z { ar Lq z with a:=bf (ar Lq z).a,b:=bf (ar Lq z).b }:=by
 have⟨_,l,j,_⟩:=g.dr f
 have m:=h.od 0 fun i=>Oh<|(zG.1<|h.DJ 0 i).1
 refine⟨rfl,rfl,rfl,rfl,rfl,?_,?_,fun e=>Uc,fun e=>Uc⟩
 intro k c
 rw[Pc]at c
 obtain⟨x,hx,rfl⟩:=List.mem_map.1 c
 exact(h.at_ x<|d x hx).1
 rw[Pc,List.map_map]
 exact List.map_congr_left fun x hx=>(h.at_ x<|d x hx).2
def Cp.step{Lq L}{bf:Int->Int}{bM}(h:Cp Lq L bf bM)(d:Wf Lq){z}(b:bj Lq z=ai)(j:∀k∈zB (ar Lq z),k∈bM){n}(g:Ren Lq L z n)(f:(bz L n).2.1=0):
  Cp Lq (bz L n).2.2 (fun x=>if x=z then(bz L n).1 else bf x) (bM++[z]):=by
 have⟨c,l,i,a⟩:=g.pU d h.wf b f
 refine⟨c,fun s hs=>?_,fun s hs=>?_,fun x hx=>?_⟩
 rcases List.mem_append.1 hs with hs|hs
 exact h.DJ s hs
 grind
 by_cases e:s=z
 grind
 simp only[aw e]
 have hs:=(List.mem_append.1 hs).resolve_right Gd
 have⟨a1,a2⟩:=h.at_ s hs
 exact⟨(a _ a1).1,(a _ a1).2.trans a2⟩
 simp only[List.mem_append,List.mem_singleton,not_or]at hx
 rw[aw hx.2];exact h.od x hx.1
def DL(L n):(bz L n).2.2.length<=L.length+1:=by
 rcases FE L n with e|⟨_,e⟩<;>rw[e]<;>simp
def qB(Lq z l L)(bf:Int->Int){n}(c:{ ar Lq z with a:=bf (ar Lq z).a,b:=bf (ar Lq z).b }=n){x e L'}(d:bz L n=(x,e,L')):
  zS Lq (z ::l) L bf=if e≠0 then(L,e,bf)else zS Lq l L' (fun y=>if y=z then x else bf y):=by
 subst c
 show(if(bz L _).2.1≠0 then _ else _)=_
 rw[d]
def GM{Lq}(f:Wf Lq):∀l bM L bf,Cp Lq L bf bM->(∀z∈l,bj Lq z=ai)->xm Lq bM l ->
  ((zS Lq l L bf).2.1=0/\Cp Lq (zS Lq l L bf).1 (zS Lq l L bf).2.2 (bM++l))\/((zS Lq l L bf).2.1=6/\¬(L.length+l.length<=65536)):=by
 intro l
 induction l with
 |nil=>intro bM L bf h _ _;exact .inl ⟨rfl,by rw[List.append_nil];exact h⟩
 |cons z l u =>
  intro bM L bf h t c
  have d:=t z Sm
  have j:=h.Cq f d c.1
  generalize k:({ ar Lq z with a:=bf (ar Lq z).a,b:=bf (ar Lq z).b }:gP)=n at j
  have q:=DL L n
  have i:=j.gd f h.wf d
  have hs:=fun s=>h.step f d c.1 j s
  obtain⟨x,e,p,r⟩:∃x e p,bz L n=(x,e,p):=⟨_,_,_,rfl⟩
  rw[qB Lq z l L bf k r]
  rw[r]at q i hs
  simp only at q i hs
  rcases i with rfl|⟨rfl,v,_⟩
  rw[aw Sm]
  rcases u _ _ _ (hs rfl) Gd c.2 with⟨o,m⟩|⟨o,m⟩
  grind
  refine .inr ⟨o,fun g=>m ?_⟩
  rw[List.length_cons]at g;omega
  grind
def jZQ{Lq}(c:Wf Lq):∀l bM L bf,Cp Lq L bf bM->(∀z∈l,bj Lq z=ai)->xm Lq bM l->(∀z∈l,∃v,bj L v=ai/\zA L v=zA Lq z) ->
  (zS Lq l L bf).2.1=0/\(zS Lq l L bf).1=L:=by
 intro l
 induction l with
 |nil=>intro bM L bf h _ _ _;exact⟨rfl,rfl⟩
 |cons z l i =>
  intro bM L bf h k a g
  have b:=k z Sm
  have e:=h.Cq c b a.1
  have⟨v,f,j⟩:=g z Sm
  have d:=e.Hx c h.wf b f j
  have hs:=h.step c b a.1 e Uc
  rw[qB Lq z l L bf rfl d]
  rw[d]at hs
  rw[aw Sm]
  exact i _ _ _ hs Gd a.2 Gd
def Cp.start{Lq L}(a:Wf L):Cp Lq L (fun _=>0) []:=⟨a,fun _ h=>Uc,fun _ h=>Uc,fun _ _=>rfl⟩
def S9{L Lq}(a:Wf L)(b:Wf Lq)(t):(vF L Lq t).2.1=0\/((vF L Lq t).1=0/\(vF L Lq t).2.2=L):=by
 unfold vF;split;grind;exact .inr ⟨rfl,rfl⟩
def tB{L Lq}(c:Wf L)(a:Wf Lq){t}(ht:bj Lq t=ai)(d:(vF L Lq t).2.1=0):
  Wf (vF L Lq t).2.2/\bj (vF L Lq t).2.2 (vF L Lq t).1=ai/\zA (vF L Lq t).2.2 (vF L Lq t).1=zA Lq t:=by
 have h:=GM a (gz Lq t) [] L (fun _=>0) (Cp.start c) (fun z b=>xC a b)<|xE a t
 unfold vF at *
 rw[bt ht]at *
 simp only at *
 split at d
 grind
 rename_i h1
 rw[aw h1]
 simp only
 rcases h with⟨_,h⟩|⟨e,_⟩
 rw[List.nil_append]at h
 have:=h.at_ t<|NQ a ht
 exact⟨h.wf,this.1,this.2⟩
 grind
def PI{L Lq}(c:Wf L)(d:Wf Lq){t z}(h:mw Lq t z):bj Lq t=ai->∀v,bj L v=ai->zA L v=zA Lq t->∃v',bj L v'=ai/\zA L v'=zA Lq z:=by
 intro ht v g e;induction h with
 |refl=>exact⟨v,g,e⟩
 |@ku u k h1 m i =>
  have⟨v',a,f⟩:=i
  have h1:=(mw.le d ht h1).1
  have⟨_,_,_,_,_,l⟩:=AX c d a h1 f
  have j:zA Lq k∈(zB<|ar L v').map (zA L):=Uc
  have⟨x,hx,b⟩:=List.mem_map.1 j
  exact⟨x,((c.dr a).2.2.2.2.1 x hx).1,b⟩
def zDD{L Lq}(b:Wf L)(a:Wf Lq){t v}(ht:bj Lq t=ai)(g:bj L v=ai)(e:zA L v=zA Lq t):vF L Lq t=(v,0,L):=by
 have h:=jZQ a (gz Lq t) [] L (fun _=>0) (Cp.start b) (fun z c=>xC a c) (xE a t) fun z c=>PI b a ((A6 a).1 c).2 ht v g e;have i:(vF L Lq t).2.1=0:=by unfold vF;rw[bt ht];simp only;rw[aw (by rw[h.1];simp)]
 have d:(vF L Lq t).2.2=L:=by unfold vF;rw[bt ht];simp only;rw[aw (by rw[h.1];simp)];exact h.2
 have⟨_,f,j⟩:=tB b a ht i;rw[d]at f j;have k:=yE b _ _ v rfl f g (j.trans e.symm);refine Prod.ext k<|Prod.ext i d
def VC{Lq}(a:Wf Lq){t}(ht:bj Lq t=ai):(vF [] Lq t).2.1=0:=by
 have c:=tA a t;have:=a.ok.jl;rcases GM a (gz Lq t) [] [] (fun _=>0) (Cp.start Wf.nil) (fun z b=>xC a b) (xE a t)with⟨h,_⟩|⟨_,h⟩;unfold vF;rw[bt ht];simp only;rw[aw Uc];grind
structure Ho(L M:bw)(s1 a:(Int->Bool)×List Int):Prop where
 rP:s1.2.map (zA L)=a.2.map (zA M)
 i1:∀x∈s1.2,bj L x=ai
 i2:∀x∈a.2,bj M x=ai
 mark:∀x y,bj L x=ai->bj M y=ai->zA L x=zA M y->s1.1 x=a.1 y
def Yw{L M}(l:Wf L)(o:Wf M):∀(n:Nat) (m:Nat) (s t:Int) (c d:(Int->Bool)×List Int),s.toNat<n->t.toNat<m->((bj L s=ak/\bj M t=ak)\/(bj L s=ai/\bj M t=ai/\zA L s=zA M t))->Ho L M c d->Ho L M (yR L n s c) (yR M m t d):=by
 intro n;induction n with
 |zero=>intro m s t c d h;omega
 |succ n q =>
  intro m s t c d F I bh j
  cases m with
  |zero=>omega
  |succ m =>
  rw[yR,yR]
  rcases bh with⟨D,H⟩|⟨hs,ht,e⟩
  grind
  have v:=j.mark s t hs ht e
  rw[hs,ht]
  cases E:c.1 s with
  |true=>rw[aw Sm,aw Uc];exact j
  |false =>
   rw[bt ⟨rfl,rfl⟩,bt ⟨rfl,Uc⟩]
   have⟨w,_,_,_,_,i⟩:=AX l o hs ht e
   have⟨_,C,u,_,g,_⟩:=l.dr hs
   have⟨_,d2,d3,_,f,_⟩:=o.dr ht
   have B:Ho L M (jf c.1 s ai,c.2) (jf d.1 t ai,d.2):=⟨j.rP,j.i1,j.i2,fun x y hx r k=>by
    simp only[jf];by_cases ex:x=s;subst ex;have:y=t:=yE o _ y t rfl r ht (k.symm.trans e);rw[bt rfl,bt this];have:y≠t:=fun G=>ex<|yE l _ x s rfl hx hs Uc;rw[aw ex,aw this];exact j.mark x y hx r k⟩
   have A:=(zG.1 hs).1
   have z:=(zG.1 ht).1
   have ku : (((bj L (ar L s).a = ak /\ bj M (ar M t).a = ak) \/ (bj L (ar L s).a = ai /\ bj M (ar M t).a = ai /\ zA L (ar L s).a = zA M (ar M t).a)) /\
     ((bj L (ar L s).b=ak/\bj M (ar M t).b=ak)\/(bj L (ar L s).b=ai/\bj M (ar M t).b=ai/\zA L (ar L s).b=zA M (ar M t).b))) /\
     ((ar L s).a.toNat<n/\(ar L s).b.toNat<n)/\(ar M t).a.toNat<m/\(ar M t).b.toNat<m:=by
    have p:∀P,bj P 0=ak:=fun P=>by simp[bj]
    unfold zB at i g f
    rw[<-w]at i d2 d3 f
    rcases qW (ar L s).ba with h|h|h
    grind
    rw[u Om,d3 Om]
    rw[h]at i g f
    simp at i g f
    have:=zG.1 g.1;have:=zG.1 f.1
    exact⟨⟨.inr ⟨g.1,f.1,i⟩,.inl ⟨p _,p _⟩⟩,⟨Om,Om⟩,Om,Om⟩
    rw[h]at i g f
    simp at i g f
    have:=zG.1 g.1.1;have:=zG.1 f.1.1;have:=zG.1 g.2.1;have:=zG.1 f.2.1
    exact⟨⟨.inr ⟨g.1.1,f.1.1,i.1⟩,.inr ⟨g.2.1,f.2.1,i.2⟩⟩,⟨Om,Om⟩,Om,Om⟩
   have r1:=q m _ _ _ _ ku.2.1.1 ku.2.2.1 ku.1.1 B
   have r2:=q m _ _ _ _ ku.2.1.2 ku.2.2.2 ku.1.2 r1
   refine⟨?_,?_,?_,r2.mark⟩
   simp only[List.map_append,List.map_cons,List.map_nil,r2.rP,e]
   intro x hx
   rcases List.mem_append.1 hx with hx|hx
   exact r2.i1 x hx
   grind
   intro x hx
   rcases List.mem_append.1 hx with hx|hx
   exact r2.i2 x hx
   grind
def PU{L M}(a:Wf L)(b:Wf M){s t}(hs:bj L s=ai)(ht:bj M t=ai)(e:zA L s=zA M t):(gz L s).map (zA L)=(gz M t).map (zA M):=
 (Yw a b (s.toNat+1) (t.toNat+1) s t (fun _=>ak,[]) (fun _=>ak,[]) Om Om (.inr ⟨hs,ht,e⟩) ⟨rfl,Sm,Sm,fun _ _ _ _ _=>rfl⟩).rP
def RA{L M}(j:Wf L)(g:Wf M){a b}(k:bj L a=ai)(f:bj M b=ai)(e:zA L a=zA M b):∀l1 c,(∀x∈l1,bj L x=ai)->(∀x∈c,bj M x=ai)->l1.map (zA L)=c.map (zA M)->gv l1 a=gv c b:=by
 intro l1;induction l1 with
 |nil=>intro c _ _ h;cases c with
  |nil=>rfl
  |cons y c=>simp at h
 |cons x l1 i=>intro c h1 h2 h;cases c with
  |nil=>simp at h
  |cons y c =>
   simp only[List.map_cons,List.cons.injEq]at h
   have hi:=i c Gd Gd h.2
   have d:(x==a)=(y==b):=by
    by_cases ex:x=a;have:y=b:=yE g _ y b rfl (h2 y Sm) f Uc;simp[ex,this];have:y≠b:=fun l=>ex<|yE j _ x a rfl (h1 x Sm) k Uc;rw[beq_false_of_ne ex,beq_false_of_ne this]
   unfold gv at *
   rw[List.idxOf_cons,List.idxOf_cons,d,hi]
def PO{L M}(m:Wf L)(o:Wf M):∀(l1 i s1 c:List Int),(∀x∈l1,bj L x=ai)->(∀x∈i,bj M x=ai)->(∀x∈s1,bj L x=ai)->(∀x∈c,bj M x=ai)->l1.map (zA L)=i.map (zA M)->s1.map (zA L)=c.map (zA M)->kh L s1 l1=kh M c i:=by
 intro l1;induction l1 with
 |nil=>intro i s1 c _ _ _ _ h _;cases i with
  |nil=>rfl
  |cons y i=>simp at h
 |cons x l1 E=>intro i s1 c h1 h2 h3 l h w;cases i with
  |nil=>simp at h
  |cons y i =>
   simp only[List.map_cons,List.cons.injEq]at h
   have hx:=h1 x Sm
   have A:=h2 y Sm
   have⟨q,D,H,G,F,g⟩:=AX m o hx A h.1
   have⟨_,_,_,_,B,_⟩:=m.dr hx
   have⟨_,_,_,_,z,_⟩:=o.dr A
   have hi:=E i (s1++[x]) (c++[y]) Gd Gd
    Gd
    Gd h.2 Uc
   rw[kh,kh,hi]
   congr 1
   unfold yC
   rw[q]
   congr 1
   have d:∀f∈qL (ar M y).ba,f.bytes (ar L x) (gv s1 (ar L x).a) (gv s1 (ar L x).b)=f.bytes (ar M y) (gv c (ar M y).a) (gv c (ar M y).b):=by
    intro f d;have t:fj.fst∈qL (ar M y).ba->gv s1 (ar L x).a=gv c (ar M y).a:=fun d=>by
     have j:=Ia (n:=ar L x) Uc;have u:=Ia d;refine RA m o (B _ j).1 (z _ u).1 ?_ s1 c h3 l w;unfold zB at g j;rw[q]at g j;rcases qW (ar M y).ba with e|e|e<;>rw[e]at g j<;>simp at g j
     .exact g
     .exact g.1
    have r:fj.snd∈qL (ar M y).ba->gv s1 (ar L x).b=gv c (ar M y).b:=fun d=>by
     have j:=JZ (n:=ar L x) Uc;have u:=JZ d;have e:(fl (ar M y).ba).fw=2:=by
      unfold qL at d
      repeat' split at d
      all_goals first|(exfalso;revert d;decide)|skip
      all_goals (rename_i l;rw[l];rfl)
     refine RA m o (B _ j).1 (z _ u).1 ?_ s1 c h3 l w;unfold zB at g;rw[q,e]at g;simp at g;exact g.2
    cases f
    .simp only[fj.bytes,D]
    .simp only[fj.bytes,H]
    .simp only[fj.bytes,G]
    .simp only[fj.bytes,F]
    .simp only[fj.bytes,t d]
    .simp only[fj.bytes,r d]
   have C:∀(k:List fj) (s v:fj->List UInt8),(∀f∈k,s f=v f)->k.flatMap s=k.flatMap v:=by
    intro k s v;induction k with
    |nil=>intro _;rfl
    |cons f k p=>intro hh;rw[List.flatMap_cons,List.flatMap_cons,hh f Sm,p Gd]
   exact C _ _ _ d
def NK{L M}(a:Wf L)(b:Wf M){s t}(hs:bj L s=ai)(ht:bj M t=ai)(e:zA L s=zA M t):qJ L s=qJ M t:=
 PO a b _ _ [] [] (fun _ h=>xC a h) (fun _ h=>xC b h) Sm Sm (PU a b hs ht e) rfl
def _root_.Go.Proofs.fj.vz(n:gP)(c d:Nat)(x:mo):fj->mo
 |.pQ=>{ x with cj:=n.cj.toNat }
 |.qk=>{ x with to:=n.to.toNat }
 |.num=>{ x with num:=n.num.toNat }
 |.cf=>{ x with cf:=n.cf.data.toList }
 |.fst=>{ x with a:=c,fw:=1 }
 |.snd=>{ x with b:=d,fw:=2 }
def CF{bs r}(a:r.gd=0){m}(b:m<18446744073709551616){rest}(h:bs.drop r.at_=vE m++rest):vS bs r=(m,⟨r.at_+(vE m).length,0,r.spot⟩):=by
 unfold vS;rw[bt a,h,PB b]
def ZF{bs r}(d:r.gd=0){s}(hs:s.size<=64){rest}(h:bs.drop r.at_=vO s++rest):qF bs 64 r=(s.data.toList,⟨r.at_+(vO s).length,0,r.spot⟩):=by
 have b:s.data.toList.length=s.size:=Array.length_toList;have a:=mu List.length h;unfold vO at h a|-;rw[List.append_assoc]at h;rw[List.length_drop,List.length_append,List.length_append,b]at a;unfold qF;rw[bt d,h,PB Om];simp only;have e:0<(vE s.size).length:=by unfold vE;split<;>simp
 rw[aw Om,aw Om];have c:bs.drop (r.at_+(vE s.size).length)=s.data.toList++rest:=by
  rw[<-List.drop_drop,h,List.drop_left]
 rw[c,<-b,List.take_left,List.length_append];simp only[ei,Rd.mk.injEq,and_true,true_and];omega
def W8{bs n na nb}(h1:n.cj<16)(h2:n.to<16)(h3:yA n.num)(d:n.cf.size<=64)(k:na<65537)(j:nb<65537):∀c x r rest,r.gd=0->bs.drop r.at_=c.flatMap (fj.bytes n na nb)++rest ->
  vB bs c (x,r)=(c.foldl (fun x f=>f.vz n na nb x) x,⟨r.at_+(c.flatMap<|fj.bytes n na nb).length,0,r.spot⟩):=by
 intro c
 induction c with
 |nil=>intro x r rest b _;rw[vB];have⟨a,e,s⟩:=r;simp only at b;subst b;rfl
 |cons f c g =>
  intro x r rest b h
  rw[List.flatMap_cons,List.append_assoc]at h
  have i:=h3.2
  have key:f.qp bs r x=f.vz n na nb x/\f.rd bs r=⟨r.at_+(f.bytes n na nb).length,0,r.spot⟩:=by
   cases f;have:=CF b (m:=n.cj.toNat) Om h;simp only[fj.qp,fj.rd,fj.vz,fj.bytes,this,and_self];have:=CF b (m:=n.to.toNat) Om h;simp only[fj.qp,fj.rd,fj.vz,fj.bytes,this,and_self];have:=CF b (m:=n.num.toNat) Om h;simp only[fj.qp,fj.rd,fj.vz,fj.bytes,this,and_self];have:=ZF b d h;simp only[fj.qp,fj.rd,fj.vz,fj.bytes,this,and_self];have:=CF b (m:=na) Om h;simp only[fj.qp,fj.rd,fj.vz,fj.bytes,this,and_self];have:=CF b (m:=nb) Om h;simp only[fj.qp,fj.rd,fj.vz,fj.bytes,this,and_self]
  rw[vB,key.1,key.2,g _ _ rest rfl (by simp only;rw[<-List.drop_drop,h,List.drop_left]),List.foldl_cons,List.flatMap_cons,List.length_append,Nat.add_assoc]
def uU(bM:List Int)(x:Int):Int:=if x∈bM then(gv bM x:Int)+1 else 0
def Tv{bM z}(h:z∉bM):uU (bM++[z])=fun x=>if x=z then((bM.length:Int)+1)else uU bM x:=by
 funext x;unfold uU;by_cases e:x=z;subst e;simp only[List.mem_append,List.mem_singleton,or_true,if_true];rw[Fb h];rw[aw e];by_cases hx:x∈bM;rw[bt<|List.mem_append_left _ hx,bt hx,HA hx];grind
def SI{L}(c:Wf L)(s:yT L){z}(m:bj L z=ai){bM}(w:(0:Int) ∉ bM)(g:∀k∈zB (ar L z),k∈bM):
  let x:=(qL (ar L z).ba).foldl (fun x f=>f.vz (ar L z) (gv bM (ar L z).a) (gv bM (ar L z).b) x) qZ
  x.dr (ar L z).ba.toNat={ ar L z with a:=uU bM (ar L z).a,b:=uU bM (ar L z).b }/\pF (ar L z).ba.toNat bM.length x 0=0:=by
 have⟨M,O,P,Q,K,I,J⟩:=yu c m
 have⟨d1,d2,d3,E,A,D⟩:=VG c m
 have⟨_,_,_,o,_⟩:=c.dr m
 have r:=s.dr z
 have v:=Ia (n:=ar L z)
 have hs:=JZ (n:=ar L z)
 generalize ar L z=n at *
 have⟨k,f,t,u,N,a,b⟩:=n
 simp only at *
 have p:=r.1
 have H:uU bM 0=0:=by unfold uU;rw[aw w]
 have F:fj.fst∈qL k->uU bM a=(gv bM a:Int)+1/\gv bM a<bM.length:=fun h=>by
  have:=g _<|v h;unfold uU;rw[bt this];exact⟨rfl,GF this⟩
 have G:fj.snd∈qL k->uU bM b=(gv bM b:Int)+1/\gv bM b<bM.length:=fun h=>by
  have:=g _<|hs h;unfold uU;rw[bt this];exact⟨rfl,GF this⟩
 have y:(f.toNat:Int)=f:=Om
 have B:(t.toNat:Int)=t:=Om
 have C:(u.toNat:Int)=u:=Om
 have q:¬16<=f.toNat:=Om
 have i:¬16<=t.toNat:=Om
 have tb:=Uc
 have d:f.toNat=t.toNat->f=t:=fun h=>Om
 have l:k=8\/k=9->f.toNat≠t.toNat:=fun j e=>by
  have:=d e;subst this;unfold zO at o;rcases j with rfl|rfl<;>simp[fl]at o
 clear o v hs g r p c s
 have:k=1\/k=2\/k=3\/k=4\/k=5\/k=6\/k=7\/k=8\/k=9:=Om
 rcases this with rfl|rfl|rfl|rfl|rfl|rfl|rfl|rfl|rfl <;>
  simp[qL,fl,qZ,fj.vz,mo.dr,pF,H,y,B,C,q,i,tb]at d1 d2 d3 E A D F G l|-<;>simp_all<;>omega
def Un{L q bM}(h:Cp L q (uU bM) bM)(g:q.length=bM.length)(f:bM.Nodup){v}(e:bj q v=ai):∃s∈bM,uU bM s=v/\zA q v=zA L s:=by
 have⟨h1,h2⟩:=zG.1 e;have hi:(v-1).toNat<bM.length:=Om;have b:=List.getElem_mem hi;have d:gv bM bM[(v-1).toNat]=(v-1).toNat:=by
  have a:=GF b;refine(List.getElem_inj (h₀:=a) (h₁:=hi) f).1 ?_;exact List.getElem_idxOf a
 have c:uU bM bM[(v-1).toNat]=v:=by unfold uU;rw[bt b,d];omega
 refine⟨_,b,c,?_⟩;have:=(h.at_ _ b).2;rw[c]at this;exact this
def Ms(L bM z):0<(yC L bM z).length:=by unfold yC;simp
def zFV{L}(o:Wf L)(W:yT L){bs}:∀l bM q r ps c,Cp L q (uU bM) bM->q.length=bM.length->ps.length=bM.length->xm L bM l->(bM++l).Nodup->(∀z∈l,bj L z=ai) ->
  r.gd=0->r.at_<=bs.length->bs.drop r.at_=kh L bM l->bs.length-r.at_<=c->bM.length+l.length<=65535 ->
  ∃E i,qf bs c q r ps=rR E i/\Cp L E (uU<|bM++l) (bM++l)/\E.length=(bM++l).length/\i.length=(bM++l).length:=by
 intro l
 induction l with
 |nil =>
  intro bM q r ps c n I hp _ _ _ _ U G _ _
  refine⟨q,ps,D1 ?_ c,Uc,Uc,Uc⟩
  have:=mu List.length G
  simp[kh]at this;omega
 |cons z l ih =>
  intro bM q r ps c n I hp H D hl he U G hfu Q
  have t:=hl z Sm
  have C:z∉bM:=fun h=>(List.nodup_append.1 D).2.2 z h z Sm rfl
  have S:=(List.nodup_append.1 D).1
  have h0:(0:Int)∉bM:=fun h=>Oh<|(zG.1<|n.DJ 0 h).1
  rw[kh]at G
  have X:=Ms L bM z
  have N:=mu List.length G
  rw[List.length_drop,List.length_append]at N
  have w:r.at_<bs.length:=Om
  obtain⟨c,rfl⟩:∃k,c=k+1:=⟨c-1,Om⟩
  rw[List.length_cons]at Q
  have⟨k1,k9,f0,f1,t0,t1,x1⟩:=yu o t
  have A:=W.dr z
  have u:=List.drop_eq_getElem_cons w
  have f:=G
  rw[u]at f
  unfold yC at f
  rw[List.cons_append,List.cons.injEq]at f
  have⟨hb,d⟩:=f
  have J:bs[r.at_].toNat=(ar L z).ba.toNat:=by rw[hb,GV Om]
  have M:(((ar L z).ba.toNat:Nat):Int)=(ar L z).ba:=Om
  have O:=W8 f1 t1 A x1 (Oh<|tU bM (ar L z).a) (Oh<|tU bM (ar L z).b) (qL (ar L z).ba) qZ ⟨r.at_+1,0,r.spot⟩ (kh L (bM++[z]) l) rfl d
  have⟨j,F⟩:=SI o W t h0 H.1
  have g:=n.Cq o t H.1
  have m:∀v,bj q v=ai->zA q v≠zA L z:=fun v hv e=>by
   have⟨s,hs,_,e2⟩:=Un n I S hv;have:=yE o _ s z rfl (n.DJ s hs) t (e2.symm.trans e);exact C<|this▸hs
  have B:=g.BG o n.wf t m Om
  have T:=g.zm o n.wf t m
  have bh:=n.step o t H.1 g Uc
  have p:vL bs q r=((bz q { ar L z with a:=uU bM (ar L z).a,b:=uU bM (ar L z).b }).2.2,0,⟨r.at_+1+((qL (ar L z).ba).flatMap<|fj.bytes (ar L z) (gv bM (ar L z).a)<|gv bM (ar L z).b).length,0,r.spot⟩):=by
   rw[AI bs q r w he,J,M,O,bt (by unfold uL;simp;omega)];unfold oh;simp only at j F|-;rw[j,I,F,T,aw Sm,aw Sm,B]
  have P:(bz q { ar L z with a:=uU bM (ar L z).a,b:=uU bM (ar L z).b }).2.2.length=(bM++[z]).length:=Uc
  have y:(fun x=>if x=z then(bz q { ar L z with a:=uU bM (ar L z).a,b:=uU bM (ar L z).b }).1 else uU bM x)=uU (bM++[z]):=by rw[Tv C,B,I]
  rw[y]at bh
  have R:bs.drop (r.at_+1+((qL (ar L z).ba).flatMap<|fj.bytes (ar L z) (gv bM (ar L z).a)<|gv bM (ar L z).b).length)=kh L (bM++[z]) l:=by
   rw[<-List.drop_drop,d,List.drop_left]
  have K:r.at_+1+((qL (ar L z).ba).flatMap<|fj.bytes (ar L z) (gv bM (ar L z).a)<|gv bM (ar L z).b).length<=bs.length:=by
   have:=mu List.length d;rw[List.length_drop,List.length_append]at this;omega
  rw[qf,bt w,p]
  simp only
  rw[aw Sm]
  have⟨E,i,g1,Z,V,Y⟩:=ih (bM++[z]) _ ⟨_,0,r.spot⟩ (ps++[r.at_]) c bh P Uc H.2 Uc Gd rfl K R Uc Gd
  rw[List.append_assoc,List.singleton_append]at Z V Y
  exact⟨E,i,g1,Z,V,Y⟩
def zCS:∀l i,(∀j (h:j<l.length),l[j]=((i+j:Nat):Int)+1)->mm i l=i+l.length:=by
 intro l;induction l with
 |nil=>intro i _;rfl
 |cons s l b =>
  intro i h
  have a:=h 0 Sm
  simp only[List.getElem_cons_zero,Nat.add_zero]at a
  rw[mm,bt a,b (i+1) fun j c=>by have:=h (j+1) (by simpa using c);simp only[List.getElem_cons_succ]at this;rw[this];congr 2;omega,List.length_cons]
  omega
def UY{L t}(h:bj L t=ai):∃cd,gz L t=cd++[t]:=by
 unfold gz;rw[yR,bt ⟨h,rfl⟩];exact⟨_,rfl⟩
def Kq{L}(d:Wf L)(B:yT L){t}(ht:bj L t=ai)(D:(qJ L t).length<=4096):
  ∃q,zY (qJ L t)=(ab q,0,0)/\Wf q/\bj q q.length=ai/\zA q q.length=zA L t:=by
 have a:=NQ d ht
 have n:=EC d t
 have u:(gz L t).length<=(qJ L t).length:=by
  have:∀l bM,l.length<=(kh L bM l).length:=by
   intro l;induction l with
   |nil=>intro _;simp
   |cons z l w=>intro bM;have:=Ms L bM z;have:=w<|bM++[z];rw[kh,List.length_append,List.length_cons];omega
  exact this _ _
 have y:=List.length_pos_of_mem a
 have⟨q, ps, C, c, r, v⟩:=zFV d B (bs:=qJ L t) (gz L t) [] [] ⟨0, 0, 0⟩ [] (qJ L t).length (by
   have:=Cp.start (Lq:=L) Wf.nil;have e:uU []=fun _=>0:=by funext x;simp[uU]
   rw[e];exact this) rfl rfl (xE d t) Uc (fun z A=>xC d A) rfl (Nat.zero_le _) rfl (Nat.le_refl _) So
 rw[List.nil_append]at c r v
 have f:uU (gz L t) t=q.length:=by
  have⟨cd,o⟩:=UY ht;have m:t∉cd:=Uc;unfold uU;rw[bt a,r,o,Fb m];simp
 have⟨a1,a2⟩:=c.at_ t a
 rw[f]at a1 a2
 have b:gz q q.length=(gz L t).map (uU<|gz L t):=by
  refine Ni c.wf (fun k i=>xC c.wf i) (fun k i=>?_) ?_;obtain⟨x,hx,rfl⟩:=List.mem_map.1 i;exact(c.at_ x hx).1;rw[PU c.wf d a1 ht a2,List.map_map];exact List.map_congr_left fun x hx=>((c.at_ x hx).2).symm
 have p:mm 0 (gz q q.length)=ps.length:=by
  rw[zCS,b,List.length_map,Nat.zero_add,v];intro j E;have g:j<(gz L t).length:=Uc;simp only[b,List.getElem_map,Nat.zero_add];have s:=List.getElem_mem g;have o:gv (gz L t) (gz L t)[j]=j:=by
   have h:=GF s;exact(List.getElem_inj (h₀:=h) (h₁:=g) n).1<|List.getElem_idxOf h
  unfold uU;rw[bt s,o]
 refine⟨q,?_,c.wf,a1,a2⟩
 unfold zY
 rw[aw Om,aw Om,C]
 unfold rR
 simp only
 rw[dif_neg Om]
def zLG{L}(a:Wf L)(d:yT L){t}(ht:bj L t=ai)(e:(qJ L t).length<=4096):
  yM L (qJ L t)=(t,0,0,L)/\(yM []<|qJ L t).2.1=0/\zA (yM []<|qJ L t).2.2.2 (yM []<|qJ L t).1=zA L t:=by
 have⟨q,h1,h2,h3,b⟩:=Kq a d ht e
 refine⟨?_,?_⟩
 unfold yM;rw[h1];simp only
 rw[zDD a h2 h3 ht b.symm]
 unfold yM;rw[h1];simp only
 have c:=VC h2 h3
 exact⟨c,by rw[(tB Wf.nil h2 h3 c).2.2,b]⟩
def pH:Nat->List Int
 |0=>[]
 |n+1=>pH n++[(n:Int)+1]
def Eo(n):(pH n).length=n:=by induction n with
 |zero=>rfl
 |succ n a=>simp[pH,a]
def FC{n x}:x∈pH n↔1<=x/\x<=n:=by
 induction n with
 |zero=>simp[pH];omega
 |succ n a=>simp only[pH,List.mem_append,a,List.mem_singleton];omega
def N9{n:Nat}:∀{x:Int},1<=x->x<=n->gv (pH n) x=(x-1).toNat:=by
 induction n with
 |zero=>intro x h1 h2;omega
 |succ n a =>
  intro x h1 h2
  rw[pH]
  by_cases h:x<=n
  rw[HA<|FC.2 ⟨h1,h⟩,a h1 h]
  have:x=(n:Int)+1:=Om
  subst this
  rw[Fb (by rw[FC];omega),Eo];omega
def zGG{n j}(h:j<(pH n).length):(pH n)[j]=(j:Int)+1:=by
 induction n with
 |zero=>simp[pH]at h
 |succ n a =>
  simp only[pH]
  rw[List.getElem_append]
  split
  exact a _
  rename_i h1
  have:j=n:=by rw[Eo]at h h1;omega
  subst this;simp
def _root_.Go.Proofs.fj.th(x:mo):fj->List UInt8
 |.pQ=>vE x.cj|.qk=>vE x.to|.num=>vE x.num|.cf=>vO ⟨x.cf.toArray⟩|.fst=>vE x.a|.snd=>vE x.b
def KT:∀{l:List UInt8} {i n x:Nat},xU i n l=.error x->x≠0:=by
 intro l;induction l with
 |nil=>intro i n x h;simp[xU]at h;omega
 |cons c l a =>
  intro i n x h
  rw[xT]at h
  split at h
  cases h;decide
  grind
def uJ{bs r}(h:(vS bs r).2.gd=0):r.gd=0/\bs.drop r.at_=vE (vS bs r).1++bs.drop (vS bs r).2.at_/\(vS bs r).1<18446744073709551616:=by
 unfold vS at h|-;by_cases b:r.gd=0;rw[bt b]at h|-;cases a:xU 0 0 (bs.drop r.at_)with
 |error x =>
  rw[a]at h
  simp only at h
  exact absurd h<|KT a
 |ok p =>
  have⟨n,k⟩:=p
  have⟨c,h1,h2,h3⟩:=PT a
  refine⟨b,?_,h3⟩
  simp only
  rw[<-List.drop_drop,h1,h2,List.drop_left]
 grind
def zBU{bs r}(h:(qF bs 64 r).2.gd=0):r.gd=0/\bs.drop r.at_=vO ⟨(qF bs 64 r).1.toArray⟩++bs.drop (qF bs 64 r).2.at_:=by
 have a:=@uJ bs r;unfold vS at a;unfold qF at h|-;by_cases g:r.gd=0;rw[bt g]at h a|-;cases e:xU 0 0 (bs.drop r.at_)with
 |error x =>
  rw[e]at h a
  simp only at h a
  exact absurd (a h).2.1 (by
   have:=(a h).2.1;intro _;have i:=mu List.length this;rw[List.length_append,tD Om]at i;simp at i)
 |ok p =>
  have⟨n,k⟩:=p
  rw[e]at h a
  simp only at h a|-
  have⟨c,h1,h2,h3⟩:=PT e
  split at h
  simp at h
  rename_i d
  rw[aw d]
  split at h
  simp at h
  rename_i b
  rw[aw b]
  refine⟨g,?_⟩
  simp only
  have l:bs.drop (r.at_+k)=c:=Uc
  have j:n<=c.length:=Uc
  have hs:(ByteArray.mk (c.take n).toArray).size=n:=by show(c.take n).toArray.size=n;simp;omega
  have f:bs.drop (r.at_+k+n)=c.drop n:=Uc
  rw[l,f]
  unfold vO
  rw[hs,h1,List.append_assoc]
  congr 1
  simp
 grind
def YT{bs:List UInt8}{r:Rd}{x:mo}(f:fj)(h:(f.rd bs r).gd=0):r.gd=0/\bs.drop r.at_=f.th (f.qp bs r x)++bs.drop (f.rd bs r).at_:=by
 cases f;exact⟨(uJ h).1,(uJ h).2.1⟩;exact⟨(uJ h).1,(uJ h).2.1⟩;exact⟨(uJ h).1,(uJ h).2.1⟩;exact zBU h;exact⟨(uJ h).1,(uJ h).2.1⟩;exact⟨(uJ h).1,(uJ h).2.1⟩
def zBN{bs:List UInt8}{r:Rd}{x:mo}{f g:fj}(h:f≠g):f.th (g.qp bs r x)=f.th x:=by
 cases f<;>cases g<;>first|rfl|exact absurd rfl h
def WE{bs f}:∀(a:List fj) (x:mo) (r:Rd),f∉a->f.th (vB bs a (x,r)).1=f.th x:=by
 intro a;induction a with
 |nil=>intro x r _;rfl
 |cons g a b =>
  intro x r h
  simp only[List.mem_cons,not_or]at h
  rw[vB,b _ _ h.2,zBN h.1]
def jYY{bs:List UInt8}:∀a x r,a.Nodup->(vB bs a (x,r)).2.gd=0->r.gd=0/\bs.drop r.at_=a.flatMap (fun f=>f.th (vB bs a (x,r)).1)++bs.drop (vB bs a (x,r)).2.at_:=by
 intro a;induction a with
 |nil=>intro x r _ h;exact⟨h,rfl⟩
 |cons f a d =>
  intro x r b h
  rw[vB]at h|-
  rw[List.nodup_cons]at b
  have⟨h1,h2⟩:=d _ _ b.2 h
  have⟨h3,c⟩:=YT (x:=x) f h1
  refine⟨h3,?_⟩
  rw[List.flatMap_cons,c,h2,WE a _ _ b.1,List.append_assoc]
def jZL(k):(qL k).Nodup:=by
 unfold qL;repeat' split
 all_goals decide
def zKN{bs}:∀a x r,(x.num<18446744073709551616)->(vB bs a (x,r)).1.num<18446744073709551616:=by
 intro a;induction a with
 |nil=>intro x r h;exact h
 |cons f a c =>
  intro x r h
  rw[vB]
  refine c _ _ ?_
  cases f<;>try exact h
  simp only[fj.qp]
  by_cases b:(vS bs r).2.gd=0
  .exact(uJ b).2.2
  .unfold vS at b|-
   split
   .grind
   .simp
def Rv{bs k}(h1:1<=k)(a:k<=9)(r):(vB bs (qL k) (qZ,r)).1.fw=(fl k).fw.toNat/\(fj.fst∈qL k↔0<(fl k).fw)/\(fj.snd∈qL k↔1<(fl k).fw):=by
 have:k=1\/k=2\/k=3\/k=4\/k=5\/k=6\/k=7\/k=8\/k=9:=Om;rcases this with rfl|rfl|rfl|rfl|rfl|rfl|rfl|rfl|rfl<;>simp[qL,vB,fj.qp,qZ,fl]
def jYV{bs:List UInt8}{q:bw}{r:Rd}(K:Wf q)(Q:yT q)(G:r.at_<bs.length)(P:r.gd=0)(k:(vL bs q r).2.1=0):
  Wf (vL bs q r).1/\yT (vL bs q r).1/\(vL bs q r).1.length=q.length+1/\(∀v,bj q v=ai->bj (vL bs q r).1 v=ai/\zA (vL bs q r).1 v=zA q v) /\
  bs.drop r.at_=yC (vL bs q r).1 (pH q.length) ((q.length:Int)+1)++bs.drop (vL bs q r).2.2.at_:=by
 rw[AI bs q r G P]at k|-
 have g:=List.drop_eq_getElem_cons G
 have t:UInt8.ofNat bs[r.at_].toNat=bs[r.at_]:=Sm
 generalize bs[r.at_]=c at *
 split at k
 rename_i l
 rw[bt l]
 have T:1<=c.toNat/\c.toNat<=9:=by unfold uL at l;simpa using l
 have e:=@jYY bs (qL c.toNat) qZ ⟨r.at_+1,0,r.spot⟩<|jZL _
 have A:=@zKN bs (qL c.toNat) qZ ⟨r.at_+1,0,r.spot⟩ De
 have⟨S,u,y⟩:=@Rv bs (c.toNat:Int) Om Om ⟨r.at_+1,0,r.spot⟩
 generalize vB bs (qL c.toNat) (qZ,⟨r.at_+1,0,r.spot⟩)=s at *
 have⟨x,V⟩:=s
 simp only at *
 have⟨B,E,D,h,H⟩:=Jv k
 simp only at B E D h H
 rw[H]
 simp only
 have⟨_,e⟩:=e B
 have⟨W,I,L⟩:=xH h
 have m:=yG K<|x.dr c.toNat
 have o:yT (bz q<|x.dr c.toNat).2.2:=Q.bz (by simp only[mo.dr,yA];omega)
 have j:(bz q<|x.dr c.toNat).1=(q.length:Int)+1/\(bz q<|x.dr c.toNat).2.2.length=q.length+1:=by
  have U:=L;unfold bz at h|-;simp only[D]at h|-;rw[aw Uc]at h|-;split at h;simp at h;grind
 have⟨M,N⟩:=qM q<|x.dr c.toNat
 refine⟨m,o,j.2,fun v C=>?_,?_⟩
 rw[N]at m|-;exact⟨yP C,uI m _ v rfl C⟩
 rw[j.1]at I
 rw[g,e]
 unfold yC
 rw[I]
 have n:(x.dr c.toNat).ba=c.toNat:=rfl
 rw[n,Int.toNat_natCast,t,List.cons_append]
 congr 1
 congr 1
 have d:=E
 unfold pF at d
 rw[aw Om]at d
 split at d
 simp at d
 split at d
 simp at d
 rename_i J
 have O:∀(i:List fj) (w z:fj->List UInt8),(∀f∈i,w f=z f)->i.flatMap w=i.flatMap z:=by
  intro i w z;induction i with
  |nil=>intro _;rfl
  |cons f i p=>intro hh;rw[List.flatMap_cons,List.flatMap_cons,hh f Sm,p Gd]
 refine O _ _ _ fun f F=>?_
 cases f
 simp[fj.th,fj.bytes,mo.dr]
 simp[fj.th,fj.bytes,mo.dr]
 simp[fj.th,fj.bytes,mo.dr]
 simp[fj.th,fj.bytes,mo.dr]
 have h2:=u.1 F
 have hx:0<x.fw:=Om
 have R:x.a<q.length:=Om
 simp only[fj.th,fj.bytes,mo.dr,bt hx]
 rw[N9 Om Om]
 congr 1;omega
 have h2:=y.1 F
 have hx:1<x.fw:=Om
 have R:x.b<q.length:=Om
 simp only[fj.th,fj.bytes,mo.dr,bt hx]
 rw[N9 Om Om]
 congr 1;omega
 simp at k
def Ob{bs}:∀b q r ps a,Wf q->yT q->ps.length=q.length->r.gd=0->r.at_<=bs.length->bs.length - r.at_<=b->bs.take r.at_=kh q [] (pH q.length)->(qf bs b q r ps).1=ab a ->
  Wf a/\yT a/\q.length<=a.length/\bs=kh a [] (pH a.length)/\a.length<=mm 0 (gz a a.length):=by
 have d:∀q ps a,ps.length=q.length->(rR q ps).1=ab a->q=a/\q.length<=mm 0 (gz q q.length):=by
  intro q ps a k h;unfold rR at h;simp only at h;split at h;cases h;grind
 intro b
 induction b with
 |zero =>
  intro q r ps a g l k n o A ht h
  obtain⟨rfl,h2⟩:=d q ps a k h
  rw[List.take_of_length_le Om]at ht
  exact⟨g,l,Nat.le_refl _,ht,h2⟩
 |succ b u =>
  intro q r ps a g l k n o A ht h
  by_cases m:r.at_<bs.length
  rw[qf,bt m]at h
  by_cases p:(vL bs q r).2.1=0
  rw[aw Uc]at h
  have⟨s1,v,t,D,s⟩:=jYV g l m n p
  have⟨a1,a2,a3⟩:=Is bs q r m n p
  have f:bs.take (vL bs q r).2.2.at_=kh (vL bs q r).1 [] (pH (vL bs q r).1.length):=by
   have i:∀z∈pH q.length,bj q z=ai:=fun z x=>zG.2<|FC.1 x;have e:kh q [] (pH q.length)=kh (vL bs q r).1 [] (pH q.length):=
    PO g s1 _ _ [] [] i Gd Sm Sm (List.map_congr_left Gd) rfl
   rw[t,pH,HH,List.nil_append,<-e,<-ht];have c:bs.take (vL bs q r).2.2.at_=bs.take r.at_++(bs.drop r.at_).take ((vL bs q r).2.2.at_-r.at_):=by
    rw[<-List.take_add];congr 1;omega
   rw[c];congr 1;have j:=mu List.length s;rw[List.length_drop,List.length_append,List.length_drop]at j;rw[s,List.take_append_of_le_length Om,List.take_of_length_le Om]
  have⟨y,C,E,B,w⟩:=u _ _ _ a s1 v Uc a3 a2 Om f h
  exact⟨y,C,Om,B,w⟩
  grind
  rw[D1 m]at h
  obtain⟨rfl,h2⟩:=d q ps a k h
  rw[List.take_of_length_le Om]at ht
  exact⟨g,l,Nat.le_refl _,ht,h2⟩
def Og:∀l i m,i+m<=mm i l->m<=l.length/\∀j (h:j<l.length),j<m->l[j]=((i+j:Nat):Int)+1:=by
 intro l;induction l with
 |nil=>intro i m h;rw[mm]at h;exact⟨So,fun j h=>Uc⟩
 |cons s l c =>
  intro i m h
  rw[mm]at h
  split at h
  rename_i hs
  cases m with
  |zero=>exact⟨Sm,fun j _ a=>Om⟩
  |succ m =>
   have⟨h1,h2⟩:=c (i+1) m Om
   refine⟨Uc,fun j a b=>?_⟩
   cases j with
   |zero=>simp[hs]
   |succ j=>simp only[List.getElem_cons_succ];rw[h2 j Uc Om];congr 2;omega
  exact⟨So,fun j _ a=>Om⟩
def uY{bs q}(h:(zY bs).1=ab q):Wf q/\yT q/\bj q q.length=ai/\qJ q q.length=bs/\bs.length<=4096:=by
 unfold zY at h;split at h;cases h;split at h;cases h;rename_i h1 h2;have⟨f,i,_,b,l⟩:=Ob bs.length [] ⟨0,0,0⟩ [] q Wf.nil yT.nil rfl rfl (Nat.zero_le _) (Nat.le_refl _) (by simp[pH,kh]) h;have d:0<q.length:=by
  rcases Nat.eq_zero_or_pos q.length with e|e;rw[e,pH,kh]at b;rw[b]at h2;simp at h2;exact e
 have a:bj q q.length=ai:=zG.2 ⟨Om,Om⟩;have⟨k,g⟩:=Og (gz q q.length) 0 q.length Om;have c:=tA f q.length;have hs:gz q q.length=pH q.length:=by
  refine List.ext_getElem (by rw[Eo];omega) fun j h1 h2=>?_;rw[g j h1 Gd,zGG];simp
 refine⟨f,i,a,?_,Om⟩;unfold qJ;rw[hs];exact b.symm
def jVA{Lq}(f:yT Lq):∀l L bf,yT L->yT (zS Lq l L bf).1:=by
 intro l;induction l with
 |nil=>intro L bf h;exact h
 |cons z l g =>
  intro L bf h
  obtain⟨x,e,c,d⟩:∃x e c,bz L { ar Lq z with a:=bf (ar Lq z).a,b:=bf (ar Lq z).b }=(x,e,c):=⟨_,_,_,rfl⟩
  have h2:=h.bz (n:={ ar Lq z with a:=bf (ar Lq z).a,b:=bf (ar Lq z).b })<|f.dr z
  rw[qB Lq z l L bf rfl d]
  rw[d]at h2
  split
  exact h
  exact g _ _ h2
def Si{L Lq}(h:yT L)(a:yT Lq)(t):yT (vF L Lq t).2.2:=by
 unfold vF;split;simp only;split;exact h;exact jVA a _ _ _ h;exact h
def Ie{L}(h:yT L)(bs):yT (yM L bs).2.2.2:=by
 unfold yM;cases a:(zY bs).1 with
 |none=>exact h
 |some q=>exact Si h (uY a).2.1 _
def Ee{L}(h:Wf L)(bs):Wf (yM L bs).2.2.2:=by
 unfold yM;cases c:(zY bs).1 with
 |none=>exact h
 |some q =>
  have⟨b,_,d,_⟩:=uY c
  by_cases a:(vF L q q.length).2.1=0
  exact(tB h b d a).1
  simp only;rw[((S9 h b _).resolve_left a).2];exact h
def xR{bs}(h:(zY bs).1=bo):(zY bs).2.1≠0:=by
 have b:∀q ps,(rR q ps).1=bo->(rR q ps).2.1≠0:=by
  intro q ps h;unfold rR at h|-;simp only at h|-;split at h;grind;cases h
 have c:∀bs a q r ps,(qf bs a q r ps).1=bo->(qf bs a q r ps).2.1≠0:=by
  intro bs a;induction a with
  |zero=>intro q r ps h;exact b _ _ h
  |succ a d =>
   intro q r ps h
   rw[qf]at h|-
   split at h
   grind
   grind
 unfold zY at h|-;split at h;grind;grind
def KZ{bs q}(h:(zY bs).1=ab q):(zY bs).2.1=0:=by
 have b:∀q ps x,(rR q ps).1=ab x->(rR q ps).2.1=0:=by
  intro q ps x h;unfold rR at h|-;simp only at h|-;split at h;cases h;grind
 have c:∀a q r ps x,(qf bs a q r ps).1=ab x->(qf bs a q r ps).2.1=0:=by
  intro a;induction a with
  |zero=>intro q r ps x h;exact b _ _ _ h
  |succ a d =>
   intro q r ps x h
   rw[qf]at h|-
   split at h
   grind
   grind
 unfold zY at h|-;split at h;cases h;grind
def ZB{L}(h:Wf L){bs}(a:(yM L bs).2.1=0):Wf (yM L bs).2.2.2/\bj (yM L bs).2.2.2 (yM L bs).1=ai/\qJ (yM L bs).2.2.2 (yM L bs).1=bs/\bs.length<=4096:=by
 cases b:(zY bs).1 with
 |none =>
  unfold yM at a;rw[b]at a
  exact absurd a<|xR b
 |some q =>
  have⟨f,k,e,i,j⟩:=uY b
  unfold yM at a|-
  rw[b]at a|-
  simp only at a|-
  have⟨d,c,g⟩:=tB h f e a
  exact⟨d,c,by rw[NK d f c e g,i],j⟩
def Hd:nY prog 189 4 1 1:=by
 refine⟨underlying189,⟨t4,_,Kf,(by kernel_rfl:t4.zero=ab (vb ak)),Kf,Kf,rfl⟩,Om⟩
def Qb:∀i z,prog.info? 4=ab i->i.zero=ab z->z.cells=#[bk.bool ak]:=by
 intro i z hi a;have h1:prog.info? 4=ab t4:=Kf;rw[h1]at hi;cases hi;have h2:t4.zero=ab (vb ak):=Kf;rw[h2]at a;cases a;rfl
def lq(n:Nat)(V:Int->Bool):List (List bk):=(range n).map fun i:Nat=>[bk.bool<|V (i:Int)]
def zx(n V):(lq n V).length=n:=by simp[lq]
def TV(n V):∀q∈lq n V,q.all vC=ai:=by intro q a;obtain⟨t,_,rfl⟩:=mem_map.1 a;rfl
def Ya(n V):∀q∈lq n V,q.length=1:=by intro q a;obtain⟨t,_,rfl⟩:=mem_map.1 a;rfl
def Rn(n):replicate n [bk.bool ak]=lq n (fun _=>ak):=by
 unfold lq;rw[map_const',length_range]
def SO(n V t b):(lq n V).set t [vb b]=lq n (jf V (t:Int) b):=by
 apply ext_getElem?;intro i;rw[getElem?_set];by_cases h:t=i;subst h;rw[bt rfl];by_cases a:t<n;simp[lq,a,jf];simp[lq,a];rw[aw h];by_cases a:i<n;simp[lq,a,jf,show ¬(i:Int)=t by omega];simp[lq,a]
section
variable {w w':af} {e:dz} {s:Sl} {n:Nat} {V:Int->Bool}
def xh(h:c9 w e 1 s (lq n V)){t:Int}(b:0<=t)(ht:t<n):∃a,At s t 1 a/\s.bg a.block/\w.cell? a=ab (vb<|V t):=by
 have⟨a,h1,h2,h3⟩:=h.at b (by rw[zx];omega);refine⟨a,h1,h3,?_⟩;have:(lq n V)[t.toNat]' Uc=[bk.bool<|V t]:=by
  simp only[lq,getElem_map,getElem_range];rw[show((t.toNat:Nat):Int)=t by omega]
 rw[this]at h2;exact y9 h2
def BU(h:c9 w e 1 s (lq n V)){t:Int}(p:0<=t)(ht:t<n):∃a,At s t 1 a/\s.bg a.block/\zJ w a/\∀b,c9 (w.setCell a<|vb b) e 1 s (lq n<|jf V t b)/\aj s.bg w (w.setCell a<|vb b):=by
 have c:∀b,∃a,At s t 1 a/\(∀j,j<1->zJ w (a.add j))/\∀w',w'=ib w a [bk.bool b]->c9 w' e 1 s ((lq n V).set t.toNat [vb b])/\aj s.bg w w':=fun b=>h.set (i:=t.toNat) (by rw[zx];omega) rfl Om;have⟨a,f,q,_⟩:=c ai;have⟨r,h1,_,o⟩:=h.at p (by rw[zx];omega);have g:∀{x:ao},At s t 1 x->x=a:=fun hx=>by
  obtain⟨_,_,b1,l,rfl⟩:=hx;obtain⟨_,_,b2,d,rfl⟩:=f;rw[l]at d;cases d;rfl
 have m:a.add 0=a:=by simp[ao.add]
 refine⟨a,f,?_,Uc,fun b=>?_⟩;grind;have⟨x,hx,_,k⟩:=c b;have:=g hx;subst this;have bh:ib w x [bk.bool b]=w.setCell x (vb b):=by show w.setCell (x.add 0) (vb b)=_;rw[m]
 have⟨r1,r2⟩:=k _ rfl;rw[bh]at r1 r2;rw[SO,show((t.toNat:Nat):Int)=t by omega]at r1;exact⟨r1,r2⟩
end
structure Dv(w:af)(x q:ao)(L:bw)(st:(Int->Bool)×List Int)(c:NP)(a so:Sl):Prop where
 box:az w x [vp<|ab q,a.v,so.v] 191
 bM:c9 w 4 1 a (lq (L.length+1) st.1)
 od:c9 w 73 1 so (fv st.2)
 ew:vJ w q L c
 n1:¬a.bg x.block
 n2:¬so.bg x.block
 n3:∀b,a.bg b->¬so.bg b
 n4:∀b,c b->b≠x.block/\¬a.bg b/\¬so.bg b
def WF(x:ao)(a so:Sl)(b:Nat):Prop:=b=x.block\/a.bg b\/so.bg b
def vJ.Pv{w q L FR}(h:vJ w q L FR){t}(ht:bj L t=ai)(c:Ok L):∃v,w.cell? q=ab (Sl.v v)/\∃a,At v (q6.wrap<|t-1) 7 a/\w.cell? (a.add 5)=ab (vi (ar L t).a)/\w.cell? (a.add 6)=ab (vi (ar L t).b):=by
 have⟨s1,g,f,h,_⟩:=h;obtain⟨i,hi,rfl⟩:=wC ht;have:=c.jl;have⟨a,h1,h2⟩:=h.r1.mv hi;rw[IntWalk.i64_in _ Om,show(i:Int)+1-1=i by omega];have e:=qO hi;have d:D5 L[i]=tM (ar L<|(i:Int)+1):=by rw[e];rfl
 rw[d]at h2;exact⟨s1,h.box.dj,a,h1,h2 5<|by simp[tM],h2 6<|by simp[tM]⟩
def Yx(x q:ao){L:bw}(u:Wf L):∀(n:Nat) (t:Int) (j:af) (st:(Int->Bool)×List Int) (B:NP) (m so:Sl),t.toNat<n->Dv j x q L st B m so->vy L st->(∀y,st.1 y=ai->y<=t->y∈st.2) ->
  cl 123 #[vp (ab x),vi t] j (XG fun w'=>∃p,Dv w' x q L (yR L n t st) B m p/\aj (WF x m so) j w'/\∀b,p.bg b->so.bg b\/j.heap.size<=b):=by
 intro n
 induction n with
 |zero=>intro t j st B m so h;omega
 |succ n ih =>
 intro t j st B m so hn h bh hm
 have hR:=wu u (n+1) t st hn bh hm
 suffices key:∀K,(∀p w',Dv w' x q L (yR L (n+1) t st) B m p->aj (WF x m so) j w'->(∀b,p.bg b->so.bg b\/j.heap.size<=b)->K w')->Lt (ab x) t j K from
  Zq _ _ j _ (key _ Gd)
 intro K G
 refine⟨x,rfl,_,h.box.dj,?_⟩
 refine(yJ q t j h.ew).mono ?_
 rintro _ j ⟨r1,rfl,rfl,rfl⟩
 refine⟨_,rfl,fun hc=>?_,fun hc=>?_⟩
 have f:bj L t=ak:=by simpa using hc
 refine Br.t rfl ?_
 rw[yR,aw (by simp[f])]at G
 exact G so j h (aj.refl _) fun b d=>.inl d
 have f:bj L t=ai:=by simpa using hc
 have⟨t1,tL⟩:=zG.1 f
 have⟨Z,J,_,c13⟩:=xh h.bM (t:=t) Om Om
 refine⟨x,rfl,m,h.box.cell rfl,Z,J,_,c13,?_⟩
 refine⟨fun hv=>?_,fun hv=>?_⟩
 rw[yR,aw (by simp[hv])]at G
 exact G so j h (aj.refl _) fun b d=>.inl d
 rw[yR,bt ⟨f,hv⟩]at G hR
 have⟨a2,W,A,cw2,N⟩:=BU h.bM (t:=t) Om Om
 refine⟨x,rfl,m,h.box.cell rfl,a2,W,cw2,?_⟩
 rintro _ rfl
 have⟨R2,I⟩:=N ai
 have A2:Dv (j.setCell a2 (vb ai)) x q L (jf st.1 t ai,st.2) B m so:=
  ⟨h.box.ext I h.n1,R2,h.od.ext I fun b d A=>h.n3 b A d,h.ew.ext I fun b d A=>(h.n4 b d).2.1 A,h.n1,h.n2,h.n3,h.n4⟩
 generalize j.setCell a2 (vb ai)=w2 at *
 have⟨v3,c3,a5,at5,ca,cb⟩:=A2.ew.Pv f u.ok
 refine⟨x,rfl,_,A2.box.dj,q,rfl,v3,c3,a5,at5,_,ca,?_⟩
 have R:∀k,k=(ar L t).a\/k=(ar L t).b->k<t:=by
  intro k z;have o:=(u.dr f).2.2.2.2.1;cases hp:bj L k with
  |true=>exact(o k (DA u f z hp)).2
  |false =>
   have h1:=(u.dr f).2.1
   have h2:=(u.dr f).2.2.1
   rcases qW (ar L t).ba with e|e|e
   grind
   have b0:=h2 Om
   rcases z with z|z
   have:=(o k (by unfold zB;rw[e,z];simp)).2;exact this
   omega
   exact(o k (by unfold zB;rw[e];rcases z with z|z<;>simp[z])).2
 have la:=R _ (.inl rfl)
 have lb:=R _ (.inr rfl)
 have o1:vy L (jf st.1 t ai,st.2):=⟨fun y D=>by simp only[jf];split<;>simp[bh.AP y D],bh.wt,bh.nd,bh.kq⟩
 have m1:∀y,(jf st.1 t ai,st.2).1 y=ai->y<=(ar L t).a->y∈(jf st.1 t ai,st.2).2:=fun y D X=>by
  simp only[jf]at D;rw[aw Om]at D;exact hm y D Om
 have r1:=wu u n (ar L t).a _ Om o1 m1
 refine(ih (ar L t).a w2 _ B m so Om A2 o1 m1).mono ?_
 rintro _ w3 ⟨rfl,Q,Y,X3,f3⟩
 generalize hs1:yR L n (ar L t).a (jf st.1 t ai,st.2)=s1 at *
 have⟨v6,c6,a8,at8,_,cb3⟩:=Y.ew.Pv f u.ok
 refine⟨rfl,x,rfl,_,Y.box.dj,q,rfl,v6,c6,a8,at8,_,cb3,?_⟩
 have m2:∀y,s1.1 y=ai->y<=(ar L t).b->y∈s1.2:=fun y D X=>by
  rcases r1.sW y D with S|S;simp only[jf]at S;rw[aw Om]at S;have:=hm y S Om;have⟨M,e,_⟩:=r1.me;simp only at e;rw[e];exact mem_append_left _ this;exact S
 have r2:=wu u n (ar L t).b s1 Om r1.tovy m2
 refine(ih (ar L t).b w3 s1 B m Q Om Y r1.tovy m2).mono ?_
 rintro _ w4 ⟨rfl,s,g,X4,f4⟩
 generalize hs2:yR L n (ar L t).b s1=V at *
 refine⟨rfl,x,rfl,s,g.box.cell rfl,?_⟩
 intro p1 w5 h5
 have E:aq w4 w5:=aj.bu h5
 have hfew:V.2.length<=65536:=Oi (xD r2.nd r2.kq) u.ok.jl
 have⟨l,w6,hr6,R6,U,f6⟩:=(g.od.pure E).append (P:=prog) (ty:=46) (c:=1) ux (r:=[vi t]) (az.fi h5).row rfl rfl (by rw[zV];omega) (by rw[zV];simp[maxLen];omega)
 have b6:=(g.box.pure E).ext U g.n2
 refine⟨l,w6,hr6,x,rfl,b6.im Sm,?_⟩
 rintro _ rfl
 have H:=aj.setCell (w:=w6) (x.add 2) l.v
 rw[zD]at H
 have z2:=I.size
 have z3:=X3.size
 have z4:=X4.size
 have z5:=E.size
 have C:∀b,l.bg b->s.bg b\/w4.heap.size<=b:=fun b d=>(f6 b d).imp_right fun h=>Om
 have nx:¬l.bg x.block:=fun hh=>(C _ hh).elim g.n2 fun hh=>Oh g.box.lt
 have nv:∀b,m.bg b->¬l.bg b:=fun b d hh=>(C b hh).elim (g.n3 b d) fun hh=>Oh (g.bM.lt d)
 have T:=G l (w6.setCell (x.add 2) l.v)
 refine T ⟨b6.set 2 l.v,((g.bM.pure E).ext U g.n3).ext H fun b d e=>g.n1 (e▸d),?_,((g.ew.pure E).ext U fun b d=>(g.n4 b d).2.2).ext H fun b d e=>(g.n4 b d).1 e,g.n1,nx,nv,fun b d=>⟨(g.n4 b d).1,(g.n4 b d).2.1,fun hh=>(C b hh).elim (g.n4 b d).2.2 fun hh=>Oh (g.ew.lt d)⟩⟩ ?_ ?_
 show c9 _ _ _ _ (fv (V.2++[t]))
 rw[show fv (V.2++[t])=fv V.2++[[vi t]] by simp[fv]]
 exact R6.ext H fun b d e=>nx (e▸d)
 have O:∀b,s.bg b->b<j.heap.size->so.bg b:=fun b d hlt=>Gd
 have f33:∀b,Q.bg b->b<j.heap.size->so.bg b:=fun b d hlt=>(f3 b d).elim id fun h2=>Om
 refine((((I.mono fun b _ d=>.inr (.inl d)).trans X3).ft X4 fun i hi d=>?_).ft (E.pure (F:=WF x m s)) fun i hi d=>?_).ft ((U.mono fun b _ d=>.inr (.inr d)).trans (H.mono fun b _ e=>.inl e)) fun i hi (d:WF x m s i)=>?_
 rcases d with d|d|d
 exact .inl d
 exact .inr (.inl d)
 exact .inr (.inr (f33 i d hi))
 rcases d with d|d|d
 exact .inl d
 exact .inr (.inl d)
 exact .inr (.inr (O i d hi))
 rcases d with d|d|d
 exact .inl d
 exact .inr (.inl d)
 exact .inr (.inr (O i d hi))
 grind
def HY (q t w0) {L FR} (hW:Wf L) (hP:vJ w0 q L FR) :
  cl 61 #[vp (ab q),vi t] w0 (XA fun r w'=>jd w0 73 1 (fv (gz L t)) r w'):=by
 refine jbI _ _ w0 _ ?_
 obtain ⟨v1,hv1,hv1l⟩:∃v1:Sl,w0.cell? q=ab v1.v/\v1.ay=L.length:=by
  have⟨s1,s2,s3,h,_⟩:=hP;exact ⟨s1,h.box.dj,by rw [h.r1.ay];simp⟩
 have hL:=hW.ok.jl
 refine ⟨q,rfl,v1,hv1,?_⟩
 simp only [hv1l]
 rw [IntWalk.i64_in _ (by omega),show ((L.length:Int)+1)=((L.length+1:Nat):Int) by omega]
 have⟨w1,hr1,R1,E1⟩:=c9.bz (P:=prog) Hd Qb (k:=.i64) (k':=.i64) (n:=L.length+1) (by omega) (by simp [maxLen];omega) w0
 rw [Rn] at R1
 refine ⟨_,w1,hr1,?_⟩
 intro p2 w2 h2
 have E2:aq w1 w2:=aj.bu h2
 have hp2:=h2.gp
 have hnil:∀b,¬ Sl.nil.bg b:=fun b hb=>by have⟨a,h,_⟩:=hb;cases h
 have hsv:∀b,(Sl.mk (ab ⟨w0.heap.size,0,bo⟩) (L.length+1) (L.length+1)).bg b->b=w0.heap.size:=by rintro b ⟨a,ha,rfl⟩;cases ha;rfl
 have z1:=E1.size
 have l1:=R1.lt ⟨_,rfl,rfl⟩
 have A2:Dv w2 p2 q L (fun _=>ak,[]) FR ⟨ab ⟨w0.heap.size,0,bo⟩,L.length+1,L.length+1⟩ Sl.nil:=by
  refine ⟨az.fi h2,R1.pure E2,c9.nil _ _ _,(hP.pure E1).pure E2,fun hb=>Uc,hnil _,fun b _=>hnil b,fun b hb=>⟨fun e=>?_,fun hh=>?_,hnil b⟩⟩;have:=hP.lt hb;omega;have:=hsv _ hh;have:=hP.lt hb;omega
 refine (Yx p2 q hW (t.toNat+1) t w2 _ FR _ Sl.nil (by omega) A2 ⟨by simp,by simp,by simp,by simp⟩ (by simp)).mono ?_
 rintro _ w3 ⟨rfl,so,A3,X3,f3⟩
 refine ⟨rfl,so,A3.box.cell rfl,A3.od,fun b hb=>?_,(E1.trans E2).ft X3 fun i hi hb=>?_⟩
 rcases f3 b hb with h | h
 exact (hnil b h).elim
 have:=E2.size;omega
 rcases hb with hb | hb | hb
 omega
 have:=hsv _ hb;omega
 exact hnil _ hb
end Go.Proofs
end
