import Derived.Test.YtjjcakjoeiolgaaGreatPa3
import Derived.Shelf.SlSortCmp.NoneTotal
import Derived.ProofKit
import Derived.Carry
import Derived.OpenShut
import Derived.Stop.Joined
import Derived.JoinedCond
import Derived.Test.YtjjcakjoeiolgaaGreatProg
import Derived.KernelRfl
import Derived.IntWalk
set_option linter.defProp false
set_option linter.unusedVariables false
set_option linter.unusedSimpArgs false
section
namespace Go.SE
abbrev sQ:=World->(Nat->Prop)->Prop
structure pI(A:sQ):Prop where
 ext:∀{w w':World} {F X:Nat->Prop},A w F->aj X w w'->(∀y,F y->¬X y)->A w' F
 lt:∀{w:World} {F:Nat->Prop},A w F->∀y,F y->y<w.heap.size
def Tn(A:sQ)(F:Nat->Prop)(w w':World):Prop:=∃F',A w' F'/\aj F w w'/\∀y,F' y->F y\/w.heap.size<=y
def BZ:sQ:=fun _ F=>∀y,¬F y
def BR(e:TypeId)(sz:Nat)(s:Sl)(rs:List (List Value)):sQ:=fun w F=>c9 w e sz s rs/\∀y,F y↔s.bg y
def NG:pI BZ:=⟨fun h _ _=>h,fun h y a=>(h y a).elim⟩
def Bv{e sz s rs}:pI (BR e sz s rs):=⟨fun h E d=>⟨h.1.ext E fun y a=>d y<|(h.2 y).2 a,h.2⟩,fun h y a=>h.1.lt<|(h.2 y).1 a⟩
def jr(A B:sQ):sQ:=fun w F=>∃a b,A w a/\B w b/\(∀y,a y->¬b y)/\∀y,F y↔a y\/b y
def Tk(H:Nat->Prop)(A:sQ)(F0:Nat->Prop)(w0 w:World):Prop:=∃F,A w F/\aj F0 w0 w/\(∀y,F y->(F0 y\/w0.heap.size<=y)/\¬H y)/\∀y,H y->y<w.heap.size
section
variable {A A' B C:sQ} {F0 F H H':Nat->Prop} {w0 w w':World}
def pI.yf(a:pI A)(b:pI B):pI (jr A B):=
 ⟨fun⟨g,i,c,hB,d,e⟩ E h=>⟨g,i,a.ext c E Gd,b.ext hB E Gd,d,e⟩,
 fun⟨_,_,c,hB,_,e⟩ y f=>((e y).1 f).elim (a.lt c y)<|b.lt hB y⟩
def Tk.start(h:A w F)(cl:pI A):Tk bl A F w w:=⟨F,h,aj.refl _,fun _ a=>⟨.inl a,id⟩,fun _ h=>h.elim⟩
def Tk.tn(h:Tk H A F0 w0 w):Tn A F0 w0 w:=by
 have⟨F,a,E,h1,_⟩:=h;exact⟨F,a,E,fun y b=>(h1 y b).1⟩
def Tk.fr(h:Tk H A F0 w0 w):aj F0 w0 w:=by have⟨_,_,E,_⟩:=h;exact E
def Tk.bh(h:Tk H A F0 w0 w)(cl:pI A)(hs:au w0 H w H' w'):Tk H' A F0 w0 w':=by
 have⟨F,a,E,h1,h2⟩:=h;have d:=hs.mn (G:=F) fun y b=>⟨cl.lt a y b,(h1 y b).2⟩;exact⟨F,cl.ext a hs.ext d,E.bh hs,fun y b=>⟨(h1 y b).1,d y b⟩,hs.lt⟩
def Tk.pure(h:Tk H A F0 w0 w)(cl:pI A)(E:aq w w'):Tk H A F0 w0 w':=by
 have⟨F,a,c,h1,h2⟩:=h;exact⟨F,cl.ext a E fun _ _ h=>h,c.mh E,h1,fun y b=>Nat.lt_of_lt_of_le (h2 y b) E.size⟩
def Tk.vl(E:aj F0 w0 w)(h1:∀y,F y->(F0 y\/w0.heap.size<=y)/\¬H y)(h2:∀y,H y->y<w.heap.size)(t:Tn A' F w w'):Tk H A' F0 w0 w'/\av H w w':=by
 have⟨F',c,b,n⟩:=t;refine⟨⟨F',c,E.ft b Gd,fun y a=>?_,fun y a=>Nat.lt_of_lt_of_le (h2 y a) b.size⟩,b.ff fun y a d=>(h1 y d).2 a⟩;rcases n y a with h|h;exact h1 y h;exact⟨.inr<|Nat.le_trans E.size h,fun hh=>Uc⟩
def jr.vl{F1 F2}(b:pI B)(hB:B w F2)(d:∀y,F1 y->¬F2 y)(f:∀y,F y↔F1 y\/F2 y)(t:Tn A' F1 w w'):Tn (jr A' B) F w w':=by
 have⟨F',e,c,n⟩:=t;refine⟨fun y=>F' y\/F2 y,⟨F',F2,e,b.ext hB c fun y h2 h1=>d y h1 h2,fun y a h2=>?_,fun _=>Iff.rfl⟩,c.mono Gd,fun y a=>?_⟩;rcases n y a with h|h;exact d y h h2;have:=b.lt hB y h2;omega;grind
def Tk.one(h:Tk H A F0 w0 w):∃F,A w F/\(∀y,F y->(F0 y\/w0.heap.size<=y)/\¬H y)/\∀{A' w'},Tn A' F w w'->Tk H A' F0 w0 w'/\av H w w':=by
 have⟨F,a,E,h1,h2⟩:=h;exact⟨F,a,h1,fun t=>Tk.vl E h1 h2 t⟩
def jr.one(b:pI B)(h:jr A B w F)(g:∀y,F y->y<w.heap.size):∃a,A w a/\(∀y,a y->F y)/\∀{A' w'},Tn A' a w w'->Tn (jr A' B) F w w':=by
 have⟨a,i,f,hB,d,c⟩:=h;exact⟨a,f,fun y e=>(c y).2<|.inl e,fun t=>jr.vl b hB d c t⟩
def jr.yz(h:jr A B w F):jr B A w F:=by
 have⟨a,e,c,hB,d,b⟩:=h;exact⟨e,a,hB,c,fun y h2 h1=>d y h1 h2,fun y=>(b y).trans Or.comm⟩
def Tk.yz(h:Tk H (jr A B) F0 w0 w):Tk H (jr B A) F0 w0 w:=by
 have⟨F,a,r⟩:=h;exact⟨F,a.yz,r⟩
def Tk.lb(b:pI B)(h:Tk H (jr A B) F0 w0 w):∃a c,A w a/\B w c/\(∀y,a y->¬c y)/\(∀y,a y->(F0 y\/w0.heap.size<=y)/\¬H y)/\∀{A' w'},Tn A' a w w'->Tk H (jr A' B) F0 w0 w'/\av H w w':=by
 have⟨F,⟨a,c,g,hB,d,e⟩,E,h1,h2⟩:=h;exact⟨a,c,g,hB,d,fun y f=>h1 y<|(e y).2<|.inl f,fun t=>Tk.vl E h1 h2<|jr.vl b hB d e t⟩
def Tk.l(e:pI A)(b:pI B)(h:Tk H (jr A B) F0 w0 w):∃a,A w a/\(∀y,a y->(F0 y\/w0.heap.size<=y)/\¬H y)/\∀{A' w'},Tn A' a w w'->Tk H (jr A' B) F0 w0 w'/\av H w w':=by
 have⟨a,_,c,_,_,d,k⟩:=h.lb b;exact⟨a,c,d,k⟩
def Tk.r(a:pI A)(b:pI B)(h:Tk H (jr A B) F0 w0 w):∃c,B w c/\(∀y,c y->(F0 y\/w0.heap.size<=y)/\¬H y)/\∀{B' w'},Tn B' c w w'->Tk H (jr A B') F0 w0 w'/\av H w w':=by
 have⟨c,hB,d,k⟩:=h.yz.l b a;exact⟨c,hB,d,fun t=>⟨(k t).1.yz,(k t).2⟩⟩
def Tk.lP{w1}(a:pI A)(b:pI B)(h:Tk H (jr A B) F0 w0 w)(E:aq w w1):∃c,A w1 c/\(∀y,c y->y<w.heap.size)/\∀{A' w'},Tn A' c w1 w'->Tk H (jr A' B) F0 w0 w'/\av H w1 w':=by
 have⟨c,f,d,k⟩:=h.l a b;exact⟨c,a.ext f E fun _ _ h=>h,a.lt f,fun {A' w'} ⟨F',i,g,n⟩=>⟨(k ⟨F',i,(aj.pure E).trans g,fun y e=>(n y e).imp id fun h=>Nat.le_trans E.size h⟩).1,g.ff fun y e j=>(d y j).2 e⟩⟩
def Tk.bu(a:pI A)(h:Tk H A F0 w0 w)(c:C w' F)(E:aq w w')(n:∀y,F y->w.heap.size<=y):Tk H (jr C A) F0 w0 w':=by
 have⟨f,e,d,h1,h2⟩:=h;refine⟨fun y=>F y\/f y,⟨F,f,c,a.ext e E fun _ _ h=>h,fun y b g=>?_,fun _=>Iff.rfl⟩,d.mh E,fun y b=>?_,fun y b=>Nat.lt_of_lt_of_le (h2 y b) E.size⟩;have:=a.lt e y g;have:=n y b;omega;rcases b with b|b;exact⟨.inr<|Nat.le_trans d.size<|n y b,fun hh=>Uc⟩;exact h1 y b
def Tk.sub(h:Tk H A F0 w0 w)(f:∀{F},A w F->∃F',B w F'/\∀y,F' y->F y):Tk H B F0 w0 w:=by
 have⟨F,a,E,h1,h2⟩:=h;have⟨F',b,s⟩:=f a;exact⟨F',b,E,fun y c=>h1 y<|s y c,h2⟩
def jr.fst(h:jr A B w F):∃F',A w F'/\∀y,F' y->F y:=by
 have⟨d,_,c,_,_,b⟩:=h;exact⟨d,c,fun y a=>(b y).2<|.inl a⟩
def jr.od(h:jr A (jr B C) w F):∃F',jr A C w F'/\∀y,F' y->F y:=by
 have⟨c,l,i,⟨k,b,hB,f,d2,a⟩,d,j⟩:=h;refine⟨fun y=>c y\/b y,⟨c,b,i,f,fun y h1 g=>d y h1<|(a y).2<|.inr g,fun _=>Iff.rfl⟩,fun y e=>(j y).2<|e.imp id fun h=>(a y).2<|.inr h⟩
end
end Go.SE
end
section
namespace Go.SE
open Go.Sort Go.Shelf Go.Proofs
def zHE(w:World)(q:Nat):w.drewN q={ w with drawn:=w.drawn+q }:=rfl
def Xu{w w':World}(h:aq w w'):∃q os,w'=Sort.grow (w.drewN q) os:=by
 refine⟨w'.drawn-w.drawn,w'.heap.extract w.heap.size w'.heap.size,?_⟩;have hh:w'.heap=w.heap++w'.heap.extract w.heap.size w'.heap.size:=by
  apply Array.ext_getElem?;intro i;by_cases hi:i<w.heap.size;rw[h.ly i hi id,Array.getElem?_append_left hi];rw[Array.getElem?_append_right Om,Array.getElem?_extract];by_cases h2:i<w'.heap.size;rw[if_pos Om];congr 1;omega;rw[if_neg Om,Array.getElem?_eq_none Om]
 have h1:=h.os;have h2:=h.tape;have h3:=h.output;have f:=h.drawn;clear h;have⟨a,b,c,d,e⟩:=w;have⟨l,m,k,j,g⟩:=w';simp only at h1 h2 h3 f hh;subst h1;subst h2;subst h3;rw[zHE];unfold Sort.grow;simp only[World.mk.injEq,and_true,true_and];exact⟨hh,Om⟩
def QO{α:Type}[Inhabited α](enc:α->List Value)(k:Nat)(g:∀x,(enc x).length=k)(d:Array α):(flatK enc k d).toList=(d.toList.map enc).flatten:=by
 have c:∀q∈d.toList.map enc,q.length=k:=by
  intro q j;obtain⟨x,_,rfl⟩:=List.mem_map.1 j;exact g x
 have b:(d.toList.map enc).flatten.length=d.size*k:=by rw[vR c];simp
 apply List.ext_getElem?;intro t;by_cases ht:t<d.size*k;have a:0<k:=by rcases Nat.eq_zero_or_pos k with h|h;subst h;simp at ht;exact h
 have f:t/k<d.size:=by rw[Nat.div_lt_iff_lt_mul a];exact ht
 have l:t%k<k:=Nat.mod_lt _ a;have e:=(Nat.div_add_mod' t k).symm;have h1:=get_flatK enc k d t ht;rw[Array.getElem?_toList,Array.getElem?_eq_getElem Uc];rw[getElem!_pos _ t Uc,getElem!_pos d _ f,getElem!_pos _ (t%k) Uc]at h1;rw[h1];have h2:=Gv c (i:=t/k) Uc l;rw[<-e]at h2;rw[h2,List.getElem_map,List.getElem?_eq_getElem Uc];simp;rw[List.getElem?_eq_none So,List.getElem?_eq_none Om]
variable {α:Type} [Inhabited α] {P:Program} {ρ:Ren} {k:Nat} {enc:α->List Value} {e:TypeId}
def c9.jaw{w:World}{s:Sl}{g:Nat}{ga:Array Value}{ds:List α}(f:∀x,(enc x).length=k)(b:w.heap[g]?=some (.cells ga e (0,0)))(ht:ga.toList.take (ds.length*k)=(ds.map enc).flatten):HoldsK enc k w g 0 ds.toArray:=by
 intro j h;rw[size_flatK]at h;have c:=QO enc k f ds.toArray;simp only at c;have a:j<ds.length*k:=Uc;have d:(flatK enc k ds.toArray).size=ds.length*k:=Sm;have h1:ga.toList[j]?=(flatK enc k ds.toArray).toList[j]?:=by
  rw[c,<-ht,List.getElem?_take_of_lt a]
 rw[Array.getElem?_toList,Array.getElem?_toList,Array.getElem?_eq_getElem<|show j<(flatK enc k ds.toArray).size by omega]at h1;refine⟨?_,?_⟩;unfold World.cell?;rw[b];simp only[Option.isSome_none,Bool.false_eq_true,if_false,Nat.zero_add,id];rw[h1,getElem!_pos _ j Om];unfold World.frozen?;rw[b];simp
def TD(L:SlLaysF0.n6 P ρ)(aE:∀w,(isAgg<|ρ.t 24).run P w=.ok true w)(V:∀w,(Go.sizeOf<|ρ.t 24).run P w=.ok k w)(C:∀x,(enc x).length=k)(h1:∀x,∀v∈enc x,v.oneCell'=true)(D:α->α->Int)(hO:SWO (ltOf D))(g:Nat)(G:Array Value)(eg:∀args w,(callFunc g args).run P w=.ok (.enter g args) w){w:World}{s:Sl}{ds:List α}(U:∀x y W,aj s.bg w W->Calls P g (#[.agg (enc x).toArray,.agg (enc y).toArray]++G) W fun o w'=>o=.returned (.int .i64<|D x y)/\aq W w')(E:c9 w e k s (ds.map enc))(hn:ds.length<4611686018427387904):
  Calls P (ρ.f 6) #[s.v,.func (.func g) #[] G] w<|fun o w'=>o=.returned (.tuple #[])/\∃r:List α,r.Perm ds/\r.Pairwise (fun a b=>¬D b a<0)/\c9 w' e k s (r.map enc)/\aj s.bg w w':=by
 have R:s.ay=ds.length:=by rw[E.ay];simp
 rcases E.bf with⟨rfl,z⟩|⟨b,ga,N,H,h,hm,B,ht⟩
 have hd:ds=[]:=by simpa using z
 subst hd
 refine(AnyF.slices_SortFunc_none L none 0 _ w).mono ?_
 rintro _ w' ⟨rfl,rfl⟩
 exact⟨rfl,[],.refl _,.nil,E,aj.refl _⟩
 rw[List.length_map]at h ht
 have X:=c9.jaw (s:=s) C H ht
 have S:=uM H
 have Y:s.v=.slice (some ⟨b,0,none⟩) ds.toArray.size s.cap:=by unfold Sl.v;rw[N,R];simp
 rw[Y]
 have Q:∀(n:Nat) (c:Array α) (os:Array Obj),aj s.bg w<|sortWorldK enc k w b 0 n c os:=fun n c os=>by
  refine⟨rfl,rfl,rfl,Nat.le_add_right _ _,by unfold sortWorldK putRowK;simp[size_grow],fun i hi hf=>?_⟩;have K:b≠i:=fun T=>hf ⟨_,N,T⟩;unfold sortWorldK putRowK;rw[heap_grow_old _ _<|by simpa using hi];simp[putRow,mapBlock,Sort.ahead,Array.getElem?_modify,K]
 refine(AnyQ.slices_SortFunc L k aE V enc C h1 D hO g G b 0 s.cap ds.toArray w eg (fun m os dk _ x y=>?_) X S<|by simpa using hn).mono ?_
 refine(U x y _<|Q m dk os).mono ?_
 rintro o w' ⟨rfl,J⟩
 exact⟨rfl,Xu J⟩
 rintro _ w' ⟨rfl,c,n,os,J,hs,rfl⟩
 have⟨A,_,l⟩:=J
 have d:c.size=ds.length:=by simpa using A
 have p:c.toList.Perm ds:=by
  rw[<-A]at l;rw[Array.extract_size]at l;simpa[d]using l
 refine⟨rfl,c.toList,p,?_,?_,?_⟩
 rw[List.pairwise_iff_getElem]
 intro i j hi u M
 have I:j<c.size:=by simpa using u
 have O:i<c.size:=by simpa using hi
 have:=hs i j (Nat.zero_le _) M So
 unfold ltOf at this
 rw[getElem!_pos c i O,getElem!_pos c j I]at this
 simpa using this
 have F:∀ q∈c.toList.map enc,q.length=k:=by
  intro q hq;obtain⟨x,_,rfl⟩:=List.mem_map.1 hq;exact C x
 refine⟨F,by rw[R];simp[d],.inr ⟨b,putCells id 0 (flatK enc k c) ga,N,?_,by simpa[d]using h,hm,by simp[putCells,B],?_⟩⟩
 unfold sortWorldK putRowK
 rw[heap_grow_old _ _<|by simpa using S]
 simp[putRow,mapBlock,Sort.ahead,Array.getElem?_modify,H,onCells]
 rw[<-QO enc k C c,List.length_map,Array.length_toList]
 apply List.ext_getElem?
 intro j
 have Z:ds.length*k<=s.cap*k:=Nat.mul_le_mul_right _ h
 by_cases u:j<c.size*k
 rw[List.getElem?_take_of_lt u,Array.getElem?_toList,Array.getElem?_toList]
 unfold putCells
 rw[Array.getElem?_mapIdx,Array.getElem?_eq_getElem (show j<ga.size by rw[B];rw[d]at u;omega),Option.map_some,if_pos ⟨Nat.zero_le _,by rw[size_flatK];omega⟩,Array.getElem?_eq_getElem (by rw[size_flatK];exact u),Nat.sub_zero,getElem!_pos _ j (by rw[size_flatK];exact u)]
 rfl
 rw[List.getElem?_eq_none So,List.getElem?_eq_none So]
 exact Q n c os
def Q4{α:Type}{sz:Nat}:∀(m:Nat) (l:List α),l.length=m*sz->∃qs:List (List α),qs.length=m/\(∀q∈qs,q.length=sz)/\qs.flatten=l
 |0,l,h=>⟨[],rfl,Sm,by rw[Nat.zero_mul]at h;simp[List.length_eq_zero_iff.1 h]⟩
 |m+1,l,h=>by
  rw[Nat.succ_mul]at h;have⟨qs,h1,h2,h3⟩:=Q4 m (l.drop sz) (show(l.drop sz).length=m*sz by rw[List.length_drop];omega);refine⟨l.take sz ::qs,by simp[h1],fun q a=>?_,by simp[h3]⟩;rcases List.mem_cons.1 a with rfl|a;rw[List.length_take];omega;exact h2 q a
def c9.jcZ{P:Program}{t ty:TypeId}{sz bytes:Nat}{z:Value}(T:nY P t e sz bytes)(R:∀w,(zeroValue e).run P w=.ok z w)(D:z.cells.size=sz)(E:∀v∈z.cells.toList,vC v=true){w:World}{s:Sl}{rs:List (List Value)}(h:c9 w e sz s rs){k:IntKind}{n:Int}(K:0<=n)(M:n<rs.length):
  ∃s':Sl,∃w':World,(∀w:World,(Instr.sliceAt t s.v (some<|.int k n) none none).run P w=.ok s'.v w)/\(Builtin.clear_ #[t] ty #[s'.v]).run P w=.ok (.tuple #[]) w'/\aj s.bg w w'/\∃a,c9 w' e sz s a/\a.length=rs.length/\a.take n.toNat=rs.take n.toNat:=by
 rcases h.bf with⟨rfl,rfl⟩|⟨g,ga,C,Z,H,N,hs,ht⟩
 simp at M;omega
 have B:az w ⟨g,0,none⟩ ga.toList e:=⟨rfl,Uc⟩
 have V:=h.ay
 obtain⟨m,A⟩:∃m,s.ay-n.toNat=m+1:=⟨s.ay-n.toNat-1,Om⟩
 have o:(Builtin.zeroCells z.cells<|m+1).toList.length=(m+1)*sz:=by simp[Builtin.zeroCells,D]
 have u:∀v∈(Builtin.zeroCells z.cells<|m+1).toList,vC v=true:=by
  intro v F;simp only[Builtin.zeroCells,Array.toList_map,List.mem_map]at F;obtain⟨i,_,rfl⟩:=F;have O:0<z.cells.size:=Uc;rw[getElem!_pos z.cells _<|Nat.mod_lt _ O];exact E _ Sm
 have L:n.toNat*sz+(m+1)*sz=rs.length*sz:=by rw[<-Nat.add_mul];congr 1;omega
 have G:rs.length*sz<=s.cap*sz:=Nat.mul_le_mul_right _ H
 have c:ga.toList.length=s.cap*sz:=Uc
 generalize y:(Builtin.zeroCells z.cells<|m+1).toList=f at *
 have bh:=LU (P:=P) ((⟨g,0,none⟩:Addr).add<|n.toNat*sz) f 0 w u (fun j hj=>by rw[qN];exact B.im (by rw[c];omega))
 have W:=az.storeAt f 0 (n.toNat*sz) w _ B Uc
 have Q:aj (·=g) w (rE w ((⟨g,0,none⟩:Addr).add<|n.toNat*sz) 0 f):=by
  have:=aj.ib w ((⟨g,0,none⟩:Addr).add<|n.toNat*sz) f;rw[zD]at this;exact this
 have⟨qs,p,q2,S⟩:=Q4 (m+1) f o
 have d:s.cap≠n.toNat:=Om
 have x:n<=(s.ay:Int):=Om
 refine⟨⟨some<|(⟨g,0,none⟩:Addr).add<|n.toNat*sz,s.ay-n.toNat,s.cap-n.toNat⟩,_,fun w=>?_,?_,Q.mono fun b _ U=>⟨_,C,U.symm⟩,rs.take n.toNat++qs,⟨?_,?_,.inr ⟨g,_,C,W.bg,?_,N,?_,?_⟩⟩,?_,?_⟩
 simp[Instr.sliceAt,Instr.slice,Sl.v,run_underlying T.ht,Instr.sliceBounds,Instr.sliceBound,asIntOf,T.sizeOf,K,x,d,C]
 rw[A]
 simp[Builtin.clear_,Sl.v,run_underlying T.ht,R,y,bh]
 intro q l
 rcases List.mem_append.1 l with l|l
 exact h.pP q<|List.mem_of_mem_take l
 exact q2 q l
 rw[List.length_append,List.length_take,p];omega
 rw[List.length_append,List.length_take,p];omega
 simp only[List.size_toArray,List.length_append,List.length_take,List.length_drop,c,o];omega
 rw[List.length_append,List.length_take,p,show min n.toNat rs.length+(m+1)=rs.length by omega,List.flatten_append,S]
 have X:rs=rs.take n.toNat++rs.drop n.toNat:=(List.take_append_drop _ _).symm
 have Y:((rs.take n.toNat).flatten).length=n.toNat*sz:=by rw[vR fun r I=>h.pP r<|List.mem_of_mem_take I,List.length_take,Nat.min_eq_left Om]
 have J:ga.toList.take (n.toNat*sz)=(rs.take n.toNat).flatten:=by
  calc ga.toList.take (n.toNat*sz)=(ga.toList.take<|rs.length*sz).take (n.toNat*sz):=by rw[List.take_take,Nat.min_eq_left Om]
   _=((rs.take n.toNat).flatten++(rs.drop n.toNat).flatten).take (n.toNat*sz):=Uc
   _=(rs.take n.toNat).flatten:=Uc
 simp only[Nat.add_zero,J]
 rw[List.take_append_of_le_length Uc,List.take_of_length_le Uc]
 rw[List.length_append,List.length_take,p];omega
 rw[List.take_append_of_le_length Uc,List.take_take,Nat.min_self]
def c9.Me{P:Program}{t:TypeId}{sz bytes:Nat}(T:nY P t e sz bytes){w:World}{s:Sl}{rs:List (List Value)}(h:c9 w e sz s rs){k:IntKind}{n:Int}(o:0<=n)(p:n<rs.length):
  ∃s':Sl,(∀w:World,(Instr.sliceAt t s.v (some<|.int k n) none none).run P w=.ok s'.v w)/\s'.ay=rs.length-n.toNat/\∀(i:Nat) (a:Addr),n.toNat+i<rs.length->At s ((n.toNat+i:Nat):Int) sz a->At s' (i:Int) sz a:=by
 rcases h.bf with⟨rfl,rfl⟩|⟨g,ga,l,r,q,u,hs,ht⟩
 simp at p;omega
 have m:=h.ay
 have c:s.cap≠n.toNat:=Om
 have d:n<=(s.ay:Int):=Om
 refine⟨⟨some<|(⟨g,0,none⟩:Addr).add<|n.toNat*sz,s.ay-n.toNat,s.cap-n.toNat⟩,fun w=>?_,Uc,fun i a hi f=>?_⟩
 simp[Instr.sliceAt,Instr.slice,Sl.v,run_underlying T.ht,Instr.sliceBounds,Instr.sliceBound,asIntOf,T.sizeOf,o,d,c,l]
 obtain⟨_,_,b,j,rfl⟩:=f
 rw[l]at j;cases j
 refine⟨Om,Uc,_,rfl,?_⟩
 rw[qN,Int.toNat_natCast,Int.toNat_natCast,Nat.add_mul]
end Go.SE
end
section
namespace Go.SE
open Go.ChangeShapes Go.WideShapes Go.ChangeAt Go.RowKit
section
variable {H:Type} {enc:TypeId×Value->H} {P:Program}
def K6(j:laidOutB P=true){W W'}(i:Below W.heap.size W W'):∀(ts:List TypeId) (vs:List Value) (ds:List (DataW H)) (ps:List MemPlace),(ts.all fun t=>P.readableRec t && decide (t<P.types.size))=true ->
  DataW.TrodAll enc P W 0 (fun _=>true) true ts vs ds ps->(∀x∈ps,x.block<W.heap.size)->DataW.TrodAll enc P W' 0 (fun b=>decide (b<W.heap.size)) true ts vs ds ps
 |[],_,_,_,_,h,_=>by
  obtain⟨rfl,rfl,rfl⟩:=trodAll_nil h;exact h
 |t :: ts,_,_,_,e,h,f=>by
  obtain⟨v,g,d,c,a,b,rfl,rfl,rfl,h1,h2⟩:=trodAll_cons h;simp only[List.all_cons,Bool.and_eq_true,decide_eq_true_eq]at e;exact⟨a,b,Below.trod j e.1.1 e.1.2 h1 i Gd,K6 j i ts g c b Uc h2 fun x hx=>f x Uc,rfl⟩
def Tg{f}{s:ChangeSpec}{W W' args}{ds F:List (DataW H)}{e:List MemPlace}{t}(D:laidOutB P=true)(o:s.vars=[])(C:∀ds:List (DataW H),ds.length=f.params.size->s.fn H ds={ results:=[.lit<|.bool true],args:=ds })(m:f.resultTypes=#[t])(ht:P.underlying t=some .bool)(u:(f.params.toList.all fun t=>P.readableRec t && decide (t<P.types.size))=true)(n:DataW.Whole enc P f.params.toList s.vars false W args.toList ds F e)(E:aq W W'):
  s.post enc P f false true false false W args (.bool true) W':=by
 have i:=n
 obtain⟨p,q,r,k,rfl,z,A⟩:=n
 rw[o]at k
 obtain⟨rfl,rfl⟩:=trodVars_none k
 have j:ds.length=f.params.size:=by
  have:∀(ts:List TypeId) (vs:List Value) (ds:List (DataW H)) (ps:List MemPlace),DataW.TrodAll enc P W 0 (fun _=>true) true ts vs ds ps->ds.length=ts.length:=by
   intro ts;induction ts with
   |nil=>intro vs ds ps h;obtain⟨_,rfl,_⟩:=trodAll_nil h;rfl
   |cons t ts y =>
    intro vs ds ps h
    obtain⟨v,w,d,G,a,b,_,rfl,_,_,h2⟩:=trodAll_cons h
    simp[y _ _ _ h2]
  simpa using this _ _ _ _ r
 have B:=C ds j
 have c:s.fn H (ds++[])={ results:=[.lit<|.bool true],args:=ds }:=Uc
 have l:∀x∈p,x.block<W.heap.size:=fun x hx=>by simpa using i.lt x (by simp[hx])
 have g:=E.below
 refine⟨ds,[],p++[],[],p,[],i,?_,?_,?_,g.frame _,fun h=>Uc⟩
 rw[c,m];exact trodAll_mk1<|shut_bool ht _
 rw[c];exact K6 D g _ _ _ _ u r l
 rw[c,o];exact k
end
end Go.SE
namespace Go.SE
open Go.ChangeShapes Go.WideShapes Go.ChangeAt Go.RowKit
section
variable {P:Program} {W:World} {r:Reach} {b0:Nat} {t:TypeId} {v:Value}
def LM{k:Array Field}{ts:List TypeId}(ht:P.underlying t=some (.struct k))(j:P.cellTypes P.depth t=some ts)(m:P.cellsOf t=ts.length)(h:Value.okWide P W r b0 t v):
  ∃cs:Array Value,v=.agg cs/\cs.size=ts.length/\∀(i:Nat) (u:TypeId) (c:Value),ts[i]?=some u->cs[i]?=some c->Cell.okWide P W r b0 u c:=by
 unfold Value.okWide at h
 rw[ht]at h
 obtain⟨cs,rfl,hs,l,d,_,a⟩:=h
 rw[j]at d
 cases d
 refine⟨cs,rfl,hs.trans m,fun i u c g di=>?_⟩
 have⟨n,b,f⟩:=a i c di
 have e:=(List.getElem?_eq_some_iff.1 g).1
 rw[Nat.mod_eq_of_lt e,g]at b
 cases b
 exact f
def Xs{e}(ht:P.underlying t=some (.slice e))(h:Value.okWide P W r b0 t v):∃a n c,v=.slice a n c:=by
 unfold Value.okWide at h;rw[ht]at h;simp only at h;unfold Cell.okWide at h;rw[ht]at h;cases v<;>simp[Cell.ok,ht]at h;exact⟨_,_,_,rfl⟩
end
end Go.SE
end
section
namespace Go.SE
open Go.ChangeShapes Go.WideShapes Go.ChangeAt Go.RowKit
section
variable {H:Type} {enc:TypeId×Value->H} {P:Program}
def jUO{C:Checked}{os:Os}{f fn}{s:OpenSpec}{k:(H:Type)->List (DataW H)->Bool}(E:s.cond=some k){F:Stop.Interp}{t}(L:laidOutB C.prog=true)(z:s.vars=[])(m:(s.at F).vars=[])(K:∀ds:List (DataW H),ds.length=fn.params.size->(s.at F).fn H ds={ results:=[.lit<|.bool true],args:=ds })(u:fn.resultTypes=#[t])(ht:C.prog.underlying t=some .bool)(D:(fn.params.toList.all fun t=>C.prog.readableRec t && decide (t<C.prog.types.size))=true)(bf:ownKnob C.prog.godebug=none)(b:os.Started)(d:C.prog.inits.idxOf? f=none)(o:C.prog.funcs[f]?=some fn)(c:∃(w:World) (tape:Tape) (i:Input),w.os=os/\(w.forCall tape i).Shaped C.prog/\i.vars=[]/\Input.okWide C.prog (w.forCall tape i) .any w.heap.size f i /\
   s.pre6 enc C.prog fn [] false (w.forCall tape i).memory i.args/\({}:Assume).holds C.prog (lone (Frame.enter C.prog f i.args .normal) []<|w.forCall tape i))(a:∀(W:World) (ie:Nat) (args:Array Value) (ds:List (DataW H)) (p:List MemPlace),
   (∀(j:Nat) t v,fn.params[j]?=some t->args[j]?=some v->Value.okWide C.prog W .any ie t v) ->
   DataW.TrodAll enc C.prog W 0 (fun _=>true) true fn.params.toList args.toList ds p->(∀x∈p,x.block<W.heap.size)->k H ds=true ->
   Calls C.prog f args W fun e B=>∃r:Bool,e=.returned (.bool r)/\(r=true/\aq W B)):
  ReturnsInHanded {} C os f .any (s.pre6 enc C.prog fn [] false)<|(s.at F).post enc C.prog fn false true false false:=by
 refine returnsInHanded_of_cond E bf b d o c ?_
 intro W ie args ds N n l y _ h _
 have g:=y
 obtain⟨p,q,M,A,rfl,G,I⟩:=y
 rw[z]at A
 obtain⟨rfl,rfl⟩:=trodVars_none A
 rw[List.append_nil]at h
 refine(a W ie args ds p l M (fun x hx=>by simpa using g.lt x (by simp[hx])) h).mono fun e B ⟨r,J,h1,h2⟩=>?_
 subst h1
 rw[z,<-m]at g
 exact⟨_,J,Tg L m K u ht D g h2⟩
end
end Go.SE
end
section
open Go Go.SE List
open Go.IntKind renaming i64 -> q6
open Go renaming World->af,Value->bk,Addr->ao,Ending->fb,Program->ez,TypeId->dz
open Option renaming some->ab,none->bo
open Bool renaming true->ai,false->ak
open Go.Builtin renaming append_->cm
open Prod.mk renaming injEq->ei
open Go.IntKind renaming u64->dc
namespace Go.Proofs
open Tryz
set_option maxRecDepth 100000
set_option maxHeartbeats 4000000
attribute [local irreducible] cr ed dv de Calls CallsD
attribute [local irreducible] ee W WV WR uP pv e0 eh fe ka ek el ev eu fa dw di dn fc eo kp yS xA yF bn ub
def jaI(s1:Sl)(a:af)(K:iu)(h:∃b1,(Go.binOp .eql 46 s1.v Sl.nil.v).run prog a=.ok (vb b1) a/\Br b1 (K Sl.nil a) (cq a [] 73 fun d e=>∃c:Sl,∃b:af,(cm #[46,46] 46 #[(Sl.mk (ab d) 0 0).v,s1.v]).run prog e=.ok c.v b/\K c b)):
  cl 129 #[s1.v] a<|XA K:=
 gg func129 h<|xe<|rb 2<|br 0 0 (rr 2)<|fy 1<|dd<|ef 1<|kv<|rr 1
def jdk(s1:Sl)(d b:Int)(a:af)(c:iy)(K:iy):Prop:=Br (decide (b<(s1.ay:Int))) (∃a1:ao,At s1 b 1 a1/\li a a1 fun e=>Br (d==e) (K b a)<|c (q6.wrap<|b+1) a)<|K (-1) a
def TB(s1:Sl)(f:Int)(g:af)(K:iy)(h:∃(e:Int->WP) (c:Int->af->Nat),e 0 g/\∀(b:Int) (a:af),e b a->jdk s1 f b a (fun d w'=>e d w'/\c d w'<c b a) K):
  cl 162 #[s1.v,(vi f)] g<|XB K:=
 gg func162 h<|wc (l:=[Int]) (v:=(_,())) 4 [0,1,7] (fun b=>[(8,(vi b))])<|fun {_ _ b}=>fun i=>br 0 1 (ix 6<|ld 0<|br 0 1 (rr 3)<|gn 3<|i _)<|rr 2
def Th(s1:Sl)(a:Int)(b:af)(K:ke)(h:cl 162 #[s1.v,(vi a)] b (XB fun r1 c=>K (decide (r1>=0)) c)):
  cl 133 #[s1.v,(vi a)] b<|XC K:=
 gg func133 h<|cc 3 call162<|xe<|fh<|rr 2
def fv(ts:List Int):List (List bk):=ts.map fun t=>[vi t]
def zV(ts):(fv ts).length=ts.length:=by simp[fv]
def zJV(ts):∀q∈fv ts,q.all vC=ai:=by intro q a;obtain⟨t,_,rfl⟩:=mem_map.1 a;rfl
def Z4(ts):∀q∈fv ts,q.length=1:=by intro q a;obtain⟨t,_,rfl⟩:=mem_map.1 a;rfl
def ux:nY prog 46 73 1 8:=by
 refine⟨underlying46,⟨t73,_,Kf,(by kernel_rfl:t73.zero=ab (vi 0)),Kf,Kf,rfl⟩,Om⟩
structure jd(w:af)(e:dz)(sz:Nat)(rs:List (List bk))(s:Sl)(w':af):Prop where
 fg:c9 w' e sz s rs
 bf:∀b,s.bg b->w.heap.size<=b
 pure:aq w w'
def jd.ff{w H e sz rs s w'}(h:jd w e sz rs s w'):av H w w':=h.pure.dy
def yN{S w s ts}(h:gr S w 1 s (fv ts)){j}(b:j<ts.length):∃a,At s j 1 a/\S a.block/\w.cell? a=ab (vi ts[j]):=by
 have⟨a,h1,h2,h3⟩:=h.at_ j (by simpa[fv]using b);exact⟨a,h1,h2,y9<|by simpa[fv]using h3⟩
def SX{P}(w d){t e}(a l c)(h:P.underlying t=ab (.slice e)):(Op.equalIn (d+1) t (.slice a l c)<|.slice bo 0 0).run P w=.ok a.isNone w:=by
 cases a<;>simp[Op.equalIn,run_underlying h]
def QW{P}(w){t e}(a l c)(h:P.underlying t=ab (.slice e)):(Go.binOp .eql t (.slice a l c)<|.slice bo 0 0).run P w=.ok (vb a.isNone) w:=by
 simp only[Go.binOp];simp[Op.equal,Op.maxDepth,SX w 9999 a l c h]
def zDL{S}(s ts v w0)(hs:gr S w0 1 s (fv ts))(m:ts.length<=1000000):
  cl 162 #[s.v,vi v] w0<|XB fun r w'=>(decide (r>=0)=decide (v∈ts))/\w'=w0:=by
 refine TB _ _ w0 _ ?_
 have k:s.ay=ts.length:=by rw[hs.ay,zV]
 refine⟨fun i w'=>w'=w0/\∃j:Nat,i=j/\j<=ts.length/\v∉ts.take j,fun i _=>((ts.length:Int)-i).toNat,⟨rfl,0,rfl,Nat.zero_le _,Sm⟩,?_⟩
 rintro _ _ ⟨rfl,j,rfl,l,g⟩
 refine⟨fun h=>?_,fun h=>?_⟩
 have b:=vA k h
 have⟨a,c,_,f⟩:=yN hs b
 have e:=take_succ_eq_append_getElem b
 refine⟨a,c,_,f,fun h=>⟨?_,rfl⟩,fun h=>?_⟩
 grind
 rw[zI b Om]
 refine⟨⟨rfl,j+1,rfl,b,?_⟩,vT b⟩
 rw[e,mem_append,mem_singleton]
 rintro(d|d)
 exact g d
 simp[d]at h
 grind
def Xv{S}(s ts v w0)(hs:gr S w0 1 s (fv ts))(b:ts.length<=1000000):
  cl 133 #[s.v,vi v] w0<|XC fun r w'=>r=decide (v∈ts)/\w'=w0:=by
 refine Th _ _ w0 _ ?_
 refine(zDL s ts v w0 hs b).mono ?_
 rintro _ _ ⟨r,rfl,a,rfl⟩
 exact⟨_,rfl,a,rfl⟩
def zDM{S:NP}(s:Sl)(ts:List Int)(c:af)(hs:gr S c 1 s (fv ts))(n:s.a=bo->s=Sl.nil)(w:ts.length<=1000000):
  cl 129 #[s.v] c<|XA fun r w'=>jd c 73 1 (fv ts) r w':=by
 refine jaI _ c _ ?_
 refine⟨s.a.isNone,?_,fun h=>?_,fun h=>?_⟩
 exact QW c s.a s.ay s.cap underlying46
 have g:=n<|Option.isNone_iff_eq_none.1 h
 subst g
 have:ts=[]:=by have:=hs.ay;rw[zV]at this;exact length_eq_zero_iff.1 this.symm
 subst this
 exact⟨c9.nil _ _ _,fun b d=>(by have⟨a,j,_⟩:=d;cases j),aj.refl _⟩
 intro m o h1
 have i:aq c o:=aj.bu h1
 have⟨q,p,l,u,k,d⟩:=(c9.empty (sz:=1) h1).Am (P:=prog) (ty:=46) ux (hs.pure i) (Z4 _) (zJV _) (by rw[zV];simp;omega) (by rw[zV];simp[maxLen];omega)
 have t:=h1.gp
 have f:∀b,(Sl.mk (ab m) 0 0).bg b->c.heap.size<=b:=fun b d=>(by have⟨a,j,e⟩:=d;cases j;omega)
 exact⟨q,p,l,Uc,fun b h=>(d b h).elim (f b) fun h=>Oh i.size,i.ft k Gd⟩
def Y4(a:Option ao)(b:af)(K:sL)(h:Br (Option.isNone a) (K bo b) (∀c d,fp b (.map #[] 0) c d->cq d [(vp a),Sl.nil.v,(.map<|ab c.block),Sl.nil.v] 163 fun e f=>K (ab e) f)):
  cl 43 #[(vp a)] b<|XD K:=
 gg func43 h<|br 0 3 (rr 2)<|fy 2<|fy 1<|rr 1
def Mw(s:Option ao)(q:Int)(B:af)(K:Sl->Bool->WP):Prop:=cq B [(vp s)] 93 fun h g=>lp g h fun u=>Br (Option.isNone u) (K Sl.nil ak g)<|cq g [Sl.nil.v] 169 fun l r=>∀i p,fp r (.map #[] 0) i p->cq p [(.map bo)] 231 fun m x=>ll x m (.map<|ab i.block) fun C=>∀j k,fp C (.map #[] 0) j k->cq k [(.map bo)] 232 fun n z=>ll z n (.map<|ab j.block) fun A=>cq A [(.nilFunc:bk)] 233 fun f t=>ll t f (.func (.func 160) #[] #[(vp<|ab m),(vp<|ab n),(vp<|ab h),(vp<|ab f),(vp<|ab l)]) fun b=>∃o:bk,b.cell? f=ab o/\∃(e:FuncId) (c d:Array bk),o=.func (.func e) c d/\(∀args w,(callFunc e args).run prog w=.ok (.enter e args) w)/\Calls prog e (c++#[(vi q)]++d) b (XE fun r1 r2 a=>Br (!r2) (K Sl.nil ak a)<|lx a l fun y=>K y ai a)
def jap(k1 t1 w0 K)(h:Mw k1 t1 w0 K):
  cl 105 #[(vp k1),(vi t1)] w0<|XF K:=
 gg func105 h<|fy 0<|ld 2<|br 0 1 (rr 3)<|fy 1<|fy 0<|fy 0<|kz 0<|fy 0<|fy 0<|kz 0<|fy 0<|kz 1<|ld 0<|fo<|fun a=>cv 1 a<|dd<|rt<|kv<|br 0 7 (rr 3)<|ld 1<|rr 2
def Xh(a:Option ao)(c:Int)(b:af)(K:ke)(h:cl 105 #[(vp a),(vi c)] b (XF fun r1 r2 d=>K r2 d)):
  cl 63 #[(vp a),(vi c)] b<|XC K:=
 gg func63 h<|cc 3 call105<|dd<|fh<|rr 7
def ZM(b:Option ao)(a:af)(K:iu)(h:Br (Option.isNone b) (K Sl.nil a) (pE a b 1 fun c=>cl 129 #[c.v] a<|XA K)):
  cl 68 #[(vp b)] a<|XA K:=
 gg func68 h<|br 0 3 (rr 2)<|nc 2<|ld 1<|cc 0 call129<|xe<|fh<|rr 1
def Dc(j:ao)(ju:Int)(k h:ao)(o:af)(H:NP)(w:af)(d:pR)(p:WP):Prop:=li w h fun b=>Br (b==4) (li w (h.add 5) fun i=>cl 181 #[(vi i),(vi 1),(vp<|ab j),(vp<|ab k)] w<|XG fun c=>av H w c/\li c (h.add 6) fun l=>cl 181 #[(vi l),(vi 2),(vp<|ab j),(vp<|ab k)] c<|XG fun f=>av H c f/\d (q6.wrap<|ju+1) H f) (∀n:Bool,n=(cond (b==7) (b==7)<|cond (b==8) (b==8)<|b==9)->Br n (∀e a,au o H w e a->li a (h.add 5) fun m=>cl 181 #[(vi m),(vi 3),(vp<|ab j),(vp<|ab k)] a<|XG fun g=>av e a g/\d (q6.wrap<|ju+1) e g) (∀e a,au o H w e a->d (q6.wrap<|ju+1) e a))
def Od(j:ao)(ju:Int)(B:af)(a:NP)(b:af)(m:pR)(K:WP):Prop:=lp b j fun v=>pE b v 3 fun u=>Br (decide (ju<(u.ay:Int))) (lp b j fun x=>pE b x 3 fun w=>∃z:ao,At w ju 1 z/\li b z fun s=>cq b [(vi 0)] 73 fun q t=>iq t a q (vi s) fun r=>jh r fun c g=>∃l,(∀w',c w'->w'.cell? j=ab (vp l))/\∃n,l=ab n/\∃f,(∀w',c w'->w'.cell? n=ab (vp f))/\∃e,(∀w',c w'->w'.cell? q=ab (vi e))/\(cl 109 #[(vp f),(vi e)] g<|XH fun H G O I E N D r1 h=>c h/\av a g h/\cq h [(vi 0),(vi 0),(vi 0),(vu 0),ve,(vi 0),(vi 0)] 119 fun A k=>c k/\rI k a A 7 (Ab H G O I E N D) fun o=>c o/\Dc j ju q A B a o m K)/\(cq g [(vi 0),(vi 0),(vi 0),(vu 0),ve,(vi 0),(vi 0)] 119 fun y i=>c i/\cl 109 #[(vp f),(vi e)] i (XH fun J Q C M P L F r2 d=>c d/\av a i d/\rI d a y 7 (Ab J Q C M P L F) fun p=>c p/\Dc j ju q y B a p m K))) (K b)
def K9(I:Option ao)(s d c:Int)(j:af)(K:WP):Prop:=cq j [(vp I)] 93 fun i G=>∀u h,au j bl G u h->lp h i fun J=>∃a1,J=ab a1/\∃C:Option Nat,h.cell? (a1.add 2)=ab (.map C)/\∃b f m,(Instr.lookup 161 (.map C) (vi s) ai).run prog h=.ok (.tuple #[(.agg #[(vi b),(vi f)]),(vb m)]) h/\Br m (∀g n,au j u h g n->K n) (∀g n,au j u h g n->jh n fun D E=>∃A,(∀w',D w'->w'.cell? i=ab (vp A))/\∃a2,A=ab a2/\∃y:Option Nat,(∀w',D w'->w'.cell? (a2.add 2)=ab (.map y))/\∃l:af,(Instr.mapUpdate 161 (.map y) (vi s)<|.agg #[(vi d),(vi c)]).run prog E=.ok () l/\av g E l/\lp l i fun F=>pE l F 3 fun H=>jh l fun p M=>∃B,(∀w',p w'->w'.cell? i=ab (vp B))/\∃x,(∀w',p w'->w'.cell? i=ab (vp x))/\∃a4,x=ab a4/\∃z:Sl,(∀w',p w'->w'.cell? (a4.add 3)=ab z.v)/\cq M [(vi s)] 73 fun L w=>p w/\∃s1:Sl,∃q:af,(cm #[46,46] 46 #[z.v,(Sl.mk (ab L) 1 1).v]).run prog w=.ok s1.v q/\p q/\av g w q/\∃a5,B=ab a5/\iq q g (a5.add 3) s1.v fun t=>∃(r:Int->NP->WP) (k:Int->af->Nat),r (H.ay:Int) g t/\∀(ju:Int) (e:NP) (a:af),au j e a e a->r ju e a->Od i ju j e a (fun o N w'=>r o N w'/\k o w'<k ju a) K)
def jdi(k1 t1 wrule1 wfrom1 w0 K)(h:K9 k1 t1 wrule1 wfrom1 w0 K):
  cl 134 #[(vp k1),(vi t1),(.agg #[(vi wrule1),(vi wfrom1)])] w0<|XG K:=
 gh func134 h<|jx 0<|nh 0<|ah<|ld 0<|nc 0<|ld 1<|rW<|rn 1<|nh 3<|sg 0 0 []<|br 0 2 (ah<|rr 1)<|ah<|dC 1 [6] [6]<|km 0<|nc 0<|km 1<|qa 1 1 [] 2<|xe<|es 0<|nR<|ld 0<|nc 0<|ld 1<|dC 2 [6,7,10] [10]<|km 0<|km 0<|nc 0<|km 1<|py 1<|dd<|ef 0<|oE<|nc 0<|iz 1<|wa (l:=[Int]) (v:=(_,())) 0 [3] (fun ju=>[(8,(vi ju))])<|fun {_ _ ju}=>fun e=>ld 1<|nc 0<|ld 1<|br 0 2 (ld 1<|nc 0<|ld 1<|ix 1<|ld 0<|jx 0<|iz 0<|ja [ao] 0 0 [3,8,9] (fun d=>[(10,(vp<|ab d))]) (fun d H w=>Dc _ _ _ d _ H w _ _) (fun f=>dC 0 [5,9,10] []<|km 0<|nc 0<|km 1<|km 0<|rZ 0 (cc 0 call109<|dh<|dd<|gQ<|py 3<|CC 0<|je 1 0<|f _)<|py 0<|cc 0 call109<|dh<|dd<|gQ<|CC 3<|je 1 0<|f _)<|fun {d}=>ld 3<|fun {a}=>br 0 2 (ld 3<|cc 0 call181<|cz<|ld 2<|cc 0 call181<|cz<|je 3 0<|e _)<|pj 3 0 [(a==7),(a==8)] [3,8,10,12] (fun b=>[(82,(vb<|cond (b 0) (a==7)<|cond (b 1) (a==8)<|a==9))]) (fun c=>pb 0 0 0 c (fun c=>pe 1 0 c)<|fun c=>pb 0 3 1 c (fun c=>pe 1 0 c)<|fun c=>pe 3 0 c)<|yy<|br 0 0 (ah<|ld 3<|cc 0 call181<|cz<|je 3 0<|e _)<|ah<|je 4 0<|e _)<|rr 1
def Ka(b:Option ao)(e:Int)(d:af)(K:iy):Prop:=Br (Option.isNone b) (K 7 d)<|jz d b fun n=>cl 109 #[(vp n),(vi e)] d<|XH fun t s x u r w q r1 g=>av bl d g/\Br (!r1) (∀a c,au d bl g a c->K 51 c) (∃a2,b=ab a2/\∀a c,au d bl g a c->lx c (a2.add 1) fun p=>cl 133 #[p.v,(vi e)] c<|XC fun r2 f=>av a c f/\Br (!r2) (pE f b 1 fun o=>cq f [(vi e)] 73 fun m l=>∃s1:Sl,∃h:af,(cm #[46,46] 46 #[o.v,(Sl.mk (ab m) 1 1).v]).run prog l=.ok s1.v h/\av a l h/\∃a4,b=ab a4/\iq h a (a4.add 1) s1.v fun j=>cl 134 #[(vp b),(vi e),(.agg #[(vi 0),(vi 0)])] j<|XG fun k=>av a j k/\K 0 k) (cl 134 #[(vp b),(vi e),(.agg #[(vi 0),(vi 0)])] f<|XG fun i=>av a f i/\K 0 i))
def jcC(k1 t1 w0 K)(h:Ka k1 t1 w0 K):
  cl 70 #[(vp k1),(vi t1)] w0<|XB K:=
 gh func70 h<|br 0 3 (rr 2)<|nc 2<|ld 1<|cc 1 call109<|dh<|dd<|cz<|nh 3<|sg 0 0 []<|br 0 3 (ah<|rr 2)<|nc 2<|ah<|ld 1<|cc 1 call133<|xe<|cz<|br 0 1 (nc 3<|ld 1<|jx 1<|dd<|ef 0<|nR<|nc 0<|iz 1<|cc 3 call134<|cz<|rr 1)<|cc 4 call134<|cz<|rr 1
def jcv(b:Option ao)(a:af)(K:iu)(h:Br (Option.isNone b) (K Sl.nil a) (pE a b 3 fun c=>cl 138 #[c.v] a<|XI fun r1 d=>cl 137 #[r1] d<|XA K)):
  cl 72 #[(vp b)] a<|XA K:=
 gg func72 h<|br 0 3 (rr 2)<|nc 2<|ld 1<|cc 0 call138<|xe<|fh<|cc 0 call137<|xe<|fh<|rr 1
def jci(e:Option ao)(f:Int)(c:af)(K:ke)(h:Br (Option.isNone e) (K ak c) (∃a1,e=ab a1/\∃g:Option Nat,c.cell? (a1.add 2)=ab (.map g)/\∃a b d,(Instr.lookup 161 (.map g) (vi f) ai).run prog c=.ok (.tuple #[(.agg #[(vi a),(vi b)]),(vb d)]) c/\∀j i,au c bl c j i->K d i)):
  cl 128 #[(vp e),(vi f)] c<|XC K:=
 gh func128 h<|br 0 3 (rr 2)<|nc 2<|ld 1<|rW<|rn 1<|nh 3<|sg 0 0 []<|ah<|rr 3
def Hw(d:Option ao)(f a:Int)(H:NP)(w:af)(K:Qd):Prop:=jz w d fun g=>cl 127 #[(vp g),(.agg #[(vi 6),(vi a),(vi 0),(vu 0),ve,(vi 0),(vi 0)])] w<|XE fun r2 r3 e=>av H w e/\jh e fun h c=>Br r3 (cl 128 #[(vp d),(vi r2)] c<|XC fun i b=>h b/\av H c b/\K f r2 ak i b) (K f r2 ak ak c)
def jbb(l:Option ao)(o:Int)(d:af)(K:Qd)(h:jz d l fun y=>cl 109 #[(vp y),(vi o)] d<|XH fun a k n A z m u r1 i=>av bl d i/\Br (!r1) (∀x t,au d bl i x t->K 0 0 ak ak t) (∀p:Bool,p=(cond (a == 1) (a == 1)<|cond (a == 2) (a == 2)<|a == 3)->Br p (∀g f,au d bl i g f->K 0 0 ai ai f) (Br (a == 4) (∀g s,au d bl i g s->K m u ak ai s)<|Br (a == 5) (∀g f,au d bl i g f->K m 0 ak ai f)<|Br (a == 6) (∀g f,au d bl i g f->K 0 0 ak ak f)<|∀q r,au d bl i q r->Hw l m (cond (a == 9) n k) q r K))):
  cl 161 #[(vp l),(vi o)] d<|XJ K:=
 gh func161 h<|nc 5<|ld 1<|cc 1 call109<|dh<|fun {a k n}=>dd<|cz<|nh 3<|sg 0 0 []<|br 0 3 (ah<|rr 5)<|lh 2 0 [1]<|lh 2 0 []<|ja [Int] 0 3 [0,8] (fun c=>[(10,(vi c))]) (fun c H w=>Hw _ _ c H w _) (fun v=>pj 2 0 [(a==1),(a==2)] [0,8,10,26] (fun b=>[(27,(vb<|cond (b 0) (a==1)<|cond (b 1) (a==2)<|a==3))]) (fun e=>pb 0 0 0 e (fun e=>pe 1 0 e)<|fun e=>pb 0 3 1 e (fun e=>pe 1 0 e)<|fun e=>pe 3 0 e)<|yy<|br 0 0 (ah<|rr 5)<|br 0 3 (dq 1<|lh 1 0 [5]<|lh 1 0 [6]<|ah<|rr 4)<|br 0 3 (lh 2 0 [5]<|ah<|rr 4)<|br 0 3 (ah<|rr 5)<|pj 3 0 [(a==9)] [0,8] (fun b=>[(10,(vi<|cond (b 0) n k))]) (fun j=>pb 0 0 0 j (fun j=>lh 2 0 [2]<|pe 1 0 j)<|fun j=>pe 1 0 j)<|ah<|je 0 0<|v _)<|fun {c}=>nc 1<|ld 1<|cc 2 call127<|dd<|cz<|dC 5 [7] []<|ki 1 0 [5]<|br 1 3 (cc 2 call128<|xe<|gQ<|rr 5)<|rr 8
def yg(h:Int)(b d a:ao)(i:Bool)(s t:Int)(p u:Int)(H:NP)(w:af)(K:zu):Prop:=Br (!i) (∃n:Option Nat,w.cell? d=ab (.map n)/\∃l:af,(Instr.mapUpdate 232 (.map n) (vi h)<|vb ai).run prog w=.ok () l/\av H w l/\K 0 ak l)<|∃m:Option Nat,w.cell? b=ab (.map m)/\lx w a fun r=>∃f:af,(Instr.mapUpdate 231 (.map m) (vi h)<|vi (r.ay:Int)).run prog w=.ok () f/\av H w f/\lx f a fun j=>cq f [(vi s),(vi t),(vi p),(vi u)] 173 fun q o=>∃s1:Sl,∃k:af,(cm #[169,169] 169 #[j.v,(Sl.mk (ab q) 1 1).v]).run prog o=.ok s1.v k/\av H o k/\iq k H a s1.v fun g=>∃c:Option Nat,g.cell? b=ab (.map c)/\∃e,(Instr.lookup 231 (.map c) (vi h) ak).run prog g=.ok (vi e) g/\K e ai g
def Gu(o:Int)(c e:ao)(g b:ao)(s:Int)(i:Bool)(q r:Int)(v p:Int)(n:af)(H:NP)(w:af)(K:zu):Prop:=Br (i&&(decide (s>0))) (∀d a,au n H w d a->∃f:bk,a.cell? g=ab f/\∃(m:FuncId) (l k:Array bk),f=.func (.func m) l k/\(∀args w,(callFunc m args).run prog w=.ok (.enter m args) w)/\Calls prog m (l++#[(vi s)]++k) a (XE fun u t h=>av d a h/\∀j,au n d h d j->yg o c e b t q r u p d j K))<|∀d a,au n H w d a->yg o c e b i q r v p d a K
def IL(i:Int)(b c:ao)(m j d:ao)(f:af)(K:zu):Prop:=∃M:Option Nat,f.cell? b=ab (.map M)/\∃Q A,(Instr.lookup 231 (.map M) (vi i) ai).run prog f=.ok (.tuple #[(vi Q),(vb A)]) f/\Br A (K Q ai f) (∀x l,au f bl f x l->∃O:Option Nat,l.cell? c=ab (.map O)/\∃s,(Instr.lookup 232 (.map O) (vi i) ak).run prog l=.ok (vb s) l/\lp l m fun R=>∃a1,R=ab a1/\∃L:Option Nat,l.cell? (a1.add 2)=ab (.map L)/\∃a k v,(Instr.lookup 161 (.map L) (vi i) ai).run prog l=.ok (.tuple #[(.agg #[(vi a),(vi k)]),(vb v)]) l/\Br v (Br (a !=0) (∀e g,au f x l e g->∃C:bk,g.cell? j=ab C/\∃(F:FuncId) (B E:Array bk),C=.func (.func F) B E/\(∀args w,(callFunc F args).run prog w=.ok (.enter F args) w)/\Calls prog F (B++#[(vi k)]++E) g (XE fun r1 r2 u=>av e g u/\∀r,au f e u e r->yg i b c d (!s) a r1 0 i e r K))<|∀e g,au f x l e g->yg i b c d (!s) a 0 0 i e g K) (Br (!s) (∀e o,au f x l e o->lp o m fun I=>cl 161 #[(vp I),(vi i)] o<|XJ fun r3 N P J p=>av e o p/\Br (J&&(decide (r3>0))) (∀n h,au f e p n h->∃y:bk,h.cell? j=ab y/\∃(G:FuncId) (D t:Array bk),y=.func (.func G) D t/\(∀args w,(callFunc G args).run prog w=.ok (.enter G args) w)/\Calls prog G (D++#[(vi r3)]++t) h (XE fun S H q=>av n h q/\∀z,au f n q n z->Gu i b c j d N H (cond P 4 5) S 0 i f n z K)) (∀n h,au f e p n h->Gu i b c j d N J (cond P 4 5) 0 0 i f n h K)) (∀e o,au f x l e o->yg i b c d (!s) 0 0 0 i e o K)))
def Tq(t1 cap1 cap2 cap3 cap4 cap5 w0 K)(h:IL t1 cap1 cap2 cap3 cap4 cap5 w0 K):
  cl 160 #[(vi t1),(vp<|ab cap1),(vp<|ab cap2),(vp<|ab cap3),(vp<|ab cap4),(vp<|ab cap5)] w0<|XE K:=
 gh func160 h<|ld 2<|dd<|rn 1<|br 0 6 (rr 4)<|nh 3<|sg 0 0 []<|ah<|ld 0<|xe<|rn 1<|ld 2<|nc 0<|ld 1<|rW<|rn 1<|nh 3<|sg 0 0 []<|jb [Bool,Int,Int,Int,Int] 2 0 [0,1,2,5,11] (fun c k m i o=>[(12,(vb c))]) (fun c k m i o l=>dn l 1 0 [(vi k),(vi m),(vi i),(vi o)]) (fun c k m i o H w=>yg _ _ _ _ c k m i o H w _) (fun e=>br 0 0 (lh 2 0 []<|sh 1 1 []<|lh 1 0 []<|br 0 1 (ah<|ld 1<|lh 1 0 [1]<|fo<|fun s=>cv 0 s<|dd<|rt<|nR<|sh 4 1 [1]<|an<|je 0 0<|e _ _ _ _ _)<|ah<|je 1 0<|e _ _ _ _ _)<|br 0 2 (ah<|ld 1<|cc 1 call161<|Hk<|fun {r3 x y v}=>cz<|sh 11 1 []<|ph (fun b l=>dn l 1 0 [(vi<|cond (b 0) 4 5),(vi 0),(vi 0),(vi t1)]) 2 0 [y] [0,1,2,4,5,11,12,15,16] (fun b=>[]) (fun j=>pb 0 0 0 j (fun j=>sh 2 1 []<|pe 0 0 j)<|fun j=>pe 1 0 j)<|pj 0 0 [v] [0,1,2,4,5,11,12,15,16] (fun b=>[(74,(vb<|(b 0)&&(decide (r3>0))))]) (fun d=>pb 1 2 0 d (fun d=>pe 3 0 d)<|fun d=>pe 3 0 d)<|jb [Bool,Int,Int,Int,Int] 0 0 [0,1,2,4,5,11,16] (fun a q n p f=>[(12,(vb a))]) (fun a q n p f l=>dn l 1 0 [(vi q),(vi n),(vi p),(vi f)]) (fun a q n p f H w=>Gu _ _ _ _ _ _ a q n p f _ H w _) (fun u=>br 0 0 (ah<|ld 1<|fo<|fun t=>cv 1 t<|dd<|rt<|nR<|sh 4 1 [1]<|an<|je 1 0<|u _ _ _ _ _)<|ah<|je 1 0<|u _ _ _ _ _)<|fun {a q n p f}=>pj 0 0 [a] [0,1,2,4,5,11,12,16] (fun b=>[(86,(vb<|(b 0)&&(decide (x>0))))]) (fun g=>pb 1 2 0 g (fun g=>pe 3 0 g)<|fun g=>pe 3 0 g)<|br 0 0 (ah<|ld 1<|fo<|fun r=>cv 1 r<|dd<|rt<|nR<|sh 4 1 [2]<|an<|je 1 0<|e _ _ _ _ _)<|ah<|je 1 0<|e _ _ _ _ _)<|ah<|je 1 0<|e _ _ _ _ _)<|fun {c k m i o}=>br 0 2 (ld 1<|xe<|es 1<|nR<|rr 2)<|ld 1<|ld 1<|xe<|es 1<|nR<|ld 0<|j9 0 1 [] 4<|jx 0<|dd<|ef 0<|nR<|iz 0<|ld 0<|xe<|rn 1<|rr 2
def SZ(l b:Int)(a f:ao)(d:af)(K:WP)(h:lp d a fun A=>∃a1,A=ab a1/\∃x:Option Nat,d.cell? (a1.add 2)=ab (.map x)/\∃c e j,(Instr.lookup 161 (.map x) (vi l) ai).run prog d=.ok (.tuple #[(.agg #[(vi c),(vi e)]),(vb j)]) d/\Br (!j) (∀g i,au d bl d g i->jh i fun p y=>∃u,(∀w',p w'->w'.cell? a=ab (vp u))/\∃a2,u=ab a2/\∃s:Option Nat,(∀w',p w'->w'.cell? (a2.add 2)=ab (.map s))/\∃q,(∀w',p w'->w'.cell? f=ab (vi q))/\∃o:af,(Instr.mapUpdate 161 (.map s) (vi l)<|.agg #[(vi b),(vi q)]).run prog y=.ok () o/\av g y o/\jh o fun k C=>∃t,(∀w',k w'->w'.cell? a=ab (vp t))/\∃w,(∀w',k w'->w'.cell? a=ab (vp w))/\∃a3,w=ab a3/\∃r:Sl,(∀w',k w'->w'.cell? (a3.add 3)=ab r.v)/\cq C [(vi l)] 73 fun z n=>k n/\∃s1:Sl,∃m:af,(cm #[46,46] 46 #[r.v,(Sl.mk (ab z) 1 1).v]).run prog n=.ok s1.v m/\k m/\av g n m/\∃a4,t=ab a4/\iq m g (a4.add 3) s1.v fun B=>K B) (∀g i,au d bl d g i->K i)):
  cl 181 #[(vi l),(vi b),(vp<|ab a),(vp<|ab f)] d<|XG K:=
 gh func181 h<|ld 0<|nc 0<|ld 1<|rW<|rn 1<|nh 3<|sg 0 0 []<|br 0 3 (ah<|dC 1 [8] [8]<|km 0<|nc 0<|km 1<|km 2<|xe<|es 1<|nR<|dC 0 [6,7,10] [10]<|km 0<|km 0<|nc 0<|km 1<|py 1<|dd<|ef 0<|oE<|nc 0<|iz 1<|rr 0)<|ah<|rr 1
def jcD(d:af)(K:sL):Prop:=∀a b,fp d (.map #[] 0) a b->cq b [Sl.nil.v,(.map<|ab a.block)] 160 fun c e=>K (ab c) e
def jcd(a:af)(K:sL)(h:jcD  a K):
  cl 42 #[] a<|XD K:=
 gg func42 h<|fy 1<|fy 1<|rr 1
def RY(a:Option ao)(y A:Int)(E x:Int)(B:ByteArray)(C:Sl)(D:af)(K:jw):Prop:=∀g d,fp D (.cells #[(vi y),(vi A),(vi E),(vu x),(vs B),C.v] 71) g d->Br (Option.isNone a) (K 0 0 d) (∀b f,fp d (.cells #[(vi 0)] 3) b f->zJ f b/\∀h,h=f.setCell b (vi 0)->∃k o r l s u,Row h g (Af k o r l s u)/\cl 124 #[(.agg #[(vi k),(vi o),(vi r),(vu l),(vs s),u.v]),(vi 0),(vp<|ab b)] h fun e c=>∃r1,e=.returned (vi r1)/\Br (r1 !=0) (K 0 r1 c) (∃a1,a=ab a1/\∃p:Sl,c.cell? a1=ab p.v/\∃q n t m i j,Row c g (Af q n t m i j)/\cl 125 #[(vp a),(.agg #[(vi q),(vi n),(vi t),(vu m),(vs i),j.v])] c fun e w=>∃r2 r3,e=.returned (.tuple #[(vi r2),(vi r3)])/\Br (r3 !=0) (cl 126 #[(vp a),(vi (p.ay:Int))] w fun e z=>e=.returned (.tuple #[])/\K 0 r3 z) (K r2 0 w)))
def jbZ(p1 aO aP aQ aR aS aT w0 K)(h:RY p1 aO aP aQ aR aS aT w0 K):
  cl 62 #[(vp p1),(.agg #[(vi aO),(vi aP),(vi aQ),(vu aR),(vs aS),aT.v])] w0<|XK K:=
 gg func62 h<|fy 0<|br 0 4 (rr 3)<|fy 1<|kz 0<|dh<|lr 0<|cc 0 call124<|xe<|fh<|br 0 3 (rr 4)<|nc 2<|ld 1<|dh<|lr 3<|cc 0 call125<|dd<|fh<|br 0 7 (cc 3 call126<|fh<|rr 3)<|rr 4
def Zp(a:Option ao)(n1:Int)(b:af)(K:jw)(h:cl 132 #[(vp a),(.agg #[(vi 6),(vi n1),(vi 0),(vu 0),ve,(vi 0),(vi 0)])] b (XK K)):
  cl 99 #[(vp a),(vi n1)] b<|XK K:=
 gg func99 h<|cc 5 call132<|dd<|fh<|rr 4
def PM(d:Option ao)(c:Int)(f:af)(K:H6)(h:cq f [(vi 0),(vi 0),(vi 0),(vu 0),ve,(vi 0),(vi 0)] 119 fun b k=>cl 130 #[(vp d),(vi c)] k<|XC fun r1 a=>Br (!r1) (gk a b 7 [(vi 0),(vi 0),(vi 0),(vu 0),ve,(vi 0),(vi 0)] fun g=>ov g b fun l p v C r q i=>K l p v C r q i ak g) (nq a d fun w=>∃a2:ao,At w (q6.wrap<|c - 1) 9 a2/\ov a a2 fun j s z m D E t=>gk a b 7 (Ab j s z m D E t) fun e=>ov e b fun A y B n o u x=>K A y B n o u x ai e)):
  cl 109 #[(vp d),(vi c)] f<|XH K:=
 gg func109 h<|fy 0<|cc 3 call130<|xe<|fh<|br 0 1 (gj 2<|gu 1<|dh<|xe<|jq<|gw)<|nc 2<|ld 1<|ix 2<|dh<|xe<|lr 1<|gj 0<|gu 1<|dh<|xe<|jq<|gw
def LL(b:Int)(c:Option ao)(f:ao)(d i1:Int)(a:af)(e:jw)(K:iy):Prop:=lx a (f.add 5) fun l=>Br (decide (i1<(l.ay:Int))) (Br (d==0) (lx a (f.add 5) fun g=>∃a3:ao,At g i1 6 a3/\nj a a3 fun m h bK n j k=>cl 124 #[(.agg #[(vi m),(vi h),(vi bK),(vu n),(vs j),k.v]),(vi<|q6.wrap<|b+1),(vp c)] a<|XB fun r2 i=>e r2 (q6.wrap<|i1+1) i) (K d a)) (K d a)
def GJ(a:Int)(c:Option ao)(i:ao)(j:Int)(w:af)(K:iy):Prop:=∃(g:Int->Int->WP) (e:Int->Int->af->Nat),g j 0 w/\∀(h i1:Int) (b:af),g h i1 b->LL a c i h i1 b (fun f d w'=>g f d w'/\e f d w'<e h i1 b) K
def BD(a:Int)(b:Option ao)(i o l:ao)(j:Int)(w:af)(K:iy):Prop:=Br (j==0) (sP w l fun e g f d c=>ov w o fun k p r q n s m=>cl 177 #[(.agg #[(vb e),(vb g),(vb f),(vb d),(vi c)]),(.agg #[(vi k),(vi p),(vi r),(vu q),(vs n),(vi s),(vi m)])] w<|XB fun r3 h=>GJ a b i r3 h K) (GJ a b i j w K)
def RN(b:Int)(a:Option ao)(g:ao)(w:af)(K:iy):Prop:=Jn w a fun E=>∃a2,a=ab a2/\ll w a2 (vi<|q6.wrap<|E+1) fun l=>nj l g fun q z G r J N=>cl 175 #[(.agg #[(vi q),(vi z),(vi G),(vu r),(vs J),N.v])] l<|XL fun Q y D O B H A x=>cq x [(vi 0),(vi 0),(vi 0),(vu 0),ve,(vi 0),(vi 0)] 119 fun i I=>gk I i 7 (Ab Q y D O B H A) fun m=>ov m i fun F t L s o P C=>cl 176 #[(.agg #[(vi F),(vi t),(vi L),(vu s),(vs o),(vi P),(vi C)])] m<|XM fun c j f e d r1 u=>cq u [(vb ak),(vb ak),(vb ak),(vb ak),(vi 0)] 263 fun h M=>gk M h 5 (Ah c j f e d) fun k=>Br (r1==0) (lx k (g.add 5) fun p=>li k (h.add 4) fun n=>Br (((p.ay:Int):Int) !=n) (BD b a g i h 53 k K)<|BD b a g i h r1 k K) (BD b a g i h r1 k K)
def Pz(h i:Int)(l g:Int)(k:ByteArray)(e:Sl)(a:Int)(b:Option ao)(j:af)(K:iy):Prop:=cq j [(vi h),(vi i),(vi l),(vu g),(vs k),e.v] 71 fun f c=>Jn c b fun d=>Br (decide (d>=4096)) (K 52 c)<|Br (decide (a>=64)) (K 52 c)<|RN a b f c K
def w_O(aO aP aQ aR aS aT inside1 seen1 w0 K)(h:Pz aO aP aQ aR aS aT inside1 seen1 w0 K):
  cl 124 #[(.agg #[(vi aO),(vi aP),(vi aQ),(vu aR),(vs aS),aT.v]),(vi inside1),(vp seen1)] w0<|XB K:=
 gg func124 h<|fy 0<|jc [] 1 1 [1,2,3] ([]) (fun w=>RN _ _ _ w _) (fun g=>nc 1<|ld 0<|br 1 2 (rr 5)<|br 0 3 (rr 2)<|gn 1 g)<|nc 1<|ld 0<|nc 1<|kz 0<|dh<|lr 0<|cc 0 call175<|dh<|xe<|fh<|fy 0<|gj 0<|dh<|xe<|lr 0<|cc 0 call176<|dh<|fh<|fy 3<|gj 0<|jc [Int] 1 1 [1,2,3,7,8] (fun b=>[(9,(vi b))]) (fun b w=>BD _ _ _ _ _ b w _) (fun c=>br 1 3 (ld 1<|ld 2<|br 0 2 (gn 2<|c _)<|gn 1<|c _)<|gn 8<|c _)<|fun {b}=>jc [Int] 0 1 [1,2,3] (fun a=>[(9,(vi a))]) (fun a w=>GJ _ _ _ a w _) (fun d=>br 0 2 (ia<|lr 1<|dh<|xe<|lr 0<|cc 0 call177<|xe<|fh<|gn 1<|d _)<|gn 1<|d _)<|fun {a}=>wc (l:=[Int,Int]) (v:=(_,_,())) 1 [1,2,3] (fun e i1=>[(9,(vi e)),(10,(vi i1))])<|fun {_ _ e i1}=>fun f=>ld 2<|br 1 3 (br 0 3 (ld 2<|ix 1<|dh<|lr 0<|cc 3 call124<|xe<|fh<|gn 4<|f _ _)<|rr 3)<|rr 6
def jao(e:Option ao)(n z:ao)(g:Sl)(b:Int)(a:af)(c:iy)(K:jw):Prop:=Br (decide (b<(g.ay:Int))) (∃a1:ao,At g b 6 a1/\nj a a1 fun x q A o i j=>cq a [(vi 0),(vi 0),(vi 0),(vu 0),ve,Sl.nil.v] 71 fun f r=>gk r f 6 (Af x q A o i j) fun h=>nj h f fun C F bK k p m=>cl 125 #[(vp e),(.agg #[(vi C),(vi F),(vi bK),(vu k),(vs p),m.v])] h<|XK fun r1 r2 d=>Br (r2 !=0) (K 0 r2 d)<|∃a2:ao,At (Sl.mk (ab z) 2 2) b 1 a2/\lp d a2 fun B=>∃a3,B=ab a3/\ll d a3 (vi r1) fun t=>c (q6.wrap<|b+1) t) (ov a n fun l w D y s E u=>cl 132 #[(vp e),(.agg #[(vi l),(vi w),(vi D),(vu y),(vs s),(vi E),(vi u)])] a<|XK K)
def PV(j:Option ao)(o x:Int)(I k:Int)(y:ByteArray)(E:Sl)(G:af)(K:jw):Prop:=cq G [(vi o),(vi x),(vi I),(vu k),(vs y),E.v] 71 fun h g=>nj g h fun l r z n D F=>cl 175 #[(.agg #[(vi l),(vi r),(vi z),(vu n),(vs D),F.v])] g<|XL fun J q u H t A s m=>cq m [(vi 0),(vi 0),(vi 0),(vu 0),ve,(vi 0),(vi 0)] 119 fun d p=>gk p d 7 (Ab J q u H t A s) fun B=>cq B [(vp<|ab<|d.add 5),(vp<|ab<|d.add 6)] 267 fun C i=>lx i (h.add 5) fun w=>∃(e:Int->WP) (b:Int->af->Nat),e 0 i/\∀(f:Int) (a:af),e f a->jao j d C w f a (fun c w'=>e c w'/\b c w'<b f a) K
def jbf(p1 aO aP aQ aR aS aT w0 K)(h:PV p1 aO aP aQ aR aS aT w0 K):
  cl 125 #[(vp p1),(.agg #[(vi aO),(vi aP),(vi aQ),(vu aR),(vs aS),aT.v])] w0<|XK K:=
 gg func125 h<|fy 0<|dh<|lr 2<|cc 0 call175<|dh<|xe<|fh<|fy 0<|gj 0<|fy 2<|ld 2<|wc (l:=[Int]) (v:=(_,())) 2 [0,6,7,18,19] (fun a=>[(20,(vi a))])<|fun {_ _ a}=>fun b=>br 0 1 (ix 2<|dh<|lr 0<|fy 0<|gj 1<|dh<|lr 1<|cc 0 call125<|dd<|fh<|br 0 7 (rr 4)<|ix 3<|ld 0<|nc 1<|kz 0<|gn 2<|b _)<|dh<|xe<|lr 2<|cc 0 call132<|dd<|fh<|rr 4
def Xm(k:Option ao)(n1:Int)(s1:Sl)(l:Int)(j:af)(m:iy)(K:WP):Prop:=Br (decide (l<(s1.ay:Int))) (∃a2:ao,At s1 l 9 a2/\∃b c e d a h g i f,Row j a2 [(vi b),(vi c),(vi e),(vu d),(vs a),(vi h),(vi g),(vi i),(vi f)]/\cq j [(vi 0),(vi 0),(vi 0),(vu 0),ve,(vi 0),(vi 0),(vi 0),(vi 0)] 248 fun p A=>gk A p 9 [(vi b),(vi c),(vi e),(vu d),(vs a),(vi h),(vi g),(vi i),(vi f)] fun B=>jh B fun z D=>∃a3,k=ab a3/\∃x:Option Nat,(∀w',z w'->w'.cell? (a3.add 1)=ab (.map x))/\∃n r t o w y s,(∀w',z w'->Row w' p (Ab n r t o w y s))/\∃u:af,(Builtin.delete_ #[157,119] 0 #[(.map x),(Ae n r t o w y s)]).run prog D=.ok (.tuple #[]) u/\m (q6.wrap<|l+1) u) (nq j k fun C=>∃q:Sl,(Instr.sliceAt 158 C.v bo (ab<|vi n1) bo).run prog j=.ok q.v j/\∃a5,k=ab a5/\ll j a5 q.v fun E=>K E)
def KA(g:Option ao)(n1:Int)(d:af)(K:WP):Prop:=nq d g fun h=>∃s1:Sl,(Instr.sliceAt 158 h.v (ab<|vi n1) bo bo).run prog d=.ok s1.v d/\∃(e:Int->WP) (b:Int->af->Nat),e 0 d/\∀(f:Int) (a:af),e f a->Xm g n1 s1 f a (fun c w'=>e c w'/\b c w'<b f a) K
def jdv(p1 n1 w0 K)(h:KA p1 n1 w0 K):
  cl 126 #[(vp p1),(vi n1)] w0<|XG K:=
 gg func126 h<|nc 1<|ld 1<|xe<|rn 1<|wc (l:=[Int]) (v:=(_,())) 2 [0,1,11,12] (fun a=>[(13,(vi a))])<|fun {_ _ a}=>fun b=>br 0 1 (ix 1<|dh<|rW<|lr 0<|fy 0<|gj 0<|ug 0 [6] [6]<|nc 1<|km 1<|dh<|xe<|wD 1<|xe<|ef 0<|kv<|gn 2<|b _)<|nc 3<|ld 1<|xe<|rn 1<|nc 0<|kz 1<|rr 0
def Uo(c:Option ao)(g j:Int)(f l:Int)(o:ByteArray)(k e:Int)(n:af)(K:zu)(h:cq n [(vi g),(vi j),(vi f),(vu l),(vs o),(vi k),(vi e)] 119 fun r d=>Br (Option.isNone c) (K 0 ak d)<|∀a,a=d.drew->∃a1,c=ab a1/\∃i:Option Nat,a.cell? (a1.add 1)=ab (.map i)/\ov a r fun p s u q v w t=>∃m b,(Instr.lookup 157 (.map i) (.agg #[(vi p),(vi s),(vi u),(vu q),(vs v),(vi w),(vi t)]) ai).run prog a=.ok (.tuple #[(vi m),(vb b)]) a/\K m b a):
  cl 127 #[(vp c),(.agg #[(vi g),(vi j),(vi f),(vu l),(vs o),(vi k),(vi e)])] n<|XE K:=
 gg func127 h<|fy 0<|br 0 4 (rr 3)<|RH 1<|nc 1<|ld 1<|dh<|xe<|lr 0<|dd<|rn 0<|rr 9
def By(a:Option ao)(c:Int)(d:Bool)(w:af)(K:ke):Prop:=Br d (nq w a fun b=>K (decide (c<=(b.ay:Int))) w)<|K ak w
def OH(b:Option ao)(a:Int)(d:af)(K:ke)(h:Br (!(Option.isNone b)) (By b a (decide (a>=1)) d K) (By b a ak d K)):
  cl 130 #[(vp b),(vi a)] d<|XC K:=
 gg func130 h<|ct 4 3<|jc [Bool] 0 0 [0,1] (fun c=>[(10,(vb c))]) (fun c w=>By _ _ c w _) (fun e=>br 1 0 (gn 3<|e _)<|gn 3<|e _)<|fun {c}=>br 1 1 (nc 2<|ld 1<|rr 4)<|rr 9
def Xa(b:Option ao)(a:Int)(c:af)(K:bk->WP)(h:cq c [(vp b)] 91 fun e f=>cq f [(vi a)] 73 fun d g=>K (.func (.func 178) #[] #[(vp<|ab e),(vp<|ab d)]) g):
  cl 131 #[(vp b),(vi a)] c<|XI K:=
 gg func131 h<|fy 0<|fy 0<|rr 3
def O4(b:Option ao)(Q U:Int)(P Z:Int)(aE:ByteArray)(W I:Int)(w0:af)(K:jw):Prop:=cq w0 [(vi Q),(vi U),(vi P),(vu Z),(vs aE),(vi W),(vi I)] 119 fun d f=>Br (Option.isNone b) (K 0 0 f)<|ov f d fun H R V J aL aM S=>cl 180 #[(vp b),(.agg #[(vi H),(vi R),(vi V),(vu J),(vs aL),(vi aM),(vi S)])] f<|XN fun r1 r2 r3 m=>Br (r3 !=0) (K 0 r3 m)<|∀a,a=m.drew->∃a1,b=ab a1/\∃w:Option Nat,a.cell? (a1.add 1)=ab (.map w)/\ov a d fun T O aW M G bS N=>∃B c,(Instr.lookup 157 (.map w) (.agg #[(vi T),(vi O),(vi aW),(vu M),(vs G),(vi bS),(vi N)]) ai).run prog a=.ok (.tuple #[(vi B),(vb c)]) a/\Br c (K B 0 a) (nq a b fun Y=>Br (decide ((Y.ay:Int)>=65536)) (K 0 6 a)<|jh a fun e X=>∃a3,b=ab a3/\∃j:Sl,(∀w',e w'->w'.cell? a3=ab j.v)/\∃C F bK o q l r,(∀w',e w'->Row w' d (Ab C F bK o q l r))/\cq X [(vi C),(vi F),(vi bK),(vu o),(vs q),(vi l),(vi r),(vi r1),(vi r2)] 248 fun L E=>e E/\∃s1:Sl,∃g:af,(cm #[158,158] 158 #[j.v,(Sl.mk (ab L) 1 1).v]).run prog E=.ok s1.v g/\e g/\∃a4,b=ab a4/\ll g a4 s1.v fun A=>nq A b fun h=>jh A fun z w8=>∃n,b=ab n/\∃t:Option Nat,(∀w',z w'->w'.cell? (n.add 1)=ab (.map t))/\∃p x D y s i k,(∀w',z w'->Row w' d (Ab p x D y s i k))/\∃u:af,(Instr.mapUpdate 157 (.map t) (.agg #[(vi p),(vi x),(vi D),(vu y),(vs s),(vi i),(vi k)])<|vi (h.ay:Int)).run prog w8=.ok () u/\K (h.ay:Int) 0 u)
def To(p1 aA aB aC aD aE aF aG w0 K)(h:O4 p1 aA aB aC aD aE aF aG w0 K):
  cl 132 #[(vp p1),(.agg #[(vi aA),(vi aB),(vi aC),(vu aD),(vs aE),(vi aF),(vi aG)])] w0<|XK K:=
 gg func132 h<|fy 0<|br 0 4 (rr 3)<|dh<|xe<|lr 2<|cc 0 call180<|rW<|fh<|br 0 9 (rr 4)<|RH 1<|nc 1<|ld 1<|dh<|xe<|lr 0<|dd<|rn 0<|br 0 6 (rr 4)<|nc 2<|ld 1<|br 0 2 (rr 3)<|ug 1 [9,10,13] [13]<|nc 2<|km 1<|dh<|xe<|wD 0<|ql 3<|dd<|ef 0<|o9<|nc 0<|kz 1<|nc 1<|ld 1<|ug 2 [6] [6]<|nc 1<|km 1<|dh<|xe<|wD 0<|xe<|es 1<|kv<|rr 3
def UE(b:Option ao)(a:af)(K:iy)(h:Br (Option.isNone b) (K 0 a) (nq a b fun c=>K (c.ay:Int) a)):
  cl 136 #[(vp b)] a<|XB K:=
 gg func136 h<|br 0 3 (rr 2)<|nc 2<|ld 1<|rr 2
def Ww(d f:Int)(l c:Int)(g:ByteArray)(i:Sl)(j:af)(K:Pq)(h:cq j [(vi d),(vi f),(vi l),(vu c),(vs g),i.v] 71 fun b p=>cq p [(vi 0),(vi 0),(vi 0),(vu 0),ve,(vi 0),(vi 0)] 119 fun e a=>li a b fun u=>li a (b.add 1) fun z=>li a (b.add 2) fun y=>lu a (b.add 3) fun o=>ls a (b.add 4) fun m=>gk a e 7 (Ab u z y o m 0 0) fun k=>ov k e fun q r w x t s n=>K q r w x t s n k):
  cl 175 #[(.agg #[(vi d),(vi f),(vi l),(vu c),(vs g),i.v])] j<|XL K:=
 gg func175 h<|fy 0<|fy 0<|ld 1<|ld 1<|ld 1<|ld 1<|ld 1<|gj 1<|gu 0<|dh<|xe<|jq<|gw
def BI(W z L:ao)(X:Bool)(w:af)(K:zF):Prop:=Br X (sP w L fun v N G j i=>gk w z 5 (Ah v N G j i) fun S=>sP S z fun p O D q g=>K p O D q g 53 S) (lb w (L.add 3) fun Z=>Br (!Z) (ls w (W.add 4) fun Y=>Br (!(decide (Y=⟨#[]⟩))) (sP w L fun o J E e x=>gk w z 5 (Ah o J E e x) fun U=>sP U z fun k R B b c=>K k R B b c 53 U) (sP w L fun f Q C h s=>gk w z 5 (Ah f Q C h s) fun V=>sP V z fun d M F a y=>K d M F a y 0 V)) (sP w L fun r P H n t=>gk w z 5 (Ah r P H n t) fun T=>sP T z fun m I A u l=>K m I A u l 0 T))
def Eh(b c a:ao)(e d:Bool)(w:af)(K:zF):Prop:=Br e (BI b c a ai w K)<|BI b c a d w K
def CM(b c a:ao)(d:Bool)(w:af)(K:zF):Prop:=Br d (BI b c a ai w K)<|lb w (a.add 2) fun f=>Br (!f) (lu w (b.add 3) fun e=>Eh b c a d (e !=0) w K) (Eh b c a d ak w K)
def Ff(b c a:ao)(d e:Bool)(w:af)(K:zF):Prop:=Br d (CM b c a ai w K)<|CM b c a e w K
def DE(b d a:ao)(c:Bool)(w:af)(K:zF):Prop:=Br c (CM b d a ai w K)<|lb w (a.add 1) fun f=>Br (!f) (li w (b.add 2) fun e=>Ff b d a c (e !=0) w K) (Ff b d a c ak w K)
def DP(a c:ao)(r1:Bool)(b:ao)(d:Bool)(w:af)(K:zF):Prop:=Br (!r1) (DE a c b ai w K)<|DE a c b d w K
def Np(q s:Int)(p v:Int)(o:ByteArray)(t m:Int)(w:af)(K:zF):Prop:=cq w [(vi q),(vi s),(vi p),(vu v),(vs o),(vi t),(vi m)] 119 fun e l=>cq l [(vb ak),(vb ak),(vb ak),(vb ak),(vi 0)] 263 fun i j=>li j e fun r=>cl 265 #[(vi r)] j<|XO fun a g d c b r1 x=>cq x [(vb ak),(vb ak),(vb ak),(vb ak),(vi 0)] 263 fun f u=>gk u f 5 (Ah a g d c b) fun h=>Br (!r1) (DE e i f ai h K)<|lb h f fun k=>Br (!k) (li h (e.add 1) fun n=>DP e i r1 f (n !=0) h K) (DP e i r1 f ak h K)
def w_D(aA aB aC aD aE aF aG w0 K)(h:Np aA aB aC aD aE aF aG w0 K):
  cl 176 #[(.agg #[(vi aA),(vi aB),(vi aC),(vu aD),(vs aE),(vi aF),(vi aG)])] w0<|XM K:=
 gg func176 h<|fy 0<|fy 0<|ld 2<|cc 0 call265<|dh<|fh<|fy 3<|gj 0<|ct 4 9<|jc [Bool] 0 0 [1,2,4] (fun b=>[(23,(vb b))]) (fun b w=>DE _ _ _ b w _) (fun j=>br 1 0 (gn 9<|j _)<|ld 1<|ct 2 4<|jc [Bool] 0 0 [1,2,4,14] (fun c=>[(22,(vb c))]) (fun c w=>DP _ _ _ _ c w _) (fun k=>br 1 0 (ld 1<|gn 2<|k _)<|gn 4<|k _)<|fun {c}=>br 2 0 (gn 1<|j _)<|gn 1<|j _)<|fun {b}=>ct 1 9<|jc [Bool] 0 0 [1,2,4] (fun d=>[(33,(vb d))]) (fun d w=>CM _ _ _ d w _) (fun g=>br 1 0 (gn 9<|g _)<|ld 1<|ct 2 4<|jc [Bool] 0 0 [1,2,4,24] (fun e=>[(32,(vb e))]) (fun e w=>Ff _ _ _ _ e w _) (fun m=>br 1 0 (ld 1<|gn 2<|m _)<|gn 4<|m _)<|fun {e}=>br 2 0 (gn 1<|g _)<|gn 1<|g _)<|fun {d}=>ct 1 9<|jc [Bool] 0 0 [1,2,4] (fun f=>[(43,(vb f))]) (fun f w=>BI _ _ _ f w _) (fun i=>br 1 0 (gn 9<|i _)<|ld 1<|ct 2 4<|jc [Bool] 0 0 [1,2,4,34] (fun a=>[(42,(vb a))]) (fun a w=>Eh _ _ _ _ a w _) (fun l=>br 1 0 (ld 1<|gn 2<|l _)<|gn 4<|l _)<|fun {a}=>br 2 0 (gn 1<|i _)<|gn 1<|i _)<|fun {f}=>br 1 1 (ia<|lr 10<|gj 0<|gu 1<|ia<|jq<|gw)<|ld 1<|br 1 2 (ld 1<|br 0 3 (ia<|lr 1<|gj 0<|gu 1<|ia<|jq<|gw)<|ia<|lr 1<|gj 0<|gu 1<|ia<|jq<|gw)<|ia<|lr 6<|gj 0<|gu 1<|ia<|jq<|gw
def Gp(e b:ao)(g:Bool)(w:af)(K:iy):Prop:=Br g (K 50 w)<|lb w (e.add 1) fun f=>Br f (li w (b.add 2) fun h=>cl 266 #[(vi h)] w<|XC fun r1 a=>Br (!r1) (K 50 a)<|li a (b.add 2) fun c=>li a (b.add 1) fun i=>Br (c==i) (K 50 a)<|ls a (b.add 4) fun d=>Br (decide ((d.size:Int)>64)) (K 1 a)<|K 0 a) (ls w (b.add 4) fun j=>Br (decide ((j.size:Int)>64)) (K 1 w)<|K 0 w)
def UZ(a e:Bool)(d b:Bool)(c n:Int)(o m q:Int)(s:ByteArray)(p l:Int)(r:af)(K:iy)(h:cq r [(vb a),(vb e),(vb d),(vb b),(vi c)] 263 fun i u=>cq u [(vi n),(vi o),(vi m),(vu q),(vs s),(vi p),(vi l)] 119 fun j g=>lb g i fun x=>Br x (li g (j.add 1) fun t=>cl 266 #[(vi t)] g<|XC fun r2 v=>Gp i j (!r2) v K) (Gp i j ak g K)):
  cl 177 #[(.agg #[(vb a),(vb e),(vb d),(vb b),(vi c)]),(.agg #[(vi n),(vi o),(vi m),(vu q),(vs s),(vi p),(vi l)])] r<|XB K:=
 gg func177 h<|fy 0<|fy 0<|jc [Bool] 1 0 [2,3] (fun f=>[(5,(vb f))]) (fun f w=>Gp _ _ f w _) (fun k=>ld 1<|br 1 1 (ld 1<|cc 0 call266<|xe<|fh<|gn 3<|k _)<|gn 6<|k _)<|fun {f}=>br 0 0 (rr 3)<|ld 2<|br 1 1 (ld 1<|cc 0 call266<|xe<|fh<|br 1 2 (rr 10)<|ld 1<|ld 1<|br 0 4 (rr 2)<|ld 2<|br 0 3 (rr 2)<|rr 2)<|ld 15<|br 0 3 (rr 2)<|rr 2
def VE(j:Option ao)(e:Int)(q:af)(K:iu)(h:cq q [(vp j)] 91 fun l t=>cq t [Sl.nil.v] 46 fun f u=>∀n r,fp u (.map #[] 0) n r->cq r [(.map bo)] 231 fun k z=>ll z k (.map<|ab n.block) fun B=>cq B [(.nilFunc:bk)] 192 fun i x=>ll x i (.func (.func 267) #[] #[(vp<|ab k),(vp<|ab l),(vp<|ab i),(vp<|ab f)]) fun o=>lp o l fun y=>cl 130 #[(vp y),(vi e)] o<|XC fun r1 d=>Br r1 (∃p:bk,d.cell? i=ab p/\∃(c:FuncId) (a b:Array bk),p=.func (.func c) a b/\(∀args w,(callFunc c args).run prog w=.ok (.enter c args) w)/\Calls prog c (a++#[(vi e)]++b) d (XG fun m=>lx m f fun A=>K A m))<|lx d f fun s=>K s d):
  cl 179 #[(vp j),(vi e)] q<|XA K:=
 gg func179 h<|fy 0<|fy 1<|fy 0<|fy 0<|kz 0<|fy 0<|kz 1<|ld 0<|cc 1 call130<|xe<|fh<|br 0 0 (ld 1<|fo<|fun g=>cv 1 g<|rt<|kv<|ld 0<|rr 1)<|ld 1<|rr 1
def Sf(d:Option ao)(s1:Sl)(b a f:Int)(c:af)(h:uo)(K:uo):Prop:=Br (decide (f<(s1.ay:Int))) (∃a1:ao,At s1 f 1 a1/\li c a1 fun g=>cl 130 #[(vp d),(vi g)] c<|XC fun r2 i=>Br (!r2) (K 0 0 51 i)<|cl 269 #[(vp d),(vi g)] i<|XB fun r3 k=>cl 270 #[(vp d),(vi g)] k<|XB fun l e=>∃j,(Builtin.max_ #[3,3] 3 #[(vi a),(vi l)]).run prog e=.ok (vi j) e/\h (q6.wrap<|b+r3) j (q6.wrap<|f+1) e) (Br (decide (b>4096)) (K 0 0 52 c)<|Br (decide ((q6.wrap<|a+1)>64)) (K 0 0 52 c)<|K b (q6.wrap<|a+1) 0 c)
def FO(p:Option ao)(l m:ao)(k:Int)(w:af)(K:uo):Prop:=Br (k !=0) (K 0 0 k w)<|li w (l.add 5) fun q=>li w (l.add 6) fun r=>cq w [(vi q),(vi r)] 73 fun o h=>li h (m.add 4) fun n=>∃s1:Sl,(Instr.sliceAt 46 (Sl.mk (ab o) 2 2).v bo (ab<|vi n) bo).run prog h=.ok s1.v h/\∃(i:Int->Int->Int->WP) (f:Int->Int->Int->af->Nat),i 1 0 0 h/\∀(b a j:Int) (c:af),i b a j c->Sf p s1 b a j c (fun g d e w'=>i g d e w'/\f g d e w'<f b a j c) K
def uw(h:Option ao)(g f:ao)(i:Int)(w:af)(K:uo):Prop:=Br (i==0) (sP w f fun c e d b a=>ov w g fun q p o l j r n=>cl 177 #[(.agg #[(vb c),(vb e),(vb d),(vb b),(vi a)]),(.agg #[(vi q),(vi p),(vi o),(vu l),(vs j),(vi r),(vi n)])] w<|XB fun m k=>FO h g f m k K) (FO h g f i w K)
def Fi(b:Option ao)(c:ao)(r1:Int)(a:ao)(d e:Bool)(w:af)(K:uo):Prop:=Br (r1==0) (Br d (uw b c a 53 w K)<|Br e (uw b c a 53 w K)<|uw b c a r1 w K)<|uw b c a r1 w K
def FH(c:Option ao)(b:ao)(r1:Int)(a:ao)(d:Bool)(w:af)(K:uo):Prop:=Br (r1==0) (Br d (uw c b a 53 w K)<|li w (a.add 4) fun f=>Br (decide (f<2)) (li w (b.add 6) fun e=>Fi c b r1 a d (e !=0) w K) (Fi c b r1 a d ak w K)) (uw c b a r1 w K)
def Lj(i:Option ao)(r v:Int)(q x:Int)(C:ByteArray)(w o:Int)(z:af)(K:uo):Prop:=cq z [(vi r),(vi v),(vi q),(vu x),(vs C),(vi w),(vi o)] 119 fun f j=>ov j f fun m s u p y A t=>cl 176 #[(.agg #[(vi m),(vi s),(vi u),(vu p),(vs y),(vi A),(vi t)])] j<|XM fun a g d c b r1 n=>cq n [(vb ak),(vb ak),(vb ak),(vb ak),(vi 0)] 263 fun e B=>gk B e 5 (Ah a g d c b) fun h=>Br (r1==0) (li h (e.add 4) fun k=>Br (decide (k<1)) (li h (f.add 5) fun l=>FH i f r1 e (l !=0) h K) (FH i f r1 e ak h K)) (uw i f e r1 h K)
def w_E(p1 aA aB aC aD aE aF aG w0 K)(h:Lj p1 aA aB aC aD aE aF aG w0 K):
  cl 180 #[(vp p1),(.agg #[(vi aA),(vi aB),(vi aC),(vu aD),(vs aE),(vi aF),(vi aG)])] w0<|XN K:=
 gg func180 h<|fy 0<|dh<|xe<|lr 3<|cc 0 call176<|dh<|fh<|fy 3<|gj 0<|jc [Int] 1 1 [0,3,7] (fun e=>[(8,(vi e))]) (fun e w=>uw _ _ _ e w _) (fun c=>br 1 3 (ld 1<|ct 2 4<|jc [Bool] 0 0 [0,3,7,8,20] (fun f=>[(28,(vb f))]) (fun f w=>FH _ _ _ _ f w _) (fun k=>br 1 0 (ld 1<|gn 2<|k _)<|gn 4<|k _)<|fun {f}=>br 1 0 (br 1 1 (gn 12<|c _)<|ld 1<|ct 2 4<|jc [Bool] 0 0 [0,3,7,8,20,29] (fun g=>[(37,(vb g))]) (fun g w=>Fi _ _ _ _ _ g w _) (fun m=>br 1 0 (ld 1<|gn 2<|m _)<|gn 4<|m _)<|fun {g}=>br 1 0 (br 2 0 (gn 4<|c _)<|br 0 2 (gn 2<|c _)<|gn 1<|c _)<|gn 3<|c _)<|gn 12<|c _)<|gn 20<|c _)<|fun {e}=>jc [Int] 0 1 [0,3,7] (fun d=>[(8,(vi d))]) (fun d w=>FO _ _ _ d w _) (fun i=>br 0 2 (ia<|lr 1<|dh<|xe<|lr 0<|cc 0 call177<|xe<|fh<|gn 1<|i _)<|gn 1<|i _)<|fun {d}=>br 0 2 (rr 5)<|ld 4<|ld 1<|fy 0<|ld 1<|xe<|rn 0<|wc (l:=[Int,Int,Int]) (v:=(_,_,_,())) 2 [0,55,56] (fun b a j=>[(9,(vi b)),(10,(vi a)),(57,(vi j))])<|fun {_ _ b a j}=>fun n=>br 0 1 (ix 1<|ld 0<|cc 3 call130<|xe<|fh<|br 0 1 (rr 4)<|cc 4 call269<|xe<|fh<|cc 5 call270<|xe<|fh<|xe<|rn 0<|gn 3<|n _ _ _)<|br 1 7 (rr 7)<|br 0 3 (rr 4)<|rr 6
def Y6(a:Option ao)(n1:Int)(b:af)(K:jw)(h:cl 132 #[(vp a),(.agg #[(vi 1),(vi n1),(vi 0),(vu 0),ve,(vi 0),(vi 0)])] b (XK K)):
  cl 225 #[(vp a),(vi n1)] b<|XK K:=
 gg func225 h<|cc 5 call132<|dd<|fh<|rr 4
def jcB(a:Option ao)(n1:Int)(b:af)(K:jw)(h:cl 132 #[(vp a),(.agg #[(vi 2),(vi 0),(vi 0),(vu n1),ve,(vi 0),(vi 0)])] b (XK K)):
  cl 227 #[(vp a),(vu n1)] b<|XK K:=
 gg func227 h<|cc 5 call132<|dd<|fh<|rr 4
def jdp(a:Option ao)(s1:ByteArray)(b:af)(K:jw)(h:cl 132 #[(vp a),(.agg #[(vi 3),(vi 0),(vi 0),(vu 0),(vs s1),(vi 0),(vi 0)])] b (XK K)):
  cl 229 #[(vp a),(vs s1)] b<|XK K:=
 gg func229 h<|cc 5 call132<|dd<|fh<|rr 4
def jas(a:Option ao)(a1 b1:Int)(b:af)(K:jw)(h:cl 132 #[(vp a),(.agg #[(vi 4),(vi 0),(vi 0),(vu 0),ve,(vi a1),(vi b1)])] b (XK K)):
  cl 232 #[(vp a),(vi a1),(vi b1)] b<|XK K:=
 gg func232 h<|cc 6 call132<|dd<|fh<|rr 4
def jcV(a:Option ao)(a1:Int)(b:af)(K:jw)(h:cl 132 #[(vp a),(.agg #[(vi 5),(vi 0),(vi 0),(vu 0),ve,(vi a1),(vi 0)])] b (XK K)):
  cl 234 #[(vp a),(vi a1)] b<|XK K:=
 gg func234 h<|cc 5 call132<|dd<|fh<|rr 4
def Y2(a:Option ao)(n1 a1:Int)(b:af)(K:jw)(h:cl 132 #[(vp a),(.agg #[(vi 7),(vi n1),(vi 0),(vu 0),ve,(vi a1),(vi 0)])] b (XK K)):
  cl 241 #[(vp a),(vi n1),(vi a1)] b<|XK K:=
 gg func241 h<|cc 6 call132<|dd<|fh<|rr 4
def jaq(c:Option ao)(a b a1:Int)(d:af)(K:jw)(h:cl 132 #[(vp c),(.agg #[(vi 8),(vi a),(vi b),(vu 0),ve,(vi a1),(vi 0)])] d (XK K)):
  cl 244 #[(vp c),(vi a),(vi b),(vi a1)] d<|XK K:=
 gg func244 h<|cc 7 call132<|dd<|fh<|rr 4
def ZA(c:Option ao)(a b a1:Int)(d:af)(K:jw)(h:cl 132 #[(vp c),(.agg #[(vi 9),(vi a),(vi b),(vu 0),ve,(vi a1),(vi 0)])] d (XK K)):
  cl 248 #[(vp c),(vi a),(vi b),(vi a1)] d<|XK K:=
 gg func248 h<|cc 7 call132<|dd<|fh<|rr 4
def Y3(a:Int)(B:af)(K:Bool->Bool->Bool->Bool->Int->Bool->WP)(h:cq B [(vb ak),(vb ak),(vb ak),(vb ak),(vi 0)] 263 fun u y=>Br (decide (a<1)) (gk y u 5 (Ah ak ak ak ak 0) fun A=>sP A u fun n w s o l=>K n w s o l ak A) (Br (decide (a>9)) (gk y u 5 (Ah ak ak ak ak 0) fun C=>sP C u fun m x r i j=>K m x r i j ak C) (cl 294 #[] y fun e z=>∃r1:Array bk,e=.returned (.agg r1)/\∃b q f d c,(Instr.index 335 (.agg r1)<|vi a).run prog z=.ok (.agg #[(vb b),(vb q),(vb f),(vb d),(vi c)]) z/\gk z u 5 (Ah b q f d c) fun D=>sP D u fun k v t g p=>K k v t g p ai D))):
  cl 265 #[(vi a)] B<|XO K:=
 gg func265 h<|fy 0<|br 1 4 (gj 5<|gu 1<|ia<|jq<|gw)<|br 0 3 (gj 2<|gu 1<|ia<|jq<|gw)<|cc 1 call294<|xe<|fh<|ia<|rn 1<|gj 0<|gu 1<|ia<|jq<|gw
def YO(n1:Int)(a:af)(K:ke)(h:Br (decide (n1>=0)) (K (decide (n1<16)) a) (K ak a)):
  cl 266 #[(vi n1)] a<|XC K:=
 gg func266 h<|br 1 4 (rr 4)<|rr 4
def K3(m:Int)(d b:ao)(r1:Sl)(g:Int)(a:af)(h:iy)(K:WP):Prop:=Br (decide (g<(r1.ay:Int))) (∃a1:ao,At r1 g 1 a1/\li a a1 fun q=>∃i:bk,a.cell? d=ab i/\∃(f:FuncId) (c e:Array bk),i=.func (.func f) c e/\(∀args w,(callFunc f args).run prog w=.ok (.enter f args) w)/\Calls prog f (c++#[(vi q)]++e) a (XG fun p=>h (q6.wrap<|g+1) p))<|lx a b fun l=>cq a [(vi m)] 73 fun n k=>∃s1:Sl,∃j:af,(cm #[46,46] 46 #[l.v,(Sl.mk (ab n) 1 1).v]).run prog k=.ok s1.v j/\ll j b s1.v fun o=>K o
def KV(d:Int)(a g:ao)(h f:ao)(b:af)(K:WP):Prop:=∃n:Option Nat,b.cell? a=ab (.map n)/\∃o,(Instr.lookup 231 (.map n) (vi d) ak).run prog b=.ok (vi o) b/\Br (decide (o>0)) (K b) (∃k:Option Nat,b.cell? a=ab (.map k)/\∃p,(Instr.lookup 231 (.map k) (vi d) ak).run prog b=.ok (vi p) b/\∃m:af,(Instr.mapUpdate 231 (.map k) (vi d)<|vi<|q6.wrap<|p+1).run prog b=.ok () m/\lp m g fun q=>cl 268 #[(vp q),(vi d)] m<|XA fun r1 r=>∃(j:Int->WP) (e:Int->af->Nat),j 0 r/\∀(l:Int) (c:af),j l c->K3 d h f r1 l c (fun i w'=>j i w'/\e i w'<e l c) K)
def jdg(t1 cap1 cap2 cap3 cap4 w0 K)(h:KV t1 cap1 cap2 cap3 cap4 w0 K):
  cl 267 #[(vi t1),(vp<|ab cap1),(vp<|ab cap2),(vp<|ab cap3),(vp<|ab cap4)] w0<|XG K:=
 gg func267 h<|ld 0<|xe<|rn 1<|br 0 1 (rr 1)<|ld 1<|xe<|rn 1<|xe<|es 1<|kv<|ld 0<|cc 1 call268<|xe<|fh<|wc (l:=[Int]) (v:=(_,())) 2 [0,3,4,18,19] (fun b=>[(20,(vi b))])<|fun {_ _ b}=>fun c=>br 0 1 (ix 1<|ld 0<|ld 1<|fo<|fun a=>cv 1 a<|rt<|kv<|gn 2<|c _)<|ld 1<|fy 1<|dd<|ef 0<|kv<|kz 0<|rr 0
def jcc(k:Option ao)(j:Int)(m:af)(K:iu)(h:cl 109 #[(vp k),(vi j)] m (XH fun E s w r u y t r1 p=>cq p [(vi 0),(vi 0),(vi 0),(vu 0),ve,(vi 0),(vi 0)] 119 fun f q=>gk q f 7 (Ab E s w r u y t) fun n=>li n f fun x=>cl 265 #[(vi x)] n<|XO fun a e d c b r2 z=>cq z [(vb ak),(vb ak),(vb ak),(vb ak),(vi 0)] 263 fun l D=>gk D l 5 (Ah a e d c b) fun i=>li i (f.add 5) fun C=>li i (f.add 6) fun A=>cq i [(vi C),(vi A)] 73 fun B g=>li g (l.add 4) fun o=>∃s1:Sl,(Instr.sliceAt 46 (Sl.mk (ab B) 2 2).v bo (ab<|vi o) bo).run prog g=.ok s1.v g/\K s1 g)):
  cl 268 #[(vp k),(vi j)] m<|XA K:=
 gg func268 h<|cc 3 call109<|dh<|dd<|fh<|fy 3<|gj 0<|ld 2<|cc 0 call265<|dh<|fh<|fy 3<|gj 0<|ld 2<|ld 1<|fy 0<|ld 1<|xe<|rn 0<|rr 1
def Y8(c:Option ao)(b:Int)(d:af)(K:iy)(h:cl 130 #[(vp c),(vi b)] d (XC fun r1 a=>Br (!r1) (K 0 a)<|nq a c fun e=>∃a2:ao,At e (q6.wrap<|b - 1) 9 a2/\li a (a2.add 7) fun f=>K f a)):
  cl 269 #[(vp c),(vi b)] d<|XB K:=
 gg func269 h<|cc 3 call130<|xe<|fh<|br 0 1 (rr 2)<|nc 2<|ld 1<|ix 2<|ld 1<|rr 1
def WQ(c:Option ao)(b:Int)(d:af)(K:iy)(h:cl 130 #[(vp c),(vi b)] d (XC fun r1 a=>Br (!r1) (K 0 a)<|nq a c fun e=>∃a2:ao,At e (q6.wrap<|b - 1) 9 a2/\li a (a2.add 8) fun f=>K f a)):
  cl 270 #[(vp c),(vi b)] d<|XB K:=
 gg func270 h<|cc 3 call130<|xe<|fh<|br 0 1 (rr 2)<|nc 2<|ld 1<|ix 2<|ld 1<|rr 1
def ZJ(d:af)(K:FW):Prop:=cq d [(vb ak),(vb ak),(vb ak),(vb ak),(vi 0),(vb ak),(vb ak),(vb ak),(vb ak),(vi 0),(vb ak),(vb ak),(vb ak),(vb ak),(vi 0),(vb ak),(vb ak),(vb ak),(vb ak),(vi 0),(vb ak),(vb ak),(vb ak),(vb ak),(vi 0),(vb ak),(vb ak),(vb ak),(vb ak),(vi 0),(vb ak),(vb ak),(vb ak),(vb ak),(vi 0),(vb ak),(vb ak),(vb ak),(vb ak),(vi 0),(vb ak),(vb ak),(vb ak),(vb ak),(vi 0),(vb ak),(vb ak),(vb ak),(vb ak),(vi 0)] 335 fun b e=>gk e b 50 (Ak ak ak ak ak 0 ai ak ak ak 0 ak ak ai ak 0 ak ak ak ai 0 ak ak ak ak 2 ak ak ak ak 1 ai ak ak ak 0 ai ak ak ak 1 ai ai ak ak 1 ai ai ak ak 1) fun c=>∃a:Array bk,(a.size=50/\Row c b a.toList)/\K a c
def jba(a:af)(K:FW)(h:ZJ  a K):
  cl 294 #[] a<|fun e w'=>∃r1:Array bk,e=.returned (.agg r1)/\K r1 w':=
 gg func294 h<|fy 0<|gj 10<|gu 0<|xe<|Sd<|gw
structure gP where
 ba:Int
 cj:Int
 to:Int
 num:Int
 cf:ByteArray
 a:Int
 b:Int
deriving DecidableEq
structure y6 where
 cj:Bool
 to:Bool
 num:Bool
 cf:Bool
 fw:Int
deriving DecidableEq
def wy:y6:=⟨ak,ak,ak,ak,0⟩
def fl(k:Int):y6:=
 if k=1 then⟨ai,ak,ak,ak,0⟩else if k=2 then⟨ak,ak,ai,ak,0⟩else if k=3 then⟨ak,ak,ak,ai,0⟩
 else if k=4 then⟨ak,ak,ak,ak,2⟩else if k=5 then⟨ak,ak,ak,ak,1⟩else if k=6 then⟨ai,ak,ak,ak,0⟩
 else if k=7 then⟨ai,ak,ak,ak,1⟩else if k=8 then⟨ai,ai,ak,ak,1⟩else if k=9 then⟨ai,ai,ak,ak,1⟩else wy
def qe(k:Int):Bool:=decide (1<=k)&&decide (k<=9)
def sr(n:Int):Bool:=decide (0<=n)&&decide (n<16)
def zM(n:gP):Int:=
 let s:=fl n.ba
 if !qe n.ba ||(!s.cj&&n.cj !=0) ||(!s.to&&n.to !=0) ||(!s.num&&n.num !=0) ||(!s.cf&&!decide (n.cf=⟨#[]⟩))then 53 else 0
def zO(s:y6)(n:gP):Int:=
 if(s.cj&&!sr n.cj) ||(s.to&&(!sr n.to ||n.to==n.cj))then 50 else if n.cf.size>64 then 1 else 0
def Qz(n w):cl 266 #[vi n] w (XC fun r w'=>r=sr n/\w'=w):=by
 refine YO n w (fun r w'=>r=sr n/\w'=w) ?_;refine⟨fun h=>⟨?_,rfl⟩,fun h=>⟨?_,rfl⟩⟩;have:0<=n:=by simpa using h
 simp[sr,this];have:¬0<=n:=by simpa using h
 simp[sr,this]
def Sk(s1 s2 s3 s4 s5 k f t u x a b w):
  cl 177 #[.agg #[vb s1,vb s2,vb s3,vb s4,vi s5],.agg #[vi k,vi f,vi t,vu u,vs x,vi a,vi b]] w
   (XB fun r w'=>r=zO ⟨s1,s2,s3,s4,s5⟩ ⟨k,f,t,u,x,a,b⟩/\aq w w'):=by
 refine UZ _ _ _ _ _ _ _ _ _ _ _ _ w _ ?_
 intro j m h1 l i h2
 have b1:=(az.fi h1).pure<|aj.bu h2
 have b2:=az.fi h2
 have E:aq w i:=(aj.bu h1).trans<|aj.bu h2
 have J:∀c,c=(s1&&!sr f)->Gp j l c i (fun r w'=>r=zO ⟨s1,s2,s3,s4,s5⟩ ⟨k,f,t,u,x,a,b⟩/\aq w w'):=by
  intro c e;refine⟨fun h=>⟨?_,E⟩,fun h=>⟨_,b1.cell rfl,fun d=>⟨_,b2.cell rfl,?_⟩,fun d=>⟨_,b2.cell rfl,fun h3=>⟨?_,E⟩,fun h3=>⟨?_,E⟩⟩⟩⟩;rw[e]at h;simp[zO,h];refine(Qz _ _).mono ?_;rintro _ _ ⟨r,rfl,rfl,rfl⟩;rw[e]at h;refine⟨_,rfl,fun h2=>⟨?_,E⟩,fun h2=>⟨_,b2.cell rfl,_,b2.cell rfl,fun h3=>⟨?_,E⟩,fun h3=>⟨_,b2.cell rfl,fun g=>⟨?_,E⟩,fun g=>⟨?_,E⟩⟩⟩⟩;simp[zO,d,h2];simp[zO,d,h3];simp only[zO,h,d,h3];simp at h2 g;simp[h2];omega;simp only[zO,h,d,h3];simp at h2 g;simp[h2];omega;rw[e]at h;simp only[zO,h,d];simp at h3;simp;omega;rw[e]at h;simp only[zO,h,d];simp at h3;simp;omega
 refine⟨_,b1.dj,fun h=>⟨_,b2.cell rfl,?_⟩,fun h=>J _ Uc⟩
 refine(Qz _ _).mono ?_
 rintro _ _ ⟨r,rfl,rfl,rfl⟩
 exact⟨_,rfl,J _ Uc⟩
def Ip:Array bk:=#[vb ak,vb ak,vb ak,vb ak,vi 0,vb ai,vb ak,vb ak,vb ak,vi 0,vb ak,vb ak,vb ai,vb ak,vi 0,vb ak,vb ak,vb ak,vb ai,vi 0,vb ak,vb ak,vb ak,vb ak,vi 2,vb ak,vb ak,vb ak,vb ak,vi 1,vb ai,vb ak,vb ak,vb ak,vi 0,vb ai,vb ak,vb ak,vb ak,vi 1,vb ai,vb ai,vb ak,vb ak,vi 1,vb ai,vb ai,vb ak,vb ak,vi 1]
def V3(w):cl 294 #[] w (fun e w'=>∃r,e=.returned (.agg r)/\(r=Ip/\aq w w')):=by
 refine jba w (fun r w'=>r=Ip/\aq w w') ?_;intro f d h1;have c:aq w d:=aj.bu h1;have a:=fp.bf (aj.refl w) h1;have b1:=az.j0 h1;clear h1;refine bx 50 b1 Kf Kf fun w' b E=>?_;refine⟨Ip,⟨Kf,b.QX Kf⟩,rfl,c.bf a E⟩
def Ns(k w):cl 265 #[vi k] w (XO fun r1 r2 r3 f d r w'=>((⟨r1,r2,r3,f,d⟩:y6)=fl k/\r=qe k)/\aq w w'):=by
 refine Y3 k w (fun r1 r2 r3 f d r w'=>((⟨r1,r2,r3,f,d⟩:y6)=fl k/\r=qe k)/\aq w w') ?_;intro m j h1;have e:aq w j:=aj.bu h1;have b1:=az.fi h1;have a:=fp.bf (aj.refl w) h1;refine⟨fun h=>bx 5 b1 rfl rfl fun w' b E=>⟨_,_,_,_,_,b.row,⟨?_,?_⟩,e.bf a E⟩,fun h=>⟨fun h2=>bx 5 b1 rfl rfl fun w' b E=>⟨_,_,_,_,_,b.row,⟨?_,?_⟩,e.bf a E⟩,fun h2=>?_⟩⟩
 .have:k<1:=by simpa using h
  simp only[fl,wy];repeat rw[aw Om]
 .have:k<1:=by simpa using h
  simp[qe];omega
 .have:9<k:=by simpa using h2
  simp only[fl,wy];repeat rw[aw Om]
 .have:9<k:=by simpa using h2
  simp[qe];omega
 .have h3:¬k<1:=by simpa using h
  have n:¬9<k:=Uc;refine(V3 _).mono ?_;rintro _ l ⟨_,rfl,rfl,g⟩;refine⟨_,rfl,?_⟩;have b4:=b1.pure g;have c:=e.trans g;have i:k=1\/k=2\/k=3\/k=4\/k=5\/k=6\/k=7\/k=8\/k=9:=Om;rcases i with rfl|rfl|rfl|rfl|rfl|rfl|rfl|rfl|rfl
  .exact⟨ai,ak,ak,ak,0,Kf,bx 5 b4 rfl rfl fun w' b E=>⟨_,_,_,_,_,b.row,⟨De,De⟩,c.bf a E⟩⟩
  .exact⟨ak,ak,ai,ak,0,Kf,bx 5 b4 rfl rfl fun w' b E=>⟨_,_,_,_,_,b.row,⟨De,De⟩,c.bf a E⟩⟩
  .exact⟨ak,ak,ak,ai,0,Kf,bx 5 b4 rfl rfl fun w' b E=>⟨_,_,_,_,_,b.row,⟨De,De⟩,c.bf a E⟩⟩
  .exact⟨ak,ak,ak,ak,2,Kf,bx 5 b4 rfl rfl fun w' b E=>⟨_,_,_,_,_,b.row,⟨De,De⟩,c.bf a E⟩⟩
  .exact⟨ak,ak,ak,ak,1,Kf,bx 5 b4 rfl rfl fun w' b E=>⟨_,_,_,_,_,b.row,⟨De,De⟩,c.bf a E⟩⟩
  .exact⟨ai,ak,ak,ak,0,Kf,bx 5 b4 rfl rfl fun w' b E=>⟨_,_,_,_,_,b.row,⟨De,De⟩,c.bf a E⟩⟩
  .exact⟨ai,ak,ak,ak,1,Kf,bx 5 b4 rfl rfl fun w' b E=>⟨_,_,_,_,_,b.row,⟨De,De⟩,c.bf a E⟩⟩
  .exact⟨ai,ai,ak,ak,1,Kf,bx 5 b4 rfl rfl fun w' b E=>⟨_,_,_,_,_,b.row,⟨De,De⟩,c.bf a E⟩⟩
  .exact⟨ai,ai,ak,ak,1,Kf,bx 5 b4 rfl rfl fun w' b E=>⟨_,_,_,_,_,b.row,⟨De,De⟩,c.bf a E⟩⟩
def Qt(k f t u x a b w):
  cl 176 #[.agg #[vi k,vi f,vi t,vu u,vs x,vi a,vi b]] w
   (XM fun r1 r2 r3 D F r w'=>((⟨r1,r2,r3,D,F⟩:y6)=fl k/\r=zM ⟨k,f,t,u,x,a,b⟩)/\aq w w'):=by
 suffices key:∀K,(∀r1 r2 r3 D F r w',((⟨r1,r2,r3,D,F⟩:y6)=fl k/\r=zM ⟨k,f,t,u,x,a,b⟩)/\aq w w'->K r1 r2 r3 D F r w')->Np k f t u x a b w K from
  w_D _ _ _ _ _ _ _ w _<|key _ fun _ _ _ _ _ _ _ h=>h
 intro K Z
 intro p w1 h1 m w2 h2
 have a1:=(az.fi h1).pure<|aj.bu h2
 have a2:=az.fi h2
 have H:aq w w2:=(aj.bu h1).trans<|aj.bu h2
 have o2:=fp.bf (aj.bu h1:aq w w1) h2
 have n12:=fp.ne h2 (az.fi h1).bg
 refine⟨_,a1.dj,?_⟩
 refine(Ns _ _).mono ?_
 rintro _ w3 ⟨s1,y,z,R,X,ok,rfl,⟨hs,l⟩,o⟩
 refine⟨_,_,_,_,_,_,rfl,?_⟩
 intro q w4 h3
 have S:=(H.trans o).trans<|aj.bu h3
 have o3:=fp.bf (H.trans o) h3
 have N:=fp.ne h3 (a1.pure o).bg
 have I:=fp.ne h3 (a2.pure o).bg
 refine bx 5 (az.fi h3) rfl rfl fun n b3 E=>?_
 have b1:=((a1.pure o).pure<|aj.bu h3).ext E N
 have b2:=((a2.pure o).pure<|aj.bu h3).ext E I
 have E5:=S.bf o3 E
 clear E S o H a1 a2 h1 h2 h3
 have i : ∀v, v = zM ⟨k, f, t, u, x, a, b⟩ -> (∀ j, j < 5 -> zJ n (m.add j)) /\ ∀ w', w' = ib n m [vb s1, vb y, vb z, vb R, vi X] ->
   ∃P,∃q2,∃W,∃Q,∃T,Row w' m [vb P,vb q2,vb W,vb Q,vi T]/\K P q2 W Q T v w':=fun v hv =>
  bx 5 b2 rfl rfl fun w' b E=>⟨_,_,_,_,_,b.row,Z _ _ _ _ _ _ _ ⟨⟨hs,hv⟩,E5.bf o2 E⟩⟩
 obtain⟨A,C,B,G,e5⟩:s1=(fl k).cj/\y=(fl k).to/\z=(fl k).num/\R=(fl k).cf/\X=(fl k).fw:=Uc
 have L:∀c,c=(!ok ||(!s1&&f !=0) ||(!y&&t !=0) ||(!z&&u !=0))->BI p m q c n K:=by
  intro c g;refine⟨fun h=>⟨_,_,_,_,_,b3.row,i _ ?_⟩,fun h=>⟨_,b3.cell rfl,fun e=>⟨_,b1.cell rfl,fun s=>⟨_,_,_,_,_,b3.row,i _ ?_⟩,fun s=>⟨_,_,_,_,_,b3.row,i _ ?_⟩⟩,fun e=>⟨_,_,_,_,_,b3.row,i _ ?_⟩⟩⟩;rw[h]at g;simp only[zM,<-A,<-C,<-B,<-G,<-l,<-g];simp;rw[h]at g;simp only[zM,<-A,<-C,<-B,<-G,<-l,<-g];simp at e s;simp[e,s];rw[h]at g;simp only[zM,<-A,<-C,<-B,<-G,<-l,<-g];simp at e s;simp[e,s];rw[h]at g;simp only[zM,<-A,<-C,<-B,<-G,<-l,<-g];simp at e;simp[e]
 have M:∀c,c=(!ok ||(!s1&&f !=0) ||(!y&&t !=0))->CM p m q c n K:=by
  intro c g;have Y:∀d,d=(!z&&u !=0)->Eh p m q c d n K:=fun d U=>⟨fun h=>L _ Uc,fun h=>L _ Uc⟩;exact⟨fun h=>L _ Uc,fun h=>⟨_,b3.cell rfl,fun e=>⟨_,b1.cell rfl,Y _ Uc⟩,fun e=>Y _ Uc⟩⟩
 have J:∀c,c=(!ok ||(!s1&&f !=0))->DE p m q c n K:=by
  intro c g;have O:∀d,d=(!y&&t !=0)->Ff p m q c d n K:=fun d U=>⟨fun h=>M _ Uc,fun h=>M _ Uc⟩;exact⟨fun h=>M _ Uc,fun h=>⟨_,b3.cell rfl,fun e=>⟨_,b1.cell rfl,O _ Uc⟩,fun e=>O _ Uc⟩⟩
 have V:∀d,d=(!s1&&f !=0)->DP p m ok q d n K:=fun d U=>⟨fun h=>J _ Uc,fun h=>J _ Uc⟩
 exact⟨fun h=>J _ Uc,fun h=>⟨_,b3.dj,fun e=>⟨_,b1.cell rfl,V _ Uc⟩,fun e=>V _ Uc⟩⟩
structure vd where
 dr:gP
 size:Int
 depth:Int
deriving DecidableEq
abbrev bw:=List vd
def bj(L:bw)(t:Int):Bool:=decide (1<=t)&&decide (t<=L.length)
def get(L:bw)(t:Int):Option vd:=if bj L t then L[(t-1).toNat]? else bo
def sizeOf(L:bw)(t:Int):Int:=((get L t).map (·.size)).getD 0
def gN(L:bw)(t:Int):Int:=((get L t).map (·.depth)).getD 0
def uZ:gP:=⟨0,0,0,0,⟨#[]⟩,0,0⟩
def ar(L:bw)(t:Int):gP:=((get L t).map (·.dr)).getD uZ
def zB(n:gP):List Int:=[n.a,n.b].take (fl n.ba).fw.toNat
def ik(L:bw)(n:gP):Int×Int×Int:=
 let s:=fl n.ba
 if zM n≠0 then(0,0,zM n)
 else if(decide (s.fw<1)&&n.a !=0) ||(decide (s.fw<2)&&n.b !=0)then(0,0,53)
 else if zO s n≠0 then(0,0,zO s n)
 else if(zB n).any (fun t=>!bj L t)then(0,0,51)
 else
  let sz:=1+((zB n).map<|sizeOf L).sum
  let d:=(zB n).foldl (fun d t=>max d<|gN L t) 0+1
  if sz>4096\/d>64 then(0,0,52)else(sz,d,0)
def find(L:bw)(n:gP):Option Nat:=L.findIdx? fun e=>e.dr=n
def bz(L:bw)(n:gP):Int×Int×bw:=
 let c:=ik L n
 if c.2.2≠0 then(0,c.2.2,L)
 else match find L n with
  |some i=>(i+1,0,L)
  |none=>if 65536<=L.length then(0,6,L)else(L.length+1,0,L++[⟨n,c.1,c.2.1⟩])
structure Ok(L:bw):Prop where
 jl:L.length<=65536
 qu:(L.map (·.dr)).Nodup
 size:∀e∈L,1<=e.size/\e.size<=4096
 depth:∀e∈L,1<=e.depth/\e.depth<=64
def zG{L t}:bj L t=ai↔1<=t/\t<=L.length:=by simp[bj]
def Cn{L t}(h:bj L t=ai):∃e,get L t=ab e/\e∈L/\∃hi:(t-1).toNat<L.length,L[(t-1).toNat]=e:=by
 have⟨h1,h2⟩:=zG.1 h;have hi:(t-1).toNat<L.length:=Om;exact⟨L[(t-1).toNat],by simp[get,h],List.getElem_mem hi,hi,rfl⟩
def yD{L t}(h:bj L t=ak):get L t=bo:=by simp[get,h]
def Ok.sizeOf{L}(h:Ok L)(t):0<=sizeOf L t/\sizeOf L t<=4096:=by
 cases ht:bj L t with
 |true=>have⟨e,a,b,_⟩:=Cn ht;have:=h.size e b;simp[Proofs.sizeOf,a];omega
 |false=>simp[Proofs.sizeOf,yD ht]
def Ok.gN{L}(h:Ok L)(t):0<=gN L t/\gN L t<=64:=by
 cases ht:bj L t with
 |true=>have⟨e,a,b,_⟩:=Cn ht;have:=h.depth e b;simp[Proofs.gN,a];omega
 |false=>simp[Proofs.gN,yD ht]
def Ok.nil:Ok []:=⟨Sm,Sm,Sm,Sm⟩
def qW(k):(fl k).fw=0\/(fl k).fw=1\/(fl k).fw=2:=by
 unfold fl wy;repeat' split
 all_goals simp
def tM(n:gP):List bk:=[vi n.ba,vi n.cj,vi n.to,vu n.num,vs n.cf,vi n.a,vi n.b]
def vj(e:vd):List bk:=tM e.dr++[vi e.size,vi e.depth]
def px(n:gP):bk:=.agg (tM n).toArray
def np(L:bw):List (bk×bk):=L.zipIdx.map fun p=>(px p.1.dr,vi (p.2+1:Nat))
structure Ey(w:af)(p:ao)(L:bw)(s:Sl)(m:Nat):Prop where
 box:az w p [s.v,.map<|ab m] 160
 fg:c9 w 248 9 s (L.map vj)
 map:pk w m (np L)
 n1:m≠p.block
 n2:¬s.bg p.block
 n3:¬s.bg m
def zH(w:af)(p:ao)(L:bw)(F:NP):Prop:=∃s m,Ey w p L s m/\∀b,F b↔(b=p.block\/s.bg b\/b=m)
def zH.ext{G w w' p L F}(h:zH w p L F)(a:aj G w w')(d:∀b,F b->¬G b):zH w' p L F:=by
 have⟨s,m,h,c⟩:=h;exact⟨s,m,⟨h.box.ext a<|d _<|(c _).2<|.inl rfl,h.fg.ext a Gd,h.map.ext a<|d _<|(c _).2<|.inr<|.inr rfl,h.n1,h.n2,h.n3⟩,c⟩
def zH.pure{w w' p L F}(h:zH w p L F)(a:aq w w'):zH w' p L F:=h.ext a fun _ _ h=>h
def zH.lt{w p L F}(h:zH w p L F){b}(a:F b):b<w.heap.size:=by
 have⟨s,m,h,c⟩:=h;rcases(c b).1 a with rfl|a|rfl;exact h.box.lt;exact h.fg.lt a;exact h.map.lt
def i64{n}(h:-9223372036854775808<=n)(a:n<=9223372036854775807):q6.wrap n=n:=IntWalk.i64_in n ⟨h,a⟩
def AK(p t w){L F}(a:zH w p L F):cl 130 #[vp<|ab p,vi t] w (XC fun r w'=>r=bj L t/\w=w'):=by
 have⟨s,m,h,_⟩:=a;refine OH (ab p) t w (fun r w'=>r=bj L t/\w=w') ?_;have b:(s.ay:Int)=L.length:=by rw[h.fg.ay];simp
 refine Br.t rfl ⟨fun h1=>⟨p,rfl,s,h.box.dj,?_,rfl⟩,fun h1=>⟨?_,rfl⟩⟩;have:1<=t:=by simpa using h1
 simp[bj,b,this];have:¬1<=t:=by simpa using h1
 simp[bj,this]
def Ey.at{w p L s m}(h:Ey w p L s m){t}(ht:bj L t=ai)(b:Ok L):∃a e,At s (q6.wrap<|t-1) 9 a/\Row w a (vj e)/\s.bg a.block/\get L t=ab e:=by
 have⟨h1,h2⟩:=zG.1 ht;have⟨e,f,_,hi,j⟩:=Cn ht;have:=b.jl;rw[i64 Om Om];have⟨a,c,g,d⟩:=h.fg.at (i:=t-1) Om Uc;exact⟨a,e,c,Gd,d,f⟩
def V5(p t w){L F}(d:zH w p L F)(b:Ok L):cl 269 #[vp<|ab p,vi t] w (XB fun r w'=>r=sizeOf L t/\w=w'):=by
 refine Y8 (ab p) t w (fun r w'=>r=sizeOf L t/\w=w') ?_;refine(AK p t w d).mono ?_;rintro _ _ ⟨_,rfl,rfl,rfl⟩;have⟨s,m,h,_⟩:=d;refine⟨_,rfl,fun h1=>⟨?_,rfl⟩,fun h1=>?_⟩;simp[sizeOf,yD<|show bj L t=ak by simpa using h1];have⟨a,e,c,f,_,g⟩:=h.at (show bj L t=ai by simpa using h1) b;exact⟨p,rfl,s,h.box.dj,a,c,e.size,f 7<|by simp[vj,tM],by simp[sizeOf,g],rfl⟩
def zMH(p t w){L F}(d:zH w p L F)(b:Ok L):cl 270 #[vp<|ab p,vi t] w (XB fun r w'=>r=gN L t/\w=w'):=by
 refine WQ (ab p) t w (fun r w'=>r=gN L t/\w=w') ?_;refine(AK p t w d).mono ?_;rintro _ _ ⟨_,rfl,rfl,rfl⟩;have⟨s,m,h,_⟩:=d;refine⟨_,rfl,fun h1=>⟨?_,rfl⟩,fun h1=>?_⟩;simp[gN,yD<|show bj L t=ak by simpa using h1];have⟨a,e,c,f,_,g⟩:=h.at (show bj L t=ai by simpa using h1) b;exact⟨p,rfl,s,h.box.dj,a,c,e.depth,f 8<|by simp[vj,tM],by simp[gN,g],rfl⟩
def wh(p t w){L F}(n:zH w p L F)(d:Ok L):cl 109 #[vp<|ab p,vi t] w
  (XP fun k f q u x a b r w'=>((⟨k,f,q,u,x,a,b⟩:gP)=ar L t/\r=bj L t)/\aq w w'):=by
 refine PM (ab p) t w _ ?_
 intro z g h1
 have c:aq w g:=aj.bu h1
 have b1:=az.fi h1
 have l:=fp.bf (aj.refl w) h1
 refine(AK p t g<|n.pure c).mono ?_
 rintro _ _ ⟨_,rfl,rfl,rfl⟩
 have⟨s,m,h,_⟩:=n.pure c
 refine⟨_,rfl,fun h1=>bx 7 b1 rfl rfl fun w' b E=>⟨_,_,_,_,_,_,_,b.row,⟨?_,?_⟩,c.bf l E⟩,fun h1=>?_⟩
 simp[ar,yD<|show bj L t=ak by simpa using h1,uZ]
 symm;simpa using h1
 have ht:bj L t=ai:=by simpa using h1
 have⟨a,e,j,o,_,v⟩:=h.at ht d
 have y:Row g a (tM e.dr):=fun i hi=>by
  have:=o i (by simp[vj];omega);rw[this];unfold vj;rw[getElem?_append_left hi]
 exact⟨p,rfl,s,h.box.dj,a,j,_,_,_,_,_,_,_,y,bx 7 b1 rfl rfl fun w' b E=>⟨_,_,_,_,_,_,_,b.row,⟨by simp[ar,v],ht.symm⟩,c.bf l E⟩⟩
def Sw(p k w)(a:k=0\/k=1\/k=2):(Instr.sliceAt 46 (Sl.mk (ab p) 2 2).v .none (ab<|vi k) .none).run prog w=.ok (Sl.mk (ab p) k.toNat 2).v w:=by
 rcases a with rfl|rfl|rfl<;>kernel_rfl
def Vy(p k f t u x a b w){L F}(hP:zH w p L F)(m:Ok L):
  cl 180 #[vp<|ab p,.agg #[vi k,vi f,vi t,vu u,vs x,vi a,vi b]] w
   (XN fun r1 r2 r3 w'=>(r1,r2,r3)=ik L ⟨k,f,t,u,x,a,b⟩/\aq w w'):=by
 suffices key:∀K:Int->Int->Int->WP,(∀r1 r2 r3 w',(r1,r2,r3)=ik L ⟨k,f,t,u,x,a,b⟩/\aq w w'->K r1 r2 r3 w')->Lj (ab p) k f t u x a b w K from
  w_E _ _ _ _ _ _ _ _ w _<|key _ fun _ _ _ _ h=>h
 intro K Q
 intro N w1 h1
 have b1:=az.fi h1
 have E1:aq w w1:=aj.bu h1
 refine⟨_,_,_,_,_,_,_,b1.row,?_⟩
 refine(Qt _ _ _ _ _ _ _ _).mono ?_
 rintro _ w2 ⟨s1,s2,s3,s4,c,pe,rfl,⟨hs,r⟩,T⟩
 refine⟨_,_,_,_,_,_,rfl,?_⟩
 intro M w3 h3
 have b2:=(b1.pure T).pure<|aj.bu h3
 have n23:=fp.ne h3 (b1.pure T).bg
 have E3:=(E1.trans T).trans<|aj.bu h3
 have o3:=fp.bf (E1.trans T) h3
 refine bx 5 (az.fi h3) rfl rfl fun O b3 E=>?_
 have b2:=b2.ext E n23
 have E4:=E3.bf o3 E
 clear E E3 T E1 b1 h1 h3
 have i:=hs.symm
 have hk5:c=0\/c=1\/c=2:=by have:=qW k;rw[i]at this;exact this
 generalize hn:(⟨k,f,t,u,x,a,b⟩:gP)=n at *
 have q:n.ba=k:=Uc
 have s:n.a=a:=Uc
 have v:n.b=b:=Uc
 have J2:∀U w',aq O w'->(U≠0->ik L n=(0,0,U))->(U=0->pe=0/\((decide (c<1)&&a !=0) ||(decide (c<2)&&b !=0))=ak/\zO ⟨s1,s2,s3,s4,c⟩ n=0)->FO (ab p) N M U w' K:=by
  intro U w' E' G J;have b2:=b2.pure E';have b3:=b3.pure E';have E5:=E4.trans E';have hP':=hP.pure E5;refine⟨fun h=>Q _ _ _ _ ⟨(G Uc).symm,E5⟩,fun h=>⟨_,b2.cell rfl,_,b2.cell rfl,?_⟩⟩;intro Y P B;have⟨g,z,hf0⟩:=J Uc;have b4:=az.fi B;have W:=E5.trans<|aj.bu B;have H:=hP.pure W;refine⟨_,(b3.pure<|aj.bu B).cell rfl,_,Sw Y c P hk5,?_⟩;have hks:zB n=[a,b].take c.toNat:=by simp[zB,q,i,s,v]
  have hlen:(zB n).length=c.toNat:=Uc;have V:∀j (hj:j<(zB n).length),P.cell? (Y.add<|j*1)=ab (vi (zB n)[j]):=by
   intro j hj;have hj2:j<c.toNat:=Om;have:(zB n)[j]=[a,b][j]' So:=Uc;rw[this,Nat.mul_one];refine b4.cell ?_;have h2:j=0\/j=1:=Om;rcases h2 with rfl|rfl<;>rfl
  have A:ik L n=if(zB n).any (fun t=>!bj L t)then(0,0,51)else if 1+((zB n).map<|sizeOf L).sum>4096\/(zB n).foldl (fun d t=>max d<|gN L t) 0+1>64 then(0,0,52)else(1+((zB n).map<|sizeOf L).sum,(zB n).foldl (fun d t=>max d<|gN L t) 0+1,0):=by
   unfold ik;simp only[q,i,s,v,<-r,g,z,hf0];simp
  generalize hkk:zB n=ks at *;have hl2:ks.length<=2:=Om;have S:∀j,0<=((ks.take j).map<|sizeOf L).sum/\((ks.take j).map<|sizeOf L).sum<=4096*(ks.take j).length:=by
   intro j;generalize ks.take j=l;induction l with
   |nil=>simp
   |cons y l ih=>have:=m.sizeOf y;simp only[map_cons,sum_cons,length_cons];omega
  have X:∀(l:List Int) (d:Int),0<=d->d<=64->0<=l.foldl (fun d t=>max d<|gN L t) d/\l.foldl (fun d t=>max d<|gN L t) d<=64:=by
   intro l;induction l with
   |nil=>intro d h1 h2;exact⟨h1,h2⟩
   |cons y l ih=>intro d h1 h2;have:=m.gN y;exact ih (max d<|gN L y) Om Om
  refine⟨fun sz d x w'=>∃j:Nat,x=j/\j<=ks.length/\sz=1+((ks.take j).map<|sizeOf L).sum/\d=(ks.take j).foldl (fun d t=>max d<|gN L t) 0/\(ks.take j).any (fun t=>!bj L t)=ak/\P=w',fun _ _ x _=>(2-x).toNat,⟨0,rfl,Nat.zero_le _,Sm,Sm,Sm,rfl⟩,?_⟩;rintro sz d _ _ ⟨j,rfl,hj,rfl,rfl,hin,rfl⟩;unfold Sf;have hs1:=S j;have hd1:=X (ks.take j) 0 Om Om;have htl:(ks.take j).length<=2:=Uc;refine⟨fun h=>?_,fun h=>?_⟩;have o:j<ks.length:=by have h:=ij h;simp only at h;omega
  refine⟨Y.add<|j*1,⟨Om,ij h,Y,rfl,Sm⟩,ks[j],V j o,?_⟩;have Z:=take_succ_eq_append_getElem o;refine(AK p _ P H).mono ?_;rintro _ _ ⟨_,rfl,rfl,rfl⟩;refine⟨_,rfl,fun h=>?_,fun h=>?_⟩;refine Q _ _ _ _ ⟨?_,W⟩;rw[A,bt];exact any_eq_true.2 ⟨ks[j],getElem_mem o,h⟩;refine(V5 p _ P H m).mono ?_;rintro _ _ ⟨_,rfl,rfl,rfl⟩;refine⟨_,rfl,?_⟩;refine(zMH p _ P H m).mono ?_;rintro _ _ ⟨_,rfl,rfl,rfl⟩;refine⟨_,rfl,_,run_max_int2 _ _ _ _ _ _ _,⟨j+1,?_,o,?_,?_,?_,rfl⟩,?_⟩;rw[i64 Om Om];omega;have:=m.sizeOf ks[j];rw[i64 Om Om,Z,map_append,sum_append];simp only[map_cons,map_nil,sum_cons,sum_nil];omega;grind;grind;show(2-q6.wrap ((j:Int)+1)).toNat<(2-(j:Int)).toNat;rw[i64 Om Om];omega;have hge:j=ks.length:=by have h:=il h;simp only at h;omega
  subst hge;rw[take_length]at hs1 hd1 hin|-;have o:(ks.length:Int)<=2:=Om;refine⟨fun h=>Q _ _ _ _ ⟨?_,W⟩,fun h=>?_⟩;grind;rw[i64 Om Om];refine⟨fun h'=>Q _ _ _ _ ⟨?_,W⟩,fun h'=>Q _ _ _ _ ⟨?_,W⟩⟩;grind;grind
 have J1:∀R,(R≠0->ik L n=(0,0,R))->(R=0->pe=0/\((decide (c<1)&&a !=0) ||(decide (c<2)&&b !=0))=ak)->uw (ab p) N M R O K:=by
  intro R G J;refine⟨fun h=>⟨_,_,_,_,_,b3.row,_,_,_,_,_,_,_,b2.row,?_⟩,fun h=>J2 _ _ (aj.refl _) G Gd⟩;have⟨g,z⟩:=J Uc;refine(Sk _ _ _ _ _ _ _ _ _ _ _ _ _).mono ?_;rintro _ w9 ⟨_,rfl,rfl,E9⟩;rw[hn];refine⟨_,rfl,J2 _ _ E9 (fun hf=>?_) fun hf=>⟨g,z,hf⟩⟩;unfold ik;simp only[q,i,s,v,<-r,g,z];simp[hf]
 have I:pe=0->((decide (c<1)&&a !=0) ||(decide (c<2)&&b !=0))=ai->uw (ab p) N M 53 O K:=fun g hc=>J1 53 (fun _=>by
  unfold ik;simp only[q,i,s,v,<-r,g,hc];simp) fun e=>Uc
 have C:pe≠0->uw (ab p) N M pe O K:=fun hp=>J1 pe (fun _=>by
  unfold ik;simp only[<-r];rw[bt hp]) fun e=>absurd e hp
 have J5:∀D x3,D=(decide (c<1)&&a !=0)->x3=(decide (c<2)&&b !=0)->Fi (ab p) N pe M D x3 O K:=by
  intro D x3 h2 h3;refine⟨fun h=>⟨fun hx=>I Uc Uc,fun hx=>⟨fun hy=>I Uc Uc,fun hy=>J1 pe Gd Gd⟩⟩,fun h=>C Uc⟩
 have J4:∀D,D=(decide (c<1)&&a !=0)->FH (ab p) N pe M D O K:=by
  intro D h2;refine⟨fun h=>⟨fun hx=>I Uc Uc,fun hx=>⟨_,b3.cell rfl,fun B=>⟨_,b2.cell rfl,J5 _ _ h2 Uc⟩,fun B=>J5 _ _ h2 Uc⟩⟩,fun h=>C Uc⟩
 exact⟨fun h=>⟨_,b3.cell rfl,fun B=>⟨_,b2.cell rfl,J4 _ Uc⟩,fun B=>J4 _ Uc⟩,fun h=>C Uc⟩
def Rf(v:bk):Prop:=∃n,v=px n
def HJ{n n'}:px n=px n'↔n=n':=by
 constructor;intro h;cases n;cases n';simp[px,tM]at h;simp[h];rintro rfl;rfl
def jOK(n):Instr.sameBits 10000 (px n) (px n)=ai:=by
 have h:∀d,Instr.sameBits (d+1) (px n) (px n)=ai:=fun d=>by
  have e:(n.cf==n.cf)=ai:=by rw[beq_toListBytes];simp
  cases d<;>simp[Instr.sameBits,px,tM,e]
 exact h 9999
def EJ:sj prog 119 Rf:=by
 refine sj.TS underlying119 ?_ ?_ ?_
 .rintro _ ⟨n,rfl⟩ d w;kernel_rfl
 .rintro _ _ w ⟨n,rfl⟩ ⟨c,rfl⟩;refine⟨decide (n=c),?_,by simp only[HJ,decide_eq_true_eq];exact eq_comm⟩;have⟨k,f,t,u,x,a,b⟩:=n;have⟨k',e,g,h,j,i,l⟩:=c;simp[Op.equal,Op.maxDepth,go_sem,xd,px,tM]
  repeat' split
  all_goals simp_all
 .rintro _ ⟨n,rfl⟩;exact jOK n
def If:nY prog 158 248 9 (16*5):=by
 refine⟨underlying158,⟨t248,_,Kf,(by kernel_rfl:t248.zero=ab (.agg #[vi 0,vi 0,vi 0,vu 0,vs ⟨#[]⟩,vi 0,vi 0,vi 0,vi 0])),Kf,Kf,rfl⟩,Om⟩
def Qv{L}{i:Nat}{n v}(h:(np L)[i]?=ab (px n,v)):∃e,L[i]?=ab e/\e.dr=n/\v=vi (i+1:Nat):=by
 simp only[np,getElem?_map,getElem?_zipIdx,Option.map_map,Option.map_eq_some_iff]at h;have⟨e,a,h⟩:=h;simp only[Function.comp,ei]at h;exact⟨e,a,HJ.1 h.1,Uc⟩
def Ox{L n}(h:∀q∈np L,q.1≠px n):∀e∈L,e.dr≠n:=by
 intro e a b;obtain⟨i,hi,rfl⟩:=mem_iff_getElem.1 a;refine h (px L[i].dr,vi (i+1:Nat)) ?_ Uc;exact mem_map.2 ⟨(L[i],i),Uc,rfl⟩
def FU{L}:∀q∈np L,Rf q.1:=by
 intro q a;obtain⟨x,_,rfl⟩:=mem_map.1 a;exact⟨_,rfl⟩
def ZS(L)(e:vd):np (L++[e])=np L++[(px e.dr,vi (L.length+1:Nat))]:=by
 simp[np,zipIdx_append]
def IQ{L}(a:Ok L){i}{e:vd}(h:L[i]?=ab e):find L e.dr=ab i:=by
 obtain⟨hi,rfl⟩:=List.getElem?_eq_some_iff.1 h;unfold find;rw[List.findIdx?_eq_some_iff_getElem];refine⟨hi,Sm,fun j c=>?_⟩;have b:=a.qu;simp only[decide_eq_true_eq];intro e;exact List.pairwise_iff_getElem.1 b j i So Uc c Uc
def zm{L n}(h:∀e∈L,e.dr≠n):find L n=bo:=by
 unfold find;rw[findIdx?_eq_none_iff];intro e a;simpa using h e a
def sV(p:ao)(k f t u:Int)(x:ByteArray)(a b:Int)(w:af){L:bw}{F:NP}(hP:zH w p L F)(hok:Ok L):
  cl 132 #[vp<|ab p,.agg #[vi k,vi f,vi t,vu u,vs x,vi a,vi b]] w
   (XK fun r1 r2 w'=>(r1,r2)=((bz L ⟨k,f,t,u,x,a,b⟩).1,(bz L ⟨k,f,t,u,x,a,b⟩).2.1)/\∃F',zH w' p (bz L ⟨k,f,t,u,x,a,b⟩).2.2 F'/\aj F w w'/\∀b,F' b->F b\/w.heap.size<=b):=by
 suffices key:∀K,(∀r1 r2 w',((r1,r2)=((bz L ⟨k,f,t,u,x,a,b⟩).1,(bz L ⟨k,f,t,u,x,a,b⟩).2.1)/\∃F',zH w' p (bz L ⟨k,f,t,u,x,a,b⟩).2.2 F'/\aj F w w'/\∀b,F' b->F b\/w.heap.size<=b)->K r1 r2 w')->O4 (ab p) k f t u x a b w K from
  To _ _ _ _ _ _ _ _ w _<|key _ fun _ _ _ h=>h
 intro K hK
 intro p2 w1 h1
 have b1:=az.fi h1
 have E1:aq w w1:=aj.bu h1
 have o2:¬F p2.block:=fun h=>Oi (hP.lt h) h1.gp
 refine Br.f rfl ⟨_,_,_,_,_,_,_,b1.row,?_⟩
 refine(Vy p k f t u x a b w1 (hP.pure E1) hok).mono ?_
 rintro _ w2 ⟨sz,dp,er,rfl,z,E2⟩
 refine⟨_,_,_,rfl,?_⟩
 generalize B:(⟨k,f,t,u,x,a,b⟩:gP)=n at *
 have E3:=E1.trans E2
 have U:∀w',aq w w'->∃F',zH w' p L F'/\aj F w w'/\∀b,F' b->F b\/w.heap.size<=b:=fun w' E=>⟨F,hP.pure E,E.pure,fun _ h=>.inl h⟩
 refine⟨fun h=>hK _ _ _ ?_,fun h=>?_⟩
 have he:er≠0:=by simpa using h
 have:bz L n=(0,er,L):=by unfold bz;simp[<-z,he]
 rw[this];exact⟨rfl,U _ E3⟩
 have he:er=0:=by simpa using h
 subst he
 intro Z G
 have W:aq w Z:=by rw[G];exact E3.trans<|aj.drew w2
 have b3:=(b1.pure E2).pure (show aq w2 Z by rw[G];exact aj.drew w2)
 clear G
 have⟨s,m,hS,hF⟩:=hP.pure W
 refine⟨p,rfl,_,hS.box.cell (i:=1) rfl,_,_,_,_,_,_,_,b3.row,?_⟩
 have C:(bk.agg #[vi k,vi f,vi t,vu u,vs x,vi a,vi b])=px n:=by rw[<-B];rfl
 simp only[C]
 rcases hS.map.lookup (P:=prog) (T:=157) (E:=73) underlying157 EJ FU ⟨n,rfl⟩ (zeroValue73 _) ai with⟨D,o⟩|⟨i,v,hi,o⟩
 refine⟨_,_,o,Br.f rfl ⟨p,rfl,s,hS.box.dj,?_⟩⟩
 have hno:=Ox D
 have hfn:=zm hno
 have hlen:(s.ay:Int)=L.length:=by rw[hS.fg.ay];simp
 refine⟨fun h=>hK _ _ _ ?_,fun h=>?_⟩
 have h2:65536<=L.length:=by have h:=ij h;omega
 have:bz L n=(0,6,L):=by unfold bz;simp[<-z,hfn,h2]
 rw[this];exact⟨rfl,U _ W⟩
 have h2:¬65536<=L.length:=by have h:=il h;omega
 have hmk:bz L n=((L.length:Int)+1,0,L++[⟨n,sz,dp⟩]):=by unfold bz;simp[<-z,hfn,h2]
 refine⟨fun w'=>w'.cell? p=ab s.v/\Row w' p2 (tM n),⟨?_,?_⟩,?_⟩
 exact aj.cell (F:=bl) (aj.drew Z) hS.box.dj id
 rw[<-B];exact aj.row (F:=bl) (aj.drew Z) b3.row id
 intro w4 hw4
 have J:aq Z w4:=by rw[hw4];exact aj.drew Z
 clear hw4
 have Q:Ey w4 p L s m:=by
  exact⟨hS.box.pure J,hS.fg.pure J,hS.map.ext J id,hS.n1,hS.n2,hS.n3⟩
 have b4:=b3.pure J
 refine⟨p,rfl,s,fun w' h=>h.1,k,f,t,u,x,a,b,fun w' h=>by have:=h.2;rw[<-B]at this;exact this,?_⟩
 intro p3 w5 h5
 have X:aq w4 w5:=aj.bu h5
 have o3:=fp.bf (W.trans J) h5
 have b5:=az.fi h5
 have A:=Q.fg.pure X
 have g:=Q.box.pure X
 have q:=Q.map.ext X id
 have b45:=b4.pure X
 have hrow:Row w5 p3 (vj ⟨n,sz,dp⟩):=by rw[<-B];exact b5.row
 refine⟨⟨g.dj,by rw[<-B];exact b45.row⟩,?_⟩
 have⟨s1,w6,hr6,l,E7,M⟩:=A.append (P:=prog) (ty:=158) If (c:=1) hrow (by simp[vj,tM]) (by simp[vj,tM,vC]) So (by simp[maxLen];omega)
 have nb:∀b,s.bg b->b≠p2.block:=fun b hb e=>o2 Gd
 have d:=g.ext E7 hS.n2
 have R:=q.ext E7 hS.n3
 have b6:=b45.ext E7 fun h=>nb _ h rfl
 refine⟨s1,w6,hr6,⟨d.dj,by rw[<-B];exact b6.row⟩,p,rfl,d.mi Sm,?_⟩
 intro Y I
 have j:az Y p [s1.v,.map<|ab m] 160:=by rw[I];exact d.nw
 have E8:aj (·=p.block) w6 Y:=by rw[I];exact aj.setCell p _
 clear I
 have hs1p:¬s1.bg p.block:=fun h=>(M _ h).elim hS.n2 fun h=>Oh g.lt
 have hs1m:¬s1.bg m:=fun h=>(M _ h).elim hS.n3 fun h=>Oh q.lt
 have y:=l.ext E8 Gd
 have H:=R.ext E8 hS.n1
 have b7:=b6.ext E8 Gd
 have hl1:(s1.ay:Int)=L.length+1:=by rw[l.ay];simp
 refine⟨p,rfl,s1,j.dj,?_⟩
 refine⟨fun w'=>w'.cell? (p.add 1)=ab (.map<|ab m)/\Row w' p2 (tM n),⟨?_,?_⟩,?_⟩
 exact aj.cell (F:=bl) (aj.drew Y) (j.cell (i:=1) rfl) id
 rw[<-B];exact aj.row (F:=bl) (aj.drew Y) b7.row id
 intro w8 hw8
 have E9:aq Y w8:=by rw[hw8];exact aj.drew Y
 clear hw8
 refine⟨p,rfl,ab m,fun w' h=>h.1,k,f,t,u,x,a,b,fun w' h=>by have:=h.2;rw[<-B]at this;exact this,?_⟩
 simp only[C];rw[hl1]
 have S:=H.ext E9 id
 have⟨w9,hr9,V,N⟩:=S.insert (P:=prog) (v:=vi<|(L.length:Int)+1) underlying157 EJ FU ⟨n,rfl⟩ D
 refine⟨w9,hr9,hK _ _ _ ?_⟩
 rw[hmk]
 have O:=(j.pure E9).ext N fun e=>hS.n1 e.symm
 have r:=(y.pure E9).ext N Gd
 refine⟨rfl,fun b=>b=p.block\/s1.bg b\/b=m,⟨s1,m,⟨O,?_,?_,hS.n1,hs1p,hs1m⟩,fun _=>Iff.rfl⟩,?_,?_⟩
 simpa using r
 rw[ZS];simpa using V
 have hF':=hF
 have Ea:aj F w w5:=((W.trans J).trans X).pure
 have Eb:=Ea.ft E7 Gd
 have Ec:=Eb.ft E8 Gd
 have Ed:=Ec.mh E9
 exact Ed.ft N Gd
 intro b hb
 rcases hb with rfl|hb|rfl
 grind
 rcases M b hb with h|h
 grind
 right;have:=((W.trans J).trans X).size;omega
 grind
 obtain⟨e,he,hen,rfl⟩:=Qv hi
 refine⟨_,_,o,Br.t rfl (hK _ _ _ ?_)⟩
 have hfd:=IQ hok he
 rw[hen]at hfd
 have:bz L n=((i:Int)+1,0,L):=by unfold bz;simp[<-z,hfd]
 rw[this];exact⟨Sm,U _ W⟩
def Ch(a:Option ao)(b:Option ao)(l1:Sl):Int:=(cond ((Option.isNone a) ||(Option.isNone b)) 2<|cond (decide ((l1.ay:Int)>256)) 6<|cond (((l1.ay:Int):Int)==0) 3 0)
def jch(d:Option ao)(c:Option ao)(l1:Sl)(g:af):cl 107 #[(.pointer d),(.pointer c),l1.v] g (fun e w'=>e=.returned (.int .i64<|Ch d c l1)/\aq g w'):=
 nT func107 [((Option.isNone d) ||(Option.isNone c)),(decide ((l1.ay:Int)>256)),(((l1.ay:Int):Int)==0)] (fun b=>(vi<|cond (b 0) 2<|cond (b 1) 6<|cond (b 2) 3 0)) fun a=>pj 1 0 [] [2] (fun b=>[(7,(vb<|(Option.isNone d) ||(Option.isNone c)))]) (fun h=>ct 3 3<|pj 0 0 [(Option.isNone d)] [2] (fun b=>[(13,(vb<|(b 0) ||(Option.isNone c)))]) (fun f=>pb 1 0 0 f (fun f=>pe 3 0 f)<|fun f=>pe 3 0 f)<|pe 1 0 h)<|pb 0 0 0 a (fun a=>jk 2 a)<|fun a=>pb 0 5 1 a (fun a=>jk 2 a)<|fun a=>pb 0 5 2 a (fun a=>jk 2 a)<|fun a=>jk 2 a
def S3(p:Option ao)(s:af)(K:HV)(h:cq s [(vp p)] 239 fun b l=>lp l b fun v=>jz l v fun x=>cq l [(vp bo)] 91 fun c u=>ll u c (vp x) fun y=>∀a o,fp y (.map #[] 0) a o->∃t:af,(Instr.mapUpdate 242 (.map<|ab a.block) (vi 0)<|.func (.func 223) #[] #[(vp<|ab b)]).run prog o=.ok () t/\∃m:af,(Instr.mapUpdate 242 (.map<|ab a.block) (vi 1)<|.func (.func 224) #[] #[(vp<|ab c)]).run prog t=.ok () m/\∃q:af,(Instr.mapUpdate 242 (.map<|ab a.block) (vi 2)<|.func (.func 226) #[] #[(vp<|ab c)]).run prog m=.ok () q/\∃r:af,(Instr.mapUpdate 242 (.map<|ab a.block) (vi 3)<|.func (.func 228) #[] #[(vp<|ab c)]).run prog q=.ok () r/\∃n:af,(Instr.mapUpdate 242 (.map<|ab a.block) (vi 4)<|.func (.func 230) #[] #[(vp<|ab b),(vp<|ab c)]).run prog r=.ok () n/\∃e:af,(Instr.mapUpdate 242 (.map<|ab a.block) (vi 5)<|.func (.func 233) #[] #[(vp<|ab b),(vp<|ab c)]).run prog n=.ok () e/\∃f:af,(Instr.mapUpdate 242 (.map<|ab a.block) (vi 6)<|.func (.func 235) #[] #[(vp<|ab b)]).run prog e=.ok () f/\∃d:af,(Instr.mapUpdate 242 (.map<|ab a.block) (vi 7)<|.func (.func 237) #[] #[(vp<|ab b)]).run prog f=.ok () d/\lp d b fun w=>∃k:af,(Instr.mapUpdate 242 (.map<|ab a.block) (vi 8)<|.func (.func 238) #[(vp w)] #[]).run prog d=.ok () k/\∃j:af,(Instr.mapUpdate 242 (.map<|ab a.block) (vi 9)<|.func (.func 239) #[] #[(vp<|ab b),(vp<|ab c)]).run prog k=.ok () j/\∃i:af,(Instr.mapUpdate 242 (.map<|ab a.block) (vi 10)<|.func (.func 242) #[] #[(vp<|ab b),(vp<|ab c)]).run prog j=.ok () i/\∃g:af,(Instr.mapUpdate 242 (.map<|ab a.block) (vi 11)<|.func (.func 246) #[] #[(vp<|ab b),(vp<|ab c)]).run prog i=.ok () g/\K (ab a.block) g):
  cl 163 #[(vp p)] s<|XQ K:=
 gg func163 h<|fy 0<|ld 1<|nc 0<|ld 1<|fy 0<|kz 0<|fy 0<|xe<|es 1<|kv<|xe<|es 1<|kv<|xe<|es 1<|kv<|xe<|es 1<|kv<|xe<|es 1<|kv<|xe<|es 1<|kv<|xe<|es 1<|kv<|xe<|es 1<|kv<|ld 0<|xe<|es 1<|kv<|xe<|es 1<|kv<|xe<|es 1<|kv<|xe<|es 1<|kv<|rr 2
def Pl(l1:Sl)(c:ao)(r2:Option Nat)(j:Int)(D:af)(m:NP)(a:af)(l:pR)(K:vw):Prop:=Br (decide (j<(l1.ay:Int))) (∃a1:ao,At l1 j 5 a1/\∃k o s u p,Row a a1 [(vi k),(vi o),(vi s),(vu u),(vs p)]/\∀e b,au D m a e b->∃q:bk,∃f,(Instr.lookup 242 (.map r2) (vi k) ai).run prog b=.ok (.tuple #[q,(vb f)]) b/\Br (!f) (lx b (c.add 2) fun C=>K C 90 b) (∃(i:FuncId) (g h:Array bk),q=.func (.func i) g h/\(∀args w,(callFunc i args).run prog w=.ok (.enter i args) w)/\Calls prog i (g++#[(.agg #[(vi k),(vi o),(vi s),(vu u),(vs p)])]++h) b (XK fun r3 r d=>av e b d/\Br (r !=0) (lx d (c.add 2) fun A=>K A r d) (lx d (c.add 2) fun y=>cq d [(vi r3)] 73 fun B t=>∃s1:Sl,∃n:af,(cm #[46,46] 46 #[y.v,(Sl.mk (ab B) 1 1).v]).run prog t=.ok s1.v n/\av e t n/\iq n e (c.add 2) s1.v fun z=>l (q6.wrap<|j+1) e z)))) (lx a (c.add 2) fun x=>K x 0 a)
def jaW(k:Option ao)(j:Option ao)(l1:Sl)(e:af)(K:vw)(h:cl 68 #[(vp j)] e (XA fun r1 o=>av bl e o/\cq o [(vp k),r1.v,Sl.nil.v] 241 fun n p=>cl 163 #[(vp<|ab n)] p<|XQ fun r2 m=>av bl p m/\∃(g:Int->NP->WP) (d:Int->af->Nat),g 0 bl m/\∀(c:Int) (b:NP) (a:af),au e b a b a->g c b a->Pl l1 n r2 c e b a (fun f q w'=>g f q w'/\d f w'<d c a) K)):
  cl 108 #[(vp k),(vp j),l1.v] e<|XR K:=
 gh func108 h<|cc 4 call68<|xe<|cz<|jx 1<|cc 2 call163<|xe<|cz<|wa (l:=[Int]) (v:=(_,())) 4 [8,9,23,24] (fun c=>[(25,(vi c))])<|fun {_ _ c}=>fun r=>br 0 1 (ix 1<|ia<|lr 0<|nh 0<|sg 0 0 []<|lh 2 0 []<|ah<|dd<|rn 0<|br 0 7 (ld 4<|rr 2)<|j9 2 0 [] 5<|fo<|fun i=>cv 0 i<|dd<|rt<|nR<|br 0 7 (ld 4<|rr 3)<|ld 5<|jx 1<|dd<|ef 0<|nR<|iz 2<|je 2 1<|r _)<|ld 4<|rr 2
def jbT(c:Option ao)(b:Option ao)(l1:Sl)(d:af)(K:uo)(h:Br (((Ch c b l1):Int) != 0) (∀a,au d bl d bl a->K 0 (Ch c b l1) 0 a) (∀a,au d bl d bl a->cl 108 #[(vp c),(vp b),l1.v] a (XR fun r1 r2 e=>av bl a e/\Br (r2 != 0) (K 0 r2 (r1.ay:Int) e) (∃a1:ao,At r1 (q6.wrap<|(r1.ay:Int) - 1) 1 a1/\li e a1 fun f=>K f 0 0 e)))):
  cl 52 #[(vp c),(vp b),l1.v] d<|XN K:=
 gh func52 h<|cp 6 call107 (jch c b l1)<|br 0 3 (an<|rr 5)<|an<|cc 4 call108<|dd<|cz<|br 0 7 (rr 7)<|ix 5<|ld 0<|rr 3
def HR(h:Int)(a:ao)(e:Bool)(g:af)(H:NP)(w:af)(K:jw):Prop:=Br e (K 0 90 w)<|∀b,au g H w H b->lp b a fun d=>pE b d 1 fun f=>∃a2:ao,At f h 1 a2/\li b a2 fun c=>K c 0 b
def Yi(n e:Int)(l m:Int)(i:ByteArray)(a:ao)(b:af)(K:jw)(h:Br (decide (e<0)) (∀d c,au b bl b d c->HR e a ai b d c K) (∀d c,au b bl b d c->lp c a fun k=>pE c k 1 fun j=>HR e a (decide (e>=(j.ay:Int))) b d c K)):
  cl 223 #[(.agg #[(vi n),(vi e),(vi l),(vu m),(vs i)]),(vp<|ab a)] b<|XK K:=
 gh func223 h<|nh 0<|ja [Bool] 2 0 [1,2] (fun f=>[(17,(vb f))]) (fun f H w=>HR _ _ f _ H w _) (fun g=>dq 0<|lh 1 0 [1]<|br 1 2 (ah<|je 9 0<|g _)<|lh 1 0 [1]<|ah<|ld 0<|nc 0<|ld 1<|je 3 0<|g _)<|fun {f}=>br 0 0 (rr 3)<|dq 1<|an<|ld 0<|nc 0<|ld 1<|lh 1 0 [1]<|ix 0<|ld 0<|rr 2
def jat(k f:Int)(j l:Int)(g:ByteArray)(a:ao)(c:af)(K:jw)(h:∀d b,au c bl c d b->lp b a fun i=>cl 225 #[(vp i),(vi f)] b<|XK fun r1 r2 e=>av d b e/\K r1 r2 e):
  cl 224 #[(.agg #[(vi k),(vi f),(vi j),(vu l),(vs g)]),(vp<|ab a)] c<|XK K:=
 gh func224 h<|nh 0<|ah<|ld 2<|lh 1 0 [1]<|cc 0 call225<|dd<|cz<|rr 4
def jaD(k l:Int)(j f:Int)(g:ByteArray)(a:ao)(c:af)(K:jw)(h:∀d b,au c bl c d b->lp b a fun i=>cl 227 #[(vp i),(vu f)] b<|XK fun r1 r2 e=>av d b e/\K r1 r2 e):
  cl 226 #[(.agg #[(vi k),(vi l),(vi j),(vu f),(vs g)]),(vp<|ab a)] c<|XK K:=
 gh func226 h<|nh 0<|ah<|ld 2<|lh 1 0 [3]<|cc 0 call227<|dd<|cz<|rr 4
def WD(j l:Int)(i k:Int)(e:ByteArray)(a:ao)(c:af)(K:jw)(h:∀d b,au c bl c d b->lp b a fun g=>cl 229 #[(vp g),(vs e)] b<|XK fun r1 r2 f=>av d b f/\K r1 r2 f):
  cl 228 #[(.agg #[(vi j),(vi l),(vi i),(vu k),(vs e)]),(vp<|ab a)] c<|XK K:=
 gh func228 h<|nh 0<|ah<|ld 2<|lh 1 0 [4]<|cc 0 call229<|dd<|cz<|rr 4
def jaZ(b:Option ao)(i1:Int)(a:af)(K:zu)(h:Br (decide (i1<0)) (K 0 ak a) (pE a b 2 fun d=>Br (decide (i1>=(d.ay:Int))) (K 0 ak a)<|pE a b 2 fun e=>∃a3:ao,At e i1 1 a3/\li a a3 fun c=>K c ai a)):
  cl 231 #[(vp b),(vi i1)] a<|XE K:=
 gg func231 h<|br 1 5 (rr 11)<|nc 2<|ld 1<|br 0 3 (rr 3)<|nc 2<|ld 1<|ix 1<|ld 0<|rr 2
def WW(x n:Int)(o r:Int)(u:ByteArray)(a c:ao)(g:af)(K:jw)(h:∀f j,au g bl g f j->lp j a fun s=>cl 231 #[(vp s),(vi n)] j<|XE fun r1 r2 k=>av f j k/\lp k a fun w=>cl 231 #[(vp w),(vi o)] k<|XE fun r3 l m=>av f k m/\Br ((!r2) || (!l)) (∀i d,au g f m i d->K 0 90 d) (∀i d,au g f m i d->lp d c fun t=>cl 232 #[(vp t),(vi r1),(vi r3)] d<|XK fun v q p=>av i d p/\K v q p)):
  cl 230 #[(.agg #[(vi x),(vi n),(vi o),(vu r),(vs u)]),(vp<|ab a),(vp<|ab c)] g<|XK K:=
 gh func230 h<|nh 0<|ah<|ld 2<|lh 1 0 [1]<|cc 0 call231<|dd<|fun {_ r2}=>cz<|ld 5<|lh 1 0 [2]<|cc 0 call231<|dd<|fun {_ l}=>cz<|pj 5 0 [(!r2)] [2,6,8] (fun b=>[(29,(vb<|(b 0) ||(!l)))]) (fun e=>pb 1 3 0 e (fun e=>pe 3 0 e)<|fun e=>pe 3 0 e)<|br 0 0 (ah<|rr 3)<|ah<|ld 1<|cc 2 call232<|dd<|cz<|rr 4
def YP(n i:Int)(k o:Int)(j:ByteArray)(b a:ao)(f:af)(K:jw)(h:∀e d,au f bl f e d->lp d b fun l=>cl 231 #[(vp l),(vi i)] d<|XE fun r1 r2 c=>av e d c/\Br (!r2) (K 0 90 c) (lp c a fun m=>cl 234 #[(vp m),(vi r1)] c<|XK fun r3 p g=>av e c g/\K r3 p g)):
  cl 233 #[(.agg #[(vi n),(vi i),(vi k),(vu o),(vs j)]),(vp<|ab b),(vp<|ab a)] f<|XK K:=
 gh func233 h<|nh 0<|ah<|ld 2<|lh 1 0 [1]<|cc 0 call231<|dd<|cz<|br 0 7 (rr 3)<|ld 1<|cc 1 call234<|dd<|cz<|rr 4
def Vn(d:Option ao)(i1:Int)(b:af)(K:H6)(h:∀a e,au b bl b a e->cl 231 #[(vp d),(vi i1)] e (XE fun r1 r2 c=>av a e c/\Br (!r2) (∀i,au b a c a i->K 0 0 0 0 ⟨#[]⟩ 0 0 ak i) (jz c d fun k=>cl 109 #[(vp k),(vi r1)] c<|XH fun o q l m n p j r3 f=>av a c f/\∀g,au b a f a g->K o q l m n p j r3 g))):
  cl 289 #[(vp d),(vi i1)] b<|XH K:=
 gh func289 h<|nh 0<|ah<|cc 3 call231<|dd<|cz<|br 0 7 (sg 2 0 []<|an<|gu 1<|nW 0 [] 7<|gw)<|nc 2<|ld 1<|cc 1 call109<|dh<|dd<|cz<|sg 2 0 []<|an<|gu 1<|nW 0 [] 7<|gw
def jbR(m:Option ao)(t l:Int)(q p:Int)(s:ByteArray)(a:Bool)(d:af)(K:jw)(h:∀f k,au d bl d f k->cl 289 #[(vp m),(vi l)] k (XH fun j v u w x n r r1 i=>av f k i/\Br ((!r1) || (j != 4)) (∀g c,au d f i g c->K 0 90 c) (Br a (∀g c,au d f i g c->K r 0 c)<|∀g c,au d f i g c->K n 0 c))):
  cl 236 #[(vp m),(.agg #[(vi t),(vi l),(vi q),(vu p),(vs s)]),(vb a)] d<|XK K:=
 gh func236 h<|nh 0<|lh 4 0 [1]<|ah<|cc 0 call289<|dh<|fun {j}=>dd<|fun {_ r1}=>cz<|nh 3<|sg 0 0 []<|pj 1 0 [] [2,8] (fun b=>[(17,(vb<|(!r1) ||(j !=4)))]) (fun o=>ct 3 4<|pj 0 0 [(!r1)] [2,8] (fun b=>[(24,(vb<|(b 0) ||(j !=4)))]) (fun e=>pb 1 0 0 e (fun e=>pe 4 0 e)<|fun e=>lh 1 0 []<|pe 2 0 e)<|pe 1 0 o)<|br 0 0 (ah<|rr 3)<|br 0 3 (lh 2 0 [6]<|ah<|rr 2)<|lh 2 0 [5]<|ah<|rr 2
def Vg(g k:Int)(f j:Int)(e:ByteArray)(a:ao)(c:af)(K:jw)(h:∀d b,au c bl c d b->lp b a fun l=>cl 236 #[(vp l),(.agg #[(vi g),(vi k),(vi f),(vu j),(vs e)]),(vb ak)] b<|XK fun r1 r2 i=>av d b i/\K r1 r2 i):
  cl 235 #[(.agg #[(vi g),(vi k),(vi f),(vu j),(vs e)]),(vp<|ab a)] c<|XK K:=
 gh func235 h<|nh 0<|ah<|ld 2<|j9 0 0 [] 5<|cc 0 call236<|dd<|cz<|rr 4
def jds(g k:Int)(f j:Int)(e:ByteArray)(a:ao)(c:af)(K:jw)(h:∀d b,au c bl c d b->lp b a fun l=>cl 236 #[(vp l),(.agg #[(vi g),(vi k),(vi f),(vu j),(vs e)]),(vb ai)] b<|XK fun r1 r2 i=>av d b i/\K r1 r2 i):
  cl 237 #[(.agg #[(vi g),(vi k),(vi f),(vu j),(vs e)]),(vp<|ab a)] c<|XK K:=
 gh func237 h<|nh 0<|ah<|ld 2<|j9 0 0 [] 5<|cc 0 call236<|dd<|cz<|rr 4
def W3(n:Option ao)(s m:Int)(q p:Int)(r:ByteArray)(g:af)(K:jw)(h:∀i j,au g bl g i j->cl 289 #[(vp n),(vi m)] j (XH fun a u t v x o w r1 k=>av i j k/\Br ((!r1) || (((a != 7) && (a != 8)) && (a != 9))) (∀l f,au g i k l f->K 0 90 f) (∀l f,au g i k l f->K o 0 f))):
  cl 238 #[(vp n),(.agg #[(vi s),(vi m),(vi q),(vu p),(vs r)])] g<|XK K:=
 gh func238 h<|nh 0<|lh 4 0 [1]<|ah<|cc 0 call289<|dh<|fun {a}=>dd<|fun {_ r1}=>cz<|nh 3<|sg 0 0 []<|pj 1 0 [(!r1)] [6] (fun b=>[(31,(vb<|(b 0) ||(((a !=7)&&(a !=8))&&(a !=9))))]) (fun c=>pb 1 3 0 c (fun c=>pe 14 0 c)<|fun c=>lh 1 0 []<|ct 2 4<|pj 0 0 [(a !=7)] [6,17] (fun b=>[(25,(vb<|(b 0)&&(a !=8)))]) (fun e=>pb 1 0 0 e (fun e=>lh 1 0 []<|pe 2 0 e)<|fun e=>pe 4 0 e)<|ct 1 4<|pj 0 0 [((a !=7)&&(a !=8))] [6,17] (fun b=>[(30,(vb<|(b 0)&&(a !=9)))]) (fun d=>pb 1 0 0 d (fun d=>lh 1 0 []<|pe 2 0 d)<|fun d=>pe 4 0 d)<|pe 1 0 c)<|br 0 0 (ah<|rr 3)<|lh 2 0 [5]<|ah<|rr 2
def jcm(q:Option ao)(B s:Int)(u v:Int)(z:ByteArray)(a:bk)(i:af)(K:jw)(h:∀f m,au i bl i f m->cl 231 #[(vp q),(vi s)] m (XE fun r1 r2 n=>av f m n/\cl 289 #[(vp q),(vi u)] n (XH fun p x D E G C F r3 r=>av f n r/\Br (((!r2) || (!r3)) || (p != 6)) (∀l c,au i f r l c->K 0 90 c) (∃(k:FuncId) (g j:Array bk),a=.func (.func k) g j/\∀l c,au i f r l c->(∀args w,(callFunc k args).run prog w=.ok (.enter k args) w)/\Calls prog k (g++#[(vi x),(vi r1)]++j) c (XK fun y A t=>av l c t/\K y A t))))):
  cl 240 #[(vp q),(.agg #[(vi B),(vi s),(vi u),(vu v),(vs z)]),a] i<|XK K:=
 gh func240 h<|nh 0<|lh 4 0 [1]<|ah<|cc 0 call231<|dd<|fun {_ r2}=>cz<|lh 7 0 [2]<|cc 0 call289<|dh<|fun {p}=>dd<|fun {_ r3}=>cz<|nh 3<|sg 0 0 []<|pj 1 0 [((!r2) ||(!r3))] [2,8,10] (fun b=>[(36,(vb<|(b 0) ||(p !=6)))]) (fun e=>ct 3 3<|pj 0 0 [(!r2)] [2,8,10] (fun b=>[(31,(vb<|(b 0) ||(!r3)))]) (fun d=>pb 1 0 0 d (fun d=>pe 3 0 d)<|fun d=>pe 3 0 d)<|pb 1 1 0 e (fun e=>pe 4 0 e)<|fun e=>lh 1 0 []<|pe 2 0 e)<|br 0 0 (ah<|rr 3)<|lh 3 0 [1]<|fo<|fun o=>ah<|cv 1 o<|dd<|rt<|nR<|rr 4
def SV(i l:Int)(g k:Int)(f:ByteArray)(b a:ao)(d:af)(K:jw)(h:∀e c,au d bl d e c->lp c b fun m=>lp c a fun n=>cl 240 #[(vp m),(.agg #[(vi i),(vi l),(vi g),(vu k),(vs f)]),(.func (.func 241) #[(vp n)] #[])] c<|XK fun r1 r2 j=>av e c j/\K r1 r2 j):
  cl 239 #[(.agg #[(vi i),(vi l),(vi g),(vu k),(vs f)]),(vp<|ab b),(vp<|ab a)] d<|XK K:=
 gh func239 h<|nh 0<|ah<|ld 2<|j9 0 0 [] 5<|ld 0<|cc 1 call240<|dd<|cz<|rr 4
def Us(j p:Int)(m o:Int)(d:ByteArray)(b a:ao)(k:af)(K:jw)(h:cq k [(vi j),(vi p),(vi m),(vu o),(vs d)] 88 fun i c=>lp c b fun q=>∃l e g n f,Row c i [(vi l),(vi e),(vi g),(vu n),(vs f)]/\cl 240 #[(vp q),(.agg #[(vi l),(vi e),(vi g),(vu n),(vs f)]),(.func (.func 243) #[] #[(vp<|ab a),(vp<|ab i)])] c (XK K)):
  cl 242 #[(.agg #[(vi j),(vi p),(vi m),(vu o),(vs d)]),(vp<|ab b),(vp<|ab a)] k<|XK K:=
 gg func242 h<|fy 0<|ld 2<|ia<|lr 0<|cc 1 call240<|dd<|fh<|rr 4
def IU(n1:Int):Int:=(cond (decide (n1>2147483648)) (-1)<|q6.wrap n1)
def Rq(n1:Int)(c:af):cl 245 #[(.int .u64 n1)] c (fun e w'=>e=.returned (.int .i64<|IU n1)/\aq c w'):=
 nT func245 [(decide (n1>2147483648))] (fun b=>(vi<|cond (b 0) (-1)<|q6.wrap n1)) fun a=>pb 0 3 0 a (fun a=>jk 2 a)<|fun a=>jk 4 a
def Ua(a a1:Int)(c b:ao)(j:af)(K:jw)(h:jh j fun d k=>∃g,(∀w',d w'->w'.cell? c=ab (vp g))/\∃i,(∀w',d w'->w'.cell? (b.add 3)=ab (vu i))/\cl 245 #[(vu i)] k (XB fun r1 e=>d e/\av bl k e/\cl 244 #[(vp g),(vi a),(vi r1),(vi a1)] e (XK fun r2 r3 f=>d f/\av bl e f/\K r2 r3 f))):
  cl 243 #[(vi a),(vi a1),(vp<|ab c),(vp<|ab b)] j<|XK K:=
 gh func243 h<|dC 2 [4,6] []<|km 0<|km 2<|cc 1 call245<|xe<|gQ<|cc 0 call244<|dd<|gQ<|rr 4
def Ui(j p:Int)(m o:Int)(d:ByteArray)(b a:ao)(k:af)(K:jw)(h:cq k [(vi j),(vi p),(vi m),(vu o),(vs d)] 88 fun i c=>lp c b fun q=>∃l e g n f,Row c i [(vi l),(vi e),(vi g),(vu n),(vs f)]/\cl 240 #[(vp q),(.agg #[(vi l),(vi e),(vi g),(vu n),(vs f)]),(.func (.func 247) #[] #[(vp<|ab a),(vp<|ab i)])] c (XK K)):
  cl 246 #[(.agg #[(vi j),(vi p),(vi m),(vu o),(vs d)]),(vp<|ab b),(vp<|ab a)] k<|XK K:=
 gg func246 h<|fy 0<|ld 2<|ia<|lr 0<|cc 1 call240<|dd<|fh<|rr 4
def jbG(a a1:Int)(c b:ao)(j:af)(K:jw)(h:jh j fun d k=>∃g,(∀w',d w'->w'.cell? c=ab (vp g))/\∃i,(∀w',d w'->w'.cell? (b.add 3)=ab (vu i))/\cl 245 #[(vu i)] k (XB fun r1 e=>d e/\av bl k e/\cl 248 #[(vp g),(vi r1),(vi a),(vi a1)] e (XK fun r2 r3 f=>d f/\av bl e f/\K r2 r3 f))):
  cl 247 #[(vi a),(vi a1),(vp<|ab c),(vp<|ab b)] j<|XK K:=
 gh func247 h<|dC 2 [3,6] []<|km 0<|km 1<|cc 2 call245<|xe<|gQ<|cc 0 call248<|dd<|gQ<|rr 4
def OT(gI gJ gK:Int)(gL:ByteArray)(gM f c:Bool)(w0:af)(K:qz):Prop:=cq w0 [(vi gI),(vi gJ),(vu gK),(vs gL),(vb gM)] 35 fun e w1=>cq w1 [(vi 0),(vi 0),(vi 0),(vu 0),ve,Sl.nil.v] 71 fun a w2=>lu w2 (e.add 2) fun v1=>ls w2 (e.add 3) fun v2=>cl 82 #[(vu v1),(vs v2)] w2<|XT fun aB aC aD aA aE aL w3=>cq w3 [(vi 0),(vi 0),(vi 0),(vu 0),ve,Sl.nil.v] 71 fun k w4=>gk w4 k 6 (Af aB aC aD aA aE aL) fun d=>li d e fun l=>Br (l==1) (li d (e.add 1) fun v4=>nj d k fun aQ aR bC bD aS bV=>lb d (e.add 4) fun v5=>cl 83 #[(vi v4),(.agg #[(vi aQ),(vi aR),(vi bC),(vu bD),(vs aS),bV.v]),(vb v5)] d<|XT fun aM aN aW aP aK eA w6=>gk w6 a 6 (Af aM aN aW aP aK eA) fun w7=>nj w7 a fun aF aG aI aJ aH aO=>K aF aG aI aJ aH aO w7) (Br (l==2) (li d (e.add 1) fun v6=>nj d k fun bW bX cD cE bY cF=>cl 84 #[(vi v6),(.agg #[(vi bW),(vi bX),(vi cD),(vu cE),(vs bY),cF.v])] d<|XT fun bO bP bZ cA bE eB w8=>gk w8 a 6 (Af bO bP bZ cA bE eB) fun w9=>nj w9 a fun aT aU cG cH aV eC=>K aT aU cG cH aV eC w9) (Br (l==3) (jh d fun C1 w10=>∃v7,(∀w',C1 w'->w'.cell? (e.add 2)=ab (vu v7))/\cl 86 #[(vs (⟨#[97,98,111,114,116]⟩:ByteArray))] w10 (XT fun aZ bA eD eE bB eF n=>C1 n/\cl 87 #[(vu v7)] n (XT fun bS bT eG eH bU eI w12=>cl 85 #[(.agg #[(vi aZ),(vi bA),(vi eD),(vu eE),(vs bB),eF.v]),(.agg #[(vi bS),(vi bT),(vi eG),(vu eH),(vs bU),eI.v])] w12<|XT fun cI cJ eJ eK cK eL w13=>cl 84 #[(vi 0),(.agg #[(vi cI),(vi cJ),(vi eJ),(vu eK),(vs cK),eL.v])] w13<|XT fun eM eN hI hJ eO hK w14=>gk w14 a 6 (Af eM eN hI hJ eO hK) fun A=>nj A a fun bF bG eP eQ bH hL=>K bF bG eP eQ bH hL A))) (Br (l==4) (jh d fun b w16=>∃L,(∀w',b w'->w'.cell? (e.add 1)=ab (vi L))/\∃dJ dK gV gW dL gX,(∀w',b w'->Row w' k (Af dJ dK gV gW dL gX))/\∃v9,(∀w',b w'->w'.cell? (e.add 4)=ab (vb v9))/\∃G D P O y q,(∀w',b w'->Row w' k (Af G D P O y q))/\∃h,(∀w',b w'->w'.cell? (e.add 4)=ab (vb h))/\cl 86 #[(vs (⟨#[114,101,115,111,108,118,101]⟩:ByteArray))] w16 (XT fun X V W eV Z Y g=>b g/\Br v9 (cl 83 #[(vi 0),(.agg #[(vi dJ),(vi dK),(vi gV),(vu gW),(vs dL),gX.v]),(vb f)] g<|XT fun dM dN gY gZ dO hA i=>b i/\Br h (cl 83 #[(vi 1),(.agg #[(vi G),(vi D),(vi P),(vu O),(vs y),q.v]),(vb c)] i<|XT fun dP dQ hM hN dR hO u=>b u/\cl 85 #[(.agg #[(vi dM),(vi dN),(vi gY),(vu gZ),(vs dO),hA.v]),(.agg #[(vi dP),(vi dQ),(vi hM),(vu hN),(vs dR),hO.v])] u (XT fun eX eY hQ hR eZ hS R=>b R/\cl 85 #[(.agg #[(vi X),(vi V),(vi W),(vu eV),(vs Z),Y.v]),(.agg #[(vi eX),(vi eY),(vi hQ),(vu hR),(vs eZ),hS.v])] R (XT fun fA fB hT hU fC hV C=>b C/\cl 84 #[(vi L),(.agg #[(vi fA),(vi fB),(vi hT),(vu hU),(vs fC),hV.v])] C (XT fun fD fE hW hX fF hY w22=>gk w22 a 6 (Af fD fE hW hX fF hY) fun I=>nj I a fun cR cS hZ iA cT iB=>K cR cS hZ iA cT iB I)))) (cl 83 #[(vi 1),(.agg #[(vi G),(vi D),(vi P),(vu O),(vs y),q.v]),(vb ak)] i<|XT fun fG fH iC iD fI iE N=>b N/\cl 85 #[(.agg #[(vi dM),(vi dN),(vi gY),(vu gZ),(vs dO),hA.v]),(.agg #[(vi fG),(vi fH),(vi iC),(vu iD),(vs fI),iE.v])] N (XT fun dS dT iF iG dU iH U=>b U/\cl 85 #[(.agg #[(vi X),(vi V),(vi W),(vu eV),(vs Z),Y.v]),(.agg #[(vi dS),(vi dT),(vi iF),(vu iG),(vs dU),iH.v])] U (XT fun fJ fK iI iJ fL iK z=>b z/\cl 84 #[(vi L),(.agg #[(vi fJ),(vi fK),(vi iI),(vu iJ),(vs fL),iK.v])] z (XT fun fM fN iL iM fO iN w27=>gk w27 a 6 (Af fM fN iL iM fO iN) fun E=>nj E a fun cU cV iO iP cW iQ=>K cU cV iO iP cW iQ E))))) (cl 83 #[(vi 0),(.agg #[(vi dJ),(vi dK),(vi gV),(vu gW),(vs dL),gX.v]),(vb ak)] g<|XT fun dV dW hB hC dX hD j=>b j/\Br h (cl 83 #[(vi 1),(.agg #[(vi G),(vi D),(vi P),(vu O),(vs y),q.v]),(vb c)] j<|XT fun fP fQ iR iS fR iT x=>b x/\cl 85 #[(.agg #[(vi dV),(vi dW),(vi hB),(vu hC),(vs dX),hD.v]),(.agg #[(vi fP),(vi fQ),(vi iR),(vu iS),(vs fR),iT.v])] x (XT fun fS fT iU iV fU iW T=>b T/\cl 85 #[(.agg #[(vi X),(vi V),(vi W),(vu eV),(vs Z),Y.v]),(.agg #[(vi fS),(vi fT),(vi iU),(vu iV),(vs fU),iW.v])] T (XT fun iX iY iZ jA jB jC s=>b s/\cl 84 #[(vi L),(.agg #[(vi iX),(vi iY),(vi iZ),(vu jA),(vs jB),jC.v])] s (XT fun jD jE jF jG jH jI w33=>gk w33 a 6 (Af jD jE jF jG jH jI) fun F=>nj F a fun cX cY jJ jK cZ jL=>K cX cY jJ jK cZ jL F)))) (cl 83 #[(vi 1),(.agg #[(vi G),(vi D),(vi P),(vu O),(vs y),q.v]),(vb ak)] j<|XT fun jM jN jO jP jQ jR t=>b t/\cl 85 #[(.agg #[(vi dV),(vi dW),(vi hB),(vu hC),(vs dX),hD.v]),(.agg #[(vi jM),(vi jN),(vi jO),(vu jP),(vs jQ),jR.v])] t (XT fun jS jT jU jV jW jX r=>b r/\cl 85 #[(.agg #[(vi X),(vi V),(vi W),(vu eV),(vs Z),Y.v]),(.agg #[(vi jS),(vi jT),(vi jU),(vu jV),(vs jW),jX.v])] r (XT fun jY jZ kA kB kC kD o=>b o/\cl 84 #[(vi L),(.agg #[(vi jY),(vi jZ),(vi kA),(vu kB),(vs kC),kD.v])] o (XT fun kE kF kG kH kI kJ w38=>gk w38 a 6 (Af kE kF kG kH kI kJ) fun w=>nj w a fun dA dB kK kL dC kM=>K dA dB kK kL dC kM w))))))) (Br (l==5) (jh d fun C3 w40=>∃H,(∀w',C3 w'->w'.cell? (e.add 2)=ab (vu H))/\cl 86 #[(vs (⟨#[97,98,111,114,116,101,100]⟩:ByteArray))] w40 (XT fun kN kO kP kQ kR kS m=>C3 m/\cl 87 #[(vu H)] m (XT fun kT kU kV kW kX kY w42=>cl 85 #[(.agg #[(vi kN),(vi kO),(vi kP),(vu kQ),(vs kR),kS.v]),(.agg #[(vi kT),(vi kU),(vi kV),(vu kW),(vs kX),kY.v])] w42<|XT fun kZ lA lB lC lD lE w43=>cl 84 #[(vi 2),(.agg #[(vi kZ),(vi lA),(vi lB),(vu lC),(vs lD),lE.v])] w43<|XT fun lF lG lH lI lJ lK w44=>gk w44 a 6 (Af lF lG lH lI lJ lK) fun M=>nj M a fun fV fW lL lM fX lN=>K fV fW lL lM fX lN M))) (Br (l==6) (jh d fun C4 w46=>∃lO lP lQ lR lS lT,(∀w',C4 w'->Row w' k (Af lO lP lQ lR lS lT))/\cl 86 #[(vs (⟨#[105,110,115,116,101,97,100]⟩:ByteArray))] w46 (XT fun lU lV lW lX lY lZ B=>C4 B/\cl 85 #[(.agg #[(vi lU),(vi lV),(vi lW),(vu lX),(vs lY),lZ.v]),(.agg #[(vi lO),(vi lP),(vi lQ),(vu lR),(vs lS),lT.v])] B (XT fun mA mB mC mD mE mF w48=>cl 84 #[(vi 2),(.agg #[(vi mA),(vi mB),(vi mC),(vu mD),(vs mE),mF.v])] w48<|XT fun mG mH mI mJ mK mL w49=>gk w49 a 6 (Af mG mH mI mJ mK mL) fun p=>nj p a fun mM mN mO mP mQ mR=>K mM mN mO mP mQ mR p))) (jh d fun C5 w51=>∃J,(∀w',C5 w'->w'.cell? (e.add 2)=ab (vu J))/\cl 86 #[(vs (⟨#[102,117,108,108]⟩:ByteArray))] w51 (XT fun mS mT mU mV mW mX S=>C5 S/\cl 87 #[(vu J)] S (XT fun mY mZ nA nB nC nD w53=>cl 85 #[(.agg #[(vi mS),(vi mT),(vi mU),(vu mV),(vs mW),mX.v]),(.agg #[(vi mY),(vi mZ),(vi nA),(vu nB),(vs nC),nD.v])] w53<|XT fun nE nF nG nH nI nJ w54=>gk w54 a 6 (Af nE nF nG nH nI nJ) fun Q=>nj Q a fun nK nL nM nN nO nP=>K nK nL nM nN nO nP Q))))))))
def jaR(gI gJ gK gL gM first1 second1 w0 K)(h:OT gI gJ gK gL gM first1 second1 w0 K):
  cl 25 #[(.agg #[(vi gI),(vi gJ),(vu gK),(vs gL),(vb gM)]),(vb first1),(vb second1)] w0<|XT K:=
 gg func25 h<|fy 0<|fy 0<|ld 1<|ld 1<|cc 0 call82<|dh<|fh<|fy 0<|gj 0<|ld 1<|br 0 2 (ld 2<|dh<|lr 0<|ld 1<|cc 0 call83<|dh<|fh<|gj 0<|gu 0<|dh<|jq<|gw)<|br 0 3 (ld 2<|dh<|lr 0<|cc 0 call84<|dh<|fh<|gj 0<|gu 0<|dh<|jq<|gw)<|br 0 3 (ug 1 [0,3,4,5,6] [3,4,5,6]<|km 1<|cc 0 call86<|dh<|rt<|o9<|cc 0 call87<|dh<|fh<|cc 0 call85<|dh<|fh<|cc 0 call84<|dh<|fh<|gj 0<|gu 0<|dh<|jq<|gw)<|br 0 3 (ug 1 [2,9,16,17,18,19,20] [19,20]<|km 1<|dh<|wD 0<|km 1<|dh<|wD 0<|km 1<|cc 0 call86<|dh<|rt<|o9<|br 1 1 (cc 2 call83<|dh<|rt<|o9<|br 1 1 (cc 2 call83<|dh<|rt<|o9<|cc 0 call85<|dh<|rt<|o9<|cc 0 call85<|dh<|rt<|o9<|cc 0 call84<|dh<|fh<|gj 0<|gu 0<|dh<|jq<|gw)<|cc 2 call83<|dh<|rt<|o9<|cc 0 call85<|dh<|rt<|o9<|cc 0 call85<|dh<|rt<|o9<|cc 0 call84<|dh<|fh<|gj 0<|gu 0<|dh<|jq<|gw)<|cc 2 call83<|dh<|rt<|o9<|br 1 1 (cc 2 call83<|dh<|rt<|o9<|cc 0 call85<|dh<|rt<|o9<|cc 0 call85<|dh<|rt<|o9<|cc 0 call84<|dh<|fh<|gj 0<|gu 0<|dh<|jq<|gw)<|cc 2 call83<|dh<|rt<|o9<|cc 0 call85<|dh<|rt<|o9<|cc 0 call85<|dh<|rt<|o9<|cc 0 call84<|dh<|fh<|gj 0<|gu 0<|dh<|jq<|gw)<|br 0 3 (ug 1 [0,3,4,5,6] [3,4,5,6]<|km 1<|cc 0 call86<|dh<|rt<|o9<|cc 0 call87<|dh<|fh<|cc 0 call85<|dh<|fh<|cc 0 call84<|dh<|fh<|gj 0<|gu 0<|dh<|jq<|gw)<|br 0 3 (ug 1 [0,2,3,4] [2,3,4]<|dh<|wD 0<|cc 0 call86<|dh<|rt<|o9<|cc 0 call85<|dh<|fh<|cc 0 call84<|dh<|fh<|gj 0<|gu 0<|dh<|jq<|gw)<|ug 1 [0,3,4,5] [3,4,5]<|km 1<|cc 0 call86<|dh<|rt<|o9<|cc 0 call87<|dh<|fh<|cc 0 call85<|dh<|fh<|gj 0<|gu 0<|dh<|jq<|gw
def NF(d f g:ao)(r3:Int)(w:af)(K:uz):Prop:=cl 142 #[(vp<|ab f),(vi r3),(vi 2)] w<|XL fun E z D s A C B e=>gk e g 5 (Aj 7 0 s ak) fun a=>lb a (f.add 1) fun n=>Br n (gk a d 5 (Aj 0 0 0 ak) fun c=>ni c d fun u i o h x=>K u i o h x ak c) (ni a g fun l j p m q=>gk a d 5 (Ac l j p m q) fun b=>ni b d fun t r k y v=>K t r k y v ai b)
def ED(a d e:ao)(r3:Int)(w:af)(K:uz):Prop:=lb w (d.add 1) fun r=>Br r (lb w (d.add 1) fun f=>Br f (gk w a 5 (Aj 0 0 0 ak) fun b=>ni b a fun u k g dC t=>K u k g dC t ak b) (ni w e fun n h p j i=>gk w a 5 (Ac n h p j i) fun c=>ni c a fun q s o m l=>K q s o m l ai c)) (NF a d e r3 w K)
def BM(k:Int)(d b g:ao)(n:Bool)(w:af)(K:uz):Prop:=Br n (cl 140 #[(vp<|ab b),(vi k)] w<|XU fun y H A C G i=>gk i g 5 (Ac y H A C G) fun a=>lb a (b.add 1) fun l=>Br l (gk a d 5 (Aj 0 0 0 ak) fun f=>ni f d fun t I q o z=>K t I q o z ak f) (ni a g fun v F E u x=>gk a d 5 (Ac v F E u x) fun e=>ni e d fun B r p D m=>K B r p D m ai e)) (cl 141 #[(vp<|ab b),(vi k)] w<|XV fun r2 r3 c=>lb c (b.add 1) fun s=>Br s (ll c (b.add 1) (vb ai) fun h=>ED d b g r3 h K) (ll c (b.add 1) (vb<|!(decide (r2=(⟨#[102,117,108,108]⟩:ByteArray)))) fun j=>ED d b g r3 j K))
def NO(j:Option ao)(i:Int)(P:af)(K:uz):Prop:=cq P [(vi 0),(vi 0),(vu 0),ve,(vb ak)] 35 fun a p=>cq p [(vp j),(vb ak)] 212 fun d q=>cl 109 #[(vp j),(vi i)] q<|XH fun E z J A U v l r1 R=>cq R [(vi 0),(vi 0),(vi 0),(vu 0),ve,(vi 0),(vi 0)] 119 fun g H=>gk H g 7 (Ab E z J A U v l) fun T=>cq T [(vi 0),(vi 0),(vu 0),ve,(vb ak)] 35 fun e b=>li b g fun f=>Br (f==7) (li b (g.add 1) fun N=>li b (g.add 5) fun I=>cl 139 #[(vp<|ab d),(vi N),(vi I)] b<|XU fun Q B D t y L=>gk L e 5 (Ac Q B D t y) fun h=>lb h (d.add 1) fun n=>Br n (gk h a 5 (Aj 0 0 0 ak) fun k=>ni k a fun G r dF o s=>K G r dF o s ak k) (ni h e fun S m O F oF=>gk h a 5 (Ac S m O F oF) fun c=>ni c a fun M C w x u=>K M C w x u ai c)) (Br (f==8) (BM i a d e (f==8) b K)<|BM i a d e (f==9) b K)
def Xt(p1 t1 w0 K)(h:NO p1 t1 w0 K):
  cl 73 #[(vp p1),(vi t1)] w0<|XW K:=
 gg func73 h<|fy 0<|fy 3<|cc 3 call109<|dh<|dd<|fh<|fy 3<|gj 0<|fy 1<|ld 1<|br 0 2 (ld 3<|ld 1<|cc 0 call139<|ia<|fh<|gj 0<|ld 3<|br 0 0 (gj 2<|gu 1<|ia<|jq<|gw)<|ia<|lr 1<|gj 0<|gu 1<|ia<|jq<|gw)<|jc [Bool] 1 1 [1,4,6,9] (fun a=>[(57,(vb a))]) (fun a w=>BM _ _ _ _ a w _) (fun b=>br 0 2 (gn 1<|b _)<|gn 3<|b _)<|fun {a}=>br 0 0 (cc 3 call140<|ia<|fh<|gj 0<|ld 3<|br 0 0 (gj 2<|gu 1<|ia<|jq<|gw)<|ia<|lr 1<|gj 0<|gu 1<|ia<|jq<|gw)<|cc 3 call141<|dd<|fh<|jc [] 5 1 [4,6,9,11] ([]) (fun w=>NF _ _ _ _ w _) (fun d=>jc [] 0 0 [4,6,9,11] ([]) (fun w=>ED _ _ _ _ w _) (fun c=>ld 4<|br 1 1 (kz 5<|gn 0 c)<|kz 5<|gn 0 c)<|ld 3<|br 0 0 (ld 4<|br 0 0 (gj 2<|gu 1<|ia<|jq<|gw)<|ia<|lr 1<|gj 0<|gu 1<|ia<|jq<|gw)<|gn 1 d)<|cc 2 call142<|dh<|xe<|fh<|gj 2<|ld 3<|br 0 0 (gj 2<|gu 1<|ia<|jq<|gw)<|ia<|lr 1<|gj 0<|gu 1<|ia<|jq<|gw
def jbv(c:Int)(a:ByteArray)(e:af)(K:qz)(h:cq e [(vi 0),(vi 0),(vi 0),(vu 0),ve,Sl.nil.v] 71 fun b j=>cl 86 #[(vs (⟨#[100,101,97,108]⟩:ByteArray))] j<|XT fun F u M x W N k=>cl 87 #[(vu c)] k<|XT fun T A O E n G U=>cl 86 #[(vs a)] U<|XT fun D P s f J S L=>cl 85 #[(.agg #[(vi T),(vi A),(vi O),(vu E),(vs n),G.v]),(.agg #[(vi D),(vi P),(vi s),(vu f),(vs J),S.v])] L<|XT fun X w y t B C V=>cl 85 #[(.agg #[(vi F),(vi u),(vi M),(vu x),(vs W),N.v]),(.agg #[(vi X),(vi w),(vi y),(vu t),(vs B),C.v])] V<|XT fun R o Q r m g q=>gk q b 6 (Af R o Q r m g) fun d=>nj d b fun I l z H i p=>K I l z H i p d):
  cl 82 #[(vu c),(vs a)] e<|XT K:=
 gg func82 h<|fy 0<|cc 0 call86<|dh<|fh<|cc 1 call87<|dh<|fh<|cc 1 call86<|dh<|fh<|cc 0 call85<|dh<|fh<|cc 0 call85<|dh<|fh<|gj 0<|gu 0<|dh<|jq<|gw
def jbi(a l:Int)(n bK f:Int)(i:ByteArray)(g:Sl)(b:Bool)(m:af)(K:qz)(h:cq m [(vi l),(vi n),(vi bK),(vu f),(vs i),g.v] 71 fun e q=>cq q [(vi 0),(vi 0),(vi 0),(vu 0),ve,Sl.nil.v] 71 fun d c=>Br b (nj c e fun R o Q C I x=>cq c [(vi R),(vi o),(vi Q),(vu C),(vs I),x.v] 71 fun s z=>gk z d 6 [(vi 9),(vi a),(vi<|q6.wrap<|1 - a),(vu 0),ve,(Sl.mk (ab s) 1 1).v] fun k=>nj k d fun L r A J p u=>K L r A J p u k) (nj c e fun E N G M B t=>cq c [(vi E),(vi N),(vi G),(vu M),(vs B),t.v] 71 fun O S=>gk S d 6 [(vi 8),(vi a),(vi<|q6.wrap<|1 - a),(vu 0),ve,(Sl.mk (ab O) 1 1).v] fun j=>nj j d fun P H y D w F=>K P H y D w F j)):
  cl 83 #[(vi a),(.agg #[(vi l),(vi n),(vi bK),(vu f),(vs i),g.v]),(vb b)] m<|XT K:=
 gg func83 h<|fy 0<|fy 0<|br 0 2 (dh<|lr 6<|fy 0<|gj 1<|gu 0<|dh<|jq<|gw)<|dh<|lr 5<|fy 0<|gj 1<|gu 0<|dh<|jq<|gw
def Tj(a i:Int)(k bK c:Int)(e:ByteArray)(d:Sl)(j:af)(K:qz)(h:cq j [(vi i),(vi k),(vi bK),(vu c),(vs e),d.v] 71 fun l o=>cq o [(vi 0),(vi 0),(vi 0),(vu 0),ve,Sl.nil.v] 71 fun f b=>nj b l fun B m A w x s=>cq b [(vi B),(vi m),(vi A),(vu w),(vs x),s.v] 71 fun q t=>gk t f 6 [(vi 7),(vi a),(vi 0),(vu 0),ve,(Sl.mk (ab q) 1 1).v] fun g=>nj g f fun z p u y n r=>K z p u y n r g):
  cl 84 #[(vi a),(.agg #[(vi i),(vi k),(vi bK),(vu c),(vs e),d.v])] j<|XT K:=
 gg func84 h<|fy 0<|fy 0<|dh<|lr 1<|fy 0<|gj 1<|gu 0<|dh<|jq<|gw
def TJ(m p:Int)(bK c:Int)(f:ByteArray)(d:Sl)(l j:Int)(i g:Int)(b:ByteArray)(o:Sl)(n:af)(K:qz)(h:cq n [(vi m),(vi p),(vi bK),(vu c),(vs f),d.v] 71 fun q t=>cq t [(vi l),(vi j),(vi i),(vu g),(vs b),o.v] 71 fun A u=>cq u [(vi 0),(vi 0),(vi 0),(vu 0),ve,Sl.nil.v] 71 fun e a=>nj a q fun P r y E H B=>nj a A fun F N G L C x=>cq a [(vi P),(vi r),(vi y),(vu E),(vs H),B.v,(vi F),(vi N),(vi G),(vu L),(vs C),x.v] 71 fun O M=>gk M e 6 [(vi 4),(vi 0),(vi 0),(vu 0),ve,(Sl.mk (ab O) 2 2).v] fun k=>nj k e fun J w D I s z=>K J w D I s z k):
  cl 85 #[(.agg #[(vi m),(vi p),(vi bK),(vu c),(vs f),d.v]),(.agg #[(vi l),(vi j),(vi i),(vu g),(vs b),o.v])] n<|XT K:=
 gg func85 h<|fy 0<|fy 0<|fy 0<|dh<|lr 0<|dh<|lr 0<|fy 0<|gj 1<|gu 0<|dh<|jq<|gw
def UP(s1:ByteArray)(b:af)(K:qz)(h:cq b [(vi 0),(vi 0),(vi 0),(vu 0),ve,Sl.nil.v] 71 fun a g=>gk g a 6 [(vi 3),(vi 0),(vi 0),(vu 0),(vs s1),Sl.nil.v] fun c=>nj c a fun i j k d f e=>K i j k d f e c):
  cl 86 #[(vs s1)] b<|XT K:=
 gg func86 h<|fy 0<|gj 2<|gu 0<|dh<|jq<|gw
def Uk(n1:Int)(b:af)(K:qz)(h:cq b [(vi 0),(vi 0),(vi 0),(vu 0),ve,Sl.nil.v] 71 fun a g=>gk g a 6 [(vi 2),(vi 0),(vi 0),(vu n1),ve,Sl.nil.v] fun c=>nj c a fun i j k d f e=>K i j k d f e c):
  cl 87 #[(vu n1)] b<|XT K:=
 gg func87 h<|fy 0<|gj 2<|gu 0<|dh<|jq<|gw
def DW(a:Int)(d a1 a2:ao)(w:af)(K:rY):Prop:=lu w (a1.add 2) fun e=>ls w (a1.add 3) fun f=>lb w (a1.add 4) fun i=>Br i (gk w d 5 (Ac 4 a e f ai) fun b=>ni b d fun r j q h n=>K r j q h n b) (lb w (a2.add 4) fun l=>gk w d 5 (Ac 4 a e f l) fun c=>ni c d fun p k m o g=>K p k m o g c)
def Gx(r1:Option ao)(a:Int)(d a1 a2:ao)(f:Bool)(w:af)(K:rY):Prop:=Br f (∃a4,r1=ab a4/\ll w (a4.add 1) (vb ai) fun c=>DW a d a1 a2 c K) (ls w (a1.add 3) fun g=>ls w (a2.add 3) fun e=>∃a5,r1=ab a5/\ll w (a5.add 1) (vb<|!(decide (g=e))) fun b=>DW a d a1 a2 b K)
def DM(r1:Option ao)(a:Int)(b a1 a2:ao)(d:Bool)(w:af)(K:rY):Prop:=Br d (Gx r1 a b a1 a2 ai w K)<|lu w (a1.add 2) fun c=>lu w (a2.add 2) fun e=>Gx r1 a b a1 a2 (c !=e) w K
def GL(r1:Option ao)(a:Int)(c a1 a2:ao)(d:Bool)(w:af)(K:rY):Prop:=Br d (DM r1 a c a1 a2 ai w K)<|li w (a2.add 1) fun b=>DM r1 a c a1 a2 (b !=1) w K
def sI(r1:Option ao)(a:Int)(c a1 a2:ao)(w:af)(K:rY):Prop:=PA w r1 1 fun d=>Br d (GL r1 a c a1 a2 ai w K)<|li w (a1.add 1) fun b=>GL r1 a c a1 a2 (b !=0) w K
def CL(r1:Option ao)(a:Int)(d:ao)(r3:Int)(x5:Bool)(w:af)(K:rY):Prop:=Br x5 (cl 142 #[(vp r1),(vi r3),(vi 4)] w<|XL fun bO bP bZ cA bE gT gU w11=>cq w11 [(vi 0),(vi 0),(vi 0),(vu 0),ve,(vi 0),(vi 0)] 119 fun p2 w12=>gk w12 p2 7 (Ab bO bP bZ cA bE gT gU) fun w13=>jh w13 fun b j=>∃f,(∀w',b w'->w'.cell? (p2.add 5)=ab (vi f))/\∃c,(∀w',b w'->w'.cell? (p2.add 6)=ab (vi c))/\(cl 140 #[(vp r1),(vi f)] j<|XU fun t q s r u i=>b i/\(cl 140 #[(vp r1),(vi c)] i<|XU fun bS bT dY bU dZ B=>(cq B [(vi 0),(vi 0),(vu 0),ve,(vb ak)] 35 fun p3 D=>b D/\cq D [(vi 0),(vi 0),(vu 0),ve,(vb ak)] 35 fun p4 P=>b P/\gk P p3 5 (Ac t q s r u) fun w23=>gk w23 p4 5 (Ac bS bT dY bU dZ) fun w24=>sI r1 a d p3 p4 w24 K)/\(cq B [(vi 0),(vi 0),(vu 0),ve,(vb ak)] 35 fun p5 U=>b U/\cq U [(vi 0),(vi 0),(vu 0),ve,(vb ak)] 35 fun p6 R=>b R/\gk R p6 5 (Ac t q s r u) fun w27=>gk w27 p5 5 (Ac bS bT dY bU dZ) fun w28=>sI r1 a d p6 p5 w28 K))/\(cq i [(vi 0),(vi 0),(vu 0),ve,(vb ak)] 35 fun X p=>b p/\(cl 140 #[(vp r1),(vi c)] p<|XU fun cI cJ gG cK gH w30=>cq w30 [(vi 0),(vi 0),(vu 0),ve,(vb ak)] 35 fun p8 J=>b J/\gk J X 5 (Ac t q s r u) fun Z=>gk Z p8 5 (Ac cI cJ gG cK gH) fun w33=>sI r1 a d X p8 w33 K)/\(cq p [(vi 0),(vi 0),(vu 0),ve,(vb ak)] 35 fun p9 E=>b E/\cl 140 #[(vp r1),(vi c)] E (XU fun eM eN oG eO oH w35=>gk w35 X 5 (Ac t q s r u) fun w36=>gk w36 p9 5 (Ac eM eN oG eO oH) fun w37=>sI r1 a d X p9 w37 K)))/\(cq i [(vi 0),(vi 0),(vu 0),ve,(vb ak)] 35 fun h k=>b k/\(cl 140 #[(vp r1),(vi c)] k<|XU fun cO cP oI cQ oJ w39=>cq w39 [(vi 0),(vi 0),(vu 0),ve,(vb ak)] 35 fun Q y=>b y/\gk y Q 5 (Ac t q s r u) fun Y=>gk Y h 5 (Ac cO cP oI cQ oJ) fun w42=>sI r1 a d Q h w42 K)/\(cq k [(vi 0),(vi 0),(vu 0),ve,(vb ak)] 35 fun N z=>b z/\cl 140 #[(vp r1),(vi c)] z (XU fun dM dN oK dO oL w44=>gk w44 N 5 (Ac t q s r u) fun w45=>gk w45 h 5 (Ac dM dN oK dO oL) fun w46=>sI r1 a d N h w46 K))))/\(cq j [(vi 0),(vi 0),(vu 0),ve,(vb ak)] 35 fun e l=>b l/\(cl 140 #[(vp r1),(vi f)] l<|XU fun dP dQ hE dR hF m=>b m/\(cl 140 #[(vp r1),(vi c)] m<|XU fun eX eY oM eZ oN w49=>cq w49 [(vi 0),(vi 0),(vu 0),ve,(vb ak)] 35 fun A O=>b O/\gk O e 5 (Ac dP dQ hE dR hF) fun w51=>gk w51 A 5 (Ac eX eY oM eZ oN) fun w52=>sI r1 a d e A w52 K)/\(cq m [(vi 0),(vi 0),(vu 0),ve,(vb ak)] 35 fun F x=>b x/\cl 140 #[(vp r1),(vi c)] x (XU fun fA fB oO fC oP w54=>gk w54 e 5 (Ac dP dQ hE dR hF) fun w55=>gk w55 F 5 (Ac fA fB oO fC oP) fun w56=>sI r1 a d e F w56 K)))/\(cq l [(vi 0),(vi 0),(vu 0),ve,(vb ak)] 35 fun L G=>b G/\cl 140 #[(vp r1),(vi f)] G (XU fun fD fE oQ fF oR S=>b S/\cl 140 #[(vp r1),(vi c)] S (XU fun fG fH oS fI oT w59=>gk w59 e 5 (Ac fD fE oQ fF oR) fun w60=>gk w60 L 5 (Ac fG fH oS fI oT) fun w61=>sI r1 a d e L w61 K))))/\(cq j [(vi 0),(vi 0),(vu 0),ve,(vb ak)] 35 fun g n=>b n/\(cl 140 #[(vp r1),(vi f)] n<|XU fun dS dT hG dU hH o=>b o/\(cl 140 #[(vp r1),(vi c)] o<|XU fun fJ fK oU fL oV w64=>cq w64 [(vi 0),(vi 0),(vu 0),ve,(vb ak)] 35 fun H V=>b V/\gk V H 5 (Ac dS dT hG dU hH) fun w66=>gk w66 g 5 (Ac fJ fK oU fL oV) fun w67=>sI r1 a d H g w67 K)/\(cq o [(vi 0),(vi 0),(vu 0),ve,(vb ak)] 35 fun W M=>b M/\cl 140 #[(vp r1),(vi c)] M (XU fun fM fN oW fO oX w69=>gk w69 W 5 (Ac dS dT hG dU hH) fun w70=>gk w70 g 5 (Ac fM fN oW fO oX) fun w71=>sI r1 a d W g w71 K)))/\(cq n [(vi 0),(vi 0),(vu 0),ve,(vb ak)] 35 fun T I=>b I/\cl 140 #[(vp r1),(vi f)] I (XU fun dV dW oY dX oZ C=>b C/\cl 140 #[(vp r1),(vi c)] C (XU fun fP fQ pA fR pB w74=>gk w74 T 5 (Ac dV dW oY dX oZ) fun w75=>gk w75 g 5 (Ac fP fQ pA fR pB) fun w76=>sI r1 a d T g w76 K))))) (∃a6,r1=ab a6/\ll w (a6.add 1) (vb ai) fun w77=>gk w77 d 5 (Aj 0 0 0 ak) fun v=>ni v d fun dA dB gC dC gD=>K dA dB gC dC gD v)
def GB(r1:Option ao)(a b:Int)(d:ao)(r2:ByteArray)(r3:Int)(f:Bool)(w:af)(K:rY):Prop:=Br f (cl 189 #[(vp r1),(vi b)] w<|XY fun g l h=>gk h d 5 (Ac 2 a g l ak) fun c=>ni c d fun k i e m j=>K k i e m j c) (Br (decide (r2=(⟨#[114,101,115,111,108,118,101]⟩:ByteArray))) (CL r1 a d r3 (decide (a<=1)) w K)<|CL r1 a d r3 ak w K)
def GO(r1:Option ao)(a b:Int)(c:ao)(r2:ByteArray)(r3:Int)(m:Bool)(w:af)(K:rY):Prop:=Br m (cl 189 #[(vp r1),(vi r3)] w<|XY fun k f g=>gk g c 5 (Ac 6 0 k f ak) fun d=>ni d c fun l h e i j=>K l h e i j d) (Br (decide (r2=(⟨#[100,101,97,108]⟩:ByteArray))) (GB r1 a b c r2 r3 (decide (a<=1)) w K)<|GB r1 a b c r2 r3 ak w K)
def Fk(r1:Option ao)(a b:Int)(c:ao)(r2:ByteArray)(r3:Int)(k:Bool)(w:af)(K:rY):Prop:=Br k (cl 142 #[(vp r1),(vi r3),(vi 2)] w<|XL fun q o p h n m r l=>gk l c 5 (Aj 5 0 h ak) fun d=>ni d c fun f i j g e=>K f i j g e d) (Br (decide (r2=(⟨#[105,110,115,116,101,97,100]⟩:ByteArray))) (GO r1 a b c r2 r3 (a==2) w K)<|GO r1 a b c r2 r3 ak w K)
def GD(r1:Option ao)(a b:Int)(c:ao)(r2:ByteArray)(r3:Int)(f:Bool)(w:af)(K:rY):Prop:=Br f (cl 142 #[(vp r1),(vi r3),(vi 2)] w<|XL fun o q m j p n l i=>gk i c 5 (Aj 3 0 j ak) fun d=>ni d c fun g k dF h e=>K g k dF h e d) (Br (decide (r2=(⟨#[97,98,111,114,116,101,100]⟩:ByteArray))) (Fk r1 a b c r2 r3 (a==2) w K)<|Fk r1 a b c r2 r3 ak w K)
def OY(r1:Option ao)(b a:Int)(e:af)(K:rY):Prop:=cq e [(vi 0),(vi 0),(vu 0),ve,(vb ak)] 35 fun c f=>cl 141 #[(vp r1),(vi a)] f<|XV fun r2 r3 d=>Br (decide (r2=(⟨#[97,98,111,114,116]⟩:ByteArray))) (GD r1 b a c r2 r3 (b==0) d K)<|GD r1 b a c r2 r3 ak d K
def w_B(r1 who1 body1 w0 K)(h:OY r1 who1 body1 w0 K):
  cl 139 #[(vp r1),(vi who1),(vi body1)] w0<|XU K:=
 gg func139 h<|fy 0<|cc 2 call141<|dd<|fh<|jc [Bool] 5 0 [0,1,2,6,7,8] (fun g=>[(22,(vb g))]) (fun g w=>GD _ _ _ _ _ _ g w _) (fun p=>br 1 3 (gn 4<|p _)<|gn 4<|p _)<|fun {g}=>br 0 0 (cc 3 call142<|dh<|xe<|fh<|gj 2<|gu 0<|ia<|jq<|gw)<|jc [Bool] 1 0 [0,1,2,6,7,8] (fun i=>[(34,(vb i))]) (fun i w=>Fk _ _ _ _ _ _ i w _) (fun n=>br 1 3 (gn 4<|n _)<|gn 4<|n _)<|fun {i}=>br 0 0 (cc 3 call142<|dh<|xe<|fh<|gj 2<|gu 0<|ia<|jq<|gw)<|jc [Bool] 1 0 [0,1,2,6,7,8] (fun d=>[(46,(vb d))]) (fun d w=>GO _ _ _ _ _ _ d w _) (fun m=>br 1 3 (gn 4<|m _)<|gn 4<|m _)<|fun {d}=>br 0 0 (cc 3 call189<|dd<|fh<|gj 8<|gu 0<|ia<|jq<|gw)<|jc [Bool] 1 0 [0,1,2,6,7,8] (fun c=>[(62,(vb c))]) (fun c w=>GB _ _ _ _ _ _ c w _) (fun q=>br 1 3 (gn 4<|q _)<|gn 4<|q _)<|fun {c}=>br 0 0 (cc 3 call189<|dd<|fh<|gj 9<|gu 0<|ia<|jq<|gw)<|jc [Bool] 1 0 [0,1,6,8] (fun k=>[(79,(vb k))]) (fun k w=>CL _ _ _ _ k w _) (fun s=>br 1 3 (gn 4<|s _)<|gn 4<|s _)<|fun {k}=>br 0 0 (cc 3 call142<|dh<|xe<|fh<|fy 0<|gj 0<|jc [ao,ao] 0 0 [0,1,6] (fun a1 a2=>[(14,(vp<|ab a1)),(15,(vp<|ab a2))]) (fun a1 a2 w=>sI _ _ _ a1 a2 w _) (fun a=>ug 0 [3,7,8,9,10,11] [7,10,11]<|km 2<|km 2<|OJ 0 (cc 0 call140<|ia<|rt<|o9<|OJ 0 (cc 0 call140<|ia<|fh<|rZ 0 (ql 0<|ql 0<|gj 0<|gj 0<|gn 0<|a _ _)<|ql 0<|ql 0<|gj 0<|gj 0<|gn 0<|a _ _) (ql 0<|rZ 0 (cc 0 call140<|ia<|fh<|ql 0<|gj 0<|gj 0<|gn 0<|a _ _)<|ql 0<|cc 0 call140<|ia<|fh<|gj 0<|gj 0<|gn 0<|a _ _)<|ql 0<|rZ 0 (cc 0 call140<|ia<|fh<|ql 0<|gj 0<|gj 0<|gn 0<|a _ _)<|ql 0<|cc 0 call140<|ia<|fh<|gj 0<|gj 0<|gn 0<|a _ _) (ql 0<|rZ 0 (cc 0 call140<|ia<|rt<|o9<|rZ 0 (cc 0 call140<|ia<|fh<|ql 0<|gj 0<|gj 0<|gn 0<|a _ _)<|ql 0<|cc 0 call140<|ia<|fh<|gj 0<|gj 0<|gn 0<|a _ _)<|ql 0<|cc 0 call140<|ia<|rt<|o9<|cc 0 call140<|ia<|fh<|gj 0<|gj 0<|gn 0<|a _ _)<|ql 0<|rZ 0 (cc 0 call140<|ia<|rt<|o9<|rZ 0 (cc 0 call140<|ia<|fh<|ql 0<|gj 0<|gj 0<|gn 0<|a _ _)<|ql 0<|cc 0 call140<|ia<|fh<|gj 0<|gj 0<|gn 0<|a _ _)<|ql 0<|cc 0 call140<|ia<|rt<|o9<|cc 0 call140<|ia<|fh<|gj 0<|gj 0<|gn 0<|a _ _)<|fun {a1 a2}=>jc [] 0 0 [1,6,14,15] ([]) (fun w=>DW _ _ _ _ w _) (fun r=>nc 2<|ld 1<|ct 1 4<|jc [Bool] 0 0 [1,6,14,15,97] (fun j=>[(106,(vb j))]) (fun j w=>GL _ _ _ _ _ j w _) (fun l=>br 1 0 (gn 4<|l _)<|ld 1<|gn 2<|l _)<|fun {j}=>ct 1 4<|jc [Bool] 0 0 [1,6,14,15,97] (fun f=>[(111,(vb f))]) (fun f w=>DM _ _ _ _ _ f w _) (fun o=>br 1 0 (gn 4<|o _)<|ld 1<|gn 2<|o _)<|fun {f}=>ct 1 6<|jc [Bool] 0 0 [1,6,14,15,97] (fun e=>[(118,(vb e))]) (fun e w=>Gx _ _ _ _ _ e w _) (fun b=>br 1 0 (gn 6<|b _)<|ld 1<|ld 1<|gn 2<|b _)<|fun {e}=>br 1 1 (nc 6<|kz 1<|gn 0 r)<|ld 1<|ld 1<|nc 2<|kz 1<|gn 0 r)<|ld 2<|ld 1<|ld 1<|br 1 1 (gj 4<|gu 0<|ia<|jq<|gw)<|ld 1<|gj 2<|gu 0<|ia<|jq<|gw)<|nc 2<|kz 1<|gj 1<|gu 0<|ia<|jq<|gw
def Km(r1:Option ao)(c a:ao)(w:af)(K:rY):Prop:=li w (a.add 5) fun g=>cl 189 #[(vp r1),(vi g)] w<|XY fun r3 l b=>li b (a.add 1) fun f=>li b a fun h=>gk b c 5 (Ac 1 f r3 l<|h==9) fun d=>ni d c fun k i dF j e=>K k i dF j e d
def FT(r1:Option ao)(a c:ao)(j:Bool)(w:af)(K:rY):Prop:=Br j (∃a2,r1=ab a2/\ll w (a2.add 1) (vb ai) fun p=>gk p a 5 (Aj 0 0 0 ak) fun d=>ni d a fun q n s h f=>K q n s h f d) (li w (c.add 2) fun i=>li w (c.add 1) fun o=>Br (i !=(q6.wrap<|1-o)) (∃a3,r1=ab a3/\ll w (a3.add 1) (vb ai) fun l=>gk l a 5 (Aj 0 0 0 ak) fun b=>ni b a fun k r g e m=>K k r g e m b) (Km r1 a c w K))
def GN(r1:Option ao)(b a:ao)(d:Bool)(w:af)(K:rY):Prop:=Br d (FT r1 b a ai w K)<|li w (a.add 1) fun c=>FT r1 b a (decide (c>1)) w K
def QE(r1:Option ao)(g:Int)(m:af)(K:rY):Prop:=cq m [(vi 0),(vi 0),(vu 0),ve,(vb ak)] 35 fun c d=>jz d r1 fun k=>cl 109 #[(vp k),(vi g)] d<|XH fun j p h r n i f r2 o=>cq o [(vi 0),(vi 0),(vi 0),(vu 0),ve,(vi 0),(vi 0)] 119 fun a q=>gk q a 7 (Ab j p h r n i f) fun b=>li b a fun e=>Br (e !=8) (li b a fun l=>GN r1 c a (l !=9) b K)<|GN r1 c a ak b K
def Wh(r1 t1 w0 K)(h:QE r1 t1 w0 K):
  cl 140 #[(vp r1),(vi t1)] w0<|XU K:=
 gg func140 h<|fy 0<|nc 1<|ld 1<|cc 1 call109<|dh<|dd<|fh<|fy 3<|gj 0<|jc [] 1 1 [0,4,5] ([]) (fun w=>Km _ _ _ w _) (fun e=>ld 1<|ct 2 4<|jc [Bool] 0 0 [0,4,5] (fun a=>[(25,(vb a))]) (fun a w=>GN _ _ _ a w _) (fun c=>br 1 0 (ld 1<|gn 2<|c _)<|gn 4<|c _)<|fun {a}=>ct 1 4<|jc [Bool] 0 0 [0,4,5] (fun b=>[(30,(vb b))]) (fun b w=>FT _ _ _ b w _) (fun d=>br 1 0 (gn 4<|d _)<|ld 1<|gn 2<|d _)<|fun {b}=>br 1 1 (nc 9<|kz 1<|gj 1<|gu 0<|ia<|jq<|gw)<|ld 1<|ld 1<|br 0 3 (nc 2<|kz 1<|gj 1<|gu 0<|ia<|jq<|gw)<|gn 1 e)<|ld 2<|cc 0 call189<|dd<|fh<|ld 6<|ld 3<|gj 2<|gu 0<|ia<|jq<|gw
def Oy(r1:Option ao)(g:Int)(q:af)(K:ByteArray->Int->WP):Prop:=cl 142 #[(vp r1),(vi g),(vi 4)] q<|XL fun n l p m s k f h=>cq h [(vi 0),(vi 0),(vi 0),(vu 0),ve,(vi 0),(vi 0)] 119 fun a i=>gk i a 7 (Ab n l p m s k f) fun r=>jh r fun b o=>∃c,(∀w',b w'->w'.cell? (a.add 5)=ab (vi c))/\∃d,(∀w',b w'->w'.cell? (a.add 6)=ab (vi d))/\cl 142 #[(vp r1),(vi c),(vi 3)] o (XL fun y t x u j w v e=>b e/\K j d e)
def V9(r1 t1 w0 K)(h:Oy r1 t1 w0 K):
  cl 141 #[(vp r1),(vi t1)] w0<|XV K:=
 gg func141 h<|cc 4 call142<|dh<|xe<|fh<|fy 0<|gj 0<|ug 0 [3] []<|km 2<|km 1<|cc 0 call142<|dh<|xe<|rt<|o9<|rr 3
def LH(r1:Option ao)(k a:Int)(V:af)(K:Pq):Prop:=cq V [(vi 0),(vi 0),(vi 0),(vu 0),ve,(vi 0),(vi 0)] 119 fun b e=>jz e r1 fun D=>cl 109 #[(vp D),(vi k)] e<|XH fun H w N x Z r j r2 p=>cq p [(vi 0),(vi 0),(vi 0),(vu 0),ve,(vi 0),(vi 0)] 119 fun d W=>gk W d 7 (Ab H w N x Z r j) fun c=>Br (!r2) (∃a2,r1=ab a2/\ll c (a2.add 1) (vb ai) fun Y=>gk Y b 7 [(vi 0),(vi 0),(vi 0),(vu 0),ve,(vi 0),(vi 0)] fun f=>ov f b fun L q y I o O T=>K L q y I o O T f) (li c d fun S=>Br (S !=a) (∃a3,r1=ab a3/\ll c (a3.add 1) (vb ai) fun P=>gk P b 7 [(vi 0),(vi 0),(vi 0),(vu 0),ve,(vi 0),(vi 0)] fun h=>ov h b fun Q F u C t i v=>K Q F u C t i v h) (ov c d fun X l s A G n R=>gk c b 7 (Ab X l s A G n R) fun g=>ov g b fun z U J B m E M=>K z U J B m E M g))
def Wr(r1 t1 kind1 w0 K)(h:LH r1 t1 kind1 w0 K):
  cl 142 #[(vp r1),(vi t1),(vi kind1)] w0<|XL K:=
 gg func142 h<|fy 0<|nc 1<|ld 1<|cc 1 call109<|dh<|dd<|fh<|fy 3<|gj 0<|br 1 4 (nc 7<|kz 1<|gj 1<|gu 0<|dh<|xe<|jq<|gw)<|ld 1<|br 0 3 (nc 2<|kz 1<|gj 1<|gu 0<|dh<|xe<|jq<|gw)<|dh<|xe<|lr 1<|gj 0<|gu 0<|dh<|xe<|jq<|gw
def Fz(r1:Option ao)(b:ao)(w:af)(K:O7):Prop:=jh w fun a i=>∃d,(∀w',a w'->w'.cell? (b.add 5)=ab (vi d))/\∃f,(∀w',a w'->w'.cell? (b.add 6)=ab (vi f))/\cl 142 #[(vp r1),(vi d),(vi 2)] i (XL fun u n r g k q p c=>a c/\cl 142 #[(vp r1),(vi f),(vi 3)] c (XL fun o s l j h t m e=>a e/\K g h e))
def MN(r1:Option ao)(e:Int)(k:af)(K:O7):Prop:=cl 141 #[(vp r1),(vi e)] k<|XV fun r2 r3 l=>cl 142 #[(vp r1),(vi r3),(vi 4)] l<|XL fun h o i q m g d n=>cq n [(vi 0),(vi 0),(vi 0),(vu 0),ve,(vi 0),(vi 0)] 119 fun b p=>gk p b 7 (Ab h o i q m g d) fun a=>PA a r1 1 fun c=>Br c (∃a2,r1=ab a2/\ll a (a2.add 1) (vb ai) fun j=>Fz r1 b j K) (∃a3,r1=ab a3/\ll a (a3.add 1) (vb<|!(decide (r2=(⟨#[100,101,97,108]⟩:ByteArray)))) fun f=>Fz r1 b f K)
def Z8(r1 t1 w0 K)(h:MN r1 t1 w0 K):
  cl 189 #[(vp r1),(vi t1)] w0<|XY K:=
 gg func189 h<|cc 4 call141<|dd<|fh<|cc 7 call142<|dh<|xe<|fh<|fy 0<|gj 0<|jc [] 0 0 [0,8] ([]) (fun w=>Fz _ _ w _) (fun a=>nc 2<|ld 1<|br 1 1 (nc 3<|kz 1<|gn 0 a)<|nc 3<|kz 1<|gn 0 a)<|ug 0 [3,8] []<|km 2<|km 2<|cc 0 call142<|dh<|xe<|rt<|o9<|cc 1 call142<|dh<|xe<|rt<|o9<|rr 3
def QC(l1:Sl)(i1 n2:Int)(H:NP)(w:af)(a:vt)(K:ke):Prop:=∃a4:ao,At l1 i1 9 a4/\∃b:Sl,w.cell? (a4.add 8)=ab b.v/\Br (decide ((b.ay:Int)>265)) (K ai w) (a n2 (q6.wrap<|i1+1) H w)
def NW(l1:Sl)(i1 n3 d:Int)(g:Bool)(H:NP)(w:af)(a:vt)(b:vt)(K:ke):Prop:=Br g (∃a5:ao,At l1 i1 9 a5/\∃e:Sl,w.cell? (a5.add 8)=ab e.v/\∃c:ao,At e d 5 c/\∃f,w.cell? (c.add 4)=ab (vs f)/\b (q6.wrap<|n3+(f.size:Int)) (q6.wrap<|d+1) H w)<|QC l1 i1 n3 H w a K
def U8(l1:Sl)(i1 n3 b:Int)(j:af)(c:NP)(a:af)(d:vt)(e:vt)(K:ke):Prop:=∃h:ao,At l1 i1 9 h/\∃g:Sl,a.cell? (h.add 8)=ab g.v/\∀f i,au j c a f i->NW l1 i1 n3 b ((decide (b<(g.ay:Int)))&&(decide (b<=256))) f i d e K
def jbz(l1:Sl)(n1 i1:Int)(i:af)(f:NP)(g:af)(j:vt)(K:ke):Prop:=Br ((decide (i1<(l1.ay:Int)))&&(decide (i1<=60))) (∃a1:ao,At l1 i1 9 a1/\∀m d,au i f g m d->∃n,d.cell? (a1.add 1)=ab (vs n)/\∃a2:ao,At l1 i1 9 a2/\∃p,d.cell? ((a2.add 2).add 3)=ab (vs p)/\∃a3:ao,At l1 i1 9 a3/\∃o:Sl,d.cell? (a3.add 8)=ab o.v/\∃(l:Int->Int->NP->WP) (e:Int->Int->af->Nat),l (q6.wrap<|(q6.wrap<|(q6.wrap<|n1+(n.size:Int))+(p.size:Int))+(o.ay:Int)) 0 m d/\∀(n3 k:Int) (b:NP) (a:af),au i b a b a->l n3 k b a->U8 l1 i1 n3 k i b a j (fun h c r w'=>l h c r w'/\e h c w'<e n3 k a) K)<|∀s q,au i f g s q->K ((decide ((l1.ay:Int)>60)) ||(decide (n1>60000))) q
def w_V(l1:Sl)(n:af)(K:ke)(h:∃(o:Int->Int->NP->WP) (f:Int->Int->af->Nat),o 0 0 bl n/\∀(n1 i1:Int) (c:NP) (a:af),au n c a c a->o n1 i1 c a->jbz l1 n1 i1 n c a (fun j d x w'=>o j d x w'/\f j d w'<f n1 i1 a) K):
  cl 7 #[l1.v] n<|XC K:=
 gh func7 h<|wa (l:=[Int,Int]) (v:=(_,_,())) 3 [0] (fun n1 i1=>[(3,(vi n1)),(4,(vi i1))])<|fun {_ _ n1 i1}=>fun q=>pj 0 0 [(decide (i1<(l1.ay:Int)))] [0,3,4] (fun b=>[(13,(vb<|(b 0)&&(decide (i1<=60))))]) (fun g=>pb 1 5 0 g (fun g=>pe 3 0 g)<|fun g=>pe 3 0 g)<|br 0 0 (dq 1<|ix 3<|ah<|ld 1<|ix 4<|ld 2<|ix 4<|ld 1<|ja [Int] 4 1 [0,4] (fun n2=>[(3,(vi n2))]) (fun n2 H w=>QC _ _ n2 H w _ _) (fun p=>wa (l:=[Int,Int]) (v:=(_,_,())) 0 [0,4] (fun n3 m=>[(3,(vi n3)),(5,(vi m))])<|fun {_ _ n3 m}=>fun s=>ja [Bool] 0 0 [0,3,4,5] (fun k=>[(50,(vb k))]) (fun k H w=>NW _ _ _ _ k H w _ _ _) (fun r=>ix 3<|ld 1<|fun {u}=>ct 3 3<|pj 0 0 [(decide (m<(u.ay:Int)))] [0,3,4,5] (fun b=>[(50,(vb<|(b 0)&&(decide (m<=256))))]) (fun i=>pb 1 0 0 i (fun i=>pe 3 0 i)<|fun i=>pe 3 0 i)<|ah<|je 0 0<|r _)<|fun {k}=>br 0 0 (ix 4<|ld 1<|ix 1<|ld 1<|je 6 0<|s _ _)<|je 1 0<|p _)<|fun {n2}=>ix 2<|ld 1<|br 0 2 (rr 2)<|je 4 0<|q _ _)<|pj 1 0 [] [] (fun b=>[(2,(vb<|(decide ((l1.ay:Int)>60)) ||(decide (n1>60000))))]) (fun t=>ct 4 3<|pj 0 0 [(decide ((l1.ay:Int)>60))] [] (fun b=>[(78,(vb<|(b 0) ||(decide (n1>60000))))]) (fun e=>pb 1 0 0 e (fun e=>pe 3 0 e)<|fun e=>pe 3 0 e)<|pe 1 0 t)<|ah<|rr 0
def jcW(g i j:Int)(e:ByteArray)(k:Bool)(c:af)(K:II)(h:∀d b,au c bl c d b->cl 98 #[(.agg #[(vi g),(vi i),(vu j),(vs e),(vb k)])] b (XR fun r1 r2 a=>av d b a/\∃f,(convert 59 9 r1.v).run prog a=.ok (vs f) a/\K f a)):
  cl 40 #[(.agg #[(vi g),(vi i),(vu j),(vs e),(vb k)])] c<|YC K:=
 gh func40 h<|nh 0<|j9 1 0 [] 5<|ah<|cc 0 call98<|dd<|cz<|xe<|rn 6<|rr 1
def RR(a:Int):Int:=a
def Cs(a:Int)(c:af):cl 16 #[(.int .i64 a)] c (fun e w'=>e=.returned (.int .i64<|RR a)/\aq c w'):=
 nT func16 [] (fun b=>(vi a)) fun d=>jk 3 d
def Kh(r1:Option ao)(b:Bool)(H:NP)(w:af)(K:ke):Prop:=Br b (cl 13 #[(vp r1),(.agg #[(vi 0),(vu 9),(vs (⟨#[120]⟩:ByteArray))])] w<|XC fun r2 a=>av H w a/\K r2 a) (K ak w)
def JO(r1:Option ao)(b:Bool)(H:NP)(w:af)(K:ke):Prop:=Br b (cl 21 #[(vp r1),(vi 0)] w<|XC fun r3 a=>av H w a/\Kh r1 r3 H a K) (Kh r1 ak H w K)
def JB(r1:Option ao)(d:Bool)(c:af)(H:NP)(w:af)(K:ke):Prop:=Br d (cl 41 #[(vp r1),(vi 2)] w<|XB fun e a=>av H w a/\∀b,au c H a H b->JO r1 (e==2) H b K) (JO r1 ak H w K)
def JP(r1:Option ao)(a1:Bool)(a:af)(H:NP)(w:af)(K:ke):Prop:=Br a1 (cl 41 #[(vp r1),(vi 0)] w<|XB fun d c=>av H w c/\∀b,au a H c H b->JB r1 (d==0) a H b K) (JB r1 ak a H w K)
def Hh(r1:Option ao)(c:Bool)(a:af)(H:NP)(w:af)(K:ke):Prop:=Br c (cl 21 #[(vp r1),(vi 1)] w<|XC fun d b=>av H w b/\JP r1 (!d) a H b K) (JP r1 ak a H w K)
def ID(r1:Option ao)(f:Bool)(c:af)(H:NP)(w:af)(K:ke):Prop:=Br f (K ak w)<|cl 13 #[(vp r1),(.agg #[(vi 1),(vu 7),(vs (⟨#[116]⟩:ByteArray))])] w<|XC fun d b=>av H w b/\Br d (cl 13 #[(vp r1),(.agg #[(vi 0),(vu 7),(vs (⟨#[116]⟩:ByteArray))])] b<|XC fun e a=>av H b a/\Hh r1 (!e) c H a K) (Hh r1 ak c H b K)
def Z6(d:af)(K:ke):Prop:=cl 9 #[] d<|XD fun r1 e=>av bl d e/\Br (Option.isNone r1) (K ak e) (cl 40 #[(.agg #[(vi 2),(vi 1),(vu 7),(vs (⟨#[116]⟩:ByteArray)),(vb ak)])] e<|YC fun h b=>av bl e b/\cl 23 #[(vp r1),(vs h)] b (XC fun f a=>av bl b a/\Br (!f) (ID r1 ai d bl a K) (cl 23 #[(vp r1),(vs (⟨#[120]⟩:ByteArray))] a<|XC fun g c=>av bl a c/\ID r1 g d bl c K)))
def W9(j:af)(K:ke)(h:Z6  j K):
  cl 8 #[] j<|XC K:=
 gh func8 h<|cc 1 call9<|xe<|cz<|br 0 3 (rr 2)<|ja [Bool] 1 0 [1] (fun b=>[(14,(vb b))]) (fun b H w=>ID _ b _ H w _) (fun l=>cc 2 call40<|xe<|cz<|cc 0 call23<|xe<|cz<|br 1 2 (je 3 0<|l _)<|cc 1 call23<|xe<|cz<|je 1 0<|l _)<|fun {b}=>br 0 0 (rr 2)<|ja [Bool] 1 0 [1] (fun a1=>[(2,(vb a1))]) (fun a1 H w=>JP _ a1 _ H w _) (fun g=>cc 2 call13<|xe<|cz<|ct 1 5<|ja [Bool] 0 0 [1] (fun e=>[(23,(vb e))]) (fun e H w=>Hh _ e _ H w _) (fun i=>br 1 0 (cc 2 call13<|xe<|cz<|je 2 0<|i _)<|je 5 0<|i _)<|fun {e}=>br 1 1 (cc 1 call21<|xe<|cz<|je 3 0<|g _)<|je 5 0<|g _)<|fun {a1}=>ct 2 5<|ja [Bool] 0 0 [1] (fun c=>[(35,(vb c))]) (fun c H w=>JB _ c _ H w _) (fun f=>br 1 0 (cc 1 call41<|xe<|fun {o}=>cz<|cp 0 call16 (Cs o)<|an<|je 2 0<|f _)<|je 5 0<|f _)<|fun {c}=>ct 1 5<|ja [Bool] 0 0 [1] (fun d=>[(41,(vb d))]) (fun d H w=>JO _ d H w _) (fun k=>br 1 0 (cc 1 call41<|xe<|fun {n}=>cz<|cp 0 call16 (Cs n)<|an<|je 2 0<|k _)<|je 5 0<|k _)<|fun {d}=>ct 1 3<|ja [Bool] 0 0 [1] (fun a=>[(45,(vb a))]) (fun a H w=>Kh _ a H w _) (fun m=>br 1 0 (cc 1 call21<|xe<|cz<|je 1 0<|m _)<|je 3 0<|m _)<|fun {a}=>br 1 1 (cc 2 call13<|xe<|cz<|rr 2)<|rr 5
def Iz(d:Option ao)(f:Option ao)(c:ByteArray)(e:Bool)(H:NP)(w:af)(K:Sh):Prop:=Br e (cl 45 #[(vp f),(vs c)] w<|XC fun b a=>av H w a/\K d b a) (K d ak w)
def QU(c:Option ao)(t:Option ao)(n:Int)(P:ByteArray)(aE aF W:Int)(V:ByteArray)(aI:Bool)(N:Int)(Q:Sl)(d:af)(K:Sh):Prop:=Br (n==0) (∀e i,au d bl d e i->jh i fun T S=>cl 23 #[(vp c),(vs P)] S<|XC fun r1 C=>T C/\av e S C/\cl 45 #[(vp t),(vs P)] C (XC fun r2 M=>T M/\av e C M/\K c (r1==r2) M)) (Br (n==1) (∀e i,au d bl d e i->cl 40 #[(.agg #[(vi aE),(vi aF),(vu W),(vs V),(vb aI)])] i (YC fun r3 F=>av e i F/\cl 23 #[(vp c),(vs r3)] F (XC fun r4 I=>av e F I/\cl 45 #[(vp t),(vs r3)] I (XC fun r5 R=>av e I R/\K c (r4==r5) R))))<|Br (n==2) (∀e i,au d bl d e i->jh i fun H O=>cl 41 #[(vp c),(vi N)] O<|XB fun X g=>H g/\av e O g/\cl 16 #[(vi X)] g (XB fun r7 h=>H h/\av e g h/\cl 46 #[(vp t),(vi N)] h (XB fun r8 o=>H o/\av e h o/\K c (r7==r8) o))) (Br (cond (n==3) (n==3)<|n==4) (∀b a,au d bl d b a->cq a [] 88 fun Z B=>∃s1:Sl,∃m:af,(cm #[36,36] 36 #[(Sl.mk (ab Z) 0 0).v,Q.v]).run prog B=.ok s1.v m/\av b B m/\cl 14 #[(vp c),s1.v] m (YD fun J w G s=>av b m s/\cl 47 #[(vp t),Q.v] s (YD fun k p L l=>av b s l/\Br ((n==4)&&(p==0)) (Br ((decide (J=k))&&(w==p)) (∀u f,au d b l u f->cl 23 #[(vp c),(vs J)] f (XC fun E z=>av u f z/\Iz c t k E u z K))<|∀u f,au d b l u f->Iz c t k ak u f K) (∀Y x,au d b l Y x->K c (((decide (J=k))&&(w==p))&&(G==L)) x)))) (Br (n==5) (∀b a,au d bl d b a->cl 22 #[(vp c)] a (XD fun A j=>av b a j/\Br (Option.isNone A) (K bo ak j) (cl 41 #[(vp c),(vi 0)] j<|XB fun U q=>av b j q/\cl 40 #[(.agg #[(vi 6),(vi 0),(vu 77),(vs (⟨#[122,122]⟩:ByteArray)),(vb ak)])] q (YC fun D r=>av b q r/\cl 23 #[(vp c),(vs D)] r (XC fun r20 y=>av b r y/\K A ai y))))) (∀b a,au d bl d b a->K c ai a))))
def Xx(f1 w1 aA aB aE aF aG aH aI aC aD w0 K)(h:QU f1 w1 aA aB aE aF aG aH aI aC aD w0 K):
  cl 11 #[(vp f1),(vp w1),(.agg #[(vi aA),(vs aB),(vi aE),(vi aF),(vu aG),(vs aH),(vb aI),(vi aC),aD.v])] w0<|YE K:=
 gh func11 h<|nh 0<|lh 3 0 []<|br 0 2 (ah<|dC 1 [4,8] []<|ki 3 0 [1]<|ki 2 0 [1]<|cc 0 call23<|xe<|gQ<|cc 0 call45<|xe<|gQ<|rr 3)<|br 0 3 (j9 2 0 [2] 5<|ah<|cc 0 call40<|xe<|cz<|cc 4 call23<|xe<|cz<|cc 2 call45<|xe<|cz<|rr 3)<|br 0 3 (ah<|dC 1 [4,5,9] []<|ki 3 0 [7]<|ki 2 0 [7]<|cc 0 call41<|xe<|gQ<|cc 0 call16<|xe<|gQ<|cc 0 call46<|xe<|gQ<|rr 3)<|pj 3 0 [(aA==3)] [0,1,5,17] (fun b=>[(56,(vb<|cond (b 0) (aA==3)<|aA==4))]) (fun l=>pb 0 0 0 l (fun l=>pe 1 0 l)<|fun l=>pe 3 0 l)<|br 0 0 (ah<|jx 2<|lh 1 0 [8]<|dd<|ef 0<|nR<|cc 0 call14<|rW<|fun {m a i}=>cz<|lh 9 0 [8]<|cc 0 call47<|rW<|fun {d c j}=>cz<|pj 7 0 [(aA==4)] [0,1,9,10,11,12,13,14] (fun b=>[(83,(vb<|(b 0)&&(c==0)))]) (fun f=>lh 1 0 []<|pb 1 2 0 f (fun f=>pe 3 0 f)<|fun f=>pe 3 0 f)<|br 0 0 (ct 6 5<|pj 0 0 [(decide (m=d))] [0,1,9,12,84] (fun b=>[(93,(vb<|(b 0)&&(a==c)))]) (fun g=>pb 1 0 0 g (fun g=>cp 1 call16 (Cs a)<|pe 3 0 g)<|fun g=>pe 5 0 g)<|ct 1 4<|ja [Bool] 0 0 [1,12,84] (fun n=>[(98,(vb n))]) (fun n H w=>Iz _ _ _ n H w _) (fun o=>br 1 0 (ah<|cc 2 call23<|xe<|cz<|je 1 0<|o _)<|ah<|je 4 0<|o _)<|fun {n}=>br 1 1 (cc 2 call45<|xe<|cz<|rr 3)<|rr 6)<|pj 1 0 [] [] (fun b=>[(6,(vp f1)),(7,(vb<|((decide (m=d))&&(a==c))&&(i==j)))]) (fun p=>ct 5 5<|pj 0 0 [(decide (m=d))] [11,14,104] (fun b=>[(113,(vb<|(b 0)&&(a==c)))]) (fun e=>pb 1 0 0 e (fun e=>cp 1 call16 (Cs a)<|pe 3 0 e)<|fun e=>pe 5 0 e)<|ct 1 4<|pj 0 0 [((decide (m=d))&&(a==c))] [104] (fun b=>[(118,(vb<|(b 0)&&(i==j)))]) (fun k=>pb 1 0 0 k (fun k=>pe 4 0 k)<|fun k=>pe 4 0 k)<|pe 2 0 p)<|ah<|rr 0)<|br 0 3 (ah<|cc 2 call22<|xe<|cz<|br 0 3 (rr 3)<|cc 2 call41<|xe<|cz<|cc 2 call40<|xe<|cz<|cc 0 call23<|xe<|cz<|rr 3)<|ah<|rr 4
def jaT(c:af)(K:sL):Prop:=cl 44 #[] c<|XD fun r1 d=>cq d [(vp r1),Sl.nil.v] 48 fun a e=>cq e [(vp<|ab a),(vb ak),(vb ak)] 52 fun b f=>K (ab b) f
theorem jbE(a:af)(K:sL)(h:jaT  a K):
  cl 10 #[] a<|XD K:=
 gg func10 h<|cc 1 call44<|xe<|fh<|fy 1<|fy 1<|rr 1
theorem UX(b:Option ao)(a:af)(K:iy)(h:jz a b fun c=>pE a c 1 fun d=>K (d.ay:Int) a):
  cl 29 #[(vp b)] a<|XB K:=
 gg func29 h<|nc 2<|ld 1<|nc 0<|ld 1<|rr 2
theorem Ur(e:Option ao)(a:Int)(d:af)(K:ke)(h:Br ((a == 0) || (a == 1)) (∃a1,e=ab a1/\∃a2:ao,Bs (a1.add 1) a 2 1 a2/\lb d a2 fun f=>K f d) (K ak d)):
  cl 31 #[(vp e),(vi a)] d<|XC K:=
 gg func31 h<|ct 4 3<|Dk 0 0 [(a==0)] [0,1] (fun b=>[(10,(vb<|(b 0) ||(a==1)))]) (fun c=>pb 1 0 0 c (fun c=>wF 3 c)<|fun c=>wF 3 c)<|br 1 1 (nc 2<|Gg 1<|ld 0<|rr 2)<|rr 8
def BO(b c:Int)(a:ByteArray):Int×Int×Int×ByteArray×Bool:=(2,b,c,a,ak)
theorem Wd(d a:Int)(c:ByteArray)(f:af):cl 91 #[(.agg #[(.int .i64 d),(.int .u64 a),(.string c)])] f (fun e w'=>e=.returned (.agg #[(.int .i64 (BO d a c).1),(.int .i64 (BO d a c).2.1),(.int .u64 (BO d a c).2.2.1),(.string (BO d a c).2.2.2.1),(.bool (BO d a c).2.2.2.2)])/\aq f w'):=
 nT func91 [] (fun b=>(Ag 2 d a c ak)) fun g=>nh 0<|nh 0<|lh 1 1 []<|lh 1 1 [1]<|lh 1 1 [2]<|sg 1 0 []<|gu 0<|nW 0 [] 5<|Dx g
theorem jbx(d:Option ao)(j g m:Int)(l:ByteArray)(i:Bool)(e:af)(K:ke)(h:∀c k,au e bl e c k->jh k fun q b=>jz b d fun o=>jz b o fun p=>cl 149 #[(vp p),(.agg #[(vi j),(vi g),(vu m),(vs l),(vb i)])] b<|XK fun r1 r2 a=>q a/\av c b a/\Br (r2 == 0) (jz a d fun n=>cl 97 #[(vp n),(vi r1)] a<|XC fun r3 f=>av c a f/\K r3 f) (K ak a)):
  cl 90 #[(vp d),(.agg #[(vi j),(vi g),(vu m),(vs l),(vb i)])] e<|XC K:=
 gh func90 h<|nh 0<|ah<|dC 1 [8] []<|nc 1<|pN 1<|nc 0<|pN 1<|qa 0 0 [] 5<|cc 0 call149<|dd<|gQ<|br 1 8 (nc 1<|ld 1<|cc 1 call97<|xe<|cz<|rr 2)<|rr 8
def Cw(c b:Int)(a:ByteArray):Int×Int×Int×ByteArray×Bool:=(6,0,b,a,ak)
theorem WY(d a:Int)(c:ByteArray)(f:af):cl 92 #[(.agg #[(.int .i64 d),(.int .u64 a),(.string c)])] f (fun e w'=>e=.returned (.agg #[(.int .i64 (Cw d a c).1),(.int .i64 (Cw d a c).2.1),(.int .u64 (Cw d a c).2.2.1),(.string (Cw d a c).2.2.2.1),(.bool (Cw d a c).2.2.2.2)])/\aq f w'):=
 nT func92 [] (fun b=>(Ag 6 0 a c ak)) fun g=>nh 0<|nh 0<|lh 1 1 [1]<|lh 1 1 [2]<|sg 1 0 []<|gu 0<|nW 0 [] 5<|Dx g
theorem jcq(j:Option ao)(a e:Int)(g:ByteArray)(d:af)(K:ke)(h:Br ((a == 0) || (a == 1)) (∀c k,au d bl d c k->cl 90 #[(vp j),(.agg #[(vi 2),(vi a),(vu e),(vs g),(vb ak)])] k (XC fun r1 i=>av c k i/\Br r1 (K ai i) (∀l,au d c i c l->cl 90 #[(vp j),(.agg #[(vi 6),(vi 0),(vu e),(vs g),(vb ak)])] l (XC fun r2 m=>av c l m/\K r2 m)))) (∀c n,au d bl d c n->K ak n)):
  cl 32 #[(vp j),(.agg #[(vi a),(vu e),(vs g)])] d<|XC K:=
 gh func32 h<|nh 0<|lh 2 0 []<|ct 2 4<|pj 0 0 [(a==0)] [0,3] (fun b=>[(12,(vb<|(b 0) ||(a==1)))]) (fun f=>pb 1 0 0 f (fun f=>pe 4 0 f)<|fun f=>lh 1 0 []<|pe 2 0 f)<|br 1 1 (j9 1 0 [] 3<|cp 0 call91 (Wd a e g)<|ah<|cc 0 call90<|xe<|cz<|br 1 1 (rr 7)<|j9 1 0 [] 3<|cp 0 call92 (WY a e g)<|an<|cc 0 call90<|xe<|cz<|rr 3)<|ah<|rr 12
theorem jdw(c:Option ao)(a:Int)(b:af)(K:ke)(h:jz b c fun f=>jz b f fun g=>cl 122 #[(vp g),(.agg #[(vi 6),(vi a),(vi 0),(vu 0),ve,(vi 0),(vi 0)])] b<|XE fun r1 r2 d=>Br r2 (jz d c fun e=>cl 94 #[(vp e)] d<|XA fun r3 i=>cl 150 #[r3.v,(vi r1)] i<|XC K) (K ak d)):
  cl 93 #[(vp c),(vi a)] b<|XC K:=
 gg func93 h<|nc 2<|ld 1<|nc 0<|ld 1<|cc 2 call122<|dd<|fh<|br 1 7 (nc 1<|ld 1<|cc 0 call94<|xe<|fh<|cc 1 call150<|xe<|fh<|rr 2)<|rr 9
theorem jbo(d:Option ao)(a:Int)(e:af)(K:ke)(h:Br ((a == 0) || (a == 1)) (cl 93 #[(vp d),(vi a)] e<|XC fun r1 f=>Br r1 (K ai f)<|cl 93 #[(vp d),(vi 2)] f<|XC K) (K ak e)):
  cl 33 #[(vp d),(vi a)] e<|XC K:=
 gg func33 h<|ct 4 3<|Dk 0 0 [(a==0)] [0,1] (fun b=>[(10,(vb<|(b 0) ||(a==1)))]) (fun c=>pb 1 0 0 c (fun c=>wF 3 c)<|fun c=>wF 3 c)<|br 1 1 (cc 2 call93<|xe<|fh<|br 1 1 (rr 5)<|cc 1 call93<|xe<|fh<|rr 3)<|rr 9
def NS(a1 b1:Sl)(i1:Int)(g:af)(a:NP)(b:af)(d:pR)(K:ke):Prop:=Br (decide (i1<(a1.ay:Int))) (∃a2:ao,At a1 i1 1 a2/\∀c,au g a b a c->ls c a2 fun e=>∃a3:ao,At b1 i1 1 a3/\ls c a3 fun f=>Br (!(decide (e=f))) (K ak c)<|d (q6.wrap<|i1+1) a c)<|K ai b
theorem YK(a1 b1:Sl)(d:af)(K:ke)(h:Br (((a1.ay:Int):Int) != (b1.ay:Int)) (K ak d) (∃(f:Int->NP->WP) (c:Int->af->Nat),f 0 bl d/\∀(i1:Int) (b:NP) (a:af),au d b a b a->f i1 b a->NS a1 b1 i1 d b a (fun e g w'=>f e g w'/\c e w'<c i1 a) K)):
  cl 34 #[a1.v,b1.v] d<|XC K:=
 gh func34 h<|br 0 6 (rr 2)<|wa (l:=[Int]) (v:=(_,())) 2 [0,1] (fun i1=>[(5,(vi i1))])<|fun {_ _ i1}=>fun i=>br 0 4 (dq 1<|ix 2<|an<|ld 0<|ix 2<|ld 0<|br 0 1 (rr 2)<|je 4 0<|i _)<|rr 2
theorem jca(m p k:Int)(o:ByteArray)(f:Bool)(j n l:Int)(i:ByteArray)(g:Bool)(c:af)(K:ke)(h:Br (m != j) (∀d a,au c bl c d a->K (decide (m<j)) a) (Br (p != n) (∀d a,au c bl c d a->K (decide (p<n)) a)<|Br (k != l) (∀d a,au c bl c d a->K (decide (k<l)) a)<|Br (!(decide (o=i))) (∀d a,au c bl c d a->∃b1,(Go.binOp .lss 9 (vs o)<|vs i).run prog a=.ok (vb b1) a/\K b1 a)<|∀s q,au c bl c s q->K ((!f) && g) q)):
  cl 95 #[(.agg #[(vi m),(vi p),(vu k),(vs o),(vb f)]),(.agg #[(vi j),(vi n),(vu l),(vs i),(vb g)])] c<|XC K:=
 gh func95 h<|nh 0<|nh 0<|lh 2 1 []<|lh 1 0 []<|br 0 1 (lh 2 1 []<|lh 1 0 []<|ah<|rr 2)<|lh 2 1 [1]<|lh 1 0 [1]<|br 0 1 (lh 2 1 [1]<|lh 1 0 [1]<|ah<|rr 2)<|lh 2 1 [2]<|lh 1 0 [2]<|br 0 1 (lh 2 1 [2]<|lh 1 0 [2]<|ah<|rr 2)<|lh 2 1 [3]<|lh 1 0 [3]<|br 0 1 (lh 2 1 [3]<|lh 1 0 [3]<|ah<|xe<|rb 0<|rr 1)<|pj 1 0 [] [] (fun b=>[(4,(vb<|(!f)&&g))]) (fun r=>lh 1 1 [4]<|ct 2 3<|pj 0 0 [(!f)] [] (fun b=>[(51,(vb<|(b 0)&&g))]) (fun e=>pb 1 0 0 e (fun e=>lh 1 0 [4]<|pe 1 0 e)<|fun e=>pe 3 0 e)<|pe 1 0 r)<|ah<|rr 0
theorem tW(a0 a1 a2:Int)(a3:ByteArray)(a4:Bool)(b0 b1 b2:Int)(b3:ByteArray)(b4:Bool)(w:af):(Go.binOp .eql 35 (.agg #[(.int .i64 a0),(.int .i64 a1),(.int .u64 a2),(.string a3),(.bool a4)])<|.agg #[(.int .i64 b0),(.int .i64 b1),(.int .u64 b2),(.string b3),(.bool b4)]).run prog w=.ok (.bool<|(a0==b0)&&((a1==b1)&&((a2==b2)&&((decide (a3=b3))&&(a4==b4))))) w:=by
 simp[Go.binOp,Op.equal,Op.maxDepth,go_sem,xd,bne]
 repeat' split
 all_goals simp_all
def Cc(d:Sl)(i1:Int)(a2:ao)(ju:Int)(L:Bool)(H:NP)(w:af)(g:qq)(Q:iu):Prop:=Br L (g d (q6.wrap<|i1+1) H w)<|jh w fun a E=>∃s1:Sl,(∀w',a w'->(Instr.sliceAt 64 d.v bo (ab<|vi ju) bo).run prog w'=.ok s1.v w')/\∃t y r p o,(∀w',a w'->Row w' a2 (Ac t y r p o))/\∃q:Sl,(∀w',a w'->(Instr.sliceAt 64 d.v (ab<|vi ju) bo bo).run prog w'=.ok q.v w')/\(cq E [] 35 fun C x=>a x/\(∃B:Sl,∃s:af,(cm #[64,64] 64 #[(Sl.mk (ab C) 0 0).v,s1.v]).run prog x=.ok B.v s/\a s/\av H x s/\cq s [(vi t),(vi y),(vu r),(vs p),(vb o)] 35 fun O A=>a A/\∃G:Sl,∃l:af,(cm #[64,64] 64 #[B.v,(Sl.mk (ab O) 1 1).v]).run prog A=.ok G.v l/\a l/\av H A l/\∃K:Sl,∃u:af,(cm #[64,64] 64 #[G.v,q.v]).run prog l=.ok K.v u/\a u/\av H l u/\g K (q6.wrap<|i1+1) H u)/\(cq x [(vi t),(vi y),(vu r),(vs p),(vb o)] 35 fun M z=>a z/\∃I:Sl,∃m:af,(cm #[64,64] 64 #[(Sl.mk (ab C) 0 0).v,s1.v]).run prog z=.ok I.v m/\a m/\av H z m/\∃F:Sl,∃b:af,(cm #[64,64] 64 #[I.v,(Sl.mk (ab M) 1 1).v]).run prog m=.ok F.v b/\a b/\av H m b/\∃D:Sl,∃f:af,(cm #[64,64] 64 #[F.v,q.v]).run prog b=.ok D.v f/\a f/\av H b f/\g D (q6.wrap<|i1+1) H f))/\(cq E [(vi t),(vi y),(vu r),(vs p),(vb o)] 35 fun P j=>a j/\cq j [] 35 fun N i=>a i/\∃J:Sl,∃e:af,(cm #[64,64] 64 #[(Sl.mk (ab N) 0 0).v,s1.v]).run prog i=.ok J.v e/\a e/\av H i e/\∃k:Sl,∃c:af,(cm #[64,64] 64 #[J.v,(Sl.mk (ab P) 1 1).v]).run prog e=.ok k.v c/\a c/\av H e c/\∃n:Sl,∃h:af,(cm #[64,64] 64 #[k.v,q.v]).run prog c=.ok n.v h/\a h/\av H c h/\g n (q6.wrap<|i1+1) H h)
def D4(b:Sl)(i1:Int)(a2:ao)(e:Bool)(ju:Int)(d:af)(H:NP)(w:af)(c:qq)(K:iu):Prop:=Br (!e) (∀a,au d H w H a->Cc b i1 a2 ju ai H a c K)<|Br (decide (ju<(b.ay:Int))) (∃a3:ao,At b ju 5 a3/\∀a,au d H w H a->ni a a3 fun o m g i l=>ni a a2 fun j f n h k=>Cc b i1 a2 ju ((o==j)&&((m==f)&&((g==n)&&((decide (i=h))&&(l==k))))) H a c K)<|∀a,au d H w H a->Cc b i1 a2 ju ak H a c K
def Zu(a:Sl)(i1:Int)(a2:ao)(g:Bool)(b:Int)(j:af)(e:NP)(h:af)(f:qq)(i:pR)(K:iu):Prop:=jh h fun u c=>Br (decide (b<(a.ay:Int))) (∃a4:ao,At a b 5 a4/\ni c a4 fun k q s r n=>ni c a2 fun t m l o p=>cl 95 #[(.agg #[(vi k),(vi q),(vu s),(vs r),(vb n)]),(.agg #[(vi t),(vi m),(vu l),(vs o),(vb p)])] c<|XC fun r2 d=>u d/\av e c d/\Br r2 (i (q6.wrap<|b+1) e d) (D4 a i1 a2 g b j e d f K)) (D4 a i1 a2 g b j e c f K)
def Gc(d:Sl)(i1:Int)(a2:ao)(h:Bool)(j:af)(H:NP)(w:af)(g:qq)(K:iu):Prop:=∃(i:Int->NP->WP) (f:Int->af->Nat),i 0 H w/\∀(c:Int) (b:NP) (a:af),au j b a b a->i c b a->Zu d i1 a2 h c j b a g (fun e k w'=>i e k w'/\f e w'<f c a) K
def Zl(F:Option ao)(r1 b:Sl)(i1:Int)(t:af)(a:NP)(l:af)(j:qq)(K:iu):Prop:=Br (decide (i1<(r1.ay:Int))) (jh l fun c d=>∃a5,F=ab a5/\∃s,(∀w',c w'->w'.cell? a5=ab (vp s))/\∃p,s=ab p/\∃n,(∀w',c w'->w'.cell? p=ab (vp n))/\∃q:ao,At r1 i1 1 q/\∃m,(∀w',c w'->w'.cell? q=ab (vi m))/\(cl 55 #[(vp n),(vi m)] d<|XW fun D y x u E r3 g=>c g/\av a d g/\cq g [(vi 0),(vi 0),(vu 0),ve,(vb ak)] 35 fun r h=>c h/\rI h a r 5 (Ac D y x u E) fun k=>c k/\Gc b i1 r r3 t a k j K)/\(cq d [(vi 0),(vi 0),(vu 0),ve,(vb ak)] 35 fun o e=>c e/\cl 55 #[(vp n),(vi m)] e (XW fun A z B v w C f=>c f/\av a e f/\rI f a o 5 (Ac A z B v w) fun i=>c i/\Gc b i1 o C t a i j K))) (K b l)
def JC(i:Option ao)(f:af)(K:iu):Prop:=jz f i fun l=>cl 94 #[(vp l)] f<|XA fun r1 j=>av bl f j/\∃(h:Sl->Int->NP->WP) (e:Sl->Int->af->Nat),h Sl.nil 0 bl j/\∀(a:Sl) (i1:Int) (c:NP) (b:af),au f c b c b->h a i1 c b->Zl i r1 a i1 f c b (fun g d k w'=>h g d k w'/\e g d w'<e a i1 b) K
theorem w_L(f1 w0 K)(h:JC f1 w0 K):
  cl 37 #[(vp f1)] w0<|XA K:=
 gh func37 h<|nc 3<|ld 1<|cc 0 call94<|xe<|cz<|wa (l:=[Sl,Int]) (v:=(_,_,())) 2 [0,4] (fun b i1=>[(3,(Sl.v b)),(5,(vi i1))])<|fun {_ _ b i1}=>fun e=>br 0 4 (ja [ao,Bool] 1 0 [0,3,4,5] (fun a2 a=>[(6,(vp<|ab a2)),(7,(vb a))]) (fun a2 a H w=>Gc _ _ a2 a _ H w _ _) (fun i=>dC 0 [11,15,16] []<|nc 1<|km 1<|nc 0<|km 1<|ix 2<|km 0<|rZ 0 (cc 0 call55<|dh<|gQ<|py 3<|CC 0<|je 1 0<|i _ _)<|py 0<|cc 0 call55<|dh<|gQ<|CC 3<|je 1 0<|i _ _)<|fun {a2 a}=>ja [Int] 1 1 [0,3,4,5,6,7] (fun ju=>[(8,(vi ju))]) (fun ju H w=>D4 _ _ _ _ ju _ H w _ _) (fun g=>wa (l:=[Int]) (v:=(_,())) 0 [0,3,4,5,6,7] (fun c=>[(8,(vi c))])<|fun {_ _ c}=>fun j=>dC 0 [10] []<|br 1 5 (ix 2<|ia<|QJ 0<|ia<|QJ 0<|cc 0 call95<|xe<|gQ<|br 0 1 (je 4 0<|j _)<|je 1 0<|g _)<|je 8 0<|g _)<|fun {ju}=>ja [Bool] 0 0 [0,3,4,5,6,8] (fun d=>[(64,(vb d))]) (fun d H w=>Cc _ _ _ _ d H w _ _) (fun f=>dq 0<|br 1 3 (an<|je 13 0<|f _)<|br 1 5 (ix 2<|an<|ia<|fun {m p k r t}=>lr 0<|ia<|fun {u o q n s}=>lr 0<|ae 0 (tW m p k r t u o q n s)<|je 2 0<|f _)<|an<|je 8 0<|f _)<|fun {d}=>br 0 0 (je 4 0<|e _ _)<|dC 1 [0,4,6,7,11] []<|xe<|wJ 2<|ia<|wD 0<|xe<|wJ 2<|rZ 0 (py 0<|rZ 0 (dd<|ef 0<|oE<|py 0<|dd<|ef 0<|oE<|dd<|ef 0<|oE<|je 4 0<|e _ _)<|py 0<|dd<|ef 0<|oE<|dd<|ef 0<|oE<|dd<|ef 0<|oE<|je 4 0<|e _ _)<|py 0<|py 0<|dd<|ef 0<|oE<|dd<|ef 0<|oE<|dd<|ef 0<|oE<|je 4 0<|e _ _)<|rr 3
def Er(r1 f:Sl)(i1 ju:Int)(K:Bool)(H:NP)(w:af)(h:qq)(M:iu):Prop:=Br K (h f (q6.wrap<|i1+1) H w)<|jh w fun a F=>∃s1:Sl,(∀w',a w'->(Instr.sliceAt 79 f.v bo (ab<|vi ju) bo).run prog w'=.ok s1.v w')/\∃a1:ao,At r1 i1 5 a1/\∃p,(∀w',a w'->w'.cell? (a1.add 3)=ab (vs p))/\∃o:Sl,(∀w',a w'->(Instr.sliceAt 79 f.v (ab<|vi ju) bo bo).run prog w'=.ok o.v w')/\(cq F [] 9 fun y q=>a q/\(∃x:Sl,∃s:af,(cm #[79,79] 79 #[(Sl.mk (ab y) 0 0).v,s1.v]).run prog q=.ok x.v s/\a s/\av H q s/\cq s [(vs p)] 9 fun J t=>a t/\∃B:Sl,∃m:af,(cm #[79,79] 79 #[x.v,(Sl.mk (ab J) 1 1).v]).run prog t=.ok B.v m/\a m/\av H t m/\∃E:Sl,∃r:af,(cm #[79,79] 79 #[B.v,o.v]).run prog m=.ok E.v r/\a r/\av H m r/\h E (q6.wrap<|i1+1) H r)/\(cq q [(vs p)] 9 fun G u=>a u/\∃C:Sl,∃b:af,(cm #[79,79] 79 #[(Sl.mk (ab y) 0 0).v,s1.v]).run prog u=.ok C.v b/\a b/\av H u b/\∃A:Sl,∃c:af,(cm #[79,79] 79 #[C.v,(Sl.mk (ab G) 1 1).v]).run prog b=.ok A.v c/\a c/\av H b c/\∃z:Sl,∃g:af,(cm #[79,79] 79 #[A.v,o.v]).run prog c=.ok z.v g/\a g/\av H c g/\h z (q6.wrap<|i1+1) H g))/\(cq F [(vs p)] 9 fun L n=>a n/\cq n [] 9 fun I j=>a j/\∃D:Sl,∃e:af,(cm #[79,79] 79 #[(Sl.mk (ab I) 0 0).v,s1.v]).run prog j=.ok D.v e/\a e/\av H j e/\∃k:Sl,∃d:af,(cm #[79,79] 79 #[D.v,(Sl.mk (ab L) 1 1).v]).run prog e=.ok k.v d/\a d/\av H e d/\∃l:Sl,∃i:af,(cm #[79,79] 79 #[k.v,o.v]).run prog d=.ok l.v i/\a i/\av H d i/\h l (q6.wrap<|i1+1) H i)
def Gh(r1 b:Sl)(i1 ju:Int)(d:af)(H:NP)(w:af)(c:qq)(K:iu):Prop:=Br (decide (ju<(b.ay:Int))) (∃a2:ao,At b ju 1 a2/\∀a,au d H w H a->ls a a2 fun f=>∃a3:ao,At r1 i1 5 a3/\ls a (a3.add 3) fun e=>Er r1 b i1 ju (decide (f=e)) H a c K) (∀a,au d H w H a->Er r1 b i1 ju ak H a c K)
def jab(r1 c:Sl)(i1 d:Int)(g:af)(b:NP)(f:af)(e:qq)(h:pR)(K:iu):Prop:=Br (decide (d<(c.ay:Int))) (∃a4:ao,At c d 1 a4/\∀a,au g b f b a->ls a a4 fun j=>∃a5:ao,At r1 i1 5 a5/\ls a (a5.add 3) fun i=>∃b2,(Go.binOp .lss 9 (vs j)<|vs i).run prog a=.ok (vb b2) a/\Br b2 (h (q6.wrap<|d+1) b a) (Gh r1 c i1 d g b a e K)) (∀a,au g b f b a->Gh r1 c i1 d g b a e K)
def C8(r1 c:Sl)(i1:Int)(k:Bool)(i:af)(H:NP)(w:af)(e:qq)(K:iu):Prop:=Br k (e c (q6.wrap<|i1+1) H w)<|∃(h:Int->NP->WP) (g:Int->af->Nat),h 0 H w/\∀(d:Int) (b:NP) (a:af),au i b a b a->h d b a->jab r1 c i1 d i b a e (fun f j w'=>h f j w'/\g f w'<g d a) K
def GC(g:Int)(r1 a:Sl)(i1 h f:Int)(i:Bool)(e:af)(H:NP)(w:af)(c:qq)(K:iu):Prop:=∀d b,au e H w d b->C8 r1 a i1 ((h !=g) ||((f !=6)&&i)) e d b c K
def TP(e h:Int)(r1 b:Sl)(i1:Int)(f:af)(c:NP)(a:af)(d:qq)(K:iu):Prop:=Br (decide (i1<(r1.ay:Int))) (∃l:ao,At r1 i1 5 l/\lu a (l.add 2) fun i=>Br (i !=h) (C8 r1 b i1 ai f c a d K)<|∃j:ao,At r1 i1 5 j/\li a j fun g=>Br (g !=6) (∃k:ao,At r1 i1 5 k/\li a k fun n=>Br (n !=2) (GC h r1 b i1 i g ai f c a d K)<|∃m:ao,At r1 i1 5 m/\li a (m.add 1) fun o=>GC h r1 b i1 i g (o !=e) f c a d K) (C8 r1 b i1 ak f c a d K)) (K b a)
def Kd(o:Option ao)(a m:Int)(e:af)(K:iu):Prop:=Br ((a !=0)&&(a !=1)) (∀h f,au e bl e h f->K Sl.nil f)<|∀h f,au e bl e h f->cl 37 #[(vp o)] f (XA fun r1 l=>av h f l/\∃(k:Sl->Int->NP->WP) (i:Sl->Int->af->Nat),k Sl.nil 0 h l/\∀(b:Sl) (i1:Int) (d:NP) (c:af),au e d c d c->k b i1 d c->TP a m r1 b i1 e d c (fun j g n w'=>k j g n w'/\i j g w'<i b i1 c) K)
theorem Xc(f1 who1 c1 w0 K)(h:Kd f1 who1 c1 w0 K):
  cl 35 #[(vp f1),(vi who1),(vu c1)] w0<|XA K:=
 gh func35 h<|pj 1 0 [(who1 !=0)] [0,1,2] (fun b=>[(16,(vb<|(b 0)&&(who1 !=1)))]) (fun i=>pb 1 3 0 i (fun i=>pe 3 0 i)<|fun i=>pe 3 0 i)<|br 0 0 (ah<|rr 2)<|ah<|cc 3 call37<|xe<|cz<|wa (l:=[Sl,Int]) (v:=(_,_,())) 2 [1,2,8] (fun c i1=>[(7,(Sl.v c)),(9,(vi i1))])<|fun {_ _ c i1}=>fun e=>br 0 4 (ja [Bool] 1 0 [1,2,7,8,9] (fun j=>[(56,(vb j))]) (fun j H w=>C8 _ _ _ j _ H w _ _) (fun m=>ix 2<|ld 1<|fun {r}=>br 1 3 (je 24 0<|m _)<|ix 2<|ld 1<|fun {n}=>br 1 2 (ix 2<|ld 1<|ct 2 8<|ja [Bool] 0 0 [1,2,7,8,9,32,39] (fun d=>[(54,(vb d))]) (fun d H w=>GC _ _ _ _ _ _ d _ H w _ _) (fun p=>br 1 0 (je 8 0<|p _)<|ix 2<|ld 1<|je 3 0<|p _)<|fun {d}=>ct 0 2<|pj 0 0 [(r !=c1)] [1,2,7,8,9] (fun b=>[(56,(vb<|(b 0) ||((n !=6)&&d)))]) (fun g=>pb 1 0 0 g (fun g=>pe 2 0 g)<|fun g=>ct 0 1<|pj 0 0 [(n !=6)] [1,2,7,8,9,32] (fun b=>[(55,(vb<|(b 0)&&d))]) (fun a=>pb 2 0 0 a (fun a=>pe 1 0 a)<|fun a=>pe 1 0 a)<|pe 1 0 g)<|ah<|je 0 0<|m _)<|je 17 0<|m _)<|fun {j}=>br 0 0 (je 4 0<|e _ _)<|ja [Int] 2 1 [1,2,7,8,9] (fun ju=>[(10,(vi ju))]) (fun ju H w=>Gh _ _ _ ju _ H w _ _) (fun o=>wa (l:=[Int]) (v:=(_,())) 0 [1,2,7,8,9] (fun f=>[(10,(vi f))])<|fun {_ _ f}=>fun s=>dq 0<|br 1 5 (ix 2<|an<|ld 0<|ix 2<|ld 1<|xe<|rb 0<|br 0 1 (je 4 0<|s _)<|je 1 0<|o _)<|an<|je 12 0<|o _)<|fun {ju}=>ja [Bool] 0 0 [1,2,7,8,9,10] (fun k=>[(90,(vb k))]) (fun k H w=>Er _ _ _ _ k H w _ _) (fun q=>dq 0<|br 1 5 (ix 2<|an<|ld 0<|ix 2<|ld 1<|je 2 0<|q _)<|an<|je 11 0<|q _)<|fun {k}=>br 0 0 (je 4 0<|e _ _)<|dC 1 [0,4,10,11,15] []<|xe<|wJ 2<|ix 2<|km 1<|xe<|wJ 2<|rZ 0 (py 0<|rZ 0 (dd<|ef 0<|oE<|py 0<|dd<|ef 0<|oE<|dd<|ef 0<|oE<|je 4 0<|e _ _)<|py 0<|dd<|ef 0<|oE<|dd<|ef 0<|oE<|dd<|ef 0<|oE<|je 4 0<|e _ _)<|py 0<|py 0<|dd<|ef 0<|oE<|dd<|ef 0<|oE<|dd<|ef 0<|oE<|je 4 0<|e _ _)<|rr 3
theorem jCQ(a0 a1 a2:Int)(a3:ByteArray)(a4:Bool)(b0 b1 b2:Int)(b3:ByteArray)(b4:Bool)(w:af):(Go.binOp .neq 35 (.agg #[(.int .i64 a0),(.int .i64 a1),(.int .u64 a2),(.string a3),(.bool a4)])<|.agg #[(.int .i64 b0),(.int .i64 b1),(.int .u64 b2),(.string b3),(.bool b4)]).run prog w=.ok (.bool<|!((a0==b0)&&((a1==b1)&&((a2==b2)&&((decide (a3=b3))&&(a4==b4)))))) w:=by
 simp[Go.binOp,Op.equal,Op.maxDepth,go_sem,xd,bne]
 repeat' split
 all_goals simp_all
def Vq(a1 b1:Sl)(i1:Int)(i:af)(a:NP)(b:af)(d:pR)(K:ke):Prop:=Br (decide (i1<(a1.ay:Int))) (∃a2:ao,At a1 i1 5 a2/\∀c,au i a b a c->ni c a2 fun f m l n j=>∃a3:ao,At b1 i1 5 a3/\ni c a3 fun o h e g k=>Br (!((f==o)&&((m==h)&&((l==e)&&((decide (n=g))&&(j==k)))))) (K ak c)<|d (q6.wrap<|i1+1) a c)<|K ai b
theorem jaL(a1 b1:Sl)(d:af)(K:ke)(h:Br (((a1.ay:Int):Int) != (b1.ay:Int)) (K ak d) (∃(f:Int->NP->WP) (c:Int->af->Nat),f 0 bl d/\∀(i1:Int) (b:NP) (a:af),au d b a b a->f i1 b a->Vq a1 b1 i1 d b a (fun e k w'=>f e k w'/\c e w'<c i1 a) K)):
  cl 36 #[a1.v,b1.v] d<|XC K:=
 gh func36 h<|br 0 6 (rr 2)<|wa (l:=[Int]) (v:=(_,())) 2 [0,1] (fun i1=>[(5,(vi i1))])<|fun {_ _ i1}=>fun o=>br 0 4 (dq 1<|ix 2<|an<|ia<|fun {i r q s m}=>lr 0<|ix 2<|ia<|fun {t n g j p}=>lr 0<|ae 0 (jCQ i r q s m t n g j p)<|br 0 0 (rr 2)<|je 4 0<|o _)<|rr 2
theorem SS(d:Option ao)(j k:Int)(g bK:Int)(m:ByteArray)(i:Sl)(e:af)(K:ke)(h:∀c l,au e bl e c l->jh l fun q b=>jz b d fun o=>jz b o fun p=>cl 96 #[(vp p),(.agg #[(vi j),(vi k),(vi g),(vu bK),(vs m),i.v])] b<|XK fun r1 r2 a=>q a/\av c b a/\Br (r2 == 0) (jz a d fun n=>cl 97 #[(vp n),(vi r1)] a<|XC fun r3 f=>av c a f/\K r3 f) (K ak a)):
  cl 39 #[(vp d),(.agg #[(vi j),(vi k),(vi g),(vu bK),(vs m),i.v])] e<|XC K:=
 gh func39 h<|nh 0<|ah<|dC 1 [8] []<|nc 1<|pN 1<|nc 0<|pN 1<|qa 0 0 [] 6<|cc 0 call96<|dd<|gQ<|br 1 8 (nc 1<|ld 1<|cc 1 call97<|xe<|cz<|rr 2)<|rr 8
theorem Z5(c:Option ao)(a:ByteArray)(b:af)(K:ke)(h:jz b c fun i=>jz b i fun j=>∃e:Sl,∃f:af,(convert 9 59<|vs a).run prog b=.ok e.v f/\cl 54 #[(vp j),e.v] f (XN fun r1 r2 r3 d=>Br (r2 != 0) (K ak d)<|jz d c fun g=>cl 100 #[(vp g),(vi r1)] d<|XB fun l k=>K ai k)):
  cl 45 #[(vp c),(vs a)] b<|XC K:=
 gg func45 h<|nc 2<|ld 1<|nc 0<|ld 1<|dd<|ef 1<|kv<|cc 0 call54<|rW<|fh<|br 0 9 (rr 2)<|nc 2<|ld 1<|cc 1 call100<|xe<|fh<|rr 1
theorem jbj(e:Option ao)(a:Int)(c:af)(K:iy)(h:Br ((a != 0) && (a != 1)) (K 2 c) (jz c e fun j=>jz c j fun k=>cl 60 #[(vp k),(.agg #[(vi 6),(vi a),(vi 0),(vu 0),ve,(vi 0),(vi 0)])] c<|XK fun r1 r2 f=>jz f e fun i=>cl 100 #[(vp i),(vi r1)] f<|XB fun r3 l=>∃a4,e=ab a4/\∃a5:ao,Bs (a4.add 1) a 2 1 a5/\ll l a5 (vb ai) fun g=>K 0 g)):
  cl 46 #[(vp e),(vi a)] c<|XB K:=
 gg func46 h<|Dk 1 0 [(a !=0)] [0,1] (fun b=>[(12,(vb<|(b 0)&&(a !=1)))]) (fun d=>pb 1 3 0 d (fun d=>wF 3 d)<|fun d=>wF 3 d)<|br 0 0 (rr 2)<|nc 2<|ld 1<|nc 0<|ld 1<|cc 2 call60<|dd<|fh<|nc 6<|ld 1<|cc 1 call100<|xe<|fh<|nc 2<|Gg 1<|kz 0<|rr 1
theorem jdf(d:Option ao)(l1:Sl)(g:af)(K:QB)(h:jh g fun n b=>jz b d fun k=>jz b k fun l=>jz b d fun j=>pE b j 1 fun m=>cl 101 #[(vp l),m.v,l1.v] b<|XN fun r1 r2 r3 a=>n a/\av bl b a/\Br (r2 != 0) (K ⟨#[]⟩ r2 r3 a) (jz a d fun i=>jz a i fun o=>cl 102 #[(vp o),(vi r1)] a<|XR fun p e c=>av bl a c/\Br (e != 0) (K ⟨#[]⟩ e 0 c) (∃f,(convert 59 9 p.v).run prog c=.ok (vs f) c/\K f 0 0 c))):
  cl 47 #[(vp d),l1.v] g<|YD K:=
 gh func47 h<|dC 3 [15] []<|nc 1<|pN 1<|nc 0<|pN 1<|nc 1<|pN 1<|nc 0<|pN 1<|cc 1 call101<|rW<|gQ<|br 0 9 (rr 6)<|nc 2<|ld 1<|nc 0<|ld 1<|cc 1 call102<|dd<|cz<|br 0 7 (rr 5)<|xe<|rn 2<|rr 3
def Wz(s1:Sl)(a:af)(K:iu)(h:∃b1,(Go.binOp .eql 59 s1.v Sl.nil.v).run prog a=.ok (vb b1) a/\Br b1 (K Sl.nil a) (cq a [] 5 fun d e=>∃c:Sl,∃b:af,(cm #[59,59] 59 #[(Sl.mk (ab d) 0 0).v,s1.v]).run prog e=.ok c.v b/\K c b)):
  cl 271 #[s1.v] a<|XA K:=
 gg func271 h<|xe<|rb 2<|br 0 0 (rr 2)<|fy 1<|dd<|ef 1<|kv<|rr 1
def jbd(c:Option ao)(b:Int)(a:af)(K:ke)(h:Br (decide (b>=1)) (nq a c fun d=>K (decide (b<=(d.ay:Int))) a) (K ak a)):
  cl 112 #[(vp c),(vi b)] a<|XC K:=
 gg func112 h<|br 1 4 (nc 2<|ld 1<|rr 4)<|rr 9
def jco(e:Option ao)(d:Int)(b:af)(K:H6)(h:∀a f,au b bl b a f->cl 112 #[(vp e),(vi d)] f (XC fun r1 c=>av a f c/\Br (!r1) (∀i,au b a c a i->K 0 0 0 0 ⟨#[]⟩ 0 0 ak i) (nq c e fun k=>∃a2:ao,At k (q6.wrap<|d - 1) 7 a2/\ov c a2 fun j m p q l o n=>∀g,au b a c a g->K j m p q l o n ai g))):
  cl 64 #[(vp e),(vi d)] b<|XH K:=
 gh func64 h<|nh 0<|ah<|cc 3 call112<|xe<|cz<|br 0 1 (sg 2 0 []<|an<|gu 1<|nW 0 [] 7<|gw)<|nc 2<|ld 1<|ix 2<|dh<|xe<|lr 0<|sg 0 0 []<|an<|gu 1<|nW 0 [] 7<|gw
def gy(a:Int):Int:=(cond (a==4) 2<|cond (cond (a==5) (a==5)<|cond (a==7) (a==7)<|cond (a==8) (a==8)<|a==9) 1 0)
def sn(a:Int)(f:af):cl 65 #[(.int .i64 a)] f (fun e w'=>e=.returned (.int .i64<|gy a)/\aq f w'):=
 nT func65 [(a==4),(cond (a==5) (a==5)<|cond (a==7) (a==7)<|cond (a==8) (a==8)<|a==9)] (fun b=>(vi<|cond (b 0) 2<|cond (b 1) 1 0)) fun d=>pb 0 4 0 d (fun d=>jk 2 d)<|fun d=>pj 3 0 [(a==5),(a==7),(a==8)] [] (fun b=>[(6,(vb<|cond (b 0) (a==5)<|cond (b 1) (a==7)<|cond (b 2) (a==8)<|a==9))]) (fun c=>pb 0 0 0 c (fun c=>pe 1 0 c)<|fun c=>pb 0 3 1 c (fun c=>pe 1 0 c)<|fun c=>pb 0 3 2 c (fun c=>pe 1 0 c)<|fun c=>pe 3 0 c)<|pb 0 0 1 d (fun d=>jk 2 d)<|fun d=>jk 2 d
def CS(p:Option ao)(y r:Int)(o k:Int)(i m:Int)(n:ByteArray)(l:Sl)(g:af)(H:NP)(w:af)(K:qz):Prop:=Br (((gy y):Int)==2) (∀j,au g H w H j->jh j fun h d=>cl 20 #[(vp p),(vi r)] d<|XT fun A x z q t u c=>h c/\av H d c/\cq c [(vi A),(vi x),(vi z),(vu q),(vs t),u.v] 71 fun s b=>h b/\∃s1:Sl,∃a:af,(cm #[69,69] 69 #[l.v,(Sl.mk (ab s) 1 1).v]).run prog b=.ok s1.v a/\h a/\av H b a/\∀f,au g H a H f->K o k i m n s1 f) (∀e,au g H w H e->K o k i m n l e)
def KY(k:Option ao)(x:Int)(c:af)(K:qz):Prop:=∀g m,au c bl c g m->cl 64 #[(vp k),(vi x)] m (XH fun h p o u r E q r1 l=>av g m l/\Br (!r1) (∀w t,au c g l w t->K 0 0 0 0 ⟨#[]⟩ Sl.nil t) (Br (decide ((gy h)>=1)) (∀a i,au c g l a i->jh i fun n f=>cl 20 #[(vp k),(vi E)] f<|XT fun B A C y z D e=>n e/\av a f e/\cq e [(vi B),(vi A),(vi C),(vu y),(vs z),D.v] 71 fun F d=>n d/\∃s:Sl,∃b:af,(cm #[69,69] 69 #[Sl.nil.v,(Sl.mk (ab F) 1 1).v]).run prog d=.ok s.v b/\n b/\av a d b/\∀j,au c a b a j->CS k h q h p o u r s c a j K) (∀a i,au c g l a i->CS k h q h p o u r Sl.nil c a i K)))
def jaO(p1 t1 w0 K)(h:KY p1 t1 w0 K):
  cl 20 #[(vp p1),(vi t1)] w0<|XT K:=
 gh func20 h<|nh 0<|ah<|cc 2 call64<|dh<|fun {g}=>dd<|cz<|nh 3<|sg 0 0 []<|br 0 3 (sg 2 1 []<|ah<|gu 0<|nW 1 [] 6<|gw)<|lh 2 0 []<|lh 1 0 [1]<|lh 1 0 [2]<|lh 1 0 [3]<|lh 1 0 [4]<|nh 1<|sg 0 0 []<|lh 1 1 []<|cp 0 call65 (sn g)<|jb [Int,Int,Int,Int,ByteArray,Sl] 1 0 [0,4,5,7] (fun f d a c e b=>[]) (fun f d a c e b l=>dn l 0 0 [(vi f),(vi d),(vi a),(vu c),(vs e),(Sl.v b)]) (fun f d a c e b H w=>CS _ _ _ f d a c e b _ H w _) (fun i=>br 0 0 (ah<|dC 1 [5,6,7,9] [9]<|ki 1 0 [5]<|ki 2 1 [5]<|cc 0 call20<|dh<|gQ<|py 0<|dd<|ef 0<|oE<|sh 1 0 [5]<|an<|je 0 0<|i _ _ _ _ _ _)<|ah<|je 1 0<|i _ _ _ _ _ _)<|fun {f d a c e b}=>lh 1 1 []<|cp 0 call65 (sn g)<|br 0 1 (an<|dC 1 [5,6,7,9] [9]<|ki 1 0 [5]<|ki 2 1 [6]<|cc 0 call20<|dh<|gQ<|py 0<|dd<|ef 0<|oE<|sh 1 0 [5]<|j9 0 0 [] 6<|sg 0 2 []<|an<|gu 0<|nW 2 [] 6<|gw)<|j9 1 0 [] 6<|sg 0 2 []<|an<|gu 0<|nW 2 [] 6<|gw
def jcx(g:Sl)(a n1 i1:Int)(h:af)(d:NP)(e:af)(f:vt)(K:iy):Prop:=Br ((decide (i1<(g.ay:Int)))&&(decide (n1<=a))) (∃a1:ao,At g i1 6 a1/\∀c b,au h d e c b->nj b a1 fun j l m o k n=>cl 27 #[(.agg #[(vi j),(vi l),(vi m),(vu o),(vs k),n.v]),(vi<|q6.wrap<|a-n1)] b<|XB fun r1 i=>av c b i/\f (q6.wrap<|n1+r1) (q6.wrap<|i1+1) c i) (∀c b,au h d e c b->K n1 b)
def Nr(q o:Int)(m n:Int)(p:ByteArray)(k:Sl)(c:Int)(g:af)(K:iy):Prop:=∀i j,au g bl g i j->∃(h:Int->Int->NP->WP) (e:Int->Int->af->Nat),h 1 0 i j/\∀(n1 i1:Int) (b:NP) (a:af),au g b a b a->h n1 i1 b a->jcx k c n1 i1 g b a (fun f d l w'=>h f d l w'/\e f d w'<e n1 i1 a) K
def jbW(aE aJ aK aL aM aD most1 w0 K)(h:Nr aE aJ aK aL aM aD most1 w0 K):
  cl 27 #[(.agg #[(vi aE),(vi aJ),(vi aK),(vu aL),(vs aM),aD.v]),(vi most1)] w0<|XB K:=
 gh func27 h<|nh 0<|ah<|wa (l:=[Int,Int]) (v:=(_,_,())) 3 [1,2] (fun n1 i1=>[(5,(vi n1)),(6,(vi i1))])<|fun {_ _ n1 i1}=>fun c=>pj 0 0 [(decide (i1<(aD.ay:Int)))] [1,2,5,6] (fun b=>[(16,(vb<|(b 0)&&(decide (n1<=most1))))]) (fun a=>lh 2 0 [5]<|pb 1 3 0 a (fun a=>pe 4 0 a)<|fun a=>pe 4 0 a)<|br 0 0 (lh 3 0 [5]<|ix 1<|ah<|dh<|lr 0<|cc 3 call27<|xe<|cz<|je 5 0<|c _ _)<|ah<|rr 3
def jaA(R L:Int)(B O:Int)(P:ByteArray)(x:Sl)(i1 H:Int)(Q G M:Int)(F:ByteArray)(k:Sl)(y:af)(a:NP)(f:af)(j:Int->Int->Int->Int->Int->ByteArray->Sl->NP->WP)(K:qz):Prop:=Br (decide (i1<(x.ay:Int))) (jh f fun g r=>∃a1:ao,At x i1 6 a1/\∃t q u z p w,(∀w',g w'->Row w' a1 (Af t q u z p w))/\cl 38 #[(.agg #[(vi t),(vi q),(vi u),(vu z),(vs p),w.v])] r (XT fun J C A S E I l=>g l/\av a r l/\cq l [(vi J),(vi C),(vi A),(vu S),(vs E),I.v] 71 fun N m=>g m/\∃s1:Sl,∃h:af,(cm #[69,69] 69 #[k.v,(Sl.mk (ab N) 1 1).v]).run prog m=.ok s1.v h/\g h/\av a m h/\∀d,au y a h a d->j (q6.wrap<|i1+1) H Q G M F s1 a d)) (jh f fun n i=>cq i [(vi<|-1),(vi 0),(vi 0),(vu 0),ve,Sl.nil.v] 71 fun D c=>n c/\∃s:Sl,∃b:af,(cm #[69,69] 69 #[k.v,(Sl.mk (ab D) 1 1).v]).run prog c=.ok s.v b/\n b/\av a c b/\∃o:Sl,(∀w',n w'->(Instr.sliceAt 69 s.v bo (ab<|vi (k.ay:Int)) bo).run prog w'=.ok o.v w')/\∀e,au y a b a e->K R L B O P o e)
def OG(y u:Int)(t v:Int)(w:ByteArray)(z:Sl)(k:af)(K:qz):Prop:=∀s x,au k bl k s x->∃(l:Int->Int->Int->Int->Int->ByteArray->Sl->NP->WP) (g:Int->Int->Int->Int->Int->ByteArray->Sl->af->Nat),l 0 y u t v w Sl.nil s x/\∀(i1 o:Int) (r n p:Int) (m:ByteArray) (q:Sl) (b:NP) (a:af),au k b a b a->l i1 o r n p m q b a->jaA y u t v w z i1 o r n p m q k b a (fun j c f h i d e A w'=>l j c f h i d e A w'/\g j c f h i d e w'<g i1 o r n p m q a) K
def VX(aE aJ aK aL aM aD w0 K)(h:OG aE aJ aK aL aM aD w0 K):
  cl 38 #[(.agg #[(vi aE),(vi aJ),(vi aK),(vu aL),(vs aM),aD.v])] w0<|XT K:=
 gh func38 h<|nh 0<|nh 0<|j9 0 1 [] 6<|nh 0<|sg 0 0 []<|sh 1 0 [5]<|ah<|wb (l:=[Int,Int,Int,Int,Int,ByteArray,Sl]) (v:=(_,_,_,_,_,_,_,())) 1 [1,2,3] (fun i1 b d a e f c=>[(4,(vi i1))]) (fun i1 b d a e f c l=>dn l 0 0 [(vi b),(vi d),(vi a),(vu e),(vs f),(Sl.v c)])<|fun {_ _ i1 b d a e f c}=>fun g=>lh 2 2 [5]<|br 0 2 (dC 1 [7,8,9,11] [11]<|ki 1 0 [5]<|ki 1 2 [5]<|ix 1<|dh<|wD 0<|cc 0 call38<|dh<|gQ<|py 0<|dd<|ef 0<|oE<|sh 1 0 [5]<|an<|je 3 0<|g _ _ _ _ _ _ _)<|lh 2 0 [5]<|dC 2 [13,14,18] [18]<|ki 1 2 []<|ki 1 2 [1]<|ki 1 2 [2]<|ki 1 2 [3]<|ki 1 2 [4]<|ki 1 0 [5]<|py 2<|dd<|ef 0<|oE<|xe<|wJ 0<|sg 1 1 []<|an<|gu 0<|nW 1 [] 6<|gw
def Ln(b:af)(K:sL):Prop:=cq b [Sl.nil.v,Sl.nil.v,Sl.nil.v] 44 fun a c=>K (ab a) c
def VF(a:af)(K:sL)(h:Ln  a K):
  cl 44 #[] a<|XD K:=
 gg func44 h<|fy 2<|rr 1
def YV(a:Int):Bool:=((a==8) ||(a==9))
def KD(a:Int)(d:af):cl 174 #[(.int .i64 a)] d (fun e w'=>e=.returned (.bool<|YV a)/\aq d w'):=
 nT func174 [] (fun b=>(vb<|(a==8) ||(a==9))) fun g=>pj 1 0 [] [] (fun b=>[(2,(vb<|(a==8) ||(a==9)))]) (fun f=>ct 3 3<|pj 0 0 [(a==8)] [] (fun b=>[(8,(vb<|(b 0) ||(a==9)))]) (fun c=>pb 1 0 0 c (fun c=>pe 3 0 c)<|fun c=>pe 3 0 c)<|pe 1 0 f)<|jk 0 g
def rF(a:Int):Bool:=((((a==1) ||(a==6)) ||(a==7)) ||((a==8) ||(a==9)))
def MK(a:Int)(g:af):cl 172 #[(.int .i64 a)] g (fun e w'=>e=.returned (.bool<|rF a)/\aq g w'):=
 nT func172 [] (fun b=>(vb<|(((a==1) ||(a==6)) ||(a==7)) ||((a==8) ||(a==9)))) fun i=>pj 1 0 [] [] (fun b=>[(2,(vb<|(((a==1) ||(a==6)) ||(a==7)) ||((a==8) ||(a==9))))]) (fun h=>ct 3 3<|pj 0 0 [(a==1)] [0] (fun b=>[(8,(vb<|(b 0) ||(a==6)))]) (fun f=>pb 1 0 0 f (fun f=>pe 3 0 f)<|fun f=>pe 3 0 f)<|ct 1 3<|pj 0 0 [((a==1) ||(a==6))] [0] (fun b=>[(12,(vb<|(b 0) ||(a==7)))]) (fun c=>pb 1 0 0 c (fun c=>pe 3 0 c)<|fun c=>pe 3 0 c)<|ct 1 3<|pj 0 0 [(((a==1) ||(a==6)) ||(a==7))] [] (fun b=>[(16,(vb<|(b 0) ||((a==8) ||(a==9))))]) (fun d=>pb 1 0 0 d (fun d=>pe 3 0 d)<|fun d=>cp 1 call174 (KD a)<|pe 1 0 d)<|pe 1 0 h)<|jk 0 i
def Dm(a e:Int)(d g:Int)(b:ByteArray)(f c:Int):Bool:=(!((decide (a<1)) ||(decide (a>9)))&&(((((((rF a) ||(e==0))&&(((a==8) ||(a==9)) ||(d==0)))&&((a==2) ||(g==0)))&&((a==3) ||(decide (b=⟨#[]⟩))))&&((decide ((gy a)>=1)) ||(f==0)))&&((((gy a):Int)==2) ||(c==0))))
def jde(a o:Int)(p q:Int)(r:ByteArray)(s t:Int)(x:af):cl 171 #[(.agg #[(.int .i64 a),(.int .i64 o),(.int .i64 p),(.int .u64 q),(.string r),(.int .i64 s),(.int .i64 t)])] x (fun e w'=>e=.returned (.bool<|Dm a o p q r s t)/\aq x w'):=
 nT func171 [((decide (a<1)) ||(decide (a>9)))] (fun b=>(vb<|!(b 0)&&(((((((rF a) ||(o==0))&&(((a==8) ||(a==9)) ||(p==0)))&&((a==2) ||(q==0)))&&((a==3) ||(decide (r=⟨#[]⟩))))&&((decide ((gy a)>=1)) ||(s==0)))&&((((gy a):Int)==2) ||(t==0))))) fun v=>nh 0<|pj 1 0 [(decide (a<1))] [1] (fun b=>[(10,(vb<|(b 0) ||(decide (a>9))))]) (fun u=>lh 1 0 []<|pb 1 2 0 u (fun u=>pe 4 0 u)<|fun u=>lh 1 0 []<|pe 2 0 u)<|pb 0 0 0 v (fun v=>jk 2 v)<|fun v=>pj 1 0 [] [] (fun b=>[(2,(vb<|((((((rF a) ||(o==0))&&(((a==8) ||(a==9)) ||(p==0)))&&((a==2) ||(q==0)))&&((a==3) ||(decide (r=⟨#[]⟩))))&&((decide ((gy a)>=1)) ||(s==0)))&&((((gy a):Int)==2) ||(t==0))))]) (fun w=>lh 1 0 []<|cp 0 call172 (MK a)<|ct 1 4<|pj 0 0 [(rF a)] [1] (fun b=>[(18,(vb<|(b 0) ||(o==0)))]) (fun h=>pb 1 0 0 h (fun h=>pe 4 0 h)<|fun h=>lh 1 0 [1]<|pe 2 0 h)<|ct 1 9<|pj 0 0 [((rF a) ||(o==0))] [1] (fun b=>[(28,(vb<|(b 0)&&(((a==8) ||(a==9)) ||(p==0))))]) (fun f=>pb 1 0 0 f (fun f=>lh 1 0 []<|cp 0 call174 (KD a)<|ct 1 4<|pj 0 0 [((a==8) ||(a==9))] [1,19] (fun b=>[(27,(vb<|(b 0) ||(p==0)))]) (fun l=>pb 1 0 0 l (fun l=>pe 4 0 l)<|fun l=>lh 1 0 [2]<|pe 2 0 l)<|pe 1 0 f)<|fun f=>pe 9 0 f)<|ct 1 9<|pj 0 0 [(((rF a) ||(o==0))&&(((a==8) ||(a==9)) ||(p==0)))] [1] (fun b=>[(38,(vb<|(b 0)&&((a==2) ||(q==0))))]) (fun j=>pb 1 0 0 j (fun j=>lh 1 0 []<|ct 2 4<|pj 0 0 [(a==2)] [1,29] (fun b=>[(37,(vb<|(b 0) ||(q==0)))]) (fun d=>pb 1 0 0 d (fun d=>pe 4 0 d)<|fun d=>lh 1 0 [3]<|pe 2 0 d)<|pe 1 0 j)<|fun j=>pe 9 0 j)<|ct 1 9<|pj 0 0 [((((rF a) ||(o==0))&&(((a==8) ||(a==9)) ||(p==0)))&&((a==2) ||(q==0)))] [1] (fun b=>[(48,(vb<|(b 0)&&((a==3) ||(decide (r=⟨#[]⟩)))))]) (fun m=>pb 1 0 0 m (fun m=>lh 1 0 []<|ct 2 4<|pj 0 0 [(a==3)] [1,39] (fun b=>[(47,(vb<|(b 0) ||(decide (r=⟨#[]⟩))))]) (fun c=>pb 1 0 0 c (fun c=>pe 4 0 c)<|fun c=>lh 1 0 [4]<|pe 2 0 c)<|pe 1 0 m)<|fun m=>pe 9 0 m)<|ct 1 10<|pj 0 0 [(((((rF a) ||(o==0))&&(((a==8) ||(a==9)) ||(p==0)))&&((a==2) ||(q==0)))&&((a==3) ||(decide (r=⟨#[]⟩))))] [1] (fun b=>[(59,(vb<|(b 0)&&((decide ((gy a)>=1)) ||(s==0))))]) (fun k=>pb 1 0 0 k (fun k=>lh 1 0 []<|cp 0 call65 (sn a)<|ct 2 4<|pj 0 0 [(decide ((gy a)>=1))] [1,49] (fun b=>[(58,(vb<|(b 0) ||(s==0)))]) (fun g=>pb 1 0 0 g (fun g=>pe 4 0 g)<|fun g=>lh 1 0 [5]<|pe 2 0 g)<|pe 1 0 k)<|fun k=>pe 10 0 k)<|ct 1 10<|pj 0 0 [((((((rF a) ||(o==0))&&(((a==8) ||(a==9)) ||(p==0)))&&((a==2) ||(q==0)))&&((a==3) ||(decide (r=⟨#[]⟩))))&&((decide ((gy a)>=1)) ||(s==0)))] [] (fun b=>[(70,(vb<|(b 0)&&((((gy a):Int)==2) ||(t==0))))]) (fun n=>pb 1 0 0 n (fun n=>lh 1 0 []<|cp 0 call65 (sn a)<|ct 2 4<|pj 0 0 [(((gy a):Int)==2)] [60] (fun b=>[(69,(vb<|(b 0) ||(t==0)))]) (fun i=>pb 1 0 0 i (fun i=>pe 4 0 i)<|fun i=>lh 1 0 [6]<|pe 2 0 i)<|pe 1 0 n)<|fun n=>pe 10 0 n)<|pe 1 0 w)<|jk 0 v
def jbF(n1:Int):Bool:=((decide (n1>=0))&&(decide (n1<16)))
def Sr(n1:Int)(c:af):cl 173 #[(.int .i64 n1)] c (fun e w'=>e=.returned (.bool<|jbF n1)/\aq c w'):=
 nT func173 [] (fun b=>(vb<|(decide (n1>=0))&&(decide (n1<16)))) fun d=>pj 1 0 [] [] (fun b=>[(2,(vb<|(decide (n1>=0))&&(decide (n1<16))))]) (fun f=>ct 3 3<|pj 0 0 [(decide (n1>=0))] [] (fun b=>[(8,(vb<|(b 0)&&(decide (n1<16))))]) (fun a=>pb 1 0 0 a (fun a=>pe 3 0 a)<|fun a=>pe 3 0 a)<|pe 1 0 f)<|jk 0 d
def wx(c b:Int)(a g:Int)(d:ByteArray)(f e:Int):Int:=(cond (!(Dm c b a g d f e)) 53<|cond (((rF c)&&(!((decide (b>=0))&&(decide (b<16))))) ||(((c==8) ||(c==9))&&((!((decide (a>=0))&&(decide (a<16)))) ||(b==a)))) 50<|cond (decide ((d.size:Int)>64)) 1 0)
def NY(d c:Int)(a n:Int)(j:ByteArray)(m l:Int)(o:af):cl 120 #[(.agg #[(.int .i64 d),(.int .i64 c),(.int .i64 a),(.int .u64 n),(.string j),(.int .i64 m),(.int .i64 l)])] o (fun e w'=>e=.returned (.int .i64<|wx d c a n j m l)/\aq o w'):=
 nT func120 [(!(Dm d c a n j m l)),(((rF d)&&(!((decide (c>=0))&&(decide (c<16))))) ||(((d==8) ||(d==9))&&((!((decide (a>=0))&&(decide (a<16)))) ||(c==a)))),(decide ((j.size:Int)>64))] (fun b=>(vi<|cond (b 0) 53<|cond (b 1) 50<|cond (b 2) 1 0)) fun f=>nh 0<|j9 1 0 [] 7<|cp 0 call171 (jde d c a n j m l)<|pb 0 1 0 f (fun f=>jk 2 f)<|fun f=>pj 1 0 [((rF d)&&(!((decide (c>=0))&&(decide (c<16)))))] [1] (fun b=>[(32,(vb<|(b 0) ||(((d==8) ||(d==9))&&((!((decide (a>=0))&&(decide (a<16)))) ||(c==a)))))]) (fun k=>lh 1 0 []<|cp 0 call172 (MK d)<|ct 1 5<|pj 0 0 [(rF d)] [1] (fun b=>[(14,(vb<|(b 0)&&(!((decide (c>=0))&&(decide (c<16))))))]) (fun h=>pb 1 0 0 h (fun h=>lh 1 0 [1]<|cp 0 call173 (Sr c)<|pe 2 0 h)<|fun h=>pe 5 0 h)<|pb 1 1 0 k (fun k=>pe 17 0 k)<|fun k=>lh 1 0 []<|cp 0 call174 (KD d)<|ct 1 12<|pj 0 0 [((d==8) ||(d==9))] [1,15] (fun b=>[(31,(vb<|(b 0)&&((!((decide (a>=0))&&(decide (a<16)))) ||(c==a))))]) (fun g=>pb 1 0 0 g (fun g=>lh 1 0 [2]<|cp 0 call173 (Sr a)<|ct 2 6<|pj 0 0 [(!((decide (a>=0))&&(decide (a<16))))] [1,15,19] (fun b=>[(30,(vb<|(b 0) ||(c==a)))]) (fun i=>pb 1 0 0 i (fun i=>pe 6 0 i)<|fun i=>lh 1 0 [1]<|lh 1 0 [2]<|pe 2 0 i)<|pe 1 0 g)<|fun g=>pe 12 0 g)<|pe 1 0 k)<|pb 0 0 1 f (fun f=>jk 2 f)<|fun f=>lh 2 0 [4]<|pb 0 2 2 f (fun f=>jk 2 f)<|fun f=>jk 2 f
def jaS(c:Option ao)(b:Int)(d:af)(K:iy)(h:cl 112 #[(vp c),(vi b)] d (XC fun r1 a=>Br (!r1) (K 0 a)<|pE a c 1 fun e=>∃a2:ao,At e (q6.wrap<|b - 1) 1 a2/\li a a2 fun f=>K f a)):
  cl 113 #[(vp c),(vi b)] d<|XB K:=
 gg func113 h<|cc 3 call112<|xe<|fh<|br 0 1 (rr 2)<|nc 2<|ld 1<|ix 2<|ld 0<|rr 1
def jcJ(c:Option ao)(b:Int)(d:af)(K:iy)(h:cl 112 #[(vp c),(vi b)] d (XC fun r1 a=>Br (!r1) (K 0 a)<|pE a c 2 fun e=>∃a2:ao,At e (q6.wrap<|b - 1) 1 a2/\li a a2 fun f=>K f a)):
  cl 121 #[(vp c),(vi b)] d<|XB K:=
 gg func121 h<|cc 3 call112<|xe<|fh<|br 0 1 (rr 2)<|nc 2<|ld 1<|ix 2<|ld 0<|rr 1
def Zw(a0 a1:Int)(a2 a3:Int)(a4:ByteArray)(a5 a:Int)(b0 b1:Int)(b2 b3:Int)(b4:ByteArray)(b5 b6:Int)(w:af):(Go.binOp .eql 119 (.agg #[(.int .i64 a0),(.int .i64 a1),(.int .i64 a2),(.int .u64 a3),(.string a4),(.int .i64 a5),(.int .i64 a)])<|.agg #[(.int .i64 b0),(.int .i64 b1),(.int .i64 b2),(.int .u64 b3),(.string b4),(.int .i64 b5),(.int .i64 b6)]).run prog w=.ok (.bool<|(a0==b0)&&((a1==b1)&&((a2==b2)&&((a3==b3)&&((decide (a4=b4))&&((a5==b5)&&(a==b6))))))) w:=by
 simp[Go.binOp,Op.equal,Op.maxDepth,go_sem,xd,bne]
 repeat' split
 all_goals simp_all
def Lb(e:Option ao)(l k:Int)(q m:Int)(r:ByteArray)(h g i1:Int)(u:af)(a:NP)(b:af)(d:pR)(K:zu):Prop:=nq b e fun o=>Br (decide (i1<(o.ay:Int))) (∃a2,e=ab a2/\∀c,au u a b a c->lx c a2 fun t=>∃a3:ao,At t i1 7 a3/\ov c a3 fun n i p v f s j=>Br ((n==l)&&((i==k)&&((p==q)&&((v==m)&&((decide (f=r))&&((s==h)&&(j==g))))))) (K (q6.wrap<|i1+1) ai c)<|d (q6.wrap<|i1+1) a c)<|K 0 ak b
def P6(j:Option ao)(o n:Int)(i q:Int)(l:ByteArray)(p m:Int)(e:af)(K:zu):Prop:=∀g h,au e bl e g h->∃(f:Int->NP->WP) (c:Int->af->Nat),f 0 g h/\∀(i1:Int) (b:NP) (a:af),au e b a b a->f i1 b a->Lb j o n i q l p m i1 e b a (fun d k w'=>f d k w'/\c d w'<c i1 a) K
def jdl(p1 aA aC aB aI aF aG aH w0 K)(h:P6 p1 aA aC aB aI aF aG aH w0 K):
  cl 122 #[(vp p1),(.agg #[(vi aA),(vi aC),(vi aB),(vu aI),(vs aF),(vi aG),(vi aH)])] w0<|XE K:=
 gh func122 h<|nh 0<|ah<|wa (l:=[Int]) (v:=(_,())) 3 [0,3] (fun i1=>[(6,(vi i1))])<|fun {_ _ i1}=>fun i=>nc 2<|ld 1<|br 0 2 (dq 1<|nc 1<|an<|ld 1<|ix 1<|dh<|fun {a d g f c b}=>xe<|fun {e}=>lr 0<|j9 0 0 [] 7<|ae 0 (Zw a d g f c b e aA aC aB aI aF aG aH)<|br 0 0 (rr 5)<|je 4 0<|i _)<|rr 3
def BH(a:Option ao)(C B:Int)(G E:Int)(I:ByteArray)(o n:Int)(Q:Bool)(N:af)(H:NP)(w:af)(K:jw):Prop:=Br Q (K 0 51 w)<|jh w fun O J=>cl 113 #[(vp a),(vi o)] J<|XB fun r1 r=>O r/\av H J r/\cl 113 #[(vp a),(vi n)] r (XB fun r2 t=>O t/\av H r t/\jh t fun y L=>cl 121 #[(vp a),(vi o)] L<|XB fun r3 q=>y q/\av H L q/\cl 121 #[(vp a),(vi n)] q (XB fun W p=>y p/\av H q p/\∃x,(∀w',y w'->(Builtin.max_ #[3,3] 3 #[(vi r3),(vi W)]).run prog w'=.ok (vi x) w')/\∀A:Bool,A=((decide ((q6.wrap<|(q6.wrap<|1+r1)+r2)>4096)) ||(decide ((q6.wrap<|1+x)>64)))->Br A (∀d b,au N H p d b->K 0 52 b) (∀d b,au N H p d b->cl 122 #[(vp a),(.agg #[(vi C),(vi B),(vi G),(vu E),(vs I),(vi o),(vi n)])] b (XE fun Z T c=>av d b c/\Br T (K Z 0 c) (nq c a fun V=>Br (decide ((V.ay:Int)>=65536)) (K 0 6 c)<|jh c fun u s=>∃a2,a=ab a2/\∃M:Sl,(∀w',u w'->w'.cell? a2=ab M.v)/\cq s [(vi C),(vi B),(vi G),(vu E),(vs I),(vi o),(vi n)] 119 fun S h=>u h/\∃s1:Sl,∃e:af,(cm #[41,41] 41 #[M.v,(Sl.mk (ab S) 1 1).v]).run prog h=.ok s1.v e/\u e/\av d h e/\∃a3,a=ab a3/\iq e d a3 s1.v fun m=>pE m a 1 fun X=>cq m [(vi<|q6.wrap<|(q6.wrap<|1+r1)+r2)] 3 fun Y j=>∃D:Sl,∃f:af,(cm #[42,42] 42 #[X.v,(Sl.mk (ab Y) 1 1).v]).run prog j=.ok D.v f/\av d j f/\∃a5,a=ab a5/\iq f d (a5.add 1) D.v fun l=>pE l a 2 fun R=>cq l [(vi<|q6.wrap<|1+x)] 3 fun U i=>∃z:Sl,∃g:af,(cm #[42,42] 42 #[R.v,(Sl.mk (ab U) 1 1).v]).run prog i=.ok z.v g/\av d i g/\∃F,a=ab F/\iq g d (F.add 2) z.v fun k=>nq k a fun P=>K (P.ay:Int) 0 k)))))
def Cj(b:Option ao)(d h:Int)(g j:Int)(f:ByteArray)(i c:Int)(l:Bool)(e:af)(H:NP)(w:af)(K:jw):Prop:=Br l (BH b d h g j f i c ai e H w K)<|Br (((gy d):Int)==2) (cl 112 #[(vp b),(vi c)] w<|XC fun k a=>av H w a/\BH b d h g j f i c (!k) e H a K) (BH b d h g j f i c ak e H w K)
def HQ(l:Option ao)(e j:Int)(i k:Int)(g:ByteArray)(f h:Int)(b:af)(K:jw):Prop:=Br (((wx e j i k g f h):Int) !=0) (∀a m,au b bl b a m->K 0 (wx e j i k g f h) m)<|Br (decide ((gy e)>=1)) (∀a c,au b bl b a c->cl 112 #[(vp l),(vi f)] c (XC fun n d=>av a c d/\Cj l e j i k g f h (!n) b a d K))<|∀a c,au b bl b a c->Cj l e j i k g f h ak b a c K
def ZW(p1 aA aC aB aI aF aG aH w0 K)(h:HQ p1 aA aC aB aI aF aG aH w0 K):
  cl 60 #[(vp p1),(.agg #[(vi aA),(vi aC),(vi aB),(vu aI),(vs aF),(vi aG),(vi aH)])] w0<|XK K:=
 gh func60 h<|nh 0<|j9 2 0 [] 7<|cp 0 call120 (NY aA aC aB aI aF aG aH)<|br 0 3 (ah<|rr 4)<|lh 2 0 []<|cp 0 call65 (sn aA)<|ja [Bool] 1 0 [0,3] (fun c=>[(39,(vb c))]) (fun c H w=>BH _ _ _ _ _ _ _ _ c _ H w _) (fun e=>ct 3 6<|ja [Bool] 0 0 [0,3,7] (fun d=>[(28,(vb d))]) (fun d H w=>Cj _ _ _ _ _ _ _ _ d _ H w _) (fun f=>br 1 0 (lh 2 0 [5]<|ah<|cc 0 call112<|xe<|cz<|je 2 0<|f _)<|ah<|je 6 0<|f _)<|fun {d}=>br 1 1 (je 10 0<|e _)<|br 1 3 (lh 2 0 [6]<|cc 0 call112<|xe<|cz<|je 3 0<|e _)<|je 7 0<|e _)<|fun {c}=>br 0 0 (rr 3)<|dC 1 [3,8] []<|ki 2 0 [5]<|ki 2 0 [6]<|cc 0 call113<|xe<|fun {r1}=>gQ<|cc 1 call113<|xe<|fun {r2}=>gQ<|dC 2 [3,7] []<|ki 2 0 [5]<|ki 2 0 [6]<|cc 0 call121<|xe<|gQ<|cc 0 call121<|xe<|gQ<|xe<|fun {g}=>wJ 0<|pj 2 0 [(decide ((q6.wrap<|(q6.wrap<|1+r1)+r2)>4096))] [0,3,8,9] (fun b=>[(65,(vb<|(b 0) ||(decide ((q6.wrap<|1+g)>64))))]) (fun a=>pb 1 3 0 a (fun a=>pe 3 0 a)<|fun a=>pe 3 0 a)<|yy<|br 0 0 (ah<|rr 3)<|j9 2 0 [] 7<|ah<|cc 0 call122<|dd<|cz<|br 0 6 (rr 4)<|nc 2<|ld 1<|br 0 2 (rr 3)<|dC 1 [6,7,10] [10]<|nc 2<|km 1<|qa 0 0 [] 7<|py 0<|dd<|ef 0<|oE<|nc 0<|iz 1<|nc 2<|ld 1<|jx 1<|dd<|ef 0<|nR<|nc 0<|iz 1<|nc 2<|ld 1<|jx 1<|dd<|ef 0<|nR<|nc 0<|iz 1<|nc 1<|ld 1<|rr 3
def IY(a:Option ao)(c:Int)(l:Bool)(w:af)(K:WP):Prop:=Br l (K w)<|pE w a 1 fun o=>∃a2:ao,At o c 1 a2/\ll w a2 (vb ai) fun d=>jz d a fun s=>nq d s fun p=>∃a5:ao,At p (q6.wrap<|c-1) 7 a5/\li d (a5.add 5) fun m=>cl 123 #[(vp a),(vi m)] d<|XG fun e=>jz e a fun i=>nq e i fun n=>∃h:ao,At n (q6.wrap<|c-1) 7 h/\li e (h.add 6) fun q=>cl 123 #[(vp a),(vi q)] e<|XG fun g=>pE g a 2 fun j=>cq g [(vi c)] 73 fun k t=>∃s1:Sl,∃f:af,(cm #[46,46] 46 #[j.v,(Sl.mk (ab k) 1 1).v]).run prog t=.ok s1.v f/\∃b,a=ab b/\ll f (b.add 2) s1.v fun r=>K r
def Lt(c:Option ao)(b:Int)(g:af)(K:WP):Prop:=jz g c fun h=>cl 112 #[(vp h),(vi b)] g<|XC fun r1 d=>Br (!r1) (IY c b ai d K)<|pE d c 1 fun f=>∃a:ao,At f b 1 a/\lb d a fun e=>IY c b e d K
def Zq(w1 t1 w0 K)(h:Lt w1 t1 w0 K):
  cl 123 #[(vp w1),(vi t1)] w0<|XG K:=
 gg func123 h<|jc [Bool] 0 0 [0,1] (fun a=>[(19,(vb a))]) (fun a w=>IY _ _ a w _) (fun b=>nc 1<|ld 1<|cc 1 call112<|xe<|fh<|br 1 2 (gn 8<|b _)<|nc 1<|ld 1<|ix 1<|ld 0<|gn 1<|b _)<|fun {a}=>br 0 0 (rr 1)<|nc 2<|ld 1<|ix 1<|kz 0<|nc 2<|ld 1<|nc 0<|ld 1<|ix 2<|ld 1<|cc 0 call123<|fh<|nc 2<|ld 1<|nc 0<|ld 1<|ix 2<|ld 1<|cc 0 call123<|fh<|nc 2<|ld 1<|fy 1<|dd<|ef 0<|kv<|nc 0<|kz 1<|rr 0
def jbI(a:Option ao)(c:Int)(b:af)(K:iu)(h:nq b a fun d=>∃s1:Sl,∃g:af,(Instr.makeSlice 189 (vi<|q6.wrap<|(d.ay:Int)+1)<|vi<|q6.wrap<|(d.ay:Int)+1).run prog b=.ok s1.v g/\cq g [(vp a),s1.v,Sl.nil.v] 191 fun f j=>cl 123 #[(vp<|ab f),(vi c)] j<|XG fun i=>∃e:Sl,i.cell? (f.add 2)=ab e.v/\K e i):
  cl 61 #[(vp a),(vi c)] b<|XA K:=
 gg func61 h<|nc 3<|ld 1<|dd<|ef 2<|kv<|fy 1<|cc 3 call123<|fh<|ld 3<|rr 1
def zp(e d:Int)(a b:Int)(c:ByteArray)(f:Sl):Int×Int×Int×Int×ByteArray×Int×Int:=(e,d,a,b,c,0,0)
def LN(g f:Int)(a c:Int)(d:ByteArray)(h:Sl)(i:af):cl 211 #[(.agg #[(.int .i64 g),(.int .i64 f),(.int .i64 a),(.int .u64 c),(.string d),h.v])] i (fun e w'=>e=.returned (.agg #[(.int .i64 (zp g f a c d h).1),(.int .i64 (zp g f a c d h).2.1),(.int .i64 (zp g f a c d h).2.2.1),(.int .u64 (zp g f a c d h).2.2.2.1),(.string (zp g f a c d h).2.2.2.2.1),(.int .i64 (zp g f a c d h).2.2.2.2.2.1),(.int .i64 (zp g f a c d h).2.2.2.2.2.2)])/\aq i w'):=
 nT func211 [] (fun b=>(Ae g f a c d 0 0)) fun j=>nh 0<|nh 0<|lh 1 1 []<|lh 1 1 [1]<|lh 1 1 [2]<|lh 1 1 [3]<|lh 1 1 [4]<|sg 1 0 []<|gu 0<|nW 0 [] 7<|Dx j
def QS(i:Sl)(b:Int)(c:Option ao)(j i1:Int)(k:af)(d:NP)(f:af)(h:vt)(K:iy):Prop:=Br ((j==0)&&(decide (i1<(i.ay:Int)))) (∃a3:ao,At i i1 6 a3/\∀g a,au k d f g a->nj a a3 fun l n o q m p=>cl 210 #[(.agg #[(vi l),(vi n),(vi o),(vu q),(vs m),p.v]),(vi<|q6.wrap<|b+1),(vp c)] a<|XB fun r1 e=>av g a e/\h r1 (q6.wrap<|i1+1) g e) (∀g a,au k d f g a->K j a)
def PC(l p:Int)(o r:Int)(s:ByteArray)(q:Sl)(d:Int)(a:Option ao)(t:Bool)(k:af)(H:NP)(w:af)(K:iy):Prop:=Br t (K 52 w)<|Jn w a fun v=>∃a2,a=ab a2/\iq w H a2 (vi<|q6.wrap<|v+1) fun u=>∀m:Bool,m=((((wx l p o r s 0 0):Int) !=53)&&(((q.ay:Int):Int) !=(gy l)))->∀n f,au k H u n f->∃(i:Int->Int->NP->WP) (g:Int->Int->af->Nat),i (cond m 53<|wx l p o r s 0 0) 0 n f/\∀(j i1:Int) (c:NP) (b:af),au k c b c b->i j i1 c b->QS q d a j i1 k c b (fun h e x w'=>i h e x w'/\g h e w'<g j i1 b) K
def O3(n m:Int)(h j:Int)(l:ByteArray)(i:Sl)(a:Int)(b:Option ao)(d:af)(K:iy):Prop:=∃a4,b=ab a4/\∀f e,au d bl d f e->li e a4 fun k=>∀g c,au d f e g c->PC n m h j l i a b ((decide (k>=4096)) ||(decide (a>=64))) d g c K
def Wv(aE aJ aK aL aM aD deep1 seen1 w0 K)(h:O3 aE aJ aK aL aM aD deep1 seen1 w0 K):
  cl 210 #[(.agg #[(vi aE),(vi aJ),(vi aK),(vu aL),(vs aM),aD.v]),(vi deep1),(vp seen1)] w0<|XB K:=
 gh func210 h<|nh 0<|ja [Bool] 1 0 [1,2,3] (fun f=>[(16,(vb f))]) (fun f H w=>PC _ _ _ _ _ _ _ _ f _ H w _) (fun k=>nc 1<|ah<|ld 0<|fun {i}=>ct 2 3<|pj 0 0 [(decide (i>=4096))] [1,2,3] (fun b=>[(16,(vb<|(b 0) ||(decide (deep1>=64))))]) (fun d=>pb 1 0 0 d (fun d=>pe 3 0 d)<|fun d=>pe 3 0 d)<|ah<|je 0 0<|k _)<|fun {f}=>br 0 0 (rr 2)<|nc 3<|ld 0<|nc 1<|iz 0<|j9 0 0 [] 6<|cp 0 call211 (LN aE aJ aK aL aM aD)<|cp 0 call120 (NY aE aJ aK aL aM 0 0)<|pj 1 0 [(((wx aE aJ aK aL aM 0 0):Int) !=53)] [1,2,3,7] (fun b=>[(36,(vb<|(b 0)&&(((aD.ay:Int):Int) !=(gy aE))))]) (fun a=>FD 0 [8] []<|pb 1 3 0 a (fun a=>lhs 1 0 0 [5]<|lhs 2 0 0 []<|Xe 0 0 call65 (sn aE)<|pe 2 0 a)<|fun a=>pe 8 0 a)<|yy<|pj 0 0 [((((wx aE aJ aK aL aM 0 0):Int) !=53)&&(((aD.ay:Int):Int) !=(gy aE)))] [1,2,3] (fun b=>[(7,(vi<|cond (b 0) 53<|wx aE aJ aK aL aM 0 0))]) (fun c=>pb 0 0 0 c (fun c=>pe 2 0 c)<|fun c=>pe 1 0 c)<|ah<|wa (l:=[Int,Int]) (v:=(_,_,())) 1 [1,2,3] (fun g i1=>[(7,(vi g)),(8,(vi i1))])<|fun {_ _ g i1}=>fun j=>pj 0 0 [(g==0)] [1,2,3,7,8] (fun b=>[(45,(vb<|(b 0)&&(decide (i1<(aD.ay:Int)))))]) (fun e=>pb 1 3 0 e (fun e=>lh 2 0 [5]<|pe 3 0 e)<|fun e=>pe 6 0 e)<|br 0 0 (lh 2 0 [5]<|ix 1<|ah<|dh<|lr 0<|cc 3 call210<|xe<|cz<|je 4 0<|j _ _)<|ah<|rr 3
def jcI(m k:Int)(d f:Int)(j:ByteArray)(e:Sl)(b:af)(K:iy)(h:∀a g,au b bl b a g->cq g [(vi 0)] 3 fun i n=>iq n a i (vi 0) fun l=>cl 210 #[(.agg #[(vi m),(vi k),(vi d),(vu f),(vs j),e.v]),(vi 0),(vp<|ab i)] l<|XB fun r1 c=>av a l c/\K r1 c):
  cl 152 #[(.agg #[(vi m),(vi k),(vi d),(vu f),(vs j),e.v])] b<|XB K:=
 gh func152 h<|nh 0<|ah<|jx 1<|iz 0<|j9 0 0 [] 6<|cc 0 call210<|xe<|cz<|rr 1
def Vh(f:Option ao)(o:Sl)(i1 k:Int)(j m l:Int)(n:ByteArray)(i h:Int)(x:af)(b:NP)(a:af)(d:Int->Int->Int->Int->Int->ByteArray->Int->Int->NP->WP)(K:jw):Prop:=Br (decide (i1<(o.ay:Int))) (∃a1:ao,At o i1 6 a1/\nj a a1 fun s r t y q u=>cl 153 #[(vp f),(.agg #[(vi s),(vi r),(vi t),(vu y),(vs q),u.v])] a<|XK fun r1 r2 e=>av b a e/\Br (r2 !=0) (K 0 r2 e) (∀g p,au x b e g p->d (q6.wrap<|i1+1) k j m l n (cond (i1==0) r1 i) (cond (i1==0) h r1) g p)) (cl 60 #[(vp f),(.agg #[(vi k),(vi j),(vi m),(vu l),(vs n),(vi i),(vi h)])] a<|XK fun r3 w c=>av b a c/\K r3 w c)
def Qc(w:Option ao)(D y:Int)(x A:Int)(C:ByteArray)(z:Sl)(l:af)(K:jw):Prop:=∀u v,au l bl l u v->∃(m:Int->Int->Int->Int->Int->ByteArray->Int->Int->NP->WP) (h:Int->Int->Int->Int->Int->ByteArray->Int->Int->af->Nat),m 0 D y x A C 0 0 u v/\∀(i1 q:Int) (p s r:Int) (t:ByteArray) (o n:Int) (b:NP) (a:af),au l b a b a->m i1 q p s r t o n b a->Vh w z i1 q p s r t o n l b a (fun k c g i j e f d B w'=>m k c g i j e f d B w'/\h k c g i j e f d w'<h i1 q p s r t o n a) K
def jbA(p1 aE aJ aK aL aM aD w0 K)(h:Qc p1 aE aJ aK aL aM aD w0 K):
  cl 153 #[(vp p1),(.agg #[(vi aE),(vi aJ),(vi aK),(vu aL),(vs aM),aD.v])] w0<|XK K:=
 gh func153 h<|nh 0<|j9 2 0 [] 6<|cp 0 call211 (LN aE aJ aK aL aM aD)<|nh 0<|sg 0 0 []<|ah<|wb (l:=[Int,Int,Int,Int,Int,ByteArray,Int,Int]) (v:=(_,_,_,_,_,_,_,_,())) 1 [0,3,6] (fun i1 g f e j c i d=>[(7,(vi i1))]) (fun i1 g f e j c i d l=>dn l 0 0<|Ab g f e j c i d)<|fun {_ _ i1 g f e j c i d}=>fun k=>lh 2 1 [5]<|br 0 2 (lh 3 1 [5]<|ix 1<|dh<|lr 0<|cc 0 call153<|dd<|fun {r1}=>cz<|br 0 7 (rr 4)<|ph (fun b l=>dn l 0 0<|Ab g f e j c (cond (b 0) r1 i)<|cond (b 0) d r1) 3 0 [(i1==0)] [0,3,6,7] (fun b=>[]) (fun a=>pb 0 0 0 a (fun a=>sh 3 0 [5]<|pe 0 0 a)<|fun a=>sh 3 0 [6]<|pe 0 0 a)<|ah<|je 3 0<|k _ _ _ _ _ _ _ _)<|j9 2 0 [] 7<|cc 0 call60<|dd<|cz<|rr 4
def Hy(a:Option ao)(n1:Int)(c:af)(K:WP):Prop:=nq c a fun i=>∃s1:Sl,(Instr.sliceAt 41 i.v bo (ab<|vi n1) bo).run prog c=.ok s1.v c/\∃a2,a=ab a2/\ll c a2 s1.v fun b=>pE b a 1 fun j=>∃g:Sl,(Instr.sliceAt 42 j.v bo (ab<|vi n1) bo).run prog b=.ok g.v b/\∃a4,a=ab a4/\ll b (a4.add 1) g.v fun d=>pE d a 2 fun h=>∃e:Sl,(Instr.sliceAt 42 h.v bo (ab<|vi n1) bo).run prog d=.ok e.v d/\∃f,a=ab f/\ll d (f.add 2) e.v fun k=>K k
def TW(p1 n1 w0 K)(h:Hy p1 n1 w0 K):
  cl 154 #[(vp p1),(vi n1)] w0<|XG K:=
 gg func154 h<|nc 2<|ld 1<|xe<|rn 1<|nc 0<|kz 1<|nc 2<|ld 1<|xe<|rn 1<|nc 0<|kz 1<|nc 2<|ld 1<|xe<|rn 1<|nc 0<|kz 1<|rr 0
def Mf(e:Option ao)(m l:Int)(g i:Int)(k:ByteArray)(h:Sl)(j:af)(K:jw):Prop:=∀b d,au j bl j b d->cl 152 #[(.agg #[(vi m),(vi l),(vi g),(vu i),(vs k),h.v])] d (XB fun r1 a=>av b d a/\Br (r1 !=0) (K 0 r1 a) (nq a e fun n=>cl 153 #[(vp e),(.agg #[(vi m),(vi l),(vi g),(vu i),(vs k),h.v])] a<|XK fun r2 r3 c=>av b a c/\Br (r3 !=0) (cl 154 #[(vp e),(vi (n.ay:Int))] c<|XG fun f=>av b c f/\K r2 r3 f) (K r2 r3 c)))
def jcr(p1 aE aJ aK aL aM aD w0 K)(h:Mf p1 aE aJ aK aL aM aD w0 K):
  cl 96 #[(vp p1),(.agg #[(vi aE),(vi aJ),(vi aK),(vu aL),(vs aM),aD.v])] w0<|XK K:=
 gh func96 h<|nh 0<|j9 2 0 [] 6<|ah<|cc 0 call152<|xe<|cz<|br 0 3 (rr 4)<|nc 2<|ld 1<|j9 3 0 [] 6<|cc 0 call153<|dd<|cz<|br 0 7 (cc 3 call154<|cz<|rr 4)<|rr 5
def Ek(f:Option ao)(r2 s1 m:Sl)(i1 q:Int)(n p k:Int)(j:ByteArray)(o l:Int)(H:NP)(w:af)(d:pR)(K:jw):Prop:=cl 60 #[(vp f),(.agg #[(vi q),(vi n),(vi p),(vu k),(vs j),(vi o),(vi l)])] w<|XK fun r3 i a=>av H w a/\Br (i !=0) (cl 154 #[(vp f),(vi (m.ay:Int))] a<|XG fun b=>av H a b/\K 0 i b) (∃h:ao,At r2 i1 1 h/\∃e,a.cell? h=ab (vi e)/\∃g:ao,At s1 e 1 g/\iq a H g (vi r3) fun c=>d (q6.wrap<|i1+1) H c)
def Fu(d:Option ao)(r2 s1 f:Sl)(i1 k:Int)(j h m:Int)(g:ByteArray)(l c:Int)(n:af)(H:NP)(w:af)(a:pR)(K:jw):Prop:=Br (decide (c>0)) (∃e:ao,At s1 c 1 e/\∃i,w.cell? e=ab (vi i)/\∀b,au n H w H b->Ek d r2 s1 f i1 k j h m g l i H b a K)<|Ek d r2 s1 f i1 k j h m g l c H w a K
def SA(k:Option ao)(y:Option ao)(x:Int)(r2 s1 t:Sl)(i1:Int)(h:af)(b:NP)(a:af)(e:pR)(K:jw):Prop:=Br (decide (i1<(r2.ay:Int))) (∃a3,y=ab a3/\∃r:Sl,a.cell? a3=ab r.v/\¬b a3.block/\∃a4:ao,At r2 i1 1 a4/\∃m,a.cell? a4=ab (vi m)/\¬b a4.block/\∃a5:ao,At r (q6.wrap<|m-1) 7 a5/\ov a a5 fun p n q u l i o=>¬b a5.block/\Br (decide (i>0)) (∃w:ao,At s1 i 1 w/\∀c d,au h b a c d->∃s,d.cell? w=ab (vi s)/\∀g,au h c d c g->Fu k r2 s1 t i1 p n q u l s o h c g e K) (∀c d,au h b a c d->Fu k r2 s1 t i1 p n q u l i o h c d e K)) (∃f:ao,At s1 x 1 f/\∃j,a.cell? f=ab (vi j)/\K j 0 a)
def Zf(F:Option ao)(u:Option ao)(A:Int)(y:af)(K:jw)(h:cl 112 #[(vp u),(vi A)] y (XC fun r1 B=>av bl y B/\Br (!r1) (K 0 51 B) (cl 61 #[(vp u),(vi A)] B<|XA fun r2 C=>av bl B C/\nq C u fun J=>∃s1:Sl,∃D:af,(Instr.makeSlice 46 (vi<|q6.wrap<|(J.ay:Int)+1)<|vi<|q6.wrap<|(J.ay:Int)+1).run prog C=.ok s1.v D/\av bl C D/\nq D F fun V=>∃(E:Int->NP->WP) (i:Int->af->Nat),E 0 bl D/\∀(i1:Int) (c:NP) (a:af),au y c a c a->E i1 c a->SA F u A r2 s1 V i1 y c a (fun z T w'=>E z T w'/\i z w'<i i1 a) K))):
  cl 111 #[(vp F),(vp u),(vi A)] y<|XK K:=
 gh func111 h<|cc 4 call112<|xe<|cz<|br 0 1 (rr 3)<|cc 3 call61<|xe<|cz<|nc 2<|ld 1<|dd<|ef 2<|nR<|nc 2<|ld 1<|wa (l:=[Int]) (v:=(_,())) 3 [0,1,2,8,9,10] (fun i1=>[(11,(vi i1))])<|fun {_ _ i1}=>fun M=>br 0 4 (FD 1 [11,12] [12]<|nc 1<|CR 1<|ix 2<|CR 0<|ix 1<|dh<|fun {Q N R W L U}=>xe<|fun {O}=>KM 0<|pd (fun d b l=>((ad d 0),(Ab Q N R W L U O),119)::l) 0 0 [] [0,1,2,8,9,10,11] (fun d b=>[(12,(vp<|ab<|ad d 0))]) (fun P=>Q0 0 0<|fun {S}=>sg 0 0 []<|pe 0 0<|P [S])<|fun {d}=>lh 1 0 [5]<|jb [Int,Int,Int,Int,ByteArray,Int,Int] 1 0 [0,1,2,8,9,10,11,12] (fun o n s p t f e=>[]) (fun o n s p t f e l=>dn l 0 0<|Ab o n s p t f e) (fun o n s p t f e H w=>Fu _ _ _ _ _ o n s p t f e _ H w _ _) (fun G=>br 0 0 (lh 3 0 [5]<|ix 0<|ah<|ld 0<|sh 1 0 [5]<|an<|je 0 0<|G _ _ _ _ _ _ _)<|ah<|je 1 0<|G _ _ _ _ _ _ _)<|fun {o n s p t f e}=>lh 1 0 [6]<|jb [Int,Int,Int,Int,ByteArray,Int,Int] 1 0 [0,1,2,8,9,10,11,12] (fun r k x j g m q=>[]) (fun r k x j g m q l=>dn l 0 0<|Ab r k x j g m q) (fun r k x j g m q H w=>Ek _ _ _ _ _ r k x j g m q H w _ _) (fun I=>br 0 0 (lh 3 0 [6]<|ix 0<|ld 0<|sh 1 0 [6]<|an<|je 0 0<|I _ _ _ _ _ _ _)<|je 1 0<|I _ _ _ _ _ _ _)<|fun {r k x j g m q}=>j9 1 0 [] 7<|cc 0 call60<|dd<|cz<|br 0 7 (cc 3 call154<|cz<|rr 3)<|ix 4<|ld 0<|ix 1<|iz 0<|je 3 1<|M _)<|ix 3<|ld 0<|rr 2
def Ye(j t:Sl)(i1:Int)(c:NP)(d:af)(e:pR)(K:ke):Prop:=Br (decide (i1<(j.ay:Int))) (jh d fun f b=>∃a1:ao,At j i1 6 a1/\∃l k n s i o,(∀w',f w'->Row w' a1 (Af l k n s i o))/\∃a2:ao,At t i1 6 a2/\∃q h g p m r,(∀w',f w'->Row w' a2 (Af q h g p m r))/\cl 169 #[(.agg #[(vi l),(vi k),(vi n),(vu s),(vs i),o.v]),(.agg #[(vi q),(vi h),(vi g),(vu p),(vs m),r.v])] b (XC fun r1 a=>f a/\av c b a/\Br (!r1) (K ak a) (e (q6.wrap<|i1+1) c a)))<|K ai d
def N0(s u:Int)(p q:Int)(n:ByteArray)(j:Sl)(bK m:Int)(t o:Int)(l:ByteArray)(k:Sl)(e:af)(K:ke):Prop:=∀i:Bool,i=((((((s !=bK) ||(u !=m)) ||(p !=t)) ||(q !=o)) ||(!(decide (n=l)))) ||(((j.ay:Int):Int) !=(k.ay:Int)))->Br i (∀g d,au e bl e g d->K ak d) (∀g d,au e bl e g d->∃(h:Int->NP->WP) (c:Int->af->Nat),h 0 g d/\∀(i1:Int) (b:NP) (a:af),au e b a b a->h i1 b a->Ye j k i1 b a (fun f r w'=>h f r w'/\c f w'<c i1 a) K)
def Vf(bI bJ bO bX bZ bH bK bL bP bY cA bN w0 K)(h:N0 bI bJ bO bX bZ bH bK bL bP bY cA bN w0 K):
  cl 169 #[(.agg #[(vi bI),(vi bJ),(vi bO),(vu bX),(vs bZ),bH.v]),(.agg #[(vi bK),(vi bL),(vi bP),(vu bY),(vs cA),bN.v])] w0<|XC K:=
 gh func169 h<|nh 0<|nh 0<|pj 1 0 [(((((bI !=bK) ||(bJ !=bL)) ||(bO !=bP)) ||(bX !=bY)) ||(!(decide (bZ=cA))))] [2,3] (fun b=>[(47,(vb<|(b 0) ||(((bH.ay:Int):Int) !=(bN.ay:Int))))]) (fun f=>lh 1 1 []<|lh 1 0 []<|ct 2 6<|pj 0 0 [(bI !=bK)] [2,3] (fun b=>[(17,(vb<|(b 0) ||(bJ !=bL)))]) (fun c=>pb 1 0 0 c (fun c=>pe 6 0 c)<|fun c=>lh 1 1 [1]<|lh 1 0 [1]<|pe 2 0 c)<|ct 1 6<|pj 0 0 [((bI !=bK) ||(bJ !=bL))] [2,3] (fun b=>[(24,(vb<|(b 0) ||(bO !=bP)))]) (fun d=>pb 1 0 0 d (fun d=>pe 6 0 d)<|fun d=>lh 1 1 [2]<|lh 1 0 [2]<|pe 2 0 d)<|ct 1 6<|pj 0 0 [(((bI !=bK) ||(bJ !=bL)) ||(bO !=bP))] [2,3] (fun b=>[(31,(vb<|(b 0) ||(bX !=bY)))]) (fun a=>pb 1 0 0 a (fun a=>pe 6 0 a)<|fun a=>lh 1 1 [3]<|lh 1 0 [3]<|pe 2 0 a)<|ct 1 6<|pj 0 0 [((((bI !=bK) ||(bJ !=bL)) ||(bO !=bP)) ||(bX !=bY))] [2,3] (fun b=>[(38,(vb<|(b 0) ||(!(decide (bZ=cA)))))]) (fun e=>pb 1 0 0 e (fun e=>pe 6 0 e)<|fun e=>lh 1 1 [4]<|lh 1 0 [4]<|pe 2 0 e)<|pb 1 1 0 f (fun f=>pe 8 0 f)<|fun f=>lh 1 1 [5]<|lh 2 0 [5]<|pe 3 0 f)<|yy<|br 0 0 (ah<|rr 2)<|ah<|wa (l:=[Int]) (v:=(_,())) 2 [2,3] (fun i1=>[(5,(vi i1))])<|fun {_ _ i1}=>fun g=>lh 2 1 [5]<|br 0 2 (dC 1 [10] []<|ki 1 1 [5]<|ix 1<|dh<|wD 0<|ki 1 0 [5]<|ix 1<|dh<|wD 0<|cc 0 call169<|xe<|gQ<|br 0 1 (rr 2)<|je 4 0<|g _)<|rr 2
def jai(a:Sl)(b:af)(K:sL)(h:cq b [] 5 fun e f=>∃s1:Sl,∃c:af,(cm #[59,59] 59 #[(Sl.mk (ab e) 0 0).v,a.v]).run prog f=.ok s1.v c/\cq c [s1.v,(vi 0),(vi 0),(vi 0)] 117 fun d g=>K (ab d) g):
  cl 57 #[a.v] b<|XD K:=
 gg func57 h<|fy 1<|dd<|ef 1<|kv<|fy 1<|rr 1
def TA(r1:Option ao)(b:af)(K:iy)(h:∃a1,r1=ab a1/\∀a,au b bl b bl a->lx a a1 fun c=>pD a r1 1 fun d=>K (q6.wrap<|(c.ay:Int) - d) a):
  cl 58 #[(vp r1)] b<|XB K:=
 gh func58 h<|dq 1<|nc 1<|an<|ld 1<|nc 2<|ld 1<|rr 2
def W6(r1:Option ao)(b ju:Int)(a:af)(K:WP)(h:pD a r1 2 fun c=>Br (c == 0) (∃a2,r1=ab a2/\ll a (a2.add 2) (vi b) fun d=>∃a3,r1=ab a3/\ll d (a3.add 3) (vi ju) fun e=>K e) (K a)):
  cl 170 #[(vp r1),(vi b),(vi ju)] a<|XG K:=
 gg func170 h<|nc 1<|ld 1<|br 0 1 (nc 3<|kz 1<|nc 2<|kz 1<|rr 0)<|rr 1
def jal(r1:Option ao)(b:af)(K:iy)(h:pD b r1 2 fun n=>Br (n != 0) (K 0 b)<|∃a2,r1=ab a2/\∀a,au b bl b bl a->li a (a2.add 1) fun o=>nq a r1 fun k=>Br (o == (k.ay:Int)) (pD a r1 1 fun p=>cl 170 #[(vp r1),(vi 3),(vi p)] a<|XG fun f=>av bl a f/\K 0 f) (pD a r1 1 fun j=>∃g,r1=ab g/\iq a bl (g.add 1) (vi<|q6.wrap<|j+1) fun m=>∃e,r1=ab e/\∀c,au b bl m bl c->lx c e fun q=>pD c r1 1 fun l=>∃i:ao,At q (q6.wrap<|l - 1) 1 i/\∃d:Int,c.cell? i=ab (.int .u8 d)/\K d c)):
  cl 115 #[(vp r1)] b<|YF K:=
 gh func115 h<|nc 2<|ld 1<|br 0 1 (rr 2)<|dq 1<|nc 1<|an<|ld 1<|nc 1<|ld 1<|br 0 2 (nc 3<|ld 1<|cc 0 call170<|cz<|rr 1)<|nc 2<|ld 1<|nc 1<|iz 1<|dq 0<|nc 1<|an<|ld 1<|nc 1<|ld 1<|ix 1<|ld 0<|rr 1
def sJ(a:Int):Bool:=(((((a==1) ||(a==6)) ||(a==7)) ||(a==8)) ||(a==9))
def Hj(a:Int)(h:af):cl 116 #[(.int .i64 a)] h (fun e w'=>e=.returned (.bool<|sJ a)/\aq h w'):=
 nT func116 [] (fun b=>(vb<|((((a==1) ||(a==6)) ||(a==7)) ||(a==8)) ||(a==9))) fun i=>pj 1 0 [] [] (fun b=>[(2,(vb<|((((a==1) ||(a==6)) ||(a==7)) ||(a==8)) ||(a==9)))]) (fun j=>ct 3 3<|pj 0 0 [(a==1)] [0] (fun b=>[(8,(vb<|(b 0) ||(a==6)))]) (fun d=>pb 1 0 0 d (fun d=>pe 3 0 d)<|fun d=>pe 3 0 d)<|ct 1 3<|pj 0 0 [((a==1) ||(a==6))] [0] (fun b=>[(12,(vb<|(b 0) ||(a==7)))]) (fun f=>pb 1 0 0 f (fun f=>pe 3 0 f)<|fun f=>pe 3 0 f)<|ct 1 3<|pj 0 0 [(((a==1) ||(a==6)) ||(a==7))] [0] (fun b=>[(16,(vb<|(b 0) ||(a==8)))]) (fun c=>pb 1 0 0 c (fun c=>pe 3 0 c)<|fun c=>pe 3 0 c)<|ct 1 3<|pj 0 0 [((((a==1) ||(a==6)) ||(a==7)) ||(a==8))] [] (fun b=>[(20,(vb<|(b 0) ||(a==9)))]) (fun g=>pb 1 0 0 g (fun g=>pe 3 0 g)<|fun g=>pe 3 0 g)<|pe 1 0 j)<|jk 0 i
def Nj(r1:Option ao)(n1 i1:Int)(g:af)(a:NP)(o:af)(m:vt)(K:iy):Prop:=∃a2,r1=ab a2/\∀d,au g a o a d->li d (a2.add 1) fun D=>nq d r1 fun B=>Br (decide ((q6.wrap<|D+i1)>=(B.ay:Int))) (pD d r1 1 fun y=>cl 170 #[(vp r1),(vi 3),(vi y)] d<|XG fun p=>av a d p/\K 0 p) (∃a5,r1=ab a5/\∀f,au g a d a f->lx f a5 fun w=>pD f r1 1 fun A=>∃q:ao,At w (q6.wrap<|A+i1) 1 q/\∃k:Int,f.cell? q=ab (.int .u8 k)/\Br ((i1==9)&&(decide (k>1))) (∃s,r1=ab s/\∀e b,au g a f e b->li b (s.add 1) fun x=>cl 170 #[(vp r1),(vi 11),(vi x)] b<|XG fun u=>av e b u/\K 0 u) (∀e b,au g a f e b->∃t:Int,(Go.binOp .rem 5 (.int .u8 k)<|.int .u8 128).run prog b=.ok (.int .u8 t) b/\∃l,(Go.binOp .shl 23 (vu<|dc.wrap t)<|vu<|dc.wrap<|q6.wrap<|7*i1).run prog b=.ok (vu l) b/\Br (decide (k>=128)) (m (dc.wrap<|n1+l) (q6.wrap<|i1+1) e b) (Br ((k==0)&&(decide (i1>0))) (∃v,r1=ab v/\∀h c,au g e b h c->li c (v.add 1) fun z=>cl 170 #[(vp r1),(vi 10),(vi z)] c<|XG fun r=>av h c r/\K 0 r) (∃i,r1=ab i/\∀h c,au g e b h c->li c (i.add 1) fun n=>∃j,r1=ab j/\iq c h (j.add 1) (vi<|q6.wrap<|(q6.wrap<|n+i1)+1) fun C=>K (dc.wrap<|n1+l) C))))
def TO(r1:Option ao)(d:af)(K:iy)(h:pD d r1 2 fun o=>Br (o != 0) (K 0 d)<|∃(k:Int->Int->NP->WP) (f:Int->Int->af->Nat),k 0 0 bl d/\∀(n1 i1:Int) (c:NP) (a:af),au d c a c a->k n1 i1 c a->Nj r1 n1 i1 d c a (fun j e n w'=>k j e n w'/\f j e w'<f n1 i1 a) K):
  cl 118 #[(vp r1)] d<|YG K:=
 gh func118 h<|nc 2<|ld 1<|br 0 1 (rr 2)<|wa (l:=[Int,Int]) (v:=(_,_,())) 3 [0] (fun n1 i1=>[(3,(vu n1)),(4,(vi i1))])<|fun {_ _ n1 i1}=>fun p=>dq 0<|nc 1<|an<|ld 1<|nc 3<|ld 1<|br 0 2 (nc 3<|ld 1<|cc 0 call170<|cz<|rr 1)<|dq 1<|nc 1<|an<|ld 1<|nc 1<|ld 1<|ix 2<|ld 0<|fun {m}=>pj 1 0 [(i1==9)] [0,3,4,5] (fun b=>[(48,(vb<|(b 0)&&(decide (m>1))))]) (fun g=>pb 1 3 0 g (fun g=>pe 3 0 g)<|fun g=>pe 3 0 g)<|br 0 0 (nc 3<|ah<|ld 1<|cc 0 call170<|cz<|rr 1)<|ah<|xe<|rb 3<|xe<|rb 4<|br 0 4 (je 4 0<|p _ _)<|pj 1 0 [(m==0)] [0,3,4] (fun b=>[(71,(vb<|(b 0)&&(decide (i1>0))))]) (fun i=>pb 1 3 0 i (fun i=>pe 3 0 i)<|fun i=>pe 3 0 i)<|br 0 0 (nc 3<|ah<|ld 1<|cc 0 call170<|cz<|rr 1)<|nc 3<|ah<|ld 1<|nc 3<|iz 1<|rr 2
def oB(n1:Int):Int:=(cond (decide (n1>1073741824)) 1073741824<|q6.wrap n1)
def Fg(n1:Int)(c:af):cl 117 #[(.int .u64 n1)] c (fun e w'=>e=.returned (.int .i64<|oB n1)/\aq c w'):=
 nT func117 [(decide (n1>1073741824))] (fun b=>(vi<|cond (b 0) 1073741824<|q6.wrap n1)) fun a=>pb 0 3 0 a (fun a=>jk 2 a)<|fun a=>jk 4 a
def Ut(r1:Option ao)(a:Int)(e:af)(K:II)(h:pD e r1 1 fun k=>cl 118 #[(vp r1)] e<|YG fun r2 f=>av bl e f/\pD f r1 2 fun B=>Br (B != 0) (K ⟨#[]⟩ f)<|Br ((decide (a<0)) || (decide (r2>(dc.wrap a)))) (∃a3,r1=ab a3/\∀c l,au e bl f c l->iq l c (a3.add 1) (vi k) fun s=>cl 170 #[(vp r1),(vi 1),(vi k)] s<|XG fun p=>av c s p/\K ⟨#[]⟩ p) (∃a4,r1=ab a4/\∀c j,au e bl f c j->lx j a4 fun z=>pD j r1 1 fun w=>Br (decide (r2>(dc.wrap<|q6.wrap<|(z.ay:Int) - w))) (∃m,r1=ab m/\iq j c (m.add 1) (vi k) fun n=>cl 170 #[(vp r1),(vi 3),(vi k)] n<|XG fun r=>av c n r/\K ⟨#[]⟩ r) (∃o,r1=ab o/\∀d,au e c j c d->lx d o fun t=>pD d r1 1 fun x=>pD d r1 1 fun A=>∃s1:Sl,(Instr.sliceAt 59 t.v (ab<|vi x) (ab<|vi<|q6.wrap<|A+(q6.wrap r2)) bo).run prog d=.ok s1.v d/\∃q,(convert 59 9 s1.v).run prog d=.ok (vs q) d/\pD d r1 1 fun u=>∃i,r1=ab i/\iq d c (i.add 1) (vi<|q6.wrap<|u+(q6.wrap r2)) fun y=>K q y))):
  cl 119 #[(vp r1),(vi a)] e<|YC K:=
 gh func119 h<|nc 2<|ld 1<|cc 2 call118<|xe<|fun {r2}=>cz<|nc 2<|ld 1<|br 0 1 (rr 2)<|pj 1 0 [(decide (a<0))] [0,5,6] (fun b=>[(26,(vb<|(b 0) ||(decide (r2>(dc.wrap a)))))]) (fun g=>pb 1 3 0 g (fun g=>pe 5 0 g)<|fun g=>pe 5 0 g)<|br 0 0 (nc 3<|ah<|iz 1<|cc 2 call170<|cz<|rr 1)<|dq 1<|nc 2<|ah<|ld 1<|nc 2<|ld 1<|br 0 3 (nc 3<|iz 1<|cc 2 call170<|cz<|rr 1)<|dq 1<|nc 1<|an<|ld 1<|nc 1<|ld 1<|nc 1<|ld 1<|xe<|rn 3<|xe<|rn 0<|nc 3<|ld 1<|nc 3<|iz 1<|rr 2
def CX(r1:Option ao)(i1:Int)(a:ao)(r2 n:Int)(c d o:Int)(q:ByteArray)(m p:Int)(a1 b3:Int)(s:af)(H:NP)(w:af)(K:zg):Prop:=pD w r1 2 fun S=>Br (S !=0) (jh w fun v r=>∃a3,r1=ab a3/\∃y,(∀w',v w'->w'.cell? (a3.add 2)=ab (vi y))/\rI r H a 7 (Ab n c d o q m p) fun b=>v b/\ov b a fun bS I F N T bX Q=>K bS I F N T bX Q y b) (∀t:Bool,t=(((sJ<|q6.wrap r2)&&(decide (c>=16))) ||(((((q6.wrap r2):Int)==8) ||(((q6.wrap r2):Int)==9))&&((decide (d>=16)) ||(d==c))))->Br t (∀u e,au s H w u e->rI e u a 7 (Ab n c d o q m p) fun f=>ov f a fun O B cB Y W Z J=>K O B cB Y W Z J 50 f) (∀x:Bool,x=(((decide ((gy<|q6.wrap r2)>=1))&&(decide (a1>=i1))) ||((((gy<|q6.wrap r2):Int)==2)&&(decide (b3>=i1))))->Br x (∀j k,au s H w j k->rI k j a 7 (Ab n c d o q m p) fun i=>ov i a fun L R U E D M A=>K L R U E D M A 71 i) (∀h l,au s H w h l->rI l h a 7 (Ab n c d o q (cond (decide ((gy<|q6.wrap r2)>=1)) (q6.wrap<|a1+1) m)<|cond (((gy<|q6.wrap r2):Int)==2) (q6.wrap<|b3+1) p) fun g=>ov g a fun C V P z X G cT=>K C V P z X G cT 0 g)))
def C6(r1:Option ao)(i1:Int)(f:ao)(r2 h:Int)(e k i:Int)(l:ByteArray)(g j a1:Int)(c:af)(H:NP)(w:af)(K:zg):Prop:=Br (((gy<|q6.wrap r2):Int)==2) (∀a,au c H w H a->cl 118 #[(vp r1)] a (YG fun r3 d=>av H a d/\∀b,au c H d H b->CX r1 i1 f r2 h e k i l g j a1 (oB r3) c H b K))<|∀a,au c H w H a->CX r1 i1 f r2 h e k i l g j a1 0 c H a K
def Dg(r1:Option ao)(i1:Int)(f:ao)(r2 h:Int)(e k i:Int)(l:ByteArray)(g j:Int)(d:af)(H:NP)(w:af)(K:zg):Prop:=Br (decide ((gy<|q6.wrap r2)>=1)) (∀a,au d H w H a->cl 118 #[(vp r1)] a (YG fun m b=>av H a b/\∀c,au d H b H c->C6 r1 i1 f r2 h e k i l g j (oB m) d H c K))<|∀a,au d H w H a->C6 r1 i1 f r2 h e k i l g j 0 d H a K
def CK(r1:Option ao)(i1:Int)(e:ao)(r2 d:Int)(i j f:Int)(l:ByteArray)(g h:Int)(c:af)(H:NP)(w:af)(K:zg):Prop:=Br (((q6.wrap r2):Int)==3) (cl 119 #[(vp r1),(vi 64)] w<|YC fun k b=>av H w b/\∀a,au c H b H a->Dg r1 i1 e r2 d i j f k g h c H a K) (Dg r1 i1 e r2 d i j f l g h c H w K)
def Cz(r1:Option ao)(i1:Int)(d:ao)(r2 g:Int)(bK h k:Int)(e:ByteArray)(i f:Int)(c:af)(H:NP)(w:af)(K:zg):Prop:=Br (((q6.wrap r2):Int)==2) (cl 118 #[(vp r1)] w<|YG fun j a=>av H w a/\∀b,au c H a H b->CK r1 i1 d r2 g bK h j e i f c H b K) (CK r1 i1 d r2 g bK h k e i f c H w K)
def CY(r1:Option ao)(i1:Int)(g:ao)(r2 j:Int)(k n f:Int)(i:ByteArray)(h l:Int)(e:af)(H:NP)(w:af)(K:zg):Prop:=Br ((((q6.wrap r2):Int)==8) ||(((q6.wrap r2):Int)==9)) (∀a b,au e H w a b->cl 118 #[(vp r1)] b (YG fun m c=>av a b c/\∀d,au e a c a d->Cz r1 i1 g r2 j k (oB m) f i h l e a d K))<|∀a b,au e H w a b->Cz r1 i1 g r2 j k n f i h l e a b K
def w_C(r1:Option ao)(i1:Int)(q:af)(K:zg)(h:cq q [(vi 0),(vi 0),(vi 0),(vu 0),ve,(vi 0),(vi 0)] 119 fun Y w1=>cl 115 #[(vp r1)] w1<|YF fun r2 Z=>av bl w1 Z/\Br ((decide ((q6.wrap r2)<1)) || (decide ((q6.wrap r2)>9))) (∀d w5,au q bl Z d w5->rI w5 d Y 7 [(vi<|q6.wrap r2),(vi 0),(vi 0),(vu 0),ve,(vi 0),(vi 0)] fun w6=>ov w6 Y fun cU cV cW cX cY cZ dA=>K cU cV cW cX cY cZ dA 70 w6) (Br (sJ<|q6.wrap r2) (∀d x,au q bl Z d x->cl 118 #[(vp r1)] x (YG fun r8 F=>av d x F/\∀M,au q d F d M->CY r1 i1 Y r2 (q6.wrap r2) (oB r8) 0 0 ⟨#[]⟩ 0 0 q d M K))<|∀d x,au q bl Z d x->CY r1 i1 Y r2 (q6.wrap r2) 0 0 0 ⟨#[]⟩ 0 0 q d x K)):
  cl 59 #[(vp r1),(vi i1)] q<|YH K:=
 gh func59 h<|jx 0<|cc 2 call115<|xe<|fun {r2}=>cz<|nh 4<|sg 0 0 []<|pj 0 0 [(decide ((q6.wrap r2)<1))] [0,1,4,6,7] (fun b=>[(20,(vb<|(b 0) ||(decide ((q6.wrap r2)>9))))]) (fun A=>pb 1 3 0 A (fun A=>pe 3 0 A)<|fun A=>pe 3 0 A)<|br 0 0 (j9 1 0 [] 7<|ah<|u6 0<|gu 1<|dh<|xe<|jq<|gw)<|cp 2 call116 (Hj<|q6.wrap r2)<|jb [Int,Int,Int,Int,ByteArray,Int,Int] 0 0 [0,1,4,6,7] (fun G I O S X Q C=>[]) (fun G I O S X Q C l=>dn l 0 0<|Ab G I O S X Q C) (fun G I O S X Q C H w=>CY _ _ _ _ G I O S X Q C _ H w _) (fun j2=>br 0 0 (ah<|cc 2 call118<|xe<|fun {r8}=>cz<|cp 0 call117 (Fg r8)<|sh 1 0 [1]<|an<|je 0 0<|j2 _ _ _ _ _ _ _)<|ah<|je 1 0<|j2 _ _ _ _ _ _ _)<|fun {G I O S X Q C}=>pj 0 0 [(((q6.wrap r2):Int)==8)] [0,1,4,6,7] (fun b=>[(33,(vb<|(b 0) ||(((q6.wrap r2):Int)==9)))]) (fun y=>pb 1 3 0 y (fun y=>pe 3 0 y)<|fun y=>pe 3 0 y)<|jb [Int,Int,Int,Int,ByteArray,Int,Int] 0 0 [0,1,4,6,7] (fun W bK B P E D N=>[]) (fun W bK B P E D N l=>dn l 0 0<|Ab W bK B P E D N) (fun W bK B P E D N H w=>Cz _ _ _ _ W bK B P E D N _ H w _) (fun j4=>br 0 0 (ah<|cc 2 call118<|xe<|fun {r7}=>cz<|cp 0 call117 (Fg r7)<|sh 1 0 [2]<|an<|je 0 0<|j4 _ _ _ _ _ _ _)<|ah<|je 1 0<|j4 _ _ _ _ _ _ _)<|fun {W bK B P E D N}=>jb [Int,Int,Int,Int,ByteArray,Int,Int] 2 0 [0,1,4,6,7] (fun L R J T V z U=>[]) (fun L R J T V z U l=>dn l 0 0<|Ab L R J T V z U) (fun L R J T V z U H w=>CK _ _ _ _ L R J T V z U _ H w _) (fun j5=>br 0 0 (cc 2 call118<|xe<|cz<|sh 1 0 [3]<|an<|je 0 0<|j5 _ _ _ _ _ _ _)<|je 1 0<|j5 _ _ _ _ _ _ _)<|fun {L R J T V z U}=>jb [Int,Int,Int,Int,ByteArray,Int,Int] 2 0 [0,1,4,6,7] (fun s c a t v r u=>[]) (fun s c a t v r u l=>dn l 0 0<|Ab s c a t v r u) (fun s c a t v r u H w=>Dg _ _ _ _ s c a t v r u _ H w _) (fun j6=>br 0 0 (cc 2 call119<|xe<|cz<|sh 1 0 [4]<|an<|je 0 0<|j6 _ _ _ _ _ _ _)<|je 1 0<|j6 _ _ _ _ _ _ _)<|fun {s c a t v r u}=>cp 3 call65 (sn<|q6.wrap r2)<|ja [Int] 1 0 [0,1,4,6,7,9] (fun a1=>[(8,(vi a1))]) (fun a1 H w=>C6 _ _ _ _ _ _ _ _ _ _ _ a1 _ H w _) (fun j7=>br 0 0 (an<|cc 2 call118<|xe<|fun {r4}=>cz<|cp 0 call117 (Fg r4)<|an<|je 1 0<|j7 _)<|an<|je 1 0<|j7 _)<|fun {a1}=>cp 1 call65 (sn<|q6.wrap r2)<|ja [Int] 1 0 [0,1,4,6,7,8] (fun b3=>[(9,(vi b3))]) (fun b3 H w=>CX _ _ _ _ _ _ _ _ _ _ _ _ b3 _ H w _) (fun j8=>br 0 0 (an<|cc 2 call118<|xe<|fun {r3}=>cz<|cp 0 call117 (Fg r3)<|an<|je 1 0<|j8 _)<|an<|je 1 0<|j8 _)<|fun {b3}=>nc 1<|ld 1<|br 0 1 (dC 1 [5] []<|qa 0 0 [] 7<|nc 1<|km 1<|CC 0<|gu 1<|dh<|xe<|jq<|gw)<|pj 1 0 [((sJ<|q6.wrap r2)&&(decide (c>=16)))] [1,4,6,7,8,9] (fun b=>[(96,(vb<|(b 0) ||(((((q6.wrap r2):Int)==8) ||(((q6.wrap r2):Int)==9))&&((decide (a>=16)) ||(a==c)))))]) (fun n=>cp 1 call116 (Hj<|q6.wrap r2)<|ct 1 4<|pj 0 0 [(sJ<|q6.wrap r2)] [1,4,6,7,8,9] (fun b=>[(76,(vb<|(b 0)&&(decide (c>=16))))]) (fun i=>pb 1 0 0 i (fun i=>lh 1 0 [1]<|pe 2 0 i)<|fun i=>pe 4 0 i)<|pb 1 1 0 n (fun n=>pe 19 0 n)<|fun n=>ct 3 3<|pj 0 0 [(((q6.wrap r2):Int)==8)] [1,4,6,7,8,9,77] (fun b=>[(83,(vb<|(b 0) ||(((q6.wrap r2):Int)==9)))]) (fun p=>pb 1 0 0 p (fun p=>pe 3 0 p)<|fun p=>pe 3 0 p)<|ct 1 11<|pj 0 0 [((((q6.wrap r2):Int)==8) ||(((q6.wrap r2):Int)==9))] [1,4,6,7,8,9,77] (fun b=>[(95,(vb<|(b 0)&&((decide (a>=16)) ||(a==c))))]) (fun f=>pb 1 0 0 f (fun f=>lh 1 0 [2]<|ct 2 6<|pj 0 0 [(decide (a>=16))] [1,4,6,7,8,9,77,84] (fun b=>[(94,(vb<|(b 0) ||(a==c)))]) (fun g=>pb 1 0 0 g (fun g=>pe 6 0 g)<|fun g=>lh 1 0 [2]<|lh 1 0 [1]<|pe 2 0 g)<|pe 1 0 f)<|fun f=>pe 11 0 f)<|pe 1 0 n)<|yy<|br 0 0 (j9 1 0 [] 7<|ah<|u6 0<|gu 1<|dh<|xe<|jq<|gw)<|pj 1 0 [((decide ((gy<|q6.wrap r2)>=1))&&(decide (a1>=i1)))] [4,6,7,8,9] (fun b=>[(115,(vb<|(b 0) ||((((gy<|q6.wrap r2):Int)==2)&&(decide (b3>=i1)))))]) (fun o=>cp 1 call65 (sn<|q6.wrap r2)<|ct 2 4<|pj 0 0 [(decide ((gy<|q6.wrap r2)>=1))] [1,4,6,7,8,9] (fun b=>[(105,(vb<|(b 0)&&(decide (a1>=i1))))]) (fun k=>pb 1 0 0 k (fun k=>pe 4 0 k)<|fun k=>pe 4 0 k)<|pb 1 1 0 o (fun o=>pe 9 0 o)<|fun o=>cp 1 call65 (sn<|q6.wrap r2)<|ct 2 4<|pj 0 0 [(((gy<|q6.wrap r2):Int)==2)] [4,6,7,8,9,106] (fun b=>[(114,(vb<|(b 0)&&(decide (b3>=i1))))]) (fun j=>pb 1 0 0 j (fun j=>pe 4 0 j)<|fun j=>pe 4 0 j)<|pe 1 0 o)<|yy<|br 0 0 (j9 1 0 [] 7<|ah<|u6 0<|gu 1<|dh<|xe<|jq<|gw)<|cp 2 call65 (sn<|q6.wrap r2)<|ph (fun b l=>dn l 0 0<|Ab s c a t v (cond (b 0) (q6.wrap<|a1+1) r) u) 1 0 [(decide ((gy<|q6.wrap r2)>=1))] [4,6,7,9] (fun b=>[]) (fun e=>pb 0 0 0 e (fun e=>sh 4 0 [5]<|pe 0 0 e)<|fun e=>pe 1 0 e)<|cp 1 call65 (sn<|q6.wrap r2)<|ph (fun b l=>dn l 0 0<|Ab s c a t v (cond (decide ((gy<|q6.wrap r2)>=1)) (q6.wrap<|a1+1) r)<|cond (b 0) (q6.wrap<|b3+1) u) 1 0 [(((gy<|q6.wrap r2):Int)==2)] [4,7] (fun b=>[]) (fun m=>pb 0 0 0 m (fun m=>sh 4 0 [6]<|pe 0 0 m)<|fun m=>pe 1 0 m)<|j9 0 0 [] 7<|ah<|u6 0<|gu 1<|dh<|xe<|jq<|gw
def Ly(r1:Option ao)(a m:Sl)(i1:Int)(l:af)(c:NP)(b:af)(f:pR)(K:Dy):Prop:=nq b r1 fun o=>Br (decide (i1<(o.ay:Int))) (Br (decide (i1>=(m.ay:Int))) (∃i:ao,At a i1 1 i/\∀e,au l c b c e->∃h,e.cell? i=ab (vi h)/\K bo 73 h e)<|∃j:ao,At m i1 1 j/\∃g,b.cell? j=ab (vi g)/\Br (g !=(q6.wrap<|i1+1)) (∃n:ao,At a i1 1 n/\∀d,au l c b c d->∃k,d.cell? n=ab (vi k)/\K bo 73 k d) (f (q6.wrap<|i1+1) c b))<|K r1 0 0 b
def RK(r1:Option ao)(r2:Option ao)(a:Sl)(n:af)(b:NP)(k:af)(o:Sl->NP->WP)(K:Dy):Prop:=cl 58 #[(vp r2)] k<|XB fun r3 e=>av b k e/\Br (decide (r3>0)) (pD e r2 1 fun m=>nq e r1 fun I=>cl 59 #[(vp r2),(vi (I.ay:Int))] e<|YH fun E G A y J C D t r=>av b e r/\Br (t !=0) (∀g f,au n b r g f->K bo t m f) (∃a3,r1=ab a3/\∀g f,au n b r g f->∃u:Sl,f.cell? a3=ab u.v/\cl 60 #[(vp r1),(.agg #[(vi E),(vi G),(vi A),(vu y),(vs J),(vi C),(vi D)])] f (XK fun L s j=>av g f j/\Br (s !=0) (K bo s m j) (nq j r1 fun z=>Br (((z.ay:Int):Int)==(u.ay:Int)) (K bo 72 m j)<|cq j [(vi m)] 3 fun B w=>∃s1:Sl,∃p:af,(cm #[42,42] 42 #[a.v,(Sl.mk (ab B) 1 1).v]).run prog w=.ok s1.v p/\av g w p/\o s1 g p)))) (nq e r1 fun x=>cl 61 #[(vp r1),(vi (x.ay:Int))] e<|XA fun F h=>av b e h/\∃(q:Int->NP->WP) (i:Int->af->Nat),q 0 b h/\∀(i1:Int) (d:NP) (c:af),au n d c d c->q i1 d c->Ly r1 a F i1 n d c (fun l H w'=>q l H w'/\i l w'<i i1 c) K)
def ZU(b1:Sl)(e:af)(K:Dy)(h:cl 44 #[] e (XD fun r1 g=>av bl e g/\Br (decide ((b1.ay:Int)>4096)) (K bo 1 0 g) (Br (((b1.ay:Int):Int) == 0) (K bo 3 0 g)<|cl 57 #[b1.v] g<|XD fun r2 j=>av bl g j/\∃(i:Sl->NP->WP) (d:Sl->af->Nat),i Sl.nil bl j/\∀(a:Sl) (c:NP) (b:af),au e c b c b->i a c b->RK r1 r2 a e c b (fun f k w'=>i f k w'/\d f w'<d a b) K))):
  cl 18 #[b1.v] e<|YI K:=
 gh func18 h<|cc 3 call44<|xe<|cz<|br 0 4 (rr 4)<|br 0 4 (rr 4)<|cc 2 call57<|xe<|cz<|wa (l:=[Sl]) (v:=(_,())) 2 [5,6] (fun a=>[(7,(Sl.v a))])<|fun {_ _ a}=>fun n=>cc 1 call58<|xe<|cz<|br 0 1 (nc 2<|ld 1<|nc 3<|ld 1<|cc 1 call59<|dh<|dd<|cz<|nh 3<|sg 0 0 []<|br 0 3 (ah<|rr 6)<|nc 2<|ah<|ld 1<|j9 3 0 [] 7<|cc 0 call60<|dd<|cz<|br 0 6 (rr 6)<|nc 2<|ld 1<|br 0 3 (rr 5)<|jx 3<|dd<|ef 0<|nR<|je 1 1<|n _)<|nc 3<|ld 1<|cc 1 call61<|xe<|cz<|wa (l:=[Int]) (v:=(_,())) 2 [5,7,12] (fun i1=>[(13,(vi i1))])<|fun {_ _ i1}=>fun m=>nc 2<|ld 1<|br 0 2 (br 1 6 (dq 9<|ix 2<|an<|ld 0<|rr 3)<|ix 2<|ld 0<|br 0 4 (dq 1<|ix 2<|an<|ld 0<|rr 3)<|je 4 0<|m _)<|rr 5
def Pg(w0:af)(K:HV):Prop:=cq w0 [(.nilFunc:bk),(.nilFunc:bk)] 255 fun R w1=>gk w1 R 2 [(.func (.func 249) #[] #[]),(.func (.func 251) #[] #[])] fun w2=>cq w2 [(.nilFunc:bk),(.nilFunc:bk)] 255 fun p2 w3=>gk w3 p2 2 [(.func (.func 253) #[] #[]),(.func (.func 254) #[] #[])] fun w4=>cq w4 [(.nilFunc:bk),(.nilFunc:bk)] 255 fun p3 w5=>gk w5 p3 2 [(.func (.func 255) #[] #[]),(.func (.func 256) #[] #[])] fun w6=>cq w6 [(.nilFunc:bk),(.nilFunc:bk)] 255 fun p4 w7=>gk w7 p4 2 [(.func (.func 257) #[] #[]),(.func (.func 259) #[] #[])] fun w8=>cq w8 [(.nilFunc:bk),(.nilFunc:bk)] 255 fun Q w9=>gk w9 Q 2 [(.func (.func 261) #[] #[]),(.func (.func 262) #[] #[])] fun W=>cq W [(.nilFunc:bk),(.nilFunc:bk)] 255 fun p6 T=>gk T p6 2 [(.func (.func 263) #[] #[]),(.func (.func 264) #[] #[])] fun w12=>∀p O,fp w12 (.map #[] 0) p O->∃C:bk,∃m:bk,Row O R [C,m]/\cq O [C,m] 255 fun p8 w14=>∃P:af,(Instr.mapUpdate 249 (.map<|ab p.block) (vi 1) (Sl.mk (ab p8) 1 1).v).run prog w14=.ok () P/\∃u:bk,∃t:bk,Row P p3 [u,t]/\cq P [u,t] 255 fun p9 Z=>∃M:af,(Instr.mapUpdate 249 (.map<|ab p.block) (vi 2) (Sl.mk (ab p9) 1 1).v).run prog Z=.ok () M/\∃E:bk,∃A:bk,Row M p4 [E,A]/\cq M [E,A] 255 fun V U=>∃I:af,(Instr.mapUpdate 249 (.map<|ab p.block) (vi 3) (Sl.mk (ab V) 1 1).v).run prog U=.ok () I/\∃D:bk,∃q:bk,Row I Q [D,q]/\∃x:bk,∃w:bk,Row I p6 [x,w]/\cq I [D,q,x,w] 255 fun p11 w20=>∃L:af,(Instr.mapUpdate 249 (.map<|ab p.block) (vi 4) (Sl.mk (ab p11) 2 2).v).run prog w20=.ok () L/\∃r:bk,∃F:bk,Row L Q [r,F]/\cq L [r,F] 255 fun p12 w22=>∃N:af,(Instr.mapUpdate 249 (.map<|ab p.block) (vi 5) (Sl.mk (ab p12) 1 1).v).run prog w22=.ok () N/\∃B:bk,∃o:bk,Row N R [B,o]/\cq N [B,o] 255 fun X w24=>∃J:af,(Instr.mapUpdate 249 (.map<|ab p.block) (vi 6) (Sl.mk (ab X) 1 1).v).run prog w24=.ok () J/\∃H:bk,∃n:bk,Row J R [H,n]/\∃y:bk,∃z:bk,Row J Q [y,z]/\cq J [H,n,y,z] 255 fun Y w26=>∃G:af,(Instr.mapUpdate 249 (.map<|ab p.block) (vi 7) (Sl.mk (ab Y) 2 2).v).run prog w26=.ok () G/\∃c:bk,∃b:bk,Row G R [c,b]/\∃a:bk,∃e:bk,Row G p2 [a,e]/\∃j:bk,∃l:bk,Row G Q [j,l]/\cq G [c,b,a,e,j,l] 255 fun p15 w28=>∃s:af,(Instr.mapUpdate 249 (.map<|ab p.block) (vi 8) (Sl.mk (ab p15) 3 3).v).run prog w28=.ok () s/\∃d:bk,∃k:bk,Row s R [d,k]/\∃i:bk,∃f:bk,Row s p2 [i,f]/\∃h:bk,∃g:bk,Row s Q [h,g]/\cq s [d,k,i,f,h,g] 255 fun p16 w30=>∃S:af,(Instr.mapUpdate 249 (.map<|ab p.block) (vi 9) (Sl.mk (ab p16) 3 3).v).run prog w30=.ok () S/\K (ab p.block) S
def Tl(a:af)(K:HV)(h:Pg  a K):
  cl 164 #[] a<|XQ K:=
 gg func164 h<|fy 2<|gj 0<|fy 1<|gj 0<|fy 1<|gj 0<|fy 1<|gj 0<|fy 1<|gj 0<|fy 1<|gj 0<|fy 0<|dd<|lr 0<|fy 0<|xe<|es 0<|kv<|dd<|lr 0<|fy 0<|xe<|es 0<|kv<|dd<|lr 0<|fy 0<|xe<|es 0<|kv<|dd<|lr 0<|dd<|lr 0<|fy 0<|xe<|es 0<|kv<|dd<|lr 0<|fy 0<|xe<|es 0<|kv<|dd<|lr 0<|fy 0<|xe<|es 0<|kv<|dd<|lr 0<|dd<|lr 0<|fy 0<|xe<|es 0<|kv<|dd<|lr 0<|dd<|lr 0<|dd<|lr 0<|fy 0<|xe<|es 0<|kv<|dd<|lr 0<|dd<|lr 0<|dd<|lr 0<|fy 0<|xe<|es 0<|kv<|rr 2
def Na(z s:ao)(D:List (Int)->NP->WP)(g:List (Int))(y:Int)(C:NP)(F:af)(J M:Int)(G E:Int)(N:ByteArray)(H I:Int)(t:Sl)(q:Int)(e:NP)(a:af)(r:pR)(O:iu):Prop:=Br (decide (q<(t.ay:Int))) (∃a1:ao,At t q 2 a1/\∃b:bk,∃c:bk,Row a a1 [b,c]/\cq a [(.nilFunc:bk),(.nilFunc:bk)] 255 fun o h=>([b,c].all vC=ai/\∀j,j<2->zJ h (o.add j))/\¬e o.block/\∀d,d=ib h o [b,c]->∃B:bk,d.cell? o=ab B/\lx d z fun L=>∃u:Option Nat,d.cell? s=ab (.map u)/\∃(n:FuncId) (l m:Array bk),B=.func (.func n) l m/\(∀args w,(callFunc n args).run prog w=.ok (.enter n args) w)/\Calls prog n (l++#[L.v,(.agg #[(vi J),(vi M),(vi G),(vu E),(vs N),(vi H),(vi I)]),(.map u)]++m) d (XA fun K k=>av e d k/\iq k e z K.v fun p=>r (q6.wrap<|q+1) e p)) (∃A:Option Nat,a.cell? s=ab (.map A)/\∃i:Option Nat,a.cell? s=ab (.map i)/\∃x,(Builtin.len_ #[231] 3 #[(.map i)]).run prog a=.ok (vi x) a/\∃f:af,(Instr.mapUpdate 231 (.map A) (vi y)<|vi x).run prog a=.ok () f/\av e a f/\av C F f/\D (g++[y]) C f)
def Xl(X:Option ao)(W:Int)(r:af)(K:iu)(h:cq r [(vp X)] 91 fun p2 w1=>cq w1 [Sl.nil.v] 59 fun G w2=>cl 164 #[] w2<|XQ fun r1 w3=>av bl w2 w3/\cq w3 [(.map bo)] 249 fun p4 w4=>iq w4 bl p4 (.map r1) fun w5=>∀p5 w6,fp w5 (.map #[] 0) p5 w6->cq w6 [(.map bo)] 231 fun p6 w7=>iq w7 bl p6 (.map<|ab p5.block) fun S=>lp S p2 fun v1=>cl 131 #[(vp v1),(vi W)] S<|XI fun r2 I=>av bl S I/\∃(L:FuncId) (F:Array bk),r2=.func (.func L) #[] F/\(∀args w,(callFunc L args).run prog w=.ok (.enter L args) w)/\∃(m:List (Int)) (y:WP),sX prog L F (fun (z:Int)=>#[(vi z)]) m y I/\∃(s:List (Int)->NP->WP),AF r y s (fun _ _ _=>False) (fun _ _ _=>False)/\s [] bl I/\(∀(f:List (Int)) (z:Int) (J:NP) (i:af),s f J i->au r J i J i->(∃C,m=f++z :: C)->lp i p2 fun v2=>cl 109 #[(vp v2),(vi z)] i<|XH fun Q aW aX aY aZ bA bB r3 u=>av bl i u/\∀H n,au i bl u H n->lx n G fun v3=>cq n [(.int .u8<|IntKind.u8.wrap Q)] 5 fun p8 E=>∃s1:Sl,∃o:af,(cm #[59,59] 59 #[v3.v,(Sl.mk (ab p8) 1 1).v]).run prog E=.ok s1.v o/\av H E o/\iq o H G s1.v fun k=>∃Z:Option Nat,k.cell? p4=ab (.map Z)/\∃V:Sl,(Instr.lookup 249 (.map Z) (vi Q) ak).run prog k=.ok V.v k/\∃(R:Int->NP->WP) (B:Int->af->Nat),R 0 H k/\∀(q:Int) (j:NP) (g:af),au i j g j g->R q j g->Na G p6 s f z J i Q aW aX aY aZ bA bB V q j g (fun D H' w'=>R D H' w'/\B D w'<B q g) K)/\∀p e,au r p e p e->(∀b,bl b->p b)->av bl I e->s m p e->lx e G fun O=>∀t,au r p e p t->K O t):
  cl 110 #[(vp X),(vi W)] r<|XA K:=
 gh func110 h<|jx 0<|jx 1<|cc 0 call164<|xe<|cz<|jx 0<|iz 0<|jx 0<|jx 0<|iz 0<|ld 0<|cc 1 call131<|xe<|cz<|dd<|fx fun P=>fx fun M=>dd<|fx fun A=>xe<|fx fun bR=>fx fun T=>fx fun N=>rf 0 1 P M A bR T N (fun h Y x a b c d=>h Y x a b c<|d.elim id fun⟨_,h⟩=>h.elim) (fun _ _ _ _ _ h=>h) (ld 0<|cc 1 call109<|dh<|dd<|cz<|nh 3<|sg 0 0 []<|ah<|ld 1<|lh 1 0 []<|jx 1<|dd<|ef 0<|nR<|iz 0<|ld 0<|lh 1 0 []<|xe<|rn 0<|wa (l:=[Int]) (v:=(_,())) 2 [5,7,8,9,34,35] (fun q=>[(36,(vi q))])<|fun {_ _ q}=>fun j1=>br 0 1 (ix 1<|dd<|lr 0<|jx 0<|MO 0<|ld 1<|ld 0<|j9 0 0 [] 7<|ld 0<|fo<|fun U=>cv 0 U<|xe<|rt<|nR<|iz 0<|je 2 0<|j1 _)<|ld 1<|ld 1<|xe<|rn 0<|xe<|es 0<|nR<|Et 0) (ld 0<|lz 1<|rr 0)<|fun _ h=>h.elim
def jaK(f:Option ao)(e:Int)(b:af)(K:vw)(h:cl 109 #[(vp f),(vi e)] b (XH fun m k l i o n j r1 g=>av bl b g/\Br (!r1) (∀c a,au b bl g c a->K Sl.nil 51 a) (∀c a,au b bl g c a->cl 110 #[(vp f),(vi e)] a (XA fun r2 d=>av c a d/\Br (decide ((r2.ay:Int)>4096)) (K Sl.nil 1 d) (K r2 0 d))))):
  cl 53 #[(vp f),(vi e)] b<|XR K:=
 gh func53 h<|cc 4 call109<|dh<|dd<|cz<|nh 3<|sg 0 0 []<|br 0 3 (ah<|rr 3)<|ah<|cc 3 call110<|xe<|cz<|br 0 4 (rr 3)<|rr 4
def jbC(b:Option ao)(b1:Sl)(c:af)(K:uo)(h:cl 18 #[b1.v] c (YI fun r1 r2 r3 a=>Br (r2 != 0) (K 0 r2 r3 a)<|nq a r1 fun e=>cl 111 #[(vp b),(vp r1),(vi (e.ay:Int))] a<|XK fun g d f=>K g d 0 f)):
  cl 54 #[(vp b),b1.v] c<|XN K:=
 gg func54 h<|cc 4 call18<|rW<|fh<|br 0 9 (rr 6)<|nc 4<|ld 1<|cc 1 call111<|dd<|fh<|rr 10
def jbw(a:Sl)(b:af)(K:sL)(h:cl 271 #[a.v] b (XA fun r1 d=>cq d [r1.v,(vi 0),(vi 0),(vi 0)] 319 fun c e=>K (ab c) e)):
  cl 182 #[a.v] b<|XD K:=
 gg func182 h<|cc 2 call271<|xe<|fh<|fy 1<|rr 1
def jbK(r1:Option ao)(a:af)(K:iy)(h:Br (Option.isNone r1) (K 0 a) (∃a1,r1=ab a1/\∀b,au a bl a bl b->lx b a1 fun c=>pD b r1 1 fun d=>K (q6.wrap<|(c.ay:Int) - d) b)):
  cl 183 #[(vp r1)] a<|XB K:=
 gh func183 h<|br 0 3 (rr 2)<|dq 1<|nc 1<|an<|ld 1<|nc 2<|ld 1<|rr 2
def Vj(r1:Option ao)(a:af)(K:iy)(h:Br (Option.isNone r1) (K 0 a) (pD a r1 1 fun b=>K b a)):
  cl 184 #[(vp r1)] a<|XB K:=
 gg func184 h<|br 0 3 (rr 2)<|nc 2<|ld 1<|rr 1
def jar(r1:Option ao)(e:af)(K:iy)(h:cq e [(vp r1)] 272 fun c k=>cq k [(.int .u8 0)] 5 fun a f=>lp f c fun j=>cl 290 #[(vp j),(.func (.func 295) #[] #[(vp<|ab c),(vp<|ab a)])] f<|XG fun g=>∃d:Int,g.cell? a=ab (.int .u8 d)/\ll g a (.int .u8 d) fun b=>∃i:Int,b.cell? a=ab (.int .u8 i)/\K i b):
  cl 272 #[(vp r1)] e<|YF K:=
 gg func272 h<|fy 0<|fy 0<|ld 0<|cc 1 call290<|fh<|ld 0<|kz 0<|gu 0<|u9<|gw
def Tz(r1:Option ao)(a:af)(K:jw)(h:Br (Option.isNone r1) (K 0 0 a) (∃a1,r1=ab a1/\∀b,au a bl a bl b->li b (a1.add 2) fun c=>pD b r1 3 fun d=>K c d b)):
  cl 273 #[(vp r1)] a<|XK K:=
 gh func273 h<|br 0 4 (rr 3)<|dq 1<|nc 1<|an<|ld 1<|nc 1<|ld 1<|rr 2
def rm(n1:Int):Int:=(cond (decide (n1>2147483647)) (-1)<|q6.wrap n1)
def LK(n1:Int)(c:af):cl 274 #[(.int .u64 n1)] c (fun e w'=>e=.returned (.int .i64<|rm n1)/\aq c w'):=
 nT func274 [(decide (n1>2147483647))] (fun b=>(vi<|cond (b 0) (-1)<|q6.wrap n1)) fun a=>pb 0 3 0 a (fun a=>jk 2 a)<|fun a=>jk 4 a
def BA(c a:Int)(b d:Int)(f:ByteArray)(e g:Int):Int:=(cond (((((decide (a<0)) ||(decide (a>=16))) ||(decide (b<0))) ||(decide (b>=16))) ||(((c==8) ||(c==9))&&(a==b))) 50 0)
def TQ(d a:Int)(c m:Int)(p:ByteArray)(o q:Int)(n:af):cl 275 #[(.agg #[(.int .i64 d),(.int .i64 a),(.int .i64 c),(.int .u64 m),(.string p),(.int .i64 o),(.int .i64 q)])] n (fun e w'=>e=.returned (.int .i64<|BA d a c m p o q)/\aq n w'):=
 nT func275 [(((((decide (a<0)) ||(decide (a>=16))) ||(decide (c<0))) ||(decide (c>=16))) ||(((d==8) ||(d==9))&&(a==c)))] (fun b=>(vi<|cond (b 0) 50 0)) fun l=>nh 0<|pj 1 0 [] [1] (fun b=>[(3,(vb<|(d==8) ||(d==9)))]) (fun r=>lh 1 0 []<|ct 2 4<|pj 0 0 [(d==8)] [1] (fun b=>[(11,(vb<|(b 0) ||(d==9)))]) (fun j=>pb 1 0 0 j (fun j=>pe 4 0 j)<|fun j=>lh 1 0 []<|pe 2 0 j)<|pe 1 0 r)<|pj 0 0 [((((decide (a<0)) ||(decide (a>=16))) ||(decide (c<0))) ||(decide (c>=16)))] [] (fun b=>[(39,(vb<|(b 0) ||(((d==8) ||(d==9))&&(a==c))))]) (fun i=>lh 1 0 [1]<|ct 2 4<|pj 0 0 [(decide (a<0))] [1,3] (fun b=>[(19,(vb<|(b 0) ||(decide (a>=16))))]) (fun k=>pb 1 0 0 k (fun k=>pe 4 0 k)<|fun k=>lh 1 0 [1]<|pe 2 0 k)<|ct 1 4<|pj 0 0 [((decide (a<0)) ||(decide (a>=16)))] [1,3] (fun b=>[(24,(vb<|(b 0) ||(decide (c<0))))]) (fun g=>pb 1 0 0 g (fun g=>pe 4 0 g)<|fun g=>lh 1 0 [2]<|pe 2 0 g)<|ct 1 4<|pj 0 0 [(((decide (a<0)) ||(decide (a>=16))) ||(decide (c<0)))] [1,3] (fun b=>[(29,(vb<|(b 0) ||(decide (c>=16))))]) (fun f=>pb 1 0 0 f (fun f=>pe 4 0 f)<|fun f=>lh 1 0 [2]<|pe 2 0 f)<|pb 1 1 0 i (fun i=>pe 9 0 i)<|fun i=>ct 2 6<|pj 0 0 [((d==8) ||(d==9))] [30] (fun b=>[(38,(vb<|(b 0)&&(a==c)))]) (fun h=>pb 1 0 0 h (fun h=>lh 1 0 [1]<|lh 1 0 [2]<|pe 2 0 h)<|fun h=>pe 6 0 h)<|pe 1 0 i)<|pb 0 0 0 l (fun l=>jk 2 l)<|fun l=>jk 2 l
def CW(e:Option ao)(d:ao)(H:NP)(w:af)(K:iy):Prop:=ov w d fun j m p dF l s n=>cl 127 #[(vp e),(.agg #[(vi j),(vi m),(vi p),(vu dF),(vs l),(vi s),(vi n)])] w<|XE fun t r a=>av H w a/\Br r (K 72 a) (ov a d fun k g o i q f dP=>cl 132 #[(vp e),(.agg #[(vi k),(vi g),(vi o),(vu i),(vs q),(vi f),(vi dP)])] a<|XK fun h c b=>av H a b/\K c b)
def DI(e:Option ao)(a:ao)(H:NP)(w:af)(K:iy):Prop:=∃d,w.cell? (a.add 11)=ab (vi d)/\Br (decide (d>1)) (∃c,w.cell? (a.add 10)=ab (vu c)/\iq w H (a.add 6) (vi<|q6.wrap<|dc.wrap<|c+1) fun b=>CW e a H b K) (CW e a H w K)
def AH(e:Option ao)(a:ao)(f:Bool)(H:NP)(w:af)(K:iy):Prop:=Br f (K 71 w)<|∃d,w.cell? (a.add 11)=ab (vi d)/\Br (decide (d>0)) (∃c,w.cell? (a.add 9)=ab (vu c)/\iq w H (a.add 5) (vi<|q6.wrap<|dc.wrap<|c+1) fun b=>DI e a H b K) (DI e a H w K)
def FN(d:Option ao)(a:ao)(e:Int)(f:Bool)(H:NP)(w:af)(K:iy):Prop:=Br f (AH d a ai H w K)<|∃c,w.cell? (a.add 11)=ab (vi c)/\Br (decide (c>1)) (∃b,w.cell? (a.add 10)=ab (vu b)/\AH d a (decide (b>=(dc.wrap e))) H w K) (AH d a ak H w K)
def Lu(x:Option ao)(r1:Option ao)(f:ao)(L:Sl)(t:Int)(M:af)(a:NP)(g:af)(u:pR)(K:iy):Prop:=Br (decide (t<(L.ay:Int))) (∃a1:ao,At L t 2 a1/\∃b:bk,∃c:bk,Row g a1 [b,c]/\cq g [(.nilFunc:bk),(.nilFunc:bk)] 255 fun o O=>([b,c].all vC=ai/\∀j,j<2->zJ O (o.add j))/\¬a o.block/\∀p,p=ib O o [b,c]->∃H:bk,p.cell? (o.add 1)=ab H/\∃(q:FuncId) (l n:Array bk),H=.func (.func q) l n/\(∀args w,(callFunc q args).run prog w=.ok (.enter q args) w)/\Calls prog q (l++#[(vp r1),(vp<|ab f)]++n) p (XG fun P=>av a p P/\u (q6.wrap<|t+1) a P)) (cl 273 #[(vp r1)] g<|XK fun r3 S v=>av a g v/\Br (r3 !=0) (K r3 v) (jh v fun s A=>∃C,A.cell? (f.add 7)=ab (vu C)/\∃B,(∀w',s w'->w'.cell? (f.add 8)=ab (vu B))/\cl 274 #[(vu C)] A (XB fun R r=>s r/\av a A r/\cl 274 #[(vu B)] r (XB fun Q y=>s y/\av a r y/\iq y a (f.add 1) (vi R) fun i=>s i/\iq i a (f.add 2) (vi Q) fun h=>ov h f fun D E F J G N I=>Br (((BA D E F J G N I):Int) !=0) (∀d,au M a h a d->K (BA D E F J G N I) d)<|∀d,au M a h a d->cl 136 #[(vp x)] d (XB fun z e=>av a d e/\∃k,e.cell? (f.add 11)=ab (vi k)/\Br (decide (k>0)) (∃m,e.cell? (f.add 9)=ab (vu m)/\FN x f z (decide (m>=(dc.wrap z))) a e K) (FN x f z ak a e K))))))
def Tm(x:Option ao)(r1:Option ao)(a:Option Nat)(i:af)(K:iy)(h:cl 272 #[(vp r1)] i (YF fun r2 s=>av bl i s/\cq s [(vi<|q6.wrap r2),(vi 0),(vi 0),(vu 0),ve,(vi 0),(vi 0),(vu 0),(vu 0),(vu 0),(vu 0),(vi 0)] 314 fun q e=>∃y,e.cell? q=ab (vi y)/\∃z:Sl,∃g,(Instr.lookup 249 (.map a) (vi y) ai).run prog e=.ok (.tuple #[z.v,(vb g)]) e/\Br (!g) (K 70 e) (∃(n:Int->NP->WP) (f:Int->af->Nat),n 0 bl e/\∀(d:Int) (c:NP) (b:af),au i c b c b->n d c b->Lu x r1 q z d i c b (fun j F w'=>n j F w'/\f j w'<f d b) K))):
  cl 185 #[(vp x),(vp r1),(.map a)] i<|XB K:=
 gh func185 h<|cc 2 call272<|xe<|cz<|jx 3<|ld 6<|dd<|rn 0<|br 0 7 (rr 2)<|wa (l:=[Int]) (v:=(_,())) 4 [0,1,7,38,39] (fun d=>[(40,(vi d))])<|fun {_ _ d}=>fun B=>br 0 1 (ix 1<|dd<|lr 0<|jx 0<|MO 0<|ld 1<|fo<|fun p=>cv 2 p<|rt<|nR<|je 2 0<|B _)<|cc 2 call273<|dd<|cz<|br 0 7 (rr 3)<|dC 1 [6,11,15,19] [19]<|pN 5<|km 3<|cc 0 call274<|xe<|gQ<|cc 0 call274<|xe<|gQ<|Rt 3<|iz 3<|dh<|fun {A J C G D I}=>xe<|fun {E}=>lr 3<|cp 0 call275 (TQ A J C G D I E)<|br 0 3 (an<|rr 3)<|an<|cc 2 call136<|xe<|cz<|ja [Bool] 2 0 [0,7] (fun k=>[(114,(vb k))]) (fun k H w=>AH _ _ k H w _) (fun o=>ld 3<|ct 2 7<|ja [Bool] 0 0 [0,7,15] (fun m=>[(99,(vb m))]) (fun m H w=>FN _ _ _ m H w _) (fun t=>br 1 0 (ld 3<|je 3 0<|t _)<|je 7 0<|t _)<|fun {m}=>br 1 1 (je 14 0<|o _)<|ld 3<|br 1 2 (ld 3<|je 4 0<|o _)<|je 8 0<|o _)<|fun {k}=>br 0 0 (rr 2)<|ld 4<|ja [] 1 0 [0,7] ([]) (fun H w=>DI _ _ H w _) (fun r=>br 0 0 (ld 5<|iz 5<|je 0 0 r)<|je 1 0 r)<|ld 3<|ja [] 1 0 [0,7] ([]) (fun H w=>CW _ _ H w _) (fun u=>br 0 0 (ld 5<|iz 5<|je 0 0 u)<|je 1 0 u)<|dh<|xe<|lr 4<|cc 0 call127<|dd<|cz<|br 0 6 (rr 2)<|dh<|xe<|lr 5<|cc 0 call132<|dd<|cz<|rr 7
def RP(r1:Option ao)(r2:Option ao)(r3:Option Nat)(c:Sl)(p:af)(a:NP)(y:af)(D:Sl->NP->WP)(K:Dy):Prop:=cl 183 #[(vp r2)] y<|XB fun S B=>av a y B/\Br (decide (S>0)) (cl 184 #[(vp r2)] B<|XB fun I G=>av a B G/\cl 185 #[(vp r1),(vp r2),(.map r3)] G (XB fun H E=>av a G E/\Br (H !=0) (K bo H I E) (cq E [(vi I)] 3 fun M J=>∃s1:Sl,∃F:af,(cm #[42,42] 42 #[c.v,(Sl.mk (ab M) 1 1).v]).run prog J=.ok s1.v F/\av a J F/\D s1 a F))) (cq B [(vi 0)] 3 fun o O=>iq O a o (vi 0) fun r=>cl 136 #[(vp r1)] r<|XB fun R k=>av a r k/\cl 131 #[(vp r1),(vi R)] k (XI fun P h=>av a k h/\∃(C:FuncId) (A:Array bk),P=.func (.func C) #[] A/\(∀args w,(callFunc C args).run prog w=.ok (.enter C args) w)/\∃(j:List (Int)) (q:WP),sX prog C A (fun(n:Int)=>#[(vi n)]) j q h/\∃(u l:List (Int)->NP->WP),AF p q u l (fun _ _ _=>False)/\u [] a h/\(∀(e:List (Int)) (n:Int) (m:NP) (g:af),u e m g->au p m g m g->(∃x,j=e++n ::x)->li g o fun Q=>Br (n !=(q6.wrap<|Q+1)) (av m g g/\l (e++[n]) m g)<|li g o fun U=>iq g bl o (vi<|q6.wrap<|U+1) fun z=>av m g z/\u (e++[n]) m z)/\∀f d,au p f d f d->(∀b,a b->f b)->av a h d->(u j f d\/∃cd,l cd f d)->li d o fun T=>Br (decide (T<(c.ay:Int))) (∀i,au p f d f i->li i o fun N=>∃a1:ao,At c N 1 a1/\li i a1 fun L=>∀s,au p f i f s->K bo 73 L s)<|∀t,au p f d f t->K r1 0 0 t))
def jbH(b1:Sl)(i:af)(K:Dy)(h:Br (decide ((b1.ay:Int)>4096)) (K bo 1 0 i) (Br (((b1.ay:Int):Int) == 0) (K bo 3 0 i)<|cl 42 #[] i<|XD fun r1 r=>av bl i r/\cl 182 #[b1.v] r (XD fun r2 s=>av bl r s/\cl 164 #[] s (XQ fun r3 u=>av bl s u/\∃(o:Sl->NP->WP) (j:Sl->af->Nat),o Sl.nil bl u/\∀(e:Sl) (g:NP) (f:af),au i g f g f->o e g f->RP r1 r2 r3 e i g f (fun k w w'=>o k w w'/\j k w'<j e f) K)))):
  cl 135 #[b1.v] i<|YI K:=
 gh func135 h<|br 0 7 (rr 4)<|br 0 5 (rr 4)<|cc 1 call42<|xe<|cz<|cc 2 call182<|xe<|cz<|cc 1 call164<|xe<|cz<|wa (l:=[Sl]) (v:=(_,())) 2 [5,6,7] (fun e=>[(8,(Sl.v e))])<|fun {_ _ e}=>fun z=>cc 1 call183<|xe<|cz<|br 0 1 (cc 2 call184<|xe<|cz<|cc 4 call185<|xe<|cz<|br 0 3 (rr 6)<|jx 3<|dd<|ef 0<|nR<|je 1 0<|z _)<|jx 1<|iz 0<|cc 2 call136<|xe<|cz<|cc 0 call131<|xe<|cz<|dd<|fx fun p=>fx fun n=>dd<|fx fun m=>dd<|fx fun y=>fx fun t=>fx fun q=>rf 0 1 p n m y t q (fun h Y x a b c d=>h Y x a b c d) (fun _ _ _ _ _ h=>h) (ld 1<|br 0 2 (rdx 1)<|ld 1<|iz 1<|Et 0) (ld 0<|br 0 3 (dq 1<|an<|ld 1<|ix 0<|ld 0<|lz 3<|rr 0)<|lz 5<|rr 0)<|fun _ h=>h.elim
def TF(a:Option ao)(b1:Sl)(b:af)(K:uo)(h:Br (Option.isNone a) (K 0 2 0 b) (cl 135 #[b1.v] b<|YI fun r1 r2 r3 c=>Br (r2 != 0) (K 0 r2 r3 c)<|cl 136 #[(vp r1)] c<|XB fun i f=>cl 69 #[(vp a),(vp r1),(vi i)] f<|XK fun e d g=>K e d 0 g)):
  cl 71 #[(vp a),b1.v] b<|XN K:=
 gg func71 h<|br 0 5 (rr 4)<|cc 2 call135<|rW<|fh<|br 0 9 (rr 6)<|cc 4 call136<|xe<|fh<|cc 0 call69<|dd<|fh<|rr 10
def VM(n2:Int)(b:Sl)(a:af)(d:Int->Sl->WP)(K:iu):Prop:=Br (decide (n2>=128)) (∃f,(Go.binOp .rem 23 (vu n2)<|vu 128).run prog a=.ok (vu f) a/\cq a [(.int .u8<|IntKind.u8.wrap<|dc.wrap<|f+128)] 5 fun k l=>∃i:Sl,∃c:af,(cm #[59,59] 59 #[b.v,(Sl.mk (ab k) 1 1).v]).run prog l=.ok i.v c/\∃h,(Go.binOp .quo 23 (vu n2)<|vu 128).run prog c=.ok (vu h) c/\d h i c) (cq a [(.int .u8<|IntKind.u8.wrap n2)] 5 fun j m=>∃e:Sl,∃g:af,(cm #[59,59] 59 #[b.v,(Sl.mk (ab j) 1 1).v]).run prog m=.ok e.v g/\K e g)
def VQ(b1:Sl)(n1:Int)(g:af)(K:iu)(h:cq g [] 5 fun j k=>∃s1:Sl,∃i:af,(cm #[59,59] 59 #[(Sl.mk (ab j) 0 0).v,b1.v]).run prog k=.ok s1.v i/\∃(f:Int->Sl->WP) (d:Int->Sl->af->Nat),f n1 s1 i/\∀(n2:Int) (a:Sl) (b:af),f n2 a b->VM n2 a b (fun e c w'=>f e c w'/\d e c w'<d n2 a b) K):
  cl 214 #[b1.v,(vu n1)] g<|XA K:=
 gg func214 h<|fy 1<|dd<|ef 1<|kv<|wc (l:=[Int,Sl]) (v:=(_,_,())) 1 [] (fun n2 a=>[(1,(vu n2)),(5,(Sl.v a))])<|fun {_ _ n2 a}=>fun m=>br 0 2 (xe<|rb 3<|fy 2<|dd<|ef 0<|kv<|xe<|rb 2<|gn 1<|m _ _)<|fy 4<|dd<|ef 0<|kv<|rr 1
def TX(b1:Sl)(s1:ByteArray)(b:af)(K:iu)(h:cl 214 #[b1.v,(vu<|dc.wrap (s1.size:Int))] b (XA fun r1 d=>∃c:Sl,∃a:af,(cm #[59,9] 59 #[r1.v,(vs s1)]).run prog d=.ok c.v a/\K c a)):
  cl 215 #[b1.v,(vs s1)] b<|XA K:=
 gg func215 h<|cc 5 call214<|xe<|fh<|dd<|ef 1<|kv<|rr 1
def D2(s1:Sl)(i1 h g:Int)(b8:Sl)(f:af)(H:NP)(w:af)(b:qq)(i:iu):Prop:=Br (((gy h):Int)==2) (∃e:ao,At s1 g 1 e/\∀a,au f H w H a->∃d,a.cell? e=ab (vi d)/\cl 214 #[b8.v,(vu<|dc.wrap d)] a (XA fun r2 c=>av H a c/\b r2 (q6.wrap<|i1+1) H c))<|∀a,au f H w H a->b b8 (q6.wrap<|i1+1) H a
def DZ(s1:Sl)(i1 e:Int)(j f:Int)(i:Sl)(d:af)(H:NP)(w:af)(c:qq)(K:iu):Prop:=Br (decide ((gy e)>=1)) (∃g:ao,At s1 j 1 g/\∀a,au d H w H a->∃h,a.cell? g=ab (vi h)/\cl 214 #[i.v,(vu<|dc.wrap h)] a (XA fun r3 b=>av H a b/\D2 s1 i1 e f r3 d H b c K))<|∀a,au d H w H a->D2 s1 i1 e f i d H a c K
def FY(s1:Sl)(i1 c:Int)(g:ByteArray)(f d:Int)(b6:Sl)(e:af)(H:NP)(w:af)(b:qq)(K:iu):Prop:=Br (c==3) (cl 215 #[b6.v,(vs g)] w<|XA fun h a=>av H w a/\DZ s1 i1 c f d h e H a b K) (DZ s1 i1 c f d b6 e H w b K)
def Fv(s1:Sl)(i1 c i:Int)(d:ByteArray)(g e:Int)(b5:Sl)(f:af)(H:NP)(w:af)(b:qq)(K:iu):Prop:=Br (c==2) (cl 214 #[b5.v,(vu i)] w<|XA fun h a=>av H w a/\FY s1 i1 c d g e h f H a b K) (FY s1 i1 c d g e b5 f H w b K)
def Fm(s1:Sl)(i1 f:Int)(l i:Int)(h:ByteArray)(j g:Int)(b3:Sl)(e:af)(H:NP)(w:af)(d:qq)(K:iu):Prop:=Br ((f==8) ||(f==9)) (∀b a,au e H w b a->cl 214 #[b3.v,(vu<|dc.wrap l)] a (XA fun k c=>av b a c/\Fv s1 i1 f i h j g k e b c d K))<|∀b a,au e H w b a->Fv s1 i1 f i h j g b3 e b a d K
def MU(w:Option ao)(r1 s1 b1:Sl)(i1:Int)(i:af)(e:NP)(b:af)(g:qq)(K:iu):Prop:=Br (decide (i1<(r1.ay:Int))) (∃a2,w=ab a2/\∃t:Sl,b.cell? a2=ab t.v/\¬e a2.block/\∃a3:ao,At r1 i1 1 a3/\∃q,b.cell? a3=ab (vi q)/\¬e a3.block/\∃a4:ao,At t (q6.wrap<|q-1) 7 a4/\ov b a4 fun j A o s p u r=>¬e a4.block/\∃a5:ao,At r1 i1 1 a5/\∀c k,au i e b c k->∃m,k.cell? a5=ab (vi m)/\∃n:ao,At s1 m 1 n/\iq k c n (vi i1) fun y=>cq y [(.int .u8<|IntKind.u8.wrap j)] 5 fun x f=>∃l:Sl,∃d:af,(cm #[59,59] 59 #[b1.v,(Sl.mk (ab x) 1 1).v]).run prog f=.ok l.v d/\av c f d/\Br (sJ j) (∀a,au i c d c a->cl 214 #[l.v,(vu<|dc.wrap A)] a (XA fun z h=>av c a h/\Fm s1 i1 j o s p u r z i c h g K)) (∀a,au i c d c a->Fm s1 i1 j o s p u r l i c a g K)) (K b1 b)
def w_F(m:Option ao)(r:Int)(j:af)(K:iu)(h:cl 61 #[(vp m),(vi r)] j (XA fun r1 n=>av bl j n/\nq n m fun y=>∃s1:Sl,∃q:af,(Instr.makeSlice 42 (vi<|q6.wrap<|(y.ay:Int)+1)<|vi<|q6.wrap<|(y.ay:Int)+1).run prog n=.ok s1.v q/\av bl n q/\∃(p:Sl->Int->NP->WP) (g:Sl->Int->af->Nat),p Sl.nil 0 bl q/\∀(b1:Sl) (i1:Int) (c:NP) (a:af),au j c a c a->p b1 i1 c a->MU m r1 s1 b1 i1 j c a (fun k f G w'=>p k f G w'/\g k f w'<g b1 i1 a) K)):
  cl 157 #[(vp m),(vi r)] j<|XA K:=
 gh func157 h<|cc 3 call61<|xe<|cz<|nc 2<|ld 1<|dd<|ef 2<|nR<|wa (l:=[Sl,Int]) (v:=(_,_,())) 3 [0,5,6] (fun b1 i1=>[(7,(Sl.v b1)),(8,(vi i1))])<|fun {_ _ b1 i1}=>fun t=>br 0 4 (FD 1 [11,12] [12]<|nc 1<|CR 1<|ix 2<|CR 0<|ix 1<|dh<|fun {e L C I D J}=>xe<|fun {F}=>KM 0<|pd (fun d b l=>((ad d 0),(Ab e L C I D J F),119)::l) 0 0 [] [0,5,6,7,8] (fun d b=>[(9,(vp<|ab<|ad d 0))]) (fun B=>Q0 0 0<|fun {E}=>sg 0 0 []<|pe 0 0<|B [E])<|fun {d}=>ix 3<|ah<|ld 0<|ix 1<|iz 0<|lh 2 0 []<|jx 1<|dd<|ef 0<|nR<|lh 2 0 []<|cp 0 call116 (Hj e)<|ja [Sl] 0 0 [0,5,6,8,9] (fun b3=>[(7,(Sl.v b3))]) (fun b3 H w=>Fm _ _ _ _ _ _ _ _ b3 _ H w _ _) (fun s=>br 0 0 (lh 3 0 [1]<|an<|cc 1 call214<|xe<|cz<|je 1 0<|s _)<|an<|je 1 0<|s _)<|fun {b3}=>pj 0 0 [(e==8)] [0,5,6,7,8,9] (fun b=>[(65,(vb<|(b 0) ||(e==9)))]) (fun i=>lh 1 0 []<|pb 1 2 0 i (fun i=>pe 4 0 i)<|fun i=>lh 1 0 []<|pe 2 0 i)<|ja [Sl] 0 0 [0,5,6,8,9] (fun b5=>[(7,(Sl.v b5))]) (fun b5 H w=>Fv _ _ _ _ _ _ _ b5 _ H w _ _) (fun u=>br 0 0 (lh 3 0 [2]<|ah<|cc 1 call214<|xe<|cz<|je 1 0<|u _)<|ah<|je 1 0<|u _)<|fun {b5}=>lh 1 0 []<|ja [Sl] 1 0 [0,5,6,8,9] (fun b6=>[(7,(Sl.v b6))]) (fun b6 H w=>FY _ _ _ _ _ _ b6 _ H w _ _) (fun x=>br 0 0 (lh 3 0 [3]<|cc 0 call214<|xe<|cz<|je 1 0<|x _)<|je 1 0<|x _)<|fun {b6}=>lh 1 0 []<|ja [Sl] 1 0 [0,5,6,8,9] (fun o=>[(7,(Sl.v o))]) (fun o H w=>DZ _ _ _ _ _ o _ H w _ _) (fun z=>br 0 0 (lh 3 0 [4]<|cc 0 call215<|xe<|cz<|je 1 0<|z _)<|je 1 0<|z _)<|fun {o}=>lh 1 0 []<|cp 0 call65 (sn e)<|ja [Sl] 1 0 [0,5,6,8,9] (fun b8=>[(7,(Sl.v b8))]) (fun b8 H w=>D2 _ _ _ _ b8 _ H w _ _) (fun A=>br 0 0 (lh 4 0 [5]<|ix 0<|an<|ld 0<|cc 1 call214<|xe<|cz<|je 1 0<|A _)<|an<|je 1 0<|A _)<|fun {b8}=>lh 1 0 []<|cp 0 call65 (sn e)<|br 0 1 (lh 4 0 [6]<|ix 0<|an<|ld 0<|cc 1 call214<|xe<|cz<|je 4 1<|t _ _)<|an<|je 4 1<|t _ _)<|rr 3
def Ty(b:Option ao)(a:Int)(c:af)(K:vw)(h:cl 112 #[(vp b),(vi a)] c (XC fun r1 d=>Br (!r1) (K Sl.nil 51 d)<|cl 157 #[(vp b),(vi a)] d<|XA fun r2 e=>Br (decide ((r2.ay:Int)>4096)) (K Sl.nil 1 e)<|K r2 0 e)):
  cl 102 #[(vp b),(vi a)] c<|XR K:=
 gg func102 h<|cc 4 call112<|xe<|fh<|br 0 1 (rr 3)<|cc 3 call157<|xe<|fh<|br 0 4 (rr 3)<|rr 4
def jbO(b2:Sl)(n2:Int)(a:af)(c:vw)(K:iu):Prop:=Br (decide (n2>=128)) (∃d:Int,(Go.binOp .or 5 (.int .u8<|IntKind.u8.wrap n2)<|.int .u8 128).run prog a=.ok (.int .u8 d) a/\cq a [(.int .u8 d)] 5 fun i k=>∃s1:Sl,∃b:af,(cm #[59,59] 59 #[b2.v,(Sl.mk (ab i) 1 1).v]).run prog k=.ok s1.v b/\∃f,(Go.binOp .shr 23 (vu n2)<|vu 7).run prog b=.ok (vu f) b/\c s1 f b) (cq a [(.int .u8<|IntKind.u8.wrap n2)] 5 fun j h=>∃g:Sl,∃e:af,(cm #[59,59] 59 #[b2.v,(Sl.mk (ab j) 1 1).v]).run prog h=.ok g.v e/\K g e)
def Xz(b1:Sl)(n1:Int)(f:af)(K:iu)(h:cl 271 #[b1.v] f (XA fun r1 g=>∃(e:Sl->Int->WP) (c:Sl->Int->af->Nat),e r1 n1 g/\∀(b2:Sl) (n2:Int) (a:af),e b2 n2 a->jbO b2 n2 a (fun d b w'=>e d b w'/\c d b w'<c b2 n2 a) K)):
  cl 250 #[b1.v,(vu n1)] f<|XA K:=
 gg func250 h<|cc 2 call271<|xe<|fh<|wc (l:=[Sl,Int]) (v:=(_,_,())) 1 [] (fun b2 n2=>[(0,(Sl.v b2)),(1,(vu n2))])<|fun {_ _ b2 n2}=>fun i=>br 0 2 (xe<|rb 4<|fy 0<|dd<|ef 0<|kv<|xe<|rb 2<|gn 1<|i _ _)<|fy 4<|dd<|ef 0<|kv<|rr 1
def jdb(b1:Sl)(l e:Int)(j f:Int)(k:ByteArray)(i m:Int)(g:Option Nat)(b:af)(K:iu)(h:∀c a,au b bl b c a->cl 250 #[b1.v,(vu<|dc.wrap e)] a (XA fun r1 d=>av c a d/\K r1 d)):
  cl 249 #[b1.v,(.agg #[(vi l),(vi e),(vi j),(vu f),(vs k),(vi i),(vi m)]),(.map g)] b<|XA K:=
 gh func249 h<|nh 0<|lh 3 0 [1]<|ah<|cc 1 call250<|xe<|cz<|rr 1
def jcj(r1:Option ao)(d:af)(K:iy)(h:cq d [(vp r1)] 272 fun c j=>cq j [(vu 0)] 23 fun a e=>lp e c fun g=>cl 290 #[(vp g),(.func (.func 291) #[] #[(vp<|ab c),(vp<|ab a)])] e<|XG fun f=>lu f a fun i=>ll f a (vu i) fun b=>lu b a fun k=>K k b):
  cl 252 #[(vp r1)] d<|YG K:=
 gg func252 h<|fy 0<|fy 0<|ld 0<|cc 1 call290<|fh<|ld 0<|kz 0<|gu 0<|u9<|gw
def jay(r1:Option ao)(n1:Option ao)(a:af)(K:WP)(h:cl 252 #[(vp r1)] a (YG fun r2 c=>∃a1,n1=ab a1/\ll c (a1.add 7) (vu r2) fun b=>K b)):
  cl 251 #[(vp r1),(vp n1)] a<|XG K:=
 gg func251 h<|cc 2 call252<|xe<|fh<|nc 0<|kz 1<|rr 0
def Ug(b1:Sl)(k l:Int)(d f:Int)(j:ByteArray)(i m:Int)(g:Option Nat)(b:af)(K:iu)(h:∀c a,au b bl b c a->cl 250 #[b1.v,(vu<|dc.wrap d)] a (XA fun r1 e=>av c a e/\K r1 e)):
  cl 253 #[b1.v,(.agg #[(vi k),(vi l),(vi d),(vu f),(vs j),(vi i),(vi m)]),(.map g)] b<|XA K:=
 gh func253 h<|nh 0<|lh 3 0 [2]<|ah<|cc 1 call250<|xe<|cz<|rr 1
def ZT(r1:Option ao)(n1:Option ao)(a:af)(K:WP)(h:cl 252 #[(vp r1)] a (YG fun r2 c=>∃a1,n1=ab a1/\ll c (a1.add 8) (vu r2) fun b=>K b)):
  cl 254 #[(vp r1),(vp n1)] a<|XG K:=
 gg func254 h<|cc 2 call252<|xe<|fh<|nc 0<|kz 1<|rr 0
def Yb(b1:Sl)(k l:Int)(i d:Int)(j:ByteArray)(g m:Int)(f:Option Nat)(b:af)(K:iu)(h:∀c a,au b bl b c a->cl 250 #[b1.v,(vu d)] a (XA fun r1 e=>av c a e/\K r1 e)):
  cl 255 #[b1.v,(.agg #[(vi k),(vi l),(vi i),(vu d),(vs j),(vi g),(vi m)]),(.map f)] b<|XA K:=
 gh func255 h<|nh 0<|lh 3 0 [3]<|ah<|cc 0 call250<|xe<|cz<|rr 1
def ZR(r1:Option ao)(n1:Option ao)(a:af)(K:WP)(h:cl 252 #[(vp r1)] a (YG fun r2 c=>∃a1,n1=ab a1/\ll c (a1.add 3) (vu r2) fun b=>K b)):
  cl 256 #[(vp r1),(vp n1)] a<|XG K:=
 gg func256 h<|cc 2 call252<|xe<|fh<|nc 0<|kz 2<|rr 0
def VO(b1:Sl)(s1:ByteArray)(b:af)(K:iu)(h:cl 250 #[b1.v,(vu<|dc.wrap (s1.size:Int))] b (XA fun r1 d=>∃c:Sl,∃a:af,(cm #[59,9] 59 #[r1.v,(vs s1)]).run prog d=.ok c.v a/\K c a)):
  cl 258 #[b1.v,(vs s1)] b<|XA K:=
 gg func258 h<|cc 5 call250<|xe<|fh<|dd<|ef 1<|kv<|rr 1
def jad(b1:Sl)(k l:Int)(j f:Int)(d:ByteArray)(i m:Int)(g:Option Nat)(b:af)(K:iu)(h:∀c a,au b bl b c a->cl 258 #[b1.v,(vs d)] a (XA fun r1 e=>av c a e/\K r1 e)):
  cl 257 #[b1.v,(.agg #[(vi k),(vi l),(vi j),(vu f),(vs d),(vi i),(vi m)]),(.map g)] b<|XA K:=
 gh func257 h<|nh 0<|lh 3 0 [4]<|ah<|cc 0 call258<|xe<|cz<|rr 1
def SN(r1:Option ao)(a:Int)(g:af)(K:II)(h:cq g [(vp r1)] 272 fun d m=>cq m [(vi a)] 3 fun l n=>cq n [ve] 9 fun b j=>∃e,j.cell? d=ab (vp e)/\cl 290 #[(vp e),(.func (.func 293) #[] #[(vp<|ab d),(vp<|ab l),(vp<|ab b)])] j (XG fun c=>∃f,c.cell? b=ab (vs f)/\ll c b (vs f) fun i=>∃k,i.cell? b=ab (vs k)/\K k i)):
  cl 260 #[(vp r1),(vi a)] g<|YC K:=
 gg func260 h<|fy 0<|fy 0<|fy 0<|ld 0<|cc 1 call290<|fh<|ld 0<|kz 0<|gu 0<|u9<|gw
def WG(r1:Option ao)(n1:Option ao)(a:af)(K:WP)(h:cl 260 #[(vp r1),(vi 64)] a (YC fun r2 c=>∃a1,n1=ab a1/\ll c (a1.add 4) (vs r2) fun b=>K b)):
  cl 259 #[(vp r1),(vp n1)] a<|XG K:=
 gg func259 h<|cc 2 call260<|xe<|fh<|nc 0<|kz 2<|rr 0
def Xp(b1:Sl)(l m:Int)(j i:Int)(k:ByteArray)(f n:Int)(a:Option Nat)(c:af)(K:iu)(h:∀d b,au c bl c d b->∃e,(Instr.lookup 231 (.map a) (vi f) ak).run prog b=.ok (vi e) b/\cl 250 #[b1.v,(vu<|dc.wrap e)] b (XA fun r1 g=>av d b g/\K r1 g)):
  cl 261 #[b1.v,(.agg #[(vi l),(vi m),(vi j),(vu i),(vs k),(vi f),(vi n)]),(.map a)] c<|XA K:=
 gh func261 h<|nh 0<|lh 4 0 [5]<|ah<|xe<|rn 0<|cc 1 call250<|xe<|cz<|rr 1
def Ux(r1:Option ao)(n1:Option ao)(a:af)(K:WP)(h:cl 252 #[(vp r1)] a (YG fun r2 d=>∃a1,n1=ab a1/\ll d (a1.add 9) (vu r2) fun c=>∃a2,n1=ab a2/\ll c (a2.add 11) (vi 1) fun b=>K b)):
  cl 262 #[(vp r1),(vp n1)] a<|XG K:=
 gg func262 h<|cc 3 call252<|xe<|fh<|nc 0<|kz 1<|nc 0<|kz 1<|rr 0
def jcQ(b1:Sl)(m n:Int)(k i:Int)(l:ByteArray)(j g:Int)(a:Option Nat)(c:af)(K:iu)(h:∀d b,au c bl c d b->∃e,(Instr.lookup 231 (.map a) (vi g) ak).run prog b=.ok (vi e) b/\cl 250 #[b1.v,(vu<|dc.wrap e)] b (XA fun r1 f=>av d b f/\K r1 f)):
  cl 263 #[b1.v,(.agg #[(vi m),(vi n),(vi k),(vu i),(vs l),(vi j),(vi g)]),(.map a)] c<|XA K:=
 gh func263 h<|nh 0<|lh 4 0 [6]<|ah<|xe<|rn 0<|cc 1 call250<|xe<|cz<|rr 1
def jcY(r1:Option ao)(n1:Option ao)(a:af)(K:WP)(h:cl 252 #[(vp r1)] a (YG fun r2 d=>∃a1,n1=ab a1/\ll d (a1.add 10) (vu r2) fun c=>∃a2,n1=ab a2/\ll c (a2.add 11) (vi 2) fun b=>K b)):
  cl 264 #[(vp r1),(vp n1)] a<|XG K:=
 gg func264 h<|cc 3 call252<|xe<|fh<|nc 0<|kz 1<|nc 0<|kz 1<|rr 0
def PP(r1:Option ao)(g:af)(H:NP)(w:af)(K:Df):Prop:=pD w r1 1 fun d=>∃a4,r1=ab a4/\iq w H (a4.add 1) (vi<|q6.wrap<|d+1) fun h=>∃a5,r1=ab a5/\∀a,au g H h H a->lx a a5 fun f=>pD a r1 1 fun e=>∃b:ao,At f (q6.wrap<|e-1) 1 b/\∃c:Int,a.cell? b=ab (.int .u8 c)/\K bo c a
def jaF(r1:Option ao)(b:af)(K:Df)(h:∃a1,r1=ab a1/\∀a,au b bl b bl a->li a (a1.add 1) fun f=>nq a r1 fun g=>Br (f == (g.ay:Int)) (K (ab [{ v:=(.iface 334<|vi 3),recovered:=ak }]) 0 a)<|PP r1 b bl a K):
  cl 296 #[(vp r1)] b<|fun e w'=>(∃r2:Int,e=.returned (.int .u8 r2)/\K bo r2 w')\/∃c,e=.panicked c/\K (ab c) 0 w':=
 Dd func296 h<|dq 1<|nc 1<|an<|ld 1<|nc 1<|ld 1<|ja [] 2 0 [0] ([]) (fun H w=>PP _ _ H w _) (fun d=>br 0 0 (rp 1 1<|pn 1)<|je 1 0 d)<|nc 1<|ld 1<|nc 1<|iz 1<|dq 0<|nc 1<|an<|ld 1<|nc 1<|ld 1<|ix 1<|ld 0<|rr 1
def Ju(n1 i1 r2:Int)(w:af)(a:jw)(K:Df):Prop:=∃d:Int,(Go.binOp .and 5 (.int .u8 r2)<|.int .u8 127).run prog w=.ok (.int .u8 d) w/\∃c,(Go.binOp .shl 23 (vu<|dc.wrap d)<|vi<|q6.wrap<|7*i1).run prog w=.ok (vu c) w/\∃b,(Go.binOp .or 23 (vu n1)<|vu c).run prog w=.ok (vu b) w/\Br (decide (r2<128)) (Br ((r2==0)&&(decide (i1>0))) (K (ab [{ v:=(.iface 334<|vi 10),recovered:=ak }]) 0 w)<|K bo b w) (a b (q6.wrap<|i1+1) w)
def jbS(r1:Option ao)(n1 i1:Int)(a:af)(c:jw)(K:Df):Prop:=cl 296 #[(vp r1)] a fun e b=>(∃r2:Int,e=.returned (.int .u8 r2)/\Br ((i1==9)&&(decide (r2>1))) (K (ab [{ v:=(.iface 334<|vi 11),recovered:=ak }]) 0 b) (Ju n1 i1 r2 b c K))\/∃d,e=.panicked d/\K (ab d) 0 b
def jcy(r1:Option ao)(m:af)(K:Df)(h:∃(j:Int->Int->WP) (d:Int->Int->af->Nat),j 0 0 m/\∀(n1 i1:Int) (a:af),j n1 i1 a->jbS r1 n1 i1 a (fun g c w'=>j g c w'/\d g c w'<d n1 i1 a) K):
  cl 292 #[(vp r1)] m<|fun e w'=>(∃r3,e=.returned (vu r3)/\K bo r3 w')\/∃k,e=.panicked k/\K (ab k) 0 w':=
 Dd func292 h<|wc (l:=[Int,Int]) (v:=(_,_,())) 3 [0] (fun n1 i1=>[(3,(vu n1)),(4,(vi i1))])<|fun {_ _ n1 i1}=>fun o=>rp 0 1<|pc 1 call296<|xe<|fun {r2}=>pt<|rp 0 1<|Dk 1 0 [(i1==9)] [0,3,4,5] (fun b=>[(15,(vb<|(b 0)&&(decide (r2>1))))]) (fun f=>pb 1 3 0 f (fun f=>wF 3 f)<|fun f=>wF 3 f)<|jc [] 0 0 [0,3,4,5] ([]) (fun w=>Ju _ _ _ w _ _) (fun n=>br 0 0 (rp 1 1<|pn 1)<|gn 1 n)<|xe<|rb 2<|xe<|rb 3<|xe<|rb 0<|br 0 3 (Dk 1 0 [(r2==0)] [3] (fun b=>[(32,(vb<|(b 0)&&(decide (i1>0))))]) (fun i=>pb 1 3 0 i (fun i=>wF 3 i)<|fun i=>wF 3 i)<|br 0 0 (rp 1 1<|pn 1)<|rr 3)<|gn 4<|o _ _
def jaQ(b a:ao)(d:af)(K:Bj)(h:lp d b fun g=>cl 292 #[(vp g)] d fun e f=>(∃r1,e=.returned (vu r1)/\ll f a (vu r1) fun i=>K bo  i)\/∃c,e=.panicked c/\K (ab c)  f):
  cl 291 #[(vp<|ab b),(vp<|ab a)] d<|fun e w'=>(e=.returned (.tuple #[])/\K bo  w')\/∃c,e=.panicked c/\K (ab c)  w':=
 Dd func291 h<|rp 0 1<|ld 0<|pc 0 call292<|xe<|pt<|rp 0 1<|kz 0<|rr 0
def LB(a d:ao)(r1:Int)(H:NP)(w:af)(K:Bj):Prop:=jh w fun p b=>∃l,b.cell? a=ab (vp l)/\nq b l fun m=>∃i,b.cell? a=ab (vp i)/\pD b i 1 fun n=>∃e,b.cell? a=ab (vp e)/\pD b e 1 fun h=>∃s1:Sl,(Instr.sliceAt 59 m.v (ab<|vi n) (ab<|vi<|q6.wrap<|h+(q6.wrap r1)) bo).run prog b=.ok s1.v b/\∃j,(convert 59 9 s1.v).run prog b=.ok (vs j) b/\iq b H d (vs j) fun f=>∃c,f.cell? a=ab (vp c)/\pD f c 1 fun g=>∃k,c=ab k/\iq f H (k.add 1) (vi<|q6.wrap<|g+(q6.wrap r1)) fun o=>K bo  o
def RB(a c:ao)(r1:Int)(h:af)(H:NP)(w:af)(K:Bj):Prop:=∀b,au h H w H b->∃d,b.cell? a=ab (vp d)/\nq b d fun f=>∃e,b.cell? a=ab (vp e)/\pD b e 1 fun g=>Br (decide (r1>(dc.wrap<|q6.wrap<|(f.ay:Int)-g))) (K (ab [{ v:=(.iface 334<|vi 3),recovered:=ak }])  b)<|LB a c r1 H b K
def Jr(b a:ao)(r1:Int)(c:Bool)(d:af)(H:NP)(w:af)(K:Bj):Prop:=Br c (K (ab [{ v:=(.iface 334<|vi 1),recovered:=ak }])  w)<|RB b a r1 d H w K
def w_Z(a b c:ao)(d:af)(K:Bj)(h:∃l,d.cell? a=ab (vp l)/\cl 292 #[(vp l)] d fun e f=>(∃r1,e=.returned (vu r1)/\av bl d f/\∃j,f.cell? b=ab (vi j)/\Br (decide (j<0)) (Jr a c r1 ai d bl f K) (∃g,f.cell? b=ab (vi g)/\Jr a c r1 (decide (r1>(dc.wrap g))) d bl f K))\/∃i,e=.panicked i/\K (ab i)  f):
  cl 293 #[(vp<|ab a),(vp<|ab b),(vp<|ab c)] d<|fun e w'=>(e=.returned (.tuple #[])/\K bo  w')\/∃i,e=.panicked i/\K (ab i)  w':=
 Dd func293 h<|rp 0 1<|ld 0<|pc 0 call292<|xe<|u7<|rp 0 1<|ja [Bool] 1 0 [0,2,3] (fun k=>[(13,(vb k))]) (fun k H w=>Jr _ _ _ k _ H w _) (fun m=>ld 0<|br 1 2 (je 5 0<|m _)<|ld 1<|je 3 0<|m _)<|fun {k}=>ja [] 0 0 [0,2,3] ([]) (fun H w=>RB _ _ _ _ H w _) (fun o=>br 0 0 (rp 1 1<|pn 1)<|je 1 0 o)<|dq 0<|an<|ld 1<|nc 0<|ld 1<|ld 1<|nc 0<|ld 1<|ja [] 3 0 [0,2,3] ([]) (fun H w=>LB _ _ _ H w _) (fun n=>br 0 0 (rp 1 1<|pn 1)<|je 1 0 n)<|dC 0 [17] [17]<|pN 0<|nc 0<|pN 1<|pN 0<|nc 0<|pN 1<|pN 0<|nc 0<|pN 1<|xe<|Io 3<|xe<|Io 0<|iz 0<|ld 0<|nc 0<|ld 1<|nc 3<|iz 1<|rr 0
def VL(b a:ao)(d:af)(K:Bj)(h:lp d b fun g=>cl 296 #[(vp g)] d fun e f=>(∃r1:Int,e=.returned (.int .u8 r1)/\ll f a (.int .u8 r1) fun i=>K bo  i)\/∃c,e=.panicked c/\K (ab c)  f):
  cl 295 #[(vp<|ab b),(vp<|ab a)] d<|fun e w'=>(e=.returned (.tuple #[])/\K bo  w')\/∃c,e=.panicked c/\K (ab c)  w':=
 Dd func295 h<|rp 0 1<|ld 0<|pc 0 call296<|xe<|pt<|rp 0 1<|kz 0<|rr 0
def wU:nY prog 59 5 1 1:=by
 refine⟨underlying59,⟨t5,_,Kf,(by kernel_rfl:t5.zero=ab (.int .u8 0)),Kf,Kf,rfl⟩,Om⟩
def Py{S:NP}(s:Sl)(bs:List UInt8)(c:af)(hs:gr S c 1 s (gO bs))(n:s.a=bo->s=Sl.nil)(w:bs.length<=100000000000):
  cl 271 #[s.v] c<|XA fun r w'=>jd c 5 1 (gO bs) r w':=by
 refine Wz _ c _ ?_
 refine⟨s.a.isNone,?_,fun h=>?_,fun h=>?_⟩
 exact QW c s.a s.ay s.cap underlying59
 have g:=n<|Option.isNone_iff_eq_none.1 h
 subst g
 have:bs=[]:=by have:=hs.ay;rw[vW]at this;exact length_eq_zero_iff.1 this.symm
 subst this
 exact⟨c9.nil _ _ _,fun b d=>(by have⟨a,j,_⟩:=d;cases j),aj.refl _⟩
 intro m o h1
 have i:aq c o:=aj.bu h1
 have⟨q,p,l,u,k,d⟩:=(c9.empty (sz:=1) h1).Am (P:=prog) (ty:=59) wU (hs.pure i) (AG _) (JN _) (by rw[vW];simp;omega) (by rw[vW];simp[maxLen];omega)
 have t:=h1.gp
 have f:∀b,(Sl.mk (ab m) 0 0).bg b->c.heap.size<=b:=fun b d=>(by have⟨a,j,e⟩:=d;cases j;omega)
 exact⟨q,p,l,Uc,fun b h=>(d b h).elim (f b) fun h=>Oh i.size,i.ft k Gd⟩
def jd.put{w0 w w1 s bs x p}(h:jd w0 5 1 (gO bs) s w)(f:fp w (.cells #[.int .u8 (x.toNat:Int)] 5) p w1)(m:bs.length<=100000000000):
  ∃s' w',(cm #[59,59] 59 #[s.v,(Sl.mk (ab p) 1 1).v]).run prog w1=.ok s'.v w'/\jd w0 5 1 (gO<|bs++[x]) s' w':=by
 have e:aq w w1:=aj.bu f
 have a:=(az.j0 f).row
 have⟨s',w',j,k,g,l⟩:=(h.fg.pure e).append (ty:=59) (c:=1) wU a rfl rfl (by rw[vW];omega) (by rw[vW];simp[maxLen];omega)
 have h1:=(h.pure.trans e)
 exact⟨s',w',j,by rw[Eu];exact k,fun b d=>(l b d).elim (h.bf b) fun h2=>Oh h1.size,h1.ft g fun i hi h2=>Oh<|h.bf i h2⟩
def jd.cf{c w:af}{s:Sl}{bs:List UInt8}{x:ByteArray}(h:jd c 5 1 (gO<|bs++vE x.size) s w)(l:bs.length<=10000000000)(k:x.size<=10000000000):
  ∃s' w',(cm #[59,9] 59 #[s.v,vs x]).run prog w=.ok s'.v w'/\jd c 5 1 (gO<|bs++vO x) s' w':=by
 have j:=vN (n:=x.size) Om
 have⟨s',w',e,f,d,g⟩:=h.fg.jcX (ty:=59) wU underlying9 x (by rw[vW,length_append];omega) (by rw[vW,length_append];simp[maxLen];omega)
 refine⟨s',w',e,?_,fun b a=>(g b a).elim (h.bf b) fun h2=>Oh h.pure.size,h.pure.ft d fun i hi h2=>Oh<|h.bf i h2⟩
 rw[vO,<-append_assoc,Eu];exact f
def AU{S}(s bs)(n:Nat)(w0)(hs:gr S w0 1 s (gO bs))(i:s.a=bo->s=Sl.nil)(q:bs.length<=10000000000)(f:n<18446744073709551616):
  cl 250 #[s.v,vu (n:Int)] w0<|XA fun r w'=>jd w0 5 1 (gO<|bs++vE n) r w':=by
 refine Xz _ _ w0 _ ?_
 refine(Py s bs w0 hs i Om).mono ?_
 rintro _ p ⟨r1,rfl,h1⟩
 refine⟨r1,rfl,fun b m w=>∃k:Nat,∃xs:List UInt8,m=(k:Int)/\k<18446744073709551616/\xs++vE k=bs++vE n/\jd w0 5 1 (gO xs) b w,fun _ m _=>m.toNat,⟨n,bs,rfl,f,rfl,h1⟩,?_⟩
 rintro b _ w ⟨k,xs,rfl,o,hx,e⟩
 have g:xs.length<=10000000010:=by
  have:=mu List.length hx;have:=vN f;simp only[length_append]at *;omega
 refine⟨fun h=>?_,fun h=>?_⟩
 have h:=ij h
 refine⟨_,U7 k,fun j l h2=>?_⟩
 have⟨s',w',d,c⟩:=e.put h2 Om
 refine⟨s',w',d,_,V7 k,⟨k/128,xs++[UInt8.ofNat<|k%128+128],rfl,Om,?_,c⟩,Uc⟩
 rw[<-hx,Bm (n:=k) Om];simp
 have h:=il h
 intro j l h2
 rw[yb]at h2
 have⟨s',w',d,c⟩:=e.put h2 Om
 refine⟨s',w',d,?_⟩
 rw[<-hx,tD (n:=k) Om];exact c
def Bx{S}(s bs)(n:Nat)(w0)(hs:gr S w0 1 s (gO bs))(C:bs.length<=10000000000)(q:n<18446744073709551616):
  cl 214 #[s.v,vu (n:Int)] w0<|XA fun r w'=>jd w0 5 1 (gO<|bs++vE n) r w':=by
 refine VQ _ _ w0 _ ?_
 intro u y h1
 have l:aq w0 y:=aj.bu h1
 have⟨p,g,d,f,A,o⟩:=(c9.empty (sz:=1) h1).Am (P:=prog) (ty:=59) wU (hs.pure l) (AG _) (JN _) (by rw[vW];simp;omega) (by rw[vW];simp[maxLen];omega)
 have D:=h1.gp
 have j:∀b,(Sl.mk (ab u) 0 0).bg b->w0.heap.size<=b:=fun b o=>(by have⟨a,B,e⟩:=o;cases B;omega)
 have i:jd w0 5 1 (gO bs) p g:=⟨by simpa using f,fun b h=>(o b h).elim (j b) fun h=>Oh l.size,l.ft A Gd⟩
 refine⟨p,g,d,fun m b w=>∃k:Nat,∃xs:List UInt8,m=(k:Int)/\k<18446744073709551616/\xs++vE k=bs++vE n/\jd w0 5 1 (gO xs) b w,fun m _ _=>m.toNat,⟨n,bs,rfl,q,rfl,i⟩,?_⟩
 rintro _ b w ⟨k,xs,rfl,x,hx,f⟩
 have t:xs.length<=10000000010:=by
  have:=mu List.length hx;have:=vN q;simp only[length_append]at *;omega
 refine⟨fun h=>?_,fun h=>?_⟩
 have h:=ij h
 refine⟨_,jYR k,fun z g h2=>?_⟩
 rw[show dc.wrap (((k%128:Nat):Int)+128)=((k%128+128:Nat):Int) by simp[IntKind.wrap,IntKind.bits,IntKind.signed];omega,yb]at h2
 have⟨s',w',d,c⟩:=f.put h2 Om
 refine⟨s',w',d,_,V8 k x,⟨k/128,xs++[UInt8.ofNat<|k%128+128],rfl,Om,?_,c⟩,by show(((k/128:Nat):Int)).toNat<((k:Int)).toNat;omega⟩
 rw[<-hx,Bm (n:=k) Om];simp
 have h:=il h
 intro z g h2
 rw[yb]at h2
 have⟨s',w',d,c⟩:=f.put h2 Om
 refine⟨s',w',d,?_⟩
 rw[<-hx,tD (n:=k) Om];exact c
def Vx{S}(s bs x w0)(hs:gr S w0 1 s (gO bs))(d:s.a=bo->s=Sl.nil)(b:bs.length<=10000000000)(c:x.size<=10000000000):
  cl 258 #[s.v,vs x] w0<|XA fun r w'=>jd w0 5 1 (gO<|bs++vO x) r w':=by
 refine VO _ _ w0 _ ?_
 rw[show dc.wrap (x.size:Int)=(x.size:Int) by simp[IntKind.wrap,IntKind.bits,IntKind.signed];omega]
 refine(AU s bs x.size w0 hs d b Om).mono ?_
 rintro _ e ⟨r1,rfl,h1⟩
 exact⟨r1,rfl,h1.cf b c⟩
def Vp{S}(s bs x w0)(hs:gr S w0 1 s (gO bs))(a:bs.length<=10000000000)(b:x.size<=10000000000):
  cl 215 #[s.v,vs x] w0<|XA fun r w'=>jd w0 5 1 (gO<|bs++vO x) r w':=by
 refine TX _ _ w0 _ ?_
 rw[show dc.wrap (x.size:Int)=(x.size:Int) by simp[IntKind.wrap,IntKind.bits,IntKind.signed];omega]
 refine(Bx s bs x.size w0 hs a Om).mono ?_
 rintro _ c ⟨r1,rfl,h1⟩
 exact⟨r1,rfl,h1.cf a b⟩
def WZ{P}{ε:Operand->bk}{w}{d:Option Tmp}{ty}{pos:String}{aft:Array Edge}{g:Option (Nat×Bool)}{x X T v}{a:TypeDesc}(hx:ε x=.iface T v)(ht:P.underlying T=ab a)(hi:∀m,a≠.interface m):
  (execOp ε ⟨d,.typeAssert x X T ai,ty,pos,aft,g⟩).run P w=.ok (.value<|.tuple #[v,vb ai]) w:=by
 simp only[execOp,hx]
 have:(Instr.typeAssert (.iface T v) X T ai).run P w=.ok (.tuple #[v,vb ai]) w:=by
  unfold Instr.typeAssert;simp only[Sem.run_bind,run_underlying ht,Result.andThen];cases a<;>first|exact absurd rfl (hi _)|simp
 simp[this]
set_option maxRecDepth 100000 in
def Zr(c d:ao)(w:af):CallsD prog 308 #[vp<|ab c,vp<|ab d] .returning w (fun e f w'=>f=.returning/\(e=.returned (.tuple #[])/\w'=w)):=by
 refine Lx (args:=[vp<|ab c,vp<|ab d]) (R:=fun e w'=>e=.returned (.tuple #[])/\w'=w) .L7 func308 rfl ntmps308 (Nat.le_of_ble_eq_true rfl) De De ?_;refine vh ?_;refine rg ?_;refine q0 .nilIface ?_;refine q0 (vb ak) ?_;refine tN ?_;refine xg ?_;refine CV (t:=ak) Kf (fun b=>Uc) fun b=>?_;refine EH ?_;exact⟨.tuple #[],fun ds a g=>by rw[results_none results308],rfl,rfl⟩
set_option maxRecDepth 100000 in
def zHS(g f r:ao)(b e:Int)(c:List PanicEntry)(w:af)(j:w.cell? g=ab (vi b))(i:w.cell? f=ab (vp<|ab r))(h1:zJ w (r.add 1))(h2:zJ w (r.add 2))(h3:zJ w (r.add 3)):
  CallsD prog 308 #[vp<|ab g,vp<|ab f] (.panicking ({ v:=.iface 334<|vi e,recovered:=ak } ::c)) w (fun h k w'=>k=.panicking ({ v:=.iface 334<|vi e,recovered:=ai } ::c) /\
   (h=.returned (.tuple #[])/\w'=((w.setCell (r.add 1)<|vi b).setCell (r.add 2)<|vi e).setCell (r.add 3) (vi b))):=by
 refine Lx (args:=[vp<|ab g,vp<|ab f]) (R:=fun h w'=>h=.returned (.tuple #[])/\w'=((w.setCell (r.add 1)<|vi b).setCell (r.add 2)<|vi e).setCell (r.add 3) (vi b)) (.oy _ c) func308 rfl ntmps308 (Nat.le_of_ble_eq_true rfl) De De ?_
 refine vh ?_
 refine rg ?_
 refine q0 (.iface 334<|vi e) ?_
 refine q0 (vb ai) ?_
 refine tN ?_
 refine xg ?_
 refine CV (t:=ai) Kf (fun d=>?_) fun d=>Uc
 refine vh ?_
 refine rg ?_
 refine q0 (.iface 334<|vi e) ?_
 refine q2 (.tuple #[vi e,vb ai]) (WZ Kf underlying334 Uc) ?_
 refine q0 (.tuple #[vi e,vb ai]) ?_
 refine q0 (vi e) ?_
 refine q0 (vb ai) ?_
 refine q0 (vi e) ?_
 refine q0 (vb ai) ?_
 refine tN ?_
 refine xg ?_
 refine vh ?_
 refine vh ?_
 refine rg ?_
 refine q0 (vb ai) ?_
 refine q0 (vb ak) ?_
 refine tN ?_
 refine xg ?_
 refine CV (t:=ak) Kf (fun d=>Uc) fun d=>?_
 refine EH ?_
 refine xg ?_
 refine rg ?_
 refine q2 (vp<|ab r) (rT (a:=f) Kf (isAgg272 _) i) ?_
 refine q2 (vp<|ab r) (rT (a:=f) Kf (isAgg272 _) i) ?_
 refine q2 (vp<|ab r) (rT (a:=f) Kf (isAgg272 _) i) ?_
 refine q2 (vi b) (rT (a:=g) Kf (isAgg3 _) j) ?_
 refine q0 (vi e) ?_
 refine q2 (vi b) (rT (a:=g) Kf (isAgg3 _) j) ?_
 refine q0 (vp<|ab r) ?_
 refine q0 (vp<|ab<|r.add 1) ?_
 refine Fl (wE rfl) (Co (a:=r.add 1) (v:=vi b) Kf Kf rfl (sizeOf3 _) h1) ?_
 rintro m rfl
 refine q0 (vp<|ab r) ?_
 refine q0 (vp<|ab<|r.add 2) ?_
 refine Fl (wE rfl) (Co (a:=r.add 2) (v:=vi e) Kf Kf rfl (sizeOf54 _) (zJ.setCell h2)) ?_
 rintro n rfl
 refine q0 (vp<|ab r) ?_
 refine q0 (vp<|ab<|r.add 3) ?_
 refine Fl (wE rfl) (Co (a:=r.add 3) (v:=vi b) Kf Kf rfl (sizeOf3 _) (zJ.setCell<|zJ.setCell h3)) ?_
 rintro o rfl
 refine tN ?_
 exact⟨.tuple #[],fun ds a l=>by rw[results_none results308],rfl,rfl⟩
def Po{P w f cap args}(a:∀args w,(callFunc f args).run P w=.ok (.enter f args) w)(h:cap=args):(invoke (.fn (.func f) cap) #[]).run P w=.ok (.enter f args) w:=by
 subst h;simp[invoke,a]
set_option maxRecDepth 100000 in
def G2(r:ao)(b:bk)(e:Int)(f:af)(m:f.cell? (r.add 2)=ab (vi e))(l:e≠0):
  cl 290 #[vp<|ab r,b] f<|XG fun w'=>aq f w':=by
 refine W4 (args:=[vp<|ab r,b]) func290 rfl ntmps290 (Nat.le_of_ble_eq_true rfl) ?_
 refine vh ?_
 refine rg ?_
 refine HK (O:=(.cells #[(vp<|ab r)] 272)) (fun p=>vp<|ab p) (wE rfl) (Lr (cs:=#[(vp<|ab r)]) Kf) ?_
 intro i k c
 have j:aq f k:=aj.bu c
 have d:=(az.j0 c).dj
 have g:=j.cell m id
 refine tN ?_
 refine xg ?_
 refine vh ?_
 refine vh ?_
 refine rg ?_
 refine q2 (vp<|ab r) (rT (a:=i) Kf (isAgg272 _) d) ?_
 refine q2 (vb ak) (KB (x:=ab r) Kf rfl underlying272) ?_
 refine q0 (vb ak) ?_
 refine q2 (vp<|ab r) (rT (a:=i) Kf (isAgg272 _) d) ?_
 refine q0 (vp<|ab r) ?_
 refine q0 (vp<|ab<|r.add 2) ?_
 refine q2 (vi e) (rT (a:=r.add 2) Kf (isAgg54 _) g) ?_
 refine q0 (vb<|(e:Int) !=0) ?_
 refine q0 (vb<|(e:Int) !=0) ?_
 refine tN ?_
 refine xg ?_
 refine CV (t:=ai) (by rw[show((e:Int) !=0)=ai by simpa using l];kernel_rfl) (fun h=>?_) fun h=>Uc
 refine MV ?_
 refine jaB ?_
 exact jdo (.inl rfl) results290 ⟨rfl,j⟩
set_option maxRecDepth 100000 in
def HM(r:ao)(fd:FuncId)(caps:Array bk)(at_:Int)(l:af)(K:WP)(h1:l.cell? (r.add 1)=ab (vi at_))(h2:l.cell? (r.add 2)=ab (vi 0))(J:∀args w,(callFunc fd args).run prog w=.ok (.enter fd args) w)(tc:∀k p C,aq l k->l.heap.size<=ao.block p->l.heap.size<=ao.block C->k.cell? p=ab (vp (ab r))->k.cell? C=ab (vi at_) ->
   Calls prog fd caps k (fun e i=>(e=.returned (.tuple #[])/\K i)\/∃x,e=.panicked [{ v:=.iface 334 (vi x),recovered:=ak }]/\i.cell? p=ab (vp (ab r))/\i.cell? C=ab (vi at_)/\zJ i (r.add 1)/\zJ i (r.add 2)/\zJ i (r.add 3) /\
    K (((i.setCell (r.add 1) (vi at_)).setCell (r.add 2) (vi x)).setCell (r.add 3) (vi at_)))):
  cl 290 #[vp (ab r),.func (.func fd) #[] caps] l (XG K):=by
 refine jRW (args:=[vp (ab r),.func (.func fd) #[] caps]) func290 rfl ntmps290 (Nat.le_of_ble_eq_true rfl) ?_
 intro a b
 refine IP b ?_
 refine rg ?_
 refine HK (O:=(.cells #[(vp (ab r))] 272)) (fun p=>vp (ab p)) (wE rfl) (Lr (cs:=#[(vp (ab r))]) Kf) ?_
 intro d k m
 have y:aq l k:=aj.bu m
 have c:=(az.j0 m).dj
 have s:=y.cell h2 id
 have P:=m.gp
 clear b
 refine tN ?_
 intro a b
 refine IP b ?_
 refine vh ?_
 refine rg ?_
 refine q2 (vp (ab r)) (rT (a:=d) Kf (isAgg272 _) c) ?_
 refine q2 (vb ak) (KB (x:=ab r) Kf rfl underlying272) ?_
 refine q0 (vb ak) ?_
 refine q2 (vp (ab r)) (rT (a:=d) Kf (isAgg272 _) c) ?_
 refine q0 (vp (ab r)) ?_
 refine q0 (vp (ab (r.add 2))) ?_
 refine q2 (vi 0) (rT (a:=r.add 2) Kf (isAgg54 _) s) ?_
 refine q0 (vb ak) ?_
 refine q0 (vb ak) ?_
 refine tN ?_
 refine xg ?_
 refine CV (t:=ak) Kf (fun D=>Uc) fun D=>?_
 refine EH ?_
 clear b
 intro a b
 refine IP b ?_
 refine rg ?_
 refine q2 (vp (ab r)) (rT (a:=d) Kf (isAgg272 _) c) ?_
 refine q0 (vp (ab r)) ?_
 refine q0 (vp (ab (r.add 1))) ?_
 refine q2 (vi at_) (rT (a:=r.add 1) Kf (isAgg3 _) (y.cell h1 id)) ?_
 refine HK (O:=(.cells #[(vi 0)] 3)) (fun p=>vp (ab p)) (wE rfl) (Vk (zeroValue3 _) rfl) ?_
 intro g i h
 have L:=y.trans (aj.bu h)
 have R:=h.gp
 have I:=az.j0 h
 refine Fl (wE rfl) (Co (a:=g) (v:=vi at_) Kf Kf rfl (sizeOf3 _) (I.mi Sm)) ?_
 intro E j
 have Q:=af.block_lt_of_cell? k d c
 have M:=L.bf (p:=g) Uc (j▸aj.setCell g _)
 have u:E.cell? d=ab (vp (ab r)):=by
  rw[j];exact(aj.setCell g _).cell ((aj.bu (F:=bl) h).cell c id) fun e=>Om
 have B:E.cell? g=ab (vi at_):=by
  rw[j];exact(I.nw).dj
 refine tN ?_
 clear b
 intro a b
 refine Ul b De ?_
 clear b
 intro a b
 refine OU b ?_
 refine Md Kf ?_
 refine CT 1 ?_
 refine q0 (.func (.func fd) #[] caps) ?_
 refine tN ?_
 refine Rm (wE rfl) Uc (zJO (caps:=caps) (args:=#[]) (args':=caps) Kf J rfl Sm) ((tc E d g M Om Uc u B).mono ?_)
 rintro e H (⟨rfl,o⟩|⟨x,rfl,z,A,q,G,n,o⟩)
 refine .inl ⟨_,rfl,?_⟩
 refine zEZ ?_
 clear b
 intro a b
 show Leaves _ _ _ _ _ _ _
 rw[b.defers]
 refine leaves_cons (f:=308) (args:=#[vp (ab g),vp (ab d)]) Sm (Po call308 (by simp[gx,put,sM])) ?_
 refine(Zr g d H).mono ?_
 rintro e N S ⟨rfl,rfl,rfl⟩
 exact⟨_,results_none results290 _ _ _,rfl,o⟩
 refine .inr ⟨_,rfl,?_⟩
 intro T
 clear b
 intro a b
 show Leaves _ _ _ _ _ _ _
 rw[b.defers]
 refine leaves_cons (f:=308) (args:=#[vp (ab g),vp (ab d)]) Sm (Po call308 (by simp[gx,put,sM])) ?_
 refine(zHS g d r at_ x [] H A z q G n).mono ?_
 rintro e N S ⟨rfl,rfl,rfl⟩
 exact⟨_,results_none results290 _ _ _,rfl,o⟩
end Go.Proofs
end
