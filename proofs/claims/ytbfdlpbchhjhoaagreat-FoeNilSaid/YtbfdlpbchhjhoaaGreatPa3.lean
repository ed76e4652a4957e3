import Derived.Test.YtbfdlpbchhjhoaaGreatPa2
import Derived.Test.YtbfdlpbchhjhoaaGreatPa1
import Derived.Test.YtbfdlpbchhjhoaaGreatProg
import Derived.KernelRfl
import Derived.IntWalk
section
namespace Go.Sp
def uF (k:Int):Bool:=k == 7 || k == 8 || k == 9
def jHN (k:Int):Bool:=k == 1 || k == 2 || k == 3
def vL (n:Int):Node:=⟨6,n,0,0,⟨#[]⟩,0,0⟩
def xK (n:Node):Int:=if n.kind=9 then n.to else n.frm
def uB (L:Pool) (r u t:Int):Prop :=
 (r=1∧(nodeOf L u).kind=4∧(nodeOf L u).a=t)∨(r=2∧(nodeOf L u).kind=4∧(nodeOf L u).b=t)∨(r=3∧uF (nodeOf L u).kind=true∧(nodeOf L u).a=t)
inductive Seen (L:Pool) (G:List Int):Int→Prop
 | given {t:Int}:t∈G→Seen L G t
 | «from» {r u t:Int}:Seen L G u→uB L r u t→Seen L G t
inductive Drv (L:Pool) (K:Int→Prop):Int→Prop
 | seen {t:Int}:K t→Drv L K t
 | free {t:Int}:jHN (nodeOf L t).kind=true→Drv L K t
 | pair {t:Int}:(nodeOf L t).kind=4→Drv L K (nodeOf L t).a→Drv L K (nodeOf L t).b→Drv L K t
 | hash {t:Int}:(nodeOf L t).kind=5→Drv L K (nodeOf L t).a→Drv L K t
 | sign {t:Int} {i:Nat}:uF (nodeOf L t).kind=true→Drv L K (nodeOf L t).a→find L (vL (xK (nodeOf L t)))=some i→K ((i:Int)+1)→Drv L K t
structure Way where
 t:Int
 rule:Int
 frm:Int
deriving DecidableEq
def zO (S:List Way):List Int:=S.map Way.t
def jFP (L:Pool) (G:List Int) (pre:List Way) (v:Way):Prop:=(v.rule=0∧v.frm=0∧v.t∈G)∨(v.rule≠0∧uB L v.rule v.frm v.t∧v.frm∈zO pre)
structure WaysOk (L:Pool) (G:List Int) (S:List Way):Prop where
 nodup:(zO S).Nodup
 inp:∀t∈zO S,inP L t=true
 way:∀i (h:i<S.length),jFP L G (S.take i) S[i]
def jFH (L:Pool) (S:List Way) (u:Int):Prop:=∀r t,uB L r u t→t∈zO S
structure KnowOk (L:Pool) (G:List Int) (S:List Way):Prop extends WaysOk L G S where
 closed:∀u∈zO S,jFH L S u
 giv:∀t∈G,t∈zO S
 gnd:G.Nodup
theorem qS (S:List Way):(zO S).length=S.length:=by simp [zO]
theorem jFP.mono {L:Pool} {G G':List Int} {pre:List Way} {v:Way} (h:jFP L G pre v) (hG:∀t∈G,t∈G'):jFP L G' pre v:=by
 rcases h with ⟨a,b,c⟩ | h
 ·exact .inl ⟨a,b,hG _ c⟩
 ·exact .inr h
theorem WaysOk.mono {L:Pool} {G G':List Int} {S:List Way} (h:WaysOk L G S) (hG:∀t∈G,t∈G'):WaysOk L G' S:=⟨h.nodup,h.inp,fun i hi=>(h.way i hi).mono hG⟩
theorem WaysOk.snoc {L:Pool} {G:List Int} {S:List Way} (h:WaysOk L G S) {v:Way} (hn:v.t ∉ zO S) (hi:inP L v.t=true) (hv:jFP L G S v):WaysOk L G (S++[v]):=by
 refine ⟨?_,?_,fun i hlt=>?_⟩
 ·unfold zO at hn ⊢;rw [List.map_append,List.nodup_append];exact ⟨h.nodup,by simp,fun x hx y hy e=>by simp at hy;subst hy;exact hn (e▸hx)⟩
 ·intro t ht;unfold zO at ht;rw [List.map_append,List.mem_append] at ht;rcases ht with ht | ht
  ·exact h.inp t ht
  ·simp at ht;rw [ht];exact hi
 ·rw [List.length_append] at hlt;simp only [List.length_cons,List.length_nil] at hlt;by_cases hl:i<S.length
  ·rw [List.getElem_append_left hl,List.take_append_of_le_length (by omega)];exact h.way i hl
  ·have:i=S.length:=by omega
   subst this;rw [List.getElem_append_right (Nat.le_refl _),List.take_left];simpa using hv
theorem jFH.snoc {L:Pool} {S:List Way} {u:Int} {v:Way} (h:jFH L S u):jFH L (S++[v]) u:=fun r t ha=>by
 unfold zO;rw [List.map_append];exact List.mem_append_left _ (h r t ha)
theorem jGV {S:List Way} {t:Int} (h:t∈zO S):∃i,∃hi:i<S.length,S[i].t=t∧(zO S).idxOf t=i:=by
 have hlt:=List.idxOf_lt_length_iff.2 h;refine ⟨(zO S).idxOf t,by simpa [zO] using hlt,?_,rfl⟩;have:=List.getElem_idxOf hlt;simp only [zO,List.getElem_map] at this ⊢;exact this
theorem KnowOk.seen_iff {L:Pool} {G:List Int} {S:List Way} (h:KnowOk L G S) (t:Int):t∈zO S↔Seen L G t:=by
 constructor
 ·intro ht;obtain ⟨i,hi,e,_⟩:=jGV ht;subst e;have:∀(n i:Nat) (hi:i<S.length),i≤n→Seen L G S[i].t:=by
   intro n;induction n with
   | zero =>
    intro i hi h0
    have:i=0:=by omega
    subst this
    rcases h.way 0 hi with ⟨_,_,hg⟩ | ⟨_,_,hm⟩
    ·exact .given hg
    ·simp [zO] at hm
   | succ n ih =>
    intro i hi hn
    rcases h.way i hi with ⟨_,_,hg⟩ | ⟨_,ha,hm⟩
    ·exact .given hg
    ·obtain ⟨j,hj,e,_⟩:=jGV hm
     rw [List.length_take] at hj
     have:=ih j (by omega) (by omega)
     rw [List.getElem_take] at e
     rw [e] at this
     exact .from this ha
  exact this i i hi (Nat.le_refl _)
 ·intro hs;induction hs with
  | given hg=>exact h.giv _ hg
  | «from» _ ha ih=>exact h.closed _ ih _ _ ha
theorem Seen.mono {L:Pool} {G G':List Int} (hG:∀t∈G,t∈G') {t:Int} (h:Seen L G t):Seen L G' t:=by
 induction h with
 | given hg=>exact .given (hG _ hg)
 | «from» _ ha ih=>exact .from ih ha
theorem Drv.mono {L:Pool} {K K':Int→Prop} (hK:∀t,K t→K' t) {t:Int} (h:Drv L K t):Drv L K' t:=by
 induction h with
 | seen h=>exact .seen (hK _ h)
 | free h=>exact .free h
 | pair h _ _ iha ihb=>exact .pair h iha ihb
 | hash h _ ih=>exact .hash h ih
 | sign h _ hf hk ih=>exact .sign h ih hf (hK _ hk)
structure Step where
 rule:Int
 a:Int
 b:Int
 t:Int
deriving DecidableEq
def jKR (i:Nat) (v:Int):Bool:=decide (0≤v) && decide (v<i)
def tAt (pre:List Step) (v:Int):Int:=(pre[v.toNat]?.map Step.t).getD 0
def jML (L:Pool) (r u t:Int):Bool :=
 if r=1 then (nodeOf L u).kind == 4 && (nodeOf L u).a == t else if r=2 then (nodeOf L u).kind == 4 && (nodeOf L u).b == t else uF (nodeOf L u).kind && (nodeOf L u).a == t
def fol (L:Pool) (G:List Int) (pre:List Step) (s:Step):Bool :=
 if inP L s.t=false then false
 else if s.rule=0 then s.a == 0 && s.b == 0 && decide (s.t∈G)
 else if s.rule=1∨s.rule=2∨s.rule=3 then jKR pre.length s.a && s.b == 0 && jML L s.rule (tAt pre s.a) s.t
 else if s.rule=4 then s.a == 0 && s.b == 0 && jHN (nodeOf L s.t).kind
 else if s.rule=5 then
  if (nodeOf L s.t).kind=4 then jKR pre.length s.a && jKR pre.length s.b && tAt pre s.a == (nodeOf L s.t).a && tAt pre s.b == (nodeOf L s.t).b
  else if (nodeOf L s.t).kind=5 then jKR pre.length s.a && s.b == 0 && tAt pre s.a == (nodeOf L s.t).a
  else if uF (nodeOf L s.t).kind=true then jKR pre.length s.a && jKR pre.length s.b && tAt pre s.a == (nodeOf L s.t).a && (nodeOf L (tAt pre s.b)).kind == 6 && (nodeOf L (tAt pre s.b)).frm == xK (nodeOf L s.t)
  else false
 else false
end Go.Sp
namespace Go.Sp
theorem jJC {α:Type} [DecidableEq α]:∀{l m:List α},l.Nodup→(∀x∈l,x∈m)→l.length≤m.length
 | [],m,_,_=>by simp
 | x :: l,m,hn,hs=>by
  have hx:=hs x (by simp);rw [List.nodup_cons] at hn;have:=jJC (m:=m.erase x) hn.2 (fun y hy=>(List.mem_erase_of_ne (fun h=>hn.1 (by rw [← h];exact hy))).2 (hs y (List.mem_cons_of_mem _ hy)));rw [List.length_erase_of_mem hx] at this;have:=List.length_pos_of_mem hx;simp only [List.length_cons];omega
theorem jAH {L:Pool} {l:List Int} (hn:l.Nodup) (hi:∀t∈l,inP L t=true):l.length≤L.length:=by
 have:=jJC (m:=(List.range L.length).map fun i:Nat=>(i:Int)+1) hn (fun t ht=>by
  obtain ⟨i,h1,h2⟩:=tA (hi t ht);exact List.mem_map.2 ⟨i,List.mem_range.2 h1,h2.symm⟩)
 simpa using this
theorem WaysOk.few {L:Pool} {G:List Int} {S:List Way} (h:WaysOk L G S):S.length≤L.length:=by
 have:=jAH h.nodup h.inp;rwa [qS] at this
theorem jWA {L:Pool} (h:Wf L) {t:Int} (ht:inP L t=true) (hk:(nodeOf L t).kind=4):(inP L (nodeOf L t).a=true∧(nodeOf L t).a<t)∧(inP L (nodeOf L t).b=true∧(nodeOf L t).b<t):=by
 have:=(h.node ht).2.2.2.2.1;simp only [zG,hk,shapeOf] at this;exact ⟨this _ (by simp),this _ (by simp)⟩
theorem kids7 {L:Pool} (h:Wf L) {t:Int} (ht:inP L t=true) (hk:uF (nodeOf L t).kind=true):inP L (nodeOf L t).a=true∧(nodeOf L t).a<t:=by
 have:=(h.node ht).2.2.2.2.1;simp only [uF,Bool.or_eq_true,beq_iff_eq] at hk;rcases hk with (hk | hk) | hk <;> simp only [zG,hk,shapeOf] at this <;> exact this _ (by simp)
theorem uB.inp {L:Pool} (h:Wf L) {r u t:Int} (hu:inP L u=true) (ha:uB L r u t):inP L t=true∧t<u:=by
 rcases ha with ⟨_,hk,rfl⟩ | ⟨_,hk,rfl⟩ | ⟨_,hk,rfl⟩
 ·exact (jWA h hu hk).1
 ·exact (jWA h hu hk).2
 ·exact kids7 h hu hk
def tJ (S:List Way) (v:Way):List Way:=if v.t∈zO S then S else S++[v]
theorem xA (S:List Way) (v:Way):zO (S++[v])=zO S++[v.t]:=by simp [zO]
theorem xV (S:List Way) (v:Way):v.t∈zO (tJ S v)∧∀t∈zO S,t∈zO (tJ S v):=by
 unfold tJ;split
 ·rename_i h;exact ⟨h,fun _ h=>h⟩
 ·rw [xA];exact ⟨by simp,fun t ht=>List.mem_append_left _ ht⟩
theorem jBD (S:List Way) (v:Way):∃M,tJ S v=S++M:=by
 unfold tJ;split
 ·exact ⟨[],by simp⟩
 ·exact ⟨[v],rfl⟩
theorem WaysOk.add {L:Pool} {G:List Int} {S:List Way} (h:WaysOk L G S) {v:Way} (hi:inP L v.t=true) (hv:jFP L G S v):WaysOk L G (tJ S v):=by
 unfold tJ;split
 ·exact h
 ·rename_i hn;exact h.snoc hn hi hv
end Go.Sp
end
section
open Go.SE
namespace Go.Sp
def lT (L:Pool) (n:Int):Int×Bool:=match find L (vL n) with
 | some i=>((i:Int)+1,true)
 | none=>(0,false)
theorem jJO {L:Pool} {n:Node} {i:Nat} (h:find L n=some i):i<L.length∧nodeOf L ((i:Int)+1)=n:=by
 unfold find at h;rw [List.findIdx?_eq_some_iff_getElem] at h;obtain ⟨hi,h1,_⟩:=h;refine ⟨hi,?_⟩;rw [qB hi];simpa using h1
theorem jHK {L:Pool} {n:Int} (h:(lT L n).2=true):inP L (lT L n).1=true∧nodeOf L (lT L n).1=vL n∧∃i,find L (vL n)=some i∧(lT L n).1=(i:Int)+1:=by
 unfold lT at h ⊢;cases hf:find L (vL n) with
 | none=>rw [hf] at h;cases h
 | some i =>
  obtain ⟨hi,hn⟩:=jJO hf
  exact ⟨zX.2 ⟨by simp only;omega,by simp only;omega⟩,hn,i,rfl,rfl⟩
theorem jOV {L:Pool} {n:Int} {i:Nat} (h:find L (vL n)=some i):lT L n=((i:Int)+1,true):=by unfold lT;rw [h]
theorem Drv.inv {L:Pool} {K:Int→Prop} {t:Int} (h:Drv L K t):K t∨jHN (nodeOf L t).kind=true∨((nodeOf L t).kind=4∧Drv L K (nodeOf L t).a∧Drv L K (nodeOf L t).b)∨((nodeOf L t).kind=5∧Drv L K (nodeOf L t).a) ∨
  (uF (nodeOf L t).kind=true∧Drv L K (nodeOf L t).a∧(lT L (xK (nodeOf L t))).2=true∧K (lT L (xK (nodeOf L t))).1):=by
 cases h with
 | seen h=>exact .inl h
 | free h=>exact .inr (.inl h)
 | pair h a b=>exact .inr (.inr (.inl ⟨h,a,b⟩))
 | hash h a=>exact .inr (.inr (.inr (.inl ⟨h,a⟩)))
 | sign h a hf hk=>rw [jOV hf];exact .inr (.inr (.inr (.inr ⟨h,a,rfl,hk⟩)))
theorem Drv.signed {L:Pool} {K:Int→Prop} {t:Int} (h:uF (nodeOf L t).kind=true) (ha:Drv L K (nodeOf L t).a) (hk:(lT L (xK (nodeOf L t))).2=true) (hK:K (lT L (xK (nodeOf L t))).1):Drv L K t:=by
 obtain ⟨_,_,i,hf,e⟩:=jHK hk;rw [e] at hK;exact .sign h ha hf hK
theorem jTA {k:Int} (h:uF k=true):k≠4∧k≠5∧k≠6∧jHN k=false:=by
 simp only [uF,Bool.or_eq_true,beq_iff_eq] at h;rcases h with (rfl | rfl) | rfl <;> decide
theorem uG {L:Pool} (h:Wf L) {t:Int} (ht:inP L t=true):jHN (nodeOf L t).kind=true∨(nodeOf L t).kind=4∨(nodeOf L t).kind=5∨(nodeOf L t).kind=6∨uF (nodeOf L t).kind=true:=by
 have h1:=(h.node ht).1;unfold zZ at h1;simp only at h1;split at h1
 ·cases h1
 ·rename_i hh;simp only [Bool.or_eq_true,Bool.not_eq_true',not_or] at hh;have hk:isKind (nodeOf L t).kind=true:=by simpa using hh.1.1.1.1
  simp only [isKind,Bool.and_eq_true,decide_eq_true_eq] at hk;simp only [jHN,uF,Bool.or_eq_true,beq_iff_eq];omega
inductive Sub (L:Pool):Int→Int→Prop
 | refl (t:Int):Sub L t t
 | kid {t u k:Int}:Sub L t u→k∈zG (nodeOf L u)→Sub L t k
theorem Sub.trans {L:Pool} {a b c:Int} (h:Sub L a b) (k:Sub L b c):Sub L a c:=by
 induction k with
 | refl=>exact h
 | kid _ hk ih=>exact .kid ih hk
theorem jDF {n:Node} (h:n.kind=4∨n.kind=5∨uF n.kind=true):n.a∈zG n:=by
 simp only [uF,Bool.or_eq_true,beq_iff_eq] at h;rcases h with h | h | (h | h) | h <;> simp [zG,h,shapeOf]
theorem jRK {n:Node} (h:n.kind=4):n.b∈zG n:=by simp [zG,h,shapeOf]
theorem uB.sub {L:Pool} {r u t:Int} (h:uB L r u t):Sub L u t:=by
 rcases h with ⟨_,hk,rfl⟩ | ⟨_,hk,rfl⟩ | ⟨_,hk,rfl⟩
 ·exact .kid (.refl u) (jDF (.inl hk))
 ·exact .kid (.refl u) (jRK hk)
 ·exact .kid (.refl u) (jDF (.inr (.inr hk)))
theorem Seen.sub {L:Pool} {G:List Int} {t:Int} (h:Seen L G t):∃g∈G,Sub L g t:=by
 induction h with
 | given hg=>exact ⟨_,hg,.refl _⟩
 | «from» _ ha ih=>obtain ⟨g,hg,hs⟩:=ih;exact ⟨g,hg,hs.trans ha.sub⟩
def jDB (S:List Way) (t:Int):Nat:=(zO S).idxOf t+if t∈zO S then 0 else t.toNat
theorem jER {S:List Way} {t:Int} (h:t∈zO S):jDB S t<S.length:=by
 have:=List.idxOf_lt_length_iff.2 h;unfold jDB;rw [if_pos h];rw [qS] at this;omega
theorem jHF {S:List Way} {t:Int} (h:t ∉ zO S):jDB S t=S.length+t.toNat:=by
 unfold jDB;rw [if_neg h,List.idxOf_eq_length h,qS]
theorem jDU {S:List Way} {t a:Int} (h:t ∉ zO S) (h0:1≤a) (ha:a<t):jDB S a<jDB S t:=by
 rw [jHF h];by_cases hm:a∈zO S
 ·have:=jER hm;omega
 ·rw [jHF hm];omega
theorem jTK {S:List Way} {t a:Int} (h:t ∉ zO S) (ht:1≤t) (hm:a∈zO S):jDB S a<jDB S t:=by
 rw [jHF h];have:=jER hm;omega
theorem way_of {L:Pool} {G:List Int} {S:List Way} (h:WaysOk L G S) {t r f:Int} (hl:(t,(r,f))∈S.map fun v=>(v.t,(v.rule,v.frm))):(r=0∧f=0∧t∈G)∨(r≠0∧uB L r f t∧f∈zO S∧jDB S f<jDB S t):=by
 obtain ⟨v,hv,e⟩:=List.mem_map.1 hl;obtain ⟨i,hi,rfl⟩:=List.getElem_of_mem hv;simp only [Prod.mk.injEq] at e;obtain ⟨rfl,rfl,rfl⟩:=e;rcases h.way i hi with hw | ⟨h1,h2,h3⟩
 ·exact .inl hw
 ·right;have hsub:S[i].frm∈zO S:=by
   obtain ⟨y,hy,e⟩:=List.mem_map.1 h3;exact List.mem_map.2 ⟨y,List.mem_of_mem_take hy,e⟩
  refine ⟨h1,h2,hsub,?_⟩;have hti:S[i].t∈zO S:=List.mem_map.2 ⟨_,hv,rfl⟩;have hidx:(zO S).idxOf S[i].t=i:=by
   obtain ⟨j,hj,e1,e2⟩:=jGV hti;rw [e2];have h4:(zO S)[j]'(by rw [qS];exact hj)=(zO S)[i]'(by rw [qS];exact hi):=by simp [zO,e1]
   exact (List.getElem_inj h.nodup).1 h4
  have hf:(zO S).idxOf S[i].frm<i:=by
   have e:zO S=zO (S.take i)++zO (S.drop i):=by unfold zO;rw [← List.map_append,List.take_append_drop]
   rw [e,List.idxOf_append,if_pos h3];have:=List.idxOf_lt_length_iff.2 h3;rw [qS,List.length_take] at this;omega
  unfold jDB;rw [if_pos hsub,if_pos hti,hidx];omega
theorem jMK {L:Pool} {r u t:Int} (hr:r=1∨r=2∨r=3):jML L r u t=true↔uB L r u t:=by
 unfold jML uB;rcases hr with rfl | rfl | rfl <;> simp
theorem uB.rule {L:Pool} {r u t:Int} (h:uB L r u t):r=1∨r=2∨r=3:=by
 rcases h with ⟨h,_⟩ | ⟨h,_⟩ | ⟨h,_⟩
 ·exact .inl h
 ·exact .inr (.inl h)
 ·exact .inr (.inr h)
def jSR (l:List Step):List (Int×Int):=l.zipIdx.map fun p=>(p.1.t,(p.2:Int))
theorem jKQ (l:List Step):(jSR l).map Prod.fst=l.map Step.t:=by
 unfold jSR;rw [List.map_map];show l.zipIdx.map (fun p=>p.1.t)=_;rw [show (fun p:Step×Nat=>p.1.t)=Step.t∘Prod.fst from rfl,← List.map_map,List.zipIdx_map_fst]
theorem jKO (l:List Step) (s:Step):jSR (l++[s])=jSR l++[(s.t,(l.length:Int))]:=by simp [jSR,List.zipIdx_append]
theorem jSP {l:List Step} {t v:Int} (h:SE.look (jSR l) t=some v):∃i,∃hi:i<l.length,v=i∧l[i].t=t:=by
 have:=uW h;obtain ⟨q,hq,e⟩:=List.mem_map.1 this;obtain ⟨s,i⟩:=q;rw [List.mem_zipIdx_iff_getElem?] at hq;obtain ⟨hi,e'⟩:=List.getElem?_eq_some_iff.1 hq;simp only [Prod.mk.injEq] at e;exact ⟨i,hi,e.2.symm,by rw [e'];exact e.1⟩
theorem jKP {l:List Step} {t:Int}:SE.look (jSR l) t=none↔t ∉ l.map Step.t:=by rw [yX,jKQ]
structure PrfOk (L:Pool) (G:List Int) (K:Int→Prop) (l:List Step) (B:List Int):Prop where
 fol:∀i (hi:i<l.length),fol L G (l.take i) l[i]=true
 nd:(l.map Step.t).Nodup
 drv:∀s∈l,Drv L K s.t
 bar:∀t∈B,¬ Drv L K t
theorem PrfOk.nil (L:Pool) (G:List Int) (K:Int→Prop):PrfOk L G K [] []:=⟨fun i hi=>by simp at hi,by simp,by simp,by simp⟩
theorem PrfOk.snoc {L:Pool} {G:List Int} {K:Int→Prop} {l:List Step} {B:List Int} (h:PrfOk L G K l B) {s:Step} (hf:Sp.fol L G l s=true) (hn:s.t ∉ l.map Step.t) (hd:Drv L K s.t):PrfOk L G K (l++[s]) B:=by
 refine ⟨fun i hi=>?_,?_,fun x hx=>?_,h.bar⟩
 ·rw [List.length_append] at hi;simp only [List.length_cons,List.length_nil] at hi;by_cases hl:i<l.length
  ·rw [List.getElem_append_left hl,List.take_append_of_le_length (by omega)];exact h.fol i hl
  ·have:i=l.length:=by omega
   subst this;rw [List.getElem_append_right (Nat.le_refl _),List.take_left];simpa using hf
 ·rw [List.map_append,List.nodup_append];exact ⟨h.nd,by simp,fun x hx y hy e=>by simp at hy;subst hy;exact hn (e▸hx)⟩
 ·rcases List.mem_append.1 hx with hx | hx
  ·exact h.drv x hx
  ·simp at hx;subst hx;exact hd
theorem PrfOk.bars {L:Pool} {G:List Int} {K:Int→Prop} {l:List Step} {B:List Int} (h:PrfOk L G K l B) {t:Int} (ht:¬ Drv L K t):PrfOk L G K l (B++[t]) :=
 ⟨h.fol,h.nd,h.drv,fun x hx=>(List.mem_append.1 hx).elim (h.bar x) (fun hx=>by simp at hx;subst hx;exact ht)⟩
theorem fol_in {L:Pool} {G:List Int} {pre:List Step} {s:Step} (h:fol L G pre s=true):inP L s.t=true:=by
 unfold fol at h;split at h
 ·cases h
 ·rename_i hh;simpa using hh
theorem PrfOk.few {L:Pool} {G:List Int} {K:Int→Prop} {l:List Step} {B:List Int} (h:PrfOk L G K l B):l.length≤L.length:=by
 have:=jAH h.nd (fun t ht=>by
  obtain ⟨s,hs,rfl⟩:=List.mem_map.1 ht;obtain ⟨i,hi,rfl⟩:=List.getElem_of_mem hs;exact fol_in (h.fol i hi))
 simpa using this
theorem jFV {l:List Step} {i:Nat} (hi:i<l.length):tAt l (i:Int)=l[i].t:=by simp [tAt,hi]
theorem jAL {n i:Nat} (h:i<n):jKR n (i:Int)=true:=by simp [jKR];omega
theorem jPY {l M:List Step} {i:Nat} (hi:i<l.length):tAt (l++M) (i:Int)=l[i].t:=by
 rw [jFV (by rw [List.length_append];omega),List.getElem_append_left hi]
def upd (V:Int→Bool) (t:Int) (b:Bool):Int→Bool:=fun x=>if x=t then b else V x
def qU (L:Pool):Nat→Int→(Int→Bool)×List Int→(Int→Bool)×List Int
 | 0,_,st=>st
 | n + 1, t, st => if inP L t = true ∧ st.1 t = false then
   let s2:=qU L n (nodeOf L t).b (qU L n (nodeOf L t).a (upd st.1 t true,st.2))
   (s2.1,s2.2++[t])
  else st
def subs (L:Pool) (t:Int):List Int:=(qU L (t.toNat+1) t (fun _=>false,[])).2
theorem Sub.head {L:Pool} {t y:Int} (h:Sub L t y):y=t∨∃k∈zG (nodeOf L t),Sub L k y:=by
 induction h with
 | refl=>exact .inl rfl
 | kid _ hk ih =>
  rcases ih with rfl | ⟨k,h1,h2⟩
  ·exact .inr ⟨_,hk,.refl _⟩
  ·exact .inr ⟨k,h1,h2.kid hk⟩
theorem Sub.le {L:Pool} (hW:Wf L) {t y:Int} (ht:inP L t=true) (h:Sub L t y):inP L y=true∧y≤t:=by
 induction h with
 | refl=>exact ⟨ht,Int.le_refl _⟩
 | kid _ hk ih =>
  have:=(hW.node ih.1).2.2.2.2.1 _ hk
  exact ⟨this.1,by omega⟩
theorem jUS {n:Node} {k:Int} (h:k∈zG n):k=n.a∨k=n.b:=by
 unfold zG at h;have:=List.mem_of_mem_take h;simpa using this
theorem jJI {L:Pool} (hW:Wf L) {t k:Int} (ht:inP L t=true) (h:k=(nodeOf L t).a∨k=(nodeOf L t).b) (hk:inP L k=true):k∈zG (nodeOf L t):=by
 have h1:=(hW.node ht).2.1;have h2:=(hW.node ht).2.2.1;have hk0:k≠0:=by have:=(zX.1 hk).1;omega
 unfold zG;rcases yL (nodeOf L t).kind with e | e | e
 ·have a0:=h1 (by omega);have b0:=h2 (by omega);rcases h with h | h
  ·exact absurd (h.trans a0) hk0
  ·exact absurd (h.trans b0) hk0
 ·have b0:=h2 (by omega);rcases h with h | h
  ·rw [e,h];simp
  ·exact absurd (h.trans b0) hk0
 ·rw [e];rcases h with h | h <;> simp [h]
structure OvOk (L:Pool) (st:(Int→Bool)×List Int):Prop where
 marked:∀x∈st.2,st.1 x=true
 closed:∀x∈st.2,∀y,Sub L x y→y∈st.2
 nd:st.2.Nodup
 inp:∀x∈st.2,inP L x=true
structure OvRes (L:Pool) (t:Int) (st st':(Int→Bool)×List Int):Prop extends OvOk L st' where
 app:∃M,st'.2=st.2++M∧∀x∈M,Sub L t x∧inP L t=true
 keep:∀x,st.1 x=true→st'.1 x=true
 back:∀x,st'.1 x=true→st.1 x=true∨x∈st'.2
 all:inP L t=true→∀y,Sub L t y→y∈st'.2
theorem lI {L:Pool} (hW:Wf L):∀(n:Nat) (t:Int) (st:(Int→Bool)×List Int),t.toNat<n→OvOk L st→(∀x,st.1 x=true→x≤t→x∈st.2)→OvRes L t st (qU L n t st):=by
 intro n;induction n with
 | zero=>intro t st h;omega
 | succ n ih =>
  intro t st hn hst hm
  rw [qU]
  by_cases hc:inP L t=true∧st.1 t=false
  ·rw [if_pos hc]
   obtain ⟨hin,hv⟩:=hc
   have ht1:=(zX.1 hin).1
   have hkid:=(hW.node hin).2.2.2.2.1
   have low:∀k,k=(nodeOf L t).a∨k=(nodeOf L t).b→k<t:=by
    intro k hk;cases hp:inP L k with
    | true=>exact (hkid k (jJI hW hin hk hp)).2
    | false =>
     have h1:=(hW.node hin).2.1
     have h2:=(hW.node hin).2.2.1
     rcases yL (nodeOf L t).kind with e | e | e
     ·have:=h1 (by omega);have:=h2 (by omega);rcases hk with hk | hk <;> omega
     ·have b0:=h2 (by omega)
      rcases hk with hk | hk
      ·have:=(hkid k (by unfold zG;rw [e,hk];simp)).2;exact this
      ·omega
     ·exact (hkid k (by unfold zG;rw [e];rcases hk with hk | hk <;> simp [hk])).2
   have o1:OvOk L (upd st.1 t true,st.2):=⟨fun x hx=>by simp only [upd];split <;> simp [hst.marked x hx],hst.closed,hst.nd,hst.inp⟩
   have r1:=ih (nodeOf L t).a (upd st.1 t true,st.2) (by have:=low _ (.inl rfl);omega) o1 (fun x hx hle=>by
    have:=low _ (.inl rfl);simp only [upd] at hx;rw [if_neg (by omega)] at hx;exact hm x hx (by omega))
   generalize qU L n (nodeOf L t).a (upd st.1 t true,st.2)=s1 at *
   have r2:=ih (nodeOf L t).b s1 (by have:=low _ (.inr rfl);omega) r1.toOvOk (fun x hx hle=>by
    have:=low _ (.inr rfl);rcases r1.back x hx with h | h
    ·simp only [upd] at h;rw [if_neg (by omega)] at h;have:=hm x h (by omega);obtain ⟨M,e,_⟩:=r1.app;simp only at e;rw [e];exact List.mem_append_left _ this
    ·exact h)
   generalize qU L n (nodeOf L t).b s1=s2 at *
   obtain ⟨M1,e1,m1⟩:=r1.app
   obtain ⟨M2,e2,m2⟩:=r2.app
   simp only at e1
   have hvt:s2.1 t=true:=r2.keep t (r1.keep t (by simp [upd]))
   have hto:t ∉ s2.2:=by
    rw [e2,e1];intro h;rcases List.mem_append.1 h with h | h
    ·rcases List.mem_append.1 h with h | h
     ·have:=hst.marked t h;rw [hv] at this;cases this
     ·obtain ⟨h1,h2⟩:=m1 t h;have:=(h1.le hW h2).2;have:=low _ (.inl rfl);omega
    ·obtain ⟨h1,h2⟩:=m2 t h;have:=(h1.le hW h2).2;have:=low _ (.inr rfl);omega
   have hall:∀y,Sub L t y→y∈s2.2++[t]:=by
    intro y hy;rcases hy.head with rfl | ⟨k,hk,hs⟩
    ·simp
    ·refine List.mem_append_left _ ?_;have hki:=(hkid k hk).1;rcases jUS hk with rfl | rfl
     ·rw [e2];exact List.mem_append_left _ (r1.all hki y hs)
     ·exact r2.all hki y hs
   refine ⟨⟨fun x hx=>?_,fun x hx y hy=>?_,?_,fun x hx=>?_⟩,⟨M1++M2++[t],by simp [e2,e1],fun x hx=>?_⟩,fun x hx=>?_,fun x hx=>?_,fun _=>hall⟩
   ·simp only [List.mem_append,List.mem_singleton] at hx
    rcases hx with hx | rfl
    ·exact r2.marked x hx
    ·exact hvt
   ·simp only [List.mem_append,List.mem_singleton] at hx
    rcases hx with hx | rfl
    ·exact List.mem_append_left _ (r2.closed x hx y hy)
    ·exact hall y hy
   ·rw [List.nodup_append]
    exact ⟨r2.nd,by simp,fun x hx y hy e=>by simp at hy;subst hy;exact hto (e▸hx)⟩
   ·simp only [List.mem_append,List.mem_singleton] at hx
    rcases hx with hx | rfl
    ·exact r2.inp x hx
    ·exact hin
   ·refine ⟨?_,hin⟩
    simp only [List.mem_append,List.mem_singleton] at hx
    rcases hx with (hx | hx) | rfl
    ·obtain ⟨h1,h2⟩:=m1 x hx
     exact (Sub.kid (.refl t) (jJI hW hin (.inl rfl) h2)).trans h1
    ·obtain ⟨h1,h2⟩:=m2 x hx
     exact (Sub.kid (.refl t) (jJI hW hin (.inr rfl) h2)).trans h1
    ·exact .refl _
   ·exact r2.keep x (r1.keep x (by simp only [upd];split <;> simp [hx]))
   ·rcases r2.back x hx with h | h
    ·rcases r1.back x h with h' | h'
     ·simp only [upd] at h'
      split at h'
      ·rename_i e;subst e;right;simp
      ·exact .inl h'
     ·right;show x∈s2.2++[t];rw [e2];exact List.mem_append_left _ (List.mem_append_left _ h')
    ·exact .inr (List.mem_append_left _ h)
  ·rw [if_neg hc]
   refine ⟨hst,⟨[],by simp,by simp⟩,fun x h=>h,fun x h=>.inl h,fun hin y hy=>?_⟩
   have hv:st.1 t=true:=by
    cases h:st.1 t with
    | true=>rfl
    | false=>exact absurd ⟨hin,h⟩ hc
   exact hst.closed t (hm t hv (Int.le_refl _)) y hy
theorem jGX {L:Pool} (hW:Wf L) {t x:Int}:x∈subs L t↔inP L t=true∧Sub L t x:=by
 have r:=lI hW (t.toNat+1) t (fun _=>false,[]) (by omega) ⟨by simp,by simp,by simp,by simp⟩ (by simp);constructor
 ·intro h;obtain ⟨M,e,hm⟩:=r.app;unfold subs at h;rw [e] at h;simp only [List.nil_append] at h;exact ⟨(hm x h).2,(hm x h).1⟩
 ·intro h;exact r.all h.1 x h.2
theorem jBO {L:Pool} (hW:Wf L) (t:Int):(subs L t).length≤L.length:=by
 have r:=lI hW (t.toNat+1) t (fun _=>false,[]) (by omega) ⟨by simp,by simp,by simp,by simp⟩ (by simp);exact jAH r.nd r.inp
end Go.Sp
end
section
namespace Go.Sp
def Ord (L:Pool) (l:List Int):Prop:=∀pre z post,l=pre++z :: post→∀k∈zG (nodeOf L z),k∈pre
theorem Ord.snoc {L:Pool} {l:List Int} {t:Int} (h:Ord L l) (ht:∀k∈zG (nodeOf L t),k∈l):Ord L (l++[t]):=by
 intro pre z post e k hk;rcases List.eq_nil_or_concat post with rfl | ⟨post',y,rfl⟩
 ·have:=List.append_inj' e rfl;obtain ⟨rfl,e2⟩:=this;simp only [List.cons.injEq,and_true] at e2;subst e2;exact ht k hk
 ·have e':l++[t]=(pre++z :: post')++[y]:=by rw [e];simp
  have:=List.append_inj' e' rfl;exact h pre z post' this.1 k hk
theorem jTN {L:Pool} (hW:Wf L):∀(n:Nat) (t:Int) (st:(Int→Bool)×List Int),t.toNat<n→OvOk L st→(∀x,st.1 x=true→x≤t→x∈st.2)→Ord L st.2→Ord L (qU L n t st).2:=by
 intro n;induction n with
 | zero=>intro t st h;omega
 | succ n ih =>
  intro t st hn hst hm ho
  rw [qU]
  by_cases hc:inP L t=true∧st.1 t=false
  ·rw [if_pos hc]
   obtain ⟨hin,hv⟩:=hc
   have ht1:=(zX.1 hin).1
   have hkid:=(hW.node hin).2.2.2.2.1
   have low:∀k,k=(nodeOf L t).a∨k=(nodeOf L t).b→k<t:=by
    intro k hk;cases hp:inP L k with
    | true=>exact (hkid k (jJI hW hin hk hp)).2
    | false =>
     have h1:=(hW.node hin).2.1
     have h2:=(hW.node hin).2.2.1
     rcases yL (nodeOf L t).kind with e | e | e
     ·have:=h1 (by omega);have:=h2 (by omega);rcases hk with hk | hk <;> omega
     ·have b0:=h2 (by omega)
      rcases hk with hk | hk
      ·have:=(hkid k (by unfold zG;rw [e,hk];simp)).2;exact this
      ·omega
     ·exact (hkid k (by unfold zG;rw [e];rcases hk with hk | hk <;> simp [hk])).2
   have o1:OvOk L (upd st.1 t true,st.2):=⟨fun x hx=>by simp only [upd];split <;> simp [hst.marked x hx],hst.closed,hst.nd,hst.inp⟩
   have m1:∀x,(upd st.1 t true,st.2).1 x=true→x≤(nodeOf L t).a→x∈(upd st.1 t true,st.2).2:=fun x hx hle=>by
    have:=low _ (.inl rfl);simp only [upd] at hx;rw [if_neg (by omega)] at hx;exact hm x hx (by omega)
   have n1:(nodeOf L t).a.toNat<n:=by have:=low _ (.inl rfl);omega
   have n2:(nodeOf L t).b.toNat<n:=by have:=low _ (.inr rfl);omega
   have r1:=lI hW n (nodeOf L t).a (upd st.1 t true,st.2) n1 o1 m1
   have d1:=ih (nodeOf L t).a (upd st.1 t true,st.2) n1 o1 m1 ho
   generalize qU L n (nodeOf L t).a (upd st.1 t true,st.2)=s1 at *
   have m2:∀x,s1.1 x=true→x≤(nodeOf L t).b→x∈s1.2:=fun x hx hle=>by
    have:=low _ (.inr rfl);rcases r1.back x hx with h | h
    ·simp only [upd] at h;rw [if_neg (by omega)] at h;have:=hm x h (by omega);obtain ⟨M,e,_⟩:=r1.app;simp only at e;rw [e];exact List.mem_append_left _ this
    ·exact h
   have r2:=lI hW n (nodeOf L t).b s1 n2 r1.toOvOk m2
   have d2:=ih (nodeOf L t).b s1 n2 r1.toOvOk m2 d1
   generalize qU L n (nodeOf L t).b s1=s2 at *
   obtain ⟨M2,e2,_⟩:=r2.app
   refine d2.snoc fun k hk=>?_
   have hki:=(hkid k hk).1
   rcases jUS hk with rfl | rfl
   ·rw [e2];exact List.mem_append_left _ (r1.all hki _ (.refl _))
   ·exact r2.all hki _ (.refl _)
  ·rw [if_neg hc];exact ho
theorem jMQ {L:Pool} (hW:Wf L) (t:Int):Ord L (subs L t) :=
 jTN hW (t.toNat+1) t (fun _=>false,[]) (by omega) ⟨by simp,by simp,by simp,by simp⟩ (by simp) (fun pre z post e=>by simp at e)
theorem jCL {L:Pool} (hW:Wf L) (t:Int):(subs L t).Nodup :=
 (lI hW (t.toNat+1) t (fun _=>false,[]) (by omega) ⟨by simp,by simp,by simp,by simp⟩ (by simp)).nd
end Go.Sp
end
section
namespace Go.Proofs
inductive Fld | from_ | to_ | num | text | fst | snd
deriving DecidableEq
def uS (k:Int):List Fld :=
 if k=1 then [.from_] else if k=2 then [.num] else if k=3 then [.text] else if k=4 then [.fst,.snd] else if k=5 then [.fst] else if k=6 then [.from_] else if k=7 then [.from_,.fst] else if k=8 then [.from_,.to_,.fst] else if k=9 then [.from_,.to_,.fst] else []
def Fld.bytes (n:Sp.Node) (na nb:Nat):Fld→List UInt8
 | .from_=>vU n.frm.toNat | .to_=>vU n.to.toNat | .num=>vU n.num.toNat | .text=>qN n.text | .fst=>vU na | .snd=>vU nb
def posOf (seen:List Int) (t:Int):Nat:=seen.idxOf t
def yO (L:Sp.Pool) (seen:List Int) (t:Int):List UInt8 :=
 UInt8.ofNat (Sp.nodeOf L t).kind.toNat :: (uS (Sp.nodeOf L t).kind).flatMap (Fld.bytes (Sp.nodeOf L t) (posOf seen (Sp.nodeOf L t).a) (posOf seen (Sp.nodeOf L t).b))
def vC (L:Sp.Pool):List Int→List Int→List UInt8
 | _,[]=>[]
 | seen,t :: l=>yO L seen t++vC L (seen++[t]) l
theorem jBN (L:Sp.Pool) (l:List Int) (t:Int):∀seen,vC L seen (l++[t])=vC L seen l++yO L (seen++l) t:=by
 induction l with
 | nil=>intro seen;simp [vC]
 | cons x l ih=>intro seen;simp only [List.cons_append,vC];rw [ih];simp
def yV (L:Sp.Pool) (t:Int):List UInt8:=vC L [] (Sp.subs L t)
theorem jES {l l':List Int} {u:Int} (h:u∈l):posOf (l++l') u=posOf l u:=by unfold posOf;rw [List.idxOf_append,if_pos h]
theorem jBW {l:List Int} {z:Int} (h:z ∉ l):posOf (l++[z]) z=l.length:=by unfold posOf;rw [List.idxOf_append,if_neg h];simp
theorem jDV {l:List Int} {t:Int} (ht:t∈l):posOf l t<l.length:=List.idxOf_lt_length_of_mem ht
def jKW (L:Sp.Pool) (t:Int):List UInt8×Int:=if Sp.inP L t then (if (yV L t).length>4096 then ([],1) else (yV L t,0)) else ([],51)
end Go.Proofs
end
section
open Go Go.SE
namespace Go.Proofs
open Tryz
attribute [local irreducible] Calls CallsD
def Fld.put:Fld→FuncId
 | .from_=>216 | .to_=>220 | .num=>222 | .text=>224 | .fst=>228 | .snd=>230
def Fld.get:Fld→FuncId
 | .from_=>218 | .to_=>221 | .num=>223 | .text=>226 | .fst=>229 | .snd=>231
def Fld.row (f:Fld):List Value:=[.func (.func f.put) #[] #[],.func (.func f.get) #[] #[]]
structure PartsAt (w0 w:World) (m:Nat) (Bs:List (Addr×Fld)) (M:List (Int×Sl)):Prop where
 box:∀b∈Bs,Box w b.1 b.2.row 263∧b.1.block≠m
 map:IMap Sl.v w m M
 lst:∀p∈M,Lst (fun b=>w0.heap.size≤b∧b≠m) w 2 p.2 ((uS p.1).map Fld.row)
 pure:Pure w0 w
 own:w0.heap.size≤m
theorem PartsAt.step {w0 w w1:World} {m:Nat} {Bs:List (Addr×Fld)} {M:List (Int×Sl)} (h:PartsAt w0 w m Bs M) {cs:Array Value} {p:Addr} (n1:New w (.cells cs 263) p w1) (k:Int) (n:Nat) (hn:(uS k).length=n) (hcs:cs.toList=((uS k).map Fld.row).flatten) (hk:SE.look M k=none) :
  ∃w2,(Instr.mapUpdate 230 (.map (some m)) (.int .i64 k) (Sl.mk (some p) n n).v).run prog w1=.ok () w2∧PartsAt w0 w2 m Bs (M++[(k,Sl.mk (some p) n n)]):=by
 have E1:Pure w w1:=Ext.new n1
 obtain ⟨w2,hr,hM,hE⟩:=(h.map.pure E1).put (P:=prog) (T:=230) underlying230 underlying3 hk (Sl.mk (some p) n n)
 have B1:=Box.of_newA n1
 have hb:=n1.at_size
 have hm:=h.map.lt
 refine ⟨w2,hr,⟨fun b hb=>⟨((h.box b hb).1.pure E1).ext hE (h.box b hb).2,(h.box b hb).2⟩,hM,?_,(h.pure.trans E1).trans' hE (fun i hi e=>by have:=h.own;omega),h.own⟩⟩
 intro q hq
 rcases List.mem_append.1 hq with hq | hq
 ·exact ((h.lst q hq).pure E1).ext hE (fun b hb=>hb.2)
 ·simp only [List.mem_singleton] at hq
  subst hq
  refine ⟨by simp [hn],fun i hi=>?_⟩
  have hi':i<(uS k).length:=by simpa using hi
  refine ⟨p.add (i*2),⟨by omega,by simp;omega,p,rfl,by simp⟩,?_,?_⟩
  ·rw [zV];exact ⟨by have:=h.pure.size;omega,by omega⟩
  ·have hrow:Row w2 p cs.toList:=hE.row (B1.row) (by omega)
   intro j hj
   rw [yZ]
   have hlen:∀r∈(uS k).map Fld.row,r.length=2:=by intro r hr;obtain ⟨f,_,rfl⟩:=List.mem_map.1 hr;rfl
   have hj2:j<2:=by rw [hlen _ (List.getElem_mem hi)] at hj;exact hj
   have hg:=jAZ hlen hi hj2
   have hlt:i*2+j<cs.toList.length:=by rw [hcs,vN hlen,List.length_map];omega
   rw [hrow _ hlt,hcs,hg]
structure BxsAt (w0 w:World) (Bs:List (Addr×Fld)):Prop where
 box:∀b∈Bs,Box w b.1 b.2.row 263
 pure:Pure w0 w
theorem BxsAt.step {w0 w w1:World} {Bs:List (Addr×Fld)} (h:BxsAt w0 w Bs) {p:Addr} (n1:New w (.cells #[.nilFunc,.nilFunc] 263) p w1) (f:Fld) {A:WP} (k:∀w',BxsAt w0 w' (Bs++[(p,f)])→A w'):(∀j,j<2→CanW w1 (p.add j))∧∀w',w'=storeRow w1 p f.row→A w':=by
 have E1:Pure w w1:=Ext.new n1;refine bx 2 (Box.of_newA n1) rfl rfl (fun w2 b E=>k w2 ⟨fun c hc=>?_,h.pure.own (p:=p) (by rw [n1.at_size];exact h.pure.size) ((Ext.pure E1).trans E)⟩);rcases List.mem_append.1 hc with hc | hc
 ·have hB:=h.box c hc;exact (hB.pure E1).ext E (fun e=>by have:=World.block_lt_of_cell? w c.1 hB.cell0;have:=n1.at_size;omega)
 ·simp only [List.mem_singleton] at hc;subst hc;exact b
theorem PartsAt.get {w0 w:World} {m:Nat} {Bs:List (Addr×Fld)} {M:List (Int×Sl)} (h:PartsAt w0 w m Bs M) {p:Addr} {f:Fld} (hb:(p,f)∈Bs):Row w p [.func (.func f.put) #[] #[],.func (.func f.get) #[] #[]]:=(h.box _ hb).1.row
theorem jWH (w0:World):Calls prog 159 #[] w0 (fun e w'=>∃x:Option Nat,e=.returned (.map x)∧∃m M,x=some m∧(∃Bs,PartsAt w0 w' m Bs M)∧M.map Prod.fst=[1,2,3,4,5,6,7,8,9]):=by
 refine w_A3 w0 (fun x w'=>∃m M,x=some m∧(∃Bs,PartsAt w0 w' m Bs M)∧M.map Prod.fst=[1,2,3,4,5,6,7,8,9]) ?_;unfold m_A3;have h0:BxsAt w0 w0 []:=⟨fun b hb=>(by cases hb),Ext.refl _⟩;intro p1 v1 n1;refine h0.step n1 .from_ (fun u1 h1=>?_);intro p2 v2 n2;refine h1.step n2 .to_ (fun u2 h2=>?_);intro p3 v3 n3;refine h2.step n3 .num (fun u3 h3=>?_);intro p4 v4 n4;refine h3.step n4 .text (fun u4 h4=>?_);intro p5 v5 n5;refine h4.step n5 .fst (fun u5 h5=>?_);intro p6 v6 n6;refine h5.step n6 .snd (fun u6 h6=>?_);intro p7 w1 n7;have g0:PartsAt w0 w1 p7.block _ []:=⟨fun b hb=>⟨(h6.box b hb).pure (Ext.new n7),fun e=>by have:=World.block_lt_of_cell? u6 b.1 (h6.box b hb).cell0;have:=n7.at_size;omega⟩,IMap.of_new n7,fun p hp=>(by cases hp),h6.pure.trans (Ext.new n7),by rw [n7.at_size];exact h6.pure.size⟩;refine ⟨_,_,g0.get (f:=.from_) (by simp),?_⟩;intro q1 x1 y1;obtain ⟨z1,r1,g1⟩:=g0.step y1 1 1 rfl rfl (by simp [SE.look]);refine ⟨z1,r1,?_⟩;refine ⟨_,_,g1.get (f:=.num) (by simp),?_⟩;intro q2 x2 y2;obtain ⟨z2,r2,g2⟩:=g1.step y2 2 1 rfl rfl (by simp [SE.look]);refine ⟨z2,r2,?_⟩;refine ⟨_,_,g2.get (f:=.text) (by simp),?_⟩;intro q3 x3 y3;obtain ⟨z3,r3,g3⟩:=g2.step y3 3 1 rfl rfl (by simp [SE.look]);refine ⟨z3,r3,?_⟩;refine ⟨_,_,g3.get (f:=.fst) (by simp),?_⟩;refine ⟨_,_,g3.get (f:=.snd) (by simp),?_⟩;intro q4 x4 y4;obtain ⟨z4,r4,g4⟩:=g3.step y4 4 2 rfl rfl (by simp [SE.look]);refine ⟨z4,r4,?_⟩;refine ⟨_,_,g4.get (f:=.fst) (by simp),?_⟩;intro q5 x5 y5;obtain ⟨z5,r5,g5⟩:=g4.step y5 5 1 rfl rfl (by simp [SE.look]);refine ⟨z5,r5,?_⟩;refine ⟨_,_,g5.get (f:=.from_) (by simp),?_⟩;intro q6 x6 y6;obtain ⟨z6,r6,g6⟩:=g5.step y6 6 1 rfl rfl (by simp [SE.look]);refine ⟨z6,r6,?_⟩;refine ⟨_,_,g6.get (f:=.from_) (by simp),?_⟩;refine ⟨_,_,g6.get (f:=.fst) (by simp),?_⟩;intro q7 x7 y7;obtain ⟨z7,r7,g7⟩:=g6.step y7 7 2 rfl rfl (by simp [SE.look]);refine ⟨z7,r7,?_⟩;refine ⟨_,_,g7.get (f:=.from_) (by simp),?_⟩;refine ⟨_,_,g7.get (f:=.to_) (by simp),?_⟩;refine ⟨_,_,g7.get (f:=.fst) (by simp),?_⟩;intro q8 x8 y8;obtain ⟨z8,r8,g8⟩:=g7.step y8 8 3 rfl rfl (by simp [SE.look]);refine ⟨z8,r8,?_⟩;refine ⟨_,_,g8.get (f:=.from_) (by simp),?_⟩;refine ⟨_,_,g8.get (f:=.to_) (by simp),?_⟩;refine ⟨_,_,g8.get (f:=.fst) (by simp),?_⟩;intro q9 x9 y9;obtain ⟨z9,r9,g9⟩:=g8.step y9 9 3 rfl rfl (by simp [SE.look]);refine ⟨z9,r9,?_⟩;exact ⟨p7.block,_,rfl,⟨_,g9⟩,rfl⟩
end Go.Proofs
end
section
namespace Go.Proofs
def Fld.rd (bs:List UInt8) (r:Rd):Fld→Rd
 | .text=>(qL bs 64 r).2
 | _=>(qW bs r).2
structure Raw where
 num:Nat
 text:List UInt8
 frm:Nat
 to:Nat
 a:Nat
 b:Nat
 kids:Nat
def tK:Raw:=⟨0,[],0,0,0,0,0⟩
def Fld.raw (bs:List UInt8) (r:Rd) (x:Raw):Fld→Raw
 | .from_=>{ x with frm:=(qW bs r).1 }
 | .to_=>{ x with to:=(qW bs r).1 }
 | .num=>{ x with num:=(qW bs r).1 }
 | .text=>{ x with text:=(qL bs 64 r).1 }
 | .fst=>{ x with a:=(qW bs r).1,kids:=1 }
 | .snd=>{ x with b:=(qW bs r).1,kids:=2 }
def vZ (bs:List UInt8):List Fld→Raw×Rd→Raw×Rd
 | [],s=>s
 | f :: l,(x,r)=>vZ bs l (f.raw bs r x,f.rd bs r)
def nodeErr (k n:Nat) (x:Raw) (e:Nat):Nat :=
 if e≠0 then e
 else if 16≤x.frm∨16≤x.to∨((k=8∨k=9)∧x.frm=x.to) then 50
 else if (0<x.kids∧n≤x.a)∨(1<x.kids∧n≤x.b) then 71
 else 0
def Raw.node (k:Nat) (x:Raw):Sp.Node:=⟨k,x.frm,x.to,x.num,⟨x.text.toArray⟩,if 0<x.kids then (x.a:Int)+1 else 0,if 1<x.kids then (x.b:Int)+1 else 0⟩
def jAW (k:Nat):Bool:=decide (1≤k) && decide (k≤9)
def jCK (L:Sp.Pool) (k:Nat) (s:Raw×Rd):Sp.Pool×Int×Rd :=
 if nodeErr k L.length s.1 s.2.err≠0 then (L,((nodeErr k L.length s.1 s.2.err:Nat):Int),s.2)
 else if (Sp.find L (s.1.node k)).isSome=true then (L,72,s.2)
 else ((Sp.make L (s.1.node k)).2.2,(Sp.make L (s.1.node k)).2.1,s.2)
def vR (bs:List UInt8) (L:Sp.Pool) (r:Rd):Sp.Pool×Int×Rd :=
 if jAW (uD bs r).1=true then jCK L (uD bs r).1 (vZ bs (uS (uD bs r).1) (tK,(uD bs r).2))
 else (L,70,(uD bs r).2)
def inRow:Nat→List Int→Nat
 | i,[]=>i
 | i,s :: l=>if s=(i:Int)+1 then inRow (i+1) l else i
def jBU (L:Sp.Pool) (ps:List Nat):Option Sp.Pool×Int×Nat :=
 let i:=inRow 0 (Sp.subs L L.length)
 if h:i<ps.length then (none,73,ps[i]) else (some L,0,0)
def jIX (bs:List UInt8):Nat→Sp.Pool→Rd→List Nat→Option Sp.Pool×Int×Nat
 | 0,L,_,ps=>jBU L ps
 | n+1,L,r,ps =>
  if r.at_<bs.length then
   if (vR bs L r).2.1≠0 then (none,(vR bs L r).2.1,r.at_)
   else jIX bs n (vR bs L r).1 (vR bs L r).2.2 (ps++[r.at_])
  else jBU L ps
def vQ (bs:List UInt8):Option Sp.Pool×Int×Nat :=
 if 4096<bs.length then (none,1,0) else if bs.length=0 then (none,3,0) else jIX bs bs.length [] ⟨0,0,0⟩ []
def vM (Lq:Sp.Pool):List Int→Sp.Pool→(Int→Int)→Sp.Pool×Int×(Int→Int)
 | [],L,own=>(L,0,own)
 | s :: l,L,own =>
  let m:=Sp.make L { Sp.nodeOf Lq s with a:=own (Sp.nodeOf Lq s).a,b:=own (Sp.nodeOf Lq s).b }
  if m.2.1≠0 then (L,m.2.1,own) else vM Lq l m.2.2 (fun x=>if x=s then m.1 else own x)
def qX (L Lq:Sp.Pool) (t:Int):Int×Int×Sp.Pool :=
 if Sp.inP Lq t=true then
  let c:=vM Lq (Sp.subs Lq t) L (fun _=>0)
  if c.2.1≠0 then (0,c.2.1,L) else (c.2.2 t,0,c.1)
 else (0,51,L)
def lK (L:Sp.Pool) (bs:List UInt8):Int×Int×Nat×Sp.Pool :=
 match (vQ bs).1 with
 | none=>(0,(vQ bs).2.1,(vQ bs).2.2,L)
 | some q=>((qX L q q.length).1,(qX L q q.length).2.1,0,(qX L q q.length).2.2)
theorem jQR (bs:List UInt8) (r:Rd) (h:r.at_≤bs.length):r.at_≤(qW bs r).2.at_∧(qW bs r).2.at_≤bs.length:=by
 have key:∀(l:List UInt8) (i n:Nat) (m k:Nat),xX i n l=.ok (m,k)→k≤i+l.length∧i<k:=by
  intro l;induction l with
  | nil=>intro i n m k h;simp [xX] at h
  | cons c l ih =>
   intro i n m k h
   rw [xD] at h
   split at h
   ·cases h
   ·split at h
    ·split at h
     ·cases h
     ·cases h;simp
    ·have:=ih _ _ _ _ h
     rw [List.length_cons];omega
 unfold qW;split
 ·split
  ·rename_i n k hk;have:=key _ _ _ _ _ hk;rw [List.length_drop] at this;simp only;omega
  ·exact ⟨Nat.le_refl _,h⟩
 ·exact ⟨Nat.le_refl _,h⟩
theorem jTL (bs:List UInt8) (m:Nat) (r:Rd) (h:r.at_≤bs.length):r.at_≤(qL bs m r).2.at_∧(qL bs m r).2.at_≤bs.length:=by
 have hn:=jQR bs r h;unfold qW at hn;unfold qL;split
 ·rename_i he;rw [if_pos he] at hn;split
  ·rename_i n k hk;rw [hk] at hn;simp only at hn;split
   ·exact ⟨Nat.le_refl _,h⟩
   ·split
    ·exact ⟨Nat.le_refl _,h⟩
    ·simp only;omega
  ·exact ⟨Nat.le_refl _,h⟩
 ·exact ⟨Nat.le_refl _,h⟩
theorem Fld.rd_at (bs:List UInt8) (r:Rd) (f:Fld) (h:r.at_≤bs.length):r.at_≤(f.rd bs r).at_∧(f.rd bs r).at_≤bs.length:=by
 cases f <;> first | exact jTL bs 64 r h | exact jQR bs r h
theorem jIY (bs:List UInt8):∀(l:List Fld) (x:Raw) (r:Rd),r.at_≤bs.length→r.at_≤(vZ bs l (x,r)).2.at_∧(vZ bs l (x,r)).2.at_≤bs.length:=by
 intro l;induction l with
 | nil=>intro x r h;exact ⟨Nat.le_refl _,h⟩
 | cons f l ih =>
  intro x r h
  have h1:=f.rd_at bs r h
  have h2:=ih (f.raw bs r x) (f.rd bs r) h1.2
  rw [vZ];omega
theorem jMX (bs:List UInt8) (r:Rd) (h:r.at_<bs.length) (he:r.err=0):uD bs r=(bs[r.at_].toNat,⟨r.at_+1,0,r.spot⟩):=by
 unfold uD;rw [if_pos he,dif_pos h]
theorem tR (bs:List UInt8) (L:Sp.Pool) (r:Rd) (h:r.at_<bs.length) (he:r.err=0):vR bs L r =
  (if jAW bs[r.at_].toNat=true then jCK L bs[r.at_].toNat (vZ bs (uS bs[r.at_].toNat) (tK,⟨r.at_+1,0,r.spot⟩)) else (L,70,⟨r.at_+1,0,r.spot⟩)):=by
 unfold vR
 rw [jMX bs r h he]
theorem jEP {L:Sp.Pool} {k:Nat} {s:Raw×Rd} (h:(jCK L k s).2.1=0):s.2.err=0∧nodeErr k L.length s.1 s.2.err=0∧Sp.find L (s.1.node k)=none∧(Sp.make L (s.1.node k)).2.1=0∧jCK L k s=((Sp.make L (s.1.node k)).2.2,0,s.2):=by
 unfold jCK at *;split at h
 ·rename_i h1;exact absurd (by simpa using h) h1
 ·rename_i h1;rw [if_neg h1];have h1:nodeErr k L.length s.1 s.2.err=0:=by omega
  have he':s.2.err=0:=by
   by_cases h2:s.2.err=0
   ·exact h2
   ·exfalso;unfold nodeErr at h1;rw [if_pos h2] at h1;exact h2 h1
  split at h
  ·simp at h
  ·rename_i h3;rw [if_neg h3];simp only at h;exact ⟨he',h1,by simpa using h3,h,by rw [h]⟩
theorem jIU (bs:List UInt8) (L:Sp.Pool) (r:Rd) (h:r.at_<bs.length) (he:r.err=0) (h0:(vR bs L r).2.1=0):r.at_<(vR bs L r).2.2.at_∧(vR bs L r).2.2.at_≤bs.length∧(vR bs L r).2.2.err=0:=by
 have hl:=jIY bs (uS bs[r.at_].toNat) tK ⟨r.at_+1,0,r.spot⟩ (by simp only;omega);simp only at hl;rw [tR bs L r h he] at *;split at h0
 ·rename_i hk;rw [if_pos hk];obtain ⟨h1,_,_,_,h5⟩:=jEP h0;rw [h5];exact ⟨by simp only;omega,hl.2,h1⟩
 ·simp at h0
theorem jHE {bs:List UInt8} {L:Sp.Pool} {r:Rd} {ps:List Nat} (h:¬ r.at_<bs.length):∀n,jIX bs n L r ps=jBU L ps:=by
 intro n;cases n with
 | zero=>rfl
 | succ n=>rw [jIX,if_neg h]
end Go.Proofs
end
section
open Go Go.SE
open Go.IntKind renaming i64 → q6
namespace Go.Proofs
open Tryz
set_option maxRecDepth 100000
set_option maxHeartbeats 4000000
attribute [local irreducible] wpL wpX opE wpE Calls
def m_T3  (w:World) (K:(Option Addr)→WP):Prop :=∀(p1:Addr) (w1:World),New w (.map #[] 0) p1 w1→∀(p2:Addr) (w2:World),New w1 (.cells #[Sl.nil.v,(.map (some p1.block))] 162) p2 w2→K (some p2) w2
theorem w_T3  (w:World) (K:(Option Addr)→WP) (h:m_T3  w K) :
  Calls prog 44 #[] w (fun e w'=>∃r1:Option Addr,e=.returned (vp r1)∧K r1 w'):=by
 refine cw (args:=[]) func44 ntmps44 (eg (q0 (vp none) (ln (eg (uE (O:=(.map #[] 0)) (fun p=>.map (some p.block)) (zL rfl) (by kernel_rfl) ?_)))))
 intro p1 w1 hn2
 have h:=h p1 w1 hn2
 refine q (nw1 h xb fun p2 w2 h=>?_)
 refine q (ln (er (rs1 results44 ⟨(some p2),rfl,h⟩)))
def m_U3 (p1:Option Addr) (n1:Int) (w:World) (K:Int→Int→WP):Prop :=Calls prog 109 #[(vp p1),(.agg #[(vi 6),(vi n1),(vi 0),(vu 0),ve,(vi 0),(vi 0)])] w (fun e w1=>∃r1 r2:Int,e=.returned (.tuple #[(vi r1),(vi r2)])∧K r1 r2 w1)
theorem w_U3 (p1:Option Addr) (n1:Int) (w:World) (K:Int→Int→WP) (h:m_U3 p1 n1 w K) :
  Calls prog 50 #[(vp p1),(vi n1)] w (fun e w'=>∃r3 r4:Int,e=.returned (.tuple #[(vi r3),(vi r4)])∧K r3 r4 w'):=by
 refine cw (args:=[(vp p1),(vi n1)]) func50 ntmps50 (eg (q0 (vi 0) (q0 (vi 0) (ln (eg (q0 (vp p1) (q0 (vi n1) (q0 (.agg #[(vi 6),(vi n1),(vi 0),(vu 0),ve,(vi 0),(vi 0)]) ?_))))))))
 refine sc call109 (h.mono fun e w1 ⟨r1,r2,k,h⟩=>⟨_,k,?_⟩)
 refine qd (ln (er (xO (.inl rfl) results50 (v:=(vi r1)) (by kernel_rfl) (v':=(vi r2)) (by kernel_rfl) ?_)))
 exact ⟨r1,r2,rfl,h⟩
def m_E2 (p1:Option Addr) (aT aU:Int) (aV aW:Int) (aX:ByteArray) (aY:Sl) (w:World) (K:Int→Int→WP):Prop :=∀(p2:Addr) (w1:World),New w (.cells #[(vi aT),(vi aU),(vi aV),(vu aW),(vs aX),aY.v] 76) p2 w1→Br (Option.isNone p1) (K 0 0 w1) (∀(p3:Addr) (w2:World),New w1 (.cells #[(vi 0)] 3) p3 w2→CanW w2 p3∧∀w3:World,w3=w2.setCell p3 (vi 0)→∃aA aB:Int,∃aC aD:Int,∃aE:ByteArray,∃bM:Sl,Row w3 p2 [(vi aA),(vi aB),(vi aC),(vu aD),(vs aE),bM.v]∧Calls prog 134 #[(.agg #[(vi aA),(vi aB),(vi aC),(vu aD),(vs aE),bM.v]),(vi 0),(vp (some p3))] w3 (fun e w4=>∃r1:Int,e=.returned (vi r1)∧Br (r1 != 0) (K 0 r1 w4) (∃a1:Addr,p1=some a1∧∃v1:Sl,w4.cell? a1=some v1.v∧∃aO aP:Int,∃aQ aR:Int,∃aS:ByteArray,∃bL:Sl,Row w4 p2 [(vi aO),(vi aP),(vi aQ),(vu aR),(vs aS),bL.v]∧Calls prog 135 #[(vp p1),(.agg #[(vi aO),(vi aP),(vi aQ),(vu aR),(vs aS),bL.v])] w4 (fun e w5=>∃r2 r3:Int,e=.returned (.tuple #[(vi r2),(vi r3)])∧Br (r3 != 0) (Calls prog 136 #[(vp p1),(vi (v1.len:Int))] w5 (fun e w6=>e=.returned (.tuple #[])∧K 0 r3 w6)) (K r2 0 w5)))))
theorem w_E2 (p1:Option Addr) (aT aU:Int) (aV aW:Int) (aX:ByteArray) (aY:Sl) (w:World) (K:Int→Int→WP) (h:m_E2 p1 aT aU aV aW aX aY w K) :
  Calls prog 70 #[(vp p1),(.agg #[(vi aT),(vi aU),(vi aV),(vu aW),(vs aX),aY.v])] w (fun e w'=>∃r4 r5:Int,e=.returned (.tuple #[(vi r4),(vi r5)])∧K r4 r5 w'):=by
 refine cw (args:=[(vp p1),(.agg #[(vi aT),(vi aU),(vi aV),(vu aW),(vs aX),aY.v])]) func70 ntmps70 (eg (sn (O:=(.cells #[(vi aT),(vi aU),(vi aV),(vu aW),(vs aX),aY.v] 76)) xb ?_))
 intro p2 w1 hn3
 have h:=h p2 w1 hn3
 refine qb (ln (zA (eg (q (q2 (vb (Option.isNone p1)) (vY (by kernel_rfl) rfl underlying91) (ln ?_))))))
 refine cbr h ?_ ?_<;>intro h
 refine eg (qb (ln (er (vF (xO (.inl rfl) results70 (v:=(vi 0)) (by kernel_rfl) (v':=(vi 0)) (by kernel_rfl) ?_)))))
 exact ⟨0,0,rfl,h⟩
 refine zC (zK (eg (nw1 h (zQ (zeroValue3 _) rfl) fun p3 w2 h=>?_)))
 refine st1 (sizeOf3 _) h fun w3 h=>?_
 refine ln (zA (eg ?_))
 obtain ⟨aA,aB,aC,aD,aE,bM,hv3,h⟩:=h
 refine qa (isAgg76 _) (sizeOf76 _) hv3 ?_
 refine sc call134 (h.mono fun e w4 ⟨r1,k,h⟩=>⟨_,k,?_⟩)
 refine q (ln (eg (qb (ln ?_))))
 refine cbr h ?_ ?_<;>intro h
 refine eg (qc (ln (er (vF (xO (.inl rfl) results70 (v:=(vi 0)) (by kernel_rfl) (v':=(vi r1)) (by kernel_rfl) ?_)))))
 exact ⟨0,r1,rfl,h⟩
 refine zC (zK (eg (q ?_)))
 refine qm h fun a1 h=>q ?_
 refine ql (isAgg160 _) h fun v1 h=>qb (ln (eg (q ?_)))
 obtain ⟨aO,aP,aQ,aR,aS,bL,hv1,h⟩:=h
 refine qa (isAgg76 _) (sizeOf76 _) hv1 ?_
 refine sc call135 (h.mono fun e w5 ⟨r2,r3,k,h⟩=>⟨_,k,?_⟩)
 refine q (qd (ln (zA (eg (qb ?_)))))
 refine ln ?_
 refine cbr h ?_ ?_<;>intro h
 refine eg (qb ?_)
 refine sc call136 (h.mono fun e w6 ⟨k,h⟩=>⟨_,k,?_⟩)
 refine ln (eg (qc (ln (er (vF (xO (.inl rfl) results70 (v:=(vi 0)) (by kernel_rfl) (v':=(vi r3)) (by kernel_rfl) ?_))))))
 exact ⟨0,r3,rfl,h⟩
 refine zC (zK (eg (qc (ln (er (xO (.inl rfl) results70 (v:=(vi r2)) (by kernel_rfl) (v':=(vi 0)) (by kernel_rfl) ?_))))))
 exact ⟨r2,0,rfl,h⟩
def m_V3 (p1:Option Addr) (w:World) (K:Int→WP):Prop :=Br (Option.isNone p1) (K 0 w) (∃a1:Addr,p1=some a1∧∃v1:Sl,w.cell? a1=some v1.v∧K (v1.len:Int) w)
theorem w_V3 (p1:Option Addr) (w:World) (K:Int→WP) (h:m_V3 p1 w K) :
  Calls prog 103 #[(vp p1)] w (fun e w'=>∃r1:Int,e=.returned (vi r1)∧K r1 w'):=by
 refine cw (args:=[(vp p1)]) func103 ntmps103 (eg (q0 (vi 0) (ln (zA (eg (q0 (vp p1) (q2 (vb (Option.isNone p1)) (vY (by kernel_rfl) rfl underlying91) (zB ?_))))))))
 refine zK ?_
 refine cbr h ?_ ?_<;>intro h
 refine eg (q (ln (er (vF (rs1 results103 ⟨0,rfl,h⟩)))))
 refine zC (zK (eg (q ?_)))
 refine qm h fun a1 h=>q ?_
 refine ql (isAgg160 _) h fun v1 h=>qb (ln (er (rs1 results103 ⟨(v1.len:Int),rfl,h⟩)))
def m_W3 (p1:Option Addr) (t1:Int) (w:World) (K:Int→Int→Int→Int→ByteArray→Int→Int→Bool→WP):Prop :=∀(p2:Addr) (w1:World),New w (.cells #[(vi 0),(vi 0),(vi 0),(vu 0),ve,(vi 0),(vi 0)] 127) p2 w1→Calls prog 138 #[(vp p1),(vi t1)] w1 (fun e w2=>∃r1:Bool,e=.returned (vb r1)∧Br (!r1) ((∀j,j<7→CanW w2 (p2.add j))∧∀w3:World,w3=storeRow w2 p2 [(vi 0),(vi 0),(vi 0),(vu 0),ve,(vi 0),(vi 0)]→∃bU bV:Int,∃bW bX:Int,∃bY:ByteArray,∃bZ cA:Int,Row w3 p2 [(vi bU),(vi bV),(vi bW),(vu bX),(vs bY),(vi bZ),(vi cA)]∧K bU bV bW bX bY bZ cA false w3) (∃a1:Addr,p1=some a1∧∃v1:Sl,w2.cell? a1=some v1.v∧∃a2:Addr,At v1 (q6.wrap (t1 - 1)) 9 a2∧∃aA aB:Int,∃aC aD:Int,∃aE:ByteArray,∃aF aG:Int,Row w2 a2 [(vi aA),(vi aB),(vi aC),(vu aD),(vs aE),(vi aF),(vi aG)]∧(∀j,j<7→CanW w2 (p2.add j))∧∀w4:World,w4=storeRow w2 p2 [(vi aA),(vi aB),(vi aC),(vu aD),(vs aE),(vi aF),(vi aG)]→∃cD cE:Int,∃cF cG:Int,∃cH:ByteArray,∃cI cJ:Int,Row w4 p2 [(vi cD),(vi cE),(vi cF),(vu cG),(vs cH),(vi cI),(vi cJ)]∧K cD cE cF cG cH cI cJ true w4))
theorem w_W3 (p1:Option Addr) (t1:Int) (w:World) (K:Int→Int→Int→Int→ByteArray→Int→Int→Bool→WP) (h:m_W3 p1 t1 w K) :
  Calls prog 104 #[(vp p1),(vi t1)] w (fun e w'=>∃aZ bA:Int,∃bB bC:Int,∃bD:ByteArray,∃bE bF:Int,∃r2:Bool,e=.returned (.tuple #[(.agg #[(vi aZ),(vi bA),(vi bB),(vu bC),(vs bD),(vi bE),(vi bF)]),(vb r2)])∧K aZ bA bB bC bD bE bF r2 w'):=by
 refine cw (args:=[(vp p1),(vi t1)]) func104 ntmps104 (eg (sn (O:=(.cells #[(vi 0),(vi 0),(vi 0),(vu 0),ve,(vi 0),(vi 0)] 127)) (zQ (zeroValue127 _) rfl) ?_))
 intro p2 w1 hn3
 have h:=h p2 w1 hn3
 refine q (ln (zA (eg (qb ?_))))
 refine sc call138 (h.mono fun e w2 ⟨r1,k,h⟩=>⟨_,k,?_⟩)
 refine q (ln ?_)
 refine cbr h ?_ ?_<;>intro h
 refine eg (q ?_)
 refine sro (sizeOf127 _) h fun w3 h=>?_
 refine q (ln (er (vF ?_)))
 obtain ⟨bU,bV,bW,bX,bY,bZ,cA,hv1,h⟩:=h
 refine gg2 results104 (rva (isAgg127 _) (sizeOf127 _) hv1) (rvU (vb false)) ⟨bU,bV,bW,bX,bY,bZ,cA,false,rfl,h⟩
 refine zC (zK (eg (q ?_)))
 refine qm h fun a1 h=>q ?_
 refine ql (isAgg160 _) h fun v1 h=>qb ?_
 refine qi (runUnderlying160 _) (sizeOf234 _) h fun a2 h=>q ?_
 obtain ⟨aA,aB,aC,aD,aE,aF,aG,hv3,h⟩:=h
 refine qa (isAgg127 _) (sizeOf127 _) hv3 ?_
 refine sro (sizeOf127 _) h fun w4 h=>?_
 refine q (ln (er ?_))
 obtain ⟨cD,cE,cF,cG,cH,cI,cJ,hv2,h⟩:=h
 refine gg2 results104 (rva (isAgg127 _) (sizeOf127 _) hv2) (rvU (vb true)) ⟨cD,cE,cF,cG,cH,cI,cJ,true,rfl,h⟩
def m_F2 (p1:Option Addr) (aH aI:Int) (aJ aK:Int) (aL:ByteArray) (aM aN:Int) (w:World) (K:Int→Int→WP):Prop :=∀(p2:Addr) (w1:World),New w (.cells #[(vi aH),(vi aI),(vi aJ),(vu aK),(vs aL),(vi aM),(vi aN)] 127) p2 w1→Br (Option.isNone p1) (K 0 0 w1) (∃aA aB:Int,∃aC aD:Int,∃aE:ByteArray,∃aF aG:Int,Row w1 p2 [(vi aA),(vi aB),(vi aC),(vu aD),(vs aE),(vi aF),(vi aG)]∧Calls prog 167 #[(vp p1),(.agg #[(vi aA),(vi aB),(vi aC),(vu aD),(vs aE),(vi aF),(vi aG)])] w1 (fun e w2=>∃r1 r2 r3:Int,e=.returned (.tuple #[(vi r1),(vi r2),(vi r3)])∧Br (r3 != 0) (K 0 r3 w2) (∀w3,w3=w2.drew→∃a1:Addr,p1=some a1∧∃v1:Option Nat,w3.cell? (a1.add 1)=some (.map v1)∧∃aO aP:Int,∃aQ aR:Int,∃aS:ByteArray,∃bN bO:Int,Row w3 p2 [(vi aO),(vi aP),(vi aQ),(vu aR),(vs aS),(vi bN),(vi bO)]∧∃v2:Int,∃ok1:Bool,(Instr.lookup 159 (.map v1) (.agg #[(vi aO),(vi aP),(vi aQ),(vu aR),(vs aS),(vi bN),(vi bO)]) true).run prog w3=.ok (.tuple #[(vi v2),(vb ok1)]) w3∧Br ok1 (K v2 0 w3) (∃a2:Addr,p1=some a2∧∃v3:Sl,w3.cell? a2=some v3.v∧Br (decide ((v3.len:Int)≥65536)) (K 0 6 w3) (∃C1:WP,C1 w3.drew∧∀w4,w4=w3.drew→∃a3:Addr,p1=some a3∧∃v4:Sl,(∀w',C1 w'→w'.cell? a3=some v4.v)∧∃bG bH:Int,∃bI bJ:Int,∃bK:ByteArray,∃cB cC:Int,(∀w',C1 w'→Row w' p2 [(vi bG),(vi bH),(vi bI),(vu bJ),(vs bK),(vi cB),(vi cC)])∧∀(p3:Addr) (w5:World),New w4 (.cells #[(vi bG),(vi bH),(vi bI),(vu bJ),(vs bK),(vi cB),(vi cC),(vi r1),(vi r2)] 234) p3 w5→C1 w5∧∃s1:Sl,∃w6:World,(Builtin.append_ #[160,160] 160 #[v4.v,(Sl.mk (some p3) 1 1).v]).run prog w5=.ok s1.v w6∧C1 w6∧∃a4:Addr,p1=some a4∧CanW w6 a4∧∀w7:World,w7=w6.setCell a4 s1.v→∃a5:Addr,p1=some a5∧∃v5:Sl,w7.cell? a5=some v5.v∧∃C2:WP,C2 w7.drew∧∀w8,w8=w7.drew→∃a6:Addr,p1=some a6∧∃v6:Option Nat,(∀w',C2 w'→w'.cell? (a6.add 1)=some (.map v6))∧∃bP bQ:Int,∃bR bS:Int,∃bT:ByteArray,∃cK cL:Int,(∀w',C2 w'→Row w' p2 [(vi bP),(vi bQ),(vi bR),(vu bS),(vs bT),(vi cK),(vi cL)])∧∃w9:World,(Instr.mapUpdate 159 (.map v6) (.agg #[(vi bP),(vi bQ),(vi bR),(vu bS),(vs bT),(vi cK),(vi cL)]) (vi (v5.len:Int))).run prog w8=.ok () w9∧K (v5.len:Int) 0 w9)))))
theorem w_F2 (p1:Option Addr) (aH aI:Int) (aJ aK:Int) (aL:ByteArray) (aM aN:Int) (w:World) (K:Int→Int→WP) (h:m_F2 p1 aH aI aJ aK aL aM aN w K) :
  Calls prog 109 #[(vp p1),(.agg #[(vi aH),(vi aI),(vi aJ),(vu aK),(vs aL),(vi aM),(vi aN)])] w (fun e w'=>∃r4 r5:Int,e=.returned (.tuple #[(vi r4),(vi r5)])∧K r4 r5 w'):=by
 refine cw (args:=[(vp p1),(.agg #[(vi aH),(vi aI),(vi aJ),(vu aK),(vs aL),(vi aM),(vi aN)])]) func109 ntmps109 (eg (sn (O:=(.cells #[(vi aH),(vi aI),(vi aJ),(vu aK),(vs aL),(vi aM),(vi aN)] 127)) xb ?_))
 intro p2 w1 hn3
 have h:=h p2 w1 hn3
 refine qb (ln (zA (eg (q (q2 (vb (Option.isNone p1)) (vY (by kernel_rfl) rfl underlying91) (ln ?_))))))
 refine cbr h ?_ ?_<;>intro h
 refine eg (qb (ln (er (vF (xO (.inl rfl) results109 (v:=(vi 0)) (by kernel_rfl) (v':=(vi 0)) (by kernel_rfl) ?_)))))
 exact ⟨0,0,rfl,h⟩
 refine zC (zK (eg (q ?_)))
 obtain ⟨aA,aB,aC,aD,aE,aF,aG,hv12,h⟩:=h
 refine qa (isAgg127 _) (sizeOf127 _) hv12 ?_
 refine sc call167 (h.mono fun e w2 ⟨r1,r2,r3,k,h⟩=>⟨_,k,?_⟩)
 refine qc (qd (ln (zA (eg ?_))))
 refine qb (ln ?_)
 refine cbr h ?_ ?_<;>intro h
 refine eg (qc (ln (er (vF (xO (.inl rfl) results109 (v:=(vi 0)) (by kernel_rfl) (v':=(vi r3)) (by kernel_rfl) ?_)))))
 exact ⟨0,r3,rfl,h⟩
 refine zC (zK (zA (zA (qE (by kernel_rfl) (by kernel_rfl) (by kernel_rfl) (by kernel_rfl) ?_))))
 intro w3 hw3
 have h:=h w3 hw3
 refine qq 0 (vp p1) Kp0 (qg 1 ?_)
 obtain ⟨a1,hp1,h⟩:=h
 refine sxQ Kp1 (zL rfl) rfl (xn hp1) (qq 2 (vp (some (a1.add 1))) Kp2 (qg 3 ?_))
 obtain ⟨v1,hv11,h⟩:=h
 refine sxQ Kp3 (zL rfl) rfl (xl (isAgg159 _) hv11) (qg 4 ?_)
 obtain ⟨aO,aP,aQ,aR,aS,bN,bO,hv10,h⟩:=h
 refine sxQ (v:=(.agg #[(vi aO),(vi aP),(vi aQ),(vu aR),(vs aS),(vi bN),(vi bO)])) Kp4 (zL rfl) rfl (xa p2 [(vi aO),(vi aP),(vi aQ),(vu aR),(vs aS),(vi bN),(vi bO)] (isAgg127 _) (sizeOf127 _) hv10) (qg 5 ?_)
 obtain ⟨v2,ok1,hv9,h⟩:=h
 refine sxQ (v:=(.tuple #[(vi v2),(vb ok1)])) Kp5 (zL rfl) rfl (qQ (by kernel_rfl) (by kernel_rfl) hv9) (qq 6 (.tuple #[(vi v2),(vb ok1)]) Kp6 (qq 7 (vi v2) Kp7 (qq 8 (vb ok1) Kp8 (qq 9 (vi v2) Kp9 (qq 10 (vb ok1) (zT (S8 (zH (zH zS)))) (wn (zK (eg (q (zB ?_))))))))))
 refine zK ?_
 refine cbr h ?_ ?_<;>intro h
 refine eg (qc (ln (er (vF (xO (.inl rfl) results109 (v:=(vi v2)) (by kernel_rfl) (v':=(vi 0)) (by kernel_rfl) ?_)))))
 exact ⟨v2,0,rfl,h⟩
 refine zC (zK (zA (eg (q ?_))))
 refine qm h fun a2 h=>q ?_
 refine ql (isAgg160 _) h fun v3 h=>qb (ln ?_)
 refine cbr h ?_ ?_<;>intro h
 refine eg (qb (ln (er (vF (xO (.inl rfl) results109 (v:=(vi 0)) (by kernel_rfl) (v':=(vi 6)) (by kernel_rfl) ?_)))))
 exact ⟨0,6,rfl,h⟩
 refine zC (zK (zA ?_))
 obtain ⟨C1,hC,h⟩:=h
 refine dr1 C1 [9,10,13] [13] hC h fun w4 h=>?_
 refine qx 0 (vp p1) Kp0 (qx 1 (vp p1) Kp1 (qg 2 ?_))
 obtain ⟨a3,hp3,h⟩:=h
 refine sy Kp2 (fun _ _=>xn hp3) (qx 3 (vp (some a3)) Kp3 (qg 4 ?_))
 obtain ⟨v4,hv7,h⟩:=h
 refine sy Kp4 (fun _ k=>xl (isAgg160 _) (hv7 _ k)) (qg 5 ?_)
 obtain ⟨bG,bH,bI,bJ,bK,cB,cC,hv6,h⟩:=h
 refine sy (v:=(.agg #[(vi bG),(vi bH),(vi bI),(vu bJ),(vs bK),(vi cB),(vi cC)])) Kp5 (fun w' hw'=>(xa p2 [(vi bG),(vi bH),(vi bI),(vu bJ),(vs bK),(vi cB),(vi cC)] (isAgg127 _) (sizeOf127 _) (hv6 w' hw'))) (qx 6 (vi r1) Kp6 (qx 7 (vi r2) Kp7 (qx 8 (.agg #[(vi bG),(vi bH),(vi bI),(vu bJ),(vs bK),(vi cB),(vi cC),(vi r1),(vi r2)]) Kp8 (lg 9 (jBQ (O:=(.cells #[(vi bG),(vi bH),(vi bI),(vu bJ),(vs bK),(vi cB),(vi cC),(vi r1),(vi r2)] 234)) (fun p=>(Sl.mk (some p) 1 1).v) Kp9 (zL rfl) (by kernel_rfl) (vJ (vs:=#[(0,(.agg #[(vi bG),(vi bH),(vi bI),(vu bJ),(vs bK),(vi cB),(vi cC),(vi r1),(vi r2)]))]) (by kernel_rfl) (by kernel_rfl)) ?_)))))
 intro p3 w5 hn2
 have h:=h p3 w5 hn2
 refine ⟨.inr h.1,?_⟩
 have h:=h.2
 refine lg 10 ?_
 obtain ⟨s1,w6,hv5,hC,h⟩:=h
 refine sl (v:=s1.v) (zT (S8 (zH (zH zS)))) (zL rfl) (by kernel_rfl) (vI (args:=#[v4.v,(Sl.mk (some p3) 1 1).v]) (by kernel_rfl) (fun _=>rfl) hv5) (.inr hC) ?_
 refine qg 11 ?_
 obtain ⟨a4,hp4,h⟩:=h
 refine sy (zT (S8 (zH (zH (zH zS))))) (fun _ _=>xn hp4) (qx 12 (vp (some a4)) (zT (S8 (S4 zS))) (lg 13 ?_))
 obtain ⟨hp5,h⟩:=h
 refine jSX (zT (S8 (S4 (zH zS)))) (xs (v:=s1.v) (sizeOf160 _) hp5) ?_
 intro w7 hn1
 have h:=h w7 hn1
 refine ⟨.inl (by kernel_rfl),?_⟩
 refine wn (zK (eg (q ?_)))
 refine qm h fun a5 h=>q ?_
 refine ql (isAgg160 _) h fun v5 h=>qb (ln (zA ?_))
 obtain ⟨C2,hC,h⟩:=h
 refine dr1 C2 [6] [6] hC h fun w8 h=>?_
 refine qx 0 (vp p1) Kp0 (qg 1 ?_)
 obtain ⟨a6,hp7,h⟩:=h
 refine sy Kp1 (fun _ _=>xn hp7) (qx 2 (vp (some (a6.add 1))) Kp2 (qg 3 ?_))
 obtain ⟨v6,hv3,h⟩:=h
 refine sy Kp3 (fun _ k=>xl (isAgg159 _) (hv3 _ k)) (qg 4 ?_)
 obtain ⟨bP,bQ,bR,bS,bT,cK,cL,hv2,h⟩:=h
 refine sy (v:=(.agg #[(vi bP),(vi bQ),(vi bR),(vu bS),(vs bT),(vi cK),(vi cL)])) Kp4 (fun w' hw'=>(xa p2 [(vi bP),(vi bQ),(vi bR),(vu bS),(vs bT),(vi cK),(vi cL)] (isAgg127 _) (sizeOf127 _) (hv2 w' hw'))) (qx 5 (vi (v5.len:Int)) Kp5 (lg 6 ?_))
 obtain ⟨w9,hv1,h⟩:=h
 refine jGY Kp6 (zL rfl) (by kernel_rfl) (yR (by kernel_rfl) (by kernel_rfl) (by kernel_rfl) hv1) (.inl (by kernel_rfl)) (wn (zK (eg (q0 (vi (v5.len:Int)) (q0 (vi (v5.len:Int)) (q0 (vi 0) (ln (er (xO (.inl rfl) results109 (v:=(vi (v5.len:Int))) (by kernel_rfl) (v':=(vi 0)) (by kernel_rfl) ?_)))))))))
 exact ⟨(v5.len:Int),0,rfl,h⟩
def m_X3 (p1:Option Addr) (aH aI:Int) (aJ aK:Int) (aL:ByteArray) (aM aN:Int) (w:World) (K:Int→Bool→WP):Prop :=∀(p2:Addr) (w1:World),New w (.cells #[(vi aH),(vi aI),(vi aJ),(vu aK),(vs aL),(vi aM),(vi aN)] 127) p2 w1→Br (Option.isNone p1) (K 0 false w1) (∀w2,w2=w1.drew→∃a1:Addr,p1=some a1∧∃v1:Option Nat,w2.cell? (a1.add 1)=some (.map v1)∧∃aA aB:Int,∃aC aD:Int,∃aE:ByteArray,∃aF aG:Int,Row w2 p2 [(vi aA),(vi aB),(vi aC),(vu aD),(vs aE),(vi aF),(vi aG)]∧∃v2:Int,∃ok1:Bool,(Instr.lookup 159 (.map v1) (.agg #[(vi aA),(vi aB),(vi aC),(vu aD),(vs aE),(vi aF),(vi aG)]) true).run prog w2=.ok (.tuple #[(vi v2),(vb ok1)]) w2∧K v2 ok1 w2)
theorem w_X3 (p1:Option Addr) (aH aI:Int) (aJ aK:Int) (aL:ByteArray) (aM aN:Int) (w:World) (K:Int→Bool→WP) (h:m_X3 p1 aH aI aJ aK aL aM aN w K) :
  Calls prog 112 #[(vp p1),(.agg #[(vi aH),(vi aI),(vi aJ),(vu aK),(vs aL),(vi aM),(vi aN)])] w (fun e w'=>∃r1:Int,∃r2:Bool,e=.returned (.tuple #[(vi r1),(vb r2)])∧K r1 r2 w'):=by
 refine cw (args:=[(vp p1),(.agg #[(vi aH),(vi aI),(vi aJ),(vu aK),(vs aL),(vi aM),(vi aN)])]) func112 ntmps112 (eg (sn (O:=(.cells #[(vi aH),(vi aI),(vi aJ),(vu aK),(vs aL),(vi aM),(vi aN)] 127)) xb ?_))
 intro p2 w1 hn1
 have h:=h p2 w1 hn1
 refine qb (ln (zA (eg (q (q2 (vb (Option.isNone p1)) (vY (by kernel_rfl) rfl underlying91) (ln ?_))))))
 refine cbr h ?_ ?_<;>intro h
 refine eg (qb (ln (er (vF (xO (.inl rfl) results112 (v:=(vi 0)) (by kernel_rfl) (v':=(vb false)) (by kernel_rfl) ?_)))))
 exact ⟨0,false,rfl,h⟩
 refine zC (zK (zA (qE (by kernel_rfl) (by kernel_rfl) (by kernel_rfl) (by kernel_rfl) ?_)))
 intro w2 hw2
 have h:=h w2 hw2
 refine qq 0 (vp p1) Kp0 (qg 1 ?_)
 obtain ⟨a1,hp1,h⟩:=h
 refine sxQ Kp1 (zL rfl) rfl (xn hp1) (qq 2 (vp (some (a1.add 1))) Kp2 (qg 3 ?_))
 obtain ⟨v1,hv3,h⟩:=h
 refine sxQ Kp3 (zL rfl) rfl (xl (isAgg159 _) hv3) (qg 4 ?_)
 obtain ⟨aA,aB,aC,aD,aE,aF,aG,hv2,h⟩:=h
 refine sxQ (v:=(.agg #[(vi aA),(vi aB),(vi aC),(vu aD),(vs aE),(vi aF),(vi aG)])) Kp4 (zL rfl) rfl (xa p2 [(vi aA),(vi aB),(vi aC),(vu aD),(vs aE),(vi aF),(vi aG)] (isAgg127 _) (sizeOf127 _) hv2) (qg 5 ?_)
 obtain ⟨v2,ok1,hv1,h⟩:=h
 refine sxQ (v:=(.tuple #[(vi v2),(vb ok1)])) Kp5 (zL rfl) rfl (qQ (by kernel_rfl) (by kernel_rfl) hv1) (qq 6 (.tuple #[(vi v2),(vb ok1)]) Kp6 (qq 7 (vi v2) Kp7 (qq 8 (vb ok1) Kp8 (qq 9 (vi v2) Kp9 (qq 10 (vb ok1) (zT (S8 (zH (zH zS)))) (wn (zK (eg (qb ?_)))))))))
 refine qb (ln (er (xO (.inl rfl) results112 (v:=(vi v2)) (by kernel_rfl) (v':=(vb ok1)) (by kernel_rfl) ?_)))
 exact ⟨v2,ok1,rfl,h⟩
def m_K_l4 (inside1:Int) (seen1:Option Addr) (p1:Addr) (e3 i1:Int) (wl1:World) (Kc4:Int→Int→WP) (K:Int→WP):Prop :=∃v2:Sl,wl1.cell? (p1.add 5)=some v2.v∧Br (decide (i1<(v2.len:Int))) (Br (e3 == 0) (∃v3:Sl,wl1.cell? (p1.add 5)=some v3.v∧∃a3:Addr,At v3 i1 6 a3∧∃bG bH:Int,∃bI bJ:Int,∃bK:ByteArray,∃bL:Sl,Row wl1 a3 [(vi bG),(vi bH),(vi bI),(vu bJ),(vs bK),bL.v]∧Calls prog 134 #[(.agg #[(vi bG),(vi bH),(vi bI),(vu bJ),(vs bK),bL.v]),(vi (q6.wrap (inside1+1))),(vp seen1)] wl1 (fun e w9=>∃r2:Int,e=.returned (vi r2)∧Kc4 r2 (q6.wrap (i1+1)) w9)) (K e3 wl1)) (K e3 wl1)
def m_K_j3 (inside1:Int) (seen1:Option Addr) (p1:Addr) (e2:Int) (w:World) (K:Int→WP):Prop :=∃(I1:Int→Int→WP) (mu1:Int→Int→World→Nat),I1 e2 0 w∧∀(e3 i1:Int) (wl1:World),I1 e3 i1 wl1→m_K_l4 inside1 seen1 p1 e3 i1 wl1 (fun y'0 y'1 w'=>I1 y'0 y'1 w'∧mu1 y'0 y'1 w'<mu1 e3 i1 wl1) K
def m_K_j2 (inside1:Int) (seen1:Option Addr) (p1 p2 p3:Addr) (e1:Int) (w:World) (K:Int→WP):Prop :=Br (e1 == 0) (∃vfrom1 vto1:Bool,∃vnum1 vtext1:Bool,∃vkids1:Int,Row w p3 [(vb vfrom1),(vb vto1),(vb vnum1),(vb vtext1),(vi vkids1)]∧∃bP bQ:Int,∃bR bS:Int,∃bT:ByteArray,∃bN bO:Int,Row w p2 [(vi bP),(vi bQ),(vi bR),(vu bS),(vs bT),(vi bN),(vi bO)]∧Calls prog 185 #[(.agg #[(vb vfrom1),(vb vto1),(vb vnum1),(vb vtext1),(vi vkids1)]),(.agg #[(vi bP),(vi bQ),(vi bR),(vu bS),(vs bT),(vi bN),(vi bO)])] w (fun e w10=>∃r3:Int,e=.returned (vi r3)∧m_K_j3 inside1 seen1 p1 r3 w10 K)) (m_K_j3 inside1 seen1 p1 e1 w K)
def m_K_j1 (inside1:Int) (seen1:Option Addr) (p1:Addr) (w:World) (K:Int→WP):Prop :=∃a1:Addr,seen1=some a1∧∃v1:Int,w.cell? a1=some (vi v1)∧∃a2:Addr,seen1=some a2∧CanW w a2∧∀w2:World,w2=w.setCell a2 (vi (q6.wrap (v1+1)))→∃aA aB:Int,∃aC aD:Int,∃aE:ByteArray,∃bM:Sl,Row w2 p1 [(vi aA),(vi aB),(vi aC),(vu aD),(vs aE),bM.v]∧Calls prog 183 #[(.agg #[(vi aA),(vi aB),(vi aC),(vu aD),(vs aE),bM.v])] w2 (fun e w3=>∃aZ bA:Int,∃bB bC:Int,∃bD:ByteArray,∃bE bF:Int,e=.returned (.agg #[(vi aZ),(vi bA),(vi bB),(vu bC),(vs bD),(vi bE),(vi bF)])∧∀(p2:Addr) (w4:World),New w3 (.cells #[(vi 0),(vi 0),(vi 0),(vu 0),ve,(vi 0),(vi 0)] 127) p2 w4→(∀j,j<7→CanW w4 (p2.add j))∧∀w5:World,w5=storeRow w4 p2 [(vi aZ),(vi bA),(vi bB),(vu bC),(vs bD),(vi bE),(vi bF)]→∃aO aP:Int,∃aQ aR:Int,∃aS:ByteArray,∃aF aG:Int,Row w5 p2 [(vi aO),(vi aP),(vi aQ),(vu aR),(vs aS),(vi aF),(vi aG)]∧Calls prog 184 #[(.agg #[(vi aO),(vi aP),(vi aQ),(vu aR),(vs aS),(vi aF),(vi aG)])] w5 (fun e w6=>∃rfrom1 rto1:Bool,∃rnum1 rtext1:Bool,∃rkids1 r1:Int,e=.returned (.tuple #[(.agg #[(vb rfrom1),(vb rto1),(vb rnum1),(vb rtext1),(vi rkids1)]),(vi r1)])∧∀(p3:Addr) (w7:World),New w6 (.cells #[(vb false),(vb false),(vb false),(vb false),(vi 0)] 271) p3 w7→(∀j,j<5→CanW w7 (p3.add j))∧∀w8:World,w8=storeRow w7 p3 [(vb rfrom1),(vb rto1),(vb rnum1),(vb rtext1),(vi rkids1)]→Br (r1 == 0) (∃v4:Sl,w8.cell? (p1.add 5)=some v4.v∧∃v5:Int,w8.cell? (p3.add 4)=some (vi v5)∧Br (((v4.len:Int):Int) != v5) (m_K_j2 inside1 seen1 p1 p2 p3 53 w8 K) (m_K_j2 inside1 seen1 p1 p2 p3 r1 w8 K)) (m_K_j2 inside1 seen1 p1 p2 p3 r1 w8 K)))
def m_K (aT aU:Int) (aV aW:Int) (aX:ByteArray) (aY:Sl) (inside1:Int) (seen1:Option Addr) (w:World) (K:Int→WP):Prop :=∀(p1:Addr) (w1:World),New w (.cells #[(vi aT),(vi aU),(vi aV),(vu aW),(vs aX),aY.v] 76) p1 w1→∃a4:Addr,seen1=some a4∧∃v6:Int,w1.cell? a4=some (vi v6)∧Br (decide (v6≥4096)) (K 52 w1) (Br (decide (inside1≥64)) (K 52 w1) (m_K_j1 inside1 seen1 p1 w1 K))
theorem w_K (aT aU:Int) (aV aW:Int) (aX:ByteArray) (aY:Sl) (inside1:Int) (seen1:Option Addr) (w:World) (K:Int→WP) (h:m_K aT aU aV aW aX aY inside1 seen1 w K) :
  Calls prog 134 #[(.agg #[(vi aT),(vi aU),(vi aV),(vu aW),(vs aX),aY.v]),(vi inside1),(vp seen1)] w (fun e w'=>∃r4:Int,e=.returned (vi r4)∧K r4 w'):=by
 refine cw (args:=[(.agg #[(vi aT),(vi aU),(vi aV),(vu aW),(vs aX),aY.v]),(vi inside1),(vp seen1)]) func134 ntmps134 (eg (sn (O:=(.cells #[(vi aT),(vi aU),(vi aV),(vu aW),(vs aX),aY.v] 76)) xb ?_))
 intro p1 w1 hn6
 have h:=h p1 w1 hn6
 refine q (ln ?_)
 refine tY (fun ρ w=>Has ρ [(1,(vi inside1)),(2,(vp seen1)),(3,(vp (some p1)))]∧m_K_j1 inside1 seen1 p1 w K) ?_ ?_
 rintro ρ w ⟨hH,h⟩
 refine zW hH ?_
 refine eg (q ?_)
 refine qm h fun a1 h=>?_
 refine ql (isAgg3 _) h fun v1 h=>q ?_
 refine qm h fun a2 h=>?_
 refine st1 (sizeOf3 _) h fun w2 h=>?_
 refine ln (eg ?_)
 obtain ⟨aA,aB,aC,aD,aE,bM,hv10,h⟩:=h
 refine qa (isAgg76 _) (sizeOf76 _) hv10 ?_
 refine sc call183 (h.mono fun e w3 ⟨aZ,bA,bB,bC,bD,bE,bF,k,h⟩=>⟨_,k,?_⟩)
 refine nw1 h (zQ (zeroValue127 _) rfl) fun p2 w4 h=>?_
 refine sro (sizeOf127 _) h fun w5 h=>?_
 refine ln (eg ?_)
 obtain ⟨aO,aP,aQ,aR,aS,aF,aG,hv9,h⟩:=h
 refine qa (isAgg127 _) (sizeOf127 _) hv9 ?_
 refine sc call184 (h.mono fun e w6 ⟨rfrom1,rto1,rnum1,rtext1,rkids1,r1,k,h⟩=>⟨_,k,?_⟩)
 refine qc (nw1 h (zQ (zeroValue271 _) rfl) fun p3 w7 h=>?_)
 refine sro (sizeOf271 _) h fun w8 h=>?_
 refine q (ln ?_)
 refine tY (fun ρ w=>∃e1:Int,Has ρ [(1,(vi inside1)),(2,(vp seen1)),(3,(vp (some p1))),(7,(vp (some p2))),(8,(vp (some p3))),(9,(vi e1))]∧m_K_j2 inside1 seen1 p1 p2 p3 e1 w K) ?_ ?_
 rintro ρ w ⟨e1,hH,h⟩
 refine zW hH ?_
 refine tY (fun ρ w=>∃e2:Int,Has ρ [(1,(vi inside1)),(2,(vp seen1)),(3,(vp (some p1))),(9,(vi e2))]∧m_K_j3 inside1 seen1 p1 e2 w K) ?_ ?_
 rintro ρ w ⟨e2,hH,h⟩
 refine zW hH ?_
 refine zA (eg (q (ln (zJ ?_))))
 obtain ⟨I1,mu1,h0,hr⟩:=h
 refine vP (σ:=Int×Int×World) (fun s ρ w=>w=s.2.2∧Has ρ [(1,(vi inside1)),(2,(vp seen1)),(3,(vp (some p1))),(9,(vi s.1)),(10,(vi s.2.1))]∧I1 s.1 s.2.1 s.2.2) (fun s=>mu1 s.1 s.2.1 s.2.2) (e2,0,w) ⟨rfl,hm,h0⟩ ?_
 rintro ⟨e3,i1,wl1⟩ ρ w ⟨hw,hH,hI⟩
 dsimp only at hw hH;subst w
 have h:=hr e3 i1 wl1 hI
 refine zW hH ?_
 refine zA (eg (qb ?_))
 refine ql (isAgg74 _) h fun v2 h=>qc ?_
 obtain ⟨hg1,h⟩|⟨hg1,h⟩:=h.br
 refine qk 51 hg1 (qk 51 hg1 (q2 (vb (e3 == 0)) (xT hg1) (ln ?_)))
 refine cbr h ?_ ?_<;>intro h
 refine zC (zK (zA (zJ (rg (q ?_)))))
 refine ql (isAgg74 _) h fun v3 h=>q ?_
 refine qi (runUnderlying74 _) (sizeOf76 _) h fun a3 h=>?_
 obtain ⟨bG,bH,bI,bJ,bK,bL,hv1,h⟩:=h
 refine qa (isAgg76 _) (sizeOf76 _) hv1 (qc ?_)
 refine sc call134 (h.mono fun e w9 ⟨r2,k,h⟩=>⟨_,k,?_⟩)
 refine q (zB (xW (zK (rg (qc (ln ?_))))))
 exact ⟨(r2,(q6.wrap (i1+1)),w9),⟨rfl,hm,h.1⟩,h.2⟩
 refine vO (uU (uU (uY (zK (eg (q0 (vi e3) (q0 (vi e3) (ln (er ?_)))))))))
 refine rs1 results134 ⟨e3,rfl,h⟩
 refine sj 51 hg1 (sj 51 hg1 (q2 (vb false) (xF hg1) (ln (uL (by kernel_rfl) (vO (uU (uU (uY (zK (zA ?_))))))))))
 refine rg (qb (ln (er (rs1 results134 ⟨e3,rfl,h⟩))))
 refine eg (qb (ln ?_))
 refine cbr h ?_ ?_<;>intro h
 refine rg ?_
 obtain ⟨vfrom1,vto1,vnum1,vtext1,vkids1,hv6,h⟩:=h
 refine qa (isAgg271 _) (sizeOf271 _) hv6 ?_
 obtain ⟨bP,bQ,bR,bS,bT,bN,bO,hv5,h⟩:=h
 refine qa (isAgg127 _) (sizeOf127 _) hv5 ?_
 refine sc call185 (h.mono fun e w10 ⟨r3,k,h⟩=>⟨_,k,?_⟩)
 refine q (ln ?_)
 exact ⟨r3,hm,h⟩
 refine zC (zK ?_)
 exact ⟨e1,hm,h⟩
 refine eg (qc ?_)
 obtain ⟨hg2,h⟩|⟨hg2,h⟩:=h.br
 refine qk 33 hg2 ?_
 obtain ⟨v4,hv8,h⟩:=h
 refine q4 33 hg2 (xl (isAgg74 _) hv8) (qk 33 hg2 (qk 33 hg2 ?_))
 obtain ⟨v5,hv7,h⟩:=h
 refine q4 33 hg2 (xl (isAgg3 _) hv7) (qk 33 hg2 (q2 (vb (((v4.len:Int):Int) != v5)) (xT hg2) (ln ?_)))
 refine cbr h ?_ ?_<;>intro h
 refine rg (q (ln ?_))
 exact ⟨53,hm,h⟩
 refine zC (zK ?_)
 exact ⟨r1,hm,h⟩
 refine sj 33 hg2 (sj 33 hg2 (sj 33 hg2 (sj 33 hg2 (sj 33 hg2 (sj 33 hg2 (q2 (vb false) (xF hg2) (ln (uL (by kernel_rfl) (zC (zK ?_))))))))))
 exact ⟨r1,hm,h⟩
 refine eg (q ?_)
 refine qm h fun a4 h=>?_
 refine ql (isAgg3 _) h fun v6 h=>qb ?_
 obtain ⟨hg3,h⟩|⟨hg3,h⟩:=h.br
 refine sj 15 hg3 (sj 15 hg3 (q2 (vb true) (xT hg3) (ln (uK (by kernel_rfl) (eg (q0 (vi 52) (ln (er ?_))))))))
 refine vF (rs1 results134 ⟨52,rfl,h⟩)
 refine qk 15 hg3 (qk 15 hg3 (q2 (vb (decide (inside1≥64))) (xF hg3) (ln ?_)))
 refine cbr h ?_ ?_<;>intro h
 refine eg (q (ln (er (vF (rs1 results134 ⟨52,rfl,h⟩)))))
 refine zC (zK ?_)
 exact ⟨hm,h⟩
def m_I1_l1 (p1:Option Addr) (p3 p4:Addr) (v1:Sl) (x1:Int) (wl1:World) (Kc1:Int→WP) (K:Int→Int→WP):Prop :=Br (decide (x1<(v1.len:Int))) (∃a1:Addr,At v1 x1 6 a1∧∃aO aP:Int,∃aQ aR:Int,∃aS:ByteArray,∃bL:Sl,Row wl1 a1 [(vi aO),(vi aP),(vi aQ),(vu aR),(vs aS),bL.v]∧∀(p5:Addr) (w6:World),New wl1 (.cells #[(vi 0),(vi 0),(vi 0),(vu 0),ve,Sl.nil.v] 76) p5 w6→(∀j,j<6→CanW w6 (p5.add j))∧∀w7:World,w7=storeRow w6 p5 [(vi aO),(vi aP),(vi aQ),(vu aR),(vs aS),bL.v]→∃bG bH:Int,∃bI bJ:Int,∃bK:ByteArray,∃cM:Sl,Row w7 p5 [(vi bG),(vi bH),(vi bI),(vu bJ),(vs bK),cM.v]∧Calls prog 135 #[(vp p1),(.agg #[(vi bG),(vi bH),(vi bI),(vu bJ),(vs bK),cM.v])] w7 (fun e w8=>∃r1 r2:Int,e=.returned (.tuple #[(vi r1),(vi r2)])∧Br (r2 != 0) (K 0 r2 w8) (∃a2:Addr,At (Sl.mk (some p4) 2 2) x1 1 a2∧∃v2:Option Addr,w8.cell? a2=some (vp v2)∧∃a3:Addr,v2=some a3∧CanW w8 a3∧∀w9:World,w9=w8.setCell a3 (vi r1)→Kc1 (q6.wrap (x1+1)) w9))) (∃bP bQ:Int,∃bR bS:Int,∃bT:ByteArray,∃aF aG:Int,Row wl1 p3 [(vi bP),(vi bQ),(vi bR),(vu bS),(vs bT),(vi aF),(vi aG)]∧Calls prog 109 #[(vp p1),(.agg #[(vi bP),(vi bQ),(vi bR),(vu bS),(vs bT),(vi aF),(vi aG)])] wl1 (fun e w10=>∃r3 r4:Int,e=.returned (.tuple #[(vi r3),(vi r4)])∧K r3 r4 w10))
def m_I1 (p1:Option Addr) (aT aU:Int) (aV aW:Int) (aX:ByteArray) (aY:Sl) (w:World) (K:Int→Int→WP):Prop :=∀(p2:Addr) (w1:World),New w (.cells #[(vi aT),(vi aU),(vi aV),(vu aW),(vs aX),aY.v] 76) p2 w1→∃aA aB:Int,∃aC aD:Int,∃aE:ByteArray,∃bM:Sl,Row w1 p2 [(vi aA),(vi aB),(vi aC),(vu aD),(vs aE),bM.v]∧Calls prog 183 #[(.agg #[(vi aA),(vi aB),(vi aC),(vu aD),(vs aE),bM.v])] w1 (fun e w2=>∃aZ bA:Int,∃bB bC:Int,∃bD:ByteArray,∃bE bF:Int,e=.returned (.agg #[(vi aZ),(vi bA),(vi bB),(vu bC),(vs bD),(vi bE),(vi bF)])∧∀(p3:Addr) (w3:World),New w2 (.cells #[(vi 0),(vi 0),(vi 0),(vu 0),ve,(vi 0),(vi 0)] 127) p3 w3→(∀j,j<7→CanW w3 (p3.add j))∧∀w4:World,w4=storeRow w3 p3 [(vi aZ),(vi bA),(vi bB),(vu bC),(vs bD),(vi bE),(vi bF)]→∀(p4:Addr) (w5:World),New w4 (.cells #[(vp (some (p3.add 5))),(vp (some (p3.add 6)))] 275) p4 w5→∃v1:Sl,w5.cell? (p2.add 5)=some v1.v∧∃(I1:Int→WP) (mu1:Int→World→Nat),I1 0 w5∧∀(x1:Int) (wl1:World),I1 x1 wl1→m_I1_l1 p1 p3 p4 v1 x1 wl1 (fun y'0 w'=>I1 y'0 w'∧mu1 y'0 w'<mu1 x1 wl1) K)
theorem w_I1 (p1:Option Addr) (aT aU:Int) (aV aW:Int) (aX:ByteArray) (aY:Sl) (w:World) (K:Int→Int→WP) (h:m_I1 p1 aT aU aV aW aX aY w K) :
  Calls prog 135 #[(vp p1),(.agg #[(vi aT),(vi aU),(vi aV),(vu aW),(vs aX),aY.v])] w (fun e w'=>∃r5 r6:Int,e=.returned (.tuple #[(vi r5),(vi r6)])∧K r5 r6 w'):=by
 refine cw (args:=[(vp p1),(.agg #[(vi aT),(vi aU),(vi aV),(vu aW),(vs aX),aY.v])]) func135 ntmps135 (eg (sn (O:=(.cells #[(vi aT),(vi aU),(vi aV),(vu aW),(vs aX),aY.v] 76)) xb ?_))
 intro p2 w1 hn7
 have h:=h p2 w1 hn7
 refine qb (ln (eg ?_))
 obtain ⟨aA,aB,aC,aD,aE,bM,hv8,h⟩:=h
 refine qa (isAgg76 _) (sizeOf76 _) hv8 ?_
 refine sc call183 (h.mono fun e w2 ⟨aZ,bA,bB,bC,bD,bE,bF,k,h⟩=>⟨_,k,?_⟩)
 refine nw1 h (zQ (zeroValue127 _) rfl) fun p3 w3 h=>?_
 refine sro (sizeOf127 _) h fun w4 h=>?_
 refine ln (eg (qb (nw4 (fun p=>(Sl.mk (some p) 2 2).v) h fun p4 w5 h=>?_)))
 refine q (ln (zA (eg (q ?_))))
 refine ql (isAgg74 _) h fun v1 h=>qb (ln (zJ ?_))
 obtain ⟨I1,mu1,h0,hr⟩:=h
 refine vP (σ:=Int×World) (fun s ρ w=>w=s.2∧Has ρ [(0,(vp p1)),(6,(vp (some p3))),(7,(Sl.mk (some p4) 2 2).v),(18,v1.v),(19,(vi (v1.len:Int))),(20,(vi s.1))]∧I1 s.1 s.2) (fun s=>mu1 s.1 s.2) (0,w5) ⟨rfl,hm,h0⟩ ?_
 rintro ⟨x1,wl1⟩ ρ w ⟨hw,hH,hI⟩
 dsimp only at hw hH;subst w
 have h:=hr x1 wl1 hI
 refine zW hH ?_
 refine eg (q (ln (zA ?_)))
 refine cbr h ?_ ?_<;>intro h
 refine zC (zK (zA (zJ (eg (q ?_)))))
 refine qi (runUnderlying74 _) (sizeOf76 _) h fun a1 h=>?_
 obtain ⟨aO,aP,aQ,aR,aS,bL,hv4,h⟩:=h
 refine qa (isAgg76 _) (sizeOf76 _) hv4 (nw1 h (zQ (zeroValue76 _) rfl) fun p5 w6 h=>?_)
 refine q ?_
 refine sro (sizeOf76 _) h fun w7 h=>?_
 refine ln (eg (q ?_))
 obtain ⟨bG,bH,bI,bJ,bK,cM,hv3,h⟩:=h
 refine qa (isAgg76 _) (sizeOf76 _) hv3 ?_
 refine sc call135 (h.mono fun e w8 ⟨r1,r2,k,h⟩=>⟨_,k,?_⟩)
 refine q (qd (ln (zA (eg (qb ?_)))))
 refine ln ?_
 refine cbr h ?_ ?_<;>intro h
 refine eg (qc (ln (er (vF (uC (vF (vF ?_)))))))
 refine uC (vF (xO (.inl rfl) results135 (v:=(vi 0)) (by kernel_rfl) (v':=(vi r2)) (by kernel_rfl) ?_))
 exact ⟨0,r2,rfl,h⟩
 refine zC (zK (rg (qb ?_)))
 refine qi (runUnderlying276 _) (sizeOf275 _) h fun a2 h=>?_
 refine ql (isAgg275 _) h fun v2 h=>q ?_
 refine qm h fun a3 h=>?_
 refine st1 (sizeOf78 _) h fun w9 h=>?_
 refine zB (xW (zK (rg (qb (ln ?_)))))
 exact ⟨((q6.wrap (x1+1)),w9),⟨rfl,hm,h.1⟩,h.2⟩
 refine vO (uU (uU (uY (zK (eg (q0 (vp p1) ?_))))))
 obtain ⟨bP,bQ,bR,bS,bT,aF,aG,hv6,h⟩:=h
 refine qa (isAgg127 _) (sizeOf127 _) hv6 ?_
 refine sc call109 (h.mono fun e w10 ⟨r3,r4,k,h⟩=>⟨_,k,?_⟩)
 refine qd (ln (er (xO (.inl rfl) results135 (v:=(vi r3)) (by kernel_rfl) (v':=(vi r4)) (by kernel_rfl) ?_)))
 exact ⟨r3,r4,rfl,h⟩
def m_J1_l1 (p1:Option Addr) (n1:Int) (s1:Sl) (x1:Int) (wl1:World) (Kc1:Int→WP) (K:WP):Prop :=Br (decide (x1<(s1.len:Int))) (∃a2:Addr,At s1 x1 9 a2∧∃vnodeKind1 vnodeFrom1:Int,∃vnodeTo1 vnodeNum1:Int,∃vnodeText1:ByteArray,∃vnodeA1 vnodeB1:Int,∃vsize1 vdepth1:Int,Row wl1 a2 [(vi vnodeKind1),(vi vnodeFrom1),(vi vnodeTo1),(vu vnodeNum1),(vs vnodeText1),(vi vnodeA1),(vi vnodeB1),(vi vsize1),(vi vdepth1)]∧∀(p2:Addr) (w1:World),New wl1 (.cells #[(vi 0),(vi 0),(vi 0),(vu 0),ve,(vi 0),(vi 0),(vi 0),(vi 0)] 234) p2 w1→(∀j,j<9→CanW w1 (p2.add j))∧∀w2:World,w2=storeRow w1 p2 [(vi vnodeKind1),(vi vnodeFrom1),(vi vnodeTo1),(vu vnodeNum1),(vs vnodeText1),(vi vnodeA1),(vi vnodeB1),(vi vsize1),(vi vdepth1)]→∃C1:WP,C1 w2.drew∧∀w3,w3=w2.drew→∃a3:Addr,p1=some a3∧∃v2:Option Nat,(∀w',C1 w'→w'.cell? (a3.add 1)=some (.map v2))∧∃aA aB:Int,∃aC aD:Int,∃aE:ByteArray,∃aF aG:Int,(∀w',C1 w'→Row w' p2 [(vi aA),(vi aB),(vi aC),(vu aD),(vs aE),(vi aF),(vi aG)])∧∃w4:World,(Builtin.delete_ #[159,127] 0 #[(.map v2),(.agg #[(vi aA),(vi aB),(vi aC),(vu aD),(vs aE),(vi aF),(vi aG)])]).run prog w3=.ok (.tuple #[]) w4∧Kc1 (q6.wrap (x1+1)) w4) (∃a4:Addr,p1=some a4∧∃v3:Sl,wl1.cell? a4=some v3.v∧∃s2:Sl,(Instr.sliceAt 160 v3.v none (some (vi n1)) none).run prog wl1=.ok s2.v wl1∧∃a5:Addr,p1=some a5∧CanW wl1 a5∧∀w5:World,w5=wl1.setCell a5 s2.v→K w5)
def m_J1 (p1:Option Addr) (n1:Int) (w:World) (K:WP):Prop :=∃a1:Addr,p1=some a1∧∃v1:Sl,w.cell? a1=some v1.v∧∃s1:Sl,(Instr.sliceAt 160 v1.v (some (vi n1)) none none).run prog w=.ok s1.v w∧∃(I1:Int→WP) (mu1:Int→World→Nat),I1 0 w∧∀(x1:Int) (wl1:World),I1 x1 wl1→m_J1_l1 p1 n1 s1 x1 wl1 (fun y'0 w'=>I1 y'0 w'∧mu1 y'0 w'<mu1 x1 wl1) K
theorem w_J1 (p1:Option Addr) (n1:Int) (w:World) (K:WP) (h:m_J1 p1 n1 w K) :
  Calls prog 136 #[(vp p1),(vi n1)] w (fun e w'=>e=.returned (.tuple #[])∧K  w'):=by
 refine cw (args:=[(vp p1),(vi n1)]) func136 ntmps136 (zA (eg (q0 (vp p1) ?_)))
 refine qm h fun a1 h=>q ?_
 refine ql (isAgg160 _) h fun v1 h=>q ?_
 obtain ⟨s1,hv8,h⟩:=h
 refine q2 s1.v (xI (by kernel_rfl) (by kernel_rfl) (by kernel_rfl) (by kernel_rfl) hv8) (qb (ln (zJ ?_)))
 obtain ⟨I1,mu1,h0,hr⟩:=h
 refine vP (σ:=Int×World) (fun s ρ w=>w=s.2∧Has ρ [(0,(vp p1)),(1,(vi n1)),(11,s1.v),(12,(vi (s1.len:Int))),(13,(vi s.1))]∧I1 s.1 s.2) (fun s=>mu1 s.1 s.2) (0,w) ⟨rfl,hm,h0⟩ ?_
 rintro ⟨x1,wl1⟩ ρ w ⟨hw,hH,hI⟩
 dsimp only at hw hH;subst w
 have h:=hr x1 wl1 hI
 refine zW hH ?_
 refine eg (q (ln (zA ?_)))
 refine cbr h ?_ ?_<;>intro h
 refine zC (zK (zA (zJ (eg ?_))))
 refine qi (runUnderlying160 _) (sizeOf234 _) h fun a2 h=>?_
 obtain ⟨vnodeKind1,vnodeFrom1,vnodeTo1,vnodeNum1,vnodeText1,vnodeA1,vnodeB1,vsize1,vdepth1,hv4,h⟩:=h
 refine qa (isAgg234 _) (sizeOf234 _) hv4 (nw1 h (zQ (zeroValue234 _) rfl) fun p2 w1 h=>?_)
 refine sro (sizeOf234 _) h fun w2 h=>?_
 refine ln ?_
 obtain ⟨C1,hC,h⟩:=h
 refine dr1 C1 [6] [6] hC h fun w3 h=>?_
 refine qx 0 (vp p1) Kp0 (qg 1 ?_)
 obtain ⟨a3,hp3,h⟩:=h
 refine sy Kp1 (fun _ _=>xn hp3) (qx 2 (vp (some (a3.add 1))) Kp2 (qg 3 ?_))
 obtain ⟨v2,hv3,h⟩:=h
 refine sy Kp3 (fun _ k=>xl (isAgg159 _) (hv3 _ k)) (qx 4 (vp (some p2)) Kp4 (qg 5 ?_))
 obtain ⟨aA,aB,aC,aD,aE,aF,aG,hv2,h⟩:=h
 refine sy (v:=(.agg #[(vi aA),(vi aB),(vi aC),(vu aD),(vs aE),(vi aF),(vi aG)])) Kp5 (fun w' hw'=>(xa p2 [(vi aA),(vi aB),(vi aC),(vu aD),(vs aE),(vi aF),(vi aG)] (isAgg127 _) (sizeOf127 _) (hv2 w' hw'))) (lg 6 ?_)
 obtain ⟨w4,hv1,h⟩:=h
 refine sl (v:=(.tuple #[])) Kp6 (zL rfl) (by kernel_rfl) (vI (args:=#[(.map v2),(.agg #[(vi aA),(vi aB),(vi aC),(vu aD),(vs aE),(vi aF),(vi aG)])]) (by kernel_rfl) (fun _=>rfl) hv1) (.inl (by kernel_rfl)) (wn (xW (zK (rg (q0 (vi (q6.wrap (x1+1))) (q0 (vi (q6.wrap (x1+1))) (ln ?_)))))))
 exact ⟨((q6.wrap (x1+1)),w4),⟨rfl,hm,h.1⟩,h.2⟩
 refine vO (uU (uU (uY (zK (rg (q0 (vp p1) (q0 (vp p1) ?_)))))))
 refine qm h fun a4 h=>q ?_
 refine ql (isAgg160 _) h fun v3 h=>q ?_
 obtain ⟨s2,hv6,h⟩:=h
 refine q2 s2.v (xI (by kernel_rfl) (by kernel_rfl) (by kernel_rfl) (by kernel_rfl) hv6) ?_
 refine qm h fun a5 h=>q ?_
 refine st1 (sizeOf160 _) h fun w5 h=>?_
 refine zB (jFI (.inr rfl) results136 ?_)
 exact ⟨rfl,h⟩
def m_K1_j1 (p1:Option Addr) (t1:Int) (x1:Bool) (w:World) (K:Bool→WP):Prop :=Br x1 (∃a1:Addr,p1=some a1∧∃v1:Sl,w.cell? a1=some v1.v∧K (decide (t1≤(v1.len:Int))) w) (K false w)
def m_K1 (p1:Option Addr) (t1:Int) (w:World) (K:Bool→WP):Prop :=Br (!(Option.isNone p1)) (m_K1_j1 p1 t1 (decide (t1≥1)) w K) (m_K1_j1 p1 t1 false w K)
theorem w_K1 (p1:Option Addr) (t1:Int) (w:World) (K:Bool→WP) (h:m_K1 p1 t1 w K) :
  Calls prog 138 #[(vp p1),(vi t1)] w (fun e w'=>∃r1:Bool,e=.returned (vb r1)∧K r1 w'):=by
 refine cw (args:=[(vp p1),(vi t1)]) func138 ntmps138 (eg (q0 (vb false) (ln (eg (q0 (vp p1) (q2 (vb (!(Option.isNone p1))) (jGR (by kernel_rfl) rfl underlying91) (q0 (vb (!(Option.isNone p1))) ?_)))))))
 refine zI 3 (fun ρ w=>∃x1:Bool,Has ρ [(0,(vp p1)),(1,(vi t1)),(10,(vb x1))]∧m_K1_j1 p1 t1 x1 w K) ?_ ?_
 rintro ρ w ⟨x1,hH,h⟩
 refine zM hH ?_
 refine q ?_
 obtain ⟨hg1,h⟩|⟨hg1,h⟩:=h.br
 refine qk 11 hg1 (qk 11 hg1 ?_)
 obtain ⟨a1,hp1,h⟩:=h
 refine q4 11 hg1 (xn hp1) (qk 11 hg1 ?_)
 obtain ⟨v1,hv1,h⟩:=h
 refine q4 11 hg1 (xl (isAgg160 _) hv1) (qk 11 hg1 (qk 11 hg1 (q2 (vb (decide (t1≤(v1.len:Int)))) (xT hg1) (q (ln (er (rs1 results138 ⟨(decide (t1≤(v1.len:Int))),rfl,h⟩)))))))
 refine sj 11 hg1 (sj 11 hg1 (sj 11 hg1 (sj 11 hg1 (sj 11 hg1 (sj 11 hg1 (sj 11 hg1 (q2 (vb false) (xF hg1) (q (ln (er ?_))))))))))
 refine rs1 results138 ⟨false,rfl,h⟩
 obtain ⟨hg2,h⟩|⟨hg2,h⟩:=h.br
 refine qk 7 hg2 (qk 7 hg2 (q2 (vb (decide (t1≥1))) (xT hg2) (zB ?_)))
 exact ⟨(decide (t1≥1)),hm,h⟩
 refine sj 7 hg2 (sj 7 hg2 (q2 (vb false) (xF hg2) (zB ?_)))
 exact ⟨false,hm,h⟩
def m_Y3 (p1:Option Addr) (t1:Int) (w:World) (K:Value→WP):Prop :=∀(p2:Addr) (w1:World),New w (.cells #[(vp p1)] 91) p2 w1→∀(p3:Addr) (w2:World),New w1 (.cells #[(vi t1)] 78) p3 w2→K (.func (.func 186) #[] #[(vp (some p2)),(vp (some p3))]) w2
theorem w_Y3 (p1:Option Addr) (t1:Int) (w:World) (K:Value→WP) (h:m_Y3 p1 t1 w K) :
  Calls prog 139 #[(vp p1),(vi t1)] w (fun e w'=>∃r1:Value,e=.returned r1∧K r1 w'):=by
 refine cw (args:=[(vp p1),(vi t1)]) func139 ntmps139 (eg (sn (O:=(.cells #[(vp p1)] 91)) xb ?_))
 intro p2 w1 hn2
 have h:=h p2 w1 hn2
 refine nw1 h xb fun p3 w2 h=>?_
 refine q (ln (eg (qb (ln (er (rs1 results139 ⟨(.func (.func 186) #[] #[(vp (some p2)),(vp (some p3))]),rfl,h⟩))))))
def m_F_l3 (p1:Option Addr) (s1:Sl) (size1 depth1 x1:Int) (wl1:World) (Kc3:Int→Int→Int→WP) (K:Int→Int→Int→WP):Prop :=Br (decide (x1<(s1.len:Int))) (∃a1:Addr,At s1 x1 1 a1∧∃v4:Int,wl1.cell? a1=some (vi v4)∧Calls prog 138 #[(vp p1),(vi v4)] wl1 (fun e w6=>∃r2:Bool,e=.returned (vb r2)∧Br (!r2) (K 0 0 51 w6) (Calls prog 238 #[(vp p1),(vi v4)] w6 (fun e w7=>∃r3:Int,e=.returned (vi r3)∧Calls prog 239 #[(vp p1),(vi v4)] w7 (fun e w8=>∃r4:Int,e=.returned (vi r4)∧∃z1:Int,(Builtin.max_ #[3,3] 3 #[(vi depth1),(vi r4)]).run prog w8=.ok (vi z1) w8∧Kc3 (q6.wrap (size1+r3)) z1 (q6.wrap (x1+1)) w8))))) (Br (decide (size1>4096)) (K 0 0 52 wl1) (Br (decide ((q6.wrap (depth1+1))>64)) (K 0 0 52 wl1) (K size1 (q6.wrap (depth1+1)) 0 wl1)))
def m_F_j2 (p1:Option Addr) (p2 p3:Addr) (e2:Int) (w:World) (K:Int→Int→Int→WP):Prop :=Br (e2 != 0) (K 0 0 e2 w) (∃v1:Int,w.cell? (p2.add 5)=some (vi v1)∧∃v2:Int,w.cell? (p2.add 6)=some (vi v2)∧∀(p4:Addr) (w5:World),New w (.cells #[(vi v1),(vi v2)] 78) p4 w5→∃v3:Int,w5.cell? (p3.add 4)=some (vi v3)∧∃s1:Sl,(Instr.sliceAt 54 (Sl.mk (some p4) 2 2).v none (some (vi v3)) none).run prog w5=.ok s1.v w5∧∃(I1:Int→Int→Int→WP) (mu1:Int→Int→Int→World→Nat),I1 1 0 0 w5∧∀(size1 depth1 x1:Int) (wl1:World),I1 size1 depth1 x1 wl1→m_F_l3 p1 s1 size1 depth1 x1 wl1 (fun y'0 y'1 y'2 w'=>I1 y'0 y'1 y'2 w'∧mu1 y'0 y'1 y'2 w'<mu1 size1 depth1 x1 wl1) K)
def m_F_j1 (p1:Option Addr) (p2 p3:Addr) (e1:Int) (w:World) (K:Int→Int→Int→WP):Prop :=Br (e1 == 0) (∃vfrom1 vto1:Bool,∃vnum1 vtext1:Bool,∃vkids1:Int,Row w p3 [(vb vfrom1),(vb vto1),(vb vnum1),(vb vtext1),(vi vkids1)]∧∃aO aP:Int,∃aQ aR:Int,∃aS:ByteArray,∃bN bO:Int,Row w p2 [(vi aO),(vi aP),(vi aQ),(vu aR),(vs aS),(vi bN),(vi bO)]∧Calls prog 185 #[(.agg #[(vb vfrom1),(vb vto1),(vb vnum1),(vb vtext1),(vi vkids1)]),(.agg #[(vi aO),(vi aP),(vi aQ),(vu aR),(vs aS),(vi bN),(vi bO)])] w (fun e w9=>∃r5:Int,e=.returned (vi r5)∧m_F_j2 p1 p2 p3 r5 w9 K)) (m_F_j2 p1 p2 p3 e1 w K)
def m_F_j5 (p1:Option Addr) (p2:Addr) (r1:Int) (p3:Addr) (x2 x3:Bool) (w:World) (K:Int→Int→Int→WP):Prop :=Br (r1 == 0) (Br x2 (m_F_j1 p1 p2 p3 53 w K) (Br x3 (m_F_j1 p1 p2 p3 53 w K) (m_F_j1 p1 p2 p3 r1 w K))) (m_F_j1 p1 p2 p3 r1 w K)
def m_F_j4 (p1:Option Addr) (p2:Addr) (r1:Int) (p3:Addr) (x2:Bool) (w:World) (K:Int→Int→Int→WP):Prop :=Br (r1 == 0) (Br x2 (m_F_j1 p1 p2 p3 53 w K) (∃v6:Int,w.cell? (p3.add 4)=some (vi v6)∧Br (decide (v6<2)) (∃v7:Int,w.cell? (p2.add 6)=some (vi v7)∧m_F_j5 p1 p2 r1 p3 x2 (v7 != 0) w K) (m_F_j5 p1 p2 r1 p3 x2 false w K))) (m_F_j1 p1 p2 p3 r1 w K)
def m_F (p1:Option Addr) (aH aI:Int) (aJ aK:Int) (aL:ByteArray) (aM aN:Int) (w:World) (K:Int→Int→Int→WP):Prop :=∀(p2:Addr) (w1:World),New w (.cells #[(vi aH),(vi aI),(vi aJ),(vu aK),(vs aL),(vi aM),(vi aN)] 127) p2 w1→∃aA aB:Int,∃aC aD:Int,∃aE:ByteArray,∃aF aG:Int,Row w1 p2 [(vi aA),(vi aB),(vi aC),(vu aD),(vs aE),(vi aF),(vi aG)]∧Calls prog 184 #[(.agg #[(vi aA),(vi aB),(vi aC),(vu aD),(vs aE),(vi aF),(vi aG)])] w1 (fun e w2=>∃rfrom1 rto1:Bool,∃rnum1 rtext1:Bool,∃rkids1 r1:Int,e=.returned (.tuple #[(.agg #[(vb rfrom1),(vb rto1),(vb rnum1),(vb rtext1),(vi rkids1)]),(vi r1)])∧∀(p3:Addr) (w3:World),New w2 (.cells #[(vb false),(vb false),(vb false),(vb false),(vi 0)] 271) p3 w3→(∀j,j<5→CanW w3 (p3.add j))∧∀w4:World,w4=storeRow w3 p3 [(vb rfrom1),(vb rto1),(vb rnum1),(vb rtext1),(vi rkids1)]→Br (r1 == 0) (∃v5:Int,w4.cell? (p3.add 4)=some (vi v5)∧Br (decide (v5<1)) (∃v8:Int,w4.cell? (p2.add 5)=some (vi v8)∧m_F_j4 p1 p2 r1 p3 (v8 != 0) w4 K) (m_F_j4 p1 p2 r1 p3 false w4 K)) (m_F_j1 p1 p2 p3 r1 w4 K))
theorem w_F (p1:Option Addr) (aH aI:Int) (aJ aK:Int) (aL:ByteArray) (aM aN:Int) (w:World) (K:Int→Int→Int→WP) (h:m_F p1 aH aI aJ aK aL aM aN w K) :
  Calls prog 167 #[(vp p1),(.agg #[(vi aH),(vi aI),(vi aJ),(vu aK),(vs aL),(vi aM),(vi aN)])] w (fun e w'=>∃r6 r7 r8:Int,e=.returned (.tuple #[(vi r6),(vi r7),(vi r8)])∧K r6 r7 r8 w'):=by
 refine cw (args:=[(vp p1),(.agg #[(vi aH),(vi aI),(vi aJ),(vu aK),(vs aL),(vi aM),(vi aN)])]) func167 ntmps167 (eg (sn (O:=(.cells #[(vi aH),(vi aI),(vi aJ),(vu aK),(vs aL),(vi aM),(vi aN)] 127)) xb ?_))
 intro p2 w1 hn4
 have h:=h p2 w1 hn4
 refine qc (ln (eg ?_))
 obtain ⟨aA,aB,aC,aD,aE,aF,aG,hv14,h⟩:=h
 refine qa (isAgg127 _) (sizeOf127 _) hv14 ?_
 refine sc call184 (h.mono fun e w2 ⟨rfrom1,rto1,rnum1,rtext1,rkids1,r1,k,h⟩=>⟨_,k,?_⟩)
 refine qc (nw1 h (zQ (zeroValue271 _) rfl) fun p3 w3 h=>?_)
 refine sro (sizeOf271 _) h fun w4 h=>?_
 refine q (ln ?_)
 refine tY (fun ρ w=>∃e1:Int,Has ρ [(0,(vp p1)),(3,(vp (some p2))),(7,(vp (some p3))),(8,(vi e1))]∧m_F_j1 p1 p2 p3 e1 w K) ?_ ?_
 rintro ρ w ⟨e1,hH,h⟩
 refine zW hH ?_
 refine tY (fun ρ w=>∃e2:Int,Has ρ [(0,(vp p1)),(3,(vp (some p2))),(7,(vp (some p3))),(8,(vi e2))]∧m_F_j2 p1 p2 p3 e2 w K) ?_ ?_
 rintro ρ w ⟨e2,hH,h⟩
 refine zW hH ?_
 refine zA (eg (qb (ln ?_)))
 refine cbr h ?_ ?_<;>intro h
 refine eg (qd (ln (er (vF (jKU (.inl rfl) results167 (v:=(vi 0)) (by kernel_rfl) (v':=(vi 0)) (by kernel_rfl) (v'':=(vi e2)) (by kernel_rfl) ?_)))))
 exact ⟨0,0,e2,rfl,h⟩
 refine zC (zK (eg (qb (ln (zA (eg (q ?_)))))))
 refine ql (isAgg78 _) h fun v1 h=>q ?_
 refine ql (isAgg78 _) h fun v2 h=>uE (O:=(.cells #[(vi v1),(vi v2)] 78)) (fun p=>(Sl.mk (some p) 2 2).v) (zL rfl) (vJ (vs:=#[(0,(vi v1)),(1,(vi v2))]) (by kernel_rfl) (by kernel_rfl)) ?_
 intro p4 w5 hn2
 have h:=h p4 w5 hn2
 refine q ?_
 refine ql (isAgg3 _) h fun v3 h=>?_
 obtain ⟨s1,hv4,h⟩:=h
 refine q2 s1.v (xI (by kernel_rfl) (by kernel_rfl) (by kernel_rfl) (by kernel_rfl) hv4) (qb (ln (zJ ?_)))
 obtain ⟨I1,mu1,h0,hr⟩:=h
 refine vP (σ:=Int×Int×Int×World) (fun s ρ w=>w=s.2.2.2∧Has ρ [(0,(vp p1)),(9,(vi s.1)),(10,(vi s.2.1)),(55,s1.v),(56,(vi (s1.len:Int))),(57,(vi s.2.2.1))]∧I1 s.1 s.2.1 s.2.2.1 s.2.2.2) (fun s=>mu1 s.1 s.2.1 s.2.2.1 s.2.2.2) (1,0,0,w5) ⟨rfl,hm,h0⟩ ?_
 rintro ⟨size1,depth1,x1,wl1⟩ ρ w ⟨hw,hH,hI⟩
 dsimp only at hw hH;subst w
 have h:=hr size1 depth1 x1 wl1 hI
 refine zW hH ?_
 refine eg (q (ln (zA ?_)))
 refine cbr h ?_ ?_<;>intro h
 refine zC (zK (zA (zJ (eg ?_))))
 refine qi (runUnderlying54 _) (sizeOf78 _) h fun a1 h=>?_
 refine ql (isAgg78 _) h fun v4 h=>q (ln (zA (eg (qb ?_))))
 refine sc call138 (h.mono fun e w6 ⟨r2,k,h⟩=>⟨_,k,?_⟩)
 refine q (ln ?_)
 refine cbr h ?_ ?_<;>intro h
 refine eg (qc (ln (er (vF (uC (vF (vF ?_)))))))
 refine uC (vF (jKU (.inl rfl) results167 (v:=(vi 0)) (by kernel_rfl) (v':=(vi 0)) (by kernel_rfl) (v'':=(vi 51)) (by kernel_rfl) ?_))
 exact ⟨0,0,51,rfl,h⟩
 refine zC (zK (eg (qc ?_)))
 refine sc call238 (h.mono fun e w7 ⟨r3,k,h⟩=>⟨_,k,?_⟩)
 refine qb (ln (rg (qc ?_)))
 refine sc call239 (h.mono fun e w8 ⟨r4,k,h⟩=>⟨_,k,?_⟩)
 obtain ⟨z1,hv1,h⟩:=h
 refine q2 (vi z1) (vI (args:=#[(vi depth1),(vi r4)]) (by kernel_rfl) (fun _=>rfl) hv1) (q (zB (xW (zK (rg (qb (ln ?_)))))))
 exact ⟨((q6.wrap (size1+r3)),z1,(q6.wrap (x1+1)),w8),⟨rfl,hm,h.1⟩,h.2⟩
 refine vO (uU (uU (uY (zK (eg (q0 (vi depth1) (q0 (vi (q6.wrap (depth1+1))) (q0 (vi (q6.wrap (depth1+1))) (ln ?_)))))))))
 refine zA (eg (qc ?_))
 obtain ⟨hg1,h⟩|⟨hg1,h⟩:=h.br
 refine sj 80 hg1 (sj 80 hg1 (q2 (vb true) (xT hg1) (ln (uK (by kernel_rfl) (eg (q0 (vi 0) (q0 (vi 0) (q0 (vi 52) (zB ?_)))))))))
 refine zK (er (vF (jKU (.inl rfl) results167 (v:=(vi 0)) (by kernel_rfl) (v':=(vi 0)) (by kernel_rfl) (v'':=(vi 52)) (by kernel_rfl) ?_)))
 exact ⟨0,0,52,rfl,h⟩
 refine qk 80 hg1 (qk 80 hg1 (q2 (vb (decide ((q6.wrap (depth1+1))>64))) (xF hg1) (ln ?_)))
 refine cbr h ?_ ?_<;>intro h
 refine eg (qc (ln (er (vF (jKU (.inl rfl) results167 (v:=(vi 0)) (by kernel_rfl) (v':=(vi 0)) (by kernel_rfl) (v'':=(vi 52)) (by kernel_rfl) ?_)))))
 exact ⟨0,0,52,rfl,h⟩
 refine zC (zK (eg (q (qd (ln (er ?_))))))
 refine jKU (.inl rfl) results167 (v:=(vi size1)) (by kernel_rfl) (v':=(vi (q6.wrap (depth1+1)))) (by kernel_rfl) (v'':=(vi 0)) (by kernel_rfl) ?_
 exact ⟨size1,(q6.wrap (depth1+1)),0,rfl,h⟩
 refine eg (qb (ln ?_))
 refine cbr h ?_ ?_<;>intro h
 refine rg ?_
 obtain ⟨vfrom1,vto1,vnum1,vtext1,vkids1,hv9,h⟩:=h
 refine qa (isAgg271 _) (sizeOf271 _) hv9 ?_
 obtain ⟨aO,aP,aQ,aR,aS,bN,bO,hv8,h⟩:=h
 refine qa (isAgg127 _) (sizeOf127 _) hv8 ?_
 refine sc call185 (h.mono fun e w9 ⟨r5,k,h⟩=>⟨_,k,?_⟩)
 refine q (ln ?_)
 exact ⟨r5,hm,h⟩
 refine zC (zK ?_)
 exact ⟨e1,hm,h⟩
 refine eg (qc ?_)
 obtain ⟨hg2,h⟩|⟨hg2,h⟩:=h.br
 refine qk 20 hg2 ?_
 obtain ⟨v5,hv13,h⟩:=h
 refine q4 20 hg2 (xl (isAgg3 _) hv13) (qk 20 hg2 (qk 20 hg2 ?_))
 refine zI 4 (fun ρ w=>∃x2:Bool,Has ρ [(0,(vp p1)),(3,(vp (some p2))),(7,(vp (some p3))),(8,(vi r1)),(20,(vb (r1 == 0))),(28,(vb x2))]∧m_F_j4 p1 p2 r1 p3 x2 w K) ?_ ?_
 rintro ρ w ⟨x2,hH,h⟩
 refine zM hH ?_
 obtain ⟨hg3,h⟩|⟨hg3,h⟩:=h.br
 refine qk 20 hg3 ?_
 obtain ⟨hg4,h⟩|⟨hg4,h⟩:=h.br
 refine sj 29 hg4 (sj 29 hg4 (sj 29 hg4 (sj 29 hg4 (sm (sm (sm (sj 29 hg4 (stq (v:=(vb true)) (wy 20 hg3) (xT hg4) (q2 (vb true) (xT hg3) (ln ?_))))))))))
 refine uK (by kernel_rfl) (rg (q0 (vi 53) (ln ?_)))
 exact ⟨53,hm,h⟩
 refine qk 29 hg4 ?_
 obtain ⟨v6,hv11,h⟩:=h
 refine q4 29 hg4 (xl (isAgg3 _) hv11) (qk 29 hg4 (qk 29 hg4 ?_))
 refine zI 4 (fun ρ w=>∃x3:Bool,Has ρ [(0,(vp p1)),(3,(vp (some p2))),(7,(vp (some p3))),(8,(vi r1)),(20,(vb (r1 == 0))),(29,(vb x2)),(37,(vb x3))]∧m_F_j5 p1 p2 r1 p3 x2 x3 w K) ?_ ?_
 rintro ρ w ⟨x3,hH,h⟩
 refine zM hH ?_
 obtain ⟨hg5,h⟩|⟨hg5,h⟩:=h.br
 obtain ⟨hg6,h⟩|⟨hg6,h⟩:=h.br
 refine stq (v:=(vb true)) (wy 20 hg5) (xT hg6) (q2 (vb true) (xT hg5) (ln (uK (by kernel_rfl) (rg (q0 (vi 53) (ln ?_))))))
 exact ⟨53,hm,h⟩
 refine stq (v:=(vb x3)) (wy 20 hg5) (xF hg6) (q2 (vb x3) (xT hg5) (ln ?_))
 refine cbr h ?_ ?_<;>intro h
 refine rg (q (ln ?_))
 exact ⟨53,hm,h⟩
 refine zC (zK ?_)
 exact ⟨r1,hm,h⟩
 refine sj 20 hg5 (q2 (vb false) (xF hg5) (ln (uL (by kernel_rfl) (zC (zK ?_)))))
 exact ⟨r1,hm,h⟩
 obtain ⟨hg7,h⟩|⟨hg7,h⟩:=h.br
 refine qk 33 hg7 ?_
 obtain ⟨v7,hv10,h⟩:=h
 refine q4 33 hg7 (xl (isAgg78 _) hv10) (qk 33 hg7 (stq (v:=(vb (v7 != 0))) (wy 29 hg4) (xT hg7) (zB ?_)))
 exact ⟨(v7 != 0),hm,h⟩
 refine sj 33 hg7 (sj 33 hg7 (sj 33 hg7 (stq (v:=(vb false)) (wy 29 hg4) (xF hg7) (zB ?_))))
 exact ⟨false,hm,h⟩
 refine sj 20 hg3 (sm (sm (sm (sm (sm (sm (sm (sm (sj 20 hg3 (q2 (vb false) (xF hg3) (zB ?_)))))))))))
 refine zK (uL (by kernel_rfl) (zC (zK ?_)))
 exact ⟨r1,hm,h⟩
 obtain ⟨hg8,h⟩|⟨hg8,h⟩:=h.br
 refine qk 24 hg8 ?_
 obtain ⟨v8,hv12,h⟩:=h
 refine q4 24 hg8 (xl (isAgg78 _) hv12) (qk 24 hg8 (stq (v:=(vb (v8 != 0))) (wy 20 hg2) (xT hg8) (zB ?_)))
 exact ⟨(v8 != 0),hm,h⟩
 refine sj 24 hg8 (sj 24 hg8 (sj 24 hg8 (stq (v:=(vb false)) (wy 20 hg2) (xF hg8) (zB ?_))))
 exact ⟨false,hm,h⟩
 refine sj 20 hg2 (sj 20 hg2 (sj 20 hg2 (sj 20 hg2 (sm (sm (sm (sj 20 hg2 (sj 20 hg2 (sm (sm (sm ?_)))))))))))
 refine sm (sm (sm (sm (sm (sj 20 hg2 (q2 (vb false) (xF hg2) (ln (uL (by kernel_rfl) (zC (zK ?_))))))))))
 exact ⟨r1,hm,h⟩
def m_Z3 (aT aU:Int) (aV aW:Int) (aX:ByteArray) (aY:Sl) (w:World) (K:Int→Int→Int→Int→ByteArray→Int→Int→WP):Prop :=∀(p1:Addr) (w1:World),New w (.cells #[(vi aT),(vi aU),(vi aV),(vu aW),(vs aX),aY.v] 76) p1 w1→∀(p2:Addr) (w2:World),New w1 (.cells #[(vi 0),(vi 0),(vi 0),(vu 0),ve,(vi 0),(vi 0)] 127) p2 w2→∃v1:Int,w2.cell? p1=some (vi v1)∧∃v2:Int,w2.cell? (p1.add 1)=some (vi v2)∧∃v3:Int,w2.cell? (p1.add 2)=some (vi v3)∧∃v4:Int,w2.cell? (p1.add 3)=some (vu v4)∧∃v5:ByteArray,w2.cell? (p1.add 4)=some (vs v5)∧(∀j,j<7→CanW w2 (p2.add j))∧∀w3:World,w3=storeRow w2 p2 [(vi v1),(vi v2),(vi v3),(vu v4),(vs v5),(vi 0),(vi 0)]→∃bU bV:Int,∃bW bX:Int,∃bY:ByteArray,∃bZ cA:Int,Row w3 p2 [(vi bU),(vi bV),(vi bW),(vu bX),(vs bY),(vi bZ),(vi cA)]∧K bU bV bW bX bY bZ cA w3
theorem w_Z3 (aT aU:Int) (aV aW:Int) (aX:ByteArray) (aY:Sl) (w:World) (K:Int→Int→Int→Int→ByteArray→Int→Int→WP) (h:m_Z3 aT aU aV aW aX aY w K) :
  Calls prog 183 #[(.agg #[(vi aT),(vi aU),(vi aV),(vu aW),(vs aX),aY.v])] w (fun e w'=>∃aZ bA:Int,∃bB bC:Int,∃bD:ByteArray,∃bE bF:Int,e=.returned (.agg #[(vi aZ),(vi bA),(vi bB),(vu bC),(vs bD),(vi bE),(vi bF)])∧K aZ bA bB bC bD bE bF w'):=by
 refine cw (args:=[(.agg #[(vi aT),(vi aU),(vi aV),(vu aW),(vs aX),aY.v])]) func183 ntmps183 (eg (sn (O:=(.cells #[(vi aT),(vi aU),(vi aV),(vu aW),(vs aX),aY.v] 76)) xb ?_))
 intro p1 w1 hn3
 have h:=h p1 w1 hn3
 refine nw1 h (zQ (zeroValue127 _) rfl) fun p2 w2 h=>?_
 refine ln (eg (q ?_))
 refine ql (isAgg3 _) h fun v1 h=>q ?_
 refine ql (isAgg3 _) h fun v2 h=>q ?_
 refine ql (isAgg3 _) h fun v3 h=>q ?_
 refine ql (isAgg23 _) h fun v4 h=>q ?_
 refine ql (isAgg9 _) h fun v5 h=>q ?_
 refine sro (sizeOf127 _) h fun w3 h=>?_
 refine ln (er ?_)
 obtain ⟨bU,bV,bW,bX,bY,bZ,cA,hv1,h⟩:=h
 refine gg1 results183 (rva (isAgg127 _) (sizeOf127 _) hv1) ⟨bU,bV,bW,bX,bY,bZ,cA,rfl,h⟩
def m_E_j3 (p1 p2 p3:Addr) (x3:Bool) (w:World) (K:Bool→Bool→Bool→Bool→Int→Int→WP):Prop :=Br x3 (∃vfrom1 vto1:Bool,∃vnum1 vtext1:Bool,∃vkids1:Int,Row w p3 [(vb vfrom1),(vb vto1),(vb vnum1),(vb vtext1),(vi vkids1)]∧(∀j,j<5→CanW w (p2.add j))∧∀w6:World,w6=storeRow w p2 [(vb vfrom1),(vb vto1),(vb vnum1),(vb vtext1),(vi vkids1)]→∃qfrom1 qto1:Bool,∃qnum1 qtext1:Bool,∃qkids1:Int,Row w6 p2 [(vb qfrom1),(vb qto1),(vb qnum1),(vb qtext1),(vi qkids1)]∧K qfrom1 qto1 qnum1 qtext1 qkids1 53 w6) (∃v2:Bool,w.cell? (p3.add 3)=some (vb v2)∧Br (!v2) (∃v3:ByteArray,w.cell? (p1.add 4)=some (vs v3)∧Br (!(decide (v3=⟨#[]⟩))) (∃vfrom2 vto2:Bool,∃vnum2 vtext2:Bool,∃vkids2:Int,Row w p3 [(vb vfrom2),(vb vto2),(vb vnum2),(vb vtext2),(vi vkids2)]∧(∀j,j<5→CanW w (p2.add j))∧∀w7:World,w7=storeRow w p2 [(vb vfrom2),(vb vto2),(vb vnum2),(vb vtext2),(vi vkids2)]→∃qfrom2 qto2:Bool,∃qnum2 qtext2:Bool,∃qkids2:Int,Row w7 p2 [(vb qfrom2),(vb qto2),(vb qnum2),(vb qtext2),(vi qkids2)]∧K qfrom2 qto2 qnum2 qtext2 qkids2 53 w7) (∃vfrom3 vto3:Bool,∃vnum3 vtext3:Bool,∃vkids3:Int,Row w p3 [(vb vfrom3),(vb vto3),(vb vnum3),(vb vtext3),(vi vkids3)]∧(∀j,j<5→CanW w (p2.add j))∧∀w8:World,w8=storeRow w p2 [(vb vfrom3),(vb vto3),(vb vnum3),(vb vtext3),(vi vkids3)]→∃qfrom3 qto3:Bool,∃qnum3 qtext3:Bool,∃qkids3:Int,Row w8 p2 [(vb qfrom3),(vb qto3),(vb qnum3),(vb qtext3),(vi qkids3)]∧K qfrom3 qto3 qnum3 qtext3 qkids3 0 w8)) (∃vfrom4 vto4:Bool,∃vnum4 vtext4:Bool,∃vkids4:Int,Row w p3 [(vb vfrom4),(vb vto4),(vb vnum4),(vb vtext4),(vi vkids4)]∧(∀j,j<5→CanW w (p2.add j))∧∀w9:World,w9=storeRow w p2 [(vb vfrom4),(vb vto4),(vb vnum4),(vb vtext4),(vi vkids4)]→∃qfrom4 qto4:Bool,∃qnum4 qtext4:Bool,∃qkids4:Int,Row w9 p2 [(vb qfrom4),(vb qto4),(vb qnum4),(vb qtext4),(vi qkids4)]∧K qfrom4 qto4 qnum4 qtext4 qkids4 0 w9))
def m_E_j4 (p1 p2 p3:Addr) (x2 x4:Bool) (w:World) (K:Bool→Bool→Bool→Bool→Int→Int→WP):Prop :=Br x2 (m_E_j3 p1 p2 p3 true w K) (m_E_j3 p1 p2 p3 x4 w K)
def m_E_j2 (p1 p2 p3:Addr) (x2:Bool) (w:World) (K:Bool→Bool→Bool→Bool→Int→Int→WP):Prop :=Br x2 (m_E_j3 p1 p2 p3 true w K) (∃v4:Bool,w.cell? (p3.add 2)=some (vb v4)∧Br (!v4) (∃v5:Int,w.cell? (p1.add 3)=some (vu v5)∧m_E_j4 p1 p2 p3 x2 (v5 != 0) w K) (m_E_j4 p1 p2 p3 x2 false w K))
def m_E_j5 (p1 p2 p3:Addr) (x1 x5:Bool) (w:World) (K:Bool→Bool→Bool→Bool→Int→Int→WP):Prop :=Br x1 (m_E_j2 p1 p2 p3 true w K) (m_E_j2 p1 p2 p3 x5 w K)
def m_E_j1 (p1 p2 p3:Addr) (x1:Bool) (w:World) (K:Bool→Bool→Bool→Bool→Int→Int→WP):Prop :=Br x1 (m_E_j2 p1 p2 p3 true w K) (∃v6:Bool,w.cell? (p3.add 1)=some (vb v6)∧Br (!v6) (∃v7:Int,w.cell? (p1.add 2)=some (vi v7)∧m_E_j5 p1 p2 p3 x1 (v7 != 0) w K) (m_E_j5 p1 p2 p3 x1 false w K))
def m_E_j6 (p1 p2:Addr) (r1:Bool) (p3:Addr) (x6:Bool) (w:World) (K:Bool→Bool→Bool→Bool→Int→Int→WP):Prop :=Br (!r1) (m_E_j1 p1 p2 p3 true w K) (m_E_j1 p1 p2 p3 x6 w K)
def m_E (aH aI:Int) (aJ aK:Int) (aL:ByteArray) (aM aN:Int) (w:World) (K:Bool→Bool→Bool→Bool→Int→Int→WP):Prop :=∀(p1:Addr) (w1:World),New w (.cells #[(vi aH),(vi aI),(vi aJ),(vu aK),(vs aL),(vi aM),(vi aN)] 127) p1 w1→∀(p2:Addr) (w2:World),New w1 (.cells #[(vb false),(vb false),(vb false),(vb false),(vi 0)] 271) p2 w2→∃v1:Int,w2.cell? p1=some (vi v1)∧Calls prog 274 #[(vi v1)] w2 (fun e w3=>∃rfrom1 rto1:Bool,∃rnum1 rtext1:Bool,∃rkids1:Int,∃r1:Bool,e=.returned (.tuple #[(.agg #[(vb rfrom1),(vb rto1),(vb rnum1),(vb rtext1),(vi rkids1)]),(vb r1)])∧∀(p3:Addr) (w4:World),New w3 (.cells #[(vb false),(vb false),(vb false),(vb false),(vi 0)] 271) p3 w4→(∀j,j<5→CanW w4 (p3.add j))∧∀w5:World,w5=storeRow w4 p3 [(vb rfrom1),(vb rto1),(vb rnum1),(vb rtext1),(vi rkids1)]→Br (!r1) (m_E_j1 p1 p2 p3 true w5 K) (∃v8:Bool,w5.cell? p3=some (vb v8)∧Br (!v8) (∃v9:Int,w5.cell? (p1.add 1)=some (vi v9)∧m_E_j6 p1 p2 r1 p3 (v9 != 0) w5 K) (m_E_j6 p1 p2 r1 p3 false w5 K)))
theorem w_E (aH aI:Int) (aJ aK:Int) (aL:ByteArray) (aM aN:Int) (w:World) (K:Bool→Bool→Bool→Bool→Int→Int→WP) (h:m_E aH aI aJ aK aL aM aN w K) :
  Calls prog 184 #[(.agg #[(vi aH),(vi aI),(vi aJ),(vu aK),(vs aL),(vi aM),(vi aN)])] w (fun e w'=>∃rfrom2 rto2:Bool,∃rnum2 rtext2:Bool,∃rkids2 r2:Int,e=.returned (.tuple #[(.agg #[(vb rfrom2),(vb rto2),(vb rnum2),(vb rtext2),(vi rkids2)]),(vi r2)])∧K rfrom2 rto2 rnum2 rtext2 rkids2 r2 w'):=by
 refine cw (args:=[(.agg #[(vi aH),(vi aI),(vi aJ),(vu aK),(vs aL),(vi aM),(vi aN)])]) func184 ntmps184 (eg (sn (O:=(.cells #[(vi aH),(vi aI),(vi aJ),(vu aK),(vs aL),(vi aM),(vi aN)] 127)) xb ?_))
 intro p1 w1 hn8
 have h:=h p1 w1 hn8
 refine nw1 h (zQ (zeroValue271 _) rfl) fun p2 w2 h=>?_
 refine q (ln (eg (q ?_)))
 refine ql (isAgg3 _) h fun v1 h=>?_
 refine sc call274 (h.mono fun e w3 ⟨rfrom1,rto1,rnum1,rtext1,rkids1,r1,k,h⟩=>⟨_,k,?_⟩)
 refine qc (nw1 h (zQ (zeroValue271 _) rfl) fun p3 w4 h=>?_)
 refine sro (sizeOf271 _) h fun w5 h=>?_
 refine q (ln (zA (eg (qc ?_))))
 refine zI 9 (fun ρ w=>∃x1:Bool,Has ρ [(1,(vp (some p1))),(2,(vp (some p2))),(4,(vp (some p3))),(23,(vb x1))]∧m_E_j1 p1 p2 p3 x1 w K) ?_ ?_
 rintro ρ w ⟨x1,hH,h⟩
 refine zM hH ?_
 refine q ?_
 refine zI 9 (fun ρ w=>∃x2:Bool,Has ρ [(1,(vp (some p1))),(2,(vp (some p2))),(4,(vp (some p3))),(33,(vb x2))]∧m_E_j2 p1 p2 p3 x2 w K) ?_ ?_
 rintro ρ w ⟨x2,hH,h⟩
 refine zM hH ?_
 refine q ?_
 refine zI 9 (fun ρ w=>∃x3:Bool,Has ρ [(1,(vp (some p1))),(2,(vp (some p2))),(4,(vp (some p3))),(43,(vb x3))]∧m_E_j3 p1 p2 p3 x3 w K) ?_ ?_
 rintro ρ w ⟨x3,hH,h⟩
 refine zM hH ?_
 refine q ?_
 obtain ⟨hg1,h⟩|⟨hg1,h⟩:=h.br
 refine sj 44 hg1 (sj 44 hg1 (sj 44 hg1 (sj 44 hg1 (sm (sm (sm (sj 44 hg1 (q2 (vb true) (xT hg1) (ln (uK (by kernel_rfl) ?_))))))))))
 refine eg ?_
 obtain ⟨vfrom1,vto1,vnum1,vtext1,vkids1,hv2,h⟩:=h
 refine qa (isAgg271 _) (sizeOf271 _) hv2 ?_
 refine sro (sizeOf271 _) h fun w6 h=>?_
 refine q (ln (er (vF ?_)))
 obtain ⟨qfrom1,qto1,qnum1,qtext1,qkids1,hv1,h⟩:=h
 refine gg2 results184 (rva (isAgg271 _) (sizeOf271 _) hv1) (rvU (vi 53)) ⟨qfrom1,qto1,qnum1,qtext1,qkids1,53,rfl,h⟩
 refine qk 44 hg1 ?_
 obtain ⟨v2,hv10,h⟩:=h
 refine q4 44 hg1 (xl (isAgg4 _) hv10) (qk 44 hg1 (qk 44 hg1 ?_))
 obtain ⟨hg2,h⟩|⟨hg2,h⟩:=h.br
 refine qk 48 hg2 ?_
 obtain ⟨v3,hv7,h⟩:=h
 refine q4 48 hg2 (xl (isAgg9 _) hv7) (stq (v:=(vb (!(decide (v3=⟨#[]⟩))))) (wy 48 hg2) (jDQ (by kernel_rfl) (by kernel_rfl)) (stq (v:=(vb (!(decide (v3=⟨#[]⟩))))) (wy 44 hg1) (xT hg2) (q2 (vb (!(decide (v3=⟨#[]⟩)))) (xF hg1) (ln ?_))))
 refine cbr h ?_ ?_<;>intro h
 refine eg ?_
 obtain ⟨vfrom2,vto2,vnum2,vtext2,vkids2,hv4,h⟩:=h
 refine qa (isAgg271 _) (sizeOf271 _) hv4 ?_
 refine sro (sizeOf271 _) h fun w7 h=>?_
 refine q (ln (er (vF ?_)))
 obtain ⟨qfrom2,qto2,qnum2,qtext2,qkids2,hv3,h⟩:=h
 refine gg2 results184 (rva (isAgg271 _) (sizeOf271 _) hv3) (rvU (vi 53)) ⟨qfrom2,qto2,qnum2,qtext2,qkids2,53,rfl,h⟩
 refine zC (zK (eg ?_))
 obtain ⟨vfrom3,vto3,vnum3,vtext3,vkids3,hv6,h⟩:=h
 refine qa (isAgg271 _) (sizeOf271 _) hv6 ?_
 refine sro (sizeOf271 _) h fun w8 h=>?_
 refine q (ln (er ?_))
 obtain ⟨qfrom3,qto3,qnum3,qtext3,qkids3,hv5,h⟩:=h
 refine gg2 results184 (rva (isAgg271 _) (sizeOf271 _) hv5) (rvU (vi 0)) ⟨qfrom3,qto3,qnum3,qtext3,qkids3,0,rfl,h⟩
 refine sj 48 hg2 (sj 48 hg2 (sj 48 hg2 (stq (v:=(vb false)) (wy 44 hg1) (xF hg2) (q2 (vb false) (xF hg1) (ln (uL (by kernel_rfl) (zC (zK (eg ?_)))))))))
 obtain ⟨vfrom4,vto4,vnum4,vtext4,vkids4,hv9,h⟩:=h
 refine qa (isAgg271 _) (sizeOf271 _) hv9 ?_
 refine sro (sizeOf271 _) h fun w9 h=>?_
 refine q (ln (er ?_))
 obtain ⟨qfrom4,qto4,qnum4,qtext4,qkids4,hv8,h⟩:=h
 refine gg2 results184 (rva (isAgg271 _) (sizeOf271 _) hv8) (rvU (vi 0)) ⟨qfrom4,qto4,qnum4,qtext4,qkids4,0,rfl,h⟩
 obtain ⟨hg3,h⟩|⟨hg3,h⟩:=h.br
 refine sj 34 hg3 (sj 34 hg3 (sj 34 hg3 (sj 34 hg3 (sm (sm (sm (sj 34 hg3 (q2 (vb true) (xT hg3) (zB ?_)))))))))
 exact ⟨true,hm,h⟩
 refine qk 34 hg3 ?_
 obtain ⟨v4,hv12,h⟩:=h
 refine q4 34 hg3 (xl (isAgg4 _) hv12) (qk 34 hg3 (qk 34 hg3 ?_))
 refine zI 4 (fun ρ w=>∃x4:Bool,Has ρ [(1,(vp (some p1))),(2,(vp (some p2))),(4,(vp (some p3))),(34,(vb x2)),(42,(vb x4))]∧m_E_j4 p1 p2 p3 x2 x4 w K) ?_ ?_
 rintro ρ w ⟨x4,hH,h⟩
 refine zM hH ?_
 obtain ⟨hg4,h⟩|⟨hg4,h⟩:=h.br
 refine q2 (vb true) (xT hg4) (zB ?_)
 exact ⟨true,hm,h⟩
 refine q2 (vb x4) (xF hg4) (zB ?_)
 exact ⟨x4,hm,h⟩
 obtain ⟨hg5,h⟩|⟨hg5,h⟩:=h.br
 refine qk 38 hg5 ?_
 obtain ⟨v5,hv11,h⟩:=h
 refine q4 38 hg5 (xl (isAgg23 _) hv11) (qk 38 hg5 (stq (v:=(vb (v5 != 0))) (wy 34 hg3) (xT hg5) (zB ?_)))
 exact ⟨(v5 != 0),hm,h⟩
 refine sj 38 hg5 (sj 38 hg5 (sj 38 hg5 (stq (v:=(vb false)) (wy 34 hg3) (xF hg5) (zB ?_))))
 exact ⟨false,hm,h⟩
 obtain ⟨hg6,h⟩|⟨hg6,h⟩:=h.br
 refine sj 24 hg6 (sj 24 hg6 (sj 24 hg6 (sj 24 hg6 (sm (sm (sm (sj 24 hg6 (q2 (vb true) (xT hg6) (zB ?_)))))))))
 exact ⟨true,hm,h⟩
 refine qk 24 hg6 ?_
 obtain ⟨v6,hv14,h⟩:=h
 refine q4 24 hg6 (xl (isAgg4 _) hv14) (qk 24 hg6 (qk 24 hg6 ?_))
 refine zI 4 (fun ρ w=>∃x5:Bool,Has ρ [(1,(vp (some p1))),(2,(vp (some p2))),(4,(vp (some p3))),(24,(vb x1)),(32,(vb x5))]∧m_E_j5 p1 p2 p3 x1 x5 w K) ?_ ?_
 rintro ρ w ⟨x5,hH,h⟩
 refine zM hH ?_
 obtain ⟨hg7,h⟩|⟨hg7,h⟩:=h.br
 refine q2 (vb true) (xT hg7) (zB ?_)
 exact ⟨true,hm,h⟩
 refine q2 (vb x5) (xF hg7) (zB ?_)
 exact ⟨x5,hm,h⟩
 obtain ⟨hg8,h⟩|⟨hg8,h⟩:=h.br
 refine qk 28 hg8 ?_
 obtain ⟨v7,hv13,h⟩:=h
 refine q4 28 hg8 (xl (isAgg3 _) hv13) (qk 28 hg8 (stq (v:=(vb (v7 != 0))) (wy 24 hg6) (xT hg8) (zB ?_)))
 exact ⟨(v7 != 0),hm,h⟩
 refine sj 28 hg8 (sj 28 hg8 (sj 28 hg8 (stq (v:=(vb false)) (wy 24 hg6) (xF hg8) (zB ?_))))
 exact ⟨false,hm,h⟩
 obtain ⟨hg9,h⟩|⟨hg9,h⟩:=h.br
 refine sj 14 hg9 (sj 14 hg9 (sj 14 hg9 (sj 14 hg9 (sm (sm (sm (sj 14 hg9 (q2 (vb true) (xT hg9) (zB ?_)))))))))
 exact ⟨true,hm,h⟩
 refine qk 14 hg9 ?_
 obtain ⟨v8,hv16,h⟩:=h
 refine q4 14 hg9 (xl (isAgg4 _) hv16) (qk 14 hg9 (qk 14 hg9 ?_))
 refine zI 4 (fun ρ w=>∃x6:Bool,Has ρ [(1,(vp (some p1))),(2,(vp (some p2))),(4,(vp (some p3))),(14,(vb (!r1))),(22,(vb x6))]∧m_E_j6 p1 p2 r1 p3 x6 w K) ?_ ?_
 rintro ρ w ⟨x6,hH,h⟩
 refine zM hH ?_
 obtain ⟨hg10,h⟩|⟨hg10,h⟩:=h.br
 refine q2 (vb true) (xT hg10) (zB ?_)
 exact ⟨true,hm,h⟩
 refine q2 (vb x6) (xF hg10) (zB ?_)
 exact ⟨x6,hm,h⟩
 obtain ⟨hg11,h⟩|⟨hg11,h⟩:=h.br
 refine qk 18 hg11 ?_
 obtain ⟨v9,hv15,h⟩:=h
 refine q4 18 hg11 (xl (isAgg3 _) hv15) (qk 18 hg11 (stq (v:=(vb (v9 != 0))) (wy 14 hg9) (xT hg11) (zB ?_)))
 exact ⟨(v9 != 0),hm,h⟩
 refine sj 18 hg11 (sj 18 hg11 (sj 18 hg11 (stq (v:=(vb false)) (wy 14 hg9) (xF hg11) (zB ?_))))
 exact ⟨false,hm,h⟩
def m_C1_j1 (p1 p2:Addr) (x1:Bool) (w:World) (K:Int→WP):Prop :=Br x1 (K 50 w) (∃v1:Bool,w.cell? (p1.add 1)=some (vb v1)∧Br v1 (∃v2:Int,w.cell? (p2.add 2)=some (vi v2)∧Calls prog 275 #[(vi v2)] w (fun e w3=>∃r1:Bool,e=.returned (vb r1)∧Br (!r1) (K 50 w3) (∃v3:Int,w3.cell? (p2.add 2)=some (vi v3)∧∃v4:Int,w3.cell? (p2.add 1)=some (vi v4)∧Br (v3 == v4) (K 50 w3) (∃v5:ByteArray,w3.cell? (p2.add 4)=some (vs v5)∧Br (decide ((v5.size:Int)>64)) (K 1 w3) (K 0 w3))))) (∃v6:ByteArray,w.cell? (p2.add 4)=some (vs v6)∧Br (decide ((v6.size:Int)>64)) (K 1 w) (K 0 w)))
def m_C1 (sfrom1 sto1:Bool) (snum1 stext1:Bool) (skids1 aH:Int) (aI aJ aK:Int) (aL:ByteArray) (aM aN:Int) (w:World) (K:Int→WP):Prop :=∀(p1:Addr) (w1:World),New w (.cells #[(vb sfrom1),(vb sto1),(vb snum1),(vb stext1),(vi skids1)] 271) p1 w1→∀(p2:Addr) (w2:World),New w1 (.cells #[(vi aH),(vi aI),(vi aJ),(vu aK),(vs aL),(vi aM),(vi aN)] 127) p2 w2→∃v7:Bool,w2.cell? p1=some (vb v7)∧Br v7 (∃v8:Int,w2.cell? (p2.add 1)=some (vi v8)∧Calls prog 275 #[(vi v8)] w2 (fun e w4=>∃r2:Bool,e=.returned (vb r2)∧m_C1_j1 p1 p2 (!r2) w4 K)) (m_C1_j1 p1 p2 false w2 K)
theorem w_C1 (sfrom1 sto1:Bool) (snum1 stext1:Bool) (skids1 aH:Int) (aI aJ aK:Int) (aL:ByteArray) (aM aN:Int) (w:World) (K:Int→WP) (h:m_C1 sfrom1 sto1 snum1 stext1 skids1 aH aI aJ aK aL aM aN w K) :
  Calls prog 185 #[(.agg #[(vb sfrom1),(vb sto1),(vb snum1),(vb stext1),(vi skids1)]),(.agg #[(vi aH),(vi aI),(vi aJ),(vu aK),(vs aL),(vi aM),(vi aN)])] w (fun e w'=>∃r3:Int,e=.returned (vi r3)∧K r3 w'):=by
 refine cw (args:=[(.agg #[(vb sfrom1),(vb sto1),(vb snum1),(vb stext1),(vi skids1)]),(.agg #[(vi aH),(vi aI),(vi aJ),(vu aK),(vs aL),(vi aM),(vi aN)])]) func185 ntmps185 (eg (sn (O:=(.cells #[(vb sfrom1),(vb sto1),(vb snum1),(vb stext1),(vi skids1)] 271)) xb ?_))
 intro p1 w1 hn2
 have h:=h p1 w1 hn2
 refine nw1 h xb fun p2 w2 h=>?_
 refine q (ln (zA (zJ (zA ?_))))
 refine tY (fun ρ w=>∃x1:Bool,Has ρ [(2,(vp (some p1))),(3,(vp (some p2))),(5,(vb x1))]∧m_C1_j1 p1 p2 x1 w K) ?_ ?_
 rintro ρ w ⟨x1,hH,h⟩
 refine zW hH ?_
 refine cbr' h (fun hc1 h=>?_) (fun hc1 h=>?_)
 refine zC (zK (jAA (t:=x1) (by kernel_rfl) hc1 (eg (q0 (vi 50) (ln (er (uC (vF (rs1 results185 ⟨50,rfl,h⟩)))))))))
 refine rg (q ?_)
 refine ql (isAgg4 _) h fun v1 h=>q ?_
 obtain ⟨hg1,h⟩|⟨hg1,h⟩:=h.br
 refine qk 16 hg1 ?_
 obtain ⟨v2,hv4,h⟩:=h
 refine q4 16 hg1 (xl (isAgg3 _) hv4) ?_
 refine kZ (wy 16 hg1) (xc call275) (h.mono ?_)
 rintro e w3 ⟨r1,rfl,h⟩
 refine ⟨_,rfl,?_⟩
 refine qk 16 hg1 (qk 16 hg1 ?_)
 obtain ⟨hg2,h⟩|⟨hg2,h⟩:=h.br
 refine sj 21 hg2 (sj 21 hg2 (sj 21 hg2 (sj 21 hg2 (sj 21 hg2 (stq (v:=(vb true)) (wy 16 hg1) (xT hg2) (q2 (vb true) (xT hg1) (q (ln (uK (by kernel_rfl) (zA ?_))))))))))
 refine rg (q (ln (er (uC (vF (rs1 results185 ⟨50,rfl,h⟩))))))
 refine qk 21 hg2 ?_
 obtain ⟨v3,hv3,h⟩:=h
 refine q4 21 hg2 (xl (isAgg3 _) hv3) (qk 21 hg2 ?_)
 obtain ⟨v4,hv2,h⟩:=h
 refine q4 21 hg2 (xl (isAgg3 _) hv2) (qk 21 hg2 (stq (v:=(vb (v3 == v4))) (wy 16 hg1) (xF hg2) (q2 (vb (v3 == v4)) (xT hg1) (q (ln ?_)))))
 refine cbr h ?_ ?_<;>intro h
 refine eg (q (ln (er (uC (vF (rs1 results185 ⟨50,rfl,h⟩))))))
 refine eg (q ?_)
 refine ql (isAgg9 _) h fun v5 h=>qc (ln ?_)
 refine cbr h ?_ ?_<;>intro h
 refine eg (q (ln (er (uC (vF (rs1 results185 ⟨1,rfl,h⟩))))))
 refine zC (xW (zK (eg (q (ln (er (rs1 results185 ⟨0,rfl,h⟩)))))))
 refine sj 16 hg1 (sj 16 hg1 (sj 16 hg1 (sj 16 hg1 (sj 16 hg1 (sm (sm (sm (sm (sm (sj 16 hg1 (q2 (vb false) (xF hg1) ?_)))))))))))
 refine q (ln (uL (by kernel_rfl) (eg (q0 (vp (some (p2.add 4))) ?_))))
 refine ql (isAgg9 _) h fun v6 h=>qc (ln ?_)
 refine cbr h ?_ ?_<;>intro h
 refine eg (q (ln (er (uC (vF (rs1 results185 ⟨1,rfl,h⟩))))))
 refine zC (xW (zK (eg (q (ln (er (rs1 results185 ⟨0,rfl,h⟩)))))))
 refine rg (q ?_)
 refine ql (isAgg4 _) h fun v7 h=>q ?_
 obtain ⟨hg3,h⟩|⟨hg3,h⟩:=h.br
 refine qk 8 hg3 ?_
 obtain ⟨v8,hv7,h⟩:=h
 refine q4 8 hg3 (xl (isAgg3 _) hv7) ?_
 refine kZ (wy 8 hg3) (xc call275) (h.mono ?_)
 rintro e w4 ⟨r2,rfl,h⟩
 refine ⟨_,rfl,?_⟩
 refine qk 8 hg3 (q2 (vb (!r2)) (xT hg3) (q (ln ?_)))
 exact ⟨(!r2),hm,h⟩
 refine sj 8 hg3 (sj 8 hg3 (sj 8 hg3 (sj 8 hg3 (q2 (vb false) (xF hg3) (q (ln ?_))))))
 exact ⟨false,hm,h⟩
def m_A4 (p1:Option Addr) (t1:Int) (w:World) (K:Sl→WP):Prop :=∀(p2:Addr) (w1:World),New w (.cells #[(vp p1)] 91) p2 w1→∀(p3:Addr) (w2:World),New w1 (.cells #[Sl.nil.v] 54) p3 w2→∀(p4:Addr) (w3:World),New w2 (.map #[] 0) p4 w3→∀(p5:Addr) (w4:World),New w3 (.cells #[(.map none)] 245) p5 w4→CanW w4 p5∧∀w5:World,w5=w4.setCell p5 (.map (some p4.block))→∀(p6:Addr) (w6:World),New w5 (.cells #[(.nilFunc:Value)] 202) p6 w6→CanW w6 p6∧∀w7:World,w7=w6.setCell p6 (.func (.func 276) #[] #[(vp (some p5)),(vp (some p2)),(vp (some p6)),(vp (some p3))])→∃v1:Option Addr,w7.cell? p2=some (vp v1)∧Calls prog 138 #[(vp v1),(vi t1)] w7 (fun e w8=>∃r1:Bool,e=.returned (vb r1)∧Br r1 (∃v2:Value,w8.cell? p6=some v2∧∃(f1:FuncId) (fs1 cs1:Array Value),v2=.func (.func f1) fs1 cs1∧(∀args w,(callFunc f1 args).run prog w=.ok (.enter f1 args) w)∧Calls prog f1 (fs1++#[(vi t1)]++cs1) w8 (fun e w9=>e=.returned (.tuple #[])∧∃v3:Sl,w9.cell? p3=some v3.v∧K v3 w9)) (∃v4:Sl,w8.cell? p3=some v4.v∧K v4 w8))
theorem w_A4 (p1:Option Addr) (t1:Int) (w:World) (K:Sl→WP) (h:m_A4 p1 t1 w K) :
  Calls prog 187 #[(vp p1),(vi t1)] w (fun e w'=>∃r2:Sl,e=.returned r2.v∧K r2 w'):=by
 refine cw (args:=[(vp p1),(vi t1)]) func187 ntmps187 (eg (sn (O:=(.cells #[(vp p1)] 91)) xb ?_))
 intro p2 w1 hn7
 have h:=h p2 w1 hn7
 refine q (ln (eg (nw1 h (zQ (zeroValue54 _) rfl) fun p3 w2 h=>?_)))
 refine ln (eg (nw4 (fun p=>.map (some p.block)) h fun p4 w3 h=>?_))
 refine nw1 h (zQ (zeroValue245 _) rfl) fun p5 w4 h=>?_
 refine st1 (sizeOf245 _) h fun w5 h=>?_
 refine ln (eg (nw1 h (zQ (zeroValue202 _) rfl) fun p6 w6 h=>?_))
 refine ln (eg (q ?_))
 refine st1 (sizeOf202 _) h fun w7 h=>?_
 refine ln (zA (eg ?_))
 refine ql (isAgg91 _) h fun v1 h=>q ?_
 refine sc call138 (h.mono fun e w8 ⟨r1,k,h⟩=>⟨_,k,?_⟩)
 refine ln ?_
 refine cbr h ?_ ?_<;>intro h
 refine rg ?_
 refine ql (isAgg202 _) h fun v2 h=>q ?_
 obtain ⟨f1,fs1,cs1,hp3,h⟩:=h
 obtain ⟨hf1,h⟩:=h
 refine kZ (zL rfl) (lA (fs:=fs1) (caps:=cs1) (args:=#[(vi t1)]) (by kernel_rfl) hp3 hf1 (by kernel_rfl) rfl) (h.mono ?_)
 rintro e w9 ⟨rfl,h⟩
 refine ⟨_,rfl,?_⟩
 refine ln (eg ?_)
 refine ql (isAgg54 _) h fun v3 h=>q (ln (er (rs1 results187 ⟨v3,rfl,h⟩)))
 refine zC (zK (eg ?_))
 refine ql (isAgg54 _) h fun v4 h=>q (ln (er (rs1 results187 ⟨v4,rfl,h⟩)))
def m_B4 (p1:Option Addr) (t1:Int) (w:World) (K:Int→WP):Prop :=Calls prog 138 #[(vp p1),(vi t1)] w (fun e w1=>∃r1:Bool,e=.returned (vb r1)∧Br (!r1) (K 0 w1) (∃a1:Addr,p1=some a1∧∃v1:Sl,w1.cell? a1=some v1.v∧∃a2:Addr,At v1 (q6.wrap (t1 - 1)) 9 a2∧∃v2:Int,w1.cell? (a2.add 7)=some (vi v2)∧K v2 w1))
theorem w_B4 (p1:Option Addr) (t1:Int) (w:World) (K:Int→WP) (h:m_B4 p1 t1 w K) :
  Calls prog 238 #[(vp p1),(vi t1)] w (fun e w'=>∃r2:Int,e=.returned (vi r2)∧K r2 w'):=by
 refine cw (args:=[(vp p1),(vi t1)]) func238 ntmps238 (eg (q0 (vi 0) (ln (zA (eg (q0 (vp p1) (q0 (vi t1) ?_)))))))
 refine sc call138 (h.mono fun e w1 ⟨r1,k,h⟩=>⟨_,k,?_⟩)
 refine q (ln ?_)
 refine cbr h ?_ ?_<;>intro h
 refine eg (q (ln (er (vF (rs1 results238 ⟨0,rfl,h⟩)))))
 refine zC (zK (eg (q ?_)))
 refine qm h fun a1 h=>q ?_
 refine ql (isAgg160 _) h fun v1 h=>qb ?_
 refine qi (runUnderlying160 _) (sizeOf234 _) h fun a2 h=>q ?_
 refine ql (isAgg3 _) h fun v2 h=>q (ln (er (rs1 results238 ⟨v2,rfl,h⟩)))
def m_C4 (p1:Option Addr) (t1:Int) (w:World) (K:Int→WP):Prop :=Calls prog 138 #[(vp p1),(vi t1)] w (fun e w1=>∃r1:Bool,e=.returned (vb r1)∧Br (!r1) (K 0 w1) (∃a1:Addr,p1=some a1∧∃v1:Sl,w1.cell? a1=some v1.v∧∃a2:Addr,At v1 (q6.wrap (t1 - 1)) 9 a2∧∃v2:Int,w1.cell? (a2.add 8)=some (vi v2)∧K v2 w1))
theorem w_C4 (p1:Option Addr) (t1:Int) (w:World) (K:Int→WP) (h:m_C4 p1 t1 w K) :
  Calls prog 239 #[(vp p1),(vi t1)] w (fun e w'=>∃r2:Int,e=.returned (vi r2)∧K r2 w'):=by
 refine cw (args:=[(vp p1),(vi t1)]) func239 ntmps239 (eg (q0 (vi 0) (ln (zA (eg (q0 (vp p1) (q0 (vi t1) ?_)))))))
 refine sc call138 (h.mono fun e w1 ⟨r1,k,h⟩=>⟨_,k,?_⟩)
 refine q (ln ?_)
 refine cbr h ?_ ?_<;>intro h
 refine eg (q (ln (er (vF (rs1 results239 ⟨0,rfl,h⟩)))))
 refine zC (zK (eg (q ?_)))
 refine qm h fun a1 h=>q ?_
 refine ql (isAgg160 _) h fun v1 h=>qb ?_
 refine qi (runUnderlying160 _) (sizeOf234 _) h fun a2 h=>q ?_
 refine ql (isAgg3 _) h fun v2 h=>q (ln (er (rs1 results239 ⟨v2,rfl,h⟩)))
def m_D4 (kind1:Int) (w:World) (K:Bool→Bool→Bool→Bool→Int→Bool→WP):Prop :=∀(p1:Addr) (w1:World),New w (.cells #[(vb false),(vb false),(vb false),(vb false),(vi 0)] 271) p1 w1→Br (decide (kind1<1)) ((∀j,j<5→CanW w1 (p1.add j))∧∀w2:World,w2=storeRow w1 p1 [(vb false),(vb false),(vb false),(vb false),(vi 0)]→∃qfrom1 qto1:Bool,∃qnum1 qtext1:Bool,∃qkids1:Int,Row w2 p1 [(vb qfrom1),(vb qto1),(vb qnum1),(vb qtext1),(vi qkids1)]∧K qfrom1 qto1 qnum1 qtext1 qkids1 false w2) (Br (decide (kind1>9)) ((∀j,j<5→CanW w1 (p1.add j))∧∀w3:World,w3=storeRow w1 p1 [(vb false),(vb false),(vb false),(vb false),(vi 0)]→∃qfrom2 qto2:Bool,∃qnum2 qtext2:Bool,∃qkids2:Int,Row w3 p1 [(vb qfrom2),(vb qto2),(vb qnum2),(vb qtext2),(vi qkids2)]∧K qfrom2 qto2 qnum2 qtext2 qkids2 false w3) (Calls prog 298 #[] w1 (fun e w4=>∃r1:Array Value,e=.returned (.agg r1)∧∃efrom1 eto1:Bool,∃enum1 etext1:Bool,∃ekids1:Int,(Instr.index 337 (.agg r1) (vi kind1)).run prog w4=.ok (.agg #[(vb efrom1),(vb eto1),(vb enum1),(vb etext1),(vi ekids1)]) w4∧(∀j,j<5→CanW w4 (p1.add j))∧∀w5:World,w5=storeRow w4 p1 [(vb efrom1),(vb eto1),(vb enum1),(vb etext1),(vi ekids1)]→∃qfrom3 qto3:Bool,∃qnum3 qtext3:Bool,∃qkids3:Int,Row w5 p1 [(vb qfrom3),(vb qto3),(vb qnum3),(vb qtext3),(vi qkids3)]∧K qfrom3 qto3 qnum3 qtext3 qkids3 true w5)))
theorem w_D4 (kind1:Int) (w:World) (K:Bool→Bool→Bool→Bool→Int→Bool→WP) (h:m_D4 kind1 w K) :
  Calls prog 274 #[(vi kind1)] w (fun e w'=>∃rfrom1 rto1:Bool,∃rnum1 rtext1:Bool,∃rkids1:Int,∃r2:Bool,e=.returned (.tuple #[(.agg #[(vb rfrom1),(vb rto1),(vb rnum1),(vb rtext1),(vi rkids1)]),(vb r2)])∧K rfrom1 rto1 rnum1 rtext1 rkids1 r2 w'):=by
 refine cw (args:=[(vi kind1)]) func274 ntmps274 (eg (sn (O:=(.cells #[(vb false),(vb false),(vb false),(vb false),(vi 0)] 271)) (zQ (zeroValue271 _) rfl) ?_))
 intro p1 w1 hn4
 have h:=h p1 w1 hn4
 refine q (ln (zA (eg (qc ?_))))
 obtain ⟨hg1,h⟩|⟨hg1,h⟩:=h.br
 refine sj 6 hg1 (sj 6 hg1 (q2 (vb true) (xT hg1) (ln (uK (by kernel_rfl) (eg (q0 (.agg #[(vb false),(vb false),(vb false),(vb false),(vi 0)]) ?_))))))
 refine sro (sizeOf271 _) h fun w2 h=>?_
 refine q (ln (er (vF ?_)))
 obtain ⟨qfrom1,qto1,qnum1,qtext1,qkids1,hv1,h⟩:=h
 refine gg2 results274 (rva (isAgg271 _) (sizeOf271 _) hv1) (rvU (vb false)) ⟨qfrom1,qto1,qnum1,qtext1,qkids1,false,rfl,h⟩
 refine qk 6 hg1 (qk 6 hg1 (q2 (vb (decide (kind1>9))) (xF hg1) (ln ?_)))
 refine cbr h ?_ ?_<;>intro h
 refine eg (q ?_)
 refine sro (sizeOf271 _) h fun w3 h=>?_
 refine q (ln (er (vF ?_)))
 obtain ⟨qfrom2,qto2,qnum2,qtext2,qkids2,hv2,h⟩:=h
 refine gg2 results274 (rva (isAgg271 _) (sizeOf271 _) hv2) (rvU (vb false)) ⟨qfrom2,qto2,qnum2,qtext2,qkids2,false,rfl,h⟩
 refine zC (zK (eg ?_))
 refine sc call298 (h.mono fun e w4 ⟨r1,k,h⟩=>⟨_,k,?_⟩)
 refine q ?_
 obtain ⟨efrom1,eto1,enum1,etext1,ekids1,hv4,h⟩:=h
 refine q2 (.agg #[(vb efrom1),(vb eto1),(vb enum1),(vb etext1),(vi ekids1)]) (jKY (by kernel_rfl) (by kernel_rfl) hv4) ?_
 refine sro (sizeOf271 _) h fun w5 h=>?_
 refine q (ln (er ?_))
 obtain ⟨qfrom3,qto3,qnum3,qtext3,qkids3,hv3,h⟩:=h
 refine gg2 results274 (rva (isAgg271 _) (sizeOf271 _) hv3) (rvU (vb true)) ⟨qfrom3,qto3,qnum3,qtext3,qkids3,true,rfl,h⟩
def m_E4 (n1:Int) (w:World) (K:Bool→WP):Prop :=Br (decide (n1≥0)) (K (decide (n1<16)) w) (K false w)
theorem w_E4 (n1:Int) (w:World) (K:Bool→WP) (h:m_E4 n1 w K) :
  Calls prog 275 #[(vi n1)] w (fun e w'=>∃r1:Bool,e=.returned (vb r1)∧K r1 w'):=by
 refine cw (args:=[(vi n1)]) func275 ntmps275 (eg (q0 (vb false) (ln (eg (q0 (vi n1) (q0 (vb (decide (n1≥0))) (q0 (vb (decide (n1≥0))) ?_)))))))
 obtain ⟨hg1,h⟩|⟨hg1,h⟩:=h.br
 refine qk 5 hg1 (qk 5 hg1 (q2 (vb (decide (n1<16))) (xT hg1) (q (ln (er (rs1 results275 ⟨(decide (n1<16)),rfl,h⟩))))))
 refine sj 5 hg1 (sj 5 hg1 (q2 (vb false) (xF hg1) (q (ln (er (rs1 results275 ⟨false,rfl,h⟩))))))
def m_L1_l1 (t1:Int) (cap3 cap4:Addr) (r1:Sl) (x1:Int) (wl1:World) (Kc1:Int→WP) (K:WP):Prop :=Br (decide (x1<(r1.len:Int))) (∃a1:Addr,At r1 x1 1 a1∧∃v6:Int,wl1.cell? a1=some (vi v6)∧∃v7:Value,wl1.cell? cap3=some v7∧∃(f1:FuncId) (fs1 cs1:Array Value),v7=.func (.func f1) fs1 cs1∧(∀args w,(callFunc f1 args).run prog w=.ok (.enter f1 args) w)∧Calls prog f1 (fs1++#[(vi v6)]++cs1) wl1 (fun e w3=>e=.returned (.tuple #[])∧Kc1 (q6.wrap (x1+1)) w3)) (∃v8:Sl,wl1.cell? cap4=some v8.v∧∀(p1:Addr) (w4:World),New wl1 (.cells #[(vi t1)] 78) p1 w4→∃s1:Sl,∃w5:World,(Builtin.append_ #[54,54] 54 #[v8.v,(Sl.mk (some p1) 1 1).v]).run prog w4=.ok s1.v w5∧CanW w5 cap4∧∀w6:World,w6=w5.setCell cap4 s1.v→K w6)
def m_L1 (t1:Int) (cap1 cap2:Addr) (cap3 cap4:Addr) (w:World) (K:WP):Prop :=∃v1:Option Nat,w.cell? cap1=some (.map v1)∧∃v2:Int,(Instr.lookup 245 (.map v1) (vi t1) false).run prog w=.ok (vi v2) w∧Br (decide (v2>0)) (K w) (∃v3:Option Nat,w.cell? cap1=some (.map v3)∧∃v4:Int,(Instr.lookup 245 (.map v3) (vi t1) false).run prog w=.ok (vi v4) w∧∃w1:World,(Instr.mapUpdate 245 (.map v3) (vi t1) (vi (q6.wrap (v4+1)))).run prog w=.ok () w1∧∃v5:Option Addr,w1.cell? cap2=some (vp v5)∧Calls prog 277 #[(vp v5),(vi t1)] w1 (fun e w2=>∃r1:Sl,e=.returned r1.v∧∃(I1:Int→WP) (mu1:Int→World→Nat),I1 0 w2∧∀(x1:Int) (wl1:World),I1 x1 wl1→m_L1_l1 t1 cap3 cap4 r1 x1 wl1 (fun y'0 w'=>I1 y'0 w'∧mu1 y'0 w'<mu1 x1 wl1) K))
theorem w_L1 (t1:Int) (cap1 cap2:Addr) (cap3 cap4:Addr) (w:World) (K:WP) (h:m_L1 t1 cap1 cap2 cap3 cap4 w K) :
  Calls prog 276 #[(vi t1),(vp (some cap1)),(vp (some cap2)),(vp (some cap3)),(vp (some cap4))] w (fun e w'=>e=.returned (.tuple #[])∧K  w'):=by
 refine cw (args:=[(vi t1),(vp (some cap1)),(vp (some cap2)),(vp (some cap3)),(vp (some cap4))]) func276 ntmps276 (zA (eg ?_))
 refine ql (isAgg245 _) h fun v1 h=>q ?_
 obtain ⟨v2,hv10,h⟩:=h
 refine q2 (vi v2) (qQ (by kernel_rfl) (by kernel_rfl) hv10) (q (ln ?_))
 refine cbr h ?_ ?_<;>intro h
 refine er (vF (jFI (.inl rfl) results276 ?_))
 exact ⟨rfl,h⟩
 refine zC (zK (eg ?_))
 refine ql (isAgg245 _) h fun v3 h=>q ?_
 obtain ⟨v4,hv8,h⟩:=h
 refine q2 (vi v4) (qQ (by kernel_rfl) (by kernel_rfl) hv8) (q ?_)
 obtain ⟨w1,hv7,h⟩:=h
 refine qV (zL rfl) (yR (by kernel_rfl) (by kernel_rfl) (by kernel_rfl) hv7) (ln (zA (eg ?_)))
 refine ql (isAgg91 _) h fun v5 h=>q ?_
 refine sc call277 (h.mono fun e w2 ⟨r1,k,h⟩=>⟨_,k,?_⟩)
 refine qb (ln (zJ ?_))
 obtain ⟨I1,mu1,h0,hr⟩:=h
 refine vP (σ:=Int×World) (fun s ρ w=>w=s.2∧Has ρ [(0,(vi t1)),(3,(vp (some cap3))),(4,(vp (some cap4))),(18,r1.v),(19,(vi (r1.len:Int))),(20,(vi s.1))]∧I1 s.1 s.2) (fun s=>mu1 s.1 s.2) (0,w2) ⟨rfl,hm,h0⟩ ?_
 rintro ⟨x1,wl1⟩ ρ w ⟨hw,hH,hI⟩
 dsimp only at hw hH;subst w
 have h:=hr x1 wl1 hI
 refine zW hH ?_
 refine eg (q (ln (zA ?_)))
 refine cbr h ?_ ?_<;>intro h
 refine zC (zK (zA (zJ (eg ?_))))
 refine qi (runUnderlying54 _) (sizeOf78 _) h fun a1 h=>?_
 refine ql (isAgg78 _) h fun v6 h=>q (ln (rg ?_))
 refine ql (isAgg202 _) h fun v7 h=>q ?_
 obtain ⟨f1,fs1,cs1,hp1,h⟩:=h
 obtain ⟨hf1,h⟩:=h
 refine kZ (zL rfl) (lA (fs:=fs1) (caps:=cs1) (args:=#[(vi v6)]) (by kernel_rfl) hp1 hf1 (by kernel_rfl) rfl) (h.mono ?_)
 rintro e w3 ⟨rfl,h⟩
 refine ⟨_,rfl,?_⟩
 refine zB (xW (zK (rg (qb (ln ?_)))))
 exact ⟨((q6.wrap (x1+1)),w3),⟨rfl,hm,h.1⟩,h.2⟩
 refine vO (uU (uU (uY (zK (rg ?_)))))
 refine ql (isAgg54 _) h fun v8 h=>q (uE (O:=(.cells #[(vi t1)] 78)) (fun p=>(Sl.mk (some p) 1 1).v) (zL rfl) (vJ (vs:=#[(0,(vi t1))]) (by kernel_rfl) (by kernel_rfl)) ?_)
 intro p1 w4 hn2
 have h:=h p1 w4 hn2
 obtain ⟨s1,w5,hv4,h⟩:=h
 refine st (v:=s1.v) (zL rfl) (vI (args:=#[v8.v,(Sl.mk (some p1) 1 1).v]) (by kernel_rfl) (fun _=>rfl) hv4) ?_
 refine st1 (sizeOf54 _) h fun w6 h=>?_
 refine zB (jFI (.inr rfl) results276 ?_)
 exact ⟨rfl,h⟩
def m_F4 (p1:Option Addr) (t1:Int) (w:World) (K:Sl→WP):Prop :=Calls prog 104 #[(vp p1),(vi t1)] w (fun e w1=>∃aZ bA:Int,∃bB bC:Int,∃bD:ByteArray,∃bE bF:Int,∃r1:Bool,e=.returned (.tuple #[(.agg #[(vi aZ),(vi bA),(vi bB),(vu bC),(vs bD),(vi bE),(vi bF)]),(vb r1)])∧∀(p2:Addr) (w2:World),New w1 (.cells #[(vi 0),(vi 0),(vi 0),(vu 0),ve,(vi 0),(vi 0)] 127) p2 w2→(∀j,j<7→CanW w2 (p2.add j))∧∀w3:World,w3=storeRow w2 p2 [(vi aZ),(vi bA),(vi bB),(vu bC),(vs bD),(vi bE),(vi bF)]→∃v1:Int,w3.cell? p2=some (vi v1)∧Calls prog 274 #[(vi v1)] w3 (fun e w4=>∃rfrom1 rto1:Bool,∃rnum1 rtext1:Bool,∃rkids1:Int,∃r2:Bool,e=.returned (.tuple #[(.agg #[(vb rfrom1),(vb rto1),(vb rnum1),(vb rtext1),(vi rkids1)]),(vb r2)])∧∀(p3:Addr) (w5:World),New w4 (.cells #[(vb false),(vb false),(vb false),(vb false),(vi 0)] 271) p3 w5→(∀j,j<5→CanW w5 (p3.add j))∧∀w6:World,w6=storeRow w5 p3 [(vb rfrom1),(vb rto1),(vb rnum1),(vb rtext1),(vi rkids1)]→∃v2:Int,w6.cell? (p2.add 5)=some (vi v2)∧∃v3:Int,w6.cell? (p2.add 6)=some (vi v3)∧∀(p4:Addr) (w7:World),New w6 (.cells #[(vi v2),(vi v3)] 78) p4 w7→∃v4:Int,w7.cell? (p3.add 4)=some (vi v4)∧∃s1:Sl,(Instr.sliceAt 54 (Sl.mk (some p4) 2 2).v none (some (vi v4)) none).run prog w7=.ok s1.v w7∧K s1 w7))
theorem w_F4 (p1:Option Addr) (t1:Int) (w:World) (K:Sl→WP) (h:m_F4 p1 t1 w K) :
  Calls prog 277 #[(vp p1),(vi t1)] w (fun e w'=>∃r3:Sl,e=.returned r3.v∧K r3 w'):=by
 refine cw (args:=[(vp p1),(vi t1)]) func277 ntmps277 (eg (q0 Sl.nil.v (ln (eg (q0 (vp p1) (q0 (vi t1) ?_))))))
 refine sc call104 (h.mono fun e w1 ⟨aZ,bA,bB,bC,bD,bE,bF,r1,k,h⟩=>⟨_,k,?_⟩)
 refine qc (nw1 h (zQ (zeroValue127 _) rfl) fun p2 w2 h=>?_)
 refine sro (sizeOf127 _) h fun w3 h=>?_
 refine q (ln (eg (q ?_)))
 refine ql (isAgg3 _) h fun v1 h=>?_
 refine sc call274 (h.mono fun e w4 ⟨rfrom1,rto1,rnum1,rtext1,rkids1,r2,k,h⟩=>⟨_,k,?_⟩)
 refine qc (nw1 h (zQ (zeroValue271 _) rfl) fun p3 w5 h=>?_)
 refine sro (sizeOf271 _) h fun w6 h=>?_
 refine q (ln (eg (q ?_)))
 refine ql (isAgg78 _) h fun v2 h=>q ?_
 refine ql (isAgg78 _) h fun v3 h=>uE (O:=(.cells #[(vi v2),(vi v3)] 78)) (fun p=>(Sl.mk (some p) 2 2).v) (zL rfl) (vJ (vs:=#[(0,(vi v2)),(1,(vi v3))]) (by kernel_rfl) (by kernel_rfl)) ?_
 intro p4 w7 hn3
 have h:=h p4 w7 hn3
 refine q ?_
 refine ql (isAgg3 _) h fun v4 h=>?_
 obtain ⟨s1,hv1,h⟩:=h
 refine q2 s1.v (xI (by kernel_rfl) (by kernel_rfl) (by kernel_rfl) (by kernel_rfl) hv1) (q (ln (er (rs1 results277 ⟨s1,rfl,h⟩))))
def m_G4  (w:World) (K:(Array Value)→WP):Prop :=∀(p1:Addr) (w1:World),New w (.cells #[(vb false),(vb false),(vb false),(vb false),(vi 0),(vb false),(vb false),(vb false),(vb false),(vi 0),(vb false),(vb false),(vb false),(vb false),(vi 0),(vb false),(vb false),(vb false),(vb false),(vi 0),(vb false),(vb false),(vb false),(vb false),(vi 0),(vb false),(vb false),(vb false),(vb false),(vi 0),(vb false),(vb false),(vb false),(vb false),(vi 0),(vb false),(vb false),(vb false),(vb false),(vi 0),(vb false),(vb false),(vb false),(vb false),(vi 0),(vb false),(vb false),(vb false),(vb false),(vi 0)] 337) p1 w1→(∀j,j<50→CanW w1 (p1.add j))∧∀w2:World,w2=storeRow w1 p1 [(vb false),(vb false),(vb false),(vb false),(vi 0),(vb true),(vb false),(vb false),(vb false),(vi 0),(vb false),(vb false),(vb true),(vb false),(vi 0),(vb false),(vb false),(vb false),(vb true),(vi 0),(vb false),(vb false),(vb false),(vb false),(vi 2),(vb false),(vb false),(vb false),(vb false),(vi 1),(vb true),(vb false),(vb false),(vb false),(vi 0),(vb true),(vb false),(vb false),(vb false),(vi 1),(vb true),(vb true),(vb false),(vb false),(vi 1),(vb true),(vb true),(vb false),(vb false),(vi 1)]→∃q1:Array Value,(q1.size=50∧Row w2 p1 q1.toList)∧K q1 w2
theorem w_G4  (w:World) (K:(Array Value)→WP) (h:m_G4  w K) :
  Calls prog 298 #[] w (fun e w'=>∃r1:Array Value,e=.returned (.agg r1)∧K r1 w'):=by
 refine cw (args:=[]) func298 ntmps298 (eg (sn (O:=(.cells #[(vb false),(vb false),(vb false),(vb false),(vi 0),(vb false),(vb false),(vb false),(vb false),(vi 0),(vb false),(vb false),(vb false),(vb false),(vi 0),(vb false),(vb false),(vb false),(vb false),(vi 0),(vb false),(vb false),(vb false),(vb false),(vi 0),(vb false),(vb false),(vb false),(vb false),(vi 0),(vb false),(vb false),(vb false),(vb false),(vi 0),(vb false),(vb false),(vb false),(vb false),(vi 0),(vb false),(vb false),(vb false),(vb false),(vi 0),(vb false),(vb false),(vb false),(vb false),(vi 0)] 337)) (zQ (zeroValue337 _) rfl) ?_))
 intro p1 w1 hn2
 have h:=h p1 w1 hn2
 refine ln (eg (qd (qd ?_)))
 refine qb ?_
 refine sro (sizeOf337 _) h fun w2 h=>?_
 refine ln (er ?_)
 obtain ⟨q1,hv1,h⟩:=h
 refine gg1 results298 (RV.cellAr (A:=p1) (vs:=q1) (by kernel_rfl) (isAgg337 _) (sizeOf337 _) hv1) ⟨q1,rfl,h⟩
end Go.Proofs
end
section
open Go Go.SE
namespace Go.Proofs
open Tryz
attribute [local irreducible] Calls
theorem jNN (n:Int) (w:World):Calls prog 275 #[.int .i64 n] w (fun e w'=>∃r,e=.returned (.bool r)∧(r=Sp.lE n∧w'=w)):=by
 refine w_E4 n w (fun r w'=>r=Sp.lE n∧w'=w) ?_;unfold m_E4;refine ⟨fun h=>⟨?_,rfl⟩,fun h=>⟨?_,rfl⟩⟩
 ·have:0≤n:=by simpa using h
  simp [Sp.lE,this]
 ·have:¬ 0≤n:=by simpa using h
  simp [Sp.lE,this]
theorem jNO (s1 s2 s3 s4:Bool) (s5 k f t u:Int) (x:ByteArray) (a b:Int) (w:World) :
  Calls prog 185 #[.agg #[.bool s1,.bool s2,.bool s3,.bool s4,.int .i64 s5],.agg #[.int .i64 k,.int .i64 f,.int .i64 t,.int .u64 u,.string x,.int .i64 a,.int .i64 b]] w
   (fun e w'=>∃r,e=.returned (.int .i64 r)∧(r=Sp.zY ⟨s1,s2,s3,s4,s5⟩ ⟨k,f,t,u,x,a,b⟩∧Pure w w')):=by
 refine w_C1 _ _ _ _ _ _ _ _ _ _ _ _ w (fun r w'=>r=Sp.zY ⟨s1,s2,s3,s4,s5⟩ ⟨k,f,t,u,x,a,b⟩∧Pure w w') ?_
 unfold m_C1
 intro p1 w1 h1 p2 w2 h2
 have b1:=(Box.of_new h1).pure (Ext.new h2)
 have b2:=Box.of_new h2
 have E:Pure w w2:=(Ext.new h1).trans (Ext.new h2)
 have J:∀c:Bool,c=(s1 && !Sp.lE f)→m_C1_j1 p1 p2 c w2 (fun r w'=>r=Sp.zY ⟨s1,s2,s3,s4,s5⟩ ⟨k,f,t,u,x,a,b⟩∧Pure w w'):=by
  intro c hc;unfold m_C1_j1;refine ⟨fun h=>⟨?_,E⟩,fun h=>⟨_,b1.cell rfl,fun h'=>⟨_,b2.cell rfl,?_⟩,fun h'=>⟨_,b2.cell rfl,fun h3=>⟨?_,E⟩,fun h3=>⟨?_,E⟩⟩⟩⟩
  ·rw [hc] at h;simp [Sp.zY,h]
  ·refine (jNN _ _).mono ?_;rintro _ _ ⟨r,rfl,rfl,rfl⟩;rw [hc] at h;refine ⟨_,rfl,fun h2=>⟨?_,E⟩,fun h2=>⟨_,b2.cell rfl,_,b2.cell rfl,fun h3=>⟨?_,E⟩,fun h3=>⟨_,b2.cell rfl,fun h4=>⟨?_,E⟩,fun h4=>⟨?_,E⟩⟩⟩⟩
   ·simp [Sp.zY,h',h2]
   ·simp [Sp.zY,h',h3]
   ·simp only [Sp.zY,h,h',h3];simp at h2 h4;simp [h2];omega
   ·simp only [Sp.zY,h,h',h3];simp at h2 h4;simp [h2];omega
  ·rw [hc] at h;simp only [Sp.zY,h,h'];simp at h3;simp;omega
  ·rw [hc] at h;simp only [Sp.zY,h,h'];simp at h3;simp;omega
 refine ⟨_,b1.cell0,fun h=>⟨_,b2.cell rfl,?_⟩,fun h=>J _ (by simp [h])⟩
 refine (jNN _ _).mono ?_
 rintro _ _ ⟨r,rfl,rfl,rfl⟩
 exact ⟨_,rfl,J _ (by simp [h])⟩
def jLG:Array Value:=#[.bool false,.bool false,.bool false,.bool false,.int .i64 0,.bool true,.bool false,.bool false,.bool false,.int .i64 0,.bool false,.bool false,.bool true,.bool false,.int .i64 0,.bool false,.bool false,.bool false,.bool true,.int .i64 0,.bool false,.bool false,.bool false,.bool false,.int .i64 2,.bool false,.bool false,.bool false,.bool false,.int .i64 1,.bool true,.bool false,.bool false,.bool false,.int .i64 0,.bool true,.bool false,.bool false,.bool false,.int .i64 1,.bool true,.bool true,.bool false,.bool false,.int .i64 1,.bool true,.bool true,.bool false,.bool false,.int .i64 1]
theorem jUJ (w:World):Calls prog 298 #[] w (fun e w'=>∃r,e=.returned (.agg r)∧(r=jLG∧Pure w w')):=by
 refine w_G4 w (fun r w'=>r=jLG∧Pure w w') ?_;unfold m_G4;intro p1 w1 h1;have E1:Pure w w1:=Ext.new h1;have hp:=New.own (Ext.refl w) h1;have b1:=Box.of_newA h1;clear h1;refine bx 50 b1 (by kernel_rfl) (by kernel_rfl) (fun w' b E=>?_);refine ⟨jLG,⟨by kernel_rfl,b.row_eq (by kernel_rfl)⟩,rfl,E1.own hp E⟩
theorem jJW (k:Int) (w:World):Calls prog 274 #[.int .i64 k] w (fun e w'=>∃r1:Bool,∃r2:Bool,∃r3:Bool,∃r4:Bool,∃r5:Int,∃r:Bool,e=.returned (.tuple #[.agg #[.bool r1,.bool r2,.bool r3,.bool r4,.int .i64 r5],.bool r])∧(((⟨r1,r2,r3,r4,r5⟩:Sp.Shape)=Sp.shapeOf k∧r=Sp.isKind k)∧Pure w w')):=by
 refine w_D4 k w (fun r1 r2 r3 r4 r5 r w'=>((⟨r1,r2,r3,r4,r5⟩:Sp.Shape)=Sp.shapeOf k∧r=Sp.isKind k)∧Pure w w') ?_;unfold m_D4;intro p1 w1 h1;have E1:Pure w w1:=Ext.new h1;have b1:=Box.of_new h1;have hp:=New.own (Ext.refl w) h1;refine ⟨fun h=>bx 5 b1 rfl rfl (fun w' b E=>⟨_,_,_,_,_,b.row,⟨?_,?_⟩,E1.own hp E⟩),fun h=>⟨fun h2=>bx 5 b1 rfl rfl (fun w' b E=>⟨_,_,_,_,_,b.row,⟨?_,?_⟩,E1.own hp E⟩),fun h2=>?_⟩⟩
 ·have:k<1:=by simpa using h
  simp only [Sp.shapeOf,Sp.noShape];repeat rw [if_neg (by omega)]
 ·have:k<1:=by simpa using h
  simp [Sp.isKind];omega
 ·have:9<k:=by simpa using h2
  simp only [Sp.shapeOf,Sp.noShape];repeat rw [if_neg (by omega)]
 ·have:9<k:=by simpa using h2
  simp [Sp.isKind];omega
 ·have h3:¬ k<1:=by simpa using h
  have h4:¬ 9<k:=by simpa using h2
  refine (jUJ _).mono ?_;rintro _ w4 ⟨_,rfl,rfl,E4⟩;refine ⟨_,rfl,?_⟩;have b4:=b1.pure E4;have E5:Pure w w4:=E1.trans E4;have hk:k=1∨k=2∨k=3∨k=4∨k=5∨k=6∨k=7∨k=8∨k=9:=by omega
  rcases hk with rfl | rfl | rfl | rfl | rfl | rfl | rfl | rfl | rfl
  ·exact ⟨true,false,false,false,0,by kernel_rfl,bx 5 b4 rfl rfl (fun w' b E=>⟨_,_,_,_,_,b.row,⟨by decide,by decide⟩,E5.own hp E⟩)⟩
  ·exact ⟨false,false,true,false,0,by kernel_rfl,bx 5 b4 rfl rfl (fun w' b E=>⟨_,_,_,_,_,b.row,⟨by decide,by decide⟩,E5.own hp E⟩)⟩
  ·exact ⟨false,false,false,true,0,by kernel_rfl,bx 5 b4 rfl rfl (fun w' b E=>⟨_,_,_,_,_,b.row,⟨by decide,by decide⟩,E5.own hp E⟩)⟩
  ·exact ⟨false,false,false,false,2,by kernel_rfl,bx 5 b4 rfl rfl (fun w' b E=>⟨_,_,_,_,_,b.row,⟨by decide,by decide⟩,E5.own hp E⟩)⟩
  ·exact ⟨false,false,false,false,1,by kernel_rfl,bx 5 b4 rfl rfl (fun w' b E=>⟨_,_,_,_,_,b.row,⟨by decide,by decide⟩,E5.own hp E⟩)⟩
  ·exact ⟨true,false,false,false,0,by kernel_rfl,bx 5 b4 rfl rfl (fun w' b E=>⟨_,_,_,_,_,b.row,⟨by decide,by decide⟩,E5.own hp E⟩)⟩
  ·exact ⟨true,false,false,false,1,by kernel_rfl,bx 5 b4 rfl rfl (fun w' b E=>⟨_,_,_,_,_,b.row,⟨by decide,by decide⟩,E5.own hp E⟩)⟩
  ·exact ⟨true,true,false,false,1,by kernel_rfl,bx 5 b4 rfl rfl (fun w' b E=>⟨_,_,_,_,_,b.row,⟨by decide,by decide⟩,E5.own hp E⟩)⟩
  ·exact ⟨true,true,false,false,1,by kernel_rfl,bx 5 b4 rfl rfl (fun w' b E=>⟨_,_,_,_,_,b.row,⟨by decide,by decide⟩,E5.own hp E⟩)⟩
theorem jSE (k f t u:Int) (x:ByteArray) (a b:Int) (w:World) :
  Calls prog 184 #[.agg #[.int .i64 k,.int .i64 f,.int .i64 t,.int .u64 u,.string x,.int .i64 a,.int .i64 b]] w
   (fun e w'=>∃r1:Bool,∃r2:Bool,∃r3:Bool,∃r4:Bool,∃r5:Int,∃r:Int,e=.returned (.tuple #[.agg #[.bool r1,.bool r2,.bool r3,.bool r4,.int .i64 r5],.int .i64 r])∧(((⟨r1,r2,r3,r4,r5⟩:Sp.Shape)=Sp.shapeOf k∧r=Sp.zZ ⟨k,f,t,u,x,a,b⟩)∧Pure w w')):=by
 suffices key:∀K:Bool→Bool→Bool→Bool→Int→Int→WP,(∀r1 r2 r3 r4 r5 r w',((⟨r1,r2,r3,r4,r5⟩:Sp.Shape)=Sp.shapeOf k∧r=Sp.zZ ⟨k,f,t,u,x,a,b⟩)∧Pure w w'→K r1 r2 r3 r4 r5 r w')→m_E k f t u x a b w K from
  w_E _ _ _ _ _ _ _ w _ (key _ (fun _ _ _ _ _ _ _ h=>h))
 intro K hK
 unfold m_E
 intro p1 w1 h1 p2 w2 h2
 have a1:=(Box.of_new h1).pure (Ext.new h2)
 have a2:=Box.of_new h2
 have E2:Pure w w2:=(Ext.new h1).trans (Ext.new h2)
 have o2:=New.own (Ext.new h1:Pure w w1) h2
 have n12:p1.block≠p2.block:=New.ne h2 (Box.of_new h1).blk
 refine ⟨_,a1.cell0,?_⟩
 refine (jJW _ _).mono ?_
 rintro _ w3 ⟨s1,s2,s3,s4,s5,ok,rfl,⟨hs,hok⟩,E3⟩
 refine ⟨_,_,_,_,_,_,rfl,?_⟩
 intro p3 w4 h3
 have E4:Pure w w4:=(E2.trans E3).trans (Ext.new h3)
 have o3:=New.own (E2.trans E3) h3
 have n13:p1.block≠p3.block:=New.ne h3 (a1.pure E3).blk
 have n23:p2.block≠p3.block:=New.ne h3 (a2.pure E3).blk
 refine bx 5 (Box.of_new h3) rfl rfl (fun w5 b3 E=>?_)
 have b1:=((a1.pure E3).pure (Ext.new h3)).ext E n13
 have b2:=((a2.pure E3).pure (Ext.new h3)).ext E n23
 have E5:=E4.own o3 E
 clear E E4 E3 E2 a1 a2 h1 h2 h3
 have fin : ∀ v : Int, v = Sp.zZ ⟨k, f, t, u, x, a, b⟩ → (∀ j, j < 5 → CanW w5 (p2.add j)) ∧ ∀ w', w' = storeRow w5 p2 [.bool s1, .bool s2, .bool s3, .bool s4, .int .i64 s5] →
   ∃q1:Bool,∃q2:Bool,∃q3:Bool,∃q4:Bool,∃q5:Int,Row w' p2 [.bool q1,.bool q2,.bool q3,.bool q4,.int .i64 q5]∧K q1 q2 q3 q4 q5 v w':=fun v hv =>
  bx 5 b2 rfl rfl (fun w' b E=>⟨_,_,_,_,_,b.row,hK _ _ _ _ _ _ _ ⟨⟨hs,hv⟩,E5.own o2 E⟩⟩)
 obtain ⟨e1,e2,e3,e4,e5⟩:s1=(Sp.shapeOf k).frm∧s2=(Sp.shapeOf k).to∧s3=(Sp.shapeOf k).num∧s4=(Sp.shapeOf k).text∧s5=(Sp.shapeOf k).kids:=by rw [← hs];simp
 have J3:∀c:Bool,c=(!ok || (!s1 && f != 0) || (!s2 && t != 0) || (!s3 && u != 0))→m_E_j3 p1 p2 p3 c w5 K:=by
  intro c hc;unfold m_E_j3;refine ⟨fun h=>⟨_,_,_,_,_,b3.row,fin _ ?_⟩,fun h=>⟨_,b3.cell rfl,fun h4=>⟨_,b1.cell rfl,fun h5=>⟨_,_,_,_,_,b3.row,fin _ ?_⟩,fun h5=>⟨_,_,_,_,_,b3.row,fin _ ?_⟩⟩,fun h4=>⟨_,_,_,_,_,b3.row,fin _ ?_⟩⟩⟩
  ·rw [h] at hc;simp only [Sp.zZ,← e1,← e2,← e3,← e4,← hok,← hc];simp
  ·rw [h] at hc;simp only [Sp.zZ,← e1,← e2,← e3,← e4,← hok,← hc];simp at h4 h5;simp [h4,h5]
  ·rw [h] at hc;simp only [Sp.zZ,← e1,← e2,← e3,← e4,← hok,← hc];simp at h4 h5;simp [h4,h5]
  ·rw [h] at hc;simp only [Sp.zZ,← e1,← e2,← e3,← e4,← hok,← hc];simp at h4;simp [h4]
 have J2:∀c:Bool,c=(!ok || (!s1 && f != 0) || (!s2 && t != 0))→m_E_j2 p1 p2 p3 c w5 K:=by
  intro c hc;have J4:∀d:Bool,d=(!s3 && u != 0)→m_E_j4 p1 p2 p3 c d w5 K:=fun d hd=>⟨fun h=>J3 _ (by rw [← hc,h];rfl),fun h=>J3 _ (by rw [← hc,h];simpa using hd)⟩;exact ⟨fun h=>J3 _ (by rw [← hc,h];rfl),fun h=>⟨_,b3.cell rfl,fun h4=>⟨_,b1.cell rfl,J4 _ (by rw [h4];rfl)⟩,fun h4=>J4 _ (by rw [h4];rfl)⟩⟩
 have J1:∀c:Bool,c=(!ok || (!s1 && f != 0))→m_E_j1 p1 p2 p3 c w5 K:=by
  intro c hc;have J5:∀d:Bool,d=(!s2 && t != 0)→m_E_j5 p1 p2 p3 c d w5 K:=fun d hd=>⟨fun h=>J2 _ (by rw [← hc,h];rfl),fun h=>J2 _ (by rw [← hc,h];simpa using hd)⟩;exact ⟨fun h=>J2 _ (by rw [← hc,h];rfl),fun h=>⟨_,b3.cell rfl,fun h4=>⟨_,b1.cell rfl,J5 _ (by rw [h4];rfl)⟩,fun h4=>J5 _ (by rw [h4];rfl)⟩⟩
 have J6:∀d:Bool,d=(!s1 && f != 0)→m_E_j6 p1 p2 ok p3 d w5 K:=fun d hd=>⟨fun h=>J1 _ (by rw [h];rfl),fun h=>J1 _ (by rw [h];simpa using hd)⟩
 exact ⟨fun h=>J1 _ (by rw [h];rfl),fun h=>⟨_,b3.cell0,fun h4=>⟨_,b1.cell rfl,J6 _ (by rw [h4];rfl)⟩,fun h4=>J6 _ (by rw [h4];rfl)⟩⟩
def uR (n:Sp.Node):List Value:=[.int .i64 n.kind,.int .i64 n.frm,.int .i64 n.to,.int .u64 n.num,.string n.text,.int .i64 n.a,.int .i64 n.b]
def jPJ (e:Sp.Ent):List Value:=uR e.node++[.int .i64 e.size,.int .i64 e.depth]
def jDO (n:Sp.Node):Value:=.agg (uR n).toArray
def tF (L:Sp.Pool):List (Value×Value):=L.zipIdx.map fun p=>(jDO p.1.node,.int .i64 (p.2+1:Nat))
structure PoolS (w:World) (p:Addr) (L:Sp.Pool) (s:Sl) (m:Nat):Prop where
 box:Box w p [s.v,.map (some m)] 162
 rows:Rws w 234 9 s (L.map jPJ)
 map:CMap w m (tF L)
 n1:m≠p.block
 n2:¬ s.blk p.block
 n3:¬ s.blk m
def zR (w:World) (p:Addr) (L:Sp.Pool) (F:NP):Prop:=∃s m,PoolS w p L s m∧∀b,F b↔(b=p.block∨s.blk b∨b=m)
theorem zR.ext {G:NP} {w w':World} {p:Addr} {L:Sp.Pool} {F:NP} (h:zR w p L F) (hE:Ext G w w') (hd:∀b,F b→¬ G b):zR w' p L F:=by
 obtain ⟨s,m,h,hF⟩:=h;exact ⟨s,m,⟨h.box.ext hE (hd _ ((hF _).2 (.inl rfl))),h.rows.ext hE (fun b hb=>hd _ ((hF _).2 (.inr (.inl hb)))),h.map.ext hE (hd _ ((hF _).2 (.inr (.inr rfl)))),h.n1,h.n2,h.n3⟩,hF⟩
theorem zR.pure {w w':World} {p:Addr} {L:Sp.Pool} {F:NP} (h:zR w p L F) (hE:Pure w w'):zR w' p L F:=h.ext hE (fun _ _ h=>h)
theorem zR.lt {w:World} {p:Addr} {L:Sp.Pool} {F:NP} (h:zR w p L F) {b:Nat} (hb:F b):b<w.heap.size:=by
 obtain ⟨s,m,h,hF⟩:=h;rcases (hF b).1 hb with rfl | hb | rfl
 ·exact h.box.lt
 ·exact h.rows.lt hb
 ·exact h.map.lt
theorem i64 {n:Int} (h:-9223372036854775808≤n) (h':n≤9223372036854775807):IntKind.i64.wrap n=n:=IntWalk.i64_in n ⟨h,h'⟩
theorem c_in (p:Addr) (t:Int) (w:World) {L:Sp.Pool} {F:NP} (hP:zR w p L F):Calls prog 138 #[.pointer (some p),.int .i64 t] w (fun e w'=>∃r,e=.returned (.bool r)∧(r=Sp.inP L t∧w=w')):=by
 obtain ⟨s,m,h,_⟩:=hP;refine w_K1 (some p) t w (fun r w'=>r=Sp.inP L t∧w=w') ?_;unfold m_K1;have hl:(s.len:Int)=L.length:=by rw [h.rows.len];simp
 refine Br.t rfl ⟨fun h1=>⟨p,rfl,s,h.box.cell0,?_,rfl⟩,fun h1=>⟨?_,rfl⟩⟩
 ·have:1≤t:=by simpa using h1
  simp [Sp.inP,hl,this]
 ·have:¬ 1≤t:=by simpa using h1
  simp [Sp.inP,this]
theorem PoolS.at {w:World} {p:Addr} {L:Sp.Pool} {s:Sl} {m:Nat} (h:PoolS w p L s m) {t:Int} (ht:Sp.inP L t=true) (hok:Sp.Ok L):∃a e,At s (IntKind.i64.wrap (t - 1)) 9 a∧Row w a (jPJ e)∧s.blk a.block∧Sp.get L t=some e:=by
 obtain ⟨h1,h2⟩:=Sp.zX.1 ht;obtain ⟨e,hg,_,hi,he⟩:=Sp.jCE ht;have:=hok.few;rw [i64 (by omega) (by omega)];obtain ⟨a,hat,hr,hb⟩:=h.rows.at (i:=t - 1) (by omega) (by simpa using hi);exact ⟨a,e,hat,(by rw [List.getElem_map,he] at hr;exact hr),hb,hg⟩
theorem c_Size (p:Addr) (t:Int) (w:World) {L:Sp.Pool} {F:NP} (hP:zR w p L F) (hok:Sp.Ok L):Calls prog 238 #[.pointer (some p),.int .i64 t] w (fun e w'=>∃r,e=.returned (.int .i64 r)∧(r=Sp.sizeOf L t∧w=w')):=by
 refine w_B4 (some p) t w (fun r w'=>r=Sp.sizeOf L t∧w=w') ?_;unfold m_B4;refine (c_in p t w hP).mono ?_;rintro _ _ ⟨_,rfl,rfl,rfl⟩;obtain ⟨s,m,h,_⟩:=hP;refine ⟨_,rfl,fun h1=>⟨?_,rfl⟩,fun h1=>?_⟩
 ·simp [Sp.sizeOf,Sp.uX (show Sp.inP L t=false by simpa using h1)]
 ·obtain ⟨a,e,hat,hr,_,hg⟩:=h.at (show Sp.inP L t=true by simpa using h1) hok;exact ⟨p,rfl,s,h.box.cell0,a,hat,e.size,hr 7 (by simp [jPJ,uR]),by simp [Sp.sizeOf,hg],rfl⟩
theorem jWN (p:Addr) (t:Int) (w:World) {L:Sp.Pool} {F:NP} (hP:zR w p L F) (hok:Sp.Ok L):Calls prog 239 #[.pointer (some p),.int .i64 t] w (fun e w'=>∃r,e=.returned (.int .i64 r)∧(r=Sp.depthOf L t∧w=w')):=by
 refine w_C4 (some p) t w (fun r w'=>r=Sp.depthOf L t∧w=w') ?_;unfold m_C4;refine (c_in p t w hP).mono ?_;rintro _ _ ⟨_,rfl,rfl,rfl⟩;obtain ⟨s,m,h,_⟩:=hP;refine ⟨_,rfl,fun h1=>⟨?_,rfl⟩,fun h1=>?_⟩
 ·simp [Sp.depthOf,Sp.uX (show Sp.inP L t=false by simpa using h1)]
 ·obtain ⟨a,e,hat,hr,_,hg⟩:=h.at (show Sp.inP L t=true by simpa using h1) hok;exact ⟨p,rfl,s,h.box.cell0,a,hat,e.depth,hr 8 (by simp [jPJ,uR]),by simp [Sp.depthOf,hg],rfl⟩
theorem jGN (p:Addr) (t:Int) (w:World) {L:Sp.Pool} {F:NP} (hP:zR w p L F) (hok:Sp.Ok L):Calls prog 104 #[.pointer (some p),.int .i64 t] w
  (fun e w'=>∃k:Int,∃f:Int,∃t':Int,∃u:Int,∃x:ByteArray,∃a:Int,∃b:Int,∃r:Bool,e=.returned (.tuple #[.agg #[.int .i64 k,.int .i64 f,.int .i64 t',.int .u64 u,.string x,.int .i64 a,.int .i64 b],.bool r])∧(((⟨k,f,t',u,x,a,b⟩:Sp.Node)=Sp.nodeOf L t∧r=Sp.inP L t)∧Pure w w')):=by
 refine w_W3 (some p) t w (fun k f t' u x a b r w'=>((⟨k,f,t',u,x,a,b⟩:Sp.Node)=Sp.nodeOf L t∧r=Sp.inP L t)∧Pure w w') ?_
 unfold m_W3
 intro p1 w1 h1
 have E1:Pure w w1:=Ext.new h1
 have b1:=Box.of_new h1
 have hp:=New.own (Ext.refl w) h1
 refine (c_in p t w1 (hP.pure E1)).mono ?_
 rintro _ _ ⟨_,rfl,rfl,rfl⟩
 obtain ⟨s,m,h,_⟩:=hP.pure E1
 refine ⟨_,rfl,fun h1=>bx 7 b1 rfl rfl (fun w' b E=>⟨_,_,_,_,_,_,_,b.row,⟨?_,?_⟩,E1.own hp E⟩),fun h1=>?_⟩
 ·simp [Sp.nodeOf,Sp.uX (show Sp.inP L t=false by simpa using h1),Sp.jNC]
 ·symm;simpa using h1
 ·have ht:Sp.inP L t=true:=by simpa using h1
  obtain ⟨a,e,hat,hr,_,hg⟩:=h.at ht hok
  have hn:Row w1 a (uR e.node):=fun i hi=>by
   have:=hr i (by simp [jPJ];omega);rw [this];unfold jPJ;rw [List.getElem?_append_left hi]
  exact ⟨p,rfl,s,h.box.cell0,a,hat,_,_,_,_,_,_,_,hn,bx 7 b1 rfl rfl (fun w' b E=>⟨_,_,_,_,_,_,_,b.row,⟨by simp [Sp.nodeOf,hg],ht.symm⟩,E1.own hp E⟩)⟩
end Go.Proofs
end
section
open Go Go.SE
namespace Go.Proofs
open Tryz
attribute [local irreducible] Calls CallsD
def Fld.upd (bs:List UInt8) (r:Rd) (cells:List Value):Fld→List Value
 | .from_=>cells.set 7 (.int .u64 ((qW bs r).1:Int))
 | .to_=>cells.set 8 (.int .u64 ((qW bs r).1:Int))
 | .num=>cells.set 3 (.int .u64 ((qW bs r).1:Int))
 | .text=>cells.set 4 (.string ⟨(qL bs 64 r).1.toArray⟩)
 | .fst=>(cells.set 9 (.int .u64 ((qW bs r).1:Int))).set 11 (.int .i64 1)
 | .snd=>(cells.set 10 (.int .u64 ((qW bs r).1:Int))).set 11 (.int .i64 2)
theorem c_get {S:NP} (f:Fld) (a q:Addr) (s:Sl) (bs:List UInt8) (r:Rd) (cells:List Value) (w0:World) (h:RdS S w0 a s bs r) (hat:r.at_≤bs.length) (hS:∀b,S b→b<w0.heap.size) (hq:Box w0 q cells 303) (hl:cells.length=12) (haq:a.block≠q.block) (hSq:∀b,S b→b≠q.block) :
  Calls prog f.get #[.pointer (some a),.pointer (some q)] w0 (fun e w'=>e=.returned (.tuple #[])∧RdS S w' a s bs (f.rd bs r)∧Box w' q (f.upd bs r cells) 303∧Ext (fun b=>b=a.block∨b=q.block) w0 w'):=by
 cases f
 ·exact jSH a q s bs r cells w0 h hat hS hq hl haq hSq
 ·exact jWK a q s bs r cells w0 h hat hS hq hl haq hSq
 ·exact jUN a q s bs r cells w0 h hat hS hq hl haq hSq
 ·exact jSG a q s bs r cells w0 h hat hS hq hl haq hSq
 ·exact c_getA a q s bs r cells w0 h hat hS hq hl haq hSq
 ·exact c_getB a q s bs r cells w0 h hat hS hq hl haq hSq
structure Kinds (w:World) (m:Nat) (F:NP):Prop where
 ex:∃M:List (Int×Sl),IMap Sl.v w m M∧(∀p∈M,Lst F w 2 p.2 ((uS p.1).map Fld.row))∧M.map Prod.fst=[1,2,3,4,5,6,7,8,9]
 lt:∀b,F b→b<w.heap.size
 ne:∀b,F b→b≠m
theorem Kinds.ext {w w':World} {m:Nat} {F G:NP} (h:Kinds w m F) (E:Ext G w w') (hG:∀b,F b∨b=m→¬ G b):Kinds w' m F:=by
 obtain ⟨M,h1,h2,h3⟩:=h.ex;exact ⟨⟨M,h1.ext E (hG m (.inr rfl)),fun p hp=>(h2 p hp).ext E (fun b hb=>hG b (.inl hb)),h3⟩,fun b hb=>Nat.lt_of_lt_of_le (h.lt b hb) E.size,h.ne⟩
theorem Kinds.pure {w w':World} {m:Nat} {F:NP} (h:Kinds w m F) (E:Pure w w'):Kinds w' m F:=h.ext E (fun _ _ h=>h)
theorem Kinds.mlt {w:World} {m:Nat} {F:NP} (h:Kinds w m F):m<w.heap.size:=by obtain ⟨M,h1,_⟩:=h.ex;exact h1.lt
theorem lst_lt {S:NP} {w:World} {s:Sl} {rs:List (List Value)} {sz:Nat} (h:Lst S w sz s rs) (hr:∀r∈rs,0<r.length):Lst (fun b=>S b∧b<w.heap.size) w sz s rs :=
 ⟨h.len,fun i hi=>let ⟨a,h1,h2,h3⟩:=h.at_ i hi;⟨a,h1,⟨h2,by
  have h0:=hr _ (List.getElem_mem hi);have:=h3 0 h0;rw [List.getElem?_eq_getElem h0] at this;have:=World.block_lt_of_cell? w (a.add 0) this;rwa [zV] at this⟩,h3⟩⟩
theorem jWJ (w0:World):Calls prog 159 #[] w0 (fun e w'=>∃x:Option Nat,e=.returned (.map x)∧∃m F,x=some m∧Kinds w' m F∧Pure w0 w'∧w0.heap.size≤m∧∀b,F b→w0.heap.size≤b):=by
 refine (jWH w0).mono ?_;rintro _ w' ⟨x,rfl,m,M,rfl,⟨Bs,h⟩,hM⟩;refine ⟨_,rfl,m,fun b=>(w0.heap.size≤b∧b≠m)∧b<w'.heap.size,rfl,⟨⟨M,h.map,fun p hp=>lst_lt (h.lst p hp) (fun r hr=>by obtain ⟨f,_,rfl⟩:=List.mem_map.1 hr;simp [Fld.row]),hM⟩,fun b hb=>hb.2,fun b hb=>hb.1.2⟩,h.pure,h.own,fun b hb=>hb.1.1⟩
theorem Kinds.get {w:World} {m:Nat} {F:NP} (h:Kinds w m F) (k:Int) (h1:1≤k) (h9:k≤9) (ok:Bool) :
  ∃s:Sl,(Instr.lookup 230 (.map (some m)) (.int .i64 k) ok).run prog w=.ok (if ok then .tuple #[s.v,.bool true] else s.v) w∧Lst F w 2 s ((uS k).map Fld.row):=by
 obtain ⟨M,hM,hL,hk⟩:=h.ex
 rcases hM.get (P:=prog) (T:=230) underlying230 underlying3 (zeroValue259 _) k ok with ⟨hn,_⟩ | ⟨s,hs,hr⟩
 ·have:=yX.1 hn
  rw [hk] at this
  simp at this;omega
 ·exact ⟨s,hr,hL _ (uW hs)⟩
theorem Kinds.none {w:World} {m:Nat} {F:NP} (h:Kinds w m F) (k:Int) (hk:¬ (1≤k∧k≤9)):(Instr.lookup 230 (.map (some m)) (.int .i64 k) true).run prog w=.ok (.tuple #[Sl.nil.v,.bool false]) w:=by
 obtain ⟨M,hM,hL,hks⟩:=h.ex;rcases hM.get (P:=prog) (T:=230) underlying230 underlying3 (zeroValue259 _) k true with ⟨_,hr⟩ | ⟨s,hs,_⟩
 ·exact hr
 ·have:k∈M.map Prod.fst:=List.mem_map.2 ⟨_,uW hs,rfl⟩;rw [hks] at this;simp at this;omega
end Go.Proofs
end
section
open Go Go.SE
open Go.IntKind renaming i64 → q6
namespace Go.Proofs
open Tryz
set_option maxRecDepth 100000
set_option maxHeartbeats 4000000
attribute [local irreducible] wpL wpX opE wpE Calls
def m_H4 (p1:Option Addr) (w0:World) (K:(Option Addr)→WP):Prop :=Br (Option.isNone p1) (K none w0) (∀(p2:Addr) (w1:World),New w0 (.map #[] 0) p2 w1→∀(p3:Addr) (w2:World),New w1 (.cells #[(vp p1),Sl.nil.v,(.map (some p2.block)),Sl.nil.v] 165) p3 w2→K (some p3) w2)
theorem w_H4 (p1:Option Addr) (w0:World) (K:(Option Addr)→WP) (h:m_H4 p1 w0 K) :
  Calls prog 45 #[(vp p1)] w0 (fun e w'=>∃r1:Option Addr,e=.returned (vp r1)∧K r1 w'):=by
 refine cw (args:=[(vp p1)]) func45 ntmps45 (eg (q0 (vp none) (ln (zA (eg (q0 (vp p1) (q2 (vb (Option.isNone p1)) (vY (by kernel_rfl) rfl underlying91) (zB ?_))))))))
 refine zK ?_
 refine cbr h ?_ ?_<;>intro h
 refine eg (q (ln (er (vF (rs1 results45 ⟨none,rfl,h⟩)))))
 refine zC (zK (eg (q (nw4 (fun p=>.map (some p.block)) h fun p2 w1 h=>?_))))
 refine q (nw1 h xb fun p3 w2 h=>?_)
 refine q (ln (er (rs1 results45 ⟨(some p3),rfl,h⟩)))
def m_U_j2 (p1:Addr) (at1:Int) (p5 a9:Addr) (w0:World) (H:NP) (w:World) (Kc1:Int→NP→WP) (_K:WP):Prop :=∃v15:Int,w.cell? a9=some (vi v15)∧Br (v15 == 4) (∃v16:Int,w.cell? (a9.add 5)=some (vi v16)∧Calls prog 164 #[(vi v16),(vi 1),(vp (some p1)),(vp (some p5))] w (fun e w13=>e=.returned (.tuple #[])∧Kept H w w13∧∃v17:Int,w13.cell? (a9.add 6)=some (vi v17)∧Calls prog 164 #[(vi v17),(vi 2),(vp (some p1)),(vp (some p5))] w13 (fun e w14=>e=.returned (.tuple #[])∧Kept H w13 w14∧Kc1 (q6.wrap (at1+1)) H w14))) (∀y1:Bool,y1=(cond (v15 == 7) (v15 == 7) (cond (v15 == 8) (v15 == 8) (v15 == 9)))→Br y1 (∀(H3:NP) (w15:World),Hst w0 H w H3 w15→∃v18:Int,w15.cell? (a9.add 5)=some (vi v18)∧Calls prog 164 #[(vi v18),(vi 3),(vp (some p1)),(vp (some p5))] w15 (fun e w16=>e=.returned (.tuple #[])∧Kept H3 w15 w16∧Kc1 (q6.wrap (at1+1)) H3 w16)) (∀(H3:NP) (w15:World),Hst w0 H w H3 w15→Kc1 (q6.wrap (at1+1)) H3 w15))
def m_U_l1 (p1:Addr) (at1:Int) (w0:World) (Hl1:NP) (wl1:World) (Kc1:Int→NP→WP) (K:WP):Prop :=∃v10:Option Addr,wl1.cell? p1=some (vp v10)∧∃a6:Addr,v10=some a6∧∃v11:Sl,wl1.cell? (a6.add 3)=some v11.v∧Br (decide (at1<(v11.len:Int))) (∃v12:Option Addr,wl1.cell? p1=some (vp v12)∧∃a7:Addr,v12=some a7∧∃v13:Sl,wl1.cell? (a7.add 3)=some v13.v∧∃a8:Addr,At v13 at1 1 a8∧∃v14:Int,wl1.cell? a8=some (vi v14)∧∀(p5:Addr) (w11:World),New wl1 (.cells #[(vi 0)] 78) p5 w11→CanW w11 p5∧¬ Hl1 p5.block∧∀w12:World,w12=w11.setCell p5 (vi v14)→∃C3:WP,C3 w12.drew∧∀w17,w17=w12.drew→∃v19:Option Addr,(∀w',C3 w'→w'.cell? p1=some (vp v19))∧∃a10:Addr,v19=some a10∧∃v20:Option Addr,(∀w',C3 w'→w'.cell? a10=some (vp v20))∧∃v21:Int,(∀w',C3 w'→w'.cell? p5=some (vi v21))∧(Calls prog 104 #[(vp v20),(vi v21)] w17 (fun e w18=>∃aA aC:Int,∃aD aF:Int,∃aG:ByteArray,∃aB aE:Int,∃r1:Bool,e=.returned (.tuple #[(.agg #[(vi aA),(vi aC),(vi aD),(vu aF),(vs aG),(vi aB),(vi aE)]),(vb r1)])∧C3 w18∧Kept Hl1 w17 w18∧∀(p6:Addr) (w19:World),New w18 (.cells #[(vi 0),(vi 0),(vi 0),(vu 0),ve,(vi 0),(vi 0)] 127) p6 w19→C3 w19∧(∀j,j<7→CanW w19 (p6.add j))∧¬ Hl1 p6.block∧∀w20:World,w20=storeRow w19 p6 [(vi aA),(vi aC),(vi aD),(vu aF),(vs aG),(vi aB),(vi aE)]→C3 w20∧m_U_j2 p1 at1 p5 p6 w0 Hl1 w20 Kc1 K))∧(∀(p7:Addr) (w21:World),New w17 (.cells #[(vi 0),(vi 0),(vi 0),(vu 0),ve,(vi 0),(vi 0)] 127) p7 w21→C3 w21∧Calls prog 104 #[(vp v20),(vi v21)] w21 (fun e w22=>∃aP aQ:Int,∃aR aS:Int,∃aT:ByteArray,∃aU aV:Int,∃r2:Bool,e=.returned (.tuple #[(.agg #[(vi aP),(vi aQ),(vi aR),(vu aS),(vs aT),(vi aU),(vi aV)]),(vb r2)])∧C3 w22∧Kept Hl1 w21 w22∧(∀j,j<7→CanW w22 (p7.add j))∧¬ Hl1 p7.block∧∀w23:World,w23=storeRow w22 p7 [(vi aP),(vi aQ),(vi aR),(vu aS),(vs aT),(vi aU),(vi aV)]→C3 w23∧m_U_j2 p1 at1 p5 p7 w0 Hl1 w23 Kc1 K))) (K wl1)
def m_U (k1:Option Addr) (t1 wrule1 wfrom1:Int) (w0:World) (K:WP):Prop :=∀(p1:Addr) (w1:World),New w0 (.cells #[(vp k1)] 93) p1 w1→∀(H1:NP) (w2:World),Hst w0 None w1 H1 w2→∃v1:Option Addr,w2.cell? p1=some (vp v1)∧∃a1:Addr,v1=some a1∧∃v2:Option Nat,w2.cell? (a1.add 2)=some (.map v2)∧∃vrule1 vfrom1:Int,∃ok1:Bool,(Instr.lookup 163 (.map v2) (vi t1) true).run prog w2=.ok (.tuple #[(.agg #[(vi vrule1),(vi vfrom1)]),(vb ok1)]) w2∧Br ok1 (∀(H2:NP) (w4:World),Hst w0 H1 w2 H2 w4→K w4) (∀(H2:NP) (w4:World),Hst w0 H1 w2 H2 w4→∃C1:WP,C1 w4.drew∧∀w5,w5=w4.drew→∃v3:Option Addr,(∀w',C1 w'→w'.cell? p1=some (vp v3))∧∃a2:Addr,v3=some a2∧∃v4:Option Nat,(∀w',C1 w'→w'.cell? (a2.add 2)=some (.map v4))∧∃w6:World,(Instr.mapUpdate 163 (.map v4) (vi t1) (.agg #[(vi wrule1),(vi wfrom1)])).run prog w5=.ok () w6∧Kept H2 w5 w6∧∃v5:Option Addr,w6.cell? p1=some (vp v5)∧∃a3:Addr,v5=some a3∧∃v6:Sl,w6.cell? (a3.add 3)=some v6.v∧∃C2:WP,C2 w6.drew∧∀w7,w7=w6.drew→∃v7:Option Addr,(∀w',C2 w'→w'.cell? p1=some (vp v7))∧∃v8:Option Addr,(∀w',C2 w'→w'.cell? p1=some (vp v8))∧∃a4:Addr,v8=some a4∧∃v9:Sl,(∀w',C2 w'→w'.cell? (a4.add 3)=some v9.v)∧∀(p4:Addr) (w8:World),New w7 (.cells #[(vi t1)] 78) p4 w8→C2 w8∧∃s1:Sl,∃w9:World,(Builtin.append_ #[54,54] 54 #[v9.v,(Sl.mk (some p4) 1 1).v]).run prog w8=.ok s1.v w9∧C2 w9∧Kept H2 w8 w9∧∃a5:Addr,v7=some a5∧CanW w9 (a5.add 3)∧¬ H2 (a5.add 3).block∧∀w10:World,w10=w9.setCell (a5.add 3) s1.v→∃(I1:Int→NP→WP) (mu1:Int→World→Nat),I1 (v6.len:Int) H2 w10∧∀(at1:Int) (Hl1:NP) (wl1:World),Hst w0 Hl1 wl1 Hl1 wl1→I1 at1 Hl1 wl1→m_U_l1 p1 at1 w0 Hl1 wl1 (fun y'0 H' w'=>I1 y'0 H' w'∧mu1 y'0 w'<mu1 at1 wl1) K)
theorem w_U (k1:Option Addr) (t1 wrule1 wfrom1:Int) (w0:World) (K:WP) (h:m_U k1 t1 wrule1 wfrom1 w0 K) :
  Calls prog 106 #[(vp k1),(vi t1),(.agg #[(vi wrule1),(vi wfrom1)])] w0 (fun e w'=>e=.returned (.tuple #[])∧K  w'):=by
 refine cw (args:=[(vp k1),(vi t1),(.agg #[(vi wrule1),(vi wfrom1)])]) func106 ntmps106 ?_
 obtain ⟨hs,hb⟩:=st0 w0
 refine eg (nw2 hs hb h xb fun p1 w1 hs hb h=>?_)
 refine nw3 [(vi wrule1),(vi wfrom1)] 171 hs hb xb fun p2 w2 H1 hs hb=>?_
 refine ln (zA (eg ?_))
 have ⟨h,hs⟩:=hs.hr (h H1 w2)
 refine ql (isAgg93 _) h fun v1 h=>?_
 refine qm h fun a1 h=>q ?_
 refine ql (isAgg163 _) h fun v2 h=>q ?_
 obtain ⟨vrule1,vfrom1,ok1,hv23,h⟩:=h
 refine q2 (.tuple #[(.agg #[(vi vrule1),(vi vfrom1)]),(vb ok1)]) (qQ (by kernel_rfl) (by kernel_rfl) hv23) (qc (nw3 [(vi 0),(vi 0)] 171 hs hb (zQ (zeroValue171 _) rfl) fun p3 w3 H2 hs hb=>?_))
 refine sbx 0 [(vi vrule1),(vi vfrom1)] (sizeOf171 _) hs hb gZ fun w4 hs hb=>?_
 refine q (ln (eg (q (ln ?_))))
 refine cbr h ?_ ?_<;>intro h
 refine er (vF ?_)
 have ⟨h,hs⟩:=hs.hr (h H2 w4)
 refine jFI (.inl rfl) results106 ?_
 exact ⟨rfl,h⟩
 refine zC (zK (zA ?_))
 have ⟨h,hs⟩:=hs.hr (h H2 w4)
 obtain ⟨C1,hC,h⟩:=h
 refine dr2 (fun x=>C1 x∧HB H2 x _) [6] [6] ⟨hC,hb.drew⟩ h hs hb fun w5 hs hb h=>?_
 have hs:=hs.here
 refine qg 0 ?_
 obtain ⟨v3,hv22,h⟩:=h
 refine sy Kp0 (fun _ k=>xl (isAgg93 _) (hv22 _ k.1)) (qg 1 ?_)
 obtain ⟨a2,hp2,h⟩:=h
 refine sy Kp1 (fun _ _=>xn hp2) (qx 2 (vp (some (a2.add 2))) Kp2 (qg 3 ?_))
 obtain ⟨v4,hv21,h⟩:=h
 refine sy Kp3 (fun _ k=>xl (isAgg163 _) (hv21 _ k.1)) (qx 4 (vi t1) Kp4 (qz 5 (.agg #[(vi wrule1),(vi wfrom1)]) Kp5 (fun w' hw'=>(xa p2 [(vi wrule1),(vi wfrom1)] (isAgg171 _) (sizeOf171 _) (hw'.2.r0 1 2 (gS gZ)))) (lg 6 ?_)))
 obtain ⟨w6,hv20,hk,h⟩:=h
 refine jGY Kp6 (zL rfl) (by kernel_rfl) (yR (by kernel_rfl) (by kernel_rfl) (by kernel_rfl) hv20) (.inl (by kernel_rfl)) ?_
 obtain ⟨hs,hb⟩:=hk.hh hs hb
 refine wn (zK (eg ?_))
 refine ql (isAgg93 _) h fun v5 h=>?_
 refine qm h fun a3 h=>q ?_
 refine ql (isAgg54 _) h fun v6 h=>qb (ln (zA ?_))
 obtain ⟨C2,hC,h⟩:=h
 refine dr2 (fun x=>C2 x∧HB H2 x _) [6,7,10] [10] ⟨hC,hb.drew⟩ h hs hb fun w7 hs hb h=>?_
 have hs:=hs.here
 refine qg 0 ?_
 obtain ⟨v7,hv17,h⟩:=h
 refine sy Kp0 (fun _ k=>xl (isAgg93 _) (hv17 _ k.1)) (qg 1 ?_)
 obtain ⟨v8,hv16,h⟩:=h
 refine sy Kp1 (fun _ k=>xl (isAgg93 _) (hv16 _ k.1)) (qg 2 ?_)
 obtain ⟨a4,hp4,h⟩:=h
 refine sy Kp2 (fun _ _=>xn hp4) (qx 3 (vp (some (a4.add 3))) Kp3 (qg 4 ?_))
 obtain ⟨v9,hv15,h⟩:=h
 refine sy Kp4 (fun _ k=>xl (isAgg54 _) (hv15 _ k.1)) (qx 5 (vi t1) Kp5 (lg 6 (jBQ (O:=(.cells #[(vi t1)] 78)) (fun p=>(Sl.mk (some p) 1 1).v) Kp6 (zL rfl) (by kernel_rfl) (vJ (vs:=#[(0,(vi t1))]) (by kernel_rfl) (by kernel_rfl)) ?_)))
 intro p4 w8 hn11
 have h:=h p4 w8 hn11
 refine ⟨.inr ⟨h.1,hb.kept (Ext.new (F:=None) hn11).keptP⟩,?_⟩
 have h:=h.2
 obtain ⟨hs,hb⟩:=hs.nw hb hn11
 refine lg 7 ?_
 obtain ⟨s1,w9,hv14,hC,hk,h⟩:=h
 refine sl (v:=s1.v) Kp7 (zL rfl) (by kernel_rfl) (vI (args:=#[v9.v,(Sl.mk (some p4) 1 1).v]) (by kernel_rfl) (fun _=>rfl) hv14) (.inr ⟨hC,hb.kept hk⟩) ?_
 obtain ⟨hs,hb⟩:=hk.hh hs hb
 refine qg 8 ?_
 obtain ⟨a5,hp5,h⟩:=h
 refine sy Kp8 (fun _ _=>xn hp5) (qx 9 (vp (some (a5.add 3))) Kp9 (lg 10 ?_))
 obtain ⟨hp6,hnh,h⟩:=h
 refine jSX (zT (S8 (zH (zH zS)))) (xs (v:=s1.v) (sizeOf54 _) hp6) ?_
 intro w10 hn4
 have h:=h w10 hn4
 refine ⟨.inl (by kernel_rfl),?_⟩
 have hk:=Kept.sc hnh hn4
 obtain ⟨hs,hb⟩:=hk.hh hs hb
 refine wn (zK (zJ ?_))
 obtain ⟨I1,mu1,h0,hr⟩:=h
 refine vP (σ:=Int×NP×World) (fun s ρ w=>w=s.2.2∧Has ρ [(3,(vp (some p1))),(8,(vi s.1))]∧Hst w0 s.2.1 w s.2.1 w∧HB s.2.1 w [(p3,[(vi vrule1),(vi vfrom1)],171),(p2,[(vi wrule1),(vi wfrom1)],171)]∧I1 s.1 s.2.1 s.2.2) (fun s=>mu1 s.1 s.2.2) ((v6.len:Int),H2,w10) ⟨rfl,hm,hs,hb,h0⟩ ?_
 rintro ⟨at1,Hl1,wl1⟩ ρ w ⟨hw,hH,hs,hb,hI⟩
 dsimp only at hw hH hs hb;subst w
 have h:=hr at1 Hl1 wl1 hs hI
 refine zW hH ?_
 refine zA (eg (q ?_))
 refine ql (isAgg93 _) h fun v10 h=>?_
 refine qm h fun a6 h=>q ?_
 refine ql (isAgg54 _) h fun v11 h=>qb (ln ?_)
 refine cbr h ?_ ?_<;>intro h
 refine zC (zK (zA (zJ (eg ?_))))
 refine ql (isAgg93 _) h fun v12 h=>?_
 refine qm h fun a7 h=>q ?_
 refine ql (isAgg54 _) h fun v13 h=>q ?_
 refine qi (runUnderlying54 _) (sizeOf78 _) h fun a8 h=>?_
 refine ql (isAgg78 _) h fun v14 h=>sn (O:=(.cells #[(vi 0)] 78)) (zQ (zeroValue78 _) rfl) ?_
 intro p5 w11 hn10
 have h:=h p5 w11 hn10
 obtain ⟨hs,hb⟩:=hs.nw hb hn10
 refine st2 (sizeOf78 _) hs hb h fun w12 hs hb h=>?_
 refine ln (zA ?_)
 refine vE (fun ρ w=>∃a9:Addr,∃H:NP,Has ρ [(3,(vp (some p1))),(8,(vi at1)),(9,(vp (some p5))),(10,(vp (some a9)))]∧Hst w0 H w H w∧HB H w [(p3,[(vi vrule1),(vi vfrom1)],171),(p2,[(vi wrule1),(vi wfrom1)],171)]∧m_U_j2 p1 at1 p5 a9 w0 H w (fun y'0 H' w'=>I1 y'0 H' w'∧mu1 y'0 w'<mu1 at1 wl1) K) ?_ ?_
 rintro ρ w ⟨a9,H,hH,hs,hb,h⟩
 refine zW hH ?_
 refine eg (qb (ln (eg (q ?_))))
 refine ql (isAgg3 _) h fun v15 h=>ln (zJ (eg (qb (ln ?_))))
 refine cbr h ?_ ?_<;>intro h
 refine eg (qb ?_)
 refine ql (isAgg78 _) h fun v16 h=>?_
 refine kZ (zL rfl) (jGS (fs:=#[]) (caps:=#[(vp (some p1)),(vp (some p5))]) (args:=#[(vi v16),(vi 1)]) (args':=#[(vi v16),(vi 1),(vp (some p1)),(vp (some p5))]) (by kernel_rfl) call164 (by kernel_rfl) (by kernel_rfl)) (h.mono ?_)
 rintro e w13 ⟨rfl,hk,h⟩
 refine ⟨_,rfl,?_⟩
 obtain ⟨hs,hb⟩:=hk.hh hs hb
 refine ln (rg (qb ?_))
 refine ql (isAgg78 _) h fun v17 h=>?_
 refine kZ (zL rfl) (jGS (fs:=#[]) (caps:=#[(vp (some p1)),(vp (some p5))]) (args:=#[(vi v17),(vi 2)]) (args':=#[(vi v17),(vi 2),(vp (some p1)),(vp (some p5))]) (by kernel_rfl) call164 (by kernel_rfl) (by kernel_rfl)) (h.mono ?_)
 rintro e w14 ⟨rfl,hk,h⟩
 refine ⟨_,rfl,?_⟩
 obtain ⟨hs,hb⟩:=hk.hh hs hb
 refine zB (xW (xW (zK (rg (qc (ln ?_))))))
 exact ⟨((q6.wrap (at1+1)),H,w14),⟨rfl,hm,hs,hb,h.1⟩,h.2⟩
 refine zA (eg (qb (ln ?_)))
 refine vK (fun ρ wJ=>∃b1'0 b1'1 y1:Bool,∃HJ:NP,((v15 == 7)=b1'0)∧((v15 == 8)=b1'1)∧(y1=(cond b1'0 (v15 == 7) (cond b1'1 (v15 == 8) (v15 == 9))))∧Hst w0 H w HJ wJ∧HB HJ wJ [(p3,[(vi vrule1),(vi vfrom1)],171),(p2,[(vi wrule1),(vi wfrom1)],171)]∧Has ρ [(3,(vp (some p1))),(8,(vi at1)),(10,(vp (some a9))),(12,(.func (.func 164) #[] #[(vp (some p1)),(vp (some p5))])),(82,(vb y1))]) ?_ ?_
 refine vH (t:=(v15 == 7)) (by kernel_rfl) (fun hc6=>?_) (fun hc6=>?_)
 refine zC (zK ?_)
 exact ⟨true,_,_,_,hc6,rfl,rfl,hs,hb,hm⟩
 refine eg (qb (ln ?_))
 refine vH (t:=(v15 == 8)) (by kernel_rfl) (fun hc7=>?_) (fun hc7=>?_)
 refine zC (zK ?_)
 exact ⟨false,true,_,_,hc6,hc7,rfl,hs,hb,hm⟩
 refine rg (qb (ln ?_))
 exact ⟨false,false,_,_,hc6,hc7,rfl,hs,hb,hm⟩
 rintro ρ w15 ⟨b1'0,b1'1,y1,H3,he0,he1,hy1,hs,hb,hH⟩
 subst he0
 subst he1
 have h:=h y1 hy1
 refine vD hH ?_
 refine zK ?_
 refine cbr h ?_ ?_<;>intro h
 refine rg (qb ?_)
 have ⟨h,hs⟩:=hs.hr (h H3 w15)
 refine ql (isAgg78 _) h fun v18 h=>?_
 refine kZ (zL rfl) (jGS (fs:=#[]) (caps:=#[(vp (some p1)),(vp (some p5))]) (args:=#[(vi v18),(vi 3)]) (args':=#[(vi v18),(vi 3),(vp (some p1)),(vp (some p5))]) (by kernel_rfl) call164 (by kernel_rfl) (by kernel_rfl)) (h.mono ?_)
 rintro e w16 ⟨rfl,hk,h⟩
 refine ⟨_,rfl,?_⟩
 obtain ⟨hs,hb⟩:=hk.hh hs hb
 refine zB (xW (xW (zK (rg (qc (ln ?_))))))
 exact ⟨((q6.wrap (at1+1)),H3,w16),⟨rfl,hm,hs,hb,h.1⟩,h.2⟩
 refine zC (xW (xW (zK (rg (qc (zB ?_))))))
 have ⟨h,hs⟩:=hs.hr (h H3 w15)
 refine zK ?_
 exact ⟨((q6.wrap (at1+1)),H3,w15),⟨rfl,hm,hs,hb,h.1⟩,h.2⟩
 obtain ⟨C3,hC,h⟩:=h
 refine dr2 (fun x=>C3 x∧HB Hl1 x _) [5,9,10] [] ⟨hC,hb.drew⟩ h hs hb fun w17 hs hb h=>?_
 have hs:=hs.here
 refine qg 0 ?_
 obtain ⟨v19,hv7,h⟩:=h
 refine sy Kp0 (fun _ k=>xl (isAgg93 _) (hv7 _ k.1)) (qg 1 ?_)
 obtain ⟨a10,hp10,h⟩:=h
 refine sy Kp1 (fun _ _=>xn hp10) (qx 2 (vp (some a10)) Kp2 (qg 3 ?_))
 obtain ⟨v20,hv6,h⟩:=h
 refine sy Kp3 (fun _ k=>xl (isAgg91 _) (hv6 _ k.1)) (qg 4 ?_)
 obtain ⟨v21,hv5,h⟩:=h
 refine sy Kp4 (fun _ k=>xl (isAgg78 _) (hv5 _ k.1)) ?_
 refine lgo2 (k:=5) (k':=9) (by kernel_rfl) ?_ ?_
 have h:=h.1
 refine slc Kp5 call104 (h.mono ?_)
 rintro e w18 ⟨aA,aC,aD,aF,aG,aB,aE,r1,rfl,hC,hk,h⟩
 refine ⟨_,rfl,.inr ⟨hC,hb.kept hk⟩,?_⟩
 obtain ⟨hs,hb⟩:=hk.hh hs hb
 refine qx 6 (.tuple #[(.agg #[(vi aA),(vi aC),(vi aD),(vu aF),(vs aG),(vi aB),(vi aE)]),(vb r1)]) Kp6 (qx 7 (.agg #[(vi aA),(vi aC),(vi aD),(vu aF),(vs aG),(vi aB),(vi aE)]) Kp7 (qx 8 (vb r1) Kp8 (lg 9 (jBQ (O:=(.cells #[(vi 0),(vi 0),(vi 0),(vu 0),ve,(vi 0),(vi 0)] 127)) (fun p=>.pointer (some p)) Kp9 (zL rfl) (by kernel_rfl) (zQ (zeroValue127 _) rfl) ?_))))
 intro p6 w19 hn7
 have h:=h p6 w19 hn7
 refine ⟨.inr ⟨h.1,hb.kept (Ext.new (F:=None) hn7).keptP⟩,?_⟩
 have h:=h.2
 obtain ⟨hs,hb⟩:=hs.nw hb hn7
 refine lg 10 ?_
 obtain ⟨hp11,hnh,h⟩:=h
 refine tH (zT (S8 (zH (zH zS)))) (zL rfl) (by kernel_rfl) (xo p6 [(vi aA),(vi aC),(vi aD),(vu aF),(vs aG),(vi aB),(vi aE)] (sizeOf127 _) hp11) ?_
 intro w20 hn6
 have h:=h w20 hn6
 refine ⟨.inr ⟨h.1,hb.kept (by rw [hn6];exact Kept.storeRow hnh)⟩,?_⟩
 have h:=h.2
 have hk:Kept Hl1 w19 w20:=by rw [hn6];exact Kept.storeRow hnh
 obtain ⟨hs,hb⟩:=hk.hh hs hb
 refine qx 11 (vb r1) (zT (S8 (zH (zH (zH zS))))) (wn (zK ?_))
 exact ⟨p6,Hl1,hm,hs,hb,h⟩
 have h:=h.2
 refine jBQ (O:=(.cells #[(vi 0),(vi 0),(vi 0),(vu 0),ve,(vi 0),(vi 0)] 127)) (fun p=>.pointer (some p)) Kp9 (zL rfl) (by kernel_rfl) (zQ (zeroValue127 _) rfl) ?_
 intro p7 w21 hn9
 have h:=h p7 w21 hn9
 refine ⟨.inr ⟨h.1,hb.kept (Ext.new (F:=None) hn9).keptP⟩,?_⟩
 have h:=h.2
 obtain ⟨hs,hb⟩:=hs.nw hb hn9
 refine lg 5 ?_
 refine slc Kp5 call104 (h.mono ?_)
 rintro e w22 ⟨aP,aQ,aR,aS,aT,aU,aV,r2,rfl,hC,hk,h⟩
 refine ⟨_,rfl,.inr ⟨hC,hb.kept hk⟩,?_⟩
 obtain ⟨hs,hb⟩:=hk.hh hs hb
 refine qx 6 (.tuple #[(.agg #[(vi aP),(vi aQ),(vi aR),(vu aS),(vs aT),(vi aU),(vi aV)]),(vb r2)]) Kp6 (qx 7 (.agg #[(vi aP),(vi aQ),(vi aR),(vu aS),(vs aT),(vi aU),(vi aV)]) Kp7 (qx 8 (vb r2) Kp8 (lg 10 ?_)))
 obtain ⟨hp12,hnh,h⟩:=h
 refine tH (zT (S8 (zH (zH zS)))) (zL rfl) (by kernel_rfl) (xo p7 [(vi aP),(vi aQ),(vi aR),(vu aS),(vs aT),(vi aU),(vi aV)] (sizeOf127 _) hp12) ?_
 intro w23 hn8
 have h:=h w23 hn8
 refine ⟨.inr ⟨h.1,hb.kept (by rw [hn8];exact Kept.storeRow hnh)⟩,?_⟩
 have h:=h.2
 have hk:Kept Hl1 w22 w23:=by rw [hn8];exact Kept.storeRow hnh
 obtain ⟨hs,hb⟩:=hk.hh hs hb
 refine qx 11 (vb r2) (zT (S8 (zH (zH (zH zS))))) (wn (zK ?_))
 exact ⟨p7,Hl1,hm,hs,hb,h⟩
 refine vO (uU (uU (uY (jFI (.inr rfl) results106 ?_))))
 exact ⟨rfl,h⟩
def m_G2 (k1:Option Addr) (t1:Int) (w0:World) (K:Int→WP):Prop :=Br (Option.isNone k1) (K 7 w0) (∃a1:Addr,k1=some a1∧∃v1:Option Addr,w0.cell? a1=some (vp v1)∧Calls prog 104 #[(vp v1),(vi t1)] w0 (fun e w1=>∃aA aC:Int,∃aD aF:Int,∃aG:ByteArray,∃aB aE:Int,∃r1:Bool,e=.returned (.tuple #[(.agg #[(vi aA),(vi aC),(vi aD),(vu aF),(vs aG),(vi aB),(vi aE)]),(vb r1)])∧Kept None w0 w1∧Br (!r1) (∀(H1:NP) (w3:World),Hst w0 None w1 H1 w3→K 51 w3) (∃a2:Addr,k1=some a2∧∀(H1:NP) (w3:World),Hst w0 None w1 H1 w3→∃v2:Sl,w3.cell? (a2.add 1)=some v2.v∧Calls prog 105 #[v2.v,(vi t1)] w3 (fun e w4=>∃r2:Bool,e=.returned (vb r2)∧Kept H1 w3 w4∧Br (!r2) (∃a3:Addr,k1=some a3∧∃v3:Sl,w4.cell? (a3.add 1)=some v3.v∧∀(p2:Addr) (w5:World),New w4 (.cells #[(vi t1)] 78) p2 w5→∃s1:Sl,∃w6:World,(Builtin.append_ #[54,54] 54 #[v3.v,(Sl.mk (some p2) 1 1).v]).run prog w5=.ok s1.v w6∧Kept H1 w5 w6∧∃a4:Addr,k1=some a4∧CanW w6 (a4.add 1)∧¬ H1 (a4.add 1).block∧∀w7:World,w7=w6.setCell (a4.add 1) s1.v→Calls prog 106 #[(vp k1),(vi t1),(.agg #[(vi 0),(vi 0)])] w7 (fun e w8=>e=.returned (.tuple #[])∧Kept H1 w7 w8∧K 0 w8)) (Calls prog 106 #[(vp k1),(vi t1),(.agg #[(vi 0),(vi 0)])] w4 (fun e w9=>e=.returned (.tuple #[])∧Kept H1 w4 w9∧K 0 w9))))))
theorem w_G2 (k1:Option Addr) (t1:Int) (w0:World) (K:Int→WP) (h:m_G2 k1 t1 w0 K) :
  Calls prog 47 #[(vp k1),(vi t1)] w0 (fun e w'=>∃r3:Int,e=.returned (vi r3)∧K r3 w'):=by
 refine cw (args:=[(vp k1),(vi t1)]) func47 ntmps47 ?_
 obtain ⟨hs,hb⟩:=st0 w0
 refine eg (q (ln (zA (eg (q (q2 (vb (Option.isNone k1)) (vY (by kernel_rfl) rfl underlying93) (ln ?_)))))))
 refine cbr h ?_ ?_<;>intro h
 refine eg (q (ln (er (vF (rs1 results47 ⟨7,rfl,h⟩)))))
 refine zC (zK (zA (eg (q ?_))))
 refine qm h fun a1 h=>q ?_
 refine ql (isAgg91 _) h fun v1 h=>q ?_
 refine sc call104 (h.mono fun e w1 ⟨aA,aC,aD,aF,aG,aB,aE,r1,k,hk,h⟩=>have ⟨hs,hb⟩:=hk.hh hs hb;⟨_,k,?_⟩)
 refine qc (nw3 [(vi 0),(vi 0),(vi 0),(vu 0),ve,(vi 0),(vi 0)] 127 hs hb (zQ (zeroValue127 _) rfl) fun p1 w2 H1 hs hb=>?_)
 refine sbx 0 [(vi aA),(vi aC),(vi aD),(vu aF),(vs aG),(vi aB),(vi aE)] (sizeOf127 _) hs hb gZ fun w3 hs hb=>?_
 refine q (ln (eg (qb (ln ?_))))
 refine cbr h ?_ ?_<;>intro h
 refine eg (q (ln (er (vF ?_))))
 have ⟨h,hs⟩:=hs.hr (h H1 w3)
 refine rs1 results47 ⟨51,rfl,h⟩
 refine zC (zK (zA (eg (q ?_))))
 refine qm h fun a2 h=>q ?_
 have ⟨h,hs⟩:=hs.hr (h H1 w3)
 refine ql (isAgg54 _) h fun v2 h=>q ?_
 refine sc call105 (h.mono fun e w4 ⟨r2,k,hk,h⟩=>have ⟨hs,hb⟩:=hk.hh hs hb;⟨_,k,?_⟩)
 refine q (ln ?_)
 refine cbr h ?_ ?_<;>intro h
 refine rg (qb ?_)
 refine qm h fun a3 h=>q ?_
 refine ql (isAgg54 _) h fun v3 h=>q (uE (O:=(.cells #[(vi t1)] 78)) (fun p=>(Sl.mk (some p) 1 1).v) (zL rfl) (vJ (vs:=#[(0,(vi t1))]) (by kernel_rfl) (by kernel_rfl)) ?_)
 intro p2 w5 hn4
 have h:=h p2 w5 hn4
 obtain ⟨hs,hb⟩:=hs.nw hb hn4
 obtain ⟨s1,w6,hv1,hk,h⟩:=h
 refine st (v:=s1.v) (zL rfl) (vI (args:=#[v3.v,(Sl.mk (some p2) 1 1).v]) (by kernel_rfl) (fun _=>rfl) hv1) ?_
 obtain ⟨hs,hb⟩:=hk.hh hs hb
 refine qm h fun a4 h=>q ?_
 refine st2 (sizeOf54 _) hs hb h fun w7 hs hb h=>?_
 refine ln (eg (qc ?_))
 refine sc call106 (h.mono fun e w8 ⟨k,hk,h⟩=>have ⟨hs,hb⟩:=hk.hh hs hb;⟨_,k,?_⟩)
 refine ln (eg (q (ln (er (rs1 results47 ⟨0,rfl,h⟩)))))
 refine zC (zK (eg (qc ?_)))
 refine sc call106 (h.mono fun e w9 ⟨k,hk,h⟩=>have ⟨hs,hb⟩:=hk.hh hs hb;⟨_,k,?_⟩)
 refine ln (eg (q (ln (er (rs1 results47 ⟨0,rfl,h⟩)))))
def m_H2 (k1:Option Addr) (t1:Int) (w0:World) (K:Sl→Bool→WP):Prop :=∀(p1:Addr) (w1:World),New w0 (.cells #[(vp k1)] 93) p1 w1→∃v1:Option Addr,w1.cell? p1=some (vp v1)∧Br (Option.isNone v1) (K Sl.nil false w1) (∀(p2:Addr) (w2:World),New w1 (.cells #[Sl.nil.v] 181) p2 w2→∀(p3:Addr) (w3:World),New w2 (.map #[] 0) p3 w3→∀(p4:Addr) (w4:World),New w3 (.cells #[(.map none)] 245) p4 w4→CanW w4 p4∧∀w5:World,w5=w4.setCell p4 (.map (some p3.block))→∀(p5:Addr) (w6:World),New w5 (.map #[] 0) p5 w6→∀(p6:Addr) (w7:World),New w6 (.cells #[(.map none)] 246) p6 w7→CanW w7 p6∧∀w8:World,w8=w7.setCell p6 (.map (some p5.block))→∀(p7:Addr) (w9:World),New w8 (.cells #[(.nilFunc:Value)] 247) p7 w9→CanW w9 p7∧∀w10:World,w10=w9.setCell p7 (.func (.func 171) #[] #[(vp (some p4)),(vp (some p6)),(vp (some p1)),(vp (some p7)),(vp (some p2))])→∃v2:Value,w10.cell? p7=some v2∧∃(f1:FuncId) (fs1 cs1:Array Value),v2=.func (.func f1) fs1 cs1∧(∀args w,(callFunc f1 args).run prog w=.ok (.enter f1 args) w)∧Calls prog f1 (fs1++#[(vi t1)]++cs1) w10 (fun e w11=>∃r1:Int,∃r2:Bool,e=.returned (.tuple #[(vi r1),(vb r2)])∧Br (!r2) (K Sl.nil false w11) (∃v3:Sl,w11.cell? p2=some v3.v∧K v3 true w11)))
theorem w_H2 (k1:Option Addr) (t1:Int) (w0:World) (K:Sl→Bool→WP) (h:m_H2 k1 t1 w0 K) :
  Calls prog 116 #[(vp k1),(vi t1)] w0 (fun e w'=>∃r3:Sl,∃r4:Bool,e=.returned (.tuple #[r3.v,(vb r4)])∧K r3 r4 w'):=by
 refine cw (args:=[(vp k1),(vi t1)]) func116 ntmps116 (eg (sn (O:=(.cells #[(vp k1)] 93)) xb ?_))
 intro p1 w1 hn10
 have h:=h p1 w1 hn10
 refine qb (ln (zA (eg ?_)))
 refine ql (isAgg93 _) h fun v1 h=>q2 (vb (Option.isNone v1)) (vY (by kernel_rfl) rfl underlying93) (ln ?_)
 refine cbr h ?_ ?_<;>intro h
 refine eg (qb (ln (er (vF (xO (.inl rfl) results116 (v:=Sl.nil.v) (by kernel_rfl) (v':=(vb false)) (by kernel_rfl) ?_)))))
 exact ⟨Sl.nil,false,rfl,h⟩
 refine zC (zK (eg (nw1 h (zQ (zeroValue181 _) rfl) fun p2 w2 h=>?_)))
 refine ln (eg (nw4 (fun p=>.map (some p.block)) h fun p3 w3 h=>?_))
 refine nw1 h (zQ (zeroValue245 _) rfl) fun p4 w4 h=>?_
 refine st1 (sizeOf245 _) h fun w5 h=>?_
 refine ln (eg (nw4 (fun p=>.map (some p.block)) h fun p5 w6 h=>?_))
 refine nw1 h (zQ (zeroValue246 _) rfl) fun p6 w7 h=>?_
 refine st1 (sizeOf246 _) h fun w8 h=>?_
 refine ln (eg (nw1 h (zQ (zeroValue247 _) rfl) fun p7 w9 h=>?_))
 refine ln (eg (q ?_))
 refine st1 (sizeOf247 _) h fun w10 h=>?_
 refine ln (zA (eg ?_))
 refine ql (isAgg247 _) h fun v2 h=>q ?_
 obtain ⟨f1,fs1,cs1,hp4,h⟩:=h
 obtain ⟨hf1,h⟩:=h
 refine kZ (zL rfl) (lA (fs:=fs1) (caps:=cs1) (args:=#[(vi t1)]) (by kernel_rfl) hp4 hf1 (by kernel_rfl) rfl) (h.mono ?_)
 rintro e w11 ⟨r1,r2,rfl,h⟩
 refine ⟨_,rfl,?_⟩
 refine q (qd (ln (eg (qb (zB ?_)))))
 refine zK ?_
 refine cbr h ?_ ?_<;>intro h
 refine eg (qb (ln (er (vF (xO (.inl rfl) results116 (v:=Sl.nil.v) (by kernel_rfl) (v':=(vb false)) (by kernel_rfl) ?_)))))
 exact ⟨Sl.nil,false,rfl,h⟩
 refine zC (zK (eg ?_))
 refine ql (isAgg181 _) h fun v3 h=>qb (ln (er (xO (.inl rfl) results116 (v:=v3.v) (by kernel_rfl) (v':=(vb true)) (by kernel_rfl) ?_)))
 exact ⟨v3,true,rfl,h⟩
def m_I4 (k1:Option Addr) (t1:Int) (w0:World) (K:Bool→WP):Prop :=Calls prog 116 #[(vp k1),(vi t1)] w0 (fun e w1=>∃r1:Sl,∃r2:Bool,e=.returned (.tuple #[r1.v,(vb r2)])∧K r2 w1)
theorem w_I4 (k1:Option Addr) (t1:Int) (w0:World) (K:Bool→WP) (h:m_I4 k1 t1 w0 K) :
  Calls prog 71 #[(vp k1),(vi t1)] w0 (fun e w'=>∃r3:Bool,e=.returned (vb r3)∧K r3 w'):=by
 refine cw (args:=[(vp k1),(vi t1)]) func71 ntmps71 (eg (q0 (vb false) (ln (eg (q0 (vp k1) (q0 (vi t1) ?_))))))
 refine sc call116 (h.mono fun e w1 ⟨r1,r2,k,h⟩=>⟨_,k,?_⟩)
 refine q (qd (ln (eg (qb (zB ?_)))))
 refine zK (er (rs1 results71 ⟨r2,rfl,h⟩))
def m_J4 (k1:Option Addr) (t1:Int) (w0:World) (K:Bool→WP):Prop :=Br (Option.isNone k1) (K false w0) (∃a1:Addr,k1=some a1∧∃v1:Option Nat,w0.cell? (a1.add 2)=some (.map v1)∧∃vrule1 vfrom1:Int,∃ok1:Bool,(Instr.lookup 163 (.map v1) (vi t1) true).run prog w0=.ok (.tuple #[(.agg #[(vi vrule1),(vi vfrom1)]),(vb ok1)]) w0∧∀(H1:NP) (w2:World),Hst w0 None w0 H1 w2→K ok1 w2)
theorem w_J4 (k1:Option Addr) (t1:Int) (w0:World) (K:Bool→WP) (h:m_J4 k1 t1 w0 K) :
  Calls prog 113 #[(vp k1),(vi t1)] w0 (fun e w'=>∃r1:Bool,e=.returned (vb r1)∧K r1 w'):=by
 refine cw (args:=[(vp k1),(vi t1)]) func113 ntmps113 ?_
 obtain ⟨hs,hb⟩:=st0 w0
 refine eg (q (ln (zA (eg (q (q2 (vb (Option.isNone k1)) (vY (by kernel_rfl) rfl underlying93) (ln ?_)))))))
 refine cbr h ?_ ?_<;>intro h
 refine eg (q (ln (er (vF (rs1 results113 ⟨false,rfl,h⟩)))))
 refine zC (zK (eg (q ?_)))
 refine qm h fun a1 h=>q ?_
 refine ql (isAgg163 _) h fun v1 h=>q ?_
 obtain ⟨vrule1,vfrom1,ok1,hv1,h⟩:=h
 refine q2 (.tuple #[(.agg #[(vi vrule1),(vi vfrom1)]),(vb ok1)]) (qQ (by kernel_rfl) (by kernel_rfl) hv1) (qc (nw3 [(vi 0),(vi 0)] 171 hs hb (zQ (zeroValue171 _) rfl) fun p1 w1 H1 hs hb=>?_))
 refine sbx 0 [(vi vrule1),(vi vfrom1)] (sizeOf171 _) hs hb gZ fun w2 hs hb=>?_
 refine q (ln (eg (qb (ln (er ?_)))))
 have ⟨h,hs⟩:=hs.hr (h H1 w2)
 refine rs1 results113 ⟨ok1,rfl,h⟩
def m_K4 (t1 rule1:Int) (cap1 cap2:Addr) (w0:World) (K:WP):Prop :=∃v1:Option Addr,w0.cell? cap1=some (vp v1)∧∃a1:Addr,v1=some a1∧∃v2:Option Nat,w0.cell? (a1.add 2)=some (.map v2)∧∃vrule1 vfrom1:Int,∃ok1:Bool,(Instr.lookup 163 (.map v2) (vi t1) true).run prog w0=.ok (.tuple #[(.agg #[(vi vrule1),(vi vfrom1)]),(vb ok1)]) w0∧Br (!ok1) (∀(H1:NP) (w2:World),Hst w0 None w0 H1 w2→∃C1:WP,C1 w2.drew∧∀w3,w3=w2.drew→∃v3:Option Addr,(∀w',C1 w'→w'.cell? cap1=some (vp v3))∧∃a2:Addr,v3=some a2∧∃v4:Option Nat,(∀w',C1 w'→w'.cell? (a2.add 2)=some (.map v4))∧∃v5:Int,(∀w',C1 w'→w'.cell? cap2=some (vi v5))∧∃w4:World,(Instr.mapUpdate 163 (.map v4) (vi t1) (.agg #[(vi rule1),(vi v5)])).run prog w3=.ok () w4∧Kept H1 w3 w4∧∃C2:WP,C2 w4.drew∧∀w5,w5=w4.drew→∃v6:Option Addr,(∀w',C2 w'→w'.cell? cap1=some (vp v6))∧∃v7:Option Addr,(∀w',C2 w'→w'.cell? cap1=some (vp v7))∧∃a3:Addr,v7=some a3∧∃v8:Sl,(∀w',C2 w'→w'.cell? (a3.add 3)=some v8.v)∧∀(p2:Addr) (w6:World),New w5 (.cells #[(vi t1)] 78) p2 w6→C2 w6∧∃s1:Sl,∃w7:World,(Builtin.append_ #[54,54] 54 #[v8.v,(Sl.mk (some p2) 1 1).v]).run prog w6=.ok s1.v w7∧C2 w7∧Kept H1 w6 w7∧∃a4:Addr,v6=some a4∧CanW w7 (a4.add 3)∧¬ H1 (a4.add 3).block∧∀w8:World,w8=w7.setCell (a4.add 3) s1.v→K w8) (∀(H1:NP) (w2:World),Hst w0 None w0 H1 w2→K w2)
theorem w_K4 (t1 rule1:Int) (cap1 cap2:Addr) (w0:World) (K:WP) (h:m_K4 t1 rule1 cap1 cap2 w0 K) :
  Calls prog 164 #[(vi t1),(vi rule1),(vp (some cap1)),(vp (some cap2))] w0 (fun e w'=>e=.returned (.tuple #[])∧K  w'):=by
 refine cw (args:=[(vi t1),(vi rule1),(vp (some cap1)),(vp (some cap2))]) func164 ntmps164 ?_
 obtain ⟨hs,hb⟩:=st0 w0
 refine eg ?_
 refine ql (isAgg93 _) h fun v1 h=>?_
 refine qm h fun a1 h=>q ?_
 refine ql (isAgg163 _) h fun v2 h=>q ?_
 obtain ⟨vrule1,vfrom1,ok1,hv9,h⟩:=h
 refine q2 (.tuple #[(.agg #[(vi vrule1),(vi vfrom1)]),(vb ok1)]) (qQ (by kernel_rfl) (by kernel_rfl) hv9) (qc (nw3 [(vi 0),(vi 0)] 171 hs hb (zQ (zeroValue171 _) rfl) fun p1 w1 H1 hs hb=>?_))
 refine sbx 0 [(vi vrule1),(vi vfrom1)] (sizeOf171 _) hs hb gZ fun w2 hs hb=>?_
 refine q (ln (eg (qb (ln ?_))))
 refine cbr h ?_ ?_<;>intro h
 refine zA ?_
 have ⟨h,hs⟩:=hs.hr (h H1 w2)
 obtain ⟨C1,hC,h⟩:=h
 refine dr2 (fun x=>C1 x∧HB H1 x _) [8] [8] ⟨hC,hb.drew⟩ h hs hb fun w3 hs hb h=>?_
 have hs:=hs.here
 refine qg 0 ?_
 obtain ⟨v3,hv8,h⟩:=h
 refine sy Kp0 (fun _ k=>xl (isAgg93 _) (hv8 _ k.1)) (qg 1 ?_)
 obtain ⟨a2,hp2,h⟩:=h
 refine sy Kp1 (fun _ _=>xn hp2) (qx 2 (vp (some (a2.add 2))) Kp2 (qg 3 ?_))
 obtain ⟨v4,hv7,h⟩:=h
 refine sy Kp3 (fun _ k=>xl (isAgg163 _) (hv7 _ k.1)) (qx 4 (vi t1) Kp4 (qx 5 (vi rule1) Kp5 (qg 6 ?_)))
 obtain ⟨v5,hv6,h⟩:=h
 refine sy Kp6 (fun _ k=>xl (isAgg78 _) (hv6 _ k.1)) (qx 7 (.agg #[(vi rule1),(vi v5)]) Kp7 (lg 8 ?_))
 obtain ⟨w4,hv5,hk,h⟩:=h
 refine jGY Kp8 (zL rfl) (by kernel_rfl) (yR (by kernel_rfl) (by kernel_rfl) (by kernel_rfl) hv5) (.inl (by kernel_rfl)) ?_
 obtain ⟨hs,hb⟩:=hk.hh hs hb
 refine wn (zK ?_)
 obtain ⟨C2,hC,h⟩:=h
 refine dr2 (fun x=>C2 x∧HB H1 x _) [6,7,10] [10] ⟨hC,hb.drew⟩ h hs hb fun w5 hs hb h=>?_
 have hs:=hs.here
 refine qg 0 ?_
 obtain ⟨v6,hv4,h⟩:=h
 refine sy Kp0 (fun _ k=>xl (isAgg93 _) (hv4 _ k.1)) (qg 1 ?_)
 obtain ⟨v7,hv3,h⟩:=h
 refine sy Kp1 (fun _ k=>xl (isAgg93 _) (hv3 _ k.1)) (qg 2 ?_)
 obtain ⟨a3,hp3,h⟩:=h
 refine sy Kp2 (fun _ _=>xn hp3) (qx 3 (vp (some (a3.add 3))) Kp3 (qg 4 ?_))
 obtain ⟨v8,hv2,h⟩:=h
 refine sy Kp4 (fun _ k=>xl (isAgg54 _) (hv2 _ k.1)) (qx 5 (vi t1) Kp5 (lg 6 (jBQ (O:=(.cells #[(vi t1)] 78)) (fun p=>(Sl.mk (some p) 1 1).v) Kp6 (zL rfl) (by kernel_rfl) (vJ (vs:=#[(0,(vi t1))]) (by kernel_rfl) (by kernel_rfl)) ?_)))
 intro p2 w6 hn4
 have h:=h p2 w6 hn4
 refine ⟨.inr ⟨h.1,hb.kept (Ext.new (F:=None) hn4).keptP⟩,?_⟩
 have h:=h.2
 obtain ⟨hs,hb⟩:=hs.nw hb hn4
 refine lg 7 ?_
 obtain ⟨s1,w7,hv1,hC,hk,h⟩:=h
 refine sl (v:=s1.v) Kp7 (zL rfl) (by kernel_rfl) (vI (args:=#[v8.v,(Sl.mk (some p2) 1 1).v]) (by kernel_rfl) (fun _=>rfl) hv1) (.inr ⟨hC,hb.kept hk⟩) ?_
 obtain ⟨hs,hb⟩:=hk.hh hs hb
 refine qg 8 ?_
 obtain ⟨a4,hp4,h⟩:=h
 refine sy Kp8 (fun _ _=>xn hp4) (qx 9 (vp (some (a4.add 3))) Kp9 (lg 10 ?_))
 obtain ⟨hp5,hnh,h⟩:=h
 refine jSX (zT (S8 (zH (zH zS)))) (xs (v:=s1.v) (sizeOf54 _) hp5) ?_
 intro w8 hn3
 have h:=h w8 hn3
 refine ⟨.inl (by kernel_rfl),?_⟩
 have hk:=Kept.sc hnh hn3
 obtain ⟨hs,hb⟩:=hk.hh hs hb
 refine wn (jFI (.inr rfl) results164 ?_)
 exact ⟨rfl,h⟩
 refine zC ?_
 have ⟨h,hs⟩:=hs.hr (h H1 w2)
 refine jFI (.inr rfl) results164 ?_
 exact ⟨rfl,h⟩
def m_M1_j1 (k1:Option Addr) (aB who1:Int) (H:NP) (w:World) (K:Int→Int→Bool→Bool→WP):Prop :=∃a2:Addr,k1=some a2∧∃v2:Option Addr,w.cell? a2=some (vp v2)∧Calls prog 112 #[(vp v2),(.agg #[(vi 6),(vi who1),(vi 0),(vu 0),ve,(vi 0),(vi 0)])] w (fun e w4=>∃r2:Int,∃r3:Bool,e=.returned (.tuple #[(vi r2),(vb r3)])∧Kept H w w4∧∃C1:WP,C1 w4.drew∧∀w5,w5=w4.drew→Br r3 (Calls prog 113 #[(vp k1),(vi r2)] w5 (fun e w6=>∃r4:Bool,e=.returned (vb r4)∧C1 w6∧Kept H w5 w6∧K aB r2 false r4 w6)) (K aB r2 false false w5))
def m_M1 (k1:Option Addr) (t1:Int) (w0:World) (K:Int→Int→Bool→Bool→WP):Prop :=∃a1:Addr,k1=some a1∧∃v1:Option Addr,w0.cell? a1=some (vp v1)∧Calls prog 104 #[(vp v1),(vi t1)] w0 (fun e w1=>∃aA aC:Int,∃aD aF:Int,∃aG:ByteArray,∃aB aE:Int,∃r1:Bool,e=.returned (.tuple #[(.agg #[(vi aA),(vi aC),(vi aD),(vu aF),(vs aG),(vi aB),(vi aE)]),(vb r1)])∧Kept None w0 w1∧Br (!r1) (∀(H1:NP) (w3:World),Hst w0 None w1 H1 w3→K 0 0 false false w3) (∀y1:Bool,y1=(cond (aA == 1) (aA == 1) (cond (aA == 2) (aA == 2) (aA == 3)))→Br y1 (∀(H2:NP) (w7:World),Hst w0 None w1 H2 w7→K 0 0 true true w7) (Br (aA == 4) (∀(H2:NP) (w8:World),Hst w0 None w1 H2 w8→K aB aE false true w8) (Br (aA == 5) (∀(H2:NP) (w7:World),Hst w0 None w1 H2 w7→K aB 0 false true w7) (Br (aA == 6) (∀(H2:NP) (w7:World),Hst w0 None w1 H2 w7→K 0 0 false false w7) (∀(H3:NP) (w9:World),Hst w0 None w1 H3 w9→m_M1_j1 k1 aB (cond (aA == 9) aD aC) H3 w9 K))))))
theorem w_M1 (k1:Option Addr) (t1:Int) (w0:World) (K:Int→Int→Bool→Bool→WP) (h:m_M1 k1 t1 w0 K) :
  Calls prog 172 #[(vp k1),(vi t1)] w0 (fun e w'=>∃r5 r6:Int,∃r7 r8:Bool,e=.returned (.tuple #[(vi r5),(vi r6),(vb r7),(vb r8)])∧K r5 r6 r7 r8 w'):=by
 refine cw (args:=[(vp k1),(vi t1)]) func172 ntmps172 ?_
 obtain ⟨hs,hb⟩:=st0 w0
 refine eg (qd (ln (eg (q ?_))))
 refine qm h fun a1 h=>q ?_
 refine ql (isAgg91 _) h fun v1 h=>q ?_
 refine sc call104 (h.mono fun e w1 ⟨aA,aC,aD,aF,aG,aB,aE,r1,k,hk,h⟩=>have ⟨hs,hb⟩:=hk.hh hs hb;⟨_,k,?_⟩)
 refine qc (nw3 [(vi 0),(vi 0),(vi 0),(vu 0),ve,(vi 0),(vi 0)] 127 hs hb (zQ (zeroValue127 _) rfl) fun p1 w2 H1 hs hb=>?_)
 refine sbx 0 [(vi aA),(vi aC),(vi aD),(vu aF),(vs aG),(vi aB),(vi aE)] (sizeOf127 _) hs hb gZ fun w3 hs hb=>?_
 refine q (ln (zA (eg (qb (ln ?_)))))
 refine cbr h ?_ ?_<;>intro h
 refine eg (qd (ln (er (vF ?_))))
 have ⟨h,hs⟩:=hs.hr (h H1 w3)
 refine jVP (.inl rfl) results172 (v:=(vi 0)) (by kernel_rfl) (v':=(vi 0)) (by kernel_rfl) (v'':=(vb false)) (by kernel_rfl) (v3:=(vb false)) (by kernel_rfl) ?_
 exact ⟨0,0,false,false,rfl,h⟩
 refine zC (zK (eg (q (q3 (xl (isAgg3 _) (hb.d 0 1 gZ)) (q (ln (zA (eg ?_))))))))
 refine q (q3 (xl (isAgg3 _) (hb.d0 0 gZ)) (ln ?_))
 refine vE (fun ρ w=>∃who1:Int,∃H:NP,Has ρ [(0,(vp k1)),(8,(vp (some p1))),(10,(vi who1))]∧Hst w0 H w H w∧HB H w [(p1,[(vi aA),(vi aC),(vi aD),(vu aF),(vs aG),(vi aB),(vi aE)],127)]∧m_M1_j1 k1 aB who1 H w K) ?_ ?_
 rintro ρ w ⟨who1,H,hH,hs,hb,h⟩
 refine zW hH ?_
 refine eg (q ?_)
 refine qm h fun a2 h=>q ?_
 refine ql (isAgg91 _) h fun v2 h=>qb ?_
 refine sc call112 (h.mono fun e w4 ⟨r2,r3,k,hk,h⟩=>have ⟨hs,hb⟩:=hk.hh hs hb;⟨_,k,?_⟩)
 refine q (qd (ln (zA ?_)))
 obtain ⟨C1,hC,h⟩:=h
 refine dr2 (fun x=>C1 x∧HB H x _) [7] [] ⟨hC,hb.drew⟩ h hs hb fun w5 hs hb h=>?_
 have hs:=hs.here
 refine qx 0 (vp (some (p1.add 5))) Kp0 (qz 1 (vi aB) Kp1 (fun w' hw'=>(xl (isAgg78 _) (hw'.2.cell 0 5 gZ (by kernel_rfl)))) (qx 2 (vi r2) Kp2 (qx 3 (vb r3) Kp3 (qx 4 (vb r3) Kp4 (qg 5 ?_)))))
 obtain ⟨hg1,h⟩|⟨hg1,h⟩:=h.br
 refine sz (v:=(vp k1)) Kp5 (wy 61 hg1) (fun _ _=>(by kernel_rfl)) (qw 6 (vi r2) Kp6 (wy 61 hg1) (lg 7 ?_))
 refine jLF Kp7 (wy 61 hg1) (by kernel_rfl) (xc call113) (h.mono ?_)
 rintro e w6 ⟨r4,rfl,hC,hk,h⟩
 refine ⟨_,rfl,.inr ⟨hC,hb.kept hk⟩,?_⟩
 obtain ⟨hs,hb⟩:=hk.hh hs hb
 refine qz 8 (vb r4) Kp8 (fun _ _=>(xT hg1)) (qx 9 (vi aB) Kp9 (qx 10 (vi r2) (zT (S8 (zH (zH zS)))) (qx 11 (vb false) (zT (S8 (zH (zH (zH zS))))) (qx 12 (vb r4) (zT (S8 (S4 zS))) (wn (zK (er (jVP (.inl rfl) results172 (v:=(vi aB)) (by kernel_rfl) (v':=(vi r2)) (by kernel_rfl) (v'':=(vb false)) (by kernel_rfl) (v3:=(vb r4)) (by kernel_rfl) ?_))))))))
 exact ⟨aB,r2,false,r4,rfl,h⟩
 refine jCY Kp5 (xM rfl (yD 61 hg1) rfl) (qn 6 Kp6 (xM rfl (yD 61 hg1) rfl) (lg 7 (jCY Kp7 (xM rfl (yD 61 hg1) rfl) (qz 8 (vb false) Kp8 (fun _ _=>(xF hg1)) (qx 9 (vi aB) Kp9 (qx 10 (vi r2) (zT (S8 (zH (zH zS)))) (qx 11 (vb false) (zT (S8 (zH (zH (zH zS))))) (qx 12 (vb false) (zT (S8 (S4 zS))) (wn (zK (er ?_)))))))))))
 refine jVP (.inl rfl) results172 (v:=(vi aB)) (by kernel_rfl) (v':=(vi r2)) (by kernel_rfl) (v'':=(vb false)) (by kernel_rfl) (v3:=(vb false)) (by kernel_rfl) ?_
 exact ⟨aB,r2,false,false,rfl,h⟩
 refine zJ (zA (eg (qb (ln ?_))))
 refine vK (fun ρ wJ=>∃b1'0 b1'1 y1:Bool,∃HJ:NP,((aA == 1)=b1'0)∧((aA == 2)=b1'1)∧(y1=(cond b1'0 (aA == 1) (cond b1'1 (aA == 2) (aA == 3))))∧Hst w0 None w1 HJ wJ∧HB HJ wJ [(p1,[(vi aA),(vi aC),(vi aD),(vu aF),(vs aG),(vi aB),(vi aE)],127)]∧Has ρ [(0,(vp k1)),(8,(vp (some p1))),(10,(vi aC)),(26,(vi aA)),(27,(vb y1))]) ?_ ?_
 refine vH (t:=(aA == 1)) (by kernel_rfl) (fun hc4=>?_) (fun hc4=>?_)
 refine zC (zK ?_)
 exact ⟨true,_,_,_,hc4,rfl,rfl,hs,hb,hm⟩
 refine eg (qb (ln ?_))
 refine vH (t:=(aA == 2)) (by kernel_rfl) (fun hc5=>?_) (fun hc5=>?_)
 refine zC (zK ?_)
 exact ⟨false,true,_,_,hc4,hc5,rfl,hs,hb,hm⟩
 refine rg (qb (ln ?_))
 exact ⟨false,false,_,_,hc4,hc5,rfl,hs,hb,hm⟩
 rintro ρ w7 ⟨b1'0,b1'1,y1,H2,he0,he1,hy1,hs,hb,hH⟩
 subst he0
 subst he1
 have h:=h y1 hy1
 refine vD hH ?_
 refine zK ?_
 refine cbr h ?_ ?_<;>intro h
 refine eg (qd (ln (er (uC (vF ?_)))))
 have ⟨h,hs⟩:=hs.hr (h H2 w7)
 refine jVP (.inl rfl) results172 (v:=(vi 0)) (by kernel_rfl) (v':=(vi 0)) (by kernel_rfl) (v'':=(vb true)) (by kernel_rfl) (v3:=(vb true)) (by kernel_rfl) ?_
 exact ⟨0,0,true,true,rfl,h⟩
 refine eg (qb (ln ?_))
 refine cbr h ?_ ?_<;>intro h
 refine zA (qE (by kernel_rfl) (by kernel_rfl) (by kernel_rfl) (by kernel_rfl) ?_)
 intro w8 hw8
 have hs:Hst w0 None w1 H2 w8:=by rw [hw8];exact hs.drew
 have hb:HB H2 w8 [(p1,[(vi aA),(vi aC),(vi aD),(vu aF),(vs aG),(vi aB),(vi aE)],127)]:=by rw [hw8];exact hb.drew
 refine qq 0 (vp (some (p1.add 5))) Kp0 (qr 1 (vi aB) Kp1 (xl (isAgg78 _) (hb.c 0 5 gZ)) (qq 2 (vp (some (p1.add 6))) Kp2 (qr 3 (vi aE) Kp3 (xl (isAgg78 _) (hb.c 0 6 gZ)) (qq 4 (vi aB) Kp4 (qq 5 (vi aE) Kp5 (qq 6 (vb false) Kp6 (qq 7 (vb true) Kp7 (wn (zK (er (uC ?_)))))))))))
 refine vF ?_
 have ⟨h,hs⟩:=hs.hr (h H2 w8)
 refine jVP (.inl rfl) results172 (v:=(vi aB)) (by kernel_rfl) (v':=(vi aE)) (by kernel_rfl) (v'':=(vb false)) (by kernel_rfl) (v3:=(vb true)) (by kernel_rfl) ?_
 exact ⟨aB,aE,false,true,rfl,h⟩
 refine eg (qb (ln ?_))
 refine cbr h ?_ ?_<;>intro h
 refine eg (q (q3 (xl (isAgg78 _) (hb.d 0 5 gZ)) (qd (ln (er (uC ?_))))))
 refine vF ?_
 have ⟨h,hs⟩:=hs.hr (h H2 w7)
 refine jVP (.inl rfl) results172 (v:=(vi aB)) (by kernel_rfl) (v':=(vi 0)) (by kernel_rfl) (v'':=(vb false)) (by kernel_rfl) (v3:=(vb true)) (by kernel_rfl) ?_
 exact ⟨aB,0,false,true,rfl,h⟩
 refine eg (qb (ln ?_))
 refine cbr h ?_ ?_<;>intro h
 refine eg (qd (ln (er (uC (vF ?_)))))
 have ⟨h,hs⟩:=hs.hr (h H2 w7)
 refine jVP (.inl rfl) results172 (v:=(vi 0)) (by kernel_rfl) (v':=(vi 0)) (by kernel_rfl) (v'':=(vb false)) (by kernel_rfl) (v3:=(vb false)) (by kernel_rfl) ?_
 exact ⟨0,0,false,false,rfl,h⟩
 refine eg (qb (ln ?_))
 refine vK (fun ρ wJ=>∃b2'0:Bool,∃HJ:NP,((aA == 9)=b2'0)∧Hst w0 None w1 HJ wJ∧HB HJ wJ [(p1,[(vi aA),(vi aC),(vi aD),(vu aF),(vs aG),(vi aB),(vi aE)],127)]∧Has ρ [(0,(vp k1)),(8,(vp (some p1))),(10,(vi (cond b2'0 aD aC)))]) ?_ ?_
 refine vH (t:=(aA == 9)) (by kernel_rfl) (fun hc11=>?_) (fun hc11=>?_)
 refine rg (q (q3 (xl (isAgg3 _) (hb.d 0 2 gZ)) (q (ln ?_))))
 exact ⟨true,_,hc11,hs,hb,hm⟩
 refine zC (zK ?_)
 exact ⟨false,_,hc11,hs,hb,hm⟩
 rintro ρ w9 ⟨b2'0,H3,he0,hs,hb,hH⟩
 subst he0
 refine vD hH ?_
 refine xW ?_
 have ⟨h,hs⟩:=hs.hr (h H3 w9)
 refine zK ?_
 exact ⟨(cond (aA == 9) aD aC),H3,hm,hs,hb,h⟩
def m_L_j1 (t1:Int) (cap1 cap2 cap5:Addr) (ok3:Bool) (aK aL:Int) (aM aN:Int) (H:NP) (w:World) (K:Int→Bool→WP):Prop :=Br (!ok3) (∃v7:Option Nat,w.cell? cap2=some (.map v7)∧∃w5:World,(Instr.mapUpdate 246 (.map v7) (vi t1) (vb true)).run prog w=.ok () w5∧Kept H w w5∧K 0 false w5) (∃v8:Option Nat,w.cell? cap1=some (.map v8)∧∃v9:Sl,w.cell? cap5=some v9.v∧∃w6:World,(Instr.mapUpdate 245 (.map v8) (vi t1) (vi (v9.len:Int))).run prog w=.ok () w6∧Kept H w w6∧∃v10:Sl,w6.cell? cap5=some v10.v∧∀(p3:Addr) (w7:World),New w6 (.cells #[(vi aK),(vi aL),(vi aM),(vi aN)] 185) p3 w7→∃s1:Sl,∃w8:World,(Builtin.append_ #[181,181] 181 #[v10.v,(Sl.mk (some p3) 1 1).v]).run prog w7=.ok s1.v w8∧Kept H w7 w8∧CanW w8 cap5∧¬ H cap5.block∧∀w9:World,w9=w8.setCell cap5 s1.v→∃v11:Option Nat,w9.cell? cap1=some (.map v11)∧∃v12:Int,(Instr.lookup 245 (.map v11) (vi t1) false).run prog w9=.ok (vi v12) w9∧K v12 true w9)
def m_L_j2 (t1:Int) (cap1 cap2:Addr) (cap4 cap5:Addr) (r4:Int) (ok4:Bool) (aH aI:Int) (aO aJ:Int) (w0:World) (H:NP) (w:World) (K:Int→Bool→WP):Prop :=Br (ok4 && (decide (r4>0))) (∀(H5:NP) (w19:World),Hst w0 H w H5 w19→∃v15:Value,w19.cell? cap4=some v15∧∃(f2:FuncId) (fs2 cs2:Array Value),v15=.func (.func f2) fs2 cs2∧(∀args w,(callFunc f2 args).run prog w=.ok (.enter f2 args) w)∧Calls prog f2 (fs2++#[(vi r4)]++cs2) w19 (fun e w20=>∃r7:Int,∃r8:Bool,e=.returned (.tuple #[(vi r7),(vb r8)])∧Kept H5 w19 w20∧∀(w21:World),Hst w0 H5 w20 H5 w21→m_L_j1 t1 cap1 cap2 cap5 r8 aH aI r7 aJ H5 w21 K)) (∀(H5:NP) (w19:World),Hst w0 H w H5 w19→m_L_j1 t1 cap1 cap2 cap5 ok4 aH aI aO aJ H5 w19 K)
def m_L (t1:Int) (cap1 cap2:Addr) (cap3 cap4 cap5:Addr) (w0:World) (K:Int→Bool→WP):Prop :=∃v1:Option Nat,w0.cell? cap1=some (.map v1)∧∃v2:Int,∃ok1:Bool,(Instr.lookup 245 (.map v1) (vi t1) true).run prog w0=.ok (.tuple #[(vi v2),(vb ok1)]) w0∧Br ok1 (K v2 true w0) (∀(H1:NP) (w2:World),Hst w0 None w0 H1 w2→∃v3:Option Nat,w2.cell? cap2=some (.map v3)∧∃v4:Bool,(Instr.lookup 246 (.map v3) (vi t1) false).run prog w2=.ok (vb v4) w2∧∃v5:Option Addr,w2.cell? cap3=some (vp v5)∧∃a1:Addr,v5=some a1∧∃v6:Option Nat,w2.cell? (a1.add 2)=some (.map v6)∧∃vrule1 vfrom1:Int,∃ok2:Bool,(Instr.lookup 163 (.map v6) (vi t1) true).run prog w2=.ok (.tuple #[(.agg #[(vi vrule1),(vi vfrom1)]),(vb ok2)]) w2∧Br ok2 (Br (vrule1 != 0) (∀(H2:NP) (w10:World),Hst w0 H1 w2 H2 w10→∃v13:Value,w10.cell? cap4=some v13∧∃(f1:FuncId) (fs1 cs1:Array Value),v13=.func (.func f1) fs1 cs1∧(∀args w,(callFunc f1 args).run prog w=.ok (.enter f1 args) w)∧Calls prog f1 (fs1++#[(vi vfrom1)]++cs1) w10 (fun e w11=>∃r1:Int,∃r2:Bool,e=.returned (.tuple #[(vi r1),(vb r2)])∧Kept H2 w10 w11∧∀(w12:World),Hst w0 H2 w11 H2 w12→m_L_j1 t1 cap1 cap2 cap5 (!v4) vrule1 r1 0 t1 H2 w12 K)) (∀(H2:NP) (w10:World),Hst w0 H1 w2 H2 w10→m_L_j1 t1 cap1 cap2 cap5 (!v4) vrule1 0 0 t1 H2 w10 K)) (Br (!v4) (∀(H2:NP) (w4:World),Hst w0 H1 w2 H2 w4→∃v14:Option Addr,w4.cell? cap3=some (vp v14)∧Calls prog 172 #[(vp v14),(vi t1)] w4 (fun e w13=>∃r3 r4:Int,∃r5 r6:Bool,e=.returned (.tuple #[(vi r3),(vi r4),(vb r5),(vb r6)])∧Kept H2 w4 w13∧Br (r6 && (decide (r3>0))) (∀(H4:NP) (w18:World),Hst w0 H2 w13 H4 w18→∃v16:Value,w18.cell? cap4=some v16∧∃(f3:FuncId) (fs3 cs3:Array Value),v16=.func (.func f3) fs3 cs3∧(∀args w,(callFunc f3 args).run prog w=.ok (.enter f3 args) w)∧Calls prog f3 (fs3++#[(vi r3)]++cs3) w18 (fun e w22=>∃r9:Int,∃r10:Bool,e=.returned (.tuple #[(vi r9),(vb r10)])∧Kept H4 w18 w22∧∀(w23:World),Hst w0 H4 w22 H4 w23→m_L_j2 t1 cap1 cap2 cap4 cap5 r4 r10 (cond r5 4 5) r9 0 t1 w0 H4 w23 K)) (∀(H4:NP) (w18:World),Hst w0 H2 w13 H4 w18→m_L_j2 t1 cap1 cap2 cap4 cap5 r4 r6 (cond r5 4 5) 0 0 t1 w0 H4 w18 K))) (∀(H2:NP) (w4:World),Hst w0 H1 w2 H2 w4→m_L_j1 t1 cap1 cap2 cap5 (!v4) 0 0 0 t1 H2 w4 K)))
theorem w_L (t1:Int) (cap1 cap2:Addr) (cap3 cap4 cap5:Addr) (w0:World) (K:Int→Bool→WP) (h:m_L t1 cap1 cap2 cap3 cap4 cap5 w0 K) :
  Calls prog 171 #[(vi t1),(vp (some cap1)),(vp (some cap2)),(vp (some cap3)),(vp (some cap4)),(vp (some cap5))] w0 (fun e w'=>∃r11:Int,∃r12:Bool,e=.returned (.tuple #[(vi r11),(vb r12)])∧K r11 r12 w'):=by
 refine cw (args:=[(vi t1),(vp (some cap1)),(vp (some cap2)),(vp (some cap3)),(vp (some cap4)),(vp (some cap5))]) func171 ntmps171 ?_
 obtain ⟨hs,hb⟩:=st0 w0
 refine eg (qb (ln (zA (eg ?_))))
 refine ql (isAgg245 _) h fun v1 h=>q ?_
 obtain ⟨v2,ok1,hv19,h⟩:=h
 refine q2 (.tuple #[(vi v2),(vb ok1)]) (qQ (by kernel_rfl) (by kernel_rfl) hv19) (q (qd (ln (eg (q (zB ?_))))))
 refine zK ?_
 refine cbr h ?_ ?_<;>intro h
 refine eg (qc (ln (er (vF (xO (.inl rfl) results171 (v:=(vi v2)) (by kernel_rfl) (v':=(vb true)) (by kernel_rfl) ?_)))))
 exact ⟨v2,true,rfl,h⟩
 refine zC (zK (eg (qb (nw3 [(vi 0),(vi 0),(vi 0),(vi 0)] 185 hs hb (zQ (zeroValue185 _) rfl) fun p1 w1 H1 hs hb=>?_))))
 refine sbx 0 [(vi 0),(vi 0),(vi 0),(vi t1)] (sizeOf185 _) hs hb gZ fun w2 hs hb=>?_
 refine ln (eg ?_)
 have ⟨h,hs⟩:=hs.hr (h H1 w2)
 refine ql (isAgg246 _) h fun v3 h=>q ?_
 obtain ⟨v4,hv17,h⟩:=h
 refine q2 (vb v4) (qQ (by kernel_rfl) (by kernel_rfl) hv17) (qb (ln (zA (eg ?_))))
 refine ql (isAgg93 _) h fun v5 h=>?_
 refine qm h fun a1 h=>q ?_
 refine ql (isAgg163 _) h fun v6 h=>q ?_
 obtain ⟨vrule1,vfrom1,ok2,hv14,h⟩:=h
 refine q2 (.tuple #[(.agg #[(vi vrule1),(vi vfrom1)]),(vb ok2)]) (qQ (by kernel_rfl) (by kernel_rfl) hv14) (qc (nw3 [(vi 0),(vi 0)] 171 hs hb (zQ (zeroValue171 _) rfl) fun p2 w3 H2 hs hb=>?_))
 refine sbx 0 [(vi vrule1),(vi vfrom1)] (sizeOf171 _) hs hb gZ fun w4 hs hb=>?_
 refine q (ln (eg (q (ln ?_))))
 refine vE (fun ρ w=>∃ok3:Bool,∃aK aL:Int,∃aM aN:Int,∃H:NP,Has ρ [(0,(vi t1)),(1,(vp (some cap1))),(2,(vp (some cap2))),(5,(vp (some cap5))),(11,(vp (some p1))),(12,(vb ok3))]∧Hst w0 H w H w∧HB H w [(p2,[(vi vrule1),(vi vfrom1)],171),(p1,[(vi aK),(vi aL),(vi aM),(vi aN)],185)]∧m_L_j1 t1 cap1 cap2 cap5 ok3 aK aL aM aN H w K) ?_ ?_
 rintro ρ w ⟨ok3,aK,aL,aM,aN,H,hH,hs,hb,h⟩
 refine zW hH ?_
 refine zA (eg (qb (ln ?_)))
 refine cbr h ?_ ?_<;>intro h
 refine eg ?_
 refine ql (isAgg246 _) h fun v7 h=>q ?_
 obtain ⟨w5,hv1,hk,h⟩:=h
 refine qV (zL rfl) (yR (by kernel_rfl) (by kernel_rfl) (by kernel_rfl) hv1) ?_
 obtain ⟨hs,hb⟩:=hk.hh hs hb
 refine ln (eg (qb (ln (er (vF (xO (.inl rfl) results171 (v:=(vi 0)) (by kernel_rfl) (v':=(vb false)) (by kernel_rfl) ?_))))))
 exact ⟨0,false,rfl,h⟩
 refine zC (zK (eg ?_))
 refine ql (isAgg245 _) h fun v8 h=>q ?_
 refine ql (isAgg181 _) h fun v9 h=>q ?_
 obtain ⟨w6,hv7,hk,h⟩:=h
 refine qV (zL rfl) (yR (by kernel_rfl) (by kernel_rfl) (by kernel_rfl) hv7) ?_
 obtain ⟨hs,hb⟩:=hk.hh hs hb
 refine ln (eg ?_)
 refine ql (isAgg181 _) h fun v10 h=>q2 (.agg #[(vi aK),(vi aL),(vi aM),(vi aN)]) (xa p1 [(vi aK),(vi aL),(vi aM),(vi aN)] (isAgg185 _) (sizeOf185 _) (hb.r0 1 4 (gS gZ))) (uE (O:=(.cells #[(vi aK),(vi aL),(vi aM),(vi aN)] 185)) (fun p=>(Sl.mk (some p) 1 1).v) (zL rfl) (vJ (vs:=#[(0,(.agg #[(vi aK),(vi aL),(vi aM),(vi aN)]))]) (by kernel_rfl) (by kernel_rfl)) ?_)
 intro p3 w7 hn6
 have h:=h p3 w7 hn6
 obtain ⟨hs,hb⟩:=hs.nw hb hn6
 obtain ⟨s1,w8,hv5,hk,h⟩:=h
 refine st (v:=s1.v) (zL rfl) (vI (args:=#[v10.v,(Sl.mk (some p3) 1 1).v]) (by kernel_rfl) (fun _=>rfl) hv5) ?_
 obtain ⟨hs,hb⟩:=hk.hh hs hb
 refine st2 (sizeOf181 _) hs hb h fun w9 hs hb h=>?_
 refine ln (eg ?_)
 refine ql (isAgg245 _) h fun v11 h=>q ?_
 obtain ⟨v12,hv3,h⟩:=h
 refine q2 (vi v12) (qQ (by kernel_rfl) (by kernel_rfl) hv3) (qb (ln (er (xO (.inl rfl) results171 (v:=(vi v12)) (by kernel_rfl) (v':=(vb true)) (by kernel_rfl) ?_))))
 exact ⟨v12,true,rfl,h⟩
 refine cbr h ?_ ?_<;>intro h
 refine eg (q (q3 (xl (isAgg3 _) (hb.d0 0 gZ)) (q (yW (zL rfl) (yQ (a:=p1) (v:=(vi vrule1)) (by kernel_rfl) (by kernel_rfl) rfl (sizeOf3 _) (hb.canW0 1 (gS gZ) (by kernel_rfl))) ?_))))
 intro w10 hn7
 have hsb:Hst w0 H1 w2 H2 w10∧HB H2 w10 [(p2,[(vi vrule1),(vi vfrom1)],171),(p1,[(vi vrule1),(vi 0),(vi 0),(vi t1)],185)]:=by
  rw [hn7];exact hb.set0 (i:=1) (v:=(vi vrule1)) hs (gS gZ) (by kernel_rfl)
 obtain ⟨hs,hb⟩:=hsb
 refine ln (eg (q (q3 (xl (isAgg3 _) (hb.d0 0 gZ)) (q (ln ?_)))))
 refine cbr h ?_ ?_<;>intro h
 refine rg ?_
 have ⟨h,hs⟩:=hs.hr (h H2 w10)
 refine ql (isAgg247 _) h fun v13 h=>q (q3 (xl (isAgg78 _) (hb.d 0 1 gZ)) ?_)
 obtain ⟨f1,fs1,cs1,hp3,h⟩:=h
 obtain ⟨hf1,h⟩:=h
 refine kZ (zL rfl) (lA (fs:=fs1) (caps:=cs1) (args:=#[(vi vfrom1)]) (by kernel_rfl) hp3 hf1 (by kernel_rfl) rfl) (h.mono ?_)
 rintro e w11 ⟨r1,r2,rfl,hk,h⟩
 refine ⟨_,rfl,?_⟩
 obtain ⟨hs,hb⟩:=hk.hh hs hb
 refine qd (yW (zL rfl) (yQ (a:=(p1.add 1)) (v:=(vi r1)) (by kernel_rfl) (by kernel_rfl) rfl (sizeOf3 _) (hb.canW 1 1 (gS gZ) (by kernel_rfl))) ?_)
 intro w12 hn8
 have hsb:Hst w0 H2 w11 H2 w12∧HB H2 w12 [(p2,[(vi vrule1),(vi vfrom1)],171),(p1,[(vi vrule1),(vi r1),(vi 0),(vi t1)],185)]:=by
  rw [hn8];exact hb.set (i:=1) 1 (v:=(vi r1)) hs (gS gZ) (by kernel_rfl)
 obtain ⟨hs,hb⟩:=hsb
 refine zB ?_
 have ⟨h,hs⟩:=hs.hr (h w12)
 refine zK ?_
 exact ⟨(!v4),vrule1,r1,0,t1,H2,hm,hs,hb,h⟩
 refine zC ?_
 have ⟨h,hs⟩:=hs.hr (h H2 w10)
 refine zK ?_
 exact ⟨(!v4),vrule1,0,0,t1,H2,hm,hs,hb,h⟩
 refine eg (q (ln ?_))
 refine cbr h ?_ ?_<;>intro h
 refine eg ?_
 have ⟨h,hs⟩:=hs.hr (h H2 w4)
 refine ql (isAgg93 _) h fun v14 h=>q ?_
 refine sc call172 (h.mono fun e w13 ⟨r3,r4,r5,r6,k,hk,h⟩=>have ⟨hs,hb⟩:=hk.hh hs hb;⟨_,k,?_⟩)
 refine q (qd (qd (ln (zA ?_))))
 refine rg (qb (yW (zL rfl) (yQ (a:=p1) (v:=(vi 5)) (by kernel_rfl) (by kernel_rfl) rfl (sizeOf3 _) (hb.canW0 1 (gS gZ) (by kernel_rfl))) ?_))
 intro w14 hn9
 have hsb:Hst w0 H2 w13 H2 w14∧HB H2 w14 [(p2,[(vi vrule1),(vi vfrom1)],171),(p1,[(vi 5),(vi 0),(vi 0),(vi t1)],185)]:=by
  rw [hn9];exact hb.set0 (i:=1) (v:=(vi 5)) hs (gS gZ) (by kernel_rfl)
 obtain ⟨hs,hb⟩:=hsb
 refine q (ln (zA (eg (q (ln ?_)))))
 refine vK (fun ρ wJ=>∃b1'0:Bool,∃HJ:NP,(r5=b1'0)∧Hst w0 H2 w13 HJ wJ∧HB HJ wJ [(p2,[(vi vrule1),(vi vfrom1)],171),(p1,[(vi (cond b1'0 4 5)),(vi 0),(vi 0),(vi t1)],185)]∧Has ρ [(0,(vi t1)),(1,(vp (some cap1))),(2,(vp (some cap2))),(4,(vp (some cap4))),(5,(vp (some cap5))),(11,(vp (some p1))),(12,(vb r6)),(15,(vi r3)),(16,(vi r4))]) ?_ ?_
 refine vH (t:=r5) (by kernel_rfl) (fun hc7=>?_) (fun hc7=>?_)
 refine rg (q (yW (zL rfl) (yQ (a:=p1) (v:=(vi 4)) (by kernel_rfl) (by kernel_rfl) rfl (sizeOf3 _) (hb.canW0 1 (gS gZ) (by kernel_rfl))) ?_))
 intro w17 hn11
 have hsb:Hst w0 H2 w13 H2 w17∧HB H2 w17 [(p2,[(vi vrule1),(vi vfrom1)],171),(p1,[(vi 4),(vi 0),(vi 0),(vi t1)],185)]:=by
  rw [hn11];exact hb.set0 (i:=1) (v:=(vi 4)) hs (gS gZ) (by kernel_rfl)
 obtain ⟨hs,hb⟩:=hsb
 refine ln ?_
 exact ⟨true,_,hc7,hs,hb,hm⟩
 refine zC (zK ?_)
 exact ⟨false,_,hc7,hs,hb,hm⟩
 rintro ρ w16 ⟨b1'0,H3,he0,hs,hb,hH⟩
 subst he0
 refine vD hH ?_
 refine zK (zA (zA ?_))
 refine vK (fun ρ wJ=>∃b2'0:Bool,∃HJ:NP,(r6=b2'0)∧Hst w0 H2 w13 HJ wJ∧HB HJ wJ [(p2,[(vi vrule1),(vi vfrom1)],171),(p1,[(vi (cond r5 4 5)),(vi 0),(vi 0),(vi t1)],185)]∧Has ρ [(0,(vi t1)),(1,(vp (some cap1))),(2,(vp (some cap2))),(4,(vp (some cap4))),(5,(vp (some cap5))),(11,(vp (some p1))),(12,(vb r6)),(15,(vi r3)),(16,(vi r4)),(74,(vb (b2'0 && (decide (r3>0)))))]) ?_ ?_
 refine rg (qb ?_)
 rcases bte r6 with hg2 | hg2
 refine qk 71 hg2 (qk 71 hg2 (q2 (vb (decide (r3>0))) (xT hg2) (ln ?_)))
 exact ⟨true,_,hg2,hs,hb,hm⟩
 refine sj 71 hg2 (sj 71 hg2 (q2 (vb false) (xF hg2) (ln ?_)))
 exact ⟨false,_,hg2,hs,hb,hm⟩
 rintro ρ w18 ⟨b2'0,H4,he0,hs,hb,hH⟩
 subst he0
 refine vD hH ?_
 refine zK ?_
 refine vE (fun ρ w=>∃ok4:Bool,∃aH aI:Int,∃aO aJ:Int,∃H:NP,Has ρ [(0,(vi t1)),(1,(vp (some cap1))),(2,(vp (some cap2))),(4,(vp (some cap4))),(5,(vp (some cap5))),(11,(vp (some p1))),(12,(vb ok4)),(16,(vi r4))]∧Hst w0 H w H w∧HB H w [(p2,[(vi vrule1),(vi vfrom1)],171),(p1,[(vi aH),(vi aI),(vi aO),(vi aJ)],185)]∧m_L_j2 t1 cap1 cap2 cap4 cap5 r4 ok4 aH aI aO aJ w0 H w K) ?_ ?_
 rintro ρ w ⟨ok4,aH,aI,aO,aJ,H,hH,hs,hb,h⟩
 refine zW hH ?_
 refine zA ?_
 refine vK (fun ρ wJ=>∃b3'0:Bool,∃HJ:NP,(ok4=b3'0)∧Hst w0 H w HJ wJ∧HB HJ wJ [(p2,[(vi vrule1),(vi vfrom1)],171),(p1,[(vi aH),(vi aI),(vi aO),(vi aJ)],185)]∧Has ρ [(0,(vi t1)),(1,(vp (some cap1))),(2,(vp (some cap2))),(4,(vp (some cap4))),(5,(vp (some cap5))),(11,(vp (some p1))),(12,(vb ok4)),(16,(vi r4)),(86,(vb (b3'0 && (decide (r4>0)))))]) ?_ ?_
 refine rg (qb ?_)
 rcases bte ok4 with hg4 | hg4
 refine qk 83 hg4 (qk 83 hg4 (q2 (vb (decide (r4>0))) (xT hg4) (ln ?_)))
 exact ⟨true,_,hg4,hs,hb,hm⟩
 refine sj 83 hg4 (sj 83 hg4 (q2 (vb false) (xF hg4) (ln ?_)))
 exact ⟨false,_,hg4,hs,hb,hm⟩
 rintro ρ w19 ⟨b3'0,H5,he0,hs,hb,hH⟩
 subst he0
 refine vD hH ?_
 refine zK ?_
 refine cbr h ?_ ?_<;>intro h
 refine rg ?_
 have ⟨h,hs⟩:=hs.hr (h H5 w19)
 refine ql (isAgg247 _) h fun v15 h=>q ?_
 obtain ⟨f2,fs2,cs2,hp4,h⟩:=h
 obtain ⟨hf2,h⟩:=h
 refine kZ (zL rfl) (lA (fs:=fs2) (caps:=cs2) (args:=#[(vi r4)]) (by kernel_rfl) hp4 hf2 (by kernel_rfl) rfl) (h.mono ?_)
 rintro e w20 ⟨r7,r8,rfl,hk,h⟩
 refine ⟨_,rfl,?_⟩
 obtain ⟨hs,hb⟩:=hk.hh hs hb
 refine qd (yW (zL rfl) (yQ (a:=(p1.add 2)) (v:=(vi r7)) (by kernel_rfl) (by kernel_rfl) rfl (sizeOf3 _) (hb.canW 1 2 (gS gZ) (by kernel_rfl))) ?_)
 intro w21 hn12
 have hsb:Hst w0 H5 w20 H5 w21∧HB H5 w21 [(p2,[(vi vrule1),(vi vfrom1)],171),(p1,[(vi aH),(vi aI),(vi r7),(vi aJ)],185)]:=by
  rw [hn12];exact hb.set (i:=1) 2 (v:=(vi r7)) hs (gS gZ) (by kernel_rfl)
 obtain ⟨hs,hb⟩:=hsb
 refine q (zB ?_)
 have ⟨h,hs⟩:=hs.hr (h w21)
 refine zK ?_
 exact ⟨r8,aH,aI,r7,aJ,H5,hm,hs,hb,h⟩
 refine zC ?_
 have ⟨h,hs⟩:=hs.hr (h H5 w19)
 refine zK ?_
 exact ⟨ok4,aH,aI,aO,aJ,H5,hm,hs,hb,h⟩
 refine cbr h ?_ ?_<;>intro h
 refine rg ?_
 have ⟨h,hs⟩:=hs.hr (h H4 w18)
 refine ql (isAgg247 _) h fun v16 h=>q ?_
 obtain ⟨f3,fs3,cs3,hp5,h⟩:=h
 obtain ⟨hf3,h⟩:=h
 refine kZ (zL rfl) (lA (fs:=fs3) (caps:=cs3) (args:=#[(vi r3)]) (by kernel_rfl) hp5 hf3 (by kernel_rfl) rfl) (h.mono ?_)
 rintro e w22 ⟨r9,r10,rfl,hk,h⟩
 refine ⟨_,rfl,?_⟩
 obtain ⟨hs,hb⟩:=hk.hh hs hb
 refine qd (yW (zL rfl) (yQ (a:=(p1.add 1)) (v:=(vi r9)) (by kernel_rfl) (by kernel_rfl) rfl (sizeOf3 _) (hb.canW 1 1 (gS gZ) (by kernel_rfl))) ?_)
 intro w23 hn13
 have hsb:Hst w0 H4 w22 H4 w23∧HB H4 w23 [(p2,[(vi vrule1),(vi vfrom1)],171),(p1,[(vi (cond r5 4 5)),(vi r9),(vi 0),(vi t1)],185)]:=by
  rw [hn13];exact hb.set (i:=1) 1 (v:=(vi r9)) hs (gS gZ) (by kernel_rfl)
 obtain ⟨hs,hb⟩:=hsb
 refine q (zB ?_)
 have ⟨h,hs⟩:=hs.hr (h w23)
 refine zK ?_
 exact ⟨r10,(cond r5 4 5),r9,0,t1,H4,hm,hs,hb,h⟩
 refine zC ?_
 have ⟨h,hs⟩:=hs.hr (h H4 w18)
 refine zK ?_
 exact ⟨r6,(cond r5 4 5),0,0,t1,H4,hm,hs,hb,h⟩
 refine zC ?_
 have ⟨h,hs⟩:=hs.hr (h H2 w4)
 refine zK ?_
 exact ⟨(!v4),0,0,0,t1,H2,hm,hs,hb,h⟩
end Go.Proofs
end
section
open Go Go.SE
namespace Go.Proofs
open Tryz
attribute [local irreducible] Calls
def wayv (p:Int×Int):Value:=.agg #[.int .i64 p.1,.int .i64 p.2]
def jVJ (S:List Sp.Way):List (Int×(Int×Int)):=S.map fun v=>(v.t,(v.rule,v.frm))
theorem jEG (S:List Sp.Way):(jVJ S).map Prod.fst=Sp.zO S:=by simp [jVJ,Sp.zO]
theorem jPS (S:List Sp.Way) (v:Sp.Way):jVJ (S++[v])=jVJ S++[(v.t,(v.rule,v.frm))]:=by simp [jVJ]
structure KnowS (w:World) (k p:Addr) (G:List Int) (S:List Sp.Way) (ks:List Int) (sg:Sl) (m:Nat) (sl:Sl):Prop where
 box:Box w k [.pointer (some p),sg.v,.map (some m),sl.v] 165
 giv:Rws w 78 1 sg (tmr G)
 seen:IMap wayv w m (jVJ S)
 list:Rws w 78 1 sl (tmr ks)
 n1:m≠k.block
 n2:¬ sg.blk k.block
 n3:¬ sl.blk k.block
 n4:¬ sg.blk m
 n5:¬ sl.blk m
 n6:∀b,sg.blk b→¬ sl.blk b
def KF (k:Addr) (sg:Sl) (m:Nat) (sl:Sl) (b:Nat):Prop:=b=k.block∨sg.blk b∨b=m∨sl.blk b
def qA (w:World) (k p:Addr) (G:List Int) (S:List Sp.Way) (F:NP):Prop:=∃sg m sl,KnowS w k p G S (Sp.zO S) sg m sl∧∀b,F b↔KF k sg m sl b
section
variable {w w':World} {k p:Addr} {G:List Int} {S:List Sp.Way} {ks:List Int} {sg sl:Sl} {m:Nat} {F:NP}
theorem KnowS.ext {X:NP} (h:KnowS w k p G S ks sg m sl) (hE:Ext X w w') (hd:∀b,KF k sg m sl b→¬ X b):KnowS w' k p G S ks sg m sl :=
 ⟨h.box.ext hE (hd _ (.inl rfl)),h.giv.ext hE (fun b hb=>hd _ (.inr (.inl hb))),h.seen.ext hE (hd _ (.inr (.inr (.inl rfl)))),h.list.ext hE (fun b hb=>hd _ (.inr (.inr (.inr hb)))),h.n1,h.n2,h.n3,h.n4,h.n5,h.n6⟩
theorem KnowS.pure (h:KnowS w k p G S ks sg m sl) (hE:Pure w w'):KnowS w' k p G S ks sg m sl:=h.ext hE (fun _ _ h=>h)
theorem KnowS.lt (h:KnowS w k p G S ks sg m sl) {b:Nat} (hb:KF k sg m sl b):b<w.heap.size:=by
 rcases hb with rfl | hb | rfl | hb
 ·exact h.box.lt
 ·exact h.giv.lt hb
 ·exact h.seen.lt
 ·exact h.list.lt hb
theorem qA.ext {X:NP} (h:qA w k p G S F) (hE:Ext X w w') (hd:∀b,F b→¬ X b):qA w' k p G S F:=by
 obtain ⟨sg,m,sl,h,hF⟩:=h;exact ⟨sg,m,sl,h.ext hE (fun b hb=>hd b ((hF b).2 hb)),hF⟩
theorem qA.pure (h:qA w k p G S F) (hE:Pure w w'):qA w' k p G S F:=h.ext hE (fun _ _ h=>h)
theorem qA.lt (h:qA w k p G S F) {b:Nat} (hb:F b):b<w.heap.size:=by
 obtain ⟨sg,m,sl,h,hF⟩:=h;exact h.lt ((hF b).1 hb)
theorem KnowS.look (h:KnowS w k p G S ks sg m sl) (t:Int):∃r f:Int,(Instr.lookup 163 (.map (some m)) (.int .i64 t) true).run prog w=.ok (.tuple #[.agg #[.int .i64 r,.int .i64 f],.bool (decide (t∈Sp.zO S))]) w∧(t∈Sp.zO S→SE.look (jVJ S) t=some (r,f)):=by
 rcases h.seen.get (P:=prog) (T:=163) underlying163 underlying78 (zeroValue171 _) t true with ⟨h1,h2⟩ | ⟨⟨r,f⟩,h1,h2⟩
 ·have hn:t ∉ Sp.zO S:=by have:=yX.1 h1;rwa [jEG] at this
  exact ⟨0,0,by rw [decide_eq_false hn];exact h2,fun h=>absurd h hn⟩
 ·have hy : t ∈ Sp.zO S := by
   have:=uW h1;rw [← jEG];exact List.mem_map.2 ⟨_,this,rfl⟩
  exact ⟨r,f,by rw [decide_eq_true hy];exact h2,fun _=>h1⟩
theorem KnowS.put (h:KnowS w k p G S ks sg m sl) {v:Sp.Way} (hn:v.t ∉ Sp.zO S):∃w',(Instr.mapUpdate 163 (.map (some m)) (.int .i64 v.t) (.agg #[.int .i64 v.rule,.int .i64 v.frm])).run prog w=.ok () w'∧KnowS w' k p G (S++[v]) ks sg m sl∧Ext (·=m) w w':=by
 obtain ⟨w',h1,h2,h3⟩:=h.seen.put (P:=prog) (T:=163) (K:=78) underlying163 underlying78 (k:=v.t) (yX.2 (by rw [jEG];exact hn)) (v.rule,v.frm);exact ⟨w',h1,⟨h.box.ext h3 (fun e=>h.n1 e.symm),h.giv.ext h3 (fun b hb e=>h.n4 (e▸hb)),by rw [jPS];exact h2,h.list.ext h3 (fun b hb e=>h.n5 (e▸hb)),h.n1,h.n2,h.n3,h.n4,h.n5,h.n6⟩,h3⟩
theorem KnowS.app (h:KnowS w k p G S ks sg m sl) {t:Int} {q:Addr} {w1:World} (hq:New w (.cells #[.int .i64 t] 78) q w1) (hn:ks.length≤1000000):∃s1 w2,(Builtin.append_ #[54,54] 54 #[sl.v,(Sl.mk (some q) 1 1).v]).run prog w1=.ok s1.v w2∧Ext sl.blk w1 w2∧Box w2 k [.pointer (some p),sg.v,.map (some m),sl.v] 165 ∧
  KnowS (w2.setCell (k.add 3) s1.v) k p G S (ks++[t]) sg m s1∧Ext (KF k sg m sl) w (w2.setCell (k.add 3) s1.v)∧∀b,KF k sg m s1 b→KF k sg m sl b∨w.heap.size≤b:=by
 have E1:Pure w w1:=Ext.new hq
 have h1:=h.pure E1
 obtain ⟨s1,w2,hr,hR,hE,hb⟩:=h1.list.append (P:=prog) (ty:=54) (c:=1) jMR (r:=[.int .i64 t]) (Box.of_new hq).row rfl rfl (by rw [qM];omega) (by rw [qM];simp [maxLen];omega)
 have hbx:=h1.box.ext hE h1.n3
 have hs1:∀b,s1.blk b→sl.blk b∨w.heap.size≤b:=fun b h=>(hb b h).imp_right (fun h=>by have:=E1.size;omega)
 have nk:¬ s1.blk k.block:=fun hh=>(hs1 _ hh).elim h.n3 (fun hh=>by have:=h.box.lt;omega)
 have nm:¬ s1.blk m:=fun hh=>(hs1 _ hh).elim h.n5 (fun hh=>by have:=h.seen.lt;omega)
 have E3:=Ext.setCell (w:=w2) (k.add 3) s1.v
 rw [zV] at E3
 refine ⟨s1,w2,hr,hE,hbx,⟨hbx.set 3 s1.v,((h1.giv.ext hE h.n6).ext E3 (fun b hb e=>h.n2 (e▸hb))),((h1.seen.ext hE h.n5).ext E3 h.n1),by rw [show tmr (ks++[t])=tmr ks++[[.int .i64 t]] by simp [tmr]];exact hR.ext E3 (fun b hb e=>nk (e▸hb)),h.n1,h.n2,nk,h.n4,nm,fun b h1 h2=>(hs1 b h2).elim (h.n6 b h1) (fun hh=>by have:=h.giv.lt h1;omega)⟩,?_,?_⟩
 ·exact ((E1.pure (F:=KF k sg m sl)).trans (hE.mono (fun b _ hb=>.inr (.inr (.inr hb))))).trans (E3.mono (fun b _ hb=>.inl hb))
 ·rintro b (hb | hb | hb | hb)
  ·exact .inl (.inl hb)
  ·exact .inl (.inr (.inl hb))
  ·exact .inl (.inr (.inr (.inl hb)))
  ·exact (hs1 b hb).imp_left (fun h=>.inr (.inr (.inr h)))
end
theorem jSI (p:Addr) (w0:World):Calls prog 45 #[.pointer (some p)] w0 (fun e w'=>∃r:Option Addr,e=.returned (.pointer r)∧∃k F,r=some k∧qA w' k p [] [] F∧Pure w0 w'∧∀b,F b→w0.heap.size≤b):=by
 refine w_H4 _ w0 (fun r w'=>∃k F,r=some k∧qA w' k p [] [] F∧Pure w0 w'∧∀b,F b→w0.heap.size≤b) ?_;unfold m_H4;refine Br.f rfl ?_;intro p2 w1 h1 p3 w2 h2;have E1:Pure w0 w1:=Ext.new h1;have E2:Pure w1 w2:=Ext.new h2;have hnil:∀b,¬ Sl.nil.blk b:=fun b hb=>by obtain ⟨a,h,_⟩:=hb;cases h
 refine ⟨p3,_,rfl,⟨Sl.nil,p2.block,Sl.nil,⟨Box.of_new h2,Rws.nil _ _ _,(IMap.of_new (f:=wayv) h1).pure E2,Rws.nil _ _ _,?_,hnil _,hnil _,hnil _,hnil _,fun b hb=>(hnil b hb).elim⟩,fun b=>Iff.rfl⟩,E1.trans E2,?_⟩
 ·have:=h1.at_size;have:=h2.at_size;have:=E1.size;have:=(IMap.of_new (f:=wayv) h1).lt;omega
 ·rintro b (rfl | hb | rfl | hb)
  ·have:=h2.at_size;have:=E1.size;omega
  ·exact (hnil b hb).elim
  ·have:=h1.at_size;omega
  ·exact (hnil b hb).elim
theorem jGM (k p:Addr) (t:Int) (w0:World) {G:List Int} {S:List Sp.Way} {F:NP} (h:qA w0 k p G S F) :
  Calls prog 113 #[.pointer (some k),.int .i64 t] w0 (fun e w'=>∃r:Bool,e=.returned (.bool r)∧(r=decide (t∈Sp.zO S)∧Pure w0 w')):=by
 refine w_J4 _ _ w0 (fun r w'=>r=decide (t∈Sp.zO S)∧Pure w0 w') ?_
 unfold m_J4
 obtain ⟨sg,m,sl,h,hF⟩:=h
 obtain ⟨r,f,h1,_⟩:=h.look t
 exact Br.f rfl ⟨k,rfl,_,h.box.cell rfl,r,f,_,h1,fun H1 w2 hs=>⟨rfl,hs.first⟩⟩
section
variable {w w':World} {k p:Addr} {G:List Int} {S:List Sp.Way} {F:NP}
theorem qA.hst {w0:World} {H H':NP} (h:qA w k p G S F) (hs:Hst w0 H w H' w') (hd:∀b,F b→¬ H b):qA w' k p G S F∧∀b,F b→¬ H' b:=by
 have hd':=hs.disj (G:=F) (fun b hb=>⟨h.lt hb,hd b hb⟩);exact ⟨h.ext hs.ext hd',hd'⟩
end
theorem jBC (k p:Addr) (t rule u:Int) (c1 c2:Addr) (w0:World) {G:List Int} {S:List Sp.Way} {F:NP} (h:qA w0 k p G S F) (h1:w0.cell? c1=some (.pointer (some k))) (h2:w0.cell? c2=some (.int .i64 u)) (d1:¬ F c1.block) (d2:¬ F c2.block) (hn:S.length≤1000000) :
  Calls prog 164 #[.int .i64 t,.int .i64 rule,.pointer (some c1),.pointer (some c2)] w0 (fun e w'=>e=.returned (.tuple #[])∧∃F',qA w' k p G (Sp.tJ S ⟨t,rule,u⟩) F'∧Ext F w0 w'∧∀b,F' b→F b∨w0.heap.size≤b):=by
 refine w_K4 _ _ _ _ w0 (fun w'=>∃F',qA w' k p G (Sp.tJ S ⟨t,rule,u⟩) F'∧Ext F w0 w'∧∀b,F' b→F b∨w0.heap.size≤b) ?_
 unfold m_K4
 have hA:=h
 obtain ⟨sg,m,sl,h,hF⟩:=h
 obtain ⟨r,f,hl,_⟩:=h.look t
 refine ⟨_,h1,k,rfl,_,h.box.cell rfl,r,f,_,hl,fun hc=>?_,fun hc=>?_⟩
 ·have hnt:t ∉ Sp.zO S:=by simpa using hc
  have hadd:Sp.tJ S ⟨t,rule,u⟩=S++[⟨t,rule,u⟩]:=if_neg hnt
  rw [hadd]
  intro H1 w2 hs2
  have E2:=hs2.first
  have hh:∀{b},b<w0.heap.size→¬ H1 b:=fun hb hx=>by have:=hs2.old _ hx;omega
  have E3:Pure w0 w2.drew:=E2.trans (Ext.drew w2)
  have D4:∀w4:World,Pure w4 w4.drew:=fun w4=>Ext.drew w4
  have c1lt:=World.block_lt_of_cell? w0 c1 h1
  refine ⟨fun w'=>KnowS w' k p G S (Sp.zO S) sg m sl∧w'.cell? c1=some (.pointer (some k))∧w'.cell? c2=some (.int .i64 u),⟨h.pure E3,E3.cell h1 (fun h=>h),E3.cell h2 (fun h=>h)⟩,?_⟩
  rintro _ rfl
  have h3:=h.pure E3
  refine ⟨_,fun w' h=>h.2.1,k,rfl,_,fun w' h=>h.1.box.cell rfl,_,fun w' h=>h.2.2,?_⟩
  obtain ⟨w4,hr4,h4,E4⟩:=h3.put (v:=⟨t,rule,u⟩) hnt
  refine ⟨w4,hr4,E4.kept (fun b hb e=>by subst e;exact hh (h.lt (.inr (.inr (.inl rfl)))) hb),?_⟩
  have c14:w4.cell? c1=some (.pointer (some k)):=E4.cell (E3.cell h1 (fun h=>h)) (fun e=>d1 ((hF _).2 (.inr (.inr (.inl e)))))
  have h5:=h4.pure (Ext.drew w4)
  refine ⟨fun w'=>w'.cell? c1=some (.pointer (some k))∧Box w' k [.pointer (some p),sg.v,.map (some m),sl.v] 165,⟨(D4 w4).cell c14 (fun h=>h),h5.box⟩,?_⟩
  rintro _ rfl
  refine ⟨_,fun w' h=>h.1,_,fun w' h=>h.1,k,rfl,sl,fun w' h=>h.2.cell rfl,?_⟩
  intro q w6 h6
  have E6:Pure w4.drew w6:=Ext.new h6
  refine ⟨⟨E6.cell ((D4 w4).cell c14 (fun h=>h)) (fun h=>h),h5.box.pure E6⟩,?_⟩
  obtain ⟨s1,w7,hr7,X7,b7,k7,E7,f7⟩:=h5.app h6 (by rw [Sp.qS];exact hn)
  have c17:w7.cell? c1=some (.pointer (some k)):=X7.cell (E6.cell ((D4 w4).cell c14 (fun h=>h)) (fun h=>h)) (fun hb=>d1 ((hF _).2 (.inr (.inr (.inr hb)))))
  refine ⟨s1,w7,hr7,⟨c17,b7⟩,X7.kept (fun b hb hx=>hh (h.lt (.inr (.inr (.inr hx)))) hb),k,rfl,b7.canW (by simp),by rw [zV];exact hh h.box.lt,?_⟩
  rintro _ rfl
  rw [← show Sp.zO (S++[⟨t,rule,u⟩])=Sp.zO S++[t] from Sp.xA S ⟨t,rule,u⟩] at k7
  have e4:w0.heap.size≤w4.drew.heap.size:=Nat.le_trans E3.size (Nat.le_trans E4.size (D4 w4).size)
  refine ⟨_,⟨sg,m,s1,k7,fun b=>Iff.rfl⟩,?_,fun b hb=>(f7 b hb).imp (hF b).2 (fun h=>by omega)⟩
  refine ((E3.pure (F:=F)).trans (E4.mono (fun b _ e=>(hF b).2 (.inr (.inr (.inl e)))))).trans (((Ext.drew w4:Pure w4 w4.drew).pure (F:=F)).trans (E7.mono (fun b _ hb=>(hF b).2 hb)))
 ·have hnt:t∈Sp.zO S:=by simpa using hc
  have hadd:Sp.tJ S ⟨t,rule,u⟩=S:=if_pos hnt
  rw [hadd]
  intro H1 w2 hs2
  exact ⟨F,hA.pure hs2.first,hs2.first.pure,fun b hb=>.inl hb⟩
structure SeesAt (w0:World) (H:NP) (w:World) (k p p1:Addr) (L:Sp.Pool) (G:List Int) (S:List Sp.Way) (F F0 FP:NP):Prop where
 know:qA w k p G S F
 pool:zR w p L FP
 cap:w.cell? p1=some (.pointer (some k))
 ext:Ext F0 w0 w
 own:∀b,F b→F0 b∨w0.heap.size≤b
 h1:∀b,F b→¬ H b
 h2:∀b,FP b→¬ H b
 h3:¬ H p1.block
 d1:¬ F p1.block
 d2:∀b,F b→¬ FP b
section
variable {w0 w w':World} {H H':NP} {k p p1:Addr} {L:Sp.Pool} {G:List Int} {S S':List Sp.Way} {F F' F0 FP:NP}
theorem SeesAt.pure (h:SeesAt w0 H w k p p1 L G S F F0 FP) (E:Pure w w'):SeesAt w0 H w' k p p1 L G S F F0 FP :=
 ⟨h.know.pure E,h.pool.pure E,E.cell h.cap (fun h=>h),h.ext.thenPure E,h.own,h.h1,h.h2,h.h3,h.d1,h.d2⟩
theorem SeesAt.hst (h:SeesAt w0 H w k p p1 L G S F F0 FP) (hs:Hst w0 H w H' w'):SeesAt w0 H' w' k p p1 L G S F F0 FP:=by
 have x1:=hs.disj (G:=F) (fun b hb=>⟨h.know.lt hb,h.h1 b hb⟩);have x2:=hs.disj (G:=FP) (fun b hb=>⟨h.pool.lt hb,h.h2 b hb⟩);have x3:=hs.disj (G:=(·=p1.block)) (fun b hb=>by subst hb;exact ⟨World.block_lt_of_cell? w p1 h.cap,h.h3⟩) _ rfl;exact ⟨h.know.ext hs.ext x1,h.pool.ext hs.ext x2,hs.ext.cell h.cap x3,h.ext.trans' hs.ext (fun i hi hb=>by have:=hs.old i hb;omega),h.own,x1,x2,x3,h.d1,h.d2⟩
theorem SeesAt.fresh (h:SeesAt w0 H w k p p1 L G S F F0 FP) {q:Nat} (E:Ext (·=q) w w') (q1:¬ F q) (q2:¬ FP q) (q3:q≠p1.block) (q4:w0.heap.size≤q):SeesAt w0 H w' k p p1 L G S F F0 FP :=
 ⟨h.know.ext E (fun b hb e=>q1 (e▸hb)),h.pool.ext E (fun b hb e=>q2 (e▸hb)),E.cell h.cap (fun e=>q3 e.symm),h.ext.trans' E (fun i hi e=>by subst e;omega),h.own,h.h1,h.h2,h.h3,h.d1,h.d2⟩
theorem SeesAt.step (h:SeesAt w0 H w k p p1 L G S F F0 FP) (hH:∀b,H b→b<w.heap.size) (hK:qA w' k p G S' F') (E:Ext F w w') (hF:∀b,F' b→F b∨w.heap.size≤b):SeesAt w0 H w' k p p1 L G S' F' F0 FP:=by
 have hb:=h.ext.size;refine ⟨hK,h.pool.ext E (fun b hb hf=>h.d2 b hf hb),E.cell h.cap h.d1,h.ext.trans' E (fun i hi hf=>(h.own i hf).elim id (fun hh=>by omega)),fun b hb=>?_,fun b hb hh=>?_,h.h2,h.h3,fun hh=>?_,fun b hb hh=>?_⟩
 ·rcases hF b hb with h1 | h1
  ·exact h.own b h1
  ·right;omega
 ·rcases hF b hb with h1 | h1
  ·exact h.h1 b h1 hh
  ·have:=hH b hh;omega
 ·rcases hF _ hh with h1 | h1
  ·exact h.d1 h1
  ·have:=World.block_lt_of_cell? w p1 h.cap;omega
 ·rcases hF b hb with h1 | h1
  ·exact h.d2 b h1 hh
  ·have:=h.pool.lt hh;omega
end
theorem jPG (k p:Addr) (t rule frm:Int) (w0:World) {L:Sp.Pool} {G:List Int} {S:List Sp.Way} {F FP:NP} (h:qA w0 k p G S F) (hP:zR w0 p L FP) (hW:Sp.Wf L) (hd:∀b,F b→¬ FP b)
  (hwo:Sp.WaysOk L G S) (hcl:∀u∈Sp.zO S,Sp.jFH L S u) (ht:Sp.inP L t=true) (hv:Sp.jFP L G S ⟨t,rule,frm⟩) :
  Calls prog 106 #[.pointer (some k),.int .i64 t,.agg #[.int .i64 rule,.int .i64 frm]] w0 (fun e w'=>e=.returned (.tuple #[])∧∃S' F',qA w' k p G S' F'∧(Sp.WaysOk L G S'∧(∀u∈Sp.zO S',Sp.jFH L S' u)∧t∈Sp.zO S'∧∀u∈Sp.zO S,u∈Sp.zO S')∧Ext F w0 w'∧∀b,F' b→F b∨w0.heap.size≤b):=by
 suffices key:∀K:WP,(∀S' F' w',qA w' k p G S' F'→(Sp.WaysOk L G S'∧(∀u∈Sp.zO S',Sp.jFH L S' u)∧t∈Sp.zO S'∧∀u∈Sp.zO S,u∈Sp.zO S')→Ext F w0 w'→(∀b,F' b→F b∨w0.heap.size≤b)→K w')→m_U (some k) t rule frm w0 K from
  w_U _ _ _ _ w0 _ (key _ (fun S' F' w' a b c d=>⟨S',F',a,b,c,d⟩))
 intro K hK
 unfold m_U
 intro p1 w1 h1 H1 w2 hs2
 have hp1:=h1.at_size
 have E1:Pure w0 w1:=Ext.new h1
 have nF:∀{b},F b→b<w0.heap.size:=fun hb=>h.lt hb
 have nP:∀{b},FP b→b<w0.heap.size:=fun hb=>hP.lt hb
 have A1:SeesAt w0 None w1 k p p1 L G S F F FP:=⟨h.pure E1,hP.pure E1,(Box.of_new h1).cell0,E1.pure,fun b hb=>.inl hb,fun b _ h=>h,fun b _ h=>h,fun h=>h,fun hb=>by have:=nF hb;omega,hd⟩
 have A2:=A1.hst hs2
 obtain ⟨sg,m,sl,k2,hF2⟩:=A2.know
 obtain ⟨r,f,hl,_⟩:=k2.look t
 refine ⟨_,A2.cap,k,rfl,_,k2.box.cell rfl,r,f,_,hl,fun hc=>?_,fun hc=>?_⟩
 ·intro H2 w4 hs4
  have A4:=A2.hst hs4
  exact hK S F w4 A4.know ⟨hwo,hcl,by simpa using hc,fun _ h=>h⟩ A4.ext (fun b hb=>.inl hb)
 have hnt:t ∉ Sp.zO S:=by simpa using hc
 intro H2 w4 hs4
 have A4:=A2.hst hs4
 have k4:KnowS w4 k p G S (Sp.zO S) sg m sl:=k2.ext hs4.ext (fun b hb=>A4.h1 b ((hF2 b).2 hb))
 have D:∀w:World,Pure w w.drew:=fun w=>Ext.drew w
 refine ⟨fun w'=>w'.cell? p1=some (.pointer (some k))∧Box w' k [.pointer (some p),sg.v,.map (some m),sl.v] 165,⟨(A4.pure (D w4)).cap,(k4.pure (D w4)).box⟩,?_⟩
 rintro _ rfl
 have A5:=A4.pure (D w4)
 have k5:=k4.pure (D w4)
 have hs5:Hst w0 H2 w4.drew H2 w4.drew:=hs4.here.again (D w4).keptP
 refine ⟨_,fun w' h=>h.1,k,rfl,_,fun w' h=>h.2.cell rfl,?_⟩
 obtain ⟨w6,hr6,k6,E6⟩:=k5.put (v:=⟨t,rule,frm⟩) hnt
 have hm:¬ H2 m:=A5.h1 m ((hF2 m).2 (.inr (.inr (.inl rfl))))
 refine ⟨w6,hr6,E6.kept (fun b hb e=>hm (e▸hb)),?_⟩
 have c16:w6.cell? p1=some (.pointer (some k)):=E6.cell A5.cap (fun e=>A5.d1 ((hF2 _).2 (.inr (.inr (.inl e)))))
 refine ⟨_,c16,k,rfl,sl,k6.box.cell rfl,?_⟩
 have k7:=k6.pure (D w6)
 have c17:w6.drew.cell? p1=some (.pointer (some k)):=(D w6).cell c16 (fun h=>h)
 refine ⟨fun w'=>w'.cell? p1=some (.pointer (some k))∧Box w' k [.pointer (some p),sg.v,.map (some m),sl.v] 165,⟨c17,k7.box⟩,?_⟩
 rintro _ rfl
 refine ⟨_,fun w' h=>h.1,_,fun w' h=>h.1,k,rfl,sl,fun w' h=>h.2.cell rfl,?_⟩
 intro q w8 h8
 have E8:Pure w6.drew w8:=Ext.new h8
 refine ⟨⟨E8.cell c17 (fun h=>h),k7.box.pure E8⟩,?_⟩
 have hSn:S.length≤65536:=by have:=hwo.few;have:=hW.ok.few;omega
 obtain ⟨s1,w9,hr9,X9,b9,k9,E9,f9⟩:=k7.app h8 (by rw [Sp.qS];omega)
 have c19:w9.cell? p1=some (.pointer (some k)):=X9.cell (E8.cell c17 (fun h=>h)) (fun hb=>A5.d1 ((hF2 _).2 (.inr (.inr (.inr hb)))))
 have hH8:∀b,H2 b→b<w4.drew.heap.size:=hs5.lt
 refine ⟨s1,w9,hr9,⟨c19,b9⟩,X9.kept (fun b hb hx=>A5.h1 b ((hF2 b).2 (.inr (.inr (.inr hx)))) hb),k,rfl,b9.canW (by simp),by rw [zV];exact A5.h1 _ ((hF2 _).2 (.inl rfl)),?_⟩
 rintro _ rfl
 rw [← show Sp.zO (S++[⟨t,rule,frm⟩])=Sp.zO S++[t] from Sp.xA S ⟨t,rule,frm⟩] at k9
 have E59:Ext F w4.drew (w9.setCell (k.add 3) s1.v):=(E6.mono (fun b _ e=>(hF2 b).2 (.inr (.inr (.inl e))))).trans (((D w6).pure (F:=F)).trans (E9.mono (fun b _ hb=>(hF2 b).2 hb)))
 have z6:w4.drew.heap.size≤w6.drew.heap.size:=Nat.le_trans E6.size (D w6).size
 have A10:SeesAt w0 H2 (w9.setCell (k.add 3) s1.v) k p p1 L G (S++[⟨t,rule,frm⟩]) (KF k sg m s1) F FP:=A5.step hH8 ⟨sg,m,s1,k9,fun b=>Iff.rfl⟩ E59 (fun b hb=>(f9 b hb).imp (hF2 b).2 (fun h=>by omega))
 have hw1:Sp.WaysOk L G (S++[⟨t,rule,frm⟩]):=hwo.snoc hnt ht hv
 have hl2:sl.len=S.length:=by rw [k2.list.len,qM,Sp.qS]
 refine ⟨fun i H w'=>∃(j:Nat) (Sj:List Sp.Way) (Fj:NP),i=j∧j≤Sj.length∧SeesAt w0 H w' k p p1 L G Sj Fj F FP∧Sp.WaysOk L G Sj∧(∀u∈Sp.zO (Sj.take j),Sp.jFH L Sj u)∧t∈Sp.zO Sj∧∀u∈Sp.zO S,u∈Sp.zO Sj,fun i _=>((L.length:Int) - i).toNat,
  ⟨S.length,_,_,by rw [hl2],by simp,A10,hw1,fun u hu=>by rw [List.take_left] at hu;exact (hcl u hu).snoc,by rw [Sp.xA];simp,fun u hu=>by rw [Sp.xA];exact List.mem_append_left _ hu⟩,?_⟩
 rintro _ Hl wl hl ⟨j,Sj,Fj,rfl,hj,A,hwj,hcj,htj,hSj⟩
 unfold m_U_l1
 obtain ⟨tg,mj,tl,kj,hFj⟩:=A.know
 have hlj:tl.len=Sj.length:=by rw [kj.list.len,qM,Sp.qS]
 refine ⟨_,A.cap,k,rfl,tl,kj.box.cell rfl,fun hc=>?_,fun hc=>?_⟩
 ·have hlt:=uN hlj hc
  obtain ⟨a8,at8,_,c8⟩:=tQ kj.list.lst (j:=j) (by rw [Sp.qS];exact hlt)
  have hu:(Sp.zO Sj)[j]'(by rw [Sp.qS];exact hlt)=Sj[j].t:=by simp [Sp.zO]
  rw [hu] at c8
  have hum:Sj[j].t∈Sp.zO Sj:=List.mem_map.2 ⟨_,List.getElem_mem hlt,rfl⟩
  have hui:=hwj.inp _ hum
  have hLn:Sj.length≤L.length:=hwj.few
  have hL6:=hW.ok.few
  have htk:Sp.zO (Sj.take (j+1))=Sp.zO (Sj.take j)++[Sj[j].t]:=by rw [List.take_succ_eq_append_getElem hlt,Sp.xA]
  generalize Sj[j].t=u at *
  refine ⟨_,A.cap,k,rfl,tl,kj.box.cell rfl,a8,at8,u,c8,?_⟩
  intro p5 w11 h11
  have hp5:=h11.at_size
  have E11:Pure wl w11:=Ext.new h11
  have b5:=Box.of_new h11
  have hnh5:¬ Hl p5.block:=fun hh=>by have:=hl.lt _ hh;omega
  refine ⟨b5.canW0 (by simp),hnh5,?_⟩
  rintro _ rfl
  have b12:=b5.set0 (v:=.int .i64 u)
  have E12:=Ext.setCell (w:=w11) p5 (.int .i64 u)
  have wl0:=A.ext.size
  have n5:¬ Fj p5.block:=fun hh=>by have:=A.know.lt hh;omega
  have n5p:¬ FP p5.block:=fun hh=>by have:=A.pool.lt hh;omega
  have n51:p5.block≠p1.block:=fun hh=>by have:=World.block_lt_of_cell? wl p1 A.cap;omega
  have A12:SeesAt w0 Hl (w11.setCell p5 (.int .i64 u)) k p p1 L G Sj Fj F FP:=(A.pure E11).fresh E12 n5 n5p n51 (by omega)
  have k12:KnowS (w11.setCell p5 (.int .i64 u)) k p G Sj (Sp.zO Sj) tg mj tl:=(kj.pure E11).ext E12 (fun b hb e=>n5 (e▸(hFj b).2 hb))
  have hl12:Hst w0 Hl (w11.setCell p5 (.int .i64 u)) Hl (w11.setCell p5 (.int .i64 u)):=(hl.again E11.keptP).again (E12.kept (fun b hb e=>hnh5 (e▸hb)))
  generalize w11.setCell p5 (.int .i64 u)=w12 at *
  clear E11 E12 h11
  refine ⟨fun w'=>w'.cell? p1=some (.pointer (some k))∧Box w' k [.pointer (some p),tg.v,.map (some mj),tl.v] 165∧Box w' p5 [.int .i64 u] 78,⟨(A12.pure (D w12)).cap,(k12.pure (D w12)).box,b12.pure (D w12)⟩,?_⟩
  rintro _ rfl
  have A17:=A12.pure (D w12)
  have b17:=b12.pure (D w12)
  have k17:=k12.pure (D w12)
  have hs17:Hst w0 Hl w12.drew Hl w12.drew:=hl12.again (D w12).keptP
  generalize hn:Sp.nodeOf L u=n at *
  have J2 : ∀ (a9 : Addr) (w : World), Hst w0 Hl w Hl w → SeesAt w0 Hl w k p p1 L G Sj Fj F FP → w.cell? p5 = some (.int .i64 u) → Row w a9 (uR n) → ¬ Fj a9.block → ¬ Hl a9.block →
    m_U_j2 p1 j p5 a9 w0 Hl w (fun y'0 H' w'=>(∃(j:Nat) (Sj:List Sp.Way) (Fj:NP),y'0=j∧j≤Sj.length∧SeesAt w0 H' w' k p p1 L G Sj Fj F FP∧Sp.WaysOk L G Sj∧(∀u∈Sp.zO (Sj.take j),Sp.jFH L Sj u)∧t∈Sp.zO Sj∧∀u∈Sp.zO S,u∈Sp.zO Sj)∧((L.length:Int) - y'0).toNat<((L.length:Int) - (j:Int)).toNat) K:=by
   intro a9 w hs Aw c5 r9 n9 nh9
   have fin : ∀ (H' : NP) (w' : World) (S' : List Sp.Way) (F' : NP), SeesAt w0 H' w' k p p1 L G S' F' F FP → Sp.WaysOk L G S' → (∃ M, S' = Sj ++ M) → Sp.jFH L S' u →
     ((∃(j':Nat) (Sj:List Sp.Way) (Fj:NP),IntKind.i64.wrap ((j:Int)+1)=j'∧j'≤Sj.length∧SeesAt w0 H' w' k p p1 L G Sj Fj F FP∧Sp.WaysOk L G Sj∧(∀u∈Sp.zO (Sj.take j'),Sp.jFH L Sj u)∧t∈Sp.zO Sj∧∀u∈Sp.zO S,u∈Sp.zO Sj)∧((L.length:Int) - IntKind.i64.wrap ((j:Int)+1)).toNat<((L.length:Int) - (j:Int)).toNat):=by
    rintro H' w' S' F' A' hw' ⟨M,rfl⟩ hsh
    have hsub:∀x∈Sp.zO Sj,x∈Sp.zO (Sj++M):=fun x hx=>by unfold Sp.zO at hx ⊢;rw [List.map_append];exact List.mem_append_left _ hx
    rw [vV (n:=L.length) (by omega) (by omega)]
    refine ⟨⟨j+1,_,F',rfl,by rw [List.length_append];omega,A',hw',fun x hx=>?_,hsub t htj,fun x hx=>hsub x (hSj x hx)⟩,jCC (by omega)⟩
    rw [List.take_append_of_le_length (by omega),htk,List.mem_append,List.mem_singleton] at hx
    rcases hx with hx | rfl
    ·exact fun r y ha=>hsub y (hcj x hx r y ha)
    ·exact hsh
   unfold m_U_j2
   have ck:w.cell? a9=some (.int .i64 n.kind):=by simpa [Addr.add,uR] using r9 0 (by simp [uR])
   have ca:w.cell? (a9.add 5)=some (.int .i64 n.a):=r9 5 (by simp [uR])
   have cb:w.cell? (a9.add 6)=some (.int .i64 n.b):=r9 6 (by simp [uR])
   refine ⟨_,ck,fun hk=>?_,fun hk=>?_⟩
   ·have hk4:n.kind=4:=by simpa using hk
    have hkids:=Sp.jWA hW hui (by rw [hn];exact hk4)
    rw [hn] at hkids
    refine ⟨_,ca,?_⟩
    refine (jBC k p n.a 1 u p1 p5 w Aw.know Aw.cap c5 Aw.d1 (fun hh=>n5 hh) (by omega)).mono ?_
    rintro _ w13 ⟨rfl,F1,K1,X1,f1⟩
    have A1:=Aw.step hs.lt K1 X1 f1
    have hs13:=hs.again (X1.kept (fun b hb hf=>Aw.h1 b hf hb))
    refine ⟨rfl,X1.kept (fun b hb hf=>Aw.h1 b hf hb),n.b,X1.cell cb (by rw [zV];exact n9),?_⟩
    have a1:Sp.uB L 1 u n.a:=.inl ⟨rfl,by rw [hn];exact hk4,by rw [hn]⟩
    have a2:Sp.uB L 2 u n.b:=.inr (.inl ⟨rfl,by rw [hn];exact hk4,by rw [hn]⟩)
    have hw1:=hwj.add (v:=⟨n.a,1,u⟩) hkids.1.1 (.inr ⟨by simp,a1,hum⟩)
    have u1:=(Sp.xV Sj ⟨n.a,1,u⟩).2 u hum
    have hw2:=hw1.add (v:=⟨n.b,2,u⟩) hkids.2.1 (.inr ⟨by simp,a2,u1⟩)
    have p5lt:=World.block_lt_of_cell? w p5 c5
    have m5:¬ F1 p5.block:=fun hh=>(f1 _ hh).elim n5 (fun hx=>by omega)
    refine (jBC k p n.b 2 u p1 p5 w13 A1.know A1.cap (X1.cell c5 n5) A1.d1 m5 (by have:=hw1.few;omega)).mono ?_
    rintro _ w14 ⟨rfl,F2,K2,X2,f2⟩
    have A2:=A1.step hs13.lt K2 X2 f2
    refine ⟨rfl,X2.kept (fun b hb hf=>A1.h1 b hf hb),?_⟩
    refine fin Hl w14 _ F2 A2 hw2 ?_ ?_
    ·obtain ⟨M1,e1⟩:=Sp.jBD Sj ⟨n.a,1,u⟩
     obtain ⟨M2,e2⟩:=Sp.jBD (Sp.tJ Sj ⟨n.a,1,u⟩) ⟨n.b,2,u⟩
     exact ⟨M1++M2,by rw [e2,e1,List.append_assoc]⟩
    ·rintro r y (⟨_,_,h3⟩ | ⟨_,_,h3⟩ | ⟨_,h2,_⟩)
     ·rw [hn] at h3;subst h3
      exact (Sp.xV _ ⟨n.b,2,u⟩).2 _ (Sp.xV Sj ⟨n.a,1,u⟩).1
     ·rw [hn] at h3;subst h3
      exact (Sp.xV _ ⟨n.b,2,u⟩).1
     ·rw [hn,hk4] at h2;cases h2
   ·have hk4:n.kind≠4:=by simpa using hk
    rintro y1 rfl
    have hy:(cond ((n.kind:Int) == 7) ((n.kind:Int) == 7) (cond ((n.kind:Int) == 8) ((n.kind:Int) == 8) ((n.kind:Int) == 9)))=Sp.uF n.kind:=by
     unfold Sp.uF;cases h7:(n.kind == 7) <;> cases h8:(n.kind == 8) <;> simp
    rw [hy]
    refine ⟨fun hs7=>?_,fun hs7=>?_⟩
    ·intro H3 w15 hs15
     have A15:=Aw.hst hs15
     have hkids:=Sp.kids7 hW hui (by rw [hn];exact hs7)
     rw [hn] at hkids
     have r15:=jQJ r9 nh9 hs15
     have ca15:w15.cell? (a9.add 5)=some (.int .i64 n.a):=r15 5 (by simp)
     have c515:=jHV c5 hnh5 hs15
     refine ⟨n.a,ca15,?_⟩
     refine (jBC k p n.a 3 u p1 p5 w15 A15.know A15.cap c515 A15.d1 n5 (by omega)).mono ?_
     rintro _ w16 ⟨rfl,F1,K1,X1,f1⟩
     have A1:=A15.step hs15.lt K1 X1 f1
     refine ⟨rfl,X1.kept (fun b hb hf=>A15.h1 b hf hb),?_⟩
     have a3:Sp.uB L 3 u n.a:=.inr (.inr ⟨rfl,by rw [hn];exact hs7,by rw [hn]⟩)
     refine fin H3 w16 _ F1 A1 (hwj.add (v:=⟨n.a,3,u⟩) hkids.1 (.inr ⟨by simp,a3,hum⟩)) (Sp.jBD Sj ⟨n.a,3,u⟩) ?_
     rintro r y (⟨_,h2,_⟩ | ⟨_,h2,_⟩ | ⟨_,_,h3⟩)
     ·rw [hn] at h2;exact absurd h2 hk4
     ·rw [hn] at h2;exact absurd h2 hk4
     ·rw [hn] at h3;subst h3
      exact (Sp.xV Sj ⟨n.a,3,u⟩).1
    ·intro H3 w15 hs15
     refine fin H3 w15 Sj Fj (Aw.hst hs15) hwj ⟨[],by simp⟩ ?_
     rintro r y (⟨_,h2,_⟩ | ⟨_,h2,_⟩ | ⟨_,h2,_⟩)
     ·rw [hn] at h2;exact absurd h2 hk4
     ·rw [hn] at h2;exact absurd h2 hk4
     ·rw [hn,hs7] at h2;cases h2
  refine ⟨_,fun w' h=>h.1,k,rfl,_,fun w' h=>h.2.1.cell0,_,fun w' h=>h.2.2.cell0,?_,?_⟩
  ·refine (jGN p u w12.drew A17.pool hW.ok).mono ?_
   rintro _ w18 ⟨nk,nf,nt,nu,nx,na,nb,ok,rfl,⟨hnn,_⟩,E18⟩
   rw [hn] at hnn
   refine ⟨_,_,_,_,_,_,_,_,rfl,⟨(A17.pure E18).cap,k17.box.pure E18,b17.pure E18⟩,E18.keptP,?_⟩
   intro p6 w19 h19
   have hp6:=h19.at_size
   have E19:=E18.trans (Ext.new h19)
   have b6:=Box.of_new h19
   have z18:=E18.size
   have z12:wl.heap.size≤w12.drew.heap.size:=by have:=(b17.lt);omega
   have nh6:¬ Hl p6.block:=fun hh=>by have:=hl.lt _ hh;omega
   refine ⟨⟨(A17.pure E19).cap,k17.box.pure E19,b17.pure E19⟩,b6.canWs (n:=7) (by simp),nh6,?_⟩
   rintro _ rfl
   have E20:=Ext.storeRow w19 p6 [(.int .i64 nk),(.int .i64 nf),(.int .i64 nt),(.int .u64 nu),(.string nx),(.int .i64 na),(.int .i64 nb)]
   have b20:=b6.store (vs:=[(.int .i64 nk),(.int .i64 nf),(.int .i64 nt),(.int .u64 nu),(.string nx),(.int .i64 na),(.int .i64 nb)]) rfl
   have A19:=A17.pure E19
   have n6:¬ Fj p6.block:=fun hh=>by have:=A17.know.lt hh;omega
   have A20:=A19.fresh E20 n6 (fun hh=>by have:=A17.pool.lt hh;omega) (fun hh=>by have:=World.block_lt_of_cell? _ p1 A17.cap;omega) (by have:=A17.ext.size;omega)
   have k20:=(k17.box.pure E19).ext E20 (fun e=>by have:=k17.box.lt;omega)
   have b520:=(b17.pure E19).ext E20 (fun e=>by have:=b17.lt;omega)
   have hs20:Hst w0 Hl _ Hl _:=(hs17.again E19.keptP).again (E20.kept (fun b hb e=>nh6 (e▸hb)))
   exact ⟨⟨A20.cap,k20,b520⟩,J2 p6 _ hs20 A20 b520.cell0 (by rw [← hnn];exact b20.row) n6 nh6⟩
  ·intro p7 w21 h21
   have hp6:=h21.at_size
   have E21:Pure w12.drew w21:=Ext.new h21
   have b7:=Box.of_new h21
   refine ⟨⟨(A17.pure E21).cap,k17.box.pure E21,b17.pure E21⟩,?_⟩
   refine (jGN p u w21 (A17.pure E21).pool hW.ok).mono ?_
   rintro _ w22 ⟨nk,nf,nt,nu,nx,na,nb,ok,rfl,⟨hnn,_⟩,E22⟩
   rw [hn] at hnn
   have E19:=E21.trans E22
   have z12:wl.heap.size≤w12.drew.heap.size:=by have:=(b17.lt);omega
   have nh6:¬ Hl p7.block:=fun hh=>by have:=hl.lt _ hh;omega
   have b6:=b7.pure E22
   refine ⟨_,_,_,_,_,_,_,_,rfl,⟨(A17.pure E19).cap,k17.box.pure E19,b17.pure E19⟩,E22.keptP,b6.canWs (n:=7) (by simp),nh6,?_⟩
   rintro _ rfl
   have E20:=Ext.storeRow w22 p7 [(.int .i64 nk),(.int .i64 nf),(.int .i64 nt),(.int .u64 nu),(.string nx),(.int .i64 na),(.int .i64 nb)]
   have b20:=b6.store (vs:=[(.int .i64 nk),(.int .i64 nf),(.int .i64 nt),(.int .u64 nu),(.string nx),(.int .i64 na),(.int .i64 nb)]) rfl
   have A19:=A17.pure E19
   have n6:¬ Fj p7.block:=fun hh=>by have:=A17.know.lt hh;omega
   have A20:=A19.fresh E20 n6 (fun hh=>by have:=A17.pool.lt hh;omega) (fun hh=>by have:=World.block_lt_of_cell? _ p1 A17.cap;omega) (by have:=A17.ext.size;omega)
   have k20:=(k17.box.pure E19).ext E20 (fun e=>by have:=k17.box.lt;omega)
   have b520:=(b17.pure E19).ext E20 (fun e=>by have:=b17.lt;omega)
   have hs20:Hst w0 Hl _ Hl _:=(hs17.again E19.keptP).again (E20.kept (fun b hb e=>nh6 (e▸hb)))
   exact ⟨⟨A20.cap,k20,b520⟩,J2 p7 _ hs20 A20 b520.cell0 (by rw [← hnn];exact b20.row) n6 nh6⟩
 ·have hge:=xS hlj hj hc
  subst hge
  rw [List.take_length] at hcj
  exact hK Sj Fj wl A.know ⟨hwj,hcj,htj,hSj⟩ A.ext A.own
theorem jMT (p:Addr) (k:Int) (w:World) (hk:k=0∨k=1∨k=2):(Instr.sliceAt 54 (Sl.mk (some p) 2 2).v .none (some (.int .i64 k)) .none).run prog w=.ok (Sl.mk (some p) k.toNat 2).v w:=by
 rcases hk with rfl | rfl | rfl <;> kernel_rfl
theorem jWL (p:Addr) (k f t u:Int) (x:ByteArray) (a b:Int) (w:World) {L:Sp.Pool} {F:NP} (hP:zR w p L F) (hok:Sp.Ok L) :
  Calls prog 167 #[.pointer (some p),.agg #[.int .i64 k,.int .i64 f,.int .i64 t,.int .u64 u,.string x,.int .i64 a,.int .i64 b]] w
   (fun e w'=>∃r1:Int,∃r2:Int,∃r3:Int,e=.returned (.tuple #[.int .i64 r1,.int .i64 r2,.int .i64 r3])∧((r1,r2,r3)=Sp.check L ⟨k,f,t,u,x,a,b⟩∧Pure w w')):=by
 suffices key:∀K:Int→Int→Int→WP,(∀r1 r2 r3 w',(r1,r2,r3)=Sp.check L ⟨k,f,t,u,x,a,b⟩∧Pure w w'→K r1 r2 r3 w')→m_F (some p) k f t u x a b w K from
  w_F _ _ _ _ _ _ _ _ w _ (key _ (fun _ _ _ _ h=>h))
 intro K hK
 unfold m_F
 intro p2 w1 h1
 have b1:=Box.of_new h1
 have E1:Pure w w1:=Ext.new h1
 refine ⟨_,_,_,_,_,_,_,b1.row,?_⟩
 refine (jSE _ _ _ _ _ _ _ _).mono ?_
 rintro _ w2 ⟨s1,s2,s3,s4,s5,pe,rfl,⟨hs,hpe⟩,E2⟩
 refine ⟨_,_,_,_,_,_,rfl,?_⟩
 intro p3 w3 h3
 have b2:=(b1.pure E2).pure (Ext.new h3)
 have n23:p2.block≠p3.block:=New.ne h3 (b1.pure E2).blk
 have E3:Pure w w3:=(E1.trans E2).trans (Ext.new h3)
 have o3:=New.own (E1.trans E2) h3
 refine bx 5 (Box.of_new h3) rfl rfl (fun w4 b3 E=>?_)
 have b2:=b2.ext E n23
 have E4:Pure w w4:=E3.own o3 E
 clear E E3 E2 E1 b1 h1 h3
 have hsh:Sp.shapeOf k=⟨s1,s2,s3,s4,s5⟩:=hs.symm
 have hk5:s5=0∨s5=1∨s5=2:=by have:=Sp.yL k;rw [hsh] at this;exact this
 generalize hn:(⟨k,f,t,u,x,a,b⟩:Sp.Node)=n at *
 have hnk:n.kind=k:=by rw [← hn]
 have hna:n.a=a:=by rw [← hn]
 have hnb:n.b=b:=by rw [← hn]
 have J2:∀e2 w',Pure w4 w'→(e2≠0→Sp.check L n=(0,0,e2))→(e2=0→pe=0∧((decide (s5<1) && a != 0) || (decide (s5<2) && b != 0))=false∧Sp.zY ⟨s1,s2,s3,s4,s5⟩ n=0)→m_F_j2 (some p) p2 p3 e2 w' K:=by
  intro e2 w' E' hne heq;have b2:=b2.pure E';have b3:=b3.pure E';have E5:=E4.trans E';have hP':=hP.pure E5;unfold m_F_j2;refine ⟨fun h=>hK _ _ _ _ ⟨(hne (by simpa using h)).symm,E5⟩,fun h=>⟨_,b2.cell rfl,_,b2.cell rfl,?_⟩⟩;intro p4 w5 h5;obtain ⟨hp0,hc0,hf0⟩:=heq (by simpa using h);have b4:=Box.of_new h5;have E6:=E5.trans (Ext.new h5);have hP6:=hP.pure E6;refine ⟨_,(b3.pure (Ext.new h5)).cell rfl,_,jMT p4 s5 w5 hk5,?_⟩;have hks:Sp.zG n=[a,b].take s5.toNat:=by simp [Sp.zG,hnk,hsh,hna,hnb]
  have hlen:(Sp.zG n).length=s5.toNat:=by rw [hks];rcases hk5 with rfl | rfl | rfl <;> rfl
  have hget:∀j (hj:j<(Sp.zG n).length),w5.cell? (p4.add (j*1))=some (.int .i64 (Sp.zG n)[j]):=by
   intro j hj;have hj2:j<s5.toNat:=by omega
   have:(Sp.zG n)[j]=[a,b][j]'(by simp;omega):=by simp only [hks,List.getElem_take]
   rw [this,Nat.mul_one];refine b4.cell ?_;have h2:j=0∨j=1:=by omega
   rcases h2 with rfl | rfl <;> rfl
  have hrest:Sp.check L n=if (Sp.zG n).any (fun t=>!Sp.inP L t) then (0,0,51) else if 1+((Sp.zG n).map (Sp.sizeOf L)).sum>4096∨(Sp.zG n).foldl (fun d t=>max d (Sp.depthOf L t)) 0+1>64 then (0,0,52) else (1+((Sp.zG n).map (Sp.sizeOf L)).sum,(Sp.zG n).foldl (fun d t=>max d (Sp.depthOf L t)) 0+1,0):=by
   unfold Sp.check;simp only [hnk,hsh,hna,hnb,← hpe,hp0,hc0,hf0];simp
  generalize hkk:Sp.zG n=ks at *;have hl2:ks.length≤2:=by omega
  have hsum:∀j,0≤((ks.take j).map (Sp.sizeOf L)).sum∧((ks.take j).map (Sp.sizeOf L)).sum≤4096*(ks.take j).length:=by
   intro j;generalize ks.take j=l;induction l with
   | nil=>simp
   | cons y l ih=>have:=hok.sizeOf y;simp only [List.map_cons,List.sum_cons,List.length_cons];omega
  have hdep:∀(l:List Int) (d:Int),0≤d→d≤64→0≤l.foldl (fun d t=>max d (Sp.depthOf L t)) d∧l.foldl (fun d t=>max d (Sp.depthOf L t)) d≤64:=by
   intro l;induction l with
   | nil=>intro d h1 h2;exact ⟨h1,h2⟩
   | cons y l ih=>intro d h1 h2;have:=hok.depthOf y;exact ih (max d (Sp.depthOf L y)) (by omega) (by omega)
  refine ⟨fun sz d x w'=>∃j:Nat,x=j∧j≤ks.length∧sz=1+((ks.take j).map (Sp.sizeOf L)).sum∧d=(ks.take j).foldl (fun d t=>max d (Sp.depthOf L t)) 0∧(ks.take j).any (fun t=>!Sp.inP L t)=false∧w5=w',fun _ _ x _=>(2 - x).toNat,⟨0,rfl,Nat.zero_le _,by simp,by simp,by simp,rfl⟩,?_⟩;rintro sz d _ _ ⟨j,rfl,hj,rfl,rfl,hin,rfl⟩;unfold m_F_l3;have hs1:=hsum j;have hd1:=hdep (ks.take j) 0 (by omega) (by omega);have htl:(ks.take j).length≤2:=by rw [List.length_take];omega
  refine ⟨fun h=>?_,fun h=>?_⟩
  ·have hlt:j<ks.length:=by have h:=of_decide_eq_true h;simp only at h;omega
   refine ⟨p4.add (j*1),⟨by omega,of_decide_eq_true h,p4,rfl,by simp⟩,ks[j],hget j hlt,?_⟩;have htk:ks.take (j+1)=ks.take j++[ks[j]]:=List.take_succ_eq_append_getElem hlt;refine (c_in p _ w5 hP6).mono ?_;rintro _ _ ⟨_,rfl,rfl,rfl⟩;refine ⟨_,rfl,fun h=>?_,fun h=>?_⟩
   ·refine hK _ _ _ _ ⟨?_,E6⟩;rw [hrest,if_pos];exact List.any_eq_true.2 ⟨ks[j],List.getElem_mem hlt,h⟩
   ·refine (c_Size p _ w5 hP6 hok).mono ?_;rintro _ _ ⟨_,rfl,rfl,rfl⟩;refine ⟨_,rfl,?_⟩;refine (jWN p _ w5 hP6 hok).mono ?_;rintro _ _ ⟨_,rfl,rfl,rfl⟩;refine ⟨_,rfl,_,run_max_int2 _ _ _ _ _ _ _,⟨j+1,?_,hlt,?_,?_,?_,rfl⟩,?_⟩
    ·rw [i64 (by omega) (by omega)];omega
    ·have:=hok.sizeOf ks[j];rw [i64 (by omega) (by omega),htk,List.map_append,List.sum_append];simp only [List.map_cons,List.map_nil,List.sum_cons,List.sum_nil];omega
    ·rw [htk,List.foldl_append];simp only [List.foldl_cons,List.foldl_nil];split <;> omega
    ·rw [htk,List.any_append,hin];simpa using h
    ·show (2 - IntKind.i64.wrap ((j:Int)+1)).toNat<(2 - (j:Int)).toNat;rw [i64 (by omega) (by omega)];omega
  ·have hge:j=ks.length:=by have h:=of_decide_eq_false h;simp only at h;omega
   subst hge;rw [List.take_length] at hs1 hd1 hin ⊢;have hlt:(ks.length:Int)≤2:=by omega
   refine ⟨fun h=>hK _ _ _ _ ⟨?_,E6⟩,fun h=>?_⟩
   ·rw [hrest,hin,if_neg (by simp),if_pos (.inl (by simpa using h))]
   ·rw [i64 (by omega) (by omega)];refine ⟨fun h'=>hK _ _ _ _ ⟨?_,E6⟩,fun h'=>hK _ _ _ _ ⟨?_,E6⟩⟩
    ·rw [hrest,hin,if_neg (by simp),if_pos (.inr (by simpa using h'))]
    ·rw [hrest,hin,if_neg (by simp),if_neg (by simp at h h';omega)]
 have J1:∀e1,(e1≠0→Sp.check L n=(0,0,e1))→(e1=0→pe=0∧((decide (s5<1) && a != 0) || (decide (s5<2) && b != 0))=false)→m_F_j1 (some p) p2 p3 e1 w4 K:=by
  intro e1 hne heq;unfold m_F_j1;refine ⟨fun h=>⟨_,_,_,_,_,b3.row,_,_,_,_,_,_,_,b2.row,?_⟩,fun h=>J2 _ _ (Ext.refl _) hne (fun e=>by rw [e] at h;cases h)⟩;obtain ⟨hp0,hc0⟩:=heq (by simpa using h);refine (jNO _ _ _ _ _ _ _ _ _ _ _ _ _).mono ?_;rintro _ w9 ⟨_,rfl,rfl,E9⟩;rw [hn];refine ⟨_,rfl,J2 _ _ E9 (fun hf=>?_) (fun hf=>⟨hp0,hc0,hf⟩)⟩;unfold Sp.check;simp only [hnk,hsh,hna,hnb,← hpe,hp0,hc0];simp [hf]
 have J53:pe=0→((decide (s5<1) && a != 0) || (decide (s5<2) && b != 0))=true→m_F_j1 (some p) p2 p3 53 w4 K:=fun hp0 hc=>J1 53 (fun _=>by
  unfold Sp.check;simp only [hnk,hsh,hna,hnb,← hpe,hp0,hc];simp) (fun e=>by cases e)
 have Jpe:pe≠0→m_F_j1 (some p) p2 p3 pe w4 K:=fun hp=>J1 pe (fun _=>by
  unfold Sp.check;simp only [← hpe];rw [if_pos hp]) (fun e=>absurd e hp)
 have J5:∀x2 x3,x2=(decide (s5<1) && a != 0)→x3=(decide (s5<2) && b != 0)→m_F_j5 (some p) p2 pe p3 x2 x3 w4 K:=by
  intro x2 x3 h2 h3;unfold m_F_j5;refine ⟨fun h=>⟨fun hx=>J53 (by simpa using h) (by rw [← h2,hx];rfl),fun hx=>⟨fun hy=>J53 (by simpa using h) (by rw [← h2,← h3,hy];simp),fun hy=>J1 pe (fun e=>absurd (by simpa using h) e) (fun e=>⟨e,by rw [← h2,← h3,hx,hy];rfl⟩)⟩⟩,fun h=>Jpe (by simpa using h)⟩
 have J4:∀x2,x2=(decide (s5<1) && a != 0)→m_F_j4 (some p) p2 pe p3 x2 w4 K:=by
  intro x2 h2;unfold m_F_j4;refine ⟨fun h=>⟨fun hx=>J53 (by simpa using h) (by rw [← h2,hx];rfl),fun hx=>⟨_,b3.cell rfl,fun h5=>⟨_,b2.cell rfl,J5 _ _ h2 (by rw [h5];rfl)⟩,fun h5=>J5 _ _ h2 (by rw [h5];rfl)⟩⟩,fun h=>Jpe (by simpa using h)⟩
 exact ⟨fun h=>⟨_,b3.cell rfl,fun h5=>⟨_,b2.cell rfl,J4 _ (by rw [h5];rfl)⟩,fun h5=>J4 _ (by rw [h5];rfl)⟩,fun h=>Jpe (by simpa using h)⟩
def jKS (v:Value):Prop:=∃n,v=jDO n
theorem jHJ {n n':Sp.Node}:jDO n=jDO n'↔n=n':=by
 constructor
 ·intro h;cases n;cases n';simp [jDO,uR] at h;simp [h]
 ·rintro rfl;rfl
theorem jHA (n:Sp.Node):Instr.sameBits 10000 (jDO n) (jDO n)=true:=by
 have h:∀d,Instr.sameBits (d+1) (jDO n) (jDO n)=true:=fun d=>by
  have e:(n.text == n.text)=true:=by rw [beq_toListBytes];simp
  cases d <;> simp [Instr.sameBits,jDO,uR,e]
 exact h 9999
theorem jAI:KeyOK prog 127 jKS:=by
 refine KeyOK.of_struct underlying127 ?_ ?_ ?_
 ·rintro _ ⟨n,rfl⟩ em w;kernel_rfl
 ·rintro _ _ w ⟨n,rfl⟩ ⟨n',rfl⟩;refine ⟨decide (n=n'),?_,by simp only [jHJ,decide_eq_true_eq];exact eq_comm⟩;obtain ⟨k,f,t,u,x,a,b⟩:=n;obtain ⟨k',f',t',u',x',a',b'⟩:=n';simp [Op.equal,Op.maxDepth,go_sem,jSV,jDO,uR]
  repeat' split
  all_goals simp_all
 ·rintro _ ⟨n,rfl⟩;exact jHA n
theorem jEJ:SlType prog 160 234 9 (16*5):=by
 refine ⟨underlying160,⟨t234,_,by kernel_rfl,(by kernel_rfl:t234.zero=some (.agg #[.int .i64 0,.int .i64 0,.int .i64 0,.int .u64 0,.string ⟨#[]⟩,.int .i64 0,.int .i64 0,.int .i64 0,.int .i64 0])),by kernel_rfl,by kernel_rfl,rfl⟩,by omega⟩
theorem jMZ {L:Sp.Pool} {i:Nat} {n:Sp.Node} {v:Value} (h:(tF L)[i]?=some (jDO n,v)):∃e,L[i]?=some e∧e.node=n∧v=.int .i64 (i+1:Nat):=by
 simp only [tF,List.getElem?_map,List.getElem?_zipIdx,Option.map_map,Option.map_eq_some_iff] at h;obtain ⟨e,he,h⟩:=h;simp only [Function.comp,Prod.mk.injEq] at h;exact ⟨e,he,jHJ.1 h.1,by rw [← h.2];simp⟩
theorem jMY {L:Sp.Pool} {n:Sp.Node} (h:∀q∈tF L,q.1≠jDO n):∀e∈L,e.node≠n:=by
 intro e he hn;obtain ⟨i,hi,rfl⟩:=List.mem_iff_getElem.1 he;refine h (jDO L[i].node,.int .i64 (i+1:Nat)) ?_ (by rw [hn]);exact List.mem_map.2 ⟨(L[i],i),by rw [List.mem_zipIdx_iff_getElem?];simp [hi],rfl⟩
theorem jBY {L:Sp.Pool}:∀q∈tF L,jKS q.1:=by
 intro q hq;obtain ⟨x,_,rfl⟩:=List.mem_map.1 hq;exact ⟨_,rfl⟩
theorem jQT (L:Sp.Pool) (e:Sp.Ent):tF (L++[e])=tF L++[(jDO e.node,.int .i64 (L.length+1:Nat))]:=by
 simp [tF,List.zipIdx_append]
theorem jFC {L:Sp.Pool} (hok:Sp.Ok L) {i:Nat} {e:Sp.Ent} (h:L[i]?=some e):Sp.find L e.node=some i:=by
 obtain ⟨hi,rfl⟩:=List.getElem?_eq_some_iff.1 h;unfold Sp.find;rw [List.findIdx?_eq_some_iff_getElem];refine ⟨hi,by simp,fun j hj=>?_⟩;have hnd:=hok.nodup;simp only [decide_eq_true_eq];intro e;exact List.pairwise_iff_getElem.1 hnd j i (by simp;omega) (by simpa using hi) hj (by simpa using e)
theorem find_none {L:Sp.Pool} {n:Sp.Node} (h:∀e∈L,e.node≠n):Sp.find L n=none:=by
 unfold Sp.find;rw [List.findIdx?_eq_none_iff];intro e he;simpa using h e he
theorem jNP (p:Addr) (k f t u:Int) (x:ByteArray) (a b:Int) (w:World) {L:Sp.Pool} {F:NP} (hP:zR w p L F) (hok:Sp.Ok L) :
  Calls prog 109 #[.pointer (some p),.agg #[.int .i64 k,.int .i64 f,.int .i64 t,.int .u64 u,.string x,.int .i64 a,.int .i64 b]] w
   (fun e w'=>∃r1:Int,∃r2:Int,e=.returned (.tuple #[.int .i64 r1,.int .i64 r2])∧((r1,r2)=((Sp.make L ⟨k,f,t,u,x,a,b⟩).1,(Sp.make L ⟨k,f,t,u,x,a,b⟩).2.1)∧∃F',zR w' p (Sp.make L ⟨k,f,t,u,x,a,b⟩).2.2 F'∧Ext F w w'∧∀b,F' b→F b∨w.heap.size≤b)):=by
 suffices key:∀K:Int→Int→WP,(∀r1 r2 w',((r1,r2)=((Sp.make L ⟨k,f,t,u,x,a,b⟩).1,(Sp.make L ⟨k,f,t,u,x,a,b⟩).2.1)∧∃F',zR w' p (Sp.make L ⟨k,f,t,u,x,a,b⟩).2.2 F'∧Ext F w w'∧∀b,F' b→F b∨w.heap.size≤b)→K r1 r2 w')→m_F2 (some p) k f t u x a b w K from
  w_F2 _ _ _ _ _ _ _ _ w _ (key _ (fun _ _ _ h=>h))
 intro K hK
 unfold m_F2
 intro p2 w1 h1
 have b1:=Box.of_new h1
 have E1:Pure w w1:=Ext.new h1
 have o2:¬ F p2.block:=fun h=>by have:=hP.lt h;have:=h1.at_size;omega
 refine Br.f rfl ⟨_,_,_,_,_,_,_,b1.row,?_⟩
 refine (jWL p k f t u x a b w1 (hP.pure E1) hok).mono ?_
 rintro _ w2 ⟨sz,dp,er,rfl,hck,E2⟩
 refine ⟨_,_,_,rfl,?_⟩
 generalize hn:(⟨k,f,t,u,x,a,b⟩:Sp.Node)=n at *
 have E3:Pure w w2:=E1.trans E2
 have same:∀w',Pure w w'→∃F',zR w' p L F'∧Ext F w w'∧∀b,F' b→F b∨w.heap.size≤b:=fun w' E=>⟨F,hP.pure E,E.pure,fun _ h=>.inl h⟩
 refine ⟨fun h=>hK _ _ _ ?_,fun h=>?_⟩
 ·have he:er≠0:=by simpa using h
  have:Sp.make L n=(0,er,L):=by unfold Sp.make;simp [← hck,he]
  rw [this];exact ⟨rfl,same _ E3⟩
 ·have he:er=0:=by simpa using h
  subst he
  intro w3 hw3
  have E4:Pure w w3:=by rw [hw3];exact E3.trans (Ext.drew w2)
  have b3:=(b1.pure E2).pure (show Pure w2 w3 by rw [hw3];exact Ext.drew w2)
  clear hw3
  obtain ⟨s,m,hS,hF⟩:=hP.pure E4
  refine ⟨p,rfl,_,hS.box.cell (i:=1) rfl,_,_,_,_,_,_,_,b3.row,?_⟩
  have hkey:(Value.agg #[.int .i64 k,.int .i64 f,.int .i64 t,.int .u64 u,.string x,.int .i64 a,.int .i64 b])=jDO n:=by rw [← hn];rfl
  rw [hkey]
  rcases hS.map.lookup (P:=prog) (T:=159) (E:=78) underlying159 jAI jBY ⟨n,rfl⟩ (zeroValue78 _) true with ⟨hnot,hrun⟩ | ⟨i,v,hi,hrun⟩
  ·refine ⟨_,_,hrun,Br.f rfl ⟨p,rfl,s,hS.box.cell0,?_⟩⟩
   have hno:=jMY hnot
   have hfn:=find_none hno
   have hlen:(s.len:Int)=L.length:=by rw [hS.rows.len];simp
   refine ⟨fun h=>hK _ _ _ ?_,fun h=>?_⟩
   ·have h2:65536≤L.length:=by have h:=of_decide_eq_true h;omega
    have:Sp.make L n=(0,6,L):=by unfold Sp.make;simp [← hck,hfn,h2]
    rw [this];exact ⟨rfl,same _ E4⟩
   ·have h2:¬ 65536≤L.length:=by have h:=of_decide_eq_false h;omega
    have hmk:Sp.make L n=((L.length:Int)+1,0,L++[⟨n,sz,dp⟩]):=by unfold Sp.make;simp [← hck,hfn,h2]
    refine ⟨fun w'=>w'.cell? p=some s.v∧Row w' p2 (uR n),⟨?_,?_⟩,?_⟩
    ·exact Ext.cell (F:=None) (Ext.drew w3) hS.box.cell0 id
    ·rw [← hn];exact Ext.row (F:=None) (Ext.drew w3) b3.row id
    intro w4 hw4
    have E5:Pure w3 w4:=by rw [hw4];exact Ext.drew w3
    clear hw4
    have hS4:PoolS w4 p L s m:=by
     exact ⟨hS.box.pure E5,hS.rows.pure E5,hS.map.ext E5 id,hS.n1,hS.n2,hS.n3⟩
    have b4:=b3.pure E5
    refine ⟨p,rfl,s,fun w' h=>h.1,k,f,t,u,x,a,b,fun w' h=>by have:=h.2;rw [← hn] at this;exact this,?_⟩
    intro p3 w5 h5
    have E6:Pure w4 w5:=Ext.new h5
    have o3:w.heap.size≤p3.block:=New.own (E4.trans E5) h5
    have b5:=Box.of_new h5
    have hrows5:=hS4.rows.pure E6
    have hbox5:=hS4.box.pure E6
    have hmap5:CMap w5 m (tF L):=hS4.map.ext E6 id
    have b45:=b4.pure E6
    have hrow:Row w5 p3 (jPJ ⟨n,sz,dp⟩):=by rw [← hn];exact b5.row
    refine ⟨⟨hbox5.cell0,by rw [← hn];exact b45.row⟩,?_⟩
    obtain ⟨s1,w6,hr6,hrows6,E7,hb6⟩:=hrows5.append (P:=prog) (ty:=160) jEJ (c:=1) hrow (by simp [jPJ,uR]) (by simp [jPJ,uR,qH]) (by simp;omega) (by simp [maxLen];omega)
    have nb:∀b,s.blk b→b≠p2.block:=fun b hb e=>o2 (by rw [← e];exact (hF b).2 (.inr (.inl hb)))
    have hbox6:=hbox5.ext E7 hS.n2
    have hmap6:=hmap5.ext E7 hS.n3
    have b6:=b45.ext E7 (fun h=>nb _ h rfl)
    refine ⟨s1,w6,hr6,⟨hbox6.cell0,by rw [← hn];exact b6.row⟩,p,rfl,hbox6.canW0 (by simp),?_⟩
    intro w7 hw7
    have hbox7:Box w7 p [s1.v,.map (some m)] 162:=by rw [hw7];exact hbox6.set0
    have E8:Ext (·=p.block) w6 w7:=by rw [hw7];exact Ext.setCell p _
    clear hw7
    have hs1p:¬ s1.blk p.block:=fun h=>(hb6 _ h).elim hS.n2 (fun h=>by have:=hbox5.lt;omega)
    have hs1m:¬ s1.blk m:=fun h=>(hb6 _ h).elim hS.n3 (fun h=>by have:=hmap5.lt;omega)
    have hrows7:=hrows6.ext E8 (fun b hb e=>hs1p (by rw [← e];exact hb))
    have hmap7:=hmap6.ext E8 hS.n1
    have b7:=b6.ext E8 (fun e=>o2 (by rw [e];exact (hF _).2 (.inl rfl)))
    have hl1:(s1.len:Int)=L.length+1:=by rw [hrows6.len];simp
    refine ⟨p,rfl,s1,hbox7.cell0,?_⟩
    refine ⟨fun w'=>w'.cell? (p.add 1)=some (.map (some m))∧Row w' p2 (uR n),⟨?_,?_⟩,?_⟩
    ·exact Ext.cell (F:=None) (Ext.drew w7) (hbox7.cell (i:=1) rfl) id
    ·rw [← hn];exact Ext.row (F:=None) (Ext.drew w7) b7.row id
    intro w8 hw8
    have E9:Pure w7 w8:=by rw [hw8];exact Ext.drew w7
    clear hw8
    refine ⟨p,rfl,some m,fun w' h=>h.1,k,f,t,u,x,a,b,fun w' h=>by have:=h.2;rw [← hn] at this;exact this,?_⟩
    rw [hkey,hl1]
    have hmap8:CMap w8 m (tF L):=hmap7.ext E9 id
    obtain ⟨w9,hr9,hmap9,E10⟩:=hmap8.insert (P:=prog) (v:=.int .i64 ((L.length:Int)+1)) underlying159 jAI jBY ⟨n,rfl⟩ hnot
    refine ⟨w9,hr9,hK _ _ _ ?_⟩
    rw [hmk]
    have hbox9:=(hbox7.pure E9).ext E10 (fun e=>hS.n1 e.symm)
    have hrows9:=(hrows7.pure E9).ext E10 (fun b hb e=>hs1m (by rw [← e];exact hb))
    refine ⟨rfl,fun b=>b=p.block∨s1.blk b∨b=m,⟨s1,m,⟨hbox9,?_,?_,hS.n1,hs1p,hs1m⟩,fun _=>Iff.rfl⟩,?_,?_⟩
    ·simpa using hrows9
    ·rw [jQT];simpa using hmap9
    ·have hF':∀b,F b↔(b=p.block∨s.blk b∨b=m):=hF
     have Ea:Ext F w w5:=((E4.trans E5).trans E6).pure
     have Eb:Ext F w w6:=Ea.trans' E7 (fun i _ h=>(hF' i).2 (.inr (.inl h)))
     have Ec:Ext F w w7:=Eb.trans' E8 (fun i _ h=>(hF' i).2 (.inl h))
     have Ed:Ext F w w8:=Ec.thenPure E9
     exact Ed.trans' E10 (fun i _ h=>(hF' i).2 (.inr (.inr h)))
    ·intro b hb
     rcases hb with rfl | hb | rfl
     ·exact .inl ((hF _).2 (.inl rfl))
     ·rcases hb6 b hb with h | h
      ·exact .inl ((hF _).2 (.inr (.inl h)))
      ·right;have:=((E4.trans E5).trans E6).size;omega
     ·exact .inl ((hF _).2 (.inr (.inr rfl)))
  ·obtain ⟨e,he,hen,rfl⟩:=jMZ hi
   refine ⟨_,_,hrun,Br.t rfl (hK _ _ _ ?_)⟩
   have hfd:=jFC hok he
   rw [hen] at hfd
   have:Sp.make L n=((i:Int)+1,0,L):=by unfold Sp.make;simp [← hck,hfd]
   rw [this];exact ⟨by simp,same _ E4⟩
end Go.Proofs
end
section
open Go Go.SE
namespace Go.Sp
def jGP (G:List Int) (t:Int):List Int:=if t∈G then G else G++[t]
def jCS (L:Pool) (G:List Int) (t:Int):List Int:=if inP L t=true then jGP G t else G
theorem yP {G:List Int} {t x:Int}:x∈jGP G t↔x∈G∨x=t:=by
 unfold jGP;split
 ·rename_i h;exact ⟨.inl,fun h'=>h'.elim id (fun e=>e▸h)⟩
 ·simp
theorem jWS {G:List Int} {t:Int} (h:G.Nodup):(jGP G t).Nodup:=by
 unfold jGP;split
 ·exact h
 ·rename_i hn;rw [List.nodup_append];exact ⟨h,by simp,fun x hx y hy e=>by simp at hy;subst hy;exact hn (e▸hx)⟩
def jAU (L:Pool) (S:List Way) (t:Int):Int×Int×Bool×Bool :=
 if inP L t=false then (0,0,false,false)
 else if jHN (nodeOf L t).kind=true then (0,0,true,true)
 else if (nodeOf L t).kind=4 then ((nodeOf L t).a,(nodeOf L t).b,false,true)
 else if (nodeOf L t).kind=5 then ((nodeOf L t).a,0,false,true)
 else if (nodeOf L t).kind=6 then (0,0,false,false)
 else ((nodeOf L t).a,(lT L (xK (nodeOf L t))).1,false,(lT L (xK (nodeOf L t))).2 && decide ((lT L (xK (nodeOf L t))).1∈zO S))
end Go.Sp
namespace Go.Proofs
open Tryz
attribute [local irreducible] Calls
theorem jWM (p:Addr) (n:Sp.Node) (w0:World) {L:Sp.Pool} {F:NP} (hP:zR w0 p L F) (hok:Sp.Ok L) :
  Calls prog 112 #[.pointer (some p),jDO n] w0 (fun e w'=>∃r:Int,∃ok:Bool,e=.returned (.tuple #[.int .i64 r,.bool ok])∧((match Sp.find L n with | some i=>r=(i:Int)+1∧ok=true | none=>r=0∧ok=false)∧Pure w0 w')):=by
 obtain ⟨k,f,t,u,x,a,b⟩:=n
 generalize hn:(⟨k,f,t,u,x,a,b⟩:Sp.Node)=n
 have hkey:(Value.agg #[.int .i64 k,.int .i64 f,.int .i64 t,.int .u64 u,.string x,.int .i64 a,.int .i64 b])=jDO n:=by rw [← hn];rfl
 rw [← hkey]
 refine w_X3 _ _ _ _ _ _ _ _ w0 (fun r ok w'=>(match Sp.find L n with | some i=>r=(i:Int)+1∧ok=true | none=>r=0∧ok=false)∧Pure w0 w') ?_
 unfold m_X3
 intro p2 w1 h1
 have b1:=Box.of_new h1
 have E1:Pure w0 w1:=Ext.new h1
 refine Br.f rfl ?_
 rintro _ rfl
 have Ed:Pure w1 w1.drew:=Ext.drew w1
 have E2:=E1.trans Ed
 obtain ⟨s,m,hS,hF⟩:=hP.pure E2
 refine ⟨p,rfl,_,hS.box.cell (i:=1) rfl,_,_,_,_,_,_,_,(b1.pure Ed).row,?_⟩
 rw [hkey]
 rcases hS.map.lookup (P:=prog) (T:=159) (E:=78) underlying159 jAI jBY ⟨n,rfl⟩ (zeroValue78 _) true with ⟨hnot,hrun⟩ | ⟨i,v,hi,hrun⟩
 ·refine ⟨_,_,hrun,?_,E2⟩
  rw [find_none (jMY hnot)];exact ⟨rfl,rfl⟩
 ·obtain ⟨e,he,hen,rfl⟩:=jMZ hi
  refine ⟨_,_,hrun,?_,E2⟩
  rw [← hen,jFC hok he];exact ⟨by simp,rfl⟩
abbrev MakePost (p:Addr) (L:Sp.Pool) (F:NP) (w:World) (n:Sp.Node) (e:Ending) (w':World):Prop :=
 ∃r1:Int,∃r2:Int,e=.returned (.tuple #[.int .i64 r1,.int .i64 r2])∧((r1,r2)=((Sp.make L n).1,(Sp.make L n).2.1)∧∃F',zR w' p (Sp.make L n).2.2 F'∧Ext F w w'∧∀b,F' b→F b∨w.heap.size≤b)
section
variable (p:Addr) (w0:World) {L:Sp.Pool} {F:NP} (hP:zR w0 p L F) (hok:Sp.Ok L)
include hP hok
theorem c_Key (n:Int):Calls prog 50 #[.pointer (some p),.int .i64 n] w0 (MakePost p L F w0 ⟨6,n,0,0,⟨#[]⟩,0,0⟩):=by
 refine w_U3 _ _ w0 (fun r1 r2 w'=>(r1,r2)=((Sp.make L ⟨6,n,0,0,⟨#[]⟩,0,0⟩).1,(Sp.make L ⟨6,n,0,0,⟨#[]⟩,0,0⟩).2.1)∧∃F',zR w' p (Sp.make L ⟨6,n,0,0,⟨#[]⟩,0,0⟩).2.2 F'∧Ext F w0 w'∧∀b,F' b→F b∨w0.heap.size≤b) ?_;unfold m_U3;refine (jNP p _ _ _ _ _ _ _ w0 hP hok).mono ?_;rintro _ w1 ⟨r1,r2,rfl,h⟩;exact ⟨r1,r2,rfl,h⟩
end
theorem KnowS.appG {w:World} {k p:Addr} {G:List Int} {S:List Sp.Way} {ks:List Int} {sg sl:Sl} {m:Nat} (h:KnowS w k p G S ks sg m sl) {t:Int} {q:Addr} {w1:World} (hq:New w (.cells #[.int .i64 t] 78) q w1) (hn:G.length≤1000000):∃s1 w2,(Builtin.append_ #[54,54] 54 #[sg.v,(Sl.mk (some q) 1 1).v]).run prog w1=.ok s1.v w2∧Ext sg.blk w1 w2∧CanW w2 (k.add 1) ∧
  KnowS (w2.setCell (k.add 1) s1.v) k p (G++[t]) S ks s1 m sl∧Ext (KF k sg m sl) w (w2.setCell (k.add 1) s1.v)∧∀b,KF k s1 m sl b→KF k sg m sl b∨w.heap.size≤b:=by
 have E1:Pure w w1:=Ext.new hq
 have h1:=h.pure E1
 obtain ⟨s1,w2,hr,hR,hE,hb⟩:=h1.giv.append (P:=prog) (ty:=54) (c:=1) jMR (r:=[.int .i64 t]) (Box.of_new hq).row rfl rfl (by rw [qM];omega) (by rw [qM];simp [maxLen];omega)
 have hbx:=h1.box.ext hE h1.n2
 have hs1:∀b,s1.blk b→sg.blk b∨w.heap.size≤b:=fun b h=>(hb b h).imp_right (fun h=>by have:=E1.size;omega)
 have nk:¬ s1.blk k.block:=fun hh=>(hs1 _ hh).elim h.n2 (fun hh=>by have:=h.box.lt;omega)
 have nm:¬ s1.blk m:=fun hh=>(hs1 _ hh).elim h.n4 (fun hh=>by have:=h.seen.lt;omega)
 have E3:=Ext.setCell (w:=w2) (k.add 1) s1.v
 rw [zV] at E3
 refine ⟨s1,w2,hr,hE,hbx.canW (by simp),⟨hbx.set 1 s1.v,by rw [show tmr (G++[t])=tmr G++[[.int .i64 t]] by simp [tmr]];exact hR.ext E3 (fun b hb e=>nk (e▸hb)),((h1.seen.ext hE h.n4).ext E3 h.n1),((h1.list.ext hE (fun b h2 h1=>h.n6 b h1 h2)).ext E3 (fun b hb e=>h.n3 (e▸hb))),h.n1,nk,h.n3,nm,h.n5,fun b h1 h2=>(hs1 b h1).elim (fun h1=>h.n6 b h1 h2) (fun hh=>by have:=h.list.lt h2;omega)⟩,?_,?_⟩
 ·exact ((E1.pure (F:=KF k sg m sl)).trans (hE.mono (fun b _ hb=>.inr (.inl hb)))).trans (E3.mono (fun b _ hb=>.inl hb))
 ·rintro b (hb | hb | hb | hb)
  ·exact .inl (.inl hb)
  ·exact (hs1 b hb).imp_left (fun h=>.inr (.inl h))
  ·exact .inl (.inr (.inr (.inl hb)))
  ·exact .inl (.inr (.inr (.inr hb)))
theorem jKJ (k p:Addr) (t:Int) (w0:World) {L:Sp.Pool} {G:List Int} {S:List Sp.Way} {F FP:NP} (h:qA w0 k p G S F) (hP:zR w0 p L FP) (hW:Sp.Wf L) (hd:∀b,F b→¬ FP b) (hk:Sp.KnowOk L G S) :
  Calls prog 47 #[.pointer (some k),.int .i64 t] w0 (fun e w'=>∃r:Int,e=.returned (.int .i64 r)∧(r=(if Sp.inP L t=true then 0 else 51)∧∃S' F',qA w' k p (Sp.jCS L G t) S' F'∧Sp.KnowOk L (Sp.jCS L G t) S'∧Ext F w0 w'∧∀b,F' b→F b∨w0.heap.size≤b)):=by
 suffices key:∀K:Int→WP,(∀S' F' w',qA w' k p (Sp.jCS L G t) S' F'→Sp.KnowOk L (Sp.jCS L G t) S'→Ext F w0 w'→(∀b,F' b→F b∨w0.heap.size≤b)→K (if Sp.inP L t=true then 0 else 51) w')→m_G2 (some k) t w0 K from
  w_G2 _ _ w0 _ (key _ (fun S' F' w' a b c d=>⟨rfl,S',F',a,b,c,d⟩))
 intro K hK
 unfold m_G2
 obtain ⟨sg,m,sl,k0,hF⟩:=h
 refine Br.f rfl ⟨k,rfl,_,k0.box.cell0,?_⟩
 refine (jGN p t w0 hP hW.ok).mono ?_
 rintro _ w1 ⟨nk,nf,nt,nu,nx,na,nb,ok,rfl,⟨_,rfl⟩,E1⟩
 refine ⟨_,_,_,_,_,_,_,_,rfl,E1.keptP,fun hc=>?_,fun hc=>?_⟩
 ·have hin:Sp.inP L t=false:=by simpa using hc
  intro H1 w3 hs3
  have E3:Pure w0 w3:=E1.hst hs3
  have hg:Sp.jCS L G t=G:=by unfold Sp.jCS;rw [if_neg (by simp [hin])]
  have:=hK S F w3 (by rw [hg];exact ⟨sg,m,sl,k0.pure E3,hF⟩) (by rw [hg];exact hk) E3.pure (fun b hb=>.inl hb)
  simpa [hin] using this
 have hin:Sp.inP L t=true:=by simpa using hc
 have hg:Sp.jCS L G t=Sp.jGP G t:=by unfold Sp.jCS;rw [if_pos hin]
 rw [hg] at hK
 simp only [hin,if_true] at hK
 refine ⟨k,rfl,?_⟩
 intro H1 w3 hs3
 have E3:Pure w0 w3:=E1.hst hs3
 have k3:=k0.pure E3
 have nh:∀b,b<w0.heap.size→¬ H1 b:=fun b hb hh=>by have:=hs3.old b hh;omega
 have hGn:G.length≤65536:=by have:=Sp.jAH hk.gnd (fun t ht=>hk.inp t (hk.giv t ht));have:=hW.ok.few;omega
 have fin:∀(w:World) (F':NP),qA w k p (Sp.jGP G t) S F'→Ext F w0 w→(∀b,F' b→F b∨w0.heap.size≤b)→Hst w0 H1 w H1 w→(∀b,F' b→¬ H1 b)→Calls prog 106 #[.pointer (some k),.int .i64 t,.agg #[.int .i64 0,.int .i64 0]] w (fun e w8=>e=.returned (.tuple #[])∧Kept H1 w w8∧K 0 w8):=by
  intro w F' hw hE hf hs hh;have hGs:∀x∈G,x∈Sp.jGP G t:=fun x hx=>Sp.yP.2 (.inl hx);have hPw:zR w p L FP:=hP.ext hE (fun b hb hfb=>hd b hfb hb);refine (jPG k p t 0 0 w hw hPw hW (fun b hb hp=>?_) (hk.toWaysOk.mono hGs) hk.closed hin (.inl ⟨rfl,rfl,Sp.yP.2 (.inr rfl)⟩)).mono ?_
  ·rcases hf b hb with h1 | h1
   ·exact hd b h1 hp
   ·have:=hP.lt hp;omega
  ·rintro _ w8 ⟨rfl,S',F2,K2,⟨q1,q2,q3,q4⟩,X2,f2⟩;have z:=hE.size;refine ⟨rfl,X2.kept (fun b hb hx=>hh b hx hb),hK S' F2 w8 K2 ⟨q1,q2,fun x hx=>?_,Sp.jWS hk.gnd⟩ (hE.trans' X2 (fun i hi hx=>(hf i hx).elim id (fun h=>by omega))) (fun b hb=>?_)⟩
   ·rcases Sp.yP.1 hx with hx | rfl
    ·exact q4 x (hk.giv x hx)
    ·exact q3
   ·rcases f2 b hb with h1 | h1
    ·exact hf b h1
    ·right;omega
 refine ⟨_,k3.box.cell rfl,?_⟩
 refine (jJV sg G t w3 k3.giv.lst (by omega)).mono ?_
 rintro _ w3 ⟨r,rfl,rfl,rfl⟩
 refine ⟨_,rfl,Kept.refl _,fun hc2=>?_,fun hc2=>?_⟩
 ·have hnG:t ∉ G:=by simpa using hc2
  have hadd:Sp.jGP G t=G++[t]:=if_neg hnG
  refine ⟨k,rfl,_,k3.box.cell rfl,?_⟩
  intro q w5 h5
  obtain ⟨s1,w6,hr6,X6,cw6,k6,E6,f6⟩:=k3.appG h5 (by omega)
  have hs5:Hst w0 H1 w5 H1 w5:=hs3.here.again (Ext.new h5:Pure w3 w5).keptP
  have sgn:∀b,sg.blk b→¬ H1 b:=fun b hb=>nh b (k0.lt (.inr (.inl hb)))
  have kk:Kept H1 w5 w6:=X6.kept (fun b hb hx=>sgn b hx hb)
  refine ⟨s1,w6,hr6,kk,k,rfl,cw6,by rw [zV];exact nh _ k0.box.lt,?_⟩
  rintro _ rfl
  have z3:=E3.size
  have z5:w3.heap.size≤w5.heap.size:=(Ext.new h5:Pure w3 w5).size
  refine fin _ (KF k s1 m sl) (by rw [hadd];exact ⟨s1,m,sl,k6,fun b=>Iff.rfl⟩) ((E3.pure (F:=F)).trans (E6.mono (fun b _ hb=>(hF b).2 hb))) (fun b hb=>(f6 b hb).imp (hF b).2 (fun h=>by omega)) ((hs5.again kk).again (Kept.setCell (by rw [zV];exact nh _ k0.box.lt))) (fun b hb hh=>?_)
  rcases f6 b hb with h1 | h1
  ·exact nh b (k0.lt h1) hh
  ·have:=hs3.lt b hh;omega
 ·have hG:t∈G:=by simpa using hc2
  have hadd:Sp.jGP G t=G:=if_pos hG
  exact fin w3 F (by rw [hadd];exact ⟨sg,m,sl,k3,hF⟩) E3.pure (fun b hb=>.inl hb) hs3.here (fun b hb=>nh b (k0.lt ((hF b).1 hb)))
theorem jPH (k p:Addr) (t:Int) (w0:World) {L:Sp.Pool} {G:List Int} {S:List Sp.Way} {F FP:NP} (h:qA w0 k p G S F) (hP:zR w0 p L FP) (hW:Sp.Wf L) :
  Calls prog 172 #[.pointer (some k),.int .i64 t] w0 (fun e w'=>∃r1:Int,∃r2:Int,∃r3:Bool,∃r4:Bool,e=.returned (.tuple #[.int .i64 r1,.int .i64 r2,.bool r3,.bool r4])∧((r1,r2,r3,r4)=Sp.jAU L S t∧Pure w0 w')):=by
 refine w_M1 _ _ w0 (fun r1 r2 r3 r4 w'=>(r1,r2,r3,r4)=Sp.jAU L S t∧Pure w0 w') ?_
 unfold m_M1
 obtain ⟨sg,m,sl,k0,hF⟩:=h
 refine ⟨k,rfl,_,k0.box.cell0,?_⟩
 refine (jGN p t w0 hP hW.ok).mono ?_
 rintro _ w1 ⟨nk,nf,nt,nu,nx,na,nb,ok,rfl,⟨hn,rfl⟩,E1⟩
 refine ⟨_,_,_,_,_,_,_,_,rfl,E1.keptP,fun hc=>?_,fun hc=>?_⟩
 ·intro H1 w3 hs3
  have hin:Sp.inP L t=false:=by simpa using hc
  exact ⟨by unfold Sp.jAU;rw [if_pos hin],E1.hst hs3⟩
 have hin:Sp.inP L t=true:=by simpa using hc
 have hi:¬ Sp.inP L t=false:=by simp [hin]
 rintro y1 rfl
 have hy:(cond ((nk:Int) == 1) ((nk:Int) == 1) (cond ((nk:Int) == 2) ((nk:Int) == 2) ((nk:Int) == 3)))=Sp.jHN nk:=by
  unfold Sp.jHN;cases (nk == 1) <;> cases (nk == 2) <;> simp
 rw [hy]
 have hk1:(Sp.nodeOf L t).kind=nk:=by rw [← hn]
 have hfr:(Sp.nodeOf L t).frm=nf:=by rw [← hn]
 have hto:(Sp.nodeOf L t).to=nt:=by rw [← hn]
 have ha:(Sp.nodeOf L t).a=na:=by rw [← hn]
 have hb:(Sp.nodeOf L t).b=nb:=by rw [← hn]
 refine ⟨fun h1=>?_,fun h1=>⟨fun h4=>?_,fun h4=>⟨fun h5=>?_,fun h5=>⟨fun h6=>?_,fun h6=>?_⟩⟩⟩⟩
 ·intro H2 w7 hs7
  exact ⟨by unfold Sp.jAU;rw [if_neg hi,hk1,if_pos h1],E1.hst hs7⟩
 ·intro H2 w7 hs7
  have h4':nk=4:=by simpa using h4
  exact ⟨by unfold Sp.jAU;rw [if_neg hi,hk1,if_neg (by simp [h1]),if_pos h4',ha,hb],E1.hst hs7⟩
 ·intro H2 w7 hs7
  have h4':¬ nk=4:=by simpa using h4
  have h5':nk=5:=by simpa using h5
  exact ⟨by unfold Sp.jAU;rw [if_neg hi,hk1,if_neg (by simp [h1]),if_neg h4',if_pos h5',ha],E1.hst hs7⟩
 ·intro H2 w7 hs7
  have h4':¬ nk=4:=by simpa using h4
  have h5':¬ nk=5:=by simpa using h5
  have h6':nk=6:=by simpa using h6
  exact ⟨by unfold Sp.jAU;rw [if_neg hi,hk1,if_neg (by simp [h1]),if_neg h4',if_neg h5',if_pos h6'],E1.hst hs7⟩
 ·have h4':¬ nk=4:=by simpa using h4
  have h5':¬ nk=5:=by simpa using h5
  have h6':¬ nk=6:=by simpa using h6
  intro H3 w9 hs9
  have E9:Pure w0 w9:=E1.hst hs9
  unfold m_M1_j1
  have k9:=k0.pure E9
  have hwho:(cond ((nk:Int) == 9) nt nf)=Sp.xK (Sp.nodeOf L t):=by
   unfold Sp.xK;rw [hk1,hfr,hto];by_cases h9:nk=9
   ·subst h9;simp
   ·rw [if_neg h9,show (nk == 9)=false from by simpa using h9];rfl
  rw [hwho]
  have hm:Sp.jAU L S t=(na,(Sp.lT L (Sp.xK (Sp.nodeOf L t))).1,false,(Sp.lT L (Sp.xK (Sp.nodeOf L t))).2 && decide ((Sp.lT L (Sp.xK (Sp.nodeOf L t))).1∈Sp.zO S)):=by
   unfold Sp.jAU;rw [if_neg hi,hk1,if_neg (by simp [h1]),if_neg h4',if_neg h5',if_neg h6',ha]
  refine ⟨k,rfl,_,k9.box.cell0,?_⟩
  refine (jWM p (Sp.vL (Sp.xK (Sp.nodeOf L t))) w9 (hP.pure E9) hW.ok).mono ?_
  rintro _ w10 ⟨r2,r3,rfl,hr,E10⟩
  refine ⟨r2,r3,rfl,E10.keptP,?_⟩
  have Ed:Pure w10 w10.drew:=Ext.drew w10
  refine ⟨fun _=>True,trivial,?_⟩
  rintro _ rfl
  have E11:=(E9.trans E10).trans Ed
  have hke:Sp.lT L (Sp.xK (Sp.nodeOf L t))=(r2,r3):=by
   unfold Sp.lT;cases hf:Sp.find L (Sp.vL (Sp.xK (Sp.nodeOf L t))) with
   | none=>rw [hf] at hr;simp only at hr;rw [hr.1,hr.2]
   | some i=>rw [hf] at hr;simp only at hr;rw [hr.1,hr.2]
  rw [hm,hke]
  refine ⟨fun h=>?_,fun h=>?_⟩
  ·subst h
   refine (jGM k p r2 w10.drew ⟨sg,m,sl,k0.pure E11,hF⟩).mono ?_
   rintro _ w12 ⟨r4,rfl,rfl,E12⟩
   exact ⟨_,rfl,trivial,E12.keptP,by simp,E11.trans E12⟩
  ·subst h
   exact ⟨by simp,E11⟩
end Go.Proofs
end
section
open Go Go.SE
namespace Go.Proofs
attribute [local irreducible] Calls
theorem uG (k:Int):(k=1∨k=2∨k=3∨k=4∨k=5∨k=6∨k=7∨k=8∨k=9)∨(Sp.shapeOf k=Sp.noShape∧Sp.isKind k=false∧∀m:Int,1≤m→m≤9→(k == m)=false):=by
 by_cases h:k=1∨k=2∨k=3∨k=4∨k=5∨k=6∨k=7∨k=8∨k=9
 ·exact .inl h
 ·right;refine ⟨?_,?_,fun m h1 h2=>?_⟩
  ·unfold Sp.shapeOf;repeat rw [if_neg (by omega)]
  ·unfold Sp.isKind;apply Bool.eq_false_iff.2;intro h3;simp at h3;omega
  ·rw [beq_eq_false_iff_ne];omega
theorem xC (k:Int):s_A k=(Sp.shapeOf k).kids:=by
 rcases uG k with h | ⟨h,_,hm⟩
 ·rcases h with rfl | rfl | rfl | rfl | rfl | rfl | rfl | rfl | rfl <;> decide
 ·rw [h];unfold s_A;simp [hm,Sp.noShape]
theorem jEN (k:Int):s_D k=(Sp.shapeOf k).frm:=by
 rcases uG k with h | ⟨h,_,hm⟩
 ·rcases h with rfl | rfl | rfl | rfl | rfl | rfl | rfl | rfl | rfl <;> decide
 ·rw [h];unfold s_D;simp [hm,Sp.noShape]
theorem jIO (k:Int):((k == 8) || (k == 9))=(Sp.shapeOf k).to:=by
 rcases uG k with h | ⟨h,_,hm⟩
 ·rcases h with rfl | rfl | rfl | rfl | rfl | rfl | rfl | rfl | rfl <;> decide
 ·rw [h];simp [hm,Sp.noShape]
theorem jQC (k:Int):(k == 2)=(Sp.shapeOf k).num:=by
 rcases uG k with h | ⟨h,_,hm⟩
 ·rcases h with rfl | rfl | rfl | rfl | rfl | rfl | rfl | rfl | rfl <;> decide
 ·rw [h];simp [hm,Sp.noShape]
theorem jOB (k:Int):(k == 3)=(Sp.shapeOf k).text:=by
 rcases uG k with h | ⟨h,_,hm⟩
 ·rcases h with rfl | rfl | rfl | rfl | rfl | rfl | rfl | rfl | rfl <;> decide
 ·rw [h];simp [hm,Sp.noShape]
theorem jOC (k:Int):(!(decide (k<1) || decide (k>9)))=Sp.isKind k:=by
 unfold Sp.isKind;by_cases h1:k<1 <;> by_cases h2:k>9 <;> simp [h1,h2] <;> omega
theorem ite53 (q:Bool):decide ((if q=true then (53:Int) else 0)=0)=!q:=by cases q <;> rfl
def Sp.nodeErr (n:Sp.Node):Int :=
 if Sp.zZ n≠0 then 53 else if (decide ((Sp.shapeOf n.kind).kids<1) && n.a != 0) || (decide ((Sp.shapeOf n.kind).kids<2) && n.b != 0) then 53 else Sp.zY (Sp.shapeOf n.kind) n
theorem jLK (n:Sp.Node):s_A1 n.kind n.frm n.to n.num n.text n.a n.b=(decide (Sp.zZ n=0) && !((decide ((Sp.shapeOf n.kind).kids<1) && n.a != 0) || (decide ((Sp.shapeOf n.kind).kids<2) && n.b != 0))):=by
 obtain ⟨k,f,t,u,x,a,b⟩:=n;unfold s_A1 Sp.zZ;simp only [xC,jEN,jIO k,jQC k,jOB k,jOC];have hk:=Sp.yL k;generalize Sp.shapeOf k=s at *;obtain ⟨s1,s2,s3,s4,s5⟩:=s;generalize Sp.isKind k=i;have e1:decide (s5≥1)=!decide (s5<1):=by by_cases h:s5<1 <;> simp [h] <;> omega
 have e2:(s5 == 2)=!decide (s5<2):=by
  by_cases h:s5<2
  ·simp [h];omega
  ·simp [h];simp at hk;omega
 simp only [e1,e2,bne,ite53];generalize (f == 0)=c1;generalize (t == 0)=c2;generalize (u == 0)=c3;generalize decide (x=⟨#[]⟩)=c4;generalize (a == 0)=c5;generalize (b == 0)=c6;generalize decide (s5<1)=c7;generalize decide (s5<2)=c8;cases i <;> cases s1 <;> cases s2 <;> cases s3 <;> cases s4 <;> cases c1 <;> cases c2 <;> cases c3 <;> cases c4 <;> simp
theorem jEM (n:Sp.Node):s_J n.kind n.frm n.to n.num n.text n.a n.b=Sp.nodeErr n:=by
 unfold s_J Sp.nodeErr;rw [jLK,jEN,jIO];by_cases h1:Sp.zZ n=0
 ·by_cases h2:((decide ((Sp.shapeOf n.kind).kids<1) && n.a != 0) || (decide ((Sp.shapeOf n.kind).kids<2) && n.b != 0))=true
  ·rw [h2];simp [h1]
  ·have h2:((decide ((Sp.shapeOf n.kind).kids<1) && n.a != 0) || (decide ((Sp.shapeOf n.kind).kids<2) && n.b != 0))=false:=by simpa using h2
   rw [h2];simp only [h1,ne_eq,not_true_eq_false,if_false,Bool.false_eq_true,decide_true,Bool.not_false,Bool.and_true,Bool.not_true,cond_false];unfold Sp.zY Sp.lE;have e1:(decide (n.frm≥0) && decide (n.frm<16))=(decide (0≤n.frm) && decide (n.frm<16)):=rfl;have e2:(decide (n.to≥0) && decide (n.to<16))=(decide (0≤n.to) && decide (n.to<16)):=rfl;have e3:(n.frm == n.to)=(n.to == n.frm):=by rw [Bool.eq_iff_iff];simp only [beq_iff_eq];exact eq_comm
   rw [e1,e2,e3];have e4:decide (((n.text.size:Int))>64)=decide (n.text.size>64):=decide_eq_decide.2 (by omega);rw [e4];generalize ((Sp.shapeOf n.kind).frm && !(decide (0≤n.frm) && decide (n.frm<16)) || (Sp.shapeOf n.kind).to && (!(decide (0≤n.to) && decide (n.to<16)) || n.to == n.frm))=c;cases c
   ·by_cases h:n.text.size>64 <;> simp [h]
   ·rfl
 ·simp [h1]
end Go.Proofs
end
