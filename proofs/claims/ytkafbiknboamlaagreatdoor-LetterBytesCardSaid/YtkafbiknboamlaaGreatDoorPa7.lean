import Derived.Test.YtkafbiknboamlaaGreatDoorPa6
import Derived.Test.YtkafbiknboamlaaGreatDoorPa3
import Derived.Test.YtkafbiknboamlaaGreatDoorPa2
import Derived.Test.YtkafbiknboamlaaGreatDoorPa4
import Derived.Test.YtkafbiknboamlaaGreatDoorPa5
import Derived.Shelf.Strconv.Itoa3
import Derived.Test.YtkafbiknboamlaaGreatDoorProg
import Derived.KernelRfl
import Derived.Test.YtkafbiknboamlaaGreatDoorPa1
import Derived.Test.YtkafbiknboamlaaGreatDoorPa0
import Derived.Laws.DeepStrings4
section
namespace Go.Sp
open Go.Proofs
structure Cp (Lq L:Pool) (own:Int→Int) (seen:List Int):Prop where
 wf:Wf L
 inn:∀s∈seen,inP Lq s=true
 at_:∀s∈seen,inP L (own s)=true∧zI L (own s)=zI Lq s
 out:∀x,x ∉ seen→own x=0
theorem jGO (n:Node) (own:Int→Int):zK { n with a:=own n.a,b:=own n.b }=(zK n).map own:=by
 unfold zK;simp only [List.map_take,List.map_cons,List.map_nil]
theorem Cp.ren {Lq L:Pool} {own:Int→Int} {seen:List Int} (h:Cp Lq L own seen) (hq:Wf Lq) {z:Int} (hz:inP Lq z=true) (hk:∀k∈zK (nodeOf Lq z),k∈seen) :
  Ren Lq L z { nodeOf Lq z with a:=own (nodeOf Lq z).a,b:=own (nodeOf Lq z).b }:=by
 obtain ⟨_,c2,c3,_⟩:=hq.node hz
 have o0:own 0=0:=h.out 0 (fun h0=>by have:=(vD.1 (h.inn 0 h0)).1;omega)
 refine ⟨rfl,rfl,rfl,rfl,rfl,?_,?_,fun e=>by simp only;rw [c2 e,o0],fun e=>by simp only;rw [c3 e,o0]⟩
 ·intro k hk2
  rw [jGO] at hk2
  obtain ⟨x,hx,rfl⟩:=List.mem_map.1 hk2
  exact (h.at_ x (hk x hx)).1
 ·rw [jGO,List.map_map]
  exact List.map_congr_left (fun x hx=>(h.at_ x (hk x hx)).2)
theorem Cp.step {Lq L:Pool} {own:Int→Int} {seen:List Int} (h:Cp Lq L own seen) (hq:Wf Lq) {z:Int} (hz:inP Lq z=true) (hk:∀k∈zK (nodeOf Lq z),k∈seen) {n:Node} (hn:Ren Lq L z n) (h0:(make L n).2.1=0) :
  Cp Lq (make L n).2.2 (fun x=>if x=z then (make L n).1 else own x) (seen++[z]):=by
 obtain ⟨m1,m2,m3,m4⟩:=hn.made hq h.wf hz h0
 refine ⟨m1,fun s hs=>?_,fun s hs=>?_,fun x hx=>?_⟩
 ·rcases List.mem_append.1 hs with hs | hs
  ·exact h.inn s hs
  ·rw [List.mem_singleton] at hs;subst hs;exact hz
 ·by_cases e:s=z
  ·subst e;simp only [if_true];exact ⟨m2,m3⟩
  ·simp only [if_neg e]
   have hs:s∈seen:=(List.mem_append.1 hs).resolve_right (fun hs=>e (List.mem_singleton.1 hs))
   obtain ⟨a1,a2⟩:=h.at_ s hs
   exact ⟨(m4 _ a1).1,(m4 _ a1).2.trans a2⟩
 ·simp only [List.mem_append,List.mem_singleton,not_or] at hx
  rw [if_neg hx.2];exact h.out x hx.1
theorem jQD (L:Pool) (n:Node):(make L n).2.2.length≤L.length+1:=by
 rcases jFK L n with e | ⟨_,e⟩ <;> rw [e] <;> simp
theorem yP (Lq:Pool) (z:Int) (l:List Int) (L:Pool) (own:Int→Int) {n:Node} (hn:{ nodeOf Lq z with a:=own (nodeOf Lq z).a,b:=own (nodeOf Lq z).b }=n) {x e:Int} {L':Pool} (hm:make L n=(x,e,L')) :
  zY Lq (z :: l) L own=if e≠0 then (L,e,own) else zY Lq l L' (fun y=>if y=z then x else own y):=by
 subst hn
 show (if (make L _).2.1≠0 then _ else _)=_
 rw [hm]
theorem jQT {Lq:Pool} (hq:Wf Lq):∀(l seen:List Int) (L:Pool) (own:Int→Int),Cp Lq L own seen→(∀z∈l,inP Lq z=true)→OrdF Lq seen l →
  ((zY Lq l L own).2.1=0∧Cp Lq (zY Lq l L own).1 (zY Lq l L own).2.2 (seen++l))∨((zY Lq l L own).2.1=6∧¬ (L.length+l.length≤65536)):=by
 intro l
 induction l with
 | nil=>intro seen L own h _ _;exact .inl ⟨rfl,by rw [List.append_nil];exact h⟩
 | cons z l ih =>
  intro seen L own h hl ho
  have hz:=hl z (by simp)
  have hn:=h.ren hq hz ho.1
  generalize hnn:({ nodeOf Lq z with a:=own (nodeOf Lq z).a,b:=own (nodeOf Lq z).b }:Node)=n at hn
  have hf:=jQD L n
  have he:=hn.err hq h.wf hz
  have hs:=fun h0=>h.step hq hz ho.1 hn h0
  obtain ⟨x,e,L',hm⟩:∃x e L',make L n=(x,e,L'):=⟨_,_,_,rfl⟩
  rw [yP Lq z l L own hnn hm]
  rw [hm] at hf he hs
  simp only at hf he hs
  rcases he with rfl | ⟨rfl,hg,_⟩
  ·rw [if_neg (by simp)]
   rcases ih _ _ _ (hs rfl) (fun x hx=>hl x (List.mem_cons_of_mem _ hx)) ho.2 with ⟨e1,e2⟩ | ⟨e1,e2⟩
   ·exact .inl ⟨e1,by rw [List.append_assoc,List.singleton_append] at e2;exact e2⟩
   ·refine .inr ⟨e1,fun hle=>e2 ?_⟩
    rw [List.length_cons] at hle;omega
  ·rw [if_pos (by simp)]
   exact .inr ⟨rfl,by rw [List.length_cons];omega⟩
theorem Cp.start {Lq L:Pool} (hL:Wf L):Cp Lq L (fun _=>0) []:=⟨hL,fun _ h=>(by cases h),fun _ h=>(by cases h),fun _ _=>rfl⟩
theorem jQS {L Lq:Pool} (hL:Wf L) (hq:Wf Lq) (t:Int):(qW L Lq t).2.1=0∨((qW L Lq t).1=0∧(qW L Lq t).2.2=L):=by
 unfold qW;split
 ·simp only;split
  ·exact .inr ⟨rfl,rfl⟩
  ·exact .inl rfl
 ·exact .inr ⟨rfl,rfl⟩
theorem jTG {L Lq:Pool} (hL:Wf L) (hq:Wf Lq) {t:Int} (ht:inP Lq t=true) (h0:(qW L Lq t).2.1=0) :
  Wf (qW L Lq t).2.2∧inP (qW L Lq t).2.2 (qW L Lq t).1=true∧zI (qW L Lq t).2.2 (qW L Lq t).1=zI Lq t:=by
 have h:=jQT hq (subs Lq t) [] L (fun _=>0) (Cp.start hL) (fun z hz=>jKP hq hz) (jQA hq t)
 unfold qW at *
 rw [if_pos ht] at *
 simp only at *
 split at h0
 ·rename_i h1;exact absurd h0 h1
 ·rename_i h1
  rw [if_neg h1]
  simp only
  rcases h with ⟨_,h⟩ | ⟨h6,_⟩
  ·rw [List.nil_append] at h
   have:=h.at_ t (jGZ hq ht)
   exact ⟨h.wf,this.1,this.2⟩
  ·exact absurd (by rw [h6];decide) h1
theorem jGK {L M:Pool} (hL:Wf L) (hM:Wf M) {a b:Int} (ha:inP L a=true) (hb:inP M b=true) (e:zI L a=zI M b):∀(l1 l2:List Int),(∀x∈l1,inP L x=true)→(∀x∈l2,inP M x=true)→l1.map (zI L)=l2.map (zI M)→posOf l1 a=posOf l2 b:=by
 intro l1;induction l1 with
 | nil=>intro l2 _ _ h;cases l2 with
  | nil=>rfl
  | cons y l2=>simp at h
 | cons x l1 ih=>intro l2 h1 h2 h;cases l2 with
  | nil=>simp at h
  | cons y l2 =>
   simp only [List.map_cons,List.cons.injEq] at h
   have hi:=ih l2 (fun k hk=>h1 k (List.mem_cons_of_mem _ hk)) (fun k hk=>h2 k (List.mem_cons_of_mem _ hk)) h.2
   have hxy:(x == a)=(y == b):=by
    by_cases ex:x=a
    ·have:y=b:=jCU hM _ y b rfl (h2 y (by simp)) hb (by rw [← h.1,ex,e]);simp [ex,this]
    ·have:y≠b:=fun ey=>ex (jCU hL _ x a rfl (h1 x (by simp)) ha (by rw [h.1,ey,e]));rw [beq_false_of_ne ex,beq_false_of_ne this]
   unfold posOf at *
   rw [List.idxOf_cons,List.idxOf_cons,hxy,hi]
theorem jGX {L M:Pool} (hL:Wf L) (hM:Wf M):∀(l1 l2 s1 s2:List Int),(∀x∈l1,inP L x=true)→(∀x∈l2,inP M x=true)→(∀x∈s1,inP L x=true)→(∀x∈s2,inP M x=true)→l1.map (zI L)=l2.map (zI M)→s1.map (zI L)=s2.map (zI M)→textFrom L s1 l1=textFrom M s2 l2:=by
 intro l1;induction l1 with
 | nil=>intro l2 s1 s2 _ _ _ _ h _;cases l2 with
  | nil=>rfl
  | cons y l2=>simp at h
 | cons x l1 ih=>intro l2 s1 s2 h1 h2 h3 h4 h h5;cases l2 with
  | nil=>simp at h
  | cons y l2 =>
   simp only [List.map_cons,List.cons.injEq] at h
   have hx:=h1 x (by simp)
   have hy:=h2 y (by simp)
   obtain ⟨k1,k2,k3,k4,k5,k6⟩:=jER hL hM hx hy h.1
   obtain ⟨_,_,_,_,c5,_⟩:=hL.node hx
   obtain ⟨_,_,_,_,d5,_⟩:=hM.node hy
   have hi:=ih l2 (s1++[x]) (s2++[y]) (fun k hk=>h1 k (List.mem_cons_of_mem _ hk)) (fun k hk=>h2 k (List.mem_cons_of_mem _ hk))
    (fun k hk=>by rcases List.mem_append.1 hk with hk | hk;exact h3 k hk;rw [List.mem_singleton] at hk;subst hk;exact hx)
    (fun k hk=>by rcases List.mem_append.1 hk with hk | hk;exact h4 k hk;rw [List.mem_singleton] at hk;subst hk;exact hy) h.2 (by simp [h5,h.1])
   rw [textFrom,textFrom,hi]
   congr 1
   unfold xA
   rw [k1]
   congr 1
   have hf:∀f∈qX (nodeOf M y).kind,f.bytes (nodeOf L x) (posOf s1 (nodeOf L x).a) (posOf s1 (nodeOf L x).b)=f.bytes (nodeOf M y) (posOf s2 (nodeOf M y).a) (posOf s2 (nodeOf M y).b):=by
    intro f hf;have hk1:Fld.fst∈qX (nodeOf M y).kind→posOf s1 (nodeOf L x).a=posOf s2 (nodeOf M y).a:=fun hf=>by
     have m1:=jQL (n:=nodeOf L x) (by rw [k1];exact hf);have m2:=jQL hf;refine jGK hL hM (c5 _ m1).1 (d5 _ m2).1 ?_ s1 s2 h3 h4 h5;unfold zK at k6 m1;rw [k1] at k6 m1;rcases yN (nodeOf M y).kind with e | e | e <;> rw [e] at k6 m1 <;> simp at k6 m1
     ·exact k6
     ·exact k6.1
    have hk2:Fld.snd∈qX (nodeOf M y).kind→posOf s1 (nodeOf L x).b=posOf s2 (nodeOf M y).b:=fun hf=>by
     have m1:=jPK (n:=nodeOf L x) (by rw [k1];exact hf);have m2:=jPK hf;have e:(shapeOf (nodeOf M y).kind).kids=2:=by
      unfold qX at hf
      repeat' split at hf
      all_goals first | (exfalso;revert hf;decide) | skip
      all_goals (rename_i h4;rw [h4];rfl)
     refine jGK hL hM (c5 _ m1).1 (d5 _ m2).1 ?_ s1 s2 h3 h4 h5;unfold zK at k6;rw [k1,e] at k6;simp at k6;exact k6.2
    cases f
    ·simp only [Fld.bytes,k2]
    ·simp only [Fld.bytes,k3]
    ·simp only [Fld.bytes,k4]
    ·simp only [Fld.bytes,k5]
    ·simp only [Fld.bytes,hk1 hf]
    ·simp only [Fld.bytes,hk2 hf]
   have cg:∀(fs:List Fld) (g1 g2:Fld→List UInt8),(∀f∈fs,g1 f=g2 f)→fs.flatMap g1=fs.flatMap g2:=by
    intro fs g1 g2;induction fs with
    | nil=>intro _;rfl
    | cons f fs ihf=>intro hh;rw [List.flatMap_cons,List.flatMap_cons,hh f (by simp),ihf (fun x hx=>hh x (List.mem_cons_of_mem _ hx))]
   exact cg _ _ _ hf
def jFH:Nat→List Int
 | 0=>[]
 | n+1=>jFH n++[(n:Int)+1]
theorem jED (n:Nat):(jFH n).length=n:=by induction n with
 | zero=>rfl
 | succ n ih=>simp [jFH,ih]
theorem jHH {n:Nat} {x:Int}:x∈jFH n↔1≤x∧x≤n:=by
 induction n with
 | zero=>simp [jFH];omega
 | succ n ih=>simp only [jFH,List.mem_append,ih,List.mem_singleton];omega
theorem jMS {n:Nat}:∀{x:Int},1≤x→x≤n→posOf (jFH n) x=(x - 1).toNat:=by
 induction n with
 | zero=>intro x h1 h2;omega
 | succ n ih =>
  intro x h1 h2
  rw [jFH]
  by_cases h:x≤n
  ·rw [jPX (jHH.2 ⟨h1,h⟩),ih h1 h]
  ·have:x=(n:Int)+1:=by omega
   subst this
   rw [jPW (by rw [jHH];omega),jED];omega
theorem jSS {n:Nat} {j:Nat} (h:j<(jFH n).length):(jFH n)[j]=(j:Int)+1:=by
 induction n with
 | zero=>simp [jFH] at h
 | succ n ih =>
  simp only [jFH]
  rw [List.getElem_append]
  split
  ·exact ih _
  ·rename_i h1
   have:j=n:=by rw [jED] at h h1;omega
   subst this;simp
def _root_.Go.Proofs.Fld.said (x:Raw):Fld→List UInt8
 | .from_=>vS x.frm | .to_=>vS x.to | .num=>vS x.num | .text=>yK ⟨x.text.toArray⟩ | .fst=>vS x.a | .snd=>vS x.b
theorem jFD:∀{l:List UInt8} {i n x:Nat},uQ i n l=.error x→x≠0:=by
 intro l;induction l with
 | nil=>intro i n x h;simp [uQ] at h;omega
 | cons c l ih =>
  intro i n x h
  rw [tJ] at h
  split at h
  ·cases h;decide
  ·split at h
   ·split at h
    ·cases h;decide
    ·cases h
   ·exact ih h
theorem yS {bs:List UInt8} {r:Rd} (h:(vW bs r).2.err=0):r.err=0∧bs.drop r.at_=vS (vW bs r).1++bs.drop (vW bs r).2.at_∧(vW bs r).1<18446744073709551616:=by
 unfold vW at h ⊢;by_cases he:r.err=0
 ·rw [if_pos he] at h ⊢;cases hr:uQ 0 0 (bs.drop r.at_) with
  | error x =>
   rw [hr] at h
   simp only at h
   exact absurd h (jFD hr)
  | ok p =>
   obtain ⟨n,k⟩:=p
   obtain ⟨c,h1,h2,h3⟩:=jIR hr
   refine ⟨he,?_,h3⟩
   simp only
   rw [← List.drop_drop,h1,h2,List.drop_left]
 ·rw [if_neg he] at h;exact absurd h he
theorem jPV {bs:List UInt8} {r:Rd} (h:(qB bs 64 r).2.err=0):r.err=0∧bs.drop r.at_=yK ⟨(qB bs 64 r).1.toArray⟩++bs.drop (qB bs 64 r).2.at_:=by
 have hn:=@yS bs r;unfold vW at hn;unfold qB at h ⊢;by_cases he:r.err=0
 ·rw [if_pos he] at h hn ⊢;cases hr:uQ 0 0 (bs.drop r.at_) with
  | error x =>
   rw [hr] at h hn
   simp only at h hn
   exact absurd (hn h).2.1 (by
    have:=(hn h).2.1;intro _;have hl:=congrArg List.length this;rw [List.length_append,tF (by omega)] at hl;simp at hl)
  | ok p =>
   obtain ⟨n,k⟩:=p
   rw [hr] at h hn
   simp only at h hn ⊢
   obtain ⟨c,h1,h2,h3⟩:=jIR hr
   split at h
   ·simp at h
   ·rename_i h64
    rw [if_neg h64]
    split at h
    ·simp at h
    ·rename_i hlen
     rw [if_neg hlen]
     refine ⟨he,?_⟩
     simp only
     have hd:bs.drop (r.at_+k)=c:=by rw [← List.drop_drop,h1,h2,List.drop_left]
     have hcl:n≤c.length:=by rw [← hd,List.length_drop];omega
     have hs:(ByteArray.mk (c.take n).toArray).size=n:=by show (c.take n).toArray.size=n;simp;omega
     have hd2:bs.drop (r.at_+k+n)=c.drop n:=by rw [← List.drop_drop,hd]
     rw [hd,hd2]
     unfold yK
     rw [hs,h1,List.append_assoc]
     congr 1
     simp
 ·rw [if_neg he] at h;exact absurd h he
theorem jVO {bs:List UInt8} {r:Rd} {x:Raw} (f:Fld) (h:(f.rd bs r).err=0):r.err=0∧bs.drop r.at_=f.said (f.raw bs r x)++bs.drop (f.rd bs r).at_:=by
 cases f
 ·exact ⟨(yS h).1,(yS h).2.1⟩
 ·exact ⟨(yS h).1,(yS h).2.1⟩
 ·exact ⟨(yS h).1,(yS h).2.1⟩
 ·exact jPV h
 ·exact ⟨(yS h).1,(yS h).2.1⟩
 ·exact ⟨(yS h).1,(yS h).2.1⟩
theorem jPO {bs:List UInt8} {r:Rd} {x:Raw} {f g:Fld} (h:f≠g):f.said (g.raw bs r x)=f.said x:=by
 cases f <;> cases g <;> first | rfl | exact absurd rfl h
theorem jLA {bs:List UInt8} {f:Fld}:∀(fs:List Fld) (x:Raw) (r:Rd),f ∉ fs→f.said (vE bs fs (x,r)).1=f.said x:=by
 intro fs;induction fs with
 | nil=>intro x r _;rfl
 | cons g fs ih =>
  intro x r h
  simp only [List.mem_cons,not_or] at h
  rw [vE,ih _ _ h.2,jPO h.1]
theorem jNU {bs:List UInt8}:∀(fs:List Fld) (x:Raw) (r:Rd),fs.Nodup→(vE bs fs (x,r)).2.err=0→r.err=0∧bs.drop r.at_=fs.flatMap (fun f=>f.said (vE bs fs (x,r)).1)++bs.drop (vE bs fs (x,r)).2.at_:=by
 intro fs;induction fs with
 | nil=>intro x r _ h;exact ⟨h,rfl⟩
 | cons f fs ih =>
  intro x r hn h
  rw [vE] at h ⊢
  rw [List.nodup_cons] at hn
  obtain ⟨h1,h2⟩:=ih _ _ hn.2 h
  obtain ⟨h3,h4⟩:=jVO (x:=x) f h1
  refine ⟨h3,?_⟩
  rw [List.flatMap_cons,h4,h2,jLA fs _ _ hn.1,List.append_assoc]
theorem jOJ (k:Int):(qX k).Nodup:=by
 unfold qX;repeat' split
 all_goals decide
theorem jVE {bs:List UInt8}:∀(fs:List Fld) (x:Raw) (r:Rd),(x.num<18446744073709551616)→(vE bs fs (x,r)).1.num<18446744073709551616:=by
 intro fs;induction fs with
 | nil=>intro x r h;exact h
 | cons f fs ih =>
  intro x r h
  rw [vE]
  refine ih _ _ ?_
  cases f <;> try exact h
  simp only [Fld.raw]
  by_cases he:(vW bs r).2.err=0
  ·exact (yS he).2.2
  ·unfold vW at he ⊢
   split
   ·rename_i h1
    rw [if_pos h1] at he
    split
    ·rename_i hk
     rw [hk] at he
     exact absurd rfl he
    ·simp
   ·simp
theorem jJJ {bs:List UInt8} {k:Int} (h1:1≤k) (h9:k≤9) (r:Rd):(vE bs (qX k) (yA,r)).1.kids=(shapeOf k).kids.toNat∧(Fld.fst∈qX k↔0<(shapeOf k).kids)∧(Fld.snd∈qX k↔1<(shapeOf k).kids):=by
 have:k=1∨k=2∨k=3∨k=4∨k=5∨k=6∨k=7∨k=8∨k=9:=by omega
 rcases this with rfl | rfl | rfl | rfl | rfl | rfl | rfl | rfl | rfl <;> simp [qX,vE,Fld.raw,yA,shapeOf]
theorem jNS {bs:List UInt8} {q:Pool} {r:Rd} (hW:Wf q) (hN:jAT q) (hl:r.at_<bs.length) (he:r.err=0) (h0:(vR bs q r).2.1=0) :
  Wf (vR bs q r).1∧jAT (vR bs q r).1∧(vR bs q r).1.length=q.length+1∧(∀v,inP q v=true→inP (vR bs q r).1 v=true∧zI (vR bs q r).1 v=zI q v) ∧
  bs.drop r.at_=xA (vR bs q r).1 (jFH q.length) ((q.length:Int)+1)++bs.drop (vR bs q r).2.2.at_:=by
 rw [jAE bs q r hl he] at h0 ⊢
 have hcons:bs.drop r.at_=bs[r.at_] :: bs.drop (r.at_+1):=List.drop_eq_getElem_cons hl
 have hb8:UInt8.ofNat bs[r.at_].toNat=bs[r.at_]:=by simp
 generalize bs[r.at_]=c at *
 split at h0
 ·rename_i hk
  rw [if_pos hk]
  have hk1:1≤c.toNat∧c.toNat≤9:=by unfold yO at hk;simpa using hk
  have hfl:=@jNU bs (qX c.toNat) yA ⟨r.at_+1,0,r.spot⟩ (jOJ _)
  have hnum:=@jVE bs (qX c.toNat) yA ⟨r.at_+1,0,r.spot⟩ (by decide)
  obtain ⟨hkd,hk2,hk3⟩:=@jJJ bs (c.toNat:Int) (by omega) (by omega) ⟨r.at_+1,0,r.spot⟩
  generalize vE bs (qX c.toNat) (yA,⟨r.at_+1,0,r.spot⟩)=s at *
  obtain ⟨x,r'⟩:=s
  simp only at *
  obtain ⟨e1,e2,e3,e4,e5⟩:=jFE h0
  simp only at e1 e2 e3 e4 e5
  rw [e5]
  simp only
  obtain ⟨_,hfl⟩:=hfl e1
  obtain ⟨m1,m2,m3⟩:=jCC e4
  have hw:=jDA hW (x.node c.toNat)
  have hnn:jAT (make q (x.node c.toNat)).2.2:=hN.make (by simp only [Raw.node,jAH];omega)
  have hmk:(make q (x.node c.toNat)).1=(q.length:Int)+1∧(make q (x.node c.toNat)).2.2.length=q.length+1:=by
   have hc:=m3;unfold make at e4 ⊢;simp only [e3] at e4 ⊢;rw [if_neg (by rw [hc];simp)] at e4 ⊢;split at e4
   ·simp at e4
   ·rename_i hf;rw [if_neg hf];exact ⟨rfl,by simp⟩
  obtain ⟨M,eM⟩:=jCD q (x.node c.toNat)
  refine ⟨hw,hnn,hmk.2,fun v hv=>?_,?_⟩
  ·rw [eM] at hw ⊢;exact ⟨jHM hv,jGG hw _ v rfl hv⟩
  ·rw [hmk.1] at m2
   rw [hcons,hfl]
   unfold xA
   rw [m2]
   have hkk:(x.node c.toNat).kind=c.toNat:=rfl
   rw [hkk,Int.toNat_natCast,hb8,List.cons_append]
   congr 1
   congr 1
   have hne:nodeErr c.toNat q.length x r'.err=0:=e2
   unfold nodeErr at hne
   rw [if_neg (by omega)] at hne
   split at hne
   ·simp at hne
   ·split at hne
    ·simp at hne
    ·rename_i href
     have cg:∀(fs:List Fld) (g1 g2:Fld→List UInt8),(∀f∈fs,g1 f=g2 f)→fs.flatMap g1=fs.flatMap g2:=by
      intro fs g1 g2;induction fs with
      | nil=>intro _;rfl
      | cons f fs ihf=>intro hh;rw [List.flatMap_cons,List.flatMap_cons,hh f (by simp),ihf (fun x hx=>hh x (List.mem_cons_of_mem _ hx))]
     refine cg _ _ _ (fun f hf=>?_)
     cases f
     ·simp [Fld.said,Fld.bytes,Raw.node]
     ·simp [Fld.said,Fld.bytes,Raw.node]
     ·simp [Fld.said,Fld.bytes,Raw.node]
     ·simp [Fld.said,Fld.bytes,Raw.node]
     ·have h2:=hk2.1 hf
      have hx:0<x.kids:=by omega
      have ha:x.a<q.length:=by omega
      simp only [Fld.said,Fld.bytes,Raw.node,if_pos hx]
      rw [jMS (by omega) (by omega)]
      congr 1;omega
     ·have h2:=hk3.1 hf
      have hx:1<x.kids:=by omega
      have ha:x.b<q.length:=by omega
      simp only [Fld.said,Fld.bytes,Raw.node,if_pos hx]
      rw [jMS (by omega) (by omega)]
      congr 1;omega
 ·simp at h0
theorem jSM {bs:List UInt8}:∀(fuel:Nat) (q:Pool) (r:Rd) (ps:List Nat) (q':Pool),Wf q→jAT q→ps.length=q.length→r.err=0→r.at_≤bs.length→bs.length - r.at_≤fuel→bs.take r.at_=textFrom q [] (jFH q.length)→(jHU bs fuel q r ps).1=some q' →
  Wf q'∧jAT q'∧q.length≤q'.length∧bs=textFrom q' [] (jFH q'.length)∧q'.length≤inRow 0 (subs q' q'.length):=by
 have hend:∀(q:Pool) (ps:List Nat) (q':Pool),ps.length=q.length→(jCZ q ps).1=some q'→q=q'∧q.length≤inRow 0 (subs q q.length):=by
  intro q ps q' hp h;unfold jCZ at h;simp only at h;split at h
  ·cases h
  ·cases h;exact ⟨rfl,by omega⟩
 intro fuel
 induction fuel with
 | zero =>
  intro q r ps q' hW hN hp he hat hf ht h
  obtain ⟨rfl,h2⟩:=hend q ps q' hp h
  rw [List.take_of_length_le (by omega)] at ht
  exact ⟨hW,hN,Nat.le_refl _,ht,h2⟩
 | succ fuel ih =>
  intro q r ps q' hW hN hp he hat hf ht h
  by_cases hl:r.at_<bs.length
  ·rw [jHU,if_pos hl] at h
   by_cases h0:(vR bs q r).2.1=0
   ·rw [if_neg (by simpa using h0)] at h
    obtain ⟨s1,s2,s3,s4,s5⟩:=jNS hW hN hl he h0
    obtain ⟨a1,a2,a3⟩:=jFC bs q r hl he h0
    have htake:bs.take (vR bs q r).2.2.at_=textFrom (vR bs q r).1 [] (jFH (vR bs q r).1.length):=by
     have hold:∀z∈jFH q.length,inP q z=true:=fun z hz=>vD.2 (jHH.1 hz);have hsame:textFrom q [] (jFH q.length)=textFrom (vR bs q r).1 [] (jFH q.length) :=
      jGX hW s1 _ _ [] [] hold (fun z hz=>(s4 z (hold z hz)).1) (by simp) (by simp) (List.map_congr_left (fun z hz=>((s4 z (hold z hz)).2).symm)) rfl
     rw [s3,jFH,jBV,List.nil_append,← hsame,← ht];have hsplit:bs.take (vR bs q r).2.2.at_=bs.take r.at_++(bs.drop r.at_).take ((vR bs q r).2.2.at_ - r.at_):=by
      rw [← List.take_add];congr 1;omega
     rw [hsplit];congr 1;have hlen:=congrArg List.length s5;rw [List.length_drop,List.length_append,List.length_drop] at hlen;rw [s5,List.take_append_of_le_length (by omega),List.take_of_length_le (by omega)]
    obtain ⟨g1,g2,g3,g4,g5⟩:=ih _ _ _ q' s1 s2 (by simp [hp,s3]) a3 a2 (by omega) htake h
    exact ⟨g1,g2,by omega,g4,g5⟩
   ·rw [if_pos h0] at h;cases h
  ·rw [jHF hl] at h
   obtain ⟨rfl,h2⟩:=hend q ps q' hp h
   rw [List.take_of_length_le (by omega)] at ht
   exact ⟨hW,hN,Nat.le_refl _,ht,h2⟩
theorem jJG:∀(l:List Int) (i m:Nat),i+m≤inRow i l→m≤l.length∧∀j (h:j<l.length),j<m→l[j]=((i+j:Nat):Int)+1:=by
 intro l;induction l with
 | nil=>intro i m h;rw [inRow] at h;exact ⟨by simp;omega,fun j h=>(by simp at h)⟩
 | cons s l ih =>
  intro i m h
  rw [inRow] at h
  split at h
  ·rename_i hs
   cases m with
   | zero=>exact ⟨by simp,fun j _ hj=>(by omega)⟩
   | succ m =>
    obtain ⟨h1,h2⟩:=ih (i+1) m (by omega)
    refine ⟨by rw [List.length_cons];omega,fun j hj hjm=>?_⟩
    cases j with
    | zero=>simp [hs]
    | succ j=>simp only [List.getElem_cons_succ];rw [h2 j (by simpa using hj) (by omega)];congr 2;omega
  ·exact ⟨by simp;omega,fun j _ hj=>by omega⟩
theorem jCY {bs:List UInt8} {q:Pool} (h:(vG bs).1=some q):Wf q∧jAT q∧inP q q.length=true∧jBU q q.length=bs∧bs.length≤4096:=by
 unfold vG at h;split at h
 ·cases h
 ·split at h
  ·cases h
  ·rename_i h1 h2;obtain ⟨g1,g2,_,g4,g5⟩:=jSM bs.length [] ⟨0,0,0⟩ [] q Wf.nil jAT.nil rfl rfl (Nat.zero_le _) (Nat.le_refl _) (by simp [jFH,textFrom]) h;have hpos:0<q.length:=by
    rcases Nat.eq_zero_or_pos q.length with e | e
    ·rw [e,jFH,textFrom] at g4;rw [g4] at h2;simp at h2
    ·exact e
   have hin:inP q q.length=true:=vD.2 ⟨by omega,by omega⟩;obtain ⟨k1,k2⟩:=jJG (subs q q.length) 0 q.length (by omega);have hfew:=tT g1 q.length;have hs:subs q q.length=jFH q.length:=by
    refine List.ext_getElem (by rw [jED];omega) (fun j h1 h2=>?_);rw [k2 j h1 (by rw [jED] at h2;exact h2),jSS];simp
   refine ⟨g1,g2,hin,?_,by omega⟩;unfold jBU;rw [hs];exact g4.symm
theorem jLQ {L:Pool} (h:Wf L) (bs:List UInt8):Wf (jBF L bs).2.2.2:=by
 unfold jBF;cases hq:(vG bs).1 with
 | none=>exact h
 | some q =>
  obtain ⟨g1,_,g3,_⟩:=jCY hq
  by_cases h0:(qW L q q.length).2.1=0
  ·exact (jTG h g1 g3 h0).1
  ·simp only;rw [((jQS h g1 _).resolve_left h0).2];exact h
theorem jGJ {bs:List UInt8} (h:(vG bs).1=none):(vG bs).2.1≠0:=by
 have hend:∀(q:Pool) (ps:List Nat),(jCZ q ps).1=none→(jCZ q ps).2.1≠0:=by
  intro q ps h;unfold jCZ at h ⊢;simp only at h ⊢;split at h
  ·rename_i hh;rw [dif_pos hh];show (73:Int)≠0;decide
  ·cases h
 have hgo:∀(bs:List UInt8) (fuel:Nat) (q:Pool) (r:Rd) (ps:List Nat),(jHU bs fuel q r ps).1=none→(jHU bs fuel q r ps).2.1≠0:=by
  intro bs fuel;induction fuel with
  | zero=>intro q r ps h;exact hend _ _ h
  | succ fuel ih =>
   intro q r ps h
   rw [jHU] at h ⊢
   split at h
   ·rename_i h1
    rw [if_pos h1]
    split at h
    ·rename_i h2;rw [if_pos h2];exact h2
    ·rename_i h2;rw [if_neg h2];exact ih _ _ _ h
   ·rename_i h1;rw [if_neg h1];exact hend _ _ h
 unfold vG at h ⊢;split at h
 ·rename_i h1;rw [if_pos h1];decide
 ·rename_i h1;rw [if_neg h1];split at h
  ·rename_i h2;rw [if_pos h2];decide
  ·rename_i h2;rw [if_neg h2];exact hgo _ _ _ _ _ h
theorem jIO {bs:List UInt8} {q:Pool} (h:(vG bs).1=some q):(vG bs).2.1=0:=by
 have hend:∀(q:Pool) (ps:List Nat) (x:Pool),(jCZ q ps).1=some x→(jCZ q ps).2.1=0:=by
  intro q ps x h;unfold jCZ at h ⊢;simp only at h ⊢;split at h
  ·cases h
  ·rename_i hh;rw [dif_neg hh]
 have hgo:∀(fuel:Nat) (q:Pool) (r:Rd) (ps:List Nat) (x:Pool),(jHU bs fuel q r ps).1=some x→(jHU bs fuel q r ps).2.1=0:=by
  intro fuel;induction fuel with
  | zero=>intro q r ps x h;exact hend _ _ _ h
  | succ fuel ih =>
   intro q r ps x h
   rw [jHU] at h ⊢
   split at h
   ·rename_i h1
    rw [if_pos h1]
    split at h
    ·cases h
    ·rename_i h2;rw [if_neg h2];exact ih _ _ _ _ h
   ·rename_i h1;rw [if_neg h1];exact hend _ _ _ h
 unfold vG at h ⊢;split at h
 ·cases h
 ·rename_i h1;rw [if_neg h1];split at h
  ·cases h
  ·rename_i h2;rw [if_neg h2];exact hgo _ _ _ _ _ h
end Go.Sp
end
section
open Go Go.SE
namespace Go.Proofs
open Tryz
attribute [local irreducible] Calls CallsD
def Raw.cells (k:Nat) (x:Raw):List Value:=[.int .i64 k,.int .i64 0,.int .i64 0,.int .u64 x.num,.string ⟨x.text.toArray⟩,.int .i64 0,.int .i64 0,.int .u64 x.frm,.int .u64 x.to,.int .u64 x.a,.int .u64 x.b,.int .i64 x.kids]
theorem jPG (bs:List UInt8) (r:Rd) (k:Nat) (x:Raw) (f:Fld):f.upd bs r (x.cells k)=(f.raw bs r x).cells k:=by cases f <;> rfl
theorem jNV (bs:List UInt8):∀(l1 l2:List Fld) (s:Raw×Rd),vE bs (l1++l2) s=vE bs l2 (vE bs l1 s):=by
 intro l1;induction l1 with
 | nil=>intro l2 s;rfl
 | cons f l1 ih=>intro l2 s;obtain ⟨x,r⟩:=s;rw [List.cons_append,vE,vE,ih]
theorem jKZ (bs:List UInt8) (fs:List Fld) (j:Nat) (hj:j<fs.length) (s:Raw×Rd):vE bs (fs.take (j+1)) s=(fs[j].raw bs (vE bs (fs.take j) s).2 (vE bs (fs.take j) s).1,fs[j].rd bs (vE bs (fs.take j) s).2):=by
 rw [List.take_succ_eq_append_getElem hj,jNV];obtain ⟨x,r⟩:=vE bs (fs.take j) s;rfl
theorem jTK (f:Fld):∀args w,(callFunc f.get args).run prog w=.ok (.enter f.get args) w:=by
 cases f
 ·exact call184
 ·exact call187
 ·exact call189
 ·exact call192
 ·exact call195
 ·exact call197
structure StAt (w:World) (q a:Addr) (s:Sl) (bs:List UInt8) (L:Sp.Pool) (r:Rd) (m:Nat) (S FP F:NP):Prop where
 pool:zU w q L FP
 rd:RdS S w a s bs r
 kinds:Kinds w m F
 lS:∀b,S b→b<w.heap.size
 la:a.block<w.heap.size
 dP:∀b,FP b→b≠a.block∧¬ S b∧¬ F b∧b≠m
 dF:∀b,F b→b≠a.block∧¬ S b
 dm:m≠a.block∧¬ S m
theorem StAt.ext {w w':World} {q a:Addr} {s:Sl} {bs:List UInt8} {L:Sp.Pool} {r:Rd} {m:Nat} {S FP F G:NP} (h:StAt w q a s bs L r m S FP F) (E:Ext G w w') (hG:∀b,b<w.heap.size→¬ G b):StAt w' q a s bs L r m S FP F :=
 ⟨h.pool.ext E (fun b hb=>hG b (h.pool.lt hb)),h.rd.ext E (fun b hb=>hG b (h.lS b hb)) (hG _ h.la),h.kinds.ext E (fun b hb=>hG b (hb.elim (h.kinds.lt b) (fun e=>e▸h.kinds.mlt))),fun b hb=>Nat.lt_of_lt_of_le (h.lS b hb) E.size,Nat.lt_of_lt_of_le h.la E.size,h.dP,h.dF,h.dm⟩
theorem StAt.pure {w w':World} {q a:Addr} {s:Sl} {bs:List UInt8} {L:Sp.Pool} {r:Rd} {m:Nat} {S FP F:NP} (h:StAt w q a s bs L r m S FP F) (E:Pure w w'):StAt w' q a s bs L r m S FP F:=h.ext E (fun _ _ h=>h)
theorem xH {n:Nat} (h:n<9223372036854775808):IntKind.i64.wrap (n:Int)=(n:Int):=IntWalk.i64_in _ (by omega)
theorem jBN (n:Nat):s_R (n:Int)=if 2147483647<n then -1 else (n:Int):=by
 unfold s_R;by_cases h:2147483647<n
 ·rw [if_pos h,show decide ((n:Int)>2147483647)=true by simp;omega];rfl
 ·rw [if_neg h,show decide ((n:Int)>2147483647)=false by simp;omega];exact xH (by omega)
theorem jNH (k f t:Nat) (u:Int) (x:ByteArray) (a b:Int):s_V (k:Int) (s_R (f:Int)) (s_R (t:Int)) u x a b=if 16≤f∨16≤t∨((k=8∨k=9)∧f=t) then 50 else 0:=by
 unfold s_V;rw [jBN,jBN];have key:((((decide ((if 2147483647<f then -1 else (f:Int))<0) || decide ((if 2147483647<f then -1 else (f:Int))≥16)) || decide ((if 2147483647<t then -1 else (t:Int))<0)) || decide ((if 2147483647<t then -1 else (t:Int))≥16)) || ((((k:Int) == 8) || ((k:Int) == 9)) && ((if 2147483647<f then -1 else (f:Int)) == (if 2147483647<t then -1 else (t:Int)))))=decide (16≤f∨16≤t∨((k=8∨k=9)∧f=t)):=by
  rw [Bool.eq_iff_iff];simp only [Bool.or_eq_true,Bool.and_eq_true,decide_eq_true_eq,beq_iff_eq];by_cases h1:2147483647<f
  ·rw [if_pos h1];exact ⟨fun _=>.inl (by omega),fun _=>.inl (.inl (.inl (.inl (by omega))))⟩
  ·by_cases h2:2147483647<t
   ·rw [if_pos h2];exact ⟨fun _=>.inr (.inl (by omega)),fun _=>.inl (.inl (.inr (by omega)))⟩
   ·rw [if_neg h1,if_neg h2];omega
 rw [key];by_cases h:16≤f∨16≤t∨((k=8∨k=9)∧f=t)
 ·rw [decide_eq_true h,if_pos h];rfl
 ·rw [decide_eq_false h,if_neg h];rfl
theorem jHC {w:World} {p:Addr} {n:Sp.Node} {cs:List Value} {T:TypeId} (h:Box w p (xR n++cs) T):Row w p (xR n):=fun i hi=>by
 have:=h.row i (by rw [List.length_append];omega);rw [List.getElem?_append_left hi] at this;exact this
theorem c_sub4 (q a:Addr) (s:Sl) (bs:List UInt8) (r:Rd) (m:Nat) {S FP F:NP} {L:Sp.Pool} (p:Addr) (n:Sp.Node) (cs:List Value) {w:World} (h:StAt w q a s bs L r m S FP F) (hok:Sp.Ok L) (hB:Box w p (xR n++cs) 253) (hp:¬ FP p.block) (K:Int→WP)
  (hK:∀x w',x=(if (Sp.find L n).isSome=true then 72 else (Sp.make L n).2.1)→(∃F',zU w' q (if (Sp.find L n).isSome=true then L else (Sp.make L n).2.2) F'∧RdS S w' a s bs r∧Ext FP w w'∧∀b,F' b→FP b∨w.heap.size≤b)→K x w') :
  m_I_j4 (some q) p None w K:=by
 unfold m_I_j4
 refine ⟨n.kind,n.frm,n.to,n.num,n.text,n.a,n.b,jHC hB,?_⟩
 refine (c_Has q n w h.pool hok).mono ?_
 rintro _ w1 ⟨x,ok,rfl,hf,E1⟩
 refine ⟨_,_,rfl,E1.keptP,fun hok1=>?_,fun hok1=>?_⟩
 ·have : (Sp.find L n).isSome = true := by
   cases hn:Sp.find L n with
   | some i=>rfl
   | none=>rw [hn] at hf;simp only at hf;rw [hf.2] at hok1;cases hok1
  rw [if_pos this,if_pos this] at hK
  exact hK _ _ rfl ⟨FP,h.pool.pure E1,h.rd.pure E1,Ext.pure E1,fun b hb=>.inl hb⟩
 ·have : ¬ (Sp.find L n).isSome = true := by
   cases hn:Sp.find L n with
   | some i=>rw [hn] at hf;simp only at hf;rw [hf.2] at hok1;cases hok1
   | none=>simp
  rw [if_neg this,if_neg this] at hK
  refine ⟨n.kind,n.frm,n.to,n.num,n.text,n.a,n.b,jHC (hB.pure E1),?_⟩
  refine (jRK q n.kind n.frm n.to n.num n.text n.a n.b w1 (h.pool.pure E1) hok).mono ?_
  rintro _ w2 ⟨x1,x2,rfl,he,F',hP,E2,hF'⟩
  have he2:=congrArg Prod.snd he
  simp only at he2
  refine ⟨x1,x2,rfl,E2.kept (fun b hb=>hb.elim),hK _ _ he2 ⟨F',hP,(h.rd.pure E1).ext E2 (fun b hb hh=>(h.dP b hh).2.1 hb) (fun hh=>(h.dP _ hh).1 rfl),(Ext.pure E1).trans E2,fun b hb=>(hF' b hb).elim .inl (fun hb=>.inr (by have:=E1.size;omega))⟩⟩
theorem jUZ (k:Nat) (x:Raw):(((x.cells k).set 1 (.int .i64 (s_R x.frm))).set 2 (.int .i64 (s_R x.to)))=xR ⟨k,s_R x.frm,s_R x.to,x.num,⟨x.text.toArray⟩,0,0⟩++[.int .u64 x.frm,.int .u64 x.to,.int .u64 x.a,.int .u64 x.b,.int .i64 x.kids]:=rfl
theorem jSO (n:Sp.Node) (cs:List Value) (v:Int):(xR n++cs).set 5 (.int .i64 v)=xR { n with a:=v }++cs:=rfl
theorem jSN (n:Sp.Node) (cs:List Value) (v:Int):(xR n++cs).set 6 (.int .i64 v)=xR { n with b:=v }++cs:=rfl
theorem c_sub3 (q a:Addr) (s:Sl) (bs:List UInt8) (r:Rd) (m:Nat) {S FP F:NP} {L:Sp.Pool} (p:Addr) (k:Nat) (x:Raw) {w:World} (h:StAt w q a s bs L r m S FP F) (hok:Sp.Ok L)
  (h1:x.frm<16) (h2:x.to<16) (ha:0<x.kids→x.a<L.length) (hb:1<x.kids→x.b<L.length)
  (hB:Box w p (xR ⟨k,s_R x.frm,s_R x.to,x.num,⟨x.text.toArray⟩,0,0⟩++[.int .u64 x.frm,.int .u64 x.to,.int .u64 x.a,.int .u64 x.b,.int .i64 x.kids]) 253) (hpS:p.block≠a.block∧¬ S p.block∧¬ FP p.block∧¬ F p.block∧p.block≠m) (K:Int→WP)
  (hK:∀y w',y=(if (Sp.find L (x.node k)).isSome=true then 72 else (Sp.make L (x.node k)).2.1)→(∃F',zU w' q (if (Sp.find L (x.node k)).isSome=true then L else (Sp.make L (x.node k)).2.2) F'∧RdS S w' a s bs r∧Ext (fun b=>FP b∨b=p.block) w w'∧∀b,F' b→FP b∨w.heap.size≤b)→K y w') :
  m_I_j2 (some q) p false None w K:=by
 have hok2:=hok.few
 have fs:s_R (x.frm:Int)=(x.frm:Int):=by rw [jBN,if_neg (by omega)]
 have ts:s_R (x.to:Int)=(x.to:Int):=by rw [jBN,if_neg (by omega)]
 rw [fs,ts] at hB
 have st5:∀{w w':World} {i:Nat} {v:Value},StAt w q a s bs L r m S FP F→w'=w.setCell (p.add i) v→StAt w' q a s bs L r m S FP F∧Ext (·=p.block) w w':=fun {w w' i v} h e=>by
  have E:Ext (·=p.block) w w':=by rw [e];exact qG
  refine ⟨⟨h.pool.ext E (fun b hb e=>hpS.2.2.1 (e▸hb)),h.rd.ext E (fun b hb e=>hpS.2.1 (e▸hb)) (fun e=>hpS.1 e.symm),h.kinds.ext E (fun b hb e=>hb.elim (fun hb=>hpS.2.2.2.1 (e▸hb)) (fun hb=>hpS.2.2.2.2 (e.symm.trans hb))),fun b hb=>Nat.lt_of_lt_of_le (h.lS b hb) E.size,Nat.lt_of_lt_of_le h.la E.size,h.dP,h.dF,h.dm⟩,E⟩
 have wr:∀n:Nat,n<L.length→IntKind.i64.wrap (IntKind.u64.wrap ((n:Int)+1))=(n:Int)+1:=fun n hn=>by
  rw [show (n:Int)+1=((n+1:Nat):Int) by omega,qH (by omega),xH (by omega)]
 have fin : ∀ (va vb : Int) (w1 : World), StAt w1 q a s bs L r m S FP F → Box w1 p (xR ⟨k, x.frm, x.to, x.num, ⟨x.text.toArray⟩, va, vb⟩ ++ [.int .u64 x.frm, .int .u64 x.to, .int .u64 x.a, .int .u64 x.b, .int .i64 x.kids]) 253 → Ext (· = p.block) w w1 →
   va=(if 0<x.kids then (x.a:Int)+1 else 0)→vb=(if 1<x.kids then (x.b:Int)+1 else 0)→m_I_j4 (some q) p None w1 K:=by
  intro va vb w1 h1 hB1 E1 hva hvb
  have hn:(⟨k,x.frm,x.to,x.num,⟨x.text.toArray⟩,va,vb⟩:Sp.Node)=x.node k:=by subst hva hvb;rfl
  rw [hn] at hB1
  refine c_sub4 q a s bs r m p (x.node k) _ h1 hok hB1 hpS.2.2.1 K (fun y w' hy ⟨F',g1,g2,g3,g4⟩=>hK y w' hy ⟨F',g1,g2,(E1.mono (fun b _ h=>.inr h)).trans (g3.mono (fun b _ h=>.inl h)),fun b hb=>(g4 b hb).imp id (fun h=>by have:=E1.size;omega)⟩)
 unfold m_I_j2
 refine ⟨fun hc=>(by cases hc),fun _=>⟨x.kids,hB.cell (i:=11) rfl,?_⟩⟩
 have j3 : ∀ (va : Int) (w1 : World), StAt w1 q a s bs L r m S FP F → Box w1 p (xR ⟨k, x.frm, x.to, x.num, ⟨x.text.toArray⟩, va, 0⟩ ++ [.int .u64 x.frm, .int .u64 x.to, .int .u64 x.a, .int .u64 x.b, .int .i64 x.kids]) 253 → Ext (· = p.block) w w1 →
   va=(if 0<x.kids then (x.a:Int)+1 else 0)→m_I_j3 (some q) p None w1 K:=by
  intro va w1 h1 hB1 E1 hva
  unfold m_I_j3
  refine ⟨x.kids,hB1.cell (i:=11) rfl,fun hc=>?_,fun hc=>?_⟩
  ·have hc:1<x.kids:=by have:=of_decide_eq_true hc;omega
   refine ⟨x.b,hB1.cell (i:=10) rfl,hB1.canW (i:=6) (by simp [xR]),id,?_⟩
   rintro w2 e2
   obtain ⟨h2,E2⟩:=st5 h1 e2
   have hB2:=hB1.set 6 (.int .i64 (IntKind.i64.wrap (IntKind.u64.wrap ((x.b:Int)+1))))
   rw [← e2,jSN,wr _ (hb hc)] at hB2
   exact fin va _ w2 h2 hB2 (E1.trans E2) hva (by rw [if_pos hc])
  ·have hc:¬ 1<x.kids:=by have:=of_decide_eq_false hc;omega
   exact fin va 0 w1 h1 hB1 E1 hva (by rw [if_neg hc])
 refine ⟨fun hc=>?_,fun hc=>?_⟩
 ·have hc:0<x.kids:=by have:=of_decide_eq_true hc;omega
  refine ⟨x.a,hB.cell (i:=9) rfl,hB.canW (i:=5) (by simp [xR]),id,?_⟩
  rintro w2 e2
  obtain ⟨h2,E2⟩:=st5 h e2
  have hB2:=hB.set 5 (.int .i64 (IntKind.i64.wrap (IntKind.u64.wrap ((x.a:Int)+1))))
  rw [← e2,jSO,wr _ (ha hc)] at hB2
  exact j3 _ w2 h2 hB2 E2 (by rw [if_pos hc])
 ·have hc:¬ 0<x.kids:=by have:=of_decide_eq_false hc;omega
  exact j3 0 w h hB (Ext.refl _) (by rw [if_neg hc])
theorem jQX (q a:Addr) (s:Sl) (bs:List UInt8) (r:Rd) (m:Nat) {S FP F:NP} {L:Sp.Pool} {w0:World} (h:StAt w0 q a s bs L r m S FP F) (hok:Sp.Ok L) (hlt:r.at_<bs.length) (he:r.err=0) :
  Calls prog 166 #[.pointer (some q),.pointer (some a),.map (some m)] w0 (fun e w'=>∃y:Int,e=.returned (.int .i64 y)∧(y=(vR bs L r).2.1∧∃F',zU w' q (vR bs L r).1 F'∧RdS S w' a s bs (vR bs L r).2.2∧Ext (fun b=>FP b∨b=a.block) w0 w'∧∀b,F' b→FP b∨w0.heap.size≤b)):=by
 refine w_I (some q) (some a) (some m) w0 (fun y w'=>y=(vR bs L r).2.1∧∃F',zU w' q (vR bs L r).1 F'∧RdS S w' a s bs (vR bs L r).2.2∧Ext (fun b=>FP b∨b=a.block) w0 w'∧∀b,F' b→FP b∨w0.heap.size≤b) ?_
 unfold m_I
 refine (c_Byte a s bs r w0 h.rd (Nat.le_of_lt hlt) h.lS).mono ?_
 rintro _ w1 ⟨_,rfl,rfl,hR1,E1⟩
 refine ⟨_,rfl,E1.kept (fun b hb=>hb.elim),?_⟩
 rw [jAE bs L r hlt he]
 rw [jMO bs r hlt he] at hR1 ⊢
 simp only at hR1 ⊢
 generalize hk:bs[r.at_].toNat=k at *
 have hk256:k<256:=by rw [← hk];exact bs[r.at_].toNat_lt
 have S1:StAt w1 q a s bs L ⟨r.at_+1,0,r.spot⟩ m S FP F:=⟨h.pool.ext E1 (fun b hb e=>(h.dP b hb).1 e),hR1,h.kinds.ext E1 (fun b hb e=>hb.elim (fun hb=>(h.dF b hb).1 e) (fun hb=>h.dm.1 (hb.symm.trans e))),fun b hb=>Nat.lt_of_lt_of_le (h.lS b hb) E1.size,Nat.lt_of_lt_of_le h.la E1.size,h.dP,h.dF,h.dm⟩
 intro p1 w2 n2
 rw [xH (by omega)] at n2
 have E2:Pure w1 w2:=Ext.new n2
 have S2:=S1.pure E2
 have B2:Box w2 p1 (yA.cells k) 253:=Box.of_newA n2
 have bp:=n2.at_size
 have z1:=E1.size
 have E02:Ext (·=a.block) w0 w2:=E1.thenPure E2
 refine ⟨k,B2.cell0,?_⟩
 by_cases hkk:yO k=true
 ·have hk19:1≤k∧k≤9:=by unfold yO at hkk;simpa using hkk
  obtain ⟨v2,hlook,hLst⟩:=S2.kinds.get (k:Int) (by omega) (by omega) true
  refine ⟨v2,true,hlook,fun hc=>(by cases hc),fun _=>?_⟩
  rw [if_pos hkk]
  generalize hfs:qX (k:Int)=fs at *
  have hf3:fs.length≤3:=by rw [← hfs];exact jHN _
  have hrat:∀j,(vE bs (fs.take j) (yA,⟨r.at_+1,0,r.spot⟩)).2.at_≤bs.length:=fun j=>(jIS bs (fs.take j) yA ⟨r.at_+1,0,r.spot⟩ (by simp only;omega)).2
  refine ⟨fun x1 Hl w=>∃j:Nat,x1=j∧j≤fs.length∧Hl=None∧StAt w q a s bs L (vE bs (fs.take j) (yA,⟨r.at_+1,0,r.spot⟩)).2 m S FP F∧Box w p1 ((vE bs (fs.take j) (yA,⟨r.at_+1,0,r.spot⟩)).1.cells k) 253∧Lst F w 2 v2 (fs.map Fld.row)∧Ext (·=a.block) w0 w,fun x1 _=>((fs.length:Int) - x1).toNat,⟨0,rfl,Nat.zero_le _,rfl,S2,B2,hLst,E02⟩,?_⟩
  rintro _ _ wl _ ⟨j,rfl,hj,rfl,hS,hB,hL,hE⟩
  unfold m_I_l1
  have hlen:v2.len=fs.length:=by rw [hL.len,List.length_map]
  have ple:p1.block<wl.heap.size:=hB.lt
  have zE:=hE.size
  have nS:¬ S p1.block:=fun hh=>by have:=h.lS _ hh;omega
  have nF:¬ F p1.block:=fun hh=>by have:=h.kinds.lt _ hh;omega
  have nP:¬ FP p1.block:=fun hh=>by have:=h.pool.lt hh;omega
  have na:p1.block≠a.block:=fun hh=>by have:=h.la;omega
  have nm:p1.block≠m:=fun hh=>by have:=h.kinds.mlt;omega
  refine ⟨fun hc=>?_,fun hc=>?_⟩
  ·have hc:=xL hlen hc
   obtain ⟨a1,hat,_,hrow⟩:=hL.nth hc
   refine ⟨a1,hat,_,_,hrow,?_⟩
   intro p2 w3 n3
   have E3:Pure wl w3:=Ext.new n3
   refine ⟨⟨rfl,fun i hi=>(Box.of_newA n3).canW (by simpa using hi)⟩,id,?_⟩
   rintro w4 e4
   have X4:Ext (·=p2.block) w3 w4:=by rw [e4];exact Ext.storeRow _ _ _
   have B4:Box w4 p2 [.func (.func fs[j].put) #[] #[],.func (.func fs[j].get) #[] #[]] 213:=by rw [e4];exact (Box.of_newA n3).store rfl
   have hp2:=n3.at_size
   have E34:Pure wl w4:=E3.own (by rw [hp2];exact Nat.le_refl _) X4
   have S4:=hS.pure E34
   refine ⟨_,B4.cell (i:=1) rfl,fs[j].get,#[],#[],rfl,jTK fs[j],?_⟩
   refine (c_get fs[j] a p1 s bs _ _ w4 S4.rd (hrat j) S4.lS (hB.pure E34) rfl (fun e=>na e.symm) (fun b hb e=>nS (e▸hb))).mono ?_
   rintro _ w5 ⟨rfl,hR5,hB5,E5⟩
   rw [jPG] at hB5
   have hsn:=jKZ bs fs j hc (yA,⟨r.at_+1,0,r.spot⟩)
   refine ⟨rfl,E5.kept (fun b hb=>hb.elim),⟨j+1,vJ hc (by omega),hc,rfl,?_,?_,?_,?_⟩,by rw [vJ hc (by omega)];exact jDN hc⟩
   ·rw [hsn]
    exact ⟨S4.pool.ext E5 (fun b hb e=>e.elim (fun e=>(h.dP b hb).1 e) (fun e=>nP (e▸hb))),hR5,S4.kinds.ext E5 (fun b hb e=>hb.elim (fun hb=>e.elim (fun e=>(h.dF b hb).1 e) (fun e=>nF (e▸hb))) (fun hb=>e.elim (fun e=>h.dm.1 (hb.symm.trans e)) (fun e=>nm (e.symm.trans hb)))),fun b hb=>Nat.lt_of_lt_of_le (S4.lS b hb) E5.size,Nat.lt_of_lt_of_le S4.la E5.size,h.dP,h.dF,h.dm⟩
   ·rw [hsn];exact hB5
   ·exact (hL.pure E34).ext E5 (fun b hb e=>e.elim (fun e=>(h.dF b hb).1 e) (fun e=>nF (e▸hb)))
   ·exact (hE.thenPure E34).trans' E5 (fun i hi e=>e.elim id (fun e=>by omega))
  ·have hc:=tM hlen hj hc
   subst hc
   rw [List.take_length] at hS hB
   have hkd:=(@Sp.jJJ bs (k:Int) (by omega) (by omega) ⟨r.at_+1,0,r.spot⟩).1
   rw [hfs] at hkd
   generalize vE bs fs (yA,⟨r.at_+1,0,r.spot⟩)=st at *
   obtain ⟨x,r'⟩:=st
   simp only at hS hB hkd
   have fin : ∀ (y : Int) (w : World) (F' : NP), zU w q (jBK L k (x, r')).1 F' → RdS S w a s bs (jBK L k (x, r')).2.2 → Ext (fun b => FP b ∨ b = a.block) w0 w → (∀ b, F' b → FP b ∨ w0.heap.size ≤ b) → y = (jBK L k (x, r')).2.1 →
     y=(jBK L k (x,r')).2.1∧∃F',zU w q (jBK L k (x,r')).1 F'∧RdS S w a s bs (jBK L k (x,r')).2.2∧Ext (fun b=>FP b∨b=a.block) w0 w∧∀b,F' b→FP b∨w0.heap.size≤b:=fun y w F' a1 a2 a3 a4 a5=>⟨a5,F',a1,a2,a3,a4⟩
   have hEo:Ext (fun b=>FP b∨b=a.block) w0 wl:=hE.mono (fun b _ h=>.inr h)
   have bad:∀(e:Nat) (w:World),nodeErr k L.length x r'.err=e→e≠0→Ext (·=p1.block) wl w→(((e:Nat):Int)=(jBK L k (x,r')).2.1∧∃F',zU w q (jBK L k (x,r')).1 F'∧RdS S w a s bs (jBK L k (x,r')).2.2∧Ext (fun b=>FP b∨b=a.block) w0 w∧∀b,F' b→FP b∨w0.heap.size≤b):=by
    intro e w hne h0 E;have hr:jBK L k (x,r')=(L,(e:Int),r'):=by
     unfold jBK;simp only;rw [if_pos (by rw [hne];exact h0),hne]
    rw [hr];exact ⟨rfl,FP,hS.pool.ext E (fun b hb e=>nP (e▸hb)),hS.rd.ext E (fun b hb e=>nS (e▸hb)) (fun e=>na e.symm),hEo.trans' E (fun i hi e=>by omega),fun b hb=>.inl hb⟩
   refine (c_Why a s bs r' wl hS.rd).mono ?_
   rintro _ w6 ⟨_,_,rfl,rfl,rfl,E6⟩
   have S6:=hS.pure E6
   have B6:=hB.pure E6
   refine ⟨_,_,rfl,E6.keptP,fun hc=>?_,fun hc=>?_⟩
   ·have hc:r'.err≠0:=by have:=bne_iff_ne.1 hc;omega
    exact bad r'.err w6 (by unfold nodeErr;rw [if_pos hc]) hc (Ext.pure E6)
   ·have hc : r'.err = 0 := by
     have:((r'.err:Int) != 0)=false:=hc;simpa using this
    refine ⟨fun w'=>w'.cell? (p1.add 8)=some (.int .u64 x.to),(B6.pure (Ext.drew w6)).cell (i:=8) rfl,?_⟩
    rintro w7 e7
    have E7:Pure w6 w7:=by rw [e7];exact Ext.drew w6
    have B7:=B6.pure E7
    refine ⟨x.frm,B7.cell (i:=7) rfl,x.to,fun w' hw'=>hw',?_⟩
    refine (p_R (x.frm:Int) w7).mono ?_
    rintro _ w8 ⟨rfl,E8⟩
    have B8:=B7.pure E8
    refine ⟨_,rfl,B8.cell (i:=8) rfl,E8.keptP,?_⟩
    refine (p_R (x.to:Int) w8).mono ?_
    rintro _ w9 ⟨rfl,E9⟩
    have B9:=B8.pure E9
    refine ⟨_,rfl,B9.cell (i:=8) rfl,E9.keptP,B9.canW (i:=1) (by simp [Raw.cells]),id,?_⟩
    rintro w10 e10
    have X10:Ext (·=p1.block) w9 w10:=by rw [e10];exact qG
    have B10:=B9.set 1 (.int .i64 (s_R x.frm))
    rw [← e10] at B10
    refine ⟨B10.cell (i:=8) rfl,B10.canW (i:=2) (by simp [Raw.cells]),id,?_⟩
    rintro w11 e11
    have X11:Ext (·=p1.block) w10 w11:=by rw [e11];exact qG
    have B11:=B10.set 2 (.int .i64 (s_R x.to))
    rw [← e11,jUZ] at B11
    have E11:Ext (·=p1.block) wl w11:=((Ext.pure (((E6.trans E7).trans E8).trans E9)).trans X10).trans X11
    have S11:StAt w11 q a s bs L r' m S FP F:=⟨hS.pool.ext E11 (fun b hb e=>nP (e▸hb)),hS.rd.ext E11 (fun b hb e=>nS (e▸hb)) (fun e=>na e.symm),hS.kinds.ext E11 (fun b hb e=>hb.elim (fun hb=>nF (e▸hb)) (fun hb=>nm (e.symm.trans hb))),fun b hb=>Nat.lt_of_lt_of_le (hS.lS b hb) E11.size,Nat.lt_of_lt_of_le hS.la E11.size,h.dP,h.dF,h.dm⟩
    refine ⟨k,s_R x.frm,s_R x.to,x.num,⟨x.text.toArray⟩,0,0,jHC B11,?_⟩
    rw [jNH]
    by_cases hnm:16≤x.frm∨16≤x.to∨((k=8∨k=9)∧x.frm=x.to)
    ·rw [if_pos hnm]
     refine ⟨fun _ w12 hs12=>?_,fun hc=>(by cases hc)⟩
     exact bad 50 w12 (by unfold nodeErr;rw [if_neg (by omega),if_pos hnm]) (by decide) (E11.thenPure hs12.ext)
    ·rw [if_neg hnm]
     refine ⟨fun hc=>(by cases hc),fun _ w12 hs12=>?_⟩
     have E12:Pure w11 w12:=hs12.ext
     have S12:=S11.pure E12
     refine (jDD q w12 S12.pool).mono ?_
     rintro _ w13 ⟨_,rfl,rfl,rfl⟩
     have B12:=B11.pure E12
     have hLs:=hok.few
     refine ⟨_,rfl,Kept.refl _,x.kids,B12.cell (i:=11) rfl,?_⟩
     rw [qH (by omega)]
     have bad71:((0<x.kids∧L.length≤x.a)∨(1<x.kids∧L.length≤x.b))→((71:Int)=(jBK L k (x,r')).2.1∧∃F',zU w13 q (jBK L k (x,r')).1 F'∧RdS S w13 a s bs (jBK L k (x,r')).2.2∧Ext (fun b=>FP b∨b=a.block) w0 w13∧∀b,F' b→FP b∨w0.heap.size≤b):=fun hh =>
      bad 71 w13 (by unfold nodeErr;rw [if_neg (by omega),if_neg hnm,if_pos hh]) (by decide) (E11.thenPure E12)
     have good:¬ ((0<x.kids∧L.length≤x.a)∨(1<x.kids∧L.length≤x.b))→m_I_j2 (some q) p1 false None w13 (fun y w'=>y=(jBK L k (x,r')).2.1∧∃F',zU w' q (jBK L k (x,r')).1 F'∧RdS S w' a s bs (jBK L k (x,r')).2.2∧Ext (fun b=>FP b∨b=a.block) w0 w'∧∀b,F' b→FP b∨w0.heap.size≤b):=fun hh=>by
      have hr:jBK L k (x,r')=(if (Sp.find L (x.node k)).isSome=true then L else (Sp.make L (x.node k)).2.2,if (Sp.find L (x.node k)).isSome=true then 72 else (Sp.make L (x.node k)).2.1,r'):=by
       have hne:nodeErr k L.length x r'.err=0:=by unfold nodeErr;rw [if_neg (by omega),if_neg hnm,if_neg hh]
       unfold jBK;simp only;rw [if_neg (by rw [hne];simp)];split <;> rfl
      rw [hr];refine c_sub3 q a s bs r' m p1 k x S12 hok (by omega) (by omega) (by omega) (by omega) B12 ⟨na,nS,nP,nF,nm⟩ _ ?_;rintro y w' hy ⟨F',g1,g2,g3,g4⟩;exact ⟨hy,F',g1,g2,(hEo.trans' (E11.thenPure E12) (fun i hi e=>by omega)).trans' g3 (fun i hi e=>e.elim .inl (fun e=>by omega)),fun b hb=>(g4 b hb).imp id (fun hh=>by have:=E11.size;have:=E12.size;omega)⟩
     have j5:∀x3:Bool,x3=decide (0<x.kids∧L.length≤x.a)→m_I_j5 (some q) p1 (L.length:Int) x3 None w13 (fun y w'=>y=(jBK L k (x,r')).2.1∧∃F',zU w' q (jBK L k (x,r')).1 F'∧RdS S w' a s bs (jBK L k (x,r')).2.2∧Ext (fun b=>FP b∨b=a.block) w0 w'∧∀b,F' b→FP b∨w0.heap.size≤b):=by
      intro x3 h3;unfold m_I_j5;refine ⟨fun hc=>?_,fun hc=>?_⟩
      ·rw [hc] at h3;have h3:=of_decide_eq_true h3.symm;unfold m_I_j2;exact ⟨fun _=>bad71 (.inl h3),fun hc=>(by cases hc)⟩
      ·rw [hc] at h3;have h3:=of_decide_eq_false h3.symm;refine ⟨x.kids,B12.cell (i:=11) rfl,fun hc=>?_,fun hc=>?_⟩
       ·have hc:=of_decide_eq_true hc;refine ⟨x.b,B12.cell (i:=10) rfl,?_⟩;rw [qH (by omega)];by_cases hb:L.length≤x.b
        ·rw [decide_eq_true (show (x.b:Int)≥(L.length:Int) by omega)];unfold m_I_j2;exact ⟨fun _=>bad71 (.inr ⟨by omega,hb⟩),fun hc=>(by cases hc)⟩
        ·rw [decide_eq_false (show ¬ (x.b:Int)≥(L.length:Int) by omega)];exact good (by omega)
       ·have hc:=of_decide_eq_false hc;exact good (by omega)
     refine ⟨fun hc=>?_,fun hc=>?_⟩
     ·have hc:=of_decide_eq_true hc
      refine ⟨x.a,B12.cell (i:=9) rfl,j5 _ ?_⟩
      rw [decide_eq_decide];omega
     ·have hc:=of_decide_eq_false hc
      refine j5 _ ?_
      rw [decide_eq_false];omega
 ·have hnk:¬ (1≤(k:Int)∧(k:Int)≤9):=fun hh=>hkk (by unfold yO;simp;omega)
  refine ⟨_,false,S2.kinds.none (k:Int) hnk,fun _=>?_,fun hc=>(by cases hc)⟩
  rw [if_neg hkk]
  exact ⟨rfl,FP,S2.pool,S2.rd,E02.mono (fun b _ h=>.inr h),fun b hb=>.inl hb⟩
def jRN (w0 w':World) (bs:List UInt8) (x:Option Addr):Prop :=
 (∀q,(vG bs).1=some q→∃p F,x=some p∧zU w' p q F∧∀b,F b→w0.heap.size≤b)∧((vG bs).1=none→x=none)
structure ReAt (w0 w:World) (q a:Addr) (s:Sl) (bs:List UInt8) (L:Sp.Pool) (r:Rd) (m:Nat) (S FP F:NP) (ps:List Nat) (pl:Sl):Prop where
 st:StAt w q a s bs L r m S FP F
 pure:Pure w0 w
 oP:∀b,FP b→w0.heap.size≤b
 oa:w0.heap.size≤a.block
 rows:Rws w 3 1 pl (tmr (ps.map Int.ofNat))
 own:∀b,pl.blk b→w0.heap.size≤b∧¬ FP b∧b≠a.block∧¬ S b∧¬ F b∧b≠m
theorem jOG:∀(l:List Int) (i:Nat) (z:Int),inRow i l=i+l.length→inRow i (l++[z])=if z=((i+l.length:Nat):Int)+1 then i+l.length+1 else i+l.length:=by
 intro l;induction l with
 | nil=>intro i z _;simp only [List.nil_append,inRow,List.length_nil,Nat.add_zero]
 | cons s l ih =>
  intro i z h
  rw [inRow] at h
  rw [List.cons_append,inRow]
  split
  ·rename_i hs
   rw [if_pos hs,List.length_cons] at h
   rw [ih (i+1) z (by omega),List.length_cons]
   rw [show i+1+l.length=i+(l.length+1) by omega]
  ·rename_i hs
   rw [if_neg hs,List.length_cons] at h;omega
theorem jOF:∀(l:List Int) (i:Nat) (z:Int) (post:List Int),inRow i l=i+l.length→z≠((i+l.length:Nat):Int)+1→inRow i (l++z :: post)=i+l.length:=by
 intro l;induction l with
 | nil=>intro i z post _ hz;simp only [List.nil_append,inRow,List.length_nil,Nat.add_zero] at *;rw [if_neg hz]
 | cons s l ih =>
  intro i z post h hz
  rw [inRow] at h
  rw [List.cons_append,inRow]
  split
  ·rename_i hs
   rw [if_pos hs,List.length_cons] at h
   rw [List.length_cons] at hz
   rw [ih (i+1) z post (by omega) (by rw [show i+1+l.length=i+(l.length+1) by omega];exact hz),List.length_cons];omega
  ·rename_i hs
   rw [if_neg hs,List.length_cons] at h;omega
theorem c_read {S0:NP} (sb:Sl) (bs:List UInt8) (w0:World) (hs:Lst S0 w0 1 sb (byr bs)) (hz:sb.a=none→sb=Sl.nil) :
  Calls prog 121 #[sb.v] w0 (fun e w'=>∃x:Option Addr,∃y z:Int,e=.returned (.tuple #[.pointer x,.int .i64 y,.int .i64 z])∧(y=(vG bs).2.1∧z=((vG bs).2.2:Int)∧jRN w0 w' bs x∧Pure w0 w')):=by
 refine w_R1 sb w0 (fun x y z w'=>y=(vG bs).2.1∧z=((vG bs).2.2:Int)∧jRN w0 w' bs x∧Pure w0 w') ?_
 unfold m_R1
 have hl:sb.len=bs.length:=by rw [hs.len,vN]
 have bad:∀(e:Int) (n:Nat) (w':World),vG bs=(none,e,n)→Pure w0 w'→e=(vG bs).2.1∧(n:Int)=((vG bs).2.2:Int)∧jRN w0 w' bs none∧Pure w0 w':=fun e n w' h E=>by
  rw [h];exact ⟨rfl,rfl,⟨fun q hq=>(by rw [h] at hq;cases hq),fun _=>rfl⟩,E⟩
 refine ⟨fun hc=>?_,fun hc=>?_⟩
 ·have hc:4096<bs.length:=by have:=of_decide_eq_true hc;omega
  exact bad 1 0 w0 (by unfold vG;rw [if_pos hc]) (Ext.refl _)
 have hc:bs.length≤4096:=by have:=of_decide_eq_false hc;omega
 refine ⟨fun hc2=>?_,fun hc2=>?_⟩
 ·have hc2:bs.length=0:=by have:=beq_iff_eq.1 hc2;omega
  exact bad 3 0 w0 (by unfold vG;rw [if_neg (by omega),if_pos hc2]) (Ext.refl _)
 have hc2:bs.length≠0:=by have:=beq_eq_false_iff_ne.1 hc2;omega
 have htxt:vG bs=jHU bs bs.length [] ⟨0,0,0⟩ []:=by unfold vG;rw [if_neg (by omega),if_neg hc2]
 refine (jTQ w0).mono ?_
 rintro _ w1 ⟨_,rfl,q,rfl,E1,FP0,hP,hFP⟩
 refine ⟨_,rfl,E1.keptP,?_⟩
 refine (c_cNew sb bs w1 (hs.pure E1) hz (by omega)).mono ?_
 rintro _ w2 ⟨_,rfl,a,s,rfl,hR,E2,ha,hsb⟩
 refine ⟨_,rfl,E2.keptP,?_⟩
 refine (jRG w2).mono ?_
 rintro _ w3 ⟨_,rfl,m,F,rfl,hK,E3,hm,hF⟩
 refine ⟨_,rfl,E3.keptP,?_⟩
 have z1:=E1.size;have z2:=E2.size;have z3:=E3.size
 have la:a.block<w2.heap.size:=hR.box.lt
 have hnil:∀b,¬ Sl.nil.blk b:=fun b hb=>by obtain ⟨a,h,_⟩:=hb;cases h
 have R3:ReAt w0 w3 q a s bs [] ⟨0,0,0⟩ m s.blk FP0 F [] Sl.nil :=
  ⟨⟨(hP.pure E2).pure E3,hR.pure E3,hK,fun b hb=>by have:=hsb b hb;omega,by omega,fun b hb=>by have h1:=hP.lt hb;exact ⟨by omega,fun hh=>by have:=hsb b hh;omega,fun hh=>by have:=hF b hh;omega,by omega⟩,fun b hb=>by have:=hF b hb;exact ⟨by omega,fun hh=>by have:=hsb b hh;omega⟩,by omega,fun hh=>by have:=hsb _ hh;omega⟩,(E1.trans E2).trans E3,hFP,by omega,Rws.nil _ _ _,fun b hb=>(hnil b hb).elim⟩
 refine ⟨fun pl Hl w=>∃(L:Sp.Pool) (r:Rd) (ps:List Nat) (FP:NP) (n:Nat),Hl=None∧ReAt w0 w q a s bs L r m s.blk FP F ps pl∧Sp.Wf L∧ps.length=L.length∧ps.length≤r.at_∧r.at_≤bs.length∧r.err=0∧bs.length - r.at_≤n∧jHU bs n L r ps=vG bs,fun pl _=>bs.length+1 - pl.len,⟨[],⟨0,0,0⟩,[],FP0,bs.length,rfl,R3,Sp.Wf.nil,rfl,Nat.zero_le _,Nat.zero_le _,rfl,Nat.le_refl _,htxt.symm⟩,?_⟩
 rintro pl _ wl _ ⟨L,r,ps,FP,n,rfl,hRe,hW,hps,hpr,hra,hre,hn,hgo⟩
 unfold m_R1_l1
 have hpl:pl.len=ps.length:=by rw [hRe.rows.len,yF,List.length_map]
 refine (c_Left a s bs r wl hRe.st.rd hra).mono ?_
 rintro _ w4 ⟨_,rfl,rfl,E4⟩
 refine ⟨_,rfl,E4.keptP,fun hc3=>?_,fun hc3=>?_⟩
 ·have hlt:r.at_<bs.length:=by have:=of_decide_eq_true hc3;omega
  obtain ⟨n,rfl⟩:∃k,n=k+1:=⟨n - 1,by omega⟩
  rw [jHU,if_pos hlt] at hgo
  have S4:=hRe.st.pure E4
  refine (c_At a s bs r w4 S4.rd).mono ?_
  rintro _ _ ⟨_,rfl,rfl,rfl⟩
  refine ⟨_,rfl,Kept.refl _,?_⟩
  refine (jQX q a s bs r m S4 hW.ok hlt hre).mono ?_
  rintro _ w6 ⟨_,rfl,rfl,F',hP6,hR6,E6,hF6⟩
  have z4:=E4.size;have z6:=E6.size
  have E06:Pure w0 w6:=(hRe.pure.trans E4).trans' E6 (fun i hi hh=>hh.elim (fun hh=>by have:=hRe.oP i hh;omega) (fun hh=>by have:=hRe.oa;omega))
  refine ⟨_,rfl,E6.kept (fun b hb=>hb.elim),fun hc4=>?_,fun hc4=>?_⟩
  ·have h0:(vR bs L r).2.1≠0:=bne_iff_ne.1 hc4
   rw [if_pos h0] at hgo
   exact bad _ _ _ hgo.symm E06
  ·have h0:(vR bs L r).2.1=0:=by simpa using hc4
   rw [if_neg (by simpa using h0)] at hgo
   obtain ⟨a1,a2,a3⟩:=jFC bs L r hlt hre h0
   have hw6:Sp.Wf (vR bs L r).1∧(vR bs L r).1.length=L.length+1:=by
    rw [jAE bs L r hlt hre] at h0 ⊢;split at h0
    ·rename_i hk;rw [if_pos hk];obtain ⟨_,_,e3,e4,e5⟩:=jFE h0;rw [e5];simp only;refine ⟨Sp.jDA hW _,?_⟩;have hc:=(Sp.jCC e4).2.2;unfold Sp.make at e4 ⊢;simp only [e3] at e4 ⊢;rw [if_neg (by rw [hc];simp)] at e4 ⊢;split at e4
     ·simp at e4
     ·rename_i hf;rw [if_neg hf];simp
    ·simp at h0
   intro p1 w7 n7
   have E7:Pure w6 w7:=Ext.new n7
   have z7:=E7.size
   have R7:Rws w7 3 1 pl (tmr (ps.map Int.ofNat)):=((hRe.rows.pure E4).ext E6 (fun b hb hh=>hh.elim (hRe.own b hb).2.1 (hRe.own b hb).2.2.1)).pure E7
   obtain ⟨s1,w8,hr8,hR8,hE8,hb8⟩:=R7.append (P:=prog) (ty:=50) (c:=1) jCW (Box.of_newA n7).row rfl rfl (by rw [yF,List.length_map];omega) (by rw [yF,List.length_map];simp only [maxLen];omega)
   have hpw:∀b,pl.blk b→b<wl.heap.size:=fun b hb=>hRe.rows.lt hb
   have z8:=hE8.size
   have E08:Pure w0 w8:=(E06.trans E7).trans' hE8 (fun i hi hh=>by have:=(hRe.own i hh).1;omega)
   have hnew:∀b,F' b→¬ pl.blk b:=fun b hb hh=>(hF6 b hb).elim (fun h=>(hRe.own b hh).2.1 h) (fun h=>by have:=hpw b hh;omega)
   have S0:=S4
   have S8:StAt w8 q a s bs (vR bs L r).1 (vR bs L r).2.2 m s.blk F' F:=by
    refine ⟨(hP6.pure E7).ext hE8 hnew,(hR6.pure E7).ext hE8 (fun b hb hh=>(hRe.own b hh).2.2.2.1 hb) (fun hh=>(hRe.own _ hh).2.2.1 rfl),((S0.kinds.ext E6 (fun b hb hh=>?_)).pure E7).ext hE8 (fun b hb hh=>?_),fun b hb=>by have:=S0.lS b hb;omega,by have:=S0.la;omega,fun b hb=>?_,S0.dF,S0.dm⟩
    ·rcases hb with hb | rfl
     ·exact hh.elim (fun hh=>(S0.dP b hh).2.2.1 hb) (fun hh=>(S0.dF b hb).1 hh)
     ·exact hh.elim (fun hh=>(S0.dP _ hh).2.2.2 rfl) (fun hh=>S0.dm.1 hh)
    ·rcases hb with hb | rfl
     ·exact (hRe.own b hh).2.2.2.2.1 hb
     ·exact (hRe.own _ hh).2.2.2.2.2 rfl
    ·rcases hF6 b hb with h | h
     ·exact S0.dP b h
     ·exact ⟨by have:=S0.la;omega,fun hh=>by have:=S0.lS b hh;omega,fun hh=>by have:=S0.kinds.lt b hh;omega,by have:=S0.kinds.mlt;omega⟩
   refine ⟨s1,w8,hr8,hE8.kept (fun b hb=>hb.elim),⟨(vR bs L r).1,(vR bs L r).2.2,ps++[r.at_],F',n,rfl,⟨S8,E08,fun b hb=>(hF6 b hb).elim (hRe.oP b) (fun h=>by have:=hRe.pure.size;omega),hRe.oa,?_,fun b hb=>?_⟩,hw6.1,by rw [List.length_append,List.length_singleton,hw6.2];omega,by rw [List.length_append,List.length_singleton];omega,a2,a3,by omega,hgo⟩,?_⟩
   ·have:tmr ((ps++[r.at_]).map Int.ofNat)=tmr (ps.map Int.ofNat)++[[.int .i64 (r.at_:Int)]]:=by simp [tmr]
    rw [this];exact hR8
   ·rcases hb8 b hb with h | h
    ·have:=hRe.own b h
     exact ⟨this.1,fun hh=>hnew b hh h,this.2.2⟩
    ·have h1:=hRe.pure.size
     exact ⟨by omega,fun hh=>by have:=hP6.lt hh;omega,by have:=S0.la;omega,fun hh=>by have:=S0.lS b hh;omega,fun hh=>by have:=S0.kinds.lt b hh;omega,by have:=S0.kinds.mlt;omega⟩
   ·have h1:s1.len=ps.length+1:=by rw [hR8.len,List.length_append,yF,List.length_map];rfl
    show bs.length+1 - s1.len<bs.length+1 - pl.len
    omega
 ·have hge:¬ r.at_<bs.length:=by have:=of_decide_eq_false hc3;omega
  rw [jHF hge] at hgo
  intro p2 w9 n9
  have E9:Pure w4 w9:=Ext.new n9
  have B9:=Box.of_newA n9
  have b9:=n9.at_size
  refine ⟨B9.canW0 (by simp),id,?_⟩
  rintro w10 e10
  have X10:Ext (·=p2.block) w9 w10:=by rw [e10];exact Ext.setCell _ _
  have B10:Box w10 p2 [.int .i64 0] 3:=by rw [e10];exact B9.set0
  have z4:=E4.size;have z9:=E9.size;have z10:=X10.size
  have E4':Pure wl w10:=(E4.trans E9).own (by omega) X10
  have zw:=hRe.pure.size
  have P10:=hRe.st.pool.pure E4'
  have R10:=hRe.rows.pure E4'
  refine (jDD q w10 P10).mono ?_
  rintro _ w10 ⟨_,rfl,rfl,rfl⟩
  refine ⟨_,rfl,Kept.refl _,?_⟩
  refine (jRJ q L.length w10).mono ?_
  rintro _ w12 ⟨_,rfl,q2,q3,rfl,Bq2,Bq3,E12⟩
  have z12:=E12.size
  refine ⟨_,rfl,E12.keptP,_,_,rfl,call198,_,_,jLK hW (P10.pure E12) Bq2 Bq3,?_⟩
  have hfew:=Sp.tT hW L.length
  have hlf:=hW.ok.few
  unfold jCZ at hgo
  simp only at hgo
  generalize hxs:Sp.subs L L.length=xs at *
  have E012:Pure w0 w12:=(hRe.pure.trans E4').trans E12
  have vb:∀b,(b=p2.block∨FP b∨pl.blk b)→w0.heap.size≤b:=fun b hb=>hb.elim (fun h=>by omega) (fun hb=>hb.elim (hRe.oP b) (fun h=>(hRe.own b h).1))
  have dP2:¬ FP p2.block∧¬ pl.blk p2.block:=⟨fun hh=>by have:=hRe.st.pool.lt hh;omega,fun hh=>by have:=hRe.rows.lt hh;omega⟩
  refine ⟨fun pre Y A=>Box A p2 [.int .i64 (pre.length:Int)] 3∧inRow 0 pre=pre.length∧zU A q L FP∧Rws A 3 1 pl (tmr (ps.map Int.ofNat))∧(∀b,(b=p2.block∨FP b∨pl.blk b)→¬ Y b)∧Pure w0 A,
   fun pre Y A=>Box A p2 [.int .i64 (inRow 0 xs:Int)] 3∧zU A q L FP∧Rws A 3 1 pl (tmr (ps.map Int.ofNat))∧(∀b,(b=p2.block∨FP b∨pl.blk b)→¬ Y b)∧Pure w0 A,⟨fun _ _ _ _=>trivial,?_,?_,fun _ _ _ _ _ h=>h.elim⟩,?_,?_,?_⟩
  ·rintro pre Y A Y' A' ⟨g1,g2,g3,g4,g5,g6⟩ hst
   have hv:∀b,(b=p2.block∨FP b∨pl.blk b)→¬ Y' b:=hst.disj (fun b hb=>⟨hb.elim (fun e=>e▸g1.lt) (fun hb=>hb.elim (fun h=>g3.lt h) (fun h=>g4.lt h)),g5 b hb⟩)
   exact ⟨g1.ext hst.ext (hv _ (.inl rfl)),g2,g3.ext hst.ext (fun b hb=>hv b (.inr (.inl hb))),g4.ext hst.ext (fun b hb=>hv b (.inr (.inr hb))),hv,g6.hst hst⟩
  ·rintro pre Y A Y' A' ⟨g1,g3,g4,g5,g6⟩ hst
   have hv:∀b,(b=p2.block∨FP b∨pl.blk b)→¬ Y' b:=hst.disj (fun b hb=>⟨hb.elim (fun e=>e▸g1.lt) (fun hb=>hb.elim (fun h=>g3.lt h) (fun h=>g4.lt h)),g5 b hb⟩)
   exact ⟨g1.ext hst.ext (hv _ (.inl rfl)),g3.ext hst.ext (fun b hb=>hv b (.inr (.inl hb))),g4.ext hst.ext (fun b hb=>hv b (.inr (.inr hb))),hv,g6.hst hst⟩
  ·exact ⟨B10.pure E12,rfl,P10.pure E12,R10.pure E12,fun _ _ h=>h,E012⟩
  ·rintro pre z Y A ⟨g1,g2,g3,g4,g5,g6⟩ hsA ⟨post,hpost⟩
   have hpl2:pre.length<65536:=by have:=congrArg List.length hpost;simp only [List.length_append,List.length_cons] at this;omega
   have hw:IntKind.i64.wrap ((pre.length:Int)+1)=((pre.length+1:Nat):Int):=vJ (n:=pre.length+1) (by omega) (by omega)
   refine ⟨_,g1.cell0,fun hc=>?_,fun hc=>?_⟩
   ·have hc:z≠((pre.length+1:Nat):Int):=by rw [hw] at hc;exact bne_iff_ne.1 hc
    have hst:=jOF pre 0 z post (by omega) (by omega)
    rw [← hpost,Nat.zero_add] at hst
    exact ⟨Kept.refl _,by rw [hst];exact g1,g3,g4,g5,g6⟩
   ·have hc:z=((pre.length+1:Nat):Int):=by rw [hw] at hc;simpa using hc
    have hsn:=jOG pre 0 z (by omega)
    rw [if_pos (by omega)] at hsn
    refine ⟨_,g1.cell0,g1.canW0 (by simp),id,?_⟩
    rintro w13 e13
    have X13:Ext (·=p2.block) A w13:=by rw [e13];exact Ext.setCell _ _
    have B13:Box w13 p2 [.int .i64 ((pre++[z]).length:Int)] 3:=by
     rw [e13,List.length_append,List.length_singleton,← hw];exact g1.set0
    exact ⟨X13.kept (fun b hb e=>g5 b (.inl e) hb),B13,by rw [hsn,List.length_append,List.length_singleton];omega,g3.ext X13 (fun b hb e=>dP2.1 (e▸hb)),g4.ext X13 (fun b hb e=>dP2.2 (e▸hb)),g5,g6.trans' X13 (fun i hi e=>by omega)⟩
  ·rintro H1 w14 hs14 _ _ hI
   have hI:Box w14 p2 [.int .i64 (inRow 0 xs:Int)] 3∧zU w14 q L FP∧Rws w14 3 1 pl (tmr (ps.map Int.ofNat))∧(∀b,(b=p2.block∨FP b∨pl.blk b)→¬ H1 b)∧Pure w0 w14:=by
    rcases hI with ⟨g1,g2,g3,g4,g5,g6⟩ | ⟨_,g1,g3,g4,g5,g6⟩
    ·exact ⟨by rw [g2];exact g1,g3,g4,g5,g6⟩
    ·exact ⟨g1,g3,g4,g5,g6⟩
   obtain ⟨g1,g3,g4,g5,g6⟩:=hI
   refine ⟨_,g1.cell0,fun hc=>?_,fun hc=>?_⟩
   ·have hc:=xL hpl hc
    rw [dif_pos hc] at hgo
    intro w15 hs15
    have hv15:∀b,(b=p2.block∨FP b∨pl.blk b)→¬ H1 b:=g5
    have g1':=g1.ext hs15.ext (hv15 _ (.inl rfl))
    have g4':=g4.ext hs15.ext (fun b hb=>hv15 b (.inr (.inr hb)))
    obtain ⟨a1,hat,_,hv5⟩:=jAB g4'.lst (j:=inRow 0 xs) (by simpa using hc)
    refine ⟨_,g1'.cell0,a1,hat,_,hv5,fun w16 hs16=>?_⟩
    have:=bad _ _ w16 hgo.symm ((g6.hst hs15).hst hs16)
    rw [List.getElem_map]
    exact this
   ·have hc:¬ inRow 0 xs<ps.length:=by have:=of_decide_eq_false hc;omega
    rw [dif_neg hc] at hgo
    intro w17 hs17
    have hF17:zU w17 q L FP:=g3.ext hs17.ext (fun b hb=>g5 b (.inr (.inl hb)))
    rw [← hgo]
    exact ⟨rfl,rfl,⟨fun q' hq'=>by rw [← hgo] at hq';cases hq';exact ⟨q,FP,rfl,hF17,hRe.oP⟩,fun hn=>by rw [← hgo] at hn;cases hn⟩,g6.hst hs17⟩
theorem jRN.pool {w0 w':World} {bs:List UInt8} {x:Option Addr} (h:jRN w0 w' bs x) {q:Sp.Pool} (hq:(vG bs).1=some q):∃p F,x=some p∧zU w' p q F∧∀b,F b→w0.heap.size≤b:=h.1 q hq
end Go.Proofs
end
section
open Go Go.SE
namespace Go.Sp
open Go.Proofs
theorem jGQ (Lq:Pool):∀(l1 l2:List Int) (L:Pool) (own:Int→Int),zY Lq (l1++l2) L own=if (zY Lq l1 L own).2.1≠0 then zY Lq l1 L own else zY Lq l2 (zY Lq l1 L own).1 (zY Lq l1 L own).2.2:=by
 intro l1;induction l1 with
 | nil=>intro l2 L own;rw [List.nil_append];exact (if_neg (fun h=>h rfl)).symm
 | cons z l1 ih =>
  intro l2 L own
  obtain ⟨x,e,L',hm⟩:∃x e L',make L { nodeOf Lq z with a:=own (nodeOf Lq z).a,b:=own (nodeOf Lq z).b }=(x,e,L'):=⟨_,_,_,rfl⟩
  rw [List.cons_append,yP Lq z (l1++l2) L own rfl hm,yP Lq z l1 L own rfl hm]
  by_cases he:e≠0
  ·rw [if_pos he,if_pos he,if_pos he]
  ·rw [if_neg he,if_neg he,ih]
theorem jDO (Lq:Pool):∀(l:List Int) (L:Pool) (own:Int→Int),∃M,(zY Lq l L own).1=L++M:=by
 intro l;induction l with
 | nil=>intro L own;exact ⟨[],(List.append_nil L).symm⟩
 | cons z l ih =>
  intro L own
  obtain ⟨x,e,L',hm⟩:∃x e L',make L { nodeOf Lq z with a:=own (nodeOf Lq z).a,b:=own (nodeOf Lq z).b }=(x,e,L'):=⟨_,_,_,rfl⟩
  rw [yP Lq z l L own rfl hm]
  split
  ·exact ⟨[],by simp⟩
  ·obtain ⟨M1,e1⟩:=jCD L { nodeOf Lq z with a:=own (nodeOf Lq z).a,b:=own (nodeOf Lq z).b }
   rw [hm] at e1
   obtain ⟨M2,e2⟩:=ih L' (fun y=>if y=z then x else own y)
   simp only at e1
   exact ⟨M1++M2,by rw [e2,e1,List.append_assoc]⟩
theorem jJO {Lq:Pool}:∀(l:List Int) (L:Pool) (own:Int→Int),Wf L→Wf (zY Lq l L own).1:=by
 intro l;induction l with
 | nil=>intro L own h;exact h
 | cons z l ih =>
  intro L own h
  obtain ⟨x,e,L',hm⟩:∃x e L',make L { nodeOf Lq z with a:=own (nodeOf Lq z).a,b:=own (nodeOf Lq z).b }=(x,e,L'):=⟨_,_,_,rfl⟩
  have hw:=jDA h { nodeOf Lq z with a:=own (nodeOf Lq z).a,b:=own (nodeOf Lq z).b }
  rw [yP Lq z l L own rfl hm]
  rw [hm] at hw
  split
  ·exact h
  ·exact ih _ _ hw
theorem jFR {Lq:Pool} {l post:List Int} {z:Int} {L:Pool} {own:Int→Int} (h0:(zY Lq l L own).2.1=0) {n:Node} (hn:{ nodeOf Lq z with a:=(zY Lq l L own).2.2 (nodeOf Lq z).a,b:=(zY Lq l L own).2.2 (nodeOf Lq z).b }=n) (he:(make (zY Lq l L own).1 n).2.1≠0) :
  (zY Lq (l++z :: post) L own).2.1=(make (zY Lq l L own).1 n).2.1:=by
 obtain ⟨x,e,L',hm⟩:∃x e L',make (zY Lq l L own).1 n=(x,e,L'):=⟨_,_,_,rfl⟩
 rw [hm] at he ⊢
 rw [jGQ,if_neg (by rw [h0];exact fun h=>h rfl),yP Lq z post _ _ hn hm,if_pos he]
theorem jFQ {Lq:Pool} {l:List Int} {z:Int} {L:Pool} {own:Int→Int} (h0:(zY Lq l L own).2.1=0) {n:Node} (hn:{ nodeOf Lq z with a:=(zY Lq l L own).2.2 (nodeOf Lq z).a,b:=(zY Lq l L own).2.2 (nodeOf Lq z).b }=n) (he:(make (zY Lq l L own).1 n).2.1=0) :
  zY Lq (l++[z]) L own=((make (zY Lq l L own).1 n).2.2,0,fun x=>if x=z then (make (zY Lq l L own).1 n).1 else (zY Lq l L own).2.2 x):=by
 obtain ⟨x,e,L',hm⟩:∃x e L',make (zY Lq l L own).1 n=(x,e,L'):=⟨_,_,_,rfl⟩
 rw [hm] at he ⊢
 rw [jGQ,if_neg (by rw [h0];exact fun h=>h rfl),yP Lq z [] _ _ hn hm,if_neg (fun h=>h he)]
 rfl
end Go.Sp
namespace Go.Proofs
open Tryz
attribute [local irreducible] Calls CallsD
theorem jMX {w:World} {a:Addr} {k:Nat} {v:Value}:Ext (·=a.block) w (w.setCell (a.add k) v):=(Ext.setCell _ _).mono (fun i _ e=>by rw [zQ] at e;exact e)
def ownM (M:List (Int×Int)) (x:Int):Int:=(SE.look M x).getD 0
def CoV (p2 p3 p4 p5 p6 p8:Addr) (mb:Nat) (F' FQ:NP) (b:Nat):Prop:=b=p2.block∨b=p3.block∨b=p4.block∨b=p5.block∨b=p6.block∨b=p8.block∨b=mb∨F' b∨FQ b
structure CoB (A:World) (p q p2 p3 p4 p5 p6 p8:Addr) (mb n:Nat):Prop where
 b2:Box A p2 [.pointer (some p)] 29
 b3:Box A p3 [.pointer (some q)] 29
 b4:Box A p4 [.int .i64 0] 23
 b5:Box A p5 [.int .i64 0] 33
 b6:Box A p6 [.int .i64 (n:Int)] 3
 b8:Box A p8 [.map (some mb)] 233
theorem CoB.ext {A A':World} {p q p2 p3 p4 p5 p6 p8:Addr} {mb n:Nat} {F' FQ G:NP} (h:CoB A p q p2 p3 p4 p5 p6 p8 mb n) (E:Ext G A A') (hG:∀b,(b=p2.block∨b=p3.block∨b=p4.block∨b=p5.block∨b=p6.block∨b=p8.block)→¬ G b):CoB A' p q p2 p3 p4 p5 p6 p8 mb n :=
 ⟨h.b2.ext E (hG _ (.inl rfl)),h.b3.ext E (hG _ (.inr (.inl rfl))),h.b4.ext E (hG _ (.inr (.inr (.inl rfl)))),h.b5.ext E (hG _ (.inr (.inr (.inr (.inl rfl))))),h.b6.ext E (hG _ (.inr (.inr (.inr (.inr (.inl rfl)))))),h.b8.ext E (hG _ (.inr (.inr (.inr (.inr (.inr rfl))))))⟩
theorem CoB.pure {A A':World} {p q p2 p3 p4 p5 p6 p8:Addr} {mb n:Nat} (h:CoB A p q p2 p3 p4 p5 p6 p8 mb n) (E:Pure A A'):CoB A' p q p2 p3 p4 p5 p6 p8 mb n:=h.ext (F':=None) (FQ:=None) E (fun _ _ h=>h)
theorem CoB.lt {A:World} {p q p2 p3 p4 p5 p6 p8:Addr} {mb n b:Nat} (h:CoB A p q p2 p3 p4 p5 p6 p8 mb n) (hb:b=p2.block∨b=p3.block∨b=p4.block∨b=p5.block∨b=p6.block∨b=p8.block):b<A.heap.size:=by
 rcases hb with rfl | rfl | rfl | rfl | rfl | rfl
 ·exact h.b2.lt
 ·exact h.b3.lt
 ·exact h.b4.lt
 ·exact h.b5.lt
 ·exact h.b6.lt
 ·exact h.b8.lt
theorem c_Copy (p q:Addr) (t:Int) (w0:World) {L Lq:Sp.Pool} {FP FQ:NP} (hW:Sp.Wf L) (hQ:Sp.Wf Lq) (hP:zU w0 p L FP) (hPQ:zU w0 q Lq FQ) (hd:∀b,FP b→¬ FQ b) :
  Calls prog 122 #[.pointer (some p),.pointer (some q),.int .i64 t] w0 (fun e w'=>∃r1 r2:Int,e=.returned (.tuple #[.int .i64 r1,.int .i64 r2])∧(r1=(qW L Lq t).1∧r2=(qW L Lq t).2.1∧∃F',zU w' p (qW L Lq t).2.2 F'∧Ext FP w0 w'∧∀b,F' b→FP b∨w0.heap.size≤b)):=by
 refine w_X4 _ _ _ w0 (fun r1 r2 w'=>r1=(qW L Lq t).1∧r2=(qW L Lq t).2.1∧∃F',zU w' p (qW L Lq t).2.2 F'∧Ext FP w0 w'∧∀b,F' b→FP b∨w0.heap.size≤b) ?_
 unfold m_X4
 intro p2 w1 n2 p3 w2 n3 p4 w3 n4 p5 w4 n5
 have E1:Pure w0 w1:=Ext.new n2
 have E2:Pure w1 w2:=Ext.new n3
 have E3:Pure w2 w3:=Ext.new n4
 have E4:Pure w3 w4:=Ext.new n5
 have B2:=(((Box.of_newA n2).pure E2).pure E3).pure E4
 have B3:=((Box.of_newA n3).pure E3).pure E4
 have B4:=(Box.of_newA n4).pure E4
 have B5:=Box.of_newA n5
 have b2:=n2.at_size;have b3:=n3.at_size;have b4:=n4.at_size;have b5:=n5.at_size
 have z1:=E1.size;have z2:=E2.size;have z3:=E3.size;have z4:=E4.size
 have l1:=(Box.of_newA n2).lt;have l2:=(Box.of_newA n3).lt;have l3:=(Box.of_newA n4).lt;have l4:=B5.lt
 have E04:Pure w0 w4:=((E1.trans E2).trans E3).trans E4
 refine ⟨some p,B2.cell0,fun hc=>(by cases hc),fun _=>⟨some q,B3.cell0,?_⟩⟩
 refine (c_in q t w4 (hPQ.pure E04)).mono ?_
 rintro _ _ ⟨_,rfl,rfl,rfl⟩
 refine ⟨_,rfl,Kept.refl _,fun hc=>?_,fun hc=>?_⟩
 ·have hin:Sp.inP Lq t=false:=by simpa using hc
  have e:qW L Lq t=(0,51,L):=by unfold qW;rw [if_neg (by rw [hin];simp)]
  rw [e]
  refine ⟨B4.canW0 (by simp),id,?_⟩
  rintro w8 e8
  have X8:Ext (·=p4.block) w4 w8:=by rw [e8];exact Ext.setCell _ _
  have B48:Box w8 p4 [.int .i64 0] 23:=by rw [e8];exact B4.set0
  have B58:=B5.ext X8 (by omega)
  refine ⟨B58.canW0 (by simp),id,?_⟩
  rintro w9 e9
  have X9:Ext (·=p5.block) w8 w9:=by rw [e9];exact Ext.setCell _ _
  have B59:Box w9 p5 [.int .i64 51] 33:=by rw [e9];exact B58.set0
  have B49:=B48.ext X9 (by omega)
  refine ⟨_,B49.cell0,_,B59.cell0,rfl,rfl,FP,((hP.pure E04).ext X8 (fun b hb e=>by have:=hP.lt hb;omega)).ext X9 (fun b hb e=>by have:=hP.lt hb;omega),Ext.pure ((E04.own (by omega) X8).own (by omega) X9),fun b hb=>.inl hb⟩
 have hin:Sp.inP Lq t=true:=by simpa using hc
 obtain ⟨sl,hsl,hsll⟩:∃v4:Sl,w4.cell? p=some v4.v∧v4.len=L.length:=by
  obtain ⟨s,m,h,_⟩:=hP.pure E04;exact ⟨s,h.box.cell0,by rw [h.rows.len,List.length_map]⟩
 refine ⟨some p,B2.cell0,p,rfl,sl,hsl,?_⟩
 rw [hsll]
 intro p6 w10 n6
 have E10:Pure w4 w10:=Ext.new n6
 have B6:=Box.of_newA n6
 have b6:=n6.at_size
 refine ⟨B6.canW0 (by simp),id,?_⟩
 rintro w11 e11
 have X11:Ext (·=p6.block) w10 w11:=by rw [e11];exact Ext.setCell _ _
 have B6':Box w11 p6 [.int .i64 (L.length:Int)] 3:=by rw [e11];exact B6.set0
 intro p7 w12 n7
 have E12:Pure w11 w12:=Ext.new n7
 have M7:=IMap.of_new (f:=fun i:Int=>.int .i64 i) n7
 have b7:=n7.at_size
 intro p8 w13 n8
 have E13:Pure w12 w13:=Ext.new n8
 have B8:=Box.of_newA n8
 have b8:=n8.at_size
 refine ⟨B8.canW0 (by simp),id,?_⟩
 rintro w14 e14
 have X14:Ext (·=p8.block) w13 w14:=by rw [e14];exact Ext.setCell _ _
 have B8':Box w14 p8 [.map (some p7.block)] 233:=by rw [e14];exact B8.set0
 have z10:=E10.size;have z11:=X11.size;have z12:=E12.size;have z13:=E13.size;have z14:=X14.size
 have l6:=B6'.lt;have l7:=M7.lt;have l8:=B8.lt
 have E07:Pure w0 w14:=((((E04.trans E10).own (by omega) X11).trans E12).trans E13).own (by omega) X14
 have up:∀{T:TypeId} {c:Addr} {vs:List Value},Box w4 c vs T→c.block≠p6.block→c.block≠p8.block→Box w14 c vs T:=fun h h1 h2=>((((h.pure E10).ext X11 h1).pure E12).pure E13).ext X14 h2
 have C14:CoB w14 p q p2 p3 p4 p5 p6 p8 p7.block L.length:=⟨up B2 (by omega) (by omega),up B3 (by omega) (by omega),up B4 (by omega) (by omega),up B5 (by omega) (by omega),((B6'.pure E12).pure E13).ext X14 (by omega),B8'⟩
 have M14:=(M7.pure E13).ext X14 (by omega)
 refine ⟨some q,C14.b3.cell0,?_⟩
 refine (jRJ q t w14).mono ?_
 rintro _ w15 ⟨_,rfl,q2,q3,rfl,Bq2,Bq3,E15⟩
 have E015:=E07.trans E15
 have z15:=E15.size
 refine ⟨_,rfl,E15.keptP,_,_,rfl,call198,_,_,jLK hQ (hPQ.pure E015) Bq2 Bq3,?_⟩
 have hfew:=Sp.tT hQ t
 have hlq:=hQ.ok.few
 have hsub:∀u∈Sp.subs Lq t,Sp.inP Lq u=true:=fun u hu=>jKP hQ hu
 have hnd:=Sp.jCV hQ t
 generalize hcs:qW L Lq t=cs at *
 have hcs':cs=if (zY Lq (Sp.subs Lq t) L (fun _=>0)).2.1≠0 then (0,(zY Lq (Sp.subs Lq t) L (fun _=>0)).2.1,L) else ((zY Lq (Sp.subs Lq t) L (fun _=>0)).2.2 t,0,(zY Lq (Sp.subs Lq t) L (fun _=>0)).1):=by rw [← hcs];unfold qW;rw [if_pos hin]
 have htin:t∈Sp.subs Lq t:=jGZ hQ hin
 generalize Sp.subs Lq t=xs at *
 have C15:=C14.pure E15
 have M15:=M14.pure E15
 have o2:w0.heap.size≤p2.block:=by omega
 have o3:w0.heap.size≤p3.block:=by omega
 have o4:w0.heap.size≤p4.block:=by omega
 have o5:w0.heap.size≤p5.block:=by omega
 have o6:w0.heap.size≤p6.block:=by omega
 have o8:w0.heap.size≤p8.block:=by omega
 have om:w0.heap.size≤p7.block:=by omega
 have d45:p4.block≠p5.block:=by omega
 have dm:∀b,(b=p2.block∨b=p3.block∨b=p4.block∨b=p5.block∨b=p6.block∨b=p8.block)→b≠p7.block:=fun b hb=>by rcases hb with rfl | rfl | rfl | rfl | rfl | rfl <;> omega
 have ob:∀b,(b=p2.block∨b=p3.block∨b=p4.block∨b=p5.block∨b=p6.block∨b=p8.block∨b=p7.block)→w0.heap.size≤b∧b<w15.heap.size:=fun b hb=>by rcases hb with rfl | rfl | rfl | rfl | rfl | rfl | rfl <;> omega
 generalize p7.block=mb at *
 clear up B2 B3 B4 B5 B6 B6' B8 B8' M7 M14 C14 n2 n3 n4 n5 n6 n7 n8 X11 X14 E10 E12 E13 e11 e14 Bq2 Bq3 hsl
 have hPq:∀b,FQ b→b<w0.heap.size:=fun b hb=>hPQ.lt hb
 refine ⟨fun pre Y A=>∃(F':NP) (M:List (Int×Int)),(zY Lq pre L (fun _=>0)).2.1=0∧zU A p (zY Lq pre L (fun _=>0)).1 F'∧IMap (fun i:Int=>.int .i64 i) A mb M∧M.map Prod.fst=pre∧(∀x,(zY Lq pre L (fun _=>0)).2.2 x=ownM M x)∧CoB A p q p2 p3 p4 p5 p6 p8 mb L.length∧zU A q Lq FQ∧(∀b,F' b→FP b∨(w0.heap.size≤b∧¬ (b=p2.block∨b=p3.block∨b=p4.block∨b=p5.block∨b=p6.block∨b=p8.block∨b=mb)))∧(∀b,CoV p2 p3 p4 p5 p6 p8 mb F' FQ b→¬ Y b)∧Ext FP w0 A∧w15.heap.size≤A.heap.size,
  fun pre Y A=>∃(F':NP) (e:Int),cs=(0,e,L)∧zU A p L F'∧Box A p4 [.int .i64 0] 23∧Box A p5 [.int .i64 e] 33∧(∀b,F' b→FP b∨w0.heap.size≤b)∧(∀b,(b=p4.block∨b=p5.block∨F' b)→¬ Y b)∧Ext FP w0 A,⟨fun _ _ _ _=>trivial,?_,fun _ _ _ _ _ h=>h.elim,?_⟩,?_,?_,?_,?_⟩
 ·rintro pre Y A Y' A' ⟨F',M,g1,g2,g3,g4,g5,g6,g7,g8,g9,g10,g11⟩ hst
  have hv:∀b,CoV p2 p3 p4 p5 p6 p8 mb F' FQ b→¬ Y' b:=hst.disj (fun b hb=>⟨by
   rcases hb with hb | hb | hb | hb | hb | hb | hb | hb | hb
   ·exact g6.lt (.inl hb)
   ·exact g6.lt (.inr (.inl hb))
   ·exact g6.lt (.inr (.inr (.inl hb)))
   ·exact g6.lt (.inr (.inr (.inr (.inl hb))))
   ·exact g6.lt (.inr (.inr (.inr (.inr (.inl hb)))))
   ·exact g6.lt (.inr (.inr (.inr (.inr (.inr hb)))))
   ·exact hb▸g3.lt
   ·exact g2.lt hb
   ·exact g7.lt hb,g9 b hb⟩)
  exact ⟨F',M,g1,g2.ext hst.ext (fun b hb=>hv b (.inr (.inr (.inr (.inr (.inr (.inr (.inr (.inl hb))))))))),g3.ext hst.ext (hv _ (.inr (.inr (.inr (.inr (.inr (.inr (.inl rfl)))))))),g4,g5,g6.ext (F':=F') (FQ:=FQ) hst.ext (fun b hb=>hv b (by rcases hb with h | h | h | h | h | h <;> simp only [CoV,h,true_or,or_true])),g7.ext hst.ext (fun b hb=>hv b (.inr (.inr (.inr (.inr (.inr (.inr (.inr (.inr hb))))))))),g8,hv,g10.hst hst,Nat.le_trans g11 hst.ext.size⟩
 ·rintro pre Y A Y' A' ⟨F',e,g1,g2,g3,g4,g5,g6,g7⟩ hst
  have hv:∀b,(b=p4.block∨b=p5.block∨F' b)→¬ Y' b:=hst.disj (fun b hb=>⟨by
   rcases hb with hb | hb | hb
   ·exact hb▸g3.lt
   ·exact hb▸g4.lt
   ·exact g2.lt hb,g6 b hb⟩)
  exact ⟨F',e,g1,g2.ext hst.ext (fun b hb=>hv b (.inr (.inr hb))),g3.ext hst.ext (hv _ (.inl rfl)),g4.ext hst.ext (hv _ (.inr (.inl rfl))),g5,hv,g7.hst hst⟩
 ·exact ⟨FP,[],rfl,hP.pure E015,M15,rfl,fun _=>rfl,C15,hPQ.pure E015,fun b hb=>.inl hb,fun _ _ h=>h,Ext.pure E015,Nat.le_refl _⟩
 ·rintro pre z Y A ⟨F',M,g1,g2,g3,g4,g5,g6,g7,g8,g9,g10,g11⟩ hsA ⟨post,hpost⟩
  have hzin:Sp.inP Lq z=true:=hsub z (by rw [hpost];simp)
  have hzn:z ∉ pre:=by
   rw [hpost] at hnd;have:=(List.nodup_append.1 hnd).2.2;exact fun h=>this z h z (by simp) rfl
  generalize hcg:zY Lq pre L (fun _=>0)=cg at *
  have hok:Sp.Ok cg.1:=by rw [← hcg];exact (Sp.jJO pre L _ hW).ok
  have hA0:=hsA.lt
  refine ⟨some q,g6.b3.cell0,?_⟩
  refine (jKF q z A g7 hQ.ok).mono ?_
  rintro _ w16 ⟨k,f,t',u,x,a,b,r3,rfl,⟨hn,_⟩,E16⟩
  have z16:=E16.size
  refine ⟨_,_,_,_,_,_,_,_,rfl,E16.kept (fun b hb=>hb.elim),?_⟩
  intro p9 w17 n9
  have E17:Pure w16 w17:=Ext.new n9
  have B9:=Box.of_newA n9
  have b9:=n9.at_size
  have z17:=E17.size
  refine ⟨B9.canWs (by simp),id,?_⟩
  rintro w18 e18
  have X18:Ext (·=p9.block) w17 w18:=by rw [e18];exact Ext.storeRow _ _ _
  have B18:Box w18 p9 (xR ⟨k,f,t',u,x,a,b⟩) 103:=by rw [e18];exact B9.store rfl
  have z18:=X18.size
  have l9:=B18.lt
  have keep:∀{G:NP} {w':World},Ext G A w'→(∀b,b<A.heap.size→¬ G b)→IMap (fun i:Int=>.int .i64 i) w' mb M∧CoB w' p q p2 p3 p4 p5 p6 p8 mb L.length∧zU w' q Lq FQ∧zU w' p cg.1 F':=fun {G w'} E hG =>
   ⟨g3.ext E (hG _ g3.lt),g6.ext (F':=F') (FQ:=FQ) E (fun b hb=>hG b (g6.lt hb)),g7.ext E (fun b hb=>hG b (g7.lt hb)),g2.ext E (fun b hb=>hG b (g2.lt hb))⟩
  have E18:Ext (·=p9.block) A w18:=(Ext.pure (E16.trans E17)).trans X18
  have hg9:∀b,b<A.heap.size→¬ (b=p9.block):=fun b hb e=>by omega
  have look:∀{w':World},IMap (fun i:Int=>.int .i64 i) w' mb M→∀y,(Instr.lookup 233 (.map (some mb)) (.int .i64 y) false).run prog w'=.ok (.int .i64 (cg.2.2 y)) w':=fun {w'} h y=>by
   rw [g5 y];rcases h.get (P:=prog) (T:=233) underlying233 underlying23 (zeroValue23 _) y false with ⟨hn,hr⟩ | ⟨v,hv,hr⟩
   ·unfold ownM;rw [hn];exact hr
   ·unfold ownM;rw [hv];exact hr
  refine ⟨fun w'=>w'.cell? p8=some (.map (some mb))∧IMap (fun i:Int=>.int .i64 i) w' mb M,?_,?_⟩
  ·obtain ⟨k1,k2,_,_⟩:=keep (E18.thenPure (Ext.drew w18)) hg9
   exact ⟨k2.b8.cell0,k1⟩
  rintro w19 e19
  have E19:Ext (·=p9.block) A w19:=by rw [e19];exact E18.thenPure (Ext.drew w18)
  have B19:Box w19 p9 (xR ⟨k,f,t',u,x,a,b⟩) 103:=by rw [e19];exact B18.pure (Ext.drew w18)
  obtain ⟨k1,k2,k3,k4⟩:=keep E19 hg9
  refine ⟨some mb,k2.b8.cell0,a,B19.cell (i:=5) rfl,_,look k1 a,some mb,fun w' h=>h.1,b,B19.cell (i:=6) rfl,_,fun w' h=>look h.2 b,B19.canW (i:=5) (by simp [xR]),id,?_⟩
  rintro w20 e20
  have X20:Ext (·=p9.block) w19 w20:=by rw [e20];exact jMX
  have B20:Box w20 p9 (xR ⟨k,f,t',u,x,cg.2.2 a,b⟩) 103:=by rw [e20];exact B19.set 5 _
  have E20:=E19.trans X20
  obtain ⟨k1',k2',_,_⟩:=keep E20 hg9
  refine ⟨⟨k2'.b8.cell0,k1'⟩,B20.canW (i:=6) (by simp [xR]),id,?_⟩
  rintro w21 e21
  have X21:Ext (·=p9.block) w20 w21:=by rw [e21];exact jMX
  have B21:Box w21 p9 (xR ⟨k,f,t',u,x,cg.2.2 a,cg.2.2 b⟩) 103:=by rw [e21];exact B20.set 6 _
  have E21:=E20.trans X21
  obtain ⟨m1,m2,m3,m4⟩:=keep E21 hg9
  have z21:=E21.size
  refine ⟨some p,m2.b2.cell0,k,f,t',u,x,cg.2.2 a,cg.2.2 b,B21.row,?_⟩
  have hnn:({ Sp.nodeOf Lq z with a:=cg.2.2 (Sp.nodeOf Lq z).a,b:=cg.2.2 (Sp.nodeOf Lq z).b }:Sp.Node)=⟨k,f,t',u,x,cg.2.2 a,cg.2.2 b⟩:=by rw [← hn]
  refine (jRK p k f t' u x (cg.2.2 a) (cg.2.2 b) w21 m4 hok).mono ?_
  rintro _ w22 ⟨r4,r5,rfl,he,F2,hP2,E22,hF2⟩
  have he1:=congrArg Prod.fst he
  have he2:=congrArg Prod.snd he
  simp only at he1 he2
  have z22:=E22.size
  have hF'o:∀b,F' b→¬ (b=p2.block∨b=p3.block∨b=p4.block∨b=p5.block∨b=p6.block∨b=p8.block∨b=mb):=fun b hb hh=>(g8 b hb).elim (fun h=>by have:=hP.lt h;have:=(ob b hh).1;omega) (fun h=>h.2 hh)
  have n22:CoB w22 p q p2 p3 p4 p5 p6 p8 mb L.length:=m2.ext (F':=F') (FQ:=FQ) E22 (fun b hb hh=>hF'o b hh (by rcases hb with h | h | h | h | h | h <;> simp only [h,true_or,or_true]))
  have M22:=m1.ext E22 (fun hh=>hF'o _ hh (by simp))
  have Q22:=m3.ext E22 (fun b hb hh=>(g8 b hh).elim (fun h=>hd b h hb) (fun h=>by have:=hPq b hb;omega))
  have kY:Kept Y A w22:=(E21.kept (fun b hb e=>by have:=hA0 b hb;omega)).trans (E22.kept (fun b hb hh=>g9 b (.inr (.inr (.inr (.inr (.inr (.inr (.inr (.inl hh)))))))) hb))
  have E022:Ext FP w0 w22:=(g10.trans' E21 (fun i hi e=>by have:=g10.size;omega)).trans' E22 (fun i hi hh=>(g8 i hh).elim id (fun h=>by omega))
  have hF2o:∀b,F2 b→FP b∨(w0.heap.size≤b∧¬ (b=p2.block∨b=p3.block∨b=p4.block∨b=p5.block∨b=p6.block∨b=p8.block∨b=mb)):=fun b hb=>(hF2 b hb).elim (g8 b) (fun h=>.inr ⟨by have:=g10.size;omega,fun hh=>by have:=(ob b hh).2;omega⟩)
  have hF2Y:∀b,F2 b→¬ Y b:=fun b hb hY=>(hF2 b hb).elim (fun h=>g9 b (.inr (.inr (.inr (.inr (.inr (.inr (.inr (.inl h)))))))) hY) (fun h=>by have:=hA0 b hY;omega)
  refine ⟨r4,r5,rfl,E22.kept (fun b hb=>hb.elim),fun hc=>?_,fun hc=>?_⟩
  ·have h5:(Sp.make cg.1 ⟨k,f,t',u,x,cg.2.2 a,cg.2.2 b⟩).2.1≠0:=by rw [← he2];exact bne_iff_ne.1 hc
   have hfail:=@Sp.jFR Lq pre post z L (fun _=>0) (by rw [hcg];exact g1) ⟨k,f,t',u,x,cg.2.2 a,cg.2.2 b⟩ (by rw [hcg];exact hnn) (by rw [hcg];exact h5)
   rw [← hpost,hcg,← he2] at hfail
   have hcs2:cs=(0,r5,L):=by rw [hcs',hfail,if_pos (by rw [he2];exact h5)]
   refine ⟨some p,n22.b2.cell0,_,n22.b6.cell0,?_⟩
   obtain ⟨Mg,hMg⟩:=Sp.jDO Lq pre L (fun _=>0)
   rw [hcg] at hMg
   have hmk:∃M2,(Sp.make cg.1 ⟨k,f,t',u,x,cg.2.2 a,cg.2.2 b⟩).2.2=cg.1++M2:=Sp.jCD _ _
   obtain ⟨M2,hM2⟩:=hmk
   rw [hM2,hMg,List.append_assoc] at hP2
   have hok2:Sp.Ok (L++(Mg++M2)):=by rw [← List.append_assoc,← hMg,← hM2];exact Sp.jLF hok _
   refine (c_cut p L.length w22 hP2 hok2 (by rw [List.length_append];omega)).mono ?_
   rintro _ w23 ⟨rfl,hP3,E23⟩
   rw [List.take_left] at hP3
   have n23:CoB w23 p q p2 p3 p4 p5 p6 p8 mb L.length:=n22.ext (F':=F') (FQ:=FQ) E23 (fun b hb hh=>(hF2o b hh).elim (fun h=>by have:=hP.lt h;have:=(ob b (by rcases hb with h | h | h | h | h | h <;> simp only [h,true_or,or_true])).1;omega) (fun h=>h.2 (by rcases hb with h | h | h | h | h | h <;> simp only [h,true_or,or_true])))
   refine ⟨rfl,E23.kept (fun b hb=>hb.elim),n23.b4.canW0 (by simp),id,?_⟩
   rintro w24 e24
   have X24:Ext (·=p4.block) w23 w24:=by rw [e24];exact Ext.setCell _ _
   have B24:Box w24 p4 [.int .i64 0] 23:=by rw [e24];exact n23.b4.set0
   have B25:=n23.b5.ext X24 (fun e=>d45 e.symm)
   refine ⟨B25.canW0 (by simp),id,?_⟩
   rintro w25 e25
   have X25:Ext (·=p5.block) w24 w25:=by rw [e25];exact Ext.setCell _ _
   have B25':Box w25 p5 [.int .i64 r5] 33:=by rw [e25];exact B25.set0
   have nF:∀b,F2 b→b≠p4.block∧b≠p5.block:=fun b hb=>(hF2o b hb).elim (fun h=>by have:=hP.lt h;omega) (fun h=>⟨fun e=>h.2 (.inr (.inr (.inl e))),fun e=>h.2 (.inr (.inr (.inr (.inl e))))⟩)
   have nY4:¬ Y p4.block:=g9 _ (.inr (.inr (.inl rfl)))
   have nY5:¬ Y p5.block:=g9 _ (.inr (.inr (.inr (.inl rfl))))
   refine ⟨((kY.trans (E23.kept (fun b hb hh=>hF2Y b hh hb))).trans (X24.kept (fun b hb e=>nY4 (e▸hb)))).trans (X25.kept (fun b hb e=>nY5 (e▸hb))),F2,r5,hcs2,(hP3.ext X24 (fun b hb e=>(nF b hb).1 e)).ext X25 (fun b hb e=>(nF b hb).2 e),B24.ext X25 d45,B25',fun b hb=>(hF2o b hb).imp id (fun h=>h.1),?_,((E022.trans' E23 (fun i hi hh=>(hF2o i hh).elim id (fun h=>by omega))).trans' X24 (fun i hi e=>by omega)).trans' X25 (fun i hi e=>by omega)⟩
   rintro b (rfl | rfl | hb)
   ·exact nY4
   ·exact nY5
   ·exact hF2Y b hb
  ·have h5:(Sp.make cg.1 ⟨k,f,t',u,x,cg.2.2 a,cg.2.2 b⟩).2.1=0:=by rw [← he2];simpa using hc
   have hnext:=@Sp.jFQ Lq pre z L (fun _=>0) (by rw [hcg];exact g1) ⟨k,f,t',u,x,cg.2.2 a,cg.2.2 b⟩ (by rw [hcg];exact hnn) (by rw [hcg];exact h5)
   rw [hcg,← he1] at hnext
   have hlk:SE.look M z=none:=tK.2 (by rw [g4];exact hzn)
   obtain ⟨w26,hr26,hM26,X26⟩:=M22.put (P:=prog) (T:=233) underlying233 underlying23 hlk r4
   have nm:∀b,F2 b→b≠mb:=fun b hb=>(hF2o b hb).elim (fun h=>by have:=hP.lt h;have:=(ob mb (by simp)).1;omega) (fun h e=>h.2 (by simp [e]))
   have nYm:¬ Y mb:=g9 _ (.inr (.inr (.inr (.inr (.inr (.inr (.inl rfl)))))))
   have hmbo:=(ob mb (by simp)).1
   refine ⟨some mb,n22.b8.cell0,w26,hr26,X26.kept (fun b hb=>hb.elim),kY.trans (X26.kept (fun b hb e=>nYm (e▸hb))),F2,M++[(z,r4)],by rw [hnext],by rw [hnext];exact hP2.ext X26 (fun b hb e=>nm b hb e),hM26,by simp [g4],?_,n22.ext (F':=F') (FQ:=FQ) X26 (fun b hb e=>dm b hb e),Q22.ext X26 (fun b hb e=>by have:=hPq b hb;omega),hF2o,?_,E022.trans' X26 (fun i hi e=>by omega),by have:=X26.size;omega⟩
   ·intro y
    rw [hnext]
    simp only
    unfold ownM
    rw [jQF (by rw [g4];exact hzn)]
    by_cases e:y=z
    ·rw [if_pos e,if_pos e.symm];rfl
    ·rw [if_neg e,if_neg (fun h=>e h.symm)];exact g5 y
   ·rintro b (hb | hb | hb | hb | hb | hb | hb | hb | hb)
    ·exact g9 b (.inl hb)
    ·exact g9 b (.inr (.inl hb))
    ·exact g9 b (.inr (.inr (.inl hb)))
    ·exact g9 b (.inr (.inr (.inr (.inl hb))))
    ·exact g9 b (.inr (.inr (.inr (.inr (.inl hb)))))
    ·exact g9 b (.inr (.inr (.inr (.inr (.inr (.inl hb))))))
    ·exact g9 b (.inr (.inr (.inr (.inr (.inr (.inr (.inl hb)))))))
    ·exact hF2Y b hb
    ·exact g9 b (.inr (.inr (.inr (.inr (.inr (.inr (.inr (.inr hb))))))))
 ·rintro H1 w27 hs27 _ _ ⟨F',M,g1,g2,g3,g4,g5,g6,g7,g8,g9,g10,g11⟩
  have hcs2:cs=((zY Lq xs L (fun _=>0)).2.2 t,0,(zY Lq xs L (fun _=>0)).1):=by rw [hcs',if_neg (by simpa using g1)]
  have hlk:(Instr.lookup 233 (.map (some mb)) (.int .i64 t) false).run prog w27=.ok (.int .i64 ((zY Lq xs L (fun _=>0)).2.2 t)) w27:=by
   rw [g5 t];rcases g3.get (P:=prog) (T:=233) underlying233 underlying23 (zeroValue23 _) t false with ⟨hn,hr⟩ | ⟨v,hv,hr⟩
   ·unfold ownM;rw [hn];exact hr
   ·unfold ownM;rw [hv];exact hr
  generalize hcg:zY Lq xs L (fun _=>0)=cg at *
  have nY4:¬ H1 p4.block:=g9 _ (.inr (.inr (.inl rfl)))
  have nY5:¬ H1 p5.block:=g9 _ (.inr (.inr (.inr (.inl rfl))))
  refine ⟨some mb,g6.b8.cell0,_,hlk,g6.b4.canW0 (by simp),nY4,?_⟩
  rintro w28 e28
  have X28:Ext (·=p4.block) w27 w28:=by rw [e28];exact Ext.setCell _ _
  have B28:Box w28 p4 [.int .i64 (cg.2.2 t)] 23:=by rw [e28];exact g6.b4.set0
  have B28':=g6.b5.ext X28 (fun e=>d45 e.symm)
  refine ⟨B28'.canW0 (by simp),nY5,?_⟩
  rintro w29 e29
  have X29:Ext (·=p5.block) w28 w29:=by rw [e29];exact Ext.setCell _ _
  have B29:Box w29 p5 [.int .i64 0] 33:=by rw [e29];exact B28'.set0
  have B29':=B28.ext X29 d45
  intro w30 hs30
  have nF:∀b,F' b→b≠p4.block∧b≠p5.block:=fun b hb=>(g8 b hb).elim (fun h=>by have:=hP.lt h;omega) (fun h=>⟨fun e=>h.2 (.inr (.inr (.inl e))),fun e=>h.2 (.inr (.inr (.inr (.inl e))))⟩)
  refine ⟨_,(B29'.ext hs30.ext nY4).cell0,_,(B29.ext hs30.ext nY5).cell0,?_⟩
  rw [hcs2]
  refine ⟨rfl,rfl,F',((g2.ext X28 (fun b hb e=>(nF b hb).1 e)).ext X29 (fun b hb e=>(nF b hb).2 e)).ext hs30.ext (fun b hb=>g9 b (.inr (.inr (.inr (.inr (.inr (.inr (.inr (.inl hb))))))))),((g10.trans' X28 (fun i hi e=>by omega)).trans' X29 (fun i hi e=>by omega)).hst hs30,fun b hb=>(g8 b hb).imp id (fun h=>h.1)⟩
 ·rintro pre H2 w32 hs32 ⟨F',e,g1,g2,g3,g4,g5,g6,g7⟩
  refine ⟨_,g3.cell0,_,g4.cell0,?_⟩
  rw [g1]
  exact ⟨rfl,rfl,F',g2,g7,g5⟩
end Go.Proofs
end
section
open Go Go.SE
namespace Go.Proofs
open Tryz
attribute [local irreducible] Calls CallsD
theorem jTS {S0:NP} (p:Addr) (sb:Sl) (bs:List UInt8) (w0:World) {L:Sp.Pool} {FP:NP} (hW:Sp.Wf L) (hP:zU w0 p L FP) (hs:Lst S0 w0 1 sb (byr bs)) (hz:sb.a=none→sb=Sl.nil) :
  Calls prog 68 #[.pointer (some p),sb.v] w0 (fun e w'=>∃t x y:Int,e=.returned (.tuple #[.int .i64 t,.int .i64 x,.int .i64 y])∧(t=(jBF L bs).1∧x=(jBF L bs).2.1∧y=((jBF L bs).2.2.1:Int)∧∃F',zU w' p (jBF L bs).2.2.2 F'∧Ext FP w0 w'∧∀b,F' b→FP b∨w0.heap.size≤b)):=by
 refine w_Z3 _ _ w0 (fun t x y w'=>t=(jBF L bs).1∧x=(jBF L bs).2.1∧y=((jBF L bs).2.2.1:Int)∧∃F',zU w' p (jBF L bs).2.2.2 F'∧Ext FP w0 w'∧∀b,F' b→FP b∨w0.heap.size≤b) ?_
 unfold m_Z3
 refine ⟨fun hc=>(by cases hc),fun _=>?_⟩
 refine (c_read sb bs w0 hs hz).mono ?_
 rintro _ w1 ⟨x,y,z,rfl,hy,hz',hout,E1⟩
 refine ⟨_,_,_,rfl,?_⟩
 cases hq:(vG bs).1 with
 | none =>
  have hd:jBF L bs=(0,(vG bs).2.1,(vG bs).2.2,L):=by unfold jBF;rw [hq]
  have he:y≠0:=by rw [hy];exact Sp.jGJ hq
  refine ⟨fun _=>?_,fun hc=>absurd (by simpa using hc) he⟩
  rw [hd]
  exact ⟨rfl,hy,hz',FP,hP.pure E1,Ext.pure E1,fun b hb=>.inl hb⟩
 | some q =>
  obtain ⟨a,F,rfl,hPq,hF⟩:=hout.pool hq
  obtain ⟨g1,_,g3,_⟩:=Sp.jCY hq
  have h0:=Sp.jIO hq
  have hd:jBF L bs=((qW L q q.length).1,(qW L q q.length).2.1,0,(qW L q q.length).2.2):=by unfold jBF;rw [hq]
  rw [h0] at hy
  refine ⟨fun hc=>absurd hy (by simpa using hc),fun _=>?_⟩
  refine (jDD a w1 hPq).mono ?_
  rintro _ w2 ⟨_,rfl,rfl,rfl⟩
  refine ⟨_,rfl,?_⟩
  refine (c_Copy p a q.length w2 hW g1 (hP.pure E1) hPq (fun b hb hh=>by have:=hP.lt hb;have:=hF b hh;omega)).mono ?_
  rintro _ w3 ⟨r1,r2,rfl,h1,h2,F',hP',E3,hF'⟩
  refine ⟨_,_,rfl,?_⟩
  rw [hd]
  exact ⟨h1,h2,rfl,F',hP',(Ext.pure E1).trans E3,fun b hb=>(hF' b hb).imp id (fun h=>by have:=E1.size;omega)⟩
end Go.Proofs
end
section
open Go Go.SE
namespace Go.Sp
open Go.Proofs
end Go.Sp
namespace Go.Proofs
open Tryz
attribute [local irreducible] Calls CallsD
theorem jPI {w:World} {s:Sl} {bs:List UInt8} {S:NP} (h:Lst S w 1 s (byr bs)):(convert 54 9 s.v).run prog w=.ok (.string ⟨bs.toArray⟩) w :=
 jPQ underlying54 underlying5 underlying9 h
end Go.Proofs
end
section
open Go Go.SE
namespace Go.Proofs
open Tryz
attribute [local irreducible] Calls CallsD
structure RfS (S:NP) (w:World) (a:Addr) (s:Sl) (bs:List UInt8) (r:Rd):Prop where
 box:Box w a [s.v,.int .i64 (r.at_:Int),.int .i64 (r.err:Int),.int .i64 (r.spot:Int)] 237
 lst:Lst S w 1 s (byr bs)
 apart:∀b,S b→b≠a.block
 small:bs.length≤100000000
 room:s.len≤s.cap
section
variable {S:NP} {w w':World} {a:Addr} {s:Sl} {bs:List UInt8} {r:Rd}
theorem RfS.ext {F:NP} (h:RfS S w a s bs r) (E:Ext F w w') (hF:∀b,(b=a.block∨S b)→¬ F b):RfS S w' a s bs r :=
 ⟨h.box.ext E (hF _ (.inl rfl)),h.lst.ext E (fun b hb=>hF b (.inr hb)),h.apart,h.small,h.room⟩
theorem RfS.pure (h:RfS S w a s bs r) (E:Pure w w'):RfS S w' a s bs r:=h.ext E (fun _ _ h=>h)
theorem RfS.atC (h:RfS S w a s bs r):w.cell? (a.add 1)=some (.int .i64 (r.at_:Int)):=h.box.cell (i:=1) rfl
theorem RfS.errC (h:RfS S w a s bs r):w.cell? (a.add 2)=some (.int .i64 (r.err:Int)):=h.box.cell (i:=2) rfl
theorem RfS.len (h:RfS S w a s bs r):s.len=bs.length:=by rw [h.lst.len,vN]
theorem RfS.setAt (h:RfS S w a s bs r) (k:Nat):RfS S (w.setCell (a.add 1) (.int .i64 (k:Int))) a s bs ⟨k,r.err,r.spot⟩ :=
 ⟨h.box.set 1 _,h.lst.ext (Ext.setCell _ _) (fun b hb e=>h.apart b hb (by rw [zQ] at e;exact e)),h.apart,h.small,h.room⟩
theorem RfS.setErr (h:RfS S w a s bs r) (k:Nat):RfS S (w.setCell (a.add 2) (.int .i64 (k:Int))) a s bs ⟨r.at_,k,r.spot⟩ :=
 ⟨h.box.set 2 _,h.lst.ext (Ext.setCell _ _) (fun b hb e=>h.apart b hb (by rw [zQ] at e;exact e)),h.apart,h.small,h.room⟩
theorem RfS.setSpot (h:RfS S w a s bs r) (k:Nat):RfS S (w.setCell (a.add 3) (.int .i64 (k:Int))) a s bs ⟨r.at_,r.err,k⟩ :=
 ⟨h.box.set 3 _,h.lst.ext (Ext.setCell _ _) (fun b hb e=>h.apart b hb (by rw [zQ] at e;exact e)),h.apart,h.small,h.room⟩
end
section
variable {S:NP} (a:Addr) (s:Sl) (bs:List UInt8) (r:Rd) (w0:World)
theorem jQZ (h:RfS S w0 a s bs r) (he:r.err=0) (e x:Nat) :
  Calls prog 242 #[.pointer (some a),.int .i64 e,.int .i64 x] w0 (fun en w'=>en=.returned (.tuple #[])∧(RfS S w' a s bs ⟨r.at_,e,x⟩∧Ext (·=a.block) w0 w')):=by
 refine w_C4 (some a) _ _ w0 (fun w'=>RfS S w' a s bs ⟨r.at_,e,x⟩∧Ext (·=a.block) w0 w') ?_
 unfold m_C4
 refine ⟨a,rfl,_,h.errC,fun _=>⟨a,rfl,h.box.canW (i:=2) (by simp),?_⟩,fun hc=>absurd (by rw [he];rfl) (beq_eq_false_iff_ne.1 hc)⟩
 rintro w1 rfl
 have h1:=h.setErr e
 refine ⟨a,rfl,h1.box.canW (i:=3) (by simp),?_⟩
 rintro w2 rfl
 exact ⟨h1.setSpot x,qG.trans qG⟩
theorem jVV (h:RfS S w0 a s bs r) (hat:r.at_≤bs.length) :
  Calls prog 168 #[.pointer (some a)] w0 (fun e w'=>∃x:Int,e=.returned (.int .i64 x)∧(x=((bs.length - r.at_:Nat):Int)∧Pure w0 w')):=by
 refine w_B4 (some a) w0 (fun x w'=>x=((bs.length - r.at_:Nat):Int)∧Pure w0 w') ?_
 unfold m_B4
 refine ⟨a,rfl,fun w1 hs=>?_⟩
 have E1:Pure w0 w1:=hs.first
 have h1:=h.pure E1
 refine ⟨s,h1.box.cell0,a,rfl,_,h1.atC,?_,E1⟩
 rw [h.len,IntWalk.i64_in _ (by have:=h.small;omega)];omega
theorem jVW (h:RfS S w0 a s bs r) (hat:r.at_<bs.length) (he:r.err=0) :
  Calls prog 217 #[.pointer (some a)] w0 (fun e w'=>∃x:Int,e=.returned (.int .u8 x)∧(x=(bs[r.at_].toNat:Int)∧RfS S w' a s bs ⟨r.at_+1,0,r.spot⟩∧Ext (·=a.block) w0 w')):=by
 refine w_D4 (some a) w0 (fun x w'=>x=(bs[r.at_].toNat:Int)∧RfS S w' a s bs ⟨r.at_+1,0,r.spot⟩∧Ext (·=a.block) w0 w') ?_
 unfold m_D4
 have hsm:=h.small
 refine ⟨a,rfl,_,h.errC,fun hc=>absurd (by rw [he];rfl) (bne_iff_ne.1 hc),fun _=>⟨a,rfl,fun w1 hs1=>?_⟩⟩
 have E1:Pure w0 w1:=hs1.first
 have h1:=h.pure E1
 refine ⟨_,h1.atC,a,rfl,s,h1.box.cell0,fun hc=>?_,fun _=>⟨a,rfl,_,h1.atC,a,rfl,h1.box.canW (i:=1) (by simp),id,?_⟩⟩
 ·have:=beq_iff_eq.1 hc;rw [h.len] at this;omega
 rintro w3 e3
 have hw:IntKind.i64.wrap ((r.at_:Int)+1)=((r.at_+1:Nat):Int):=vJ hat (by omega)
 rw [hw] at e3
 have h3:=h1.setAt (r.at_+1)
 rw [← e3] at h3
 have X3:Ext (·=a.block) w1 w3:=by rw [e3];exact qG
 refine ⟨a,rfl,fun w4 hs4=>?_⟩
 have E4:Pure w3 w4:=hs4.ext
 have h4:=h3.pure E4
 have hw2:IntKind.i64.wrap (((r.at_+1:Nat):Int) - 1)=(r.at_:Int):=by rw [IntWalk.i64_in _ (by omega)];omega
 obtain ⟨c,hc1,_,hc3⟩:=jKH h4.lst hat
 refine ⟨s,h4.box.cell0,a,rfl,_,h4.atC,c,by simp only;rw [hw2];exact hc1,_,hc3,rfl,?_,((Ext.pure E1).trans X3).thenPure E4⟩
 rw [he] at h4;exact h4
theorem jSE {P:Program} {t:TypeId} {w:World} (x k:Nat) (hk:k<64) (h:x*2 ^ k<18446744073709551616):(Go.binOp .shl t (.int .u64 (x:Int)) (.int .u64 (k:Int))).run P w=.ok (.int .u64 ((x*2 ^ k:Nat):Int)) w:=by
 have hr:IntKind.u64.wrap ((x:Int)*2 ^ min (k:Int).toNat IntKind.u64.bits)=((x*2 ^ k:Nat):Int):=by
  have:min (k:Int).toNat IntKind.u64.bits=k:=by simp [IntKind.bits];omega
  rw [this,← qH h];simp
 have h0:¬ ((k:Int)<0):=by omega
 show (Op.shift .shl .u64 (x:Int) .u64 (k:Int)).run P w=_;unfold Op.shift;rw [if_neg h0];show ((pure (Value.int .u64 (IntKind.u64.wrap ((x:Int)*2 ^ min (k:Int).toNat IntKind.u64.bits))):Sem Value)).run P w=_;rw [hr];rfl
theorem jSF {P:Program} {t:TypeId} {w:World} (c:Nat) (h:c<256):(Go.binOp .rem t (.int .u8 (c:Int)) (.int .u8 128)).run P w=.ok (.int .u8 ((c % 128:Nat):Int)) w:=by
 have e1:((c:Int).tmod 128)=((c % 128:Nat):Int):=by rw [Int.tmod_eq_emod_of_nonneg (by omega)];omega
 simp [Go.binOp,Op.intDiv,e1]
theorem jUD (h:RfS S w0 a s bs r) (hat:r.at_≤bs.length) (hS:∀b,(b=a.block∨S b)→b<w0.heap.size) :
  Calls prog 219 #[.pointer (some a)] w0 (fun e w'=>∃x:Int,e=.returned (.int .u64 x)∧(x=((vW bs r).1:Int)∧RfS S w' a s bs (vW bs r).2∧Ext (·=a.block) w0 w')):=by
 refine w_S1 (some a) w0 (fun x w'=>x=((vW bs r).1:Int)∧RfS S w' a s bs (vW bs r).2∧Ext (·=a.block) w0 w') ?_
 unfold m_S1
 have hsm:=h.small
 refine ⟨a,rfl,_,h.errC,fun hc=>?_,fun hc=>?_⟩
 ·have he:r.err≠0:=by have:=bne_iff_ne.1 hc;omega
  have hr:vW bs r=(0,r):=by unfold vW;rw [if_neg he]
  rw [hr];exact ⟨rfl,h,Ext.refl _⟩
 have he:r.err=0:=by
  have:((r.err:Int) != 0)=false:=hc;simpa using this
 have bad : ∀ (x : Nat) (H : NP) (w : World), (∀ b, (b = a.block ∨ S b) → ¬ H b) → RfS S w a s bs r → Ext (· = a.block) w0 w → uQ 0 0 (bs.drop r.at_) = .error x →
   Calls prog 242 #[.pointer (some a),.int .i64 x,.int .i64 (r.at_:Int)] w (fun e w'=>e=.returned (.tuple #[])∧Kept H w w'∧((0:Int)=((vW bs r).1:Int)∧RfS S w' a s bs (vW bs r).2∧Ext (·=a.block) w0 w')):=by
  intro x H w hv hR hE hrd
  have hr:vW bs r=(0,⟨r.at_,x,r.at_⟩):=by unfold vW;rw [if_pos he,hrd]
  refine (jQZ a s bs r w hR he x r.at_).mono ?_
  rintro _ w' ⟨rfl,hR',X⟩
  rw [hr]
  exact ⟨rfl,X.kept (fun b hb e=>hv _ (.inl rfl) (e▸hb)),rfl,hR',hE.trans X⟩
 refine ⟨fun n i Hl w=>∃acc k:Nat,n=(acc:Int)∧i=(k:Int)∧k≤9∧acc<2 ^ (7*k)∧r.at_+k≤bs.length∧uQ k acc (bs.drop (r.at_+k))=uQ 0 0 (bs.drop r.at_)∧RfS S w a s bs r∧(∀b,(b=a.block∨S b)→¬ Hl b)∧Pure w0 w,fun _ i _=>(10 - i).toNat,⟨0,0,rfl,rfl,by omega,by simp,by simpa using hat,rfl,h,fun _ _ h=>h,Ext.refl _⟩,?_⟩
 rintro _ _ Hl wl hl ⟨acc,k,rfl,rfl,hk,hacc,hle,hrd,hR,hv,hE⟩
 unfold m_S1_l1
 have hSl:∀{w:World},Pure w0 w→∀b,(b=a.block∨S b)→b<w.heap.size:=fun E b hb=>by have:=hS b hb;have:=E.size;omega
 refine ⟨a,rfl,fun w1 hs1=>?_⟩
 have R1:=hR.ext hs1.ext (hs1.disj (fun b hb=>⟨hSl hE b hb,hv b hb⟩))
 have E1:=hE.hst hs1
 have hwk:IntKind.i64.wrap ((r.at_:Int)+(k:Int))=((r.at_+k:Nat):Int):=by rw [IntWalk.i64_in _ (by omega)];omega
 refine ⟨_,R1.atC,a,rfl,s,R1.box.cell0,fun hc=>?_,fun hc=>?_⟩
 ·have hge:r.at_+k=bs.length:=by rw [hwk] at hc;have:=of_decide_eq_true hc;have:=R1.len;omega
  refine ⟨a,rfl,_,R1.atC,?_⟩
  exact bad 3 Hl w1 hv R1 (Ext.pure E1) (by rw [← hrd,hge,List.drop_length];rfl)
 ·have hlt:r.at_+k<bs.length:=by rw [hwk] at hc;have:=of_decide_eq_false hc;have:=R1.len;omega
  refine ⟨a,rfl,fun w3 hs3=>?_⟩
  have R3:=R1.ext hs3.ext (hs3.disj (fun b hb=>⟨hSl E1 b hb,hv b hb⟩))
  have E3:=E1.hst hs3
  obtain ⟨a7,hat7,_,hv7⟩:=jKH R3.lst hlt
  have hdrop:bs.drop (r.at_+k)=bs[r.at_+k] :: bs.drop (r.at_+k+1):=List.drop_eq_getElem_cons hlt
  refine ⟨s,R3.box.cell0,a,rfl,_,R3.atC,a7,by rw [hwk];exact hat7,_,hv7,?_⟩
  generalize bs[r.at_+k]=c at *
  have hc256:=c.toNat_lt
  rw [hdrop,tJ] at hrd
  have visH:∀{H H':NP} {w w':World},Pure w0 w→(∀b,(b=a.block∨S b)→¬ H b)→Hst w0 H w H' w'→∀b,(b=a.block∨S b)→¬ H' b:=fun E hv hs=>hs.disj (fun b hb=>⟨hSl E b hb,hv b hb⟩)
  refine ⟨fun hb=>⟨a,rfl,fun H1 w4 hs4=>?_⟩,fun hb H1 w4 hs4=>?_⟩
  ·have hv4:=visH E3 hv hs4
   have R4:=R3.ext hs4.ext hv4
   have hb':k=9∧1<c.toNat:=by simp at hb;omega
   rw [if_pos hb'] at hrd
   exact ⟨_,R4.atC,bad 11 H1 w4 hv4 R4 (Ext.pure (E3.hst hs4)) hrd.symm⟩
  ·have hv4:=visH E3 hv hs4
   have R4:=R3.ext hs4.ext hv4
   have E4:=E3.hst hs4
   have hb':¬ (k=9∧1<c.toNat):=by intro hh;simp at hb;omega
   rw [if_neg hb'] at hrd
   have hpw:c.toNat % 128*2 ^ (7*k)<18446744073709551616:=by
    by_cases h9:k=9
    ·subst h9;omega
    ·have h8:2 ^ (7*k)≤2 ^ 56:=Nat.pow_le_pow_right (by omega) (by omega);have h127:c.toNat % 128≤127:=by omega
     calc c.toNat % 128*2 ^ (7*k)≤127*2 ^ 56:=Nat.mul_le_mul h127 h8
      _<18446744073709551616:=by decide
   have hac:acc<18446744073709551616:=Nat.lt_of_lt_of_le hacc (by
    calc 2 ^ (7*k)≤2 ^ 63:=Nat.pow_le_pow_right (by omega) (by omega)
     _≤18446744073709551616:=by decide)
   have h7:IntKind.u64.wrap (IntKind.i64.wrap (7*(k:Int)))=((7*k:Nat):Int):=by
    rw [IntWalk.i64_in _ (by omega),show (7*(k:Int))=((7*k:Nat):Int) by omega,qH (by omega)]
   have h128:128 ^ k=2 ^ (7*k):=by rw [Nat.pow_mul]
   have hsum:acc ||| (c.toNat % 128*2 ^ (7*k))=acc+c.toNat % 128*2 ^ (7*k):=jTX hacc
   have hsl:acc+c.toNat % 128*2 ^ (7*k)<18446744073709551616:=by rw [← hsum];exact Nat.or_lt_two_pow (n:=64) hac hpw
   have hwn:IntKind.u64.wrap ((acc:Int)+((c.toNat % 128*2 ^ (7*k):Nat):Int))=((acc+c.toNat % 128*2 ^ (7*k):Nat):Int):=by
    rw [show ((acc:Int)+((c.toNat % 128*2 ^ (7*k):Nat):Int))=((acc+c.toNat % 128*2 ^ (7*k):Nat):Int) by omega,qH hsl]
   refine ⟨_,jSF c.toNat hc256,((c.toNat % 128*2 ^ (7*k):Nat):Int),by rw [h7,qH (by omega)];exact jSE _ _ (by omega) hpw,?_⟩
   rw [hwn]
   refine ⟨fun hs=>?_,fun hs=>⟨fun hz=>⟨a,rfl,fun H2 w6 hs6=>?_⟩,fun hz=>⟨a,rfl,fun H2 w6 hs6=>?_⟩⟩⟩
   ·have hs':¬ c.toNat<128:=by have:=of_decide_eq_true hs;omega
    rw [if_neg hs',h128] at hrd
    have hk9:k≠9:=by omega
    rw [vJ (n:=10) (by omega) (by omega)]
    refine ⟨⟨_,k+1,rfl,rfl,by omega,?_,by omega,hrd,R4,hv4,E4⟩,by show (10 - ((k+1:Nat):Int)).toNat<(10 - (k:Int)).toNat;omega⟩
    have:2 ^ (7*(k+1))=128*2 ^ (7*k):=by rw [Nat.mul_add,Nat.pow_add];omega
    rw [this]
    have h127:c.toNat % 128*2 ^ (7*k)≤127*2 ^ (7*k):=Nat.mul_le_mul_right _ (by omega)
    omega
   ·have hs':c.toNat<128:=by have:=of_decide_eq_false hs;omega
    rw [if_pos hs'] at hrd
    have hv6:=visH E4 hv4 hs6
    have R6:=R4.ext hs6.ext hv6
    have hz':c.toNat=0∧0<k:=by simp at hz;omega
    rw [if_pos hz'] at hrd
    exact ⟨_,R6.atC,bad 10 H2 w6 hv6 R6 (Ext.pure (E4.hst hs6)) hrd.symm⟩
   ·have hs':c.toNat<128:=by have:=of_decide_eq_false hs;omega
    rw [if_pos hs'] at hrd
    have hv6:=visH E4 hv4 hs6
    have R6:=R4.ext hs6.ext hv6
    have hz':¬ (c.toNat=0∧0<k):=by intro hh;simp at hz;omega
    rw [if_neg hz',h128] at hrd
    have hr:vW bs r=(acc+c.toNat*2 ^ (7*k),⟨r.at_+(k+1),0,r.spot⟩):=by unfold vW;rw [if_pos he,← hrd]
    rw [hr]
    have hwa:IntKind.i64.wrap (IntKind.i64.wrap ((r.at_:Int)+(k:Int))+1)=((r.at_+(k+1):Nat):Int):=by
     rw [hwk,IntWalk.i64_in _ (by omega)];omega
    refine ⟨_,R6.atC,a,rfl,R6.box.canW (i:=1) (by simp),by rw [zQ];exact hv6 _ (.inl rfl),?_⟩
    rintro w8 e8
    rw [hwa] at e8
    have R8:=R6.setAt (r.at_+(k+1))
    rw [← e8,he] at R8
    refine ⟨by rw [Nat.mod_eq_of_lt hs'],R8,?_⟩
    rw [e8]
    exact (Ext.pure (E4.hst hs6)).trans qG
theorem jVS (most:Nat) (hm:most<1000000) (h:RfS S w0 a s bs r) (hat:r.at_≤bs.length) (hS:∀b,(b=a.block∨S b)→b<w0.heap.size) :
  Calls prog 220 #[.pointer (some a),.int .i64 most] w0 (fun e w'=>∃x:ByteArray,e=.returned (.string x)∧(x=⟨(qB bs most r).1.toArray⟩∧RfS S w' a s bs (qB bs most r).2∧Ext (·=a.block) w0 w')):=by
 refine w_E4 (some a) _ w0 (fun x w'=>x=⟨(qB bs most r).1.toArray⟩∧RfS S w' a s bs (qB bs most r).2∧Ext (·=a.block) w0 w') ?_
 unfold m_E4
 have hsm:=h.small
 refine ⟨a,rfl,_,h.atC,?_⟩
 refine (jUD a s bs r w0 h hat hS).mono ?_
 rintro _ w1 ⟨_,rfl,rfl,hR1,X1⟩
 refine ⟨_,rfl,X1.kept (fun b hb=>hb.elim),a,rfl,_,hR1.errC,fun hc=>?_,fun hc=>?_⟩
 ·have he:(vW bs r).2.err≠0:=by have:=bne_iff_ne.1 hc;omega
  have hr:qB bs most r=([],(vW bs r).2):=by
   unfold qB vW at *;by_cases h0:r.err=0
   ·rw [if_pos h0] at he ⊢;rw [if_pos h0];cases hrd:uQ 0 0 (bs.drop r.at_) with
    | error x=>rfl
    | ok p=>rw [hrd] at he;exact absurd rfl he
   ·rw [if_neg h0,if_neg h0]
  rw [hr];exact ⟨rfl,hR1,X1⟩
 have he1:(vW bs r).2.err=0:=by
  have:(((vW bs r).2.err:Int) != 0)=false:=hc;simpa using this
 obtain ⟨he0,hdr,hn64⟩:=Sp.yS he1
 have hat1:=(jHG bs r hat)
 have hrt:qB bs most r=(if most<(vW bs r).1 then ([],⟨r.at_,1,r.at_⟩) else if bs.length<(vW bs r).2.at_+(vW bs r).1 then ([],⟨r.at_,3,r.at_⟩) else ((bs.drop (vW bs r).2.at_).take (vW bs r).1,⟨(vW bs r).2.at_+(vW bs r).1,0,r.spot⟩)):=by
  unfold qB vW at *;rw [if_pos he0] at he1 ⊢;rw [if_pos he0];cases hrd:uQ 0 0 (bs.drop r.at_) with
  | error x=>rw [hrd] at he1;simp only at he1;exfalso;exact Sp.jFD hrd he1
  | ok p=>rfl
 have hsp:(vW bs r).2.spot=r.spot:=by
  unfold vW at he1 ⊢;rw [if_pos he0] at he1 ⊢;cases hrd:uQ 0 0 (bs.drop r.at_) with
  | error x=>rw [hrd] at he1;simp only at he1;exfalso;exact Sp.jFD hrd he1
  | ok p=>rfl
 rw [hrt]
 generalize vW bs r=q at *
 obtain ⟨n,r1⟩:=q
 simp only at *
 have hS1:∀b,(b=a.block∨S b)→b<w1.heap.size:=fun b hb=>by have:=hS b hb;have:=X1.size;omega
 have bad : ∀ (e : Nat) (H : NP) (w w' : World), (∀ b, (b = a.block ∨ S b) → ¬ H b) → RfS S w a s bs r1 → Ext (· = a.block) w0 w → w' = w.setCell (a.add 1) (.int .i64 (r.at_ : Int)) →
   Calls prog 242 #[.pointer (some a),.int .i64 e,.int .i64 (r.at_:Int)] w' (fun en w2=>en=.returned (.tuple #[])∧Kept H w' w2∧(RfS S w2 a s bs ⟨r.at_,e,r.at_⟩∧Ext (·=a.block) w0 w2)):=by
  intro e H w w' hv hR hE e'
  have hR':=hR.setAt r.at_
  rw [← e'] at hR'
  refine (jQZ a s bs _ w' hR' he1 e r.at_).mono ?_
  rintro _ w2 ⟨rfl,hR2,X⟩
  refine ⟨rfl,X.kept (fun b hb e=>hv _ (.inl rfl) (e▸hb)),hR2,(hE.trans ?_).trans X⟩
  rw [e'];exact qG
 have hwm:IntKind.u64.wrap (most:Int)=(most:Int):=qH (by omega)
 refine ⟨fun hc=>⟨a,rfl,fun H1 w2 hs2=>?_⟩,fun hc=>⟨a,rfl,fun H1 w5 hs5=>?_⟩⟩
 ·have hc:most<n:=by rw [hwm] at hc;simp at hc;omega
  rw [if_pos hc]
  have hv:∀b,(b=a.block∨S b)→¬ H1 b:=hs2.disj (fun b hb=>⟨hS1 b hb,id⟩)
  have R2:=hR1.ext hs2.ext hv
  refine ⟨R2.box.canW (i:=1) (by simp),by rw [zQ];exact hv _ (.inl rfl),?_⟩
  rintro w3 e3
  refine (bad 1 H1 w2 w3 hv R2 (X1.hst hs2) e3).mono ?_
  rintro _ w4 ⟨rfl,hk,hR4,X4⟩
  exact ⟨rfl,hk,rfl,hR4,X4⟩
 ·have hc:¬ most<n:=by rw [hwm] at hc;simp at hc;omega
  rw [if_neg hc]
  have hv:∀b,(b=a.block∨S b)→¬ H1 b:=hs5.disj (fun b hb=>⟨hS1 b hb,id⟩)
  have R5:=hR1.ext hs5.ext hv
  have X5:=X1.hst hs5
  have hwl:IntKind.u64.wrap (IntKind.i64.wrap ((s.len:Int) - (r1.at_:Int)))=((bs.length - r1.at_:Nat):Int):=by
   rw [hR1.len,IntWalk.i64_in _ (by omega),show ((bs.length:Int) - (r1.at_:Int))=((bs.length - r1.at_:Nat):Int) by omega,qH (by omega)]
  refine ⟨s,R5.box.cell0,a,rfl,_,R5.atC,fun hc2=>⟨a,rfl,R5.box.canW (i:=1) (by simp),by rw [zQ];exact hv _ (.inl rfl),?_⟩,fun hc2=>⟨a,rfl,fun w8 hs8=>?_⟩⟩
  ·have hc2:bs.length<r1.at_+n:=by rw [hwl] at hc2;have:=of_decide_eq_true hc2;omega
   rw [if_pos hc2]
   rintro w6 e6
   refine (bad 3 H1 w5 w6 hv R5 X5 e6).mono ?_
   rintro _ w7 ⟨rfl,hk,hR7,X7⟩
   exact ⟨rfl,hk,rfl,hR7,X7⟩
  ·have hc2:¬ bs.length<r1.at_+n:=by rw [hwl] at hc2;have:=of_decide_eq_false hc2;omega
   rw [if_neg hc2]
   have hv8:∀b,(b=a.block∨S b)→¬ H1 b:=hv
   have R8:=R5.ext hs8.ext hv8
   have hwn:IntKind.i64.wrap (n:Int)=(n:Int):=IntWalk.i64_in _ (by omega)
   have hwa:IntKind.i64.wrap ((r1.at_:Int)+(n:Int))=((r1.at_+n:Nat):Int):=by rw [IntWalk.i64_in _ (by omega)];omega
   rw [hwn]
   obtain ⟨s1,hsl,hL1⟩:=R8.lst.sub (P:=prog) jAV R8.room (k:=.i64) (lo:=r1.at_) (n:=n) (by rw [vN];omega)
   have hbt:((byr bs).drop r1.at_).take n=byr ((bs.drop r1.at_).take n):=by simp [byr,List.map_take,List.map_drop]
   rw [hbt] at hL1
   refine ⟨s,R8.box.cell0,a,rfl,_,R8.atC,a,rfl,_,R8.atC,s1,by rw [hwa];exact hsl,_,jPI hL1,a,rfl,_,R8.atC,a,rfl,R8.box.canW (i:=1) (by simp),by rw [zQ];exact hv _ (.inl rfl),?_⟩
   rintro w9 e9
   rw [hwa] at e9
   have R9:=R8.setAt (r1.at_+n)
   rw [← e9,he1,hsp] at R9
   refine ⟨rfl,R9,?_⟩
   rw [e9]
   exact (X5.hst hs8).trans qG
theorem c_rNew {S0:NP} (sb:Sl) (bs:List UInt8) (w0:World) (hs:Lst S0 w0 1 sb (byr bs)) (hn:bs.length≤100000000) :
  Calls prog 167 #[sb.v] w0 (fun e w'=>∃x:Option Addr,e=.returned (.pointer x)∧∃a s',x=some a∧RfS s'.blk w' a s' bs ⟨0,0,0⟩∧Pure w0 w'∧w0.heap.size≤a.block∧(∀b,s'.blk b→w0.heap.size≤b∧b<w'.heap.size)):=by
 refine w_A4 _ w0 (fun x w'=>∃a s',x=some a∧RfS s'.blk w' a s' bs ⟨0,0,0⟩∧Pure w0 w'∧w0.heap.size≤a.block∧(∀b,s'.blk b→w0.heap.size≤b∧b<w'.heap.size)) ?_
 unfold m_A4
 intro p2 w1 n2
 have E1:Pure w0 w1:=Ext.new n2
 have R0:Rws w1 5 1 ⟨some p2,0,0⟩ []:=Rws.empty n2
 have bp2:=n2.at_size
 have z1:=E1.size
 obtain ⟨s1,w2,hr,hR,X2,hs1⟩:=R0.appendL (P:=prog) (ty:=54) jAV (hs.pure E1) (jDS bs) (jLX bs) (by rw [vN];simp;omega) (by rw [vN];simp only [maxLen,List.length_nil];omega)
 rw [List.nil_append] at hR
 have o2:∀b,(Sl.mk (some p2) 0 0).blk b→b=p2.block:=fun b hb=>by obtain ⟨a,ha,rfl⟩:=hb;cases ha;rfl
 have os1:∀b,s1.blk b→w0.heap.size≤b:=fun b hb=>(hs1 b hb).elim (fun h=>by have:=o2 b h;omega) (fun h=>by omega)
 have E2:Pure w0 w2:=E1.trans' X2 (fun i hi hb=>by have:=o2 i hb;omega)
 refine ⟨s1,w2,hr,?_⟩
 intro p3 w3 n3
 have E3:Pure w2 w3:=Ext.new n3
 have bp3:=n3.at_size
 have z2:=E2.size;have z3:=E3.size
 have hroom:s1.len≤s1.cap:=by
  rcases hR.own with ⟨rfl,_⟩ | ⟨g,cur,_,_,hc,_⟩
  ·exact Nat.le_refl _
  ·rw [hR.len];exact hc
 exact ⟨p3,s1,rfl,⟨Box.of_newA n3,hR.lst.pure E3,fun b hb e=>by have:=hR.lt hb;omega,hn,hroom⟩,E2.trans E3,by omega,fun b hb=>⟨os1 b hb,by have:=hR.lt hb;omega⟩⟩
end
def stp (bs:List UInt8) (c:Bool) (f:Fld) (s:Raw×Rd):Raw×Rd:=if c then (f.raw bs s.2 s.1,f.rd bs s.2) else s
theorem jNM (bs:List UInt8) (f:Fld) (s:Raw×Rd):stp bs false f s=s:=rfl
theorem jUU (bs:List UInt8) (u f t a b kd:Nat) (tx:List UInt8) (r:Rd):stp bs true .snd (⟨u,tx,f,t,a,b,kd⟩,r)=(⟨u,tx,f,t,a,(vW bs r).1,2⟩,(vW bs r).2):=rfl
theorem jUW (bs:List UInt8) (u f t a b kd:Nat) (tx:List UInt8) (r:Rd):stp bs true .fst (⟨u,tx,f,t,a,b,kd⟩,r)=(⟨u,tx,f,t,(vW bs r).1,b,1⟩,(vW bs r).2):=rfl
theorem jRV (bs:List UInt8) (u f t a b kd:Nat) (tx:List UInt8) (r:Rd):stp bs true .text (⟨u,tx,f,t,a,b,kd⟩,r)=(⟨u,(qB bs 64 r).1,f,t,a,b,kd⟩,(qB bs 64 r).2):=rfl
theorem jUV (bs:List UInt8) (u f t a b kd:Nat) (tx:List UInt8) (r:Rd):stp bs true .num (⟨u,tx,f,t,a,b,kd⟩,r)=(⟨(vW bs r).1,tx,f,t,a,b,kd⟩,(vW bs r).2):=rfl
theorem stp_to (bs:List UInt8) (u f t a b kd:Nat) (tx:List UInt8) (r:Rd):stp bs true .to_ (⟨u,tx,f,t,a,b,kd⟩,r)=(⟨u,tx,f,(vW bs r).1,a,b,kd⟩,(vW bs r).2):=rfl
theorem jRW (bs:List UInt8) (u f t a b kd:Nat) (tx:List UInt8) (r:Rd):stp bs true .from_ (⟨u,tx,f,t,a,b,kd⟩,r)=(⟨u,tx,(vW bs r).1,t,a,b,kd⟩,(vW bs r).2):=rfl
theorem jNT (bs:List UInt8) (k:Nat) (h1:1≤k) (h9:k≤9) (s:Raw×Rd):vE bs (qX (k:Int)) s =
  stp bs (s_A (k:Int) == 2) .snd (stp bs (decide (s_A (k:Int)≥1)) .fst (stp bs ((k:Int) == 3) .text (stp bs ((k:Int) == 2) .num (stp bs (((k:Int) == 8) || ((k:Int) == 9)) .to_ (stp bs (s_O (k:Int)) .from_ s))))):=by
 obtain ⟨x,r⟩:=s
 rw [uA]
 have:k=1∨k=2∨k=3∨k=4∨k=5∨k=6∨k=7∨k=8∨k=9:=by omega
 rcases this with e | e | e | e | e | e | e | e | e <;> subst e <;> simp [qX,stp,s_O,Sp.shapeOf,vE]
structure NdF (k:Nat) (x:Raw):Prop where
 frm:s_O (k:Int)=false→x.frm=0
 to:(((k:Int) == 8) || ((k:Int) == 9))=false→x.to=0
 kids:s_A (k:Int)=(x.kids:Int)
theorem jSL (bs:List UInt8) (k:Nat) (h1:1≤k) (h9:k≤9) (r:Rd):NdF k (vE bs (qX (k:Int)) (yA,r)).1:=by
 have:k=1∨k=2∨k=3∨k=4∨k=5∨k=6∨k=7∨k=8∨k=9:=by omega
 refine ⟨?_,?_,?_⟩
 ·rcases this with e | e | e | e | e | e | e | e | e <;> subst e <;> simp [qX,s_O,vE,Fld.raw,yA]
 ·rcases this with e | e | e | e | e | e | e | e | e <;> subst e <;> simp [qX,vE,Fld.raw,yA]
 ·rw [uA];rcases this with e | e | e | e | e | e | e | e | e <;> subst e <;> simp [qX,Sp.shapeOf,vE,Fld.raw,yA]
theorem uP (n:Nat):s_D (n:Int)=if 1073741824<n then 1073741824 else (n:Int):=by
 unfold s_D;by_cases h:1073741824<n
 ·rw [if_pos h,show decide ((n:Int)>1073741824)=true by simp;omega];rfl
 ·rw [if_neg h,show decide ((n:Int)>1073741824)=false by simp;omega];exact xH (by omega)
def jRR:List Value:=[.int .i64 0,.int .i64 0,.int .i64 0,.int .u64 0,.string ⟨#[]⟩,.int .i64 0,.int .i64 0]
structure NdAt (S:NP) (w0:World) (H:NP) (w:World) (p1 a:Addr) (s:Sl) (bs:List UInt8) (r:Rd):Prop where
 rd:RfS S w a s bs r
 box:Box w p1 jRR 103
 vis:∀b,(b=a.block∨S b∨b=p1.block)→¬ H b∧b<w.heap.size
 ext:Ext (·=a.block) w0 w
 at_:r.at_≤bs.length
 o1:w0.heap.size≤p1.block
 d1:p1.block≠a.block∧¬ S p1.block
section
variable {S:NP} {w0 w w':World} {H H':NP} {p1 a:Addr} {s:Sl} {bs:List UInt8} {r:Rd}
theorem NdAt.hst (h:NdAt S w0 H w p1 a s bs r) (hs:Hst w0 H w H' w'):NdAt S w0 H' w' p1 a s bs r:=by
 have d:∀b,(b=a.block∨S b∨b=p1.block)→¬ H' b:=hs.disj (fun b hb=>⟨(h.vis b hb).2,(h.vis b hb).1⟩);exact ⟨h.rd.ext hs.ext (fun b hb=>d b (hb.elim .inl (fun h=>.inr (.inl h)))),h.box.ext hs.ext (d _ (.inr (.inr rfl))),fun b hb=>⟨d b hb,by have:=(h.vis b hb).2;have:=hs.ext.size;omega⟩,h.ext.hst hs,h.at_,h.o1,h.d1⟩
theorem NdAt.hS (h:NdAt S w0 H w p1 a s bs r):∀b,(b=a.block∨S b)→b<w.heap.size:=fun b hb=>(h.vis b (hb.elim .inl (fun h=>.inr (.inl h)))).2
theorem NdAt.next {r':Rd} (h:NdAt S w0 H w p1 a s bs r) (hR:RfS S w' a s bs r') (E:Ext (·=a.block) w w') (hat:r'.at_≤bs.length):NdAt S w0 H w' p1 a s bs r'∧Kept H w w' :=
 ⟨⟨hR,h.box.ext E h.d1.1,fun b hb=>⟨(h.vis b hb).1,by have:=(h.vis b hb).2;have:=E.size;omega⟩,h.ext.trans E,hat,h.o1,h.d1⟩,E.kept (fun b hb e=>(h.vis _ (.inl rfl)).1 (e▸hb))⟩
theorem NdAt.num (h:NdAt S w0 H w p1 a s bs r) {R:Int→WP} (hR:∀w',NdAt S w0 H w' p1 a s bs (vW bs r).2→R ((vW bs r).1:Int) w') :
  Calls prog 219 #[.pointer (some a)] w (fun e w'=>∃x:Int,e=.returned (.int .u64 x)∧Kept H w w'∧R x w'):=by
 refine (jUD a s bs r w h.rd h.at_ h.hS).mono ?_
 rintro _ w' ⟨_,rfl,rfl,hR',E⟩
 obtain ⟨g1,g2⟩:=h.next hR' E (jHG bs r h.at_).2
 exact ⟨_,rfl,g2,hR w' g1⟩
def NdP (S:NP) (w0:World) (a:Addr) (s:Sl) (bs:List UInt8) (k i:Nat) (K:Int→Int→Int→Int→ByteArray→Int→Int→Int→WP) (fin:Raw×Rd):Prop :=
 ∀kd f t u tx va vb e w',e=((nodeErr k i fin.1 fin.2.err:Nat):Int)→(e=0→(⟨kd,f,t,u,tx,va,vb⟩:Sp.Node)=fin.1.node k)→RfS S w' a s bs fin.2→Ext (·=a.block) w0 w'→K kd f t u tx va vb e w'
variable (k i:Nat) (hk:1≤k∧k≤9) (hi:i≤100000) {K:Int→Int→Int→Int→ByteArray→Int→Int→Int→WP}
include hk hi
theorem c_nd6 (x:Raw) (h:NdAt S w0 H w p1 a s bs r) (hF:NdF k x) (hK:NdP S w0 a s bs k i K (x,r)) :
  m_F_j6 (some a) i p1 k k (s_D x.frm) (s_D x.to) x.num ⟨x.text.toArray⟩ 0 0 (s_D x.a) (s_D x.b) w0 H w K:=by
 unfold m_F_j6
 have hwk:IntKind.i64.wrap (k:Int)=(k:Int):=xH (by omega)
 rw [hwk]
 have fin : ∀ (c : List Value) (kd f t u : Int) (tx : ByteArray) (va vb : Int) (e : Nat) (H' : NP) (w1 w2 : World), NdAt S w0 H' w1 p1 a s bs r → w2 = storeRow w1 p1 [.int .i64 kd, .int .i64 f, .int .i64 t, .int .u64 u, .string tx, .int .i64 va, .int .i64 vb] → e = nodeErr k i x r.err → (e = 0 → (⟨kd, f, t, u, tx, va, vb⟩ : Sp.Node) = x.node k) →
   Row w2 p1 [.int .i64 kd,.int .i64 f,.int .i64 t,.int .u64 u,.string tx,.int .i64 va,.int .i64 vb]∧K kd f t u tx va vb e w2:=by
  intro c kd f t u tx va vb e H' w1 w2 h1 e2 he hn
  have X:Ext (·=p1.block) w1 w2:=by rw [e2];exact Ext.storeRow _ _ _
  have B:Box w2 p1 [.int .i64 kd,.int .i64 f,.int .i64 t,.int .u64 u,.string tx,.int .i64 va,.int .i64 vb] 103:=by rw [e2];exact h1.box.store rfl
  refine ⟨B.row,hK _ _ _ _ _ _ _ _ _ (by rw [he]) (fun h0=>hn (by omega)) (h1.rd.ext X (fun b hb e=>?_)) (h1.ext.trans' X (fun j hj e=>by have:=h1.o1;omega))⟩
  rcases hb with rfl | hb
  ·exact h1.d1.1 e.symm
  ·exact h1.d1.2 (e▸hb)
 have can:∀{H':NP} {w1:World},NdAt S w0 H' w1 p1 a s bs r→(∀j,j<7→zS w1 (p1.add j)):=fun h1 j hj=>h1.box.canW (by simpa [jRR] using hj)
 refine ⟨a,rfl,_,h.rd.errC,fun hc=>?_,fun hc=>?_⟩
 ·have he:r.err≠0:=by have:=bne_iff_ne.1 hc;omega
  have hne:nodeErr k i x r.err=r.err:=by unfold nodeErr;rw [if_pos he]
  refine ⟨fun w'=>RfS S w' a s bs r,h.rd.pure (Ext.drew w),?_⟩
  rintro w11 e11
  have h11:NdAt S w0 H w11 p1 a s bs r:=by
   have E:Pure w w11:=by rw [e11];exact Ext.drew w
   exact (h.next (h.rd.pure E) (Ext.pure E) h.at_).1
  refine ⟨a,rfl,_,fun w' hw'=>hw'.errC,can h11,(h11.vis _ (.inr (.inr rfl))).1,?_⟩
  rintro w12 e12
  obtain ⟨g1,g2⟩:=fin [] _ _ _ _ _ _ _ r.err H w11 w12 h11 e12 hne.symm (fun h0=>absurd h0 he)
  have X:Ext (·=p1.block) w11 w12:=by rw [e12];exact Ext.storeRow _ _ _
  refine ⟨h11.rd.ext X (fun b hb e=>?_),_,_,_,_,_,_,_,g1,g2⟩
  rcases hb with rfl | hb
  ·exact h11.d1.1 e.symm
  ·exact h11.d1.2 (e▸hb)
 have he:r.err=0:=by
  have:((r.err:Int) != 0)=false:=hc;simpa using this
 have hfr:=hF.frm
 have hto:=hF.to
 have hkd:=hF.kids
 have h89:(((k:Int) == 8) || ((k:Int) == 9))=decide (k=8∨k=9):=by
  rw [Bool.eq_iff_iff];simp;omega
 rintro y1 hy1
 have hy:y1=decide (16≤x.frm∨16≤x.to∨((k=8∨k=9)∧x.frm=x.to)):=by
  rw [hy1,uP,uP,h89];rw [h89] at hto;rw [Bool.eq_iff_iff];simp only [Bool.or_eq_true,Bool.and_eq_true,decide_eq_true_eq,beq_iff_eq];by_cases hn:s_O (k:Int)=true
  ·by_cases h8:k=8∨k=9
   ·simp only [hn,h8,true_and];split <;> split <;> omega
   ·have ht:=hto (by simp [h8]);simp only [hn,h8,ht,true_and,false_and,or_false];split <;> omega
  ·have hn':s_O (k:Int)=false:=by simpa using hn
   have hf:=hfr hn';have h8:¬ (k=8∨k=9):=by
    rintro (rfl | rfl) <;> exact absurd hn' (by decide)
   have ht:=hto (by simp [h8]);simp only [hn',h8,hf,ht,false_and,or_false];simp
 rw [hy]
 refine ⟨fun hc1=>?_,fun hc1=>?_⟩
 ·have hc1:=of_decide_eq_true hc1
  intro H9 w19 hs19
  have h19:=h.hst hs19
  refine ⟨can h19,(h19.vis _ (.inr (.inr rfl))).1,fun w26 e26=>?_⟩
  obtain ⟨g1,g2⟩:=fin [] _ _ _ _ _ _ _ 50 H9 w19 w26 h19 e26 (by unfold nodeErr;rw [if_neg (by omega),if_pos hc1]) (fun h0=>by cases h0)
  exact ⟨_,_,_,_,_,_,_,g1,g2⟩
 have hc1:=of_decide_eq_false hc1
 rintro y2 hy2
 have hy:y2=decide ((0<x.kids∧i≤x.a)∨(1<x.kids∧i≤x.b)):=by
  rw [hy2,uP,uP,hkd];have hle:x.kids≤2:=by
   rw [uA] at hkd;rcases Sp.yN (k:Int) with e | e | e <;> rw [e] at hkd <;> omega
  rw [Bool.eq_iff_iff];simp only [Bool.or_eq_true,Bool.and_eq_true,decide_eq_true_eq,beq_iff_eq];split <;> split <;> omega
 rw [hy]
 refine ⟨fun hc2=>?_,fun hc2=>?_⟩
 ·have hc2:=of_decide_eq_true hc2
  intro H17 w31 hs31
  have h31:=h.hst hs31
  refine ⟨can h31,(h31.vis _ (.inr (.inr rfl))).1,fun w36 e36=>?_⟩
  obtain ⟨g1,g2⟩:=fin [] _ _ _ _ _ _ _ 71 H17 w31 w36 h31 e36 (by unfold nodeErr;rw [if_neg (by omega),if_neg hc1,if_pos hc2]) (fun h0=>by cases h0)
  exact ⟨_,_,_,_,_,_,_,g1,g2⟩
 have hc2:=of_decide_eq_false hc2
 intro H21 w43 hs43
 have h43:=h.hst hs43
 refine ⟨can h43,(h43.vis _ (.inr (.inr rfl))).1,fun w45 e45=>?_⟩
 have hle:x.kids≤2:=by
  rw [uA] at hkd;rcases Sp.yN (k:Int) with e | e | e <;> rw [e] at hkd <;> omega
 have hnode:(⟨(k:Int),s_D x.frm,s_D x.to,x.num,⟨x.text.toArray⟩,cond (decide (s_A (k:Int)≥1)) (IntKind.i64.wrap (s_D x.a+1)) 0,cond ((s_A (k:Int):Int) == 2) (IntKind.i64.wrap (s_D x.b+1)) 0⟩:Sp.Node)=x.node k:=by
  have ef:s_D x.frm=x.frm:=by rw [uP,if_neg (by omega)]
  have et:s_D x.to=x.to:=by rw [uP,if_neg (by omega)]
  have ea:cond (decide (s_A (k:Int)≥1)) (IntKind.i64.wrap (s_D x.a+1)) 0=(if 0<x.kids then (x.a:Int)+1 else 0):=by
   rw [hkd];by_cases h0:0<x.kids
   ·rw [if_pos h0,decide_eq_true (by omega),uP,if_neg (by omega)];show IntKind.i64.wrap ((x.a:Int)+1)=_;rw [IntWalk.i64_in _ (by omega)]
   ·rw [if_neg h0,decide_eq_false (by omega)];rfl
  have eb:cond ((s_A (k:Int):Int) == 2) (IntKind.i64.wrap (s_D x.b+1)) 0=(if 1<x.kids then (x.b:Int)+1 else 0):=by
   rw [hkd];by_cases h0:1<x.kids
   ·rw [if_pos h0,show ((x.kids:Int) == 2)=true by simp;omega,uP,if_neg (by omega)];show IntKind.i64.wrap ((x.b:Int)+1)=_;rw [IntWalk.i64_in _ (by omega)]
   ·rw [if_neg h0,show ((x.kids:Int) == 2)=false by simp;omega];rfl
  rw [ef,et,ea,eb];rfl
 obtain ⟨g1,g2⟩:=fin [] _ _ _ _ _ _ _ 0 H21 w43 w45 h43 e45 (by unfold nodeErr;rw [if_neg (by omega),if_neg hc1,if_neg hc2]) (fun _=>hnode)
 exact ⟨_,_,_,_,_,_,_,g1,g2⟩
theorem c_nd5 (u f t av kd:Nat) (tx:List UInt8) (h:NdAt S w0 H w p1 a s bs r) (hF:NdF k (stp bs (s_A (k:Int) == 2) .snd (⟨u,tx,f,t,av,0,kd⟩,r)).1) (hK:NdP S w0 a s bs k i K (stp bs (s_A (k:Int) == 2) .snd (⟨u,tx,f,t,av,0,kd⟩,r))) :
  m_F_j5 (some a) i p1 k k (s_D f) (s_D t) u ⟨tx.toArray⟩ 0 0 (s_D av) w0 H w K:=by
 unfold m_F_j5
 have hwk:IntKind.i64.wrap (k:Int)=(k:Int):=xH (by omega)
 rw [hwk]
 refine ⟨fun hc w10 hs10=>?_,fun hc w10 hs10=>?_⟩
 ·rw [hc,jUU] at hF hK
  exact (h.hst hs10).num (fun w' h' w47 hs47=>c_nd6 k i hk hi ⟨u,tx,f,t,av,(vW bs r).1,2⟩ (h'.hst hs47) hF hK)
 ·rw [hc,jNM] at hF hK
  exact c_nd6 k i hk hi ⟨u,tx,f,t,av,0,kd⟩ (h.hst hs10) hF hK
theorem c_nd4 (u f t:Nat) (tx:List UInt8) (h:NdAt S w0 H w p1 a s bs r) (hF:NdF k (stp bs (s_A (k:Int) == 2) .snd (stp bs (decide (s_A (k:Int)≥1)) .fst (⟨u,tx,f,t,0,0,0⟩,r))).1) (hK:NdP S w0 a s bs k i K (stp bs (s_A (k:Int) == 2) .snd (stp bs (decide (s_A (k:Int)≥1)) .fst (⟨u,tx,f,t,0,0,0⟩,r)))) :
  m_F_j4 (some a) i p1 k k (s_D f) (s_D t) u ⟨tx.toArray⟩ 0 0 w0 H w K:=by
 unfold m_F_j4
 have hwk:IntKind.i64.wrap (k:Int)=(k:Int):=xH (by omega)
 rw [hwk]
 refine ⟨fun hc w9 hs9=>?_,fun hc w9 hs9=>?_⟩
 ·rw [hc,jUW] at hF hK
  exact (h.hst hs9).num (fun w' h' w49 hs49=>c_nd5 k i hk hi u f t (vW bs r).1 1 tx (h'.hst hs49) hF hK)
 ·rw [hc,jNM] at hF hK
  exact c_nd5 k i hk hi u f t 0 0 tx (h.hst hs9) hF hK
theorem c_nd3 (u f t:Nat) (h:NdAt S w0 H w p1 a s bs r) (hF:NdF k (stp bs (s_A (k:Int) == 2) .snd (stp bs (decide (s_A (k:Int)≥1)) .fst (stp bs ((k:Int) == 3) .text (⟨u,[],f,t,0,0,0⟩,r)))).1) (hK:NdP S w0 a s bs k i K (stp bs (s_A (k:Int) == 2) .snd (stp bs (decide (s_A (k:Int)≥1)) .fst (stp bs ((k:Int) == 3) .text (⟨u,[],f,t,0,0,0⟩,r))))) :
  m_F_j3 (some a) i p1 k k (s_D f) (s_D t) u ⟨#[]⟩ 0 0 w0 H w K:=by
 unfold m_F_j3
 have hwk:IntKind.i64.wrap (k:Int)=(k:Int):=xH (by omega)
 rw [hwk]
 refine ⟨fun hc=>?_,fun hc=>?_⟩
 ·rw [hc,jRV] at hF hK
  refine (jVS a s bs r w 64 (by omega) h.rd h.at_ h.hS).mono ?_
  rintro _ w' ⟨_,rfl,rfl,hR',E⟩
  obtain ⟨g1,g2⟩:=h.next hR' E (jMN bs 64 r h.at_).2
  exact ⟨_,rfl,g2,fun w51 hs51=>c_nd4 k i hk hi u f t (qB bs 64 r).1 (g1.hst hs51) hF hK⟩
 ·rw [hc,jNM] at hF hK
  exact c_nd4 k i hk hi u f t [] h hF hK
theorem c_nd2 (f t:Nat) (h:NdAt S w0 H w p1 a s bs r) (hF:NdF k (stp bs (s_A (k:Int) == 2) .snd (stp bs (decide (s_A (k:Int)≥1)) .fst (stp bs ((k:Int) == 3) .text (stp bs ((k:Int) == 2) .num (⟨0,[],f,t,0,0,0⟩,r))))).1) (hK:NdP S w0 a s bs k i K (stp bs (s_A (k:Int) == 2) .snd (stp bs (decide (s_A (k:Int)≥1)) .fst (stp bs ((k:Int) == 3) .text (stp bs ((k:Int) == 2) .num (⟨0,[],f,t,0,0,0⟩,r)))))) :
  m_F_j2 (some a) i p1 k k (s_D f) (s_D t) 0 ⟨#[]⟩ 0 0 w0 H w K:=by
 unfold m_F_j2
 have hwk:IntKind.i64.wrap (k:Int)=(k:Int):=xH (by omega)
 rw [hwk]
 refine ⟨fun hc=>?_,fun hc=>?_⟩
 ·rw [hc,jUV] at hF hK
  exact h.num (fun w' h' w53 hs53=>c_nd3 k i hk hi (vW bs r).1 f t (h'.hst hs53) hF hK)
 ·rw [hc,jNM] at hF hK
  exact c_nd3 k i hk hi 0 f t h hF hK
theorem c_nd1 (f:Nat) (h:NdAt S w0 H w p1 a s bs r) (hF:NdF k (stp bs (s_A (k:Int) == 2) .snd (stp bs (decide (s_A (k:Int)≥1)) .fst (stp bs ((k:Int) == 3) .text (stp bs ((k:Int) == 2) .num (stp bs (((k:Int) == 8) || ((k:Int) == 9)) .to_ (⟨0,[],f,0,0,0,0⟩,r)))))).1)
  (hK:NdP S w0 a s bs k i K (stp bs (s_A (k:Int) == 2) .snd (stp bs (decide (s_A (k:Int)≥1)) .fst (stp bs ((k:Int) == 3) .text (stp bs ((k:Int) == 2) .num (stp bs (((k:Int) == 8) || ((k:Int) == 9)) .to_ (⟨0,[],f,0,0,0,0⟩,r))))))) :
  m_F_j1 (some a) i p1 k k (s_D f) 0 0 ⟨#[]⟩ 0 0 w0 H w K:=by
 unfold m_F_j1
 have hwk:IntKind.i64.wrap (k:Int)=(k:Int):=xH (by omega)
 rw [hwk]
 refine ⟨fun hc H3 w8 hs8=>?_,fun hc H3 w8 hs8=>?_⟩
 ·rw [hc,stp_to] at hF hK
  exact (h.hst hs8).num (fun w' h' w56 hs56=>c_nd2 k i hk hi f (vW bs r).1 (h'.hst hs56) hF hK)
 ·rw [hc,jNM] at hF hK
  exact c_nd2 k i hk hi f 0 (h.hst hs8) hF hK
end
theorem jVU {S:NP} (a:Addr) (s:Sl) (bs:List UInt8) (r:Rd) (i:Nat) (w0:World) (h:RfS S w0 a s bs r) (hat:r.at_<bs.length) (he:r.err=0) (hS:∀b,(b=a.block∨S b)→b<w0.heap.size) (hi:i≤100000) :
  Calls prog 169 #[.pointer (some a),.int .i64 i] w0 (fun e w'=>∃kd f t u:Int,∃tx:ByteArray,∃va vb x:Int,e=.returned (.tuple #[.agg #[.int .i64 kd,.int .i64 f,.int .i64 t,.int .u64 u,.string tx,.int .i64 va,.int .i64 vb],.int .i64 x]) ∧
   (∃r':Rd,(if yO bs[r.at_].toNat=true then x=((nodeErr bs[r.at_].toNat i (vE bs (qX bs[r.at_].toNat) (yA,⟨r.at_+1,0,r.spot⟩)).1 (vE bs (qX bs[r.at_].toNat) (yA,⟨r.at_+1,0,r.spot⟩)).2.err:Nat):Int)∧(x=0→(⟨kd,f,t,u,tx,va,vb⟩:Sp.Node)=(vE bs (qX bs[r.at_].toNat) (yA,⟨r.at_+1,0,r.spot⟩)).1.node bs[r.at_].toNat)∧r'=(vE bs (qX bs[r.at_].toNat) (yA,⟨r.at_+1,0,r.spot⟩)).2 else x=70∧r'=⟨r.at_+1,0,r.spot⟩)∧RfS S w' a s bs r'∧Ext (·=a.block) w0 w')):=by
 generalize hkk:bs[r.at_].toNat=k
 have hk256:k<256:=by rw [← hkk];exact bs[r.at_].toNat_lt
 refine w_F _ _ w0 (fun kd f t u tx va vb x w'=>∃r':Rd,(if yO k=true then x=((nodeErr k i (vE bs (qX k) (yA,⟨r.at_+1,0,r.spot⟩)).1 (vE bs (qX k) (yA,⟨r.at_+1,0,r.spot⟩)).2.err:Nat):Int)∧(x=0→(⟨kd,f,t,u,tx,va,vb⟩:Sp.Node)=(vE bs (qX k) (yA,⟨r.at_+1,0,r.spot⟩)).1.node k)∧r'=(vE bs (qX k) (yA,⟨r.at_+1,0,r.spot⟩)).2 else x=70∧r'=⟨r.at_+1,0,r.spot⟩)∧RfS S w' a s bs r'∧Ext (·=a.block) w0 w') ?_
 unfold m_F
 intro p1 w1 n1
 have E1:Pure w0 w1:=Ext.new n1
 have B1:Box w1 p1 jRR 103:=Box.of_newA n1
 have b1:=n1.at_size
 have z1:=E1.size
 refine (jVW a s bs r w1 (h.pure E1) hat he).mono ?_
 rintro _ w2 ⟨_,rfl,rfl,hR2,X2⟩
 rw [hkk]
 have z2:=X2.size
 have dp:p1.block≠a.block∧¬ S p1.block:=⟨fun e=>by have:=hS _ (.inl e);omega,fun hh=>by have:=hS _ (.inr hh);omega⟩
 have N2:NdAt S w0 None w2 p1 a s bs ⟨r.at_+1,0,r.spot⟩:=⟨hR2,B1.ext X2 dp.1,fun b hb=>⟨id,by
  rcases hb with hb | hb | hb
  ·have:=hS b (.inl hb);omega
  ·have:=hS b (.inr hb);omega
  ·have:=B1.lt;omega⟩,(Ext.pure E1).trans X2,by simp only;omega,by omega,dp⟩
 have hwk:IntKind.i64.wrap (k:Int)=(k:Int):=xH (by omega)
 refine ⟨_,rfl,X2.kept (fun b hb=>hb.elim),?_⟩
 rw [hwk]
 have hkN:((decide ((k:Int)<1)) || (decide ((k:Int)>9)))=!yO k:=by
  rw [Bool.eq_iff_iff];unfold yO;simp;omega
 rw [hkN]
 refine ⟨fun hc=>?_,fun hc=>?_⟩
 ·have hc:¬ yO k=true:=by simpa using hc
  intro H2 w5 hs5
  have N5:=N2.hst hs5
  refine ⟨fun j hj=>N5.box.canW (by simpa [jRR] using hj),(N5.vis _ (.inr (.inr rfl))).1,?_⟩
  rintro w6 e6
  have X:Ext (·=p1.block) w5 w6:=by rw [e6];exact Ext.storeRow _ _ _
  have B:Box w6 p1 [.int .i64 (k:Int),.int .i64 0,.int .i64 0,.int .u64 0,.string ⟨#[]⟩,.int .i64 0,.int .i64 0] 103:=by rw [e6];exact N5.box.store rfl
  refine ⟨_,_,_,_,_,_,_,B.row,_,by rw [if_neg hc];exact ⟨rfl,rfl⟩,N5.rd.ext X (fun b hb e=>?_),N5.ext.trans' X (fun j hj e=>by omega)⟩
  rcases hb with rfl | hb
  ·exact dp.1 e.symm
  ·exact dp.2 (e▸hb)
 ·have hc:yO k=true:=by simpa using hc
  have hk19:1≤k∧k≤9:=by unfold yO at hc;simpa using hc
  have hF:=jSL bs k hk19.1 hk19.2 ⟨r.at_+1,0,r.spot⟩
  have hop:=jNT bs k hk19.1 hk19.2 (yA,⟨r.at_+1,0,r.spot⟩)
  have hP:NdP S w0 a s bs k i (fun kd f t u tx va vb x w'=>∃r':Rd,(if yO k=true then x=((nodeErr k i (vE bs (qX k) (yA,⟨r.at_+1,0,r.spot⟩)).1 (vE bs (qX k) (yA,⟨r.at_+1,0,r.spot⟩)).2.err:Nat):Int)∧(x=0→(⟨kd,f,t,u,tx,va,vb⟩:Sp.Node)=(vE bs (qX k) (yA,⟨r.at_+1,0,r.spot⟩)).1.node k)∧r'=(vE bs (qX k) (yA,⟨r.at_+1,0,r.spot⟩)).2 else x=70∧r'=⟨r.at_+1,0,r.spot⟩)∧RfS S w' a s bs r'∧Ext (·=a.block) w0 w') (vE bs (qX k) (yA,⟨r.at_+1,0,r.spot⟩)) :=
   fun kd f t u tx va vb e w' g1 g2 g3 g4=>⟨_,by rw [if_pos hc];exact ⟨g1,g2,rfl⟩,g3,g4⟩
  generalize (fun (kd f t u:Int) (tx:ByteArray) (va vb x:Int) (w':World)=>∃r':Rd,(if yO k=true then x=((nodeErr k i (vE bs (qX k) (yA,⟨r.at_+1,0,r.spot⟩)).1 (vE bs (qX k) (yA,⟨r.at_+1,0,r.spot⟩)).2.err:Nat):Int)∧(x=0→(⟨kd,f,t,u,tx,va,vb⟩:Sp.Node)=(vE bs (qX k) (yA,⟨r.at_+1,0,r.spot⟩)).1.node k)∧r'=(vE bs (qX k) (yA,⟨r.at_+1,0,r.spot⟩)).2 else x=70∧r'=⟨r.at_+1,0,r.spot⟩)∧RfS S w' a s bs r'∧Ext (·=a.block) w0 w')=K at *
  rw [hop,show yA=⟨0,[],0,0,0,0,0⟩ from rfl] at hF hP
  refine ⟨fun hn H2 w7 hs7=>?_,fun hn H2 w7 hs7=>?_⟩
  ·rw [hn,jRW] at hF hP
   exact (N2.hst hs7).num (fun w' h' w59 hs59=>c_nd1 k i hk19 hi (vW bs ⟨r.at_+1,0,r.spot⟩).1 (h'.hst hs59) hF hP)
  ·rw [hn,jNM] at hF hP
   exact c_nd1 k i hk19 hi 0 (N2.hst hs7) hF hP
end Go.Proofs
end
section
open Go Go.SE
namespace Go.Sp
open Go.Proofs
theorem jIY {L:Pool} (hW:Wf L) {n:Node} {i:Nat} (h:find L n=some i):make L n=((i:Int)+1,0,L):=by
 obtain ⟨hi,e⟩:=jCJ h;have hv:inP L ((i:Int)+1)=true:=vD.2 ⟨by omega,by omega⟩;have hn:nodeOf L ((i:Int)+1)=n:=by rw [qV hi,e]
 obtain ⟨_,c2,c3,_,c5,_⟩:=hW.node hv;rw [hn] at c2 c3 c5;have hR:Ren L L ((i:Int)+1) n:=by
  refine ⟨?_,?_,?_,?_,?_,fun k hk=>(c5 k hk).1,?_,c2,c3⟩ <;> rw [hn]
 exact hR.make_old hW hW hv hv rfl
theorem make_new {L:Pool} {n:Node} (h:find L n=none) (h0:(make L n).2.1=0):(make L n).2.2.length=L.length+1:=by
 have hc:=(jCC h0).2.2;unfold make at h0 ⊢;simp only [h] at h0 ⊢;rw [if_neg (by rw [hc];simp)] at h0 ⊢;split at h0
 ·simp at h0
 ·rename_i hf;rw [if_neg hf];simp
theorem jMU:∀(l:List Int) (i:Nat),i≤inRow i l∧inRow i l≤i+l.length:=by
 intro l;induction l with
 | nil=>intro i;simp [inRow]
 | cons s l ih =>
  intro i
  rw [inRow]
  split
  ·have:=ih (i+1);rw [List.length_cons];omega
  ·simp
theorem jOH:∀(l:List Int) (i j:Nat) (h:j<l.length),i+j≤inRow i l→l[j]=((i+j:Nat):Int)+1→i+j+1≤inRow i l:=by
 intro l;induction l with
 | nil=>intro i j h;simp at h
 | cons s l ih =>
  intro i j h h1 h2
  rw [inRow] at h1 ⊢
  cases j with
  | zero =>
   simp only [List.getElem_cons_zero,Nat.add_zero] at h2
   rw [if_pos h2]
   have:=(jMU l (i+1)).1;omega
  | succ j =>
   simp only [List.getElem_cons_succ] at h2
   split
   ·rename_i hs
    rw [if_pos hs] at h1
    have:=ih (i+1) j (by simpa using h) (by omega) (by rw [h2];congr 2;omega)
    omega
   ·rename_i hs;rw [if_neg hs] at h1;omega
end Go.Sp
namespace Go.Proofs
open Tryz
attribute [local irreducible] Calls CallsD
def jTT (w0 w':World) (bs:List UInt8) (x:Option Addr):Prop :=
 (∀q,(vG bs).1=some q→∃p F,x=some p∧qR w' p q F∧∀b,F b→w0.heap.size≤b)∧((vG bs).1=none→x=none)
def RrV (a:Addr) (S FR:NP) (pl:Sl) (b:Nat):Prop:=FR b∨b=a.block∨S b∨pl.blk b
structure RrAt (w0:World) (H:NP) (w:World) (q a:Addr) (s:Sl) (bs:List UInt8) (L:Sp.Pool) (r:Rd) (S FR:NP) (ps:List Nat) (pl:Sl):Prop where
 pool:qR w q L FR
 rd:RfS S w a s bs r
 rows:Rws w 3 1 pl (tmr (ps.map Int.ofNat))
 pure:Pure w0 w
 own:∀b,RrV a S FR pl b→w0.heap.size≤b∧¬ H b
 lt:∀b,(b=a.block∨S b)→b<w.heap.size
 dR:∀b,FR b→b≠a.block∧¬ S b∧¬ pl.blk b
 dp:∀b,pl.blk b→b≠a.block∧¬ S b
theorem RrAt.vlt {w0 w:World} {H:NP} {q a:Addr} {s:Sl} {bs:List UInt8} {L:Sp.Pool} {r:Rd} {S FR:NP} {ps:List Nat} {pl:Sl} (h:RrAt w0 H w q a s bs L r S FR ps pl):∀b,RrV a S FR pl b→b<w.heap.size:=by
 rintro b (hb | hb | hb | hb)
 ·exact h.pool.lt hb
 ·exact h.lt b (.inl hb)
 ·exact h.lt b (.inr hb)
 ·exact h.rows.lt hb
theorem RrAt.hst {w0 w w':World} {H H':NP} {q a:Addr} {s:Sl} {bs:List UInt8} {L:Sp.Pool} {r:Rd} {S FR:NP} {ps:List Nat} {pl:Sl} (h:RrAt w0 H w q a s bs L r S FR ps pl) (hs:Hst w0 H w H' w'):RrAt w0 H' w' q a s bs L r S FR ps pl:=by
 have d:∀b,RrV a S FR pl b→¬ H' b:=hs.disj (fun b hb=>⟨h.vlt b hb,(h.own b hb).2⟩);exact ⟨h.pool.ext hs.ext (fun b hb=>d b (.inl hb)),h.rd.ext hs.ext (fun b hb=>d b (hb.elim (fun h=>.inr (.inl h)) (fun h=>.inr (.inr (.inl h))))),h.rows.ext hs.ext (fun b hb=>d b (.inr (.inr (.inr hb)))),h.pure.hst hs,fun b hb=>⟨(h.own b hb).1,d b hb⟩,fun b hb=>by have:=h.lt b hb;have:=hs.ext.size;omega,h.dR,h.dp⟩
theorem RrAt.pureE {w0 w w':World} {H:NP} {q a:Addr} {s:Sl} {bs:List UInt8} {L:Sp.Pool} {r:Rd} {S FR:NP} {ps:List Nat} {pl:Sl} (h:RrAt w0 H w q a s bs L r S FR ps pl) (E:Pure w w'):RrAt w0 H w' q a s bs L r S FR ps pl :=
 ⟨h.pool.pure E,h.rd.pure E,h.rows.pure E,h.pure.trans E,h.own,fun b hb=>by have:=h.lt b hb;have:=E.size;omega,h.dR,h.dp⟩
theorem jVT {S0:NP} (sb:Sl) (bs:List UInt8) (w0:World) (hs:Lst S0 w0 1 sb (byr bs)) :
  Calls prog 123 #[sb.v] w0 (fun e w'=>∃x:Option Addr,∃y z:Int,e=.returned (.tuple #[.pointer x,.int .i64 y,.int .i64 z])∧(y=(vG bs).2.1∧z=((vG bs).2.2:Int)∧jTT w0 w' bs x∧Pure w0 w')):=by
 refine w_E1 sb w0 (fun x y z w'=>y=(vG bs).2.1∧z=((vG bs).2.2:Int)∧jTT w0 w' bs x∧Pure w0 w') ?_
 unfold m_E1
 have hl:sb.len=bs.length:=by rw [hs.len,vN]
 have bad:∀(e:Int) (n:Nat) (w':World),vG bs=(none,e,n)→Pure w0 w'→e=(vG bs).2.1∧(n:Int)=((vG bs).2.2:Int)∧jTT w0 w' bs none∧Pure w0 w':=fun e n w' h E=>by
  rw [h];exact ⟨rfl,rfl,⟨fun q hq=>(by rw [h] at hq;cases hq),fun _=>rfl⟩,E⟩
 refine (jFS w0).mono ?_
 rintro _ w1 ⟨_,rfl,q,FR0,rfl,hP,E1,hFR⟩
 refine ⟨_,rfl,E1.keptP,fun hc=>?_,fun hc=>?_⟩
 ·have hc:4096<bs.length:=by have:=of_decide_eq_true hc;omega
  exact bad 1 0 w1 (by unfold vG;rw [if_pos hc]) E1
 have hc:bs.length≤4096:=by have:=of_decide_eq_false hc;omega
 refine ⟨fun hc2=>?_,fun hc2=>?_⟩
 ·have hc2:bs.length=0:=by have:=beq_iff_eq.1 hc2;omega
  exact bad 3 0 w1 (by unfold vG;rw [if_neg (by omega),if_pos hc2]) E1
 have hc2:bs.length≠0:=by have:=beq_eq_false_iff_ne.1 hc2;omega
 have htxt:vG bs=jHU bs bs.length [] ⟨0,0,0⟩ []:=by unfold vG;rw [if_neg (by omega),if_neg hc2]
 refine (c_rNew sb bs w1 (hs.pure E1) (by omega)).mono ?_
 rintro _ w2 ⟨_,rfl,a,s,rfl,hR,E2,ha,hsb⟩
 refine ⟨_,rfl,E2.keptP,?_⟩
 have z1:=E1.size;have z2:=E2.size
 have la:a.block<w2.heap.size:=hR.box.lt
 have hnil:∀b,¬ Sl.nil.blk b:=fun b hb=>by obtain ⟨a,h,_⟩:=hb;cases h
 have R2:RrAt w0 None w2 q a s bs [] ⟨0,0,0⟩ s.blk FR0 [] Sl.nil :=
  ⟨hP.pure E2,hR,Rws.nil _ _ _,E1.trans E2,fun b hb=>⟨by
   rcases hb with hb | hb | hb | hb
   ·exact hFR b hb
   ·omega
   ·have:=hsb b hb;omega
   ·exact (hnil b hb).elim,id⟩,fun b hb=>hb.elim (fun h=>by omega) (fun h=>(hsb b h).2),fun b hb=>by have:=hP.lt hb;exact ⟨by omega,fun hh=>by have:=hsb b hh;omega,hnil b⟩,fun b hb=>(hnil b hb).elim⟩
 refine ⟨fun pl Hl w=>∃(L:Sp.Pool) (r:Rd) (ps:List Nat) (FR:NP) (n:Nat),RrAt w0 Hl w q a s bs L r s.blk FR ps pl∧Sp.Wf L∧ps.length=L.length∧ps.length≤r.at_∧r.at_≤bs.length∧r.err=0∧bs.length - r.at_≤n∧jHU bs n L r ps=vG bs,fun pl _=>bs.length+1 - pl.len,⟨[],⟨0,0,0⟩,[],FR0,bs.length,R2,Sp.Wf.nil,rfl,Nat.zero_le _,Nat.zero_le _,rfl,Nat.le_refl _,htxt.symm⟩,?_⟩
 rintro pl Hl wl hst ⟨L,r,ps,FR,n,hRe,hW,hps,hpr,hra,hre,hn,hgo⟩
 unfold m_E1_l1
 have hpl:pl.len=ps.length:=by rw [hRe.rows.len,yF,List.length_map]
 have hok:=hW.ok
 have hfew:=hok.few
 refine (jVV a s bs r wl hRe.rd hra).mono ?_
 rintro _ w3 ⟨_,rfl,rfl,E3⟩
 have R3:=hRe.pureE E3
 have poolLen:∀{w:World} {L:Sp.Pool} {F:NP},qR w q L F→∃v:Sl,w.cell? q=some v.v∧v.len=L.length:=fun h=>by
  obtain ⟨sa,sb,sc,h,_⟩:=h;exact ⟨sa,h.box.cell0,by rw [h.r1.len];simp⟩
 refine ⟨_,rfl,E3.keptP,fun hc3=>?_,fun hc3=>?_⟩
 ·have hlt:r.at_<bs.length:=by have:=of_decide_eq_true hc3;omega
  obtain ⟨n,rfl⟩:∃k,n=k+1:=⟨n - 1,by omega⟩
  rw [jHU,if_pos hlt] at hgo
  obtain ⟨v2,hv2,hv2l⟩:=poolLen R3.pool
  refine ⟨a,rfl,_,R3.rd.atC,q,rfl,v2,hv2,?_⟩
  rw [hv2l]
  refine (jVU a s bs r L.length w3 R3.rd hlt hre (fun b hb=>R3.lt b hb) (by omega)).mono ?_
  rintro _ w4 ⟨kd,f,t,u,tx,va,vb,x,rfl,r',hx,hR4,X4⟩
  have hstep:=jAE bs L r hlt hre
  generalize bs[r.at_].toNat=k at *
  have z3:=E3.size;have z4:=X4.size
  have R4:RrAt w0 Hl w4 q a s bs L r' s.blk FR ps pl:=⟨R3.pool.ext X4 (fun b hb e=>(hRe.dR b hb).1 e),hR4,R3.rows.ext X4 (fun b hb e=>(hRe.dp b hb).1 e),R3.pure.trans' X4 (fun i hi e=>by have:=(hRe.own i (.inr (.inl e))).1;omega),hRe.own,fun b hb=>by have:=R3.lt b hb;omega,hRe.dR,hRe.dp⟩
  refine ⟨_,_,_,_,_,_,_,_,rfl,X4.kept (fun b hb e=>(hRe.own _ (.inr (.inl rfl))).2 (e▸hb)),fun hc4=>?_,fun hc4=>⟨q,rfl,?_⟩⟩
  ·have hx0:x≠0:=bne_iff_ne.1 hc4
   have he:(vR bs L r).2.1=x:=by
    rw [hstep];split at hx
    ·rename_i hk;rw [if_pos hk];unfold jBK;rw [if_pos (by intro h0;apply hx0;rw [hx.1,h0];rfl)];exact hx.1.symm
    ·rename_i hk;rw [if_neg hk];exact hx.1.symm
   intro H1 w6 hs6
   rw [if_pos (by rw [he];exact hx0),he] at hgo
   exact bad _ _ w6 hgo.symm (R4.hst hs6).pure
  ·have hx0:x=0:=by simpa using hc4
   have hk:yO k=true:=by
    by_cases hk:yO k=true
    ·exact hk
    ·rw [if_neg hk] at hx;rw [hx.1] at hx0;cases hx0
   rw [if_pos hk] at hx
   obtain ⟨hx1,hx2',hx3⟩:=hx
   have hx2:=hx2' hx0
   clear hx2'
   rw [if_pos hk] at hstep
   generalize vE bs (qX k) (yA,⟨r.at_+1,0,r.spot⟩)=st at *
   obtain ⟨X,rX⟩:=st
   simp only at hx1 hx2 hx3
   subst hx3
   have hne:nodeErr k L.length X r'.err=0:=by omega
   have hin:jBK L k (X,r')=(if (Sp.find L (X.node k)).isSome=true then (L,72,r') else ((Sp.make L (X.node k)).2.2,(Sp.make L (X.node k)).2.1,r')):=by
    unfold jBK;simp only;rw [if_neg (by rw [hne];simp)]
   rw [hin,← hx2] at hstep
   intro H1 w6 hs6
   have R6:=R4.hst hs6
   obtain ⟨v3,hv3,hv3l⟩:=poolLen R6.pool
   refine ⟨v3,hv3,?_⟩
   refine (jDR q ⟨kd,f,t,u,tx,va,vb⟩ w6 R6.pool hok).mono ?_
   rintro _ w7 ⟨r5,r6,rfl,he56,FR',hP7,X7,hF7⟩
   have he6:=congrArg Prod.snd he56
   simp only at he6
   have hH1:∀b,H1 b→b<w6.heap.size:=fun b hb=>hs6.lt b hb
   have z6:=hs6.ext.size
   have z7:=X7.size
   have hpure7:Pure w0 w7:=R6.pure.trans' X7 (fun i hi hb=>by have:=(hRe.own i (.inl hb)).1;omega)
   refine ⟨r5,r6,rfl,X7.kept (fun b hb hh=>(R6.own b (.inl hh)).2 hb),fun hc5=>?_,fun hc5=>⟨q,rfl,?_⟩⟩
   ·have h60:(Sp.make L ⟨kd,f,t,u,tx,va,vb⟩).2.1≠0:=by rw [← he6];exact bne_iff_ne.1 hc5
    have hfn:¬ (Sp.find L ⟨kd,f,t,u,tx,va,vb⟩).isSome=true:=fun hs=>by
     obtain ⟨i,hi⟩:=Option.isSome_iff_exists.1 hs;rw [Sp.jIY hW hi] at h60;exact h60 rfl
    rw [if_neg hfn] at hstep
    rw [hstep] at hgo
    simp only at hgo
    rw [if_pos h60,← he6] at hgo
    exact bad _ _ w7 hgo.symm hpure7
   ·have h60:(Sp.make L ⟨kd,f,t,u,tx,va,vb⟩).2.1=0:=by rw [← he6];simpa using hc5
    obtain ⟨v4,hv4,hv4l⟩:=poolLen hP7
    refine ⟨v4,hv4,fun hc6=>?_,fun hc6=>?_⟩
    ·have hc6:(Sp.make L ⟨kd,f,t,u,tx,va,vb⟩).2.2.length=L.length:=by have:=beq_iff_eq.1 hc6;omega
     have hfs:(Sp.find L ⟨kd,f,t,u,tx,va,vb⟩).isSome=true:=by
      cases hf:Sp.find L ⟨kd,f,t,u,tx,va,vb⟩ with
      | some i=>rfl
      | none=>have:=Sp.make_new hf h60;omega
     rw [if_pos hfs] at hstep
     rw [hstep] at hgo
     simp only at hgo
     rw [if_pos (by decide)] at hgo
     exact bad 72 _ w7 hgo.symm hpure7
    ·have hc6:(Sp.make L ⟨kd,f,t,u,tx,va,vb⟩).2.2.length≠L.length:=by have:=beq_eq_false_iff_ne.1 hc6;omega
     have hfn:¬ (Sp.find L ⟨kd,f,t,u,tx,va,vb⟩).isSome=true:=fun hs=>by
      obtain ⟨i,hi⟩:=Option.isSome_iff_exists.1 hs;rw [Sp.jIY hW hi] at hc6;exact hc6 rfl
     have hlen7:(Sp.make L ⟨kd,f,t,u,tx,va,vb⟩).2.2.length=L.length+1:=Sp.make_new (by simpa using hfn) h60
     rw [if_neg hfn] at hstep
     have hat:=jFC bs L r hlt hre (by rw [hstep];exact h60)
     rw [hstep] at hgo hat
     simp only at hgo hat
     rw [if_neg (by simpa using h60)] at hgo
     have hW7:=Sp.jDA hW ⟨kd,f,t,u,tx,va,vb⟩
     generalize Sp.make L ⟨kd,f,t,u,tx,va,vb⟩=mk at *
     intro p2 w8 n8
     have E8:Pure w7 w8:=Ext.new n8
     have b8:=n8.at_size
     have z8:=E8.size
     have hdr:∀b,FR' b→b≠a.block∧¬ s.blk b∧¬ pl.blk b:=fun b hb=>(hF7 b hb).elim (hRe.dR b) (fun h=>⟨by have:=R6.lt a.block (.inl rfl);omega,fun hh=>by have:=R6.lt b (.inr hh);omega,fun hh=>by have:=R6.rows.lt hh;omega⟩)
     have Rw8:=(R6.rows.ext X7 (fun b hb hh=>(hRe.dR b hh).2.2 hb)).pure E8
     obtain ⟨s1,w9,hr9,hR9,X9,hb9⟩:=Rw8.append (P:=prog) (ty:=50) (c:=1) jCW (Box.of_newA n8).row rfl rfl (by rw [yF,List.length_map];omega) (by rw [yF,List.length_map];simp only [maxLen];omega)
     have hpo:∀b,pl.blk b→w0.heap.size≤b∧¬ H1 b:=fun b hb=>R6.own b (.inr (.inr (.inr hb)))
     have hpure9:Pure w0 w9:=(hpure7.trans E8).trans' X9 (fun i hi hb=>by have:=(hpo i hb).1;omega)
     have z9:=X9.size
     refine ⟨s1,w9,hr9,X9.kept (fun b hb hh=>(hpo b hh).2 hb),⟨mk.2.2,r',ps++[r.at_],FR',n,⟨(hP7.pure E8).ext X9 (fun b hb hh=>(hdr b hb).2.2 hh),((R6.rd.ext X7 (fun b hb hh=>?_)).pure E8).ext X9 (fun b hb hh=>?_),?_,hpure9,fun b hb=>?_,fun b hb=>by have:=R6.lt b hb;omega,fun b hb=>⟨(hdr b hb).1,(hdr b hb).2.1,fun hh=>?_⟩,fun b hb=>?_⟩,hW7,by rw [List.length_append,List.length_singleton];omega,by rw [List.length_append,List.length_singleton];omega,hat.2.1,hat.2.2,by omega,hgo⟩,?_⟩
     ·rcases hb with hb | hb
      ·exact (hRe.dR b hh).1 hb
      ·exact (hRe.dR b hh).2.1 hb
     ·rcases hb with hb | hb
      ·exact (hRe.dp b hh).1 hb
      ·exact (hRe.dp b hh).2 hb
     ·have:tmr ((ps++[r.at_]).map Int.ofNat)=tmr (ps.map Int.ofNat)++[[.int .i64 (r.at_:Int)]]:=by simp [tmr]
      rw [this];exact hR9
     ·rcases hb with hb | hb | hb | hb
      ·rcases hF7 b hb with h | h
       ·exact R6.own b (.inl h)
       ·exact ⟨by have:=R6.pure.size;omega,fun hh=>by have:=hH1 b hh;omega⟩
      ·exact R6.own b (.inr (.inl hb))
      ·exact R6.own b (.inr (.inr (.inl hb)))
      ·rcases hb9 b hb with h | h
       ·exact hpo b h
       ·exact ⟨by have:=R6.pure.size;omega,fun hh=>by have:=hH1 b hh;omega⟩
     ·rcases hb9 b hh with h | h
      ·exact (hdr b hb).2.2 h
      ·have:=hP7.lt hb;omega
     ·rcases hb9 b hb with h | h
      ·exact hRe.dp b h
      ·exact ⟨by have:=R6.lt a.block (.inl rfl);omega,fun hh=>by have:=R6.lt b (.inr hh);omega⟩
     ·have h1:s1.len=ps.length+1:=by rw [hR9.len,List.length_append,yF,List.length_map];rfl
      show bs.length+1 - s1.len<bs.length+1 - pl.len
      omega
 ·have hge:¬ r.at_<bs.length:=by have:=of_decide_eq_false hc3;omega
  rw [jHF hge] at hgo
  obtain ⟨v5,hv5,hv5l⟩:=poolLen R3.pool
  refine ⟨q,rfl,v5,hv5,?_⟩
  rw [hv5l]
  refine (jDQ q L.length w3 hW R3.pool).mono ?_
  rintro _ w10 ⟨r7,rfl,hr7⟩
  have R10:=R3.pureE hr7.pure
  refine ⟨r7,rfl,hr7.kept,?_⟩
  have hfew2:=Sp.tT hW L.length
  unfold jCZ at hgo
  simp only at hgo
  have hw3:∀b,Hl b→b<w3.heap.size:=fun b hb=>by have:=hst.lt b hb;have:=E3.size;omega
  have o7:∀b,r7.blk b→¬ Hl b∧b<w10.heap.size:=fun b hb=>⟨fun hh=>by have:=hw3 b hh;have:=hr7.own b hb;omega,hr7.rows.lt hb⟩
  generalize Sp.subs L L.length=xs at *
  have hrow:=(Sp.jMU xs 0).2
  refine ⟨fun i H w=>∃j:Nat,i=j∧j≤L.length∧j≤inRow 0 xs∧RrAt w0 H w q a s bs L r s.blk FR ps pl∧Rws w 23 1 r7 (tmr xs)∧(∀b,r7.blk b→¬ H b),fun i _=>((L.length:Int) - i).toNat,⟨0,rfl,Nat.zero_le _,Nat.zero_le _,R10,hr7.rows,fun b hb=>(o7 b hb).1⟩,?_⟩
  rintro _ H2 w2' hst2 ⟨j,rfl,hj,hjr,RL,hX,hv7⟩
  unfold m_E1_l2
  obtain ⟨v6,hv6,hv6l⟩:=poolLen RL.pool
  have h7l:r7.len=xs.length:=by rw [hX.len,yF]
  have tell:∀(h:j<ps.length) (w11:World),inRow 0 xs=j→Hst w0 H2 w2' H2 w11→∃a7:Addr,At pl j 1 a7∧∀(w11:World),Hst w0 H2 w2' H2 w11→∃v7:Int,w11.cell? a7=some (.int .i64 v7)∧(73=(vG bs).2.1∧v7=((vG bs).2.2:Int)∧jTT w0 w11 bs none∧Pure w0 w11):=by
   intro h w hi _;obtain ⟨a7,hat,_,hrw⟩:=jAB RL.rows.lst (j:=j) (by simpa using h);refine ⟨a7,hat,fun w11 hs11=>?_⟩;have R11:=RL.hst hs11;obtain ⟨a7',hat',_,hv'⟩:=jAB R11.rows.lst (j:=j) (by simpa using h);have:a7'=a7:=by
    obtain ⟨_,_,b1,hb1,rfl⟩:=hat;obtain ⟨_,_,b2,hb2,rfl⟩:=hat';rw [hb1] at hb2;cases hb2;rfl
   subst this;refine ⟨_,hv',?_⟩;rw [List.getElem_map];have hlt:inRow 0 xs<ps.length:=by omega
   rw [dif_pos hlt] at hgo;have he:ps[inRow 0 xs]=ps[j]:=by simp only [hi]
   rw [he] at hgo;exact bad 73 _ w11 hgo.symm R11.pure
  refine ⟨q,rfl,v6,hv6,fun hc=>?_,fun hc=>?_⟩
  ·have hlt:j<L.length:=by have:=of_decide_eq_true hc;omega
   refine ⟨fun hc7=>?_,fun hc7=>?_⟩
   ·have hge7:xs.length≤j:=by have:=of_decide_eq_true hc7;omega
    exact tell (by omega) w2' (by omega) hst2.here
   ·have hlt7:j<xs.length:=by have:=of_decide_eq_false hc7;omega
    obtain ⟨a8,hat8,_,hv8⟩:=jAB hX.lst hlt7
    refine ⟨a8,hat8,_,hv8,?_⟩
    rw [vJ hlt (by omega)]
    refine ⟨fun hc8=>?_,fun hc8=>?_⟩
    ·have hne:xs[j]≠((j+1:Nat):Int):=bne_iff_ne.1 hc8
     have hi:inRow 0 xs=j:=by
      rcases Nat.lt_or_ge j (inRow 0 xs) with h | h
      ·exfalso;have:=(Sp.jJG xs 0 (inRow 0 xs) (by omega)).2 j hlt7 h;apply hne;rw [this];omega
      ·omega
     exact tell (by omega) w2' hi hst2.here
    ·have heq:xs[j]=((j+1:Nat):Int):=by simpa using hc8
     exact ⟨⟨j+1,rfl,hlt,by have:=Sp.jOH xs 0 j hlt7 (by omega) (by rw [heq];omega);omega,RL,hX,hv7⟩,jDN hlt⟩
  ·have hge2:j=L.length:=by have:=of_decide_eq_false hc;omega
   have hlt:¬ inRow 0 xs<ps.length:=by omega
   rw [dif_neg hlt] at hgo
   rw [← hgo]
   exact ⟨rfl,rfl,⟨fun q' hq'=>by rw [← hgo] at hq';cases hq';exact ⟨q,FR,rfl,RL.pool,fun b hb=>(RL.own b (.inl hb)).1⟩,fun hn=>by rw [← hgo] at hn;cases hn⟩,RL.pure⟩
end Go.Proofs
end
section
open Go Go.SE
namespace Go.Sp
open Go.Proofs
theorem jOM {Lq:Pool} {x:Int}:∀(l:List Int) (L:Pool) (own:Int→Int),x ∉ l→(zY Lq l L own).2.2 x=own x:=by
 intro l;induction l with
 | nil=>intro L own _;rfl
 | cons z l ih =>
  intro L own h
  simp only [List.mem_cons,not_or] at h
  obtain ⟨y,e,L',hm⟩:∃y e L',make L { nodeOf Lq z with a:=own (nodeOf Lq z).a,b:=own (nodeOf Lq z).b }=(y,e,L'):=⟨_,_,_,rfl⟩
  rw [yP Lq z l L own rfl hm]
  split
  ·rfl
  ·rw [ih _ _ h.2,if_neg h.1]
end Go.Sp
namespace Go.Proofs
open Tryz
attribute [local irreducible] Calls CallsD
structure CrAt (w0:World) (H:NP) (w:World) (p q:Addr) (Lc Lq:Sp.Pool) (s1 r2:Sl) (A xs:List Int) (FP F' FQ:NP):Prop where
 pp:qR w p Lc F'
 pq:qR w q Lq FQ
 at_:Rws w 23 1 s1 (tmr A)
 subs:Rws w 23 1 r2 (tmr xs)
 ext:Ext FP w0 w
 own:∀b,(F' b∨FQ b∨s1.blk b∨r2.blk b)→¬ H b
 oF:∀b,F' b→FP b∨w0.heap.size≤b
 oS:∀b,(s1.blk b∨r2.blk b)→w0.heap.size≤b
 dis:∀b,F' b→¬ FQ b∧¬ s1.blk b∧¬ r2.blk b
 dS:∀b,s1.blk b→¬ FQ b∧¬ r2.blk b
section
variable {w0 w w':World} {H H':NP} {p q:Addr} {Lc Lq:Sp.Pool} {s1 r2:Sl} {A xs:List Int} {FP F' FQ:NP}
theorem CrAt.vlt (h:CrAt w0 H w p q Lc Lq s1 r2 A xs FP F' FQ):∀b,(F' b∨FQ b∨s1.blk b∨r2.blk b)→b<w.heap.size:=by
 rintro b (hb | hb | hb | hb)
 ·exact h.pp.lt hb
 ·exact h.pq.lt hb
 ·exact h.at_.lt hb
 ·exact h.subs.lt hb
theorem CrAt.hst (h:CrAt w0 H w p q Lc Lq s1 r2 A xs FP F' FQ) (hs:Hst w0 H w H' w'):CrAt w0 H' w' p q Lc Lq s1 r2 A xs FP F' FQ:=by
 have d:=hs.disj (fun b hb=>⟨h.vlt b hb,h.own b hb⟩);exact ⟨h.pp.ext hs.ext (fun b hb=>d b (.inl hb)),h.pq.ext hs.ext (fun b hb=>d b (.inr (.inl hb))),h.at_.ext hs.ext (fun b hb=>d b (.inr (.inr (.inl hb)))),h.subs.ext hs.ext (fun b hb=>d b (.inr (.inr (.inr hb)))),h.ext.hst hs,d,h.oF,h.oS,h.dis,h.dS⟩
end
theorem jKA (p q:Addr) (t:Int) (w0:World) {L Lq:Sp.Pool} {FP FQ:NP} (hW:Sp.Wf L) (hQ:Sp.Wf Lq) (hP:qR w0 p L FP) (hPQ:qR w0 q Lq FQ) (hd:∀b,FP b→¬ FQ b) :
  Calls prog 124 #[.pointer (some p),.pointer (some q),.int .i64 t] w0 (fun e w'=>∃r1 r2:Int,e=.returned (.tuple #[.int .i64 r1,.int .i64 r2])∧(r1=(qW L Lq t).1∧r2=(qW L Lq t).2.1∧∃F',qR w' p (qW L Lq t).2.2 F'∧Ext FP w0 w'∧∀b,F' b→FP b∨w0.heap.size≤b)):=by
 refine w_P _ _ _ w0 (fun r1 r2 w'=>r1=(qW L Lq t).1∧r2=(qW L Lq t).2.1∧∃F',qR w' p (qW L Lq t).2.2 F'∧Ext FP w0 w'∧∀b,F' b→FP b∨w0.heap.size≤b) ?_
 unfold m_P
 refine (uB q t w0 hPQ).mono ?_
 rintro _ w1 ⟨_,rfl,rfl,rfl⟩
 refine ⟨_,rfl,Kept.refl _,fun hc=>?_,fun hc=>?_⟩
 ·have hin:Sp.inP Lq t=false:=by simpa using hc
  have e:qW L Lq t=(0,51,L):=by unfold qW;rw [if_neg (by rw [hin];simp)]
  rw [e]
  exact ⟨rfl,rfl,FP,hP,Ext.refl _,fun b hb=>.inl hb⟩
 have hin:Sp.inP Lq t=true:=by simpa using hc
 refine (jDQ q t w1 hQ hPQ).mono ?_
 rintro _ w2 ⟨r2,rfl,hr2⟩
 have E2:=hr2.pure
 have z2:=E2.size
 have poolLen:∀{w:World} {a:Addr} {L:Sp.Pool} {F:NP},qR w a L F→∃v:Sl,w.cell? a=some v.v∧v.len=L.length:=fun h=>by
  obtain ⟨sa,sb,sc,h,_⟩:=h;exact ⟨sa,h.box.cell0,by rw [h.r1.len];simp⟩
 obtain ⟨v1,hv1,hv1l⟩:=poolLen (hPQ.pure E2)
 have hLq:=hQ.ok.few
 refine ⟨r2,rfl,E2.keptP,q,rfl,v1,hv1,?_⟩
 rw [hv1l,show IntKind.i64.wrap ((Lq.length:Int)+1)=((Lq.length+1:Nat):Int) by rw [i64 (by omega) (by omega)];omega]
 obtain ⟨w3, hmk, hR3, E3⟩ := Rws.make (P := prog) jPM (zr := [.int .i64 0]) (fun i z hi hz => by
   have h1:prog.info? 23=some t23:=by kernel_rfl
   rw [h1] at hi;cases hi;have h2:t23.zero=some (.int .i64 0):=by kernel_rfl
   rw [h2] at hz;cases hz;rfl) (k:=.i64) (k':=.i64) (n:=Lq.length+1) (by omega) (by simp only [maxLen];omega) w2
 refine ⟨_,w3,hmk,E3.keptP,?_⟩
 generalize hs1e:(Sl.mk (some ⟨w2.heap.size,0,none⟩) (Lq.length+1) (Lq.length+1))=s1 at *
 have hs1b:∀x,s1.blk x→x=w2.heap.size:=fun x hx=>by subst hs1e;obtain ⟨a,ha,rfl⟩:=hx;cases ha;rfl
 have hrep:List.replicate (Lq.length+1) [Value.int .i64 0]=tmr (List.replicate (Lq.length+1) 0):=by simp [tmr]
 rw [hrep] at hR3
 have z3:=E3.size
 have P3:=(hP.pure E2).pure E3
 obtain ⟨v2,hv2,hv2l⟩:=poolLen P3
 refine ⟨p,rfl,v2,hv2,?_⟩
 have hfew:=Sp.tT hQ t
 have hsub:∀u∈Sp.subs Lq t,Sp.inP Lq u=true:=fun u hu=>jKP hQ hu
 have hnd:=Sp.jCV hQ t
 have htin:t∈Sp.subs Lq t:=jGZ hQ hin
 generalize hcs:qW L Lq t=cs at *
 have hcs':cs=if (zY Lq (Sp.subs Lq t) L (fun _=>0)).2.1≠0 then (0,(zY Lq (Sp.subs Lq t) L (fun _=>0)).2.1,L) else ((zY Lq (Sp.subs Lq t) L (fun _=>0)).2.2 t,0,(zY Lq (Sp.subs Lq t) L (fun _=>0)).1):=by rw [← hcs];unfold qW;rw [if_pos hin]
 generalize Sp.subs Lq t=xs at *
 have h00:zY Lq (xs.take 0) L (fun _=>0)=(L,0,fun _=>0):=by rw [List.take_zero];rfl
 have C3:CrAt w1 None w3 p q L Lq s1 r2 (List.replicate (Lq.length+1) 0) xs FP FP FQ:=⟨P3,(hPQ.pure E2).pure E3,hR3,hr2.rows.pure E3,Ext.pure (E2.trans E3),fun _ _ h=>h,fun b hb=>.inl hb,fun b hb=>hb.elim (fun h=>by have:=hs1b b h;omega) (hr2.own b),fun b hb=>⟨hd b hb,fun hh=>by have:=hs1b b hh;have:=hP.lt hb;omega,fun hh=>by have:=hr2.own b hh;have:=hP.lt hb;omega⟩,fun b hb=>⟨fun hh=>by have:=hs1b b hb;have:=hPQ.lt hh;omega,fun hh=>by have:=hs1b b hb;have:=hr2.rows.lt hh;omega⟩⟩
 refine ⟨fun i H w=>∃(j:Nat) (A:List Int) (F':NP),i=j∧j≤xs.length∧(zY Lq (xs.take j) L (fun _=>0)).2.1=0∧A.length=Lq.length+1∧(∀x:Nat,x≤Lq.length→A[x]?=some ((zY Lq (xs.take j) L (fun _=>0)).2.2 (x:Int)))∧CrAt w1 H w p q (zY Lq (xs.take j) L (fun _=>0)).1 Lq s1 r2 A xs FP F' FQ,fun i _=>((xs.length:Int) - i).toNat,⟨0,List.replicate (Lq.length+1) 0,FP,rfl,Nat.zero_le _,by rw [h00],by rw [List.length_replicate],fun x hx=>by rw [h00,List.getElem?_replicate,if_pos (by omega)],by rw [h00];exact C3⟩,?_⟩
 rintro _ Hl wl hst ⟨j,A,F',rfl,hj,h0,hAl,hA,hC⟩
 unfold m_P_l1
 have hlen:r2.len=xs.length:=by rw [hC.subs.len,yF]
 refine ⟨fun hc=>?_,fun hc=>?_⟩
 ·have hc:=xL hlen hc
  have hzin:=hsub xs[j] (List.getElem_mem _)
  have hz:=Sp.vD.1 hzin
  have htk:xs.take (j+1)=xs.take j++[xs[j]]:=List.take_succ_eq_append_getElem hc
  have hsplit:xs=xs.take j++xs[j] :: xs.drop (j+1):=by rw [← List.drop_eq_getElem_cons hc,List.take_append_drop]
  obtain ⟨a4,hat4,_,hv4⟩:=jAB hC.subs.lst hc
  obtain ⟨v3,a5,hv3,hFq,hat5,hrow5,hF5⟩:∃(v3:Sl) (a5:Addr),wl.cell? q=some v3.v∧FQ q.block∧At v3 (IntKind.i64.wrap (xs[j] - 1)) 7 a5∧Row wl a5 (xR (Sp.nodeOf Lq xs[j]))∧FQ a5.block:=by
   obtain ⟨sa,sb,sc,h,hF⟩:=hC.pq;obtain ⟨e,he,⟨a,g1,g2⟩,_⟩:=h.at1 hzin hQ.ok;refine ⟨sa,a,h.box.cell0,(hF _).2 (.inl rfl),g1,?_,(hF _).2 (.inr (.inl (jND g1)))⟩;have:Sp.nodeOf Lq xs[j]=e.node:=by simp only [Sp.nodeOf,he,Option.map_some,Option.getD_some]
   rw [this];exact g2
  obtain ⟨_,c2,c3,_,c5,_⟩:=hQ.node hzin
  have kid:∀y:Int,(y=(Sp.nodeOf Lq xs[j]).a∨y=(Sp.nodeOf Lq xs[j]).b)→y=0∨(1≤y∧y≤Lq.length):=by
   intro y hy;rcases Sp.yN (Sp.nodeOf Lq xs[j]).kind with e | e | e
   ·have:=c2 (by omega);have:=c3 (by omega);left;rcases hy with h | h <;> omega
   ·have hb:=c3 (by omega);rcases hy with h | h
    ·right;have:=(c5 y (by unfold Sp.zK;rw [e,h];simp)).1;exact Sp.vD.1 this
    ·left;omega
   ·right;have:=(c5 y (by unfold Sp.zK;rw [e];rcases hy with h | h <;> simp [h])).1;exact Sp.vD.1 this
  have hz0:(zY Lq (xs.take j) L (fun _=>0)).2.2 0=0:=Sp.jOM _ _ _ (fun h=>by have:=Sp.vD.1 (hsub 0 (List.mem_of_mem_take h));omega)
  have hfail:=fun n=>@Sp.jFR Lq (xs.take j) (xs.drop (j+1)) xs[j] L (fun _=>0) h0 n
  have hnext:=fun n=>@Sp.jFQ Lq (xs.take j) xs[j] L (fun _=>0) h0 n
  have hgrow:=Sp.jDO Lq (xs.take j) L (fun _=>0)
  have hwc:=Sp.jJO (Lq:=Lq) (xs.take j) L (fun _=>0) hW
  rw [← htk] at hnext
  rw [← hsplit] at hfail
  generalize hnz:Sp.nodeOf Lq xs[j]=n at *
  generalize xs[j]=z at *
  generalize zY Lq (xs.take j) L (fun _=>0)=cg at *
  have rdA:∀(y:Int),1≤y→y≤Lq.length→∀{H:NP} {w:World} {F':NP},CrAt w1 H w p q cg.1 Lq s1 r2 A xs FP F' FQ→∃a9:Addr,At s1 y 1 a9∧s1.blk a9.block∧w.cell? a9=some (.int .i64 (cg.2.2 y)):=by
   intro y h1 h2 H w F' h;have hy:((y.toNat:Nat):Int)=y:=by omega
   have hlt:y.toNat<A.length:=by omega
   obtain ⟨a9,g1,_,g3⟩:=jAB h.at_.lst hlt;have hAy:=hA y.toNat (by omega);rw [List.getElem?_eq_getElem hlt,hy] at hAy;have hAy:=Option.some.inj hAy;rw [hy] at g1;exact ⟨a9,g1,jND g1,by rw [g3,hAy]⟩
  have kH:=hC.own
  refine ⟨q,rfl,v3,hv3,kH _ (.inr (.inl hFq)),a4,hat4,z,hv4,kH _ (.inr (.inr (.inr (jND hat4)))),a5,hat5,n.kind,n.frm,n.to,n.num,n.text,n.a,n.b,hrow5,kH _ (.inr (.inl hF5)),?_⟩
  have hnn:({ n with a:=cg.2.2 n.a,b:=cg.2.2 n.b }:Sp.Node)=⟨n.kind,n.frm,n.to,n.num,n.text,cg.2.2 n.a,cg.2.2 n.b⟩:=rfl
  have j3 : ∀ (va vb : Int) (H : NP) (w : World), va = cg.2.2 n.a → vb = cg.2.2 n.b → Hst w1 H w H w → CrAt w1 H w p q cg.1 Lq s1 r2 A xs FP F' FQ →
    m_P_j3 (some p) r2 s1 v2 j n.kind n.frm n.to n.num n.text va vb H w (fun y'0 H' w'=>(∃(j:Nat) (A:List Int) (F':NP),y'0=j∧j≤xs.length∧(zY Lq (xs.take j) L (fun _=>0)).2.1=0∧A.length=Lq.length+1∧(∀x:Nat,x≤Lq.length→A[x]?=some ((zY Lq (xs.take j) L (fun _=>0)).2.2 (x:Int)))∧CrAt w1 H' w' p q (zY Lq (xs.take j) L (fun _=>0)).1 Lq s1 r2 A xs FP F' FQ)∧((xs.length:Int) - y'0).toNat<((xs.length:Int) - (j:Int)).toNat) (fun r1 r2 w'=>r1=cs.1∧r2=cs.2.1∧∃F',qR w' p cs.2.2 F'∧Ext FP w1 w'∧∀b,F' b→FP b∨w1.heap.size≤b):=by
   rintro va vb H w rfl rfl hsw h
   unfold m_P_j3
   refine (jDR p ⟨n.kind,n.frm,n.to,n.num,n.text,cg.2.2 n.a,cg.2.2 n.b⟩ w h.pp hwc.ok).mono ?_
   rintro _ w10 ⟨r3,r4,rfl,he,F2,hP2,X10,hF2⟩
   have he1:=congrArg Prod.fst he
   have he2:=congrArg Prod.snd he
   simp only at he1 he2
   have hHlt:∀b,H b→b<w.heap.size:=fun b hb=>hsw.lt b hb
   have z10:=X10.size
   have zw:=h.ext.size
   have C10:CrAt w1 H w10 p q (Sp.make cg.1 ⟨n.kind,n.frm,n.to,n.num,n.text,cg.2.2 n.a,cg.2.2 n.b⟩).2.2 Lq s1 r2 A xs FP F2 FQ :=
    ⟨hP2,h.pq.ext X10 (fun b hb hh=>(h.dis b hh).1 hb),h.at_.ext X10 (fun b hb hh=>(h.dis b hh).2.1 hb),h.subs.ext X10 (fun b hb hh=>(h.dis b hh).2.2 hb),h.ext.trans' X10 (fun i hi hh=>(h.oF i hh).elim id (fun h=>by omega)),fun b hb=>by
     rcases hb with hb | hb
     ·exact (hF2 b hb).elim (fun h1=>h.own b (.inl h1)) (fun h1 hh=>by have:=hHlt b hh;omega)
     ·exact h.own b (.inr hb),fun b hb=>(hF2 b hb).elim (h.oF b) (fun h1=>.inr (by omega)),h.oS,fun b hb=>(hF2 b hb).elim (h.dis b) (fun h1=>⟨fun hh=>by have:=h.pq.lt hh;omega,fun hh=>by have:=h.at_.lt hh;omega,fun hh=>by have:=h.subs.lt hh;omega⟩),h.dS⟩
   refine ⟨r3,r4,rfl,X10.kept (fun b hb hh=>h.own b (.inl hh) hb),fun hc4=>?_,fun hc4=>?_⟩
   ·have h5:(Sp.make cg.1 ⟨n.kind,n.frm,n.to,n.num,n.text,cg.2.2 n.a,cg.2.2 n.b⟩).2.1≠0:=by rw [← he2];exact bne_iff_ne.1 hc4
    have hf:=hfail _ hnn h5
    rw [← he2] at hf
    have hcs2:cs=(0,r4,L):=by rw [hcs',hf,if_pos (by rw [he2];exact h5)]
    obtain ⟨Mg,hMg⟩:=hgrow
    obtain ⟨M2,hM2⟩:=Sp.jCD cg.1 ⟨n.kind,n.frm,n.to,n.num,n.text,cg.2.2 n.a,cg.2.2 n.b⟩
    rw [hM2,hMg,List.append_assoc] at hP2
    rw [hv2l]
    refine (jLR p L.length w10 hP2 (by rw [List.length_append];omega)).mono ?_
    rintro _ w11 ⟨rfl,hP3,X11⟩
    rw [List.take_left] at hP3
    refine ⟨rfl,X11.kept (fun b hb hh=>C10.own b (.inl hh) hb),?_⟩
    rw [hcs2]
    exact ⟨rfl,rfl,F2,hP3,C10.ext.trans' X11 (fun i hi hh=>(C10.oF i hh).elim id (fun h=>by omega)),C10.oF⟩
   ·have h5:(Sp.make cg.1 ⟨n.kind,n.frm,n.to,n.num,n.text,cg.2.2 n.a,cg.2.2 n.b⟩).2.1=0:=by rw [← he2];simpa using hc4
    have hn:=hnext _ hnn h5
    rw [← he1] at hn
    obtain ⟨a6,hat6,_,hv6⟩:=jAB C10.subs.lst hc
    have hv6':w10.cell? a6=some (.int .i64 z):=by
     have:a6=a4:=by
      obtain ⟨_,_,b1,hb1,rfl⟩:=hat6;obtain ⟨_,_,b2,hb2,rfl⟩:=hat4;rw [hb1] at hb2;cases hb2;rfl
     subst this;obtain ⟨a6',hat6',_,hv6''⟩:=jAB hC.subs.lst hc;have:a6'=a6:=by
      obtain ⟨_,_,b1,hb1,rfl⟩:=hat6';obtain ⟨_,_,b2,hb2,rfl⟩:=hat6;rw [hb1] at hb2;cases hb2;rfl
     subst this;rw [hv4] at hv6'';rw [hv6];exact hv6''.symm
    obtain ⟨a7,hat7,hb7,hw7,hset⟩:=jUT C10.at_ (k:=z) (j:=z.toNat) (by omega) (by omega)
    refine ⟨a6,hat6,z,hv6',a7,hat7,hw7,C10.own _ (.inr (.inr (.inl hb7))),?_⟩
    rintro w12 e12
    obtain ⟨hA12,X12⟩:=hset r3
    rw [← e12] at hA12 X12
    refine ⟨⟨j+1,A.set z.toNat r3,F2,vJ hc (by omega),hc,by rw [hn],by rw [List.length_set];exact hAl,fun x hx=>?_,?_⟩,by rw [vJ hc (by omega)];exact jDN hc⟩
    ·rw [hn]
     simp only
     by_cases e:(x:Int)=z
     ·rw [if_pos e,show z.toNat=x by omega,List.getElem?_set_self (by omega)]
     ·rw [if_neg e,List.getElem?_set_ne (by omega)];exact hA x hx
    ·rw [hn]
     exact ⟨C10.pp.ext X12 (fun b hb hh=>(C10.dis b hb).2.1 hh),C10.pq.ext X12 (fun b hb hh=>(C10.dS b hh).1 hb),hA12,C10.subs.ext X12 (fun b hb hh=>(C10.dS b hh).2 hb),C10.ext.trans' X12 (fun i hi hh=>by have:=C10.oS i (.inl hh);omega),C10.own,C10.oF,C10.oS,C10.dis,C10.dS⟩
  have j2 : ∀ (va : Int) (H : NP) (w : World), va = cg.2.2 n.a → Hst w1 H w H w → CrAt w1 H w p q cg.1 Lq s1 r2 A xs FP F' FQ →
    m_P_j2 (some p) r2 s1 v2 j n.kind n.frm n.to n.num n.text va n.b w1 H w (fun y'0 H' w'=>(∃(j:Nat) (A:List Int) (F':NP),y'0=j∧j≤xs.length∧(zY Lq (xs.take j) L (fun _=>0)).2.1=0∧A.length=Lq.length+1∧(∀x:Nat,x≤Lq.length→A[x]?=some ((zY Lq (xs.take j) L (fun _=>0)).2.2 (x:Int)))∧CrAt w1 H' w' p q (zY Lq (xs.take j) L (fun _=>0)).1 Lq s1 r2 A xs FP F' FQ)∧((xs.length:Int) - y'0).toNat<((xs.length:Int) - (j:Int)).toNat) (fun r1 r2 w'=>r1=cs.1∧r2=cs.2.1∧∃F',qR w' p cs.2.2 F'∧Ext FP w1 w'∧∀b,F' b→FP b∨w1.heap.size≤b):=by
   rintro va H w hva hsw h
   unfold m_P_j2
   refine ⟨fun hc=>?_,fun hc=>?_⟩
   ·have hb:=(kid n.b (.inr rfl)).resolve_left (fun e=>by have:=of_decide_eq_true hc;omega)
    obtain ⟨a8,g1,g2,g3⟩:=rdA n.b hb.1 hb.2 h
    exact ⟨a8,g1,_,g3,fun w13 hs13=>j3 va _ H w13 hva rfl hs13.here (h.hst hs13)⟩
   ·have hb:n.b=0:=(kid n.b (.inr rfl)).resolve_right (fun e=>by have:=of_decide_eq_false hc;omega)
    exact j3 va n.b H w hva (by rw [hb,hz0]) hsw h
  refine ⟨fun hc2=>?_,fun hc2=>?_⟩
  ·have ha:=(kid n.a (.inl rfl)).resolve_left (fun e=>by have:=of_decide_eq_true hc2;omega)
   obtain ⟨a9,g1,g2,g3⟩:=rdA n.a ha.1 ha.2 hC
   refine ⟨a9,g1,fun H2 w7 hs7=>?_⟩
   have h7:=hC.hst hs7
   obtain ⟨a9',g1',_,g3'⟩:=rdA n.a ha.1 ha.2 h7
   have:a9'=a9:=by
    obtain ⟨_,_,b1,hb1,rfl⟩:=g1';obtain ⟨_,_,b2,hb2,rfl⟩:=g1;rw [hb1] at hb2;cases hb2;rfl
   subst this
   exact ⟨_,g3',fun w14 hs14=>j2 _ H2 w14 rfl hs14.here (h7.hst hs14)⟩
  ·have ha:n.a=0:=(kid n.a (.inl rfl)).resolve_right (fun e=>by have:=of_decide_eq_false hc2;omega)
   exact fun H2 w7 hs7=>j2 n.a H2 w7 (by rw [ha,hz0]) hs7.here (hC.hst hs7)
 ·have hc:=tM hlen hj hc
  subst hc
  rw [List.take_length] at h0 hA hC
  have ht:=Sp.vD.1 hin
  have hlt:t.toNat<A.length:=by omega
  obtain ⟨a10,g1,_,g3⟩:=jAB hC.at_.lst hlt
  have hAt:=hA t.toNat (by omega)
  rw [List.getElem?_eq_getElem hlt] at hAt
  have ht2:((t.toNat:Nat):Int)=t:=by omega
  rw [ht2] at hAt g1
  have hAt:=Option.some.inj hAt
  refine ⟨a10,g1,_,g3,?_⟩
  rw [hcs',if_neg (by rw [h0];exact fun h=>h rfl)]
  exact ⟨hAt,rfl,F',hC.pp,hC.ext,hC.oF⟩
end Go.Proofs
end
section
namespace Go.Sp
end Go.Sp
end
section
open Go Go.SE
namespace Go.Sp
end Go.Sp
namespace Go.Proofs
attribute [local irreducible] Calls
structure Pl2 (w0:World) (H:NP) (w:World) (p q:Addr) (L1 L2:Sp.Pool) (F1 F2:NP):Prop where
 pure:Pure w0 w
 pool:zU w p L1 F1
 ref:qR w q L2 F2
 o1:∀b,F1 b→w0.heap.size≤b∧¬ H b∧¬ F2 b
 o2:∀b,F2 b→w0.heap.size≤b∧¬ H b
section
variable {w0 w w':World} {H H':NP} {p q:Addr} {L1 L2:Sp.Pool} {F1 F2:NP}
theorem Pl2.pureE (h:Pl2 w0 H w p q L1 L2 F1 F2) (E:Pure w w'):Pl2 w0 H w' p q L1 L2 F1 F2:=⟨h.pure.trans E,h.pool.pure E,h.ref.pure E,h.o1,h.o2⟩
theorem Pl2.first (h:Pl2 w H w' p q L1 L2 F1 F2) (E:Pure w0 w):Pl2 w0 H w' p q L1 L2 F1 F2 :=
 ⟨E.trans h.pure,h.pool,h.ref,fun b hb=>⟨Nat.le_trans E.size (h.o1 b hb).1,(h.o1 b hb).2⟩,fun b hb=>⟨Nat.le_trans E.size (h.o2 b hb).1,(h.o2 b hb).2⟩⟩
theorem Pl2.hst (h:Pl2 w0 H w p q L1 L2 F1 F2) (hs:Hst w0 H w H' w'):Pl2 w0 H' w' p q L1 L2 F1 F2:=by
 have d:∀b,b<w.heap.size→¬ H b→¬ H' b:=fun b h1 h2=>hs.disj (G:=(·=b)) (fun c e=>by subst e;exact ⟨h1,h2⟩) b rfl;have d1:∀b,F1 b→¬ H' b:=fun b hb=>d b (h.pool.lt hb) (h.o1 b hb).2.1;have d2:∀b,F2 b→¬ H' b:=fun b hb=>d b (h.ref.lt hb) (h.o2 b hb).2;exact ⟨h.pure.hst hs,h.pool.ext hs.ext d1,h.ref.ext hs.ext d2,fun b hb=>⟨(h.o1 b hb).1,d1 b hb,(h.o1 b hb).2.2⟩,fun b hb=>⟨(h.o2 b hb).1,d2 b hb⟩⟩
end
end Go.Proofs
end
section
open Go Go.SE
namespace Go.Sp
open Go.Proofs
end Go.Sp
namespace Go.Proofs
attribute [local irreducible] Calls CallsD
end Go.Proofs
end
section
open Go Go.SE
namespace Go.Proofs
open Tryz
attribute [local irreducible] Calls
theorem jJX (p:Addr) {L:Sp.Pool} (hW:Sp.Wf L):∀(n:Nat) (t:Int) (w0:World) (F:NP),t.toNat=n→qR w0 p L F →
  Calls prog 20 #[.pointer (some p),.int .i64 t] w0 (RetT w0.heap.size w0 (Sp.zI L t)):=by
 intro n
 induction n using Nat.strongRecOn with
 | _ n ih =>
 intro t w0 F hn hP
 suffices key:∀K:Int→Int→Int→Int→ByteArray→Sl→WP,(∀k f t' u x s' w' ks,Sp.zI L t=.mk k f t' u x ks→TreeAt (w0.heap.size≤·) w' s' (.mk k f t' u x ks)→Pure w0 w'→K k f t' u x s' w')→m_C1 (some p) t w0 K by
  refine (w_C1 _ _ w0 (fun k f t' u x s' w'=>∃ks,Sp.zI L t=.mk k f t' u x ks∧TreeAt (w0.heap.size≤·) w' s' (.mk k f t' u x ks)∧Pure w0 w') (key _ (fun k f t' u x s' w' ks h1 h2 h3=>⟨ks,h1,h2,h3⟩))).mono ?_;rintro _ w' ⟨k,f,t',u,x,s',rfl,ks,h1,h2,h3⟩;rw [h1];exact ⟨s',rfl,h2,h3⟩
 intro K hK
 have hok:=hW.ok
 have hnil:∀b,¬ Sl.nil.blk b:=fun b hb=>by obtain ⟨a,h,_⟩:=hb;cases h
 unfold m_C1
 intro H1 w1 hs1
 have E1:=hs1.first
 refine (jJZ p t w1 (hP.pure E1) hok).mono ?_
 rintro _ w2 ⟨k,f,t',u,x,a,b,r,rfl,⟨hnd,hr⟩,E2⟩
 have E02:=E1.trans E2
 have hs2:=hs1.again E2.keptP
 refine ⟨_,_,_,_,_,_,_,_,rfl,E2.keptP,fun h=>?_,fun h=>?_⟩
 ·intro H2 w5 hs5
  have hin:Sp.inP L t=false:=by rw [← hr];simpa using h
  exact hK _ _ _ _ _ _ _ [] (by rw [Sp.jKO hin];rfl) TreeAt.leaf (E02.hst hs5)
 ·have hin:Sp.inP L t=true:=by rw [← hr];simpa using h
  have htr:=Sp.qC hW hin
  have hnode:=hW.node hin
  rw [← hnd] at htr hnode
  simp only at htr hnode
  obtain ⟨_,_,_,_,hkid,_,_⟩:=hnode
  have hpos:=Sp.vD.1 hin
  rw [uA]
  have J1 : ∀ (xs : Sl) (H : NP) (w : World) (ps : List (Sp.Tree × Sl)) (S' : NP), Hst w0 H w H w → Pure w0 w → Own H w 28 6 xs (ps.map jVA) → ps.length ≤ 1 → (∀ p ∈ ps, TreeAt S' w p.2 p.1) → (∀ b, S' b → w0.heap.size ≤ b ∧ b < w.heap.size ∧ ¬ H b ∧ ¬ xs.blk b) → (∀ b, xs.blk b → w0.heap.size ≤ b) →
    ((Sp.shapeOf k).kids=2→ps.map Prod.fst=[Sp.zI L a])→((Sp.shapeOf k).kids≠2→ps.map Prod.fst=(Sp.zK ⟨k,f,t',u,x,a,b⟩).map (Sp.zI L)) →
    m_C1_j1 (some p) k b k f t' u x xs w0 H w K:=by
   intro xs H w ps S' hs E O hpl hkids hS' hxs h2 h1
   unfold m_C1_j1
   rw [uA]
   refine ⟨fun h=>?_,fun h=>?_⟩
   ·have hk2:(Sp.shapeOf k).kids=2:=by simpa using h
    have hps:=h2 hk2
    intro w9 hs9
    have E9:=E.hst hs9
    have O9:=O.hst hs9
    have E10:Pure w9 w9.drew:=Ext.drew w9
    refine ⟨fun _=>True,trivial,?_⟩
    rintro _ rfl
    have hb:=hkid b (by simp [Sp.zK,hk2])
    have hbp:=Sp.vD.1 hb.1
    refine (ih b.toNat (by omega) b w9.drew F rfl (hP.pure (E9.trans E10))).mono ?_
    rintro _ w11 ⟨s',rfl,hTb,E11⟩
    generalize hTt:Sp.zI L b=tb at *
    obtain ⟨k2,f2,t2,u2,x2,ks2⟩:=tb
    refine ⟨_,_,_,_,_,s',rfl,trivial,E11.keptP,?_⟩
    intro p5 w12 h12
    have E12:Pure w11 w12:=Ext.new h12
    refine ⟨trivial,?_⟩
    have hs12:Hst w0 H w12 H w12:=(hs9.again E10.keptP).again (E11.trans E12).keptP
    obtain ⟨s1,w13,hr13,hO13,hE13,hk13,hb13⟩:=(O9.pure ((E10.trans E11).trans E12)).append (P:=prog) (ty:=22) (c:=1) jMC hs12 (r:=uH (.mk k2 f2 t2 u2 x2 ks2) s') (Box.of_new h12).row rfl (jMA _ _) (by simp;omega) (by simp [maxLen];omega)
    refine ⟨s1,w13,hr13,trivial,hk13,?_⟩
    intro w15 hs15
    have zd:w9.drew.heap.size=w9.heap.size:=rfl
    have z9:=hs9.ext.size
    have z11:=E11.size
    have z12:=E12.size
    have z13:=hE13.size
    have hS9:∀b,S' b→w0.heap.size≤b∧b<w9.heap.size∧¬ H b∧¬ xs.blk b:=fun b hb=>⟨(hS' b hb).1,by have:=(hS' b hb).2.1;omega,(hS' b hb).2.2.1,(hS' b hb).2.2.2⟩
    have hvs:∀b,s1.blk b→b<w13.heap.size∧¬ H b:=fun b hb=>⟨hO13.rows.lt hb,hO13.vis b hb⟩
    have hR15:=hO13.rows.ext hs15.ext (hs15.disj (G:=s1.blk) hvs)
    have e1:ps.map jVA++[uH (.mk k2 f2 t2 u2 x2 ks2) s']=(ps++[((.mk k2 f2 t2 u2 x2 ks2:Sp.Tree),s')]).map jVA:=by simp [jVA]
    rw [e1] at hR15
    have hT:=TreeAt.of_pairs (S:=fun b=>w0.heap.size≤b) (k:=k) (f:=f) (t:=t') (u:=u) (x:=x) hR15 (fun b hb=>(hb13 b hb).elim (hxs b) (fun h=>by have:=E9.size;omega)) (fun q hq=>?_) (by simp;omega)
    ·have e2 : (ps ++ [((.mk k2 f2 t2 u2 x2 ks2 : Sp.Tree), s')]).map Prod.fst = (Sp.zK ⟨k, f, t', u, x, a, b⟩).map (Sp.zI L) := by
      rw [List.map_append,hps];simp [Sp.zK,hk2,hTt]
     rw [e2] at hT
     exact hK _ _ _ _ _ _ _ _ htr hT ((((E9.trans E10).trans E11).trans E12).trans' hE13 (fun i hi hb=>by have:=hxs i hb;omega) |>.hst hs15)
    ·rcases List.mem_append.1 hq with h | h
     ·have q1:=(hkids q h).hst hs9 (fun b hb=>⟨(hS' b hb).2.1,(hS' b hb).2.2.1⟩)
      have q2:=(q1.pure ((E10.trans E11).trans E12)).ext hE13 (fun b hb hy=>(hS' b hb).2.2.2 hy)
      exact (q2.hst hs15 (fun b hb=>⟨by have:=(hS9 b hb).2.1;omega,(hS' b hb).2.2.1⟩)).mono (fun b hb=>(hS' b hb).1)
     ·simp only [List.mem_singleton] at h;subst h
      have q1:=(hTb.lt.pure E12).ext hE13 (fun b hb hy=>by have:=O9.rows.lt hy;have:=hb.1;omega)
      exact (q1.hst hs15 (fun b hb=>⟨by have:=hb.2;omega,fun hh=>by have:=hs9.lt b hh;have:=hb.1;omega⟩)).mono (fun b hb=>by have:=hb.1;have:=E9.size;omega)
   ·have hk2:(Sp.shapeOf k).kids≠2:=by simpa using h
    intro w16 hs16
    have O16:=O.hst hs16
    have hT:=TreeAt.of_pairs (S:=fun b=>w0.heap.size≤b) (k:=k) (f:=f) (t:=t') (u:=u) (x:=x) O16.rows hxs (fun q hq=>((hkids q hq).hst hs16 (fun b hb=>⟨(hS' b hb).2.1,(hS' b hb).2.2.1⟩)).mono (fun b hb=>(hS' b hb).1)) (by omega)
    rw [h1 hk2] at hT
    exact hK _ _ _ _ _ _ _ _ htr hT (E.hst hs16)
  have hkk:=Sp.yN k
  refine ⟨fun h=>?_,fun h=>?_⟩
  ·have hk1:1≤(Sp.shapeOf k).kids:=by have:=of_decide_eq_true h;omega
   intro H3 w8 hs8
   have E8:=E02.hst hs8
   have E17:Pure w8 w8.drew:=Ext.drew w8
   refine ⟨fun _=>True,trivial,?_⟩
   rintro _ rfl
   have ha:=hkid a (by rcases hkk with h | h | h <;> simp [Sp.zK,h] <;> omega)
   have hap:=Sp.vD.1 ha.1
   refine (ih a.toNat (by omega) a w8.drew F rfl (hP.pure (E8.trans E17))).mono ?_
   rintro _ w18 ⟨s',rfl,hTa,E18⟩
   generalize hTt:Sp.zI L a=ta at *
   obtain ⟨k2,f2,t2,u2,x2,ks2⟩:=ta
   refine ⟨_,_,_,_,_,s',rfl,trivial,E18.keptP,?_⟩
   intro p6 w19 h19
   have E19:Pure w18 w19:=Ext.new h19
   refine ⟨trivial,?_⟩
   have hs19:Hst w0 H3 w19 H3 w19:=(hs8.again E17.keptP).again (E18.trans E19).keptP
   obtain ⟨s2,w20,hr20,hO20,hE20,hk20,hb20⟩:=(Own.nil (sz:=6) (e:=28) H3 w19).append (P:=prog) (ty:=22) (c:=1) jMC hs19 (r:=uH (.mk k2 f2 t2 u2 x2 ks2) s') (Box.of_new h19).row rfl (jMA _ _) (by simp) (by simp [maxLen])
   refine ⟨s2,w20,hr20,trivial,hk20,?_⟩
   intro w21 hs21
   have zd:w8.drew.heap.size=w8.heap.size:=rfl
   have z18:=E18.size
   have z19:=E19.size
   have z20:=hE20.size
   have z21:=hs21.ext.size
   have E20:Pure w19 w20:=hE20.mono (fun b _ hb=>hnil b hb)
   have hs2n:∀b,s2.blk b→w19.heap.size≤b:=fun b hb=>(hb20 b hb).elim (fun h=>(hnil b h).elim) id
   refine J1 s2 H3 w21 [((.mk k2 f2 t2 u2 x2 ks2:Sp.Tree),s')] (fun b=>w8.heap.size≤b∧b<w18.heap.size) hs21.here ((((E8.trans E17).trans E18).trans E19).trans E20 |>.hst hs21) ?_ (by simp) ?_ ?_ (fun b hb=>by have:=hs2n b hb;have:=E8.size;omega) (fun _=>by simp) (fun hne=>?_)
   ·have:=hO20.hst hs21;simpa [jVA] using this
   ·intro q hq
    simp only [List.mem_singleton] at hq;subst hq
    exact ((hTa.lt.pure E19).pure E20).hst hs21 (fun b hb=>⟨by have:=hb.2;omega,fun hh=>by have:=hs8.lt b hh;have:=hb.1;omega⟩)
   ·rintro b ⟨h1,h2⟩
    exact ⟨by have:=E8.size;omega,by omega,fun hh=>by have:=hs8.lt b hh;omega,fun hh=>by have:=hs2n b hh;omega⟩
   ·rcases hkk with h | h | h
    ·omega
    ·simp [Sp.zK,h,hTt]
    ·exact absurd h hne
  ·have hk0:(Sp.shapeOf k).kids=0:=by have:=of_decide_eq_false h;omega
   intro H3 w8 hs8
   exact J1 Sl.nil H3 w8 [] (fun _=>False) hs8.here (E02.hst hs8) (Own.nil _ _) (by simp) (by simp) (fun b h=>h.elim) (fun b h=>(hnil b h).elim) (fun h=>by omega) (fun _=>by simp [Sp.zK,hk0])
end Go.Proofs
end
section
open Go Go.SE
namespace Go.Proofs
open Tryz
attribute [local irreducible] Calls CallsD
theorem jRA {S0:NP} (p:Addr) (sb:Sl) (bs:List UInt8) (w0:World) {L:Sp.Pool} {FP:NP} (hW:Sp.Wf L) (hP:qR w0 p L FP) (hs:Lst S0 w0 1 sb (byr bs)) :
  Calls prog 69 #[.pointer (some p),sb.v] w0 (fun e w'=>∃t x y:Int,e=.returned (.tuple #[.int .i64 t,.int .i64 x,.int .i64 y])∧(t=(jBF L bs).1∧x=(jBF L bs).2.1∧y=((jBF L bs).2.2.1:Int)∧∃F',qR w' p (jBF L bs).2.2.2 F'∧Ext FP w0 w'∧∀b,F' b→FP b∨w0.heap.size≤b)):=by
 refine w_F4 _ _ w0 (fun t x y w'=>t=(jBF L bs).1∧x=(jBF L bs).2.1∧y=((jBF L bs).2.2.1:Int)∧∃F',qR w' p (jBF L bs).2.2.2 F'∧Ext FP w0 w'∧∀b,F' b→FP b∨w0.heap.size≤b) ?_
 unfold m_F4
 refine (jVT sb bs w0 hs).mono ?_
 rintro _ w1 ⟨x,y,z,rfl,hy,hz',hout,E1⟩
 refine ⟨_,_,_,rfl,?_⟩
 cases hq:(vG bs).1 with
 | none =>
  have hd:jBF L bs=(0,(vG bs).2.1,(vG bs).2.2,L):=by unfold jBF;rw [hq]
  have he:y≠0:=by rw [hy];exact Sp.jGJ hq
  refine ⟨fun _=>?_,fun hc=>absurd (by simpa using hc) he⟩
  rw [hd]
  exact ⟨rfl,hy,hz',FP,hP.pure E1,Ext.pure E1,fun b hb=>.inl hb⟩
 | some q =>
  obtain ⟨a,F,rfl,hPq,hF⟩:=hout.1 q hq
  obtain ⟨g1,_,g3,_⟩:=Sp.jCY hq
  have h0:=Sp.jIO hq
  have hd:jBF L bs=((qW L q q.length).1,(qW L q q.length).2.1,0,(qW L q q.length).2.2):=by unfold jBF;rw [hq]
  rw [h0] at hy
  obtain ⟨v1,hv1,hv1l⟩:∃v:Sl,w1.cell? a=some v.v∧v.len=q.length:=by
   obtain ⟨sa,sb,sc,h,_⟩:=hPq;exact ⟨sa,h.box.cell0,by rw [h.r1.len];simp⟩
  refine ⟨fun hc=>absurd hy (by simpa using hc),fun _=>⟨a,rfl,v1,hv1,?_⟩⟩
  rw [hv1l]
  refine (jKA p a q.length w1 hW g1 (hP.pure E1) hPq (fun b hb hh=>by have:=hP.lt hb;have:=hF b hh;omega)).mono ?_
  rintro _ w3 ⟨r1,r2,rfl,h1,h2,F',hP',E3,hF'⟩
  refine ⟨_,_,rfl,?_⟩
  rw [hd]
  exact ⟨h1,h2,rfl,F',hP',(Ext.pure E1).trans E3,fun b hb=>(hF' b hb).imp id (fun h=>by have:=E1.size;omega)⟩
end Go.Proofs
end
section
open Go Go.SE
namespace Go.Proofs
open Tryz
attribute [local irreducible] Calls
theorem jKU (l:Sp.Letter):s_V1 l.kind l.frm l.c l.text l.fake=Sp.qL l:=by
 obtain ⟨k,f,c,x,g⟩:=l;unfold s_V1 Sp.qL;have e1:s_C k=Sp.isSigned k:=rfl;rw [e1];have e2:(Sp.isSigned k || k == 6)=Sp.isTexted k:=rfl;rw [e2];have e3:decide (((x.size:Int))>64)=decide (x.size>64):=decide_eq_decide.2 (by omega);rw [e3];generalize Sp.isSigned k=a;generalize Sp.isTexted k=b;have hc:((((((decide (k<1)) || (decide (k>7))) || (((f:Int) != 0) && ((f:Int) != 1))) || ((!a) && ((f:Int) != 0))) || ((!b) && (!(decide (x=(⟨#[]⟩:ByteArray)))))) || ((g && ((k:Int) != 1)) && ((k:Int) != 4)))=decide (k<1∨k>7∨(f≠0∧f≠1)∨(a=false∧f≠0)∨(b=false∧x≠⟨#[]⟩)∨(g=true∧k≠1∧k≠4)):=by
  rw [Bool.eq_iff_iff];simp only [Bool.or_eq_true,Bool.and_eq_true,decide_eq_true_eq,bne_iff_ne,Bool.not_eq_true',decide_eq_false_iff_not];simp only [or_assoc,and_assoc]
 rw [hc];by_cases h:(k<1∨k>7∨(f≠0∧f≠1)∨(a=false∧f≠0)∨(b=false∧x≠⟨#[]⟩)∨(g=true∧k≠1∧k≠4))
 ·rw [decide_eq_true h,if_pos h];rfl
 ·rw [decide_eq_false h,if_neg h];by_cases h2:x.size>64
  ·rw [decide_eq_true h2,if_pos h2];rfl
  ·rw [decide_eq_false h2,if_neg h2];rfl
def jRP (p:List Nat):List (List Value):=p.map fun i:Nat=>[Value.int .i64 (i:Int)]
theorem jBG {S S2:NP} (x:Sp.Tree) (s sp:Sl) (p:List Nat) (w0:World) (hT:TreeAt S w0 s x) (hSw:∀b,S b→b<w0.heap.size) (hp:Lst S2 w0 1 sp (jRP p)) (hS2:∀b,S2 b→b<w0.heap.size) (hpl:p.length≤100) :
  Calls prog 92 #[.agg (uH x s).toArray,sp.v] w0 (fun e w'=>∃s',e=.returned (.agg (uH (Sp.jDX x p) s').toArray)∧TreeAt S w0 s' (Sp.jDX x p)∧Pure w0 w'):=by
 obtain ⟨k,f,t,u,tx,ks⟩:=x
 suffices key:∀K:Int→Int→Int→Int→ByteArray→Sl→WP,(∀k' f' t' u' x' s' w' ks',Sp.jDX (.mk k f t u tx ks) p=.mk k' f' t' u' x' ks'→TreeAt S w0 s' (.mk k' f' t' u' x' ks')→Pure w0 w'→K k' f' t' u' x' s' w')→m_J1 k f t u tx s sp w0 K by
  refine (w_J1 _ _ _ _ _ _ _ w0 (fun k' f' t' u' x' s' w'=>∃ks',Sp.jDX (.mk k f t u tx ks) p=.mk k' f' t' u' x' ks'∧TreeAt S w0 s' (.mk k' f' t' u' x' ks')∧Pure w0 w') (key _ (fun k' f' t' u' x' s' w' ks' h1 h2 h3=>⟨ks',h1,h2,h3⟩))).mono ?_;rintro _ w' ⟨k',f',t',u',x',s',rfl,ks',h1,h2,h3⟩;rw [h1];exact ⟨s',rfl,h2,h3⟩
 intro K hK
 have hlen:sp.len=p.length:=by rw [hp.len];simp [jRP]
 unfold m_J1
 intro H2 w2 hs2
 refine ⟨fun i _ _ _ _ _ _ k' f' t' u' x' s' H w'=>∃j:Nat,i=j∧j≤p.length∧Pure w0 w'∧∃ks',TreeAt S w0 s' (.mk k' f' t' u' x' ks')∧Sp.jDX (.mk k f t u tx ks) p=Sp.jDX (.mk k' f' t' u' x' ks') (p.drop j),fun i _ _ _ _ _ _ _ _ _ _ _ _ _=>((p.length:Int) - i).toNat,
  ⟨0,rfl,Nat.zero_le _,hs2.first,ks,hT,rfl⟩,?_⟩
 rintro _ _ _ _ _ _ _ k' f' t' u' x' s' Hl wl hl ⟨j,rfl,hj,El,ks',hT',heq⟩
 unfold m_J1_l1
 refine ⟨fun hc=>?_,fun hc=>?_⟩
 ·have hlt:=xL hlen hc
  rw [List.drop_eq_getElem_cons hlt,Sp.jDX] at heq
  have hpp:∀w',Pure w0 w'→∃a,At sp j 1 a∧S2 a.block∧w'.cell? a=some (.int .i64 (p[j]:Int)):=by
   intro w' E;obtain ⟨a,h1,h2,h3⟩:=(hp.pure E).nth (f:=fun i:Nat=>[Value.int .i64 (i:Int)]) (xs:=p) hlt;exact ⟨a,h1,h2,jAO h3⟩
  obtain ⟨a,hat,_,_⟩:=hpp wl El
  refine ⟨a,hat,?_⟩
  intro w3 hs3
  have E3:=El.hst hs3
  have hs3':=hs3.here
  obtain ⟨a1,hat1,hS1,hc1⟩:=hpp w3 E3
  have haa:a1=a:=by
   obtain ⟨_,_,x,hx,rfl⟩:=hat;obtain ⟨_,_,y,hy,rfl⟩:=hat1;rw [hx] at hy;cases hy;rfl
  subst haa
  have hl':s'.len=ks'.length:=by cases hT';assumption
  refine ⟨_,hc1,fun h=>?_,fun h=>?_⟩
  ·have : ks'[p[j]]? = none := by
    have h:=of_decide_eq_true h;exact List.getElem?_eq_none (by omega)
   rw [show (Sp.Tree.mk k' f' t' u' x' ks').kids=ks' from rfl,this] at heq
   intro w4 hs4
   exact hK _ _ _ _ _ _ _ _ heq TreeAt.leaf (E3.hst hs4)
  ·have hlt2:p[j]<ks'.length:=by have h:=of_decide_eq_false h;omega
   rw [show (Sp.Tree.mk k' f' t' u' x' ks').kids=ks' from rfl,List.getElem?_eq_getElem hlt2] at heq
   have hd:∀b,S b→¬ Hl b:=fun b hb hh=>by have:=hl.old b hh;have:=hSw b hb;omega
   have hd2:∀b,S2 b→¬ Hl b:=fun b hb hh=>by have:=hl.old b hh;have:=hS2 b hb;omega
   cases hT' with
   | mk _ _ _ _ _ _ _ rs len fit row kid =>
   obtain ⟨a3,hat3,hS3,hr3⟩:=row _ hlt2
   refine ⟨a1,hat1,_,hc1,hd2 _ hS1,a3,hat3,_,_,_,_,_,rs p[j],E3.row hr3 id,hd _ hS3,?_⟩
   intro H3 w7 hs7
   rw [vJ hlt (by omega)]
   refine ⟨⟨j+1,rfl,hlt,E3.hst hs7,ks'[p[j]].kids,?_,?_⟩,jDN hlt⟩
   ·have:=kid _ hlt2
    generalize ks'[p[j]]=y at *
    obtain ⟨_,_,_,_,_,_⟩:=y
    exact this
   ·rw [heq]
    generalize ks'[p[j]]=y
    obtain ⟨_,_,_,_,_,_⟩:=y
    rfl
 ·have hge:=tM hlen hj hc
  subst hge
  rw [List.drop_length] at heq
  intro w9 hs9
  exact hK _ _ _ _ _ _ _ _ heq hT' (El.hst hs9)
theorem jMH:∀j:Nat,j<4→∀w,(Go.binOp .rem 3 (.int .i64 (j:Int)) (.int .i64 2)).run prog w=.ok (.int .i64 ((j % 2:Nat):Int)) w
 | 0,_,w=>by kernel_rfl
 | 1,_,w=>by kernel_rfl
 | 2,_,w=>by kernel_rfl
 | 3,_,w=>by kernel_rfl
 | n+4,h,_=>by omega
theorem jMI:∀j:Nat,j<4→∀w,(Go.binOp .quo 3 (.int .i64 (j:Int)) (.int .i64 2)).run prog w=.ok (.int .i64 ((j / 2:Nat):Int)) w
 | 0,_,w=>by kernel_rfl
 | 1,_,w=>by kernel_rfl
 | 2,_,w=>by kernel_rfl
 | 3,_,w=>by kernel_rfl
 | n+4,h,_=>by omega
theorem Lst.of_path {w:World} {p:Addr} {T:TypeId} (ts:List Nat) (h:Box w p (ts.map fun t:Nat=>Value.int .i64 (t:Int)) T):Lst (·=p.block) w 1 ⟨some p,ts.length,ts.length⟩ (jRP ts):=by
 refine ⟨by simp [jRP],fun i hi=>?_⟩;have hi':i<ts.length:=by simpa [jRP] using hi
 refine ⟨p.add (i*1),⟨by omega,by simpa using hi',p,rfl,by simp⟩,by rw [zQ],fun j hj=>?_⟩;have hj0:j=0:=by simpa [jRP] using hj
 subst hj0;have:=h.cell (i:=i) (v:=.int .i64 (ts[i]:Int)) (by simp [hi']);rw [uW,Nat.mul_one,Nat.add_zero,this];simp [jRP]
theorem TreeAt.back {S:NP} {w w':World} {s:Sl} {t:Sp.Tree} (h:TreeAt S w' s t) (hE:Pure w w') (hd:∀b,S b→b<w.heap.size):TreeAt S w s t:=by
 induction h with
 | mk k f t u x ks s rs len fit row kid ih =>
  refine .mk k f t u x ks s rs len fit (fun i h=>let ⟨a,h1,h2,h3⟩:=row i h;⟨a,h1,h2,fun j hj=>?_⟩) ih
  rw [← h3 j hj]
  unfold World.cell?
  rw [zQ,hE.keep _ (hd _ h2) (fun h=>h)]
theorem jDY {S:NP} (x:Sp.Tree) (s:Sl) (w0:World) (hT:TreeAt S w0 s x) (hSw:∀b,S b→b<w0.heap.size) :
  Calls prog 90 #[.agg (uH x s).toArray] w0 (fun e w'=>∃k f c:Int,∃t:ByteArray,∃g r:Bool,e=.returned (.tuple #[.agg #[.int .i64 k,.int .i64 f,.int .u64 c,.string t,.bool g],.bool r])∧(((⟨k,f,c,t,g⟩:Sp.Letter),r)=Sp.qO x∧Pure w0 w')):=by
 obtain ⟨xk,xf,xt,xu,xx,ks⟩:=x
 generalize hx:Sp.Tree.mk xk xf xt xu xx ks=x at *
 have hxr:uH x s=[.int .i64 xk,.int .i64 xf,.int .i64 xt,.int .u64 xu,.string xx,s.v]:=by rw [← hx];rfl
 have hxn:x.node.frm=xf:=by rw [← hx];rfl
 rw [hxr]
 suffices key:∀K:Int→Int→Int→ByteArray→Bool→Bool→WP,(∀k f c t g r w',(((⟨k,f,c,t,g⟩:Sp.Letter),r)=Sp.qO x∧Pure w0 w')→K k f c t g r w')→m_J xk xf xt xu xx s w0 K from
  w_J _ _ _ _ _ _ w0 _ (key _ (fun _ _ _ _ _ _ _ h=>h))
 intro K hK
 have hxv:(Value.agg #[.int .i64 xk,.int .i64 xf,.int .i64 xt,.int .u64 xu,.string xx,s.v])=.agg (uH x s).toArray:=by rw [hxr]
 have tS:∀{w},Pure w0 w→TreeAt S w s x∧∀b,S b→b<w.heap.size:=fun E=>⟨hT.pure E,fun b hb=>by have:=hSw b hb;have:=E.size;omega⟩
 unfold m_J
 intro H2 w2 hs2 p3 w3 h3 p4 w4 h4 p5 w5 h5 p6 w6 h6
 have E2:=hs2.first
 have b3:=(((Box.of_new h3).pure (Ext.new h4)).pure (Ext.new h5)).pure (Ext.new h6)
 have b4:=((Box.of_new h4).pure (Ext.new h5)).pure (Ext.new h6)
 have b5:=(Box.of_new h5).pure (Ext.new h6)
 have b6:=Box.of_new h6
 have E6:Pure w2 w6:=(((Ext.new h3:Pure w2 w3).trans (Ext.new h4)).trans (Ext.new h5)).trans (Ext.new h6)
 have hs6:=hs2.again E6.keptP
 have v3:w2.heap.size≤p3.block:=by have:=h3.at_size;omega
 have v4:w2.heap.size≤p4.block:=by have:=h4.at_size;have:=(Ext.new (F:=None) h3).size;omega
 have v5:w2.heap.size≤p5.block:=by have:=h5.at_size;have:=(Ext.new (F:=None) h3).size;have:=(Ext.new (F:=None) h4).size;omega
 have v6:w2.heap.size≤p6.block:=by have:=h6.at_size;have:=(Ext.new (F:=None) h3).size;have:=(Ext.new (F:=None) h4).size;have:=(Ext.new (F:=None) h5).size;omega
 let B:WP:=fun w=>Box w p3 [.int .i64 0] 3∧Box w p4 [.int .i64 0,.int .i64 1,.int .i64 0,.int .i64 0] 3∧Box w p5 [.int .i64 0,.int .i64 1] 3∧Box w p6 [(Sl.mk (some p3) 1 1).v,(Sl.mk (some p4) 4 4).v,(Sl.mk (some p5) 2 2).v] 50
 let V:NP→Prop:=fun H=>¬ H p3.block∧¬ H p4.block∧¬ H p5.block∧¬ H p6.block
 have B6:B w6:=⟨b3,b4,b5,b6⟩
 have V6:V H2:=⟨fun h=>by have:=hs2.lt _ h;omega,fun h=>by have:=hs2.lt _ h;omega,fun h=>by have:=hs2.lt _ h;omega,fun h=>by have:=hs2.lt _ h;omega⟩
 have Bp:∀{w w'},B w→Pure w w'→B w':=fun h E=>⟨h.1.pure E,h.2.1.pure E,h.2.2.1.pure E,h.2.2.2.pure E⟩
 have BV:∀{H w H' w'},B w∧V H→Hst w0 H w H' w'→B w'∧V H':=by
  rintro H w H' w' ⟨⟨q3,q4,q5,q6⟩,⟨n3,n4,n5,n6⟩⟩ hs;have d:∀(p:Addr),p.block<w.heap.size→¬ H p.block→¬ H' p.block:=fun p h1 h2=>hs.disj (G:=(·=p.block)) (fun b e=>by subst e;exact ⟨h1,h2⟩) _ rfl;have m3:=d p3 q3.lt n3;have m4:=d p4 q4.lt n4;have m5:=d p5 q5.lt n5;have m6:=d p6 q6.lt n6;exact ⟨⟨q3.ext hs.ext m3,q4.ext hs.ext m4,q5.ext hs.ext m5,q6.ext hs.ext m6⟩,⟨m3,m4,m5,m6⟩⟩
 refine ⟨fun kd _ _ _ _ _ H w'=>∃q:Nat,kd=(q:Int)+1∧q≤7∧Pure w0 w'∧(B w'∧V H)∧Sp.yW x 7 1=Sp.yW x (7 - q) ((q:Int)+1),fun kd _ _ _ _ _ _=>(8 - kd).toNat,⟨0,rfl,by omega,E2.trans E6,⟨B6,V6⟩,rfl⟩,?_⟩
 rintro _ d1 d2 d3 d4 d5 Hl wl hl ⟨q,rfl,hq,El,BVl,heq⟩
 unfold m_J_l1
 refine ⟨fun hc=>?_,fun hc=>?_⟩
 ·have hq7:q<7:=by have:=of_decide_eq_true hc;omega
  obtain ⟨n,hn⟩:∃n,7 - q=n+1:=⟨7 - q - 1,by omega⟩
  have hstep:Sp.yW x (n+1) ((q:Int)+1)=(match Sp.qU x ((q:Int)+1) Sp.deals with | some l=>some l | none=>Sp.yW x n ((q:Int)+1+1)):=rfl
  rw [hn,hstep] at heq
  clear hstep
  generalize hkd:((q:Int)+1)=kd at *
  refine ⟨fun i _ _ _ _ _ H w'=>∃j:Nat,i=j∧j≤3∧Pure w0 w'∧(B w'∧V H)∧Sp.qU x kd Sp.deals=Sp.qU x kd (Sp.deals.drop j),fun i _ _ _ _ _ _=>(3 - i).toNat,⟨0,rfl,by omega,El,BVl,rfl⟩,?_⟩
  rintro _ d1 d2 d3 d4 d5 Hm wm hm ⟨j,rfl,hj,Em,BVm,heqd⟩
  unfold m_J_l2
  refine ⟨fun hc2=>?_,fun hc2=>?_⟩
  ·have hj3:j<3:=by have:=of_decide_eq_true hc2;simp only at this;omega
   have hjd:j<Sp.deals.length:=hj3
   have hstep:Sp.qU x kd (Sp.deals[j] :: Sp.deals.drop (j+1))=(match Sp.yI x (Sp.jKK x kd Sp.deals[j]) 4 0 with | some l=>some l | none=>Sp.qU x kd (Sp.deals.drop (j+1))):=rfl
   rw [List.drop_eq_getElem_cons hjd,hstep] at heqd
   clear hstep
   generalize hpp:Sp.deals[j]=pp at *
   have hpath:∃a:Addr,∃sl:Sl,At (Sl.mk (some p6) 3 3) (j:Int) 1 a∧(∀w,B w→w.cell? a=some sl.v∧∃S2:NP,Lst S2 w 1 sl (jRP pp)∧∀b,S2 b→b<w.heap.size):=by
    have hj':j=0∨j=1∨j=2:=by omega
    rcases hj' with rfl | rfl | rfl
    ·have:pp=[0]:=hpp.symm;subst this;refine ⟨p6,⟨some p3,1,1⟩,⟨by omega,by simp,p6,rfl,by simp [Addr.add]⟩,fun w h=>⟨h.2.2.2.cell0,_,Lst.of_path [0] h.1,fun b e=>by subst e;exact h.1.lt⟩⟩
    ·have:pp=[0,1,0,0]:=hpp.symm;subst this;refine ⟨p6.add 1,⟨some p4,4,4⟩,⟨by omega,by simp,p6,rfl,rfl⟩,fun w h=>⟨h.2.2.2.cell rfl,_,Lst.of_path [0,1,0,0] h.2.1,fun b e=>by subst e;exact h.2.1.lt⟩⟩
    ·have:pp=[0,1]:=hpp.symm;subst this;refine ⟨p6.add 2,⟨some p5,2,2⟩,⟨by omega,by simp,p6,rfl,rfl⟩,fun w h=>⟨h.2.2.2.cell rfl,_,Lst.of_path [0,1] h.2.2.1,fun b e=>by subst e;exact h.2.2.1.lt⟩⟩
   obtain ⟨a,sl,hat,hcell⟩:=hpath
   have hppl:pp.length≤100:=by
    have hj':j=0∨j=1∨j=2:=by omega
    rcases hj' with rfl | rfl | rfl <;> (rw [← hpp];simp [Sp.deals])
   have J3 : ∀ (a1 : Addr) (w : World) (sd : Sl) (Td : TypeId), Hst w0 Hm w Hm w → Pure w0 w → (B w ∧ V Hm) → Box w a1 (uH (Sp.jDX x pp) sd) Td → ¬ Hm a1.block → TreeAt S w0 sd (Sp.jDX x pp) →
     m_J_j3 xk xf xt xu xx s kd j d1 d2 d3 d4 d5 a1 w0 Hm w (fun y'0 y'1 y'2 y'3 y'4 y'5 H' w'=>(∃j:Nat,y'0=j∧j≤3∧Pure w0 w'∧(B w'∧V H')∧Sp.qU x kd Sp.deals=Sp.qU x kd (Sp.deals.drop j))∧(3 - y'0).toNat<(3 - (j:Int)).toNat) K:=by
    intro a1 w sd Td hs E hBV hB1 hv1 hTd
    unfold m_J_j3
    have J4 : ∀ (c : Int) (t : ByteArray) (H : NP) (w : World), Hst w0 H w H w → Pure w0 w → (B w ∧ V H) → (⟨kd, cond (s_C kd) xf 0, c, t, false⟩ : Sp.Letter) = Sp.jKK x kd pp →
      m_J_j4 xk xf xt xu xx s kd j d1 d2 d3 d4 d5 kd (cond (s_C kd) xf 0) c t false w0 H w (fun y'0 y'1 y'2 y'3 y'4 y'5 H' w'=>(∃j:Nat,y'0=j∧j≤3∧Pure w0 w'∧(B w'∧V H')∧Sp.qU x kd Sp.deals=Sp.qU x kd (Sp.deals.drop j))∧(3 - y'0).toNat<(3 - (j:Int)).toNat) K:=by
     intro c t H w hs E hBV hcand
     generalize hlf:cond (s_C kd) xf 0=lf at *
     rw [← hcand] at heqd
     unfold m_J_j4
     refine ⟨fun fk lk lf' lc lt lg _ _ _ _ _ H w'=>(kd=lk∧lf=lf'∧c=lc∧t=lt)∧∃f:Nat,fk=f∧f≤4∧Pure w0 w'∧(B w'∧V H)∧Sp.yI x ⟨kd,lf,c,t,false⟩ 4 0=Sp.yI x ⟨kd,lf,c,t,false⟩ (4 - f) f,fun fk _ _ _ _ _ _ _ _ _ _ _=>(4 - fk).toNat,⟨⟨rfl,rfl,rfl,rfl⟩,0,rfl,by omega,E,hBV,rfl⟩,?_⟩
     rintro _ _ _ _ _ lg e1 e2 e3 e4 e5 Hf wf hsf ⟨⟨rfl,rfl,rfl,rfl⟩,f,rfl,hf4,Ef,BVf,heqf⟩
     unfold m_J_l5
     refine ⟨fun hc3=>?_,fun hc3=>?_⟩
     ·have hf:f<4:=by have:=of_decide_eq_true hc3;omega
      obtain ⟨m,hm'⟩:∃m,4 - f=m+1:=⟨4 - f - 1,by omega⟩
      have hstep:Sp.yI x ⟨kd,lf,c,t,false⟩ (m+1) f=(if Sp.jHV x ⟨kd,lf,c,t,false⟩ f then some (Sp.uE ⟨kd,lf,c,t,false⟩ f) else Sp.yI x ⟨kd,lf,c,t,false⟩ m (f+1)):=rfl
      rw [hm',hstep] at heqf
      clear hstep
      intro w14 hs14
      have E14:=Ef.hst hs14
      have BV14:=BV BVf hs14
      have hd14:Pure w14 w14.drew:=Ext.drew w14
      refine ⟨fun w'=>Pure w14 w',hd14,?_⟩
      rintro _ rfl
      have hfd:decide ((f:Int)>0)=decide (f>0):=decide_eq_decide.2 (by omega)
      rw [hfd]
      refine (p_V1 kd lf c t (decide (f>0)) w14.drew).mono ?_
      rintro _ w16 ⟨rfl,E16⟩
      rw [jKU ⟨kd,lf,c,t,decide (f>0)⟩]
      have Ed:=hd14.trans E16
      refine ⟨_,rfl,Ed,E16.keptP,?_⟩
      have hwf:Sp.uE ⟨kd,lf,c,t,false⟩ f=⟨kd,lf,c,t,decide (f>0)⟩:=rfl
      have next:∀w',Pure w14 w'→Sp.jHV x ⟨kd,lf,c,t,false⟩ f=false→((((kd=kd∧lf=lf∧c=c∧t=t)∧∃f':Nat,IntKind.i64.wrap ((f:Int)+1)=f'∧f'≤4∧Pure w0 w'∧(B w'∧V Hf)∧Sp.yI x ⟨kd,lf,c,t,false⟩ 4 0=Sp.yI x ⟨kd,lf,c,t,false⟩ (4 - f') f'))∧(4 - IntKind.i64.wrap ((f:Int)+1)).toNat<(4 - (f:Int)).toNat):=by
       intro w' E' hno;rw [hno,if_neg (by simp)] at heqf;rw [vJ hf (by omega)];exact ⟨⟨⟨rfl,rfl,rfl,rfl⟩,f+1,rfl,hf,E14.trans E',⟨Bp BV14.1 E',BV14.2⟩,by rw [heqf,show m=4 - (f+1) from by omega]⟩,by omega⟩
      have found:∀w',Pure w0 w'→Sp.jHV x ⟨kd,lf,c,t,false⟩ f=true→K kd lf c t (decide (f>0)) true w':=by
       intro w' E' hyes;rw [hyes,if_pos rfl,hwf] at heqf;rw [heqf] at heqd;rw [heqd] at heq;exact hK _ _ _ _ _ _ _ ⟨by unfold Sp.qO;rw [heq],E'⟩
      have cmp : ∀ w, Pure w14 w → Sp.qL ⟨kd, lf, c, t, decide (f > 0)⟩ = 0 → (kd == 4 || decide (f ≠ 2)) = true →
        Calls prog 71 #[.agg #[.int .i64 kd,.int .i64 lf,.int .u64 c,.string t,.bool (decide (f>0))],.bool (((f % 2:Nat):Int) == 1),.bool (((f / 2:Nat):Int) == 1)] w (fun e w17=>∃rKind1:Int,∃rFrom1:Int,∃rTo1:Int,∃rNum1:Int,∃rText1:ByteArray,∃rKids1:Sl,e=.returned (.agg #[(.int .i64 rKind1),(.int .i64 rFrom1),(.int .i64 rTo1),(.int .u64 rNum1),(.string rText1),rKids1.v])∧Pure w14 w17∧Kept Hf w w17 ∧
         Calls prog 37 #[.agg #[(.int .i64 rKind1),(.int .i64 rFrom1),(.int .i64 rTo1),(.int .u64 rNum1),(.string rText1),rKids1.v],.agg #[.int .i64 xk,.int .i64 xf,.int .i64 xt,.int .u64 xu,.string xx,s.v]] w17 (fun e w18=>∃r2:Bool,e=.returned (.bool r2)∧Pure w14 w18∧Kept Hf w17 w18∧r2=Sp.jHV x ⟨kd,lf,c,t,false⟩ f)):=by
       intro w Ew herr hk4
       have hfr:lf=0∨lf=1:=by
        unfold Sp.qL at herr;simp only at herr;split at herr
        ·cases herr
        ·rename_i h;simp only [not_or,not_and] at h;have:=h.2.2.1;by_cases h0:lf=0
         ·exact .inl h0
         ·exact .inr (Classical.not_not.1 (this h0))
       have hb1:(((f % 2:Nat):Int) == 1)=(f % 2 == 1):=by rw [Bool.eq_iff_iff];simp;omega
       have hb2:(((f / 2:Nat):Int) == 1)=(f / 2 == 1):=by rw [Bool.eq_iff_iff];simp;omega
       rw [hb1,hb2]
       refine (jJT w.heap.size kd lf c t (decide (f>0)) (f % 2 == 1) (f / 2 == 1) w (Nat.le_refl _) hfr).mono ?_
       rintro _ w17 ⟨s',rfl,hT',E17⟩
       generalize hLT:Sp.vQ ⟨kd,lf,c,t,decide (f>0)⟩ (f % 2 == 1) (f / 2 == 1)=LT at *
       obtain ⟨lk,lff,lt,lu,lx,lks⟩:=LT
       refine ⟨_,_,_,_,_,s',rfl,Ew.trans E17,E17.keptP,?_⟩
       rw [hxv]
       have E017:=(E14.trans Ew).trans E17
       refine (jJY (S:=fun b=>b<w17.heap.size) (.mk lk lff lt lu lx lks) x s' s w17 (hT'.lt.mono (fun b hb=>hb.2)) ((tS E017).1.mono (tS E017).2) (fun b hb=>hb)).mono ?_
       rintro _ w18 ⟨r,rfl,hr,E18⟩
       refine ⟨_,rfl,(Ew.trans E17).trans E18,E18.keptP,?_⟩
       unfold Sp.jHV
       rw [hwf,hLT,hr]
       simp [herr]
       intro _
       simpa using hk4
      refine ⟨fun h1=>⟨fun h2=>?_,fun h2=>⟨fun h3=>?_,fun h3=>?_⟩⟩,fun h1=>?_⟩
      ·refine ⟨_,fun w' _=>jMH f hf w',_,fun w' _=>jMI f hf w',?_⟩
       refine (cmp w16 Ed (by simpa using h1) (by rw [h2];rfl)).mono ?_
       rintro _ w17 ⟨_,_,_,_,_,s',rfl,E17,K17,h17⟩
       refine ⟨_,_,_,_,_,s',rfl,E17,K17,?_⟩
       refine h17.mono ?_
       rintro _ w18 ⟨r,rfl,E18,K18,hr⟩
       refine ⟨_,rfl,E18,K18,fun h=>?_,fun h=>next _ E18 (by rw [← hr];exact h)⟩
       intro w19 hs19
       exact found _ ((E14.trans E18).hst hs19) (by rw [← hr];exact h)
      ·refine ⟨_,fun w' _=>jMH f hf w',_,fun w' _=>jMI f hf w',?_⟩
       have hf2:decide (f≠2)=true:=decide_eq_true (fun e=>by subst e;simp at h3)
       refine (cmp w16 Ed (by simpa using h1) (by rw [hf2];simp)).mono ?_
       rintro _ w17 ⟨_,_,_,_,_,s',rfl,E17,K17,h17⟩
       refine ⟨_,_,_,_,_,s',rfl,E17,K17,?_⟩
       refine h17.mono ?_
       rintro _ w18 ⟨r,rfl,E18,K18,hr⟩
       refine ⟨_,rfl,E18,K18,fun h=>?_,fun h=>next _ E18 (by rw [← hr];exact h)⟩
       intro w19 hs19
       exact found _ ((E14.trans E18).hst hs19) (by rw [← hr];exact h)
      ·refine next _ Ed ?_
       have hf2 : f = 2 := by have : (f : Int) = 2 := by simpa using h3
                              omega
       unfold Sp.jHV
       simp only
       rw [h2,hf2];simp
      ·refine next _ Ed ?_
       unfold Sp.jHV
       rw [hwf]
       have:decide (Sp.qL ⟨kd,lf,c,t,decide (f>0)⟩=0)=false:=decide_eq_false (by simpa using h1)
       rw [this];rfl
     ·have hf:f=4:=by have:=of_decide_eq_false hc3;omega
      subst hf
      rw [Nat.sub_self,Sp.yI] at heqf
      rw [heqf] at heqd
      simp only at heqd
      rw [vJ hj3 (by omega)]
      exact ⟨⟨j+1,rfl,hj3,Ef,BVf,heqd⟩,by omega⟩
    have hsg:s_C kd=Sp.isSigned kd:=rfl
    have hcf:cond (s_C kd) xf 0=(Sp.jKK x kd pp).frm:=by
     rw [hsg];unfold Sp.jKK;simp only;rw [hxn];cases Sp.isSigned kd <;> rfl
    have place : ∀ (y : Sp.Tree) (sy : Sl) (pth : List Nat) (w : World) (p8 : Addr) (w23 : World), Pure w0 w → TreeAt S w0 sy y → New w (.cells (pth.map fun t : Nat => Value.int .i64 (t : Int)).toArray 3) p8 w23 → pth.length ≤ 100 →
      Calls prog 92 #[.agg (uH y sy).toArray,(Sl.mk (some p8) pth.length pth.length).v] w23 (fun e w'=>∃s',e=.returned (.agg (uH (Sp.jDX y pth) s').toArray)∧TreeAt S w23 s' (Sp.jDX y pth)∧Pure w23 w'):=by
     intro y sy pth w p8 w23 E hTy h8 hpl
     have E23:Pure w0 w23:=E.trans (Ext.new h8)
     exact jBG (S2:=(·=p8.block)) y sy _ pth w23 (hTy.pure E23) (tS E23).2 (Lst.of_path pth (Box.of_new h8)) (fun b e=>by subst e;exact (Box.of_new h8).lt) hpl
    refine ⟨fun htx=>?_,fun htx=>⟨fun h7=>?_,fun h7=>?_⟩⟩
    ·have htx':Sp.isTexted kd=true:=htx
     intro H4 w13 hs13
     have E13:=E.hst hs13
     have BV13:=BV hBV hs13
     have hv13:¬ H4 a1.block:=hs13.disj (G:=(·=a1.block)) (fun b e=>by subst e;exact ⟨hB1.lt,hv1⟩) _ rfl
     have B13:=hB1.ext hs13.ext hv13
     generalize hD:Sp.jDX x pp=D at *
     obtain ⟨dk,df,dt,du,dx,dks⟩:=D
     refine ⟨_,_,_,_,_,sd,B13.row,?_⟩
     intro p8 w23 h8
     have E23:Pure w13 w23:=Ext.new h8
     refine (place (.mk dk df dt du dx dks) sd [1,0] w13 p8 w23 E13 hTd h8 (by simp)).mono ?_
     rintro _ w24 ⟨s1,rfl,_,E24⟩
     generalize hk1:Sp.jDX (.mk dk df dt du dx dks) [1,0]=y1 at *
     obtain ⟨y1k,y1f,y1t,y1u,y1x,y1s⟩:=y1
     refine ⟨_,_,_,_,_,s1,rfl,E24.keptP,?_⟩
     intro w25 hs25
     have E1324:=E23.trans E24
     have B24:=B13.pure E1324
     have hv25:¬ H4 a1.block:=hv13
     have B25:=B24.ext hs25.ext hv25
     refine ⟨_,_,_,_,_,sd,B25.row,?_⟩
     have E25:=(E13.trans E1324).hst hs25
     have BV25:=BV ⟨Bp BV13.1 E1324,BV13.2⟩ hs25
     intro p9 w26 h9
     have E26:Pure w25 w26:=Ext.new h9
     refine (place (.mk dk df dt du dx dks) sd [1,1] w25 p9 w26 E25 hTd h9 (by simp)).mono ?_
     rintro _ w27 ⟨s2,rfl,_,E27⟩
     generalize hk2:Sp.jDX (.mk dk df dt du dx dks) [1,1]=y2 at *
     obtain ⟨y2k,y2f,y2t,y2u,y2x,y2s⟩:=y2
     refine ⟨_,_,_,_,_,s2,rfl,E27.keptP,?_⟩
     intro w28 hs28
     have E2527:=E26.trans E27
     refine J4 y1u y2x H4 w28 hs28.here ((E25.trans E2527).hst hs28) (BV ⟨Bp BV25.1 E2527,BV25.2⟩ hs28) ?_
     rw [hcf]
     unfold Sp.jKK
     simp only [htx',if_true,hD,hk1,hk2]
     rfl
    ·have h7:kd=7:=by simpa using h7
     intro H4 w13 hs13
     have E13:=E.hst hs13
     have BV13:=BV hBV hs13
     intro p10 w29 h10
     have E29:Pure w13 w29:=Ext.new h10
     rw [hxv]
     refine (place x s [1] w13 p10 w29 E13 hT h10 (by simp)).mono ?_
     rintro _ w30 ⟨s1,rfl,_,E30⟩
     generalize hk1:Sp.jDX x [1]=y1 at *
     obtain ⟨y1k,y1f,y1t,y1u,y1x,y1s⟩:=y1
     refine ⟨_,_,_,_,_,s1,rfl,E30.keptP,?_⟩
     intro w31 hs31
     have E1330:=E29.trans E30
     refine J4 y1u ⟨#[]⟩ H4 w31 hs31.here ((E13.trans E1330).hst hs31) (BV ⟨Bp BV13.1 E1330,BV13.2⟩ hs31) ?_
     rw [hcf]
     unfold Sp.jKK
     subst h7
     simp only [hk1]
     rfl
    ·have h7:kd≠7:=by simpa using h7
     have htx':Sp.isTexted kd=false:=htx
     intro H4 w13 hs13
     have E13:=E.hst hs13
     have BV13:=BV hBV hs13
     intro p11 w32 h11
     have E32:Pure w13 w32:=Ext.new h11
     rw [hxv]
     refine (place x s [0,1] w13 p11 w32 E13 hT h11 (by simp)).mono ?_
     rintro _ w33 ⟨s1,rfl,_,E33⟩
     generalize hk1:Sp.jDX x [0,1]=y1 at *
     obtain ⟨y1k,y1f,y1t,y1u,y1x,y1s⟩:=y1
     refine ⟨_,_,_,_,_,s1,rfl,E33.keptP,?_⟩
     intro w34 hs34
     have E1333:=E32.trans E33
     refine J4 y1u ⟨#[]⟩ H4 w34 hs34.here ((E13.trans E1333).hst hs34) (BV ⟨Bp BV13.1 E1333,BV13.2⟩ hs34) ?_
     rw [hcf]
     unfold Sp.jKK
     have h7b:(kd == 7)=false:=by simpa using h7
     simp only [htx',h7b,hk1,Bool.false_eq_true,if_false]
     rfl
   have Edr:Pure wm wm.drew:=Ext.drew wm
   have Emd:=Em.trans Edr
   have Bmd:=Bp BVm.1 Edr
   refine ⟨fun w'=>B w',Bmd,?_⟩
   rintro _ rfl
   refine ⟨a,hat,sl,fun w' h=>(hcell w' h).1,?_,?_⟩
   ·rw [hxv]
    obtain ⟨_,S2,hL,hS2⟩:=hcell _ Bmd
    refine (jBG x s sl pp wm.drew (tS Emd).1 (tS Emd).2 hL hS2 hppl).mono ?_
    rintro _ w36 ⟨sd,rfl,hTd,E36⟩
    generalize hD:Sp.jDX x pp=D at *
    obtain ⟨dk,df,dt,du,dx,dks⟩:=D
    refine ⟨_,_,_,_,_,sd,rfl,E36.keptP,?_⟩
    intro p12 w37 h12
    have E37:=E36.trans (Ext.new h12)
    have b12:=Box.of_new h12
    have hnh:¬ Hm p12.block:=by intro hh;have:=hm.lt _ hh;have:=h12.at_size;have:=(Edr.trans E36).size;omega
    have B36:=Bp Bmd E36
    have B37:=Bp Bmd E37
    have hTd0:TreeAt S w0 sd (Sp.Tree.mk dk df dt du dx dks):=hTd.back Emd hSw
    refine ⟨B37,b12.canWs (n:=6) (by simp),hnh,?_⟩
    rintro _ rfl
    have E38:=Ext.storeRow w37 p12 [(.int .i64 dk),(.int .i64 df),(.int .i64 dt),(.int .u64 du),(.string dx),sd.v]
    have b38:=b12.store (vs:=[(.int .i64 dk),(.int .i64 df),(.int .i64 dt),(.int .u64 du),(.string dx),sd.v]) rfl
    exact J3 p12 _ sd _ ((hm.again (Edr.trans E37).keptP).again (E38.kept (fun b hb e=>hnh (e▸hb)))) ((Emd.trans E37).own (by have:=h12.at_size;have:=(Emd.trans E36).size;omega) E38) ⟨⟨B37.1.ext E38 (New.ne h12 B36.1.blk),B37.2.1.ext E38 (New.ne h12 B36.2.1.blk),B37.2.2.1.ext E38 (New.ne h12 B36.2.2.1.blk),B37.2.2.2.ext E38 (New.ne h12 B36.2.2.2.blk)⟩,BVm.2⟩ b38 hnh hTd0
   ·rw [hxv]
    intro p13 w39 h13
    have E39:Pure wm.drew w39:=Ext.new h13
    have B39:=Bp Bmd E39
    have Em39:=Emd.trans E39
    have b13:=Box.of_new h13
    have hnh:¬ Hm p13.block:=by intro hh;have:=hm.lt _ hh;have:=h13.at_size;have:=Edr.size;omega
    obtain ⟨_,S2,hL,hS2⟩:=hcell _ B39
    refine ⟨B39,(jBG x s sl pp w39 (tS Em39).1 (tS Em39).2 hL hS2 hppl).mono ?_⟩
    rintro _ w40 ⟨sd,rfl,hTd,E40⟩
    generalize hD:Sp.jDX x pp=D at *
    obtain ⟨dk,df,dt,du,dx,dks⟩:=D
    have hTd0:TreeAt S w0 sd (Sp.Tree.mk dk df dt du dx dks):=hTd.back Em39 hSw
    have B40:=Bp B39 E40
    have b40:=b13.pure E40
    refine ⟨_,_,_,_,_,sd,rfl,E40.keptP,b40.canWs (n:=6) (by simp),hnh,?_⟩
    rintro _ rfl
    have E41:=Ext.storeRow w40 p13 [(.int .i64 dk),(.int .i64 df),(.int .i64 dt),(.int .u64 du),(.string dx),sd.v]
    have b41:=b40.store (vs:=[(.int .i64 dk),(.int .i64 df),(.int .i64 dt),(.int .u64 du),(.string dx),sd.v]) rfl
    exact J3 p13 _ sd _ ((hm.again ((Edr.trans E39).trans E40).keptP).again (E41.kept (fun b hb e=>hnh (e▸hb)))) ((Em39.trans E40).own (by have:=h13.at_size;have:=Emd.size;omega) E41) ⟨⟨B40.1.ext E41 (New.ne h13 Bmd.1.blk),B40.2.1.ext E41 (New.ne h13 Bmd.2.1.blk),B40.2.2.1.ext E41 (New.ne h13 Bmd.2.2.1.blk),B40.2.2.2.ext E41 (New.ne h13 Bmd.2.2.2.blk)⟩,BVm.2⟩ b41 hnh hTd0
  ·have hj3:j=3:=by have:=of_decide_eq_false hc2;simp only at this;omega
   subst hj3
   have:Sp.deals.drop 3=[]:=rfl
   rw [this,Sp.qU] at heqd
   rw [heqd] at heq
   simp only at heq
   have hkw:IntKind.i64.wrap (kd+1)=((q+1:Nat):Int)+1:=by rw [IntWalk.i64_in _ (by omega)];omega
   rw [hkw]
   exact ⟨⟨q+1,rfl,hq7,Em,BVm,by rw [heq];congr 1 <;> omega⟩,by show (8 - _:Int).toNat<(8 - _:Int).toNat;omega⟩
 ·have hq7:q=7:=by have:=of_decide_eq_false hc;omega
  subst hq7
  rw [Nat.sub_self,Sp.yW] at heq
  intro w42 hs42
  exact hK _ _ _ _ _ _ _ ⟨by unfold Sp.qO;rw [heq];rfl,El.hst hs42⟩
theorem jJU (p:Addr) {L:Sp.Pool} (hW:Sp.Wf L) (t:Int) (w0:World) (F:NP) (hP:qR w0 p L F) :
  Calls prog 41 #[.pointer (some p),.int .i64 t] w0 (fun e w'=>∃k f c:Int,∃t':ByteArray,∃g r:Bool,e=.returned (.tuple #[.agg #[.int .i64 k,.int .i64 f,.int .u64 c,.string t',.bool g],.bool r])∧(((⟨k,f,c,t',g⟩:Sp.Letter),r)=Sp.tU L t∧Pure w0 w')):=by
 suffices key:∀K:Int→Int→Int→ByteArray→Bool→Bool→WP,(∀k f c t' g r w',(((⟨k,f,c,t',g⟩:Sp.Letter),r)=Sp.tU L t∧Pure w0 w')→K k f c t' g r w')→m_Z1 (some p) t w0 K from
  w_Z1 _ _ w0 _ (key _ (fun _ _ _ _ _ _ _ h=>h))
 intro K hK
 have hok:=hW.ok
 unfold m_Z1
 intro H1 w1 hs1
 have E1:=hs1.first
 refine (uB p t w1 (hP.pure E1)).mono ?_
 rintro _ w2 ⟨r,rfl,hr,rfl⟩
 refine ⟨_,rfl,(Ext.refl _:Pure w2 w2).keptP,fun h=>?_,fun h=>?_⟩
 ·intro w3 hs3
  refine hK _ _ _ _ _ _ _ ⟨?_,E1.hst hs3⟩
  unfold Sp.tU
  rw [if_neg (fun hh=>by rw [hr,hh.1] at h;cases h)]
  rfl
 ·have hin:Sp.inP L t=true:=by rw [← hr];simpa using h
  refine (jAJ p t w2 (hP.pure E1) hok).mono ?_
  rintro _ w4 ⟨z,rfl,hz,rfl⟩
  refine ⟨_,rfl,(Ext.refl _:Pure w4 w4).keptP,fun h2=>?_,fun h2=>?_⟩
  ·intro w5 hs5
   refine hK _ _ _ _ _ _ _ ⟨?_,E1.hst hs5⟩
   have h2:=of_decide_eq_true h2
   unfold Sp.tU
   rw [if_neg (fun hh=>hh.2 (hz▸h2))]
   rfl
  ·have h2:=of_decide_eq_false h2
   refine (jJX p hW _ t w4 F rfl (hP.pure E1)).mono ?_
   rintro _ w6 ⟨s',rfl,hT,E6⟩
   generalize hD:Sp.zI L t=D at *
   obtain ⟨dk,df,dt,du,dx,dks⟩:=D
   refine ⟨_,_,_,_,_,s',rfl,E6.keptP,?_⟩
   refine (jDY _ s' w6 hT.lt (fun b hb=>hb.2)).mono ?_
   rintro _ w7 ⟨k,f,c,t',g,r,rfl,hrd,E7⟩
   refine ⟨_,_,_,_,_,_,rfl,E7.keptP,?_⟩
   intro w8 hs8
   refine hK _ _ _ _ _ _ _ ⟨?_,((E1.trans E6).trans E7).hst hs8⟩
   unfold Sp.tU
   rw [if_pos ⟨hin,hz▸h2⟩,hD,hrd]
end Go.Proofs
end
section
namespace Go.Sp
theorem jSA {L:Pool} (hW:Wf L):∀(n:Nat) (t:Int),t.toNat=n→inP L t=true→sizeOf L t=cnt (zI L t):=by
 intro n;induction n using Nat.strongRecOn with
 | _ n ih =>
 intro t hn ht;have h:=hW.node ht;rw [qC hW ht,h.2.2.2.2.2.1,cnt];have:∀l:List Int,(∀k∈l,sizeOf L k=cnt (zI L k))→(l.map (sizeOf L)).sum=(jAI (l.map (zI L)):Int):=by
  intro l;induction l with
  | nil=>intro _;rfl
  | cons a l ihl=>intro hh;simp only [List.map_cons,List.sum_cons,jAI,hh a (by simp),ihl (fun k hk=>hh k (by simp [hk]))];omega
 rw [this _ (fun k hk=>?_)]
 ·omega
 ·have hk2:=h.2.2.2.2.1 k hk;have:=vD.1 hk2.1;exact ih k.toNat (by omega) k rfl hk2.1
theorem xI {L:Pool} {t k:Int} (h:(zX L t k).2=false):inP L t=true∧(nodeOf L t).kind=k∧zX L t k=(nodeOf L t,false):=by
 unfold zX at h ⊢;split at h
 ·rename_i hh;exact ⟨hh.1,hh.2,by rw [if_pos hh]⟩
 ·cases h
theorem xJ {L:Pool} {t k:Int} (h:inP L t=true) (hk:(nodeOf L t).kind=k):zX L t k=(nodeOf L t,false):=by unfold zX;rw [if_pos ⟨h,hk⟩]
section
variable {L:Pool} (hW:Wf L) {t:Int} (ht:inP L t=true)
include hW ht
theorem jVF:(nodeOf L t).text.size≤64:=by
 have:=(hW.node ht).2.2.2.1;unfold vA at this;split at this
 ·cases this
 split at this
 ·cases this
 ·omega
theorem nd3 (hk:(nodeOf L t).kind=3):zI L t=qM (nodeOf L t).text:=by
 have h:=(hW.node ht).1;rw [qC hW ht,hk,qM];have hkk:zK (nodeOf L t)=[]:=by unfold zK;rw [hk];rfl
 rw [hkk];unfold zZ at h;rw [hk] at h;simp [shapeOf,isKind] at h;simp [h]
theorem nd2 (hk:(nodeOf L t).kind=2):zI L t=jCP (nodeOf L t).num:=by
 have h:=(hW.node ht).1;rw [qC hW ht,hk,jCP];have hkk:zK (nodeOf L t)=[]:=by unfold zK;rw [hk];rfl
 rw [hkk];unfold zZ at h;rw [hk] at h;simp [shapeOf,isKind] at h;simp [h]
theorem nd4 (hk:(nodeOf L t).kind=4):inP L (nodeOf L t).a=true∧inP L (nodeOf L t).b=true∧zI L t=yC (zI L (nodeOf L t).a) (zI L (nodeOf L t).b):=by
 have h:=(hW.node ht).1;have hp:=(hW.node ht).2.2.2.2.1;have hkk:zK (nodeOf L t)=[(nodeOf L t).a,(nodeOf L t).b]:=by unfold zK;rw [hk];rfl
 rw [hkk] at hp;refine ⟨(hp _ (by simp)).1,(hp _ (by simp)).1,?_⟩;rw [qC hW ht,hk,yC,hkk];unfold zZ at h;rw [hk] at h;simp [shapeOf,isKind] at h;simp [h]
theorem nd7 (hk:(nodeOf L t).kind=7):inP L (nodeOf L t).a=true∧0≤(nodeOf L t).frm∧zI L t=tC (nodeOf L t).frm (zI L (nodeOf L t).a):=by
 have h:=(hW.node ht).1;have hf:=(hW.node ht).2.2.2.1;have hp:=(hW.node ht).2.2.2.2.1;have hkk:zK (nodeOf L t)=[(nodeOf L t).a]:=by unfold zK;rw [hk];rfl
 rw [hkk] at hp;refine ⟨(hp _ (by simp)).1,?_,?_⟩
 ·unfold vA at hf;rw [hk] at hf;split at hf
  ·cases hf
  ·rename_i hh;simp [shapeOf,xZ] at hh;omega
 rw [qC hW ht,hk,tC,hkk];unfold zZ at h;rw [hk] at h;simp [shapeOf,isKind] at h;simp [h]
theorem nd89 (hk:(nodeOf L t).kind=8∨(nodeOf L t).kind=9):inP L (nodeOf L t).a=true∧0≤(nodeOf L t).frm∧(nodeOf L t).frm<16∧((nodeOf L t).to=1 - (nodeOf L t).frm→zI L t=yY (nodeOf L t).frm (zI L (nodeOf L t).a) ((nodeOf L t).kind == 9)):=by
 have h:=(hW.node ht).1;have hf:=(hW.node ht).2.2.2.1;have hp:=(hW.node ht).2.2.2.2.1;have hkk:zK (nodeOf L t)=[(nodeOf L t).a]:=by unfold zK;rcases hk with hk | hk <;> (rw [hk];rfl)
 rw [hkk] at hp;have hff:0≤(nodeOf L t).frm∧(nodeOf L t).frm<16:=by
  unfold vA at hf;rcases hk with hk | hk <;>
  ·rw [hk] at hf;split at hf
   ·cases hf
   ·rename_i hh;simp [shapeOf,xZ] at hh;omega
 refine ⟨(hp _ (by simp)).1,hff.1,hff.2,fun hto=>?_⟩;rw [qC hW ht,yY,hkk,← hto];unfold zZ at h;rcases hk with hk | hk <;>
 ·rw [hk] at h ⊢;simp [shapeOf,isKind] at h;simp [h]
theorem xK {k f t' u:Int} {x:ByteArray} {ks:List Tree} (h:zI L t=.mk k f t' u x ks):(nodeOf L t).kind=k∧(nodeOf L t).frm=f∧(nodeOf L t).to=t'∧(nodeOf L t).num=u∧(nodeOf L t).text=x:=by
 rw [qC hW ht] at h;injection h with h1 h2 h3 h4 h5 h6;exact ⟨h1,h2,h3,h4,h5⟩
end
theorem jGE {n:Int} (h:0≤n∧n<16):IntKind.i64.wrap (1 - n)=1 - n:=IntWalk.i64_in _ (by omega)
section
variable {L:Pool} (hW:Wf L) {t:Int}
include hW
theorem uK (h:(zV L t).2=false):inP L t=true∧inP L (zV L t).1.2=true∧zI L t=yC (qM (zV L t).1.1) (zI L (zV L t).1.2):=by
 unfold zV at h ⊢;simp only [Bool.or_eq_false_iff] at h;obtain ⟨ht,hk,e1⟩:=xI h.1;rw [e1] at h ⊢;simp only at h ⊢;obtain ⟨ha,hka,e2⟩:=xI h.2;rw [e2];obtain ⟨_,h2,h3⟩:=nd4 hW ht hk;exact ⟨ht,h2,by rw [h3,nd3 hW ha hka]⟩
theorem jBD (ht:inP L t=true) {g:ByteArray} {y:Tree} (h:zI L t=yC (qM g) y):∃n,zV L t=((g,n),false)∧inP L n=true∧zI L n=y:=by
 have hk:=(xK hW ht (h.trans rfl)).1;obtain ⟨h1,h2,h3⟩:=nd4 hW ht hk;rw [h] at h3;have e1:qM g=zI L (nodeOf L t).a:=by simpa [yC] using (Tree.mk.inj h3).2.2.2.2.2 |> fun e=>(List.cons.inj e).1
 have e2:y=zI L (nodeOf L t).b:=by have:=(Tree.mk.inj h3).2.2.2.2.2;exact (List.cons.inj (List.cons.inj this).2).1
 have hka:=xK hW h1 (e1.symm.trans rfl);refine ⟨(nodeOf L t).b,?_,h2,e2.symm⟩;unfold zV;rw [xJ ht hk];simp only;rw [xJ h1 hka.1];simp [hka.2.2.2.2]
theorem jFF (h:(vU L t).2=false):inP L t=true∧zI L t=qD (vU L t).1.1 (vU L t).1.2∧(vU L t).1.2.size≤64:=by
 unfold vU at h ⊢;simp only [Bool.or_eq_false_iff,Bool.not_eq_false',decide_eq_true_eq] at h;obtain ⟨⟨⟨⟨h1,h2⟩,h3⟩,h4⟩,h5⟩:=h;obtain ⟨ht,_,e⟩:=uK hW h1;obtain ⟨hp,hpk,e2⟩:=xI h2;simp only at h3 ⊢;rw [e2] at h4 h5 ⊢;simp only at h4 h5 ⊢;obtain ⟨ha,hak,e4⟩:=xI h4;obtain ⟨hb,hbk,e5⟩:=xI h5;rw [e4,e5];refine ⟨ht,?_,jVF hW hb⟩;rw [e,h3,(nd4 hW hp hpk).2.2,nd2 hW ha hak,nd3 hW hb hbk];rfl
theorem jFG (ht:inP L t=true) {c:Int} {x:ByteArray} (h:zI L t=qD c x):vU L t=((c,x),false):=by
 obtain ⟨n,e1,hn,e⟩:=jBD hW ht h;have hk:=(xK hW hn (e.trans rfl)).1;obtain ⟨h1,h2,h3⟩:=nd4 hW hn hk;rw [e] at h3;have q1:jCP c=zI L (nodeOf L n).a:=(List.cons.inj (Tree.mk.inj h3).2.2.2.2.2).1;have q2:qM x=zI L (nodeOf L n).b:=(List.cons.inj (List.cons.inj (Tree.mk.inj h3).2.2.2.2.2).2).1;have k1:=xK hW h1 (q1.symm.trans rfl);have k2:=xK hW h2 (q2.symm.trans rfl);unfold vU;rw [e1];simp only;rw [xJ hn hk];simp only;rw [xJ h1 k1.1,xJ h2 k2.1];simp [k1.2.2.2.1,k2.2.2.2.2]
theorem jHE (ht:inP L t=true) {c:Int} (h:zI L t=jCP c):(zX L t 2).1.num=c∧(zX L t 2).2=false:=by
 have k:=xK hW ht (h.trans rfl);rw [xJ ht k.1];exact ⟨k.2.2.2.1,rfl⟩
theorem jHD (h:(zX L t 2).2=false):inP L t=true∧zI L t=jCP (zX L t 2).1.num:=by
 obtain ⟨h1,h2,e⟩:=xI h;rw [e];exact ⟨h1,nd2 hW h1 h2⟩
theorem jAF (ht:inP L t=true) (h:(zT L t).2=false):(zT L t).1.kind=1∧((zT L t).1.frm=0∨(zT L t).1.frm=1)∧zI L t=yY (zT L t).1.frm (qD (zT L t).1.c (zT L t).1.text) (zT L t).1.fake∧(zT L t).1.text.size≤64:=by
 unfold zT at h ⊢;simp only at h ⊢;split at h
 ·cases h
 rename_i hh;rw [if_neg hh];simp only [not_or,not_and,Classical.not_not] at hh;have hk:(nodeOf L t).kind=8∨(nodeOf L t).kind=9:=by
  by_cases h8:(nodeOf L t).kind=8
  ·exact .inl h8
  ·exact .inr (hh.1 h8)
 obtain ⟨ha,h0,h16,hT⟩:=nd89 hW ht hk;have hto:=hh.2.2;rw [jGE ⟨h0,h16⟩] at hto;obtain ⟨_,e,hx⟩:=jFF hW h;simp only;refine ⟨trivial,by have:=hh.2.1;omega,by rw [hT hto,e],hx⟩
theorem jAG (ht:inP L t=true) {n c:Int} {x:ByteArray} {g:Bool} (hn:n=0∨n=1) (h:zI L t=yY n (qD c x) g):zT L t=(⟨1,n,c,x,g⟩,false):=by
 have k:=xK hW ht (h.trans rfl);have hk:(nodeOf L t).kind=8∨(nodeOf L t).kind=9:=by rw [k.1];cases g <;> simp
 obtain ⟨ha,h0,h16,hT⟩:=nd89 hW ht hk;have:=hT (by rw [k.2.2.1,k.2.1]);rw [h,k.2.1] at this;have q1:qD c x=zI L (nodeOf L t).a:=(List.cons.inj (Tree.mk.inj this).2.2.2.2.2).1;unfold zT;simp only;rw [if_neg,jFG hW ha q1.symm,k.1,k.2.1]
 ·cases g <;> rfl
 ·simp only [not_or,not_and,Classical.not_not];refine ⟨fun h8=>hk.resolve_left h8,by rw [k.2.1];omega,?_⟩;rw [k.2.2.1,jGE ⟨h0,h16⟩,k.2.1]
end
def IsL (x:Tree) (l:Letter):Prop:=qL l=0∧∃a b:Bool,(l.kind=4→l.fake=(a || b))∧x=vQ l a b
theorem jDC {k f c:Int} {x:ByteArray} {g:Bool} (h:qL ⟨k,f,c,x,g⟩=0):(k=1∨k=2∨k=3∨k=4∨k=5∨k=6∨k=7)∧(f=0∨f=1)∧(isSigned k=false→f=0)∧(isTexted k=false→x=⟨#[]⟩)∧(g=true→k=1∨k=4)∧x.size≤64:=by
 unfold qL at h;simp only at h;split at h
 ·cases h
 rename_i hh;split at h
 ·cases h
 simp only [not_or,not_and,Classical.not_not] at hh;obtain ⟨h1,h2,h3,h4,h5,h6⟩:=hh;refine ⟨by omega,?_,h4,h5,?_,by omega⟩
 ·by_cases h0:f=0
  ·exact .inl h0
  ·exact .inr (h3 h0)
 ·intro hg;by_cases h1:k=1
  ·exact .inl h1
  ·exact .inr (h6 hg h1)
theorem xM {k f c:Int} {x:ByteArray} {g:Bool} (hk:1≤k∧k≤7) (hf:f=0∨f=1) (h1:isSigned k=false→f=0) (h2:isTexted k=false→x=⟨#[]⟩) (h3:g=true→k=1∨k=4) (hx:x.size≤64):qL ⟨k,f,c,x,g⟩=0:=by
 unfold qL;simp only;rw [if_neg,if_neg (by omega)];simp only [not_or,not_and,Classical.not_not];refine ⟨by omega,by omega,fun h0=>hf.resolve_left h0,h1,h2,fun hg h1=>(h3 hg).resolve_left h1⟩
section
variable {L:Pool} (hW:Wf L) {t:Int}
include hW
theorem jIP {who:Int} (h:(vT L who t).2=false):∃c x a b,(vT L who t).1=⟨4,who,c,x,a || b⟩∧x.size≤64∧zI L t=yC (yY 0 (qD c x) a) (yY 1 (qD c x) b):=by
 unfold vT at h ⊢;simp only [Bool.or_eq_false_iff,Bool.not_eq_false',decide_eq_true_eq,bne_eq_false_iff_eq] at h;obtain ⟨⟨⟨⟨⟨⟨h1,h2⟩,h3⟩,h4⟩,h5⟩,h6⟩,h7⟩:=h;obtain ⟨ht,hk,e⟩:=xI h1;simp only;rw [e] at h2 h3 h4 h5 h6 h7 ⊢;simp only at h2 h3 h4 h5 h6 h7 ⊢;obtain ⟨ha,hb,hT⟩:=nd4 hW ht hk;obtain ⟨_,_,ea,hx⟩:=jAF hW ha h2;obtain ⟨_,_,eb,_⟩:=jAF hW hb h3;refine ⟨_,_,_,_,rfl,hx,?_⟩;rw [hT,ea,eb,h4,h5,h6,h7]
theorem jIQ (ht:inP L t=true) {who c:Int} {x:ByteArray} {a b:Bool} (h:zI L t=yC (yY 0 (qD c x) a) (yY 1 (qD c x) b)):vT L who t=(⟨4,who,c,x,a || b⟩,false):=by
 have hk:=(xK hW ht (h.trans rfl)).1;obtain ⟨h1,h2,h3⟩:=nd4 hW ht hk;rw [h] at h3;have q1:=(List.cons.inj (Tree.mk.inj h3).2.2.2.2.2).1;have q2:=(List.cons.inj (List.cons.inj (Tree.mk.inj h3).2.2.2.2.2).2).1;unfold vT;simp only;rw [xJ ht hk];simp only;rw [jAG hW h1 (.inl rfl) q1.symm,jAG hW h2 (.inr rfl) q2.symm];simp
theorem jKY {who:Int} (hw:0≤who) (h:(vZ L who t).2=false):IsL (tC who (zI L t)) (vZ L who t).1:=by
 unfold vZ at h ⊢;simp only at h ⊢;by_cases c1:(zV L t).1.1=uX∧who=0
 ·rw [if_pos c1] at h ⊢;simp only [Bool.or_eq_false_iff] at h;obtain ⟨ht,hn,e⟩:=uK hW h.1;show IsL _ ⟨3,0,_,⟨#[]⟩,false⟩;refine ⟨xM (by omega) (.inl rfl) (fun _=>rfl) (fun _=>rfl) (fun h=>nomatch h) (Nat.zero_le _),false,false,by simp,?_⟩;rw [e,c1.1,c1.2,(jHD hW h.2).2];rfl
 rw [if_neg c1] at h ⊢;by_cases c2:(zV L t).1.1=qZ∧who=2
 ·rw [if_pos c2] at h ⊢;simp only [Bool.or_eq_false_iff] at h;obtain ⟨ht,hn,e⟩:=uK hW h.1;show IsL _ ⟨5,0,_,⟨#[]⟩,false⟩;refine ⟨xM (by omega) (.inl rfl) (fun _=>rfl) (fun _=>rfl) (fun h=>nomatch h) (Nat.zero_le _),false,false,by simp,?_⟩;rw [e,c2.1,c2.2,(jHD hW h.2).2];rfl
 rw [if_neg c2] at h ⊢;by_cases c3:(zV L t).1.1=yH∧who=2
 ·rw [if_pos c3] at h ⊢;simp only [Bool.or_eq_false_iff] at h;obtain ⟨ht,hn,e⟩:=uK hW h.1;obtain ⟨_,e2,hx⟩:=jFF hW h.2;refine ⟨xM (by omega) (.inl rfl) (fun _=>rfl) (by simp [isTexted]) (by simp) hx,false,false,by simp,?_⟩;rw [e,c3.1,c3.2,e2];rfl
 rw [if_neg c3] at h ⊢;by_cases c4:(zV L t).1.1=jBB∧who≤1
 ·rw [if_pos c4] at h ⊢;simp only [Bool.or_eq_false_iff] at h;obtain ⟨_,e2,hx⟩:=jFF hW h.2;refine ⟨xM (by omega) (by omega) (by simp [isSigned]) (by simp [isTexted,isSigned]) (by simp) hx,false,false,by simp,?_⟩;rw [e2];rfl
 rw [if_neg c4] at h ⊢;by_cases c5:(zV L t).1.1=yG∧who≤1
 ·rw [if_pos c5] at h ⊢;simp only [Bool.or_eq_false_iff] at h;obtain ⟨ht,hn,e⟩:=uK hW h.1;obtain ⟨c,x,a,b,e2,hx,e3⟩:=jIP hW h.2;rw [e2];refine ⟨xM (by omega) (by omega) (by simp [isSigned]) (by simp [isTexted,isSigned]) (by simp) hx,a,b,by simp,?_⟩;rw [e,c5.1,e3];cases a <;> cases b <;> rfl
 rw [if_neg c5] at h;cases h
theorem jSK (ht:inP L t=true) (h:(tD L t).2=false):IsL (zI L t) (tD L t).1:=by
 unfold tD at h ⊢;simp only at h ⊢;by_cases c1:(nodeOf L t).kind=7
 ·rw [if_pos c1] at h ⊢;obtain ⟨h1,h2,h3⟩:=nd7 hW ht c1;rw [h3];exact jKY hW h2 h
 rw [if_neg c1] at h ⊢;by_cases c2:(nodeOf L t).kind=8∨(nodeOf L t).kind=9
 ·rw [if_pos c2] at h ⊢;obtain ⟨h1,h2,h3,h4⟩:=jAF hW ht h;generalize zT L t=r at *;obtain ⟨⟨k,f,c,x,g⟩,b⟩:=r;simp only at h1 h2 h3 h4 ⊢;subst h1;exact ⟨xM (by omega) h2 (by simp [isSigned]) (by simp [isTexted,isSigned]) (by simp) h4,false,false,by simp,h3⟩
 rw [if_neg c2] at h ⊢;split at h
 ·cases h
 rename_i c3;rw [if_neg c3];simp only [Bool.or_eq_true,Bool.not_eq_true',decide_eq_false_iff_not,not_or,Classical.not_not,Bool.not_eq_true] at c3;obtain ⟨_,hn,e⟩:=uK hW c3.1;show IsL _ ⟨7,0,_,⟨#[]⟩,false⟩;refine ⟨xM (by omega) (.inl rfl) (fun _=>rfl) (fun _=>rfl) (fun h=>nomatch h) (Nat.zero_le _),false,false,by simp,?_⟩;rw [e,c3.2,(jHD hW h).2];rfl
theorem jMM (ht:inP L t=true) {l:Letter} (h:IsL (zI L t) l):tD L t=(l,false):=by
 obtain ⟨k,f,c,x,g⟩:=l;obtain ⟨h1,a,b,h4,hT⟩:=h;obtain ⟨hk,hf,hs,hx,hg,_⟩:=jDC h1;have tagged:∀{who:Int} {gg:ByteArray} {y:Tree},zI L t=tC who (yC (qM gg) y)→(nodeOf L t).kind=7∧(nodeOf L t).frm=who∧inP L (nodeOf L t).a=true∧zI L (nodeOf L t).a=yC (qM gg) y∧∃n,zV L (nodeOf L t).a=((gg,n),false)∧inP L n=true∧zI L n=y:=by
  intro who gg y e;have k:=xK hW ht (e.trans rfl);obtain ⟨q1,_,q3⟩:=nd7 hW ht k.1;rw [e] at q3;have q:=(List.cons.inj (Tree.mk.inj q3).2.2.2.2.2).1;exact ⟨k.1,k.2.1,q1,q.symm,jBD hW q1 q.symm⟩
 rcases hk with rfl | rfl | rfl | rfl | rfl | rfl | rfl
 ·have e:zI L t=yY f (qD c x) g:=hT;have k:=xK hW ht (e.trans rfl);unfold tD;simp only;rw [if_neg (by rw [k.1];cases g <;> decide),if_pos (by rw [k.1];cases g <;> decide),jAG hW ht hf e]
 ·have e:zI L t=tC f (qD c x):=hT;have:g=false:=by cases g with
   | false=>rfl
   | true=>exact absurd (hg rfl) (by omega)
  subst this;obtain ⟨k,kf,h1,h2,n,e1,hn,e2⟩:=tagged e;unfold tD vZ;simp only;rw [if_pos k,e1,kf];simp only;rw [if_neg (fun q=>absurd q.1 (by decide)),if_neg (fun q=>absurd q.1 (by decide)),if_neg (fun q=>absurd q.1 (by decide)),if_pos ⟨trivial,by omega⟩,jFG hW h1 h2];rfl
 ·obtain rfl:f=0:=hs rfl;obtain rfl:x=⟨#[]⟩:=hx rfl;have:g=false:=by cases g with
   | false=>rfl
   | true=>exact absurd (hg rfl) (by omega)
  subst this;have e:zI L t=tC 0 (yC (qM uX) (jCP c)):=hT;obtain ⟨k,kf,h1,h2,n,e1,hn,e2⟩:=tagged e;obtain ⟨u1,u2⟩:=jHE hW hn e2;unfold tD vZ;simp only;rw [if_pos k,e1,kf];simp only;rw [if_pos ⟨trivial,trivial⟩,u1,u2];rfl
 ·have e:zI L t=tC f (yC (qM yG) (yC (yY 0 (qD c x) (g && a)) (yY 1 (qD c x) (g && b)))):=hT;obtain ⟨k,kf,h1,h2,n,e1,hn,e2⟩:=tagged e;have hgg:((g && a) || (g && b))=g:=by
   have:=h4 rfl;simp only at this;subst this;cases a <;> cases b <;> rfl
  unfold tD vZ;simp only;rw [if_pos k,e1,kf];simp only;rw [if_neg (fun q=>absurd q.1 (by decide)),if_neg (fun q=>absurd q.1 (by decide)),if_neg (fun q=>absurd q.1 (by decide)),if_neg (fun q=>absurd q.1 (by decide)),if_pos ⟨trivial,by omega⟩,jIQ hW hn e2,hgg];rfl
 ·obtain rfl:f=0:=hs rfl;obtain rfl:x=⟨#[]⟩:=hx rfl;have:g=false:=by cases g with
   | false=>rfl
   | true=>exact absurd (hg rfl) (by omega)
  subst this;have e:zI L t=tC 2 (yC (qM qZ) (jCP c)):=hT;obtain ⟨k,kf,h1,h2,n,e1,hn,e2⟩:=tagged e;obtain ⟨u1,u2⟩:=jHE hW hn e2;unfold tD vZ;simp only;rw [if_pos k,e1,kf];simp only;rw [if_neg (fun q=>absurd q.1 (by decide)),if_pos ⟨trivial,trivial⟩,u1,u2];rfl
 ·obtain rfl:f=0:=hs rfl;have:g=false:=by cases g with
   | false=>rfl
   | true=>exact absurd (hg rfl) (by omega)
  subst this;have e:zI L t=tC 2 (yC (qM yH) (qD c x)):=hT;obtain ⟨k,kf,h1,h2,n,e1,hn,e2⟩:=tagged e;unfold tD vZ;simp only;rw [if_pos k,e1,kf];simp only;rw [if_neg (fun q=>absurd q.1 (by decide)),if_neg (fun q=>absurd q.1 (by decide)),if_pos ⟨trivial,trivial⟩,jFG hW hn e2];rfl
 ·obtain rfl:f=0:=hs rfl;obtain rfl:x=⟨#[]⟩:=hx rfl;have:g=false:=by cases g with
   | false=>rfl
   | true=>exact absurd (hg rfl) (by omega)
  subst this;have e:zI L t=yC (qM jID) (jCP c):=hT;have k:=xK hW ht (e.trans rfl);obtain ⟨n,e1,hn,e2⟩:=jBD hW ht e;obtain ⟨u1,u2⟩:=jHE hW hn e2;unfold tD;simp only;rw [if_neg (by rw [k.1];decide),if_neg (by rw [k.1];decide),e1];simp only;rw [if_neg (by simp),u1,u2]
end
theorem jON (l:Letter) (a b:Bool):cnt (vQ l a b)≤40:=by
 unfold vQ;simp only [yY,qD,tC,yC,qM,jCP];split
 ·simp [cnt,jAI]
 split
 ·simp [cnt,jAI]
 split
 ·simp [cnt,jAI]
 split
 ·simp [cnt,jAI]
 split
 ·simp [cnt,jAI]
 split
 ·simp [cnt,jAI]
 ·simp [cnt,jAI]
theorem jBQ {x:Tree} {l:Letter}:∀{n i:Nat} {l':Letter},yI x l n i=some l'→∃f,i≤f∧f<i+n∧jHV x l f=true∧l'=uE l f
 | 0,i,l',h=>by cases h
 | n+1,i,l',h=>by
  unfold yI at h;split at h
  ·rename_i hf;cases h;exact ⟨i,by omega,by omega,hf,rfl⟩
  ·obtain ⟨f,h1,h2,h3,h4⟩:=jBQ h;exact ⟨f,by omega,by omega,h3,h4⟩
theorem jEO {x:Tree} {l:Letter} {f:Nat} (hf:jHV x l f=true):∀{n i:Nat},i≤f→f<i+n→yI x l n i≠none
 | 0,i,h1,h2=>by omega
 | n+1,i,h1,h2=>by
  unfold yI;split
  ·simp
  ·rename_i h;by_cases e:i=f
   ·subst e;exact absurd hf h
   ·exact jEO hf (by omega) (by omega)
theorem jBR {x:Tree} {k:Int}:∀{ps:List (List Nat)} {l:Letter},qU x k ps=some l→∃p∈ps,∃f,f<4∧jHV x (jKK x k p) f=true∧l=uE (jKK x k p) f
 | [],l,h=>by cases h
 | p :: ps,l,h=>by
  unfold qU at h;split at h
  ·rename_i l' he;cases h;obtain ⟨f,_,h2,h3,h4⟩:=jBQ he;exact ⟨p,by simp,f,by omega,h3,h4⟩
  ·obtain ⟨p',h1,h2⟩:=jBR h;exact ⟨p',by simp [h1],h2⟩
theorem jEP {x:Tree} {k:Int} {p:List Nat} {f:Nat} (hf:f<4) (h:jHV x (jKK x k p) f=true):∀{ps:List (List Nat)},p∈ps→qU x k ps≠none
 | [],hp=>by cases hp
 | q :: ps,hp=>by
  unfold qU;split
  ·simp
  ·rename_i he;rcases List.mem_cons.1 hp with e | e
   ·subst e;exact absurd he (jEO h (Nat.zero_le _) (by omega))
   ·exact jEP hf h e
theorem jBP {x:Tree}:∀{n:Nat} {i:Int} {l:Letter},yW x n i=some l→∃k p f,i≤k∧k<i+n∧f<4∧jHV x (jKK x k p) f=true∧l=uE (jKK x k p) f
 | 0,i,l,h=>by cases h
 | n+1,i,l,h=>by
  unfold yW at h;split at h
  ·rename_i l' he;cases h;obtain ⟨p,_,f,h1,h2,h3⟩:=jBR he;exact ⟨i,p,f,by omega,by omega,h1,h2,h3⟩
  ·obtain ⟨k,p,f,h1,h2,h3⟩:=jBP h;exact ⟨k,p,f,by omega,by omega,h3⟩
theorem jEN {x:Tree} {k:Int} {p:List Nat} {f:Nat} (hp:p∈deals) (hf:f<4) (h:jHV x (jKK x k p) f=true):∀{n:Nat} {i:Int},i≤k→k<i+n→yW x n i≠none
 | 0,i,h1,h2=>by omega
 | n+1,i,h1,h2=>by
  unfold yW;split
  ·simp
  ·rename_i he;by_cases e:i=k
   ·subst e;exact absurd he (jEP hf h hp)
   ·exact jEN hp hf h (by omega) (by omega)
theorem jVP {x:Tree} {l:Letter} {f:Nat} (hf:f<4) (h:jHV x l f=true):IsL x (uE l f):=by
 unfold jHV at h;simp only [Bool.and_eq_true,decide_eq_true_eq] at h;obtain ⟨⟨h1,h2⟩,h3⟩:=h;refine ⟨h1,f % 2 == 1,f / 2 == 1,fun _=>?_,((jME _ _).1 h3).symm⟩;have:f=0∨f=1∨f=2∨f=3:=by omega
 rcases this with rfl | rfl | rfl | rfl <;> rfl
theorem jFA {x:Tree} {l:Letter} (h:qO x=(l,true)):IsL x l:=by
 unfold qO at h;split at h
 ·rename_i l' he;cases h;obtain ⟨k,p,f,_,_,h1,h2,rfl⟩:=jBP he;exact jVP h1 h2
 ·cases h
theorem jFB {x:Tree} (h:(qO x).2=false):qO x=(yX,false)∧yW x 7 1=none:=by
 unfold qO at h ⊢;split at h
 ·cases h
 ·rename_i he;simp only [he];exact ⟨trivial,trivial⟩
theorem jVQ {x:Tree} {l l0:Letter} {f:Nat} (hl:qL l=0) (h1:uE l0 f=l) (h2:l0.kind=4∨f≠2) (h3:vQ l (f % 2 == 1) (f / 2 == 1)=x):jHV x l0 f=true:=by
 unfold jHV;rw [h1,(jME _ _).2 h3];simp [hl];exact h2
theorem jKX {x:Tree} {l:Letter} (h:IsL x l):(qO x).2=true:=by
 cases hr:(qO x).2 with
 | true=>rfl
 | false =>
  exfalso
  have hno:=(jFB hr).2
  obtain ⟨k,f,c,tx,g⟩:=l
  obtain ⟨h1,a,b,h4,hT⟩:=h
  obtain ⟨hk,hf,hs,hx,hg,_⟩:=jDC h1
  have go:∀(p:List Nat) (fk:Nat),p∈deals→fk<4→uE (jKK x k p) fk=⟨k,f,c,tx,g⟩→(k=4∨fk≠2)→vQ ⟨k,f,c,tx,g⟩ (fk % 2 == 1) (fk / 2 == 1)=x→False:=by
   intro p fk hp hfk e1 e2 e3;exact jEN (x:=x) (k:=k) hp hfk (jVQ h1 e1 (by simpa [jKK] using e2) e3) (n:=7) (i:=1) (by omega) (by omega) hno
  have nog:k≠1→k≠4→g=false:=by
   intro n1 n4;cases g with
   | false=>rfl
   | true=>exact absurd (hg rfl) (by omega)
  rcases hk with rfl | rfl | rfl | rfl | rfl | rfl | rfl
  ·subst hT
   cases g with
   | false=>exact go [0] 0 (by simp [deals]) (by omega) rfl (by omega) rfl
   | true=>exact go [0] 1 (by simp [deals]) (by omega) rfl (by omega) rfl
  ·obtain rfl:=nog (by omega) (by omega)
   subst hT
   exact go [0] 0 (by simp [deals]) (by omega) rfl (by omega) rfl
  ·obtain rfl:=nog (by omega) (by omega)
   obtain rfl:f=0:=hs rfl
   obtain rfl:tx=⟨#[]⟩:=hx rfl
   subst hT
   exact go [0] 0 (by simp [deals]) (by omega) rfl (by omega) rfl
  ·have:=h4 rfl
   simp only at this
   subst this
   subst hT
   cases a <;> cases b
   ·exact go [0,1,0,0] 0 (by simp [deals]) (by omega) rfl (by omega) rfl
   ·exact go [0,1,0,0] 2 (by simp [deals]) (by omega) rfl (by omega) rfl
   ·exact go [0,1,0,0] 1 (by simp [deals]) (by omega) rfl (by omega) rfl
   ·exact go [0,1,0,0] 3 (by simp [deals]) (by omega) rfl (by omega) rfl
  ·obtain rfl:=nog (by omega) (by omega)
   obtain rfl:f=0:=hs rfl
   obtain rfl:tx=⟨#[]⟩:=hx rfl
   subst hT
   exact go [0] 0 (by simp [deals]) (by omega) rfl (by omega) rfl
  ·obtain rfl:=nog (by omega) (by omega)
   obtain rfl:f=0:=hs rfl
   subst hT
   exact go [0,1] 0 (by simp [deals]) (by omega) rfl (by omega) rfl
  ·obtain rfl:=nog (by omega) (by omega)
   obtain rfl:f=0:=hs rfl
   obtain rfl:tx=⟨#[]⟩:=hx rfl
   subst hT
   exact go [0] 0 (by simp [deals]) (by omega) rfl (by omega) rfl
theorem jSJ {L:Pool} {t:Int} (h:inP L t=false):jNR L t=(yX,false):=by
 have e:nodeOf L t=jDM:=by simp [nodeOf,uL h]
 have e2:zV L t=((⟨#[]⟩,0),true)∨(zV L t).2=true:=by
  right;unfold zV;have:zX L t 4=(jDM,true):=by unfold zX;rw [if_neg (by rw [h];simp)]
  rw [this];rfl
 have e3:(zV L t).2=true:=by rcases e2 with e2 | e2 <;> simp [e2]
 have:(tD L t).2=true:=by
  unfold tD;simp only;rw [e,if_neg (by decide),if_neg (by decide),if_pos (by simp [e3])]
 unfold jNR;rw [if_pos this]
theorem jSI {L:Pool} (hW:Wf L) (t:Int):jNR L t=tU L t:=by
 cases hi:inP L t with
 | false =>
  rw [jSJ hi]
  unfold tU
  rw [if_neg (by simp [hi])]
 | true =>
  have hsz:=jSA hW _ t rfl hi
  cases hq:(tD L t).2 with
  | false =>
   have h:=jSK hW hi hq
   have hle:¬ sizeOf L t>40:=by
    obtain ⟨_,a,b,_,e⟩:=h;have:=jON (tD L t).1 a b;rw [← e] at this;omega
   have hr:=jKX h
   have e:qO (zI L t)=((qO (zI L t)).1,true):=Prod.ext rfl hr
   have:=jMM hW hi (jFA e)
   unfold jNR tU
   rw [if_neg (by simp [hq]),if_pos ⟨hi,hle⟩,e,this]
  | true =>
   unfold jNR
   rw [if_pos hq]
   unfold tU
   split
   ·cases hr:(qO (zI L t)).2 with
    | false=>exact (jFB hr).1.symm
    | true =>
     have e:qO (zI L t)=((qO (zI L t)).1,true):=Prod.ext rfl hr
     have:=jMM hW hi (jFA e)
     rw [this] at hq;cases hq
   ·rfl
end Go.Sp
end
section
open Go Go.SE
namespace Go.Sp
open Go.Proofs
def toS (l:Letter):Int:=if qL l≠0 then -1 else if l.kind=1∨l.kind=2 then IntKind.i64.wrap (1 - l.frm) else if l.kind=3∨l.kind=4 then 2 else -1
def jHK (bs:List UInt8):Letter×Bool:=if (jBF [] bs).2.1≠0 then (yX,false) else jNR (jBF [] bs).2.2.2 (jBF [] bs).1
end Go.Sp
namespace Go.Proofs
open Tryz
attribute [local irreducible] Calls
theorem c_ltTo (l:Sp.Letter) (w0:World):Calls prog 33 #[.agg #[.int .i64 l.kind,.int .i64 l.frm,.int .u64 l.c,.string l.text,.bool l.fake]] w0 (fun e w'=>∃r:Int,e=.returned (.int .i64 r)∧(r=Sp.toS l∧Pure w0 w')):=by
 refine w_K3 _ _ _ _ _ w0 (fun r w'=>r=Sp.toS l∧Pure w0 w') ?_;unfold m_K3;intro H1 w1 hs;have E1:=hs.first;refine (jFT l w1).mono ?_;rintro _ w2 ⟨r1,rfl,hr,E2⟩;have E02:=E1.trans E2;have fin:∀{H3 w3},Hst w0 H1 w2 H3 w3→Pure w0 w3:=fun h=>E02.hst h;refine ⟨_,rfl,E2.keptP,fun h=>⟨?_,E02⟩,fun h=>⟨fun h2=>?_,fun h2=>⟨fun h3=>?_,fun h3=>?_⟩⟩⟩
 ·unfold Sp.toS;rw [if_pos (by rw [← hr];exact bne_iff_ne.1 h)]
 ·intro H2 w3 hs2;refine ⟨?_,fin hs2⟩;unfold Sp.toS;rw [if_neg (by rw [← hr];simpa using h),if_pos (by cases hk:l.kind == 1 <;> simp [hk] at h2 <;> simp at hk <;> omega)]
 ·intro H2 w3 hs2;refine ⟨?_,fin hs2⟩;unfold Sp.toS;rw [if_neg (by rw [← hr];simpa using h),if_neg (by cases hk:l.kind == 1 <;> simp [hk] at h2 <;> simp at hk <;> omega),if_pos (by cases hk:l.kind == 3 <;> simp [hk] at h3 <;> simp at hk <;> omega)]
 ·intro H2 w3 hs2;refine ⟨?_,fin hs2⟩;unfold Sp.toS;rw [if_neg (by rw [← hr];simpa using h),if_neg (by cases hk:l.kind == 1 <;> simp [hk] at h2 <;> simp at hk <;> omega),if_neg (by cases hk:l.kind == 3 <;> simp [hk] at h3 <;> simp at hk <;> omega)]
theorem jOQ (l:Sp.Letter) (hl:Sp.jAH l.c) (w0:World) :
  Calls prog 28 #[.agg #[.int .i64 l.kind,.int .i64 l.frm,.int .u64 l.c,.string l.text,.bool l.fake]] w0 (fun e w'=>∃r:Sl,∃n:Int,e=.returned (.tuple #[r.v,.int .i64 n])∧(n=(Sp.jFZ l).2∧RetO w0 5 1 (byr (Sp.jFZ l).1) r w')):=by
 refine w_J2 _ _ _ _ _ w0 (fun r n w'=>n=(Sp.jFZ l).2∧RetO w0 5 1 (byr (Sp.jFZ l).1) r w') ?_
 unfold m_J2
 intro H1 w1 hs
 have E1:=hs.first
 refine (jTQ w1).mono ?_
 rintro _ w2 ⟨_,rfl,p,rfl,E2,F,hP,hF⟩
 refine ⟨_,rfl,E2.keptP,?_⟩
 refine (jRL p l w2 hP Sp.Wf.nil.ok).mono ?_
 rintro _ w3 ⟨r2,r3,rfl,e2,e3,F3,hP3,E3,hF3⟩
 have E02:=E1.trans E2
 have E03:Pure w0 w3:=E02.trans' E3 (fun i hi hf=>by have:=hF i hf;have:=E1.size;omega)
 refine ⟨_,_,rfl,E3.kept (fun b hb hf=>by have:=hs.lt b hb;have:=hF b hf;omega),fun hc=>?_,fun hc=>?_⟩
 ·have hc:=bne_iff_ne.1 hc
  have e:Sp.jFZ l=([],(qP [] l).2.1):=by unfold Sp.jFZ;rw [if_pos (by rw [← e3];exact hc)]
  rw [e]
  exact ⟨e3,Rws.nil _ _ _,fun b hb=>(by obtain ⟨a,ha,_⟩:=hb;cases ha),E03⟩
 ·have hc:r3=0:=by simpa using hc
  have e:Sp.jFZ l=jOV (qP [] l).2.2 (qP [] l).1:=by unfold Sp.jFZ;rw [if_neg (by rw [← e3];simpa using hc)]
  rw [e,← e2]
  refine (jTR p r2 w3 (Sp.jKI Sp.Wf.nil l) (Sp.jFV Sp.jAT.nil hl) hP3).mono ?_
  rintro _ w4 ⟨r4,r5,rfl,e5,hR⟩
  exact ⟨_,_,rfl,hR.pure.keptP,e5,hR.rows,fun b hb=>by have:=hR.own b hb;have:=E03.size;omega,E03.trans hR.pure⟩
theorem jGR {S0:NP} (sb:Sl) (bs:List UInt8) (w0:World) (hs:Lst S0 w0 1 sb (byr bs)) (hz:sb.a=none→sb=Sl.nil) :
  Calls prog 24 #[sb.v] w0 (fun e w'=>∃k f c:Int,∃x:ByteArray,∃g ok:Bool,e=.returned (.tuple #[.agg #[.int .i64 k,.int .i64 f,.int .u64 c,.string x,.bool g],.bool ok])∧(((⟨k,f,c,x,g⟩:Sp.Letter),ok)=Sp.jHK bs∧Pure w0 w')):=by
 refine w_I2 _ w0 (fun k f c x g ok w'=>((⟨k,f,c,x,g⟩:Sp.Letter),ok)=Sp.jHK bs∧Pure w0 w') ?_
 unfold m_I2
 intro H1 w1 hs1
 have E1:=hs1.first
 refine (jTQ w1).mono ?_
 rintro _ w2 ⟨_,rfl,p,rfl,E2,F,hP,hF⟩
 refine ⟨_,rfl,E2.keptP,?_⟩
 have E02:=E1.trans E2
 refine (jTS p sb bs w2 Sp.Wf.nil hP (hs.pure E02) hz).mono ?_
 rintro _ w3 ⟨t,x,y,rfl,rfl,rfl,rfl,F3,hP3,E3,hF3⟩
 have E03:Pure w0 w3:=E02.trans' E3 (fun i hi hf=>by have:=hF i hf;have:=E1.size;omega)
 refine ⟨_,_,_,rfl,E3.kept (fun b hb hf=>by have:=hs1.lt b hb;have:=hF b hf;omega),fun hc=>?_,fun hc=>?_⟩
 ·intro w4 hs4
  refine ⟨?_,E03.hst hs4⟩
  unfold Sp.jHK;rw [if_pos (bne_iff_ne.1 hc)];rfl
 ·refine (tW p (jBF [] bs).1 w3 hP3 (Sp.jLQ Sp.Wf.nil bs).ok).mono ?_
  rintro _ w5 ⟨k,f,c,x,g,ok,rfl,hr,E5⟩
  refine ⟨_,_,_,_,_,_,rfl,E5.keptP,fun w6 hs6=>⟨?_,(E03.trans E5).hst hs6⟩⟩
  unfold Sp.jHK;rw [if_neg (by simpa using hc),hr]
theorem jLV {S0:NP} (sb:Sl) (bs:List UInt8) (w0:World) (hs:Lst S0 w0 1 sb (byr bs)) (hz:sb.a=none→sb=Sl.nil) :
  Calls prog 25 #[sb.v] w0 (fun e w'=>∃k f c:Int,∃x:ByteArray,∃g ok:Bool,e=.returned (.tuple #[.agg #[.int .i64 k,.int .i64 f,.int .u64 c,.string x,.bool g],.bool ok])∧(((⟨k,f,c,x,g⟩:Sp.Letter),ok)=Sp.jHK bs∧Pure w0 w')):=by
 refine w_K2 _ w0 (fun k f c x g ok w'=>((⟨k,f,c,x,g⟩:Sp.Letter),ok)=Sp.jHK bs∧Pure w0 w') ?_
 unfold m_K2
 intro H1 w1 hs1
 have E1:=hs1.first
 refine (jFS w1).mono ?_
 rintro _ w2 ⟨_,rfl,p,F,rfl,hP,E2,hF⟩
 refine ⟨_,rfl,E2.keptP,?_⟩
 have E02:=E1.trans E2
 refine (jRA p sb bs w2 Sp.Wf.nil hP (hs.pure E02)).mono ?_
 rintro _ w3 ⟨t,x,y,rfl,rfl,rfl,rfl,F3,hP3,E3,hF3⟩
 have E03:Pure w0 w3:=E02.trans' E3 (fun i hi hf=>by have:=hF i hf;have:=E1.size;omega)
 refine ⟨_,_,_,rfl,E3.kept (fun b hb hf=>by have:=hs1.lt b hb;have:=hF b hf;omega),fun hc=>?_,fun hc=>?_⟩
 ·intro w4 hs4
  refine ⟨?_,E03.hst hs4⟩
  unfold Sp.jHK;rw [if_pos (bne_iff_ne.1 hc)];rfl
 ·refine (jJU p (Sp.jLQ Sp.Wf.nil bs) (jBF [] bs).1 w3 F3 hP3).mono ?_
  rintro _ w5 ⟨k,f,c,x,g,ok,rfl,hr,E5⟩
  refine ⟨_,_,_,_,_,_,rfl,E5.keptP,fun w6 hs6=>⟨?_,(E03.trans E5).hst hs6⟩⟩
  unfold Sp.jHK;rw [if_neg (by simpa using hc),hr,Sp.jSI (Sp.jLQ Sp.Wf.nil bs)]
end Go.Proofs
end
section
open Go Go.SE
namespace Go.Sp
open Go.Proofs
def hexT:ByteArray:=⟨#[48,49,50,51,52,53,54,55,56,57,97,98,99,100,101,102]⟩
def jVM (n:Nat):UInt8:=(hexT.data.toList[n]?).getD 0
def jOK (c:UInt8):List UInt8:=if c.toNat=34∨c.toNat=92 then [92,c] else if c.toNat=10 then [92,110] else if 32≤c.toNat∧c.toNat≤126 then [c] else [92,120,jVM (c.toNat / 16),jVM (c.toNat % 16)]
def jCS (k:Int):List UInt8 :=
 if k=1 then [112,114,111,109,105,115,101] else if k=2 then [115,105,103,110] else if k=3 then [97,98,111,114,116] else if k=4 then [114,101,115,111,108,118,101]
 else if k=5 then [116,111,107,101,110] else if k=6 then [105,110,115,116,101,97,100] else if k=7 then [102,117,108,108] else []
def jLB (x:ByteArray):List UInt8:=34 :: (x.data.toList.flatMap jOK++[34])
def jJB (l:Letter):List UInt8 :=
 if qL l≠0 then [] else
 jCS l.kind++(if l.fake=true then [33] else [])++(if isSigned l.kind=true then 32 :: Lib.decDigits l.frm.toNat else [])++(32 :: Lib.decDigits l.c.toNat)++(if isTexted l.kind=true then 32 :: jLB l.text else [])
theorem jMY (c:UInt8):(jOK c).length≤4:=by
 unfold jOK;repeat' split
 all_goals simp
theorem jQR:∀l:List UInt8,(l.flatMap jOK).length≤4*l.length
 | []=>by simp
 | c :: l=>by
  have:=jMY c;have:=jQR l;rw [List.flatMap_cons,List.length_append,List.length_cons];omega
theorem jPD (k:Int):(jCS k).length≤7:=by
 unfold jCS;repeat' split
 all_goals simp
end Go.Sp
end
section
open Go Go.SE
namespace Go.Proofs
open Tryz
set_option maxRecDepth 100000
set_option maxHeartbeats 4000000
attribute [local irreducible] wpL wpX opE wpE Calls
def m_Y4 (b1:Option Addr) (s1:ByteArray) (w0:World) (K:Int→Value→WP):Prop :=Calls prog 133 #[(vp b1)] w0 (fun e w1=>e=.returned (.tuple #[])∧∃a1,b1=some a1∧∃v1:Sl,w1.cell? (a1.add 1)=some v1.v∧∃s2:Sl,∃w2:World,(Builtin.append_ #[54,9] 54 #[v1.v,(vs s1)]).run prog w1=.ok s2.v w2∧∃a2,b1=some a2∧zS w2 (a2.add 1)∧∀w3,w3=w2.setCell (a2.add 1) s2.v→K (s1.size:Int) (.nilIface:Value) w3)
theorem w_Y4 (b1 s1 w0 K) (h:m_Y4 b1 s1 w0 K):
  Calls prog 76 #[(vp b1),(vs s1)] w0 (fun e w'=>∃r1,∃r2:Value,e=.returned (.tuple #[(vi r1),r2])∧K r1 r2 w'):=by
 refine cw (args:=[(vp b1),(vs s1)]) func76 ntmps76 (eg (q0 (vi 0) (q0 (.nilIface:Value) (ln (eg (q0 (vp b1) ?_))))))
 refine sc call133 (h.mono fun e w1 ⟨k,h⟩=>⟨_,k,?_⟩)
 refine ln (eg (qb (qm h fun a1 h=>q (ql (isAgg54 _) h fun v1 h=>q ?_))))
 obtain ⟨s2,w2,hv1,h⟩:=h
 refine st (v:=s2.v) (zF rfl) (vI (args:=#[v1.v,(vs s1)]) (by kernel_rfl) (fun _=>rfl) hv1) (qm h fun a2 h=>q (st1 (sizeOf54 _) h fun w3 h=>ln (eg (qd (ln (er (tY (.inl rfl) results76 (v:=(vi (s1.size:Int))) (by kernel_rfl) (v':=(.nilIface:Value)) (by kernel_rfl) ⟨(s1.size:Int),(.nilIface:Value),rfl,h⟩)))))))
def m_Z4 (b1:Option Addr) (c1:Int) (w0:World) (K:Value→WP):Prop :=Calls prog 133 #[(vp b1)] w0 (fun e w1=>e=.returned (.tuple #[])∧∃a1,b1=some a1∧∃v1:Sl,w1.cell? (a1.add 1)=some v1.v∧∀p1 w2,New w1 (.cells #[(.int .u8 c1)] 5) p1 w2→∃s1:Sl,∃w3:World,(Builtin.append_ #[54,54] 54 #[v1.v,(Sl.mk (some p1) 1 1).v]).run prog w2=.ok s1.v w3∧∃a2,b1=some a2∧zS w3 (a2.add 1)∧∀w4,w4=w3.setCell (a2.add 1) s1.v→K (.nilIface:Value) w4)
theorem w_Z4 (b1 c1 w0 K) (h:m_Z4 b1 c1 w0 K):
  Calls prog 77 #[(vp b1),(.int .u8 c1)] w0 (fun e w'=>∃r1:Value,e=.returned r1∧K r1 w'):=by
 refine cw (args:=[(vp b1),(.int .u8 c1)]) func77 ntmps77 (eg (q0 (.nilIface:Value) (ln (eg (q0 (vp b1) ?_)))))
 refine sc call133 (h.mono fun e w1 ⟨k,h⟩=>⟨_,k,?_⟩)
 refine ln (eg (qb (qm h fun a1 h=>q (ql (isAgg54 _) h fun v1 h=>q (uO (O:=(.cells #[(.int .u8 c1)] 5)) (fun p=>(Sl.mk (some p) 1 1).v) (zF rfl) (vM (vs:=#[(0,(.int .u8 c1))]) (by kernel_rfl) (by kernel_rfl)) ?_)))))
 intro p1 w2 hn2
 have h:=h p1 w2 hn2
 obtain ⟨s1,w3,hv1,h⟩:=h
 refine st (v:=s1.v) (zF rfl) (vI (args:=#[v1.v,(Sl.mk (some p1) 1 1).v]) (by kernel_rfl) (fun _=>rfl) hv1) (qm h fun a2 h=>q (st1 (sizeOf54 _) h fun w4 h=>ln (eg (q (ln (er (rs1 results77 ⟨(.nilIface:Value),rfl,h⟩)))))))
end Go.Proofs
end
section
open Go Go.SE
namespace Go.SE
theorem jQQ {B:Nat} {w w':World} (h:RowKit.Below B w w'):Ext (fun b=>B≤b) w w':=⟨h.os,h.tape,h.output,(by first | exact Nat.le_refl _),h.size,fun b _ hf=>h.block b (by omega)⟩
end Go.SE
namespace Go.Proofs
open Tryz
attribute [local irreducible] Calls
def Bld (w:World) (p:Addr) (l:List UInt8):Prop :=
 ∃(q:Value) (s:Sl),Box w p [q,s.v] 126∧(q=.pointer none∨q=.pointer (some p))∧Rws w 5 1 s (byr l)∧∀b,s.blk b→p.block<b
abbrev From (p:Addr) (b:Nat):Prop:=p.block≤b
section
variable {w w':World} {p:Addr} {l:List UInt8}
theorem Bld.pure (h:Bld w p l) (E:Pure w w'):Bld w' p l:=by
 obtain ⟨q,s,hB,hq,hR,hb⟩:=h;exact ⟨q,s,hB.pure E,hq,hR.pure E,hb⟩
theorem Bld.lt (h:Bld w p l):p.block<w.heap.size:=by obtain ⟨q,s,hB,_⟩:=h;exact hB.lt
theorem Bld.new (h:New w (.cells #[.pointer none,Sl.nil.v] 126) p w'):Bld w' p [] :=
 ⟨_,Sl.nil,Box.of_newA h,.inl rfl,Rws.nil _ _ _,fun b hb=>(by obtain ⟨a,h,_⟩:=hb;cases h)⟩
theorem jFU {q:Value} {s:Sl} (hB:Box w p [q,s.v] 126) (hq:q=.pointer none∨q=.pointer (some p)) :
  Calls prog 133 #[.pointer (some p)] w (fun e w'=>e=.returned (.tuple #[])∧Box w' p [.pointer (some p),s.v] 126∧Ext (·=p.block) w w'):=by
 have hp:=hB.addr
 have h0:w.cell? ⟨p.block,0,none⟩=some q:=by have:=hB.cell0;rwa [hp] at this
 rcases hq with rfl | rfl
 ·have h1:=jTI p.block w h0 (by simp [World.shape?,hB.blk]) (by simp [World.frozen?,hB.blk])
  rw [← hp] at h1
  refine h1.mono ?_
  rintro _ w' ⟨rfl,rfl⟩
  exact ⟨rfl,hB.set0,Ext.setCell _ _⟩
 ·rw [hp] at h0
  have h1:=jVR p.block w h0
  rw [← hp] at h1
  refine h1.mono ?_
  rintro _ w' ⟨rfl,rfl⟩
  exact ⟨rfl,hB,Ext.refl _⟩
theorem jJR (h:Bld w p l) (s:ByteArray) (hl:l.length+s.size≤100000000) :
  Calls prog 76 #[.pointer (some p),.string s] w (fun e w'=>∃r1:Int,∃r2:Value,e=.returned (.tuple #[.int .i64 r1,r2])∧(Bld w' p (l++s.data.toList)∧Ext (From p) w w')):=by
 refine w_Y4 (some p) s w (fun r1 r2 w'=>Bld w' p (l++s.data.toList)∧Ext (From p) w w') ?_
 unfold m_Y4
 obtain ⟨q,sl,hB,hq,hR,hb⟩:=h
 refine (jFU hB hq).mono ?_
 rintro _ w1 ⟨rfl,hB1,E1⟩
 have hR1:=hR.ext E1 (fun b hs e=>by have:=hb b hs;omega)
 obtain ⟨s',w2,hrun,hR2,E2,hn⟩:=hR1.appendStr (P:=prog) (ty:=54) jAV underlying9 s (by rw [vN];omega) (by rw [vN];simp only [maxLen];omega)
 have z1:=E1.size;have hlt:=hB.lt
 have hB2:=hB1.ext E2 (fun hs=>by have:=hb _ hs;omega)
 refine ⟨rfl,p,rfl,sl,hB1.cell rfl,s',w2,hrun,p,rfl,hB2.canW (by simp),?_⟩
 rintro _ rfl
 have E3:Ext (·=p.block) w2 (w2.setCell (p.add 1) s'.v):=by have:=Ext.setCell (w:=w2) (p.add 1) s'.v;rw [zQ] at this;exact this
 have hb':∀b,s'.blk b→p.block<b:=fun b hs=>(hn b hs).elim (hb b) (fun h=>by omega)
 refine ⟨⟨_,s',hB2.set 1 _,.inr rfl,?_,hb'⟩,?_⟩
 ·have e:byr l++byr s.data.toList=byr (l++s.data.toList):=by simp [byr]
  rw [← e]
  exact hR2.ext E3 (fun b hs e=>by have:=hb' b hs;omega)
 ·exact ((E1.mono (fun b _ e=>by show p.block≤b;omega)).trans (E2.mono (fun b _ hs=>by have:=hb b hs;show p.block≤b;omega))).trans (E3.mono (fun b _ e=>by show p.block≤b;omega))
theorem jQW (h:Bld w p l) (c:UInt8) (hl:l.length+1≤100000000) :
  Calls prog 77 #[.pointer (some p),.int .u8 (c.toNat:Int)] w (fun e w'=>∃r:Value,e=.returned r∧(Bld w' p (l++[c])∧Ext (From p) w w')):=by
 refine w_Z4 (some p) (c.toNat:Int) w (fun r w'=>Bld w' p (l++[c])∧Ext (From p) w w') ?_
 unfold m_Z4
 obtain ⟨q,sl,hB,hq,hR,hb⟩:=h
 refine (jFU hB hq).mono ?_
 rintro _ w1 ⟨rfl,hB1,E1⟩
 have hR1:=hR.ext E1 (fun b hs e=>by have:=hb b hs;omega)
 refine ⟨rfl,p,rfl,sl,hB1.cell rfl,fun p1 w2 n2=>?_⟩
 have En:Pure w1 w2:=Ext.new n2
 obtain ⟨s',w3,hrun,hR2,E2,hn⟩:=(hR1.pure En).append (P:=prog) (ty:=54) (c:=1) jAV (p:=p1) (r:=[.int .u8 (c.toNat:Int)]) (Box.of_newA n2).row rfl rfl (by rw [vN];omega) (by rw [vN];simp only [maxLen];omega)
 have z1:=E1.size;have hlt:=hB.lt;have zn:=En.size
 have hB2:=(hB1.pure En).ext E2 (fun hs=>by have:=hb _ hs;omega)
 refine ⟨s',w3,hrun,p,rfl,hB2.canW (by simp),?_⟩
 rintro _ rfl
 have E3:Ext (·=p.block) w3 (w3.setCell (p.add 1) s'.v):=by have:=Ext.setCell (w:=w3) (p.add 1) s'.v;rw [zQ] at this;exact this
 have hb':∀b,s'.blk b→p.block<b:=fun b hs=>(hn b hs).elim (hb b) (fun h=>by omega)
 refine ⟨⟨_,s',hB2.set 1 _,.inr rfl,?_,hb'⟩,?_⟩
 ·have e:byr l++[[.int .u8 (c.toNat:Int)]]=byr (l++[c]):=by simp [byr]
  rw [← e]
  exact hR2.ext E3 (fun b hs e=>by have:=hb' b hs;omega)
 ·exact (((E1.mono (fun b _ e=>by show p.block≤b;omega)).thenPure En).trans (E2.mono (fun b _ hs=>by have:=hb b hs;show p.block≤b;omega))).trans (E3.mono (fun b _ e=>by show p.block≤b;omega))
theorem jUH (h:Bld w p l) :
  Calls prog 81 #[.pointer (some p)] w (fun e w'=>∃r:ByteArray,e=.returned (.string r)∧(r=⟨l.toArray⟩∧Ext (From p) w w')):=by
 obtain ⟨q,s,hB,hq,hR,hb⟩:=h
 have hp:=hB.addr
 have hown:w.ownsRow p.block 5 1 s.v (Lib.byteCells l).length (Lib.byteCells l):=by
  have hf:(byr l).flatten=Lib.byteCells l:=by
   unfold byr Lib.byteCells;have:∀l:List UInt8,(l.map fun b=>[Value.int .u8 (b.toNat:Int)]).flatten=l.map fun b=>Value.int .u8 (b.toNat:Int):=fun l=>by
    induction l with
    | nil=>rfl
    | cons a t ih=>rw [List.map_cons,List.flatten_cons,ih];rfl
   exact this l
  have hl:(Lib.byteCells l).length=l.length:=Lib.byteCells_length l;refine ⟨by omega,?_⟩;rcases hR.own with ⟨rfl,hnil⟩ | ⟨g,cur,ha,hg,hc,hm,hs,ht⟩
  ·have:l=[]:=by cases l with | nil=>rfl | cons a t=>simp [byr] at hnil
   subst this;exact .inl ⟨rfl,rfl⟩
  ·refine .inr ⟨g,s.cap,cur,?_,?_,hg,by rw [hl];rw [vN] at hc;exact hc,hm,hs,?_⟩
   ·unfold Sl.v;rw [ha,hR.len,vN,hl]
   ·exact Nat.le_of_lt (hb g ⟨_,ha,rfl⟩)
   ·rw [hl,← hf,← ht,vN]
 have hat:Lib.IsBuilder 126 5 p.block p.block (Lib.byteCells l) w:=by
  have hA:∀q',q=q'→Lib.BuilderAt 126 5 p.block p.block q' (Lib.byteCells l) w:=by
   rintro _ rfl;refine ⟨Nat.le_refl _,s.v,hB.blk,hown,?_⟩;intro e;unfold Value.ownBlock Sl.v at e;cases ha:s.a with
   | none=>rw [ha] at e;cases e
   | some a =>
    rw [ha] at e
    simp at e
    have:=hb a.block ⟨a,ha,rfl⟩
    omega
  rcases hq with h | h
  ·exact .inl (hA _ h)
  ·refine .inr ?_;have:=hA _ h;rwa [hp] at this
 have hlt:=hB.lt
 have:=jSW p.block p.block l w hat (by omega)
 rw [← hp] at this
 refine this.mono ?_
 rintro _ w' ⟨rfl,h2⟩
 exact ⟨_,rfl,rfl,jQQ h2⟩
end
end Go.Proofs
end
section
open Go Go.SE
open Go.IntKind renaming i64 → q6
namespace Go.Proofs
open Tryz
set_option maxRecDepth 100000
set_option maxHeartbeats 4000000
attribute [local irreducible] wpL wpX opE wpE Calls
def m_A5 (i1 base1:Int) (w0:World) (K:ByteArray→WP):Prop :=Br (base1 == 10) (Br (decide (i1<100)) (Calls prog 176 #[(vi (q6.wrap i1))] w0 (fun e w1=>∃r1,e=.returned (vs r1)∧K r1 w1)) (∀p1 w2,New w0 (.cells #[(.int .u8 0),(.int .u8 0),(.int .u8 0),(.int .u8 0),(.int .u8 0),(.int .u8 0),(.int .u8 0),(.int .u8 0),(.int .u8 0),(.int .u8 0),(.int .u8 0),(.int .u8 0),(.int .u8 0),(.int .u8 0),(.int .u8 0),(.int .u8 0),(.int .u8 0),(.int .u8 0),(.int .u8 0),(.int .u8 0),(.int .u8 0),(.int .u8 0),(.int .u8 0),(.int .u8 0)] 244) p1 w2→Calls prog 177 #[(vu i1)] w2 (fun e w3=>∃r2,e=.returned (vi r2)∧∃s1:Sl,(Instr.sliceAt 244 (vp (some p1)) none (some (vi r2)) none).run prog w3=.ok s1.v w3∧Calls prog 178 #[s1.v,(vu i1)] w3 (fun e w4=>e=.returned (.tuple #[])∧∃s2:Sl,(Instr.sliceAt 244 (vp (some p1)) none (some (vi r2)) none).run prog w4=.ok s2.v w4∧∃c1,(convert 54 9 s2.v).run prog w4=.ok (vs c1) w4∧K c1 w4)))) (Calls prog 179 #[Sl.nil.v,(vu i1),(vi base1),(vb false),(vb false)] w0 (fun e w5=>∃r3:Sl,∃r4,e=.returned (.tuple #[r3.v,(vs r4)])∧K r4 w5))
theorem w_A5 (i1 base1 w0 K) (h:m_A5 i1 base1 w0 K):
  Calls prog 135 #[(vu i1),(vi base1)] w0 (fun e w'=>∃r5,e=.returned (vs r5)∧K r5 w'):=by
 refine cw (args:=[(vu i1),(vi base1)]) func135 ntmps135 (eg (q0 ve (ln (zA (eg (q0 (vi base1) (q0 (vb (base1 == 10)) (zB ?_))))))))
 refine zJ (cbr h ?_ ?_)<;>intro h
 refine zA (eg (qb (ln (cbr h ?_ ?_))))<;>intro h
 refine eg (qb (sc call176 (h.mono fun e w1 ⟨r1,k,h⟩=>⟨_,k,?_⟩)))
 refine q (ln (er (zW (zW (rs1 results135 ⟨r1,rfl,h⟩)))))
 refine zC (zJ (eg (nw1 h (zG (zeroValue244 _) rfl) fun p1 w2 h=>ln (eg (q (sc call177 (h.mono fun e w3 ⟨r2,k,h⟩=>⟨_,k,?_⟩)))))))
 refine q (ln (eg (q ?_)))
 obtain ⟨s1,hv3,h⟩:=h
 refine q2 s1.v (uJ (by kernel_rfl) (by kernel_rfl) (by kernel_rfl) (by kernel_rfl) hv3) (q (sc call178 (h.mono fun e w4 ⟨k,h⟩=>⟨_,k,?_⟩)))
 refine ln (eg (q ?_))
 obtain ⟨s2,hv2,h⟩:=h
 refine q2 s2.v (uJ (by kernel_rfl) (by kernel_rfl) (by kernel_rfl) (by kernel_rfl) hv2) ?_
 obtain ⟨c1,hv1,h⟩:=h
 refine q2 (vs c1) (xG (by kernel_rfl) hv1) (q (ln (er (zW (rs1 results135 ⟨c1,rfl,h⟩)))))
 refine zC (zJ (eg (qb (sc call179 (h.mono fun e w5 ⟨r3,r4,k,h⟩=>⟨_,k,?_⟩)))))
 refine q (qd (ln (eg (qb (zB (zJ (er (rs1 results135 ⟨r4,rfl,h⟩))))))))
def m_B5 (i1 base1:Int) (w0:World) (K:ByteArray→WP):Prop :=Calls prog 135 #[(vu i1),(vi base1)] w0 (fun e w1=>∃r1,e=.returned (vs r1)∧K r1 w1)
theorem w_B5 (i1 base1 w0 K) (h:m_B5 i1 base1 w0 K):
  Calls prog 79 #[(vu i1),(vi base1)] w0 (fun e w'=>∃r2,e=.returned (vs r2)∧K r2 w'):=by
 refine cw (args:=[(vu i1),(vi base1)]) func79 ntmps79 (eg (q0 ve (ln (eg (q0 (vu i1) (q0 (vi base1) ?_))))))
 refine sc call135 (h.mono fun e w1 ⟨r1,k,h⟩=>⟨_,k,?_⟩)
 refine q (ln (er (rs1 results79 ⟨r1,rfl,h⟩)))
end Go.Proofs
end
section
open Go Go.SE
namespace Go.SE
theorem jDI {w:World} {k:Nat} {os:Array Obj}:Pure w (Sort.grow (w.drewN k) os):=by
 refine ⟨rfl,rfl,rfl,(by first | exact Nat.le_add_right _ _ | exact Nat.le_refl _),by simp [Sort.grow,World.drewN],fun b hb _=>?_⟩;show (w.heap++os)[b]?=w.heap[b]?;exact Array.getElem?_append_left hb
theorem jAN {P:Program} {w w':World} {name:String} {k:IntKind} {zs:List Int} (h:Lib.TabIs P w name k zs) (E:Pure w w'):Lib.TabIs P w' name k zs:=by
 unfold Lib.TabIs World.var? at *;cases hg:P.globalNamed name with
 | none=>simp [hg] at h
 | some g =>
  simp only [hg,Option.bind_some] at h ⊢
  have hlt:g<w.heap.size:=by
   rcases Nat.lt_or_ge g w.heap.size with h' | h'
   ·exact h'
   ·rw [Array.getElem?_eq_none h'] at h;simp at h
  rw [E.keep g hlt id]
  exact h
theorem jLL (w:World) (T:TypeId) (nd:Nat) (hs:nd≤24):Sort.Holds (fun (b:UInt8)=>Value.int .u8 (b.toNat:Int)) (w.alloc (.cells Lib.zeros24 T)) w.heap.size 0 (Array.replicate nd (0:UInt8)):=fun j hj=>by
 have hj':j<nd:=by simpa using hj
 refine ⟨?_,World.frozen?_alloc_new _ _ _ _⟩;rw [World.cell?_alloc_new,Lib.zeros24_at _ (by omega),getElem!_pos _ j hj];simp
theorem jTE (w:World) (o:Obj) (dk:Array UInt8) (k:Nat):∃os,(Sort.putRow (fun (b:UInt8)=>Value.int .u8 (b.toNat:Int)) (w.alloc o) w.heap.size 0 dk).drewN k=Sort.grow (w.drewN k) os:=by
 rw [Sort.alloc_eq_grow];obtain ⟨os',_,e⟩:=Sort.putRow_grow_new (fun (b:UInt8)=>Value.int .u8 (b.toNat:Int)) w #[o] w.heap.size 0 dk (Nat.le_refl _);exact ⟨os',by rw [e];rfl⟩
end Go.SE
namespace Go.Proofs
open Tryz
attribute [local irreducible] Calls
abbrev Pow (w : World) : Prop := Lib.TabIs prog w "internal/strconv.uint64pow10" .u64 Lib.pow10Tab
theorem jKG (n:Nat) (hn:n<18446744073709551616) (w0:World) (ht:Pow w0) :
  Calls prog 79 #[.int .u64 (n:Int),.int .i64 10] w0 (fun e w'=>∃r:ByteArray,e=.returned (.string r)∧r=⟨(Lib.decDigits n).toArray⟩∧Pure w0 w'):=by
 refine w_B5 _ _ w0 (fun r w'=>r=⟨(Lib.decDigits n).toArray⟩∧Pure w0 w') ?_
 unfold m_B5
 refine w_A5 _ _ w0 (fun r w'=>r=⟨(Lib.decDigits n).toArray⟩∧Pure w0 w') ?_
 unfold m_A5
 refine ⟨fun _=>⟨fun h=>?_,fun h=>?_⟩,fun h=>absurd h (by decide)⟩
 ·have h:=of_decide_eq_true h
  have hw:IntKind.i64.wrap (n:Int)=(n:Int):=IntWalk.i64_in _ ⟨by omega,by omega⟩
  rw [hw]
  refine (jQI n (by omega) w0).mono ?_
  rintro _ w1 ⟨rfl,rfl⟩
  exact ⟨_,rfl,rfl,Ext.refl _⟩
 ·have h:¬ (n:Int)<100:=of_decide_eq_false h
  intro p1 w2 h2
  obtain ⟨hp,hw⟩:=h2
  subst hp;subst hw
  have hnd:=Lib.numDigits_eq n (by omega) hn
  have hnd20:Lib.nDigits n≤20:=by split at hnd <;> omega
  refine (jHL n (by omega) hn _ (Lib.tabIs_alloc ht _)).mono ?_
  rintro _ w3 ⟨rfl,rfl⟩
  have hal:prog.arrayLen 244=24:=by simp [Program.arrayLen,underlying244]
  have hsl:∀W,(Instr.sliceAt 244 (.pointer (some ⟨w0.heap.size,0,none⟩)) none (some (.int .i64 (Lib.nDigits n:Int))) none).run prog W=.ok (Sl.mk (some ⟨w0.heap.size,0,none⟩) (Lib.nDigits n) 24).v W:=fun W=>by
   rw [run_sliceAt_array_h W 244 ⟨w0.heap.size,0,none⟩ (by simp [Program.arrayLen,Program.elem,underlying244]) .i64 (Lib.nDigits n:Int) (by omega) (by rw [hal];omega)];go_simp;unfold Sl.v;simp
  refine ⟨_,rfl,Sl.mk (some ⟨w0.heap.size,0,none⟩) (Lib.nDigits n) 24,hsl _,?_⟩
  have hH0:=jLL w0 244 (Lib.nDigits n) (by omega)
  have hf:=jOD w0.heap.size 0 24 n (Array.replicate (Lib.nDigits n) 0) _ hH0 (by rw [Array.size_replicate];exact Lib.lt_pow_nDigits n) hn (by rw [Array.size_replicate];omega)
  rw [Array.size_replicate] at hf
  have hH1:=Lib.hid hH0
  refine Calls.mono hf ?_
  rintro _ w4 ⟨rfl,k,v',dk,rfl,hF⟩
  refine ⟨rfl,Sl.mk (some ⟨w0.heap.size,0,none⟩) (Lib.nDigits n) 24,hsl _,⟨(Lib.decDigits n).toArray⟩,?_,rfl,?_⟩
  ·have h := run_convert_bytes_back (P := prog) ((Sort.putRow (fun (b : UInt8) => Value.int .u8 (b.toNat : Int)) (w0.alloc (.cells Lib.zeros24 244)) w0.heap.size 0 dk).drewN k) 54 9 5 ⟨w0.heap.size, 0, none⟩ 24 (Lib.decDigits n) underlying54 underlying5 underlying9 (fun j hj => by
    rw [Lib.row_is_numeral hF j hj,Lib.add_plain,World.cell?_drewN];exact Sort.cell?_putRow (fun (b:UInt8)=>Value.int .u8 (b.toNat:Int)) _ w0.heap.size 0 _ dk hH1.out (by rw [hF.size,Array.size_replicate]) j (by rw [hF.size];rw [Lib.decDigits_length] at hj;exact hj))
   rw [Lib.decDigits_length] at h
   exact h
  ·obtain ⟨os,eo⟩:=jTE w0 (.cells Lib.zeros24 244) dk k
   have E:Pure w0 (Sort.grow (w0.drewN k) os):=jDI
   rw [← eo] at E
   exact E
theorem c_Itoa (n:Int) (h0:-9223372036854775808≤n) (h1:n≤9223372036854775807) (w0:World) (ht:Pow w0) :
  Calls prog 78 #[.int .i64 n] w0 (fun e w'=>∃r:ByteArray,e=.returned (.string r)∧r=⟨(Lib.itoa n).toArray⟩∧Pure w0 w'):=by
 refine (jSX n h0 h1 w0 ht).mono ?_
 rintro _ w1 ⟨rfl,k,os,rfl⟩
 exact ⟨_,rfl,rfl,jDI⟩
theorem nd20 {n:Nat} (h:n<18446744073709551616):(Lib.decDigits n).length≤20:=by
 rw [Lib.decDigits_length];by_cases h0:n<10
 ·rw [Lib.nDigits_small h0];omega
 ·have:=Lib.numDigits_eq n (by omega) h;split at this <;> omega
end Go.Proofs
end
section
open Go Go.SE
namespace Go.Proofs
open Tryz
attribute [local irreducible] Calls
theorem jPF:∀n:Fin 128,Utf8.encode (n.val:Int)=⟨#[UInt8.ofNat n.val]⟩:=by decide +kernel
theorem jMG (n:Nat) (h:n<128) (w:World):(convert 21 9 (.int .i32 (IntKind.i32.wrap (n:Int)))).run prog w=.ok (.string ⟨#[UInt8.ofNat n]⟩) w:=by
 have hw:IntKind.i32.wrap (n:Int)=(n:Int):=by simp [IntKind.wrap,IntKind.bits,IntKind.signed];omega
 rw [hw];have:=jPF ⟨n,h⟩;simp only at this;simp [convert,run_underlying underlying21,run_underlying underlying9,Conv.intToString,this]
theorem jUC (n:Nat) (h:n<16) (w:World):(Instr.sliceAt 9 (.string Sp.hexT) (some (.int .u8 (n:Int))) (some (.int .u8 (IntKind.u8.wrap ((n:Int)+1)))) none).run prog w=.ok (.string ⟨#[Sp.jVM n]⟩) w:=by
 have hw:IntKind.u8.wrap ((n:Int)+1)=((n+1:Nat):Int):=by simp [IntKind.wrap,IntKind.bits,IntKind.signed];omega
 rw [hw,run_sliceAt_string _ _ _ _ _ _ underlying9,run_slice_string_if _ _ _ _ _ _ _ underlying9,if_pos ⟨by omega,by show ((n+1:Nat):Int)≤16;omega⟩,if_pos ⟨by omega,by omega⟩];have he:∀m:Fin 16,Sp.hexT.extract m.val (m.val+1)=⟨#[Sp.jVM m.val]⟩:=by decide +kernel
 have:=he ⟨n,h⟩;simp only [Int.toNat_natCast] at this ⊢;rw [this]
theorem jMF {P:Program} {t:TypeId} (n:Nat) (w:World):(Go.binOp .shr t (.int .u8 (n:Int)) (.int .u64 4)).run P w=.ok (.int .u8 ((n / 16:Nat):Int)) w:=by
 simp [Go.binOp,go_sem,IntKind.bits]
theorem jIL {P:Program} {t:TypeId} (c:Nat) (h:c<256) (w:World):(Go.binOp .and t (.int .u8 (c:Int)) (.int .u8 15)).run P w=.ok (.int .u8 ((c % 16:Nat):Int)) w:=by
 have hr:IntKind.u8.wrap ((BitVec.ofInt IntKind.u8.bits (c:Int) &&& BitVec.ofInt IntKind.u8.bits 15).toNat:Int)=((c % 16:Nat):Int):=by
  have e1:(BitVec.ofInt IntKind.u8.bits (c:Int)).toNat=c:=by
   rw [BitVec.toNat_ofInt];simp [IntKind.bits];omega
  have e2:(BitVec.ofInt IntKind.u8.bits 15).toNat=2 ^ 4 - 1:=by decide
  rw [BitVec.toNat_and,e1,e2,Nat.and_two_pow_sub_one_eq_mod,jCR];simp only [UInt8.toNat_ofNat'];omega
 show ((pure (Value.int .u8 _):Sem Value)).run P w=_;rw [hr];rfl
theorem jBY {P:Program} {t:TypeId} (w:World) (x y:List UInt8) (hx:x.length≤100000) (hy:y.length≤100000) :
  (Go.binOp .add t (.string ⟨x.toArray⟩) (.string ⟨y.toArray⟩)).run P w=.ok (.string ⟨(x++y).toArray⟩) w:=by
 rw [binOp_string_add]
 exact run_string_add_lists w x y (by omega) (by omega)
theorem jOR (c:UInt8) (w0:World):Calls prog 80 #[.int .u8 (c.toNat:Int)] w0 (fun e w'=>∃r:ByteArray,e=.returned (.string r)∧(r=⟨(Sp.jOK c).toArray⟩∧Pure w0 w')):=by
 refine w_I1 _ w0 (fun r w'=>r=⟨(Sp.jOK c).toArray⟩∧Pure w0 w') ?_;unfold m_I1;have hc:c.toNat<256:=c.toNat_lt;have ofN:UInt8.ofNat c.toNat=c:=by simp
 refine ⟨fun h=>?_,fun h=>⟨fun h2=>?_,fun h2=>⟨fun h3=>?_,fun h3=>?_⟩⟩⟩
 ·intro H2 w3 hs;have h:c.toNat=34∨c.toNat=92:=by simp at h;omega
  refine ⟨_,jMG c.toNat (by omega) w3,_,jBY w3 [92] [c] (by simp) (by simp) |> (fun h=>by rw [ofN];exact h),?_,hs.first⟩;unfold Sp.jOK;rw [if_pos h];rfl
 ·intro H2 w3 hs;have h:¬ (c.toNat=34∨c.toNat=92):=by simp at h;omega
  have h2:c.toNat=10:=by simp at h2;omega
  refine ⟨?_,hs.first⟩;unfold Sp.jOK;rw [if_neg h,if_pos h2]
 ·intro H5 w6 hs;have h:¬ (c.toNat=34∨c.toNat=92):=by simp at h;omega
  have h2:¬ c.toNat=10:=by simp at h2;omega
  have h3:32≤c.toNat∧c.toNat≤126:=by simp at h3;omega
  refine ⟨_,jMG c.toNat (by omega) w6,?_,hs.first⟩;unfold Sp.jOK;rw [if_neg h,if_neg h2,if_pos h3,ofN]
 ·intro H5 w6 hs;have h:¬ (c.toNat=34∨c.toNat=92):=by simp at h;omega
  have h2:¬ c.toNat=10:=by simp at h2;omega
  have h3:¬ (32≤c.toNat∧c.toNat≤126):=by simp at h3;omega
  unfold m_I1_j1;intro w1 hs1;refine ⟨_,jMF c.toNat w1,_,jMF c.toNat w1,_,jUC (c.toNat / 16) (by omega) w1,_,jBY w1 [92,120] [Sp.jVM (c.toNat / 16)] (by simp) (by simp),_,jIL c.toNat hc w1,_,jIL c.toNat hc w1,_,jUC (c.toNat % 16) (by omega) w1,_,jBY w1 [92,120,Sp.jVM (c.toNat / 16)] [Sp.jVM (c.toNat % 16)] (by simp) (by simp),?_,hs.first.hst hs1⟩;unfold Sp.jOK;rw [if_neg h,if_neg h2,if_neg h3];rfl
end Go.Proofs
namespace Go.Proofs
open Tryz
attribute [local irreducible] Calls
theorem jVL (x:ByteArray) (n:Nat) (h:n<x.data.toList.length) (w:World):(Instr.index 9 (.string x) (.int .i64 (n:Int))).run prog w=.ok (.int .u8 ((x.data.toList[n]).toNat:Int)) w:=by
 have hs:x.size=x.data.toList.length:=by rw [Array.length_toList];rfl
 have hn:n<x.size:=by omega
 rw [run_index_string w _ _ _ _ underlying9,dif_pos ⟨by omega,by omega⟩];rfl
theorem From.own {p2:Addr} {w0 w w':World} (h2:w0.heap.size≤p2.block) (hE:Pure w0 w) (E:Ext (From p2) w w'):Pure w0 w':=hE.trans' E (fun i hi hf=>by have:p2.block≤i:=hf;omega)
theorem From.kept {p2:Addr} {H:NP} {w w':World} (hH:∀b,H b→b<p2.block) (E:Ext (From p2) w w'):Kept H w w':=E.kept (fun b hb hf=>by have:=hH b hb;have:p2.block≤b:=hf;omega)
abbrev kbox (k:Int) (wd:ByteArray):List Value:=[.bool (Sp.isSigned k),.bool (Sp.isTexted k),.bool (k == 1 || k == 4),.string wd]
theorem jUE (k:Int) (c:Nat) (hc:c<18446744073709551616) (x:ByteArray) (hx:x.size≤64) (wd:ByteArray) (p p2:Addr) {w0 w:World} {H:NP} {T:TypeId} (acc:List UInt8) (ha:acc.length≤1000)
  (hB:Box w p (kbox k wd) T) (hp:p.block<p2.block) (hH:∀b,H b→b<p2.block) (h2:w0.heap.size≤p2.block) (hb:Bld w p2 acc) (hE:Pure w0 w) (ht:Pow w0) :
  m_K_j3 (c:Int) x p p2 w0 H w (fun r w'=>r=⟨(acc++(32 :: Lib.decDigits c)++(if Sp.isTexted k=true then 32 :: Sp.jLB x else [])).toArray⟩∧Pure w0 w'):=by
 unfold m_K_j3
 have hd:=nd20 hc
 have hxl:x.data.toList.length=x.size:=by rw [Array.length_toList];rfl
 refine (jKG c hc w (jAN ht hE)).mono ?_
 rintro _ w5 ⟨r4,rfl,rfl,E5⟩
 refine ⟨_,rfl,E5.keptP,_,jBY w5 [32] _ (by simp) (by omega),?_⟩
 have hE5:=hE.trans E5
 refine (jJR (hb.pure E5) ⟨([32]++Lib.decDigits c).toArray⟩ (by simp [ByteArray.size];omega)).mono ?_
 rintro _ w6 ⟨r5,r6,rfl,b6,E6⟩
 have hE6:=From.own h2 hE5 E6
 have B6:=(hB.pure E5).ext E6 (fun hf=>by have:p2.block≤p.block:=hf;omega)
 have ea:acc++(ByteArray.mk ([32]++Lib.decDigits c).toArray).data.toList=acc++(32 :: Lib.decDigits c):=by simp
 rw [ea] at b6
 generalize hacc:acc++(32 :: Lib.decDigits c)=acc2 at *
 have ha2:acc2.length≤1100:=by rw [← hacc];simp;omega
 refine ⟨_,_,rfl,From.kept hH E6,_,B6.cell (i:=1) rfl,fun ht'=>?_,fun ht'=>?_⟩
 ·rw [if_pos ht']
  refine (jJR b6 ⟨#[32,34]⟩ (by simp [ByteArray.size];omega)).mono ?_
  rintro _ w7 ⟨r7,r8,rfl,b7,E7⟩
  have hE7:=From.own h2 hE6 E7
  refine ⟨_,_,rfl,From.kept hH E7,fun i H' w'=>∃n:Nat,i=n∧n≤x.data.toList.length∧(∀b,H' b→b<p2.block)∧Bld w' p2 (acc2++[32,34]++(x.data.toList.take n).flatMap Sp.jOK)∧Pure w0 w',fun i _=>((x.data.toList.length:Int) - i).toNat,⟨0,rfl,Nat.zero_le _,hH,by simpa using b7,hE7⟩,?_⟩
  rintro _ Hl wl hsl ⟨n,rfl,hn,hHl,bl,El⟩
  unfold m_K_l4
  have hfl:((x.data.toList.take n).flatMap Sp.jOK).length≤256:=by
   have:=Sp.jQR (x.data.toList.take n);rw [List.length_take] at this;omega
  refine ⟨fun hlt=>?_,fun hlt=>?_⟩
  ·have hlt:n<x.data.toList.length:=by have:=of_decide_eq_true hlt;omega
   refine ⟨_,jVL x n hlt wl,?_⟩
   refine (jOR x.data.toList[n] wl).mono ?_
   rintro _ w8 ⟨r9,rfl,rfl,E8⟩
   refine ⟨_,rfl,E8.keptP,?_⟩
   have he:=Sp.jMY x.data.toList[n]
   refine (jJR (bl.pure E8) ⟨(Sp.jOK x.data.toList[n]).toArray⟩ (by rw [List.length_append,List.length_append];simp only [ByteArray.size,List.size_toArray,List.length_cons,List.length_nil];omega)).mono ?_
   rintro _ w9 ⟨r10,r11,rfl,b9,E9⟩
   refine ⟨_,_,rfl,From.kept hHl E9,?_⟩
   rw [vJ hlt (by omega)]
   refine ⟨⟨n+1,rfl,hlt,hHl,?_,From.own h2 (El.trans E8) E9⟩,jDN hlt⟩
   rw [List.take_succ_eq_append_getElem hlt,List.flatMap_append,← List.append_assoc]
   simpa using b9
  ·have:n=x.data.toList.length:=by have:=of_decide_eq_false hlt;omega
   subst this
   rw [List.take_length] at bl
   refine (jQW bl 34 (by rw [List.take_length] at hfl;rw [List.length_append,List.length_append];simp only [List.length_cons,List.length_nil];omega)).mono ?_
   rintro _ w10 ⟨r12,rfl,b10,E10⟩
   refine ⟨_,rfl,From.kept hHl E10,?_⟩
   refine (jUH b10).mono ?_
   rintro _ w11 ⟨r13,rfl,rfl,E11⟩
   refine ⟨_,rfl,From.kept hHl E11,?_,From.own h2 (From.own h2 El E10) E11⟩
   simp [Sp.jLB]
 ·rw [if_neg (by rw [ht'];decide),List.append_nil]
  refine (jUH b6).mono ?_
  rintro _ w12 ⟨r14,rfl,rfl,E12⟩
  exact ⟨_,rfl,From.kept hH E12,rfl,From.own h2 hE6 E12⟩
theorem jOE {n:Int} (h:n=0∨n=1):Lib.itoa n=Lib.decDigits n.toNat:=by rcases h with rfl | rfl <;> kernel_rfl
theorem jUF (k f:Int) (hf:f=0∨f=1) (c:Nat) (hc:c<18446744073709551616) (x:ByteArray) (hx:x.size≤64) (g:Bool) (p:Addr) {w0 w:World} {H:NP} {T:TypeId}
  (hB:Box w p (kbox k ⟨(Sp.jCS k).toArray⟩) T) (hH:∀b,H b→b<w.heap.size) (hE:Pure w0 w) (ht:Pow w0) :
  m_K_j1 f (c:Int) x g p w0 H w (fun r w'=>r=⟨(Sp.jCS k++(if g=true then [33] else [])++(if Sp.isSigned k=true then 32 :: Lib.decDigits f.toNat else [])++(32 :: Lib.decDigits c)++(if Sp.isTexted k=true then 32 :: Sp.jLB x else [])).toArray⟩∧Pure w0 w'):=by
 unfold m_K_j1
 intro p2 w3 n2
 have hp2:=n2.at_size
 have E3:Pure w w3:=Ext.new n2
 have B3:=hB.pure E3
 have hpl:=hB.lt
 have h2:w0.heap.size≤p2.block:=by have:=hE.size;omega
 have hH2:∀b,H b→b<p2.block:=fun b hb=>by have:=hH b hb;omega
 have hE3:=hE.trans E3
 have hw:=Sp.jPD k
 refine ⟨_,B3.cell (i:=3) rfl,?_⟩
 refine (jJR (Bld.new n2) ⟨(Sp.jCS k).toArray⟩ (by simp [ByteArray.size];omega)).mono ?_
 rintro _ w4 ⟨r2,r3,rfl,b4,E4⟩
 have B4:=B3.ext E4 (fun hf=>by have:p2.block≤p.block:=hf;omega)
 have hE4:=From.own h2 hE3 E4
 rw [show []++(ByteArray.mk (Sp.jCS k).toArray).data.toList=Sp.jCS k by simp] at b4
 have j2:∀acc w,acc.length≤20→Box w p (kbox k ⟨(Sp.jCS k).toArray⟩) T→Bld w p2 acc→Pure w0 w→m_K_j2 f (c:Int) x p p2 w0 H w (fun r w'=>r=⟨(acc++(if Sp.isSigned k=true then 32 :: Lib.decDigits f.toNat else [])++(32 :: Lib.decDigits c)++(if Sp.isTexted k=true then 32 :: Sp.jLB x else [])).toArray⟩∧Pure w0 w'):=by
  intro acc w ha B b E;unfold m_K_j2;refine ⟨_,B.cell0,fun hs=>?_,fun hs=>?_⟩
  ·rw [if_pos hs];refine (c_Itoa f (by omega) (by omega) w (jAN ht E)).mono ?_;rintro _ w13 ⟨r15,rfl,rfl,E13⟩;rw [jOE hf];have hd:=nd20 (n:=f.toNat) (by omega);refine ⟨_,rfl,E13.keptP,_,jBY w13 [32] _ (by simp) (by omega),?_⟩;refine (jJR (b.pure E13) ⟨([32]++Lib.decDigits f.toNat).toArray⟩ (by simp [ByteArray.size];omega)).mono ?_;rintro _ w14 ⟨r16,r17,rfl,b14,E14⟩;replace b14:Bld w14 p2 (acc++(32 :: Lib.decDigits f.toNat)):=by simpa using b14
   have B14:=(B.pure E13).ext E14 (fun hf=>by have:p2.block≤p.block:=hf;omega);exact ⟨_,_,rfl,From.kept hH2 E14,jUE k c hc x hx _ p p2 _ (by simp;omega) B14 (by omega) hH2 h2 b14 (From.own h2 (E.trans E13) E14) ht⟩
  ·rw [if_neg (by rw [hs];decide),List.append_nil];exact jUE k c hc x hx _ p p2 _ (by omega) B (by omega) hH2 h2 b E ht
 refine ⟨_,_,rfl,From.kept hH2 E4,fun hg=>?_,fun hg=>?_⟩
 ·rw [if_pos hg]
  refine (jQW b4 33 (by omega)).mono ?_
  rintro _ w15 ⟨r18,rfl,b15,E15⟩
  exact ⟨_,rfl,From.kept hH2 E15,j2 _ w15 (by simp;omega) (B4.ext E15 (fun hf=>by have:p2.block≤p.block:=hf;omega)) b15 (From.own h2 hE4 E15)⟩
 ·rw [if_neg (by rw [hg];decide),List.append_nil]
  exact j2 _ w4 (by omega) B4 b4 hE4
set_option maxRecDepth 100000 in
theorem jRF (l:Sp.Letter) (hc:Sp.jAH l.c) (w0:World) (ht:Pow w0):Calls prog 35 #[.agg #[.int .i64 l.kind,.int .i64 l.frm,.int .u64 l.c,.string l.text,.bool l.fake]] w0 (fun e w'=>∃r:ByteArray,e=.returned (.string r)∧(r=⟨(Sp.jJB l).toArray⟩∧Pure w0 w')):=by
 refine w_K _ _ _ _ _ w0 (fun r w'=>r=⟨(Sp.jJB l).toArray⟩∧Pure w0 w') ?_;unfold m_K;intro H1 w1 hs;have E1:=hs.first;refine (jFT l w1).mono ?_;rintro _ w2 ⟨r1,rfl,hr,E2⟩;have E02:=E1.trans E2;refine ⟨_,rfl,E2.keptP,fun h=>⟨?_,E02⟩,fun h=>?_⟩
 ·unfold Sp.jJB;rw [if_pos (by rw [← hr];exact bne_iff_ne.1 h)]
 have h0:Sp.qL l=0:=by rw [← hr];simpa using h
 obtain ⟨k,f,c,x,g⟩:=l;obtain ⟨hk,hf,_,_,_,hx⟩:=Sp.jDC h0;obtain ⟨c,rfl⟩:∃n:Nat,c=(n:Int):=⟨c.toNat,by have:=hc.1;simp only at this;omega⟩;have hc':c<18446744073709551616:=by have:=hc.2;simp only at this;omega
 have e:Sp.jJB ⟨k,f,(c:Int),x,g⟩=Sp.jCS k++(if g=true then [33] else [])++(if Sp.isSigned k=true then 32 :: Lib.decDigits f.toNat else [])++(32 :: Lib.decDigits c)++(if Sp.isTexted k=true then 32 :: Sp.jLB x else []):=by
  unfold Sp.jJB;rw [if_neg (by simpa using h0)];rfl
 rw [e];simp only;have idx:∀w':World,(Instr.index 121 (.agg jJE) (.int .i64 k)).run prog w'=.ok (.agg #[.bool (Sp.isSigned k),.bool (Sp.isTexted k),.bool (k == 1 || k == 4),.string ⟨(Sp.jCS k).toArray⟩]) w':=by
  rcases hk with rfl | rfl | rfl | rfl | rfl | rfl | rfl <;> exact fun w'=>by kernel_rfl
 refine ⟨fun _=>True,trivial,?_⟩;rintro w9 e9;have E9:Pure w2 w9:=by rw [e9];exact Ext.drew w2
 have hH:∀b,H1 b→b<w9.heap.size:=fun b hb=>by have:=hs.lt b hb;have:=E9.size;have:=E2.size;omega
 refine ⟨?_,?_⟩
 ·refine (jCM w9).mono ?_;rintro _ w10 ⟨_,rfl,rfl,E10⟩;refine ⟨_,rfl,trivial,E10.keptP,_,_,_,_,fun w' _=>idx w',?_⟩;intro p2 w11 n11;have b11:=n11.at_size;have z10:=E10.size;refine ⟨trivial,(Box.of_newA n11).canWs (by simp),fun hh=>by have:=hH _ hh;omega,?_⟩;rintro w12 e12;have X:Ext (·=p2.block) w11 w12:=by rw [e12];exact Ext.storeRow _ _ _
  have B:Box w12 p2 (kbox k ⟨(Sp.jCS k).toArray⟩) 120:=by rw [e12];exact (Box.of_newA n11).store rfl
  have z2:=E02.size;have z9:=E9.size;have z11:w11.heap.size≤w12.heap.size:=X.size;have zn:w10.heap.size≤w11.heap.size:=(Ext.new n11:Pure w10 w11).size;exact jUF k f hf c hc' x hx g p2 B (fun b hb=>by have:=hH b hb;omega) ((((E02.trans E9).trans E10).trans (Ext.new n11)).own (by omega) X) ht
 ·intro p3 w13 n13;refine ⟨trivial,?_⟩;have b13:=n13.at_size;have E13:Pure w9 w13:=Ext.new n13;refine (jCM w13).mono ?_;rintro _ w14 ⟨_,rfl,rfl,E14⟩;have B14:=(Box.of_newA n13).pure E14;refine ⟨_,rfl,trivial,E14.keptP,_,_,_,_,fun w' _=>idx w',B14.canWs (by simp),fun hh=>by have:=hH _ hh;omega,?_⟩;rintro w15 e15;have X:Ext (·=p3.block) w14 w15:=by rw [e15];exact Ext.storeRow _ _ _
  have B:Box w15 p3 (kbox k ⟨(Sp.jCS k).toArray⟩) 120:=by rw [e15];exact B14.store rfl
  have z2:=E02.size;have z9:=E9.size;have z13:=E13.size;have z14:=E14.size;have z15:w14.heap.size≤w15.heap.size:=X.size;exact jUF k f hf c hc' x hx g p3 B (fun b hb=>by have:=hH b hb;omega) ((((E02.trans E9).trans E13).trans E14).own (by omega) X) ht
end Go.Proofs
end
