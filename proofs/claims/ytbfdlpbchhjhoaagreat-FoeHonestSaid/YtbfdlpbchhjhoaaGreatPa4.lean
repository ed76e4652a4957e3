import Derived.Test.YtbfdlpbchhjhoaaGreatPa3
import Derived.Test.YtbfdlpbchhjhoaaGreatPa1
import Derived.Test.YtbfdlpbchhjhoaaGreatPa2
import Derived.Test.YtbfdlpbchhjhoaaGreatProg
import Derived.KernelRfl
import Derived.Test.YtbfdlpbchhjhoaaGreatPa0
section
open Go Go.SE
namespace Go.Proofs
open Tryz
attribute [local irreducible] Calls
theorem jCX (p:Addr) (w:World) {L:Sp.Pool} {F:NP} (hP:zV w p L F):Calls prog 103 #[.pointer (some p)] w (fun e w'=>∃r:Int,e=.returned (.int .i64 r)∧(r=L.length∧w'=w)):=by
 refine w_L3 _ w (fun r w'=>r=L.length∧w'=w) ?_;unfold m_L3;obtain ⟨s,m,h,_⟩:=hP;refine Br.f rfl ⟨p,rfl,s,h.box.cell0,?_,rfl⟩;have:=h.rows.len;rw [this];simp
theorem c_kids (p:Addr) (t:Int) (w:World) {L:Sp.Pool} {F:NP} (hP:zV w p L F) (hok:Sp.Ok L):Calls prog 277 #[.pointer (some p),.int .i64 t] w (fun e w'=>∃s:Sl,e=.returned s.v∧(Lst (fun b=>w.heap.size≤b∧b<w'.heap.size) w' 1 s (tmr (Sp.zI (Sp.nodeOf L t)))∧Pure w w')):=by
 refine w_V3 _ _ w (fun s w'=>Lst (fun b=>w.heap.size≤b∧b<w'.heap.size) w' 1 s (tmr (Sp.zI (Sp.nodeOf L t)))∧Pure w w') ?_;unfold m_V3;refine (jGS p t w hP hok).mono ?_;rintro _ w1 ⟨k,f,t',u,x,a,b,r,rfl,⟨hn,_⟩,E1⟩;refine ⟨_,_,_,_,_,_,_,_,rfl,?_⟩;intro p2 w2 h2;have E2:Pure w w2:=E1.trans (Ext.new h2);have o2:=New.own E1 h2;refine bx 7 (Box.of_new h2) rfl rfl (fun w3 b2 E=>?_);have E3:Pure w w3:=E2.own o2 E;refine ⟨k,b2.cell0,?_⟩;refine (jJW k w3).mono ?_;rintro _ w4 ⟨s1,s2,s3,s4,s5,ok,rfl,⟨hs,_⟩,E4⟩;refine ⟨_,_,_,_,_,_,rfl,?_⟩;have b24:=b2.pure E4;intro p3 w5 h5;have E5:Pure w4 w5:=Ext.new h5;have b25:=b24.pure E5;have ne:p2.block≠p3.block:=h5.ne b24.blk;have E05:Pure w w5:=(E3.trans E4).trans E5;have o5:=New.own (E3.trans E4) h5;refine bx 5 (Box.of_new h5) rfl rfl (fun w6 b3 E=>?_);have b26:=b25.ext E ne;have E06:Pure w w6:=E05.own o5 E;refine ⟨a,b26.cell rfl,b,b26.cell rfl,?_⟩;intro p4 w7 h7;have E7:Pure w6 w7:=Ext.new h7;have b4:=Box.of_new h7;have hsh:Sp.shapeOf k=⟨s1,s2,s3,s4,s5⟩:=hs.symm;have hk5:s5=0∨s5=1∨s5=2:=by have:=Sp.yO k;rw [hsh] at this;exact this
 refine ⟨s5,(b3.pure E7).cell rfl,_,jMR p4 s5 w7 hk5,?_,E06.trans E7⟩;have hks:Sp.zI (Sp.nodeOf L t)=[a,b].take s5.toNat:=by rw [← hn];simp [Sp.zI,hsh]
 rw [hks];have z:=h7.at_size;have z6:=E06.size;have zl:=b4.lt;refine ⟨by rcases hk5 with rfl | rfl | rfl <;> rfl,fun i hi=>?_⟩;rw [qP] at hi;have hi2:i<s5.toNat:=by simp at hi;omega
 refine ⟨p4.add (i*1),⟨by omega,by show (i:Int)<(s5.toNat:Int);omega,p4,rfl,rfl⟩,by rw [zX];omega,?_⟩;intro j hj;have hj1:j<1:=by simp only [tmr,List.getElem_map,List.length_cons,List.length_nil] at hj;omega
 have hj0:j=0:=by omega
 subst hj0;rw [uM];have h01:i=0∨i=1:=by omega
 rcases h01 with rfl | rfl
 ·rw [b4.cell (i:=0*1+0) rfl];simp [tmr]
 ·rw [b4.cell (i:=1*1+0) rfl];simp [tmr]
end Go.Proofs
end
section
namespace Go.Proofs
theorem toNat_ofNat {n:Nat} (h:n<256):(UInt8.ofNat n).toNat=n:=by simp [UInt8.toNat_ofNat];omega
theorem pow9 {i m:Nat} (hi:i≤9) (h:m*128 ^ i<18446744073709551616):i=9→m<2:=by
 rintro rfl;omega
theorem jQL:∀(m i acc:Nat) (c:List UInt8),i≤9→m*128 ^ i<18446744073709551616→(0<i→0<m)→xX i acc (vX m++c)=.ok (acc+m*128 ^ i,i+(vX m).length):=by
 intro m;induction m using Nat.strongRecOn with
 | ind m ih =>
  intro i acc c hi hm h0
  have h9:=pow9 hi hm
  by_cases h:m<128
  ·rw [xM h,List.singleton_append,xH,toNat_ofNat (by omega),if_neg (by omega),if_pos h,if_neg (by omega),List.length_singleton]
  ·rw [tT (by omega),List.cons_append,xH,toNat_ofNat (by omega),if_neg (by omega),if_neg (by omega)]
   have e:m / 128*128 ^ (i+1)=m / 128*128*128 ^ i:=by rw [Nat.pow_succ,Nat.mul_assoc,Nat.mul_comm 128]
   have le:m / 128*128*128 ^ i≤m*128 ^ i:=Nat.mul_le_mul_right _ (by omega)
   rw [ih (m / 128) (by omega) (i+1) _ c (by omega) (by omega) (by omega),e,List.length_cons]
   have e2:(m % 128+128) % 128=m % 128:=by omega
   have e3:m*128 ^ i=m % 128*128 ^ i+m / 128*128*128 ^ i:=by rw [← Nat.add_mul];congr 1;omega
   rw [e2,e3]
   congr 2
   ·omega
   ·omega
theorem jDE {n:Nat} (h:n<18446744073709551616) (c:List UInt8):xX 0 0 (vX n++c)=.ok (n,(vX n).length):=by
 rw [jQL n 0 0 c (by omega) (by simpa using h) (by omega)];simp
theorem jVK {i y m:Nat} (hi:i≤8) (hy:y≤127) (hb:m*128 ^ (i+1)<18446744073709551616):(y+128*m)*128 ^ i<18446744073709551616:=by
 rw [Nat.pow_succ] at hb;obtain ⟨q,hq⟩:∃q,18446744073709551616=q*(128 ^ i*128):=by
  refine ⟨2 ^ (64 - 7*(i+1)),?_⟩;rw [show 128 ^ i*128=2 ^ (7*(i+1)) by rw [Nat.pow_mul];rfl,← Nat.pow_add,show 64 - 7*(i+1)+7*(i+1)=64 by omega]
 have hp:0<128 ^ i:=Nat.pow_pos (by omega);generalize 128 ^ i=P at *;rw [hq] at hb ⊢;have hm:m<q:=Nat.lt_of_mul_lt_mul_right hb;have h1:(y+128*m)*P<128*(m+1)*P:=Nat.mul_lt_mul_of_pos_right (by omega) hp;have h2:128*(m+1)*P≤128*q*P:=Nat.mul_le_mul_right _ (Nat.mul_le_mul_left _ hm);have h3:q*(P*128)=128*q*P:=by rw [Nat.mul_comm P,← Nat.mul_assoc,Nat.mul_comm q]
 omega
theorem jQM:∀(l:List UInt8) (i acc n k:Nat),i≤9→xX i acc l=.ok (n,k)→∃m c,l=vX m++c∧n=acc+m*128 ^ i∧k=i+(vX m).length∧(0<i→0<m)∧m*128 ^ i<18446744073709551616:=by
 intro l;induction l with
 | nil=>intro i acc n k _ h;simp [xX] at h
 | cons x l ih =>
  intro i acc n k hi h
  have hx:=x.toNat_lt
  have hx8:UInt8.ofNat x.toNat=x:=by simp
  rw [xH] at h
  split at h
  ·cases h
  ·rename_i h9
   split at h
   ·rename_i h128
    split at h
    ·cases h
    ·rename_i hz
     cases h
     refine ⟨x.toNat,l,by rw [xM h128,hx8];rfl,rfl,by rw [xM h128];rfl,by omega,?_⟩
     have:i=0∨i=1∨i=2∨i=3∨i=4∨i=5∨i=6∨i=7∨i=8∨i=9:=by omega
     rcases this with rfl | rfl | rfl | rfl | rfl | rfl | rfl | rfl | rfl | rfl <;> omega
   ·rename_i h128
    have hi8:i≤8:=by omega
    obtain ⟨m,c,rfl,rfl,rfl,hp,hb⟩:=ih _ _ _ _ (by omega) h
    have hp:=hp (by omega)
    have hxm:0<x.toNat % 128+128*m:=by omega
    have e:x.toNat % 128+128*m=x.toNat % 128+128*m:=rfl
    refine ⟨x.toNat % 128+128*m,c,?_,?_,?_,fun _=>hxm,?_⟩
    ·rw [tT (n:=x.toNat % 128+128*m) (by omega),List.cons_append]
     have e1:(x.toNat % 128+128*m) % 128+128=x.toNat:=by omega
     have e2:(x.toNat % 128+128*m) / 128=m:=by omega
     rw [e1,e2,hx8]
    ·rw [Nat.add_mul,Nat.pow_succ]
     have:m*(128 ^ i*128)=128*m*128 ^ i:=by rw [Nat.mul_comm (128 ^ i),← Nat.mul_assoc,Nat.mul_comm m]
     omega
    ·rw [tT (n:=x.toNat % 128+128*m) (by omega),List.length_cons]
     have e2:(x.toNat % 128+128*m) / 128=m:=by omega
     rw [e2];omega
    ·exact jVK hi8 (by omega) hb
theorem jIY {l:List UInt8} {n k:Nat} (h:xX 0 0 l=.ok (n,k)):∃c,l=vX n++c∧k=(vX n).length∧n<18446744073709551616:=by
 obtain ⟨m,c,h1,h2,h3,_,h5⟩:=jQM l 0 0 n k (by omega) h;simp at h2 h3 h5;subst h2;exact ⟨c,h1,h3,h5⟩
end Go.Proofs
end
section
namespace Go.Sp
def uN (L:Pool):Prop:=∀e∈L,yV e.node.num
theorem uN.nil:uN []:=fun _ h=>(by cases h)
theorem uN.make {L:Pool} (h:uN L) {n:Node} (hn:yV n.num):uN (make L n).2.2:=by
 rcases jCD L n with e | ⟨_,e⟩
 ·rw [e];exact h
 ·rw [e];intro x hx;rcases List.mem_append.1 hx with hx | hx
  ·exact h x hx
  ·rw [List.mem_singleton] at hx;subst hx;exact hn
theorem uN.grow (t:Tree):∀L,uN L→NumT t→uN (grow L t).2.2:=by
 induction t using Tree.ind with
 | h k f t u x ks ih =>
  have:∀(ks:List Tree),(∀i (hi:i<ks.length),∀L,uN L→NumT ks[i]→uN (Sp.grow L ks[i]).2.2)→(∀i (hi:i<ks.length),NumT ks[i])→∀(n:Node) i L,yV n.num→uN L→uN (vE n i L ks).2.2:=by
   intro ks;induction ks with
   | nil=>intro _ _ n i L hn h;unfold vE;exact h.make hn
   | cons t ts iht =>
    intro hh hk n i L hn h
    have h0:=hh 0 (by simp) L h (hk 0 (by simp))
    simp only [List.getElem_cons_zero] at h0
    unfold vE
    split
    ·exact h0
    ·exact iht (fun i hi=>hh (i+1) (by simpa using hi)) (fun i hi=>hk (i+1) (by simpa using hi)) _ _ _ (by split <;> exact hn) h0
  intro L h hT
  cases hT with
  | mk _ _ _ _ _ _ own kids =>
   unfold Sp.grow
   exact this ks ih kids _ _ L own h
theorem uN.of {L:Pool} (h:uN L) {t:Tree} (hT:NumT t):uN (of L t).2.2:=by
 unfold Sp.of;split
 ·exact h
 ·split
  ·exact h
  ·exact uN.grow t L h hT
theorem uN.node {L:Pool} (h:uN L) (t:Int):yV (nodeOf L t).num:=by
 cases ht:inP L t with
 | true=>obtain ⟨e,he,hm,_⟩:=jCG ht;simp only [nodeOf,he,Option.map_some,Option.getD_some];exact h e hm
 | false=>simp only [nodeOf,xB ht,Option.map_none,Option.getD_none];exact ⟨by decide,by decide⟩
theorem jCB {L:Pool} (hW:Wf L) {t:Int} (ht:inP L t=true):1≤(nodeOf L t).kind∧(nodeOf L t).kind≤9∧0≤(nodeOf L t).frm∧(nodeOf L t).frm<16∧0≤(nodeOf L t).to∧(nodeOf L t).to<16∧(nodeOf L t).text.size≤64:=by
 obtain ⟨h1,_,_,h4,_⟩:=hW.node ht;generalize nodeOf L t=n at *;have hp:isKind n.kind=true∧((shapeOf n.kind).frm=false→n.frm=0)∧((shapeOf n.kind).to=false→n.to=0):=by
  unfold vA at h1;simp only at h1;split at h1
  ·cases h1
  ·rename_i h;simp at h;exact ⟨h.1.1.1.1,h.1.1.1.2,h.1.1.2⟩
 have hk:=hp.1;simp only [isKind,Bool.and_eq_true,decide_eq_true_eq] at hk;have hf:((shapeOf n.kind).frm=true→lG n.frm=true)∧((shapeOf n.kind).to=true→lG n.to=true)∧n.text.size≤64:=by
  unfold zZ at h4;split at h4
  ·cases h4
  ·rename_i h;split at h4
   ·cases h4
   ·simp at h;exact ⟨fun hh=>h.1 hh,fun hh=>(h.2 hh).1,by omega⟩
 refine ⟨hk.1,hk.2,?_⟩;have n1:0≤n.frm∧n.frm<16:=by
  cases hs:(shapeOf n.kind).frm with
  | true=>have:=hf.1 hs;simpa [lG] using this
  | false=>rw [hp.2.1 hs];decide
 have n2:0≤n.to∧n.to<16:=by
  cases hs:(shapeOf n.kind).to with
  | true=>have:=hf.2.1 hs;simpa [lG] using this
  | false=>rw [hp.2.2 hs];decide
 exact ⟨n1.1,n1.2,n2.1,n2.2,hf.2.2⟩
end Go.Sp
namespace Go.Proofs
theorem jNF (k:Int):(uV k).length≤3:=by
 unfold uV;repeat' split
 all_goals decide
theorem jVS (n:Sp.Node) (na nb:Nat) (f:Fld) (h1:n.frm<16) (h2:n.to<16) (h3:Sp.yV n.num) (h4:n.text.size≤64) (ha:na<65537) (hb:nb<65537):(f.bytes n na nb).length≤74:=by
 have h3:=h3.2;cases f <;> simp only [Fld.bytes,qQ,List.length_append]
 ·have:=vZ (n:=n.frm.toNat) (by omega);omega
 ·have:=vZ (n:=n.to.toNat) (by omega);omega
 ·have:=vZ (n:=n.num.toNat) (by omega);omega
 ·have:=vZ (n:=n.text.size) (by omega);have:n.text.data.toList.length=n.text.size:=Array.length_toList;omega
 ·have:=vZ (n:=na) (by omega);omega
 ·have:=vZ (n:=nb) (by omega);omega
theorem jRO {α β:Type} (f:α→List β) (c:Nat):∀l:List α,(∀x∈l,(f x).length≤c)→(l.flatMap f).length≤c*l.length:=by
 intro l;induction l with
 | nil=>intro _;simp
 | cons a l ih =>
  intro h
  have h1:=h a (by simp)
  have h2:=ih (fun x hx=>h x (List.mem_cons_of_mem _ hx))
  rw [List.flatMap_cons,List.length_append,List.length_cons,Nat.mul_succ];omega
theorem jBZ (l:List Int) (t:Int):posOf l t≤l.length:=List.idxOf_le_length
theorem jJF {L:Sp.Pool} (hW:Sp.Wf L) (hN:Sp.uN L) {seen:List Int} {t:Int} (ht:Sp.inP L t=true) (hs:seen.length≤65536):(yR L seen t).length≤300:=by
 obtain ⟨_,_,_,h1,_,h2,h4⟩:=Sp.jCB hW ht;have:=jRO (Fld.bytes (Sp.nodeOf L t) (posOf seen (Sp.nodeOf L t).a) (posOf seen (Sp.nodeOf L t).b)) 74 (uV (Sp.nodeOf L t).kind) (fun f _=>jVS _ _ _ f h1 h2 (hN.node t) h4 (by have:=jBZ seen (Sp.nodeOf L t).a;omega) (by have:=jBZ seen (Sp.nodeOf L t).b;omega));have h3:=jNF (Sp.nodeOf L t).kind;have:74*(uV (Sp.nodeOf L t).kind).length≤74*3:=Nat.mul_le_mul_left _ h3;unfold yR;rw [List.length_cons];omega
theorem jIO {L:Sp.Pool} (hW:Sp.Wf L) (hN:Sp.uN L):∀(l seen:List Int),(∀t∈l,Sp.inP L t=true)→seen.length+l.length≤65536→(vF L seen l).length≤300*l.length:=by
 intro l;induction l with
 | nil=>intro seen _ _;simp [vF]
 | cons t l ih =>
  intro seen h hl
  rw [List.length_cons] at hl
  have h1:=jJF hW hN (seen:=seen) (h t (by simp)) (by omega)
  have h2:=ih (seen++[t]) (fun x hx=>h x (List.mem_cons_of_mem _ hx)) (by rw [List.length_append,List.length_singleton];omega)
  rw [vF,List.length_append,List.length_cons,Nat.mul_succ];omega
end Go.Proofs
end
section
namespace Go.Proofs
theorem jTN {L:Sp.Pool} (hW:Sp.Wf L) {t:Int} (ht:Sp.inP L t=true) :
  (Fld.from_∈uV (Sp.nodeOf L t).kind∨(Sp.nodeOf L t).frm=0)∧(Fld.to_∈uV (Sp.nodeOf L t).kind∨(Sp.nodeOf L t).to=0)∧(Fld.num∈uV (Sp.nodeOf L t).kind∨(Sp.nodeOf L t).num=0) ∧
  (Fld.text∈uV (Sp.nodeOf L t).kind∨(Sp.nodeOf L t).text=⟨#[]⟩)∧(Fld.fst∈uV (Sp.nodeOf L t).kind∨(Sp.nodeOf L t).a=0)∧(Fld.snd∈uV (Sp.nodeOf L t).kind∨(Sp.nodeOf L t).b=0):=by
 obtain ⟨h1,h2,h3,_⟩:=hW.node ht
 obtain ⟨k1,k9,_⟩:=Sp.jCB hW ht
 generalize Sp.nodeOf L t=n at *
 obtain ⟨k,f,t,u,x,a,b⟩:=n
 simp only at *
 unfold Sp.vA at h1
 have:k=1∨k=2∨k=3∨k=4∨k=5∨k=6∨k=7∨k=8∨k=9:=by omega
 rcases this with rfl | rfl | rfl | rfl | rfl | rfl | rfl | rfl | rfl <;> simp [uV,Sp.shapeOf,Sp.isKind] at*<;> simp_all
def Fld.same (n m:Sp.Node) (na nb ma mb:Nat):Fld→Prop
 | .from_=>n.frm.toNat=m.frm.toNat | .to_=>n.to.toNat=m.to.toNat | .num=>n.num.toNat=m.num.toNat | .text=>n.text=m.text | .fst=>na=ma | .snd=>nb=mb
theorem jLR {n:Sp.Node} (h:Fld.fst∈uV n.kind):n.a∈Sp.zI n:=by
 unfold uV at h;unfold Sp.zI Sp.shapeOf
 repeat' split at h
 all_goals first | (exfalso;revert h;decide) | skip
 all_goals (rename_i h1;rw [h1];simp)
theorem jLC {n:Sp.Node} (h:Fld.snd∈uV n.kind):n.b∈Sp.zI n:=by
 unfold uV at h;unfold Sp.zI Sp.shapeOf
 repeat' split at h
 all_goals first | (exfalso;revert h;decide) | skip
 all_goals (rename_i h1;rw [h1];simp)
theorem jOQ {L:Sp.Pool} (hW:Sp.Wf L) {s t:Int} (hs:Sp.inP L s=true) (ht:Sp.inP L t=true) (h:Sp.nodeOf L s=Sp.nodeOf L t):s=t:=by
 obtain ⟨i,hi,rfl⟩:=Sp.tB hs;obtain ⟨j,hj,rfl⟩:=Sp.tB ht;rw [Sp.qC hi,Sp.qC hj] at h;have:=hW.ok.nodup;have e:i=j:=by
  refine (List.getElem_inj (h₀:=by simpa using hi) (h₁:=by simpa using hj) this).1 ?_;simpa using h
 rw [e]
def OrdF (L:Sp.Pool):List Int→List Int→Prop
 | _,[]=>True
 | seen,z :: l=>(∀k∈Sp.zI (Sp.nodeOf L z),k∈seen)∧OrdF L (seen++[z]) l
theorem jVL {L:Sp.Pool}:∀(l seen:List Int),(∀pre z post,l=pre++z :: post→∀k∈Sp.zI (Sp.nodeOf L z),k∈seen++pre)→OrdF L seen l:=by
 intro l;induction l with
 | nil=>intro _ _;trivial
 | cons z l ih =>
  intro seen h
  refine ⟨fun k hk=>by simpa using h [] z l rfl k hk,ih _ (fun pre y post e k hk=>?_)⟩
  have:=h (z :: pre) y post (by rw [e];rfl) k hk
  simpa using this
theorem jJC {L:Sp.Pool} (hW:Sp.Wf L) (t:Int):OrdF L [] (Sp.subs L t):=jVL _ _ (fun pre z post e k hk=>by rw [List.nil_append];exact Sp.jMO hW t pre z post e k hk)
theorem jCO {L:Sp.Pool} (hW:Sp.Wf L) {t u:Int} (h:u∈Sp.subs L t):Sp.inP L u=true:=have h:=(Sp.jHC hW).1 h;(Sp.Sub.le hW h.1 h.2).1
theorem jHE {L:Sp.Pool} (hW:Sp.Wf L) {t:Int} (h:Sp.inP L t=true):t∈Sp.subs L t:=(Sp.jHC hW).2 ⟨h,.refl _⟩
end Go.Proofs
end
section
namespace Go.Sp
theorem jEC {α β γ δ:Type} {f:α→γ} {g:β→γ} {f':α→δ} {g':β→δ}:∀{K1:List α} {K2:List β},K1.map f=K2.map g→(∀a∈K1,∀b∈K2,f a=g b→f' a=g' b)→K1.map f'=K2.map g':=by
 intro K1;induction K1 with
 | nil=>intro K2 h _;cases K2 with
  | nil=>rfl
  | cons b K2=>simp at h
 | cons a K1 ih=>intro K2 h hh;cases K2 with
  | nil=>simp at h
  | cons b K2 =>
   simp only [List.map_cons,List.cons.injEq] at h ⊢
   exact ⟨hh a (by simp) b (by simp) h.1,ih h.2 (fun x hx y hy=>hh x (List.mem_cons_of_mem _ hx) y (List.mem_cons_of_mem _ hy))⟩
theorem jBL {L M:Pool} (hL:Wf L) (hM:Wf M) {s t:Int} (hs:inP L s=true) (ht:inP M t=true) (h:zH L s=zH M t) :
  (nodeOf L s).kind=(nodeOf M t).kind∧(nodeOf L s).frm=(nodeOf M t).frm∧(nodeOf L s).to=(nodeOf M t).to∧(nodeOf L s).num=(nodeOf M t).num∧(nodeOf L s).text=(nodeOf M t).text∧(zI (nodeOf L s)).map (zH L)=(zI (nodeOf M t)).map (zH M):=by
 rw [vW hL hs,vW hM ht] at h
 simpa using h
theorem jPX {L M:Pool} (hL:Wf L) (hM:Wf M):∀(n:Nat) (s t:Int),s.toNat=n→inP L s=true→inP M t=true→zH L s=zH M t→sizeOf L s=sizeOf M t∧depthOf L s=depthOf M t:=by
 intro n;induction n using Nat.strongRecOn with
 | _ n ih =>
 intro s t hn hs ht h;have hk:=(jBL hL hM hs ht h).2.2.2.2.2;obtain ⟨_,_,_,_,c1,c2,c3⟩:=hL.node hs;obtain ⟨_,_,_,_,d1,d2,d3⟩:=hM.node ht;have key:∀a∈zI (nodeOf L s),∀b∈zI (nodeOf M t),zH L a=zH M b→sizeOf L a=sizeOf M b∧depthOf L a=depthOf M b:=fun a ha b hb e=>by
  have:=zY.1 (c1 a ha).1;exact ih a.toNat (by have:=(c1 a ha).2;omega) a b rfl (c1 a ha).1 (d1 b hb).1 e
 refine ⟨?_,?_⟩
 ·rw [c2,d2,jEC hk (fun a ha b hb e=>(key a ha b hb e).1)]
 ·have e:=jEC hk (fun a ha b hb e=>(key a ha b hb e).2);rw [c3,d3];have f1:∀(l:List Int) (P:Pool),l.foldl (fun d k=>max d (depthOf P k)) 0=(l.map (depthOf P)).foldl max 0:=fun l P=>by rw [List.foldl_map]
  rw [f1,f1,e]
theorem jQZ {L:Pool} (hL:Wf L):∀{K1 K2:List Int},(∀k∈K1,inP L k=true)→(∀k∈K2,inP L k=true)→K1.map (zH L)=K2.map (zH L)→K1=K2:=by
 intro K1;induction K1 with
 | nil=>intro K2 _ _ h;cases K2 with
  | nil=>rfl
  | cons b K2=>simp at h
 | cons a K1 ih=>intro K2 h1 h2 h;cases K2 with
  | nil=>simp at h
  | cons b K2 =>
   simp only [List.map_cons,List.cons.injEq] at h
   rw [xE hL _ a b rfl (h1 a (by simp)) (h2 b (by simp)) h.1,ih (fun k hk=>h1 k (List.mem_cons_of_mem _ hk)) (fun k hk=>h2 k (List.mem_cons_of_mem _ hk)) h.2]
structure Ren (L q:Pool) (z:Int) (n:Node):Prop where
 kind:n.kind=(nodeOf L z).kind
 frm:n.frm=(nodeOf L z).frm
 to:n.to=(nodeOf L z).to
 num:n.num=(nodeOf L z).num
 text:n.text=(nodeOf L z).text
 kin:∀k∈zI n,inP q k=true
 kids:(zI n).map (zH q)=(zI (nodeOf L z)).map (zH L)
 a0:(shapeOf n.kind).kids<1→n.a=0
 b0:(shapeOf n.kind).kids<2→n.b=0
theorem jRH {n m:Node} (hk:n.kind=m.kind) (h:zI n=zI m) (a1:(shapeOf n.kind).kids<1→n.a=0) (b1:(shapeOf n.kind).kids<2→n.b=0) (a2:(shapeOf m.kind).kids<1→m.a=0) (b2:(shapeOf m.kind).kids<2→m.b=0):n.a=m.a∧n.b=m.b:=by
 unfold zI at h;rw [← hk] at h a2 b2;rcases yO n.kind with e | e | e
 ·exact ⟨by rw [a1 (by omega),a2 (by omega)],by rw [b1 (by omega),b2 (by omega)]⟩
 ·rw [e] at h;simp at h;exact ⟨h,by rw [b1 (by omega),b2 (by omega)]⟩
 ·rw [e] at h;simpa using h
section
variable {L q:Pool} (hL:Wf L) (hq:Wf q) {z:Int} (hz:inP L z=true) {n:Node} (h:Ren L q z n)
include hL hq hz h
theorem Ren.check:check q n=(sizeOf L z,depthOf L z,0):=by
 obtain ⟨p1,p2,p3,p4,p5,p6,p7⟩:=hL.node hz;have e1:vA n=0:=by
  have:vA n=vA (nodeOf L z):=by unfold vA;rw [h.kind,h.frm,h.to,h.num,h.text]
  rw [this,p1]
 have e2:zZ (shapeOf n.kind) n=0:=by
  have:zZ (shapeOf n.kind) n=zZ (shapeOf (nodeOf L z).kind) (nodeOf L z):=by unfold zZ;rw [h.kind,h.frm,h.to,h.text]
  rw [this,p4]
 have key:∀a∈zI n,∀b∈zI (nodeOf L z),zH q a=zH L b→sizeOf q a=sizeOf L b∧depthOf q a=depthOf L b:=fun a ha b hb e=>jPX hq hL _ a b rfl (h.kin a ha) (p5 b hb).1 e;have e3:=jEC h.kids (fun a ha b hb e=>(key a ha b hb e).1);have e4:=jEC h.kids (fun a ha b hb e=>(key a ha b hb e).2);have f1:∀(l:List Int) (P:Pool),l.foldl (fun d k=>max d (depthOf P k)) 0=(l.map (depthOf P)).foldl max 0:=fun l P=>by rw [List.foldl_map]
 have s1:1+((zI n).map (sizeOf q)).sum=sizeOf L z:=by rw [e3,p6]
 have s2:(zI n).foldl (fun d k=>max d (depthOf q k)) 0+1=depthOf L z:=by rw [f1,e4,← f1,p7]
 have b1:=hL.ok.sizeOf z;have b2:=hL.ok.depthOf z;unfold Sp.check;simp only;rw [if_neg (by simpa using e1),if_neg,if_neg (by simpa using e2),if_neg,s1,s2,if_neg (by omega)]
 ·simp only [List.any_eq_true,not_exists,not_and];intro k hk;rw [h.kin k hk];decide
 ·have a0:=h.a0;have b0:=h.b0;simp only [Bool.or_eq_true,Bool.and_eq_true,decide_eq_true_eq,bne_iff_ne,ne_eq,not_or,not_and,Decidable.not_not];exact ⟨a0,b0⟩
omit hq in
theorem Ren.tree {v:Int} {M:Pool} (hM:Wf M) (hv:inP M v=true) (hn:nodeOf M v=n) (hk:∀k∈zI n,zH M k=zH q k):zH M v=zH L z:=by
 rw [vW hM hv,vW hL hz,hn,h.kind,h.frm,h.to,h.num,h.text,← h.kids];congr 1;exact List.map_congr_left hk
theorem Ren.node {v:Int} (hv:inP q v=true) (ht:zH q v=zH L z):nodeOf q v=n:=by
 obtain ⟨k1,k2,k3,k4,k5,k6⟩:=jBL hq hL hv hz ht;obtain ⟨_,c2,c3,_,c5,_⟩:=hq.node hv;have hkk:=jQZ hq (fun k hk=>(c5 k hk).1) h.kin (k6.trans h.kids.symm);obtain ⟨ea,eb⟩:=jRH (k1.trans h.kind.symm) hkk c2 c3 h.a0 h.b0;have g1:=h.kind;have g2:=h.frm;have g3:=h.to;have g4:=h.num;have g5:=h.text;generalize nodeOf q v=m at *;generalize nodeOf L z=o at *;cases m;cases n;simp_all
theorem Ren.find_none (hn:∀v,inP q v=true→zH q v≠zH L z):find q n=none:=by
 cases hf:find q n with
 | none=>rfl
 | some i =>
  exfalso
  obtain ⟨hi,e⟩:=jCH hf
  have hv:inP q ((i:Int)+1)=true:=zY.2 ⟨by omega,by omega⟩
  exact hn _ hv (h.tree hL hz hq hv (by rw [qC hi,e]) (fun _ _=>rfl))
theorem Ren.find_old {v:Int} (hv:inP q v=true) (ht:zH q v=zH L z):find q n=some (v - 1).toNat:=by
 have hn:=h.node hL hq hz hv ht;cases hf:find q n with
 | none =>
  exfalso
  unfold find at hf
  rw [List.findIdx?_eq_none_iff] at hf
  obtain ⟨i,hi,rfl⟩:=tB hv
  rw [qC hi] at hn
  have:=hf q[i] (List.getElem_mem hi)
  simp at this;exact this hn
 | some i =>
  obtain ⟨hi,e⟩:=jCH hf
  have hv2:inP q ((i:Int)+1)=true:=zY.2 ⟨by omega,by omega⟩
  have:=Go.Proofs.jOQ hq hv2 hv (by rw [qC hi,e,hn])
  rw [← this];simp
theorem Ren.make_old {v:Int} (hv:inP q v=true) (ht:zH q v=zH L z):make q n=(v,0,q):=by
 have hc:=h.check hL hq hz;have hf:=h.find_old hL hq hz hv ht;have h1:=(zY.1 hv).1;unfold make;simp only [hc,hf];rw [if_neg (by simp)];simp only [Prod.mk.injEq,and_true];omega
theorem Ren.make_new (hn:∀v,inP q v=true→zH q v≠zH L z) (hl:q.length<65536):make q n=((q.length:Int)+1,0,q++[⟨n,sizeOf L z,depthOf L z⟩]):=by
 have hc:=h.check hL hq hz;have hf:=h.find_none hL hq hz hn;unfold make;simp only [hc,hf];rw [if_neg (by simp),if_neg (by omega)]
theorem Ren.make_full (hl:¬ q.length<65536) (hn:∀v,inP q v=true→zH q v≠zH L z):make q n=(0,6,q):=by
 have hc:=h.check hL hq hz;have hf:=h.find_none hL hq hz hn;unfold make;simp only [hc,hf];rw [if_neg (by simp),if_pos (by omega)]
theorem Ren.made (h0:(make q n).2.1=0):Wf (make q n).2.2∧inP (make q n).2.2 (make q n).1=true∧zH (make q n).2.2 (make q n).1=zH L z∧∀v,inP q v=true→inP (make q n).2.2 v=true∧zH (make q n).2.2 v=zH q v:=by
 have hw:=xP hq n;obtain ⟨M,e⟩:=uZ q n;obtain ⟨m1,m2,_⟩:=xQ h0;have hold:∀v,inP q v=true→inP (make q n).2.2 v=true∧zH (make q n).2.2 v=zH q v:=fun v hv=>by
  rw [e] at hw ⊢;exact ⟨jBB hv,lN hw _ v rfl hv⟩
 exact ⟨hw,m1,h.tree hL hz hw m1 m2 (fun k hk=>(hold k (h.kin k hk)).2),hold⟩
theorem Ren.err:(make q n).2.1=0∨(make q n).2.1=6∧65536≤q.length∧∀v,inP q v=true→zH q v≠zH L z:=by
 by_cases hx:∃v,inP q v=true∧zH q v=zH L z
 ·obtain ⟨v,hv,ht⟩:=hx;rw [h.make_old hL hq hz hv ht];exact .inl rfl
 ·have hx:∀v,inP q v=true→zH q v≠zH L z:=fun v hv e=>hx ⟨v,hv,e⟩;by_cases hl:q.length<65536
  ·rw [h.make_new hL hq hz hx hl];exact .inl rfl
  ·rw [h.make_full hL hq hz hl hx];exact .inr ⟨rfl,by omega,hx⟩
end
end Go.Sp
end
section
namespace Go.Sp
open Go.Proofs
structure Cp (Lq L:Pool) (own:Int→Int) (seen:List Int):Prop where
 wf:Wf L
 inn:∀s∈seen,inP Lq s=true
 at_:∀s∈seen,inP L (own s)=true∧zH L (own s)=zH Lq s
 out:∀x,x ∉ seen→own x=0
theorem jGN (n:Node) (own:Int→Int):zI { n with a:=own n.a,b:=own n.b }=(zI n).map own:=by
 unfold zI;simp only [List.map_take,List.map_cons,List.map_nil]
theorem Cp.ren {Lq L:Pool} {own:Int→Int} {seen:List Int} (h:Cp Lq L own seen) (hq:Wf Lq) {z:Int} (hz:inP Lq z=true) (hk:∀k∈zI (nodeOf Lq z),k∈seen) :
  Ren Lq L z { nodeOf Lq z with a:=own (nodeOf Lq z).a,b:=own (nodeOf Lq z).b }:=by
 obtain ⟨_,c2,c3,_⟩:=hq.node hz
 have o0:own 0=0:=h.out 0 (fun h0=>by have:=(zY.1 (h.inn 0 h0)).1;omega)
 refine ⟨rfl,rfl,rfl,rfl,rfl,?_,?_,fun e=>by simp only;rw [c2 e,o0],fun e=>by simp only;rw [c3 e,o0]⟩
 ·intro k hk2
  rw [jGN] at hk2
  obtain ⟨x,hx,rfl⟩:=List.mem_map.1 hk2
  exact (h.at_ x (hk x hx)).1
 ·rw [jGN,List.map_map]
  exact List.map_congr_left (fun x hx=>(h.at_ x (hk x hx)).2)
theorem Cp.step {Lq L:Pool} {own:Int→Int} {seen:List Int} (h:Cp Lq L own seen) (hq:Wf Lq) {z:Int} (hz:inP Lq z=true) (hk:∀k∈zI (nodeOf Lq z),k∈seen) {n:Node} (hn:Ren Lq L z n) (h0:(make L n).2.1=0) :
  Cp Lq (make L n).2.2 (fun x=>if x=z then (make L n).1 else own x) (seen++[z]):=by
 obtain ⟨m1,m2,m3,m4⟩:=hn.made hq h.wf hz h0
 refine ⟨m1,fun s hs=>?_,fun s hs=>?_,fun x hx=>?_⟩
 ·rcases List.mem_append.1 hs with hs | hs
  ·exact h.inn s hs
  ·rw [List.mem_singleton] at hs;subst hs;exact hz
 ·by_cases e:s=z
  ·subst e;simp only [if_true];exact ⟨m2,m3⟩
  ·simp only [if_neg e]
   have hs:s∈seen:=(List.mem_append.1 hs).resolve_right (fun hs=>e (List.mem_singleton.1 hs))
   obtain ⟨a1,a2⟩:=h.at_ s hs
   exact ⟨(m4 _ a1).1,(m4 _ a1).2.trans a2⟩
 ·simp only [List.mem_append,List.mem_singleton,not_or] at hx
  rw [if_neg hx.2];exact h.out x hx.1
theorem jRA (L:Pool) (n:Node):(make L n).2.2.length≤L.length+1:=by
 rcases jCD L n with e | ⟨_,e⟩ <;> rw [e] <;> simp
theorem yH (Lq:Pool) (z:Int) (l:List Int) (L:Pool) (own:Int→Int) {n:Node} (hn:{ nodeOf Lq z with a:=own (nodeOf Lq z).a,b:=own (nodeOf Lq z).b }=n) {x e:Int} {L':Pool} (hm:make L n=(x,e,L')) :
  vN Lq (z :: l) L own=if e≠0 then (L,e,own) else vN Lq l L' (fun y=>if y=z then x else own y):=by
 subst hn
 show (if (make L _).2.1≠0 then _ else _)=_
 rw [hm]
theorem jRW {Lq:Pool} (hq:Wf Lq):∀(l seen:List Int) (L:Pool) (own:Int→Int),Cp Lq L own seen→(∀z∈l,inP Lq z=true)→OrdF Lq seen l →
  ((vN Lq l L own).2.1=0∧Cp Lq (vN Lq l L own).1 (vN Lq l L own).2.2 (seen++l))∨((vN Lq l L own).2.1=6∧¬ (L.length+l.length≤65536)):=by
 intro l
 induction l with
 | nil=>intro seen L own h _ _;exact .inl ⟨rfl,by rw [List.append_nil];exact h⟩
 | cons z l ih =>
  intro seen L own h hl ho
  have hz:=hl z (by simp)
  have hn:=h.ren hq hz ho.1
  generalize hnn:({ nodeOf Lq z with a:=own (nodeOf Lq z).a,b:=own (nodeOf Lq z).b }:Node)=n at hn
  have hf:=jRA L n
  have he:=hn.err hq h.wf hz
  have hs:=fun h0=>h.step hq hz ho.1 hn h0
  obtain ⟨x,e,L',hm⟩:∃x e L',make L n=(x,e,L'):=⟨_,_,_,rfl⟩
  rw [yH Lq z l L own hnn hm]
  rw [hm] at hf he hs
  simp only at hf he hs
  rcases he with rfl | ⟨rfl,hg,_⟩
  ·rw [if_neg (by simp)]
   rcases ih _ _ _ (hs rfl) (fun x hx=>hl x (List.mem_cons_of_mem _ hx)) ho.2 with ⟨e1,e2⟩ | ⟨e1,e2⟩
   ·exact .inl ⟨e1,by rw [List.append_assoc,List.singleton_append] at e2;exact e2⟩
   ·refine .inr ⟨e1,fun hle=>e2 ?_⟩
    rw [List.length_cons] at hle;omega
  ·rw [if_pos (by simp)]
   exact .inr ⟨rfl,by rw [List.length_cons];omega⟩
theorem Cp.start {Lq L:Pool} (hL:Wf L):Cp Lq L (fun _=>0) []:=⟨hL,fun _ h=>(by cases h),fun _ h=>(by cases h),fun _ _=>rfl⟩
theorem jRT {L Lq:Pool} (hL:Wf L) (hq:Wf Lq) (t:Int):(yA L Lq t).2.1=0∨((yA L Lq t).1=0∧(yA L Lq t).2.2=L):=by
 unfold yA;split
 ·simp only;split
  ·exact .inr ⟨rfl,rfl⟩
  ·exact .inl rfl
 ·exact .inr ⟨rfl,rfl⟩
theorem jHV {L Lq:Pool} (hL:Wf L) (hq:Wf Lq) {t:Int} (ht:inP Lq t=true) (h0:(yA L Lq t).2.1=0) :
  Wf (yA L Lq t).2.2∧inP (yA L Lq t).2.2 (yA L Lq t).1=true∧zH (yA L Lq t).2.2 (yA L Lq t).1=zH Lq t:=by
 have h:=jRW hq (subs Lq t) [] L (fun _=>0) (Cp.start hL) (fun z hz=>jCO hq hz) (jJC hq t)
 unfold yA at *
 rw [if_pos ht] at *
 simp only at *
 split at h0
 ·rename_i h1;exact absurd h0 h1
 ·rename_i h1
  rw [if_neg h1]
  simp only
  rcases h with ⟨_,h⟩ | ⟨h6,_⟩
  ·rw [List.nil_append] at h
   have:=h.at_ t (jHE hq ht)
   exact ⟨h.wf,this.1,this.2⟩
  ·exact absurd (by rw [h6];decide) h1
structure OvC (L M:Pool) (s1 s2:(Int→Bool)×List Int):Prop where
 list:s1.2.map (zH L)=s2.2.map (zH M)
 i1:∀x∈s1.2,inP L x=true
 i2:∀x∈s2.2,inP M x=true
 mark:∀x y,inP L x=true→inP M y=true→zH L x=zH M y→s1.1 x=s2.1 y
theorem jQU {L M:Pool} (hL:Wf L) (hM:Wf M):∀(n:Nat) (m:Nat) (s t:Int) (st1 st2:(Int→Bool)×List Int),s.toNat<n→t.toNat<m→((inP L s=false∧inP M t=false)∨(inP L s=true∧inP M t=true∧zH L s=zH M t))→OvC L M st1 st2→OvC L M (qX L n s st1) (qX M m t st2):=by
 intro n;induction n with
 | zero=>intro m s t st1 st2 h;omega
 | succ n ih =>
  intro m s t st1 st2 hn hm hst hC
  cases m with
  | zero=>omega
  | succ m =>
  rw [qX,qX]
  rcases hst with ⟨e1,e2⟩ | ⟨hs,ht,e⟩
  ·rw [if_neg (by rw [e1];simp),if_neg (by rw [e2];simp)];exact hC
  ·have hmk:=hC.mark s t hs ht e
   rw [hs,ht]
   cases hv:st1.1 s with
   | true=>rw [if_neg (by simp),if_neg (by rw [← hmk,hv];simp)];exact hC
   | false =>
    rw [if_pos ⟨rfl,rfl⟩,if_pos ⟨rfl,by rw [← hmk,hv]⟩]
    obtain ⟨k1,_,_,_,_,k6⟩:=jBL hL hM hs ht e
    obtain ⟨_,c2,c3,_,c5,_⟩:=hL.node hs
    obtain ⟨_,d2,d3,_,d5,_⟩:=hM.node ht
    have C1:OvC L M (upd st1.1 s true,st1.2) (upd st2.1 t true,st2.2):=⟨hC.list,hC.i1,hC.i2,fun x y hx hy exy=>by
     simp only [upd];by_cases ex:x=s
     ·subst ex;have:y=t:=xE hM _ y t rfl hy ht (exy.symm.trans e);rw [if_pos rfl,if_pos this]
     ·have:y≠t:=fun ey=>ex (xE hL _ x s rfl hx hs (by rw [exy,ey,e]));rw [if_neg ex,if_neg this];exact hC.mark x y hx hy exy⟩
    have hs1:=(zY.1 hs).1
    have ht1:=(zY.1 ht).1
    have kid : (((inP L (nodeOf L s).a = false ∧ inP M (nodeOf M t).a = false) ∨ (inP L (nodeOf L s).a = true ∧ inP M (nodeOf M t).a = true ∧ zH L (nodeOf L s).a = zH M (nodeOf M t).a)) ∧
      ((inP L (nodeOf L s).b=false∧inP M (nodeOf M t).b=false)∨(inP L (nodeOf L s).b=true∧inP M (nodeOf M t).b=true∧zH L (nodeOf L s).b=zH M (nodeOf M t).b))) ∧
      ((nodeOf L s).a.toNat<n∧(nodeOf L s).b.toNat<n)∧(nodeOf M t).a.toNat<m∧(nodeOf M t).b.toNat<m:=by
     have z0:∀P:Pool,inP P 0=false:=fun P=>by simp [inP]
     unfold zI at k6 c5 d5
     rw [← k1] at k6 d2 d3 d5
     rcases yO (nodeOf L s).kind with h | h | h
     ·rw [c2 (by omega),c3 (by omega),d2 (by omega),d3 (by omega)]
      exact ⟨⟨.inl ⟨z0 _,z0 _⟩,.inl ⟨z0 _,z0 _⟩⟩,⟨by omega,by omega⟩,by omega,by omega⟩
     ·rw [c3 (by omega),d3 (by omega)]
      rw [h] at k6 c5 d5
      simp at k6 c5 d5
      have:=zY.1 c5.1;have:=zY.1 d5.1
      exact ⟨⟨.inr ⟨c5.1,d5.1,k6⟩,.inl ⟨z0 _,z0 _⟩⟩,⟨by omega,by omega⟩,by omega,by omega⟩
     ·rw [h] at k6 c5 d5
      simp at k6 c5 d5
      have:=zY.1 c5.1.1;have:=zY.1 d5.1.1;have:=zY.1 c5.2.1;have:=zY.1 d5.2.1
      exact ⟨⟨.inr ⟨c5.1.1,d5.1.1,k6.1⟩,.inr ⟨c5.2.1,d5.2.1,k6.2⟩⟩,⟨by omega,by omega⟩,by omega,by omega⟩
    have r1:=ih m _ _ _ _ kid.2.1.1 kid.2.2.1 kid.1.1 C1
    have r2:=ih m _ _ _ _ kid.2.1.2 kid.2.2.2 kid.1.2 r1
    refine ⟨?_,?_,?_,r2.mark⟩
    ·simp only [List.map_append,List.map_cons,List.map_nil,r2.list,e]
    ·intro x hx
     rcases List.mem_append.1 hx with hx | hx
     ·exact r2.i1 x hx
     ·rw [List.mem_singleton] at hx;subst hx;exact hs
    ·intro x hx
     rcases List.mem_append.1 hx with hx | hx
     ·exact r2.i2 x hx
     ·rw [List.mem_singleton] at hx;subst hx;exact ht
theorem jIP {L M:Pool} (hL:Wf L) (hM:Wf M) {s t:Int} (hs:inP L s=true) (ht:inP M t=true) (e:zH L s=zH M t):(subs L s).map (zH L)=(subs M t).map (zH M) :=
 (jQU hL hM (s.toNat+1) (t.toNat+1) s t (fun _=>false,[]) (fun _=>false,[]) (by omega) (by omega) (.inr ⟨hs,ht,e⟩) ⟨rfl,by simp,by simp,fun _ _ _ _ _=>rfl⟩).list
theorem jGG {L M:Pool} (hL:Wf L) (hM:Wf M) {a b:Int} (ha:inP L a=true) (hb:inP M b=true) (e:zH L a=zH M b):∀(l1 l2:List Int),(∀x∈l1,inP L x=true)→(∀x∈l2,inP M x=true)→l1.map (zH L)=l2.map (zH M)→posOf l1 a=posOf l2 b:=by
 intro l1;induction l1 with
 | nil=>intro l2 _ _ h;cases l2 with
  | nil=>rfl
  | cons y l2=>simp at h
 | cons x l1 ih=>intro l2 h1 h2 h;cases l2 with
  | nil=>simp at h
  | cons y l2 =>
   simp only [List.map_cons,List.cons.injEq] at h
   have hi:=ih l2 (fun k hk=>h1 k (List.mem_cons_of_mem _ hk)) (fun k hk=>h2 k (List.mem_cons_of_mem _ hk)) h.2
   have hxy:(x == a)=(y == b):=by
    by_cases ex:x=a
    ·have:y=b:=xE hM _ y b rfl (h2 y (by simp)) hb (by rw [← h.1,ex,e]);simp [ex,this]
    ·have:y≠b:=fun ey=>ex (xE hL _ x a rfl (h1 x (by simp)) ha (by rw [h.1,ey,e]));rw [beq_false_of_ne ex,beq_false_of_ne this]
   unfold posOf at *
   rw [List.idxOf_cons,List.idxOf_cons,hxy,hi]
theorem jBO {L M:Pool} (hL:Wf L) (hM:Wf M):∀(l1 l2 s1 s2:List Int),(∀x∈l1,inP L x=true)→(∀x∈l2,inP M x=true)→(∀x∈s1,inP L x=true)→(∀x∈s2,inP M x=true)→l1.map (zH L)=l2.map (zH M)→s1.map (zH L)=s2.map (zH M)→vF L s1 l1=vF M s2 l2:=by
 intro l1;induction l1 with
 | nil=>intro l2 s1 s2 _ _ _ _ h _;cases l2 with
  | nil=>rfl
  | cons y l2=>simp at h
 | cons x l1 ih=>intro l2 s1 s2 h1 h2 h3 h4 h h5;cases l2 with
  | nil=>simp at h
  | cons y l2 =>
   simp only [List.map_cons,List.cons.injEq] at h
   have hx:=h1 x (by simp)
   have hy:=h2 y (by simp)
   obtain ⟨k1,k2,k3,k4,k5,k6⟩:=jBL hL hM hx hy h.1
   obtain ⟨_,_,_,_,c5,_⟩:=hL.node hx
   obtain ⟨_,_,_,_,d5,_⟩:=hM.node hy
   have hi:=ih l2 (s1++[x]) (s2++[y]) (fun k hk=>h1 k (List.mem_cons_of_mem _ hk)) (fun k hk=>h2 k (List.mem_cons_of_mem _ hk))
    (fun k hk=>by rcases List.mem_append.1 hk with hk | hk;exact h3 k hk;rw [List.mem_singleton] at hk;subst hk;exact hx)
    (fun k hk=>by rcases List.mem_append.1 hk with hk | hk;exact h4 k hk;rw [List.mem_singleton] at hk;subst hk;exact hy) h.2 (by simp [h5,h.1])
   rw [vF,vF,hi]
   congr 1
   unfold yR
   rw [k1]
   congr 1
   have hf:∀f∈uV (nodeOf M y).kind,f.bytes (nodeOf L x) (posOf s1 (nodeOf L x).a) (posOf s1 (nodeOf L x).b)=f.bytes (nodeOf M y) (posOf s2 (nodeOf M y).a) (posOf s2 (nodeOf M y).b):=by
    intro f hf;have hk1:Fld.fst∈uV (nodeOf M y).kind→posOf s1 (nodeOf L x).a=posOf s2 (nodeOf M y).a:=fun hf=>by
     have m1:=jLR (n:=nodeOf L x) (by rw [k1];exact hf);have m2:=jLR hf;refine jGG hL hM (c5 _ m1).1 (d5 _ m2).1 ?_ s1 s2 h3 h4 h5;unfold zI at k6 m1;rw [k1] at k6 m1;rcases yO (nodeOf M y).kind with e | e | e <;> rw [e] at k6 m1 <;> simp at k6 m1
     ·exact k6
     ·exact k6.1
    have hk2:Fld.snd∈uV (nodeOf M y).kind→posOf s1 (nodeOf L x).b=posOf s2 (nodeOf M y).b:=fun hf=>by
     have m1:=jLC (n:=nodeOf L x) (by rw [k1];exact hf);have m2:=jLC hf;have e:(shapeOf (nodeOf M y).kind).kids=2:=by
      unfold uV at hf
      repeat' split at hf
      all_goals first | (exfalso;revert hf;decide) | skip
      all_goals (rename_i h4;rw [h4];rfl)
     refine jGG hL hM (c5 _ m1).1 (d5 _ m2).1 ?_ s1 s2 h3 h4 h5;unfold zI at k6;rw [k1,e] at k6;simp at k6;exact k6.2
    cases f
    ·simp only [Fld.bytes,k2]
    ·simp only [Fld.bytes,k3]
    ·simp only [Fld.bytes,k4]
    ·simp only [Fld.bytes,k5]
    ·simp only [Fld.bytes,hk1 hf]
    ·simp only [Fld.bytes,hk2 hf]
   have cg:∀(fs:List Fld) (g1 g2:Fld→List UInt8),(∀f∈fs,g1 f=g2 f)→fs.flatMap g1=fs.flatMap g2:=by
    intro fs g1 g2;induction fs with
    | nil=>intro _;rfl
    | cons f fs ihf=>intro hh;rw [List.flatMap_cons,List.flatMap_cons,hh f (by simp),ihf (fun x hx=>hh x (List.mem_cons_of_mem _ hx))]
   exact cg _ _ _ hf
theorem jLB {L M:Pool} (hL:Wf L) (hM:Wf M) {s t:Int} (hs:inP L s=true) (ht:inP M t=true) (e:zH L s=zH M t):yY L s=yY M t :=
 jBO hL hM _ _ [] [] (fun _ h=>jCO hL h) (fun _ h=>jCO hM h) (by simp) (by simp) (jIP hL hM hs ht e) rfl
def _root_.Go.Proofs.Fld.fill (n:Node) (na nb:Nat) (x:Raw):Fld→Raw
 | .from_=>{ x with frm:=n.frm.toNat }
 | .to_=>{ x with to:=n.to.toNat }
 | .num=>{ x with num:=n.num.toNat }
 | .text=>{ x with text:=n.text.data.toList }
 | .fst=>{ x with a:=na,kids:=1 }
 | .snd=>{ x with b:=nb,kids:=2 }
theorem jBX {bs:List UInt8} {r:Rd} (he:r.err=0) {m:Nat} (hm:m<18446744073709551616) {rest:List UInt8} (h:bs.drop r.at_=vX m++rest):qZ bs r=(m,⟨r.at_+(vX m).length,0,r.spot⟩):=by
 unfold qZ;rw [if_pos he,h,jDE hm]
theorem jQO {bs:List UInt8} {r:Rd} (he:r.err=0) {s:ByteArray} (hs:s.size≤64) {rest:List UInt8} (h:bs.drop r.at_=qQ s++rest):qN bs 64 r=(s.data.toList,⟨r.at_+(qQ s).length,0,r.spot⟩):=by
 have hl:s.data.toList.length=s.size:=Array.length_toList;have hln:=congrArg List.length h;unfold qQ at h hln ⊢;rw [List.append_assoc] at h;rw [List.length_drop,List.length_append,List.length_append,hl] at hln;unfold qN;rw [if_pos he,h,jDE (by omega)];simp only;have hv:0<(vX s.size).length:=by unfold vX;split <;> simp
 rw [if_neg (by omega),if_neg (by omega)];have hd:bs.drop (r.at_+(vX s.size).length)=s.data.toList++rest:=by
  rw [← List.drop_drop,h,List.drop_left]
 rw [hd,← hl,List.take_left,List.length_append];simp only [Prod.mk.injEq,Rd.mk.injEq,and_true,true_and];omega
theorem jOK {bs:List UInt8} {n:Node} {na nb:Nat} (h1:n.frm<16) (h2:n.to<16) (h3:yV n.num) (h4:n.text.size≤64) (ha:na<65537) (hb:nb<65537):∀(fs:List Fld) (x:Raw) (r:Rd) (rest:List UInt8),r.err=0→bs.drop r.at_=fs.flatMap (Fld.bytes n na nb)++rest →
  qA bs fs (x,r)=(fs.foldl (fun x f=>f.fill n na nb x) x,⟨r.at_+(fs.flatMap (Fld.bytes n na nb)).length,0,r.spot⟩):=by
 intro fs
 induction fs with
 | nil=>intro x r rest he _;rw [qA];obtain ⟨a,e,s⟩:=r;simp only at he;subst he;rfl
 | cons f fs ih =>
  intro x r rest he h
  rw [List.flatMap_cons,List.append_assoc] at h
  have h3':=h3.2
  have key:f.raw bs r x=f.fill n na nb x∧f.rd bs r=⟨r.at_+(f.bytes n na nb).length,0,r.spot⟩:=by
   cases f
   ·have:=jBX he (m:=n.frm.toNat) (by omega) h;simp only [Fld.raw,Fld.rd,Fld.fill,Fld.bytes,this,and_self]
   ·have:=jBX he (m:=n.to.toNat) (by omega) h;simp only [Fld.raw,Fld.rd,Fld.fill,Fld.bytes,this,and_self]
   ·have:=jBX he (m:=n.num.toNat) (by omega) h;simp only [Fld.raw,Fld.rd,Fld.fill,Fld.bytes,this,and_self]
   ·have:=jQO he h4 h;simp only [Fld.raw,Fld.rd,Fld.fill,Fld.bytes,this,and_self]
   ·have:=jBX he (m:=na) (by omega) h;simp only [Fld.raw,Fld.rd,Fld.fill,Fld.bytes,this,and_self]
   ·have:=jBX he (m:=nb) (by omega) h;simp only [Fld.raw,Fld.rd,Fld.fill,Fld.bytes,this,and_self]
  rw [qA,key.1,key.2,ih _ _ rest rfl (by simp only;rw [← List.drop_drop,h,List.drop_left]),List.foldl_cons,List.flatMap_cons,List.length_append,Nat.add_assoc]
def yU (seen:List Int) (x:Int):Int:=if x∈seen then (posOf seen x:Int)+1 else 0
theorem jON {seen:List Int} {z:Int} (h:z ∉ seen):yU (seen++[z])=fun x=>if x=z then ((seen.length:Int)+1) else yU seen x:=by
 funext x;unfold yU;by_cases e:x=z
 ·subst e;simp only [List.mem_append,List.mem_singleton,or_true,if_true];rw [jBY h]
 ·rw [if_neg e];by_cases hx:x∈seen
  ·rw [if_pos (List.mem_append_left _ hx),if_pos hx,jEX hx]
  ·rw [if_neg hx,if_neg (by simp [hx,e])]
theorem jTE {L:Pool} (hW:Wf L) (hN:uN L) {z:Int} (hz:inP L z=true) {seen:List Int} (h0:(0:Int) ∉ seen) (hk:∀k∈zI (nodeOf L z),k∈seen) :
  let x:=(uV (nodeOf L z).kind).foldl (fun x f=>f.fill (nodeOf L z) (posOf seen (nodeOf L z).a) (posOf seen (nodeOf L z).b) x) tO
  x.node (nodeOf L z).kind.toNat={ nodeOf L z with a:=yU seen (nodeOf L z).a,b:=yU seen (nodeOf L z).b }∧nodeErr (nodeOf L z).kind.toNat seen.length x 0=0:=by
 obtain ⟨k1,k9,f0,f1,t0,t1,x1⟩:=jCB hW hz
 obtain ⟨d1,d2,d3,d4,d5,d6⟩:=jTN hW hz
 obtain ⟨_,_,_,p4,_⟩:=hW.node hz
 have hn:=hN.node z
 have hf:=jLR (n:=nodeOf L z)
 have hs:=jLC (n:=nodeOf L z)
 generalize nodeOf L z=n at *
 obtain ⟨k,f,t,u,tx,a,b⟩:=n
 simp only at *
 have hn1:=hn.1
 have w0:yU seen 0=0:=by unfold yU;rw [if_neg h0]
 have ha:Fld.fst∈uV k→yU seen a=(posOf seen a:Int)+1∧posOf seen a<seen.length:=fun h=>by
  have:=hk _ (hf h);unfold yU;rw [if_pos this];exact ⟨rfl,jEA this⟩
 have hb:Fld.snd∈uV k→yU seen b=(posOf seen b:Int)+1∧posOf seen b<seen.length:=fun h=>by
  have:=hk _ (hs h);unfold yU;rw [if_pos this];exact ⟨rfl,jEA this⟩
 have ft:(f.toNat:Int)=f:=by omega
 have tt:(t.toNat:Int)=t:=by omega
 have ut:(u.toNat:Int)=u:=by omega
 have g16:¬ 16≤f.toNat:=by omega
 have g17:¬ 16≤t.toNat:=by omega
 have tb:(⟨tx.data.toList.toArray⟩:ByteArray)=tx:=by cases tx;simp
 have ftn:f.toNat=t.toNat→f=t:=fun h=>by omega
 have hne:k=8∨k=9→f.toNat≠t.toNat:=fun hk8 e=>by
  have:=ftn e;subst this;unfold zZ at p4;rcases hk8 with rfl | rfl <;> simp [shapeOf] at p4
 clear p4 hf hs hk hn hn1 hW hN
 have:k=1∨k=2∨k=3∨k=4∨k=5∨k=6∨k=7∨k=8∨k=9:=by omega
 rcases this with rfl | rfl | rfl | rfl | rfl | rfl | rfl | rfl | rfl <;>
  simp [uV,shapeOf,tO,Fld.fill,Raw.node,nodeErr,w0,ft,tt,ut,g16,g17,tb] at d1 d2 d3 d4 d5 d6 ha hb hne ⊢ <;> simp_all <;> omega
theorem cp_le {L q:Pool} {seen:List Int} (h:Cp L q (yU seen) seen) (hl:q.length=seen.length) (hn:seen.Nodup) {v:Int} (hv:inP q v=true):∃s∈seen,yU seen s=v∧zH q v=zH L s:=by
 obtain ⟨h1,h2⟩:=zY.1 hv;have hi:(v - 1).toNat<seen.length:=by omega
 have hm:seen[(v - 1).toNat]∈seen:=List.getElem_mem hi;have hp:posOf seen seen[(v - 1).toNat]=(v - 1).toNat:=by
  have hlt:=jEA hm;refine (List.getElem_inj (h₀:=hlt) (h₁:=hi) hn).1 ?_;exact List.getElem_idxOf hlt
 have ho:yU seen seen[(v - 1).toNat]=v:=by unfold yU;rw [if_pos hm,hp];omega
 refine ⟨_,hm,ho,?_⟩;have:=(h.at_ _ hm).2;rw [ho] at this;exact this
theorem jDH (L:Pool) (seen:List Int) (z:Int):0<(yR L seen z).length:=by unfold yR;simp
theorem jTA {L:Pool} (hW:Wf L) (hN:uN L) {bs:List UInt8}:∀(l seen:List Int) (q:Pool) (r:Rd) (ps:List Nat) (fuel:Nat),Cp L q (yU seen) seen→q.length=seen.length→ps.length=seen.length→OrdF L seen l→(seen++l).Nodup→(∀z∈l,inP L z=true) →
  r.err=0→r.at_≤bs.length→bs.drop r.at_=vF L seen l→bs.length - r.at_≤fuel→seen.length+l.length≤65535 →
  ∃q' ps',jIZ bs fuel q r ps=jBW q' ps'∧Cp L q' (yU (seen++l)) (seen++l)∧q'.length=(seen++l).length∧ps'.length=(seen++l).length:=by
 intro l
 induction l with
 | nil =>
  intro seen q r ps fuel hC hq hp _ _ _ _ hat hd _ _
  refine ⟨q,ps,jHJ ?_ fuel,by rw [List.append_nil];exact hC,by rw [List.append_nil];exact hq,by rw [List.append_nil];exact hp⟩
  have:=congrArg List.length hd
  simp [vF] at this;omega
 | cons z l ih =>
  intro seen q r ps fuel hC hq hp ho hnd hl he hat hd hfu hsm
  have hz:=hl z (by simp)
  have hzn:z ∉ seen:=fun h=>(List.nodup_append.1 hnd).2.2 z h z (by simp) rfl
  have hsn:seen.Nodup:=(List.nodup_append.1 hnd).1
  have h0:(0:Int) ∉ seen:=fun h=>by have:=(zY.1 (hC.inn 0 h)).1;omega
  rw [vF] at hd
  have hpos:=jDH L seen z
  have hdl:=congrArg List.length hd
  rw [List.length_drop,List.length_append] at hdl
  have hlt:r.at_<bs.length:=by omega
  obtain ⟨fuel,rfl⟩:∃k,fuel=k+1:=⟨fuel - 1,by omega⟩
  rw [List.length_cons] at hsm
  obtain ⟨k1,k9,f0,f1,t0,t1,x1⟩:=jCB hW hz
  have hnum:=hN.node z
  have hcons:bs.drop r.at_=bs[r.at_] :: bs.drop (r.at_+1):=List.drop_eq_getElem_cons hlt
  have htxt:=hd
  rw [hcons] at htxt
  unfold yR at htxt
  rw [List.cons_append,List.cons.injEq] at htxt
  obtain ⟨hb,hrest⟩:=htxt
  have hbk:bs[r.at_].toNat=(nodeOf L z).kind.toNat:=by rw [hb,toNat_ofNat (by omega)]
  have hkk:(((nodeOf L z).kind.toNat:Nat):Int)=(nodeOf L z).kind:=by omega
  have hfl:=jOK f1 t1 hnum x1 (by have:=jBZ seen (nodeOf L z).a;omega) (by have:=jBZ seen (nodeOf L z).b;omega) (uV (nodeOf L z).kind) tO ⟨r.at_+1,0,r.spot⟩ (vF L (seen++[z]) l) rfl hrest
  obtain ⟨hraw,hne⟩:=jTE hW hN hz h0 ho.1
  have hren:=hC.ren hW hz ho.1
  have hnew:∀v,inP q v=true→zH q v≠zH L z:=fun v hv e=>by
   obtain ⟨s,hs,_,e2⟩:=cp_le hC hq hsn hv;have:=xE hW _ s z rfl (hC.inn s hs) hz (e2.symm.trans e);exact hzn (this▸hs)
  have hmk:=hren.make_new hW hC.wf hz hnew (by omega)
  have hfn:=hren.find_none hW hC.wf hz hnew
  have hst:=hC.step hW hz ho.1 hren (by rw [hmk])
  have hstep:vU bs q r=((make q { nodeOf L z with a:=yU seen (nodeOf L z).a,b:=yU seen (nodeOf L z).b }).2.2,0,⟨r.at_+1+((uV (nodeOf L z).kind).flatMap (Fld.bytes (nodeOf L z) (posOf seen (nodeOf L z).a) (posOf seen (nodeOf L z).b))).length,0,r.spot⟩):=by
   rw [tV bs q r hlt he,hbk,hkk,hfl,if_pos (by unfold jBA;simp;omega)];unfold jCM;simp only at hraw hne ⊢;rw [hraw,hq,hne,hfn,if_neg (by simp),if_neg (by simp),hmk]
  have hq1:(make q { nodeOf L z with a:=yU seen (nodeOf L z).a,b:=yU seen (nodeOf L z).b }).2.2.length=(seen++[z]).length:=by rw [hmk];simp [hq]
  have hown:(fun x=>if x=z then (make q { nodeOf L z with a:=yU seen (nodeOf L z).a,b:=yU seen (nodeOf L z).b }).1 else yU seen x)=yU (seen++[z]):=by rw [jON hzn,hmk,hq]
  rw [hown] at hst
  have hd2:bs.drop (r.at_+1+((uV (nodeOf L z).kind).flatMap (Fld.bytes (nodeOf L z) (posOf seen (nodeOf L z).a) (posOf seen (nodeOf L z).b))).length)=vF L (seen++[z]) l:=by
   rw [← List.drop_drop,hrest,List.drop_left]
  have hle:r.at_+1+((uV (nodeOf L z).kind).flatMap (Fld.bytes (nodeOf L z) (posOf seen (nodeOf L z).a) (posOf seen (nodeOf L z).b))).length≤bs.length:=by
   have:=congrArg List.length hrest;rw [List.length_drop,List.length_append] at this;omega
  rw [jIZ,if_pos hlt,hstep]
  simp only
  rw [if_neg (by simp)]
  obtain ⟨q',ps',g1,g2,g3,g4⟩:=ih (seen++[z]) _ ⟨_,0,r.spot⟩ (ps++[r.at_]) fuel hst hq1 (by simp [hp]) ho.2 (by simpa using hnd) (fun x hx=>hl x (List.mem_cons_of_mem _ hx)) rfl hle hd2 (by simp only;omega) (by rw [List.length_append,List.length_singleton];omega)
  rw [List.append_assoc,List.singleton_append] at g2 g3 g4
  exact ⟨q',ps',g1,g2,g3,g4⟩
theorem jRL:∀(l:List Int) (i:Nat),(∀j (h:j<l.length),l[j]=((i+j:Nat):Int)+1)→inRow i l=i+l.length:=by
 intro l;induction l with
 | nil=>intro i _;rfl
 | cons s l ih =>
  intro i h
  have h0:=h 0 (by simp)
  simp only [List.getElem_cons_zero,Nat.add_zero] at h0
  rw [inRow,if_pos h0,ih (i+1) (fun j hj=>by have:=h (j+1) (by simpa using hj);simp only [List.getElem_cons_succ] at this;rw [this];congr 2;omega),List.length_cons]
  omega
theorem jOA {L:Pool} {t:Int} (h:inP L t=true):∃pre,subs L t=pre++[t]:=by
 unfold subs;rw [qX,if_pos ⟨h,rfl⟩];exact ⟨_,rfl⟩
theorem jOI {L:Pool} (hW:Wf L) (hN:uN L) {t:Int} (ht:inP L t=true) (hl:(yY L t).length≤4096) :
  ∃q:Pool,vT (yY L t)=(some q,0,0)∧Wf q∧inP q q.length=true∧zH q q.length=zH L t:=by
 have hself:=jHE hW ht
 have hnd:=jCN hW t
 have hfew:(subs L t).length≤(yY L t).length:=by
  have:∀(l seen:List Int),l.length≤(vF L seen l).length:=by
   intro l;induction l with
   | nil=>intro _;simp
   | cons z l ih=>intro seen;have:=jDH L seen z;have:=ih (seen++[z]);rw [vF,List.length_append,List.length_cons];omega
  exact this _ _
 have hne:0<(subs L t).length:=List.length_pos_of_mem hself
 obtain ⟨q, ps, g1, g2, g3, g4⟩ := jTA hW hN (bs := yY L t) (subs L t) [] [] ⟨0, 0, 0⟩ [] (yY L t).length (by
   have:=Cp.start (Lq:=L) Wf.nil;have e:yU []=fun _=>0:=by funext x;simp [yU]
   rw [e];exact this) rfl rfl (jJC hW t) (by simpa using hnd) (fun z hz=>jCO hW hz) rfl (Nat.zero_le _) rfl (Nat.le_refl _) (by simp;omega)
 rw [List.nil_append] at g2 g3 g4
 have hown:yU (subs L t) t=q.length:=by
  obtain ⟨pre,hp⟩:=jOA ht;have hnp:t ∉ pre:=by rw [hp] at hnd;exact fun h=>(List.nodup_append.1 hnd).2.2 t h t (by simp) rfl
  unfold yU;rw [if_pos hself,g3,hp,jBY hnp];simp
 obtain ⟨a1,a2⟩:=g2.at_ t hself
 rw [hown] at a1 a2
 have hsub:subs q q.length=(subs L t).map (yU (subs L t)):=by
  refine jQZ g2.wf (fun k hk=>jCO g2.wf hk) (fun k hk=>?_) ?_
  ·obtain ⟨x,hx,rfl⟩:=List.mem_map.1 hk;exact (g2.at_ x hx).1
  ·rw [jIP g2.wf hW a1 ht a2,List.map_map];exact List.map_congr_left (fun x hx=>((g2.at_ x hx).2).symm)
 have hrow:inRow 0 (subs q q.length)=ps.length:=by
  rw [jRL,hsub,List.length_map,Nat.zero_add,g4];intro j hj;have hj':j<(subs L t).length:=by rw [hsub,List.length_map] at hj;exact hj
  simp only [hsub,List.getElem_map,Nat.zero_add];have hm:(subs L t)[j]∈subs L t:=List.getElem_mem hj';have hp:posOf (subs L t) (subs L t)[j]=j:=by
   have hlt:=jEA hm;exact (List.getElem_inj (h₀:=hlt) (h₁:=hj') hnd).1 (List.getElem_idxOf hlt)
  unfold yU;rw [if_pos hm,hp]
 refine ⟨q,?_,g2.wf,a1,a2⟩
 unfold vT
 rw [if_neg (by omega),if_neg (by omega),g1]
 unfold jBW
 simp only
 rw [dif_neg (by omega)]
def jEZ:Nat→List Int
 | 0=>[]
 | n+1=>jEZ n++[(n:Int)+1]
theorem jEB (n:Nat):(jEZ n).length=n:=by induction n with
 | zero=>rfl
 | succ n ih=>simp [jEZ,ih]
theorem jHL {n:Nat} {x:Int}:x∈jEZ n↔1≤x∧x≤n:=by
 induction n with
 | zero=>simp [jEZ];omega
 | succ n ih=>simp only [jEZ,List.mem_append,ih,List.mem_singleton];omega
theorem jMZ {n:Nat}:∀{x:Int},1≤x→x≤n→posOf (jEZ n) x=(x - 1).toNat:=by
 induction n with
 | zero=>intro x h1 h2;omega
 | succ n ih =>
  intro x h1 h2
  rw [jEZ]
  by_cases h:x≤n
  ·rw [jEX (jHL.2 ⟨h1,h⟩),ih h1 h]
  ·have:x=(n:Int)+1:=by omega
   subst this
   rw [jBY (by rw [jHL];omega),jEB];omega
theorem jTK {n:Nat} {j:Nat} (h:j<(jEZ n).length):(jEZ n)[j]=(j:Int)+1:=by
 induction n with
 | zero=>simp [jEZ] at h
 | succ n ih =>
  simp only [jEZ]
  rw [List.getElem_append]
  split
  ·exact ih _
  ·rename_i h1
   have:j=n:=by rw [jEB] at h h1;omega
   subst this;simp
def _root_.Go.Proofs.Fld.said (x:Raw):Fld→List UInt8
 | .from_=>vX x.frm | .to_=>vX x.to | .num=>vX x.num | .text=>qQ ⟨x.text.toArray⟩ | .fst=>vX x.a | .snd=>vX x.b
theorem jQN:∀{l:List UInt8} {i n x:Nat},xX i n l=.error x→x≠0:=by
 intro l;induction l with
 | nil=>intro i n x h;simp [xX] at h;omega
 | cons c l ih =>
  intro i n x h
  rw [xH] at h
  split at h
  ·cases h;decide
  ·split at h
   ·split at h
    ·cases h;decide
    ·cases h
   ·exact ih h
theorem yQ {bs:List UInt8} {r:Rd} (h:(qZ bs r).2.err=0):r.err=0∧bs.drop r.at_=vX (qZ bs r).1++bs.drop (qZ bs r).2.at_∧(qZ bs r).1<18446744073709551616:=by
 unfold qZ at h ⊢;by_cases he:r.err=0
 ·rw [if_pos he] at h ⊢;cases hr:xX 0 0 (bs.drop r.at_) with
  | error x =>
   rw [hr] at h
   simp only at h
   exact absurd h (jQN hr)
  | ok p =>
   obtain ⟨n,k⟩:=p
   obtain ⟨c,h1,h2,h3⟩:=jIY hr
   refine ⟨he,?_,h3⟩
   simp only
   rw [← List.drop_drop,h1,h2,List.drop_left]
 ·rw [if_neg he] at h;exact absurd h he
theorem jQP {bs:List UInt8} {r:Rd} (h:(qN bs 64 r).2.err=0):r.err=0∧bs.drop r.at_=qQ ⟨(qN bs 64 r).1.toArray⟩++bs.drop (qN bs 64 r).2.at_:=by
 have hn:=@yQ bs r;unfold qZ at hn;unfold qN at h ⊢;by_cases he:r.err=0
 ·rw [if_pos he] at h hn ⊢;cases hr:xX 0 0 (bs.drop r.at_) with
  | error x =>
   rw [hr] at h hn
   simp only at h hn
   exact absurd (hn h).2.1 (by
    have:=(hn h).2.1;intro _;have hl:=congrArg List.length this;rw [List.length_append,xM (by omega)] at hl;simp at hl)
  | ok p =>
   obtain ⟨n,k⟩:=p
   rw [hr] at h hn
   simp only at h hn ⊢
   obtain ⟨c,h1,h2,h3⟩:=jIY hr
   split at h
   ·simp at h
   ·rename_i h64
    rw [if_neg h64]
    split at h
    ·simp at h
    ·rename_i hlen
     rw [if_neg hlen]
     refine ⟨he,?_⟩
     simp only
     have hd:bs.drop (r.at_+k)=c:=by rw [← List.drop_drop,h1,h2,List.drop_left]
     have hcl:n≤c.length:=by rw [← hd,List.length_drop];omega
     have hs:(ByteArray.mk (c.take n).toArray).size=n:=by show (c.take n).toArray.size=n;simp;omega
     have hd2:bs.drop (r.at_+k+n)=c.drop n:=by rw [← List.drop_drop,hd]
     rw [hd,hd2]
     unfold qQ
     rw [hs,h1,List.append_assoc]
     congr 1
     simp
 ·rw [if_neg he] at h;exact absurd h he
theorem jVT {bs:List UInt8} {r:Rd} {x:Raw} (f:Fld) (h:(f.rd bs r).err=0):r.err=0∧bs.drop r.at_=f.said (f.raw bs r x)++bs.drop (f.rd bs r).at_:=by
 cases f
 ·exact ⟨(yQ h).1,(yQ h).2.1⟩
 ·exact ⟨(yQ h).1,(yQ h).2.1⟩
 ·exact ⟨(yQ h).1,(yQ h).2.1⟩
 ·exact jQP h
 ·exact ⟨(yQ h).1,(yQ h).2.1⟩
 ·exact ⟨(yQ h).1,(yQ h).2.1⟩
theorem jQE {bs:List UInt8} {r:Rd} {x:Raw} {f g:Fld} (h:f≠g):f.said (g.raw bs r x)=f.said x:=by
 cases f <;> cases g <;> first | rfl | exact absurd rfl h
theorem jLK {bs:List UInt8} {f:Fld}:∀(fs:List Fld) (x:Raw) (r:Rd),f ∉ fs→f.said (qA bs fs (x,r)).1=f.said x:=by
 intro fs;induction fs with
 | nil=>intro x r _;rfl
 | cons g fs ih =>
  intro x r h
  simp only [List.mem_cons,not_or] at h
  rw [qA,ih _ _ h.2,jQE h.1]
theorem jOL {bs:List UInt8}:∀(fs:List Fld) (x:Raw) (r:Rd),fs.Nodup→(qA bs fs (x,r)).2.err=0→r.err=0∧bs.drop r.at_=fs.flatMap (fun f=>f.said (qA bs fs (x,r)).1)++bs.drop (qA bs fs (x,r)).2.at_:=by
 intro fs;induction fs with
 | nil=>intro x r _ h;exact ⟨h,rfl⟩
 | cons f fs ih =>
  intro x r hn h
  rw [qA] at h ⊢
  rw [List.nodup_cons] at hn
  obtain ⟨h1,h2⟩:=ih _ _ hn.2 h
  obtain ⟨h3,h4⟩:=jVT (x:=x) f h1
  refine ⟨h3,?_⟩
  rw [List.flatMap_cons,h4,h2,jLK fs _ _ hn.1,List.append_assoc]
theorem jPA (k:Int):(uV k).Nodup:=by
 unfold uV;repeat' split
 all_goals decide
theorem jVN {bs:List UInt8}:∀(fs:List Fld) (x:Raw) (r:Rd),(x.num<18446744073709551616)→(qA bs fs (x,r)).1.num<18446744073709551616:=by
 intro fs;induction fs with
 | nil=>intro x r h;exact h
 | cons f fs ih =>
  intro x r h
  rw [qA]
  refine ih _ _ ?_
  cases f <;> try exact h
  simp only [Fld.raw]
  by_cases he:(qZ bs r).2.err=0
  ·exact (yQ he).2.2
  ·unfold qZ at he ⊢
   split
   ·rename_i h1
    rw [if_pos h1] at he
    split
    ·rename_i hk
     rw [hk] at he
     exact absurd rfl he
    ·simp
   ·simp
theorem jJN {bs:List UInt8} {k:Int} (h1:1≤k) (h9:k≤9) (r:Rd):(qA bs (uV k) (tO,r)).1.kids=(shapeOf k).kids.toNat∧(Fld.fst∈uV k↔0<(shapeOf k).kids)∧(Fld.snd∈uV k↔1<(shapeOf k).kids):=by
 have:k=1∨k=2∨k=3∨k=4∨k=5∨k=6∨k=7∨k=8∨k=9:=by omega
 rcases this with rfl | rfl | rfl | rfl | rfl | rfl | rfl | rfl | rfl <;> simp [uV,qA,Fld.raw,tO,shapeOf]
theorem jOJ {bs:List UInt8} {q:Pool} {r:Rd} (hW:Wf q) (hN:uN q) (hl:r.at_<bs.length) (he:r.err=0) (h0:(vU bs q r).2.1=0) :
  Wf (vU bs q r).1∧uN (vU bs q r).1∧(vU bs q r).1.length=q.length+1∧(∀v,inP q v=true→inP (vU bs q r).1 v=true∧zH (vU bs q r).1 v=zH q v) ∧
  bs.drop r.at_=yR (vU bs q r).1 (jEZ q.length) ((q.length:Int)+1)++bs.drop (vU bs q r).2.2.at_:=by
 rw [tV bs q r hl he] at h0 ⊢
 have hcons:bs.drop r.at_=bs[r.at_] :: bs.drop (r.at_+1):=List.drop_eq_getElem_cons hl
 have hb8:UInt8.ofNat bs[r.at_].toNat=bs[r.at_]:=by simp
 generalize bs[r.at_]=c at *
 split at h0
 ·rename_i hk
  rw [if_pos hk]
  have hk1:1≤c.toNat∧c.toNat≤9:=by unfold jBA at hk;simpa using hk
  have hfl:=@jOL bs (uV c.toNat) tO ⟨r.at_+1,0,r.spot⟩ (jPA _)
  have hnum:=@jVN bs (uV c.toNat) tO ⟨r.at_+1,0,r.spot⟩ (by decide)
  obtain ⟨hkd,hk2,hk3⟩:=@jJN bs (c.toNat:Int) (by omega) (by omega) ⟨r.at_+1,0,r.spot⟩
  generalize qA bs (uV c.toNat) (tO,⟨r.at_+1,0,r.spot⟩)=s at *
  obtain ⟨x,r'⟩:=s
  simp only at *
  obtain ⟨e1,e2,e3,e4,e5⟩:=jEU h0
  simp only at e1 e2 e3 e4 e5
  rw [e5]
  simp only
  obtain ⟨_,hfl⟩:=hfl e1
  obtain ⟨m1,m2,m3⟩:=xQ e4
  have hw:=xP hW (x.node c.toNat)
  have hnn:uN (make q (x.node c.toNat)).2.2:=hN.make (by simp only [Raw.node,yV];omega)
  have hmk:(make q (x.node c.toNat)).1=(q.length:Int)+1∧(make q (x.node c.toNat)).2.2.length=q.length+1:=by
   have hc:=m3;unfold make at e4 ⊢;simp only [e3] at e4 ⊢;rw [if_neg (by rw [hc];simp)] at e4 ⊢;split at e4
   ·simp at e4
   ·rename_i hf;rw [if_neg hf];exact ⟨rfl,by simp⟩
  obtain ⟨M,eM⟩:=uZ q (x.node c.toNat)
  refine ⟨hw,hnn,hmk.2,fun v hv=>?_,?_⟩
  ·rw [eM] at hw ⊢;exact ⟨jBB hv,lN hw _ v rfl hv⟩
  ·rw [hmk.1] at m2
   rw [hcons,hfl]
   unfold yR
   rw [m2]
   have hkk:(x.node c.toNat).kind=c.toNat:=rfl
   rw [hkk,Int.toNat_natCast,hb8,List.cons_append]
   congr 1
   congr 1
   have hne:nodeErr c.toNat q.length x r'.err=0:=e2
   unfold nodeErr at hne
   rw [if_neg (by omega)] at hne
   split at hne
   ·simp at hne
   ·split at hne
    ·simp at hne
    ·rename_i href
     have cg:∀(fs:List Fld) (g1 g2:Fld→List UInt8),(∀f∈fs,g1 f=g2 f)→fs.flatMap g1=fs.flatMap g2:=by
      intro fs g1 g2;induction fs with
      | nil=>intro _;rfl
      | cons f fs ihf=>intro hh;rw [List.flatMap_cons,List.flatMap_cons,hh f (by simp),ihf (fun x hx=>hh x (List.mem_cons_of_mem _ hx))]
     refine cg _ _ _ (fun f hf=>?_)
     cases f
     ·simp [Fld.said,Fld.bytes,Raw.node]
     ·simp [Fld.said,Fld.bytes,Raw.node]
     ·simp [Fld.said,Fld.bytes,Raw.node]
     ·simp [Fld.said,Fld.bytes,Raw.node]
     ·have h2:=hk2.1 hf
      have hx:0<x.kids:=by omega
      have ha:x.a<q.length:=by omega
      simp only [Fld.said,Fld.bytes,Raw.node,if_pos hx]
      rw [jMZ (by omega) (by omega)]
      congr 1;omega
     ·have h2:=hk3.1 hf
      have hx:1<x.kids:=by omega
      have ha:x.b<q.length:=by omega
      simp only [Fld.said,Fld.bytes,Raw.node,if_pos hx]
      rw [jMZ (by omega) (by omega)]
      congr 1;omega
 ·simp at h0
theorem jTB {bs:List UInt8}:∀(fuel:Nat) (q:Pool) (r:Rd) (ps:List Nat) (q':Pool),Wf q→uN q→ps.length=q.length→r.err=0→r.at_≤bs.length→bs.length - r.at_≤fuel→bs.take r.at_=vF q [] (jEZ q.length)→(jIZ bs fuel q r ps).1=some q' →
  Wf q'∧uN q'∧q.length≤q'.length∧bs=vF q' [] (jEZ q'.length)∧q'.length≤inRow 0 (subs q' q'.length):=by
 have hend:∀(q:Pool) (ps:List Nat) (q':Pool),ps.length=q.length→(jBW q ps).1=some q'→q=q'∧q.length≤inRow 0 (subs q q.length):=by
  intro q ps q' hp h;unfold jBW at h;simp only at h;split at h
  ·cases h
  ·cases h;exact ⟨rfl,by omega⟩
 intro fuel
 induction fuel with
 | zero =>
  intro q r ps q' hW hN hp he hat hf ht h
  obtain ⟨rfl,h2⟩:=hend q ps q' hp h
  rw [List.take_of_length_le (by omega)] at ht
  exact ⟨hW,hN,Nat.le_refl _,ht,h2⟩
 | succ fuel ih =>
  intro q r ps q' hW hN hp he hat hf ht h
  by_cases hl:r.at_<bs.length
  ·rw [jIZ,if_pos hl] at h
   by_cases h0:(vU bs q r).2.1=0
   ·rw [if_neg (by simpa using h0)] at h
    obtain ⟨s1,s2,s3,s4,s5⟩:=jOJ hW hN hl he h0
    obtain ⟨a1,a2,a3⟩:=jIW bs q r hl he h0
    have htake:bs.take (vU bs q r).2.2.at_=vF (vU bs q r).1 [] (jEZ (vU bs q r).1.length):=by
     have hold:∀z∈jEZ q.length,inP q z=true:=fun z hz=>zY.2 (jHL.1 hz);have hsame:vF q [] (jEZ q.length)=vF (vU bs q r).1 [] (jEZ q.length) :=
      jBO hW s1 _ _ [] [] hold (fun z hz=>(s4 z (hold z hz)).1) (by simp) (by simp) (List.map_congr_left (fun z hz=>((s4 z (hold z hz)).2).symm)) rfl
     rw [s3,jEZ,jBP,List.nil_append,← hsame,← ht];have hsplit:bs.take (vU bs q r).2.2.at_=bs.take r.at_++(bs.drop r.at_).take ((vU bs q r).2.2.at_ - r.at_):=by
      rw [← List.take_add];congr 1;omega
     rw [hsplit];congr 1;have hlen:=congrArg List.length s5;rw [List.length_drop,List.length_append,List.length_drop] at hlen;rw [s5,List.take_append_of_le_length (by omega),List.take_of_length_le (by omega)]
    obtain ⟨g1,g2,g3,g4,g5⟩:=ih _ _ _ q' s1 s2 (by simp [hp,s3]) a3 a2 (by omega) htake h
    exact ⟨g1,g2,by omega,g4,g5⟩
   ·rw [if_pos h0] at h;cases h
  ·rw [jHJ hl] at h
   obtain ⟨rfl,h2⟩:=hend q ps q' hp h
   rw [List.take_of_length_le (by omega)] at ht
   exact ⟨hW,hN,Nat.le_refl _,ht,h2⟩
theorem jRK:∀(l:List Int) (i m:Nat),i+m≤inRow i l→m≤l.length∧∀j (h:j<l.length),j<m→l[j]=((i+j:Nat):Int)+1:=by
 intro l;induction l with
 | nil=>intro i m h;rw [inRow] at h;exact ⟨by simp;omega,fun j h=>(by simp at h)⟩
 | cons s l ih =>
  intro i m h
  rw [inRow] at h
  split at h
  ·rename_i hs
   cases m with
   | zero=>exact ⟨by simp,fun j _ hj=>(by omega)⟩
   | succ m =>
    obtain ⟨h1,h2⟩:=ih (i+1) m (by omega)
    refine ⟨by rw [List.length_cons];omega,fun j hj hjm=>?_⟩
    cases j with
    | zero=>simp [hs]
    | succ j=>simp only [List.getElem_cons_succ];rw [h2 j (by simpa using hj) (by omega)];congr 2;omega
  ·exact ⟨by simp;omega,fun j _ hj=>by omega⟩
theorem jAI {bs:List UInt8} {q:Pool} (h:(vT bs).1=some q):Wf q∧uN q∧inP q q.length=true∧yY q q.length=bs∧bs.length≤4096:=by
 unfold vT at h;split at h
 ·cases h
 ·split at h
  ·cases h
  ·rename_i h1 h2;obtain ⟨g1,g2,_,g4,g5⟩:=jTB bs.length [] ⟨0,0,0⟩ [] q Wf.nil uN.nil rfl rfl (Nat.zero_le _) (Nat.le_refl _) (by simp [jEZ,vF]) h;have hpos:0<q.length:=by
    rcases Nat.eq_zero_or_pos q.length with e | e
    ·rw [e,jEZ,vF] at g4;rw [g4] at h2;simp at h2
    ·exact e
   have hin:inP q q.length=true:=zY.2 ⟨by omega,by omega⟩;obtain ⟨k1,k2⟩:=jRK (subs q q.length) 0 q.length (by omega);have hfew:=jBQ g1 q.length;have hs:subs q q.length=jEZ q.length:=by
    refine List.ext_getElem (by rw [jEB];omega) (fun j h1 h2=>?_);rw [k2 j h1 (by rw [jEB] at h2;exact h2),jTK];simp
   refine ⟨g1,g2,hin,?_,by omega⟩;unfold yY;rw [hs];exact g4.symm
theorem jLS {Lq:Pool} (hq:uN Lq):∀(l:List Int) (L:Pool) (own:Int→Int),uN L→uN (vN Lq l L own).1:=by
 intro l;induction l with
 | nil=>intro L own h;exact h
 | cons z l ih =>
  intro L own h
  obtain ⟨x,e,L',hm⟩:∃x e L',make L { nodeOf Lq z with a:=own (nodeOf Lq z).a,b:=own (nodeOf Lq z).b }=(x,e,L'):=⟨_,_,_,rfl⟩
  have h2:=h.make (n:={ nodeOf Lq z with a:=own (nodeOf Lq z).a,b:=own (nodeOf Lq z).b }) (hq.node z)
  rw [yH Lq z l L own rfl hm]
  rw [hm] at h2
  split
  ·exact h
  ·exact ih _ _ h2
theorem jPC {L Lq:Pool} (h:uN L) (hq:uN Lq) (t:Int):uN (yA L Lq t).2.2:=by
 unfold yA;split
 ·simp only;split
  ·exact h
  ·exact jLS hq _ _ _ h
 ·exact h
theorem jRS {L:Pool} (h:uN L) (bs:List UInt8):uN (lM L bs).2.2.2:=by
 unfold lM;cases hq:(vT bs).1 with
 | none=>exact h
 | some q=>exact jPC h (jAI hq).2.1 _
theorem jRR {L:Pool} (h:Wf L) (bs:List UInt8):Wf (lM L bs).2.2.2:=by
 unfold lM;cases hq:(vT bs).1 with
 | none=>exact h
 | some q =>
  obtain ⟨g1,_,g3,_⟩:=jAI hq
  by_cases h0:(yA L q q.length).2.1=0
  ·exact (jHV h g1 g3 h0).1
  ·simp only;rw [((jRT h g1 _).resolve_left h0).2];exact h
theorem lT {bs:List UInt8} (h:(vT bs).1=none):(vT bs).2.1≠0:=by
 have hend:∀(q:Pool) (ps:List Nat),(jBW q ps).1=none→(jBW q ps).2.1≠0:=by
  intro q ps h;unfold jBW at h ⊢;simp only at h ⊢;split at h
  ·rename_i hh;rw [dif_pos hh];show (73:Int)≠0;decide
  ·cases h
 have hgo:∀(bs:List UInt8) (fuel:Nat) (q:Pool) (r:Rd) (ps:List Nat),(jIZ bs fuel q r ps).1=none→(jIZ bs fuel q r ps).2.1≠0:=by
  intro bs fuel;induction fuel with
  | zero=>intro q r ps h;exact hend _ _ h
  | succ fuel ih =>
   intro q r ps h
   rw [jIZ] at h ⊢
   split at h
   ·rename_i h1
    rw [if_pos h1]
    split at h
    ·rename_i h2;rw [if_pos h2];exact h2
    ·rename_i h2;rw [if_neg h2];exact ih _ _ _ h
   ·rename_i h1;rw [if_neg h1];exact hend _ _ h
 unfold vT at h ⊢;split at h
 ·rename_i h1;rw [if_pos h1];decide
 ·rename_i h1;rw [if_neg h1];split at h
  ·rename_i h2;rw [if_pos h2];decide
  ·rename_i h2;rw [if_neg h2];exact hgo _ _ _ _ _ h
theorem jQK {bs:List UInt8} {q:Pool} (h:(vT bs).1=some q):(vT bs).2.1=0:=by
 have hend:∀(q:Pool) (ps:List Nat) (x:Pool),(jBW q ps).1=some x→(jBW q ps).2.1=0:=by
  intro q ps x h;unfold jBW at h ⊢;simp only at h ⊢;split at h
  ·cases h
  ·rename_i hh;rw [dif_neg hh]
 have hgo:∀(fuel:Nat) (q:Pool) (r:Rd) (ps:List Nat) (x:Pool),(jIZ bs fuel q r ps).1=some x→(jIZ bs fuel q r ps).2.1=0:=by
  intro fuel;induction fuel with
  | zero=>intro q r ps x h;exact hend _ _ _ h
  | succ fuel ih =>
   intro q r ps x h
   rw [jIZ] at h ⊢
   split at h
   ·rename_i h1
    rw [if_pos h1]
    split at h
    ·cases h
    ·rename_i h2;rw [if_neg h2];exact ih _ _ _ _ h
   ·rename_i h1;rw [if_neg h1];exact hend _ _ _ h
 unfold vT at h ⊢;split at h
 ·cases h
 ·rename_i h1;rw [if_neg h1];split at h
  ·cases h
  ·rename_i h2;rw [if_neg h2];exact hgo _ _ _ _ _ h
theorem jVU {L:Pool} (hW:Wf L) {bs:List UInt8} (h0:(lM L bs).2.1=0):Wf (lM L bs).2.2.2∧inP (lM L bs).2.2.2 (lM L bs).1=true∧yY (lM L bs).2.2.2 (lM L bs).1=bs∧bs.length≤4096:=by
 cases hq:(vT bs).1 with
 | none =>
  unfold lM at h0;rw [hq] at h0
  exact absurd h0 (lT hq)
 | some q =>
  obtain ⟨g1,g2,g3,g4,g5⟩:=jAI hq
  unfold lM at h0 ⊢
  rw [hq] at h0 ⊢
  simp only at h0 ⊢
  obtain ⟨c1,c2,c3⟩:=jHV hW g1 g3 h0
  exact ⟨c1,c2,by rw [jLB c1 g1 c2 g3 c3,g4],g5⟩
end Go.Sp
end
section
open Go Go.SE
namespace Go.Proofs
open Tryz
attribute [local irreducible] Calls CallsD
def Raw.cells (k:Nat) (x:Raw):List Value:=[.int .i64 k,.int .i64 0,.int .i64 0,.int .u64 x.num,.string ⟨x.text.toArray⟩,.int .i64 0,.int .i64 0,.int .u64 x.frm,.int .u64 x.to,.int .u64 x.a,.int .u64 x.b,.int .i64 x.kids]
theorem jPV (bs:List UInt8) (r:Rd) (k:Nat) (x:Raw) (f:Fld):f.upd bs r (x.cells k)=(f.raw bs r x).cells k:=by cases f <;> rfl
theorem jOM (bs:List UInt8):∀(l1 l2:List Fld) (s:Raw×Rd),qA bs (l1++l2) s=qA bs l2 (qA bs l1 s):=by
 intro l1;induction l1 with
 | nil=>intro l2 s;rfl
 | cons f l1 ih=>intro l2 s;obtain ⟨x,r⟩:=s;rw [List.cons_append,qA,qA,ih]
theorem jLJ (bs:List UInt8) (fs:List Fld) (j:Nat) (hj:j<fs.length) (s:Raw×Rd):qA bs (fs.take (j+1)) s=(fs[j].raw bs (qA bs (fs.take j) s).2 (qA bs (fs.take j) s).1,fs[j].rd bs (qA bs (fs.take j) s).2):=by
 rw [List.take_succ_eq_append_getElem hj,jOM];obtain ⟨x,r⟩:=qA bs (fs.take j) s;rfl
theorem jUB (f:Fld):∀args w,(callFunc f.get args).run prog w=.ok (.enter f.get args) w:=by
 cases f
 ·exact call218
 ·exact call221
 ·exact call223
 ·exact call226
 ·exact call229
 ·exact call231
structure StAt (w:World) (q a:Addr) (s:Sl) (bs:List UInt8) (L:Sp.Pool) (r:Rd) (m:Nat) (S FP F:NP):Prop where
 pool:zV w q L FP
 rd:RdS S w a s bs r
 kinds:Kinds w m F
 lS:∀b,S b→b<w.heap.size
 la:a.block<w.heap.size
 dP:∀b,FP b→b≠a.block∧¬ S b∧¬ F b∧b≠m
 dF:∀b,F b→b≠a.block∧¬ S b
 dm:m≠a.block∧¬ S m
theorem StAt.ext {w w':World} {q a:Addr} {s:Sl} {bs:List UInt8} {L:Sp.Pool} {r:Rd} {m:Nat} {S FP F G:NP} (h:StAt w q a s bs L r m S FP F) (E:Ext G w w') (hG:∀b,b<w.heap.size→¬ G b):StAt w' q a s bs L r m S FP F :=
 ⟨h.pool.ext E (fun b hb=>hG b (h.pool.lt hb)),h.rd.ext E (fun b hb=>hG b (h.lS b hb)) (hG _ h.la),h.kinds.ext E (fun b hb=>hG b (hb.elim (h.kinds.lt b) (fun e=>e▸h.kinds.mlt))),fun b hb=>Nat.lt_of_lt_of_le (h.lS b hb) E.size,Nat.lt_of_lt_of_le h.la E.size,h.dP,h.dF,h.dm⟩
theorem StAt.pure {w w':World} {q a:Addr} {s:Sl} {bs:List UInt8} {L:Sp.Pool} {r:Rd} {m:Nat} {S FP F:NP} (h:StAt w q a s bs L r m S FP F) (E:Pure w w'):StAt w' q a s bs L r m S FP F:=h.ext E (fun _ _ h=>h)
theorem jKY {n:Nat} (h:n<9223372036854775808):IntKind.i64.wrap (n:Int)=(n:Int):=IntWalk.i64_in _ (by omega)
theorem jBK (n:Nat):s_M (n:Int)=if 2147483647<n then -1 else (n:Int):=by
 unfold s_M;by_cases h:2147483647<n
 ·rw [if_pos h,show decide ((n:Int)>2147483647)=true by simp;omega];rfl
 ·rw [if_neg h,show decide ((n:Int)>2147483647)=false by simp;omega];exact jKY (by omega)
theorem jNV (k f t:Nat) (u:Int) (x:ByteArray) (a b:Int):s_Q (k:Int) (s_M (f:Int)) (s_M (t:Int)) u x a b=if 16≤f∨16≤t∨((k=8∨k=9)∧f=t) then 50 else 0:=by
 unfold s_Q;rw [jBK,jBK];have key:((((decide ((if 2147483647<f then -1 else (f:Int))<0) || decide ((if 2147483647<f then -1 else (f:Int))≥16)) || decide ((if 2147483647<t then -1 else (t:Int))<0)) || decide ((if 2147483647<t then -1 else (t:Int))≥16)) || ((((k:Int) == 8) || ((k:Int) == 9)) && ((if 2147483647<f then -1 else (f:Int)) == (if 2147483647<t then -1 else (t:Int)))))=decide (16≤f∨16≤t∨((k=8∨k=9)∧f=t)):=by
  rw [Bool.eq_iff_iff];simp only [Bool.or_eq_true,Bool.and_eq_true,decide_eq_true_eq,beq_iff_eq];by_cases h1:2147483647<f
  ·rw [if_pos h1];exact ⟨fun _=>.inl (by omega),fun _=>.inl (.inl (.inl (.inl (by omega))))⟩
  ·by_cases h2:2147483647<t
   ·rw [if_pos h2];exact ⟨fun _=>.inr (.inl (by omega)),fun _=>.inl (.inl (.inr (by omega)))⟩
   ·rw [if_neg h1,if_neg h2];omega
 rw [key];by_cases h:16≤f∨16≤t∨((k=8∨k=9)∧f=t)
 ·rw [decide_eq_true h,if_pos h];rfl
 ·rw [decide_eq_false h,if_neg h];rfl
theorem jHH {w:World} {p:Addr} {n:Sp.Node} {cs:List Value} {T:TypeId} (h:Box w p (uU n++cs) T):Row w p (uU n):=fun i hi=>by
 have:=h.row i (by rw [List.length_append];omega);rw [List.getElem?_append_left hi] at this;exact this
theorem c_sub4 (q a:Addr) (s:Sl) (bs:List UInt8) (r:Rd) (m:Nat) {S FP F:NP} {L:Sp.Pool} (p:Addr) (n:Sp.Node) (cs:List Value) {w:World} (h:StAt w q a s bs L r m S FP F) (hok:Sp.Ok L) (hB:Box w p (uU n++cs) 303) (hp:¬ FP p.block) (K:Int→WP)
  (hK:∀x w',x=(if (Sp.find L n).isSome=true then 72 else (Sp.make L n).2.1)→(∃F',zV w' q (if (Sp.find L n).isSome=true then L else (Sp.make L n).2.2) F'∧RdS S w' a s bs r∧Ext FP w w'∧∀b,F' b→FP b∨w.heap.size≤b)→K x w') :
  m_G_j4 (some q) p None w K:=by
 unfold m_G_j4
 refine ⟨n.kind,n.frm,n.to,n.num,n.text,n.a,n.b,jHH hB,?_⟩
 refine (jWA q n w h.pool hok).mono ?_
 rintro _ w1 ⟨x,ok,rfl,hf,E1⟩
 refine ⟨_,_,rfl,E1.keptP,fun hok1=>?_,fun hok1=>?_⟩
 ·have : (Sp.find L n).isSome = true := by
   cases hn:Sp.find L n with
   | some i=>rfl
   | none=>rw [hn] at hf;simp only at hf;rw [hf.2] at hok1;cases hok1
  rw [if_pos this,if_pos this] at hK
  exact hK _ _ rfl ⟨FP,h.pool.pure E1,h.rd.pure E1,Ext.pure E1,fun b hb=>.inl hb⟩
 ·have : ¬ (Sp.find L n).isSome = true := by
   cases hn:Sp.find L n with
   | some i=>rw [hn] at hf;simp only at hf;rw [hf.2] at hok1;cases hok1
   | none=>simp
  rw [if_neg this,if_neg this] at hK
  refine ⟨n.kind,n.frm,n.to,n.num,n.text,n.a,n.b,jHH (hB.pure E1),?_⟩
  refine (jNN q n.kind n.frm n.to n.num n.text n.a n.b w1 (h.pool.pure E1) hok).mono ?_
  rintro _ w2 ⟨x1,x2,rfl,he,F',hP,E2,hF'⟩
  have he2:=congrArg Prod.snd he
  simp only at he2
  refine ⟨x1,x2,rfl,E2.kept (fun b hb=>hb.elim),hK _ _ he2 ⟨F',hP,(h.rd.pure E1).ext E2 (fun b hb hh=>(h.dP b hh).2.1 hb) (fun hh=>(h.dP _ hh).1 rfl),(Ext.pure E1).trans E2,fun b hb=>(hF' b hb).elim .inl (fun hb=>.inr (by have:=E1.size;omega))⟩⟩
theorem jVJ (k:Nat) (x:Raw):(((x.cells k).set 1 (.int .i64 (s_M x.frm))).set 2 (.int .i64 (s_M x.to)))=uU ⟨k,s_M x.frm,s_M x.to,x.num,⟨x.text.toArray⟩,0,0⟩++[.int .u64 x.frm,.int .u64 x.to,.int .u64 x.a,.int .u64 x.b,.int .i64 x.kids]:=rfl
theorem jTD (n:Sp.Node) (cs:List Value) (v:Int):(uU n++cs).set 5 (.int .i64 v)=uU { n with a:=v }++cs:=rfl
theorem jTC (n:Sp.Node) (cs:List Value) (v:Int):(uU n++cs).set 6 (.int .i64 v)=uU { n with b:=v }++cs:=rfl
theorem c_sub3 (q a:Addr) (s:Sl) (bs:List UInt8) (r:Rd) (m:Nat) {S FP F:NP} {L:Sp.Pool} (p:Addr) (k:Nat) (x:Raw) {w:World} (h:StAt w q a s bs L r m S FP F) (hok:Sp.Ok L)
  (h1:x.frm<16) (h2:x.to<16) (ha:0<x.kids→x.a<L.length) (hb:1<x.kids→x.b<L.length)
  (hB:Box w p (uU ⟨k,s_M x.frm,s_M x.to,x.num,⟨x.text.toArray⟩,0,0⟩++[.int .u64 x.frm,.int .u64 x.to,.int .u64 x.a,.int .u64 x.b,.int .i64 x.kids]) 303) (hpS:p.block≠a.block∧¬ S p.block∧¬ FP p.block∧¬ F p.block∧p.block≠m) (K:Int→WP)
  (hK:∀y w',y=(if (Sp.find L (x.node k)).isSome=true then 72 else (Sp.make L (x.node k)).2.1)→(∃F',zV w' q (if (Sp.find L (x.node k)).isSome=true then L else (Sp.make L (x.node k)).2.2) F'∧RdS S w' a s bs r∧Ext (fun b=>FP b∨b=p.block) w w'∧∀b,F' b→FP b∨w.heap.size≤b)→K y w') :
  m_G_j2 (some q) p false None w K:=by
 have hok2:=hok.few
 have fs:s_M (x.frm:Int)=(x.frm:Int):=by rw [jBK,if_neg (by omega)]
 have ts:s_M (x.to:Int)=(x.to:Int):=by rw [jBK,if_neg (by omega)]
 rw [fs,ts] at hB
 have st5:∀{w w':World} {i:Nat} {v:Value},StAt w q a s bs L r m S FP F→w'=w.setCell (p.add i) v→StAt w' q a s bs L r m S FP F∧Ext (·=p.block) w w':=fun {w w' i v} h e=>by
  have E:Ext (·=p.block) w w':=by rw [e];exact yG
  refine ⟨⟨h.pool.ext E (fun b hb e=>hpS.2.2.1 (e▸hb)),h.rd.ext E (fun b hb e=>hpS.2.1 (e▸hb)) (fun e=>hpS.1 e.symm),h.kinds.ext E (fun b hb e=>hb.elim (fun hb=>hpS.2.2.2.1 (e▸hb)) (fun hb=>hpS.2.2.2.2 (e.symm.trans hb))),fun b hb=>Nat.lt_of_lt_of_le (h.lS b hb) E.size,Nat.lt_of_lt_of_le h.la E.size,h.dP,h.dF,h.dm⟩,E⟩
 have wr:∀n:Nat,n<L.length→IntKind.i64.wrap (IntKind.u64.wrap ((n:Int)+1))=(n:Int)+1:=fun n hn=>by
  rw [show (n:Int)+1=((n+1:Nat):Int) by omega,yP (by omega),jKY (by omega)]
 have fin : ∀ (va vb : Int) (w1 : World), StAt w1 q a s bs L r m S FP F → Box w1 p (uU ⟨k, x.frm, x.to, x.num, ⟨x.text.toArray⟩, va, vb⟩ ++ [.int .u64 x.frm, .int .u64 x.to, .int .u64 x.a, .int .u64 x.b, .int .i64 x.kids]) 303 → Ext (· = p.block) w w1 →
   va=(if 0<x.kids then (x.a:Int)+1 else 0)→vb=(if 1<x.kids then (x.b:Int)+1 else 0)→m_G_j4 (some q) p None w1 K:=by
  intro va vb w1 h1 hB1 E1 hva hvb
  have hn:(⟨k,x.frm,x.to,x.num,⟨x.text.toArray⟩,va,vb⟩:Sp.Node)=x.node k:=by subst hva hvb;rfl
  rw [hn] at hB1
  refine c_sub4 q a s bs r m p (x.node k) _ h1 hok hB1 hpS.2.2.1 K (fun y w' hy ⟨F',g1,g2,g3,g4⟩=>hK y w' hy ⟨F',g1,g2,(E1.mono (fun b _ h=>.inr h)).trans (g3.mono (fun b _ h=>.inl h)),fun b hb=>(g4 b hb).imp id (fun h=>by have:=E1.size;omega)⟩)
 unfold m_G_j2
 refine ⟨fun hc=>(by cases hc),fun _=>⟨x.kids,hB.cell (i:=11) rfl,?_⟩⟩
 have j3 : ∀ (va : Int) (w1 : World), StAt w1 q a s bs L r m S FP F → Box w1 p (uU ⟨k, x.frm, x.to, x.num, ⟨x.text.toArray⟩, va, 0⟩ ++ [.int .u64 x.frm, .int .u64 x.to, .int .u64 x.a, .int .u64 x.b, .int .i64 x.kids]) 303 → Ext (· = p.block) w w1 →
   va=(if 0<x.kids then (x.a:Int)+1 else 0)→m_G_j3 (some q) p None w1 K:=by
  intro va w1 h1 hB1 E1 hva
  unfold m_G_j3
  refine ⟨x.kids,hB1.cell (i:=11) rfl,fun hc=>?_,fun hc=>?_⟩
  ·have hc:1<x.kids:=by have:=of_decide_eq_true hc;omega
   refine ⟨x.b,hB1.cell (i:=10) rfl,hB1.canW (i:=6) (by simp [uU]),id,?_⟩
   rintro w2 e2
   obtain ⟨h2,E2⟩:=st5 h1 e2
   have hB2:=hB1.set 6 (.int .i64 (IntKind.i64.wrap (IntKind.u64.wrap ((x.b:Int)+1))))
   rw [← e2,jTC,wr _ (hb hc)] at hB2
   exact fin va _ w2 h2 hB2 (E1.trans E2) hva (by rw [if_pos hc])
  ·have hc:¬ 1<x.kids:=by have:=of_decide_eq_false hc;omega
   exact fin va 0 w1 h1 hB1 E1 hva (by rw [if_neg hc])
 refine ⟨fun hc=>?_,fun hc=>?_⟩
 ·have hc:0<x.kids:=by have:=of_decide_eq_true hc;omega
  refine ⟨x.a,hB.cell (i:=9) rfl,hB.canW (i:=5) (by simp [uU]),id,?_⟩
  rintro w2 e2
  obtain ⟨h2,E2⟩:=st5 h e2
  have hB2:=hB.set 5 (.int .i64 (IntKind.i64.wrap (IntKind.u64.wrap ((x.a:Int)+1))))
  rw [← e2,jTD,wr _ (ha hc)] at hB2
  exact j3 _ w2 h2 hB2 E2 (by rw [if_pos hc])
 ·have hc:¬ 0<x.kids:=by have:=of_decide_eq_false hc;omega
  exact j3 0 w h hB (Ext.refl _) (by rw [if_neg hc])
theorem jRY (q a:Addr) (s:Sl) (bs:List UInt8) (r:Rd) (m:Nat) {S FP F:NP} {L:Sp.Pool} {w0:World} (h:StAt w0 q a s bs L r m S FP F) (hok:Sp.Ok L) (hlt:r.at_<bs.length) (he:r.err=0) :
  Calls prog 162 #[.pointer (some q),.pointer (some a),.map (some m)] w0 (fun e w'=>∃y:Int,e=.returned (.int .i64 y)∧(y=(vU bs L r).2.1∧∃F',zV w' q (vU bs L r).1 F'∧RdS S w' a s bs (vU bs L r).2.2∧Ext (fun b=>FP b∨b=a.block) w0 w'∧∀b,F' b→FP b∨w0.heap.size≤b)):=by
 refine w_G (some q) (some a) (some m) w0 (fun y w'=>y=(vU bs L r).2.1∧∃F',zV w' q (vU bs L r).1 F'∧RdS S w' a s bs (vU bs L r).2.2∧Ext (fun b=>FP b∨b=a.block) w0 w'∧∀b,F' b→FP b∨w0.heap.size≤b) ?_
 unfold m_G
 refine (c_Byte a s bs r w0 h.rd (Nat.le_of_lt hlt) h.lS).mono ?_
 rintro _ w1 ⟨_,rfl,rfl,hR1,E1⟩
 refine ⟨_,rfl,E1.kept (fun b hb=>hb.elim),?_⟩
 rw [tV bs L r hlt he]
 rw [jMV bs r hlt he] at hR1 ⊢
 simp only at hR1 ⊢
 generalize hk:bs[r.at_].toNat=k at *
 have hk256:k<256:=by rw [← hk];exact bs[r.at_].toNat_lt
 have S1:StAt w1 q a s bs L ⟨r.at_+1,0,r.spot⟩ m S FP F:=⟨h.pool.ext E1 (fun b hb e=>(h.dP b hb).1 e),hR1,h.kinds.ext E1 (fun b hb e=>hb.elim (fun hb=>(h.dF b hb).1 e) (fun hb=>h.dm.1 (hb.symm.trans e))),fun b hb=>Nat.lt_of_lt_of_le (h.lS b hb) E1.size,Nat.lt_of_lt_of_le h.la E1.size,h.dP,h.dF,h.dm⟩
 intro p1 w2 n2
 rw [jKY (by omega)] at n2
 have E2:Pure w1 w2:=Ext.new n2
 have S2:=S1.pure E2
 have B2:Box w2 p1 (tO.cells k) 303:=Box.of_newA n2
 have bp:=n2.at_size
 have z1:=E1.size
 have E02:Ext (·=a.block) w0 w2:=E1.thenPure E2
 refine ⟨k,B2.cell0,?_⟩
 by_cases hkk:jBA k=true
 ·have hk19:1≤k∧k≤9:=by unfold jBA at hkk;simpa using hkk
  obtain ⟨v2,hlook,hLst⟩:=S2.kinds.get (k:Int) (by omega) (by omega) true
  refine ⟨v2,true,hlook,fun hc=>(by cases hc),fun _=>?_⟩
  rw [if_pos hkk]
  generalize hfs:uV (k:Int)=fs at *
  have hf3:fs.length≤3:=by rw [← hfs];exact jNF _
  have hrat:∀j,(qA bs (fs.take j) (tO,⟨r.at_+1,0,r.spot⟩)).2.at_≤bs.length:=fun j=>(jJA bs (fs.take j) tO ⟨r.at_+1,0,r.spot⟩ (by simp only;omega)).2
  refine ⟨fun x1 Hl w=>∃j:Nat,x1=j∧j≤fs.length∧Hl=None∧StAt w q a s bs L (qA bs (fs.take j) (tO,⟨r.at_+1,0,r.spot⟩)).2 m S FP F∧Box w p1 ((qA bs (fs.take j) (tO,⟨r.at_+1,0,r.spot⟩)).1.cells k) 303∧Lst F w 2 v2 (fs.map Fld.row)∧Ext (·=a.block) w0 w,fun x1 _=>((fs.length:Int) - x1).toNat,⟨0,rfl,Nat.zero_le _,rfl,S2,B2,hLst,E02⟩,?_⟩
  rintro _ _ wl _ ⟨j,rfl,hj,rfl,hS,hB,hL,hE⟩
  unfold m_G_l1
  have hlen:v2.len=fs.length:=by rw [hL.len,List.length_map]
  have ple:p1.block<wl.heap.size:=hB.lt
  have zE:=hE.size
  have nS:¬ S p1.block:=fun hh=>by have:=h.lS _ hh;omega
  have nF:¬ F p1.block:=fun hh=>by have:=h.kinds.lt _ hh;omega
  have nP:¬ FP p1.block:=fun hh=>by have:=h.pool.lt hh;omega
  have na:p1.block≠a.block:=fun hh=>by have:=h.la;omega
  have nm:p1.block≠m:=fun hh=>by have:=h.kinds.mlt;omega
  refine ⟨fun hc=>?_,fun hc=>?_⟩
  ·have hc:=uC hlen hc
   obtain ⟨a1,hat,_,hrow⟩:=hL.nth hc
   refine ⟨a1,hat,_,_,hrow,?_⟩
   intro p2 w3 n3
   have E3:Pure wl w3:=Ext.new n3
   refine ⟨⟨rfl,fun i hi=>(Box.of_newA n3).canW (by simpa using hi)⟩,id,?_⟩
   rintro w4 e4
   have X4:Ext (·=p2.block) w3 w4:=by rw [e4];exact Ext.storeRow _ _ _
   have B4:Box w4 p2 [.func (.func fs[j].put) #[] #[],.func (.func fs[j].get) #[] #[]] 263:=by rw [e4];exact (Box.of_newA n3).store rfl
   have hp2:=n3.at_size
   have E34:Pure wl w4:=E3.own (by rw [hp2];exact Nat.le_refl _) X4
   have S4:=hS.pure E34
   refine ⟨_,B4.cell (i:=1) rfl,fs[j].get,#[],#[],rfl,jUB fs[j],?_⟩
   refine (c_get fs[j] a p1 s bs _ _ w4 S4.rd (hrat j) S4.lS (hB.pure E34) rfl (fun e=>na e.symm) (fun b hb e=>nS (e▸hb))).mono ?_
   rintro _ w5 ⟨rfl,hR5,hB5,E5⟩
   rw [jPV] at hB5
   have hsn:=jLJ bs fs j hc (tO,⟨r.at_+1,0,r.spot⟩)
   refine ⟨rfl,E5.kept (fun b hb=>hb.elim),⟨j+1,vV hc (by omega),hc,rfl,?_,?_,?_,?_⟩,by rw [vV hc (by omega)];exact jCE hc⟩
   ·rw [hsn]
    exact ⟨S4.pool.ext E5 (fun b hb e=>e.elim (fun e=>(h.dP b hb).1 e) (fun e=>nP (e▸hb))),hR5,S4.kinds.ext E5 (fun b hb e=>hb.elim (fun hb=>e.elim (fun e=>(h.dF b hb).1 e) (fun e=>nF (e▸hb))) (fun hb=>e.elim (fun e=>h.dm.1 (hb.symm.trans e)) (fun e=>nm (e.symm.trans hb)))),fun b hb=>Nat.lt_of_lt_of_le (S4.lS b hb) E5.size,Nat.lt_of_lt_of_le S4.la E5.size,h.dP,h.dF,h.dm⟩
   ·rw [hsn];exact hB5
   ·exact (hL.pure E34).ext E5 (fun b hb e=>e.elim (fun e=>(h.dF b hb).1 e) (fun e=>nF (e▸hb)))
   ·exact (hE.thenPure E34).trans' E5 (fun i hi e=>e.elim id (fun e=>by omega))
  ·have hc:=xU hlen hj hc
   subst hc
   rw [List.take_length] at hS hB
   have hkd:=(@Sp.jJN bs (k:Int) (by omega) (by omega) ⟨r.at_+1,0,r.spot⟩).1
   rw [hfs] at hkd
   generalize qA bs fs (tO,⟨r.at_+1,0,r.spot⟩)=st at *
   obtain ⟨x,r'⟩:=st
   simp only at hS hB hkd
   have fin : ∀ (y : Int) (w : World) (F' : NP), zV w q (jCM L k (x, r')).1 F' → RdS S w a s bs (jCM L k (x, r')).2.2 → Ext (fun b => FP b ∨ b = a.block) w0 w → (∀ b, F' b → FP b ∨ w0.heap.size ≤ b) → y = (jCM L k (x, r')).2.1 →
     y=(jCM L k (x,r')).2.1∧∃F',zV w q (jCM L k (x,r')).1 F'∧RdS S w a s bs (jCM L k (x,r')).2.2∧Ext (fun b=>FP b∨b=a.block) w0 w∧∀b,F' b→FP b∨w0.heap.size≤b:=fun y w F' a1 a2 a3 a4 a5=>⟨a5,F',a1,a2,a3,a4⟩
   have hEo:Ext (fun b=>FP b∨b=a.block) w0 wl:=hE.mono (fun b _ h=>.inr h)
   have bad:∀(e:Nat) (w:World),nodeErr k L.length x r'.err=e→e≠0→Ext (·=p1.block) wl w→(((e:Nat):Int)=(jCM L k (x,r')).2.1∧∃F',zV w q (jCM L k (x,r')).1 F'∧RdS S w a s bs (jCM L k (x,r')).2.2∧Ext (fun b=>FP b∨b=a.block) w0 w∧∀b,F' b→FP b∨w0.heap.size≤b):=by
    intro e w hne h0 E;have hr:jCM L k (x,r')=(L,(e:Int),r'):=by
     unfold jCM;simp only;rw [if_pos (by rw [hne];exact h0),hne]
    rw [hr];exact ⟨rfl,FP,hS.pool.ext E (fun b hb e=>nP (e▸hb)),hS.rd.ext E (fun b hb e=>nS (e▸hb)) (fun e=>na e.symm),hEo.trans' E (fun i hi e=>by omega),fun b hb=>.inl hb⟩
   refine (c_Why a s bs r' wl hS.rd).mono ?_
   rintro _ w6 ⟨_,_,rfl,rfl,rfl,E6⟩
   have S6:=hS.pure E6
   have B6:=hB.pure E6
   refine ⟨_,_,rfl,E6.keptP,fun hc=>?_,fun hc=>?_⟩
   ·have hc:r'.err≠0:=by have:=bne_iff_ne.1 hc;omega
    exact bad r'.err w6 (by unfold nodeErr;rw [if_pos hc]) hc (Ext.pure E6)
   ·have hc : r'.err = 0 := by
     have:((r'.err:Int) != 0)=false:=hc;simpa using this
    refine ⟨fun w'=>w'.cell? (p1.add 8)=some (.int .u64 x.to),(B6.pure (Ext.drew w6)).cell (i:=8) rfl,?_⟩
    rintro w7 e7
    have E7:Pure w6 w7:=by rw [e7];exact Ext.drew w6
    have B7:=B6.pure E7
    refine ⟨x.frm,B7.cell (i:=7) rfl,x.to,fun w' hw'=>hw',?_⟩
    refine (p_M (x.frm:Int) w7).mono ?_
    rintro _ w8 ⟨rfl,E8⟩
    have B8:=B7.pure E8
    refine ⟨_,rfl,B8.cell (i:=8) rfl,E8.keptP,?_⟩
    refine (p_M (x.to:Int) w8).mono ?_
    rintro _ w9 ⟨rfl,E9⟩
    have B9:=B8.pure E9
    refine ⟨_,rfl,B9.cell (i:=8) rfl,E9.keptP,B9.canW (i:=1) (by simp [Raw.cells]),id,?_⟩
    rintro w10 e10
    have X10:Ext (·=p1.block) w9 w10:=by rw [e10];exact yG
    have B10:=B9.set 1 (.int .i64 (s_M x.frm))
    rw [← e10] at B10
    refine ⟨B10.cell (i:=8) rfl,B10.canW (i:=2) (by simp [Raw.cells]),id,?_⟩
    rintro w11 e11
    have X11:Ext (·=p1.block) w10 w11:=by rw [e11];exact yG
    have B11:=B10.set 2 (.int .i64 (s_M x.to))
    rw [← e11,jVJ] at B11
    have E11:Ext (·=p1.block) wl w11:=((Ext.pure (((E6.trans E7).trans E8).trans E9)).trans X10).trans X11
    have S11:StAt w11 q a s bs L r' m S FP F:=⟨hS.pool.ext E11 (fun b hb e=>nP (e▸hb)),hS.rd.ext E11 (fun b hb e=>nS (e▸hb)) (fun e=>na e.symm),hS.kinds.ext E11 (fun b hb e=>hb.elim (fun hb=>nF (e▸hb)) (fun hb=>nm (e.symm.trans hb))),fun b hb=>Nat.lt_of_lt_of_le (hS.lS b hb) E11.size,Nat.lt_of_lt_of_le hS.la E11.size,h.dP,h.dF,h.dm⟩
    refine ⟨k,s_M x.frm,s_M x.to,x.num,⟨x.text.toArray⟩,0,0,jHH B11,?_⟩
    rw [jNV]
    by_cases hnm:16≤x.frm∨16≤x.to∨((k=8∨k=9)∧x.frm=x.to)
    ·rw [if_pos hnm]
     refine ⟨fun _ w12 hs12=>?_,fun hc=>(by cases hc)⟩
     exact bad 50 w12 (by unfold nodeErr;rw [if_neg (by omega),if_pos hnm]) (by decide) (E11.thenPure hs12.ext)
    ·rw [if_neg hnm]
     refine ⟨fun hc=>(by cases hc),fun _ w12 hs12=>?_⟩
     have E12:Pure w11 w12:=hs12.ext
     have S12:=S11.pure E12
     refine (jCX q w12 S12.pool).mono ?_
     rintro _ w13 ⟨_,rfl,rfl,rfl⟩
     have B12:=B11.pure E12
     have hLs:=hok.few
     refine ⟨_,rfl,Kept.refl _,x.kids,B12.cell (i:=11) rfl,?_⟩
     rw [yP (by omega)]
     have bad71:((0<x.kids∧L.length≤x.a)∨(1<x.kids∧L.length≤x.b))→((71:Int)=(jCM L k (x,r')).2.1∧∃F',zV w13 q (jCM L k (x,r')).1 F'∧RdS S w13 a s bs (jCM L k (x,r')).2.2∧Ext (fun b=>FP b∨b=a.block) w0 w13∧∀b,F' b→FP b∨w0.heap.size≤b):=fun hh =>
      bad 71 w13 (by unfold nodeErr;rw [if_neg (by omega),if_neg hnm,if_pos hh]) (by decide) (E11.thenPure E12)
     have good:¬ ((0<x.kids∧L.length≤x.a)∨(1<x.kids∧L.length≤x.b))→m_G_j2 (some q) p1 false None w13 (fun y w'=>y=(jCM L k (x,r')).2.1∧∃F',zV w' q (jCM L k (x,r')).1 F'∧RdS S w' a s bs (jCM L k (x,r')).2.2∧Ext (fun b=>FP b∨b=a.block) w0 w'∧∀b,F' b→FP b∨w0.heap.size≤b):=fun hh=>by
      have hr:jCM L k (x,r')=(if (Sp.find L (x.node k)).isSome=true then L else (Sp.make L (x.node k)).2.2,if (Sp.find L (x.node k)).isSome=true then 72 else (Sp.make L (x.node k)).2.1,r'):=by
       have hne:nodeErr k L.length x r'.err=0:=by unfold nodeErr;rw [if_neg (by omega),if_neg hnm,if_neg hh]
       unfold jCM;simp only;rw [if_neg (by rw [hne];simp)];split <;> rfl
      rw [hr];refine c_sub3 q a s bs r' m p1 k x S12 hok (by omega) (by omega) (by omega) (by omega) B12 ⟨na,nS,nP,nF,nm⟩ _ ?_;rintro y w' hy ⟨F',g1,g2,g3,g4⟩;exact ⟨hy,F',g1,g2,(hEo.trans' (E11.thenPure E12) (fun i hi e=>by omega)).trans' g3 (fun i hi e=>e.elim .inl (fun e=>by omega)),fun b hb=>(g4 b hb).imp id (fun hh=>by have:=E11.size;have:=E12.size;omega)⟩
     have j5:∀x3:Bool,x3=decide (0<x.kids∧L.length≤x.a)→m_G_j5 (some q) p1 (L.length:Int) x3 None w13 (fun y w'=>y=(jCM L k (x,r')).2.1∧∃F',zV w' q (jCM L k (x,r')).1 F'∧RdS S w' a s bs (jCM L k (x,r')).2.2∧Ext (fun b=>FP b∨b=a.block) w0 w'∧∀b,F' b→FP b∨w0.heap.size≤b):=by
      intro x3 h3;unfold m_G_j5;refine ⟨fun hc=>?_,fun hc=>?_⟩
      ·rw [hc] at h3;have h3:=of_decide_eq_true h3.symm;unfold m_G_j2;exact ⟨fun _=>bad71 (.inl h3),fun hc=>(by cases hc)⟩
      ·rw [hc] at h3;have h3:=of_decide_eq_false h3.symm;refine ⟨x.kids,B12.cell (i:=11) rfl,fun hc=>?_,fun hc=>?_⟩
       ·have hc:=of_decide_eq_true hc;refine ⟨x.b,B12.cell (i:=10) rfl,?_⟩;rw [yP (by omega)];by_cases hb:L.length≤x.b
        ·rw [decide_eq_true (show (x.b:Int)≥(L.length:Int) by omega)];unfold m_G_j2;exact ⟨fun _=>bad71 (.inr ⟨by omega,hb⟩),fun hc=>(by cases hc)⟩
        ·rw [decide_eq_false (show ¬ (x.b:Int)≥(L.length:Int) by omega)];exact good (by omega)
       ·have hc:=of_decide_eq_false hc;exact good (by omega)
     refine ⟨fun hc=>?_,fun hc=>?_⟩
     ·have hc:=of_decide_eq_true hc
      refine ⟨x.a,B12.cell (i:=9) rfl,j5 _ ?_⟩
      rw [decide_eq_decide];omega
     ·have hc:=of_decide_eq_false hc
      refine j5 _ ?_
      rw [decide_eq_false];omega
 ·have hnk:¬ (1≤(k:Int)∧(k:Int)≤9):=fun hh=>hkk (by unfold jBA;simp;omega)
  refine ⟨_,false,S2.kinds.none (k:Int) hnk,fun _=>?_,fun hc=>(by cases hc)⟩
  rw [if_neg hkk]
  exact ⟨rfl,FP,S2.pool,S2.rd,E02.mono (fun b _ h=>.inr h),fun b hb=>.inl hb⟩
end Go.Proofs
end
section
open Go Go.SE
open Go.IntKind renaming i64 → q6
namespace Go.Proofs
open Tryz
set_option maxRecDepth 100000
set_option maxHeartbeats 4000000
attribute [local irreducible] wpL wpX opE wpE Calls
def m_H4 (p1:Option Addr) (aA:Option Addr) (t1:Int) (w0:World) (K:Int→Int→WP):Prop :=∀(p2:Addr) (w1:World),New w0 (.cells #[(vp p1)] 91) p2 w1→∀(p3:Addr) (w2:World),New w1 (.cells #[(vp aA)] 91) p3 w2→∀(p4:Addr) (w3:World),New w2 (.cells #[(vi 0)] 78) p4 w3→∀(p5:Addr) (w4:World),New w3 (.cells #[(vi 0)] 33) p5 w4→∃v1:Option Addr,w4.cell? p2=some (vp v1)∧Br (Option.isNone v1) (CanW w4 p4∧¬ None p4.block∧∀w5:World,w5=w4.setCell p4 (vi 0)→CanW w5 p5∧¬ None p5.block∧∀w6:World,w6=w5.setCell p5 (vi 0)→∃aB:Int,w6.cell? p4=some (vi aB)∧∃aC:Int,w6.cell? p5=some (vi aC)∧K aB aC w6) (∃v2:Option Addr,w4.cell? p3=some (vp v2)∧Calls prog 138 #[(vp v2),(vi t1)] w4 (fun e w7=>∃r1:Bool,e=.returned (vb r1)∧Kept None w4 w7∧Br (!r1) (CanW w7 p4∧¬ None p4.block∧∀w8:World,w8=w7.setCell p4 (vi 0)→CanW w8 p5∧¬ None p5.block∧∀w9:World,w9=w8.setCell p5 (vi 51)→∃aD:Int,w9.cell? p4=some (vi aD)∧∃aE:Int,w9.cell? p5=some (vi aE)∧K aD aE w9) (∃v3:Option Addr,w7.cell? p2=some (vp v3)∧∃a1:Addr,v3=some a1∧∃v4:Sl,w7.cell? a1=some v4.v∧∀(p6:Addr) (w10:World),New w7 (.cells #[(vi 0)] 3) p6 w10→CanW w10 p6∧¬ None p6.block∧∀w11:World,w11=w10.setCell p6 (vi (v4.len:Int))→∀(p7:Addr) (w12:World),New w11 (.map #[] 0) p7 w12→∀(p8:Addr) (w13:World),New w12 (.cells #[(.map none)] 207) p8 w13→CanW w13 p8∧¬ None p8.block∧∀w14:World,w14=w13.setCell p8 (.map (some p7.block))→∃v5:Option Addr,w14.cell? p3=some (vp v5)∧Calls prog 139 #[(vp v5),(vi t1)] w14 (fun e w15=>∃r2:Value,e=.returned r2∧Kept None w14 w15∧∃(f1:FuncId) (cs1:Array Value),r2=.func (.func f1) #[] cs1∧(∀args w,(callFunc f1 args).run prog w=.ok (.enter f1 args) w)∧∃(xs1:List (Int)) (Rd1:WP),jUJ prog f1 cs1 (fun (z2:Int)=>#[(vi z2)]) xs1 Rd1 w15∧∃(I1 Ir1:List (Int)→NP→WP),RngI w0 Rd1 I1 (fun _ _ _=>False) Ir1∧I1 [] None w15∧(∀(pre1:List (Int)) (z2:Int) (Y1:NP) (A1:World),I1 pre1 Y1 A1→Hst w0 Y1 A1 Y1 A1→(∃post,xs1=pre1++z2 :: post)→∃v6:Option Addr,A1.cell? p3=some (vp v6)∧Calls prog 104 #[(vp v6),(vi z2)] A1 (fun e w17=>∃aF aG:Int,∃aH aI:Int,∃aJ:ByteArray,∃aK aL:Int,∃r3:Bool,e=.returned (.tuple #[(.agg #[(vi aF),(vi aG),(vi aH),(vu aI),(vs aJ),(vi aK),(vi aL)]),(vb r3)])∧Kept None A1 w17∧∀(p9:Addr) (w18:World),New w17 (.cells #[(vi 0),(vi 0),(vi 0),(vu 0),ve,(vi 0),(vi 0)] 127) p9 w18→(∀j,j<7→CanW w18 (p9.add j))∧¬ None p9.block∧∀w19:World,w19=storeRow w18 p9 [(vi aF),(vi aG),(vi aH),(vu aI),(vs aJ),(vi aK),(vi aL)]→∃C1:WP,C1 w19.drew∧∀w20,w20=w19.drew→∃v7:Option Nat,w20.cell? p8=some (.map v7)∧∃v8:Int,w20.cell? (p9.add 5)=some (vi v8)∧∃v9:Int,(Instr.lookup 207 (.map v7) (vi v8) false).run prog w20=.ok (vi v9) w20∧∃v10:Option Nat,(∀w',C1 w'→w'.cell? p8=some (.map v10))∧∃v11:Int,w20.cell? (p9.add 6)=some (vi v11)∧∃v12:Int,(∀w',C1 w'→(Instr.lookup 207 (.map v10) (vi v11) false).run prog w'=.ok (vi v12) w')∧CanW w20 (p9.add 5)∧¬ None (p9.add 5).block∧∀w21:World,w21=w20.setCell (p9.add 5) (vi v9)→C1 w21∧CanW w21 (p9.add 6)∧¬ None (p9.add 6).block∧∀w22:World,w22=w21.setCell (p9.add 6) (vi v12)→∃v13:Option Addr,w22.cell? p2=some (vp v13)∧∃aQ aR:Int,∃aS aT:Int,∃aU:ByteArray,∃aV aW:Int,Row w22 p9 [(vi aQ),(vi aR),(vi aS),(vu aT),(vs aU),(vi aV),(vi aW)]∧Calls prog 109 #[(vp v13),(.agg #[(vi aQ),(vi aR),(vi aS),(vu aT),(vs aU),(vi aV),(vi aW)])] w22 (fun e w23=>∃r4 r5:Int,e=.returned (.tuple #[(vi r4),(vi r5)])∧Kept None w22 w23∧Br (r5 != 0) (∃v14:Option Addr,w23.cell? p2=some (vp v14)∧∃v15:Int,w23.cell? p6=some (vi v15)∧Calls prog 136 #[(vp v14),(vi v15)] w23 (fun e w24=>e=.returned (.tuple #[])∧Kept None w23 w24∧CanW w24 p4∧¬ None p4.block∧∀w25:World,w25=w24.setCell p4 (vi 0)→CanW w25 p5∧¬ None p5.block∧∀w26:World,w26=w25.setCell p5 (vi r5)→Kept Y1 A1 w26∧Ir1 (pre1++[z2]) Y1 w26)) (∃v16:Option Nat,w23.cell? p8=some (.map v16)∧∃w27:World,(Instr.mapUpdate 207 (.map v16) (vi z2) (vi r4)).run prog w23=.ok () w27∧Kept None w23 w27∧Kept Y1 A1 w27∧I1 (pre1++[z2]) Y1 w27))))∧(∀(H1:NP) (w28:World),Hst w0 H1 w28 H1 w28→(∀b,None b→H1 b)→Kept None w15 w28→I1 xs1 H1 w28→∃v17:Option Nat,w28.cell? p8=some (.map v17)∧∃v18:Int,(Instr.lookup 207 (.map v17) (vi t1) false).run prog w28=.ok (vi v18) w28∧CanW w28 p4∧¬ H1 p4.block∧∀w29:World,w29=w28.setCell p4 (vi v18)→CanW w29 p5∧¬ H1 p5.block∧∀w30:World,w30=w29.setCell p5 (vi 0)→∀(w31:World),Hst w0 H1 w30 H1 w31→∃aM:Int,w31.cell? p4=some (vi aM)∧∃aN:Int,w31.cell? p5=some (vi aN)∧K aM aN w31)∧(∀(pre2:List (Int)) (H2:NP) (w33:World),Hst w0 H2 w33 H2 w33→Ir1 pre2 H2 w33→∃aO:Int,w33.cell? p4=some (vi aO)∧∃aP:Int,w33.cell? p5=some (vi aP)∧K aO aP w33)))))
theorem w_H4 (p1:Option Addr) (aA:Option Addr) (t1:Int) (w0:World) (K:Int→Int→WP) (h:m_H4 p1 aA t1 w0 K) :
  Calls prog 75 #[(vp p1),(vp aA),(vi t1)] w0 (fun e w'=>∃r6 r7:Int,e=.returned (.tuple #[(vi r6),(vi r7)])∧K r6 r7 w'):=by
 unfold m_H4 at h
 refine cw (args:=[(vp p1),(vp aA),(vi t1)]) func75 ntmps75 ?_
 have hs:=Hst.start w0
 have hb:=HB.nil None w0
 refine eg (sn (O:=(.cells #[(vp p1)] 91)) xb ?_)
 intro p2 w1 hn21
 have h:=h p2 w1 hn21
 have hs:=hs.again (Ext.new (F:=None) hn21).keptP
 have hb:=hb.kept (Ext.new (F:=None) hn21).keptP
 refine sn (O:=(.cells #[(vp aA)] 91)) xb ?_
 intro p3 w2 hn20
 have h:=h p3 w2 hn20
 have hs:=hs.again (Ext.new (F:=None) hn20).keptP
 have hb:=hb.kept (Ext.new (F:=None) hn20).keptP
 refine sn (O:=(.cells #[(vi 0)] 78)) (zO (zeroValue78 _) rfl) ?_
 intro p4 w3 hn19
 have h:=h p4 w3 hn19
 have hs:=hs.again (Ext.new (F:=None) hn19).keptP
 have hb:=hb.kept (Ext.new (F:=None) hn19).keptP
 refine sn (O:=(.cells #[(vi 0)] 33)) (zO (zeroValue33 _) rfl) ?_
 intro p5 w4 hn18
 have h:=h p5 w4 hn18
 have hs:=hs.again (Ext.new (F:=None) hn18).keptP
 have hb:=hb.kept (Ext.new (F:=None) hn18).keptP
 refine ln (zA (eg ?_))
 obtain ⟨v1,hv29,h⟩:=h
 refine q2 (vp v1) (xl (isAgg91 _) hv29) (q2 (vb (Option.isNone v1)) (qL (by kernel_rfl) rfl underlying91) (ln ?_))
 refine zB (t:=(Option.isNone v1)) (by kernel_rfl) (fun hc1=>?_) (fun hc1=>?_)
 have h:=h.1 hc1
 refine eg ?_
 obtain ⟨hp1,hnh,h⟩:=h
 refine ss (zT (a:=p4) (v:=(vi 0)) (by kernel_rfl) (by kernel_rfl) rfl (sizeOf78 _) hp1) ?_
 intro w5 hn1
 have h:=h w5 hn1
 have hk:=Kept.sc hnh hn1
 obtain ⟨hs,hb⟩:=hk.hh hs hb
 obtain ⟨hp2,hnh,h⟩:=h
 refine ss (zT (a:=p5) (v:=(vi 0)) (by kernel_rfl) (by kernel_rfl) rfl (sizeOf33 _) hp2) ?_
 intro w6 hn2
 have h:=h w6 hn2
 have hk:=Kept.sc hnh hn2
 obtain ⟨hs,hb⟩:=hk.hh hs hb
 refine ln (er (vL ?_))
 obtain ⟨aB,hv1,h⟩:=h
 obtain ⟨aC,hv2,h⟩:=h
 refine uW (.inl rfl) (vs:=[(vi aB),(vi aC)]) (v:=(.tuple #[(vi aB),(vi aC)])) results75 ⟨(RV.cell1 (A:=p4) (by kernel_rfl) (isAgg78 _) hv1),(RV.cell1 (A:=p5) (by kernel_rfl) (isAgg33 _) hv2),trivial⟩ (by kernel_rfl) ?_
 exact ⟨aB,aC,rfl,h⟩
 have h:=h.2 hc1
 refine zC (zN (zA (eg ?_)))
 obtain ⟨v2,hv28,h⟩:=h
 refine q2 (vp v2) (xl (isAgg91 _) hv28) (q0 (vi t1) ?_)
 refine sc call138 (h.mono ?_)
 rintro e w7 ⟨r1,rfl,hk,h⟩
 refine ⟨_,rfl,?_⟩
 obtain ⟨hs,hb⟩:=hk.hh hs hb
 refine q0 (vb (!r1)) (ln ?_)
 refine zB (t:=(!r1)) (by kernel_rfl) (fun hc2=>?_) (fun hc2=>?_)
 have h:=h.1 hc2
 refine eg ?_
 obtain ⟨hp3,hnh,h⟩:=h
 refine ss (zT (a:=p4) (v:=(vi 0)) (by kernel_rfl) (by kernel_rfl) rfl (sizeOf78 _) hp3) ?_
 intro w8 hn3
 have h:=h w8 hn3
 have hk:=Kept.sc hnh hn3
 obtain ⟨hs,hb⟩:=hk.hh hs hb
 obtain ⟨hp4,hnh,h⟩:=h
 refine ss (zT (a:=p5) (v:=(vi 51)) (by kernel_rfl) (by kernel_rfl) rfl (sizeOf33 _) hp4) ?_
 intro w9 hn4
 have h:=h w9 hn4
 have hk:=Kept.sc hnh hn4
 obtain ⟨hs,hb⟩:=hk.hh hs hb
 refine ln (er (vL ?_))
 obtain ⟨aD,hv3,h⟩:=h
 obtain ⟨aE,hv4,h⟩:=h
 refine uW (.inl rfl) (vs:=[(vi aD),(vi aE)]) (v:=(.tuple #[(vi aD),(vi aE)])) results75 ⟨(RV.cell1 (A:=p4) (by kernel_rfl) (isAgg78 _) hv3),(RV.cell1 (A:=p5) (by kernel_rfl) (isAgg33 _) hv4),trivial⟩ (by kernel_rfl) ?_
 exact ⟨aD,aE,rfl,h⟩
 have h:=h.2 hc2
 refine zC (zN (eg ?_))
 obtain ⟨v3,hv27,h⟩:=h
 refine q2 (vp v3) (xl (isAgg91 _) hv27) ?_
 obtain ⟨a1,hp5,h⟩:=h
 refine q2 (vp (some a1)) (xn hp5) (q0 (vp (some a1)) ?_)
 obtain ⟨v4,hv26,h⟩:=h
 refine q2 v4.v (xl (isAgg160 _) hv26) (q0 (vi (v4.len:Int)) (sn (O:=(.cells #[(vi 0)] 3)) (zO (zeroValue3 _) rfl) ?_))
 intro p6 w10 hn17
 have h:=h p6 w10 hn17
 have hs:=hs.again (Ext.new (F:=None) hn17).keptP
 have hb:=hb.kept (Ext.new (F:=None) hn17).keptP
 obtain ⟨hp6,hnh,h⟩:=h
 refine ss (zT (a:=p6) (v:=(vi (v4.len:Int))) (by kernel_rfl) (by kernel_rfl) rfl (sizeOf3 _) hp6) ?_
 intro w11 hn5
 have h:=h w11 hn5
 have hk:=Kept.sc hnh hn5
 obtain ⟨hs,hb⟩:=hk.hh hs hb
 refine ln (eg (vR (O:=(.map #[] 0)) (fun p=>.map (some p.block)) (zJ rfl) (by kernel_rfl) ?_))
 intro p7 w12 hn16
 have h:=h p7 w12 hn16
 have hs:=hs.again (Ext.new (F:=None) hn16).keptP
 have hb:=hb.kept (Ext.new (F:=None) hn16).keptP
 refine sn (O:=(.cells #[(.map none)] 207)) (zO (zeroValue207 _) rfl) ?_
 intro p8 w13 hn15
 have h:=h p8 w13 hn15
 have hs:=hs.again (Ext.new (F:=None) hn15).keptP
 have hb:=hb.kept (Ext.new (F:=None) hn15).keptP
 obtain ⟨hp7,hnh,h⟩:=h
 refine ss (zT (a:=p8) (v:=(.map (some p7.block))) (by kernel_rfl) (by kernel_rfl) rfl (sizeOf207 _) hp7) ?_
 intro w14 hn6
 have h:=h w14 hn6
 have hk:=Kept.sc hnh hn6
 obtain ⟨hs,hb⟩:=hk.hh hs hb
 refine ln (jMK (rg ?_))
 obtain ⟨v5,hv25,h⟩:=h
 refine q2 (vp v5) (xl (isAgg91 _) hv25) (q0 (vi t1) ?_)
 refine sc call139 (h.mono ?_)
 rintro e w15 ⟨r2,rfl,hk,h⟩
 refine ⟨_,rfl,?_⟩
 obtain ⟨hs,hb⟩:=hk.hh hs hb
 refine ln ?_
 obtain ⟨f1,cs1,hv5,hf1,h⟩:=h
 obtain ⟨xs1,Rd1,hit,I1,Ir1,hRI,h0,hbody,h⟩:=h
 refine jIK (encs:=(fun (z2:Int)=>#[(vi z2)])) (Eq.trans (b:=r2) (by kernel_rfl) hv5) hf1 hit (fun _=>rfl) (by decide) hs I1 (fun _ _ _=>False) Ir1 hRI h0 ?ha ?hr ?ht
 case ha =>
  intro l z2 w34
  refine rg (q0 (vi z2) (ln ?_))
  refine ⟨rfl,?_⟩
  intro pre1 Y1 A1 hi hY hpost
  have h:=hbody pre1 z2 Y1 A1 hi hY hpost
  have hs:=Hst.start A1
  have hb:=HB.nil None A1
  refine zQ (eg ?_)
  obtain ⟨v6,hv18,h⟩:=h
  refine q2 (vp v6) (xl (isAgg91 _) hv18) (q0 (vi z2) ?_)
  refine sc call104 (h.mono ?_)
  rintro e w17 ⟨aF,aG,aH,aI,aJ,aK,aL,r3,rfl,hk,h⟩
  refine ⟨_,rfl,?_⟩
  obtain ⟨hs,hb⟩:=hk.hh hs hb
  refine q0 (.tuple #[(.agg #[(vi aF),(vi aG),(vi aH),(vu aI),(vs aJ),(vi aK),(vi aL)]),(vb r3)]) (q0 (.agg #[(vi aF),(vi aG),(vi aH),(vu aI),(vs aJ),(vi aK),(vi aL)]) (q0 (vb r3) (sn (O:=(.cells #[(vi 0),(vi 0),(vi 0),(vu 0),ve,(vi 0),(vi 0)] 127)) (zO (zeroValue127 _) rfl) ?_)))
  intro p9 w18 hn12
  have h:=h p9 w18 hn12
  have hs:=hs.again (Ext.new (F:=None) hn12).keptP
  have hb:=hb.kept (Ext.new (F:=None) hn12).keptP
  obtain ⟨hp8,hnh,h⟩:=h
  refine ss (xo p9 [(vi aF),(vi aG),(vi aH),(vu aI),(vs aJ),(vi aK),(vi aL)] (sizeOf127 _) hp8) ?_
  intro w19 hn7
  have h:=h w19 hn7
  have hk:Kept None w18 w19:=by rw [hn7];exact Kept.storeRow hnh
  obtain ⟨hs,hb⟩:=hk.hh hs hb
  refine q0 (vb r3) (ln (zA ?_))
  obtain ⟨C1,hC,h⟩:=h
  refine vB C1 [9,11] [11] (by kernel_rfl) (by kernel_rfl) (by kernel_rfl) (by kernel_rfl) hC ?_
  intro w20 hw20
  have h:=h w20 hw20
  have hs:Hst A1 None w19 None w20:=by rw [hw20];exact hs.drew
  have hb:HB None w20 []:=by rw [hw20];exact hb.drew
  have hs:=hs.here
  refine qg 0 ?_
  obtain ⟨v7,hv17,h⟩:=h
  refine sye Kp0 (xl (isAgg207 _) hv17) (qx 1 (vp (some (p9.add 5))) Kp1 (qg 2 ?_))
  obtain ⟨v8,hv16,h⟩:=h
  refine sye Kp2 (xl (isAgg78 _) hv16) (qg 3 ?_)
  obtain ⟨v9,hv15,h⟩:=h
  refine sye (v:=(vi v9)) Kp3 (qT (by kernel_rfl) (by kernel_rfl) hv15) (qg 4 ?_)
  obtain ⟨v10,hv14,h⟩:=h
  refine sy (v:=(.map v10)) Kp4 (fun w' hw'=>(xl (isAgg207 _) (hv14 w' hw'))) (qx 5 (vp (some (p9.add 6))) Kp5 (qg 6 ?_))
  obtain ⟨v11,hv13,h⟩:=h
  refine sye Kp6 (xl (isAgg78 _) hv13) (qg 7 ?_)
  obtain ⟨v12,hv12,h⟩:=h
  refine sy (v:=(vi v12)) Kp7 (fun w' hw'=>(qT (by kernel_rfl) (by kernel_rfl) (hv12 w' hw'))) (qx 8 (vp (some (p9.add 5))) Kp8 (lg 9 ?_))
  obtain ⟨hp9,hnh,h⟩:=h
  refine jSS Kp9 (xs (v:=(vi v9)) (sizeOf78 _) hp9) ?_
  intro w21 hn8
  have h:=h w21 hn8
  refine ⟨.inr h.1,?_⟩
  have h:=h.2
  have hk:=Kept.sc hnh hn8
  obtain ⟨hs,hb⟩:=hk.hh hs hb
  refine qx 10 (vp (some (p9.add 6))) (zS (S8 (zG (zG zR)))) (lg 11 ?_)
  obtain ⟨hp10,hnh,h⟩:=h
  refine jSS (zS (S8 (zG (zG (zG zR))))) (xs (v:=(vi v12)) (sizeOf78 _) hp10) ?_
  intro w22 hn9
  have h:=h w22 hn9
  refine ⟨.inl (by kernel_rfl),?_⟩
  have hk:=Kept.sc hnh hn9
  obtain ⟨hs,hb⟩:=hk.hh hs hb
  refine wn (zN (eg ?_))
  obtain ⟨v13,hv11,h⟩:=h
  refine q2 (vp v13) (xl (isAgg91 _) hv11) ?_
  obtain ⟨aQ,aR,aS,aT,aU,aV,aW,hv10,h⟩:=h
  refine q2 (.agg #[(vi aQ),(vi aR),(vi aS),(vu aT),(vs aU),(vi aV),(vi aW)]) (xa p9 [(vi aQ),(vi aR),(vi aS),(vu aT),(vs aU),(vi aV),(vi aW)] (isAgg127 _) (sizeOf127 _) hv10) ?_
  refine sc call109 (h.mono ?_)
  rintro e w23 ⟨r4,r5,rfl,hk,h⟩
  refine ⟨_,rfl,?_⟩
  obtain ⟨hs,hb⟩:=hk.hh hs hb
  refine q0 (.tuple #[(vi r4),(vi r5)]) (q0 (vi r4) (q0 (vi r5) (q0 (vi r4) (q0 (vi r5) (ln (zA (eg (q0 (vi r5) (q0 (vb (r5 != 0)) ?_)))))))))
  refine ln ?_
  refine zB (t:=(r5 != 0)) (by kernel_rfl) (fun hc3=>?_) (fun hc3=>?_)
  have h:=h.1 hc3
  refine eg ?_
  obtain ⟨v14,hv7,h⟩:=h
  refine q2 (vp v14) (xl (isAgg91 _) hv7) ?_
  obtain ⟨v15,hv6,h⟩:=h
  refine q2 (vi v15) (xl (isAgg3 _) hv6) ?_
  refine sc call136 (h.mono ?_)
  rintro e w24 ⟨rfl,hk,h⟩
  refine ⟨_,rfl,?_⟩
  obtain ⟨hs,hb⟩:=hk.hh hs hb
  refine ln (eg (q0 (vi r5) ?_))
  obtain ⟨hp11,hnh,h⟩:=h
  refine ss (zT (a:=p4) (v:=(vi 0)) (by kernel_rfl) (by kernel_rfl) rfl (sizeOf78 _) hp11) ?_
  intro w25 hn10
  have h:=h w25 hn10
  have hk:=Kept.sc hnh hn10
  obtain ⟨hs,hb⟩:=hk.hh hs hb
  obtain ⟨hp12,hnh,h⟩:=h
  refine ss (zT (a:=p5) (v:=(vi r5)) (by kernel_rfl) (by kernel_rfl) rfl (sizeOf33 _) hp12) ?_
  intro w26 hn11
  have h:=h w26 hn11
  have hk:=Kept.sc hnh hn11
  obtain ⟨hs,hb⟩:=hk.hh hs hb
  refine ln (er (vL (uK ?_)))
  exact rd_r h
  have h:=h.2 hc3
  refine zC (zN (rg ?_))
  obtain ⟨v16,hv9,h⟩:=h
  refine q2 (.map v16) (xl (isAgg207 _) hv9) (q0 (vi z2) (q0 (vi r4) ?_))
  obtain ⟨w27,hv8,hk,h⟩:=h
  refine yZ (zJ rfl) (yT (by kernel_rfl) (by kernel_rfl) (by kernel_rfl) hv8) ?_
  obtain ⟨hs,hb⟩:=hk.hh hs hb
  refine zD (tJ ?_)
  exact rd_n h
 case hr =>
  intro D1 H1 w28 hs' hD hDe aX hk1 hio1
  have hb':=hb.behind hk1 aX hD hDe
  have hs:=hs'
  have hb:=hb'
  have h:=h.1 H1 w28 hs aX hk1 (hio1.elim id (fun h=>h.elim (fun _ h=>h.elim)))
  refine eg ?_
  obtain ⟨v17,hv22,h⟩:=h
  refine q2 (.map v17) (xl (isAgg207 _) hv22) (q0 (vi t1) ?_)
  obtain ⟨v18,hv21,h⟩:=h
  refine q2 (vi v18) (qT (by kernel_rfl) (by kernel_rfl) hv21) ?_
  obtain ⟨hp13,hnh,h⟩:=h
  refine ss (zT (a:=p4) (v:=(vi v18)) (by kernel_rfl) (by kernel_rfl) rfl (sizeOf78 _) hp13) ?_
  intro w29 hn13
  have h:=h w29 hn13
  have hk:=Kept.sc hnh hn13
  obtain ⟨hs,hb⟩:=hk.hh hs hb
  obtain ⟨hp14,hnh,h⟩:=h
  refine ss (zT (a:=p5) (v:=(vi 0)) (by kernel_rfl) (by kernel_rfl) rfl (sizeOf33 _) hp14) ?_
  intro w30 hn14
  have h:=h w30 hn14
  have hk:=Kept.sc hnh hn14
  obtain ⟨hs,hb⟩:=hk.hh hs hb
  refine ln (er (af_r hb.dead ?_))
  intro w31 hw'
  have hl:=hb.leave hs hw'
  obtain ⟨hs,hb⟩:=hl
  -- behind the loop
  have h:=h w31 hs
  have hs:=hs.here
  obtain ⟨aM,hv19,h⟩:=h
  obtain ⟨aN,hv20,h⟩:=h
  refine uW (.inl rfl) (vs:=[(vi aM),(vi aN)]) (v:=(.tuple #[(vi aM),(vi aN)])) results75 ⟨(RV.cell1 (A:=p4) (by kernel_rfl) (isAgg78 _) hv19),(RV.cell1 (A:=p5) (by kernel_rfl) (isAgg33 _) hv20),trivial⟩ (by kernel_rfl) ?_
  exact ⟨aM,aN,rfl,h⟩
 case ht =>
  intro D1 pre2 H2 w32 hs' hD hDe hio
  have hs2:=hs'.putD (o:=.deferred none) hD
  have hio:=hRI.r _ _ _ _ _ hio hs2
  have hs2:=hs2.here
  have hs:=hs2
  generalize World.putObj w32 D1 (.deferred none)=w33 at hs hio ⊢
  have hb:=HB.nil H2 w33
  have h:=h.2 pre2 H2 w33 hs hio
  obtain ⟨aO,hv23,h⟩:=h
  obtain ⟨aP,hv24,h⟩:=h
  refine uW (.inl rfl) (vs:=[(vi aO),(vi aP)]) (v:=(.tuple #[(vi aO),(vi aP)])) results75 ⟨(RV.cell1 (A:=p4) (by kernel_rfl) (isAgg78 _) hv23),(RV.cell1 (A:=p5) (by kernel_rfl) (isAgg33 _) hv24),trivial⟩ (by kernel_rfl) ?_
  exact ⟨aO,aP,rfl,h⟩
def m_O1_l1 (yield1:Value) (r1:Sl) (x1:Int) (wl1:World) (Kc1:Int→WP) (K:WP):Prop :=Br (decide (x1<(r1.len:Int))) (∃a1:Addr,At r1 x1 1 a1∧∃v3:Int,wl1.cell? a1=some (vi v3)∧∃(ly1:Nat),yield1=.func (.yield ly1) #[] #[]∧Yld prog ly1 #[(vi v3)] wl1 (fun e w2=>∃b1:Bool,e=.returned (vb b1)∧Br (!b1) (K w2) (Kc1 (q6.wrap (x1+1)) w2))) (K wl1)
def m_O1 (yield1:Value) (cap1 cap2:Addr) (w0:World) (K:WP):Prop :=∃v1:Option Addr,w0.cell? cap1=some (vp v1)∧∃v2:Int,w0.cell? cap2=some (vi v2)∧Calls prog 187 #[(vp v1),(vi v2)] w0 (fun e w1=>∃r1:Sl,e=.returned r1.v∧∃(I1:Int→WP) (mu1:Int→World→Nat),I1 0 w1∧∀(x1:Int) (wl1:World),I1 x1 wl1→m_O1_l1 yield1 r1 x1 wl1 (fun y'0 w'=>I1 y'0 w'∧mu1 y'0 w'<mu1 x1 wl1) K)
theorem w_O1 (yield1:Value) (cap1 cap2:Addr) (w0:World) (K:WP) (h:m_O1 yield1 cap1 cap2 w0 K) :
  Calls prog 186 #[yield1,(vp (some cap1)),(vp (some cap2))] w0 (fun e w'=>e=.returned (.tuple #[])∧K  w'):=by
 unfold m_O1 at h
 refine cw (args:=[yield1,(vp (some cap1)),(vp (some cap2))]) func186 ntmps186 (eg ?_)
 obtain ⟨v1,hv4,h⟩:=h
 refine q2 (vp v1) (xl (isAgg91 _) hv4) ?_
 obtain ⟨v2,hv3,h⟩:=h
 refine q2 (vi v2) (xl (isAgg78 _) hv3) ?_
 refine sc call187 (h.mono ?_)
 rintro e w1 ⟨r1,rfl,h⟩
 refine ⟨_,rfl,?_⟩
 refine q0 (vi (r1.len:Int)) (q0 (vi 0) (ln (zQ ?_)))
 obtain ⟨I1,mu1,h0,hr⟩:=h
 refine qI (σ:=Int×World) (fun s ρ w=>w=s.2∧Has ρ [(0,yield1),(8,r1.v),(9,(vi (r1.len:Int))),(10,(vi s.1))]∧I1 s.1 s.2) (fun s=>mu1 s.1 s.2) (0,w1) ⟨rfl,hm,h0⟩ ?_
 rintro ⟨x1,wl1⟩ ρ w ⟨hw,hH,hI⟩
 obtain rfl:wl1=w:=(show w=wl1 from hw).symm
 have hH:Has ρ [(0,yield1),(8,r1.v),(9,(vi (r1.len:Int))),(10,(vi x1))]:=hH
 have h:=hr x1 wl1 hI
 unfold m_O1_l1 at h
 refine vC hH ?_
 refine eg (q0 (vb (decide (x1<(r1.len:Int)))) (ln (zA ?_)))
 refine zB (t:=(decide (x1<(r1.len:Int)))) (by kernel_rfl) (fun hc1=>?_) (fun hc1=>?_)
 have h:=h.1 hc1
 refine zC (zN (zA (zQ (eg ?_))))
 obtain ⟨a1,hv2,h⟩:=h
 refine q2 (vp (some a1)) (xi (runUnderlying54 _) (sizeOf78 _) hv2) ?_
 obtain ⟨v3,hv1,h⟩:=h
 refine q2 (vi v3) (xl (isAgg78 _) hv1) (q0 (vi v3) (ln (eg (q0 yield1 (q0 (vi v3) ?_)))))
 obtain ⟨ly1,hy1,h⟩:=h
 refine jSR (zJ rfl) (by kernel_rfl) hy1 (by kernel_rfl) (h.mono ?_)
 rintro e w2 ⟨b1,rfl,h⟩
 refine ⟨_,rfl,?_⟩
 refine q0 (vb (!b1)) (ln ?_)
 refine zB (t:=(!b1)) (by kernel_rfl) (fun hc2=>?_) (fun hc2=>?_)
 have h:=h.1 hc2
 refine er (uK (vL (vL (uK (jFP (.inl rfl) results186 ?_)))))
 exact ⟨rfl,h⟩
 have h:=h.2 hc2
 refine zC (tJ (zN (rg (q0 (vi (q6.wrap (x1+1))) (q0 (vi (q6.wrap (x1+1))) (ln ?_))))))
 exact ⟨((q6.wrap (x1+1)),w2),⟨rfl,hm,h.1⟩,h.2⟩
 have h:=h.2 hc1
 refine qE (tN (tN (tP (jFP (.inr rfl) results186 ?_))))
 exact ⟨rfl,h⟩
end Go.Proofs
end
section
open Go Go.SE
namespace Go.SE
theorem Rws.kept {w w':World} {X:NP} {e:TypeId} {sz:Nat} {s:Sl} {rs:List (List Value)} (h:Rws w e sz s rs) (hk:Kept X w w') (hX:∀b,s.blk b→X b):Rws w' e sz s rs:=by
 refine ⟨h.each,h.len,?_⟩;rcases h.own with h' | ⟨g,cur,ha,hg,r⟩
 ·exact .inl h'
 ·exact .inr ⟨g,cur,ha,by rw [hk.keep g (xS hg) (hX g ⟨_,ha,rfl⟩)];exact hg,r⟩
end Go.SE
namespace Go.Sp
theorem jOO {L:Pool} (hW:Wf L) {t:Int} (ht:inP L t=true) (n:Nat) (st:(Int→Bool)×List Int):(zI (nodeOf L t)).foldl (fun st k=>qX L n k st) st=qX L n (nodeOf L t).b (qX L n (nodeOf L t).a st):=by
 have z:∀st,qX L n 0 st=st:=fun st=>by
  cases n with
  | zero=>rfl
  | succ n=>rw [qX,if_neg (by simp [inP])]
 have h1:=(hW.node ht).2.1;have h2:=(hW.node ht).2.2.1;unfold zI;rcases yO (nodeOf L t).kind with e | e | e
 ·rw [e,h1 (by omega),h2 (by omega),z,z];rfl
 ·rw [e,h2 (by omega),z];rfl
 ·rw [e];rfl
end Go.Sp
namespace Go.Proofs
open Tryz
attribute [local irreducible] Calls
def jVE (M:List Int):List (Int×Unit):=M.map fun t=>(t,())
theorem jSQ (M:List Int):(jVE M).map Prod.fst=M:=by simp [jVE,Function.comp_def]
def one1 (_:Unit):Value:=.int .i64 1
structure WkAt (w:World) (p c1 c2 c3 c4:Addr) (m:Nat) (so:Sl) (L:Sp.Pool) (FP:NP) (st:(Int→Bool)×List Int):Prop where
 b1:Box w c1 [.map (some m)] 245
 b2:Box w c2 [.pointer (some p)] 91
 b3:Box w c3 [.func (.func 276) #[] #[.pointer (some c1),.pointer (some c2),.pointer (some c3),.pointer (some c4)]] 202
 b4:Box w c4 [so.v] 54
 mp:∃M,IMap one1 w m (jVE M)∧∀x,st.1 x=decide (x∈M)
 out:Rws w 78 1 so (tmr st.2)
 pool:zV w p L FP
 n4:c4.block≠c1.block∧c4.block≠c2.block∧c4.block≠c3.block∧c4.block≠m
 nm:m≠c1.block∧m≠c2.block∧m≠c3.block
 ns:∀b,so.blk b→b≠c1.block∧b≠c2.block∧b≠c3.block∧b≠c4.block∧b≠m
 nf:∀b,FP b→b≠c4.block∧b≠m∧¬ so.blk b
def WkF (c4:Addr) (m:Nat) (so:Sl) (b:Nat):Prop:=b=c4.block∨b=m∨so.blk b
section
variable {w w':World} {p c1 c2 c3 c4:Addr} {m:Nat} {so:Sl} {L:Sp.Pool} {FP:NP} {st:(Int→Bool)×List Int}
theorem WkAt.pure (h:WkAt w p c1 c2 c3 c4 m so L FP st) (E:Pure w w'):WkAt w' p c1 c2 c3 c4 m so L FP st :=
 ⟨h.b1.pure E,h.b2.pure E,h.b3.pure E,h.b4.pure E,let ⟨M,h1,h2⟩:=h.mp;⟨M,h1.pure E,h2⟩,h.out.pure E,h.pool.pure E,h.n4,h.nm,h.ns,h.nf⟩
end
theorem c_walk (p c1 c2 c3 c4:Addr) (m:Nat) {L:Sp.Pool} {FP:NP} (hW:Sp.Wf L):∀(n:Nat) (t:Int) (w0:World) (st:(Int→Bool)×List Int) (so:Sl),t.toNat<n→Sp.inP L t=true→WkAt w0 p c1 c2 c3 c4 m so L FP st→Sp.OvOk L st→(∀y,st.1 y=true→y≤t→y∈st.2) →
  Calls prog 276 #[.int .i64 t,.pointer (some c1),.pointer (some c2),.pointer (some c3),.pointer (some c4)] w0 (fun e w'=>e=.returned (.tuple #[])∧∃so',WkAt w' p c1 c2 c3 c4 m so' L FP (Sp.qX L n t st)∧Ext (WkF c4 m so) w0 w'∧∀b,so'.blk b→so.blk b∨w0.heap.size≤b):=by
 intro n
 induction n with
 | zero=>intro t w0 st so h;omega
 | succ n ih =>
 intro t w0 st so hn hin h hst hm
 have hR:=Sp.lK hW (n+1) t st hn hst hm
 suffices key:∀K:WP,(∀so' w',WkAt w' p c1 c2 c3 c4 m so' L FP (Sp.qX L (n+1) t st)→Ext (WkF c4 m so) w0 w'→(∀b,so'.blk b→so.blk b∨w0.heap.size≤b)→K w')→m_J1 t c1 c2 c3 c4 w0 K from
  w_J1 _ _ _ _ _ w0 _ (key _ (fun so' w' a b c=>⟨so',a,b,c⟩))
 intro K hK
 unfold m_J1
 obtain ⟨M,hM,hV⟩:=h.mp
 have hz:∀w,(zeroValue 3).run prog w=.ok (.int .i64 0) w:=fun w=>zeroValue3 w
 rcases hM.get underlying245 underlying78 (hz w0) t false with ⟨hno,hl⟩ | ⟨u,hyes,hl⟩
 ·have hnot:t ∉ M:=by have:=uD.1 hno;rwa [jSQ] at this
  have hv:st.1 t=false:=by rw [hV];simpa using hnot
  rw [Sp.qX,if_pos ⟨hin,hv⟩] at hK hR
  refine ⟨some m,h.b1.cell0,0,hl,Br.f (by simp) ?_⟩
  obtain ⟨w1,hu,hM1,E1⟩:=hM.put (f:=one1) underlying245 underlying78 hno ()
  refine ⟨some m,h.b1.cell0,0,hl,w1,by rw [i64 (by omega) (by omega)];exact hu,?_⟩
  have A1:WkAt w1 p c1 c2 c3 c4 m so L FP (Sp.upd st.1 t true,st.2) :=
   ⟨h.b1.ext E1 (fun e=>h.nm.1 e.symm),h.b2.ext E1 (fun e=>h.nm.2.1 e.symm),h.b3.ext E1 (fun e=>h.nm.2.2 e.symm),h.b4.ext E1 h.n4.2.2.2,
   ⟨M ++ [t], by rw [show jVE (M ++ [t]) = jVE M ++ [(t, ())] by simp [jVE]]; exact hM1, fun x => by
     simp only [Sp.upd,List.mem_append,List.mem_singleton];by_cases e:x=t
     ·simp [e]
     ·rw [if_neg e,hV];simp [e]⟩,
   h.out.ext E1 (fun b hb=>(h.ns b hb).2.2.2.2),h.pool.ext E1 (fun b hb=>(h.nf b hb).2.1),h.n4,h.nm,h.ns,h.nf⟩
  refine ⟨some p,A1.b2.cell0,?_⟩
  refine (c_kids p t w1 A1.pool hW.ok).mono ?_
  rintro _ w2 ⟨r1,rfl,hks,E2⟩
  refine ⟨_,rfl,?_⟩
  have A2:=A1.pure E2
  have o1:Sp.OvOk L (Sp.upd st.1 t true,st.2):=⟨fun y hy=>by simp only [Sp.upd];split <;> simp [hst.marked y hy],hst.closed,hst.nd,hst.inp⟩
  have hkid:=(hW.node hin).2.2.2.2.1
  have hlen:(Sp.zI (Sp.nodeOf L t)).length≤2:=by rw [Sp.zI];simp;omega
  generalize hks0:Sp.zI (Sp.nodeOf L t)=ks at *
  let sj:Nat→(Int→Bool)×List Int:=fun j=>(ks.take j).foldl (fun st k=>Sp.qX L n k st) (Sp.upd st.1 t true,st.2)
  have good:∀j,j≤ks.length→Sp.OvOk L (sj j)∧∀y,(sj j).1 y=true→y<t→y∈(sj j).2:=by
   intro j;induction j with
   | zero =>
    intro _
    refine ⟨o1,fun y hy hlt=>?_⟩
    simp only [sj,List.take_zero,List.foldl_nil,Sp.upd] at hy ⊢
    rw [if_neg (by omega)] at hy
    exact hm y hy (by omega)
   | succ j ihj =>
    intro hj
    obtain ⟨g1,g2⟩:=ihj (by omega)
    have hk:=hkid ks[j] (List.getElem_mem _)
    have hk1:=(Sp.zY.1 hk.1).1
    have e:sj (j+1)=Sp.qX L n ks[j] (sj j):=by simp only [sj];rw [List.take_succ_eq_append_getElem (by omega),List.foldl_append];rfl
    have r:=Sp.lK hW n ks[j] (sj j) (by omega) g1 (fun y hy hle=>g2 y hy (by omega))
    rw [e]
    refine ⟨r.toOvOk,fun y hy hlt=>?_⟩
    rcases r.back y hy with h1 | h1
    ·obtain ⟨M',e',_⟩:=r.app
     rw [e'];exact List.mem_append_left _ (g2 y h1 hlt)
    ·exact h1
  refine ⟨fun x A=>∃(j:Nat) (so':Sl),x=j∧j≤ks.length∧WkAt A p c1 c2 c3 c4 m so' L FP (sj j)∧Ext (WkF c4 m so) w2 A∧∀b,so'.blk b→so.blk b∨w2.heap.size≤b,fun x _=>((ks.length:Int) - x).toNat,⟨0,so,rfl,Nat.zero_le _,A2,Ext.refl _,fun b hb=>.inl hb⟩,?_⟩
  rintro _ w3 ⟨j,so3,rfl,hj,A3,X3,f3⟩
  unfold m_J1_l1
  have hlen1:r1.len=ks.length:=by rw [hks.len,qP]
  have hks3:Lst (fun b=>w1.heap.size≤b∧b<w2.heap.size) w3 1 r1 (tmr ks):=hks.ext X3 (fun b hb hx=>by
   rcases hx with hx | hx | hx
   ·have:=A1.b4.lt;omega
   ·have:m<w1.heap.size:=hM1.lt;omega
   ·have:=A1.out.lt hx;omega)
  obtain ⟨g1,g2⟩:=good j hj
  refine ⟨fun hc=>?_,fun hc=>?_⟩
  ·have hc:j<ks.length:=by have:=of_decide_eq_true hc;omega
   obtain ⟨a,hat,_,hv⟩:=tU hks3 hc
   refine ⟨a,hat,_,hv,_,A3.b3.cell0,_,_,_,rfl,call276,?_⟩
   have hk:=hkid ks[j] (List.getElem_mem _)
   have hk1:=(Sp.zY.1 hk.1).1
   refine (ih ks[j] w3 (sj j) so3 (by omega) hk.1 A3 g1 (fun y hy hle=>g2 y hy (by omega))).mono ?_
   rintro _ w4 ⟨rfl,so4,A4,X4,f4⟩
   refine ⟨rfl,⟨j+1,so4,vV hc (by omega),hc,?_,X3.trans' X4 (fun i hi hb=>?_),fun b hb=>?_⟩,?_⟩
   ·have e:sj (j+1)=Sp.qX L n ks[j] (sj j):=by simp only [sj];rw [List.take_succ_eq_append_getElem (by omega),List.foldl_append];rfl
    rw [e];exact A4
   ·rcases hb with hb | hb | hb
    ·exact .inl hb
    ·exact .inr (.inl hb)
    ·exact .inr (.inr ((f3 i hb).elim id (fun h=>by omega)))
   ·rcases f4 b hb with h1 | h1
    ·exact f3 b h1
    ·have:=X3.size;right;omega
   ·rw [vV hc (by omega)]
    show ((ks.length:Int) - ((j+1:Nat):Int)).toNat<((ks.length:Int) - (j:Int)).toNat
    omega
  ·have hc:j=ks.length:=by have:=of_decide_eq_false hc;omega
   subst hc
   have es:sj ks.length=Sp.qX L n (Sp.nodeOf L t).b (Sp.qX L n (Sp.nodeOf L t).a (Sp.upd st.1 t true,st.2)):=by
    rw [← Sp.jOO hW hin,hks0];simp only [sj,List.take_length]
   simp only at hK hR
   rw [← es] at hK hR
   generalize sj ks.length=s3 at *
   refine ⟨so3,A3.b4.cell0,?_⟩
   intro p1 w4 h4
   have E4:Pure w3 w4:=Ext.new h4
   have hfew:s3.2.length≤65536:=by have:=Sp.jAK g1.nd g1.inp;have:=hW.ok.few;omega
   obtain ⟨s1',w5,hr5,R5,X5,f5⟩:=(A3.out.pure E4).append (P:=prog) (ty:=54) (c:=1) jMP (r:=[.int .i64 t]) (Box.of_new h4).row rfl rfl (by rw [qP];omega) (by rw [qP];simp [maxLen];omega)
   have b5:=(A3.b4.pure E4).ext X5 (fun hb=>(A3.ns _ hb).2.2.2.1 rfl)
   refine ⟨s1',w5,hr5,b5.canW0 (by simp),?_⟩
   intro w6 h6
   have E6:Ext (·=c4.block) w5 w6:=by rw [h6];exact Ext.setCell c4 _
   have b6:Box w6 c4 [s1'.v] 54:=by rw [h6];exact b5.set0
   have z1:=E1.size
   have z2:=E2.size
   have z3:=X3.size
   have z4:=E4.size
   have f5':∀b,s1'.blk b→so3.blk b∨w3.heap.size≤b:=fun b hb=>(f5 b hb).imp_right (fun h=>by omega)
   have ns':∀b,s1'.blk b→b≠c1.block∧b≠c2.block∧b≠c3.block∧b≠c4.block∧b≠m:=fun b hb=>(f5' b hb).elim (A3.ns b) (fun hh=>by
    have q1:=A3.b1.lt;have q2:=A3.b2.lt;have q3:=A3.b3.lt;have q4:=A3.b4.lt;have q5:m<w3.heap.size:=by obtain ⟨M',hM',_⟩:=A3.mp;exact hM'.lt
    exact ⟨by omega,by omega,by omega,by omega,by omega⟩)
   have up:∀{T:TypeId} {c:Addr} {vs:List Value},Box w3 c vs T→¬ so3.blk c.block→c.block≠c4.block→Box w6 c vs T:=fun h h1 h2=>((h.pure E4).ext X5 h1).ext E6 h2
   refine hK s1' w6 ⟨up A3.b1 (fun hb=>(A3.ns _ hb).1 rfl) A3.n4.1.symm,up A3.b2 (fun hb=>(A3.ns _ hb).2.1 rfl) A3.n4.2.1.symm,up A3.b3 (fun hb=>(A3.ns _ hb).2.2.1 rfl) A3.n4.2.2.1.symm,b6,?_,?_,((A3.pool.pure E4).ext X5 (fun b hb=>(A3.nf b hb).2.2)).ext E6 (fun b hb e=>(A3.nf b hb).1 e),A3.n4,A3.nm,ns',fun b hb=>⟨(A3.nf b hb).1,(A3.nf b hb).2.1,fun hh=>(f5' b hh).elim (A3.nf b hb).2.2 (fun hh=>by have:=A3.pool.lt hb;omega)⟩⟩ ?_ ?_
   ·obtain ⟨M',hM',hV'⟩:=A3.mp
    exact ⟨M',((hM'.pure E4).ext X5 (fun hb=>(A3.ns _ hb).2.2.2.2 rfl)).ext E6 A3.n4.2.2.2.symm,hV'⟩
   ·show Rws _ _ _ _ (tmr (s3.2++[t]))
    rw [show tmr (s3.2++[t])=tmr s3.2++[[.int .i64 t]] by simp [tmr]]
    exact R5.ext E6 (fun b hb e=>(ns' b hb).2.2.2.1 e)
   ·have f33:∀b,so3.blk b→b<w0.heap.size→so.blk b:=fun b hb hlt=>(f3 b hb).elim id (fun h2=>by omega)
    refine (((E1.mono (fun b _ hb=>.inr (.inl hb))).thenPure E2).trans X3).trans' ((E4.pure (F:=WkF c4 m so3)).trans ((X5.mono (fun b _ hb=>.inr (.inr hb))).trans (E6.mono (fun b _ e=>.inl e)))) (fun i hi hb=>?_)
    rcases hb with hb | hb | hb
    ·exact .inl hb
    ·exact .inr (.inl hb)
    ·exact .inr (.inr (f33 i hb hi))
   ·intro b hb
    rcases f5' b hb with h1 | h1
    ·exact (f3 b h1).imp_right (fun h=>by omega)
    ·right;omega
 ·have hyes':t∈M:=by have:=xA hyes;simp [jVE] at this;exact this
  have hv:st.1 t=true:=by rw [hV];simpa using hyes'
  rw [Sp.qX,if_neg (by simp [hv])] at hK
  refine ⟨some m,h.b1.cell0,1,hl,Br.t (by simp) ?_⟩
  exact hK so w0 h (Ext.refl _) (fun b hb=>.inl hb)
theorem c_subs (p:Addr) (t:Int) (w0:World) {L:Sp.Pool} {FP:NP} (hW:Sp.Wf L) (hP:zV w0 p L FP) :
  Calls prog 187 #[.pointer (some p),.int .i64 t] w0 (fun e w'=>∃r:Sl,e=.returned r.v∧RetO w0 78 1 (tmr (Sp.subs L t)) r w'):=by
 refine w_Q3 _ _ w0 (fun r w'=>RetO w0 78 1 (tmr (Sp.subs L t)) r w') ?_
 unfold m_Q3
 intro p2 w1 h1 p3 w2 h2 p4 w3 h3 p5 w4 h4
 have B2:=Box.of_new h1
 have B3:=Box.of_new h2
 have M4:=IMap.of_new (f:=one1) h3
 have B5:=Box.of_new h4
 have E1:Pure w0 w1:=Ext.new h1
 have E2:Pure w1 w2:=Ext.new h2
 have E3:Pure w2 w3:=Ext.new h3
 have E4:Pure w3 w4:=Ext.new h4
 have s1:=h1.at_size;have s2:=h2.at_size;have s3:=h3.at_size;have s4:=h4.at_size
 have z1:=E1.size;have z2:=E2.size;have z3:=E3.size;have z4:=E4.size
 have l1:=B2.lt;have l2:=B3.lt;have l3:=M4.lt;have l4:=B5.lt
 refine ⟨B5.canW0 (by simp),fun w5 h5=>?_⟩
 have E5:Ext (·=p5.block) w4 w5:=by rw [h5];exact Ext.setCell p5 _
 have B5':Box w5 p5 [.map (some p4.block)] 245:=by rw [h5];exact B5.set0
 intro p6 w6 h6
 have B6:=Box.of_new h6
 have E6:Pure w5 w6:=Ext.new h6
 have s6:=h6.at_size;have z5:=E5.size;have z6:=E6.size;have l6:=B6.lt
 refine ⟨B6.canW0 (by simp),fun w7 h7=>?_⟩
 have E7:Ext (·=p6.block) w6 w7:=by rw [h7];exact Ext.setCell p6 _
 have B6':Box w7 p6 [.func (.func 276) #[] #[.pointer (some p5),.pointer (some p2),.pointer (some p6),.pointer (some p3)]] 202:=by rw [h7];exact B6.set0
 have z7:=E7.size
 have EE:Pure w0 w7:=((((((E1.trans E2).trans E3).trans E4).own (by omega) E5).trans E6).own (by omega) E7)
 have up:∀{T:TypeId} {c:Addr} {vs:List Value},Box w4 c vs T→c.block≠p5.block→c.block≠p6.block→Box w7 c vs T:=fun h h1 h2=>((h.ext E5 h1).pure E6).ext E7 h2
 have hnil:∀b,¬ Sl.nil.blk b:=fun b hb=>by obtain ⟨a,h,_⟩:=hb;cases h
 have A:WkAt w7 p p5 p2 p6 p3 p4.block Sl.nil L FP (fun _=>false,[]) :=
  ⟨(B5'.pure E6).ext E7 (by omega),up (((B2.pure E2).pure E3).pure E4) (by omega) (by omega),B6',up ((B3.pure E3).pure E4) (by omega) (by omega),
  ⟨[],(((M4.pure E4).ext E5 (by omega)).pure E6).ext E7 (by omega),fun x=>by simp⟩,Rws.nil _ _ _,hP.pure EE,⟨by omega,by omega,by omega,by omega⟩,⟨by omega,by omega,by omega⟩,fun b hb=>(hnil b hb).elim,fun b hb=>by
   have:=hP.lt hb;exact ⟨by omega,by omega,hnil b⟩⟩
 refine ⟨some p,A.b2.cell0,?_⟩
 refine (c_in p t w7 A.pool).mono ?_
 rintro _ _ ⟨r1,rfl,rfl,rfl⟩
 refine ⟨_,rfl,fun hc=>?_,fun hc=>?_⟩
 ·refine ⟨_,A.b3.cell0,_,_,_,rfl,call276,?_⟩
  refine (c_walk p p5 p2 p6 p3 p4.block hW (t.toNat+1) t w7 _ Sl.nil (by omega) hc A ⟨by simp,by simp,by simp,by simp⟩ (by simp)).mono ?_
  rintro _ w8 ⟨rfl,so,A8,X8,f8⟩
  refine ⟨rfl,so,A8.b4.cell0,A8.out,fun b hb=>?_,EE.trans' X8 (fun i hi hb=>?_)⟩
  ·rcases f8 b hb with h | h
   ·exact (hnil b h).elim
   ·omega
  ·rcases hb with hb | hb | hb
   ·omega
   ·omega
   ·exact hnil _ hb
 ·have : Sp.subs L t = [] := by
   unfold Sp.subs;rw [Sp.qX,if_neg (by simp [hc])]
  rw [this]
  exact ⟨Sl.nil,A.b4.cell0,Rws.nil _ _ _,fun b hb=>(hnil b hb).elim,EE⟩
theorem jUQ (p:Addr) (t:Int) (w0:World):Calls prog 139 #[.pointer (some p),.int .i64 t] w0 (fun e w'=>∃r:Value,e=.returned r∧∃p2 p3:Addr,r=.func (.func 186) #[] #[.pointer (some p2),.pointer (some p3)]∧Box w' p2 [.pointer (some p)] 91∧Box w' p3 [.int .i64 t] 78∧Pure w0 w'):=by
 refine w_O3 _ _ w0 (fun r w'=>∃p2 p3:Addr,r=.func (.func 186) #[] #[.pointer (some p2),.pointer (some p3)]∧Box w' p2 [.pointer (some p)] 91∧Box w' p3 [.int .i64 t] 78∧Pure w0 w') ?_;unfold m_O3;intro p2 w1 h1 p3 w2 h2;exact ⟨p2,p3,rfl,(Box.of_new h1).pure (Ext.new h2),Box.of_new h2,(show Pure w0 w1 from Ext.new h1).trans (Ext.new h2)⟩
theorem jRJ {p p2 p3:Addr} {t:Int} {w0:World} {L:Sp.Pool} {FP:NP} (hW:Sp.Wf L) (hP:zV w0 p L FP) (B2:Box w0 p2 [.pointer (some p)] 91) (B3:Box w0 p3 [.int .i64 t] 78) :
  jUJ prog 186 #[.pointer (some p2),.pointer (some p3)] (fun z:Int=>#[.int .i64 z]) (Sp.subs L t) (fun _=>True) w0:=by
 intro l J Jx W E _ hJ hJx hyield h0
 refine (w_O1 (.func (.yield l) #[] #[]) p2 p3 W (fun A=>∃X,Hst W X A X A∧(J (Sp.subs L t) X A∨∃pre,Jx pre X A)) ?_).mono (fun e A h=>⟨⟨_,h.1⟩,h.2⟩)
 unfold m_O1
 refine ⟨some p,(B2.pure E).cell0,t,(B3.pure E).cell0,?_⟩
 refine (c_subs p t W hW (hP.pure E)).mono ?_
 rintro _ w1 ⟨r,rfl,hr⟩
 refine ⟨_,rfl,?_⟩
 generalize hxs:Sp.subs L t=xs at *
 have hfew:xs.length≤65536:=by rw [← hxs];have:=Sp.jBQ hW t;have:=hW.ok.few;omega
 have hs1:Hst W None W (fun b=>W.heap.size≤b∧b<w1.heap.size) w1:=⟨hr.pure.pure,fun _ h=>h.elim,fun b h=>.inr h.1,fun b h=>h.1,fun b h=>h.2,hr.pure.size⟩
 have hX:∀b,r.blk b→W.heap.size≤b∧b<w1.heap.size:=fun b hb=>⟨hr.own b hb,hr.rows.lt hb⟩
 refine ⟨fun x A=>∃j:Nat,x=j∧j≤xs.length∧Hst W (fun b=>W.heap.size≤b∧b<w1.heap.size) A (fun b=>W.heap.size≤b∧b<w1.heap.size) A∧J (xs.take j) (fun b=>W.heap.size≤b∧b<w1.heap.size) A∧Rws A 78 1 r (tmr xs),fun x _=>((xs.length:Int) - x).toNat,⟨0,rfl,Nat.zero_le _,hs1.here,hJ _ _ _ _ _ h0 hs1,hr.rows⟩,?_⟩
 rintro _ A ⟨j,rfl,hj,hA,hJA,hRA⟩
 unfold m_O1_l1
 have hlen:r.len=xs.length:=by rw [hr.rows.len,qP]
 refine ⟨fun hc=>?_,fun hc=>?_⟩
 ·have hc:j<xs.length:=by have:=of_decide_eq_true hc;omega
  obtain ⟨a,hat,_,hv⟩:=tU hRA.lst hc
  refine ⟨a,hat,_,hv,l,rfl,?_⟩
  refine (hyield (xs.take j) xs[j] _ A hJA hA ⟨xs.drop (j+1),by rw [← List.drop_eq_getElem_cons hc,List.take_append_drop]⟩).mono ?_
  rintro e A' (⟨rfl,hk,hJ'⟩ | ⟨rfl,hk,hJ'⟩)
  ·refine ⟨_,rfl,Br.f rfl ⟨⟨j+1,vV hc (by omega),hc,hA.again hk,by rw [List.take_succ_eq_append_getElem hc];exact hJ',hRA.kept hk hX⟩,?_⟩⟩
   rw [vV hc (by omega)]
   show ((xs.length:Int) - ((j+1:Nat):Int)).toNat<((xs.length:Int) - (j:Int)).toNat
   omega
  ·exact ⟨_,rfl,Br.t rfl ⟨_,hA.again hk,.inr ⟨_,hJ'⟩⟩⟩
 ·have hc:j=xs.length:=by have:=of_decide_eq_false hc;omega
  subst hc
  rw [List.take_length] at hJA
  exact ⟨_,hA,.inl hJA⟩
end Go.Proofs
end
section
open Go Go.SE
namespace Go.Proofs
open Tryz
attribute [local irreducible] Calls CallsD
def jSN (w0 w':World) (bs:List UInt8) (x:Option Addr):Prop :=
 (∀q,(vT bs).1=some q→∃p F,x=some p∧zV w' p q F∧∀b,F b→w0.heap.size≤b)∧((vT bs).1=none→x=none)
structure ReAt (w0 w:World) (q a:Addr) (s:Sl) (bs:List UInt8) (L:Sp.Pool) (r:Rd) (m:Nat) (S FP F:NP) (ps:List Nat) (pl:Sl):Prop where
 st:StAt w q a s bs L r m S FP F
 pure:Pure w0 w
 oP:∀b,FP b→w0.heap.size≤b
 oa:w0.heap.size≤a.block
 rows:Rws w 3 1 pl (tmr (ps.map Int.ofNat))
 own:∀b,pl.blk b→w0.heap.size≤b∧¬ FP b∧b≠a.block∧¬ S b∧¬ F b∧b≠m
theorem jOZ:∀(l:List Int) (i:Nat) (z:Int),inRow i l=i+l.length→inRow i (l++[z])=if z=((i+l.length:Nat):Int)+1 then i+l.length+1 else i+l.length:=by
 intro l;induction l with
 | nil=>intro i z _;simp only [List.nil_append,inRow,List.length_nil,Nat.add_zero]
 | cons s l ih =>
  intro i z h
  rw [inRow] at h
  rw [List.cons_append,inRow]
  split
  ·rename_i hs
   rw [if_pos hs,List.length_cons] at h
   rw [ih (i+1) z (by omega),List.length_cons]
   rw [show i+1+l.length=i+(l.length+1) by omega]
  ·rename_i hs
   rw [if_neg hs,List.length_cons] at h;omega
theorem jOY:∀(l:List Int) (i:Nat) (z:Int) (post:List Int),inRow i l=i+l.length→z≠((i+l.length:Nat):Int)+1→inRow i (l++z :: post)=i+l.length:=by
 intro l;induction l with
 | nil=>intro i z post _ hz;simp only [List.nil_append,inRow,List.length_nil,Nat.add_zero] at *;rw [if_neg hz]
 | cons s l ih =>
  intro i z post h hz
  rw [inRow] at h
  rw [List.cons_append,inRow]
  split
  ·rename_i hs
   rw [if_pos hs,List.length_cons] at h
   rw [List.length_cons] at hz
   rw [ih (i+1) z post (by omega) (by rw [show i+1+l.length=i+(l.length+1) by omega];exact hz),List.length_cons];omega
  ·rename_i hs
   rw [if_neg hs,List.length_cons] at h;omega
theorem c_read {S0:NP} (sb:Sl) (bs:List UInt8) (w0:World) (hs:Lst S0 w0 1 sb (byr bs)) (hz:sb.a=none→sb=Sl.nil) :
  Calls prog 102 #[sb.v] w0 (fun e w'=>∃x:Option Addr,∃y z:Int,e=.returned (.tuple #[.pointer x,.int .i64 y,.int .i64 z])∧(y=(vT bs).2.1∧z=((vT bs).2.2:Int)∧jSN w0 w' bs x∧Pure w0 w')):=by
 refine w_L1 sb w0 (fun x y z w'=>y=(vT bs).2.1∧z=((vT bs).2.2:Int)∧jSN w0 w' bs x∧Pure w0 w') ?_
 unfold m_L1
 have hl:sb.len=bs.length:=by rw [hs.len,qR]
 have bad:∀(e:Int) (n:Nat) (w':World),vT bs=(none,e,n)→Pure w0 w'→e=(vT bs).2.1∧(n:Int)=((vT bs).2.2:Int)∧jSN w0 w' bs none∧Pure w0 w':=fun e n w' h E=>by
  rw [h];exact ⟨rfl,rfl,⟨fun q hq=>(by rw [h] at hq;cases hq),fun _=>rfl⟩,E⟩
 refine ⟨fun hc=>?_,fun hc=>?_⟩
 ·have hc:4096<bs.length:=by have:=of_decide_eq_true hc;omega
  exact bad 1 0 w0 (by unfold vT;rw [if_pos hc]) (Ext.refl _)
 have hc:bs.length≤4096:=by have:=of_decide_eq_false hc;omega
 refine ⟨fun hc2=>?_,fun hc2=>?_⟩
 ·have hc2:bs.length=0:=by have:=beq_iff_eq.1 hc2;omega
  exact bad 3 0 w0 (by unfold vT;rw [if_neg (by omega),if_pos hc2]) (Ext.refl _)
 have hc2:bs.length≠0:=by have:=beq_eq_false_iff_ne.1 hc2;omega
 have htxt:vT bs=jIZ bs bs.length [] ⟨0,0,0⟩ []:=by unfold vT;rw [if_neg (by omega),if_neg hc2]
 refine (c_New w0).mono ?_
 rintro _ w1 ⟨_,rfl,q,rfl,E1,FP0,hP,hFP⟩
 refine ⟨_,rfl,E1.keptP,?_⟩
 refine (c_cNew sb bs w1 (hs.pure E1) hz (by omega)).mono ?_
 rintro _ w2 ⟨_,rfl,a,s,rfl,hR,E2,ha,hsb⟩
 refine ⟨_,rfl,E2.keptP,?_⟩
 refine (jVX w2).mono ?_
 rintro _ w3 ⟨_,rfl,m,F,rfl,hK,E3,hm,hF⟩
 refine ⟨_,rfl,E3.keptP,?_⟩
 have z1:=E1.size;have z2:=E2.size;have z3:=E3.size
 have la:a.block<w2.heap.size:=hR.box.lt
 have hnil:∀b,¬ Sl.nil.blk b:=fun b hb=>by obtain ⟨a,h,_⟩:=hb;cases h
 have R3:ReAt w0 w3 q a s bs [] ⟨0,0,0⟩ m s.blk FP0 F [] Sl.nil :=
  ⟨⟨(hP.pure E2).pure E3,hR.pure E3,hK,fun b hb=>by have:=hsb b hb;omega,by omega,fun b hb=>by have h1:=hP.lt hb;exact ⟨by omega,fun hh=>by have:=hsb b hh;omega,fun hh=>by have:=hF b hh;omega,by omega⟩,fun b hb=>by have:=hF b hb;exact ⟨by omega,fun hh=>by have:=hsb b hh;omega⟩,by omega,fun hh=>by have:=hsb _ hh;omega⟩,(E1.trans E2).trans E3,hFP,by omega,Rws.nil _ _ _,fun b hb=>(hnil b hb).elim⟩
 refine ⟨fun pl Hl w=>∃(L:Sp.Pool) (r:Rd) (ps:List Nat) (FP:NP) (n:Nat),Hl=None∧ReAt w0 w q a s bs L r m s.blk FP F ps pl∧Sp.Wf L∧ps.length=L.length∧ps.length≤r.at_∧r.at_≤bs.length∧r.err=0∧bs.length - r.at_≤n∧jIZ bs n L r ps=vT bs,fun pl _=>bs.length+1 - pl.len,⟨[],⟨0,0,0⟩,[],FP0,bs.length,rfl,R3,Sp.Wf.nil,rfl,Nat.zero_le _,Nat.zero_le _,rfl,Nat.le_refl _,htxt.symm⟩,?_⟩
 rintro pl _ wl _ ⟨L,r,ps,FP,n,rfl,hRe,hW,hps,hpr,hra,hre,hn,hgo⟩
 unfold m_L1_l1
 have hpl:pl.len=ps.length:=by rw [hRe.rows.len,qP,List.length_map]
 refine (c_Left a s bs r wl hRe.st.rd hra).mono ?_
 rintro _ w4 ⟨_,rfl,rfl,E4⟩
 refine ⟨_,rfl,E4.keptP,fun hc3=>?_,fun hc3=>?_⟩
 ·have hlt:r.at_<bs.length:=by have:=of_decide_eq_true hc3;omega
  obtain ⟨n,rfl⟩:∃k,n=k+1:=⟨n - 1,by omega⟩
  rw [jIZ,if_pos hlt] at hgo
  have S4:=hRe.st.pure E4
  refine (c_At a s bs r w4 S4.rd).mono ?_
  rintro _ _ ⟨_,rfl,rfl,rfl⟩
  refine ⟨_,rfl,Kept.refl _,?_⟩
  refine (jRY q a s bs r m S4 hW.ok hlt hre).mono ?_
  rintro _ w6 ⟨_,rfl,rfl,F',hP6,hR6,E6,hF6⟩
  have z4:=E4.size;have z6:=E6.size
  have E06:Pure w0 w6:=(hRe.pure.trans E4).trans' E6 (fun i hi hh=>hh.elim (fun hh=>by have:=hRe.oP i hh;omega) (fun hh=>by have:=hRe.oa;omega))
  refine ⟨_,rfl,E6.kept (fun b hb=>hb.elim),fun hc4=>?_,fun hc4=>?_⟩
  ·have h0:(vU bs L r).2.1≠0:=bne_iff_ne.1 hc4
   rw [if_pos h0] at hgo
   exact bad _ _ _ hgo.symm E06
  ·have h0:(vU bs L r).2.1=0:=by simpa using hc4
   rw [if_neg (by simpa using h0)] at hgo
   obtain ⟨a1,a2,a3⟩:=jIW bs L r hlt hre h0
   have hw6:Sp.Wf (vU bs L r).1∧(vU bs L r).1.length=L.length+1:=by
    rw [tV bs L r hlt hre] at h0 ⊢;split at h0
    ·rename_i hk;rw [if_pos hk];obtain ⟨_,_,e3,e4,e5⟩:=jEU h0;rw [e5];simp only;refine ⟨Sp.xP hW _,?_⟩;have hc:=(Sp.xQ e4).2.2;unfold Sp.make at e4 ⊢;simp only [e3] at e4 ⊢;rw [if_neg (by rw [hc];simp)] at e4 ⊢;split at e4
     ·simp at e4
     ·rename_i hf;rw [if_neg hf];simp
    ·simp at h0
   intro p1 w7 n7
   have E7:Pure w6 w7:=Ext.new n7
   have z7:=E7.size
   have R7:Rws w7 3 1 pl (tmr (ps.map Int.ofNat)):=((hRe.rows.pure E4).ext E6 (fun b hb hh=>hh.elim (hRe.own b hb).2.1 (hRe.own b hb).2.2.1)).pure E7
   obtain ⟨s1,w8,hr8,hR8,hE8,hb8⟩:=R7.append (P:=prog) (ty:=50) (c:=1) jCP (Box.of_newA n7).row rfl rfl (by rw [qP,List.length_map];omega) (by rw [qP,List.length_map];simp only [maxLen];omega)
   have hpw:∀b,pl.blk b→b<wl.heap.size:=fun b hb=>hRe.rows.lt hb
   have z8:=hE8.size
   have E08:Pure w0 w8:=(E06.trans E7).trans' hE8 (fun i hi hh=>by have:=(hRe.own i hh).1;omega)
   have hnew:∀b,F' b→¬ pl.blk b:=fun b hb hh=>(hF6 b hb).elim (fun h=>(hRe.own b hh).2.1 h) (fun h=>by have:=hpw b hh;omega)
   have S0:=S4
   have S8:StAt w8 q a s bs (vU bs L r).1 (vU bs L r).2.2 m s.blk F' F:=by
    refine ⟨(hP6.pure E7).ext hE8 hnew,(hR6.pure E7).ext hE8 (fun b hb hh=>(hRe.own b hh).2.2.2.1 hb) (fun hh=>(hRe.own _ hh).2.2.1 rfl),((S0.kinds.ext E6 (fun b hb hh=>?_)).pure E7).ext hE8 (fun b hb hh=>?_),fun b hb=>by have:=S0.lS b hb;omega,by have:=S0.la;omega,fun b hb=>?_,S0.dF,S0.dm⟩
    ·rcases hb with hb | rfl
     ·exact hh.elim (fun hh=>(S0.dP b hh).2.2.1 hb) (fun hh=>(S0.dF b hb).1 hh)
     ·exact hh.elim (fun hh=>(S0.dP _ hh).2.2.2 rfl) (fun hh=>S0.dm.1 hh)
    ·rcases hb with hb | rfl
     ·exact (hRe.own b hh).2.2.2.2.1 hb
     ·exact (hRe.own _ hh).2.2.2.2.2 rfl
    ·rcases hF6 b hb with h | h
     ·exact S0.dP b h
     ·exact ⟨by have:=S0.la;omega,fun hh=>by have:=S0.lS b hh;omega,fun hh=>by have:=S0.kinds.lt b hh;omega,by have:=S0.kinds.mlt;omega⟩
   refine ⟨s1,w8,hr8,hE8.kept (fun b hb=>hb.elim),⟨(vU bs L r).1,(vU bs L r).2.2,ps++[r.at_],F',n,rfl,⟨S8,E08,fun b hb=>(hF6 b hb).elim (hRe.oP b) (fun h=>by have:=hRe.pure.size;omega),hRe.oa,?_,fun b hb=>?_⟩,hw6.1,by rw [List.length_append,List.length_singleton,hw6.2];omega,by rw [List.length_append,List.length_singleton];omega,a2,a3,by omega,hgo⟩,?_⟩
   ·have:tmr ((ps++[r.at_]).map Int.ofNat)=tmr (ps.map Int.ofNat)++[[.int .i64 (r.at_:Int)]]:=by simp [tmr]
    rw [this];exact hR8
   ·rcases hb8 b hb with h | h
    ·have:=hRe.own b h
     exact ⟨this.1,fun hh=>hnew b hh h,this.2.2⟩
    ·have h1:=hRe.pure.size
     exact ⟨by omega,fun hh=>by have:=hP6.lt hh;omega,by have:=S0.la;omega,fun hh=>by have:=S0.lS b hh;omega,fun hh=>by have:=S0.kinds.lt b hh;omega,by have:=S0.kinds.mlt;omega⟩
   ·have h1:s1.len=ps.length+1:=by rw [hR8.len,List.length_append,qP,List.length_map];rfl
    show bs.length+1 - s1.len<bs.length+1 - pl.len
    omega
 ·have hge:¬ r.at_<bs.length:=by have:=of_decide_eq_false hc3;omega
  rw [jHJ hge] at hgo
  intro p2 w9 n9
  have E9:Pure w4 w9:=Ext.new n9
  have B9:=Box.of_newA n9
  have b9:=n9.at_size
  refine ⟨B9.canW0 (by simp),id,?_⟩
  rintro w10 e10
  have X10:Ext (·=p2.block) w9 w10:=by rw [e10];exact Ext.setCell _ _
  have B10:Box w10 p2 [.int .i64 0] 3:=by rw [e10];exact B9.set0
  have z4:=E4.size;have z9:=E9.size;have z10:=X10.size
  have E4':Pure wl w10:=(E4.trans E9).own (by omega) X10
  have zw:=hRe.pure.size
  have P10:=hRe.st.pool.pure E4'
  have R10:=hRe.rows.pure E4'
  refine (jCX q w10 P10).mono ?_
  rintro _ w10 ⟨_,rfl,rfl,rfl⟩
  refine ⟨_,rfl,Kept.refl _,?_⟩
  refine (jUQ q L.length w10).mono ?_
  rintro _ w12 ⟨_,rfl,q2,q3,rfl,Bq2,Bq3,E12⟩
  have z12:=E12.size
  refine ⟨_,rfl,E12.keptP,_,_,rfl,call186,_,_,jRJ hW (P10.pure E12) Bq2 Bq3,?_⟩
  have hfew:=Sp.jBQ hW L.length
  have hlf:=hW.ok.few
  unfold jBW at hgo
  simp only at hgo
  generalize hxs:Sp.subs L L.length=xs at *
  have E012:Pure w0 w12:=(hRe.pure.trans E4').trans E12
  have vb:∀b,(b=p2.block∨FP b∨pl.blk b)→w0.heap.size≤b:=fun b hb=>hb.elim (fun h=>by omega) (fun hb=>hb.elim (hRe.oP b) (fun h=>(hRe.own b h).1))
  have dP2:¬ FP p2.block∧¬ pl.blk p2.block:=⟨fun hh=>by have:=hRe.st.pool.lt hh;omega,fun hh=>by have:=hRe.rows.lt hh;omega⟩
  refine ⟨fun pre Y A=>Box A p2 [.int .i64 (pre.length:Int)] 3∧inRow 0 pre=pre.length∧zV A q L FP∧Rws A 3 1 pl (tmr (ps.map Int.ofNat))∧(∀b,(b=p2.block∨FP b∨pl.blk b)→¬ Y b)∧Pure w0 A,
   fun pre Y A=>Box A p2 [.int .i64 (inRow 0 xs:Int)] 3∧zV A q L FP∧Rws A 3 1 pl (tmr (ps.map Int.ofNat))∧(∀b,(b=p2.block∨FP b∨pl.blk b)→¬ Y b)∧Pure w0 A,⟨fun _ _ _ _=>trivial,?_,?_,fun _ _ _ _ _ h=>h.elim⟩,?_,?_,?_⟩
  ·rintro pre Y A Y' A' ⟨g1,g2,g3,g4,g5,g6⟩ hst
   have hv:∀b,(b=p2.block∨FP b∨pl.blk b)→¬ Y' b:=hst.disj (fun b hb=>⟨hb.elim (fun e=>e▸g1.lt) (fun hb=>hb.elim (fun h=>g3.lt h) (fun h=>g4.lt h)),g5 b hb⟩)
   exact ⟨g1.ext hst.ext (hv _ (.inl rfl)),g2,g3.ext hst.ext (fun b hb=>hv b (.inr (.inl hb))),g4.ext hst.ext (fun b hb=>hv b (.inr (.inr hb))),hv,g6.hst hst⟩
  ·rintro pre Y A Y' A' ⟨g1,g3,g4,g5,g6⟩ hst
   have hv:∀b,(b=p2.block∨FP b∨pl.blk b)→¬ Y' b:=hst.disj (fun b hb=>⟨hb.elim (fun e=>e▸g1.lt) (fun hb=>hb.elim (fun h=>g3.lt h) (fun h=>g4.lt h)),g5 b hb⟩)
   exact ⟨g1.ext hst.ext (hv _ (.inl rfl)),g3.ext hst.ext (fun b hb=>hv b (.inr (.inl hb))),g4.ext hst.ext (fun b hb=>hv b (.inr (.inr hb))),hv,g6.hst hst⟩
  ·exact ⟨B10.pure E12,rfl,P10.pure E12,R10.pure E12,fun _ _ h=>h,E012⟩
  ·rintro pre z Y A ⟨g1,g2,g3,g4,g5,g6⟩ hsA ⟨post,hpost⟩
   have hpl2:pre.length<65536:=by have:=congrArg List.length hpost;simp only [List.length_append,List.length_cons] at this;omega
   have hw:IntKind.i64.wrap ((pre.length:Int)+1)=((pre.length+1:Nat):Int):=vV (n:=pre.length+1) (by omega) (by omega)
   refine ⟨_,g1.cell0,fun hc=>?_,fun hc=>?_⟩
   ·have hc:z≠((pre.length+1:Nat):Int):=by rw [hw] at hc;exact bne_iff_ne.1 hc
    have hst:=jOY pre 0 z post (by omega) (by omega)
    rw [← hpost,Nat.zero_add] at hst
    exact ⟨Kept.refl _,by rw [hst];exact g1,g3,g4,g5,g6⟩
   ·have hc:z=((pre.length+1:Nat):Int):=by rw [hw] at hc;simpa using hc
    have hsn:=jOZ pre 0 z (by omega)
    rw [if_pos (by omega)] at hsn
    refine ⟨_,g1.cell0,g1.canW0 (by simp),id,?_⟩
    rintro w13 e13
    have X13:Ext (·=p2.block) A w13:=by rw [e13];exact Ext.setCell _ _
    have B13:Box w13 p2 [.int .i64 ((pre++[z]).length:Int)] 3:=by
     rw [e13,List.length_append,List.length_singleton,← hw];exact g1.set0
    exact ⟨X13.kept (fun b hb e=>g5 b (.inl e) hb),B13,by rw [hsn,List.length_append,List.length_singleton];omega,g3.ext X13 (fun b hb e=>dP2.1 (e▸hb)),g4.ext X13 (fun b hb e=>dP2.2 (e▸hb)),g5,g6.trans' X13 (fun i hi e=>by omega)⟩
  ·rintro H1 w14 hs14 _ _ hI
   have hI:Box w14 p2 [.int .i64 (inRow 0 xs:Int)] 3∧zV w14 q L FP∧Rws w14 3 1 pl (tmr (ps.map Int.ofNat))∧(∀b,(b=p2.block∨FP b∨pl.blk b)→¬ H1 b)∧Pure w0 w14:=by
    rcases hI with ⟨g1,g2,g3,g4,g5,g6⟩ | ⟨_,g1,g3,g4,g5,g6⟩
    ·exact ⟨by rw [g2];exact g1,g3,g4,g5,g6⟩
    ·exact ⟨g1,g3,g4,g5,g6⟩
   obtain ⟨g1,g3,g4,g5,g6⟩:=hI
   refine ⟨_,g1.cell0,fun hc=>?_,fun hc=>?_⟩
   ·have hc:=uC hpl hc
    rw [dif_pos hc] at hgo
    intro w15 hs15
    have hv15:∀b,(b=p2.block∨FP b∨pl.blk b)→¬ H1 b:=g5
    have g1':=g1.ext hs15.ext (hv15 _ (.inl rfl))
    have g4':=g4.ext hs15.ext (fun b hb=>hv15 b (.inr (.inr hb)))
    obtain ⟨a1,hat,_,hv5⟩:=tU g4'.lst (j:=inRow 0 xs) (by simpa using hc)
    refine ⟨_,g1'.cell0,a1,hat,_,hv5,fun w16 hs16=>?_⟩
    have:=bad _ _ w16 hgo.symm ((g6.hst hs15).hst hs16)
    rw [List.getElem_map]
    exact this
   ·have hc:¬ inRow 0 xs<ps.length:=by have:=of_decide_eq_false hc;omega
    rw [dif_neg hc] at hgo
    intro w17 hs17
    have hF17:zV w17 q L FP:=g3.ext hs17.ext (fun b hb=>g5 b (.inr (.inl hb)))
    rw [← hgo]
    exact ⟨rfl,rfl,⟨fun q' hq'=>by rw [← hgo] at hq';cases hq';exact ⟨q,FP,rfl,hF17,hRe.oP⟩,fun hn=>by rw [← hgo] at hn;cases hn⟩,g6.hst hs17⟩
theorem jSN.pool {w0 w':World} {bs:List UInt8} {x:Option Addr} (h:jSN w0 w' bs x) {q:Sp.Pool} (hq:(vT bs).1=some q):∃p F,x=some p∧zV w' p q F∧∀b,F b→w0.heap.size≤b:=h.1 q hq
end Go.Proofs
end
section
open Go Go.SE
namespace Go.Sp
open Go.Proofs
theorem jGP (Lq:Pool):∀(l1 l2:List Int) (L:Pool) (own:Int→Int),vN Lq (l1++l2) L own=if (vN Lq l1 L own).2.1≠0 then vN Lq l1 L own else vN Lq l2 (vN Lq l1 L own).1 (vN Lq l1 L own).2.2:=by
 intro l1;induction l1 with
 | nil=>intro l2 L own;rw [List.nil_append];exact (if_neg (fun h=>h rfl)).symm
 | cons z l1 ih =>
  intro l2 L own
  obtain ⟨x,e,L',hm⟩:∃x e L',make L { nodeOf Lq z with a:=own (nodeOf Lq z).a,b:=own (nodeOf Lq z).b }=(x,e,L'):=⟨_,_,_,rfl⟩
  rw [List.cons_append,yH Lq z (l1++l2) L own rfl hm,yH Lq z l1 L own rfl hm]
  by_cases he:e≠0
  ·rw [if_pos he,if_pos he,if_pos he]
  ·rw [if_neg he,if_neg he,ih]
theorem jDM (Lq:Pool):∀(l:List Int) (L:Pool) (own:Int→Int),∃M,(vN Lq l L own).1=L++M:=by
 intro l;induction l with
 | nil=>intro L own;exact ⟨[],(List.append_nil L).symm⟩
 | cons z l ih =>
  intro L own
  obtain ⟨x,e,L',hm⟩:∃x e L',make L { nodeOf Lq z with a:=own (nodeOf Lq z).a,b:=own (nodeOf Lq z).b }=(x,e,L'):=⟨_,_,_,rfl⟩
  rw [yH Lq z l L own rfl hm]
  split
  ·exact ⟨[],by simp⟩
  ·obtain ⟨M1,e1⟩:=uZ L { nodeOf Lq z with a:=own (nodeOf Lq z).a,b:=own (nodeOf Lq z).b }
   rw [hm] at e1
   obtain ⟨M2,e2⟩:=ih L' (fun y=>if y=z then x else own y)
   simp only at e1
   exact ⟨M1++M2,by rw [e2,e1,List.append_assoc]⟩
theorem jRV {Lq:Pool}:∀(l:List Int) (L:Pool) (own:Int→Int),Wf L→Wf (vN Lq l L own).1:=by
 intro l;induction l with
 | nil=>intro L own h;exact h
 | cons z l ih =>
  intro L own h
  obtain ⟨x,e,L',hm⟩:∃x e L',make L { nodeOf Lq z with a:=own (nodeOf Lq z).a,b:=own (nodeOf Lq z).b }=(x,e,L'):=⟨_,_,_,rfl⟩
  have hw:=xP h { nodeOf Lq z with a:=own (nodeOf Lq z).a,b:=own (nodeOf Lq z).b }
  rw [yH Lq z l L own rfl hm]
  rw [hm] at hw
  split
  ·exact h
  ·exact ih _ _ hw
theorem jLU {Lq:Pool} {l post:List Int} {z:Int} {L:Pool} {own:Int→Int} (h0:(vN Lq l L own).2.1=0) {n:Node} (hn:{ nodeOf Lq z with a:=(vN Lq l L own).2.2 (nodeOf Lq z).a,b:=(vN Lq l L own).2.2 (nodeOf Lq z).b }=n) (he:(make (vN Lq l L own).1 n).2.1≠0) :
  (vN Lq (l++z :: post) L own).2.1=(make (vN Lq l L own).1 n).2.1:=by
 obtain ⟨x,e,L',hm⟩:∃x e L',make (vN Lq l L own).1 n=(x,e,L'):=⟨_,_,_,rfl⟩
 rw [hm] at he ⊢
 rw [jGP,if_neg (by rw [h0];exact fun h=>h rfl),yH Lq z post _ _ hn hm,if_pos he]
theorem jLT {Lq:Pool} {l:List Int} {z:Int} {L:Pool} {own:Int→Int} (h0:(vN Lq l L own).2.1=0) {n:Node} (hn:{ nodeOf Lq z with a:=(vN Lq l L own).2.2 (nodeOf Lq z).a,b:=(vN Lq l L own).2.2 (nodeOf Lq z).b }=n) (he:(make (vN Lq l L own).1 n).2.1=0) :
  vN Lq (l++[z]) L own=((make (vN Lq l L own).1 n).2.2,0,fun x=>if x=z then (make (vN Lq l L own).1 n).1 else (vN Lq l L own).2.2 x):=by
 obtain ⟨x,e,L',hm⟩:∃x e L',make (vN Lq l L own).1 n=(x,e,L'):=⟨_,_,_,rfl⟩
 rw [hm] at he ⊢
 rw [jGP,if_neg (by rw [h0];exact fun h=>h rfl),yH Lq z [] _ _ hn hm,if_neg (fun h=>h he)]
 rfl
end Go.Sp
namespace Go.Proofs
open Tryz
attribute [local irreducible] Calls CallsD
theorem jNH {w:World} {a:Addr} {k:Nat} {v:Value}:Ext (·=a.block) w (w.setCell (a.add k) v):=(Ext.setCell _ _).mono (fun i _ e=>by rw [zX] at e;exact e)
def ownM (M:List (Int×Int)) (x:Int):Int:=(SE.look M x).getD 0
def CoV (p2 p3 p4 p5 p6 p8:Addr) (mb:Nat) (F' FQ:NP) (b:Nat):Prop:=b=p2.block∨b=p3.block∨b=p4.block∨b=p5.block∨b=p6.block∨b=p8.block∨b=mb∨F' b∨FQ b
structure CoB (A:World) (p q p2 p3 p4 p5 p6 p8:Addr) (mb n:Nat):Prop where
 b2:Box A p2 [.pointer (some p)] 91
 b3:Box A p3 [.pointer (some q)] 91
 b4:Box A p4 [.int .i64 0] 78
 b5:Box A p5 [.int .i64 0] 33
 b6:Box A p6 [.int .i64 (n:Int)] 3
 b8:Box A p8 [.map (some mb)] 207
theorem CoB.ext {A A':World} {p q p2 p3 p4 p5 p6 p8:Addr} {mb n:Nat} {F' FQ G:NP} (h:CoB A p q p2 p3 p4 p5 p6 p8 mb n) (E:Ext G A A') (hG:∀b,(b=p2.block∨b=p3.block∨b=p4.block∨b=p5.block∨b=p6.block∨b=p8.block)→¬ G b):CoB A' p q p2 p3 p4 p5 p6 p8 mb n :=
 ⟨h.b2.ext E (hG _ (.inl rfl)),h.b3.ext E (hG _ (.inr (.inl rfl))),h.b4.ext E (hG _ (.inr (.inr (.inl rfl)))),h.b5.ext E (hG _ (.inr (.inr (.inr (.inl rfl))))),h.b6.ext E (hG _ (.inr (.inr (.inr (.inr (.inl rfl)))))),h.b8.ext E (hG _ (.inr (.inr (.inr (.inr (.inr rfl))))))⟩
theorem CoB.pure {A A':World} {p q p2 p3 p4 p5 p6 p8:Addr} {mb n:Nat} (h:CoB A p q p2 p3 p4 p5 p6 p8 mb n) (E:Pure A A'):CoB A' p q p2 p3 p4 p5 p6 p8 mb n:=h.ext (F':=None) (FQ:=None) E (fun _ _ h=>h)
theorem CoB.lt {A:World} {p q p2 p3 p4 p5 p6 p8:Addr} {mb n b:Nat} (h:CoB A p q p2 p3 p4 p5 p6 p8 mb n) (hb:b=p2.block∨b=p3.block∨b=p4.block∨b=p5.block∨b=p6.block∨b=p8.block):b<A.heap.size:=by
 rcases hb with rfl | rfl | rfl | rfl | rfl | rfl
 ·exact h.b2.lt
 ·exact h.b3.lt
 ·exact h.b4.lt
 ·exact h.b5.lt
 ·exact h.b6.lt
 ·exact h.b8.lt
theorem c_Copy (p q:Addr) (t:Int) (w0:World) {L Lq:Sp.Pool} {FP FQ:NP} (hW:Sp.Wf L) (hQ:Sp.Wf Lq) (hP:zV w0 p L FP) (hPQ:zV w0 q Lq FQ) (hd:∀b,FP b→¬ FQ b) :
  Calls prog 75 #[.pointer (some p),.pointer (some q),.int .i64 t] w0 (fun e w'=>∃r1 r2:Int,e=.returned (.tuple #[.int .i64 r1,.int .i64 r2])∧(r1=(yA L Lq t).1∧r2=(yA L Lq t).2.1∧∃F',zV w' p (yA L Lq t).2.2 F'∧Ext FP w0 w'∧∀b,F' b→FP b∨w0.heap.size≤b)):=by
 refine w_H4 _ _ _ w0 (fun r1 r2 w'=>r1=(yA L Lq t).1∧r2=(yA L Lq t).2.1∧∃F',zV w' p (yA L Lq t).2.2 F'∧Ext FP w0 w'∧∀b,F' b→FP b∨w0.heap.size≤b) ?_
 unfold m_H4
 intro p2 w1 n2 p3 w2 n3 p4 w3 n4 p5 w4 n5
 have E1:Pure w0 w1:=Ext.new n2
 have E2:Pure w1 w2:=Ext.new n3
 have E3:Pure w2 w3:=Ext.new n4
 have E4:Pure w3 w4:=Ext.new n5
 have B2:=(((Box.of_newA n2).pure E2).pure E3).pure E4
 have B3:=((Box.of_newA n3).pure E3).pure E4
 have B4:=(Box.of_newA n4).pure E4
 have B5:=Box.of_newA n5
 have b2:=n2.at_size;have b3:=n3.at_size;have b4:=n4.at_size;have b5:=n5.at_size
 have z1:=E1.size;have z2:=E2.size;have z3:=E3.size;have z4:=E4.size
 have l1:=(Box.of_newA n2).lt;have l2:=(Box.of_newA n3).lt;have l3:=(Box.of_newA n4).lt;have l4:=B5.lt
 have E04:Pure w0 w4:=((E1.trans E2).trans E3).trans E4
 refine ⟨some p,B2.cell0,fun hc=>(by cases hc),fun _=>⟨some q,B3.cell0,?_⟩⟩
 refine (c_in q t w4 (hPQ.pure E04)).mono ?_
 rintro _ _ ⟨_,rfl,rfl,rfl⟩
 refine ⟨_,rfl,Kept.refl _,fun hc=>?_,fun hc=>?_⟩
 ·have hin:Sp.inP Lq t=false:=by simpa using hc
  have e:yA L Lq t=(0,51,L):=by unfold yA;rw [if_neg (by rw [hin];simp)]
  rw [e]
  refine ⟨B4.canW0 (by simp),id,?_⟩
  rintro w8 e8
  have X8:Ext (·=p4.block) w4 w8:=by rw [e8];exact Ext.setCell _ _
  have B48:Box w8 p4 [.int .i64 0] 78:=by rw [e8];exact B4.set0
  have B58:=B5.ext X8 (by omega)
  refine ⟨B58.canW0 (by simp),id,?_⟩
  rintro w9 e9
  have X9:Ext (·=p5.block) w8 w9:=by rw [e9];exact Ext.setCell _ _
  have B59:Box w9 p5 [.int .i64 51] 33:=by rw [e9];exact B58.set0
  have B49:=B48.ext X9 (by omega)
  refine ⟨_,B49.cell0,_,B59.cell0,rfl,rfl,FP,((hP.pure E04).ext X8 (fun b hb e=>by have:=hP.lt hb;omega)).ext X9 (fun b hb e=>by have:=hP.lt hb;omega),Ext.pure ((E04.own (by omega) X8).own (by omega) X9),fun b hb=>.inl hb⟩
 have hin:Sp.inP Lq t=true:=by simpa using hc
 obtain ⟨sl,hsl,hsll⟩:∃v4:Sl,w4.cell? p=some v4.v∧v4.len=L.length:=by
  obtain ⟨s,m,h,_⟩:=hP.pure E04;exact ⟨s,h.box.cell0,by rw [h.rows.len,List.length_map]⟩
 refine ⟨some p,B2.cell0,p,rfl,sl,hsl,?_⟩
 rw [hsll]
 intro p6 w10 n6
 have E10:Pure w4 w10:=Ext.new n6
 have B6:=Box.of_newA n6
 have b6:=n6.at_size
 refine ⟨B6.canW0 (by simp),id,?_⟩
 rintro w11 e11
 have X11:Ext (·=p6.block) w10 w11:=by rw [e11];exact Ext.setCell _ _
 have B6':Box w11 p6 [.int .i64 (L.length:Int)] 3:=by rw [e11];exact B6.set0
 intro p7 w12 n7
 have E12:Pure w11 w12:=Ext.new n7
 have M7:=IMap.of_new (f:=fun i:Int=>.int .i64 i) n7
 have b7:=n7.at_size
 intro p8 w13 n8
 have E13:Pure w12 w13:=Ext.new n8
 have B8:=Box.of_newA n8
 have b8:=n8.at_size
 refine ⟨B8.canW0 (by simp),id,?_⟩
 rintro w14 e14
 have X14:Ext (·=p8.block) w13 w14:=by rw [e14];exact Ext.setCell _ _
 have B8':Box w14 p8 [.map (some p7.block)] 207:=by rw [e14];exact B8.set0
 have z10:=E10.size;have z11:=X11.size;have z12:=E12.size;have z13:=E13.size;have z14:=X14.size
 have l6:=B6'.lt;have l7:=M7.lt;have l8:=B8.lt
 have E07:Pure w0 w14:=((((E04.trans E10).own (by omega) X11).trans E12).trans E13).own (by omega) X14
 have up:∀{T:TypeId} {c:Addr} {vs:List Value},Box w4 c vs T→c.block≠p6.block→c.block≠p8.block→Box w14 c vs T:=fun h h1 h2=>((((h.pure E10).ext X11 h1).pure E12).pure E13).ext X14 h2
 have C14:CoB w14 p q p2 p3 p4 p5 p6 p8 p7.block L.length:=⟨up B2 (by omega) (by omega),up B3 (by omega) (by omega),up B4 (by omega) (by omega),up B5 (by omega) (by omega),((B6'.pure E12).pure E13).ext X14 (by omega),B8'⟩
 have M14:=(M7.pure E13).ext X14 (by omega)
 refine ⟨some q,C14.b3.cell0,?_⟩
 refine (jUQ q t w14).mono ?_
 rintro _ w15 ⟨_,rfl,q2,q3,rfl,Bq2,Bq3,E15⟩
 have E015:=E07.trans E15
 have z15:=E15.size
 refine ⟨_,rfl,E15.keptP,_,_,rfl,call186,_,_,jRJ hQ (hPQ.pure E015) Bq2 Bq3,?_⟩
 have hfew:=Sp.jBQ hQ t
 have hlq:=hQ.ok.few
 have hsub:∀u∈Sp.subs Lq t,Sp.inP Lq u=true:=fun u hu=>jCO hQ hu
 have hnd:=Sp.jCN hQ t
 generalize hcs:yA L Lq t=cs at *
 have hcs':cs=if (vN Lq (Sp.subs Lq t) L (fun _=>0)).2.1≠0 then (0,(vN Lq (Sp.subs Lq t) L (fun _=>0)).2.1,L) else ((vN Lq (Sp.subs Lq t) L (fun _=>0)).2.2 t,0,(vN Lq (Sp.subs Lq t) L (fun _=>0)).1):=by rw [← hcs];unfold yA;rw [if_pos hin]
 have htin:t∈Sp.subs Lq t:=jHE hQ hin
 generalize Sp.subs Lq t=xs at *
 have C15:=C14.pure E15
 have M15:=M14.pure E15
 have o2:w0.heap.size≤p2.block:=by omega
 have o3:w0.heap.size≤p3.block:=by omega
 have o4:w0.heap.size≤p4.block:=by omega
 have o5:w0.heap.size≤p5.block:=by omega
 have o6:w0.heap.size≤p6.block:=by omega
 have o8:w0.heap.size≤p8.block:=by omega
 have om:w0.heap.size≤p7.block:=by omega
 have d45:p4.block≠p5.block:=by omega
 have dm:∀b,(b=p2.block∨b=p3.block∨b=p4.block∨b=p5.block∨b=p6.block∨b=p8.block)→b≠p7.block:=fun b hb=>by rcases hb with rfl | rfl | rfl | rfl | rfl | rfl <;> omega
 have ob:∀b,(b=p2.block∨b=p3.block∨b=p4.block∨b=p5.block∨b=p6.block∨b=p8.block∨b=p7.block)→w0.heap.size≤b∧b<w15.heap.size:=fun b hb=>by rcases hb with rfl | rfl | rfl | rfl | rfl | rfl | rfl <;> omega
 generalize p7.block=mb at *
 clear up B2 B3 B4 B5 B6 B6' B8 B8' M7 M14 C14 n2 n3 n4 n5 n6 n7 n8 X11 X14 E10 E12 E13 e11 e14 Bq2 Bq3 hsl
 have hPq:∀b,FQ b→b<w0.heap.size:=fun b hb=>hPQ.lt hb
 refine ⟨fun pre Y A=>∃(F':NP) (M:List (Int×Int)),(vN Lq pre L (fun _=>0)).2.1=0∧zV A p (vN Lq pre L (fun _=>0)).1 F'∧IMap (fun i:Int=>.int .i64 i) A mb M∧M.map Prod.fst=pre∧(∀x,(vN Lq pre L (fun _=>0)).2.2 x=ownM M x)∧CoB A p q p2 p3 p4 p5 p6 p8 mb L.length∧zV A q Lq FQ∧(∀b,F' b→FP b∨(w0.heap.size≤b∧¬ (b=p2.block∨b=p3.block∨b=p4.block∨b=p5.block∨b=p6.block∨b=p8.block∨b=mb)))∧(∀b,CoV p2 p3 p4 p5 p6 p8 mb F' FQ b→¬ Y b)∧Ext FP w0 A∧w15.heap.size≤A.heap.size,
  fun pre Y A=>∃(F':NP) (e:Int),cs=(0,e,L)∧zV A p L F'∧Box A p4 [.int .i64 0] 78∧Box A p5 [.int .i64 e] 33∧(∀b,F' b→FP b∨w0.heap.size≤b)∧(∀b,(b=p4.block∨b=p5.block∨F' b)→¬ Y b)∧Ext FP w0 A,⟨fun _ _ _ _=>trivial,?_,fun _ _ _ _ _ h=>h.elim,?_⟩,?_,?_,?_,?_⟩
 ·rintro pre Y A Y' A' ⟨F',M,g1,g2,g3,g4,g5,g6,g7,g8,g9,g10,g11⟩ hst
  have hv:∀b,CoV p2 p3 p4 p5 p6 p8 mb F' FQ b→¬ Y' b:=hst.disj (fun b hb=>⟨by
   rcases hb with hb | hb | hb | hb | hb | hb | hb | hb | hb
   ·exact g6.lt (.inl hb)
   ·exact g6.lt (.inr (.inl hb))
   ·exact g6.lt (.inr (.inr (.inl hb)))
   ·exact g6.lt (.inr (.inr (.inr (.inl hb))))
   ·exact g6.lt (.inr (.inr (.inr (.inr (.inl hb)))))
   ·exact g6.lt (.inr (.inr (.inr (.inr (.inr hb)))))
   ·exact hb▸g3.lt
   ·exact g2.lt hb
   ·exact g7.lt hb,g9 b hb⟩)
  exact ⟨F',M,g1,g2.ext hst.ext (fun b hb=>hv b (.inr (.inr (.inr (.inr (.inr (.inr (.inr (.inl hb))))))))),g3.ext hst.ext (hv _ (.inr (.inr (.inr (.inr (.inr (.inr (.inl rfl)))))))),g4,g5,g6.ext (F':=F') (FQ:=FQ) hst.ext (fun b hb=>hv b (by rcases hb with h | h | h | h | h | h <;> simp only [CoV,h,true_or,or_true])),g7.ext hst.ext (fun b hb=>hv b (.inr (.inr (.inr (.inr (.inr (.inr (.inr (.inr hb))))))))),g8,hv,g10.hst hst,Nat.le_trans g11 hst.ext.size⟩
 ·rintro pre Y A Y' A' ⟨F',e,g1,g2,g3,g4,g5,g6,g7⟩ hst
  have hv:∀b,(b=p4.block∨b=p5.block∨F' b)→¬ Y' b:=hst.disj (fun b hb=>⟨by
   rcases hb with hb | hb | hb
   ·exact hb▸g3.lt
   ·exact hb▸g4.lt
   ·exact g2.lt hb,g6 b hb⟩)
  exact ⟨F',e,g1,g2.ext hst.ext (fun b hb=>hv b (.inr (.inr hb))),g3.ext hst.ext (hv _ (.inl rfl)),g4.ext hst.ext (hv _ (.inr (.inl rfl))),g5,hv,g7.hst hst⟩
 ·exact ⟨FP,[],rfl,hP.pure E015,M15,rfl,fun _=>rfl,C15,hPQ.pure E015,fun b hb=>.inl hb,fun _ _ h=>h,Ext.pure E015,Nat.le_refl _⟩
 ·rintro pre z Y A ⟨F',M,g1,g2,g3,g4,g5,g6,g7,g8,g9,g10,g11⟩ hsA ⟨post,hpost⟩
  have hzin:Sp.inP Lq z=true:=hsub z (by rw [hpost];simp)
  have hzn:z ∉ pre:=by
   rw [hpost] at hnd;have:=(List.nodup_append.1 hnd).2.2;exact fun h=>this z h z (by simp) rfl
  generalize hcg:vN Lq pre L (fun _=>0)=cg at *
  have hok:Sp.Ok cg.1:=by rw [← hcg];exact (Sp.jRV pre L _ hW).ok
  have hA0:=hsA.lt
  refine ⟨some q,g6.b3.cell0,?_⟩
  refine (jGS q z A g7 hQ.ok).mono ?_
  rintro _ w16 ⟨k,f,t',u,x,a,b,r3,rfl,⟨hn,_⟩,E16⟩
  have z16:=E16.size
  refine ⟨_,_,_,_,_,_,_,_,rfl,E16.kept (fun b hb=>hb.elim),?_⟩
  intro p9 w17 n9
  have E17:Pure w16 w17:=Ext.new n9
  have B9:=Box.of_newA n9
  have b9:=n9.at_size
  have z17:=E17.size
  refine ⟨B9.canWs (by simp),id,?_⟩
  rintro w18 e18
  have X18:Ext (·=p9.block) w17 w18:=by rw [e18];exact Ext.storeRow _ _ _
  have B18:Box w18 p9 (uU ⟨k,f,t',u,x,a,b⟩) 127:=by rw [e18];exact B9.store rfl
  have z18:=X18.size
  have l9:=B18.lt
  have keep:∀{G:NP} {w':World},Ext G A w'→(∀b,b<A.heap.size→¬ G b)→IMap (fun i:Int=>.int .i64 i) w' mb M∧CoB w' p q p2 p3 p4 p5 p6 p8 mb L.length∧zV w' q Lq FQ∧zV w' p cg.1 F':=fun {G w'} E hG =>
   ⟨g3.ext E (hG _ g3.lt),g6.ext (F':=F') (FQ:=FQ) E (fun b hb=>hG b (g6.lt hb)),g7.ext E (fun b hb=>hG b (g7.lt hb)),g2.ext E (fun b hb=>hG b (g2.lt hb))⟩
  have E18:Ext (·=p9.block) A w18:=(Ext.pure (E16.trans E17)).trans X18
  have hg9:∀b,b<A.heap.size→¬ (b=p9.block):=fun b hb e=>by omega
  have look:∀{w':World},IMap (fun i:Int=>.int .i64 i) w' mb M→∀y,(Instr.lookup 207 (.map (some mb)) (.int .i64 y) false).run prog w'=.ok (.int .i64 (cg.2.2 y)) w':=fun {w'} h y=>by
   rw [g5 y];rcases h.get (P:=prog) (T:=207) underlying207 underlying78 (zeroValue78 _) y false with ⟨hn,hr⟩ | ⟨v,hv,hr⟩
   ·unfold ownM;rw [hn];exact hr
   ·unfold ownM;rw [hv];exact hr
  refine ⟨fun w'=>w'.cell? p8=some (.map (some mb))∧IMap (fun i:Int=>.int .i64 i) w' mb M,?_,?_⟩
  ·obtain ⟨k1,k2,_,_⟩:=keep (E18.thenPure (Ext.drew w18)) hg9
   exact ⟨k2.b8.cell0,k1⟩
  rintro w19 e19
  have E19:Ext (·=p9.block) A w19:=by rw [e19];exact E18.thenPure (Ext.drew w18)
  have B19:Box w19 p9 (uU ⟨k,f,t',u,x,a,b⟩) 127:=by rw [e19];exact B18.pure (Ext.drew w18)
  obtain ⟨k1,k2,k3,k4⟩:=keep E19 hg9
  refine ⟨some mb,k2.b8.cell0,a,B19.cell (i:=5) rfl,_,look k1 a,some mb,fun w' h=>h.1,b,B19.cell (i:=6) rfl,_,fun w' h=>look h.2 b,B19.canW (i:=5) (by simp [uU]),id,?_⟩
  rintro w20 e20
  have X20:Ext (·=p9.block) w19 w20:=by rw [e20];exact jNH
  have B20:Box w20 p9 (uU ⟨k,f,t',u,x,cg.2.2 a,b⟩) 127:=by rw [e20];exact B19.set 5 _
  have E20:=E19.trans X20
  obtain ⟨k1',k2',_,_⟩:=keep E20 hg9
  refine ⟨⟨k2'.b8.cell0,k1'⟩,B20.canW (i:=6) (by simp [uU]),id,?_⟩
  rintro w21 e21
  have X21:Ext (·=p9.block) w20 w21:=by rw [e21];exact jNH
  have B21:Box w21 p9 (uU ⟨k,f,t',u,x,cg.2.2 a,cg.2.2 b⟩) 127:=by rw [e21];exact B20.set 6 _
  have E21:=E20.trans X21
  obtain ⟨m1,m2,m3,m4⟩:=keep E21 hg9
  have z21:=E21.size
  refine ⟨some p,m2.b2.cell0,k,f,t',u,x,cg.2.2 a,cg.2.2 b,B21.row,?_⟩
  have hnn:({ Sp.nodeOf Lq z with a:=cg.2.2 (Sp.nodeOf Lq z).a,b:=cg.2.2 (Sp.nodeOf Lq z).b }:Sp.Node)=⟨k,f,t',u,x,cg.2.2 a,cg.2.2 b⟩:=by rw [← hn]
  refine (jNN p k f t' u x (cg.2.2 a) (cg.2.2 b) w21 m4 hok).mono ?_
  rintro _ w22 ⟨r4,r5,rfl,he,F2,hP2,E22,hF2⟩
  have he1:=congrArg Prod.fst he
  have he2:=congrArg Prod.snd he
  simp only at he1 he2
  have z22:=E22.size
  have hF'o:∀b,F' b→¬ (b=p2.block∨b=p3.block∨b=p4.block∨b=p5.block∨b=p6.block∨b=p8.block∨b=mb):=fun b hb hh=>(g8 b hb).elim (fun h=>by have:=hP.lt h;have:=(ob b hh).1;omega) (fun h=>h.2 hh)
  have n22:CoB w22 p q p2 p3 p4 p5 p6 p8 mb L.length:=m2.ext (F':=F') (FQ:=FQ) E22 (fun b hb hh=>hF'o b hh (by rcases hb with h | h | h | h | h | h <;> simp only [h,true_or,or_true]))
  have M22:=m1.ext E22 (fun hh=>hF'o _ hh (by simp))
  have Q22:=m3.ext E22 (fun b hb hh=>(g8 b hh).elim (fun h=>hd b h hb) (fun h=>by have:=hPq b hb;omega))
  have kY:Kept Y A w22:=(E21.kept (fun b hb e=>by have:=hA0 b hb;omega)).trans (E22.kept (fun b hb hh=>g9 b (.inr (.inr (.inr (.inr (.inr (.inr (.inr (.inl hh)))))))) hb))
  have E022:Ext FP w0 w22:=(g10.trans' E21 (fun i hi e=>by have:=g10.size;omega)).trans' E22 (fun i hi hh=>(g8 i hh).elim id (fun h=>by omega))
  have hF2o:∀b,F2 b→FP b∨(w0.heap.size≤b∧¬ (b=p2.block∨b=p3.block∨b=p4.block∨b=p5.block∨b=p6.block∨b=p8.block∨b=mb)):=fun b hb=>(hF2 b hb).elim (g8 b) (fun h=>.inr ⟨by have:=g10.size;omega,fun hh=>by have:=(ob b hh).2;omega⟩)
  have hF2Y:∀b,F2 b→¬ Y b:=fun b hb hY=>(hF2 b hb).elim (fun h=>g9 b (.inr (.inr (.inr (.inr (.inr (.inr (.inr (.inl h)))))))) hY) (fun h=>by have:=hA0 b hY;omega)
  refine ⟨r4,r5,rfl,E22.kept (fun b hb=>hb.elim),fun hc=>?_,fun hc=>?_⟩
  ·have h5:(Sp.make cg.1 ⟨k,f,t',u,x,cg.2.2 a,cg.2.2 b⟩).2.1≠0:=by rw [← he2];exact bne_iff_ne.1 hc
   have hfail:=@Sp.jLU Lq pre post z L (fun _=>0) (by rw [hcg];exact g1) ⟨k,f,t',u,x,cg.2.2 a,cg.2.2 b⟩ (by rw [hcg];exact hnn) (by rw [hcg];exact h5)
   rw [← hpost,hcg,← he2] at hfail
   have hcs2:cs=(0,r5,L):=by rw [hcs',hfail,if_pos (by rw [he2];exact h5)]
   refine ⟨some p,n22.b2.cell0,_,n22.b6.cell0,?_⟩
   obtain ⟨Mg,hMg⟩:=Sp.jDM Lq pre L (fun _=>0)
   rw [hcg] at hMg
   have hmk:∃M2,(Sp.make cg.1 ⟨k,f,t',u,x,cg.2.2 a,cg.2.2 b⟩).2.2=cg.1++M2:=Sp.uZ _ _
   obtain ⟨M2,hM2⟩:=hmk
   rw [hM2,hMg,List.append_assoc] at hP2
   have hok2:Sp.Ok (L++(Mg++M2)):=by rw [← List.append_assoc,← hMg,← hM2];exact Sp.jLM hok _
   refine (c_cut p L.length w22 hP2 hok2 (by rw [List.length_append];omega)).mono ?_
   rintro _ w23 ⟨rfl,hP3,E23⟩
   rw [List.take_left] at hP3
   have n23:CoB w23 p q p2 p3 p4 p5 p6 p8 mb L.length:=n22.ext (F':=F') (FQ:=FQ) E23 (fun b hb hh=>(hF2o b hh).elim (fun h=>by have:=hP.lt h;have:=(ob b (by rcases hb with h | h | h | h | h | h <;> simp only [h,true_or,or_true])).1;omega) (fun h=>h.2 (by rcases hb with h | h | h | h | h | h <;> simp only [h,true_or,or_true])))
   refine ⟨rfl,E23.kept (fun b hb=>hb.elim),n23.b4.canW0 (by simp),id,?_⟩
   rintro w24 e24
   have X24:Ext (·=p4.block) w23 w24:=by rw [e24];exact Ext.setCell _ _
   have B24:Box w24 p4 [.int .i64 0] 78:=by rw [e24];exact n23.b4.set0
   have B25:=n23.b5.ext X24 (fun e=>d45 e.symm)
   refine ⟨B25.canW0 (by simp),id,?_⟩
   rintro w25 e25
   have X25:Ext (·=p5.block) w24 w25:=by rw [e25];exact Ext.setCell _ _
   have B25':Box w25 p5 [.int .i64 r5] 33:=by rw [e25];exact B25.set0
   have nF:∀b,F2 b→b≠p4.block∧b≠p5.block:=fun b hb=>(hF2o b hb).elim (fun h=>by have:=hP.lt h;omega) (fun h=>⟨fun e=>h.2 (.inr (.inr (.inl e))),fun e=>h.2 (.inr (.inr (.inr (.inl e))))⟩)
   have nY4:¬ Y p4.block:=g9 _ (.inr (.inr (.inl rfl)))
   have nY5:¬ Y p5.block:=g9 _ (.inr (.inr (.inr (.inl rfl))))
   refine ⟨((kY.trans (E23.kept (fun b hb hh=>hF2Y b hh hb))).trans (X24.kept (fun b hb e=>nY4 (e▸hb)))).trans (X25.kept (fun b hb e=>nY5 (e▸hb))),F2,r5,hcs2,(hP3.ext X24 (fun b hb e=>(nF b hb).1 e)).ext X25 (fun b hb e=>(nF b hb).2 e),B24.ext X25 d45,B25',fun b hb=>(hF2o b hb).imp id (fun h=>h.1),?_,((E022.trans' E23 (fun i hi hh=>(hF2o i hh).elim id (fun h=>by omega))).trans' X24 (fun i hi e=>by omega)).trans' X25 (fun i hi e=>by omega)⟩
   rintro b (rfl | rfl | hb)
   ·exact nY4
   ·exact nY5
   ·exact hF2Y b hb
  ·have h5:(Sp.make cg.1 ⟨k,f,t',u,x,cg.2.2 a,cg.2.2 b⟩).2.1=0:=by rw [← he2];simpa using hc
   have hnext:=@Sp.jLT Lq pre z L (fun _=>0) (by rw [hcg];exact g1) ⟨k,f,t',u,x,cg.2.2 a,cg.2.2 b⟩ (by rw [hcg];exact hnn) (by rw [hcg];exact h5)
   rw [hcg,← he1] at hnext
   have hlk:SE.look M z=none:=uD.2 (by rw [g4];exact hzn)
   obtain ⟨w26,hr26,hM26,X26⟩:=M22.put (P:=prog) (T:=207) underlying207 underlying78 hlk r4
   have nm:∀b,F2 b→b≠mb:=fun b hb=>(hF2o b hb).elim (fun h=>by have:=hP.lt h;have:=(ob mb (by simp)).1;omega) (fun h e=>h.2 (by simp [e]))
   have nYm:¬ Y mb:=g9 _ (.inr (.inr (.inr (.inr (.inr (.inr (.inl rfl)))))))
   have hmbo:=(ob mb (by simp)).1
   refine ⟨some mb,n22.b8.cell0,w26,hr26,X26.kept (fun b hb=>hb.elim),kY.trans (X26.kept (fun b hb e=>nYm (e▸hb))),F2,M++[(z,r4)],by rw [hnext],by rw [hnext];exact hP2.ext X26 (fun b hb e=>nm b hb e),hM26,by simp [g4],?_,n22.ext (F':=F') (FQ:=FQ) X26 (fun b hb e=>dm b hb e),Q22.ext X26 (fun b hb e=>by have:=hPq b hb;omega),hF2o,?_,E022.trans' X26 (fun i hi e=>by omega),by have:=X26.size;omega⟩
   ·intro y
    rw [hnext]
    simp only
    unfold ownM
    rw [jJH (by rw [g4];exact hzn)]
    by_cases e:y=z
    ·rw [if_pos e,if_pos e.symm];rfl
    ·rw [if_neg e,if_neg (fun h=>e h.symm)];exact g5 y
   ·rintro b (hb | hb | hb | hb | hb | hb | hb | hb | hb)
    ·exact g9 b (.inl hb)
    ·exact g9 b (.inr (.inl hb))
    ·exact g9 b (.inr (.inr (.inl hb)))
    ·exact g9 b (.inr (.inr (.inr (.inl hb))))
    ·exact g9 b (.inr (.inr (.inr (.inr (.inl hb)))))
    ·exact g9 b (.inr (.inr (.inr (.inr (.inr (.inl hb))))))
    ·exact g9 b (.inr (.inr (.inr (.inr (.inr (.inr (.inl hb)))))))
    ·exact hF2Y b hb
    ·exact g9 b (.inr (.inr (.inr (.inr (.inr (.inr (.inr (.inr hb))))))))
 ·rintro H1 w27 hs27 _ _ ⟨F',M,g1,g2,g3,g4,g5,g6,g7,g8,g9,g10,g11⟩
  have hcs2:cs=((vN Lq xs L (fun _=>0)).2.2 t,0,(vN Lq xs L (fun _=>0)).1):=by rw [hcs',if_neg (by simpa using g1)]
  have hlk:(Instr.lookup 207 (.map (some mb)) (.int .i64 t) false).run prog w27=.ok (.int .i64 ((vN Lq xs L (fun _=>0)).2.2 t)) w27:=by
   rw [g5 t];rcases g3.get (P:=prog) (T:=207) underlying207 underlying78 (zeroValue78 _) t false with ⟨hn,hr⟩ | ⟨v,hv,hr⟩
   ·unfold ownM;rw [hn];exact hr
   ·unfold ownM;rw [hv];exact hr
  generalize hcg:vN Lq xs L (fun _=>0)=cg at *
  have nY4:¬ H1 p4.block:=g9 _ (.inr (.inr (.inl rfl)))
  have nY5:¬ H1 p5.block:=g9 _ (.inr (.inr (.inr (.inl rfl))))
  refine ⟨some mb,g6.b8.cell0,_,hlk,g6.b4.canW0 (by simp),nY4,?_⟩
  rintro w28 e28
  have X28:Ext (·=p4.block) w27 w28:=by rw [e28];exact Ext.setCell _ _
  have B28:Box w28 p4 [.int .i64 (cg.2.2 t)] 78:=by rw [e28];exact g6.b4.set0
  have B28':=g6.b5.ext X28 (fun e=>d45 e.symm)
  refine ⟨B28'.canW0 (by simp),nY5,?_⟩
  rintro w29 e29
  have X29:Ext (·=p5.block) w28 w29:=by rw [e29];exact Ext.setCell _ _
  have B29:Box w29 p5 [.int .i64 0] 33:=by rw [e29];exact B28'.set0
  have B29':=B28.ext X29 d45
  intro w30 hs30
  have nF:∀b,F' b→b≠p4.block∧b≠p5.block:=fun b hb=>(g8 b hb).elim (fun h=>by have:=hP.lt h;omega) (fun h=>⟨fun e=>h.2 (.inr (.inr (.inl e))),fun e=>h.2 (.inr (.inr (.inr (.inl e))))⟩)
  refine ⟨_,(B29'.ext hs30.ext nY4).cell0,_,(B29.ext hs30.ext nY5).cell0,?_⟩
  rw [hcs2]
  refine ⟨rfl,rfl,F',((g2.ext X28 (fun b hb e=>(nF b hb).1 e)).ext X29 (fun b hb e=>(nF b hb).2 e)).ext hs30.ext (fun b hb=>g9 b (.inr (.inr (.inr (.inr (.inr (.inr (.inr (.inl hb))))))))),((g10.trans' X28 (fun i hi e=>by omega)).trans' X29 (fun i hi e=>by omega)).hst hs30,fun b hb=>(g8 b hb).imp id (fun h=>h.1)⟩
 ·rintro pre H2 w32 hs32 ⟨F',e,g1,g2,g3,g4,g5,g6,g7⟩
  refine ⟨_,g3.cell0,_,g4.cell0,?_⟩
  rw [g1]
  exact ⟨rfl,rfl,F',g2,g7,g5⟩
end Go.Proofs
end
section
open Go Go.SE
namespace Go.Proofs
open Tryz
attribute [local irreducible] Calls CallsD
theorem jUH {S0:NP} (p:Addr) (sb:Sl) (bs:List UInt8) (w0:World) {L:Sp.Pool} {FP:NP} (hW:Sp.Wf L) (hP:zV w0 p L FP) (hs:Lst S0 w0 1 sb (byr bs)) (hz:sb.a=none→sb=Sl.nil) :
  Calls prog 46 #[.pointer (some p),sb.v] w0 (fun e w'=>∃t x y:Int,e=.returned (.tuple #[.int .i64 t,.int .i64 x,.int .i64 y])∧(t=(lM L bs).1∧x=(lM L bs).2.1∧y=((lM L bs).2.2.1:Int)∧∃F',zV w' p (lM L bs).2.2.2 F'∧Ext FP w0 w'∧∀b,F' b→FP b∨w0.heap.size≤b)):=by
 refine w_V2 _ _ w0 (fun t x y w'=>t=(lM L bs).1∧x=(lM L bs).2.1∧y=((lM L bs).2.2.1:Int)∧∃F',zV w' p (lM L bs).2.2.2 F'∧Ext FP w0 w'∧∀b,F' b→FP b∨w0.heap.size≤b) ?_
 unfold m_V2
 refine ⟨fun hc=>(by cases hc),fun _=>?_⟩
 refine (c_read sb bs w0 hs hz).mono ?_
 rintro _ w1 ⟨x,y,z,rfl,hy,hz',hout,E1⟩
 refine ⟨_,_,_,rfl,?_⟩
 cases hq:(vT bs).1 with
 | none =>
  have hd:lM L bs=(0,(vT bs).2.1,(vT bs).2.2,L):=by unfold lM;rw [hq]
  have he:y≠0:=by rw [hy];exact Sp.lT hq
  refine ⟨fun _=>?_,fun hc=>absurd (by simpa using hc) he⟩
  rw [hd]
  exact ⟨rfl,hy,hz',FP,hP.pure E1,Ext.pure E1,fun b hb=>.inl hb⟩
 | some q =>
  obtain ⟨a,F,rfl,hPq,hF⟩:=hout.pool hq
  obtain ⟨g1,_,g3,_⟩:=Sp.jAI hq
  have h0:=Sp.jQK hq
  have hd:lM L bs=((yA L q q.length).1,(yA L q q.length).2.1,0,(yA L q q.length).2.2):=by unfold lM;rw [hq]
  rw [h0] at hy
  refine ⟨fun hc=>absurd hy (by simpa using hc),fun _=>?_⟩
  refine (jCX a w1 hPq).mono ?_
  rintro _ w2 ⟨_,rfl,rfl,rfl⟩
  refine ⟨_,rfl,?_⟩
  refine (c_Copy p a q.length w2 hW g1 (hP.pure E1) hPq (fun b hb hh=>by have:=hP.lt hb;have:=hF b hh;omega)).mono ?_
  rintro _ w3 ⟨r1,r2,rfl,h1,h2,F',hP',E3,hF'⟩
  refine ⟨_,_,rfl,?_⟩
  rw [hd]
  exact ⟨h1,h2,rfl,F',hP',(Ext.pure E1).trans E3,fun b hb=>(hF' b hb).imp id (fun h=>by have:=E1.size;omega)⟩
end Go.Proofs
end
section
namespace Go.Sp
theorem jGT {L M:Pool} {r u t:Int} (hu:inP L u=true):uG (L++M) r u t↔uG L r u t:=by
 unfold uG;rw [jCT hu]
theorem jFX.app {L M:Pool} {G:List Int} {pre:List Way} {v:Way} (h:jFX L G pre v) (hp:∀t∈zM pre,inP L t=true):jFX (L++M) G pre v:=by
 rcases h with h | ⟨a,b,c⟩
 ·exact .inl h
 ·exact .inr ⟨a,(jGT (hp _ c)).2 b,c⟩
theorem jNU {S:List Way} {i:Nat} {t:Int} (h:t∈zM (S.take i)):t∈zM S:=by
 unfold zM at h ⊢;obtain ⟨v,hv,e⟩:=List.mem_map.1 h;exact List.mem_map.2 ⟨v,List.mem_of_mem_take hv,e⟩
theorem KnowOk.app {L M:Pool} {G:List Int} {S:List Way} (h:KnowOk L G S):KnowOk (L++M) G S :=
 ⟨⟨h.nodup,fun t ht=>jBB (h.inp t ht),fun i hi=>(h.way i hi).app (fun t ht=>h.inp t (jNU ht))⟩,fun u hu r t ha=>h.closed u hu r t ((jGT (h.inp u hu)).1 ha),h.giv,h.gnd⟩
theorem jHR {L:Pool} {G:List Int} {t:Int} (h:inP L t=true):jCW L G t=jGU G t:=by unfold jCW;rw [if_pos h]
end Go.Sp
end
section
open Go Go.SE
namespace Go.Sp
open Go.Proofs
theorem jRU (L Lq:Pool) (t:Int):∃M,(yA L Lq t).2.2=L++M:=by
 unfold yA;split
 ·simp only;split
  ·exact ⟨[],(List.append_nil L).symm⟩
  ·exact jDM _ _ L _
 ·exact ⟨[],(List.append_nil L).symm⟩
theorem jNJ (L:Pool) (bs:List UInt8):∃M,(lM L bs).2.2.2=L++M:=by
 unfold lM;split
 ·exact ⟨[],(List.append_nil L).symm⟩
 ·exact jRU _ _ _
def xR (L:Pool) (G:List Int) (bs:List UInt8):Pool×List Int×Bool :=
 if (lM L bs).2.1≠0 then ((lM L bs).2.2.2,G,false) else ((lM L bs).2.2.2,jCW (lM L bs).2.2.2 G (lM L bs).1,true)
def uJ (who:Int):Bool:=(who == 0) || (who == 1)
def vQ (L:Pool) (G:List Int) (a b:Bool) (who:Int):Int×Pool×List Int×Bool×Bool :=
 if uJ who=false then (2,L,G,a,b) else
 if (make L (vJ who)).2.1≠0 then ((make L (vJ who)).2.1,(make L (vJ who)).2.2,G,a,b) else
 (0,(make L (vJ who)).2.2,jCW (make L (vJ who)).2.2 G (make L (vJ who)).1,a || (who == 0),b || (who == 1))
end Go.Sp
namespace Go.SE
theorem jMD (s:ByteArray) (c i:Nat) (h:i<s.data.toList.length):(bytesRow s c)[i]?=some (.int .u8 ((s.data.toList[i]).toNat:Int)):=by
 unfold bytesRow;have h':i<s.data.size:=by simpa using h
 rw [Array.getElem?_append_left (by rw [Array.size_map];exact h'),Array.getElem?_map,Array.getElem?_eq_getElem h',Option.map_some,Array.getElem_toList]
theorem jUI (b i:Nat):(⟨b,0,none⟩:Addr).add i=⟨b,i,none⟩:=by
 unfold Addr.add;split
 ·rename_i h;subst h;rfl
 ·simp
theorem jQH {P:Program} {src dst e:TypeId} (hs:P.underlying src=some .string) (hd:P.underlying dst=some (.slice e)) (he:P.underlying e=some (.int .u8)) (w:World) (x:ByteArray) :
  ∃(s:Sl) (w':World),(convert src dst (.string x)).run P w=.ok s.v w'∧Pure w w'∧Lst (·=w.heap.size) w' 1 s (byr x.data.toList)∧(s.a=none→s=Sl.nil):=by
 refine ⟨⟨some ⟨w.heap.size,0,none⟩,x.size,grownCap w x.size 0 e⟩,_,run_bytes_of_string w src dst e x hs hd he,?_,?_,fun h=>by cases h⟩
 ·exact ⟨rfl,rfl,rfl,Nat.le_succ _,by rw [World.size_alloc];exact Nat.le_succ _,fun b hb _=>(RowKit.Below.heap_alloc _ _ _ hb)⟩
 ·have hnew:(w.drew.alloc (.cells (bytesRow x (grownCap w x.size 0 e)) e ((bytesRow x (grownCap w x.size 0 e)).size,(bytesRow x (grownCap w x.size 0 e)).size+1))).heap[w.heap.size]?=some (.cells (bytesRow x (grownCap w x.size 0 e)) e ((bytesRow x (grownCap w x.size 0 e)).size,(bytesRow x (grownCap w x.size 0 e)).size+1)):=World.alloc_heap_new w.drew _
  refine ⟨by rw [qR];rfl,fun i hi=>?_⟩
  have hi':i<x.data.toList.length:=by simpa [byr] using hi
  have hsz:x.size=x.data.toList.length:=by rw [Array.length_toList];rfl
  refine ⟨(⟨w.heap.size,0,none⟩:Addr).add (i*1),⟨by omega,by show (i:Int)<(x.size:Int);omega,_,rfl,by simp⟩,by rw [zX],?_⟩
  intro j hj
  have:j=0:=by simp [byr] at hj;exact hj
  subst this
  simp only [byr,List.getElem_map,Nat.mul_one,Nat.add_zero,uM]
  rw [jUI]
  unfold World.cell?
  simp only [hnew]
  simpa using jMD x _ i hi'
end Go.SE
namespace Go.Proofs
open Tryz
attribute [local irreducible] Calls
structure FoeAt (w:World) (f:Addr) (L:Sp.Pool) (G:List Int) (a b:Bool) (k p:Addr) (S:List Sp.Way) (FK FP:NP):Prop where
 box:Box w f [.pointer (some k),.pointer (some p),.bool a,.bool b] 98
 know:qB w k p G S FK
 pool:zV w p L FP
 wf:Sp.Wf L
 ok:Sp.KnowOk L G S
 d:∀x,FK x→¬ FP x
 dk:¬ FK f.block
 dp:¬ FP f.block
def jAP (w:World) (f:Addr) (L:Sp.Pool) (G:List Int) (a b:Bool) (F:NP):Prop:=∃k p S FK FP,FoeAt w f L G a b k p S FK FP∧∀x,F x↔x=f.block∨FK x∨FP x
section
variable {w w':World} {f k p:Addr} {L:Sp.Pool} {G:List Int} {a b:Bool} {S:List Sp.Way} {FK FP F:NP}
theorem FoeAt.ext {X:NP} (h:FoeAt w f L G a b k p S FK FP) (E:Ext X w w') (hd:∀x,x=f.block∨FK x∨FP x→¬ X x):FoeAt w' f L G a b k p S FK FP :=
 ⟨h.box.ext E (hd _ (.inl rfl)),h.know.ext E (fun b hb=>hd _ (.inr (.inl hb))),h.pool.ext E (fun b hb=>hd _ (.inr (.inr hb))),h.wf,h.ok,h.d,h.dk,h.dp⟩
theorem jAP.ext {X:NP} (h:jAP w f L G a b F) (E:Ext X w w') (hd:∀x,F x→¬ X x):jAP w' f L G a b F:=by
 obtain ⟨k,p,S,FK,FP,h,hF⟩:=h;exact ⟨k,p,S,FK,FP,h.ext E (fun x hx=>hd x ((hF x).2 hx)),hF⟩
theorem jAP.pure (h:jAP w f L G a b F) (E:Pure w w'):jAP w' f L G a b F:=h.ext E (fun _ _ h=>h)
theorem jAP.lt (h:jAP w f L G a b F) {x:Nat} (hx:F x):x<w.heap.size:=by
 obtain ⟨k,p,S,FK,FP,h,hF⟩:=h;rcases (hF x).1 hx with rfl | hx | hx
 ·exact h.box.lt
 ·exact h.know.lt hx
 ·exact h.pool.lt hx
theorem jAP.wf (h:jAP w f L G a b F):Sp.Wf L:=by obtain ⟨k,p,S,FK,FP,h,hF⟩:=h;exact h.wf
theorem jAP.given (h:jAP w f L G a b F):G.Nodup∧∀t∈G,Sp.inP L t=true:=by
 obtain ⟨k,p,S,FK,FP,h,hF⟩:=h;exact ⟨h.ok.gnd,fun t ht=>h.ok.inp t (h.ok.giv t ht)⟩
theorem FoeAt.grown {M:Sp.Pool} {FP':NP} (h:FoeAt w f L G a b k p S FK FP) (hP:zV w' p (L++M) FP') (hW:Sp.Wf (L++M)) (E:Ext FP w w') (hF:∀x,FP' x→FP x∨w.heap.size≤x):FoeAt w' f (L++M) G a b k p S FK FP' :=
 ⟨h.box.ext E h.dp,h.know.ext E (fun x hx=>h.d x hx),hP,hW,h.ok.app,fun x hx hx'=>(hF x hx').elim (h.d x hx) (fun h'=>by have:=h.know.lt hx;omega),h.dk,fun hx=>(hF _ hx).elim h.dp (fun h'=>by have:=h.box.lt;omega)⟩
theorem FoeAt.knows {G':List Int} {S':List Sp.Way} {FK':NP} (h:FoeAt w f L G a b k p S FK FP) (hK:qB w' k p G' S' FK') (ho:Sp.KnowOk L G' S') (E:Ext FK w w') (hF:∀x,FK' x→FK x∨w.heap.size≤x):FoeAt w' f L G' a b k p S' FK' FP :=
 ⟨h.box.ext E h.dk,hK,h.pool.ext E (fun x hx hx'=>h.d x hx' hx),h.wf,ho,fun x hx=>(hF x hx).elim (h.d x) (fun h' hx'=>by have:=h.pool.lt hx';omega),fun hx=>(hF _ hx).elim h.dk (fun h'=>by have:=h.box.lt;omega),h.dp⟩
end
theorem jFL (w0:World):Calls prog 10 #[] w0 (fun e w'=>∃r:Option Addr,e=.returned (.pointer r)∧∃f F,r=some f∧jAP w' f [] [] false false F∧Pure w0 w'∧∀x,F x→w0.heap.size≤x):=by
 refine w_A2 w0 (fun r w'=>∃f F,r=some f∧jAP w' f [] [] false false F∧Pure w0 w'∧∀x,F x→w0.heap.size≤x) ?_;unfold m_A2;refine (c_New w0).mono ?_;rintro _ w1 ⟨_,rfl,p,rfl,E1,FP,hP,hF⟩;refine ⟨_,rfl,?_⟩;refine (jSF p w1).mono ?_;rintro _ w2 ⟨_,rfl,k,FK,rfl,hK,E2,hFK⟩;refine ⟨_,rfl,fun p1 w3 h3=>?_⟩;have E3:Pure w2 w3:=Ext.new h3;have z1:=E1.size;have z2:=E2.size;have hp:=h3.at_size;refine ⟨p1,fun x=>x=p1.block∨FK x∨FP x,rfl,⟨k,p,[],FK,FP,⟨Box.of_newA h3,hK.pure E3,(hP.pure E2).pure E3,Sp.Wf.nil,⟨⟨by simp [Sp.zM],by simp [Sp.zM],fun i hi=>by simp at hi⟩,by simp [Sp.zM],by simp,by simp⟩,fun x hx hx'=>?_,fun hx=>?_,fun hx=>?_⟩,fun x=>Iff.rfl⟩,(E1.trans E2).trans E3,?_⟩
 ·have:=hFK x hx;have:=hP.lt hx';omega
 ·have:=hK.lt hx;omega
 ·have:=hP.lt hx;omega
 ·rintro x (rfl | hx | hx)
  ·omega
  ·have:=hFK x hx;omega
  ·exact hF x hx
theorem jPF (f:Addr) (body:ByteArray) (w0:World) {L:Sp.Pool} {G:List Int} {a b:Bool} {F:NP} (h:jAP w0 f L G a b F) :
  Calls prog 11 #[.pointer (some f),.string body] w0 (fun e w'=>∃r:Bool,e=.returned (.bool r)∧(r=(Sp.xR L G body.data.toList).2.2∧∃F',jAP w' f (Sp.xR L G body.data.toList).1 (Sp.xR L G body.data.toList).2.1 a b F'∧Ext F w0 w'∧∀x,F' x→F x∨w0.heap.size≤x)):=by
 refine w_B2 _ _ w0 (fun r w'=>r=(Sp.xR L G body.data.toList).2.2∧∃F',jAP w' f (Sp.xR L G body.data.toList).1 (Sp.xR L G body.data.toList).2.1 a b F'∧Ext F w0 w'∧∀x,F' x→F x∨w0.heap.size≤x) ?_
 unfold m_B2
 obtain ⟨k,p,S,FK,FP,h,hF⟩:=h
 refine Br.f rfl ⟨f,rfl,some p,h.box.cell rfl,?_⟩
 obtain ⟨s,w1,hr,E1,hs,hz⟩:=jQH (P:=prog) (src:=9) (dst:=65) underlying9 underlying65 underlying5 w0 body
 refine ⟨s,w1,hr,?_⟩
 have h1:=h.ext E1 (fun _ _ h=>h)
 refine (jUH p s body.data.toList w1 h1.wf h1.pool hs hz).mono ?_
 rintro _ w2 ⟨t,x,y,rfl,rfl,rfl,rfl,FP',hP,E2,hF'⟩
 obtain ⟨M,hM⟩:=Sp.jNJ L body.data.toList
 have hW:=Sp.jRR h.wf body.data.toList
 rw [hM] at hP hW
 have h2:=h1.grown hP hW E2 hF'
 have X02:Ext F w0 w2:=(Ext.pure E1).trans (E2.mono (fun x _ hx=>(hF x).2 (.inr (.inr hx))))
 have z1:=E1.size;have z2:=E2.size
 refine ⟨_,_,_,rfl,fun hc=>?_,fun hc=>?_⟩
 ·have hc:=bne_iff_ne.1 hc
  unfold Sp.xR
  rw [if_pos hc,hM]
  refine ⟨rfl,_,⟨k,p,S,FK,FP',h2,fun _=>Iff.rfl⟩,X02,?_⟩
  rintro x (rfl | hx | hx)
  ·exact .inl ((hF _).2 (.inl rfl))
  ·exact .inl ((hF x).2 (.inr (.inl hx)))
  ·exact (hF' x hx).imp (fun h=>(hF x).2 (.inr (.inr h))) (fun h=>by omega)
 ·have hc:(lM L body.data.toList).2.1=0:=by simpa using hc
  refine ⟨f,rfl,some k,h2.box.cell0,?_⟩
  refine (jKH k p (lM L body.data.toList).1 w2 h2.know h2.pool h2.wf h2.d h2.ok).mono ?_
  rintro _ w3 ⟨r4,rfl,_,S',FK',hK,ho,E3,hFK⟩
  refine ⟨_,rfl,?_⟩
  have h3:=h2.knows hK ho E3 hFK
  unfold Sp.xR
  rw [if_neg (by simpa using hc),hM]
  refine ⟨rfl,_,⟨k,p,S',FK',FP',h3,fun _=>Iff.rfl⟩,X02.trans (E3.mono (fun x _ hx=>(hF x).2 (.inr (.inl hx)))),?_⟩
  rintro x (rfl | hx | hx)
  ·exact .inl ((hF _).2 (.inl rfl))
  ·exact (hFK x hx).imp (fun h=>(hF x).2 (.inr (.inl h))) (fun h=>by omega)
  ·exact (hF' x hx).imp (fun h=>(hF x).2 (.inr (.inr h))) (fun h=>by omega)
theorem jHZ (f:Addr) (who:Int) (w0:World) {L:Sp.Pool} {G:List Int} {a b:Bool} {F:NP} (h:jAP w0 f L G a b F) :
  Calls prog 13 #[.pointer (some f),.int .i64 who] w0 (fun e w'=>∃r:Int,e=.returned (.int .i64 r)∧(r=(Sp.vQ L G a b who).1∧∃F',jAP w' f (Sp.vQ L G a b who).2.1 (Sp.vQ L G a b who).2.2.1 (Sp.vQ L G a b who).2.2.2.1 (Sp.vQ L G a b who).2.2.2.2 F'∧Ext F w0 w'∧∀x,F' x→F x∨w0.heap.size≤x)):=by
 refine w_C2 _ _ w0 (fun r w'=>r=(Sp.vQ L G a b who).1∧∃F',jAP w' f (Sp.vQ L G a b who).2.1 (Sp.vQ L G a b who).2.2.1 (Sp.vQ L G a b who).2.2.2.1 (Sp.vQ L G a b who).2.2.2.2 F'∧Ext F w0 w'∧∀x,F' x→F x∨w0.heap.size≤x) ?_
 unfold m_C2
 refine Br.f rfl ⟨fun hc=>?_,fun hc=>?_⟩
 ·intro w1 hs
  have e:Sp.vQ L G a b who=(2,L,G,a,b):=by
   unfold Sp.vQ Sp.uJ;rw [if_pos (by simpa using hc)]
  rw [e]
  exact ⟨rfl,F,h.pure hs.first,Ext.pure hs.first,fun x hx=>.inl hx⟩
 have hp:Sp.uJ who=true:=by unfold Sp.uJ;simpa only [Bool.not_eq_eq_eq_not,Bool.not_false] using hc
 have hw:who=0∨who=1:=by unfold Sp.uJ at hp;simpa using hp
 refine ⟨f,rfl,fun w1 hs=>?_⟩
 have E1:=hs.first
 obtain ⟨k,p,S,FK,FP,h,hF⟩:=h
 have h1:=h.ext E1 (fun _ _ h=>h)
 refine ⟨some p,h1.box.cell rfl,?_⟩
 refine (c_Key p w1 h1.pool h1.wf.ok who).mono ?_
 rintro _ w2 ⟨r1,r2,rfl,he,FP',hP,E2,hF'⟩
 have hk:(⟨6,who,0,0,⟨#[]⟩,0,0⟩:Sp.Node)=Sp.vJ who:=rfl
 rw [hk] at he hP
 obtain ⟨e1,e2⟩:=Prod.mk.inj he
 obtain ⟨M,hM⟩:=Sp.uZ L (Sp.vJ who)
 have hW:=Sp.xP h.wf (Sp.vJ who)
 rw [hM] at hP hW
 have h2:=h1.grown hP hW E2 hF'
 have X02:Ext F w0 w2:=(Ext.pure E1).trans (E2.mono (fun x _ hx=>(hF x).2 (.inr (.inr hx))))
 have z1:=E1.size;have z2:=E2.size
 refine ⟨_,_,rfl,E2.kept (fun _ h=>h.elim),fun hc=>?_,fun hc=>?_⟩
 ·have hc:=bne_iff_ne.1 hc
  unfold Sp.vQ
  rw [if_neg (by simp [hp]),if_pos (by rw [← e2];exact hc),hM]
  refine ⟨e2,_,⟨k,p,S,FK,FP',h2,fun _=>Iff.rfl⟩,X02,?_⟩
  rintro x (rfl | hx | hx)
  ·exact .inl ((hF _).2 (.inl rfl))
  ·exact .inl ((hF x).2 (.inr (.inl hx)))
  ·exact (hF' x hx).imp (fun h=>(hF x).2 (.inr (.inr h))) (fun h=>by omega)
 ·have hc0:r2=0:=by simpa using hc
  refine ⟨f,rfl,some k,h2.box.cell0,?_⟩
  refine (jKH k p r1 w2 h2.know h2.pool h2.wf h2.d h2.ok).mono ?_
  rintro _ w3 ⟨r4,rfl,_,S',FK',hK,ho,E3,hFK⟩
  refine ⟨_,rfl,E3.kept (fun _ h=>h.elim),?_⟩
  have h3:=h2.knows hK ho E3 hFK
  have hat:∃i:Nat,who=(i:Int)∧i<2:=⟨who.toNat,by omega,by omega⟩
  obtain ⟨i,rfl,hi⟩:=hat
  refine ⟨f,rfl,(f.add 2).add i,⟨by omega,by omega,by simp⟩,?_⟩
  rw [uM]
  refine ⟨h3.box.canW (by simp;omega),id,?_⟩
  rintro _ rfl
  have hb:=h3.box.set (2+i) (.bool true)
  have X4:Ext (·=f.block) w3 (w3.setCell (f.add (2+i)) (.bool true)):=by
   have:=Ext.setCell (w:=w3) (f.add (2+i)) (.bool true);rw [zX] at this;exact this.mono (fun x _ hx=>hx.symm▸rfl)
  unfold Sp.vQ
  rw [if_neg (by simp [hp]),if_neg (by rw [← e2];simpa using hc0),hM,← e1]
  have hK4:qB (w3.setCell (f.add (2+i)) (.bool true)) k p (Sp.jCW (L++M) G r1) S' FK':=hK.ext X4 (fun x hx e=>h3.dk (e▸hx))
  have hP4:=h3.pool.ext X4 (fun x hx e=>h3.dp (e▸hx))
  have hb4:Box (w3.setCell (f.add (2+i)) (.bool true)) f [.pointer (some k),.pointer (some p),.bool (a || ((i:Int) == 0)),.bool (b || ((i:Int) == 1))] 98:=by
   rcases (show i=0∨i=1 by omega) with rfl | rfl
   ·simpa using hb
   ·simpa using hb
  refine ⟨rfl,fun x=>x=f.block∨FK' x∨FP' x,⟨k,p,S',FK',FP',⟨hb4,hK4,hP4,h3.wf,h3.ok,h3.d,h3.dk,h3.dp⟩,fun _=>Iff.rfl⟩,(X02.trans (E3.mono (fun x _ hx=>(hF x).2 (.inr (.inl hx))))).trans (X4.mono (fun x _ hx=>(hF x).2 (.inl hx))),?_⟩
  rintro x (rfl | hx | hx)
  ·exact .inl ((hF _).2 (.inl rfl))
  ·exact (hFK x hx).imp (fun h=>(hF x).2 (.inr (.inl h))) (fun h=>by omega)
  ·exact (hF' x hx).imp (fun h=>(hF x).2 (.inr (.inr h))) (fun h=>by omega)
end Go.Proofs
end
section
open Go Go.SE
namespace Go.Sp
structure Letter where
 kind:Int
 frm:Int
 c:Int
 text:ByteArray
 fake:Bool
deriving DecidableEq
def jHM:Letter:=⟨0,0,0,⟨#[]⟩,false⟩
def jFZ:ByteArray:=⟨#[97,98,111,114,116]⟩
def tG:ByteArray:=⟨#[114,101,115,111,108,118,101]⟩
def jAF:ByteArray:=⟨#[97,98,111,114,116,101,100]⟩
def jAE:ByteArray:=⟨#[105,110,115,116,101,97,100]⟩
def jPT:ByteArray:=⟨#[102,117,108,108]⟩
def vD (l:Letter) (first second:Bool):Tree :=
 if l.kind=1 then yC l.frm (qG l.c l.text) l.fake
 else if l.kind=2 then yK l.frm (qG l.c l.text)
 else if l.kind=3 then yK 0 (qK (qH jFZ) (jAX l.c))
 else if l.kind=4 then yK l.frm (qK (qH tG) (qK (yC 0 (qG l.c l.text) (l.fake && first)) (yC 1 (qG l.c l.text) (l.fake && second))))
 else if l.kind=5 then yK 2 (qK (qH jAF) (jAX l.c))
 else if l.kind=6 then yK 2 (qK (qH jAE) (qG l.c l.text))
 else qK (qH jPT) (jAX l.c)
end Go.Sp
namespace Go.Proofs
open Tryz
attribute [local irreducible] Calls
theorem jJX (n0:Nat) (k f c:Int) (x:ByteArray) (fake first second:Bool) (w:World) (h0:n0≤w.heap.size) (hf:f=0∨f=1) :
  Calls prog 29 #[.agg #[.int .i64 k,.int .i64 f,.int .u64 c,.string x,.bool fake],.bool first,.bool second] w (RetT n0 w (Sp.vD ⟨k,f,c,x,fake⟩ first second)):=by
 generalize hR:Sp.vD ⟨k,f,c,x,fake⟩ first second=R
 suffices key:∀K:Int→Int→Int→Int→ByteArray→Sl→WP,(∀s w',TreeAt (n0≤·) w' s R∧Pure w w'→K R.node.kind R.node.frm R.node.to R.node.num R.node.text s w')→m_Y1 k f c x fake first second w K by
  refine (w_Y1 k f c x fake first second w (fun k f t u y s w'=>(k=R.node.kind∧f=R.node.frm∧t=R.node.to∧u=R.node.num∧y=R.node.text)∧TreeAt (n0≤·) w' s R∧Pure w w') (key _ (fun s w' h=>⟨⟨rfl,rfl,rfl,rfl,rfl⟩,h⟩))).mono ?_;rintro _ w' ⟨k,f,t,u,y,s,rfl,⟨rfl,rfl,rfl,rfl,rfl⟩,hT,E⟩;exact ⟨s,rfl,hT,E⟩
 intro K hK
 unfold m_Y1
 intro p1 w1 h1 p2 w2 h2
 have E1:Pure w w1:=Ext.new h1
 have E2:Pure w w2:=E1.trans (Ext.new h2)
 have o2:=New.own E1 h2
 have a1:=(Box.of_new h1).pure (Ext.new h2:Pure w1 w2)
 have a2:=Box.of_new h2
 have l1:=a1.lt
 have l2:=a2.lt
 have s2:=E2.size
 clear h1 h2
 refine ⟨_,a1.cell rfl,_,a1.cell rfl,?_⟩
 refine (jJY w2.heap.size c x w2 (Nat.le_refl _)).mono ?_
 rintro _ w3 ⟨sd,rfl,hD,E3⟩
 refine ⟨_,_,_,_,_,sd,rfl,?_⟩
 intro p3 w4 h4
 have o3:=New.own (Ext.refl w3) h4
 refine bx 6 (Box.of_new h4) rfl rfl (fun w5 b3 E'=>?_)
 have E5:Pure w3 w5:=Ext.own (Ext.new h4) o3 E'
 have hD5:=hD.pure E5
 have E25:Pure w2 w5:=E3.trans E5
 have s5:=E25.size
 have b1:=a1.pure E25
 have b3:Box w5 p3 (xN (Sp.qG c x) sd) 76:=b3
 clear E' h4 E5 hD E3
 have fin : ∀ (T : Sp.Tree) (s : Sl) (w' : World), Pure w5 w' → TreeAt (w2.heap.size ≤ ·) w' s T → T = R →
   (∀j,j<6→CanW w' (p2.add j))∧∀w'':World,w''=storeRow w' p2 (xN T s) →
   ∃qKind1:Int,∃qFrom1:Int,∃qTo1:Int,∃qNum1:Int,∃qText1:ByteArray,∃qKids1:Sl,Row w'' p2 [(.int .i64 qKind1),(.int .i64 qFrom1),(.int .i64 qTo1),(.int .u64 qNum1),(.string qText1),qKids1.v]∧K qKind1 qFrom1 qTo1 qNum1 qText1 qKids1 w'':=by
  rintro T s w' E hT rfl
  refine bx 6 (a2.pure (E25.trans E)) rfl rfl (fun w'' b E'=>⟨_,_,_,_,_,s,b.row,hK s w'' ⟨?_,(E2.trans (E25.trans E)).own o2 E'⟩⟩)
  exact (hT.ext E' (fun b hb e=>by have:w2.heap.size≤b:=hb;omega)).mono (fun b hb=>by show n0≤b;have:w2.heap.size≤b:=hb;omega)
 have drawn:∃C:WP,C w5.drew∧(∀w' w'',Pure w' w''→C w'→C w'')∧(∀w',C w'→Box w' p1 [.int .i64 k,.int .i64 f,.int .u64 c,.string x,.bool fake] 30∧Box w' p3 (xN (Sp.qG c x) sd) 76) :=
  ⟨fun w'=>Box w' p1 [.int .i64 k,.int .i64 f,.int .u64 c,.string x,.bool fake] 30∧Box w' p3 (xN (Sp.qG c x) sd) 76,⟨b1.pure (Ext.drew w5),b3.pure (Ext.drew w5)⟩,fun _ _ E h=>⟨h.1.pure E,h.2.pure E⟩,fun _ h=>h⟩
 obtain ⟨C,hC,hCp,hCb⟩:=drawn
 refine ⟨k,b1.cell0,fun hk=>?_,fun hk1=>⟨fun hk=>?_,fun hk2=>⟨fun hk=>?_,fun hk3=>⟨fun hk=>?_,fun hk4=>⟨fun hk=>?_,fun hk5=>⟨fun hk=>?_,fun hk6=>?_⟩⟩⟩⟩⟩⟩
 ·have hk:k=1:=by simpa using hk
  refine ⟨f,b1.cell rfl,_,_,_,_,_,sd,b3.row,fake,b1.cell rfl,?_⟩
  refine (yI w2.heap.size f hf (Sp.qG c x) fake sd w5 s5 hD5).mono ?_
  rintro _ w6 ⟨s,rfl,hT,E6⟩
  exact ⟨_,_,_,_,_,s,rfl,fin _ s w6 E6 hT (by rw [← hR];simp only [Sp.vD];rw [if_pos hk])⟩
 ·have hk:k=2:=by simpa using hk
  refine ⟨f,b1.cell rfl,_,_,_,_,_,sd,b3.row,?_⟩
  refine (uS w2.heap.size f (Sp.qG c x) sd w5 s5 hD5).mono ?_
  rintro _ w6 ⟨s,rfl,hT,E6⟩
  exact ⟨_,_,_,_,_,s,rfl,fin _ s w6 E6 hT (by rw [← hR];simp only [Sp.vD];rw [if_neg (by omega),if_pos hk])⟩
 ·have hk:k=3:=by simpa using hk
  refine ⟨C,hC,?_⟩
  intro w10 hw10
  have E10:Pure w5 w10:=by rw [hw10];exact Ext.drew w5
  have hC10:C w10:=by rw [hw10];exact hC
  clear hw10
  have s10:=E10.size
  refine ⟨c,fun w' h=>(hCb w' h).1.cell rfl,?_⟩
  refine (yJ w2.heap.size _ w10 (by omega)).mono ?_
  rintro _ w11 ⟨sa,rfl,hA,E11⟩
  have s11:=E11.size
  refine ⟨_,_,_,_,_,sa,rfl,hCp _ _ E11 hC10,?_⟩
  refine (uO w2.heap.size c w11 (by omega)).mono ?_
  rintro _ w12 ⟨sb,rfl,hB,E12⟩
  have s12:=E12.size
  refine ⟨_,_,_,_,_,sb,rfl,?_⟩
  refine (qS w2.heap.size (Sp.qH Sp.jFZ) (Sp.jAX c) sa sb w12 (by omega) (hA.pure E12) hB).mono ?_
  rintro _ w13 ⟨se,rfl,hE,E13⟩
  have s13:=E13.size
  refine ⟨_,_,_,_,_,se,rfl,?_⟩
  refine (uS w2.heap.size 0 (Sp.qK (Sp.qH Sp.jFZ) (Sp.jAX c)) se w13 (by omega) hE).mono ?_
  rintro _ w14 ⟨s,rfl,hT,E14⟩
  exact ⟨_,_,_,_,_,s,rfl,fin _ s w14 ((((E10.trans E11).trans E12).trans E13).trans E14) hT (by rw [← hR];simp only [Sp.vD];rw [if_neg (by omega),if_neg (by omega),if_pos hk])⟩
 ·have hk:k=4:=by simpa using hk
  refine ⟨C,hC,?_⟩
  intro w10 hw10
  have E10:Pure w5 w10:=by rw [hw10];exact Ext.drew w5
  have hC10:C w10:=by rw [hw10];exact hC
  clear hw10
  have s10:=E10.size
  refine ⟨f,fun w' h=>(hCb w' h).1.cell rfl,_,_,_,_,_,sd,fun w' h=>(hCb w' h).2.row,fake,fun w' h=>(hCb w' h).1.cell rfl,_,_,_,_,_,sd,fun w' h=>(hCb w' h).2.row,fake,fun w' h=>(hCb w' h).1.cell rfl,?_⟩
  refine (yJ w2.heap.size _ w10 (by omega)).mono ?_
  rintro _ w11 ⟨sa,rfl,hA,E11⟩
  have s11:=E11.size
  have hD11:=hD5.pure (E10.trans E11)
  have hC11:=hCp _ _ E11 hC10
  refine ⟨_,_,_,_,_,sa,rfl,hC11,?_⟩
  have rest : ∀ (u v : Bool) (sx sy : Sl) (w' : World), u = (fake && first) → v = (fake && second) → Pure w11 w' → TreeAt (w2.heap.size ≤ ·) w' sx (Sp.yC 0 (Sp.qG c x) u) → TreeAt (w2.heap.size ≤ ·) w' sy (Sp.yC 1 (Sp.qG c x) v) →
    Calls prog 89 #[.agg (xN (Sp.yC 0 (Sp.qG c x) u) sx).toArray,.agg (xN (Sp.yC 1 (Sp.qG c x) v) sy).toArray] w' (fun e wa=>∃k1 f1 t1 u1 y1,∃s1:Sl,e=.returned (.agg #[.int .i64 k1,.int .i64 f1,.int .i64 t1,.int .u64 u1,.string y1,s1.v])∧C wa ∧
     Calls prog 89 #[.agg (xN (Sp.qH Sp.tG) sa).toArray,.agg #[.int .i64 k1,.int .i64 f1,.int .i64 t1,.int .u64 u1,.string y1,s1.v]] wa (fun e wb=>∃k1 f1 t1 u1 y1,∃s1:Sl,e=.returned (.agg #[.int .i64 k1,.int .i64 f1,.int .i64 t1,.int .u64 u1,.string y1,s1.v])∧C wb ∧
      Calls prog 88 #[.int .i64 f,.agg #[.int .i64 k1,.int .i64 f1,.int .i64 t1,.int .u64 u1,.string y1,s1.v]] wb (fun e wc=>∃k1 f1 t1 u1 y1,∃s1:Sl,e=.returned (.agg #[.int .i64 k1,.int .i64 f1,.int .i64 t1,.int .u64 u1,.string y1,s1.v]) ∧
       (∀j,j<6→CanW wc (p2.add j))∧∀w'':World,w''=storeRow wc p2 [.int .i64 k1,.int .i64 f1,.int .i64 t1,.int .u64 u1,.string y1,s1.v] →
   ∃qKind1:Int,∃qFrom1:Int,∃qTo1:Int,∃qNum1:Int,∃qText1:ByteArray,∃qKids1:Sl,Row w'' p2 [(.int .i64 qKind1),(.int .i64 qFrom1),(.int .i64 qTo1),(.int .u64 qNum1),(.string qText1),qKids1.v]∧K qKind1 qFrom1 qTo1 qNum1 qText1 qKids1 w''))):=by
   intro u v sx sy w' hu hv E hX hY
   have s':=E.size
   refine (qS w2.heap.size (Sp.yC 0 (Sp.qG c x) u) (Sp.yC 1 (Sp.qG c x) v) sx sy w' (by omega) hX hY).mono ?_
   rintro _ wa ⟨s1,rfl,h1,Ea⟩
   have sa':=Ea.size
   refine ⟨_,_,_,_,_,s1,rfl,hCp _ _ (E.trans Ea) hC11,?_⟩
   refine (qS w2.heap.size (Sp.qH Sp.tG) (Sp.qK (Sp.yC 0 (Sp.qG c x) u) (Sp.yC 1 (Sp.qG c x) v)) sa s1 wa (by omega) (hA.pure (E.trans Ea)) h1).mono ?_
   rintro _ wb ⟨s2,rfl,h2,Eb⟩
   have sb':=Eb.size
   refine ⟨_,_,_,_,_,s2,rfl,hCp _ _ ((E.trans Ea).trans Eb) hC11,?_⟩
   refine (uS w2.heap.size f (Sp.qK (Sp.qH Sp.tG) (Sp.qK (Sp.yC 0 (Sp.qG c x) u) (Sp.yC 1 (Sp.qG c x) v))) s2 wb (by omega) h2).mono ?_
   rintro _ wc ⟨s3,rfl,h3,Ec⟩
   exact ⟨_,_,_,_,_,s3,rfl,fin _ s3 wc (((((E10.trans E11).trans E).trans Ea).trans Eb).trans Ec) h3 (by rw [← hR,hu,hv];simp only [Sp.vD];rw [if_neg (by omega),if_neg (by omega),if_neg (by omega),if_pos hk])⟩
  refine ⟨fun hfk=>?_,fun hfk=>?_⟩
  ·refine (yI w2.heap.size 0 (.inl rfl) (Sp.qG c x) first sd w11 (by omega) hD11).mono ?_
   rintro _ w12 ⟨sx,rfl,hX,E12⟩
   have s12:=E12.size
   refine ⟨_,_,_,_,_,sx,rfl,hCp _ _ E12 hC11,Br.t hfk ?_⟩
   refine (yI w2.heap.size 1 (.inr rfl) (Sp.qG c x) second sd w12 (by omega) (hD11.pure E12)).mono ?_
   rintro _ w13 ⟨sy,rfl,hY,E13⟩
   exact ⟨_,_,_,_,_,sy,rfl,hCp _ _ (E12.trans E13) hC11,rest first second sx sy w13 (by rw [hfk];rfl) (by rw [hfk];rfl) (E12.trans E13) (hX.pure E13) hY⟩
  ·refine (yI w2.heap.size 0 (.inl rfl) (Sp.qG c x) false sd w11 (by omega) hD11).mono ?_
   rintro _ w12 ⟨sx,rfl,hX,E12⟩
   have s12:=E12.size
   refine ⟨_,_,_,_,_,sx,rfl,hCp _ _ E12 hC11,Br.f hfk ?_⟩
   refine (yI w2.heap.size 1 (.inr rfl) (Sp.qG c x) false sd w12 (by omega) (hD11.pure E12)).mono ?_
   rintro _ w13 ⟨sy,rfl,hY,E13⟩
   exact ⟨_,_,_,_,_,sy,rfl,hCp _ _ (E12.trans E13) hC11,rest false false sx sy w13 (by rw [hfk];rfl) (by rw [hfk];rfl) (E12.trans E13) (hX.pure E13) hY⟩
 ·have hk:k=5:=by simpa using hk
  refine ⟨C,hC,?_⟩
  intro w10 hw10
  have E10:Pure w5 w10:=by rw [hw10];exact Ext.drew w5
  have hC10:C w10:=by rw [hw10];exact hC
  clear hw10
  have s10:=E10.size
  refine ⟨c,fun w' h=>(hCb w' h).1.cell rfl,?_⟩
  refine (yJ w2.heap.size _ w10 (by omega)).mono ?_
  rintro _ w11 ⟨sa,rfl,hA,E11⟩
  have s11:=E11.size
  refine ⟨_,_,_,_,_,sa,rfl,hCp _ _ E11 hC10,?_⟩
  refine (uO w2.heap.size c w11 (by omega)).mono ?_
  rintro _ w12 ⟨sb,rfl,hB,E12⟩
  have s12:=E12.size
  refine ⟨_,_,_,_,_,sb,rfl,?_⟩
  refine (qS w2.heap.size (Sp.qH Sp.jAF) (Sp.jAX c) sa sb w12 (by omega) (hA.pure E12) hB).mono ?_
  rintro _ w13 ⟨se,rfl,hE,E13⟩
  have s13:=E13.size
  refine ⟨_,_,_,_,_,se,rfl,?_⟩
  refine (uS w2.heap.size 2 (Sp.qK (Sp.qH Sp.jAF) (Sp.jAX c)) se w13 (by omega) hE).mono ?_
  rintro _ w14 ⟨s,rfl,hT,E14⟩
  exact ⟨_,_,_,_,_,s,rfl,fin _ s w14 ((((E10.trans E11).trans E12).trans E13).trans E14) hT (by rw [← hR];simp only [Sp.vD];rw [if_neg (by omega),if_neg (by omega),if_neg (by omega),if_neg (by omega),if_pos hk])⟩
 ·have hk:k=6:=by simpa using hk
  refine ⟨C,hC,?_⟩
  intro w10 hw10
  have E10:Pure w5 w10:=by rw [hw10];exact Ext.drew w5
  have hC10:C w10:=by rw [hw10];exact hC
  clear hw10
  have s10:=E10.size
  refine ⟨_,_,_,_,_,sd,fun w' h=>(hCb w' h).2.row,?_⟩
  refine (yJ w2.heap.size _ w10 (by omega)).mono ?_
  rintro _ w11 ⟨sa,rfl,hA,E11⟩
  have s11:=E11.size
  refine ⟨_,_,_,_,_,sa,rfl,hCp _ _ E11 hC10,?_⟩
  refine (qS w2.heap.size (Sp.qH Sp.jAE) (Sp.qG c x) sa sd w11 (by omega) hA (hD5.pure (E10.trans E11))).mono ?_
  rintro _ w13 ⟨se,rfl,hE,E13⟩
  have s13:=E13.size
  refine ⟨_,_,_,_,_,se,rfl,?_⟩
  refine (uS w2.heap.size 2 (Sp.qK (Sp.qH Sp.jAE) (Sp.qG c x)) se w13 (by omega) hE).mono ?_
  rintro _ w14 ⟨s,rfl,hT,E14⟩
  exact ⟨_,_,_,_,_,s,rfl,fin _ s w14 (((E10.trans E11).trans E13).trans E14) hT (by rw [← hR];simp only [Sp.vD];rw [if_neg (by omega),if_neg (by omega),if_neg (by omega),if_neg (by omega),if_neg (by omega),if_pos hk])⟩
 ·have hk1:k≠1:=by simpa using hk1
  have hk2:k≠2:=by simpa using hk2
  have hk3:k≠3:=by simpa using hk3
  have hk4:k≠4:=by simpa using hk4
  have hk5:k≠5:=by simpa using hk5
  have hk6:k≠6:=by simpa using hk6
  refine ⟨C,hC,?_⟩
  intro w10 hw10
  have E10:Pure w5 w10:=by rw [hw10];exact Ext.drew w5
  have hC10:C w10:=by rw [hw10];exact hC
  clear hw10
  have s10:=E10.size
  refine ⟨c,fun w' h=>(hCb w' h).1.cell rfl,?_⟩
  refine (yJ w2.heap.size _ w10 (by omega)).mono ?_
  rintro _ w11 ⟨sa,rfl,hA,E11⟩
  have s11:=E11.size
  refine ⟨_,_,_,_,_,sa,rfl,hCp _ _ E11 hC10,?_⟩
  refine (uO w2.heap.size c w11 (by omega)).mono ?_
  rintro _ w12 ⟨sb,rfl,hB,E12⟩
  have s12:=E12.size
  refine ⟨_,_,_,_,_,sb,rfl,?_⟩
  refine (qS w2.heap.size (Sp.qH Sp.jPT) (Sp.jAX c) sa sb w12 (by omega) (hA.pure E12) hB).mono ?_
  rintro _ w13 ⟨s,rfl,hT,E13⟩
  exact ⟨_,_,_,_,_,s,rfl,fin _ s w13 (((E10.trans E11).trans E12).trans E13) hT (by rw [← hR];simp only [Sp.vD];rw [if_neg hk1,if_neg hk2,if_neg hk3,if_neg hk4,if_neg hk5,if_neg hk6])⟩
end Go.Proofs
end
section
namespace Go.Sp
def qJ (k:Int):Bool:=(k == 1 || k == 2) || k == 4
def qU (k:Int):Bool:=qJ k || k == 6
def vY (l:Letter):Int :=
 if l.kind<1∨l.kind>7∨(l.frm≠0∧l.frm≠1)∨(qJ l.kind=false∧l.frm≠0)∨(qU l.kind=false∧l.text≠⟨#[]⟩)∨(l.fake=true∧l.kind≠1∧l.kind≠4) then 110 else if l.text.size>64 then 1 else 0
end Go.Sp
end
section
open Go Go.SE
open Go.IntKind renaming i64 → q6
namespace Go.Proofs
open Tryz
set_option maxRecDepth 100000
set_option maxHeartbeats 4000000
attribute [local irreducible] wpL wpX opE wpE Calls
def m_I4  (w0:World) (K:(Array Value)→WP):Prop :=∀(p1:Addr) (w1:World),New w0 (.cells #[(vb false),(vb false),(vb false),ve,(vb false),(vb false),(vb false),ve,(vb false),(vb false),(vb false),ve,(vb false),(vb false),(vb false),ve,(vb false),(vb false),(vb false),ve,(vb false),(vb false),(vb false),ve,(vb false),(vb false),(vb false),ve,(vb false),(vb false),(vb false),ve] 311) p1 w1→(∀j,j<32→CanW w1 (p1.add j))∧∀w2:World,w2=storeRow w1 p1 [(vb false),(vb false),(vb false),ve,(vb true),(vb true),(vb true),(vs (⟨#[112,114,111,109,105,115,101]⟩:ByteArray)),(vb true),(vb true),(vb false),(vs (⟨#[115,105,103,110]⟩:ByteArray)),(vb false),(vb false),(vb false),(vs (⟨#[97,98,111,114,116]⟩:ByteArray)),(vb true),(vb true),(vb true),(vs (⟨#[114,101,115,111,108,118,101]⟩:ByteArray)),(vb false),(vb false),(vb false),(vs (⟨#[116,111,107,101,110]⟩:ByteArray)),(vb false),(vb true),(vb false),(vs (⟨#[105,110,115,116,101,97,100]⟩:ByteArray)),(vb false),(vb false),(vb false),(vs (⟨#[102,117,108,108]⟩:ByteArray))]→∃cT:Array Value,(cT.size=32∧Row w2 p1 cT.toList)∧K cT w2
theorem w_I4  (w0:World) (K:(Array Value)→WP) (h:m_I4  w0 K) :
  Calls prog 240 #[] w0 (fun e w'=>∃r1:Array Value,e=.returned (.agg r1)∧K r1 w'):=by
 unfold m_I4 at h
 refine cw (args:=[]) func240 ntmps240 (eg (sn (O:=(.cells #[(vb false),(vb false),(vb false),ve,(vb false),(vb false),(vb false),ve,(vb false),(vb false),(vb false),ve,(vb false),(vb false),(vb false),ve,(vb false),(vb false),(vb false),ve,(vb false),(vb false),(vb false),ve,(vb false),(vb false),(vb false),ve,(vb false),(vb false),(vb false),ve] 311)) (zO (zeroValue311 _) rfl) ?_))
 intro p1 w1 hn2
 have h:=h p1 w1 hn2
 refine ln (eg (q0 (.agg #[(vb true),(vb true),(vb true),(vs (⟨#[112,114,111,109,105,115,101]⟩:ByteArray))]) (q0 (.agg #[(vb true),(vb true),(vb false),(vs (⟨#[115,105,103,110]⟩:ByteArray))]) (q0 (.agg #[(vb false),(vb false),(vb false),(vs (⟨#[97,98,111,114,116]⟩:ByteArray))]) (q0 (.agg #[(vb true),(vb true),(vb true),(vs (⟨#[114,101,115,111,108,118,101]⟩:ByteArray))]) (q0 (.agg #[(vb false),(vb false),(vb false),(vs (⟨#[116,111,107,101,110]⟩:ByteArray))]) (q0 (.agg #[(vb false),(vb true),(vb false),(vs (⟨#[105,110,115,116,101,97,100]⟩:ByteArray))]) (q0 (.agg #[(vb false),(vb false),(vb false),(vs (⟨#[102,117,108,108]⟩:ByteArray))]) (q0 (.agg #[(vb false),(vb false),(vb false),ve,(vb true),(vb true),(vb true),(vs (⟨#[112,114,111,109,105,115,101]⟩:ByteArray)),(vb true),(vb true),(vb false),(vs (⟨#[115,105,103,110]⟩:ByteArray)),(vb false),(vb false),(vb false),(vs (⟨#[97,98,111,114,116]⟩:ByteArray)),(vb true),(vb true),(vb true),(vs (⟨#[114,101,115,111,108,118,101]⟩:ByteArray)),(vb false),(vb false),(vb false),(vs (⟨#[116,111,107,101,110]⟩:ByteArray)),(vb false),(vb true),(vb false),(vs (⟨#[105,110,115,116,101,97,100]⟩:ByteArray)),(vb false),(vb false),(vb false),(vs (⟨#[102,117,108,108]⟩:ByteArray))]) ?_)))))))))
 obtain ⟨hp1,h⟩:=h
 refine ss (xo p1 [(vb false),(vb false),(vb false),ve,(vb true),(vb true),(vb true),(vs (⟨#[112,114,111,109,105,115,101]⟩:ByteArray)),(vb true),(vb true),(vb false),(vs (⟨#[115,105,103,110]⟩:ByteArray)),(vb false),(vb false),(vb false),(vs (⟨#[97,98,111,114,116]⟩:ByteArray)),(vb true),(vb true),(vb true),(vs (⟨#[114,101,115,111,108,118,101]⟩:ByteArray)),(vb false),(vb false),(vb false),(vs (⟨#[116,111,107,101,110]⟩:ByteArray)),(vb false),(vb true),(vb false),(vs (⟨#[105,110,115,116,101,97,100]⟩:ByteArray)),(vb false),(vb false),(vb false),(vs (⟨#[102,117,108,108]⟩:ByteArray))] (sizeOf311 _) hp1) ?_
 intro w2 hn1
 have h:=h w2 hn1
 refine ln (er ?_)
 obtain ⟨cT,hv1,h⟩:=h
 refine uW (.inl rfl) (vs:=[(.agg cT)]) (v:=(.agg cT)) results240 ⟨(RV.cellAr (A:=p1) (vs:=cT) (by kernel_rfl) (isAgg311 _) (sizeOf311 _) hv1),trivial⟩ (by kernel_rfl) ?_
 exact ⟨cT,rfl,h⟩
def m_N_j3 (aC:ByteArray) (aD:Bool) (a1:Addr) (x2:Bool) (w0:World) (H:NP) (w:World) (K:Int→WP):Prop :=Br x2 (K 110 w) (∃v1:Bool,w.cell? (a1.add 2)=some (vb v1)∧Br ((!v1) && aD) (∀(H6:NP) (w6:World),Hst w0 H w H6 w6→K 110 w6) (Br (decide ((aC.size:Int)>64)) (∀(H6:NP) (w6:World),Hst w0 H w H6 w6→K 1 w6) (∀(H6:NP) (w6:World),Hst w0 H w H6 w6→K 0 w6)))
def m_N_j2 (aC:ByteArray) (aD:Bool) (a1:Addr) (x1:Bool) (w0:World) (H:NP) (w:World) (K:Int→WP):Prop :=Br x1 (K 110 w) (∃v2:Bool,w.cell? (a1.add 1)=some (vb v2)∧∀(H7:NP) (w7:World),Hst w0 H w H7 w7→m_N_j3 aC aD a1 ((!v2) && (!(decide (aC=⟨#[]⟩)))) w0 H7 w7 K)
def m_N_j1 (aB:Int) (aC:ByteArray) (aD:Bool) (a1:Addr) (w0:World) (H:NP) (w:World) (K:Int→WP):Prop :=Br ((aB != 0) && (aB != 1)) (∀(H4:NP) (w4:World),Hst w0 H w H4 w4→K 110 w4) (∀(H4:NP) (w4:World),Hst w0 H w H4 w4→∃v3:Bool,w4.cell? a1=some (vb v3)∧∀(H8:NP) (w8:World),Hst w0 H4 w4 H8 w8→m_N_j2 aC aD a1 ((!v3) && (aB != 0)) w0 H8 w8 K)
def m_N (aA aB aE:Int) (aC:ByteArray) (aD:Bool) (w0:World) (K:Int→WP):Prop :=Br ((decide (aA<1)) || (decide (aA>7))) (∀(H2:NP) (w2:World),Hst w0 None w0 H2 w2→K 110 w2) (∀(H2:NP) (w2:World),Hst w0 None w0 H2 w2→∃C1:WP,C1 w2.drew∧∀w9,w9=w2.drew→(Calls prog 240 #[] w9 (fun e w10=>∃r1:Array Value,e=.returned (.agg r1)∧C1 w10∧Kept H2 w9 w10∧∃efrom1 etext1 efake1:Bool,∃eword1:ByteArray,(∀w',C1 w'→(Instr.index 311 (.agg r1) (vi aA)).run prog w'=.ok (.agg #[(vb efrom1),(vb etext1),(vb efake1),(vs eword1)]) w')∧∀(p2:Addr) (w11:World),New w10 (.cells #[(vb false),(vb false),(vb false),ve] 310) p2 w11→C1 w11∧(∀j,j<4→CanW w11 (p2.add j))∧¬ H2 p2.block∧∀w12:World,w12=storeRow w11 p2 [(vb efrom1),(vb etext1),(vb efake1),(vs eword1)]→m_N_j1 aB aC aD p2 w0 H2 w12 K))∧(∀(p3:Addr) (w13:World),New w9 (.cells #[(vb false),(vb false),(vb false),ve] 310) p3 w13→C1 w13∧Calls prog 240 #[] w13 (fun e w14=>∃r2:Array Value,e=.returned (.agg r2)∧C1 w14∧Kept H2 w13 w14∧∃efrom2 etext2 efake2:Bool,∃eword2:ByteArray,(∀w',C1 w'→(Instr.index 311 (.agg r2) (vi aA)).run prog w'=.ok (.agg #[(vb efrom2),(vb etext2),(vb efake2),(vs eword2)]) w')∧(∀j,j<4→CanW w14 (p3.add j))∧¬ H2 p3.block∧∀w15:World,w15=storeRow w14 p3 [(vb efrom2),(vb etext2),(vb efake2),(vs eword2)]→m_N_j1 aB aC aD p3 w0 H2 w15 K)))
theorem w_N (aA aB aE:Int) (aC:ByteArray) (aD:Bool) (w0:World) (K:Int→WP) (h:m_N aA aB aE aC aD w0 K) :
  Calls prog 168 #[(.agg #[(vi aA),(vi aB),(vu aE),(vs aC),(vb aD)])] w0 (fun e w'=>∃r3:Int,e=.returned (vi r3)∧K r3 w'):=by
 unfold m_N at h
 refine cw (args:=[(.agg #[(vi aA),(vi aB),(vu aE),(vs aC),(vb aD)])]) func168 ntmps168 ?_
 have hs:=Hst.start w0
 have hb:=HB.nil None w0
 refine eg (sn (O:=(.cells #[(vi aA),(vi aB),(vu aE),(vs aC),(vb aD)] 30)) xb ?_)
 intro p1 w1 hn1
 obtain ⟨H1,hs,hb⟩:=hs.alloc hb hn1
 refine q0 (vi 0) (ln (zA (zA ?_)))
 refine vO (fun ρ wJ=>∃b1'0:Bool,∃HJ:NP,((decide (aA<1))=b1'0)∧Hst w0 None w0 HJ wJ∧HB HJ wJ [(p1,[(vi aA),(vi aB),(vu aE),(vs aC),(vb aD)],30)]∧Has ρ [(1,(vp (some p1))),(11,(vb (b1'0 || (decide (aA>7)))))]) ?_ ?_
 refine rg (q0 (vp (some p1)) (q2 (vi aA) (xl (isAgg3 _) (hb.c0 0 gZ)) (q0 (vb (decide (aA<1))) (q0 (vb (decide (aA<1))) ?_))))
 rcases bte (decide (aA<1)) with hg2 | hg2
 refine sk (yD 7 hg2) (sk (yD 7 hg2) (sk (yD 7 hg2) (q2 (vb true) (xT hg2) (ln ?_))))
 exact ⟨true,_,hg2,hs,hb,hm⟩
 refine q1 (vp (some p1)) (wy 7 hg2) (stp (v:=(vi aA)) (wy 7 hg2) (xl (isAgg3 _) (hb.c0 0 gZ)) (q1 (vb (decide (aA>7))) (wy 7 hg2) (q2 (vb (decide (aA>7))) (xF hg2) (ln ?_))))
 exact ⟨false,_,hg2,hs,hb,hm⟩
 rintro ρ w2 ⟨b1'0,H2,he0,hs,hb,hH⟩
 subst he0
 refine vH hH ?_
 refine zN ?_
 refine zB (t:=((decide (aA<1)) || (decide (aA>7)))) (by kernel_rfl) (fun hc1=>?_) (fun hc1=>?_)
 have h:=h.1 hc1
 refine eg (q0 (vi 110) (ln (er (vL ?_))))
 have h:=h H2 w2 hs
 have hs:=hs.here
 refine rs1 results168 (v:=(vi 110)) ?_
 exact ⟨110,rfl,h⟩
 have h:=h.2 hc1
 refine zC (zN (zA ?_))
 refine vI (fun ρ w=>∃a1:Addr,∃H:NP,Has ρ [(1,(vp (some p1))),(3,(vp (some a1)))]∧Hst w0 H w H w∧HB H w [(p1,[(vi aA),(vi aB),(vu aE),(vs aC),(vb aD)],30)]∧m_N_j1 aB aC aD a1 w0 H w K) ?_ ?_
 rintro ρ w ⟨a1,H,hH,hs,hb,h⟩
 unfold m_N_j1 at h
 refine vC hH ?_
 refine zA (zQ (zA (zA ?_)))
 refine vO (fun ρ wJ=>∃HJ:NP,Hst w0 H w HJ wJ∧HB HJ wJ [(p1,[(vi aA),(vi aB),(vu aE),(vs aC),(vb aD)],30)]∧Has ρ [(1,(vp (some p1))),(3,(vp (some a1))),(16,(vb ((aB != 0) && (aB != 1))))]) ?_ ?_
 refine rg (q0 (vp (some (p1.add 1))) (q2 (vi aB) (xl (isAgg3 _) (hb.c 0 1 gZ)) (q0 (vb (aB != 0)) (q0 (vb (aB != 0)) ?_))))
 refine zL 4 (fun ρ wJ=>∃b4'0:Bool,∃HJ:NP,((aB != 0)=b4'0)∧Hst w0 H w HJ wJ∧HB HJ wJ [(p1,[(vi aA),(vi aB),(vu aE),(vs aC),(vb aD)],30)]∧Has ρ [(1,(vp (some p1))),(3,(vp (some a1))),(24,(vb (b4'0 && (aB != 1))))]) ?_ ?_
 rintro ρ w5 ⟨b4'0,H5,he0,hs,hb,hH⟩
 subst he0
 refine zU hH ?_
 refine q0 (vb ((aB != 0) && (aB != 1))) (ln ?_)
 exact ⟨_,hs,hb,hm⟩
 rcases bte (aB != 0) with hg6 | hg6
 refine q1 (vp (some (p1.add 1))) (wy 20 hg6) (stp (v:=(vi aB)) (wy 20 hg6) (xl (isAgg3 _) (hb.c 0 1 gZ)) (q1 (vb (aB != 1)) (wy 20 hg6) (q2 (vb (aB != 1)) (xT hg6) (zD ?_))))
 exact ⟨true,_,hg6,hs,hb,hm⟩
 refine sk (yD 20 hg6) (sk (yD 20 hg6) (sk (yD 20 hg6) (q2 (vb false) (xF hg6) (zD ?_))))
 exact ⟨false,_,hg6,hs,hb,hm⟩
 rintro ρ w4 ⟨H4,hs,hb,hH⟩
 refine vH hH ?_
 refine zN ?_
 refine zB (t:=((aB != 0) && (aB != 1))) (by kernel_rfl) (fun hc2=>?_) (fun hc2=>?_)
 have h:=h.1 hc2
 refine zC (zN (jAD (t:=((aB != 0) && (aB != 1))) (by kernel_rfl) hc2 (eg (q0 (vi 110) (ln (er (uK (vL ?_))))))))
 have h:=h H4 w4 hs
 have hs:=hs.here
 refine rs1 results168 (v:=(vi 110)) ?_
 exact ⟨110,rfl,h⟩
 have h:=h.2 hc2
 refine zA ?_
 refine vI (fun ρ w=>∃x1:Bool,∃H:NP,Has ρ [(1,(vp (some p1))),(3,(vp (some a1))),(16,(vb x1))]∧Hst w0 H w H w∧HB H w [(p1,[(vi aA),(vi aB),(vu aE),(vs aC),(vb aD)],30)]∧m_N_j2 aC aD a1 x1 w0 H w K) ?_ ?_
 rintro ρ w ⟨x1,H,hH,hs,hb,h⟩
 unfold m_N_j2 at h
 refine vC hH ?_
 refine zB (t:=x1) (by kernel_rfl) (fun hc3=>?_) (fun hc3=>?_)
 have h:=h.1 hc3
 refine zC (zN (jAD (t:=x1) (by kernel_rfl) hc3 (eg (q0 (vi 110) (ln (er (uK (vL (rs1 results168 (v:=(vi 110)) ?_)))))))))
 exact ⟨110,rfl,h⟩
 have h:=h.2 hc3
 refine zA ?_
 refine vI (fun ρ w=>∃x2:Bool,∃H:NP,Has ρ [(1,(vp (some p1))),(3,(vp (some a1))),(16,(vb x2))]∧Hst w0 H w H w∧HB H w [(p1,[(vi aA),(vi aB),(vu aE),(vs aC),(vb aD)],30)]∧m_N_j3 aC aD a1 x2 w0 H w K) ?_ ?_
 rintro ρ w ⟨x2,H,hH,hs,hb,h⟩
 unfold m_N_j3 at h
 refine vC hH ?_
 refine zB (t:=x2) (by kernel_rfl) (fun hc4=>?_) (fun hc4=>?_)
 have h:=h.1 hc4
 refine zC (zN (jAD (t:=x2) (by kernel_rfl) hc4 (eg (q0 (vi 110) (ln (er (uK (vL (rs1 results168 (v:=(vi 110)) ?_)))))))))
 exact ⟨110,rfl,h⟩
 have h:=h.2 hc4
 refine rg (q0 (vp (some (a1.add 2))) ?_)
 obtain ⟨v1,hv1,h⟩:=h
 refine q2 (vb v1) (xl (isAgg4 _) hv1) (q0 (vb (!v1)) (q0 (vb (!v1)) ?_))
 refine zL 3 (fun ρ wJ=>∃b5'0:Bool,∃HJ:NP,((!v1)=b5'0)∧Hst w0 H w HJ wJ∧HB HJ wJ [(p1,[(vi aA),(vi aB),(vu aE),(vs aC),(vb aD)],30)]∧Has ρ [(1,(vp (some p1))),(47,(vb (b5'0 && aD)))]) ?_ ?_
 rintro ρ w6 ⟨b5'0,H6,he0,hs,hb,hH⟩
 subst he0
 refine zU hH ?_
 refine q0 (vb ((!v1) && aD)) (ln ?_)
 refine zB (t:=((!v1) && aD)) (by kernel_rfl) (fun hc5=>?_) (fun hc5=>?_)
 have h:=h.1 hc5
 refine eg (q0 (vi 110) (ln (er (uK (vL ?_)))))
 have h:=h H6 w6 hs
 have hs:=hs.here
 refine rs1 results168 (v:=(vi 110)) ?_
 exact ⟨110,rfl,h⟩
 have h:=h.2 hc5
 refine eg (q0 (vp (some (p1.add 3))) (q2 (vs aC) (xl (isAgg9 _) (hb.c 0 3 gZ)) (q0 (vi (aC.size:Int)) (q0 (vb (decide ((aC.size:Int)>64))) (q0 (vb (decide ((aC.size:Int)>64))) (ln ?_))))))
 refine zB (t:=(decide ((aC.size:Int)>64))) (by kernel_rfl) (fun hc6=>?_) (fun hc6=>?_)
 have h:=h.1 hc6
 refine eg (q0 (vi 1) (ln (er (uK (vL ?_)))))
 have h:=h H6 w6 hs
 have hs:=hs.here
 refine rs1 results168 (v:=(vi 1)) ?_
 exact ⟨1,rfl,h⟩
 have h:=h.2 hc6
 refine zC (tJ (zN (eg (q0 (vi 0) (ln (er ?_))))))
 have h:=h H6 w6 hs
 have hs:=hs.here
 refine rs1 results168 (v:=(vi 0)) ?_
 exact ⟨0,rfl,h⟩
 rcases bte (!v1) with hg8 | hg8
 refine q1 (vp (some (p1.add 4))) (wy 44 hg8) (stp (v:=(vb aD)) (wy 44 hg8) (xl (isAgg4 _) (hb.c 0 4 gZ)) (q2 (vb aD) (xT hg8) (zD ?_)))
 exact ⟨true,_,hg8,hs,hb,hm⟩
 refine sk (yD 44 hg8) (sk (yD 44 hg8) (q2 (vb false) (xF hg8) (zD ?_)))
 exact ⟨false,_,hg8,hs,hb,hm⟩
 refine rg (q0 (vp (some (a1.add 1))) ?_)
 obtain ⟨v2,hv2,h⟩:=h
 refine q2 (vb v2) (xl (isAgg4 _) hv2) (q0 (vb (!v2)) (q0 (vb (!v2)) ?_))
 refine zL 4 (fun ρ wJ=>∃b6'0:Bool,∃HJ:NP,((!v2)=b6'0)∧Hst w0 H w HJ wJ∧HB HJ wJ [(p1,[(vi aA),(vi aB),(vu aE),(vs aC),(vb aD)],30)]∧Has ρ [(1,(vp (some p1))),(3,(vp (some a1))),(40,(vb (b6'0 && (!(decide (aC=⟨#[]⟩))))))]) ?_ ?_
 rintro ρ w7 ⟨b6'0,H7,he0,hs,hb,hH⟩
 subst he0
 refine zU hH ?_
 refine q0 (vb ((!v2) && (!(decide (aC=⟨#[]⟩))))) (zD ?_)
 have h:=h H7 w7 hs
 have hs:=hs.here
 refine zN ?_
 exact ⟨((!v2) && (!(decide (aC=⟨#[]⟩)))),H7,hm,hs,hb,h⟩
 rcases bte (!v2) with hg10 | hg10
 refine q1 (vp (some (p1.add 3))) (wy 36 hg10) (stp (v:=(vs aC)) (wy 36 hg10) (xl (isAgg9 _) (hb.c 0 3 gZ)) (stp (v:=(vb (!(decide (aC=⟨#[]⟩))))) (wy 36 hg10) (jGW (by kernel_rfl) (by kernel_rfl)) (q2 (vb (!(decide (aC=⟨#[]⟩)))) (xT hg10) (zD ?_))))
 exact ⟨true,_,hg10,hs,hb,hm⟩
 refine sk (yD 36 hg10) (sk (yD 36 hg10) (sk (yD 36 hg10) (q2 (vb false) (xF hg10) (zD ?_))))
 exact ⟨false,_,hg10,hs,hb,hm⟩
 refine rg (q0 (vp (some a1)) ?_)
 have h:=h H4 w4 hs
 have hs:=hs.here
 obtain ⟨v3,hv3,h⟩:=h
 refine q2 (vb v3) (xl (isAgg4 _) hv3) (q0 (vb (!v3)) (q0 (vb (!v3)) ?_))
 refine zL 4 (fun ρ wJ=>∃b7'0:Bool,∃HJ:NP,((!v3)=b7'0)∧Hst w0 H4 w4 HJ wJ∧HB HJ wJ [(p1,[(vi aA),(vi aB),(vu aE),(vs aC),(vb aD)],30)]∧Has ρ [(1,(vp (some p1))),(3,(vp (some a1))),(32,(vb (b7'0 && (aB != 0))))]) ?_ ?_
 rintro ρ w8 ⟨b7'0,H8,he0,hs,hb,hH⟩
 subst he0
 refine zU hH ?_
 refine q0 (vb ((!v3) && (aB != 0))) (zD ?_)
 have h:=h H8 w8 hs
 have hs:=hs.here
 refine zN ?_
 exact ⟨((!v3) && (aB != 0)),H8,hm,hs,hb,h⟩
 rcases bte (!v3) with hg12 | hg12
 refine q1 (vp (some (p1.add 1))) (wy 28 hg12) (stp (v:=(vi aB)) (wy 28 hg12) (xl (isAgg3 _) (hb.c 0 1 gZ)) (q1 (vb (aB != 0)) (wy 28 hg12) (q2 (vb (aB != 0)) (xT hg12) (zD ?_))))
 exact ⟨true,_,hg12,hs,hb,hm⟩
 refine sk (yD 28 hg12) (sk (yD 28 hg12) (sk (yD 28 hg12) (q2 (vb false) (xF hg12) (zD ?_))))
 exact ⟨false,_,hg12,hs,hb,hm⟩
 have h:=h H2 w2 hs
 have hs:=hs.here
 obtain ⟨C1,hC,h⟩:=h
 refine vB (fun x=>C1 x∧HB H2 x [(p1,[(vi aA),(vi aB),(vu aE),(vs aC),(vb aD)],30)]) [0,4,5] [5] (by kernel_rfl) (by kernel_rfl) (by kernel_rfl) (by kernel_rfl) ⟨hC,hb.drew⟩ ?_
 intro w9 hw9
 have h:=h w9 hw9
 have hs:Hst w0 H2 w2 H2 w9:=by rw [hw9];exact hs.drew
 have hb:HB H2 w9 [(p1,[(vi aA),(vi aB),(vu aE),(vs aC),(vb aD)],30)]:=by rw [hw9];exact hb.drew
 have hs:=hs.here
 refine qx 1 (vp (some p1)) Kp1 (qz 2 (vi aA) Kp2 (fun w' hw'=>(xl (isAgg3 _) (hw'.2.cell0 0 gZ (by kernel_rfl)))) ?_)
 refine lgo2 (k:=0) (k':=4) (by kernel_rfl) ?_ ?_
 have h:=h.1
 refine slc Kp0 call240 (h.mono ?_)
 rintro e w10 ⟨r1,rfl,hC,hk,h⟩
 refine ⟨_,rfl,.inr ⟨hC,hb.kept hk⟩,?_⟩
 obtain ⟨hs,hb⟩:=hk.hh hs hb
 refine qg 3 ?_
 obtain ⟨efrom1,etext1,efake1,eword1,hv4,h⟩:=h
 refine sy (v:=(.agg #[(vb efrom1),(vb etext1),(vb efake1),(vs eword1)])) Kp3 (fun w' hw'=>(jKU (by kernel_rfl) (by kernel_rfl) (hv4 w' hw'.1))) (lg 4 (jBS (O:=(.cells #[(vb false),(vb false),(vb false),ve] 310)) (fun p=>.pointer (some p)) Kp4 (zJ rfl) (by kernel_rfl) (zO (zeroValue310 _) rfl) ?_))
 intro p2 w11 hn3
 have h:=h p2 w11 hn3
 refine ⟨.inr ⟨h.1,hb.kept (Ext.new (F:=None) hn3).keptP⟩,?_⟩
 have h:=h.2
 have hs:=hs.again (Ext.new (F:=None) hn3).keptP
 have hb:=hb.kept (Ext.new (F:=None) hn3).keptP
 refine lg 5 ?_
 obtain ⟨hp1,hnh,h⟩:=h
 refine uB Kp5 (zJ rfl) (by kernel_rfl) (xo p2 [(vb efrom1),(vb etext1),(vb efake1),(vs eword1)] (sizeOf310 _) hp1) ?_
 intro w12 hn2
 have h:=h w12 hn2
 refine ⟨.inl (by kernel_rfl),?_⟩
 have hk:Kept H2 w11 w12:=by rw [hn2];exact Kept.storeRow hnh
 obtain ⟨hs,hb⟩:=hk.hh hs hb
 refine wn (zN ?_)
 exact ⟨p2,H2,hm,hs,hb,h⟩
 have h:=h.2
 refine jBS (O:=(.cells #[(vb false),(vb false),(vb false),ve] 310)) (fun p=>.pointer (some p)) Kp4 (zJ rfl) (by kernel_rfl) (zO (zeroValue310 _) rfl) ?_
 intro p3 w13 hn5
 have h:=h p3 w13 hn5
 refine ⟨.inr ⟨h.1,hb.kept (Ext.new (F:=None) hn5).keptP⟩,?_⟩
 have h:=h.2
 have hs:=hs.again (Ext.new (F:=None) hn5).keptP
 have hb:=hb.kept (Ext.new (F:=None) hn5).keptP
 refine lg 0 ?_
 refine slc Kp0 call240 (h.mono ?_)
 rintro e w14 ⟨r2,rfl,hC,hk,h⟩
 refine ⟨_,rfl,.inr ⟨hC,hb.kept hk⟩,?_⟩
 obtain ⟨hs,hb⟩:=hk.hh hs hb
 refine qg 3 ?_
 obtain ⟨efrom2,etext2,efake2,eword2,hv5,h⟩:=h
 refine sy (v:=(.agg #[(vb efrom2),(vb etext2),(vb efake2),(vs eword2)])) Kp3 (fun w' hw'=>(jKU (by kernel_rfl) (by kernel_rfl) (hv5 w' hw'.1))) (lg 5 ?_)
 obtain ⟨hp2,hnh,h⟩:=h
 refine uB Kp5 (zJ rfl) (by kernel_rfl) (xo p3 [(vb efrom2),(vb etext2),(vb efake2),(vs eword2)] (sizeOf310 _) hp2) ?_
 intro w15 hn4
 have h:=h w15 hn4
 refine ⟨.inl (by kernel_rfl),?_⟩
 have hk:Kept H2 w14 w15:=by rw [hn4];exact Kept.storeRow hnh
 obtain ⟨hs,hb⟩:=hk.hh hs hb
 refine wn (zN ?_)
 exact ⟨p3,H2,hm,hs,hb,h⟩
def s_U (s1:ByteArray):Int×Int×Int×Int×ByteArray×Sl :=(3,0,0,0,s1,Sl.nil)
theorem pw_U (s1:ByteArray) (w0:World) :
  Calls prog 245 #[(vs s1)] w0 (fun e w'=>(e=.returned (.agg #[(vi 3),(vi 0),(vi 0),(vu 0),(vs s1),Sl.nil.v]))∧Pure w0 w'):=by
 refine cw (args:=[(vs s1)]) func245 ntmps245 ?_
 have hs:=Hst.start w0
 have hb:=HB.nil None w0
 refine eg (sn (O:=(.cells #[(vi 0),(vi 0),(vi 0),(vu 0),ve,Sl.nil.v] 76)) (zO (zeroValue76 _) rfl) ?_)
 intro p1 w1 hn1
 obtain ⟨H1,hs,hb⟩:=hs.alloc hb hn1
 refine ln (eg (q0 (vs s1) (q0 (.agg #[(vi 3),(vi 0),(vi 0),(vu 0),(vs s1),Sl.nil.v]) (uA (zJ rfl) (xo p1 [(vi 3),(vi 0),(vi 0),(vu 0),(vs s1),Sl.nil.v] (sizeOf76 _) (hb.k0 0 6 gZ)) ?_))))
 intro w2 hn2
 obtain ⟨hs,hb⟩:=hb.s0 (l':=[(p1,[(vi 3),(vi 0),(vi 0),(vu 0),(vs s1),Sl.nil.v],76)]) 0 [(vi 3),(vi 0),(vi 0),(vu 0),(vs s1),Sl.nil.v] hs hn2 gZ
 refine ln (er (uW (.inl rfl) (vs:=[(.agg #[(vi 3),(vi 0),(vi 0),(vu 0),(vs s1),Sl.nil.v])]) (v:=(.agg #[(vi 3),(vi 0),(vi 0),(vu 0),(vs s1),Sl.nil.v])) results245 ⟨(rva (isAgg76 _) (sizeOf76 _) (hb.r0 0 6 gZ)),trivial⟩ (by kernel_rfl) ?_))
 exact ⟨by kernel_rfl,(Ext.refl (F:=None) _).hst hs⟩
theorem p_U (s1:ByteArray) (w0:World):Calls prog 245 #[(.string s1)] w0 (fun e w'=>e=.returned (.agg #[(.int .i64 (s_U s1).1),(.int .i64 (s_U s1).2.1),(.int .i64 (s_U s1).2.2.1),(.int .u64 (s_U s1).2.2.2.1),(.string (s_U s1).2.2.2.2.1),(s_U s1).2.2.2.2.2.v])∧Pure w0 w'):=pw_U s1 w0
def s_Y (n1:Int):Int×Int×Int×Int×ByteArray×Sl :=(2,0,0,n1,⟨#[]⟩,Sl.nil)
theorem pw_Y (n1:Int) (w0:World) :
  Calls prog 246 #[(vu n1)] w0 (fun e w'=>(e=.returned (.agg #[(vi 2),(vi 0),(vi 0),(vu n1),ve,Sl.nil.v]))∧Pure w0 w'):=by
 refine cw (args:=[(vu n1)]) func246 ntmps246 ?_
 have hs:=Hst.start w0
 have hb:=HB.nil None w0
 refine eg (sn (O:=(.cells #[(vi 0),(vi 0),(vi 0),(vu 0),ve,Sl.nil.v] 76)) (zO (zeroValue76 _) rfl) ?_)
 intro p1 w1 hn1
 obtain ⟨H1,hs,hb⟩:=hs.alloc hb hn1
 refine ln (eg (q0 (vu n1) (q0 (.agg #[(vi 2),(vi 0),(vi 0),(vu n1),ve,Sl.nil.v]) (uA (zJ rfl) (xo p1 [(vi 2),(vi 0),(vi 0),(vu n1),ve,Sl.nil.v] (sizeOf76 _) (hb.k0 0 6 gZ)) ?_))))
 intro w2 hn2
 obtain ⟨hs,hb⟩:=hb.s0 (l':=[(p1,[(vi 2),(vi 0),(vi 0),(vu n1),ve,Sl.nil.v],76)]) 0 [(vi 2),(vi 0),(vi 0),(vu n1),ve,Sl.nil.v] hs hn2 gZ
 refine ln (er (uW (.inl rfl) (vs:=[(.agg #[(vi 2),(vi 0),(vi 0),(vu n1),ve,Sl.nil.v])]) (v:=(.agg #[(vi 2),(vi 0),(vi 0),(vu n1),ve,Sl.nil.v])) results246 ⟨(rva (isAgg76 _) (sizeOf76 _) (hb.r0 0 6 gZ)),trivial⟩ (by kernel_rfl) ?_))
 exact ⟨by kernel_rfl,(Ext.refl (F:=None) _).hst hs⟩
theorem p_Y (n1:Int) (w0:World):Calls prog 246 #[(.int .u64 n1)] w0 (fun e w'=>e=.returned (.agg #[(.int .i64 (s_Y n1).1),(.int .i64 (s_Y n1).2.1),(.int .i64 (s_Y n1).2.2.1),(.int .u64 (s_Y n1).2.2.2.1),(.string (s_Y n1).2.2.2.2.1),(s_Y n1).2.2.2.2.2.v])∧Pure w0 w'):=pw_Y n1 w0
def m_J4 (aL aM:Int) (aN aO:Int) (aP:ByteArray) (aQ:Sl) (bJ bK:Int) (bL bM:Int) (bN:ByteArray) (bO:Sl) (w0:World) (K:Int→Int→Int→Int→ByteArray→Sl→WP):Prop :=∀(H3:NP) (w3:World),Hst w0 None w0 H3 w3→∀(p4:Addr) (w4:World),New w3 (.cells #[(vi aL),(vi aM),(vi aN),(vu aO),(vs aP),aQ.v,(vi bJ),(vi bK),(vi bL),(vu bM),(vs bN),bO.v] 76) p4 w4→∀(w5:World),Hst w0 H3 w4 H3 w5→K 4 0 0 0 ⟨#[]⟩ (Sl.mk (some p4) 2 2) w5
theorem w_J4 (aL aM:Int) (aN aO:Int) (aP:ByteArray) (aQ:Sl) (bJ bK:Int) (bL bM:Int) (bN:ByteArray) (bO:Sl) (w0:World) (K:Int→Int→Int→Int→ByteArray→Sl→WP) (h:m_J4 aL aM aN aO aP aQ bJ bK bL bM bN bO w0 K) :
  Calls prog 244 #[(.agg #[(vi aL),(vi aM),(vi aN),(vu aO),(vs aP),aQ.v]),(.agg #[(vi bJ),(vi bK),(vi bL),(vu bM),(vs bN),bO.v])] w0 (fun e w'=>∃aF aG:Int,∃aH aI:Int,∃aJ:ByteArray,∃aK:Sl,e=.returned (.agg #[(vi aF),(vi aG),(vi aH),(vu aI),(vs aJ),aK.v])∧K aF aG aH aI aJ aK w'):=by
 unfold m_J4 at h
 refine cw (args:=[(.agg #[(vi aL),(vi aM),(vi aN),(vu aO),(vs aP),aQ.v]),(.agg #[(vi bJ),(vi bK),(vi bL),(vu bM),(vs bN),bO.v])]) func244 ntmps244 ?_
 have hs:=Hst.start w0
 have hb:=HB.nil None w0
 refine eg (sn (O:=(.cells #[(vi aL),(vi aM),(vi aN),(vu aO),(vs aP),aQ.v] 76)) xb ?_)
 intro p1 w1 hn1
 obtain ⟨H1,hs,hb⟩:=hs.alloc hb hn1
 refine sn (O:=(.cells #[(vi bJ),(vi bK),(vi bL),(vu bM),(vs bN),bO.v] 76)) xb ?_
 intro p2 w2 hn2
 obtain ⟨H2,hs,hb⟩:=hs.alloc hb hn2
 refine sn (O:=(.cells #[(vi 0),(vi 0),(vi 0),(vu 0),ve,Sl.nil.v] 76)) (zO (zeroValue76 _) rfl) ?_
 intro p3 w3 hn3
 obtain ⟨H3,hs,hb⟩:=hs.alloc hb hn3
 refine ln (eg (q2 (.agg #[(vi aL),(vi aM),(vi aN),(vu aO),(vs aP),aQ.v]) (xa p1 [(vi aL),(vi aM),(vi aN),(vu aO),(vs aP),aQ.v] (isAgg76 _) (sizeOf76 _) (hb.r0 2 6 (gS (gS gZ)))) (q2 (.agg #[(vi bJ),(vi bK),(vi bL),(vu bM),(vs bN),bO.v]) (xa p2 [(vi bJ),(vi bK),(vi bL),(vu bM),(vs bN),bO.v] (isAgg76 _) (sizeOf76 _) (hb.r0 1 6 (gS gZ))) ?_)))
 have h:=h H3 w3 hs
 have hs:=hs.here
 refine vR (O:=(.cells #[(vi aL),(vi aM),(vi aN),(vu aO),(vs aP),aQ.v,(vi bJ),(vi bK),(vi bL),(vu bM),(vs bN),bO.v] 76)) (fun p=>(Sl.mk (some p) 2 2).v) (zJ rfl) (zK (vs:=#[(0,(.agg #[(vi aL),(vi aM),(vi aN),(vu aO),(vs aP),aQ.v])),(1,(.agg #[(vi bJ),(vi bK),(vi bL),(vu bM),(vs bN),bO.v]))]) (by kernel_rfl) (by kernel_rfl)) ?_
 intro p4 w4 hn5
 have h:=h p4 w4 hn5
 have hs:=hs.again (Ext.new (F:=None) hn5).keptP
 have hb:=hb.kept (Ext.new (F:=None) hn5).keptP
 refine q0 (.agg #[(vi 4),(vi 0),(vi 0),(vu 0),ve,(Sl.mk (some p4) 2 2).v]) (uA (zJ rfl) (xo p3 [(vi 4),(vi 0),(vi 0),(vu 0),ve,(Sl.mk (some p4) 2 2).v] (sizeOf76 _) (hb.k0 0 6 gZ)) ?_)
 intro w5 hn4
 obtain ⟨hs,hb⟩:=hb.s0 (l':=[(p3,[(vi 4),(vi 0),(vi 0),(vu 0),ve,(Sl.mk (some p4) 2 2).v],76),(p2,[(vi bJ),(vi bK),(vi bL),(vu bM),(vs bN),bO.v],76),(p1,[(vi aL),(vi aM),(vi aN),(vu aO),(vs aP),aQ.v],76)]) 0 [(vi 4),(vi 0),(vi 0),(vu 0),ve,(Sl.mk (some p4) 2 2).v] hs hn4 gZ
 refine ln (er ?_)
 have h:=h w5 hs
 have hs:=hs.here
 refine uW (.inl rfl) (vs:=[(.agg #[(vi 4),(vi 0),(vi 0),(vu 0),ve,(Sl.mk (some p4) 2 2).v])]) (v:=(.agg #[(vi 4),(vi 0),(vi 0),(vu 0),ve,(Sl.mk (some p4) 2 2).v])) results244 ⟨(rva (isAgg76 _) (sizeOf76 _) (hb.r0 0 6 gZ)),trivial⟩ (by kernel_rfl) ?_
 exact ⟨4,0,0,0,⟨#[]⟩,(Sl.mk (some p4) 2 2),rfl,h⟩
def m_K4 (c1:Int) (text1:ByteArray) (w0:World) (K:Int→Int→Int→Int→ByteArray→Sl→WP):Prop :=∀(H1:NP) (w4:World),Hst w0 None w0 H1 w4→Calls prog 244 #[(.agg #[(vi 2),(vi 0),(vi 0),(vu c1),ve,Sl.nil.v]),(.agg #[(vi 3),(vi 0),(vi 0),(vu 0),(vs text1),Sl.nil.v])] w4 (fun e w5=>∃aF aG:Int,∃aH aI:Int,∃aJ:ByteArray,∃aK:Sl,e=.returned (.agg #[(vi aF),(vi aG),(vi aH),(vu aI),(vs aJ),aK.v])∧Kept H1 w4 w5∧Calls prog 244 #[(.agg #[(vi 3),(vi 0),(vi 0),(vu 0),(vs (⟨#[100,101,97,108]⟩:ByteArray)),Sl.nil.v]),(.agg #[(vi aF),(vi aG),(vi aH),(vu aI),(vs aJ),aK.v])] w5 (fun e w6=>∃aR aS:Int,∃aT aU:Int,∃aV:ByteArray,∃aW:Sl,e=.returned (.agg #[(vi aR),(vi aS),(vi aT),(vu aU),(vs aV),aW.v])∧Kept H1 w5 w6∧∀(w7:World),Hst w0 H1 w6 H1 w7→K aR aS aT aU aV aW w7))
theorem w_K4 (c1:Int) (text1:ByteArray) (w0:World) (K:Int→Int→Int→Int→ByteArray→Sl→WP) (h:m_K4 c1 text1 w0 K) :
  Calls prog 241 #[(vu c1),(vs text1)] w0 (fun e w'=>∃aX aY:Int,∃aZ bA:Int,∃bB:ByteArray,∃bC:Sl,e=.returned (.agg #[(vi aX),(vi aY),(vi aZ),(vu bA),(vs bB),bC.v])∧K aX aY aZ bA bB bC w'):=by
 unfold m_K4 at h
 refine cw (args:=[(vu c1),(vs text1)]) func241 ntmps241 ?_
 have hs:=Hst.start w0
 have hb:=HB.nil None w0
 refine eg (sn (O:=(.cells #[(vi 0),(vi 0),(vi 0),(vu 0),ve,Sl.nil.v] 76)) (zO (zeroValue76 _) rfl) ?_)
 intro p1 w1 hn1
 obtain ⟨H1,hs,hb⟩:=hs.alloc hb hn1
 refine ln (eg ?_)
 refine sc call245 ((p_U (⟨#[100,101,97,108]⟩:ByteArray) w1).mono ?_)
 rintro e w2 ⟨he,hE⟩
 refine ⟨(.agg #[(vi 3),(vi 0),(vi 0),(vu 0),(vs (⟨#[100,101,97,108]⟩:ByteArray)),Sl.nil.v]),he.trans (by kernel_rfl),?_⟩
 have hs:=hs.pure hE
 have hb:=hb.pure hE
 refine q0 (vu c1) ?_
 refine sc call246 ((p_Y c1 w2).mono ?_)
 rintro e w3 ⟨he,hE⟩
 refine ⟨(.agg #[(vi 2),(vi 0),(vi 0),(vu c1),ve,Sl.nil.v]),he.trans (by kernel_rfl),?_⟩
 have hs:=hs.pure hE
 have hb:=hb.pure hE
 refine q0 (vs text1) ?_
 refine sc call245 ((p_U text1 w3).mono ?_)
 rintro e w4 ⟨he,hE⟩
 refine ⟨(.agg #[(vi 3),(vi 0),(vi 0),(vu 0),(vs text1),Sl.nil.v]),he.trans (by kernel_rfl),?_⟩
 have hs:=hs.pure hE
 have hb:=hb.pure hE
 have h:=h H1 w4 hs
 have hs:=hs.here
 refine sc call244 (h.mono ?_)
 rintro e w5 ⟨aF,aG,aH,aI,aJ,aK,rfl,hk,h⟩
 refine ⟨_,rfl,?_⟩
 obtain ⟨hs,hb⟩:=hk.hh hs hb
 refine sc call244 (h.mono ?_)
 rintro e w6 ⟨aR,aS,aT,aU,aV,aW,rfl,hk,h⟩
 refine ⟨_,rfl,?_⟩
 obtain ⟨hs,hb⟩:=hk.hh hs hb
 refine ss (xo p1 [(vi aR),(vi aS),(vi aT),(vu aU),(vs aV),aW.v] (sizeOf76 _) (hb.k0 0 6 gZ)) ?_
 intro w7 hn2
 obtain ⟨hs,hb⟩:=hb.s0 (l':=[(p1,[(vi aR),(vi aS),(vi aT),(vu aU),(vs aV),aW.v],76)]) 0 [(vi aR),(vi aS),(vi aT),(vu aU),(vs aV),aW.v] hs hn2 gZ
 refine ln (er ?_)
 have h:=h w7 hs
 have hs:=hs.here
 refine uW (.inl rfl) (vs:=[(.agg #[(vi aR),(vi aS),(vi aT),(vu aU),(vs aV),aW.v])]) (v:=(.agg #[(vi aR),(vi aS),(vi aT),(vu aU),(vs aV),aW.v])) results241 ⟨(rva (isAgg76 _) (sizeOf76 _) (hb.r0 0 6 gZ)),trivial⟩ (by kernel_rfl) ?_
 exact ⟨aR,aS,aT,aU,aV,aW,rfl,h⟩
def m_L4 (from1:Int) (fake1:Bool) (bD bE:Int) (bF bG:Int) (bH:ByteArray) (bI:Sl) (w0:World) (K:Int→Int→Int→Int→ByteArray→Sl→WP):Prop :=∀(H3:NP) (w3:World),Hst w0 None w0 H3 w3→∀(p3:Addr) (w4:World),New w3 (.cells #[(vi bD),(vi bE),(vi bF),(vu bG),(vs bH),bI.v] 76) p3 w4→∀(w5:World),Hst w0 H3 w4 H3 w5→K (cond fake1 9 8) from1 (q6.wrap (1 - from1)) 0 ⟨#[]⟩ (Sl.mk (some p3) 1 1) w5
theorem w_L4 (from1:Int) (fake1:Bool) (bD bE:Int) (bF bG:Int) (bH:ByteArray) (bI:Sl) (w0:World) (K:Int→Int→Int→Int→ByteArray→Sl→WP) (h:m_L4 from1 fake1 bD bE bF bG bH bI w0 K) :
  Calls prog 242 #[(vi from1),(vb fake1),(.agg #[(vi bD),(vi bE),(vi bF),(vu bG),(vs bH),bI.v])] w0 (fun e w'=>∃aF aG:Int,∃aH aI:Int,∃aJ:ByteArray,∃aK:Sl,e=.returned (.agg #[(vi aF),(vi aG),(vi aH),(vu aI),(vs aJ),aK.v])∧K aF aG aH aI aJ aK w'):=by
 unfold m_L4 at h
 refine cw (args:=[(vi from1),(vb fake1),(.agg #[(vi bD),(vi bE),(vi bF),(vu bG),(vs bH),bI.v])]) func242 ntmps242 ?_
 have hs:=Hst.start w0
 have hb:=HB.nil None w0
 refine eg (sn (O:=(.cells #[(vi bD),(vi bE),(vi bF),(vu bG),(vs bH),bI.v] 76)) xb ?_)
 intro p1 w1 hn1
 obtain ⟨H1,hs,hb⟩:=hs.alloc hb hn1
 refine sn (O:=(.cells #[(vi 0),(vi 0),(vi 0),(vu 0),ve,Sl.nil.v] 76)) (zO (zeroValue76 _) rfl) ?_
 intro p2 w2 hn2
 obtain ⟨H2,hs,hb⟩:=hs.alloc hb hn2
 refine ln (eg (q0 (vi 8) (ln (zA (eg (q0 (vb fake1) (zD ?_)))))))
 refine zN ?_
 refine vO (fun ρ wJ=>∃b1'0:Bool,∃HJ:NP,(fake1=b1'0)∧Hst w0 None w0 HJ wJ∧HB HJ wJ [(p2,[(vi 0),(vi 0),(vi 0),(vu 0),ve,Sl.nil.v],76),(p1,[(vi bD),(vi bE),(vi bF),(vu bG),(vs bH),bI.v],76)]∧Has ρ [(0,(vi from1)),(5,(vp (some p1))),(6,(vp (some p2))),(7,(vi (cond b1'0 9 8)))]) ?_ ?_
 refine zB (t:=fake1) (by kernel_rfl) (fun hc2=>?_) (fun hc2=>?_)
 refine rg (q0 (vi 9) (ln ?_))
 exact ⟨true,_,hc2,hs,hb,hm⟩
 refine zC (zN ?_)
 exact ⟨false,_,hc2,hs,hb,hm⟩
 rintro ρ w3 ⟨b1'0,H3,he0,hs,hb,hH⟩
 subst he0
 refine vH hH ?_
 refine zN (eg (q0 (vi (cond fake1 9 8)) (q0 (vi from1) (q0 (vi from1) (q0 (vi (q6.wrap (1 - from1))) (q2 (.agg #[(vi bD),(vi bE),(vi bF),(vu bG),(vs bH),bI.v]) (xa p1 [(vi bD),(vi bE),(vi bF),(vu bG),(vs bH),bI.v] (isAgg76 _) (sizeOf76 _) (hb.r0 1 6 (gS gZ))) ?_))))))
 have h:=h H3 w3 hs
 have hs:=hs.here
 refine vR (O:=(.cells #[(vi bD),(vi bE),(vi bF),(vu bG),(vs bH),bI.v] 76)) (fun p=>(Sl.mk (some p) 1 1).v) (zJ rfl) (zK (vs:=#[(0,(.agg #[(vi bD),(vi bE),(vi bF),(vu bG),(vs bH),bI.v]))]) (by kernel_rfl) (by kernel_rfl)) ?_
 intro p3 w4 hn4
 have h:=h p3 w4 hn4
 have hs:=hs.again (Ext.new (F:=None) hn4).keptP
 have hb:=hb.kept (Ext.new (F:=None) hn4).keptP
 refine q0 (.agg #[(vi (cond fake1 9 8)),(vi from1),(vi (q6.wrap (1 - from1))),(vu 0),ve,(Sl.mk (some p3) 1 1).v]) (uA (zJ rfl) (xo p2 [(vi (cond fake1 9 8)),(vi from1),(vi (q6.wrap (1 - from1))),(vu 0),ve,(Sl.mk (some p3) 1 1).v] (sizeOf76 _) (hb.k0 0 6 gZ)) ?_)
 intro w5 hn3
 obtain ⟨hs,hb⟩:=hb.s0 (l':=[(p2,[(vi (cond fake1 9 8)),(vi from1),(vi (q6.wrap (1 - from1))),(vu 0),ve,(Sl.mk (some p3) 1 1).v],76),(p1,[(vi bD),(vi bE),(vi bF),(vu bG),(vs bH),bI.v],76)]) 0 [(vi (cond fake1 9 8)),(vi from1),(vi (q6.wrap (1 - from1))),(vu 0),ve,(Sl.mk (some p3) 1 1).v] hs hn3 gZ
 refine ln (er ?_)
 have h:=h w5 hs
 have hs:=hs.here
 refine uW (.inl rfl) (vs:=[(.agg #[(vi (cond fake1 9 8)),(vi from1),(vi (q6.wrap (1 - from1))),(vu 0),ve,(Sl.mk (some p3) 1 1).v])]) (v:=(.agg #[(vi (cond fake1 9 8)),(vi from1),(vi (q6.wrap (1 - from1))),(vu 0),ve,(Sl.mk (some p3) 1 1).v])) results242 ⟨(rva (isAgg76 _) (sizeOf76 _) (hb.r0 0 6 gZ)),trivial⟩ (by kernel_rfl) ?_
 exact ⟨(cond fake1 9 8),from1,(q6.wrap (1 - from1)),0,⟨#[]⟩,(Sl.mk (some p3) 1 1),rfl,h⟩
def m_M4 (who1 aL:Int) (aM aN aO:Int) (aP:ByteArray) (aQ:Sl) (w0:World) (K:Int→Int→Int→Int→ByteArray→Sl→WP):Prop :=∀(H2:NP) (w2:World),Hst w0 None w0 H2 w2→∀(p3:Addr) (w3:World),New w2 (.cells #[(vi aL),(vi aM),(vi aN),(vu aO),(vs aP),aQ.v] 76) p3 w3→∀(w4:World),Hst w0 H2 w3 H2 w4→K 7 who1 0 0 ⟨#[]⟩ (Sl.mk (some p3) 1 1) w4
theorem w_M4 (who1 aL:Int) (aM aN aO:Int) (aP:ByteArray) (aQ:Sl) (w0:World) (K:Int→Int→Int→Int→ByteArray→Sl→WP) (h:m_M4 who1 aL aM aN aO aP aQ w0 K) :
  Calls prog 243 #[(vi who1),(.agg #[(vi aL),(vi aM),(vi aN),(vu aO),(vs aP),aQ.v])] w0 (fun e w'=>∃aF aG:Int,∃aH aI:Int,∃aJ:ByteArray,∃aK:Sl,e=.returned (.agg #[(vi aF),(vi aG),(vi aH),(vu aI),(vs aJ),aK.v])∧K aF aG aH aI aJ aK w'):=by
 unfold m_M4 at h
 refine cw (args:=[(vi who1),(.agg #[(vi aL),(vi aM),(vi aN),(vu aO),(vs aP),aQ.v])]) func243 ntmps243 ?_
 have hs:=Hst.start w0
 have hb:=HB.nil None w0
 refine eg (sn (O:=(.cells #[(vi aL),(vi aM),(vi aN),(vu aO),(vs aP),aQ.v] 76)) xb ?_)
 intro p1 w1 hn1
 obtain ⟨H1,hs,hb⟩:=hs.alloc hb hn1
 refine sn (O:=(.cells #[(vi 0),(vi 0),(vi 0),(vu 0),ve,Sl.nil.v] 76)) (zO (zeroValue76 _) rfl) ?_
 intro p2 w2 hn2
 obtain ⟨H2,hs,hb⟩:=hs.alloc hb hn2
 refine ln (eg (q0 (vi who1) (q2 (.agg #[(vi aL),(vi aM),(vi aN),(vu aO),(vs aP),aQ.v]) (xa p1 [(vi aL),(vi aM),(vi aN),(vu aO),(vs aP),aQ.v] (isAgg76 _) (sizeOf76 _) (hb.r0 1 6 (gS gZ))) ?_)))
 have h:=h H2 w2 hs
 have hs:=hs.here
 refine vR (O:=(.cells #[(vi aL),(vi aM),(vi aN),(vu aO),(vs aP),aQ.v] 76)) (fun p=>(Sl.mk (some p) 1 1).v) (zJ rfl) (zK (vs:=#[(0,(.agg #[(vi aL),(vi aM),(vi aN),(vu aO),(vs aP),aQ.v]))]) (by kernel_rfl) (by kernel_rfl)) ?_
 intro p3 w3 hn4
 have h:=h p3 w3 hn4
 have hs:=hs.again (Ext.new (F:=None) hn4).keptP
 have hb:=hb.kept (Ext.new (F:=None) hn4).keptP
 refine q0 (.agg #[(vi 7),(vi who1),(vi 0),(vu 0),ve,(Sl.mk (some p3) 1 1).v]) (uA (zJ rfl) (xo p2 [(vi 7),(vi who1),(vi 0),(vu 0),ve,(Sl.mk (some p3) 1 1).v] (sizeOf76 _) (hb.k0 0 6 gZ)) ?_)
 intro w4 hn3
 obtain ⟨hs,hb⟩:=hb.s0 (l':=[(p2,[(vi 7),(vi who1),(vi 0),(vu 0),ve,(Sl.mk (some p3) 1 1).v],76),(p1,[(vi aL),(vi aM),(vi aN),(vu aO),(vs aP),aQ.v],76)]) 0 [(vi 7),(vi who1),(vi 0),(vu 0),ve,(Sl.mk (some p3) 1 1).v] hs hn3 gZ
 refine ln (er ?_)
 have h:=h w4 hs
 have hs:=hs.here
 refine uW (.inl rfl) (vs:=[(.agg #[(vi 7),(vi who1),(vi 0),(vu 0),ve,(Sl.mk (some p3) 1 1).v])]) (v:=(.agg #[(vi 7),(vi who1),(vi 0),(vu 0),ve,(Sl.mk (some p3) 1 1).v])) results243 ⟨(rva (isAgg76 _) (sizeOf76 _) (hb.r0 0 6 gZ)),trivial⟩ (by kernel_rfl) ?_
 exact ⟨7,who1,0,0,⟨#[]⟩,(Sl.mk (some p3) 1 1),rfl,h⟩
def m_N4 (aA aB aE:Int) (aC:ByteArray) (aD:Bool) (w0:World) (K:Int→Int→Int→Int→ByteArray→Sl→WP):Prop :=∀(H2:NP) (w2:World),Hst w0 None w0 H2 w2→Calls prog 241 #[(vu aE),(vs aC)] w2 (fun e w3=>∃aF aG:Int,∃aH aI:Int,∃aJ:ByteArray,∃aK:Sl,e=.returned (.agg #[(vi aF),(vi aG),(vi aH),(vu aI),(vs aJ),aK.v])∧Kept H2 w2 w3∧Br (aA == 1) (∀(H3:NP) (w5:World),Hst w0 H2 w3 H3 w5→Calls prog 242 #[(vi aB),(vb aD),(.agg #[(vi aF),(vi aG),(vi aH),(vu aI),(vs aJ),aK.v])] w5 (fun e w6=>∃aR aS:Int,∃aT aU:Int,∃aV:ByteArray,∃aW:Sl,e=.returned (.agg #[(vi aR),(vi aS),(vi aT),(vu aU),(vs aV),aW.v])∧Kept H3 w5 w6∧∀(w7:World),Hst w0 H3 w6 H3 w7→K aR aS aT aU aV aW w7)) (Br (aA == 2) (∀(H3:NP) (w5:World),Hst w0 H2 w3 H3 w5→Calls prog 243 #[(vi aB),(.agg #[(vi aF),(vi aG),(vi aH),(vu aI),(vs aJ),aK.v])] w5 (fun e w8=>∃aX aY:Int,∃aZ bA:Int,∃bB:ByteArray,∃bC:Sl,e=.returned (.agg #[(vi aX),(vi aY),(vi aZ),(vu bA),(vs bB),bC.v])∧Kept H3 w5 w8∧∀(w9:World),Hst w0 H3 w8 H3 w9→K aX aY aZ bA bB bC w9)) (Br (aA == 3) (∀(H3:NP) (w5:World),Hst w0 H2 w3 H3 w5→∃C1:WP,C1 w5.drew∧∀w10,w10=w5.drew→Calls prog 245 #[(vs (⟨#[97,98,111,114,116]⟩:ByteArray))] w10 (fun e w11=>∃cU cV:Int,∃cW cX:Int,∃cY:ByteArray,∃cZ:Sl,e=.returned (.agg #[(vi cU),(vi cV),(vi cW),(vu cX),(vs cY),cZ.v])∧C1 w11∧Kept H3 w10 w11∧Calls prog 246 #[(vu aE)] w11 (fun e w12=>∃dA dB:Int,∃dC dD:Int,∃dE:ByteArray,∃dF:Sl,e=.returned (.agg #[(vi dA),(vi dB),(vi dC),(vu dD),(vs dE),dF.v])∧Kept H3 w11 w12∧Calls prog 244 #[(.agg #[(vi cU),(vi cV),(vi cW),(vu cX),(vs cY),cZ.v]),(.agg #[(vi dA),(vi dB),(vi dC),(vu dD),(vs dE),dF.v])] w12 (fun e w13=>∃dG dH:Int,∃dI dJ:Int,∃dK:ByteArray,∃dL:Sl,e=.returned (.agg #[(vi dG),(vi dH),(vi dI),(vu dJ),(vs dK),dL.v])∧Kept H3 w12 w13∧Calls prog 243 #[(vi 0),(.agg #[(vi dG),(vi dH),(vi dI),(vu dJ),(vs dK),dL.v])] w13 (fun e w14=>∃bP bQ:Int,∃bR bS:Int,∃bT:ByteArray,∃bU:Sl,e=.returned (.agg #[(vi bP),(vi bQ),(vi bR),(vu bS),(vs bT),bU.v])∧Kept H3 w13 w14∧∀(w15:World),Hst w0 H3 w14 H3 w15→K bP bQ bR bS bT bU w15))))) (Br (aA == 4) (∀(H3:NP) (w5:World),Hst w0 H2 w3 H3 w5→∃C2:WP,C2 w5.drew∧∀w16,w16=w5.drew→Calls prog 245 #[(vs (⟨#[114,101,115,111,108,118,101]⟩:ByteArray))] w16 (fun e w17=>∃dM dN:Int,∃dO dP:Int,∃dQ:ByteArray,∃dR:Sl,e=.returned (.agg #[(vi dM),(vi dN),(vi dO),(vu dP),(vs dQ),dR.v])∧C2 w17∧Kept H3 w16 w17∧Calls prog 242 #[(vi 0),(vb aD),(.agg #[(vi aF),(vi aG),(vi aH),(vu aI),(vs aJ),aK.v])] w17 (fun e w18=>∃dS dT:Int,∃dU dV:Int,∃dW:ByteArray,∃dX:Sl,e=.returned (.agg #[(vi dS),(vi dT),(vi dU),(vu dV),(vs dW),dX.v])∧C2 w18∧Kept H3 w17 w18∧Calls prog 242 #[(vi 1),(vb aD),(.agg #[(vi aF),(vi aG),(vi aH),(vu aI),(vs aJ),aK.v])] w18 (fun e w19=>∃dY dZ:Int,∃eA eB:Int,∃eC:ByteArray,∃eD:Sl,e=.returned (.agg #[(vi dY),(vi dZ),(vi eA),(vu eB),(vs eC),eD.v])∧C2 w19∧Kept H3 w18 w19∧Calls prog 244 #[(.agg #[(vi dS),(vi dT),(vi dU),(vu dV),(vs dW),dX.v]),(.agg #[(vi dY),(vi dZ),(vi eA),(vu eB),(vs eC),eD.v])] w19 (fun e w20=>∃eE eF:Int,∃eG eH:Int,∃eI:ByteArray,∃eJ:Sl,e=.returned (.agg #[(vi eE),(vi eF),(vi eG),(vu eH),(vs eI),eJ.v])∧C2 w20∧Kept H3 w19 w20∧Calls prog 244 #[(.agg #[(vi dM),(vi dN),(vi dO),(vu dP),(vs dQ),dR.v]),(.agg #[(vi eE),(vi eF),(vi eG),(vu eH),(vs eI),eJ.v])] w20 (fun e w21=>∃eK eL:Int,∃eM eN:Int,∃eO:ByteArray,∃eP:Sl,e=.returned (.agg #[(vi eK),(vi eL),(vi eM),(vu eN),(vs eO),eP.v])∧C2 w21∧Kept H3 w20 w21∧Calls prog 243 #[(vi aB),(.agg #[(vi eK),(vi eL),(vi eM),(vu eN),(vs eO),eP.v])] w21 (fun e w22=>∃bV bW:Int,∃bX bY:Int,∃bZ:ByteArray,∃cA:Sl,e=.returned (.agg #[(vi bV),(vi bW),(vi bX),(vu bY),(vs bZ),cA.v])∧Kept H3 w21 w22∧∀(w23:World),Hst w0 H3 w22 H3 w23→K bV bW bX bY bZ cA w23))))))) (Br (aA == 5) (∀(H3:NP) (w5:World),Hst w0 H2 w3 H3 w5→∃C3:WP,C3 w5.drew∧∀w24,w24=w5.drew→Calls prog 245 #[(vs (⟨#[97,98,111,114,116,101,100]⟩:ByteArray))] w24 (fun e w25=>∃eQ eR:Int,∃eS eT:Int,∃eU:ByteArray,∃eV:Sl,e=.returned (.agg #[(vi eQ),(vi eR),(vi eS),(vu eT),(vs eU),eV.v])∧C3 w25∧Kept H3 w24 w25∧Calls prog 246 #[(vu aE)] w25 (fun e w26=>∃eW eX:Int,∃eY eZ:Int,∃fA:ByteArray,∃fB:Sl,e=.returned (.agg #[(vi eW),(vi eX),(vi eY),(vu eZ),(vs fA),fB.v])∧Kept H3 w25 w26∧Calls prog 244 #[(.agg #[(vi eQ),(vi eR),(vi eS),(vu eT),(vs eU),eV.v]),(.agg #[(vi eW),(vi eX),(vi eY),(vu eZ),(vs fA),fB.v])] w26 (fun e w27=>∃fC fD:Int,∃fE fF:Int,∃fG:ByteArray,∃fH:Sl,e=.returned (.agg #[(vi fC),(vi fD),(vi fE),(vu fF),(vs fG),fH.v])∧Kept H3 w26 w27∧Calls prog 243 #[(vi 2),(.agg #[(vi fC),(vi fD),(vi fE),(vu fF),(vs fG),fH.v])] w27 (fun e w28=>∃cB cC:Int,∃cD cE:Int,∃cF:ByteArray,∃cG:Sl,e=.returned (.agg #[(vi cB),(vi cC),(vi cD),(vu cE),(vs cF),cG.v])∧Kept H3 w27 w28∧∀(w29:World),Hst w0 H3 w28 H3 w29→K cB cC cD cE cF cG w29))))) (Br (aA == 6) (∀(H3:NP) (w5:World),Hst w0 H2 w3 H3 w5→∃C4:WP,C4 w5.drew∧∀w30,w30=w5.drew→Calls prog 245 #[(vs (⟨#[105,110,115,116,101,97,100]⟩:ByteArray))] w30 (fun e w31=>∃fI fJ:Int,∃fK fL:Int,∃fM:ByteArray,∃fN:Sl,e=.returned (.agg #[(vi fI),(vi fJ),(vi fK),(vu fL),(vs fM),fN.v])∧C4 w31∧Kept H3 w30 w31∧Calls prog 244 #[(.agg #[(vi fI),(vi fJ),(vi fK),(vu fL),(vs fM),fN.v]),(.agg #[(vi aF),(vi aG),(vi aH),(vu aI),(vs aJ),aK.v])] w31 (fun e w32=>∃fO fP:Int,∃fQ fR:Int,∃fS:ByteArray,∃fT:Sl,e=.returned (.agg #[(vi fO),(vi fP),(vi fQ),(vu fR),(vs fS),fT.v])∧Kept H3 w31 w32∧Calls prog 243 #[(vi 2),(.agg #[(vi fO),(vi fP),(vi fQ),(vu fR),(vs fS),fT.v])] w32 (fun e w33=>∃cH cI:Int,∃cJ cK:Int,∃cL:ByteArray,∃cM:Sl,e=.returned (.agg #[(vi cH),(vi cI),(vi cJ),(vu cK),(vs cL),cM.v])∧Kept H3 w32 w33∧∀(w34:World),Hst w0 H3 w33 H3 w34→K cH cI cJ cK cL cM w34)))) (∀(H3:NP) (w5:World),Hst w0 H2 w3 H3 w5→∃C5:WP,C5 w5.drew∧∀w35,w35=w5.drew→Calls prog 245 #[(vs (⟨#[102,117,108,108]⟩:ByteArray))] w35 (fun e w36=>∃fU fV:Int,∃fW fX:Int,∃fY:ByteArray,∃fZ:Sl,e=.returned (.agg #[(vi fU),(vi fV),(vi fW),(vu fX),(vs fY),fZ.v])∧C5 w36∧Kept H3 w35 w36∧Calls prog 246 #[(vu aE)] w36 (fun e w37=>∃gA gB:Int,∃gC gD:Int,∃gE:ByteArray,∃gF:Sl,e=.returned (.agg #[(vi gA),(vi gB),(vi gC),(vu gD),(vs gE),gF.v])∧Kept H3 w36 w37∧Calls prog 244 #[(.agg #[(vi fU),(vi fV),(vi fW),(vu fX),(vs fY),fZ.v]),(.agg #[(vi gA),(vi gB),(vi gC),(vu gD),(vs gE),gF.v])] w37 (fun e w38=>∃cN cO:Int,∃cP cQ:Int,∃cR:ByteArray,∃cS:Sl,e=.returned (.agg #[(vi cN),(vi cO),(vi cP),(vu cQ),(vs cR),cS.v])∧Kept H3 w37 w38∧∀(w39:World),Hst w0 H3 w38 H3 w39→K cN cO cP cQ cR cS w39))))))))))
theorem w_N4 (aA aB aE:Int) (aC:ByteArray) (aD:Bool) (w0:World) (K:Int→Int→Int→Int→ByteArray→Sl→WP) (h:m_N4 aA aB aE aC aD w0 K) :
  Calls prog 169 #[(.agg #[(vi aA),(vi aB),(vu aE),(vs aC),(vb aD)])] w0 (fun e w'=>∃gG gH:Int,∃gI gJ:Int,∃gK:ByteArray,∃gL:Sl,e=.returned (.agg #[(vi gG),(vi gH),(vi gI),(vu gJ),(vs gK),gL.v])∧K gG gH gI gJ gK gL w'):=by
 unfold m_N4 at h
 refine cw (args:=[(.agg #[(vi aA),(vi aB),(vu aE),(vs aC),(vb aD)])]) func169 ntmps169 ?_
 have hs:=Hst.start w0
 have hb:=HB.nil None w0
 refine eg (sn (O:=(.cells #[(vi aA),(vi aB),(vu aE),(vs aC),(vb aD)] 30)) xb ?_)
 intro p1 w1 hn1
 obtain ⟨H1,hs,hb⟩:=hs.alloc hb hn1
 refine sn (O:=(.cells #[(vi 0),(vi 0),(vi 0),(vu 0),ve,Sl.nil.v] 76)) (zO (zeroValue76 _) rfl) ?_
 intro p2 w2 hn2
 obtain ⟨H2,hs,hb⟩:=hs.alloc hb hn2
 refine ln (eg (q0 (vp (some (p1.add 2))) (q2 (vu aE) (xl (isAgg23 _) (hb.c 1 2 (gS gZ))) (q0 (vp (some (p1.add 3))) (q2 (vs aC) (xl (isAgg9 _) (hb.c 1 3 (gS gZ))) ?_)))))
 have h:=h H2 w2 hs
 have hs:=hs.here
 refine sc call241 (h.mono ?_)
 rintro e w3 ⟨aF,aG,aH,aI,aJ,aK,rfl,hk,h⟩
 refine ⟨_,rfl,?_⟩
 obtain ⟨hs,hb⟩:=hk.hh hs hb
 refine sn (O:=(.cells #[(vi 0),(vi 0),(vi 0),(vu 0),ve,Sl.nil.v] 76)) (zO (zeroValue76 _) rfl) ?_
 intro p3 w4 hn3
 obtain ⟨H3,hs,hb⟩:=hs.alloc hb hn3
 refine ss (xo p3 [(vi aF),(vi aG),(vi aH),(vu aI),(vs aJ),aK.v] (sizeOf76 _) (hb.k0 0 6 gZ)) ?_
 intro w5 hn4
 obtain ⟨hs,hb⟩:=hb.s0 (l':=[(p3,[(vi aF),(vi aG),(vi aH),(vu aI),(vs aJ),aK.v],76),(p2,[(vi 0),(vi 0),(vi 0),(vu 0),ve,Sl.nil.v],76),(p1,[(vi aA),(vi aB),(vu aE),(vs aC),(vb aD)],30)]) 0 [(vi aF),(vi aG),(vi aH),(vu aI),(vs aJ),aK.v] hs hn4 gZ
 refine ln (zA (eg (q0 (vp (some p1)) (q2 (vi aA) (xl (isAgg3 _) (hb.c0 2 (gS (gS gZ)))) (ln (zQ (eg ?_)))))))
 refine q0 (vb (aA == 1)) (q0 (vb (aA == 1)) (ln ?_))
 refine zB (t:=(aA == 1)) (by kernel_rfl) (fun hc1=>?_) (fun hc1=>?_)
 have h:=h.1 hc1
 refine eg (q0 (vp (some (p1.add 1))) (q2 (vi aB) (xl (isAgg3 _) (hb.c 2 1 (gS (gS gZ)))) (q0 (vp (some (p1.add 4))) (q2 (vb aD) (xl (isAgg4 _) (hb.c 2 4 (gS (gS gZ)))) (q2 (.agg #[(vi aF),(vi aG),(vi aH),(vu aI),(vs aJ),aK.v]) (xa p3 [(vi aF),(vi aG),(vi aH),(vu aI),(vs aJ),aK.v] (isAgg76 _) (sizeOf76 _) (hb.r0 0 6 gZ)) ?_)))))
 have h:=h H3 w5 hs
 have hs:=hs.here
 refine sc call242 (h.mono ?_)
 rintro e w6 ⟨aR,aS,aT,aU,aV,aW,rfl,hk,h⟩
 refine ⟨_,rfl,?_⟩
 obtain ⟨hs,hb⟩:=hk.hh hs hb
 refine ss (xo p2 [(vi aR),(vi aS),(vi aT),(vu aU),(vs aV),aW.v] (sizeOf76 _) (hb.k0 1 6 (gS gZ))) ?_
 intro w7 hn5
 obtain ⟨hs,hb⟩:=hb.s0 (l':=[(p3,[(vi aF),(vi aG),(vi aH),(vu aI),(vs aJ),aK.v],76),(p2,[(vi aR),(vi aS),(vi aT),(vu aU),(vs aV),aW.v],76),(p1,[(vi aA),(vi aB),(vu aE),(vs aC),(vb aD)],30)]) 1 [(vi aR),(vi aS),(vi aT),(vu aU),(vs aV),aW.v] hs hn5 (gS gZ)
 refine ln (er (uK (vL ?_)))
 have h:=h w7 hs
 have hs:=hs.here
 refine uW (.inl rfl) (vs:=[(.agg #[(vi aR),(vi aS),(vi aT),(vu aU),(vs aV),aW.v])]) (v:=(.agg #[(vi aR),(vi aS),(vi aT),(vu aU),(vs aV),aW.v])) results169 ⟨(rva (isAgg76 _) (sizeOf76 _) (hb.r0 1 6 (gS gZ))),trivial⟩ (by kernel_rfl) ?_
 exact ⟨aR,aS,aT,aU,aV,aW,rfl,h⟩
 have h:=h.2 hc1
 refine eg (q0 (vb (aA == 2)) (q0 (vb (aA == 2)) (ln ?_)))
 refine zB (t:=(aA == 2)) (by kernel_rfl) (fun hc2=>?_) (fun hc2=>?_)
 have h:=h.1 hc2
 refine eg (q0 (vp (some (p1.add 1))) (q2 (vi aB) (xl (isAgg3 _) (hb.c 2 1 (gS (gS gZ)))) (q2 (.agg #[(vi aF),(vi aG),(vi aH),(vu aI),(vs aJ),aK.v]) (xa p3 [(vi aF),(vi aG),(vi aH),(vu aI),(vs aJ),aK.v] (isAgg76 _) (sizeOf76 _) (hb.r0 0 6 gZ)) ?_)))
 have h:=h H3 w5 hs
 have hs:=hs.here
 refine sc call243 (h.mono ?_)
 rintro e w8 ⟨aX,aY,aZ,bA,bB,bC,rfl,hk,h⟩
 refine ⟨_,rfl,?_⟩
 obtain ⟨hs,hb⟩:=hk.hh hs hb
 refine ss (xo p2 [(vi aX),(vi aY),(vi aZ),(vu bA),(vs bB),bC.v] (sizeOf76 _) (hb.k0 1 6 (gS gZ))) ?_
 intro w9 hn6
 obtain ⟨hs,hb⟩:=hb.s0 (l':=[(p3,[(vi aF),(vi aG),(vi aH),(vu aI),(vs aJ),aK.v],76),(p2,[(vi aX),(vi aY),(vi aZ),(vu bA),(vs bB),bC.v],76),(p1,[(vi aA),(vi aB),(vu aE),(vs aC),(vb aD)],30)]) 1 [(vi aX),(vi aY),(vi aZ),(vu bA),(vs bB),bC.v] hs hn6 (gS gZ)
 refine ln (er (uK (vL ?_)))
 have h:=h w9 hs
 have hs:=hs.here
 refine uW (.inl rfl) (vs:=[(.agg #[(vi aX),(vi aY),(vi aZ),(vu bA),(vs bB),bC.v])]) (v:=(.agg #[(vi aX),(vi aY),(vi aZ),(vu bA),(vs bB),bC.v])) results169 ⟨(rva (isAgg76 _) (sizeOf76 _) (hb.r0 1 6 (gS gZ))),trivial⟩ (by kernel_rfl) ?_
 exact ⟨aX,aY,aZ,bA,bB,bC,rfl,h⟩
 have h:=h.2 hc2
 refine eg (q0 (vb (aA == 3)) (q0 (vb (aA == 3)) (ln ?_)))
 refine zB (t:=(aA == 3)) (by kernel_rfl) (fun hc3=>?_) (fun hc3=>?_)
 have h:=h.1 hc3
 refine zA ?_
 have h:=h H3 w5 hs
 have hs:=hs.here
 obtain ⟨C1,hC,h⟩:=h
 refine vB (fun x=>C1 x∧HB H3 x [(p3,[(vi aF),(vi aG),(vi aH),(vu aI),(vs aJ),aK.v],76),(p2,[(vi 0),(vi 0),(vi 0),(vu 0),ve,Sl.nil.v],76),(p1,[(vi aA),(vi aB),(vu aE),(vs aC),(vb aD)],30)]) [0,3,4,5,6] [3,4,5,6] (by kernel_rfl) (by kernel_rfl) (by kernel_rfl) (by kernel_rfl) ⟨hC,hb.drew⟩ ?_
 intro w10 hw10
 have h:=h w10 hw10
 have hs:Hst w0 H3 w5 H3 w10:=by rw [hw10];exact hs.drew
 have hb:HB H3 w10 [(p3,[(vi aF),(vi aG),(vi aH),(vu aI),(vs aJ),aK.v],76),(p2,[(vi 0),(vi 0),(vi 0),(vu 0),ve,Sl.nil.v],76),(p1,[(vi aA),(vi aB),(vu aE),(vs aC),(vb aD)],30)]:=by rw [hw10];exact hb.drew
 have hs:=hs.here
 refine qx 1 (vp (some (p1.add 2))) Kp1 (qz 2 (vu aE) Kp2 (fun w' hw'=>(xl (isAgg23 _) (hw'.2.cell 2 2 (gS (gS gZ)) (by kernel_rfl)))) (lg 0 ?_))
 refine slc Kp0 call245 (h.mono ?_)
 rintro e w11 ⟨cU,cV,cW,cX,cY,cZ,rfl,hC,hk,h⟩
 refine ⟨_,rfl,.inr ⟨hC,hb.kept hk⟩,?_⟩
 obtain ⟨hs,hb⟩:=hk.hh hs hb
 refine lg 3 ?_
 refine slc Kp3 call246 (h.mono ?_)
 rintro e w12 ⟨dA,dB,dC,dD,dE,dF,rfl,hk,h⟩
 refine ⟨_,rfl,.inl (by kernel_rfl),?_⟩
 obtain ⟨hs,hb⟩:=hk.hh hs hb
 refine lg 4 ?_
 refine slc Kp4 call244 (h.mono ?_)
 rintro e w13 ⟨dG,dH,dI,dJ,dK,dL,rfl,hk,h⟩
 refine ⟨_,rfl,.inl (by kernel_rfl),?_⟩
 obtain ⟨hs,hb⟩:=hk.hh hs hb
 refine lg 5 ?_
 refine slc Kp5 call243 (h.mono ?_)
 rintro e w14 ⟨bP,bQ,bR,bS,bT,bU,rfl,hk,h⟩
 refine ⟨_,rfl,.inl (by kernel_rfl),?_⟩
 obtain ⟨hs,hb⟩:=hk.hh hs hb
 refine lg 6 (uB Kp6 (zJ rfl) (by kernel_rfl) (xo p2 [(vi bP),(vi bQ),(vi bR),(vu bS),(vs bT),bU.v] (sizeOf76 _) (hb.k0 1 6 (gS gZ))) ?_)
 intro w15 hn7
 obtain ⟨hs,hb⟩:=hb.s0 (l':=[(p3,[(vi aF),(vi aG),(vi aH),(vu aI),(vs aJ),aK.v],76),(p2,[(vi bP),(vi bQ),(vi bR),(vu bS),(vs bT),bU.v],76),(p1,[(vi aA),(vi aB),(vu aE),(vs aC),(vb aD)],30)]) 1 [(vi bP),(vi bQ),(vi bR),(vu bS),(vs bT),bU.v] hs hn7 (gS gZ)
 refine ⟨.inl (by kernel_rfl),?_⟩
 refine wn (zN (er (uK (vL ?_))))
 have h:=h w15 hs
 have hs:=hs.here
 refine uW (.inl rfl) (vs:=[(.agg #[(vi bP),(vi bQ),(vi bR),(vu bS),(vs bT),bU.v])]) (v:=(.agg #[(vi bP),(vi bQ),(vi bR),(vu bS),(vs bT),bU.v])) results169 ⟨(rva (isAgg76 _) (sizeOf76 _) (hb.r0 1 6 (gS gZ))),trivial⟩ (by kernel_rfl) ?_
 exact ⟨bP,bQ,bR,bS,bT,bU,rfl,h⟩
 have h:=h.2 hc3
 refine eg (q0 (vb (aA == 4)) (q0 (vb (aA == 4)) (ln ?_)))
 refine zB (t:=(aA == 4)) (by kernel_rfl) (fun hc4=>?_) (fun hc4=>?_)
 have h:=h.1 hc4
 refine zA ?_
 have h:=h H3 w5 hs
 have hs:=hs.here
 obtain ⟨C2,hC,h⟩:=h
 refine vB (fun x=>C2 x∧HB H3 x [(p3,[(vi aF),(vi aG),(vi aH),(vu aI),(vs aJ),aK.v],76),(p2,[(vi 0),(vi 0),(vi 0),(vu 0),ve,Sl.nil.v],76),(p1,[(vi aA),(vi aB),(vu aE),(vs aC),(vb aD)],30)]) [2,6,10,11,12,13,14] [13,14] (by kernel_rfl) (by kernel_rfl) (by kernel_rfl) (by kernel_rfl) ⟨hC,hb.drew⟩ ?_
 intro w16 hw16
 have h:=h w16 hw16
 have hs:Hst w0 H3 w5 H3 w16:=by rw [hw16];exact hs.drew
 have hb:HB H3 w16 [(p3,[(vi aF),(vi aG),(vi aH),(vu aI),(vs aJ),aK.v],76),(p2,[(vi 0),(vi 0),(vi 0),(vu 0),ve,Sl.nil.v],76),(p1,[(vi aA),(vi aB),(vu aE),(vs aC),(vb aD)],30)]:=by rw [hw16];exact hb.drew
 have hs:=hs.here
 refine qx 0 (vp (some (p1.add 1))) Kp0 (qz 1 (vi aB) Kp1 (fun w' hw'=>(xl (isAgg3 _) (hw'.2.cell 2 1 (gS (gS gZ)) (by kernel_rfl)))) (qx 3 (vp (some (p1.add 4))) Kp3 (qz 4 (vb aD) Kp4 (fun w' hw'=>(xl (isAgg4 _) (hw'.2.cell 2 4 (gS (gS gZ)) (by kernel_rfl)))) (qz 5 (.agg #[(vi aF),(vi aG),(vi aH),(vu aI),(vs aJ),aK.v]) Kp5 (fun w' hw'=>(xa p3 [(vi aF),(vi aG),(vi aH),(vu aI),(vs aJ),aK.v] (isAgg76 _) (sizeOf76 _) (hw'.2.r0 0 6 gZ))) (qx 7 (vp (some (p1.add 4))) Kp7 (qz 8 (vb aD) Kp8 (fun w' hw'=>(xl (isAgg4 _) (hw'.2.cell 2 4 (gS (gS gZ)) (by kernel_rfl)))) (qz 9 (.agg #[(vi aF),(vi aG),(vi aH),(vu aI),(vs aJ),aK.v]) Kp9 (fun w' hw'=>(xa p3 [(vi aF),(vi aG),(vi aH),(vu aI),(vs aJ),aK.v] (isAgg76 _) (sizeOf76 _) (hw'.2.r0 0 6 gZ))) (lg 2 ?_))))))))
 refine slc Kp2 call245 (h.mono ?_)
 rintro e w17 ⟨dM,dN,dO,dP,dQ,dR,rfl,hC,hk,h⟩
 refine ⟨_,rfl,.inr ⟨hC,hb.kept hk⟩,?_⟩
 obtain ⟨hs,hb⟩:=hk.hh hs hb
 refine lg 6 ?_
 refine slc Kp6 call242 (h.mono ?_)
 rintro e w18 ⟨dS,dT,dU,dV,dW,dX,rfl,hC,hk,h⟩
 refine ⟨_,rfl,.inr ⟨hC,hb.kept hk⟩,?_⟩
 obtain ⟨hs,hb⟩:=hk.hh hs hb
 refine lg 10 ?_
 refine slc (zS (S8 (zG (zG zR)))) call242 (h.mono ?_)
 rintro e w19 ⟨dY,dZ,eA,eB,eC,eD,rfl,hC,hk,h⟩
 refine ⟨_,rfl,.inr ⟨hC,hb.kept hk⟩,?_⟩
 obtain ⟨hs,hb⟩:=hk.hh hs hb
 refine lg 11 ?_
 refine slc (zS (S8 (zG (zG (zG zR))))) call244 (h.mono ?_)
 rintro e w20 ⟨eE,eF,eG,eH,eI,eJ,rfl,hC,hk,h⟩
 refine ⟨_,rfl,.inr ⟨hC,hb.kept hk⟩,?_⟩
 obtain ⟨hs,hb⟩:=hk.hh hs hb
 refine lg 12 ?_
 refine slc (zS (S8 (S4 zR))) call244 (h.mono ?_)
 rintro e w21 ⟨eK,eL,eM,eN,eO,eP,rfl,hC,hk,h⟩
 refine ⟨_,rfl,.inr ⟨hC,hb.kept hk⟩,?_⟩
 obtain ⟨hs,hb⟩:=hk.hh hs hb
 refine lg 13 ?_
 refine slc (zS (S8 (S4 (zG zR)))) call243 (h.mono ?_)
 rintro e w22 ⟨bV,bW,bX,bY,bZ,cA,rfl,hk,h⟩
 refine ⟨_,rfl,.inl (by kernel_rfl),?_⟩
 obtain ⟨hs,hb⟩:=hk.hh hs hb
 refine lg 14 (uB (zS (S8 (S4 (zG (zG zR))))) (zJ rfl) (by kernel_rfl) (xo p2 [(vi bV),(vi bW),(vi bX),(vu bY),(vs bZ),cA.v] (sizeOf76 _) (hb.k0 1 6 (gS gZ))) ?_)
 intro w23 hn8
 obtain ⟨hs,hb⟩:=hb.s0 (l':=[(p3,[(vi aF),(vi aG),(vi aH),(vu aI),(vs aJ),aK.v],76),(p2,[(vi bV),(vi bW),(vi bX),(vu bY),(vs bZ),cA.v],76),(p1,[(vi aA),(vi aB),(vu aE),(vs aC),(vb aD)],30)]) 1 [(vi bV),(vi bW),(vi bX),(vu bY),(vs bZ),cA.v] hs hn8 (gS gZ)
 refine ⟨.inl (by kernel_rfl),?_⟩
 refine wn (zN (er (uK (vL ?_))))
 have h:=h w23 hs
 have hs:=hs.here
 refine uW (.inl rfl) (vs:=[(.agg #[(vi bV),(vi bW),(vi bX),(vu bY),(vs bZ),cA.v])]) (v:=(.agg #[(vi bV),(vi bW),(vi bX),(vu bY),(vs bZ),cA.v])) results169 ⟨(rva (isAgg76 _) (sizeOf76 _) (hb.r0 1 6 (gS gZ))),trivial⟩ (by kernel_rfl) ?_
 exact ⟨bV,bW,bX,bY,bZ,cA,rfl,h⟩
 have h:=h.2 hc4
 refine eg (q0 (vb (aA == 5)) (q0 (vb (aA == 5)) (ln ?_)))
 refine zB (t:=(aA == 5)) (by kernel_rfl) (fun hc5=>?_) (fun hc5=>?_)
 have h:=h.1 hc5
 refine zA ?_
 have h:=h H3 w5 hs
 have hs:=hs.here
 obtain ⟨C3,hC,h⟩:=h
 refine vB (fun x=>C3 x∧HB H3 x [(p3,[(vi aF),(vi aG),(vi aH),(vu aI),(vs aJ),aK.v],76),(p2,[(vi 0),(vi 0),(vi 0),(vu 0),ve,Sl.nil.v],76),(p1,[(vi aA),(vi aB),(vu aE),(vs aC),(vb aD)],30)]) [0,3,4,5,6] [3,4,5,6] (by kernel_rfl) (by kernel_rfl) (by kernel_rfl) (by kernel_rfl) ⟨hC,hb.drew⟩ ?_
 intro w24 hw24
 have h:=h w24 hw24
 have hs:Hst w0 H3 w5 H3 w24:=by rw [hw24];exact hs.drew
 have hb:HB H3 w24 [(p3,[(vi aF),(vi aG),(vi aH),(vu aI),(vs aJ),aK.v],76),(p2,[(vi 0),(vi 0),(vi 0),(vu 0),ve,Sl.nil.v],76),(p1,[(vi aA),(vi aB),(vu aE),(vs aC),(vb aD)],30)]:=by rw [hw24];exact hb.drew
 have hs:=hs.here
 refine qx 1 (vp (some (p1.add 2))) Kp1 (qz 2 (vu aE) Kp2 (fun w' hw'=>(xl (isAgg23 _) (hw'.2.cell 2 2 (gS (gS gZ)) (by kernel_rfl)))) (lg 0 ?_))
 refine slc Kp0 call245 (h.mono ?_)
 rintro e w25 ⟨eQ,eR,eS,eT,eU,eV,rfl,hC,hk,h⟩
 refine ⟨_,rfl,.inr ⟨hC,hb.kept hk⟩,?_⟩
 obtain ⟨hs,hb⟩:=hk.hh hs hb
 refine lg 3 ?_
 refine slc Kp3 call246 (h.mono ?_)
 rintro e w26 ⟨eW,eX,eY,eZ,fA,fB,rfl,hk,h⟩
 refine ⟨_,rfl,.inl (by kernel_rfl),?_⟩
 obtain ⟨hs,hb⟩:=hk.hh hs hb
 refine lg 4 ?_
 refine slc Kp4 call244 (h.mono ?_)
 rintro e w27 ⟨fC,fD,fE,fF,fG,fH,rfl,hk,h⟩
 refine ⟨_,rfl,.inl (by kernel_rfl),?_⟩
 obtain ⟨hs,hb⟩:=hk.hh hs hb
 refine lg 5 ?_
 refine slc Kp5 call243 (h.mono ?_)
 rintro e w28 ⟨cB,cC,cD,cE,cF,cG,rfl,hk,h⟩
 refine ⟨_,rfl,.inl (by kernel_rfl),?_⟩
 obtain ⟨hs,hb⟩:=hk.hh hs hb
 refine lg 6 (uB Kp6 (zJ rfl) (by kernel_rfl) (xo p2 [(vi cB),(vi cC),(vi cD),(vu cE),(vs cF),cG.v] (sizeOf76 _) (hb.k0 1 6 (gS gZ))) ?_)
 intro w29 hn9
 obtain ⟨hs,hb⟩:=hb.s0 (l':=[(p3,[(vi aF),(vi aG),(vi aH),(vu aI),(vs aJ),aK.v],76),(p2,[(vi cB),(vi cC),(vi cD),(vu cE),(vs cF),cG.v],76),(p1,[(vi aA),(vi aB),(vu aE),(vs aC),(vb aD)],30)]) 1 [(vi cB),(vi cC),(vi cD),(vu cE),(vs cF),cG.v] hs hn9 (gS gZ)
 refine ⟨.inl (by kernel_rfl),?_⟩
 refine wn (zN (er (uK (vL ?_))))
 have h:=h w29 hs
 have hs:=hs.here
 refine uW (.inl rfl) (vs:=[(.agg #[(vi cB),(vi cC),(vi cD),(vu cE),(vs cF),cG.v])]) (v:=(.agg #[(vi cB),(vi cC),(vi cD),(vu cE),(vs cF),cG.v])) results169 ⟨(rva (isAgg76 _) (sizeOf76 _) (hb.r0 1 6 (gS gZ))),trivial⟩ (by kernel_rfl) ?_
 exact ⟨cB,cC,cD,cE,cF,cG,rfl,h⟩
 have h:=h.2 hc5
 refine eg (q0 (vb (aA == 6)) (q0 (vb (aA == 6)) (ln ?_)))
 refine zB (t:=(aA == 6)) (by kernel_rfl) (fun hc6=>?_) (fun hc6=>?_)
 have h:=h.1 hc6
 refine zA ?_
 have h:=h H3 w5 hs
 have hs:=hs.here
 obtain ⟨C4,hC,h⟩:=h
 refine vB (fun x=>C4 x∧HB H3 x [(p3,[(vi aF),(vi aG),(vi aH),(vu aI),(vs aJ),aK.v],76),(p2,[(vi 0),(vi 0),(vi 0),(vu 0),ve,Sl.nil.v],76),(p1,[(vi aA),(vi aB),(vu aE),(vs aC),(vb aD)],30)]) [0,2,3,4] [2,3,4] (by kernel_rfl) (by kernel_rfl) (by kernel_rfl) (by kernel_rfl) ⟨hC,hb.drew⟩ ?_
 intro w30 hw30
 have h:=h w30 hw30
 have hs:Hst w0 H3 w5 H3 w30:=by rw [hw30];exact hs.drew
 have hb:HB H3 w30 [(p3,[(vi aF),(vi aG),(vi aH),(vu aI),(vs aJ),aK.v],76),(p2,[(vi 0),(vi 0),(vi 0),(vu 0),ve,Sl.nil.v],76),(p1,[(vi aA),(vi aB),(vu aE),(vs aC),(vb aD)],30)]:=by rw [hw30];exact hb.drew
 have hs:=hs.here
 refine qz 1 (.agg #[(vi aF),(vi aG),(vi aH),(vu aI),(vs aJ),aK.v]) Kp1 (fun w' hw'=>(xa p3 [(vi aF),(vi aG),(vi aH),(vu aI),(vs aJ),aK.v] (isAgg76 _) (sizeOf76 _) (hw'.2.r0 0 6 gZ))) (lg 0 ?_)
 refine slc Kp0 call245 (h.mono ?_)
 rintro e w31 ⟨fI,fJ,fK,fL,fM,fN,rfl,hC,hk,h⟩
 refine ⟨_,rfl,.inr ⟨hC,hb.kept hk⟩,?_⟩
 obtain ⟨hs,hb⟩:=hk.hh hs hb
 refine lg 2 ?_
 refine slc Kp2 call244 (h.mono ?_)
 rintro e w32 ⟨fO,fP,fQ,fR,fS,fT,rfl,hk,h⟩
 refine ⟨_,rfl,.inl (by kernel_rfl),?_⟩
 obtain ⟨hs,hb⟩:=hk.hh hs hb
 refine lg 3 ?_
 refine slc Kp3 call243 (h.mono ?_)
 rintro e w33 ⟨cH,cI,cJ,cK,cL,cM,rfl,hk,h⟩
 refine ⟨_,rfl,.inl (by kernel_rfl),?_⟩
 obtain ⟨hs,hb⟩:=hk.hh hs hb
 refine lg 4 (uB Kp4 (zJ rfl) (by kernel_rfl) (xo p2 [(vi cH),(vi cI),(vi cJ),(vu cK),(vs cL),cM.v] (sizeOf76 _) (hb.k0 1 6 (gS gZ))) ?_)
 intro w34 hn10
 obtain ⟨hs,hb⟩:=hb.s0 (l':=[(p3,[(vi aF),(vi aG),(vi aH),(vu aI),(vs aJ),aK.v],76),(p2,[(vi cH),(vi cI),(vi cJ),(vu cK),(vs cL),cM.v],76),(p1,[(vi aA),(vi aB),(vu aE),(vs aC),(vb aD)],30)]) 1 [(vi cH),(vi cI),(vi cJ),(vu cK),(vs cL),cM.v] hs hn10 (gS gZ)
 refine ⟨.inl (by kernel_rfl),?_⟩
 refine wn (zN (er (uK (vL ?_))))
 have h:=h w34 hs
 have hs:=hs.here
 refine uW (.inl rfl) (vs:=[(.agg #[(vi cH),(vi cI),(vi cJ),(vu cK),(vs cL),cM.v])]) (v:=(.agg #[(vi cH),(vi cI),(vi cJ),(vu cK),(vs cL),cM.v])) results169 ⟨(rva (isAgg76 _) (sizeOf76 _) (hb.r0 1 6 (gS gZ))),trivial⟩ (by kernel_rfl) ?_
 exact ⟨cH,cI,cJ,cK,cL,cM,rfl,h⟩
 have h:=h.2 hc6
 refine zC (tJ (zN (zA ?_)))
 have h:=h H3 w5 hs
 have hs:=hs.here
 obtain ⟨C5,hC,h⟩:=h
 refine vB (fun x=>C5 x∧HB H3 x [(p3,[(vi aF),(vi aG),(vi aH),(vu aI),(vs aJ),aK.v],76),(p2,[(vi 0),(vi 0),(vi 0),(vu 0),ve,Sl.nil.v],76),(p1,[(vi aA),(vi aB),(vu aE),(vs aC),(vb aD)],30)]) [0,3,4,5] [3,4,5] (by kernel_rfl) (by kernel_rfl) (by kernel_rfl) (by kernel_rfl) ⟨hC,hb.drew⟩ ?_
 intro w35 hw35
 have h:=h w35 hw35
 have hs:Hst w0 H3 w5 H3 w35:=by rw [hw35];exact hs.drew
 have hb:HB H3 w35 [(p3,[(vi aF),(vi aG),(vi aH),(vu aI),(vs aJ),aK.v],76),(p2,[(vi 0),(vi 0),(vi 0),(vu 0),ve,Sl.nil.v],76),(p1,[(vi aA),(vi aB),(vu aE),(vs aC),(vb aD)],30)]:=by rw [hw35];exact hb.drew
 have hs:=hs.here
 refine qx 1 (vp (some (p1.add 2))) Kp1 (qz 2 (vu aE) Kp2 (fun w' hw'=>(xl (isAgg23 _) (hw'.2.cell 2 2 (gS (gS gZ)) (by kernel_rfl)))) (lg 0 ?_))
 refine slc Kp0 call245 (h.mono ?_)
 rintro e w36 ⟨fU,fV,fW,fX,fY,fZ,rfl,hC,hk,h⟩
 refine ⟨_,rfl,.inr ⟨hC,hb.kept hk⟩,?_⟩
 obtain ⟨hs,hb⟩:=hk.hh hs hb
 refine lg 3 ?_
 refine slc Kp3 call246 (h.mono ?_)
 rintro e w37 ⟨gA,gB,gC,gD,gE,gF,rfl,hk,h⟩
 refine ⟨_,rfl,.inl (by kernel_rfl),?_⟩
 obtain ⟨hs,hb⟩:=hk.hh hs hb
 refine lg 4 ?_
 refine slc Kp4 call244 (h.mono ?_)
 rintro e w38 ⟨cN,cO,cP,cQ,cR,cS,rfl,hk,h⟩
 refine ⟨_,rfl,.inl (by kernel_rfl),?_⟩
 obtain ⟨hs,hb⟩:=hk.hh hs hb
 refine lg 5 (uB Kp5 (zJ rfl) (by kernel_rfl) (xo p2 [(vi cN),(vi cO),(vi cP),(vu cQ),(vs cR),cS.v] (sizeOf76 _) (hb.k0 1 6 (gS gZ))) ?_)
 intro w39 hn11
 obtain ⟨hs,hb⟩:=hb.s0 (l':=[(p3,[(vi aF),(vi aG),(vi aH),(vu aI),(vs aJ),aK.v],76),(p2,[(vi cN),(vi cO),(vi cP),(vu cQ),(vs cR),cS.v],76),(p1,[(vi aA),(vi aB),(vu aE),(vs aC),(vb aD)],30)]) 1 [(vi cN),(vi cO),(vi cP),(vu cQ),(vs cR),cS.v] hs hn11 (gS gZ)
 refine ⟨.inl (by kernel_rfl),?_⟩
 refine wn (zN (er ?_))
 have h:=h w39 hs
 have hs:=hs.here
 refine uW (.inl rfl) (vs:=[(.agg #[(vi cN),(vi cO),(vi cP),(vu cQ),(vs cR),cS.v])]) (v:=(.agg #[(vi cN),(vi cO),(vi cP),(vu cQ),(vs cR),cS.v])) results169 ⟨(rva (isAgg76 _) (sizeOf76 _) (hb.r0 1 6 (gS gZ))),trivial⟩ (by kernel_rfl) ?_
 exact ⟨cN,cO,cP,cQ,cR,cS,rfl,h⟩
def m_O4 (p1:Option Addr) (aA aB aE:Int) (aC:ByteArray) (aD:Bool) (w0:World) (K:Int→Int→WP):Prop :=∀(H1:NP) (w1:World),Hst w0 None w0 H1 w1→Calls prog 168 #[(.agg #[(vi aA),(vi aB),(vu aE),(vs aC),(vb aD)])] w1 (fun e w2=>∃r1:Int,e=.returned (vi r1)∧Kept H1 w1 w2∧Br (r1 != 0) (K 0 r1 w2) (Br (Option.isNone p1) (K 0 2 w2) (Calls prog 169 #[(.agg #[(vi aA),(vi aB),(vu aE),(vs aC),(vb aD)])] w2 (fun e w3=>∃aF aG:Int,∃aH aI:Int,∃aJ:ByteArray,∃aK:Sl,e=.returned (.agg #[(vi aF),(vi aG),(vi aH),(vu aI),(vs aJ),aK.v])∧Kept H1 w2 w3∧Calls prog 70 #[(vp p1),(.agg #[(vi aF),(vi aG),(vi aH),(vu aI),(vs aJ),aK.v])] w3 (fun e w4=>∃r2 r3:Int,e=.returned (.tuple #[(vi r2),(vi r3)])∧Kept H1 w3 w4∧K r2 r3 w4)))))
theorem w_O4 (p1:Option Addr) (aA aB aE:Int) (aC:ByteArray) (aD:Bool) (w0:World) (K:Int→Int→WP) (h:m_O4 p1 aA aB aE aC aD w0 K) :
  Calls prog 111 #[(vp p1),(.agg #[(vi aA),(vi aB),(vu aE),(vs aC),(vb aD)])] w0 (fun e w'=>∃r4 r5:Int,e=.returned (.tuple #[(vi r4),(vi r5)])∧K r4 r5 w'):=by
 unfold m_O4 at h
 refine cw (args:=[(vp p1),(.agg #[(vi aA),(vi aB),(vu aE),(vs aC),(vb aD)])]) func111 ntmps111 ?_
 have hs:=Hst.start w0
 have hb:=HB.nil None w0
 refine eg (sn (O:=(.cells #[(vi aA),(vi aB),(vu aE),(vs aC),(vb aD)] 30)) xb ?_)
 intro p2 w1 hn1
 obtain ⟨H1,hs,hb⟩:=hs.alloc hb hn1
 refine q0 (vi 0) (q0 (vi 0) (ln (zA (eg (q2 (.agg #[(vi aA),(vi aB),(vu aE),(vs aC),(vb aD)]) (xa p2 [(vi aA),(vi aB),(vu aE),(vs aC),(vb aD)] (isAgg30 _) (sizeOf30 _) (hb.r0 0 5 gZ)) ?_)))))
 have h:=h H1 w1 hs
 have hs:=hs.here
 refine sc call168 (h.mono ?_)
 rintro e w2 ⟨r1,rfl,hk,h⟩
 refine ⟨_,rfl,?_⟩
 obtain ⟨hs,hb⟩:=hk.hh hs hb
 refine q0 (vi r1) (ln (eg (q0 (vi r1) (q0 (vb (r1 != 0)) (ln ?_)))))
 refine zB (t:=(r1 != 0)) (by kernel_rfl) (fun hc1=>?_) (fun hc1=>?_)
 have h:=h.1 hc1
 refine eg (q0 (vi r1) (q0 (vi 0) (q0 (vi r1) (ln (er (vL (xW (.inl rfl) results111 (v:=(vi 0)) (by kernel_rfl) (v':=(vi r1)) (by kernel_rfl) ?_)))))))
 exact ⟨0,r1,rfl,h⟩
 have h:=h.2 hc1
 refine zC (zN (zA (eg (q0 (vp p1) (q2 (vb (Option.isNone p1)) (qL (by kernel_rfl) rfl underlying91) (ln ?_))))))
 refine zB (t:=(Option.isNone p1)) (by kernel_rfl) (fun hc2=>?_) (fun hc2=>?_)
 have h:=h.1 hc2
 refine eg (q0 (vi 0) (q0 (vi 2) (ln (er (vL (xW (.inl rfl) results111 (v:=(vi 0)) (by kernel_rfl) (v':=(vi 2)) (by kernel_rfl) ?_))))))
 exact ⟨0,2,rfl,h⟩
 have h:=h.2 hc2
 refine zC (zN (eg (q0 (vp p1) (q2 (.agg #[(vi aA),(vi aB),(vu aE),(vs aC),(vb aD)]) (xa p2 [(vi aA),(vi aB),(vu aE),(vs aC),(vb aD)] (isAgg30 _) (sizeOf30 _) (hb.r0 0 5 gZ)) ?_))))
 refine sc call169 (h.mono ?_)
 rintro e w3 ⟨aF,aG,aH,aI,aJ,aK,rfl,hk,h⟩
 refine ⟨_,rfl,?_⟩
 obtain ⟨hs,hb⟩:=hk.hh hs hb
 refine sc call70 (h.mono ?_)
 rintro e w4 ⟨r2,r3,rfl,hk,h⟩
 refine ⟨_,rfl,?_⟩
 obtain ⟨hs,hb⟩:=hk.hh hs hb
 refine q0 (vi r2) (q0 (vi r3) (q0 (vi r2) (q0 (vi r3) (ln (er (xW (.inl rfl) results111 (v:=(vi r2)) (by kernel_rfl) (v':=(vi r3)) (by kernel_rfl) ?_))))))
 exact ⟨r2,r3,rfl,h⟩
end Go.Proofs
end
