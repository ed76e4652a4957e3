import Derived.Test.YtkafbiknboamlaaGreatDoorPa5
import Derived.Test.YtkafbiknboamlaaGreatDoorPa4
import Derived.Test.YtkafbiknboamlaaGreatDoorPa2
import Derived.Test.YtkafbiknboamlaaGreatDoorPa3
import Derived.Test.YtkafbiknboamlaaGreatDoorProg
import Derived.KernelRfl
section
open Go Go.SE
namespace Go.Proofs
open Tryz
attribute [local irreducible] Calls CallsD
section
variable {S:NP} (a q:Addr) (s:Sl) (bs:List UInt8) (r:Rd) (cells:List Value) (w0:World) (h:RdS S w0 a s bs r) (hat:r.at_≤bs.length) (hS:∀b,S b→b<w0.heap.size) (hq:Box w0 q cells 253) (hl:cells.length=12) (haq:a.block≠q.block) (hSq:∀b,S b→b≠q.block)
include h hat hS hq hl haq hSq
theorem jRG:Calls prog 184 #[.pointer (some a),.pointer (some q)] w0 (fun e w'=>e=.returned (.tuple #[])∧RdS S w' a s bs (qN bs r).2∧Box w' q (cells.set 7 (.int .u64 ((qN bs r).1:Int))) 253∧Ext (fun b=>b=a.block∨b=q.block) w0 w'):=by
 refine w_F4 (some a) (some q) w0 (fun w'=>RdS S w' a s bs (qN bs r).2∧Box w' q (cells.set 7 (.int .u64 ((qN bs r).1:Int))) 253∧Ext (fun b=>b=a.block∨b=q.block) w0 w') ?_;unfold m_F4;refine (jKE a s bs r w0 h hat hS).mono ?_;rintro e w1 ⟨x,rfl,rfl,hR,hE⟩;have hq1:=hq.ext hE (fun e=>haq e.symm);refine ⟨_,rfl,q,rfl,hq1.canW (i:=7) (by omega),?_⟩;rintro w2 rfl;have hx:Ext (·=q.block) w1 (w1.setCell (q.add 7) (.int .u64 ((qN bs r).1:Int))):=qQ;exact ⟨hR.ext hx (fun b hb e=>hSq b hb e) haq,hq1.set 7 _,(hE.mono (fun _ _ e=>.inl e)).trans (hx.mono (fun _ _ e=>.inr e))⟩
theorem jVO:Calls prog 187 #[.pointer (some a),.pointer (some q)] w0 (fun e w'=>e=.returned (.tuple #[])∧RdS S w' a s bs (qN bs r).2∧Box w' q (cells.set 8 (.int .u64 ((qN bs r).1:Int))) 253∧Ext (fun b=>b=a.block∨b=q.block) w0 w'):=by
 refine w_H4 (some a) (some q) w0 (fun w'=>RdS S w' a s bs (qN bs r).2∧Box w' q (cells.set 8 (.int .u64 ((qN bs r).1:Int))) 253∧Ext (fun b=>b=a.block∨b=q.block) w0 w') ?_;unfold m_H4;refine (jKE a s bs r w0 h hat hS).mono ?_;rintro e w1 ⟨x,rfl,rfl,hR,hE⟩;have hq1:=hq.ext hE (fun e=>haq e.symm);refine ⟨_,rfl,q,rfl,hq1.canW (i:=8) (by omega),?_⟩;rintro w2 rfl;have hx:Ext (·=q.block) w1 (w1.setCell (q.add 8) (.int .u64 ((qN bs r).1:Int))):=qQ;exact ⟨hR.ext hx (fun b hb e=>hSq b hb e) haq,hq1.set 8 _,(hE.mono (fun _ _ e=>.inl e)).trans (hx.mono (fun _ _ e=>.inr e))⟩
theorem jTJ:Calls prog 189 #[.pointer (some a),.pointer (some q)] w0 (fun e w'=>e=.returned (.tuple #[])∧RdS S w' a s bs (qN bs r).2∧Box w' q (cells.set 3 (.int .u64 ((qN bs r).1:Int))) 253∧Ext (fun b=>b=a.block∨b=q.block) w0 w'):=by
 refine w_J4 (some a) (some q) w0 (fun w'=>RdS S w' a s bs (qN bs r).2∧Box w' q (cells.set 3 (.int .u64 ((qN bs r).1:Int))) 253∧Ext (fun b=>b=a.block∨b=q.block) w0 w') ?_;unfold m_J4;refine (jKE a s bs r w0 h hat hS).mono ?_;rintro e w1 ⟨x,rfl,rfl,hR,hE⟩;have hq1:=hq.ext hE (fun e=>haq e.symm);refine ⟨_,rfl,q,rfl,hq1.canW (i:=3) (by omega),?_⟩;rintro w2 rfl;have hx:Ext (·=q.block) w1 (w1.setCell (q.add 3) (.int .u64 ((qN bs r).1:Int))):=qQ;exact ⟨hR.ext hx (fun b hb e=>hSq b hb e) haq,hq1.set 3 _,(hE.mono (fun _ _ e=>.inl e)).trans (hx.mono (fun _ _ e=>.inr e))⟩
theorem jRF:Calls prog 192 #[.pointer (some a),.pointer (some q)] w0 (fun e w'=>e=.returned (.tuple #[])∧RdS S w' a s bs (qR bs 64 r).2∧Box w' q (cells.set 4 (.string ⟨(qR bs 64 r).1.toArray⟩)) 253∧Ext (fun b=>b=a.block∨b=q.block) w0 w'):=by
 refine w_N4 (some a) (some q) w0 (fun w'=>RdS S w' a s bs (qR bs 64 r).2∧Box w' q (cells.set 4 (.string ⟨(qR bs 64 r).1.toArray⟩)) 253∧Ext (fun b=>b=a.block∨b=q.block) w0 w') ?_;unfold m_N4;refine (c_Text a s bs 64 r w0 h hat hS (by omega)).mono ?_;rintro e w1 ⟨x,rfl,rfl,hR,hE⟩;have hq1:=hq.ext hE (fun e=>haq e.symm);refine ⟨_,rfl,q,rfl,hq1.canW (i:=4) (by omega),?_⟩;rintro w2 rfl;have hx:Ext (·=q.block) w1 (w1.setCell (q.add 4) (.string ⟨(qR bs 64 r).1.toArray⟩)):=qQ;exact ⟨hR.ext hx (fun b hb e=>hSq b hb e) haq,hq1.set 4 _,(hE.mono (fun _ _ e=>.inl e)).trans (hx.mono (fun _ _ e=>.inr e))⟩
theorem c_getA:Calls prog 195 #[.pointer (some a),.pointer (some q)] w0 (fun e w'=>e=.returned (.tuple #[])∧RdS S w' a s bs (qN bs r).2∧Box w' q ((cells.set 9 (.int .u64 ((qN bs r).1:Int))).set 11 (.int .i64 1)) 253∧Ext (fun b=>b=a.block∨b=q.block) w0 w'):=by
 refine w_P4 (some a) (some q) w0 (fun w'=>RdS S w' a s bs (qN bs r).2∧Box w' q ((cells.set 9 (.int .u64 ((qN bs r).1:Int))).set 11 (.int .i64 1)) 253∧Ext (fun b=>b=a.block∨b=q.block) w0 w') ?_;unfold m_P4;refine (jKE a s bs r w0 h hat hS).mono ?_;rintro e w1 ⟨x,rfl,rfl,hR,hE⟩;have hq1:=hq.ext hE (fun e=>haq e.symm);refine ⟨_,rfl,q,rfl,hq1.canW (i:=9) (by omega),?_⟩;rintro w2 rfl;have hx:Ext (·=q.block) w1 ((w1.setCell (q.add 9) (.int .u64 ((qN bs r).1:Int))).setCell (q.add 11) (.int .i64 1)):=qQ.trans qQ;have hq2:=hq1.set 9 (.int .u64 ((qN bs r).1:Int));refine ⟨q,rfl,hq2.canW (i:=11) (by rw [List.length_set];omega),?_⟩;rintro w3 rfl;exact ⟨hR.ext hx (fun b hb e=>hSq b hb e) haq,hq2.set 11 _,(hE.mono (fun _ _ e=>.inl e)).trans (hx.mono (fun _ _ e=>.inr e))⟩
theorem c_getB:Calls prog 197 #[.pointer (some a),.pointer (some q)] w0 (fun e w'=>e=.returned (.tuple #[])∧RdS S w' a s bs (qN bs r).2∧Box w' q ((cells.set 10 (.int .u64 ((qN bs r).1:Int))).set 11 (.int .i64 2)) 253∧Ext (fun b=>b=a.block∨b=q.block) w0 w'):=by
 refine w_R4 (some a) (some q) w0 (fun w'=>RdS S w' a s bs (qN bs r).2∧Box w' q ((cells.set 10 (.int .u64 ((qN bs r).1:Int))).set 11 (.int .i64 2)) 253∧Ext (fun b=>b=a.block∨b=q.block) w0 w') ?_;unfold m_R4;refine (jKE a s bs r w0 h hat hS).mono ?_;rintro e w1 ⟨x,rfl,rfl,hR,hE⟩;have hq1:=hq.ext hE (fun e=>haq e.symm);refine ⟨_,rfl,q,rfl,hq1.canW (i:=10) (by omega),?_⟩;rintro w2 rfl;have hx:Ext (·=q.block) w1 ((w1.setCell (q.add 10) (.int .u64 ((qN bs r).1:Int))).setCell (q.add 11) (.int .i64 2)):=qQ.trans qQ;have hq2:=hq1.set 10 (.int .u64 ((qN bs r).1:Int));refine ⟨q,rfl,hq2.canW (i:=11) (by rw [List.length_set];omega),?_⟩;rintro w3 rfl;exact ⟨hR.ext hx (fun b hb e=>hSq b hb e) haq,hq2.set 11 _,(hE.mono (fun _ _ e=>.inl e)).trans (hx.mono (fun _ _ e=>.inr e))⟩
end
end Go.Proofs
end
section
namespace Go.Sp
def tZ (k:Int):Bool:=k == 7 || k == 8 || k == 9
def jQJ (k:Int):Bool:=k == 1 || k == 2 || k == 3
def jFP (n:Int):Node:=⟨6,n,0,0,⟨#[]⟩,0,0⟩
def jKN (n:Node):Int:=if n.kind=9 then n.to else n.frm
def jCR (L:Pool) (r u t:Int):Prop :=
 (r=1∧(nodeOf L u).kind=4∧(nodeOf L u).a=t)∨(r=2∧(nodeOf L u).kind=4∧(nodeOf L u).b=t)∨(r=3∧tZ (nodeOf L u).kind=true∧(nodeOf L u).a=t)
inductive Seen (L:Pool) (G:List Int):Int→Prop
 | given {t:Int}:t∈G→Seen L G t
 | aris {r u t:Int}:Seen L G u→jCR L r u t→Seen L G t
inductive Drv (L:Pool) (K:Int→Prop):Int→Prop
 | seen {t:Int}:K t→Drv L K t
 | free {t:Int}:jQJ (nodeOf L t).kind=true→Drv L K t
 | pair {t:Int}:(nodeOf L t).kind=4→Drv L K (nodeOf L t).a→Drv L K (nodeOf L t).b→Drv L K t
 | hash {t:Int}:(nodeOf L t).kind=5→Drv L K (nodeOf L t).a→Drv L K t
 | sign {t:Int} {i:Nat}:tZ (nodeOf L t).kind=true→Drv L K (nodeOf L t).a→find L (jFP (jKN (nodeOf L t)))=some i→K ((i:Int)+1)→Drv L K t
structure Way where
 t:Int
 rule:Int
 frm:Int
deriving DecidableEq
def jAR (S:List Way):List Int:=S.map Way.t
def jOO (L:Pool) (G:List Int) (pre:List Way) (v:Way):Prop:=(v.rule=0∧v.frm=0∧v.t∈G)∨(v.rule≠0∧jCR L v.rule v.frm v.t∧v.frm∈jAR pre)
structure WaysOk (L:Pool) (G:List Int) (S:List Way):Prop where
 nodup:(jAR S).Nodup
 inp:∀t∈jAR S,inP L t=true
 way:∀i (h:i<S.length),jOO L G (S.take i) S[i]
def jVT (L:Pool) (S:List Way) (u:Int):Prop:=∀r t,jCR L r u t→t∈jAR S
theorem jOX (S:List Way):(jAR S).length=S.length:=by simp [jAR]
theorem jOO.mono {L:Pool} {G G':List Int} {pre:List Way} {v:Way} (h:jOO L G pre v) (hG:∀t∈G,t∈G'):jOO L G' pre v:=by
 rcases h with ⟨a,b,c⟩ | h
 ·exact .inl ⟨a,b,hG _ c⟩
 ·exact .inr h
theorem WaysOk.mono {L:Pool} {G G':List Int} {S:List Way} (h:WaysOk L G S) (hG:∀t∈G,t∈G'):WaysOk L G' S:=⟨h.nodup,h.inp,fun i hi=>(h.way i hi).mono hG⟩
theorem WaysOk.snoc {L:Pool} {G:List Int} {S:List Way} (h:WaysOk L G S) {v:Way} (hn:v.t ∉ jAR S) (hi:inP L v.t=true) (hv:jOO L G S v):WaysOk L G (S++[v]):=by
 refine ⟨?_,?_,fun i hlt=>?_⟩
 ·unfold jAR at hn ⊢;rw [List.map_append,List.nodup_append];exact ⟨h.nodup,by simp,fun x hx y hy e=>by simp at hy;subst hy;exact hn (e▸hx)⟩
 ·intro t ht;unfold jAR at ht;rw [List.map_append,List.mem_append] at ht;rcases ht with ht | ht
  ·exact h.inp t ht
  ·simp at ht;rw [ht];exact hi
 ·rw [List.length_append] at hlt;simp only [List.length_cons,List.length_nil] at hlt;by_cases hl:i<S.length
  ·rw [List.getElem_append_left hl,List.take_append_of_le_length (by omega)];exact h.way i hl
  ·have:i=S.length:=by omega
   subst this;rw [List.getElem_append_right (Nat.le_refl _),List.take_left];simpa using hv
theorem jVT.snoc {L:Pool} {S:List Way} {u:Int} {v:Way} (h:jVT L S u):jVT L (S++[v]) u:=fun r t ha=>by
 unfold jAR;rw [List.map_append];exact List.mem_append_left _ (h r t ha)
theorem Seen.mono {L:Pool} {G G':List Int} (hG:∀t∈G,t∈G') {t:Int} (h:Seen L G t):Seen L G' t:=by
 induction h with
 | given hg=>exact .given (hG _ hg)
 | aris _ ha ih=>exact .aris ih ha
theorem Drv.mono {L:Pool} {K K':Int→Prop} (hK:∀t,K t→K' t) {t:Int} (h:Drv L K t):Drv L K' t:=by
 induction h with
 | seen h=>exact .seen (hK _ h)
 | free h=>exact .free h
 | pair h _ _ iha ihb=>exact .pair h iha ihb
 | hash h _ ih=>exact .hash h ih
 | sign h _ hf hk ih=>exact .sign h ih hf (hK _ hk)
structure Step where
 rule:Int
 a:Int
 b:Int
 t:Int
deriving DecidableEq
def jON (i:Nat) (v:Int):Bool:=decide (0≤v) && decide (v<i)
def tAt (pre:List Step) (v:Int):Int:=(pre[v.toNat]?.map Step.t).getD 0
def jVS (L:Pool) (r u t:Int):Bool :=
 if r=1 then (nodeOf L u).kind == 4 && (nodeOf L u).a == t else if r=2 then (nodeOf L u).kind == 4 && (nodeOf L u).b == t else tZ (nodeOf L u).kind && (nodeOf L u).a == t
def fol (L:Pool) (G:List Int) (pre:List Step) (s:Step):Bool :=
 if inP L s.t=false then false
 else if s.rule=0 then s.a == 0 && s.b == 0 && decide (s.t∈G)
 else if s.rule=1∨s.rule=2∨s.rule=3 then jON pre.length s.a && s.b == 0 && jVS L s.rule (tAt pre s.a) s.t
 else if s.rule=4 then s.a == 0 && s.b == 0 && jQJ (nodeOf L s.t).kind
 else if s.rule=5 then
  if (nodeOf L s.t).kind=4 then jON pre.length s.a && jON pre.length s.b && tAt pre s.a == (nodeOf L s.t).a && tAt pre s.b == (nodeOf L s.t).b
  else if (nodeOf L s.t).kind=5 then jON pre.length s.a && s.b == 0 && tAt pre s.a == (nodeOf L s.t).a
  else if tZ (nodeOf L s.t).kind=true then jON pre.length s.a && jON pre.length s.b && tAt pre s.a == (nodeOf L s.t).a && (nodeOf L (tAt pre s.b)).kind == 6 && (nodeOf L (tAt pre s.b)).frm == jKN (nodeOf L s.t)
  else false
 else false
end Go.Sp
namespace Go.Sp
theorem jJC {α:Type} [DecidableEq α]:∀{l m:List α},l.Nodup→(∀x∈l,x∈m)→l.length≤m.length
 | [],m,_,_=>by simp
 | x :: l,m,hn,hs=>by
  have hx:=hs x (by simp);rw [List.nodup_cons] at hn;have:=jJC (m:=m.erase x) hn.2 (fun y hy=>(List.mem_erase_of_ne (fun h=>hn.1 (by rw [← h];exact hy))).2 (hs y (List.mem_cons_of_mem _ hy)));rw [List.length_erase_of_mem hx] at this;have:=List.length_pos_of_mem hx;simp only [List.length_cons];omega
theorem jEF {L:Pool} {l:List Int} (hn:l.Nodup) (hi:∀t∈l,inP L t=true):l.length≤L.length:=by
 have:=jJC (m:=(List.range L.length).map fun i:Nat=>(i:Int)+1) hn (fun t ht=>by
  obtain ⟨i,h1,h2⟩:=jDO (hi t ht);exact List.mem_map.2 ⟨i,List.mem_range.2 h1,h2.symm⟩)
 simpa using this
theorem WaysOk.few {L:Pool} {G:List Int} {S:List Way} (h:WaysOk L G S):S.length≤L.length:=by
 have:=jEF h.nodup h.inp;rwa [jOX] at this
theorem kids4 {L:Pool} (h:Wf L) {t:Int} (ht:inP L t=true) (hk:(nodeOf L t).kind=4):(inP L (nodeOf L t).a=true∧(nodeOf L t).a<t)∧(inP L (nodeOf L t).b=true∧(nodeOf L t).b<t):=by
 have:=(h.node ht).2.2.2.2.1;simp only [zM,hk,shapeOf] at this;exact ⟨this _ (by simp),this _ (by simp)⟩
theorem kids7 {L:Pool} (h:Wf L) {t:Int} (ht:inP L t=true) (hk:tZ (nodeOf L t).kind=true):inP L (nodeOf L t).a=true∧(nodeOf L t).a<t:=by
 have:=(h.node ht).2.2.2.2.1;simp only [tZ,Bool.or_eq_true,beq_iff_eq] at hk;rcases hk with (hk | hk) | hk <;> simp only [zM,hk,shapeOf] at this <;> exact this _ (by simp)
theorem jCR.inp {L:Pool} (h:Wf L) {r u t:Int} (hu:inP L u=true) (ha:jCR L r u t):inP L t=true∧t<u:=by
 rcases ha with ⟨_,hk,rfl⟩ | ⟨_,hk,rfl⟩ | ⟨_,hk,rfl⟩
 ·exact (kids4 h hu hk).1
 ·exact (kids4 h hu hk).2
 ·exact kids7 h hu hk
def jUC (S:List Way) (v:Way):List Way:=if v.t∈jAR S then S else S++[v]
theorem WaysOk.add {L:Pool} {G:List Int} {S:List Way} (h:WaysOk L G S) {v:Way} (hi:inP L v.t=true) (hv:jOO L G S v):WaysOk L G (jUC S v):=by
 unfold jUC;split
 ·exact h
 ·rename_i hn;exact h.snoc hn hi hv
end Go.Sp
end
section
open Go.SE
namespace Go.Sp
def jGC (L:Pool) (n:Int):Int×Bool:=match find L (jFP n) with
 | some i=>((i:Int)+1,true)
 | none=>(0,false)
theorem jQM {L:Pool} {n:Node} {i:Nat} (h:find L n=some i):i<L.length∧nodeOf L ((i:Int)+1)=n:=by
 unfold find at h;rw [List.findIdx?_eq_some_iff_getElem] at h;obtain ⟨hi,h1,_⟩:=h;refine ⟨hi,?_⟩;rw [yK hi];simpa using h1
theorem jSS {L:Pool} {n:Int} (h:(jGC L n).2=true):inP L (jGC L n).1=true∧nodeOf L (jGC L n).1=jFP n∧∃i,find L (jFP n)=some i∧(jGC L n).1=(i:Int)+1:=by
 unfold jGC at h ⊢;cases hf:find L (jFP n) with
 | none=>rw [hf] at h;cases h
 | some i =>
  obtain ⟨hi,hn⟩:=jQM hf
  exact ⟨vF.2 ⟨by simp only;omega,by simp only;omega⟩,hn,i,rfl,rfl⟩
theorem Drv.signed {L:Pool} {K:Int→Prop} {t:Int} (h:tZ (nodeOf L t).kind=true) (ha:Drv L K (nodeOf L t).a) (hk:(jGC L (jKN (nodeOf L t))).2=true) (hK:K (jGC L (jKN (nodeOf L t))).1):Drv L K t:=by
 obtain ⟨_,_,i,hf,e⟩:=jSS hk;rw [e] at hK;exact .sign h ha hf hK
theorem xD {L:Pool} (h:Wf L) {t:Int} (ht:inP L t=true):jQJ (nodeOf L t).kind=true∨(nodeOf L t).kind=4∨(nodeOf L t).kind=5∨(nodeOf L t).kind=6∨tZ (nodeOf L t).kind=true:=by
 have h1:=(h.node ht).1;unfold zZ at h1;simp only at h1;split at h1
 ·cases h1
 ·rename_i hh;simp only [Bool.or_eq_true,Bool.not_eq_true',not_or] at hh;have hk:isKind (nodeOf L t).kind=true:=by simpa using hh.1.1.1.1
  simp only [isKind,Bool.and_eq_true,decide_eq_true_eq] at hk;simp only [jQJ,tZ,Bool.or_eq_true,beq_iff_eq];omega
inductive Sub (L:Pool):Int→Int→Prop
 | refl (t:Int):Sub L t t
 | kid {t u k:Int}:Sub L t u→k∈zM (nodeOf L u)→Sub L t k
theorem Sub.trans {L:Pool} {a b c:Int} (h:Sub L a b) (k:Sub L b c):Sub L a c:=by
 induction k with
 | refl=>exact h
 | kid _ hk ih=>exact .kid ih hk
theorem jTR {n:Node} (h:n.kind=4∨n.kind=5∨tZ n.kind=true):n.a∈zM n:=by
 simp only [tZ,Bool.or_eq_true,beq_iff_eq] at h;rcases h with h | h | (h | h) | h <;> simp [zM,h,shapeOf]
theorem kids_b {n:Node} (h:n.kind=4):n.b∈zM n:=by simp [zM,h,shapeOf]
theorem jCR.sub {L:Pool} {r u t:Int} (h:jCR L r u t):Sub L u t:=by
 rcases h with ⟨_,hk,rfl⟩ | ⟨_,hk,rfl⟩ | ⟨_,hk,rfl⟩
 ·exact .kid (.refl u) (jTR (.inl hk))
 ·exact .kid (.refl u) (kids_b hk)
 ·exact .kid (.refl u) (jTR (.inr (.inr hk)))
theorem Seen.sub {L:Pool} {G:List Int} {t:Int} (h:Seen L G t):∃g∈G,Sub L g t:=by
 induction h with
 | given hg=>exact ⟨_,hg,.refl _⟩
 | aris _ ha ih=>obtain ⟨g,hg,hs⟩:=ih;exact ⟨g,hg,hs.trans ha.sub⟩
theorem jCR.rule {L:Pool} {r u t:Int} (h:jCR L r u t):r=1∨r=2∨r=3:=by
 rcases h with ⟨h,_⟩ | ⟨h,_⟩ | ⟨h,_⟩
 ·exact .inl h
 ·exact .inr (.inl h)
 ·exact .inr (.inr h)
structure PrfOk (L:Pool) (G:List Int) (K:Int→Prop) (l:List Step) (B:List Int):Prop where
 fol:∀i (hi:i<l.length),fol L G (l.take i) l[i]=true
 nd:(l.map Step.t).Nodup
 drv:∀s∈l,Drv L K s.t
 bar:∀t∈B,¬ Drv L K t
theorem PrfOk.nil (L:Pool) (G:List Int) (K:Int→Prop):PrfOk L G K [] []:=⟨fun i hi=>by simp at hi,by simp,by simp,by simp⟩
theorem PrfOk.snoc {L:Pool} {G:List Int} {K:Int→Prop} {l:List Step} {B:List Int} (h:PrfOk L G K l B) {s:Step} (hf:Sp.fol L G l s=true) (hn:s.t ∉ l.map Step.t) (hd:Drv L K s.t):PrfOk L G K (l++[s]) B:=by
 refine ⟨fun i hi=>?_,?_,fun x hx=>?_,h.bar⟩
 ·rw [List.length_append] at hi;simp only [List.length_cons,List.length_nil] at hi;by_cases hl:i<l.length
  ·rw [List.getElem_append_left hl,List.take_append_of_le_length (by omega)];exact h.fol i hl
  ·have:i=l.length:=by omega
   subst this;rw [List.getElem_append_right (Nat.le_refl _),List.take_left];simpa using hf
 ·rw [List.map_append,List.nodup_append];exact ⟨h.nd,by simp,fun x hx y hy e=>by simp at hy;subst hy;exact hn (e▸hx)⟩
 ·rcases List.mem_append.1 hx with hx | hx
  ·exact h.drv x hx
  ·simp at hx;subst hx;exact hd
theorem fol_in {L:Pool} {G:List Int} {pre:List Step} {s:Step} (h:fol L G pre s=true):inP L s.t=true:=by
 unfold fol at h;split at h
 ·cases h
 ·rename_i hh;simpa using hh
theorem PrfOk.few {L:Pool} {G:List Int} {K:Int→Prop} {l:List Step} {B:List Int} (h:PrfOk L G K l B):l.length≤L.length:=by
 have:=jEF h.nd (fun t ht=>by
  obtain ⟨s,hs,rfl⟩:=List.mem_map.1 ht;obtain ⟨i,hi,rfl⟩:=List.getElem_of_mem hs;exact fol_in (h.fol i hi))
 simpa using this
def upd (V:Int→Bool) (t:Int) (b:Bool):Int→Bool:=fun x=>if x=t then b else V x
def uQ (L:Pool):Nat→Int→(Int→Bool)×List Int→(Int→Bool)×List Int
 | 0,_,st=>st
 | n + 1, t, st => if inP L t = true ∧ st.1 t = false then
   let s2:=uQ L n (nodeOf L t).b (uQ L n (nodeOf L t).a (upd st.1 t true,st.2))
   (s2.1,s2.2++[t])
  else st
def subs (L:Pool) (t:Int):List Int:=(uQ L (t.toNat+1) t (fun _=>false,[])).2
theorem Sub.head {L:Pool} {t y:Int} (h:Sub L t y):y=t∨∃k∈zM (nodeOf L t),Sub L k y:=by
 induction h with
 | refl=>exact .inl rfl
 | kid _ hk ih =>
  rcases ih with rfl | ⟨k,h1,h2⟩
  ·exact .inr ⟨_,hk,.refl _⟩
  ·exact .inr ⟨k,h1,h2.kid hk⟩
theorem Sub.le {L:Pool} (hW:Wf L) {t y:Int} (ht:inP L t=true) (h:Sub L t y):inP L y=true∧y≤t:=by
 induction h with
 | refl=>exact ⟨ht,Int.le_refl _⟩
 | kid _ hk ih =>
  have:=(hW.node ih.1).2.2.2.2.1 _ hk
  exact ⟨this.1,by omega⟩
theorem jTS {n:Node} {k:Int} (h:k∈zM n):k=n.a∨k=n.b:=by
 unfold zM at h;have:=List.mem_of_mem_take h;simpa using this
theorem jMT {L:Pool} (hW:Wf L) {t k:Int} (ht:inP L t=true) (h:k=(nodeOf L t).a∨k=(nodeOf L t).b) (hk:inP L k=true):k∈zM (nodeOf L t):=by
 have h1:=(hW.node ht).2.1;have h2:=(hW.node ht).2.2.1;have hk0:k≠0:=by have:=(vF.1 hk).1;omega
 unfold zM;rcases uL (nodeOf L t).kind with e | e | e
 ·have a0:=h1 (by omega);have b0:=h2 (by omega);rcases h with h | h
  ·exact absurd (h.trans a0) hk0
  ·exact absurd (h.trans b0) hk0
 ·have b0:=h2 (by omega);rcases h with h | h
  ·rw [e,h];simp
  ·exact absurd (h.trans b0) hk0
 ·rw [e];rcases h with h | h <;> simp [h]
structure OvOk (L:Pool) (st:(Int→Bool)×List Int):Prop where
 marked:∀x∈st.2,st.1 x=true
 closed:∀x∈st.2,∀y,Sub L x y→y∈st.2
 nd:st.2.Nodup
 inp:∀x∈st.2,inP L x=true
structure OvRes (L:Pool) (t:Int) (st st':(Int→Bool)×List Int):Prop extends OvOk L st' where
 app:∃M,st'.2=st.2++M∧∀x∈M,Sub L t x∧inP L t=true
 keep:∀x,st.1 x=true→st'.1 x=true
 back:∀x,st'.1 x=true→st.1 x=true∨x∈st'.2
 all:inP L t=true→∀y,Sub L t y→y∈st'.2
theorem jBD {L:Pool} (hW:Wf L):∀(n:Nat) (t:Int) (st:(Int→Bool)×List Int),t.toNat<n→OvOk L st→(∀x,st.1 x=true→x≤t→x∈st.2)→OvRes L t st (uQ L n t st):=by
 intro n;induction n with
 | zero=>intro t st h;omega
 | succ n ih =>
  intro t st hn hst hm
  rw [uQ]
  by_cases hc:inP L t=true∧st.1 t=false
  ·rw [if_pos hc]
   obtain ⟨hin,hv⟩:=hc
   have ht1:=(vF.1 hin).1
   have hkid:=(hW.node hin).2.2.2.2.1
   have low:∀k,k=(nodeOf L t).a∨k=(nodeOf L t).b→k<t:=by
    intro k hk;cases hp:inP L k with
    | true=>exact (hkid k (jMT hW hin hk hp)).2
    | false =>
     have h1:=(hW.node hin).2.1
     have h2:=(hW.node hin).2.2.1
     rcases uL (nodeOf L t).kind with e | e | e
     ·have:=h1 (by omega);have:=h2 (by omega);rcases hk with hk | hk <;> omega
     ·have b0:=h2 (by omega)
      rcases hk with hk | hk
      ·have:=(hkid k (by unfold zM;rw [e,hk];simp)).2;exact this
      ·omega
     ·exact (hkid k (by unfold zM;rw [e];rcases hk with hk | hk <;> simp [hk])).2
   have o1:OvOk L (upd st.1 t true,st.2):=⟨fun x hx=>by simp only [upd];split <;> simp [hst.marked x hx],hst.closed,hst.nd,hst.inp⟩
   have r1:=ih (nodeOf L t).a (upd st.1 t true,st.2) (by have:=low _ (.inl rfl);omega) o1 (fun x hx hle=>by
    have:=low _ (.inl rfl);simp only [upd] at hx;rw [if_neg (by omega)] at hx;exact hm x hx (by omega))
   generalize uQ L n (nodeOf L t).a (upd st.1 t true,st.2)=s1 at *
   have r2:=ih (nodeOf L t).b s1 (by have:=low _ (.inr rfl);omega) r1.toOvOk (fun x hx hle=>by
    have:=low _ (.inr rfl);rcases r1.back x hx with h | h
    ·simp only [upd] at h;rw [if_neg (by omega)] at h;have:=hm x h (by omega);obtain ⟨M,e,_⟩:=r1.app;simp only at e;rw [e];exact List.mem_append_left _ this
    ·exact h)
   generalize uQ L n (nodeOf L t).b s1=s2 at *
   obtain ⟨M1,e1,m1⟩:=r1.app
   obtain ⟨M2,e2,m2⟩:=r2.app
   simp only at e1
   have hvt:s2.1 t=true:=r2.keep t (r1.keep t (by simp [upd]))
   have hto:t ∉ s2.2:=by
    rw [e2,e1];intro h;rcases List.mem_append.1 h with h | h
    ·rcases List.mem_append.1 h with h | h
     ·have:=hst.marked t h;rw [hv] at this;cases this
     ·obtain ⟨h1,h2⟩:=m1 t h;have:=(h1.le hW h2).2;have:=low _ (.inl rfl);omega
    ·obtain ⟨h1,h2⟩:=m2 t h;have:=(h1.le hW h2).2;have:=low _ (.inr rfl);omega
   have hall:∀y,Sub L t y→y∈s2.2++[t]:=by
    intro y hy;rcases hy.head with rfl | ⟨k,hk,hs⟩
    ·simp
    ·refine List.mem_append_left _ ?_;have hki:=(hkid k hk).1;rcases jTS hk with rfl | rfl
     ·rw [e2];exact List.mem_append_left _ (r1.all hki y hs)
     ·exact r2.all hki y hs
   refine ⟨⟨fun x hx=>?_,fun x hx y hy=>?_,?_,fun x hx=>?_⟩,⟨M1++M2++[t],by simp [e2,e1],fun x hx=>?_⟩,fun x hx=>?_,fun x hx=>?_,fun _=>hall⟩
   ·simp only [List.mem_append,List.mem_singleton] at hx
    rcases hx with hx | rfl
    ·exact r2.marked x hx
    ·exact hvt
   ·simp only [List.mem_append,List.mem_singleton] at hx
    rcases hx with hx | rfl
    ·exact List.mem_append_left _ (r2.closed x hx y hy)
    ·exact hall y hy
   ·rw [List.nodup_append]
    exact ⟨r2.nd,by simp,fun x hx y hy e=>by simp at hy;subst hy;exact hto (e▸hx)⟩
   ·simp only [List.mem_append,List.mem_singleton] at hx
    rcases hx with hx | rfl
    ·exact r2.inp x hx
    ·exact hin
   ·refine ⟨?_,hin⟩
    simp only [List.mem_append,List.mem_singleton] at hx
    rcases hx with (hx | hx) | rfl
    ·obtain ⟨h1,h2⟩:=m1 x hx
     exact (Sub.kid (.refl t) (jMT hW hin (.inl rfl) h2)).trans h1
    ·obtain ⟨h1,h2⟩:=m2 x hx
     exact (Sub.kid (.refl t) (jMT hW hin (.inr rfl) h2)).trans h1
    ·exact .refl _
   ·exact r2.keep x (r1.keep x (by simp only [upd];split <;> simp [hx]))
   ·rcases r2.back x hx with h | h
    ·rcases r1.back x h with h' | h'
     ·simp only [upd] at h'
      split at h'
      ·rename_i e;subst e;right;simp
      ·exact .inl h'
     ·right;show x∈s2.2++[t];rw [e2];exact List.mem_append_left _ (List.mem_append_left _ h')
    ·exact .inr (List.mem_append_left _ h)
  ·rw [if_neg hc]
   refine ⟨hst,⟨[],by simp,by simp⟩,fun x h=>h,fun x h=>.inl h,fun hin y hy=>?_⟩
   have hv:st.1 t=true:=by
    cases h:st.1 t with
    | true=>rfl
    | false=>exact absurd ⟨hin,h⟩ hc
   exact hst.closed t (hm t hv (Int.le_refl _)) y hy
theorem jHG {L:Pool} (hW:Wf L) {t x:Int}:x∈subs L t↔inP L t=true∧Sub L t x:=by
 have r:=jBD hW (t.toNat+1) t (fun _=>false,[]) (by omega) ⟨by simp,by simp,by simp,by simp⟩ (by simp);constructor
 ·intro h;obtain ⟨M,e,hm⟩:=r.app;unfold subs at h;rw [e] at h;simp only [List.nil_append] at h;exact ⟨(hm x h).2,(hm x h).1⟩
 ·intro h;exact r.all h.1 x h.2
theorem jBW {L:Pool} (hW:Wf L) (t:Int):(subs L t).length≤L.length:=by
 have r:=jBD hW (t.toNat+1) t (fun _=>false,[]) (by omega) ⟨by simp,by simp,by simp,by simp⟩ (by simp);exact jEF r.nd r.inp
end Go.Sp
end
section
namespace Go.Sp
def Ord (L:Pool) (l:List Int):Prop:=∀pre z post,l=pre++z :: post→∀k∈zM (nodeOf L z),k∈pre
theorem Ord.snoc {L:Pool} {l:List Int} {t:Int} (h:Ord L l) (ht:∀k∈zM (nodeOf L t),k∈l):Ord L (l++[t]):=by
 intro pre z post e k hk;rcases List.eq_nil_or_concat post with rfl | ⟨post',y,rfl⟩
 ·have:=List.append_inj' e rfl;obtain ⟨rfl,e2⟩:=this;simp only [List.cons.injEq,and_true] at e2;subst e2;exact ht k hk
 ·have e':l++[t]=(pre++z :: post')++[y]:=by rw [e];simp
  have:=List.append_inj' e' rfl;exact h pre z post' this.1 k hk
theorem jSJ {L:Pool} (hW:Wf L):∀(n:Nat) (t:Int) (st:(Int→Bool)×List Int),t.toNat<n→OvOk L st→(∀x,st.1 x=true→x≤t→x∈st.2)→Ord L st.2→Ord L (uQ L n t st).2:=by
 intro n;induction n with
 | zero=>intro t st h;omega
 | succ n ih =>
  intro t st hn hst hm ho
  rw [uQ]
  by_cases hc:inP L t=true∧st.1 t=false
  ·rw [if_pos hc]
   obtain ⟨hin,hv⟩:=hc
   have ht1:=(vF.1 hin).1
   have hkid:=(hW.node hin).2.2.2.2.1
   have low:∀k,k=(nodeOf L t).a∨k=(nodeOf L t).b→k<t:=by
    intro k hk;cases hp:inP L k with
    | true=>exact (hkid k (jMT hW hin hk hp)).2
    | false =>
     have h1:=(hW.node hin).2.1
     have h2:=(hW.node hin).2.2.1
     rcases uL (nodeOf L t).kind with e | e | e
     ·have:=h1 (by omega);have:=h2 (by omega);rcases hk with hk | hk <;> omega
     ·have b0:=h2 (by omega)
      rcases hk with hk | hk
      ·have:=(hkid k (by unfold zM;rw [e,hk];simp)).2;exact this
      ·omega
     ·exact (hkid k (by unfold zM;rw [e];rcases hk with hk | hk <;> simp [hk])).2
   have o1:OvOk L (upd st.1 t true,st.2):=⟨fun x hx=>by simp only [upd];split <;> simp [hst.marked x hx],hst.closed,hst.nd,hst.inp⟩
   have m1:∀x,(upd st.1 t true,st.2).1 x=true→x≤(nodeOf L t).a→x∈(upd st.1 t true,st.2).2:=fun x hx hle=>by
    have:=low _ (.inl rfl);simp only [upd] at hx;rw [if_neg (by omega)] at hx;exact hm x hx (by omega)
   have n1:(nodeOf L t).a.toNat<n:=by have:=low _ (.inl rfl);omega
   have n2:(nodeOf L t).b.toNat<n:=by have:=low _ (.inr rfl);omega
   have r1:=jBD hW n (nodeOf L t).a (upd st.1 t true,st.2) n1 o1 m1
   have d1:=ih (nodeOf L t).a (upd st.1 t true,st.2) n1 o1 m1 ho
   generalize uQ L n (nodeOf L t).a (upd st.1 t true,st.2)=s1 at *
   have m2:∀x,s1.1 x=true→x≤(nodeOf L t).b→x∈s1.2:=fun x hx hle=>by
    have:=low _ (.inr rfl);rcases r1.back x hx with h | h
    ·simp only [upd] at h;rw [if_neg (by omega)] at h;have:=hm x h (by omega);obtain ⟨M,e,_⟩:=r1.app;simp only at e;rw [e];exact List.mem_append_left _ this
    ·exact h
   have r2:=jBD hW n (nodeOf L t).b s1 n2 r1.toOvOk m2
   have d2:=ih (nodeOf L t).b s1 n2 r1.toOvOk m2 d1
   generalize uQ L n (nodeOf L t).b s1=s2 at *
   obtain ⟨M2,e2,_⟩:=r2.app
   refine d2.snoc fun k hk=>?_
   have hki:=(hkid k hk).1
   rcases jTS hk with rfl | rfl
   ·rw [e2];exact List.mem_append_left _ (r1.all hki _ (.refl _))
   ·exact r2.all hki _ (.refl _)
  ·rw [if_neg hc];exact ho
theorem jMA {L:Pool} (hW:Wf L) (t:Int):Ord L (subs L t) :=
 jSJ hW (t.toNat+1) t (fun _=>false,[]) (by omega) ⟨by simp,by simp,by simp,by simp⟩ (by simp) (fun pre z post e=>by simp at e)
theorem jGM {L:Pool} (hW:Wf L) (t:Int):(subs L t).Nodup :=
 (jBD hW (t.toNat+1) t (fun _=>false,[]) (by omega) ⟨by simp,by simp,by simp,by simp⟩ (by simp)).nd
end Go.Sp
end
section
namespace Go.Proofs
inductive Fld | from_ | to_ | num | text | fst | snd
deriving DecidableEq
def uI (k:Int):List Fld :=
 if k=1 then [.from_] else if k=2 then [.num] else if k=3 then [.text] else if k=4 then [.fst,.snd] else if k=5 then [.fst] else if k=6 then [.from_] else if k=7 then [.from_,.fst] else if k=8 then [.from_,.to_,.fst] else if k=9 then [.from_,.to_,.fst] else []
def Fld.bytes (n:Sp.Node) (na nb:Nat):Fld→List UInt8
 | .from_=>vS n.frm.toNat | .to_=>vS n.to.toNat | .num=>vS n.num.toNat | .text=>yG n.text | .fst=>vS na | .snd=>vS nb
def posOf (seen:List Int) (t:Int):Nat:=seen.idxOf t
def uY (L:Sp.Pool) (seen:List Int) (t:Int):List UInt8 :=
 UInt8.ofNat (Sp.nodeOf L t).kind.toNat :: (uI (Sp.nodeOf L t).kind).flatMap (Fld.bytes (Sp.nodeOf L t) (posOf seen (Sp.nodeOf L t).a) (posOf seen (Sp.nodeOf L t).b))
def textFrom (L:Sp.Pool):List Int→List Int→List UInt8
 | _,[]=>[]
 | seen,t :: l=>uY L seen t++textFrom L (seen++[t]) l
theorem jBV (L:Sp.Pool) (l:List Int) (t:Int):∀seen,textFrom L seen (l++[t])=textFrom L seen l++uY L (seen++l) t:=by
 induction l with
 | nil=>intro seen;simp [textFrom]
 | cons x l ih=>intro seen;simp only [List.cons_append,textFrom];rw [ih];simp
def jBU (L:Sp.Pool) (t:Int):List UInt8:=textFrom L [] (Sp.subs L t)
theorem jPU {l l':List Int} {u:Int} (h:u∈l):posOf (l++l') u=posOf l u:=by unfold posOf;rw [List.idxOf_append,if_pos h]
theorem jPT {l:List Int} {z:Int} (h:z ∉ l):posOf (l++[z]) z=l.length:=by unfold posOf;rw [List.idxOf_append,if_neg h];simp
def jOQ (L:Sp.Pool) (t:Int):List UInt8×Int:=if Sp.inP L t then (if (jBU L t).length>4096 then ([],1) else (jBU L t,0)) else ([],51)
end Go.Proofs
end
section
open Go Go.SE
namespace Go.Proofs
open Tryz
attribute [local irreducible] Calls CallsD
def Fld.put:Fld→FuncId
 | .from_=>182 | .to_=>186 | .num=>188 | .text=>190 | .fst=>194 | .snd=>196
def Fld.get:Fld→FuncId
 | .from_=>184 | .to_=>187 | .num=>189 | .text=>192 | .fst=>195 | .snd=>197
def Fld.row (f:Fld):List Value:=[.func (.func f.put) #[] #[],.func (.func f.get) #[] #[]]
structure PartsAt (w0 w:World) (m:Nat) (Bs:List (Addr×Fld)) (M:List (Int×Sl)):Prop where
 box:∀b∈Bs,Box w b.1 b.2.row 213∧b.1.block≠m
 map:IMap Sl.v w m M
 lst:∀p∈M,Lst (fun b=>w0.heap.size≤b∧b≠m) w 2 p.2 ((uI p.1).map Fld.row)
 pure:Pure w0 w
 own:w0.heap.size≤m
theorem PartsAt.step {w0 w w1:World} {m:Nat} {Bs:List (Addr×Fld)} {M:List (Int×Sl)} (h:PartsAt w0 w m Bs M) {cs:Array Value} {p:Addr} (n1:New w (.cells cs 213) p w1) (k:Int) (n:Nat) (hn:(uI k).length=n) (hcs:cs.toList=((uI k).map Fld.row).flatten) (hk:SE.look M k=none) :
  ∃w2,(Instr.mapUpdate 203 (.map (some m)) (.int .i64 k) (Sl.mk (some p) n n).v).run prog w1=.ok () w2∧PartsAt w0 w2 m Bs (M++[(k,Sl.mk (some p) n n)]):=by
 have E1:Pure w w1:=Ext.new n1
 obtain ⟨w2,hr,hM,hE⟩:=(h.map.pure E1).put (P:=prog) (T:=203) underlying203 underlying3 hk (Sl.mk (some p) n n)
 have B1:=Box.of_newA n1
 have hb:=n1.at_size
 have hm:=h.map.lt
 refine ⟨w2,hr,⟨fun b hb=>⟨((h.box b hb).1.pure E1).ext hE (h.box b hb).2,(h.box b hb).2⟩,hM,?_,(h.pure.trans E1).trans' hE (fun i hi e=>by have:=h.own;omega),h.own⟩⟩
 intro q hq
 rcases List.mem_append.1 hq with hq | hq
 ·exact ((h.lst q hq).pure E1).ext hE (fun b hb=>hb.2)
 ·simp only [List.mem_singleton] at hq
  subst hq
  refine ⟨by simp [hn],fun i hi=>?_⟩
  have hi':i<(uI k).length:=by simpa using hi
  refine ⟨p.add (i*2),⟨by omega,by simp;omega,p,rfl,by simp⟩,?_,?_⟩
  ·rw [zU];exact ⟨by have:=h.pure.size;omega,by omega⟩
  ·have hrow:Row w2 p cs.toList:=hE.row (B1.row) (by omega)
   intro j hj
   rw [uV]
   have hlen:∀r∈(uI k).map Fld.row,r.length=2:=by intro r hr;obtain ⟨f,_,rfl⟩:=List.mem_map.1 hr;rfl
   have hj2:j<2:=by rw [hlen _ (List.getElem_mem hi)] at hj;exact hj
   have hg:=jBF hlen hi hj2
   have hlt:i*2+j<cs.toList.length:=by rw [hcs,vG hlen,List.length_map];omega
   rw [hrow _ hlt,hcs,hg]
structure BxsAt (w0 w:World) (Bs:List (Addr×Fld)):Prop where
 box:∀b∈Bs,Box w b.1 b.2.row 213
 pure:Pure w0 w
theorem BxsAt.step {w0 w w1:World} {Bs:List (Addr×Fld)} (h:BxsAt w0 w Bs) {p:Addr} (n1:New w (.cells #[.nilFunc,.nilFunc] 213) p w1) (f:Fld) {A:WP} (k:∀w',BxsAt w0 w' (Bs++[(p,f)])→A w'):(∀j,j<2→zW w1 (p.add j))∧∀w',w'=storeRow w1 p f.row→A w':=by
 have E1:Pure w w1:=Ext.new n1;refine bx 2 (Box.of_newA n1) rfl rfl (fun w2 b E=>k w2 ⟨fun c hc=>?_,h.pure.own (p:=p) (by rw [n1.at_size];exact h.pure.size) ((Ext.pure E1).trans E)⟩);rcases List.mem_append.1 hc with hc | hc
 ·have hB:=h.box c hc;exact (hB.pure E1).ext E (fun e=>by have:=World.block_lt_of_cell? w c.1 hB.cell0;have:=n1.at_size;omega)
 ·simp only [List.mem_singleton] at hc;subst hc;exact b
theorem PartsAt.get {w0 w:World} {m:Nat} {Bs:List (Addr×Fld)} {M:List (Int×Sl)} (h:PartsAt w0 w m Bs M) {p:Addr} {f:Fld} (hb:(p,f)∈Bs):Row w p [.func (.func f.put) #[] #[],.func (.func f.get) #[] #[]]:=(h.box _ hb).1.row
theorem jVM (w0:World):Calls prog 138 #[] w0 (fun e w'=>∃x:Option Nat,e=.returned (.map x)∧∃m M,x=some m∧(∃Bs,PartsAt w0 w' m Bs M)∧M.map Prod.fst=[1,2,3,4,5,6,7,8,9]):=by
 refine w_U3 w0 (fun x w'=>∃m M,x=some m∧(∃Bs,PartsAt w0 w' m Bs M)∧M.map Prod.fst=[1,2,3,4,5,6,7,8,9]) ?_;unfold m_U3;have h0:BxsAt w0 w0 []:=⟨fun b hb=>(by cases hb),Ext.refl _⟩;intro p1 v1 n1;refine h0.step n1 .from_ (fun u1 h1=>?_);intro p2 v2 n2;refine h1.step n2 .to_ (fun u2 h2=>?_);intro p3 v3 n3;refine h2.step n3 .num (fun u3 h3=>?_);intro p4 v4 n4;refine h3.step n4 .text (fun u4 h4=>?_);intro p5 v5 n5;refine h4.step n5 .fst (fun u5 h5=>?_);intro p6 v6 n6;refine h5.step n6 .snd (fun u6 h6=>?_);intro p7 w1 n7;have g0:PartsAt w0 w1 p7.block _ []:=⟨fun b hb=>⟨(h6.box b hb).pure (Ext.new n7),fun e=>by have:=World.block_lt_of_cell? u6 b.1 (h6.box b hb).cell0;have:=n7.at_size;omega⟩,IMap.of_new n7,fun p hp=>(by cases hp),h6.pure.trans (Ext.new n7),by rw [n7.at_size];exact h6.pure.size⟩;refine ⟨_,_,g0.get (f:=.from_) (by simp),?_⟩;intro q1 x1 y1;obtain ⟨z1,r1,g1⟩:=g0.step y1 1 1 rfl rfl (by simp [SE.look]);refine ⟨z1,r1,?_⟩;refine ⟨_,_,g1.get (f:=.num) (by simp),?_⟩;intro q2 x2 y2;obtain ⟨z2,r2,g2⟩:=g1.step y2 2 1 rfl rfl (by simp [SE.look]);refine ⟨z2,r2,?_⟩;refine ⟨_,_,g2.get (f:=.text) (by simp),?_⟩;intro q3 x3 y3;obtain ⟨z3,r3,g3⟩:=g2.step y3 3 1 rfl rfl (by simp [SE.look]);refine ⟨z3,r3,?_⟩;refine ⟨_,_,g3.get (f:=.fst) (by simp),?_⟩;refine ⟨_,_,g3.get (f:=.snd) (by simp),?_⟩;intro q4 x4 y4;obtain ⟨z4,r4,g4⟩:=g3.step y4 4 2 rfl rfl (by simp [SE.look]);refine ⟨z4,r4,?_⟩;refine ⟨_,_,g4.get (f:=.fst) (by simp),?_⟩;intro q5 x5 y5;obtain ⟨z5,r5,g5⟩:=g4.step y5 5 1 rfl rfl (by simp [SE.look]);refine ⟨z5,r5,?_⟩;refine ⟨_,_,g5.get (f:=.from_) (by simp),?_⟩;intro q6 x6 y6;obtain ⟨z6,r6,g6⟩:=g5.step y6 6 1 rfl rfl (by simp [SE.look]);refine ⟨z6,r6,?_⟩;refine ⟨_,_,g6.get (f:=.from_) (by simp),?_⟩;refine ⟨_,_,g6.get (f:=.fst) (by simp),?_⟩;intro q7 x7 y7;obtain ⟨z7,r7,g7⟩:=g6.step y7 7 2 rfl rfl (by simp [SE.look]);refine ⟨z7,r7,?_⟩;refine ⟨_,_,g7.get (f:=.from_) (by simp),?_⟩;refine ⟨_,_,g7.get (f:=.to_) (by simp),?_⟩;refine ⟨_,_,g7.get (f:=.fst) (by simp),?_⟩;intro q8 x8 y8;obtain ⟨z8,r8,g8⟩:=g7.step y8 8 3 rfl rfl (by simp [SE.look]);refine ⟨z8,r8,?_⟩;refine ⟨_,_,g8.get (f:=.from_) (by simp),?_⟩;refine ⟨_,_,g8.get (f:=.to_) (by simp),?_⟩;refine ⟨_,_,g8.get (f:=.fst) (by simp),?_⟩;intro q9 x9 y9;obtain ⟨z9,r9,g9⟩:=g8.step y9 9 3 rfl rfl (by simp [SE.look]);refine ⟨z9,r9,?_⟩;exact ⟨p7.block,_,rfl,⟨_,g9⟩,rfl⟩
end Go.Proofs
end
section
namespace Go.Proofs
def Fld.rd (bs:List UInt8) (r:Rd):Fld→Rd
 | .text=>(qR bs 64 r).2
 | _=>(qN bs r).2
structure Raw where
 num:Nat
 text:List UInt8
 frm:Nat
 to:Nat
 a:Nat
 b:Nat
 kids:Nat
def jBE:Raw:=⟨0,[],0,0,0,0,0⟩
def Fld.raw (bs:List UInt8) (r:Rd) (x:Raw):Fld→Raw
 | .from_=>{ x with frm:=(qN bs r).1 }
 | .to_=>{ x with to:=(qN bs r).1 }
 | .num=>{ x with num:=(qN bs r).1 }
 | .text=>{ x with text:=(qR bs 64 r).1 }
 | .fst=>{ x with a:=(qN bs r).1,kids:=1 }
 | .snd=>{ x with b:=(qN bs r).1,kids:=2 }
def qE (bs:List UInt8):List Fld→Raw×Rd→Raw×Rd
 | [],s=>s
 | f :: l,(x,r)=>qE bs l (f.raw bs r x,f.rd bs r)
def nodeErr (k n:Nat) (x:Raw) (e:Nat):Nat :=
 if e≠0 then e
 else if 16≤x.frm∨16≤x.to∨((k=8∨k=9)∧x.frm=x.to) then 50
 else if (0<x.kids∧n≤x.a)∨(1<x.kids∧n≤x.b) then 71
 else 0
def Raw.node (k:Nat) (x:Raw):Sp.Node:=⟨k,x.frm,x.to,x.num,⟨x.text.toArray⟩,if 0<x.kids then (x.a:Int)+1 else 0,if 1<x.kids then (x.b:Int)+1 else 0⟩
def jDC (k:Nat):Bool:=decide (1≤k) && decide (k≤9)
def jCY (L:Sp.Pool) (k:Nat) (s:Raw×Rd):Sp.Pool×Int×Rd :=
 if nodeErr k L.length s.1 s.2.err≠0 then (L,((nodeErr k L.length s.1 s.2.err:Nat):Int),s.2)
 else if (Sp.find L (s.1.node k)).isSome=true then (L,72,s.2)
 else ((Sp.make L (s.1.node k)).2.2,(Sp.make L (s.1.node k)).2.1,s.2)
def vT (bs:List UInt8) (L:Sp.Pool) (r:Rd):Sp.Pool×Int×Rd :=
 if jDC (uF bs r).1=true then jCY L (uF bs r).1 (qE bs (uI (uF bs r).1) (jBE,(uF bs r).2))
 else (L,70,(uF bs r).2)
def inRow:Nat→List Int→Nat
 | i,[]=>i
 | i,s :: l=>if s=(i:Int)+1 then inRow (i+1) l else i
def jDV (L:Sp.Pool) (ps:List Nat):Option Sp.Pool×Int×Nat :=
 let i:=inRow 0 (Sp.subs L L.length)
 if h:i<ps.length then (none,73,ps[i]) else (some L,0,0)
def jKY (bs:List UInt8):Nat→Sp.Pool→Rd→List Nat→Option Sp.Pool×Int×Nat
 | 0,L,_,ps=>jDV L ps
 | n+1,L,r,ps =>
  if r.at_<bs.length then
   if (vT bs L r).2.1≠0 then (none,(vT bs L r).2.1,r.at_)
   else jKY bs n (vT bs L r).1 (vT bs L r).2.2 (ps++[r.at_])
  else jDV L ps
def qI (bs:List UInt8):Option Sp.Pool×Int×Nat :=
 if 4096<bs.length then (none,1,0) else if bs.length=0 then (none,3,0) else jKY bs bs.length [] ⟨0,0,0⟩ []
def vK (Lq:Sp.Pool):List Int→Sp.Pool→(Int→Int)→Sp.Pool×Int×(Int→Int)
 | [],L,own=>(L,0,own)
 | s :: l,L,own =>
  let m:=Sp.make L { Sp.nodeOf Lq s with a:=own (Sp.nodeOf Lq s).a,b:=own (Sp.nodeOf Lq s).b }
  if m.2.1≠0 then (L,m.2.1,own) else vK Lq l m.2.2 (fun x=>if x=s then m.1 else own x)
def uG (L Lq:Sp.Pool) (t:Int):Int×Int×Sp.Pool :=
 if Sp.inP Lq t=true then
  let c:=vK Lq (Sp.subs Lq t) L (fun _=>0)
  if c.2.1≠0 then (0,c.2.1,L) else (c.2.2 t,0,c.1)
 else (0,51,L)
def jIB (L:Sp.Pool) (bs:List UInt8):Int×Int×Nat×Sp.Pool :=
 match (qI bs).1 with
 | none=>(0,(qI bs).2.1,(qI bs).2.2,L)
 | some q=>((uG L q q.length).1,(uG L q q.length).2.1,0,(uG L q q.length).2.2)
theorem jLB (bs:List UInt8) (r:Rd) (h:r.at_≤bs.length):r.at_≤(qN bs r).2.at_∧(qN bs r).2.at_≤bs.length:=by
 have key:∀(l:List UInt8) (i n:Nat) (m k:Nat),xK i n l=.ok (m,k)→k≤i+l.length∧i<k:=by
  intro l;induction l with
  | nil=>intro i n m k h;simp [xK] at h
  | cons c l ih =>
   intro i n m k h
   rw [tM] at h
   split at h
   ·cases h
   ·split at h
    ·split at h
     ·cases h
     ·cases h;simp
    ·have:=ih _ _ _ _ h
     rw [List.length_cons];omega
 unfold qN;split
 ·split
  ·rename_i n k hk;have:=key _ _ _ _ _ hk;rw [List.length_drop] at this;simp only;omega
  ·exact ⟨Nat.le_refl _,h⟩
 ·exact ⟨Nat.le_refl _,h⟩
theorem jSH (bs:List UInt8) (m:Nat) (r:Rd) (h:r.at_≤bs.length):r.at_≤(qR bs m r).2.at_∧(qR bs m r).2.at_≤bs.length:=by
 have hn:=jLB bs r h;unfold qN at hn;unfold qR;split
 ·rename_i he;rw [if_pos he] at hn;split
  ·rename_i n k hk;rw [hk] at hn;simp only at hn;split
   ·exact ⟨Nat.le_refl _,h⟩
   ·split
    ·exact ⟨Nat.le_refl _,h⟩
    ·simp only;omega
  ·exact ⟨Nat.le_refl _,h⟩
 ·exact ⟨Nat.le_refl _,h⟩
theorem Fld.rd_at (bs:List UInt8) (r:Rd) (f:Fld) (h:r.at_≤bs.length):r.at_≤(f.rd bs r).at_∧(f.rd bs r).at_≤bs.length:=by
 cases f <;> first | exact jSH bs 64 r h | exact jLB bs r h
theorem jIY (bs:List UInt8):∀(l:List Fld) (x:Raw) (r:Rd),r.at_≤bs.length→r.at_≤(qE bs l (x,r)).2.at_∧(qE bs l (x,r)).2.at_≤bs.length:=by
 intro l;induction l with
 | nil=>intro x r h;exact ⟨Nat.le_refl _,h⟩
 | cons f l ih =>
  intro x r h
  have h1:=f.rd_at bs r h
  have h2:=ih (f.raw bs r x) (f.rd bs r) h1.2
  rw [qE];omega
theorem jMN (bs:List UInt8) (r:Rd) (h:r.at_<bs.length) (he:r.err=0):uF bs r=(bs[r.at_].toNat,⟨r.at_+1,0,r.spot⟩):=by
 unfold uF;rw [if_pos he,dif_pos h]
theorem jCC (bs:List UInt8) (L:Sp.Pool) (r:Rd) (h:r.at_<bs.length) (he:r.err=0):vT bs L r =
  (if jDC bs[r.at_].toNat=true then jCY L bs[r.at_].toNat (qE bs (uI bs[r.at_].toNat) (jBE,⟨r.at_+1,0,r.spot⟩)) else (L,70,⟨r.at_+1,0,r.spot⟩)):=by
 unfold vT
 rw [jMN bs r h he]
theorem jFG {L:Sp.Pool} {k:Nat} {s:Raw×Rd} (h:(jCY L k s).2.1=0):s.2.err=0∧nodeErr k L.length s.1 s.2.err=0∧Sp.find L (s.1.node k)=none∧(Sp.make L (s.1.node k)).2.1=0∧jCY L k s=((Sp.make L (s.1.node k)).2.2,0,s.2):=by
 unfold jCY at *;split at h
 ·rename_i h1;exact absurd (by simpa using h) h1
 ·rename_i h1;rw [if_neg h1];have h1:nodeErr k L.length s.1 s.2.err=0:=by omega
  have he':s.2.err=0:=by
   by_cases h2:s.2.err=0
   ·exact h2
   ·exfalso;unfold nodeErr at h1;rw [if_pos h2] at h1;exact h2 h1
  split at h
  ·simp at h
  ·rename_i h3;rw [if_neg h3];simp only at h;exact ⟨he',h1,by simpa using h3,h,by rw [h]⟩
theorem jIU (bs:List UInt8) (L:Sp.Pool) (r:Rd) (h:r.at_<bs.length) (he:r.err=0) (h0:(vT bs L r).2.1=0):r.at_<(vT bs L r).2.2.at_∧(vT bs L r).2.2.at_≤bs.length∧(vT bs L r).2.2.err=0:=by
 have hl:=jIY bs (uI bs[r.at_].toNat) jBE ⟨r.at_+1,0,r.spot⟩ (by simp only;omega);simp only at hl;rw [jCC bs L r h he] at *;split at h0
 ·rename_i hk;rw [if_pos hk];obtain ⟨h1,_,_,_,h5⟩:=jFG h0;rw [h5];exact ⟨by simp only;omega,hl.2,h1⟩
 ·simp at h0
theorem jMM {bs:List UInt8} {L:Sp.Pool} {r:Rd} {ps:List Nat} (h:¬ r.at_<bs.length):∀n,jKY bs n L r ps=jDV L ps:=by
 intro n;cases n with
 | zero=>rfl
 | succ n=>rw [jKY,if_neg h]
end Go.Proofs
end
section
open Go Go.SE
namespace Go.Proofs
open Tryz
attribute [local irreducible] Calls CallsD
theorem c_put {S:NP} (f:Fld) (s:Sl) (bs:List UInt8) (n:Sp.Node) (na nb mb:Nat) (M:List (Int×Int)) (w0:World) (hs:Lst S w0 1 s (byr bs)) (hz:s.a=none→s=Sl.nil) (hn:bs.length≤10000000000)
  (h1:0≤n.frm∧n.frm<9223372036854775808) (h2:0≤n.to∧n.to<9223372036854775808) (h3:0≤n.num∧n.num<18446744073709551616) (h4:n.text.size≤10000000000) (hM:IMap (fun i:Int=>.int .i64 i) w0 mb M)
  (ha:f=.fst→SE.look M n.a=some (na:Int)∧na<9223372036854775808) (hb:f=.snd→SE.look M n.b=some (nb:Int)∧nb<9223372036854775808) :
  Calls prog f.put #[s.v,.agg #[.int .i64 n.kind,.int .i64 n.frm,.int .i64 n.to,.int .u64 n.num,.string n.text,.int .i64 n.a,.int .i64 n.b],.map (some mb)] w0 (fun e w'=>∃r:Sl,e=.returned r.v∧RetO w0 5 1 (byr (bs++f.bytes n na nb)) r w'):=by
 cases f
 ·exact jRA s bs _ _ _ _ _ _ _ _ w0 hs hz hn n.frm.toNat (by omega) (by omega)
 ·exact jVL s bs _ _ _ _ _ _ _ _ w0 hs hz hn n.to.toNat (by omega) (by omega)
 ·exact jQZ s bs _ _ _ _ _ _ _ _ w0 hs hz hn n.num.toNat (by omega) (by omega)
 ·exact jOJ s bs _ _ _ _ _ _ _ _ w0 hs hz hn h4
 ·exact c_putA s bs _ _ _ _ _ _ _ w0 hs hz hn mb M na hM (ha rfl).1 (ha rfl).2
 ·exact c_putB s bs _ _ _ _ _ _ _ w0 hs hz hn mb M nb hM (hb rfl).1 (hb rfl).2
def Fld.upd (bs:List UInt8) (r:Rd) (cells:List Value):Fld→List Value
 | .from_=>cells.set 7 (.int .u64 ((qN bs r).1:Int))
 | .to_=>cells.set 8 (.int .u64 ((qN bs r).1:Int))
 | .num=>cells.set 3 (.int .u64 ((qN bs r).1:Int))
 | .text=>cells.set 4 (.string ⟨(qR bs 64 r).1.toArray⟩)
 | .fst=>(cells.set 9 (.int .u64 ((qN bs r).1:Int))).set 11 (.int .i64 1)
 | .snd=>(cells.set 10 (.int .u64 ((qN bs r).1:Int))).set 11 (.int .i64 2)
theorem c_get {S:NP} (f:Fld) (a q:Addr) (s:Sl) (bs:List UInt8) (r:Rd) (cells:List Value) (w0:World) (h:RdS S w0 a s bs r) (hat:r.at_≤bs.length) (hS:∀b,S b→b<w0.heap.size) (hq:Box w0 q cells 253) (hl:cells.length=12) (haq:a.block≠q.block) (hSq:∀b,S b→b≠q.block) :
  Calls prog f.get #[.pointer (some a),.pointer (some q)] w0 (fun e w'=>e=.returned (.tuple #[])∧RdS S w' a s bs (f.rd bs r)∧Box w' q (f.upd bs r cells) 253∧Ext (fun b=>b=a.block∨b=q.block) w0 w'):=by
 cases f
 ·exact jRG a q s bs r cells w0 h hat hS hq hl haq hSq
 ·exact jVO a q s bs r cells w0 h hat hS hq hl haq hSq
 ·exact jTJ a q s bs r cells w0 h hat hS hq hl haq hSq
 ·exact jRF a q s bs r cells w0 h hat hS hq hl haq hSq
 ·exact c_getA a q s bs r cells w0 h hat hS hq hl haq hSq
 ·exact c_getB a q s bs r cells w0 h hat hS hq hl haq hSq
structure Kinds (w:World) (m:Nat) (F:NP):Prop where
 ex:∃M:List (Int×Sl),IMap Sl.v w m M∧(∀p∈M,Lst F w 2 p.2 ((uI p.1).map Fld.row))∧M.map Prod.fst=[1,2,3,4,5,6,7,8,9]
 lt:∀b,F b→b<w.heap.size
 ne:∀b,F b→b≠m
theorem Kinds.ext {w w':World} {m:Nat} {F G:NP} (h:Kinds w m F) (E:Ext G w w') (hG:∀b,F b∨b=m→¬ G b):Kinds w' m F:=by
 obtain ⟨M,h1,h2,h3⟩:=h.ex;exact ⟨⟨M,h1.ext E (hG m (.inr rfl)),fun p hp=>(h2 p hp).ext E (fun b hb=>hG b (.inl hb)),h3⟩,fun b hb=>Nat.lt_of_lt_of_le (h.lt b hb) E.size,h.ne⟩
theorem Kinds.pure {w w':World} {m:Nat} {F:NP} (h:Kinds w m F) (E:Pure w w'):Kinds w' m F:=h.ext E (fun _ _ h=>h)
theorem Kinds.mlt {w:World} {m:Nat} {F:NP} (h:Kinds w m F):m<w.heap.size:=by obtain ⟨M,h1,_⟩:=h.ex;exact h1.lt
theorem lst_lt {S:NP} {w:World} {s:Sl} {rs:List (List Value)} {sz:Nat} (h:Lst S w sz s rs) (hr:∀r∈rs,0<r.length):Lst (fun b=>S b∧b<w.heap.size) w sz s rs :=
 ⟨h.len,fun i hi=>let ⟨a,h1,h2,h3⟩:=h.at_ i hi;⟨a,h1,⟨h2,by
  have h0:=hr _ (List.getElem_mem hi);have:=h3 0 h0;rw [List.getElem?_eq_getElem h0] at this;have:=World.block_lt_of_cell? w (a.add 0) this;rwa [zU] at this⟩,h3⟩⟩
theorem jRE (w0:World):Calls prog 138 #[] w0 (fun e w'=>∃x:Option Nat,e=.returned (.map x)∧∃m F,x=some m∧Kinds w' m F∧Pure w0 w'∧w0.heap.size≤m∧∀b,F b→w0.heap.size≤b):=by
 refine (jVM w0).mono ?_;rintro _ w' ⟨x,rfl,m,M,rfl,⟨Bs,h⟩,hM⟩;refine ⟨_,rfl,m,fun b=>(w0.heap.size≤b∧b≠m)∧b<w'.heap.size,rfl,⟨⟨M,h.map,fun p hp=>lst_lt (h.lst p hp) (fun r hr=>by obtain ⟨f,_,rfl⟩:=List.mem_map.1 hr;simp [Fld.row]),hM⟩,fun b hb=>hb.2,fun b hb=>hb.1.2⟩,h.pure,h.own,fun b hb=>hb.1.1⟩
theorem Kinds.get {w:World} {m:Nat} {F:NP} (h:Kinds w m F) (k:Int) (h1:1≤k) (h9:k≤9) (ok:Bool) :
  ∃s:Sl,(Instr.lookup 203 (.map (some m)) (.int .i64 k) ok).run prog w=.ok (if ok then .tuple #[s.v,.bool true] else s.v) w∧Lst F w 2 s ((uI k).map Fld.row):=by
 obtain ⟨M,hM,hL,hk⟩:=h.ex
 rcases hM.get (P:=prog) (T:=203) underlying203 underlying3 (zeroValue209 _) k ok with ⟨hn,_⟩ | ⟨s,hs,hr⟩
 ·have:=tN.1 hn
  rw [hk] at this
  simp at this;omega
 ·exact ⟨s,hr,hL _ (jCJ hs)⟩
theorem Kinds.none {w:World} {m:Nat} {F:NP} (h:Kinds w m F) (k:Int) (hk:¬ (1≤k∧k≤9)):(Instr.lookup 203 (.map (some m)) (.int .i64 k) true).run prog w=.ok (.tuple #[Sl.nil.v,.bool false]) w:=by
 obtain ⟨M,hM,hL,hks⟩:=h.ex;rcases hM.get (P:=prog) (T:=203) underlying203 underlying3 (zeroValue209 _) k true with ⟨_,hr⟩ | ⟨s,hs,_⟩
 ·exact hr
 ·have:k∈M.map Prod.fst:=List.mem_map.2 ⟨_,jCJ hs,rfl⟩;rw [hks] at this;simp at this;omega
def yW:Nat→List Int→List (Int×Int)
 | _,[]=>[]
 | i,t :: l=>(t,(i:Int)) :: yW (i+1) l
theorem jJA (l:List Int) (t:Int):∀i,yW i (l++[t])=yW i l++[(t,((i+l.length:Nat):Int))]:=by
 induction l with
 | nil=>intro i;simp [yW]
 | cons x l ih=>intro i;simp only [List.cons_append,yW,ih,List.length_cons];congr 3;simp;omega
theorem jJB (l:List Int):∀i,(yW i l).map Prod.fst=l:=by
 induction l with
 | nil=>intro i;rfl
 | cons x l ih=>intro i;simp [yW,ih]
theorem jLF (l:List Int):∀i,(yW i l).length=l.length:=by
 induction l with
 | nil=>intro i;rfl
 | cons x l ih=>intro i;simp [yW,ih]
theorem jDK (l:List Int) (t:Int) (ht:t∈l):∀i,SE.look (yW i l) t=some ((i+posOf l t:Nat):Int):=by
 induction l with
 | nil=>cases ht
 | cons x l ih =>
  intro i
  rw [yW,SE.look]
  by_cases e:x=t
  ·subst e;rw [if_pos rfl];simp [posOf]
  ·rw [if_neg e]
   have ht':t∈l:=(List.mem_cons.1 ht).resolve_left (fun h=>e h.symm)
   rw [ih ht']
   have:posOf (x :: l) t=posOf l t+1:=by
    have e0:(x == t)=false:=by simpa using e
    simp [posOf,List.idxOf_cons,e0]
   rw [this];congr 2;omega
end Go.Proofs
end
section
namespace Go.Sp
def jAQ (L:Pool):Prop:=∀e∈L,tX e.node.num
theorem jAQ.nil:jAQ []:=fun _ h=>(by cases h)
theorem jAQ.make {L:Pool} (h:jAQ L) {n:Node} (hn:tX n.num):jAQ (make L n).2.2:=by
 rcases jFM L n with e | ⟨_,e⟩
 ·rw [e];exact h
 ·rw [e];intro x hx;rcases List.mem_append.1 hx with hx | hx
  ·exact h x hx
  ·rw [List.mem_singleton] at hx;subst hx;exact hn
theorem jAQ.grow (t:Tree):∀L,jAQ L→NumT t→jAQ (grow L t).2.2:=by
 induction t using Tree.ind with
 | h k f t u x ks ih =>
  have:∀(ks:List Tree),(∀i (hi:i<ks.length),∀L,jAQ L→NumT ks[i]→jAQ (Sp.grow L ks[i]).2.2)→(∀i (hi:i<ks.length),NumT ks[i])→∀(n:Node) i L,tX n.num→jAQ L→jAQ (vP n i L ks).2.2:=by
   intro ks;induction ks with
   | nil=>intro _ _ n i L hn h;unfold vP;exact h.make hn
   | cons t ts iht =>
    intro hh hk n i L hn h
    have h0:=hh 0 (by simp) L h (hk 0 (by simp))
    simp only [List.getElem_cons_zero] at h0
    unfold vP
    split
    ·exact h0
    ·exact iht (fun i hi=>hh (i+1) (by simpa using hi)) (fun i hi=>hk (i+1) (by simpa using hi)) _ _ _ (by split <;> exact hn) h0
  intro L h hT
  cases hT with
  | mk _ _ _ _ _ _ own kids =>
   unfold Sp.grow
   exact this ks ih kids _ _ L own h
theorem jAQ.of {L:Pool} (h:jAQ L) {t:Tree} (hT:NumT t):jAQ (of L t).2.2:=by
 unfold Sp.of;split
 ·exact h
 ·split
  ·exact h
  ·exact jAQ.grow t L h hT
theorem jAQ.node {L:Pool} (h:jAQ L) (t:Int):tX (nodeOf L t).num:=by
 cases ht:inP L t with
 | true=>obtain ⟨e,he,hm,_⟩:=jCM ht;simp only [nodeOf,he,Option.map_some,Option.getD_some];exact h e hm
 | false=>simp only [nodeOf,uN ht,Option.map_none,Option.getD_none];exact ⟨by decide,by decide⟩
theorem jMS {L:Pool} (hW:Wf L) {t:Int} (ht:inP L t=true):1≤(nodeOf L t).kind∧(nodeOf L t).kind≤9∧0≤(nodeOf L t).frm∧(nodeOf L t).frm<16∧0≤(nodeOf L t).to∧(nodeOf L t).to<16∧(nodeOf L t).text.size≤64:=by
 obtain ⟨h1,_,_,h4,_⟩:=hW.node ht;generalize nodeOf L t=n at *;have hp:isKind n.kind=true∧((shapeOf n.kind).frm=false→n.frm=0)∧((shapeOf n.kind).to=false→n.to=0):=by
  unfold zZ at h1;simp only at h1;split at h1
  ·cases h1
  ·rename_i h;simp at h;exact ⟨h.1.1.1.1,h.1.1.1.2,h.1.1.2⟩
 have hk:=hp.1;simp only [isKind,Bool.and_eq_true,decide_eq_true_eq] at hk;have hf:((shapeOf n.kind).frm=true→xY n.frm=true)∧((shapeOf n.kind).to=true→xY n.to=true)∧n.text.size≤64:=by
  unfold zX at h4;split at h4
  ·cases h4
  ·rename_i h;split at h4
   ·cases h4
   ·simp at h;exact ⟨fun hh=>h.1 hh,fun hh=>(h.2 hh).1,by omega⟩
 refine ⟨hk.1,hk.2,?_⟩;have n1:0≤n.frm∧n.frm<16:=by
  cases hs:(shapeOf n.kind).frm with
  | true=>have:=hf.1 hs;simpa [xY] using this
  | false=>rw [hp.2.1 hs];decide
 have n2:0≤n.to∧n.to<16:=by
  cases hs:(shapeOf n.kind).to with
  | true=>have:=hf.2.1 hs;simpa [xY] using this
  | false=>rw [hp.2.2 hs];decide
 exact ⟨n1.1,n1.2,n2.1,n2.2,hf.2.2⟩
end Go.Sp
namespace Go.Proofs
theorem jHR (k:Int):(uI k).length≤3:=by
 unfold uI;repeat' split
 all_goals decide
theorem jQK (n:Sp.Node) (na nb:Nat) (f:Fld) (h1:n.frm<16) (h2:n.to<16) (h3:Sp.tX n.num) (h4:n.text.size≤64) (ha:na<65537) (hb:nb<65537):(f.bytes n na nb).length≤74:=by
 have h3:=h3.2;cases f <;> simp only [Fld.bytes,yG,List.length_append]
 ·have:=yF (n:=n.frm.toNat) (by omega);omega
 ·have:=yF (n:=n.to.toNat) (by omega);omega
 ·have:=yF (n:=n.num.toNat) (by omega);omega
 ·have:=yF (n:=n.text.size) (by omega);have:n.text.data.toList.length=n.text.size:=Array.length_toList;omega
 ·have:=yF (n:=na) (by omega);omega
 ·have:=yF (n:=nb) (by omega);omega
theorem jJL {α β:Type} (f:α→List β) (c:Nat):∀l:List α,(∀x∈l,(f x).length≤c)→(l.flatMap f).length≤c*l.length:=by
 intro l;induction l with
 | nil=>intro _;simp
 | cons a l ih =>
  intro h
  have h1:=h a (by simp)
  have h2:=ih (fun x hx=>h x (List.mem_cons_of_mem _ hx))
  rw [List.flatMap_cons,List.length_append,List.length_cons,Nat.mul_succ];omega
theorem jAK (l:List Int) (t:Int):posOf l t≤l.length:=List.idxOf_le_length
theorem jJD {L:Sp.Pool} (hW:Sp.Wf L) (hN:Sp.jAQ L) {seen:List Int} {t:Int} (ht:Sp.inP L t=true) (hs:seen.length≤65536):(uY L seen t).length≤300:=by
 obtain ⟨_,_,_,h1,_,h2,h4⟩:=Sp.jMS hW ht;have:=jJL (Fld.bytes (Sp.nodeOf L t) (posOf seen (Sp.nodeOf L t).a) (posOf seen (Sp.nodeOf L t).b)) 74 (uI (Sp.nodeOf L t).kind) (fun f _=>jQK _ _ _ f h1 h2 (hN.node t) h4 (by have:=jAK seen (Sp.nodeOf L t).a;omega) (by have:=jAK seen (Sp.nodeOf L t).b;omega));have h3:=jHR (Sp.nodeOf L t).kind;have:74*(uI (Sp.nodeOf L t).kind).length≤74*3:=Nat.mul_le_mul_left _ h3;unfold uY;rw [List.length_cons];omega
theorem jIL {L:Sp.Pool} (hW:Sp.Wf L) (hN:Sp.jAQ L):∀(l seen:List Int),(∀t∈l,Sp.inP L t=true)→seen.length+l.length≤65536→(textFrom L seen l).length≤300*l.length:=by
 intro l;induction l with
 | nil=>intro seen _ _;simp [textFrom]
 | cons t l ih =>
  intro seen h hl
  rw [List.length_cons] at hl
  have h1:=jJD hW hN (seen:=seen) (h t (by simp)) (by omega)
  have h2:=ih (seen++[t]) (fun x hx=>h x (List.mem_cons_of_mem _ hx)) (by rw [List.length_append,List.length_singleton];omega)
  rw [textFrom,List.length_append,List.length_cons,Nat.mul_succ];omega
end Go.Proofs
end
section
open Go Go.SE
namespace Go.Proofs
attribute [local irreducible] Calls
theorem xD (k:Int):(k=1∨k=2∨k=3∨k=4∨k=5∨k=6∨k=7∨k=8∨k=9)∨(Sp.shapeOf k=Sp.noShape∧Sp.isKind k=false∧∀m:Int,1≤m→m≤9→(k == m)=false):=by
 by_cases h:k=1∨k=2∨k=3∨k=4∨k=5∨k=6∨k=7∨k=8∨k=9
 ·exact .inl h
 ·right;refine ⟨?_,?_,fun m h1 h2=>?_⟩
  ·unfold Sp.shapeOf;repeat rw [if_neg (by omega)]
  ·unfold Sp.isKind;apply Bool.eq_false_iff.2;intro h3;simp at h3;omega
  ·rw [beq_eq_false_iff_ne];omega
theorem tL (k:Int):s_C k=(Sp.shapeOf k).kids:=by
 rcases xD k with h | ⟨h,_,hm⟩
 ·rcases h with rfl | rfl | rfl | rfl | rfl | rfl | rfl | rfl | rfl <;> decide
 ·rw [h];unfold s_C;simp [hm,Sp.noShape]
theorem jFD (k:Int):s_D k=(Sp.shapeOf k).frm:=by
 rcases xD k with h | ⟨h,_,hm⟩
 ·rcases h with rfl | rfl | rfl | rfl | rfl | rfl | rfl | rfl | rfl <;> decide
 ·rw [h];unfold s_D;simp [hm,Sp.noShape]
theorem jIM (k:Int):((k == 8) || (k == 9))=(Sp.shapeOf k).to:=by
 rcases xD k with h | ⟨h,_,hm⟩
 ·rcases h with rfl | rfl | rfl | rfl | rfl | rfl | rfl | rfl | rfl <;> decide
 ·rw [h];simp [hm,Sp.noShape]
theorem jPK (k:Int):(k == 2)=(Sp.shapeOf k).num:=by
 rcases xD k with h | ⟨h,_,hm⟩
 ·rcases h with rfl | rfl | rfl | rfl | rfl | rfl | rfl | rfl | rfl <;> decide
 ·rw [h];simp [hm,Sp.noShape]
theorem jNL (k:Int):(k == 3)=(Sp.shapeOf k).text:=by
 rcases xD k with h | ⟨h,_,hm⟩
 ·rcases h with rfl | rfl | rfl | rfl | rfl | rfl | rfl | rfl | rfl <;> decide
 ·rw [h];simp [hm,Sp.noShape]
theorem jNM (k:Int):(!(decide (k<1) || decide (k>9)))=Sp.isKind k:=by
 unfold Sp.isKind;by_cases h1:k<1 <;> by_cases h2:k>9 <;> simp [h1,h2] <;> omega
theorem ite53 (q:Bool):decide ((if q=true then (53:Int) else 0)=0)=!q:=by cases q <;> rfl
def Sp.nodeErr (n:Sp.Node):Int :=
 if Sp.zZ n≠0 then 53 else if (decide ((Sp.shapeOf n.kind).kids<1) && n.a != 0) || (decide ((Sp.shapeOf n.kind).kids<2) && n.b != 0) then 53 else Sp.zX (Sp.shapeOf n.kind) n
theorem jKV (n:Sp.Node):s_E1 n.kind n.frm n.to n.num n.text n.a n.b=(decide (Sp.zZ n=0) && !((decide ((Sp.shapeOf n.kind).kids<1) && n.a != 0) || (decide ((Sp.shapeOf n.kind).kids<2) && n.b != 0))):=by
 obtain ⟨k,f,t,u,x,a,b⟩:=n;unfold s_E1 Sp.zZ;simp only [tL,jFD,jIM k,jPK k,jNL k,jNM];have hk:=Sp.uL k;generalize Sp.shapeOf k=s at *;obtain ⟨s1,s2,s3,s4,s5⟩:=s;generalize Sp.isKind k=i;have e1:decide (s5≥1)=!decide (s5<1):=by by_cases h:s5<1 <;> simp [h] <;> omega
 have e2:(s5 == 2)=!decide (s5<2):=by
  by_cases h:s5<2
  ·simp [h];omega
  ·simp [h];simp at hk;omega
 simp only [e1,e2,bne,ite53];generalize (f == 0)=c1;generalize (t == 0)=c2;generalize (u == 0)=c3;generalize decide (x=⟨#[]⟩)=c4;generalize (a == 0)=c5;generalize (b == 0)=c6;generalize decide (s5<1)=c7;generalize decide (s5<2)=c8;cases i <;> cases s1 <;> cases s2 <;> cases s3 <;> cases s4 <;> cases c1 <;> cases c2 <;> cases c3 <;> cases c4 <;> simp
theorem jFC (n:Sp.Node):s_J n.kind n.frm n.to n.num n.text n.a n.b=Sp.nodeErr n:=by
 unfold s_J Sp.nodeErr;rw [jKV,jFD,jIM];by_cases h1:Sp.zZ n=0
 ·by_cases h2:((decide ((Sp.shapeOf n.kind).kids<1) && n.a != 0) || (decide ((Sp.shapeOf n.kind).kids<2) && n.b != 0))=true
  ·rw [h2];simp [h1]
  ·have h2:((decide ((Sp.shapeOf n.kind).kids<1) && n.a != 0) || (decide ((Sp.shapeOf n.kind).kids<2) && n.b != 0))=false:=by simpa using h2
   rw [h2];simp only [h1,ne_eq,not_true_eq_false,if_false,Bool.false_eq_true,decide_true,Bool.not_false,Bool.and_true,Bool.not_true,cond_false];unfold Sp.zX Sp.xY;have e1:(decide (n.frm≥0) && decide (n.frm<16))=(decide (0≤n.frm) && decide (n.frm<16)):=rfl;have e2:(decide (n.to≥0) && decide (n.to<16))=(decide (0≤n.to) && decide (n.to<16)):=rfl;have e3:(n.frm == n.to)=(n.to == n.frm):=by rw [Bool.eq_iff_iff];simp only [beq_iff_eq];exact eq_comm
   rw [e1,e2,e3];have e4:decide (((n.text.size:Int))>64)=decide (n.text.size>64):=decide_eq_decide.2 (by omega);rw [e4];generalize ((Sp.shapeOf n.kind).frm && !(decide (0≤n.frm) && decide (n.frm<16)) || (Sp.shapeOf n.kind).to && (!(decide (0≤n.to) && decide (n.to<16)) || n.to == n.frm))=c;cases c
   ·by_cases h:n.text.size>64 <;> simp [h]
   ·rfl
 ·simp [h1]
end Go.Proofs
end
section
open Go Go.SE
namespace Go.Proofs
open Tryz
attribute [local irreducible] Calls
theorem jMB:SlType prog 49 103 7 64:=by
 refine ⟨underlying49,⟨t103,_,by kernel_rfl,(by kernel_rfl:t103.zero=some (.agg #[.int .i64 0,.int .i64 0,.int .i64 0,.int .u64 0,.string ⟨#[]⟩,.int .i64 0,.int .i64 0])),by kernel_rfl,by kernel_rfl,rfl⟩,by omega⟩
theorem jEW:SlType prog 50 3 1 8:=by
 refine ⟨underlying50,⟨t3,_,by kernel_rfl,(by kernel_rfl:t3.zero=some (.int .i64 0)),by kernel_rfl,by kernel_rfl,rfl⟩,by omega⟩
def jUP (e:Sp.Ent):List Value:=tF e.node
def jUN (e:Sp.Ent):List Value:=[.int .i64 e.size]
def jPN (e:Sp.Ent):List Value:=[.int .i64 e.depth]
structure PoolRS (w:World) (p:Addr) (L:Sp.Pool) (s1 s2 s3:Sl):Prop where
 box:Box w p [s1.v,s2.v,s3.v] 52
 r1:Rws w 103 7 s1 (L.map jUP)
 r2:Rws w 3 1 s2 (L.map jUN)
 r3:Rws w 3 1 s3 (L.map jPN)
 n1:¬ s1.blk p.block
 n2:¬ s2.blk p.block
 n3:¬ s3.blk p.block
 d12:∀b,s1.blk b→¬ s2.blk b
 d13:∀b,s1.blk b→¬ s3.blk b
 d23:∀b,s2.blk b→¬ s3.blk b
def qY (w:World) (p:Addr) (L:Sp.Pool) (F:NP):Prop:=∃s1 s2 s3,PoolRS w p L s1 s2 s3∧∀b,F b↔(b=p.block∨s1.blk b∨s2.blk b∨s3.blk b)
theorem qY.ext {G:NP} {w w':World} {p:Addr} {L:Sp.Pool} {F:NP} (h:qY w p L F) (hE:Ext G w w') (hd:∀b,F b→¬ G b):qY w' p L F:=by
 obtain ⟨s1,s2,s3,h,hF⟩:=h;exact ⟨s1,s2,s3,⟨h.box.ext hE (hd _ ((hF _).2 (.inl rfl))),h.r1.ext hE (fun b hb=>hd _ ((hF _).2 (.inr (.inl hb)))),h.r2.ext hE (fun b hb=>hd _ ((hF _).2 (.inr (.inr (.inl hb))))),h.r3.ext hE (fun b hb=>hd _ ((hF _).2 (.inr (.inr (.inr hb))))),h.n1,h.n2,h.n3,h.d12,h.d13,h.d23⟩,hF⟩
theorem qY.pure {w w':World} {p:Addr} {L:Sp.Pool} {F:NP} (h:qY w p L F) (hE:Pure w w'):qY w' p L F:=h.ext hE (fun _ _ h=>h)
theorem qY.lt {w:World} {p:Addr} {L:Sp.Pool} {F:NP} (h:qY w p L F) {b:Nat} (hb:F b):b<w.heap.size:=by
 obtain ⟨s1,s2,s3,h,hF⟩:=h;rcases (hF b).1 hb with rfl | hb | hb | hb
 ·exact h.box.lt
 ·exact h.r1.lt hb
 ·exact h.r2.lt hb
 ·exact h.r3.lt hb
theorem jLT (w0:World):Calls prog 12 #[] w0 (fun e w'=>∃r:Option Addr,e=.returned (.pointer r)∧∃p F,r=some p∧qY w' p [] F∧Pure w0 w'∧∀b,F b→w0.heap.size≤b):=by
 refine w_O3 w0 (fun r w'=>∃p F,r=some p∧qY w' p [] F∧Pure w0 w'∧∀b,F b→w0.heap.size≤b) ?_;unfold m_O3;have hnil:∀b,¬ Sl.nil.blk b:=fun b hb=>by obtain ⟨a,h,_⟩:=hb;cases h
 intro p w1 h1;have b1:=Box.of_new h1;have E1:Pure w0 w1:=Ext.new h1
 first
  | exact ⟨p,(·=p.block),rfl,⟨Sl.nil,Sl.nil,Sl.nil,⟨b1,Rws.nil _ _ _,Rws.nil _ _ _,Rws.nil _ _ _,hnil _,hnil _,hnil _,fun b h=>(hnil b h).elim,fun b h=>(hnil b h).elim,fun b h=>(hnil b h).elim⟩,fun b=>by simp [hnil]⟩,E1,fun b hb=>by subst hb;exact New.own (Ext.refl w0) h1⟩
  | skip
theorem uM (p:Addr) (t:Int) (w0:World) {L:Sp.Pool} {F:NP} (hP:qY w0 p L F):Calls prog 19 #[.pointer (some p),.int .i64 t] w0 (fun e w'=>∃r:Bool,e=.returned (.bool r)∧(r=Sp.inP L t∧w'=w0)):=by
 refine w_Q3 _ _ w0 (fun r w'=>r=Sp.inP L t∧w'=w0) ?_;unfold m_Q3;obtain ⟨s1,s2,s3,h,hF⟩:=hP;have hl:s1.len=L.length:=by rw [h.r1.len];simp
 refine ⟨fun hc=>⟨p,rfl,s1,h.box.cell0,?_,rfl⟩,fun hc=>⟨?_,rfl⟩⟩
 ·have:=of_decide_eq_true hc;rw [hl];simp [Sp.inP,this]
 ·have:=of_decide_eq_false hc;simp [Sp.inP];omega
theorem PoolRS.at1 {w:World} {p:Addr} {L:Sp.Pool} {s1 s2 s3:Sl} (h:PoolRS w p L s1 s2 s3) {t:Int} (ht:Sp.inP L t=true) (hok:Sp.Ok L):∃e,Sp.get L t=some e ∧
  (∃a,At s1 (IntKind.i64.wrap (t - 1)) 7 a∧Row w a (jUP e))∧(∃a,At s2 (IntKind.i64.wrap (t - 1)) 1 a∧Row w a (jUN e))∧(∃a,At s3 (IntKind.i64.wrap (t - 1)) 1 a∧Row w a (jPN e)):=by
 obtain ⟨e,he,_,hi,hLe⟩:=Sp.jCM ht
 have hin:=Sp.vF.1 ht
 have hf:=hok.few
 have hw:IntKind.i64.wrap (t - 1)=((t - 1).toNat:Int):=by rw [i64 (by omega) (by omega)];omega
 obtain ⟨a1,h1,g1⟩:=h.r1.nth (j:=(t - 1).toNat) hi
 obtain ⟨a2,h2,g2⟩:=h.r2.nth (j:=(t - 1).toNat) hi
 obtain ⟨a3,h3,g3⟩:=h.r3.nth (j:=(t - 1).toNat) hi
 rw [hLe] at g1 g2 g3
 rw [hw]
 exact ⟨e,he,⟨a1,h1,g1⟩,⟨a2,h2,g2⟩,⟨a3,h3,g3⟩⟩
theorem xZ (p:Addr) (t:Int) (w0:World) {L:Sp.Pool} {F:NP} (hP:qY w0 p L F) (hok:Sp.Ok L):Calls prog 89 #[.pointer (some p),.int .i64 t] w0 (fun e w'=>∃r:Int,e=.returned (.int .i64 r)∧(r=Sp.sizeOf L t∧w'=w0)):=by
 refine w_R3 _ _ w0 (fun r w'=>r=Sp.sizeOf L t∧w'=w0) ?_;unfold m_R3;refine (uM p t w0 hP).mono ?_;rintro _ _ ⟨_,rfl,rfl,rfl⟩;refine ⟨_,rfl,fun h=>⟨?_,rfl⟩,fun h=>?_⟩
 ·have h:Sp.inP L t=false:=by simpa using h
  simp [Sp.sizeOf,Sp.uN h]
 ·have h:Sp.inP L t=true:=by simpa using h
  obtain ⟨s1,s2,s3,hS,hF⟩:=hP;obtain ⟨e,he,_,⟨a,hat,hr⟩,_⟩:=hS.at1 h hok;exact ⟨p,rfl,s2,hS.box.cell rfl,a,hat,_,jCB hr,by simp [Sp.sizeOf,he],rfl⟩
theorem jCN (p:Addr) (t:Int) (w0:World) {L:Sp.Pool} {F:NP} (hP:qY w0 p L F) (hok:Sp.Ok L):Calls prog 154 #[.pointer (some p),.int .i64 t] w0 (fun e w'=>∃r:Int,e=.returned (.int .i64 r)∧(r=Sp.depthOf L t∧w'=w0)):=by
 refine w_S3 _ _ w0 (fun r w'=>r=Sp.depthOf L t∧w'=w0) ?_;unfold m_S3;refine (uM p t w0 hP).mono ?_;rintro _ _ ⟨_,rfl,rfl,rfl⟩;refine ⟨_,rfl,fun h=>⟨?_,rfl⟩,fun h=>?_⟩
 ·have h:Sp.inP L t=false:=by simpa using h
  simp [Sp.depthOf,Sp.uN h]
 ·have h:Sp.inP L t=true:=by simpa using h
  obtain ⟨s1,s2,s3,hS,hF⟩:=hP;obtain ⟨e,he,_,_,⟨a,hat,hr⟩⟩:=hS.at1 h hok;exact ⟨p,rfl,s3,hS.box.cell rfl,a,hat,_,jCB hr,by simp [Sp.depthOf,he],rfl⟩
theorem jJY (p:Addr) (t:Int) (w0:World) {L:Sp.Pool} {F:NP} (hP:qY w0 p L F) (hok:Sp.Ok L):Calls prog 63 #[.pointer (some p),.int .i64 t] w0
  (fun e w'=>∃k f t' u:Int,∃x:ByteArray,∃a b:Int,∃r:Bool,e=.returned (.tuple #[.agg #[.int .i64 k,.int .i64 f,.int .i64 t',.int .u64 u,.string x,.int .i64 a,.int .i64 b],.bool r])∧(((⟨k,f,t',u,x,a,b⟩:Sp.Node)=Sp.nodeOf L t∧r=Sp.inP L t)∧Pure w0 w')):=by
 refine w_T3 _ _ w0 (fun k f t' u x a b r w'=>((⟨k,f,t',u,x,a,b⟩:Sp.Node)=Sp.nodeOf L t∧r=Sp.inP L t)∧Pure w0 w') ?_
 unfold m_T3
 intro H1 w1 hs1
 have hP1:=hP.pure hs1.first
 refine (uM p t w1 hP1).mono ?_
 rintro _ _ ⟨_,rfl,rfl,rfl⟩
 refine ⟨_,rfl,Kept.refl _,fun h=>?_,fun h=>?_⟩
 ·intro w3 hs3
  have h:Sp.inP L t=false:=by simpa using h
  exact ⟨⟨by simp [Sp.nodeOf,Sp.uN h,Sp.jDM],h.symm⟩,hs1.first.hst hs3⟩
 ·have h:Sp.inP L t=true:=by simpa using h
  obtain ⟨s1,s2,s3,hS,hF⟩:=hP1
  obtain ⟨e,he,⟨a,hat,hr⟩,_,_⟩:=hS.at1 h hok
  refine ⟨p,rfl,s1,hS.box.cell0,a,hat,_,_,_,_,_,_,_,hr,?_⟩
  intro w4 hs4
  exact ⟨⟨by simp [Sp.nodeOf,he],h.symm⟩,hs1.first.hst hs4⟩
theorem jSM (m n:Sp.Node):((m.kind == n.kind) && ((m.frm == n.frm) && ((m.to == n.to) && ((m.num == n.num) && ((decide (m.text=n.text)) && ((m.a == n.a) && (m.b == n.b)))))))=decide (m=n):=by
 obtain ⟨k,f,t,u,x,a,b⟩:=m;obtain ⟨k',f',t',u',x',a',b'⟩:=n;rw [Bool.eq_iff_iff];simp
theorem jLU (p:Addr) (n:Sp.Node) (w0:World) {L:Sp.Pool} {F:NP} (hP:qY w0 p L F) (hok:Sp.Ok L):Calls prog 155 #[.pointer (some p),jDW n] w0
  (fun e w'=>∃r:Int,∃ok:Bool,e=.returned (.tuple #[.int .i64 r,.bool ok])∧((match Sp.find L n with | some i=>r=(i:Int)+1∧ok=true | none=>r=0∧ok=false)∧Pure w0 w')):=by
 obtain ⟨k,f,t,u,x,a,b⟩:=n
 generalize hn:(⟨k,f,t,u,x,a,b⟩:Sp.Node)=n
 have hnk:jDW n=.agg #[.int .i64 k,.int .i64 f,.int .i64 t,.int .u64 u,.string x,.int .i64 a,.int .i64 b]:=by rw [← hn];rfl
 rw [hnk]
 suffices key:∀K:Int→Bool→WP,(∀r ok w',((match Sp.find L n with | some i=>r=(i:Int)+1∧ok=true | none=>r=0∧ok=false)∧Pure w0 w')→K r ok w')→m_L1 (some p) k f t u x a b w0 K from
  w_L1 _ _ _ _ _ _ _ _ w0 _ (key _ (fun _ _ _ h=>h))
 intro K hK
 unfold m_L1
 intro H1 w1 hs1
 refine ⟨fun i H w'=>∃j:Nat,i=j∧j≤L.length∧Pure w0 w'∧∀q,q<j→∀e,L[q]?=some e→e.node≠n,fun i _=>((L.length:Int) - i).toNat,⟨0,rfl,Nat.zero_le _,hs1.first,fun q hq=>absurd hq (by omega)⟩,?_⟩
 rintro _ Hl wl hl ⟨j,rfl,hj,El,hno⟩
 unfold m_L1_l1
 obtain ⟨s1,s2,s3,hS,hF⟩:=hP.pure El
 have hf:=hok.few
 have hlen:s1.len=L.length:=by rw [hS.r1.len];simp
 refine ⟨p,rfl,s1,hS.box.cell0,fun h=>?_,fun h=>?_⟩
 ·have hlt:=uC hlen h
  refine ⟨p,rfl,?_⟩
  intro w2 hs2
  have E2:=El.hst hs2
  obtain ⟨s1',s2',s3',hS',_⟩:=hP.pure E2
  obtain ⟨a',hat,hr⟩:=hS'.r1.nth hlt
  refine ⟨s1',hS'.box.cell0,a',hat,_,_,_,_,_,_,_,hr,?_⟩
  have hB:=jSM L[j].node n
  rw [← hn] at hB
  simp only at hB
  rw [hB,hn]
  refine ⟨fun h=>?_,fun h=>?_⟩
  ·have h:=of_decide_eq_true h
   rw [vE hlt (by omega)]
   refine hK _ _ _ ⟨?_,E2⟩
   have hfd:Sp.find L n=some j:=by
    unfold Sp.find;rw [List.findIdx?_eq_some_iff_getElem];exact ⟨hlt,by simp [h],fun q hq=>by simpa using hno q hq _ (List.getElem?_eq_getElem (by omega))⟩
   rw [hfd];exact ⟨by omega,rfl⟩
  ·have h:=of_decide_eq_false h
   rw [vE hlt (by omega)]
   refine ⟨⟨j+1,rfl,hlt,E2,fun q hq e he=>?_⟩,jAU hlt⟩
   by_cases hqj:q=j
   ·subst hqj;rw [List.getElem?_eq_getElem hlt] at he;cases he;exact h
   ·exact hno q (by omega) e he
 ·have hge:=uS hlen hj h
  subst hge
  refine hK _ _ _ ⟨?_,El⟩
  have hfd:Sp.find L n=none:=find_none (fun e he=>by
   obtain ⟨q,hq,rfl⟩:=List.mem_iff_getElem.1 he;exact hno q hq _ (List.getElem?_eq_getElem hq))
  rw [hfd];exact ⟨rfl,rfl⟩
theorem jFZ {P:Program} {t ty e:TypeId} {sz bytes:Nat} (T:SlType P t e sz bytes) {w:World} {p:Addr} {c:List Value} {Tp:TypeId} (hB:Box w p c Tp) {s:Sl} {rs:List (List Value)} (hR:Rws w e sz s rs) (hp:¬ s.blk p.block) {a:Addr} {r:List Value} (hr:Row w a r) (hl:r.length=sz) (h1:r.all vY=true) (hb:(rs.length+1)*bytes≤140737488355328) (hm:rs.length+1≤maxLen) :
  ∃s' w',(Builtin.append_ #[t,t] ty #[s.v,(Sl.mk (some a) 1 1).v]).run P w=.ok s'.v w'∧Rws w' e sz s' (rs++[r])∧Box w' p c Tp∧¬ s'.blk p.block∧Ext s.blk w w'∧(∀b,s'.blk b→s.blk b∨w.heap.size≤b):=by
 obtain ⟨s',w',hr',hR',hE,hb'⟩:=hR.append T (ty:=ty) (c:=1) hr hl h1 hb hm
 exact ⟨s',w',hr',hR',hB.ext hE hp,fun h=>(hb' _ h).elim hp (fun h=>by have:=hB.lt;omega),hE,hb'⟩
theorem jDJ (n:Sp.Node):Sp.zZ n=53∨Sp.zZ n=0:=by
 unfold Sp.zZ;simp only;split
 ·exact .inl rfl
 ·exact .inr rfl
theorem jJZ (p:Addr) (n:Sp.Node) (w0:World) {L:Sp.Pool} {F:NP} (hP:qY w0 p L F) (hok:Sp.Ok L):Calls prog 112 #[.pointer (some p),jDW n] w0
  (fun e w'=>∃r1 r2:Int,e=.returned (.tuple #[.int .i64 r1,.int .i64 r2])∧((r1,r2)=((Sp.make L n).1,(Sp.make L n).2.1)∧∃F',qY w' p (Sp.make L n).2.2 F'∧Ext F w0 w'∧∀b,F' b→F b∨w0.heap.size≤b)):=by
 obtain ⟨k,f,t,u,x,a,b⟩:=n
 generalize hn:(⟨k,f,t,u,x,a,b⟩:Sp.Node)=n
 have hnk:jDW n=.agg #[.int .i64 k,.int .i64 f,.int .i64 t,.int .u64 u,.string x,.int .i64 a,.int .i64 b]:=by rw [← hn];rfl
 rw [hnk]
 suffices key:∀K:Int→Int→WP,(∀r1 r2 w',((r1,r2)=((Sp.make L n).1,(Sp.make L n).2.1)∧∃F',qY w' p (Sp.make L n).2.2 F'∧Ext F w0 w'∧∀b,F' b→F b∨w0.heap.size≤b)→K r1 r2 w')→m_Q (some p) k f t u x a b w0 K from
  w_Q _ _ _ _ _ _ _ _ w0 _ (key _ (fun _ _ _ h=>h))
 intro K hK
 have hsh:=jFC n
 have hkd:=tL k
 rw [← hn] at hsh
 simp only at hsh
 rw [hn] at hsh
 have hna:n.a=a:=by rw [← hn]
 have hnb:n.b=b:=by rw [← hn]
 have hnkk:n.kind=k:=by rw [← hn]
 have hk:=Sp.uL k
 have same:∀(r1 r2:Int) (w':World),Pure w0 w'→Sp.make L n=(r1,r2,L)→K r1 r2 w':=fun r1 r2 w' E h=>hK _ _ _ ⟨by rw [h],F,by rw [h];exact hP.pure E,E.pure,fun b h=>.inl h⟩
 have bad:∀(er:Int) (w':World),er≠0→Pure w0 w'→Sp.check L n=(0,0,er)→K 0 er w':=fun er w' h0 E h=>same 0 er w' E (by unfold Sp.make;simp [h,h0])
 unfold m_Q
 rw [hsh,hkd]
 have good:Sp.nodeErr n=0→Sp.check L n=(if (Sp.zM n).any (fun t=>!Sp.inP L t) then (0,0,51) else if 1+((Sp.zM n).map (Sp.sizeOf L)).sum>4096∨(Sp.zM n).foldl (fun d t=>max d (Sp.depthOf L t)) 0+1>64 then (0,0,52) else (1+((Sp.zM n).map (Sp.sizeOf L)).sum,(Sp.zM n).foldl (fun d t=>max d (Sp.depthOf L t)) 0+1,0)):=by
  intro h;unfold Sp.nodeErr at h;unfold Sp.check;split at h
  ·cases h
  ·rename_i h1;simp only;rw [if_neg h1];split at h
   ·cases h
   ·rename_i h2;rw [if_neg h2,if_neg (by simpa using h)]
 refine ⟨fun h=>?_,fun h=>?_⟩
 ·intro H1 w2 hs2
  have h:Sp.nodeErr n≠0:=by simpa using h
  refine bad _ _ h hs2.first ?_
  unfold Sp.nodeErr at h ⊢
  unfold Sp.check
  by_cases h1:Sp.zZ n≠0
  ·rw [if_pos h1,if_pos h1]
   have:Sp.zZ n=53:=(jDJ n).resolve_right h1
   rw [this]
  ·rw [if_neg h1] at h ⊢
   simp only
   rw [if_neg h1]
   by_cases h2:((decide ((Sp.shapeOf n.kind).kids<1) && n.a != 0) || (decide ((Sp.shapeOf n.kind).kids<2) && n.b != 0))=true
   ·rw [if_pos h2,if_pos h2]
   ·rw [if_neg h2] at h ⊢;rw [if_neg h2,if_pos h]
 have h0:Sp.nodeErr n=0:=by simpa using h
 have hchk:=good h0
 have hzero:((Sp.shapeOf k).kids<1→a=0)∧((Sp.shapeOf k).kids<2→b=0):=by
  unfold Sp.nodeErr at h0;split at h0
  ·cases h0
  ·split at h0
   ·cases h0
   ·rename_i _ h2;rw [hnkk,hna,hnb] at h2;simp at h2;exact h2
 have hz0:Sp.inP L 0=false:=by simp [Sp.inP]
 have hs0:Sp.sizeOf L 0=0:=by simp [Sp.sizeOf,Sp.get,hz0]
 have hd0:Sp.depthOf L 0=0:=by simp [Sp.depthOf,Sp.get,hz0]
 have hsa:=hok.sizeOf a
 have hsb:=hok.sizeOf b
 have hda:=hok.depthOf a
 have hdb:=hok.depthOf b
 have hany:(Sp.zM n).any (fun t=>!Sp.inP L t)=((decide (1≤(Sp.shapeOf k).kids) && !Sp.inP L a) || (decide ((Sp.shapeOf k).kids=2) && !Sp.inP L b)):=by
  unfold Sp.zM;rw [hnkk,hna,hnb];rcases hk with h | h | h <;> rw [h] <;> simp
 have hsum:((Sp.zM n).map (Sp.sizeOf L)).sum=Sp.sizeOf L a+Sp.sizeOf L b:=by
  unfold Sp.zM;rw [hnkk,hna,hnb];rcases hk with h | h | h <;> rw [h] <;> simp
  ·rw [hzero.1 (by omega),hzero.2 (by omega),hs0];rfl
  ·rw [hzero.2 (by omega),hs0];omega
 have hmax:(Sp.zM n).foldl (fun d t=>max d (Sp.depthOf L t)) 0=max (Sp.depthOf L a) (Sp.depthOf L b):=by
  unfold Sp.zM;rw [hnkk,hna,hnb];rcases hk with h | h | h <;> rw [h] <;> simp
  ·rw [hzero.1 (by omega),hzero.2 (by omega),hd0];omega
  ·rw [hzero.2 (by omega),hd0];omega
  ·omega
 rw [hany,hsum,hmax] at hchk
 have J1:∀(x1:Bool) (H:NP) (w:World),Hst w0 H w H w→Pure w0 w→x1=((decide (1≤(Sp.shapeOf k).kids) && !Sp.inP L a) || (decide ((Sp.shapeOf k).kids=2) && !Sp.inP L b))→m_Q_j1 (some p) k f t u x a b x1 w0 H w K:=by
  intro x1 H w hs E hx;rw [← hx] at hchk;unfold m_Q_j1;refine ⟨fun h=>bad 51 w (by omega) E (by rw [hchk,h];rfl),fun h=>?_⟩;rw [h,if_neg (by simp)] at hchk;refine ⟨fun _=>True,trivial,?_⟩;rintro _ rfl;have Ed:Pure w0 w.drew:=E.trans (Ext.drew w);refine (xZ p a w.drew (hP.pure Ed) hok).mono ?_;rintro _ _ ⟨_,rfl,rfl,rfl⟩;refine ⟨_,rfl,trivial,Kept.refl _,?_⟩;refine (xZ p b w.drew (hP.pure Ed) hok).mono ?_;rintro _ _ ⟨_,rfl,rfl,rfl⟩;refine ⟨_,rfl,trivial,Kept.refl _,fun _=>True,trivial,?_⟩;rintro _ rfl;have Ed2:Pure w0 w.drew.drew:=Ed.trans (Ext.drew w.drew);refine (jCN p a w.drew.drew (hP.pure Ed2) hok).mono ?_;rintro _ _ ⟨_,rfl,rfl,rfl⟩;refine ⟨_,rfl,trivial,Kept.refl _,?_⟩;refine (jCN p b w.drew.drew (hP.pure Ed2) hok).mono ?_;rintro _ _ ⟨_,rfl,rfl,rfl⟩;refine ⟨_,rfl,trivial,Kept.refl _,_,fun w' _=>run_max_int2 _ _ _ _ _ _ _,?_⟩;have hmx:(if Sp.depthOf L b>Sp.depthOf L a then Sp.depthOf L b else Sp.depthOf L a)=max (Sp.depthOf L a) (Sp.depthOf L b):=by
   split <;> omega
  generalize hz:(if Sp.depthOf L b>Sp.depthOf L a then Sp.depthOf L b else Sp.depthOf L a)=z at *;have hz64:0≤z∧z≤64:=by rw [hmx];omega
  have e1:IntKind.i64.wrap (IntKind.i64.wrap (1+Sp.sizeOf L a)+Sp.sizeOf L b)=1+(Sp.sizeOf L a+Sp.sizeOf L b):=by
   rw [i64 (n:=1+Sp.sizeOf L a) (by omega) (by omega),i64 (by omega) (by omega)];omega
  have e2:IntKind.i64.wrap (1+z)=z+1:=by rw [i64 (by omega) (by omega)];omega
  rw [e1,e2];rw [← hmx] at hchk;rintro y1 rfl;have hsx:Hst w0 H w.drew.drew H w.drew.drew:=(hs.drew.here.drew).here;refine ⟨fun h=>?_,fun h=>?_⟩
  ·intro H2 w10 hs10;refine bad 52 w10 (by omega) (Ed2.hst hs10) ?_;rw [hchk,if_pos (by simpa using h)]
  ·intro H2 w10 hs10;have hck:Sp.check L n=(1+(Sp.sizeOf L a+Sp.sizeOf L b),z+1,0):=by rw [hchk,if_neg (by simp at h;omega)]
   have E10:=Ed2.hst hs10;rw [← hnk];refine (jLU p n w10 (hP.pure E10) hok).mono ?_;rintro _ w11 ⟨r,ok,rfl,hfd,E11⟩;refine ⟨_,_,rfl,E11.keptP,?_⟩;have E11':=E10.trans E11;have hs11:Hst w0 H2 w11 H2 w11:=hs10.again E11.keptP;cases hf:Sp.find L n with
   | some i =>
    rw [hf] at hfd
    obtain ⟨rfl,rfl⟩:=hfd
    exact Br.t rfl (same _ _ _ E11' (by unfold Sp.make;simp [hck,hf]))
   | none =>
    rw [hf] at hfd
    obtain ⟨rfl,rfl⟩:=hfd
    refine Br.f rfl ?_
    obtain ⟨s1,s2,s3,hS,hF⟩:=hP.pure E11'
    have hlen:s1.len=L.length:=by rw [hS.r1.len];simp
    refine ⟨p,rfl,s1,hS.box.cell0,fun h=>?_,fun h=>?_⟩
    ·have h2:65536≤L.length:=by have h:=of_decide_eq_true h;omega
     exact same _ _ _ E11' (by unfold Sp.make;simp [hck,hf,h2])
    ·have h2:¬ 65536≤L.length:=by have h:=of_decide_eq_false h;omega
     have hmk:Sp.make L n=((L.length:Int)+1,0,L++[⟨n,1+(Sp.sizeOf L a+Sp.sizeOf L b),z+1⟩]):=by unfold Sp.make;simp [hck,hf,h2]
     have hvis:∀b,F b→¬ H2 b:=fun b hb h2=>by have:=hP.lt hb;have:=hs11.old b h2;omega
     have hpF:F p.block:=(hF _).2 (.inl rfl)
     refine ⟨fun w'=>w'.cell? p=some s1.v,hS.box.cell0,?_⟩
     rintro _ rfl
     have E12:Pure w11 w11.drew:=Ext.drew w11
     refine ⟨p,rfl,s1,fun w' h'=>h',?_⟩
     intro p3 w13 h13
     have E13:Pure w11 w13:=E12.trans (Ext.new h13)
     have B13:=hS.box.pure E13
     refine ⟨B13.cell0,?_⟩
     obtain ⟨t1,w14,hr14,R14,B14,np1,X14,nb1⟩:=jFZ (P:=prog) (ty:=49) jMB B13 (hS.r1.pure E13) hS.n1 (a:=p3) (r:=tF n) (by rw [← hn];exact (Box.of_new h13).row) rfl rfl (by simp;omega) (by simp [maxLen];omega)
     refine ⟨t1,w14,hr14,B14.cell0,X14.kept (fun b hb h=>hvis b ((hF b).2 (.inr (.inl h))) hb),p,rfl,B14.canW0 (by simp),hvis _ hpF,?_⟩
     rintro w15 hw15
     have B15:Box w15 p [t1.v,s2.v,s3.v] 52:=by rw [hw15];exact B14.set0
     have X15:Ext (·=p.block) w14 w15:=by rw [hw15];exact Ext.setCell p _
     clear hw15
     have R15:=R14.ext X15 (fun b hb e=>np1 (e▸hb))
     have R2:=((hS.r2.pure E13).ext X14 (fun b h2 h1=>hS.d12 b h1 h2)).ext X15 (fun b hb e=>hS.n2 (e▸hb))
     have R3:=((hS.r3.pure E13).ext X14 (fun b h2 h1=>hS.d13 b h1 h2)).ext X15 (fun b hb e=>hS.n3 (e▸hb))
     have d12':∀b,t1.blk b→¬ s2.blk b:=fun b hb h2=>(nb1 b hb).elim (fun h=>hS.d12 b h h2) (fun h=>by have:=hS.r2.lt h2;have:=E13.size;omega)
     have d13':∀b,t1.blk b→¬ s3.blk b:=fun b hb h2=>(nb1 b hb).elim (fun h=>hS.d13 b h h2) (fun h=>by have:=hS.r3.lt h2;have:=E13.size;omega)
     refine ⟨p,rfl,s2,B15.cell rfl,?_⟩
     intro p4 w16 h16
     have E16:Pure w15 w16:=Ext.new h16
     have B16:=B15.pure E16
     obtain ⟨t2,w17,hr17,R17,B17,np2,X17,nb2⟩:=jFZ (P:=prog) (ty:=50) jEW B16 (R2.pure E16) hS.n2 (a:=p4) (r:=[.int .i64 (1+(Sp.sizeOf L a+Sp.sizeOf L b))]) (Box.of_new h16).row rfl rfl (by simp;omega) (by simp [maxLen];omega)
     refine ⟨t2,w17,hr17,X17.kept (fun b hb h=>hvis b ((hF b).2 (.inr (.inr (.inl h)))) hb),p,rfl,B17.canW (by simp),by rw [zU];exact hvis _ hpF,?_⟩
     rintro w18 hw18
     have B18:Box w18 p [t1.v,t2.v,s3.v] 52:=by rw [hw18];exact B17.set 1 _
     have X18:Ext (·=p.block) w17 w18:=by rw [hw18];have:=Ext.setCell (w:=w17) (p.add 1) t2.v;rw [zU] at this;exact this
     clear hw18
     have Q1:=((R15.pure E16).ext X17 (fun b h1 h2=>d12' b h1 h2)).ext X18 (fun b hb e=>np1 (e▸hb))
     have Q2:=R17.ext X18 (fun b hb e=>np2 (e▸hb))
     have Q3:=((R3.pure E16).ext X17 (fun b h3 h2=>hS.d23 b h2 h3)).ext X18 (fun b hb e=>hS.n3 (e▸hb))
     have d12'':∀b,t1.blk b→¬ t2.blk b:=fun b hb h2=>(nb2 b h2).elim (fun h=>d12' b hb h) (fun h=>by have:=(R15.pure E16).lt hb;omega)
     have d23':∀b,t2.blk b→¬ s3.blk b:=fun b hb h2=>(nb2 b hb).elim (fun h=>hS.d23 b h h2) (fun h=>by have:=(R3.pure E16).lt h2;omega)
     refine ⟨p,rfl,s3,B18.cell rfl,?_⟩
     intro p5 w19 h19
     have E19:Pure w18 w19:=Ext.new h19
     have B19:=B18.pure E19
     obtain ⟨t3,w20,hr20,R20,B20,np3,X20,nb3⟩:=jFZ (P:=prog) (ty:=50) jEW B19 (Q3.pure E19) hS.n3 (a:=p5) (r:=[.int .i64 (z+1)]) (Box.of_new h19).row rfl rfl (by simp;omega) (by simp [maxLen];omega)
     refine ⟨t3,w20,hr20,X20.kept (fun b hb h=>hvis b ((hF b).2 (.inr (.inr (.inr h)))) hb),p,rfl,B20.canW (by simp),by rw [zU];exact hvis _ hpF,?_⟩
     rintro w21 hw21
     have B21:Box w21 p [t1.v,t2.v,t3.v] 52:=by rw [hw21];exact B20.set 2 _
     have X21:Ext (·=p.block) w20 w21:=by rw [hw21];have:=Ext.setCell (w:=w20) (p.add 2) t3.v;rw [zU] at this;exact this
     clear hw21
     have d13'':∀b,t1.blk b→¬ t3.blk b:=fun b hb h2=>(nb3 b h2).elim (fun h=>d13' b hb h) (fun h=>by have:=(Q1.pure E19).lt hb;omega)
     have d23'':∀b,t2.blk b→¬ t3.blk b:=fun b hb h2=>(nb3 b h2).elim (fun h=>d23' b hb h) (fun h=>by have:=(Q2.pure E19).lt hb;omega)
     have Z1:=((Q1.pure E19).ext X20 (fun b h1 h2=>d13' b h1 h2)).ext X21 (fun b hb e=>np1 (e▸hb))
     have Z2:=((Q2.pure E19).ext X20 (fun b h1 h2=>d23' b h1 h2)).ext X21 (fun b hb e=>np2 (e▸hb))
     have Z3:=R20.ext X21 (fun b hb e=>np3 (e▸hb))
     have hl1:(t1.len:Int)=L.length+1:=by rw [R14.len];simp
     refine ⟨p,rfl,t1,B21.cell0,?_⟩
     rw [hl1]
     refine hK _ _ _ ⟨by rw [hmk],fun b=>b=p.block∨t1.blk b∨t2.blk b∨t3.blk b,?_,?_,?_⟩
     ·rw [hmk]
      exact ⟨t1,t2,t3,⟨B21,by simpa [jUP] using Z1,by simpa [jUN] using Z2,by simpa [jPN] using Z3,np1,np2,np3,d12'',d13'',d23''⟩,fun _=>Iff.rfl⟩
     ·have a1:Ext F w0 w14:=(E11'.trans E13).pure.trans' X14 (fun i _ h=>(hF i).2 (.inr (.inl h)))
      have a2:Ext F w0 w15:=a1.trans' X15 (fun i _ h=>(hF i).2 (.inl h))
      have a3:Ext F w0 w17:=(a2.thenPure E16).trans' X17 (fun i _ h=>(hF i).2 (.inr (.inr (.inl h))))
      have a4:Ext F w0 w18:=a3.trans' X18 (fun i _ h=>(hF i).2 (.inl h))
      have a5:Ext F w0 w20:=(a4.thenPure E19).trans' X20 (fun i _ h=>(hF i).2 (.inr (.inr (.inr h))))
      exact a5.trans' X21 (fun i _ h=>(hF i).2 (.inl h))
     ·have z13:w0.heap.size≤w13.heap.size:=(E11'.trans E13).size
      have z16:w0.heap.size≤w16.heap.size:=by have:=X14.size;have:=X15.size;have:=E16.size;omega
      have z19:w0.heap.size≤w19.heap.size:=by have:=X17.size;have:=X18.size;have:=E19.size;omega
      rintro b (rfl | hb | hb | hb)
      ·exact .inl hpF
      ·exact (nb1 b hb).imp (fun h=>(hF b).2 (.inr (.inl h))) (fun h=>by omega)
      ·exact (nb2 b hb).imp (fun h=>(hF b).2 (.inr (.inr (.inl h)))) (fun h=>by omega)
      ·exact (nb3 b hb).imp (fun h=>(hF b).2 (.inr (.inr (.inr h)))) (fun h=>by omega)
 have J2:∀(x2:Bool) (H:NP) (w:World),Hst w0 H w H w→Pure w0 w→x2=(decide (1≤(Sp.shapeOf k).kids) && !Sp.inP L a)→m_Q_j2 (some p) k f t u x a b x2 w0 H w K:=by
  intro x2 H w hs E hx;unfold m_Q_j2;rw [hkd];refine ⟨fun h=>J1 true H w hs E (by rw [← hx,h];rfl),fun h=>⟨fun h2=>?_,fun h2=>J1 false H w hs E ?_⟩⟩
  ·refine (uM p b w (hP.pure E)).mono ?_;rintro _ _ ⟨_,rfl,rfl,rfl⟩;refine ⟨_,rfl,Kept.refl _,J1 _ H _ hs E ?_⟩;have h2:(Sp.shapeOf k).kids=2:=by simpa using h2
   rw [← hx,h];simp [h2]
  ·have h2:(Sp.shapeOf k).kids≠2:=by simpa using h2
   rw [← hx,h];simp [h2]
 refine ⟨fun h=>?_,fun h=>?_⟩
 ·intro H1 w3 hs3
  refine (uM p a w3 (hP.pure hs3.first)).mono ?_
  rintro _ _ ⟨_,rfl,rfl,rfl⟩
  refine ⟨_,rfl,Kept.refl _,J2 _ H1 _ hs3.here hs3.first ?_⟩
  have:1≤(Sp.shapeOf k).kids:=by have:=of_decide_eq_true h;omega
  simp [this]
 ·intro H1 w3 hs3
  refine J2 _ H1 _ hs3.here hs3.first ?_
  have:¬ 1≤(Sp.shapeOf k).kids:=by have:=of_decide_eq_false h;omega
  simp [this]
theorem jJM (s:Sp.Shape) (n:Sp.Node):Sp.zX s n≠53:=by
 unfold Sp.zX;split
 ·omega
 ·split <;> omega
theorem jPX (k f t u:Int) (x:ByteArray) (len:Nat):Sp.uH ⟨k,f,t,u,x,0,0⟩ len=(if (Sp.nodeErr ⟨k,f,t,u,x,0,0⟩≠53∧(len:Int)≠(Sp.shapeOf k).kids) then 53 else Sp.nodeErr ⟨k,f,t,u,x,0,0⟩):=by
 unfold Sp.uH Sp.nodeErr;simp only;rcases jDJ ⟨k,f,t,u,x,0,0⟩ with h | h
 ·rw [h];simp
 ·rw [h];have:=jJM (Sp.shapeOf k) ⟨k,f,t,u,x,0,0⟩;by_cases h2:(len:Int)=(Sp.shapeOf k).kids <;> simp [h2,this]
theorem jGE {S:NP} (q:Addr) (hq:¬ S q.block) (T:TypeId) (t:Sp.Tree):∀(s:Sl) (inside seen:Int) (w0:World),0≤inside→0≤seen→TreeAt S w0 s t→(∀b,S b→b<w0.heap.size)→Box w0 q [.int .i64 seen] T →
  Calls prog 110 #[.agg (qX t s).toArray,.int .i64 inside,.pointer (some q)] w0
   (fun e w'=>∃r:Int,e=.returned (.int .i64 r)∧(r=(Sp.qT inside seen t).1∧Box w' q [.int .i64 (Sp.qT inside seen t).2] T∧Ext (·=q.block) w0 w')):=by
 induction t using Sp.Tree.ind with
 | h k f t u x ks ih =>
 intro s inside seen w0 hi0 hn0 hT hSw hB
 suffices key:∀K:Int→WP,(∀r w',(r=(Sp.qT inside seen (.mk k f t u x ks)).1∧Box w' q [.int .i64 (Sp.qT inside seen (.mk k f t u x ks)).2] T∧Ext (·=q.block) w0 w')→K r w')→m_W k f t u x s inside (some q) w0 K from
  w_W _ _ _ _ _ _ _ _ w0 _ (key _ (fun _ _ h=>h))
 intro K hK
 have hql:=hB.lt
 unfold m_W
 refine ⟨q,rfl,?_⟩
 intro H1 w1 hs1
 have hB1:=hB.pure hs1.first
 refine ⟨seen,hB1.cell0,?_⟩
 intro H5 w13 hs5
 have E13:=hs1.first.hst hs5
 have hB13:=hB.pure E13
 have hq0:∀{H w' H' w''},Hst w0 H w' H' w''→¬ H' q.block:=fun h hh=>by have:=h.old _ hh;omega
 unfold m_W_j1
 refine ⟨fun h=>?_,fun h=>?_⟩
 ·have : Sp.qT inside seen (.mk k f t u x ks) = (52, seen) := by
   rw [Sp.qT];simp only [Bool.or_eq_true,decide_eq_true_eq] at h;by_cases h1:4096≤seen
   ·rw [if_pos h1]
   ·rw [if_neg h1,if_pos (by omega)]
  rw [this] at hK;exact hK _ _ ⟨rfl,hB13,E13.pure⟩
 ·have h1 : ¬ 4096 ≤ seen ∧ ¬ 64 ≤ inside := by
   simp only [Bool.or_eq_false_iff,decide_eq_false_iff_not] at h;omega
  have hsp:Sp.qT inside seen (.mk k f t u x ks)=Sp.vV (inside+1) (Sp.uH ⟨k,f,t,u,x,0,0⟩ ks.length) (seen+1) ks:=by rw [Sp.qT,if_neg h1.1,if_neg h1.2]
  rw [hsp] at hK
  have hlen:s.len=ks.length:=by cases hT;assumption
  have hfit:ks.length≤9223372036854775807:=by cases hT;assumption
  refine ⟨q,rfl,seen,hB13.cell0,q,rfl,hB13.canW0 (by simp),hq0 hs5,?_⟩
  rw [i64 (n:=seen+1) (by omega) (by omega)]
  rintro w2 hw2
  have hB2:Box w2 q [.int .i64 (seen+1)] T:=by rw [hw2];exact hB13.set0
  have E2:Ext (·=q.block) w0 w2:=by rw [hw2];exact E13.pure.trans (Ext.setCell q _)
  clear hw2
  rintro y1 rfl
  have hsh:=jFC ⟨k,f,t,u,x,0,0⟩
  simp only at hsh
  rw [hsh,tL,hlen]
  have hown:cond ((Sp.nodeErr ⟨k,f,t,u,x,0,0⟩ != 53) && ((ks.length:Int) != (Sp.shapeOf k).kids)) 53 (Sp.nodeErr ⟨k,f,t,u,x,0,0⟩)=Sp.uH ⟨k,f,t,u,x,0,0⟩ ks.length:=by
   rw [jPX];by_cases h2:Sp.nodeErr ⟨k,f,t,u,x,0,0⟩=53
   ·simp [h2]
   ·by_cases h3:(ks.length:Int)=(Sp.shapeOf k).kids
    ·simp [h3]
    ·have e1:(Sp.nodeErr ⟨k,f,t,u,x,0,0⟩ != 53)=true:=by simpa using h2
     have e2:((ks.length:Int) != (Sp.shapeOf k).kids)=true:=by simpa using h3
     rw [e1,e2,if_pos ⟨h2,h3⟩];rfl
  rw [hown]
  intro H3 w10 hs3
  have E10:Ext (·=q.block) w0 w10:=E2.hst hs3
  have hB10:=hB2.ext hs3.ext (hq0 hs3)
  refine ⟨fun e i H w'=>∃j:Nat,i=j∧j≤ks.length∧∃n:Int,0≤n∧Ext (·=q.block) w0 w'∧Box w' q [.int .i64 n] T∧Sp.vV (inside+1) e n (ks.drop j)=Sp.vV (inside+1) (Sp.uH ⟨k,f,t,u,x,0,0⟩ ks.length) (seen+1) ks,fun _ i _=>((ks.length:Int) - i).toNat,⟨0,rfl,Nat.zero_le _,seen+1,by omega,E10,hB10,rfl⟩,?_⟩
  rintro e1 _ Hl wl hl ⟨j,rfl,hj,n,hn,El,hBl,heq⟩
  unfold m_W_l2
  have hTl:=hT.ext El (fun b hb e=>hq (e▸hb))
  refine ⟨fun hc=>?_,fun hc=>?_⟩
  ·simp only [Bool.and_eq_true,beq_iff_eq] at hc
   obtain ⟨he,hlt⟩:=hc
   have hlt:=uC hlen hlt
   subst he
   cases hTl with
   | mk _ _ _ _ _ _ _ rs len fit row kid =>
   obtain ⟨a,hat,ha,hr⟩:=row j hlt
   refine ⟨a,hat,?_⟩
   intro H4 w11 hs4
   have E11:=El.hst hs4
   have hT11:=hT.ext E11 (fun b hb e=>hq (e▸hb))
   have hr11:Row w11 a (qX ks[j] (rs j)):=hs4.ext.row hr (fun hh=>by have:=hs4.old _ hh;have:=hSw _ ha;omega)
   have hk11:TreeAt S w11 (rs j) ks[j]:=(kid j hlt).ext hs4.ext (fun b hb hh=>by have:=hs4.old _ hh;have:=hSw _ hb;omega)
   have hB11:=hBl.ext hs4.ext (hq0 hs4)
   refine ⟨_,_,_,_,_,rs j,hr11,?_⟩
   rw [i64 (n:=inside+1) (by omega) (by omega)]
   refine (ih j hlt (rs j) (inside+1) n w11 (by omega) hn hk11 (fun b hb=>by have:=hSw b hb;have:=E11.size;omega) hB11).mono ?_
   rintro _ w12 ⟨r,rfl,rfl,hB12,E12⟩
   refine ⟨_,rfl,E12.kept (fun b hb e=>hq0 hs4 (e▸hb)),?_⟩
   rw [vE hlt (by omega)]
   refine ⟨⟨j+1,rfl,hlt,_,jGT ks[j] (inside+1) n hn,E11.trans E12,hB12,?_⟩,jAU hlt⟩
   rw [← heq];exact (jCI hlt (inside+1) n).symm
  ·intro H4 w11 hs4
   have hfin:Sp.vV (inside+1) e1 n (ks.drop j)=(e1,n):=by
    by_cases he:e1=0
    ·have hge : j = ks.length := by
      rw [he] at hc;have hc:decide ((j:Int)<(s.len:Int))=false:=by simpa using hc
      exact uS hlen hj hc
     rw [hge,List.drop_length];rfl
    ·exact jDN he _ _
   rw [hfin] at heq
   refine hK _ _ ⟨by rw [← heq],?_,El.hst hs4⟩
   rw [← heq];exact hBl.ext hs4.ext (hq0 hs4)
theorem jHV {S:NP} (t:Sp.Tree) (s:Sl) (w0:World) (hT:TreeAt S w0 s t) (hSw:∀b,S b→b<w0.heap.size) :
  Calls prog 57 #[.agg (qX t s).toArray] w0 (fun e w'=>∃r:Int,e=.returned (.int .i64 r)∧(r=(Sp.qT 0 0 t).1∧Pure w0 w')):=by
 obtain ⟨k,f,to,u,x,ks⟩:=t
 refine w_P3 _ _ _ _ _ _ w0 (fun r w'=>r=(Sp.qT 0 0 (.mk k f to u x ks)).1∧Pure w0 w') ?_
 unfold m_P3
 intro H1 w1 hs1 p w2 h2
 have b2:=Box.of_new h2
 have E2:Pure w0 w2:=hs1.first.trans (Ext.new h2)
 have o2:=New.own hs1.first h2
 have hpH:¬ H1 p.block:=fun hh=>by have:=hs1.lt _ hh;have:=h2.at_size;omega
 refine ⟨b2.canW0 (by simp),hpH,?_⟩
 rintro w3 hw3
 have b3:Box w3 p [.int .i64 0] 3:=by rw [hw3];exact b2.set0
 have E3:Pure w0 w3:=by rw [hw3];exact E2.own o2 (Ext.setCell p _)
 clear hw3
 refine (jGE p (fun h=>by have:=hSw _ h;omega) _ _ s 0 0 w3 (Int.le_refl _) (Int.le_refl _) (hT.pure E3) (fun b hb=>by have:=hSw b hb;have:=E3.size;omega) b3).mono ?_
 rintro _ w4 ⟨r,rfl,rfl,_,E4⟩
 exact ⟨_,rfl,E4.kept (fun b hb e=>hpH (e▸hb)),rfl,E3.own o2 E4⟩
theorem jLS (p:Addr) (n:Nat) (w0:World) {L:Sp.Pool} {F:NP} (hP:qY w0 p L F) (hn:n≤L.length) :
  Calls prog 59 #[.pointer (some p),.int .i64 n] w0 (fun e w'=>e=.returned (.tuple #[])∧qY w' p (L.take n) F∧Ext F w0 w'):=by
 suffices key:∀K:WP,(∀w',qY w' p (L.take n) F∧Ext F w0 w'→K w')→m_H2 (some p) n w0 K from
  w_H2 _ _ w0 _ (key _ (fun _ h=>h))
 intro K hK
 unfold m_H2
 obtain ⟨s1,s2,s3,hS,hF⟩:=hP
 obtain ⟨t1,hr1,R1,hb1⟩:=Rws.hi (P:=prog) jMB hS.r1 (k:=.i64) (n:=n) (by omega) (by simpa using hn)
 refine ⟨p,rfl,s1,hS.box.cell0,t1,hr1,p,rfl,hS.box.canW0 (by simp),?_⟩
 rintro w1 hw1
 have B1:Box w1 p [t1.v,s2.v,s3.v] 52:=by rw [hw1];exact hS.box.set0
 have X1:Ext (·=p.block) w0 w1:=by rw [hw1];exact Ext.setCell p _
 clear hw1
 obtain ⟨t2,hr2,R2,hb2⟩:=Rws.hi (P:=prog) jEW (hS.r2.ext X1 (fun b hb e=>hS.n2 (e▸hb))) (k:=.i64) (n:=n) (by omega) (by simpa using hn)
 refine ⟨p,rfl,s2,B1.cell rfl,t2,hr2,p,rfl,B1.canW (by simp),?_⟩
 rintro w2 hw2
 have B2:Box w2 p [t1.v,t2.v,s3.v] 52:=by rw [hw2];exact B1.set 1 _
 have X2:Ext (·=p.block) w1 w2:=by rw [hw2];have:=Ext.setCell (w:=w1) (p.add 1) t2.v;rw [zU] at this;exact this
 clear hw2
 obtain ⟨t3,hr3,R3,hb3⟩:=Rws.hi (P:=prog) jEW (hS.r3.ext (X1.trans X2) (fun b hb e=>hS.n3 (e▸hb))) (k:=.i64) (n:=n) (by omega) (by simpa using hn)
 refine ⟨p,rfl,s3,B2.cell rfl,t3,hr3,p,rfl,B2.canW (by simp),?_⟩
 rintro w3 hw3
 have B3:Box w3 p [t1.v,t2.v,t3.v] 52:=by rw [hw3];exact B2.set 2 _
 have X3:Ext (·=p.block) w2 w3:=by rw [hw3];have:=Ext.setCell (w:=w2) (p.add 2) t3.v;rw [zU] at this;exact this
 clear hw3
 have E:=(X1.trans X2).trans X3
 refine hK _ ⟨⟨t1,t2,t3,⟨B3,?_,?_,?_,fun h=>hS.n1 ((hb1 _).1 h),fun h=>hS.n2 ((hb2 _).1 h),fun h=>hS.n3 ((hb3 _).1 h),fun b h1 h2=>hS.d12 b ((hb1 b).1 h1) ((hb2 b).1 h2),fun b h1 h2=>hS.d13 b ((hb1 b).1 h1) ((hb3 b).1 h2),fun b h1 h2=>hS.d23 b ((hb2 b).1 h1) ((hb3 b).1 h2)⟩,fun b=>by rw [hF b,hb1 b,hb2 b,hb3 b]⟩,E.mono (fun i _ h=>(hF i).2 (.inl h))⟩
 ·have:=R1.ext E (fun b hb e=>hS.n1 ((hb1 _).1 (e▸hb)))
  rw [List.map_take];simpa using this
 ·have:=R2.ext (X2.trans X3) (fun b hb e=>hS.n2 ((hb2 _).1 (e▸hb)))
  rw [List.map_take];simpa using this
 ·have:=R3.ext X3 (fun b hb e=>hS.n3 ((hb3 _).1 (e▸hb)))
  rw [List.map_take];simpa using this
theorem jJX {S:NP} (p:Addr) (t:Sp.Tree):∀(s:Sl) (w0:World) (L:Sp.Pool) (F:NP),Sp.Tree.two t→TreeAt S w0 s t→qY w0 p L F→Sp.Ok L→(∀b,F b→¬ S b)→(∀b,S b→b<w0.heap.size) →
  Calls prog 58 #[.pointer (some p),.agg (qX t s).toArray] w0
   (fun e w'=>∃r1:Int,∃r2:Int,e=.returned (.tuple #[.int .i64 r1,.int .i64 r2])∧((r1,r2)=((Sp.grow L t).1,(Sp.grow L t).2.1)∧∃F',qY w' p (Sp.grow L t).2.2 F'∧Ext F w0 w'∧∀b,F' b→F b∨w0.heap.size≤b)):=by
 induction t using Sp.Tree.ind with
 | h k f t u x ks ih =>
 intro s w0 L F h2 hT hP hok hFS hSw
 suffices key:∀K:Int→Int→WP,(∀r1 r2 w',((r1,r2)=((Sp.grow L (.mk k f t u x ks)).1,(Sp.grow L (.mk k f t u x ks)).2.1)∧∃F',qY w' p (Sp.grow L (.mk k f t u x ks)).2.2 F'∧Ext F w0 w'∧∀b,F' b→F b∨w0.heap.size≤b)→K r1 r2 w')→m_M1 (some p) k f t u x s w0 K from
  w_M1 _ _ _ _ _ _ _ w0 _ (key _ (fun _ _ _ h=>h))
 intro K hK
 obtain ⟨hk2,hall⟩:=jPA.1 h2
 have hsp:Sp.grow L (.mk k f t u x ks)=Sp.vP ⟨k,f,t,u,x,0,0⟩ 0 L ks:=by rw [Sp.grow]
 rw [hsp] at hK
 have hlen:s.len=ks.length:=by cases hT;assumption
 unfold m_M1
 intro H2 w4 hs4
 refine ⟨fun i a1 a2 a3 a4 a5 a6 a7 H w'=>∃j:Nat,i=j∧j≤ks.length∧∃(L':Sp.Pool) (F':NP),Sp.vP ⟨k,f,t,u,x,0,0⟩ 0 L ks=Sp.vP ⟨a1,a2,a3,a4,a5,a6,a7⟩ j L' (ks.drop j)∧Sp.Ok L'∧qY w' p L' F'∧(∀b,F' b→F b∨w0.heap.size≤b)∧(∀b,F' b→¬ H b)∧Ext F w0 w',fun i _ _ _ _ _ _ _ _=>((ks.length:Int) - i).toNat,
  ⟨0,rfl,Nat.zero_le _,L,F,by simp,hok,hP.pure hs4.first,fun b h=>.inl h,hs4.disj0 (fun b hb=>hP.lt hb),hs4.first.pure⟩,?_⟩
 rintro _ a1 a2 a3 a4 a5 a6 a7 Hl wl hl ⟨j,rfl,hj,L',F',heq,hok',hPl,hF',hv,El⟩
 unfold m_M1_l1
 refine ⟨fun h=>?_,fun h=>?_⟩
 ·have hlt:=uC hlen h
  have hTl:TreeAt S wl s (.mk k f t u x ks):=hT.ext El (fun b hs hf=>hFS b hf hs)
  have hkid:∃a r,At s j 6 a∧Row wl a (qX ks[j] r)∧TreeAt S wl r ks[j]:=by
   cases hTl with
   | mk _ _ _ _ _ _ _ rs len fit row kid=>exact let ⟨a,h1,_,h3⟩:=row j hlt;⟨a,rs j,h1,h3,kid j hlt⟩
  obtain ⟨a,r,hat,hrow,hTk⟩:=hkid
  refine ⟨a,hat,_,_,_,_,_,r,hrow,?_⟩
  have hsz:w0.heap.size≤wl.heap.size:=El.size
  refine (ih j hlt r wl L' F' (jGK hall hlt) hTk hPl hok' (fun b hb hs=>(hF' b hb).elim (fun h=>hFS b h hs) (fun h=>by have:=hSw b hs;omega)) (fun b hs=>by have:=hSw b hs;omega)).mono ?_
  rintro _ w8 ⟨r1,r2,rfl,hr,F8,hP8,E8,hF8⟩
  have e1:r1=(Sp.grow L' ks[j]).1:=congrArg Prod.fst hr
  have e2:r2=(Sp.grow L' ks[j]).2.1:=congrArg Prod.snd hr
  rw [List.drop_eq_getElem_cons hlt] at heq
  have hF8':∀b,F8 b→F b∨w0.heap.size≤b:=fun b hb=>(hF8 b hb).elim (hF' b) (fun h=>by right;omega)
  have Ew8:Ext F w0 w8:=El.trans' E8 (fun i hi h=>(hF' i h).elim id (fun h=>by omega))
  refine ⟨_,_,rfl,E8.kept (fun b hH hF=>hv b hF hH),fun h=>?_,fun h=>?_⟩
  ·have h:(Sp.grow L' ks[j]).2.1≠0:=by rw [← e2];simpa using h
   rw [jFQ h] at heq
   refine hK _ _ _ ?_
   rw [heq];exact ⟨by rw [e2],F8,hP8,Ew8,hF8'⟩
  ·have h:(Sp.grow L' ks[j]).2.1=0:=by rw [← e2];simpa using h
   rw [jDP h] at heq
   intro H3 w9 hs9
   have hv8:∀b,F8 b→¬ Hl b:=fun b hb hH=>(hF8 b hb).elim (fun h=>hv b h hH) (fun h=>by have:=hl.lt b hH;omega)
   have hv9:∀b,F8 b→¬ H3 b:=hs9.disj (fun b hb=>⟨hP8.lt hb,hv8 b hb⟩)
   rw [vE hlt (by omega)]
   refine ⟨⟨j+1,rfl,hlt,_,F8,?_,(Sp.jAM ks[j] L' hok').1,hP8.ext hs9.ext hv9,hF8',hv9,Ew8.hst hs9⟩,jAU hlt⟩
   rw [heq,e1]
   have hj0:(((j:Int)) == 0)=decide (j=0):=by rw [Bool.eq_iff_iff];simp
   rw [hj0]
   by_cases hj0':j=0
   ·subst hj0';rfl
   ·simp [hj0']
 ·have hge:=uS hlen hj h
  rw [hge,List.drop_length,Sp.vP] at heq
  refine (jJZ p ⟨a1,a2,a3,a4,a5,a6,a7⟩ wl hPl hok').mono ?_
  rintro _ w9 ⟨r1,r2,rfl,hr,F9,hP9,E9,hF9⟩
  have hsz:w0.heap.size≤wl.heap.size:=El.size
  refine ⟨_,_,rfl,E9.kept (fun b hH hF=>hv b hF hH),hK _ _ _ ?_⟩
  rw [heq]
  exact ⟨hr,F9,hP9,El.trans' E9 (fun i hi h=>(hF' i h).elim id (fun h=>by omega)),fun b hb=>(hF9 b hb).elim (hF' b) (fun h=>by right;omega)⟩
theorem jHQ (t:Sp.Tree):∀L,(Sp.grow L t).2.1≠0→(Sp.grow L t).1=0:=by
 induction t using Sp.Tree.ind with
 | h k f t u x ks ih =>
  have hmk:∀L n,(Sp.make L n).2.1≠0→(Sp.make L n).1=0:=by
   intro L n h;unfold Sp.make at h ⊢;simp only at h ⊢;split at h
   ·rename_i h1;rw [if_pos h1]
   ·rename_i h1;rw [if_neg h1];split at h
    ·rename_i hf;exact absurd rfl h
    ·split at h
     ·rename_i h2;simp [h2]
     ·exact absurd rfl h
  have:∀(ks:List Sp.Tree),(∀i (hi:i<ks.length),∀L,(Sp.grow L ks[i]).2.1≠0→(Sp.grow L ks[i]).1=0)→∀n i L,(Sp.vP n i L ks).2.1≠0→(Sp.vP n i L ks).1=0:=by
   intro ks;induction ks with
   | nil=>intro _ n i L h;unfold Sp.vP at h ⊢;exact hmk L n h
   | cons t ts iht =>
    intro hh n i L h
    unfold Sp.vP at h ⊢
    split at h
    ·rename_i h1;rw [if_pos h1]
    ·rename_i h1;rw [if_neg h1];exact iht (fun i hi=>hh (i+1) (by simpa using hi)) _ _ _ h
  intro L h
  unfold Sp.grow at h ⊢
  exact this ks ih _ _ L h
theorem jGY {S:NP} (p:Addr) (t:Sp.Tree) (s:Sl) (w0:World) {L:Sp.Pool} {F:NP} (hT:TreeAt S w0 s t) (hP:qY w0 p L F) (hok:Sp.Ok L) (hFS:∀b,F b→¬ S b) (hSw:∀b,S b→b<w0.heap.size) :
  Calls prog 14 #[.pointer (some p),.agg (qX t s).toArray] w0
   (fun e w'=>∃r1:Int,∃r2:Int,e=.returned (.tuple #[.int .i64 r1,.int .i64 r2])∧((r1,r2)=((Sp.of L t).1,(Sp.of L t).2.1)∧∃F',qY w' p (Sp.of L t).2.2 F'∧Ext F w0 w'∧∀b,F' b→F b∨w0.heap.size≤b)):=by
 obtain ⟨k,f,to,u,x,ks⟩:=t
 suffices key:∀K:Int→Int→WP,(∀r1 r2 w',((r1,r2)=((Sp.of L (.mk k f to u x ks)).1,(Sp.of L (.mk k f to u x ks)).2.1)∧∃F',qY w' p (Sp.of L (.mk k f to u x ks)).2.2 F'∧Ext F w0 w'∧∀b,F' b→F b∨w0.heap.size≤b)→K r1 r2 w')→m_I2 (some p) k f to u x s w0 K from
  w_I2 _ _ _ _ _ _ _ w0 _ (key _ (fun _ _ _ h=>h))
 intro K hK
 unfold m_I2
 intro H1 w1 hs1
 have E1:=hs1.first
 generalize ht:Sp.Tree.mk k f to u x ks=t at *
 have htr:(Value.agg #[.int .i64 k,.int .i64 f,.int .i64 to,.int .u64 u,.string x,s.v])=.agg (qX t s).toArray:=by rw [← ht];rfl
 rw [htr]
 refine (jHV t s w1 (hT.pure E1) (fun b hb=>by have:=hSw b hb;have:=E1.size;omega)).mono ?_
 rintro _ w2 ⟨r1,rfl,rfl,E2⟩
 have E12:=E1.trans E2
 refine ⟨_,rfl,E2.keptP,fun h=>?_,fun h=>?_⟩
 ·have h:(Sp.qT 0 0 t).1≠0:=by simpa using h
  have:Sp.of L t=(0,(Sp.qT 0 0 t).1,L):=by rw [Sp.of,if_pos h]
  refine hK _ _ _ ?_
  rw [this];exact ⟨rfl,F,hP.pure E12,E12.pure,fun _ h=>.inl h⟩
 ·have h:(Sp.qT 0 0 t).1=0:=by simpa using h
  have hP2:=hP.pure E12
  have hv:∀b,F b→¬ H1 b:=hs1.disj0 (fun b hb=>hP.lt hb)
  obtain ⟨s1,s2,s3,hS,hF0⟩:=id hP2
  have hl0:s1.len=L.length:=by rw [hS.r1.len];simp
  refine ⟨p,rfl,s1,hS.box.cell0,?_⟩
  refine (jJX p t s w2 L F (jJE t _ _ h) (hT.pure E12) hP2 hok hFS (fun b hb=>by have:=hSw b hb;have:=E12.size;omega)).mono ?_
  rintro _ w5 ⟨r1,r2,rfl,hr,F5,hP5,E5,hF5⟩
  have e1:r1=(Sp.grow L t).1:=congrArg Prod.fst hr
  have e2:r2=(Sp.grow L t).2.1:=congrArg Prod.snd hr
  have hs4:w0.heap.size≤w2.heap.size:=E12.size
  have E05:Ext F w0 w5:=E12.pure.trans E5
  have hF5':∀b,F5 b→F b∨w0.heap.size≤b:=fun b hb=>(hF5 b hb).elim .inl (fun h=>.inr (by omega))
  have hs2:=hs1.again E2.keptP
  have hv5:∀b,F5 b→¬ H1 b:=fun b hb hH=>(hF5 b hb).elim (fun h=>hv b h hH) (fun h=>by have:=hs2.lt b hH;omega)
  refine ⟨_,_,rfl,E5.kept (fun b hH hF=>hv b hF hH),fun h'=>?_,fun h'=>?_⟩
  ·have h':(Sp.grow L t).2.1≠0:=by rw [← e2];simpa using h'
   obtain ⟨hok5,M,hM⟩:=Sp.jAM t L hok
   rw [hl0]
   refine (jLS p L.length w5 hP5 (by rw [hM];simp)).mono ?_
   rintro _ w6 ⟨rfl,hP6,E6⟩
   have:Sp.of L t=(0,(Sp.grow L t).2.1,L):=by rw [Sp.of,if_neg (by simp [h]),if_pos h']
   refine ⟨rfl,E6.kept (fun b hH hF=>hv5 b hF hH),hK _ _ _ ?_⟩
   rw [this]
   rw [hM,List.take_left] at hP6
   exact ⟨by rw [e1,e2,jHQ t L h'],F5,hP6,E05.trans' E6 (fun i hi h=>(hF5' i h).elim id (fun h=>by omega)),hF5'⟩
  ·have h':(Sp.grow L t).2.1=0:=by rw [← e2];simpa using h'
   have:Sp.of L t=((Sp.grow L t).1,0,(Sp.grow L t).2.2):=by rw [Sp.of,if_neg (by simp [h]),if_neg (by simp [h'])]
   refine hK _ _ _ ?_
   rw [this]
   exact ⟨by rw [e1,e2,h'],F5,hP5,E05,hF5'⟩
theorem TreeAt.hst {S:NP} {w0 w w':World} {H H':NP} {s:Sl} {t:Sp.Tree} (h:TreeAt S w s t) (hs:Hst w0 H w H' w') (hd:∀b,S b→b<w.heap.size∧¬ H b):TreeAt S w' s t :=
 h.ext hs.ext (fun b hb hh=>hs.disj (G:=S) hd b hb hh)
theorem jHU {S:NP} (t:Sp.Tree):∀(s:Sl) (most:Int) (w0:World),0≤most→most≤1000000000→TreeAt S w0 s t→(∀b,S b→b<w0.heap.size) →
  Calls prog 10 #[.agg (qX t s).toArray,.int .i64 most] w0 (fun e w'=>∃r:Int,e=.returned (.int .i64 r)∧(r=Sp.jAD most t∧Pure w0 w')):=by
 induction t using Sp.Tree.ind with
 | h k f t u x ks ih =>
 intro s most w0 hm0 hm hT hSw
 suffices key:∀K:Int→WP,(∀r w',(r=Sp.jAD most (.mk k f t u x ks)∧Pure w0 w')→K r w')→m_K1 k f t u x s most w0 K from
  w_K1 _ _ _ _ _ _ _ w0 _ (key _ (fun _ _ h=>h))
 intro K hK
 have hlen:s.len=ks.length:=by cases hT;assumption
 have hfit:ks.length≤9223372036854775807:=by cases hT;assumption
 unfold m_K1
 intro H1 w1 hs1
 refine ⟨fun n i H w'=>∃j:Nat,i=j∧j≤ks.length∧1≤n∧n≤most+1∧Pure w0 w'∧Sp.yT most 1 ks=Sp.yT most n (ks.drop j),fun _ i _=>((ks.length:Int) - i).toNat,⟨0,rfl,Nat.zero_le _,Int.le_refl _,by omega,hs1.first,rfl⟩,?_⟩
 rintro n _ Hl wl hl ⟨j,rfl,hj,hn1,hn2,El,heq⟩
 unfold m_K1_l1
 refine ⟨fun hc=>?_,fun hc=>?_⟩
 ·simp only [Bool.and_eq_true,decide_eq_true_eq] at hc
  have hlt:j<ks.length:=by omega
  rw [List.drop_eq_getElem_cons hlt,Sp.yT,if_pos hc.2] at heq
  have hT1:=hT.pure El
  cases hT1 with
  | mk _ _ _ _ _ _ _ rs len fit row kid =>
  obtain ⟨a,hat,ha,hr⟩:=row j hlt
  refine ⟨a,hat,?_⟩
  intro H2 w2 hs2
  have hd:∀b,S b→¬ H2 b:=fun b hb hh=>by have:=hs2.old _ hh;have:=hSw b hb;omega
  refine ⟨_,_,_,_,_,rs j,hs2.ext.row hr (hd _ ha),?_⟩
  rw [i64 (n:=most - n) (by omega) (by omega)]
  refine (ih j hlt (rs j) (most - n) w2 (by omega) (by omega) ((kid j hlt).ext hs2.ext hd) (fun b hb=>by have:=hSw b hb;have:=(El.hst hs2).size;omega)).mono ?_
  rintro _ w3 ⟨r,rfl,rfl,E3⟩
  have hpf:=Sp.jFH ks[j] (most - n) (by omega)
  refine ⟨_,rfl,E3.keptP,?_⟩
  rw [vE hlt (by omega),i64 (n:=n+Sp.jAD (most - n) ks[j]) (by omega) (by omega)]
  exact ⟨⟨j+1,rfl,hlt,by omega,by omega,(El.hst hs2).trans E3,heq⟩,jAU hlt⟩
 ·intro H2 w2 hs2
  refine hK _ _ ⟨?_,El.hst hs2⟩
  rw [Sp.jAD,heq]
  by_cases hj2:j=ks.length
  ·rw [hj2,List.drop_length];rfl
  ·have hlt:j<ks.length:=by omega
   rw [List.drop_eq_getElem_cons hlt,Sp.yT,if_neg]
   intro h
   have:decide (n≤most)=true:=decide_eq_true h
   have h2:decide ((j:Int)<(s.len:Int))=true:=decide_eq_true (by omega)
   rw [this,h2] at hc;cases hc
theorem jIO {xs ys:List Sp.Tree} {j:Nat} (hl:xs.length=ys.length) (hj:j<xs.length):Sp.yQ (xs.drop j) (ys.drop j)=(Sp.same xs[j] (ys[j]'(by omega)) && Sp.yQ (xs.drop (j+1)) (ys.drop (j+1))):=by
 rw [List.drop_eq_getElem_cons hj,List.drop_eq_getElem_cons (show j<ys.length by omega),Sp.yQ]
theorem jFA:∀{xs ys:List Sp.Tree},Sp.yQ xs ys=true→xs.length=ys.length
 | [],[],_=>rfl
 | a :: xs,b :: ys,h=>by simp only [Sp.yQ,Bool.and_eq_true] at h;simp [jFA h.2]
 | [],b :: ys,h=>by simp [Sp.yQ] at h
 | a :: xs,[],h=>by simp [Sp.yQ] at h
theorem jDS {S:NP} (t:Sp.Tree):∀(t':Sp.Tree) (s s':Sl) (w0:World),TreeAt S w0 s t→TreeAt S w0 s' t'→(∀b,S b→b<w0.heap.size) →
  Calls prog 37 #[.agg (qX t s).toArray,.agg (qX t' s').toArray] w0 (fun e w'=>∃r:Bool,e=.returned (.bool r)∧(r=Sp.same t t'∧Pure w0 w')):=by
 induction t using Sp.Tree.ind with
 | h k f t u x ks ih =>
 intro t' s s' w0 hT hT' hSw
 obtain ⟨k',f',tt',u',x',ks'⟩:=t'
 suffices key:∀K:Bool→WP,(∀r w',(r=Sp.same (.mk k f t u x ks) (.mk k' f' tt' u' x' ks')∧Pure w0 w')→K r w')→m_N1 k f t u x s k' f' tt' u' x' s' w0 K from
  w_N1 _ _ _ _ _ _ _ _ _ _ _ _ w0 _ (key _ (fun _ _ h=>h))
 intro K hK
 have hlen:s.len=ks.length:=by cases hT;assumption
 have hlen':s'.len=ks'.length:=by cases hT';assumption
 have hfit:ks.length≤9223372036854775807:=by cases hT;assumption
 unfold m_N1
 rintro y1 rfl
 refine ⟨fun h=>?_,fun h=>?_⟩
 ·intro H7 w7 hs7
  refine hK _ _ ⟨?_,hs7.first⟩
  symm
  apply Bool.eq_false_iff.2
  intro hs
  simp only [Sp.same,Bool.and_eq_true,decide_eq_true_eq] at hs
  obtain ⟨⟨⟨⟨⟨rfl,rfl⟩,rfl⟩,rfl⟩,rfl⟩,h6⟩:=hs
  have:=jFA h6
  simp [hlen,hlen',this] at h
 ·have hne : k = k' ∧ f = f' ∧ t = tt' ∧ u = u' ∧ x = x' ∧ ks.length = ks'.length := by
   simp only [Bool.or_eq_false_iff,bne_eq_false_iff_eq,Bool.not_eq_false',decide_eq_true_eq] at h;obtain ⟨⟨⟨⟨⟨h1,h2⟩,h3⟩,h4⟩,h5⟩,h6⟩:=h;exact ⟨h1,h2,h3,h4,h5,by omega⟩
  obtain ⟨rfl,rfl,rfl,rfl,rfl,hll⟩:=hne
  have hsp:Sp.same (.mk k f t u x ks) (.mk k f t u x ks')=Sp.yQ ks ks':=by simp [Sp.same]
  rw [hsp] at hK
  intro H7 w7 hs7
  refine ⟨fun i H w'=>∃j:Nat,i=j∧j≤ks.length∧Pure w0 w'∧Sp.yQ ks ks'=Sp.yQ (ks.drop j) (ks'.drop j),fun i _=>((ks.length:Int) - i).toNat,⟨0,rfl,Nat.zero_le _,hs7.first,rfl⟩,?_⟩
  rintro _ Hl wl hl ⟨j,rfl,hj,El,heq⟩
  unfold m_N1_l1
  refine ⟨fun hc=>?_,fun hc=>?_⟩
  ·have hlt:=uC hlen hc
   have hlt':j<ks'.length:=by omega
   rw [jIO hll hlt] at heq
   have g1:∃a r,At s j 6 a∧S a.block∧(∀w',Pure w0 w'→Row w' a (qX ks[j] r))∧TreeAt S w0 r ks[j]:=by
    cases hT with
    | mk _ _ _ _ _ _ _ rs len fit row kid=>obtain ⟨a,h1,h2,h3⟩:=row j hlt;exact ⟨a,rs j,h1,h2,fun w' E=>E.row h3 id,kid j hlt⟩
   have g2:∃a r,At s' j 6 a∧S a.block∧(∀w',Pure w0 w'→Row w' a (qX ks'[j] r))∧TreeAt S w0 r ks'[j]:=by
    cases hT' with
    | mk _ _ _ _ _ _ _ rs len fit row kid=>obtain ⟨a,h1,h2,h3⟩:=row j hlt';exact ⟨a,rs j,h1,h2,fun w' E=>E.row h3 id,kid j hlt'⟩
   obtain ⟨a,r,hat,_,hr,hk⟩:=g1
   obtain ⟨a',r',hat',_,hr',hk'⟩:=g2
   refine ⟨fun w'=>Pure w0 w',El.trans (Ext.drew wl),?_⟩
   rintro _ rfl
   have Ed:=El.trans (Ext.drew wl)
   refine ⟨a,hat,_,_,_,_,_,r,fun w' h=>hr w' h,a',hat',_,_,_,_,_,r',fun w' h=>hr' w' h,?_⟩
   refine (ih j hlt ks'[j] r r' wl.drew (hk.pure Ed) (hk'.pure Ed) (fun b hb=>by have:=hSw b hb;have:=Ed.size;omega)).mono ?_
   rintro _ w13 ⟨q,rfl,rfl,E13⟩
   refine ⟨_,rfl,Ed.trans E13,E13.keptP,fun h=>?_,fun h=>?_⟩
   ·have h:Sp.same ks[j] ks'[j]=false:=by simpa using h
    exact hK _ _ ⟨by rw [heq,h];rfl,Ed.trans E13⟩
   ·have h:Sp.same ks[j] ks'[j]=true:=by simpa using h
    rw [h,Bool.true_and] at heq
    rw [vE hlt (by omega)]
    exact ⟨⟨j+1,rfl,hlt,Ed.trans E13,heq⟩,jAU hlt⟩
  ·have hge:=uS hlen hj hc
   subst hge
   rw [List.drop_length,hll,List.drop_length] at heq
   exact hK _ _ ⟨heq.symm,El⟩
theorem jBY:SlType prog 22 28 6 72:=by
 refine ⟨underlying22,⟨t28,_,by kernel_rfl,(by kernel_rfl:t28.zero=some (.agg #[.int .i64 0,.int .i64 0,.int .i64 0,.int .u64 0,.string ⟨#[]⟩,.slice none 0 0])),by kernel_rfl,by kernel_rfl,rfl⟩,by omega⟩
def jMO (p:Sp.Tree×Sl):List Value:=qX p.1 p.2
theorem TreeAt.of_pairs {S:NP} {w:World} {s:Sl} {e:TypeId} {ps:List (Sp.Tree×Sl)} {k f t u:Int} {x:ByteArray} (hR:Rws w e 6 s (ps.map jMO)) (hS:∀b,s.blk b→S b) (hk:∀p∈ps,TreeAt S w p.2 p.1) (fit:ps.length≤9223372036854775807):TreeAt S w s (.mk k f t u x (ps.map Prod.fst)):=by
 refine .mk k f t u x _ s (fun i=>(ps.getD i (Sp.jDL,Sl.nil)).2) (by rw [hR.len];simp) (by simpa using fit) (fun i h=>?_) (fun i h=>?_)
 ·have h':i<ps.length:=by simpa using h
  obtain ⟨a,h1,h2,h3⟩:=hR.at (i:=i) (by omega) (by simpa using h');refine ⟨a,h1,hS _ h3,?_⟩;have e1:(ps.map Prod.fst)[i]=ps[i].1:=by simp
  have e2:(ps.getD i (Sp.jDL,Sl.nil)).2=ps[i].2:=by simp [List.getD_eq_getElem?_getD,h']
  rw [e1,e2];simpa [jMO] using h2
 ·have h':i<ps.length:=by simpa using h
  have e1:(ps.map Prod.fst)[i]=ps[i].1:=by simp
  have e2:(ps.getD i (Sp.jDL,Sl.nil)).2=ps[i].2:=by simp [List.getD_eq_getElem?_getD,h']
  rw [e1,e2];exact hk _ (List.getElem_mem h')
theorem jEC (t:Sp.Tree) (s:Sl):(qX t s).all vY=true:=by simp [qX,vY,Sl.v]
theorem jKA {S:NP} (t:Sp.Tree):∀(s:Sl) (w0:World),Sp.cnt t≤1000000→TreeAt S w0 s t→(∀b,S b→b<w0.heap.size) →
  Calls prog 39 #[.agg (qX t s).toArray] w0 (RetT w0.heap.size w0 t):=by
 induction t using Sp.Tree.ind with
 | h k f t u x ks ih =>
 intro s w0 hcnt hT hSw
 suffices key:∀K:Int→Int→Int→Int→ByteArray→Sl→WP,(∀s' w',TreeAt (w0.heap.size≤·) w' s' (.mk k f t u x ks)→Pure w0 w'→K k f t u x s' w')→m_O1 k f t u x s w0 K by
  refine (w_O1 _ _ _ _ _ _ w0 (fun k' f' t' u' x' s' w'=>(k'=k∧f'=f∧t'=t∧u'=u∧x'=x)∧TreeAt (w0.heap.size≤·) w' s' (.mk k f t u x ks)∧Pure w0 w') (key _ (fun s' w' h1 h2=>⟨⟨rfl,rfl,rfl,rfl,rfl⟩,h1,h2⟩))).mono ?_;rintro _ w' ⟨_,_,_,_,_,s',rfl,⟨rfl,rfl,rfl,rfl,rfl⟩,h1,h2⟩;exact ⟨s',rfl,h1,h2⟩
 intro K hK
 have hlen:s.len=ks.length:=by cases hT;assumption
 have hca:1+Sp.cntAll ks≤1000000:=by simpa [Sp.cnt] using hcnt
 have hkl:=Sp.jGW ks
 have hnil:∀b,¬ Sl.nil.blk b:=fun b hb=>by obtain ⟨a,h,_⟩:=hb;cases h
 unfold m_O1
 intro H3 w5 hs5
 refine ⟨fun i _ _ _ _ _ yk H w'=>∃j:Nat,i=j∧j≤ks.length∧Pure w0 w'∧∃(ps:List (Sp.Tree×Sl)) (S':NP),ps.map Prod.fst=ks.take j∧Own H w' 28 6 yk (ps.map jMO)∧(∀p∈ps,TreeAt S' w' p.2 p.1)∧(∀b,S' b→w0.heap.size≤b∧b<w'.heap.size∧¬ H b∧¬ yk.blk b)∧(∀b,yk.blk b→w0.heap.size≤b),
  fun i _ _ _ _ _ _ _=>((ks.length:Int) - i).toNat,⟨0,rfl,Nat.zero_le _,hs5.first,[],fun _=>False,by simp,Own.nil _ _,by simp,fun b h=>h.elim,fun b h=>(hnil b h).elim⟩,?_⟩
 rintro _ y1 y2 y3 y4 y5 yk Hl wl hl ⟨j,rfl,hj,El,ps,S',hps,Oy,hkids,hS',hyk⟩
 have hpl:ps.length=j:=by have:=congrArg List.length hps;simpa [Nat.min_eq_left hj] using this
 unfold m_O1_l1
 refine ⟨fun hc=>?_,fun hc=>?_⟩
 ·have hlt:=uC hlen hc
  have g1:∃a r,At s j 6 a∧S a.block∧(∀w',Pure w0 w'→Row w' a (qX ks[j] r))∧TreeAt S w0 r ks[j]:=by
   cases hT with
   | mk _ _ _ _ _ _ _ rs len fit row kid=>obtain ⟨a,h1,h2,h3⟩:=row j hlt;exact ⟨a,rs j,h1,h2,fun w' E=>E.row h3 id,kid j hlt⟩
  obtain ⟨a,r,hat,_,hr,hk⟩:=g1
  have E6:Pure wl wl.drew:=Ext.drew wl
  have Ed:=El.trans E6
  refine ⟨fun w'=>Pure w0 w',Ed,?_⟩
  rintro _ rfl
  refine ⟨a,hat,_,_,_,_,_,r,fun w' h=>hr w' h,?_⟩
  have hcj:=Sp.jGX (ks:=ks) hlt
  refine (ih j hlt r wl.drew (by omega) (hk.pure Ed) (fun b hb=>by have:=hSw b hb;have:=Ed.size;omega)).mono ?_
  rintro _ w7 ⟨s',rfl,hTk,E7⟩
  have E07:=Ed.trans E7
  refine ⟨_,_,_,_,_,s',rfl,E07,E7.keptP,?_⟩
  intro p4 w8 h8
  have E8:Pure w7 w8:=Ext.new h8
  refine ⟨E07.trans E8,?_⟩
  have hs8:Hst w0 Hl w8 Hl w8:=(hl.again E6.keptP).again (E7.trans E8).keptP
  have O8:=Oy.pure ((E6.trans E7).trans E8)
  obtain ⟨s1,w9,hr9,hO9,hE9,hk9,hb9⟩:=O8.append (P:=prog) (ty:=22) (c:=1) jBY hs8 (r:=qX ks[j] s') (Box.of_new h8).row rfl (jEC _ _) (by simp;omega) (by simp [maxLen];omega)
  have E09:Pure w0 w9:=(E07.trans E8).trans' hE9 (fun i hi hb=>by have:=hyk i hb;omega)
  refine ⟨s1,w9,hr9,E09,hk9,?_⟩
  intro w10 hs10
  have hsd:wl.drew.heap.size=wl.heap.size:=rfl
  have z7:=E7.size
  have z8:=E8.size
  have z9:=hE9.size
  have hSn:∀b,(S' b∨(wl.heap.size≤b∧b<w7.heap.size))→w0.heap.size≤b∧b<w9.heap.size∧¬ Hl b∧¬ s1.blk b:=by
   rintro b (hb | ⟨h1,h2⟩)
   ·obtain ⟨q1,q2,q3,q4⟩:=hS' b hb;exact ⟨q1,by omega,q3,fun h=>(hb9 b h).elim q4 (fun h=>by omega)⟩
   ·refine ⟨by have:=El.size;omega,by omega,fun h=>by have:=hl.lt b h;omega,fun h=>(hb9 b h).elim (fun h=>by have:=Oy.rows.lt h;omega) (fun h=>by omega)⟩
  rw [vE hlt (by omega)]
  refine ⟨⟨j+1,rfl,hlt,E09.hst hs10,ps++[(ks[j],s')],fun b=>S' b∨(wl.heap.size≤b∧b<w7.heap.size),?_,?_,?_,?_,?_⟩,jAU hlt⟩
  ·rw [List.map_append,hps,List.take_succ_eq_append_getElem hlt];rfl
  ·have:(ps++[(ks[j],s')]).map jMO=ps.map jMO++[qX ks[j] s']:=by simp [jMO]
   rw [this];exact hO9.hst hs10
  ·intro p hp
   have hnb:∀b,(S' b∨(wl.heap.size≤b∧b<w7.heap.size))→b<w9.heap.size∧¬ Hl b:=fun b hb=>⟨(hSn b hb).2.1,(hSn b hb).2.2.1⟩
   rcases List.mem_append.1 hp with h | h
   ·have:=(hkids p h).pure ((E6.trans E7).trans E8)
    have:=this.ext hE9 (fun b hb hy=>(hS' b hb).2.2.2 hy)
    exact (this.mono (fun b hb=>.inl hb)).hst hs10 hnb
   ·simp only [List.mem_singleton] at h;subst h
    have:=(hTk.lt.pure E8).ext hE9 (fun b hb hy=>by have:=Oy.rows.lt hy;have:=hb.1;omega)
    exact (this.mono (S':=fun b=>S' b∨(wl.heap.size≤b∧b<w7.heap.size)) (fun b hb=>.inr ⟨by have:=hb.1;omega,hb.2⟩)).hst hs10 hnb
  ·intro b hb
   obtain ⟨q1,q2,q3,q4⟩:=hSn b hb
   exact ⟨q1,Nat.lt_of_lt_of_le q2 hs10.ext.size,q3,q4⟩
  ·intro b hb
   exact (hb9 b hb).elim (hyk b) (fun h=>by have:=(E07.trans E8).size;omega)
 ·have hge:=uS hlen hj hc
  subst hge
  rw [List.take_length] at hps
  have E6:Pure wl wl.drew:=Ext.drew wl
  refine ⟨fun _=>True,trivial,?_⟩
  rintro _ rfl
  intro p5 w12 h12
  have E12:Pure wl w12:=E6.trans (Ext.new h12)
  refine ⟨trivial,?_⟩
  have hs12:Hst w0 Hl w12 Hl w12:=hl.again E12.keptP
  obtain ⟨s2,w13,hr13,hO13,hE13,hk13,hb13⟩:=(Oy.pure E12).append (P:=prog) (ty:=22) (c:=1) jBY hs12 (r:=qX (.mk (-1) 0 0 0 ⟨#[]⟩ []) Sl.nil) (Box.of_new h12).row rfl (jEC _ _) (by simp;omega) (by simp [maxLen];omega)
  refine ⟨s2,w13,hr13,trivial,hk13,?_⟩
  have hyl:yk.len=ks.length:=by rw [Oy.len];simp [hpl]
  obtain ⟨s3,hr3,hR3,hb3⟩:=Rws.hiA (P:=prog) jBY hO13.rows (k:=.i64) (n:=(ks.length:Int)) (by omega) (by simp [hpl];omega)
  rw [hyl]
  refine ⟨s3,fun w' _=>hr3 w',?_⟩
  intro w14 hs14
  have hR3':Rws w13 28 6 s3 (ps.map jMO):=by
   have e:((ps.map jMO)++[qX (.mk (-1) 0 0 0 ⟨#[]⟩ []) Sl.nil]).take (ks.length:Int).toNat=ps.map jMO:=by
    rw [Int.toNat_natCast];exact List.take_left' (by simp [hpl])
   rw [e] at hR3;exact hR3
  have hv3:∀b,s3.blk b→b<w13.heap.size∧¬ Hl b:=fun b hb=>⟨hR3'.lt hb,hO13.vis b ((hb3 b).1 hb)⟩
  have hR14:=hR3'.ext hs14.ext (hs14.disj (G:=s3.blk) hv3)
  have z12:=E12.size
  have z13:=hE13.size
  have hs3:∀b,s3.blk b→w0.heap.size≤b:=fun b hb=>(hb13 b ((hb3 b).1 hb)).elim (hyk b) (fun h=>by have:=El.size;omega)
  refine hK s3 w14 ?_ ?_
  ·have hT3:=TreeAt.of_pairs (S:=fun b=>w0.heap.size≤b) (k:=k) (f:=f) (t:=t) (u:=u) (x:=x) hR14 hs3 (fun p hp=>?_) (by omega)
   ·rw [hps] at hT3;exact hT3
   ·have h1:=((hkids p hp).pure E12).ext hE13 (fun b hb hy=>(hS' b hb).2.2.2 hy)
    exact (h1.hst hs14 (fun b hb=>⟨by have:=(hS' b hb).2.1;omega,(hS' b hb).2.2.1⟩)).mono (fun b hb=>(hS' b hb).1)
  ·exact ((El.trans E12).trans' hE13 (fun i hi hb=>by have:=hyk i hb;omega)).hst hs14
theorem jAO (p:Addr) (w:World) {L:Sp.Pool} {F:NP} (hP:zT w p L F):Calls prog 22 #[.pointer (some p)] w (fun e w'=>∃r:Int,e=.returned (.int .i64 r)∧(r=L.length∧w'=w)):=by
 refine w_N2 _ w (fun r w'=>r=L.length∧w'=w) ?_;unfold m_N2;obtain ⟨s,m,h,_⟩:=hP;refine Br.f rfl ⟨p,rfl,s,h.box.cell0,?_,rfl⟩;have:=h.rows.len;rw [this];simp
theorem c_kids (p:Addr) (t:Int) (w:World) {L:Sp.Pool} {F:NP} (hP:zT w p L F) (hok:Sp.Ok L):Calls prog 84 #[.pointer (some p),.int .i64 t] w (fun e w'=>∃s:Sl,e=.returned s.v∧(Lst (fun b=>w.heap.size≤b∧b<w'.heap.size) w' 1 s (tmr (Sp.zM (Sp.nodeOf L t)))∧Pure w w')):=by
 refine w_P2 _ _ w (fun s w'=>Lst (fun b=>w.heap.size≤b∧b<w'.heap.size) w' 1 s (tmr (Sp.zM (Sp.nodeOf L t)))∧Pure w w') ?_;unfold m_P2;refine (jKF p t w hP hok).mono ?_;rintro _ w1 ⟨k,f,t',u,x,a,b,r,rfl,⟨hn,_⟩,E1⟩;refine ⟨_,_,_,_,_,_,_,_,rfl,?_⟩;intro p2 w2 h2;have E2:Pure w w2:=E1.trans (Ext.new h2);have o2:=New.own E1 h2;refine bx 7 (Box.of_new h2) rfl rfl (fun w3 b2 E=>?_);have E3:Pure w w3:=E2.own o2 E;refine ⟨k,b2.cell0,?_⟩;refine (jJU k w3).mono ?_;rintro _ w4 ⟨s1,s2,s3,s4,s5,ok,rfl,⟨hs,_⟩,E4⟩;refine ⟨_,_,_,_,_,_,rfl,?_⟩;have b24:=b2.pure E4;intro p3 w5 h5;have E5:Pure w4 w5:=Ext.new h5;have b25:=b24.pure E5;have ne:p2.block≠p3.block:=h5.ne b24.blk;have E05:Pure w w5:=(E3.trans E4).trans E5;have o5:=New.own (E3.trans E4) h5;refine bx 5 (Box.of_new h5) rfl rfl (fun w6 b3 E=>?_);have b26:=b25.ext E ne;have E06:Pure w w6:=E05.own o5 E;refine ⟨a,b26.cell rfl,b,b26.cell rfl,?_⟩;intro p4 w7 h7;have E7:Pure w6 w7:=Ext.new h7;have b4:=Box.of_new h7;have hsh:Sp.shapeOf k=⟨s1,s2,s3,s4,s5⟩:=hs.symm;have hk5:s5=0∨s5=1∨s5=2:=by have:=Sp.uL k;rw [hsh] at this;exact this
 refine ⟨s5,(b3.pure E7).cell rfl,_,jMI p4 s5 w7 hk5,?_,E06.trans E7⟩;have hks:Sp.zM (Sp.nodeOf L t)=[a,b].take s5.toNat:=by rw [← hn];simp [Sp.zM,hsh]
 rw [hks];have z:=h7.at_size;have z6:=E06.size;have zl:=b4.lt;refine ⟨by rcases hk5 with rfl | rfl | rfl <;> rfl,fun i hi=>?_⟩;rw [tR] at hi;have hi2:i<s5.toNat:=by simp at hi;omega
 refine ⟨p4.add (i*1),⟨by omega,by show (i:Int)<(s5.toNat:Int);omega,p4,rfl,rfl⟩,by rw [zU];omega,?_⟩;intro j hj;have hj1:j<1:=by simp only [tmr,List.getElem_map,List.length_cons,List.length_nil] at hj;omega
 have hj0:j=0:=by omega
 subst hj0;rw [uV];have h01:i=0∨i=1:=by omega
 rcases h01 with rfl | rfl
 ·rw [b4.cell (i:=0*1+0) rfl];simp [tmr]
 ·rw [b4.cell (i:=1*1+0) rfl];simp [tmr]
end Go.Proofs
end
section
open Go Go.SE
open Go.IntKind renaming i64 → q6
namespace Go.Proofs
open Tryz
set_option maxRecDepth 100000
set_option maxHeartbeats 4000000
attribute [local irreducible] wpL wpX opE wpE Calls
def m_U4 (p1:Option Addr) (aA:Option Addr) (t1:Int) (w0:World) (K:Int→Int→WP):Prop :=∀p2 w1,New w0 (.cells #[(vp p1)] 29) p2 w1→∀p3 w2,New w1 (.cells #[(vp aA)] 29) p3 w2→∀p4 w3,New w2 (.cells #[(vi 0)] 23) p4 w3→∀p5 w4,New w3 (.cells #[(vi 0)] 33) p5 w4→∃v1,w4.cell? p2=some (vp v1)∧Br (Option.isNone v1) (zW w4 p4∧¬ None p4.block∧∀w5,w5=w4.setCell p4 (vi 0)→zW w5 p5∧¬ None p5.block∧∀w6,w6=w5.setCell p5 (vi 0)→∃aB,w6.cell? p4=some (vi aB)∧∃aC,w6.cell? p5=some (vi aC)∧K aB aC w6) (∃v2,w4.cell? p3=some (vp v2)∧Calls prog 115 #[(vp v2),(vi t1)] w4 (fun e w7=>∃r1,e=.returned (vb r1)∧Kept None w4 w7∧Br (!r1) (zW w7 p4∧¬ None p4.block∧∀w8,w8=w7.setCell p4 (vi 0)→zW w8 p5∧¬ None p5.block∧∀w9,w9=w8.setCell p5 (vi 51)→∃aD,w9.cell? p4=some (vi aD)∧∃aE,w9.cell? p5=some (vi aE)∧K aD aE w9) (∃v3,w7.cell? p2=some (vp v3)∧∃a1,v3=some a1∧∃v4:Sl,w7.cell? a1=some v4.v∧∀p6 w10,New w7 (.cells #[(vi 0)] 3) p6 w10→zW w10 p6∧¬ None p6.block∧∀w11,w11=w10.setCell p6 (vi (v4.len:Int))→∀p7 w12,New w11 (.map #[] 0) p7 w12→∀p8 w13,New w12 (.cells #[(.map none)] 233) p8 w13→zW w13 p8∧¬ None p8.block∧∀w14,w14=w13.setCell p8 (.map (some p7.block))→∃v5,w14.cell? p3=some (vp v5)∧Calls prog 139 #[(vp v5),(vi t1)] w14 (fun e w15=>∃r2:Value,e=.returned r2∧Kept None w14 w15∧∃(f1:FuncId) (cs1:Array Value),r2=.func (.func f1) #[] cs1∧(∀args w,(callFunc f1 args).run prog w=.ok (.enter f1 args) w)∧∃(xs1:List (Int)) (Rd1:WP),jRM prog f1 cs1 (fun (z2:Int)=>#[(vi z2)]) xs1 Rd1 w15∧∃(I1 Ir1:List (Int)→NP→WP),RngI w0 Rd1 I1 (fun _ _ _=>False) Ir1∧I1 [] None w15∧(∀(pre1:List (Int)) (z2:Int) (Y1:NP) (A1:World),I1 pre1 Y1 A1→Hst w0 Y1 A1 Y1 A1→(∃post,xs1=pre1++z2 :: post)→∃v6,A1.cell? p3=some (vp v6)∧Calls prog 61 #[(vp v6),(vi z2)] A1 (fun e w17=>∃aF aG aH aI aJ aK aL r3,e=.returned (.tuple #[(Ae aF aG aH aI aJ aK aL),(vb r3)])∧Kept None A1 w17∧∀p9 w18,New w17 (.cells #[(vi 0),(vi 0),(vi 0),(vu 0),ve,(vi 0),(vi 0)] 103) p9 w18→(∀j,j<7→zW w18 (p9.add j))∧¬ None p9.block∧∀w19,w19=storeRow w18 p9 (Ad aF aG aH aI aJ aK aL)→∃C1:WP,C1 w19.drew∧∀w20,w20=w19.drew→∃v7:Option Nat,w20.cell? p8=some (.map v7)∧∃v8,w20.cell? (p9.add 5)=some (vi v8)∧∃v9,(Instr.lookup 233 (.map v7) (vi v8) false).run prog w20=.ok (vi v9) w20∧∃v10:Option Nat,(∀w',C1 w'→w'.cell? p8=some (.map v10))∧∃v11,w20.cell? (p9.add 6)=some (vi v11)∧∃v12,(∀w',C1 w'→(Instr.lookup 233 (.map v10) (vi v11) false).run prog w'=.ok (vi v12) w')∧zW w20 (p9.add 5)∧¬ None (p9.add 5).block∧∀w21,w21=w20.setCell (p9.add 5) (vi v9)→C1 w21∧zW w21 (p9.add 6)∧¬ None (p9.add 6).block∧∀w22,w22=w21.setCell (p9.add 6) (vi v12)→∃v13,w22.cell? p2=some (vp v13)∧∃aQ aR aS aT aU aV aW,Row w22 p9 (Ad aQ aR aS aT aU aV aW)∧Calls prog 97 #[(vp v13),(.agg #[(vi aQ),(vi aR),(vi aS),(vu aT),(vs aU),(vi aV),(vi aW)])] w22 (fun e w23=>∃r4 r5,e=.returned (.tuple #[(vi r4),(vi r5)])∧Kept None w22 w23∧Br (r5 != 0) (∃v14,w23.cell? p2=some (vp v14)∧∃v15,w23.cell? p6=some (vi v15)∧Calls prog 56 #[(vp v14),(vi v15)] w23 (fun e w24=>e=.returned (.tuple #[])∧Kept None w23 w24∧zW w24 p4∧¬ None p4.block∧∀w25,w25=w24.setCell p4 (vi 0)→zW w25 p5∧¬ None p5.block∧∀w26,w26=w25.setCell p5 (vi r5)→Kept Y1 A1 w26∧Ir1 (pre1++[z2]) Y1 w26)) (∃v16:Option Nat,w23.cell? p8=some (.map v16)∧∃w27:World,(Instr.mapUpdate 233 (.map v16) (vi z2) (vi r4)).run prog w23=.ok () w27∧Kept None w23 w27∧Kept Y1 A1 w27∧I1 (pre1++[z2]) Y1 w27))))∧(∀H1 w28,Hst w0 H1 w28 H1 w28→(∀b,None b→H1 b)→Kept None w15 w28→I1 xs1 H1 w28→∃v17:Option Nat,w28.cell? p8=some (.map v17)∧∃v18,(Instr.lookup 233 (.map v17) (vi t1) false).run prog w28=.ok (vi v18) w28∧zW w28 p4∧¬ H1 p4.block∧∀w29,w29=w28.setCell p4 (vi v18)→zW w29 p5∧¬ H1 p5.block∧∀w30,w30=w29.setCell p5 (vi 0)→∀w31,Hst w0 H1 w30 H1 w31→∃aM,w31.cell? p4=some (vi aM)∧∃aN,w31.cell? p5=some (vi aN)∧K aM aN w31)∧(∀(pre2:List (Int)) (H2:NP) (w33:World),Hst w0 H2 w33 H2 w33→Ir1 pre2 H2 w33→∃aO,w33.cell? p4=some (vi aO)∧∃aP,w33.cell? p5=some (vi aP)∧K aO aP w33)))))
theorem w_U4 (p1 aA t1 w0 K) (h:m_U4 p1 aA t1 w0 K):
  Calls prog 122 #[(vp p1),(vp aA),(vi t1)] w0 (fun e w'=>∃r6 r7,e=.returned (.tuple #[(vi r6),(vi r7)])∧K r6 r7 w'):=by
 refine cw (args:=[(vp p1),(vp aA),(vi t1)]) func122 ntmps122 ?_
 obtain ⟨hs,hb⟩:=st0 w0
 refine eg (nw2 hs hb h xb fun p2 w1 hs hb h=>nw2 hs hb h xb fun p3 w2 hs hb h=>nw2 hs hb h (zH (zeroValue23 _) rfl) fun p4 w3 hs hb h=>nw2 hs hb h (zH (zeroValue33 _) rfl) fun p5 w4 hs hb h=>ln (zA (eg (ql (isAgg29 _) h fun v1 h=>q2 (vb (Option.isNone v1)) (yY (by kernel_rfl) rfl underlying29) (ln (cbr h ?_ ?_))))))<;>intro h
 refine eg (st2 (sizeOf23 _) hs hb h fun w5 hs hb h=>st2 (sizeOf33 _) hs hb h fun w6 hs hb h=>ln (er (vA ?_)))
 obtain ⟨aB,hv1,h⟩:=h
 obtain ⟨aC,hv2,h⟩:=h
 refine gg2 results122 (RV.cell1 (A:=p4) (by kernel_rfl) (isAgg23 _) hv1) (RV.cell1 (A:=p5) (by kernel_rfl) (isAgg33 _) hv2) ⟨aB,aC,rfl,h⟩
 refine zD (zN (zA (eg (ql (isAgg29 _) h fun v2 h=>q (sc call115 (h.mono fun e w7 ⟨r1,k,hk,h⟩=>have ⟨hs,hb⟩:=hk.hh hs hb;⟨_,k,?_⟩))))))
 refine q (ln (cbr h ?_ ?_))<;>intro h
 refine eg (st2 (sizeOf23 _) hs hb h fun w8 hs hb h=>st2 (sizeOf33 _) hs hb h fun w9 hs hb h=>ln (er (vA ?_)))
 obtain ⟨aD,hv3,h⟩:=h
 obtain ⟨aE,hv4,h⟩:=h
 refine gg2 results122 (RV.cell1 (A:=p4) (by kernel_rfl) (isAgg23 _) hv3) (RV.cell1 (A:=p5) (by kernel_rfl) (isAgg33 _) hv4) ⟨aD,aE,rfl,h⟩
 refine zD (zN (eg (ql (isAgg29 _) h fun v3 h=>qm h fun a1 h=>q (ql (isAgg94 _) h fun v4 h=>q (sn (O:=(.cells #[(vi 0)] 3)) (zH (zeroValue3 _) rfl) ?_)))))
 intro p6 w10 hn17
 have h:=h p6 w10 hn17
 obtain ⟨hs,hb⟩:=hs.nw hb hn17
 refine st2 (sizeOf3 _) hs hb h fun w11 hs hb h=>ln (eg (nw5 (fun p=>.map (some p.block)) hs hb h fun p7 w12 hs hb h=>nw2 hs hb h (zH (zeroValue233 _) rfl) fun p8 w13 hs hb h=>st2 (sizeOf233 _) hs hb h fun w14 hs hb h=>ln (jHD (rg (ql (isAgg29 _) h fun v5 h=>q (sc call139 (h.mono fun e w15 ⟨r2,k,hk,h⟩=>have ⟨hs,hb⟩:=hk.hh hs hb;⟨_,k,?_⟩)))))))
 refine ln ?_
 obtain ⟨f1,cs1,hv5,hf1,h⟩:=h
 obtain ⟨xs1,Rd1,hit,I1,Ir1,hRI,h0,hbody,h⟩:=h
 refine jEO (encs:=(fun (z2:Int)=>#[(vi z2)])) (Eq.trans (b:=r2) (by kernel_rfl) hv5) hf1 hit (fun _=>rfl) (by decide) hs I1 (fun _ _ _=>False) Ir1 hRI h0 ?ha ?hr ?ht
 case ha =>
  intro l z2 w34
  refine rg (q (ln ⟨rfl,?_⟩))
  intro pre1 Y1 A1 hi hY hpost
  have h:=hbody pre1 z2 Y1 A1 hi hY hpost
  obtain ⟨hs,hb⟩:=st0 A1
  refine zL (eg (ql (isAgg29 _) h fun v6 h=>q (sc call61 (h.mono fun e w17 ⟨aF,aG,aH,aI,aJ,aK,aL,r3,k,hk,h⟩=>have ⟨hs,hb⟩:=hk.hh hs hb;⟨_,k,?_⟩))))
  refine qc (nw2 hs hb h (zH (zeroValue103 _) rfl) fun p9 w18 hs hb h=>?_)
  obtain ⟨hp8,hnh,h⟩:=h
  refine ss (xo p9 (Ad aF aG aH aI aJ aK aL) (sizeOf103 _) hp8) ?_
  intro w19 hn7
  have h:=h w19 hn7
  have hk:Kept None w18 w19:=by rw [hn7];exact Kept.storeRow hnh
  obtain ⟨hs,hb⟩:=hk.hh hs hb
  refine q (ln (zA ?_))
  obtain ⟨C1,hC,h⟩:=h
  refine dr2 C1 [9,11] [11] hC h hs hb fun w20 hs hb h=>?_
  have hs:=hs.here
  refine qg 0 ?_
  obtain ⟨v7,hv17,h⟩:=h
  refine sye Kp0 (xl (isAgg233 _) hv17) (qx 1 (vp (some (p9.add 5))) Kp1 (qg 2 ?_))
  obtain ⟨v8,hv16,h⟩:=h
  refine sye Kp2 (xl (isAgg23 _) hv16) (qg 3 ?_)
  obtain ⟨v9,hv15,h⟩:=h
  refine sye (v:=(vi v9)) Kp3 (yZ (by kernel_rfl) (by kernel_rfl) hv15) (qg 4 ?_)
  obtain ⟨v10,hv14,h⟩:=h
  refine sy Kp4 (fun _ k=>xl (isAgg233 _) (hv14 _ k)) (qx 5 (vp (some (p9.add 6))) Kp5 (qg 6 ?_))
  obtain ⟨v11,hv13,h⟩:=h
  refine sye Kp6 (xl (isAgg23 _) hv13) (qg 7 ?_)
  obtain ⟨v12,hv12,h⟩:=h
  refine sy (v:=(vi v12)) Kp7 (fun w' hw'=>(yZ (by kernel_rfl) (by kernel_rfl) (hv12 w' hw'))) (qx 8 (vp (some (p9.add 5))) Kp8 (lg 9 ?_))
  obtain ⟨hp9,hnh,h⟩:=h
  refine jRN Kp9 (xs (v:=(vi v9)) (sizeOf23 _) hp9) ?_
  intro w21 hn8
  have h:=h w21 hn8
  refine ⟨.inr h.1,?_⟩
  have h:=h.2
  have hk:=Kept.sc hnh hn8
  obtain ⟨hs,hb⟩:=hk.hh hs hb
  refine qx 10 (vp (some (p9.add 6))) (zG (S8 (zB (zB zF)))) (lg 11 ?_)
  obtain ⟨hp10,hnh,h⟩:=h
  refine jRN (zG (S8 (zB (zB (zB zF))))) (xs (v:=(vi v12)) (sizeOf23 _) hp10) ?_
  intro w22 hn9
  have h:=h w22 hn9
  refine ⟨.inl (by kernel_rfl),?_⟩
  have hk:=Kept.sc hnh hn9
  obtain ⟨hs,hb⟩:=hk.hh hs hb
  refine wn (zN (eg (ql (isAgg29 _) h fun v13 h=>?_)))
  obtain ⟨aQ,aR,aS,aT,aU,aV,aW,hv10,h⟩:=h
  refine qa (isAgg103 _) (sizeOf103 _) hv10 (sc call97 (h.mono fun e w23 ⟨r4,r5,k,hk,h⟩=>have ⟨hs,hb⟩:=hk.hh hs hb;⟨_,k,?_⟩))
  refine q (qd (ln (zA (eg (qb (ln (cbr h ?_ ?_)))))))<;>intro h
  refine eg (ql (isAgg29 _) h fun v14 h=>ql (isAgg3 _) h fun v15 h=>sc call56 (h.mono fun e w24 ⟨k,hk,h⟩=>have ⟨hs,hb⟩:=hk.hh hs hb;⟨_,k,?_⟩))
  refine ln (eg (q (st2 (sizeOf23 _) hs hb h fun w25 hs hb h=>st2 (sizeOf33 _) hs hb h fun w26 hs hb h=>ln (er (vA (qU ?_))))))
  exact rd_r h
  refine zD (zN (rg (ql (isAgg233 _) h fun v16 h=>qb ?_)))
  obtain ⟨w27,hv8,hk,h⟩:=h
  refine yI (zJ rfl) (tP (by kernel_rfl) (by kernel_rfl) (by kernel_rfl) hv8) ?_
  obtain ⟨hs,hb⟩:=hk.hh hs hb
  refine zC (tG ?_)
  exact rd_n h
 case hr =>
  intro D1 H1 w28 hs' hD hDe aX hk1 hio1
  have hb':=hb.behind hk1 aX hD hDe
  have hs:=hs'
  have hb:=hb'
  have h:=h.1 H1 w28 hs aX hk1 (hio1.elim id (fun h=>h.elim (fun _ h=>h.elim)))
  refine eg (ql (isAgg233 _) h fun v17 h=>q ?_)
  obtain ⟨v18,hv21,h⟩:=h
  refine q2 (vi v18) (yZ (by kernel_rfl) (by kernel_rfl) hv21) (st2 (sizeOf23 _) hs hb h fun w29 hs hb h=>st2 (sizeOf33 _) hs hb h fun w30 hs hb h=>ln (er (af_r hb.dead ?_)))
  intro w31 hw'
  have hl:=hb.leave hs hw'
  obtain ⟨hs,hb⟩:=hl
  -- behind the loop
  have ⟨h,hs⟩:=hs.hr (h w31)
  obtain ⟨aM,hv19,h⟩:=h
  obtain ⟨aN,hv20,h⟩:=h
  refine gg2 results122 (RV.cell1 (A:=p4) (by kernel_rfl) (isAgg23 _) hv19) (RV.cell1 (A:=p5) (by kernel_rfl) (isAgg33 _) hv20) ⟨aM,aN,rfl,h⟩
 case ht =>
  intro D1 pre2 H2 w32 hs' hD hDe hio
  have hs2:=hs'.putD (o:=.deferred none) hD
  have hio:=hRI.r _ _ _ _ _ hio hs2
  have hs2:=hs2.here
  have hs:=hs2
  generalize World.putObj w32 D1 (.deferred none)=w33 at hs hio ⊢
  have hb:=HB.nil H2 w33
  have h:=h.2 pre2 H2 w33 hs hio
  obtain ⟨aO,hv23,h⟩:=h
  obtain ⟨aP,hv24,h⟩:=h
  refine gg2 results122 (RV.cell1 (A:=p4) (by kernel_rfl) (isAgg23 _) hv23) (RV.cell1 (A:=p5) (by kernel_rfl) (isAgg33 _) hv24) ⟨aO,aP,rfl,h⟩
def m_U1_l1 (yield1:Value) (r1:Sl) (x1:Int) (wl1:World) (Kc1:Int→WP) (K:WP):Prop :=Br (decide (x1<(r1.len:Int))) (∃a1:Addr,At r1 x1 1 a1∧∃v3,wl1.cell? a1=some (vi v3)∧∃(ly1:Nat),yield1=.func (.yield ly1) #[] #[]∧Yld prog ly1 #[(vi v3)] wl1 (fun e w2=>∃b1,e=.returned (vb b1)∧Br (!b1) (K w2) (Kc1 (q6.wrap (x1+1)) w2))) (K wl1)
def m_U1 (yield1:Value) (cap1 cap2:Addr) (w0:World) (K:WP):Prop :=∃v1,w0.cell? cap1=some (vp v1)∧∃v2,w0.cell? cap2=some (vi v2)∧Calls prog 199 #[(vp v1),(vi v2)] w0 (fun e w1=>∃r1:Sl,e=.returned r1.v∧∃(I1:Int→WP) (mu1:Int→World→Nat),I1 0 w1∧∀(x1:Int) (wl1:World),I1 x1 wl1→m_U1_l1 yield1 r1 x1 wl1 (fun y'0 w'=>I1 y'0 w'∧mu1 y'0 w'<mu1 x1 wl1) K)
theorem w_U1 (yield1 cap1 cap2 w0 K) (h:m_U1 yield1 cap1 cap2 w0 K):
  Calls prog 198 #[yield1,(vp (some cap1)),(vp (some cap2))] w0 (fun e w'=>e=.returned (.tuple #[])∧K  w'):=by
 refine cw (args:=[yield1,(vp (some cap1)),(vp (some cap2))]) func198 ntmps198 (eg ?_)
 refine ql (isAgg29 _) h fun v1 h=>ql (isAgg23 _) h fun v2 h=>sc call199 (h.mono fun e w1 ⟨r1,k,h⟩=>⟨_,k,?_⟩)
 refine qb (ln (zL ?_))
 obtain ⟨I1,mu1,h0,hr⟩:=h
 refine vR (σ:=Int×World) (fun s ρ w=>w=s.2∧Has ρ [(0,yield1),(8,r1.v),(9,(vi (r1.len:Int))),(10,(vi s.1))]∧I1 s.1 s.2) (fun s=>mu1 s.1 s.2) (0,w1) ⟨rfl,hm,h0⟩ ?_
 rintro ⟨x1,wl1⟩ ρ w ⟨hw,hH,hI⟩
 dsimp only at hw hH;subst w
 have h:=hr x1 wl1 hI
 refine zR hH (eg (q (ln (zA (cbr h ?_ ?_)))))<;>intro h
 refine zD (zN (zA (zL (eg (qi (runUnderlying137 _) (sizeOf23 _) h fun a1 h=>ql (isAgg23 _) h fun v3 h=>q (ln (eg (qb ?_))))))))
 obtain ⟨ly1,hy1,h⟩:=h
 refine jRU (zJ rfl) (by kernel_rfl) hy1 (by kernel_rfl) (h.mono ?_)
 rintro e w2 ⟨b1,rfl,h⟩
 refine ⟨_,rfl,?_⟩
 refine q (ln (cbr h ?_ ?_))<;>intro h
 refine er (qU (vA (vA (qU (jHZ (.inl rfl) results198 ⟨rfl,h⟩)))))
 refine zD (tG (zN (rg (qb (ln ⟨((q6.wrap (x1+1)),w2),⟨rfl,hm,h.1⟩,h.2⟩)))))
 refine vN (xH (xH (xB (jHZ (.inr rfl) results198 ⟨rfl,h⟩))))
end Go.Proofs
end
section
open Go Go.SE
namespace Go.SE
theorem Rws.kept {w w':World} {X:NP} {e:TypeId} {sz:Nat} {s:Sl} {rs:List (List Value)} (h:Rws w e sz s rs) (hk:Kept X w w') (hX:∀b,s.blk b→X b):Rws w' e sz s rs:=by
 refine ⟨h.each,h.len,?_⟩;rcases h.own with h' | ⟨g,cur,ha,hg,r⟩
 ·exact .inl h'
 ·exact .inr ⟨g,cur,ha,by rw [hk.keep g (xP hg) (hX g ⟨_,ha,rfl⟩)];exact hg,r⟩
end Go.SE
namespace Go.Sp
theorem jNT {L:Pool} (hW:Wf L) {t:Int} (ht:inP L t=true) (n:Nat) (st:(Int→Bool)×List Int):(zM (nodeOf L t)).foldl (fun st k=>uQ L n k st) st=uQ L n (nodeOf L t).b (uQ L n (nodeOf L t).a st):=by
 have z:∀st,uQ L n 0 st=st:=fun st=>by
  cases n with
  | zero=>rfl
  | succ n=>rw [uQ,if_neg (by simp [inP])]
 have h1:=(hW.node ht).2.1;have h2:=(hW.node ht).2.2.1;unfold zM;rcases uL (nodeOf L t).kind with e | e | e
 ·rw [e,h1 (by omega),h2 (by omega),z,z];rfl
 ·rw [e,h2 (by omega),z];rfl
 ·rw [e];rfl
end Go.Sp
namespace Go.Proofs
open Tryz
attribute [local irreducible] Calls
def jUK (M:List Int):List (Int×Unit):=M.map fun t=>(t,())
theorem jRS (M:List Int):(jUK M).map Prod.fst=M:=by simp [jUK,Function.comp_def]
def one1 (_:Unit):Value:=.int .i64 1
structure WkAt (w:World) (p c1 c2 c3 c4:Addr) (m:Nat) (so:Sl) (L:Sp.Pool) (FP:NP) (st:(Int→Bool)×List Int):Prop where
 b1:Box w c1 [.map (some m)] 205
 b2:Box w c2 [.pointer (some p)] 29
 b3:Box w c3 [.func (.func 231) #[] #[.pointer (some c1),.pointer (some c2),.pointer (some c3),.pointer (some c4)]] 267
 b4:Box w c4 [so.v] 137
 mp:∃M,IMap one1 w m (jUK M)∧∀x,st.1 x=decide (x∈M)
 out:Rws w 23 1 so (tmr st.2)
 pool:zT w p L FP
 n4:c4.block≠c1.block∧c4.block≠c2.block∧c4.block≠c3.block∧c4.block≠m
 nm:m≠c1.block∧m≠c2.block∧m≠c3.block
 ns:∀b,so.blk b→b≠c1.block∧b≠c2.block∧b≠c3.block∧b≠c4.block∧b≠m
 nf:∀b,FP b→b≠c4.block∧b≠m∧¬ so.blk b
def WkF (c4:Addr) (m:Nat) (so:Sl) (b:Nat):Prop:=b=c4.block∨b=m∨so.blk b
section
variable {w w':World} {p c1 c2 c3 c4:Addr} {m:Nat} {so:Sl} {L:Sp.Pool} {FP:NP} {st:(Int→Bool)×List Int}
theorem WkAt.pure (h:WkAt w p c1 c2 c3 c4 m so L FP st) (E:Pure w w'):WkAt w' p c1 c2 c3 c4 m so L FP st :=
 ⟨h.b1.pure E,h.b2.pure E,h.b3.pure E,h.b4.pure E,let ⟨M,h1,h2⟩:=h.mp;⟨M,h1.pure E,h2⟩,h.out.pure E,h.pool.pure E,h.n4,h.nm,h.ns,h.nf⟩
end
theorem c_walk (p c1 c2 c3 c4:Addr) (m:Nat) {L:Sp.Pool} {FP:NP} (hW:Sp.Wf L):∀(n:Nat) (t:Int) (w0:World) (st:(Int→Bool)×List Int) (so:Sl),t.toNat<n→Sp.inP L t=true→WkAt w0 p c1 c2 c3 c4 m so L FP st→Sp.OvOk L st→(∀y,st.1 y=true→y≤t→y∈st.2) →
  Calls prog 231 #[.int .i64 t,.pointer (some c1),.pointer (some c2),.pointer (some c3),.pointer (some c4)] w0 (fun e w'=>e=.returned (.tuple #[])∧∃so',WkAt w' p c1 c2 c3 c4 m so' L FP (Sp.uQ L n t st)∧Ext (WkF c4 m so) w0 w'∧∀b,so'.blk b→so.blk b∨w0.heap.size≤b):=by
 intro n
 induction n with
 | zero=>intro t w0 st so h;omega
 | succ n ih =>
 intro t w0 st so hn hin h hst hm
 have hR:=Sp.jBD hW (n+1) t st hn hst hm
 suffices key:∀K:WP,(∀so' w',WkAt w' p c1 c2 c3 c4 m so' L FP (Sp.uQ L (n+1) t st)→Ext (WkF c4 m so) w0 w'→(∀b,so'.blk b→so.blk b∨w0.heap.size≤b)→K w')→m_J1 t c1 c2 c3 c4 w0 K from
  w_J1 _ _ _ _ _ w0 _ (key _ (fun so' w' a b c=>⟨so',a,b,c⟩))
 intro K hK
 unfold m_J1
 obtain ⟨M,hM,hV⟩:=h.mp
 have hz:∀w,(zeroValue 3).run prog w=.ok (.int .i64 0) w:=fun w=>zeroValue3 w
 rcases hM.get underlying205 underlying23 (hz w0) t false with ⟨hno,hl⟩ | ⟨u,hyes,hl⟩
 ·have hnot:t ∉ M:=by have:=tN.1 hno;rwa [jRS] at this
  have hv:st.1 t=false:=by rw [hV];simpa using hnot
  rw [Sp.uQ,if_pos ⟨hin,hv⟩] at hK hR
  refine ⟨some m,h.b1.cell0,0,hl,Br.f (by simp) ?_⟩
  obtain ⟨w1,hu,hM1,E1⟩:=hM.put (f:=one1) underlying205 underlying23 hno ()
  refine ⟨some m,h.b1.cell0,0,hl,w1,by rw [i64 (by omega) (by omega)];exact hu,?_⟩
  have A1:WkAt w1 p c1 c2 c3 c4 m so L FP (Sp.upd st.1 t true,st.2) :=
   ⟨h.b1.ext E1 (fun e=>h.nm.1 e.symm),h.b2.ext E1 (fun e=>h.nm.2.1 e.symm),h.b3.ext E1 (fun e=>h.nm.2.2 e.symm),h.b4.ext E1 h.n4.2.2.2,
   ⟨M ++ [t], by rw [show jUK (M ++ [t]) = jUK M ++ [(t, ())] by simp [jUK]]; exact hM1, fun x => by
     simp only [Sp.upd,List.mem_append,List.mem_singleton];by_cases e:x=t
     ·simp [e]
     ·rw [if_neg e,hV];simp [e]⟩,
   h.out.ext E1 (fun b hb=>(h.ns b hb).2.2.2.2),h.pool.ext E1 (fun b hb=>(h.nf b hb).2.1),h.n4,h.nm,h.ns,h.nf⟩
  refine ⟨some p,A1.b2.cell0,?_⟩
  refine (c_kids p t w1 A1.pool hW.ok).mono ?_
  rintro _ w2 ⟨r1,rfl,hks,E2⟩
  refine ⟨_,rfl,?_⟩
  have A2:=A1.pure E2
  have o1:Sp.OvOk L (Sp.upd st.1 t true,st.2):=⟨fun y hy=>by simp only [Sp.upd];split <;> simp [hst.marked y hy],hst.closed,hst.nd,hst.inp⟩
  have hkid:=(hW.node hin).2.2.2.2.1
  have hlen:(Sp.zM (Sp.nodeOf L t)).length≤2:=by rw [Sp.zM];simp;omega
  generalize hks0:Sp.zM (Sp.nodeOf L t)=ks at *
  let sj:Nat→(Int→Bool)×List Int:=fun j=>(ks.take j).foldl (fun st k=>Sp.uQ L n k st) (Sp.upd st.1 t true,st.2)
  have good:∀j,j≤ks.length→Sp.OvOk L (sj j)∧∀y,(sj j).1 y=true→y<t→y∈(sj j).2:=by
   intro j;induction j with
   | zero =>
    intro _
    refine ⟨o1,fun y hy hlt=>?_⟩
    simp only [sj,List.take_zero,List.foldl_nil,Sp.upd] at hy ⊢
    rw [if_neg (by omega)] at hy
    exact hm y hy (by omega)
   | succ j ihj =>
    intro hj
    obtain ⟨g1,g2⟩:=ihj (by omega)
    have hk:=hkid ks[j] (List.getElem_mem _)
    have hk1:=(Sp.vF.1 hk.1).1
    have e:sj (j+1)=Sp.uQ L n ks[j] (sj j):=by simp only [sj];rw [List.take_succ_eq_append_getElem (by omega),List.foldl_append];rfl
    have r:=Sp.jBD hW n ks[j] (sj j) (by omega) g1 (fun y hy hle=>g2 y hy (by omega))
    rw [e]
    refine ⟨r.toOvOk,fun y hy hlt=>?_⟩
    rcases r.back y hy with h1 | h1
    ·obtain ⟨M',e',_⟩:=r.app
     rw [e'];exact List.mem_append_left _ (g2 y h1 hlt)
    ·exact h1
  refine ⟨fun x A=>∃(j:Nat) (so':Sl),x=j∧j≤ks.length∧WkAt A p c1 c2 c3 c4 m so' L FP (sj j)∧Ext (WkF c4 m so) w2 A∧∀b,so'.blk b→so.blk b∨w2.heap.size≤b,fun x _=>((ks.length:Int) - x).toNat,⟨0,so,rfl,Nat.zero_le _,A2,Ext.refl _,fun b hb=>.inl hb⟩,?_⟩
  rintro _ w3 ⟨j,so3,rfl,hj,A3,X3,f3⟩
  unfold m_J1_l1
  have hlen1:r1.len=ks.length:=by rw [hks.len,tR]
  have hks3:Lst (fun b=>w1.heap.size≤b∧b<w2.heap.size) w3 1 r1 (tmr ks):=hks.ext X3 (fun b hb hx=>by
   rcases hx with hx | hx | hx
   ·have:=A1.b4.lt;omega
   ·have:m<w1.heap.size:=hM1.lt;omega
   ·have:=A1.out.lt hx;omega)
  obtain ⟨g1,g2⟩:=good j hj
  refine ⟨fun hc=>?_,fun hc=>?_⟩
  ·have hc:j<ks.length:=by have:=of_decide_eq_true hc;omega
   obtain ⟨a,hat,_,hv⟩:=jPF hks3 hc
   refine ⟨a,hat,_,hv,_,A3.b3.cell0,_,_,_,rfl,call231,?_⟩
   have hk:=hkid ks[j] (List.getElem_mem _)
   have hk1:=(Sp.vF.1 hk.1).1
   refine (ih ks[j] w3 (sj j) so3 (by omega) hk.1 A3 g1 (fun y hy hle=>g2 y hy (by omega))).mono ?_
   rintro _ w4 ⟨rfl,so4,A4,X4,f4⟩
   refine ⟨rfl,⟨j+1,so4,vE hc (by omega),hc,?_,X3.trans' X4 (fun i hi hb=>?_),fun b hb=>?_⟩,?_⟩
   ·have e:sj (j+1)=Sp.uQ L n ks[j] (sj j):=by simp only [sj];rw [List.take_succ_eq_append_getElem (by omega),List.foldl_append];rfl
    rw [e];exact A4
   ·rcases hb with hb | hb | hb
    ·exact .inl hb
    ·exact .inr (.inl hb)
    ·exact .inr (.inr ((f3 i hb).elim id (fun h=>by omega)))
   ·rcases f4 b hb with h1 | h1
    ·exact f3 b h1
    ·have:=X3.size;right;omega
   ·rw [vE hc (by omega)]
    show ((ks.length:Int) - ((j+1:Nat):Int)).toNat<((ks.length:Int) - (j:Int)).toNat
    omega
  ·have hc:j=ks.length:=by have:=of_decide_eq_false hc;omega
   subst hc
   have es:sj ks.length=Sp.uQ L n (Sp.nodeOf L t).b (Sp.uQ L n (Sp.nodeOf L t).a (Sp.upd st.1 t true,st.2)):=by
    rw [← Sp.jNT hW hin,hks0];simp only [sj,List.take_length]
   simp only at hK hR
   rw [← es] at hK hR
   generalize sj ks.length=s3 at *
   refine ⟨so3,A3.b4.cell0,?_⟩
   intro p1 w4 h4
   have E4:Pure w3 w4:=Ext.new h4
   have hfew:s3.2.length≤65536:=by have:=Sp.jEF g1.nd g1.inp;have:=hW.ok.few;omega
   obtain ⟨s1',w5,hr5,R5,X5,f5⟩:=(A3.out.pure E4).append (P:=prog) (ty:=137) (c:=1) slT_tm (r:=[.int .i64 t]) (Box.of_new h4).row rfl rfl (by rw [tR];omega) (by rw [tR];simp [maxLen];omega)
   have b5:=(A3.b4.pure E4).ext X5 (fun hb=>(A3.ns _ hb).2.2.2.1 rfl)
   refine ⟨s1',w5,hr5,b5.canW0 (by simp),?_⟩
   intro w6 h6
   have E6:Ext (·=c4.block) w5 w6:=by rw [h6];exact Ext.setCell c4 _
   have b6:Box w6 c4 [s1'.v] 137:=by rw [h6];exact b5.set0
   have z1:=E1.size
   have z2:=E2.size
   have z3:=X3.size
   have z4:=E4.size
   have f5':∀b,s1'.blk b→so3.blk b∨w3.heap.size≤b:=fun b hb=>(f5 b hb).imp_right (fun h=>by omega)
   have ns':∀b,s1'.blk b→b≠c1.block∧b≠c2.block∧b≠c3.block∧b≠c4.block∧b≠m:=fun b hb=>(f5' b hb).elim (A3.ns b) (fun hh=>by
    have q1:=A3.b1.lt;have q2:=A3.b2.lt;have q3:=A3.b3.lt;have q4:=A3.b4.lt;have q5:m<w3.heap.size:=by obtain ⟨M',hM',_⟩:=A3.mp;exact hM'.lt
    exact ⟨by omega,by omega,by omega,by omega,by omega⟩)
   have up:∀{T:TypeId} {c:Addr} {vs:List Value},Box w3 c vs T→¬ so3.blk c.block→c.block≠c4.block→Box w6 c vs T:=fun h h1 h2=>((h.pure E4).ext X5 h1).ext E6 h2
   refine hK s1' w6 ⟨up A3.b1 (fun hb=>(A3.ns _ hb).1 rfl) A3.n4.1.symm,up A3.b2 (fun hb=>(A3.ns _ hb).2.1 rfl) A3.n4.2.1.symm,up A3.b3 (fun hb=>(A3.ns _ hb).2.2.1 rfl) A3.n4.2.2.1.symm,b6,?_,?_,((A3.pool.pure E4).ext X5 (fun b hb=>(A3.nf b hb).2.2)).ext E6 (fun b hb e=>(A3.nf b hb).1 e),A3.n4,A3.nm,ns',fun b hb=>⟨(A3.nf b hb).1,(A3.nf b hb).2.1,fun hh=>(f5' b hh).elim (A3.nf b hb).2.2 (fun hh=>by have:=A3.pool.lt hb;omega)⟩⟩ ?_ ?_
   ·obtain ⟨M',hM',hV'⟩:=A3.mp
    exact ⟨M',((hM'.pure E4).ext X5 (fun hb=>(A3.ns _ hb).2.2.2.2 rfl)).ext E6 A3.n4.2.2.2.symm,hV'⟩
   ·show Rws _ _ _ _ (tmr (s3.2++[t]))
    rw [show tmr (s3.2++[t])=tmr s3.2++[[.int .i64 t]] by simp [tmr]]
    exact R5.ext E6 (fun b hb e=>(ns' b hb).2.2.2.1 e)
   ·have f33:∀b,so3.blk b→b<w0.heap.size→so.blk b:=fun b hb hlt=>(f3 b hb).elim id (fun h2=>by omega)
    refine (((E1.mono (fun b _ hb=>.inr (.inl hb))).thenPure E2).trans X3).trans' ((E4.pure (F:=WkF c4 m so3)).trans ((X5.mono (fun b _ hb=>.inr (.inr hb))).trans (E6.mono (fun b _ e=>.inl e)))) (fun i hi hb=>?_)
    rcases hb with hb | hb | hb
    ·exact .inl hb
    ·exact .inr (.inl hb)
    ·exact .inr (.inr (f33 i hb hi))
   ·intro b hb
    rcases f5' b hb with h1 | h1
    ·exact (f3 b h1).imp_right (fun h=>by omega)
    ·right;omega
 ·have hyes':t∈M:=by have:=jCJ hyes;simp [jUK] at this;exact this
  have hv:st.1 t=true:=by rw [hV];simpa using hyes'
  rw [Sp.uQ,if_neg (by simp [hv])] at hK
  refine ⟨some m,h.b1.cell0,1,hl,Br.t (by simp) ?_⟩
  exact hK so w0 h (Ext.refl _) (fun b hb=>.inl hb)
theorem c_subs (p:Addr) (t:Int) (w0:World) {L:Sp.Pool} {FP:NP} (hW:Sp.Wf L) (hP:zT w0 p L FP) :
  Calls prog 199 #[.pointer (some p),.int .i64 t] w0 (fun e w'=>∃r:Sl,e=.returned r.v∧RetO w0 23 1 (tmr (Sp.subs L t)) r w'):=by
 refine w_W2 _ _ w0 (fun r w'=>RetO w0 23 1 (tmr (Sp.subs L t)) r w') ?_
 unfold m_W2
 intro p2 w1 h1 p3 w2 h2 p4 w3 h3 p5 w4 h4
 have B2:=Box.of_new h1
 have B3:=Box.of_new h2
 have M4:=IMap.of_new (f:=one1) h3
 have B5:=Box.of_new h4
 have E1:Pure w0 w1:=Ext.new h1
 have E2:Pure w1 w2:=Ext.new h2
 have E3:Pure w2 w3:=Ext.new h3
 have E4:Pure w3 w4:=Ext.new h4
 have s1:=h1.at_size;have s2:=h2.at_size;have s3:=h3.at_size;have s4:=h4.at_size
 have z1:=E1.size;have z2:=E2.size;have z3:=E3.size;have z4:=E4.size
 have l1:=B2.lt;have l2:=B3.lt;have l3:=M4.lt;have l4:=B5.lt
 refine ⟨B5.canW0 (by simp),fun w5 h5=>?_⟩
 have E5:Ext (·=p5.block) w4 w5:=by rw [h5];exact Ext.setCell p5 _
 have B5':Box w5 p5 [.map (some p4.block)] 205:=by rw [h5];exact B5.set0
 intro p6 w6 h6
 have B6:=Box.of_new h6
 have E6:Pure w5 w6:=Ext.new h6
 have s6:=h6.at_size;have z5:=E5.size;have z6:=E6.size;have l6:=B6.lt
 refine ⟨B6.canW0 (by simp),fun w7 h7=>?_⟩
 have E7:Ext (·=p6.block) w6 w7:=by rw [h7];exact Ext.setCell p6 _
 have B6':Box w7 p6 [.func (.func 231) #[] #[.pointer (some p5),.pointer (some p2),.pointer (some p6),.pointer (some p3)]] 267:=by rw [h7];exact B6.set0
 have z7:=E7.size
 have EE:Pure w0 w7:=((((((E1.trans E2).trans E3).trans E4).own (by omega) E5).trans E6).own (by omega) E7)
 have up:∀{T:TypeId} {c:Addr} {vs:List Value},Box w4 c vs T→c.block≠p5.block→c.block≠p6.block→Box w7 c vs T:=fun h h1 h2=>((h.ext E5 h1).pure E6).ext E7 h2
 have hnil:∀b,¬ Sl.nil.blk b:=fun b hb=>by obtain ⟨a,h,_⟩:=hb;cases h
 have A:WkAt w7 p p5 p2 p6 p3 p4.block Sl.nil L FP (fun _=>false,[]) :=
  ⟨(B5'.pure E6).ext E7 (by omega),up (((B2.pure E2).pure E3).pure E4) (by omega) (by omega),B6',up ((B3.pure E3).pure E4) (by omega) (by omega),
  ⟨[],(((M4.pure E4).ext E5 (by omega)).pure E6).ext E7 (by omega),fun x=>by simp⟩,Rws.nil _ _ _,hP.pure EE,⟨by omega,by omega,by omega,by omega⟩,⟨by omega,by omega,by omega⟩,fun b hb=>(hnil b hb).elim,fun b hb=>by
   have:=hP.lt hb;exact ⟨by omega,by omega,hnil b⟩⟩
 refine ⟨some p,A.b2.cell0,?_⟩
 refine (c_in p t w7 A.pool).mono ?_
 rintro _ _ ⟨r1,rfl,rfl,rfl⟩
 refine ⟨_,rfl,fun hc=>?_,fun hc=>?_⟩
 ·refine ⟨_,A.b3.cell0,_,_,_,rfl,call231,?_⟩
  refine (c_walk p p5 p2 p6 p3 p4.block hW (t.toNat+1) t w7 _ Sl.nil (by omega) hc A ⟨by simp,by simp,by simp,by simp⟩ (by simp)).mono ?_
  rintro _ w8 ⟨rfl,so,A8,X8,f8⟩
  refine ⟨rfl,so,A8.b4.cell0,A8.out,fun b hb=>?_,EE.trans' X8 (fun i hi hb=>?_)⟩
  ·rcases f8 b hb with h | h
   ·exact (hnil b h).elim
   ·omega
  ·rcases hb with hb | hb | hb
   ·omega
   ·omega
   ·exact hnil _ hb
 ·have : Sp.subs L t = [] := by
   unfold Sp.subs;rw [Sp.uQ,if_neg (by simp [hc])]
  rw [this]
  exact ⟨Sl.nil,A.b4.cell0,Rws.nil _ _ _,fun b hb=>(hnil b hb).elim,EE⟩
theorem jRH (p:Addr) (t:Int) (w0:World):Calls prog 139 #[.pointer (some p),.int .i64 t] w0 (fun e w'=>∃r:Value,e=.returned r∧∃p2 p3:Addr,r=.func (.func 198) #[] #[.pointer (some p2),.pointer (some p3)]∧Box w' p2 [.pointer (some p)] 29∧Box w' p3 [.int .i64 t] 23∧Pure w0 w'):=by
 refine w_S2 _ _ w0 (fun r w'=>∃p2 p3:Addr,r=.func (.func 198) #[] #[.pointer (some p2),.pointer (some p3)]∧Box w' p2 [.pointer (some p)] 29∧Box w' p3 [.int .i64 t] 23∧Pure w0 w') ?_;unfold m_S2;intro p2 w1 h1 p3 w2 h2;exact ⟨p2,p3,rfl,(Box.of_new h1).pure (Ext.new h2),Box.of_new h2,(show Pure w0 w1 from Ext.new h1).trans (Ext.new h2)⟩
theorem jLL {p p2 p3:Addr} {t:Int} {w0:World} {L:Sp.Pool} {FP:NP} (hW:Sp.Wf L) (hP:zT w0 p L FP) (B2:Box w0 p2 [.pointer (some p)] 29) (B3:Box w0 p3 [.int .i64 t] 23) :
  jRM prog 198 #[.pointer (some p2),.pointer (some p3)] (fun z:Int=>#[.int .i64 z]) (Sp.subs L t) (fun _=>True) w0:=by
 intro l J Jx W E _ hJ hJx hyield h0
 refine (w_U1 (.func (.yield l) #[] #[]) p2 p3 W (fun A=>∃X,Hst W X A X A∧(J (Sp.subs L t) X A∨∃pre,Jx pre X A)) ?_).mono (fun e A h=>⟨⟨_,h.1⟩,h.2⟩)
 unfold m_U1
 refine ⟨some p,(B2.pure E).cell0,t,(B3.pure E).cell0,?_⟩
 refine (c_subs p t W hW (hP.pure E)).mono ?_
 rintro _ w1 ⟨r,rfl,hr⟩
 refine ⟨_,rfl,?_⟩
 generalize hxs:Sp.subs L t=xs at *
 have hfew:xs.length≤65536:=by rw [← hxs];have:=Sp.jBW hW t;have:=hW.ok.few;omega
 have hs1:Hst W None W (fun b=>W.heap.size≤b∧b<w1.heap.size) w1:=⟨hr.pure.pure,fun _ h=>h.elim,fun b h=>.inr h.1,fun b h=>h.1,fun b h=>h.2,hr.pure.size⟩
 have hX:∀b,r.blk b→W.heap.size≤b∧b<w1.heap.size:=fun b hb=>⟨hr.own b hb,hr.rows.lt hb⟩
 refine ⟨fun x A=>∃j:Nat,x=j∧j≤xs.length∧Hst W (fun b=>W.heap.size≤b∧b<w1.heap.size) A (fun b=>W.heap.size≤b∧b<w1.heap.size) A∧J (xs.take j) (fun b=>W.heap.size≤b∧b<w1.heap.size) A∧Rws A 23 1 r (tmr xs),fun x _=>((xs.length:Int) - x).toNat,⟨0,rfl,Nat.zero_le _,hs1.here,hJ _ _ _ _ _ h0 hs1,hr.rows⟩,?_⟩
 rintro _ A ⟨j,rfl,hj,hA,hJA,hRA⟩
 unfold m_U1_l1
 have hlen:r.len=xs.length:=by rw [hr.rows.len,tR]
 refine ⟨fun hc=>?_,fun hc=>?_⟩
 ·have hc:j<xs.length:=by have:=of_decide_eq_true hc;omega
  obtain ⟨a,hat,_,hv⟩:=jPF hRA.lst hc
  refine ⟨a,hat,_,hv,l,rfl,?_⟩
  refine (hyield (xs.take j) xs[j] _ A hJA hA ⟨xs.drop (j+1),by rw [← List.drop_eq_getElem_cons hc,List.take_append_drop]⟩).mono ?_
  rintro e A' (⟨rfl,hk,hJ'⟩ | ⟨rfl,hk,hJ'⟩)
  ·refine ⟨_,rfl,Br.f rfl ⟨⟨j+1,vE hc (by omega),hc,hA.again hk,by rw [List.take_succ_eq_append_getElem hc];exact hJ',hRA.kept hk hX⟩,?_⟩⟩
   rw [vE hc (by omega)]
   show ((xs.length:Int) - ((j+1:Nat):Int)).toNat<((xs.length:Int) - (j:Int)).toNat
   omega
  ·exact ⟨_,rfl,Br.t rfl ⟨_,hA.again hk,.inr ⟨_,hJ'⟩⟩⟩
 ·have hc:j=xs.length:=by have:=of_decide_eq_false hc;omega
  subst hc
  rw [List.take_length] at hJA
  exact ⟨_,hA,.inl hJA⟩
end Go.Proofs
end
section
open Go Go.SE
namespace Go.Proofs
open Tryz
attribute [local irreducible] Calls CallsD
theorem jTN {w:World} {e:TypeId} {sz:Nat} {s:Sl} {rs:List (List Value)} (h:Rws w e sz s rs):s.a=none→s=Sl.nil:=by
 intro ha;rcases h.own with ⟨h,_⟩ | ⟨g,cur,h,_⟩
 ·exact h
 ·rw [ha] at h;cases h
theorem jTD (f:Fld):∀args w,(callFunc f.put args).run prog w=.ok (.enter f.put args) w:=by
 cases f
 ·exact call182
 ·exact call186
 ·exact call188
 ·exact call190
 ·exact call194
 ·exact call196
theorem jQT {P:Program} {T K E Q:TypeId} {w:World} {m:Nat} {es:List (Value×Value)} (h:CMap w m es) (hT:P.underlying T=some (.map K E)):(Builtin.len_ #[T] Q #[.map (some m)]).run P w=.ok (.int .i64 (es.length:Int)) w:=by
 obtain ⟨arr,clock,hm,rfl,_,_⟩:=h.ex;have hg:(getObj m).run P w=.ok (.map arr clock) w:=by simp [getObj,Sem.run,hm]
 simp [Builtin.len_,run_underlying hT,hg,goInt]
theorem jSW {n:Sp.Node} (h:Fld.fst∈uI n.kind):n.a∈Sp.zM n:=by
 unfold uI at h;unfold Sp.zM Sp.shapeOf
 repeat' split at h
 all_goals first | (exfalso;revert h;decide) | skip
 all_goals (rename_i h1;rw [h1];simp)
theorem jSV {n:Sp.Node} (h:Fld.snd∈uI n.kind):n.b∈Sp.zM n:=by
 unfold uI at h;unfold Sp.zM Sp.shapeOf
 repeat' split at h
 all_goals first | (exfalso;revert h;decide) | skip
 all_goals (rename_i h1;rw [h1];simp)
structure LaySep (p2 p3 p4 p6:Addr) (m mb:Nat) (FP F:NP) (B:Nat):Prop where
 lt:p2.block<B∧p3.block<B∧p4.block<B∧p6.block<B∧m<B∧mb<B
 lF:∀b,F b→b<B
 lP:∀b,FP b→b<B
 d3:p2.block≠p3.block∧p4.block≠p3.block∧p6.block≠p3.block∧mb≠p3.block∧m≠p3.block∧¬ F p3.block∧¬ FP p3.block
 db:p2.block≠mb∧p4.block≠mb∧p6.block≠mb∧m≠mb∧¬ F mb∧¬ FP mb
def LayV (p2 p3 p4 p6:Addr) (m mb:Nat) (FP F:NP) (s:Sl) (b:Nat):Prop :=
 b=p2.block∨b=p3.block∨b=p4.block∨b=p6.block∨b=m∨b=mb∨F b∨FP b∨s.blk b
structure LayAt (A:World) (p p2 p3 p4 p6:Addr) (m mb:Nat) (L:Sp.Pool) (FP F:NP) (s:Sl) (bs:List UInt8) (M:List (Int×Int)):Prop where
 b2:Box A p2 [.pointer (some p)] 29
 b3:Box A p3 [s.v] 54
 b4:Box A p4 [.map (some m)] 203
 b6:Box A p6 [.map (some mb)] 205
 rows:Rws A 5 1 s (byr bs)
 nums:IMap (fun i:Int=>.int .i64 i) A mb M
 kinds:Kinds A m F
 pool:zT A p L FP
section
variable {A A':World} {p p2 p3 p4 p6:Addr} {m mb B:Nat} {L:Sp.Pool} {FP F G:NP} {s s':Sl} {bs bs':List UInt8} {M:List (Int×Int)}
theorem LayAt.ext (h:LayAt A p p2 p3 p4 p6 m mb L FP F s bs M) (E:Ext G A A') (hG:∀b,LayV p2 p3 p4 p6 m mb FP F s b→¬ G b):LayAt A' p p2 p3 p4 p6 m mb L FP F s bs M :=
 ⟨h.b2.ext E (hG _ (.inl rfl)),h.b3.ext E (hG _ (.inr (.inl rfl))),h.b4.ext E (hG _ (.inr (.inr (.inl rfl)))),h.b6.ext E (hG _ (.inr (.inr (.inr (.inl rfl))))),
 h.rows.ext E (fun b hb=>hG b (.inr (.inr (.inr (.inr (.inr (.inr (.inr (.inr hb))))))))),h.nums.ext E (hG _ (.inr (.inr (.inr (.inr (.inr (.inl rfl))))))),
 h.kinds.ext E (fun b hb=>hb.elim (fun hb=>hG b (.inr (.inr (.inr (.inr (.inr (.inr (.inl hb)))))))) (fun e=>hG b (.inr (.inr (.inr (.inr (.inl e))))))),
 h.pool.ext E (fun b hb=>hG b (.inr (.inr (.inr (.inr (.inr (.inr (.inr (.inl hb)))))))))⟩
theorem LayAt.pure (h:LayAt A p p2 p3 p4 p6 m mb L FP F s bs M) (E:Pure A A'):LayAt A' p p2 p3 p4 p6 m mb L FP F s bs M:=h.ext E (fun _ _ h=>h)
theorem LayAt.lt (h:LayAt A p p2 p3 p4 p6 m mb L FP F s bs M) {b:Nat} (hb:LayV p2 p3 p4 p6 m mb FP F s b):b<A.heap.size:=by
 rcases hb with rfl | rfl | rfl | rfl | rfl | rfl | hb | hb | hb
 ·exact h.b2.lt
 ·exact h.b3.lt
 ·exact h.b4.lt
 ·exact h.b6.lt
 ·exact h.kinds.mlt
 ·exact h.nums.lt
 ·exact h.kinds.lt _ hb
 ·exact h.pool.lt hb
 ·exact h.rows.lt hb
theorem LayAt.put (h:LayAt A p p2 p3 p4 p6 m mb L FP F s bs M) (S:LaySep p2 p3 p4 p6 m mb FP F B) (hs:∀b,s.blk b→B≤b) (hs':∀b,s'.blk b→B≤b) (E:Ext s.blk A A') (hR:Rws A' 5 1 s' (byr bs')) :
  LayAt (A'.setCell p3 s'.v) p p2 p3 p4 p6 m mb L FP F s' bs' M∧Ext (fun b=>s.blk b∨b=p3.block) A (A'.setCell p3 s'.v):=by
 have E2:Ext (·=p3.block) A' (A'.setCell p3 s'.v):=Ext.setCell p3 _
 have EE:Ext (fun b=>s.blk b∨b=p3.block) A (A'.setCell p3 s'.v):=(E.mono (fun b _ h=>.inl h)).trans (E2.mono (fun b _ h=>.inr h))
 obtain ⟨l2,l3,l4,l6,lm,lb⟩:=S.lt
 obtain ⟨d2,d4,d6,d7,d8,d9,d10⟩:=S.d3
 have ns:∀b,b<B→¬ s.blk b:=fun b hb hh=>by have:=hs b hh;omega
 have b3:=(h.b3.ext E (ns _ l3)).set0 (v:=s'.v)
 refine ⟨⟨h.b2.ext EE ?_,b3,h.b4.ext EE ?_,h.b6.ext EE ?_,hR.ext E2 (fun b hb e=>by have:=hs' b hb;omega),h.nums.ext EE ?_,h.kinds.ext EE ?_,h.pool.ext EE ?_⟩,EE⟩
 ·rintro (hh | hh)
  ·exact ns _ l2 hh
  ·exact d2 hh
 ·rintro (hh | hh)
  ·exact ns _ l4 hh
  ·exact d4 hh
 ·rintro (hh | hh)
  ·exact ns _ l6 hh
  ·exact d6 hh
 ·rintro (hh | hh)
  ·exact ns _ lb hh
  ·exact d7 hh
 ·rintro b (hb | rfl) (hh | hh)
  ·exact ns _ (S.lF b hb) hh
  ·subst hh;exact d9 hb
  ·exact ns _ lm hh
  ·exact d8 hh
 ·rintro b hb (hh | hh)
  ·exact ns _ (S.lP b hb) hh
  ·subst hh;exact d10 hb
end
theorem c_lay (p:Addr) (t:Int) (w0:World) {L:Sp.Pool} {FP:NP} (hW:Sp.Wf L) (hN:Sp.jAQ L) (hP:zT w0 p L FP) :
  Calls prog 98 #[.pointer (some p),.int .i64 t] w0 (fun e w'=>∃r:Sl,e=.returned r.v∧RetO w0 5 1 (byr (jBU L t)) r w'):=by
 refine w_Q1 _ _ w0 (fun r w'=>RetO w0 5 1 (byr (jBU L t)) r w') ?_
 unfold m_Q1
 intro p2 w1 h1 p3 w2 h2
 have E1:Pure w0 w1:=Ext.new h1
 have E2:Pure w1 w2:=Ext.new h2
 have B2:=(Box.of_new h1).pure E2
 have B3:=Box.of_new h2
 have s1:=h1.at_size;have s2:=h2.at_size;have l2:=(Box.of_new h1).lt;have l3:=B3.lt;have z1:=E1.size;have z2:=E2.size
 refine (jRE w2).mono ?_
 rintro _ w3 ⟨_,rfl,m,F,rfl,hK,E3,hm,hF⟩
 have z3:=E3.size
 have lm:=hK.mlt
 refine ⟨_,rfl,E3.keptP,?_⟩
 intro p4 w4 h4
 have E4:Pure w3 w4:=Ext.new h4
 have B4:=Box.of_new h4
 have s4:=h4.at_size;have l4:=B4.lt;have z4:=E4.size
 refine ⟨B4.canW0 (by simp),fun h=>h,?_⟩
 rintro w5 h5
 have X5:Ext (·=p4.block) w4 w5:=by rw [h5];exact Ext.setCell p4 _
 have B4':Box w5 p4 [.map (some m)] 203:=by rw [h5];exact B4.set0
 have z5:=X5.size
 intro p5 w6 h6
 have E6:Pure w5 w6:=Ext.new h6
 have M5:=IMap.of_new (f:=fun i:Int=>.int .i64 i) h6
 have s6:=h6.at_size;have l5:=M5.lt;have z6:=E6.size
 intro p6 w7 h7
 have E7:Pure w6 w7:=Ext.new h7
 have B6:=Box.of_new h7
 have s7:=h7.at_size;have l6:=B6.lt;have z7:=E7.size
 refine ⟨B6.canW0 (by simp),fun h=>h,?_⟩
 rintro w8 h8
 have X8:Ext (·=p6.block) w7 w8:=by rw [h8];exact Ext.setCell p6 _
 have B6':Box w8 p6 [.map (some p5.block)] 205:=by rw [h8];exact B6.set0
 have z8:=X8.size
 have E08:Pure w0 w8:=((((((E1.trans E2).trans E3).trans E4).own (by omega) X5).trans E6).trans E7).own (by omega) X8
 have P8:=hP.pure E08
 have up:∀{T:TypeId} {c:Addr} {vs:List Value},Box w5 c vs T→c.block≠p6.block→Box w8 c vs T:=fun h h2=>((h.pure E6).pure E7).ext X8 h2
 have up3:∀{T:TypeId} {c:Addr} {vs:List Value},Box w2 c vs T→c.block≠p4.block→c.block≠p6.block→Box w8 c vs T:=fun h h1 h2=>up (((h.pure E3).pure E4).ext X5 h1) h2
 have B28:=up3 B2 (by omega) (by omega)
 have B38:=up3 B3 (by omega) (by omega)
 have B48:=up B4' (by omega)
 have M58:=(M5.pure E7).ext X8 (by omega)
 have hFlt:=hK.lt
 have K8:Kinds w8 m F:=(((((hK.pure E4).ext X5 (fun b hb e=>hb.elim (fun hb=>by have:=hFlt b hb;omega) (fun hb=>by omega))).pure E6).pure E7).ext X8 (fun b hb e=>hb.elim (fun hb=>by have:=hFlt b hb;omega) (fun hb=>by omega)))
 refine ⟨some p,B28.cell0,?_⟩
 refine (jRH p t w8).mono ?_
 rintro _ w9 ⟨_,rfl,q2,q3,rfl,Bq2,Bq3,E9⟩
 have z9:=E9.size
 have E09:=E08.trans E9
 refine ⟨_,rfl,E9.keptP,_,_,rfl,call198,_,_,jLL hW (P8.pure E9) Bq2 Bq3,?_⟩
 have hPlt:∀b,FP b→b<w0.heap.size:=fun b hb=>hP.lt hb
 have S:LaySep p2 p3 p4 p6 m p5.block FP F w9.heap.size:=⟨⟨by omega,by omega,by omega,by omega,by omega,by omega⟩,fun b hb=>by have:=hFlt b hb;omega,fun b hb=>by have:=hPlt b hb;omega,
  ⟨by omega,by omega,by omega,by omega,by omega,fun hb=>by have:=hF _ hb;omega,fun hb=>by have:=hPlt _ hb;omega⟩,⟨by omega,by omega,by omega,by omega,fun hb=>by have:=hFlt _ hb;omega,fun hb=>by have:=hPlt _ hb;omega⟩⟩
 have A9:LayAt w9 p p2 p3 p4 p6 m p5.block L FP F Sl.nil [] []:=⟨B28.pure E9,B38.pure E9,B48.pure E9,B6'.pure E9,Rws.nil _ _ _,M58.pure E9,K8.pure E9,P8.pure E9⟩
 have hnil:∀b,¬ Sl.nil.blk b:=fun b hb=>by obtain ⟨a,h,_⟩:=hb;cases h
 have hfew:=Sp.jBW hW t
 have hsub:∀u∈Sp.subs L t,Sp.inP L u=true:=fun u hu=>have h:=(Sp.jHG hW).1 hu;(Sp.Sub.le hW h.1 h.2).1
 have hord:=Sp.jMA hW t
 have hnd:=Sp.jGM hW t
 have htx:jBU L t=textFrom L [] (Sp.subs L t):=rfl
 rw [htx]
 generalize hxs:Sp.subs L t=xs at *
 have hL:=hW.ok.few
 generalize hB:w9.heap.size=B at *
 have hw3:w0.heap.size≤p3.block:=by omega
 have hw5:w0.heap.size≤p5.block:=by omega
 have hwB:w0.heap.size≤B:=by omega
 generalize p5.block=mb at *
 clear up up3 B28 B38 B48 M58 K8 P8 B2 B3 B4 B4' M5 B6 B6' X5 X8 E1 E2 E3 E4 E6 E7 h1 h2 h4 h5 h6 h7 h8 hK hF hFlt Bq2 Bq3
 refine ⟨fun pre Y A=>∃s:Sl,LayAt A p p2 p3 p4 p6 m mb L FP F s (textFrom L [] pre) (yW 0 pre)∧(∀b,s.blk b→B≤b)∧(∀b,LayV p2 p3 p4 p6 m mb FP F s b→¬ Y b)∧B≤A.heap.size∧Pure w0 A,⟨fun _ _ _ _=>trivial,?_,fun _ _ _ _ _ h=>h.elim,fun _ _ _ _ _ h=>h.elim⟩,?_,?_,?_⟩
 ·rintro pre Y A Y' A' ⟨s,hA,hs,hv,hz,hE⟩ hst
  have hv':∀b,LayV p2 p3 p4 p6 m mb FP F s b→¬ Y' b:=hst.disj (fun b hb=>⟨hA.lt hb,hv b hb⟩)
  exact ⟨s,hA.ext hst.ext hv',hs,hv',Nat.le_trans hz hst.ext.size,hE.hst hst⟩
 ·exact ⟨Sl.nil,A9,fun b hb=>(hnil b hb).elim,fun b _ h=>h,by omega,E09⟩
 ·rintro pre z Y A ⟨s,hA,hs,hv,hz,hE⟩ hsA ⟨post,hpost⟩
  have hzin:Sp.inP L z=true:=hsub z (by rw [hpost];simp)
  have hprein:∀u∈pre,Sp.inP L u=true:=fun u hu=>hsub u (by rw [hpost];simp [hu])
  have hplen:pre.length<65536:=by have:=congrArg List.length hpost;simp only [List.length_append,List.length_cons] at this;omega
  have hzn:z ∉ pre:=by
   rw [hpost] at hnd;have:=(List.nodup_append.1 hnd).2.2;exact fun h=>this z h z (by simp) rfl
  have hbs:=jIL hW hN pre [] hprein (by simp only [List.length_nil];omega)
  refine ⟨some p,hA.b2.cell0,?_⟩
  refine (jKF p z A hA.pool hW.ok).mono ?_
  rintro _ w10 ⟨k,r,t',u,x,a,b,r3,rfl,⟨hn,_⟩,E10⟩
  refine ⟨_,_,_,_,_,_,_,_,rfl,E10.keptP,fun H1 w12 hs12=>?_⟩
  obtain ⟨k1,k9,f0,f1,t0,t1,x1⟩:=Sp.jMS hW hzin
  have hnum:=hN.node z
  have hko:=hord pre z post hpost
  have hnt:uY L pre z=UInt8.ofNat k.toNat :: (uI k).flatMap (Fld.bytes ⟨k,r,t',u,x,a,b⟩ (posOf pre a) (posOf pre b)):=by rw [uY,← hn]
  rw [← hn] at k1 k9 f0 f1 t0 t1 x1 hnum hko
  simp only at k1 k9 f0 f1 t0 t1 x1 hnum
  have hold:∀b,H1 b→A.heap.size≤b:=hs12.old
  have A12:=(hA.pure E10).ext hs12.ext (fun b hb hh=>by have:=hold b hh;have:=hA.lt hb;omega)
  have E012:Pure w0 w12:=(hE.trans E10).trans' hs12.ext (fun i hi hh=>by have:=hold i hh;have:=hE.size;omega)
  have k12:Kept Y A w12:=(E10.keptP).trans (hs12.ext.kept (fun b hb hh=>by have:=hold b hh;have:=hsA.lt b hb;omega))
  have z10:=E10.size
  have z12:=hs12.ext.size
  refine ⟨s,A12.b3.cell0,fun p8 w13 h8=>?_⟩
  have E13:Pure w12 w13:=Ext.new h8
  have A13:=A12.pure E13
  have z13:=E13.size
  obtain ⟨kn,rfl⟩:∃kn:Nat,k=kn:=⟨k.toNat,by omega⟩
  simp only [Int.toNat_natCast] at hnt
  rw [jCT] at h8
  obtain ⟨s1,w14,hr,hR,hEx,hb⟩:=A13.rows.append (P:=prog) (ty:=54) (c:=1) jEY (Box.of_newA h8).row rfl rfl (by rw [qA];omega) (by rw [qA];simp only [maxLen];omega)
  have hs1:∀b,s1.blk b→B≤b:=fun b hh=>(hb b hh).elim (hs b) (fun h=>by omega)
  have hy1:∀b,s1.blk b→¬ Y b:=fun b hh hY=>(hb b hh).elim (fun h=>hv b (.inr (.inr (.inr (.inr (.inr (.inr (.inr (.inr h)))))))) hY) (fun h=>by have:=hsA.lt b hY;omega)
  have h3A:p3.block<A.heap.size:=hA.b3.lt
  have hH3:¬ H1 p3.block:=fun h=>by have:=hold _ h;omega
  have hHs:∀b,H1 b→¬ s.blk b:=fun b hh hb=>by have:=hold b hh;have:=hA.rows.lt hb;omega
  have hY3:¬ Y p3.block:=hv _ (.inr (.inl rfl))
  have hYs:∀b,Y b→¬ s.blk b:=fun b hY hb=>hv b (.inr (.inr (.inr (.inr (.inr (.inr (.inr (.inr hb)))))))) hY
  refine ⟨s1,w14,hr,hEx.kept hHs,((A13.b3.ext hEx (fun hb=>by have:=hs _ hb;have:=S.lt;omega)).canW0 (by simp)),hH3,?_⟩
  rintro w15 h15
  have hR':Rws w14 5 1 s1 (byr (textFrom L [] pre++[UInt8.ofNat kn])):=by rw [jLY];exact hR
  obtain ⟨A15,X15⟩:=A13.put S hs hs1 hEx hR'
  rw [← h15] at A15 X15
  have E015:Pure w0 w15:=(E012.trans E13).trans' X15 (fun i hi hh=>hh.elim (fun hh=>by have:=hs _ hh;omega) (fun hh=>by omega))
  have k15:Kept Y A w15:=(k12.trans E13.keptP).trans (X15.kept (fun b hY hh=>hh.elim (hYs b hY) (fun e=>by subst e;exact hY3 hY)))
  have z15:=X15.size
  obtain ⟨fs,hlk,hLf⟩:=A15.kinds.get kn k1 k9 false
  refine ⟨some m,A15.b4.cell0,fs,hlk,?_⟩
  have hfl3:=jHR kn
  refine ⟨fun y H w=>∃(j:Nat) (s:Sl),y=j∧j≤(uI kn).length∧H=H1∧LayAt w p p2 p3 p4 p6 m mb L FP F s (textFrom L [] pre++UInt8.ofNat kn :: ((uI kn).take j).flatMap (Fld.bytes ⟨kn,r,t',u,x,a,b⟩ (posOf pre a) (posOf pre b))) (yW 0 pre)∧Lst F w 2 fs ((uI kn).map Fld.row)∧(∀b,s.blk b→B≤b)∧(∀b,s.blk b→¬ Y b)∧Kept Y A w∧Pure w0 w∧A.heap.size≤w.heap.size,fun y _=>(((uI kn).length:Int) - y).toNat,⟨0,s1,rfl,Nat.zero_le _,rfl,by simpa using A15,hLf,hs1,hy1,k15,E015,by omega⟩,?_⟩
  rintro _ _ wl hst ⟨j,s2,rfl,hj,rfl,A2,hL2,hs2,hy2,k2,E2,z2⟩
  unfold m_Q1_l1
  have hlen:fs.len=(uI kn).length:=by rw [hL2.len,List.length_map]
  refine ⟨fun hc=>?_,fun hc=>?_⟩
  ·have hc:=uC hlen hc
   obtain ⟨a1,hat,hF1,hrow⟩:=hL2.at_ j (by simpa using hc)
   rw [List.getElem_map] at hrow
   refine ⟨a1,hat,.func (.func (uI kn)[j].put) #[] #[],.func (.func (uI kn)[j].get) #[] #[],hrow,fun p9 w16 h9=>?_⟩
   have E16:Pure wl w16:=Ext.new h9
   have B9:=Box.of_newA h9
   have s9:=h9.at_size
   have z16:=E16.size
   refine ⟨⟨rfl,B9.canWs (by simp)⟩,fun hh=>by have:=hst.lt _ hh;omega,?_⟩
   rintro w17 h17
   have X17:Ext (·=p9.block) w16 w17:=by rw [h17];exact Ext.storeRow _ _ _
   have B9':Box w17 p9 [.func (.func (uI kn)[j].put) #[] #[],.func (.func (uI kn)[j].get) #[] #[]] 213:=by rw [h17];exact B9.store rfl
   have A17:=(A2.pure E16).ext X17 (fun b hb e=>by have:=A2.lt hb;omega)
   have L17:=(hL2.pure E16).ext X17 (fun b hb e=>by have:=A2.kinds.lt b hb;omega)
   have z17:=X17.size
   have E017:Pure w0 w17:=(E2.trans E16).own (by have:=E2.size;omega) X17
   have k17:Kept Y A w17:=(k2.trans E16.keptP).trans (X17.kept (fun b hY e=>by have:=hsA.lt b hY;omega))
   refine ⟨_,B9'.cell0,s2,A17.b3.cell0,some mb,A17.b6.cell0,_,#[],#[],rfl,jTD _,?_⟩
   simp only [Array.empty_append,Array.append_empty]
   have hbl:=jJL (Fld.bytes ⟨kn,r,t',u,x,a,b⟩ (posOf pre a) (posOf pre b)) 74 ((uI kn).take j) (fun f _=>jQK _ _ _ f f1 t1 hnum x1 (by have:=jAK pre a;omega) (by have:=jAK pre b;omega))
   have hbl2:((uI kn).take j).length≤3:=by rw [List.length_take];omega
   have hbn:(textFrom L [] pre++UInt8.ofNat kn :: ((uI kn).take j).flatMap (Fld.bytes ⟨kn,r,t',u,x,a,b⟩ (posOf pre a) (posOf pre b))).length≤10000000000:=by
    rw [List.length_append,List.length_cons];omega
   refine (c_put (uI kn)[j] s2 _ ⟨kn,r,t',u,x,a,b⟩ (posOf pre a) (posOf pre b) mb (yW 0 pre) w17 A17.rows.lst (jTN A17.rows) hbn ⟨f0,by simp only;omega⟩ ⟨t0,by simp only;omega⟩ hnum (by simp only;omega) A17.nums (fun e=>?_) (fun e=>?_)).mono ?_
   ·have hmem:a∈pre:=hko _ (jSW (n:=⟨kn,r,t',u,x,a,b⟩) (by rw [← e];exact List.getElem_mem _))
    exact ⟨by rw [jDK pre a hmem 0];simp,by have:=jAK pre a;omega⟩
   ·have hmem:b∈pre:=hko _ (jSV (n:=⟨kn,r,t',u,x,a,b⟩) (by rw [← e];exact List.getElem_mem _))
    exact ⟨by rw [jDK pre b hmem 0];simp,by have:=jAK pre b;omega⟩
   rintro _ w18 ⟨r4,rfl,hR4⟩
   have E18:=hR4.pure
   have z18:=E18.size
   refine ⟨r4,rfl,hR4.kept,(A17.b3.pure E18).canW0 (by simp),hH3,?_⟩
   rintro w19 h19
   have hs4:∀b,r4.blk b→B≤b:=fun b hb=>by have:=hR4.own b hb;omega
   have hR5:Rws w18 5 1 r4 (byr (textFrom L [] pre++UInt8.ofNat kn :: ((uI kn).take (j+1)).flatMap (Fld.bytes ⟨kn,r,t',u,x,a,b⟩ (posOf pre a) (posOf pre b)))):=by
    have e:textFrom L [] pre++UInt8.ofNat kn :: ((uI kn).take (j+1)).flatMap (Fld.bytes ⟨kn,r,t',u,x,a,b⟩ (posOf pre a) (posOf pre b))=(textFrom L [] pre++UInt8.ofNat kn :: ((uI kn).take j).flatMap (Fld.bytes ⟨kn,r,t',u,x,a,b⟩ (posOf pre a) (posOf pre b)))++(uI kn)[j].bytes ⟨kn,r,t',u,x,a,b⟩ (posOf pre a) (posOf pre b):=by
     rw [List.take_succ_eq_append_getElem hc,List.flatMap_append];simp
    rw [e];exact hR4.rows
   obtain ⟨A19,X19⟩:=A17.put S hs2 hs4 E18.pure hR5
   rw [← h19] at A19 X19
   have z19:=X19.size
   refine ⟨⟨j+1,r4,vE hc (by omega),hc,trivial,A19,L17.ext X19 (fun b hb hh=>?_),hs4,fun b hb hY=>by have:=hR4.own b hb;have:=hsA.lt b hY;omega,k17.trans (X19.kept (fun b hY hh=>hh.elim (fun h=>hy2 b h hY) (fun e=>by subst e;exact hY3 hY))),E017.trans' X19 (fun i hi hh=>hh.elim (fun hh=>by have:=hs2 _ hh;omega) (fun hh=>by omega)),by omega⟩,?_⟩
   ·rcases hh with hh | hh
    ·have:=hs2 b hh;have:=S.lF b hb;omega
    ·subst hh;exact S.d3.2.2.2.2.2.1 hb
   ·rw [vE hc (by omega)];exact jAU hc
  ·have hc:=uS hlen hj hc
   subst hc
   rw [List.take_length] at A2
   have e:textFrom L [] (pre++[z])=textFrom L [] pre++UInt8.ofNat kn :: (uI kn).flatMap (Fld.bytes ⟨kn,r,t',u,x,a,b⟩ (posOf pre a) (posOf pre b)):=by rw [jBV,List.nil_append,hnt]
   have hlk0:SE.look (yW 0 pre) z=none:=tN.2 (by rw [jJB];exact hzn)
   obtain ⟨w20,hr20,hM20,X20⟩:=A2.nums.put (P:=prog) (T:=205) underlying205 underlying23 hlk0 ((pre.length:Nat):Int)
   have hz3:(Builtin.len_ #[205] 3 #[.map (some mb)]).run prog wl=.ok (.int .i64 ((pre.length:Nat):Int)) wl:=by
    have:=jQT A2.nums.map (P:=prog) (T:=205) (Q:=3) underlying205;rw [List.length_map,jLF] at this;exact this
   have hYb:¬ Y mb:=hv _ (.inr (.inr (.inr (.inr (.inr (.inl rfl))))))
   have kk:∀{H:NP},¬ H mb→Kept H wl w20:=fun h=>X20.kept (fun b hb e=>by subst e;exact h hb)
   have hmbA:mb<A.heap.size:=hA.nums.lt
   refine ⟨some mb,A2.b6.cell0,some mb,A2.b6.cell0,_,hz3,w20,hr20,kk (fun h=>by have:=hold _ h;omega),k2.trans (kk hYb),s2,?_,hs2,fun b hb hY=>?_,by have:=X20.size;have:=E2.size;omega,E2.trans' X20 (fun i hi e=>by omega)⟩
   ·rw [e,jJA,Nat.zero_add]
    obtain ⟨g1,g2,g3,g4,g5,g6⟩:=S.db
    exact ⟨A2.b2.ext X20 g1,A2.b3.ext X20 (fun e=>S.d3.2.2.2.1 e.symm),A2.b4.ext X20 g2,A2.b6.ext X20 g3,A2.rows.ext X20 (fun b hb e=>by have:=hs2 b hb;have:=S.lt;omega),hM20,A2.kinds.ext X20 (fun b hb e=>hb.elim (fun hb=>by subst e;exact g5 hb) (fun hb=>g4 (hb▸e))),A2.pool.ext X20 (fun b hb e=>by subst e;exact g6 hb)⟩
   ·rcases hb with hb | hb | hb | hb | hb | hb | hb | hb | hb
    ·exact hv b (.inl hb) hY
    ·exact hv b (.inr (.inl hb)) hY
    ·exact hv b (.inr (.inr (.inl hb))) hY
    ·exact hv b (.inr (.inr (.inr (.inl hb)))) hY
    ·exact hv b (.inr (.inr (.inr (.inr (.inl hb))))) hY
    ·exact hv b (.inr (.inr (.inr (.inr (.inr (.inl hb)))))) hY
    ·exact hv b (.inr (.inr (.inr (.inr (.inr (.inr (.inl hb))))))) hY
    ·exact hv b (.inr (.inr (.inr (.inr (.inr (.inr (.inr (.inl hb)))))))) hY
    ·exact hy2 b hb hY
 ·rintro H2 w21 hs21 _ _ ⟨s,hA,hs,hv,hz,hE⟩
  refine ⟨s,hA.b3.cell0,fun w22 hs22=>⟨hA.rows.ext hs22.ext (fun b hb=>hv b (.inr (.inr (.inr (.inr (.inr (.inr (.inr (.inr hb))))))))),fun b hb=>by have:=hs b hb;omega,hE.hst hs22⟩⟩
theorem jTK (p:Addr) (t:Int) (w0:World) {L:Sp.Pool} {FP:NP} (hW:Sp.Wf L) (hN:Sp.jAQ L) (hP:zT w0 p L FP) :
  Calls prog 49 #[.pointer (some p),.int .i64 t] w0 (fun e w'=>∃r:Sl,∃n:Int,e=.returned (.tuple #[r.v,.int .i64 n])∧(n=(jOQ L t).2∧RetO w0 5 1 (byr (jOQ L t).1) r w')):=by
 refine w_V3 _ _ w0 (fun r n w'=>n=(jOQ L t).2∧RetO w0 5 1 (byr (jOQ L t).1) r w') ?_
 unfold m_V3
 have hnil:∀b,¬ Sl.nil.blk b:=fun b hb=>by obtain ⟨a,h,_⟩:=hb;cases h
 refine (jKF p t w0 hP hW.ok).mono ?_
 rintro _ w1 ⟨k,r,t',u,x,a,b,r3,rfl,⟨hn,rfl⟩,E1⟩
 refine ⟨_,_,_,_,_,_,_,_,rfl,E1.keptP,fun hc H1 w3 hs3=>?_,fun hc H1 w3 hs3=>?_⟩
 ·have hin:Sp.inP L t=false:=by simpa using hc
  have e:jOQ L t=([],51):=by unfold jOQ;rw [hin];rfl
  rw [e]
  exact ⟨rfl,Rws.nil _ _ _,fun b hb=>(hnil b hb).elim,E1.hst hs3⟩
 ·have hin:Sp.inP L t=true:=by simpa using hc
  have E3:Pure w0 w3:=E1.hst hs3
  refine (c_lay p t w3 hW hN (hP.pure E3)).mono ?_
  rintro _ w4 ⟨r2,rfl,h⟩
  have hl:r2.len=(jBU L t).length:=by rw [h.rows.len,qA]
  refine ⟨r2,rfl,h.kept,fun hc=>?_,fun hc=>?_⟩
  ·have hc:=of_decide_eq_true hc
   have e:jOQ L t=([],1):=by unfold jOQ;rw [hin,if_pos rfl,if_pos (by omega)]
   rw [e]
   exact ⟨rfl,Rws.nil _ _ _,fun b hb=>(hnil b hb).elim,E3.trans h.pure⟩
  ·have hc:=of_decide_eq_false hc
   have e:jOQ L t=(jBU L t,0):=by unfold jOQ;rw [hin,if_pos rfl,if_neg (by omega)]
   rw [e]
   exact ⟨rfl,h.rows,fun b hb=>by have:=h.own b hb;have:=E3.size;omega,E3.trans h.pure⟩
end Go.Proofs
end
section
open Go Go.SE
namespace Go.Proofs
attribute [local irreducible] Calls
section
variable {w w':World} {e:TypeId} {s:Sl} {n:Nat} {V:Int→Bool}
end
end Go.Proofs
end
section
open Go Go.SE
namespace Go.Proofs
attribute [local irreducible] Calls CallsD
structure TxSep (w0:World) (q:Addr) (FR:NP) (s1 r1:Sl) (B:Nat):Prop where
 lR:∀x,FR x→x<B
 lr:∀x,r1.blk x→x<B
 ls:∀x,s1.blk x→x<B∧w0.heap.size≤x∧¬ FR x∧¬ r1.blk x
 base:w0.heap.size≤B
structure TxAt (w0 w:World) (H:NP) (q:Addr) (L:Sp.Pool) (FR:NP) (s1 r1:Sl) (A xs:List Int) (B:Nat) (b:Sl) (bs:List UInt8):Prop where
 pool:qY w q L FR
 at_:Rws w 3 1 s1 (tmr A)
 subs:Rws w 23 1 r1 (tmr xs)
 rows:Rws w 5 1 b (byr bs)
 pure:Pure w0 w
 hB:∀x,H x→B≤x∧x<w.heap.size
 own:∀x,b.blk x→B≤x∧¬ H x
 lt:B≤w.heap.size
section
variable {w0 w w':World} {H H':NP} {q:Addr} {L:Sp.Pool} {FR:NP} {s1 r1:Sl} {A xs:List Int} {B:Nat} {b b':Sl} {bs bs':List UInt8}
theorem TxAt.hst (h:TxAt w0 w H q L FR s1 r1 A xs B b bs) (S:TxSep w0 q FR s1 r1 B) (hs:Hst w0 H w H' w'):TxAt w0 w' H' q L FR s1 r1 A xs B b bs:=by
 have hB':∀x,H' x→B≤x:=fun x hx=>(hs.new x hx).elim (fun h1=>(h.hB x h1).1) (fun h1=>by have:=h.lt;omega);have hv:∀x,b.blk x→¬ H' x:=hs.disj (fun x hx=>⟨h.rows.lt hx,(h.own x hx).2⟩);exact ⟨h.pool.ext hs.ext (fun x hx hh=>by have:=S.lR x hx;have:=hB' x hh;omega),h.at_.ext hs.ext (fun x hx hh=>by have:=S.ls x hx;have:=hB' x hh;omega),h.subs.ext hs.ext (fun x hx hh=>by have:=S.lr x hx;have:=hB' x hh;omega),h.rows.ext hs.ext hv,h.pure.hst hs,fun x hx=>⟨hB' x hx,hs.lt x hx⟩,fun x hx=>⟨(h.own x hx).1,hv x hx⟩,Nat.le_trans h.lt hs.ext.size⟩
theorem TxAt.call (h:TxAt w0 w H q L FR s1 r1 A xs B b bs) (hr:RetO w 5 1 (byr bs') b' w'):TxAt w0 w' H q L FR s1 r1 A xs B b' bs' :=
 ⟨h.pool.pure hr.pure,h.at_.pure hr.pure,h.subs.pure hr.pure,hr.rows,h.pure.trans hr.pure,fun x hx=>⟨(h.hB x hx).1,Nat.lt_of_lt_of_le (h.hB x hx).2 hr.pure.size⟩,fun x hx=>⟨Nat.le_trans h.lt (hr.own x hx),fun hh=>by have:=hr.own x hx;have:=(h.hB x hh).2;omega⟩,Nat.le_trans h.lt hr.pure.size⟩
end
section
variable (w0:World) (q:Addr) {L:Sp.Pool} (hW:Sp.Wf L) (hN:Sp.jAQ L) {FR:NP} {s1 r1:Sl} {A xs:List Int} {B:Nat} (S:TxSep w0 q FR s1 r1 B) (i1:Int) (n:Sp.Node) (na nb:Nat)
include S
end
end Go.Proofs
end
section
open Go Go.SE
namespace Go.Sp
theorem jKH {L:Pool} (h:Wf L) (l:Letter):Wf (Go.Proofs.qL L l).2.2:=by
 unfold Go.Proofs.qL;split
 ·exact h
 ·exact of_wf h _
end Go.Sp
end
section
open Go Go.SE
namespace Go.Sp
open Go.Proofs
def jGB (l:Letter):List UInt8×Int:=if (qL [] l).2.1≠0 then ([],(qL [] l).2.1) else jOQ (qL [] l).2.2 (qL [] l).1
theorem xX {k f t u:Int} {x:ByteArray} {a:Tree} (h:tX u) (ha:NumT a):NumT (.mk k f t u x [a]):=.mk _ _ _ _ _ _ h (fun i hi=>by
 have:i=0:=by simpa using hi
 subst this;exact ha)
theorem xW {k f t u:Int} {x:ByteArray} {a b:Tree} (h:tX u) (ha:NumT a) (hb:NumT b):NumT (.mk k f t u x [a,b]):=.mk _ _ _ _ _ _ h (fun i hi=>by
 have:i=0∨i=1:=by simp at hi;omega
 rcases this with rfl | rfl
 ·exact ha
 ·exact hb)
theorem yJ {k f t u:Int} {x:ByteArray} (h:tX u):NumT (.mk k f t u x []):=.mk _ _ _ _ _ _ h (fun i hi=>by simp at hi)
theorem jFJ:tX 0:=⟨by decide,by decide⟩
theorem jPZ {c:Int} {x:ByteArray} (h:tX c):NumT (vM c x):=xW jFJ (yJ jFJ) (xW jFJ (yJ h) (yJ jFJ))
theorem jLE {l:Letter} (h:tX l.c) (a b:Bool):NumT (vQ l a b):=by
 unfold vQ;have hd:=jPZ (x:=l.text) h;split;· exact xX jFJ hd
 split;· exact xX jFJ hd
 split;· exact xX jFJ (xW jFJ (yJ jFJ) (yJ h))
 split;· exact xX jFJ (xW jFJ (yJ jFJ) (xW jFJ (xX jFJ hd) (xX jFJ hd)))
 split;· exact xX jFJ (xW jFJ (yJ jFJ) (yJ h))
 split;· exact xX jFJ (xW jFJ (yJ jFJ) hd)
 exact xW jFJ (yJ jFJ) (yJ h)
theorem jFX {L:Pool} (hN:jAQ L) {l:Letter} (h:tX l.c):jAQ (qL L l).2.2:=by
 unfold qL;split
 ·exact hN
 ·exact hN.of (jLE h _ _)
end Go.Sp
end
section
open Go Go.SE
namespace Go.Sp
def zY (L:Pool) (t kind:Int):Node×Bool:=if inP L t=true∧(nodeOf L t).kind=kind then (nodeOf L t,false) else (jDM,true)
def zV (L:Pool) (t:Int):(ByteArray×Int)×Bool :=
 (((zY L (zY L t 4).1.a 3).1.text,(zY L t 4).1.b),(zY L t 4).2 || (zY L (zY L t 4).1.a 3).2)
def vH (L:Pool) (t:Int):(Int×ByteArray)×Bool :=
 let g:=zV L t
 let n:=zY L g.1.2 4
 (((zY L n.1.a 2).1.num,(zY L n.1.b 3).1.text),g.2 || n.2 || !decide (g.1.1=jAS) || (zY L n.1.a 2).2 || (zY L n.1.b 3).2)
end Go.Sp
namespace Go.Proofs
open Tryz
attribute [local irreducible] Calls
def jDF (w:World) (q:Option Addr) (L:Sp.Pool) (F:NP):Prop:=match q with
 | some p=>zT w p L F
 | none=>L=[]∧∀b,¬ F b
theorem jDF.ext {G:NP} {w w':World} {p:Option Addr} {L:Sp.Pool} {F:NP} (h:jDF w p L F) (hE:Ext G w w') (hd:∀b,F b→¬ G b):jDF w' p L F:=by
 cases p with
 | none=>exact h
 | some p=>exact zT.ext h hE hd
theorem jDF.pure {w w':World} {p:Option Addr} {L:Sp.Pool} {F:NP} (h:jDF w p L F) (hE:Pure w w'):jDF w' p L F:=h.ext hE (fun _ _ h=>h)
theorem jDF.lt {w:World} {p:Option Addr} {L:Sp.Pool} {F:NP} (h:jDF w p L F) {b:Nat} (hb:F b):b<w.heap.size:=by
 cases p with
 | none=>exact absurd hb (h.2 b)
 | some p=>exact zT.lt h hb
theorem jLX (p:Option Addr) (t:Int) (w:World) {L:Sp.Pool} {F:NP} (hP:jDF w p L F) (hok:Sp.Ok L):Calls prog 61 #[.pointer p,.int .i64 t] w
  (fun e w'=>∃k:Int,∃f:Int,∃t':Int,∃u:Int,∃x:ByteArray,∃a:Int,∃b:Int,∃r:Bool,e=.returned (.tuple #[.agg #[.int .i64 k,.int .i64 f,.int .i64 t',.int .u64 u,.string x,.int .i64 a,.int .i64 b],.bool r])∧(((⟨k,f,t',u,x,a,b⟩:Sp.Node)=Sp.nodeOf L t∧r=Sp.inP L t)∧Pure w w')):=by
 cases p with
 | some p=>exact jKF p t w hP hok
 | none =>
  obtain ⟨rfl,_⟩:=hP
  have hin0:Sp.inP [] t=false:=by cases h:Sp.inP [] t;rfl;have:=Sp.vF.1 h;simp at this;omega
  have hno:Sp.nodeOf [] t=⟨0,0,0,0,⟨#[]⟩,0,0⟩:=by unfold Sp.nodeOf Sp.get;split <;> simp [Sp.jDM]
  rw [hin0,hno]
  refine w_W1 none t w (fun k f t' u x a b r w'=>((⟨k,f,t',u,x,a,b⟩:Sp.Node)=⟨0,0,0,0,⟨#[]⟩,0,0⟩∧r=false)∧Pure w w') ?_
  unfold m_W1
  intro p1 w1 h1
  have E1:Pure w w1:=Ext.new h1
  have b1:=Box.of_new h1
  have hp:=New.own (Ext.refl w) h1
  have hin:Calls prog 115 #[.pointer none,.int .i64 t] w1 (fun e w'=>∃r,e=.returned (.bool r)∧(r=false∧w'=w1)):=by
   refine w_U _ _ w1 (fun r w'=>r=false∧w'=w1) ?_;unfold m_U;have j1:m_U_j1 none t false w1 (fun r w'=>r=false∧w'=w1):=by
    unfold m_U_j1
    first
     | exact Br.f rfl ⟨rfl,rfl⟩
     | exact ⟨rfl,rfl⟩
     | (unfold m_U_j2;exact Br.f rfl ⟨rfl,rfl⟩)
     | (refine Br.f rfl ?_;unfold m_U_j2;exact ⟨rfl,rfl⟩)
   first
    | exact Br.f rfl j1
    | exact Br.t rfl j1
  refine hin.mono ?_
  rintro _ _ ⟨_,rfl,rfl,rfl⟩
  exact ⟨_,rfl,fun h1=>bx 7 b1 rfl rfl (fun w' b E=>⟨_,_,_,_,_,_,_,b.row,⟨rfl,rfl⟩,E1.own hp E⟩),fun h1=>by cases h1⟩
structure ReaderAt (w:World) (r:Addr) (p:Option Addr) (bad:Bool) (L:Sp.Pool) (F:NP):Prop where
 box:Box w r [.pointer p,.bool bad] 141
 pool:jDF w p L F
 ok:Sp.Ok L
 out:¬ F r.block
theorem ReaderAt.pure {w w':World} {r:Addr} {p:Option Addr} {bad:Bool} {L:Sp.Pool} {F:NP} (h:ReaderAt w r p bad L F) (E:Pure w w'):ReaderAt w' r p bad L F:=⟨h.box.pure E,h.pool.pure E,h.ok,h.out⟩
theorem uU (r:Addr) (p:Option Addr) (t kind:Int) (bad:Bool) (w:World) {L:Sp.Pool} {F:NP} (hR:ReaderAt w r p bad L F) :
  Calls prog 88 #[.pointer (some r),.int .i64 t,.int .i64 kind] w
   (fun e w'=>∃k':Int,∃f':Int,∃t':Int,∃u':Int,∃x':ByteArray,∃a':Int,∃b':Int,e=.returned (.agg #[.int .i64 k',.int .i64 f',.int .i64 t',.int .u64 u',.string x',.int .i64 a',.int .i64 b'])∧((⟨k',f',t',u',x',a',b'⟩:Sp.Node)=(Sp.zY L t kind).1∧ReaderAt w' r p (bad || (Sp.zY L t kind).2) L F∧Ext (·=r.block) w w')):=by
 suffices key:∀K:Int→Int→Int→Int→ByteArray→Int→Int→WP,(∀k' f' t' u' x' a' b' w',((⟨k',f',t',u',x',a',b'⟩:Sp.Node)=(Sp.zY L t kind).1∧ReaderAt w' r p (bad || (Sp.zY L t kind).2) L F∧Ext (·=r.block) w w')→K k' f' t' u' x' a' b' w')→m_F2 (some r) t kind w K from
  w_F2 _ _ _ w _ (key _ (fun _ _ _ _ _ _ _ _ h=>h))
 intro K hK
 unfold m_F2
 intro p1 w1 h1
 have E1:Pure w w1:=Ext.new h1
 have o1:=New.own (Ext.refl w) h1
 have lr:=hR.box.lt
 have b1:=Box.of_new h1
 refine ⟨r,rfl,p,(hR.box.pure E1).cell0,?_⟩
 refine (jLX p t w1 (hR.pool.pure E1) hR.ok).mono ?_
 rintro _ w2 ⟨k',f',t',u',x',a',b',ok,rfl,⟨hn,hok⟩,E12⟩
 refine ⟨_,_,_,_,_,_,_,_,rfl,?_⟩
 intro p2 w3 h3
 have E2:Pure w w2:=E1.trans E12
 have o3:=New.own E2 h3
 have n12:p1.block≠p2.block:=New.ne h3 (b1.pure E12).blk
 refine bx 7 (Box.of_new h3) rfl rfl (fun w4 b2 E'=>?_)
 have E4:Pure w w4:=(E2.trans (Ext.new h3)).own o3 E'
 have c1:=((b1.pure E12).pure (Ext.new h3)).ext E' n12
 have hR4:=hR.pure E4
 clear E' E2 E12 b1 h1 h3
 have bad1 : Sp.zY L t kind = (Sp.jDM, true) → zW w4 (r.add 1) ∧ ∀ w5 : World, w5 = w4.setCell (r.add 1) (.bool true) →
   (∀j,j<7→zW w5 (p1.add j))∧∀w6:World,w6=storeRow w5 p1 [(.int .i64 0),(.int .i64 0),(.int .i64 0),(.int .u64 0),(.string (⟨#[]⟩:ByteArray)),(.int .i64 0),(.int .i64 0)] →
   ∃qKind1:Int,∃qFrom1:Int,∃qTo1:Int,∃qNum1:Int,∃qText1:ByteArray,∃qA1:Int,∃qB1:Int,Row w6 p1 [(.int .i64 qKind1),(.int .i64 qFrom1),(.int .i64 qTo1),(.int .u64 qNum1),(.string qText1),(.int .i64 qA1),(.int .i64 qB1)] ∧
   K qKind1 qFrom1 qTo1 qNum1 qText1 qA1 qB1 w6:=by
  intro hrd
  refine ⟨hR4.box.canW (by simp),?_⟩
  intro w5 hw5
  have d5:Box w5 r [.pointer p,.bool true] 141:=by rw [hw5];exact hR4.box.set 1 _
  have E5:Ext (·=r.block) w4 w5:=by rw [hw5];have:=Ext.setCell (w:=w4) (r.add 1) (.bool true);rw [zU] at this;exact this
  clear hw5
  have n1r:p1.block≠r.block:=by omega
  refine bx 7 (c1.ext E5 n1r) rfl rfl (fun w6 b6 E6=>⟨_,_,_,_,_,_,_,b6.row,hK _ _ _ _ _ _ _ _ ⟨by rw [hrd];rfl,⟨?_,?_,hR.ok,hR.out⟩,?_⟩⟩)
  ·rw [hrd];simp only [Bool.or_true];exact d5.ext E6 n1r.symm
  ·exact (hR4.pool.ext E5 (fun b hb e=>hR.out (e▸hb))).ext E6 (fun b hb e=>by have:=hR.pool.lt hb;omega)
  ·exact (E4.pure.trans E5).trans' E6 (fun i hi h=>by omega)
 refine ⟨fun h=>⟨r,rfl,?_⟩,fun h=>⟨k',b2.cell0,fun h2=>⟨r,rfl,?_⟩,fun h2=>?_⟩⟩
 ·refine bad1 ?_
  have:¬ Sp.inP L t=true:=by rw [← hok];simpa using h
  unfold Sp.zY;rw [if_neg (fun h=>this h.1)]
 ·refine bad1 ?_
  have:(Sp.nodeOf L t).kind≠kind:=by rw [← hn];simpa using h2
  unfold Sp.zY;rw [if_neg (fun h=>this h.2)]
 ·have hi:Sp.inP L t=true:=by rw [← hok];simpa using h
  have hk:(Sp.nodeOf L t).kind=kind:=by rw [← hn];simpa using h2
  have hrd:Sp.zY L t kind=(Sp.nodeOf L t,false):=by unfold Sp.zY;rw [if_pos ⟨hi,hk⟩]
  refine ⟨_,_,_,_,_,_,_,b2.row,bx 7 c1 rfl rfl (fun w6 b6 E6=>⟨_,_,_,_,_,_,_,b6.row,hK _ _ _ _ _ _ _ _ ⟨by rw [hrd];exact hn,?_,?_⟩⟩)⟩
  ·rw [hrd];simp only [Bool.or_false]
   exact hR.pure (E4.own o1 E6)
  ·exact (E4.own o1 E6).pure
theorem jBG (r:Addr) (p:Option Addr) (t:Int) (bad:Bool) (w:World) {L:Sp.Pool} {F:NP} (hR:ReaderAt w r p bad L F) :
  Calls prog 87 #[.pointer (some r),.int .i64 t] w
   (fun e w'=>∃x:ByteArray,∃b:Int,e=.returned (.tuple #[.string x,.int .i64 b])∧((x,b)=(Sp.zV L t).1∧ReaderAt w' r p (bad || (Sp.zV L t).2) L F∧Ext (·=r.block) w w')):=by
 suffices key:∀K:ByteArray→Int→WP,(∀x b w',((x,b)=(Sp.zV L t).1∧ReaderAt w' r p (bad || (Sp.zV L t).2) L F∧Ext (·=r.block) w w')→K x b w')→m_E2 (some r) t w K from
  w_E2 _ _ w _ (key _ (fun _ _ _ h=>h))
 intro K hK
 unfold m_E2
 refine (uU r p t 4 bad w hR).mono ?_
 rintro _ w1 ⟨k1,f1,t1,u1,x1,a1,b1,rfl,hn,hR1,E1⟩
 refine ⟨_,_,_,_,_,_,_,rfl,?_⟩
 intro p1 w2 h2
 have o2:=New.own (Ext.refl w1) h2
 refine bx 7 (Box.of_new h2) rfl rfl (fun w3 b3 E'=>?_)
 have E3:Pure w1 w3:=Ext.own (Ext.new h2) o2 E'
 have l1:=hR1.box.lt
 refine ⟨fun w'=>Box w' p1 [.int .i64 k1,.int .i64 f1,.int .i64 t1,.int .u64 u1,.string x1,.int .i64 a1,.int .i64 b1] 103,b3.pure (Ext.drew w3),?_⟩
 intro w4 hw4
 have E4:Pure w1 w4:=by rw [hw4];exact E3.thenPure (Ext.drew w3)
 have c4:Box w4 p1 [.int .i64 k1,.int .i64 f1,.int .i64 t1,.int .u64 u1,.string x1,.int .i64 a1,.int .i64 b1] 103:=by rw [hw4];exact b3.pure (Ext.drew w3)
 clear hw4
 refine ⟨a1,fun w' h=>h.cell rfl,b1,fun w' h=>h.cell rfl,?_⟩
 refine (uU r p a1 3 _ w4 (hR1.pure E4)).mono ?_
 rintro _ w5 ⟨k2,f2,t2,u2,x2,a2,b2,rfl,hn2,hR2,E5⟩
 refine ⟨_,_,_,_,_,_,_,rfl,c4.ext E5 (by omega),hK _ _ _ ⟨?_,?_,?_⟩⟩
 ·have ea:a1=(Sp.zY L t 4).1.a:=by rw [← hn]
  have eb:b1=(Sp.zY L t 4).1.b:=by rw [← hn]
  simp only [Sp.zV,← ea,← eb,← hn2]
 ·have ea:a1=(Sp.zY L t 4).1.a:=by rw [← hn]
  rw [ea] at hR2
  simp only [Sp.zV,← Bool.or_assoc]
  exact hR2
 ·exact (E1.thenPure E4).trans E5
end Go.Proofs
end
section
open Go Go.SE
namespace Go.Sp
def zS (L:Pool) (t:Int):Letter×Bool :=
 let n:=nodeOf L t
 if (n.kind≠8∧n.kind≠9)∨1<n.frm∨n.to≠IntKind.i64.wrap (1 - n.frm) then (yU,true)
 else (⟨1,n.frm,(vH L n.a).1.1,(vH L n.a).1.2,n.kind == 9⟩,(vH L n.a).2)
end Go.Sp
namespace Go.Proofs
open Tryz
attribute [local irreducible] Calls
theorem jFU (r:Addr) (p:Option Addr) (t:Int) (bad:Bool) (w:World) {L:Sp.Pool} {F:NP} (hR:ReaderAt w r p bad L F) :
  Calls prog 91 #[.pointer (some r),.int .i64 t] w
   (fun e w'=>∃c:Int,∃x:ByteArray,e=.returned (.tuple #[.int .u64 c,.string x])∧((c,x)=(Sp.vH L t).1∧ReaderAt w' r p (bad || (Sp.vH L t).2) L F∧Ext (·=r.block) w w')):=by
 suffices key:∀K:Int→ByteArray→WP,(∀c x w',((c,x)=(Sp.vH L t).1∧ReaderAt w' r p (bad || (Sp.vH L t).2) L F∧Ext (·=r.block) w w')→K c x w')→m_Z (some r) t w K from
  w_Z _ _ w _ (key _ (fun _ _ _ h=>h))
 intro K hK
 unfold m_Z
 refine (jBG r p t bad w hR).mono ?_
 rintro _ w1 ⟨x1,y1,rfl,hg,hR1,E1⟩
 refine ⟨_,_,rfl,?_⟩
 refine (uU r p y1 4 _ w1 hR1).mono ?_
 rintro _ w2 ⟨k2,f2,t2,u2,x2,a2,b2,rfl,hn,hR2,E2⟩
 refine ⟨_,_,_,_,_,_,_,rfl,?_⟩
 intro p1 w3 h3
 have o3:=New.own (Ext.refl w2) h3
 have l2:=hR2.box.lt
 refine bx 7 (Box.of_new h3) rfl rfl (fun w4 b4 E'=>?_)
 have E4:Pure w2 w4:=Ext.own (Ext.new h3) o3 E'
 have hR4:=hR2.pure E4
 clear E' h3
 have ey:y1=(Sp.zV L t).1.2:=congrArg Prod.snd hg
 have ex:x1=(Sp.zV L t).1.1:=congrArg Prod.fst hg
 have ea:a2=(Sp.zY L y1 4).1.a:=by rw [← hn]
 have eb:b2=(Sp.zY L y1 4).1.b:=by rw [← hn]
 generalize hb4:(bad || (Sp.zV L t).2 || (Sp.zY L y1 4).2)=bad4 at *
 have fin:∀(v:Bool) (w5:World),(v=(bad4 || !decide (x1=Sp.jAS)))→Box w5 r [.pointer p,.bool v] 141→Ext (·=r.block) w4 w5→m_Z_j1 (some r) p1 w5 K:=by
  intro v w5 hv B5 E5;have hR5:ReaderAt w5 r p v L F:=⟨B5,hR4.pool.ext E5 (fun b hb e=>hR.out (e▸hb)),hR.ok,hR.out⟩;have c5:=b4.ext E5 (by omega);unfold m_Z_j1;refine ⟨fun w'=>Box w' p1 [.int .i64 k2,.int .i64 f2,.int .i64 t2,.int .u64 u2,.string x2,.int .i64 a2,.int .i64 b2] 103,c5.pure (Ext.drew w5),?_⟩;intro w6 hw6;have E6:Pure w5 w6:=by rw [hw6];exact Ext.drew w5
  clear hw6;have c6:=c5.pure E6;refine ⟨a2,fun w' h=>h.cell rfl,b2,fun w' h=>h.cell rfl,?_⟩;refine (uU r p a2 2 _ w6 (hR5.pure E6)).mono ?_;rintro _ w7 ⟨k3,f3,t3,u3,x3,a3,b3,rfl,hn3,hR7,E7⟩;have c7:=c6.ext E7 (by omega);refine ⟨_,_,_,_,_,_,_,rfl,c7,?_⟩;refine (uU r p b2 3 _ w7 hR7).mono ?_;rintro _ w8 ⟨k4,f4,t4,u4,x4,a4,b4',rfl,hn4,hR8,E8⟩;have e3:u3=(Sp.zY L a2 2).1.num:=by rw [← hn3]
  have e4:x4=(Sp.zY L b2 3).1.text:=by rw [← hn4]
  refine ⟨_,_,_,_,_,_,_,rfl,c7.ext E8 (by omega),hK _ _ _ ⟨?_,?_,?_⟩⟩
  ·simp only [Sp.vH,← ey,← ea,← eb,← e3,← e4]
  ·have : (bad || (Sp.vH L t).2) = (v || (Sp.zY L a2 2).2 || (Sp.zY L b2 3).2) := by
    simp only [Sp.vH,← ey,← ea,← eb,← ex,hv,← hb4,Bool.or_assoc]
   rw [this];exact hR8
  ·exact ((((E1.trans E2).thenPure E4).trans E5).thenPure E6 |>.trans E7).trans E8
 have setr:∀v:Bool,Box (w4.setCell (r.add 1) (.bool v)) r [.pointer p,.bool v] 141∧Ext (·=r.block) w4 (w4.setCell (r.add 1) (.bool v)):=fun v =>
  ⟨hR4.box.set 1 _,by have:=Ext.setCell (w:=w4) (r.add 1) (.bool v);rw [zU] at this;exact this⟩
 refine ⟨r,rfl,bad4,hR4.box.cell rfl,fun h=>⟨r,rfl,hR4.box.canW (by simp),?_⟩,fun h=>⟨r,rfl,hR4.box.canW (by simp),?_⟩⟩
 ·intro w8 hw8
  have:=setr true
  exact fin true w8 (by rw [h];rfl) (by rw [hw8];exact this.1) (by rw [hw8];exact this.2)
 ·intro w8 hw8
  have:=setr (!decide (x1=Sp.jAS))
  exact fin (!decide (x1=Sp.jAS)) w8 (by rw [h];rfl) (by rw [hw8];exact this.1) (by rw [hw8];exact this.2)
theorem vB (r:Addr) (p:Option Addr) (t:Int) (bad:Bool) (w:World) {L:Sp.Pool} {F:NP} (hR:ReaderAt w r p bad L F) :
  Calls prog 86 #[.pointer (some r),.int .i64 t] w
   (fun e w'=>∃k:Int,∃f:Int,∃c:Int,∃x:ByteArray,∃fk:Bool,e=.returned (.agg #[.int .i64 k,.int .i64 f,.int .u64 c,.string x,.bool fk])∧((⟨k,f,c,x,fk⟩:Sp.Letter)=(Sp.zS L t).1∧ReaderAt w' r p (bad || (Sp.zS L t).2) L F∧Ext (·=r.block) w w')):=by
 suffices key:∀K:Int→Int→Int→ByteArray→Bool→WP,(∀k f c x fk w',((⟨k,f,c,x,fk⟩:Sp.Letter)=(Sp.zS L t).1∧ReaderAt w' r p (bad || (Sp.zS L t).2) L F∧Ext (·=r.block) w w')→K k f c x fk w')→m_N (some r) t w K from
  w_N _ _ w _ (key _ (fun _ _ _ _ _ _ h=>h))
 intro K hK
 unfold m_N
 intro p1 w1 h1
 have E1:Pure w w1:=Ext.new h1
 have o1:=New.own (Ext.refl w) h1
 have lr:=hR.box.lt
 have b1:=Box.of_new h1
 refine ⟨r,rfl,p,(hR.box.pure E1).cell0,?_⟩
 refine (jLX p t w1 (hR.pool.pure E1) hR.ok).mono ?_
 rintro _ w2 ⟨k,f,t',u,x,a,b,ok,rfl,⟨hn,hok⟩,E12⟩
 refine ⟨_,_,_,_,_,_,_,_,rfl,?_⟩
 intro p2 w3 h3
 have E2:Pure w w2:=E1.trans E12
 have o3:=New.own E2 h3
 have n12:p1.block≠p2.block:=New.ne h3 (b1.pure E12).blk
 refine bx 7 (Box.of_new h3) rfl rfl (fun w4 b2 E'=>?_)
 have E4:Pure w w4:=(E2.trans (Ext.new h3)).own o3 E'
 have c1:=((b1.pure E12).pure (Ext.new h3)).ext E' n12
 have hR4:=hR.pure E4
 clear E' E2 E12 b1 h1 h3
 have n1r:p1.block≠r.block:=by omega
 have hsp:Sp.zS L t=if (k≠8∧k≠9)∨1<f∨t'≠IntKind.i64.wrap (1 - f) then (Sp.yU,true) else (⟨1,f,(Sp.vH L a).1.1,(Sp.vH L a).1.2,k == 9⟩,(Sp.vH L a).2):=by
  simp only [Sp.zS,← hn]
 have bad1 : ((k ≠ 8 ∧ k ≠ 9) ∨ 1 < f ∨ t' ≠ IntKind.i64.wrap (1 - f)) → zW w4 (r.add 1) ∧ ∀ w5 : World, w5 = w4.setCell (r.add 1) (.bool true) →
   (∀j,j<5→zW w5 (p1.add j))∧∀w6:World,w6=storeRow w5 p1 [(.int .i64 0),(.int .i64 0),(.int .u64 0),(.string (⟨#[]⟩:ByteArray)),(.bool false)] →
   ∃qKind1:Int,∃qFrom1:Int,∃qC1:Int,∃qText1:ByteArray,∃qFake1:Bool,Row w6 p1 [(.int .i64 qKind1),(.int .i64 qFrom1),(.int .u64 qC1),(.string qText1),(.bool qFake1)] ∧
   K qKind1 qFrom1 qC1 qText1 qFake1 w6:=by
  intro hc
  rw [if_pos hc] at hsp
  refine ⟨hR4.box.canW (by simp),?_⟩
  intro w5 hw5
  have d5:Box w5 r [.pointer p,.bool true] 141:=by rw [hw5];exact hR4.box.set 1 _
  have E5:Ext (·=r.block) w4 w5:=by rw [hw5];have:=Ext.setCell (w:=w4) (r.add 1) (.bool true);rw [zU] at this;exact this
  clear hw5
  refine bx 5 (c1.ext E5 n1r) rfl rfl (fun w6 b6 E6=>⟨0,0,0,⟨#[]⟩,false,b6.row,hK _ _ _ _ _ _ ⟨by rw [hsp];rfl,⟨?_,?_,hR.ok,hR.out⟩,?_⟩⟩)
  ·rw [hsp];simp only [Bool.or_true];exact d5.ext E6 n1r.symm
  ·exact (hR4.pool.ext E5 (fun b hb e=>hR.out (e▸hb))).ext E6 (fun b hb e=>by have:=hR.pool.lt hb;omega)
  ·exact (E4.pure.trans E5).trans' E6 (fun i hi h=>by omega)
 have J1:¬ ((k≠8∧k≠9)∨1<f∨t'≠IntKind.i64.wrap (1 - f))→m_N_j1 (some r) p1 p2 w4 K:=by
  intro hc;rw [if_neg hc] at hsp;unfold m_N_j1;refine ⟨a,b2.cell rfl,?_⟩;refine (jFU r p a bad w4 hR4).mono ?_;rintro _ w5 ⟨c,y,rfl,hd,hR5,E5⟩;have d2:=b2.ext E5 (by omega);have d1:=c1.ext E5 n1r;have ec:c=(Sp.vH L a).1.1:=congrArg Prod.fst hd;have ey:y=(Sp.vH L a).1.2:=congrArg Prod.snd hd;refine ⟨_,_,rfl,f,d2.cell rfl,k,d2.cell0,bx 5 d1 rfl rfl (fun w6 b6 E6=>⟨1,f,c,y,k == 9,b6.row,hK _ _ _ _ _ _ ⟨?_,?_,?_⟩⟩)⟩
  ·rw [hsp];simp only [← ec,← ey]
  ·rw [hsp];exact ⟨hR5.box.ext E6 n1r.symm,hR5.pool.ext E6 (fun b hb e=>by have:=hR.pool.lt hb;omega),hR.ok,hR.out⟩
  ·exact (E4.pure.trans E5).trans' E6 (fun i hi h=>by omega)
 have J3:∀x2,x2=((k != 8 && k != 9) || decide (1<f))→m_N_j3 (some r) p1 p2 x2 w4 K:=by
  intro x2 hx;unfold m_N_j3;refine ⟨fun h=>⟨r,rfl,bad1 ?_⟩,fun h=>⟨t',b2.cell rfl,f,b2.cell rfl,fun h2=>⟨r,rfl,bad1 ?_⟩,fun h2=>J1 ?_⟩⟩
  ·rw [h] at hx;have hx:=hx.symm;simp at hx;rcases hx with hx | hx
   ·exact .inl hx
   ·exact .inr (.inl hx)
  ·exact .inr (.inr (by simpa using h2))
  ·rw [h] at hx;have hx:=hx.symm;simp only [Bool.or_eq_false_iff,decide_eq_false_iff_not] at hx;rintro (h3 | h3 | h3)
   ·have:=hx.1;simp [h3.1,h3.2] at this
   ·exact hx.2 h3
   ·have h2:t'=IntKind.i64.wrap (1 - f):=by simpa using h2
    exact h3 h2
 have J2:∀x1,x1=(k != 8 && k != 9)→m_N_j2 (some r) p1 p2 x1 w4 K:=by
  intro x1 hx;unfold m_N_j2;exact ⟨fun h=>J3 _ (by rw [← hx,h];rfl),fun h=>⟨f,b2.cell rfl,J3 _ (by rw [← hx,h];rfl)⟩⟩
 exact ⟨k,b2.cell0,fun h=>⟨k,b2.cell0,J2 _ (by rw [h];rfl)⟩,fun h=>J2 _ (by rw [h];rfl)⟩
end Go.Proofs
end
section
open Go Go.SE
namespace Go.Sp
def vU (L:Pool) (who n:Int):Letter×Bool :=
 let m:=zY L n 4
 let a:=zS L m.1.a
 let b:=zS L m.1.b
 (⟨4,who,a.1.c,a.1.text,a.1.fake || b.1.fake⟩,m.2 || a.2 || b.2 || a.1.frm != 0 || b.1.frm != 1 || a.1.c != b.1.c || !decide (a.1.text=b.1.text))
def vZ (L:Pool) (who body:Int):Letter×Bool :=
 let g:=zV L body
 if g.1.1=uW∧who=0 then (⟨3,0,(zY L g.1.2 2).1.num,⟨#[]⟩,false⟩,g.2 || (zY L g.1.2 2).2)
 else if g.1.1=qW∧who=2 then (⟨5,0,(zY L g.1.2 2).1.num,⟨#[]⟩,false⟩,g.2 || (zY L g.1.2 2).2)
 else if g.1.1=yA∧who=2 then (⟨6,0,(vH L g.1.2).1.1,(vH L g.1.2).1.2,false⟩,g.2 || (vH L g.1.2).2)
 else if g.1.1=jAS∧who≤1 then (⟨2,who,(vH L body).1.1,(vH L body).1.2,false⟩,g.2 || (vH L body).2)
 else if g.1.1=qZ∧who≤1 then ((vU L who g.1.2).1,g.2 || (vU L who g.1.2).2)
 else (yU,true)
end Go.Sp
namespace Go.Proofs
attribute [local irreducible] Calls
def lz:List Value:=[.int .i64 0,.int .i64 0,.int .u64 0,.string ⟨#[]⟩,.bool false]
theorem jKB (r:Addr) (p:Option Addr) (p1:Addr) (who n:Int) (bad:Bool) (w:World) {L:Sp.Pool} {F:NP} (hR:ReaderAt w r p bad L F) (hB:Box w p1 lz 56) (hne:p1.block≠r.block) (K:Int→Int→Int→ByteArray→Bool→WP)
  (hK:∀w6 w',ReaderAt w6 r p (bad || (Sp.vU L who n).2) L F→Ext (·=r.block) w w6→Box w' p1 [.int .i64 4,.int .i64 who,.int .u64 (Sp.vU L who n).1.c,.string (Sp.vU L who n).1.text,.bool (Sp.vU L who n).1.fake] 56→Ext (·=p1.block) w6 w'→K 4 who (Sp.vU L who n).1.c (Sp.vU L who n).1.text (Sp.vU L who n).1.fake w') :
  m_A_j5 (some r) who p1 n true w K:=by
 unfold m_A_j5
 refine Br.t rfl ?_
 refine (uU r p n 4 bad w hR).mono ?_
 rintro _ w11 ⟨k2,f2,t2,u2,x2,a2,b2,rfl,hn,hR11,E11⟩
 refine ⟨_,_,_,_,_,_,_,rfl,?_⟩
 intro p2 w12 h12
 have o12:=New.own (Ext.refl w11) h12
 have l11:=hR11.box.lt
 have l1:=hB.lt
 have s11:=E11.size
 refine bx 7 (Box.of_new h12) rfl rfl (fun w13 b13 E'=>?_)
 have E13:Pure w11 w13:=Ext.own (Ext.new h12) o12 E'
 have hB11:=hB.ext E11 hne
 clear E' h12
 refine ⟨fun w'=>Box w' p2 [.int .i64 k2,.int .i64 f2,.int .i64 t2,.int .u64 u2,.string x2,.int .i64 a2,.int .i64 b2] 103,b13.pure (Ext.drew w13),?_⟩
 intro w18 hw18
 have E18:Pure w11 w18:=by rw [hw18];exact E13.thenPure (Ext.drew w13)
 have cN:Box w18 p2 [.int .i64 k2,.int .i64 f2,.int .i64 t2,.int .u64 u2,.string x2,.int .i64 a2,.int .i64 b2] 103:=by rw [hw18];exact b13.pure (Ext.drew w13)
 clear hw18
 have hR18:=hR11.pure E18
 have hB18:=hB11.pure E18
 have s18:=E18.size
 have Ew18:Ext (·=r.block) w w18:=E11.thenPure E18
 have ea:a2=(Sp.zY L n 4).1.a:=by rw [← hn]
 have eb:b2=(Sp.zY L n 4).1.b:=by rw [← hn]
 generalize hbad:(bad || (Sp.zY L n 4).2)=bad2 at *
 have leaf : ∀ (pA pB : Addr) (w' : World) (ka fa ca : Int) (xa : ByteArray) (ga : Bool) (kb fb cb : Int) (xb : ByteArray) (gb : Bool), (⟨ka, fa, ca, xa, ga⟩ : Sp.Letter) = (Sp.zS L a2).1 → (⟨kb, fb, cb, xb, gb⟩ : Sp.Letter) = (Sp.zS L b2).1 →
   ReaderAt w' r p (bad2 || (Sp.zS L a2).2 || (Sp.zS L b2).2) L F→Ext (·=r.block) w18 w'→Box w' pA [.int .i64 0,.int .i64 0,.int .u64 0,.string ⟨#[]⟩,.bool false] 56→Box w' pB [.int .i64 0,.int .i64 0,.int .u64 0,.string ⟨#[]⟩,.bool false] 56→pA.block≠pB.block→w18.heap.size≤pA.block→w18.heap.size≤pB.block →
   (∀j,j<5→zW w' (pA.add j))∧∀w23:World,w23=storeRow w' pA [.int .i64 ka,.int .i64 fa,.int .u64 ca,.string xa,.bool ga] →
   (∀j,j<5→zW w23 (pB.add j))∧∀w24:World,w24=storeRow w23 pB [.int .i64 kb,.int .i64 fb,.int .u64 cb,.string xb,.bool gb]→m_A_j6 (some r) who p1 pA pB w24 K:=by
  intro pA pB w' ka fa ca xa ga kb fb cb xb gb hla hlb hR' E' hA hBb hAB hoA hoB
  have s':=E'.size
  refine bx 5 hA rfl rfl (fun w23 bA E23=>?_)
  refine bx 5 (hBb.ext E23 hAB.symm) rfl rfl (fun w24 bB E24=>?_)
  have dA:=bA.ext E24 hAB
  have hR24:ReaderAt w24 r p (bad2 || (Sp.zS L a2).2 || (Sp.zS L b2).2) L F:=⟨(hR'.box.ext E23 (by omega)).ext E24 (by omega),(hR'.pool.ext E23 (fun b hb e=>by have:=hR.pool.lt hb;omega)).ext E24 (fun b hb e=>by have:=hR.pool.lt hb;omega),hR'.ok,hR'.out⟩
  have hB24:Box w24 p1 lz 56:=((hB18.ext E' hne).ext E23 (by omega)).ext E24 (by omega)
  have E24':Ext (·=r.block) w w24:=((Ew18.trans E').trans' E23 (fun i hi h=>by omega)).trans' E24 (fun i hi h=>by omega)
  have e1:fa=(Sp.zS L a2).1.frm:=by rw [← hla]
  have e2:fb=(Sp.zS L b2).1.frm:=by rw [← hlb]
  have e3:ca=(Sp.zS L a2).1.c:=by rw [← hla]
  have e4:cb=(Sp.zS L b2).1.c:=by rw [← hlb]
  have e5:xa=(Sp.zS L a2).1.text:=by rw [← hla]
  have e6:xb=(Sp.zS L b2).1.text:=by rw [← hlb]
  have e7:ga=(Sp.zS L a2).1.fake:=by rw [← hla]
  have e8:gb=(Sp.zS L b2).1.fake:=by rw [← hlb]
  generalize hb3:(bad2 || (Sp.zS L a2).2 || (Sp.zS L b2).2)=bad3 at *
  have hsp:Sp.vU L who n=(⟨4,who,ca,xa,ga || gb⟩,(Sp.zY L n 4).2 || (Sp.zS L a2).2 || (Sp.zS L b2).2 || fa != 0 || fb != 1 || ca != cb || !decide (xa=xb)):=by
   simp only [Sp.vU,← ea,← eb,← e1,← e2,← e3,← e4,← e5,← e6,← e7,← e8]
  have hbb:(bad || (Sp.vU L who n).2)=(bad3 || fa != 0 || fb != 1 || ca != cb || !decide (xa=xb)):=by
   rw [hsp,← hb3,← hbad];simp only [Bool.or_assoc]
  rw [hbb] at hK
  rw [hsp] at hK
  have J7:∀(v:Bool) (w5:World),v=(bad3 || fa != 0 || fb != 1 || ca != cb || !decide (xa=xb))→Box w5 r [.pointer p,.bool v] 141→Ext (·=r.block) w24 w5→m_A_j7 who p1 pA pB w5 K:=by
   intro v w5 hv B5 E5;have hR5:ReaderAt w5 r p v L F:=⟨B5,hR24.pool.ext E5 (fun b hb e=>hR.out (e▸hb)),hR.ok,hR.out⟩;have dA5:=dA.ext E5 (by omega);have dB5:=bB.ext E5 (by omega);have h15:=hB24.ext E5 hne;unfold m_A_j7;refine ⟨ca,dA5.cell rfl,xa,dA5.cell rfl,ga,dA5.cell rfl,fun hg=>?_,fun hg=>⟨gb,dB5.cell rfl,?_⟩⟩
   ·refine bx 5 h15 rfl rfl (fun w6 b6 E6=>⟨4,who,ca,xa,true,b6.row,?_⟩);have:=hK w5 w6 (by rw [← hv];exact hR5) (E24'.trans E5) (by rw [hg];exact b6) E6;rw [hg] at this;exact this
   ·refine bx 5 h15 rfl rfl (fun w6 b6 E6=>⟨4,who,ca,xa,gb,b6.row,?_⟩);have:=hK w5 w6 (by rw [← hv];exact hR5) (E24'.trans E5) (by rw [hg];exact b6) E6;rw [hg] at this;exact this
  have setr:∀v:Bool,Box (w24.setCell (r.add 1) (.bool v)) r [.pointer p,.bool v] 141∧Ext (·=r.block) w24 (w24.setCell (r.add 1) (.bool v)):=fun v =>
   ⟨hR24.box.set 1 _,by have:=Ext.setCell (w:=w24) (r.add 1) (.bool v);rw [zU] at this;exact this⟩
  have J10:∀x,x=(bad3 || fa != 0 || fb != 1 || ca != cb)→m_A_j10 (some r) who p1 pA pB x w24 K:=by
   intro x hx;unfold m_A_j10;refine ⟨fun h=>⟨r,rfl,hR24.box.canW (by simp),?_⟩,fun h=>⟨xa,dA.cell rfl,xb,bB.cell rfl,r,rfl,hR24.box.canW (by simp),?_⟩⟩
   ·intro w16 hw;exact J7 true w16 (by rw [← hx,h];rfl) (by rw [hw];exact (setr _).1) (by rw [hw];exact (setr _).2)
   ·intro w16 hw;exact J7 (!decide (xa=xb)) w16 (by rw [← hx,h];rfl) (by rw [hw];exact (setr _).1) (by rw [hw];exact (setr _).2)
  have J9:∀x,x=(bad3 || fa != 0 || fb != 1)→m_A_j9 (some r) who p1 pA pB x w24 K:=by
   intro x hx;unfold m_A_j9;exact ⟨fun h=>J10 _ (by rw [← hx,h];rfl),fun h=>⟨ca,dA.cell rfl,cb,bB.cell rfl,J10 _ (by rw [← hx,h];rfl)⟩⟩
  have J8:∀x,x=(bad3 || fa != 0)→m_A_j8 (some r) who p1 pA pB x w24 K:=by
   intro x hx;unfold m_A_j8;exact ⟨fun h=>J9 _ (by rw [← hx,h];rfl),fun h=>⟨fb,bB.cell rfl,J9 _ (by rw [← hx,h];rfl)⟩⟩
  unfold m_A_j6
  exact ⟨r,rfl,bad3,hR24.box.cell rfl,fun h=>J8 _ (by rw [h];rfl),fun h=>⟨fa,dA.cell rfl,J8 _ (by rw [h];rfl)⟩⟩
 have l18:=hR18.box.lt
 have Er18:Ext (·=r.block) w18 w18:=Ext.refl w18
 refine ⟨a2,fun w' h=>h.cell rfl,b2,fun w' h=>h.cell rfl,?_⟩
 ·skip
  refine ⟨?_,?_,?_⟩
  ·skip
   refine (vB r p a2 _ w18 hR18).mono ?_
   rintro _ v1 ⟨k1,f1,c1,x1,g1,rfl,hl1,R1,e1⟩
   have E1:=Er18.trans e1
   have s1:=E1.size
   refine ⟨_,_,_,_,_,rfl,cN.ext E1 (by omega),?_⟩
   refine ⟨?_,?_,?_⟩
   ·skip
    refine (vB r p b2 _ v1 R1).mono ?_
    rintro _ v2 ⟨k2,f2,c2,x2,g2,rfl,hl2,R2,e2⟩
    have E2:=E1.trans e2
    have s2:=E2.size
    refine ⟨_,_,_,_,_,rfl,?_⟩
    refine ⟨?_,?_⟩
    ·skip
     intro q3 v3 h3
     have e3:Pure v2 v3:=Ext.new h3
     have o3:=h3.at_size
     have R3:=R2.pure e3
     have E3:=E2.thenPure e3
     have s3:=E3.size
     have t3:=(E2).size
     have bA3:=Box.of_new h3
     refine ⟨cN.ext E3 (by omega),?_⟩
     intro q4 v4 h4
     have e4:Pure v3 v4:=Ext.new h4
     have o4:=h4.at_size
     have R4:=R3.pure e4
     have E4:=E3.thenPure e4
     have s4:=E4.size
     have t4:=(E3).size
     have bA4:=bA3.pure e4
     have lA4:=bA3.lt
     have bB4:=Box.of_new h4
     refine ⟨cN.ext E4 (by omega),?_⟩
     exact leaf q3 q4 v4 _ _ _ _ _ _ _ _ _ _ hl1 hl2 R4 E4 bA4 bB4 (by omega) (by omega) (by omega)
    ·skip
     intro q5 v5 h5
     have e5:Pure v2 v5:=Ext.new h5
     have o5:=h5.at_size
     have R5:=R2.pure e5
     have E5:=E2.thenPure e5
     have s5:=E5.size
     have t5:=(E2).size
     have bB5:=Box.of_new h5
     refine ⟨cN.ext E5 (by omega),?_⟩
     intro q6 v6 h6
     have e6:Pure v5 v6:=Ext.new h6
     have o6:=h6.at_size
     have R6:=R5.pure e6
     have E6:=E5.thenPure e6
     have s6:=E6.size
     have t6:=(E5).size
     have bB6:=bB5.pure e6
     have lB6:=bB5.lt
     have bA6:=Box.of_new h6
     refine ⟨cN.ext E6 (by omega),?_⟩
     exact leaf q6 q5 v6 _ _ _ _ _ _ _ _ _ _ hl1 hl2 R6 E6 bA6 bB6 (by omega) (by omega) (by omega)
   ·skip
    intro q7 v7 h7
    have e7:Pure v1 v7:=Ext.new h7
    have o7:=h7.at_size
    have R7:=R1.pure e7
    have E7:=E1.thenPure e7
    have s7:=E7.size
    have t7:=(E1).size
    have bA7:=Box.of_new h7
    refine ⟨cN.ext E7 (by omega),?_⟩
    refine ⟨?_,?_⟩
    ·skip
     refine (vB r p b2 _ v7 R7).mono ?_
     rintro _ v8 ⟨k8,f8,c8,x8,g8,rfl,hl2,R8,e8⟩
     have E8:=E7.trans e8
     have bA8:=bA7.ext e8 (by omega)
     have s8:=E8.size
     refine ⟨_,_,_,_,_,rfl,?_⟩
     intro q9 v9 h9
     have e9:Pure v8 v9:=Ext.new h9
     have o9:=h9.at_size
     have R9:=R8.pure e9
     have E9:=E8.thenPure e9
     have s9:=E9.size
     have t9:=(E8).size
     have bA9:=bA8.pure e9
     have lA9:=bA8.lt
     have bB9:=Box.of_new h9
     refine ⟨cN.ext E9 (by omega),?_⟩
     exact leaf q7 q9 v9 _ _ _ _ _ _ _ _ _ _ hl1 hl2 R9 E9 bA9 bB9 (by omega) (by omega) (by omega)
    ·skip
     intro q10 v10 h10
     have e10:Pure v7 v10:=Ext.new h10
     have o10:=h10.at_size
     have R10:=R7.pure e10
     have E10:=E7.thenPure e10
     have s10:=E10.size
     have t10:=(E7).size
     have bA10:=bA7.pure e10
     have lA10:=bA7.lt
     have bB10:=Box.of_new h10
     refine ⟨cN.ext E10 (by omega),?_⟩
     refine (vB r p b2 _ v10 R10).mono ?_
     rintro _ v11 ⟨k11,f11,c11,x11,g11,rfl,hl2,R11,e11⟩
     have E11:=E10.trans e11
     have bA11:=bA10.ext e11 (by omega)
     have bB11:=bB10.ext e11 (by omega)
     have s11:=E11.size
     refine ⟨_,_,_,_,_,rfl,?_⟩
     exact leaf q7 q10 v11 _ _ _ _ _ _ _ _ _ _ hl1 hl2 R11 E11 bA11 bB11 (by omega) (by omega) (by omega)
   ·skip
    intro q12 v12 h12
    have e12:Pure v1 v12:=Ext.new h12
    have o12:=h12.at_size
    have R12:=R1.pure e12
    have E12:=E1.thenPure e12
    have s12:=E12.size
    have t12:=(E1).size
    have bB12:=Box.of_new h12
    refine ⟨cN.ext E12 (by omega),?_⟩
    refine ⟨?_,?_⟩
    ·skip
     refine (vB r p b2 _ v12 R12).mono ?_
     rintro _ v13 ⟨k13,f13,c13,x13,g13,rfl,hl2,R13,e13⟩
     have E13:=E12.trans e13
     have bB13:=bB12.ext e13 (by omega)
     have s13:=E13.size
     refine ⟨_,_,_,_,_,rfl,?_⟩
     intro q14 v14 h14
     have e14:Pure v13 v14:=Ext.new h14
     have o14:=h14.at_size
     have R14:=R13.pure e14
     have E14:=E13.thenPure e14
     have s14:=E14.size
     have t14:=(E13).size
     have bB14:=bB13.pure e14
     have lB14:=bB13.lt
     have bA14:=Box.of_new h14
     refine ⟨cN.ext E14 (by omega),?_⟩
     exact leaf q14 q12 v14 _ _ _ _ _ _ _ _ _ _ hl1 hl2 R14 E14 bA14 bB14 (by omega) (by omega) (by omega)
    ·skip
     intro q15 v15 h15
     have e15:Pure v12 v15:=Ext.new h15
     have o15:=h15.at_size
     have R15:=R12.pure e15
     have E15:=E12.thenPure e15
     have s15:=E15.size
     have t15:=(E12).size
     have bB15:=bB12.pure e15
     have lB15:=bB12.lt
     have bA15:=Box.of_new h15
     refine ⟨cN.ext E15 (by omega),?_⟩
     refine (vB r p b2 _ v15 R15).mono ?_
     rintro _ v16 ⟨k16,f16,c16,x16,g16,rfl,hl2,R16,e16⟩
     have E16:=E15.trans e16
     have bA16:=bA15.ext e16 (by omega)
     have bB16:=bB15.ext e16 (by omega)
     have s16:=E16.size
     refine ⟨_,_,_,_,_,rfl,?_⟩
     exact leaf q15 q12 v16 _ _ _ _ _ _ _ _ _ _ hl1 hl2 R16 E16 bA16 bB16 (by omega) (by omega) (by omega)
  ·skip
   intro q17 v17 h17
   have e17:Pure w18 v17:=Ext.new h17
   have o17:=h17.at_size
   have R17:=hR18.pure e17
   have E17:=Er18.thenPure e17
   have s17:=E17.size
   have t17:=(Er18).size
   have bA17:=Box.of_new h17
   refine ⟨cN.ext E17 (by omega),?_⟩
   refine ⟨?_,?_⟩
   ·skip
    refine (vB r p a2 _ v17 R17).mono ?_
    rintro _ v18 ⟨k18,f18,c18,x18,g18,rfl,hl1,R18,e18⟩
    have E18:=E17.trans e18
    have bA18:=bA17.ext e18 (by omega)
    have s18:=E18.size
    refine ⟨_,_,_,_,_,rfl,cN.ext E18 (by omega),?_⟩
    refine ⟨?_,?_⟩
    ·skip
     refine (vB r p b2 _ v18 R18).mono ?_
     rintro _ v19 ⟨k19,f19,c19,x19,g19,rfl,hl2,R19,e19⟩
     have E19:=E18.trans e19
     have bA19:=bA18.ext e19 (by omega)
     have s19:=E19.size
     refine ⟨_,_,_,_,_,rfl,?_⟩
     intro q20 v20 h20
     have e20:Pure v19 v20:=Ext.new h20
     have o20:=h20.at_size
     have R20:=R19.pure e20
     have E20:=E19.thenPure e20
     have s20:=E20.size
     have t20:=(E19).size
     have bA20:=bA19.pure e20
     have lA20:=bA19.lt
     have bB20:=Box.of_new h20
     refine ⟨cN.ext E20 (by omega),?_⟩
     exact leaf q17 q20 v20 _ _ _ _ _ _ _ _ _ _ hl1 hl2 R20 E20 bA20 bB20 (by omega) (by omega) (by omega)
    ·skip
     intro q21 v21 h21
     have e21:Pure v18 v21:=Ext.new h21
     have o21:=h21.at_size
     have R21:=R18.pure e21
     have E21:=E18.thenPure e21
     have s21:=E21.size
     have t21:=(E18).size
     have bA21:=bA18.pure e21
     have lA21:=bA18.lt
     have bB21:=Box.of_new h21
     refine ⟨cN.ext E21 (by omega),?_⟩
     refine (vB r p b2 _ v21 R21).mono ?_
     rintro _ v22 ⟨k22,f22,c22,x22,g22,rfl,hl2,R22,e22⟩
     have E22:=E21.trans e22
     have bA22:=bA21.ext e22 (by omega)
     have bB22:=bB21.ext e22 (by omega)
     have s22:=E22.size
     refine ⟨_,_,_,_,_,rfl,?_⟩
     exact leaf q17 q21 v22 _ _ _ _ _ _ _ _ _ _ hl1 hl2 R22 E22 bA22 bB22 (by omega) (by omega) (by omega)
   ·skip
    intro q23 v23 h23
    have e23:Pure v17 v23:=Ext.new h23
    have o23:=h23.at_size
    have R23:=R17.pure e23
    have E23:=E17.thenPure e23
    have s23:=E23.size
    have t23:=(E17).size
    have bA23:=bA17.pure e23
    have lA23:=bA17.lt
    have bB23:=Box.of_new h23
    refine ⟨cN.ext E23 (by omega),?_⟩
    refine (vB r p a2 _ v23 R23).mono ?_
    rintro _ v24 ⟨k24,f24,c24,x24,g24,rfl,hl1,R24,e24⟩
    have E24:=E23.trans e24
    have bA24:=bA23.ext e24 (by omega)
    have bB24:=bB23.ext e24 (by omega)
    have s24:=E24.size
    refine ⟨_,_,_,_,_,rfl,cN.ext E24 (by omega),?_⟩
    refine (vB r p b2 _ v24 R24).mono ?_
    rintro _ v25 ⟨k25,f25,c25,x25,g25,rfl,hl2,R25,e25⟩
    have E25:=E24.trans e25
    have bA25:=bA24.ext e25 (by omega)
    have bB25:=bB24.ext e25 (by omega)
    have s25:=E25.size
    refine ⟨_,_,_,_,_,rfl,?_⟩
    exact leaf q17 q23 v25 _ _ _ _ _ _ _ _ _ _ hl1 hl2 R25 E25 bA25 bB25 (by omega) (by omega) (by omega)
  ·skip
   intro q26 v26 h26
   have e26:Pure w18 v26:=Ext.new h26
   have o26:=h26.at_size
   have R26:=hR18.pure e26
   have E26:=Er18.thenPure e26
   have s26:=E26.size
   have t26:=(Er18).size
   have bB26:=Box.of_new h26
   refine ⟨cN.ext E26 (by omega),?_⟩
   refine ⟨?_,?_⟩
   ·skip
    refine (vB r p a2 _ v26 R26).mono ?_
    rintro _ v27 ⟨k27,f27,c27,x27,g27,rfl,hl1,R27,e27⟩
    have E27:=E26.trans e27
    have bB27:=bB26.ext e27 (by omega)
    have s27:=E27.size
    refine ⟨_,_,_,_,_,rfl,cN.ext E27 (by omega),?_⟩
    refine ⟨?_,?_⟩
    ·skip
     refine (vB r p b2 _ v27 R27).mono ?_
     rintro _ v28 ⟨k28,f28,c28,x28,g28,rfl,hl2,R28,e28⟩
     have E28:=E27.trans e28
     have bB28:=bB27.ext e28 (by omega)
     have s28:=E28.size
     refine ⟨_,_,_,_,_,rfl,?_⟩
     intro q29 v29 h29
     have e29:Pure v28 v29:=Ext.new h29
     have o29:=h29.at_size
     have R29:=R28.pure e29
     have E29:=E28.thenPure e29
     have s29:=E29.size
     have t29:=(E28).size
     have bB29:=bB28.pure e29
     have lB29:=bB28.lt
     have bA29:=Box.of_new h29
     refine ⟨cN.ext E29 (by omega),?_⟩
     exact leaf q29 q26 v29 _ _ _ _ _ _ _ _ _ _ hl1 hl2 R29 E29 bA29 bB29 (by omega) (by omega) (by omega)
    ·skip
     intro q30 v30 h30
     have e30:Pure v27 v30:=Ext.new h30
     have o30:=h30.at_size
     have R30:=R27.pure e30
     have E30:=E27.thenPure e30
     have s30:=E30.size
     have t30:=(E27).size
     have bB30:=bB27.pure e30
     have lB30:=bB27.lt
     have bA30:=Box.of_new h30
     refine ⟨cN.ext E30 (by omega),?_⟩
     refine (vB r p b2 _ v30 R30).mono ?_
     rintro _ v31 ⟨k31,f31,c31,x31,g31,rfl,hl2,R31,e31⟩
     have E31:=E30.trans e31
     have bA31:=bA30.ext e31 (by omega)
     have bB31:=bB30.ext e31 (by omega)
     have s31:=E31.size
     refine ⟨_,_,_,_,_,rfl,?_⟩
     exact leaf q30 q26 v31 _ _ _ _ _ _ _ _ _ _ hl1 hl2 R31 E31 bA31 bB31 (by omega) (by omega) (by omega)
   ·skip
    intro q32 v32 h32
    have e32:Pure v26 v32:=Ext.new h32
    have o32:=h32.at_size
    have R32:=R26.pure e32
    have E32:=E26.thenPure e32
    have s32:=E32.size
    have t32:=(E26).size
    have bB32:=bB26.pure e32
    have lB32:=bB26.lt
    have bA32:=Box.of_new h32
    refine ⟨cN.ext E32 (by omega),?_⟩
    refine (vB r p a2 _ v32 R32).mono ?_
    rintro _ v33 ⟨k33,f33,c33,x33,g33,rfl,hl1,R33,e33⟩
    have E33:=E32.trans e33
    have bA33:=bA32.ext e33 (by omega)
    have bB33:=bB32.ext e33 (by omega)
    have s33:=E33.size
    refine ⟨_,_,_,_,_,rfl,cN.ext E33 (by omega),?_⟩
    refine (vB r p b2 _ v33 R33).mono ?_
    rintro _ v34 ⟨k34,f34,c34,x34,g34,rfl,hl2,R34,e34⟩
    have E34:=E33.trans e34
    have bA34:=bA33.ext e34 (by omega)
    have bB34:=bB33.ext e34 (by omega)
    have s34:=E34.size
    refine ⟨_,_,_,_,_,rfl,?_⟩
    exact leaf q32 q26 v34 _ _ _ _ _ _ _ _ _ _ hl1 hl2 R34 E34 bA34 bB34 (by omega) (by omega) (by omega)
end Go.Proofs
end
section
open Go Go.SE
namespace Go.Sp
def tD (L:Pool) (t:Int):Letter×Bool :=
 let n:=nodeOf L t
 if n.kind=7 then vZ L n.frm n.a else if n.kind=8∨n.kind=9 then zS L t
 else if ((zV L t).2 || !decide ((zV L t).1.1=jIJ))=true then (yU,true)
 else (⟨7,0,(zY L (zV L t).1.2 2).1.num,⟨#[]⟩,false⟩,(zY L (zV L t).1.2 2).2)
def jNO (L:Pool) (t:Int):Letter×Bool:=if (tD L t).2=true then (yU,false) else ((tD L t).1,true)
end Go.Sp
namespace Go.Proofs
open Tryz
attribute [local irreducible] Calls
theorem jLW (r:Addr) (p:Option Addr) (who body:Int) (bad:Bool) (w:World) {L:Sp.Pool} {F:NP} (hR:ReaderAt w r p bad L F) :
  Calls prog 85 #[.pointer (some r),.int .i64 who,.int .i64 body] w
   (fun e w'=>∃k:Int,∃f:Int,∃c:Int,∃x:ByteArray,∃fk:Bool,e=.returned (.agg #[.int .i64 k,.int .i64 f,.int .u64 c,.string x,.bool fk])∧((⟨k,f,c,x,fk⟩:Sp.Letter)=(Sp.vZ L who body).1∧ReaderAt w' r p (bad || (Sp.vZ L who body).2) L F∧Ext (·=r.block) w w')):=by
 suffices key:∀K:Int→Int→Int→ByteArray→Bool→WP,(∀k f c x fk w',((⟨k,f,c,x,fk⟩:Sp.Letter)=(Sp.vZ L who body).1∧ReaderAt w' r p (bad || (Sp.vZ L who body).2) L F∧Ext (·=r.block) w w')→K k f c x fk w')→m_A (some r) who body w K from
  w_A _ _ _ w _ (key _ (fun _ _ _ _ _ _ h=>h))
 intro K hK
 unfold m_A
 intro p1 w1 h1
 have E1:Pure w w1:=Ext.new h1
 have o1:=New.own (Ext.refl w) h1
 have lr:=hR.box.lt
 have b1:Box w1 p1 lz 56:=Box.of_new h1
 have ne:p1.block≠r.block:=by omega
 refine (jBG r p body bad w1 (hR.pure E1)).mono ?_
 rintro _ w2 ⟨x,y,rfl,hg,hR2,E12⟩
 refine ⟨_,_,rfl,?_⟩
 have b2:=b1.ext E12 ne
 have E2:Ext (·=r.block) w w2:=E1.pure.trans E12
 have ex:x=(Sp.zV L body).1.1:=congrArg Prod.fst hg
 have ey:y=(Sp.zV L body).1.2:=congrArg Prod.snd hg
 have hsp:Sp.vZ L who body=if x=Sp.uW∧who=0 then (⟨3,0,(Sp.zY L y 2).1.num,⟨#[]⟩,false⟩,(Sp.zV L body).2 || (Sp.zY L y 2).2)
  else if x=Sp.qW∧who=2 then (⟨5,0,(Sp.zY L y 2).1.num,⟨#[]⟩,false⟩,(Sp.zV L body).2 || (Sp.zY L y 2).2)
  else if x=Sp.yA∧who=2 then (⟨6,0,(Sp.vH L y).1.1,(Sp.vH L y).1.2,false⟩,(Sp.zV L body).2 || (Sp.vH L y).2)
  else if x=Sp.jAS∧who≤1 then (⟨2,who,(Sp.vH L body).1.1,(Sp.vH L body).1.2,false⟩,(Sp.zV L body).2 || (Sp.vH L body).2)
  else if x=Sp.qZ∧who≤1 then ((Sp.vU L who y).1,(Sp.zV L body).2 || (Sp.vU L who y).2)
  else (Sp.yU,true):=by
  simp only [Sp.vZ,← ex,← ey]
 clear ex ey hg
 generalize hbg:(Sp.zV L body).2=g2 at *
 have fin : ∀ (k f c : Int) (z : ByteArray) (fk v : Bool) (w5 : World), Sp.vZ L who body = (⟨k, f, c, z, fk⟩, v) → ReaderAt w5 r p (bad || v) L F → Ext (· = r.block) w2 w5 →
   (∀j,j<5→zW w5 (p1.add j))∧∀w6:World,w6=storeRow w5 p1 [(.int .i64 k),(.int .i64 f),(.int .u64 c),(.string z),(.bool fk)] →
   ∃qKind1:Int,∃qFrom1:Int,∃qC1:Int,∃qText1:ByteArray,∃qFake1:Bool,Row w6 p1 [(.int .i64 qKind1),(.int .i64 qFrom1),(.int .u64 qC1),(.string qText1),(.bool qFake1)] ∧
   K qKind1 qFrom1 qC1 qText1 qFake1 w6:=by
  intro k f c z fk v w5 hs hR5 E5
  refine bx 5 (b2.ext E5 ne) rfl rfl (fun w6 b6 E6=>⟨k,f,c,z,fk,b6.row,hK _ _ _ _ _ _ ⟨by rw [hs],?_,?_⟩⟩)
  ·rw [hs];exact ⟨hR5.box.ext E6 ne.symm,hR5.pool.ext E6 (fun b hb e=>by have:=hR.pool.lt hb;omega),hR.ok,hR.out⟩
  ·exact (E2.trans E5).trans' E6 (fun i hi h=>by omega)
 have nodeCase : ∀ (k : Int), Sp.vZ L who body = (⟨k, 0, (Sp.zY L y 2).1.num, ⟨#[]⟩, false⟩, g2 || (Sp.zY L y 2).2) →
   Calls prog 88 #[.pointer (some r),.int .i64 y,.int .i64 2] w2 (fun e w3=>∃rKind1:Int,∃rFrom1:Int,∃rTo1:Int,∃rNum1:Int,∃rText1:ByteArray,∃rA1:Int,∃rB1:Int,e=.returned (.agg #[(.int .i64 rKind1),(.int .i64 rFrom1),(.int .i64 rTo1),(.int .u64 rNum1),(.string rText1),(.int .i64 rA1),(.int .i64 rB1)]) ∧
    (∀j,j<5→zW w3 (p1.add j))∧∀w4:World,w4=storeRow w3 p1 [(.int .i64 k),(.int .i64 0),(.int .u64 rNum1),(.string (⟨#[]⟩:ByteArray)),(.bool false)] →
    ∃qKind1:Int,∃qFrom1:Int,∃qC1:Int,∃qText1:ByteArray,∃qFake1:Bool,Row w4 p1 [(.int .i64 qKind1),(.int .i64 qFrom1),(.int .u64 qC1),(.string qText1),(.bool qFake1)] ∧
    K qKind1 qFrom1 qC1 qText1 qFake1 w4):=by
  intro k hs
  refine (uU r p y 2 _ w2 hR2).mono ?_
  rintro _ w3 ⟨k3,f3,t3,u3,x3,a3,b3,rfl,hn3,hR3,E3⟩
  have e3:u3=(Sp.zY L y 2).1.num:=by rw [← hn3]
  refine ⟨_,_,_,_,_,_,_,rfl,?_⟩
  rw [← e3] at hs
  exact fin _ _ _ _ _ _ w3 hs (by rw [← Bool.or_assoc];exact hR3) E3
 have dealCase : ∀ (k f t : Int), Sp.vZ L who body = (⟨k, f, (Sp.vH L t).1.1, (Sp.vH L t).1.2, false⟩, g2 || (Sp.vH L t).2) →
   Calls prog 91 #[.pointer (some r),.int .i64 t] w2 (fun e w7=>∃r4:Int,∃r5:ByteArray,e=.returned (.tuple #[(.int .u64 r4),(.string r5)]) ∧
    (∀j,j<5→zW w7 (p1.add j))∧∀w8:World,w8=storeRow w7 p1 [(.int .i64 k),(.int .i64 f),(.int .u64 r4),(.string r5),(.bool false)] →
    ∃qKind1:Int,∃qFrom1:Int,∃qC1:Int,∃qText1:ByteArray,∃qFake1:Bool,Row w8 p1 [(.int .i64 qKind1),(.int .i64 qFrom1),(.int .u64 qC1),(.string qText1),(.bool qFake1)] ∧
    K qKind1 qFrom1 qC1 qText1 qFake1 w8):=by
  intro k f t hs
  refine (jFU r p t _ w2 hR2).mono ?_
  rintro _ w3 ⟨c,z,rfl,hd,hR3,E3⟩
  have e1:c=(Sp.vH L t).1.1:=congrArg Prod.fst hd
  have e2:z=(Sp.vH L t).1.2:=congrArg Prod.snd hd
  refine ⟨_,_,rfl,?_⟩
  rw [← e1,← e2] at hs
  exact fin _ _ _ _ _ _ w3 hs (by rw [← Bool.or_assoc];exact hR3) E3
 have J5:∀b,b=decide (x=Sp.qZ∧who≤1)→¬ (x=Sp.uW∧who=0)→¬ (x=Sp.qW∧who=2)→¬ (x=Sp.yA∧who=2)→¬ (x=Sp.jAS∧who≤1)→m_A_j5 (some r) who p1 y b w2 K:=by
  intro b hb h1 h2 h3 h4;rw [if_neg h1,if_neg h2,if_neg h3,if_neg h4] at hsp;cases hbv:b with
  | true =>
   have hc:x=Sp.qZ∧who≤1:=of_decide_eq_true (by rw [← hb,hbv])
   rw [if_pos hc] at hsp
   refine jKB r p p1 who y _ w2 hR2 b2 ne K (fun w6 w' hR6 E6 b' E'=>hK _ _ _ _ _ _ ⟨by rw [hsp];rfl,?_,?_⟩)
   ·rw [hsp];simp only [← Bool.or_assoc]
    exact ⟨hR6.box.ext E' ne.symm,hR6.pool.ext E' (fun b hb e=>by have:=hR.pool.lt hb;omega),hR.ok,hR.out⟩
   ·exact (E2.trans E6).trans' E' (fun i hi h=>by omega)
  | false =>
   have hc:¬ (x=Sp.qZ∧who≤1):=of_decide_eq_false (by rw [← hb,hbv])
   rw [if_neg hc] at hsp
   unfold m_A_j5
   refine Br.f rfl ⟨r,rfl,hR2.box.canW (by simp),?_⟩
   intro w77 hw
   have d5:Box w77 r [.pointer p,.bool true] 141:=by rw [hw];exact hR2.box.set 1 _
   have E5:Ext (·=r.block) w2 w77:=by rw [hw];have:=Ext.setCell (w:=w2) (r.add 1) (.bool true);rw [zU] at this;exact this
   exact fin 0 0 0 ⟨#[]⟩ false true w77 hsp (by rw [Bool.or_true];exact ⟨d5,hR2.pool.ext E5 (fun b hb e=>hR.out (e▸hb)),hR.ok,hR.out⟩) E5
 have J4:∀b,b=decide (x=Sp.jAS∧who≤1)→¬ (x=Sp.uW∧who=0)→¬ (x=Sp.qW∧who=2)→¬ (x=Sp.yA∧who=2)→m_A_j4 (some r) who body p1 x y b w2 K:=by
  intro b hb h1 h2 h3;unfold m_A_j4;refine ⟨fun h=>dealCase 2 who body ?_,fun h=>?_⟩
  ·rw [hsp,if_neg h1,if_neg h2,if_neg h3,if_pos (of_decide_eq_true (by rw [← hb,h]))]
  ·have h4:¬ (x=Sp.jAS∧who≤1):=of_decide_eq_false (by rw [← hb,h]);exact ⟨fun hw=>J5 _ (by have:x=Sp.qZ:=of_decide_eq_true hw;simp [this]) h1 h2 h3 h4,fun hw=>J5 _ (by have:¬ x=Sp.qZ:=of_decide_eq_false hw;simp [this]) h1 h2 h3 h4⟩
 have J3:∀b,b=decide (x=Sp.yA∧who=2)→¬ (x=Sp.uW∧who=0)→¬ (x=Sp.qW∧who=2)→m_A_j3 (some r) who body p1 x y b w2 K:=by
  intro b hb h1 h2;unfold m_A_j3;refine ⟨fun h=>dealCase 6 0 y ?_,fun h=>?_⟩
  ·rw [hsp,if_neg h1,if_neg h2,if_pos (of_decide_eq_true (by rw [← hb,h]))]
  ·have h3:¬ (x=Sp.yA∧who=2):=of_decide_eq_false (by rw [← hb,h]);exact ⟨fun hw=>J4 _ (by have:x=Sp.jAS:=of_decide_eq_true hw;simp [this]) h1 h2 h3,fun hw=>J4 _ (by have:¬ x=Sp.jAS:=of_decide_eq_false hw;simp [this]) h1 h2 h3⟩
 have J2:∀b,b=decide (x=Sp.qW∧who=2)→¬ (x=Sp.uW∧who=0)→m_A_j2 (some r) who body p1 x y b w2 K:=by
  intro b hb h1;unfold m_A_j2;refine ⟨fun h=>nodeCase 5 ?_,fun h=>?_⟩
  ·rw [hsp,if_neg h1,if_pos (of_decide_eq_true (by rw [← hb,h]))]
  ·have h2:¬ (x=Sp.qW∧who=2):=of_decide_eq_false (by rw [← hb,h]);exact ⟨fun hw=>J3 _ (by have:x=Sp.yA:=of_decide_eq_true hw;simp [this];rfl) h1 h2,fun hw=>J3 _ (by have:¬ x=Sp.yA:=of_decide_eq_false hw;simp [this]) h1 h2⟩
 have J1:∀b,b=decide (x=Sp.uW∧who=0)→m_A_j1 (some r) who body p1 x y b w2 K:=by
  intro b hb;unfold m_A_j1;refine ⟨fun h=>nodeCase 3 ?_,fun h=>?_⟩
  ·rw [hsp,if_pos (of_decide_eq_true (by rw [← hb,h]))]
  ·have h1:¬ (x=Sp.uW∧who=0):=of_decide_eq_false (by rw [← hb,h]);exact ⟨fun hw=>J2 _ (by have:x=Sp.qW:=of_decide_eq_true hw;simp [this];rfl) h1,fun hw=>J2 _ (by have:¬ x=Sp.qW:=of_decide_eq_false hw;simp [this]) h1⟩
 exact ⟨fun hw=>J1 _ (by have:x=Sp.uW:=of_decide_eq_true hw;simp [this];rfl),fun hw=>J1 _ (by have:¬ x=Sp.uW:=of_decide_eq_false hw;simp [this])⟩
end Go.Proofs
end
section
open Go Go.SE
namespace Go.Proofs
open Tryz
attribute [local irreducible] Calls
theorem jGG (p:Option Addr) (t:Int) (w:World) {L:Sp.Pool} {F:NP} (hP:jDF w p L F) (hok:Sp.Ok L) :
  Calls prog 40 #[.pointer p,.int .i64 t] w
   (fun e w'=>∃k:Int,∃f:Int,∃c:Int,∃x:ByteArray,∃fk:Bool,∃ok:Bool,e=.returned (.tuple #[.agg #[.int .i64 k,.int .i64 f,.int .u64 c,.string x,.bool fk],.bool ok])∧(((⟨k,f,c,x,fk⟩:Sp.Letter),ok)=Sp.jNO L t∧Pure w w')):=by
 suffices key:∀K:Int→Int→Int→ByteArray→Bool→Bool→WP,(∀k f c x fk ok w',(((⟨k,f,c,x,fk⟩:Sp.Letter),ok)=Sp.jNO L t∧Pure w w')→K k f c x fk ok w')→m_M p t w K from
  w_M _ _ w _ (key _ (fun _ _ _ _ _ _ _ h=>h))
 intro K hK
 unfold m_M
 intro p2 w1 h1 p3 w2 h2
 have E1:Pure w w1:=Ext.new h1
 have E2:Pure w w2:=E1.trans (Ext.new h2)
 have o2:=New.own (Ext.refl w) h1
 have o3:=New.own E1 h2
 have n23:p2.block≠p3.block:=New.ne h2 (Box.of_new h1).blk
 have b2:Box w2 p2 lz 56:=(Box.of_new h1).pure (Ext.new h2)
 have hout:¬ F p3.block:=fun h=>by have:=hP.lt h;omega
 have hR2:ReaderAt w2 p3 p false L F:=⟨Box.of_new h2,hP.pure E2,hok,hout⟩
 refine (jLX p t w2 hR2.pool hok).mono ?_
 rintro _ w3 ⟨k,f,t',u,x,a,b,ok,rfl,⟨hn,_⟩,E23⟩
 refine ⟨_,_,_,_,_,_,_,_,rfl,?_⟩
 intro p4 w4 h4
 have E3:Pure w2 w3:=E23
 have o4:=New.own (Ext.refl w3) h4
 have l3:=(hR2.pure E3).box.lt
 have l2:=(b2.pure E3).lt
 refine bx 7 (Box.of_new h4) rfl rfl (fun w5 b4 E'=>?_)
 have E5:Pure w3 w5:=Ext.own (Ext.new h4) o4 E'
 intro p5 w6 h6
 have E6:Pure w3 w6:=E5.trans (Ext.new h6)
 have o5:=New.own E5 h6
 have n45:p4.block≠p5.block:=New.ne h6 b4.blk
 have c4:=b4.pure (Ext.new h6:Pure w5 w6)
 have c5:Box w6 p5 lz 56:=Box.of_new h6
 have c2:=b2.pure (E3.trans E6)
 have hR6:=hR2.pure (E3.trans E6)
 have E26:Pure w w6:=(E2.trans E3).trans E6
 clear E' h1 h2 h4 h6
 have n35:p3.block≠p5.block:=by omega
 have n25:p2.block≠p5.block:=by omega
 have hq:Sp.tD L t=if k=7 then Sp.vZ L f a else if k=8∨k=9 then Sp.zS L t else if ((Sp.zV L t).2 || !decide ((Sp.zV L t).1.1=Sp.jIJ))=true then (Sp.yU,true) else (⟨7,0,(Sp.zY L (Sp.zV L t).1.2 2).1.num,⟨#[]⟩,false⟩,(Sp.zY L (Sp.zV L t).1.2 2).2):=by
  simp only [Sp.tD,← hn]
 have bad1 : ∀ (w8 : World), (Sp.tD L t).2 = true → Ext (fun b => b = p3.block ∨ b = p5.block) w6 w8 → (∀ j, j < 5 → zW w8 (p2.add j)) ∧ ∀ w9 : World, w9 = storeRow w8 p2 [(.int .i64 0), (.int .i64 0), (.int .u64 0), (.string (⟨#[]⟩ : ByteArray)), (.bool false)] →
   ∃qKind1:Int,∃qFrom1:Int,∃qC1:Int,∃qText1:ByteArray,∃qFake1:Bool,Row w9 p2 [(.int .i64 qKind1),(.int .i64 qFrom1),(.int .u64 qC1),(.string qText1),(.bool qFake1)]∧K qKind1 qFrom1 qC1 qText1 qFake1 false w9:=by
  intro w8 hb E8
  refine bx 5 (c2.ext E8 (by rintro (h | h) <;> omega)) rfl rfl (fun w9 b9 E9=>⟨0,0,0,⟨#[]⟩,false,b9.row,hK _ _ _ _ _ _ _ ⟨?_,?_⟩⟩)
  ·rw [Sp.jNO,if_pos hb];rfl
  ·exact (E26.trans' E8 (fun i hi h=>by rcases h with h | h <;> omega)).trans' E9 (fun i hi h=>by omega)
 have good1 : ∀ (w8 : World) (l : Sp.Letter), Sp.tD L t = (l, false) → Ext (fun b => b = p3.block ∨ b = p5.block) w6 w8 → Box w8 p5 [.int .i64 l.kind, .int .i64 l.frm, .int .u64 l.c, .string l.text, .bool l.fake] 56 →
   ∃vKind1:Int,∃vFrom1:Int,∃vC1:Int,∃vText1:ByteArray,∃vFake1:Bool,Row w8 p5 [(.int .i64 vKind1),(.int .i64 vFrom1),(.int .u64 vC1),(.string vText1),(.bool vFake1)] ∧
   (∀j,j<5→zW w8 (p2.add j))∧∀w9:World,w9=storeRow w8 p2 [(.int .i64 vKind1),(.int .i64 vFrom1),(.int .u64 vC1),(.string vText1),(.bool vFake1)] →
   ∃qKind1:Int,∃qFrom1:Int,∃qC1:Int,∃qText1:ByteArray,∃qFake1:Bool,Row w9 p2 [(.int .i64 qKind1),(.int .i64 qFrom1),(.int .u64 qC1),(.string qText1),(.bool qFake1)]∧K qKind1 qFrom1 qC1 qText1 qFake1 true w9:=by
  intro w8 l hb E8 B8
  refine ⟨_,_,_,_,_,B8.row,?_⟩
  refine bx 5 (c2.ext E8 (by rintro (h | h) <;> omega)) rfl rfl (fun w9 b9 E9=>⟨l.kind,l.frm,l.c,l.text,l.fake,b9.row,hK _ _ _ _ _ _ _ ⟨?_,?_⟩⟩)
  ·rw [Sp.jNO,if_neg (by rw [hb];simp),hb]
  ·exact (E26.trans' E8 (fun i hi h=>by rcases h with h | h <;> omega)).trans' E9 (fun i hi h=>by omega)
 have up:∀{w7 w8:World},Ext (·=p3.block) w6 w7→Ext (·=p5.block) w7 w8→Ext (fun b=>b=p3.block∨b=p5.block) w6 w8:=fun h h'=>(h.mono (fun _ _ h=>.inl h)).trans' h' (fun _ _ h=>.inr h)
 have J1p:∀b,b=true→k≠7→(k=8∨k=9)→m_M_j1 t p2 p3 p5 b w6 K:=by
  rintro _ rfl h7 h89;rw [if_neg h7,if_pos h89] at hq;unfold m_M_j1;refine Br.t rfl ?_;refine (vB p3 p t false w6 hR6).mono ?_;rintro _ w7 ⟨k7,f7,c7,x7,g7,rfl,hl,hR7,E7⟩;refine ⟨_,_,_,_,_,rfl,bx 5 (c5.ext E7 n35.symm) rfl rfl (fun w8 b8 E8=>⟨(Sp.zS L t).2,?_,fun h=>bad1 w8 (by rw [hq];exact h) (up E7 E8),fun h=>good1 w8 ⟨k7,f7,c7,x7,g7⟩ (by rw [hq,hl,← h]) (up E7 E8) b8⟩)⟩;have:=(hR7.box.ext E8 n35).cell (i:=1) rfl;simpa using this
 have J1t:∀b,b=false→k≠7→¬ (k=8∨k=9)→m_M_j1 t p2 p3 p5 b w6 K:=by
  rintro _ rfl h7 h89;rw [if_neg h7,if_neg h89] at hq;unfold m_M_j1;refine Br.f rfl ?_;refine (jBG p3 p t false w6 hR6).mono ?_;rintro _ w7 ⟨x7,y7,rfl,hg,hR7,E7⟩;have ex:x7=(Sp.zV L t).1.1:=congrArg Prod.fst hg;have ey:y7=(Sp.zV L t).1.2:=congrArg Prod.snd hg;rw [← ex,← ey] at hq;have setr:∀v:Bool,Box (w7.setCell (p3.add 1) (.bool v)) p3 [.pointer p,.bool v] 141∧Ext (·=p3.block) w7 (w7.setCell (p3.add 1) (.bool v)):=fun v =>
   ⟨hR7.box.set 1 _,by have:=Ext.setCell (w:=w7) (p3.add 1) (.bool v);rw [zU] at this;exact this⟩
  have J3:∀(v:Bool) (w8:World),v=((Sp.zV L t).2 || !decide (x7=Sp.jIJ))→Box w8 p3 [.pointer p,.bool v] 141→Ext (·=p3.block) w7 w8→m_M_j3 p2 p3 p5 y7 w8 K:=by
   intro v w8 hv B8 E8;have E68:=E7.trans E8;have E68':Ext (fun b=>b=p3.block∨b=p5.block) w6 w8:=E68.mono (fun _ _ h=>.inl h);unfold m_M_j3;refine ⟨v,B8.cell rfl,fun h=>⟨v,B8.cell rfl,fun _=>bad1 w8 (by rw [hq,← hv,if_pos h]) E68',fun h'=>(by rw [h] at h';cases h')⟩,fun h=>?_⟩;rw [← hv,if_neg (by rw [h];simp)] at hq;subst h;unfold m_M_j2;refine (uU p3 p y7 2 false w8 ⟨B8,hR7.pool.ext E8 (fun b hb e=>hout (e▸hb)),hok,hout⟩).mono ?_;rintro _ w16 ⟨k3,f3,t3,u3,x3,a3,b3,rfl,hn3,hR3,E16⟩;have e3:u3=(Sp.zY L y7 2).1.num:=by rw [← hn3]
   rw [← e3] at hq;have E616:=E68.trans E16;refine ⟨_,_,_,_,_,_,_,rfl,bx 5 (c5.ext E616 n35.symm) rfl rfl (fun w17 b17 E17=>⟨(Sp.zY L y7 2).2,?_,fun h=>bad1 w17 (by rw [hq];exact h) (up E616 E17),fun h=>good1 w17 ⟨7,0,u3,⟨#[]⟩,false⟩ (by rw [hq,h]) (up E616 E17) b17⟩)⟩;have:=(hR3.box.ext E17 n35).cell (i:=1) rfl;simpa using this
  refine ⟨_,_,rfl,(Sp.zV L t).2,?_,fun h=>⟨hR7.box.canW (by simp),?_⟩,fun h=>⟨hR7.box.canW (by simp),?_⟩⟩
  ·have:=hR7.box.cell (i:=1) rfl;simpa using this
  ·intro w22 hw;exact J3 true w22 (by rw [h];rfl) (by rw [hw];exact (setr _).1) (by rw [hw];exact (setr _).2)
  ·intro w22 hw;exact J3 (!decide (x7=Sp.jIJ)) w22 (by rw [h];rfl) (by rw [hw];exact (setr _).1) (by rw [hw];exact (setr _).2)
 refine ⟨k,c4.cell0,fun h=>⟨f,c4.cell rfl,a,c4.cell rfl,?_⟩,fun h=>⟨fun h8=>?_,fun h8=>?_⟩⟩
 ·have h7:k=7:=by simpa using h
  rw [if_pos h7] at hq
  refine (jLW p3 p f a false w6 hR6).mono ?_
  rintro _ w7 ⟨k7,f7,c7,x7,g7,rfl,hl,hR7,E7⟩
  refine ⟨_,_,_,_,_,rfl,bx 5 (c5.ext E7 n35.symm) rfl rfl (fun w8 b8 E8=>⟨(Sp.vZ L f a).2,?_,fun h=>bad1 w8 (by rw [hq];exact h) (up E7 E8),fun h=>good1 w8 ⟨k7,f7,c7,x7,g7⟩ (by rw [hq,hl,← h]) (up E7 E8) b8⟩)⟩
  have:=(hR7.box.ext E8 n35).cell (i:=1) rfl
  simpa using this
 ·have h7:k≠7:=by simpa using h
  have h8:k=8:=by simpa using h8
  exact J1p _ (by simp [h8]) h7 (.inl h8)
 ·have h7:k≠7:=by simpa using h
  have h8:k≠8:=by simpa using h8
  by_cases h9:k=9
  ·exact J1p _ (by simp [h9]) h7 (.inr h9)
  ·exact J1t _ (by simpa using h9) h7 (by rintro (h | h) <;> omega)
theorem xA (p:Addr) (t:Int) (w:World) {L:Sp.Pool} {F:NP} (hP:zT w p L F) (hok:Sp.Ok L) :
  Calls prog 40 #[.pointer (some p),.int .i64 t] w
   (fun e w'=>∃k:Int,∃f:Int,∃c:Int,∃x:ByteArray,∃fk:Bool,∃ok:Bool,e=.returned (.tuple #[.agg #[.int .i64 k,.int .i64 f,.int .u64 c,.string x,.bool fk],.bool ok])∧(((⟨k,f,c,x,fk⟩:Sp.Letter),ok)=Sp.jNO L t∧Pure w w')):=jGG (some p) t w hP hok
end Go.Proofs
end
section
open Go Go.SE
namespace Go.Proofs
attribute [local irreducible] wpL wpX opE wpE Calls
end Go.Proofs
end
section
open Go Go.SE
namespace Go.Proofs
attribute [local irreducible] Calls
section
variable {w w':World} {k p:Addr} {G:List Int} {S:List Sp.Way} {ks:List Int} {sg sl:Sl} {m:Nat} {F:NP}
end
section
variable {w w':World} {k p:Addr} {G:List Int} {S:List Sp.Way} {F:NP}
end
section
variable {w0 w w':World} {H H':NP} {k p p1:Addr} {L:Sp.Pool} {G:List Int} {S S':List Sp.Way} {F F' F0 FP:NP}
end
end Go.Proofs
end
section
open Go Go.SE
namespace Go.Sp
def jUX (L:Pool) (S:List Way) (t:Int):Int×Int×Bool×Bool :=
 if inP L t=false then (0,0,false,false)
 else if jQJ (nodeOf L t).kind=true then (0,0,true,true)
 else if (nodeOf L t).kind=4 then ((nodeOf L t).a,(nodeOf L t).b,false,true)
 else if (nodeOf L t).kind=5 then ((nodeOf L t).a,0,false,true)
 else if (nodeOf L t).kind=6 then (0,0,false,false)
 else ((nodeOf L t).a,(jGC L (jKN (nodeOf L t))).1,false,(jGC L (jKN (nodeOf L t))).2 && decide ((jGC L (jKN (nodeOf L t))).1∈jAR S))
end Go.Sp
namespace Go.Proofs
open Tryz
attribute [local irreducible] Calls
theorem c_Has (p:Addr) (n:Sp.Node) (w0:World) {L:Sp.Pool} {F:NP} (hP:zT w0 p L F) (hok:Sp.Ok L) :
  Calls prog 216 #[.pointer (some p),jDW n] w0 (fun e w'=>∃r:Int,∃ok:Bool,e=.returned (.tuple #[.int .i64 r,.bool ok])∧((match Sp.find L n with | some i=>r=(i:Int)+1∧ok=true | none=>r=0∧ok=false)∧Pure w0 w')):=by
 obtain ⟨k,f,t,u,x,a,b⟩:=n
 generalize hn:(⟨k,f,t,u,x,a,b⟩:Sp.Node)=n
 have hkey:(Value.agg #[.int .i64 k,.int .i64 f,.int .i64 t,.int .u64 u,.string x,.int .i64 a,.int .i64 b])=jDW n:=by rw [← hn];rfl
 rw [← hkey]
 refine w_X2 _ _ _ _ _ _ _ _ w0 (fun r ok w'=>(match Sp.find L n with | some i=>r=(i:Int)+1∧ok=true | none=>r=0∧ok=false)∧Pure w0 w') ?_
 unfold m_X2
 intro p2 w1 h1
 have b1:=Box.of_new h1
 have E1:Pure w0 w1:=Ext.new h1
 refine Br.f rfl ?_
 rintro _ rfl
 have Ed:Pure w1 w1.drew:=Ext.drew w1
 have E2:=E1.trans Ed
 obtain ⟨s,m,hS,hF⟩:=hP.pure E2
 refine ⟨p,rfl,_,hS.box.cell (i:=1) rfl,_,_,_,_,_,_,_,(b1.pure Ed).row,?_⟩
 rw [hkey]
 rcases hS.map.lookup (P:=prog) (T:=93) (E:=23) underlying93 jAL jCF ⟨n,rfl⟩ (zeroValue23 _) true with ⟨hnot,hrun⟩ | ⟨i,v,hi,hrun⟩
 ·refine ⟨_,_,hrun,?_,E2⟩
  rw [find_none (jMP hnot)];exact ⟨rfl,rfl⟩
 ·obtain ⟨e,he,hen,rfl⟩:=jMQ hi
  refine ⟨_,_,hrun,?_,E2⟩
  rw [← hen,jQL hok he];exact ⟨by simp,rfl⟩
section
variable (p:Addr) (w0:World) {L:Sp.Pool} {F:NP} (hP:zT w0 p L F) (hok:Sp.Ok L)
include hP hok
end
end Go.Proofs
end
section
namespace Go.Proofs
theorem jUR {i y m:Nat} (hi:i≤8) (hy:y≤127) (hb:m*128 ^ (i+1)<18446744073709551616):(y+128*m)*128 ^ i<18446744073709551616:=by
 rw [Nat.pow_succ] at hb;obtain ⟨q,hq⟩:∃q,18446744073709551616=q*(128 ^ i*128):=by
  refine ⟨2 ^ (64 - 7*(i+1)),?_⟩;rw [show 128 ^ i*128=2 ^ (7*(i+1)) by rw [Nat.pow_mul];rfl,← Nat.pow_add,show 64 - 7*(i+1)+7*(i+1)=64 by omega]
 have hp:0<128 ^ i:=Nat.pow_pos (by omega);generalize 128 ^ i=P at *;rw [hq] at hb ⊢;have hm:m<q:=Nat.lt_of_mul_lt_mul_right hb;have h1:(y+128*m)*P<128*(m+1)*P:=Nat.mul_lt_mul_of_pos_right (by omega) hp;have h2:128*(m+1)*P≤128*q*P:=Nat.mul_le_mul_right _ (Nat.mul_le_mul_left _ hm);have h3:q*(P*128)=128*q*P:=by rw [Nat.mul_comm P,← Nat.mul_assoc,Nat.mul_comm q]
 omega
theorem jPQ:∀(l:List UInt8) (i acc n k:Nat),i≤9→xK i acc l=.ok (n,k)→∃m c,l=vS m++c∧n=acc+m*128 ^ i∧k=i+(vS m).length∧(0<i→0<m)∧m*128 ^ i<18446744073709551616:=by
 intro l;induction l with
 | nil=>intro i acc n k _ h;simp [xK] at h
 | cons x l ih =>
  intro i acc n k hi h
  have hx:=x.toNat_lt
  have hx8:UInt8.ofNat x.toNat=x:=by simp
  rw [tM] at h
  split at h
  ·cases h
  ·rename_i h9
   split at h
   ·rename_i h128
    split at h
    ·cases h
    ·rename_i hz
     cases h
     refine ⟨x.toNat,l,by rw [tH h128,hx8];rfl,rfl,by rw [tH h128];rfl,by omega,?_⟩
     have:i=0∨i=1∨i=2∨i=3∨i=4∨i=5∨i=6∨i=7∨i=8∨i=9:=by omega
     rcases this with rfl | rfl | rfl | rfl | rfl | rfl | rfl | rfl | rfl | rfl <;> omega
   ·rename_i h128
    have hi8:i≤8:=by omega
    obtain ⟨m,c,rfl,rfl,rfl,hp,hb⟩:=ih _ _ _ _ (by omega) h
    have hp:=hp (by omega)
    have hxm:0<x.toNat % 128+128*m:=by omega
    have e:x.toNat % 128+128*m=x.toNat % 128+128*m:=rfl
    refine ⟨x.toNat % 128+128*m,c,?_,?_,?_,fun _=>hxm,?_⟩
    ·rw [jBO (n:=x.toNat % 128+128*m) (by omega),List.cons_append]
     have e1:(x.toNat % 128+128*m) % 128+128=x.toNat:=by omega
     have e2:(x.toNat % 128+128*m) / 128=m:=by omega
     rw [e1,e2,hx8]
    ·rw [Nat.add_mul,Nat.pow_succ]
     have:m*(128 ^ i*128)=128*m*128 ^ i:=by rw [Nat.mul_comm (128 ^ i),← Nat.mul_assoc,Nat.mul_comm m]
     omega
    ·rw [jBO (n:=x.toNat % 128+128*m) (by omega),List.length_cons]
     have e2:(x.toNat % 128+128*m) / 128=m:=by omega
     rw [e2];omega
    ·exact jUR hi8 (by omega) hb
theorem jIX {l:List UInt8} {n k:Nat} (h:xK 0 0 l=.ok (n,k)):∃c,l=vS n++c∧k=(vS n).length∧n<18446744073709551616:=by
 obtain ⟨m,c,h1,h2,h3,_,h5⟩:=jPQ l 0 0 n k (by omega) h;simp at h2 h3 h5;subst h2;exact ⟨c,h1,h3,h5⟩
def Fld.same (n m:Sp.Node) (na nb ma mb:Nat):Fld→Prop
 | .from_=>n.frm.toNat=m.frm.toNat | .to_=>n.to.toNat=m.to.toNat | .num=>n.num.toNat=m.num.toNat | .text=>n.text=m.text | .fst=>na=ma | .snd=>nb=mb
theorem jQI {n:Sp.Node} (h:Fld.fst∈uI n.kind):n.a∈Sp.zM n:=by
 unfold uI at h;unfold Sp.zM Sp.shapeOf
 repeat' split at h
 all_goals first | (exfalso;revert h;decide) | skip
 all_goals (rename_i h1;rw [h1];simp)
theorem jPI {n:Sp.Node} (h:Fld.snd∈uI n.kind):n.b∈Sp.zM n:=by
 unfold uI at h;unfold Sp.zM Sp.shapeOf
 repeat' split at h
 all_goals first | (exfalso;revert h;decide) | skip
 all_goals (rename_i h1;rw [h1];simp)
theorem jNV {L:Sp.Pool} (hW:Sp.Wf L) {s t:Int} (hs:Sp.inP L s=true) (ht:Sp.inP L t=true) (h:Sp.nodeOf L s=Sp.nodeOf L t):s=t:=by
 obtain ⟨i,hi,rfl⟩:=Sp.jDO hs;obtain ⟨j,hj,rfl⟩:=Sp.jDO ht;rw [Sp.yK hi,Sp.yK hj] at h;have:=hW.ok.nodup;have e:i=j:=by
  refine (List.getElem_inj (h₀:=by simpa using hi) (h₁:=by simpa using hj) this).1 ?_;simpa using h
 rw [e]
def OrdF (L:Sp.Pool):List Int→List Int→Prop
 | _,[]=>True
 | seen,z :: l=>(∀k∈Sp.zM (Sp.nodeOf L z),k∈seen)∧OrdF L (seen++[z]) l
theorem jUS {L:Sp.Pool}:∀(l seen:List Int),(∀pre z post,l=pre++z :: post→∀k∈Sp.zM (Sp.nodeOf L z),k∈seen++pre)→OrdF L seen l:=by
 intro l;induction l with
 | nil=>intro _ _;trivial
 | cons z l ih =>
  intro seen h
  refine ⟨fun k hk=>by simpa using h [] z l rfl k hk,ih _ (fun pre y post e k hk=>?_)⟩
  have:=h (z :: pre) y post (by rw [e];rfl) k hk
  simpa using this
theorem jPY {L:Sp.Pool} (hW:Sp.Wf L) (t:Int):OrdF L [] (Sp.subs L t):=jUS _ _ (fun pre z post e k hk=>by rw [List.nil_append];exact Sp.jMA hW t pre z post e k hk)
theorem jPG {L:Sp.Pool} (hW:Sp.Wf L) {t u:Int} (h:u∈Sp.subs L t):Sp.inP L u=true:=have h:=(Sp.jHG hW).1 h;(Sp.Sub.le hW h.1 h.2).1
theorem jMD {L:Sp.Pool} (hW:Sp.Wf L) {t:Int} (h:Sp.inP L t=true):t∈Sp.subs L t:=(Sp.jHG hW).2 ⟨h,.refl _⟩
end Go.Proofs
end
section
namespace Go.Sp
theorem jEH {α β γ δ:Type} {f:α→γ} {g:β→γ} {f':α→δ} {g':β→δ}:∀{K1:List α} {K2:List β},K1.map f=K2.map g→(∀a∈K1,∀b∈K2,f a=g b→f' a=g' b)→K1.map f'=K2.map g':=by
 intro K1;induction K1 with
 | nil=>intro K2 h _;cases K2 with
  | nil=>rfl
  | cons b K2=>simp at h
 | cons a K1 ih=>intro K2 h hh;cases K2 with
  | nil=>simp at h
  | cons b K2 =>
   simp only [List.map_cons,List.cons.injEq] at h ⊢
   exact ⟨hh a (by simp) b (by simp) h.1,ih h.2 (fun x hx y hy=>hh x (List.mem_cons_of_mem _ hx) y (List.mem_cons_of_mem _ hy))⟩
theorem jEU {L M:Pool} (hL:Wf L) (hM:Wf M) {s t:Int} (hs:inP L s=true) (ht:inP M t=true) (h:zI L s=zI M t) :
  (nodeOf L s).kind=(nodeOf M t).kind∧(nodeOf L s).frm=(nodeOf M t).frm∧(nodeOf L s).to=(nodeOf M t).to∧(nodeOf L s).num=(nodeOf M t).num∧(nodeOf L s).text=(nodeOf M t).text∧(zM (nodeOf L s)).map (zI L)=(zM (nodeOf M t)).map (zI M):=by
 rw [qB hL hs,qB hM ht] at h
 simpa using h
theorem jPD {L M:Pool} (hL:Wf L) (hM:Wf M):∀(n:Nat) (s t:Int),s.toNat=n→inP L s=true→inP M t=true→zI L s=zI M t→sizeOf L s=sizeOf M t∧depthOf L s=depthOf M t:=by
 intro n;induction n using Nat.strongRecOn with
 | _ n ih =>
 intro s t hn hs ht h;have hk:=(jEU hL hM hs ht h).2.2.2.2.2;obtain ⟨_,_,_,_,c1,c2,c3⟩:=hL.node hs;obtain ⟨_,_,_,_,d1,d2,d3⟩:=hM.node ht;have key:∀a∈zM (nodeOf L s),∀b∈zM (nodeOf M t),zI L a=zI M b→sizeOf L a=sizeOf M b∧depthOf L a=depthOf M b:=fun a ha b hb e=>by
  have:=vF.1 (c1 a ha).1;exact ih a.toNat (by have:=(c1 a ha).2;omega) a b rfl (c1 a ha).1 (d1 b hb).1 e
 refine ⟨?_,?_⟩
 ·rw [c2,d2,jEH hk (fun a ha b hb e=>(key a ha b hb e).1)]
 ·have e:=jEH hk (fun a ha b hb e=>(key a ha b hb e).2);rw [c3,d3];have f1:∀(l:List Int) (P:Pool),l.foldl (fun d k=>max d (depthOf P k)) 0=(l.map (depthOf P)).foldl max 0:=fun l P=>by rw [List.foldl_map]
  rw [f1,f1,e]
theorem jUW {L:Pool} (hL:Wf L):∀{K1 K2:List Int},(∀k∈K1,inP L k=true)→(∀k∈K2,inP L k=true)→K1.map (zI L)=K2.map (zI L)→K1=K2:=by
 intro K1;induction K1 with
 | nil=>intro K2 _ _ h;cases K2 with
  | nil=>rfl
  | cons b K2=>simp at h
 | cons a K1 ih=>intro K2 h1 h2 h;cases K2 with
  | nil=>simp at h
  | cons b K2 =>
   simp only [List.map_cons,List.cons.injEq] at h
   rw [jCW hL _ a b rfl (h1 a (by simp)) (h2 b (by simp)) h.1,ih (fun k hk=>h1 k (List.mem_cons_of_mem _ hk)) (fun k hk=>h2 k (List.mem_cons_of_mem _ hk)) h.2]
structure Ren (L q:Pool) (z:Int) (n:Node):Prop where
 kind:n.kind=(nodeOf L z).kind
 frm:n.frm=(nodeOf L z).frm
 to:n.to=(nodeOf L z).to
 num:n.num=(nodeOf L z).num
 text:n.text=(nodeOf L z).text
 kin:∀k∈zM n,inP q k=true
 kids:(zM n).map (zI q)=(zM (nodeOf L z)).map (zI L)
 a0:(shapeOf n.kind).kids<1→n.a=0
 b0:(shapeOf n.kind).kids<2→n.b=0
theorem jQG {n m:Node} (hk:n.kind=m.kind) (h:zM n=zM m) (a1:(shapeOf n.kind).kids<1→n.a=0) (b1:(shapeOf n.kind).kids<2→n.b=0) (a2:(shapeOf m.kind).kids<1→m.a=0) (b2:(shapeOf m.kind).kids<2→m.b=0):n.a=m.a∧n.b=m.b:=by
 unfold zM at h;rw [← hk] at h a2 b2;rcases uL n.kind with e | e | e
 ·exact ⟨by rw [a1 (by omega),a2 (by omega)],by rw [b1 (by omega),b2 (by omega)]⟩
 ·rw [e] at h;simp at h;exact ⟨h,by rw [b1 (by omega),b2 (by omega)]⟩
 ·rw [e] at h;simpa using h
section
variable {L q:Pool} (hL:Wf L) (hq:Wf q) {z:Int} (hz:inP L z=true) {n:Node} (h:Ren L q z n)
include hL hq hz h
theorem Ren.check:check q n=(sizeOf L z,depthOf L z,0):=by
 obtain ⟨p1,p2,p3,p4,p5,p6,p7⟩:=hL.node hz;have e1:zZ n=0:=by
  have:zZ n=zZ (nodeOf L z):=by unfold zZ;rw [h.kind,h.frm,h.to,h.num,h.text]
  rw [this,p1]
 have e2:zX (shapeOf n.kind) n=0:=by
  have:zX (shapeOf n.kind) n=zX (shapeOf (nodeOf L z).kind) (nodeOf L z):=by unfold zX;rw [h.kind,h.frm,h.to,h.text]
  rw [this,p4]
 have key:∀a∈zM n,∀b∈zM (nodeOf L z),zI q a=zI L b→sizeOf q a=sizeOf L b∧depthOf q a=depthOf L b:=fun a ha b hb e=>jPD hq hL _ a b rfl (h.kin a ha) (p5 b hb).1 e;have e3:=jEH h.kids (fun a ha b hb e=>(key a ha b hb e).1);have e4:=jEH h.kids (fun a ha b hb e=>(key a ha b hb e).2);have f1:∀(l:List Int) (P:Pool),l.foldl (fun d k=>max d (depthOf P k)) 0=(l.map (depthOf P)).foldl max 0:=fun l P=>by rw [List.foldl_map]
 have s1:1+((zM n).map (sizeOf q)).sum=sizeOf L z:=by rw [e3,p6]
 have s2:(zM n).foldl (fun d k=>max d (depthOf q k)) 0+1=depthOf L z:=by rw [f1,e4,← f1,p7]
 have b1:=hL.ok.sizeOf z;have b2:=hL.ok.depthOf z;unfold Sp.check;simp only;rw [if_neg (by simpa using e1),if_neg,if_neg (by simpa using e2),if_neg,s1,s2,if_neg (by omega)]
 ·simp only [List.any_eq_true,not_exists,not_and];intro k hk;rw [h.kin k hk];decide
 ·have a0:=h.a0;have b0:=h.b0;simp only [Bool.or_eq_true,Bool.and_eq_true,decide_eq_true_eq,bne_iff_ne,ne_eq,not_or,not_and,Decidable.not_not];exact ⟨a0,b0⟩
omit hq in
theorem Ren.tree {v:Int} {M:Pool} (hM:Wf M) (hv:inP M v=true) (hn:nodeOf M v=n) (hk:∀k∈zM n,zI M k=zI q k):zI M v=zI L z:=by
 rw [qB hM hv,qB hL hz,hn,h.kind,h.frm,h.to,h.num,h.text,← h.kids];congr 1;exact List.map_congr_left hk
theorem Ren.node {v:Int} (hv:inP q v=true) (ht:zI q v=zI L z):nodeOf q v=n:=by
 obtain ⟨k1,k2,k3,k4,k5,k6⟩:=jEU hq hL hv hz ht;obtain ⟨_,c2,c3,_,c5,_⟩:=hq.node hv;have hkk:=jUW hq (fun k hk=>(c5 k hk).1) h.kin (k6.trans h.kids.symm);obtain ⟨ea,eb⟩:=jQG (k1.trans h.kind.symm) hkk c2 c3 h.a0 h.b0;have g1:=h.kind;have g2:=h.frm;have g3:=h.to;have g4:=h.num;have g5:=h.text;generalize nodeOf q v=m at *;generalize nodeOf L z=o at *;cases m;cases n;simp_all
theorem Ren.find_none (hn:∀v,inP q v=true→zI q v≠zI L z):find q n=none:=by
 cases hf:find q n with
 | none=>rfl
 | some i =>
  exfalso
  obtain ⟨hi,e⟩:=jFR hf
  have hv:inP q ((i:Int)+1)=true:=vF.2 ⟨by omega,by omega⟩
  exact hn _ hv (h.tree hL hz hq hv (by rw [yK hi,e]) (fun _ _=>rfl))
theorem Ren.find_old {v:Int} (hv:inP q v=true) (ht:zI q v=zI L z):find q n=some (v - 1).toNat:=by
 have hn:=h.node hL hq hz hv ht;cases hf:find q n with
 | none =>
  exfalso
  unfold find at hf
  rw [List.findIdx?_eq_none_iff] at hf
  obtain ⟨i,hi,rfl⟩:=jDO hv
  rw [yK hi] at hn
  have:=hf q[i] (List.getElem_mem hi)
  simp at this;exact this hn
 | some i =>
  obtain ⟨hi,e⟩:=jFR hf
  have hv2:inP q ((i:Int)+1)=true:=vF.2 ⟨by omega,by omega⟩
  have:=Go.Proofs.jNV hq hv2 hv (by rw [yK hi,e,hn])
  rw [← this];simp
theorem Ren.make_old {v:Int} (hv:inP q v=true) (ht:zI q v=zI L z):make q n=(v,0,q):=by
 have hc:=h.check hL hq hz;have hf:=h.find_old hL hq hz hv ht;have h1:=(vF.1 hv).1;unfold make;simp only [hc,hf];rw [if_neg (by simp)];simp only [Prod.mk.injEq,and_true];omega
theorem Ren.make_new (hn:∀v,inP q v=true→zI q v≠zI L z) (hl:q.length<65536):make q n=((q.length:Int)+1,0,q++[⟨n,sizeOf L z,depthOf L z⟩]):=by
 have hc:=h.check hL hq hz;have hf:=h.find_none hL hq hz hn;unfold make;simp only [hc,hf];rw [if_neg (by simp),if_neg (by omega)]
theorem Ren.make_full (hl:¬ q.length<65536) (hn:∀v,inP q v=true→zI q v≠zI L z):make q n=(0,6,q):=by
 have hc:=h.check hL hq hz;have hf:=h.find_none hL hq hz hn;unfold make;simp only [hc,hf];rw [if_neg (by simp),if_pos (by omega)]
theorem Ren.made (h0:(make q n).2.1=0):Wf (make q n).2.2∧inP (make q n).2.2 (make q n).1=true∧zI (make q n).2.2 (make q n).1=zI L z∧∀v,inP q v=true→inP (make q n).2.2 v=true∧zI (make q n).2.2 v=zI q v:=by
 have hw:=jFL hq n;obtain ⟨M,e⟩:=jEI q n;obtain ⟨m1,m2,_⟩:=jCH h0;have hold:∀v,inP q v=true→inP (make q n).2.2 v=true∧zI (make q n).2.2 v=zI q v:=fun v hv=>by
  rw [e] at hw ⊢;exact ⟨jHP hv,jGL hw _ v rfl hv⟩
 exact ⟨hw,m1,h.tree hL hz hw m1 m2 (fun k hk=>(hold k (h.kin k hk)).2),hold⟩
theorem Ren.err:(make q n).2.1=0∨(make q n).2.1=6∧65536≤q.length∧∀v,inP q v=true→zI q v≠zI L z:=by
 by_cases hx:∃v,inP q v=true∧zI q v=zI L z
 ·obtain ⟨v,hv,ht⟩:=hx;rw [h.make_old hL hq hz hv ht];exact .inl rfl
 ·have hx:∀v,inP q v=true→zI q v≠zI L z:=fun v hv e=>hx ⟨v,hv,e⟩;by_cases hl:q.length<65536
  ·rw [h.make_new hL hq hz hx hl];exact .inl rfl
  ·rw [h.make_full hL hq hz hl hx];exact .inr ⟨rfl,by omega,hx⟩
end
end Go.Sp
end
section
namespace Go.Sp
open Go.Proofs
structure Cp (Lq L:Pool) (own:Int→Int) (seen:List Int):Prop where
 wf:Wf L
 inn:∀s∈seen,inP Lq s=true
 at_:∀s∈seen,inP L (own s)=true∧zI L (own s)=zI Lq s
 out:∀x,x ∉ seen→own x=0
theorem jGU (n:Node) (own:Int→Int):zM { n with a:=own n.a,b:=own n.b }=(zM n).map own:=by
 unfold zM;simp only [List.map_take,List.map_cons,List.map_nil]
theorem Cp.ren {Lq L:Pool} {own:Int→Int} {seen:List Int} (h:Cp Lq L own seen) (hq:Wf Lq) {z:Int} (hz:inP Lq z=true) (hk:∀k∈zM (nodeOf Lq z),k∈seen) :
  Ren Lq L z { nodeOf Lq z with a:=own (nodeOf Lq z).a,b:=own (nodeOf Lq z).b }:=by
 obtain ⟨_,c2,c3,_⟩:=hq.node hz
 have o0:own 0=0:=h.out 0 (fun h0=>by have:=(vF.1 (h.inn 0 h0)).1;omega)
 refine ⟨rfl,rfl,rfl,rfl,rfl,?_,?_,fun e=>by simp only;rw [c2 e,o0],fun e=>by simp only;rw [c3 e,o0]⟩
 ·intro k hk2
  rw [jGU] at hk2
  obtain ⟨x,hx,rfl⟩:=List.mem_map.1 hk2
  exact (h.at_ x (hk x hx)).1
 ·rw [jGU,List.map_map]
  exact List.map_congr_left (fun x hx=>(h.at_ x (hk x hx)).2)
theorem Cp.step {Lq L:Pool} {own:Int→Int} {seen:List Int} (h:Cp Lq L own seen) (hq:Wf Lq) {z:Int} (hz:inP Lq z=true) (hk:∀k∈zM (nodeOf Lq z),k∈seen) {n:Node} (hn:Ren Lq L z n) (h0:(make L n).2.1=0) :
  Cp Lq (make L n).2.2 (fun x=>if x=z then (make L n).1 else own x) (seen++[z]):=by
 obtain ⟨m1,m2,m3,m4⟩:=hn.made hq h.wf hz h0
 refine ⟨m1,fun s hs=>?_,fun s hs=>?_,fun x hx=>?_⟩
 ·rcases List.mem_append.1 hs with hs | hs
  ·exact h.inn s hs
  ·rw [List.mem_singleton] at hs;subst hs;exact hz
 ·by_cases e:s=z
  ·subst e;simp only [if_true];exact ⟨m2,m3⟩
  ·simp only [if_neg e]
   have hs:s∈seen:=(List.mem_append.1 hs).resolve_right (fun hs=>e (List.mem_singleton.1 hs))
   obtain ⟨a1,a2⟩:=h.at_ s hs
   exact ⟨(m4 _ a1).1,(m4 _ a1).2.trans a2⟩
 ·simp only [List.mem_append,List.mem_singleton,not_or] at hx
  rw [if_neg hx.2];exact h.out x hx.1
theorem jQA (L:Pool) (n:Node):(make L n).2.2.length≤L.length+1:=by
 rcases jFM L n with e | ⟨_,e⟩ <;> rw [e] <;> simp
theorem yX (Lq:Pool) (z:Int) (l:List Int) (L:Pool) (own:Int→Int) {n:Node} (hn:{ nodeOf Lq z with a:=own (nodeOf Lq z).a,b:=own (nodeOf Lq z).b }=n) {x e:Int} {L':Pool} (hm:make L n=(x,e,L')) :
  vK Lq (z :: l) L own=if e≠0 then (L,e,own) else vK Lq l L' (fun y=>if y=z then x else own y):=by
 subst hn
 show (if (make L _).2.1≠0 then _ else _)=_
 rw [hm]
theorem jQS {Lq:Pool} (hq:Wf Lq):∀(l seen:List Int) (L:Pool) (own:Int→Int),Cp Lq L own seen→(∀z∈l,inP Lq z=true)→OrdF Lq seen l →
  ((vK Lq l L own).2.1=0∧Cp Lq (vK Lq l L own).1 (vK Lq l L own).2.2 (seen++l))∨((vK Lq l L own).2.1=6∧¬ (L.length+l.length≤65536)):=by
 intro l
 induction l with
 | nil=>intro seen L own h _ _;exact .inl ⟨rfl,by rw [List.append_nil];exact h⟩
 | cons z l ih =>
  intro seen L own h hl ho
  have hz:=hl z (by simp)
  have hn:=h.ren hq hz ho.1
  generalize hnn:({ nodeOf Lq z with a:=own (nodeOf Lq z).a,b:=own (nodeOf Lq z).b }:Node)=n at hn
  have hf:=jQA L n
  have he:=hn.err hq h.wf hz
  have hs:=fun h0=>h.step hq hz ho.1 hn h0
  obtain ⟨x,e,L',hm⟩:∃x e L',make L n=(x,e,L'):=⟨_,_,_,rfl⟩
  rw [yX Lq z l L own hnn hm]
  rw [hm] at hf he hs
  simp only at hf he hs
  rcases he with rfl | ⟨rfl,hg,_⟩
  ·rw [if_neg (by simp)]
   rcases ih _ _ _ (hs rfl) (fun x hx=>hl x (List.mem_cons_of_mem _ hx)) ho.2 with ⟨e1,e2⟩ | ⟨e1,e2⟩
   ·exact .inl ⟨e1,by rw [List.append_assoc,List.singleton_append] at e2;exact e2⟩
   ·refine .inr ⟨e1,fun hle=>e2 ?_⟩
    rw [List.length_cons] at hle;omega
  ·rw [if_pos (by simp)]
   exact .inr ⟨rfl,by rw [List.length_cons];omega⟩
theorem Cp.start {Lq L:Pool} (hL:Wf L):Cp Lq L (fun _=>0) []:=⟨hL,fun _ h=>(by cases h),fun _ h=>(by cases h),fun _ _=>rfl⟩
theorem jQQ {L Lq:Pool} (hL:Wf L) (hq:Wf Lq) (t:Int):(uG L Lq t).2.1=0∨((uG L Lq t).1=0∧(uG L Lq t).2.2=L):=by
 unfold uG;split
 ·simp only;split
  ·exact .inr ⟨rfl,rfl⟩
  ·exact .inl rfl
 ·exact .inr ⟨rfl,rfl⟩
theorem jSZ {L Lq:Pool} (hL:Wf L) (hq:Wf Lq) {t:Int} (ht:inP Lq t=true) (h0:(uG L Lq t).2.1=0) :
  Wf (uG L Lq t).2.2∧inP (uG L Lq t).2.2 (uG L Lq t).1=true∧zI (uG L Lq t).2.2 (uG L Lq t).1=zI Lq t:=by
 have h:=jQS hq (subs Lq t) [] L (fun _=>0) (Cp.start hL) (fun z hz=>jPG hq hz) (jPY hq t)
 unfold uG at *
 rw [if_pos ht] at *
 simp only at *
 split at h0
 ·rename_i h1;exact absurd h0 h1
 ·rename_i h1
  rw [if_neg h1]
  simp only
  rcases h with ⟨_,h⟩ | ⟨h6,_⟩
  ·rw [List.nil_append] at h
   have:=h.at_ t (jMD hq ht)
   exact ⟨h.wf,this.1,this.2⟩
  ·exact absurd (by rw [h6];decide) h1
theorem jGQ {L M:Pool} (hL:Wf L) (hM:Wf M) {a b:Int} (ha:inP L a=true) (hb:inP M b=true) (e:zI L a=zI M b):∀(l1 l2:List Int),(∀x∈l1,inP L x=true)→(∀x∈l2,inP M x=true)→l1.map (zI L)=l2.map (zI M)→posOf l1 a=posOf l2 b:=by
 intro l1;induction l1 with
 | nil=>intro l2 _ _ h;cases l2 with
  | nil=>rfl
  | cons y l2=>simp at h
 | cons x l1 ih=>intro l2 h1 h2 h;cases l2 with
  | nil=>simp at h
  | cons y l2 =>
   simp only [List.map_cons,List.cons.injEq] at h
   have hi:=ih l2 (fun k hk=>h1 k (List.mem_cons_of_mem _ hk)) (fun k hk=>h2 k (List.mem_cons_of_mem _ hk)) h.2
   have hxy:(x == a)=(y == b):=by
    by_cases ex:x=a
    ·have:y=b:=jCW hM _ y b rfl (h2 y (by simp)) hb (by rw [← h.1,ex,e]);simp [ex,this]
    ·have:y≠b:=fun ey=>ex (jCW hL _ x a rfl (h1 x (by simp)) ha (by rw [h.1,ey,e]));rw [beq_false_of_ne ex,beq_false_of_ne this]
   unfold posOf at *
   rw [List.idxOf_cons,List.idxOf_cons,hxy,hi]
theorem jHF {L M:Pool} (hL:Wf L) (hM:Wf M):∀(l1 l2 s1 s2:List Int),(∀x∈l1,inP L x=true)→(∀x∈l2,inP M x=true)→(∀x∈s1,inP L x=true)→(∀x∈s2,inP M x=true)→l1.map (zI L)=l2.map (zI M)→s1.map (zI L)=s2.map (zI M)→textFrom L s1 l1=textFrom M s2 l2:=by
 intro l1;induction l1 with
 | nil=>intro l2 s1 s2 _ _ _ _ h _;cases l2 with
  | nil=>rfl
  | cons y l2=>simp at h
 | cons x l1 ih=>intro l2 s1 s2 h1 h2 h3 h4 h h5;cases l2 with
  | nil=>simp at h
  | cons y l2 =>
   simp only [List.map_cons,List.cons.injEq] at h
   have hx:=h1 x (by simp)
   have hy:=h2 y (by simp)
   obtain ⟨k1,k2,k3,k4,k5,k6⟩:=jEU hL hM hx hy h.1
   obtain ⟨_,_,_,_,c5,_⟩:=hL.node hx
   obtain ⟨_,_,_,_,d5,_⟩:=hM.node hy
   have hi:=ih l2 (s1++[x]) (s2++[y]) (fun k hk=>h1 k (List.mem_cons_of_mem _ hk)) (fun k hk=>h2 k (List.mem_cons_of_mem _ hk))
    (fun k hk=>by rcases List.mem_append.1 hk with hk | hk;exact h3 k hk;rw [List.mem_singleton] at hk;subst hk;exact hx)
    (fun k hk=>by rcases List.mem_append.1 hk with hk | hk;exact h4 k hk;rw [List.mem_singleton] at hk;subst hk;exact hy) h.2 (by simp [h5,h.1])
   rw [textFrom,textFrom,hi]
   congr 1
   unfold uY
   rw [k1]
   congr 1
   have hf:∀f∈uI (nodeOf M y).kind,f.bytes (nodeOf L x) (posOf s1 (nodeOf L x).a) (posOf s1 (nodeOf L x).b)=f.bytes (nodeOf M y) (posOf s2 (nodeOf M y).a) (posOf s2 (nodeOf M y).b):=by
    intro f hf;have hk1:Fld.fst∈uI (nodeOf M y).kind→posOf s1 (nodeOf L x).a=posOf s2 (nodeOf M y).a:=fun hf=>by
     have m1:=jQI (n:=nodeOf L x) (by rw [k1];exact hf);have m2:=jQI hf;refine jGQ hL hM (c5 _ m1).1 (d5 _ m2).1 ?_ s1 s2 h3 h4 h5;unfold zM at k6 m1;rw [k1] at k6 m1;rcases uL (nodeOf M y).kind with e | e | e <;> rw [e] at k6 m1 <;> simp at k6 m1
     ·exact k6
     ·exact k6.1
    have hk2:Fld.snd∈uI (nodeOf M y).kind→posOf s1 (nodeOf L x).b=posOf s2 (nodeOf M y).b:=fun hf=>by
     have m1:=jPI (n:=nodeOf L x) (by rw [k1];exact hf);have m2:=jPI hf;have e:(shapeOf (nodeOf M y).kind).kids=2:=by
      unfold uI at hf
      repeat' split at hf
      all_goals first | (exfalso;revert hf;decide) | skip
      all_goals (rename_i h4;rw [h4];rfl)
     refine jGQ hL hM (c5 _ m1).1 (d5 _ m2).1 ?_ s1 s2 h3 h4 h5;unfold zM at k6;rw [k1,e] at k6;simp at k6;exact k6.2
    cases f
    ·simp only [Fld.bytes,k2]
    ·simp only [Fld.bytes,k3]
    ·simp only [Fld.bytes,k4]
    ·simp only [Fld.bytes,k5]
    ·simp only [Fld.bytes,hk1 hf]
    ·simp only [Fld.bytes,hk2 hf]
   have cg:∀(fs:List Fld) (g1 g2:Fld→List UInt8),(∀f∈fs,g1 f=g2 f)→fs.flatMap g1=fs.flatMap g2:=by
    intro fs g1 g2;induction fs with
    | nil=>intro _;rfl
    | cons f fs ihf=>intro hh;rw [List.flatMap_cons,List.flatMap_cons,hh f (by simp),ihf (fun x hx=>hh x (List.mem_cons_of_mem _ hx))]
   exact cg _ _ _ hf
def jFI:Nat→List Int
 | 0=>[]
 | n+1=>jFI n++[(n:Int)+1]
theorem jEG (n:Nat):(jFI n).length=n:=by induction n with
 | zero=>rfl
 | succ n ih=>simp [jFI,ih]
theorem jHM {n:Nat} {x:Int}:x∈jFI n↔1≤x∧x≤n:=by
 induction n with
 | zero=>simp [jFI];omega
 | succ n ih=>simp only [jFI,List.mem_append,ih,List.mem_singleton];omega
theorem jMR {n:Nat}:∀{x:Int},1≤x→x≤n→posOf (jFI n) x=(x - 1).toNat:=by
 induction n with
 | zero=>intro x h1 h2;omega
 | succ n ih =>
  intro x h1 h2
  rw [jFI]
  by_cases h:x≤n
  ·rw [jPU (jHM.2 ⟨h1,h⟩),ih h1 h]
  ·have:x=(n:Int)+1:=by omega
   subst this
   rw [jPT (by rw [jHM];omega),jEG];omega
theorem jSL {n:Nat} {j:Nat} (h:j<(jFI n).length):(jFI n)[j]=(j:Int)+1:=by
 induction n with
 | zero=>simp [jFI] at h
 | succ n ih =>
  simp only [jFI]
  rw [List.getElem_append]
  split
  ·exact ih _
  ·rename_i h1
   have:j=n:=by rw [jEG] at h h1;omega
   subst this;simp
def _root_.Go.Proofs.Fld.said (x:Raw):Fld→List UInt8
 | .from_=>vS x.frm | .to_=>vS x.to | .num=>vS x.num | .text=>yG ⟨x.text.toArray⟩ | .fst=>vS x.a | .snd=>vS x.b
theorem jPR:∀{l:List UInt8} {i n x:Nat},xK i n l=.error x→x≠0:=by
 intro l;induction l with
 | nil=>intro i n x h;simp [xK] at h;omega
 | cons c l ih =>
  intro i n x h
  rw [tM] at h
  split at h
  ·cases h;decide
  ·split at h
   ·split at h
    ·cases h;decide
    ·cases h
   ·exact ih h
theorem yS {bs:List UInt8} {r:Rd} (h:(qN bs r).2.err=0):r.err=0∧bs.drop r.at_=vS (qN bs r).1++bs.drop (qN bs r).2.at_∧(qN bs r).1<18446744073709551616:=by
 unfold qN at h ⊢;by_cases he:r.err=0
 ·rw [if_pos he] at h ⊢;cases hr:xK 0 0 (bs.drop r.at_) with
  | error x =>
   rw [hr] at h
   simp only at h
   exact absurd h (jPR hr)
  | ok p =>
   obtain ⟨n,k⟩:=p
   obtain ⟨c,h1,h2,h3⟩:=jIX hr
   refine ⟨he,?_,h3⟩
   simp only
   rw [← List.drop_drop,h1,h2,List.drop_left]
 ·rw [if_neg he] at h;exact absurd h he
theorem jPS {bs:List UInt8} {r:Rd} (h:(qR bs 64 r).2.err=0):r.err=0∧bs.drop r.at_=yG ⟨(qR bs 64 r).1.toArray⟩++bs.drop (qR bs 64 r).2.at_:=by
 have hn:=@yS bs r;unfold qN at hn;unfold qR at h ⊢;by_cases he:r.err=0
 ·rw [if_pos he] at h hn ⊢;cases hr:xK 0 0 (bs.drop r.at_) with
  | error x =>
   rw [hr] at h hn
   simp only at h hn
   exact absurd (hn h).2.1 (by
    have:=(hn h).2.1;intro _;have hl:=congrArg List.length this;rw [List.length_append,tH (by omega)] at hl;simp at hl)
  | ok p =>
   obtain ⟨n,k⟩:=p
   rw [hr] at h hn
   simp only at h hn ⊢
   obtain ⟨c,h1,h2,h3⟩:=jIX hr
   split at h
   ·simp at h
   ·rename_i h64
    rw [if_neg h64]
    split at h
    ·simp at h
    ·rename_i hlen
     rw [if_neg hlen]
     refine ⟨he,?_⟩
     simp only
     have hd:bs.drop (r.at_+k)=c:=by rw [← List.drop_drop,h1,h2,List.drop_left]
     have hcl:n≤c.length:=by rw [← hd,List.length_drop];omega
     have hs:(ByteArray.mk (c.take n).toArray).size=n:=by show (c.take n).toArray.size=n;simp;omega
     have hd2:bs.drop (r.at_+k+n)=c.drop n:=by rw [← List.drop_drop,hd]
     rw [hd,hd2]
     unfold yG
     rw [hs,h1,List.append_assoc]
     congr 1
     simp
 ·rw [if_neg he] at h;exact absurd h he
theorem jVE {bs:List UInt8} {r:Rd} {x:Raw} (f:Fld) (h:(f.rd bs r).err=0):r.err=0∧bs.drop r.at_=f.said (f.raw bs r x)++bs.drop (f.rd bs r).at_:=by
 cases f
 ·exact ⟨(yS h).1,(yS h).2.1⟩
 ·exact ⟨(yS h).1,(yS h).2.1⟩
 ·exact ⟨(yS h).1,(yS h).2.1⟩
 ·exact jPS h
 ·exact ⟨(yS h).1,(yS h).2.1⟩
 ·exact ⟨(yS h).1,(yS h).2.1⟩
theorem jPL {bs:List UInt8} {r:Rd} {x:Raw} {f g:Fld} (h:f≠g):f.said (g.raw bs r x)=f.said x:=by
 cases f <;> cases g <;> first | rfl | exact absurd rfl h
theorem jLA {bs:List UInt8} {f:Fld}:∀(fs:List Fld) (x:Raw) (r:Rd),f ∉ fs→f.said (qE bs fs (x,r)).1=f.said x:=by
 intro fs;induction fs with
 | nil=>intro x r _;rfl
 | cons g fs ih =>
  intro x r h
  simp only [List.mem_cons,not_or] at h
  rw [qE,ih _ _ h.2,jPL h.1]
theorem jNR {bs:List UInt8}:∀(fs:List Fld) (x:Raw) (r:Rd),fs.Nodup→(qE bs fs (x,r)).2.err=0→r.err=0∧bs.drop r.at_=fs.flatMap (fun f=>f.said (qE bs fs (x,r)).1)++bs.drop (qE bs fs (x,r)).2.at_:=by
 intro fs;induction fs with
 | nil=>intro x r _ h;exact ⟨h,rfl⟩
 | cons f fs ih =>
  intro x r hn h
  rw [qE] at h ⊢
  rw [List.nodup_cons] at hn
  obtain ⟨h1,h2⟩:=ih _ _ hn.2 h
  obtain ⟨h3,h4⟩:=jVE (x:=x) f h1
  refine ⟨h3,?_⟩
  rw [List.flatMap_cons,h4,h2,jLA fs _ _ hn.1,List.append_assoc]
theorem jOE (k:Int):(uI k).Nodup:=by
 unfold uI;repeat' split
 all_goals decide
theorem jUU {bs:List UInt8}:∀(fs:List Fld) (x:Raw) (r:Rd),(x.num<18446744073709551616)→(qE bs fs (x,r)).1.num<18446744073709551616:=by
 intro fs;induction fs with
 | nil=>intro x r h;exact h
 | cons f fs ih =>
  intro x r h
  rw [qE]
  refine ih _ _ ?_
  cases f <;> try exact h
  simp only [Fld.raw]
  by_cases he:(qN bs r).2.err=0
  ·exact (yS he).2.2
  ·unfold qN at he ⊢
   split
   ·rename_i h1
    rw [if_pos h1] at he
    split
    ·rename_i hk
     rw [hk] at he
     exact absurd rfl he
    ·simp
   ·simp
theorem jJK {bs:List UInt8} {k:Int} (h1:1≤k) (h9:k≤9) (r:Rd):(qE bs (uI k) (jBE,r)).1.kids=(shapeOf k).kids.toNat∧(Fld.fst∈uI k↔0<(shapeOf k).kids)∧(Fld.snd∈uI k↔1<(shapeOf k).kids):=by
 have:k=1∨k=2∨k=3∨k=4∨k=5∨k=6∨k=7∨k=8∨k=9:=by omega
 rcases this with rfl | rfl | rfl | rfl | rfl | rfl | rfl | rfl | rfl <;> simp [uI,qE,Fld.raw,jBE,shapeOf]
theorem jNQ {bs:List UInt8} {q:Pool} {r:Rd} (hW:Wf q) (hN:jAQ q) (hl:r.at_<bs.length) (he:r.err=0) (h0:(vT bs q r).2.1=0) :
  Wf (vT bs q r).1∧jAQ (vT bs q r).1∧(vT bs q r).1.length=q.length+1∧(∀v,inP q v=true→inP (vT bs q r).1 v=true∧zI (vT bs q r).1 v=zI q v) ∧
  bs.drop r.at_=uY (vT bs q r).1 (jFI q.length) ((q.length:Int)+1)++bs.drop (vT bs q r).2.2.at_:=by
 rw [jCC bs q r hl he] at h0 ⊢
 have hcons:bs.drop r.at_=bs[r.at_] :: bs.drop (r.at_+1):=List.drop_eq_getElem_cons hl
 have hb8:UInt8.ofNat bs[r.at_].toNat=bs[r.at_]:=by simp
 generalize bs[r.at_]=c at *
 split at h0
 ·rename_i hk
  rw [if_pos hk]
  have hk1:1≤c.toNat∧c.toNat≤9:=by unfold jDC at hk;simpa using hk
  have hfl:=@jNR bs (uI c.toNat) jBE ⟨r.at_+1,0,r.spot⟩ (jOE _)
  have hnum:=@jUU bs (uI c.toNat) jBE ⟨r.at_+1,0,r.spot⟩ (by decide)
  obtain ⟨hkd,hk2,hk3⟩:=@jJK bs (c.toNat:Int) (by omega) (by omega) ⟨r.at_+1,0,r.spot⟩
  generalize qE bs (uI c.toNat) (jBE,⟨r.at_+1,0,r.spot⟩)=s at *
  obtain ⟨x,r'⟩:=s
  simp only at *
  obtain ⟨e1,e2,e3,e4,e5⟩:=jFG h0
  simp only at e1 e2 e3 e4 e5
  rw [e5]
  simp only
  obtain ⟨_,hfl⟩:=hfl e1
  obtain ⟨m1,m2,m3⟩:=jCH e4
  have hw:=jFL hW (x.node c.toNat)
  have hnn:jAQ (make q (x.node c.toNat)).2.2:=hN.make (by simp only [Raw.node,tX];omega)
  have hmk:(make q (x.node c.toNat)).1=(q.length:Int)+1∧(make q (x.node c.toNat)).2.2.length=q.length+1:=by
   have hc:=m3;unfold make at e4 ⊢;simp only [e3] at e4 ⊢;rw [if_neg (by rw [hc];simp)] at e4 ⊢;split at e4
   ·simp at e4
   ·rename_i hf;rw [if_neg hf];exact ⟨rfl,by simp⟩
  obtain ⟨M,eM⟩:=jEI q (x.node c.toNat)
  refine ⟨hw,hnn,hmk.2,fun v hv=>?_,?_⟩
  ·rw [eM] at hw ⊢;exact ⟨jHP hv,jGL hw _ v rfl hv⟩
  ·rw [hmk.1] at m2
   rw [hcons,hfl]
   unfold uY
   rw [m2]
   have hkk:(x.node c.toNat).kind=c.toNat:=rfl
   rw [hkk,Int.toNat_natCast,hb8,List.cons_append]
   congr 1
   congr 1
   have hne:nodeErr c.toNat q.length x r'.err=0:=e2
   unfold nodeErr at hne
   rw [if_neg (by omega)] at hne
   split at hne
   ·simp at hne
   ·split at hne
    ·simp at hne
    ·rename_i href
     have cg:∀(fs:List Fld) (g1 g2:Fld→List UInt8),(∀f∈fs,g1 f=g2 f)→fs.flatMap g1=fs.flatMap g2:=by
      intro fs g1 g2;induction fs with
      | nil=>intro _;rfl
      | cons f fs ihf=>intro hh;rw [List.flatMap_cons,List.flatMap_cons,hh f (by simp),ihf (fun x hx=>hh x (List.mem_cons_of_mem _ hx))]
     refine cg _ _ _ (fun f hf=>?_)
     cases f
     ·simp [Fld.said,Fld.bytes,Raw.node]
     ·simp [Fld.said,Fld.bytes,Raw.node]
     ·simp [Fld.said,Fld.bytes,Raw.node]
     ·simp [Fld.said,Fld.bytes,Raw.node]
     ·have h2:=hk2.1 hf
      have hx:0<x.kids:=by omega
      have ha:x.a<q.length:=by omega
      simp only [Fld.said,Fld.bytes,Raw.node,if_pos hx]
      rw [jMR (by omega) (by omega)]
      congr 1;omega
     ·have h2:=hk3.1 hf
      have hx:1<x.kids:=by omega
      have ha:x.b<q.length:=by omega
      simp only [Fld.said,Fld.bytes,Raw.node,if_pos hx]
      rw [jMR (by omega) (by omega)]
      congr 1;omega
 ·simp at h0
theorem jSE {bs:List UInt8}:∀(fuel:Nat) (q:Pool) (r:Rd) (ps:List Nat) (q':Pool),Wf q→jAQ q→ps.length=q.length→r.err=0→r.at_≤bs.length→bs.length - r.at_≤fuel→bs.take r.at_=textFrom q [] (jFI q.length)→(jKY bs fuel q r ps).1=some q' →
  Wf q'∧jAQ q'∧q.length≤q'.length∧bs=textFrom q' [] (jFI q'.length)∧q'.length≤inRow 0 (subs q' q'.length):=by
 have hend:∀(q:Pool) (ps:List Nat) (q':Pool),ps.length=q.length→(jDV q ps).1=some q'→q=q'∧q.length≤inRow 0 (subs q q.length):=by
  intro q ps q' hp h;unfold jDV at h;simp only at h;split at h
  ·cases h
  ·cases h;exact ⟨rfl,by omega⟩
 intro fuel
 induction fuel with
 | zero =>
  intro q r ps q' hW hN hp he hat hf ht h
  obtain ⟨rfl,h2⟩:=hend q ps q' hp h
  rw [List.take_of_length_le (by omega)] at ht
  exact ⟨hW,hN,Nat.le_refl _,ht,h2⟩
 | succ fuel ih =>
  intro q r ps q' hW hN hp he hat hf ht h
  by_cases hl:r.at_<bs.length
  ·rw [jKY,if_pos hl] at h
   by_cases h0:(vT bs q r).2.1=0
   ·rw [if_neg (by simpa using h0)] at h
    obtain ⟨s1,s2,s3,s4,s5⟩:=jNQ hW hN hl he h0
    obtain ⟨a1,a2,a3⟩:=jIU bs q r hl he h0
    have htake:bs.take (vT bs q r).2.2.at_=textFrom (vT bs q r).1 [] (jFI (vT bs q r).1.length):=by
     have hold:∀z∈jFI q.length,inP q z=true:=fun z hz=>vF.2 (jHM.1 hz);have hsame:textFrom q [] (jFI q.length)=textFrom (vT bs q r).1 [] (jFI q.length) :=
      jHF hW s1 _ _ [] [] hold (fun z hz=>(s4 z (hold z hz)).1) (by simp) (by simp) (List.map_congr_left (fun z hz=>((s4 z (hold z hz)).2).symm)) rfl
     rw [s3,jFI,jBV,List.nil_append,← hsame,← ht];have hsplit:bs.take (vT bs q r).2.2.at_=bs.take r.at_++(bs.drop r.at_).take ((vT bs q r).2.2.at_ - r.at_):=by
      rw [← List.take_add];congr 1;omega
     rw [hsplit];congr 1;have hlen:=congrArg List.length s5;rw [List.length_drop,List.length_append,List.length_drop] at hlen;rw [s5,List.take_append_of_le_length (by omega),List.take_of_length_le (by omega)]
    obtain ⟨g1,g2,g3,g4,g5⟩:=ih _ _ _ q' s1 s2 (by simp [hp,s3]) a3 a2 (by omega) htake h
    exact ⟨g1,g2,by omega,g4,g5⟩
   ·rw [if_pos h0] at h;cases h
  ·rw [jMM hl] at h
   obtain ⟨rfl,h2⟩:=hend q ps q' hp h
   rw [List.take_of_length_le (by omega)] at ht
   exact ⟨hW,hN,Nat.le_refl _,ht,h2⟩
theorem jQH:∀(l:List Int) (i m:Nat),i+m≤inRow i l→m≤l.length∧∀j (h:j<l.length),j<m→l[j]=((i+j:Nat):Int)+1:=by
 intro l;induction l with
 | nil=>intro i m h;rw [inRow] at h;exact ⟨by simp;omega,fun j h=>(by simp at h)⟩
 | cons s l ih =>
  intro i m h
  rw [inRow] at h
  split at h
  ·rename_i hs
   cases m with
   | zero=>exact ⟨by simp,fun j _ hj=>(by omega)⟩
   | succ m =>
    obtain ⟨h1,h2⟩:=ih (i+1) m (by omega)
    refine ⟨by rw [List.length_cons];omega,fun j hj hjm=>?_⟩
    cases j with
    | zero=>simp [hs]
    | succ j=>simp only [List.getElem_cons_succ];rw [h2 j (by simpa using hj) (by omega)];congr 2;omega
  ·exact ⟨by simp;omega,fun j _ hj=>by omega⟩
theorem jGP {bs:List UInt8} {q:Pool} (h:(qI bs).1=some q):Wf q∧jAQ q∧inP q q.length=true∧jBU q q.length=bs∧bs.length≤4096:=by
 unfold qI at h;split at h
 ·cases h
 ·split at h
  ·cases h
  ·rename_i h1 h2;obtain ⟨g1,g2,_,g4,g5⟩:=jSE bs.length [] ⟨0,0,0⟩ [] q Wf.nil jAQ.nil rfl rfl (Nat.zero_le _) (Nat.le_refl _) (by simp [jFI,textFrom]) h;have hpos:0<q.length:=by
    rcases Nat.eq_zero_or_pos q.length with e | e
    ·rw [e,jFI,textFrom] at g4;rw [g4] at h2;simp at h2
    ·exact e
   have hin:inP q q.length=true:=vF.2 ⟨by omega,by omega⟩;obtain ⟨k1,k2⟩:=jQH (subs q q.length) 0 q.length (by omega);have hfew:=jBW g1 q.length;have hs:subs q q.length=jFI q.length:=by
    refine List.ext_getElem (by rw [jEG];omega) (fun j h1 h2=>?_);rw [k2 j h1 (by rw [jEG] at h2;exact h2),jSL];simp
   refine ⟨g1,g2,hin,?_,by omega⟩;unfold jBU;rw [hs];exact g4.symm
theorem jVH {L:Pool} (h:Wf L) (bs:List UInt8):Wf (jIB L bs).2.2.2:=by
 unfold jIB;cases hq:(qI bs).1 with
 | none=>exact h
 | some q =>
  obtain ⟨g1,_,g3,_⟩:=jGP hq
  by_cases h0:(uG L q q.length).2.1=0
  ·exact (jSZ h g1 g3 h0).1
  ·simp only;rw [((jQQ h g1 _).resolve_left h0).2];exact h
theorem jNP {bs:List UInt8} (h:(qI bs).1=none):(qI bs).2.1≠0:=by
 have hend:∀(q:Pool) (ps:List Nat),(jDV q ps).1=none→(jDV q ps).2.1≠0:=by
  intro q ps h;unfold jDV at h ⊢;simp only at h ⊢;split at h
  ·rename_i hh;rw [dif_pos hh];show (73:Int)≠0;decide
  ·cases h
 have hgo:∀(bs:List UInt8) (fuel:Nat) (q:Pool) (r:Rd) (ps:List Nat),(jKY bs fuel q r ps).1=none→(jKY bs fuel q r ps).2.1≠0:=by
  intro bs fuel;induction fuel with
  | zero=>intro q r ps h;exact hend _ _ h
  | succ fuel ih =>
   intro q r ps h
   rw [jKY] at h ⊢
   split at h
   ·rename_i h1
    rw [if_pos h1]
    split at h
    ·rename_i h2;rw [if_pos h2];exact h2
    ·rename_i h2;rw [if_neg h2];exact ih _ _ _ h
   ·rename_i h1;rw [if_neg h1];exact hend _ _ h
 unfold qI at h ⊢;split at h
 ·rename_i h1;rw [if_pos h1];decide
 ·rename_i h1;rw [if_neg h1];split at h
  ·rename_i h2;rw [if_pos h2];decide
  ·rename_i h2;rw [if_neg h2];exact hgo _ _ _ _ _ h
theorem jPP {bs:List UInt8} {q:Pool} (h:(qI bs).1=some q):(qI bs).2.1=0:=by
 have hend:∀(q:Pool) (ps:List Nat) (x:Pool),(jDV q ps).1=some x→(jDV q ps).2.1=0:=by
  intro q ps x h;unfold jDV at h ⊢;simp only at h ⊢;split at h
  ·cases h
  ·rename_i hh;rw [dif_neg hh]
 have hgo:∀(fuel:Nat) (q:Pool) (r:Rd) (ps:List Nat) (x:Pool),(jKY bs fuel q r ps).1=some x→(jKY bs fuel q r ps).2.1=0:=by
  intro fuel;induction fuel with
  | zero=>intro q r ps x h;exact hend _ _ _ h
  | succ fuel ih =>
   intro q r ps x h
   rw [jKY] at h ⊢
   split at h
   ·rename_i h1
    rw [if_pos h1]
    split at h
    ·cases h
    ·rename_i h2;rw [if_neg h2];exact ih _ _ _ _ h
   ·rename_i h1;rw [if_neg h1];exact hend _ _ _ h
 unfold qI at h ⊢;split at h
 ·cases h
 ·rename_i h1;rw [if_neg h1];split at h
  ·cases h
  ·rename_i h2;rw [if_neg h2];exact hgo _ _ _ _ _ h
end Go.Sp
end
