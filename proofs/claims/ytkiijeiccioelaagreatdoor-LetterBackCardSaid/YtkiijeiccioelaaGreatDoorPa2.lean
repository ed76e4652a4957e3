import Derived.Test.YtkiijeiccioelaaGreatDoorProg
import Derived.WalkKit
import Derived.Shelf.Strings.Prefix
import Derived.Shelf.Small.Strs
import Derived.Ground.NamesProg
import Derived.Orders
import Derived.OrdersIn
import Derived.Still
import Derived.RangeFuncLeaves
import Derived.Tactics
import Derived.Scope
import Derived.TacticsIn
import Derived.RangeFuncRecord
import Derived.Laws.StructEq
import Derived.Laws.Rows
import Derived.Laws.NewBlocks
import Derived.Laws.Strings
import Derived.Laws.Pointers
import Derived.Below
import Derived.Laws.AppendOwn
import Derived.Laws.MakeOwn
import Derived.IntWalk
import Derived.KernelRfl
section
namespace Go.Proofs
open Tryz
open Go.Shelf
def jLR:Go.Shelf.Ren:=⟨fun | 99=>52 | 206=>70 | n=>n,fun | 9=>9 | 4=>4 | 3=>3 | n=>n,fun | n=>n⟩
theorem lays99:Go.Proofs.Lays.n99 prog jLR:={
 mixed:=by kernel_rfl
 f99:=func52.trans (congrArg some (by kernel_rfl))
 f206:=func70.trans (congrArg some (by kernel_rfl))
 t3:=underlying3
 a3:=isAgg3
 z3:=sizeOf3
 v3:=zeroValue3
 t4:=underlying4
 a4:=isAgg4
 z4:=sizeOf4
 v4:=zeroValue4
 t9:=underlying9
 a9:=isAgg9
 z9:=sizeOf9
 v9:=zeroValue9 }
def jIM:Go.Shelf.Ren:=⟨fun | 137=>54 | 217=>71 | 266=>107 | n=>n,fun | 9=>9 | 5=>5 | 3=>3 | n=>n,fun | n=>n⟩
theorem jUF:Go.Proofs.Lays.n137 prog jIM:={
 mixed:=by kernel_rfl
 f137:=func54.trans (congrArg some (by kernel_rfl))
 f217:=func71.trans (congrArg some (by kernel_rfl))
 f266:=func107.trans (congrArg some (by kernel_rfl))
 t3:=underlying3
 a3:=isAgg3
 z3:=sizeOf3
 v3:=zeroValue3
 t5:=underlying5
 a5:=isAgg5
 z5:=sizeOf5
 v5:=zeroValue5
 t9:=underlying9
 a9:=isAgg9
 z9:=sizeOf9
 v9:=zeroValue9 }
theorem tI (s p:ByteArray) (w:World):Calls prog 52 #[.string s,.string p] w (fun e w'=>e=.returned (.bool (Lib.hasPrefix s.data.toList p.data.toList))∧w'=w):=Any.strings_HasPrefix lays99 s p w
theorem tH (s:ByteArray) (c:Int) (w:World):Calls prog 54 #[.string s,.int .u8 c] w (fun e w'=>e=.returned (.int .i64 (Lib.indexByte s.data.toList c.toNat.toUInt8))∧w'=w):=Any.strings_IndexByte jUF s c w
end Go.Proofs
end
section
namespace Go.Sp
structure Node where
 kind:Int
 frm:Int
 to:Int
 num:Int
 text:ByteArray
 a:Int
 b:Int
deriving DecidableEq
structure Shape where
 frm:Bool
 to:Bool
 num:Bool
 text:Bool
 kids:Int
deriving DecidableEq
def jCK:Shape:=⟨false,false,false,false,0⟩
def jF (k:Int):Shape :=
 if k=1 then ⟨true,false,false,false,0⟩ else if k=2 then ⟨false,false,true,false,0⟩ else if k=3 then ⟨false,false,false,true,0⟩
 else if k=4 then ⟨false,false,false,false,2⟩ else if k=5 then ⟨false,false,false,false,1⟩ else if k=6 then ⟨true,false,false,false,0⟩
 else if k=7 then ⟨true,false,false,false,1⟩ else if k=8 then ⟨true,true,false,false,1⟩ else if k=9 then ⟨true,true,false,false,1⟩ else jCK
def qI (k:Int):Bool:=decide (1≤k) && decide (k≤9)
def qH (n:Int):Bool:=decide (0≤n) && decide (n<16)
def jW (n:Node):Int :=
 let s:=jF n.kind
 if !qI n.kind || (!s.frm && n.frm != 0) || (!s.to && n.to != 0) || (!s.num && n.num != 0) || (!s.text && !decide (n.text=⟨#[]⟩)) then 53 else 0
def jP (s:Shape) (n:Node):Int :=
 if (s.frm && !qH n.frm) || (s.to && (!qH n.to || n.to == n.frm)) then 50 else if n.text.size>64 then 1 else 0
structure Ent where
 node:Node
 size:Int
 depth:Int
deriving DecidableEq
abbrev Pool:=List Ent
def inP (L:Pool) (t:Int):Bool:=decide (1≤t) && decide (t≤L.length)
def get (L:Pool) (t:Int):Option Ent:=if inP L t then L[(t - 1).toNat]? else none
def sizeOf (L:Pool) (t:Int):Int:=((get L t).map (·.size)).getD 0
def depthOf (L:Pool) (t:Int):Int:=((get L t).map (·.depth)).getD 0
def jGI:Node:=⟨0,0,0,0,⟨#[]⟩,0,0⟩
def nodeOf (L:Pool) (t:Int):Node:=((get L t).map (·.node)).getD jGI
def jH (n:Node):List Int:=[n.a,n.b].take (jF n.kind).kids.toNat
def check (L:Pool) (n:Node):Int×Int×Int :=
 let s:=jF n.kind
 if jW n≠0 then (0,0,jW n)
 else if (decide (s.kids<1) && n.a != 0) || (decide (s.kids<2) && n.b != 0) then (0,0,53)
 else if jP s n≠0 then (0,0,jP s n)
 else if (jH n).any (fun t=>!inP L t) then (0,0,51)
 else
  let sz:=1+((jH n).map (sizeOf L)).sum
  let d:=(jH n).foldl (fun d t=>max d (depthOf L t)) 0+1
  if sz>4096∨d>64 then (0,0,52) else (sz,d,0)
def find (L:Pool) (n:Node):Option Nat:=L.findIdx? (fun e=>e.node=n)
def make (L:Pool) (n:Node):Int×Int×Pool :=
 let c:=check L n
 if c.2.2≠0 then (0,c.2.2,L)
 else match find L n with
  | some i=>(i+1,0,L)
  | none=>if 65536≤L.length then (0,6,L) else (L.length+1,0,L++[⟨n,c.1,c.2.1⟩])
structure Ok (L:Pool):Prop where
 few:L.length≤65536
 nodup:(L.map (·.node)).Nodup
 size:∀e∈L,1≤e.size∧e.size≤4096
 depth:∀e∈L,1≤e.depth∧e.depth≤64
theorem jY {L:Pool} {t:Int}:inP L t=true↔1≤t∧t≤L.length:=by simp [inP]
theorem jBJ {L:Pool} {t:Int} (h:inP L t=true):∃e,get L t=some e∧e∈L∧∃hi:(t - 1).toNat<L.length,L[(t - 1).toNat]=e:=by
 obtain ⟨h1,h2⟩:=jY.1 h;have hi:(t - 1).toNat<L.length:=by omega
 exact ⟨L[(t - 1).toNat],by simp [get,h],List.getElem_mem hi,hi,rfl⟩
theorem lN {L:Pool} {t:Int} (h:inP L t=false):get L t=none:=by simp [get,h]
theorem Ok.sizeOf {L:Pool} (h:Ok L) (t:Int):0≤sizeOf L t∧sizeOf L t≤4096:=by
 cases ht:inP L t with
 | true=>obtain ⟨e,he,hm,_⟩:=jBJ ht;have:=h.size e hm;simp [Sp.sizeOf,he];omega
 | false=>simp [Sp.sizeOf,lN ht]
theorem Ok.depthOf {L:Pool} (h:Ok L) (t:Int):0≤depthOf L t∧depthOf L t≤64:=by
 cases ht:inP L t with
 | true=>obtain ⟨e,he,hm,_⟩:=jBJ ht;have:=h.depth e hm;simp [Sp.depthOf,he];omega
 | false=>simp [Sp.depthOf,lN ht]
theorem Ok.nil:Ok []:=⟨by simp,by simp,by simp,by simp⟩
theorem qW (k:Int):(jF k).kids=0∨(jF k).kids=1∨(jF k).kids=2:=by
 unfold jF jCK;repeat' split
 all_goals simp
end Go.Sp
end
section
namespace Go.Sp
inductive Tree where
 | mk (k f t u:Int) (x:ByteArray) (kids:List Tree)
def Tree.kids:Tree→List Tree | .mk _ _ _ _ _ ks=>ks
def Tree.node:Tree→Node | .mk k f t u x _=>⟨k,f,t,u,x,0,0⟩
theorem Tree.ind {P:Tree→Prop} (h:∀k f t u x (ks:List Tree),(∀i (hi:i<ks.length),P ks[i])→P (.mk k f t u x ks)) (t:Tree):P t:=by
 refine Tree.rec (motive_1:=P) (motive_2:=fun ks=>∀i (hi:i<ks.length),P ks[i]) ?_ ?_ ?_ t
 ·intro k f t u x ks ih;exact h _ _ _ _ _ _ ih
 ·intro i hi;simp at hi
 ·intro t ks ht hks i hi;cases i with
  | zero=>exact ht
  | succ i=>exact hks i (by simpa using hi)
def kI (n:Node) (len:Nat):Int :=
 let e:=if jW n=0 then if (len:Int)≠(jF n.kind).kids then 53 else 0 else jW n
 if e=0 then jP (jF n.kind) n else e
mutual
def looks (inside seen:Int):Tree→Int×Int
 | .mk k f t u x ks=>if 4096≤seen then (52,seen) else if 64≤inside then (52,seen) else zL (inside+1) (kI ⟨k,f,t,u,x,0,0⟩ ks.length) (seen+1) ks
def zL (inside e seen:Int):List Tree→Int×Int
 | []=>(e,seen)
 | t :: ts=>if e=0 then zL inside (looks inside seen t).1 (looks inside seen t).2 ts else (e,seen)
end
mutual
def grow (L:Pool):Tree→Int×Int×Pool
 | .mk k f t u x ks=>zD ⟨k,f,t,u,x,0,0⟩ 0 L ks
def zD (n:Node) (i:Nat) (L:Pool):List Tree→Int×Int×Pool
 | []=>make L n
 | t :: ts=>if (grow L t).2.1≠0 then (0,(grow L t).2.1,(grow L t).2.2) else zD (if i=0 then { n with a:=(grow L t).1 } else { n with b:=(grow L t).1 }) (i+1) (grow L t).2.2 ts
end
def of (L:Pool) (t:Tree):Int×Int×Pool :=
 if (looks 0 0 t).1≠0 then (0,(looks 0 0 t).1,L)
 else if (grow L t).2.1≠0 then (0,(grow L t).2.1,L) else ((grow L t).1,0,(grow L t).2.2)
theorem jDV (L:Pool) (n:Node):∃M,(make L n).2.2=L++M:=by
 unfold make;simp only;by_cases hc:(check L n).2.2=0
 ·simp only [hc];rw [if_neg (by simp)];split
  ·exact ⟨[],by simp⟩
  ·split
   ·exact ⟨[],by simp⟩
   ·exact ⟨_,rfl⟩
 ·rw [if_pos hc];exact ⟨[],by simp⟩
theorem jRQ {L:Pool} {n:Node} (hok:Ok L) (h:(check L n).2.2=0):1≤(check L n).1∧(check L n).1≤4096∧1≤(check L n).2.1∧(check L n).2.1≤64:=by
 unfold check at h ⊢;simp only at h ⊢;by_cases h1:jW n≠0
 ·rw [if_pos h1] at h;exact absurd h h1
 rw [if_neg h1] at h ⊢;split at h
 ·simp at h
 rename_i h2;rw [if_neg h2];by_cases h3:jP (jF n.kind) n≠0
 ·rw [if_pos h3] at h;exact absurd h h3
 rw [if_neg h3] at h ⊢;split at h
 ·simp at h
 rename_i h4;rw [if_neg h4];split at h
 ·simp at h
 rename_i h5;rw [if_neg h5];have hs:∀l:List Int,0≤(l.map (sizeOf L)).sum:=by
  intro l;induction l with
  | nil=>simp
  | cons y l ih=>have:=hok.sizeOf y;simp only [List.map_cons,List.sum_cons];omega
 have hd:∀(l:List Int) (d:Int),0≤d→0≤l.foldl (fun d t=>max d (depthOf L t)) d:=by
  intro l;induction l with
  | nil=>intro d h;exact h
  | cons y l ih=>intro d h;exact ih (max d (depthOf L y)) (by omega)
 have:=hs (jH n);have:=hd (jH n) 0 (by omega);simp only;omega
theorem jII {L:Pool} (hok:Ok L) (n:Node):Ok (make L n).2.2:=by
 by_cases hc:(check L n).2.2=0
 ·have:=jRQ hok hc;unfold make;simp only [hc];rw [if_neg (by simp)];split
  ·exact hok
  ·rename_i hf;split
   ·exact hok
   ·rename_i hl;refine ⟨by simp;omega,?_,?_,?_⟩
    ·rw [List.map_append,List.nodup_append];refine ⟨hok.nodup,by simp,?_⟩;intro a ha b hb;simp only [List.map_cons,List.map_nil,List.mem_singleton] at hb;subst hb;obtain ⟨e,he,rfl⟩:=List.mem_map.1 ha;unfold find at hf;rw [List.findIdx?_eq_none_iff] at hf;simpa using hf e he
    ·intro e he;rcases List.mem_append.1 he with h | h
     ·exact hok.size e h
     ·simp only [List.mem_singleton] at h;subst h;simp;omega
    ·intro e he;rcases List.mem_append.1 he with h | h
     ·exact hok.depth e h
     ·simp only [List.mem_singleton] at h;subst h;simp;omega
 ·unfold make;simp only;rw [if_pos hc];exact hok
theorem lM (t:Tree):∀L,Ok L→Ok (grow L t).2.2∧∃M,(grow L t).2.2=L++M:=by
 induction t using Tree.ind with
 | h k f t u x ks ih =>
  have:∀(ks:List Tree),(∀i (hi:i<ks.length),∀L,Ok L→Ok (grow L ks[i]).2.2∧∃M,(grow L ks[i]).2.2=L++M)→∀n i L,Ok L→Ok (zD n i L ks).2.2∧∃M,(zD n i L ks).2.2=L++M:=by
   intro ks;induction ks with
   | nil=>intro _ n i L h;unfold zD;exact ⟨jII h n,jDV L n⟩
   | cons t ts iht =>
    intro hh n i L h
    have h0:=hh 0 (by simp) L h
    simp only [List.getElem_cons_zero] at h0
    unfold zD
    split
    ·exact h0
    ·obtain ⟨ho,M,hM⟩:=h0
     have:=iht (fun i hi=>hh (i+1) (by simpa using hi)) (if i=0 then { n with a:=(grow L t).1 } else { n with b:=(grow L t).1 }) (i+1) (grow L t).2.2 ho
     refine ⟨this.1,?_⟩
     obtain ⟨M2,hM2⟩:=this.2
     exact ⟨M++M2,by rw [hM2,hM,List.append_assoc]⟩
  intro L h
  unfold grow
  exact this ks ih _ _ L h
def vU (n:Int):Prop:=0≤n∧n<18446744073709551616
inductive NumT:Tree→Prop
 | mk (k f t u:Int) (x:ByteArray) (ks:List Tree) (own:vU u) (kids:∀i (hi:i<ks.length),NumT ks[i]):NumT (.mk k f t u x ks)
end Go.Sp
end
section
namespace Go.Sp
theorem kN {L:Pool} {i:Nat} (hi:i<L.length):nodeOf L ((i:Int)+1)=L[i].node:=by
 have h:inP L ((i:Int)+1)=true:=jY.2 ⟨by omega,by omega⟩;have e:((i:Int)+1 - 1).toNat=i:=by omega
 simp [nodeOf,get,h,e,hi]
theorem lW {L:Pool} {t:Int} (h:inP L t=true):∃i:Nat,i<L.length∧t=(i:Int)+1:=by
 have:=jY.1 h;exact ⟨(t - 1).toNat,by omega,by omega⟩
theorem jAS {L:Pool} {i:Nat} (hi:i<L.length):get L ((i:Int)+1)=some L[i]:=by
 have h:inP L ((i:Int)+1)=true:=jY.2 ⟨by omega,by omega⟩;have e:((i:Int)+1 - 1).toNat=i:=by omega
 simp [get,h,e,hi]
structure Wf (L:Pool):Prop where
 ok:Ok L
 each:∀i (hi:i<L.length),check (L.take i) L[i].node=(L[i].size,L[i].depth,0)
theorem Wf.nil:Wf []:=⟨Ok.nil,fun i hi=>by simp at hi⟩
theorem jDZ {L:Pool} {n:Node} (h:(check L n).2.2=0):jW n=0∧((jF n.kind).kids<1→n.a=0)∧((jF n.kind).kids<2→n.b=0)∧jP (jF n.kind) n=0∧(∀t∈jH n,inP L t=true) ∧
  (check L n).1=1+((jH n).map (sizeOf L)).sum∧(check L n).2.1=(jH n).foldl (fun d t=>max d (depthOf L t)) 0+1∧(check L n).1≤4096∧(check L n).2.1≤64:=by
 unfold check at h ⊢
 simp only at h ⊢
 by_cases h1:jW n≠0
 ·rw [if_pos h1] at h;exact absurd h h1
 rw [if_neg h1] at h ⊢
 split at h
 ·simp at h
 rename_i h2;rw [if_neg h2]
 by_cases h3:jP (jF n.kind) n≠0
 ·rw [if_pos h3] at h;exact absurd h h3
 rw [if_neg h3] at h ⊢
 split at h
 ·simp at h
 rename_i h4;rw [if_neg h4]
 split at h
 ·simp at h
 rename_i h5;rw [if_neg h5]
 simp only [Bool.or_eq_true,Bool.and_eq_true,decide_eq_true_eq,bne_iff_ne,ne_eq,not_or,not_and,Classical.not_not] at h2
 refine ⟨by simpa using h1,h2.1,h2.2,by simpa using h3,fun t ht=>?_,rfl,rfl,by simp only;omega,by simp only;omega⟩
 cases hi:inP L t with
 | true=>rfl
 | false=>exact absurd (List.any_eq_true.2 ⟨t,ht,by simp [hi]⟩) h4
theorem tE (L:Pool) (n:Node):(make L n).2.2=L∨((check L n).2.2=0∧(make L n).2.2=L++[⟨n,(check L n).1,(check L n).2.1⟩]):=by
 by_cases hc:(check L n).2.2=0
 ·unfold make;simp only [hc];rw [if_neg (by simp)];split
  ·exact .inl rfl
  ·split
   ·exact .inl rfl
   ·exact .inr ⟨trivial,rfl⟩
 ·unfold make;simp only;rw [if_pos hc];exact .inl rfl
theorem jMW {L:Pool} {e:Ent} (h:∀i (hi:i<L.length),check (L.take i) L[i].node=(L[i].size,L[i].depth,0)) (he:check L e.node=(e.size,e.depth,0)):∀i (hi:i<(L++[e]).length),check ((L++[e]).take i) (L++[e])[i].node=((L++[e])[i].size,(L++[e])[i].depth,0):=by
 intro i hi;simp only [List.length_append,List.length_cons,List.length_nil] at hi;by_cases hlt:i<L.length
 ·simp only [List.getElem_append_left hlt];rw [List.take_append_of_le_length (by omega)];exact h i hlt
 ·have:i=L.length:=by omega
  subst this;simp only [List.getElem_append_right (Nat.le_refl _),Nat.sub_self,List.getElem_cons_zero];rw [List.take_left' rfl];exact he
theorem xV {L:Pool} (h:Wf L) (n:Node):Wf (make L n).2.2:=by
 have ho:=jII h.ok n;rcases tE L n with e | ⟨hc,e⟩
 ·rw [e];exact h
 ·rw [e] at ho ⊢;exact ⟨ho,jMW h.each (by rw [← hc])⟩
theorem jEW (t:Tree):∀L,Wf L→Wf (grow L t).2.2:=by
 induction t using Tree.ind with
 | h k f t u x ks ih =>
  have:∀(ks:List Tree),(∀i (hi:i<ks.length),∀L,Wf L→Wf (grow L ks[i]).2.2)→∀n i L,Wf L→Wf (zD n i L ks).2.2:=by
   intro ks;induction ks with
   | nil=>intro _ n i L h;unfold zD;exact xV h n
   | cons t ts iht =>
    intro hh n i L h
    have h0:=hh 0 (by simp) L h
    simp only [List.getElem_cons_zero] at h0
    unfold zD
    split
    ·exact h0
    ·exact iht (fun i hi=>hh (i+1) (by simpa using hi)) _ _ _ h0
  intro L h
  unfold grow
  exact this ks ih _ _ L h
theorem of_wf {L:Pool} (h:Wf L) (t:Tree):Wf (of L t).2.2:=by
 unfold of;split
 ·exact h
 ·split
  ·exact h
  ·exact jEW t L h
theorem jQZ {L:Pool} (h:Ok L) (t:Tree):∃M,(of L t).2.2=L++M:=by
 unfold of;split
 ·exact ⟨[],by simp⟩
 ·split
  ·exact ⟨[],by simp⟩
  ·exact (lM t L h).2
theorem jAD {L M:Pool} {t:Int} (h:inP L t=true):inP (L++M) t=true:=by
 have:=jY.1 h;exact jY.2 ⟨this.1,by rw [List.length_append];omega⟩
theorem jIT {L M:Pool} {t:Int} (h:inP L t=true):get (L++M) t=get L t:=by
 obtain ⟨i,hi,rfl⟩:=lW h;rw [jAS hi,jAS (by rw [List.length_append];omega),List.getElem_append_left hi]
theorem jLL {L M:Pool} {t:Int} (h:inP L t=true):nodeOf (L++M) t=nodeOf L t:=by unfold nodeOf;rw [jIT h]
theorem tW {L M:Pool} {t:Int} (h:inP L t=true):sizeOf (L++M) t=sizeOf L t:=by unfold sizeOf;rw [jIT h]
theorem oI {L M:Pool} {t:Int} (h:inP L t=true):depthOf (L++M) t=depthOf L t:=by unfold depthOf;rw [jIT h]
theorem Wf.node {L:Pool} (h:Wf L) {t:Int} (ht:inP L t=true):jW (nodeOf L t)=0∧((jF (nodeOf L t).kind).kids<1→(nodeOf L t).a=0)∧((jF (nodeOf L t).kind).kids<2→(nodeOf L t).b=0)∧jP (jF (nodeOf L t).kind) (nodeOf L t)=0 ∧
  (∀k∈jH (nodeOf L t),inP L k=true∧k<t)∧sizeOf L t=1+((jH (nodeOf L t)).map (sizeOf L)).sum∧depthOf L t=(jH (nodeOf L t)).foldl (fun d k=>max d (depthOf L k)) 0+1:=by
 obtain ⟨i,hi,rfl⟩:=lW ht
 have he:=h.each i hi
 have hz:=jDZ (L:=L.take i) (n:=L[i].node) (by rw [he])
 rw [kN hi]
 obtain ⟨h1,h2,h3,h4,h5,h6,h7,_,_⟩:=hz
 have hin:∀k∈jH L[i].node,inP (L.take i) k=true∧inP L k=true∧k<(i:Int)+1:=by
  intro k hk;have hk':=h5 k hk;have hk2:=jY.1 hk';have:L.take i++L.drop i=L:=List.take_append_drop i L;refine ⟨hk',by rw [← this];exact jAD hk',?_⟩;rw [List.length_take] at hk2;omega
 have hsz:∀k∈jH L[i].node,sizeOf (L.take i) k=sizeOf L k∧depthOf (L.take i) k=depthOf L k:=by
  intro k hk;have hk':=(hin k hk).1;have:L.take i++L.drop i=L:=List.take_append_drop i L;exact ⟨by rw [← tW (M:=L.drop i) hk',this],by rw [← oI (M:=L.drop i) hk',this]⟩
 refine ⟨h1,h2,h3,h4,fun k hk=>⟨(hin k hk).2.1,(hin k hk).2.2⟩,?_,?_⟩
 ·have:sizeOf L ((i:Int)+1)=L[i].size:=by simp [sizeOf,jAS hi]
  rw [this]
  rw [he] at h6
  simp only at h6
  rw [h6]
  congr 2
  exact List.map_congr_left (fun k hk=>(hsz k hk).1)
 ·have:depthOf L ((i:Int)+1)=L[i].depth:=by simp [depthOf,jAS hi]
  rw [this]
  rw [he] at h7
  simp only at h7
  rw [h7]
  congr 1
  have:∀(l:List Int) (d:Int),(∀k∈l,depthOf (L.take i) k=depthOf L k)→l.foldl (fun d t=>max d (depthOf (L.take i) t)) d=l.foldl (fun d k=>max d (depthOf L k)) d:=by
   intro l;induction l with
   | nil=>intro d _;rfl
   | cons a l ih=>intro d hh;simp only [List.foldl_cons];rw [hh a (by simp)];exact ih _ (fun k hk=>hh k (by simp [hk]))
  exact this _ _ (fun k hk=>(hsz k hk).2)
def jNR:Tree:=.mk 0 0 0 0 ⟨#[]⟩ []
def jEF (L:Pool):Nat→Int→Tree
 | 0,_=>jNR
 | fuel+1,t=>if inP L t=true then .mk (nodeOf L t).kind (nodeOf L t).frm (nodeOf L t).to (nodeOf L t).num (nodeOf L t).text ((jH (nodeOf L t)).map (jEF L fuel)) else jNR
def jE (L:Pool) (t:Int):Tree:=jEF L t.toNat t
theorem lG {L:Pool} {t:Int} (h:inP L t=false) (f:Nat):jEF L f t=jNR:=by
 cases f <;> simp [jEF,h]
theorem jKT {L:Pool} (h:Wf L):∀(f:Nat) (t:Int),t.toNat≤f→jEF L f t=jE L t:=by
 have key:∀(f g:Nat) (t:Int),t.toNat≤f→t.toNat≤g→jEF L f t=jEF L g t:=by
  intro f;induction f with
  | zero =>
   intro g t hf hg
   have:inP L t=false:=by
    apply Bool.eq_false_iff.2;intro hi;have:=jY.1 hi;omega
   rw [lG this,lG this]
  | succ f ih =>
   intro g t hf hg
   cases hi:inP L t with
   | false=>rw [lG hi,lG hi]
   | true =>
    have hpos:=jY.1 hi
    cases g with
    | zero=>omega
    | succ g =>
     simp only [jEF,hi,if_true]
     congr 1
     refine List.map_congr_left (fun k hk=>ih g k ?_ ?_)
     ·have:=((h.node hi).2.2.2.2.1 k hk).2;omega
     ·have:=((h.node hi).2.2.2.2.1 k hk).2;omega
 intro f t hf;exact key f t.toNat t hf (Nat.le_refl _)
theorem zT {L:Pool} (h:Wf L) {t:Int} (ht:inP L t=true):jE L t=.mk (nodeOf L t).kind (nodeOf L t).frm (nodeOf L t).to (nodeOf L t).num (nodeOf L t).text ((jH (nodeOf L t)).map (jE L)):=by
 have hpos:=jY.1 ht;have e:t.toNat=(t.toNat - 1)+1:=by omega
 unfold jE;rw [e];simp only [jEF,ht,if_true];congr 1;refine List.map_congr_left (fun k hk=>?_);have:=((h.node ht).2.2.2.2.1 k hk).2;exact jKT h _ k (by omega)
theorem Wf.first {L M:Pool} (h:Wf (L++M)):Wf L:=by
 refine ⟨⟨by have:=h.ok.few;rw [List.length_append] at this;omega,?_,fun e he=>h.ok.size e (by simp [he]),fun e he=>h.ok.depth e (by simp [he])⟩,fun i hi=>?_⟩
 ·have:=h.ok.nodup;rw [List.map_append] at this;exact (List.nodup_append.1 this).1
 ·have:=h.each i (by rw [List.length_append];omega);rw [List.getElem_append_left hi,List.take_append_of_le_length (by omega)] at this;exact this
theorem uK {L M:Pool} (h:Wf (L++M)):∀(n:Nat) (t:Int),t.toNat=n→inP L t=true→jE (L++M) t=jE L t:=by
 have hL:=h.first;intro n;induction n using Nat.strongRecOn with
 | _ n ih =>
  intro t hn ht
  rw [zT h (jAD ht),zT hL ht,jLL ht]
  congr 1
  refine List.map_congr_left (fun k hk=>?_)
  have hk':=(hL.node ht).2.2.2.2.1 k hk
  have:=jY.1 hk'.1
  exact ih k.toNat (by omega) k rfl hk'.1
theorem tK {L:Pool} {n:Node} {i:Nat} (h:find L n=some i):∃hi:i<L.length,L[i].node=n:=by
 unfold find at h;rw [List.findIdx?_eq_some_iff_getElem] at h;obtain ⟨hi,h1,_⟩:=h;exact ⟨hi,by simpa using h1⟩
theorem uO {L:Pool} {n:Node} (h:(make L n).2.1=0):inP (make L n).2.2 (make L n).1=true∧nodeOf (make L n).2.2 (make L n).1=n∧(check L n).2.2=0:=by
 unfold make at h ⊢;simp only at h ⊢;by_cases hc:(check L n).2.2≠0
 ·rw [if_pos hc] at h;exact absurd h hc
 ·rw [if_neg hc] at h ⊢;have hc:(check L n).2.2=0:=by simpa using hc
  cases hf:find L n with
  | some i =>
   obtain ⟨hi,hn⟩:=tK hf
   simp only
   exact ⟨jY.2 ⟨by omega,by omega⟩,by rw [kN hi,hn],hc⟩
  | none =>
   rw [hf] at h
   simp only at h ⊢
   split at h
   ·simp at h
   ·rename_i hl
    rw [if_neg hl]
    simp only
    have hi:L.length<(L++[(⟨n,(check L n).1,(check L n).2.1⟩:Ent)]).length:=by simp
    refine ⟨jY.2 ⟨by omega,by simp⟩,?_,hc⟩
    rw [kN hi]
    simp
theorem lK (L:Pool) (n:Node):∃M,(make L n).2.2=L++M:=jDV L n
inductive Good:Tree→Prop
 | mk (k f t u:Int) (x:ByteArray) (ks:List Tree) (own:kI ⟨k,f,t,u,x,0,0⟩ ks.length=0) (kids:∀i (hi:i<ks.length),Good ks[i]):Good (.mk k f t u x ks)
theorem jLN (t:Tree):∀i n:Int,(looks i n t).1=0→Good t:=by
 induction t using Tree.ind with
 | h k f t u x ks ih =>
  have hA:∀(ks:List Tree),(∀i (hi:i<ks.length),∀j n:Int,(looks j n ks[i]).1=0→Good ks[i])→∀i e n:Int,(zL i e n ks).1=0→e=0∧∀i (hi:i<ks.length),Good ks[i]:=by
   intro ks;induction ks with
   | nil=>intro _ i e n h;exact ⟨by simpa [zL] using h,fun i hi=>by simp at hi⟩
   | cons t ts iht =>
    intro hh i e n h
    unfold zL at h
    split at h
    ·rename_i he
     have:=iht (fun i hi=>hh (i+1) (by simpa using hi)) _ _ _ h
     refine ⟨he,fun j hj=>?_⟩
     cases j with
     | zero=>exact hh 0 (by simp) i n this.1
     | succ j=>exact this.2 j (by simpa using hj)
    ·rename_i he;exact absurd h he
  intro i n h
  unfold looks at h
  split at h
  ·cases h
  ·split at h
   ·cases h
   ·have:=hA ks ih _ _ _ h
    exact .mk _ _ _ _ _ _ this.1 this.2
theorem Good.inv {k f t u:Int} {x:ByteArray} {ks:List Tree} (h:Good (.mk k f t u x ks)):jW ⟨k,f,t,u,x,0,0⟩=0∧(ks.length:Int)=(jF k).kids∧jP (jF k) ⟨k,f,t,u,x,0,0⟩=0∧∀i (hi:i<ks.length),Good ks[i]:=by
 cases h with
 | mk _ _ _ _ _ _ own kids =>
  unfold kI at own
  simp only at own
  by_cases hp:jW ⟨k,f,t,u,x,0,0⟩=0
  ·rw [if_pos hp] at own
   by_cases hl:(ks.length:Int)≠(jF k).kids
   ·rw [if_pos hl] at own;simp at own
   ·rw [if_neg hl] at own
    simp at own
    exact ⟨hp,by simpa using hl,own,kids⟩
  ·rw [if_neg hp,if_neg hp] at own;exact absurd own hp
theorem jOM (x:Tree):∀L,Wf L→Good x→(grow L x).2.1=0→inP (grow L x).2.2 (grow L x).1=true∧jE (grow L x).2.2 (grow L x).1=x:=by
 induction x using Tree.ind with
 | h k f t u x ks ih =>
  intro L hW hG h0
  obtain ⟨_,hlen,_,hk⟩:=hG.inv
  have fin:∀(n:Node) (L':Pool),Wf L'→n.kind=k→n.frm=f→n.to=t→n.num=u→n.text=x→(make L' n).2.1=0→(jH n).map (jE L')=ks→inP (make L' n).2.2 (make L' n).1=true∧jE (make L' n).2.2 (make L' n).1=.mk k f t u x ks:=by
   intro n L' hW' e1 e2 e3 e4 e5 hm hks;obtain ⟨hin,hnode,hc⟩:=uO hm;refine ⟨hin,?_⟩;rw [zT (xV hW' n) hin,hnode,e1,e2,e3,e4,e5,← hks];congr 1;refine List.map_congr_left (fun q hq=>?_);obtain ⟨M,hM⟩:=lK L' n;have hq':=(jDZ hc).2.2.2.2.1 q hq;rw [hM];have hwf:=xV hW' n;rw [hM] at hwf;exact uK hwf _ q rfl hq'
  rw [grow] at h0 ⊢
  match ks,ih,hlen,hk,fin,h0 with
  | [],_,hlen,_,fin,h0 =>
   rw [zD] at h0 ⊢
   have hz:(jF k).kids=0:=by simpa using hlen.symm
   exact fin _ L hW rfl rfl rfl rfl rfl h0 (by simp [jH,hz])
  | [a],ih,hlen,hk,fin,h0 =>
   have hz:(jF k).kids=1:=by simpa using hlen.symm
   rw [zD] at h0 ⊢
   by_cases ha:(grow L a).2.1≠0
   ·rw [if_pos ha] at h0;exact absurd h0 ha
   ·rw [if_neg ha] at h0 ⊢
    have ha:(grow L a).2.1=0:=by simpa using ha
    obtain ⟨i1,t1⟩:=ih 0 (by simp) L hW (hk 0 (by simp)) ha
    simp only [List.getElem_cons_zero] at i1 t1
    rw [zD] at h0 ⊢
    exact fin _ _ (jEW a L hW) rfl rfl rfl rfl rfl h0 (by simp [jH,hz,t1])
  | [a,b],ih,hlen,hk,fin,h0 =>
   have hz:(jF k).kids=2:=by simpa using hlen.symm
   rw [zD] at h0 ⊢
   by_cases ha:(grow L a).2.1≠0
   ·rw [if_pos ha] at h0;exact absurd h0 ha
   ·rw [if_neg ha] at h0 ⊢
    have ha:(grow L a).2.1=0:=by simpa using ha
    have hW1:=jEW a L hW
    obtain ⟨i1,t1⟩:=ih 0 (by simp) L hW (hk 0 (by simp)) ha
    simp only [List.getElem_cons_zero] at i1 t1
    rw [zD] at h0 ⊢
    by_cases hb:(grow (grow L a).2.2 b).2.1≠0
    ·rw [if_pos hb] at h0;exact absurd h0 hb
    ·rw [if_neg hb] at h0 ⊢
     have hb:(grow (grow L a).2.2 b).2.1=0:=by simpa using hb
     have hW2:=jEW b _ hW1
     obtain ⟨i2,t2⟩:=ih 1 (by simp) (grow L a).2.2 hW1 (hk 1 (by simp)) hb
     simp only [List.getElem_cons_succ,List.getElem_cons_zero] at i2 t2
     obtain ⟨M,hM⟩:=(lM b (grow L a).2.2 hW1.ok).2
     have t1':jE (grow (grow L a).2.2 b).2.2 (grow L a).1=a:=by
      rw [hM] at hW2 ⊢;exact (uK hW2 _ _ rfl i1).trans t1
     rw [zD] at h0 ⊢
     exact fin _ _ hW2 rfl rfl rfl rfl rfl h0 (by simp [jH,hz,t1',t2])
  | a :: b :: c :: ks,_,hlen,_,_,_ =>
   have:=qW k
   simp only [List.length_cons] at hlen
   omega
theorem jTP {L:Pool} (hW:Wf L) {x:Tree} (h:(of L x).2.1=0):inP (of L x).2.2 (of L x).1=true∧jE (of L x).2.2 (of L x).1=x∧Good x:=by
 unfold of at h ⊢;by_cases h1:(looks 0 0 x).1≠0
 ·rw [if_pos h1] at h;exact absurd h h1
 ·rw [if_neg h1] at h ⊢;have hg:=jLN x 0 0 (by simpa using h1);by_cases h2:(grow L x).2.1≠0
  ·rw [if_pos h2] at h;exact absurd h h2
  ·rw [if_neg h2] at h ⊢;have:=jOM x L hW hg (by simpa using h2);exact ⟨this.1,this.2,hg⟩
theorem qL {L:Pool} (hW:Wf L):∀(n:Nat) (s t:Int),s.toNat+t.toNat=n→inP L s=true→inP L t=true→jE L s=jE L t→s=t:=by
 intro n;induction n using Nat.strongRecOn with
 | _ n ih =>
  intro s t hn hs ht he
  rw [zT hW hs,zT hW ht] at he
  injection he with e1 e2 e3 e4 e5 e6
  obtain ⟨i,hi,rfl⟩:=lW hs
  obtain ⟨j,hj,rfl⟩:=lW ht
  have hki:=(hW.node hs)
  have hkj:=(hW.node ht)
  rw [kN hi] at e1 e2 e3 e4 e5 e6 hki
  rw [kN hj] at e1 e2 e3 e4 e5 e6 hkj
  generalize hni:L[i].node=ni at *
  generalize hnj:L[j].node=nj at *
  have hsame:∀a∈jH ni,∀b∈jH nj,jE L a=jE L b→a=b:=by
   intro a ha b hb hab;have h1:=hki.2.2.2.2.1 a ha;have h2:=hkj.2.2.2.2.1 b hb;have p1:=jY.1 h1.1;have p2:=jY.1 h2.1;exact ih (a.toNat+b.toNat) (by omega) a b rfl h1.1 h2.1 hab
  have hab:ni.a=nj.a∧ni.b=nj.b:=by
   have z1:=hki.2.1;have z2:=hki.2.2.1;have z3:=hkj.2.1;have z4:=hkj.2.2.1;unfold jH at e6 hsame;rw [← e1] at e6 hsame z3 z4;rcases qW ni.kind with h | h | h <;> rw [h] at e6 hsame z1 z2 z3 z4
   ·exact ⟨by rw [z1 (by omega),z3 (by omega)],by rw [z2 (by omega),z4 (by omega)]⟩
   ·simp at e6 hsame;exact ⟨hsame e6,by rw [z2 (by omega),z4 (by omega)]⟩
   ·simp at e6 hsame;exact ⟨hsame.1.1 e6.1,hsame.2.2 e6.2⟩
  have hnn:L[i].node=L[j].node:=by
   rw [hni,hnj];obtain ⟨_,_,_,_,_,_,_⟩:=ni;obtain ⟨_,_,_,_,_,_,_⟩:=nj;simp at e1 e2 e3 e4 e5 hab;simp [e1,e2,e3,e4,e5,hab]
  have:=List.pairwise_iff_getElem.1 hW.ok.nodup
  have hij:i=j:=by
   rcases Nat.lt_trichotomy i j with h | h | h
   ·exact absurd (by rw [List.getElem_map,List.getElem_map];exact hnn) (this i j (by simpa using hi) (by simpa using hj) h)
   ·exact h
   ·exact absurd (by rw [List.getElem_map,List.getElem_map];exact hnn.symm) (this j i (by simpa using hj) (by simpa using hi) h)
  rw [hij]
end Go.Sp
end
section
namespace Go.Sp
mutual
def cnt:Tree→Nat
 | .mk _ _ _ _ _ ks=>1+xI ks
def xI:List Tree→Nat
 | []=>0
 | t :: ts=>cnt t+xI ts
end
mutual
def parts (most:Int):Tree→Int
 | .mk _ _ _ _ _ ks=>jJX most 1 ks
def jJX (most n:Int):List Tree→Int
 | []=>n
 | t :: ts=>if n≤most then jJX most (n+parts (most - n) t) ts else n
end
mutual
def same:Tree→Tree→Bool
 | .mk k f t u x ks,.mk k' f' t' u' x' ks'=>decide (k=k') && decide (f=f') && decide (t=t') && decide (u=u') && decide (x=x') && jMY ks ks'
def jMY:List Tree→List Tree→Bool
 | [],[]=>true
 | t :: ts,t' :: ts'=>same t t' && jMY ts ts'
 | _,_=>false
end
end Go.Sp
end
section
namespace Go.SE
abbrev NP:=Nat→Prop
abbrev WP:=World→Prop
def yld (P:Program) (o:Oper) (ε:Operand→Value) (w:World) (R:Value→World→Prop):Prop :=
 match (execOp ε o).run P w with
 | .ok (.value v) w'=>R v w'
 | .ok .skip w'=>R undef w'
 | .ok (.enter f args) w'=>Calls P f args w' (fun e w''=>∃v,e=.returned v∧R v w'')
 | .ok (.row row args) w'=>Rows P row args w' R
 | .ok (.round l f tmps assign body) w'=>RoundIn Fence.wide 0 P l f tmps assign body w' (fun e w''=>∃v,e=.returned v∧R v w'')
 | _=>False
section
variable {P:Program} {ops:Array Oper} {md:Region.Mode} {C:World→Prop}
theorem uV {o:Oper} {ε:Operand→Value} {w:World} {R R':Value→World→Prop} (h:yld P o ε w R) (hr:∀v w',R v w'→R' v w'):yld P o ε w R':=by
 unfold yld at *;generalize (execOp ε o).run P w=r at *;cases r with
 | ok n w' =>
  cases n <;> simp only at h ⊢ <;> first
   | exact hr _ _ h
   | exact h.mono fun e w'' ⟨v,he,hR⟩=>⟨v,he,hr _ _ hR⟩
   | exact RoundIn.mono h fun e w'' ⟨v,he,hR⟩=>⟨v,he,hr _ _ hR⟩
   | exact h.mono hr
 | halt x w'=>exact h
def fen:Option Nat→Fence
 | none=>Fence.wide
 | some l=>Fence.wide.inRound l
theorem jGW (ro:Option Nat):(fen ro).round=ro:=by cases ro <;> rfl
theorem jGX (ro:Option Nat) (f:FuncId):(fen ro).fn f:=by cases ro <;> trivial
theorem jGY (ro:Option Nat):(fen ro).depth=none:=by cases ro <;> rfl
theorem Calls.fen {ro:Option Nat} {m:Nat} {f:FuncId} {args:Array Value} {w:World} {R:Ending→World→Prop} (h:Calls P f args w R):CallsIn (SE.fen ro) m P f args w R:=by
 cases ro with
 | none=>exact callsIn_wide.2 h
 | some l=>exact (callsIn_wide.2 h:CallsIn Fence.wide m P f args w R)
theorem Rows.fen {ro:Option Nat} {m:Nat} {row:String} {args:Array Value} {w:World} {R:Value→World→Prop} (h:Rows P row args w R):RowsIn (SE.fen ro) m P row args w R:=by
 have h':RowsIn Fence.wide m P row args w R:=fun c cs _=>let ⟨v,w',r,s⟩:=h c cs;⟨v,w',r,stepsIn_wide.2 s⟩
 cases ro with
 | none=>exact h'
 | some l=>exact h'
theorem RoundIn.fen {ro:Option Nat} {n m l:Nat} {f:FuncId} {tmps:Array Value} {assign body:Code} {w:World} {R:Ending→World→Prop} (h:RoundIn Fence.wide n P l f tmps assign body w R):RoundIn (SE.fen ro) m P l f tmps assign body w R:=by
 have h':RoundIn Fence.wide m P l f tmps assign body w R:=⟨trivial,fun c cs _=>h.2 c cs (room_wide _)⟩;cases ro with
 | none=>exact h'
 | some l'=>exact h'
theorem jFE {o:Oper} {ε:Operand→Value} {w:World} {R:Value→World→Prop} (h:yld P o ε w R):∀c,o.op≠.defer c:=by
 intro c hc;unfold yld execOp at h;rw [hc] at h;simp only [Sem.run_bind] at h;generalize (resolve ε c o.type).run P w=r at h;cases r with
 | ok d w'=>exact h
 | halt x w'=>exact h
theorem jBP {ro:Option Nat} {m:Nat} {o:Oper} {a:Act} {w:World} {K:Act→World→Prop} {Q:Exit→Act→World→Prop} (h:yld P o a.eval w (fun v w'=>K (a.put o.dst v) w')):o.wpIn (fen ro) m P a w K Q:=by
 refine ⟨fun f _=>jGX ro f,?_⟩;rw [jGW,Oper.semAt_eq _ _ _ (jFE h)];have hd:(fen ro).depth.isSome=true→1≤m:=fun h=>by rw [jGY] at h;cases h
 unfold yld at h;generalize (execOp a.eval o).run P w=r at *;cases r with
 | ok n w' =>
  cases n <;> simp only at h <;> simp only [Oper.uponIn]
  case value=>exact h
  case skip=>exact h
  case enter=>exact ⟨hd,(Calls.fen h).mono fun e w'' ⟨v,he,hR⟩=>by subst he;exact hR⟩
  case row=>exact ⟨hd,Rows.fen h⟩
  case round=>exact ⟨hd,(RoundIn.fen h).mono fun e w'' ⟨v,he,hR⟩=>by subst he;exact hR⟩
 | halt x w'=>exact h.elim
def qy (P:Program) (o:Oper) (ε:Operand→Value) (w:World) (v:Value):Prop :=
 match (execOp ε o).run P w with
 | .ok (.value u) w'=>u=v∧w'=w
 | .ok .skip w'=>v=undef∧w'=w
 | _=>False
theorem jMK {o:Oper} {ε:Operand→Value} {w:World} {v:Value} {R:Value→World→Prop} (h:qy P o ε w v) (hR:R v w):yld P o ε w R:=by
 unfold qy at h;unfold yld;generalize (execOp ε o).run P w=r at *;cases r with
 | ok n w' =>
  cases n <;> simp only at h ⊢
  case value u=>obtain ⟨rfl,rfl⟩:=h;exact hR
  case skip=>obtain ⟨rfl,rfl⟩:=h;exact hR
 | halt x w'=>exact h.elim
def jEX (md:Region.Mode) (ops:Array Oper) (i:Nat):Array Bool :=
 (List.range ops.size).foldl (fun l j=>if j != i && !l.getD j true && ((ops[j]?).map (·.after.all fun e=>!Region.binds md e || l.getD e.on false)).getD false then l.setIfInBounds j true else l) (Array.replicate ops.size false)
def xY (md:Region.Mode) (ops:Array Oper) (loud:Nat→Bool) (i:Nat):Bool:=(List.range ops.size).all fun j=>!loud j || !(jEX md ops i).getD j false
def opM (md:Region.Mode) (P:Program) (ops:Array Oper) (C:World→Prop) (loud free:Nat→Bool) (i:Nat) (K:Act→World→Prop) (a:Act) (w:World):Prop :=
 match ops[i]? with
 | none=>K a w
 | some o =>
  if Region.wanted o (yielded ops a.tmps) then
   (if loud i then yld P o a.eval w (fun v w'=>(free i=true∨C w')∧K (a.put o.dst v) w')
   else ∃v,((xY md ops loud i=true∧qy P o a.eval w v)∨∀w',C w'→qy P o a.eval w' v)∧K (a.put o.dst v) w)
  else K (a.put o.dst undef) w
theorem jQX {loud free:Nat→Bool} {i:Nat} {a:Act} {w:World} {K K':Act→World→Prop} (h:∀a w,C w∨(loud i=true∧free i=true)→K a w→K' a w) (hw:loud i=false→C w) (hn:C w∨(loud i=true∧free i=true)) (hh:opM md P ops C loud free i K a w):opM md P ops C loud free i K' a w:=by
 unfold opM at *;split
 ·exact h _ _ hn (by simpa [*] using hh)
 ·rename_i o ho;simp only [ho] at hh;split
  ·rename_i hwt;simp only [hwt,if_true] at hh;split
   ·rename_i hl;simp only [hl,if_true] at hh;exact uV hh fun v w' ⟨hc,hk⟩=>⟨hc,h _ _ (hc.elim (fun hf=>.inr ⟨hl,hf⟩) .inl) hk⟩
   ·rename_i hl;simp only [hl] at hh;obtain ⟨v,h1,h2⟩:=hh;exact ⟨v,h1,h _ _ (.inl (hw (by simpa using hl))) h2⟩
  ·rename_i hwt;simp only [hwt] at hh;exact h _ _ hn hh
def jBS (P:Program) (md:Region.Mode) (ops:Array Oper) (C:World→Prop) (loud free:Nat→Bool) (Q:Act→World→Prop):Nat→Array Bool→Act→World→Prop
 | 0,listed,a,w=>Region.ready md ops listed=[]∧Q a w
 | fuel+1,listed,a,w =>
  (Region.ready md ops listed=[]→Q a w) ∧
  ∀i∈Region.ready md ops listed,opM md P ops C loud free i (jBS P md ops C loud free Q fuel (listed.setIfInBounds i true)) a w
def qR (loud:Nat→Bool) (n:Nat) (listed:Array Bool):Prop:=∀i,i<n→loud i=false→listed.getD i true=true
theorem qR.set {loud:Nat→Bool} {n:Nat} {listed:Array Bool} (h:qR loud n listed) (k:Nat):qR loud n (listed.setIfInBounds k true):=fun i hi hl=>by
 by_cases hk:k=i
 ·subst hk;rcases Nat.lt_or_ge k listed.size with h' | h'
  ·simp [h']
  ·simp [h']
 ·rw [getD_set_ne true hk];exact h i hi hl
structure Good (md:Region.Mode) (ops:Array Oper) (loud free:Nat→Bool) (far:Nat→Array Bool):Prop where
 size:∀i,loud i=false→(far i).size=ops.size
 shut:∀i,loud i=false→∀j∈Region.ready md ops (far i),j=i
 out:∀i,i<ops.size→loud i=false→∀j,j<ops.size→free j=true→(far i).getD j false=false
def jAV (n:Nat) (loud:Nat→Bool) (far:Nat→Array Bool) (listed:Array Bool):Prop:=∀i,i<n→loud i=false→listed.getD i true=false→∀k,listed.getD k false=true→(far i).getD k false=true
theorem Good.inFar {loud free:Nat→Bool} {far:Nat→Array Bool} {listed:Array Bool} (hg:Good md ops loud free far) (h:jAV ops.size loud far listed) {i j:Nat} (hi:i<ops.size) (hl:loud i=false) (hu:listed.getD i true=false) (hj:j∈Region.ready md ops listed) (hne:j≠i):(far i).getD j false=true:=by
 obtain ⟨_,o,ho,hall⟩:=mem_ready.1 hj;have hlt:j<(far i).size:=hg.size i hl▸(Array.getElem?_eq_some_iff.1 ho).1;cases hf:(far i).getD j false with
 | true=>rfl
 | false=>exact absurd (hg.shut i hl j (mem_ready.2 ⟨by simpa [hlt] using hf,o,ho,fun e he hb=>h i hi hl hu _ (hall e he hb)⟩)) hne
theorem Good.step {loud free:Nat→Bool} {far:Nat→Array Bool} {listed:Array Bool} (hg:Good md ops loud free far) (h:jAV ops.size loud far listed) {j:Nat} (hj:j∈Region.ready md ops listed):jAV ops.size loud far (listed.setIfInBounds j true):=by
 intro i hi hl hu k hk;have hji:j≠i:=fun e=>by
  subst e;rcases Nat.lt_or_ge j listed.size with h' | h'
  ·simp [h'] at hu
  ·simp [h'] at hu
 rw [getD_set_ne true hji] at hu;by_cases hjk:j=k
 ·subst hjk;exact hg.inFar h hi hl hu hj hji
 ·rw [getD_set_ne false hjk] at hk;exact h i hi hl hu k hk
theorem Good.free {loud free:Nat→Bool} {far:Nat→Array Bool} {listed:Array Bool} (hg:Good md ops loud free far) (h:jAV ops.size loud far listed) {j:Nat} (hj:j∈Region.ready md ops listed) (hlj:loud j=true) (hf:free j=true):qR loud ops.size listed:=by
 intro i hi hl;cases hu:listed.getD i true with
 | true=>rfl
 | false =>
  have hne:j≠i:=fun e=>by subst e;rw [hl] at hlj;cases hlj
  have h1:=hg.inFar h hi hl hu hj hne
  obtain ⟨_,o,ho,_⟩:=mem_ready.1 hj
  rw [hg.out i hi hl j (Array.getElem?_eq_some_iff.1 ho).1 hf] at h1
  cases h1
theorem jDM {ro:Option Nat} {m:Nat} {loud free:Nat→Bool} {far:Nat→Array Bool} {Q:Act→World→Prop} {Q':Exit→Act→World→Prop} (hg:Good md ops loud free far) (hQ:∀a w,Q a w→Q' .normal a w) :
  ∀(fuel:Nat) (listed:Array Bool) (a:Act) (w:World),(C w∨qR loud ops.size listed)→jAV ops.size loud far listed→jBS P md ops C loud free Q fuel listed a w→wpAnyIn (fen ro) m P md ops Q' fuel listed a w
 | 0,_,_,_,_,_,h=>⟨h.1,hQ _ _ h.2⟩
 | fuel + 1, listed, a, w, hw, hW, h => ⟨fun h0 => hQ _ _ (h.1 h0), fun i hi => by
   have hh:=h.2 i hi;have ih:∀a w,(C w∨qR loud ops.size (listed.setIfInBounds i true))→jBS P md ops C loud free Q fuel (listed.setIfInBounds i true) a w→wpAnyIn (fen ro) m P md ops Q' fuel (listed.setIfInBounds i true) a w:=fun a w hw h=>jDM hg hQ fuel _ a w hw (hg.step hW hi) h;have hkeep:C w∨qR loud ops.size (listed.setIfInBounds i true):=hw.imp id (fun h=>h.set i);unfold opM at hh;unfold wpOpIn;split
   ·rename_i ho;simp only [ho] at hh;exact ih _ _ hkeep hh
   ·rename_i o ho;simp only [ho] at hh;split
    ·rename_i hwt;simp only [hwt,if_true] at hh;apply jBP;split at hh
     ·rename_i hl;exact uV hh fun v w' ⟨hc,hk⟩=>ih _ _ (hc.elim (fun hf=>.inr ((hg.free hW hi hl hf).set i)) .inl) hk
     ·rename_i hl;obtain ⟨v,h1,h2⟩:=hh;have hCw:C w:=by
       rcases hw with h | h
       ·exact h
       ·obtain ⟨hu,o',ho',_⟩:=mem_ready.1 hi;have:=h i (Array.getElem?_eq_some_iff.1 ho').1 (by simpa using hl);rw [hu] at this;cases this
      exact jMK (h1.elim (·.2) (fun h=>h w hCw)) (ih _ _ hkeep h2)
    ·rename_i hwt;simp only [hwt] at hh;exact ⟨fun f _=>jGX ro f,ih _ _ hkeep hh⟩⟩
def qE (P:Program) (ops:Array Oper) (C:World→Prop) (e:Bool) (w:World) (o:Oper) (v:Value) (a:Act):Prop :=
 (Region.wanted o (yielded ops a.tmps)=true∧((e=true∧qy P o a.eval w v)∨∀w',C w'→qy P o a.eval w' v)) ∨
 (Region.wanted o (yielded ops a.tmps)=false∧v=undef)
theorem qE.of_same {e:Bool} {w:World} {o:Oper} {v:Value} {a a':Act} (hy:qE P ops C e w o v a) (he:execOp a'.eval o=execOp a.eval o)
  (hw:Region.wanted o (yielded ops a'.tmps)=Region.wanted o (yielded ops a.tmps)):qE P ops C e w o v a':=by
 unfold qE qy at *
 rw [he,hw]
 exact hy
theorem qE.at {e:Bool} {w w':World} {o:Oper} {v:Value} {a:Act} (hy:qE P ops C e w o v a) (h:e=true→w'=w):qE P ops C e w' o v a:=by
 rcases hy with ⟨h1,⟨h2,h3⟩ | h2⟩ | h1
 ·exact .inl ⟨h1,.inl ⟨h2,by rw [h h2];exact h3⟩⟩
 ·exact .inl ⟨h1,.inr h2⟩
 ·exact .inr h1
theorem qE.op {loud free:Nat→Bool} {i:Nat} {o:Oper} {v:Value} {a:Act} {w:World} (hi:ops[i]?=some o) (hl:loud i=false) (hy:qE P ops C (xY md ops loud i) w o v a) {K:Act→World→Prop} (h:K (a.put o.dst v) w):opM md P ops C loud free i K a w:=by
 unfold opM;simp only [hi,hl];rcases hy with ⟨hw,hv⟩ | ⟨hw,rfl⟩
 ·simp only [hw,if_true];exact ⟨v,hv,h⟩
 ·simp only [hw,Bool.false_eq_true,if_false];exact h
theorem jEB {loud free:Nat→Bool} {i:Nat} {o:Oper} {a:Act} {w:World} {K:Act→World→Prop} (hi:ops[i]?=some o) (hl:loud i=false) (h:opM md P ops C loud free i K a w):∃v,qE P ops C (xY md ops loud i) w o v a∧K (a.put o.dst v) w:=by
 unfold opM at h;simp only [hi,hl] at h;by_cases hw:Region.wanted o (yielded ops a.tmps)=true
 ·simp only [hw,if_true] at h;obtain ⟨v,h1,h2⟩:=h;exact ⟨v,.inl ⟨hw,h1⟩,h2⟩
 ·simp only [hw] at h;exact ⟨undef,.inr ⟨by simpa using hw,rfl⟩,h⟩
theorem jTO {loud free:Nat→Bool} {j:Nat} {oi oj:Oper} {v:Value} (hj:ops[j]?=some oj) (hap:oi.apart ops oj=true)
  (hsi:∀cs b,oi.op≠.select cs b) (hsj:∀cs b,oj.op≠.select cs b) {K:Act→World→Prop} {a:Act} {w:World}
  {e:Bool} (hej:loud j=true→e=false) (hy:qE P ops C e w oi v a) (h:opM md P ops C loud free j K (a.put oi.dst v) w) :
  opM md P ops C loud free j (fun a' w'=>qE P ops C e w' oi v a'∧K (a'.put oi.dst v) w') a w:=by
 obtain ⟨h1,h2,h3⟩:=Oper.apart_spec hap
 have keep:∀u,qE P ops C e w oi v (a.put oj.dst u):=fun u =>
  hy.of_same (execOp_put oi hsi a oj.dst u h3) (wanted_put oi a oj.dst u h3)
 unfold opM at *
 simp only [hj] at *
 rw [wanted_put oj a oi.dst v h1] at h
 split
 ·rename_i hw
  simp only [hw,if_true] at h
  split
  ·rename_i hl
   simp only [hl,if_true] at h
   unfold yld at *
   rw [execOp_put oj hsj a oi.dst v h1] at h
   generalize (execOp a.eval oj).run P w=r at *
   cases r with
   | ok n w' =>
    cases n <;> simp only at h ⊢
    case value u=>exact ⟨h.1,(keep u).at (fun h=>by rw [hej hl] at h;cases h),by rw [← Act.put_comm a v u h2];exact h.2⟩
    case skip=>exact ⟨h.1,(keep _).at (fun h=>by rw [hej hl] at h;cases h),by rw [← Act.put_comm a v undef h2];exact h.2⟩
    case enter f args=>exact h.mono fun e w'' ⟨u,he,hc,hk⟩=>⟨u,he,hc,(keep u).at (fun h=>by rw [hej hl] at h;cases h),by rw [← Act.put_comm a v u h2];exact hk⟩
    case row f args=>exact h.mono fun u w'' ⟨hc,hk⟩=>⟨hc,(keep u).at (fun h=>by rw [hej hl] at h;cases h),by rw [← Act.put_comm a v u h2];exact hk⟩
    case round=>exact RoundIn.mono h fun e w'' ⟨u,he,hc,hk⟩=>⟨u,he,hc,(keep u).at (fun h=>by rw [hej hl] at h;cases h),by rw [← Act.put_comm a v u h2];exact hk⟩
   | halt x w'=>exact h.elim
  ·rename_i hl
   simp only [hl] at h
   obtain ⟨u,hu,hn⟩:=h
   refine ⟨u,?_,keep u,by rw [← Act.put_comm a v u h2];exact hn⟩
   unfold qy at *
   rwa [execOp_put oj hsj a oi.dst v h1] at hu
 ·rename_i hw
  simp only [hw] at h
  exact ⟨keep _,by rw [← Act.put_comm a v undef h2];exact h⟩
theorem jCJ {i:Nat} {oj:Oper} {listed:Array Bool} (hr:i∈Region.ready md ops listed) (hall:∀e∈oj.after,Region.binds md e=true→listed.getD e.on false=true) :
  ∀e∈oj.after,Region.binds md e=true→e.on≠i:=fun e he hb heq=>by
 have h1:=hall e he hb
 have h0:=(mem_ready.1 hr).1
 rw [heq] at h1
 rcases Nat.lt_or_ge i listed.size with h' | h'
 ·simp [h'] at h0 h1;rw [h0] at h1;cases h1
 ·simp [Array.getElem?_eq_none h'] at h1
theorem jFK {loud free:Nat→Bool} {far:Nat→Array Bool} {Q:Act→World→Prop} (hg:Good md ops loud free far) (hfar:∀i,i<ops.size→far i=jEX md ops i) {i:Nat} {oi:Oper} {v:Value} (hi:ops[i]?=some oi) (hli:loud i=false) (hsel:∀(j:Nat) (o:Oper) cs b,ops[j]?=some o→o.op≠.select cs b) :
  ∀(fuel:Nat) (listed:Array Bool) (a:Act) (w:World),C w→jAV ops.size loud far listed →
   (∀j oj,ops[j]?=some oj→j≠i→listed.getD j true=false→(∀e∈oj.after,Region.binds md e=true→e.on≠i)→oi.apart ops oj=true) →
   i∈Region.ready md ops listed→qE P ops C (xY md ops loud i) w oi v a →
   jBS P md ops C loud free Q fuel (listed.setIfInBounds i true) (a.put oi.dst v) w→jBS P md ops C loud free Q (fuel+1) listed a w:=by
 intro fuel
 induction fuel with
 | zero =>
  intro listed a w _ _ _ hr hy H
  refine ⟨fun h=>(by rw [h] at hr;cases hr),fun j hj=>?_⟩
  by_cases hji:j=i
  ·subst hji;exact hy.op hi hli H
  ·have:=ready_mono hj hji
   rw [H.1] at this
   cases this
 | succ fuel ih =>
  intro listed a w hC hW hfree hr hy H
  refine ⟨fun h=>(by rw [h] at hr;cases hr),fun j hj=>?_⟩
  by_cases hji:j=i
  ·subst hji;exact hy.op hi hli H
  ·have h1:=H.2 j (ready_mono hj hji)
   obtain ⟨hjun,oj,hoj,hall⟩:=mem_ready.1 hj
   have hej:loud j=true→xY md ops loud i=false:=fun hlj=>by
    cases he:xY md ops loud i with
    | false=>rfl
    | true =>
     have hil:=(Array.getElem?_eq_some_iff.1 hi).1
     have hjl:=(Array.getElem?_eq_some_iff.1 hoj).1
     have h1:=hg.inFar hW hil hli (mem_ready.1 hr).1 hj hji
     have h2:=List.all_eq_true.1 he j (List.mem_range.2 hjl)
     rw [hlj] at h2
     have h3:(jEX md ops i).getD j false=true:=hfar i hil▸h1
     rw [h3] at h2;cases h2
   have h2:=jTO (e:=xY md ops loud i) hoj (hfree j oj hoj hji hjun (jCJ hr hall)) (fun cs b=>hsel i oi cs b hi) (fun cs b=>hsel j oj cs b hoj) hej hy h1
   have hfree' : ∀ k ok, ops[k]? = some ok → k ≠ i → (listed.setIfInBounds j true).getD k true = false →
     (∀e∈ok.after,Region.binds md e=true→e.on≠i)→oi.apart ops ok=true:=fun k ok hk hki hun hno=>by
    refine hfree k ok hk hki ?_ hno
    by_cases hjk:j=k
    ·subst hjk;exact hjun
    ·rw [getD_set_ne true hjk] at hun;exact hun
   have hnf:¬ (loud j=true∧free j=true):=fun ⟨h1,h2⟩=>by
    have:=hg.free hW hj h1 h2 i (Array.getElem?_eq_some_iff.1 hi).1 hli;rw [(mem_ready.1 hr).1] at this;cases this
   refine jQX (fun a' w' hC' h3=>ih (listed.setIfInBounds j true) a' w' (hC'.resolve_right hnf) (hg.step hW hj) hfree' (ready_mono hr (Ne.symm hji)) h3.1 ?_) (fun _=>hC) (.inl hC) h2
   rw [Array.setIfInBounds_comm _ _ hji]
   exact h3.2
def jIS (md:Region.Mode) (ops:Array Oper) (loud free:Nat→Bool):Bool :=
 (List.range ops.size).all fun i=>loud i || (let f:=jEX md ops i
  f.size == ops.size && (Region.ready md ops f).all (· == i) && (List.range ops.size).all (fun j=>!free j || !f.getD j false))
def jKE (md:Region.Mode) (ops:Array Oper) (i:Nat):Array Bool:=if i<ops.size then jEX md ops i else Array.replicate ops.size true
theorem jGU {loud free:Nat→Bool} (h:jIS md ops loud free=true):Good md ops loud free (jKE md ops):=by
 have h':∀i,i<ops.size→loud i=false→(jEX md ops i).size=ops.size∧(∀j∈Region.ready md ops (jEX md ops i),j=i)∧∀j,j<ops.size→free j=true→(jEX md ops i).getD j false=false:=fun i hi hl=>by
  have:=List.all_eq_true.1 h i (List.mem_range.2 hi);simp only [hl,Bool.false_or,Bool.and_eq_true,beq_iff_eq,List.all_eq_true,List.mem_range,Bool.or_eq_true,Bool.not_eq_true'] at this;exact ⟨this.1.1,this.1.2,fun j hj hf=>by rcases this.2 j hj with h | h;rw [hf] at h;cases h;exact h⟩
 refine ⟨fun i hl=>?_,fun i hl j hj=>?_,fun i hi hl j hj hf=>?_⟩
 ·unfold jKE;split
  ·rename_i hi;exact (h' i hi hl).1
  ·simp
 ·unfold jKE at hj;split at hj
  ·rename_i hi;exact (h' i hi hl).2.1 j hj
  ·obtain ⟨hu,o,ho,_⟩:=mem_ready.1 hj;have:=(Array.getElem?_eq_some_iff.1 ho).1;simp [this] at hu
 ·unfold jKE;rw [if_pos hi];exact (h' i hi hl).2.2 j hj hf
theorem jAK {n m:Nat} {loud:Nat→Bool} {far:Nat→Array Bool}:jAV n loud far (Array.replicate m false):=fun i _ _ _ k hk=>by
 exfalso;rcases Nat.lt_or_ge k m with h' | h'
 ·simp [h'] at hk
 ·simp [h'] at hk
def jKN (P:Program) (md:Region.Mode) (ops:Array Oper) (C:World→Prop) (loud free:Nat→Bool) (Q:Act→World→Prop):Nat→Array Bool→Act→World→Prop
 | 0,listed,a,w=>Region.ready md ops listed=[]∧Q a w
 | fuel+1,listed,a,w =>
  (∃i,i∈Region.ready md ops listed∧loud i=false∧Region.free md ops listed i=true∧opM md P ops C loud free i (jKN P md ops C loud free Q fuel (listed.setIfInBounds i true)) a w) ∨
  ((Region.ready md ops listed=[]→Q a w)∧∀i∈Region.ready md ops listed,opM md P ops C loud free i (jKN P md ops C loud free Q fuel (listed.setIfInBounds i true)) a w)
theorem oA {loud free:Nat→Bool} {far:Nat→Array Bool} {Q:Act→World→Prop} (hg:Good md ops loud free far) (hfar:∀i,i<ops.size→far i=jEX md ops i) (hs:Region.noSelect ops=true):∀(fuel:Nat) (listed:Array Bool) (a:Act) (w:World),(C w∨qR loud ops.size listed)→jAV ops.size loud far listed →
  jKN P md ops C loud free Q fuel listed a w→jBS P md ops C loud free Q fuel listed a w
 | 0,_,_,_,_,_,h=>h
 | fuel+1,listed,a,w,hC,hW,h=>by
  rcases h with ⟨i,hr,hl,hf,h⟩ | ⟨h0,h⟩
  ·obtain ⟨hu,o,ho,_⟩:=mem_ready.1 hr;have hCw:C w:=by
    rcases hC with h | h
    ·exact h
    ·have:=h i (Array.getElem?_eq_some_iff.1 ho).1 hl;rw [hu] at this;cases this
   obtain ⟨v,hy,hK⟩:=jEB ho hl h;exact jFK hg hfar ho hl (Region.noSelect_spec hs) fuel listed a w hCw hW (Region.free_spec ho hf) hr hy (oA hg hfar hs fuel _ _ _ (.inl hCw) (hg.step hW hr) hK)
  ·refine ⟨h0,fun i hi=>?_⟩;have hh:=h i hi;have rec_:∀a w,(C w∨qR loud ops.size (listed.setIfInBounds i true))→jKN P md ops C loud free Q fuel (listed.setIfInBounds i true) a w→jBS P md ops C loud free Q fuel (listed.setIfInBounds i true) a w:=fun a w hc h=>oA hg hfar hs fuel _ a w hc (hg.step hW hi) h;have hkeep:C w∨qR loud ops.size (listed.setIfInBounds i true):=hC.imp id (fun h=>h.set i);unfold opM at hh ⊢;split
   ·rename_i ho;simp only [ho] at hh;exact rec_ _ _ hkeep hh
   ·rename_i o ho;simp only [ho] at hh;split
    ·rename_i hwt;simp only [hwt,if_true] at hh;split
     ·rename_i hl;simp only [hl,if_true] at hh;exact uV hh fun v w' ⟨hc,hk⟩=>⟨hc,rec_ _ _ (hc.elim (fun hf=>.inr ((hg.free hW hi hl hf).set i)) .inl) hk⟩
     ·rename_i hl;simp only [hl] at hh;obtain ⟨v,h1,h2⟩:=hh;exact ⟨v,h1,rec_ _ _ hkeep h2⟩
    ·rename_i hwt;simp only [hwt] at hh;exact rec_ _ _ hkeep hh
theorem jEC {ro:Option Nat} {m:Nat} {id:Nat} {Q:Exit→Act→World→Prop} {a:Act} {w:World} (C:World→Prop) (loud free:Nat→Bool) (hm:P.follows .mixedOrders=true) (hs:Region.noSelect ops=true) (hg:jIS .any ops loud free=true)
  (hC:C { w with drawn:=w.drawn+1 })
  (h:jKN P .any ops C loud free (fun a' w'=>Q .normal a' w') ops.size (Array.replicate ops.size false) a { w with drawn:=w.drawn+1 }):(Code.region id ops true).wpIn (fen ro) m P Q a w :=
 wpIn_region_any hm (jDM (Q':=Q) (jGU hg) (fun _ _ h=>h) _ _ _ _ (.inl hC) jAK (oA (md:=.any) (Q:=fun a' w'=>Q .normal a' w') (jGU hg) (fun i hi=>if_pos hi) hs _ _ _ _ (.inl hC) jAK h))
end
abbrev Env:=Nat→Value
def upd (ρ:Env) (d:Nat) (v:Value):Env:=fun i=>if i=d then v else ρ i
def put (ρ:Env) (d:Option Nat) (v:Value):Env:=match d with | some d=>upd ρ d v | none=>ρ
def evE (ρ:Env):Operand→Value
 | .tmp t=>ρ t
 | .const v=>v
 | .global g=>.pointer (some ⟨g,0,none⟩)
 | .func f=>.func (.func f) #[] #[]
def jFD (l:List Value):Env:=fun i=>l.getD i undef
structure Rep (ds:List Deferred) (n:Nat) (ρ:Env) (a:Act):Prop where
 defers:a.defers=ds
 size:a.tmps.size=n
 get:∀t,a.tmps.getD t undef=ρ t
theorem Rep.eval {ds:List Deferred} {n:Nat} {ρ:Env} {a:Act} (h:Rep ds n ρ a):a.eval=evE ρ:=by
 funext x;cases x with
 | tmp t=>exact h.get t
 | _=>rfl
theorem Rep.put {ds:List Deferred} {n:Nat} {ρ:Env} {a:Act} (h:Rep ds n ρ a) {d:Option Nat} (hd:∀k,d=some k→k<n) (v:Value):Rep ds n (SE.put ρ d v) (a.put d v):=by
 cases d with
 | none=>exact h
 | some k =>
  refine ⟨h.defers,by simp [Act.put,h.size],fun t=>?_⟩
  have hk:=hd k rfl
  simp only [Act.put,SE.put,upd]
  by_cases ht:t=k
  ·subst ht;simp [h.size,hk]
  ·rw [if_neg ht,← h.get t];simp [Array.getElem?_setIfInBounds_ne (Ne.symm ht)]
def jL (ops:Array Oper) (ρ:Env) (j:Nat):Option Bool :=
 match (ops[j]?).bind (·.dst) with
 | some d=>match ρ d with | .bool b=>some b | _=>none
 | none=>none
theorem Rep.yielded {ds:List Deferred} {n:Nat} {ρ:Env} {a:Act} (h:Rep ds n ρ a) (ops:Array Oper):yielded ops a.tmps=jL ops ρ:=by
 funext j;unfold Go.yielded jL;cases (ops[j]?).bind (·.dst) with
 | none=>rfl
 | some d =>
  simp only [Option.bind_some]
  have:=h.get d
  rw [Array.getD_eq_getD_getElem?] at this
  cases hd:a.tmps[d]? with
  | none=>rw [hd] at this;simp only [Option.getD_none] at this;rw [← this];rfl
  | some v=>rw [hd] at this;simp only [Option.getD_some] at this;rw [← this];cases v <;> rfl
def mark (D:Nat):Deferred:={ target:=.collected D,args:=#[] }
structure Cx where
 ro:Option Nat
 ds:List Deferred
def jLO (x:Cx) (n:Nat) (Q:Exit→Env→World→Prop):Exit→Act→World→Prop:=fun e a w =>
 ∃ρ,(Rep x.ds n ρ a∧Q e ρ w)∨(e=.ret∧x.ro=none∧x.ds=[]∧∃D,Rep [mark D] n ρ a∧w.heap[D]?=some (.deferred (some []))∧Q .ret ρ (w.putObj D (.deferred none)))
def wpE {x:Cx} (P:Program) (n:Nat) (c:Code) (Q:Exit→Env→World→Prop) (ρ:Env) (w:World):Prop:=∀a,Rep x.ds n ρ a→c.wpIn (fen x.ro) 0 P (jLO x n Q) a w
def oR (next:Env→World→Prop) (Q:Exit→Env→World→Prop):Exit→Env→World→Prop
 | .normal,ρ,w=>next ρ w
 | e,ρ,w=>Q e ρ w
def jAU (id:Nat) (Q:Exit→Env→World→Prop):Exit→Env→World→Prop
 | .exit id',ρ,w=>if id'=id then Q .normal ρ w else Q (.exit id') ρ w
 | e,ρ,w=>Q e ρ w
section
variable {x:Cx} {P:Program} {n:Nat} {Q:Exit→Env→World→Prop} {ρ:Env} {w:World}
theorem jOD {Q':Exit→Env→World→Prop} (hq:∀e ρ w,Q e ρ w→Q' e ρ w) {e:Exit} {a:Act} (h:jLO x n Q e a w):jLO x n Q' e a w:=by
 obtain ⟨ρ,⟨h1,h2⟩ | ⟨h1,h2,h3,D,h4,h5,h6⟩⟩:=h
 ·exact ⟨ρ,.inl ⟨h1,hq _ _ _ h2⟩⟩
 ·exact ⟨ρ,.inr ⟨h1,h2,h3,D,h4,h5,hq _ _ _ h6⟩⟩
theorem jCM {a:Act} (h:jLO x n Q .normal a w):∃ρ,Rep x.ds n ρ a∧Q .normal ρ w:=by
 obtain ⟨ρ,h | ⟨h,_⟩⟩:=h
 ·exact ⟨ρ,h⟩
 ·cases h
theorem jBA {c:Code} {Q':Exit→Env→World→Prop} (hq:∀e ρ w,Q e ρ w→Q' e ρ w) (h:wpE (x:=x) P n c Q ρ w):wpE (x:=x) P n c Q' ρ w :=
 fun a ha=>wpIn_mono (h a ha) (fun _ _ _ h=>jOD hq h)
theorem jB (h:Q .normal ρ w):wpE (x:=x) P n .skip Q ρ w:=fun _ ha=>wpIn_skip ⟨ρ,.inl ⟨ha,h⟩⟩
theorem jMN (h:Q .ret ρ w):wpE (x:=x) P n .ret Q ρ w:=fun _ ha=>wpIn_ret ⟨ρ,.inl ⟨ha,h⟩⟩
theorem zV {id:Nat} (h:Q (.exit id) ρ w):wpE (x:=x) P n (.exit id) Q ρ w:=fun _ ha=>wpIn_exit ⟨ρ,.inl ⟨ha,h⟩⟩
theorem jFI {l:Nat} (h:Q .normal ρ w):wpE (x:=x) P n (.label l) Q ρ w:=fun _ ha=>wpIn_label ⟨ρ,.inl ⟨ha,h⟩⟩
theorem jA {c y:Code} (h:wpE (x:=x) P n c (oR (fun ρ w=>wpE (x:=x) P n y Q ρ w) Q) ρ w):wpE (x:=x) P n (.seq c y) Q ρ w:=fun a ha =>
 wpIn_seq (wpIn_mono (h a ha) (fun e a w hl=>by
  cases e with
  | normal=>obtain ⟨ρ',hr,hq⟩:=jCM hl;exact hq a hr
  | _=>exact hl))
theorem kG {c y:Code} (J:Env→World→Prop) (hy:∀ρ w,J ρ w→wpE (x:=x) P n y Q ρ w) (h:wpE (x:=x) P n c (oR J Q) ρ w):wpE (x:=x) P n (.seq c y) Q ρ w :=
 jA (jBA (fun e ρ w hq=>by cases e <;> first | exact hy _ _ hq | exact hq) h)
theorem vM {c:Operand} {y z:Code} {t:Bool} (hc:evE ρ c=.bool t) (ht:t=true→wpE (x:=x) P n y Q ρ w) (hf:t=false→wpE (x:=x) P n z Q ρ w):wpE (x:=x) P n (.cond c y z) Q ρ w :=
 fun a ha=>wpIn_cond_split (by rw [ha.eval];exact hc) (fun h=>ht h a ha) (fun h=>hf h a ha)
theorem vA {c:Operand} {y z:Code} (hc:evE ρ c=.bool true) (h:wpE (x:=x) P n y Q ρ w):wpE (x:=x) P n (.cond c y z) Q ρ w :=
 fun a ha=>wpIn_cond_true (by rw [ha.eval];exact hc) (h a ha)
theorem kR {c:Operand} {y z:Code} (hc:evE ρ c=.bool false) (h:wpE (x:=x) P n z Q ρ w):wpE (x:=x) P n (.cond c y z) Q ρ w :=
 fun a ha=>wpIn_cond_false (by rw [ha.eval];exact hc) (h a ha)
theorem jM {id:Nat} {c:Code} (h:wpE (x:=x) P n c (jAU id Q) ρ w):wpE (x:=x) P n (.block id c) Q ρ w:=fun a ha =>
 wpIn_block (wpIn_mono (h a ha) (fun e a w hl=>by
  cases e with
  | exit id' =>
   obtain ⟨ρ',⟨hr,hq⟩ | ⟨h,_⟩⟩:=hl
   ·simp only [jAU] at hq
    simp only [Exit.inBlock]
    split
    ·rename_i h;rw [if_pos h] at hq;exact ⟨ρ',.inl ⟨hr,hq⟩⟩
    ·rename_i h;rw [if_neg h] at hq;exact ⟨ρ',.inl ⟨hr,hq⟩⟩
   ·cases h
  | _=>exact hl))
theorem jFH {c:Code} (hx:x.ro=none) (hQ:∀l ρ w,¬ Q (.goto l) ρ w) (h:wpE (x:=x) P n c Q ρ w):wpE (x:=x) P n (.scope c) Q ρ w:=fun a ha=>by
 have h:=h a ha;rw [hx] at h ⊢;refine wpIn_wide.2 (wp_scope_straight (Code.wp_mono (fun e a w hl=>?_) (wpIn_wide.1 h)));cases e with
 | goto l =>
  obtain ⟨ρ',⟨_,hq⟩ | ⟨h,_⟩⟩:=hl
  ·exact (hQ l ρ' w hq).elim
  ·cases h
 | _=>exact hl
theorem kL {c:Code} {σ:Type} (I:σ→Env→World→Prop) (μ:σ→Nat) (s0:σ) (h0:I s0 ρ w)
  (round:∀s ρ w,I s ρ w→wpE (x:=x) P n c (oR (fun ρ' w'=>∃s',I s' ρ' w'∧μ s'<μ s) Q) ρ w):wpE (x:=x) P n (.loop c) Q ρ w:=by
 intro a ha b k cs hro hb hroom
 have key:∀m s ρ a w,μ s=m→Rep x.ds n ρ a→I s ρ w→∃e a' w',jLO x n Q e a' w'∧ArrivesIn (Machine.fenced P (fen x.ro)) P (lone (b.atR a (.code c :: .inLoop c :: k)) cs w) b k cs e a' w':=by
  intro m;induction m using Nat.strongRecOn with
  | _ m ih =>
   intro s ρ a w hm hr hI
   obtain ⟨e,a1,w1,hl,harr⟩:=round s ρ w hI a hr b (.inLoop c :: k) cs hro hb hroom
   cases e with
   | normal =>
    obtain ⟨ρ1,hr1,s',hI',hlt⟩:=jCM hl
    obtain ⟨e2,a2,w2,hq2,harr2⟩:=ih (μ s') (hm▸hlt) s' ρ1 a1 w1 rfl hr1 hI'
    exact ⟨e2,a2,w2,hq2,.of_steps (StepsIn.trans harr (.one (fenced_calm hb hroom rfl) stepR_inLoop)) harr2⟩
   | exit id=>exact ⟨_,a1,w1,hl,.pass (x:=.inLoop c) rfl (fun _ _=>.inl (by simp)) harr⟩
   | goto l=>exact ⟨_,a1,w1,hl,.pass (x:=.inLoop c) rfl (fun _ _=>.inl (by simp)) harr⟩
   | ret=>exact ⟨_,a1,w1,hl,.pass (x:=.inLoop c) rfl (fun _ _=>.inl (by simp)) harr⟩
   | panic ch=>exact ⟨_,a1,w1,hl,.pass (x:=.inLoop c) rfl (fun _ _=>.inl (by simp)) harr⟩
   | outgrown=>exact ⟨_,a1,w1,hl,.pass (x:=.inLoop c) rfl (fun _ _=>.inl (by simp)) harr⟩
 obtain ⟨e,a',w',hq,harr⟩:=key _ s0 ρ a w rfl ha h0
 exact ⟨e,a',w',hq,.of_steps (.one (fenced_calm hb hroom rfl) stepR_loop) harr⟩
def wpL (P:Program) (ops:Array Oper) (Q:Env→World→Prop):List Oper→Env→World→Prop
 | [],ρ,w=>Q ρ w
 | o :: rest,ρ,w =>
  if Region.wanted o (jL ops ρ) then yld P o (evE ρ) w (fun v w'=>wpL P ops Q rest (put ρ o.dst v) w')
  else wpL P ops Q rest (put ρ o.dst undef) w
def yQ (n:Nat) (l:List Oper):Bool:=l.all fun o=>match o.dst with | some d=>d<n | none=>true
theorem jCU {o:Oper} {l:List Oper} (h:yQ n (o :: l)=true):(∀k,o.dst=some k→k<n)∧yQ n l=true:=by
 simp only [yQ,List.all_cons,Bool.and_eq_true] at h;refine ⟨fun k hk=>?_,h.2⟩;have:=h.1;rw [hk] at this;simpa using this
theorem uX {ops:Array Oper} {Q':Env→World→Prop} (hQ:∀ρ a w,Rep x.ds n ρ a→Q' ρ w→jLO x n Q .normal a w):∀(l:List Oper) (ρ:Env) (a:Act) (w:World),yQ n l=true→Rep x.ds n ρ a→wpL P ops Q' l ρ w→wpListIn (fen x.ro) 0 P ops (jLO x n Q) l a w
 | [],ρ,a,w,_,hr,h=>hQ _ _ _ hr h
 | o :: l,ρ,a,w,hd,hr,h=>by
  obtain ⟨hk,hd'⟩:=jCU hd;unfold wpL at h;unfold wpListIn;rw [hr.yielded];split
  ·rename_i hw;rw [if_pos hw] at h;apply jBP;rw [hr.eval];exact uV h fun v w' hh=>uX hQ l _ _ _ hd' (hr.put hk v) hh
  ·rename_i hw;rw [if_neg hw] at h;exact ⟨fun f _=>jGX x.ro f,uX hQ l _ _ _ hd' (hr.put hk undef) h⟩
theorem jKO {id:Nat} {l:List Oper} (hd:yQ n l=true) (h:wpL P l.toArray (fun ρ w=>Q .normal ρ w) l ρ w):wpE (x:=x) P n (.region id l.toArray false) Q ρ w:=fun a ha =>
 wpIn_region_lit (uX (fun ρ' _ _ hr hq=>⟨ρ',.inl ⟨hr,hq⟩⟩) l ρ a w hd ha h)
def opE (P:Program) (ops:Array Oper) (C:World→Prop) (loud free:Nat→Bool) (i:Nat) (K:Env→World→Prop) (ρ:Env) (w:World):Prop :=
 match ops[i]? with
 | none=>K ρ w
 | some o =>
  if Region.wanted o (jL ops ρ) then
   (if loud i then yld P o (evE ρ) w (fun v w'=>(free i=true∨C w')∧K (put ρ o.dst v) w')
   else ∃v,((xY .any ops loud i=true∧qy P o (evE ρ) w v)∨∀w',C w'→qy P o (evE ρ) w' v)∧K (put ρ o.dst v) w)
  else K (put ρ o.dst undef) w
def wpX (P:Program) (ops:Array Oper) (C:World→Prop) (loud free:Nat→Bool) (Q:Env→World→Prop):Nat→Array Bool→Env→World→Prop
 | 0,listed,ρ,w=>Region.ready .any ops listed=[]∧Q ρ w
 | fuel+1,listed,ρ,w =>
  (∃i,i∈Region.ready .any ops listed∧loud i=false∧Region.free .any ops listed i=true∧opE P ops C loud free i (wpX P ops C loud free Q fuel (listed.setIfInBounds i true)) ρ w) ∨
  ((Region.ready .any ops listed=[]→Q ρ w)∧∀i∈Region.ready .any ops listed,opE P ops C loud free i (wpX P ops C loud free Q fuel (listed.setIfInBounds i true)) ρ w)
theorem jDU {ds:List Deferred} {ops:Array Oper} {C:World→Prop} {loud free:Nat→Bool} {i:Nat} {K:Env→World→Prop} {K':Act→World→Prop} (hK:∀ρ a w,Rep ds n ρ a→K ρ w→K' a w) (hd:∀o,ops[i]?=some o→∀k,o.dst=some k→k<n) {a:Act} (hr:Rep ds n ρ a) (h:opE P ops C loud free i K ρ w):opM .any P ops C loud free i K' a w:=by
 unfold opE at h;unfold opM;cases ho:ops[i]? with
 | none=>rw [ho] at h;exact hK _ _ _ hr h
 | some o =>
  rw [ho] at h
  have hk:=hd o ho
  simp only at h ⊢
  rw [hr.yielded]
  split
  ·rename_i hw
   rw [if_pos hw] at h
   rw [hr.eval]
   split
   ·rename_i hl
    rw [if_pos hl] at h
    exact uV h fun v w' ⟨hc,hh⟩=>⟨hc,hK _ _ _ (hr.put hk v) hh⟩
   ·rename_i hl
    rw [if_neg hl] at h
    obtain ⟨v,h1,h2⟩:=h
    exact ⟨v,h1,hK _ _ _ (hr.put hk v) h2⟩
  ·rename_i hw
   rw [if_neg hw] at h
   exact hK _ _ _ (hr.put hk undef) h
theorem xN {ds:List Deferred} {ops:Array Oper} {C:World→Prop} {loud free:Nat→Bool} {Q':Env→World→Prop} {Q'':Act→World→Prop} (hQ:∀ρ a w,Rep ds n ρ a→Q' ρ w→Q'' a w) (hd:∀(i:Nat) (o:Oper),ops[i]?=some o→∀k,o.dst=some k→k<n):∀(fuel:Nat) (listed:Array Bool) (ρ:Env) (a:Act) (w:World),Rep ds n ρ a→wpX P ops C loud free Q' fuel listed ρ w→jKN P .any ops C loud free Q'' fuel listed a w
 | 0,_,_,_,_,hr,h=>⟨h.1,hQ _ _ _ hr h.2⟩
 | fuel+1,listed,ρ,a,w,hr,h=>by
  rcases h with ⟨i,h1,h2,h3,h4⟩ | ⟨h0,h⟩
  ·exact .inl ⟨i,h1,h2,h3,jDU (fun ρ a w hr h=>xN hQ hd fuel _ ρ a w hr h) (hd i) hr h4⟩
  ·exact .inr ⟨fun e=>hQ _ _ _ hr (h0 e),fun i hi=>jDU (fun ρ a w hr h=>xN hQ hd fuel _ ρ a w hr h) (hd i) hr (h i hi)⟩
def vH (l:List Nat) (k:Nat):Bool:=l.contains k
theorem jMA {l:List Oper} (h:yQ n l=true) (i:Nat) (o:Oper) (ho:l.toArray[i]?=some o) (k:Nat) (hk:o.dst=some k):k<n:=by
 have hm:o∈l:=by
  have:l[i]?=some o:=by simpa using ho
  exact List.mem_of_getElem? this
 have:=(List.all_eq_true.1 h) o hm;rw [hk] at this;simpa using this
theorem jFJ {id:Nat} {l:List Oper} (C:World→Prop) (loud free:List Nat) (hm:P.follows .mixedOrders=true) (hd:yQ n l=true) (hB:Region.noSelect l.toArray=true) (hg:jIS .any l.toArray (vH loud) (vH free)=true)
  (hC:C { w with drawn:=w.drawn+1 })
  (h:wpX P l.toArray C (vH loud) (vH free) (fun ρ w=>Q .normal ρ w) l.toArray.size (Array.replicate l.toArray.size false) ρ { w with drawn:=w.drawn+1 }):wpE (x:=x) P n (.region id l.toArray true) Q ρ w:=fun a ha =>
 jEC C (vH loud) (vH free) hm hB hg hC (xN (fun ρ' _ _ hr hq=>⟨ρ',.inl ⟨hr,hq⟩⟩) (jMA hd) _ _ ρ a _ ha h)
def jDA (P:Program) (fn:Func) (n:Nat) (R:Ending→World→Prop):Exit→Env→World→Prop
 | .normal,ρ,w | .ret,ρ,w=>∃v,(∀ds a,Rep ds n ρ a→(results fn a.tmps).run P w=.ok v w)∧R (.returned v) w
 | _,_,_=>False
theorem jBD {n:Nat} (args:List Value) (hn:args.length≤n):Rep [] n (jFD args) { tmps:=args.toArray++Array.replicate (n - args.toArray.size) undef,defers:=[] }:=by
 refine ⟨rfl,by simp;omega,fun t=>?_⟩;simp only [jFD,Array.getD_eq_getD_getElem?,List.getD_eq_getElem?_getD];by_cases h:t<args.length
 ·rw [Array.getElem?_append_left (by simpa using h)];simp
 ·rw [Array.getElem?_append_right (by simpa using h)];simp only [Array.getElem?_replicate];have:args[t]?=none:=by simpa using h
  rw [this];split <;> simp
theorem yC {fn:Func} {tmps:Array Value} {R:Ending→World→Prop} {v:Value} (hv:(results fn tmps).run P w=.ok v w) (hR:R (.returned v) w):LeavesInM Fence.wide 0 P fn tmps R [] .returning w:=by
 exact ⟨_,hv,hR⟩
theorem jAT {f:FuncId} {fn:Func} {c:Code} {args:List Value} {R:Ending→World→Prop} (hf:P.funcs[f]?=some fn) (hb:fn.body=some c) (hn:fn.ntmps=n) (hl:args.length≤n)
  (h:wpE (x:=⟨none,[]⟩) P n c (jDA P fn n R) (jFD args) w):Calls P f args.toArray w R:=by
 subst hn
 refine callsIn_wide.1 (callsIn_of_wp_marks (n:=0) hf hb trivial ?_)
 refine wpIn_mono (h _ (jBD args hl)) ?_
 rintro e a w' ⟨ρ',⟨hr,hq⟩ | ⟨rfl,_,_,D,hr,hD,hq⟩⟩
 ·have hd:a.defers=[]:=hr.defers
  cases e with
  | normal=>obtain ⟨v,hv,hR⟩:=hq;simp only [bodyPostM,hd];exact yC (hv _ a hr) hR
  | ret=>obtain ⟨v,hv,hR⟩:=hq;simp only [bodyPostM,hd];exact yC (hv _ a hr) hR
  | exit _=>exact hq.elim
  | goto _=>exact hq.elim
  | panic _=>exact hq.elim
  | outgrown=>exact hq.elim
 ·obtain ⟨v,hv,hR⟩:=hq
  have hd:a.defers=[mark D]:=hr.defers
  simp only [bodyPostM,hd]
  exact ⟨by simp,.inl ⟨D,_,rfl,run_takeDeferred hD,yC (hv _ a hr) hR⟩⟩
theorem res1 {fn:Func} {t:Nat} {v:Value} {R:Ending→World→Prop} {e:Exit} (he:e=.ret∨e=.normal) (hr:fn.results=#[.tmp t]) (hv:ρ t=v) (h:R (.returned v) w):jDA P fn n R e ρ w:=by
 rcases he with rfl | rfl <;> exact ⟨v,fun _ a ha=>by rw [results_tmp hr,ha.get,hv],h⟩
theorem jFV {fn:Func} {R:Ending→World→Prop} {e:Exit} (he:e=.ret∨e=.normal) (hr:fn.results=#[]) (h:R (.returned (.tuple #[])) w):jDA P fn n R e ρ w:=by
 rcases he with rfl | rfl <;> exact ⟨_,fun _ a _=>by rw [results_none hr],h⟩
theorem oX {fn:Func} {t u:Nat} {v v':Value} {R:Ending→World→Prop} {e:Exit} (he:e=.ret∨e=.normal) (hr:fn.results=#[.tmp t,.tmp u]) (hv:ρ t=v) (hv':ρ u=v') (h:R (.returned (.tuple #[v,v'])) w):jDA P fn n R e ρ w:=by
 rcases he with rfl | rfl <;> exact ⟨_,fun _ a ha=>by rw [results_tmp2 hr,ha.get,ha.get,hv,hv'],h⟩
theorem jFU {fn:Func} {ts:List Nat} (hr:fn.results=(ts.map ResultVar.tmp).toArray) (tmps:Array Value) (hts:ts.length≠1):(results fn tmps).run P w=.ok (.tuple (ts.map fun t=>tmps.getD t undef).toArray) w:=by
 have key:∀(f:ResultVar→Sem Value),(∀t,f (.tmp t)=pure (tmps.getD t undef))→∀(l:List Nat) (w:World),((l.map ResultVar.tmp).mapM f).run P w=.ok (l.map fun t=>tmps.getD t undef) w:=by
  intro f hf l;induction l with
  | nil=>intro w;rfl
  | cons t l ih=>intro w;rw [List.map_cons,List.mapM_cons,hf];simp only [Sem.run_bind,Sem.run_pure,Result.andThen,ih w,List.map_cons]
 unfold results;rw [hr,List.mapM_toArray];rw [Sem.run_bind,Sem.run_map,key _ (fun _=>rfl)];simp only [Result.andThen,Sem.run_pure];simp [hts]
theorem jKX {fn:Func} {t u s:Nat} {v v' v'':Value} {R:Ending→World→Prop} {e:Exit} (he:e=.ret∨e=.normal) (hr:fn.results=#[.tmp t,.tmp u,.tmp s]) (hv:ρ t=v) (hv':ρ u=v') (hv'':ρ s=v'') (h:R (.returned (.tuple #[v,v',v''])) w):jDA P fn n R e ρ w:=by
 rcases he with rfl | rfl <;> exact ⟨_,fun _ a ha=>by rw [jFU (ts:=[t,u,s]) hr _ (by simp)];simp only [List.map_cons,List.map_nil,ha.get,hv,hv',hv''],h⟩
end
end Go.SE
end
section
namespace Go.SE
structure Sl where
 a:Option Addr
 len:Nat
 cap:Nat
def Sl.v (s:Sl):Value:=.slice s.a s.len s.cap
def Sl.nil:Sl:=⟨none,0,0⟩
def Br (c:Bool) (A B:Prop):Prop:=(c=true→A)∧(c=false→B)
def Row (w:World) (a:Addr) (vs:List Value):Prop:=∀i,i<vs.length→w.cell? (a.add i)=vs[i]?
def jT (w:World) (a:Addr):Prop:=(∃u,w.cell? a=some u)∧w.frozen? a=false
def storeRowFrom (w:World) (a:Addr):Nat→List Value→World
 | _,[]=>w
 | i,v :: vs=>storeRowFrom (w.setCell (a.add i) v) a (i+1) vs
def storeRow (w:World) (a:Addr) (vs:List Value):World:=storeRowFrom w a 0 vs
def kD:Value→Bool
 | .agg _ | .tuple _=>false
 | _=>true
section layers
variable {next:Env→World→Prop} {Q:Exit→Env→World→Prop} {ρ:Env} {w:World} {id id':Nat}
theorem jN (h:next ρ w):oR next Q .normal ρ w:=h
theorem xG (h:Q (.exit id) ρ w):oR next Q (.exit id) ρ w:=h
theorem zM (h:Q .ret ρ w):oR next Q .ret ρ w:=h
theorem uS (h:Q .normal ρ w):jAU id Q .normal ρ w:=h
theorem qJ (h:Q .ret ρ w):jAU id Q .ret ρ w:=h
theorem xE (h:Q .normal ρ w):jAU id Q (.exit id) ρ w:=by simpa [jAU] using h
theorem bl_ne (hne:(id' == id)=false) (h:Q (.exit id') ρ w):jAU id Q (.exit id') ρ w:=by
 have:¬ id'=id:=by simpa using hne
 simpa [jAU,this] using h
end layers
section
variable {P:Program} {ops:Array Oper} {Q:Env→World→Prop} {ρ:Env} {w w':World} {rest:List Oper} {o:Oper} {v:Value}
theorem jC (h:Q ρ w):wpL P ops Q [] ρ w:=h
theorem yE {j d:Nat} {c t:Bool} (hd:(ops[j]?).bind (·.dst)=some d) (hv:ρ d=.bool c) (hc:c=t):jL ops ρ j=some t:=by
 unfold jL;rw [hd];simp only [hv,hc]
theorem jK {y:Nat→Option Bool} (hg:o.guard=none):Region.wanted o y=true:=by simp [Region.wanted,hg]
theorem jTB {y:Nat→Option Bool} {j:Nat} {t:Bool} (hg:o.guard=some (j,t)) (hy:y j=some t):Region.wanted o y=true:=by simp [Region.wanted,hg,hy]
theorem jX {y:Nat→Option Bool} {j:Nat} {t u:Bool} (hg:o.guard=some (j,t)) (hy:y j=some u) (hne:(u == t)=false):Region.wanted o y=false:=by
 have:¬ u=t:=by simpa using hne
 simp [Region.wanted,hg,hy,this]
theorem st (hw:Region.wanted o (jL ops ρ)=true) (hr:(execOp (evE ρ) o).run P w=.ok (.value v) w') (h:wpL P ops Q rest (put ρ o.dst v) w'):wpL P ops Q (o :: rest) ρ w:=by
 unfold wpL;rw [if_pos hw];unfold yld;rw [hr];exact h
theorem stp (hw:Region.wanted o (jL ops ρ)=true) (hr:(execOp (evE ρ) o).run P w=.ok (.value v) w) (h:wpL P ops Q rest (put ρ o.dst v) w):wpL P ops Q (o :: rest) ρ w:=st hw hr h
theorem vC (hw:Region.wanted o (jL ops ρ)=true) (hr:(execOp (evE ρ) o).run P w=.ok .skip w') (h:wpL P ops Q rest (put ρ o.dst undef) w'):wpL P ops Q (o :: rest) ρ w:=by
 unfold wpL;rw [if_pos hw];unfold yld;rw [hr];exact h
theorem jSH (hw:Region.wanted o (jL ops ρ)=false) (h:wpL P ops Q rest (put ρ o.dst undef) w):wpL P ops Q (o :: rest) ρ w:=by
 unfold wpL;rw [if_neg (by rw [hw];simp)];exact h
theorem vK {f:FuncId} {args:Array Value} (hw:Region.wanted o (jL ops ρ)=true) (hr:(execOp (evE ρ) o).run P w=.ok (.enter f args) w') (h:Calls P f args w' fun e w''=>∃v,e=.returned v∧wpL P ops Q rest (put ρ o.dst v) w''):wpL P ops Q (o :: rest) ρ w:=by
 unfold wpL;rw [if_pos hw];unfold yld;rw [hr];exact h
variable {C:World→Prop} {loud free:Nat→Bool} {k fuel:Nat} {listed:Array Bool}
theorem jTA (h0:Region.ready .any ops listed=[]) (h:Q ρ w):wpX P ops C loud free Q 0 listed ρ w:=⟨h0,h⟩
def jRJ (ops:Array Oper) (listed:Array Bool) (loud:Nat→Bool) (k:Nat):Bool:=(Region.ready .any ops listed).contains k && !loud k && Region.free .any ops listed k
theorem qgo (hg:jRJ ops listed loud k=true) (h:opE P ops C loud free k (wpX P ops C loud free Q fuel (listed.setIfInBounds k true)) ρ w):wpX P ops C loud free Q (fuel+1) listed ρ w:=by
 simp only [jRJ,Bool.and_eq_true,Bool.not_eq_true'] at hg;exact .inl ⟨k,by simpa using hg.1.1,hg.1.2,hg.2,h⟩
theorem lgo (hr:Region.ready .any ops listed=[k]) (h:opE P ops C loud free k (wpX P ops C loud free Q fuel (listed.setIfInBounds k true)) ρ w):wpX P ops C loud free Q (fuel+1) listed ρ w :=
 .inr ⟨(fun h0=>by rw [hr] at h0;cases h0),fun i hi=>by rw [hr] at hi;simp at hi;subst hi;exact h⟩
theorem jPT {k':Nat} (hr:Region.ready .any ops listed=[k,k']) (h:opE P ops C loud free k (wpX P ops C loud free Q fuel (listed.setIfInBounds k true)) ρ w) (h':opE P ops C loud free k' (wpX P ops C loud free Q fuel (listed.setIfInBounds k' true)) ρ w):wpX P ops C loud free Q (fuel+1) listed ρ w :=
 .inr ⟨(fun h0=>by rw [hr] at h0;cases h0),fun i hi=>by rw [hr] at hi;simp at hi;rcases hi with rfl | rfl;exact h;exact h'⟩
theorem lgo3 {k' k'':Nat} (hr:Region.ready .any ops listed=[k,k',k'']) (h:opE P ops C loud free k (wpX P ops C loud free Q fuel (listed.setIfInBounds k true)) ρ w) (h':opE P ops C loud free k' (wpX P ops C loud free Q fuel (listed.setIfInBounds k' true)) ρ w) (h'':opE P ops C loud free k'' (wpX P ops C loud free Q fuel (listed.setIfInBounds k'' true)) ρ w):wpX P ops C loud free Q (fuel+1) listed ρ w :=
 .inr ⟨(fun h0=>by rw [hr] at h0;cases h0),fun i hi=>by rw [hr] at hi;simp at hi;rcases hi with rfl | rfl | rfl;exact h;exact h';exact h''⟩
variable {K:Env→World→Prop}
theorem sx (ho:ops[k]?=some o) (hw:Region.wanted o (jL ops ρ)=true) (hl:loud k=false) (hr:∀w',C w'→(execOp (evE ρ) o).run P w'=.ok (.value v) w') (h:K (put ρ o.dst v) w):opE P ops C loud free k K ρ w:=by
 unfold opE;rw [ho];simp only;rw [if_pos hw,if_neg (by rw [hl];simp)];exact ⟨v,.inr fun w' hC=>by unfold qy;rw [hr w' hC];exact ⟨rfl,rfl⟩,h⟩
theorem sxe (ho:ops[k]?=some o) (hw:Region.wanted o (jL ops ρ)=true) (hl:loud k=false) (he:xY .any ops loud k=true) (hr:(execOp (evE ρ) o).run P w=.ok (.value v) w) (h:K (put ρ o.dst v) w):opE P ops C loud free k K ρ w:=by
 unfold opE;rw [ho];simp only;rw [if_pos hw,if_neg (by rw [hl];simp)];exact ⟨v,.inl ⟨he,by unfold qy;rw [hr];exact ⟨rfl,rfl⟩⟩,h⟩
theorem jAL (ho:ops[k]?=some o) (hw:Region.wanted o (jL ops ρ)=false) (h:K (put ρ o.dst undef) w):opE P ops C loud free k K ρ w:=by
 unfold opE;rw [ho];simp only;rw [if_neg (by rw [hw];simp)];exact h
theorem sl (ho:ops[k]?=some o) (hw:Region.wanted o (jL ops ρ)=true) (hl:loud k=true) (hr:(execOp (evE ρ) o).run P w=.ok (.value v) w') (hC:free k=true∨C w') (h:K (put ρ o.dst v) w'):opE P ops C loud free k K ρ w:=by
 unfold opE;rw [ho];simp only;rw [if_pos hw,if_pos hl];unfold yld;rw [hr];exact ⟨hC,h⟩
theorem jMX (ho:ops[k]?=some o) (hw:Region.wanted o (jL ops ρ)=true) (hl:loud k=true) (hr:(execOp (evE ρ) o).run P w=.ok .skip w') (hC:free k=true∨C w') (h:K (put ρ o.dst undef) w'):opE P ops C loud free k K ρ w:=by
 unfold opE;rw [ho];simp only;rw [if_pos hw,if_pos hl];unfold yld;rw [hr];exact ⟨hC,h⟩
theorem jHY {f:FuncId} {args:Array Value} (ho:ops[k]?=some o) (hw:Region.wanted o (jL ops ρ)=true) (hl:loud k=true) (hr:(execOp (evE ρ) o).run P w=.ok (.enter f args) w') (h:Calls P f args w' fun e w''=>∃v,e=.returned v∧(free k=true∨C w'')∧K (put ρ o.dst v) w''):opE P ops C loud free k K ρ w:=by
 unfold opE;rw [ho];simp only;rw [if_pos hw,if_pos hl];unfold yld;rw [hr];exact h
end
section
variable {P:Program} {ε:Operand→Value} {w w':World} {d:Option Tmp} {ty:TypeId} {pos:String} {aft:Array Edge} {g:Option (Nat×Bool)}
theorem yG {T:TypeId} {x:Operand} {a:Addr} {v:Value} (hx:ε x=.pointer (some a)) (hT:(isAgg T).run P w=.ok false w) (hc:w.cell? a=some v) :
  (execOp ε ⟨d,.load T x,ty,pos,aft,g⟩).run P w=.ok (.value v) w:=by
 simp [execOp,Instr.loadAt,Instr.sureAddr,hx,loadVar,hT,hc]
theorem uM (a:Addr) (vs:List Value):∀(n i:Nat) (acc:Array Value),i+n=vs.length→(∀j,i≤j→j<vs.length→w.cell? (a.add j)=vs[j]?)→(loadCellsFrom a i n acc).run P w=.ok (acc++(vs.drop i).toArray) w:=by
 intro n;induction n with
 | zero => intro i acc hi _; have : vs.drop i = [] := by simp; omega
           simp [loadCellsFrom,this]
 | succ n ih =>
  intro i acc hi h
  have hlt:i<vs.length:=by omega
  have hc:=h i (Nat.le_refl _) hlt
  rw [List.getElem?_eq_getElem hlt] at hc
  have:=ih (i+1) (acc.push vs[i]) (by omega) (fun j hj hj'=>h j (by omega) hj')
  simp only [loadCellsFrom,Sem.run_bind,run_load,hc,Result.andThen_ok,this]
  rw [List.drop_eq_getElem_cons hlt]
  congr 1
  apply Array.ext'
  simp
theorem jML {T:TypeId} {x:Operand} {a:Addr} {n:Nat} {vs:List Value} (hx:ε x=.pointer (some a)) (hT:(isAgg T).run P w=.ok true w) (hs:(sizeOf T).run P w=.ok n w) (hn:vs.length=n) (hc:Row w a vs) :
  (execOp ε ⟨d,.load T x,ty,pos,aft,g⟩).run P w=.ok (.value (.agg vs.toArray)) w:=by
 have:=uM (P:=P) (w:=w) a vs n 0 #[] (by omega) (fun j _ hj=>hc j hj)
 simp [execOp,Instr.loadAt,Instr.sureAddr,hx,loadVar,hT,hs,loadCells,this]
theorem jDP {a:Addr} {v:Value} (h1:kD v=true) (hc:jT w a):(store a v).run P w=.ok () (w.setCell a v):=by
 obtain ⟨⟨u,hu⟩,hf⟩:=hc;cases v <;> simp [kD] at h1 <;> simp [store,Sem.run,hu,hf]
theorem qV {T:TypeId} {x y:Operand} {a:Addr} {v:Value} (hx:ε x=.pointer (some a)) (hy:ε y=v) (h1:kD v=true) (hs:(sizeOf T).run P w=.ok 1 w) (hc:jT w a) :
  (execOp ε ⟨d,.store T x y,ty,pos,aft,g⟩).run P w=.ok .skip (w.setCell a v):=by
 have hcells:v.cells=#[v]:=by cases v <;> simp [kD] at h1 <;> rfl
 have h0:a.add 0=a:=by simp [Addr.add]
 simp [execOp,Instr.storeAt,Instr.sureAddr,hx,hy,storeVar,hs,hcells,storeCells,h0,jDP h1 hc]
theorem cell?_setCell_some {w:World} {p q:Addr} {x v:Value} (h:w.cell? q=some v):∃v',(w.setCell p x).cell? q=some v':=by
 unfold World.cell? at h ⊢;unfold World.setCell;simp only [Array.getElem?_modify];by_cases hb:p.block=q.block
 ·rw [if_pos hb];split at h
  ·rename_i c e f hc;rw [hc];by_cases hs:q.spot.isSome
   ·simp [hs] at h
   ·simp only [hs,Bool.false_eq_true,if_false] at h;simp only [Option.map_some,hs,Bool.false_eq_true,if_false];by_cases hp:p.spot.isSome
    ·simp only [hp,if_true];exact ⟨v,h⟩
    ·simp only [hp,Bool.false_eq_true,if_false,Array.getElem?_setIfInBounds];have hlt:=(Array.getElem?_eq_some_iff.1 h).1;split
     ·rename_i ho;exact ⟨x,by simp;omega⟩
     ·exact ⟨v,h⟩
  ·cases h
 ·rw [if_neg hb];exact ⟨v,h⟩
theorem jT.setCell {w:World} {a b:Addr} {u:Value} (h:jT w a):jT (w.setCell b u) a :=
 ⟨let ⟨_,hx⟩:=h.1;cell?_setCell_some hx,by rw [World.frozen?_setCell];exact h.2⟩
theorem oW (a:Addr):∀(vs:List Value) (i:Nat) (w:World),(∀v∈vs,kD v=true)→(∀j,j<vs.length→jT w (a.add (i+j)))→(storeCells a vs i).run P w=.ok () (storeRowFrom w a i vs):=by
 intro vs;induction vs with
 | nil=>intro i w _ _;rfl
 | cons v vs ih =>
  intro i w h1 hc
  have h0:jT w (a.add i):=by simpa using hc 0 (by simp)
  have hr:=jDP (P:=P) (h1 v (by simp)) h0
  have:=ih (i+1) (w.setCell (a.add i) v) (fun u hu=>h1 u (by simp [hu])) (fun j hj=>by
   have:=(hc (j+1) (by simpa using hj)).setCell (b:=a.add i) (u:=v);rwa [show i+(j+1)=i+1+j by omega] at this)
  simp [storeCells,hr,this,storeRowFrom]
theorem lC {T:TypeId} {x y:Operand} {a:Addr} {n:Nat} {vs:List Value} (hx:ε x=.pointer (some a)) (hy:ε y=.agg vs.toArray) (h1:vs.all kD=true) (hs:(sizeOf T).run P w=.ok n w) (hn:vs.length=n) (hc:∀j,j<vs.length→jT w (a.add j)) :
  (execOp ε ⟨d,.store T x y,ty,pos,aft,g⟩).run P w=.ok .skip (storeRow w a vs):=by
 have:=oW (P:=P) a vs 0 w (by simpa using h1) (by simpa using hc)
 simp [execOp,Instr.storeAt,Instr.sureAddr,hx,hy,storeVar,hs,Value.cells,hn,this,storeRow]
theorem jG {T:TypeId} {z:Value} {cs:Array Value} (hz:(zeroValue T).run P w=.ok z w) (hc:z.cells=cs) :
  (execOp ε ⟨d,.alloc T,ty,pos,aft,g⟩).run P w=.ok (.value (.pointer (some ⟨w.heap.size,0,none⟩))) (w.alloc (.cells cs T)):=by
 subst hc
 simp [execOp,Instr.alloc,hz,newVar,newRow]
theorem jSZ {T:TypeId} {x:Operand} {cs:Array Value} (hc:(ε x).cells=cs) :
  (execOp ε ⟨d,.box T x,ty,pos,aft,g⟩).run P w=.ok (.value (.pointer (some ⟨w.heap.size,0,none⟩))) (w.alloc (.cells cs T)):=by
 subst hc
 simp [execOp,Instr.box,newVar,newRow]
theorem jSW {c x y:Operand} {b:Bool} {v:Value} (hc:ε c=.bool b) (hb:b=true) (hx:ε x=v):(execOp ε ⟨d,.pick c x y,ty,pos,aft,g⟩).run P w=.ok (.value v) w:=by
 simp [execOp,hc,hb,hx,asBool]
theorem jSX {c x y:Operand} {b:Bool} {v:Value} (hc:ε c=.bool b) (hb:b=false) (hy:ε y=v):(execOp ε ⟨d,.pick c x y,ty,pos,aft,g⟩).run P w=.ok (.value v) w:=by
 simp [execOp,hc,hb,hy,asBool]
theorem jDJ {x:Operand} {p:Option Addr} {a:Addr} (hx:ε x=.pointer p) (hp:p=some a):(execOp ε ⟨d,.nilCheck x,ty,pos,aft,g⟩).run P w=.ok (.value (.pointer (some a))) w:=by
 simp [execOp,hx,hp]
structure At (s:Sl) (i:Int) (size:Nat) (a:Addr):Prop where
 lo:0≤i
 hi:i<s.len
 at_:∃b,s.a=some b∧a=b.add (i.toNat*size)
theorem jBN {T E:TypeId} {x ix:Operand} {s:Sl} {k:IntKind} {i:Int} {n:Nat} {a:Addr} (hx:ε x=s.v) (hi:ε ix=.int k i) (hT:(underlying T).run P w=.ok (.slice E) w) (hs:(sizeOf E).run P w=.ok n w) (ha:At s i n a) :
  (execOp ε ⟨d,.indexAddr T x ix,ty,pos,aft,g⟩).run P w=.ok (.value (.pointer (some a))) w:=by
 obtain ⟨h0,h1,b,hb,rfl⟩:=ha
 simp [execOp,Instr.indexAt,hx,hi,Sl.v,asIntOf,hT,hb,h0,h1,hs]
theorem toList_inj {x y:ByteArray} (h:x.toList=y.toList):x=y:=by
 have e:∀z:ByteArray,z.toList=z.data.toList:=fun z=>ByteArray.toList_eq z;rw [e,e] at h;cases x;cases y;simpa using h
theorem jHV (x y:ByteArray):(x.toList == y.toList)=decide (x=y):=by
 by_cases h:x=y
 ·simp [h]
 ·have:¬ x.toList=y.toList:=fun e=>h (toList_inj e);simp [h,this]
theorem xM {T T':TypeId} {a b:Operand} {x y:ByteArray} (hx:ε a=.string x) (hy:ε b=.string y):(execOp ε ⟨d,.binOp .eql T a b T',ty,pos,aft,g⟩).run P w=.ok (.value (.bool (decide (x=y)))) w:=by
 simp [execOp,hx,hy,eqGuard,jHV,go_sem]
theorem yX {T T':TypeId} {a b:Operand} {x y:ByteArray} (hx:ε a=.string x) (hy:ε b=.string y):(execOp ε ⟨d,.binOp .neq T a b T',ty,pos,aft,g⟩).run P w=.ok (.value (.bool (!decide (x=y)))) w:=by
 simp [execOp,hx,hy,eqGuard,jHV,go_sem]
theorem qK {T T' E:TypeId} {a b:Operand} {x:Option Addr} (hx:ε a=.pointer x) (hy:ε b=.pointer none) (hT:P.underlying T=some (.pointer E)):(execOp ε ⟨d,.binOp .eql T a b T',ty,pos,aft,g⟩).run P w=.ok (.value (.bool x.isNone)) w:=by
 have hp:P.pointee T=E:=by simp [Program.pointee,hT]
 have:=run_eql_pointer_nil (P:=P) w T x (by rw [hp];exact hT);simp [execOp,hx,hy,eqGuard,this]
theorem jPU {T T' E:TypeId} {a b:Operand} {x:Option Addr} (hx:ε a=.pointer x) (hy:ε b=.pointer none) (hT:P.underlying T=some (.pointer E)):(execOp ε ⟨d,.binOp .neq T a b T',ty,pos,aft,g⟩).run P w=.ok (.value (.bool (!x.isNone))) w:=by
 have hp:P.pointee T=E:=by simp [Program.pointee,hT]
 have:=run_neq_pointer_nil (P:=P) w T x (by rw [hp];exact hT);simp [execOp,hx,hy,eqGuard,this]
theorem tT {op:BinOp} {T T':TypeId} {a b:Operand} {xs ys:Array Value} {r:Bool} (hx:ε a=.agg xs) (hy:ε b=.agg ys) (hm:P.eqGuardType P.depth T=false) (hr:(Go.binOp op T (.agg xs) (.agg ys)).run P w=.ok (.bool r) w) :
  (execOp ε ⟨d,.binOp op T a b T',ty,pos,aft,g⟩).run P w=.ok (.value (.bool r)) w:=by
 have:=run_eqGuard_agg (P:=P) w op T a b xs ys hm
 simp [execOp,hx,hy,this,hr]
theorem uJ {op:BinOp} {T T':TypeId} {a b:Operand} {x y v:Value} (hx:ε a=x) (hy:ε b=y) (hg:(eqGuard op T a b x y).run P w=.ok () w) (hr:(Go.binOp op T x y).run P w=.ok v w) :
  (execOp ε ⟨d,.binOp op T a b T',ty,pos,aft,g⟩).run P w=.ok (.value v) w:=by
 simp [execOp,hx,hy,hg,hr]
theorem jMM {f:FuncId} {x:Operand} {c:List Operand} {ts:Array TypeId} {caps args args':Array Value} (hx:ε x=.func (.func f) #[] caps) (hf:∀args w,(callFunc f args).run P w=.ok (.enter f args) w) (ha:(c.map ε).toArray=args) (hc:args++caps=args') :
  (execOp ε ⟨d,.call ⟨.value x,c.toArray,ts⟩,ty,pos,aft,g⟩).run P w=.ok (.enter f args') w:=by
 subst hc;subst ha
 simp [execOp,resolve,hx,Deferred.ofValue,invoke,hf]
theorem x_call {f:FuncId} {c:List Operand} {ts:Array TypeId} {args:Array Value} (hf:∀args w,(callFunc f args).run P w=.ok (.enter f args) w) (ha:(c.map ε).toArray=args) :
  (execOp ε ⟨d,.call ⟨.value (.func f),c.toArray,ts⟩,ty,pos,aft,g⟩).run P w=.ok (.enter f args) w∨ε (.func f)≠.func (.func f) #[] #[]:=by
 by_cases h:ε (.func f)=.func (.func f) #[] #[]
 ·exact .inl (jMM (caps:=#[]) h hf ha (by simp))
 ·exact .inr h
theorem jHQ {ρ:Env} {f:FuncId} {c:List Operand} {ts:Array TypeId} {args:Array Value} (hf:∀args w,(callFunc f args).run P w=.ok (.enter f args) w) (ha:(c.map (evE ρ)).toArray=args) :
  (execOp (evE ρ) ⟨d,.call ⟨.value (.func f),c.toArray,ts⟩,ty,pos,aft,g⟩).run P w=.ok (.enter f args) w :=
 (x_call hf ha).resolve_right (fun h=>h rfl)
theorem kB {b:Builtin} {c:List Operand} {ts:Array TypeId} {args:Array Value} {s:Sem Value} {v:Value} (ha:(c.map ε).toArray=args) (hb:∀consts,builtin b ts ty consts args=(do pure (.value (← s)))) (hr:s.run P w=.ok v w') :
  (execOp ε ⟨d,.call ⟨.builtin b,c.toArray,ts⟩,ty,pos,aft,g⟩).run P w=.ok (.value v) w':=by
 subst ha
 simp only [execOp,resolve,pure_bind,invoke,List.map_toArray,hb]
 simp [hr]
theorem vW {T:TypeId} {x i:Operand} {ok:Bool} {m k v:Value} (hx:ε x=m) (hi:ε i=k) (hr:(Instr.lookup T m k ok).run P w=.ok v w):(execOp ε ⟨d,.lookup T x i ok,ty,pos,aft,g⟩).run P w=.ok (.value v) w:=by
 simp [execOp,hx,hi,hr]
theorem uW {T:TypeId} {x i y:Operand} {m k v:Value} (hx:ε x=m) (hi:ε i=k) (hy:ε y=v) (hr:(Instr.mapUpdate T m k v).run P w=.ok () w'):(execOp ε ⟨d,.mapUpdate T x i y,ty,pos,aft,g⟩).run P w=.ok .skip w':=by
 simp [execOp,hx,hi,hy,hr]
theorem qY {T:TypeId} {x i y:Operand} {m k v:Value} (hx:ε x=m) (hi:ε i=k) (hy:ε y=v) (hr:(Instr.mapUpdate T m k v).run P w=.ok () w'):(execOp ε ⟨d,.insert T x i y,ty,pos,aft,g⟩).run P w=.ok .skip w':=by
 simp [execOp,hx,hi,hy,hr]
theorem yF {T:TypeId} {x:Operand} {lo hi mx:Option Operand} {s v:Value} {l h m:Option Value} (hx:ε x=s) (hl:lo.map ε=l) (hh:hi.map ε=h) (hm:mx.map ε=m) (hr:(Instr.sliceAt T s l h m).run P w=.ok v w):(execOp ε ⟨d,.slice T x lo hi mx,ty,pos,aft,g⟩).run P w=.ok (.value v) w:=by
 simp only [execOp,hx,hl,hh,hm];simp [hr]
theorem qS {S T:TypeId} {x:Operand} {s v:Value} (hx:ε x=s) (hr:(convert S T s).run P w=.ok v w'):(execOp ε ⟨d,.convert S T x,ty,pos,aft,g⟩).run P w=.ok (.value v) w':=by
 simp [execOp,hx,hr]
theorem vX {T:TypeId} {x i:Operand} {s k v:Value} (hx:ε x=s) (hi:ε i=k) (hr:(Instr.index T s k).run P w=.ok v w):(execOp ε ⟨d,.index T x i,ty,pos,aft,g⟩).run P w=.ok (.value v) w:=by
 simp [execOp,hx,hi,hr]
theorem kZ {T:TypeId} {n:Nat} {ps:List (Nat×Operand)} {vs:Array (Nat×Value)} {v:Value} (hp:(ps.map fun p=>(p.1,ε p.2)).toArray=vs) (hr:(Instr.buildSlice T n vs).run P w=.ok v w'):(execOp ε ⟨d,.buildSlice T n ps.toArray,ty,pos,aft,g⟩).run P w=.ok (.value v) w':=by
 subst hp;simp only [execOp,List.map_toArray];simp [hr]
end
end Go.SE
namespace Go.SE
def Has (ρ:Env) (l:List (Nat×Value)):Prop:=l.map (fun p=>ρ p.1)=l.map (·.2)
theorem Has.mk {ρ:Env} {l:List (Nat×Value)} (h:l.map (fun p=>ρ p.1)=l.map (·.2)):Has ρ l:=h
def jDO (ρ:Env):List (Nat×Value)→Env
 | []=>ρ
 | (d,v) :: l=>upd (jDO ρ l) d v
theorem lH {ρ:Env}:∀{l:List (Nat×Value)},Has ρ l→jDO ρ l=ρ
 | [],_=>rfl
 | (d,v) :: l,h=>by
  have h':ρ d=v∧l.map (fun p=>ρ p.1)=l.map (·.2):=by simpa [Has] using h
  have:=lH (ρ:=ρ) (l:=l) h'.2;simp only [jDO,this];funext i;simp only [upd];split
  ·rename_i e;rw [e,h'.1]
  ·rfl
section
variable {P:Program} {n:Nat} {Q:Exit→Env→World→Prop} {ρ:Env} {w w':World}
theorem jQ {cx:Cx} {c:Code} {l:List (Nat×Value)} (h:Has ρ l) (hg:wpE (x:=cx) P n c Q (jDO ρ l) w):wpE (x:=cx) P n c Q ρ w:=by rwa [lH h] at hg
theorem lD {cx:Cx} {c:Operand} {x y:Code} {t:Bool} (hc:evE ρ c=.bool t) (ht:t=true) (h:wpE (x:=cx) P n x Q ρ w):wpE (x:=cx) P n (.cond c x y) Q ρ w:=vA (by rw [hc,ht]) h
structure New (w:World) (o:Obj) (p:Addr) (w':World):Prop where
 at_:p=⟨w.heap.size,0,none⟩
 to:w'=w.alloc o
theorem uL {ops:Array Oper} {Q:Env→World→Prop} {rest:List Oper} {o:Oper} {O:Obj} (v:Addr→Value) (hw:Region.wanted o (jL ops ρ)=true) (hr:(execOp (evE ρ) o).run P w=.ok (.value (v ⟨w.heap.size,0,none⟩)) (w.alloc O)) (h:∀p w',New w O p w'→wpL P ops Q rest (put ρ o.dst (v p)) w'):wpL P ops Q (o :: rest) ρ w :=
 st hw hr (h _ _ ⟨rfl,rfl⟩)
theorem qG {ops:Array Oper} {Q:Env→World→Prop} {rest:List Oper} {o:Oper} {W:World} (hw:Region.wanted o (jL ops ρ)=true) (hr:(execOp (evE ρ) o).run P w=.ok .skip W) (h:∀w',w'=W→wpL P ops Q rest (put ρ o.dst undef) w'):wpL P ops Q (o :: rest) ρ w :=
 vC hw hr (h _ rfl)
section
variable {ops:Array Oper} {C:World→Prop} {loud free:Nat→Bool} {k:Nat} {o:Oper} {K:Env→World→Prop}
theorem kT {O:Obj} (v:Addr→Value) (ho:ops[k]?=some o) (hw:Region.wanted o (jL ops ρ)=true) (hl:loud k=true) (hr:(execOp (evE ρ) o).run P w=.ok (.value (v ⟨w.heap.size,0,none⟩)) (w.alloc O)) (h:∀p w',New w O p w'→(free k=true∨C w')∧K (put ρ o.dst (v p)) w'):opE P ops C loud free k K ρ w :=
 let hh:=h _ _ ⟨rfl,rfl⟩;sl ho hw hl hr hh.1 hh.2
theorem yZ {W:World} (ho:ops[k]?=some o) (hw:Region.wanted o (jL ops ρ)=true) (hl:loud k=true) (hr:(execOp (evE ρ) o).run P w=.ok .skip W) (h:∀w',w'=W→(free k=true∨C w')∧K (put ρ o.dst undef) w'):opE P ops C loud free k K ρ w :=
 let hh:=h _ rfl;jMX ho hw hl hr hh.1 hh.2
theorem sxQ {W:World} {v:Value} (ho:ops[k]?=some o) (hw:Region.wanted o (jL ops ρ)=true) (hl:loud k=false) (hr:(execOp (evE ρ) o).run P W=.ok (.value v) W) (h:K (put ρ o.dst v) w):opE P ops (fun x=>x=W) loud free k K ρ w :=
 sx ho hw hl (fun w' e=>by rw [show w'=W from e];exact hr) h
end
theorem zW {cx:Cx} {id:Nat} {l:List Oper} (hm:P.follows .mixedOrders=true) (hd:yQ n l=true) (hB:Region.noSelect l.toArray=true) (hg:jIS .any l.toArray (vH []) (vH [])=true)
  (h:∀w',w'=w.drew→wpX P l.toArray (fun x=>x=w') (vH []) (vH []) (fun ρ w=>Q .normal ρ w) l.length (Array.replicate l.length false) ρ w'):wpE (x:=cx) P n (.region id l.toArray true) Q ρ w :=
 jFJ (fun x=>x=w.drew) [] [] hm hd hB hg rfl (by simpa using h _ rfl)
theorem jDL {cx:Cx} {id:Nat} {l:List Oper} (C:World→Prop) (loud free:List Nat) (hm:P.follows .mixedOrders=true) (hd:yQ n l=true) (hB:Region.noSelect l.toArray=true) (hg:jIS .any l.toArray (vH loud) (vH free)=true)
  (hC:C w.drew)
  (h:∀w',w'=w.drew→wpX P l.toArray C (vH loud) (vH free) (fun ρ w=>Q .normal ρ w) l.length (Array.replicate l.length false) ρ w'):wpE (x:=cx) P n (.region id l.toArray true) Q ρ w :=
 jFJ C loud free hm hd hB hg hC (by simpa using h _ rfl)
end
end Go.SE
namespace Go.SE
section
variable {P:Program} {n:Nat} {ρ:Env} {w:World}
def RV (P:Program) (ρ:Env) (w:World):ResultVar→Value→Prop
 | .tmp t,v=>ρ t=v
 | .cell a t,v=>∃A,ρ a=.pointer (some A)∧(loadVar t A).run P w=.ok v w
def RVs (P:Program) (ρ:Env) (w:World):List ResultVar→List Value→Prop
 | [],[]=>True
 | r :: rs,v :: vs=>RV P ρ w r v∧RVs P ρ w rs vs
 | _,_=>False
theorem jFR {T:TypeId} {a:Addr} {n:Nat} {vs:List Value} (hT:(isAgg T).run P w=.ok true w) (hs:(sizeOf T).run P w=.ok n w) (hn:vs.length=n) (hc:Row w a vs):(loadVar T a).run P w=.ok (.agg vs.toArray) w:=by
 have:=uM (P:=P) (w:=w) a vs n 0 #[] (by omega) (fun j _ hj=>hc j hj);simp [loadVar,hT,hs,loadCells,this]
theorem jFS {T:TypeId} {a:Addr} {v:Value} (hT:(isAgg T).run P w=.ok false w) (hc:w.cell? a=some v):(loadVar T a).run P w=.ok v w:=by
 simp [loadVar,hT,hc]
theorem RV.cellA {a:Nat} {A:Addr} {T:TypeId} {vs:List Value} {k:Nat} (ha:ρ a=.pointer (some A)) (hT:(isAgg T).run P w=.ok true w) (hs:(sizeOf T).run P w=.ok k w) (hn:vs.length=k) (hc:Row w A vs):RV P ρ w (.cell a T) (.agg vs.toArray):=⟨A,ha,jFR hT hs hn hc⟩
theorem RV.cell1 {a:Nat} {A:Addr} {T:TypeId} {v:Value} (ha:ρ a=.pointer (some A)) (hT:(isAgg T).run P w=.ok false w) (hc:w.cell? A=some v):RV P ρ w (.cell a T) v:=⟨A,ha,jFS hT hc⟩
theorem jIA {fn:Func} {rs:List ResultVar} {vs:List Value} (hr:fn.results=rs.toArray) (h:RVs P ρ w rs vs) {ds:List Deferred} {a:Act} (ha:Rep ds n ρ a) {v:Value} (hv:(if h:vs.toArray.size=1 then vs.toArray[0] else .tuple vs.toArray)=v):(results fn a.tmps).run P w=.ok v w:=by
 have key:∀(f:ResultVar→Sem Value),(∀t,f (.tmp t)=pure (a.tmps.getD t undef))→(∀x t,f (.cell x t)=(do loadVar t (← asAddr (a.tmps.getD x undef))))→∀(rs:List ResultVar) (vs:List Value),RVs P ρ w rs vs→(rs.mapM f).run P w=.ok vs w:=by
  intro f hf hf' rs;induction rs with
  | nil=>intro vs h;cases vs <;> simp only [RVs] at h;rfl
  | cons r rs ih =>
   intro vs h
   cases vs with
   | nil=>simp only [RVs] at h
   | cons v vs =>
    obtain ⟨h1,h2⟩:=h
    have:(f r).run P w=.ok v w:=by
     cases r with
     | tmp t=>rw [hf,ha.get];simp only [RV] at h1;rw [h1];rfl
     | cell x t =>
      obtain ⟨A,hA,hl⟩:=h1
      rw [hf',ha.get,hA]
      simp only [Sem.run_bind,asAddr,Sem.run_pure,Result.andThen]
      exact hl
    rw [List.mapM_cons]
    simp only [Sem.run_bind,Sem.run_pure,Result.andThen,this,ih vs h2]
 unfold results;rw [hr,List.mapM_toArray,Sem.run_bind,Sem.run_map,key _ (fun _=>rfl) (fun _ _=>rfl) rs vs h];simp only [Result.andThen,Sem.run_pure];rw [← hv]
theorem jEM {fn:Func} {rs:List ResultVar} {vs:List Value} {v:Value} {R:Ending→World→Prop} {e:Exit} (he:e=.ret∨e=.normal) (hr:fn.results=rs.toArray) (h:RVs P ρ w rs vs) (hv:(if h:vs.toArray.size=1 then vs.toArray[0] else .tuple vs.toArray)=v) (hR:R (.returned v) w):jDA P fn n R e ρ w:=by
 rcases he with rfl | rfl <;> exact ⟨v,fun _ a ha=>jIA hr h ha hv,hR⟩
end
section
variable {P:Program} {ε:Operand→Value} {w w':World} {d:Option Tmp} {ty:TypeId} {pos:String} {aft:Array Edge} {g:Option (Nat×Bool)}
theorem jSY {f:FuncId} {x:Operand} {c:List Operand} {ts:Array TypeId} {fs caps args args':Array Value} (hx:ε x=.func (.func f) fs caps) (hf:∀args w,(callFunc f args).run P w=.ok (.enter f args) w) (ha:(c.map ε).toArray=args) (hc:(fs++args)++caps=args') :
  (execOp ε ⟨d,.call ⟨.value x,c.toArray,ts⟩,ty,pos,aft,g⟩).run P w=.ok (.enter f args') w:=by
 subst hc;subst ha
 simp [execOp,resolve,hx,Deferred.ofValue,invoke,hf]
end
end Go.SE
namespace Go.SE
theorem rvT {P:Program} {ρ:Env} {w:World} {t:Nat} {v:Value} (h:ρ t=v):RV P ρ w (.tmp t) v:=h
end Go.SE
namespace Go.SE
theorem jI {o:Oper} {l:List Oper}:(o :: l)[0]?=some o:=rfl
theorem jD {a o:Oper} {l:List Oper} {k:Nat} (h:l[k]?=some o):(a :: l)[k+1]?=some o:=by simpa using h
theorem jJ {o:Oper} {l:List Oper} {k:Nat} (h:l[k]?=some o):l.toArray[k]?=some o:=by simpa using h
end Go.SE
namespace Go.SE
theorem jBO {P:Program} {ops:Array Oper} {Q:Env→World→Prop} {ρ:Env} {w:World}:∀(k:Nat) {l:List Oper} {ρ:Env} {w:World},wpL P ops (fun ρ w=>wpL P ops Q (l.drop k) ρ w) (l.take k) ρ w→wpL P ops Q l ρ w
 | 0,l,ρ,w,h=>by simpa [wpL] using h
 | k+1,[],ρ,w,h=>by simpa [wpL] using h
 | k+1,o :: l,ρ,w,h=>by
  simp only [List.take_succ_cons,List.drop_succ_cons] at h;unfold wpL at h ⊢;split
  ·rename_i hw;rw [if_pos hw] at h;exact uV h fun v w' hh=>jBO (ρ:=ρ) (w:=w) k hh
  ·rename_i hw;rw [if_neg hw] at h;exact jBO (ρ:=ρ) (w:=w) k h
theorem jAZ {P:Program} {ops:Array Oper} {Q Q':Env→World→Prop} (hq:∀ρ w,Q ρ w→Q' ρ w):∀{l:List Oper} {ρ:Env} {w:World},wpL P ops Q l ρ w→wpL P ops Q' l ρ w
 | [],ρ,w,h=>by unfold wpL at h ⊢;exact hq _ _ h
 | o :: l,ρ,w,h=>by
  unfold wpL at h ⊢;split
  ·rename_i hw;rw [if_pos hw] at h;exact uV h fun v w' hh=>jAZ hq hh
  ·rename_i hw;rw [if_neg hw] at h;exact jAZ hq h
theorem jU {P:Program} {ops:Array Oper} {Q:Env→World→Prop} {ρ:Env} {w:World} {l:List Oper} (k:Nat) (J:Env→World→Prop) (hy:∀ρ w,J ρ w→wpL P ops Q (l.drop k) ρ w) (h:wpL P ops J (l.take k) ρ w):wpL P ops Q l ρ w :=
 jBO (ρ:=ρ) (w:=w) k (jAZ hy h)
theorem zB {P:Program} {ops:Array Oper} {Q:Env→World→Prop} {ρ:Env} {w:World} {l:List Oper} {hs:List (Nat×Value)} (h:Has ρ hs) (hg:wpL P ops Q l (jDO ρ hs) w):wpL P ops Q l ρ w:=by rwa [lH h] at hg
end Go.SE
namespace Go.SE
section
variable {P:Program} {ε:Operand→Value} {w w':World} {d:Option Tmp} {ty:TypeId} {pos:String} {aft:Array Edge} {g:Option (Nat×Bool)}
theorem jAY {f:FuncId} {x:Operand} {c:List Operand} {ts:Array TypeId} {v:Value} {fs caps args args':Array Value} (hx:ε x=v) (hv:v=.func (.func f) fs caps) (hf:∀args w,(callFunc f args).run P w=.ok (.enter f args) w) (ha:(c.map ε).toArray=args) (hc:(fs++args)++caps=args') :
  (execOp ε ⟨d,.call ⟨.value x,c.toArray,ts⟩,ty,pos,aft,g⟩).run P w=.ok (.enter f args') w :=
 jSY (hx.trans hv) hf ha hc
end
end Go.SE
namespace Go.SE
section
variable {P:Program} {ε:Operand→Value} {w w':World} {d:Option Tmp} {ty:TypeId} {pos:String} {aft:Array Edge} {g:Option (Nat×Bool)}
theorem RV.cellAr {ρ:Env} {a:Nat} {A:Addr} {T:TypeId} {vs:Array Value} {k:Nat} (ha:ρ a=.pointer (some A)) (hT:(isAgg T).run P w=.ok true w) (hs:(sizeOf T).run P w=.ok k w) (hc:vs.size=k∧Row w A vs.toList):RV P ρ w (.cell a T) (.agg vs):=by
 have:=RV.cellA (P:=P) ha hT hs (vs:=vs.toList) (by simpa using hc.1) hc.2;simpa using this
end
end Go.SE
end
section
namespace Go.SE
theorem uT (w:World) (o:Obj) (i:Nat) (h:i<w.heap.size):(w.alloc o).heap[i]?=w.heap[i]?:=by
 show (w.heap.push o)[i]?=w.heap[i]?;rw [Array.getElem?_push,if_neg (Nat.ne_of_lt h)]
structure Ext (F:Nat→Prop) (w w':World):Prop where
 os:w'.os=w.os
 tape:w'.tape=w.tape
 output:w'.output=w.output
 drawn:w.drawn≤w.drawn
 size:w.heap.size≤w'.heap.size
 keep:∀b,b<w.heap.size→¬ F b→w'.heap[b]?=w.heap[b]?
def None (_:Nat):Prop:=False
abbrev Pure (w w':World):Prop:=Ext None w w'
theorem Ext.refl {F:Nat→Prop} (w:World):Ext F w w:=⟨rfl,rfl,rfl,(by first | exact Nat.le_refl _ | exact Nat.le_succ _),Nat.le_refl _,fun _ _ _=>rfl⟩
theorem Ext.trans' {F G:Nat→Prop} {a b c:World} (h:Ext F a b) (k:Ext G b c) (hG:∀i,i<a.heap.size→G i→F i):Ext F a c :=
 ⟨k.os.trans h.os,k.tape.trans h.tape,k.output.trans h.output,(by first | exact Nat.le_trans h.drawn k.drawn | exact Nat.le_refl _),Nat.le_trans h.size k.size,fun i hi hf=>(k.keep i (Nat.lt_of_lt_of_le hi h.size) (fun hg=>hf (hG i hi hg))).trans (h.keep i hi hf)⟩
theorem Ext.trans {F:Nat→Prop} {a b c:World} (h:Ext F a b) (k:Ext F b c):Ext F a c:=h.trans' k (fun _ _ h=>h)
theorem Ext.mono {F G:Nat→Prop} {a b:World} (h:Ext F a b) (hG:∀i,i<a.heap.size→F i→G i):Ext G a b :=
 ⟨h.os,h.tape,h.output,h.drawn,h.size,fun i hi hf=>h.keep i hi (fun hF=>hf (hG i hi hF))⟩
theorem Ext.pure {F:Nat→Prop} {a b:World} (h:Pure a b):Ext F a b:=h.mono fun _ _ h=>h.elim
theorem Ext.thenPure {F:Nat→Prop} {a b c:World} (h:Ext F a b) (k:Pure b c):Ext F a c:=h.trans k.pure
theorem Ext.below {w w':World} (h:Pure w w'):RowKit.Below w.heap.size w w':=⟨h.os,h.tape,h.output,h.size,fun k hk=>h.keep k hk id⟩
theorem Ext.drew (w:World) {F:Nat→Prop}:Ext F w w.drew:=⟨rfl,rfl,rfl,(by first | exact Nat.le_refl _ | exact Nat.le_succ _),Nat.le_refl _,fun _ _ _=>rfl⟩
theorem yO {w:World} {b:Nat} {o:Obj} (h:w.heap[b]?=some o):b<w.heap.size:=(Array.getElem?_eq_some_iff.1 h).1
theorem Ext.heap {F:Nat→Prop} {w w':World} (h:Ext F w w') {b:Nat} {o:Obj} (hb:w.heap[b]?=some o) (hf:¬ F b):w'.heap[b]?=some o:=by
 rw [h.keep b (yO hb) hf];exact hb
theorem Ext.cell {F:Nat→Prop} {w w':World} (h:Ext F w w') {a:Addr} {v:Value} (ha:w.cell? a=some v) (hf:¬ F a.block):w'.cell? a=some v:=by
 have hlt:a.block<w.heap.size:=World.block_lt_of_cell? w a ha;unfold World.cell? at *;rw [h.keep _ hlt hf];exact ha
theorem Ext.row {F:Nat→Prop} {w w':World} (h:Ext F w w') {a:Addr} {vs:List Value} (ha:Row w a vs) (hf:¬ F a.block):Row w' a vs:=by
 intro i hi;have:=ha i hi;rw [List.getElem?_eq_getElem hi] at this ⊢;refine h.cell this ?_;have:(a.add i).block=a.block:=by unfold Addr.add;split <;> rfl
 rw [this];exact hf
theorem Ext.new {F:Nat→Prop} {w w':World} {o:Obj} {p:Addr} (h:New w o p w'):Ext F w w':=by
 obtain ⟨_,rfl⟩:=h;exact ⟨rfl,rfl,rfl,(by first | exact Nat.le_refl _ | exact Nat.le_succ _),by simp,fun b hb _=>uT w o b hb⟩
theorem Ext.setCell {w:World} (a:Addr) (v:Value):Ext (·=a.block) w (w.setCell a v) :=
 ⟨rfl,rfl,rfl,(by first | exact Nat.le_refl _ | exact Nat.le_succ _),by simp [World.setCell],fun b _ hf=>heap_setCell_other w a b v hf⟩
theorem zA (a:Addr) (i:Nat):(a.add i).block=a.block:=by unfold Addr.add;split <;> rfl
theorem Ext.storeRowFrom (a:Addr):∀(vs:List Value) (i:Nat) (w:World),Ext (·=a.block) w (storeRowFrom w a i vs)
 | [],_,w=>Ext.refl w
 | v :: vs,i,w=>by
  have h1:Ext (·=a.block) w (w.setCell (a.add i) v):=(Ext.setCell (a.add i) v).mono (fun _ _ h=>by rw [zA] at h;exact h);exact h1.trans (Ext.storeRowFrom a vs (i+1) _)
theorem Ext.storeRow (w:World) (a:Addr) (vs:List Value):Ext (·=a.block) w (SE.storeRow w a vs):=Ext.storeRowFrom a vs 0 w
structure Box (w:World) (p:Addr) (c:List Value) (T:TypeId):Prop where
 addr:p=⟨p.block,0,none⟩
 blk:w.heap[p.block]?=some (.cells c.toArray T (0,0))
theorem Box.of_new {w w':World} {c:List Value} {T:TypeId} {p:Addr} (h:New w (.cells c.toArray T) p w'):Box w' p c T:=by
 obtain ⟨rfl,rfl⟩:=h;exact ⟨rfl,heap_alloc_new w _⟩
theorem New.at_size {w w':World} {o:Obj} {p:Addr} (h:New w o p w'):p.block=w.heap.size:=by rw [h.at_]
theorem New.block_new {w w':World} {o:Obj} {p:Addr} (h:New w o p w'):w'.heap[p.block]?=some o:=by
 obtain ⟨rfl,rfl⟩:=h;exact heap_alloc_new w _
theorem New.ne {w w':World} {o o':Obj} {p:Addr} (h:New w o p w') {b:Nat} (hb:w.heap[b]?=some o'):b≠p.block:=by
 rw [h.at_size];exact Nat.ne_of_lt (yO hb)
theorem Box.lt {w:World} {p:Addr} {c:List Value} {T:TypeId} (h:Box w p c T):p.block<w.heap.size:=yO h.blk
theorem Box.ext {F:Nat→Prop} {w w':World} {p:Addr} {c:List Value} {T:TypeId} (h:Box w p c T) (hE:Ext F w w') (hf:¬ F p.block):Box w' p c T:=⟨h.addr,hE.heap h.blk hf⟩
theorem Box.pure {w w':World} {p:Addr} {c:List Value} {T:TypeId} (h:Box w p c T) (hE:Pure w w'):Box w' p c T:=h.ext hE id
theorem Box.add {w:World} {p:Addr} {c:List Value} {T:TypeId} (h:Box w p c T) (i:Nat):p.add i=⟨p.block,i,none⟩:=by
 rw [h.addr];unfold Addr.add;split <;> simp_all
theorem Box.cell {w:World} {p:Addr} {c:List Value} {T:TypeId} (h:Box w p c T) {i:Nat} {v:Value} (hv:c[i]?=some v):w.cell? (p.add i)=some v:=by
 rw [h.add,cell_of_row w _ _ _ _ _ h.blk];simpa using hv
theorem Box.cell0 {w:World} {p:Addr} {v:Value} {c:List Value} {T:TypeId} (h:Box w p (v :: c) T):w.cell? p=some v:=by
 have:=h.cell (i:=0) (v:=v) rfl;simpa [Addr.add] using this
theorem Box.row {w:World} {p:Addr} {c:List Value} {T:TypeId} (h:Box w p c T):Row w p c:=fun i hi=>by
 rw [List.getElem?_eq_getElem hi];exact h.cell (List.getElem?_eq_getElem hi)
theorem Box.canW {w:World} {p:Addr} {c:List Value} {T:TypeId} (h:Box w p c T) {i:Nat} (hi:i<c.length):jT w (p.add i) :=
 ⟨⟨c[i],h.cell (List.getElem?_eq_getElem hi)⟩,by rw [h.add];exact frozen_of_row w _ _ _ _ h.blk⟩
theorem Box.canW0 {w:World} {p:Addr} {c:List Value} {T:TypeId} (h:Box w p c T) (hi:0<c.length):jT w p:=by
 have:=h.canW hi;simpa [Addr.add] using this
theorem Box.canWs {w:World} {p:Addr} {c:List Value} {T:TypeId} (h:Box w p c T) {n:Nat} (hn:n≤c.length):∀j,j<n→jT w (p.add j):=fun _ hj=>h.canW (by omega)
theorem Box.set {w:World} {p:Addr} {c:List Value} {T:TypeId} (h:Box w p c T) (i:Nat) (v:Value):Box (w.setCell (p.add i) v) p (c.set i v) T:=by
 refine ⟨h.addr,?_⟩;rw [h.add];have:=heap_setCell_same w p.block i c.toArray T v h.blk;rw [this];simp
theorem Box.set0 {w:World} {p:Addr} {u v:Value} {c:List Value} {T:TypeId} (h:Box w p (u :: c) T):Box (w.setCell p v) p (v :: c) T:=by
 have:=h.set 0 v;simpa [Addr.add] using this
theorem Box.storeFrom {p:Addr} {T:TypeId}:∀(vs:List Value) (i:Nat) (w:World) (c:List Value),Box w p c T→i+vs.length=c.length→Box (storeRowFrom w p i vs) p (c.take i++vs) T
 | [],i,w,c,h,hl=>by
  have:c.take i=c:=List.take_of_length_le (by simp at hl;omega);simpa [storeRowFrom,this] using h
 | v :: vs,i,w,c,h,hl=>by
  simp only [List.length_cons] at hl;have:=Box.storeFrom vs (i+1) _ _ (h.set i v) (by simp;omega);simp only [storeRowFrom];have e:(c.set i v).take (i+1)++vs=c.take i++v :: vs:=by
   rw [List.take_succ_eq_append_getElem (by simp;omega),List.take_set_of_le (Nat.le_refl i)];simp
  rwa [e] at this
theorem Box.store {w:World} {p:Addr} {c vs:List Value} {T:TypeId} (h:Box w p c T) (hl:vs.length=c.length):Box (storeRow w p vs) p vs T:=by
 have:=Box.storeFrom vs 0 w c h (by omega);simpa [storeRow] using this
theorem Br.of {c:Bool} {A B:Prop} (h1:c=true→A) (h2:c=false→B):Br c A B:=⟨h1,h2⟩
theorem Br.t {c:Bool} {A B:Prop} (hc:c=true) (h:A):Br c A B:=⟨fun _=>h,fun e=>(by rw [hc] at e;cases e)⟩
theorem Br.f {c:Bool} {A B:Prop} (hc:c=false) (h:B):Br c A B:=⟨fun e=>(by rw [hc] at e;cases e),fun _=>h⟩
end Go.SE
namespace Go.SE
theorem bx (n:Nat) {w:World} {p:Addr} {c vs:List Value} {T:TypeId} (h:Box w p c T) (hn:c.length=n) (hl:vs.length=n) {A:World→Prop} (k:∀w',Box w' p vs T→Ext (·=p.block) w w'→A w'):(∀j,j<n→jT w (p.add j))∧∀w',w'=storeRow w p vs→A w' :=
 ⟨h.canWs (by omega),fun w' e=>by subst e;exact k _ (h.store (by omega)) (Ext.storeRow _ _ _)⟩
theorem Ext.own {w0 w w':World} {p:Addr} (h:Pure w0 w) (hp:w0.heap.size≤p.block) (k:Ext (·=p.block) w w'):Pure w0 w' :=
 h.trans' k (fun i hi e=>by subst e;exact absurd hi (by omega))
theorem New.own {w0 w w':World} {o:Obj} {p:Addr} (h:Pure w0 w) (hn:New w o p w'):w0.heap.size≤p.block:=by rw [hn.at_size];exact h.size
end Go.SE
namespace Go.SE
theorem Box.of_newA {w w':World} {c:Array Value} {T:TypeId} {p:Addr} (h:New w (.cells c T) p w'):Box w' p c.toList T:=by
 obtain ⟨rfl,rfl⟩:=h;exact ⟨rfl,by simpa using heap_alloc_new w (.cells c T)⟩
theorem Box.row_eq {w:World} {p:Addr} {c vs:List Value} {T:TypeId} (h:Box w p c T) (e:c=vs):Row w p vs:=e▸h.row
end Go.SE
end
section
namespace Go.SE
structure Rws (w:World) (e:TypeId) (sz:Nat) (s:Sl) (rs:List (List Value)):Prop where
 each:∀r∈rs,r.length=sz
 len:s.len=rs.length
 own:(s=Sl.nil∧rs=[])∨∃g cur,s.a=some ⟨g,0,none⟩∧w.heap[g]?=some (.cells cur e (0,0))∧rs.length≤s.cap∧s.cap≤maxLen∧cur.size=s.cap*sz∧cur.toList.take (rs.length*sz)=rs.flatten
def Sl.blk (s:Sl) (b:Nat):Prop:=∃a,s.a=some a∧a.block=b
theorem Rws.nil (w:World) (e:TypeId) (sz:Nat):Rws w e sz Sl.nil []:=⟨by simp,rfl,.inl ⟨rfl,rfl⟩⟩
theorem zK {rs:List (List Value)} {sz:Nat} (h:∀r∈rs,r.length=sz):rs.flatten.length=rs.length*sz:=by
 induction rs with
 | nil=>simp
 | cons r rs ih =>
  have h1:=h r (by simp)
  have h2:=ih (fun r hr=>h r (by simp [hr]))
  simp only [List.flatten_cons,List.length_append,h1,h2,List.length_cons,Nat.add_mul,Nat.one_mul]
  omega
theorem oG {rs:List (List Value)} {sz:Nat} (h:∀r∈rs,r.length=sz) {i:Nat} (hi:i<rs.length) {j:Nat} (hj:j<sz):rs.flatten[i*sz+j]?=rs[i][j]?:=by
 induction rs generalizing i with
 | nil=>simp at hi
 | cons r rs ih =>
  have h1:=h r (by simp)
  cases i with
  | zero=>simp [List.getElem?_append_left (show j<r.length by omega)]
  | succ i =>
   simp only [List.flatten_cons,List.getElem_cons_succ]
   rw [List.getElem?_append_right (by rw [h1,Nat.succ_mul];omega)]
   have:=ih (fun r hr=>h r (by simp [hr])) (i:=i) (by simpa using hi)
   rw [← this]
   congr 1
   rw [h1,Nat.succ_mul];omega
theorem Rws.ext {F:Nat→Prop} {w w':World} {e:TypeId} {sz:Nat} {s:Sl} {rs:List (List Value)} (h:Rws w e sz s rs) (hE:Ext F w w') (hf:∀b,s.blk b→¬ F b):Rws w' e sz s rs:=by
 refine ⟨h.each,h.len,?_⟩;rcases h.own with h' | ⟨g,cur,ha,hg,r⟩
 ·exact .inl h'
 ·exact .inr ⟨g,cur,ha,hE.heap hg (hf g ⟨_,ha,rfl⟩),r⟩
theorem Rws.pure {w w':World} {e:TypeId} {sz:Nat} {s:Sl} {rs:List (List Value)} (h:Rws w e sz s rs) (hE:Pure w w'):Rws w' e sz s rs:=h.ext hE (fun _ _ h=>h)
theorem Rws.lt {w:World} {e:TypeId} {sz:Nat} {s:Sl} {rs:List (List Value)} (h:Rws w e sz s rs) {b:Nat} (hb:s.blk b):b<w.heap.size:=by
 rcases h.own with ⟨rfl,_⟩ | ⟨g,cur,ha,hg,_⟩
 ·obtain ⟨a,ha,_⟩:=hb;cases ha
 ·obtain ⟨a,ha',rfl⟩:=hb;rw [ha] at ha';cases ha';exact yO hg
theorem Rws.at {w:World} {e:TypeId} {sz:Nat} {s:Sl} {rs:List (List Value)} (h:Rws w e sz s rs) {i:Int} (h0:0≤i) (hi:i.toNat<rs.length):∃a,At s i sz a∧Row w a rs[i.toNat]∧s.blk a.block:=by
 rcases h.own with ⟨_,rfl⟩ | ⟨g,cur,ha,hg,hc,_,hs,ht⟩
 ·simp at hi
 ·refine ⟨(⟨g,0,none⟩:Addr).add (i.toNat*sz),⟨h0,by rw [h.len];omega,⟨_,ha,rfl⟩⟩,?_,⟨_,ha,by rw [zA]⟩⟩;intro j hj;have hsz:=h.each _ (List.getElem_mem hi);have hadd:((⟨g,0,none⟩:Addr).add (i.toNat*sz)).add j=⟨g,i.toNat*sz+j,none⟩:=by
   unfold Addr.add;split <;> split <;> simp_all
  rw [hadd,cell_of_row w g _ cur e (0,0) hg,← oG h.each hi (by omega),← ht,List.getElem?_take];have hlt:i.toNat*sz+j<rs.length*sz:=by
   have:(i.toNat+1)*sz≤rs.length*sz:=Nat.mul_le_mul_right _ hi;rw [Nat.succ_mul] at this;omega
  rw [if_pos hlt];simp
theorem jLI {v:Value} (h:kD v=true):v.oneCell'=true:=by cases v <;> simp_all [kD,Value.oneCell']
structure SlType (P:Program) (t e:TypeId) (sz bytes:Nat):Prop where
 ht:P.underlying t=some (.slice e)
 hi:∃i z,P.info? e=some i∧i.zero=some z∧i.size=sz∧i.bytes=bytes∧z.cells.size=sz
 pos:0<sz
theorem jIB {w:World} {p:Addr} {r:List Value} (hr:Row w p r):∀j u,r[j]?=some u→w.cell? (p.add j)=some u:=fun j u hu=>by
 rw [hr j (List.getElem?_eq_some_iff.1 hu).1,hu]
theorem Rws.grown {w:World} {e:TypeId} {sz:Nat} {rs:List (List Value)} (heach:∀q∈rs,q.length=sz) {cur:Array Value} {z:Value} (hz:z.cells.size=sz) (hcur:cur.toList=rs.flatten) {cap:Nat} (hc:rs.length≤cap) (hm:cap≤maxLen) :
  Rws (w.drew.alloc (.cells (cur++Builtin.zeroCells z.cells (cap - rs.length)) e)) e sz ⟨some ⟨w.heap.size,0,none⟩,rs.length,cap⟩ rs:=by
 refine ⟨heach,rfl,.inr ⟨w.heap.size,_,rfl,heap_alloc_new w.drew _,hc,hm,?_,?_⟩⟩
 ·have:cur.size=rs.length*sz:=by rw [← Array.length_toList,hcur,zK heach]
  rw [Array.size_append,size_zeroCells,hz,this,← Nat.add_mul]
  congr 1
  show rs.length+(cap - rs.length)=cap
  omega
 ·rw [Array.toList_append,hcur]
  have:=zK heach
  rw [← this]
  exact List.take_left
theorem Rws.appends {P:Program} {w:World} {t ty e:TypeId} {sz bytes:Nat} (T:SlType P t e sz bytes) {s:Sl} {rs qs:List (List Value)} (h:Rws w e sz s rs) {p:Addr} {c:Nat} (hr:Row w p qs.flatten) (hl:∀q∈qs,q.length=sz) (h1:∀q∈qs,q.all kD=true) (hq:qs≠[]) (hb:(rs.length+qs.length)*bytes≤140737488355328) (hm:rs.length+qs.length≤maxLen) :
  ∃s' w',(Builtin.append_ #[t,t] ty #[s.v,(Sl.mk (some p) qs.length c).v]).run P w=.ok s'.v w'∧Rws w' e sz s' (rs++qs)∧Ext s.blk w w'∧(∀b,s'.blk b→s.blk b∨w.heap.size≤b):=by
 obtain ⟨i,z,hi,hz,hsz,hby,hzs⟩:=T.hi
 subst hsz;subst hby
 have h1':∀u∈qs.flatten,u.oneCell'=true:=fun u hu=>by
  obtain ⟨q,hq,hu⟩:=List.mem_flatten.1 hu;exact jLI (List.all_eq_true.1 (h1 q hq) u hu)
 have hml:rs.length+qs.length≤9223372036854775807:=by simp only [maxLen] at hm;omega
 have hlq:=zK hl
 have hpos:0<qs.length:=List.length_pos_iff.2 hq
 have heach:∀q∈rs++qs,q.length=i.size:=fun q hq=>(List.mem_append.1 hq).elim (h.each q) (hl q)
 have hfl:=zK h.each
 rcases h.own with ⟨rfl,rfl⟩ | ⟨g,cur,ha,hg,hcap,hcm,hcs,htake⟩
 ·simp only [List.length_nil,Nat.zero_add] at hb hml hm
  have hrun:=run_append_nil (P:=P) w t ty e i z T.ht hi hz p qs.length c qs.flatten hlq (jIB hr) hpos (by omega) (by omega)
  have hg:=Rws.grown (w:=w) (e:=e) (rs:=qs) hl (cur:=qs.flatten.toArray) hzs (by simp) (grownCap_ge w qs.length 0 e) (grownCap_le_maxLen w _ 0 e hm)
  refine ⟨⟨some ⟨w.heap.size,0,none⟩,qs.length,grownCap w qs.length 0 e⟩,(w.drew.alloc (.cells (qs.flatten.toArray++Builtin.zeroCells z.cells (grownCap w qs.length 0 e - qs.length)) e)),hrun,?_,?_,?_⟩
  ·simpa using hg
  ·exact ⟨rfl,rfl,rfl,(by first | exact Nat.le_refl _ | exact Nat.le_succ _),by simp,fun b hb _=>uT w.drew _ b hb⟩
  ·intro b hb;obtain ⟨a,ha,rfl⟩:=hb;cases ha;right;exact Nat.le_refl _
 ·have hs':s.v=.slice (some ⟨g,0,none⟩) rs.length s.cap:=by unfold Sl.v;rw [ha,h.len]
  by_cases hroom:rs.length+qs.length≤s.cap
  ·have hfit:rs.length*i.size+qs.flatten.length≤cur.size:=by rw [hlq,hcs,← Nat.add_mul];exact Nat.mul_le_mul_right _ hroom
   have hrun:=run_append_room (P:=P) w t ty e i T.ht hi g rs.length s.cap cur hg p qs.length c qs.flatten hlq (jIB hr) h1' hroom hfit
   refine ⟨⟨some ⟨g,0,none⟩,rs.length+qs.length,s.cap⟩,_,by rw [hs'];exact hrun,⟨heach,by simp,.inr ⟨g,_,rfl,setRow_heap w g cur _ e _ hg,by simpa using hroom,hcm,?_,?_⟩⟩,⟨rfl,rfl,rfl,(by first | exact Nat.le_refl _ | exact Nat.le_succ _),by simp,fun b hb hf=>setRow_other w g b _ (fun e=>hf ⟨_,ha,e.symm⟩)⟩,fun b hb=>by obtain ⟨a,ha',rfl⟩:=hb;cases ha';exact .inl ⟨_,ha,rfl⟩⟩
   ·simp only [List.size_toArray,List.length_append,List.length_take,List.length_drop,Array.length_toList]
    omega
   ·rw [htake,List.flatten_append,List.length_append,Nat.add_mul,← hfl,← hlq,← List.length_append]
    exact List.take_left
  ·have holds : ∀ j u, rs.flatten[j]? = some u → w.cell? ((⟨g, 0, none⟩ : Addr).add j) = some u := fun j u hu => by
    have hadd:(⟨g,0,none⟩:Addr).add j=⟨g,j,none⟩:=by unfold Addr.add;split <;> simp_all
    rw [hadd,cell_of_row w g j cur e (0,0) hg];rw [← htake,List.getElem?_take] at hu;split at hu
    ·simpa using hu
    ·cases hu
   have hrun:=run_append_grow (P:=P) w t ty e i z T.ht hi hz ⟨g,0,none⟩ rs.length s.cap rs.flatten hfl holds p qs.length c qs.flatten hlq (jIB hr) (by omega) (by omega) (growslice_fits (by omega) hb)
   have hgr:=Rws.grown (w:=w) (e:=e) (rs:=rs++qs) heach (cur:=rs.flatten.toArray++qs.flatten.toArray) hzs (by simp) (cap:=grownCap w (rs.length+qs.length) s.cap e) (by simpa using grownCap_ge w (rs.length+qs.length) s.cap e) (grownCap_le_maxLen w _ _ e hm)
   refine ⟨⟨some ⟨w.heap.size,0,none⟩,rs.length+qs.length,grownCap w (rs.length+qs.length) s.cap e⟩,(w.drew.alloc (.cells (rs.flatten.toArray++qs.flatten.toArray++Builtin.zeroCells z.cells (grownCap w (rs.length+qs.length) s.cap e - (rs.length+qs.length))) e)),?_,?_,?_,?_⟩
   ·rw [hs'];exact hrun
   ·simpa using hgr
   ·exact ⟨rfl,rfl,rfl,(by first | exact Nat.le_refl _ | exact Nat.le_succ _),by simp,fun b hb _=>uT w.drew _ b hb⟩
   ·intro b hb;obtain ⟨a,ha,rfl⟩:=hb;cases ha;right;exact Nat.le_refl _
theorem Rws.append {P:Program} {w:World} {t ty e:TypeId} {sz bytes:Nat} (T:SlType P t e sz bytes) {s:Sl} {rs:List (List Value)} (h:Rws w e sz s rs) {p:Addr} {c:Nat} {r:List Value} (hr:Row w p r) (hl:r.length=sz) (h1:r.all kD=true) (hb:(rs.length+1)*bytes≤140737488355328) (hm:rs.length+1≤maxLen) :
  ∃s' w',(Builtin.append_ #[t,t] ty #[s.v,(Sl.mk (some p) 1 c).v]).run P w=.ok s'.v w'∧Rws w' e sz s' (rs++[r])∧Ext s.blk w w'∧(∀b,s'.blk b→s.blk b∨w.heap.size≤b) :=
 Rws.appends T h (qs:=[r]) (by simpa using hr) (by simpa using hl) (by simpa using h1) (by simp) hb hm
end Go.SE
end
section
namespace Go.SE
open Go.Instr
def jUY (k:Value) (es:List MapEntry) (r:Option (Nat×Value)):Prop :=
 (r=.none∧∀e∈es,e.key≠k)∨∃i e,es[i]?=some e∧e.key=k∧r=some (i,e.val)
structure KeyOK (P:Program) (K:TypeId) (S:Value→Prop):Prop where
 check:∀k,S k→∀em w,(checkKey em 10000 K k).run P w=.ok () w
 find:∀k (es:List MapEntry) w,S k→(∀e∈es,S e.key)→∃r,(findKey K k es).run P w=.ok r w∧jUY k es r
 bits:∀k,S k→sameBits 10000 k k=true
structure CMap (w:World) (m:Nat) (es:List (Value×Value)):Prop where
 ex:∃arr clock,w.heap[m]?=some (.map arr clock)∧arr.toList.map (fun e=>(e.key,e.val))=es∧arr.toList.Pairwise (fun a b=>a.born<b.born)∧∀e∈arr.toList,e.born<clock
theorem CMap.ext {F:Nat→Prop} {w w':World} {m:Nat} {es:List (Value×Value)} (h:CMap w m es) (hE:Ext F w w') (hf:¬ F m):CMap w' m es:=by
 obtain ⟨arr,clock,hm,r⟩:=h.ex;exact ⟨arr,clock,hE.heap hm hf,r⟩
theorem CMap.lt {w:World} {m:Nat} {es:List (Value×Value)} (h:CMap w m es):m<w.heap.size:=by
 obtain ⟨arr,clock,hm,r⟩:=h.ex;exact yO hm
theorem CMap.of_new {w w':World} {p:Addr} (h:New w (.map #[] 0) p w'):CMap w' p.block []:=⟨#[],0,h.block_new,rfl,by simp,by simp⟩
theorem xH {P:Program} {K:TypeId} {k:Value} {w:World}:∀(es:List MapEntry) (i:Nat),(∀e∈es,∃b,(Op.equal K k e.key).run P w=.ok b w∧(b=true↔e.key=k)) →
  ∃r,(findAsking K k es i).run P w=.ok r w∧((r=.none∧∀e∈es,e.key≠k)∨∃j e,es[j]?=some e∧e.key=k∧r=some (i+j,e.val))
 | [],i,_=>⟨.none,rfl,.inl ⟨rfl,by simp⟩⟩
 | e :: es,i,h=>by
  obtain ⟨b,hb,hbk⟩:=h e (by simp);cases b with
  | true =>
   refine ⟨some (i,e.val),?_,.inr ⟨0,e,rfl,hbk.1 rfl,rfl⟩⟩
   simp [findAsking,hb]
  | false =>
   obtain ⟨r,hr,hf⟩:=xH es (i+1) (fun e he=>h e (by simp [he]))
   refine ⟨r,?_,?_⟩
   ·simp [findAsking,hb,hr]
   ·rcases hf with ⟨h1,h2⟩ | ⟨j,e',h1,h2,h3⟩
    ·left
     refine ⟨h1,fun e' he'=>?_⟩
     rcases List.mem_cons.1 he' with rfl | he'
     ·intro hk;have:=hbk.2 hk;cases this
     ·exact h2 e' he'
    ·exact .inr ⟨j+1,e',by simpa using h1,h2,by rw [h3,Nat.add_assoc,Nat.add_comm 1 j]⟩
theorem jDH {fs:Array Field} {k:Value}:∀(es:List MapEntry) (i:Nat),es≠[]→findNow (.struct fs) k es i=.none
 | [],_,h=>absurd rfl h
 | e :: es,i,_=>by simp [findNow,sameNow]
theorem KeyOK.of_struct {P:Program} {K:TypeId} {S:Value→Prop} {fs:Array Field} (hK:P.underlying K=some (.struct fs)) (hc:∀k,S k→∀em w,(checkKey em 10000 K k).run P w=.ok () w)
  (he:∀k k' w,S k→S k'→∃b,(Op.equal K k k').run P w=.ok b w∧(b=true↔k'=k)) (hb:∀k,S k→sameBits 10000 k k=true):KeyOK P K S:=by
 refine ⟨hc,fun k es w hk hes=>?_,hb⟩
 unfold findKey
 simp only [Sem.run_bind,run_underlying hK,Result.andThen_ok]
 by_cases h0:es=[]
 ·subst h0;exact ⟨.none,by simp [findNow],.inl ⟨rfl,by simp⟩⟩
 ·rw [jDH es 0 h0]
  obtain ⟨r,hr,hf⟩:=xH (P:=P) (K:=K) (k:=k) (w:=w) es 0 (fun e he'=>he k e.key w hk (hes e he'))
  exact ⟨r,hr,by simpa [jUY] using hf⟩
theorem jCS {q:IntKind} {k:Int}:∀(es:List MapEntry) (i:Nat),(∀e∈es,∃n,e.key=.int q n)→∃r,findNow (.int q) (.int q k) es i=some r∧((r=.none∧∀e∈es,e.key≠.int q k)∨∃j e,es[j]?=some e∧e.key=.int q k∧r=some (i+j,e.val))
 | [],i,_=>⟨.none,rfl,.inl ⟨rfl,by simp⟩⟩
 | e :: es,i,h=>by
  obtain ⟨n,hn⟩:=h e (by simp);by_cases hk:k=n
  ·subst hk;exact ⟨some (i,e.val),by simp [findNow,sameNow,hn],.inr ⟨0,e,rfl,hn,rfl⟩⟩
  ·obtain ⟨r,hr,hf⟩:=jCS (q:=q) (k:=k) es (i+1) (fun e he=>h e (by simp [he]));have hkn:(k == n)=false:=by simpa using hk
   refine ⟨r,by simp [findNow,sameNow,hn,hkn,hr],?_⟩;rcases hf with ⟨h1,h2⟩ | ⟨j,e',h1,h2,h3⟩
   ·left;refine ⟨h1,fun e' he'=>?_⟩;rcases List.mem_cons.1 he' with rfl | he'
    ·rw [hn];intro h;cases h;exact hk rfl
    ·exact h2 e' he'
   ·exact .inr ⟨j+1,e',by simpa using h1,h2,by rw [h3,Nat.add_assoc,Nat.add_comm 1 j]⟩
theorem jHE {P:Program} {K:TypeId} {q:IntKind} (hK:P.underlying K=some (.int q)) (n:Int) (em:Bool) (w:World) (d:Nat):(checkKey em (d+1) K (.int q n)).run P w=.ok () w:=by
 simp [checkKey,run_underlying hK]
theorem jFQ (q:IntKind) (n:Int) (d:Nat):sameBits d (.int q n) (.int q n)=true:=by
 cases d <;> simp [sameBits]
theorem KeyOK.of_int {P:Program} {K:TypeId} {q:IntKind} (hK:P.underlying K=some (.int q)):KeyOK P K (fun k=>∃n,k=.int q n):=by
 refine ⟨?_,?_,?_⟩
 ·rintro _ ⟨n,rfl⟩ em w;exact jHE hK n em w 9999
 ·rintro _ es w ⟨n,rfl⟩ hes;obtain ⟨r,hr,hf⟩:=jCS (q:=q) (k:=n) es 0 hes;exact ⟨r,by simp [findKey,run_underlying hK,hr],by simpa [jUY] using hf⟩
 ·rintro _ ⟨n,rfl⟩;exact jFQ q n 10000
section
variable {P:Program} {T K E:TypeId} {S:Value→Prop} {w:World} {m:Nat} {es:List (Value×Value)}
theorem CMap.lookup (h:CMap w m es) (hT:P.underlying T=some (.map K E)) (hK:KeyOK P K S) (hS:∀p∈es,S p.1) {k z:Value} (hk:S k) (hz:(zeroValue E).run P w=.ok z w) (ok:Bool) :
  ((∀p∈es,p.1≠k)∧(Instr.lookup T (.map (some m)) k ok).run P w=.ok (if ok then .tuple #[z,.bool false] else z) w) ∨
  ∃(i:Nat) (v:Value),es[i]?=some (k,v)∧(Instr.lookup T (.map (some m)) k ok).run P w=.ok (if ok then .tuple #[v,.bool true] else v) w:=by
 obtain ⟨arr,clock,hm,rfl,_,_⟩:=h.ex
 obtain ⟨r,hr,hf⟩:=hK.find k arr.toList w hk (fun e he=>hS _ (List.mem_map.2 ⟨e,he,rfl⟩))
 have hc:=hK.check k hk arr.isEmpty w
 have hg:(getObj m).run P w=.ok (.map arr clock) w:=by simp [getObj,Sem.run,hm]
 rcases hf with ⟨rfl,hn⟩ | ⟨i,e,hi,rfl,rfl⟩
 ·left
  refine ⟨fun p hp=>?_,?_⟩
  ·obtain ⟨e,he,rfl⟩:=List.mem_map.1 hp;exact hn e he
  ·cases ok <;> simp [Instr.lookup,run_underlying hT,hg,hc,hr,hz]
 ·right
  refine ⟨i,e.val,by simp [hi],?_⟩
  cases ok <;> simp [Instr.lookup,run_underlying hT,hg,hc,hr]
theorem CMap.insert (h:CMap w m es) (hT:P.underlying T=some (.map K E)) (hK:KeyOK P K S) (hS:∀p∈es,S p.1) {k v:Value} (hk:S k) (hn:∀p∈es,p.1≠k) :
  ∃w',(Instr.mapUpdate T (.map (some m)) k v).run P w=.ok () w'∧CMap w' m (es++[(k,v)])∧Ext (·=m) w w':=by
 obtain ⟨arr,clock,hm,rfl,hp,hb⟩:=h.ex
 obtain ⟨r,hr,hf⟩:=hK.find k arr.toList w hk (fun e he=>hS _ (List.mem_map.2 ⟨e,he,rfl⟩))
 have hc:=hK.check k hk false w
 have hg:(getObj m).run P w=.ok (.map arr clock) w:=by simp [getObj,Sem.run,hm]
 have hlt:=yO hm
 rcases hf with ⟨rfl,_⟩ | ⟨i,e,hi,rfl,rfl⟩
 ·refine ⟨{ w with heap:=w.heap.setIfInBounds m (.map (arr.push { key:=k,val:=v,born:=clock }) (clock+1)) },?_,⟨arr.push { key:=k,val:=v,born:=clock },clock+1,by simp [hlt],by simp,?_,?_⟩,⟨rfl,rfl,rfl,(by first | exact Nat.le_refl _ | exact Nat.le_succ _),by simp,fun b _ hf=>by simp [Array.getElem?_setIfInBounds_ne (Ne.symm hf)]⟩⟩
  ·simp [Instr.mapUpdate,run_underlying hT,hg,hc,hr,setObj,Sem.run,hm]
  ·simp only [Array.toList_push,List.pairwise_append,List.pairwise_cons,List.mem_singleton]
   exact ⟨hp,⟨by simp,List.Pairwise.nil⟩,fun a ha b hb'=>by subst hb';exact hb a ha⟩
  ·intro e he
   simp only [Array.toList_push,List.mem_append,List.mem_singleton] at he
   rcases he with he | rfl
   ·have:=hb e he;omega
   ·simp
 ·exact absurd rfl (hn _ (List.mem_map.2 ⟨e,List.mem_of_getElem? hi,rfl⟩))
theorem tD {α β:Type} (f:α→β):∀(l:List α) (i:Nat),(l.eraseIdx i).map f=(l.map f).eraseIdx i
 | [],i=>by simp
 | a :: l,0=>by simp
 | a :: l,i+1=>by simp [tD f l i]
theorem CMap.delete (h:CMap w m es) (hT:P.underlying T=some (.map K E)) (hK:KeyOK P K S) (hS:∀p∈es,S p.1) {k v:Value} (hk:S k) {i:Nat} (hi:es[i]?=some (k,v)) (hu:∀j u,es[j]?=some (k,u)→j=i) {Q:TypeId} {z:TypeId} :
  ∃w',(Builtin.delete_ #[T,Q] z #[.map (some m),k]).run P w=.ok (.tuple #[]) w'∧CMap w' m (es.eraseIdx i)∧Ext (·=m) w w':=by
 obtain ⟨arr,clock,hm,rfl,hp,hb⟩:=h.ex
 obtain ⟨r,hr,hf⟩:=hK.find k arr.toList w hk (fun e he=>hS _ (List.mem_map.2 ⟨e,he,rfl⟩))
 have hc:=hK.check k hk arr.isEmpty w
 have hg:(getObj m).run P w=.ok (.map arr clock) w:=by simp [getObj,Sem.run,hm]
 have hlt:=yO hm
 rcases hf with ⟨rfl,hn⟩ | ⟨j,e,hj,rfl,rfl⟩
 ·have:=List.mem_of_getElem? hi
  obtain ⟨e,he,h2⟩:=List.mem_map.1 this
  exact absurd (congrArg Prod.fst h2) (hn e he)
 ·have hji:j=i:=hu j e.val (by simp [hj])
  subst hji
  have hja:j<arr.size:=by
   have:=List.getElem?_eq_some_iff.1 hj;obtain ⟨h,_⟩:=this;simpa using h
  have hl:(arr.eraseIdxIfInBounds j).toList=arr.toList.eraseIdx j:=by
   simp [Array.eraseIdxIfInBounds,hja,Array.toList_eraseIdx]
  refine ⟨{ w with heap:=w.heap.setIfInBounds m (.map (arr.eraseIdxIfInBounds j) clock) },?_,⟨arr.eraseIdxIfInBounds j,clock,by simp [hlt],?_,?_,?_⟩,⟨rfl,rfl,rfl,(by first | exact Nat.le_refl _ | exact Nat.le_succ _),by simp,fun b _ hf=>by simp [Array.getElem?_setIfInBounds_ne (Ne.symm hf)]⟩⟩
  ·simp [Builtin.delete_,run_underlying hT,hg,hc,hr,setObj,Sem.run,hm]
  ·rw [hl];exact tD _ _ _
  ·rw [hl];exact hp.sublist (List.eraseIdx_sublist _ _)
  ·rw [hl];intro e he;exact hb e ((List.eraseIdx_sublist _ _).subset he)
theorem CMap.update (h:CMap w m es) (hT:P.underlying T=some (.map K E)) (hK:KeyOK P K S) (hS:∀p∈es,S p.1) {k v v':Value} (hk:S k) {i:Nat} (hi:es[i]?=some (k,v)) (hu:∀j u,es[j]?=some (k,u)→j=i) :
  ∃w',(Instr.mapUpdate T (.map (some m)) k v').run P w=.ok () w'∧CMap w' m (es.set i (k,v'))∧Ext (·=m) w w':=by
 obtain ⟨arr,clock,hm,rfl,hp,hb⟩:=h.ex
 obtain ⟨r,hr,hf⟩:=hK.find k arr.toList w hk (fun e he=>hS _ (List.mem_map.2 ⟨e,he,rfl⟩))
 have hc:=hK.check k hk false w
 have hg:(getObj m).run P w=.ok (.map arr clock) w:=by simp [getObj,Sem.run,hm]
 have hlt:=yO hm
 rcases hf with ⟨rfl,hn⟩ | ⟨j,e,hj,hek,rfl⟩
 ·have:=List.mem_of_getElem? hi
  obtain ⟨e,he,h2⟩:=List.mem_map.1 this
  exact absurd (congrArg Prod.fst h2) (hn e he)
 ·have hji:j=i:=hu j e.val (by simp [hj,hek])
  subst hji
  obtain ⟨hja,hje⟩:=List.getElem?_eq_some_iff.1 hj
  have hja':j<arr.size:=by simpa using hja
  have hje':arr[j]?=some e:=by simpa using hj
  have hje2:arr[j]=e:=by simpa using hje
  have hl:(arr.modify j fun e=>{ e with key:=k,val:=v' }).toList=arr.toList.set j { e with key:=k,val:=v' }:=by
   rw [Array.toList_modify];apply List.ext_getElem?;intro n;rw [List.getElem?_modify,List.getElem?_set];by_cases hn:j=n
   ·subst hn;simp [hja',hje',hje2]
   ·simp [hn]
  have hpw:(arr.toList.map (·.born)).Pairwise (·<·):=List.pairwise_map.2 hp
  have hborn:(arr.toList.set j { e with key:=k,val:=v' }).map (·.born)=arr.toList.map (·.born):=by
   rw [List.map_set];apply List.ext_getElem?;intro n;rw [List.getElem?_set];by_cases hn:j=n
   ·subst hn;simp [hja',hje',hje2]
   ·simp [hn]
  have hbits:=hK.bits k hk
  refine ⟨{ w with heap:=w.heap.setIfInBounds m (.map (arr.modify j fun e=>{ e with key:=k,val:=v' }) clock) },?_,⟨arr.modify j fun e=>{ e with key:=k,val:=v' },clock,by simp [hlt],?_,?_,?_⟩,⟨rfl,rfl,rfl,(by first | exact Nat.le_refl _ | exact Nat.le_succ _),by simp,fun b _ hf=>by simp [Array.getElem?_setIfInBounds_ne (Ne.symm hf)]⟩⟩
  ·simp [Instr.mapUpdate,run_underlying hT,hg,hc,hr,setObj,Sem.run,hm,keyThatStays,hje',hek,hbits]
  ·rw [hl,List.map_set]
  ·rw [hl];exact List.pairwise_map.1 (by rw [hborn];exact hpw)
  ·rw [hl];intro e' he'
   have:e'.born∈arr.toList.map (·.born):=by rw [← hborn];exact List.mem_map.2 ⟨e',he',rfl⟩
   obtain ⟨e'',h1,h2⟩:=List.mem_map.1 this
   rw [← h2];exact hb e'' h1
end
end Go.SE
end
section
namespace Go.SE
structure Lst (S:Nat→Prop) (w:World) (sz:Nat) (s:Sl) (rs:List (List Value)):Prop where
 len:s.len=rs.length
 at_:∀i (h:i<rs.length),∃a,At s i sz a∧S a.block∧Row w a rs[i]
theorem Lst.ext {S F:Nat→Prop} {w w':World} {sz:Nat} {s:Sl} {rs:List (List Value)} (h:Lst S w sz s rs) (hE:Ext F w w') (hd:∀b,S b→¬ F b):Lst S w' sz s rs :=
 ⟨h.len,fun i hi=>let ⟨a,h1,h2,h3⟩:=h.at_ i hi;⟨a,h1,h2,hE.row h3 (hd _ h2)⟩⟩
theorem Lst.pure {S:Nat→Prop} {w w':World} {sz:Nat} {s:Sl} {rs:List (List Value)} (h:Lst S w sz s rs) (hE:Pure w w'):Lst S w' sz s rs:=h.ext hE (fun _ _ h=>h)
theorem Rws.lst {w:World} {e:TypeId} {sz:Nat} {s:Sl} {rs:List (List Value)} (h:Rws w e sz s rs):Lst s.blk w sz s rs :=
 ⟨h.len,fun i hi=>let ⟨a,h1,h2,h3⟩:=h.at (i:=i) (by omega) (by simpa using hi);⟨a,h1,h3,h2⟩⟩
theorem yS (a:Addr) (i j:Nat):(a.add i).add j=a.add (i+j):=by
 unfold Addr.add;repeat' split
 all_goals simp_all
 all_goals omega
section
variable {P:Program} {t e:TypeId} {sz bytes:Nat}
theorem SlType.sizeOf (T:SlType P t e sz bytes) (w:World):(Go.sizeOf e).run P w=.ok sz w:=by
 obtain ⟨i,z,hi,_,hs,_⟩:=T.hi;simp [Go.sizeOf,Go.typeInfo,Sem.run,program,hi,hs,bind,pure,Sem.bind,Sem.pure]
theorem Rws.hi (T:SlType P t e sz bytes) {w:World} {s:Sl} {rs:List (List Value)} (h:Rws w e sz s rs) {k:IntKind} {n:Int} (h0:0≤n) (hn:n≤rs.length) :
  ∃s':Sl,(Instr.sliceAt t s.v none (some (.int k n)) none).run P w=.ok s'.v w∧Rws w e sz s' (rs.take n.toNat)∧∀b,s'.blk b↔s.blk b:=by
 rcases h.own with ⟨rfl,rfl⟩ | ⟨g,cur,ha,hg,hc,hm,hs,ht⟩
 ·have:n=0:=by simpa using (show n=0 by simp at hn;omega)
  subst this
  refine ⟨Sl.nil,?_,by simpa using Rws.nil w e sz,fun _=>Iff.rfl⟩
  simp [Instr.sliceAt,Instr.slice,Sl.v,Sl.nil,run_underlying T.ht,Instr.sliceBounds,Instr.sliceBound,asIntOf,T.sizeOf]
 ·refine ⟨⟨some ⟨g,0,none⟩,n.toNat,s.cap⟩,?_,⟨fun r hr=>h.each r (List.mem_of_mem_take hr),by simp;omega,.inr ⟨g,cur,rfl,hg,by simp;omega,hm,hs,?_⟩⟩,fun b=>?_⟩
  ·have hle:n≤(s.cap:Int):=by omega
   by_cases hz:s.cap=0
   ·have:n=0:=by omega
    subst this
    simp [Instr.sliceAt,Instr.slice,Sl.v,run_underlying T.ht,Instr.sliceBounds,Instr.sliceBound,asIntOf,T.sizeOf,ha,hz]
   ·simp [Instr.sliceAt,Instr.slice,Sl.v,run_underlying T.ht,Instr.sliceBounds,Instr.sliceBound,asIntOf,T.sizeOf,h0,hle,ha,hz,Addr.add]
  ·have hl:(rs.take n.toNat).length=n.toNat:=by simp;omega
   have e1:rs=rs.take n.toNat++rs.drop n.toNat:=(List.take_append_drop _ _).symm
   have e2:((rs.take n.toNat).flatten).length=n.toNat*sz:=by rw [zK (fun r hr=>h.each r (List.mem_of_mem_take hr)),hl]
   have h3:n.toNat*sz≤rs.length*sz:=Nat.mul_le_mul_right _ (by omega)
   calc cur.toList.take ((rs.take n.toNat).length*sz)=(cur.toList.take (rs.length*sz)).take (n.toNat*sz):=by rw [hl,List.take_take,Nat.min_eq_left h3]
    _=((rs.take n.toNat).flatten++(rs.drop n.toNat).flatten).take (n.toNat*sz):=by rw [ht,← List.flatten_append,← e1]
    _=(rs.take n.toNat).flatten:=by rw [← e2,List.take_left]
  ·simp [Sl.blk,ha]
theorem Lst.lo {S:Nat→Prop} (T:SlType P t e sz bytes) {w:World} {s:Sl} {rs:List (List Value)} (h:Lst S w sz s rs) (hcap:s.len≤s.cap) {k:IntKind} {n:Int} (h0:0≤n) (hn:n≤rs.length) :
  ∃s':Sl,(Instr.sliceAt t s.v (some (.int k n)) none none).run P w=.ok s'.v w∧Lst S w sz s' (rs.drop n.toNat):=by
 have hle:n≤(s.len:Int):=by rw [h.len];exact hn
 refine ⟨⟨if s.cap=n.toNat then s.a else s.a.map (·.add (n.toNat*sz)),s.len - n.toNat,s.cap - n.toNat⟩,?_,⟨by simp [h.len],fun i hi=>?_⟩⟩
 ·simp [Instr.sliceAt,Instr.slice,Sl.v,run_underlying T.ht,Instr.sliceBounds,Instr.sliceBound,asIntOf,T.sizeOf,h0,hle]
 ·have hi':n.toNat+i<rs.length:=by simp at hi;omega
  obtain ⟨a,⟨_,hlt,p,hp,rfl⟩,hS,hr⟩:=h.at_ (n.toNat+i) hi'
  refine ⟨_,⟨by omega,by simp only [h.len];omega,p.add (n.toNat*sz),?_,rfl⟩,?_,?_⟩
  ·rw [if_neg (by rw [h.len] at hcap;omega),hp];rfl
  ·simpa [zA] using hS
  ·have : (p.add (n.toNat * sz)).add ((i : Int).toNat * sz) = p.add (((n.toNat + i : Nat) : Int).toNat * sz) := by
    rw [yS,Int.toNat_natCast,Int.toNat_natCast,Nat.add_mul]
   rw [this,List.getElem_drop];exact hr
end
theorem Box.storeAt {p:Addr} {T:TypeId}:∀(vs:List Value) (i off:Nat) (w:World) (c:List Value),Box w p c T→off+i+vs.length≤c.length →
  Box (storeRowFrom w (p.add off) i vs) p (c.take (off+i)++vs++c.drop (off+i+vs.length)) T
 | [],i,off,w,c,h,hl=>by simpa [storeRowFrom] using h
 | v :: vs,i,off,w,c,h,hl=>by
  simp only [storeRowFrom];have h1:=h.set (off+i) v;rw [← yS] at h1;have h2:=Box.storeAt vs (i+1) off _ _ h1 (by simp at hl ⊢;omega);have e:(c.set (off+i) v).take (off+(i+1))++vs++(c.set (off+i) v).drop (off+(i+1)+vs.length)=c.take (off+i)++(v :: vs)++c.drop (off+i+(v :: vs).length):=by
   have hlt:off+i<c.length:=by simp at hl;omega
   rw [List.drop_set_of_lt (by omega),← Nat.add_assoc,List.take_succ_eq_append_getElem (by simp;omega),List.getElem_set_self,List.take_set_of_le (Nat.le_refl _)];simp only [List.length_cons,List.append_assoc,List.cons_append,List.nil_append];congr 4;omega
  rw [e] at h2;exact h2
theorem Rws.set {w:World} {e:TypeId} {sz:Nat} {s:Sl} {rs:List (List Value)} (h:Rws w e sz s rs) {i:Nat} (hi:i<rs.length) {r:List Value} (hr:r.length=sz) {k:Int} (hk:k=i) :
  ∃a,At s k sz a∧(∀j,j<sz→jT w (a.add j))∧∀w',w'=storeRow w a r→Rws w' e sz s (rs.set i r)∧Ext s.blk w w':=by
 subst hk
 rcases h.own with ⟨_,rfl⟩ | ⟨g,cur,ha,hg,hc,hm,hs,ht⟩
 ·simp at hi
 ·have B:Box w ⟨g,0,none⟩ cur.toList e:=⟨rfl,by simpa using hg⟩
  have hle:(i+1)*sz≤rs.length*sz:=Nat.mul_le_mul_right _ hi
  have hle2:rs.length*sz≤s.cap*sz:=Nat.mul_le_mul_right _ hc
  have hlen:cur.toList.length=s.cap*sz:=by simpa using hs
  rw [Nat.succ_mul] at hle
  refine ⟨(⟨g,0,none⟩:Addr).add (i*sz),⟨by omega,by rw [h.len];omega,⟨_,ha,by simp⟩⟩,fun j hj=>?_,?_⟩
  ·rw [yS];exact B.canW (by omega)
  ·intro w' hw'
   have B2:=Box.storeAt r 0 (i*sz) w _ B (by rw [hr];omega)
   have hE:Ext (·=g) w w':=by
    rw [hw'];have:=Ext.storeRow w ((⟨g,0,none⟩:Addr).add (i*sz)) r;rw [zA] at this;exact this
   have hw2:storeRowFrom w ((⟨g,0,none⟩:Addr).add (i*sz)) 0 r=w':=hw'.symm
   rw [hw2] at B2
   refine ⟨⟨?_,by rw [List.length_set];exact h.len,.inr ⟨g,_,ha,B2.blk,by rw [List.length_set];exact hc,hm,?_,?_⟩⟩,hE.mono (fun b _ hb=>⟨_,ha,hb.symm⟩)⟩
   ·intro q hq
    rcases List.mem_or_eq_of_mem_set hq with h' | rfl
    ·exact h.each q h'
    ·exact hr
   ·simp only [List.size_toArray,List.length_append,List.length_take,List.length_drop,hr,hlen];omega
   ·have hse : ∀ q ∈ rs.set i r, q.length = sz := by
     intro q hq;rcases List.mem_or_eq_of_mem_set hq with h' | rfl
     ·exact h.each q h'
     ·exact hr
    have e1:rs=rs.take i++rs[i] :: rs.drop (i+1):=by rw [← List.drop_eq_getElem_cons hi,List.take_append_drop]
    have e2:rs.set i r=rs.take i++r :: rs.drop (i+1):=by
     rw [List.set_eq_take_append_cons_drop,if_pos hi]
    have l1:(rs.take i).flatten.length=i*sz:=by rw [zK (fun r hr=>h.each r (List.mem_of_mem_take hr)),List.length_take,Nat.min_eq_left (by omega)]
    have l2:rs[i].length=sz:=h.each _ (List.getElem_mem hi)
    have l3:(rs.drop (i+1)).flatten.length=(rs.length - (i+1))*sz:=by rw [zK (fun r hr=>h.each r (List.mem_of_mem_drop hr)),List.length_drop]
    have hcur:cur.toList=rs.flatten++cur.toList.drop (rs.length*sz):=by rw [← ht,List.take_append_drop]
    have hfl:rs.flatten=(rs.take i).flatten++(rs[i]++(rs.drop (i+1)).flatten):=by
     calc rs.flatten=(rs.take i++rs[i] :: rs.drop (i+1)).flatten:=by rw [← e1]
      _=_:=by rw [List.flatten_append,List.flatten_cons]
    have t1:cur.toList.take (i*sz)=(rs.take i).flatten:=by
     rw [hcur,hfl,List.append_assoc,← l1,List.take_left]
    have t2:cur.toList.drop (i*sz+sz)=(rs.drop (i+1)).flatten++cur.toList.drop (rs.length*sz):=by
     conv=>lhs;rw [hcur,hfl]
     have:i*sz+sz=((rs.take i).flatten++rs[i]).length:=by rw [List.length_append,l1,l2]
     rw [← List.append_assoc,List.append_assoc,this,List.drop_left]
    have tot:((rs.set i r).flatten).length=(rs.set i r).length*sz:=zK hse
    have hf2:(rs.set i r).flatten=(rs.take i).flatten++(r++(rs.drop (i+1)).flatten):=by rw [e2,List.flatten_append,List.flatten_cons]
    have e3:(rs.take i).flatten++r++((rs.drop (i+1)).flatten++cur.toList.drop (rs.length*sz))=(rs.set i r).flatten++cur.toList.drop (rs.length*sz):=by
     rw [hf2];simp only [List.append_assoc]
    rw [← tot,Nat.add_zero,hr,t1,t2,e3]
    exact List.take_left
section
variable {P:Program} {t e:TypeId} {sz bytes:Nat}
theorem Rws.make (T:SlType P t e sz bytes) {zr:List Value} (hz:∀i z,P.info? e=some i→i.zero=some z→z.cells=zr.toArray) {k k':IntKind} {n:Nat} (hb:bytes*n≤281474976710656) (hm:n≤maxLen) (w:World) :
  ∃w',(Instr.makeSlice t (.int k (n:Int)) (.int k' (n:Int))).run P w=.ok (Sl.mk (some ⟨w.heap.size,0,none⟩) n n).v w'∧Rws w' e sz ⟨some ⟨w.heap.size,0,none⟩,n,n⟩ (List.replicate n zr)∧Pure w w':=by
 obtain ⟨i,z,hi,h0,hs,hby,hzs⟩:=T.hi
 have hzr:=hz i z hi h0
 have hzl:zr.length=sz:=by rw [← hzs,hzr];simp
 have hm':(n:Int)≤9223372036854775807:=by simp only [maxLen] at hm;omega
 have hb':(i.bytes:Int)*(n:Int)≤281474976710656:=by
  have h:((i.bytes*n:Nat):Int)≤281474976710656:=by rw [hby];omega
  rwa [Int.natCast_mul] at h
 have hr:=run_make (P:=P) w t e i z T.ht hi h0 k k' n n (by omega) (Int.le_refl _) hb' hm'
 simp only [Int.toNat_natCast,hs] at hr
 have hN:New w (.cells (madeCells z.cells (n*sz)) e) ⟨w.heap.size,0,none⟩ (w.alloc (.cells (madeCells z.cells (n*sz)) e)):=⟨rfl,rfl⟩
 refine ⟨_,hr,⟨fun r hr=>by rw [(List.mem_replicate.1 hr).2,hzl],by simp,.inr ⟨w.heap.size,_,rfl,hN.block_new,by simp,hm,by simp [size_madeCells],?_⟩⟩,Ext.new hN⟩
 have hpos:=T.pos
 have he:∀r∈List.replicate n zr,r.length=sz:=fun r hr=>by rw [(List.mem_replicate.1 hr).2,hzl]
 rw [List.take_of_length_le (by simp [size_madeCells])]
 apply List.ext_getElem?
 intro j
 by_cases hj:j<n*sz
 ·have hq:j / sz<n:=Nat.div_lt_of_lt_mul (by rw [Nat.mul_comm];exact hj)
  have hmod:j % sz<sz:=Nat.mod_lt _ hpos
  have e1:=oG he (i:=j / sz) (by simpa using hq) (j:=j % sz) hmod
  have e2:j / sz*sz+j % sz=j:=by rw [Nat.mul_comm];exact Nat.div_add_mod j sz
  rw [e2] at e1
  rw [e1]
  have hsz:z.cells.size=sz:=hzs
  simp only [madeCells,hzr,Array.getElem?_toList,Array.getElem?_map,Array.getElem?_range,hj,List.size_toArray,hzl,List.getElem_replicate,if_true,Option.map_some]
  rw [List.getElem?_eq_getElem (by omega)]
  simp [hzl,hmod]
 ·rw [List.getElem?_eq_none (by simp [size_madeCells];omega),List.getElem?_eq_none (by rw [zK he];simp;omega)]
end
end Go.SE
end
section
namespace Go.SE
open Go.Instr
structure CEnt (w:World) (m:Nat) (z:Int) (i:Nat) (es:List (Value×Value)):Prop where
 ex:∃arr clock,w.heap[m]?=some (.map arr clock)∧arr.toList.map (fun e=>(e.key,e.val))=es∧arr.toList.Pairwise (fun a b=>a.born<b.born)∧(∀e∈arr.toList,e.born<clock)∧∃e,arr.toList[i]?=some e∧(e.born:Int)=z
theorem CEnt.ext {F:Nat→Prop} {w w':World} {m:Nat} {z:Int} {i:Nat} {es:List (Value×Value)} (h:CEnt w m z i es) (hE:Ext F w w') (hf:¬ F m):CEnt w' m z i es:=by
 obtain ⟨arr,clock,hm,r⟩:=h.ex;exact ⟨arr,clock,hE.heap hm hf,r⟩
section
variable {P:Program} {T K E:TypeId} {S:Value→Prop} {w:World} {m:Nat} {es:List (Value×Value)}
theorem CEnt.store {z:Int} {i:Nat} (h:CEnt w m z i es) {k v0 v:Value} (hi:es[i]?=some (k,v0)) :
  ∃w',(Instr.entryStore T (.map (some m)) (.int .i64 z) v).run P w=.ok () w'∧CMap w' m (es.set i (k,v))∧Ext (·=m) w w':=by
 obtain ⟨arr,clock,hm,rfl,hp,hb,e,he,rfl⟩:=h.ex
 have hg:(getObj m).run P w=.ok (.map arr clock) w:=by simp [getObj,Sem.run,hm]
 have hlt:=yO hm
 obtain ⟨hja,hje⟩:=List.getElem?_eq_some_iff.1 he
 have hja':i<arr.size:=by simpa using hja
 have hje':arr[i]?=some e:=by simpa using he
 have hje2:arr[i]=e:=by simpa using hje
 have hke:e.key=k:=by
  rw [List.getElem?_map,he] at hi;have:=Option.some.inj hi;exact congrArg Prod.fst this
 have hfi:arr.findIdx? (fun e'=>(e'.born:Int) == (e.born:Int))=some i:=by
  rw [Array.findIdx?_eq_some_iff_getElem];refine ⟨hja',by simp [hje2],fun j hj=>?_⟩;have:=List.pairwise_iff_getElem.1 hp j i (by simp;omega) (by simpa using hja') hj;simp only [Array.getElem_toList,hje2] at this;simp only [beq_iff_eq];omega
 have hl:(arr.modify i fun e=>{ e with val:=v }).toList=arr.toList.set i { e with val:=v }:=by
  rw [Array.toList_modify];apply List.ext_getElem?;intro n;rw [List.getElem?_modify,List.getElem?_set];by_cases hn:i=n
  ·subst hn;simp [hja',hje2]
  ·simp [hn]
 have hpw:(arr.toList.map (·.born)).Pairwise (·<·):=List.pairwise_map.2 hp
 have hborn:(arr.toList.set i { e with val:=v }).map (·.born)=arr.toList.map (·.born):=by
  rw [List.map_set];apply List.ext_getElem?;intro n;rw [List.getElem?_set];by_cases hn:i=n
  ·subst hn;simp [hja',hje2]
  ·simp [hn]
 refine ⟨{ w with heap:=w.heap.setIfInBounds m (.map (arr.modify i fun e=>{ e with val:=v }) clock) },?_,⟨arr.modify i fun e=>{ e with val:=v },clock,by simp [hlt],?_,?_,?_⟩,⟨rfl,rfl,rfl,(by first | exact Nat.le_refl _ | exact Nat.le_succ _),by simp,fun b _ hf=>by simp [Array.getElem?_setIfInBounds_ne (Ne.symm hf)]⟩⟩
 ·simp [Instr.entryStore,hg,asInt,asIntOf,hfi,setObj,Sem.run,hm]
 ·rw [hl,List.map_set,hke]
 ·rw [hl];exact List.pairwise_map.1 (by rw [hborn];exact hpw)
 ·rw [hl];intro e' he'
  have:e'.born∈arr.toList.map (·.born):=by rw [← hborn];exact List.mem_map.2 ⟨e',he',rfl⟩
  obtain ⟨e'',h1,h2⟩:=List.mem_map.1 this
  rw [← h2];exact hb e'' h1
end
end Go.SE
end
section
namespace Go.SE
abbrev HBx:=Addr×List Value×TypeId
def isCl:Obj→Bool
 | .cells ..=>true
 | _=>false
structure HBZ (Z:List (Nat×Obj)) (H:Nat→Prop) (w:World) (l:List HBx):Prop where
 box:∀x∈l,Box w x.1 x.2.1 x.2.2
 hid:∀x∈l,H x.1.block
 ne:l.Pairwise (fun x y=>x.1.block≠y.1.block)
 fz:∀x∈Z,H x.1∧w.heap[x.1]?=some x.2∧isCl x.2=false
abbrev HB (H:Nat→Prop) (w:World) (l:List HBx):Prop:=HBZ [] H w l
structure Hst (w0:World) (H:Nat→Prop) (w:World) (H':Nat→Prop) (w':World):Prop where
 ext:Ext H' w w'
 sub:∀b,H b→H' b
 new:∀b,H' b→H b∨w.heap.size≤b
 old:∀b,H' b→w0.heap.size≤b
 lt:∀b,H' b→b<w'.heap.size
 base:w0.heap.size≤w'.heap.size
structure Kept (H:Nat→Prop) (w w':World):Prop where
 size:w.heap.size≤w'.heap.size
 keep:∀b,b<w.heap.size→H b→w'.heap[b]?=w.heap[b]?
theorem Ext.kept {F H:Nat→Prop} {w w':World} (h:Ext F w w') (hd:∀b,H b→¬ F b):Kept H w w':=⟨h.size,fun b hb hH=>h.keep b hb (hd b hH)⟩
theorem Ext.keptP {H:Nat→Prop} {w w':World} (h:Pure w w'):Kept H w w':=h.kept (fun _ _ h=>h)
theorem Kept.refl {H:Nat→Prop} (w:World):Kept H w w:=⟨Nat.le_refl _,fun _ _ _=>rfl⟩
section
variable {w0 w w1 w2 wv:World} {H H1 H2 Hv:Nat→Prop} {Z:List (Nat×Obj)} {l l':List HBx}
theorem Hst.start (w0:World):Hst w0 None w0 None w0:=⟨Ext.refl _,fun _ h=>h,fun _ h=>.inl h,fun _ h=>h.elim,fun _ h=>h.elim,Nat.le_refl _⟩
theorem HB.nil (H:Nat→Prop) (w:World):HB H w []:=⟨fun _ h=>(by cases h),fun _ h=>(by cases h),List.Pairwise.nil,fun _ h=>(by cases h)⟩
theorem Hst.here (h:Hst w0 Hv wv H w):Hst w0 H w H w:=⟨Ext.refl _,fun _ h=>h,fun _ h=>.inl h,h.old,h.lt,h.base⟩
theorem Hst.again (h:Hst w0 Hv wv H w) (hk:Kept H w w1):Hst w0 H w1 H w1 :=
 ⟨Ext.refl _,fun _ h=>h,fun _ h=>.inl h,h.old,fun b hb=>Nat.lt_of_lt_of_le (h.lt b hb) hk.size,Nat.le_trans h.base hk.size⟩
theorem Hst.trans (h:Hst w0 Hv wv H w) (k:Hst w0 H w H1 w1):Hst w0 Hv wv H1 w1 :=
 ⟨(h.ext.mono (fun b _ hb=>k.sub b hb)).trans k.ext,fun b hb=>k.sub b (h.sub b hb),fun b hb=>(k.new b hb).elim (fun hb=>h.new b hb) (fun hb=>.inr (Nat.le_trans h.ext.size hb)),k.old,k.lt,k.base⟩
theorem Hst.pure (h:Hst w0 Hv wv H w) (E:Pure w w1):Hst w0 Hv wv H w1 :=
 ⟨h.ext.thenPure E,h.sub,h.new,h.old,fun b hb=>Nat.lt_of_lt_of_le (h.lt b hb) E.size,Nat.le_trans h.base E.size⟩
theorem Hst.drew (h:Hst w0 Hv wv H w):Hst w0 Hv wv H w.drew:=h.pure (Ext.drew w)
theorem HBZ.kept (hb:HBZ Z H w l) (hk:Kept H w w1):HBZ Z H w1 l :=
 ⟨fun x hx=>⟨(hb.box x hx).addr,by rw [hk.keep _ (hb.box x hx).lt (hb.hid x hx)];exact (hb.box x hx).blk⟩,hb.hid,hb.ne,fun x hx=>⟨(hb.fz x hx).1,by rw [hk.keep _ (yO (hb.fz x hx).2.1) (hb.fz x hx).1];exact (hb.fz x hx).2.1,(hb.fz x hx).2.2⟩⟩
theorem HBZ.pure (hb:HBZ Z H w l) (E:Pure w w1):HBZ Z H w1 l:=hb.kept E.keptP
theorem HBZ.drew (hb:HBZ Z H w l):HBZ Z H w.drew l:=hb.pure (Ext.drew w)
theorem HBZ.sub (hb:HBZ Z H w l) (hl:l'.Sublist l):HBZ Z H w l':=⟨fun x hx=>hb.box x (hl.subset hx),fun x hx=>hb.hid x (hl.subset hx),hb.ne.sublist hl,hb.fz⟩
theorem Hst.alloc {c:List Value} {T:TypeId} {p:Addr} (h:Hst w0 Hv wv H w) (hb:HBZ Z H w l) (hn:New w (.cells c.toArray T) p w1):∃H1,Hst w0 Hv wv H1 w1∧HBZ Z H1 w1 ((p,c,T) :: l):=by
 have E:Pure w w1:=Ext.new hn;have hp:p.block=w.heap.size:=hn.at_size;have B:=Box.of_new hn;refine ⟨fun b=>H b∨b=p.block,⟨(h.ext.thenPure E).mono (fun b _ hb=>.inl hb),fun b hb=>.inl (h.sub b hb),?_,?_,?_,Nat.le_trans h.base E.size⟩,?_⟩
 ·rintro b (hb | rfl)
  ·exact h.new b hb
  ·right;rw [hp];exact h.ext.size
 ·rintro b (hb | rfl)
  ·exact h.old b hb
  ·rw [hp];exact h.base
 ·rintro b (hb | rfl)
  ·exact Nat.lt_of_lt_of_le (h.lt b hb) E.size
  ·exact B.lt
 ·have hb':=hb.pure E;refine ⟨?_,?_,?_,fun x hx=>⟨.inl (hb'.fz x hx).1,(hb'.fz x hx).2⟩⟩
  ·intro x hx;rcases List.mem_cons.1 hx with rfl | hx
   ·exact B
   ·exact hb'.box x hx
  ·intro x hx;rcases List.mem_cons.1 hx with rfl | hx
   ·exact .inr rfl
   ·exact .inl (hb'.hid x hx)
  ·refine List.pairwise_cons.2 ⟨fun x hx=>?_,hb'.ne⟩;have:=(hb.box x hx).lt;show p.block≠x.1.block;omega
theorem HBZ.at (hb:HBZ Z H w l) {i:Nat} {p:Addr} {c:List Value} {T:TypeId} (hi:l[i]?=some (p,c,T)):Box w p c T:=hb.box _ (List.mem_of_getElem? hi)
theorem HBZ.cell (hb:HBZ Z H w l) (i j:Nat) {p:Addr} {c:List Value} {T:TypeId} {v:Value} (hi:l[i]?=some (p,c,T)) (hv:c[j]?=some v):w.cell? (p.add j)=some v:=(hb.at hi).cell hv
theorem HBZ.cell0 (hb:HBZ Z H w l) (i:Nat) {p:Addr} {c:List Value} {T:TypeId} {v:Value} (hi:l[i]?=some (p,c,T)) (hv:c[0]?=some v):w.cell? p=some v:=by
 have:=hb.cell i 0 hi hv;simpa [Addr.add] using this
theorem HBZ.row (hb:HBZ Z H w l) (i j n:Nat) {p:Addr} {c vs:List Value} {T:TypeId} (hi:l[i]?=some (p,c,T)) (hv:(c.drop j).take n=vs):Row w (p.add j) vs:=by
 intro k hk;subst hv;have hlt:k<n∧j+k<c.length:=by simp at hk;omega
 rw [yS,List.getElem?_take,if_pos hlt.1,List.getElem?_drop,List.getElem?_eq_getElem hlt.2];exact (hb.at hi).cell (List.getElem?_eq_getElem hlt.2)
theorem HBZ.row0 (hb:HBZ Z H w l) (i n:Nat) {p:Addr} {c vs:List Value} {T:TypeId} (hi:l[i]?=some (p,c,T)) (hv:c.take n=vs):Row w p vs:=by
 intro k hk;subst hv;have hlt:k<n∧k<c.length:=by simp at hk;omega
 rw [List.getElem?_take,if_pos hlt.1,List.getElem?_eq_getElem hlt.2];exact (hb.at hi).cell (List.getElem?_eq_getElem hlt.2)
theorem HBZ.canW (hb:HBZ Z H w l) (i j:Nat) {p:Addr} {c:List Value} {T:TypeId} (hi:l[i]?=some (p,c,T)) (hj:decide (j<c.length)=true):jT w (p.add j):=(hb.at hi).canW (of_decide_eq_true hj)
theorem HBZ.canW0 (hb:HBZ Z H w l) (i:Nat) {p:Addr} {c:List Value} {T:TypeId} (hi:l[i]?=some (p,c,T)) (hj:decide (0<c.length)=true):jT w p:=(hb.at hi).canW0 (of_decide_eq_true hj)
theorem HBZ.canWs (hb:HBZ Z H w l) (i j n:Nat) {p:Addr} {c:List Value} {T:TypeId} (hi:l[i]?=some (p,c,T)) (hj:decide (j+n≤c.length)=true):∀k,k<n→jT w ((p.add j).add k):=fun k hk=>by
 rw [yS];exact (hb.at hi).canW (by have:=of_decide_eq_true hj;omega)
theorem HBZ.canWs0 (hb:HBZ Z H w l) (i n:Nat) {p:Addr} {c:List Value} {T:TypeId} (hi:l[i]?=some (p,c,T)) (hj:decide (n≤c.length)=true):∀k,k<n→jT w (p.add k):=fun k hk=>(hb.at hi).canW (by have:=of_decide_eq_true hj;omega)
theorem HBZ.put {i:Nat} {p:Addr} {c c':List Value} {T:TypeId} (hb:HBZ Z H w l) (h:Hst w0 Hv wv H w) (hi:l[i]?=some (p,c,T)) (hB:Box w1 p c' T) (hE:Ext (·=p.block) w w1) (hl:l.set i (p,c',T)=l'):Hst w0 Hv wv H w1∧HBZ Z H w1 l':=by
 have hmem:=List.mem_of_getElem? hi;refine ⟨⟨h.ext.trans' hE (fun b _ e=>by subst e;exact hb.hid _ hmem),h.sub,h.new,h.old,fun b hb=>Nat.lt_of_lt_of_le (h.lt b hb) hE.size,Nat.le_trans h.base hE.size⟩,?_⟩;subst hl;obtain ⟨hlt,hget⟩:=List.getElem?_eq_some_iff.1 hi;have hset:∀k x,(l.set i (p,c',T))[k]?=some x→(k=i∧x=(p,c',T))∨(k≠i∧l[k]?=some x):=by
  intro k x hx;rw [List.getElem?_set] at hx;by_cases hk:i=k
  ·subst hk;simp [hlt] at hx;exact .inl ⟨rfl,hx.symm⟩
  ·rw [if_neg hk] at hx;exact .inr ⟨fun e=>hk e.symm,hx⟩
 have hne:∀k x,k≠i→l[k]?=some x→x.1.block≠p.block:=by
  intro k x hk hx;obtain ⟨hk1,hk2⟩:=List.getElem?_eq_some_iff.1 hx;have hp:=List.pairwise_iff_getElem.1 hb.ne;rcases Nat.lt_or_gt_of_ne hk with h' | h'
  ·have:=hp k i hk1 hlt h';rw [hk2,hget] at this;exact this
  ·have:=hp i k hlt hk1 h';rw [hk2,hget] at this;exact fun e=>this e.symm
 refine ⟨?_,?_,?_,fun x hx=>⟨(hb.fz x hx).1,hE.heap (hb.fz x hx).2.1 (fun e=>?_),(hb.fz x hx).2.2⟩⟩
 ·intro x hx;obtain ⟨k,hk⟩:=List.getElem?_of_mem hx;rcases hset k x hk with ⟨_,rfl⟩ | ⟨hk',hx'⟩
  ·exact hB
  ·exact (hb.box x (List.mem_of_getElem? hx')).ext hE (hne k x hk' hx')
 ·intro x hx;obtain ⟨k,hk⟩:=List.getElem?_of_mem hx;rcases hset k x hk with ⟨_,rfl⟩ | ⟨hk',hx'⟩
  ·have:=hb.hid _ hmem;exact this
  ·exact hb.hid x (List.mem_of_getElem? hx')
 ·have e : (l.set i (p, c', T)).map (fun x => x.1.block) = l.map (fun x => x.1.block) := by
   rw [List.map_set];apply List.ext_getElem?;intro k;rw [List.getElem?_set];by_cases hk:i=k
   ·subst hk;simp [hlt,hget]
   ·simp [hk]
  have:=List.pairwise_map.2 hb.ne;exact List.pairwise_map.1 (e▸this)
 ·have h1:=(hb.box _ hmem).blk;have h2:=(hb.fz x hx).2;simp only at h1;rw [e,h1] at h2;have h3:=Option.some.inj h2.1;rw [← h3] at h2;cases h2.2
theorem HBZ.set {i:Nat} (j:Nat) {p:Addr} {c:List Value} {v:Value} {T:TypeId} (hb:HBZ Z H w l) (h:Hst w0 Hv wv H w) (hi:l[i]?=some (p,c,T)) (hl:l.set i (p,c.set j v,T)=l'):Hst w0 Hv wv H (w.setCell (p.add j) v)∧HBZ Z H (w.setCell (p.add j) v) l' :=
 hb.put h hi ((hb.at hi).set j v) (by have:=Ext.setCell (w:=w) (p.add j) v;rw [zA] at this;exact this) hl
theorem HBZ.set0 {i:Nat} {p:Addr} {c:List Value} {v:Value} {T:TypeId} (hb:HBZ Z H w l) (h:Hst w0 Hv wv H w) (hi:l[i]?=some (p,c,T)) (hl:l.set i (p,c.set 0 v,T)=l'):Hst w0 Hv wv H (w.setCell p v)∧HBZ Z H (w.setCell p v) l':=by
 have:=hb.set 0 (v:=v) h hi hl;simpa [Addr.add] using this
theorem HBZ.store {i:Nat} (j:Nat) {p:Addr} {c vs:List Value} {T:TypeId} (hb:HBZ Z H w l) (h:Hst w0 Hv wv H w) (hi:l[i]?=some (p,c,T)) (hj:decide (j+vs.length≤c.length)=true) (hl:l.set i (p,c.take j++vs++c.drop (j+vs.length),T)=l'):Hst w0 Hv wv H (storeRow w (p.add j) vs)∧HBZ Z H (storeRow w (p.add j) vs) l' :=
 hb.put h hi (by have:=Box.storeAt vs 0 j w c (hb.at hi) (by have:=of_decide_eq_true hj;omega);simpa [storeRow] using this) (by have:=Ext.storeRow w (p.add j) vs;rw [zA] at this;exact this) hl
theorem HBZ.store0 {i:Nat} {p:Addr} {c vs:List Value} {T:TypeId} (hb:HBZ Z H w l) (h:Hst w0 Hv wv H w) (hi:l[i]?=some (p,c,T)) (hj:decide (vs.length≤c.length)=true) (hl:l.set i (p,vs++c.drop vs.length,T)=l'):Hst w0 Hv wv H (storeRow w p vs)∧HBZ Z H (storeRow w p vs) l':=by
 have:=hb.store 0 (vs:=vs) h hi (by simpa using hj) (by simpa using hl);simpa [Addr.add] using this
theorem Ext.hst {F:Nat→Prop} (E:Ext F w0 w) (h:Hst w0 H w H1 w1):Ext F w0 w1:=E.trans' h.ext (fun b hb hF=>absurd (h.old b hF) (by omega))
theorem Hst.disj (h:Hst w0 H w H1 w1) {G:Nat→Prop} (hG:∀b,G b→b<w.heap.size∧¬ H b):∀b,G b→¬ H1 b:=fun b hb h1=>(h.new b h1).elim (hG b hb).2 (fun h2=>by have:=(hG b hb).1;omega)
end
end Go.SE
namespace Go.SE
section
variable {H:Nat→Prop} {w:World} {a:Addr}
theorem Kept.setCell {v:Value} (h:¬ H a.block):Kept H w (w.setCell a v):=(Ext.setCell a v).kept (fun b hb e=>h (e▸hb))
theorem Kept.storeRow {vs:List Value} (h:¬ H a.block):Kept H w (SE.storeRow w a vs):=(Ext.storeRow w a vs).kept (fun b hb e=>h (e▸hb))
theorem HBZ.drop {Z:List (Nat×Obj)} {l:List HBx} (hb:HBZ Z H w l) (n:Nat):HBZ Z H w (l.drop n):=hb.sub (List.drop_sublist n l)
theorem vJ {cx:Cx} {P:Program} {n:Nat} {c:Code} {Q:Exit→Env→World→Prop} {ρ:Env} (J:Env→World→Prop) (h:wpE (x:=cx) P n c (oR J (fun _ _ _=>False)) ρ w) (hJ:∀ρ w,J ρ w→Q .normal ρ w):wpE (x:=cx) P n c Q ρ w :=
 jBA (fun e ρ w hq=>by cases e <;> first | exact hJ _ _ hq | exact hq.elim) h
theorem kM {Q:Exit→Env→World→Prop} {ρ:Env} {l:List (Nat×Value)} (h:Has ρ l) (hg:Q .normal (jDO ρ l) w):Q .normal ρ w:=by rwa [lH h] at hg
end
end Go.SE
namespace Go.SE
theorem gZ {α:Type} {o:α} {l:List α}:(o :: l)[0]?=some o:=rfl
theorem gS {α:Type} {a o:α} {l:List α} {k:Nat} (h:l[k]?=some o):(a :: l)[k+1]?=some o:=by simpa using h
end Go.SE
end
section
namespace Go.SE
structure Own (H:Nat→Prop) (w:World) (e:TypeId) (sz:Nat) (s:Sl) (rs:List (List Value)):Prop where
 rows:Rws w e sz s rs
 vis:∀b,s.blk b→¬ H b
section
variable {w0 w w1 w2 wv:World} {H H1 Hv:Nat→Prop} {e:TypeId} {sz:Nat} {s:Sl} {rs:List (List Value)}
theorem Own.hst (h:Own H w e sz s rs) (hs:Hst w0 H w H1 w1):Own H1 w1 e sz s rs :=
 have hv:∀b,s.blk b→¬ H1 b:=hs.disj fun b hb=>⟨h.rows.lt hb,h.vis b hb⟩
 ⟨h.rows.ext hs.ext hv,hv⟩
theorem Own.pure (h:Own H w e sz s rs) (E:Pure w w1):Own H w1 e sz s rs:=⟨h.rows.pure E,h.vis⟩
theorem Own.ext {F:Nat→Prop} (h:Own H w e sz s rs) (E:Ext F w w1) (hd:∀b,s.blk b→¬ F b):Own H w1 e sz s rs:=⟨h.rows.ext E hd,h.vis⟩
theorem Own.nil (H:Nat→Prop) (w:World):Own H w e sz Sl.nil []:=⟨Rws.nil _ _ _,fun b h=>by obtain ⟨a,h,_⟩:=h;cases h⟩
theorem Own.len (h:Own H w e sz s rs):s.len=rs.length:=h.rows.len
theorem Rws.nth {α:Type} {f:α→List Value} {xs:List α} (h:Rws w e sz s (xs.map f)) {j:Nat} (hj:j<xs.length):∃a,At s j sz a∧Row w a (f xs[j]):=by
 obtain ⟨a,h1,h2,_⟩:=h.at (i:=j) (by omega) (by simpa using hj);exact ⟨a,h1,by simpa using h2⟩
theorem Own.nth {α:Type} {f:α→List Value} {xs:List α} (h:Own H w e sz s (xs.map f)) {j:Nat} (hj:j<xs.length):∃a,At s j sz a∧Row w a (f xs[j]):=h.rows.nth hj
theorem Lst.nth {S:Nat→Prop} {α:Type} {f:α→List Value} {xs:List α} (h:Lst S w sz s (xs.map f)) {j:Nat} (hj:j<xs.length):∃a,At s j sz a∧S a.block∧Row w a (f xs[j]):=by
 obtain ⟨a,h1,h2,h3⟩:=h.at_ j (by simpa using hj);exact ⟨a,h1,h2,by simpa using h3⟩
theorem jJS {a:Addr} {v:Value} (h:Row w a [v]):w.cell? a=some v:=by
 have:=h 0 (by simp);simpa [Addr.add] using this
theorem Lst.hst {S:Nat→Prop} (h:Lst S w sz s rs) (hs:Hst w0 H w H1 w1) (hd:∀b,S b→b<w0.heap.size):Lst S w1 sz s rs:=h.ext hs.ext (fun b hb h1=>by have:=hd b hb;have:=hs.old b h1;omega)
theorem Hst.first (h:Hst w0 None w0 H1 w1):Pure w0 w1:=(Ext.refl w0).hst h
theorem Own.append {P:Program} {t ty:TypeId} {bytes:Nat} (T:SlType P t e sz bytes) (h:Own H w e sz s rs) (hs:Hst w0 Hv wv H w) {p:Addr} {c:Nat} {r:List Value} (hr:Row w p r) (hl:r.length=sz) (h1:r.all kD=true) (hb:(rs.length+1)*bytes≤140737488355328) (hm:rs.length+1≤maxLen) :
  ∃s' w',(Builtin.append_ #[t,t] ty #[s.v,(Sl.mk (some p) 1 c).v]).run P w=.ok s'.v w'∧Own H w' e sz s' (rs++[r])∧Ext s.blk w w'∧Kept H w w'∧(∀b,s'.blk b→s.blk b∨w.heap.size≤b):=by
 obtain ⟨s',w',hr',hR,hE,hb'⟩:=h.rows.append T (ty:=ty) (c:=c) hr hl h1 hb hm
 exact ⟨s',w',hr',⟨hR,fun b hb=>(hb' b hb).elim (h.vis b) (fun hge hH=>by have:=hs.lt b hH;omega)⟩,hE,hE.kept (fun b hH hS=>h.vis b hS hH),hb'⟩
end
theorem kQ {j n:Nat} (h:j<n) (hn:n≤9223372036854775807):IntKind.i64.wrap ((j:Int)+1)=((j+1:Nat):Int):=by
 rw [IntWalk.i64_in _ (by omega)];omega
theorem jNV {j n:Nat} (h:j<n):((n:Int) - ((j+1:Nat):Int)).toNat<((n:Int) - (j:Int)).toNat:=by omega
theorem jCL {j n m:Nat} (hm:m=n) (h:decide ((j:Int)<(m:Int))=true):j<n:=by have h:=of_decide_eq_true h;omega
theorem jGZ {j n m:Nat} (hm:m=n) (hj:j≤n) (h:decide ((j:Int)<(m:Int))=false):j=n:=by have h:=of_decide_eq_false h;omega
end Go.SE
namespace Go.SE
theorem zC {cx:Cx} {P:Program} {n:Nat} {c:Code} {Q:Exit→Env→World→Prop} {ρ:Env} {w:World} {N:Env→World→Prop} (J:Env→World→Prop) (hy:∀ρ w,J ρ w→N ρ w) (h:wpE (x:=cx) P n c (oR J Q) ρ w):wpE (x:=cx) P n c (oR N Q) ρ w :=
 jBA (fun e ρ w hq=>by cases e <;> first | exact hy _ _ hq | exact hq) h
end Go.SE
namespace Go.SE
section
variable {w0 w w1:World} {H H1:Nat→Prop}
end
end Go.SE
namespace Go.SE
section
variable {P:Program} {t e:TypeId} {sz bytes:Nat}
end
end Go.SE
end
section
namespace Go.SE
open Go.Instr
section
variable {P:Program} {T K E:TypeId} {S:Value→Prop} {w:World} {m:Nat} {es:List (Value×Value)}
structure CntMap (w:World) (m:Nat) (ks:List Value) (B:Int):Prop where
 ex:∃es,CMap w m es∧es.map Prod.fst=ks∧∀p∈es,∃n,p.2=.int .i64 n∧1≤n∧n≤B
 nodup:ks.Nodup
theorem CntMap.ext {F:Nat→Prop} {w w':World} {m:Nat} {ks:List Value} {B:Int} (h:CntMap w m ks B) (hE:Ext F w w') (hf:¬ F m):CntMap w' m ks B :=
 ⟨let ⟨es,h1,h2⟩:=h.ex;⟨es,h1.ext hE hf,h2⟩,h.nodup⟩
theorem CntMap.lt {w:World} {m:Nat} {ks:List Value} {B:Int} (h:CntMap w m ks B):m<w.heap.size:=let ⟨_,h1,_⟩:=h.ex;h1.lt
theorem CntMap.of_new {w w':World} {p:Addr} (h:New w (.map #[] 0) p w') (B:Int):CntMap w' p.block [] B:=⟨⟨[],CMap.of_new h,rfl,by simp⟩,List.nodup_nil⟩
theorem CntMap.mono {w:World} {m:Nat} {ks:List Value} {B B':Int} (h:CntMap w m ks B) (hB:B≤B'):CntMap w m ks B' :=
 ⟨let ⟨es,h1,h2,h3⟩:=h.ex;⟨es,h1,h2,fun p hp=>let ⟨n,h4,h5,h6⟩:=h3 p hp;⟨n,h4,h5,by omega⟩⟩,h.nodup⟩
theorem CntMap.look {ks:List Value} {B:Int} (h:CntMap w m ks B) (hT:P.underlying T=some (.map K E)) (hK:KeyOK P K S) (hS:∀k∈ks,S k) {k:Value} (hk:S k) (hz:∀w,(zeroValue E).run P w=.ok (.int .i64 0) w) :
  ∃v,(Instr.lookup T (.map (some m)) k false).run P w=.ok (.int .i64 v) w∧((k∈ks∧1≤v∧v≤B)∨(k ∉ ks∧v=0)):=by
 obtain ⟨es,hM,rfl,hc⟩:=h.ex
 rcases hM.lookup hT hK (fun p hp=>hS _ (List.mem_map.2 ⟨p,hp,rfl⟩)) hk (hz w) false with ⟨hn,hr⟩ | ⟨i,v,hi,hr⟩
 ·refine ⟨0,hr,.inr ⟨fun hm=>?_,rfl⟩⟩
  obtain ⟨p,hp,rfl⟩:=List.mem_map.1 hm
  exact hn p hp rfl
 ·obtain ⟨n,rfl,h1,h2⟩:=hc _ (List.mem_of_getElem? hi)
  exact ⟨n,hr,.inl ⟨List.mem_map.2 ⟨_,List.mem_of_getElem? hi,rfl⟩,h1,h2⟩⟩
end
end Go.SE
end
section
namespace Go.SE
section
variable {P:Program} {ops:Array Oper} {Q:Env→World→Prop} {ρ:Env} {w:World} {rest:List Oper} {o:Oper}
theorem yD (d:Nat) {j:Nat} {c t:Bool} (hc:c=t) (hd:(ops[j]?).bind (·.dst)=some d:=by kernel_rfl) (hv:ρ d=.bool c:=by kernel_rfl):jL ops ρ j=some t:=yE hd hv hc
theorem q0 (v:Value) (h:wpL P ops Q rest (put ρ o.dst v) w) (hw:Region.wanted o (jL ops ρ)=true:=by kernel_rfl) (hr:(execOp (evE ρ) o).run P w=.ok (.value v) w:=by kernel_rfl):wpL P ops Q (o :: rest) ρ w:=stp hw hr h
theorem q1 (v:Value) (hw:Region.wanted o (jL ops ρ)=true) (h:wpL P ops Q rest (put ρ o.dst v) w) (hr:(execOp (evE ρ) o).run P w=.ok (.value v) w:=by kernel_rfl):wpL P ops Q (o :: rest) ρ w:=stp hw hr h
theorem q2 (v:Value) (hr:(execOp (evE ρ) o).run P w=.ok (.value v) w) (h:wpL P ops Q rest (put ρ o.dst v) w) (hw:Region.wanted o (jL ops ρ)=true:=by kernel_rfl):wpL P ops Q (o :: rest) ρ w:=stp hw hr h
variable {C:World→Prop} {loud free:Nat→Bool} {fuel:Nat} {listed:Array Bool}
theorem qx (k:Nat) (v:Value) (ho:ops[k]?=some o) (h:wpX P ops C loud free Q fuel (listed.setIfInBounds k true) (put ρ o.dst v) w) (hg:jRJ ops listed loud k=true:=by kernel_rfl) (hw:Region.wanted o (jL ops ρ)=true:=by kernel_rfl) (hl:loud k=false:=by kernel_rfl) (hr:∀w',(execOp (evE ρ) o).run P w'=.ok (.value v) w':=by intro _;kernel_rfl):wpX P ops C loud free Q (fuel+1) listed ρ w :=
 qgo hg (sx ho hw hl (fun w' _=>hr w') h)
theorem qw (k:Nat) (v:Value) (ho:ops[k]?=some o) (hw:Region.wanted o (jL ops ρ)=true) (h:wpX P ops C loud free Q fuel (listed.setIfInBounds k true) (put ρ o.dst v) w) (hg:jRJ ops listed loud k=true:=by kernel_rfl) (hl:loud k=false:=by kernel_rfl) (hr:∀w',(execOp (evE ρ) o).run P w'=.ok (.value v) w':=by intro _;kernel_rfl):wpX P ops C loud free Q (fuel+1) listed ρ w :=
 qgo hg (sx ho hw hl (fun w' _=>hr w') h)
theorem qz (k:Nat) (v:Value) (ho:ops[k]?=some o) (hr:∀w',C w'→(execOp (evE ρ) o).run P w'=.ok (.value v) w') (h:wpX P ops C loud free Q fuel (listed.setIfInBounds k true) (put ρ o.dst v) w) (hg:jRJ ops listed loud k=true:=by kernel_rfl) (hw:Region.wanted o (jL ops ρ)=true:=by kernel_rfl) (hl:loud k=false:=by kernel_rfl):wpX P ops C loud free Q (fuel+1) listed ρ w :=
 qgo hg (sx ho hw hl hr h)
theorem qn (k:Nat) (ho:ops[k]?=some o) (hw:Region.wanted o (jL ops ρ)=false) (h:wpX P ops C loud free Q fuel (listed.setIfInBounds k true) (put ρ o.dst undef) w) (hg:jRJ ops listed loud k=true:=by kernel_rfl):wpX P ops C loud free Q (fuel+1) listed ρ w :=
 qgo hg (jAL ho hw h)
theorem qq {W:World} (k:Nat) (v:Value) (ho:ops[k]?=some o) (h:wpX P ops (fun x=>x=W) loud free Q fuel (listed.setIfInBounds k true) (put ρ o.dst v) w) (hg:jRJ ops listed loud k=true:=by kernel_rfl) (hw:Region.wanted o (jL ops ρ)=true:=by kernel_rfl) (hl:loud k=false:=by kernel_rfl) (hr:(execOp (evE ρ) o).run P W=.ok (.value v) W:=by kernel_rfl):wpX P ops (fun x=>x=W) loud free Q (fuel+1) listed ρ w :=
 qgo hg (sxQ ho hw hl hr h)
theorem qr {W:World} (k:Nat) (v:Value) (ho:ops[k]?=some o) (hr:(execOp (evE ρ) o).run P W=.ok (.value v) W) (h:wpX P ops (fun x=>x=W) loud free Q fuel (listed.setIfInBounds k true) (put ρ o.dst v) w) (hg:jRJ ops listed loud k=true:=by kernel_rfl) (hw:Region.wanted o (jL ops ρ)=true:=by kernel_rfl) (hl:loud k=false:=by kernel_rfl):wpX P ops (fun x=>x=W) loud free Q (fuel+1) listed ρ w :=
 qgo hg (sxQ ho hw hl hr h)
end
section
variable {P:Program} {n:Nat} {Q:Exit→Env→World→Prop} {ρ:Env} {w:World}
theorem rg {cx:Cx} {id:Nat} {l:List Oper} (h:wpL P l.toArray (fun ρ w=>Q .normal ρ w) l ρ w) (hd:yQ n l=true:=by kernel_rfl):wpE (x:=cx) P n (.region id l.toArray false) Q ρ w:=jKO hd h
theorem ns {cx:Cx} {y:Code} {ρ:Env} {w:World} (h:wpE (x:=cx) P n y Q ρ w):oR (fun ρ w=>wpE (x:=cx) P n y Q ρ w) Q .normal ρ w:=h
end
section
variable {α:Type} {x0 x1 x2 x3 x4 x5 x6 x7 x8 x9 o:α} {l:List α}
theorem Kp0:(o :: l).toArray[0]?=some o:=rfl
theorem Kp1:(x0 :: o :: l).toArray[1]?=some o:=rfl
theorem Kp2:(x0 :: x1 :: o :: l).toArray[2]?=some o:=rfl
theorem Kp3:(x0 :: x1 :: x2 :: o :: l).toArray[3]?=some o:=rfl
theorem Kp4:(x0 :: x1 :: x2 :: x3 :: o :: l).toArray[4]?=some o:=rfl
theorem Kp5:(x0 :: x1 :: x2 :: x3 :: x4 :: o :: l).toArray[5]?=some o:=rfl
theorem Kp6:(x0 :: x1 :: x2 :: x3 :: x4 :: x5 :: o :: l).toArray[6]?=some o:=rfl
theorem Kp7:(x0 :: x1 :: x2 :: x3 :: x4 :: x5 :: x6 :: o :: l).toArray[7]?=some o:=rfl
theorem Kp8:(x0 :: x1 :: x2 :: x3 :: x4 :: x5 :: x6 :: x7 :: o :: l).toArray[8]?=some o:=rfl
theorem Kp9:(x0 :: x1 :: x2 :: x3 :: x4 :: x5 :: x6 :: x7 :: x8 :: o :: l).toArray[9]?=some o:=rfl
end
end Go.SE
end
section
namespace Go.SE
section
variable {α:Type} {a b c d e f g h o:α} {l:List α} {k:Nat}
theorem S4 (x:l[k]?=some o):(a :: b :: c :: d :: l)[k+4]?=some o:=by simpa using x
theorem S8 (x:l[k]?=some o):(a :: b :: c :: d :: e :: f :: g :: h :: l)[k+8]?=some o:=by simpa using x
end
section
variable {P:Program} {ε:Operand→Value} {w w':World} {d:Option Tmp} {ty:TypeId} {pos:String} {aft:Array Edge} {g:Option (Nat×Bool)}
theorem xl {T:TypeId} {x:Operand} {a:Addr} {v:Value} (hT:(isAgg T).run P w=.ok false w) (hc:w.cell? a=some v) (hx:ε x=.pointer (some a):=by kernel_rfl):(execOp ε ⟨d,.load T x,ty,pos,aft,g⟩).run P w=.ok (.value v) w:=yG hx hT hc
theorem xT {c x y:Operand} {b:Bool} {v:Value} (hb:b=true) (hc:ε c=.bool b:=by kernel_rfl) (hx:ε x=v:=by kernel_rfl):(execOp ε ⟨d,.pick c x y,ty,pos,aft,g⟩).run P w=.ok (.value v) w:=jSW hc hb hx
theorem xF {c x y:Operand} {b:Bool} {v:Value} (hb:b=false) (hc:ε c=.bool b:=by kernel_rfl) (hy:ε y=v:=by kernel_rfl):(execOp ε ⟨d,.pick c x y,ty,pos,aft,g⟩).run P w=.ok (.value v) w:=jSX hc hb hy
theorem xb {T:TypeId} {x:Operand} {cs:Array Value} (hc:(ε x).cells=cs:=by kernel_rfl):(execOp ε ⟨d,.box T x,ty,pos,aft,g⟩).run P w=.ok (.value (.pointer (some ⟨w.heap.size,0,none⟩))) (w.alloc (.cells cs T)):=jSZ hc
theorem xs {T:TypeId} {x y:Operand} {a:Addr} {v:Value} (hs:(sizeOf T).run P w=.ok 1 w) (hc:jT w a) (hx:ε x=.pointer (some a):=by kernel_rfl) (hy:ε y=v:=by kernel_rfl) (h1:kD v=true:=by rfl):(execOp ε ⟨d,.store T x y,ty,pos,aft,g⟩).run P w=.ok .skip (w.setCell a v):=qV hx hy h1 hs hc
end
section
variable {P:Program} {ρ:Env} {w w':World} {ty:TypeId} {pos:String} {aft:Array Edge} {g:Option (Nat×Bool)} {d:Option Tmp}
theorem xc {f:FuncId} {c:List Operand} {ts:Array TypeId} {args:Array Value} (hf:∀args w,(callFunc f args).run P w=.ok (.enter f args) w) (ha:(c.map (evE ρ)).toArray=args:=by kernel_rfl) :
  (execOp (evE ρ) ⟨d,.call ⟨.value (.func f),c.toArray,ts⟩,ty,pos,aft,g⟩).run P w=.ok (.enter f args) w:=jHQ hf ha
end
section
variable {P:Program} {ops:Array Oper} {Q:Env→World→Prop} {ρ:Env} {w w':World} {rest:List Oper} {o:Oper} {v:Value}
theorem sn {O:Obj} (hr:(execOp (evE ρ) o).run P w=.ok (.value (.pointer (some ⟨w.heap.size,0,none⟩))) (w.alloc O)) (h:∀p w',New w O p w'→wpL P ops Q rest (put ρ o.dst (.pointer (some p))) w') (hw:Region.wanted o (jL ops ρ)=true:=by kernel_rfl):wpL P ops Q (o :: rest) ρ w:=uL (fun p=>.pointer (some p)) hw hr h
end
section
variable {H:Nat→Prop} {w:World} {l:List HBx}
theorem HBZ.c {Z:List (Nat×Obj)} (hb:HBZ Z H w l) (i j:Nat) {p:Addr} {c:List Value} {T:TypeId} {v:Value} (hi:l[i]?=some (p,c,T)) (hv:c[j]?=some v:=by kernel_rfl):w.cell? (p.add j)=some v:=hb.cell i j hi hv
theorem HBZ.c0 {Z:List (Nat×Obj)} (hb:HBZ Z H w l) (i:Nat) {p:Addr} {c:List Value} {T:TypeId} {v:Value} (hi:l[i]?=some (p,c,T)) (hv:c[0]?=some v:=by kernel_rfl):w.cell? p=some v:=hb.cell0 i hi hv
end
abbrev vi (n:Int):Value:=.int .i64 n
abbrev vu (n:Int):Value:=.int .u64 n
abbrev vs (n:ByteArray):Value:=.string n
abbrev vb (n:Bool):Value:=.bool n
abbrev vp (n:Option Addr):Value:=.pointer n
end Go.SE
namespace Go.SE
theorem Kept.hh {w0 wv w w1:World} {Hv H:Nat→Prop} {Z:List (Nat×Obj)} {l:List HBx} (hk:Kept H w w1) (hs:Hst w0 Hv wv H w) (hb:HBZ Z H w l):Hst w0 H w1 H w1∧HBZ Z H w1 l:=⟨hs.again hk,hb.kept hk⟩
end Go.SE
namespace Go.SE
section
variable {P:Program} {ops:Array Oper} {C:World→Prop} {loud free:Nat→Bool} {K:Env→World→Prop} {ρ:Env} {w w' W:World} {o:Oper} {v:Value} {k:Nat}
theorem sy (ho:ops[k]?=some o) (hr:∀w',C w'→(execOp (evE ρ) o).run P w'=.ok (.value v) w') (h:K (put ρ o.dst v) w) (hw:Region.wanted o (jL ops ρ)=true:=by kernel_rfl) (hl:loud k=false:=by kernel_rfl):opE P ops C loud free k K ρ w:=sx ho hw hl hr h
theorem sz (ho:ops[k]?=some o) (hw:Region.wanted o (jL ops ρ)=true) (hr:∀w',C w'→(execOp (evE ρ) o).run P w'=.ok (.value v) w') (h:K (put ρ o.dst v) w) (hl:loud k=false:=by kernel_rfl):opE P ops C loud free k K ρ w:=sx ho hw hl hr h
theorem sye (ho:ops[k]?=some o) (hr:(execOp (evE ρ) o).run P w=.ok (.value v) w) (h:K (put ρ o.dst v) w) (hw:Region.wanted o (jL ops ρ)=true:=by kernel_rfl) (hl:loud k=false:=by kernel_rfl) (he:xY .any ops loud k=true:=by kernel_rfl):opE P ops C loud free k K ρ w:=sxe ho hw hl he hr h
theorem sze (ho:ops[k]?=some o) (hw:Region.wanted o (jL ops ρ)=true) (hr:(execOp (evE ρ) o).run P w=.ok (.value v) w) (h:K (put ρ o.dst v) w) (hl:loud k=false:=by kernel_rfl) (he:xY .any ops loud k=true:=by kernel_rfl):opE P ops C loud free k K ρ w:=sxe ho hw hl he hr h
theorem sl_t (ho:ops[k]?=some o) (hr:(execOp (evE ρ) o).run P w=.ok .skip W) (h:∀w',w'=W→(free k=true∨C w')∧K (put ρ o.dst undef) w') (hw:Region.wanted o (jL ops ρ)=true:=by kernel_rfl) (hl:loud k=true:=by kernel_rfl):opE P ops C loud free k K ρ w:=yZ ho hw hl hr h
variable {Q:Env→World→Prop} {fuel:Nat} {listed:Array Bool}
theorem qg (k:Nat) (h:opE P ops C loud free k (wpX P ops C loud free Q fuel (listed.setIfInBounds k true)) ρ w) (hg:jRJ ops listed loud k=true:=by kernel_rfl):wpX P ops C loud free Q (fuel+1) listed ρ w:=qgo hg h
theorem lg (k:Nat) (h:opE P ops C loud free k (wpX P ops C loud free Q fuel (listed.setIfInBounds k true)) ρ w) (hr:Region.ready .any ops listed=[k]:=by kernel_rfl):wpX P ops C loud free Q (fuel+1) listed ρ w:=lgo hr h
variable {ε:Operand→Value} {d:Option Tmp} {ty:TypeId} {pos:String} {aft:Array Edge} {g:Option (Nat×Bool)}
theorem xi {T E:TypeId} {x ix:Operand} {s:Sl} {i:Int} {n:Nat} {a:Addr} (hT:(underlying T).run P w=.ok (.slice E) w) (hs:(sizeOf E).run P w=.ok n w) (ha:At s i n a) (hx:ε x=s.v:=by kernel_rfl) (hi:ε ix=.int .i64 i:=by kernel_rfl):(execOp ε ⟨d,.indexAddr T x ix,ty,pos,aft,g⟩).run P w=.ok (.value (.pointer (some a))) w:=jBN hx hi hT hs ha
theorem hm {l:List (Nat×Value)} (h:l.map (fun p=>ρ p.1)=l.map (·.2):=by kernel_rfl):Has ρ l:=Has.mk h
theorem wn {Q:Env→World→Prop} {listed:Array Bool} (h:Q ρ w) (h0:Region.ready .any ops listed=[]:=by kernel_rfl):wpX P ops C loud free Q 0 listed ρ w:=jTA h0 h
theorem sm {rest:List Oper} (h:wpL P ops Q rest (put ρ o.dst undef) w) (hw:Region.wanted o (jL ops ρ)=false:=by kernel_rfl):wpL P ops Q (o :: rest) ρ w:=jSH hw h
theorem sc {rest:List Oper} {f:FuncId} {c:List Operand} {ts:Array TypeId} {args:Array Value} (hf:∀args w,(callFunc f args).run P w=.ok (.enter f args) w) (h:Calls P f args w fun e w''=>∃v,e=.returned v∧wpL P ops Q rest (put ρ d v) w'') (hw:Region.wanted ⟨d,.call ⟨.value (.func f),c.toArray,ts⟩,ty,pos,aft,g⟩ (jL ops ρ)=true:=by kernel_rfl) (ha:(c.map (evE ρ)).toArray=args:=by kernel_rfl) :
  wpL P ops Q (⟨d,.call ⟨.value (.func f),c.toArray,ts⟩,ty,pos,aft,g⟩ :: rest) ρ w:=vK hw (jHQ hf ha) h
theorem cw {n:Nat} {f:FuncId} {fn:Func} {c:Code} {args:List Value} {R:Ending→World→Prop} (hf:P.funcs[f]?=some fn) (hn:fn.ntmps=n) (h:wpE (x:=⟨none,[]⟩) P n c (jDA P fn n R) (jFD args) w) (hb:fn.body=some c:=by exact rfl) (hl:args.length≤n:=by exact Nat.le_of_ble_eq_true rfl):Calls P f args.toArray w R:=jAT hf hb hn hl h
theorem rs1 {n:Nat} {fn:Func} {t:Nat} {v:Value} {R:Ending→World→Prop} {e:Exit} (hr:fn.results=#[.tmp t]) (h:R (.returned v) w) (hv:ρ t=v:=by kernel_rfl) (he:e=.ret∨e=.normal:=by exact .inl rfl):jDA P fn n R e ρ w:=res1 he hr hv h
end
end Go.SE
namespace Go.SE
theorem Kept.sc {H:Nat→Prop} {w w':World} {a:Addr} {v:Value} (h:¬ H a.block) (e:w'=w.setCell a v):Kept H w w':=by rw [e];exact Kept.setCell h
end Go.SE
namespace Go.SE
section
variable {P:Program} {n:Nat} {Q:Exit→Env→World→Prop} {ρ:Env} {w:World}
theorem ln {ops:Array Oper} {next:Env→World→Prop} (h:next ρ w):wpL P ops (fun ρ w=>oR next Q .normal ρ w) [] ρ w:=h
theorem eg {cx:Cx} {id:Nat} {l:List Oper} {y:Code} (h:wpL P l.toArray (fun ρ w=>oR (fun ρ w=>wpE (x:=cx) P n y Q ρ w) Q .normal ρ w) l ρ w) (hd:yQ n l=true:=by kernel_rfl):wpE (x:=cx) P n (.seq (.region id l.toArray false) y) Q ρ w:=jA (rg h hd)
theorem er {x:Cx} (h:Q .ret ρ w):wpE (x:=x) P n .ret Q ρ w:=jMN h
theorem wy {ops:Array Oper} {o:Oper} (d:Nat) {j:Nat} {c t:Bool} (hc:c=t) (hg:o.guard=some (j,t):=by rfl) (hd:(ops[j]?).bind (·.dst)=some d:=by kernel_rfl) (hv:ρ d=.bool c:=by kernel_rfl):Region.wanted o (jL ops ρ)=true:=jTB hg (yE hd hv hc)
variable {ε:Operand→Value} {w':World} {d:Option Tmp} {ty:TypeId} {pos:String} {aft:Array Edge} {g:Option (Nat×Bool)}
theorem xo {T:TypeId} {x y:Operand} {n:Nat} (a:Addr) (vs:List Value) (hs:(sizeOf T).run P w=.ok n w) (hc:∀j,j<vs.length→jT w (a.add j)) (hx:ε x=.pointer (some a):=by kernel_rfl) (hy:ε y=.agg vs.toArray:=by kernel_rfl) (h1:vs.all kD=true:=by rfl) (hn:vs.length=n:=by rfl) :
  (execOp ε ⟨d,.store T x y,ty,pos,aft,g⟩).run P w=.ok .skip (storeRow w a vs):=lC hx hy h1 hs hn hc
theorem xa {T:TypeId} {x:Operand} {n:Nat} (a:Addr) (vs:List Value) (hT:(isAgg T).run P w=.ok true w) (hs:(sizeOf T).run P w=.ok n w) (hc:Row w a vs) (hx:ε x=.pointer (some a):=by kernel_rfl) (hn:vs.length=n:=by rfl) :
  (execOp ε ⟨d,.load T x,ty,pos,aft,g⟩).run P w=.ok (.value (.agg vs.toArray)) w:=jML hx hT hs hn hc
theorem rva {a:Nat} {A:Addr} {T:TypeId} {vs:List Value} {k:Nat} (hT:(isAgg T).run P w=.ok true w) (hs:(sizeOf T).run P w=.ok k w) (hc:Row w A vs) (ha:ρ a=.pointer (some A):=by kernel_rfl) (hn:vs.length=k:=by rfl):RV P ρ w (.cell a T) (.agg vs.toArray):=RV.cellA ha hT hs hn hc
end
section
variable {H Hv:Nat→Prop} {w0 wv w w':World} {l l':List HBx} {Z:List (Nat×Obj)} {p:Addr} {c vs:List Value} {T:TypeId}
theorem HBZ.r0 (hb:HBZ Z H w l) (i n:Nat) (hi:l[i]?=some (p,c,T)) (hv:c.take n=vs:=by kernel_rfl):Row w p vs:=hb.row0 i n hi hv
theorem HBZ.k0 (hb:HBZ Z H w l) (i n:Nat) (hi:l[i]?=some (p,c,T)) (hj:decide (n≤c.length)=true:=by kernel_rfl):∀k,k<n→jT w (p.add k):=hb.canWs0 i n hi hj
theorem HBZ.s0 (hb:HBZ Z H w l) (i:Nat) (vs:List Value) (h:Hst w0 Hv wv H w) (hw:w'=storeRow w p vs) (hi:l[i]?=some (p,c,T)) (hj:decide (vs.length≤c.length)=true:=by kernel_rfl) (hl:l.set i (p,vs++c.drop vs.length,T)=l':=by kernel_rfl):Hst w0 Hv wv H w'∧HBZ Z H w' l':=by
 subst hw;exact hb.store0 h hi hj hl
end
end Go.SE
namespace Go.SE
abbrev ve:Value:=.string ⟨#[]⟩
theorem bte (b:Bool):b=true∨b=false:=Bool.eq_false_or_eq_true b
section
variable {P:Program} {ops:Array Oper} {Q:Env→World→Prop} {C:World→Prop} {loud free:Nat→Bool} {K:Env→World→Prop} {ρ:Env} {w:World} {k:Nat} {d:Option Tmp} {ty:TypeId} {pos:String} {aft:Array Edge} {g:Option (Nat×Bool)}
theorem slc {f:FuncId} {c:List Operand} {ts:Array TypeId} {args:Array Value} (ho:ops[k]?=some ⟨d,.call ⟨.value (.func f),c.toArray,ts⟩,ty,pos,aft,g⟩) (hf:∀args w,(callFunc f args).run P w=.ok (.enter f args) w) (h:Calls P f args w fun e w''=>∃v,e=.returned v∧(free k=true∨C w'')∧K (put ρ d v) w'') (hg:g=none:=by rfl) (hl:loud k=true:=by kernel_rfl) (ha:(c.map (evE ρ)).toArray=args:=by kernel_rfl):opE P ops C loud free k K ρ w:=jHY ho (jK hg) hl (jHQ hf ha) h
theorem ss {rest:List Oper} {o:Oper} {W:World} (hr:(execOp (evE ρ) o).run P w=.ok .skip W) (h:∀w',w'=W→wpL P ops Q rest (put ρ o.dst undef) w') (hg:o.guard=none:=by rfl):wpL P ops Q (o :: rest) ρ w:=qG (jK hg) hr h
variable {ε:Operand→Value}
theorem xn {x:Operand} {p:Option Addr} {a:Addr} (hp:p=some a) (hx:ε x=.pointer p:=by kernel_rfl):(execOp ε ⟨d,.nilCheck x,ty,pos,aft,g⟩).run P w=.ok (.value (.pointer (some a))) w:=jDJ hx hp
end
end Go.SE
namespace Go.SE
def rv:Result Next→Value
 | .ok (.value v) _=>v
 | _=>undef
def sv (P:Program) (o:Oper) (ρ:Env) (w:World):Env:=put ρ o.dst (rv ((execOp (evE ρ) o).run P w))
def isv:Result Next→Bool
 | .ok (.value _) _=>true
 | _=>false
def wof (w:World):Result Next→World
 | .ok _ w'=>w'
 | _=>w
theorem jSI {r:Result Next} {w w0:World} (h:isv r=true) (hw:wof w0 r=w):r=.ok (.value (rv r)) w:=by
 cases r with
 | ok a w' =>
  cases a with
  | value v=>simp [rv,wof] at hw ⊢;exact hw
  | _=>simp [isv] at h
 | _=>simp [isv] at h
def okl (P:Program) (ops:Array Oper) (o:Oper) (ρ:Env) (w:World):Bool×World:=(Region.wanted o (jL ops ρ) && isv ((execOp (evE ρ) o).run P w),wof w ((execOp (evE ρ) o).run P w))
theorem okq {P:Program} {ops:Array Oper} {o:Oper} {ρ:Env} {w:World} (h:okl P ops o ρ w=(true,w)):Region.wanted o (jL ops ρ)=true∧(execOp (evE ρ) o).run P w=.ok (.value (rv ((execOp (evE ρ) o).run P w))) w:=by
 have h1:=congrArg Prod.fst h;have h2:=congrArg Prod.snd h;simp only [okl,Bool.and_eq_true] at h1 h2;exact ⟨h1.1,jSI h1.2 h2⟩
def okv (P:Program) (o:Oper) (ρ:Env) (w:World):Bool×World:=(isv ((execOp (evE ρ) o).run P w),wof w ((execOp (evE ρ) o).run P w))
theorem okw {P:Program} {o:Oper} {ρ:Env} {w:World} (h:okv P o ρ w=(true,w)):(execOp (evE ρ) o).run P w=.ok (.value (rv ((execOp (evE ρ) o).run P w))) w:=jSI (congrArg Prod.fst h) (congrArg Prod.snd h)
section
variable {P:Program} {ops:Array Oper} {Q:Env→World→Prop} {ρ:Env} {w:World} {rest:List Oper} {o o1 o2 o3 o4 o5:Oper}
theorem q (h:wpL P ops Q rest (sv P o ρ w) w) (h0:okl P ops o ρ w=(true,w):=by kernel_rfl):wpL P ops Q (o :: rest) ρ w:=stp (okq h0).1 (okq h0).2 h
theorem qb (h:wpL P ops Q rest (sv P o1 (sv P o ρ w) w) w) (h0:okl P ops o ρ w=(true,w):=by kernel_rfl) (h1:okl P ops o1 (sv P o ρ w) w=(true,w):=by kernel_rfl):wpL P ops Q (o :: o1 :: rest) ρ w:=q (q h h1) h0
theorem qc (h:wpL P ops Q rest (sv P o2 (sv P o1 (sv P o ρ w) w) w) w) (h0:okl P ops o ρ w=(true,w):=by kernel_rfl) (h1:okl P ops o1 (sv P o ρ w) w=(true,w):=by kernel_rfl) (h2:okl P ops o2 (sv P o1 (sv P o ρ w) w) w=(true,w):=by kernel_rfl):wpL P ops Q (o :: o1 :: o2 :: rest) ρ w:=q (q (q h h2) h1) h0
theorem qd (h:wpL P ops Q rest (sv P o3 (sv P o2 (sv P o1 (sv P o ρ w) w) w) w) w) (h0:okl P ops o ρ w=(true,w):=by kernel_rfl) (h1:okl P ops o1 (sv P o ρ w) w=(true,w):=by kernel_rfl) (h2:okl P ops o2 (sv P o1 (sv P o ρ w) w) w=(true,w):=by kernel_rfl) (h3:okl P ops o3 (sv P o2 (sv P o1 (sv P o ρ w) w) w) w=(true,w):=by kernel_rfl):wpL P ops Q (o :: o1 :: o2 :: o3 :: rest) ρ w:=qb (qb h h2 h3) h0 h1
theorem qk (d:Nat) {j:Nat} {c t:Bool} (hc:c=t) (h:wpL P ops Q rest (sv P o ρ w) w) (hg:o.guard=some (j,t):=by rfl) (hd:(ops[j]?).bind (·.dst)=some d:=by kernel_rfl) (hv:ρ d=.bool c:=by kernel_rfl) (hr:okv P o ρ w=(true,w):=by kernel_rfl):wpL P ops Q (o :: rest) ρ w:=stp (jTB hg (yE hd hv hc)) (okw hr) h
theorem stq {v:Value} (hw:Region.wanted o (jL ops ρ)=true) (hr:(execOp (evE ρ) o).run P w=.ok (.value v) w) (h:wpL P ops Q rest (put ρ o.dst v) w):wpL P ops Q (o :: rest) ρ w:=Go.SE.stp hw hr h
theorem q3 {v:Value} (hr:(execOp (evE ρ) o).run P w=.ok (.value v) w) (h:wpL P ops Q rest (put ρ o.dst v) w) (hw:Region.wanted o (jL ops ρ)=true:=by kernel_rfl):wpL P ops Q (o :: rest) ρ w:=stp hw hr h
theorem q4 {v:Value} (d:Nat) {j:Nat} {c t:Bool} (hc:c=t) (hr:(execOp (evE ρ) o).run P w=.ok (.value v) w) (h:wpL P ops Q rest (put ρ o.dst v) w) (hg:o.guard=some (j,t):=by rfl) (hd:(ops[j]?).bind (·.dst)=some d:=by kernel_rfl) (hv:ρ d=.bool c:=by kernel_rfl):wpL P ops Q (o :: rest) ρ w:=stp (jTB hg (yE hd hv hc)) hr h
theorem sj (d:Nat) {j:Nat} {c t u:Bool} (hc:c=u) (h:wpL P ops Q rest (put ρ o.dst undef) w) (hg:o.guard=some (j,t):=by rfl) (hne:(u == t)=false:=by rfl) (hd:(ops[j]?).bind (·.dst)=some d:=by kernel_rfl) (hv:ρ d=.bool c:=by kernel_rfl):wpL P ops Q (o :: rest) ρ w:=jSH (jX hg (yE hd hv hc) hne) h
theorem sj2 (d:Nat) {j0 j1:Nat} {c u t0 t1:Bool} (hc:c=u) (h:wpL P ops Q rest (put (put ρ o.dst undef) o1.dst undef) w) (g0:o.guard=some (j0,t0):=by rfl) (n0:(u == t0)=false:=by rfl) (d0:(ops[j0]?).bind (·.dst)=some d:=by kernel_rfl) (v0:ρ d=.bool c:=by kernel_rfl) (g1:o1.guard=some (j1,t1):=by rfl) (n1:(u == t1)=false:=by rfl) (d1:(ops[j1]?).bind (·.dst)=some d:=by kernel_rfl) (v1:(put ρ o.dst undef) d=.bool c:=by kernel_rfl):wpL P ops Q (o :: o1 :: rest) ρ w:=sj d hc (sj d hc (h) g1 n1 d1 v1) g0 n0 d0 v0
theorem sj3 (d:Nat) {j0 j1 j2:Nat} {c u t0 t1 t2:Bool} (hc:c=u) (h:wpL P ops Q rest (put (put (put ρ o.dst undef) o1.dst undef) o2.dst undef) w) (g0:o.guard=some (j0,t0):=by rfl) (n0:(u == t0)=false:=by rfl) (d0:(ops[j0]?).bind (·.dst)=some d:=by kernel_rfl) (v0:ρ d=.bool c:=by kernel_rfl) (g1:o1.guard=some (j1,t1):=by rfl) (n1:(u == t1)=false:=by rfl) (d1:(ops[j1]?).bind (·.dst)=some d:=by kernel_rfl) (v1:(put ρ o.dst undef) d=.bool c:=by kernel_rfl) (g2:o2.guard=some (j2,t2):=by rfl) (n2:(u == t2)=false:=by rfl) (d2:(ops[j2]?).bind (·.dst)=some d:=by kernel_rfl) (v2:(put (put ρ o.dst undef) o1.dst undef) d=.bool c:=by kernel_rfl):wpL P ops Q (o :: o1 :: o2 :: rest) ρ w:=sj d hc (sj d hc (sj d hc (h) g2 n2 d2 v2) g1 n1 d1 v1) g0 n0 d0 v0
theorem sj4 (d:Nat) {j0 j1 j2 j3:Nat} {c u t0 t1 t2 t3:Bool} (hc:c=u) (h:wpL P ops Q rest (put (put (put (put ρ o.dst undef) o1.dst undef) o2.dst undef) o3.dst undef) w) (g0:o.guard=some (j0,t0):=by rfl) (n0:(u == t0)=false:=by rfl) (d0:(ops[j0]?).bind (·.dst)=some d:=by kernel_rfl) (v0:ρ d=.bool c:=by kernel_rfl) (g1:o1.guard=some (j1,t1):=by rfl) (n1:(u == t1)=false:=by rfl) (d1:(ops[j1]?).bind (·.dst)=some d:=by kernel_rfl) (v1:(put ρ o.dst undef) d=.bool c:=by kernel_rfl) (g2:o2.guard=some (j2,t2):=by rfl) (n2:(u == t2)=false:=by rfl) (d2:(ops[j2]?).bind (·.dst)=some d:=by kernel_rfl) (v2:(put (put ρ o.dst undef) o1.dst undef) d=.bool c:=by kernel_rfl) (g3:o3.guard=some (j3,t3):=by rfl) (n3:(u == t3)=false:=by rfl) (d3:(ops[j3]?).bind (·.dst)=some d:=by kernel_rfl) (v3:(put (put (put ρ o.dst undef) o1.dst undef) o2.dst undef) d=.bool c:=by kernel_rfl):wpL P ops Q (o :: o1 :: o2 :: o3 :: rest) ρ w:=sj d hc (sj d hc (sj d hc (sj d hc (h) g3 n3 d3 v3) g2 n2 d2 v2) g1 n1 d1 v1) g0 n0 d0 v0
theorem sj5 (d:Nat) {j0 j1 j2 j3 j4:Nat} {c u t0 t1 t2 t3 t4:Bool} (hc:c=u) (h:wpL P ops Q rest (put (put (put (put (put ρ o.dst undef) o1.dst undef) o2.dst undef) o3.dst undef) o4.dst undef) w) (g0:o.guard=some (j0,t0):=by rfl) (n0:(u == t0)=false:=by rfl) (d0:(ops[j0]?).bind (·.dst)=some d:=by kernel_rfl) (v0:ρ d=.bool c:=by kernel_rfl) (g1:o1.guard=some (j1,t1):=by rfl) (n1:(u == t1)=false:=by rfl) (d1:(ops[j1]?).bind (·.dst)=some d:=by kernel_rfl) (v1:(put ρ o.dst undef) d=.bool c:=by kernel_rfl) (g2:o2.guard=some (j2,t2):=by rfl) (n2:(u == t2)=false:=by rfl) (d2:(ops[j2]?).bind (·.dst)=some d:=by kernel_rfl) (v2:(put (put ρ o.dst undef) o1.dst undef) d=.bool c:=by kernel_rfl) (g3:o3.guard=some (j3,t3):=by rfl) (n3:(u == t3)=false:=by rfl) (d3:(ops[j3]?).bind (·.dst)=some d:=by kernel_rfl) (v3:(put (put (put ρ o.dst undef) o1.dst undef) o2.dst undef) d=.bool c:=by kernel_rfl) (g4:o4.guard=some (j4,t4):=by rfl) (n4:(u == t4)=false:=by rfl) (d4:(ops[j4]?).bind (·.dst)=some d:=by kernel_rfl) (v4:(put (put (put (put ρ o.dst undef) o1.dst undef) o2.dst undef) o3.dst undef) d=.bool c:=by kernel_rfl):wpL P ops Q (o :: o1 :: o2 :: o3 :: o4 :: rest) ρ w:=sj d hc (sj d hc (sj d hc (sj d hc (sj d hc (h) g4 n4 d4 v4) g3 n3 d3 v3) g2 n2 d2 v2) g1 n1 d1 v1) g0 n0 d0 v0
variable {d:Option Tmp} {ty:TypeId} {pos:String} {aft:Array Edge} {g:Option (Nat×Bool)}
theorem ql {τ:Type} {F:τ→Value} {R:τ→Prop} {T:TypeId} {x:Operand} {a:Addr} (hT:(isAgg T).run P w=.ok false w) (h:∃v,w.cell? a=some (F v)∧R v) (k:∀v,R v→wpL P ops Q rest (put ρ d (F v)) w) (hx:evE ρ x=.pointer (some a):=by kernel_rfl) (hw:Region.wanted ⟨d,.load T x,ty,pos,aft,g⟩ (jL ops ρ)=true:=by kernel_rfl):wpL P ops Q (⟨d,.load T x,ty,pos,aft,g⟩ :: rest) ρ w:=by
 obtain ⟨v,hv,h⟩:=h;exact q2 _ (yG hx hT hv) (k v h) hw
theorem qm {R:Addr→Prop} {x:Operand} {p:Option Addr} (h:∃a,p=some a∧R a) (k:∀a,R a→wpL P ops Q rest (put ρ d (.pointer (some a))) w) (hx:evE ρ x=.pointer p:=by kernel_rfl) (hw:Region.wanted ⟨d,.nilCheck x,ty,pos,aft,g⟩ (jL ops ρ)=true:=by kernel_rfl):wpL P ops Q (⟨d,.nilCheck x,ty,pos,aft,g⟩ :: rest) ρ w:=by
 obtain ⟨a,ha,h⟩:=h;exact q2 _ (jDJ hx ha) (k a h) hw
theorem qi {R:Addr→Prop} {T E:TypeId} {x ix:Operand} {s:Sl} {i:Int} {n:Nat} (hT:(underlying T).run P w=.ok (.slice E) w) (hs:(sizeOf E).run P w=.ok n w) (h:∃a,At s i n a∧R a) (k:∀a,R a→wpL P ops Q rest (put ρ d (.pointer (some a))) w) (hx:evE ρ x=s.v:=by kernel_rfl) (hi:evE ρ ix=.int .i64 i:=by kernel_rfl) (hw:Region.wanted ⟨d,.indexAddr T x ix,ty,pos,aft,g⟩ (jL ops ρ)=true:=by kernel_rfl):wpL P ops Q (⟨d,.indexAddr T x ix,ty,pos,aft,g⟩ :: rest) ρ w:=by
 obtain ⟨a,ha,h⟩:=h;exact q2 _ (jBN hx hi hT hs ha) (k a h) hw
theorem qa {T:TypeId} {x:Operand} {n:Nat} {a:Addr} {vs:List Value} (hT:(isAgg T).run P w=.ok true w) (hs:(sizeOf T).run P w=.ok n w) (hc:Row w a vs) (h:wpL P ops Q rest (put ρ d (.agg vs.toArray)) w) (hx:evE ρ x=.pointer (some a):=by kernel_rfl) (hn:vs.length=n:=by rfl) (hw:Region.wanted ⟨d,.load T x,ty,pos,aft,g⟩ (jL ops ρ)=true:=by kernel_rfl):wpL P ops Q (⟨d,.load T x,ty,pos,aft,g⟩ :: rest) ρ w:=q2 _ (jML hx hT hs hn hc) h hw
theorem sro {R:World→Prop} {T:TypeId} {x y:Operand} {n m:Nat} {a:Addr} {vs:List Value} (hs:(sizeOf T).run P w=.ok n w) (h:(∀j,j<m→jT w (a.add j))∧∀w',w'=storeRow w a vs→R w') (k:∀w',R w'→wpL P ops Q rest (put ρ d undef) w') (hx:evE ρ x=.pointer (some a):=by kernel_rfl) (hy:evE ρ y=.agg vs.toArray:=by kernel_rfl) (h1:vs.all kD=true:=by rfl) (hn:vs.length=n:=by rfl) (hm:vs.length=m:=by rfl) (hw:Region.wanted ⟨d,.store T x y,ty,pos,aft,g⟩ (jL ops ρ)=true:=by kernel_rfl):wpL P ops Q (⟨d,.store T x y,ty,pos,aft,g⟩ :: rest) ρ w:=by
 subst hm;exact vC hw (lC hx hy h1 hs hn h.1) (k _ (h.2 _ rfl))
theorem st1 {R:World→Prop} {T:TypeId} {x y:Operand} {a:Addr} {v:Value} (hs:(sizeOf T).run P w=.ok 1 w) (h:jT w a∧∀w',w'=w.setCell a v→R w') (k:∀w',R w'→wpL P ops Q rest (put ρ d undef) w') (hx:evE ρ x=.pointer (some a):=by kernel_rfl) (hy:evE ρ y=v:=by kernel_rfl) (h1:kD v=true:=by rfl) (hw:Region.wanted ⟨d,.store T x y,ty,pos,aft,g⟩ (jL ops ρ)=true:=by kernel_rfl):wpL P ops Q (⟨d,.store T x y,ty,pos,aft,g⟩ :: rest) ρ w :=
 vC hw (qV hx hy h1 hs h.1) (k _ (h.2 _ rfl))
variable {H Hv:Nat→Prop} {w0 wv:World} {l:List HBx} {Z:List (Nat×Obj)}
theorem st2 {R:World→Prop} {T:TypeId} {x y:Operand} {a:Addr} {v:Value} (hs:(sizeOf T).run P w=.ok 1 w) (hst:Hst w0 Hv wv H w) (hb:HBZ Z H w l) (h:jT w a∧¬ H a.block∧∀w',w'=w.setCell a v→R w') (k:∀w',Hst w0 H w' H w'→HBZ Z H w' l→R w'→wpL P ops Q rest (put ρ d undef) w') (hx:evE ρ x=.pointer (some a):=by kernel_rfl) (hy:evE ρ y=v:=by kernel_rfl) (h1:kD v=true:=by rfl) (hw:Region.wanted ⟨d,.store T x y,ty,pos,aft,g⟩ (jL ops ρ)=true:=by kernel_rfl):wpL P ops Q (⟨d,.store T x y,ty,pos,aft,g⟩ :: rest) ρ w :=
 vC hw (qV hx hy h1 hs h.1) (by obtain ⟨hst,hb⟩:=(Kept.setCell h.2.1).hh hst hb;exact k _ hst hb (h.2.2 _ rfl))
theorem nw1 {R:Addr→World→Prop} {O:Obj} (h:∀p w',New w O p w'→R p w') (hr:(execOp (evE ρ) o).run P w=.ok (.value (.pointer (some ⟨w.heap.size,0,none⟩))) (w.alloc O)) (k:∀p w',R p w'→wpL P ops Q rest (put ρ o.dst (.pointer (some p))) w') (hw:Region.wanted o (jL ops ρ)=true:=by kernel_rfl):wpL P ops Q (o :: rest) ρ w:=sn hr (fun p w' hn=>k p w' (h p w' hn)) hw
theorem nw2 {R:Addr→World→Prop} {O:Obj} (hst:Hst w0 Hv wv H w) (hb:HBZ Z H w l) (h:∀p w',New w O p w'→R p w') (hr:(execOp (evE ρ) o).run P w=.ok (.value (.pointer (some ⟨w.heap.size,0,none⟩))) (w.alloc O)) (k:∀p w',Hst w0 H w' H w'→HBZ Z H w' l→R p w'→wpL P ops Q rest (put ρ o.dst (.pointer (some p))) w') (hw:Region.wanted o (jL ops ρ)=true:=by kernel_rfl):wpL P ops Q (o :: rest) ρ w:=sn hr (fun p w' hn=>by
 obtain ⟨hst,hb⟩:=(Ext.new (F:=None) hn).keptP.hh hst hb;exact k p w' hst hb (h p w' hn)) hw
theorem nw3 (c:List Value) (T:TypeId) (hst:Hst w0 Hv wv H w) (hb:HBZ Z H w l) (hr:(execOp (evE ρ) o).run P w=.ok (.value (.pointer (some ⟨w.heap.size,0,none⟩))) (w.alloc (.cells c.toArray T))) (k:∀p w' H',Hst w0 Hv wv H' w'→HBZ Z H' w' ((p,c,T) :: l)→wpL P ops Q rest (put ρ o.dst (.pointer (some p))) w') (hw:Region.wanted o (jL ops ρ)=true:=by kernel_rfl):wpL P ops Q (o :: rest) ρ w:=sn hr (fun p w' hn=>by
 obtain ⟨H1,hst,hb⟩:=hst.alloc hb hn;exact k p w' H1 hst hb) hw
theorem sbx (i:Nat) (vs:List Value) {p:Addr} {c:List Value} {T U:TypeId} {x y:Operand} {n:Nat} (hs:(sizeOf T).run P w=.ok n w) (hst:Hst w0 Hv wv H w) (hb:HBZ Z H w l) (hi:l[i]?=some (p,c,U)) (k:∀w',Hst w0 Hv wv H w'→HBZ Z H w' (l.set i (p,vs++c.drop vs.length,U))→wpL P ops Q rest (put ρ d undef) w') (hx:evE ρ x=.pointer (some p):=by kernel_rfl) (hy:evE ρ y=.agg vs.toArray:=by kernel_rfl) (h1:vs.all kD=true:=by rfl) (hn:vs.length=n:=by rfl) (hj:decide (vs.length≤c.length)=true:=by kernel_rfl) (hw:Region.wanted ⟨d,.store T x y,ty,pos,aft,g⟩ (jL ops ρ)=true:=by kernel_rfl):wpL P ops Q (⟨d,.store T x y,ty,pos,aft,g⟩ :: rest) ρ w :=
 vC hw (lC hx hy h1 hs hn (hb.canWs0 i _ hi hj)) (by obtain ⟨a,b⟩:=hb.store0 (vs:=vs) hst hi hj rfl;exact k _ a b)
end
section
variable {H Hv:Nat→Prop} {w0 wv w w':World} {l l':List HBx} {Z:List (Nat×Obj)} {p:Addr} {c vs:List Value} {T:TypeId}
theorem HBZ.st1 (hb:HBZ Z H w l) (i:Nat) (h:Hst w0 Hv wv H w) (hw:w'=storeRow w p vs) (hi:l[i]?=some (p,c,T)) (hj:decide (vs.length≤c.length)=true:=by kernel_rfl):Hst w0 Hv wv H w'∧HBZ Z H w' (l.set i (p,vs++c.drop vs.length,T)):=by
 subst hw;exact hb.store0 h hi hj rfl
theorem HBZ.d (hb:HBZ Z H w l) (i j:Nat) {p:Addr} {c:List Value} {T:TypeId} (hi:l[i]?=some (p,c,T)) (hv:c[j]?=some (c.getD j undef):=by kernel_rfl):w.cell? (p.add j)=some (c.getD j undef):=hb.cell i j hi hv
theorem HBZ.d0 (hb:HBZ Z H w l) (i:Nat) {p:Addr} {c:List Value} {T:TypeId} (hi:l[i]?=some (p,c,T)) (hv:c[0]?=some (c.getD 0 undef):=by kernel_rfl):w.cell? p=some (c.getD 0 undef):=hb.cell0 i hi hv
theorem Hst.nw {O:Obj} {p:Addr} (h:Hst w0 Hv wv H w) (hb:HBZ Z H w l) (hn:New w O p w'):Hst w0 H w' H w'∧HBZ Z H w' l:=(Ext.new (F:=None) hn).keptP.hh h hb
theorem Hst.pp (h:Hst w0 Hv wv H w) (hb:HBZ Z H w l) (E:Pure w w'):Hst w0 Hv wv H w'∧HBZ Z H w' l:=⟨h.pure E,hb.pure E⟩
theorem Hst.hr {R:Prop} (hs:Hst w0 Hv wv H w) (h:Hst w0 Hv wv H w→R):R∧Hst w0 H w H w:=⟨h hs,hs.here⟩
theorem st0 (w0:World):Hst w0 None w0 None w0∧HB None w0 []:=⟨Hst.start w0,HB.nil None w0⟩
end
theorem Br.br {c:Bool} {A B:Prop} (h:Br c A B):(c=true∧A)∨(c=false∧B):=by
 cases c
 ·exact .inr ⟨rfl,h.2 rfl⟩
 ·exact .inl ⟨rfl,h.1 rfl⟩
section
variable {P:Program} {n:Nat} {Q:Exit→Env→World→Prop} {ρ:Env} {w:World}
theorem cbr {cx:Cx} {c:Operand} {y z:Code} {t:Bool} {A B:Prop} (h:Br t A B) (ht:A→wpE (x:=cx) P n y Q ρ w) (hf:B→wpE (x:=cx) P n z Q ρ w) (hc:evE ρ c=.bool t:=by kernel_rfl):wpE (x:=cx) P n (.cond c y z) Q ρ w:=vM hc (fun e=>ht (h.1 e)) (fun e=>hf (h.2 e))
theorem cbr' {cx:Cx} {c:Operand} {y z:Code} {t:Bool} {A B:Prop} (h:Br t A B) (ht:t=true→A→wpE (x:=cx) P n y Q ρ w) (hf:t=false→B→wpE (x:=cx) P n z Q ρ w) (hc:evE ρ c=.bool t:=by kernel_rfl):wpE (x:=cx) P n (.cond c y z) Q ρ w:=vM hc (fun e=>ht e (h.1 e)) (fun e=>hf e (h.2 e))
theorem gg1 {fn:Func} {r:ResultVar} {v:Value} {R:Ending→World→Prop} {e:Exit} (hr:fn.results=#[r]) (h:RV P ρ w r v) (hR:R (.returned v) w) (he:e=.ret∨e=.normal:=by exact .inl rfl):jDA P fn n R e ρ w:=jEM he (rs:=[r]) (vs:=[v]) hr ⟨h,trivial⟩ rfl hR
theorem gg2 {fn:Func} {r s:ResultVar} {v u:Value} {R:Ending→World→Prop} {e:Exit} (hr:fn.results=#[r,s]) (h:RV P ρ w r v) (h':RV P ρ w s u) (hR:R (.returned (.tuple #[v,u])) w) (he:e=.ret∨e=.normal:=by exact .inl rfl):jDA P fn n R e ρ w:=jEM he (rs:=[r,s]) (vs:=[v,u]) hr ⟨h,h',trivial⟩ rfl hR
theorem rvU {t:Nat} (v:Value) (h:ρ t=v:=by kernel_rfl):RV P ρ w (.tmp t) v:=h
end
end Go.SE
namespace Go.SE
section
variable {P:Program} {ops:Array Oper} {Q:Env→World→Prop} {ρ:Env} {w:World} {rest:List Oper} {o:Oper}
variable {H Hv:Nat→Prop} {w0 wv:World} {l:List HBx} {Z:List (Nat×Obj)}
theorem nw4 {R:Addr→World→Prop} {O:Obj} (v:Addr→Value) (h:∀p w',New w O p w'→R p w') (k:∀p w',R p w'→wpL P ops Q rest (put ρ o.dst (v p)) w') (hr:(execOp (evE ρ) o).run P w=.ok (.value (v ⟨w.heap.size,0,none⟩)) (w.alloc O):=by kernel_rfl) (hw:Region.wanted o (jL ops ρ)=true:=by kernel_rfl):wpL P ops Q (o :: rest) ρ w:=uL v hw hr (fun p w' hn=>k p w' (h p w' hn))
theorem nw5 {R:Addr→World→Prop} {O:Obj} (v:Addr→Value) (hst:Hst w0 Hv wv H w) (hb:HBZ Z H w l) (h:∀p w',New w O p w'→R p w') (k:∀p w',Hst w0 H w' H w'→HBZ Z H w' l→R p w'→wpL P ops Q rest (put ρ o.dst (v p)) w') (hr:(execOp (evE ρ) o).run P w=.ok (.value (v ⟨w.heap.size,0,none⟩)) (w.alloc O):=by kernel_rfl) (hw:Region.wanted o (jL ops ρ)=true:=by kernel_rfl):wpL P ops Q (o :: rest) ρ w:=uL v hw hr (fun p w' hn=>by
 obtain ⟨hst,hb⟩:=hst.nw hb hn;exact k p w' hst hb (h p w' hn))
end
section
variable {P:Program} {ops:Array Oper} {C:World→Prop} {loud free:Nat→Bool} {K:Env→World→Prop} {ρ:Env} {w:World} {k:Nat}
variable {d:Option Tmp} {ty:TypeId} {pos:String} {aft:Array Edge} {g:Option (Nat×Bool)}
theorem slo {R:World→Prop} {T:TypeId} {x y:Operand} {n m:Nat} {a:Addr} {vs:List Value} (ho:ops[k]?=some ⟨d,.store T x y,ty,pos,aft,g⟩) (hs:(sizeOf T).run P w=.ok n w) (h:(∀j,j<m→jT w (a.add j))∧∀w',w'=storeRow w a vs→R w') (kk:∀w',R w'→(free k=true∨C w')∧K (put ρ d undef) w') (hx:evE ρ x=.pointer (some a):=by kernel_rfl) (hy:evE ρ y=.agg vs.toArray:=by kernel_rfl) (h1:vs.all kD=true:=by rfl) (hn:vs.length=n:=by rfl) (hm:vs.length=m:=by rfl) (hw:Region.wanted ⟨d,.store T x y,ty,pos,aft,g⟩ (jL ops ρ)=true:=by kernel_rfl) (hl:loud k=true:=by kernel_rfl):opE P ops C loud free k K ρ w:=by
 subst hm;exact yZ ho hw hl (lC hx hy h1 hs hn h.1) (fun w' e=>kk w' (h.2 w' e))
end
section
variable {P:Program} {n:Nat} {Q:Exit→Env→World→Prop} {ρ:Env} {w:World}
variable {H Hv:Nat→Prop} {w0 wv:World} {l':List HBx} {Z:List (Nat×Obj)}
theorem dr1 {R:World→Prop} {cx:Cx} {id:Nat} {l:List Oper} (C:World→Prop) (loud free:List Nat) (hC:C w.drew) (h:∀w',w'=w.drew→R w') (k:∀w',R w'→wpX P l.toArray C (vH loud) (vH free) (fun ρ w=>Q .normal ρ w) l.length (Array.replicate l.length false) ρ w') (hm:P.follows .mixedOrders=true:=by kernel_rfl) (hd:yQ n l=true:=by kernel_rfl) (hB:Region.noSelect l.toArray=true:=by kernel_rfl) (hg:jIS .any l.toArray (vH loud) (vH free)=true:=by kernel_rfl):wpE (x:=cx) P n (.region id l.toArray true) Q ρ w:=jDL C loud free hm hd hB hg hC (fun w' e=>k w' (h w' e))
theorem dr2 {R:World→Prop} {cx:Cx} {id:Nat} {l:List Oper} (C:World→Prop) (loud free:List Nat) (hC:C w.drew) (h:∀w',w'=w.drew→R w') (hs:Hst w0 Hv wv H w) (hb:HBZ Z H w l') (k:∀w',Hst w0 Hv wv H w'→HBZ Z H w' l'→R w'→wpX P l.toArray C (vH loud) (vH free) (fun ρ w=>Q .normal ρ w) l.length (Array.replicate l.length false) ρ w') (hm:P.follows .mixedOrders=true:=by kernel_rfl) (hd:yQ n l=true:=by kernel_rfl) (hB:Region.noSelect l.toArray=true:=by kernel_rfl) (hg:jIS .any l.toArray (vH loud) (vH free)=true:=by kernel_rfl):wpE (x:=cx) P n (.region id l.toArray true) Q ρ w:=jDL C loud free hm hd hB hg hC (fun w' e=>k w' (e▸hs.drew) (e▸hb.drew) (h w' e))
end
end Go.SE
namespace Go.SE
abbrev Aa (x0:Int) (x1:Int) (x2:Int) (x3:ByteArray) (x4:Bool):List Value:=[vi x0,vi x1,vu x2,vs x3,vb x4]
abbrev Ab (x0:Int) (x1:Int) (x2:Int) (x3:Int) (x4:ByteArray) (x5:Sl):Value:=.agg #[vi x0,vi x1,vi x2,vu x3,vs x4,x5.v]
abbrev Ac (x0:Int) (x1:Int) (x2:Int) (x3:ByteArray) (x4:Bool):Value:=.agg #[vi x0,vi x1,vu x2,vs x3,vb x4]
abbrev Ad (x0:Int) (x1:Int) (x2:Int) (x3:Int) (x4:ByteArray) (x5:Int) (x6:Int):List Value:=[vi x0,vi x1,vi x2,vu x3,vs x4,vi x5,vi x6]
abbrev Ae (x0:Int) (x1:Int) (x2:Int) (x3:Int) (x4:ByteArray) (x5:Int) (x6:Int):Value:=.agg #[vi x0,vi x1,vi x2,vu x3,vs x4,vi x5,vi x6]
abbrev Af (x0:Int) (x1:Int) (x2:Int) (x3:Int) (x4:ByteArray) (x5:Sl):List Value:=[vi x0,vi x1,vi x2,vu x3,vs x4,x5.v]
abbrev Ag (x0:Int) (x1:Int) (x2:Int) (x4:Bool):List Value:=[vi x0,vi x1,vu x2,ve,vb x4]
abbrev Ah (x0:Bool) (x1:Bool) (x2:Bool) (x3:Bool) (x4:Int):List Value:=[vb x0,vb x1,vb x2,vb x3,vi x4]
abbrev Ai (x0:Bool) (x1:Bool) (x2:Bool) (x3:Bool) (x4:Int):Value:=.agg #[vb x0,vb x1,vb x2,vb x3,vi x4]
abbrev Aj (x0:Bool) (x1:Bool) (x2:Bool) (x3:Bool) (x4:Int) (x5:Bool) (x6:Bool) (x7:Bool) (x8:Bool) (x9:Int) (x10:Bool) (x11:Bool) (x12:Bool) (x13:Bool) (x14:Int) (x15:Bool) (x16:Bool) (x17:Bool) (x18:Bool) (x19:Int) (x20:Bool) (x21:Bool) (x22:Bool) (x23:Bool) (x24:Int) (x25:Bool) (x26:Bool) (x27:Bool) (x28:Bool) (x29:Int) (x30:Bool) (x31:Bool) (x32:Bool) (x33:Bool) (x34:Int) (x35:Bool) (x36:Bool) (x37:Bool) (x38:Bool) (x39:Int) (x40:Bool) (x41:Bool) (x42:Bool) (x43:Bool) (x44:Int) (x45:Bool) (x46:Bool) (x47:Bool) (x48:Bool) (x49:Int):List Value:=[vb x0,vb x1,vb x2,vb x3,vi x4,vb x5,vb x6,vb x7,vb x8,vi x9,vb x10,vb x11,vb x12,vb x13,vi x14,vb x15,vb x16,vb x17,vb x18,vi x19,vb x20,vb x21,vb x22,vb x23,vi x24,vb x25,vb x26,vb x27,vb x28,vi x29,vb x30,vb x31,vb x32,vb x33,vi x34,vb x35,vb x36,vb x37,vb x38,vi x39,vb x40,vb x41,vb x42,vb x43,vi x44,vb x45,vb x46,vb x47,vb x48,vi x49]
abbrev Ak (x0:Bool) (x1:Bool) (x2:Bool) (x3:ByteArray):List Value:=[vb x0,vb x1,vb x2,vs x3]
end Go.SE
end
section
open Go Go.SE
open Go.IntKind renaming i64 → q6
namespace Go.Proofs
open Tryz
set_option maxRecDepth 100000
set_option maxHeartbeats 4000000
attribute [local irreducible] wpL wpX opE wpE Calls
def m_P1  (w:World) (K:(Option Addr)→WP):Prop :=∀p1 w1,New w (.map #[] 0) p1 w1→∀p2 w2,New w1 (.cells #[Sl.nil.v,(.map (some p1.block))] 48) p2 w2→K (some p2) w2
theorem w_P1  (w:World) (K:(Option Addr)→WP) (h:m_P1  w K) :
  Calls prog 5 #[] w (fun e w'=>∃r1,e=.returned (vp r1)∧K r1 w'):=by
 refine cw (args:=[]) func5 ntmps5 (eg (q0 (vp none) (ln (eg (uL (O:=(.map #[] 0)) (fun p=>.map (some p.block)) (jK rfl) (by kernel_rfl) ?_)))))
 intro p1 w1 hn2
 have h:=h p1 w1 hn2
 refine q (nw1 h xb fun p2 w2 h=>q (ln (er (rs1 results5 ⟨(some p2),rfl,h⟩))))
def m_Q1 (p1:Option Addr) (t1:Int) (w:World) (K:Int→WP):Prop :=Calls prog 37 #[(vp p1),(vi t1)] w (fun e w1=>∃r1,e=.returned (vb r1)∧Br (!r1) (K 0 w1) (∃a1,p1=some a1∧∃v1:Sl,w1.cell? a1=some v1.v∧∃a2:Addr,At v1 (q6.wrap (t1 - 1)) 9 a2∧∃v2,w1.cell? (a2.add 7)=some (vi v2)∧K v2 w1))
theorem w_Q1 (p1 t1 w K) (h:m_Q1 p1 t1 w K):
  Calls prog 14 #[(vp p1),(vi t1)] w (fun e w'=>∃r2,e=.returned (vi r2)∧K r2 w'):=by
 refine cw (args:=[(vp p1),(vi t1)]) func14 ntmps14 (eg (q0 (vi 0) (ln (jA (eg (q0 (vp p1) (q0 (vi t1) ?_)))))))
 refine sc call37 (h.mono fun e w1 ⟨r1,k,h⟩=>⟨_,k,?_⟩)
 refine q (ln (cbr h ?_ ?_))<;>intro h
 refine eg (q (ln (er (zM (rs1 results14 ⟨0,rfl,h⟩)))))
 refine jB (jN (eg (q (qm h fun a1 h=>q (ql (isAgg46 _) h fun v1 h=>qb (qi (runUnderlying46 _) (sizeOf96 _) h fun a2 h=>q (ql (isAgg3 _) h fun v2 h=>q (ln (er (rs1 results14 ⟨v2,rfl,h⟩))))))))))
def m_L1 (p1:Option Addr) (aT aU:Int) (aV aW:Int) (aX:ByteArray) (aY:Sl) (w:World) (K:Int→Int→WP):Prop :=∀p2 w1,New w (.cells #[(vi aT),(vi aU),(vi aV),(vu aW),(vs aX),aY.v] 53) p2 w1→Br (Option.isNone p1) (K 0 0 w1) (∀p3 w2,New w1 (.cells #[(vi 0)] 3) p3 w2→jT w2 p3∧∀w3,w3=w2.setCell p3 (vi 0)→∃aA aB aC aD aE bM,Row w3 p2 (Af aA aB aC aD aE bM)∧Calls prog 38 #[(.agg #[(vi aA),(vi aB),(vi aC),(vu aD),(vs aE),bM.v]),(vi 0),(vp (some p3))] w3 (fun e w4=>∃r1,e=.returned (vi r1)∧Br (r1 != 0) (K 0 r1 w4) (∃a1,p1=some a1∧∃v1:Sl,w4.cell? a1=some v1.v∧∃aO aP aQ aR aS bL,Row w4 p2 (Af aO aP aQ aR aS bL)∧Calls prog 39 #[(vp p1),(.agg #[(vi aO),(vi aP),(vi aQ),(vu aR),(vs aS),bL.v])] w4 (fun e w5=>∃r2 r3,e=.returned (.tuple #[(vi r2),(vi r3)])∧Br (r3 != 0) (Calls prog 40 #[(vp p1),(vi (v1.len:Int))] w5 (fun e w6=>e=.returned (.tuple #[])∧K 0 r3 w6)) (K r2 0 w5)))))
theorem w_L1 (p1 aT aU aV aW aX aY w K) (h:m_L1 p1 aT aU aV aW aX aY w K):
  Calls prog 16 #[(vp p1),(.agg #[(vi aT),(vi aU),(vi aV),(vu aW),(vs aX),aY.v])] w (fun e w'=>∃r4 r5,e=.returned (.tuple #[(vi r4),(vi r5)])∧K r4 r5 w'):=by
 refine cw (args:=[(vp p1),(Ab aT aU aV aW aX aY)]) func16 ntmps16 (eg (sn (O:=(.cells #[(vi aT),(vi aU),(vi aV),(vu aW),(vs aX),aY.v] 53)) xb ?_))
 intro p2 w1 hn3
 have h:=h p2 w1 hn3
 refine qb (ln (jA (eg (q (q2 (vb (Option.isNone p1)) (qK (by kernel_rfl) rfl underlying27) (ln (cbr h ?_ ?_)))))))<;>intro h
 refine eg (qb (ln (er (zM (oX (.inl rfl) results16 (v:=(vi 0)) (by kernel_rfl) (v':=(vi 0)) (by kernel_rfl) ⟨0,0,rfl,h⟩)))))
 refine jB (jN (eg (nw1 h (jG (zeroValue3 _) rfl) fun p3 w2 h=>st1 (sizeOf3 _) h fun w3 h=>ln (jA (eg ?_)))))
 obtain ⟨aA,aB,aC,aD,aE,bM,hv3,h⟩:=h
 refine qa (isAgg53 _) (sizeOf53 _) hv3 (sc call38 (h.mono fun e w4 ⟨r1,k,h⟩=>⟨_,k,?_⟩))
 refine q (ln (eg (qb (ln (cbr h ?_ ?_)))))<;>intro h
 refine eg (qc (ln (er (zM (oX (.inl rfl) results16 (v:=(vi 0)) (by kernel_rfl) (v':=(vi r1)) (by kernel_rfl) ⟨0,r1,rfl,h⟩)))))
 refine jB (jN (eg (q (qm h fun a1 h=>q (ql (isAgg46 _) h fun v1 h=>qb (ln (eg (q ?_))))))))
 obtain ⟨aO,aP,aQ,aR,aS,bL,hv1,h⟩:=h
 refine qa (isAgg53 _) (sizeOf53 _) hv1 (sc call39 (h.mono fun e w5 ⟨r2,r3,k,h⟩=>⟨_,k,?_⟩))
 refine q (qd (ln (jA (eg (qb (ln (cbr h ?_ ?_)))))))<;>intro h
 refine eg (qb (sc call40 (h.mono fun e w6 ⟨k,h⟩=>⟨_,k,?_⟩)))
 refine ln (eg (qc (ln (er (zM (oX (.inl rfl) results16 (v:=(vi 0)) (by kernel_rfl) (v':=(vi r3)) (by kernel_rfl) ⟨0,r3,rfl,h⟩))))))
 refine jB (jN (eg (qc (ln (er (oX (.inl rfl) results16 (v:=(vi r2)) (by kernel_rfl) (v':=(vi 0)) (by kernel_rfl) ⟨r2,0,rfl,h⟩))))))
def m_K1 (p1:Option Addr) (t1:Int) (w:World) (K:Int→Int→Int→Int→ByteArray→Int→Int→Bool→WP):Prop :=∀p2 w1,New w (.cells #[(vi 0),(vi 0),(vi 0),(vu 0),ve,(vi 0),(vi 0)] 59) p2 w1→Calls prog 37 #[(vp p1),(vi t1)] w1 (fun e w2=>∃r1,e=.returned (vb r1)∧Br (!r1) ((∀j,j<7→jT w2 (p2.add j))∧∀w3,w3=storeRow w2 p2 [(vi 0),(vi 0),(vi 0),(vu 0),ve,(vi 0),(vi 0)]→∃bU bV bW bX bY bZ cA,Row w3 p2 (Ad bU bV bW bX bY bZ cA)∧K bU bV bW bX bY bZ cA false w3) (∃a1,p1=some a1∧∃v1:Sl,w2.cell? a1=some v1.v∧∃a2:Addr,At v1 (q6.wrap (t1 - 1)) 9 a2∧∃aA aB aC aD aE aF aG,Row w2 a2 (Ad aA aB aC aD aE aF aG)∧(∀j,j<7→jT w2 (p2.add j))∧∀w4,w4=storeRow w2 p2 (Ad aA aB aC aD aE aF aG)→∃cD cE cF cG cH cI cJ,Row w4 p2 (Ad cD cE cF cG cH cI cJ)∧K cD cE cF cG cH cI cJ true w4))
theorem w_K1 (p1 t1 w K) (h:m_K1 p1 t1 w K):
  Calls prog 18 #[(vp p1),(vi t1)] w (fun e w'=>∃aZ bA bB bC bD bE bF r2,e=.returned (.tuple #[(Ae aZ bA bB bC bD bE bF),(vb r2)])∧K aZ bA bB bC bD bE bF r2 w'):=by
 refine cw (args:=[(vp p1),(vi t1)]) func18 ntmps18 (eg (sn (O:=(.cells #[(vi 0),(vi 0),(vi 0),(vu 0),ve,(vi 0),(vi 0)] 59)) (jG (zeroValue59 _) rfl) ?_))
 intro p2 w1 hn3
 have h:=h p2 w1 hn3
 refine q (ln (jA (eg (qb (sc call37 (h.mono fun e w2 ⟨r1,k,h⟩=>⟨_,k,?_⟩))))))
 refine q (ln (cbr h ?_ ?_))<;>intro h
 refine eg (q (sro (sizeOf59 _) h fun w3 h=>q (ln (er (zM ?_)))))
 obtain ⟨bU,bV,bW,bX,bY,bZ,cA,hv1,h⟩:=h
 refine gg2 results18 (rva (isAgg59 _) (sizeOf59 _) hv1) (rvU (vb false)) ⟨bU,bV,bW,bX,bY,bZ,cA,false,rfl,h⟩
 refine jB (jN (eg (q (qm h fun a1 h=>q (ql (isAgg46 _) h fun v1 h=>qb (qi (runUnderlying46 _) (sizeOf96 _) h fun a2 h=>q ?_))))))
 obtain ⟨aA,aB,aC,aD,aE,aF,aG,hv3,h⟩:=h
 refine qa (isAgg59 _) (sizeOf59 _) hv3 (sro (sizeOf59 _) h fun w4 h=>q (ln (er ?_)))
 obtain ⟨cD,cE,cF,cG,cH,cI,cJ,hv2,h⟩:=h
 refine gg2 results18 (rva (isAgg59 _) (sizeOf59 _) hv2) (rvU (vb true)) ⟨cD,cE,cF,cG,cH,cI,cJ,true,rfl,h⟩
def m_R_j1 (p1:Option Addr) (t1:Int) (x1:Bool) (w:World) (K:Bool→WP):Prop :=Br x1 (∃a1,p1=some a1∧∃v1:Sl,w.cell? a1=some v1.v∧K (decide (t1≤(v1.len:Int))) w) (K false w)
def m_R (p1:Option Addr) (t1:Int) (w:World) (K:Bool→WP):Prop :=Br (!(Option.isNone p1)) (m_R_j1 p1 t1 (decide (t1≥1)) w K) (m_R_j1 p1 t1 false w K)
theorem w_R (p1 t1 w K) (h:m_R p1 t1 w K):
  Calls prog 37 #[(vp p1),(vi t1)] w (fun e w'=>∃r1,e=.returned (vb r1)∧K r1 w'):=by
 refine cw (args:=[(vp p1),(vi t1)]) func37 ntmps37 (eg (q0 (vb false) (ln (eg (q0 (vp p1) (q2 (vb (!(Option.isNone p1))) (jPU (by kernel_rfl) rfl underlying27) (q0 (vb (!(Option.isNone p1))) ?_)))))))
 refine jU 3 (fun ρ w=>∃x1,Has ρ [(0,(vp p1)),(1,(vi t1)),(10,(vb x1))]∧m_R_j1 p1 t1 x1 w K) ?_ ?_
 rintro ρ w ⟨x1,hH,h⟩
 refine zB hH (q ?_)
 obtain ⟨hg1,h⟩|⟨hg1,h⟩:=h.br
 refine qk 11 hg1 (qk 11 hg1 ?_)
 obtain ⟨a1,hp1,h⟩:=h
 refine q4 11 hg1 (xn hp1) (qk 11 hg1 ?_)
 obtain ⟨v1,hv1,h⟩:=h
 refine q4 11 hg1 (xl (isAgg46 _) hv1) (qk 11 hg1 (qk 11 hg1 (q2 (vb (decide (t1≤(v1.len:Int)))) (xT hg1) (q (ln (er (rs1 results37 ⟨(decide (t1≤(v1.len:Int))),rfl,h⟩)))))))
 refine sj2 11 hg1 (sj5 11 hg1 (q2 (vb false) (xF hg1) (q (ln (er (rs1 results37 ⟨false,rfl,h⟩))))))
 obtain ⟨hg2,h⟩|⟨hg2,h⟩:=h.br
 refine qk 7 hg2 (qk 7 hg2 (q2 (vb (decide (t1≥1))) (xT hg2) (jC ⟨(decide (t1≥1)),hm,h⟩)))
 refine sj2 7 hg2 (q2 (vb false) (xF hg2) (jC ⟨false,hm,h⟩))
def m_G_l4 (inside1:Int) (seen1:Option Addr) (p1:Addr) (e3 i1:Int) (wl1:World) (Kc4:Int→Int→WP) (K:Int→WP):Prop :=∃v2:Sl,wl1.cell? (p1.add 5)=some v2.v∧Br (decide (i1<(v2.len:Int))) (Br (e3 == 0) (∃v3:Sl,wl1.cell? (p1.add 5)=some v3.v∧∃a3:Addr,At v3 i1 6 a3∧∃bG bH bI bJ bK bL,Row wl1 a3 (Af bG bH bI bJ bK bL)∧Calls prog 38 #[(.agg #[(vi bG),(vi bH),(vi bI),(vu bJ),(vs bK),bL.v]),(vi (q6.wrap (inside1+1))),(vp seen1)] wl1 (fun e w9=>∃r2,e=.returned (vi r2)∧Kc4 r2 (q6.wrap (i1+1)) w9)) (K e3 wl1)) (K e3 wl1)
def m_G_j3 (inside1:Int) (seen1:Option Addr) (p1:Addr) (e2:Int) (w:World) (K:Int→WP):Prop :=∃(I1:Int→Int→WP) (mu1:Int→Int→World→Nat),I1 e2 0 w∧∀(e3 i1:Int) (wl1:World),I1 e3 i1 wl1→m_G_l4 inside1 seen1 p1 e3 i1 wl1 (fun y'0 y'1 w'=>I1 y'0 y'1 w'∧mu1 y'0 y'1 w'<mu1 e3 i1 wl1) K
def m_G_j2 (inside1:Int) (seen1:Option Addr) (p1 p2 p3:Addr) (e1:Int) (w:World) (K:Int→WP):Prop :=Br (e1 == 0) (∃vfrom1 vto1 vnum1 vtext1 vkids1,Row w p3 (Ah vfrom1 vto1 vnum1 vtext1 vkids1)∧∃bN bO bP bQ bR bS bT,Row w p2 (Ad bN bO bP bQ bR bS bT)∧Calls prog 62 #[(.agg #[(vb vfrom1),(vb vto1),(vb vnum1),(vb vtext1),(vi vkids1)]),(.agg #[(vi bN),(vi bO),(vi bP),(vu bQ),(vs bR),(vi bS),(vi bT)])] w (fun e w10=>∃r3,e=.returned (vi r3)∧m_G_j3 inside1 seen1 p1 r3 w10 K)) (m_G_j3 inside1 seen1 p1 e1 w K)
def m_G_j1 (inside1:Int) (seen1:Option Addr) (p1:Addr) (w:World) (K:Int→WP):Prop :=∃a1,seen1=some a1∧∃v1,w.cell? a1=some (vi v1)∧∃a2,seen1=some a2∧jT w a2∧∀w2,w2=w.setCell a2 (vi (q6.wrap (v1+1)))→∃aA aB aC aD aE bM,Row w2 p1 (Af aA aB aC aD aE bM)∧Calls prog 60 #[(.agg #[(vi aA),(vi aB),(vi aC),(vu aD),(vs aE),bM.v])] w2 (fun e w3=>∃aZ bA bB bC bD bE bF,e=.returned (Ae aZ bA bB bC bD bE bF)∧∀p2 w4,New w3 (.cells #[(vi 0),(vi 0),(vi 0),(vu 0),ve,(vi 0),(vi 0)] 59) p2 w4→(∀j,j<7→jT w4 (p2.add j))∧∀w5,w5=storeRow w4 p2 (Ad aZ bA bB bC bD bE bF)→∃aO aP aQ aR aS aF aG,Row w5 p2 (Ad aO aP aQ aR aS aF aG)∧Calls prog 61 #[(.agg #[(vi aO),(vi aP),(vi aQ),(vu aR),(vs aS),(vi aF),(vi aG)])] w5 (fun e w6=>∃rfrom1 rto1 rnum1 rtext1 rkids1 r1,e=.returned (.tuple #[(Ai rfrom1 rto1 rnum1 rtext1 rkids1),(vi r1)])∧∀p3 w7,New w6 (.cells #[(vb false),(vb false),(vb false),(vb false),(vi 0)] 123) p3 w7→(∀j,j<5→jT w7 (p3.add j))∧∀w8,w8=storeRow w7 p3 (Ah rfrom1 rto1 rnum1 rtext1 rkids1)→Br (r1 == 0) (∃v4:Sl,w8.cell? (p1.add 5)=some v4.v∧∃v5,w8.cell? (p3.add 4)=some (vi v5)∧Br (((v4.len:Int):Int) != v5) (m_G_j2 inside1 seen1 p1 p2 p3 53 w8 K) (m_G_j2 inside1 seen1 p1 p2 p3 r1 w8 K)) (m_G_j2 inside1 seen1 p1 p2 p3 r1 w8 K)))
def m_G (aT aU:Int) (aV aW:Int) (aX:ByteArray) (aY:Sl) (inside1:Int) (seen1:Option Addr) (w:World) (K:Int→WP):Prop :=∀p1 w1,New w (.cells #[(vi aT),(vi aU),(vi aV),(vu aW),(vs aX),aY.v] 53) p1 w1→∃a4,seen1=some a4∧∃v6,w1.cell? a4=some (vi v6)∧Br (decide (v6≥4096)) (K 52 w1) (Br (decide (inside1≥64)) (K 52 w1) (m_G_j1 inside1 seen1 p1 w1 K))
theorem w_G (aT aU aV aW aX aY inside1 seen1 w K) (h:m_G aT aU aV aW aX aY inside1 seen1 w K):
  Calls prog 38 #[(.agg #[(vi aT),(vi aU),(vi aV),(vu aW),(vs aX),aY.v]),(vi inside1),(vp seen1)] w (fun e w'=>∃r4,e=.returned (vi r4)∧K r4 w'):=by
 refine cw (args:=[(Ab aT aU aV aW aX aY),(vi inside1),(vp seen1)]) func38 ntmps38 (eg (sn (O:=(.cells #[(vi aT),(vi aU),(vi aV),(vu aW),(vs aX),aY.v] 53)) xb ?_))
 intro p1 w1 hn6
 have h:=h p1 w1 hn6
 refine q (ln (kG (fun ρ w=>Has ρ [(1,(vi inside1)),(2,(vp seen1)),(3,(vp (some p1)))]∧m_G_j1 inside1 seen1 p1 w K) ?_ ?_))
 rintro ρ w ⟨hH,h⟩
 refine jQ hH (eg (q (qm h fun a1 h=>ql (isAgg3 _) h fun v1 h=>q (qm h fun a2 h=>st1 (sizeOf3 _) h fun w2 h=>ln (eg ?_)))))
 obtain ⟨aA,aB,aC,aD,aE,bM,hv10,h⟩:=h
 refine qa (isAgg53 _) (sizeOf53 _) hv10 (sc call60 (h.mono fun e w3 ⟨aZ,bA,bB,bC,bD,bE,bF,k,h⟩=>⟨_,k,?_⟩))
 refine nw1 h (jG (zeroValue59 _) rfl) fun p2 w4 h=>sro (sizeOf59 _) h fun w5 h=>ln (eg ?_)
 obtain ⟨aO,aP,aQ,aR,aS,aF,aG,hv9,h⟩:=h
 refine qa (isAgg59 _) (sizeOf59 _) hv9 (sc call61 (h.mono fun e w6 ⟨rfrom1,rto1,rnum1,rtext1,rkids1,r1,k,h⟩=>⟨_,k,?_⟩))
 refine qc (nw1 h (jG (zeroValue123 _) rfl) fun p3 w7 h=>sro (sizeOf123 _) h fun w8 h=>q (ln (kG (fun ρ w=>∃e1,Has ρ [(1,(vi inside1)),(2,(vp seen1)),(3,(vp (some p1))),(7,(vp (some p2))),(8,(vp (some p3))),(9,(vi e1))]∧m_G_j2 inside1 seen1 p1 p2 p3 e1 w K) ?_ ?_)))
 rintro ρ w ⟨e1,hH,h⟩
 refine jQ hH (kG (fun ρ w=>∃e2,Has ρ [(1,(vi inside1)),(2,(vp seen1)),(3,(vp (some p1))),(9,(vi e2))]∧m_G_j3 inside1 seen1 p1 e2 w K) ?_ ?_)
 rintro ρ w ⟨e2,hH,h⟩
 refine jQ hH (jA (eg (q (ln (jM ?_)))))
 obtain ⟨I1,mu1,h0,hr⟩:=h
 refine kL (σ:=Int×Int×World) (fun s ρ w=>w=s.2.2∧Has ρ [(1,(vi inside1)),(2,(vp seen1)),(3,(vp (some p1))),(9,(vi s.1)),(10,(vi s.2.1))]∧I1 s.1 s.2.1 s.2.2) (fun s=>mu1 s.1 s.2.1 s.2.2) (e2,0,w) ⟨rfl,hm,h0⟩ ?_
 rintro ⟨e3,i1,wl1⟩ ρ w ⟨hw,hH,hI⟩
 dsimp only at hw hH;subst w
 have h:=hr e3 i1 wl1 hI
 refine jQ hH (jA (eg (qb (ql (isAgg51 _) h fun v2 h=>qc ?_))))
 obtain ⟨hg1,h⟩|⟨hg1,h⟩:=h.br
 refine qk 51 hg1 (qk 51 hg1 (q2 (vb (e3 == 0)) (xT hg1) (ln (cbr h ?_ ?_))))<;>intro h
 refine jB (jN (jA (jM (rg (q (ql (isAgg51 _) h fun v3 h=>q (qi (runUnderlying51 _) (sizeOf53 _) h fun a3 h=>?_)))))))
 obtain ⟨bG,bH,bI,bJ,bK,bL,hv1,h⟩:=h
 refine qa (isAgg53 _) (sizeOf53 _) hv1 (qc (sc call38 (h.mono fun e w9 ⟨r2,k,h⟩=>⟨_,k,?_⟩)))
 refine q (jC (uS (jN (rg (qc (ln ⟨(r2,(q6.wrap (i1+1)),w9),⟨rfl,hm,h.1⟩,h.2⟩))))))
 refine zV (xG (xG (xE (jN (eg (q0 (vi e3) (q0 (vi e3) (ln (er (rs1 results38 ⟨e3,rfl,h⟩))))))))))
 refine sj2 51 hg1 (q2 (vb false) (xF hg1) (ln (kR (by kernel_rfl) (zV (xG (xG (xE (jN (jA (rg (qb (ln (er (rs1 results38 ⟨e3,rfl,h⟩))))))))))))))
 refine eg (qb (ln (cbr h ?_ ?_)))<;>intro h
 refine rg ?_
 obtain ⟨vfrom1,vto1,vnum1,vtext1,vkids1,hv6,h⟩:=h
 refine qa (isAgg123 _) (sizeOf123 _) hv6 ?_
 obtain ⟨bN,bO,bP,bQ,bR,bS,bT,hv5,h⟩:=h
 refine qa (isAgg59 _) (sizeOf59 _) hv5 (sc call62 (h.mono fun e w10 ⟨r3,k,h⟩=>⟨_,k,?_⟩))
 refine q (ln ⟨r3,hm,h⟩)
 refine jB (jN ⟨e1,hm,h⟩)
 refine eg (qc ?_)
 obtain ⟨hg2,h⟩|⟨hg2,h⟩:=h.br
 refine qk 33 hg2 ?_
 obtain ⟨v4,hv8,h⟩:=h
 refine q4 33 hg2 (xl (isAgg51 _) hv8) (qk 33 hg2 (qk 33 hg2 ?_))
 obtain ⟨v5,hv7,h⟩:=h
 refine q4 33 hg2 (xl (isAgg3 _) hv7) (qk 33 hg2 (q2 (vb (((v4.len:Int):Int) != v5)) (xT hg2) (ln (cbr h ?_ ?_))))<;>intro h
 refine rg (q (ln ⟨53,hm,h⟩))
 refine jB (jN ⟨r1,hm,h⟩)
 refine sj 33 hg2 (sj5 33 hg2 (q2 (vb false) (xF hg2) (ln (kR (by kernel_rfl) (jB (jN ⟨r1,hm,h⟩))))))
 refine eg (q (qm h fun a4 h=>ql (isAgg3 _) h fun v6 h=>qb ?_))
 obtain ⟨hg3,h⟩|⟨hg3,h⟩:=h.br
 refine sj2 15 hg3 (q2 (vb true) (xT hg3) (ln (vA (by kernel_rfl) (eg (q0 (vi 52) (ln (er (zM (rs1 results38 ⟨52,rfl,h⟩)))))))))
 refine qk 15 hg3 (qk 15 hg3 (q2 (vb (decide (inside1≥64))) (xF hg3) (ln (cbr h ?_ ?_))))<;>intro h
 refine eg (q (ln (er (zM (rs1 results38 ⟨52,rfl,h⟩)))))
 refine jB (jN ⟨hm,h⟩)
def m_A1_l1 (p1:Option Addr) (p3 p4:Addr) (v1:Sl) (x1:Int) (wl1:World) (Kc1:Int→WP) (K:Int→Int→WP):Prop :=Br (decide (x1<(v1.len:Int))) (∃a1:Addr,At v1 x1 6 a1∧∃aO aP aQ aR aS bL,Row wl1 a1 (Af aO aP aQ aR aS bL)∧∀p5 w6,New wl1 (.cells #[(vi 0),(vi 0),(vi 0),(vu 0),ve,Sl.nil.v] 53) p5 w6→(∀j,j<6→jT w6 (p5.add j))∧∀w7,w7=storeRow w6 p5 (Af aO aP aQ aR aS bL)→∃bG bH bI bJ bK cK,Row w7 p5 (Af bG bH bI bJ bK cK)∧Calls prog 39 #[(vp p1),(.agg #[(vi bG),(vi bH),(vi bI),(vu bJ),(vs bK),cK.v])] w7 (fun e w8=>∃r1 r2,e=.returned (.tuple #[(vi r1),(vi r2)])∧Br (r2 != 0) (K 0 r2 w8) (∃a2:Addr,At (Sl.mk (some p4) 2 2) x1 1 a2∧∃v2,w8.cell? a2=some (vp v2)∧∃a3,v2=some a3∧jT w8 a3∧∀w9,w9=w8.setCell a3 (vi r1)→Kc1 (q6.wrap (x1+1)) w9))) (∃bN bO bP bQ bR aF aG,Row wl1 p3 (Ad bN bO bP bQ bR aF aG)∧Calls prog 63 #[(vp p1),(.agg #[(vi bN),(vi bO),(vi bP),(vu bQ),(vs bR),(vi aF),(vi aG)])] wl1 (fun e w10=>∃r3 r4,e=.returned (.tuple #[(vi r3),(vi r4)])∧K r3 r4 w10))
def m_A1 (p1:Option Addr) (aT aU:Int) (aV aW:Int) (aX:ByteArray) (aY:Sl) (w:World) (K:Int→Int→WP):Prop :=∀p2 w1,New w (.cells #[(vi aT),(vi aU),(vi aV),(vu aW),(vs aX),aY.v] 53) p2 w1→∃aA aB aC aD aE bM,Row w1 p2 (Af aA aB aC aD aE bM)∧Calls prog 60 #[(.agg #[(vi aA),(vi aB),(vi aC),(vu aD),(vs aE),bM.v])] w1 (fun e w2=>∃aZ bA bB bC bD bE bF,e=.returned (Ae aZ bA bB bC bD bE bF)∧∀p3 w3,New w2 (.cells #[(vi 0),(vi 0),(vi 0),(vu 0),ve,(vi 0),(vi 0)] 59) p3 w3→(∀j,j<7→jT w3 (p3.add j))∧∀w4,w4=storeRow w3 p3 (Ad aZ bA bB bC bD bE bF)→∀p4 w5,New w4 (.cells #[(vp (some (p3.add 5))),(vp (some (p3.add 6)))] 127) p4 w5→∃v1:Sl,w5.cell? (p2.add 5)=some v1.v∧∃(I1:Int→WP) (mu1:Int→World→Nat),I1 0 w5∧∀(x1:Int) (wl1:World),I1 x1 wl1→m_A1_l1 p1 p3 p4 v1 x1 wl1 (fun y'0 w'=>I1 y'0 w'∧mu1 y'0 w'<mu1 x1 wl1) K)
theorem w_A1 (p1 aT aU aV aW aX aY w K) (h:m_A1 p1 aT aU aV aW aX aY w K):
  Calls prog 39 #[(vp p1),(.agg #[(vi aT),(vi aU),(vi aV),(vu aW),(vs aX),aY.v])] w (fun e w'=>∃r5 r6,e=.returned (.tuple #[(vi r5),(vi r6)])∧K r5 r6 w'):=by
 refine cw (args:=[(vp p1),(Ab aT aU aV aW aX aY)]) func39 ntmps39 (eg (sn (O:=(.cells #[(vi aT),(vi aU),(vi aV),(vu aW),(vs aX),aY.v] 53)) xb ?_))
 intro p2 w1 hn7
 have h:=h p2 w1 hn7
 refine qb (ln (eg ?_))
 obtain ⟨aA,aB,aC,aD,aE,bM,hv8,h⟩:=h
 refine qa (isAgg53 _) (sizeOf53 _) hv8 (sc call60 (h.mono fun e w2 ⟨aZ,bA,bB,bC,bD,bE,bF,k,h⟩=>⟨_,k,?_⟩))
 refine nw1 h (jG (zeroValue59 _) rfl) fun p3 w3 h=>sro (sizeOf59 _) h fun w4 h=>ln (eg (qb (nw4 (fun p=>(Sl.mk (some p) 2 2).v) h fun p4 w5 h=>q (ln (jA (eg (q (ql (isAgg51 _) h fun v1 h=>qb (ln (jM ?_))))))))))
 obtain ⟨I1,mu1,h0,hr⟩:=h
 refine kL (σ:=Int×World) (fun s ρ w=>w=s.2∧Has ρ [(0,(vp p1)),(6,(vp (some p3))),(7,(Sl.mk (some p4) 2 2).v),(18,v1.v),(19,(vi (v1.len:Int))),(20,(vi s.1))]∧I1 s.1 s.2) (fun s=>mu1 s.1 s.2) (0,w5) ⟨rfl,hm,h0⟩ ?_
 rintro ⟨x1,wl1⟩ ρ w ⟨hw,hH,hI⟩
 dsimp only at hw hH;subst w
 have h:=hr x1 wl1 hI
 refine jQ hH (eg (q (ln (jA (cbr h ?_ ?_)))))<;>intro h
 refine jB (jN (jA (jM (eg (q (qi (runUnderlying51 _) (sizeOf53 _) h fun a1 h=>?_))))))
 obtain ⟨aO,aP,aQ,aR,aS,bL,hv4,h⟩:=h
 refine qa (isAgg53 _) (sizeOf53 _) hv4 (nw1 h (jG (zeroValue53 _) rfl) fun p5 w6 h=>q (sro (sizeOf53 _) h fun w7 h=>ln (eg (q ?_))))
 obtain ⟨bG,bH,bI,bJ,bK,cK,hv3,h⟩:=h
 refine qa (isAgg53 _) (sizeOf53 _) hv3 (sc call39 (h.mono fun e w8 ⟨r1,r2,k,h⟩=>⟨_,k,?_⟩))
 refine q (qd (ln (jA (eg (qb (ln (cbr h ?_ ?_)))))))<;>intro h
 refine eg (qc (ln (er (zM (qJ (zM (zM (qJ (zM (oX (.inl rfl) results39 (v:=(vi 0)) (by kernel_rfl) (v':=(vi r2)) (by kernel_rfl) ⟨0,r2,rfl,h⟩))))))))))
 refine jB (jN (rg (qb (qi (runUnderlying128 _) (sizeOf127 _) h fun a2 h=>ql (isAgg127 _) h fun v2 h=>q (qm h fun a3 h=>st1 (sizeOf29 _) h fun w9 h=>jC (uS (jN (rg (qb (ln ⟨((q6.wrap (x1+1)),w9),⟨rfl,hm,h.1⟩,h.2⟩))))))))))
 refine zV (xG (xG (xE (jN (eg (q0 (vp p1) ?_))))))
 obtain ⟨bN,bO,bP,bQ,bR,aF,aG,hv6,h⟩:=h
 refine qa (isAgg59 _) (sizeOf59 _) hv6 (sc call63 (h.mono fun e w10 ⟨r3,r4,k,h⟩=>⟨_,k,?_⟩))
 refine qd (ln (er (oX (.inl rfl) results39 (v:=(vi r3)) (by kernel_rfl) (v':=(vi r4)) (by kernel_rfl) ⟨r3,r4,rfl,h⟩)))
def m_B1_l1 (p1:Option Addr) (n1:Int) (s1:Sl) (x1:Int) (wl1:World) (Kc1:Int→WP) (K:WP):Prop :=Br (decide (x1<(s1.len:Int))) (∃a2:Addr,At s1 x1 9 a2∧∃vnodeKind1 vnodeFrom1 vnodeTo1 vnodeNum1 vnodeText1 vnodeA1 vnodeB1 vsize1 vdepth1,Row wl1 a2 [(vi vnodeKind1),(vi vnodeFrom1),(vi vnodeTo1),(vu vnodeNum1),(vs vnodeText1),(vi vnodeA1),(vi vnodeB1),(vi vsize1),(vi vdepth1)]∧∀p2 w1,New wl1 (.cells #[(vi 0),(vi 0),(vi 0),(vu 0),ve,(vi 0),(vi 0),(vi 0),(vi 0)] 96) p2 w1→(∀j,j<9→jT w1 (p2.add j))∧∀w2,w2=storeRow w1 p2 [(vi vnodeKind1),(vi vnodeFrom1),(vi vnodeTo1),(vu vnodeNum1),(vs vnodeText1),(vi vnodeA1),(vi vnodeB1),(vi vsize1),(vi vdepth1)]→∃C1:WP,C1 w2.drew∧∀w3,w3=w2.drew→∃a3,p1=some a3∧∃v2:Option Nat,(∀w',C1 w'→w'.cell? (a3.add 1)=some (.map v2))∧∃aA aB aC aD aE aF aG,(∀w',C1 w'→Row w' p2 (Ad aA aB aC aD aE aF aG))∧∃w4:World,(Builtin.delete_ #[45,59] 0 #[(.map v2),(Ae aA aB aC aD aE aF aG)]).run prog w3=.ok (.tuple #[]) w4∧Kc1 (q6.wrap (x1+1)) w4) (∃a4,p1=some a4∧∃v3:Sl,wl1.cell? a4=some v3.v∧∃s2:Sl,(Instr.sliceAt 46 v3.v none (some (vi n1)) none).run prog wl1=.ok s2.v wl1∧∃a5,p1=some a5∧jT wl1 a5∧∀w5,w5=wl1.setCell a5 s2.v→K w5)
def m_B1 (p1:Option Addr) (n1:Int) (w:World) (K:WP):Prop :=∃a1,p1=some a1∧∃v1:Sl,w.cell? a1=some v1.v∧∃s1:Sl,(Instr.sliceAt 46 v1.v (some (vi n1)) none none).run prog w=.ok s1.v w∧∃(I1:Int→WP) (mu1:Int→World→Nat),I1 0 w∧∀(x1:Int) (wl1:World),I1 x1 wl1→m_B1_l1 p1 n1 s1 x1 wl1 (fun y'0 w'=>I1 y'0 w'∧mu1 y'0 w'<mu1 x1 wl1) K
theorem w_B1 (p1 n1 w K) (h:m_B1 p1 n1 w K):
  Calls prog 40 #[(vp p1),(vi n1)] w (fun e w'=>e=.returned (.tuple #[])∧K  w'):=by
 refine cw (args:=[(vp p1),(vi n1)]) func40 ntmps40 (jA (eg (q0 (vp p1) ?_)))
 refine qm h fun a1 h=>q (ql (isAgg46 _) h fun v1 h=>q ?_)
 obtain ⟨s1,hv8,h⟩:=h
 refine q2 s1.v (yF (by kernel_rfl) (by kernel_rfl) (by kernel_rfl) (by kernel_rfl) hv8) (qb (ln (jM ?_)))
 obtain ⟨I1,mu1,h0,hr⟩:=h
 refine kL (σ:=Int×World) (fun s ρ w=>w=s.2∧Has ρ [(0,(vp p1)),(1,(vi n1)),(11,s1.v),(12,(vi (s1.len:Int))),(13,(vi s.1))]∧I1 s.1 s.2) (fun s=>mu1 s.1 s.2) (0,w) ⟨rfl,hm,h0⟩ ?_
 rintro ⟨x1,wl1⟩ ρ w ⟨hw,hH,hI⟩
 dsimp only at hw hH;subst w
 have h:=hr x1 wl1 hI
 refine jQ hH (eg (q (ln (jA (cbr h ?_ ?_)))))<;>intro h
 refine jB (jN (jA (jM (eg (qi (runUnderlying46 _) (sizeOf96 _) h fun a2 h=>?_)))))
 obtain ⟨vnodeKind1,vnodeFrom1,vnodeTo1,vnodeNum1,vnodeText1,vnodeA1,vnodeB1,vsize1,vdepth1,hv4,h⟩:=h
 refine qa (isAgg96 _) (sizeOf96 _) hv4 (nw1 h (jG (zeroValue96 _) rfl) fun p2 w1 h=>sro (sizeOf96 _) h fun w2 h=>ln ?_)
 obtain ⟨C1,hC,h⟩:=h
 refine dr1 C1 [6] [6] hC h fun w3 h=>qx 0 (vp p1) Kp0 (qg 1 ?_)
 obtain ⟨a3,hp3,h⟩:=h
 refine sy Kp1 (fun _ _=>xn hp3) (qx 2 (vp (some (a3.add 1))) Kp2 (qg 3 ?_))
 obtain ⟨v2,hv3,h⟩:=h
 refine sy Kp3 (fun _ k=>xl (isAgg45 _) (hv3 _ k)) (qx 4 (vp (some p2)) Kp4 (qg 5 ?_))
 obtain ⟨aA,aB,aC,aD,aE,aF,aG,hv2,h⟩:=h
 refine sy (v:=(Ae aA aB aC aD aE aF aG)) Kp5 (fun w' hw'=>(xa p2 (Ad aA aB aC aD aE aF aG) (isAgg59 _) (sizeOf59 _) (hv2 w' hw'))) (lg 6 ?_)
 obtain ⟨w4,hv1,h⟩:=h
 refine sl (v:=(.tuple #[])) Kp6 (jK rfl) (by kernel_rfl) (kB (args:=#[(.map v2),(Ae aA aB aC aD aE aF aG)]) (by kernel_rfl) (fun _=>rfl) hv1) (.inl (by kernel_rfl)) (wn (uS (jN (rg (q0 (vi (q6.wrap (x1+1))) (q0 (vi (q6.wrap (x1+1))) (ln ⟨((q6.wrap (x1+1)),w4),⟨rfl,hm,h.1⟩,h.2⟩)))))))
 refine zV (xG (xG (xE (jN (rg (q0 (vp p1) (q0 (vp p1) (qm h fun a4 h=>q (ql (isAgg46 _) h fun v3 h=>q ?_)))))))))
 obtain ⟨s2,hv6,h⟩:=h
 refine q2 s2.v (yF (by kernel_rfl) (by kernel_rfl) (by kernel_rfl) (by kernel_rfl) hv6) (qm h fun a5 h=>q (st1 (sizeOf46 _) h fun w5 h=>jC (jFV (.inr rfl) results40 ⟨rfl,h⟩)))
def m_R1 (p1:Option Addr) (w:World) (K:Int→WP):Prop :=Br (Option.isNone p1) (K 0 w) (∃a1,p1=some a1∧∃v1:Sl,w.cell? a1=some v1.v∧K (v1.len:Int) w)
theorem w_R1 (p1 w K) (h:m_R1 p1 w K):
  Calls prog 51 #[(vp p1)] w (fun e w'=>∃r1,e=.returned (vi r1)∧K r1 w'):=by
 refine cw (args:=[(vp p1)]) func51 ntmps51 (eg (q0 (vi 0) (ln (jA (eg (q0 (vp p1) (q2 (vb (Option.isNone p1)) (qK (by kernel_rfl) rfl underlying27) (jC ?_))))))))
 refine jN (cbr h ?_ ?_)<;>intro h
 refine eg (q (ln (er (zM (rs1 results51 ⟨0,rfl,h⟩)))))
 refine jB (jN (eg (q (qm h fun a1 h=>q (ql (isAgg46 _) h fun v1 h=>qb (ln (er (rs1 results51 ⟨(v1.len:Int),rfl,h⟩))))))))
def m_S1 (aT aU:Int) (aV aW:Int) (aX:ByteArray) (aY:Sl) (w:World) (K:Int→Int→Int→Int→ByteArray→Int→Int→WP):Prop :=∀p1 w1,New w (.cells #[(vi aT),(vi aU),(vi aV),(vu aW),(vs aX),aY.v] 53) p1 w1→∀p2 w2,New w1 (.cells #[(vi 0),(vi 0),(vi 0),(vu 0),ve,(vi 0),(vi 0)] 59) p2 w2→∃v1,w2.cell? p1=some (vi v1)∧∃v2,w2.cell? (p1.add 1)=some (vi v2)∧∃v3,w2.cell? (p1.add 2)=some (vi v3)∧∃v4,w2.cell? (p1.add 3)=some (vu v4)∧∃v5,w2.cell? (p1.add 4)=some (vs v5)∧(∀j,j<7→jT w2 (p2.add j))∧∀w3,w3=storeRow w2 p2 (Ad v1 v2 v3 v4 v5 0 0)→∃bU bV bW bX bY bZ cA,Row w3 p2 (Ad bU bV bW bX bY bZ cA)∧K bU bV bW bX bY bZ cA w3
theorem w_S1 (aT aU aV aW aX aY w K) (h:m_S1 aT aU aV aW aX aY w K):
  Calls prog 60 #[(.agg #[(vi aT),(vi aU),(vi aV),(vu aW),(vs aX),aY.v])] w (fun e w'=>∃aZ bA bB bC bD bE bF,e=.returned (Ae aZ bA bB bC bD bE bF)∧K aZ bA bB bC bD bE bF w'):=by
 refine cw (args:=[(Ab aT aU aV aW aX aY)]) func60 ntmps60 (eg (sn (O:=(.cells #[(vi aT),(vi aU),(vi aV),(vu aW),(vs aX),aY.v] 53)) xb ?_))
 intro p1 w1 hn3
 have h:=h p1 w1 hn3
 refine nw1 h (jG (zeroValue59 _) rfl) fun p2 w2 h=>ln (eg (q (ql (isAgg3 _) h fun v1 h=>q (ql (isAgg3 _) h fun v2 h=>q (ql (isAgg3 _) h fun v3 h=>q (ql (isAgg22 _) h fun v4 h=>q (ql (isAgg9 _) h fun v5 h=>q (sro (sizeOf59 _) h fun w3 h=>ln (er ?_)))))))))
 obtain ⟨bU,bV,bW,bX,bY,bZ,cA,hv1,h⟩:=h
 refine gg1 results60 (rva (isAgg59 _) (sizeOf59 _) hv1) ⟨bU,bV,bW,bX,bY,bZ,cA,rfl,h⟩
def m_B_j3 (p1 p2 p3:Addr) (x3:Bool) (w:World) (K:Bool→Bool→Bool→Bool→Int→Int→WP):Prop :=Br x3 (∃vfrom1 vto1 vnum1 vtext1 vkids1,Row w p3 (Ah vfrom1 vto1 vnum1 vtext1 vkids1)∧(∀j,j<5→jT w (p2.add j))∧∀w6,w6=storeRow w p2 (Ah vfrom1 vto1 vnum1 vtext1 vkids1)→∃qfrom1 qto1 qnum1 qtext1 qkids1,Row w6 p2 (Ah qfrom1 qto1 qnum1 qtext1 qkids1)∧K qfrom1 qto1 qnum1 qtext1 qkids1 53 w6) (∃v2,w.cell? (p3.add 3)=some (vb v2)∧Br (!v2) (∃v3,w.cell? (p1.add 4)=some (vs v3)∧Br (!(decide (v3=⟨#[]⟩))) (∃vfrom2 vto2 vnum2 vtext2 vkids2,Row w p3 (Ah vfrom2 vto2 vnum2 vtext2 vkids2)∧(∀j,j<5→jT w (p2.add j))∧∀w7,w7=storeRow w p2 (Ah vfrom2 vto2 vnum2 vtext2 vkids2)→∃qfrom2 qto2 qnum2 qtext2 qkids2,Row w7 p2 (Ah qfrom2 qto2 qnum2 qtext2 qkids2)∧K qfrom2 qto2 qnum2 qtext2 qkids2 53 w7) (∃vfrom3 vto3 vnum3 vtext3 vkids3,Row w p3 (Ah vfrom3 vto3 vnum3 vtext3 vkids3)∧(∀j,j<5→jT w (p2.add j))∧∀w8,w8=storeRow w p2 (Ah vfrom3 vto3 vnum3 vtext3 vkids3)→∃qfrom3 qto3 qnum3 qtext3 qkids3,Row w8 p2 (Ah qfrom3 qto3 qnum3 qtext3 qkids3)∧K qfrom3 qto3 qnum3 qtext3 qkids3 0 w8)) (∃vfrom4 vto4 vnum4 vtext4 vkids4,Row w p3 (Ah vfrom4 vto4 vnum4 vtext4 vkids4)∧(∀j,j<5→jT w (p2.add j))∧∀w9,w9=storeRow w p2 (Ah vfrom4 vto4 vnum4 vtext4 vkids4)→∃qfrom4 qto4 qnum4 qtext4 qkids4,Row w9 p2 (Ah qfrom4 qto4 qnum4 qtext4 qkids4)∧K qfrom4 qto4 qnum4 qtext4 qkids4 0 w9))
def m_B_j4 (p1 p2 p3:Addr) (x2 x4:Bool) (w:World) (K:Bool→Bool→Bool→Bool→Int→Int→WP):Prop :=Br x2 (m_B_j3 p1 p2 p3 true w K) (m_B_j3 p1 p2 p3 x4 w K)
def m_B_j2 (p1 p2 p3:Addr) (x2:Bool) (w:World) (K:Bool→Bool→Bool→Bool→Int→Int→WP):Prop :=Br x2 (m_B_j3 p1 p2 p3 true w K) (∃v4,w.cell? (p3.add 2)=some (vb v4)∧Br (!v4) (∃v5,w.cell? (p1.add 3)=some (vu v5)∧m_B_j4 p1 p2 p3 x2 (v5 != 0) w K) (m_B_j4 p1 p2 p3 x2 false w K))
def m_B_j5 (p1 p2 p3:Addr) (x1 x5:Bool) (w:World) (K:Bool→Bool→Bool→Bool→Int→Int→WP):Prop :=Br x1 (m_B_j2 p1 p2 p3 true w K) (m_B_j2 p1 p2 p3 x5 w K)
def m_B_j1 (p1 p2 p3:Addr) (x1:Bool) (w:World) (K:Bool→Bool→Bool→Bool→Int→Int→WP):Prop :=Br x1 (m_B_j2 p1 p2 p3 true w K) (∃v6,w.cell? (p3.add 1)=some (vb v6)∧Br (!v6) (∃v7,w.cell? (p1.add 2)=some (vi v7)∧m_B_j5 p1 p2 p3 x1 (v7 != 0) w K) (m_B_j5 p1 p2 p3 x1 false w K))
def m_B_j6 (p1 p2:Addr) (r1:Bool) (p3:Addr) (x6:Bool) (w:World) (K:Bool→Bool→Bool→Bool→Int→Int→WP):Prop :=Br (!r1) (m_B_j1 p1 p2 p3 true w K) (m_B_j1 p1 p2 p3 x6 w K)
def m_B (aH aI:Int) (aJ aK:Int) (aL:ByteArray) (aM aN:Int) (w:World) (K:Bool→Bool→Bool→Bool→Int→Int→WP):Prop :=∀p1 w1,New w (.cells #[(vi aH),(vi aI),(vi aJ),(vu aK),(vs aL),(vi aM),(vi aN)] 59) p1 w1→∀p2 w2,New w1 (.cells #[(vb false),(vb false),(vb false),(vb false),(vi 0)] 123) p2 w2→∃v1,w2.cell? p1=some (vi v1)∧Calls prog 80 #[(vi v1)] w2 (fun e w3=>∃rfrom1 rto1 rnum1 rtext1 rkids1 r1,e=.returned (.tuple #[(Ai rfrom1 rto1 rnum1 rtext1 rkids1),(vb r1)])∧∀p3 w4,New w3 (.cells #[(vb false),(vb false),(vb false),(vb false),(vi 0)] 123) p3 w4→(∀j,j<5→jT w4 (p3.add j))∧∀w5,w5=storeRow w4 p3 (Ah rfrom1 rto1 rnum1 rtext1 rkids1)→Br (!r1) (m_B_j1 p1 p2 p3 true w5 K) (∃v8,w5.cell? p3=some (vb v8)∧Br (!v8) (∃v9,w5.cell? (p1.add 1)=some (vi v9)∧m_B_j6 p1 p2 r1 p3 (v9 != 0) w5 K) (m_B_j6 p1 p2 r1 p3 false w5 K)))
theorem w_B (aH aI aJ aK aL aM aN w K) (h:m_B aH aI aJ aK aL aM aN w K):
  Calls prog 61 #[(.agg #[(vi aH),(vi aI),(vi aJ),(vu aK),(vs aL),(vi aM),(vi aN)])] w (fun e w'=>∃rfrom2 rto2 rnum2 rtext2 rkids2 r2,e=.returned (.tuple #[(Ai rfrom2 rto2 rnum2 rtext2 rkids2),(vi r2)])∧K rfrom2 rto2 rnum2 rtext2 rkids2 r2 w'):=by
 refine cw (args:=[(Ae aH aI aJ aK aL aM aN)]) func61 ntmps61 (eg (sn (O:=(.cells #[(vi aH),(vi aI),(vi aJ),(vu aK),(vs aL),(vi aM),(vi aN)] 59)) xb ?_))
 intro p1 w1 hn8
 have h:=h p1 w1 hn8
 refine nw1 h (jG (zeroValue123 _) rfl) fun p2 w2 h=>q (ln (eg (q (ql (isAgg3 _) h fun v1 h=>sc call80 (h.mono fun e w3 ⟨rfrom1,rto1,rnum1,rtext1,rkids1,r1,k,h⟩=>⟨_,k,?_⟩)))))
 refine qc (nw1 h (jG (zeroValue123 _) rfl) fun p3 w4 h=>sro (sizeOf123 _) h fun w5 h=>q (ln (jA (eg (qc (jU 9 (fun ρ w=>∃x1,Has ρ [(1,(vp (some p1))),(2,(vp (some p2))),(4,(vp (some p3))),(23,(vb x1))]∧m_B_j1 p1 p2 p3 x1 w K) ?_ ?_))))))
 rintro ρ w ⟨x1,hH,h⟩
 refine zB hH (q (jU 9 (fun ρ w=>∃x2,Has ρ [(1,(vp (some p1))),(2,(vp (some p2))),(4,(vp (some p3))),(33,(vb x2))]∧m_B_j2 p1 p2 p3 x2 w K) ?_ ?_))
 rintro ρ w ⟨x2,hH,h⟩
 refine zB hH (q (jU 9 (fun ρ w=>∃x3,Has ρ [(1,(vp (some p1))),(2,(vp (some p2))),(4,(vp (some p3))),(43,(vb x3))]∧m_B_j3 p1 p2 p3 x3 w K) ?_ ?_))
 rintro ρ w ⟨x3,hH,h⟩
 refine zB hH (q ?_)
 obtain ⟨hg1,h⟩|⟨hg1,h⟩:=h.br
 refine sj4 44 hg1 (sm (sm (sm (sj 44 hg1 (q2 (vb true) (xT hg1) (ln (vA (by kernel_rfl) (eg ?_))))))))
 obtain ⟨vfrom1,vto1,vnum1,vtext1,vkids1,hv2,h⟩:=h
 refine qa (isAgg123 _) (sizeOf123 _) hv2 (sro (sizeOf123 _) h fun w6 h=>q (ln (er (zM ?_))))
 obtain ⟨qfrom1,qto1,qnum1,qtext1,qkids1,hv1,h⟩:=h
 refine gg2 results61 (rva (isAgg123 _) (sizeOf123 _) hv1) (rvU (vi 53)) ⟨qfrom1,qto1,qnum1,qtext1,qkids1,53,rfl,h⟩
 refine qk 44 hg1 ?_
 obtain ⟨v2,hv10,h⟩:=h
 refine q4 44 hg1 (xl (isAgg4 _) hv10) (qk 44 hg1 (qk 44 hg1 ?_))
 obtain ⟨hg2,h⟩|⟨hg2,h⟩:=h.br
 refine qk 48 hg2 ?_
 obtain ⟨v3,hv7,h⟩:=h
 refine q4 48 hg2 (xl (isAgg9 _) hv7) (stq (v:=(vb (!(decide (v3=⟨#[]⟩))))) (wy 48 hg2) (yX (by kernel_rfl) (by kernel_rfl)) (stq (v:=(vb (!(decide (v3=⟨#[]⟩))))) (wy 44 hg1) (xT hg2) (q2 (vb (!(decide (v3=⟨#[]⟩)))) (xF hg1) (ln (cbr h ?_ ?_)))))<;>intro h
 refine eg ?_
 obtain ⟨vfrom2,vto2,vnum2,vtext2,vkids2,hv4,h⟩:=h
 refine qa (isAgg123 _) (sizeOf123 _) hv4 (sro (sizeOf123 _) h fun w7 h=>q (ln (er (zM ?_))))
 obtain ⟨qfrom2,qto2,qnum2,qtext2,qkids2,hv3,h⟩:=h
 refine gg2 results61 (rva (isAgg123 _) (sizeOf123 _) hv3) (rvU (vi 53)) ⟨qfrom2,qto2,qnum2,qtext2,qkids2,53,rfl,h⟩
 refine jB (jN (eg ?_))
 obtain ⟨vfrom3,vto3,vnum3,vtext3,vkids3,hv6,h⟩:=h
 refine qa (isAgg123 _) (sizeOf123 _) hv6 (sro (sizeOf123 _) h fun w8 h=>q (ln (er ?_)))
 obtain ⟨qfrom3,qto3,qnum3,qtext3,qkids3,hv5,h⟩:=h
 refine gg2 results61 (rva (isAgg123 _) (sizeOf123 _) hv5) (rvU (vi 0)) ⟨qfrom3,qto3,qnum3,qtext3,qkids3,0,rfl,h⟩
 refine sj3 48 hg2 (stq (v:=(vb false)) (wy 44 hg1) (xF hg2) (q2 (vb false) (xF hg1) (ln (kR (by kernel_rfl) (jB (jN (eg ?_)))))))
 obtain ⟨vfrom4,vto4,vnum4,vtext4,vkids4,hv9,h⟩:=h
 refine qa (isAgg123 _) (sizeOf123 _) hv9 (sro (sizeOf123 _) h fun w9 h=>q (ln (er ?_)))
 obtain ⟨qfrom4,qto4,qnum4,qtext4,qkids4,hv8,h⟩:=h
 refine gg2 results61 (rva (isAgg123 _) (sizeOf123 _) hv8) (rvU (vi 0)) ⟨qfrom4,qto4,qnum4,qtext4,qkids4,0,rfl,h⟩
 obtain ⟨hg3,h⟩|⟨hg3,h⟩:=h.br
 refine sj4 34 hg3 (sm (sm (sm (sj 34 hg3 (q2 (vb true) (xT hg3) (jC ⟨true,hm,h⟩))))))
 refine qk 34 hg3 ?_
 obtain ⟨v4,hv12,h⟩:=h
 refine q4 34 hg3 (xl (isAgg4 _) hv12) (qk 34 hg3 (qk 34 hg3 (jU 4 (fun ρ w=>∃x4,Has ρ [(1,(vp (some p1))),(2,(vp (some p2))),(4,(vp (some p3))),(34,(vb x2)),(42,(vb x4))]∧m_B_j4 p1 p2 p3 x2 x4 w K) ?_ ?_)))
 rintro ρ w ⟨x4,hH,h⟩
 refine zB hH ?_
 obtain ⟨hg4,h⟩|⟨hg4,h⟩:=h.br
 refine q2 (vb true) (xT hg4) (jC ⟨true,hm,h⟩)
 refine q2 (vb x4) (xF hg4) (jC ⟨x4,hm,h⟩)
 obtain ⟨hg5,h⟩|⟨hg5,h⟩:=h.br
 refine qk 38 hg5 ?_
 obtain ⟨v5,hv11,h⟩:=h
 refine q4 38 hg5 (xl (isAgg22 _) hv11) (qk 38 hg5 (stq (v:=(vb (v5 != 0))) (wy 34 hg3) (xT hg5) (jC ⟨(v5 != 0),hm,h⟩)))
 refine sj3 38 hg5 (stq (v:=(vb false)) (wy 34 hg3) (xF hg5) (jC ⟨false,hm,h⟩))
 obtain ⟨hg6,h⟩|⟨hg6,h⟩:=h.br
 refine sj4 24 hg6 (sm (sm (sm (sj 24 hg6 (q2 (vb true) (xT hg6) (jC ⟨true,hm,h⟩))))))
 refine qk 24 hg6 ?_
 obtain ⟨v6,hv14,h⟩:=h
 refine q4 24 hg6 (xl (isAgg4 _) hv14) (qk 24 hg6 (qk 24 hg6 (jU 4 (fun ρ w=>∃x5,Has ρ [(1,(vp (some p1))),(2,(vp (some p2))),(4,(vp (some p3))),(24,(vb x1)),(32,(vb x5))]∧m_B_j5 p1 p2 p3 x1 x5 w K) ?_ ?_)))
 rintro ρ w ⟨x5,hH,h⟩
 refine zB hH ?_
 obtain ⟨hg7,h⟩|⟨hg7,h⟩:=h.br
 refine q2 (vb true) (xT hg7) (jC ⟨true,hm,h⟩)
 refine q2 (vb x5) (xF hg7) (jC ⟨x5,hm,h⟩)
 obtain ⟨hg8,h⟩|⟨hg8,h⟩:=h.br
 refine qk 28 hg8 ?_
 obtain ⟨v7,hv13,h⟩:=h
 refine q4 28 hg8 (xl (isAgg3 _) hv13) (qk 28 hg8 (stq (v:=(vb (v7 != 0))) (wy 24 hg6) (xT hg8) (jC ⟨(v7 != 0),hm,h⟩)))
 refine sj3 28 hg8 (stq (v:=(vb false)) (wy 24 hg6) (xF hg8) (jC ⟨false,hm,h⟩))
 obtain ⟨hg9,h⟩|⟨hg9,h⟩:=h.br
 refine sj4 14 hg9 (sm (sm (sm (sj 14 hg9 (q2 (vb true) (xT hg9) (jC ⟨true,hm,h⟩))))))
 refine qk 14 hg9 ?_
 obtain ⟨v8,hv16,h⟩:=h
 refine q4 14 hg9 (xl (isAgg4 _) hv16) (qk 14 hg9 (qk 14 hg9 (jU 4 (fun ρ w=>∃x6,Has ρ [(1,(vp (some p1))),(2,(vp (some p2))),(4,(vp (some p3))),(14,(vb (!r1))),(22,(vb x6))]∧m_B_j6 p1 p2 r1 p3 x6 w K) ?_ ?_)))
 rintro ρ w ⟨x6,hH,h⟩
 refine zB hH ?_
 obtain ⟨hg10,h⟩|⟨hg10,h⟩:=h.br
 refine q2 (vb true) (xT hg10) (jC ⟨true,hm,h⟩)
 refine q2 (vb x6) (xF hg10) (jC ⟨x6,hm,h⟩)
 obtain ⟨hg11,h⟩|⟨hg11,h⟩:=h.br
 refine qk 18 hg11 ?_
 obtain ⟨v9,hv15,h⟩:=h
 refine q4 18 hg11 (xl (isAgg3 _) hv15) (qk 18 hg11 (stq (v:=(vb (v9 != 0))) (wy 14 hg9) (xT hg11) (jC ⟨(v9 != 0),hm,h⟩)))
 refine sj3 18 hg11 (stq (v:=(vb false)) (wy 14 hg9) (xF hg11) (jC ⟨false,hm,h⟩))
def m_X_j1 (p1 p2:Addr) (x1:Bool) (w:World) (K:Int→WP):Prop :=Br x1 (K 50 w) (∃v1,w.cell? (p1.add 1)=some (vb v1)∧Br v1 (∃v2,w.cell? (p2.add 2)=some (vi v2)∧Calls prog 81 #[(vi v2)] w (fun e w3=>∃r1,e=.returned (vb r1)∧Br (!r1) (K 50 w3) (∃v3,w3.cell? (p2.add 2)=some (vi v3)∧∃v4,w3.cell? (p2.add 1)=some (vi v4)∧Br (v3 == v4) (K 50 w3) (∃v5,w3.cell? (p2.add 4)=some (vs v5)∧Br (decide ((v5.size:Int)>64)) (K 1 w3) (K 0 w3))))) (∃v6,w.cell? (p2.add 4)=some (vs v6)∧Br (decide ((v6.size:Int)>64)) (K 1 w) (K 0 w)))
def m_X (sfrom1 sto1:Bool) (snum1 stext1:Bool) (skids1 aH:Int) (aI aJ aK:Int) (aL:ByteArray) (aM aN:Int) (w:World) (K:Int→WP):Prop :=∀p1 w1,New w (.cells #[(vb sfrom1),(vb sto1),(vb snum1),(vb stext1),(vi skids1)] 123) p1 w1→∀p2 w2,New w1 (.cells #[(vi aH),(vi aI),(vi aJ),(vu aK),(vs aL),(vi aM),(vi aN)] 59) p2 w2→∃v7,w2.cell? p1=some (vb v7)∧Br v7 (∃v8,w2.cell? (p2.add 1)=some (vi v8)∧Calls prog 81 #[(vi v8)] w2 (fun e w4=>∃r2,e=.returned (vb r2)∧m_X_j1 p1 p2 (!r2) w4 K)) (m_X_j1 p1 p2 false w2 K)
theorem w_X (sfrom1 sto1 snum1 stext1 skids1 aH aI aJ aK aL aM aN w K) (h:m_X sfrom1 sto1 snum1 stext1 skids1 aH aI aJ aK aL aM aN w K):
  Calls prog 62 #[(.agg #[(vb sfrom1),(vb sto1),(vb snum1),(vb stext1),(vi skids1)]),(.agg #[(vi aH),(vi aI),(vi aJ),(vu aK),(vs aL),(vi aM),(vi aN)])] w (fun e w'=>∃r3,e=.returned (vi r3)∧K r3 w'):=by
 refine cw (args:=[(Ai sfrom1 sto1 snum1 stext1 skids1),(Ae aH aI aJ aK aL aM aN)]) func62 ntmps62 (eg (sn (O:=(.cells #[(vb sfrom1),(vb sto1),(vb snum1),(vb stext1),(vi skids1)] 123)) xb ?_))
 intro p1 w1 hn2
 have h:=h p1 w1 hn2
 refine nw1 h xb fun p2 w2 h=>q (ln (jA (jM (jA (kG (fun ρ w=>∃x1,Has ρ [(2,(vp (some p1))),(3,(vp (some p2))),(5,(vb x1))]∧m_X_j1 p1 p2 x1 w K) ?_ ?_)))))
 rintro ρ w ⟨x1,hH,h⟩
 refine jQ hH (cbr' h (fun hc1 h=>?_) (fun hc1 h=>?_))
 refine jB (jN (lD (t:=x1) (by kernel_rfl) hc1 (eg (q0 (vi 50) (ln (er (qJ (zM (rs1 results62 ⟨50,rfl,h⟩)))))))))
 refine rg (q (ql (isAgg4 _) h fun v1 h=>q ?_))
 obtain ⟨hg1,h⟩|⟨hg1,h⟩:=h.br
 refine qk 16 hg1 ?_
 obtain ⟨v2,hv4,h⟩:=h
 refine q4 16 hg1 (xl (isAgg3 _) hv4) (vK (wy 16 hg1) (xc call81) (h.mono ?_))
 rintro e w3 ⟨r1,rfl,h⟩
 refine ⟨_,rfl,?_⟩
 refine qk 16 hg1 (qk 16 hg1 ?_)
 obtain ⟨hg2,h⟩|⟨hg2,h⟩:=h.br
 refine sj5 21 hg2 (stq (v:=(vb true)) (wy 16 hg1) (xT hg2) (q2 (vb true) (xT hg1) (q (ln (vA (by kernel_rfl) (jA (rg (q (ln (er (qJ (zM (rs1 results62 ⟨50,rfl,h⟩)))))))))))))
 refine qk 21 hg2 ?_
 obtain ⟨v3,hv3,h⟩:=h
 refine q4 21 hg2 (xl (isAgg3 _) hv3) (qk 21 hg2 ?_)
 obtain ⟨v4,hv2,h⟩:=h
 refine q4 21 hg2 (xl (isAgg3 _) hv2) (qk 21 hg2 (stq (v:=(vb (v3 == v4))) (wy 16 hg1) (xF hg2) (q2 (vb (v3 == v4)) (xT hg1) (q (ln (cbr h ?_ ?_))))))<;>intro h
 refine eg (q (ln (er (qJ (zM (rs1 results62 ⟨50,rfl,h⟩))))))
 refine eg (q (ql (isAgg9 _) h fun v5 h=>qc (ln (cbr h ?_ ?_))))<;>intro h
 refine eg (q (ln (er (qJ (zM (rs1 results62 ⟨1,rfl,h⟩))))))
 refine jB (uS (jN (eg (q (ln (er (rs1 results62 ⟨0,rfl,h⟩)))))))
 refine sj5 16 hg1 (sm (sm (sm (sm (sm (sj 16 hg1 (q2 (vb false) (xF hg1) (q (ln (kR (by kernel_rfl) (eg (q0 (vp (some (p2.add 4))) (ql (isAgg9 _) h fun v6 h=>qc (ln (cbr h ?_ ?_)))))))))))))))<;>intro h
 refine eg (q (ln (er (qJ (zM (rs1 results62 ⟨1,rfl,h⟩))))))
 refine jB (uS (jN (eg (q (ln (er (rs1 results62 ⟨0,rfl,h⟩)))))))
 refine rg (q (ql (isAgg4 _) h fun v7 h=>q ?_))
 obtain ⟨hg3,h⟩|⟨hg3,h⟩:=h.br
 refine qk 8 hg3 ?_
 obtain ⟨v8,hv7,h⟩:=h
 refine q4 8 hg3 (xl (isAgg3 _) hv7) (vK (wy 8 hg3) (xc call81) (h.mono ?_))
 rintro e w4 ⟨r2,rfl,h⟩
 refine ⟨_,rfl,?_⟩
 refine qk 8 hg3 (q2 (vb (!r2)) (xT hg3) (q (ln ⟨(!r2),hm,h⟩)))
 refine sj4 8 hg3 (q2 (vb false) (xF hg3) (q (ln ⟨false,hm,h⟩)))
def m_M1 (p1:Option Addr) (aH aI:Int) (aJ aK:Int) (aL:ByteArray) (aM aN:Int) (w:World) (K:Int→Int→WP):Prop :=∀p2 w1,New w (.cells #[(vi aH),(vi aI),(vi aJ),(vu aK),(vs aL),(vi aM),(vi aN)] 59) p2 w1→Br (Option.isNone p1) (K 0 0 w1) (∃aA aB aC aD aE aF aG,Row w1 p2 (Ad aA aB aC aD aE aF aG)∧Calls prog 82 #[(vp p1),(.agg #[(vi aA),(vi aB),(vi aC),(vu aD),(vs aE),(vi aF),(vi aG)])] w1 (fun e w2=>∃r1 r2 r3,e=.returned (.tuple #[(vi r1),(vi r2),(vi r3)])∧Br (r3 != 0) (K 0 r3 w2) (∀w3,w3=w2.drew→∃a1,p1=some a1∧∃v1:Option Nat,w3.cell? (a1.add 1)=some (.map v1)∧∃aO aP aQ aR aS bS bT,Row w3 p2 (Ad aO aP aQ aR aS bS bT)∧∃v2 ok1,(Instr.lookup 45 (.map v1) (.agg #[(vi aO),(vi aP),(vi aQ),(vu aR),(vs aS),(vi bS),(vi bT)]) true).run prog w3=.ok (.tuple #[(vi v2),(vb ok1)]) w3∧Br ok1 (K v2 0 w3) (∃a2,p1=some a2∧∃v3:Sl,w3.cell? a2=some v3.v∧Br (decide ((v3.len:Int)≥65536)) (K 0 6 w3) (∃C1:WP,C1 w3.drew∧∀w4,w4=w3.drew→∃a3,p1=some a3∧∃v4:Sl,(∀w',C1 w'→w'.cell? a3=some v4.v)∧∃bG bH bI bJ bK cB cC,(∀w',C1 w'→Row w' p2 (Ad bG bH bI bJ bK cB cC))∧∀p3 w5,New w4 (.cells #[(vi bG),(vi bH),(vi bI),(vu bJ),(vs bK),(vi cB),(vi cC),(vi r1),(vi r2)] 96) p3 w5→C1 w5∧∃s1:Sl,∃w6:World,(Builtin.append_ #[46,46] 46 #[v4.v,(Sl.mk (some p3) 1 1).v]).run prog w5=.ok s1.v w6∧C1 w6∧∃a4,p1=some a4∧jT w6 a4∧∀w7,w7=w6.setCell a4 s1.v→∃a5,p1=some a5∧∃v5:Sl,w7.cell? a5=some v5.v∧∃C2:WP,C2 w7.drew∧∀w8,w8=w7.drew→∃a6,p1=some a6∧∃v6:Option Nat,(∀w',C2 w'→w'.cell? (a6.add 1)=some (.map v6))∧∃bN bO bP bQ bR cL cM,(∀w',C2 w'→Row w' p2 (Ad bN bO bP bQ bR cL cM))∧∃w9:World,(Instr.mapUpdate 45 (.map v6) (.agg #[(vi bN),(vi bO),(vi bP),(vu bQ),(vs bR),(vi cL),(vi cM)]) (vi (v5.len:Int))).run prog w8=.ok () w9∧K (v5.len:Int) 0 w9)))))
theorem w_M1 (p1 aH aI aJ aK aL aM aN w K) (h:m_M1 p1 aH aI aJ aK aL aM aN w K):
  Calls prog 63 #[(vp p1),(.agg #[(vi aH),(vi aI),(vi aJ),(vu aK),(vs aL),(vi aM),(vi aN)])] w (fun e w'=>∃r4 r5,e=.returned (.tuple #[(vi r4),(vi r5)])∧K r4 r5 w'):=by
 refine cw (args:=[(vp p1),(Ae aH aI aJ aK aL aM aN)]) func63 ntmps63 (eg (sn (O:=(.cells #[(vi aH),(vi aI),(vi aJ),(vu aK),(vs aL),(vi aM),(vi aN)] 59)) xb ?_))
 intro p2 w1 hn3
 have h:=h p2 w1 hn3
 refine qb (ln (jA (eg (q (q2 (vb (Option.isNone p1)) (qK (by kernel_rfl) rfl underlying27) (ln (cbr h ?_ ?_)))))))<;>intro h
 refine eg (qb (ln (er (zM (oX (.inl rfl) results63 (v:=(vi 0)) (by kernel_rfl) (v':=(vi 0)) (by kernel_rfl) ⟨0,0,rfl,h⟩)))))
 refine jB (jN (eg (q ?_)))
 obtain ⟨aA,aB,aC,aD,aE,aF,aG,hv12,h⟩:=h
 refine qa (isAgg59 _) (sizeOf59 _) hv12 (sc call82 (h.mono fun e w2 ⟨r1,r2,r3,k,h⟩=>⟨_,k,?_⟩))
 refine qc (qd (ln (jA (eg (qb (ln (cbr h ?_ ?_)))))))<;>intro h
 refine eg (qc (ln (er (zM (oX (.inl rfl) results63 (v:=(vi 0)) (by kernel_rfl) (v':=(vi r3)) (by kernel_rfl) ⟨0,r3,rfl,h⟩)))))
 refine jB (jN (jA (jA (zW (by kernel_rfl) (by kernel_rfl) (by kernel_rfl) (by kernel_rfl) ?_))))
 intro w3 hw3
 have h:=h w3 hw3
 refine qq 0 (vp p1) Kp0 (qg 1 ?_)
 obtain ⟨a1,hp1,h⟩:=h
 refine sxQ Kp1 (jK rfl) rfl (xn hp1) (qq 2 (vp (some (a1.add 1))) Kp2 (qg 3 ?_))
 obtain ⟨v1,hv11,h⟩:=h
 refine sxQ Kp3 (jK rfl) rfl (xl (isAgg45 _) hv11) (qg 4 ?_)
 obtain ⟨aO,aP,aQ,aR,aS,bS,bT,hv10,h⟩:=h
 refine sxQ (v:=(Ae aO aP aQ aR aS bS bT)) Kp4 (jK rfl) rfl (xa p2 (Ad aO aP aQ aR aS bS bT) (isAgg59 _) (sizeOf59 _) hv10) (qg 5 ?_)
 obtain ⟨v2,ok1,hv9,h⟩:=h
 refine sxQ (v:=(.tuple #[(vi v2),(vb ok1)])) Kp5 (jK rfl) rfl (vW (by kernel_rfl) (by kernel_rfl) hv9) (qq 6 (.tuple #[(vi v2),(vb ok1)]) Kp6 (qq 7 (vi v2) Kp7 (qq 8 (vb ok1) Kp8 (qq 9 (vi v2) Kp9 (qq 10 (vb ok1) (jJ (S8 (jD (jD jI)))) (wn (jN (eg (q (jC (jN (cbr h ?_ ?_))))))))))))<;>intro h
 refine eg (qc (ln (er (zM (oX (.inl rfl) results63 (v:=(vi v2)) (by kernel_rfl) (v':=(vi 0)) (by kernel_rfl) ⟨v2,0,rfl,h⟩)))))
 refine jB (jN (jA (eg (q (qm h fun a2 h=>q (ql (isAgg46 _) h fun v3 h=>qb (ln (cbr h ?_ ?_))))))))<;>intro h
 refine eg (qb (ln (er (zM (oX (.inl rfl) results63 (v:=(vi 0)) (by kernel_rfl) (v':=(vi 6)) (by kernel_rfl) ⟨0,6,rfl,h⟩)))))
 refine jB (jN (jA ?_))
 obtain ⟨C1,hC,h⟩:=h
 refine dr1 C1 [9,10,13] [13] hC h fun w4 h=>qx 0 (vp p1) Kp0 (qx 1 (vp p1) Kp1 (qg 2 ?_))
 obtain ⟨a3,hp3,h⟩:=h
 refine sy Kp2 (fun _ _=>xn hp3) (qx 3 (vp (some a3)) Kp3 (qg 4 ?_))
 obtain ⟨v4,hv7,h⟩:=h
 refine sy Kp4 (fun _ k=>xl (isAgg46 _) (hv7 _ k)) (qg 5 ?_)
 obtain ⟨bG,bH,bI,bJ,bK,cB,cC,hv6,h⟩:=h
 refine sy (v:=(Ae bG bH bI bJ bK cB cC)) Kp5 (fun w' hw'=>(xa p2 (Ad bG bH bI bJ bK cB cC) (isAgg59 _) (sizeOf59 _) (hv6 w' hw'))) (qx 6 (vi r1) Kp6 (qx 7 (vi r2) Kp7 (qx 8 (.agg #[(vi bG),(vi bH),(vi bI),(vu bJ),(vs bK),(vi cB),(vi cC),(vi r1),(vi r2)]) Kp8 (lg 9 (kT (O:=(.cells #[(vi bG),(vi bH),(vi bI),(vu bJ),(vs bK),(vi cB),(vi cC),(vi r1),(vi r2)] 96)) (fun p=>(Sl.mk (some p) 1 1).v) Kp9 (jK rfl) (by kernel_rfl) (kZ (vs:=#[(0,(.agg #[(vi bG),(vi bH),(vi bI),(vu bJ),(vs bK),(vi cB),(vi cC),(vi r1),(vi r2)]))]) (by kernel_rfl) (by kernel_rfl)) ?_)))))
 intro p3 w5 hn2
 have h:=h p3 w5 hn2
 refine ⟨.inr h.1,?_⟩
 have h:=h.2
 refine lg 10 ?_
 obtain ⟨s1,w6,hv5,hC,h⟩:=h
 refine sl (v:=s1.v) (jJ (S8 (jD (jD jI)))) (jK rfl) (by kernel_rfl) (kB (args:=#[v4.v,(Sl.mk (some p3) 1 1).v]) (by kernel_rfl) (fun _=>rfl) hv5) (.inr hC) (qg 11 ?_)
 obtain ⟨a4,hp4,h⟩:=h
 refine sy (jJ (S8 (jD (jD (jD jI))))) (fun _ _=>xn hp4) (qx 12 (vp (some a4)) (jJ (S8 (S4 jI))) (lg 13 ?_))
 obtain ⟨hp5,h⟩:=h
 refine sl_t (jJ (S8 (S4 (jD jI)))) (xs (v:=s1.v) (sizeOf46 _) hp5) ?_
 intro w7 hn1
 have h:=h w7 hn1
 refine ⟨.inl (by kernel_rfl),?_⟩
 refine wn (jN (eg (q (qm h fun a5 h=>q (ql (isAgg46 _) h fun v5 h=>qb (ln (jA ?_)))))))
 obtain ⟨C2,hC,h⟩:=h
 refine dr1 C2 [6] [6] hC h fun w8 h=>qx 0 (vp p1) Kp0 (qg 1 ?_)
 obtain ⟨a6,hp7,h⟩:=h
 refine sy Kp1 (fun _ _=>xn hp7) (qx 2 (vp (some (a6.add 1))) Kp2 (qg 3 ?_))
 obtain ⟨v6,hv3,h⟩:=h
 refine sy Kp3 (fun _ k=>xl (isAgg45 _) (hv3 _ k)) (qg 4 ?_)
 obtain ⟨bN,bO,bP,bQ,bR,cL,cM,hv2,h⟩:=h
 refine sy (v:=(Ae bN bO bP bQ bR cL cM)) Kp4 (fun w' hw'=>(xa p2 (Ad bN bO bP bQ bR cL cM) (isAgg59 _) (sizeOf59 _) (hv2 w' hw'))) (qx 5 (vi (v5.len:Int)) Kp5 (lg 6 ?_))
 obtain ⟨w9,hv1,h⟩:=h
 refine jMX Kp6 (jK rfl) (by kernel_rfl) (uW (by kernel_rfl) (by kernel_rfl) (by kernel_rfl) hv1) (.inl (by kernel_rfl)) (wn (jN (eg (q0 (vi (v5.len:Int)) (q0 (vi (v5.len:Int)) (q0 (vi 0) (ln (er (oX (.inl rfl) results63 (v:=(vi (v5.len:Int))) (by kernel_rfl) (v':=(vi 0)) (by kernel_rfl) ⟨(v5.len:Int),0,rfl,h⟩)))))))))
def m_T1 (p1:Option Addr) (t1:Int) (w:World) (K:Value→WP):Prop :=∀p2 w1,New w (.cells #[(vp p1)] 27) p2 w1→∀p3 w2,New w1 (.cells #[(vi t1)] 29) p3 w2→K (.func (.func 99) #[] #[(vp (some p2)),(vp (some p3))]) w2
theorem w_T1 (p1 t1 w K) (h:m_T1 p1 t1 w K):
  Calls prog 65 #[(vp p1),(vi t1)] w (fun e w'=>∃r1:Value,e=.returned r1∧K r1 w'):=by
 refine cw (args:=[(vp p1),(vi t1)]) func65 ntmps65 (eg (sn (O:=(.cells #[(vp p1)] 27)) xb ?_))
 intro p2 w1 hn2
 have h:=h p2 w1 hn2
 refine nw1 h xb fun p3 w2 h=>q (ln (eg (qb (ln (er (rs1 results65 ⟨(.func (.func 99) #[] #[(vp (some p2)),(vp (some p3))]),rfl,h⟩))))))
def m_U1 (kind1:Int) (w:World) (K:Bool→Bool→Bool→Bool→Int→Bool→WP):Prop :=∀p1 w1,New w (.cells #[(vb false),(vb false),(vb false),(vb false),(vi 0)] 123) p1 w1→Br (decide (kind1<1)) ((∀j,j<5→jT w1 (p1.add j))∧∀w2,w2=storeRow w1 p1 (Ah false false false false 0)→∃qfrom1 qto1 qnum1 qtext1 qkids1,Row w2 p1 (Ah qfrom1 qto1 qnum1 qtext1 qkids1)∧K qfrom1 qto1 qnum1 qtext1 qkids1 false w2) (Br (decide (kind1>9)) ((∀j,j<5→jT w1 (p1.add j))∧∀w3,w3=storeRow w1 p1 (Ah false false false false 0)→∃qfrom2 qto2 qnum2 qtext2 qkids2,Row w3 p1 (Ah qfrom2 qto2 qnum2 qtext2 qkids2)∧K qfrom2 qto2 qnum2 qtext2 qkids2 false w3) (Calls prog 119 #[] w1 (fun e w4=>∃r1:Array Value,e=.returned (.agg r1)∧∃efrom1 eto1 enum1 etext1 ekids1,(Instr.index 188 (.agg r1) (vi kind1)).run prog w4=.ok (.agg #[(vb efrom1),(vb eto1),(vb enum1),(vb etext1),(vi ekids1)]) w4∧(∀j,j<5→jT w4 (p1.add j))∧∀w5,w5=storeRow w4 p1 (Ah efrom1 eto1 enum1 etext1 ekids1)→∃qfrom3 qto3 qnum3 qtext3 qkids3,Row w5 p1 (Ah qfrom3 qto3 qnum3 qtext3 qkids3)∧K qfrom3 qto3 qnum3 qtext3 qkids3 true w5)))
theorem w_U1 (kind1 w K) (h:m_U1 kind1 w K):
  Calls prog 80 #[(vi kind1)] w (fun e w'=>∃rfrom1 rto1 rnum1 rtext1 rkids1 r2,e=.returned (.tuple #[(Ai rfrom1 rto1 rnum1 rtext1 rkids1),(vb r2)])∧K rfrom1 rto1 rnum1 rtext1 rkids1 r2 w'):=by
 refine cw (args:=[(vi kind1)]) func80 ntmps80 (eg (sn (O:=(.cells #[(vb false),(vb false),(vb false),(vb false),(vi 0)] 123)) (jG (zeroValue123 _) rfl) ?_))
 intro p1 w1 hn4
 have h:=h p1 w1 hn4
 refine q (ln (jA (eg (qc ?_))))
 obtain ⟨hg1,h⟩|⟨hg1,h⟩:=h.br
 refine sj2 6 hg1 (q2 (vb true) (xT hg1) (ln (vA (by kernel_rfl) (eg (q0 (Ai false false false false 0) (sro (sizeOf123 _) h fun w2 h=>q (ln (er (zM ?_)))))))))
 obtain ⟨qfrom1,qto1,qnum1,qtext1,qkids1,hv1,h⟩:=h
 refine gg2 results80 (rva (isAgg123 _) (sizeOf123 _) hv1) (rvU (vb false)) ⟨qfrom1,qto1,qnum1,qtext1,qkids1,false,rfl,h⟩
 refine qk 6 hg1 (qk 6 hg1 (q2 (vb (decide (kind1>9))) (xF hg1) (ln (cbr h ?_ ?_))))<;>intro h
 refine eg (q (sro (sizeOf123 _) h fun w3 h=>q (ln (er (zM ?_)))))
 obtain ⟨qfrom2,qto2,qnum2,qtext2,qkids2,hv2,h⟩:=h
 refine gg2 results80 (rva (isAgg123 _) (sizeOf123 _) hv2) (rvU (vb false)) ⟨qfrom2,qto2,qnum2,qtext2,qkids2,false,rfl,h⟩
 refine jB (jN (eg (sc call119 (h.mono fun e w4 ⟨r1,k,h⟩=>⟨_,k,?_⟩))))
 refine q ?_
 obtain ⟨efrom1,eto1,enum1,etext1,ekids1,hv4,h⟩:=h
 refine q2 (Ai efrom1 eto1 enum1 etext1 ekids1) (vX (by kernel_rfl) (by kernel_rfl) hv4) (sro (sizeOf123 _) h fun w5 h=>q (ln (er ?_)))
 obtain ⟨qfrom3,qto3,qnum3,qtext3,qkids3,hv3,h⟩:=h
 refine gg2 results80 (rva (isAgg123 _) (sizeOf123 _) hv3) (rvU (vb true)) ⟨qfrom3,qto3,qnum3,qtext3,qkids3,true,rfl,h⟩
def m_V1 (n1:Int) (w:World) (K:Bool→WP):Prop :=Br (decide (n1≥0)) (K (decide (n1<16)) w) (K false w)
theorem w_V1 (n1 w K) (h:m_V1 n1 w K):
  Calls prog 81 #[(vi n1)] w (fun e w'=>∃r1,e=.returned (vb r1)∧K r1 w'):=by
 refine cw (args:=[(vi n1)]) func81 ntmps81 (eg (q0 (vb false) (ln (eg (q0 (vi n1) (q0 (vb (decide (n1≥0))) (q0 (vb (decide (n1≥0))) ?_)))))))
 obtain ⟨hg1,h⟩|⟨hg1,h⟩:=h.br
 refine qk 5 hg1 (qk 5 hg1 (q2 (vb (decide (n1<16))) (xT hg1) (q (ln (er (rs1 results81 ⟨(decide (n1<16)),rfl,h⟩))))))
 refine sj2 5 hg1 (q2 (vb false) (xF hg1) (q (ln (er (rs1 results81 ⟨false,rfl,h⟩)))))
def m_C_l3 (p1:Option Addr) (s1:Sl) (size1 depth1 x1:Int) (wl1:World) (Kc3:Int→Int→Int→WP) (K:Int→Int→Int→WP):Prop :=Br (decide (x1<(s1.len:Int))) (∃a1:Addr,At s1 x1 1 a1∧∃v4,wl1.cell? a1=some (vi v4)∧Calls prog 37 #[(vp p1),(vi v4)] wl1 (fun e w6=>∃r2,e=.returned (vb r2)∧Br (!r2) (K 0 0 51 w6) (Calls prog 14 #[(vp p1),(vi v4)] w6 (fun e w7=>∃r3,e=.returned (vi r3)∧Calls prog 120 #[(vp p1),(vi v4)] w7 (fun e w8=>∃r4,e=.returned (vi r4)∧∃z1,(Builtin.max_ #[3,3] 3 #[(vi depth1),(vi r4)]).run prog w8=.ok (vi z1) w8∧Kc3 (q6.wrap (size1+r3)) z1 (q6.wrap (x1+1)) w8))))) (Br (decide (size1>4096)) (K 0 0 52 wl1) (Br (decide ((q6.wrap (depth1+1))>64)) (K 0 0 52 wl1) (K size1 (q6.wrap (depth1+1)) 0 wl1)))
def m_C_j2 (p1:Option Addr) (p2 p3:Addr) (e2:Int) (w:World) (K:Int→Int→Int→WP):Prop :=Br (e2 != 0) (K 0 0 e2 w) (∃v1,w.cell? (p2.add 5)=some (vi v1)∧∃v2,w.cell? (p2.add 6)=some (vi v2)∧∀p4 w5,New w (.cells #[(vi v1),(vi v2)] 29) p4 w5→∃v3,w5.cell? (p3.add 4)=some (vi v3)∧∃s1:Sl,(Instr.sliceAt 166 (Sl.mk (some p4) 2 2).v none (some (vi v3)) none).run prog w5=.ok s1.v w5∧∃(I1:Int→Int→Int→WP) (mu1:Int→Int→Int→World→Nat),I1 1 0 0 w5∧∀(size1 depth1 x1:Int) (wl1:World),I1 size1 depth1 x1 wl1→m_C_l3 p1 s1 size1 depth1 x1 wl1 (fun y'0 y'1 y'2 w'=>I1 y'0 y'1 y'2 w'∧mu1 y'0 y'1 y'2 w'<mu1 size1 depth1 x1 wl1) K)
def m_C_j1 (p1:Option Addr) (p2 p3:Addr) (e1:Int) (w:World) (K:Int→Int→Int→WP):Prop :=Br (e1 == 0) (∃vfrom1 vto1 vnum1 vtext1 vkids1,Row w p3 (Ah vfrom1 vto1 vnum1 vtext1 vkids1)∧∃aO aP aQ aR aS bS bT,Row w p2 (Ad aO aP aQ aR aS bS bT)∧Calls prog 62 #[(.agg #[(vb vfrom1),(vb vto1),(vb vnum1),(vb vtext1),(vi vkids1)]),(.agg #[(vi aO),(vi aP),(vi aQ),(vu aR),(vs aS),(vi bS),(vi bT)])] w (fun e w9=>∃r5,e=.returned (vi r5)∧m_C_j2 p1 p2 p3 r5 w9 K)) (m_C_j2 p1 p2 p3 e1 w K)
def m_C_j5 (p1:Option Addr) (p2:Addr) (r1:Int) (p3:Addr) (x2 x3:Bool) (w:World) (K:Int→Int→Int→WP):Prop :=Br (r1 == 0) (Br x2 (m_C_j1 p1 p2 p3 53 w K) (Br x3 (m_C_j1 p1 p2 p3 53 w K) (m_C_j1 p1 p2 p3 r1 w K))) (m_C_j1 p1 p2 p3 r1 w K)
def m_C_j4 (p1:Option Addr) (p2:Addr) (r1:Int) (p3:Addr) (x2:Bool) (w:World) (K:Int→Int→Int→WP):Prop :=Br (r1 == 0) (Br x2 (m_C_j1 p1 p2 p3 53 w K) (∃v6,w.cell? (p3.add 4)=some (vi v6)∧Br (decide (v6<2)) (∃v7,w.cell? (p2.add 6)=some (vi v7)∧m_C_j5 p1 p2 r1 p3 x2 (v7 != 0) w K) (m_C_j5 p1 p2 r1 p3 x2 false w K))) (m_C_j1 p1 p2 p3 r1 w K)
def m_C (p1:Option Addr) (aH aI:Int) (aJ aK:Int) (aL:ByteArray) (aM aN:Int) (w:World) (K:Int→Int→Int→WP):Prop :=∀p2 w1,New w (.cells #[(vi aH),(vi aI),(vi aJ),(vu aK),(vs aL),(vi aM),(vi aN)] 59) p2 w1→∃aA aB aC aD aE aF aG,Row w1 p2 (Ad aA aB aC aD aE aF aG)∧Calls prog 61 #[(.agg #[(vi aA),(vi aB),(vi aC),(vu aD),(vs aE),(vi aF),(vi aG)])] w1 (fun e w2=>∃rfrom1 rto1 rnum1 rtext1 rkids1 r1,e=.returned (.tuple #[(Ai rfrom1 rto1 rnum1 rtext1 rkids1),(vi r1)])∧∀p3 w3,New w2 (.cells #[(vb false),(vb false),(vb false),(vb false),(vi 0)] 123) p3 w3→(∀j,j<5→jT w3 (p3.add j))∧∀w4,w4=storeRow w3 p3 (Ah rfrom1 rto1 rnum1 rtext1 rkids1)→Br (r1 == 0) (∃v5,w4.cell? (p3.add 4)=some (vi v5)∧Br (decide (v5<1)) (∃v8,w4.cell? (p2.add 5)=some (vi v8)∧m_C_j4 p1 p2 r1 p3 (v8 != 0) w4 K) (m_C_j4 p1 p2 r1 p3 false w4 K)) (m_C_j1 p1 p2 p3 r1 w4 K))
theorem w_C (p1 aH aI aJ aK aL aM aN w K) (h:m_C p1 aH aI aJ aK aL aM aN w K):
  Calls prog 82 #[(vp p1),(.agg #[(vi aH),(vi aI),(vi aJ),(vu aK),(vs aL),(vi aM),(vi aN)])] w (fun e w'=>∃r6 r7 r8,e=.returned (.tuple #[(vi r6),(vi r7),(vi r8)])∧K r6 r7 r8 w'):=by
 refine cw (args:=[(vp p1),(Ae aH aI aJ aK aL aM aN)]) func82 ntmps82 (eg (sn (O:=(.cells #[(vi aH),(vi aI),(vi aJ),(vu aK),(vs aL),(vi aM),(vi aN)] 59)) xb ?_))
 intro p2 w1 hn4
 have h:=h p2 w1 hn4
 refine qc (ln (eg ?_))
 obtain ⟨aA,aB,aC,aD,aE,aF,aG,hv14,h⟩:=h
 refine qa (isAgg59 _) (sizeOf59 _) hv14 (sc call61 (h.mono fun e w2 ⟨rfrom1,rto1,rnum1,rtext1,rkids1,r1,k,h⟩=>⟨_,k,?_⟩))
 refine qc (nw1 h (jG (zeroValue123 _) rfl) fun p3 w3 h=>sro (sizeOf123 _) h fun w4 h=>q (ln (kG (fun ρ w=>∃e1,Has ρ [(0,(vp p1)),(3,(vp (some p2))),(7,(vp (some p3))),(8,(vi e1))]∧m_C_j1 p1 p2 p3 e1 w K) ?_ ?_)))
 rintro ρ w ⟨e1,hH,h⟩
 refine jQ hH (kG (fun ρ w=>∃e2,Has ρ [(0,(vp p1)),(3,(vp (some p2))),(7,(vp (some p3))),(8,(vi e2))]∧m_C_j2 p1 p2 p3 e2 w K) ?_ ?_)
 rintro ρ w ⟨e2,hH,h⟩
 refine jQ hH (jA (eg (qb (ln (cbr h ?_ ?_)))))<;>intro h
 refine eg (qd (ln (er (zM (jKX (.inl rfl) results82 (v:=(vi 0)) (by kernel_rfl) (v':=(vi 0)) (by kernel_rfl) (v'':=(vi e2)) (by kernel_rfl) ⟨0,0,e2,rfl,h⟩)))))
 refine jB (jN (eg (qb (ln (jA (eg (q (ql (isAgg29 _) h fun v1 h=>q (ql (isAgg29 _) h fun v2 h=>uL (O:=(.cells #[(vi v1),(vi v2)] 29)) (fun p=>(Sl.mk (some p) 2 2).v) (jK rfl) (kZ (vs:=#[(0,(vi v1)),(1,(vi v2))]) (by kernel_rfl) (by kernel_rfl)) ?_)))))))))
 intro p4 w5 hn2
 have h:=h p4 w5 hn2
 refine q (ql (isAgg3 _) h fun v3 h=>?_)
 obtain ⟨s1,hv4,h⟩:=h
 refine q2 s1.v (yF (by kernel_rfl) (by kernel_rfl) (by kernel_rfl) (by kernel_rfl) hv4) (qb (ln (jM ?_)))
 obtain ⟨I1,mu1,h0,hr⟩:=h
 refine kL (σ:=Int×Int×Int×World) (fun s ρ w=>w=s.2.2.2∧Has ρ [(0,(vp p1)),(9,(vi s.1)),(10,(vi s.2.1)),(55,s1.v),(56,(vi (s1.len:Int))),(57,(vi s.2.2.1))]∧I1 s.1 s.2.1 s.2.2.1 s.2.2.2) (fun s=>mu1 s.1 s.2.1 s.2.2.1 s.2.2.2) (1,0,0,w5) ⟨rfl,hm,h0⟩ ?_
 rintro ⟨size1,depth1,x1,wl1⟩ ρ w ⟨hw,hH,hI⟩
 dsimp only at hw hH;subst w
 have h:=hr size1 depth1 x1 wl1 hI
 refine jQ hH (eg (q (ln (jA (cbr h ?_ ?_)))))<;>intro h
 refine jB (jN (jA (jM (eg (qi (runUnderlying166 _) (sizeOf29 _) h fun a1 h=>ql (isAgg29 _) h fun v4 h=>q (ln (jA (eg (qb (sc call37 (h.mono fun e w6 ⟨r2,k,h⟩=>⟨_,k,?_⟩)))))))))))
 refine q (ln (cbr h ?_ ?_))<;>intro h
 refine eg (qc (ln (er (zM (qJ (zM (zM (qJ (zM (jKX (.inl rfl) results82 (v:=(vi 0)) (by kernel_rfl) (v':=(vi 0)) (by kernel_rfl) (v'':=(vi 51)) (by kernel_rfl) ⟨0,0,51,rfl,h⟩))))))))))
 refine jB (jN (eg (qc (sc call14 (h.mono fun e w7 ⟨r3,k,h⟩=>⟨_,k,?_⟩)))))
 refine qb (ln (rg (qc (sc call120 (h.mono fun e w8 ⟨r4,k,h⟩=>⟨_,k,?_⟩)))))
 obtain ⟨z1,hv1,h⟩:=h
 refine q2 (vi z1) (kB (args:=#[(vi depth1),(vi r4)]) (by kernel_rfl) (fun _=>rfl) hv1) (q (jC (uS (jN (rg (qb (ln ⟨((q6.wrap (size1+r3)),z1,(q6.wrap (x1+1)),w8),⟨rfl,hm,h.1⟩,h.2⟩)))))))
 refine zV (xG (xG (xE (jN (eg (q0 (vi depth1) (q0 (vi (q6.wrap (depth1+1))) (q0 (vi (q6.wrap (depth1+1))) (ln (jA (eg (qc ?_))))))))))))
 obtain ⟨hg1,h⟩|⟨hg1,h⟩:=h.br
 refine sj2 80 hg1 (q2 (vb true) (xT hg1) (ln (vA (by kernel_rfl) (eg (q0 (vi 0) (q0 (vi 0) (q0 (vi 52) (jC (jN (er (zM (jKX (.inl rfl) results82 (v:=(vi 0)) (by kernel_rfl) (v':=(vi 0)) (by kernel_rfl) (v'':=(vi 52)) (by kernel_rfl) ⟨0,0,52,rfl,h⟩))))))))))))
 refine qk 80 hg1 (qk 80 hg1 (q2 (vb (decide ((q6.wrap (depth1+1))>64))) (xF hg1) (ln (cbr h ?_ ?_))))<;>intro h
 refine eg (qc (ln (er (zM (jKX (.inl rfl) results82 (v:=(vi 0)) (by kernel_rfl) (v':=(vi 0)) (by kernel_rfl) (v'':=(vi 52)) (by kernel_rfl) ⟨0,0,52,rfl,h⟩)))))
 refine jB (jN (eg (q (qd (ln (er (jKX (.inl rfl) results82 (v:=(vi size1)) (by kernel_rfl) (v':=(vi (q6.wrap (depth1+1)))) (by kernel_rfl) (v'':=(vi 0)) (by kernel_rfl) ⟨size1,(q6.wrap (depth1+1)),0,rfl,h⟩)))))))
 refine eg (qb (ln (cbr h ?_ ?_)))<;>intro h
 refine rg ?_
 obtain ⟨vfrom1,vto1,vnum1,vtext1,vkids1,hv9,h⟩:=h
 refine qa (isAgg123 _) (sizeOf123 _) hv9 ?_
 obtain ⟨aO,aP,aQ,aR,aS,bS,bT,hv8,h⟩:=h
 refine qa (isAgg59 _) (sizeOf59 _) hv8 (sc call62 (h.mono fun e w9 ⟨r5,k,h⟩=>⟨_,k,?_⟩))
 refine q (ln ⟨r5,hm,h⟩)
 refine jB (jN ⟨e1,hm,h⟩)
 refine eg (qc ?_)
 obtain ⟨hg2,h⟩|⟨hg2,h⟩:=h.br
 refine qk 20 hg2 ?_
 obtain ⟨v5,hv13,h⟩:=h
 refine q4 20 hg2 (xl (isAgg3 _) hv13) (qk 20 hg2 (qk 20 hg2 (jU 4 (fun ρ w=>∃x2,Has ρ [(0,(vp p1)),(3,(vp (some p2))),(7,(vp (some p3))),(8,(vi r1)),(20,(vb (r1 == 0))),(28,(vb x2))]∧m_C_j4 p1 p2 r1 p3 x2 w K) ?_ ?_)))
 rintro ρ w ⟨x2,hH,h⟩
 refine zB hH ?_
 obtain ⟨hg3,h⟩|⟨hg3,h⟩:=h.br
 refine qk 20 hg3 ?_
 obtain ⟨hg4,h⟩|⟨hg4,h⟩:=h.br
 refine sj4 29 hg4 (sm (sm (sm (sj 29 hg4 (stq (v:=(vb true)) (wy 20 hg3) (xT hg4) (q2 (vb true) (xT hg3) (ln (vA (by kernel_rfl) (rg (q0 (vi 53) (ln ⟨53,hm,h⟩)))))))))))
 refine qk 29 hg4 ?_
 obtain ⟨v6,hv11,h⟩:=h
 refine q4 29 hg4 (xl (isAgg3 _) hv11) (qk 29 hg4 (qk 29 hg4 (jU 4 (fun ρ w=>∃x3,Has ρ [(0,(vp p1)),(3,(vp (some p2))),(7,(vp (some p3))),(8,(vi r1)),(20,(vb (r1 == 0))),(29,(vb x2)),(37,(vb x3))]∧m_C_j5 p1 p2 r1 p3 x2 x3 w K) ?_ ?_)))
 rintro ρ w ⟨x3,hH,h⟩
 refine zB hH ?_
 obtain ⟨hg5,h⟩|⟨hg5,h⟩:=h.br
 obtain ⟨hg6,h⟩|⟨hg6,h⟩:=h.br
 refine stq (v:=(vb true)) (wy 20 hg5) (xT hg6) (q2 (vb true) (xT hg5) (ln (vA (by kernel_rfl) (rg (q0 (vi 53) (ln ⟨53,hm,h⟩))))))
 refine stq (v:=(vb x3)) (wy 20 hg5) (xF hg6) (q2 (vb x3) (xT hg5) (ln (cbr h ?_ ?_)))<;>intro h
 refine rg (q (ln ⟨53,hm,h⟩))
 refine jB (jN ⟨r1,hm,h⟩)
 refine sj 20 hg5 (q2 (vb false) (xF hg5) (ln (kR (by kernel_rfl) (jB (jN ⟨r1,hm,h⟩)))))
 obtain ⟨hg7,h⟩|⟨hg7,h⟩:=h.br
 refine qk 33 hg7 ?_
 obtain ⟨v7,hv10,h⟩:=h
 refine q4 33 hg7 (xl (isAgg29 _) hv10) (qk 33 hg7 (stq (v:=(vb (v7 != 0))) (wy 29 hg4) (xT hg7) (jC ⟨(v7 != 0),hm,h⟩)))
 refine sj3 33 hg7 (stq (v:=(vb false)) (wy 29 hg4) (xF hg7) (jC ⟨false,hm,h⟩))
 refine sj 20 hg3 (sm (sm (sm (sm (sm (sm (sm (sm (sj 20 hg3 (q2 (vb false) (xF hg3) (jC (jN (kR (by kernel_rfl) (jB (jN ⟨r1,hm,h⟩)))))))))))))))
 obtain ⟨hg8,h⟩|⟨hg8,h⟩:=h.br
 refine qk 24 hg8 ?_
 obtain ⟨v8,hv12,h⟩:=h
 refine q4 24 hg8 (xl (isAgg29 _) hv12) (qk 24 hg8 (stq (v:=(vb (v8 != 0))) (wy 20 hg2) (xT hg8) (jC ⟨(v8 != 0),hm,h⟩)))
 refine sj3 24 hg8 (stq (v:=(vb false)) (wy 20 hg2) (xF hg8) (jC ⟨false,hm,h⟩))
 refine sj4 20 hg2 (sm (sm (sm (sj2 20 hg2 (sm (sm (sm (sm (sm (sm (sm (sm (sj 20 hg2 (q2 (vb false) (xF hg2) (ln (kR (by kernel_rfl) (jB (jN ⟨r1,hm,h⟩))))))))))))))))))
def m_W1 (p1:Option Addr) (t1:Int) (w:World) (K:Sl→WP):Prop :=∀p2 w1,New w (.cells #[(vp p1)] 27) p2 w1→∀p3 w2,New w1 (.cells #[Sl.nil.v] 166) p3 w2→∀p4 w3,New w2 (.map #[] 0) p4 w3→∀p5 w4,New w3 (.cells #[(.map none)] 132) p5 w4→jT w4 p5∧∀w5,w5=w4.setCell p5 (.map (some p4.block))→∀p6 w6,New w5 (.cells #[(.nilFunc:Value)] 192) p6 w6→jT w6 p6∧∀w7,w7=w6.setCell p6 (.func (.func 125) #[] #[(vp (some p5)),(vp (some p2)),(vp (some p6)),(vp (some p3))])→∃v1,w7.cell? p2=some (vp v1)∧Calls prog 37 #[(vp v1),(vi t1)] w7 (fun e w8=>∃r1,e=.returned (vb r1)∧Br r1 (∃v2:Value,w8.cell? p6=some v2∧∃(f1:FuncId) (fs1 cs1:Array Value),v2=.func (.func f1) fs1 cs1∧(∀args w,(callFunc f1 args).run prog w=.ok (.enter f1 args) w)∧Calls prog f1 (fs1++#[(vi t1)]++cs1) w8 (fun e w9=>e=.returned (.tuple #[])∧∃v3:Sl,w9.cell? p3=some v3.v∧K v3 w9)) (∃v4:Sl,w8.cell? p3=some v4.v∧K v4 w8))
theorem w_W1 (p1 t1 w K) (h:m_W1 p1 t1 w K):
  Calls prog 100 #[(vp p1),(vi t1)] w (fun e w'=>∃r2:Sl,e=.returned r2.v∧K r2 w'):=by
 refine cw (args:=[(vp p1),(vi t1)]) func100 ntmps100 (eg (sn (O:=(.cells #[(vp p1)] 27)) xb ?_))
 intro p2 w1 hn7
 have h:=h p2 w1 hn7
 refine q (ln (eg (nw1 h (jG (zeroValue166 _) rfl) fun p3 w2 h=>ln (eg (nw4 (fun p=>.map (some p.block)) h fun p4 w3 h=>nw1 h (jG (zeroValue132 _) rfl) fun p5 w4 h=>st1 (sizeOf132 _) h fun w5 h=>ln (eg (nw1 h (jG (zeroValue192 _) rfl) fun p6 w6 h=>ln (eg (q (st1 (sizeOf192 _) h fun w7 h=>ln (jA (eg (ql (isAgg27 _) h fun v1 h=>q (sc call37 (h.mono fun e w8 ⟨r1,k,h⟩=>⟨_,k,?_⟩)))))))))))))))
 refine ln (cbr h ?_ ?_)<;>intro h
 refine rg (ql (isAgg192 _) h fun v2 h=>q ?_)
 obtain ⟨f1,fs1,cs1,hp3,h⟩:=h
 obtain ⟨hf1,h⟩:=h
 refine vK (jK rfl) (jAY (fs:=fs1) (caps:=cs1) (args:=#[(vi t1)]) (by kernel_rfl) hp3 hf1 (by kernel_rfl) rfl) (h.mono ?_)
 rintro e w9 ⟨rfl,h⟩
 refine ⟨_,rfl,?_⟩
 refine ln (eg (ql (isAgg166 _) h fun v3 h=>q (ln (er (rs1 results100 ⟨v3,rfl,h⟩)))))
 refine jB (jN (eg (ql (isAgg166 _) h fun v4 h=>q (ln (er (rs1 results100 ⟨v4,rfl,h⟩))))))
def m_X1 (p1:Option Addr) (aH aI:Int) (aJ aK:Int) (aL:ByteArray) (aM aN:Int) (w:World) (K:Int→Bool→WP):Prop :=∀p2 w1,New w (.cells #[(vi aH),(vi aI),(vi aJ),(vu aK),(vs aL),(vi aM),(vi aN)] 59) p2 w1→Br (Option.isNone p1) (K 0 false w1) (∀w2,w2=w1.drew→∃a1,p1=some a1∧∃v1:Option Nat,w2.cell? (a1.add 1)=some (.map v1)∧∃aA aB aC aD aE aF aG,Row w2 p2 (Ad aA aB aC aD aE aF aG)∧∃v2 ok1,(Instr.lookup 45 (.map v1) (.agg #[(vi aA),(vi aB),(vi aC),(vu aD),(vs aE),(vi aF),(vi aG)]) true).run prog w2=.ok (.tuple #[(vi v2),(vb ok1)]) w2∧K v2 ok1 w2)
theorem w_X1 (p1 aH aI aJ aK aL aM aN w K) (h:m_X1 p1 aH aI aJ aK aL aM aN w K):
  Calls prog 106 #[(vp p1),(.agg #[(vi aH),(vi aI),(vi aJ),(vu aK),(vs aL),(vi aM),(vi aN)])] w (fun e w'=>∃r1 r2,e=.returned (.tuple #[(vi r1),(vb r2)])∧K r1 r2 w'):=by
 refine cw (args:=[(vp p1),(Ae aH aI aJ aK aL aM aN)]) func106 ntmps106 (eg (sn (O:=(.cells #[(vi aH),(vi aI),(vi aJ),(vu aK),(vs aL),(vi aM),(vi aN)] 59)) xb ?_))
 intro p2 w1 hn1
 have h:=h p2 w1 hn1
 refine qb (ln (jA (eg (q (q2 (vb (Option.isNone p1)) (qK (by kernel_rfl) rfl underlying27) (ln (cbr h ?_ ?_)))))))<;>intro h
 refine eg (qb (ln (er (zM (oX (.inl rfl) results106 (v:=(vi 0)) (by kernel_rfl) (v':=(vb false)) (by kernel_rfl) ⟨0,false,rfl,h⟩)))))
 refine jB (jN (jA (zW (by kernel_rfl) (by kernel_rfl) (by kernel_rfl) (by kernel_rfl) ?_)))
 intro w2 hw2
 have h:=h w2 hw2
 refine qq 0 (vp p1) Kp0 (qg 1 ?_)
 obtain ⟨a1,hp1,h⟩:=h
 refine sxQ Kp1 (jK rfl) rfl (xn hp1) (qq 2 (vp (some (a1.add 1))) Kp2 (qg 3 ?_))
 obtain ⟨v1,hv3,h⟩:=h
 refine sxQ Kp3 (jK rfl) rfl (xl (isAgg45 _) hv3) (qg 4 ?_)
 obtain ⟨aA,aB,aC,aD,aE,aF,aG,hv2,h⟩:=h
 refine sxQ (v:=(Ae aA aB aC aD aE aF aG)) Kp4 (jK rfl) rfl (xa p2 (Ad aA aB aC aD aE aF aG) (isAgg59 _) (sizeOf59 _) hv2) (qg 5 ?_)
 obtain ⟨v2,ok1,hv1,h⟩:=h
 refine sxQ (v:=(.tuple #[(vi v2),(vb ok1)])) Kp5 (jK rfl) rfl (vW (by kernel_rfl) (by kernel_rfl) hv1) (qq 6 (.tuple #[(vi v2),(vb ok1)]) Kp6 (qq 7 (vi v2) Kp7 (qq 8 (vb ok1) Kp8 (qq 9 (vi v2) Kp9 (qq 10 (vb ok1) (jJ (S8 (jD (jD jI)))) (wn (jN (eg (qb (qb (ln (er (oX (.inl rfl) results106 (v:=(vi v2)) (by kernel_rfl) (v':=(vb ok1)) (by kernel_rfl) ⟨v2,ok1,rfl,h⟩)))))))))))))
def m_Y1  (w:World) (K:(Array Value)→WP):Prop :=∀p1 w1,New w (.cells #[(vb false),(vb false),(vb false),(vb false),(vi 0),(vb false),(vb false),(vb false),(vb false),(vi 0),(vb false),(vb false),(vb false),(vb false),(vi 0),(vb false),(vb false),(vb false),(vb false),(vi 0),(vb false),(vb false),(vb false),(vb false),(vi 0),(vb false),(vb false),(vb false),(vb false),(vi 0),(vb false),(vb false),(vb false),(vb false),(vi 0),(vb false),(vb false),(vb false),(vb false),(vi 0),(vb false),(vb false),(vb false),(vb false),(vi 0),(vb false),(vb false),(vb false),(vb false),(vi 0)] 188) p1 w1→(∀j,j<50→jT w1 (p1.add j))∧∀w2,w2=storeRow w1 p1 (Aj false false false false 0 true false false false 0 false false true false 0 false false false true 0 false false false false 2 false false false false 1 true false false false 0 true false false false 1 true true false false 1 true true false false 1)→∃q1:Array Value,(q1.size=50∧Row w2 p1 q1.toList)∧K q1 w2
theorem w_Y1  (w:World) (K:(Array Value)→WP) (h:m_Y1  w K) :
  Calls prog 119 #[] w (fun e w'=>∃r1:Array Value,e=.returned (.agg r1)∧K r1 w'):=by
 refine cw (args:=[]) func119 ntmps119 (eg (sn (O:=(.cells #[(vb false),(vb false),(vb false),(vb false),(vi 0),(vb false),(vb false),(vb false),(vb false),(vi 0),(vb false),(vb false),(vb false),(vb false),(vi 0),(vb false),(vb false),(vb false),(vb false),(vi 0),(vb false),(vb false),(vb false),(vb false),(vi 0),(vb false),(vb false),(vb false),(vb false),(vi 0),(vb false),(vb false),(vb false),(vb false),(vi 0),(vb false),(vb false),(vb false),(vb false),(vi 0),(vb false),(vb false),(vb false),(vb false),(vi 0),(vb false),(vb false),(vb false),(vb false),(vi 0)] 188)) (jG (zeroValue188 _) rfl) ?_))
 intro p1 w1 hn2
 have h:=h p1 w1 hn2
 refine ln (eg (qd (qd (qb (sro (sizeOf188 _) h fun w2 h=>ln (er ?_))))))
 obtain ⟨q1,hv1,h⟩:=h
 refine gg1 results119 (RV.cellAr (A:=p1) (vs:=q1) (by kernel_rfl) (isAgg188 _) (sizeOf188 _) hv1) ⟨q1,rfl,h⟩
def m_Z1 (p1:Option Addr) (t1:Int) (w:World) (K:Int→WP):Prop :=Calls prog 37 #[(vp p1),(vi t1)] w (fun e w1=>∃r1,e=.returned (vb r1)∧Br (!r1) (K 0 w1) (∃a1,p1=some a1∧∃v1:Sl,w1.cell? a1=some v1.v∧∃a2:Addr,At v1 (q6.wrap (t1 - 1)) 9 a2∧∃v2,w1.cell? (a2.add 8)=some (vi v2)∧K v2 w1))
theorem w_Z1 (p1 t1 w K) (h:m_Z1 p1 t1 w K):
  Calls prog 120 #[(vp p1),(vi t1)] w (fun e w'=>∃r2,e=.returned (vi r2)∧K r2 w'):=by
 refine cw (args:=[(vp p1),(vi t1)]) func120 ntmps120 (eg (q0 (vi 0) (ln (jA (eg (q0 (vp p1) (q0 (vi t1) ?_)))))))
 refine sc call37 (h.mono fun e w1 ⟨r1,k,h⟩=>⟨_,k,?_⟩)
 refine q (ln (cbr h ?_ ?_))<;>intro h
 refine eg (q (ln (er (zM (rs1 results120 ⟨0,rfl,h⟩)))))
 refine jB (jN (eg (q (qm h fun a1 h=>q (ql (isAgg46 _) h fun v1 h=>qb (qi (runUnderlying46 _) (sizeOf96 _) h fun a2 h=>q (ql (isAgg3 _) h fun v2 h=>q (ln (er (rs1 results120 ⟨v2,rfl,h⟩))))))))))
def m_C1_l1 (t1:Int) (cap3 cap4:Addr) (r1:Sl) (x1:Int) (wl1:World) (Kc1:Int→WP) (K:WP):Prop :=Br (decide (x1<(r1.len:Int))) (∃a1:Addr,At r1 x1 1 a1∧∃v6,wl1.cell? a1=some (vi v6)∧∃v7:Value,wl1.cell? cap3=some v7∧∃(f1:FuncId) (fs1 cs1:Array Value),v7=.func (.func f1) fs1 cs1∧(∀args w,(callFunc f1 args).run prog w=.ok (.enter f1 args) w)∧Calls prog f1 (fs1++#[(vi v6)]++cs1) wl1 (fun e w3=>e=.returned (.tuple #[])∧Kc1 (q6.wrap (x1+1)) w3)) (∃v8:Sl,wl1.cell? cap4=some v8.v∧∀p1 w4,New wl1 (.cells #[(vi t1)] 29) p1 w4→∃s1:Sl,∃w5:World,(Builtin.append_ #[166,166] 166 #[v8.v,(Sl.mk (some p1) 1 1).v]).run prog w4=.ok s1.v w5∧jT w5 cap4∧∀w6,w6=w5.setCell cap4 s1.v→K w6)
def m_C1 (t1:Int) (cap1 cap2:Addr) (cap3 cap4:Addr) (w:World) (K:WP):Prop :=∃v1:Option Nat,w.cell? cap1=some (.map v1)∧∃v2,(Instr.lookup 132 (.map v1) (vi t1) false).run prog w=.ok (vi v2) w∧Br (decide (v2>0)) (K w) (∃v3:Option Nat,w.cell? cap1=some (.map v3)∧∃v4,(Instr.lookup 132 (.map v3) (vi t1) false).run prog w=.ok (vi v4) w∧∃w1:World,(Instr.mapUpdate 132 (.map v3) (vi t1) (vi (q6.wrap (v4+1)))).run prog w=.ok () w1∧∃v5,w1.cell? cap2=some (vp v5)∧Calls prog 126 #[(vp v5),(vi t1)] w1 (fun e w2=>∃r1:Sl,e=.returned r1.v∧∃(I1:Int→WP) (mu1:Int→World→Nat),I1 0 w2∧∀(x1:Int) (wl1:World),I1 x1 wl1→m_C1_l1 t1 cap3 cap4 r1 x1 wl1 (fun y'0 w'=>I1 y'0 w'∧mu1 y'0 w'<mu1 x1 wl1) K))
theorem w_C1 (t1 cap1 cap2 cap3 cap4 w K) (h:m_C1 t1 cap1 cap2 cap3 cap4 w K):
  Calls prog 125 #[(vi t1),(vp (some cap1)),(vp (some cap2)),(vp (some cap3)),(vp (some cap4))] w (fun e w'=>e=.returned (.tuple #[])∧K  w'):=by
 refine cw (args:=[(vi t1),(vp (some cap1)),(vp (some cap2)),(vp (some cap3)),(vp (some cap4))]) func125 ntmps125 (jA (eg ?_))
 refine ql (isAgg132 _) h fun v1 h=>q ?_
 obtain ⟨v2,hv10,h⟩:=h
 refine q2 (vi v2) (vW (by kernel_rfl) (by kernel_rfl) hv10) (q (ln (cbr h ?_ ?_)))<;>intro h
 refine er (zM (jFV (.inl rfl) results125 ⟨rfl,h⟩))
 refine jB (jN (eg (ql (isAgg132 _) h fun v3 h=>q ?_)))
 obtain ⟨v4,hv8,h⟩:=h
 refine q2 (vi v4) (vW (by kernel_rfl) (by kernel_rfl) hv8) (q ?_)
 obtain ⟨w1,hv7,h⟩:=h
 refine vC (jK rfl) (uW (by kernel_rfl) (by kernel_rfl) (by kernel_rfl) hv7) (ln (jA (eg (ql (isAgg27 _) h fun v5 h=>q (sc call126 (h.mono fun e w2 ⟨r1,k,h⟩=>⟨_,k,?_⟩))))))
 refine qb (ln (jM ?_))
 obtain ⟨I1,mu1,h0,hr⟩:=h
 refine kL (σ:=Int×World) (fun s ρ w=>w=s.2∧Has ρ [(0,(vi t1)),(3,(vp (some cap3))),(4,(vp (some cap4))),(18,r1.v),(19,(vi (r1.len:Int))),(20,(vi s.1))]∧I1 s.1 s.2) (fun s=>mu1 s.1 s.2) (0,w2) ⟨rfl,hm,h0⟩ ?_
 rintro ⟨x1,wl1⟩ ρ w ⟨hw,hH,hI⟩
 dsimp only at hw hH;subst w
 have h:=hr x1 wl1 hI
 refine jQ hH (eg (q (ln (jA (cbr h ?_ ?_)))))<;>intro h
 refine jB (jN (jA (jM (eg (qi (runUnderlying166 _) (sizeOf29 _) h fun a1 h=>ql (isAgg29 _) h fun v6 h=>q (ln (rg (ql (isAgg192 _) h fun v7 h=>q ?_))))))))
 obtain ⟨f1,fs1,cs1,hp1,h⟩:=h
 obtain ⟨hf1,h⟩:=h
 refine vK (jK rfl) (jAY (fs:=fs1) (caps:=cs1) (args:=#[(vi v6)]) (by kernel_rfl) hp1 hf1 (by kernel_rfl) rfl) (h.mono ?_)
 rintro e w3 ⟨rfl,h⟩
 refine ⟨_,rfl,?_⟩
 refine jC (uS (jN (rg (qb (ln ⟨((q6.wrap (x1+1)),w3),⟨rfl,hm,h.1⟩,h.2⟩)))))
 refine zV (xG (xG (xE (jN (rg (ql (isAgg166 _) h fun v8 h=>q (uL (O:=(.cells #[(vi t1)] 29)) (fun p=>(Sl.mk (some p) 1 1).v) (jK rfl) (kZ (vs:=#[(0,(vi t1))]) (by kernel_rfl) (by kernel_rfl)) ?_)))))))
 intro p1 w4 hn2
 have h:=h p1 w4 hn2
 obtain ⟨s1,w5,hv4,h⟩:=h
 refine st (v:=s1.v) (jK rfl) (kB (args:=#[v8.v,(Sl.mk (some p1) 1 1).v]) (by kernel_rfl) (fun _=>rfl) hv4) (st1 (sizeOf166 _) h fun w6 h=>jC (jFV (.inr rfl) results125 ⟨rfl,h⟩))
def m_A2 (p1:Option Addr) (t1:Int) (w:World) (K:Sl→WP):Prop :=Calls prog 18 #[(vp p1),(vi t1)] w (fun e w1=>∃aZ bA bB bC bD bE bF r1,e=.returned (.tuple #[(Ae aZ bA bB bC bD bE bF),(vb r1)])∧∀p2 w2,New w1 (.cells #[(vi 0),(vi 0),(vi 0),(vu 0),ve,(vi 0),(vi 0)] 59) p2 w2→(∀j,j<7→jT w2 (p2.add j))∧∀w3,w3=storeRow w2 p2 (Ad aZ bA bB bC bD bE bF)→∃v1,w3.cell? p2=some (vi v1)∧Calls prog 80 #[(vi v1)] w3 (fun e w4=>∃rfrom1 rto1 rnum1 rtext1 rkids1 r2,e=.returned (.tuple #[(Ai rfrom1 rto1 rnum1 rtext1 rkids1),(vb r2)])∧∀p3 w5,New w4 (.cells #[(vb false),(vb false),(vb false),(vb false),(vi 0)] 123) p3 w5→(∀j,j<5→jT w5 (p3.add j))∧∀w6,w6=storeRow w5 p3 (Ah rfrom1 rto1 rnum1 rtext1 rkids1)→∃v2,w6.cell? (p2.add 5)=some (vi v2)∧∃v3,w6.cell? (p2.add 6)=some (vi v3)∧∀p4 w7,New w6 (.cells #[(vi v2),(vi v3)] 29) p4 w7→∃v4,w7.cell? (p3.add 4)=some (vi v4)∧∃s1:Sl,(Instr.sliceAt 166 (Sl.mk (some p4) 2 2).v none (some (vi v4)) none).run prog w7=.ok s1.v w7∧K s1 w7))
theorem w_A2 (p1 t1 w K) (h:m_A2 p1 t1 w K):
  Calls prog 126 #[(vp p1),(vi t1)] w (fun e w'=>∃r3:Sl,e=.returned r3.v∧K r3 w'):=by
 refine cw (args:=[(vp p1),(vi t1)]) func126 ntmps126 (eg (q0 Sl.nil.v (ln (eg (q0 (vp p1) (q0 (vi t1) ?_))))))
 refine sc call18 (h.mono fun e w1 ⟨aZ,bA,bB,bC,bD,bE,bF,r1,k,h⟩=>⟨_,k,?_⟩)
 refine qc (nw1 h (jG (zeroValue59 _) rfl) fun p2 w2 h=>sro (sizeOf59 _) h fun w3 h=>q (ln (eg (q (ql (isAgg3 _) h fun v1 h=>sc call80 (h.mono fun e w4 ⟨rfrom1,rto1,rnum1,rtext1,rkids1,r2,k,h⟩=>⟨_,k,?_⟩))))))
 refine qc (nw1 h (jG (zeroValue123 _) rfl) fun p3 w5 h=>sro (sizeOf123 _) h fun w6 h=>q (ln (eg (q (ql (isAgg29 _) h fun v2 h=>q (ql (isAgg29 _) h fun v3 h=>uL (O:=(.cells #[(vi v2),(vi v3)] 29)) (fun p=>(Sl.mk (some p) 2 2).v) (jK rfl) (kZ (vs:=#[(0,(vi v2)),(1,(vi v3))]) (by kernel_rfl) (by kernel_rfl)) ?_))))))
 intro p4 w7 hn3
 have h:=h p4 w7 hn3
 refine q (ql (isAgg3 _) h fun v4 h=>?_)
 obtain ⟨s1,hv1,h⟩:=h
 refine q2 s1.v (yF (by kernel_rfl) (by kernel_rfl) (by kernel_rfl) (by kernel_rfl) hv1) (q (ln (er (rs1 results126 ⟨s1,rfl,h⟩))))
end Go.Proofs
end
section
open Go Go.SE
namespace Go.Proofs
open Tryz
attribute [local irreducible] Calls
theorem jKK (n:Int) (w:World):Calls prog 81 #[.int .i64 n] w (fun e w'=>∃r,e=.returned (.bool r)∧(r=Sp.qH n∧w'=w)):=by
 refine w_V1 n w (fun r w'=>r=Sp.qH n∧w'=w) ?_;unfold m_V1;refine ⟨fun h=>⟨?_,rfl⟩,fun h=>⟨?_,rfl⟩⟩
 ·have:0≤n:=by simpa using h
  simp [Sp.qH,this]
 ·have:¬ 0≤n:=by simpa using h
  simp [Sp.qH,this]
theorem jKL (s1 s2 s3 s4:Bool) (s5 k f t u:Int) (x:ByteArray) (a b:Int) (w:World) :
  Calls prog 62 #[.agg #[.bool s1,.bool s2,.bool s3,.bool s4,.int .i64 s5],.agg #[.int .i64 k,.int .i64 f,.int .i64 t,.int .u64 u,.string x,.int .i64 a,.int .i64 b]] w
   (fun e w'=>∃r,e=.returned (.int .i64 r)∧(r=Sp.jP ⟨s1,s2,s3,s4,s5⟩ ⟨k,f,t,u,x,a,b⟩∧Pure w w')):=by
 refine w_X _ _ _ _ _ _ _ _ _ _ _ _ w (fun r w'=>r=Sp.jP ⟨s1,s2,s3,s4,s5⟩ ⟨k,f,t,u,x,a,b⟩∧Pure w w') ?_
 unfold m_X
 intro p1 w1 h1 p2 w2 h2
 have b1:=(Box.of_new h1).pure (Ext.new h2)
 have b2:=Box.of_new h2
 have E:Pure w w2:=(Ext.new h1).trans (Ext.new h2)
 have J:∀c:Bool,c=(s1 && !Sp.qH f)→m_X_j1 p1 p2 c w2 (fun r w'=>r=Sp.jP ⟨s1,s2,s3,s4,s5⟩ ⟨k,f,t,u,x,a,b⟩∧Pure w w'):=by
  intro c hc;unfold m_X_j1;refine ⟨fun h=>⟨?_,E⟩,fun h=>⟨_,b1.cell rfl,fun h'=>⟨_,b2.cell rfl,?_⟩,fun h'=>⟨_,b2.cell rfl,fun h3=>⟨?_,E⟩,fun h3=>⟨?_,E⟩⟩⟩⟩
  ·rw [hc] at h;simp [Sp.jP,h]
  ·refine (jKK _ _).mono ?_;rintro _ _ ⟨r,rfl,rfl,rfl⟩;rw [hc] at h;refine ⟨_,rfl,fun h2=>⟨?_,E⟩,fun h2=>⟨_,b2.cell rfl,_,b2.cell rfl,fun h3=>⟨?_,E⟩,fun h3=>⟨_,b2.cell rfl,fun h4=>⟨?_,E⟩,fun h4=>⟨?_,E⟩⟩⟩⟩
   ·simp [Sp.jP,h',h2]
   ·simp [Sp.jP,h',h3]
   ·simp only [Sp.jP,h,h',h3];simp at h2 h4;simp [h2];omega
   ·simp only [Sp.jP,h,h',h3];simp at h2 h4;simp [h2];omega
  ·rw [hc] at h;simp only [Sp.jP,h,h'];simp at h3;simp;omega
  ·rw [hc] at h;simp only [Sp.jP,h,h'];simp at h3;simp;omega
 refine ⟨_,b1.cell0,fun h=>⟨_,b2.cell rfl,?_⟩,fun h=>J _ (by simp [h])⟩
 refine (jKK _ _).mono ?_
 rintro _ _ ⟨r,rfl,rfl,rfl⟩
 exact ⟨_,rfl,J _ (by simp [h])⟩
end Go.Proofs
end
