import Derived.Test.YtkafbiknboamlaaGreatDoorPa2
import Derived.Test.YtkafbiknboamlaaGreatDoorPa1
import Derived.Test.YtkafbiknboamlaaGreatDoorProg
import Derived.KernelRfl
import Derived.WalkKit
import Derived.Shelf.Pu.ErrVarParseUint
import Derived.Ground.MpProg
import Derived.Lib.SmallJoins
import Derived.Laws.DeepStrings4
section
open Go
namespace Go.Sp
inductive Rr (α:Type) | ok (a:α) (i:Nat) | no (e:Int) (i:Nat)
def Rr.bind {α β:Type} (r:Rr α) (f:α→Nat→Rr β):Rr β:=match r with | .ok a i=>f a i | .no e i=>.no e i
def isDig (c:UInt8):Bool:=decide (48≤c.toNat) && decide (c.toNat≤57)
def kA (B:List UInt8) (c i:Nat):Rr Unit:=match B[i]? with | none=>.no 3 i | some d=>if d.toNat=c then .ok () (i+1) else .no 60 i
def jU (B:List UInt8) (i:Nat):Nat:=i+((B.drop i).takeWhile (fun c=>c.toNat == 32)).length
def zB (B:List UInt8) (i:Nat):List UInt8:=(B.drop i).takeWhile isDig
def decV (l:List UInt8):Nat:=l.foldl (fun n c=>10*n+(c.toNat - 48)) 0
def yH (l:List UInt8):Bool:=decide (18446744073709551616≤decV l) || (decide (1<l.length) && (l.head? == some 48))
def qQ (B:List UInt8) (i:Nat):Rr Nat:=match B[i]? with
 | none=>.no 3 i
 | some d=>if isDig d=false then .no 60 i else if yH (zB B i)=true then .no 61 i else .ok (decV (zB B i)) (i+(zB B i).length)
def zV (B:List UInt8) (nt:Int) (i:Nat):Rr Nat:=(qQ B i).bind fun n j=>if 16≤n∨(n:Int)=nt then .no 50 i else .ok n j
def jDB (c:Nat):Option Nat:=if 48≤c∧c≤57 then some (c - 48) else if 97≤c∧c≤102 then some (c - 87) else if 65≤c∧c≤70 then some (c - 55) else none
def vC (B:List UInt8) (i:Nat):Rr Nat:=match B[i]? with | none=>.no 3 i | some d=>match jDB d.toNat with | none=>.no 60 i | some v=>.ok v (i+1)
def vN (B:List UInt8) (frm:Nat):Nat→Nat→List UInt8→Rr (List UInt8)
 | 0,i,_=>.no 3 i
 | f+1,i,acc=>match B[i]? with
  | none=>.no 3 i
  | some c=>if c.toNat<32∨126<c.toNat then .no 60 i
   else if c.toNat=34 then (if 64<acc.length then .no 1 frm else .ok acc (i+1))
   else if c.toNat=92 then (match B[i+1]? with
    | none=>.no 3 (i+1)
    | some d=>if d.toNat=120 then (vC B (i+2)).bind fun hi j=>(vC B j).bind fun lo j2=>vN B frm f j2 (acc++[UInt8.ofNat (16*hi+lo)])
     else if d.toNat=34∨d.toNat=92 then vN B frm f (i+2) (acc++[d]) else .no 60 (i+1))
   else vN B frm f (i+1) (acc++[c])
def qR (B:List UInt8) (frm:Nat):Rr (List UInt8):=vN B frm (B.length+1) (frm+1) []
def kL (c:Nat):Int:=if c=110 then 1 else if c=35 then 2 else if c=107 then 6 else if c=34 then 3 else if c=40 then 4 else if c=104 then 5 else if c=115 then 7 else if c=112 then 8 else if c=102 then 9 else 0
abbrev Rt:=Rr (Tree×Nat)
def kN (B:List UInt8) (T:Nat→Nat→Rt) (n i:Nat):Rt:=(kA B 40 i).bind fun _ i1=>(T i1 n).bind fun t i2=>(kA B 41 i2).bind fun _ i3=>.ok t i3
def tre (k f t u:Int) (x:List UInt8) (ks:List Tree):Tree:=.mk k f t u ⟨x.toArray⟩ ks
def kI (B:List UInt8) (T:Nat→Nat→Rt) (k:Int) (n j:Nat):Rt :=
 if k=1∨k=6 then (zV B (-1) (j+1)).bind fun v i=>.ok (tre k v 0 0 [] [],n) i
 else if k=2 then (qQ B (j+1)).bind fun v i=>.ok (tre k 0 0 v [] [],n) i
 else if k=3 then (qR B j).bind fun x i=>.ok (tre k 0 0 0 x [],n) i
 else if k=4 then (T (j+1) n).bind fun a i1=>(T i1 a.2).bind fun b i2=>(kA B 41 i2).bind fun _ i3=>.ok (tre k 0 0 0 [] [a.1,b.1],b.2) i3
 else if k=5 then (kN B T n (j+1)).bind fun a i=>.ok (tre k 0 0 0 [] [a.1],a.2) i
 else if k=7 then (zV B (-1) (j+1)).bind fun v i=>(kN B T n i).bind fun a i2=>.ok (tre k v 0 0 [] [a.1],a.2) i2
 else (zV B (-1) (j+1)).bind fun v i=>(kA B 62 i).bind fun _ i1=>(zV B v i1).bind fun u i2=>(kN B T n i2).bind fun a i3=>.ok (tre k v u 0 [] [a.1],a.2) i3
def jT (B:List UInt8):Nat→Nat→Nat→Rt
 | 0,i,_=>match B[jU B i]? with | none=>.no 3 (jU B i) | some c=>if kL c.toNat=0 then .no 60 (jU B i) else .no 52 (jU B i)
 | d+1,i,n=>match B[jU B i]? with
  | none=>.no 3 (jU B i)
  | some c=>if kL c.toNat=0 then .no 60 (jU B i) else if n=4096 then .no 52 (jU B i)
   else (kI B (jT B d) (kL c.toNat) (n+1) (jU B i)).bind fun t k=>.ok t (jU B k)
def jDQ:Tree:=tre 0 0 0 0 [] []
def lQ (B:List UInt8):Tree×Int×Int:=match jT B 64 0 0 with
 | .no e i=>(jDQ,e,i)
 | .ok t i=>if i<B.length then (jDQ,4,i) else (t.1,0,0)
def kZ (B:List UInt8):Tree×Int×Int:=if 1048576<B.length then (jDQ,1,0) else lQ B
theorem jKQ {α:Type} (p:α→Bool) (l:List α):(l.takeWhile p).length≤l.length:=(List.takeWhile_sublist p).length_le
theorem kU {B:List UInt8} {i:Nat} (h:i≤B.length):i≤jU B i∧jU B i≤B.length:=by
 unfold jU;have:=jKQ (fun c:UInt8=>c.toNat == 32) (B.drop i);rw [List.length_drop] at this;omega
theorem xD {B:List UInt8} {i:Nat} (h:i<B.length) (hc:B[i].toNat=32):jU B i=jU B (i+1):=by
 unfold jU;rw [List.drop_eq_getElem_cons h,List.takeWhile_cons_of_pos (by simp [hc])];simp only [List.length_cons];omega
theorem xC {B:List UInt8} {i:Nat} (h:i<B.length) (hc:B[i].toNat≠32):jU B i=i:=by
 unfold jU;rw [List.drop_eq_getElem_cons h,List.takeWhile_cons_of_neg (by simp [hc])];rfl
theorem qG {B:List UInt8} {i:Nat} (h:B.length≤i):jU B i=i:=by
 unfold jU;rw [List.drop_eq_nil_of_le h];rfl
theorem qF {B:List UInt8} {i:Nat} (h:i<B.length) (hc:isDig B[i]=true):zB B i=B[i] :: zB B (i+1):=by
 unfold zB;rw [List.drop_eq_getElem_cons h,List.takeWhile_cons_of_pos hc]
theorem uR {B:List UInt8} {i:Nat} (h:i<B.length) (hc:isDig B[i]=false):zB B i=[]:=by
 unfold zB;rw [List.drop_eq_getElem_cons h,List.takeWhile_cons_of_neg (by simp [hc])]
theorem oY {B:List UInt8} {i:Nat} (h:B.length≤i):zB B i=[]:=by
 unfold zB;rw [List.drop_eq_nil_of_le h];rfl
theorem jBE {B:List UInt8} {i:Nat} (h:i≤B.length):i+(zB B i).length≤B.length:=by
 have:=jKQ isDig (B.drop i);rw [List.length_drop] at this;unfold zB;omega
theorem jFF (B:List UInt8) (i:Nat):∀c∈zB B i,isDig c=true:=fun c hc=>by
 unfold zB at hc;have:=List.all_takeWhile (p:=isDig) (l:=B.drop i);rw [List.all_eq_true] at this;exact this c hc
theorem jDH (B:List UInt8) (i:Nat):(B.drop i).take (zB B i).length=zB B i:=by
 unfold zB;exact (List.prefix_iff_eq_take.1 (List.takeWhile_prefix isDig)).symm
def xZ {α:Type} (B:List UInt8) (i:Nat) (r:Rr α):Prop:=∀a j,r=.ok a j→i≤j∧j≤B.length
theorem xZ.bind {α β:Type} {B:List UInt8} {i:Nat} {r:Rr α} {f:α→Nat→Rr β} (h:xZ B i r) (hf:∀a j,r=.ok a j→i≤j→j≤B.length→xZ B j (f a j)):xZ B i (r.bind f):=by
 intro b k hb;cases r with
 | no e j=>cases hb
 | ok a j =>
  obtain ⟨h1,h2⟩:=h a j rfl
  obtain ⟨h3,h4⟩:=hf a j rfl h1 h2 b k hb
  exact ⟨by omega,h4⟩
theorem xZ.no {α:Type} (B:List UInt8) (i:Nat) (e:Int) (j:Nat):xZ B i (.no e j:Rr α):=fun _ _ h=>by cases h
theorem xZ.ok {α:Type} {B:List UInt8} {i j:Nat} {a:α} (h:i≤j) (h2:j≤B.length):xZ B i (.ok a j:Rr α):=fun _ _ e=>by cases e;exact ⟨h,h2⟩
theorem xZ.mono {α:Type} {B:List UInt8} {i i':Nat} {r:Rr α} (h:xZ B i r) (hi:i'≤i):xZ B i' r:=fun a j e=>⟨by have:=(h a j e).1;omega,(h a j e).2⟩
theorem jAS {B:List UInt8} {i:Nat} {c:UInt8} (h:B[i]?=some c):i<B.length:=(List.getElem?_eq_some_iff.1 h).1
theorem qX (B:List UInt8) (c i:Nat):xZ B i (kA B c i):=by
 unfold kA;split
 ·exact .no _ _ _ _
 ·rename_i d hd;split
  ·exact .ok (by omega) (jAS hd)
  ·exact .no _ _ _ _
theorem xQ (B:List UInt8) (i:Nat):xZ B i (qQ B i):=by
 unfold qQ;split
 ·exact .no _ _ _ _
 ·rename_i d hd;have:=jAS hd;split
  ·exact .no _ _ _ _
  ·split
   ·exact .no _ _ _ _
   ·exact .ok (by omega) (jBE (by omega))
theorem yU (B:List UInt8) (nt:Int) (i:Nat):xZ B i (zV B nt i):=(xQ B i).bind fun n j _ h1 h2=>by
 split
 ·exact .no _ _ _ _
 ·exact .ok (Nat.le_refl _) h2
theorem uB (B:List UInt8) (i:Nat):xZ B i (vC B i):=by
 unfold vC;split
 ·exact .no _ _ _ _
 ·rename_i d hd;split
  ·exact .no _ _ _ _
  ·exact .ok (by omega) (jAS hd)
theorem yV (B:List UInt8) (frm:Nat):∀f i acc,xZ B i (vN B frm f i acc)
 | 0,_,_=>.no _ _ _ _
 | f+1,i,acc=>by
  unfold vN;split
  ·exact .no _ _ _ _
  ·rename_i c hc;have hi:=jAS hc;split
   ·exact .no _ _ _ _
   ·split
    ·split
     ·exact .no _ _ _ _
     ·exact .ok (by omega) hi
    ·split
     ·split
      ·exact .no _ _ _ _
      ·rename_i d hd;split
       ·exact (((uB B (i+2)).bind fun hi j _ _ _=>((uB B j).bind fun lo j2 _ _ _=>yV B frm f j2 _)).mono (by omega))
       ·split
        ·exact (yV B frm f (i+2) _).mono (by omega)
        ·exact .no _ _ _ _
     ·exact (yV B frm f (i+1) _).mono (by omega)
theorem uZ {B:List UInt8} {T:Nat→Nat→Rt} (hT:∀i n,xZ B i (T i n)) (n i:Nat):xZ B i (kN B T n i) :=
 (qX B 40 i).bind fun _ i1 _ _ _=>(hT i1 n).bind fun t i2 _ _ _=>(qX B 41 i2).bind fun _ i3 _ _ h=>.ok (Nat.le_refl _) h
theorem jGY {B:List UInt8} {T:Nat→Nat→Rt} (hT:∀i n,xZ B i (T i n)) (k:Int) (n j:Nat):xZ B j (kI B T k n j):=by
 unfold kI;split
 ·exact ((yU B (-1) (j+1)).bind fun v i _ _ h=>.ok (Nat.le_refl _) h).mono (by omega)
 ·split
  ·exact ((xQ B (j+1)).bind fun v i _ _ h=>.ok (Nat.le_refl _) h).mono (by omega)
  ·split
   ·exact ((yV B j (B.length+1) (j+1) []).bind fun v i _ _ h=>.ok (Nat.le_refl _) h).mono (by omega)
   ·split
    ·exact ((hT (j+1) n).bind fun a i1 _ _ _=>(hT i1 a.2).bind fun b i2 _ _ _=>(qX B 41 i2).bind fun _ i3 _ _ h=>.ok (Nat.le_refl _) h).mono (by omega)
    ·split
     ·exact ((uZ hT n (j+1)).bind fun a i _ _ h=>.ok (Nat.le_refl _) h).mono (by omega)
     ·split
      ·exact ((yU B (-1) (j+1)).bind fun v i _ _ _=>(uZ hT n i).bind fun a i2 _ _ h=>.ok (Nat.le_refl _) h).mono (by omega)
      ·exact ((yU B (-1) (j+1)).bind fun v i _ _ _=>(qX B 62 i).bind fun _ i1 _ _ _=>(yU B v i1).bind fun u i2 _ _ _=>(uZ hT n i2).bind fun a i3 _ _ h=>.ok (Nat.le_refl _) h).mono (by omega)
theorem yT (B:List UInt8):∀d i n,i≤B.length→xZ B i (jT B d i n)
 | 0,i,n,_=>by
  unfold jT;split
  ·exact .no _ _ _ _
  ·split <;> exact .no _ _ _ _
 | d+1,i,n,hi=>by
  have hb:=kU hi;unfold jT;split
  ·exact .no _ _ _ _
  ·split
   ·exact .no _ _ _ _
   ·split
    ·exact .no _ _ _ _
    ·have hT : ∀ i n, xZ B i (jT B d i n) := fun i n => by
      by_cases h:i≤B.length
      ·exact yT B d i n h
      ·intro a j e;exfalso;have hb:jU B i=i:=qG (by omega);cases d <;> (unfold jT at e;rw [hb,List.getElem?_eq_none (by omega)] at e;cases e)
     exact (((jGY hT _ (n+1) _).bind fun t k _ _ h=>.ok (kU h).1 (kU h).2).mono (by omega))
end Go.Sp
namespace Go.Sp
def RtN (r:Rt):Prop:=∀a j,r=.ok a j→a.2≤4096
theorem RtN.bind {α:Type} {r:Rr α} {f:α→Nat→Rt} (hf:∀a j,r=.ok a j→RtN (f a j)):RtN (r.bind f):=by
 intro a k h;cases r with
 | no e j=>cases h
 | ok b j=>exact hf b j rfl a k h
theorem RtN.no (e:Int) (j:Nat):RtN (.no e j):=fun _ _ h=>by cases h
theorem RtN.ok {t:Tree×Nat} {j:Nat} (h:t.2≤4096):RtN (.ok t j):=fun _ _ e=>by cases e;exact h
theorem jAB {B:List UInt8} {T:Nat→Nat→Rt} (hT:∀i n,n≤4096→RtN (T i n)) {n i:Nat} (h:n≤4096):RtN (kN B T n i) :=
 .bind fun _ _ _=>.bind fun t _ e=>.bind fun _ _ _=>.ok (by have:=hT _ _ h _ _ e;exact this)
theorem jJC {B:List UInt8} {T:Nat→Nat→Rt} (hT:∀i n,n≤4096→RtN (T i n)) (k:Int) {n j:Nat} (h:n≤4096):RtN (kI B T k n j):=by
 unfold kI;split
 ·exact .bind fun _ _ _=>.ok h
 ·split
  ·exact .bind fun _ _ _=>.ok h
  ·split
   ·exact .bind fun _ _ _=>.ok h
   ·split
    ·exact .bind fun a _ e=>.bind fun b _ e2=>.bind fun _ _ _=>.ok (by have:=hT _ _ (hT _ _ h _ _ e) _ _ e2;exact this)
    ·split
     ·exact .bind fun a _ e=>.ok (by have:=jAB hT h _ _ e;exact this)
     ·split
      ·exact .bind fun _ _ _=>.bind fun a _ e=>.ok (by have:=jAB hT h _ _ e;exact this)
      ·exact .bind fun _ _ _=>.bind fun _ _ _=>.bind fun _ _ _=>.bind fun a _ e=>.ok (by have:=jAB hT h _ _ e;exact this)
theorem jAA (B:List UInt8):∀d i n,n≤4096→RtN (jT B d i n)
 | 0,i,n,_=>by
  unfold jT;split
  ·exact .no _ _
  ·split <;> exact .no _ _
 | d+1,i,n,h=>by
  unfold jT;split
  ·exact .no _ _
  ·split
   ·exact .no _ _
   ·split
    ·exact .no _ _
    ·exact .bind fun t _ e=>.ok (by have:=jJC (fun i n hn=>jAA B d i n hn) _ (by omega) _ _ e;exact this)
end Go.Sp
end
section
namespace Go.SE
section
variable {P:Program} {ε:Operand→Value} {w w':World} {d:Option Tmp} {ty:TypeId} {pos:String} {aft:Array Edge} {g:Option (Nat×Bool)}
end
end Go.SE
end
section
open Go Go.SE
open Go.IntKind renaming i64 → q6
namespace Go.Proofs
open Tryz
set_option maxRecDepth 100000
set_option maxHeartbeats 4000000
attribute [local irreducible] wpL wpX opE wpE Calls
def m_I1_l1 (r1:Option Addr) (w0:World) (Hl1:NP) (wl1:World) (Kc1:NP→WP) (K:WP):Prop :=∃a1,r1=some a1∧∀w1,Hst w0 Hl1 wl1 Hl1 w1→∃v1,w1.cell? (a1.add 1)=some (vi v1)∧∃a2,r1=some a2∧∃v2,w1.cell? a2=some (vs v2)∧Br (decide (v1<(v2.size:Int))) (∃a3,r1=some a3∧∃v3,w1.cell? a3=some (vs v3)∧∃a4,r1=some a4∧∃v4,w1.cell? (a4.add 1)=some (vi v4)∧∃e1:Int,(Instr.index 9 (vs v3) (vi v4)).run prog w1=.ok (.int .u8 e1) w1∧Br (e1 == 32) (∃a5,r1=some a5∧∃v5,w1.cell? (a5.add 1)=some (vi v5)∧∃a6,r1=some a6∧kG w1 (a6.add 1)∧¬ Hl1 (a6.add 1).block∧∀w2,w2=w1.setCell (a6.add 1) (vi (q6.wrap (v5+1)))→Kc1 Hl1 w2) (K w1)) (K w1)
def m_I1 (r1:Option Addr) (w0:World) (K:WP):Prop :=∃(I1:NP→WP) (mu1:World→Nat),I1 None w0∧∀Hl1 wl1,Hst w0 Hl1 wl1 Hl1 wl1→I1 Hl1 wl1→m_I1_l1 r1 w0 Hl1 wl1 (fun H' w'=>I1 H' w'∧mu1 w'<mu1 wl1) K
theorem w_I1 (r1 w0 K) (h:m_I1 r1 w0 K):
  Calls prog 145 #[(vp r1)] w0 (fun e w'=>e=.returned (.tuple #[])∧K  w'):=by
 refine cw (args:=[(vp r1)]) func145 ntmps145 ?_
 obtain ⟨hs,hb⟩:=st0 w0
 refine jO ?_
 obtain ⟨I1,mu1,h0,hr⟩:=h
 refine zU (σ:=NP×World) (fun s ρ w=>w=s.2∧Has ρ [(0,(vp r1))]∧Hst w0 s.1 w s.1 w∧HB s.1 w []∧I1 s.1 s.2) (fun s=>mu1 s.2) (None,w0) ⟨rfl,hm,hs,hb,h0⟩ ?_
 rintro ⟨Hl1,wl1⟩ ρ w ⟨hw,hH,hs,hb,hI⟩
 dsimp only at hw hH hs hb;subst w
 have h:=hr Hl1 wl1 hs hI
 refine jY hH (jB (jB (zJ (by kernel_rfl) (by kernel_rfl) (by kernel_rfl) (by kernel_rfl) ?_)))
 intro w1 hw1
 have hs:Hst w0 Hl1 wl1 Hl1 w1:=by rw [hw1];exact hs.drew
 have hb:HB Hl1 w1 []:=by rw [hw1];exact hb.drew
 refine qq 0 (vp r1) Kp0 (qg 1 ?_)
 obtain ⟨a1,hp1,h⟩:=h
 refine sxQ Kp1 (jG rfl) rfl (xn hp1) (qq 2 (vp (some (a1.add 1))) Kp2 (qg 3 ?_))
 have ⟨h,hs⟩:=hs.hr (h w1)
 obtain ⟨v1,hv6,h⟩:=h
 refine sxQ Kp3 (jG rfl) rfl (xl (isAgg3 _) hv6) (qq 4 (vp r1) Kp4 (qg 5 ?_))
 obtain ⟨a2,hp2,h⟩:=h
 refine sxQ Kp5 (jG rfl) rfl (xn hp2) (qq 6 (vp (some a2)) Kp6 (qg 7 ?_))
 obtain ⟨v2,hv5,h⟩:=h
 refine sxQ Kp7 (jG rfl) rfl (xl (isAgg9 _) hv5) (qq 8 (vi (v2.size:Int)) Kp8 (qq 9 (vb (decide (v1<(v2.size:Int)))) Kp9 (qq 10 (vb (decide (v1<(v2.size:Int)))) (jE (S8 (jA (jA jD)))) (qg 11 ?_))))
 obtain ⟨hg1,h⟩|⟨hg1,h⟩:=h.br
 refine sxQ (v:=(vp r1)) (jE (S8 (jA (jA (jA jD))))) (wy 12 hg1) rfl (by kernel_rfl) (qg 12 ?_)
 obtain ⟨a3,hp3,h⟩:=h
 refine sxQ (jE (S8 (S4 jD))) (wy 12 hg1) rfl (xn hp3) (qg 13 (sxQ (v:=(vp (some a3))) (jE (S8 (S4 (jA jD)))) (wy 12 hg1) rfl (by kernel_rfl) (qg 14 ?_)))
 obtain ⟨v3,hv4,h⟩:=h
 refine sxQ (jE (S8 (S4 (jA (jA jD))))) (wy 12 hg1) rfl (xl (isAgg9 _) hv4) (qg 15 (sxQ (v:=(vp r1)) (jE (S8 (S4 (jA (jA (jA jD)))))) (wy 12 hg1) rfl (by kernel_rfl) (qg 16 ?_)))
 obtain ⟨a4,hp4,h⟩:=h
 refine sxQ (jE (S8 (S8 jD))) (wy 12 hg1) rfl (xn hp4) (qg 17 (sxQ (v:=(vp (some (a4.add 1)))) (jE (S8 (S8 (jA jD)))) (wy 12 hg1) rfl (by kernel_rfl) (qg 18 ?_)))
 obtain ⟨v4,hv3,h⟩:=h
 refine sxQ (jE (S8 (S8 (jA (jA jD))))) (wy 12 hg1) rfl (xl (isAgg3 _) hv3) (qg 19 ?_)
 obtain ⟨e1,hv2,h⟩:=h
 refine sxQ (v:=(.int .u8 e1)) (jE (S8 (S8 (jA (jA (jA jD)))))) (wy 12 hg1) rfl (zZ (by kernel_rfl) (by kernel_rfl) hv2) (qg 20 (sxQ (v:=(vb (e1 == 32))) (jE (S8 (S8 (S4 jD)))) (wy 12 hg1) rfl (by kernel_rfl) (qr 21 (vb (e1 == 32)) (jE (S8 (S8 (S4 (jA jD))))) (xT hg1) (wn (jL (cbr h ?_ ?_))))))<;>intro h
 refine jF (jL (jO (rg (q (qm h fun a5 h=>q (ql (isAgg3 _) h fun v5 h=>q (qm h fun a6 h=>q (st2 (sizeOf3 _) hs hb h fun w2 hs hb h=>jC (kW (jL ⟨(Hl1,w2),⟨rfl,hm,hs,hb,h.1⟩,h.2⟩))))))))))
 refine zI (vM (vM (vI (jDK (.inr rfl) results145 ⟨rfl,h⟩))))
 refine kM (jE (S8 (jA (jA (jA jD))))) (jH rfl (yD 12 hg1) rfl) (qn 12 (jE (S8 (S4 jD))) (jH rfl (yD 12 hg1) rfl) (qn 13 (jE (S8 (S4 (jA jD)))) (jH rfl (yD 12 hg1) rfl) (qn 14 (jE (S8 (S4 (jA (jA jD))))) (jH rfl (yD 12 hg1) rfl) (qn 15 (jE (S8 (S4 (jA (jA (jA jD)))))) (jH rfl (yD 12 hg1) rfl) (qn 16 (jE (S8 (S8 jD))) (jH rfl (yD 12 hg1) rfl) (qn 17 (jE (S8 (S8 (jA jD)))) (jH rfl (yD 12 hg1) rfl) (qn 18 (jE (S8 (S8 (jA (jA jD))))) (jH rfl (yD 12 hg1) rfl) (qn 19 (jE (S8 (S8 (jA (jA (jA jD)))))) (jH rfl (yD 12 hg1) rfl) (qn 20 (jE (S8 (S8 (S4 jD)))) (jH rfl (yD 12 hg1) rfl) (qr 21 (vb false) (jE (S8 (S8 (S4 (jA jD))))) (xF hg1) (wn (jL (kF (by kernel_rfl) (zI (vM (vM (vI (jDK (.inr rfl) results145 ⟨rfl,h⟩))))))))))))))))))
def m_L2 (r1:Option Addr) (e1 at1:Int) (w0:World) (K:Option (List PanicEntry)→WP):Prop :=K (some [{ v:=(.iface 164 (.agg #[(vi e1),(vi at1)])),recovered:=false }])  w0
theorem w_L2 (r1 e1 at1 w0 K) (h:m_L2 r1 e1 at1 w0 K):
  Calls prog 106 #[(vp r1),(vi e1),(vi at1)] w0 (fun e w'=>(e=.returned (.tuple #[])∧K none  w')∨∃ch,e=.panicked ch∧K (some ch)  w'):=by
 refine kB (args:=[(vp r1),(vi e1),(vi at1)]) func106 rfl ntmps106 (Nat.le_of_ble_eq_true rfl) (jN (by kernel_rfl) (jP 4 (q0 (vi e1) (q0 (vi at1) (q0 (.agg #[(vi e1),(vi at1)]) (q0 (.iface 164 (.agg #[(vi e1),(vi at1)])) (jC (jJB (jG rfl) (by intro c hc;cases hc) (jLE (by kernel_rfl)) (fun ρ'=>.inr ⟨_,rfl,h⟩)))))))))
def m_M2 (r1:Option Addr) (w0:World) (K:Option (List PanicEntry)→Int→WP):Prop :=∃a1,r1=some a1∧∀w1,Hst w0 None w0 None w1→∃v1,w1.cell? (a1.add 1)=some (vi v1)∧∃a2,r1=some a2∧∃v2,w1.cell? a2=some (vs v2)∧Br (v1 == (v2.size:Int)) (∃a3,r1=some a3∧∃v3,w1.cell? (a3.add 1)=some (vi v3)∧Calls prog 106 #[(vp r1),(vi 3),(vi v3)] w1 (fun e w2=>(e=.returned (.tuple #[])∧Kept None w1 w2∧∃a4,r1=some a4∧∀w3,Hst w0 None w2 None w3→∃v4,w3.cell? a4=some (vs v4)∧∃a5,r1=some a5∧∃v5,w3.cell? (a5.add 1)=some (vi v5)∧∃e1:Int,(Instr.index 9 (vs v4) (vi v5)).run prog w3=.ok (.int .u8 e1) w3∧K none e1 w3)∨∃ch,e=.panicked ch∧K (some ch) 0 w2)) (∃a6,r1=some a6∧∀w4,Hst w0 None w1 None w4→∃v6,w4.cell? a6=some (vs v6)∧∃a7,r1=some a7∧∃v7,w4.cell? (a7.add 1)=some (vi v7)∧∃e2:Int,(Instr.index 9 (vs v6) (vi v7)).run prog w4=.ok (.int .u8 e2) w4∧K none e2 w4)
theorem w_M2 (r1 w0 K) (h:m_M2 r1 w0 K):
  Calls prog 146 #[(vp r1)] w0 (fun e w'=>(∃r2:Int,e=.returned (.int .u8 r2)∧K none r2 w')∨∃ch,e=.panicked ch∧K (some ch) 0 w'):=by
 refine kB (args:=[(vp r1)]) func146 rfl ntmps146 (Nat.le_of_ble_eq_true rfl) ?_
 obtain ⟨hs,hb⟩:=st0 w0
 refine eg (q (ln (jB (jB (zJ (by kernel_rfl) (by kernel_rfl) (by kernel_rfl) (by kernel_rfl) ?_)))))
 intro w1 hw1
 have hs:Hst w0 None w0 None w1:=by rw [hw1];exact hs.drew
 have hb:HB None w1 []:=by rw [hw1];exact hb.drew
 refine qq 0 (vp r1) Kp0 (qg 1 ?_)
 obtain ⟨a1,hp1,h⟩:=h
 refine sxQ Kp1 (jG rfl) rfl (xn hp1) (qq 2 (vp (some (a1.add 1))) Kp2 (qg 3 ?_))
 have ⟨h,hs⟩:=hs.hr (h w1)
 obtain ⟨v1,hv9,h⟩:=h
 refine sxQ Kp3 (jG rfl) rfl (xl (isAgg3 _) hv9) (qq 4 (vp r1) Kp4 (qg 5 ?_))
 obtain ⟨a2,hp2,h⟩:=h
 refine sxQ Kp5 (jG rfl) rfl (xn hp2) (qq 6 (vp (some a2)) Kp6 (qg 7 ?_))
 obtain ⟨v2,hv8,h⟩:=h
 refine sxQ Kp7 (jG rfl) rfl (xl (isAgg9 _) hv8) (qq 8 (vi (v2.size:Int)) Kp8 (qq 9 (vb (v1 == (v2.size:Int))) Kp9 (wn (jL (cbr h ?_ ?_)))))<;>intro h
 refine jN (by kernel_rfl) (jP 5 (q0 (vp r1) (q0 (vp r1) (qm h fun a3 h=>q (ql (isAgg3 _) h fun v3 h=>jC (zC (jG rfl) (by intro c hc;cases hc) (xc call106) (h.mono (fun e w2 hh=>hh.elim ?_ (by rintro ⟨ch,rfl,h⟩;exact .inr ⟨ch,rfl,fun ρ'=>.inr ⟨ch,rfl,h⟩⟩)))))))))
 rintro ⟨rfl,hk,h⟩
 refine .inl ⟨_,rfl,?_⟩
 obtain ⟨hs,hb⟩:=hk.hh hs hb
 refine kE (jL (jB (zJ (by kernel_rfl) (by kernel_rfl) (by kernel_rfl) (by kernel_rfl) ?_)))
 intro w3 hw3
 have hs:Hst w0 None w2 None w3:=by rw [hw3];exact hs.drew
 have hb:HB None w3 []:=by rw [hw3];exact hb.drew
 refine qq 0 (vp r1) Kp0 (qg 1 ?_)
 obtain ⟨a4,hp4,h⟩:=h
 refine sxQ Kp1 (jG rfl) rfl (xn hp4) (qq 2 (vp (some a4)) Kp2 (qg 3 ?_))
 have ⟨h,hs⟩:=hs.hr (h w3)
 obtain ⟨v4,hv3,h⟩:=h
 refine sxQ Kp3 (jG rfl) rfl (xl (isAgg9 _) hv3) (qq 4 (vp r1) Kp4 (qg 5 ?_))
 obtain ⟨a5,hp5,h⟩:=h
 refine sxQ Kp5 (jG rfl) rfl (xn hp5) (qq 6 (vp (some (a5.add 1))) Kp6 (qg 7 ?_))
 obtain ⟨v5,hv2,h⟩:=h
 refine sxQ Kp7 (jG rfl) rfl (xl (isAgg3 _) hv2) (qg 8 ?_)
 obtain ⟨e1,hv1,h⟩:=h
 refine sxQ (v:=(.int .u8 e1)) Kp8 (jG rfl) rfl (zZ (by kernel_rfl) (by kernel_rfl) hv1) (qq 9 (.int .u8 e1) Kp9 (wn (jL (er (ep (rs1 results146 (v:=(.int .u8 e1)) ?_))))))
 exact .inl ⟨e1,rfl,h⟩
 refine jF (jL (jB (zJ (by kernel_rfl) (by kernel_rfl) (by kernel_rfl) (by kernel_rfl) ?_)))
 intro w4 hw4
 have hs:Hst w0 None w1 None w4:=by rw [hw4];exact hs.drew
 have hb:HB None w4 []:=by rw [hw4];exact hb.drew
 refine qq 0 (vp r1) Kp0 (qg 1 ?_)
 obtain ⟨a6,hp6,h⟩:=h
 refine sxQ Kp1 (jG rfl) rfl (xn hp6) (qq 2 (vp (some a6)) Kp2 (qg 3 ?_))
 have ⟨h,hs⟩:=hs.hr (h w4)
 obtain ⟨v6,hv7,h⟩:=h
 refine sxQ Kp3 (jG rfl) rfl (xl (isAgg9 _) hv7) (qq 4 (vp r1) Kp4 (qg 5 ?_))
 obtain ⟨a7,hp7,h⟩:=h
 refine sxQ Kp5 (jG rfl) rfl (xn hp7) (qq 6 (vp (some (a7.add 1))) Kp6 (qg 7 ?_))
 obtain ⟨v7,hv6,h⟩:=h
 refine sxQ Kp7 (jG rfl) rfl (xl (isAgg3 _) hv6) (qg 8 ?_)
 obtain ⟨e2,hv5,h⟩:=h
 refine sxQ (v:=(.int .u8 e2)) Kp8 (jG rfl) rfl (zZ (by kernel_rfl) (by kernel_rfl) hv5) (qq 9 (.int .u8 e2) Kp9 (wn (jL (er (ep (rs1 results146 (v:=(.int .u8 e2)) ?_))))))
 exact .inl ⟨e2,rfl,h⟩
def m_K_j2 (r1:Option Addr) (v1:Int) (w0:World) (H:NP) (w:World) (K:Option (List PanicEntry)→Int→WP):Prop :=∃a2,r1=some a2∧∀w3,Hst w0 H w H w3→∃v2,w3.cell? a2=some (vs v2)∧∃a3,r1=some a3∧∃v3,w3.cell? (a3.add 1)=some (vi v3)∧∃s1,(Instr.sliceAt 9 (vs v2) (some (vi v1)) (some (vi v3)) none).run prog w3=.ok (vs s1) w3∧Calls prog 143 #[(vs s1),(vi 10),(vi 64)] w3 (fun e w4=>∃r3,∃r4:Value,e=.returned (.tuple #[(vu r3),r4])∧Kept H w3 w4∧∃b2,(Go.binOp .neq 128 r4 (.nilIface:Value)).run prog w4=.ok (vb b2) w4∧Br b2 (Calls prog 106 #[(vp r1),(vi 61),(vi v1)] w4 (fun e w5=>(e=.returned (.tuple #[])∧Kept H w4 w5∧K none r3 w5)∨∃ch,e=.panicked ch∧K (some ch) 0 w5)) (Br (decide ((s1.size:Int)>1)) (∃e1:Int,(Instr.index 9 (vs s1) (vi 0)).run prog w4=.ok (.int .u8 e1) w4∧Br (e1 == 48) (Calls prog 106 #[(vp r1),(vi 61),(vi v1)] w4 (fun e w6=>(e=.returned (.tuple #[])∧Kept H w4 w6∧K none r3 w6)∨∃ch,e=.panicked ch∧K (some ch) 0 w6)) (K none r3 w4)) (K none r3 w4)))
def m_K_l3 (r1:Option Addr) (v1:Int) (w0:World) (Hl1:NP) (wl1:World) (Kc3:NP→WP) (K:Option (List PanicEntry)→Int→WP):Prop :=∃a4,r1=some a4∧∀w7,Hst w0 Hl1 wl1 Hl1 w7→∃v4,w7.cell? (a4.add 1)=some (vi v4)∧∃a5,r1=some a5∧∃v5,w7.cell? a5=some (vs v5)∧Br (decide (v4<(v5.size:Int))) (∃a6,r1=some a6∧∃v6,w7.cell? a6=some (vs v6)∧∃a7,r1=some a7∧∃v7,w7.cell? (a7.add 1)=some (vi v7)∧∃e2:Int,(Instr.index 9 (vs v6) (vi v7)).run prog w7=.ok (.int .u8 e2) w7∧Br (decide (e2≥48)) (∃a8,r1=some a8∧∃v8,w7.cell? a8=some (vs v8)∧∃a9,r1=some a9∧∃v9,w7.cell? (a9.add 1)=some (vi v9)∧∃e3:Int,(Instr.index 9 (vs v8) (vi v9)).run prog w7=.ok (.int .u8 e3) w7∧Br (decide (e3≤57)) (∃a10,r1=some a10∧∃v10,w7.cell? (a10.add 1)=some (vi v10)∧∃a11,r1=some a11∧kG w7 (a11.add 1)∧¬ Hl1 (a11.add 1).block∧∀w8,w8=w7.setCell (a11.add 1) (vi (q6.wrap (v10+1)))→Kc3 Hl1 w8) (m_K_j2 r1 v1 w0 Hl1 w7 K)) (m_K_j2 r1 v1 w0 Hl1 w7 K)) (m_K_j2 r1 v1 w0 Hl1 w7 K)
def m_K_j1 (r1:Option Addr) (v1:Int) (w0:World) (H:NP) (w:World) (K:Option (List PanicEntry)→Int→WP):Prop :=∃(I1:NP→WP) (mu1:World→Nat),I1 H w∧∀Hl1 wl1,Hst w0 Hl1 wl1 Hl1 wl1→I1 Hl1 wl1→m_K_l3 r1 v1 w0 Hl1 wl1 (fun H' w'=>I1 H' w'∧mu1 w'<mu1 wl1) K
def m_K (r1:Option Addr) (w0:World) (K:Option (List PanicEntry)→Int→WP):Prop :=∃a1,r1=some a1∧∃v1,w0.cell? (a1.add 1)=some (vi v1)∧Calls prog 146 #[(vp r1)] w0 (fun e w1=>(∃r2:Int,e=.returned (.int .u8 r2)∧Kept None w0 w1∧Br ((decide (r2<48)) || (decide (r2>57))) (∃a12,r1=some a12∧∀H1 w2,Hst w0 None w1 H1 w2→∃v11,w2.cell? (a12.add 1)=some (vi v11)∧Calls prog 106 #[(vp r1),(vi 60),(vi v11)] w2 (fun e w9=>(e=.returned (.tuple #[])∧Kept H1 w2 w9∧m_K_j1 r1 v1 w0 H1 w9 K)∨∃ch,e=.panicked ch∧K (some ch) 0 w9)) (∀H1 w2,Hst w0 None w1 H1 w2→m_K_j1 r1 v1 w0 H1 w2 K))∨∃ch,e=.panicked ch∧K (some ch) 0 w1)
theorem w_K (r1 w0 K) (h:m_K r1 w0 K):
  Calls prog 148 #[(vp r1)] w0 (fun e w'=>(∃r5,e=.returned (vu r5)∧K none r5 w')∨∃ch,e=.panicked ch∧K (some ch) 0 w'):=by
 refine kB (args:=[(vp r1)]) func148 rfl ntmps148 (Nat.le_of_ble_eq_true rfl) ?_
 obtain ⟨hs,hb⟩:=st0 w0
 refine eg (q (ln (eg (q (qm h fun a1 h=>q (ql (isAgg3 _) h fun v1 h=>q (ln (jB (jB (jN (by kernel_rfl) (jP 1 (q0 (vp r1) (jC (zC (jG rfl) (by intro c hc;cases hc) (xc call146) (h.mono (fun e w1 hh=>hh.elim ?_ (by rintro ⟨ch,rfl,h⟩;exact .inr ⟨ch,rfl,fun ρ'=>.inr ⟨ch,rfl,h⟩⟩)))))))))))))))))
 rintro ⟨r2,rfl,hk,h⟩
 refine .inl ⟨_,rfl,?_⟩
 obtain ⟨hs,hb⟩:=hk.hh hs hb
 refine zK (q0 (.int .u8 r2) (ln (jB (zH (fun ρ wJ=>∃b1'0:Bool,∃HJ:NP,((decide (r2<48))=b1'0)∧Hst w0 None w1 HJ wJ∧HB HJ wJ []∧Has ρ [(0,(vp r1)),(3,(vi v1)),(19,(vb (b1'0 || (decide (r2>57)))))]) ?_ ?_))))
 refine rg (qc ?_)
 rcases bte (decide (r2<48)) with hg2 | hg2
 refine sj2 16 hg2 (q2 (vb true) (xT hg2) (ln ⟨true,_,hg2,hs,hb,hm⟩))
 refine qk 16 hg2 (qk 16 hg2 (q2 (vb (decide (r2>57))) (xF hg2) (ln ⟨false,_,hg2,hs,hb,hm⟩)))
 rintro ρ w2 ⟨b1'0,H1,he0,hs,hb,hH⟩
 subst he0
 refine zA hH (jL (zD (fun ρ w=>∃H:NP,Has ρ [(0,(vp r1)),(3,(vi v1))]∧Hst w0 H w H w∧HB H w []∧m_K_j1 r1 v1 w0 H w K) ?_ ?_))
 rintro ρ w ⟨H,hH,hs,hb,h⟩
 refine jY hH (jB (zD (fun ρ w=>∃H:NP,Has ρ [(0,(vp r1)),(3,(vi v1))]∧Hst w0 H w H w∧HB H w []∧m_K_j2 r1 v1 w0 H w K) ?_ ?_))
 rintro ρ w ⟨H,hH,hs,hb,h⟩
 refine jY hH (jB (zJ (by kernel_rfl) (by kernel_rfl) (by kernel_rfl) (by kernel_rfl) ?_))
 intro w3 hw3
 have hs:Hst w0 H w H w3:=by rw [hw3];exact hs.drew
 have hb:HB H w3 []:=by rw [hw3];exact hb.drew
 refine qq 0 (vp r1) Kp0 (qg 1 ?_)
 obtain ⟨a2,hp2,h⟩:=h
 refine sxQ Kp1 (jG rfl) rfl (xn hp2) (qq 2 (vp (some a2)) Kp2 (qg 3 ?_))
 have ⟨h,hs⟩:=hs.hr (h w3)
 obtain ⟨v2,hv5,h⟩:=h
 refine sxQ Kp3 (jG rfl) rfl (xl (isAgg9 _) hv5) (qq 4 (vi v1) Kp4 (qq 5 (vp r1) Kp5 (qg 6 ?_)))
 obtain ⟨a3,hp3,h⟩:=h
 refine sxQ Kp6 (jG rfl) rfl (xn hp3) (qq 7 (vp (some (a3.add 1))) Kp7 (qg 8 ?_))
 obtain ⟨v3,hv4,h⟩:=h
 refine sxQ Kp8 (jG rfl) rfl (xl (isAgg3 _) hv4) (qg 9 ?_)
 obtain ⟨s1,hv3,h⟩:=h
 refine sxQ (v:=(vs s1)) Kp9 (jG rfl) rfl (qB (by kernel_rfl) (by kernel_rfl) (by kernel_rfl) (by kernel_rfl) hv3) (qq 10 (vs s1) (jE (S8 (jA (jA jD)))) (wn (jL (eg (q (sc call143 (h.mono fun e w4 ⟨r3,r4,k,hk,h⟩=>have ⟨hs,hb⟩:=hk.hh hs hb;⟨_,k,?_⟩)))))))
 refine q (qd (ln (jB (eg (q ?_)))))
 obtain ⟨b2,hv2,h⟩:=h
 refine q2 (vb b2) (x_bini (by kernel_rfl) (by kernel_rfl) hv2) (q ?_)
 obtain ⟨hg3,h⟩|⟨hg3,h⟩:=h.br
 refine sj4 84 hg3 (sm (sm (sm (sj 84 hg3 (q2 (vb true) (xT hg3) (ln (kO (by kernel_rfl) (jN (by kernel_rfl) (jP 2 (q0 (vp r1) (q0 (vi v1) (jC (zC (jG rfl) (by intro c hc;cases hc) (xc call106) (h.mono (fun e w5 hh=>hh.elim ?_ (by rintro ⟨ch,rfl,h⟩;exact .inr ⟨ch,rfl,fun ρ'=>.inr ⟨ch,rfl,h⟩⟩))))))))))))))))
 rintro ⟨rfl,hk,h⟩
 refine .inl ⟨_,rfl,?_⟩
 obtain ⟨hs,hb⟩:=hk.hh hs hb
 refine kE (jL (eg (q0 (vu r3) (q0 (vu r3) (ln (er (ep (rs1 results148 (v:=(vu r3)) ?_))))))))
 exact .inl ⟨r3,rfl,h⟩
 refine qk 84 hg3 (qk 84 hg3 (qk 84 hg3 (qk 84 hg3 ?_)))
 obtain ⟨hg4,h⟩|⟨hg4,h⟩:=h.br
 refine qk 88 hg4 ?_
 obtain ⟨e1,hv1,h⟩:=h
 refine stq (v:=(.int .u8 e1)) (wy 88 hg4) (zZ (by kernel_rfl) (by kernel_rfl) hv1) (qk 88 hg4 (stq (v:=(vb (e1 == 48))) (wy 84 hg3) (xT hg4) (q2 (vb (e1 == 48)) (xF hg3) (ln (cbr h ?_ ?_)))))<;>intro h
 refine jN (by kernel_rfl) (jP 2 (q0 (vp r1) (q0 (vi v1) (jC (zC (jG rfl) (by intro c hc;cases hc) (xc call106) (h.mono (fun e w6 hh=>hh.elim ?_ (by rintro ⟨ch,rfl,h⟩;exact .inr ⟨ch,rfl,fun ρ'=>.inr ⟨ch,rfl,h⟩⟩))))))))
 rintro ⟨rfl,hk,h⟩
 refine .inl ⟨_,rfl,?_⟩
 obtain ⟨hs,hb⟩:=hk.hh hs hb
 refine kE (jL (eg (q0 (vu r3) (q0 (vu r3) (ln (er (ep (rs1 results148 (v:=(vu r3)) ?_))))))))
 exact .inl ⟨r3,rfl,h⟩
 refine jF (jL (eg (qb (ln (er (ep (rs1 results148 (v:=(vu r3)) ?_)))))))
 exact .inl ⟨r3,rfl,h⟩
 refine sj3 88 hg4 (stq (v:=(vb false)) (wy 84 hg3) (xF hg4) (q2 (vb false) (xF hg3) (ln (kF (by kernel_rfl) (jF (jL (eg (qb (ln (er (ep (rs1 results148 (v:=(vu r3)) ?_))))))))))))
 exact .inl ⟨r3,rfl,h⟩
 refine jO ?_
 obtain ⟨I1,mu1,h0,hr⟩:=h
 refine zU (σ:=NP×World) (fun s ρ w=>w=s.2∧Has ρ [(0,(vp r1)),(3,(vi v1))]∧Hst w0 s.1 w s.1 w∧HB s.1 w []∧I1 s.1 s.2) (fun s=>mu1 s.2) (H,w) ⟨rfl,hm,hs,hb,h0⟩ ?_
 rintro ⟨Hl1,wl1⟩ ρ w ⟨hw,hH,hs,hb,hI⟩
 dsimp only at hw hH hs hb;subst w
 have h:=hr Hl1 wl1 hs hI
 refine jY hH (jB (jB (zJ (by kernel_rfl) (by kernel_rfl) (by kernel_rfl) (by kernel_rfl) ?_)))
 intro w7 hw7
 have hs:Hst w0 Hl1 wl1 Hl1 w7:=by rw [hw7];exact hs.drew
 have hb:HB Hl1 w7 []:=by rw [hw7];exact hb.drew
 refine qq 0 (vp r1) Kp0 (qg 1 ?_)
 obtain ⟨a4,hp4,h⟩:=h
 refine sxQ Kp1 (jG rfl) rfl (xn hp4) (qq 2 (vp (some (a4.add 1))) Kp2 (qg 3 ?_))
 have ⟨h,hs⟩:=hs.hr (h w7)
 obtain ⟨v4,hv14,h⟩:=h
 refine sxQ Kp3 (jG rfl) rfl (xl (isAgg3 _) hv14) (qq 4 (vp r1) Kp4 (qg 5 ?_))
 obtain ⟨a5,hp5,h⟩:=h
 refine sxQ Kp5 (jG rfl) rfl (xn hp5) (qq 6 (vp (some a5)) Kp6 (qg 7 ?_))
 obtain ⟨v5,hv13,h⟩:=h
 refine sxQ Kp7 (jG rfl) rfl (xl (isAgg9 _) hv13) (qq 8 (vi (v5.size:Int)) Kp8 (qq 9 (vb (decide (v4<(v5.size:Int)))) Kp9 (qq 10 (vb (decide (v4<(v5.size:Int)))) (jE (S8 (jA (jA jD)))) (qg 11 ?_))))
 obtain ⟨hg5,h⟩|⟨hg5,h⟩:=h.br
 refine sxQ (v:=(vp r1)) (jE (S8 (jA (jA (jA jD))))) (wy 36 hg5) rfl (by kernel_rfl) (qg 12 ?_)
 obtain ⟨a6,hp6,h⟩:=h
 refine sxQ (jE (S8 (S4 jD))) (wy 36 hg5) rfl (xn hp6) (qg 13 (sxQ (v:=(vp (some a6))) (jE (S8 (S4 (jA jD)))) (wy 36 hg5) rfl (by kernel_rfl) (qg 14 ?_)))
 obtain ⟨v6,hv12,h⟩:=h
 refine sxQ (jE (S8 (S4 (jA (jA jD))))) (wy 36 hg5) rfl (xl (isAgg9 _) hv12) (qg 15 (sxQ (v:=(vp r1)) (jE (S8 (S4 (jA (jA (jA jD)))))) (wy 36 hg5) rfl (by kernel_rfl) (qg 16 ?_)))
 obtain ⟨a7,hp7,h⟩:=h
 refine sxQ (jE (S8 (S8 jD))) (wy 36 hg5) rfl (xn hp7) (qg 17 (sxQ (v:=(vp (some (a7.add 1)))) (jE (S8 (S8 (jA jD)))) (wy 36 hg5) rfl (by kernel_rfl) (qg 18 ?_)))
 obtain ⟨v7,hv11,h⟩:=h
 refine sxQ (jE (S8 (S8 (jA (jA jD))))) (wy 36 hg5) rfl (xl (isAgg3 _) hv11) (qg 19 ?_)
 obtain ⟨e2,hv10,h⟩:=h
 refine sxQ (v:=(.int .u8 e2)) (jE (S8 (S8 (jA (jA (jA jD)))))) (wy 36 hg5) rfl (zZ (by kernel_rfl) (by kernel_rfl) hv10) (qg 20 (sxQ (v:=(vb (decide (e2≥48)))) (jE (S8 (S8 (S4 jD)))) (wy 36 hg5) rfl (by kernel_rfl) (qr 21 (vb (decide (e2≥48))) (jE (S8 (S8 (S4 (jA jD))))) (xT hg5) (qq 22 (vb (decide (e2≥48))) (jE (S8 (S8 (S4 (jA (jA jD)))))) (qg 23 ?_)))))
 obtain ⟨hg6,h⟩|⟨hg6,h⟩:=h.br
 refine sxQ (v:=(vp r1)) (jE (S8 (S8 (S4 (jA (jA (jA jD))))))) (wy 48 hg6) rfl (by kernel_rfl) (qg 24 ?_)
 obtain ⟨a8,hp8,h⟩:=h
 refine sxQ (jE (S8 (S8 (S8 jD)))) (wy 48 hg6) rfl (xn hp8) (qg 25 (sxQ (v:=(vp (some a8))) (jE (S8 (S8 (S8 (jA jD))))) (wy 48 hg6) rfl (by kernel_rfl) (qg 26 ?_)))
 obtain ⟨v8,hv9,h⟩:=h
 refine sxQ (jE (S8 (S8 (S8 (jA (jA jD)))))) (wy 48 hg6) rfl (xl (isAgg9 _) hv9) (qg 27 (sxQ (v:=(vp r1)) (jE (S8 (S8 (S8 (jA (jA (jA jD))))))) (wy 48 hg6) rfl (by kernel_rfl) (qg 28 ?_)))
 obtain ⟨a9,hp9,h⟩:=h
 refine sxQ (jE (S8 (S8 (S8 (S4 jD))))) (wy 48 hg6) rfl (xn hp9) (qg 29 (sxQ (v:=(vp (some (a9.add 1)))) (jE (S8 (S8 (S8 (S4 (jA jD)))))) (wy 48 hg6) rfl (by kernel_rfl) (qg 30 ?_)))
 obtain ⟨v9,hv8,h⟩:=h
 refine sxQ (jE (S8 (S8 (S8 (S4 (jA (jA jD))))))) (wy 48 hg6) rfl (xl (isAgg3 _) hv8) (qg 31 ?_)
 obtain ⟨e3,hv7,h⟩:=h
 refine sxQ (v:=(.int .u8 e3)) (jE (S8 (S8 (S8 (S4 (jA (jA (jA jD)))))))) (wy 48 hg6) rfl (zZ (by kernel_rfl) (by kernel_rfl) hv7) (qg 32 (sxQ (v:=(vb (decide (e3≤57)))) (jE (S8 (S8 (S8 (S8 jD))))) (wy 48 hg6) rfl (by kernel_rfl) (qr 33 (vb (decide (e3≤57))) (jE (S8 (S8 (S8 (S8 (jA jD)))))) (xT hg6) (wn (jL (cbr h ?_ ?_))))))<;>intro h
 refine jF (jL (jO (rg (q (qm h fun a10 h=>q (ql (isAgg3 _) h fun v10 h=>q (qm h fun a11 h=>q (st2 (sizeOf3 _) hs hb h fun w8 hs hb h=>jC (kW (jL ⟨(Hl1,w8),⟨rfl,hm,hs,hb,h.1⟩,h.2⟩))))))))))
 refine zI (vM (vM (vI (jL ⟨Hl1,hm,hs,hb,h⟩))))
 refine kM (jE (S8 (S8 (S4 (jA (jA (jA jD))))))) (jH rfl (yD 48 hg6) rfl) (qn 24 (jE (S8 (S8 (S8 jD)))) (jH rfl (yD 48 hg6) rfl) (qn 25 (jE (S8 (S8 (S8 (jA jD))))) (jH rfl (yD 48 hg6) rfl) (qn 26 (jE (S8 (S8 (S8 (jA (jA jD)))))) (jH rfl (yD 48 hg6) rfl) (qn 27 (jE (S8 (S8 (S8 (jA (jA (jA jD))))))) (jH rfl (yD 48 hg6) rfl) (qn 28 (jE (S8 (S8 (S8 (S4 jD))))) (jH rfl (yD 48 hg6) rfl) (qn 29 (jE (S8 (S8 (S8 (S4 (jA jD)))))) (jH rfl (yD 48 hg6) rfl) (qn 30 (jE (S8 (S8 (S8 (S4 (jA (jA jD))))))) (jH rfl (yD 48 hg6) rfl) (qn 31 (jE (S8 (S8 (S8 (S4 (jA (jA (jA jD)))))))) (jH rfl (yD 48 hg6) rfl) (qn 32 (jE (S8 (S8 (S8 (S8 jD))))) (jH rfl (yD 48 hg6) rfl) (qr 33 (vb false) (jE (S8 (S8 (S8 (S8 (jA jD)))))) (xF hg6) (wn (jL (kF (by kernel_rfl) (zI (vM (vM (vI (jL ⟨Hl1,hm,hs,hb,h⟩))))))))))))))))))
 refine kM (jE (S8 (jA (jA (jA jD))))) (jH rfl (yD 36 hg5) rfl) (qn 12 (jE (S8 (S4 jD))) (jH rfl (yD 36 hg5) rfl) (qn 13 (jE (S8 (S4 (jA jD)))) (jH rfl (yD 36 hg5) rfl) (qn 14 (jE (S8 (S4 (jA (jA jD))))) (jH rfl (yD 36 hg5) rfl) (qn 15 (jE (S8 (S4 (jA (jA (jA jD)))))) (jH rfl (yD 36 hg5) rfl) (qn 16 (jE (S8 (S8 jD))) (jH rfl (yD 36 hg5) rfl) (qn 17 (jE (S8 (S8 (jA jD)))) (jH rfl (yD 36 hg5) rfl) (qn 18 (jE (S8 (S8 (jA (jA jD))))) (jH rfl (yD 36 hg5) rfl) (qn 19 (jE (S8 (S8 (jA (jA (jA jD)))))) (jH rfl (yD 36 hg5) rfl) (qn 20 (jE (S8 (S8 (S4 jD)))) (jH rfl (yD 36 hg5) rfl) (qr 21 (vb false) (jE (S8 (S8 (S4 (jA jD))))) (xF hg5) (qq 22 (vb false) (jE (S8 (S8 (S4 (jA (jA jD)))))) (qn 23 (jE (S8 (S8 (S4 (jA (jA (jA jD))))))) (jH rfl (yD (c:=false) 48 rfl) rfl) (qn 24 (jE (S8 (S8 (S8 jD)))) (jH rfl (yD (c:=false) 48 rfl) rfl) (qn 25 (jE (S8 (S8 (S8 (jA jD))))) (jH rfl (yD (c:=false) 48 rfl) rfl) (qn 26 (jE (S8 (S8 (S8 (jA (jA jD)))))) (jH rfl (yD (c:=false) 48 rfl) rfl) (qn 27 (jE (S8 (S8 (S8 (jA (jA (jA jD))))))) (jH rfl (yD (c:=false) 48 rfl) rfl) (qn 28 (jE (S8 (S8 (S8 (S4 jD))))) (jH rfl (yD (c:=false) 48 rfl) rfl) (qn 29 (jE (S8 (S8 (S8 (S4 (jA jD)))))) (jH rfl (yD (c:=false) 48 rfl) rfl) (qn 30 (jE (S8 (S8 (S8 (S4 (jA (jA jD))))))) (jH rfl (yD (c:=false) 48 rfl) rfl) (qn 31 (jE (S8 (S8 (S8 (S4 (jA (jA (jA jD)))))))) (jH rfl (yD (c:=false) 48 rfl) rfl) (qn 32 (jE (S8 (S8 (S8 (S8 jD))))) (jH rfl (yD (c:=false) 48 rfl) rfl) (qq 33 (vb false) (jE (S8 (S8 (S8 (S8 (jA jD)))))) (wn ?_)))))))))))))))))))))))
 refine jL (kF (by kernel_rfl) (zI (vM (vM (vI (jL ⟨Hl1,hm,hs,hb,h⟩))))))
 refine cbr h ?_ ?_<;>intro h
 refine jN (by kernel_rfl) (jP 5 (q0 (vp r1) (q0 (vp r1) (qm h fun a12 h=>q ?_))))
 have ⟨h,hs⟩:=hs.hr (h H1 w2)
 refine ql (isAgg3 _) h fun v11 h=>jC (zC (jG rfl) (by intro c hc;cases hc) (xc call106) (h.mono (fun e w9 hh=>hh.elim ?_ (by rintro ⟨ch,rfl,h⟩;exact .inr ⟨ch,rfl,fun ρ'=>.inr ⟨ch,rfl,h⟩⟩))))
 rintro ⟨rfl,hk,h⟩
 refine .inl ⟨_,rfl,?_⟩
 obtain ⟨hs,hb⟩:=hk.hh hs hb
 refine kE (jL ⟨H1,hm,hs,hb,h⟩)
 refine jF ?_
 have ⟨h,hs⟩:=hs.hr (h H1 w2)
 refine jL ⟨H1,hm,hs,hb,h⟩
def m_N2 (r1:Option Addr) (not1:Int) (w0:World) (K:Option (List PanicEntry)→Int→WP):Prop :=∃a1,r1=some a1∧∃v1,w0.cell? (a1.add 1)=some (vi v1)∧Calls prog 148 #[(vp r1)] w0 (fun e w1=>(∃r2,e=.returned (vu r2)∧Br ((decide (r2≥16)) || (((q6.wrap r2):Int) == not1)) (Calls prog 106 #[(vp r1),(vi 50),(vi v1)] w1 (fun e w3=>(e=.returned (.tuple #[])∧K none (q6.wrap r2) w3)∨∃ch,e=.panicked ch∧K (some ch) 0 w3)) (K none (q6.wrap r2) w1))∨∃ch,e=.panicked ch∧K (some ch) 0 w1)
theorem w_N2 (r1 not1 w0 K) (h:m_N2 r1 not1 w0 K):
  Calls prog 147 #[(vp r1),(vi not1)] w0 (fun e w'=>(∃r3,e=.returned (vi r3)∧K none r3 w')∨∃ch,e=.panicked ch∧K (some ch) 0 w'):=by
 refine kB (args:=[(vp r1),(vi not1)]) func147 rfl ntmps147 (Nat.le_of_ble_eq_true rfl) (eg (q0 (vi 0) (ln (eg (q0 (vp r1) (qm h fun a1 h=>q (ql (isAgg3 _) h fun v1 h=>q (ln (jB (jN (by kernel_rfl) (jP 1 (q0 (vp r1) (jC (zC (jG rfl) (by intro c hc;cases hc) (xc call148) (h.mono (fun e w1 hh=>hh.elim ?_ (by rintro ⟨ch,rfl,h⟩;exact .inr ⟨ch,rfl,fun ρ'=>.inr ⟨ch,rfl,h⟩⟩)))))))))))))))))
 rintro ⟨r2,rfl,h⟩
 refine .inl ⟨_,rfl,?_⟩
 refine zK (q0 (vu r2) (ln (jB (jB (zH (fun ρ wJ=>∃b1'0:Bool,((decide (r2≥16))=b1'0)∧w1=wJ∧Has ρ [(0,(vp r1)),(5,(vi v1)),(6,(vu r2)),(20,(vb (b1'0 || (((q6.wrap r2):Int) == not1))))]) ?_ ?_)))))
 refine rg (qc ?_)
 rcases bte (decide (r2≥16)) with hg2 | hg2
 refine sj4 15 hg2 (q2 (vb true) (xT hg2) (ln ⟨true,hg2,rfl,hm⟩))
 refine qk 15 hg2 (qk 15 hg2 (qk 15 hg2 (qk 15 hg2 (q2 (vb (((q6.wrap r2):Int) == not1)) (xF hg2) (ln ⟨false,hg2,rfl,hm⟩)))))
 rintro ρ w2 ⟨b1'0,he0,hw,hH⟩
 subst he0
 subst hw
 refine zA hH (jL (cbr h ?_ ?_))<;>intro h
 refine jN (by kernel_rfl) (jP 2 (q0 (vp r1) (q0 (vi v1) (jC (zC (jG rfl) (by intro c hc;cases hc) (xc call106) (h.mono (fun e w3 hh=>hh.elim ?_ (by rintro ⟨ch,rfl,h⟩;exact .inr ⟨ch,rfl,fun ρ'=>.inr ⟨ch,rfl,h⟩⟩))))))))
 rintro ⟨rfl,h⟩
 refine .inl ⟨_,rfl,?_⟩
 refine kE (jL (eg (q0 (vu r2) (q0 (vi (q6.wrap r2)) (q0 (vi (q6.wrap r2)) (ln (er (ep (rs1 results147 (v:=(vi (q6.wrap r2))) ?_)))))))))
 exact .inl ⟨(q6.wrap r2),rfl,h⟩
 refine jF (jL (eg (qc (ln (er (ep (rs1 results147 (v:=(vi (q6.wrap r2))) ?_)))))))
 exact .inl ⟨(q6.wrap r2),rfl,h⟩
def m_O2 (r1:Option Addr) (c1:Int) (w0:World) (K:Option (List PanicEntry)→WP):Prop :=Calls prog 146 #[(vp r1)] w0 (fun e w1=>(∃r2:Int,e=.returned (.int .u8 r2)∧Br (r2 != c1) (∃a1,r1=some a1∧∃v1,w1.cell? (a1.add 1)=some (vi v1)∧Calls prog 106 #[(vp r1),(vi 60),(vi v1)] w1 (fun e w2=>(e=.returned (.tuple #[])∧∃a2,r1=some a2∧∃v2,w2.cell? (a2.add 1)=some (vi v2)∧∃a3,r1=some a3∧kG w2 (a3.add 1)∧∀w3,w3=w2.setCell (a3.add 1) (vi (q6.wrap (v2+1)))→K none w3)∨∃ch,e=.panicked ch∧K (some ch)  w2)) (∃a4,r1=some a4∧∃v3,w1.cell? (a4.add 1)=some (vi v3)∧∃a5,r1=some a5∧kG w1 (a5.add 1)∧∀w4,w4=w1.setCell (a5.add 1) (vi (q6.wrap (v3+1)))→K none w4))∨∃ch,e=.panicked ch∧K (some ch)  w1)
theorem w_O2 (r1 c1 w0 K) (h:m_O2 r1 c1 w0 K):
  Calls prog 150 #[(vp r1),(.int .u8 c1)] w0 (fun e w'=>(e=.returned (.tuple #[])∧K none  w')∨∃ch,e=.panicked ch∧K (some ch)  w'):=by
 refine kB (args:=[(vp r1),(.int .u8 c1)]) func150 rfl ntmps150 (Nat.le_of_ble_eq_true rfl) (jB (jB (jN (by kernel_rfl) (jP 1 (q0 (vp r1) (jC (zC (jG rfl) (by intro c hc;cases hc) (xc call146) (h.mono (fun e w1 hh=>hh.elim ?_ (by rintro ⟨ch,rfl,h⟩;exact .inr ⟨ch,rfl,fun ρ'=>.inr ⟨ch,rfl,h⟩⟩))))))))))
 rintro ⟨r2,rfl,h⟩
 refine .inl ⟨_,rfl,?_⟩
 refine zK (q0 (.int .u8 c1) (q0 (vb (r2 != c1)) (ln (cbr h ?_ ?_))))<;>intro h
 refine jN (by kernel_rfl) (jP 5 (q0 (vp r1) (q0 (vp r1) (qm h fun a1 h=>q (ql (isAgg3 _) h fun v1 h=>jC (zC (jG rfl) (by intro c hc;cases hc) (xc call106) (h.mono (fun e w2 hh=>hh.elim ?_ (by rintro ⟨ch,rfl,h⟩;exact .inr ⟨ch,rfl,fun ρ'=>.inr ⟨ch,rfl,h⟩⟩)))))))))
 rintro ⟨rfl,h⟩
 refine .inl ⟨_,rfl,?_⟩
 refine kE (jL (rg (q0 (vp r1) (qm h fun a2 h=>q (ql (isAgg3 _) h fun v2 h=>q (qm h fun a3 h=>q (st1 (sizeOf3 _) h fun w3 h=>jC (ep (jDK (.inr rfl) results150 ?_)))))))))
 exact .inl ⟨rfl,h⟩
 refine jF (jL (rg (q (qm h fun a4 h=>q (ql (isAgg3 _) h fun v3 h=>q (qm h fun a5 h=>q (st1 (sizeOf3 _) h fun w4 h=>jC (ep (jDK (.inr rfl) results150 ?_)))))))))
 exact .inl ⟨rfl,h⟩
def m_P2 (r1:Option Addr) (w0:World) (K:Option (List PanicEntry)→Int→WP):Prop :=Calls prog 146 #[(vp r1)] w0 (fun e w1=>(∃r2:Int,e=.returned (.int .u8 r2)∧Br ((decide (r2≥48)) && (decide (r2≤57))) (∃a1,r1=some a1∧∃v1,w1.cell? (a1.add 1)=some (vi v1)∧∃a2,r1=some a2∧kG w1 (a2.add 1)∧∀w5,w5=w1.setCell (a2.add 1) (vi (q6.wrap (v1+1)))→K none (IntKind.u8.wrap (r2 - 48)) w5) (Br ((decide (r2≥97)) && (decide (r2≤102))) (∃a3,r1=some a3∧∃v2,w1.cell? (a3.add 1)=some (vi v2)∧∃a4,r1=some a4∧kG w1 (a4.add 1)∧∀w9,w9=w1.setCell (a4.add 1) (vi (q6.wrap (v2+1)))→K none (IntKind.u8.wrap (r2 - 87)) w9) (Br ((decide (r2≥65)) && (decide (r2≤70))) (∃a5,r1=some a5∧∃v3,w1.cell? (a5.add 1)=some (vi v3)∧∃a6,r1=some a6∧kG w1 (a6.add 1)∧∀w13,w13=w1.setCell (a6.add 1) (vi (q6.wrap (v3+1)))→K none (IntKind.u8.wrap (r2 - 55)) w13) (∃a7,r1=some a7∧∃v4,w1.cell? (a7.add 1)=some (vi v4)∧Calls prog 106 #[(vp r1),(vi 60),(vi v4)] w1 (fun e w14=>(e=.returned (.tuple #[])∧∃a8,r1=some a8∧∃v5,w14.cell? (a8.add 1)=some (vi v5)∧∃a9,r1=some a9∧kG w14 (a9.add 1)∧∀w15,w15=w14.setCell (a9.add 1) (vi (q6.wrap (v5+1)))→K none r2 w15)∨∃ch,e=.panicked ch∧K (some ch) 0 w14)))))∨∃ch,e=.panicked ch∧K (some ch) 0 w1)
theorem w_P2 (r1 w0 K) (h:m_P2 r1 w0 K):
  Calls prog 204 #[(vp r1)] w0 (fun e w'=>(∃r3:Int,e=.returned (.int .u8 r3)∧K none r3 w')∨∃ch,e=.panicked ch∧K (some ch) 0 w'):=by
 refine kB (args:=[(vp r1)]) func204 rfl ntmps204 (Nat.le_of_ble_eq_true rfl) (eg (q0 (.int .u8 0) (ln (jB (jN (by kernel_rfl) (jP 1 (q0 (vp r1) (jC (zC (jG rfl) (by intro c hc;cases hc) (xc call146) (h.mono (fun e w1 hh=>hh.elim ?_ (by rintro ⟨ch,rfl,h⟩;exact .inr ⟨ch,rfl,fun ρ'=>.inr ⟨ch,rfl,h⟩⟩))))))))))))
 rintro ⟨r2,rfl,h⟩
 refine .inl ⟨_,rfl,?_⟩
 refine zK (q0 (.int .u8 r2) (ln (jB (jO (jB (zH (fun ρ wJ=>w1=wJ∧Has ρ [(0,(vp r1)),(3,(.int .u8 r2)),(12,(vb ((decide (r2≥48)) && (decide (r2≤57)))))]) ?_ ?_))))))
 refine rg (qc (jM 3 (fun ρ wJ=>∃b3'0:Bool,((decide (r2≥48))=b3'0)∧w1=wJ∧Has ρ [(0,(vp r1)),(3,(.int .u8 r2)),(18,(vb (b3'0 && (decide (r2≤57)))))]) ?_ ?_))
 rintro ρ w4 ⟨b3'0,he0,hw,hH⟩
 subst he0
 subst hw
 refine jR hH (q (ln ⟨rfl,hm⟩))
 rcases bte (decide (r2≥48)) with hg4 | hg4
 refine qk 15 hg4 (qk 15 hg4 (q2 (vb (decide (r2≤57))) (xT hg4) (jC ⟨true,hg4,rfl,hm⟩)))
 refine sj2 15 hg4 (q2 (vb false) (xF hg4) (jC ⟨false,hg4,rfl,hm⟩))
 rintro ρ w3 ⟨hw,hH⟩
 subst hw
 refine zA hH (jL (cbr h ?_ ?_))<;>intro h
 refine rg (qc (jC (kW (jL (eg (q (qm h fun a1 h=>q (ql (isAgg3 _) h fun v1 h=>q (qm h fun a2 h=>q (st1 (sizeOf3 _) h fun w5 h=>ln (eg (qb (ln (er (ep (rs1 results204 (v:=(.int .u8 (IntKind.u8.wrap (r2 - 48)))) ?_))))))))))))))))
 exact .inl ⟨(IntKind.u8.wrap (r2 - 48)),rfl,h⟩
 refine jB (zH (fun ρ wJ=>w1=wJ∧Has ρ [(0,(vp r1)),(3,(.int .u8 r2)),(21,(vb ((decide (r2≥97)) && (decide (r2≤102)))))]) ?_ ?_)
 refine rg (qc (jM 3 (fun ρ wJ=>∃b6'0:Bool,((decide (r2≥97))=b6'0)∧w1=wJ∧Has ρ [(0,(vp r1)),(3,(.int .u8 r2)),(27,(vb (b6'0 && (decide (r2≤102)))))]) ?_ ?_))
 rintro ρ w8 ⟨b6'0,he0,hw,hH⟩
 subst he0
 subst hw
 refine jR hH (q (ln ⟨rfl,hm⟩))
 rcases bte (decide (r2≥97)) with hg8 | hg8
 refine qk 24 hg8 (qk 24 hg8 (q2 (vb (decide (r2≤102))) (xT hg8) (jC ⟨true,hg8,rfl,hm⟩)))
 refine sj2 24 hg8 (q2 (vb false) (xF hg8) (jC ⟨false,hg8,rfl,hm⟩))
 rintro ρ w7 ⟨hw,hH⟩
 subst hw
 refine zA hH (jL (cbr h ?_ ?_))<;>intro h
 refine rg (qc (jC (kW (jL (eg (q (qm h fun a3 h=>q (ql (isAgg3 _) h fun v2 h=>q (qm h fun a4 h=>q (st1 (sizeOf3 _) h fun w9 h=>ln (eg (qb (ln (er (ep (rs1 results204 (v:=(.int .u8 (IntKind.u8.wrap (r2 - 87)))) ?_))))))))))))))))
 exact .inl ⟨(IntKind.u8.wrap (r2 - 87)),rfl,h⟩
 refine jB (zH (fun ρ wJ=>w1=wJ∧Has ρ [(0,(vp r1)),(3,(.int .u8 r2)),(30,(vb ((decide (r2≥65)) && (decide (r2≤70)))))]) ?_ ?_)
 refine rg (qc (jM 3 (fun ρ wJ=>∃b9'0:Bool,((decide (r2≥65))=b9'0)∧w1=wJ∧Has ρ [(0,(vp r1)),(3,(.int .u8 r2)),(36,(vb (b9'0 && (decide (r2≤70)))))]) ?_ ?_))
 rintro ρ w12 ⟨b9'0,he0,hw,hH⟩
 subst he0
 subst hw
 refine jR hH (q (ln ⟨rfl,hm⟩))
 rcases bte (decide (r2≥65)) with hg12 | hg12
 refine qk 33 hg12 (qk 33 hg12 (q2 (vb (decide (r2≤70))) (xT hg12) (jC ⟨true,hg12,rfl,hm⟩)))
 refine sj2 33 hg12 (q2 (vb false) (xF hg12) (jC ⟨false,hg12,rfl,hm⟩))
 rintro ρ w11 ⟨hw,hH⟩
 subst hw
 refine zA hH (jL (cbr h ?_ ?_))<;>intro h
 refine rg (qc (jC (kW (jL (eg (q (qm h fun a5 h=>q (ql (isAgg3 _) h fun v3 h=>q (qm h fun a6 h=>q (st1 (sizeOf3 _) h fun w13 h=>ln (eg (qb (ln (er (ep (rs1 results204 (v:=(.int .u8 (IntKind.u8.wrap (r2 - 55)))) ?_))))))))))))))))
 exact .inl ⟨(IntKind.u8.wrap (r2 - 55)),rfl,h⟩
 refine jN (by kernel_rfl) (jP 5 (q0 (vp r1) (q0 (vp r1) (qm h fun a7 h=>q (ql (isAgg3 _) h fun v4 h=>jC (zC (jG rfl) (by intro c hc;cases hc) (xc call106) (h.mono (fun e w14 hh=>hh.elim ?_ (by rintro ⟨ch,rfl,h⟩;exact .inr ⟨ch,rfl,fun ρ'=>.inr ⟨ch,rfl,h⟩⟩)))))))))
 rintro ⟨rfl,h⟩
 refine .inl ⟨_,rfl,?_⟩
 refine kE (kW (jL (eg (q0 (vp r1) (qm h fun a8 h=>q (ql (isAgg3 _) h fun v5 h=>q (qm h fun a9 h=>q (st1 (sizeOf3 _) h fun w15 h=>ln (eg (qb (ln (er (ep (rs1 results204 (v:=(.int .u8 r2)) ?_))))))))))))))
 exact .inl ⟨r2,rfl,h⟩
def m_M_j3 (r1:Option Addr) (b1:Sl) (r3:Int) (w:World) (Kc1:Sl→WP) (K:Option (List PanicEntry)→ByteArray→WP):Prop :=∃a4,r1=some a4∧∃v3,w.cell? (a4.add 1)=some (vi v3)∧∃a5,r1=some a5∧kG w (a5.add 1)∧∀w10,w10=w.setCell (a5.add 1) (vi (q6.wrap (v3+1)))→Br (r3 == 120) (Calls prog 204 #[(vp r1)] w10 (fun e w11=>(∃r4:Int,e=.returned (.int .u8 r4)∧∃z1:Int,(Go.binOp .shl 5 (.int .u8 r4) (vu 4)).run prog w11=.ok (.int .u8 z1) w11∧Calls prog 204 #[(vp r1)] w11 (fun e w12=>(∃r5:Int,e=.returned (.int .u8 r5)∧∃z2:Int,(Go.binOp .or 5 (.int .u8 z1) (.int .u8 r5)).run prog w12=.ok (.int .u8 z2) w12∧∀p1 w13,New w12 (.cells #[(.int .u8 z2)] 5) p1 w13→∃s1:Sl,∃w14:World,(Builtin.append_ #[54,54] 54 #[b1.v,(Sl.mk (some p1) 1 1).v]).run prog w13=.ok s1.v w14∧Kc1 s1 w14)∨∃ch,e=.panicked ch∧K (some ch) ⟨#[]⟩ w12))∨∃ch,e=.panicked ch∧K (some ch) ⟨#[]⟩ w11)) (∀p2 w15,New w10 (.cells #[(.int .u8 r3)] 5) p2 w15→∃s2:Sl,∃w16:World,(Builtin.append_ #[54,54] 54 #[b1.v,(Sl.mk (some p2) 1 1).v]).run prog w15=.ok s2.v w16∧Kc1 s2 w16)
def m_M_j2 (r1:Option Addr) (v1:Int) (b1:Sl) (r2:Int) (w:World) (Kc1:Sl→WP) (K:Option (List PanicEntry)→ByteArray→WP):Prop :=∃a2,r1=some a2∧∃v2,w.cell? (a2.add 1)=some (vi v2)∧∃a3,r1=some a3∧kG w (a3.add 1)∧∀w4,w4=w.setCell (a3.add 1) (vi (q6.wrap (v2+1)))→Br (r2 == 34) (Br (decide ((b1.len:Int)>64)) (Calls prog 106 #[(vp r1),(vi 1),(vi v1)] w4 (fun e w5=>(e=.returned (.tuple #[])∧∃c1,(convert 54 9 b1.v).run prog w5=.ok (vs c1) w5∧K none c1 w5)∨∃ch,e=.panicked ch∧K (some ch) ⟨#[]⟩ w5)) (∃c2,(convert 54 9 b1.v).run prog w4=.ok (vs c2) w4∧K none c2 w4)) (Br (r2 == 92) (Calls prog 146 #[(vp r1)] w4 (fun e w6=>(∃r3:Int,e=.returned (.int .u8 r3)∧Br (((r3 != 34) && (r3 != 92)) && (r3 != 120)) (∃a6,r1=some a6∧∃v4,w6.cell? (a6.add 1)=some (vi v4)∧Calls prog 106 #[(vp r1),(vi 60),(vi v4)] w6 (fun e w17=>(e=.returned (.tuple #[])∧m_M_j3 r1 b1 r3 w17 Kc1 K)∨∃ch,e=.panicked ch∧K (some ch) ⟨#[]⟩ w17)) (m_M_j3 r1 b1 r3 w6 Kc1 K))∨∃ch,e=.panicked ch∧K (some ch) ⟨#[]⟩ w6)) (∀p3 w18,New w4 (.cells #[(.int .u8 r2)] 5) p3 w18→∃s3:Sl,∃w19:World,(Builtin.append_ #[54,54] 54 #[b1.v,(Sl.mk (some p3) 1 1).v]).run prog w18=.ok s3.v w19∧Kc1 s3 w19))
def m_M_l1 (r1:Option Addr) (v1:Int) (b1:Sl) (wl1:World) (Kc1:Sl→WP) (K:Option (List PanicEntry)→ByteArray→WP):Prop :=Calls prog 146 #[(vp r1)] wl1 (fun e w2=>(∃r2:Int,e=.returned (.int .u8 r2)∧Br ((decide (r2<32)) || (decide (r2>126))) (∃a7,r1=some a7∧∃v5,w2.cell? (a7.add 1)=some (vi v5)∧Calls prog 106 #[(vp r1),(vi 60),(vi v5)] w2 (fun e w20=>(e=.returned (.tuple #[])∧m_M_j2 r1 v1 b1 r2 w20 Kc1 K)∨∃ch,e=.panicked ch∧K (some ch) ⟨#[]⟩ w20)) (m_M_j2 r1 v1 b1 r2 w2 Kc1 K))∨∃ch,e=.panicked ch∧K (some ch) ⟨#[]⟩ w2)
def m_M (r1:Option Addr) (w0:World) (K:Option (List PanicEntry)→ByteArray→WP):Prop :=∃a1,r1=some a1∧∃v1,w0.cell? (a1.add 1)=some (vi v1)∧Calls prog 150 #[(vp r1),(.int .u8 34)] w0 (fun e w1=>(e=.returned (.tuple #[])∧∃(I1:Sl→WP) (mu1:Sl→World→Nat),I1 Sl.nil w1∧∀(b1:Sl) (wl1:World),I1 b1 wl1→m_M_l1 r1 v1 b1 wl1 (fun y'0 w'=>I1 y'0 w'∧mu1 y'0 w'<mu1 b1 wl1) K)∨∃ch,e=.panicked ch∧K (some ch) ⟨#[]⟩ w1)
theorem w_M (r1 w0 K) (h:m_M r1 w0 K):
  Calls prog 149 #[(vp r1)] w0 (fun e w'=>(∃r6,e=.returned (vs r6)∧K none r6 w')∨∃ch,e=.panicked ch∧K (some ch) ⟨#[]⟩ w'):=by
 refine kB (args:=[(vp r1)]) func149 rfl ntmps149 (Nat.le_of_ble_eq_true rfl) (eg (q0 ve (ln (eg (q0 (vp r1) (qm h fun a1 h=>q (ql (isAgg3 _) h fun v1 h=>q (ln (jB (jN (by kernel_rfl) (jP 1 (q0 (vp r1) (jC (zC (jG rfl) (by intro c hc;cases hc) (xc call150) (h.mono (fun e w1 hh=>hh.elim ?_ (by rintro ⟨ch,rfl,h⟩;exact .inr ⟨ch,rfl,fun ρ'=>.inr ⟨ch,rfl,h⟩⟩)))))))))))))))))
 rintro ⟨rfl,h⟩
 refine .inl ⟨_,rfl,?_⟩
 refine kE (jL (eg (q0 Sl.nil.v (ln (jB (jO ?_))))))
 obtain ⟨I1,mu1,h0,hr⟩:=h
 refine zU (σ:=Sl×World) (fun s ρ w=>w=s.2∧Has ρ [(0,(vp r1)),(3,(vi v1)),(4,s.1.v)]∧I1 s.1 s.2) (fun s=>mu1 s.1 s.2) (Sl.nil,w1) ⟨rfl,hm,h0⟩ ?_
 rintro ⟨b1,wl1⟩ ρ w ⟨hw,hH,hI⟩
 dsimp only at hw hH;subst w
 have h:=hr b1 wl1 hI
 refine jY hH (jO (jB (jN (by kernel_rfl) (jP 1 (q0 (vp r1) (jC (zC (jG rfl) (by intro c hc;cases hc) (xc call146) (h.mono (fun e w2 hh=>hh.elim ?_ (by rintro ⟨ch,rfl,h⟩;exact .inr ⟨ch,rfl,fun ρ'=>.inr ⟨ch,rfl,h⟩⟩))))))))))
 rintro ⟨r2,rfl,h⟩
 refine .inl ⟨_,rfl,?_⟩
 refine zK (q0 (.int .u8 r2) (ln (jB (jB (zH (fun ρ wJ=>∃b2'0:Bool,((decide (r2<32))=b2'0)∧w2=wJ∧Has ρ [(0,(vp r1)),(3,(vi v1)),(4,b1.v),(5,(.int .u8 r2)),(19,(vb (b2'0 || (decide (r2>126)))))]) ?_ ?_)))))
 refine rg (qc ?_)
 rcases bte (decide (r2<32)) with hg2 | hg2
 refine sj2 16 hg2 (q2 (vb true) (xT hg2) (ln ⟨true,hg2,rfl,hm⟩))
 refine qk 16 hg2 (qk 16 hg2 (q2 (vb (decide (r2>126))) (xF hg2) (ln ⟨false,hg2,rfl,hm⟩)))
 rintro ρ w3 ⟨b2'0,he0,hw,hH⟩
 subst he0
 subst hw
 refine zA hH (jL (zD (fun ρ w=>Has ρ [(0,(vp r1)),(3,(vi v1)),(4,b1.v),(5,(.int .u8 r2))]∧m_M_j2 r1 v1 b1 r2 w (fun y'0 w'=>I1 y'0 w'∧mu1 y'0 w'<mu1 b1 wl1) K) ?_ ?_))
 rintro ρ w ⟨hH,h⟩
 refine jY hH (eg (q (qm h fun a2 h=>q (ql (isAgg3 _) h fun v2 h=>q (qm h fun a3 h=>q (st1 (sizeOf3 _) h fun w4 h=>ln (jB (eg (qb (ln (cbr h ?_ ?_)))))))))))<;>intro h
 refine zI (vM (bl_ne rfl (vM (vI (jL (jB (eg (q0 b1.v (q0 (vi (b1.len:Int)) (q0 (vb (decide ((b1.len:Int)>64))) (ln (cbr h ?_ ?_))))))))))))<;>intro h
 refine jN (by kernel_rfl) (jP 2 (q0 (vp r1) (q0 (vi v1) (jC (zC (jG rfl) (by intro c hc;cases hc) (xc call106) (h.mono (fun e w5 hh=>hh.elim ?_ (by rintro ⟨ch,rfl,h⟩;exact .inr ⟨ch,rfl,fun ρ'=>.inr ⟨ch,rfl,h⟩⟩))))))))
 rintro ⟨rfl,h⟩
 refine .inl ⟨_,rfl,?_⟩
 refine kE (jL (eg (q0 b1.v ?_)))
 obtain ⟨c1,hv1,h⟩:=h
 refine q2 (vs c1) (vF (by kernel_rfl) hv1) (q (ln (er (ep (rs1 results149 (v:=(vs c1)) ?_)))))
 exact .inl ⟨c1,rfl,h⟩
 refine jF (jL (eg (q ?_)))
 obtain ⟨c2,hv2,h⟩:=h
 refine q2 (vs c2) (vF (by kernel_rfl) hv2) (q (ln (er (ep (rs1 results149 (v:=(vs c2)) ?_)))))
 exact .inl ⟨c2,rfl,h⟩
 refine jF (jL (jB (eg (qb (ln (cbr h ?_ ?_))))))<;>intro h
 refine jB (jN (by kernel_rfl) (jP 1 (q0 (vp r1) (jC (zC (jG rfl) (by intro c hc;cases hc) (xc call146) (h.mono (fun e w6 hh=>hh.elim ?_ (by rintro ⟨ch,rfl,h⟩;exact .inr ⟨ch,rfl,fun ρ'=>.inr ⟨ch,rfl,h⟩⟩))))))))
 rintro ⟨r3,rfl,h⟩
 refine .inl ⟨_,rfl,?_⟩
 refine zK (q0 (.int .u8 r3) (ln (jB (jB (zH (fun ρ wJ=>∃b4'0:Bool,(((r3 != 34) && (r3 != 92))=b4'0)∧w6=wJ∧Has ρ [(0,(vp r1)),(3,(vi v1)),(4,b1.v),(5,(.int .u8 r3)),(48,(vb (b4'0 && (r3 != 120))))]) ?_ ?_)))))
 refine rg (qc (jM 3 (fun ρ wJ=>∃b5'0:Bool,((r3 != 34)=b5'0)∧w6=wJ∧Has ρ [(0,(vp r1)),(3,(vi v1)),(4,b1.v),(5,(.int .u8 r3)),(44,(vb (b5'0 && (r3 != 92))))]) ?_ ?_))
 rintro ρ w9 ⟨b5'0,he0,hw,hH⟩
 subst he0
 subst hw
 refine jR hH (q ?_)
 rcases bte ((r3 != 34) && (r3 != 92)) with hg8 | hg8
 refine qk 45 hg8 (qk 45 hg8 (q2 (vb (r3 != 120)) (xT hg8) (ln ⟨true,hg8,rfl,hm⟩)))
 refine sj2 45 hg8 (q2 (vb false) (xF hg8) (ln ⟨false,hg8,rfl,hm⟩))
 rcases bte (r3 != 34) with hg7 | hg7
 refine qk 41 hg7 (qk 41 hg7 (q2 (vb (r3 != 92)) (xT hg7) (jC ⟨true,hg7,rfl,hm⟩)))
 refine sj2 41 hg7 (q2 (vb false) (xF hg7) (jC ⟨false,hg7,rfl,hm⟩))
 rintro ρ w8 ⟨b4'0,he0,hw,hH⟩
 subst he0
 subst hw
 refine zA hH (jL (zD (fun ρ w=>Has ρ [(0,(vp r1)),(3,(vi v1)),(4,b1.v),(5,(.int .u8 r3))]∧m_M_j3 r1 b1 r3 w (fun y'0 w'=>I1 y'0 w'∧mu1 y'0 w'<mu1 b1 wl1) K) ?_ ?_))
 rintro ρ w ⟨hH,h⟩
 refine jY hH (eg (q (qm h fun a4 h=>q (ql (isAgg3 _) h fun v3 h=>q (qm h fun a5 h=>q (st1 (sizeOf3 _) h fun w10 h=>ln (eg (qb (ln (cbr h ?_ ?_))))))))))<;>intro h
 refine jB (jN (by kernel_rfl) (jP 1 (q0 (vp r1) (jC (zC (jG rfl) (by intro c hc;cases hc) (xc call204) (h.mono (fun e w11 hh=>hh.elim ?_ (by rintro ⟨ch,rfl,h⟩;exact .inr ⟨ch,rfl,fun ρ'=>.inr ⟨ch,rfl,h⟩⟩))))))))
 rintro ⟨r4,rfl,h⟩
 refine .inl ⟨_,rfl,?_⟩
 refine zK (q0 (.int .u8 r4) (ln (jN (by kernel_rfl) (jP 3 (q0 (.int .u8 r4) ?_)))))
 obtain ⟨z1,hv5,h⟩:=h
 refine q2 (.int .u8 z1) (qV (by kernel_rfl) (by kernel_rfl) (by kernel_rfl) hv5) (q (jC (zC (jG rfl) (by intro c hc;cases hc) (xc call204) (h.mono (fun e w12 hh=>hh.elim ?_ (by rintro ⟨ch,rfl,h⟩;exact .inr ⟨ch,rfl,fun ρ'=>.inr ⟨ch,rfl,h⟩⟩))))))
 rintro ⟨r5,rfl,h⟩
 refine .inl ⟨_,rfl,?_⟩
 refine zK ?_
 obtain ⟨z2,hv4,h⟩:=h
 refine q2 (.int .u8 z2) (qV (by kernel_rfl) (by kernel_rfl) (by kernel_rfl) hv4) (q (ln (rg (qb (nw4 (fun p=>(Sl.mk (some p) 1 1).v) h fun p1 w13 h=>?_)))))
 obtain ⟨s1,w14,hv3,h⟩:=h
 refine st (v:=s1.v) (jG rfl) (jI (args:=#[b1.v,(Sl.mk (some p1) 1 1).v]) (by kernel_rfl) (fun _=>rfl) hv3) (q0 s1.v (jC (kW (jL ⟨(s1,w14),⟨rfl,hm,h.1⟩,h.2⟩))))
 refine jF (jL (rg (qb (nw4 (fun p=>(Sl.mk (some p) 1 1).v) h fun p2 w15 h=>?_))))
 obtain ⟨s2,w16,hv6,h⟩:=h
 refine st (v:=s2.v) (jG rfl) (jI (args:=#[b1.v,(Sl.mk (some p2) 1 1).v]) (by kernel_rfl) (fun _=>rfl) hv6) (q0 s2.v (jC (kW (jL ⟨(s2,w16),⟨rfl,hm,h.1⟩,h.2⟩))))
 refine cbr h ?_ ?_<;>intro h
 refine jN (by kernel_rfl) (jP 5 (q0 (vp r1) (q0 (vp r1) (qm h fun a6 h=>q (ql (isAgg3 _) h fun v4 h=>jC (zC (jG rfl) (by intro c hc;cases hc) (xc call106) (h.mono (fun e w17 hh=>hh.elim ?_ (by rintro ⟨ch,rfl,h⟩;exact .inr ⟨ch,rfl,fun ρ'=>.inr ⟨ch,rfl,h⟩⟩)))))))))
 rintro ⟨rfl,h⟩
 refine .inl ⟨_,rfl,?_⟩
 refine kE (jL ⟨hm,h⟩)
 refine jF (jL ⟨hm,h⟩)
 refine jF (jL (rg (qb (nw4 (fun p=>(Sl.mk (some p) 1 1).v) h fun p3 w18 h=>?_))))
 obtain ⟨s3,w19,hv9,h⟩:=h
 refine st (v:=s3.v) (jG rfl) (jI (args:=#[b1.v,(Sl.mk (some p3) 1 1).v]) (by kernel_rfl) (fun _=>rfl) hv9) (q0 s3.v (jC (kW (jL ⟨(s3,w19),⟨rfl,hm,h.1⟩,h.2⟩))))
 refine cbr h ?_ ?_<;>intro h
 refine jN (by kernel_rfl) (jP 5 (q0 (vp r1) (q0 (vp r1) (qm h fun a7 h=>q (ql (isAgg3 _) h fun v5 h=>jC (zC (jG rfl) (by intro c hc;cases hc) (xc call106) (h.mono (fun e w20 hh=>hh.elim ?_ (by rintro ⟨ch,rfl,h⟩;exact .inr ⟨ch,rfl,fun ρ'=>.inr ⟨ch,rfl,h⟩⟩)))))))))
 rintro ⟨rfl,h⟩
 refine .inl ⟨_,rfl,?_⟩
 refine kE (jL ⟨hm,h⟩)
 refine jF (jL ⟨hm,h⟩)
def m_Q2 (r1:Option Addr) (deep1:Int) (w0:World) (K:Option (List PanicEntry)→Sl→WP):Prop :=Calls prog 150 #[(vp r1),(.int .u8 40)] w0 (fun e w1=>(e=.returned (.tuple #[])∧Kept None w0 w1∧Calls prog 105 #[(vp r1),(vi (q6.wrap (deep1+1)))] w1 (fun e w2=>(∃aC aD aE aF aG aI,e=.returned (Ab aC aD aE aF aG aI)∧Kept None w1 w2∧∀H1 w4,Hst w0 None w2 H1 w4→Calls prog 150 #[(vp r1),(.int .u8 41)] w4 (fun e w5=>(e=.returned (.tuple #[])∧Kept H1 w4 w5∧∀p2 w6,New w5 (.cells #[(vi aC),(vi aD),(vi aE),(vu aF),(vs aG),aI.v] 28) p2 w6→K none (Sl.mk (some p2) 1 1) w6)∨∃ch,e=.panicked ch∧K (some ch) Sl.nil w5))∨∃ch,e=.panicked ch∧K (some ch) Sl.nil w2))∨∃ch,e=.panicked ch∧K (some ch) Sl.nil w1)
theorem w_Q2 (r1 deep1 w0 K) (h:m_Q2 r1 deep1 w0 K):
  Calls prog 151 #[(vp r1),(vi deep1)] w0 (fun e w'=>(∃r2:Sl,e=.returned r2.v∧K none r2 w')∨∃ch,e=.panicked ch∧K (some ch) Sl.nil w'):=by
 refine kB (args:=[(vp r1),(vi deep1)]) func151 rfl ntmps151 (Nat.le_of_ble_eq_true rfl) ?_
 obtain ⟨hs,hb⟩:=st0 w0
 refine eg (q (ln (jB (jN (by kernel_rfl) (jP 1 (q0 (vp r1) (jC (zC (jG rfl) (by intro c hc;cases hc) (xc call150) (h.mono (fun e w1 hh=>hh.elim ?_ (by rintro ⟨ch,rfl,h⟩;exact .inr ⟨ch,rfl,fun ρ'=>.inr ⟨ch,rfl,h⟩⟩)))))))))))
 rintro ⟨rfl,hk,h⟩
 refine .inl ⟨_,rfl,?_⟩
 obtain ⟨hs,hb⟩:=hk.hh hs hb
 refine kE (jL (jB (jN (by kernel_rfl) (jP 3 (q0 (vp r1) (q0 (vi deep1) (q0 (vi (q6.wrap (deep1+1))) (jC (zC (jG rfl) (by intro c hc;cases hc) (xc call105) (h.mono (fun e w2 hh=>hh.elim ?_ (by rintro ⟨ch,rfl,h⟩;exact .inr ⟨ch,rfl,fun ρ'=>.inr ⟨ch,rfl,h⟩⟩))))))))))))
 rintro ⟨aC,aD,aE,aF,aG,aI,rfl,hk,h⟩
 refine .inl ⟨_,rfl,?_⟩
 obtain ⟨hs,hb⟩:=hk.hh hs hb
 refine zK (sn (O:=(.cells #[(vi 0),(vi 0),(vi 0),(vu 0),ve,Sl.nil.v] 28)) (jW (zeroValue28 _) rfl) ?_)
 intro p1 w3 hn1
 obtain ⟨H1,hs,hb⟩:=hs.alloc hb hn1
 refine sbx 0 (Aa aC aD aE aF aG aI) (sizeOf28 _) hs hb gZ fun w4 hs hb=>ln (jB (jN (by kernel_rfl) (jP 1 (q0 (vp r1) (jC ?_)))))
 have ⟨h,hs⟩:=hs.hr (h H1 w4)
 refine zC (jG rfl) (by intro c hc;cases hc) (xc call150) (h.mono (fun e w5 hh=>hh.elim ?_ (by rintro ⟨ch,rfl,h⟩;exact .inr ⟨ch,rfl,fun ρ'=>.inr ⟨ch,rfl,h⟩⟩)))
 rintro ⟨rfl,hk,h⟩
 refine .inl ⟨_,rfl,?_⟩
 obtain ⟨hs,hb⟩:=hk.hh hs hb
 refine kE (jL (eg (q2 (Ab aC aD aE aF aG aI) (xa p1 (Aa aC aD aE aF aG aI) (isAgg28 _) (sizeOf28 _) (hb.r0 0 6 gZ)) (kP (O:=(.cells #[(vi aC),(vi aD),(vi aE),(vu aF),(vs aG),aI.v] 28)) (fun p=>(Sl.mk (some p) 1 1).v) (jG rfl) (jK (vs:=#[(0,(Ab aC aD aE aF aG aI))]) (by kernel_rfl) (by kernel_rfl)) ?_))))
 intro p2 w6 hn3
 have h:=h p2 w6 hn3
 obtain ⟨hs,hb⟩:=hs.nw hb hn3
 refine q (ln (er (ep (rs1 results151 (v:=(Sl.mk (some p2) 1 1).v) ?_))))
 exact .inl ⟨(Sl.mk (some p2) 1 1),rfl,h⟩
def m_F_j4 (r1:Option Addr) (deep1 v1:Int) (w0:World) (H:NP) (w:World) (K:Option (List PanicEntry)→Int→Int→Int→Int→ByteArray→Sl→WP):Prop :=Br (cond (v1 == 1) (v1 == 1) (v1 == 6)) (∀H3 w17,Hst w0 H w H3 w17→Calls prog 147 #[(vp r1),(vi (-1))] w17 (fun e w18=>(∃r3,e=.returned (vi r3)∧Kept H3 w17 w18∧∀w19,Hst w0 H3 w18 H3 w19→Calls prog 145 #[(vp r1)] w19 (fun e w20=>e=.returned (.tuple #[])∧Kept H3 w19 w20∧∀w21,Hst w0 H3 w20 H3 w21→K none v1 r3 0 0 ⟨#[]⟩ Sl.nil w21))∨∃ch,e=.panicked ch∧K (some ch) 0 0 0 0 ⟨#[]⟩ Sl.nil w18)) (Br (v1 == 2) (∀H3 w17,Hst w0 H w H3 w17→Calls prog 148 #[(vp r1)] w17 (fun e w22=>(∃r4,e=.returned (vu r4)∧Kept H3 w17 w22∧∀w23,Hst w0 H3 w22 H3 w23→Calls prog 145 #[(vp r1)] w23 (fun e w24=>e=.returned (.tuple #[])∧Kept H3 w23 w24∧∀w25,Hst w0 H3 w24 H3 w25→K none v1 0 0 r4 ⟨#[]⟩ Sl.nil w25))∨∃ch,e=.panicked ch∧K (some ch) 0 0 0 0 ⟨#[]⟩ Sl.nil w22)) (Br (v1 == 3) (∀H3 w17,Hst w0 H w H3 w17→Calls prog 149 #[(vp r1)] w17 (fun e w26=>(∃r5,e=.returned (vs r5)∧Kept H3 w17 w26∧∀w27,Hst w0 H3 w26 H3 w27→Calls prog 145 #[(vp r1)] w27 (fun e w28=>e=.returned (.tuple #[])∧Kept H3 w27 w28∧∀w29,Hst w0 H3 w28 H3 w29→K none v1 0 0 0 r5 Sl.nil w29))∨∃ch,e=.panicked ch∧K (some ch) 0 0 0 0 ⟨#[]⟩ Sl.nil w26)) (Br (v1 == 4) (∃a3,r1=some a3∧∀H3 w17,Hst w0 H w H3 w17→∃v3,w17.cell? (a3.add 1)=some (vi v3)∧∃a4,r1=some a4∧kG w17 (a4.add 1)∧¬ H3 (a4.add 1).block∧∀w30,w30=w17.setCell (a4.add 1) (vi (q6.wrap (v3+1)))→Calls prog 105 #[(vp r1),(vi (q6.wrap (deep1+1)))] w30 (fun e w31=>(∃aC aD aE aF aG aI,e=.returned (Ab aC aD aE aF aG aI)∧Kept H3 w30 w31∧∀H4 w33,Hst w0 H3 w31 H4 w33→Calls prog 105 #[(vp r1),(vi (q6.wrap (deep1+1)))] w33 (fun e w34=>(∃aM aN aO aP aQ aR,e=.returned (Ab aM aN aO aP aQ aR)∧Kept H4 w33 w34∧∀H5 w36,Hst w0 H4 w34 H5 w36→Calls prog 150 #[(vp r1),(.int .u8 41)] w36 (fun e w37=>(e=.returned (.tuple #[])∧Kept H5 w36 w37∧∀p5 w38,New w37 (.cells #[(vi aC),(vi aD),(vi aE),(vu aF),(vs aG),aI.v,(vi aM),(vi aN),(vi aO),(vu aP),(vs aQ),aR.v] 28) p5 w38→∀w39,Hst w0 H5 w38 H5 w39→Calls prog 145 #[(vp r1)] w39 (fun e w40=>e=.returned (.tuple #[])∧Kept H5 w39 w40∧∀w41,Hst w0 H5 w40 H5 w41→K none v1 0 0 0 ⟨#[]⟩ (Sl.mk (some p5) 2 2) w41))∨∃ch,e=.panicked ch∧K (some ch) 0 0 0 0 ⟨#[]⟩ Sl.nil w37))∨∃ch,e=.panicked ch∧K (some ch) 0 0 0 0 ⟨#[]⟩ Sl.nil w34))∨∃ch,e=.panicked ch∧K (some ch) 0 0 0 0 ⟨#[]⟩ Sl.nil w31)) (Br (v1 == 5) (∀H3 w17,Hst w0 H w H3 w17→Calls prog 151 #[(vp r1),(vi deep1)] w17 (fun e w42=>(∃r6:Sl,e=.returned r6.v∧Kept H3 w17 w42∧∀w43,Hst w0 H3 w42 H3 w43→Calls prog 145 #[(vp r1)] w43 (fun e w44=>e=.returned (.tuple #[])∧Kept H3 w43 w44∧∀w45,Hst w0 H3 w44 H3 w45→K none v1 0 0 0 ⟨#[]⟩ r6 w45))∨∃ch,e=.panicked ch∧K (some ch) 0 0 0 0 ⟨#[]⟩ Sl.nil w42)) (Br (v1 == 7) (∀H3 w17,Hst w0 H w H3 w17→Calls prog 147 #[(vp r1),(vi (-1))] w17 (fun e w46=>(∃r7,e=.returned (vi r7)∧Kept H3 w17 w46∧∀w47,Hst w0 H3 w46 H3 w47→Calls prog 151 #[(vp r1),(vi deep1)] w47 (fun e w48=>(∃r8:Sl,e=.returned r8.v∧Kept H3 w47 w48∧∀w49,Hst w0 H3 w48 H3 w49→Calls prog 145 #[(vp r1)] w49 (fun e w50=>e=.returned (.tuple #[])∧Kept H3 w49 w50∧∀w51,Hst w0 H3 w50 H3 w51→K none v1 r7 0 0 ⟨#[]⟩ r8 w51))∨∃ch,e=.panicked ch∧K (some ch) 0 0 0 0 ⟨#[]⟩ Sl.nil w48))∨∃ch,e=.panicked ch∧K (some ch) 0 0 0 0 ⟨#[]⟩ Sl.nil w46)) (∀H3 w17,Hst w0 H w H3 w17→Calls prog 147 #[(vp r1),(vi (-1))] w17 (fun e w52=>(∃r9,e=.returned (vi r9)∧Kept H3 w17 w52∧∀w53,Hst w0 H3 w52 H3 w53→Calls prog 150 #[(vp r1),(.int .u8 62)] w53 (fun e w54=>(e=.returned (.tuple #[])∧Kept H3 w53 w54∧Calls prog 147 #[(vp r1),(vi r9)] w54 (fun e w55=>(∃r10,e=.returned (vi r10)∧Kept H3 w54 w55∧∀w56,Hst w0 H3 w55 H3 w56→Calls prog 151 #[(vp r1),(vi deep1)] w56 (fun e w57=>(∃r11:Sl,e=.returned r11.v∧Kept H3 w56 w57∧∀w58,Hst w0 H3 w57 H3 w58→Calls prog 145 #[(vp r1)] w58 (fun e w59=>e=.returned (.tuple #[])∧Kept H3 w58 w59∧∀w60,Hst w0 H3 w59 H3 w60→K none v1 r9 r10 0 ⟨#[]⟩ r11 w60))∨∃ch,e=.panicked ch∧K (some ch) 0 0 0 0 ⟨#[]⟩ Sl.nil w57))∨∃ch,e=.panicked ch∧K (some ch) 0 0 0 0 ⟨#[]⟩ Sl.nil w55))∨∃ch,e=.panicked ch∧K (some ch) 0 0 0 0 ⟨#[]⟩ Sl.nil w54))∨∃ch,e=.panicked ch∧K (some ch) 0 0 0 0 ⟨#[]⟩ Sl.nil w52)))))))
def m_F_j3 (r1:Option Addr) (deep1 r2 v1:Int) (w0:World) (H:NP) (w:World) (K:Option (List PanicEntry)→Int→Int→Int→Int→ByteArray→Sl→WP):Prop :=∃a1,r1=some a1∧∃v2,w.cell? (a1.add 2)=some (vi v2)∧∃a2,r1=some a2∧kG w (a2.add 2)∧¬ H (a2.add 2).block∧∀w15,w15=w.setCell (a2.add 2) (vi (q6.wrap (v2+1)))→Br ((r2 != 34) && (r2 != 40)) (∃a5,r1=some a5∧∀H2 w16,Hst w0 H w15 H2 w16→∃v4,w16.cell? (a5.add 1)=some (vi v4)∧∃a6,r1=some a6∧kG w16 (a6.add 1)∧¬ H2 (a6.add 1).block∧∀w61,w61=w16.setCell (a6.add 1) (vi (q6.wrap (v4+1)))→m_F_j4 r1 deep1 v1 w0 H2 w61 K) (∀H2 w16,Hst w0 H w15 H2 w16→m_F_j4 r1 deep1 v1 w0 H2 w16 K)
def m_F_j2 (r1:Option Addr) (deep1 r2 v1:Int) (x1:Bool) (w0:World) (H:NP) (w:World) (K:Option (List PanicEntry)→Int→Int→Int→Int→ByteArray→Sl→WP):Prop :=Br x1 (∃a7,r1=some a7∧∃v5,w.cell? (a7.add 1)=some (vi v5)∧Calls prog 106 #[(vp r1),(vi 52),(vi v5)] w (fun e w62=>(e=.returned (.tuple #[])∧Kept H w w62∧m_F_j3 r1 deep1 r2 v1 w0 H w62 K)∨∃ch,e=.panicked ch∧K (some ch) 0 0 0 0 ⟨#[]⟩ Sl.nil w62)) (m_F_j3 r1 deep1 r2 v1 w0 H w K)
def m_F_j1 (r1:Option Addr) (deep1 r2 v1:Int) (w0:World) (H:NP) (w:World) (K:Option (List PanicEntry)→Int→Int→Int→Int→ByteArray→Sl→WP):Prop :=∃a8,r1=some a8∧∃v6,w.cell? (a8.add 2)=some (vi v6)∧∀H6 w63,Hst w0 H w H6 w63→m_F_j2 r1 deep1 r2 v1 ((v6 == 4096) || (deep1 == 64)) w0 H6 w63 K
def m_F (r1:Option Addr) (deep1:Int) (w0:World) (K:Option (List PanicEntry)→Int→Int→Int→Int→ByteArray→Sl→WP):Prop :=∀H1 w1,Hst w0 None w0 H1 w1→Calls prog 145 #[(vp r1)] w1 (fun e w2=>e=.returned (.tuple #[])∧Kept H1 w1 w2∧Calls prog 146 #[(vp r1)] w2 (fun e w3=>(∃r2:Int,e=.returned (.int .u8 r2)∧Kept H1 w2 w3∧∀p2 w4,New w3 (.map #[] 0) p2 w4→∃w5:World,(Instr.mapUpdate 220 (.map (some p2.block)) (.int .u8 110) (vi 1)).run prog w4=.ok () w5∧Kept H1 w4 w5∧∃w6:World,(Instr.mapUpdate 220 (.map (some p2.block)) (.int .u8 35) (vi 2)).run prog w5=.ok () w6∧Kept H1 w5 w6∧∃w7:World,(Instr.mapUpdate 220 (.map (some p2.block)) (.int .u8 107) (vi 6)).run prog w6=.ok () w7∧Kept H1 w6 w7∧∃w8:World,(Instr.mapUpdate 220 (.map (some p2.block)) (.int .u8 34) (vi 3)).run prog w7=.ok () w8∧Kept H1 w7 w8∧∃w9:World,(Instr.mapUpdate 220 (.map (some p2.block)) (.int .u8 40) (vi 4)).run prog w8=.ok () w9∧Kept H1 w8 w9∧∃w10:World,(Instr.mapUpdate 220 (.map (some p2.block)) (.int .u8 104) (vi 5)).run prog w9=.ok () w10∧Kept H1 w9 w10∧∃w11:World,(Instr.mapUpdate 220 (.map (some p2.block)) (.int .u8 115) (vi 7)).run prog w10=.ok () w11∧Kept H1 w10 w11∧∃w12:World,(Instr.mapUpdate 220 (.map (some p2.block)) (.int .u8 112) (vi 8)).run prog w11=.ok () w12∧Kept H1 w11 w12∧∃w13:World,(Instr.mapUpdate 220 (.map (some p2.block)) (.int .u8 102) (vi 9)).run prog w12=.ok () w13∧Kept H1 w12 w13∧∃v1,(Instr.lookup 220 (.map (some p2.block)) (.int .u8 r2) false).run prog w13=.ok (vi v1) w13∧Br (v1 == 0) (∃a9,r1=some a9∧∀w14,Hst w0 H1 w13 H1 w14→∃v7,w14.cell? (a9.add 1)=some (vi v7)∧Calls prog 106 #[(vp r1),(vi 60),(vi v7)] w14 (fun e w64=>(e=.returned (.tuple #[])∧Kept H1 w14 w64∧m_F_j1 r1 deep1 r2 v1 w0 H1 w64 K)∨∃ch,e=.panicked ch∧K (some ch) 0 0 0 0 ⟨#[]⟩ Sl.nil w64)) (∀w14,Hst w0 H1 w13 H1 w14→m_F_j1 r1 deep1 r2 v1 w0 H1 w14 K))∨∃ch,e=.panicked ch∧K (some ch) 0 0 0 0 ⟨#[]⟩ Sl.nil w3))
theorem w_F (r1 deep1 w0 K) (h:m_F r1 deep1 w0 K):
  Calls prog 105 #[(vp r1),(vi deep1)] w0 (fun e w'=>(∃bM bN bO bP bQ bR,e=.returned (Ab bM bN bO bP bQ bR)∧K none bM bN bO bP bQ bR w')∨∃ch,e=.panicked ch∧K (some ch) 0 0 0 0 ⟨#[]⟩ Sl.nil w'):=by
 refine kB (args:=[(vp r1),(vi deep1)]) func105 rfl ntmps105 (Nat.le_of_ble_eq_true rfl) ?_
 obtain ⟨hs,hb⟩:=st0 w0
 refine eg (nw3 [(vi 0),(vi 0),(vi 0),(vu 0),ve,Sl.nil.v] 28 hs hb (jW (zeroValue28 _) rfl) fun p1 w1 H1 hs hb=>ln (eg (q ?_)))
 have ⟨h,hs⟩:=hs.hr (h H1 w1)
 refine sc call145 (h.mono fun e w2 ⟨k,hk,h⟩=>have ⟨hs,hb⟩:=hk.hh hs hb;⟨_,k,?_⟩)
 refine ln (jB (jN (by kernel_rfl) (jP 1 (q0 (vp r1) (jC (zC (jG rfl) (by intro c hc;cases hc) (xc call146) (h.mono (fun e w3 hh=>hh.elim ?_ (by rintro ⟨ch,rfl,h⟩;exact .inr ⟨ch,rfl,fun ρ'=>.inr ⟨ch,rfl,h⟩⟩)))))))))
 rintro ⟨r2,rfl,hk,h⟩
 refine .inl ⟨_,rfl,?_⟩
 obtain ⟨hs,hb⟩:=hk.hh hs hb
 refine zK (q0 (.int .u8 r2) (ln (eg (kP (O:=(.map #[] 0)) (fun p=>.map (some p.block)) (jG rfl) (by kernel_rfl) ?_))))
 intro p2 w4 hn28
 have h:=h p2 w4 hn28
 obtain ⟨hs,hb⟩:=hs.nw hb hn28
 obtain ⟨w5,hv16,hk,h⟩:=h
 refine vG (jG rfl) (vS (by kernel_rfl) (by kernel_rfl) (by kernel_rfl) hv16) ?_
 obtain ⟨hs,hb⟩:=hk.hh hs hb
 obtain ⟨w6,hv15,hk,h⟩:=h
 refine vG (jG rfl) (vS (by kernel_rfl) (by kernel_rfl) (by kernel_rfl) hv15) ?_
 obtain ⟨hs,hb⟩:=hk.hh hs hb
 obtain ⟨w7,hv14,hk,h⟩:=h
 refine vG (jG rfl) (vS (by kernel_rfl) (by kernel_rfl) (by kernel_rfl) hv14) ?_
 obtain ⟨hs,hb⟩:=hk.hh hs hb
 obtain ⟨w8,hv13,hk,h⟩:=h
 refine vG (jG rfl) (vS (by kernel_rfl) (by kernel_rfl) (by kernel_rfl) hv13) ?_
 obtain ⟨hs,hb⟩:=hk.hh hs hb
 obtain ⟨w9,hv12,hk,h⟩:=h
 refine vG (jG rfl) (vS (by kernel_rfl) (by kernel_rfl) (by kernel_rfl) hv12) ?_
 obtain ⟨hs,hb⟩:=hk.hh hs hb
 obtain ⟨w10,hv11,hk,h⟩:=h
 refine vG (jG rfl) (vS (by kernel_rfl) (by kernel_rfl) (by kernel_rfl) hv11) ?_
 obtain ⟨hs,hb⟩:=hk.hh hs hb
 obtain ⟨w11,hv10,hk,h⟩:=h
 refine vG (jG rfl) (vS (by kernel_rfl) (by kernel_rfl) (by kernel_rfl) hv10) ?_
 obtain ⟨hs,hb⟩:=hk.hh hs hb
 obtain ⟨w12,hv9,hk,h⟩:=h
 refine vG (jG rfl) (vS (by kernel_rfl) (by kernel_rfl) (by kernel_rfl) hv9) ?_
 obtain ⟨hs,hb⟩:=hk.hh hs hb
 obtain ⟨w13,hv8,hk,h⟩:=h
 refine vG (jG rfl) (vS (by kernel_rfl) (by kernel_rfl) (by kernel_rfl) hv8) ?_
 obtain ⟨hs,hb⟩:=hk.hh hs hb
 refine qb (ln (eg (qb ?_)))
 obtain ⟨v1,hv7,h⟩:=h
 refine q2 (vi v1) (jEF (by kernel_rfl) (by kernel_rfl) hv7) (q (zF (jG rfl) (zY (a:=p1) (v:=(vi v1)) (by kernel_rfl) (by kernel_rfl) rfl (sizeOf3 _) (hb.canW0 0 gZ (by kernel_rfl))) ?_))
 intro w14 hn2
 have hsb:Hst w0 H1 w13 H1 w14∧HB H1 w14 [(p1,[(vi v1),(vi 0),(vi 0),(vu 0),ve,Sl.nil.v],28)]:=by
  rw [hn2];exact hb.set0 (i:=0) (v:=(vi v1)) hs gZ (by kernel_rfl)
 obtain ⟨hs,hb⟩:=hsb
 refine ln (jB (eg (q (q3 (xl (isAgg3 _) (hb.d0 0 gZ)) (q (ln (zD (fun ρ w=>∃H:NP,Has ρ [(0,(vp r1)),(1,(vi deep1)),(4,(vp (some p1))),(5,(.int .u8 r2))]∧Hst w0 H w H w∧HB H w [(p1,[(vi v1),(vi 0),(vi 0),(vu 0),ve,Sl.nil.v],28)]∧m_F_j1 r1 deep1 r2 v1 w0 H w K) ?_ ?_)))))))
 rintro ρ w ⟨H,hH,hs,hb,h⟩
 refine jY hH (jB (jB (zD (fun ρ w=>∃x1,∃H:NP,Has ρ [(0,(vp r1)),(1,(vi deep1)),(4,(vp (some p1))),(5,(.int .u8 r2)),(36,(vb x1))]∧Hst w0 H w H w∧HB H w [(p1,[(vi v1),(vi 0),(vi 0),(vu 0),ve,Sl.nil.v],28)]∧m_F_j2 r1 deep1 r2 v1 x1 w0 H w K) ?_ ?_)))
 rintro ρ w ⟨x1,H,hH,hs,hb,h⟩
 refine jY hH (zD (fun ρ w=>∃H:NP,Has ρ [(0,(vp r1)),(1,(vi deep1)),(4,(vp (some p1))),(5,(.int .u8 r2))]∧Hst w0 H w H w∧HB H w [(p1,[(vi v1),(vi 0),(vi 0),(vu 0),ve,Sl.nil.v],28)]∧m_F_j3 r1 deep1 r2 v1 w0 H w K) ?_ ?_)
 rintro ρ w ⟨H,hH,hs,hb,h⟩
 refine jY hH (eg (q (qm h fun a1 h=>q (ql (isAgg3 _) h fun v2 h=>q (qm h fun a2 h=>q (st2 (sizeOf3 _) hs hb h fun w15 hs hb h=>ln (jB (jB (zH (fun ρ wJ=>∃b1'0:Bool,∃HJ:NP,((r2 != 34)=b1'0)∧Hst w0 H w15 HJ wJ∧HB HJ wJ [(p1,[(vi v1),(vi 0),(vi 0),(vu 0),ve,Sl.nil.v],28)]∧Has ρ [(0,(vp r1)),(1,(vi deep1)),(4,(vp (some p1))),(55,(vb (b1'0 && (r2 != 40))))]) ?_ ?_)))))))))
 refine rg (qc ?_)
 rcases bte (r2 != 34) with hg2 | hg2
 refine qk 52 hg2 (qk 52 hg2 (q2 (vb (r2 != 40)) (xT hg2) (ln ⟨true,_,hg2,hs,hb,hm⟩)))
 refine sj2 52 hg2 (q2 (vb false) (xF hg2) (ln ⟨false,_,hg2,hs,hb,hm⟩))
 rintro ρ w16 ⟨b1'0,H2,he0,hs,hb,hH⟩
 subst he0
 refine zA hH (jL (zD (fun ρ w=>∃H:NP,Has ρ [(0,(vp r1)),(1,(vi deep1)),(4,(vp (some p1)))]∧Hst w0 H w H w∧HB H w [(p1,[(vi v1),(vi 0),(vi 0),(vu 0),ve,Sl.nil.v],28)]∧m_F_j4 r1 deep1 v1 w0 H w K) ?_ ?_))
 rintro ρ w ⟨H,hH,hs,hb,h⟩
 refine jY hH (jB (eg (q (q3 (xl (isAgg3 _) (hb.d0 0 gZ)) (ln (jO (jB (eg (q (q (ln (zH (fun ρ wJ=>∃b2'0:Bool,∃HJ:NP,((v1 == 1)=b2'0)∧Hst w0 H w HJ wJ∧HB HJ wJ [(p1,[(vi v1),(vi 0),(vi 0),(vu 0),ve,Sl.nil.v],28)]∧Has ρ [(0,(vp r1)),(1,(vi deep1)),(4,(vp (some p1))),(64,(vi v1)),(79,(vb (cond b2'0 (v1 == 1) (v1 == 6))))]) ?_ ?_))))))))))))
 refine zO (t:=(v1 == 1)) (by kernel_rfl) (fun hc2=>?_) (fun hc2=>?_)
 refine jF (jL ⟨true,_,hc2,hs,hb,hm⟩)
 refine rg (qb (ln ⟨false,_,hc2,hs,hb,hm⟩))
 rintro ρ w17 ⟨b2'0,H3,he0,hs,hb,hH⟩
 subst he0
 refine zA hH (jL (cbr h ?_ ?_))<;>intro h
 refine jN (by kernel_rfl) (jP 1 (q0 (vp r1) (jC ?_)))
 have ⟨h,hs⟩:=hs.hr (h H3 w17)
 refine zC (jG rfl) (by intro c hc;cases hc) (xc call147) (h.mono (fun e w18 hh=>hh.elim ?_ (by rintro ⟨ch,rfl,h⟩;exact .inr ⟨ch,rfl,fun ρ'=>.inr ⟨ch,rfl,h⟩⟩)))
 rintro ⟨r3,rfl,hk,h⟩
 refine .inl ⟨_,rfl,?_⟩
 obtain ⟨hs,hb⟩:=hk.hh hs hb
 refine zK (q0 (vp (some (p1.add 1))) (zF (jG rfl) (zY (a:=(p1.add 1)) (v:=(vi r3)) (by kernel_rfl) (by kernel_rfl) rfl (sizeOf3 _) (hb.canW 0 1 gZ (by kernel_rfl))) ?_))
 intro w19 hn4
 have hsb:Hst w0 H3 w18 H3 w19∧HB H3 w19 [(p1,[(vi v1),(vi r3),(vi 0),(vu 0),ve,Sl.nil.v],28)]:=by
  rw [hn4];exact hb.set (i:=0) 1 (v:=(vi r3)) hs gZ (by kernel_rfl)
 obtain ⟨hs,hb⟩:=hsb
 refine jC (kW (jL (eg (q ?_))))
 have ⟨h,hs⟩:=hs.hr (h w19)
 refine sc call145 (h.mono fun e w20 ⟨k,hk,h⟩=>have ⟨hs,hb⟩:=hk.hh hs hb;⟨_,k,?_⟩)
 refine ln (eg (q2 (.agg #[(vi v1),(vi r3),(vi 0),(vu 0),ve,Sl.nil.v]) (xa p1 [(vi v1),(vi r3),(vi 0),(vu 0),ve,Sl.nil.v] (isAgg28 _) (sizeOf28 _) (hb.r0 0 6 gZ)) (zF (jG rfl) (xo p1 [(vi v1),(vi r3),(vi 0),(vu 0),ve,Sl.nil.v] (sizeOf28 _) (hb.k0 0 6 gZ)) ?_)))
 intro w21 hn5
 obtain ⟨hs,hb⟩:=hb.st1 0 hs hn5 gZ
 refine ln (er ?_)
 have ⟨h,hs⟩:=hs.hr (h w21)
 refine ep (uD (.inl rfl) (vs:=[(.agg #[(vi v1),(vi r3),(vi 0),(vu 0),ve,Sl.nil.v])]) (v:=(.agg #[(vi v1),(vi r3),(vi 0),(vu 0),ve,Sl.nil.v])) results105 ⟨(rva (isAgg28 _) (sizeOf28 _) (hb.r0 0 6 gZ)),trivial⟩ (by kernel_rfl) ?_)
 exact .inl ⟨v1,r3,0,0,⟨#[]⟩,Sl.nil,rfl,h⟩
 refine eg (qb (ln (cbr h ?_ ?_)))<;>intro h
 refine jN (by kernel_rfl) (jP 1 (q0 (vp r1) (jC ?_)))
 have ⟨h,hs⟩:=hs.hr (h H3 w17)
 refine zC (jG rfl) (by intro c hc;cases hc) (xc call148) (h.mono (fun e w22 hh=>hh.elim ?_ (by rintro ⟨ch,rfl,h⟩;exact .inr ⟨ch,rfl,fun ρ'=>.inr ⟨ch,rfl,h⟩⟩)))
 rintro ⟨r4,rfl,hk,h⟩
 refine .inl ⟨_,rfl,?_⟩
 obtain ⟨hs,hb⟩:=hk.hh hs hb
 refine zK (q0 (vp (some (p1.add 3))) (zF (jG rfl) (zY (a:=(p1.add 3)) (v:=(vu r4)) (by kernel_rfl) (by kernel_rfl) rfl (sizeOf26 _) (hb.canW 0 3 gZ (by kernel_rfl))) ?_))
 intro w23 hn6
 have hsb:Hst w0 H3 w22 H3 w23∧HB H3 w23 [(p1,[(vi v1),(vi 0),(vi 0),(vu r4),ve,Sl.nil.v],28)]:=by
  rw [hn6];exact hb.set (i:=0) 3 (v:=(vu r4)) hs gZ (by kernel_rfl)
 obtain ⟨hs,hb⟩:=hsb
 refine jC (kW (jL (eg (q ?_))))
 have ⟨h,hs⟩:=hs.hr (h w23)
 refine sc call145 (h.mono fun e w24 ⟨k,hk,h⟩=>have ⟨hs,hb⟩:=hk.hh hs hb;⟨_,k,?_⟩)
 refine ln (eg (q2 (.agg #[(vi v1),(vi 0),(vi 0),(vu r4),ve,Sl.nil.v]) (xa p1 [(vi v1),(vi 0),(vi 0),(vu r4),ve,Sl.nil.v] (isAgg28 _) (sizeOf28 _) (hb.r0 0 6 gZ)) (zF (jG rfl) (xo p1 [(vi v1),(vi 0),(vi 0),(vu r4),ve,Sl.nil.v] (sizeOf28 _) (hb.k0 0 6 gZ)) ?_)))
 intro w25 hn7
 obtain ⟨hs,hb⟩:=hb.st1 0 hs hn7 gZ
 refine ln (er ?_)
 have ⟨h,hs⟩:=hs.hr (h w25)
 refine ep (uD (.inl rfl) (vs:=[(.agg #[(vi v1),(vi 0),(vi 0),(vu r4),ve,Sl.nil.v])]) (v:=(.agg #[(vi v1),(vi 0),(vi 0),(vu r4),ve,Sl.nil.v])) results105 ⟨(rva (isAgg28 _) (sizeOf28 _) (hb.r0 0 6 gZ)),trivial⟩ (by kernel_rfl) ?_)
 exact .inl ⟨v1,0,0,r4,⟨#[]⟩,Sl.nil,rfl,h⟩
 refine eg (qb (ln (cbr h ?_ ?_)))<;>intro h
 refine jN (by kernel_rfl) (jP 1 (q0 (vp r1) (jC ?_)))
 have ⟨h,hs⟩:=hs.hr (h H3 w17)
 refine zC (jG rfl) (by intro c hc;cases hc) (xc call149) (h.mono (fun e w26 hh=>hh.elim ?_ (by rintro ⟨ch,rfl,h⟩;exact .inr ⟨ch,rfl,fun ρ'=>.inr ⟨ch,rfl,h⟩⟩)))
 rintro ⟨r5,rfl,hk,h⟩
 refine .inl ⟨_,rfl,?_⟩
 obtain ⟨hs,hb⟩:=hk.hh hs hb
 refine zK (q0 (vp (some (p1.add 4))) (zF (jG rfl) (zY (a:=(p1.add 4)) (v:=(vs r5)) (by kernel_rfl) (by kernel_rfl) rfl (sizeOf9 _) (hb.canW 0 4 gZ (by kernel_rfl))) ?_))
 intro w27 hn8
 have hsb:Hst w0 H3 w26 H3 w27∧HB H3 w27 [(p1,[(vi v1),(vi 0),(vi 0),(vu 0),(vs r5),Sl.nil.v],28)]:=by
  rw [hn8];exact hb.set (i:=0) 4 (v:=(vs r5)) hs gZ (by kernel_rfl)
 obtain ⟨hs,hb⟩:=hsb
 refine jC (kW (jL (eg (q ?_))))
 have ⟨h,hs⟩:=hs.hr (h w27)
 refine sc call145 (h.mono fun e w28 ⟨k,hk,h⟩=>have ⟨hs,hb⟩:=hk.hh hs hb;⟨_,k,?_⟩)
 refine ln (eg (q2 (.agg #[(vi v1),(vi 0),(vi 0),(vu 0),(vs r5),Sl.nil.v]) (xa p1 [(vi v1),(vi 0),(vi 0),(vu 0),(vs r5),Sl.nil.v] (isAgg28 _) (sizeOf28 _) (hb.r0 0 6 gZ)) (zF (jG rfl) (xo p1 [(vi v1),(vi 0),(vi 0),(vu 0),(vs r5),Sl.nil.v] (sizeOf28 _) (hb.k0 0 6 gZ)) ?_)))
 intro w29 hn9
 obtain ⟨hs,hb⟩:=hb.st1 0 hs hn9 gZ
 refine ln (er ?_)
 have ⟨h,hs⟩:=hs.hr (h w29)
 refine ep (uD (.inl rfl) (vs:=[(.agg #[(vi v1),(vi 0),(vi 0),(vu 0),(vs r5),Sl.nil.v])]) (v:=(.agg #[(vi v1),(vi 0),(vi 0),(vu 0),(vs r5),Sl.nil.v])) results105 ⟨(rva (isAgg28 _) (sizeOf28 _) (hb.r0 0 6 gZ)),trivial⟩ (by kernel_rfl) ?_)
 exact .inl ⟨v1,0,0,0,r5,Sl.nil,rfl,h⟩
 refine eg (qb (ln (cbr h ?_ ?_)))<;>intro h
 refine eg (q (qm h fun a3 h=>q ?_))
 have ⟨h,hs⟩:=hs.hr (h H3 w17)
 refine ql (isAgg3 _) h fun v3 h=>q (qm h fun a4 h=>q (st2 (sizeOf3 _) hs hb h fun w30 hs hb h=>ln (jB (jN (by kernel_rfl) (jP 3 (q0 (vp r1) (q0 (vi deep1) (q0 (vi (q6.wrap (deep1+1))) (jC (zC (jG rfl) (by intro c hc;cases hc) (xc call105) (h.mono (fun e w31 hh=>hh.elim ?_ (by rintro ⟨ch,rfl,h⟩;exact .inr ⟨ch,rfl,fun ρ'=>.inr ⟨ch,rfl,h⟩⟩)))))))))))))
 rintro ⟨aC,aD,aE,aF,aG,aI,rfl,hk,h⟩
 refine .inl ⟨_,rfl,?_⟩
 obtain ⟨hs,hb⟩:=hk.hh hs hb
 refine zK (sn (O:=(.cells #[(vi 0),(vi 0),(vi 0),(vu 0),ve,Sl.nil.v] 28)) (jW (zeroValue28 _) rfl) ?_)
 intro p3 w32 hn11
 obtain ⟨H4,hs,hb⟩:=hs.alloc hb hn11
 refine sbx 0 (Aa aC aD aE aF aG aI) (sizeOf28 _) hs hb gZ fun w33 hs hb=>ln (jB (jN (by kernel_rfl) (jP 3 (q0 (vp r1) (q0 (vi deep1) (q0 (vi (q6.wrap (deep1+1))) (jC ?_)))))))
 have ⟨h,hs⟩:=hs.hr (h H4 w33)
 refine zC (jG rfl) (by intro c hc;cases hc) (xc call105) (h.mono (fun e w34 hh=>hh.elim ?_ (by rintro ⟨ch,rfl,h⟩;exact .inr ⟨ch,rfl,fun ρ'=>.inr ⟨ch,rfl,h⟩⟩)))
 rintro ⟨aM,aN,aO,aP,aQ,aR,rfl,hk,h⟩
 refine .inl ⟨_,rfl,?_⟩
 obtain ⟨hs,hb⟩:=hk.hh hs hb
 refine zK (sn (O:=(.cells #[(vi 0),(vi 0),(vi 0),(vu 0),ve,Sl.nil.v] 28)) (jW (zeroValue28 _) rfl) ?_)
 intro p4 w35 hn13
 obtain ⟨H5,hs,hb⟩:=hs.alloc hb hn13
 refine sbx 0 (Aa aM aN aO aP aQ aR) (sizeOf28 _) hs hb gZ fun w36 hs hb=>ln (jB (jN (by kernel_rfl) (jP 1 (q0 (vp r1) (jC ?_)))))
 have ⟨h,hs⟩:=hs.hr (h H5 w36)
 refine zC (jG rfl) (by intro c hc;cases hc) (xc call150) (h.mono (fun e w37 hh=>hh.elim ?_ (by rintro ⟨ch,rfl,h⟩;exact .inr ⟨ch,rfl,fun ρ'=>.inr ⟨ch,rfl,h⟩⟩)))
 rintro ⟨rfl,hk,h⟩
 refine .inl ⟨_,rfl,?_⟩
 obtain ⟨hs,hb⟩:=hk.hh hs hb
 refine kE (jL (rg (q2 (Ab aC aD aE aF aG aI) (xa p3 (Aa aC aD aE aF aG aI) (isAgg28 _) (sizeOf28 _) (hb.r0 1 6 (gS gZ))) (q2 (Ab aM aN aO aP aQ aR) (xa p4 (Aa aM aN aO aP aQ aR) (isAgg28 _) (sizeOf28 _) (hb.r0 0 6 gZ)) (kP (O:=(.cells #[(vi aC),(vi aD),(vi aE),(vu aF),(vs aG),aI.v,(vi aM),(vi aN),(vi aO),(vu aP),(vs aQ),aR.v] 28)) (fun p=>(Sl.mk (some p) 2 2).v) (jG rfl) (jK (vs:=#[(0,(Ab aC aD aE aF aG aI)),(1,(Ab aM aN aO aP aQ aR))]) (by kernel_rfl) (by kernel_rfl)) ?_)))))
 intro p5 w38 hn17
 have h:=h p5 w38 hn17
 obtain ⟨hs,hb⟩:=hs.nw hb hn17
 refine q (zF (jG rfl) (zY (a:=(p1.add 5)) (v:=(Sl.mk (some p5) 2 2).v) (by kernel_rfl) (by kernel_rfl) rfl (sizeOf22 _) (hb.canW 2 5 (gS (gS gZ)) (by kernel_rfl))) ?_)
 intro w39 hn15
 have hsb:Hst w0 H5 w38 H5 w39∧HB H5 w39 [(p4,(Aa aM aN aO aP aQ aR),28),(p3,(Aa aC aD aE aF aG aI),28),(p1,[(vi v1),(vi 0),(vi 0),(vu 0),ve,(Sl.mk (some p5) 2 2).v],28)]:=by
  rw [hn15];exact hb.set (i:=2) 5 (v:=(Sl.mk (some p5) 2 2).v) hs (gS (gS gZ)) (by kernel_rfl)
 obtain ⟨hs,hb⟩:=hsb
 refine jC (kW (jL (eg (q ?_))))
 have ⟨h,hs⟩:=hs.hr (h w39)
 refine sc call145 (h.mono fun e w40 ⟨k,hk,h⟩=>have ⟨hs,hb⟩:=hk.hh hs hb;⟨_,k,?_⟩)
 refine ln (eg (q2 (.agg #[(vi v1),(vi 0),(vi 0),(vu 0),ve,(Sl.mk (some p5) 2 2).v]) (xa p1 [(vi v1),(vi 0),(vi 0),(vu 0),ve,(Sl.mk (some p5) 2 2).v] (isAgg28 _) (sizeOf28 _) (hb.r0 2 6 (gS (gS gZ)))) (zF (jG rfl) (xo p1 [(vi v1),(vi 0),(vi 0),(vu 0),ve,(Sl.mk (some p5) 2 2).v] (sizeOf28 _) (hb.k0 2 6 (gS (gS gZ)))) ?_)))
 intro w41 hn16
 obtain ⟨hs,hb⟩:=hb.st1 2 hs hn16 (gS (gS gZ))
 refine ln (er ?_)
 have ⟨h,hs⟩:=hs.hr (h w41)
 refine ep (uD (.inl rfl) (vs:=[(.agg #[(vi v1),(vi 0),(vi 0),(vu 0),ve,(Sl.mk (some p5) 2 2).v])]) (v:=(.agg #[(vi v1),(vi 0),(vi 0),(vu 0),ve,(Sl.mk (some p5) 2 2).v])) results105 ⟨(rva (isAgg28 _) (sizeOf28 _) (hb.r0 2 6 (gS (gS gZ)))),trivial⟩ (by kernel_rfl) ?_)
 exact .inl ⟨v1,0,0,0,⟨#[]⟩,(Sl.mk (some p5) 2 2),rfl,h⟩
 refine eg (qb (ln (cbr h ?_ ?_)))<;>intro h
 refine jN (by kernel_rfl) (jP 2 (q0 (vp r1) (q0 (vi deep1) (jC ?_))))
 have ⟨h,hs⟩:=hs.hr (h H3 w17)
 refine zC (jG rfl) (by intro c hc;cases hc) (xc call151) (h.mono (fun e w42 hh=>hh.elim ?_ (by rintro ⟨ch,rfl,h⟩;exact .inr ⟨ch,rfl,fun ρ'=>.inr ⟨ch,rfl,h⟩⟩)))
 rintro ⟨r6,rfl,hk,h⟩
 refine .inl ⟨_,rfl,?_⟩
 obtain ⟨hs,hb⟩:=hk.hh hs hb
 refine zK (q0 (vp (some (p1.add 5))) (zF (jG rfl) (zY (a:=(p1.add 5)) (v:=r6.v) (by kernel_rfl) (by kernel_rfl) rfl (sizeOf22 _) (hb.canW 0 5 gZ (by kernel_rfl))) ?_))
 intro w43 hn18
 have hsb:Hst w0 H3 w42 H3 w43∧HB H3 w43 [(p1,(Ah v1 0 0 0 r6),28)]:=by
  rw [hn18];exact hb.set (i:=0) 5 (v:=r6.v) hs gZ (by kernel_rfl)
 obtain ⟨hs,hb⟩:=hsb
 refine jC (kW (jL (eg (q ?_))))
 have ⟨h,hs⟩:=hs.hr (h w43)
 refine sc call145 (h.mono fun e w44 ⟨k,hk,h⟩=>have ⟨hs,hb⟩:=hk.hh hs hb;⟨_,k,?_⟩)
 refine ln (eg (q2 (Af v1 0 0 0 r6) (xa p1 (Ah v1 0 0 0 r6) (isAgg28 _) (sizeOf28 _) (hb.r0 0 6 gZ)) (zF (jG rfl) (xo p1 (Ah v1 0 0 0 r6) (sizeOf28 _) (hb.k0 0 6 gZ)) ?_)))
 intro w45 hn19
 obtain ⟨hs,hb⟩:=hb.st1 0 hs hn19 gZ
 refine ln (er ?_)
 have ⟨h,hs⟩:=hs.hr (h w45)
 refine ep (uD (.inl rfl) (vs:=[(Af v1 0 0 0 r6)]) (v:=(Af v1 0 0 0 r6)) results105 ⟨(rva (isAgg28 _) (sizeOf28 _) (hb.r0 0 6 gZ)),trivial⟩ (by kernel_rfl) ?_)
 exact .inl ⟨v1,0,0,0,⟨#[]⟩,r6,rfl,h⟩
 refine eg (qb (ln (cbr h ?_ ?_)))<;>intro h
 refine jB (jN (by kernel_rfl) (jP 1 (q0 (vp r1) (jC ?_))))
 have ⟨h,hs⟩:=hs.hr (h H3 w17)
 refine zC (jG rfl) (by intro c hc;cases hc) (xc call147) (h.mono (fun e w46 hh=>hh.elim ?_ (by rintro ⟨ch,rfl,h⟩;exact .inr ⟨ch,rfl,fun ρ'=>.inr ⟨ch,rfl,h⟩⟩)))
 rintro ⟨r7,rfl,hk,h⟩
 refine .inl ⟨_,rfl,?_⟩
 obtain ⟨hs,hb⟩:=hk.hh hs hb
 refine zK (q0 (vp (some (p1.add 1))) (zF (jG rfl) (zY (a:=(p1.add 1)) (v:=(vi r7)) (by kernel_rfl) (by kernel_rfl) rfl (sizeOf3 _) (hb.canW 0 1 gZ (by kernel_rfl))) ?_))
 intro w47 hn20
 have hsb:Hst w0 H3 w46 H3 w47∧HB H3 w47 [(p1,[(vi v1),(vi r7),(vi 0),(vu 0),ve,Sl.nil.v],28)]:=by
  rw [hn20];exact hb.set (i:=0) 1 (v:=(vi r7)) hs gZ (by kernel_rfl)
 obtain ⟨hs,hb⟩:=hsb
 refine ln (jN (by kernel_rfl) (jP 2 (q0 (vp r1) (q0 (vi deep1) (jC ?_)))))
 have ⟨h,hs⟩:=hs.hr (h w47)
 refine zC (jG rfl) (by intro c hc;cases hc) (xc call151) (h.mono (fun e w48 hh=>hh.elim ?_ (by rintro ⟨ch,rfl,h⟩;exact .inr ⟨ch,rfl,fun ρ'=>.inr ⟨ch,rfl,h⟩⟩)))
 rintro ⟨r8,rfl,hk,h⟩
 refine .inl ⟨_,rfl,?_⟩
 obtain ⟨hs,hb⟩:=hk.hh hs hb
 refine zK (q0 (vp (some (p1.add 5))) (zF (jG rfl) (zY (a:=(p1.add 5)) (v:=r8.v) (by kernel_rfl) (by kernel_rfl) rfl (sizeOf22 _) (hb.canW 0 5 gZ (by kernel_rfl))) ?_))
 intro w49 hn21
 have hsb:Hst w0 H3 w48 H3 w49∧HB H3 w49 [(p1,(Ah v1 r7 0 0 r8),28)]:=by
  rw [hn21];exact hb.set (i:=0) 5 (v:=r8.v) hs gZ (by kernel_rfl)
 obtain ⟨hs,hb⟩:=hsb
 refine jC (kW (jL (eg (q ?_))))
 have ⟨h,hs⟩:=hs.hr (h w49)
 refine sc call145 (h.mono fun e w50 ⟨k,hk,h⟩=>have ⟨hs,hb⟩:=hk.hh hs hb;⟨_,k,?_⟩)
 refine ln (eg (q2 (Af v1 r7 0 0 r8) (xa p1 (Ah v1 r7 0 0 r8) (isAgg28 _) (sizeOf28 _) (hb.r0 0 6 gZ)) (zF (jG rfl) (xo p1 (Ah v1 r7 0 0 r8) (sizeOf28 _) (hb.k0 0 6 gZ)) ?_)))
 intro w51 hn22
 obtain ⟨hs,hb⟩:=hb.st1 0 hs hn22 gZ
 refine ln (er ?_)
 have ⟨h,hs⟩:=hs.hr (h w51)
 refine ep (uD (.inl rfl) (vs:=[(Af v1 r7 0 0 r8)]) (v:=(Af v1 r7 0 0 r8)) results105 ⟨(rva (isAgg28 _) (sizeOf28 _) (hb.r0 0 6 gZ)),trivial⟩ (by kernel_rfl) ?_)
 exact .inl ⟨v1,r7,0,0,⟨#[]⟩,r8,rfl,h⟩
 refine jB (jN (by kernel_rfl) (jP 1 (q0 (vp r1) (jC ?_))))
 have ⟨h,hs⟩:=hs.hr (h H3 w17)
 refine zC (jG rfl) (by intro c hc;cases hc) (xc call147) (h.mono (fun e w52 hh=>hh.elim ?_ (by rintro ⟨ch,rfl,h⟩;exact .inr ⟨ch,rfl,fun ρ'=>.inr ⟨ch,rfl,h⟩⟩)))
 rintro ⟨r9,rfl,hk,h⟩
 refine .inl ⟨_,rfl,?_⟩
 obtain ⟨hs,hb⟩:=hk.hh hs hb
 refine zK (q0 (vp (some (p1.add 1))) (zF (jG rfl) (zY (a:=(p1.add 1)) (v:=(vi r9)) (by kernel_rfl) (by kernel_rfl) rfl (sizeOf3 _) (hb.canW 0 1 gZ (by kernel_rfl))) ?_))
 intro w53 hn23
 have hsb:Hst w0 H3 w52 H3 w53∧HB H3 w53 [(p1,[(vi v1),(vi r9),(vi 0),(vu 0),ve,Sl.nil.v],28)]:=by
  rw [hn23];exact hb.set (i:=0) 1 (v:=(vi r9)) hs gZ (by kernel_rfl)
 obtain ⟨hs,hb⟩:=hsb
 refine ln (jB (jN (by kernel_rfl) (jP 1 (q0 (vp r1) (jC ?_)))))
 have ⟨h,hs⟩:=hs.hr (h w53)
 refine zC (jG rfl) (by intro c hc;cases hc) (xc call150) (h.mono (fun e w54 hh=>hh.elim ?_ (by rintro ⟨ch,rfl,h⟩;exact .inr ⟨ch,rfl,fun ρ'=>.inr ⟨ch,rfl,h⟩⟩)))
 rintro ⟨rfl,hk,h⟩
 refine .inl ⟨_,rfl,?_⟩
 obtain ⟨hs,hb⟩:=hk.hh hs hb
 refine kE (jL (jB (jN (by kernel_rfl) (jP 3 (q0 (vp r1) (q0 (vp (some (p1.add 1))) (q2 (vi r9) (xl (isAgg3 _) (hb.c 0 1 gZ)) (jC (zC (jG rfl) (by intro c hc;cases hc) (xc call147) (h.mono (fun e w55 hh=>hh.elim ?_ (by rintro ⟨ch,rfl,h⟩;exact .inr ⟨ch,rfl,fun ρ'=>.inr ⟨ch,rfl,h⟩⟩))))))))))))
 rintro ⟨r10,rfl,hk,h⟩
 refine .inl ⟨_,rfl,?_⟩
 obtain ⟨hs,hb⟩:=hk.hh hs hb
 refine zK (q0 (vp (some (p1.add 2))) (zF (jG rfl) (zY (a:=(p1.add 2)) (v:=(vi r10)) (by kernel_rfl) (by kernel_rfl) rfl (sizeOf3 _) (hb.canW 0 2 gZ (by kernel_rfl))) ?_))
 intro w56 hn24
 have hsb:Hst w0 H3 w55 H3 w56∧HB H3 w56 [(p1,[(vi v1),(vi r9),(vi r10),(vu 0),ve,Sl.nil.v],28)]:=by
  rw [hn24];exact hb.set (i:=0) 2 (v:=(vi r10)) hs gZ (by kernel_rfl)
 obtain ⟨hs,hb⟩:=hsb
 refine ln (jN (by kernel_rfl) (jP 2 (q0 (vp r1) (q0 (vi deep1) (jC ?_)))))
 have ⟨h,hs⟩:=hs.hr (h w56)
 refine zC (jG rfl) (by intro c hc;cases hc) (xc call151) (h.mono (fun e w57 hh=>hh.elim ?_ (by rintro ⟨ch,rfl,h⟩;exact .inr ⟨ch,rfl,fun ρ'=>.inr ⟨ch,rfl,h⟩⟩)))
 rintro ⟨r11,rfl,hk,h⟩
 refine .inl ⟨_,rfl,?_⟩
 obtain ⟨hs,hb⟩:=hk.hh hs hb
 refine zK (q0 (vp (some (p1.add 5))) (zF (jG rfl) (zY (a:=(p1.add 5)) (v:=r11.v) (by kernel_rfl) (by kernel_rfl) rfl (sizeOf22 _) (hb.canW 0 5 gZ (by kernel_rfl))) ?_))
 intro w58 hn25
 have hsb:Hst w0 H3 w57 H3 w58∧HB H3 w58 [(p1,(Ah v1 r9 r10 0 r11),28)]:=by
  rw [hn25];exact hb.set (i:=0) 5 (v:=r11.v) hs gZ (by kernel_rfl)
 obtain ⟨hs,hb⟩:=hsb
 refine jC (kW (jL (eg (q ?_))))
 have ⟨h,hs⟩:=hs.hr (h w58)
 refine sc call145 (h.mono fun e w59 ⟨k,hk,h⟩=>have ⟨hs,hb⟩:=hk.hh hs hb;⟨_,k,?_⟩)
 refine ln (eg (q2 (Af v1 r9 r10 0 r11) (xa p1 (Ah v1 r9 r10 0 r11) (isAgg28 _) (sizeOf28 _) (hb.r0 0 6 gZ)) (zF (jG rfl) (xo p1 (Ah v1 r9 r10 0 r11) (sizeOf28 _) (hb.k0 0 6 gZ)) ?_)))
 intro w60 hn26
 obtain ⟨hs,hb⟩:=hb.st1 0 hs hn26 gZ
 refine ln (er ?_)
 have ⟨h,hs⟩:=hs.hr (h w60)
 refine ep (uD (.inl rfl) (vs:=[(Af v1 r9 r10 0 r11)]) (v:=(Af v1 r9 r10 0 r11)) results105 ⟨(rva (isAgg28 _) (sizeOf28 _) (hb.r0 0 6 gZ)),trivial⟩ (by kernel_rfl) ?_)
 exact .inl ⟨v1,r9,r10,0,⟨#[]⟩,r11,rfl,h⟩
 refine cbr h ?_ ?_<;>intro h
 refine rg (q (qm h fun a5 h=>q ?_))
 have ⟨h,hs⟩:=hs.hr (h H2 w16)
 refine ql (isAgg3 _) h fun v4 h=>q (qm h fun a6 h=>q (st2 (sizeOf3 _) hs hb h fun w61 hs hb h=>ln ⟨H2,hm,hs,hb,h⟩))
 refine jF ?_
 have ⟨h,hs⟩:=hs.hr (h H2 w16)
 refine jL ⟨H2,hm,hs,hb,h⟩
 refine cbr h ?_ ?_<;>intro h
 refine jN (by kernel_rfl) (jP 5 (q0 (vp r1) (q0 (vp r1) (qm h fun a7 h=>q (ql (isAgg3 _) h fun v5 h=>jC (zC (jG rfl) (by intro c hc;cases hc) (xc call106) (h.mono (fun e w62 hh=>hh.elim ?_ (by rintro ⟨ch,rfl,h⟩;exact .inr ⟨ch,rfl,fun ρ'=>.inr ⟨ch,rfl,h⟩⟩)))))))))
 rintro ⟨rfl,hk,h⟩
 refine .inl ⟨_,rfl,?_⟩
 obtain ⟨hs,hb⟩:=hk.hh hs hb
 refine kE (jL ⟨H,hm,hs,hb,h⟩)
 refine jF (jL ⟨H,hm,hs,hb,h⟩)
 refine rg (q (qm h fun a8 h=>q (ql (isAgg3 _) h fun v6 h=>qb (jM 3 (fun ρ wJ=>∃b3'0:Bool,∃HJ:NP,((v6 == 4096)=b3'0)∧Hst w0 H w HJ wJ∧HB HJ wJ [(p1,[(vi v1),(vi 0),(vi 0),(vu 0),ve,Sl.nil.v],28)]∧Has ρ [(0,(vp r1)),(1,(vi deep1)),(4,(vp (some p1))),(5,(.int .u8 r2)),(36,(vb (b3'0 || (deep1 == 64))))]) ?_ ?_))))
 rintro ρ w63 ⟨b3'0,H6,he0,hs,hb,hH⟩
 subst he0
 refine jR hH (jC ?_)
 have ⟨h,hs⟩:=hs.hr (h H6 w63)
 refine jL ⟨((v6 == 4096) || (deep1 == 64)),H6,hm,hs,hb,h⟩
 rcases bte (v6 == 4096) with hg4 | hg4
 refine sj2 33 hg4 (q2 (vb true) (xT hg4) (jC ⟨true,_,hg4,hs,hb,hm⟩))
 refine qk 33 hg4 (qk 33 hg4 (q2 (vb (deep1 == 64)) (xF hg4) (jC ⟨false,_,hg4,hs,hb,hm⟩)))
 refine cbr h ?_ ?_<;>intro h
 refine jN (by kernel_rfl) (jP 5 (q0 (vp r1) (q0 (vp r1) (qm h fun a9 h=>q ?_))))
 have ⟨h,hs⟩:=hs.hr (h w14)
 refine ql (isAgg3 _) h fun v7 h=>jC (zC (jG rfl) (by intro c hc;cases hc) (xc call106) (h.mono (fun e w64 hh=>hh.elim ?_ (by rintro ⟨ch,rfl,h⟩;exact .inr ⟨ch,rfl,fun ρ'=>.inr ⟨ch,rfl,h⟩⟩))))
 rintro ⟨rfl,hk,h⟩
 refine .inl ⟨_,rfl,?_⟩
 obtain ⟨hs,hb⟩:=hk.hh hs hb
 refine kE (jL ⟨H1,hm,hs,hb,h⟩)
 refine jF ?_
 have ⟨h,hs⟩:=hs.hr (h w14)
 refine jL ⟨H1,hm,hs,hb,h⟩
def m_R2 (p1:Option Addr) (text1:ByteArray) (w0:World) (K:Int→Int→Int→WP):Prop :=Calls prog 53 #[(vs text1)] w0 (fun e w1=>∃aC aD aE aF aG aI r1 r2,e=.returned (.tuple #[(Ab aC aD aE aF aG aI),(vi r1),(vi r2)])∧Kept None w0 w1∧Br (r1 != 0) (∀H1 w3,Hst w0 None w1 H1 w3→K 0 r1 r2 w3) (∀H1 w3,Hst w0 None w1 H1 w3→Calls prog 13 #[(vp p1),(.agg #[(vi aC),(vi aD),(vi aE),(vu aF),(vs aG),aI.v])] w3 (fun e w4=>∃r3 r4,e=.returned (.tuple #[(vi r3),(vi r4)])∧Kept H1 w3 w4∧K r3 r4 0 w4)))
theorem w_R2 (p1 text1 w0 K) (h:m_R2 p1 text1 w0 K):
  Calls prog 17 #[(vp p1),(vs text1)] w0 (fun e w'=>∃r5 r6 r7,e=.returned (.tuple #[(vi r5),(vi r6),(vi r7)])∧K r5 r6 r7 w'):=by
 refine cw (args:=[(vp p1),(vs text1)]) func17 ntmps17 ?_
 obtain ⟨hs,hb⟩:=st0 w0
 refine eg (qc (ln (eg (q (sc call53 (h.mono fun e w1 ⟨aC,aD,aE,aF,aG,aI,r1,r2,k,hk,h⟩=>have ⟨hs,hb⟩:=hk.hh hs hb;⟨_,k,?_⟩))))))
 refine qd (nw3 [(vi 0),(vi 0),(vi 0),(vu 0),ve,Sl.nil.v] 28 hs hb (jW (zeroValue28 _) rfl) fun p2 w2 H1 hs hb=>sbx 0 (Aa aC aD aE aF aG aI) (sizeOf28 _) hs hb gZ fun w3 hs hb=>qb (ln (jB (eg (qb (ln (cbr h ?_ ?_)))))))<;>intro h
 refine eg (q (qd (ln (er (zM ?_)))))
 have ⟨h,hs⟩:=hs.hr (h H1 w3)
 refine jLR (.inl rfl) results17 (v:=(vi 0)) (by kernel_rfl) (v':=(vi r1)) (by kernel_rfl) (v'':=(vi r2)) (by kernel_rfl) ⟨0,r1,r2,rfl,h⟩
 refine jF (jL (eg (q (q2 (Ab aC aD aE aF aG aI) (xa p2 (Aa aC aD aE aF aG aI) (isAgg28 _) (sizeOf28 _) (hb.r0 0 6 gZ)) ?_))))
 have ⟨h,hs⟩:=hs.hr (h H1 w3)
 refine sc call13 (h.mono fun e w4 ⟨r3,r4,k,hk,h⟩=>have ⟨hs,hb⟩:=hk.hh hs hb;⟨_,k,?_⟩)
 refine q (qd (ln (eg (qc (qb (ln (er (jLR (.inl rfl) results17 (v:=(vi r3)) (by kernel_rfl) (v':=(vi r4)) (by kernel_rfl) (v'':=(vi 0)) (by kernel_rfl) ⟨r3,r4,0,rfl,h⟩))))))))
def m_S2 (b1:Sl) (c1 n1:Int) (w0:World) (K:Sl→WP):Prop :=∀p1 w1,New w0 (.cells #[(.int .u8 c1)] 5) p1 w1→∃s1:Sl,∃w2:World,(Builtin.append_ #[54,54] 54 #[b1.v,(Sl.mk (some p1) 1 1).v]).run prog w1=.ok s1.v w2∧Calls prog 157 #[s1.v,(vu n1),(vi 10)] w2 (fun e w3=>∃r1:Sl,e=.returned r1.v∧K r1 w3)
theorem w_S2 (b1 c1 n1 w0 K) (h:m_S2 b1 c1 n1 w0 K):
  Calls prog 116 #[b1.v,(.int .u8 c1),(vu n1)] w0 (fun e w'=>∃r2:Sl,e=.returned r2.v∧K r2 w'):=by
 refine cw (args:=[b1.v,(.int .u8 c1),(vu n1)]) func116 ntmps116 (eg (q0 Sl.nil.v (ln (eg (q0 b1.v (q0 (.int .u8 c1) (kP (O:=(.cells #[(.int .u8 c1)] 5)) (fun p=>(Sl.mk (some p) 1 1).v) (jG rfl) (jK (vs:=#[(0,(.int .u8 c1))]) (by kernel_rfl) (by kernel_rfl)) ?_)))))))
 intro p1 w1 hn1
 have h:=h p1 w1 hn1
 obtain ⟨s1,w2,hv1,h⟩:=h
 refine st (v:=s1.v) (jG rfl) (jI (args:=#[b1.v,(Sl.mk (some p1) 1 1).v]) (by kernel_rfl) (fun _=>rfl) hv1) (q0 (vu n1) (sc call157 (h.mono fun e w3 ⟨r1,k,h⟩=>⟨_,k,?_⟩)))
 refine q (ln (er (rs1 results116 ⟨r1,rfl,h⟩)))
def m_J1_l1 (s1:ByteArray) (b2:Sl) (i1:Int) (w0:World) (Hl1:NP) (wl1:World) (Kc1:Sl→Int→NP→WP) (K:Sl→WP):Prop :=Br (decide (i1<(s1.size:Int))) (∃e1:Int,(Instr.index 9 (vs s1) (vi i1)).run prog wl1=.ok (.int .u8 e1) wl1∧Br ((e1 == 34) || (e1 == 92)) (∀H2 w4,Hst w0 Hl1 wl1 H2 w4→∀p2 w6,New w4 (.cells #[(.int .u8 92),(.int .u8 e1)] 5) p2 w6→∃s3:Sl,∃w7:World,(Builtin.append_ #[54,54] 54 #[b2.v,(Sl.mk (some p2) 2 2).v]).run prog w6=.ok s3.v w7∧Kept H2 w6 w7∧Kc1 s3 (q6.wrap (i1+1)) H2 w7) (Br ((decide (e1<32)) || (decide (e1>126))) (∀H5 w9,Hst w0 Hl1 wl1 H5 w9→∃C1:WP,C1 w9.drew∧∀w11,w11=w9.drew→∃z1:Int,(Go.binOp .shr 5 (.int .u8 e1) (vu 4)).run prog w11=.ok (.int .u8 z1) w11∧∃e2:Int,(Instr.index 9 (vs (⟨#[48,49,50,51,52,53,54,55,56,57,97,98,99,100,101,102]⟩:ByteArray)) (.int .u8 z1)).run prog w11=.ok (.int .u8 e2) w11∧∃z2:Int,(Go.binOp .and 5 (.int .u8 e1) (.int .u8 15)).run prog w11=.ok (.int .u8 z2) w11∧∃e3:Int,(Instr.index 9 (vs (⟨#[48,49,50,51,52,53,54,55,56,57,97,98,99,100,101,102]⟩:ByteArray)) (.int .u8 z2)).run prog w11=.ok (.int .u8 e3) w11∧∀p3 w12,New w11 (.cells #[(.int .u8 92),(.int .u8 120),(.int .u8 e2),(.int .u8 e3)] 5) p3 w12→C1 w12∧∃s4:Sl,∃w13:World,(Builtin.append_ #[54,54] 54 #[b2.v,(Sl.mk (some p3) 4 4).v]).run prog w12=.ok s4.v w13∧C1 w13∧Kept H5 w12 w13∧Kc1 s4 (q6.wrap (i1+1)) H5 w13) (∀H5 w9,Hst w0 Hl1 wl1 H5 w9→∀p4 w14,New w9 (.cells #[(.int .u8 e1)] 5) p4 w14→∃s5:Sl,∃w15:World,(Builtin.append_ #[54,54] 54 #[b2.v,(Sl.mk (some p4) 1 1).v]).run prog w14=.ok s5.v w15∧Kept H5 w14 w15∧Kc1 s5 (q6.wrap (i1+1)) H5 w15))) (∀p5 w16,New wl1 (.cells #[(.int .u8 34)] 5) p5 w16→∃s6:Sl,∃w17:World,(Builtin.append_ #[54,54] 54 #[b2.v,(Sl.mk (some p5) 1 1).v]).run prog w16=.ok s6.v w17∧Kept Hl1 w16 w17∧K s6 w17)
def m_J1 (b1:Sl) (s1:ByteArray) (w0:World) (K:Sl→WP):Prop :=∀p1 w1,New w0 (.cells #[(.int .u8 34)] 5) p1 w1→∃s2:Sl,∃w2:World,(Builtin.append_ #[54,54] 54 #[b1.v,(Sl.mk (some p1) 1 1).v]).run prog w1=.ok s2.v w2∧Kept None w1 w2∧∃(I1:Sl→Int→NP→WP) (mu1:Sl→Int→World→Nat),I1 s2 0 None w2∧∀(b2:Sl) (i1:Int) (Hl1:NP) (wl1:World),Hst w0 Hl1 wl1 Hl1 wl1→I1 b2 i1 Hl1 wl1→m_J1_l1 s1 b2 i1 w0 Hl1 wl1 (fun y'0 y'1 H' w'=>I1 y'0 y'1 H' w'∧mu1 y'0 y'1 w'<mu1 b2 i1 wl1) K
theorem w_J1 (b1 s1 w0 K) (h:m_J1 b1 s1 w0 K):
  Calls prog 117 #[b1.v,(vs s1)] w0 (fun e w'=>∃r1:Sl,e=.returned r1.v∧K r1 w'):=by
 refine cw (args:=[b1.v,(vs s1)]) func117 ntmps117 ?_
 obtain ⟨hs,hb⟩:=st0 w0
 refine eg (q (ln (eg (q (nw5 (fun p=>(Sl.mk (some p) 1 1).v) hs hb h fun p1 w1 hs hb h=>?_)))))
 obtain ⟨s2,w2,hv10,hk,h⟩:=h
 refine st (v:=s2.v) (jG rfl) (jI (args:=#[b1.v,(Sl.mk (some p1) 1 1).v]) (by kernel_rfl) (fun _=>rfl) hv10) ?_
 obtain ⟨hs,hb⟩:=hk.hh hs hb
 refine q (ln (jB (eg (q (ln (jO ?_))))))
 obtain ⟨I1,mu1,h0,hr⟩:=h
 refine zU (σ:=Sl×Int×NP×World) (fun s ρ w=>w=s.2.2.2∧Has ρ [(0,s.1.v),(1,(vs s1)),(5,(vi s.2.1))]∧Hst w0 s.2.2.1 w s.2.2.1 w∧HB s.2.2.1 w []∧I1 s.1 s.2.1 s.2.2.1 s.2.2.2) (fun s=>mu1 s.1 s.2.1 s.2.2.2) (s2,0,None,w2) ⟨rfl,hm,hs,hb,h0⟩ ?_
 rintro ⟨b2,i1,Hl1,wl1⟩ ρ w ⟨hw,hH,hs,hb,hI⟩
 dsimp only at hw hH hs hb;subst w
 have h:=hr b2 i1 Hl1 wl1 hs hI
 refine jY hH (jB (eg (qd (ln (cbr h ?_ ?_)))))<;>intro h
 refine jF (jL (jB (jO (eg (qb ?_)))))
 obtain ⟨e1,hv8,h⟩:=h
 refine q2 (.int .u8 e1) (zZ (by kernel_rfl) (by kernel_rfl) hv8) (q (ln (jO (jB (zH (fun ρ wJ=>∃HJ:NP,Hst w0 Hl1 wl1 HJ wJ∧HB HJ wJ []∧Has ρ [(0,b2.v),(1,(vs s1)),(5,(vi i1)),(6,(.int .u8 e1)),(23,(vb ((e1 == 34) || (e1 == 92))))]) ?_ ?_)))))
 refine rg (qc (jM 3 (fun ρ wJ=>∃b5'0:Bool,∃HJ:NP,((e1 == 34)=b5'0)∧Hst w0 Hl1 wl1 HJ wJ∧HB HJ wJ []∧Has ρ [(0,b2.v),(1,(vs s1)),(5,(vi i1)),(6,(.int .u8 e1)),(29,(vb (b5'0 || (e1 == 92))))]) ?_ ?_))
 rintro ρ w5 ⟨b5'0,H3,he0,hs,hb,hH⟩
 subst he0
 refine jR hH (q (ln ⟨_,hs,hb,hm⟩))
 rcases bte (e1 == 34) with hg4 | hg4
 refine sj2 26 hg4 (q2 (vb true) (xT hg4) (jC ⟨true,_,hg4,hs,hb,hm⟩))
 refine qk 26 hg4 (qk 26 hg4 (q2 (vb (e1 == 92)) (xF hg4) (jC ⟨false,_,hg4,hs,hb,hm⟩)))
 rintro ρ w4 ⟨H2,hs,hb,hH⟩
 refine zA hH (jL (cbr h ?_ ?_))<;>intro h
 refine rg (qb ?_)
 have ⟨h,hs⟩:=hs.hr (h H2 w4)
 refine nw5 (fun p=>(Sl.mk (some p) 2 2).v) hs hb h fun p2 w6 hs hb h=>?_
 obtain ⟨s3,w7,hv1,hk,h⟩:=h
 refine st (v:=s3.v) (jG rfl) (jI (args:=#[b2.v,(Sl.mk (some p2) 2 2).v]) (by kernel_rfl) (fun _=>rfl) hv1) ?_
 obtain ⟨hs,hb⟩:=hk.hh hs hb
 refine q (jC (kW (kW (jL (rg (qc (ln ⟨(s3,(q6.wrap (i1+1)),H2,w7),⟨rfl,hm,hs,hb,h.1⟩,h.2⟩)))))))
 refine jB (zH (fun ρ wJ=>∃HJ:NP,Hst w0 Hl1 wl1 HJ wJ∧HB HJ wJ []∧Has ρ [(0,b2.v),(1,(vs s1)),(5,(vi i1)),(6,(.int .u8 e1)),(34,(vb ((decide (e1<32)) || (decide (e1>126)))))]) ?_ ?_)
 refine rg (qc (jM 3 (fun ρ wJ=>∃b8'0:Bool,∃HJ:NP,((decide (e1<32))=b8'0)∧Hst w0 Hl1 wl1 HJ wJ∧HB HJ wJ []∧Has ρ [(0,b2.v),(1,(vs s1)),(5,(vi i1)),(6,(.int .u8 e1)),(40,(vb (b8'0 || (decide (e1>126)))))]) ?_ ?_))
 rintro ρ w10 ⟨b8'0,H6,he0,hs,hb,hH⟩
 subst he0
 refine jR hH (q (ln ⟨_,hs,hb,hm⟩))
 rcases bte (decide (e1<32)) with hg8 | hg8
 refine sj2 37 hg8 (q2 (vb true) (xT hg8) (jC ⟨true,_,hg8,hs,hb,hm⟩))
 refine qk 37 hg8 (qk 37 hg8 (q2 (vb (decide (e1>126))) (xF hg8) (jC ⟨false,_,hg8,hs,hb,hm⟩)))
 rintro ρ w9 ⟨H5,hs,hb,hH⟩
 refine zA hH (jL (cbr h ?_ ?_))<;>intro h
 have ⟨h,hs⟩:=hs.hr (h H5 w9)
 obtain ⟨C1,hC,h⟩:=h
 refine dr2 C1 [7,8] [] hC h hs hb fun w11 hs hb h=>?_
 have hs:=hs.here
 refine qx 0 b2.v Kp0 (qx 1 (.int .u8 e1) Kp1 (qg 2 ?_))
 obtain ⟨z1,hv6,h⟩:=h
 refine sye (v:=(.int .u8 z1)) Kp2 (qV (by kernel_rfl) (by kernel_rfl) (by kernel_rfl) hv6) (qg 3 ?_)
 obtain ⟨e2,hv5,h⟩:=h
 refine sye (v:=(.int .u8 e2)) Kp3 (zZ (by kernel_rfl) (by kernel_rfl) hv5) (qx 4 (.int .u8 e1) Kp4 (qg 5 ?_))
 obtain ⟨z2,hv4,h⟩:=h
 refine sye (v:=(.int .u8 z2)) Kp5 (qV (by kernel_rfl) (by kernel_rfl) (by kernel_rfl) hv4) (qg 6 ?_)
 obtain ⟨e3,hv3,h⟩:=h
 refine sye (v:=(.int .u8 e3)) Kp6 (zZ (by kernel_rfl) (by kernel_rfl) hv3) (lg 7 (kC (O:=(.cells #[(.int .u8 92),(.int .u8 120),(.int .u8 e2),(.int .u8 e3)] 5)) (fun p=>(Sl.mk (some p) 4 4).v) Kp7 (jG rfl) (by kernel_rfl) (jK (vs:=#[(0,(.int .u8 92)),(1,(.int .u8 120)),(2,(.int .u8 e2)),(3,(.int .u8 e3))]) (by kernel_rfl) (by kernel_rfl)) ?_))
 intro p3 w12 hn2
 have h:=h p3 w12 hn2
 refine ⟨.inr h.1,?_⟩
 have h:=h.2
 obtain ⟨hs,hb⟩:=hs.nw hb hn2
 refine lg 8 ?_
 obtain ⟨s4,w13,hv2,hC,hk,h⟩:=h
 refine sl (v:=s4.v) Kp8 (jG rfl) (by kernel_rfl) (jI (args:=#[b2.v,(Sl.mk (some p3) 4 4).v]) (by kernel_rfl) (fun _=>rfl) hv2) (.inr hC) ?_
 obtain ⟨hs,hb⟩:=hk.hh hs hb
 refine qx 9 s4.v Kp9 (wn (kW (kW (jL (rg (qc (ln ⟨(s4,(q6.wrap (i1+1)),H5,w13),⟨rfl,hm,hs,hb,h.1⟩,h.2⟩)))))))
 refine rg (qb ?_)
 have ⟨h,hs⟩:=hs.hr (h H5 w9)
 refine nw5 (fun p=>(Sl.mk (some p) 1 1).v) hs hb h fun p4 w14 hs hb h=>?_
 obtain ⟨s5,w15,hv7,hk,h⟩:=h
 refine st (v:=s5.v) (jG rfl) (jI (args:=#[b2.v,(Sl.mk (some p4) 1 1).v]) (by kernel_rfl) (fun _=>rfl) hv7) ?_
 obtain ⟨hs,hb⟩:=hk.hh hs hb
 refine q (jC (kW (kW (jL (rg (qc (ln ⟨(s5,(q6.wrap (i1+1)),H5,w15),⟨rfl,hm,hs,hb,h.1⟩,h.2⟩)))))))
 refine zI (vM (vM (vI (jL (eg (q0 b2.v (kP (O:=(.cells #[(.int .u8 34)] 5)) (fun p=>(Sl.mk (some p) 1 1).v) (jG rfl) (jK (vs:=#[(0,(.int .u8 34))]) (by kernel_rfl) (by kernel_rfl)) ?_)))))))
 intro p5 w16 hn4
 have h:=h p5 w16 hn4
 obtain ⟨hs,hb⟩:=hs.nw hb hn4
 obtain ⟨s6,w17,hv9,hk,h⟩:=h
 refine st (v:=s6.v) (jG rfl) (jI (args:=#[b2.v,(Sl.mk (some p5) 1 1).v]) (by kernel_rfl) (fun _=>rfl) hv9) ?_
 obtain ⟨hs,hb⟩:=hk.hh hs hb
 refine q (ln (er (rs1 results117 ⟨s6,rfl,h⟩)))
def m_P_j1 (aH b2:Sl) (H:NP) (w:World) (K:Sl→WP):Prop :=∃C1:WP,C1 w.drew∧∀w2,w2=w.drew→∃a1:Addr,At aH 0 6 a1∧∃aS aT aU aV aW aX,(∀w',C1 w'→Row w' a1 (Aa aS aT aU aV aW aX))∧(∀p2 w3,New w2 (.cells #[(.int .u8 40)] 5) p2 w3→C1 w3∧(∃s1:Sl,∃w4:World,(Builtin.append_ #[54,54] 54 #[b2.v,(Sl.mk (some p2) 1 1).v]).run prog w3=.ok s1.v w4∧C1 w4∧Kept H w3 w4∧(Calls prog 62 #[s1.v,(.agg #[(vi aS),(vi aT),(vi aU),(vu aV),(vs aW),aX.v])] w4 (fun e w5=>∃r1:Sl,e=.returned r1.v∧C1 w5∧Kept H w4 w5∧∀p3 w6,New w5 (.cells #[(.int .u8 41)] 5) p3 w6→C1 w6∧∃s2:Sl,∃w7:World,(Builtin.append_ #[54,54] 54 #[r1.v,(Sl.mk (some p3) 1 1).v]).run prog w6=.ok s2.v w7∧C1 w7∧Kept H w6 w7∧K s2 w7))∧(∀p4 w8,New w4 (.cells #[(.int .u8 41)] 5) p4 w8→C1 w8∧Calls prog 62 #[s1.v,(.agg #[(vi aS),(vi aT),(vi aU),(vu aV),(vs aW),aX.v])] w8 (fun e w9=>∃r2:Sl,e=.returned r2.v∧C1 w9∧Kept H w8 w9∧∃s3:Sl,∃w10:World,(Builtin.append_ #[54,54] 54 #[r2.v,(Sl.mk (some p4) 1 1).v]).run prog w9=.ok s3.v w10∧C1 w10∧Kept H w9 w10∧K s3 w10)))∧(∀p5 w11,New w3 (.cells #[(.int .u8 41)] 5) p5 w11→C1 w11∧∃s4:Sl,∃w12:World,(Builtin.append_ #[54,54] 54 #[b2.v,(Sl.mk (some p2) 1 1).v]).run prog w11=.ok s4.v w12∧C1 w12∧Kept H w11 w12∧Calls prog 62 #[s4.v,(.agg #[(vi aS),(vi aT),(vi aU),(vu aV),(vs aW),aX.v])] w12 (fun e w13=>∃r3:Sl,e=.returned r3.v∧C1 w13∧Kept H w12 w13∧∃s5:Sl,∃w14:World,(Builtin.append_ #[54,54] 54 #[r3.v,(Sl.mk (some p5) 1 1).v]).run prog w13=.ok s5.v w14∧C1 w14∧Kept H w13 w14∧K s5 w14)))∧(∀p6 w15,New w2 (.cells #[(.int .u8 41)] 5) p6 w15→C1 w15∧∀p7 w16,New w15 (.cells #[(.int .u8 40)] 5) p7 w16→C1 w16∧∃s6:Sl,∃w17:World,(Builtin.append_ #[54,54] 54 #[b2.v,(Sl.mk (some p7) 1 1).v]).run prog w16=.ok s6.v w17∧C1 w17∧Kept H w16 w17∧Calls prog 62 #[s6.v,(.agg #[(vi aS),(vi aT),(vi aU),(vu aV),(vs aW),aX.v])] w17 (fun e w18=>∃r4:Sl,e=.returned r4.v∧C1 w18∧Kept H w17 w18∧∃s7:Sl,∃w19:World,(Builtin.append_ #[54,54] 54 #[r4.v,(Sl.mk (some p6) 1 1).v]).run prog w18=.ok s7.v w19∧C1 w19∧Kept H w18 w19∧K s7 w19))
def m_P (b1:Sl) (aA aB:Int) (aJ aK:Int) (aL:ByteArray) (aH:Sl) (w0:World) (K:Sl→WP):Prop :=Br (aA == 1) (∀H1 w1,Hst w0 None w0 H1 w1→Calls prog 116 #[b1.v,(.int .u8 110),(vu (IntKind.u64.wrap aB))] w1 (fun e w20=>∃r5:Sl,e=.returned r5.v∧Kept H1 w1 w20∧K r5 w20)) (Br (aA == 2) (∀H1 w1,Hst w0 None w0 H1 w1→Calls prog 116 #[b1.v,(.int .u8 35),(vu aK)] w1 (fun e w21=>∃r6:Sl,e=.returned r6.v∧Kept H1 w1 w21∧K r6 w21)) (Br (aA == 6) (∀H1 w1,Hst w0 None w0 H1 w1→Calls prog 116 #[b1.v,(.int .u8 107),(vu (IntKind.u64.wrap aB))] w1 (fun e w22=>∃r7:Sl,e=.returned r7.v∧Kept H1 w1 w22∧K r7 w22)) (Br (aA == 3) (∀H1 w1,Hst w0 None w0 H1 w1→Calls prog 117 #[b1.v,(vs aL)] w1 (fun e w23=>∃r8:Sl,e=.returned r8.v∧Kept H1 w1 w23∧K r8 w23)) (Br (aA == 4) (∀H1 w1,Hst w0 None w0 H1 w1→∃C2:WP,C2 w1.drew∧∀w24,w24=w1.drew→∃a2:Addr,At aH 0 6 a2∧∃bG bH bI bJ bK bL,(∀w',C2 w'→Row w' a2 (Aa bG bH bI bJ bK bL))∧∀p8 w25,New w24 (.cells #[(.int .u8 40)] 5) p8 w25→C2 w25∧∃s8:Sl,∃w26:World,(Builtin.append_ #[54,54] 54 #[b1.v,(Sl.mk (some p8) 1 1).v]).run prog w25=.ok s8.v w26∧C2 w26∧Kept H1 w25 w26∧Calls prog 62 #[s8.v,(.agg #[(vi bG),(vi bH),(vi bI),(vu bJ),(vs bK),bL.v])] w26 (fun e w27=>∃r9:Sl,e=.returned r9.v∧C2 w27∧Kept H1 w26 w27∧∃C3:WP,C3 w27.drew∧∀w28,w28=w27.drew→∃a3:Addr,At aH 1 6 a3∧∃aY aZ bA bB bC bD,(∀w',C3 w'→Row w' a3 (Aa aY aZ bA bB bC bD))∧(∀p9 w29,New w28 (.cells #[(.int .u8 32)] 5) p9 w29→C3 w29∧(∃s9:Sl,∃w30:World,(Builtin.append_ #[54,54] 54 #[r9.v,(Sl.mk (some p9) 1 1).v]).run prog w29=.ok s9.v w30∧C3 w30∧Kept H1 w29 w30∧(Calls prog 62 #[s9.v,(.agg #[(vi aY),(vi aZ),(vi bA),(vu bB),(vs bC),bD.v])] w30 (fun e w31=>∃r10:Sl,e=.returned r10.v∧C3 w31∧Kept H1 w30 w31∧∀p10 w32,New w31 (.cells #[(.int .u8 41)] 5) p10 w32→C3 w32∧∃s10:Sl,∃w33:World,(Builtin.append_ #[54,54] 54 #[r10.v,(Sl.mk (some p10) 1 1).v]).run prog w32=.ok s10.v w33∧C3 w33∧Kept H1 w32 w33∧K s10 w33))∧(∀p11 w34,New w30 (.cells #[(.int .u8 41)] 5) p11 w34→C3 w34∧Calls prog 62 #[s9.v,(.agg #[(vi aY),(vi aZ),(vi bA),(vu bB),(vs bC),bD.v])] w34 (fun e w35=>∃r11:Sl,e=.returned r11.v∧C3 w35∧Kept H1 w34 w35∧∃s11:Sl,∃w36:World,(Builtin.append_ #[54,54] 54 #[r11.v,(Sl.mk (some p11) 1 1).v]).run prog w35=.ok s11.v w36∧C3 w36∧Kept H1 w35 w36∧K s11 w36)))∧(∀p12 w37,New w29 (.cells #[(.int .u8 41)] 5) p12 w37→C3 w37∧∃s12:Sl,∃w38:World,(Builtin.append_ #[54,54] 54 #[r9.v,(Sl.mk (some p9) 1 1).v]).run prog w37=.ok s12.v w38∧C3 w38∧Kept H1 w37 w38∧Calls prog 62 #[s12.v,(.agg #[(vi aY),(vi aZ),(vi bA),(vu bB),(vs bC),bD.v])] w38 (fun e w39=>∃r12:Sl,e=.returned r12.v∧C3 w39∧Kept H1 w38 w39∧∃s13:Sl,∃w40:World,(Builtin.append_ #[54,54] 54 #[r12.v,(Sl.mk (some p12) 1 1).v]).run prog w39=.ok s13.v w40∧C3 w40∧Kept H1 w39 w40∧K s13 w40)))∧(∀p13 w41,New w28 (.cells #[(.int .u8 41)] 5) p13 w41→C3 w41∧∀p14 w42,New w41 (.cells #[(.int .u8 32)] 5) p14 w42→C3 w42∧∃s14:Sl,∃w43:World,(Builtin.append_ #[54,54] 54 #[r9.v,(Sl.mk (some p14) 1 1).v]).run prog w42=.ok s14.v w43∧C3 w43∧Kept H1 w42 w43∧Calls prog 62 #[s14.v,(.agg #[(vi aY),(vi aZ),(vi bA),(vu bB),(vs bC),bD.v])] w43 (fun e w44=>∃r13:Sl,e=.returned r13.v∧C3 w44∧Kept H1 w43 w44∧∃s15:Sl,∃w45:World,(Builtin.append_ #[54,54] 54 #[r13.v,(Sl.mk (some p13) 1 1).v]).run prog w44=.ok s15.v w45∧C3 w45∧Kept H1 w44 w45∧K s15 w45)))) (Br (aA == 5) (∀H1 w1,Hst w0 None w0 H1 w1→∀p15 w46,New w1 (.cells #[(.int .u8 104)] 5) p15 w46→∃s16:Sl,∃w47:World,(Builtin.append_ #[54,54] 54 #[b1.v,(Sl.mk (some p15) 1 1).v]).run prog w46=.ok s16.v w47∧Kept H1 w46 w47∧m_P_j1 aH s16 H1 w47 K) (Br (aA == 7) (∀H1 w1,Hst w0 None w0 H1 w1→Calls prog 116 #[b1.v,(.int .u8 115),(vu (IntKind.u64.wrap aB))] w1 (fun e w48=>∃r14:Sl,e=.returned r14.v∧Kept H1 w1 w48∧m_P_j1 aH r14 H1 w48 K)) (Br (aA == 8) (∀H1 w1,Hst w0 None w0 H1 w1→∃C4:WP,C4 w1.drew∧∀w49,w49=w1.drew→Calls prog 116 #[b1.v,(.int .u8 112),(vu (IntKind.u64.wrap aB))] w49 (fun e w50=>∃r15:Sl,e=.returned r15.v∧C4 w50∧Kept H1 w49 w50∧Calls prog 116 #[r15.v,(.int .u8 62),(vu (IntKind.u64.wrap aJ))] w50 (fun e w51=>∃r16:Sl,e=.returned r16.v∧C4 w51∧Kept H1 w50 w51∧m_P_j1 aH r16 H1 w51 K))) (Br (aA == 9) (∀H1 w1,Hst w0 None w0 H1 w1→∃C5:WP,C5 w1.drew∧∀w52,w52=w1.drew→Calls prog 116 #[b1.v,(.int .u8 102),(vu (IntKind.u64.wrap aB))] w52 (fun e w53=>∃r17:Sl,e=.returned r17.v∧C5 w53∧Kept H1 w52 w53∧Calls prog 116 #[r17.v,(.int .u8 62),(vu (IntKind.u64.wrap aJ))] w53 (fun e w54=>∃r18:Sl,e=.returned r18.v∧C5 w54∧Kept H1 w53 w54∧m_P_j1 aH r18 H1 w54 K))) (∀H1 w1,Hst w0 None w0 H1 w1→m_P_j1 aH b1 H1 w1 K)))))))))
theorem w_P (b1 aA aB aJ aK aL aH w0 K) (h:m_P b1 aA aB aJ aK aL aH w0 K):
  Calls prog 62 #[b1.v,(.agg #[(vi aA),(vi aB),(vi aJ),(vu aK),(vs aL),aH.v])] w0 (fun e w'=>∃r19:Sl,e=.returned r19.v∧K r19 w'):=by
 refine cw (args:=[b1.v,(Ab aA aB aJ aK aL aH)]) func62 ntmps62 ?_
 obtain ⟨hs,hb⟩:=st0 w0
 refine eg (nw3 (Aa aA aB aJ aK aL aH) 28 hs hb xb fun p1 w1 H1 hs hb=>q (ln (jB (eg (q (q3 (xl (isAgg3 _) (hb.d0 0 gZ)) (ln (zD (fun ρ w=>∃b2:Sl,∃H:NP,Has ρ [(0,b2.v),(3,(vp (some p1)))]∧Hst w0 H w H w∧HB H w [(p1,(Aa aA aB aJ aK aL aH),28)]∧m_P_j1 aH b2 H w K) ?_ ?_))))))))
 rintro ρ w ⟨b2,H,hH,hs,hb,h⟩
 refine jY hH (jB ?_)
 obtain ⟨C1,hC,h⟩:=h
 refine dr2 (fun x=>C1 x∧HB H x _) [1,2,7,8,9] [] ⟨hC,hb.drew⟩ h hs hb fun w2 hs hb h=>?_
 have hs:=hs.here
 refine qx 0 b2.v Kp0 (qx 3 (vp (some (p1.add 5))) Kp3 (qz 4 aH.v Kp4 (fun w' hw'=>(xl (isAgg22 _) (hw'.2.cell 0 5 gZ (by kernel_rfl)))) (qg 5 ?_)))
 obtain ⟨a1,hv9,h⟩:=h
 refine sy Kp5 (fun _ _=>xi (runUnderlying22 _) (sizeOf28 _) hv9) (qg 6 ?_)
 obtain ⟨aS,aT,aU,aV,aW,aX,hv8,h⟩:=h
 refine sy (v:=(Ab aS aT aU aV aW aX)) Kp6 (fun w' hw'=>(xa a1 (Aa aS aT aU aV aW aX) (isAgg28 _) (sizeOf28 _) (hv8 w' hw'.1))) (jGG (k:=1) (k':=8) (by kernel_rfl) ?_ ?_)
 have h:=h.1
 refine kC (O:=(.cells #[(.int .u8 40)] 5)) (fun p=>(Sl.mk (some p) 1 1).v) Kp1 (jG rfl) (by kernel_rfl) (jK (vs:=#[(0,(.int .u8 40))]) (by kernel_rfl) (by kernel_rfl)) ?_
 intro p2 w3 hn5
 have h:=h p2 w3 hn5
 refine ⟨.inr ⟨h.1,hb.kept (Ext.new (F:=None) hn5).keptP⟩,?_⟩
 have h:=h.2
 obtain ⟨hs,hb⟩:=hs.nw hb hn5
 refine jGG (k:=2) (k':=8) (by kernel_rfl) ?_ ?_
 have h:=h.1
 obtain ⟨s1,w4,hv3,hC,hk,h⟩:=h
 refine sl (v:=s1.v) Kp2 (jG rfl) (by kernel_rfl) (jI (args:=#[b2.v,(Sl.mk (some p2) 1 1).v]) (by kernel_rfl) (fun _=>rfl) hv3) (.inr ⟨hC,hb.kept hk⟩) ?_
 obtain ⟨hs,hb⟩:=hk.hh hs hb
 refine jGG (k:=7) (k':=8) (by kernel_rfl) ?_ ?_
 have h:=h.1
 refine slc Kp7 call62 (h.mono ?_)
 rintro e w5 ⟨r1,rfl,hC,hk,h⟩
 refine ⟨_,rfl,.inr ⟨hC,hb.kept hk⟩,?_⟩
 obtain ⟨hs,hb⟩:=hk.hh hs hb
 refine lg 8 (kC (O:=(.cells #[(.int .u8 41)] 5)) (fun p=>(Sl.mk (some p) 1 1).v) Kp8 (jG rfl) (by kernel_rfl) (jK (vs:=#[(0,(.int .u8 41))]) (by kernel_rfl) (by kernel_rfl)) ?_)
 intro p3 w6 hn2
 have h:=h p3 w6 hn2
 refine ⟨.inr ⟨h.1,hb.kept (Ext.new (F:=None) hn2).keptP⟩,?_⟩
 have h:=h.2
 obtain ⟨hs,hb⟩:=hs.nw hb hn2
 refine lg 9 ?_
 obtain ⟨s2,w7,hv1,hC,hk,h⟩:=h
 refine sl (v:=s2.v) Kp9 (jG rfl) (by kernel_rfl) (jI (args:=#[r1.v,(Sl.mk (some p3) 1 1).v]) (by kernel_rfl) (fun _=>rfl) hv1) (.inr ⟨hC,hb.kept hk⟩) ?_
 obtain ⟨hs,hb⟩:=hk.hh hs hb
 refine qx 10 s2.v (jE (S8 (jA (jA jD)))) (wn (jL (er (rs1 results62 ⟨s2,rfl,h⟩))))
 have h:=h.2
 refine kC (O:=(.cells #[(.int .u8 41)] 5)) (fun p=>(Sl.mk (some p) 1 1).v) Kp8 (jG rfl) (by kernel_rfl) (jK (vs:=#[(0,(.int .u8 41))]) (by kernel_rfl) (by kernel_rfl)) ?_
 intro p4 w8 hn3
 have h:=h p4 w8 hn3
 refine ⟨.inr ⟨h.1,hb.kept (Ext.new (F:=None) hn3).keptP⟩,?_⟩
 have h:=h.2
 obtain ⟨hs,hb⟩:=hs.nw hb hn3
 refine lg 7 (slc Kp7 call62 (h.mono ?_))
 rintro e w9 ⟨r2,rfl,hC,hk,h⟩
 refine ⟨_,rfl,.inr ⟨hC,hb.kept hk⟩,?_⟩
 obtain ⟨hs,hb⟩:=hk.hh hs hb
 refine lg 9 ?_
 obtain ⟨s3,w10,hv2,hC,hk,h⟩:=h
 refine sl (v:=s3.v) Kp9 (jG rfl) (by kernel_rfl) (jI (args:=#[r2.v,(Sl.mk (some p4) 1 1).v]) (by kernel_rfl) (fun _=>rfl) hv2) (.inr ⟨hC,hb.kept hk⟩) ?_
 obtain ⟨hs,hb⟩:=hk.hh hs hb
 refine qx 10 s3.v (jE (S8 (jA (jA jD)))) (wn (jL (er (rs1 results62 ⟨s3,rfl,h⟩))))
 have h:=h.2
 refine kC (O:=(.cells #[(.int .u8 41)] 5)) (fun p=>(Sl.mk (some p) 1 1).v) Kp8 (jG rfl) (by kernel_rfl) (jK (vs:=#[(0,(.int .u8 41))]) (by kernel_rfl) (by kernel_rfl)) ?_
 intro p5 w11 hn4
 have h:=h p5 w11 hn4
 refine ⟨.inr ⟨h.1,hb.kept (Ext.new (F:=None) hn4).keptP⟩,?_⟩
 have h:=h.2
 obtain ⟨hs,hb⟩:=hs.nw hb hn4
 refine lg 2 ?_
 obtain ⟨s4,w12,hv5,hC,hk,h⟩:=h
 refine sl (v:=s4.v) Kp2 (jG rfl) (by kernel_rfl) (jI (args:=#[b2.v,(Sl.mk (some p2) 1 1).v]) (by kernel_rfl) (fun _=>rfl) hv5) (.inr ⟨hC,hb.kept hk⟩) ?_
 obtain ⟨hs,hb⟩:=hk.hh hs hb
 refine lg 7 (slc Kp7 call62 (h.mono ?_))
 rintro e w13 ⟨r3,rfl,hC,hk,h⟩
 refine ⟨_,rfl,.inr ⟨hC,hb.kept hk⟩,?_⟩
 obtain ⟨hs,hb⟩:=hk.hh hs hb
 refine lg 9 ?_
 obtain ⟨s5,w14,hv4,hC,hk,h⟩:=h
 refine sl (v:=s5.v) Kp9 (jG rfl) (by kernel_rfl) (jI (args:=#[r3.v,(Sl.mk (some p5) 1 1).v]) (by kernel_rfl) (fun _=>rfl) hv4) (.inr ⟨hC,hb.kept hk⟩) ?_
 obtain ⟨hs,hb⟩:=hk.hh hs hb
 refine qx 10 s5.v (jE (S8 (jA (jA jD)))) (wn (jL (er (rs1 results62 ⟨s5,rfl,h⟩))))
 have h:=h.2
 refine kC (O:=(.cells #[(.int .u8 41)] 5)) (fun p=>(Sl.mk (some p) 1 1).v) Kp8 (jG rfl) (by kernel_rfl) (jK (vs:=#[(0,(.int .u8 41))]) (by kernel_rfl) (by kernel_rfl)) ?_
 intro p6 w15 hn7
 have h:=h p6 w15 hn7
 refine ⟨.inr ⟨h.1,hb.kept (Ext.new (F:=None) hn7).keptP⟩,?_⟩
 have h:=h.2
 obtain ⟨hs,hb⟩:=hs.nw hb hn7
 refine lg 1 (kC (O:=(.cells #[(.int .u8 40)] 5)) (fun p=>(Sl.mk (some p) 1 1).v) Kp1 (jG rfl) (by kernel_rfl) (jK (vs:=#[(0,(.int .u8 40))]) (by kernel_rfl) (by kernel_rfl)) ?_)
 intro p7 w16 hn6
 have h:=h p7 w16 hn6
 refine ⟨.inr ⟨h.1,hb.kept (Ext.new (F:=None) hn6).keptP⟩,?_⟩
 have h:=h.2
 obtain ⟨hs,hb⟩:=hs.nw hb hn6
 refine lg 2 ?_
 obtain ⟨s6,w17,hv7,hC,hk,h⟩:=h
 refine sl (v:=s6.v) Kp2 (jG rfl) (by kernel_rfl) (jI (args:=#[b2.v,(Sl.mk (some p7) 1 1).v]) (by kernel_rfl) (fun _=>rfl) hv7) (.inr ⟨hC,hb.kept hk⟩) ?_
 obtain ⟨hs,hb⟩:=hk.hh hs hb
 refine lg 7 (slc Kp7 call62 (h.mono ?_))
 rintro e w18 ⟨r4,rfl,hC,hk,h⟩
 refine ⟨_,rfl,.inr ⟨hC,hb.kept hk⟩,?_⟩
 obtain ⟨hs,hb⟩:=hk.hh hs hb
 refine lg 9 ?_
 obtain ⟨s7,w19,hv6,hC,hk,h⟩:=h
 refine sl (v:=s7.v) Kp9 (jG rfl) (by kernel_rfl) (jI (args:=#[r4.v,(Sl.mk (some p6) 1 1).v]) (by kernel_rfl) (fun _=>rfl) hv6) (.inr ⟨hC,hb.kept hk⟩) ?_
 obtain ⟨hs,hb⟩:=hk.hh hs hb
 refine qx 10 s7.v (jE (S8 (jA (jA jD)))) (wn (jL (er (rs1 results62 ⟨s7,rfl,h⟩))))
 refine jO (eg (qb (ln (cbr h ?_ ?_))))<;>intro h
 refine eg (qb (q3 (xl (isAgg3 _) (hb.d 0 1 gZ)) (q ?_)))
 have ⟨h,hs⟩:=hs.hr (h H1 w1)
 refine sc call116 (h.mono fun e w20 ⟨r5,k,hk,h⟩=>have ⟨hs,hb⟩:=hk.hh hs hb;⟨_,k,?_⟩)
 refine q (ln (er (vR (zM (rs1 results62 ⟨r5,rfl,h⟩)))))
 refine eg (qb (ln (cbr h ?_ ?_)))<;>intro h
 refine eg (qb (q3 (xl (isAgg26 _) (hb.d 0 3 gZ)) ?_))
 have ⟨h,hs⟩:=hs.hr (h H1 w1)
 refine sc call116 (h.mono fun e w21 ⟨r6,k,hk,h⟩=>have ⟨hs,hb⟩:=hk.hh hs hb;⟨_,k,?_⟩)
 refine q (ln (er (vR (zM (rs1 results62 ⟨r6,rfl,h⟩)))))
 refine eg (qb (ln (cbr h ?_ ?_)))<;>intro h
 refine eg (qb (q3 (xl (isAgg3 _) (hb.d 0 1 gZ)) (q ?_)))
 have ⟨h,hs⟩:=hs.hr (h H1 w1)
 refine sc call116 (h.mono fun e w22 ⟨r7,k,hk,h⟩=>have ⟨hs,hb⟩:=hk.hh hs hb;⟨_,k,?_⟩)
 refine q (ln (er (vR (zM (rs1 results62 ⟨r7,rfl,h⟩)))))
 refine eg (qb (ln (cbr h ?_ ?_)))<;>intro h
 refine eg (qb (q3 (xl (isAgg9 _) (hb.d 0 4 gZ)) ?_))
 have ⟨h,hs⟩:=hs.hr (h H1 w1)
 refine sc call117 (h.mono fun e w23 ⟨r8,k,hk,h⟩=>have ⟨hs,hb⟩:=hk.hh hs hb;⟨_,k,?_⟩)
 refine q (ln (er (vR (zM (rs1 results62 ⟨r8,rfl,h⟩)))))
 refine eg (qb (ln (cbr h ?_ ?_)))<;>intro h
 refine jB ?_
 have ⟨h,hs⟩:=hs.hr (h H1 w1)
 obtain ⟨C2,hC,h⟩:=h
 refine dr2 (fun x=>C2 x∧HB H1 x _) [1,2,7] [] ⟨hC,hb.drew⟩ h hs hb fun w24 hs hb h=>?_
 have hs:=hs.here
 refine qx 0 b1.v Kp0 (qx 3 (vp (some (p1.add 5))) Kp3 (qz 4 aH.v Kp4 (fun w' hw'=>(xl (isAgg22 _) (hw'.2.cell 0 5 gZ (by kernel_rfl)))) (qg 5 ?_)))
 obtain ⟨a2,hv21,h⟩:=h
 refine sy Kp5 (fun _ _=>xi (runUnderlying22 _) (sizeOf28 _) hv21) (qg 6 ?_)
 obtain ⟨bG,bH,bI,bJ,bK,bL,hv20,h⟩:=h
 refine sy (v:=(Ab bG bH bI bJ bK bL)) Kp6 (fun w' hw'=>(xa a2 (Aa bG bH bI bJ bK bL) (isAgg28 _) (sizeOf28 _) (hv20 w' hw'.1))) (lg 1 (kC (O:=(.cells #[(.int .u8 40)] 5)) (fun p=>(Sl.mk (some p) 1 1).v) Kp1 (jG rfl) (by kernel_rfl) (jK (vs:=#[(0,(.int .u8 40))]) (by kernel_rfl) (by kernel_rfl)) ?_))
 intro p8 w25 hn14
 have h:=h p8 w25 hn14
 refine ⟨.inr ⟨h.1,hb.kept (Ext.new (F:=None) hn14).keptP⟩,?_⟩
 have h:=h.2
 obtain ⟨hs,hb⟩:=hs.nw hb hn14
 refine lg 2 ?_
 obtain ⟨s8,w26,hv19,hC,hk,h⟩:=h
 refine sl (v:=s8.v) Kp2 (jG rfl) (by kernel_rfl) (jI (args:=#[b1.v,(Sl.mk (some p8) 1 1).v]) (by kernel_rfl) (fun _=>rfl) hv19) (.inr ⟨hC,hb.kept hk⟩) ?_
 obtain ⟨hs,hb⟩:=hk.hh hs hb
 refine lg 7 (slc Kp7 call62 (h.mono ?_))
 rintro e w27 ⟨r9,rfl,hC,hk,h⟩
 refine ⟨_,rfl,.inr ⟨hC,hb.kept hk⟩,?_⟩
 obtain ⟨hs,hb⟩:=hk.hh hs hb
 refine qx 8 r9.v Kp8 (wn (jL (jB ?_)))
 obtain ⟨C3,hC,h⟩:=h
 refine dr2 (fun x=>C3 x∧HB H1 x _) [1,2,7,8,9] [] ⟨hC,hb.drew⟩ h hs hb fun w28 hs hb h=>?_
 have hs:=hs.here
 refine qx 0 r9.v Kp0 (qx 3 (vp (some (p1.add 5))) Kp3 (qz 4 aH.v Kp4 (fun w' hw'=>(xl (isAgg22 _) (hw'.2.cell 0 5 gZ (by kernel_rfl)))) (qg 5 ?_)))
 obtain ⟨a3,hv18,h⟩:=h
 refine sy Kp5 (fun _ _=>xi (runUnderlying22 _) (sizeOf28 _) hv18) (qg 6 ?_)
 obtain ⟨aY,aZ,bA,bB,bC,bD,hv17,h⟩:=h
 refine sy (v:=(Ab aY aZ bA bB bC bD)) Kp6 (fun w' hw'=>(xa a3 (Aa aY aZ bA bB bC bD) (isAgg28 _) (sizeOf28 _) (hv17 w' hw'.1))) (jGG (k:=1) (k':=8) (by kernel_rfl) ?_ ?_)
 have h:=h.1
 refine kC (O:=(.cells #[(.int .u8 32)] 5)) (fun p=>(Sl.mk (some p) 1 1).v) Kp1 (jG rfl) (by kernel_rfl) (jK (vs:=#[(0,(.int .u8 32))]) (by kernel_rfl) (by kernel_rfl)) ?_
 intro p9 w29 hn11
 have h:=h p9 w29 hn11
 refine ⟨.inr ⟨h.1,hb.kept (Ext.new (F:=None) hn11).keptP⟩,?_⟩
 have h:=h.2
 obtain ⟨hs,hb⟩:=hs.nw hb hn11
 refine jGG (k:=2) (k':=8) (by kernel_rfl) ?_ ?_
 have h:=h.1
 obtain ⟨s9,w30,hv12,hC,hk,h⟩:=h
 refine sl (v:=s9.v) Kp2 (jG rfl) (by kernel_rfl) (jI (args:=#[r9.v,(Sl.mk (some p9) 1 1).v]) (by kernel_rfl) (fun _=>rfl) hv12) (.inr ⟨hC,hb.kept hk⟩) ?_
 obtain ⟨hs,hb⟩:=hk.hh hs hb
 refine jGG (k:=7) (k':=8) (by kernel_rfl) ?_ ?_
 have h:=h.1
 refine slc Kp7 call62 (h.mono ?_)
 rintro e w31 ⟨r10,rfl,hC,hk,h⟩
 refine ⟨_,rfl,.inr ⟨hC,hb.kept hk⟩,?_⟩
 obtain ⟨hs,hb⟩:=hk.hh hs hb
 refine lg 8 (kC (O:=(.cells #[(.int .u8 41)] 5)) (fun p=>(Sl.mk (some p) 1 1).v) Kp8 (jG rfl) (by kernel_rfl) (jK (vs:=#[(0,(.int .u8 41))]) (by kernel_rfl) (by kernel_rfl)) ?_)
 intro p10 w32 hn8
 have h:=h p10 w32 hn8
 refine ⟨.inr ⟨h.1,hb.kept (Ext.new (F:=None) hn8).keptP⟩,?_⟩
 have h:=h.2
 obtain ⟨hs,hb⟩:=hs.nw hb hn8
 refine lg 9 ?_
 obtain ⟨s10,w33,hv10,hC,hk,h⟩:=h
 refine sl (v:=s10.v) Kp9 (jG rfl) (by kernel_rfl) (jI (args:=#[r10.v,(Sl.mk (some p10) 1 1).v]) (by kernel_rfl) (fun _=>rfl) hv10) (.inr ⟨hC,hb.kept hk⟩) ?_
 obtain ⟨hs,hb⟩:=hk.hh hs hb
 refine qx 10 s10.v (jE (S8 (jA (jA jD)))) (wn (jL (er (vR (zM (rs1 results62 ⟨s10,rfl,h⟩))))))
 have h:=h.2
 refine kC (O:=(.cells #[(.int .u8 41)] 5)) (fun p=>(Sl.mk (some p) 1 1).v) Kp8 (jG rfl) (by kernel_rfl) (jK (vs:=#[(0,(.int .u8 41))]) (by kernel_rfl) (by kernel_rfl)) ?_
 intro p11 w34 hn9
 have h:=h p11 w34 hn9
 refine ⟨.inr ⟨h.1,hb.kept (Ext.new (F:=None) hn9).keptP⟩,?_⟩
 have h:=h.2
 obtain ⟨hs,hb⟩:=hs.nw hb hn9
 refine lg 7 (slc Kp7 call62 (h.mono ?_))
 rintro e w35 ⟨r11,rfl,hC,hk,h⟩
 refine ⟨_,rfl,.inr ⟨hC,hb.kept hk⟩,?_⟩
 obtain ⟨hs,hb⟩:=hk.hh hs hb
 refine lg 9 ?_
 obtain ⟨s11,w36,hv11,hC,hk,h⟩:=h
 refine sl (v:=s11.v) Kp9 (jG rfl) (by kernel_rfl) (jI (args:=#[r11.v,(Sl.mk (some p11) 1 1).v]) (by kernel_rfl) (fun _=>rfl) hv11) (.inr ⟨hC,hb.kept hk⟩) ?_
 obtain ⟨hs,hb⟩:=hk.hh hs hb
 refine qx 10 s11.v (jE (S8 (jA (jA jD)))) (wn (jL (er (vR (zM (rs1 results62 ⟨s11,rfl,h⟩))))))
 have h:=h.2
 refine kC (O:=(.cells #[(.int .u8 41)] 5)) (fun p=>(Sl.mk (some p) 1 1).v) Kp8 (jG rfl) (by kernel_rfl) (jK (vs:=#[(0,(.int .u8 41))]) (by kernel_rfl) (by kernel_rfl)) ?_
 intro p12 w37 hn10
 have h:=h p12 w37 hn10
 refine ⟨.inr ⟨h.1,hb.kept (Ext.new (F:=None) hn10).keptP⟩,?_⟩
 have h:=h.2
 obtain ⟨hs,hb⟩:=hs.nw hb hn10
 refine lg 2 ?_
 obtain ⟨s12,w38,hv14,hC,hk,h⟩:=h
 refine sl (v:=s12.v) Kp2 (jG rfl) (by kernel_rfl) (jI (args:=#[r9.v,(Sl.mk (some p9) 1 1).v]) (by kernel_rfl) (fun _=>rfl) hv14) (.inr ⟨hC,hb.kept hk⟩) ?_
 obtain ⟨hs,hb⟩:=hk.hh hs hb
 refine lg 7 (slc Kp7 call62 (h.mono ?_))
 rintro e w39 ⟨r12,rfl,hC,hk,h⟩
 refine ⟨_,rfl,.inr ⟨hC,hb.kept hk⟩,?_⟩
 obtain ⟨hs,hb⟩:=hk.hh hs hb
 refine lg 9 ?_
 obtain ⟨s13,w40,hv13,hC,hk,h⟩:=h
 refine sl (v:=s13.v) Kp9 (jG rfl) (by kernel_rfl) (jI (args:=#[r12.v,(Sl.mk (some p12) 1 1).v]) (by kernel_rfl) (fun _=>rfl) hv13) (.inr ⟨hC,hb.kept hk⟩) ?_
 obtain ⟨hs,hb⟩:=hk.hh hs hb
 refine qx 10 s13.v (jE (S8 (jA (jA jD)))) (wn (jL (er (vR (zM (rs1 results62 ⟨s13,rfl,h⟩))))))
 have h:=h.2
 refine kC (O:=(.cells #[(.int .u8 41)] 5)) (fun p=>(Sl.mk (some p) 1 1).v) Kp8 (jG rfl) (by kernel_rfl) (jK (vs:=#[(0,(.int .u8 41))]) (by kernel_rfl) (by kernel_rfl)) ?_
 intro p13 w41 hn13
 have h:=h p13 w41 hn13
 refine ⟨.inr ⟨h.1,hb.kept (Ext.new (F:=None) hn13).keptP⟩,?_⟩
 have h:=h.2
 obtain ⟨hs,hb⟩:=hs.nw hb hn13
 refine lg 1 (kC (O:=(.cells #[(.int .u8 32)] 5)) (fun p=>(Sl.mk (some p) 1 1).v) Kp1 (jG rfl) (by kernel_rfl) (jK (vs:=#[(0,(.int .u8 32))]) (by kernel_rfl) (by kernel_rfl)) ?_)
 intro p14 w42 hn12
 have h:=h p14 w42 hn12
 refine ⟨.inr ⟨h.1,hb.kept (Ext.new (F:=None) hn12).keptP⟩,?_⟩
 have h:=h.2
 obtain ⟨hs,hb⟩:=hs.nw hb hn12
 refine lg 2 ?_
 obtain ⟨s14,w43,hv16,hC,hk,h⟩:=h
 refine sl (v:=s14.v) Kp2 (jG rfl) (by kernel_rfl) (jI (args:=#[r9.v,(Sl.mk (some p14) 1 1).v]) (by kernel_rfl) (fun _=>rfl) hv16) (.inr ⟨hC,hb.kept hk⟩) ?_
 obtain ⟨hs,hb⟩:=hk.hh hs hb
 refine lg 7 (slc Kp7 call62 (h.mono ?_))
 rintro e w44 ⟨r13,rfl,hC,hk,h⟩
 refine ⟨_,rfl,.inr ⟨hC,hb.kept hk⟩,?_⟩
 obtain ⟨hs,hb⟩:=hk.hh hs hb
 refine lg 9 ?_
 obtain ⟨s15,w45,hv15,hC,hk,h⟩:=h
 refine sl (v:=s15.v) Kp9 (jG rfl) (by kernel_rfl) (jI (args:=#[r13.v,(Sl.mk (some p13) 1 1).v]) (by kernel_rfl) (fun _=>rfl) hv15) (.inr ⟨hC,hb.kept hk⟩) ?_
 obtain ⟨hs,hb⟩:=hk.hh hs hb
 refine qx 10 s15.v (jE (S8 (jA (jA jD)))) (wn (jL (er (vR (zM (rs1 results62 ⟨s15,rfl,h⟩))))))
 refine eg (qb (ln (cbr h ?_ ?_)))<;>intro h
 refine rg (q ?_)
 have ⟨h,hs⟩:=hs.hr (h H1 w1)
 refine nw5 (fun p=>(Sl.mk (some p) 1 1).v) hs hb h fun p15 w46 hs hb h=>?_
 obtain ⟨s16,w47,hv22,hk,h⟩:=h
 refine st (v:=s16.v) (jG rfl) (jI (args:=#[b1.v,(Sl.mk (some p15) 1 1).v]) (by kernel_rfl) (fun _=>rfl) hv22) ?_
 obtain ⟨hs,hb⟩:=hk.hh hs hb
 refine q (jC (kW (jL ⟨s16,H1,hm,hs,hb,h⟩)))
 refine eg (qb (ln (cbr h ?_ ?_)))<;>intro h
 refine rg (qb (q3 (xl (isAgg3 _) (hb.d 0 1 gZ)) (q ?_)))
 have ⟨h,hs⟩:=hs.hr (h H1 w1)
 refine sc call116 (h.mono fun e w48 ⟨r14,k,hk,h⟩=>have ⟨hs,hb⟩:=hk.hh hs hb;⟨_,k,?_⟩)
 refine q (jC (kW (jL ⟨r14,H1,hm,hs,hb,h⟩)))
 refine eg (qb (ln (cbr h ?_ ?_)))<;>intro h
 have ⟨h,hs⟩:=hs.hr (h H1 w1)
 obtain ⟨C4,hC,h⟩:=h
 refine dr2 (fun x=>C4 x∧HB H1 x _) [4,8] [] ⟨hC,hb.drew⟩ h hs hb fun w49 hs hb h=>?_
 have hs:=hs.here
 refine qx 0 b1.v Kp0 (qx 1 (vp (some (p1.add 1))) Kp1 (qz 2 (vi aB) Kp2 (fun w' hw'=>(xl (isAgg3 _) (hw'.2.cell 0 1 gZ (by kernel_rfl)))) (qx 3 (vu (IntKind.u64.wrap aB)) Kp3 (qx 5 (vp (some (p1.add 2))) Kp5 (qz 6 (vi aJ) Kp6 (fun w' hw'=>(xl (isAgg3 _) (hw'.2.cell 0 2 gZ (by kernel_rfl)))) (qx 7 (vu (IntKind.u64.wrap aJ)) Kp7 (lg 4 (slc Kp4 call116 (h.mono ?_)))))))))
 rintro e w50 ⟨r15,rfl,hC,hk,h⟩
 refine ⟨_,rfl,.inr ⟨hC,hb.kept hk⟩,?_⟩
 obtain ⟨hs,hb⟩:=hk.hh hs hb
 refine lg 8 (slc Kp8 call116 (h.mono ?_))
 rintro e w51 ⟨r16,rfl,hC,hk,h⟩
 refine ⟨_,rfl,.inr ⟨hC,hb.kept hk⟩,?_⟩
 obtain ⟨hs,hb⟩:=hk.hh hs hb
 refine qx 9 r16.v Kp9 (wn (kW (jL ⟨r16,H1,hm,hs,hb,h⟩)))
 refine eg (qb (ln (cbr h ?_ ?_)))<;>intro h
 have ⟨h,hs⟩:=hs.hr (h H1 w1)
 obtain ⟨C5,hC,h⟩:=h
 refine dr2 (fun x=>C5 x∧HB H1 x _) [4,8] [] ⟨hC,hb.drew⟩ h hs hb fun w52 hs hb h=>?_
 have hs:=hs.here
 refine qx 0 b1.v Kp0 (qx 1 (vp (some (p1.add 1))) Kp1 (qz 2 (vi aB) Kp2 (fun w' hw'=>(xl (isAgg3 _) (hw'.2.cell 0 1 gZ (by kernel_rfl)))) (qx 3 (vu (IntKind.u64.wrap aB)) Kp3 (qx 5 (vp (some (p1.add 2))) Kp5 (qz 6 (vi aJ) Kp6 (fun w' hw'=>(xl (isAgg3 _) (hw'.2.cell 0 2 gZ (by kernel_rfl)))) (qx 7 (vu (IntKind.u64.wrap aJ)) Kp7 (lg 4 (slc Kp4 call116 (h.mono ?_)))))))))
 rintro e w53 ⟨r17,rfl,hC,hk,h⟩
 refine ⟨_,rfl,.inr ⟨hC,hb.kept hk⟩,?_⟩
 obtain ⟨hs,hb⟩:=hk.hh hs hb
 refine lg 8 (slc Kp8 call116 (h.mono ?_))
 rintro e w54 ⟨r18,rfl,hC,hk,h⟩
 refine ⟨_,rfl,.inr ⟨hC,hb.kept hk⟩,?_⟩
 obtain ⟨hs,hb⟩:=hk.hh hs hb
 refine qx 9 r18.v Kp9 (wn (kW (jL ⟨r18,H1,hm,hs,hb,h⟩)))
 refine jF (kW ?_)
 have ⟨h,hs⟩:=hs.hr (h H1 w1)
 refine jL ⟨b1,H1,hm,hs,hb,h⟩
def m_T2 (p1:Option Addr) (t1:Int) (w0:World) (K:ByteArray→WP):Prop :=Calls prog 61 #[(vp p1),(vi t1)] w0 (fun e w1=>∃aC aD aE aF aG bE bF r1,e=.returned (.tuple #[(Ad aC aD aE aF aG bE bF),(vb r1)])∧Kept None w0 w1∧Br (!r1) (∀H1 w3,Hst w0 None w1 H1 w3→K ⟨#[]⟩ w3) (∀H1 w3,Hst w0 None w1 H1 w3→Calls prog 38 #[(vp p1),(vi t1)] w3 (fun e w4=>∃aM aN aO aP aQ aI,e=.returned (Ab aM aN aO aP aQ aI)∧Kept H1 w3 w4∧Calls prog 62 #[Sl.nil.v,(.agg #[(vi aM),(vi aN),(vi aO),(vu aP),(vs aQ),aI.v])] w4 (fun e w5=>∃r2:Sl,e=.returned r2.v∧Kept H1 w4 w5∧∃c1,(convert 54 9 r2.v).run prog w5=.ok (vs c1) w5∧K c1 w5))))
theorem w_T2 (p1 t1 w0 K) (h:m_T2 p1 t1 w0 K):
  Calls prog 18 #[(vp p1),(vi t1)] w0 (fun e w'=>∃r3,e=.returned (vs r3)∧K r3 w'):=by
 refine cw (args:=[(vp p1),(vi t1)]) func18 ntmps18 ?_
 obtain ⟨hs,hb⟩:=st0 w0
 refine eg (q (ln (jB (eg (qb (sc call61 (h.mono fun e w1 ⟨aC,aD,aE,aF,aG,bE,bF,r1,k,hk,h⟩=>have ⟨hs,hb⟩:=hk.hh hs hb;⟨_,k,?_⟩)))))))
 refine qc (nw3 (Aj 0 0 0 0 0 0) 103 hs hb (jW (zeroValue103 _) rfl) fun p2 w2 H1 hs hb=>sbx 0 (Ac aC aD aE aF aG bE bF) (sizeOf103 _) hs hb gZ fun w3 hs hb=>q (ln (eg (qb (ln (cbr h ?_ ?_))))))<;>intro h
 refine eg (q (ln (er (zM ?_))))
 have ⟨h,hs⟩:=hs.hr (h H1 w3)
 refine rs1 results18 ⟨⟨#[]⟩,rfl,h⟩
 refine jF (jL (eg (qb ?_)))
 have ⟨h,hs⟩:=hs.hr (h H1 w3)
 refine sc call38 (h.mono fun e w4 ⟨aM,aN,aO,aP,aQ,aI,k,hk,h⟩=>have ⟨hs,hb⟩:=hk.hh hs hb;⟨_,k,?_⟩)
 refine sc call62 (h.mono fun e w5 ⟨r2,k,hk,h⟩=>have ⟨hs,hb⟩:=hk.hh hs hb;⟨_,k,?_⟩)
 obtain ⟨c1,hv1,h⟩:=h
 refine q2 (vs c1) (vF (by kernel_rfl) hv1) (q (ln (er (rs1 results18 ⟨c1,rfl,h⟩))))
def m_U2 (aA aB:Int) (aJ aK:Int) (aL:ByteArray) (aH:Sl) (w0:World) (K:ByteArray→Int→WP):Prop :=∀H1 w1,Hst w0 None w0 H1 w1→∃C1:WP,C1 w1.drew∧∀w2,w2=w1.drew→Calls prog 11 #[] w2 (fun e w3=>∃r1,e=.returned (vp r1)∧C1 w3∧Kept H1 w2 w3∧Calls prog 13 #[(vp r1),(.agg #[(vi aA),(vi aB),(vi aJ),(vu aK),(vs aL),aH.v])] w3 (fun e w4=>∃r2 r3,e=.returned (.tuple #[(vi r2),(vi r3)])∧C1 w4∧Kept H1 w3 w4∧Br (r3 != 0) (K ⟨#[]⟩ r3 w4) (Calls prog 62 #[Sl.nil.v,(.agg #[(vi aA),(vi aB),(vi aJ),(vu aK),(vs aL),aH.v])] w4 (fun e w5=>∃r4:Sl,e=.returned r4.v∧Kept H1 w4 w5∧∃c1,(convert 54 9 r4.v).run prog w5=.ok (vs c1) w5∧K c1 0 w5))))
theorem w_U2 (aA aB aJ aK aL aH w0 K) (h:m_U2 aA aB aJ aK aL aH w0 K):
  Calls prog 52 #[(.agg #[(vi aA),(vi aB),(vi aJ),(vu aK),(vs aL),aH.v])] w0 (fun e w'=>∃r5 r6,e=.returned (.tuple #[(vs r5),(vi r6)])∧K r5 r6 w'):=by
 refine cw (args:=[(Ab aA aB aJ aK aL aH)]) func52 ntmps52 ?_
 obtain ⟨hs,hb⟩:=st0 w0
 refine eg (nw3 (Aa aA aB aJ aK aL aH) 28 hs hb xb fun p1 w1 H1 hs hb=>qb (ln (jB (jB ?_))))
 have ⟨h,hs⟩:=hs.hr (h H1 w1)
 obtain ⟨C1,hC,h⟩:=h
 refine dr2 (fun x=>C1 x∧HB H1 x _) [0,2] [] ⟨hC,hb.drew⟩ h hs hb fun w2 hs hb h=>?_
 have hs:=hs.here
 refine qz 1 (Ab aA aB aJ aK aL aH) Kp1 (fun w' hw'=>(xa p1 (Aa aA aB aJ aK aL aH) (isAgg28 _) (sizeOf28 _) (hw'.2.r0 0 6 gZ))) (lg 0 (slc Kp0 call11 (h.mono ?_)))
 rintro e w3 ⟨r1,rfl,hC,hk,h⟩
 refine ⟨_,rfl,.inr ⟨hC,hb.kept hk⟩,?_⟩
 obtain ⟨hs,hb⟩:=hk.hh hs hb
 refine lg 2 (slc Kp2 call13 (h.mono ?_))
 rintro e w4 ⟨r2,r3,rfl,hC,hk,h⟩
 refine ⟨_,rfl,.inr ⟨hC,hb.kept hk⟩,?_⟩
 obtain ⟨hs,hb⟩:=hk.hh hs hb
 refine qx 3 (.tuple #[(vi r2),(vi r3)]) Kp3 (qx 4 (vi r2) Kp4 (qx 5 (vi r3) Kp5 (qx 6 (vi r2) Kp6 (qx 7 (vi r3) Kp7 (wn (jL (eg (qb (jC (jL (cbr h ?_ ?_)))))))))))<;>intro h
 refine eg (qc (ln (er (zM (uE (.inl rfl) results52 (v:=ve) (by kernel_rfl) (v':=(vi r3)) (by kernel_rfl) ⟨⟨#[]⟩,r3,rfl,h⟩)))))
 refine jF (jL (eg (q2 (Ab aA aB aJ aK aL aH) (xa p1 (Aa aA aB aJ aK aL aH) (isAgg28 _) (sizeOf28 _) (hb.r0 0 6 gZ)) (sc call62 (h.mono fun e w5 ⟨r4,k,hk,h⟩=>have ⟨hs,hb⟩:=hk.hh hs hb;⟨_,k,?_⟩)))))
 obtain ⟨c1,hv1,h⟩:=h
 refine q2 (vs c1) (vF (by kernel_rfl) hv1) (qb (ln (er (uE (.inl rfl) results52 (v:=(vs c1)) (by kernel_rfl) (v':=(vi 0)) (by kernel_rfl) ⟨c1,0,rfl,h⟩))))
end Go.Proofs
end
section
open Go Go.SE
namespace Go.Proofs
open Tryz
attribute [local irreducible] Calls
abbrev Spk (w:World) (a:Addr) (x:ByteArray) (i n:Nat):Prop:=Box w a [.string x,.int .i64 (i:Int),.int .i64 (n:Int)] 167
abbrev bts (x:ByteArray):List UInt8:=x.data.toList
def flt (e:Int) (i:Nat):List PanicEntry:=[{ v:=.iface 164 (.agg #[.int .i64 e,.int .i64 (i:Int)]),recovered:=false }]
theorem kR (x:ByteArray):(bts x).length=x.size:=by rw [bts,Array.length_toList];rfl
theorem yQ (x:ByteArray) (n:Nat) (h:n<(bts x).length) (w:World):(Instr.index 9 (.string x) (.int .i64 (n:Int))).run prog w=.ok (.int .u8 ((bts x)[n].toNat:Int)) w:=jMC x n h w
def jAX {α:Type} (w0:World) (a:Addr) (x:ByteArray) (n:Nat) (val:α→Value) (e:Ending) (w':World):Sp.Rr α→Prop
 | .ok v j=>e=.returned (val v)∧Spk w' a x j n∧Ext (·=a.block) w0 w'
 | .no er i=>e=.panicked (flt er i)∧Ext (·=a.block) w0 w'
theorem jAX.pre {α:Type} {w0 w1 w':World} {a:Addr} {x:ByteArray} {n:Nat} {val:α→Value} {e:Ending} {r:Sp.Rr α} (E:Ext (·=a.block) w0 w1) (h:jAX w1 a x n val e w' r):jAX w0 a x n val e w' r:=by
 cases r with
 | ok v j=>exact ⟨h.1,h.2.1,E.trans h.2.2⟩
 | no er i=>exact ⟨h.1,E.trans h.2⟩
section
variable {w w':World} {a:Addr} {x:ByteArray} {i n:Nat}
theorem zQ (h:Spk w a x i n):w.cell? (a.add 1)=some (.int .i64 (i:Int)):=h.cell (i:=1) rfl
theorem spk_n (h:Spk w a x i n):w.cell? (a.add 2)=some (.int .i64 (n:Int)):=h.cell (i:=2) rfl
theorem kY (h:Spk w a x i n) (k:Nat):Spk (w.setCell (a.add 1) (.int .i64 (k:Int))) a x k n:=h.set 1 _
theorem jJA (h:Spk w a x i n) (k:Nat):Spk (w.setCell (a.add 2) (.int .i64 (k:Int))) a x i k:=h.set 2 _
theorem vE {k:Nat} {v:Value}:Ext (·=a.block) w (w.setCell (a.add k) v):=(Ext.setCell _ _).mono (fun i _ e=>by rw [zN] at e;exact e)
theorem kH {k m:Nat} (h:k≤m) (hm:m≤100000000):IntKind.i64.wrap ((k:Int)+1)=((k+1:Nat):Int):=by rw [IntWalk.i64_in _ (by omega)];omega
end
theorem kJ (r:Option Addr) (e:Int) (i:Int) (w0:World):Calls prog 106 #[.pointer r,.int .i64 e,.int .i64 i] w0 (fun e' w'=>e'=.panicked [{ v:=.iface 164 (.agg #[.int .i64 e,.int .i64 i]),recovered:=false }]∧w'=w0):=by
 refine (w_L2 r e i w0 (fun o w'=>o=some [{ v:=.iface 164 (.agg #[.int .i64 e,.int .i64 i]),recovered:=false }]∧w'=w0) ?_).mono ?_
 ·unfold m_L2;exact ⟨rfl,rfl⟩
 ·rintro e w' (⟨rfl,h,_⟩ | ⟨ch,rfl,h,rfl⟩)
  ·cases h
  ·cases h;exact ⟨rfl,rfl⟩
section
variable (a:Addr) (x:ByteArray) (i n:Nat) (w0:World) (h:Spk w0 a x i n) (hi:i≤(bts x).length)
include h hi
theorem tO:Calls prog 146 #[.pointer (some a)] w0 (fun e w'=>(∃c,(bts x)[i]?=some c∧e=.returned (.int .u8 (c.toNat:Int))∧Pure w0 w')∨((bts x)[i]?=none∧e=.panicked (flt 3 i)∧Pure w0 w')):=by
 refine (w_M2 (some a) w0 (fun o r w'=>(∃c,(bts x)[i]?=some c∧o=none∧r=(c.toNat:Int)∧Pure w0 w')∨((bts x)[i]?=none∧o=some (flt 3 i)∧Pure w0 w')) ?_).mono ?_
 ·unfold m_M2;have hl:=kR x;refine ⟨a,rfl,fun w1 hs=>?_⟩;have h1:=h.pure hs.first;refine ⟨_,zQ h1,a,rfl,x,h1.cell0,fun hc=>?_,fun hc=>?_⟩
  ·have hc:i=(bts x).length:=by have:=beq_iff_eq.1 hc;omega
   refine ⟨a,rfl,_,zQ h1,?_⟩;refine (kJ (some a) 3 i w1).mono ?_;rintro _ w2 ⟨rfl,rfl⟩;exact .inr ⟨_,rfl,.inr ⟨List.getElem?_eq_none (by omega),rfl,hs.first⟩⟩
  ·have hc:i<(bts x).length:=by have:=beq_eq_false_iff_ne.1 hc;omega
   refine ⟨a,rfl,fun w4 hs4=>?_⟩;have E4:=hs.first.hst hs4;have h4:=h.pure E4;refine ⟨x,h4.cell0,a,rfl,_,zQ h4,_,yQ x i hc w4,.inl ⟨_,List.getElem?_eq_getElem hc,rfl,rfl,E4⟩⟩
 ·rintro e w' (⟨r,rfl,hh⟩ | ⟨ch,rfl,hh⟩)
  ·rcases hh with ⟨c,h1,_,rfl,h2⟩ | ⟨_,hh,_⟩
   ·exact .inl ⟨c,h1,rfl,h2⟩
   ·cases hh
  ·rcases hh with ⟨c,_,hh,_⟩ | ⟨h1,hh,h2⟩
   ·cases hh
   ·cases hh;exact .inr ⟨h1,rfl,h2⟩
theorem gF (c:Nat) (hc:(bts x).length≤10000000):Calls prog 150 #[.pointer (some a),.int .u8 (c:Int)] w0 (fun e w'=>jAX w0 a x n (fun _=>.tuple #[]) e w' (Sp.kA (bts x) c i)):=by
 refine (w_O2 (some a) c w0 (fun o w'=>jAX w0 a x n (fun _=>.tuple #[]) (match o with | none=>.returned (.tuple #[]) | some ch=>.panicked ch) w' (Sp.kA (bts x) c i)) ?_).mono ?_
 ·unfold m_O2;refine (tO a x i n w0 h hi).mono ?_;unfold Sp.kA;rintro e w1 (⟨d,hd,rfl,E1⟩ | ⟨hd,rfl,E1⟩)
  ·rw [hd];have h1:=h.pure E1;refine .inl ⟨_,rfl,fun hc=>⟨a,rfl,_,zQ h1,?_⟩,fun hc=>⟨a,rfl,_,zQ h1,a,rfl,h1.canW (i:=1) (by simp),?_⟩⟩
   ·refine (kJ (some a) 60 i w1).mono ?_;rintro _ w2 ⟨rfl,rfl⟩;refine .inr ⟨_,rfl,?_⟩;simp only;rw [if_neg (by have:=bne_iff_ne.1 hc;omega)];exact ⟨rfl,E1.pure⟩
   ·rintro w4 rfl;simp only;rw [if_pos (by have:(d.toNat:Int)=(c:Int):=(by simpa using hc);omega),kH hi (by omega)];exact ⟨rfl,kY h1 (i+1),E1.pure.trans vE⟩
  ·rw [hd];exact .inr ⟨_,rfl,rfl,E1.pure⟩
 ·rintro e w' (⟨rfl,hh⟩ | ⟨ch,rfl,hh⟩) <;> exact hh
theorem jIL (hc:(bts x).length≤10000000):Calls prog 204 #[.pointer (some a)] w0 (fun e w'=>jAX w0 a x n (fun v:Nat=>.int .u8 (v:Int)) e w' (Sp.vC (bts x) i)):=by
 refine (w_P2 (some a) w0 (fun o r w'=>jAX w0 a x n (fun v:Nat=>.int .u8 (v:Int)) (match o with | none=>.returned (.int .u8 r) | some ch=>.panicked ch) w' (Sp.vC (bts x) i)) ?_).mono ?_
 ·unfold m_P2;refine (tO a x i n w0 h hi).mono ?_;unfold Sp.vC;rintro e w1 (⟨d,hd,rfl,E1⟩ | ⟨hd,rfl,E1⟩)
  ·rw [hd];have h1:=h.pure E1;have hlt:=d.toNat_lt;have wr:∀k:Nat,k≤d.toNat→IntKind.u8.wrap ((d.toNat:Int) - (k:Int))=((d.toNat - k:Nat):Int):=fun k hk=>by
    rw [show (d.toNat:Int) - (k:Int)=((d.toNat - k:Nat):Int) by omega];simp [IntKind.wrap,IntKind.bits,IntKind.signed];omega
   have fin:∀k v:Nat,k≤d.toNat→Sp.jDB d.toNat=some v→v=d.toNat - k→∀w5,w5=w1.setCell (a.add 1) (.int .i64 (IntKind.i64.wrap ((i:Int)+1)))→jAX w0 a x n (fun v:Nat=>.int .u8 (v:Int)) (.returned (.int .u8 (IntKind.u8.wrap ((d.toNat:Int) - (k:Int))))) w5 (match Sp.jDB d.toNat with | none=>.no 60 i | some v=>.ok v (i+1)):=fun k v hk hv e w5 hw=>by
    rw [hv,hw,wr k hk,kH hi (by omega)];exact ⟨by rw [e],kY h1 (i+1),E1.pure.trans vE⟩
   refine .inl ⟨_,rfl,fun hc=>⟨a,rfl,_,zQ h1,a,rfl,h1.canW (i:=1) (by simp),fin 48 _ ?_ ?_ rfl⟩,fun h9=>⟨fun hc=>⟨a,rfl,_,zQ h1,a,rfl,h1.canW (i:=1) (by simp),fin 87 _ ?_ ?_ rfl⟩,fun hf=>⟨fun hc=>⟨a,rfl,_,zQ h1,a,rfl,h1.canW (i:=1) (by simp),fin 55 _ ?_ ?_ rfl⟩,fun hF=>⟨a,rfl,_,zQ h1,?_⟩⟩⟩⟩
   ·simp at hc;omega
   ·simp at hc;unfold Sp.jDB;rw [if_pos (by omega)]
   ·simp at hc;omega
   ·simp at hc h9;unfold Sp.jDB;rw [if_neg (by omega),if_pos (by omega)]
   ·simp at hc;omega
   ·simp at hc h9 hf;unfold Sp.jDB;rw [if_neg (by omega),if_neg (by omega),if_pos (by omega)]
   ·refine (kJ (some a) 60 i w1).mono ?_;rintro _ w2 ⟨rfl,rfl⟩;refine .inr ⟨_,rfl,?_⟩;have:Sp.jDB d.toNat=none:=by simp at h9 hf hF;unfold Sp.jDB;rw [if_neg (by omega),if_neg (by omega),if_neg (by omega)]
    simp only [this];exact ⟨rfl,E1.pure⟩
  ·rw [hd];exact .inr ⟨_,rfl,rfl,E1.pure⟩
 ·rintro e w' (⟨r,rfl,hh⟩ | ⟨ch,rfl,hh⟩) <;> exact hh
theorem tN (hc:(bts x).length≤10000000):Calls prog 145 #[.pointer (some a)] w0 (fun e w'=>e=.returned (.tuple #[])∧Spk w' a x (Sp.jU (bts x) i) n∧Ext (·=a.block) w0 w'):=by
 refine w_I1 (some a) w0 (fun w'=>Spk w' a x (Sp.jU (bts x) i) n∧Ext (·=a.block) w0 w') ?_;unfold m_I1;have hl:=kR x;have hbb:=Sp.kU hi;refine ⟨fun _ w=>∃j:Nat,i≤j∧j≤(bts x).length∧Sp.jU (bts x) j=Sp.jU (bts x) i∧Spk w a x j n∧Ext (·=a.block) w0 w,fun w=>match w.cell? (a.add 1) with | some (.int _ k)=>((bts x).length - k.toNat) | _=>0,⟨i,Nat.le_refl _,hi,rfl,h,Ext.refl _⟩,?_⟩;rintro Hl wl hsl ⟨j,hij,hj,he,hR,hE⟩;unfold m_I1_l1;refine ⟨a,rfl,fun w1 hs1=>?_⟩;have hna:¬ Hl a.block:=fun hb=>by have:=hsl.old _ hb;have:=h.lt;omega
 have hR1:=hR.ext hs1.ext hna;have hE1:=hE.trans' hs1.ext (fun b hb hh=>by have:=hsl.old _ hh;omega);have done:Sp.jU (bts x) j=j→Spk w1 a x (Sp.jU (bts x) i) n∧Ext (·=a.block) w0 w1:=fun e=>by
  rw [← he,e];exact ⟨hR1,hE1⟩
 refine ⟨_,zQ hR1,a,rfl,x,hR1.cell0,fun hc=>?_,fun hc=>done (Sp.qG (by have:=of_decide_eq_false hc;omega))⟩;have hlt:j<(bts x).length:=by have:=of_decide_eq_true hc;omega
 refine ⟨a,rfl,x,hR1.cell0,a,rfl,_,zQ hR1,_,yQ x j hlt w1,fun hb=>?_,fun hb=>done (Sp.xC hlt (by have:=beq_eq_false_iff_ne.1 hb;omega))⟩;have hb:(bts x)[j].toNat=32:=by have:=beq_iff_eq.1 hb;omega
 refine ⟨a,rfl,_,zQ hR1,a,rfl,hR1.canW (i:=1) (by simp),?_,?_⟩
 ·exact hna
 ·rintro w2 rfl;rw [kH (show j≤(bts x).length by omega) (by omega)];refine ⟨⟨j+1,by omega,hlt,by rw [← he,Sp.xD hlt hb],kY hR1 (j+1),hE1.trans vE⟩,?_⟩;show (match (w1.setCell (a.add 1) (.int .i64 ((j+1:Nat):Int))).cell? (a.add 1) with | some (.int _ k)=>((bts x).length - k.toNat) | _=>0)<(match wl.cell? (a.add 1) with | some (.int _ k)=>((bts x).length - k.toNat) | _=>0);rw [zQ (kY hR1 (j+1)),zQ hR];simp only;omega
end
structure AppO (w0:World) (H:NP) (w:World) (b r:Sl) (acc:List UInt8):Prop where
 rows:Rws w 5 1 r (byr acc)
 nh:∀k,r.blk k→¬ H k
 ext:Ext b.blk w0 w
 new:∀k,r.blk k→b.blk k∨w0.heap.size≤k
 oH:∀k,H k→w0.heap.size≤k∧k<w.heap.size
section
variable {w0 w w':World} {H H':NP} {b r:Sl} {acc:List UInt8}
theorem AppO.hst (h:AppO w0 H w b r acc) (hs:Hst w0 H w H' w'):AppO w0 H' w' b r acc:=by
 have hd:=hs.disj (G:=r.blk) (fun k hk=>⟨h.rows.lt hk,h.nh k hk⟩);exact ⟨h.rows.ext hs.ext hd,hd,h.ext.trans' hs.ext (fun k hk hh=>by have:=hs.here.old k hh;omega),h.new,fun k hk=>⟨hs.here.old k hk,hs.here.lt k hk⟩⟩
theorem AppO.pure (h:AppO w0 H w b r acc) (E:Pure w w'):AppO w0 H w' b r acc :=
 ⟨h.rows.pure E,h.nh,h.ext.thenPure E,h.new,fun k hk=>⟨(h.oH k hk).1,by have:=(h.oH k hk).2;have:=E.size;omega⟩⟩
theorem AppO.done (h:AppO w0 H w b r acc):AppR w0 b r acc w:=⟨h.rows,h.ext,h.new⟩
theorem AppO.start (hR:Rws w0 5 1 b (byr acc)):AppO w0 None w0 b b acc:=⟨hR,fun _ _ h=>h,Ext.refl _,fun k hk=>.inl hk,fun k hk=>hk.elim⟩
theorem AppO.call {r2:Sl} {acc2:List UInt8} (h:AppO w0 H w b r acc) (k:AppR w r r2 acc2 w'):Kept H w w'∧AppO w0 H w' b r2 acc2:=by
 have z:=h.ext.size;have z2:=k.ext.size;refine ⟨k.ext.kept (fun i hi hr=>h.nh i hr hi),k.rows,fun i hi hh=>?_,h.ext.trans' k.ext (fun i hi hr=>(h.new i hr).elim id (fun h=>by omega)),fun i hi=>?_,fun i hi=>⟨(h.oH i hi).1,by have:=(h.oH i hi).2;omega⟩⟩
 ·rcases k.new i hi with h1 | h1
  ·exact h.nh i h1 hh
  ·have:=(h.oH i hh).2;omega
 ·rcases k.new i hi with h1 | h1
  ·exact h.new i h1
  ·exact .inr (by omega)
theorem AppO.app (h:AppO w0 H w b r acc) (l:List UInt8) (hne:l≠[]) (hl:acc.length+l.length≤200000000) {p:Addr} {w1:World} (hn:New w (.cells (l.map fun c=>Value.int .u8 (c.toNat:Int)).toArray 5) p w1) :
  ∃s w2,(Builtin.append_ #[54,54] 54 #[r.v,(Sl.mk (some p) l.length l.length).v]).run prog w1=.ok s.v w2∧Kept H w1 w2∧AppO w0 H w2 b s (acc++l):=by
 have E1:Pure w w1:=Ext.new hn
 have h1:=h.pure E1
 obtain ⟨s,w2,hr,R,X,o⟩:=h1.rows.appends (P:=prog) (ty:=54) (qs:=byr l) (c:=l.length) uK (by rw [gK];exact (Box.of_new hn).row) (gJ l) (jAR l) (by intro e;exact hne (by simpa [byr] using e)) (by rw [zG,zG];omega) (by rw [zG,zG];simp [maxLen];omega)
 rw [zG] at hr
 obtain ⟨k1,k2⟩:=h1.call (r2:=s) (acc2:=acc++l) ⟨by simpa [byr] using R,X,o⟩
 exact ⟨s,w2,hr,k1,k2⟩
end
theorem jGC (b:Sl) (acc:List UInt8) (c:UInt8) (n:Nat) (hn:n<18446744073709551616) (w0:World) (hR:Rws w0 5 1 b (byr acc)) (hl:acc.length≤90000000) (ht:∀w,Ext b.blk w0 w→Pow w) :
  Calls prog 116 #[b.v,.int .u8 (c.toNat:Int),.int .u64 (n:Int)] w0 (fun e w'=>∃r:Sl,e=.returned r.v∧AppR w0 b r (acc++c :: Lib.decDigits n) w'):=by
 refine w_S2 _ _ _ w0 (fun r w'=>AppR w0 b r (acc++c :: Lib.decDigits n) w') ?_
 unfold m_S2
 intro p1 w1 n1
 obtain ⟨s,w2,hr,_,A⟩:=(AppO.start hR).app [c] (by simp) (by simp only [List.length_append,List.length_cons,List.length_nil];omega) n1
 refine ⟨s,w2,hr,?_⟩
 refine (jCW s (acc++[c]) n hn w2 A.rows (by simp;omega) (ht w2 A.ext)).mono ?_
 rintro _ w3 ⟨r1,rfl,hA⟩
 have:=(A.call hA).2.done
 exact ⟨r1,rfl,by simpa using this⟩
theorem jDU (n:Nat) (h:n<16) (w:World):(Instr.index 9 (.string (⟨#[48,49,50,51,52,53,54,55,56,57,97,98,99,100,101,102]⟩:ByteArray)) (.int .u8 (n:Int))).run prog w=.ok (.int .u8 ((Sp.jAW n).toNat:Int)) w:=by
 have hn:n<(⟨#[48,49,50,51,52,53,54,55,56,57,97,98,99,100,101,102]⟩:ByteArray).size:=h;rw [run_index_string w _ _ _ _ underlying9,dif_pos ⟨by omega,by show (n:Int)<16;omega⟩];have he:∀m:Fin 16,((⟨#[48,49,50,51,52,53,54,55,56,57,97,98,99,100,101,102]⟩:ByteArray).data[m.val]!)=Sp.jAW m.val:=by decide +kernel
 have:=he ⟨n,h⟩;simp only at this;rw [← this];simp only [Int.toNat_natCast];rw [getElem!_pos _ n (by exact h)];rfl
theorem jGB (b:Sl) (acc:List UInt8) (x:ByteArray) (w0:World) (hR:Rws w0 5 1 b (byr acc)) (hl:acc.length≤90000000) (hx:x.size≤1000000) :
  Calls prog 117 #[b.v,.string x] w0 (fun e w'=>∃r:Sl,e=.returned r.v∧AppR w0 b r (acc++Sp.jAV (bts x)) w'):=by
 refine w_J1 _ _ w0 (fun r w'=>AppR w0 b r (acc++Sp.jAV (bts x)) w') ?_
 unfold m_J1
 have hbl:=kR x
 intro p1 w1 n1
 obtain ⟨s,w2,hr,k2,A⟩:=(AppO.start hR).app [34] (by simp) (by simp;omega) n1
 refine ⟨s,w2,hr,k2,?_⟩
 refine ⟨fun b2 i H w=>∃j:Nat,i=j∧j≤(bts x).length∧AppO w0 H w b b2 (acc++34 :: ((bts x).take j).flatMap Sp.qEsc),fun _ i _=>(((bts x).length:Int) - i).toNat,⟨0,rfl,Nat.zero_le _,by simpa using A⟩,?_⟩
 rintro b2 _ Hl wl hsl ⟨j,rfl,hj,O⟩
 unfold m_J1_l1
 have hlen:((((bts x).take j).flatMap Sp.qEsc)).length≤4000000:=by
  have:=Sp.yB ((bts x).take j);rw [List.length_take] at this;omega
 have step : ∀ {s : Sl} {H : NP} {w : World} (hlt : j < (bts x).length), AppO w0 H w b s ((acc ++ 34 :: ((bts x).take j).flatMap Sp.qEsc) ++ Sp.qEsc (bts x)[j]) →
   (fun (b2:Sl) (i:Int) (H:NP) (w:World)=>(∃j:Nat,i=j∧j≤(bts x).length∧AppO w0 H w b b2 (acc++34 :: ((bts x).take j).flatMap Sp.qEsc))∧(fun (_:Sl) i (_:World)=>(((bts x).length:Int) - i).toNat) b2 i w<(fun (_:Sl) i (_:World)=>(((bts x).length:Int) - i).toNat) b2 (j:Int) wl) s (IntKind.i64.wrap ((j:Int)+1)) H w:=fun {s H w} hlt A=>by
  rw [kX hlt (by omega)]
  refine ⟨⟨j+1,rfl,hlt,?_⟩,gD hlt⟩
  rw [List.take_succ_eq_append_getElem hlt,List.flatMap_append]
  simpa using A
 refine ⟨fun hlt=>?_,fun hlt=>?_⟩
 ·have hlt:j<(bts x).length:=by have:=of_decide_eq_true hlt;omega
  refine ⟨_,yQ x j hlt wl,?_⟩
  generalize hc:(bts x)[j]=c at *
  have hc256:=c.toNat_lt
  refine ⟨fun h1=>fun H2 w4 hs4=>?_,fun h1=>⟨fun h2=>fun H5 w9 hs9=>?_,fun h2=>fun H5 w9 hs9=>?_⟩⟩
  ·have h1:c.toNat=34∨c.toNat=92:=by simp at h1;omega
   have O4:=O.hst hs4
   intro p2 w6 n6
   obtain ⟨s3,w7,hr7,k7,A7⟩:=O4.app [92,c] (by simp) (by simp only [List.length_append,List.length_cons,List.length_nil];omega) n6
   refine ⟨s3,w7,hr7,k7,step hlt ?_⟩
   rw [hc,show Sp.qEsc c=[92,c] by unfold Sp.qEsc;rw [if_pos h1]];exact A7
  ·have h1:¬ (c.toNat=34∨c.toNat=92):=by simp at h1;omega
   have h2:c.toNat<32∨126<c.toNat:=by simp at h2;omega
   have O9:=(O.hst hs9).pure (Ext.drew w9)
   refine ⟨fun _=>True,trivial,?_⟩
   rintro _ rfl
   refine ⟨_,jJF c.toNat _,_,jDU (c.toNat / 16) (by omega) _,_,jHJ c.toNat hc256 _,_,jDU (c.toNat % 16) (by omega) _,?_⟩
   intro p3 w12 n12
   obtain ⟨s4,w13,hr13,k13,A13⟩:=O9.app [92,120,Sp.jAW (c.toNat / 16),Sp.jAW (c.toNat % 16)] (by simp) (by simp only [List.length_append,List.length_cons,List.length_nil];omega) n12
   refine ⟨trivial,s4,w13,hr13,trivial,k13,step hlt ?_⟩
   rw [hc,show Sp.qEsc c=[92,120,Sp.jAW (c.toNat / 16),Sp.jAW (c.toNat % 16)] by unfold Sp.qEsc;rw [if_neg h1,if_pos h2]];exact A13
  ·have h1:¬ (c.toNat=34∨c.toNat=92):=by simp at h1;omega
   have h2:¬ (c.toNat<32∨126<c.toNat):=by simp at h2;omega
   have O9:=O.hst hs9
   intro p4 w14 n14
   obtain ⟨s5,w15,hr15,k15,A15⟩:=O9.app [c] (by simp) (by simp only [List.length_append,List.length_cons,List.length_nil];omega) n14
   refine ⟨s5,w15,hr15,k15,step hlt ?_⟩
   rw [hc,show Sp.qEsc c=[c] by unfold Sp.qEsc;rw [if_neg h1,if_neg h2]];exact A15
 ·have:j=(bts x).length:=by have:=of_decide_eq_false hlt;omega
  subst this
  rw [List.take_length] at O hlen
  intro p5 w16 n16
  obtain ⟨s6,w17,hr17,k17,A17⟩:=O.app [34] (by simp) (by simp only [List.length_append,List.length_cons,List.length_nil];omega) n16
  refine ⟨s6,w17,hr17,k17,?_⟩
  have:=A17.done
  simpa [Sp.jAV] using this
end Go.Proofs
end
section
open Go Go.SE
open Go.IntKind renaming i64 → q6
namespace Go.Proofs
set_option maxRecDepth 100000
set_option maxHeartbeats 4000000
attribute [local irreducible] wpL wpX opE wpE Calls
end Go.Proofs
end
section
open Go Go.SE
namespace Go.Proofs
attribute [local irreducible] Calls
section
variable {S:NP} (w:World) (hS:∀b,w.heap.size≤b→S b)
include hS
end
end Go.Proofs
end
section
open Go Go.SE
namespace Go.Sp
end Go.Sp
end
section
namespace Go.Sp
theorem jEA (ts:List Tree) (t:Tree):cntAll (ts++[t])=cntAll ts+cnt t:=by
 induction ts with
 | nil=>simp [cntAll]
 | cons a ts ih=>rw [List.cons_append,cntAll,cntAll,ih];omega
theorem jHU (L:Pool) (n:Node):(make L n).2.2.length≤L.length+1:=by
 rcases oE L n with e | ⟨_,e⟩ <;> rw [e] <;> simp
end Go.Sp
end
section
open Go Go.SE
namespace Go.Sp
theorem jAL {L:Pool} {n:Node} (hp:jX n=0) (ha:(shapeOf n.kind).kids<1→n.a=0) (hb:(shapeOf n.kind).kids<2→n.b=0) (hf:jV (shapeOf n.kind) n=0) (hk:∀k∈jS n,inP L k=true) :
  check L n=if 1+((jS n).map (sizeOf L)).sum>4096∨(jS n).foldl (fun d t=>max d (depthOf L t)) 0+1>64 then (0,0,52) else (1+((jS n).map (sizeOf L)).sum,(jS n).foldl (fun d t=>max d (depthOf L t)) 0+1,0):=by
 unfold check
 simp only
 rw [if_neg (by simp [hp]),if_neg (fun h=>?_),if_neg (by simp [hf]),if_neg (fun h=>?_)]
 ·obtain ⟨k,hk1,hk2⟩:=List.any_eq_true.1 h
  rw [hk k hk1] at hk2;cases hk2
 ·rw [Bool.or_eq_true,Bool.and_eq_true,Bool.and_eq_true] at h
  rcases h with ⟨h1,h2⟩ | ⟨h1,h2⟩
  ·rw [ha (of_decide_eq_true h1)] at h2;simp at h2
  ·rw [hb (of_decide_eq_true h1)] at h2;simp at h2
theorem mk_ok {L:Pool} {n:Node} (hW:Wf L) (hl:L.length<65536) (hp:jX n=0) (ha:(shapeOf n.kind).kids<1→n.a=0) (hb:(shapeOf n.kind).kids<2→n.b=0) (hf:jV (shapeOf n.kind) n=0) (hk:∀k∈jS n,inP L k=true)
  {sz d:Int} (hs:1+((jS n).map (sizeOf L)).sum=sz) (hd:(jS n).foldl (fun d t=>max d (depthOf L t)) 0+1=d) :
  ((sz>4096∨d>64)→(make L n).2.1=52)∧(¬ (sz>4096∨d>64)→∃r M,make L n=(r,0,L++M)∧inP (L++M) r=true∧jJ (L++M) r=n∧Wf (L++M)∧sizeOf (L++M) r=sz∧depthOf (L++M) r=d∧(L++M).length≤L.length+1):=by
 have hc:=jAL hp ha hb hf hk
 rw [hs,hd] at hc
 refine ⟨fun h=>?_,fun h=>?_⟩
 ·rw [if_pos h] at hc
  unfold make;simp only [hc];rfl
 ·rw [if_neg h] at hc
  have h0:(make L n).2.1=0:=by
   unfold make;simp only [hc];rw [if_neg (by simp)];split
   ·rfl
   ·rw [if_neg (by omega)]
  obtain ⟨M,e⟩:=jEO L n
  obtain ⟨m1,m2,_⟩:=jBQ h0
  have hw:=jAG hW n
  have hfew:=jHU L n
  rw [e] at m1 m2 hw hfew
  refine ⟨(make L n).1,M,by rw [← e,← h0],m1,m2,hw,?_,?_,hfew⟩
  ·rw [(hw.node m1).2.2.2.2.2.1,m2,← hs]
   congr 2
   exact List.map_congr_left (fun k hk'=>gR (hk k hk'))
  ·rw [(hw.node m1).2.2.2.2.2.2,m2,← hd]
   congr 1
   have:∀(l:List Int) (d:Int),(∀k∈l,inP L k=true)→l.foldl (fun d k=>max d (depthOf (L++M) k)) d=l.foldl (fun d k=>max d (depthOf L k)) d:=by
    intro l;induction l with
    | nil=>intro d _;rfl
    | cons a l ih=>intro d hh;simp only [List.foldl_cons];rw [uV (hh a (by simp))];exact ih _ (fun k hk=>hh k (by simp [hk]))
   exact this _ _ hk
theorem jJV {L:Pool} (hW:Wf L) {t:Int} (ht:inP L t=true):make L (jJ L t)=(t,0,L):=by
 obtain ⟨h1,h2,h3,h4,h5,h6,h7⟩:=hW.node ht;have hc:=jAL h1 h2 h3 h4 (fun k hk=>(h5 k hk).1);rw [← h6,← h7] at hc;obtain ⟨i,hi,rfl⟩:=jEQ ht;have hsz:=hW.ok.size L[i] (List.getElem_mem hi);have hdp:=hW.ok.depth L[i] (List.getElem_mem hi);have e1:sizeOf L ((i:Int)+1)=L[i].size:=by simp [sizeOf,tH hi]
 have e2:depthOf L ((i:Int)+1)=L[i].depth:=by simp [depthOf,tH hi]
 rw [if_neg (by omega)] at hc;have hfd:find L (jJ L ((i:Int)+1))=some i:=by rw [yC hi];exact Go.Proofs.jIF hW.ok (List.getElem?_eq_getElem hi)
 unfold make;simp only [hc,hfd];rw [if_neg (by simp)]
theorem tG (k:Int):(shapeOf k).kids=0∨(shapeOf k).kids=1∨(shapeOf k).kids=2:=by
 unfold shapeOf noShape
 repeat' split
 all_goals simp
theorem jKB {L:Pool} (hW:Wf L):∀(m:Nat) (t:Int),t.toNat=m→inP L t=true→grow L (zT L t)=(t,0,L):=by
 intro m;induction m using Nat.strongRecOn with
 | _ m ih =>
 intro t hm ht;have hmk:=jJV hW ht;obtain ⟨h1,h2,h3,h4,h5,h6,h7⟩:=hW.node ht;have hpos:=(zR.1 ht).1;have kid:∀k∈jS (jJ L t),grow L (zT L k)=(k,0,L):=fun k hk=>by
  have:=zR.1 (h5 k hk).1;exact ih k.toNat (by have:=(h5 k hk).2;omega) k rfl (h5 k hk).1
 rw [vL hW ht,grow];generalize jJ L t=n at *;obtain ⟨k,f,t',u,x,a,b⟩:=n;unfold jS at kid ⊢;simp only at *;rcases tG k with h | h | h
 ·rw [h] at kid ⊢;have ea:=h2 (by omega);have eb:=h3 (by omega);subst ea;subst eb;simpa [jZ] using hmk
 ·rw [h] at kid ⊢;have eb:=h3 (by omega);subst eb;have k1:=kid a (by simp);simpa [jZ,k1] using hmk
 ·rw [h] at kid ⊢;have k1:=kid a (by simp);have k2:=kid b (by simp);simpa [jZ,k1,k2] using hmk
structure LP (T:Tree) (sz d:Int):Prop where
 s1:1≤sz
 d1:1≤d
 yes:∀i s,0≤i→0≤s→s+sz≤4096→i+d≤64→looks i s T=(0,s+sz)
 no:∀i s,0≤i→0≤s→(4096<s+sz∨64<i+d)→(looks i s T).1=52
theorem LP0 {k f t u:Int} {x:ByteArray} (h:zW ⟨k,f,t,u,x,0,0⟩ 0=0):LP (.mk k f t u x []) 1 1:=by
 refine ⟨by omega,by omega,fun i s hi hs h1 h2=>?_,fun i s hi hs h1=>?_⟩
 ·rw [looks,if_neg (by omega),if_neg (by omega)];simp [zE,h]
 ·rw [looks];split
  ·rfl
  ·rw [if_pos (by omega)]
theorem LP1 {k f t u:Int} {x:ByteArray} {A:Tree} {sa da:Int} (h:zW ⟨k,f,t,u,x,0,0⟩ 1=0) (hA:LP A sa da):LP (.mk k f t u x [A]) (1+sa) (da+1):=by
 have a1:=hA.s1;have a2:=hA.d1;refine ⟨by omega,by omega,fun i s hi hs h1 h2=>?_,fun i s hi hs h1=>?_⟩
 ·rw [looks,if_neg (by omega),if_neg (by omega)];simp only [List.length_cons,List.length_nil,zE,h,if_pos,hA.yes (i+1) (s+1) (by omega) (by omega) (by omega) (by omega)];simp;omega
 ·rw [looks];split
  ·rfl
  ·split
   ·rfl
   ·simp only [List.length_cons,List.length_nil,zE,h,if_pos];simpa using hA.no (i+1) (s+1) (by omega) (by omega) (by omega)
theorem LP2 {k f t u:Int} {x:ByteArray} {A B:Tree} {sa da sb db:Int} (h:zW ⟨k,f,t,u,x,0,0⟩ 2=0) (hA:LP A sa da) (hB:LP B sb db):LP (.mk k f t u x [A,B]) (1+(sa+sb)) (max da db+1):=by
 have a1:=hA.s1;have a2:=hA.d1;have b1:=hB.s1;have b2:=hB.d1;refine ⟨by omega,by omega,fun i s hi hs h1 h2=>?_,fun i s hi hs h1=>?_⟩
 ·rw [looks,if_neg (by omega),if_neg (by omega)];simp only [List.length_cons,List.length_nil,zE,h,if_pos,hA.yes (i+1) (s+1) (by omega) (by omega) (by omega) (by omega),hB.yes (i+1) (s+1+sa) (by omega) (by omega) (by omega) (by omega)];simp;omega
 ·rw [looks];split
  ·rfl
  ·split
   ·rfl
   ·simp only [List.length_cons,List.length_nil,zE,h,if_pos];by_cases hc:s+1+sa≤4096∧i+1+da≤64
    ·rw [hA.yes (i+1) (s+1) (by omega) (by omega) hc.1 hc.2];simpa using hB.no (i+1) (s+1+sa) (by omega) (by omega) (by omega)
    ·have:=hA.no (i+1) (s+1) (by omega) (by omega) (by omega);rw [this];simp
theorem jHV {L:Pool} (hW:Wf L):∀(m:Nat) (t:Int),t.toNat=m→inP L t=true→LP (zT L t) (sizeOf L t) (depthOf L t):=by
 intro m;induction m using Nat.strongRecOn with
 | _ m ih =>
 intro t hm ht;obtain ⟨h1,h2,h3,h4,h5,h6,h7⟩:=hW.node ht;have hpos:=(zR.1 ht).1;have kid:∀k∈jS (jJ L t),LP (zT L k) (sizeOf L k) (depthOf L k):=fun k hk=>by
  have:=zR.1 (h5 k hk).1;exact ih k.toNat (by have:=(h5 k hk).2;omega) k rfl (h5 k hk).1
 have own:∀len:Nat,(len:Int)=(shapeOf (jJ L t).kind).kids→zW ⟨(jJ L t).kind,(jJ L t).frm,(jJ L t).to,(jJ L t).num,(jJ L t).text,0,0⟩ len=0:=fun len hl=>by
  have e1:jX ⟨(jJ L t).kind,(jJ L t).frm,(jJ L t).to,(jJ L t).num,(jJ L t).text,0,0⟩=0:=h1;have e2:jV (shapeOf (jJ L t).kind) ⟨(jJ L t).kind,(jJ L t).frm,(jJ L t).to,(jJ L t).num,(jJ L t).text,0,0⟩=0:=h4;unfold zW;simp only [e1];simp [hl,e2]
 rw [vL hW ht,h6,h7];generalize jJ L t=n at *;obtain ⟨k,f,t',u,x,a,b⟩:=n;unfold jS at kid ⊢;simp only at *;rcases tG k with h | h | h
 ·rw [h];simpa using LP0 (own 0 (by omega))
 ·rw [h] at kid ⊢;have k1:=kid a (by simp);have:=LP1 (own 1 (by omega)) k1;have e:=k1.d1;simpa [Int.max_eq_right (show 0≤depthOf L a by omega)] using this
 ·rw [h] at kid ⊢;have k1:=kid a (by simp);have k2:=kid b (by simp);have:=LP2 (own 2 (by omega)) k1 k2;have e:=k1.d1;simpa [Int.max_eq_right (show 0≤depthOf L a by omega)] using this
end Go.Sp
end
section
open Go Go.SE
namespace Go.Sp
open Go.Proofs
theorem yW {k f t u:Int} {x:ByteArray} {len:Nat} (h:zW ⟨k,f,t,u,x,0,0⟩ len=0):jX ⟨k,f,t,u,x,0,0⟩=0∧(len:Int)=(shapeOf k).kids∧jV (shapeOf k) ⟨k,f,t,u,x,0,0⟩=0:=by
 unfold zW at h;simp only at h;by_cases h1:jX ⟨k,f,t,u,x,0,0⟩=0
 ·rw [if_pos h1] at h;by_cases h2:(len:Int)≠(shapeOf k).kids
  ·rw [if_pos h2] at h;simp at h
  ·rw [if_neg h2] at h;exact ⟨h1,Classical.byContradiction h2,by simpa using h⟩
 ·rw [if_neg h1] at h;rw [if_neg h1] at h;exact absurd h h1
theorem jLY {L:Pool} {n:Node} (hW:Wf L) (hp:jX n=0) (ha:(shapeOf n.kind).kids<1→n.a=0) (hb:(shapeOf n.kind).kids<2→n.b=0) (hf:jV (shapeOf n.kind) n=0) (hk:∀k∈jS n,inP L k=true)
  {sz d:Int} (hs:1+((jS n).map (sizeOf L)).sum=sz) (hd:(jS n).foldl (fun d t=>max d (depthOf L t)) 0+1=d) (h:¬ (sz>4096∨d>64)) :
  (∃r M,make L n=(r,0,L++M)∧inP (L++M) r=true∧jJ (L++M) r=n∧Wf (L++M)∧sizeOf (L++M) r=sz∧depthOf (L++M) r=d∧(L++M).length≤L.length+1)∨((make L n).2.1=6∧65536≤L.length):=by
 by_cases hl:L.length<65536
 ·exact .inl ((mk_ok hW hl hp ha hb hf hk hs hd).2 h)
 have hc:=jAL hp ha hb hf hk
 rw [hs,hd,if_neg h] at hc
 cases hfd:find L n with
 | none =>
  right
  unfold make;simp only [hc,hfd]
  rw [if_neg (by simp),if_pos (by omega)]
  exact ⟨rfl,by omega⟩
 | some i =>
  left
  obtain ⟨hi,e⟩:=jCA hfd
  have hm:make L n=((i:Int)+1,0,L):=by unfold make;simp only [hc,hfd];rw [if_neg (by simp)]
  have hin:inP L ((i:Int)+1)=true:=zR.2 ⟨by omega,by omega⟩
  have hn:jJ L ((i:Int)+1)=n:=by rw [yC hi,e]
  have hw:=hW.node hin
  rw [hn] at hw
  refine ⟨_,[],by rw [hm,List.append_nil],by rw [List.append_nil];exact hin,by rw [List.append_nil];exact hn,by rw [List.append_nil];exact hW,?_,?_,by simp⟩
  ·rw [List.append_nil,← hs,hw.2.2.2.2.2.1]
  ·rw [List.append_nil,← hd,hw.2.2.2.2.2.2]
abbrev Grown (L:Pool) (T:Tree) (sz d:Int) (q:Int×Int×Pool):Prop:=(∃r M,q=(r,0,L++M)∧inP (L++M) r=true∧Wf (L++M)∧sizeOf (L++M) r=sz∧depthOf (L++M) r=d∧((L++M).length:Int)≤L.length+sz)∨(q.2.1=6∧65536<L.length+sz)
structure GP (T:Tree) (sz d:Int):Prop extends LP T sz d where
 grw:∀L,Wf L→sz≤4096→d≤64→Grown L T sz d (grow L T)
theorem GP0 {k f t u:Int} {x:ByteArray} (h:zW ⟨k,f,t,u,x,0,0⟩ 0=0):GP (.mk k f t u x []) 1 1:=by
 refine ⟨LP0 h,fun L hW h1 h2=>?_⟩;obtain ⟨o1,o2,o3⟩:=yW h;have hk:jS ⟨k,f,t,u,x,0,0⟩=[]:=by simp [jS,← o2]
 rw [grow,jZ];rcases jLY (n:=⟨k,f,t,u,x,0,0⟩) hW o1 (fun _=>rfl) (fun _=>rfl) o3 (by rw [hk];simp) (sz:=1) (d:=1) (by rw [hk];rfl) (by rw [hk];rfl) (by omega) with ⟨r,M,e,i,_,w,s,dd,l⟩ | ⟨e,l⟩
 ·exact .inl ⟨r,M,e,i,w,s,dd,by omega⟩
 ·exact .inr ⟨e,by omega⟩
theorem GP1 {k f t u:Int} {x:ByteArray} {A:Tree} {sa da:Int} (h:zW ⟨k,f,t,u,x,0,0⟩ 1=0) (hA:GP A sa da):GP (.mk k f t u x [A]) (1+sa) (da+1):=by
 refine ⟨LP1 h hA.toLP,fun L hW h1 h2=>?_⟩;obtain ⟨o1,o2,o3⟩:=yW h;have s1:=hA.s1;have d1:=hA.d1;rw [grow];rcases hA.grw L hW (by omega) (by omega) with ⟨r,M,e,i,w,s,dd,l⟩ | ⟨e,l⟩
 ·rw [jZ,e,if_neg (by simp),if_pos rfl,jZ];have hk:jS ⟨k,f,t,u,x,r,0⟩=[r]:=by simp [jS,← o2]
  rcases jLY (n:=⟨k,f,t,u,x,r,0⟩) w o1 (fun hh=>by simp only at hh;omega) (fun _=>rfl) o3 (by rw [hk];intro k hk;simp at hk;rw [hk];exact i) (sz:=1+sa) (d:=da+1) (by rw [hk];simp [s]) (by rw [hk];simp [dd];omega) (by omega) with ⟨r',M',e',i',_,w',s',dd',l'⟩ | ⟨e',l'⟩
  ·exact .inl ⟨r',M++M',by rw [← List.append_assoc];exact e',by rw [← List.append_assoc];exact i',by rw [← List.append_assoc];exact w',by rw [← List.append_assoc];exact s',by rw [← List.append_assoc];exact dd',by rw [← List.append_assoc];omega⟩
  ·exact .inr ⟨e',by omega⟩
 ·rw [jZ,if_pos (by rw [e];decide)];exact .inr ⟨e,by omega⟩
theorem GP2 {k f t u:Int} {x:ByteArray} {A B:Tree} {sa da sb db:Int} (h:zW ⟨k,f,t,u,x,0,0⟩ 2=0) (hA:GP A sa da) (hB:GP B sb db):GP (.mk k f t u x [A,B]) (1+(sa+sb)) (max da db+1):=by
 refine ⟨LP2 h hA.toLP hB.toLP,fun L hW h1 h2=>?_⟩;obtain ⟨o1,o2,o3⟩:=yW h;have s1:=hA.s1;have d1:=hA.d1;have s2:=hB.s1;have d2:=hB.d1;rw [grow];rcases hA.grw L hW (by omega) (by omega) with ⟨r,M,e,i,w,s,dd,l⟩ | ⟨e,l⟩
 ·rw [jZ,e,if_neg (by simp),if_pos rfl];simp only;rcases hB.grw (L++M) w (by omega) (by omega) with ⟨r2,M2,e2,i2,w2,ss2,dd2,l2⟩ | ⟨e2,l2⟩
  ·rw [jZ,e2,if_neg (by simp),if_neg (by omega),jZ];have hk:jS ⟨k,f,t,u,x,r,r2⟩=[r,r2]:=by simp [jS,← o2]
   rcases jLY (n:=⟨k,f,t,u,x,r,r2⟩) w2 o1 (fun hh=>by simp only at hh;omega) (fun hh=>by simp only at hh;omega) o3 (by rw [hk];intro k hk;simp at hk;rcases hk with rfl | rfl;exact jDT i;exact i2) (sz:=1+(sa+sb)) (d:=max da db+1) (by rw [hk];simp [-List.append_assoc,gR i,s,ss2]) (by rw [hk];simp [-List.append_assoc,uV i,dd,dd2];omega) (by omega) with ⟨r',M',e',i',_,w',s',dd',l'⟩ | ⟨e',l'⟩
   ·exact .inl ⟨r',M++M2++M',by rw [← List.append_assoc,← List.append_assoc];exact e',by rw [← List.append_assoc,← List.append_assoc];exact i',by rw [← List.append_assoc,← List.append_assoc];exact w',by rw [← List.append_assoc,← List.append_assoc];exact s',by rw [← List.append_assoc,← List.append_assoc];exact dd',by rw [← List.append_assoc,← List.append_assoc];omega⟩
   ·exact .inr ⟨e',by omega⟩
  ·rw [jZ,if_pos (by rw [e2];decide)];exact .inr ⟨e2,by omega⟩
 ·rw [jZ,if_pos (by rw [e];decide)];exact .inr ⟨e,by omega⟩
theorem GP.of {T:Tree} {sz d:Int} (h:GP T sz d) (hs:sz≤4096) (hd:d≤64) {L:Pool} (hW:Wf L):(Sp.of L T).2.1=0∨(Sp.of L T=(0,6,L)∧65536<L.length+sz):=by
 unfold Sp.of;rw [h.yes 0 0 (by omega) (by omega) (by omega) (by omega),if_neg (by simp)];rcases h.grw L hW hs hd with ⟨r,M,e,_⟩ | ⟨e,l⟩
 ·rw [e];simp
 ·rw [if_pos (by rw [e];decide),e];exact .inr ⟨rfl,l⟩
theorem uQ (n:Int):IntKind.u64.wrap n=(u64N n:Int)∧u64N n<18446744073709551616:=by
 unfold u64N;rw [IntKind.wrap_u64];omega
theorem xW {k f t u:Int} {x:ByteArray} {len:Nat} (h:zW ⟨k,f,t,u,x,0,0⟩ len=0):x.size≤64∧
  ((k=1∧len=0)∨(k=2∧len=0)∨(k=3∧len=0)∨(k=4∧len=2)∨(k=5∧len=1)∨(k=6∧len=0)∨(k=7∧len=1)∨(k=8∧len=1)∨(k=9∧len=1)):=by
 obtain ⟨h1,h2,h3⟩:=yW h
 have hx:x.size≤64:=by
  unfold jV at h3;simp only at h3;split at h3
  ·cases h3
  ·split at h3
   ·cases h3
   ·omega
 have hk:1≤k∧k≤9:=by
  unfold jX at h1;simp only at h1;split at h1
  ·cases h1
  ·rename_i hh;have:isKind k=true:=by
    cases hi:isKind k with
    | true=>rfl
    | false=>rw [hi] at hh;simp at hh
   unfold isKind at this;rw [Bool.and_eq_true,decide_eq_true_eq,decide_eq_true_eq] at this;exact this
 refine ⟨hx,?_⟩
 rcases (show k=1∨k=2∨k=3∨k=4∨k=5∨k=6∨k=7∨k=8∨k=9 by omega) with rfl | rfl | rfl | rfl | rfl | rfl | rfl | rfl | rfl <;> simp [shapeOf] at h2 <;> simp <;> omega
theorem jBY {k f t u:Int} {x:ByteArray} (hu:u.toNat<18446744073709551616) (hx:x.size≤64) (nd:∀n,n<18446744073709551616→(Lib.decDigits n).length≤20):(qI k f t u x).length≤300:=by
 have h1:=nd (u64N f) (uQ f).2;have h2:=nd (u64N t) (uQ t).2;have h3:=nd u.toNat hu;have h4:(jAV x.data.toList).length≤258:=by
  unfold jAV;have:=yB x.data.toList;have hl:x.data.toList.length=x.size:=by rw [Array.length_toList];rfl
  simp only [List.length_cons,List.length_append,List.length_nil];omega
 unfold qI
 repeat' split
 all_goals first | omega | (simp only [List.length_cons,List.length_append,List.length_nil];omega)
theorem jHC (nd:∀n,n<18446744073709551616→(Lib.decDigits n).length≤20) (t:Tree):Good t→NumT t→(shw t).length≤400*cnt t:=by
 induction t using Tree.ind with
 | h k f t u x ks ih =>
  intro hg hn
  obtain ⟨_,_,_,_,_,_,own,kids⟩:=hg
  obtain ⟨_,_,_,_,_,_,hu,hn⟩:=hn
  have hu:0≤u∧u<18446744073709551616:=hu
  obtain ⟨hx,hk⟩:=xW own
  have hh:=jBY (k:=k) (f:=f) (t:=t) (u:=u) (x:=x) (by omega) hx nd
  unfold shw cnt
  have key:(yK ks).length≤100+400*cntAll ks:=by
   match ks,kids,ih,hn with
   | [],_,_,_=>simp [yK]
   | [a],kids,ih,hn =>
    have:=ih 0 (by simp) (kids 0 (by simp)) (hn 0 (by simp))
    simp only [List.getElem_cons_zero] at this
    simp only [yK,jDA,cntAll,List.length_cons,List.length_append,List.length_nil];omega
   | a :: b :: r,kids,ih,hn =>
    have h1:=ih 0 (by simp) (kids 0 (by simp)) (hn 0 (by simp))
    have h2:=ih 1 (by simp) (kids 1 (by simp)) (hn 1 (by simp))
    simp only [List.getElem_cons_zero,List.getElem_cons_succ] at h1 h2
    simp only [yK,jDA,cntAll,List.length_cons,List.length_append,List.length_nil];omega
  rw [List.length_append];omega
end Go.Sp
end
section
open Go Go.SE
namespace Go.Proofs
attribute [local irreducible] Calls
theorem vZ (k:Int):(k=1∨k=2∨k=3∨k=4∨k=5∨k=6∨k=7∨k=8∨k=9)∨(Sp.shapeOf k=Sp.noShape∧Sp.isKind k=false∧∀m:Int,1≤m→m≤9→(k == m)=false):=by
 by_cases h:k=1∨k=2∨k=3∨k=4∨k=5∨k=6∨k=7∨k=8∨k=9
 ·exact .inl h
 ·right;refine ⟨?_,?_,fun m h1 h2=>?_⟩
  ·unfold Sp.shapeOf;repeat rw [if_neg (by omega)]
  ·unfold Sp.isKind;apply Bool.eq_false_iff.2;intro h3;simp at h3;omega
  ·rw [beq_eq_false_iff_ne];omega
theorem yA (k:Int):s_A k=(Sp.shapeOf k).kids:=by
 rcases vZ k with h | ⟨h,_,hm⟩
 ·rcases h with rfl | rfl | rfl | rfl | rfl | rfl | rfl | rfl | rfl <;> decide
 ·rw [h];unfold s_A;simp [hm,Sp.noShape]
theorem lW (k:Int):s_B k=(Sp.shapeOf k).frm:=by
 rcases vZ k with h | ⟨h,_,hm⟩
 ·rcases h with rfl | rfl | rfl | rfl | rfl | rfl | rfl | rfl | rfl <;> decide
 ·rw [h];unfold s_B;simp [hm,Sp.noShape]
theorem jBG (k:Int):((k == 8) || (k == 9))=(Sp.shapeOf k).to:=by
 rcases vZ k with h | ⟨h,_,hm⟩
 ·rcases h with rfl | rfl | rfl | rfl | rfl | rfl | rfl | rfl | rfl <;> decide
 ·rw [h];simp [hm,Sp.noShape]
theorem jHD (k:Int):(k == 2)=(Sp.shapeOf k).num:=by
 rcases vZ k with h | ⟨h,_,hm⟩
 ·rcases h with rfl | rfl | rfl | rfl | rfl | rfl | rfl | rfl | rfl <;> decide
 ·rw [h];simp [hm,Sp.noShape]
theorem jFH (k:Int):(k == 3)=(Sp.shapeOf k).text:=by
 rcases vZ k with h | ⟨h,_,hm⟩
 ·rcases h with rfl | rfl | rfl | rfl | rfl | rfl | rfl | rfl | rfl <;> decide
 ·rw [h];simp [hm,Sp.noShape]
theorem jFI (k:Int):(!(decide (k<1) || decide (k>9)))=Sp.isKind k:=by
 unfold Sp.isKind;by_cases h1:k<1 <;> by_cases h2:k>9 <;> simp [h1,h2] <;> omega
theorem ite53 (q:Bool):decide ((if q=true then (53:Int) else 0)=0)=!q:=by cases q <;> rfl
def Sp.nodeErr (n:Sp.Node):Int :=
 if Sp.jX n≠0 then 53 else if (decide ((Sp.shapeOf n.kind).kids<1) && n.a != 0) || (decide ((Sp.shapeOf n.kind).kids<2) && n.b != 0) then 53 else Sp.jV (Sp.shapeOf n.kind) n
theorem jDL (n:Sp.Node):s_V n.kind n.frm n.to n.num n.text n.a n.b=(decide (Sp.jX n=0) && !((decide ((Sp.shapeOf n.kind).kids<1) && n.a != 0) || (decide ((Sp.shapeOf n.kind).kids<2) && n.b != 0))):=by
 obtain ⟨k,f,t,u,x,a,b⟩:=n;unfold s_V Sp.jX;simp only [yA,lW,jBG k,jHD k,jFH k,jFI];have hk:=Sp.yM k;generalize Sp.shapeOf k=s at *;obtain ⟨s1,s2,s3,s4,s5⟩:=s;generalize Sp.isKind k=i;have e1:decide (s5≥1)=!decide (s5<1):=by by_cases h:s5<1 <;> simp [h] <;> omega
 have e2:(s5 == 2)=!decide (s5<2):=by
  by_cases h:s5<2
  ·simp [h];omega
  ·simp [h];simp at hk;omega
 simp only [e1,e2,bne,ite53];generalize (f == 0)=c1;generalize (t == 0)=c2;generalize (u == 0)=c3;generalize decide (x=⟨#[]⟩)=c4;generalize (a == 0)=c5;generalize (b == 0)=c6;generalize decide (s5<1)=c7;generalize decide (s5<2)=c8;cases i <;> cases s1 <;> cases s2 <;> cases s3 <;> cases s4 <;> cases c1 <;> cases c2 <;> cases c3 <;> cases c4 <;> simp
theorem lV (n:Sp.Node):s_G n.kind n.frm n.to n.num n.text n.a n.b=Sp.nodeErr n:=by
 unfold s_G Sp.nodeErr;rw [jDL,lW,jBG];by_cases h1:Sp.jX n=0
 ·by_cases h2:((decide ((Sp.shapeOf n.kind).kids<1) && n.a != 0) || (decide ((Sp.shapeOf n.kind).kids<2) && n.b != 0))=true
  ·rw [h2];simp [h1]
  ·have h2:((decide ((Sp.shapeOf n.kind).kids<1) && n.a != 0) || (decide ((Sp.shapeOf n.kind).kids<2) && n.b != 0))=false:=by simpa using h2
   rw [h2];simp only [h1,ne_eq,not_true_eq_false,if_false,Bool.false_eq_true,decide_true,Bool.not_false,Bool.and_true,Bool.not_true,cond_false];unfold Sp.jV Sp.qO;have e1:(decide (n.frm≥0) && decide (n.frm<16))=(decide (0≤n.frm) && decide (n.frm<16)):=rfl;have e2:(decide (n.to≥0) && decide (n.to<16))=(decide (0≤n.to) && decide (n.to<16)):=rfl;have e3:(n.frm == n.to)=(n.to == n.frm):=by rw [Bool.eq_iff_iff];simp only [beq_iff_eq];exact eq_comm
   rw [e1,e2,e3];have e4:decide (((n.text.size:Int))>64)=decide (n.text.size>64):=decide_eq_decide.2 (by omega);rw [e4];generalize ((Sp.shapeOf n.kind).frm && !(decide (0≤n.frm) && decide (n.frm<16)) || (Sp.shapeOf n.kind).to && (!(decide (0≤n.to) && decide (n.to<16)) || n.to == n.frm))=c;cases c
   ·by_cases h:n.text.size>64 <;> simp [h]
   ·rfl
 ·simp [h1]
end Go.Proofs
end
section
open Go Go.SE
namespace Go.Proofs
open Tryz
attribute [local irreducible] Calls
theorem jEH:SlType prog 49 103 7 64:=by
 refine ⟨underlying49,⟨t103,_,by kernel_rfl,(by kernel_rfl:t103.zero=some (.agg #[.int .i64 0,.int .i64 0,.int .i64 0,.int .u64 0,.string ⟨#[]⟩,.int .i64 0,.int .i64 0])),by kernel_rfl,by kernel_rfl,rfl⟩,by omega⟩
theorem jAD:SlType prog 50 3 1 8:=by
 refine ⟨underlying50,⟨t3,_,by kernel_rfl,(by kernel_rfl:t3.zero=some (.int .i64 0)),by kernel_rfl,by kernel_rfl,rfl⟩,by omega⟩
def jLQ (e:Sp.Ent):List Value:=oA e.node
def jLP (e:Sp.Ent):List Value:=[.int .i64 e.size]
def jHL (e:Sp.Ent):List Value:=[.int .i64 e.depth]
structure PoolRS (w:World) (p:Addr) (L:Sp.Pool) (s1 s2 s3:Sl):Prop where
 box:Box w p [s1.v,s2.v,s3.v] 52
 r1:Rws w 103 7 s1 (L.map jLQ)
 r2:Rws w 3 1 s2 (L.map jLP)
 r3:Rws w 3 1 s3 (L.map jHL)
 n1:¬ s1.blk p.block
 n2:¬ s2.blk p.block
 n3:¬ s3.blk p.block
 d12:∀b,s1.blk b→¬ s2.blk b
 d13:∀b,s1.blk b→¬ s3.blk b
 d23:∀b,s2.blk b→¬ s3.blk b
def vD (w:World) (p:Addr) (L:Sp.Pool) (F:NP):Prop:=∃s1 s2 s3,PoolRS w p L s1 s2 s3∧∀b,F b↔(b=p.block∨s1.blk b∨s2.blk b∨s3.blk b)
theorem vD.ext {G:NP} {w w':World} {p:Addr} {L:Sp.Pool} {F:NP} (h:vD w p L F) (hE:Ext G w w') (hd:∀b,F b→¬ G b):vD w' p L F:=by
 obtain ⟨s1,s2,s3,h,hF⟩:=h;exact ⟨s1,s2,s3,⟨h.box.ext hE (hd _ ((hF _).2 (.inl rfl))),h.r1.ext hE (fun b hb=>hd _ ((hF _).2 (.inr (.inl hb)))),h.r2.ext hE (fun b hb=>hd _ ((hF _).2 (.inr (.inr (.inl hb))))),h.r3.ext hE (fun b hb=>hd _ ((hF _).2 (.inr (.inr (.inr hb))))),h.n1,h.n2,h.n3,h.d12,h.d13,h.d23⟩,hF⟩
theorem vD.pure {w w':World} {p:Addr} {L:Sp.Pool} {F:NP} (h:vD w p L F) (hE:Pure w w'):vD w' p L F:=h.ext hE (fun _ _ h=>h)
theorem vD.lt {w:World} {p:Addr} {L:Sp.Pool} {F:NP} (h:vD w p L F) {b:Nat} (hb:F b):b<w.heap.size:=by
 obtain ⟨s1,s2,s3,h,hF⟩:=h;rcases (hF b).1 hb with rfl | hb | hb | hb
 ·exact h.box.lt
 ·exact h.r1.lt hb
 ·exact h.r2.lt hb
 ·exact h.r3.lt hb
theorem jEC (w0:World):Calls prog 12 #[] w0 (fun e w'=>∃r:Option Addr,e=.returned (.pointer r)∧∃p F,r=some p∧vD w' p [] F∧Pure w0 w'∧∀b,F b→w0.heap.size≤b):=by
 refine w_V1 w0 (fun r w'=>∃p F,r=some p∧vD w' p [] F∧Pure w0 w'∧∀b,F b→w0.heap.size≤b) ?_;unfold m_V1;have hnil:∀b,¬ Sl.nil.blk b:=fun b hb=>by obtain ⟨a,h,_⟩:=hb;cases h
 intro p w1 h1;have b1:=Box.of_new h1;have E1:Pure w0 w1:=Ext.new h1
 first
  | exact ⟨p,(·=p.block),rfl,⟨Sl.nil,Sl.nil,Sl.nil,⟨b1,Rws.nil _ _ _,Rws.nil _ _ _,Rws.nil _ _ _,hnil _,hnil _,hnil _,fun b h=>(hnil b h).elim,fun b h=>(hnil b h).elim,fun b h=>(hnil b h).elim⟩,fun b=>by simp [hnil]⟩,E1,fun b hb=>by subst hb;exact New.own (Ext.refl w0) h1⟩
  | skip
theorem qA (p:Addr) (t:Int) (w0:World) {L:Sp.Pool} {F:NP} (hP:vD w0 p L F):Calls prog 19 #[.pointer (some p),.int .i64 t] w0 (fun e w'=>∃r:Bool,e=.returned (.bool r)∧(r=Sp.inP L t∧w'=w0)):=by
 refine w_X1 _ _ w0 (fun r w'=>r=Sp.inP L t∧w'=w0) ?_;unfold m_X1;obtain ⟨s1,s2,s3,h,hF⟩:=hP;have hl:s1.len=L.length:=by rw [h.r1.len];simp
 refine ⟨fun hc=>⟨p,rfl,s1,h.box.cell0,?_,rfl⟩,fun hc=>⟨?_,rfl⟩⟩
 ·have:=of_decide_eq_true hc;rw [hl];simp [Sp.inP,this]
 ·have:=of_decide_eq_false hc;simp [Sp.inP];omega
theorem PoolRS.at1 {w:World} {p:Addr} {L:Sp.Pool} {s1 s2 s3:Sl} (h:PoolRS w p L s1 s2 s3) {t:Int} (ht:Sp.inP L t=true) (hok:Sp.Ok L):∃e,Sp.get L t=some e ∧
  (∃a,At s1 (IntKind.i64.wrap (t - 1)) 7 a∧Row w a (jLQ e))∧(∃a,At s2 (IntKind.i64.wrap (t - 1)) 1 a∧Row w a (jLP e))∧(∃a,At s3 (IntKind.i64.wrap (t - 1)) 1 a∧Row w a (jHL e)):=by
 obtain ⟨e,he,_,hi,hLe⟩:=Sp.uG ht
 have hin:=Sp.zR.1 ht
 have hf:=hok.few
 have hw:IntKind.i64.wrap (t - 1)=((t - 1).toNat:Int):=by rw [i64 (by omega) (by omega)];omega
 obtain ⟨a1,h1,g1⟩:=h.r1.nth (j:=(t - 1).toNat) hi
 obtain ⟨a2,h2,g2⟩:=h.r2.nth (j:=(t - 1).toNat) hi
 obtain ⟨a3,h3,g3⟩:=h.r3.nth (j:=(t - 1).toNat) hi
 rw [hLe] at g1 g2 g3
 rw [hw]
 exact ⟨e,he,⟨a1,h1,g1⟩,⟨a2,h2,g2⟩,⟨a3,h3,g3⟩⟩
theorem xJ (p:Addr) (t:Int) (w0:World) {L:Sp.Pool} {F:NP} (hP:vD w0 p L F) (hok:Sp.Ok L):Calls prog 89 #[.pointer (some p),.int .i64 t] w0 (fun e w'=>∃r:Int,e=.returned (.int .i64 r)∧(r=Sp.sizeOf L t∧w'=w0)):=by
 refine w_Y1 _ _ w0 (fun r w'=>r=Sp.sizeOf L t∧w'=w0) ?_;unfold m_Y1;refine (qA p t w0 hP).mono ?_;rintro _ _ ⟨_,rfl,rfl,rfl⟩;refine ⟨_,rfl,fun h=>⟨?_,rfl⟩,fun h=>?_⟩
 ·have h:Sp.inP L t=false:=by simpa using h
  simp [Sp.sizeOf,Sp.vU h]
 ·have h:Sp.inP L t=true:=by simpa using h
  obtain ⟨s1,s2,s3,hS,hF⟩:=hP;obtain ⟨e,he,_,⟨a,hat,hr⟩,_⟩:=hS.at1 h hok;exact ⟨p,rfl,s2,hS.box.cell rfl,a,hat,_,xS hr,by simp [Sp.sizeOf,he],rfl⟩
theorem gH (p:Addr) (t:Int) (w0:World) {L:Sp.Pool} {F:NP} (hP:vD w0 p L F) (hok:Sp.Ok L):Calls prog 154 #[.pointer (some p),.int .i64 t] w0 (fun e w'=>∃r:Int,e=.returned (.int .i64 r)∧(r=Sp.depthOf L t∧w'=w0)):=by
 refine w_Z1 _ _ w0 (fun r w'=>r=Sp.depthOf L t∧w'=w0) ?_;unfold m_Z1;refine (qA p t w0 hP).mono ?_;rintro _ _ ⟨_,rfl,rfl,rfl⟩;refine ⟨_,rfl,fun h=>⟨?_,rfl⟩,fun h=>?_⟩
 ·have h:Sp.inP L t=false:=by simpa using h
  simp [Sp.depthOf,Sp.vU h]
 ·have h:Sp.inP L t=true:=by simpa using h
  obtain ⟨s1,s2,s3,hS,hF⟩:=hP;obtain ⟨e,he,_,_,⟨a,hat,hr⟩⟩:=hS.at1 h hok;exact ⟨p,rfl,s3,hS.box.cell rfl,a,hat,_,xS hr,by simp [Sp.depthOf,he],rfl⟩
theorem jCQ (p:Addr) (t:Int) (w0:World) {L:Sp.Pool} {F:NP} (hP:vD w0 p L F) (hok:Sp.Ok L):Calls prog 63 #[.pointer (some p),.int .i64 t] w0
  (fun e w'=>∃k f t' u:Int,∃x:ByteArray,∃a b:Int,∃r:Bool,e=.returned (.tuple #[.agg #[.int .i64 k,.int .i64 f,.int .i64 t',.int .u64 u,.string x,.int .i64 a,.int .i64 b],.bool r])∧(((⟨k,f,t',u,x,a,b⟩:Sp.Node)=Sp.jJ L t∧r=Sp.inP L t)∧Pure w0 w')):=by
 refine w_A2 _ _ w0 (fun k f t' u x a b r w'=>((⟨k,f,t',u,x,a,b⟩:Sp.Node)=Sp.jJ L t∧r=Sp.inP L t)∧Pure w0 w') ?_
 unfold m_A2
 intro H1 w1 hs1
 have hP1:=hP.pure hs1.first
 refine (qA p t w1 hP1).mono ?_
 rintro _ _ ⟨_,rfl,rfl,rfl⟩
 refine ⟨_,rfl,Kept.refl _,fun h=>?_,fun h=>?_⟩
 ·intro w3 hs3
  have h:Sp.inP L t=false:=by simpa using h
  exact ⟨⟨by simp [Sp.jJ,Sp.vU h,Sp.jHS],h.symm⟩,hs1.first.hst hs3⟩
 ·have h:Sp.inP L t=true:=by simpa using h
  obtain ⟨s1,s2,s3,hS,hF⟩:=hP1
  obtain ⟨e,he,⟨a,hat,hr⟩,_,_⟩:=hS.at1 h hok
  refine ⟨p,rfl,s1,hS.box.cell0,a,hat,_,_,_,_,_,_,_,hr,?_⟩
  intro w4 hs4
  exact ⟨⟨by simp [Sp.jJ,he],h.symm⟩,hs1.first.hst hs4⟩
theorem jJU (m n:Sp.Node):((m.kind == n.kind) && ((m.frm == n.frm) && ((m.to == n.to) && ((m.num == n.num) && ((decide (m.text=n.text)) && ((m.a == n.a) && (m.b == n.b)))))))=decide (m=n):=by
 obtain ⟨k,f,t,u,x,a,b⟩:=m;obtain ⟨k',f',t',u',x',a',b'⟩:=n;rw [Bool.eq_iff_iff];simp
theorem jED (p:Addr) (n:Sp.Node) (w0:World) {L:Sp.Pool} {F:NP} (hP:vD w0 p L F) (hok:Sp.Ok L):Calls prog 155 #[.pointer (some p),oD n] w0
  (fun e w'=>∃r:Int,∃ok:Bool,e=.returned (.tuple #[.int .i64 r,.bool ok])∧((match Sp.find L n with | some i=>r=(i:Int)+1∧ok=true | none=>r=0∧ok=false)∧Pure w0 w')):=by
 obtain ⟨k,f,t,u,x,a,b⟩:=n
 generalize hn:(⟨k,f,t,u,x,a,b⟩:Sp.Node)=n
 have hnk:oD n=.agg #[.int .i64 k,.int .i64 f,.int .i64 t,.int .u64 u,.string x,.int .i64 a,.int .i64 b]:=by rw [← hn];rfl
 rw [hnk]
 suffices key:∀K:Int→Bool→WP,(∀r ok w',((match Sp.find L n with | some i=>r=(i:Int)+1∧ok=true | none=>r=0∧ok=false)∧Pure w0 w')→K r ok w')→m_A1 (some p) k f t u x a b w0 K from
  w_A1 _ _ _ _ _ _ _ _ w0 _ (key _ (fun _ _ _ h=>h))
 intro K hK
 unfold m_A1
 intro H1 w1 hs1
 refine ⟨fun i H w'=>∃j:Nat,i=j∧j≤L.length∧Pure w0 w'∧∀q,q<j→∀e,L[q]?=some e→e.node≠n,fun i _=>((L.length:Int) - i).toNat,⟨0,rfl,Nat.zero_le _,hs1.first,fun q hq=>absurd hq (by omega)⟩,?_⟩
 rintro _ Hl wl hl ⟨j,rfl,hj,El,hno⟩
 unfold m_A1_l1
 obtain ⟨s1,s2,s3,hS,hF⟩:=hP.pure El
 have hf:=hok.few
 have hlen:s1.len=L.length:=by rw [hS.r1.len];simp
 refine ⟨p,rfl,s1,hS.box.cell0,fun h=>?_,fun h=>?_⟩
 ·have hlt:=qH hlen h
  refine ⟨p,rfl,?_⟩
  intro w2 hs2
  have E2:=El.hst hs2
  obtain ⟨s1',s2',s3',hS',_⟩:=hP.pure E2
  obtain ⟨a',hat,hr⟩:=hS'.r1.nth hlt
  refine ⟨s1',hS'.box.cell0,a',hat,_,_,_,_,_,_,_,hr,?_⟩
  have hB:=jJU L[j].node n
  rw [← hn] at hB
  simp only at hB
  rw [hB,hn]
  refine ⟨fun h=>?_,fun h=>?_⟩
  ·have h:=of_decide_eq_true h
   rw [kX hlt (by omega)]
   refine hK _ _ _ ⟨?_,E2⟩
   have hfd:Sp.find L n=some j:=by
    unfold Sp.find;rw [List.findIdx?_eq_some_iff_getElem];exact ⟨hlt,by simp [h],fun q hq=>by simpa using hno q hq _ (List.getElem?_eq_getElem (by omega))⟩
   rw [hfd];exact ⟨by omega,rfl⟩
  ·have h:=of_decide_eq_false h
   rw [kX hlt (by omega)]
   refine ⟨⟨j+1,rfl,hlt,E2,fun q hq e he=>?_⟩,gD hlt⟩
   by_cases hqj:q=j
   ·subst hqj;rw [List.getElem?_eq_getElem hlt] at he;cases he;exact h
   ·exact hno q (by omega) e he
 ·have hge:=qJ hlen hj h
  subst hge
  refine hK _ _ _ ⟨?_,El⟩
  have hfd:Sp.find L n=none:=jCB (fun e he=>by
   obtain ⟨q,hq,rfl⟩:=List.mem_iff_getElem.1 he;exact hno q hq _ (List.getElem?_eq_getElem hq))
  rw [hfd];exact ⟨rfl,rfl⟩
theorem oM {P:Program} {t ty e:TypeId} {sz bytes:Nat} (T:SlType P t e sz bytes) {w:World} {p:Addr} {c:List Value} {Tp:TypeId} (hB:Box w p c Tp) {s:Sl} {rs:List (List Value)} (hR:Rws w e sz s rs) (hp:¬ s.blk p.block) {a:Addr} {r:List Value} (hr:Row w a r) (hl:r.length=sz) (h1:r.all kD=true) (hb:(rs.length+1)*bytes≤140737488355328) (hm:rs.length+1≤maxLen) :
  ∃s' w',(Builtin.append_ #[t,t] ty #[s.v,(Sl.mk (some a) 1 1).v]).run P w=.ok s'.v w'∧Rws w' e sz s' (rs++[r])∧Box w' p c Tp∧¬ s'.blk p.block∧Ext s.blk w w'∧(∀b,s'.blk b→s.blk b∨w.heap.size≤b):=by
 obtain ⟨s',w',hr',hR',hE,hb'⟩:=hR.append T (ty:=ty) (c:=1) hr hl h1 hb hm
 exact ⟨s',w',hr',hR',hB.ext hE hp,fun h=>(hb' _ h).elim hp (fun h=>by have:=hB.lt;omega),hE,hb'⟩
theorem xE (n:Sp.Node):Sp.jX n=53∨Sp.jX n=0:=by
 unfold Sp.jX;simp only;split
 ·exact .inl rfl
 ·exact .inr rfl
theorem jCR (p:Addr) (n:Sp.Node) (w0:World) {L:Sp.Pool} {F:NP} (hP:vD w0 p L F) (hok:Sp.Ok L):Calls prog 112 #[.pointer (some p),oD n] w0
  (fun e w'=>∃r1 r2:Int,e=.returned (.tuple #[.int .i64 r1,.int .i64 r2])∧((r1,r2)=((Sp.make L n).1,(Sp.make L n).2.1)∧∃F',vD w' p (Sp.make L n).2.2 F'∧Ext F w0 w'∧∀b,F' b→F b∨w0.heap.size≤b)):=by
 obtain ⟨k,f,t,u,x,a,b⟩:=n
 generalize hn:(⟨k,f,t,u,x,a,b⟩:Sp.Node)=n
 have hnk:oD n=.agg #[.int .i64 k,.int .i64 f,.int .i64 t,.int .u64 u,.string x,.int .i64 a,.int .i64 b]:=by rw [← hn];rfl
 rw [hnk]
 suffices key:∀K:Int→Int→WP,(∀r1 r2 w',((r1,r2)=((Sp.make L n).1,(Sp.make L n).2.1)∧∃F',vD w' p (Sp.make L n).2.2 F'∧Ext F w0 w'∧∀b,F' b→F b∨w0.heap.size≤b)→K r1 r2 w')→m_L (some p) k f t u x a b w0 K from
  w_L _ _ _ _ _ _ _ _ w0 _ (key _ (fun _ _ _ h=>h))
 intro K hK
 have hsh:=lV n
 have hkd:=yA k
 rw [← hn] at hsh
 simp only at hsh
 rw [hn] at hsh
 have hna:n.a=a:=by rw [← hn]
 have hnb:n.b=b:=by rw [← hn]
 have hnkk:n.kind=k:=by rw [← hn]
 have hk:=Sp.yM k
 have oZ:∀(r1 r2:Int) (w':World),Pure w0 w'→Sp.make L n=(r1,r2,L)→K r1 r2 w':=fun r1 r2 w' E h=>hK _ _ _ ⟨by rw [h],F,by rw [h];exact hP.pure E,E.pure,fun b h=>.inl h⟩
 have bad:∀(er:Int) (w':World),er≠0→Pure w0 w'→Sp.check L n=(0,0,er)→K 0 er w':=fun er w' h0 E h=>oZ 0 er w' E (by unfold Sp.make;simp [h,h0])
 unfold m_L
 rw [hsh,hkd]
 have good:Sp.nodeErr n=0→Sp.check L n=(if (Sp.jS n).any (fun t=>!Sp.inP L t) then (0,0,51) else if 1+((Sp.jS n).map (Sp.sizeOf L)).sum>4096∨(Sp.jS n).foldl (fun d t=>max d (Sp.depthOf L t)) 0+1>64 then (0,0,52) else (1+((Sp.jS n).map (Sp.sizeOf L)).sum,(Sp.jS n).foldl (fun d t=>max d (Sp.depthOf L t)) 0+1,0)):=by
  intro h;unfold Sp.nodeErr at h;unfold Sp.check;split at h
  ·cases h
  ·rename_i h1;simp only;rw [if_neg h1];split at h
   ·cases h
   ·rename_i h2;rw [if_neg h2,if_neg (by simpa using h)]
 refine ⟨fun h=>?_,fun h=>?_⟩
 ·intro H1 w2 hs2
  have h:Sp.nodeErr n≠0:=by simpa using h
  refine bad _ _ h hs2.first ?_
  unfold Sp.nodeErr at h ⊢
  unfold Sp.check
  by_cases h1:Sp.jX n≠0
  ·rw [if_pos h1,if_pos h1]
   have:Sp.jX n=53:=(xE n).resolve_right h1
   rw [this]
  ·rw [if_neg h1] at h ⊢
   simp only
   rw [if_neg h1]
   by_cases h2:((decide ((Sp.shapeOf n.kind).kids<1) && n.a != 0) || (decide ((Sp.shapeOf n.kind).kids<2) && n.b != 0))=true
   ·rw [if_pos h2,if_pos h2]
   ·rw [if_neg h2] at h ⊢;rw [if_neg h2,if_pos h]
 have h0:Sp.nodeErr n=0:=by simpa using h
 have hchk:=good h0
 have hzero:((Sp.shapeOf k).kids<1→a=0)∧((Sp.shapeOf k).kids<2→b=0):=by
  unfold Sp.nodeErr at h0;split at h0
  ·cases h0
  ·split at h0
   ·cases h0
   ·rename_i _ h2;rw [hnkk,hna,hnb] at h2;simp at h2;exact h2
 have hz0:Sp.inP L 0=false:=by simp [Sp.inP]
 have hs0:Sp.sizeOf L 0=0:=by simp [Sp.sizeOf,Sp.get,hz0]
 have hd0:Sp.depthOf L 0=0:=by simp [Sp.depthOf,Sp.get,hz0]
 have hsa:=hok.sizeOf a
 have hsb:=hok.sizeOf b
 have hda:=hok.depthOf a
 have hdb:=hok.depthOf b
 have hany:(Sp.jS n).any (fun t=>!Sp.inP L t)=((decide (1≤(Sp.shapeOf k).kids) && !Sp.inP L a) || (decide ((Sp.shapeOf k).kids=2) && !Sp.inP L b)):=by
  unfold Sp.jS;rw [hnkk,hna,hnb];rcases hk with h | h | h <;> rw [h] <;> simp
 have hsum:((Sp.jS n).map (Sp.sizeOf L)).sum=Sp.sizeOf L a+Sp.sizeOf L b:=by
  unfold Sp.jS;rw [hnkk,hna,hnb];rcases hk with h | h | h <;> rw [h] <;> simp
  ·rw [hzero.1 (by omega),hzero.2 (by omega),hs0];rfl
  ·rw [hzero.2 (by omega),hs0];omega
 have hmax:(Sp.jS n).foldl (fun d t=>max d (Sp.depthOf L t)) 0=max (Sp.depthOf L a) (Sp.depthOf L b):=by
  unfold Sp.jS;rw [hnkk,hna,hnb];rcases hk with h | h | h <;> rw [h] <;> simp
  ·rw [hzero.1 (by omega),hzero.2 (by omega),hd0];omega
  ·rw [hzero.2 (by omega),hd0];omega
  ·omega
 rw [hany,hsum,hmax] at hchk
 have J1:∀(x1:Bool) (H:NP) (w:World),Hst w0 H w H w→Pure w0 w→x1=((decide (1≤(Sp.shapeOf k).kids) && !Sp.inP L a) || (decide ((Sp.shapeOf k).kids=2) && !Sp.inP L b))→m_L_j1 (some p) k f t u x a b x1 w0 H w K:=by
  intro x1 H w hs E hx;rw [← hx] at hchk;unfold m_L_j1;refine ⟨fun h=>bad 51 w (by omega) E (by rw [hchk,h];rfl),fun h=>?_⟩;rw [h,if_neg (by simp)] at hchk;refine ⟨fun _=>True,trivial,?_⟩;rintro _ rfl;have Ed:Pure w0 w.drew:=E.trans (Ext.drew w);refine (xJ p a w.drew (hP.pure Ed) hok).mono ?_;rintro _ _ ⟨_,rfl,rfl,rfl⟩;refine ⟨_,rfl,trivial,Kept.refl _,?_⟩;refine (xJ p b w.drew (hP.pure Ed) hok).mono ?_;rintro _ _ ⟨_,rfl,rfl,rfl⟩;refine ⟨_,rfl,trivial,Kept.refl _,fun _=>True,trivial,?_⟩;rintro _ rfl;have Ed2:Pure w0 w.drew.drew:=Ed.trans (Ext.drew w.drew);refine (gH p a w.drew.drew (hP.pure Ed2) hok).mono ?_;rintro _ _ ⟨_,rfl,rfl,rfl⟩;refine ⟨_,rfl,trivial,Kept.refl _,?_⟩;refine (gH p b w.drew.drew (hP.pure Ed2) hok).mono ?_;rintro _ _ ⟨_,rfl,rfl,rfl⟩;refine ⟨_,rfl,trivial,Kept.refl _,_,fun w' _=>run_max_int2 _ _ _ _ _ _ _,?_⟩;have hmx:(if Sp.depthOf L b>Sp.depthOf L a then Sp.depthOf L b else Sp.depthOf L a)=max (Sp.depthOf L a) (Sp.depthOf L b):=by
   split <;> omega
  generalize hz:(if Sp.depthOf L b>Sp.depthOf L a then Sp.depthOf L b else Sp.depthOf L a)=z at *;have hz64:0≤z∧z≤64:=by rw [hmx];omega
  have e1:IntKind.i64.wrap (IntKind.i64.wrap (1+Sp.sizeOf L a)+Sp.sizeOf L b)=1+(Sp.sizeOf L a+Sp.sizeOf L b):=by
   rw [i64 (n:=1+Sp.sizeOf L a) (by omega) (by omega),i64 (by omega) (by omega)];omega
  have e2:IntKind.i64.wrap (1+z)=z+1:=by rw [i64 (by omega) (by omega)];omega
  rw [e1,e2];rw [← hmx] at hchk;rintro y1 rfl;have hsx:Hst w0 H w.drew.drew H w.drew.drew:=(hs.drew.here.drew).here;refine ⟨fun h=>?_,fun h=>?_⟩
  ·intro H2 w10 hs10;refine bad 52 w10 (by omega) (Ed2.hst hs10) ?_;rw [hchk,if_pos (by simpa using h)]
  ·intro H2 w10 hs10;have hck:Sp.check L n=(1+(Sp.sizeOf L a+Sp.sizeOf L b),z+1,0):=by rw [hchk,if_neg (by simp at h;omega)]
   have E10:=Ed2.hst hs10;rw [← hnk];refine (jED p n w10 (hP.pure E10) hok).mono ?_;rintro _ w11 ⟨r,ok,rfl,hfd,E11⟩;refine ⟨_,_,rfl,E11.keptP,?_⟩;have E11':=E10.trans E11;have hs11:Hst w0 H2 w11 H2 w11:=hs10.again E11.keptP;cases hf:Sp.find L n with
   | some i =>
    rw [hf] at hfd
    obtain ⟨rfl,rfl⟩:=hfd
    exact Br.t rfl (oZ _ _ _ E11' (by unfold Sp.make;simp [hck,hf]))
   | none =>
    rw [hf] at hfd
    obtain ⟨rfl,rfl⟩:=hfd
    refine Br.f rfl ?_
    obtain ⟨s1,s2,s3,hS,hF⟩:=hP.pure E11'
    have hlen:s1.len=L.length:=by rw [hS.r1.len];simp
    refine ⟨p,rfl,s1,hS.box.cell0,fun h=>?_,fun h=>?_⟩
    ·have h2:65536≤L.length:=by have h:=of_decide_eq_true h;omega
     exact oZ _ _ _ E11' (by unfold Sp.make;simp [hck,hf,h2])
    ·have h2:¬ 65536≤L.length:=by have h:=of_decide_eq_false h;omega
     have hmk:Sp.make L n=((L.length:Int)+1,0,L++[⟨n,1+(Sp.sizeOf L a+Sp.sizeOf L b),z+1⟩]):=by unfold Sp.make;simp [hck,hf,h2]
     have hvis:∀b,F b→¬ H2 b:=fun b hb h2=>by have:=hP.lt hb;have:=hs11.old b h2;omega
     have hpF:F p.block:=(hF _).2 (.inl rfl)
     refine ⟨fun w'=>w'.cell? p=some s1.v,hS.box.cell0,?_⟩
     rintro _ rfl
     have E12:Pure w11 w11.drew:=Ext.drew w11
     refine ⟨p,rfl,s1,fun w' h'=>h',?_⟩
     intro p3 w13 h13
     have E13:Pure w11 w13:=E12.trans (Ext.new h13)
     have B13:=hS.box.pure E13
     refine ⟨B13.cell0,?_⟩
     obtain ⟨t1,w14,hr14,R14,B14,np1,X14,nb1⟩:=oM (P:=prog) (ty:=49) jEH B13 (hS.r1.pure E13) hS.n1 (a:=p3) (r:=oA n) (by rw [← hn];exact (Box.of_new h13).row) rfl rfl (by simp;omega) (by simp [maxLen];omega)
     refine ⟨t1,w14,hr14,B14.cell0,X14.kept (fun b hb h=>hvis b ((hF b).2 (.inr (.inl h))) hb),p,rfl,B14.canW0 (by simp),hvis _ hpF,?_⟩
     rintro w15 hw15
     have B15:Box w15 p [t1.v,s2.v,s3.v] 52:=by rw [hw15];exact B14.set0
     have X15:Ext (·=p.block) w14 w15:=by rw [hw15];exact Ext.setCell p _
     clear hw15
     have R15:=R14.ext X15 (fun b hb e=>np1 (e▸hb))
     have R2:=((hS.r2.pure E13).ext X14 (fun b h2 h1=>hS.d12 b h1 h2)).ext X15 (fun b hb e=>hS.n2 (e▸hb))
     have R3:=((hS.r3.pure E13).ext X14 (fun b h2 h1=>hS.d13 b h1 h2)).ext X15 (fun b hb e=>hS.n3 (e▸hb))
     have d12':∀b,t1.blk b→¬ s2.blk b:=fun b hb h2=>(nb1 b hb).elim (fun h=>hS.d12 b h h2) (fun h=>by have:=hS.r2.lt h2;have:=E13.size;omega)
     have d13':∀b,t1.blk b→¬ s3.blk b:=fun b hb h2=>(nb1 b hb).elim (fun h=>hS.d13 b h h2) (fun h=>by have:=hS.r3.lt h2;have:=E13.size;omega)
     refine ⟨p,rfl,s2,B15.cell rfl,?_⟩
     intro p4 w16 h16
     have E16:Pure w15 w16:=Ext.new h16
     have B16:=B15.pure E16
     obtain ⟨t2,w17,hr17,R17,B17,np2,X17,nb2⟩:=oM (P:=prog) (ty:=50) jAD B16 (R2.pure E16) hS.n2 (a:=p4) (r:=[.int .i64 (1+(Sp.sizeOf L a+Sp.sizeOf L b))]) (Box.of_new h16).row rfl rfl (by simp;omega) (by simp [maxLen];omega)
     refine ⟨t2,w17,hr17,X17.kept (fun b hb h=>hvis b ((hF b).2 (.inr (.inr (.inl h)))) hb),p,rfl,B17.canW (by simp),by rw [zN];exact hvis _ hpF,?_⟩
     rintro w18 hw18
     have B18:Box w18 p [t1.v,t2.v,s3.v] 52:=by rw [hw18];exact B17.set 1 _
     have X18:Ext (·=p.block) w17 w18:=by rw [hw18];have:=Ext.setCell (w:=w17) (p.add 1) t2.v;rw [zN] at this;exact this
     clear hw18
     have Q1:=((R15.pure E16).ext X17 (fun b h1 h2=>d12' b h1 h2)).ext X18 (fun b hb e=>np1 (e▸hb))
     have Q2:=R17.ext X18 (fun b hb e=>np2 (e▸hb))
     have Q3:=((R3.pure E16).ext X17 (fun b h3 h2=>hS.d23 b h2 h3)).ext X18 (fun b hb e=>hS.n3 (e▸hb))
     have d12'':∀b,t1.blk b→¬ t2.blk b:=fun b hb h2=>(nb2 b h2).elim (fun h=>d12' b hb h) (fun h=>by have:=(R15.pure E16).lt hb;omega)
     have d23':∀b,t2.blk b→¬ s3.blk b:=fun b hb h2=>(nb2 b hb).elim (fun h=>hS.d23 b h h2) (fun h=>by have:=(R3.pure E16).lt h2;omega)
     refine ⟨p,rfl,s3,B18.cell rfl,?_⟩
     intro p5 w19 h19
     have E19:Pure w18 w19:=Ext.new h19
     have B19:=B18.pure E19
     obtain ⟨t3,w20,hr20,R20,B20,np3,X20,nb3⟩:=oM (P:=prog) (ty:=50) jAD B19 (Q3.pure E19) hS.n3 (a:=p5) (r:=[.int .i64 (z+1)]) (Box.of_new h19).row rfl rfl (by simp;omega) (by simp [maxLen];omega)
     refine ⟨t3,w20,hr20,X20.kept (fun b hb h=>hvis b ((hF b).2 (.inr (.inr (.inr h)))) hb),p,rfl,B20.canW (by simp),by rw [zN];exact hvis _ hpF,?_⟩
     rintro w21 hw21
     have B21:Box w21 p [t1.v,t2.v,t3.v] 52:=by rw [hw21];exact B20.set 2 _
     have X21:Ext (·=p.block) w20 w21:=by rw [hw21];have:=Ext.setCell (w:=w20) (p.add 2) t3.v;rw [zN] at this;exact this
     clear hw21
     have d13'':∀b,t1.blk b→¬ t3.blk b:=fun b hb h2=>(nb3 b h2).elim (fun h=>d13' b hb h) (fun h=>by have:=(Q1.pure E19).lt hb;omega)
     have d23'':∀b,t2.blk b→¬ t3.blk b:=fun b hb h2=>(nb3 b h2).elim (fun h=>d23' b hb h) (fun h=>by have:=(Q2.pure E19).lt hb;omega)
     have Z1:=((Q1.pure E19).ext X20 (fun b h1 h2=>d13' b h1 h2)).ext X21 (fun b hb e=>np1 (e▸hb))
     have Z2:=((Q2.pure E19).ext X20 (fun b h1 h2=>d23' b h1 h2)).ext X21 (fun b hb e=>np2 (e▸hb))
     have Z3:=R20.ext X21 (fun b hb e=>np3 (e▸hb))
     have hl1:(t1.len:Int)=L.length+1:=by rw [R14.len];simp
     refine ⟨p,rfl,t1,B21.cell0,?_⟩
     rw [hl1]
     refine hK _ _ _ ⟨by rw [hmk],fun b=>b=p.block∨t1.blk b∨t2.blk b∨t3.blk b,?_,?_,?_⟩
     ·rw [hmk]
      exact ⟨t1,t2,t3,⟨B21,by simpa [jLQ] using Z1,by simpa [jLP] using Z2,by simpa [jHL] using Z3,np1,np2,np3,d12'',d13'',d23''⟩,fun _=>Iff.rfl⟩
     ·have a1:Ext F w0 w14:=(E11'.trans E13).pure.trans' X14 (fun i _ h=>(hF i).2 (.inr (.inl h)))
      have a2:Ext F w0 w15:=a1.trans' X15 (fun i _ h=>(hF i).2 (.inl h))
      have a3:Ext F w0 w17:=(a2.thenPure E16).trans' X17 (fun i _ h=>(hF i).2 (.inr (.inr (.inl h))))
      have a4:Ext F w0 w18:=a3.trans' X18 (fun i _ h=>(hF i).2 (.inl h))
      have a5:Ext F w0 w20:=(a4.thenPure E19).trans' X20 (fun i _ h=>(hF i).2 (.inr (.inr (.inr h))))
      exact a5.trans' X21 (fun i _ h=>(hF i).2 (.inl h))
     ·have z13:w0.heap.size≤w13.heap.size:=(E11'.trans E13).size
      have z16:w0.heap.size≤w16.heap.size:=by have:=X14.size;have:=X15.size;have:=E16.size;omega
      have z19:w0.heap.size≤w19.heap.size:=by have:=X17.size;have:=X18.size;have:=E19.size;omega
      rintro b (rfl | hb | hb | hb)
      ·exact .inl hpF
      ·exact (nb1 b hb).imp (fun h=>(hF b).2 (.inr (.inl h))) (fun h=>by omega)
      ·exact (nb2 b hb).imp (fun h=>(hF b).2 (.inr (.inr (.inl h)))) (fun h=>by omega)
      ·exact (nb3 b hb).imp (fun h=>(hF b).2 (.inr (.inr (.inr h)))) (fun h=>by omega)
 have J2:∀(x2:Bool) (H:NP) (w:World),Hst w0 H w H w→Pure w0 w→x2=(decide (1≤(Sp.shapeOf k).kids) && !Sp.inP L a)→m_L_j2 (some p) k f t u x a b x2 w0 H w K:=by
  intro x2 H w hs E hx;unfold m_L_j2;rw [hkd];refine ⟨fun h=>J1 true H w hs E (by rw [← hx,h];rfl),fun h=>⟨fun h2=>?_,fun h2=>J1 false H w hs E ?_⟩⟩
  ·refine (qA p b w (hP.pure E)).mono ?_;rintro _ _ ⟨_,rfl,rfl,rfl⟩;refine ⟨_,rfl,Kept.refl _,J1 _ H _ hs E ?_⟩;have h2:(Sp.shapeOf k).kids=2:=by simpa using h2
   rw [← hx,h];simp [h2]
  ·have h2:(Sp.shapeOf k).kids≠2:=by simpa using h2
   rw [← hx,h];simp [h2]
 refine ⟨fun h=>?_,fun h=>?_⟩
 ·intro H1 w3 hs3
  refine (qA p a w3 (hP.pure hs3.first)).mono ?_
  rintro _ _ ⟨_,rfl,rfl,rfl⟩
  refine ⟨_,rfl,Kept.refl _,J2 _ H1 _ hs3.here hs3.first ?_⟩
  have:1≤(Sp.shapeOf k).kids:=by have:=of_decide_eq_true h;omega
  simp [this]
 ·intro H1 w3 hs3
  refine J2 _ H1 _ hs3.here hs3.first ?_
  have:¬ 1≤(Sp.shapeOf k).kids:=by have:=of_decide_eq_false h;omega
  simp [this]
theorem jCC (s:Sp.Shape) (n:Sp.Node):Sp.jV s n≠53:=by
 unfold Sp.jV;split
 ·omega
 ·split <;> omega
theorem jHP (k f t u:Int) (x:ByteArray) (len:Nat):Sp.zW ⟨k,f,t,u,x,0,0⟩ len=(if (Sp.nodeErr ⟨k,f,t,u,x,0,0⟩≠53∧(len:Int)≠(Sp.shapeOf k).kids) then 53 else Sp.nodeErr ⟨k,f,t,u,x,0,0⟩):=by
 unfold Sp.zW Sp.nodeErr;simp only;rcases xE ⟨k,f,t,u,x,0,0⟩ with h | h
 ·rw [h];simp
 ·rw [h];have:=jCC (Sp.shapeOf k) ⟨k,f,t,u,x,0,0⟩;by_cases h2:(len:Int)=(Sp.shapeOf k).kids <;> simp [h2,this]
theorem oS {S:NP} (q:Addr) (hq:¬ S q.block) (T:TypeId) (t:Sp.Tree):∀(s:Sl) (inside seen:Int) (w0:World),0≤inside→0≤seen→TreeAt S w0 s t→(∀b,S b→b<w0.heap.size)→Box w0 q [.int .i64 seen] T →
  Calls prog 110 #[.agg (kK t s).toArray,.int .i64 inside,.pointer (some q)] w0
   (fun e w'=>∃r:Int,e=.returned (.int .i64 r)∧(r=(Sp.looks inside seen t).1∧Box w' q [.int .i64 (Sp.looks inside seen t).2] T∧Ext (·=q.block) w0 w')):=by
 induction t using Sp.Tree.ind with
 | h k f t u x ks ih =>
 intro s inside seen w0 hi0 hn0 hT hSw hB
 suffices key:∀K:Int→WP,(∀r w',(r=(Sp.looks inside seen (.mk k f t u x ks)).1∧Box w' q [.int .i64 (Sp.looks inside seen (.mk k f t u x ks)).2] T∧Ext (·=q.block) w0 w')→K r w')→m_Q k f t u x s inside (some q) w0 K from
  w_Q _ _ _ _ _ _ _ _ w0 _ (key _ (fun _ _ h=>h))
 intro K hK
 have hql:=hB.lt
 unfold m_Q
 refine ⟨q,rfl,?_⟩
 intro H1 w1 hs1
 have hB1:=hB.pure hs1.first
 refine ⟨seen,hB1.cell0,?_⟩
 intro H5 w13 hs5
 have E13:=hs1.first.hst hs5
 have hB13:=hB.pure E13
 have hq0:∀{H w' H' w''},Hst w0 H w' H' w''→¬ H' q.block:=fun h hh=>by have:=h.old _ hh;omega
 unfold m_Q_j1
 refine ⟨fun h=>?_,fun h=>?_⟩
 ·have : Sp.looks inside seen (.mk k f t u x ks) = (52, seen) := by
   rw [Sp.looks];simp only [Bool.or_eq_true,decide_eq_true_eq] at h;by_cases h1:4096≤seen
   ·rw [if_pos h1]
   ·rw [if_neg h1,if_pos (by omega)]
  rw [this] at hK;exact hK _ _ ⟨rfl,hB13,E13.pure⟩
 ·have h1 : ¬ 4096 ≤ seen ∧ ¬ 64 ≤ inside := by
   simp only [Bool.or_eq_false_iff,decide_eq_false_iff_not] at h;omega
  have hsp:Sp.looks inside seen (.mk k f t u x ks)=Sp.zE (inside+1) (Sp.zW ⟨k,f,t,u,x,0,0⟩ ks.length) (seen+1) ks:=by rw [Sp.looks,if_neg h1.1,if_neg h1.2]
  rw [hsp] at hK
  have hlen:s.len=ks.length:=by cases hT;assumption
  have hfit:ks.length≤9223372036854775807:=by cases hT;assumption
  refine ⟨q,rfl,seen,hB13.cell0,q,rfl,hB13.canW0 (by simp),hq0 hs5,?_⟩
  rw [i64 (n:=seen+1) (by omega) (by omega)]
  rintro w2 hw2
  have hB2:Box w2 q [.int .i64 (seen+1)] T:=by rw [hw2];exact hB13.set0
  have E2:Ext (·=q.block) w0 w2:=by rw [hw2];exact E13.pure.trans (Ext.setCell q _)
  clear hw2
  rintro y1 rfl
  have hsh:=lV ⟨k,f,t,u,x,0,0⟩
  simp only at hsh
  rw [hsh,yA,hlen]
  have hown:cond ((Sp.nodeErr ⟨k,f,t,u,x,0,0⟩ != 53) && ((ks.length:Int) != (Sp.shapeOf k).kids)) 53 (Sp.nodeErr ⟨k,f,t,u,x,0,0⟩)=Sp.zW ⟨k,f,t,u,x,0,0⟩ ks.length:=by
   rw [jHP];by_cases h2:Sp.nodeErr ⟨k,f,t,u,x,0,0⟩=53
   ·simp [h2]
   ·by_cases h3:(ks.length:Int)=(Sp.shapeOf k).kids
    ·simp [h3]
    ·have e1:(Sp.nodeErr ⟨k,f,t,u,x,0,0⟩ != 53)=true:=by simpa using h2
     have e2:((ks.length:Int) != (Sp.shapeOf k).kids)=true:=by simpa using h3
     rw [e1,e2,if_pos ⟨h2,h3⟩];rfl
  rw [hown]
  intro H3 w10 hs3
  have E10:Ext (·=q.block) w0 w10:=E2.hst hs3
  have hB10:=hB2.ext hs3.ext (hq0 hs3)
  refine ⟨fun e i H w'=>∃j:Nat,i=j∧j≤ks.length∧∃n:Int,0≤n∧Ext (·=q.block) w0 w'∧Box w' q [.int .i64 n] T∧Sp.zE (inside+1) e n (ks.drop j)=Sp.zE (inside+1) (Sp.zW ⟨k,f,t,u,x,0,0⟩ ks.length) (seen+1) ks,fun _ i _=>((ks.length:Int) - i).toNat,⟨0,rfl,Nat.zero_le _,seen+1,by omega,E10,hB10,rfl⟩,?_⟩
  rintro e1 _ Hl wl hl ⟨j,rfl,hj,n,hn,El,hBl,heq⟩
  unfold m_Q_l2
  have hTl:=hT.ext El (fun b hb e=>hq (e▸hb))
  refine ⟨fun hc=>?_,fun hc=>?_⟩
  ·simp only [Bool.and_eq_true,beq_iff_eq] at hc
   obtain ⟨he,hlt⟩:=hc
   have hlt:=qH hlen hlt
   subst he
   cases hTl with
   | mk _ _ _ _ _ _ _ rs len fit row kid =>
   obtain ⟨a,hat,ha,hr⟩:=row j hlt
   refine ⟨a,hat,?_⟩
   intro H4 w11 hs4
   have E11:=El.hst hs4
   have hT11:=hT.ext E11 (fun b hb e=>hq (e▸hb))
   have hr11:Row w11 a (kK ks[j] (rs j)):=hs4.ext.row hr (fun hh=>by have:=hs4.old _ hh;have:=hSw _ ha;omega)
   have hk11:TreeAt S w11 (rs j) ks[j]:=(kid j hlt).ext hs4.ext (fun b hb hh=>by have:=hs4.old _ hh;have:=hSw _ hb;omega)
   have hB11:=hBl.ext hs4.ext (hq0 hs4)
   refine ⟨_,_,_,_,_,rs j,hr11,?_⟩
   rw [i64 (n:=inside+1) (by omega) (by omega)]
   refine (ih j hlt (rs j) (inside+1) n w11 (by omega) hn hk11 (fun b hb=>by have:=hSw b hb;have:=E11.size;omega) hB11).mono ?_
   rintro _ w12 ⟨r,rfl,rfl,hB12,E12⟩
   refine ⟨_,rfl,E12.kept (fun b hb e=>hq0 hs4 (e▸hb)),?_⟩
   rw [kX hlt (by omega)]
   refine ⟨⟨j+1,rfl,hlt,_,tE ks[j] (inside+1) n hn,E11.trans E12,hB12,?_⟩,gD hlt⟩
   rw [← heq];exact (gE hlt (inside+1) n).symm
  ·intro H4 w11 hs4
   have hfin:Sp.zE (inside+1) e1 n (ks.drop j)=(e1,n):=by
    by_cases he:e1=0
    ·have hge : j = ks.length := by
      rw [he] at hc;have hc:decide ((j:Int)<(s.len:Int))=false:=by simpa using hc
      exact qJ hlen hj hc
     rw [hge,List.drop_length];rfl
    ·exact xG he _ _
   rw [hfin] at heq
   refine hK _ _ ⟨by rw [← heq],?_,El.hst hs4⟩
   rw [← heq];exact hBl.ext hs4.ext (hq0 hs4)
theorem gG {S:NP} (t:Sp.Tree) (s:Sl) (w0:World) (hT:TreeAt S w0 s t) (hSw:∀b,S b→b<w0.heap.size) :
  Calls prog 57 #[.agg (kK t s).toArray] w0 (fun e w'=>∃r:Int,e=.returned (.int .i64 r)∧(r=(Sp.looks 0 0 t).1∧Pure w0 w')):=by
 obtain ⟨k,f,to,u,x,ks⟩:=t
 refine w_W1 _ _ _ _ _ _ w0 (fun r w'=>r=(Sp.looks 0 0 (.mk k f to u x ks)).1∧Pure w0 w') ?_
 unfold m_W1
 intro H1 w1 hs1 p w2 h2
 have b2:=Box.of_new h2
 have E2:Pure w0 w2:=hs1.first.trans (Ext.new h2)
 have o2:=New.own hs1.first h2
 have hpH:¬ H1 p.block:=fun hh=>by have:=hs1.lt _ hh;have:=h2.at_size;omega
 refine ⟨b2.canW0 (by simp),hpH,?_⟩
 rintro w3 hw3
 have b3:Box w3 p [.int .i64 0] 3:=by rw [hw3];exact b2.set0
 have E3:Pure w0 w3:=by rw [hw3];exact E2.own o2 (Ext.setCell p _)
 clear hw3
 refine (oS p (fun h=>by have:=hSw _ h;omega) _ _ s 0 0 w3 (Int.le_refl _) (Int.le_refl _) (hT.pure E3) (fun b hb=>by have:=hSw b hb;have:=E3.size;omega) b3).mono ?_
 rintro _ w4 ⟨r,rfl,rfl,_,E4⟩
 exact ⟨_,rfl,E4.kept (fun b hb e=>hpH (e▸hb)),rfl,E3.own o2 E4⟩
theorem jEB (p:Addr) (n:Nat) (w0:World) {L:Sp.Pool} {F:NP} (hP:vD w0 p L F) (hn:n≤L.length) :
  Calls prog 59 #[.pointer (some p),.int .i64 n] w0 (fun e w'=>e=.returned (.tuple #[])∧vD w' p (L.take n) F∧Ext F w0 w'):=by
 suffices key:∀K:WP,(∀w',vD w' p (L.take n) F∧Ext F w0 w'→K w')→m_P1 (some p) n w0 K from
  w_P1 _ _ w0 _ (key _ (fun _ h=>h))
 intro K hK
 unfold m_P1
 obtain ⟨s1,s2,s3,hS,hF⟩:=hP
 obtain ⟨t1,hr1,R1,hb1⟩:=Rws.hi (P:=prog) jEH hS.r1 (k:=.i64) (n:=n) (by omega) (by simpa using hn)
 refine ⟨p,rfl,s1,hS.box.cell0,t1,hr1,p,rfl,hS.box.canW0 (by simp),?_⟩
 rintro w1 hw1
 have B1:Box w1 p [t1.v,s2.v,s3.v] 52:=by rw [hw1];exact hS.box.set0
 have X1:Ext (·=p.block) w0 w1:=by rw [hw1];exact Ext.setCell p _
 clear hw1
 obtain ⟨t2,hr2,R2,hb2⟩:=Rws.hi (P:=prog) jAD (hS.r2.ext X1 (fun b hb e=>hS.n2 (e▸hb))) (k:=.i64) (n:=n) (by omega) (by simpa using hn)
 refine ⟨p,rfl,s2,B1.cell rfl,t2,hr2,p,rfl,B1.canW (by simp),?_⟩
 rintro w2 hw2
 have B2:Box w2 p [t1.v,t2.v,s3.v] 52:=by rw [hw2];exact B1.set 1 _
 have X2:Ext (·=p.block) w1 w2:=by rw [hw2];have:=Ext.setCell (w:=w1) (p.add 1) t2.v;rw [zN] at this;exact this
 clear hw2
 obtain ⟨t3,hr3,R3,hb3⟩:=Rws.hi (P:=prog) jAD (hS.r3.ext (X1.trans X2) (fun b hb e=>hS.n3 (e▸hb))) (k:=.i64) (n:=n) (by omega) (by simpa using hn)
 refine ⟨p,rfl,s3,B2.cell rfl,t3,hr3,p,rfl,B2.canW (by simp),?_⟩
 rintro w3 hw3
 have B3:Box w3 p [t1.v,t2.v,t3.v] 52:=by rw [hw3];exact B2.set 2 _
 have X3:Ext (·=p.block) w2 w3:=by rw [hw3];have:=Ext.setCell (w:=w2) (p.add 2) t3.v;rw [zN] at this;exact this
 clear hw3
 have E:=(X1.trans X2).trans X3
 refine hK _ ⟨⟨t1,t2,t3,⟨B3,?_,?_,?_,fun h=>hS.n1 ((hb1 _).1 h),fun h=>hS.n2 ((hb2 _).1 h),fun h=>hS.n3 ((hb3 _).1 h),fun b h1 h2=>hS.d12 b ((hb1 b).1 h1) ((hb2 b).1 h2),fun b h1 h2=>hS.d13 b ((hb1 b).1 h1) ((hb3 b).1 h2),fun b h1 h2=>hS.d23 b ((hb2 b).1 h1) ((hb3 b).1 h2)⟩,fun b=>by rw [hF b,hb1 b,hb2 b,hb3 b]⟩,E.mono (fun i _ h=>(hF i).2 (.inl h))⟩
 ·have:=R1.ext E (fun b hb e=>hS.n1 ((hb1 _).1 (e▸hb)))
  rw [List.map_take];simpa using this
 ·have:=R2.ext (X2.trans X3) (fun b hb e=>hS.n2 ((hb2 _).1 (e▸hb)))
  rw [List.map_take];simpa using this
 ·have:=R3.ext X3 (fun b hb e=>hS.n3 ((hb3 _).1 (e▸hb)))
  rw [List.map_take];simpa using this
theorem jCN {S:NP} (p:Addr) (t:Sp.Tree):∀(s:Sl) (w0:World) (L:Sp.Pool) (F:NP),Sp.Tree.two t→TreeAt S w0 s t→vD w0 p L F→Sp.Ok L→(∀b,F b→¬ S b)→(∀b,S b→b<w0.heap.size) →
  Calls prog 58 #[.pointer (some p),.agg (kK t s).toArray] w0
   (fun e w'=>∃r1:Int,∃r2:Int,e=.returned (.tuple #[.int .i64 r1,.int .i64 r2])∧((r1,r2)=((Sp.grow L t).1,(Sp.grow L t).2.1)∧∃F',vD w' p (Sp.grow L t).2.2 F'∧Ext F w0 w'∧∀b,F' b→F b∨w0.heap.size≤b)):=by
 induction t using Sp.Tree.ind with
 | h k f t u x ks ih =>
 intro s w0 L F h2 hT hP hok hFS hSw
 suffices key:∀K:Int→Int→WP,(∀r1 r2 w',((r1,r2)=((Sp.grow L (.mk k f t u x ks)).1,(Sp.grow L (.mk k f t u x ks)).2.1)∧∃F',vD w' p (Sp.grow L (.mk k f t u x ks)).2.2 F'∧Ext F w0 w'∧∀b,F' b→F b∨w0.heap.size≤b)→K r1 r2 w')→m_B1 (some p) k f t u x s w0 K from
  w_B1 _ _ _ _ _ _ _ w0 _ (key _ (fun _ _ _ h=>h))
 intro K hK
 obtain ⟨hk2,hall⟩:=jGQ.1 h2
 have hsp:Sp.grow L (.mk k f t u x ks)=Sp.jZ ⟨k,f,t,u,x,0,0⟩ 0 L ks:=by rw [Sp.grow]
 rw [hsp] at hK
 have hlen:s.len=ks.length:=by cases hT;assumption
 unfold m_B1
 intro H2 w4 hs4
 refine ⟨fun i a1 a2 a3 a4 a5 a6 a7 H w'=>∃j:Nat,i=j∧j≤ks.length∧∃(L':Sp.Pool) (F':NP),Sp.jZ ⟨k,f,t,u,x,0,0⟩ 0 L ks=Sp.jZ ⟨a1,a2,a3,a4,a5,a6,a7⟩ j L' (ks.drop j)∧Sp.Ok L'∧vD w' p L' F'∧(∀b,F' b→F b∨w0.heap.size≤b)∧(∀b,F' b→¬ H b)∧Ext F w0 w',fun i _ _ _ _ _ _ _ _=>((ks.length:Int) - i).toNat,
  ⟨0,rfl,Nat.zero_le _,L,F,by simp,hok,hP.pure hs4.first,fun b h=>.inl h,hs4.disj0 (fun b hb=>hP.lt hb),hs4.first.pure⟩,?_⟩
 rintro _ a1 a2 a3 a4 a5 a6 a7 Hl wl hl ⟨j,rfl,hj,L',F',heq,hok',hPl,hF',hv,El⟩
 unfold m_B1_l1
 refine ⟨fun h=>?_,fun h=>?_⟩
 ·have hlt:=qH hlen h
  have hTl:TreeAt S wl s (.mk k f t u x ks):=hT.ext El (fun b hs hf=>hFS b hf hs)
  have hkid:∃a r,At s j 6 a∧Row wl a (kK ks[j] r)∧TreeAt S wl r ks[j]:=by
   cases hTl with
   | mk _ _ _ _ _ _ _ rs len fit row kid=>exact let ⟨a,h1,_,h3⟩:=row j hlt;⟨a,rs j,h1,h3,kid j hlt⟩
  obtain ⟨a,r,hat,hrow,hTk⟩:=hkid
  refine ⟨a,hat,_,_,_,_,_,r,hrow,?_⟩
  have hsz:w0.heap.size≤wl.heap.size:=El.size
  refine (ih j hlt r wl L' F' (oW hall hlt) hTk hPl hok' (fun b hb hs=>(hF' b hb).elim (fun h=>hFS b h hs) (fun h=>by have:=hSw b hs;omega)) (fun b hs=>by have:=hSw b hs;omega)).mono ?_
  rintro _ w8 ⟨r1,r2,rfl,hr,F8,hP8,E8,hF8⟩
  have e1:r1=(Sp.grow L' ks[j]).1:=congrArg Prod.fst hr
  have e2:r2=(Sp.grow L' ks[j]).2.1:=congrArg Prod.snd hr
  rw [List.drop_eq_getElem_cons hlt] at heq
  have hF8':∀b,F8 b→F b∨w0.heap.size≤b:=fun b hb=>(hF8 b hb).elim (hF' b) (fun h=>by right;omega)
  have Ew8:Ext F w0 w8:=El.trans' E8 (fun i hi h=>(hF' i h).elim id (fun h=>by omega))
  refine ⟨_,_,rfl,E8.kept (fun b hH hF=>hv b hF hH),fun h=>?_,fun h=>?_⟩
  ·have h:(Sp.grow L' ks[j]).2.1≠0:=by rw [← e2];simpa using h
   rw [oG h] at heq
   refine hK _ _ _ ?_
   rw [heq];exact ⟨by rw [e2],F8,hP8,Ew8,hF8'⟩
  ·have h:(Sp.grow L' ks[j]).2.1=0:=by rw [← e2];simpa using h
   rw [xH h] at heq
   intro H3 w9 hs9
   have hv8:∀b,F8 b→¬ Hl b:=fun b hb hH=>(hF8 b hb).elim (fun h=>hv b h hH) (fun h=>by have:=hl.lt b hH;omega)
   have hv9:∀b,F8 b→¬ H3 b:=hs9.disj (fun b hb=>⟨hP8.lt hb,hv8 b hb⟩)
   rw [kX hlt (by omega)]
   refine ⟨⟨j+1,rfl,hlt,_,F8,?_,(Sp.yG ks[j] L' hok').1,hP8.ext hs9.ext hv9,hF8',hv9,Ew8.hst hs9⟩,gD hlt⟩
   rw [heq,e1]
   have hj0:(((j:Int)) == 0)=decide (j=0):=by rw [Bool.eq_iff_iff];simp
   rw [hj0]
   by_cases hj0':j=0
   ·subst hj0';rfl
   ·simp [hj0']
 ·have hge:=qJ hlen hj h
  rw [hge,List.drop_length,Sp.jZ] at heq
  refine (jCR p ⟨a1,a2,a3,a4,a5,a6,a7⟩ wl hPl hok').mono ?_
  rintro _ w9 ⟨r1,r2,rfl,hr,F9,hP9,E9,hF9⟩
  have hsz:w0.heap.size≤wl.heap.size:=El.size
  refine ⟨_,_,rfl,E9.kept (fun b hH hF=>hv b hF hH),hK _ _ _ ?_⟩
  rw [heq]
  exact ⟨hr,F9,hP9,El.trans' E9 (fun i hi h=>(hF' i h).elim id (fun h=>by omega)),fun b hb=>(hF9 b hb).elim (hF' b) (fun h=>by right;omega)⟩
theorem jAJ (t:Sp.Tree):∀L,(Sp.grow L t).2.1≠0→(Sp.grow L t).1=0:=by
 induction t using Sp.Tree.ind with
 | h k f t u x ks ih =>
  have hmk:∀L n,(Sp.make L n).2.1≠0→(Sp.make L n).1=0:=by
   intro L n h;unfold Sp.make at h ⊢;simp only at h ⊢;split at h
   ·rename_i h1;rw [if_pos h1]
   ·rename_i h1;rw [if_neg h1];split at h
    ·rename_i hf;exact absurd rfl h
    ·split at h
     ·rename_i h2;simp [h2]
     ·exact absurd rfl h
  have:∀(ks:List Sp.Tree),(∀i (hi:i<ks.length),∀L,(Sp.grow L ks[i]).2.1≠0→(Sp.grow L ks[i]).1=0)→∀n i L,(Sp.jZ n i L ks).2.1≠0→(Sp.jZ n i L ks).1=0:=by
   intro ks;induction ks with
   | nil=>intro _ n i L h;unfold Sp.jZ at h ⊢;exact hmk L n h
   | cons t ts iht =>
    intro hh n i L h
    unfold Sp.jZ at h ⊢
    split at h
    ·rename_i h1;rw [if_pos h1]
    ·rename_i h1;rw [if_neg h1];exact iht (fun i hi=>hh (i+1) (by simpa using hi)) _ _ _ h
  intro L h
  unfold Sp.grow at h ⊢
  exact this ks ih _ _ L h
theorem tP {S:NP} (p:Addr) (t:Sp.Tree) (s:Sl) (w0:World) {L:Sp.Pool} {F:NP} (hT:TreeAt S w0 s t) (hP:vD w0 p L F) (hok:Sp.Ok L) (hFS:∀b,F b→¬ S b) (hSw:∀b,S b→b<w0.heap.size) :
  Calls prog 14 #[.pointer (some p),.agg (kK t s).toArray] w0
   (fun e w'=>∃r1:Int,∃r2:Int,e=.returned (.tuple #[.int .i64 r1,.int .i64 r2])∧((r1,r2)=((Sp.of L t).1,(Sp.of L t).2.1)∧∃F',vD w' p (Sp.of L t).2.2 F'∧Ext F w0 w'∧∀b,F' b→F b∨w0.heap.size≤b)):=by
 obtain ⟨k,f,to,u,x,ks⟩:=t
 suffices key:∀K:Int→Int→WP,(∀r1 r2 w',((r1,r2)=((Sp.of L (.mk k f to u x ks)).1,(Sp.of L (.mk k f to u x ks)).2.1)∧∃F',vD w' p (Sp.of L (.mk k f to u x ks)).2.2 F'∧Ext F w0 w'∧∀b,F' b→F b∨w0.heap.size≤b)→K r1 r2 w')→m_Q1 (some p) k f to u x s w0 K from
  w_Q1 _ _ _ _ _ _ _ w0 _ (key _ (fun _ _ _ h=>h))
 intro K hK
 unfold m_Q1
 intro H1 w1 hs1
 have E1:=hs1.first
 generalize ht:Sp.Tree.mk k f to u x ks=t at *
 have htr:(Value.agg #[.int .i64 k,.int .i64 f,.int .i64 to,.int .u64 u,.string x,s.v])=.agg (kK t s).toArray:=by rw [← ht];rfl
 rw [htr]
 refine (gG t s w1 (hT.pure E1) (fun b hb=>by have:=hSw b hb;have:=E1.size;omega)).mono ?_
 rintro _ w2 ⟨r1,rfl,rfl,E2⟩
 have E12:=E1.trans E2
 refine ⟨_,rfl,E2.keptP,fun h=>?_,fun h=>?_⟩
 ·have h:(Sp.looks 0 0 t).1≠0:=by simpa using h
  have:Sp.of L t=(0,(Sp.looks 0 0 t).1,L):=by rw [Sp.of,if_pos h]
  refine hK _ _ _ ?_
  rw [this];exact ⟨rfl,F,hP.pure E12,E12.pure,fun _ h=>.inl h⟩
 ·have h:(Sp.looks 0 0 t).1=0:=by simpa using h
  have hP2:=hP.pure E12
  have hv:∀b,F b→¬ H1 b:=hs1.disj0 (fun b hb=>hP.lt hb)
  obtain ⟨s1,s2,s3,hS,hF0⟩:=id hP2
  have hl0:s1.len=L.length:=by rw [hS.r1.len];simp
  refine ⟨p,rfl,s1,hS.box.cell0,?_⟩
  refine (jCN p t s w2 L F (jBR t _ _ h) (hT.pure E12) hP2 hok hFS (fun b hb=>by have:=hSw b hb;have:=E12.size;omega)).mono ?_
  rintro _ w5 ⟨r1,r2,rfl,hr,F5,hP5,E5,hF5⟩
  have e1:r1=(Sp.grow L t).1:=congrArg Prod.fst hr
  have e2:r2=(Sp.grow L t).2.1:=congrArg Prod.snd hr
  have hs4:w0.heap.size≤w2.heap.size:=E12.size
  have E05:Ext F w0 w5:=E12.pure.trans E5
  have hF5':∀b,F5 b→F b∨w0.heap.size≤b:=fun b hb=>(hF5 b hb).elim .inl (fun h=>.inr (by omega))
  have hs2:=hs1.again E2.keptP
  have hv5:∀b,F5 b→¬ H1 b:=fun b hb hH=>(hF5 b hb).elim (fun h=>hv b h hH) (fun h=>by have:=hs2.lt b hH;omega)
  refine ⟨_,_,rfl,E5.kept (fun b hH hF=>hv b hF hH),fun h'=>?_,fun h'=>?_⟩
  ·have h':(Sp.grow L t).2.1≠0:=by rw [← e2];simpa using h'
   obtain ⟨hok5,M,hM⟩:=Sp.yG t L hok
   rw [hl0]
   refine (jEB p L.length w5 hP5 (by rw [hM];simp)).mono ?_
   rintro _ w6 ⟨rfl,hP6,E6⟩
   have:Sp.of L t=(0,(Sp.grow L t).2.1,L):=by rw [Sp.of,if_neg (by simp [h]),if_pos h']
   refine ⟨rfl,E6.kept (fun b hH hF=>hv5 b hF hH),hK _ _ _ ?_⟩
   rw [this]
   rw [hM,List.take_left] at hP6
   exact ⟨by rw [e1,e2,jAJ t L h'],F5,hP6,E05.trans' E6 (fun i hi h=>(hF5' i h).elim id (fun h=>by omega)),hF5'⟩
  ·have h':(Sp.grow L t).2.1=0:=by rw [← e2];simpa using h'
   have:Sp.of L t=((Sp.grow L t).1,0,(Sp.grow L t).2.2):=by rw [Sp.of,if_neg (by simp [h]),if_neg (by simp [h'])]
   refine hK _ _ _ ?_
   rw [this]
   exact ⟨by rw [e1,e2,h'],F5,hP5,E05,hF5'⟩
theorem TreeAt.hst {S:NP} {w0 w w':World} {H H':NP} {s:Sl} {t:Sp.Tree} (h:TreeAt S w s t) (hs:Hst w0 H w H' w') (hd:∀b,S b→b<w.heap.size∧¬ H b):TreeAt S w' s t :=
 h.ext hs.ext (fun b hb hh=>hs.disj (G:=S) hd b hb hh)
theorem jAO {S:NP} (t:Sp.Tree):∀(s:Sl) (most:Int) (w0:World),0≤most→most≤1000000000→TreeAt S w0 s t→(∀b,S b→b<w0.heap.size) →
  Calls prog 10 #[.agg (kK t s).toArray,.int .i64 most] w0 (fun e w'=>∃r:Int,e=.returned (.int .i64 r)∧(r=Sp.uI most t∧Pure w0 w')):=by
 induction t using Sp.Tree.ind with
 | h k f t u x ks ih =>
 intro s most w0 hm0 hm hT hSw
 suffices key:∀K:Int→WP,(∀r w',(r=Sp.uI most (.mk k f t u x ks)∧Pure w0 w')→K r w')→m_Z k f t u x s most w0 K from
  w_Z _ _ _ _ _ _ _ w0 _ (key _ (fun _ _ h=>h))
 intro K hK
 have hlen:s.len=ks.length:=by cases hT;assumption
 have hfit:ks.length≤9223372036854775807:=by cases hT;assumption
 unfold m_Z
 intro H1 w1 hs1
 refine ⟨fun n i H w'=>∃j:Nat,i=j∧j≤ks.length∧1≤n∧n≤most+1∧Pure w0 w'∧Sp.vB most 1 ks=Sp.vB most n (ks.drop j),fun _ i _=>((ks.length:Int) - i).toNat,⟨0,rfl,Nat.zero_le _,Int.le_refl _,by omega,hs1.first,rfl⟩,?_⟩
 rintro n _ Hl wl hl ⟨j,rfl,hj,hn1,hn2,El,heq⟩
 unfold m_Z_l1
 refine ⟨fun hc=>?_,fun hc=>?_⟩
 ·simp only [Bool.and_eq_true,decide_eq_true_eq] at hc
  have hlt:j<ks.length:=by omega
  rw [List.drop_eq_getElem_cons hlt,Sp.vB,if_pos hc.2] at heq
  have hT1:=hT.pure El
  cases hT1 with
  | mk _ _ _ _ _ _ _ rs len fit row kid =>
  obtain ⟨a,hat,ha,hr⟩:=row j hlt
  refine ⟨a,hat,?_⟩
  intro H2 w2 hs2
  have hd:∀b,S b→¬ H2 b:=fun b hb hh=>by have:=hs2.old _ hh;have:=hSw b hb;omega
  refine ⟨_,_,_,_,_,rs j,hs2.ext.row hr (hd _ ha),?_⟩
  rw [i64 (n:=most - n) (by omega) (by omega)]
  refine (ih j hlt (rs j) (most - n) w2 (by omega) (by omega) ((kid j hlt).ext hs2.ext hd) (fun b hb=>by have:=hSw b hb;have:=(El.hst hs2).size;omega)).mono ?_
  rintro _ w3 ⟨r,rfl,rfl,E3⟩
  have hpf:=Sp.lZ ks[j] (most - n) (by omega)
  refine ⟨_,rfl,E3.keptP,?_⟩
  rw [kX hlt (by omega),i64 (n:=n+Sp.uI (most - n) ks[j]) (by omega) (by omega)]
  exact ⟨⟨j+1,rfl,hlt,by omega,by omega,(El.hst hs2).trans E3,heq⟩,gD hlt⟩
 ·intro H2 w2 hs2
  refine hK _ _ ⟨?_,El.hst hs2⟩
  rw [Sp.uI,heq]
  by_cases hj2:j=ks.length
  ·rw [hj2,List.drop_length];rfl
  ·have hlt:j<ks.length:=by omega
   rw [List.drop_eq_getElem_cons hlt,Sp.vB,if_neg]
   intro h
   have:decide (n≤most)=true:=decide_eq_true h
   have h2:decide ((j:Int)<(s.len:Int))=true:=decide_eq_true (by omega)
   rw [this,h2] at hc;cases hc
theorem jBI {xs ys:List Sp.Tree} {j:Nat} (hl:xs.length=ys.length) (hj:j<xs.length):Sp.vQ (xs.drop j) (ys.drop j)=(Sp.oZ xs[j] (ys[j]'(by omega)) && Sp.vQ (xs.drop (j+1)) (ys.drop (j+1))):=by
 rw [List.drop_eq_getElem_cons hj,List.drop_eq_getElem_cons (show j<ys.length by omega),Sp.vQ]
theorem lT:∀{xs ys:List Sp.Tree},Sp.vQ xs ys=true→xs.length=ys.length
 | [],[],_=>rfl
 | a :: xs,b :: ys,h=>by simp only [Sp.vQ,Bool.and_eq_true] at h;simp [lT h.2]
 | [],b :: ys,h=>by simp [Sp.vQ] at h
 | a :: xs,[],h=>by simp [Sp.vQ] at h
theorem jCP {S:NP} (t:Sp.Tree):∀(t':Sp.Tree) (s s':Sl) (w0:World),TreeAt S w0 s t→TreeAt S w0 s' t'→(∀b,S b→b<w0.heap.size) →
  Calls prog 37 #[.agg (kK t s).toArray,.agg (kK t' s').toArray] w0 (fun e w'=>∃r:Bool,e=.returned (.bool r)∧(r=Sp.oZ t t'∧Pure w0 w')):=by
 induction t using Sp.Tree.ind with
 | h k f t u x ks ih =>
 intro t' s s' w0 hT hT' hSw
 obtain ⟨k',f',tt',u',x',ks'⟩:=t'
 suffices key:∀K:Bool→WP,(∀r w',(r=Sp.oZ (.mk k f t u x ks) (.mk k' f' tt' u' x' ks')∧Pure w0 w')→K r w')→m_C1 k f t u x s k' f' tt' u' x' s' w0 K from
  w_C1 _ _ _ _ _ _ _ _ _ _ _ _ w0 _ (key _ (fun _ _ h=>h))
 intro K hK
 have hlen:s.len=ks.length:=by cases hT;assumption
 have hlen':s'.len=ks'.length:=by cases hT';assumption
 have hfit:ks.length≤9223372036854775807:=by cases hT;assumption
 unfold m_C1
 rintro y1 rfl
 refine ⟨fun h=>?_,fun h=>?_⟩
 ·intro H7 w7 hs7
  refine hK _ _ ⟨?_,hs7.first⟩
  symm
  apply Bool.eq_false_iff.2
  intro hs
  simp only [Sp.oZ,Bool.and_eq_true,decide_eq_true_eq] at hs
  obtain ⟨⟨⟨⟨⟨rfl,rfl⟩,rfl⟩,rfl⟩,rfl⟩,h6⟩:=hs
  have:=lT h6
  simp [hlen,hlen',this] at h
 ·have hne : k = k' ∧ f = f' ∧ t = tt' ∧ u = u' ∧ x = x' ∧ ks.length = ks'.length := by
   simp only [Bool.or_eq_false_iff,bne_eq_false_iff_eq,Bool.not_eq_false',decide_eq_true_eq] at h;obtain ⟨⟨⟨⟨⟨h1,h2⟩,h3⟩,h4⟩,h5⟩,h6⟩:=h;exact ⟨h1,h2,h3,h4,h5,by omega⟩
  obtain ⟨rfl,rfl,rfl,rfl,rfl,hll⟩:=hne
  have hsp:Sp.oZ (.mk k f t u x ks) (.mk k f t u x ks')=Sp.vQ ks ks':=by simp [Sp.oZ]
  rw [hsp] at hK
  intro H7 w7 hs7
  refine ⟨fun i H w'=>∃j:Nat,i=j∧j≤ks.length∧Pure w0 w'∧Sp.vQ ks ks'=Sp.vQ (ks.drop j) (ks'.drop j),fun i _=>((ks.length:Int) - i).toNat,⟨0,rfl,Nat.zero_le _,hs7.first,rfl⟩,?_⟩
  rintro _ Hl wl hl ⟨j,rfl,hj,El,heq⟩
  unfold m_C1_l1
  refine ⟨fun hc=>?_,fun hc=>?_⟩
  ·have hlt:=qH hlen hc
   have hlt':j<ks'.length:=by omega
   rw [jBI hll hlt] at heq
   have g1:∃a r,At s j 6 a∧S a.block∧(∀w',Pure w0 w'→Row w' a (kK ks[j] r))∧TreeAt S w0 r ks[j]:=by
    cases hT with
    | mk _ _ _ _ _ _ _ rs len fit row kid=>obtain ⟨a,h1,h2,h3⟩:=row j hlt;exact ⟨a,rs j,h1,h2,fun w' E=>E.row h3 id,kid j hlt⟩
   have g2:∃a r,At s' j 6 a∧S a.block∧(∀w',Pure w0 w'→Row w' a (kK ks'[j] r))∧TreeAt S w0 r ks'[j]:=by
    cases hT' with
    | mk _ _ _ _ _ _ _ rs len fit row kid=>obtain ⟨a,h1,h2,h3⟩:=row j hlt';exact ⟨a,rs j,h1,h2,fun w' E=>E.row h3 id,kid j hlt'⟩
   obtain ⟨a,r,hat,_,hr,hk⟩:=g1
   obtain ⟨a',r',hat',_,hr',hk'⟩:=g2
   refine ⟨fun w'=>Pure w0 w',El.trans (Ext.drew wl),?_⟩
   rintro _ rfl
   have Ed:=El.trans (Ext.drew wl)
   refine ⟨a,hat,_,_,_,_,_,r,fun w' h=>hr w' h,a',hat',_,_,_,_,_,r',fun w' h=>hr' w' h,?_⟩
   refine (ih j hlt ks'[j] r r' wl.drew (hk.pure Ed) (hk'.pure Ed) (fun b hb=>by have:=hSw b hb;have:=Ed.size;omega)).mono ?_
   rintro _ w13 ⟨q,rfl,rfl,E13⟩
   refine ⟨_,rfl,Ed.trans E13,E13.keptP,fun h=>?_,fun h=>?_⟩
   ·have h:Sp.oZ ks[j] ks'[j]=false:=by simpa using h
    exact hK _ _ ⟨by rw [heq,h];rfl,Ed.trans E13⟩
   ·have h:Sp.oZ ks[j] ks'[j]=true:=by simpa using h
    rw [h,Bool.true_and] at heq
    rw [kX hlt (by omega)]
    exact ⟨⟨j+1,rfl,hlt,Ed.trans E13,heq⟩,gD hlt⟩
  ·have hge:=qJ hlen hj hc
   subst hge
   rw [List.drop_length,hll,List.drop_length] at heq
   exact hK _ _ ⟨heq.symm,El⟩
theorem jAC:SlType prog 22 28 6 72:=by
 refine ⟨underlying22,⟨t28,_,by kernel_rfl,(by kernel_rfl:t28.zero=some (.agg #[.int .i64 0,.int .i64 0,.int .i64 0,.int .u64 0,.string ⟨#[]⟩,.slice none 0 0])),by kernel_rfl,by kernel_rfl,rfl⟩,by omega⟩
def jJJ (p:Sp.Tree×Sl):List Value:=kK p.1 p.2
theorem TreeAt.of_pairs {S:NP} {w:World} {s:Sl} {e:TypeId} {ps:List (Sp.Tree×Sl)} {k f t u:Int} {x:ByteArray} (hR:Rws w e 6 s (ps.map jJJ)) (hS:∀b,s.blk b→S b) (hk:∀p∈ps,TreeAt S w p.2 p.1) (fit:ps.length≤9223372036854775807):TreeAt S w s (.mk k f t u x (ps.map Prod.fst)):=by
 refine .mk k f t u x _ s (fun i=>(ps.getD i (Sp.oC,Sl.nil)).2) (by rw [hR.len];simp) (by simpa using fit) (fun i h=>?_) (fun i h=>?_)
 ·have h':i<ps.length:=by simpa using h
  obtain ⟨a,h1,h2,h3⟩:=hR.at (i:=i) (by omega) (by simpa using h');refine ⟨a,h1,hS _ h3,?_⟩;have e1:(ps.map Prod.fst)[i]=ps[i].1:=by simp
  have e2:(ps.getD i (Sp.oC,Sl.nil)).2=ps[i].2:=by simp [List.getD_eq_getElem?_getD,h']
  rw [e1,e2];simpa [jJJ] using h2
 ·have h':i<ps.length:=by simpa using h
  have e1:(ps.map Prod.fst)[i]=ps[i].1:=by simp
  have e2:(ps.getD i (Sp.oC,Sl.nil)).2=ps[i].2:=by simp [List.getD_eq_getElem?_getD,h']
  rw [e1,e2];exact hk _ (List.getElem_mem h')
theorem tY (t:Sp.Tree) (s:Sl):(kK t s).all kD=true:=by simp [kK,kD,Sl.v]
end Go.Proofs
end
section
open Go Go.SE
namespace Go.Proofs
open Tryz
attribute [local irreducible] Calls
theorem AppO.appAt {w0 w:World} {H:NP} {b r:Sl} {acc:List UInt8} (h:AppO w0 H w b r acc) (l:List UInt8) (hne:l≠[]) (hl:acc.length+l.length≤200000000) {p:Addr} (hp:Row w p (l.map fun c=>Value.int .u8 (c.toNat:Int))) :
  ∃s w2,(Builtin.append_ #[54,54] 54 #[r.v,(Sl.mk (some p) l.length l.length).v]).run prog w=.ok s.v w2∧Kept H w w2∧AppO w0 H w2 b s (acc++l)∧Ext r.blk w w2∧∀k,s.blk k→r.blk k∨w.heap.size≤k:=by
 obtain ⟨s,w2,hr,R,X,o⟩:=h.rows.appends (P:=prog) (ty:=54) (qs:=byr l) (c:=l.length) uK (by rw [gK];exact hp) (gJ l) (jAR l) (by intro e;exact hne (by simpa [byr] using e)) (by rw [zG,zG];omega) (by rw [zG,zG];simp [maxLen];omega)
 rw [zG] at hr
 obtain ⟨k1,k2⟩:=h.call (r2:=s) (acc2:=acc++l) ⟨by simpa [byr] using R,X,o⟩
 exact ⟨s,w2,hr,k1,k2,X,o⟩
def jIV (fd:FuncId) (t:Sp.Tree):Prop:=∀(S:NP) (sl b:Sl) (acc:List UInt8) (w0:World) (B0:Nat),TreeAt S w0 sl t→(∀k,S k→k<B0)→B0≤w0.heap.size→Rws w0 5 1 b (byr acc)→(∀k,b.blk k→B0≤k)→acc.length+400*Sp.cnt t≤80000000→(∀w,Ext (fun k=>B0≤k) w0 w→Pow w) →
 Calls prog fd #[b.v,.agg (kK t sl).toArray] w0 (fun e w'=>∃r:Sl,e=.returned r.v∧AppR w0 b r (acc++Sp.shw t) w')
abbrev ShownC (t:Sp.Tree):Prop:=jIV 62 t
set_option maxHeartbeats 1000000 in
theorem uC (fd:FuncId) {S:NP} {w0 w2:World} {H:NP} {b b2 sa:Sl} {acc:List UInt8} {B0:Nat} {A:Sp.Tree} {a1:Addr} (cc:UInt8) (C1:WP) (hA:jIV fd A) (O:AppO w0 H w2 b b2 acc) (hbB:∀k,b.blk k→B0≤k) (hB0:B0≤w0.heap.size) (hS:∀k,S k→k<B0) (hlen:acc.length+400*Sp.cnt A≤79999900)
  (hsl:(Sp.shw A).length≤400*Sp.cnt A) (hP:∀w,Ext (fun k=>B0≤k) w0 w→Pow w) (hC:C1 w2) (hCt:∀w,C1 w→TreeAt S w sa A) (hCe:∀w w',C1 w→Ext (fun k=>B0≤k) w w'→C1 w') (K:Sl→WP) (hK:∀r w',AppR w0 b r (acc++cc :: (Sp.shw A++[41])) w'→K r w') :
  (∀(p2:Addr) (w3:World),New w2 (.cells #[(.int .u8 (cc.toNat:Int))] 5) p2 w3→C1 w3 ∧
 (∃s1:Sl,∃w4:World,(Builtin.append_ #[54,54] 54 #[b2.v,(Sl.mk (some p2) 1 1).v]).run prog w3=.ok s1.v w4∧C1 w4 ∧
 Kept H w3 w4 ∧
 (Calls prog fd #[s1.v,.agg (kK A sa).toArray] w4 (fun e w5=>∃r1:Sl,e=.returned r1.v∧C1 w5∧
  Kept H w4 w5 ∧
  ∀(p3:Addr) (w6:World),New w5 (.cells #[(.int .u8 41)] 5) p3 w6→C1 w6 ∧
  ∃s2:Sl,∃w7:World,(Builtin.append_ #[54,54] 54 #[r1.v,(Sl.mk (some p3) 1 1).v]).run prog w6=.ok s2.v w7∧C1 w7 ∧
  Kept H w6 w7 ∧
  K s2 w7)) ∧
 (∀(p4:Addr) (w8:World),New w4 (.cells #[(.int .u8 41)] 5) p4 w8→C1 w8 ∧
 Calls prog fd #[s1.v,.agg (kK A sa).toArray] w8 (fun e w9=>∃r2:Sl,e=.returned r2.v∧C1 w9∧
  Kept H w8 w9 ∧
  ∃s3:Sl,∃w10:World,(Builtin.append_ #[54,54] 54 #[r2.v,(Sl.mk (some p4) 1 1).v]).run prog w9=.ok s3.v w10∧C1 w10 ∧
  Kept H w9 w10 ∧
  K s3 w10))) ∧
 (∀(p5:Addr) (w11:World),New w3 (.cells #[(.int .u8 41)] 5) p5 w11→C1 w11 ∧
 ∃s4:Sl,∃w12:World,(Builtin.append_ #[54,54] 54 #[b2.v,(Sl.mk (some p2) 1 1).v]).run prog w11=.ok s4.v w12∧C1 w12 ∧
 Kept H w11 w12 ∧
 Calls prog fd #[s4.v,.agg (kK A sa).toArray] w12 (fun e w13=>∃r3:Sl,e=.returned r3.v∧C1 w13∧
  Kept H w12 w13 ∧
  ∃s5:Sl,∃w14:World,(Builtin.append_ #[54,54] 54 #[r3.v,(Sl.mk (some p5) 1 1).v]).run prog w13=.ok s5.v w14∧C1 w14 ∧
  Kept H w13 w14 ∧
  K s5 w14))) ∧
 (∀(p6:Addr) (w15:World),New w2 (.cells #[(.int .u8 41)] 5) p6 w15→C1 w15 ∧
 ∀(p7:Addr) (w16:World),New w15 (.cells #[(.int .u8 (cc.toNat:Int))] 5) p7 w16→C1 w16 ∧
 ∃s6:Sl,∃w17:World,(Builtin.append_ #[54,54] 54 #[b2.v,(Sl.mk (some p7) 1 1).v]).run prog w16=.ok s6.v w17∧C1 w17 ∧
 Kept H w16 w17 ∧
 Calls prog fd #[s6.v,.agg (kK A sa).toArray] w17 (fun e w18=>∃r4:Sl,e=.returned r4.v∧C1 w18∧
  Kept H w17 w18 ∧
  ∃s7:Sl,∃w19:World,(Builtin.append_ #[54,54] 54 #[r4.v,(Sl.mk (some p6) 1 1).v]).run prog w18=.ok s7.v w19∧C1 w19 ∧
  Kept H w18 w19 ∧
  K s7 w19)):=by
 have bB:∀{w:World} {r:Sl} {acc:List UInt8},AppO w0 H w b r acc→∀k,r.blk k→B0≤k:=fun O k hk=>(O.new k hk).elim (hbB k) (fun h=>by omega)
 have cP:∀{w w':World},C1 w→Pure w w'→C1 w':=fun h E=>hCe _ _ h E.pure
 have cX:∀{w w':World} {r:Sl} {acc:List UInt8},C1 w→AppO w0 H w b r acc→Ext r.blk w w'→C1 w':=fun h O X=>hCe _ _ h (X.mono (fun k _ hk=>bB O k hk))
 have lay:∀{w:World} {r:Sl} {acc2:List UInt8} {c:UInt8} {p:Addr},acc2.length≤80000000→AppO w0 H w b r acc2→C1 w→Row w p [.int .u8 (c.toNat:Int)]→∃s w',(Builtin.append_ #[54,54] 54 #[r.v,(Sl.mk (some p) 1 1).v]).run prog w=.ok s.v w'∧C1 w'∧Kept H w w'∧AppO w0 H w' b s (acc2++[c])∧Ext r.blk w w'∧∀k,s.blk k→r.blk k∨w.heap.size≤k:=fun {w r acc2 c p} hl O' hC' hp=>by
  obtain ⟨s,w',h1,h2,h3,h4,h5⟩:=O'.appAt [c] (by simp) (by simp;omega) (p:=p) hp;exact ⟨s,w',h1,cX hC' O' h4,h2,h3,h4,h5⟩
 have tree:∀{w:World} {r:Sl},AppO w0 H w b r (acc++[cc])→C1 w→Calls prog fd #[r.v,.agg (kK A sa).toArray] w (fun e w'=>∃r2:Sl,e=.returned r2.v∧C1 w'∧Kept H w w'∧AppO w0 H w' b r2 (acc++[cc]++Sp.shw A)∧Ext r.blk w w'):=fun {w r} O' hC'=>by
  have hE:Ext (fun k=>B0≤k) w0 w:=O'.ext.mono (fun k _ hk=>hbB k hk);refine (hA S sa r (acc++[cc]) w B0 (hCt w hC') hS (by have:=O'.ext.size;omega) O'.rows (bB O') (by simp;omega) (fun w' E=>hP w' (hE.trans E))).mono ?_;rintro _ w' ⟨r2,rfl,hR⟩;obtain ⟨k1,k2⟩:=O'.call hR;exact ⟨r2,rfl,cX hC' O' hR.ext,k1,k2,hR.ext⟩
 have l2:(acc++[cc]++Sp.shw A).length≤80000000:=by simp only [List.length_append,List.length_cons,List.length_nil];omega
 have fin:∀{w:World} {s:Sl},AppO w0 H w b s (acc++[cc]++Sp.shw A++[41])→K s w:=fun O'=>hK _ _ (by have:=O'.done;simpa using this)
 refine ⟨fun p2 w3 n2=>?_,fun p6 w15 n6=>?_⟩
 ·have E3:Pure w2 w3:=Ext.new n2
  have O3:=O.pure E3
  have c3:=cP hC E3
  have R2:=(Box.of_new n2).row
  have y2:=n2.at_size
  refine ⟨c3,?_,fun p5 w11 n5=>?_⟩
  ·obtain ⟨s1,w4,h1,c4,k4,O4,X4,o4⟩:=lay (c:=cc) (by omega) O3 c3 R2
   refine ⟨s1,w4,h1,c4,k4,?_,fun p4 w8 n4=>?_⟩
   ·refine (tree O4 c4).mono ?_
    rintro _ w5 ⟨r1,rfl,c5,k5,O5,X5⟩
    refine ⟨r1,rfl,c5,k5,fun p3 w6 n3=>?_⟩
    have E6:Pure w5 w6:=Ext.new n3
    obtain ⟨s2,w7,h2,c7,k7,O7,_⟩:=lay (c:=41) l2 (O5.pure E6) (cP c5 E6) (Box.of_new n3).row
    exact ⟨cP c5 E6,s2,w7,h2,c7,k7,fin O7⟩
   ·have E8:Pure w4 w8:=Ext.new n4
    have c8:=cP c4 E8
    refine ⟨c8,?_⟩
    have O8:=O4.pure E8
    refine (tree O8 c8).mono ?_
    rintro _ w9 ⟨r2,rfl,c9,k9,O9,X9⟩
    have y4:=n4.at_size
    have R9:=X9.row (Box.of_new n4).row (fun hh=>by have:=O4.rows.lt hh;omega)
    obtain ⟨s3,w10,h3,c10,k10,O10,_⟩:=lay (c:=41) l2 O9 c9 R9
    exact ⟨r2,rfl,c9,k9,s3,w10,h3,c10,k10,fin O10⟩
  ·have E11:Pure w3 w11:=Ext.new n5
   have O11:=O3.pure E11
   have c11:=cP c3 E11
   have y5:=n5.at_size
   refine ⟨c11,?_⟩
   obtain ⟨s4,w12,h4,c12,k12,O12,X12,o12⟩:=lay (c:=cc) (by omega) O11 c11 (((Box.of_new n2).pure E11).row)
   refine ⟨s4,w12,h4,c12,k12,?_⟩
   refine (tree O12 c12).mono ?_
   rintro _ w13 ⟨r3,rfl,c13,k13,O13,X13⟩
   have z11:=(Box.of_new n5).lt
   have nb:¬ b2.blk p5.block:=fun hh=>by have:=O3.rows.lt hh;omega
   have R13:=X13.row (X12.row (Box.of_new n5).row nb) (fun hh=>(o12 _ hh).elim nb (fun h=>by omega))
   obtain ⟨s5,w14,h5,c14,k14,O14,_⟩:=lay (c:=41) l2 O13 c13 R13
   exact ⟨r3,rfl,c13,k13,s5,w14,h5,c14,k14,fin O14⟩
 ·have E15:Pure w2 w15:=Ext.new n6
  have O15:=O.pure E15
  have c15:=cP hC E15
  have y6:=n6.at_size
  refine ⟨c15,fun p7 w16 n7=>?_⟩
  have E16:Pure w15 w16:=Ext.new n7
  have O16:=O15.pure E16
  have c16:=cP c15 E16
  refine ⟨c16,?_⟩
  obtain ⟨s6,w17,h6,c17,k17,O17,X17,o17⟩:=lay (c:=cc) (by omega) O16 c16 (Box.of_new n7).row
  refine ⟨s6,w17,h6,c17,k17,?_⟩
  refine (tree O17 c17).mono ?_
  rintro _ w18 ⟨r4,rfl,c18,k18,O18,X18⟩
  have z15:=(Box.of_new n6).lt
  have z16:=E16.size
  have nb:¬ b2.blk p6.block:=fun hh=>by have:=O.rows.lt hh;omega
  have R18:=X18.row (X17.row ((Box.of_new n6).pure E16).row nb) (fun hh=>(o17 _ hh).elim nb (fun h=>by omega))
  obtain ⟨s7,w19,h7,c19,k19,O19,_⟩:=lay (c:=41) l2 O18 c18 R18
  exact ⟨r4,rfl,c18,k18,s7,w19,h7,c19,k19,fin O19⟩
end Go.Proofs
namespace Go.Proofs
open Tryz
attribute [local irreducible] Calls
theorem jJE {S:NP} {w0 w:World} {H:NP} {b b2 xs:Sl} {acc:List UInt8} {B0:Nat} {A:Sp.Tree} {k f t u:Int} {y:ByteArray} (hA:ShownC A) (O:AppO w0 H w b b2 acc) (hbB:∀k,b.blk k→B0≤k) (hB0:B0≤w0.heap.size) (hS:∀k,S k→k<B0) (hlen:acc.length+400*Sp.cnt A≤79999900)
  (hsl:(Sp.shw A).length≤400*Sp.cnt A) (hP:∀w,Ext (fun k=>B0≤k) w0 w→Pow w) (hT:TreeAt S w xs (.mk k f t u y [A])) :
  m_P_j1 xs b2 H w (fun r w'=>AppR w0 b r (acc++Sp.yK [A]) w'):=by
 unfold m_P_j1
 cases hT with
 | mk _ _ _ _ _ _ _ rs len fit row kid =>
 obtain ⟨a1,h1,h2,h3⟩:=row 0 (by simp)
 have k0:=kid 0 (by simp)
 simp only [List.getElem_cons_zero] at h3 k0
 generalize rs 0=sa at *
 obtain ⟨kk,ff,tt,uu,yy,ks⟩:=A
 refine ⟨fun w'=>Row w' a1 (kK (.mk kk ff tt uu yy ks) sa)∧TreeAt S w' sa (.mk kk ff tt uu yy ks),⟨(Ext.drew (F:=None) w).row h3 id,k0.pure (Ext.drew w)⟩,?_⟩
 rintro _ rfl
 refine ⟨a1,h1,kk,ff,tt,uu,yy,sa,fun _ h=>h.1,?_⟩
 exact uC _ (S:=S) (B0:=B0) (A:=.mk kk ff tt uu yy ks) (a1:=a1) 40 (fun w'=>Row w' a1 (kK (.mk kk ff tt uu yy ks) sa)∧TreeAt S w' sa (.mk kk ff tt uu yy ks)) hA (O.pure (Ext.drew w)) hbB hB0 hS hlen hsl hP ⟨(Ext.drew (F:=None) w).row h3 id,k0.pure (Ext.drew w)⟩ (fun _ h=>h.2)
  (fun _ _ h E=>⟨E.row h.1 (fun hh=>by have:=hS _ h2;omega),h.2.ext E (fun b hb hh=>by have:=hS b hb;omega)⟩) (fun r w'=>AppR w0 b r (acc++Sp.yK [.mk kk ff tt uu yy ks]) w') (fun r w' h=>by simpa [Sp.yK,Sp.jDA] using h)
set_option maxHeartbeats 1000000 in
theorem jIM (t:Sp.Tree):Sp.Good t→Sp.NumT t→ShownC t:=by
 induction t using Sp.Tree.ind with
 | h k f t u y ks ih =>
  intro hg hn S sl b acc w0 B0 hT hS hB0 hR hbB hlen hP
  obtain ⟨_,_,_,_,_,_,own,kids⟩:=hg
  obtain ⟨_,_,_,_,_,_,hu,hnk⟩:=hn
  have hu:0≤u∧u<18446744073709551616:=hu
  obtain ⟨hy,hk⟩:=Sp.xW own
  have nd:∀n,n<18446744073709551616→(Lib.decDigits n).length≤20:=fun n h=>nd20 h
  have hh:=Sp.jBY (k:=k) (f:=f) (t:=t) (u:=u) (x:=y) (by omega) hy nd
  have hlens:∀i (hi:i<ks.length),(Sp.shw ks[i]).length≤400*Sp.cnt ks[i]:=fun i hi=>Sp.jHC nd ks[i] (kids i hi) (hnk i hi)
  refine w_P b k f t u y sl w0 (fun r w'=>AppR w0 b r (acc++Sp.shw (.mk k f t u y ks)) w') ?_
  unfold m_P
  have O:=AppO.start hR
  have eB:∀{H:NP} {w:World} {r:Sl} {acc:List UInt8},AppO w0 H w b r acc→Ext (fun k=>B0≤k) w0 w:=fun O=>O.ext.mono (fun k _ hk=>hbB k hk)
  have hacc:acc.length≤79999600:=by have:=Sp.jDZ (.mk k f t u y ks);omega
  unfold Sp.cnt at hlen
  unfold Sp.shw Sp.qI
  have num:∀(c:UInt8) (n:Nat) (hn:n<18446744073709551616) {H:NP} {w:World} {r:Sl} {acc2:List UInt8},acc2.length≤80000000→AppO w0 H w b r acc2→Calls prog 116 #[r.v,.int .u8 (c.toNat:Int),.int .u64 (n:Int)] w (fun e w'=>∃r2:Sl,e=.returned r2.v∧Kept H w w'∧AppO w0 H w' b r2 (acc2++c :: Lib.decDigits n)):=fun c n hn {H w r acc2} hl O'=>by
   have bB:∀k,r.blk k→B0≤k:=fun k hk=>(O'.new k hk).elim (hbB k) (fun h=>by omega);refine (jGC r acc2 c n hn w O'.rows (by omega) (fun w' E=>hP w' ((eB O').trans (E.mono (fun k _ hk=>bB k hk))))).mono ?_;rintro _ w' ⟨r2,rfl,hA⟩;obtain ⟨k1,k2⟩:=O'.call hA;exact ⟨r2,rfl,k1,k2⟩
  have up:∀{H:NP} {w:World} {r:Sl} {acc2:List UInt8},AppO w0 H w b r acc2→TreeAt S w sl (.mk k f t u y ks):=fun O'=>hT.ext (eB O') (fun b hb hh=>by have:=hS b hb;omega)
  have tail:∀{H:NP} {w:World} {r:Sl} {acc2:List UInt8} {A:Sp.Tree},ks=[A]→acc2.length≤acc.length+300→AppO w0 H w b r acc2→m_P_j1 sl r H w (fun r w'=>AppR w0 b r (acc2++Sp.yK ks) w'):=fun {H w r acc2 A} e hl O'=>by
   subst e;have:=Sp.tK [A];simp only [Sp.cntAll] at hlen;have h0:=hlens 0 (by simp);simp only [List.getElem_cons_zero] at h0;exact jJE (by have:=ih 0 (by simp) (kids 0 (by simp)) (hnk 0 (by simp));simpa using this) O' hbB hB0 hS (by omega) h0 hP (up O')
  have one:ks.length=1→∃A,ks=[A]:=fun h=>List.length_eq_one_iff.1 h
  have nil0:ks.length=0→ks=[]:=fun h=>List.length_eq_zero_iff.1 h
  obtain ⟨ef,lf⟩:=Sp.uQ f
  obtain ⟨et,lt⟩:=Sp.uQ t
  rw [ef,et]
  rcases hk with ⟨rfl,hl⟩ | ⟨rfl,hl⟩ | ⟨rfl,hl⟩ | ⟨rfl,hl⟩ | ⟨rfl,hl⟩ | ⟨rfl,hl⟩ | ⟨rfl,hl⟩ | ⟨rfl,hl⟩ | ⟨rfl,hl⟩
  ·refine Br.t (by decide) (fun H1 w1 hs1=>?_)
   refine (num 110 _ lf (by omega) (O.hst hs1)).mono ?_
   rintro _ w2 ⟨r,rfl,k2,O2⟩
   exact ⟨r,rfl,k2,by have:=O2.done;rw [nil0 hl];simpa [Sp.yK] using this⟩
  ·refine Br.f (by decide) (Br.t (by decide) (fun H1 w1 hs1=>?_))
   obtain ⟨n,rfl⟩:∃n:Nat,u=n:=⟨u.toNat,by omega⟩
   refine (num 35 n (by omega) (by omega) (O.hst hs1)).mono ?_
   rintro _ w2 ⟨r,rfl,k2,O2⟩
   exact ⟨r,rfl,k2,by have:=O2.done;rw [nil0 hl];simpa [Sp.yK] using this⟩
  ·refine Br.f (by decide) (Br.f (by decide) (Br.f (by decide) (Br.t (by decide) (fun H1 w1 hs1=>?_))))
   have O1:=O.hst hs1
   refine (jGB b acc y w1 O1.rows (by omega) (by omega)).mono ?_
   rintro _ w2 ⟨r,rfl,hA⟩
   obtain ⟨k1,k2⟩:=O1.call hA
   exact ⟨r,rfl,k1,by have:=k2.done;rw [nil0 hl];simpa [Sp.yK] using this⟩
  ·-- a pair
   obtain ⟨A,B,rfl⟩:∃A B,ks=[A,B]:=by
    match ks,hl with
    | [A,B],_=>exact ⟨A,B,rfl⟩
   refine Br.f (by decide) (Br.f (by decide) (Br.f (by decide) (Br.f (by decide) (Br.t (by decide) (fun H1 w1 hs1=>?_)))))
   have O1:=O.hst hs1
   simp only [Sp.cntAll] at hlen
   have T1:=up O1
   have iA:=ih 0 (by simp) (kids 0 (by simp)) (hnk 0 (by simp))
   have iB:=ih 1 (by simp) (kids 1 (by simp)) (hnk 1 (by simp))
   have lA:=hlens 0 (by simp)
   have lB:=hlens 1 (by simp)
   simp only [List.getElem_cons_zero,List.getElem_cons_succ] at iA iB lA lB
   cases T1 with
   | mk _ _ _ _ _ _ _ rs len fit row kid =>
   obtain ⟨a1,p1,p2,p3⟩:=row 0 (by simp)
   obtain ⟨a2,q1,q2,q3⟩:=row 1 (by simp)
   have k0:=kid 0 (by simp)
   have k1:=kid 1 (by simp)
   simp only [List.getElem_cons_zero,List.getElem_cons_succ] at p3 q3 k0 k1
   generalize rs 0=sa at *
   generalize rs 1=sb at *
   obtain ⟨ka,fa,ta,ua,ya,ksa⟩:=A
   obtain ⟨kb,fb,tb,ub,yb,ksb⟩:=B
   have CE:∀w w',(Row w a1 (kK (.mk ka fa ta ua ya ksa) sa)∧TreeAt S w sa (.mk ka fa ta ua ya ksa)∧Row w a2 (kK (.mk kb fb tb ub yb ksb) sb)∧TreeAt S w sb (.mk kb fb tb ub yb ksb))→Ext (fun k=>B0≤k) w w'→(Row w' a1 (kK (.mk ka fa ta ua ya ksa) sa)∧TreeAt S w' sa (.mk ka fa ta ua ya ksa)∧Row w' a2 (kK (.mk kb fb tb ub yb ksb) sb)∧TreeAt S w' sb (.mk kb fb tb ub yb ksb)):=fun w w' h E =>
    ⟨E.row h.1 (fun hh=>by have:=hS _ p2;omega),h.2.1.ext E (fun b hb hh=>by have:=hS b hb;omega),E.row h.2.2.1 (fun hh=>by have:=hS _ q2;omega),h.2.2.2.ext E (fun b hb hh=>by have:=hS b hb;omega)⟩
   have c1:=CE _ _ ⟨p3,k0,q3,k1⟩ (Ext.drew (F:=fun k=>B0≤k) w1)
   refine ⟨fun w=>Row w a1 (kK (.mk ka fa ta ua ya ksa) sa)∧TreeAt S w sa (.mk ka fa ta ua ya ksa)∧Row w a2 (kK (.mk kb fb tb ub yb ksb) sb)∧TreeAt S w sb (.mk kb fb tb ub yb ksb),c1,?_⟩
   rintro _ rfl
   refine ⟨a1,p1,ka,fa,ta,ua,ya,sa,fun _ h=>h.1,?_⟩
   have Od:=O1.pure (Ext.drew w1)
   intro p8 w25 n8
   have E25:Pure w1.drew w25:=Ext.new n8
   refine ⟨CE _ _ c1 E25.pure,?_⟩
   have c25:=CE _ _ c1 E25.pure
   have bB:∀{H:NP} {w:World} {r:Sl} {acc:List UInt8},AppO w0 H w b r acc→∀k,r.blk k→B0≤k:=fun O' k hk=>(O'.new k hk).elim (hbB k) (fun h=>by omega)
   have O25:=Od.pure E25
   obtain ⟨s8,w26,r8,k26,O26,X26,_⟩:=O25.appAt [40] (by simp) (by simp;omega) (Box.of_new n8).row
   have c26:=CE _ _ c25 (X26.mono (fun k _ hk=>bB O25 k hk))
   refine ⟨s8,w26,r8,c26,k26,?_⟩
   refine (iA S sa s8 (acc++[40]) w26 B0 c26.2.1 hS (by have:=O26.ext.size;omega) O26.rows (bB O26) (by simp;omega) (fun w' E=>hP w' ((eB O26).trans E))).mono ?_
   rintro _ w27 ⟨r9,rfl,hA9⟩
   obtain ⟨k27,O27⟩:=O26.call hA9
   have c27:=CE _ _ c26 (hA9.ext.mono (fun k _ hk=>bB O26 k hk))
   refine ⟨r9,rfl,c27,k27,?_⟩
   have c28:=CE _ _ c27 (Ext.drew (F:=fun k=>B0≤k) w27)
   refine ⟨fun w=>Row w a1 (kK (.mk ka fa ta ua ya ksa) sa)∧TreeAt S w sa (.mk ka fa ta ua ya ksa)∧Row w a2 (kK (.mk kb fb tb ub yb ksb) sb)∧TreeAt S w sb (.mk kb fb tb ub yb ksb),c28,?_⟩
   rintro _ rfl
   refine ⟨a2,q1,kb,fb,tb,ub,yb,sb,fun _ h=>h.2.2.1,?_⟩
   exact uC _ (S:=S) (B0:=B0) (A:=.mk kb fb tb ub yb ksb) (a1:=a2) 32 (fun w=>Row w a1 (kK (.mk ka fa ta ua ya ksa) sa)∧TreeAt S w sa (.mk ka fa ta ua ya ksa)∧Row w a2 (kK (.mk kb fb tb ub yb ksb) sb)∧TreeAt S w sb (.mk kb fb tb ub yb ksb)) iB (O27.pure (Ext.drew w27)) hbB hB0 hS (by simp;omega) lB hP c28 (fun _ h=>h.2.2.2) CE _ (fun r w' h=>by simpa [Sp.yK,Sp.jDA] using h)
  ·obtain ⟨A,rfl⟩:=one hl
   refine Br.f (by decide) (Br.f (by decide) (Br.f (by decide) (Br.f (by decide) (Br.f (by decide) (Br.t (by decide) (fun H1 w1 hs1=>?_))))))
   have O1:=O.hst hs1
   intro p15 w46 n15
   obtain ⟨s16,w47,r16,k47,O47⟩:=O1.app [104] (by simp) (by simp;omega) n15
   refine ⟨s16,w47,r16,k47,?_⟩
   have:=tail rfl (by simp) O47
   simpa using this
  ·refine Br.f (by decide) (Br.f (by decide) (Br.t (by decide) (fun H1 w1 hs1=>?_)))
   refine (num 107 _ lf (by omega) (O.hst hs1)).mono ?_
   rintro _ w2 ⟨r,rfl,k2,O2⟩
   exact ⟨r,rfl,k2,by have:=O2.done;rw [nil0 hl];simpa [Sp.yK] using this⟩
  ·obtain ⟨A,rfl⟩:=one hl
   refine Br.f (by decide) (Br.f (by decide) (Br.f (by decide) (Br.f (by decide) (Br.f (by decide) (Br.f (by decide) (Br.t (by decide) (fun H1 w1 hs1=>?_)))))))
   refine (num 115 _ lf (by omega) (O.hst hs1)).mono ?_
   rintro _ w2 ⟨r,rfl,k2,O2⟩
   refine ⟨r,rfl,k2,?_⟩
   have d1:=nd _ lf
   have:=tail rfl (by simp;omega) O2
   simpa using this
  ·obtain ⟨A,rfl⟩:=one hl
   refine Br.f (by decide) (Br.f (by decide) (Br.f (by decide) (Br.f (by decide) (Br.f (by decide) (Br.f (by decide) (Br.f (by decide) (Br.t (by decide) (fun H1 w1 hs1=>⟨fun _=>True,trivial,?_⟩))))))))
   rintro _ rfl
   have d1:=nd _ lf
   have d2:=nd _ lt
   refine (num 112 _ lf (by omega) ((O.hst hs1).pure (Ext.drew w1))).mono ?_
   rintro _ w2 ⟨r,rfl,k2,O2⟩
   refine ⟨r,rfl,trivial,k2,?_⟩
   refine (num 62 _ lt (by simp;omega) O2).mono ?_
   rintro _ w3 ⟨r2,rfl,k3,O3⟩
   refine ⟨r2,rfl,trivial,k3,?_⟩
   have:=tail rfl (by simp;omega) O3
   simpa using this
  ·obtain ⟨A,rfl⟩:=one hl
   refine Br.f (by decide) (Br.f (by decide) (Br.f (by decide) (Br.f (by decide) (Br.f (by decide) (Br.f (by decide) (Br.f (by decide) (Br.f (by decide) (Br.t (by decide) (fun H1 w1 hs1=>⟨fun _=>True,trivial,?_⟩)))))))))
   rintro _ rfl
   have d1:=nd _ lf
   have d2:=nd _ lt
   refine (num 102 _ lf (by omega) ((O.hst hs1).pure (Ext.drew w1))).mono ?_
   rintro _ w2 ⟨r,rfl,k2,O2⟩
   refine ⟨r,rfl,trivial,k2,?_⟩
   refine (num 62 _ lt (by simp;omega) O2).mono ?_
   rintro _ w3 ⟨r2,rfl,k3,O3⟩
   refine ⟨r2,rfl,trivial,k3,?_⟩
   have:=tail rfl (by simp;omega) O3
   simpa using this
end Go.Proofs
end
section
open Go Go.SE
namespace Go.Sp
def jFG (t:Tree):List UInt8×Int:=if (of [] t).2.1≠0 then ([],(of [] t).2.1) else (shw t,0)
theorem jLW {L:Pool} {t:Tree} (h:(of L t).2.1=0):Good t:=by
 refine yF t 0 0 ?_;unfold of at h;split at h
 ·rename_i hh;exact absurd h hh
 ·rename_i hh;simpa using hh
end Go.Sp
namespace Go.Proofs
open Tryz
attribute [local irreducible] Calls
theorem jDO {w0 w:World} (h:Pow w0) (E:Ext (fun k=>w0.heap.size≤k) w0 w):Pow w:=kT h (E.mono (fun i hi hh=>by have:w0.heap.size≤i:=hh;omega))
theorem xV {w0 w w':World} {F:NP} (E:Pure w0 w) (X:Ext F w w') (hF:∀b,F b→w0.heap.size≤b):Pure w0 w':=E.trans' X (fun b hb hf=>by have:=hF b hf;omega)
theorem jKI {S:NP} (t:Sp.Tree) (s:Sl) (w0:World) (hT:TreeAt S w0 s t) (hS:∀b,S b→b<w0.heap.size) (hn:Sp.NumT t) (hc:Sp.cnt t≤100000) (ht:Pow w0) :
  Calls prog 52 #[.agg (kK t s).toArray] w0 (fun e w'=>∃r:ByteArray,∃er:Int,e=.returned (.tuple #[.string r,.int .i64 er])∧((r=⟨(Sp.jFG t).1.toArray⟩∧er=(Sp.jFG t).2)∧Pure w0 w')):=by
 obtain ⟨k,f,to,u,x,ks⟩:=t
 refine w_U2 k f to u x s w0 (fun r er w'=>(r=⟨(Sp.jFG (.mk k f to u x ks)).1.toArray⟩∧er=(Sp.jFG (.mk k f to u x ks)).2)∧Pure w0 w') ?_
 unfold m_U2
 intro H1 w1 hs1
 have E1:=hs1.first
 have hH:=hs1.here.lt
 refine ⟨fun _=>True,trivial,?_⟩
 rintro _ rfl
 have Ed:Pure w0 w1.drew:=E1.trans (Ext.drew w1)
 refine (c_New w1.drew).mono ?_
 rintro _ w3 ⟨_,rfl,p,rfl,E3,F,hP,hF⟩
 have E03:=Ed.trans E3
 have z1:w1.drew.heap.size=w1.heap.size:=rfl
 have z0:=Ed.size
 refine ⟨_,rfl,trivial,E3.keptP,?_⟩
 refine (c_Of (S:=S) p (.mk k f to u x ks) s w3 (hT.pure E03) hP Sp.Ok.nil (fun b hb hs=>by have:=hF b hb;have:=hS b hs;omega) (fun b hb=>by have:=hS b hb;have:=E03.size;omega)).mono ?_
 rintro _ w4 ⟨r2,r3,rfl,hr,F',hP',X4,hF'⟩
 have E04:Pure w0 w4:=xV E03 X4 (fun b hb=>by have:=hF b hb;omega)
 refine ⟨_,_,rfl,trivial,X4.kept (fun b hb hf=>by have:=hF b hf;have:=hH b hb;omega),?_⟩
 simp only [Prod.mk.injEq] at hr
 obtain ⟨_,rfl⟩:=hr
 unfold Sp.jFG
 refine ⟨fun h=>?_,fun h=>?_⟩
 ·rw [if_pos (by simpa using h)]
  exact ⟨⟨rfl,rfl⟩,E04⟩
 ·have h0:(Sp.of [] (.mk k f to u x ks)).2.1=0:=by simpa using h
  rw [if_neg (by simpa using h0)]
  have hnil:∀b,¬ Sl.nil.blk b:=fun b hb=>by obtain ⟨a,h,_⟩:=hb;cases h
  refine (jIM (.mk k f to u x ks) (Sp.jLW h0) hn S s Sl.nil [] w4 w0.heap.size (hT.pure E04) hS E04.size (Rws.nil _ _ _) (fun b hb=>(hnil b hb).elim) (by simp;omega) (fun w E=>?_)).mono ?_
  ·exact jDO ht (E04.pure.trans E)
  rintro _ w5 ⟨r,rfl,hA⟩
  refine ⟨r,rfl,hA.ext.kept (fun b hb hh=>(hnil b hh).elim),?_⟩
  refine ⟨_,gT (P:=prog) underlying54 underlying5 underlying9 hA.rows.lst,⟨by simp,rfl⟩,xV E04 hA.ext (fun b hb=>(hnil b hb).elim)⟩
end Go.Proofs
end
section
namespace Go.Proofs
open Tryz
open Go.Shelf
def jBU:Go.Shelf.Ren:=⟨fun | 14=>143 | 16=>202 | 17=>203 | 19=>233 | 20=>234 | 21=>235 | 22=>236 | 23=>237 | 24=>238 | 25=>246 | 27=>78 | 26=>247 | 28=>134 | 29=>175 | 30=>176 | 31=>177 | 32=>178 | 33=>179 | 35=>223 | 34=>222 | 36=>224 | 37=>225 | 38=>226 | 39=>243 | 40=>244 | n=>n,fun | 9=>9 | 3=>3 | 22=>26 | 24=>128 | 25=>217 | 4=>4 | 34=>275 | 5=>5 | 36=>194 | 37=>54 | 0=>0 | 39=>277 | 21=>21 | 44=>284 | 47=>195 | 50=>290 | 48=>288 | 2=>2 | 52=>244 | 55=>247 | 59=>269 | 60=>270 | 20=>20 | 61=>271 | 65=>286 | 66=>287 | 67=>135 | n=>n,fun | 0=>2 | 1=>3 | 2=>0 | 3=>4 | 4=>5 | n=>n⟩
theorem jEP:Go.Proofs.LaysPu.n14 prog jBU:={
 mixed:=by kernel_rfl
 f14:=func143.trans (congrArg some (by kernel_rfl))
 f16:=func202.trans (congrArg some (by kernel_rfl))
 f17:=func203.trans (congrArg some (by kernel_rfl))
 f19:=func233.trans (congrArg some (by kernel_rfl))
 f20:=func234.trans (congrArg some (by kernel_rfl))
 f21:=func235.trans (congrArg some (by kernel_rfl))
 f22:=func236.trans (congrArg some (by kernel_rfl))
 f23:=func237.trans (congrArg some (by kernel_rfl))
 f24:=func238.trans (congrArg some (by kernel_rfl))
 f25:=func246.trans (congrArg some (by kernel_rfl))
 f26:=func247.trans (congrArg some (by kernel_rfl))
 f27:=func78.trans (congrArg some (by kernel_rfl))
 f28:=func134.trans (congrArg some (by kernel_rfl))
 f29:=func175.trans (congrArg some (by kernel_rfl))
 f30:=func176.trans (congrArg some (by kernel_rfl))
 f31:=func177.trans (congrArg some (by kernel_rfl))
 f32:=func178.trans (congrArg some (by kernel_rfl))
 f33:=func179.trans (congrArg some (by kernel_rfl))
 f34:=func222.trans (congrArg some (by kernel_rfl))
 f35:=func223.trans (congrArg some (by kernel_rfl))
 f36:=func224.trans (congrArg some (by kernel_rfl))
 f37:=func225.trans (congrArg some (by kernel_rfl))
 f38:=func226.trans (congrArg some (by kernel_rfl))
 f39:=func243.trans (congrArg some (by kernel_rfl))
 f40:=func244.trans (congrArg some (by kernel_rfl))
 t0:=underlying0
 a0:=isAgg0
 z0:=sizeOf0
 v0:=zeroValue0
 i0:=by kernel_rfl
 t2:=underlying2
 a2:=isAgg2
 z2:=sizeOf2
 v2:=zeroValue2
 i2:=by kernel_rfl
 t3:=underlying3
 a3:=isAgg3
 z3:=sizeOf3
 v3:=zeroValue3
 i3:=by kernel_rfl
 t4:=underlying4
 a4:=isAgg4
 z4:=sizeOf4
 v4:=zeroValue4
 i4:=by kernel_rfl
 t5:=underlying5
 a5:=isAgg5
 z5:=sizeOf5
 v5:=zeroValue5
 i5:=by kernel_rfl
 t9:=underlying9
 a9:=isAgg9
 z9:=sizeOf9
 v9:=zeroValue9
 i9:=by kernel_rfl
 t20:=underlying20
 a20:=isAgg20
 z20:=sizeOf20
 v20:=zeroValue20
 i20:=by kernel_rfl
 t21:=underlying21
 a21:=isAgg21
 z21:=sizeOf21
 v21:=zeroValue21
 i21:=by kernel_rfl
 t22:=underlying26
 a22:=isAgg26
 z22:=sizeOf26
 v22:=zeroValue26
 i22:=by kernel_rfl
 t24:=underlying128
 a24:=isAgg128
 z24:=sizeOf128
 v24:=zeroValue128
 i24:=by kernel_rfl
 t25:=underlying217
 a25:=isAgg217
 z25:=sizeOf217
 v25:=zeroValue217
 i25:=by kernel_rfl
 t34:=underlying275
 a34:=isAgg275
 z34:=sizeOf275
 v34:=zeroValue275
 i34:=by kernel_rfl
 c34:=by kernel_rfl
 t36:=underlying194
 a36:=isAgg194
 z36:=sizeOf194
 v36:=zeroValue194
 i36:=by kernel_rfl
 t37:=underlying54
 a37:=isAgg54
 z37:=sizeOf54
 v37:=zeroValue54
 i37:=by kernel_rfl
 t39:=underlying277
 a39:=isAgg277
 z39:=sizeOf277
 v39:=zeroValue277
 i39:=by kernel_rfl
 t44:=underlying284
 a44:=isAgg284
 z44:=sizeOf284
 v44:=zeroValue284
 i44:=by kernel_rfl
 t47:=underlying195
 a47:=isAgg195
 z47:=sizeOf195
 v47:=zeroValue195
 i47:=by kernel_rfl
 t48:=underlying288
 a48:=isAgg288
 z48:=sizeOf288
 v48:=zeroValue288
 i48:=by kernel_rfl
 t50:=underlying290
 a50:=isAgg290
 z50:=sizeOf290
 v50:=zeroValue290
 i50:=by kernel_rfl
 t52:=underlying244
 a52:=isAgg244
 z52:=sizeOf244
 v52:=zeroValue244
 i52:=by kernel_rfl
 t55:=underlying247
 a55:=isAgg247
 z55:=sizeOf247
 v55:=zeroValue247
 i55:=by kernel_rfl
 t59:=underlying269
 a59:=isAgg269
 z59:=sizeOf269
 v59:=zeroValue269
 i59:=by kernel_rfl
 t60:=underlying270
 a60:=isAgg270
 z60:=sizeOf270
 v60:=zeroValue270
 i60:=by kernel_rfl
 t61:=underlying271
 a61:=isAgg271
 z61:=sizeOf271
 t65:=underlying286
 a65:=isAgg286
 z65:=sizeOf286
 v65:=zeroValue286
 i65:=by kernel_rfl
 t66:=underlying287
 a66:=isAgg287
 z66:=sizeOf287
 v66:=zeroValue287
 i66:=by kernel_rfl
 t67:=underlying135
 a67:=isAgg135
 z67:=sizeOf135
 v67:=zeroValue135
 i67:=by kernel_rfl
 g0:=by kernel_rfl
 m0:=by kernel_rfl
 g1:=by kernel_rfl
 m1:=by kernel_rfl
 g2:=by kernel_rfl
 m2:=by kernel_rfl
 g3:=by kernel_rfl
 m3:=by kernel_rfl
 g4:=by kernel_rfl
 m4:=by kernel_rfl }
theorem jIA (s:ByteArray) (hmax:s.size≤9223372036854775806) (u:Nat) (h:Lib.parseUintB 64 s.data.toList=.ok u) (w:World) :
  Calls prog 143 #[.string s,.int .i64 10,.int .i64 64] w (fun e w'=>e=.returned (.tuple #[.int .u64 u,.nilIface])∧(w'=w∨w'=Lib.bytesWorld w 5 s)):=Any.strconv_ParseUint_10_at64_ok jEP s hmax u h w
theorem jBW (s : ByteArray) (hlim : s.size ≤ 281474976710656) (h : Lib.parseUintB 64 s.data.toList = .range) (tp : TypeId) (p : Value) (w : World) (hvar : w.var? prog "strconv.ErrRange" = some #[.iface tp p]) :
  Calls prog 143 #[.string s,.int .i64 10,.int .i64 64] w (fun e w'=>∃N,e=.returned (.tuple #[.int .u64 18446744073709551615,.iface 277 (.pointer (some ⟨N,0,none⟩))])∧w.heap.size≤N∧w'.heap[N]?=some (.cells #[.string ⟨#[80,97,114,115,101,85,105,110,116]⟩,.string s,.iface tp p] 284 (0,0))∧RowKit.Below w.heap.size w w'):=Any.strconv_ParseUint_10_at64_range_var jEP s hlim h tp p w hvar
end Go.Proofs
end
section
open Go Go.SE
namespace Go.SE
theorem jCF {B:Nat} {w w':World} (h:RowKit.Below B w w'):Ext (fun b=>B≤b) w w':=⟨h.os,h.tape,h.output,(by first | exact Nat.le_refl _),h.size,fun b _ hf=>h.block b (by omega)⟩
end Go.SE
end
section
open Go Go.SE
namespace Go.Proofs
open Tryz
attribute [local irreducible] Calls
abbrev ErrV (w : World) : Prop := ∃ tp p, w.var? prog "strconv.ErrRange" = some #[.iface tp p]
theorem tB (M:Nat) (hM:M=18446744073709551615):∀(l:List UInt8) (acc:Nat),(∀c∈l,Sp.isDig c=true)→acc≤M→Lib.parseUintM M acc l=if l.foldl (fun n c=>10*n+(c.toNat - 48)) acc≤M then .ok (l.foldl (fun n c=>10*n+(c.toNat - 48)) acc) else .range
 | [],acc,_,ha=>by rw [Lib.parseUintM,List.foldl_nil,if_pos ha]
 | c :: r,acc,hd,ha=>by
  have hc:=hd c (by simp);unfold Sp.isDig at hc;rw [Bool.and_eq_true,decide_eq_true_eq,decide_eq_true_eq] at hc;have mono:∀(l:List UInt8) (a:Nat),a≤l.foldl (fun n c=>10*n+(c.toNat - 48)) a:=by
   intro l;induction l with
   | nil=>intro a;exact Nat.le_refl _
   | cons d l ih=>intro a;rw [List.foldl_cons];have:=ih (10*a+(d.toNat - 48));omega
  have hm:=mono r (10*acc+(c.toNat - 48));rw [Lib.parseUintM,if_pos hc,List.foldl_cons];by_cases h1:1844674407370955162≤acc
  ·rw [if_pos h1,if_neg (by omega)]
  ·rw [if_neg h1];by_cases h2:M<acc*10+(c.toNat - 48)
   ·rw [if_pos h2,if_neg (by omega)]
   ·rw [if_neg h2,Nat.mul_comm acc 10,tB M hM r _ (fun d hd'=>hd d (by simp [hd'])) (by omega)]
theorem jHM {l:List UInt8} (hd:∀c∈l,Sp.isDig c=true) (hne:l≠[]):Lib.parseUintB 64 l=if Sp.decV l≤18446744073709551615 then .ok (Sp.decV l) else .range:=by
 unfold Lib.parseUintB;rw [if_neg hne];exact tB _ (by decide) l 0 hd (by decide)
theorem jEE (l:List UInt8) (hd:∀c∈l,Sp.isDig c=true) (hne:l≠[]) (hl:l.length≤10000000) (w:World) (hv:ErrV w) :
  Calls prog 143 #[.string ⟨l.toArray⟩,.int .i64 10,.int .i64 64] w (fun e w'=>Pure w w'∧((Sp.decV l<18446744073709551616∧e=.returned (.tuple #[.int .u64 (Sp.decV l:Int),.nilIface]))∨(18446744073709551616≤Sp.decV l∧∃k T v,e=.returned (.tuple #[.int .u64 k,.iface T v])))):=by
 have hsz:(ByteArray.mk l.toArray).size=l.length:=by simp [ByteArray.size]
 have hB:=jHM hd hne
 by_cases h:Sp.decV l≤18446744073709551615
 ·rw [if_pos h] at hB
  refine (jIA ⟨l.toArray⟩ (by omega) _ (by simpa using hB) w).mono ?_
  rintro e w' ⟨rfl,hw⟩
  refine ⟨?_,.inl ⟨by omega,rfl⟩⟩
  rcases hw with rfl | rfl
  ·exact Ext.refl _
  ·exact (jCF (Joins.below_bytesWorld w.heap.size w _ _ (Nat.le_refl _))).mono (fun i hi h=>by have:w.heap.size≤i:=h;omega)
 ·rw [if_neg h] at hB
  obtain ⟨tp,p,hv⟩:=hv
  refine (jBW ⟨l.toArray⟩ (by omega) (by simpa using hB) tp p w hv).mono ?_
  rintro e w' ⟨N,rfl,_,_,hb⟩
  exact ⟨(jCF hb).mono (fun i hi h=>by have:w.heap.size≤i:=h;omega),.inr ⟨by omega,_,_,_,rfl⟩⟩
def jKP (w0:World) (a:Addr):Prop:=∀w,Ext (·=a.block) w0 w→ErrV w
theorem jKP.ext {w0 w1:World} {a:Addr} (h:jKP w0 a) (E:Ext (·=a.block) w0 w1):jKP w1 a:=fun w E'=>h w (E.trans E')
theorem jGX (x:ByteArray) (i k:Nat) (h:i+k≤(bts x).length) (w:World):(Instr.sliceAt 9 (.string x) (some (.int .i64 (i:Int))) (some (.int .i64 ((i+k:Nat):Int))) none).run prog w=.ok (.string ⟨(((bts x).drop i).take k).toArray⟩) w:=by
 have hl:=kR x;rw [run_sliceAt_string _ _ _ _ _ _ underlying9,run_slice_string_if _ _ _ _ _ _ _ underlying9,if_pos ⟨by omega,by omega⟩,if_pos ⟨by omega,by omega⟩];have:x.extract (i:Int).toNat ((i+k:Nat):Int).toNat=⟨(((bts x).drop i).take k).toArray⟩:=by
  simp only [Int.toNat_natCast];apply ByteArray.ext;rw [ByteArray.data_extract];apply Array.toList_inj.1;rw [Array.toList_extract];simp [bts,List.extract_eq_take_drop]
 rw [this]
theorem jHI (w:World):(Go.binOp .neq 128 (.nilIface:Value) (.nilIface:Value)).run prog w=.ok (.bool false) w:=by kernel_rfl
theorem jLN (T:TypeId) (v:Value) (w:World):(Go.binOp .neq 128 (.iface T v) (.nilIface:Value)).run prog w=.ok (.bool true) w:=by kernel_rfl
section
variable (a:Addr) (x:ByteArray) (i n:Nat) (w0:World) (h:Spk w0 a x i n) (hi:i≤(bts x).length) (hc:(bts x).length≤10000000) (hv:jKP w0 a)
include h hi hc hv
theorem jIK:Calls prog 148 #[.pointer (some a)] w0 (fun e w'=>jAX w0 a x n (fun v:Nat=>.int .u64 (v:Int)) e w' (Sp.qQ (bts x) i)):=by
 refine (w_K (some a) w0 (fun o r w'=>jAX w0 a x n (fun v:Nat=>.int .u64 (v:Int)) (match o with | none=>.returned (.int .u64 r) | some ch=>.panicked ch) w' (Sp.qQ (bts x) i)) ?_).mono ?_
 ·unfold m_K;have hl:=kR x;refine ⟨a,rfl,_,zQ h,?_⟩;refine (tO a x i n w0 h hi).mono ?_;unfold Sp.qQ;rintro e w1 (⟨d,hd,rfl,E1⟩ | ⟨hd,rfl,E1⟩)
  ·rw [hd];simp only;have hilt:=Sp.jAS hd;have hdi:(bts x)[i]=d:=by rw [List.getElem?_eq_getElem hilt] at hd;exact Option.some.inj hd
   have h1:=h.pure E1;refine .inl ⟨_,rfl,E1.keptP,fun hb=>⟨a,rfl,fun H1 w2 hs2=>?_⟩,fun hb=>fun H1 w2 hs2=>?_⟩
   ·have h2:=h1.ext hs2.ext (fun hh=>by have:=hs2.old _ hh;have:=h.lt;omega);refine ⟨_,zQ h2,?_⟩;refine (kJ (some a) 60 i w2).mono ?_;rintro _ w3 ⟨rfl,rfl⟩;refine .inr ⟨_,rfl,?_⟩;rw [if_pos (by unfold Sp.isDig;simp at hb;simp;omega)];exact ⟨rfl,E1.pure.trans' hs2.ext (fun b hb hh=>by have:=hs2.old _ hh;omega)⟩
   ·have hdig:Sp.isDig d=true:=by unfold Sp.isDig;simp at hb;simp;omega
    rw [if_neg (by rw [hdig];decide)];have nH:∀{H:NP} {w w':World},Hst w0 H w H w'→¬ H a.block:=fun hs hh=>by have:=hs.old _ hh;have:=h.lt;omega
    have h2:=h1.ext hs2.ext (fun hh=>by have:=hs2.old _ hh;have:=h.lt;omega);have E2:Ext (·=a.block) w0 w2:=E1.pure.trans' hs2.ext (fun b hb hh=>by have:=hs2.old _ hh;omega);unfold m_K_j1;have hdl:=Sp.jBE hi;have hne:Sp.zB (bts x) i≠[]:=by rw [Sp.qF hilt (by rw [hdi];exact hdig)];simp
    refine ⟨fun H w=>(∀b,H b→w0.heap.size≤b)∧∃j:Nat,i≤j∧j+(Sp.zB (bts x) j).length=i+(Sp.zB (bts x) i).length∧j≤(bts x).length∧Spk w a x j n∧Ext (·=a.block) w0 w,fun w=>match w.cell? (a.add 1) with | some (.int _ k)=>((bts x).length - k.toNat) | _=>0,⟨fun b hb=>hs2.old b hb,i,Nat.le_refl _,rfl,hi,h2,E2⟩,?_⟩;rintro Hl wl hsl ⟨hHl,j,hij,hjl,hj,hR,hE⟩;unfold m_K_l3;refine ⟨a,rfl,fun w7 hs7=>?_⟩;have hna:=nH hsl;have h7:=hR.ext hs7.ext hna;have E7:Ext (·=a.block) w0 w7:=hE.trans' hs7.ext (fun b hb hh=>by have:=hHl _ hh;omega);have done:Sp.zB (bts x) j=[]→m_K_j2 (some a) (i:Int) w0 Hl w7 (fun o r w'=>jAX w0 a x n (fun v:Nat=>.int .u64 (v:Int)) (match o with | none=>.returned (.int .u64 r) | some ch=>.panicked ch) w' (if Sp.yH (Sp.zB (bts x) i)=true then .no 61 i else .ok (Sp.decV (Sp.zB (bts x) i)) (i+(Sp.zB (bts x) i).length))):=fun e=>by
     have hjj:j=i+(Sp.zB (bts x) i).length:=by rw [e] at hjl;simpa using hjl
     unfold m_K_j2;refine ⟨a,rfl,fun w3 hs3=>?_⟩;have h3:=h7.ext hs3.ext hna;have E3:Ext (·=a.block) w0 w3:=E7.trans' hs3.ext (fun b hb hh=>by have:=hHl _ hh;omega);refine ⟨x,h3.cell0,a,rfl,_,zQ h3,_,by rw [hjj];exact jGX x i _ hdl w3,?_⟩;rw [Sp.jDH];have hall:=Sp.jFF (bts x) i;have hsz:(ByteArray.mk (Sp.zB (bts x) i).toArray).size=(Sp.zB (bts x) i).length:=by simp [ByteArray.size]
     have hix:∀(l:List UInt8) (w:World),1<l.length→∃c,l.head?=some c∧(Instr.index 9 (.string ⟨l.toArray⟩) (.int .i64 0)).run prog w=.ok (.int .u8 (c.toNat:Int)) w:=fun l w hl=>by
      cases l with
      | nil=>simp at hl
      | cons c l=>exact ⟨c,rfl,yQ ⟨(c :: l).toArray⟩ 0 (by simp [bts]) w⟩
     refine (jEE _ hall hne (by omega) w3 (hv w3 E3)).mono ?_;generalize Sp.zB (bts x) i=D at *;rintro _ w4 ⟨E4,⟨hlt,rfl⟩ | ⟨hge,k,T,v,rfl⟩⟩
     ·have h4:=h3.pure E4;have F4:=E3.thenPure E4;refine ⟨_,_,rfl,E4.keptP,_,jHI w4,fun hb=>(by cases hb),fun _=>⟨fun hb=>?_,fun hb=>?_⟩⟩
      ·have hb:1<D.length:=by have:=of_decide_eq_true hb;omega
       obtain ⟨c,hhd,hrun⟩:=hix D w4 hb;refine ⟨_,hrun,fun hz=>?_,fun hz=>?_⟩
       ·refine (kJ (some a) 61 i w4).mono ?_;rintro _ w5 ⟨rfl,rfl⟩;refine .inr ⟨_,rfl,?_⟩;rw [if_pos (by
         unfold Sp.yH;have:c=48:=by
          have:=beq_iff_eq.1 hz;apply UInt8.toNat_inj.1;show c.toNat=48;omega
         rw [hhd,this,decide_eq_true hb];simp)]
        exact ⟨rfl,F4⟩
       ·rw [if_neg (by
         unfold Sp.yH;have:c≠48:=fun e=>by subst e;simp at hz
         rw [hhd,decide_eq_false (by omega)];simp [this])]
        rw [hjj] at h4;exact ⟨rfl,h4,F4⟩
      ·rw [if_neg (by
        have:=of_decide_eq_false hb;unfold Sp.yH;rw [decide_eq_false (by omega),decide_eq_false (by omega)];simp)]
       rw [hjj] at h4;exact ⟨rfl,h4,F4⟩
     ·refine ⟨_,_,rfl,E4.keptP,_,jLN T v w4,fun _=>?_,fun hb=>(by cases hb)⟩;refine (kJ (some a) 61 i w4).mono ?_;rintro _ w5 ⟨rfl,rfl⟩;refine .inr ⟨_,rfl,?_⟩;rw [if_pos (by unfold Sp.yH;rw [decide_eq_true hge];rfl)];exact ⟨rfl,E3.thenPure E4⟩
    have hdj:∀hlt:j<(bts x).length,¬ (48≤(bts x)[j].toNat∧(bts x)[j].toNat≤57)→Sp.zB (bts x) j=[]:=fun hlt hh=>Sp.uR hlt (by unfold Sp.isDig;rw [Bool.and_eq_false_iff,decide_eq_false_iff_not,decide_eq_false_iff_not];omega);refine ⟨_,zQ h7,a,rfl,x,h7.cell0,fun hc=>?_,fun hc=>done (Sp.oY (by have:=of_decide_eq_false hc;omega))⟩;have hlt:j<(bts x).length:=by have:=of_decide_eq_true hc;omega
    refine ⟨a,rfl,x,h7.cell0,a,rfl,_,zQ h7,_,yQ x j hlt w7,fun hb=>?_,fun hb=>done (hdj hlt (by have:=of_decide_eq_false hb;omega))⟩;refine ⟨a,rfl,x,h7.cell0,a,rfl,_,zQ h7,_,yQ x j hlt w7,fun hb2=>?_,fun hb2=>done (hdj hlt (by have:=of_decide_eq_false hb2;omega))⟩;refine ⟨a,rfl,_,zQ h7,a,rfl,h7.canW (i:=1) (by simp),hna,?_⟩;rintro w8 rfl;rw [kH (show j≤(bts x).length by omega) (by omega)];have hstep:Sp.zB (bts x) j=(bts x)[j] :: Sp.zB (bts x) (j+1):=Sp.qF hlt (by unfold Sp.isDig;rw [Bool.and_eq_true,decide_eq_true_eq,decide_eq_true_eq];have:=of_decide_eq_true hb;have:=of_decide_eq_true hb2;omega);refine ⟨⟨hHl,j+1,by omega,?_,hlt,kY h7 (j+1),E7.trans vE⟩,?_⟩
    ·rw [hstep] at hjl;simp only [List.length_cons] at hjl;omega
    ·show (match (w7.setCell (a.add 1) (.int .i64 ((j+1:Nat):Int))).cell? (a.add 1) with | some (.int _ k)=>((bts x).length - k.toNat) | _=>0)<(match wl.cell? (a.add 1) with | some (.int _ k)=>((bts x).length - k.toNat) | _=>0);rw [zQ (kY h7 (j+1)),zQ hR];simp only;omega
  ·rw [hd];exact .inr ⟨_,rfl,rfl,E1.pure⟩
 ·rintro e w' (⟨r,rfl,hh⟩ | ⟨ch,rfl,hh⟩) <;> exact hh
theorem jKJ (nt:Int):Calls prog 147 #[.pointer (some a),.int .i64 nt] w0 (fun e w'=>jAX w0 a x n (fun v:Nat=>.int .i64 (v:Int)) e w' (Sp.zV (bts x) nt i)):=by
 refine (w_N2 (some a) nt w0 (fun o r w'=>jAX w0 a x n (fun v:Nat=>.int .i64 (v:Int)) (match o with | none=>.returned (.int .i64 r) | some ch=>.panicked ch) w' (Sp.zV (bts x) nt i)) ?_).mono ?_
 ·unfold m_N2;refine ⟨a,rfl,_,zQ h,?_⟩;refine (jIK a x i n w0 h hi hc hv).mono ?_;intro e w1;unfold Sp.zV;have hok:=Sp.xQ (bts x) i;generalize Sp.qQ (bts x) i=R at *;cases R with
  | no er at_=>rintro ⟨rfl,E⟩;exact .inr ⟨_,rfl,rfl,E⟩
  | ok v j =>
   rintro ⟨rfl,h1,E⟩
   have big:∀hh:(16≤v∨(v:Int)=nt),Calls prog 106 #[.pointer (some a),.int .i64 50,.int .i64 (i:Int)] w1 (fun e w3=>(e=.returned (.tuple #[])∧jAX w0 a x n (fun v:Nat=>.int .i64 (v:Int)) (.returned (.int .i64 (IntKind.i64.wrap (v:Int)))) w3 (if 16≤v∨(v:Int)=nt then .no 50 i else .ok v j))∨∃ch,e=.panicked ch∧jAX w0 a x n (fun v:Nat=>.int .i64 (v:Int)) (.panicked ch) w3 (if 16≤v∨(v:Int)=nt then .no 50 i else .ok v j)):=fun hh=>by
    refine (kJ (some a) 50 i w1).mono ?_;rintro _ w2 ⟨rfl,rfl⟩;refine .inr ⟨_,rfl,?_⟩;rw [if_pos hh];exact ⟨rfl,E⟩
   refine .inl ⟨_,rfl,fun hb=>?_,fun hb=>?_⟩
   ·rw [Bool.or_eq_true,decide_eq_true_eq,beq_iff_eq] at hb
    by_cases h16:16≤v
    ·exact big (.inl h16)
    ·rw [IntWalk.i64_in _ (by omega)] at hb
     exact big (.inr (by omega))
   ·rw [Bool.or_eq_false_iff,decide_eq_false_iff_not,beq_eq_false_iff_ne] at hb
    have hw:IntKind.i64.wrap (v:Int)=(v:Int):=IntWalk.i64_in _ (by omega)
    rw [hw] at hb ⊢
    show jAX _ _ _ _ _ _ _ (if 16≤v∨(v:Int)=nt then _ else _)
    rw [if_neg (by omega)]
    exact ⟨rfl,h1,E⟩
 ·rintro e w' (⟨r,rfl,hh⟩ | ⟨ch,rfl,hh⟩) <;> exact hh
end
theorem jJG {P:Program} {t:TypeId} (h:Nat) (hh:h<16) (w:World):(Go.binOp .shl t (.int .u8 (h:Int)) (.int .u64 4)).run P w=.ok (.int .u8 ((16*h:Nat):Int)) w:=by
 have hr:∀k:Fin 16,IntKind.u8.wrap ((k.val:Int)*2 ^ min (4:Int).toNat IntKind.u8.bits)=((16*k.val:Nat):Int):=by decide +kernel
 have:=hr ⟨h,hh⟩;show (Op.shift .shl .u8 (h:Int) .u64 4).run P w=_;unfold Op.shift;simp only at this;simpa using this
theorem jHH {P:Program} {t:TypeId} (h l:Nat) (hh:h<16) (hl:l<16) (w:World):(Go.binOp .or t (.int .u8 ((16*h:Nat):Int)) (.int .u8 (l:Int))).run P w=.ok (.int .u8 ((UInt8.ofNat (16*h+l)).toNat:Int)) w:=by
 have hr:∀k m:Fin 16,IntKind.u8.wrap ((BitVec.ofInt IntKind.u8.bits ((16*k.val:Nat):Int) ||| BitVec.ofInt IntKind.u8.bits (m.val:Int)).toNat:Int)=((UInt8.ofNat (16*k.val+m.val)).toNat:Int):=by decide +kernel
 have:=hr ⟨h,hh⟩ ⟨l,hl⟩;simp only at this;show ((pure (Value.int .u8 _):Sem Value)).run P w=_;rw [this];rfl
theorem jMD {c v:Nat} (h:Sp.jDB c=some v):v<16:=by
 unfold Sp.jDB at h;split at h
 ·cases h;omega
 ·split at h
  ·cases h;omega
  ·split at h
   ·cases h;omega
   ·cases h
theorem xR {B:List UInt8} {i v j:Nat} (h:Sp.vC B i=.ok v j):v<16:=by
 unfold Sp.vC at h;split at h
 ·cases h
 ·split at h
  ·cases h
  ·rename_i hv;cases h;exact jMD hv
structure DatS (w0 w:World) (a:Addr) (x:ByteArray) (n j:Nat) (b:Sl) (acc:List UInt8):Prop where
 rd:Spk w a x j n
 rows:Rws w 5 1 b (byr acc)
 own:∀k,b.blk k→w0.heap.size≤k
 ext:Ext (·=a.block) w0 w
 la:a.block<w0.heap.size
section
variable {w0 w w':World} {a:Addr} {x:ByteArray} {n j:Nat} {b:Sl} {acc:List UInt8}
theorem DatS.move {j':Nat} (h:DatS w0 w a x n j b acc) (hr:Spk w' a x j' n) (E:Ext (·=a.block) w w'):DatS w0 w' a x n j' b acc :=
 ⟨hr,h.rows.ext E (fun k hk e=>by have:=h.own k hk;have:=h.la;omega),h.own,h.ext.trans E,h.la⟩
theorem DatS.app (h:DatS w0 w a x n j b acc) (c:UInt8) (hl:acc.length≤10000000) {p:Addr} {w1:World} (hn:New w (.cells #[.int .u8 (c.toNat:Int)] 5) p w1) :
  ∃s w2,(Builtin.append_ #[54,54] 54 #[b.v,(Sl.mk (some p) 1 1).v]).run prog w1=.ok s.v w2∧DatS w0 w2 a x n j s (acc++[c]):=by
 have E1:Pure w w1:=Ext.new hn
 obtain ⟨s,w2,hr,R,X,o⟩:=(h.rows.pure E1).append (P:=prog) (ty:=54) (c:=1) uK (r:=[.int .u8 (c.toNat:Int)]) (Box.of_new hn).row rfl rfl (by rw [zG];omega) (by rw [zG];simp [maxLen];omega)
 have z:=h.ext.size
 have z1:=E1.size
 refine ⟨s,w2,hr,⟨(h.rd.pure E1).ext X (fun hh=>by have:=h.own _ hh;have:=h.la;omega),?_,fun k hk=>?_,(h.ext.thenPure E1).trans' X (fun k hk hh=>by have:=h.own k hh;omega),h.la⟩⟩
 ·rw [show byr (acc++[c])=byr acc++[[.int .u8 (c.toNat:Int)]] by simp [byr]];exact R
 ·rcases o k hk with h1 | h1
  ·exact h.own k h1
  ·omega
end
section
variable (a:Addr) (x:ByteArray) (i n:Nat) (w0:World) (h:Spk w0 a x i n) (hq:∃c,(bts x)[i]?=some c∧c.toNat=34) (hc:(bts x).length≤10000000)
include h hq hc
theorem jKL:Calls prog 149 #[.pointer (some a)] w0 (fun e w'=>jAX w0 a x n (fun l:List UInt8=>.string ⟨l.toArray⟩) e w' (Sp.qR (bts x) i)):=by
 obtain ⟨c34,hc34,hv34⟩:=hq;have hil:=Sp.jAS hc34;refine (w_M (some a) w0 (fun o r w'=>jAX w0 a x n (fun l:List UInt8=>.string ⟨l.toArray⟩) (match o with | none=>.returned (.string r) | some ch=>.panicked ch) w' (Sp.qR (bts x) i)) ?_).mono ?_
 ·unfold m_M;refine ⟨a,rfl,_,zQ h,?_⟩;refine (gF a x i n w0 h (by omega) 34 hc).mono ?_;intro e w1;have ht:Sp.kA (bts x) 34 i=.ok () (i+1):=by unfold Sp.kA;rw [hc34];simp only;rw [if_pos hv34]
  rw [ht];rintro ⟨rfl,h1,E1⟩;have hnil:∀b,¬ Sl.nil.blk b:=fun b hb=>by obtain ⟨a,h,_⟩:=hb;cases h
  refine .inl ⟨rfl,fun b w=>∃(f j:Nat) (acc:List UInt8),j≤(bts x).length∧(bts x).length+1≤f+j∧acc.length≤j∧Sp.vN (bts x) i f j acc=Sp.qR (bts x) i∧DatS w0 w a x n j b acc,fun _ w=>match w.cell? (a.add 1) with | some (.int _ k)=>((bts x).length - k.toNat) | _=>0,⟨(bts x).length+1,i+1,[],hil,by omega,by simp,rfl,⟨h1,Rws.nil _ _ _,fun b hb=>(hnil b hb).elim,E1,h.lt⟩⟩,?_⟩;rintro b wl ⟨f,j,acc,hj,hf,hal,hsp,D⟩;obtain ⟨f,rfl⟩:∃g,f=g+1:=⟨f - 1,by omega⟩;unfold m_M_l1;rw [Sp.vN] at hsp;have again : ∀ {b' : Sl} {w' : World} {j' : Nat} {acc' : List UInt8}, j < j' → j' ≤ (bts x).length → acc'.length ≤ j' → Sp.vN (bts x) i f j' acc' = Sp.qR (bts x) i → DatS w0 w' a x n j' b' acc' →
    (fun (b:Sl) (w:World)=>(∃(f j:Nat) (acc:List UInt8),j≤(bts x).length∧(bts x).length+1≤f+j∧acc.length≤j∧Sp.vN (bts x) i f j acc=Sp.qR (bts x) i∧DatS w0 w a x n j b acc)∧(fun (_:Sl) (w:World)=>match w.cell? (a.add 1) with | some (.int _ k)=>((bts x).length - k.toNat) | _=>0) b w<(fun (_:Sl) (w:World)=>match w.cell? (a.add 1) with | some (.int _ k)=>((bts x).length - k.toNat) | _=>0) b wl) b' w':=fun h1 h2 h3 h4 D'=>by
   refine ⟨⟨f,_,_,h2,by omega,h3,h4,D'⟩,?_⟩
   show (match World.cell? _ (a.add 1) with | some (.int _ k)=>((bts x).length - k.toNat) | _=>0)<(match World.cell? _ (a.add 1) with | some (.int _ k)=>((bts x).length - k.toNat) | _=>0)
   rw [zQ D'.rd,zQ D.rd]
   simp only
   omega
  have give:∀{e k:Nat} {w:World} {Kc:Sl→WP},Spk w a x k n→Ext (·=a.block) w0 w→(Sp.Rr.no (e:Int) k:Sp.Rr (List UInt8))=Sp.qR (bts x) i→True:=fun _ _ _=>trivial;refine (tO a x j n wl D.rd hj).mono ?_;rintro e w2 (⟨c,hcc,rfl,E2⟩ | ⟨hcc,rfl,E2⟩)
  ·rw [hcc] at hsp;simp only at hsp;have hjl:=Sp.jAS hcc;have hclt:=c.toNat_lt;have D2:=D.move (D.rd.pure E2) E2.pure;refine .inl ⟨_,rfl,fun hb=>⟨a,rfl,_,zQ D2.rd,?_⟩,fun hb=>?_⟩
   ·refine (kJ (some a) 60 j w2).mono ?_;rintro _ w3 ⟨rfl,rfl⟩;refine .inr ⟨_,rfl,?_⟩;rw [if_pos (by simp at hb;omega)] at hsp;rw [← hsp];exact ⟨rfl,D2.ext⟩
   ·rw [if_neg (by simp at hb;omega)] at hsp;unfold m_M_j2;refine ⟨a,rfl,_,zQ D2.rd,a,rfl,D2.rd.canW (i:=1) (by simp),?_⟩;rintro w4 rfl;rw [kH (show j≤(bts x).length by omega) (by omega)];have D4:=D2.move (kY D2.rd (j+1)) vE;generalize w2.setCell (a.add 1) (.int .i64 ((j+1:Nat):Int))=w4 at *;refine ⟨fun h34=>?_,fun h34=>?_⟩
    ·have h34:c.toNat=34:=by have:=beq_iff_eq.1 h34;omega
     rw [if_pos h34] at hsp;have hbl:b.len=acc.length:=by rw [D4.rows.len,zG]
     have conv:=gT (P:=prog) underlying54 underlying5 underlying9 D4.rows.lst
     refine ⟨fun h64=>?_,fun h64=>⟨_,conv,?_⟩⟩
     ·refine (kJ (some a) 1 i w4).mono ?_;rintro _ w5 ⟨rfl,rfl⟩;refine .inr ⟨_,rfl,?_⟩;rw [if_pos (by have:=of_decide_eq_true h64;omega)] at hsp;rw [← hsp];exact ⟨rfl,D4.ext⟩
     ·rw [if_neg (by have:=of_decide_eq_false h64;omega)] at hsp;rw [← hsp];exact ⟨rfl,D4.rd,D4.ext⟩
    ·have h34:c.toNat≠34:=by have:=beq_eq_false_iff_ne.1 h34;omega
     rw [if_neg h34] at hsp;refine ⟨fun h92=>?_,fun h92=>?_⟩
     ·have h92:c.toNat=92:=by have:=beq_iff_eq.1 h92;omega
      rw [if_pos h92] at hsp;refine (tO a x (j+1) n w4 D4.rd (by omega)).mono ?_;rintro e w6 (⟨d,hdd,rfl,E6⟩ | ⟨hdd,rfl,E6⟩)
      ·rw [hdd] at hsp;simp only at hsp;have hdl:=Sp.jAS hdd;have hdlt:=d.toNat_lt;have D6:=D4.move (D4.rd.pure E6) E6.pure;refine .inl ⟨_,rfl,fun hb=>⟨a,rfl,_,zQ D6.rd,?_⟩,fun hb=>?_⟩
       ·refine (kJ (some a) 60 ((j+1:Nat):Int) w6).mono ?_;rintro _ w7 ⟨rfl,rfl⟩;refine .inr ⟨_,rfl,?_⟩;rw [if_neg (by simp at hb;omega),if_neg (by simp at hb;omega)] at hsp;rw [← hsp];exact ⟨rfl,D6.ext⟩
       ·unfold m_M_j3;refine ⟨a,rfl,_,zQ D6.rd,a,rfl,D6.rd.canW (i:=1) (by simp),?_⟩;rintro w10 rfl;rw [kH (show j+1≤(bts x).length by omega) (by omega)];have D10:=D6.move (kY D6.rd (j+1+1)) vE;generalize w6.setCell (a.add 1) (.int .i64 ((j+1+1:Nat):Int))=w10 at *;refine ⟨fun h120=>?_,fun h120=>?_⟩
        ·have h120:d.toNat=120:=by have:=beq_iff_eq.1 h120;omega
         rw [if_pos h120] at hsp;refine (jIL a x (j+1+1) n w10 D10.rd (by omega) hc).mono ?_;intro e w11;have hok1:=Sp.uB (bts x) (j+2);have hlt1:=@xR (bts x) (j+2);rw [show j+1+1=j+2 from rfl] at *;generalize Sp.vC (bts x) (j+2)=R1 at *;cases R1 with
         | no er at_=>rintro ⟨rfl,X⟩;exact .inr ⟨_,rfl,by rw [← hsp];exact ⟨rfl,D10.ext.trans X⟩⟩
         | ok hi j1 =>
          rintro ⟨rfl,hr1,X1⟩
          obtain ⟨q1,q2⟩:=hok1 hi j1 rfl
          have hhi:=hlt1 rfl
          have D11:=D10.move hr1 X1
          refine .inl ⟨_,rfl,_,jJG hi hhi w11,?_⟩
          refine (jIL a x j1 n w11 D11.rd q2 hc).mono ?_
          intro e w12
          have hok2:=Sp.uB (bts x) j1
          have hlt2:=@xR (bts x) j1
          simp only [Sp.Rr.bind] at hsp
          generalize Sp.vC (bts x) j1=R2 at *
          cases R2 with
          | no er at_=>rintro ⟨rfl,X⟩;exact .inr ⟨_,rfl,by rw [← hsp];exact ⟨rfl,D11.ext.trans X⟩⟩
          | ok lo j2 =>
           rintro ⟨rfl,hr2,X2⟩
           obtain ⟨q3,q4⟩:=hok2 lo j2 rfl
           have hlo:=hlt2 rfl
           have D12:=D11.move hr2 X2
           refine .inl ⟨_,rfl,_,jHH hi lo hhi hlo w12,?_⟩
           intro p1 w13 n13
           obtain ⟨s1,w14,hr,D14⟩:=D12.app (UInt8.ofNat (16*hi+lo)) (by omega) n13
           exact ⟨s1,w14,hr,again (by omega) q4 (by simp;omega) hsp D14⟩
        ·have h120:d.toNat≠120:=by have:=beq_eq_false_iff_ne.1 h120;omega
         rw [if_neg h120,if_pos (by simp at hb;omega)] at hsp;intro p2 w15 n15;obtain ⟨s2,w16,hr,D16⟩:=D10.app d (by omega) n15;exact ⟨s2,w16,hr,again (by omega) (by omega) (by simp;omega) hsp D16⟩
      ·rw [hdd] at hsp;exact .inr ⟨_,rfl,by rw [← hsp];exact ⟨rfl,D4.ext.thenPure E6⟩⟩
     ·have h92:c.toNat≠92:=by have:=beq_eq_false_iff_ne.1 h92;omega
      rw [if_neg h92] at hsp;intro p3 w18 n18;obtain ⟨s3,w19,hr,D19⟩:=D4.app c (by omega) n18;exact ⟨s3,w19,hr,again (by omega) (by omega) (by simp;omega) hsp D19⟩
  ·rw [hcc] at hsp;exact .inr ⟨_,rfl,by rw [← hsp];exact ⟨rfl,D.ext.thenPure E2⟩⟩
 ·rintro e w' (⟨r,rfl,hh⟩ | ⟨ch,rfl,hh⟩) <;> exact hh
end
end Go.Proofs
end
