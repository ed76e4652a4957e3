import Derived.KernelRfl
import Init.Data.Nat
import Derived.Test.YtjjcakjoeiolgaaGreatProg
import Derived.WalkKit
import Derived.Shelf.SlSortCmp.NoneTotal
import Derived.Shelf.SlicesG.CompactS
import Derived.Orders
import Derived.OrdersIn
import Derived.Still
import Derived.RangeFuncLeaves
import Derived.Tactics
import Derived.Scope
import Derived.TacticsIn
import Derived.RangeFuncRecord
import Derived.Laws.StructEq
import Derived.Laws.Rows
import Derived.Laws.NewBlocks
import Derived.Laws.Strings
import Derived.Laws.Pointers
import Derived.Below
import Derived.Laws.AppendOwn
import Derived.Laws.MakeOwn
import Derived.IntWalk
import Derived.RangeFuncSeq
import Derived.RangeFuncIn
import Derived.Laws.Entries
import Derived.Laws.IdiomStrings
import Derived.Recover
set_option linter.defProp false
set_option linter.unusedVariables false
set_option linter.unusedSimpArgs false
section
namespace Go
def Om{P:Prop}(h:P:=by omega):P:=h
def Kf{P:Prop}(h:P:=by kernel_rfl):P:=h
def Gd{P:Prop}(h:P:=by grind):P:=h
def Sm{P:Prop}(h:P:=by simp):P:=h
def De{P:Prop}(h:P:=by decide):P:=h
def So{P:Prop}(h:P:=by simp;omega):P:=h
def Ic{P:Prop}(h:P:=by intro c a;cases a):P:=h
def Sy{P:Prop}(h:P:=by simp only;omega):P:=h
def Fe{P:Prop}(h:P:=by first|exact Nat.le_refl _|exact Nat.le_succ _):P:=h
def Oh{A P:Prop}(a:A)(h:A->P:=by intro _;omega):P:=h a
def Oi{A B P:Prop}(a:A)(b:B)(h:A->B->P:=by intro _ _;omega):P:=h a b
end Go
namespace Go.SE
universe u v
theorem aw{c:Prop}{h:Decidable c}(hnc:¬c){α:Sort u}{t e:α}:ite c t e=e:=if_neg hnc
theorem bt{c:Prop}{h:Decidable c}(hc:c){α:Sort u}{t e:α}:ite c t e=t:=if_pos hc
theorem ij{p:Prop}[i:Decidable p](h:decide p=true):p:=of_decide_eq_true h
theorem il{p:Prop}[i:Decidable p](h:decide p=false):¬p:=of_decide_eq_false h
theorem mu{α:Sort u}{β:Sort v}{a b:α}(f:α→β)(h:a=b):f a=f b:=congrArg f h
end Go.SE
end
section
def Uc{p:Prop}(h:p:=by first|omega|(simp;done)|(simp;omega)|grind|(simp_all;done)):p:=h
end
section
open Nat
namespace Go.Proofs
def vE(n:Nat):List UInt8:=if h:n<128 then[UInt8.ofNat n]else UInt8.ofNat (n%128+128) ::vE (n/128)
def tD{n}(h:n<128):vE n=[UInt8.ofNat n]:=by rw[vE,dif_pos h]
def Bm{n}(h:128<=n):vE n=UInt8.ofNat (n%128+128) ::vE (n/128):=by rw[vE,dif_neg Om]
def jYG(k):∀n,n<128^(k+1)->(vE n).length<=k+1:=by
 induction k with
 |zero=>intro n h;rw[tD Uc];simp
 |succ k a =>
  intro n h
  by_cases h1:n<128
  rw[tD h1];simp
  rw[Bm Om,List.length_cons]
  have:=a (n/128) Gd
  omega
def vN{n}(h:n<18446744073709551616):(vE n).length<=10:=jYG 9 n Om
def vO(s:ByteArray):List UInt8:=vE s.size++s.data.toList
def xU:Nat->Nat->List UInt8->Except Nat (Nat×Nat)
 |_,_,[]=>.error 3
 |i,n,c :: l =>
  if i=9/\1<c.toNat then .error 11
  else if c.toNat<128 then(if c.toNat=0/\0<i then .error 10 else .ok (n+c.toNat*128^i,i+1))
  else xU (i+1) (n+c.toNat%128*128^i) l
def xT(i n c l):xU i n (c :: l)=(if i=9/\1<c.toNat then .error 11
  else if c.toNat<128 then(if c.toNat=0/\0<i then .error 10 else .ok (n+c.toNat*128^i,i+1))
  else xU (i+1) (n+c.toNat%128*128^i) l):=rfl
structure Rd where
 at_:Nat
 gd:Nat
 spot:Nat
def vS(bs:List UInt8)(r:Rd):Nat×Rd:=
 if r.gd=0 then match xU 0 0 (bs.drop r.at_)with
  |.ok (n,k)=>(n,⟨r.at_+k,0,r.spot⟩)
  |.error x=>(0,⟨r.at_,x,r.at_⟩)
 else(0,r)
def xK(bs:List UInt8)(r:Rd):Nat×Rd:=
 if r.gd=0 then(if h:r.at_<bs.length then(bs[r.at_].toNat,⟨r.at_+1,0,r.spot⟩)else(0,⟨r.at_,3,r.at_⟩))
 else(0,r)
def qF(bs:List UInt8)(a:Nat)(r:Rd):List UInt8×Rd:=
 if r.gd=0 then match xU 0 0 (bs.drop r.at_)with
  |.ok (n,k)=>if a<n then([],⟨r.at_,1,r.at_⟩)else if bs.length<r.at_+k+n then([],⟨r.at_,3,r.at_⟩)else((bs.drop<|r.at_+k).take n,⟨r.at_+k+n,0,r.spot⟩)
  |.error x=>([],⟨r.at_,x,r.at_⟩)
 else([],r)
end Go.Proofs
end
section
namespace Go.Proofs
open Tryz
open Go.Shelf
def S5:Go.Shelf.Ren:=⟨fun|6=>75|15=>144|14=>143|28=>198|29=>199|20=>190|21=>191|22=>192|23=>193|24=>194|25=>195|26=>196|27=>197|46=>278|47=>279|48=>280|49=>281|50=>282|57=>306|n=>n,fun|22=>64|24=>35|25=>140|3=>3|39=>220|0=>0|53=>286|55=>23|4=>4|46=>280|45=>279|50=>234|5=>5|9=>9|66=>326|70=>194|76=>343|77=>344|n=>n,fun|n=>n⟩
def Tw:Go.Proofs.SlLaysF0.n6 prog S5:={
 mixed:=by kernel_rfl
 f6:=⟨f75.name,by decide,func75.trans<|congrArg some<|by kernel_rfl⟩
 f14:=⟨f143.name,by decide,func143.trans<|congrArg some<|by kernel_rfl⟩
 f15:=func144.trans<|congrArg some (by kernel_rfl)
 f20:=⟨f190.name,by decide,func190.trans<|congrArg some<|by kernel_rfl⟩
 f21:=⟨f191.name,by decide,func191.trans<|congrArg some<|by kernel_rfl⟩
 f22:=⟨f192.name,by decide,func192.trans<|congrArg some<|by kernel_rfl⟩
 f23:=⟨f193.name,by decide,func193.trans<|congrArg some<|by kernel_rfl⟩
 f24:=⟨f194.name,by decide,func194.trans<|congrArg some<|by kernel_rfl⟩
 f25:=⟨f195.name,by decide,func195.trans<|congrArg some<|by kernel_rfl⟩
 f26:=⟨f196.name,by decide,func196.trans<|congrArg some<|by kernel_rfl⟩
 f27:=⟨f197.name,by decide,func197.trans<|congrArg some<|by kernel_rfl⟩
 f28:=func198.trans<|congrArg some (by kernel_rfl)
 f29:=func199.trans<|congrArg some (by kernel_rfl)
 f46:=⟨f278.name,by decide,func278.trans<|congrArg some<|by kernel_rfl⟩
 f47:=func279.trans<|congrArg some (by kernel_rfl)
 f48:=func280.trans<|congrArg some (by kernel_rfl)
 f49:=⟨f281.name,by decide,func281.trans<|congrArg some<|by kernel_rfl⟩
 f50:=⟨f282.name,by decide,func282.trans<|congrArg some<|by kernel_rfl⟩
 f57:=⟨f306.name,by decide,func306.trans<|congrArg some<|by kernel_rfl⟩
 t0:=underlying0
 a0:=isAgg0
 z0:=sizeOf0
 v0:=zeroValue0
 t3:=underlying3
 a3:=isAgg3
 z3:=sizeOf3
 v3:=zeroValue3
 t4:=underlying4
 a4:=isAgg4
 z4:=sizeOf4
 v4:=zeroValue4
 t5:=underlying5
 a5:=isAgg5
 z5:=sizeOf5
 v5:=zeroValue5
 t9:=underlying9
 a9:=isAgg9
 z9:=sizeOf9
 v9:=zeroValue9
 t22:=underlying64
 a22:=isAgg64
 z22:=sizeOf64
 v22:=zeroValue64
 t25:=underlying140
 a25:=isAgg140
 z25:=sizeOf140
 v25:=zeroValue140
 t39:=underlying220
 a39:=isAgg220
 z39:=sizeOf220
 v39:=zeroValue220
 t45:=underlying279
 a45:=isAgg279
 z45:=sizeOf279
 v45:=zeroValue279
 t46:=underlying280
 a46:=isAgg280
 z46:=sizeOf280
 v46:=zeroValue280
 t50:=underlying234
 a50:=isAgg234
 z50:=sizeOf234
 v50:=zeroValue234
 t53:=underlying286
 a53:=isAgg286
 z53:=sizeOf286
 v53:=zeroValue286
 t55:=underlying23
 a55:=isAgg23
 z55:=sizeOf23
 v55:=zeroValue23
 t66:=underlying326
 a66:=isAgg326
 z66:=sizeOf326
 v66:=zeroValue326
 t70:=underlying194
 a70:=isAgg194
 z70:=sizeOf194
 v70:=zeroValue194
 t76:=underlying343
 a76:=isAgg343
 z76:=sizeOf343
 v76:=zeroValue343
 t77:=underlying344
 a77:=isAgg344
 z77:=sizeOf344
 v77:=zeroValue344 }
def zDG:Go.Shelf.Ren:=⟨fun|44=>89|n=>n,fun|25=>79|26=>9|3=>3|4=>4|0=>0|n=>n,fun|n=>n⟩
def Q7:Go.Proofs.SlLaysN.n44 prog zDG:={
 mixed:=by kernel_rfl
 f44:=⟨f89.name,by decide,func89.trans<|congrArg some<|by kernel_rfl⟩
 t0:=underlying0
 a0:=isAgg0
 z0:=sizeOf0
 v0:=zeroValue0
 t3:=underlying3
 a3:=isAgg3
 z3:=sizeOf3
 v3:=zeroValue3
 t4:=underlying4
 a4:=isAgg4
 z4:=sizeOf4
 v4:=zeroValue4
 t25:=underlying79
 a25:=isAgg79
 z25:=sizeOf79
 v25:=zeroValue79
 t26:=underlying9
 a26:=isAgg9
 z26:=sizeOf9
 v26:=zeroValue9
 i26:=by kernel_rfl }
end Go.Proofs
end
section
namespace Go.SE
abbrev NP:=Nat->Prop
abbrev WP:=World->Prop
def pS(P:Program)(o:Oper)(ε:Operand->Value)(w:World)(R:Value->World->Prop):Prop:=
 match(execOp ε o).run P w with
 |.ok (.value v) w'=>R v w'
 |.ok .skip w'=>R undef w'
 |.ok (.enter f args) w'=>Calls P f args w' fun e a=>∃v,e=.returned v/\R v a
 |.ok (.row row args) w'=>Rows P row args w' R
 |.ok (.round l f tmps assign body) w'=>RoundIn Fence.wide 0 P l f tmps assign body w' fun e a=>∃v,e=.returned v/\R v a
 |_=>False
section
variable {P:Program} {ax:Array Oper} {md:Region.Mode} {C:World->Prop}
def tR{o}{ε:Operand->Value}{w}{R f:Value->World->Prop}(h:pS P o ε w R)(a:∀v w',R v w'->f v w'):pS P o ε w f:=by
 unfold pS at *;generalize (execOp ε o).run P w=r at *;cases r with
 |ok n w' =>
  cases n<;>simp only at h|-<;>first
   |exact a _ _ h
   |exact h.mono fun e c ⟨v,d,b⟩=>⟨v,d,a _ _ b⟩
   |exact RoundIn.mono h fun e c ⟨v,d,b⟩=>⟨v,d,a _ _ b⟩
   |exact h.mono a
 |halt x w'=>exact h
def oC:Option Nat->Fence
 |none=>Fence.wide
 |some l=>Fence.wide.inRound l
def Q5(ro:Option Nat):(oC ro).round=ro:=by cases ro<;>rfl
def BB(ro:Option Nat)(f):(oC ro).fn f:=by cases ro<;>trivial
def Oo(ro:Option Nat):(oC ro).depth=none:=by cases ro<;>rfl
def Calls.oC{ro:Option Nat}{m f args w R}(h:Calls P f args w R):CallsIn (SE.oC ro) m P f args w R:=by
 cases ro with
 |none=>exact callsIn_wide.2 h
 |some l=>exact(callsIn_wide.2 h:CallsIn Fence.wide m P f args w R)
def Rows.oC{ro:Option Nat}{m}{row:String}{args w}{R:Value->World->Prop}(h:Rows P row args w R):RowsIn (SE.oC ro) m P row args w R:=by
 have a:RowsIn Fence.wide m P row args w R:=fun c cs _=>let ⟨v,w',r,s⟩:=h c cs;⟨v,w',r,stepsIn_wide.2 s⟩
 cases ro with
 |none=>exact a
 |some l=>exact a
def RoundIn.oC{ro:Option Nat}{n m l f tmps assign body w R}(h:RoundIn Fence.wide n P l f tmps assign body w R):RoundIn (SE.oC ro) m P l f tmps assign body w R:=by
 have a:RoundIn Fence.wide m P l f tmps assign body w R:=⟨trivial,fun c cs _=>h.2 c cs<|room_wide _⟩;cases ro with
 |none=>exact a
 |some l'=>exact a
def Px{o}{ε:Operand->Value}{w}{R:Value->World->Prop}(h:pS P o ε w R):∀c,o.op≠.defer c:=by
 intro c a;unfold pS execOp at h;rw[a]at h;simp only[Sem.run_bind]at h;generalize (resolve ε c o.type).run P w=r at h;cases r with
 |ok d w'=>exact h
 |halt x w'=>exact h
def P2{ro:Option Nat}{m o a w}{K:Act->World->Prop}{Q:Exit->Act->World->Prop}(h:pS P o a.eval w fun v w'=>K (a.put o.dst v) w'):o.wpIn (oC ro) m P a w K Q:=by
 refine⟨fun f _=>BB ro f,?_⟩;rw[Q5,Oper.semAt_eq _ _ _<|Px h];have c:(oC ro).depth.isSome=true->1<=m:=fun h=>by rw[Oo]at h;cases h
 unfold pS at h;generalize (execOp a.eval o).run P w=r at *;cases r with
 |ok n w' =>
  cases n<;>simp only at h<;>simp only[Oper.uponIn]
  case value=>exact h
  case skip=>exact h
  case enter=>exact⟨c,(Calls.oC h).mono fun e b ⟨v,d,g⟩=>Uc⟩
  case row=>exact⟨c,Rows.oC h⟩
  case round=>exact⟨c,(RoundIn.oC h).mono fun e b ⟨v,d,g⟩=>Uc⟩
 |halt x w'=>exact h.elim
def qy(P:Program)(o:Oper)(ε:Operand->Value)(w:World)(v:Value):Prop:=
 match(execOp ε o).run P w with
 |.ok (.value u) w'=>u=v/\w'=w
 |.ok .skip w'=>v=undef/\w'=w
 |_=>False
def WH{o}{ε:Operand->Value}{w v}{R:Value->World->Prop}(h:qy P o ε w v)(a:R v w):pS P o ε w R:=by
 unfold qy at h;unfold pS;generalize (execOp ε o).run P w=r at *;cases r with
 |ok n w' =>
  cases n<;>simp only at h|-
  case value u=>obtain⟨rfl,rfl⟩:=h;exact a
  case skip=>obtain⟨rfl,rfl⟩:=h;exact a
 |halt x w'=>exact h.elim
def xP(md:Region.Mode)(ax:Array Oper)(i:Nat):Array Bool:=
 (List.range ax.size).foldl (fun l j=>if j !=i&&!l.getD j true&&((ax[j]?).map (·.after.all fun e=>!Region.binds md e ||l.getD e.on false)).getD false then l.setIfInBounds j true else l) (Array.replicate ax.size false)
def wA(md:Region.Mode)(ax:Array Oper)(loud:Nat->Bool)(i:Nat):Bool:=(List.range ax.size).all fun j=>!loud j ||!(xP md ax i).getD j false
def ri(md:Region.Mode)(P:Program)(ax:Array Oper)(C:World->Prop)(loud free:Nat->Bool)(i:Nat)(K:Act->World->Prop)(a:Act)(w:World):Prop:=
 match ax[i]? with
 |none=>K a w
 |some o =>
  if Region.wanted o (yielded ax a.tmps)then
   (if loud i then pS P o a.eval w fun v w'=>(free i=true\/C w')/\K (a.put o.dst v) w'
   else ∃v,((wA md ax loud i=true/\qy P o a.eval w v)\/∀w',C w'->qy P o a.eval w' v)/\K (a.put o.dst v) w)
  else K (a.put o.dst undef) w
def UI{loud free:Nat->Bool}{i a w}{K d:Act->World->Prop}(h:∀a w,C w\/(loud i=true/\free i=true)->K a w->d a w)(l:loud i=false->C w)(k:C w\/(loud i=true/\free i=true))(hh:ri md P ax C loud free i K a w):ri md P ax C loud free i d a w:=by
 unfold ri at *;split;grind;rename_i o f;simp only[f]at hh;split;rename_i b;simp only[b,if_true]at hh;split;rename_i e;simp only[e,if_true]at hh;exact tR hh fun v w' ⟨c,g⟩=>⟨c,h _ _ (c.elim (fun j=>.inr ⟨e,j⟩) .inl) g⟩;grind;rename_i b;simp only[b]at hh;exact h _ _ k hh
def zt(P:Program)(md:Region.Mode)(ax:Array Oper)(C:World->Prop)(loud free:Nat->Bool)(Q:Act->World->Prop):Nat->Array Bool->Act->World->Prop
 |0,b,a,w=>Region.ready md ax b=[]/\Q a w
 |fuel+1,b,a,w =>
  (Region.ready md ax b=[]->Q a w) /\
  ∀i∈Region.ready md ax b,ri md P ax C loud free i (zt P md ax C loud free Q fuel<|b.setIfInBounds i true) a w
def yj(loud:Nat->Bool)(n:Nat)(a:Array Bool):Prop:=∀i,i<n->loud i=false->a.getD i true=true
def yj.set{loud:Nat->Bool}{n}{a:Array Bool}(h:yj loud n a)(k):yj loud n (a.setIfInBounds k true):=fun i hi d=>by
 by_cases c:k=i;subst c;rcases Nat.lt_or_ge k a.size with b|b;simp[b];simp[b];rw[getD_set_ne true c];exact h i hi d
structure wj(md:Region.Mode)(ax:Array Oper)(loud free:Nat->Bool)(a:Nat->Array Bool):Prop where
 size:∀i,loud i=false->(a i).size=ax.size
 jbY:∀i,loud i=false->∀j∈Region.ready md ax (a i),j=i
 od:∀i,i<ax.size->loud i=false->∀j,j<ax.size->free j=true->(a i).getD j false=false
def yo(n:Nat)(loud:Nat->Bool)(b:Nat->Array Bool)(a:Array Bool):Prop:=∀i,i<n->loud i=false->a.getD i true=false->∀k,a.getD k false=true->(b i).getD k false=true
def wj.HW{loud free:Nat->Bool}{b:Nat->Array Bool}{a:Array Bool}(k:wj md ax loud free b)(h:yo ax.size loud b a){i j}(hi:i<ax.size)(f:loud i=false)(n:a.getD i true=false)(p:j∈Region.ready md ax a)(d:j≠i):(b i).getD j false=true:=by
 have⟨_,o,g,c⟩:=mem_ready.1 p;have l:=k.size i f▸(Array.getElem?_eq_some_iff.1 g).1;cases r:(b i).getD j false with
 |true=>rfl
 |false=>exact absurd (k.jbY i f j<|mem_ready.2 ⟨Uc,o,g,fun e q m=>h i hi f n _<|c e q m⟩) d
def wj.step{loud free:Nat->Bool}{b:Nat->Array Bool}{a:Array Bool}(n:wj md ax loud free b)(h:yo ax.size loud b a){j}(o:j∈Region.ready md ax a):yo ax.size loud b (a.setIfInBounds j true):=by
 intro i hi m f k l;have c:j≠i:=fun e=>by
  subst e;rcases Nat.lt_or_ge j a.size with g|g;simp[g]at f;simp[g]at f
 rw[getD_set_ne true c]at f;by_cases d:j=k;subst d;exact n.HW h hi m f o c;rw[getD_set_ne false d]at l;exact h i hi m f k l
def wj.free{loud free:Nat->Bool}{b:Nat->Array Bool}{a:Array Bool}(d:wj md ax loud free b)(h:yo ax.size loud b a){j}(f:j∈Region.ready md ax a)(l:loud j=true)(n:free j=true):yj loud ax.size a:=by
 intro i hi g;cases m:a.getD i true with
 |true=>rfl
 |false =>
  have c:j≠i:=fun e=>Uc
  have h1:=d.HW h hi g m f c
  have⟨_,o,k,_⟩:=mem_ready.1 f
  rw[d.od i hi g j (Array.getElem?_eq_some_iff.1 k).1 n]at h1
  cases h1
def NB{ro:Option Nat}{m}{loud free:Nat->Bool}{e:Nat->Array Bool}{Q:Act->World->Prop}{Q':Exit->Act->World->Prop}(l:wj md ax loud free e)(p:∀a w,Q a w->Q' .normal a w):
  ∀(fuel:Nat) (b:Array Bool) (a:Act) (w:World),(C w\/yj loud ax.size b)->yo ax.size loud e b->zt P md ax C loud free Q fuel b a w->wpAnyIn (oC ro) m P md ax Q' fuel b a w
 |0,_,_,_,_,_,h=>⟨h.1,p _ _ h.2⟩
 | fuel + 1, b, a, w, g, r, h => ⟨fun y => p _ _<|h.1 y, fun i hi => by
   have hh:=h.2 i hi;have j:∀a w,(C w\/yj loud ax.size (b.setIfInBounds i true))->zt P md ax C loud free Q fuel (b.setIfInBounds i true) a w->wpAnyIn (oC ro) m P md ax Q' fuel (b.setIfInBounds i true) a w:=fun a w g h=>NB l p fuel _ a w g (l.step r hi) h;have c:=g.imp id fun h=>h.set i;unfold ri at hh;unfold wpOpIn;split;rename_i q;simp only[q]at hh;exact j _ _ c hh;rename_i o q;simp only[q]at hh;split;rename_i d;simp only[d,if_true]at hh;apply P2;split at hh;rename_i s;exact tR hh fun v w' ⟨t,u⟩=>j _ _ (t.elim (fun z=>.inr<|(l.free r hi s z).set i) .inl) u;rename_i s;have⟨v,h1,h2⟩:=hh;have k:C w:=by
    rcases g with h|h;exact h;have⟨x,A,n,_⟩:=mem_ready.1 hi;have:=h i (Array.getElem?_eq_some_iff.1 n).1 Uc;rw[x]at this;cases this
   exact WH (h1.elim (·.2) fun h=>h w k) (j _ _ c h2);rename_i d;simp only[d]at hh;exact⟨fun f _=>BB ro f,j _ _ c hh⟩⟩
def xJ(P:Program)(ax:Array Oper)(C:World->Prop)(e:Bool)(w:World)(o:Oper)(v:Value)(a:Act):Prop:=
 (Region.wanted o (yielded ax a.tmps)=true/\((e=true/\qy P o a.eval w v)\/∀w',C w'->qy P o a.eval w' v)) \/
 (Region.wanted o (yielded ax a.tmps)=false/\v=undef)
def xJ.Yd{e w o v a a'}(b:xJ P ax C e w o v a)(c:execOp a'.eval o=execOp a.eval o)(d:Region.wanted o (yielded ax a'.tmps)=Region.wanted o (yielded ax a.tmps)):xJ P ax C e w o v a':=by
 unfold xJ qy at *;rw[c,d];exact b
def xJ.at{e w w' o v a}(b:xJ P ax C e w o v a)(h:e=true->w'=w):xJ P ax C e w' o v a:=by
 rcases b with⟨h1,⟨h2,h3⟩|h2⟩|h1;exact .inl ⟨h1,.inl ⟨h2,Uc⟩⟩;exact .inl ⟨h1,.inr h2⟩;exact .inr h1
def xJ.op{loud free:Nat->Bool}{i o v a w}(hi:ax[i]?=some o)(d:loud i=false)(b:xJ P ax C (wA md ax loud i) w o v a){K:Act->World->Prop}(h:K (a.put o.dst v) w):ri md P ax C loud free i K a w:=by
 unfold ri;simp only[hi,d];rcases b with⟨c,e⟩|⟨c,rfl⟩;grind;grind
def jNW{loud free:Nat->Bool}{i o a w}{K:Act->World->Prop}(hi:ax[i]?=some o)(c:loud i=false)(h:ri md P ax C loud free i K a w):∃v,xJ P ax C (wA md ax loud i) w o v a/\K (a.put o.dst v) w:=by
 unfold ri at h;simp only[hi,c]at h;by_cases b:Region.wanted o (yielded ax a.tmps)=true;simp only[b,if_true]at h;have⟨v,h1,h2⟩:=h;exact⟨v,.inl ⟨b,h1⟩,h2⟩;simp only[b]at h;exact⟨undef,.inr ⟨Uc,rfl⟩,h⟩
def zKK{loud free:Nat->Bool}{j oi oj v}(z:ax[j]?=some oj)(l:oi.apart ax oj=true)(k:∀cs b,oi.op≠.select cs b)(i:∀cs b,oj.op≠.select cs b){K:Act->World->Prop}{a w}{e}(t:loud j=true->e=false)(s:xJ P ax C e w oi v a)(h:ri md P ax C loud free j K (a.put oi.dst v) w):
  ri md P ax C loud free j (fun q w'=>xJ P ax C e w' oi v q/\K (q.put oi.dst v) w') a w:=by
 have⟨h1,h2,h3⟩:=Oper.apart_spec l
 have ly:∀u,xJ P ax C e w oi v<|a.put oj.dst u:=fun u =>
  s.Yd (execOp_put oi k a oj.dst u h3)<|wanted_put oi a oj.dst u h3
 unfold ri at *
 simp only[z]at *
 rw[wanted_put oj a oi.dst v h1]at h
 split
 .rename_i o
  simp only[o,if_true]at h
  split
  .rename_i p
   simp only[p,if_true]at h
   unfold pS at *
   rw[execOp_put oj i a oi.dst v h1]at h
   generalize (execOp a.eval oj).run P w=r at *
   cases r with
   |ok n w' =>
    cases n<;>simp only at h|-
    case value u=>exact⟨h.1,(ly u).at Gd,by rw[<-Act.put_comm a v u h2];exact h.2⟩
    case skip=>exact⟨h.1,(ly _).at<|fun h=>Uc,by rw[<-Act.put_comm a v undef h2];exact h.2⟩
    case enter f args=>exact h.mono fun e g ⟨u,m,c,d⟩=>⟨u,m,c,(ly u).at<|fun h=>Uc,by rw[<-Act.put_comm a v u h2];exact d⟩
    case row f args=>exact h.mono fun u g ⟨c,d⟩=>⟨c,(ly u).at<|fun h=>Uc,by rw[<-Act.put_comm a v u h2];exact d⟩
    case round=>exact RoundIn.mono h fun e g ⟨u,m,c,d⟩=>⟨u,m,c,(ly u).at<|fun h=>Uc,by rw[<-Act.put_comm a v u h2];exact d⟩
   |halt x w'=>exact h.elim
  .rename_i p
   simp only[p]at h
   have⟨u,y,A⟩:=h
   refine⟨u,?_,ly u,by rw[<-Act.put_comm a v u h2];exact A⟩
   unfold qy at *
   rwa [execOp_put oj i a oi.dst v h1]at y
 .rename_i o
  simp only[o]at h
  exact⟨ly _,by rw[<-Act.put_comm a v undef h2];exact h⟩
def jKJ{i:Nat}{d:Oper}{a:Array Bool}(g:i∈Region.ready md ax a)(b:∀e∈d.after,Region.binds md e=true->a.getD e.on false=true):
  ∀e∈d.after,Region.binds md e=true->e.on≠i:=fun e j h c=>by
 have h1:=b e j h
 have k:=(mem_ready.1 g).1
 rw[c]at h1
 rcases Nat.lt_or_ge i a.size with f|f
 grind
 simp[Array.getElem?_eq_none f]at h1
def jPO{loud free:Nat->Bool}{p:Nat->Array Bool}{Q:Act->World->Prop}(I:wj md ax loud free p)(A:∀i,i<ax.size->p i=xP md ax i){i oi v}(hi:ax[i]?=some oi)(l:loud i=false)(z:∀(j:Nat) (o:Oper) cs b,ax[j]?=some o->o.op≠.select cs b):
  ∀(f:Nat) (c:Array Bool) (a:Act) (w:World),C w->yo ax.size loud p c ->
   (∀j B,ax[j]?=some B->j≠i->c.getD j true=false->(∀e∈B.after,Region.binds md e=true->e.on≠i)->oi.apart ax B=true) ->
   i∈Region.ready md ax c->xJ P ax C (wA md ax loud i) w oi v a ->
   zt P md ax C loud free Q f (c.setIfInBounds i true) (a.put oi.dst v) w->zt P md ax C loud free Q (f+1) c a w:=by
 intro f
 induction f with
 |zero =>
  intro c a w _ _ _ s D H
  refine⟨fun h=>Uc,fun j r=>?_⟩
  by_cases d:j=i
  subst d;exact D.op hi l H
  have:=ready_mono r d
  rw[H.1]at this
  cases this
 |succ f T =>
  intro c a w O E g s D H
  refine⟨fun h=>Uc,fun j r=>?_⟩
  by_cases d:j=i
  subst d;exact D.op hi l H
  have h1:=H.2 j<|ready_mono r d
  have⟨n,B,q,t⟩:=mem_ready.1 r
  have K:loud j=true->wA md ax loud i=false:=fun G=>by
   cases U:wA md ax loud i with
   |false=>rfl
   |true =>
    have u:=(Array.getElem?_eq_some_iff.1 hi).1
    have M:=(Array.getElem?_eq_some_iff.1 q).1
    have h1:=I.HW E u l (mem_ready.1 s).1 r d
    have h2:=List.all_eq_true.1 U j<|List.mem_range.2 M
    rw[G]at h2
    have h3:=A i u▸h1
    rw[h3]at h2;cases h2
  have h2:=zKK (e:=wA md ax loud i) q (g j B q d n<|jKJ s t) (fun cs b=>z i oi cs b hi) Gd K D h1
  have m : ∀ k ok, ax[k]? = some ok -> k ≠ i -> (c.setIfInBounds j true).getD k true = false ->
    (∀e∈ok.after,Region.binds md e=true->e.on≠i)->oi.apart ax ok=true:=fun k ok R L y J=>by
   refine g k ok R L ?_ J
   by_cases x:j=k
   subst x;exact n
   rw[getD_set_ne true x]at y;exact y
  have F:¬(loud j=true/\free j=true):=fun⟨h1,h2⟩=>by
   have:=I.free E r h1 h2 i (Array.getElem?_eq_some_iff.1 hi).1 l;rw[(mem_ready.1 s).1]at this;cases this
  refine UI (fun S w' N h3=>T (c.setIfInBounds j true) S w' (N.resolve_right F) (I.step E r) m (ready_mono s<|Ne.symm d) h3.1 ?_) (fun _=>O) (.inl O) h2
  rw[Array.setIfInBounds_comm _ _ d]
  exact h3.2
def EG(md:Region.Mode)(ax:Array Oper)(loud free:Nat->Bool):Bool:=
 (List.range ax.size).all fun i=>loud i ||(let f:=xP md ax i
  f.size==ax.size&&(Region.ready md ax f).all (·==i)&&(List.range ax.size).all fun j=>!free j ||!f.getD j false)
def Fq(md:Region.Mode)(ax:Array Oper)(i:Nat):Array Bool:=if i<ax.size then xP md ax i else Array.replicate ax.size true
def Nl{loud free:Nat->Bool}(h:EG md ax loud free=true):wj md ax loud free (Fq md ax):=by
 have e:∀i,i<ax.size->loud i=false->(xP md ax i).size=ax.size/\(∀j∈Region.ready md ax (xP md ax i),j=i)/\∀j,j<ax.size->free j=true->(xP md ax i).getD j false=false:=fun i hi b=>by
  have:=List.all_eq_true.1 h i<|List.mem_range.2 hi;simp only[b,Bool.false_or,Bool.and_eq_true,beq_iff_eq,List.all_eq_true,List.mem_range,Bool.or_eq_true,Bool.not_eq_true']at this;exact⟨this.1.1,this.1.2,fun j a c=>Uc⟩
 refine⟨fun i b=>?_,fun i b j a=>?_,fun i hi b j a c=>?_⟩;unfold Fq;split;grind;simp;unfold Fq at a;split at a;grind;have⟨f,o,d,_⟩:=mem_ready.1 a;have:=(Array.getElem?_eq_some_iff.1 d).1;simp[this]at f;unfold Fq;rw[if_pos hi];exact(e i hi b).2.2 j a c
def OE{n m}{loud:Nat->Bool}{a:Nat->Array Bool}:yo n loud a (Array.replicate m false):=fun i _ _ _ k c=>by
 exfalso;rcases Nat.lt_or_ge k m with b|b;simp[b]at c;simp[b]at c
def AD(P:Program)(md:Region.Mode)(ax:Array Oper)(C:World->Prop)(loud free:Nat->Bool)(Q:Act->World->Prop):Nat->Array Bool->Act->World->Prop
 |0,b,a,w=>Region.ready md ax b=[]/\Q a w
 |fuel+1,b,a,w =>
  (∃i,i∈Region.ready md ax b/\loud i=false/\Region.free md ax b i=true/\ri md P ax C loud free i (AD P md ax C loud free Q fuel<|b.setIfInBounds i true) a w) \/
  ((Region.ready md ax b=[]->Q a w)/\∀i∈Region.ready md ax b,ri md P ax C loud free i (AD P md ax C loud free Q fuel<|b.setIfInBounds i true) a w)
def IC{loud free:Nat->Bool}{f:Nat->Array Bool}{Q:Act->World->Prop}(j:wj md ax loud free f)(c:∀i,i<ax.size->f i=xP md ax i)(hs:Region.noSelect ax=true):∀(fuel:Nat) (b:Array Bool) (a:Act) (w:World),(C w\/yj loud ax.size b)->yo ax.size loud f b ->
  AD P md ax C loud free Q fuel b a w->zt P md ax C loud free Q fuel b a w
 |0,_,_,_,_,_,h=>h
 |fuel+1,b,a,w,s,m,h=>by
  rcases h with⟨i,p,k,r,h⟩|⟨y,h⟩;have⟨x,o,e,_⟩:=mem_ready.1 p;have l:C w:=by
   rcases s with h|h;exact h;have:=h i (Array.getElem?_eq_some_iff.1 e).1 k;rw[x]at this;cases this
  have⟨v,z,t⟩:=jNW e k h;exact jPO j c e k (Region.noSelect_spec hs) fuel b a w l m (Region.free_spec e r) p z<|IC j c hs fuel _ _ _ (.inl l) (j.step m p) t;refine⟨y,fun i hi=>?_⟩;have hh:=h i hi;have d:∀a w,(C w\/yj loud ax.size (b.setIfInBounds i true))->AD P md ax C loud free Q fuel (b.setIfInBounds i true) a w->zt P md ax C loud free Q fuel (b.setIfInBounds i true) a w:=fun a w n h=>IC j c hs fuel _ a w n (j.step m hi) h;have g:=s.imp id fun h=>h.set i;unfold ri at hh|-;split;rename_i e;simp only[e]at hh;exact d _ _ g hh;rename_i o e;simp only[e]at hh;split;rename_i q;simp only[q,if_true]at hh;split;rename_i k;simp only[k,if_true]at hh;exact tR hh fun v w' ⟨n,u⟩=>⟨n,d _ _ (n.elim (fun r=>.inr<|(j.free m hi k r).set i) .inl) u⟩;grind;grind
def UU{ro:Option Nat}{m id}{Q:Exit->Act->World->Prop}{a w}(C)(loud free:Nat->Bool)(e:P.follows .mixedOrders=true)(hs:Region.noSelect ax=true)(c:EG .any ax loud free=true)(d:C { w with drawn:=w.drawn+1 })(h:AD P .any ax C loud free (fun b w'=>Q .normal b w') ax.size (Array.replicate ax.size false) a { w with drawn:=w.drawn+1 }):(Code.region id ax true).wpIn (oC ro) m P Q a w:=
 wpIn_region_any e<|NB (Q':=Q) (Nl c) (fun _ _ h=>h) _ _ _ _ (.inl d) OE<|IC (md:=.any) (Q:=fun b w'=>Q .normal b w') (Nl c) (fun i hi=>if_pos hi) hs _ _ _ _ (.inl d) OE h
end
abbrev gb:=Nat->Value
def sM(ρ:gb)(d:Nat)(v:Value):gb:=fun i=>if i=d then v else ρ i
def put(ρ:gb)(d:Option Nat)(v:Value):gb:=match d with|some d=>sM ρ d v|none=>ρ
def gx(ρ:gb):Operand->Value
 |.tmp t=>ρ t
 |.const v=>v
 |.global g=>.pointer<|some ⟨g,0,none⟩
 |.func f=>.func (.func f) #[] #[]
def xA(l:List Value):gb:=fun i=>l.getD i undef
structure mc(ds:List Deferred)(n:Nat)(ρ:gb)(a:Act):Prop where
 defers:a.defers=ds
 size:a.tmps.size=n
 get:∀t,a.tmps.getD t undef=ρ t
def mc.eval{ds:List Deferred}{n ρ a}(h:mc ds n ρ a):a.eval=gx ρ:=by
 funext x;cases x with
 |tmp t=>exact h.get t
 |_=>rfl
def mc.put{ds:List Deferred}{n ρ a}(h:mc ds n ρ a){d:Option Nat}(b:∀k,d=some k->k<n)(v):mc ds n (SE.put ρ d v) (a.put d v):=by
 cases d with
 |none=>exact h
 |some k =>
  refine⟨h.defers,by simp[Act.put,h.size],fun t=>?_⟩
  have c:=b k rfl
  simp only[Act.put,SE.put,sM]
  by_cases ht:t=k
  subst ht;simp[h.size,c]
  rw[if_neg ht,<-h.get t];simp[Array.getElem?_setIfInBounds_ne<|Ne.symm ht]
def vK(ax:Array Oper)(ρ:gb)(j:Nat):Option Bool:=
 match(ax[j]?).bind (·.dst)with
 |some d=>match ρ d with|.bool b=>some b|_=>none
 |none=>none
def mc.yielded{ds:List Deferred}{n ρ a}(h:mc ds n ρ a)(ax):yielded ax a.tmps=vK ax ρ:=by
 funext j;unfold Go.yielded vK;cases(ax[j]?).bind (·.dst)with
 |none=>rfl
 |some d =>
  simp only[Option.bind_some]
  have:=h.get d
  rw[Array.getD_eq_getD_getElem?]at this
  cases b:a.tmps[d]? with
  |none=>rw[b]at this;simp only[Option.getD_none]at this;rw[<-this];rfl
  |some v=>rw[b]at this;simp only[Option.getD_some]at this;rw[<-this];cases v<;>rfl
def mark(D:Nat):Deferred:={ target:=.collected D,args:=#[] }
structure Cx where
 ro:Option Nat
 ds:List Deferred
def sS(x:Cx)(n:Nat)(Q:Exit->gb->World->Prop):Exit->Act->World->Prop:=fun e a w =>
 ∃ρ,(mc x.ds n ρ a/\Q e ρ w)\/(e=.ret/\x.ro=none/\x.ds=[]/\∃D,mc [mark D] n ρ a/\w.heap[D]?=some (.deferred<|some [])/\Q .ret ρ (w.putObj D<|.deferred none))
def de{x:Cx}(P:Program)(n:Nat)(c:Code)(Q:Exit->gb->World->Prop)(ρ:gb)(w:World):Prop:=∀a,mc x.ds n ρ a->c.wpIn (oC x.ro) 0 P (sS x n Q) a w
def tp(next:gb->World->Prop)(Q:Exit->gb->World->Prop):Exit->gb->World->Prop
 |.normal,ρ,w=>next ρ w
 |e,ρ,w=>Q e ρ w
def ya(id:Nat)(Q:Exit->gb->World->Prop):Exit->gb->World->Prop
 |.exit a,ρ,w=>if a=id then Q .normal ρ w else Q (.exit a) ρ w
 |e,ρ,w=>Q e ρ w
section
variable {x:Cx} {P:Program} {n:Nat} {Q:Exit->gb->World->Prop} {ρ:gb} {w:World}
def JK{Q'}(b:∀e ρ w,Q e ρ w->Q' e ρ w){e a}(h:sS x n Q e a w):sS x n Q' e a w:=by
 obtain⟨ρ,⟨h1,h2⟩|⟨h1,h2,h3,D,c,f,d⟩⟩:=h;exact⟨ρ,.inl ⟨h1,b _ _ _ h2⟩⟩;exact⟨ρ,.inr ⟨h1,h2,h3,D,c,f,b _ _ _ d⟩⟩
def HZ{a}(h:sS x n Q .normal a w):∃ρ,mc x.ds n ρ a/\Q .normal ρ w:=by
 obtain⟨ρ,h|⟨h,_⟩⟩:=h;exact⟨ρ,h⟩;cases h
def JG{c Q'}(d:∀e ρ w,Q e ρ w->Q' e ρ w)(h:de (x:=x) P n c Q ρ w):de (x:=x) P n c Q' ρ w:=
 fun a b=>wpIn_mono (h a b) fun _ _ _ h=>JK d h
def EH(h:Q .normal ρ w):de (x:=x) P n .skip Q ρ w:=fun _ a=>wpIn_skip ⟨ρ,.inl ⟨a,h⟩⟩
def MV(h:Q .ret ρ w):de (x:=x) P n .ret Q ρ w:=fun _ a=>wpIn_ret ⟨ρ,.inl ⟨a,h⟩⟩
def zFD{id}(h:Q (.exit id) ρ w):de (x:=x) P n (.exit id) Q ρ w:=fun _ a=>wpIn_exit ⟨ρ,.inl ⟨a,h⟩⟩
def Wu{l}(h:Q .normal ρ w):de (x:=x) P n (.label l) Q ρ w:=fun _ a=>wpIn_label ⟨ρ,.inl ⟨a,h⟩⟩
def vh{c y}(h:de (x:=x) P n c (tp (fun ρ w=>de (x:=x) P n y Q ρ w) Q) ρ w):de (x:=x) P n (.seq c y) Q ρ w:=fun a g =>
 wpIn_seq (wpIn_mono (h a g) (fun e a w b=>by
  cases e with
  |normal=>have⟨i,d,f⟩:=HZ b;exact f a d
  |_=>exact b))
def CV{c y z t}(d:gx ρ c=.bool t)(ht:t=true->de (x:=x) P n y Q ρ w)(e:t=false->de (x:=x) P n z Q ρ w):de (x:=x) P n (.cond c y z) Q ρ w:=
 fun a b=>wpIn_cond_split (by rw[b.eval];exact d) (fun h=>ht h a b) fun h=>e h a b
def UR{c y z}(d:gx ρ c=.bool true)(h:de (x:=x) P n y Q ρ w):de (x:=x) P n (.cond c y z) Q ρ w:=
 fun a b=>wpIn_cond_true (by rw[b.eval];exact d) (h a b)
def zAQ{c y z}(d:gx ρ c=.bool false)(h:de (x:=x) P n z Q ρ w):de (x:=x) P n (.cond c y z) Q ρ w:=
 fun a b=>wpIn_cond_false (by rw[b.eval];exact d) (h a b)
def zAR{id c}(h:de (x:=x) P n c (ya id Q) ρ w):de (x:=x) P n (.block id c) Q ρ w:=fun a j =>
 wpIn_block (wpIn_mono (h a j) (fun e a w g=>by
  cases e with
  |exit i =>
   obtain⟨f,⟨d,b⟩|⟨h,_⟩⟩:=g
   simp only[ya]at b
   simp only[Exit.inBlock]
   split
   rename_i h;rw[if_pos h]at b;exact⟨f,.inl ⟨d,b⟩⟩
   rename_i h;rw[if_neg h]at b;exact⟨f,.inl ⟨d,b⟩⟩
   cases h
  |_=>exact g))
def Zy{c}(hx:x.ro=none)(d:∀l ρ w,¬Q (.goto l) ρ w)(h:de (x:=x) P n c Q ρ w):de (x:=x) P n (.scope c) Q ρ w:=fun a g=>by
 have h:=h a g;rw[hx]at h|-;refine wpIn_wide.2<|wp_scope_straight<|Code.wp_mono (fun e a w b=>?_)<|wpIn_wide.1 h;cases e with
 |goto l =>
  obtain⟨i,⟨_,f⟩|⟨h,_⟩⟩:=b
  exact(d l i w f).elim
  cases h
 |_=>exact b
def Zd{c}{σ:Type}(I:σ->gb->World->Prop)(μ:σ->Nat)(s0:σ)(z:I s0 ρ w)(g:∀s ρ w,I s ρ w->de (x:=x) P n c (tp (fun G w'=>∃s',I s' G w'/\μ s'<μ s) Q) ρ w):de (x:=x) P n (.loop c) Q ρ w:=by
 intro a H b k cs r v f;have key:∀m s ρ a w,μ s=m->mc x.ds n ρ a->I s ρ w->∃e o w',sS x n Q e o w'/\ArrivesIn (Machine.fenced P<|oC x.ro) P (lone (b.atR a (.code c ::.inLoop c ::k)) cs w) b k cs e o w':=by
  intro m;induction m using Nat.strongRecOn with
  |_ m C =>
   intro s ρ a w F y E
   have⟨e,a1,i,j,d⟩:=g s ρ w E a y b (.inLoop c ::k) cs r v f
   cases e with
   |normal =>
    have⟨D,p,s',q,u⟩:=HZ j
    have⟨B,a2,A,t,h⟩:=C (μ s') (F▸u) s' D a1 i rfl p q
    exact⟨B,a2,A,t,.of_steps (StepsIn.trans d<|.one (fenced_calm v f rfl) stepR_inLoop) h⟩
   |exit id=>exact⟨_,a1,i,j,.pass (x:=.inLoop c) rfl (fun _ _=>.inl Sm) d⟩
   |goto l=>exact⟨_,a1,i,j,.pass (x:=.inLoop c) rfl (fun _ _=>.inl Sm) d⟩
   |ret=>exact⟨_,a1,i,j,.pass (x:=.inLoop c) rfl (fun _ _=>.inl Sm) d⟩
   |panic K=>exact⟨_,a1,i,j,.pass (x:=.inLoop c) rfl (fun _ _=>.inl Sm) d⟩
   |outgrown=>exact⟨_,a1,i,j,.pass (x:=.inLoop c) rfl (fun _ _=>.inl Sm) d⟩
 have⟨e,o,w',J,d⟩:=key _ s0 ρ a w rfl H z;exact⟨e,o,w',J,.of_steps (.one (fenced_calm v f rfl) stepR_loop) d⟩
def cr(P:Program)(ax:Array Oper)(Q:gb->World->Prop):List Oper->gb->World->Prop
 |[],ρ,w=>Q ρ w
 |o :: rest,ρ,w =>
  if Region.wanted o (vK ax ρ)then pS P o (gx ρ) w fun v w'=>cr P ax Q rest (put ρ o.dst v) w'
  else cr P ax Q rest (put ρ o.dst undef) w
def sU(n:Nat)(l:List Oper):Bool:=l.all fun o=>match o.dst with|some d=>d<n|none=>true
def RD{o l}(h:sU n (o ::l)=true):(∀k,o.dst=some k->k<n)/\sU n l=true:=by
 simp only[sU,List.all_cons,Bool.and_eq_true]at h;refine⟨fun k a=>?_,h.2⟩;have:=h.1;rw[a]at this;simpa using this
def IJ{ax Q'}(d:∀ρ a w,mc x.ds n ρ a->Q' ρ w->sS x n Q .normal a w):∀(l:List Oper) (ρ:gb) (a:Act) (w:World),sU n l=true->mc x.ds n ρ a->cr P ax Q' l ρ w->wpListIn (oC x.ro) 0 P ax (sS x n Q) l a w
 |[],ρ,a,w,_,b,h=>d _ _ _ b h
 |o :: l,ρ,a,w,i,b,h=>by
  have⟨g,c⟩:=RD i;unfold cr at h;unfold wpListIn;rw[b.yielded];split;rename_i e;rw[if_pos e]at h;apply P2;rw[b.eval];exact tR h fun v w' hh=>IJ d l _ _ _ c (b.put g v) hh;rename_i e;rw[if_neg e]at h;exact⟨fun f _=>BB x.ro f,IJ d l _ _ _ c (b.put g undef) h⟩
def Qq{id l}(c:sU n l=true)(h:cr P l.toArray (fun ρ w=>Q .normal ρ w) l ρ w):de (x:=x) P n (.region id l.toArray false) Q ρ w:=fun a e =>
 wpIn_region_lit<|IJ (fun f _ _ b d=>⟨f,.inl ⟨b,d⟩⟩) l ρ a w c e h
def dv(P:Program)(ax:Array Oper)(C:World->Prop)(loud free:Nat->Bool)(i:Nat)(K:gb->World->Prop)(ρ:gb)(w:World):Prop:=
 match ax[i]? with
 |none=>K ρ w
 |some o =>
  if Region.wanted o (vK ax ρ)then
   (if loud i then pS P o (gx ρ) w fun v w'=>(free i=true\/C w')/\K (put ρ o.dst v) w'
   else ∃v,((wA .any ax loud i=true/\qy P o (gx ρ) w v)\/∀w',C w'->qy P o (gx ρ) w' v)/\K (put ρ o.dst v) w)
  else K (put ρ o.dst undef) w
def ed(P:Program)(ax:Array Oper)(C:World->Prop)(loud free:Nat->Bool)(Q:gb->World->Prop):Nat->Array Bool->gb->World->Prop
 |0,a,ρ,w=>Region.ready .any ax a=[]/\Q ρ w
 |fuel+1,a,ρ,w =>
  (∃i,i∈Region.ready .any ax a/\loud i=false/\Region.free .any ax a i=true/\dv P ax C loud free i (ed P ax C loud free Q fuel<|a.setIfInBounds i true) ρ w) \/
  ((Region.ready .any ax a=[]->Q ρ w)/\∀i∈Region.ready .any ax a,dv P ax C loud free i (ed P ax C loud free Q fuel<|a.setIfInBounds i true) ρ w)
def My{ds:List Deferred}{ax:Array Oper}{C:World->Prop}{loud free:Nat->Bool}{i:Nat}{K:gb->World->Prop}{j:Act->World->Prop}(c:∀ρ a w,mc ds n ρ a->K ρ w->j a w)(m:∀o,ax[i]?=some o->∀k,o.dst=some k->k<n){a:Act}(b:mc ds n ρ a)(h:dv P ax C loud free i K ρ w):ri .any P ax C loud free i j a w:=by
 unfold dv at h;unfold ri;cases d:ax[i]? with
 |none=>rw[d]at h;exact c _ _ _ b h
 |some o =>
  rw[d]at h
  have e:=m o d
  simp only at h|-
  rw[b.yielded]
  split
  rename_i f
  rw[if_pos f]at h
  rw[b.eval]
  split
  rename_i g
  rw[if_pos g]at h
  exact tR h fun v w' ⟨l,hh⟩=>⟨l,c _ _ _ (b.put e v) hh⟩
  rename_i g
  rw[if_neg g]at h
  have⟨v,h1,h2⟩:=h
  exact⟨v,h1,c _ _ _ (b.put e v) h2⟩
  rename_i f
  rw[if_neg f]at h
  exact c _ _ _ (b.put e undef) h
def HN{ds:List Deferred}{ax C}{loud free:Nat->Bool}{Q'}{d:Act->World->Prop}(f:∀ρ a w,mc ds n ρ a->Q' ρ w->d a w)(g:∀(i:Nat) (o:Oper),ax[i]?=some o->∀k,o.dst=some k->k<n):∀(fuel:Nat) (b:Array Bool) (ρ:gb) (a:Act) (w:World),mc ds n ρ a->ed P ax C loud free Q' fuel b ρ w->AD P .any ax C loud free d fuel b a w
 |0,_,_,_,_,c,h=>⟨h.1,f _ _ _ c h.2⟩
 |fuel+1,b,ρ,a,w,c,h=>by
  rcases h with⟨i,h1,h2,h3,j⟩|⟨l,h⟩;exact .inl ⟨i,h1,h2,h3,My (fun ρ a w c h=>HN f g fuel _ ρ a w c h) (g i) c j⟩;exact .inr ⟨fun e=>f _ _ _ c<|l e,fun i hi=>My (fun ρ a w c h=>HN f g fuel _ ρ a w c h) (g i) c<|h i hi⟩
def yH(l:List Nat)(k:Nat):Bool:=l.contains k
def jZM{l}(h:sU n l=true)(i:Nat)(o)(c:l.toArray[i]?=some o)(k:Nat)(b:o.dst=some k):k<n:=by
 have a:o∈l:=Gd;have:=(List.all_eq_true.1 h) o a;rw[b]at this;simpa using this
def Za{id l}(C loud free)(g:P.follows .mixedOrders=true)(d:sU n l=true)(hB:Region.noSelect l.toArray=true)(e:EG .any l.toArray (yH loud) (yH free)=true)(b:C { w with drawn:=w.drawn+1 })(h:ed P l.toArray C (yH loud) (yH free) (fun ρ w=>Q .normal ρ w) l.toArray.size (Array.replicate l.toArray.size false) ρ { w with drawn:=w.drawn+1 }):de (x:=x) P n (.region id l.toArray true) Q ρ w:=fun a i =>
 UU C (yH loud) (yH free) g hB e b<|HN (fun j _ _ c f=>⟨j,.inl ⟨c,f⟩⟩) (jZM d) _ _ ρ a _ i h
def Gq(P:Program)(fn:Func)(n:Nat)(R:Ending->World->Prop):Exit->gb->World->Prop
 |.normal,ρ,w|.ret,ρ,w=>∃v,(∀ds a,mc ds n ρ a->(results fn a.tmps).run P w=.ok v w)/\R (.returned v) w
 |_,_,_=>False
def Ga{n}(args)(a:args.length<=n):mc [] n (xA args) { tmps:=args.toArray++Array.replicate (n-args.toArray.size) undef,defers:=[] }:=by
 refine⟨rfl,So,fun t=>?_⟩;simp only[xA,Array.getD_eq_getD_getElem?,List.getD_eq_getElem?_getD];by_cases h:t<args.length;rw[Array.getElem?_append_left Uc];simp;rw[Array.getElem?_append_right Uc];simp only[Array.getElem?_replicate];have:args[t]?=none:=Uc;rw[this];split<;>simp
def tZ{fn tmps R v}(a:(results fn tmps).run P w=.ok v w)(b:R (.returned v) w):LeavesInM Fence.wide 0 P fn tmps R [] .returning w:=by
 exact⟨_,a,b⟩
def W4{f fn c args R}(o:P.funcs[f]?=some fn)(l:fn.body=some c)(k:fn.ntmps=n)(p:args.length<=n)(h:de (x:=⟨none,[]⟩) P n c (Gq P fn n R) (xA args) w):Calls P f args.toArray w R:=by
 subst k;refine callsIn_wide.1<|callsIn_of_wp_marks (n:=0) o l trivial ?_;refine wpIn_mono (h _<|Ga args p) ?_;rintro e a w' ⟨q,⟨d,b⟩|⟨rfl,_,_,D,d,m,b⟩⟩;have j:=d.defers;cases e with
 |normal=>have⟨v,i,g⟩:=b;simp only[bodyPostM,j];exact tZ (i _ a d) g
 |ret=>have⟨v,i,g⟩:=b;simp only[bodyPostM,j];exact tZ (i _ a d) g
 |exit _=>exact b.elim
 |goto _=>exact b.elim
 |panic _=>exact b.elim
 |outgrown=>exact b.elim
 have⟨v,i,g⟩:=b;have j:=d.defers;simp only[bodyPostM,j];exact⟨Sm,.inl ⟨D,_,rfl,run_takeDeferred m,tZ (i _ a d) g⟩⟩
def jdo{fn R e}(b:e=.ret\/e=.normal)(c:fn.results=#[])(h:R (.returned<|.tuple #[]) w):Gq P fn n R e ρ w:=by
 rcases b with rfl|rfl<;>exact⟨_,fun _ a _=>by rw[results_none c],h⟩
end
end Go.SE
end
section
namespace Go.SE
structure Sl where
 a:Option Addr
 ay:Nat
 cap:Nat
def Sl.v(s:Sl):Value:=.slice s.a s.ay s.cap
def Sl.nil:Sl:=⟨none,0,0⟩
def Br(c:Bool)(A B:Prop):Prop:=(c=true->A)/\(c=false->B)
def Row(w:World)(a:Addr)(vs:List Value):Prop:=∀i,i<vs.length->w.cell? (a.add i)=vs[i]?
def zJ(w:World)(a:Addr):Prop:=(∃u,w.cell? a=some u)/\w.frozen? a=false
def rE(w:World)(a:Addr):Nat->List Value->World
 |_,[]=>w
 |i,v :: vs=>rE (w.setCell (a.add i) v) a (i+1) vs
def ib(w:World)(a:Addr)(vs:List Value):World:=rE w a 0 vs
def vC:Value->Bool
 |.agg _|.tuple _=>false
 |_=>true
section layers
variable {next:gb->World->Prop} {Q:Exit->gb->World->Prop} {ρ:gb} {w:World} {id id':Nat}
def xg(h:next ρ w):tp next Q .normal ρ w:=h
def jaB(h:Q .ret ρ w):tp next Q .ret ρ w:=h
def jcR(h:Q .normal ρ w):ya id Q (.exit id) ρ w:=by simpa[ya]using h
def UJ(a:(id'==id)=false)(h:Q (.exit id') ρ w):ya id Q (.exit id') ρ w:=by
 have:¬id'=id:=Uc;simpa[ya,this]using h
end layers
section
variable {P:Program} {ax:Array Oper} {Q:gb->World->Prop} {ρ:gb} {w w':World} {rest:List Oper} {o:Oper} {v:Value}
def tN(h:Q ρ w):cr P ax Q [] ρ w:=h
def wE{y:Nat->Option Bool}(a:o.guard=none):Region.wanted o y=true:=by simp[Region.wanted,a]
def st(b:Region.wanted o (vK ax ρ)=true)(a:(execOp (gx ρ) o).run P w=.ok (.value v) w')(h:cr P ax Q rest (put ρ o.dst v) w'):cr P ax Q (o ::rest) ρ w:=by
 unfold cr;rw[if_pos b];unfold pS;rw[a];exact h
def kg(b:Region.wanted o (vK ax ρ)=true)(a:(execOp (gx ρ) o).run P w=.ok (.value v) w)(h:cr P ax Q rest (put ρ o.dst v) w):cr P ax Q (o ::rest) ρ w:=st b a h
def MH(b:Region.wanted o (vK ax ρ)=true)(a:(execOp (gx ρ) o).run P w=.ok .skip w')(h:cr P ax Q rest (put ρ o.dst undef) w'):cr P ax Q (o ::rest) ρ w:=by
 unfold cr;rw[if_pos b];unfold pS;rw[a];exact h
def UB(a:Region.wanted o (vK ax ρ)=false)(h:cr P ax Q rest (put ρ o.dst undef) w):cr P ax Q (o ::rest) ρ w:=by
 unfold cr;rw[if_neg Uc];exact h
def zJZ{f args}(c:Region.wanted o (vK ax ρ)=true)(b:(execOp (gx ρ) o).run P w=.ok (.enter f args) w')(h:Calls P f args w' fun e a=>∃v,e=.returned v/\cr P ax Q rest (put ρ o.dst v) a):cr P ax Q (o ::rest) ρ w:=by
 unfold cr;rw[if_pos c];unfold pS;rw[b];exact h
variable {C:World->Prop} {loud free:Nat->Bool} {k fuel:Nat} {listed:Array Bool}
def zJR(a:Region.ready .any ax listed=[])(h:Q ρ w):ed P ax C loud free Q 0 listed ρ w:=⟨a,h⟩
def Gy(ax:Array Oper)(listed:Array Bool)(loud:Nat->Bool)(k:Nat):Bool:=(Region.ready .any ax listed).contains k&&!loud k&&Region.free .any ax listed k
def Zx(a:Gy ax listed loud k=true)(h:dv P ax C loud free k (ed P ax C loud free Q fuel<|listed.setIfInBounds k true) ρ w):ed P ax C loud free Q (fuel+1) listed ρ w:=by
 simp only[Gy,Bool.and_eq_true,Bool.not_eq_true']at a;exact .inl ⟨k,Uc,a.1.2,a.2,h⟩
def lgo(a:Region.ready .any ax listed=[k])(h:dv P ax C loud free k (ed P ax C loud free Q fuel<|listed.setIfInBounds k true) ρ w):ed P ax C loud free Q (fuel+1) listed ρ w:=
 .inr ⟨Gd,fun i hi=>Uc⟩
variable {K:gb->World->Prop}
def sx(a:ax[k]?=some o)(d:Region.wanted o (vK ax ρ)=true)(e:loud k=false)(c:∀w',C w'->(execOp (gx ρ) o).run P w'=.ok (.value v) w')(h:K (put ρ o.dst v) w):dv P ax C loud free k K ρ w:=by
 unfold dv;rw[a];simp only;rw[if_pos d,if_neg Uc];exact⟨v,.inr fun w' b=>by unfold qy;rw[c w' b];exact⟨rfl,rfl⟩,h⟩
def sxe(a:ax[k]?=some o)(c:Region.wanted o (vK ax ρ)=true)(e:loud k=false)(d:wA .any ax loud k=true)(b:(execOp (gx ρ) o).run P w=.ok (.value v) w)(h:K (put ρ o.dst v) w):dv P ax C loud free k K ρ w:=by
 unfold dv;rw[a];simp only;rw[if_pos c,if_neg Uc];exact⟨v,.inl ⟨d,by unfold qy;rw[b];exact⟨rfl,rfl⟩⟩,h⟩
def TH(a:ax[k]?=some o)(b:Region.wanted o (vK ax ρ)=false)(h:K (put ρ o.dst undef) w):dv P ax C loud free k K ρ w:=by
 unfold dv;rw[a];simp only;rw[if_neg Uc];exact h
def sl(a:ax[k]?=some o)(d:Region.wanted o (vK ax ρ)=true)(e:loud k=true)(c:(execOp (gx ρ) o).run P w=.ok (.value v) w')(b:free k=true\/C w')(h:K (put ρ o.dst v) w'):dv P ax C loud free k K ρ w:=by
 unfold dv;rw[a];simp only;rw[if_pos d,if_pos e];unfold pS;rw[c];exact⟨b,h⟩
def YQ(a:ax[k]?=some o)(d:Region.wanted o (vK ax ρ)=true)(e:loud k=true)(c:(execOp (gx ρ) o).run P w=.ok .skip w')(b:free k=true\/C w')(h:K (put ρ o.dst undef) w'):dv P ax C loud free k K ρ w:=by
 unfold dv;rw[a];simp only;rw[if_pos d,if_pos e];unfold pS;rw[c];exact⟨b,h⟩
def zKC{f args}(b:ax[k]?=some o)(d:Region.wanted o (vK ax ρ)=true)(g:loud k=true)(c:(execOp (gx ρ) o).run P w=.ok (.enter f args) w')(h:Calls P f args w' fun e a=>∃v,e=.returned v/\(free k=true\/C a)/\K (put ρ o.dst v) a):dv P ax C loud free k K ρ w:=by
 unfold dv;rw[b];simp only;rw[if_pos d,if_pos g];unfold pS;rw[c];exact h
end
section
variable {P:Program} {ε:Operand->Value} {w w':World} {d:Option Tmp} {ty:TypeId} {pos:String} {aft:Array Edge} {g:Option (Nat×Bool)}
def jcN{o}{s:Sem Value}{v}(a:execOp ε o=(do pure (.value (<-s))))(hs:s.run P w=.ok v w'):(execOp ε o).run P w=.ok (.value v) w':=by
 rw[a];simp[hs]
def rT{T x a v}(hx:ε x=.pointer (some a))(c:(isAgg T).run P w=.ok false w)(b:w.cell? a=some v):
  (execOp ε ⟨d,.load T x,ty,pos,aft,g⟩).run P w=.ok (.value v) w:=by
 simp[execOp,Instr.loadAt,Instr.sureAddr,hx,loadVar,c,b]
def LY(a:Addr)(vs:List Value):∀(n i:Nat) (b:Array Value),i+n=vs.length->(∀j,i<=j->j<vs.length->w.cell? (a.add j)=vs[j]?)->(loadCellsFrom a i n b).run P w=.ok (b++(vs.drop i).toArray) w:=by
 intro n;induction n with
 | zero => intro i b hi _; have : vs.drop i = []:=by simp; omega
           simp[loadCellsFrom,this]
 |succ n e =>
  intro i b hi h
  have c:i<vs.length:=Om
  have d:=h i (Nat.le_refl _) c
  rw[List.getElem?_eq_getElem c]at d
  have:=e (i+1) (b.push vs[i]) Om Gd
  simp only[loadCellsFrom,Sem.run_bind,run_load,d,Result.andThen_ok,this]
  rw[List.drop_eq_getElem_cons c]
  congr 1
  apply Array.ext'
  simp
def RQ{T x a}{n:Nat}{vs}(hx:ε x=.pointer (some a))(e:(isAgg T).run P w=.ok true w)(hs:(sizeOf T).run P w=.ok n w)(f:vs.length=n)(c:Row w a vs):
  (execOp ε ⟨d,.load T x,ty,pos,aft,g⟩).run P w=.ok (.value<|.agg vs.toArray) w:=by
 have:=LY (P:=P) (w:=w) a vs n 0 #[] Om fun j _ b=>c j b
 simp[execOp,Instr.loadAt,Instr.sureAddr,hx,loadVar,e,hs,loadCells,this]
def Pa{a v}(h1:vC v=true)(c:zJ w a):(store a v).run P w=.ok () (w.setCell a v):=by
 have⟨⟨u,b⟩,d⟩:=c;cases v<;>simp[vC]at h1<;>simp[store,Sem.run,b,d]
def Co{T x y a v}(hx:ε x=.pointer (some a))(c:ε y=v)(h1:vC v=true)(hs:(sizeOf T).run P w=.ok 1 w)(f:zJ w a):
  (execOp ε ⟨d,.store T x y,ty,pos,aft,g⟩).run P w=.ok .skip (w.setCell a v):=by
 have b:v.cells=#[v]:=by cases v<;>simp[vC]at h1<;>rfl
 have e:a.add 0=a:=by simp[Addr.add]
 simp[execOp,Instr.storeAt,Instr.sureAddr,hx,c,storeVar,hs,b,storeCells,e,Pa h1 f]
def cell?SR{w:World}{p q:Addr}{x v:Value}(h:w.cell? q=some v):∃v',(w.setCell p x).cell? q=some v':=by
 unfold World.cell? at h|-;unfold World.setCell;simp only[Array.getElem?_modify];by_cases d:p.block=q.block;rw[if_pos d];split at h;rename_i c e f b;rw[b];by_cases hs:q.spot.isSome;simp[hs]at h;simp only[hs,Bool.false_eq_true,if_false]at h;simp only[Option.map_some,hs,Bool.false_eq_true,if_false];by_cases a:p.spot.isSome;grind;simp only[a,Bool.false_eq_true,if_false,Array.getElem?_setIfInBounds];have g:=(Array.getElem?_eq_some_iff.1 h).1;split;grind;exact⟨v,h⟩;cases h;grind
def zJ.setCell{w a b u}(h:zJ w a):zJ (w.setCell b u) a:=
 ⟨let ⟨_,hx⟩:=h.1;cell?SR hx,by rw[World.frozen?_setCell];exact h.2⟩
def LU(a):∀(vs:List Value) (i:Nat) (w:World),(∀v∈vs,vC v=true)->(∀j,j<vs.length->zJ w (a.add<|i+j))->(storeCells a vs i).run P w=.ok () (rE w a i vs):=by
 intro vs;induction vs with
 |nil=>intro i w _ _;rfl
 |cons v vs e =>
  intro i w h1 c
  have f:zJ w (a.add i):=by simpa using c 0 Sm
  have d:=Pa (P:=P) (h1 v Sm) f
  have:=e (i+1) (w.setCell (a.add i) v) Gd (fun j g=>by
   have:=(c (j+1) Uc).setCell (b:=a.add i) (u:=v);rwa [show i+(j+1)=i+1+j by omega]at this)
  simp[storeCells,d,this,rE]
def zEX{T x y a n vs}(hx:ε x=.pointer (some a))(b:ε y=.agg vs.toArray)(h1:vs.all vC=true)(hs:(sizeOf T).run P w=.ok n w)(c:vs.length=n)(e:∀j,j<vs.length->zJ w (a.add j)):
  (execOp ε ⟨d,.store T x y,ty,pos,aft,g⟩).run P w=.ok .skip (ib w a vs):=by
 have:=LU (P:=P) a vs 0 w Uc Uc
 simp[execOp,Instr.storeAt,Instr.sureAddr,hx,b,storeVar,hs,Value.cells,c,this,ib]
def Vk{T z cs}(a:(zeroValue T).run P w=.ok z w)(b:z.cells=cs):
  (execOp ε ⟨d,.alloc T,ty,pos,aft,g⟩).run P w=.ok (.value<|.pointer<|some ⟨w.heap.size,0,none⟩) (w.alloc<|.cells cs T):=by
 subst b
 simp[execOp,Instr.alloc,a,newVar,newRow]
def Lr{T x cs}(a:(ε x).cells=cs):
  (execOp ε ⟨d,.box T x,ty,pos,aft,g⟩).run P w=.ok (.value<|.pointer<|some ⟨w.heap.size,0,none⟩) (w.alloc<|.cells cs T):=by
 subst a
 simp[execOp,Instr.box,newVar,newRow]
def zJL{c x y b v}(a:ε c=.bool b)(e:b=true)(hx:ε x=v):(execOp ε ⟨d,.pick c x y,ty,pos,aft,g⟩).run P w=.ok (.value v) w:=by
 simp[execOp,a,e,hx,asBool]
def VN{c x y b v}(e:ε c=.bool b)(f:b=false)(a:ε y=v):(execOp ε ⟨d,.pick c x y,ty,pos,aft,g⟩).run P w=.ok (.value v) w:=by
 simp[execOp,e,f,a,asBool]
def jYA{x p a}(hx:ε x=.pointer p)(b:p=some a):(execOp ε ⟨d,.nilCheck x,ty,pos,aft,g⟩).run P w=.ok (.value<|.pointer<|some a) w:=by
 simp[execOp,hx,b]
structure At(s:Sl)(i:Int)(size:Nat)(a:Addr):Prop where
 lo:0<=i
 hi:i<s.ay
 at_:∃b,s.a=some b/\a=b.add (i.toNat*size)
def jTN{T E x ix s k i n a}(hx:ε x=s.v)(hi:ε ix=.int k i)(h:(underlying T).run P w=.ok (.slice E) w)(hs:(sizeOf E).run P w=.ok n w)(e:At s i n a):
  (execOp ε ⟨d,.indexAddr T x ix,ty,pos,aft,g⟩).run P w=.ok (.value<|.pointer<|some a) w:=by
 obtain⟨c,h1,b,f,rfl⟩:=e
 simp[execOp,Instr.indexAt,hx,hi,Sl.v,asIntOf,h,f,c,h1,hs]
def toList_inj{x y:ByteArray}(h:x.toList=y.toList):x=y:=by
 have e:∀z:ByteArray,z.toList=z.data.toList:=fun z=>ByteArray.toList_eq z;rw[e,e]at h;cases x;cases y;simpa using h
def xd(x y:ByteArray):(x.toList==y.toList)=decide (x=y):=by
 by_cases h:x=y;simp[h];have:¬x.toList=y.toList:=fun e=>h<|toList_inj e;simp[h,this]
def zJK{T e:TypeId}{a b:Operand}{x y:ByteArray}(hx:ε a=.string x)(c:ε b=.string y):(execOp ε ⟨d,.binOp .eql T a b e,ty,pos,aft,g⟩).run P w=.ok (.value<|.bool<|decide (x=y)) w:=by
 simp[execOp,hx,c,eqGuard,xd,go_sem]
def Uz{T e:TypeId}{a b:Operand}{x y:ByteArray}(hx:ε a=.string x)(c:ε b=.string y):(execOp ε ⟨d,.binOp .neq T a b e,ty,pos,aft,g⟩).run P w=.ok (.value<|.bool<|!decide (x=y)) w:=by
 simp[execOp,hx,c,eqGuard,xd,go_sem]
def KB{T T' E a b x}(hx:ε a=.pointer x)(c:ε b=.pointer none)(e:P.underlying T=some (.pointer E)):(execOp ε ⟨d,.binOp .eql T a b T',ty,pos,aft,g⟩).run P w=.ok (.value<|.bool x.isNone) w:=by
 have f:P.pointee T=E:=by simp[Program.pointee,e]
 have:=run_eql_pointer_nil (P:=P) w T x Uc;simp[execOp,hx,c,eqGuard,this]
def UM{T T' E a b x}(hx:ε a=.pointer x)(c:ε b=.pointer none)(e:P.underlying T=some (.pointer E)):(execOp ε ⟨d,.binOp .neq T a b T',ty,pos,aft,g⟩).run P w=.ok (.value<|.bool<|!x.isNone) w:=by
 have f:P.pointee T=E:=by simp[Program.pointee,e]
 have:=run_neq_pointer_nil (P:=P) w T x Uc;simp[execOp,hx,c,eqGuard,this]
def Yz{op:BinOp}{T T' a b xs ys r}(hx:ε a=.agg xs)(c:ε b=.agg ys)(f:P.eqGuardType P.depth T=false)(e:(Go.binOp op T (.agg xs)<|.agg ys).run P w=.ok (.bool r) w):
  (execOp ε ⟨d,.binOp op T a b T',ty,pos,aft,g⟩).run P w=.ok (.value<|.bool r) w:=by
 have:=run_eqGuard_agg (P:=P) w op T a b xs ys f
 simp[execOp,hx,c,this,e]
def TC{op:BinOp}{T T' a b x y v}(hx:ε a=x)(c:ε b=y)(e:(eqGuard op T a b x y).run P w=.ok () w)(f:(Go.binOp op T x y).run P w=.ok v w):
  (execOp ε ⟨d,.binOp op T a b T',ty,pos,aft,g⟩).run P w=.ok (.value v) w:=by
 simp[execOp,hx,c,e,f]
def zJO{f x}{c:List Operand}{ts:Array TypeId}{caps args args'}(hx:ε x=.func (.func f) #[] caps)(e:∀args w,(callFunc f args).run P w=.ok (.enter f args) w)(a:(c.map ε).toArray=args)(b:args++caps=args'):
  (execOp ε ⟨d,.call ⟨.value x,c.toArray,ts⟩,ty,pos,aft,g⟩).run P w=.ok (.enter f args') w:=by
 subst b;subst a
 simp[execOp,resolve,hx,Deferred.ofValue,invoke,e]
end
end Go.SE
namespace Go.SE
def pO(ρ:gb)(l:List (Nat×Value)):Prop:=l.map (fun p=>ρ p.1)=l.map (·.2)
def yF(ρ:gb):List (Nat×Value)->gb
 |[]=>ρ
 |(d,v) :: l=>sM (yF ρ l) d v
def xO{ρ}:∀{l:List (Nat×Value)},pO ρ l->yF ρ l=ρ
 |[],_=>rfl
 |(d,v) :: l,h=>by
  have a:ρ d=v/\l.map (fun p=>ρ p.1)=l.map (·.2):=by simpa[pO]using h
  have:=xO (ρ:=ρ) (l:=l) a.2;simp only[yF,this];funext i;simp only[sM];split;rename_i e;rw[e,a.1];rfl
section
variable {P:Program} {n:Nat} {Q:Exit->gb->World->Prop} {ρ:gb} {w w':World}
structure fp(w:World)(o:Obj)(p:Addr)(w':World):Prop where
 at_:p=⟨w.heap.size,0,none⟩
 to:w'=w.alloc o
def HK{ax Q rest o O}(v:Addr->Value)(b:Region.wanted o (vK ax ρ)=true)(a:(execOp (gx ρ) o).run P w=.ok (.value<|v ⟨w.heap.size,0,none⟩) (w.alloc O))(h:∀p w',fp w O p w'->cr P ax Q rest (put ρ o.dst<|v p) w'):cr P ax Q (o ::rest) ρ w:=
 st b a<|h _ _ ⟨rfl,rfl⟩
def Fl{ax Q rest o W}(b:Region.wanted o (vK ax ρ)=true)(a:(execOp (gx ρ) o).run P w=.ok .skip W)(h:∀w',w'=W->cr P ax Q rest (put ρ o.dst undef) w'):cr P ax Q (o ::rest) ρ w:=
 MH b a<|h _ rfl
section
variable {ax:Array Oper} {C:World->Prop} {loud free:Nat->Bool} {k:Nat} {o:Oper} {K:gb->World->Prop}
end
end
end Go.SE
namespace Go.SE
section
variable {P:Program} {n:Nat} {ρ:gb} {w:World}
def RV(P:Program)(ρ:gb)(w:World):ResultVar->Value->Prop
 |.tmp t,v=>ρ t=v
 |.cell a t,v=>∃A,ρ a=.pointer (some A)/\(loadVar t A).run P w=.ok v w
def yr(P:Program)(ρ:gb)(w:World):List ResultVar->List Value->Prop
 |[],[]=>True
 |r :: rs,v :: vs=>RV P ρ w r v/\yr P ρ w rs vs
 |_,_=>False
def ZX{T a}{n:Nat}{vs}(d:(isAgg T).run P w=.ok true w)(hs:(sizeOf T).run P w=.ok n w)(e:vs.length=n)(c:Row w a vs):(loadVar T a).run P w=.ok (.agg vs.toArray) w:=by
 have:=LY (P:=P) (w:=w) a vs n 0 #[] Om fun j _ b=>c j b;simp[loadVar,d,hs,loadCells,this]
def Xg{T a v}(c:(isAgg T).run P w=.ok false w)(b:w.cell? a=some v):(loadVar T a).run P w=.ok v w:=by
 simp[loadVar,c,b]
def RV.jaV{a A T vs k}(b:ρ a=.pointer (some A))(e:(isAgg T).run P w=.ok true w)(hs:(sizeOf T).run P w=.ok k w)(d:vs.length=k)(c:Row w A vs):RV P ρ w (.cell a T) (.agg vs.toArray):=⟨A,b,ZX e hs d c⟩
def RV.jbJ{a A T v}(b:ρ a=.pointer (some A))(d:(isAgg T).run P w=.ok false w)(c:w.cell? A=some v):RV P ρ w (.cell a T) v:=⟨A,b,Xg d c⟩
def jTV{fn}{rs:List ResultVar}{vs}(d:fn.results=rs.toArray)(h:yr P ρ w rs vs){ds:List Deferred}{a}(c:mc ds n ρ a){v}(e:(if h:vs.toArray.size=1 then vs.toArray[0]else .tuple vs.toArray)=v):(results fn a.tmps).run P w=.ok v w:=by
 have key:∀(f:ResultVar->Sem Value),(∀t,f (.tmp t)=pure (a.tmps.getD t undef))->(∀x t,f (.cell x t)=(do loadVar t (<-asAddr (a.tmps.getD x undef))))->∀(rs:List ResultVar) (vs:List Value),yr P ρ w rs vs->(rs.mapM f).run P w=.ok vs w:=by
  intro f j b rs;induction rs with
  |nil=>intro vs h;cases vs<;>simp only[yr]at h;rfl
  |cons r rs i =>
   intro vs h
   cases vs with
   |nil=>simp only[yr]at h
   |cons v vs =>
    have⟨h1,h2⟩:=h
    have:(f r).run P w=.ok v w:=by
     cases r with
     |tmp t=>rw[j,c.get];simp only[RV]at h1;rw[h1];rfl
     |cell x t =>
      have⟨A,g,k⟩:=h1
      rw[b,c.get,g]
      simp only[Sem.run_bind,asAddr,Sem.run_pure,Result.andThen]
      exact k
    rw[List.mapM_cons]
    simp only[Sem.run_bind,Sem.run_pure,Result.andThen,this,i vs h2]
 unfold results;rw[d,List.mapM_toArray,Sem.run_bind,Sem.run_map,key _ (fun _=>rfl) (fun _ _=>rfl) rs vs h];simp only[Result.andThen,Sem.run_pure];rw[<-e]
def QP{fn}{rs:List ResultVar}{vs v R e}(g:e=.ret\/e=.normal)(b:fn.results=rs.toArray)(h:yr P ρ w rs vs)(d:(if h:vs.toArray.size=1 then vs.toArray[0]else .tuple vs.toArray)=v)(c:R (.returned v) w):Gq P fn n R e ρ w:=by
 rcases g with rfl|rfl<;>exact⟨v,fun _ a f=>jTV b h f d,c⟩
end
section
variable {P:Program} {ε:Operand->Value} {w w':World} {d:Option Tmp} {ty:TypeId} {pos:String} {aft:Array Edge} {g:Option (Nat×Bool)}
def Mn{f x}{c:List Operand}{ts:Array TypeId}{fs caps args args'}(hx:ε x=.func (.func f) fs caps)(e:∀args w,(callFunc f args).run P w=.ok (.enter f args) w)(a:(c.map ε).toArray=args)(b:(fs++args)++caps=args'):
  (execOp ε ⟨d,.call ⟨.value x,c.toArray,ts⟩,ty,pos,aft,g⟩).run P w=.ok (.enter f args') w:=by
 subst b;subst a
 simp[execOp,resolve,hx,Deferred.ofValue,invoke,e]
end
end Go.SE
namespace Go.SE
end Go.SE
namespace Go.SE
end Go.SE
namespace Go.SE
def Ib{P:Program}{ax:Array Oper}{Q:gb->World->Prop}{ρ:gb}{w:World}:∀(k:Nat) {l:List Oper} {ρ:gb} {w:World},cr P ax (fun ρ w=>cr P ax Q (l.drop k) ρ w) (l.take k) ρ w->cr P ax Q l ρ w
 |0,l,ρ,w,h=>by simpa[cr]using h
 |k+1,[],ρ,w,h=>by simpa[cr]using h
 |k+1,o :: l,ρ,w,h=>by
  simp only[List.take_succ_cons,List.drop_succ_cons]at h;unfold cr at h|-;split;rename_i a;rw[if_pos a]at h;exact tR h fun v w' hh=>Ib (ρ:=ρ) (w:=w) k hh;rename_i a;rw[if_neg a]at h;exact Ib (ρ:=ρ) (w:=w) k h
def Gn{P ax Q Q'}(a:∀ρ w,Q ρ w->Q' ρ w):∀{l:List Oper} {ρ:gb} {w:World},cr P ax Q l ρ w->cr P ax Q' l ρ w
 |[],ρ,w,h=>by unfold cr at h|-;exact a _ _ h
 |o :: l,ρ,w,h=>by
  unfold cr at h|-;split;rename_i b;rw[if_pos b]at h;exact tR h fun v w' hh=>Gn a hh;rename_i b;rw[if_neg b]at h;exact Gn a h
end Go.SE
namespace Go.SE
section
variable {P:Program} {ε:Operand->Value} {w w':World} {d:Option Tmp} {ty:TypeId} {pos:String} {aft:Array Edge} {g:Option (Nat×Bool)}
end
end Go.SE
namespace Go.SE
section
variable {P:Program} {ε:Operand->Value} {w w':World} {d:Option Tmp} {ty:TypeId} {pos:String} {aft:Array Edge} {g:Option (Nat×Bool)}
end
end Go.SE
end
section
namespace Go.SE
def Cy(w:World)(o:Obj)(i:Nat)(h:i<w.heap.size):(w.alloc o).heap[i]?=w.heap[i]?:=by
 show(w.heap.push o)[i]?=w.heap[i]?;rw[Array.getElem?_push,if_neg<|Nat.ne_of_lt h]
structure aj(F:Nat->Prop)(w w':World):Prop where
 os:w'.os=w.os
 tape:w'.tape=w.tape
 output:w'.output=w.output
 drawn:w.drawn<=w'.drawn
 size:w.heap.size<=w'.heap.size
 ly:∀b,b<w.heap.size->¬F b->w'.heap[b]?=w.heap[b]?
def bl(_:Nat):Prop:=False
abbrev aq(w w':World):Prop:=aj bl w w'
def aj.refl{F}(w):aj F w w:=⟨rfl,rfl,rfl,Gd,Nat.le_refl _,fun _ _ _=>rfl⟩
def aj.ft{F G a b c}(h:aj F a b)(k:aj G b c)(e:∀i,i<a.heap.size->G i->F i):aj F a c:=
 ⟨k.os.trans h.os,k.tape.trans h.tape,k.output.trans h.output,(by first|exact Nat.le_trans h.drawn k.drawn|exact Nat.le_refl _),Nat.le_trans h.size k.size,fun i hi d=>(k.ly i (Nat.lt_of_lt_of_le hi h.size) fun f=>d<|e i hi f).trans (h.ly i hi d)⟩
def aj.trans{F a b c}(h:aj F a b)(k:aj F b c):aj F a c:=h.ft k fun _ _ h=>h
def aj.mono{F G a b}(h:aj F a b)(c:∀i,i<a.heap.size->F i->G i):aj G a b:=
 ⟨h.os,h.tape,h.output,h.drawn,h.size,fun i hi e=>h.ly i hi fun d=>e<|c i hi d⟩
def aj.pure{F a b}(h:aq a b):aj F a b:=h.mono fun _ _ h=>h.elim
def aj.mh{F a b c}(h:aj F a b)(k:aq b c):aj F a c:=h.trans k.pure
def aj.below{w w'}(h:aq w w'):RowKit.Below w.heap.size w w':=⟨h.os,h.tape,h.output,h.size,fun k a=>h.ly k a id⟩
def aj.drew(w){F}:aj F w w.drew:=⟨rfl,rfl,rfl,Uc,Nat.le_refl _,fun _ _ _=>rfl⟩
def uM{w:World}{b:Nat}{o:Obj}(h:w.heap[b]?=some o):b<w.heap.size:=(Array.getElem?_eq_some_iff.1 h).1
def aj.heap{F:Nat->Prop}{w w':World}(h:aj F w w'){b:Nat}{o:Obj}(a:w.heap[b]?=some o)(c:¬F b):w'.heap[b]?=some o:=by
 rw[h.ly b (uM a) c];exact a
def aj.cell{F w w'}(h:aj F w w'){a v}(c:w.cell? a=some v)(d:¬F a.block):w'.cell? a=some v:=by
 have b:=World.block_lt_of_cell? w a c;unfold World.cell? at *;rw[h.ly _ b d];exact c
def aj.row{F w w'}(h:aj F w w'){a vs}(b:Row w a vs)(c:¬F a.block):Row w' a vs:=by
 intro i hi;have:=b i hi;rw[List.getElem?_eq_getElem hi]at this|-;refine h.cell this ?_;have:(a.add i).block=a.block:=by unfold Addr.add;split<;>rfl
 rw[this];exact c
def aj.bu{F w w' o p}(h:fp w o p w'):aj F w w':=by
 obtain⟨_,rfl⟩:=h;exact⟨rfl,rfl,rfl,Uc,Sm,fun b a _=>Cy w o b a⟩
def aj.setCell{w}(a v):aj (·=a.block) w (w.setCell a v):=
 ⟨rfl,rfl,rfl,Uc,Uc,fun b _ c=>heap_setCell_other w a b v c⟩
def zD(a:Addr)(i:Nat):(a.add i).block=a.block:=by unfold Addr.add;split<;>rfl
def aj.rE(a:Addr):∀(vs:List Value) (i:Nat) (w:World),aj (·=a.block) w (rE w a i vs)
 |[],_,w=>aj.refl w
 |v :: vs,i,w=>by
  have h1:aj (·=a.block) w (w.setCell (a.add i) v):=(aj.setCell (a.add i) v).mono (fun _ _ h=>by rw[zD]at h;exact h);exact h1.trans<|aj.rE a vs (i+1) _
def aj.ib(w a vs):aj (·=a.block) w (SE.ib w a vs):=aj.rE a vs 0 w
structure az(w:World)(p:Addr)(c:List Value)(T:TypeId):Prop where
 Ge:p=⟨p.block,0,none⟩
 bg:w.heap[p.block]?=some (.cells c.toArray T (0,0))
def az.fi{w w' c T p}(h:fp w (.cells c.toArray T) p w'):az w' p c T:=by
 obtain⟨rfl,rfl⟩:=h;exact⟨rfl,heap_alloc_new w _⟩
def fp.gp{w w' o p}(h:fp w o p w'):p.block=w.heap.size:=by rw[h.at_]
def fp.EP{w w' o p}(h:fp w o p w'):w'.heap[p.block]?=some o:=by
 obtain⟨rfl,rfl⟩:=h;exact heap_alloc_new w _
def fp.ne{w w' o o' p}(h:fp w o p w'){b}(a:w.heap[b]?=some o'):b≠p.block:=by
 rw[h.gp];exact Nat.ne_of_lt<|uM a
def az.lt{w p c T}(h:az w p c T):p.block<w.heap.size:=uM h.bg
def az.ext{F w w' p c T}(h:az w p c T)(a:aj F w w')(b:¬F p.block):az w' p c T:=⟨h.Ge,a.heap h.bg b⟩
def az.pure{w w' p c T}(h:az w p c T)(a:aq w w'):az w' p c T:=h.ext a id
def az.add{w p c T}(h:az w p c T)(i):p.add i=⟨p.block,i,none⟩:=by
 rw[h.Ge];unfold Addr.add;split<;>simp_all
def az.cell{w p c T}(h:az w p c T){i v}(a:c[i]?=some v):w.cell? (p.add i)=some v:=by
 rw[h.add,cell_of_row w _ _ _ _ _ h.bg];simpa using a
def az.dj{w p v c T}(h:az w p (v ::c) T):w.cell? p=some v:=by
 have:=h.cell (i:=0) (v:=v) rfl;simpa[Addr.add]using this
def az.row{w p c T}(h:az w p c T):Row w p c:=fun i hi=>by
 rw[List.getElem?_eq_getElem hi];exact h.cell<|List.getElem?_eq_getElem hi
def az.im{w p c T}(h:az w p c T){i}(hi:i<c.length):zJ w (p.add i):=
 ⟨⟨c[i],h.cell<|List.getElem?_eq_getElem hi⟩,by rw[h.add];exact frozen_of_row w _ _ _ _ h.bg⟩
def az.mi{w p c T}(h:az w p c T)(hi:0<c.length):zJ w p:=by
 have:=h.im hi;simpa[Addr.add]using this
def az.uy{w p c T}(h:az w p c T){n}(a:n<=c.length):∀j,j<n->zJ w (p.add j):=fun _ b=>h.im Om
def az.set{w p c T}(h:az w p c T)(i v):az (w.setCell (p.add i) v) p (c.set i v) T:=by
 refine⟨h.Ge,?_⟩;rw[h.add];have:=heap_setCell_same w p.block i c.toArray T v h.bg;rw[this];simp
def az.nw{w p u v c T}(h:az w p (u ::c) T):az (w.setCell p v) p (v ::c) T:=by
 have:=h.set 0 v;simpa[Addr.add]using this
def az.Nh{p T}:∀(vs:List Value) (i:Nat) (w:World) (c:List Value),az w p c T->i+vs.length=c.length->az (rE w p i vs) p (c.take i++vs) T
 |[],i,w,c,h,a=>by
  have:c.take i=c:=List.take_of_length_le Uc;simpa[rE,this]using h
 |v :: vs,i,w,c,h,a=>by
  simp only[List.length_cons]at a;have:=az.Nh vs (i+1) _ _ (h.set i v) So;simp only[rE];have e:(c.set i v).take (i+1)++vs=c.take i++v ::vs:=by
   rw[List.take_succ_eq_append_getElem So,List.take_set_of_le<|Nat.le_refl i];simp
  rwa [e]at this
def az.store{w p c vs T}(h:az w p c T)(a:vs.length=c.length):az (ib w p vs) p vs T:=by
 have:=az.Nh vs 0 w c h Om;simpa[ib]using this
def Br.t{c}{A B:Prop}(a:c=true)(h:A):Br c A B:=⟨fun _=>h,fun e=>Uc⟩
def Br.f{c}{A B:Prop}(a:c=false)(h:B):Br c A B:=⟨fun e=>Uc,fun _=>h⟩
end Go.SE
namespace Go.SE
def bx(n:Nat){w:World}{p:Addr}{c vs:List Value}{T:TypeId}(h:az w p c T)(a:c.length=n)(b:vs.length=n){A:World->Prop}(k:∀w',az w' p vs T->aj (·=p.block) w w'->A w'):(∀j,j<n->zJ w (p.add j))/\∀w',w'=ib w p vs->A w':=
 ⟨h.uy Om,fun w' e=>by subst e;exact k _ (h.store Om)<|aj.ib _ _ _⟩
def aj.bf{a w w':World}{p:Addr}(h:aq a w)(b:a.heap.size<=p.block)(k:aj (·=p.block) w w'):aq a w':=
 h.ft k Gd
def fp.bf{w0 w w' o p}(h:aq w0 w)(a:fp w o p w'):w0.heap.size<=p.block:=by rw[a.gp];exact h.size
end Go.SE
namespace Go.SE
def az.j0{w w' c T p}(h:fp w (.cells c T) p w'):az w' p c.toList T:=by
 obtain⟨rfl,rfl⟩:=h;exact⟨rfl,by simpa using heap_alloc_new w (.cells c T)⟩
def az.QX{w p c vs T}(h:az w p c T)(e:c=vs):Row w p vs:=e▸h.row
end Go.SE
end
section
namespace Go.SE
structure c9(w:World)(e:TypeId)(sz:Nat)(s:Sl)(rs:List (List Value)):Prop where
 pP:∀r∈rs,r.length=sz
 ay:s.ay=rs.length
 bf:(s=Sl.nil/\rs=[])\/∃g ga,s.a=some ⟨g,0,none⟩/\w.heap[g]?=some (.cells ga e (0,0))/\rs.length<=s.cap/\s.cap<=maxLen/\ga.size=s.cap*sz/\ga.toList.take (rs.length*sz)=rs.flatten
def Sl.bg(s:Sl)(b:Nat):Prop:=∃a,s.a=some a/\a.block=b
def c9.nil(w e sz):c9 w e sz Sl.nil []:=⟨Sm,rfl,.inl ⟨rfl,rfl⟩⟩
def vR{rs:List (List Value)}{sz:Nat}(h:∀r∈rs,r.length=sz):rs.flatten.length=rs.length*sz:=by
 induction rs with
 |nil=>simp
 |cons r rs a =>
  have h1:=h r Sm
  have h2:=a Gd
  simp only[List.flatten_cons,List.length_append,h1,h2,List.length_cons,Nat.add_mul,Nat.one_mul]
  omega
def Gv{rs:List (List Value)}{sz:Nat}(h:∀r∈rs,r.length=sz){i:Nat}(hi:i<rs.length){j:Nat}(b:j<sz):rs.flatten[i*sz+j]?=rs[i][j]?:=by
 induction rs generalizing i with
 |nil=>simp at hi
 |cons r rs a =>
  have h1:=h r Sm
  cases i with
  |zero=>simp[List.getElem?_append_left<|show j<r.length by omega]
  |succ i =>
   simp only[List.flatten_cons,List.getElem_cons_succ]
   rw[List.getElem?_append_right Gd]
   have:=a Gd (i:=i) Uc
   rw[<-this]
   congr 1
   rw[h1,Nat.succ_mul];omega
def c9.ext{F w w' e sz s rs}(h:c9 w e sz s rs)(c:aj F w w')(i:∀b,s.bg b->¬F b):c9 w' e sz s rs:=by
 refine⟨h.pP,h.ay,?_⟩;rcases h.bf with d|⟨g,ga,a,f,r⟩;exact .inl d;exact .inr ⟨g,ga,a,c.heap f<|i g ⟨_,a,rfl⟩,r⟩
def c9.pure{w w' e sz s rs}(h:c9 w e sz s rs)(a:aq w w'):c9 w' e sz s rs:=h.ext a fun _ _ h=>h
def c9.lt{w e sz s rs}(h:c9 w e sz s rs){b}(f:s.bg b):b<w.heap.size:=by
 rcases h.bf with⟨rfl,_⟩|⟨g,ga,d,i,_⟩;have⟨a,d,_⟩:=f;cases d;obtain⟨a,c,rfl⟩:=f;rw[d]at c;cases c;exact uM i
def c9.at{w e sz s rs}(h:c9 w e sz s rs){i}(l:0<=i)(hi:i.toNat<rs.length):∃a,At s i sz a/\Row w a rs[i.toNat]/\s.bg a.block:=by
 rcases h.bf with⟨_,rfl⟩|⟨g,ga,d,k,m,_,hs,ht⟩;simp at hi;refine⟨(⟨g,0,none⟩:Addr).add<|i.toNat*sz,⟨l,by rw[h.ay];omega,⟨_,d,rfl⟩⟩,?_,⟨_,d,by rw[zD]⟩⟩;intro j n;have f:=h.pP _<|List.getElem_mem hi;have b:((⟨g,0,none⟩:Addr).add<|i.toNat*sz).add j=⟨g,i.toNat*sz+j,none⟩:=by
  unfold Addr.add;split<;>split<;>simp_all
 rw[b,cell_of_row w g _ ga e (0,0) k,<-Gv h.pP hi Om,<-ht,List.getElem?_take];have c:i.toNat*sz+j<rs.length*sz:=by
  have:(i.toNat+1)*sz<=rs.length*sz:=Nat.mul_le_mul_right _ hi;rw[Nat.succ_mul]at this;omega
 rw[if_pos c];simp
def UN{v}(h:vC v=true):v.oneCell'=true:=by cases v<;>simp_all[vC,Value.oneCell']
structure nY(P:Program)(t e:TypeId)(sz bytes:Nat):Prop where
 ht:P.underlying t=some (.slice e)
 hi:∃i z,P.info? e=some i/\i.zero=some z/\i.size=sz/\i.bytes=bytes/\z.cells.size=sz
 pos:0<sz
def JV{w p r}(b:Row w p r):∀j u,r[j]?=some u->w.cell? (p.add j)=some u:=fun j u a=>by
 rw[b j (List.getElem?_eq_some_iff.1 a).1,a]
def c9.rq{w:World}{e:TypeId}{sz:Nat}{rs:List (List Value)}(a:∀q∈rs,q.length=sz){ga:Array Value}{z:Value}(d:z.cells.size=sz)(b:ga.toList=rs.flatten){cap:Nat}(c:rs.length<=cap)(f:cap<=maxLen):
  c9 (w.drew.alloc<|.cells (ga++Builtin.zeroCells z.cells (cap-rs.length)) e) e sz ⟨some ⟨w.heap.size,0,none⟩,rs.length,cap⟩ rs:=by
 refine⟨a,rfl,.inr ⟨w.heap.size,_,rfl,heap_alloc_new w.drew _,c,f,?_,?_⟩⟩
 have:ga.size=rs.length*sz:=by rw[<-Array.length_toList,b,vR a]
 rw[Array.size_append,size_zeroCells,d,this,<-Nat.add_mul]
 congr 1
 show rs.length+(cap-rs.length)=cap
 omega
 rw[Array.toList_append,b]
 have:=vR a
 rw[<-this]
 exact List.take_left
def c9.Lh{P:Program}{w:World}{t ty e:TypeId}{sz bytes:Nat}(T:nY P t e sz bytes){s:Sl}{rs qs:List (List Value)}(h:c9 w e sz s rs){p:Addr}{c:Nat}(I:Row w p qs.flatten)(Q:∀q∈qs,q.length=sz)(h1:∀q∈qs,q.all vC=true)(G:qs≠[])(f:(rs.length+qs.length)*bytes<=140737488355328)(H:rs.length+qs.length<=maxLen):
  ∃s' w',(Builtin.append_ #[t,t] ty #[s.v,(Sl.mk (some p) qs.length c).v]).run P w=.ok s'.v w'/\c9 w' e sz s' (rs++qs)/\aj s.bg w w'/\(∀b,s'.bg b->s.bg b\/w.heap.size<=b):=by
 have⟨i,z,hi,S,N,M,E⟩:=T.hi
 subst N;subst M
 have J:∀u∈qs.flatten,u.oneCell'=true:=fun u o=>by
  have⟨q,G,o⟩:=List.mem_flatten.1 o;exact UN<|List.all_eq_true.1 (h1 q G) u o
 have K:rs.length+qs.length<=9223372036854775807:=by simp only[maxLen]at H;omega
 have n:=vR Q
 have D:=List.length_pos_iff.2 G
 have l:∀q∈rs++qs,q.length=i.size:=fun q G=>(List.mem_append.1 G).elim (h.pP q)<|Q q
 have A:=vR h.pP
 rcases h.bf with⟨rfl,rfl⟩|⟨g,ga,r,y,U,R,di,m⟩
 simp only[List.length_nil,Nat.zero_add]at f K H
 have d:=run_append_nil (P:=P) w t ty e i z T.ht hi S p qs.length c qs.flatten n (JV I) D Om Om
 have y:=c9.rq (w:=w) (e:=e) (rs:=qs) Q (ga:=qs.flatten.toArray) E Sm (grownCap_ge w qs.length 0 e)<|grownCap_le_maxLen w _ 0 e H
 refine⟨⟨some ⟨w.heap.size,0,none⟩,qs.length,grownCap w qs.length 0 e⟩,(w.drew.alloc<|.cells (qs.flatten.toArray++Builtin.zeroCells z.cells (grownCap w qs.length 0 e-qs.length)) e),d,?_,?_,?_⟩
 simpa using y
 exact⟨rfl,rfl,rfl,Uc,Sm,fun b f _=>Cy w.drew _ b f⟩
 intro b f;obtain⟨a,r,rfl⟩:=f;cases r;right;exact Nat.le_refl _
 have B:s.v=.slice (some ⟨g,0,none⟩) rs.length s.cap:=by unfold Sl.v;rw[r,h.ay]
 by_cases k:rs.length+qs.length<=s.cap
 have C:rs.length*i.size+qs.flatten.length<=ga.size:=by rw[n,di,<-Nat.add_mul];exact Nat.mul_le_mul_right _ k
 have d:=run_append_room (P:=P) w t ty e i T.ht hi g rs.length s.cap ga y p qs.length c qs.flatten n (JV I) J k C
 refine⟨⟨some ⟨g,0,none⟩,rs.length+qs.length,s.cap⟩,_,by rw[B];exact d,⟨l,Sm,.inr ⟨g,_,rfl,setRow_heap w g ga _ e _ y,Uc,R,?_,?_⟩⟩,⟨rfl,rfl,rfl,Uc,Sm,fun b f V=>setRow_other w g b _ fun e=>V ⟨_,r,e.symm⟩⟩,fun b f=>by obtain⟨a,O,rfl⟩:=f;cases O;exact .inl ⟨_,r,rfl⟩⟩
 grind
 rw[m,List.flatten_append,List.length_append,Nat.add_mul,<-A,<-n,<-List.length_append]
 exact List.take_left
 have x:∀ j u,rs.flatten[j]?=some u->w.cell? ((⟨g,0,none⟩:Addr).add j)=some u:=fun j u o=>by
  have F:(⟨g,0,none⟩:Addr).add j=⟨g,j,none⟩:=by unfold Addr.add;split<;>simp_all
  rw[F,cell_of_row w g j ga e (0,0) y];rw[<-m,List.getElem?_take]at o;split at o;simpa using o;cases o
 have d:=run_append_grow (P:=P) w t ty e i z T.ht hi S ⟨g,0,none⟩ rs.length s.cap rs.flatten A x p qs.length c qs.flatten n (JV I) Om Om<|growslice_fits Om f
 have L:=c9.rq (w:=w) (e:=e) (rs:=rs++qs) l (ga:=rs.flatten.toArray++qs.flatten.toArray) E Sm (cap:=grownCap w (rs.length+qs.length) s.cap e) (by simpa using grownCap_ge w (rs.length+qs.length) s.cap e)<|grownCap_le_maxLen w _ _ e H
 refine⟨⟨some ⟨w.heap.size,0,none⟩,rs.length+qs.length,grownCap w (rs.length+qs.length) s.cap e⟩,(w.drew.alloc<|.cells (rs.flatten.toArray++qs.flatten.toArray++Builtin.zeroCells z.cells (grownCap w (rs.length+qs.length) s.cap e-(rs.length+qs.length))) e),?_,?_,?_,?_⟩
 rw[B];exact d
 simpa using L
 exact⟨rfl,rfl,rfl,Uc,Sm,fun b f _=>Cy w.drew _ b f⟩
 intro b f;obtain⟨a,r,rfl⟩:=f;cases r;right;exact Nat.le_refl _
def c9.append{P w t ty e sz bytes}(T:nY P t e sz bytes){s rs}(h:c9 w e sz s rs){p c r}(f:Row w p r)(g:r.length=sz)(h1:r.all vC=true)(a:(rs.length+1)*bytes<=140737488355328)(d:rs.length+1<=maxLen):
  ∃s' w',(Builtin.append_ #[t,t] ty #[s.v,(Sl.mk (some p) 1 c).v]).run P w=.ok s'.v w'/\c9 w' e sz s' (rs++[r])/\aj s.bg w w'/\(∀b,s'.bg b->s.bg b\/w.heap.size<=b):=
 c9.Lh T h (qs:=[r]) Uc Uc Uc Sm a d
end Go.SE
end
section
namespace Go.SE
open Go.Instr
def Jf(k:Value)(es:List MapEntry)(r:Option (Nat×Value)):Prop:=
 (r=.none/\∀e∈es,e.key≠k)\/∃i e,es[i]?=some e/\e.key=k/\r=some (i,e.val)
structure sj(P:Program)(K:TypeId)(S:Value->Prop):Prop where
 ik:∀k,S k->∀a w,(checkKey a 10000 K k).run P w=.ok () w
 find:∀k (es:List MapEntry) w,S k->(∀e∈es,S e.key)->∃r,(findKey K k es).run P w=.ok r w/\Jf k es r
 bits:∀k,S k->sameBits 10000 k k=true
structure pk(w:World)(m:Nat)(es:List (Value×Value)):Prop where
 ex:∃d c,w.heap[m]?=some (.map d c)/\d.toList.map (fun e=>(e.key,e.val))=es/\d.toList.Pairwise (fun a b=>a.born<b.born)/\∀e∈d.toList,e.born<c
def pk.ext{F w w' m}{es:List (Value×Value)}(h:pk w m es)(c:aj F w w')(e:¬F m):pk w' m es:=by
 have⟨b,a,d,r⟩:=h.ex;exact⟨b,a,c.heap d e,r⟩
def pk.lt{w m}{es:List (Value×Value)}(h:pk w m es):m<w.heap.size:=by
 have⟨b,a,c,r⟩:=h.ex;exact uM c
def pk.fi{w w' p}(h:fp w (.map #[] 0) p w'):pk w' p.block []:=⟨#[],0,h.EP,rfl,Sm,Sm⟩
def NZ{P K k w}:∀(es:List MapEntry) (i:Nat),(∀e∈es,∃b,(Op.equal K k e.key).run P w=.ok b w/\(b=true↔e.key=k)) ->
  ∃r,(findAsking K k es i).run P w=.ok r w/\((r=.none/\∀e∈es,e.key≠k)\/∃j e,es[j]?=some e/\e.key=k/\r=some (i+j,e.val))
 |[],i,_=>⟨.none,rfl,.inl ⟨rfl,Sm⟩⟩
 |e :: es,i,h=>by
  have⟨b,f,d⟩:=h e Sm;cases b with
  |true =>
   refine⟨some (i,e.val),?_,.inr ⟨0,e,rfl,d.1 rfl,rfl⟩⟩
   simp[findAsking,f]
  |false =>
   have⟨r,g,l⟩:=NZ es (i+1) fun e m=>h e Uc
   refine⟨r,?_,?_⟩
   simp[findAsking,f,g]
   rcases l with⟨h1,h2⟩|⟨j,c,h1,h2,h3⟩
   left
   refine⟨h1,fun c a=>?_⟩
   rcases List.mem_cons.1 a with rfl|a
   grind
   exact h2 c a
   exact .inr ⟨j+1,c,Uc,h2,Uc⟩
def jLX{a:Array Field}{k}:∀(es:List MapEntry) (i:Nat),es≠[]->findNow (.struct a) k es i=.none
 |[],_,h=>absurd rfl h
 |e :: es,i,_=>by simp[findNow,sameNow]
def sj.TS{P K}{S:Value->Prop}{m:Array Field}(h:P.underlying K=some (.struct m))(f:∀k,S k->∀i w,(checkKey i 10000 K k).run P w=.ok () w)(n:∀k k' w,S k->S k'->∃b,(Op.equal K k k').run P w=.ok b w/\(b=true↔k'=k))(j:∀k,S k->sameBits 10000 k k=true):sj P K S:=by
 refine⟨f,fun k es w l c=>?_,j⟩;unfold findKey;simp only[Sem.run_bind,run_underlying h,Result.andThen_ok];by_cases d:es=[];subst d;exact⟨.none,by simp[findNow],.inl ⟨rfl,Sm⟩⟩;rw[jLX es 0 d];have⟨r,g,o⟩:=NZ (P:=P) (K:=K) (k:=k) (w:=w) es 0 fun e a=>n k e.key w l<|c e a;exact⟨r,g,by simpa[Jf]using o⟩
def Mi{q k}:∀(es:List MapEntry) (i:Nat),(∀e∈es,∃n,e.key=.int q n)->∃r,findNow (.int q) (.int q k) es i=some r/\((r=.none/\∀e∈es,e.key≠.int q k)\/∃j e,es[j]?=some e/\e.key=.int q k/\r=some (i+j,e.val))
 |[],i,_=>⟨.none,rfl,.inl ⟨rfl,Sm⟩⟩
 |e :: es,i,h=>by
  have⟨n,c⟩:=h e Sm;by_cases g:k=n;subst g;exact⟨some (i,e.val),by simp[findNow,sameNow,c],.inr ⟨0,e,rfl,c,rfl⟩⟩;have⟨r,f,l⟩:=Mi (q:=q) (k:=k) es (i+1) Gd;have d:(k==n)=false:=Uc;refine⟨r,by simp[findNow,sameNow,c,d,f],?_⟩;rcases l with⟨h1,h2⟩|⟨j,b,h1,h2,h3⟩;left;refine⟨h1,fun b a=>?_⟩;rcases List.mem_cons.1 a with rfl|a;grind;exact h2 b a;exact .inr ⟨j+1,b,Uc,h2,Uc⟩
def jRT{P K q}(a:P.underlying K=some (.int q))(n em w d):(checkKey em (d+1) K<|.int q n).run P w=.ok () w:=by
 simp[checkKey,run_underlying a]
def ZO(q n d):sameBits d (.int q n) (.int q n)=true:=by
 cases d<;>simp[sameBits]
def sj.IR{P K q}(b:P.underlying K=some (.int q)):sj P K (fun k=>∃n,k=.int q n):=by
 refine⟨?_,?_,?_⟩;rintro _ ⟨n,rfl⟩ d w;exact jRT b n d w 9999;rintro _ es w ⟨n,rfl⟩ a;have⟨r,c,e⟩:=Mi (q:=q) (k:=n) es 0 a;exact⟨r,by simp[findKey,run_underlying b,c],by simpa[Jf]using e⟩;rintro _ ⟨n,rfl⟩;exact ZO q n 10000
section
variable {P:Program} {T K E:TypeId} {S:Value->Prop} {w:World} {m:Nat} {es:List (Value×Value)}
def pk.lookup(h:pk w m es)(j:P.underlying T=some (.map K E))(c:sj P K S)(hS:∀p∈es,S p.1){k z}(g:S k)(n:(zeroValue E).run P w=.ok z w)(ok):
  ((∀p∈es,p.1≠k)/\(Instr.lookup T (.map<|some m) k ok).run P w=.ok (if ok then .tuple #[z,.bool false]else z) w) \/
  ∃(i:Nat) (v:Value),es[i]?=some (k,v)/\(Instr.lookup T (.map<|some m) k ok).run P w=.ok (if ok then .tuple #[v,.bool true]else v) w:=by
 obtain⟨a,b,o,rfl,_,_⟩:=h.ex
 have⟨r,d,q⟩:=c.find k a.toList w g fun e s=>hS _<|List.mem_map.2 ⟨e,s,rfl⟩
 have f:=c.ik k g a.isEmpty w
 have l:(getObj m).run P w=.ok (.map a b) w:=by simp[getObj,Sem.run,o]
 rcases q with⟨rfl,u⟩|⟨i,e,hi,rfl,rfl⟩
 left
 refine⟨fun p t=>?_,?_⟩
 grind
 cases ok<;>simp[Instr.lookup,run_underlying j,l,f,d,n]
 right
 refine⟨i,e.val,Uc,?_⟩
 cases ok<;>simp[Instr.lookup,run_underlying j,l,f,d]
def pk.insert(h:pk w m es)(q:P.underlying T=some (.map K E))(g:sj P K S)(hS:∀p∈es,S p.1){k v}(j:S k)(u:∀p∈es,p.1≠k):
  ∃w',(Instr.mapUpdate T (.map<|some m) k v).run P w=.ok () w'/\pk w' m (es++[(k,v)])/\aj (·=m) w w':=by
 obtain⟨c,a,d,rfl,x,y⟩:=h.ex
 have⟨r,l,f⟩:=g.find k c.toList w j fun e t=>hS _<|List.mem_map.2 ⟨e,t,rfl⟩
 have n:=g.ik k j false w
 have s:(getObj m).run P w=.ok (.map c a) w:=by simp[getObj,Sem.run,d]
 have o:=uM d
 rcases f with⟨rfl,_⟩|⟨i,e,hi,rfl,rfl⟩
 refine⟨{ w with heap:=w.heap.setIfInBounds m (.map (c.push { key:=k,val:=v,born:=a })<|a+1) },?_,⟨c.push { key:=k,val:=v,born:=a },a+1,Uc,Sm,?_,?_⟩,⟨rfl,rfl,rfl,Gd,Sm,fun b _ f=>by simp[Array.getElem?_setIfInBounds_ne<|Ne.symm f]⟩⟩
 simp[Instr.mapUpdate,run_underlying q,s,n,l,setObj,Sem.run,d]
 grind
 grind
 exact absurd rfl (u _<|List.mem_map.2 ⟨e,List.mem_of_getElem? hi,rfl⟩)
def Qm{α β:Type}(f:α->β):∀(l:List α) (i:Nat),(l.eraseIdx i).map f=(l.map f).eraseIdx i
 |[],i=>Sm
 |a :: l,0=>Sm
 |a :: l,i+1=>by simp[Qm f l i]
def pk.W5(h:pk w m es)(C:P.underlying T=some (.map K E))(n:sj P K S)(hS:∀p∈es,S p.1){k v}(o:S k){i}(hi:es[i]?=some (k,v))(t:∀j u,es[j]?=some (k,u)->j=i){Q z}:
  ∃w',(Builtin.delete_ #[T,Q] z #[.map<|some m,k]).run P w=.ok (.tuple #[]) w'/\pk w' m (es.eraseIdx i)/\aj (·=m) w w':=by
 obtain⟨a,c,d,rfl,G,H⟩:=h.ex
 have⟨r,q,g⟩:=n.find k a.toList w o fun e y=>hS _<|List.mem_map.2 ⟨e,y,rfl⟩
 have s:=n.ik k o a.isEmpty w
 have x:(getObj m).run P w=.ok (.map a c) w:=by simp[getObj,Sem.run,d]
 have B:=uM d
 rcases g with⟨rfl,F⟩|⟨j,e,D,rfl,rfl⟩
 grind
 have l:=t j e.val Uc
 subst l
 have f:j<a.size:=by
  have:=List.getElem?_eq_some_iff.1 D;have⟨h,_⟩:=this;simpa using h
 have A:(a.eraseIdxIfInBounds j).toList=a.toList.eraseIdx j:=by
  simp[Array.eraseIdxIfInBounds,f,Array.toList_eraseIdx]
 refine⟨{ w with heap:=w.heap.setIfInBounds m (.map (a.eraseIdxIfInBounds j) c) },?_,⟨a.eraseIdxIfInBounds j,c,Uc,?_,?_,?_⟩,⟨rfl,rfl,rfl,Gd,Sm,fun b _ g=>by simp[Array.getElem?_setIfInBounds_ne<|Ne.symm g]⟩⟩
 simp[Builtin.delete_,run_underlying C,x,s,q,setObj,Sem.run,d]
 rw[A];exact Qm _ _ _
 grind
 grind
def pk.jcg(h:pk w m es)(O:P.underlying T=some (.map K E))(q:sj P K S)(hS:∀p∈es,S p.1){k v v'}(t:S k){i}(hi:es[i]?=some (k,v))(D:∀j u,es[j]?=some (k,u)->j=i):
  ∃w',(Instr.mapUpdate T (.map<|some m) k v').run P w=.ok () w'/\pk w' m (es.set i (k,v'))/\aj (·=m) w w':=by
 obtain⟨a,c,x,rfl,H,R⟩:=h.ex
 have⟨r,B,y⟩:=q.find k a.toList w t fun e G=>hS _<|List.mem_map.2 ⟨e,G,rfl⟩
 have C:=q.ik k t false w
 have F:(getObj m).run P w=.ok (.map a c) w:=by simp[getObj,Sem.run,x]
 have M:=uM x
 rcases y with⟨rfl,g⟩|⟨j,e,Q,s,rfl⟩
 grind
 have z:=D j e.val Uc
 subst z
 have⟨J,I⟩:=List.getElem?_eq_some_iff.1 Q
 have l:j<a.size:=Uc
 have d:a[j]?=some e:=Uc
 have o:a[j]=e:=Uc
 have L:(a.modify j fun e=>{ e with key:=k,val:=v' }).toList=a.toList.set j { e with key:=k,val:=v' }:=by
  rw[Array.toList_modify];apply List.ext_getElem?;intro n;rw[List.getElem?_modify,List.getElem?_set];by_cases g:j=n;grind;simp[g]
 have N:=List.pairwise_map.2 H
 have A:(a.toList.set j { e with key:=k,val:=v' }).map (·.born)=a.toList.map (·.born):=by
  rw[List.map_set];apply List.ext_getElem?;intro n;rw[List.getElem?_set];by_cases g:j=n;subst g;simp[l,d,o];simp[g]
 have f:=q.bits k t
 refine⟨{ w with heap:=w.heap.setIfInBounds m (.map (a.modify j fun e=>{ e with key:=k,val:=v' }) c) },?_,⟨a.modify j fun e=>{ e with key:=k,val:=v' },c,Uc,?_,?_,?_⟩,⟨rfl,rfl,rfl,Gd,Sm,fun b _ y=>by simp[Array.getElem?_setIfInBounds_ne<|Ne.symm y]⟩⟩
 simp[Instr.mapUpdate,run_underlying O,F,C,B,setObj,Sem.run,x,keyThatStays,d,s,f]
 rw[L,List.map_set]
 grind
 grind
end
end Go.SE
end
section
namespace Go.SE
structure gr(S:Nat->Prop)(w:World)(sz:Nat)(s:Sl)(rs:List (List Value)):Prop where
 ay:s.ay=rs.length
 at_:∀i (h:i<rs.length),∃a,At s i sz a/\S a.block/\Row w a rs[i]
def gr.ext{S F w w' sz s rs}(h:gr S w sz s rs)(c:aj F w w')(d:∀b,S b->¬F b):gr S w' sz s rs:=
 ⟨h.ay,fun i hi=>let ⟨a,h1,h2,h3⟩:=h.at_ i hi;⟨a,h1,h2,c.row h3<|d _ h2⟩⟩
def gr.pure{S w w' sz s rs}(h:gr S w sz s rs)(a:aq w w'):gr S w' sz s rs:=h.ext a fun _ _ h=>h
def c9.gS{w e sz s rs}(h:c9 w e sz s rs):gr s.bg w sz s rs:=
 ⟨h.ay,fun i hi=>let ⟨a,h1,h2,h3⟩:=h.at (i:=i) Om Uc;⟨a,h1,h3,h2⟩⟩
def qN(a:Addr)(i j:Nat):(a.add i).add j=a.add (i+j):=by
 unfold Addr.add;repeat' split
 all_goals simp_all
 all_goals omega
section
variable {P:Program} {t e:TypeId} {sz bytes:Nat}
def nY.sizeOf(T:nY P t e sz bytes)(w):(Go.sizeOf e).run P w=.ok sz w:=by
 have⟨i,z,hi,_,hs,_⟩:=T.hi;simp[Go.sizeOf,Go.typeInfo,Sem.run,program,hi,hs,bind,pure,Sem.bind,Sem.pure]
def c9.hi(T:nY P t e sz bytes){w s rs}(h:c9 w e sz s rs){k}{n:Int}(q:0<=n)(j:n<=rs.length):
  ∃s':Sl,(Instr.sliceAt t s.v none (some<|.int k n) none).run P w=.ok s'.v w/\c9 w e sz s' (rs.take n.toNat)/\∀b,s'.bg b↔s.bg b:=by
 rcases h.bf with⟨rfl,rfl⟩|⟨g,ga,c,o,u,p,hs,ht⟩
 have:n=0:=by simpa using(show n=0 by simp at j;omega)
 subst this
 refine⟨Sl.nil,?_,by simpa using c9.nil w e sz,fun _=>Iff.rfl⟩
 simp[Instr.sliceAt,Instr.slice,Sl.v,Sl.nil,run_underlying T.ht,Instr.sliceBounds,Instr.sliceBound,asIntOf,T.sizeOf]
 refine⟨⟨some ⟨g,0,none⟩,n.toNat,s.cap⟩,?_,⟨fun r a=>h.pP r<|List.mem_of_mem_take a,So,.inr ⟨g,ga,rfl,o,So,p,hs,?_⟩⟩,fun b=>?_⟩
 have d:n<=(s.cap:Int):=Om
 by_cases f:s.cap=0
 have:n=0:=Om
 subst this
 simp[Instr.sliceAt,Instr.slice,Sl.v,run_underlying T.ht,Instr.sliceBounds,Instr.sliceBound,asIntOf,T.sizeOf,c,f]
 simp[Instr.sliceAt,Instr.slice,Sl.v,run_underlying T.ht,Instr.sliceBounds,Instr.sliceBound,asIntOf,T.sizeOf,q,d,c,f,Addr.add]
 have i:(rs.take n.toNat).length=n.toNat:=So
 have m:rs=rs.take n.toNat++rs.drop n.toNat:=(List.take_append_drop _ _).symm
 have l:((rs.take n.toNat).flatten).length=n.toNat*sz:=by rw[vR fun r a=>h.pP r<|List.mem_of_mem_take a,i]
 have h3:n.toNat*sz<=rs.length*sz:=Nat.mul_le_mul_right _ Om
 calc ga.toList.take ((rs.take n.toNat).length*sz)=(ga.toList.take<|rs.length*sz).take (n.toNat*sz):=by rw[i,List.take_take,Nat.min_eq_left h3]
  _=((rs.take n.toNat).flatten++(rs.drop n.toNat).flatten).take (n.toNat*sz):=by rw[ht,<-List.flatten_append,<-m]
  _=(rs.take n.toNat).flatten:=by rw[<-l,List.take_left]
 simp[Sl.bg,c]
def gr.lo{S}(T:nY P t e sz bytes){w s rs}(h:gr S w sz s rs)(d:s.ay<=s.cap){k}{n:Int}(l:0<=n)(f:n<=rs.length):
  ∃s':Sl,(Instr.sliceAt t s.v (some<|.int k n) none none).run P w=.ok s'.v w/\gr S w sz s' (rs.drop n.toNat):=by
 have c:n<=(s.ay:Int):=by rw[h.ay];exact f
 refine⟨⟨if s.cap=n.toNat then s.a else s.a.map (·.add<|n.toNat*sz),s.ay-n.toNat,s.cap-n.toNat⟩,?_,⟨by simp[h.ay],fun i hi=>?_⟩⟩
 simp[Instr.sliceAt,Instr.slice,Sl.v,run_underlying T.ht,Instr.sliceBounds,Instr.sliceBound,asIntOf,T.sizeOf,l,c]
 have b:n.toNat+i<rs.length:=by simp at hi;omega
 obtain⟨a,⟨_,j,p,m,rfl⟩,hS,g⟩:=h.at_ (n.toNat+i) b
 refine⟨_,⟨Om,Uc,p.add<|n.toNat*sz,?_,rfl⟩,?_,?_⟩
 grind
 simpa[zD]using hS
 have:(p.add<|n.toNat*sz).add ((i:Int).toNat*sz)=p.add (((n.toNat+i:Nat):Int).toNat*sz):=by
  rw[qN,Int.toNat_natCast,Int.toNat_natCast,Nat.add_mul]
 rw[this,List.getElem_drop];exact g
end
def az.storeAt{p T}:∀(vs:List Value) (i a:Nat) (w:World) (c:List Value),az w p c T->a+i+vs.length<=c.length ->
  az (rE w (p.add a) i vs) p (c.take (a+i)++vs++c.drop (a+i+vs.length)) T
 |[],i,a,w,c,h,b=>by simpa[rE]using h
 |v :: vs,i,a,w,c,h,b=>by
  simp only[rE];have h1:=h.set (a+i) v;rw[<-qN]at h1;have h2:=az.storeAt vs (i+1) a _ _ h1 Uc;have e:(c.set (a+i) v).take (a+(i+1))++vs++(c.set (a+i) v).drop (a+(i+1)+vs.length)=c.take (a+i)++(v ::vs)++c.drop (a+i+(v ::vs).length):=by
   have d:a+i<c.length:=Uc;rw[List.drop_set_of_lt Om,<-Nat.add_assoc,List.take_succ_eq_append_getElem So,List.getElem_set_self,List.take_set_of_le<|Nat.le_refl _];simp only[List.length_cons,List.append_assoc,List.cons_append,List.nil_append];congr 4;omega
  rw[e]at h2;exact h2
def c9.set{w e}{sz:Nat}{s rs}(h:c9 w e sz s rs){i:Nat}(hi:i<rs.length){r}(c:r.length=sz){k:Int}(D:k=i):
  ∃a,At s k sz a/\(∀j,j<sz->zJ w (a.add j))/\∀w',w'=ib w a r->c9 w' e sz s (rs.set i r)/\aj s.bg w w':=by
 subst D
 rcases h.bf with⟨_,rfl⟩|⟨g,ga,t,M,A,G,hs,ht⟩
 simp at hi
 have B:az w ⟨g,0,none⟩ ga.toList e:=⟨rfl,Uc⟩
 have m:(i+1)*sz<=rs.length*sz:=Nat.mul_le_mul_right _ hi
 have y:rs.length*sz<=s.cap*sz:=Nat.mul_le_mul_right _ A
 have z:ga.toList.length=s.cap*sz:=Uc
 rw[Nat.succ_mul]at m
 refine⟨(⟨g,0,none⟩:Addr).add<|i*sz,⟨Om,by rw[h.ay];omega,⟨_,t,Sm⟩⟩,fun j O=>?_,?_⟩
 rw[qN];exact B.im Om
 intro w' f
 have x:=az.storeAt r 0 (i*sz) w _ B Uc
 have H:aj (·=g) w w':=by
  rw[f];have:=aj.ib w ((⟨g,0,none⟩:Addr).add<|i*sz) r;rw[zD]at this;exact this
 have v:rE w ((⟨g,0,none⟩:Addr).add<|i*sz) 0 r=w':=f.symm
 rw[v]at x
 refine⟨⟨?_,by rw[List.length_set];exact h.ay,.inr ⟨g,_,t,x.bg,Uc,G,?_,?_⟩⟩,H.mono fun b _ I=>⟨_,t,I.symm⟩⟩
 intro q u
 rcases List.mem_or_eq_of_mem_set u with n|rfl
 exact h.pP q n
 exact c
 grind
 have p:∀ q∈rs.set i r,q.length=sz:=by
  intro q u;rcases List.mem_or_eq_of_mem_set u with n|rfl;exact h.pP q n;exact c
 have K:rs=rs.take i++rs[i] ::rs.drop (i+1):=Uc
 have L:rs.set i r=rs.take i++r ::rs.drop (i+1):=Gd
 have l1:(rs.take i).flatten.length=i*sz:=by rw[vR fun r c=>h.pP r<|List.mem_of_mem_take c,List.length_take,Nat.min_eq_left Om]
 have P:=h.pP _<|List.getElem_mem hi
 have N:(rs.drop<|i+1).flatten.length=(rs.length-(i+1))*sz:=by rw[vR fun r c=>h.pP r<|List.mem_of_mem_drop c,List.length_drop]
 have d:ga.toList=rs.flatten++ga.toList.drop (rs.length*sz):=by rw[<-ht,List.take_append_drop]
 have o:rs.flatten=(rs.take i).flatten++(rs[i]++(rs.drop<|i+1).flatten):=Gd
 have C:ga.toList.take (i*sz)=(rs.take i).flatten:=Gd
 have F:ga.toList.drop (i*sz+sz)=(rs.drop<|i+1).flatten++ga.toList.drop (rs.length*sz):=by
  conv=>lhs;rw[d,o]
  have:i*sz+sz=((rs.take i).flatten++rs[i]).length:=Uc;rw[<-List.append_assoc,List.append_assoc,this,List.drop_left]
 have l:=vR p
 have J:(rs.set i r).flatten=(rs.take i).flatten++(r++(rs.drop<|i+1).flatten):=Uc
 have E:(rs.take i).flatten++r++((rs.drop<|i+1).flatten++ga.toList.drop (rs.length*sz))=(rs.set i r).flatten++ga.toList.drop (rs.length*sz):=Gd
 rw[<-l,Nat.add_zero,c,C,F,E]
 exact List.take_left
section
variable {P:Program} {t e:TypeId} {sz bytes:Nat}
def c9.bz(T:nY P t e sz bytes){zr}(A:∀i z,P.info? e=some i->i.zero=some z->z.cells=zr.toArray){k k' n}(C:bytes*n<=281474976710656)(p:n<=maxLen)(w):
  ∃w',(Instr.makeSlice t (.int k (n:Int))<|.int k' (n:Int)).run P w=.ok (Sl.mk (some ⟨w.heap.size,0,none⟩) n n).v w'/\c9 w' e sz ⟨some ⟨w.heap.size,0,none⟩,n,n⟩ (List.replicate n zr)/\aq w w':=by
 have⟨i,z,hi,o,hs,s,h⟩:=T.hi
 have f:=A i z hi o
 have c:zr.length=sz:=Uc
 have g:(n:Int)<=9223372036854775807:=by simp only[maxLen]at p;omega
 have l:(i.bytes:Int)*(n:Int)<=281474976710656:=Gd
 have d:=run_make (P:=P) w t e i z T.ht hi o k k' n n Om (Int.le_refl _) l g
 simp only[Int.toNat_natCast,hs]at d
 have q:fp w (.cells (madeCells z.cells<|n*sz) e) ⟨w.heap.size,0,none⟩ (w.alloc<|.cells (madeCells z.cells<|n*sz) e):=⟨rfl,rfl⟩
 refine⟨_,d,⟨fun r d=>Uc,Sm,.inr ⟨w.heap.size,_,rfl,q.EP,Sm,p,by simp[size_madeCells],?_⟩⟩,aj.bu q⟩
 have b:=T.pos
 have x:∀r∈List.replicate n zr,r.length=sz:=fun r d=>Uc
 rw[List.take_of_length_le<|by simp[size_madeCells]]
 apply List.ext_getElem?
 intro j
 by_cases B:j<n*sz
 have D:j/sz<n:=Nat.div_lt_of_lt_mul Gd
 have a:j%sz<sz:=Nat.mod_lt _ b
 have m:=Gv x (i:=j/sz) Uc (j:=j%sz) a
 have u:j/sz*sz+j%sz=j:=by rw[Nat.mul_comm];exact Nat.div_add_mod j sz
 rw[u]at m
 rw[m]
 have y:=h
 simp only[madeCells,f,Array.getElem?_toList,Array.getElem?_map,Array.getElem?_range,B,List.size_toArray,c,List.getElem_replicate,if_true,Option.map_some]
 rw[List.getElem?_eq_getElem Om]
 simp[c,a]
 rw[List.getElem?_eq_none (by simp[size_madeCells];omega),List.getElem?_eq_none Uc]
end
end Go.SE
end
section
namespace Go.SE
open Go.Instr
structure Dw(w:World)(m:Nat)(z:Int)(i:Nat)(es:List (Value×Value)):Prop where
 ex:∃c d,w.heap[m]?=some (.map c d)/\c.toList.map (fun e=>(e.key,e.val))=es/\c.toList.Pairwise (fun a b=>a.born<b.born)/\(∀e∈c.toList,e.born<d)/\∃e,c.toList[i]?=some e/\(e.born:Int)=z
def Dw.ext{F w w' m z i}{es:List (Value×Value)}(h:Dw w m z i es)(c:aj F w w')(e:¬F m):Dw w' m z i es:=by
 have⟨b,a,d,r⟩:=h.ex;exact⟨b,a,c.heap d e,r⟩
section
variable {P:Program} {T K E:TypeId} {S:Value->Prop} {w:World} {m:Nat} {es:List (Value×Value)}
def Dw.store{z i}(h:Dw w m z i es){k v0 v}(hi:es[i]?=some (k,v0)):
  ∃w',(Instr.entryStore T (.map<|some m) (.int .i64 z) v).run P w=.ok () w'/\pk w' m (es.set i (k,v))/\aj (·=m) w w':=by
 obtain⟨a,c,l,rfl,y,G,e,o,rfl⟩:=h.ex
 have B:(getObj m).run P w=.ok (.map a c) w:=by simp[getObj,Sem.run,l]
 have t:=uM l
 have⟨s,q⟩:=List.getElem?_eq_some_iff.1 o
 have d:i<a.size:=by simpa using s
 have x:a[i]?=some e:=by simpa using o
 have f:a[i]=e:=by simpa using q
 have p:e.key=k:=by
  rw[List.getElem?_map,o]at hi;have:=Option.some.inj hi;exact congrArg Prod.fst this
 have r:a.findIdx? (fun A=>(A.born:Int)==(e.born:Int))=some i:=by
  rw[Array.findIdx?_eq_some_iff_getElem];refine⟨d,by simp[f],fun j F=>?_⟩;have:=List.pairwise_iff_getElem.1 y j i So (by simpa using d) F;simp only[Array.getElem_toList,f]at this;simp only[beq_iff_eq];omega
 have D:(a.modify i fun e=>{ e with val:=v }).toList=a.toList.set i { e with val:=v }:=by
  rw[Array.toList_modify];apply List.ext_getElem?;intro n;rw[List.getElem?_modify,List.getElem?_set];by_cases g:i=n;grind;simp[g]
 have E:(a.toList.map (·.born)).Pairwise (·<·):=List.pairwise_map.2 y
 have u:(a.toList.set i { e with val:=v }).map (·.born)=a.toList.map (·.born):=by
  rw[List.map_set];apply List.ext_getElem?;intro n;rw[List.getElem?_set];by_cases g:i=n;subst g;simp[d,f];simp[g]
 refine⟨{ w with heap:=w.heap.setIfInBounds m (.map (a.modify i fun e=>{ e with val:=v }) c) },?_,⟨a.modify i fun e=>{ e with val:=v },c,by simp[t],?_,?_,?_⟩,⟨rfl,rfl,rfl,Gd,Sm,fun b _ C=>by simp[Array.getElem?_setIfInBounds_ne<|Ne.symm C]⟩⟩
 simp[Instr.entryStore,B,asInt,asIntOf,r,setObj,Sem.run,l]
 rw[D,List.map_set,p]
 grind
 grind
end
end Go.SE
end
section
namespace Go.SE
abbrev mq:=Addr×List Value×TypeId
def VZ:Obj->Bool
 |.cells ..=>true
 |_=>false
structure jy(Z:List (Nat×Obj))(H:Nat->Prop)(w:World)(l:List mq):Prop where
 box:∀x∈l,az w x.1 x.2.1 x.2.2
 wk:∀x∈l,H x.1.block
 ne:l.Pairwise fun x y=>x.1.block≠y.1.block
 fz:∀x∈Z,H x.1/\w.heap[x.1]?=some x.2/\VZ x.2=false
abbrev HB(H:Nat->Prop)(w:World)(l:List mq):Prop:=jy [] H w l
structure au(w0:World)(H:Nat->Prop)(w:World)(a:Nat->Prop)(w':World):Prop where
 ext:aj a w w'
 sub:∀b,H b->a b
 bu:∀b,a b->H b\/w.heap.size<=b
 old:∀b,a b->w0.heap.size<=b
 lt:∀b,a b->b<w'.heap.size
 ie:w0.heap.size<=w'.heap.size
structure av(H:Nat->Prop)(w w':World):Prop where
 size:w.heap.size<=w'.heap.size
 ly:∀b,b<w.heap.size->H b->w'.heap[b]?=w.heap[b]?
def aj.ff{F H w w'}(h:aj F w w')(c:∀b,H b->¬F b):av H w w':=⟨h.size,fun b a d=>h.ly b a<|c b d⟩
def aj.dy{H w w'}(h:aq w w'):av H w w':=h.ff fun _ _ h=>h
def av.refl{H}(w):av H w w:=⟨Nat.le_refl _,fun _ _ _=>rfl⟩
section
variable {w0 w w1 w2 wv:World} {H H1 H2 Hv:Nat->Prop} {Z:List (Nat×Obj)} {l l':List mq}
def au.start(w0):au w0 bl w0 bl w0:=⟨aj.refl _,fun _ h=>h,fun _ h=>.inl h,fun _ h=>h.elim,fun _ h=>h.elim,Nat.le_refl _⟩
def HB.nil(H w):HB H w []:=⟨fun _ h=>Uc,fun _ h=>Uc,List.Pairwise.nil,fun _ h=>Uc⟩
def au.jj(h:au w0 Hv wv H w):au w0 H w H w:=⟨aj.refl _,fun _ h=>h,fun _ h=>.inl h,h.old,h.lt,h.ie⟩
def au.jg(h:au w0 Hv wv H w)(a:av H w w1):au w0 H w1 H w1:=
 ⟨aj.refl _,fun _ h=>h,fun _ h=>.inl h,h.old,fun b c=>Nat.lt_of_lt_of_le (h.lt b c) a.size,Nat.le_trans h.ie a.size⟩
def au.trans(h:au w0 Hv wv H w)(k:au w0 H w H1 w1):au w0 Hv wv H1 w1:=
 ⟨(h.ext.mono fun b _ a=>k.sub b a).trans k.ext,fun b a=>k.sub b<|h.sub b a,fun b a=>(k.bu b a).elim (fun a=>h.bu b a) fun a=>.inr<|Nat.le_trans h.ext.size a,k.old,k.lt,k.ie⟩
def au.pure(h:au w0 Hv wv H w)(E:aq w w1):au w0 Hv wv H w1:=
 ⟨h.ext.mh E,h.sub,h.bu,h.old,fun b a=>Nat.lt_of_lt_of_le (h.lt b a) E.size,Nat.le_trans h.ie E.size⟩
def au.drew(h:au w0 Hv wv H w):au w0 Hv wv H w.drew:=h.pure<|aj.drew w
def jy.ff(a:jy Z H w l)(b:av H w w1):jy Z H w1 l:=
 ⟨fun x hx=>⟨(a.box x hx).Ge,by rw[b.ly _ (a.box x hx).lt<|a.wk x hx];exact(a.box x hx).bg⟩,a.wk,a.ne,fun x hx=>⟨(a.fz x hx).1,by rw[b.ly _ (uM (a.fz x hx).2.1) (a.fz x hx).1];exact(a.fz x hx).2.1,(a.fz x hx).2.2⟩⟩
def jy.pure(a:jy Z H w l)(E:aq w w1):jy Z H w1 l:=a.ff E.dy
def jy.drew(a:jy Z H w l):jy Z H w.drew l:=a.pure<|aj.drew w
def jy.sub(a:jy Z H w l)(b:l'.Sublist l):jy Z H w l':=⟨fun x hx=>a.box x<|b.subset hx,fun x hx=>a.wk x<|b.subset hx,a.ne.sublist b,a.fz⟩
def au.alloc{c T p}(h:au w0 Hv wv H w)(a:jy Z H w l)(e:fp w (.cells c.toArray T) p w1):∃H1,au w0 Hv wv H1 w1/\jy Z H1 w1 ((p,c,T) ::l):=by
 have E:aq w w1:=aj.bu e;have f:=e.gp;have B:=az.fi e;refine⟨fun b=>H b\/b=p.block,⟨(h.ext.mh E).mono fun b _ a=>.inl a,fun b a=>.inl<|h.sub b a,?_,?_,?_,Nat.le_trans h.ie E.size⟩,?_⟩;rintro b (a|rfl);exact h.bu b a;right;rw[f];exact h.ext.size;rintro b (a|rfl);exact h.old b a;rw[f];exact h.ie;rintro b (a|rfl);exact Nat.lt_of_lt_of_le (h.lt b a) E.size;exact B.lt;have d:=a.pure E;refine⟨?_,?_,?_,fun x hx=>⟨.inl (d.fz x hx).1,(d.fz x hx).2⟩⟩;intro x hx;rcases List.mem_cons.1 hx with rfl|hx;exact B;exact d.box x hx;intro x hx;rcases List.mem_cons.1 hx with rfl|hx;exact .inr rfl;exact .inl<|d.wk x hx;refine List.pairwise_cons.2 ⟨fun x hx=>?_,d.ne⟩;have:=(a.box x hx).lt;show p.block≠x.1.block;omega
def jy.at(a:jy Z H w l){i:Nat}{p c T}(hi:l[i]?=some (p,c,T)):az w p c T:=a.box _<|List.mem_of_getElem? hi
def jy.cell(a:jy Z H w l)(i j:Nat){p c T v}(hi:l[i]?=some (p,c,T))(b:c[j]?=some v):w.cell? (p.add j)=some v:=(a.at hi).cell b
def jy.row(b:jy Z H w l)(i j n:Nat){p c vs T}(hi:l[i]?=some (p,c,T))(d:(c.drop j).take n=vs):Row w (p.add j) vs:=by
 intro k e;subst d;have a:k<n/\j+k<c.length:=Uc;rw[qN,List.getElem?_take,if_pos a.1,List.getElem?_drop,List.getElem?_eq_getElem a.2];exact(b.at hi).cell<|List.getElem?_eq_getElem a.2
def jy.im(a:jy Z H w l)(i j:Nat){p c T}(hi:l[i]?=some (p,c,T))(b:decide (j<c.length)=true):zJ w (p.add j):=(a.at hi).im<|of_decide_eq_true b
def jy.uy(a:jy Z H w l)(i j n:Nat){p c T}(hi:l[i]?=some (p,c,T))(d:decide (j+n<=c.length)=true):∀k,k<n->zJ w ((p.add j).add k):=fun k b=>by
 rw[qN];exact(a.at hi).im Gd
def jy.put{i:Nat}{p:Addr}{c o:List Value}{T:TypeId}(a:jy Z H w l)(h:au w0 Hv wv H w)(hi:l[i]?=some (p,c,T))(hB:az w1 p o T)(m:aj (·=p.block) w w1)(y:l.set i (p,o,T)=l'):au w0 Hv wv H w1/\jy Z H w1 l':=by
 have d:=List.mem_of_getElem? hi;refine⟨⟨h.ext.ft m fun b _ e=>by subst e;exact a.wk _ d,h.sub,h.bu,h.old,fun b a=>Nat.lt_of_lt_of_le (h.lt b a) m.size,Nat.le_trans h.ie m.size⟩,?_⟩;subst y;have⟨s,q⟩:=List.getElem?_eq_some_iff.1 hi;have j:∀k x,(l.set i (p,o,T))[k]?=some x->(k=i/\x=(p,o,T))\/(k≠i/\l[k]?=some x):=by
  intro k x hx;rw[List.getElem?_set]at hx;by_cases f:i=k;grind;grind
 have r:∀k x,k≠i->l[k]?=some x->x.1.block≠p.block:=by
  intro k x f hx;have⟨u,t⟩:=List.getElem?_eq_some_iff.1 hx;have z:=List.pairwise_iff_getElem.1 a.ne;rcases Nat.lt_or_gt_of_ne f with v|v;grind;grind
 refine⟨?_,?_,?_,fun x hx=>⟨(a.fz x hx).1,m.heap (a.fz x hx).2.1 fun e=>?_,(a.fz x hx).2.2⟩⟩;intro x hx;have⟨k,f⟩:=List.getElem?_of_mem hx;rcases j k x f with⟨_,rfl⟩|⟨n,g⟩;exact hB;exact(a.box x<|List.mem_of_getElem? g).ext m<|r k x n g;intro x hx;have⟨k,f⟩:=List.getElem?_of_mem hx;rcases j k x f with⟨_,rfl⟩|⟨n,g⟩;have:=a.wk _ d;exact this;exact a.wk x<|List.mem_of_getElem? g;have e:(l.set i (p,o,T)).map (fun x=>x.1.block)=l.map (fun x=>x.1.block):=by
  rw[List.map_set];apply List.ext_getElem?;intro k;rw[List.getElem?_set];by_cases f:i=k;subst f;simp[s,q];simp[f]
 have:=List.pairwise_map.2 a.ne;exact List.pairwise_map.1<|e▸this;have h1:=(a.box _ d).bg;have h2:=(a.fz x hx).2;simp only at h1;rw[e,h1]at h2;have h3:=Option.some.inj h2.1;rw[<-h3]at h2;cases h2.2
def jy.set{i:Nat}(j:Nat){p c v T}(a:jy Z H w l)(h:au w0 Hv wv H w)(hi:l[i]?=some (p,c,T))(b:l.set i (p,c.set j v,T)=l'):au w0 Hv wv H (w.setCell (p.add j) v)/\jy Z H (w.setCell (p.add j) v) l':=
 a.put h hi ((a.at hi).set j v) (by have:=aj.setCell (w:=w) (p.add j) v;rw[zD]at this;exact this) b
def jy.store{i:Nat}(j:Nat){p c vs T}(a:jy Z H w l)(h:au w0 Hv wv H w)(hi:l[i]?=some (p,c,T))(d:decide (j+vs.length<=c.length)=true)(b:l.set i (p,c.take j++vs++c.drop (j+vs.length),T)=l'):au w0 Hv wv H (ib w (p.add j) vs)/\jy Z H (ib w (p.add j) vs) l':=
 a.put h hi (by have:=az.storeAt vs 0 j w c (a.at hi) Gd;simpa[ib]using this) (by have:=aj.ib w (p.add j) vs;rw[zD]at this;exact this) b
def aj.bh{F}(E:aj F w0 w)(h:au w0 H w H1 w1):aj F w0 w1:=E.ft h.ext fun b c a=>absurd (h.old b a) Om
def au.mn(h:au w0 H w H1 w1){G:Nat->Prop}(a:∀b,G b->b<w.heap.size/\¬H b):∀b,G b->¬H1 b:=fun b c h1=>(h.bu b h1).elim (a b c).2 Gd
def au.N8(h:au w0 H w H1 w1){G:Nat->Prop}(a:∀b,G b->b<w0.heap.size):∀b,G b->¬H1 b:=fun b c h1=>Oi (a b c)<|h.old b h1
end
end Go.SE
namespace Go.SE
section
variable {H:Nat->Prop} {w:World} {a:Addr}
def av.setCell{v}(h:¬H a.block):av H w (w.setCell a v):=(aj.setCell a v).ff fun b c e=>h<|e▸c
def av.ib{vs}(h:¬H a.block):av H w (SE.ib w a vs):=(aj.ib w a vs).ff fun b c e=>h<|e▸c
def jy.drop{Z:List (Nat×Obj)}{l}(a:jy Z H w l)(n):jy Z H w (l.drop n):=a.sub<|List.drop_sublist n l
end
end Go.SE
namespace Go.SE
end Go.SE
end
section
namespace Go.SE
structure ji(H:Nat->Prop)(w:World)(e:TypeId)(sz:Nat)(s:Sl)(rs:List (List Value)):Prop where
 fg:c9 w e sz s rs
 lf:∀b,s.bg b->¬H b
section
variable {w0 w w1 w2 wv:World} {H H1 Hv:Nat->Prop} {e:TypeId} {sz:Nat} {s:Sl} {rs:List (List Value)}
def ji.bh(h:ji H w e sz s rs)(hs:au w0 H w H1 w1):ji H1 w1 e sz s rs:=
 have c:=hs.mn fun b a=>⟨h.fg.lt a,h.lf b a⟩
 ⟨h.fg.ext hs.ext c,c⟩
def ji.pure(h:ji H w e sz s rs)(E:aq w w1):ji H w1 e sz s rs:=⟨h.fg.pure E,h.lf⟩
def ji.ext{F}(h:ji H w e sz s rs)(E:aj F w w1)(a:∀b,s.bg b->¬F b):ji H w1 e sz s rs:=⟨h.fg.ext E a,h.lf⟩
def ji.nil(H w):ji H w e sz Sl.nil []:=⟨c9.nil _ _ _,fun b h=>by have⟨a,h,_⟩:=h;cases h⟩
def ji.ay(h:ji H w e sz s rs):s.ay=rs.length:=h.fg.ay
def c9.mv{α:Type}{f:α->List Value}{xs:List α}(h:c9 w e sz s (xs.map f)){j}(b:j<xs.length):∃a,At s j sz a/\Row w a (f xs[j]):=by
 have⟨a,h1,h2,_⟩:=h.at (i:=j) Om Uc;exact⟨a,h1,Uc⟩
def ji.mv{α:Type}{f:α->List Value}{xs:List α}(h:ji H w e sz s (xs.map f)){j}(b:j<xs.length):∃a,At s j sz a/\Row w a (f xs[j]):=h.fg.mv b
def gr.mv{S}{α:Type}{f:α->List Value}{xs:List α}(h:gr S w sz s (xs.map f)){j}(b:j<xs.length):∃a,At s j sz a/\S a.block/\Row w a (f xs[j]):=by
 have⟨a,h1,h2,h3⟩:=h.at_ j Uc;exact⟨a,h1,h2,Uc⟩
def y9{a v}(h:Row w a [v]):w.cell? a=some v:=by
 have:=h 0 Sm;simpa[Addr.add]using this
def gr.bh{S}(h:gr S w sz s rs)(hs:au w0 H w H1 w1)(c:∀b,S b->b<w0.heap.size):gr S w1 sz s rs:=h.ext hs.ext fun b a h1=>Oi (c b a)<|hs.old b h1
def au.first(h:au w0 bl w0 H1 w1):aq w0 w1:=(aj.refl w0).bh h
def ji.append{P t ty bytes}(T:nY P t e sz bytes)(h:ji H w e sz s rs)(hs:au w0 Hv wv H w){p c r}(k:Row w p r)(n:r.length=sz)(h1:r.all vC=true)(f:(rs.length+1)*bytes<=140737488355328)(m:rs.length+1<=maxLen):
  ∃s' w',(Builtin.append_ #[t,t] ty #[s.v,(Sl.mk (some p) 1 c).v]).run P w=.ok s'.v w'/\ji H w' e sz s' (rs++[r])/\aj s.bg w w'/\av H w w'/\(∀b,s'.bg b->s.bg b\/w.heap.size<=b):=by
 have⟨s',w',g,l,i,a⟩:=h.fg.append T (ty:=ty) (c:=c) k n h1 f m
 exact⟨s',w',g,⟨l,fun b f=>(a b f).elim (h.lf b) fun j d=>Oh<|hs.lt b d⟩,i,i.ff fun b d hS=>h.lf b hS d,a⟩
def MF(h:ji H w e sz s rs){w'}(E:aq w0 w)(c:aj s.bg w w')(a:∀b,s.bg b->w0.heap.size<=b):aq w0 w':=E.ft c Gd
end
def zI{j n:Nat}(h:j<n)(a:n<=9223372036854775807):IntKind.i64.wrap ((j:Int)+1)=((j+1:Nat):Int):=by
 rw[IntWalk.i64_in _ Om];omega
def vT{j n:Nat}(h:j<n):((n:Int)-((j+1:Nat):Int)).toNat<((n:Int)-(j:Int)).toNat:=Om
def vA{j n m:Nat}(a:m=n)(h:decide ((j:Int)<(m:Int))=true):j<n:=Uc
def vH{j n m:Nat}(a:m=n)(b:j<=n)(h:decide ((j:Int)<(m:Int))=false):j=n:=Uc
end Go.SE
namespace Go.SE
end Go.SE
namespace Go.SE
section
variable {w0 w w1:World} {H H1:Nat->Prop}
def ND{a v}(h:w.cell? a=some v)(b:¬H a.block)(hs:au w0 H w H1 w1):w1.cell? a=some v:=
 hs.ext.cell h fun h1=>(hs.bu _ h1).elim b fun h2=>Oh<|World.block_lt_of_cell? w a h
def L0{a v vs}(h:Row w a (v ::vs))(c:¬H a.block)(hs:au w0 H w H1 w1):Row w1 a (v ::vs):=
 hs.ext.row h (fun h1=>(hs.bu _ h1).elim c (fun h2=>by
  have b:=h 0 Sm;have:=World.block_lt_of_cell? w (a.add 0) b;rw[zD]at this;omega))
def AS{P ax C}{loud free:Nat->Bool}{Q Q'}(b:∀ρ w,Q ρ w->Q' ρ w):∀{fuel:Nat} {a:Array Bool} {ρ:gb} {w:World},ed P ax C loud free Q fuel a ρ w->ed P ax C loud free Q' fuel a ρ w
 |0,_,_,_,h=>⟨h.1,b _ _ h.2⟩
 |fuel+1,a,ρ,w,h=>by
  have key:∀i ρ w,dv P ax C loud free i (ed P ax C loud free Q fuel<|a.setIfInBounds i true) ρ w->dv P ax C loud free i (ed P ax C loud free Q' fuel<|a.setIfInBounds i true) ρ w:=by
   intro i ρ w h;unfold dv at h|-;split;rename_i c;simp only[c]at h;exact AS b h;rename_i o c;simp only[c]at h;split;rename_i d;rw[if_pos d]at h;split;rename_i f;rw[if_pos f]at h;exact tR h fun v w' ⟨g,k⟩=>⟨g,AS b k⟩;rename_i f;rw[if_neg f]at h;have⟨v,h1,h2⟩:=h;exact⟨v,h1,AS b h2⟩;rename_i d;rw[if_neg d]at h;exact AS b h
  rcases h with⟨i,h1,h2,h3,j⟩|⟨l,h⟩;exact .inl ⟨i,h1,h2,h3,key _ _ _ j⟩;exact .inr ⟨fun e=>b _ _<|l e,fun i hi=>key _ _ _<|h i hi⟩
end
end Go.SE
namespace Go.SE
section
variable {P:Program} {t e:TypeId} {sz bytes:Nat}
def c9.Fp(T:nY P t e sz bytes){w s rs}(h:c9 w e sz s rs){k}{n:Int}(q:0<=n)(j:n<=rs.length):
  ∃s':Sl,(∀w:World,(Instr.sliceAt t s.v none (some<|.int k n) none).run P w=.ok s'.v w)/\c9 w e sz s' (rs.take n.toNat)/\∀b,s'.bg b↔s.bg b:=by
 rcases h.bf with⟨rfl,rfl⟩|⟨g,ga,c,o,u,p,hs,ht⟩
 have:n=0:=by simpa using(show n=0 by simp at j;omega)
 subst this
 refine⟨Sl.nil,fun w=>?_,by simpa using c9.nil w e sz,fun _=>Iff.rfl⟩
 simp[Instr.sliceAt,Instr.slice,Sl.v,Sl.nil,run_underlying T.ht,Instr.sliceBounds,Instr.sliceBound,asIntOf,T.sizeOf]
 refine⟨⟨some ⟨g,0,none⟩,n.toNat,s.cap⟩,fun w=>?_,⟨fun r a=>h.pP r<|List.mem_of_mem_take a,So,.inr ⟨g,ga,rfl,o,So,p,hs,?_⟩⟩,fun b=>?_⟩
 have d:n<=(s.cap:Int):=Om
 by_cases f:s.cap=0
 have:n=0:=Om
 subst this
 simp[Instr.sliceAt,Instr.slice,Sl.v,run_underlying T.ht,Instr.sliceBounds,Instr.sliceBound,asIntOf,T.sizeOf,c,f]
 simp[Instr.sliceAt,Instr.slice,Sl.v,run_underlying T.ht,Instr.sliceBounds,Instr.sliceBound,asIntOf,T.sizeOf,q,d,c,f,Addr.add]
 have i:(rs.take n.toNat).length=n.toNat:=So
 have m:rs=rs.take n.toNat++rs.drop n.toNat:=(List.take_append_drop _ _).symm
 have l:((rs.take n.toNat).flatten).length=n.toNat*sz:=by rw[vR fun r a=>h.pP r<|List.mem_of_mem_take a,i]
 have h3:n.toNat*sz<=rs.length*sz:=Nat.mul_le_mul_right _ Om
 calc ga.toList.take ((rs.take n.toNat).length*sz)=(ga.toList.take<|rs.length*sz).take (n.toNat*sz):=by rw[i,List.take_take,Nat.min_eq_left h3]
  _=((rs.take n.toNat).flatten++(rs.drop n.toNat).flatten).take (n.toNat*sz):=by rw[ht,<-List.flatten_append,<-m]
  _=(rs.take n.toNat).flatten:=by rw[<-l,List.take_left]
 simp[Sl.bg,c]
end
end Go.SE
end
section
namespace Go.SE
open Go.Instr
section
variable {P:Program} {T K E:TypeId} {S:Value->Prop} {w:World} {m:Nat} {es:List (Value×Value)}
structure sY(w:World)(m:Nat)(ks:List Value)(B:Int):Prop where
 ex:∃es,pk w m es/\es.map Prod.fst=ks/\∀p∈es,∃n,p.2=.int .i64 n/\1<=n/\n<=B
 qu:ks.Nodup
def sY.ext{F w w' m ks B}(h:sY w m ks B)(a:aj F w w')(b:¬F m):sY w' m ks B:=
 ⟨let ⟨es,h1,h2⟩:=h.ex;⟨es,h1.ext a b,h2⟩,h.qu⟩
def sY.lt{w m ks B}(h:sY w m ks B):m<w.heap.size:=let ⟨_,h1,_⟩:=h.ex;h1.lt
def sY.fi{w w' p}(h:fp w (.map #[] 0) p w')(B):sY w' p.block [] B:=⟨⟨[],pk.fi h,rfl,Sm⟩,List.nodup_nil⟩
def sY.mono{w m ks B B'}(h:sY w m ks B)(hB:B<=B'):sY w m ks B':=
 ⟨let ⟨es,h1,h2,h3⟩:=h.ex;⟨es,h1,h2,fun p a=>let ⟨n,h4,h5,h6⟩:=h3 p a;⟨n,h4,h5,Om⟩⟩,h.qu⟩
def sY.iv{ks B}(h:sY w m ks B)(j:P.underlying T=some (.map K E))(c:sj P K S)(hS:∀k∈ks,S k){k}(f:S k)(e:∀w,(zeroValue E).run P w=.ok (.int .i64 0) w):
  ∃v,(Instr.lookup T (.map<|some m) k false).run P w=.ok (.int .i64 v) w/\((k∈ks/\1<=v/\v<=B)\/(k∉ks/\v=0)):=by
 obtain⟨es,g,rfl,d⟩:=h.ex
 rcases g.lookup j c Gd f (e w) false with⟨o,a⟩|⟨i,v,hi,a⟩
 refine⟨0,a,.inr ⟨fun l=>?_,rfl⟩⟩
 obtain⟨p,b,rfl⟩:=List.mem_map.1 l
 exact o p b rfl
 obtain⟨n,rfl,h1,h2⟩:=d _<|List.mem_of_getElem? hi
 exact⟨n,a,.inl ⟨List.mem_map.2 ⟨_,List.mem_of_getElem? hi,rfl⟩,h1,h2⟩⟩
end
end Go.SE
end
section
namespace Go.SE
abbrev vi (n:Int):Value:=.int .i64 n
abbrev vu (n:Int):Value:=.int .u64 n
abbrev vs (n:ByteArray):Value:=.string n
abbrev vb (n:Bool):Value:=.bool n
abbrev vp (n:Option Addr):Value:=.pointer n
abbrev ve:Value:=.string ⟨#[]⟩
abbrev Aa (x0:Int) (x1:Int) (x2:Int) (x3:Int) (x4:ByteArray) (x5:Sl):Value:=.agg #[vi x0,vi x1,vi x2,vu x3,vs x4,x5.v]
abbrev Ab (x0:Int) (x1:Int) (x2:Int) (x3:Int) (x4:ByteArray) (x5:Int) (x6:Int):List Value:=[vi x0,vi x1,vi x2,vu x3,vs x4,vi x5,vi x6]
abbrev Ac (x0:Int) (x1:Int) (x2:Int) (x3:ByteArray) (x4:Bool):List Value:=[vi x0,vi x1,vu x2,vs x3,vb x4]
abbrev Ae (x0:Int) (x1:Int) (x2:Int) (x3:Int) (x4:ByteArray) (x5:Int) (x6:Int):Value:=.agg #[vi x0,vi x1,vi x2,vu x3,vs x4,vi x5,vi x6]
abbrev Af (x0:Int) (x1:Int) (x2:Int) (x3:Int) (x4:ByteArray) (x5:Sl):List Value:=[vi x0,vi x1,vi x2,vu x3,vs x4,x5.v]
abbrev Ag (x0:Int) (x1:Int) (x2:Int) (x3:ByteArray) (x4:Bool):Value:=.agg #[vi x0,vi x1,vu x2,vs x3,vb x4]
abbrev Ah (x0:Bool) (x1:Bool) (x2:Bool) (x3:Bool) (x4:Int):List Value:=[vb x0,vb x1,vb x2,vb x3,vi x4]
abbrev Aj (x0:Int) (x1:Int) (x2:Int) (x4:Bool):List Value:=[vi x0,vi x1,vu x2,ve,vb x4]
abbrev Ak (x0:Bool) (x1:Bool) (x2:Bool) (x3:Bool) (x4:Int) (x5:Bool) (x6:Bool) (x7:Bool) (x8:Bool) (x9:Int) (x10:Bool) (x11:Bool) (x12:Bool) (x13:Bool) (x14:Int) (x15:Bool) (x16:Bool) (x17:Bool) (x18:Bool) (x19:Int) (x20:Bool) (x21:Bool) (x22:Bool) (x23:Bool) (x24:Int) (x25:Bool) (x26:Bool) (x27:Bool) (x28:Bool) (x29:Int) (x30:Bool) (x31:Bool) (x32:Bool) (x33:Bool) (x34:Int) (x35:Bool) (x36:Bool) (x37:Bool) (x38:Bool) (x39:Int) (x40:Bool) (x41:Bool) (x42:Bool) (x43:Bool) (x44:Int) (x45:Bool) (x46:Bool) (x47:Bool) (x48:Bool) (x49:Int):List Value:=[vb x0,vb x1,vb x2,vb x3,vi x4,vb x5,vb x6,vb x7,vb x8,vi x9,vb x10,vb x11,vb x12,vb x13,vi x14,vb x15,vb x16,vb x17,vb x18,vi x19,vb x20,vb x21,vb x22,vb x23,vi x24,vb x25,vb x26,vb x27,vb x28,vi x29,vb x30,vb x31,vb x32,vb x33,vi x34,vb x35,vb x36,vb x37,vb x38,vi x39,vb x40,vb x41,vb x42,vb x43,vi x44,vb x45,vb x46,vb x47,vb x48,vi x49]
abbrev cl:=Calls Go.Proofs.Tryz.prog
abbrev li (w:World)(a:Addr)(Q:Int→Prop):Prop:=∃v,w.cell? a=some (.int .i64 v)∧Q v
abbrev lu (w:World)(a:Addr)(Q:Int→Prop):Prop:=∃v,w.cell? a=some (.int .u64 v)∧Q v
abbrev lp (w:World)(a:Addr)(Q:Option Addr→Prop):Prop:=∃v,w.cell? a=some (.pointer v)∧Q v
abbrev ls (w:World)(a:Addr)(Q:ByteArray→Prop):Prop:=∃v,w.cell? a=some (.string v)∧Q v
abbrev lb (w:World)(a:Addr)(Q:Bool→Prop):Prop:=∃v,w.cell? a=some (.bool v)∧Q v
abbrev lx (w:World)(a:Addr)(Q:Sl→Prop):Prop:=∃v,w.cell? a=some (Sl.v v)∧Q v
abbrev XA (Q:Sl→World→Prop):Ending→World→Prop:=fun e w=>∃a0,e=.returned (a0.v)∧Q a0 w
abbrev XB (Q:Int→World→Prop):Ending→World→Prop:=fun e w=>∃a0,e=.returned (.int .i64 a0)∧Q a0 w
abbrev XC (Q:Bool→World→Prop):Ending→World→Prop:=fun e w=>∃a0,e=.returned (.bool a0)∧Q a0 w
abbrev XD (Q:(Option Addr)→World→Prop):Ending→World→Prop:=fun e w=>∃a0,e=.returned (.pointer a0)∧Q a0 w
abbrev XE (Q:Int→Bool→World→Prop):Ending→World→Prop:=fun e w=>∃a0 a1,e=.returned (.tuple #[.int .i64 a0,.bool a1])∧Q a0 a1 w
abbrev XF (Q:Sl→Bool→World→Prop):Ending→World→Prop:=fun e w=>∃a0 a1,e=.returned (.tuple #[a0.v,.bool a1])∧Q a0 a1 w
abbrev XG (Q:World→Prop):Ending→World→Prop:=fun e w=>e=.returned (.tuple #[])∧Q w
abbrev XH (Q:Int→Int→Int→Int→ByteArray→Int→Int→Bool→World→Prop):Ending→World→Prop:=fun e w=>∃a0 a1 a2 a3 a4 a5 a6 a7,e=.returned (.tuple #[(Ae a0 a1 a2 a3 a4 a5 a6),.bool a7])∧Q a0 a1 a2 a3 a4 a5 a6 a7 w
abbrev XI (Q:Value→World→Prop):Ending→World→Prop:=fun e w=>∃a0,e=.returned (a0)∧Q a0 w
abbrev XJ (Q:Int→Int→Bool→Bool→World→Prop):Ending→World→Prop:=fun e w=>∃a0 a1 a2 a3,e=.returned (.tuple #[.int .i64 a0,.int .i64 a1,.bool a2,.bool a3])∧Q a0 a1 a2 a3 w
abbrev XK (Q:Int→Int→World→Prop):Ending→World→Prop:=fun e w=>∃a0 a1,e=.returned (.tuple #[.int .i64 a0,.int .i64 a1])∧Q a0 a1 w
abbrev XL (Q:Int→Int→Int→Int→ByteArray→Int→Int→World→Prop):Ending→World→Prop:=fun e w=>∃a0 a1 a2 a3 a4 a5 a6,e=.returned ((Ae a0 a1 a2 a3 a4 a5 a6))∧Q a0 a1 a2 a3 a4 a5 a6 w
abbrev XM (Q:Bool→Bool→Bool→Bool→Int→Int→World→Prop):Ending→World→Prop:=fun e w=>∃a0 a1 a2 a3 a4 a5,e=.returned (.tuple #[.agg #[.bool a0,.bool a1,.bool a2,.bool a3,.int .i64 a4],.int .i64 a5])∧Q a0 a1 a2 a3 a4 a5 w
abbrev XN (Q:Int→Int→Int→World→Prop):Ending→World→Prop:=fun e w=>∃a0 a1 a2,e=.returned (.tuple #[.int .i64 a0,.int .i64 a1,.int .i64 a2])∧Q a0 a1 a2 w
abbrev XO (Q:Bool→Bool→Bool→Bool→Int→Bool→World→Prop):Ending→World→Prop:=fun e w=>∃a0 a1 a2 a3 a4 a5,e=.returned (.tuple #[.agg #[.bool a0,.bool a1,.bool a2,.bool a3,.int .i64 a4],.bool a5])∧Q a0 a1 a2 a3 a4 a5 w
abbrev XP (Q:Int→Int→Int→Int→ByteArray→Int→Int→Bool→World→Prop):Ending→World→Prop:=fun e w=>∃a0 a1 a2 a3 a4 a5 a6 a7,e=.returned (.tuple #[.agg #[.int .i64 a0,.int .i64 a1,.int .i64 a2,.int .u64 a3,.string a4,.int .i64 a5,.int .i64 a6],.bool a7])∧Q a0 a1 a2 a3 a4 a5 a6 a7 w
abbrev XQ (Q:(Option Nat)→World→Prop):Ending→World→Prop:=fun e w=>∃a0,e=.returned (.map a0)∧Q a0 w
abbrev XR (Q:Sl→Int→World→Prop):Ending→World→Prop:=fun e w=>∃a0 a1,e=.returned (.tuple #[a0.v,.int .i64 a1])∧Q a0 a1 w
abbrev XS (Q:Int→Int→Int→Int→ByteArray→Int→Int→World→Prop):Ending→World→Prop:=fun e w=>∃a0 a1 a2 a3 a4 a5 a6,e=.returned (.agg #[.int .i64 a0,.int .i64 a1,.int .i64 a2,.int .u64 a3,.string a4,.int .i64 a5,.int .i64 a6])∧Q a0 a1 a2 a3 a4 a5 a6 w
abbrev XT (Q:Int→Int→Int→Int→ByteArray→Sl→World→Prop):Ending→World→Prop:=fun e w=>∃a0 a1 a2 a3 a4 a5,e=.returned ((Aa a0 a1 a2 a3 a4 a5))∧Q a0 a1 a2 a3 a4 a5 w
abbrev XU (Q:Int→Int→Int→ByteArray→Bool→World→Prop):Ending→World→Prop:=fun e w=>∃a0 a1 a2 a3 a4,e=.returned ((Ag a0 a1 a2 a3 a4))∧Q a0 a1 a2 a3 a4 w
abbrev XV (Q:ByteArray→Int→World→Prop):Ending→World→Prop:=fun e w=>∃a0 a1,e=.returned (.tuple #[.string a0,.int .i64 a1])∧Q a0 a1 w
abbrev XW (Q:Int→Int→Int→ByteArray→Bool→Bool→World→Prop):Ending→World→Prop:=fun e w=>∃a0 a1 a2 a3 a4 a5,e=.returned (.tuple #[(Ag a0 a1 a2 a3 a4),.bool a5])∧Q a0 a1 a2 a3 a4 a5 w
abbrev XY (Q:Int→ByteArray→World→Prop):Ending→World→Prop:=fun e w=>∃a0 a1,e=.returned (.tuple #[.int .u64 a0,.string a1])∧Q a0 a1 w
abbrev XZ (Q:Int→Int→Int→Int→ByteArray→Sl→World→Prop):Ending→World→Prop:=fun e w=>∃a0 a1 a2 a3 a4 a5,e=.returned (.agg #[.int .i64 a0,.int .i64 a1,.int .i64 a2,.int .u64 a3,.string a4,a5.v])∧Q a0 a1 a2 a3 a4 a5 w
abbrev YA (Q:Int→Int→Int→ByteArray→Bool→World→Prop):Ending→World→Prop:=fun e w=>∃a0 a1 a2 a3 a4,e=.returned (.agg #[.int .i64 a0,.int .i64 a1,.int .u64 a2,.string a3,.bool a4])∧Q a0 a1 a2 a3 a4 w
abbrev YB (Q:Int→Int→Int→ByteArray→Bool→Bool→World→Prop):Ending→World→Prop:=fun e w=>∃a0 a1 a2 a3 a4 a5,e=.returned (.tuple #[.agg #[.int .i64 a0,.int .i64 a1,.int .u64 a2,.string a3,.bool a4],.bool a5])∧Q a0 a1 a2 a3 a4 a5 w
abbrev YC (Q:ByteArray→World→Prop):Ending→World→Prop:=fun e w=>∃a0,e=.returned (.string a0)∧Q a0 w
abbrev YD (Q:ByteArray→Int→Int→World→Prop):Ending→World→Prop:=fun e w=>∃a0 a1 a2,e=.returned (.tuple #[.string a0,.int .i64 a1,.int .i64 a2])∧Q a0 a1 a2 w
abbrev YE (Q:(Option Addr)→Bool→World→Prop):Ending→World→Prop:=fun e w=>∃a0 a1,e=.returned (.tuple #[.pointer a0,.bool a1])∧Q a0 a1 w
abbrev YF (Q:Int→World→Prop):Ending→World→Prop:=fun e w=>∃a0,e=.returned (.int .u8 a0)∧Q a0 w
abbrev YG (Q:Int→World→Prop):Ending→World→Prop:=fun e w=>∃a0,e=.returned (.int .u64 a0)∧Q a0 w
abbrev YH (Q:Int→Int→Int→Int→ByteArray→Int→Int→Int→World→Prop):Ending→World→Prop:=fun e w=>∃a0 a1 a2 a3 a4 a5 a6 a7,e=.returned (.tuple #[(Ae a0 a1 a2 a3 a4 a5 a6),.int .i64 a7])∧Q a0 a1 a2 a3 a4 a5 a6 a7 w
abbrev YI (Q:(Option Addr)→Int→Int→World→Prop):Ending→World→Prop:=fun e w=>∃a0 a1 a2,e=.returned (.tuple #[.pointer a0,.int .i64 a1,.int .i64 a2])∧Q a0 a1 a2 w
abbrev pD (w:World)(r:Option Addr)(k:Nat)(Q:Int→Prop):Prop:=∃a,r=some a∧li w (a.add k) Q
abbrev Jn (w:World)(r:Option Addr)(Q:Int→Prop):Prop:=∃a,r=some a∧li w a Q
abbrev wL (w:World)(r:Option Addr)(k:Nat)(Q:Option Addr→Prop):Prop:=∃a,r=some a∧lp w (a.add k) Q
abbrev jz (w:World)(r:Option Addr)(Q:Option Addr→Prop):Prop:=∃a,r=some a∧lp w a Q
abbrev PA (w:World)(r:Option Addr)(k:Nat)(Q:Bool→Prop):Prop:=∃a,r=some a∧lb w (a.add k) Q
abbrev pE (w:World)(r:Option Addr)(k:Nat)(Q:Sl→Prop):Prop:=∃a,r=some a∧lx w (a.add k) Q
abbrev nq (w:World)(r:Option Addr)(Q:Sl→Prop):Prop:=∃a,r=some a∧lx w a Q
abbrev rI (w:World)(H:NP)(p:Addr)(n:Nat)(l:List Value)(Q:WP):Prop:=(∀j,j<n→zJ w (p.add j))∧¬H p.block∧∀x,x=ib w p l→Q x
abbrev gk (w:World)(p:Addr)(n:Nat)(l:List Value)(Q:WP):Prop:=(∀j,j<n→zJ w (p.add j))∧∀x,x=ib w p l→Q x
abbrev iq (w:World)(H:NP)(p:Addr)(v:Value)(Q:WP):Prop:=zJ w p∧¬H p.block∧∀x,x=w.setCell p v→Q x
abbrev ll (w:World)(p:Addr)(v:Value)(Q:WP):Prop:=zJ w p∧∀x,x=w.setCell p v→Q x
abbrev jh (w:World)(Q:WP→WP):Prop:=∃C:WP,C w.drew∧∀x,x=w.drew→Q C x
abbrev cq (w:World)(l:List Value)(T:TypeId)(Q:Addr→WP):Prop:=∀p x,fp w (.cells l.toArray T) p x→Q p x
abbrev ov (w:World)(p:Addr)(Q:Int→Int→Int→Int→ByteArray→Int→Int→Prop):Prop:=∃a0 a1 a2 a3 a4 a5 a6,Row w p (Ab a0 a1 a2 a3 a4 a5 a6)∧Q a0 a1 a2 a3 a4 a5 a6
abbrev ni (w:World)(p:Addr)(Q:Int→Int→Int→ByteArray→Bool→Prop):Prop:=∃a0 a1 a2 a3 a4,Row w p (Ac a0 a1 a2 a3 a4)∧Q a0 a1 a2 a3 a4
abbrev nj (w:World)(p:Addr)(Q:Int→Int→Int→Int→ByteArray→Sl→Prop):Prop:=∃a0 a1 a2 a3 a4 a5,Row w p (Af a0 a1 a2 a3 a4 a5)∧Q a0 a1 a2 a3 a4 a5
abbrev sP (w:World)(p:Addr)(Q:Bool→Bool→Bool→Bool→Int→Prop):Prop:=∃a0 a1 a2 a3 a4,Row w p (Ah a0 a1 a2 a3 a4)∧Q a0 a1 a2 a3 a4
abbrev iu:=Sl→WP
abbrev iy:=Int→WP
abbrev jw:=Int→Int→WP
abbrev ke:=Bool→WP
abbrev pR:=Int→NP→WP
abbrev qq:=Sl→Int→NP→WP
abbrev qz:=Int→Int→Int→Int→ByteArray→Sl→WP
abbrev rY:=Int→Int→Int→ByteArray→Bool→WP
abbrev sL:=(Option Addr)→WP
abbrev uo:=Int→Int→Int→WP
abbrev uz:=Int→Int→Int→ByteArray→Bool→Bool→WP
abbrev vw:=Sl→Int→WP
abbrev vt:=Int→Int→NP→WP
abbrev zu:=Int→Bool→WP
abbrev zF:=Bool→Bool→Bool→Bool→Int→Int→WP
abbrev zg:=Int→Int→Int→Int→ByteArray→Int→Int→Int→WP
abbrev Bj:=Option (List PanicEntry)→WP
abbrev Bn:=Int→Int→Int→Int→ByteArray→Bool→NP→WP
abbrev Dy:=(Option Addr)→Int→Int→WP
abbrev Df:=Option (List PanicEntry)→Int→WP
abbrev FW:=(Array Value)→WP
abbrev H6:=Int→Int→Int→Int→ByteArray→Int→Int→Bool→WP
abbrev HV:=(Option Nat)→WP
abbrev II:=ByteArray→WP
abbrev IE:=(Option Addr)→Int→NP→WP
abbrev Qd:=Int→Int→Bool→Bool→WP
abbrev Pq:=Int→Int→Int→Int→ByteArray→Int→Int→WP
abbrev O7:=Int→ByteArray→WP
abbrev Sh:=(Option Addr)→Bool→WP
abbrev QB:=ByteArray→Int→Int→WP
section
variable {P:Program} {ax:Array Oper} {Q:gb->World->Prop} {ρ:gb} {w:World} {rest:List Oper} {o:Oper}
def q0(v)(h:cr P ax Q rest (put ρ o.dst v) w)(b:Region.wanted o (vK ax ρ)=true:=by kernel_rfl)(a:(execOp (gx ρ) o).run P w=.ok (.value v) w:=by kernel_rfl):cr P ax Q (o ::rest) ρ w:=kg b a h
def q2(v)(a:(execOp (gx ρ) o).run P w=.ok (.value v) w)(h:cr P ax Q rest (put ρ o.dst v) w)(b:Region.wanted o (vK ax ρ)=true:=by kernel_rfl):cr P ax Q (o ::rest) ρ w:=kg b a h
variable {C:World->Prop} {loud free:Nat->Bool} {fuel:Nat} {listed:Array Bool}
end
section
variable {P:Program} {n:Nat} {Q:Exit->gb->World->Prop} {ρ:gb} {w:World}
def rg{cx id l}(h:cr P l.toArray (fun ρ w=>Q .normal ρ w) l ρ w)(a:sU n l=true:=by kernel_rfl):de (x:=cx) P n (.region id l.toArray false) Q ρ w:=Qq a h
end
section
variable {α:Type} {x0 x1 x2 x3 x4 x5 x6 x7 x8 x9 o:α} {l:List α}
end
end Go.SE
end
section
namespace Go.SE
end Go.SE
namespace Go.SE
end Go.SE
end
section
open Go Go.SE List
namespace Go.SE
section
variable {P:Program} {t e:TypeId} {sz bytes:Nat}
def VS(T:nY P t e sz bytes)(w:World)(ty:TypeId)(s x:Sl)(f:s.ay<=s.cap)(hx:x.ay=0):(Builtin.append_ #[t,t] ty #[s.v,x.v]).run P w=.ok s.v w:=by
 have⟨a,n,c⟩:=s;have⟨b,m,d⟩:=x;simp only at f hx;subst hx;cases b<;>cases a<;>simp[Builtin.append_,Sl.v,run_underlying T.ht,T.sizeOf,Builtin.lenOf,Builtin.firstCells,loadCells,loadCellsFrom,storeCells,f]
end
def Qp{w sz}:∀{rs:List (List Value)} {p:Addr},(∀r∈rs,r.length=sz)->(∀i (h:i<rs.length),Row w (p.add<|i*sz) rs[i])->Row w p rs.flatten
 |[],p,_,_=>fun i h=>by simp at h
 |r :: rs,p,b,h=>by
  have d:Row w p r:=by have:=h 0 Sm;simpa[Addr.add]using this
  have c:=b r Sm;have e:=Qp (rs:=rs) (p:=p.add sz) (fun q f=>b q<|mem_cons_of_mem _ f) (fun i hi=>by
   have:=h (i+1) (by simpa using hi);rw[qN,show sz+i*sz=(i+1)*sz by rw[Nat.succ_mul];omega];simpa using this)
  intro i hi;rw[flatten_cons]at hi|-;by_cases a:i<r.length;rw[d i a,getElem?_append_left a];have:=e (i-r.length) Gd;rw[qN,show sz+(i-r.length)=i by omega]at this;rw[this,getElem?_append_right Om]
section
variable {P:Program} {t e:TypeId} {sz bytes:Nat}
def c9.empty{w w' p}(b:fp w (.cells #[] e) p w'):c9 w' e sz ⟨some p,0,0⟩ []:=by
 have⟨c,a⟩:=b;refine⟨Sm,rfl,.inr ⟨w.heap.size,#[],Uc,?_,Sm,Sm,Sm,Sm⟩⟩;rw[a];exact heap_alloc_new w<|.cells #[] e
def c9.Am(T:nY P t e sz bytes){w ty s x rs qs}(h:c9 w e sz s rs){S}(hx:gr S w sz x qs)(r:∀q∈qs,q.length=sz)(h1:∀q∈qs,q.all vC=true)(m:(rs.length+qs.length)*bytes<=140737488355328)(y:rs.length+qs.length<=maxLen):
  ∃s' w',(Builtin.append_ #[t,t] ty #[s.v,x.v]).run P w=.ok s'.v w'/\c9 w' e sz s' (rs++qs)/\aj s.bg w w'/\(∀b,s'.bg b->s.bg b\/w.heap.size<=b):=by
 cases o:qs with
 |nil =>
  subst o
  have k:s.ay<=s.cap:=by
   rcases h.bf with⟨rfl,_⟩|⟨g,ga,_,_,k,_⟩;exact Nat.le_refl _;rw[h.ay];exact k
  exact⟨s,w,VS T w ty s x k hx.ay,Uc,aj.refl w,fun b m=>.inl m⟩
 |cons q0 rest =>
  rw[<-o]
  have c:qs≠[]:=Uc
  have f:=length_pos_iff.2 c
  have⟨_,⟨_,_,p,n,_⟩,_,_⟩:=hx.at_ 0 f
  have d:=Qp r (fun i hi=>by
   obtain⟨a,⟨_,_,b,j,rfl⟩,_,u⟩:=hx.at_ i hi;rw[n]at j;cases j;simpa using u)
  have l:x.v=(Sl.mk (some p) qs.length x.cap).v:=by unfold Sl.v;rw[n,hx.ay]
  rw[l]
  exact h.Lh T d r h1 c m y
end
def iv{α:Type}:List (Int×α)->Int->Option α
 |[],_=>none
 |p :: M,k=>if p.1=k then some p.2 else iv M k
def uQ{α:Type}{M:List (Int×α)}{k}:iv M k=none↔k∉M.map Prod.fst:=by
 induction M with
 |nil=>simp[iv]
 |cons p M a =>
  rw[iv]
  split
  rename_i h;simp[h]
  grind
def tV{α:Type}{M:List (Int×α)}{k}{v:α}(h:iv M k=some v):(k,v)∈M:=by
 induction M with
 |nil=>cases h
 |cons p M a =>
  rw[iv]at h
  split at h
  grind
  grind
def La{α:Type}{M:List (Int×α)}(b:(M.map Prod.fst).Nodup){i:Nat}{k:Int}{v:α}(h:M[i]?=some (k,v)):iv M k=some v:=by
 induction M generalizing i with
 |nil=>simp at h
 |cons p M d =>
  rw[map_cons,nodup_cons]at b
  rw[iv]
  cases i with
  |zero=>simp at h;subst h;simp
  |succ i =>
   have c:M[i]?=some (k,v):=Uc
   have a:p.1≠k:=fun e=>b.1 Gd
   rw[if_neg a]
   exact d b.2 c
def jUI{α:Type}{M:List (Int×α)}(a:(M.map Prod.fst).Nodup){k}{v:α}(h:(k,v)∈M):iv M k=some v:=by
 have⟨i,hi,e⟩:=getElem_of_mem h;exact La a (by rw[getElem?_eq_getElem hi,e])
def M4{α:Type}{M:List (Int×α)}{k x}{v:α}(h:k∉M.map Prod.fst):iv (M++[(k,v)]) x=if k=x then some v else iv M x:=by
 induction M with
 |nil=>simp[iv]
 |cons p M a =>
  simp only[map_cons,mem_cons,not_or]at h
  rw[cons_append,iv,iv,a h.2]
  by_cases e:p.1=x
  grind
  rw[if_neg e,if_neg e]
def rH(k:Int):Value:=.int .i64 k
structure jm{α:Type}(f:α->Value)(w:World)(m:Nat)(M:List (Int×α)):Prop where
 map:pk w m (M.map fun p=>(rH p.1,f p.2))
 nd:(M.map Prod.fst).Nodup
section
variable {α:Type} {f:α->Value} {w w':World} {m:Nat} {M:List (Int×α)} {P:Program} {T K E:TypeId}
def jm.ext{F}(h:jm f w m M)(a:aj F w w')(b:¬F m):jm f w' m M:=⟨h.map.ext a b,h.nd⟩
def jm.pure(h:jm f w m M)(a:aq w w'):jm f w' m M:=h.ext a id
def jm.lt(h:jm f w m M):m<w.heap.size:=h.map.lt
def jm.fi{p}(h:fp w (.map #[] 0) p w'):jm f w' p.block []:=⟨pk.fi h,nodup_nil⟩
def jm.HE(M:List (Int×α)):∀p∈M.map fun p=>(rH p.1,f p.2),∃n,p.1=.int .i64 n:=by
 intro p a;obtain⟨q,_,rfl⟩:=mem_map.1 a;exact⟨_,rfl⟩
def jm.get(h:jm f w m M)(e:P.underlying T=some (.map K E))(c:P.underlying K=some (.int .i64)){z}(d:(zeroValue E).run P w=.ok z w)(k ok):
  (iv M k=none/\(Instr.lookup T (.map<|some m) (.int .i64 k) ok).run P w=.ok (if ok then .tuple #[z,.bool false]else z) w)\/∃v,iv M k=some v/\(Instr.lookup T (.map<|some m) (.int .i64 k) ok).run P w=.ok (if ok then .tuple #[f v,.bool true]else f v) w:=by
 rcases h.map.lookup e (sj.IR c) (jm.HE M) (k:=rH k) ⟨k,rfl⟩ d ok with⟨h1,h2⟩|⟨i,v,h1,h2⟩
 refine .inl ⟨uQ.2 fun j=>?_,h2⟩
 obtain⟨q,g,rfl⟩:=mem_map.1 j
 exact h1 _ (mem_map.2 ⟨q,g,rfl⟩) rfl
 rw[getElem?_map]at h1
 cases hi:M[i]? with
 |none=>rw[hi]at h1;cases h1
 |some q =>
  rw[hi]at h1
  have⟨a,b⟩:=q
  simp[rH]at h1
  obtain⟨rfl,rfl⟩:=h1
  exact .inr ⟨b,La h.nd hi,h2⟩
def jm.put(h:jm f w m M)(d:P.underlying T=some (.map K E))(c:P.underlying K=some (.int .i64)){k}(i:iv M k=none)(v:α):
  ∃w',(Instr.mapUpdate T (.map<|some m) (.int .i64 k)<|f v).run P w=.ok () w'/\jm f w' m (M++[(k,v)])/\aj (·=m) w w':=by
 have a:=uQ.1 i
 have⟨w',h1,h2,h3⟩:=h.map.insert d (sj.IR c) (jm.HE M) (k:=rH k) (v:=f v) ⟨k,rfl⟩ (fun p b e=>by
  obtain⟨q,g,rfl⟩:=mem_map.1 b;simp only[rH,Value.int.injEq,true_and]at e;exact a<|mem_map.2 ⟨q,g,e⟩)
 refine⟨w',h1,⟨Uc,?_⟩,h3⟩
 rw[map_append,nodup_append]
 exact⟨h.nd,Sm,fun x hx y j e=>Uc⟩
def jm.jg(h:jm f w m M)(s:P.underlying T=some (.map K E))(l:P.underlying K=some (.int .i64)){k}{v:α}(r:iv M k=some v):
  ∃w',(Instr.mapUpdate T (.map<|some m) (.int .i64 k)<|f v).run P w=.ok () w'/\jm f w' m M/\aj (·=m) w w':=by
 have⟨i,hi,e⟩:=List.getElem_of_mem<|tV r
 have d:(M.map fun p=>(rH p.1,f p.2))[i]?=some (rH k,f v):=Uc
 have⟨w',h1,h2,h3⟩:=h.map.jcg s (sj.IR l) (jm.HE M) (k:=rH k) (v:=f v) (v':=f v) ⟨k,rfl⟩ d (fun j u b=>by
  rw[List.getElem?_map]at b;cases c:M[j]? with
  |none=>rw[c]at b;cases b
  |some q =>
   rw[c]at b
   simp[rH]at b
   have⟨t,g⟩:=List.getElem?_eq_some_iff.1 c
   have o:(M.map Prod.fst)[j]' Uc=(M.map Prod.fst)[i]' Uc:=Uc
   exact(List.getElem_inj h.nd).1 o)
 have a:(M.map fun p=>(rH p.1,f p.2)).set i (rH k,f v)=M.map fun p=>(rH p.1,f p.2):=by
  apply List.ext_getElem?;intro n;rw[List.getElem?_set];by_cases x:i=n;grind;rw[if_neg x]
 rw[a]at h2
 exact⟨w',h1,⟨h2,h.nd⟩,h3⟩
end
end Go.SE
end
section
open Go Go.SE List
namespace Go.SE
def aj.putObj(w r o):aj (·=r) w (w.putObj r o):=⟨rfl,rfl,rfl,Fe,Sm,fun b _ a=>World.putObj_heap_other a⟩
abbrev wZ(P:Program)(l:Nat)(args:Array Value)(w:World)(R:Ending->WP):Prop:=YieldAt Fence.wide 0 P l args w R
def sX(P:Program)(f:FuncId)(lb:Array Value){α:Type}(b:α->Array Value)(xs:List α)(Rd:WP)(w:World):Prop:=
 ∀(l:Nat) (J d:List α->NP->WP) (W:World),aq w W ->
  (∀cd X A,J cd X A->Rd A) ->
  (∀cd X A c A',J cd X A->au W X A c A'->J cd c A') ->
  (∀cd X A c A',d cd X A->au W X A c A'->d cd c A') ->
  (∀cd y X A,J cd X A->au W X A X A->(∃a,xs=cd++y ::a)->wZ P l (b y) A fun e A'=>(e=.returned (.bool true)/\av X A A'/\J (cd++[y]) X A')\/(e=.returned (.bool false)/\av X A A'/\d (cd++[y]) X A')) ->
  J [] bl W ->
  Calls P f (#[.func (.yield l) #[] #[]]++lb) W fun e A=>(∃v,e=.returned v)/\∃X,au W X A X A/\(J xs X A\/∃cd,d cd X A)
def BW:List Nat->List Value->gb->gb
 |p :: ps,v :: vs,ρ=>BW ps vs<|sM ρ p v
 |_,_,ρ=>ρ
def L3{n}:∀(ps:List Nat) (vs:List Value) (ρ:gb) (t:Array Value),(∀p∈ps,p<n)->mc [] n ρ { tmps:=t,defers:=[] } ->
  mc [] n (BW ps vs ρ) { tmps:=(ps.zip vs).foldl (fun t (x:Nat×Value)=>t.setIfInBounds x.1 x.2) t,defers:=[] }
 |[],vs,ρ,t,_,h=>by cases vs<;>exact h
 |p :: ps,[],ρ,t,_,h=>h
 |p :: ps,v :: vs,ρ,t,a,h=>by
  rw[zip_cons_cons,foldl_cons];exact L3 ps vs _ _ Gd<|h.put (d:=some p) (fun k b=>Uc) v
def Ej(id:Nat)(Y:NP)(A:World)(I c b:NP->WP):Exit->gb->WP
 |.normal,_,A'=>av Y A A'/\I Y A'
 |.exit a,_,A'=>a=id/\av Y A A'/\c Y A'
 |.ret,_,A'=>av Y A A'/\b Y A'
 |_,_,_=>False
def Mm(D:Nat)(Q:Exit->gb->WP):Exit->gb->WP
 |.ret,ρ,w=>w.heap[D]?=some (.deferred<|some [])/\Q .ret ρ (w.putObj D<|.deferred none)
 |_,_,_=>False
def av.trans{H a b c}(h:av H a b)(k:av H b c):av H a c:=⟨Nat.le_trans h.size k.size,fun i hi d=>(k.ly i (Nat.lt_of_lt_of_le hi h.size) d).trans<|h.ly i hi d⟩
def av.mono{H H' a b}(h:av H a b)(hs:∀b,H' b->H b):av H' a b:=⟨h.size,fun i hi c=>h.ly i hi<|hs i c⟩
structure AF{α:Type}(w0:World)(Rd:WP)(I c b:List α->NP->WP):Prop where
 rd:∀cd Y A,I cd Y A->Rd A
 i:∀cd Y A a A',I cd Y A->au w0 Y A a A'->I cd a A'
 x:∀cd Y A a A',c cd Y A->au w0 Y A a A'->c cd a A'
 r:∀cd Y A a A',b cd Y A->au w0 Y A a A'->b cd a A'
def zi(P:Program)(n:Nat)(c y:Code)(Q:Exit->gb->WP)(ρ:gb)(w:World):Prop:=∀a,mc [] n ρ a->c.wpIn (oC none) 0 P (Exit.then (fun a w=>y.wpIn (oC none) 0 P (sS ⟨none,[]⟩ n Q) a w) (sS ⟨none,[]⟩ n Q)) a w
def zFB{P n Q ρ w c y}(h:zi P n c y Q ρ w):de (x:=⟨none,[]⟩) P n (.seq c y) Q ρ w:=fun a b=>wpIn_seq<|h a b
def VV{P n Q ρ w a c y}(h:de (x:=⟨none,[]⟩) P n a (tp (fun ρ w=>zi P n c y Q ρ w) Q) ρ w):de (x:=⟨none,[]⟩) P n (.seq (.seq a c) y) Q ρ w:=fun a g =>
 wpIn_seq (wpIn_seq (wpIn_mono (h a g) (fun e a w b=>by
  cases e with
  |normal=>have⟨i,d,f⟩:=HZ b;exact f a d
  |_=>exact b)))
def jy.PX{H Y w A l D}(a:HB H w l)(e:av H w A)(d:∀b,H b->Y b)(f:Y D)(c:A.heap[D]?=some (.deferred<|some [])):jy [(D,.deferred<|some [])] Y A l:=
 ⟨(a.ff e).box,fun x hx=>d _<|a.wk x hx,a.ne,fun x hx=>by
  cases mem_singleton.1 hx;exact⟨f,c,rfl⟩⟩
def jy.jcL{w0 wv Hv H w l D}(a:jy [(D,.deferred<|some [])] H w l)(hs:au w0 Hv wv H w){w1}(h1:w1=w.putObj D (.deferred none)):au w0 Hv wv H w1/\HB H w1 l:=by
 have c:=a.fz _<|mem_singleton.2 rfl;have E:aj (·=D) w w1:=by rw[h1];exact aj.putObj w D _
 refine⟨⟨h1▸hs.ext.ft (aj.putObj w D _) Gd,hs.sub,hs.bu,hs.old,fun b a=>Nat.lt_of_lt_of_le (hs.lt b a) E.size,Nat.le_trans hs.ie E.size⟩,?_⟩;refine⟨fun x hx=>(a.box x hx).ext E fun e=>?_,a.wk,a.ne,fun x hx=>Uc⟩;have h2:=(a.box x hx).bg;rw[e,c.2.1]at h2;cases h2
def jy.jaj{H w l D}(a:jy [(D,.deferred<|some [])] H w l):w.heap[D]?=some (.deferred<|some []):=(a.fz _<|mem_singleton.2 rfl).2.1
def Yk{P}{ε:Operand->Value}{w w'}{d:Option Tmp}{ty}{pos:String}{aft:Array Edge}{g:Option (Nat×Bool)}{l x v}{c:List Operand}{ts:Array TypeId}{args}{r:Next}(hx:ε x=v)(e:v=.func (.yield l) #[] #[])(a:(c.map ε).toArray=args)(b:(Instr.yield l args).run P w=.ok r w'):
  (execOp ε ⟨d,.call ⟨.value x,c.toArray,ts⟩,ty,pos,aft,g⟩).run P w=.ok r w':=by
 subst e;subst a
 simp[execOp,resolve,hx,Deferred.ofValue,invoke,b]
def W1{P ax Q ρ w rest}{d:Option Tmp}{ty}{pos:String}{aft:Array Edge}{g:Option (Nat×Bool)}{l x v}{c:List Operand}{ts:Array TypeId}{args}(k:Region.wanted ⟨d,.call ⟨.value x,c.toArray,ts⟩,ty,pos,aft,g⟩ (vK ax ρ)=true)(hx:gx ρ x=v)(j:v=.func (.yield l) #[] #[])(m:(c.map<|gx ρ).toArray=args)(h:wZ P l args w fun e b=>∃v,e=.returned v/\cr P ax Q rest (put ρ d v) b):cr P ax Q (⟨d,.call ⟨.value x,c.toArray,ts⟩,ty,pos,aft,g⟩ ::rest) ρ w:=by
 have⟨n,tmps,a,body,f,i⟩:=h;unfold cr;rw[if_pos k];unfold pS;rw[Yk hx j m f];exact i
def wZ.mono{P l args w R R'}(h:wZ P l args w R)(c:∀e w,R e w->R' e w):wZ P l args w R':=by
 have⟨b,tmps,a,body,h1,h2⟩:=h;exact⟨b,tmps,a,body,h1,RoundIn.mono h2 c⟩
section
variable {P:Program} {n:Nat} {Q:Exit->gb->WP} {ρ:gb} {w w0:World} {H Hv:NP} {wv:World}
def zAT{id g}{ps:Array Tmp}{assign body y gf lb}{α:Type}{j:α->Array Value}{xs:List α}{Rd}(hg:gx ρ g=.func (.func gf) #[] lb)(eg:∀args w,(callFunc gf args).run P w=.ok (.enter gf args) w)(oy:sX P gf lb j xs Rd w)(hps:∀z,(j z).size=ps.size)(hpn:∀p∈ps.toList,p<n)(hs:au w0 Hv wv H w)(I Ix Ir:List α->NP->WP)(hRI:AF w0 Rd I Ix Ir)(h0:I [] H w)(U:∀l z A,de (x:=⟨some l,[]⟩) P n assign (tp (fun ρ' A'=>A'=A/\∀cd Y A,I cd Y A->au w0 Y A Y A->(∃post,xs=cd++z :: post)->de (x:=⟨some l,[]⟩) P n body (Ej id Y A (I (cd++[z])) (Ix (cd++[z])) (Ir (cd++[z]))) ρ' A) fun _ _ _=>False) (BW ps.toList (j z).toList ρ) A)(hrest:∀D Y A,au w0 Y A Y A->Y D->A.heap[D]?=some (.deferred (some []))->(∀b,H b->Y b)->av H w A->(I xs Y A\/∃cd,Ix cd Y A)->de (x:=⟨none,[mark D]⟩) P n y (Mm D Q) ρ A)(hret:∀D cd Y A,au w0 Y A Y A->Y D->A.heap[D]?=some (.deferred (some []))->Ir cd Y A->Q .ret ρ (A.putObj D (.deferred none))):
  zi P n (.block id (.rangeFunc g ps assign body)) y Q ρ w:=by
 have⟨hRd,hI,hIx,hIr⟩:=hRI
 intro a ha
 refine wpIn_block (wpIn_rangeFunc ?_)
 intro fn _
 obtain⟨i,C⟩:∃i:LoopState->Option Code->Loop,i=fun st pe=>{ state:=st,pending:=pe,fn,tmps:=a.tmps,params:=ps,assign,body,defers:=w.heap.size }:=⟨_,rfl⟩
 obtain⟨q,S⟩:∃q,(w.alloc (.deferred (some []))).alloc (.loop (i .ready none))=q:=⟨_,rfl⟩
 have hL1:q.heap[w.heap.size+1]?=some (.loop (i .ready none)):=by
  rw[<-S];have:=World.alloc_heap_new (w.alloc (.deferred (some []))) (.loop (i .ready none));rwa [World.size_alloc]at this
 have hK1:q.heap[w.heap.size]?=some (.deferred (some [])):=by
  rw[<-S];exact(RowKit.Below.heap_alloc _ _ _ Sm).trans (World.alloc_heap_new w _)
 have hsz:q.heap.size=w.heap.size+2:=by rw[<-S];simp
 have E1:aq w q:=by
  rw[<-S];exact⟨rfl,rfl,rfl,Uc,So,fun b f _=>(RowKit.Below.heap_alloc _ _ _ So).trans (RowKit.Below.heap_alloc _ _ _ f)⟩
 let s:NP->NP:=fun X b=>H b\/b=w.heap.size\/b=w.heap.size+1\/X b
 have hHlt:=hs.lt
 have jj:∀{X:NP} {A:World},au q X A X A->au w0 (s X) A (s X) A:=fun {X A} h =>
  ⟨aj.refl _,fun _ h=>h,fun _ h=>.inl h,fun b f=>by
   rcases f with f|rfl|rfl|f
   .exact hs.old b f
   .exact hs.ie
   .have:=hs.ie;omega
   .have:=h.old b f;have:=hs.ie;omega,fun b f=>by
   have z:=h.ie;rcases f with f|rfl|rfl|f
   .have:=hHlt b f;omega
   .omega
   .omega
   .exact h.lt b f,Oi h.ie hs.ie⟩
 have up:∀{X W:NP} {A A':World},au q X A X A->au q X A W A'->au w0 (s X) A (s W) A':=fun {X W A A'} h k =>
  ⟨k.ext.mono Gd,fun b f=>by
   rcases f with f|f|f|f
   .exact .inl f
   .exact .inr (.inl f)
   .grind
   .exact .inr (.inr (.inr (k.sub b f))),fun b f=>by
   rcases f with f|f|f|f
   .exact .inl (.inl f)
   .grind
   .grind
   .exact(k.bu b f).imp_left fun h=>.inr (.inr (.inr h)),(jj k.jj).old,(jj k.jj).lt,(jj k.jj).ie⟩
 have nX:∀{X:NP} {A:World},au q X A X A->∀b,b<w.heap.size+2->¬X b:=fun h b f hx=>Oh (h.old b hx)
 have M:∀{X W:NP} {A A':World},av H w A->au q X A W A'->av H w A':=fun {X W A A'} V k =>
  V.trans (k.ext.ff fun b f hx=>nX k.jj b Uc hx)
 have vl:∀{X:NP} {A:World} (o:Obj),au q X A X A->au w0 (s X) A (s X) (A.putObj (w.heap.size+1) o):=fun {X A} o h =>
  ⟨(aj.putObj A _ o).mono Gd,fun _ h=>h,fun _ h=>.inl h,(jj h).old,fun b f=>by have:=(jj h).lt b f;simpa using this,by simpa using(jj h).ie⟩
 have hstW:∀{X:NP} {A:World} (o:Obj),au q X A X A->au q X (A.putObj (w.heap.size+1) o) X (A.putObj (w.heap.size+1) o):=fun o h =>
  ⟨aj.refl _,fun _ h=>h,fun _ h=>.inl h,h.old,fun b f=>by have:=h.lt b f;simpa using this,by simpa using h.ie⟩
 have B:∀{A:World} (o:Obj),av H w A->av H w (A.putObj (w.heap.size+1) o):=fun {A} o V=>V.trans ((aj.putObj A _ o).ff Gd)
 let Jc:Code->List α->NP->WP:=fun c cd Y A=>match c with
  |.ret=>Ir cd Y A
  |.exit O=>O=id/\Ix cd Y A
  |_=>False
 have hJc:∀c cd Y A Y' A',Jc c cd Y A->au w0 Y A Y' A'->Jc c cd Y' A':=Gd
 refine⟨w.heap.size+1,[mark w.heap.size],q,{ target:=.fn (.func gf) lb,args:=#[.func (.yield (w.heap.size+1)) #[] #[]] },q,gf,
  #[.func (.yield (w.heap.size+1)) #[] #[]]++lb,q,?_,?_,fun _ _=>trivial,?_,(fun h=>by cases h),callsIn_wide.2 ?_⟩
 .rw[<-S,C];exact run_enterLoop_outer _ _ _ _ _
 .have hev:a.eval g=.func (.func gf) #[] lb:=by rw[ha.eval];exact hg
  simp only[resolve,hev]
  simp[go_sem]
 .simp[invoke,go_sem,eg]
 have J:=au.start q
 refine(oy (w.heap.size+1)
  (fun cd X A=>au q X A X A/\I cd (s X) A/\A.heap[w.heap.size+1]?=some (.loop (i .ready none))/\A.heap[w.heap.size]?=some (.deferred (some []))/\av H w A)
  (fun cd X A=>au q X A X A/\∃c,Jc c cd (s X) A/\A.heap[w.heap.size+1]?=some (.loop (i .done (some c)))/\A.heap[w.heap.size]?=some (.deferred (some []))/\av H w A)
  q E1 Gd
  (fun cd X A W A' h k=>⟨k.jj,hI _ _ _ _ _ h.2.1 (up h.1 k),k.ext.heap h.2.2.1 (nX k.jj _ Om),k.ext.heap h.2.2.2.1 (nX k.jj _ Om),M h.2.2.2.2 k⟩)
  (fun cd X A W A' h k=>by
   have⟨h1,c,h2,h3,h4,h5⟩:=h;exact⟨k.jj,c,hJc _ _ _ _ _ _ h2 (up h1 k),k.ext.heap h3 (nX k.jj _ Om),k.ext.heap h4 (nX k.jj _ Om),M h5 k⟩)
  ?_ ⟨J,hI _ _ _ _ _ h0 ⟨E1.pure,fun b f=>.inl f,fun b f=>?_,(jj J).old,(jj J).lt,(jj J).ie⟩,hL1,hK1,E1.dy⟩).mono ?_
 .-- one round
  rintro cd z X A ⟨Z,hi,hl,V,L⟩ _ hpost
  have hlt:=(Array.getElem?_eq_some_iff.1 hl).1
  have hy:=run_yield (P:=P) (args:=j z) hl Uc
  rw[C]at hy
  refine⟨fn,_,assign,body,hy,roundIn_of_wpIn (F:=Fence.wide) trivial ?_⟩
  have hrep:mc [] n (BW ps.toList (j z).toList ρ) { tmps:=(ps.zip (j z)).foldl (fun t (x:Nat×Value)=>t.setIfInBounds x.1 x.2) a.tmps,defers:=[] }:=by
   have:=L3 ps.toList (j z).toList ρ a.tmps hpn ⟨rfl,ha.size,ha.get⟩;rw[<-Array.foldl_toList,Array.toList_zip];exact this
  refine wpIn_mono (U (w.heap.size+1) z A _ hrep) ?_
  rintro e a1 A1 ⟨ρ',G⟩
  have G:=G.resolve_right fun h=>Uc
  have⟨hr1,K⟩:=G
  cases e<;>first|exact K.elim|skip
  obtain⟨rfl,hbody⟩:=K
  refine⟨_,run_beginRound hl Uc,?_⟩
  have T1:=vl (.loop { i .ready none with state:=.busy }) Z
  have hX1:=hstW (.loop { i .ready none with state:=.busy }) Z
  have hl2:(A1.putObj (w.heap.size+1) (.loop { i .ready none with state:=.busy })).heap[w.heap.size+1]?=some (.loop { i .ready none with state:=.busy }):=World.putObj_heap_same hlt
  have hk2:(A1.putObj (w.heap.size+1) (.loop { i .ready none with state:=.busy })).heap[w.heap.size]?=some (.deferred (some [])):=(World.putObj_heap_other Om).trans V
  have hkH2:=B (.loop { i .ready none with state:=.busy }) L
  have hi2:=hI _ _ _ _ _ hi T1
  refine wpIn_mono (hbody cd (s X) _ hi2 T1.jj hpost a1 hr1) ?_
  have fin : ∀ (d : Option Code) (u : World), av (s X) (A1.putObj (w.heap.size + 1) (.loop { i .ready none with state:=.busy })) u ->
    (Instr.endRound (w.heap.size+1) d).run P u=.ok (.bool d.isNone) (u.putObj (w.heap.size+1) (.loop (i (if d.isNone then .ready else .done) d))) /\
    au q X (u.putObj (w.heap.size+1) (.loop (i (if d.isNone then .ready else .done) d))) X (u.putObj (w.heap.size+1) (.loop (i (if d.isNone then .ready else .done) d))) /\
    au w0 (s X) u (s X) (u.putObj (w.heap.size+1) (.loop (i (if d.isNone then .ready else .done) d))) /\
    (u.putObj (w.heap.size+1) (.loop (i (if d.isNone then .ready else .done) d))).heap[w.heap.size+1]?=some (.loop (i (if d.isNone then .ready else .done) d)) /\
    (u.putObj (w.heap.size+1) (.loop (i (if d.isNone then .ready else .done) d))).heap[w.heap.size]?=some (.deferred (some [])) /\
    av H w (u.putObj (w.heap.size+1) (.loop (i (if d.isNone then .ready else .done) d))) /\
    av X A1 (u.putObj (w.heap.size+1) (.loop (i (if d.isNone then .ready else .done) d))):=fun d u m=>by
   have hl3:u.heap[w.heap.size+1]?=some (.loop { i .ready none with state:=.busy }):=by
    rw[m.ly _ Uc (.inr (.inr (.inl rfl)))];exact hl2
   have hD3:u.heap[w.heap.size]?=some (.deferred (some [])):=by
    rw[m.ly _ So (.inr (.inl rfl))];exact hk2
   have hX3:=hX1.jg (m.mono Gd)
   have E:=run_endRound (P:=P) d hl3
   rw[C]at E
   refine⟨Uc,hstW _ hX3,vl _ hX3,World.putObj_heap_same (Array.getElem?_eq_some_iff.1 hl3).1,(World.putObj_heap_other Om).trans hD3,B _ (hkH2.trans (m.mono fun b f=>.inl f)),?_⟩
   have k1:av X A1 (A1.putObj (w.heap.size+1) (.loop { i .ready none with state:=.busy })):=(aj.putObj A1 _ _).ff fun b f e=>Oh (Z.old b f)
   exact(k1.trans (m.mono fun b f=>.inr (.inr (.inr f)))).trans ((aj.putObj u _ _).ff fun b f e=>Oh (Z.old b f))
  rintro e a3 u ⟨ρ3,G⟩
  have G:=G.resolve_right fun h=>Uc
  have⟨hr3,K⟩:=G
  cases e with
  |normal =>
   have⟨m,N⟩:=K
   have⟨f1,f2,f3,f4,f5,f6,f7⟩:=fin none u m
   exact⟨_,_,f1,.inl ⟨rfl,f7,f2,hI _ _ _ _ _ N f3,f4,f5,f6⟩⟩
  |ret =>
   have⟨m,N⟩:=K
   have⟨f1,f2,f3,f4,f5,f6,f7⟩:=fin (some .ret) u m
   exact⟨_,_,f1,.inr ⟨rfl,f7,f2,.ret,hIr _ _ _ _ _ N f3,f4,f5,f6⟩⟩
  |exit O =>
   obtain⟨rfl,m,N⟩:=K
   have⟨f1,f2,f3,f4,f5,f6,f7⟩:=fin (some (.exit O)) u m
   exact⟨_,_,f1,.inr ⟨rfl,f7,f2,.exit O,⟨rfl,hIx _ _ _ _ _ N f3⟩,f4,f5,f6⟩⟩
  |goto t=>exact K.elim
  |panic ch=>exact K.elim
  |outgrown=>exact K.elim
 .rcases f with f|rfl|rfl|f
  .exact .inl f
  .exact .inr (Nat.le_refl _)
  .exact .inr Om
  .exact f.elim
 .-- PX the iterator
  have R:mc [mark w.heap.size] n ρ { a with defers:=[mark w.heap.size]++a.defers }:=⟨by rw[show a.defers=[]from ha.defers];rfl,ha.size,ha.get⟩
  have go:∀(A:World),au w0 (s fun b=>H b\/b=w.heap.size\/b=w.heap.size+1) A (s fun b=>H b\/b=w.heap.size\/b=w.heap.size+1) A->True:=fun _ _=>trivial
  have rest : ∀ (X : NP) (A : World), au w0 (s X) A (s X) A -> A.heap[w.heap.size]? = some (.deferred (some [])) -> av H w A -> (I xs (s X) A \/ ∃ cd, Ix cd (s X) A) ->
    y.wpIn (oC none) 0 P (sS ⟨none,[]⟩ n Q) { a with defers:=[mark w.heap.size]++a.defers } A:=by
   intro X A hA hD hkA hIA
   refine wpIn_mono (hrest w.heap.size (s X) A hA (.inr (.inl rfl)) hD (fun b f=>.inl f) hkA hIA _ R) ?_
   rintro e a2 A2 ⟨ρ2,⟨hr2,K⟩|⟨_,_,h,_⟩⟩
   .cases e<;>first|exact K.elim|skip
    exact⟨ρ2,.inr ⟨rfl,rfl,rfl,w.heap.size,hr2,K.1,K.2⟩⟩
   .cases h
  rintro e A ⟨⟨v,rfl⟩,X,_,⟨Z,hi,hl,V,L⟩|⟨cd,Z,c,hc,hl,V,L⟩⟩
  .obtain⟨o, E⟩ : ∃ o, (Instr.endLoop (w.heap.size + 1)).run P A = .ok none (A.putObj (w.heap.size + 1) o):=by
    have:=run_endLoop (P:=P) hl Uc;rw[C]at this;exact⟨_,this⟩
   have T:=vl o Z
   exact⟨none,_,E,rest X _ T.jj ((World.putObj_heap_other Om).trans V) (B _ L) (.inl (hI _ _ _ _ _ hi T))⟩
  .obtain⟨o, E⟩ : ∃ o, (Instr.endLoop (w.heap.size + 1)).run P A = .ok (some c) (A.putObj (w.heap.size + 1) o):=by
    have:=run_endLoop (P:=P) hl Uc;rw[C]at this;exact⟨_,this⟩
   have T:=vl o Z
   refine⟨some c,_,E,?_⟩
   have hc':=hJc _ _ _ _ _ _ hc T
   have hD:=(World.putObj_heap_other (w:=A) (r:=w.heap.size+1) (o:=o) (k:=w.heap.size) Om).trans V
   cases c<;>first|exact hc.elim|skip
   case exit O =>
    obtain⟨rfl,hx⟩:=hc'
    refine wpIn_exit ?_
    simp only[Exit.inBlock,if_true]
    exact rest X _ T.jj hD (B _ L) (.inr ⟨cd,hx⟩)
   case ret =>
    refine wpIn_ret ?_
    exact⟨ρ,.inr ⟨rfl,rfl,rfl,w.heap.size,R,hD,hret w.heap.size cd (s X) _ T.jj (.inr (.inl rfl)) hD hc'⟩⟩
end
end Go.SE
namespace Go.SE
def au.Yc{w0 w H D o}(hs:au w0 H w H w)(c:H D):au w0 H w H (w.putObj D o):=
 ⟨(aj.putObj w D o).mono Gd,fun _ h=>h,fun _ h=>.inl h,hs.old,fun b a=>by have:=hs.lt b a;simpa using this,by simpa using hs.ie⟩
end Go.SE
end
section
namespace Go.SE
structure Bs(p:Addr)(i:Int)(n size:Nat)(a:Addr):Prop where
 lo:0<=i
 hi:i<n
 at_:a=p.add (i.toNat*size)
section
variable {P:Program} {ε:Operand->Value} {w w':World} {d:Option Tmp} {ty:TypeId} {pos:String} {aft:Array Edge} {g:Option (Nat×Bool)}
def U3{T E x ix p k i m n a}(hx:ε x=.pointer (some p))(hi:ε ix=.int k i)(e:(underlying T).run P w=.ok (.array m E) w)(hs:(sizeOf E).run P w=.ok n w)(c:Bs p i m n a):
  (execOp ε ⟨d,.indexAddr T x ix,ty,pos,aft,g⟩).run P w=.ok (.value<|.pointer<|some a) w:=by
 obtain⟨b,h1,rfl⟩:=c
 simp[execOp,Instr.indexAt,Instr.sureAddr,hx,hi,asIntOf,e,b,h1,hs]
end
end Go.SE
end
section
namespace Go.SE
variable {P:Program}
def AB(P:Program)(o:Oper)(ε:Operand->Value)(w:World)(R:Value->World->Prop)(X:List PanicEntry->World->Prop):Prop:=
 (∀c,o.op≠.defer c)/\match(execOp ε o).run P w with
 |.ok (.value v) w'=>R v w'
 |.ok .skip w'=>R undef w'
 |.ok (.enter f args) w'=>Calls P f args w' fun e a=>(∃v,e=.returned v/\R v a)\/∃b,e=.panicked b/\X b a
 |.ok (.row row args) w'=>Rows P row args w' R
 |.ok (.round l f tmps assign body) w'=>RoundIn Fence.wide 0 P l f tmps assign body w' fun e a=>∃v,e=.returned v/\R v a
 |.halt (.panic v) w'=>X [{ v,recovered:=false }] w'
 |_=>False
def JW{o}{ε:Operand->Value}{w}{R c:Value->World->Prop}{X d:List PanicEntry->World->Prop}(h:AB P o ε w R X)(a:∀v w',R v w'->c v w')(hx:∀f w',X f w'->d f w'):AB P o ε w c d:=by
 unfold AB at *;refine⟨h.1,?_⟩;have h:=h.2;generalize (execOp ε o).run P w=r at *;cases r with
 |ok n w' =>
  cases n<;>simp only at h|-<;>first
   |exact a _ _ h
   |exact RoundIn.mono h fun e b ⟨v,i,g⟩=>⟨v,i,a _ _ g⟩
   |exact Calls.mono h fun e b hh=>hh.elim Gd Gd
   |exact h.mono a
 |halt x w'=>cases x<;>simp only at h|-<;> exact hx _ _ h
def jPN{o}{ε:Operand->Value}{w}{R:Value->World->Prop}{X:List PanicEntry->World->Prop}(h:pS P o ε w R):AB P o ε w R X:=by
 refine⟨Px h,?_⟩;unfold pS at h;generalize (execOp ε o).run P w=r at *;cases r with
 |ok n w' =>
  cases n<;>simp only at h|-<;>first
   |exact h
   |exact Calls.mono h fun e a ⟨v,b,c⟩=>.inl ⟨v,b,c⟩
 |halt x w'=>exact h.elim
def Re{ro:Option Nat}{m o a w}{K:Act->World->Prop}{Q:Exit->Act->World->Prop}(h:AB P o a.eval w (fun v w'=>K (a.put o.dst v) w') fun g w'=>Q (.panic g) a w'):o.wpIn (oC ro) m P a w K Q:=by
 have⟨j,h⟩:=h;refine⟨fun f _=>BB ro f,?_⟩;rw[Q5,Oper.semAt_eq _ _ _ j];have b:(oC ro).depth.isSome=true->1<=m:=fun h=>by rw[Oo]at h;cases h
 generalize (execOp a.eval o).run P w=r at *;cases r with
 |ok n w' =>
  cases n<;>simp only at h<;>simp only[Oper.uponIn]
  case value=>exact h
  case skip=>exact h
  case enter =>
   refine⟨b,(Calls.oC h).mono ?_⟩
   rintro e c (⟨v,rfl,d⟩|⟨g,rfl,i⟩)
   .exact d
   .exact i
  case row=>exact⟨b,Rows.oC h⟩
  case round=>exact⟨b,(RoundIn.oC h).mono fun e c ⟨v,k,d⟩=>Uc⟩
 |halt x w'=>cases x<;>simp only at h<;>simp only[Oper.uponIn];exact h
def qm(P:Program)(ax:Array Oper)(Q:gb->World->Prop)(X:List PanicEntry->World->Prop):List Oper->gb->World->Prop
 |[],ρ,w=>Q ρ w
 |o :: rest,ρ,w =>
  if Region.wanted o (vK ax ρ)then AB P o (gx ρ) w (fun v w'=>qm P ax Q X rest (put ρ o.dst v) w') X
  else qm P ax Q X rest (put ρ o.dst undef) w
section
variable {x:Cx} {n:Nat} {Q:Exit->gb->World->Prop} {ρ:gb} {w:World}
def Iq{ax Q'}{X:List PanicEntry->World->Prop}(d:∀ρ a w,mc x.ds n ρ a->Q' ρ w->sS x n Q .normal a w)(g:∀ρ a j w,mc x.ds n ρ a->X j w->sS x n Q (.panic j) a w):
  ∀(l:List Oper) (ρ:gb) (a:Act) (w:World),sU n l=true->mc x.ds n ρ a->qm P ax Q' X l ρ w->wpListIn (oC x.ro) 0 P ax (sS x n Q) l a w
 |[],ρ,a,w,_,b,h=>d _ _ _ b h
 |o :: l,ρ,a,w,k,b,h=>by
  have⟨i,c⟩:=RD k;unfold qm at h;unfold wpListIn;rw[b.yielded];split;rename_i e;rw[if_pos e]at h;apply Re;rw[b.eval];exact JW h (fun v w' hh=>Iq d g l _ _ _ c (b.put i v) hh) Gd;rename_i e;rw[if_neg e]at h;exact⟨fun f _=>BB x.ro f,Iq d g l _ _ _ c (b.put i undef) h⟩
def Md{id l}(e:sU n l=true)(h:qm P l.toArray (fun ρ w=>Q .normal ρ w) (fun f w=>∀ρ,Q (.panic f) ρ w) l ρ w):de (x:=x) P n (.region id l.toArray false) Q ρ w:=fun a g =>
 wpIn_region_lit<|Iq (fun b _ _ c d=>⟨b,.inl ⟨c,d⟩⟩) (fun b _ _ _ c d=>⟨b,.inl ⟨c,d b⟩⟩) l ρ a w e g h
end
def Do(P:Program)(fn:Func)(n:Nat)(R:Ending->World->Prop):Exit->gb->World->Prop
 |.normal,ρ,w|.ret,ρ,w=>∃v,(∀ds a,mc ds n ρ a->(results fn a.tmps).run P w=.ok v w)/\R (.returned v) w
 |.panic b,_,w=>R (.panicked b) w
 |_,_,_=>False
def jPC{n w f fn c args R}(l:P.funcs[f]?=some fn)(k:fn.body=some c)(o:fn.ntmps=n)(p:args.length<=n)(h:de (x:=⟨none,[]⟩) P n c (Do P fn n R) (xA args) w):Calls P f args.toArray w R:=by
 subst o;refine callsIn_wide.1<|callsIn_of_wp_marks (n:=0) l k trivial ?_;refine wpIn_mono (h _<|Ga args p) ?_;rintro e a w' ⟨r,⟨d,b⟩|⟨rfl,_,_,D,d,m,b⟩⟩;have j:=d.defers;cases e with
 |normal=>have⟨v,i,g⟩:=b;simp only[bodyPostM,j];exact tZ (i _ a d) g
 |ret=>have⟨v,i,g⟩:=b;simp only[bodyPostM,j];exact tZ (i _ a d) g
 |exit _=>exact b.elim
 |goto _=>exact b.elim
 |panic q=>simp only[bodyPostM,j];exact b
 |outgrown=>exact b.elim
 have⟨v,i,g⟩:=b;have j:=d.defers;simp only[bodyPostM,j];exact⟨Sm,.inl ⟨D,_,rfl,run_takeDeferred m,tZ (i _ a d) g⟩⟩
def ep{n fn R e ρ w}(h:Gq P fn n R e ρ w):Do P fn n R e ρ w:=by
 cases e<;>first|exact h|exact h.elim
def CT{ax Q}{X:List PanicEntry->World->Prop}:∀(k:Nat) {l:List Oper} {ρ:gb} {w:World},cr P ax (fun ρ w=>qm P ax Q X (l.drop k) ρ w) (l.take k) ρ w->qm P ax Q X l ρ w
 |0,l,ρ,w,h=>by simpa[cr]using h
 |k+1,[],ρ,w,h=>by simpa[cr]using h
 |k+1,o :: l,ρ,w,h=>by
  simp only[List.take_succ_cons,List.drop_succ_cons]at h;unfold cr at h;unfold qm;split;rename_i a;rw[if_pos a]at h;exact JW (jPN (X:=X) h) (fun v w' hh=>CT k hh) fun _ _ h=>h;rename_i a;rw[if_neg a]at h;exact CT k h
section
variable {ε:Operand->Value} {w:World} {d:Option Tmp} {ty:TypeId} {pos:String} {aft:Array Edge} {g:Option (Nat×Bool)}
def zJN{x t v}(hx:ε x=.iface t v):(execOp ε ⟨d,.panic x,ty,pos,aft,g⟩).run P w=.halt (.panic<|.iface t v) w:=by
 simp[execOp,hx];rfl
end
section
variable {ax:Array Oper} {Q:gb->World->Prop} {X:List PanicEntry->World->Prop} {ρ:gb} {w w':World} {rest:List Oper} {o:Oper} {v:Value}
def zEZ(h:Q ρ w):qm P ax Q X [] ρ w:=h
def Rm{f args}(g:Region.wanted o (vK ax ρ)=true)(d:∀c,o.op≠.defer c)(i:(execOp (gx ρ) o).run P w=.ok (.enter f args) w')(h:Calls P f args w' fun e a=>(∃v,e=.returned v/\qm P ax Q X rest (put ρ o.dst v) a)\/∃b,e=.panicked b/\X b a):qm P ax Q X (o ::rest) ρ w:=by
 unfold qm;rw[if_pos g];exact⟨d,Uc⟩
def zFJ{pv}(a:Region.wanted o (vK ax ρ)=true)(b:∀c,o.op≠.defer c)(d:(execOp (gx ρ) o).run P w=.halt (.panic pv) w')(h:X [{ v:=pv,recovered:=false }] w'):qm P ax Q X (o ::rest) ρ w:=by
 unfold qm;rw[if_pos a];exact⟨b,Uc⟩
end
section
variable {ε:Operand->Value} {w:World} {d:Option Tmp} {ty:TypeId} {pos:String} {aft:Array Edge} {g:Option (Nat×Bool)}
end
end Go.SE
end
section
namespace Go.SE
def tb(m i:Nat):Bool:=Nat.beq (Nat.land (Nat.shiftRight m i) 1) 1
def rA(n m:Nat):Array Bool:=((List.range n).map<|tb m).toArray
def CG(m k:Nat):Nat:=Nat.lor m<|Nat.pow 2 k
def RJ(m i):tb m i=m.testBit i:=by
 have h:Nat.land (Nat.shiftRight m i) 1=(m >>>i)%2:=by
  show(m >>>i) &&& 1=_;rw[Nat.and_one_is_mod]
 unfold tb;rw[h,Nat.testBit_eq_decide_div_mod_eq,Nat.shiftRight_eq_div_pow];rw[Bool.eq_iff_iff];simp
def I4{n m i d}:(rA n m).getD i d=if i<n then tb m i else d:=by
 unfold rA;rw[Array.getD_eq_getD_getElem?];by_cases h:i<n<;>simp[h]
def WB(n m k):rA n (CG m k)=(rA n m).setIfInBounds k true:=by
 apply Array.ext;simp[rA];intro i h1 h2;have hi:i<n:=by simpa[rA]using h1
 rw[Array.getElem_setIfInBounds Uc];simp only[rA,List.getElem_toArray,List.getElem_map,List.getElem_range,RJ];have:(CG m k).testBit i=(m.testBit i ||(2^k).testBit i):=Nat.testBit_or _ _ _;rw[this,Nat.testBit_two_pow];by_cases e:k=i;simp[e];rw[if_neg e];simp[e]
def zGN(n):Array.replicate n false=rA n 0:=by
 apply Array.ext;simp[rA];intro i h1 h2;simp[rA,RJ]
def xr(ax:Array Oper)(m:Nat):List Nat:=(List.range ax.size).filter fun i=>!tb m i&&((ax[i]?).map (·.after.all fun e=>!Region.binds .any e ||(Nat.blt e.on ax.size&&tb m e.on))).getD false
def cj(ax:Array Oper)(m i:Nat):Bool:=match ax[i]? with
 |none=>false
 | some b => (List.range ax.size).all fun j => j == i || tb m j || match ax[j]? with
   |some a=>a.after.any (fun e=>Region.binds .any e&&e.on==i) || b.apart ax a
   |none=>true
def Dq(ax m):Region.ready .any ax (rA ax.size m)=xr ax m:=by
 unfold Region.ready xr;refine List.filter_congr fun i hi=>?_;have hi:=List.mem_range.1 hi;rw[I4,if_pos hi];congr 1;cases ax[i]? with
 |none=>rfl
 |some o =>
  simp only[Option.map_some,Option.getD_some]
  congr 1
  funext e
  rw[I4]
  by_cases h:e.on<ax.size
  rw[if_pos h,show Nat.blt e.on ax.size=true by rw[Nat.blt_eq];exact h,Bool.true_and]
  rw[if_neg h,show Nat.blt e.on ax.size=false from Bool.eq_false_iff.2 fun a=>h (by rw[Nat.blt_eq]at a;exact a)];simp
def Uw(ax m i):Region.free .any ax (rA ax.size m) i=cj ax m i:=by
 unfold Region.free cj;cases ax[i]? with
 |none=>rfl
 |some o =>
  simp only
  rw[Bool.eq_iff_iff,List.all_eq_true,List.all_eq_true]
  refine forall_congr' fun j=>forall_congr' fun a=>?_
  have a:=List.mem_range.1 a
  rw[I4,if_pos a]
  rfl
def J0(ax:Array Oper)(m:Nat)(loud:Nat->Bool)(k:Nat):Bool:=(xr ax m).contains k&&!loud k&&cj ax m k
def jbh(ax m l k):Gy ax (rA ax.size m) l k=J0 ax m l k:=by unfold Gy J0;rw[Dq,Uw]
inductive Fr where
 |t (c:Code)
 |b (id:Nat)
 |r (ax:Array Oper) (l:List Oper)
 |j (J:gb->World->Prop)
 |u (c y:Code)
 |p (ax:Array Oper) (l:List Oper)
inductive CE where
 |c (c:Code)
 |u (c y:Code)
 |p (ax:Array Oper) (l:List Oper)
 |r (ax:Array Oper) (l:List Oper)
 |d (ax:Array Oper) (q:Option World) (C:World->Prop) (H:Nat->Prop) (l:List mq) (ld fr:List Nat) (a:Nat) (b:Nat) (s:Option Nat)
 |x (e:Exit)
structure Cf where
 pos:CE
 fr:List Fr
 ρ:gb
 w:World
 kn:List (Nat×Bool)
def kl:List (Nat×Bool)->Nat->Option Bool
 |[],_=>none
 |(t,b) :: l,d=>cond (Nat.beq t d) (some b)<|kl l d
def BJ:List (Nat×Bool)->Nat->List (Nat×Bool)
 |[],_=>[]
 |(t,b) :: l,d=>cond (Nat.beq t d) (BJ l d) ((t,b) :: BJ l d)
def kd(l:List (Nat×Bool)):Option Nat->List (Nat×Bool)
 |none=>l
 |some d=>BJ l d
def Kn(c:Cf):Prop:=∀d b,kl c.kn d=some b->c.ρ d=.bool b
def D0:Value->Option Bool
 |.bool b=>some b
 |_=>none
def bK(kn:List (Nat×Bool))(ρ:gb):Operand->Option Bool
 |.tmp d=>match kl kn d with
  |some b=>some b
  |none=>D0<|ρ d
 |x=>D0<|gx ρ x
def yK(ax:Array Oper)(kn:List (Nat×Bool))(ρ:gb)(j:Nat):Option Bool:=
 match(ax[j]?).bind (·.dst)with
 |some d=>bK kn ρ<|.tmp d
 |none=>none
abbrev Bt:Cx:=⟨none,[]⟩
def Cl(q:Option World)(C:World->Prop)(H:Nat->Prop)(l:List mq)(x:World):Prop:=match q with
 |some w=>x=w
 |none=>C x/\HB H x l
section
variable (P:Program) (xx:Cx) (n:Nat) (Q:Exit->gb->World->Prop)
def Qf:List Fr->Exit->gb->World->Prop
 |[]=>Q
 |.t c :: a=>tp (fun ρ w=>de (x:=xx) P n c (Qf a) ρ w)<|Qf a
 |.b id :: a=>ya id<|Qf a
 |.r ax l :: a=>tp (fun ρ w=>cr P ax (fun ρ w=>Qf a .normal ρ w) l ρ w)<|Qf a
 |.j J :: a=>tp J<|Qf a
 |.u c y :: a=>tp (fun ρ w=>zi P n c y (Qf a) ρ w)<|Qf a
 |.p ax l :: a=>tp (fun ρ w=>qm P ax (fun ρ w=>Qf a .normal ρ w) (fun d w=>∀ρ,Qf a (.panic d) ρ w) l ρ w)<|Qf a
def Wq(c:Cf):Prop:=match c.pos with
 |.c k=>de (x:=xx) P n k (Qf P xx n Q c.fr) c.ρ c.w
 |.r ax l=>cr P ax (fun ρ w=>Qf P xx n Q c.fr .normal ρ w) l c.ρ c.w
 |.d ax q C H l ld fr a b none=>ed P ax (Cl q C H l) (yH ld) (yH fr) (fun ρ w=>Qf P xx n Q c.fr .normal ρ w) a (rA ax.size b) c.ρ c.w
 |.d ax q C H l ld fr a b (some k)=>dv P ax (Cl q C H l) (yH ld) (yH fr) k (ed P ax (Cl q C H l) (yH ld) (yH fr) (fun ρ w=>Qf P xx n Q c.fr .normal ρ w) a<|(rA ax.size b).setIfInBounds k true) c.ρ c.w
 |.u k y=>zi P n k y (Qf P xx n Q c.fr) c.ρ c.w
 |.p ax l=>qm P ax (fun ρ w=>Qf P xx n Q c.fr .normal ρ w) (fun f w=>∀ρ,Qf P xx n Q c.fr (.panic f) ρ w) l c.ρ c.w
 |.x e=>Qf P xx n Q c.fr e c.ρ c.w
def Wk(c:Cf):Prop:=Kn c->Wq P xx n Q c
end
def Ng(Q:Exit->gb->World->Prop):Prop:=∀l ρ w,¬Q (.goto l) ρ w
structure Fx where
 f:Func
 x:Cx
 sc:Nat
 hx:sc≠0->x=Bt
abbrev Fx.ntmps(U:Fx):Nat:=U.f.ntmps
abbrev Fx.results(U:Fx):=U.f.results
abbrev BN(f:Func):Fx:=⟨f,Bt,1,fun _=>rfl⟩
structure Qs where
 Q:Exit->gb->World->Prop
 ng:Ng Q
abbrev bq(P:Program)(f:Func)(R:Ending->World->Prop):Qs:=⟨Do P f f.ntmps R,fun _ _ _ h=>h⟩
def W(P:Program)(U:Fx)(R:Qs)(c:Cf):Prop:=Wk P U.x U.ntmps R.Q c
def Oj(ax:Array Oper)(ld:List Nat)(a:Nat):Option Nat:=
 match(xr ax a).find? (fun k=>!yH ld k)with
 |some k=>if J0 ax a (yH ld) k then some k else none
 |none=>match xr ax a with
  |[k]=>some k
  |_=>none
def jbq(o:Oper):Bool:=match o.op with
 |.panic _=>true
 |.call ⟨.value _,_,_⟩=>true
 |_=>false
def D7:Code->Bool
 |.block _ (.rangeFunc ..)=>true
 |_=>false
def sq(sc:Nat)(a b:Code):Option (CE×Option Fr):=match a with
 |.seq h k=>cond (D7 k&&!Nat.beq sc 0) (some (.c h,some<|.u k b)) none
 |k=>cond (D7 k&&!Nat.beq sc 0) (some (.u k b,none)) none
def s1(sc:Nat)(n:Nat)(c:Cf):Option (CE×List Fr):=match c.pos with
 |.c k=>match k with
  |.seq a b=>match sq sc a b with
   |some (p,some f)=>some (p,f :: c.fr)
   |some (p,none)=>some (p,c.fr)
   |none=>some (.c a,.t b :: c.fr)
  |.block id a=>some (.c a,.b id :: c.fr)
  |.skip=>some (.x .normal,c.fr)
  |.label _=>some (.x .normal,c.fr)
  |.ret=>some (.x .ret,c.fr)
  |.exit id=>some (.x<|.exit id,c.fr)
  |.scope a=>cond (Nat.beq sc 0) none<|some (.c a,c.fr)
  |.region _ ax false=>if sU n ax.toList&&!(Nat.beq sc 2&&ax.any jbq)then some (.r ax ax.toList,c.fr)else none
  |_=>none
 |.r _ []=>some (.x .normal,c.fr)
 |.p _ []=>some (.x .normal,c.fr)
 |.d ax _ _ _ _ ld _ 0 h none=>if(xr ax h).isEmpty then some (.x .normal,c.fr)else none
 |.d ax q C H l ld fr (m+1) h none=>match Oj ax ld h with
  |some k=>some (.d ax q C H l ld fr m h<|some k,c.fr)
  |none=>none
 |.x e=>match c.fr,e with
  |.t k :: g,.normal=>some (.c k,g)
  |.r ax l :: g,.normal=>some (.r ax l,g)
  |.u k y :: g,.normal=>some (.u k y,g)
  |.p ax l :: g,.normal=>some (.p ax l,g)
  |.b _ :: g,.normal=>some (.x .normal,g)
  |.b id :: g,.exit i=>if i=id then some (.x .normal,g)else some (.x<|.exit i,g)
  |.t _ :: g,.exit i=>some (.x<|.exit i,g)
  |.r _ _ :: g,.exit i=>some (.x<|.exit i,g)
  |.j _ :: g,.exit i=>some (.x<|.exit i,g)
  |.u _ _ :: g,.exit i=>some (.x<|.exit i,g)
  |.p _ _ :: g,.exit i=>some (.x<|.exit i,g)
  |_ :: g,.ret=>some (.x .ret,g)
  |_,_=>none
 |_=>none
def Ck(sc:Nat)(n:Nat):Nat->Cf->Cf
 |0,c=>c
 |f+1,c=>match s1 sc n c with
  |some (p,a)=>Ck sc n f ⟨p,a,c.ρ,c.w,c.kn⟩
  |none=>c
def tc(c:Cf):Option Oper:=match c.pos with
 |.r _ (o :: _)=>some o
 |.d ax _ _ _ _ _ _ _ _ (some k)=>ax[k]?
 |_=>none
def Az(c:Cf):Array Oper:=match c.pos with
 |.r ax _=>ax
 |.d ax _ _ _ _ _ _ _ _ _=>ax
 |_=>#[]
def su(c:Cf)(o:Oper):Bool:=Region.wanted o<|yK (Az c) c.kn c.ρ
def ga(c:Cf):Option Oper:=match tc c with
 |some o=>cond (su c o) (some o) none
 |none=>none
def uP(v:Value)(w':World)(c:Cf):Cf:=match c.pos with
 |.r ax (o :: l)=>⟨.r ax l,c.fr,put c.ρ o.dst v,w',kd c.kn o.dst⟩
 |.d ax q C H l ld fr a b (some k)=>match ax[k]? with
  |some o=>⟨.d ax q C H l ld fr a (CG b k) none,c.fr,put c.ρ o.dst v,w',kd c.kn o.dst⟩
  |none=>c
 |_=>c
def qv(c:Cf):Bool:=match c.pos with
 |.d ..=>true
 |_=>false
def qg(c:Cf):Bool:=match c.pos with
 |.d _ _ _ _ _ ld _ _ _ (some k)=>yH ld k
 |_=>false
def Hb(P:Program)(c:Cf)(o:Oper):Option (Option Value):=match o.op with
 |.pick x a b=>some (match bK c.kn c.ρ x with
  |some true=>some<|gx c.ρ a
  |some false=>some<|gx c.ρ b
  |none=>none)
 |.binOp .eql T x y _=>match gx c.ρ x,gx c.ρ y with
  |.string s,.string t=>some<|some<|.bool<|decide (s=t)
  |.pointer p,.pointer none=>match P.underlying T with
   |some (.pointer _)=>some<|some<|.bool p.isNone
   |_=>none
  |_,_=>none
 |.binOp .neq T x y _=>match gx c.ρ x,gx c.ρ y with
  |.string s,.string t=>some<|some<|.bool<|!decide (s=t)
  |.pointer p,.pointer none=>match P.underlying T with
   |some (.pointer _)=>some<|some<|.bool<|!p.isNone
   |_=>none
  |_,_=>none
 |_=>none
def o1(P:Program)(c:Cf):Option (Cf×List ((World->Result Next)×Value)):=
 match c.pos with
 |.c (.cond x a b)=>match bK c.kn c.ρ x with
  |some true=>some (⟨.c a,c.fr,c.ρ,c.w,c.kn⟩,[])
  |some false=>some (⟨.c b,c.fr,c.ρ,c.w,c.kn⟩,[])
  |none=>none
 |_=>match tc c with
  |none=>none
  |some o=>cond (su c o) (match Hb P c o with
   |some (some v)=>cond (qg c) none<|some (uP v c.w c,[])
   |some none=>none
   |none=>match(execOp (gx c.ρ) o).run P c.w with
    |.ok (.value v) w'=>cond (qv c) (cond (qg c) none<|some (uP v c.w c,[(fun x=>(execOp (gx c.ρ) o).run P x,v)]))<|some (uP v w' c,[])
    |.ok .skip w'=>cond (qv c) none<|some (uP undef w' c,[])
    |_=>none) (some (uP undef c.w c,[]))
structure Ad where
 c:Cf
 ok:Bool
 ds:List ((World->Result Next)×Value)
def ee(P:Program)(sc:Nat)(n:Nat):Nat->Cf->Ad
 |0,c=>⟨Ck sc n 99 c,true,[]⟩
 |k+1,c=>match o1 P (Ck sc n 99 c)with
  |some (c',d)=>match ee P sc n k c' with
   |⟨a,ok,ds⟩=>⟨a,ok,d++ds⟩
  |none=>⟨c,false,[]⟩
def Ad.gi(a:Ad):Bool×List (World->Result Next):=(a.ok,a.ds.map (·.1))
def Ad.so(a:Ad):Bool×List (World->Result Next):=(true,a.ds.map fun p w=>.ok (.value p.2) w)
def EF{d t b}:∀{l:List (Nat×Bool)},kl (BJ l t) d=some b->d≠t/\kl l d=some b
 |[],h=>by cases h
 |(s,c) :: l,h=>by
  simp only[BJ]at h;cases hs:Nat.beq s t with
  |true =>
   rw[hs]at h
   have:=EF (l:=l) h
   refine⟨this.1,?_⟩
   have h2:=Nat.eq_of_beq_eq_true hs
   subst h2
   have:Nat.beq s d=false:=by cases e:Nat.beq s d with
    |true=>exact absurd (Nat.eq_of_beq_eq_true e).symm this.1
    |false=>rfl
   simp only[kl,this,cond_false];exact(EF (l:=l) h).2
  |false =>
   rw[hs]at h
   simp only[cond_false,kl]at h|-
   cases e:Nat.beq s d with
   |true =>
    rw[e]at h
    refine⟨fun h2=>?_,h⟩
    subst h2;rw[hs]at e;cases e
   |false=>rw[e]at h;exact EF (l:=l) h
def Ha{d b}{l:List (Nat×Bool)}{o:Option Nat}(h:kl (kd l o) d=some b):o≠some d/\kl l d=some b:=by
 cases o with
 |none=>exact⟨nofun,h⟩
 |some t=>have:=EF h;exact⟨fun e=>this.1 (Option.some.inj e).symm,this.2⟩
def KN{ρ}{o:Option Nat}{d v}(h:o≠some d):put ρ o v d=ρ d:=by
 cases o with
 |none=>rfl
 |some t=>simp only[put,sM];rw[if_neg fun e=>h Uc]
def FF{c}(a:Kn c){x b}(h:bK c.kn c.ρ x=some b):gx c.ρ x=.bool b:=by
 cases x with
 |tmp d =>
  simp only[bK]at h
  split at h
  .rename_i e;cases h;exact a _ _ e
  .simp only[gx];generalize c.ρ d=v at h;cases v<;>simp only[D0]at h<;>first|(cases h;done)|(cases h;rfl)
 |_=>simp only[bK]at h;generalize gx c.ρ _=v at h;cases v<;>simp only[D0]at h<;>first|(cases h;done)|(cases h;rfl)
def wM{c}(a:Kn c)(ax):yK ax c.kn c.ρ=vK ax c.ρ:=by
 funext j;unfold yK vK;cases(ax[j]?).bind (·.dst)with
 |none=>rfl
 |some d =>
  simp only[bK]
  cases e:kl c.kn d with
  |some b=>rw[a _ _ e]
  |none=>simp only;generalize c.ρ d=v;cases v<;>rfl
section
variable {P:Program} {xx:Cx} {sc:Nat} {n:Nat} {Q:Exit->gb->World->Prop} {c c':Cf}
def zP(h:Ng Q):∀a,Ng (Qf P xx n Q a)
 |[]=>h
 |.t _ :: a=>fun l ρ w=>zP h a l ρ w
 |.b _ :: a=>fun l ρ w=>zP h a l ρ w
 |.r _ _ :: a=>fun l ρ w=>zP h a l ρ w
 |.j _ :: a=>fun l ρ w=>zP h a l ρ w
 |.u _ _ :: a=>fun l ρ w=>zP h a l ρ w
 |.p _ _ :: a=>fun l ρ w=>zP h a l ρ w
def jdj{ρ w}(f:Fr)(a:List Fr):Qf P xx n Q (f ::a) .ret ρ w=Qf P xx n Q a .ret ρ w:=by cases f<;>rfl
def Rj{a b p o}(h:sq sc a b=some (p,o)):(∃h k,a=.seq h k/\sc≠0/\p=.c h/\o=some (.u k b))\/(sc≠0/\p=.u a b/\o=none):=by
 unfold sq at h;split at h;rename_i d k';cases e:D7 k'&&!Nat.beq sc 0<;>rw[e]at h<;>cases h;exact .inl ⟨_,_,rfl,(by simp at e;exact Nat.ne_of_beq_eq_false e.2),rfl,rfl⟩;cases e:D7 a&&!Nat.beq sc 0<;>rw[e]at h<;>cases h;exact .inr ⟨(by simp at e;exact Nat.ne_of_beq_eq_false e.2),rfl,rfl⟩
def SQ(r:Ng Q)(hx:sc≠0->xx=Bt){p:CE}{j:List Fr}(h:s1 sc n c=some (p,j))(k:Wq P xx n Q ⟨p,j,c.ρ,c.w,c.kn⟩):Wq P xx n Q c:=by
 have⟨pos,fr,ρ,w,kn⟩:=c;unfold s1 at h;simp only at h;split at h;split at h;rename_i a b;split at h;rename_i hs;cases h;obtain⟨_,_,rfl,h1,rfl,h2⟩|⟨_,_,h2⟩:=Rj hs;cases h2;have:=hx h1;subst this;exact VV k;cases h2;rename_i hs;cases h;obtain⟨_,_,rfl,h1,rfl,h2⟩|⟨h1,rfl,_⟩:=Rj hs;cases h2;have:=hx h1;subst this;exact zFB k;cases h;exact vh k;cases h;exact zAR k;cases h;exact EH k;cases h;exact Wu k;cases h;exact MV k;cases h;exact zFD k;cases f:Nat.beq sc 0 with
 |true=>rw[f]at h;cases h
 |false=>rw[f]at h;cases h;have:=hx<|Nat.ne_of_beq_eq_false f;subst this;exact Zy rfl (zP r _) k
 rename_i ax;split at h;rename_i i;have i:=(Bool.and_eq_true ..▸i).1;cases h;have:=fun id=>Qq (x:=xx) (id:=id) (Q:=Qf P xx n Q _) i (by rw[Array.toArray_toList];exact k);simp only[Array.toArray_toList]at this;exact this _;cases h;cases h;rename_i ax;cases h;exact tN (P:=P) (ax:=ax) k;cases h;exact k;split at h;rename_i ax q C H l ld g s e;cases h;exact zJR (P:=P) (C:=Cl q C H l) (loud:=yH ld) (free:=yH g) (by rw[Dq];simpa using e) k;cases h;split at h;rename_i k' d;cases h;unfold Oj at d;split at d;split at d;rename_i o;cases d;exact Zx (by rw[jbh];exact o) k;cases d;split at d;rename_i m;cases d;exact lgo (by rw[Dq];exact m) k;cases d;cases h;split at h;cases h;exact k;cases h;exact k;cases h;exact k;cases h;exact k;cases h;exact k;split at h;rename_i e;cases h;subst e;exact jcR k;rename_i e;cases h;exact UJ Uc k;cases h;exact k;cases h;exact k;cases h;exact k;cases h;exact k;cases h;exact k;cases h;exact Eq.mpr (jdj _ _) k;cases h;cases h
def IN(a:Ng Q)(hx:sc≠0->xx=Bt):∀(f:Nat) {c:Cf},Wk P xx n Q (Ck sc n f c)->Wk P xx n Q c
 |0,_,k=>k
 |f+1,c,k=>by
  unfold Ck at k;split at k;rename_i p d h;exact fun b=>SQ a hx h<|IN a hx f k b;exact k
def need(c:Cf):World->Prop:=match c.pos with
 |.d _ q C H l _ _ _ _ _=>Cl q C H l
 |_=>fun x=>x=c.w
def vk(a:Kn c)(v w'):Kn (uP v w' c):=by
 unfold uP;split;intro d b h;have:=Ha h;exact(KN this.1).trans<|a _ _ this.2;split;intro d b h;have:=Ha h;exact(KN this.1).trans<|a _ _ this.2;exact a;exact a
def wR{o v w'}(hh:tc c=some o)(a:qv c=false):∃ax l,c.pos=.r ax (o ::l)/\Az c=ax/\uP v w' c=⟨.r ax l,c.fr,put c.ρ o.dst v,w',kd c.kn o.dst⟩:=by
 unfold tc at hh;split at hh;rename_i h1;cases hh;exact⟨_,_,h1,by unfold Az;rw[h1],by unfold uP;rw[h1]⟩;rename_i h1;simp[qv,h1]at a;cases hh
def Ar{o v w'}(hh:tc c=some o)(a:qv c=true):∃ax q C H l ld fr b e k,c.pos=.d ax q C H l ld fr b e (some k)/\Az c=ax/\ax[k]?=some o/\qg c=yH ld k/\uP v w' c=⟨.d ax q C H l ld fr b (CG e k) none,c.fr,put c.ρ o.dst v,w',kd c.kn o.dst⟩:=by
 unfold tc at hh;split at hh;rename_i h1;simp[qv,h1]at a;rename_i h1;exact⟨_,_,_,_,_,_,_,_,_,_,h1,by unfold Az;rw[h1],hh,by unfold qg;rw[h1],by unfold uP;simp[h1,hh]⟩;cases hh
def yn{o}(a:ga c=some o):tc c=some o/\su c o=true:=by
 unfold ga at a;split at a;grind;cases a
def Bd{ax l}(h:c.pos=.r ax l):Wq P xx n Q c=cr P ax (fun ρ w=>Qf P xx n Q c.fr .normal ρ w) l c.ρ c.w:=by unfold Wq;rw[h]
def AL{ax}{q:Option World}{C H l ld fr fu}{a:Nat}{k}(h:c.pos=.d ax q C H l ld fr fu a (some k)):Wq P xx n Q c=dv P ax (Cl q C H l) (yH ld) (yH fr) k (ed P ax (Cl q C H l) (yH ld) (yH fr) (fun ρ w=>Qf P xx n Q c.fr .normal ρ w) fu<|rA ax.size<|CG a k) c.ρ c.w:=by unfold Wq;rw[h,WB]
def JF{o v}(h:ga c=some o)(f:qg c=false)(e:Kn c->∀x,need c x->(execOp (gx c.ρ) o).run P x=.ok (.value v) x)(k:Wk P xx n Q (uP v c.w c)):Wk P xx n Q c:=by
 intro d;have⟨hh,a⟩:=yn h;unfold su at a;rw[wM d]at a;replace k:=k<|vk d _ _;cases b:qv c with
 |false =>
  have⟨ax,l,h1,h2,h3⟩:=wR (v:=v) (w':=c.w) hh b
  rw[h2]at a;rw[h3]at k;rw[Bd h1]
  exact kg a (e d _ (by unfold need;rw[h1])) k
 |true =>
  have⟨ax,q,C,H,l,ld,fr,m,p,j,h1,h2,g,i,h3⟩:=Ar (v:=v) (w':=c.w) hh b
  rw[h2]at a;rw[h3]at k;rw[AL h1];rw[i]at f
  exact sx g a f (fun x hx=>e d x (by unfold need;rw[h1];exact hx)) k
def YN{o}(hh:tc c=some o)(a:su c o=false)(k:Wk P xx n Q (uP undef c.w c)):Wk P xx n Q c:=by
 intro d;unfold su at a;rw[wM d]at a;replace k:=k<|vk d _ _;cases b:qv c with
 |false =>
  have⟨ax,l,h1,h2,h3⟩:=wR (v:=undef) (w':=c.w) hh b
  rw[h2]at a;rw[h3]at k;rw[Bd h1]
  exact UB a k
 |true =>
  have⟨ax,q,C,H,l,ld,fr,f,h,j,h1,h2,e,g,h3⟩:=Ar (v:=undef) (w':=c.w) hh b
  rw[h2]at a;rw[h3]at k;rw[AL h1]
  exact TH e a k
def Q9{o v w'}(e:ga c=some o)(b:qv c=false)(f:(execOp (gx c.ρ) o).run P c.w=.ok (.value v) w')(k:Wk P xx n Q (uP v w' c)):Wk P xx n Q c:=by
 intro d;have⟨hh,a⟩:=yn e;unfold su at a;rw[wM d]at a;replace k:=k<|vk d _ _;have⟨ax,l,h1,h2,h3⟩:=wR (v:=v) (w':=w') hh b;rw[h2]at a;rw[h3]at k;rw[Bd h1];exact st a f k
def Qh{o w'}(e:ga c=some o)(b:qv c=false)(f:(execOp (gx c.ρ) o).run P c.w=.ok .skip w')(k:Wk P xx n Q (uP undef w' c)):Wk P xx n Q c:=by
 intro d;have⟨hh,a⟩:=yn e;unfold su at a;rw[wM d]at a;replace k:=k<|vk d _ _;have⟨ax,l,h1,h2,h3⟩:=wR (v:=undef) (w':=w') hh b;rw[h2]at a;rw[h3]at k;rw[Bd h1];exact MH a f k
def jbD(a:Kn c){o v}(h:Hb P c o=some (some v))(y):(execOp (gx c.ρ) o).run P y=.ok (.value v) y:=by
 have⟨dst,op,ty,pos,aft,g⟩:=o;unfold Hb at h;simp only at h;split at h;split at h;rename_i hx;cases h;exact zJL (FF a hx) rfl rfl;rename_i hx;cases h;exact VN (FF a hx) rfl rfl;cases h;split at h;rename_i h1 h2;cases h;exact zJK h1 h2;rename_i h1 h2;split at h;rename_i h3;cases h;exact KB h1 h2 h3;cases h;cases h;split at h;rename_i h1 h2;cases h;exact Uz h1 h2;rename_i h1 h2;split at h;rename_i h3;cases h;exact UM h1 h2 h3;cases h;cases h;cases h
def jbU{d:List ((World->Result Next)×Value)}(h:o1 P c=some (c',d))(hs:d.map (·.1)=d.map fun p w=>.ok (.value p.2) w)(k:Wk P xx n Q c'):Wk P xx n Q c:=by
 unfold o1 at h;split at h;rename_i x a b q;intro g;have⟨pos,r,ρ,w,kn⟩:=c;simp only at q;subst q;split at h;rename_i hx;cases h;exact UR (FF g hx)<|k g;rename_i hx;cases h;exact zAQ (FF g hx)<|k g;cases h;split at h;cases h;rename_i o hh;cases j:su c o with
 |false=>rw[j]at h;cases h;exact YN hh j k
 |true =>
  have i:ga c=some o:=by unfold ga;rw[hh];simp only[j,cond_true]
  rw[j]at h
  simp only[cond_true]at h
  split at h
  rename_i v m
  cases f:qg c with
  |true=>rw[f]at h;cases h
  |false=>rw[f]at h;cases h;exact JF i f (fun g y _=>jbD g m y) k
  cases h
  split at h
  rename_i v w' l
  cases e:qv c with
  |true =>
   rw[e]at h
   cases f:qg c with
   |true=>rw[f]at h;cases h
   |false =>
    rw[f]at h
    cases h
    simp only[List.map_cons,List.map_nil,List.cons.injEq,and_true]at hs
    exact JF i f (fun _ x _=>congrFun hs x) k
  |false =>
   rw[e]at h
   cases h
   exact Q9 i e l k
  rename_i w' l
  cases e:qv c with
  |true=>rw[e]at h;cases h
  |false=>rw[e]at h;cases h;exact Qh i e l k
  cases h
def I6(a:Ng Q)(hx:sc≠0->xx=Bt):∀(m:Nat) {c:Cf},(ee P sc n m c).gi=(ee P sc n m c).so->Wk P xx n Q (ee P sc n m c).c->Wk P xx n Q c
 |0,c,_,k=>IN a hx 99 k
 |m+1,c,hs,k=>by
  unfold ee at hs k;split at hs;rename_i c' d h1;rw[h1]at k;simp only at hs k;have b:(ee P sc n m c').gi=(ee P sc n m c').so/\d.map (·.1)=d.map fun p w=>.ok (.value p.2) w:=by
   simp only[Ad.gi,Ad.so,List.map_append,Prod.mk.injEq]at hs|-;have⟨e,h2⟩:=hs;have:=List.append_inj h2 Sm;exact⟨⟨e,this.2⟩,this.1⟩
  exact IN a hx 99<|jbU h1 b.2<|I6 a hx m b.1 k;simp[Ad.gi,Ad.so]at hs
end
def W.on{P U R c}(m)(hs:(ee P U.sc U.ntmps m c).gi=(ee P U.sc U.ntmps m c).so)(k:W P U R (ee P U.sc U.ntmps m c).c):W P U R c:=I6 R.ng U.hx m hs k
end Go.SE
end
section
namespace Go.SE
variable {Z:List (Nat×Obj)}
def jy.nz{H w l}(h:jy Z H w l):HB H w l:=⟨h.box,h.wk,h.ne,fun x hx=>Uc⟩
def GG(π A X:Prop):Prop:=π->A->X
structure HS(Z:List (Nat×Obj))(w0:World)(Hv:Nat->Prop)(wv:World)(H:Nat->Prop)(w:World)(l:List mq):Prop where
 s:au w0 Hv wv H w
 b:jy Z H w l
abbrev aa(P:Program)(U:Fx)(m:Nat)(c:Cf):Ad:=ee P U.sc U.ntmps m c
abbrev vv(P:Program)(U:Fx)(m:Nat)(c:Cf):Cf:=(ee P U.sc U.ntmps m c).c
def pv(v:Value)(c:Cf):Cf:=uP v c.w c
def yS(U:Func):Code:=U.body.getD .skip
section
variable {π A X:Prop} {α β γ δ ε ζ η θ ι κ:Type}
def xe{p:α->Prop}(k:∀{a},GG π (p a) X):GG π (∃a,p a) X:=fun h ⟨_,q⟩=>k h q
def dd{p:α->β->Prop}(k:∀{a b},GG π (p a b) X):GG π (∃a b,p a b) X:=fun h ⟨_,_,q⟩=>k h q
def rW{p:α->β->γ->Prop}(k:∀{a b c},GG π (p a b c) X):GG π (∃a b c,p a b c) X:=fun h ⟨_,_,_,q⟩=>k h q
def Hk{p:α->β->γ->δ->Prop}(k:∀{a b c d},GG π (p a b c d) X):GG π (∃a b c d,p a b c d) X:=fun h ⟨_,_,_,_,q⟩=>k h q
def ia{p:α->β->γ->δ->ε->Prop}(k:∀{a b c d e},GG π (p a b c d e) X):GG π (∃a b c d e,p a b c d e) X:=fun h ⟨_,_,_,_,_,q⟩=>k h q
def dh{p:α->β->γ->δ->ε->ζ->Prop}(k:∀{a b c d e f},GG π (p a b c d e f) X):GG π (∃a b c d e f,p a b c d e f) X:=fun h ⟨_,_,_,_,_,_,q⟩=>k h q
def yy{p:α->Prop}{e:α}(k:GG π (p e) X):GG π (∀y,y=e->p y) X:=fun h q=>k h<|q e rfl
def fx{F r:Prop}(k:F->GG π r X):GG π (F/\r) X:=fun h q=>k q.1 h q.2
end
section
variable {w0 wv w:World} {Hv H:Nat->Prop} {l:List mq} {X:Prop}
def an{r:World->Prop}(k:GG (HS Z w0 H w H w l) (r w) X):GG (HS Z w0 H wv H w l) (∀w',au w0 H wv H w'->r w') X:=fun h q=>k ⟨h.s.jj,h.b⟩<|q w h.s
def ah{r:(Nat->Prop)->World->Prop}(k:GG (HS Z w0 H w H w l) (r H w) X):GG (HS Z w0 Hv wv H w l) (∀a w',au w0 Hv wv a w'->r a w') X:=fun h q=>k ⟨h.s.jj,h.b⟩<|q H w h.s
end
def wN(c:Cf):Option World:=match c.pos with
 |.d _ q _ _ _ _ _ _ _ _=>q
 |_=>some c.w
def pZ(c:Cf):Option (World->Prop):=match c.pos with
 |.d _ none C _ _ _ _ _ _ _=>some C
 |_=>none
def tk(c:Cf):Nat->Prop:=match c.pos with
 |.d _ _ _ H _ _ _ _ _ _=>H
 |_=>bl
def qn(c:Cf):List mq:=match c.pos with
 |.d _ _ _ _ l _ _ _ _ _=>l
 |_=>[]
def pV(c:Cf):Bool:=match c.pos with
 |.d _ _ _ _ _ _ fr _ _ (some k)=>yH fr k
 |_=>true
def oo(c:Cf):Bool:=match c.pos with
 |.d _ _ _ _ _ ld _ _ _ (some k)=>yH ld k
 |.d ..=>false
 |_=>true
section
variable {P:Program} {xx:Cx} {n:Nat} {Q:Exit->gb->World->Prop} {c:Cf}
def AJ{w}(h:wN c=some w)(x)(hx:need c x):x=w:=by
 have⟨pos,fr,ρ,w',kn⟩:=c;cases pos with
 |d ax q C H l ld fr a b s=>simp only[wN]at h;subst h;exact hx
 |_=>simp only[wN,Option.some.injEq]at h;subst h;exact hx
def xG{C}(h:pZ c=some C)(x):need c x↔C x/\HB (tk c) x (qn c):=by
 unfold pZ at h;unfold need tk qn;split at h;rename_i e;rw[e];cases h;exact Iff.rfl;cases h
def SB{o v w'}(d:ga c=some o)(m:oo c=true)(e:(execOp (gx c.ρ) o).run P c.w=.ok (.value v) w')(i:pV c=true\/need c w')(k:Wk P xx n Q (uP v w' c)):Wk P xx n Q c:=by
 cases a:qv c with
 |false=>exact Q9 d a e k
 |true =>
  intro f
  have⟨hh,b⟩:=yn d
  unfold su at b
  rw[wM f]at b
  replace k:=k<|vk f _ _
  have⟨ax,q,C,H,l,ld,fr,p,s,j,h1,h2,g,r,h3⟩:=Ar (v:=v) (w':=w') hh a
  rw[h2]at b;rw[h3]at k;rw[AL h1]
  refine sl g b (by simpa[oo,h1]using m) e (i.imp (fun h=>by simpa[pV,h1]using h) fun h=>?_) k
  unfold need at h;rw[h1]at h;exact h
def Kg{o w'}(d:ga c=some o)(m:oo c=true)(e:(execOp (gx c.ρ) o).run P c.w=.ok .skip w')(i:pV c=true\/need c w')(k:Wk P xx n Q (uP undef w' c)):Wk P xx n Q c:=by
 cases a:qv c with
 |false=>exact Qh d a e k
 |true =>
  intro f
  have⟨hh,b⟩:=yn d
  unfold su at b
  rw[wM f]at b
  replace k:=k<|vk f _ _
  have⟨ax,q,C,H,l,ld,fr,p,s,j,h1,h2,g,r,h3⟩:=Ar (v:=undef) (w':=w') hh a
  rw[h2]at b;rw[h3]at k;rw[AL h1]
  refine YQ g b (by simpa[oo,h1]using m) e (i.imp (fun h=>by simpa[pV,h1]using h) fun h=>?_) k
  unfold need at h;rw[h1]at h;exact h
def Tc{o f args}(r:ga c=some o)(x:oo c=true)(p:(execOp (gx c.ρ) o).run P c.w=.ok (.enter f args) c.w)(k:Calls P f args c.w fun e w1=>∃v,e=.returned v/\(pV c=true\/need c w1)/\Wk P xx n Q (uP v w1 c)):Wk P xx n Q c:=by
 intro i;have⟨hh,d⟩:=yn r;unfold su at d;rw[wM i]at d;cases b:qv c with
 |false =>
  have⟨ax,l,h1,h2,_⟩:=wR (v:=undef) (w':=c.w) hh b
  rw[h2]at d;rw[Bd h1]
  refine zJZ d p<|k.mono fun e w1 ⟨v,m,_,k⟩=>⟨v,m,?_⟩
  have⟨g,l',a,u,h3⟩:=wR (v:=v) (w':=w1) hh b
  rw[h1]at a;cases a
  replace k:=k<|vk i _ _
  rw[h3]at k;exact k
 |true =>
  have⟨ax,q,C,H,l,ld,fr,E,J,j,h1,h2,y,F,_⟩:=Ar (v:=undef) (w':=c.w) hh b
  rw[h2]at d;rw[AL h1]
  refine zKC y d (by simpa[oo,h1]using x) p (k.mono fun e w1 ⟨v,m,z,k⟩=>⟨v,m,z.imp (fun h=>by simpa[pV,h1]using h) fun h=>?_,?_⟩)
  unfold need at h;rw[h1]at h;exact h
  have⟨g,I,D,K,l',t,A,s,B,G,a,_,_,_,h3⟩:=Ar (v:=v) (w':=w1) hh b
  rw[h1]at a;cases a
  replace k:=k<|vk i _ _
  rw[h3]at k;exact k
end
section
variable {P:Program} {U:Fx} {R:Qs} {c:Cf} {π A:Prop}
def gh{f fd args w}{R:Ending->World->Prop}(b:P.funcs[f]?=some fd)(h:A)(k:GG (HS [] w bl w bl w []) A (W P (BN fd) (bq P fd R) ⟨.c<|yS fd,[],xA args,w,[]⟩))(d:(fd.body.isSome,Nat.ble args.length fd.ntmps)=(true,true):=by as_aux_lemma=>kernel_rfl):Calls P f args.toArray w R:=by
 have⟨h1,h2⟩:=Prod.mk.inj d;have⟨e,a⟩:=Option.isSome_iff_exists.1 h1;refine jPC b a rfl (Nat.le_of_ble_eq_true h2) ?_;have:=k ⟨au.start w,HB.nil bl w⟩ h;unfold yS at this;rw[a]at this;exact this (fun _ _ h=>by cases h)
def gg{f fd args w}{R:Ending->World->Prop}(b:P.funcs[f]?=some fd)(h:A)(k:GG True A (W P (BN fd) (bq P fd R) ⟨.c<|yS fd,[],xA args,w,[]⟩))(a:(fd.body.isSome,Nat.ble args.length fd.ntmps)=(true,true):=by as_aux_lemma=>kernel_rfl):Calls P f args.toArray w R:=
 gh b h (fun _ h=>k trivial h) a
def xp{o v}(m)(hs:(aa P U m c).gi=(aa P U m c).so)(a:ga (vv P U m c)=some o)(d:qg (vv P U m c)=false)(b:∀x,need (vv P U m c) x->(execOp (gx (vv P U m c).ρ) o).run P x=.ok (.value v) x)(k:W P U R (pv v<|vv P U m c)):W P U R c:=
 W.on m hs<|JF a d (fun _=>b) k
def wz(P:Program)(c:Cf):Option (Value×(World->Result Bool)×Bool):=match ga c with
 |some ⟨_,.load T x,_,_,_,_⟩=>some (gx c.ρ x,fun y=>(isAgg T).run P y,qg c)
 |_=>none
def Bw{p v}(m)(hs:(aa P U m c).gi=(aa P U m c).so)(h:wz P (vv P U m c)=some (.pointer<|some p,fun y=>.ok false y,false))(b:∀x,need (vv P U m c) x->x.cell? p=some v)(k:W P U R (pv v<|vv P U m c)):W P U R c:=by
 unfold wz at h;split at h;rename_i a;simp only[Option.some.injEq,Prod.mk.injEq]at h;exact xp m hs a h.2.2 (fun x hx=>rT h.1 (congrFun h.2.1 x)<|b x hx) k;cases h
def ld{α:Type}{F:α->Value}{r:α->Prop}{a w}(m)(k:∀{v},GG π (r v)<|W P U R<|pv (F v)<|vv P U m c)(h:((aa P U m c).gi,wz P<|vv P U m c,wN<|vv P U m c)=((aa P U m c).so,some (.pointer<|some a,fun y=>.ok false y,false),some w):=by as_aux_lemma=>kernel_rfl):GG π (∃v,w.cell? a=some (F v)/\r v) (W P U R c):=by
 rintro b ⟨v,e,d⟩;simp only[Prod.mk.injEq]at h;exact Bw m h.1 h.2.1 (fun x hx=>by rw[AJ h.2.2 x hx];exact e) (k b d)
def km{α:Type}{F:α->Value}{r:α->Prop}{a C}(m)(k:∀{v},GG π (r v)<|W P U R<|pv (F v)<|vv P U m c)(h:((aa P U m c).gi,wz P<|vv P U m c,pZ<|vv P U m c)=((aa P U m c).so,some (.pointer<|some a,fun y=>.ok false y,false),some C):=by as_aux_lemma=>kernel_rfl):GG π (∃v,(∀w',C w'->w'.cell? a=some (F v))/\r v) (W P U R c):=by
 rintro b ⟨v,e,d⟩;simp only[Prod.mk.injEq]at h;exact Bw m h.1 h.2.1 (fun x hx=>e x ((xG h.2.2 x).1 hx).1)<|k b d
def wW(P:Program)(c:Cf):Option (Value×(World->Result Bool)×(World->Result Nat)×Bool):=match ga c with
 |some ⟨_,.load T x,_,_,_,_⟩=>some (gx c.ρ x,fun y=>(isAgg T).run P y,fun y=>(sizeOf T).run P y,qg c)
 |_=>none
def C9{p vs}(m)(hs:(aa P U m c).gi=(aa P U m c).so)(h:wW P (vv P U m c)=some (.pointer<|some p,fun y=>.ok true y,fun y=>.ok vs.length y,false))(b:∀x,need (vv P U m c) x->Row x p vs)(k:W P U R (pv (.agg vs.toArray)<|vv P U m c)):W P U R c:=by
 unfold wW at h;split at h;rename_i a;simp only[Option.some.injEq,Prod.mk.injEq]at h;exact xp m hs a h.2.2.2 (fun x hx=>RQ h.1 (congrFun h.2.1 x) (congrFun h.2.2.1 x) rfl (b x hx)) k;cases h
def lr{r:Prop}{vs a w}(m)(k:GG π r (W P U R<|pv (.agg vs.toArray)<|vv P U m c))(h:((aa P U m c).gi,wW P<|vv P U m c,wN<|vv P U m c)=((aa P U m c).so,some (.pointer<|some a,fun y=>.ok true y,fun y=>.ok vs.length y,false),some w):=by as_aux_lemma=>kernel_rfl):GG π (Row w a vs/\r) (W P U R c):=by
 rintro b ⟨e,d⟩;simp only[Prod.mk.injEq]at h;exact C9 m h.1 h.2.1 (fun x hx=>by rw[AJ h.2.2 x hx];exact e) (k b d)
def wD{r:Prop}{vs a C}(m)(k:GG π r (W P U R<|pv (.agg vs.toArray)<|vv P U m c))(h:((aa P U m c).gi,wW P<|vv P U m c,pZ<|vv P U m c)=((aa P U m c).so,some (.pointer<|some a,fun y=>.ok true y,fun y=>.ok vs.length y,false),some C):=by as_aux_lemma=>kernel_rfl):GG π ((∀w',C w'->Row w' a vs)/\r) (W P U R c):=by
 rintro b ⟨e,d⟩;simp only[Prod.mk.injEq]at h;exact C9 m h.1 h.2.1 (fun x hx=>e x ((xG h.2.2 x).1 hx).1)<|k b d
def di(l:List mq)(i:Nat):List Value:=match l[i]? with
 |some (_,cs,_)=>cs
 |none=>[]
def fa(l:List mq)(i j:Nat):Value:=(di l i).getD j undef
def dw(l:List mq)(i:Nat)(a:List Nat):Addr:=match l[i]? with
 |some (p,_,_)=>a.foldl Addr.add p
 |none=>⟨0,0,none⟩
def sum:List Nat->Nat
 |[]=>0
 |j :: a=>j+sum a
def N4(p:Addr):∀(a:List Nat) (k:Nat),a.foldl Addr.add (p.add k)=p.add (k+sum a)
 |[],k=>rfl
 |j :: a,k=>by rw[List.foldl_cons,qN,N4 p a,sum,Nat.add_assoc]
def ES(p)(a:List Nat):a.foldl Addr.add p=p.add (sum a):=by
 have:=N4 p a 0;rwa [Nat.zero_add]at this
def wY{H x l}(c:jy Z H x l){i js}(a:Nat.blt (sum js) (di l i).length=true):x.cell? (dw l i js)=some (fa l i<|sum js):=by
 unfold di at a;unfold dw fa di;split at a;rename_i p cs T e;rw[ES];have b:sum js<cs.length:=of_decide_eq_true Uc;refine c.cell i (sum js) e ?_;rw[List.getD_eq_getElem?_getD,List.getElem?_eq_getElem b];rfl;cases a
def wV{H x l}(b:jy Z H x l){i n js}(a:Nat.ble (sum js+n) (di l i).length=true)(c:0<n):Row x (dw l i js) (((di l i).drop<|sum js).take n):=by
 unfold di at a|-;unfold dw;split at a;rename_i p cs T e;rw[ES];exact b.row i (sum js) n e rfl;have:=Nat.le_of_ble_eq_true a;simp at this;omega
def lh{w0 wv w Hv H l}(m i js)(k:GG (HS Z w0 Hv wv H w l) A (W P U R<|pv (fa l i<|sum js)<|vv P U m c))(h:((aa P U m c).gi,wz P<|vv P U m c,wN<|vv P U m c,Nat.blt (sum js) (di l i).length)=((aa P U m c).so,some (.pointer<|some<|dw l i js,fun y=>.ok false y,false),some w,true):=by as_aux_lemma=>kernel_rfl):GG (HS Z w0 Hv wv H w l) A (W P U R c):=by
 intro a d;simp only[Prod.mk.injEq]at h;exact Bw m h.1 h.2.1 (fun x hx=>by rw[AJ h.2.2.1 x hx];exact wY a.b h.2.2.2) (k a d)
def ki(m i js)(k:GG π A (W P U R<|pv (fa (qn<|vv P U m c) i<|sum js)<|vv P U m c))(h:((aa P U m c).gi,wz P<|vv P U m c,(pZ<|vv P U m c).isSome,Nat.blt (sum js) (di (qn<|vv P U m c) i).length)=((aa P U m c).so,some (.pointer<|some<|dw (qn<|vv P U m c) i js,fun y=>.ok false y,false),true,true):=by as_aux_lemma=>kernel_rfl):GG π A (W P U R c):=by
 intro a d;simp only[Prod.mk.injEq]at h;have⟨C,b⟩:=Option.isSome_iff_exists.1 h.2.2.1;exact Bw m h.1 h.2.1 (fun x hx=>wY ((xG b x).1 hx).2 h.2.2.2)<|k a d
def j9{w0 wv w Hv H l}(m i js n)(k:GG (HS Z w0 Hv wv H w l) A (W P U R<|pv (.agg (((di l i).drop<|sum js).take n).toArray)<|vv P U m c))(h:((aa P U m c).gi,wW P<|vv P U m c,wN<|vv P U m c,Nat.ble (sum js+n) (di l i).length,Nat.blt 0 n)=((aa P U m c).so,some (.pointer<|some<|dw l i js,fun y=>.ok true y,fun y=>.ok (((di l i).drop<|sum js).take n).length y,false),some w,true,true):=by as_aux_lemma=>kernel_rfl):GG (HS Z w0 Hv wv H w l) A (W P U R c):=by
 intro a d;simp only[Prod.mk.injEq]at h;exact C9 m h.1 h.2.1 (fun x hx=>by rw[AJ h.2.2.1 x hx];exact wV a.b h.2.2.2.1<|by simpa[Nat.blt_eq]using h.2.2.2.2) (k a d)
def qa(m i js n)(k:GG π A (W P U R<|pv (.agg (((di (qn<|vv P U m c) i).drop<|sum js).take n).toArray)<|vv P U m c))(h:((aa P U m c).gi,wW P<|vv P U m c,(pZ<|vv P U m c).isSome,Nat.ble (sum js+n) (di (qn<|vv P U m c) i).length,Nat.blt 0 n)=((aa P U m c).so,some (.pointer<|some<|dw (qn<|vv P U m c) i js,fun y=>.ok true y,fun y=>.ok (((di (qn<|vv P U m c) i).drop<|sum js).take n).length y,false),true,true,true):=by as_aux_lemma=>kernel_rfl):GG π A (W P U R c):=by
 intro a d;simp only[Prod.mk.injEq]at h;have⟨C,b⟩:=Option.isSome_iff_exists.1 h.2.2.1;exact C9 m h.1 h.2.1 (fun x hx=>wV ((xG b x).1 hx).2 h.2.2.2.1 Uc)<|k a d
end
section
variable {P:Program} {U:Fx} {R:Qs} {c:Cf} {π A:Prop}
def Ow(c:Cf):Option (Value×Bool):=match ga c with
 |some ⟨_,.nilCheck x,_,_,_,_⟩=>some (gx c.ρ x,qg c)
 |_=>none
def nc{r:Addr->Prop}{p}(m)(k:∀{a},GG π (r a)<|W P U R<|pv (.pointer<|some a)<|vv P U m c)(h:((aa P U m c).gi,Ow<|vv P U m c)=((aa P U m c).so,some (.pointer p,false)):=by as_aux_lemma=>kernel_rfl):GG π (∃a,p=some a/\r a) (W P U R c):=by
 rintro b ⟨a,f,e⟩;simp only[Prod.mk.injEq]at h;have⟨g,h⟩:=h;unfold Ow at h;split at h;rename_i d;simp only[Option.some.injEq,Prod.mk.injEq]at h;exact xp m g d h.2 (fun x _=>jYA h.1 f)<|k b e;cases h
def Fy:Value->Option Int
 |.int _ i=>some i
 |_=>none
def Oz{v i}(h:Fy v=some i):∃k,v=.int k i:=by
 cases v<;>simp only[Fy]at h<;>first|(cases h;done)|(cases h;exact⟨_,rfl⟩)
def K0(P:Program)(c:Cf):Option (Value×Option Int×(World->Result Nat)×Bool):=match ga c with
 |some ⟨_,.indexAddr T x i,_,_,_,_⟩=>match P.underlying T with
  |some (.slice e)=>some (gx c.ρ x,Fy<|gx c.ρ i,fun y=>(sizeOf e).run P y,qg c)
  |_=>none
 |_=>none
def ix{r:Addr->Prop}{s i n}(m)(k:∀{a},GG π (r a)<|W P U R<|pv (.pointer<|some a)<|vv P U m c)(h:((aa P U m c).gi,K0 P<|vv P U m c)=((aa P U m c).so,some (s.v,some i,fun y=>.ok n y,false)):=by as_aux_lemma=>kernel_rfl):GG π (∃a,At s i n a/\r a) (W P U R c):=by
 rintro b ⟨a,g,e⟩;simp only[Prod.mk.injEq]at h;have⟨l,h⟩:=h;unfold K0 at h;split at h;rename_i d;split at h;rename_i j;simp only[Option.some.injEq,Prod.mk.injEq]at h;have⟨h1,h2,h3,f⟩:=h;have⟨o,h2⟩:=Oz h2;exact xp m l d f (fun x _=>jTN h1 h2 (run_underlying j x) (congrFun h3 x) g)<|k b e;cases h;cases h
def vq(c:Cf):Option (Sem Next):=(ga c).map fun o=>execOp (gx c.ρ) o
def NV{s:Sem Value}{v}(m)(hs:(aa P U m c).gi=(aa P U m c).so)(h:vq (vv P U m c)=some (do pure (.value (<-s))))(d:qg (vv P U m c)=false)(b:∀x,need (vv P U m c) x->s.run P x=.ok v x)(k:W P U R (pv v<|vv P U m c)):W P U R c:=by
 unfold vq at h;cases a:ga (vv P U m c)with
 |none=>rw[a]at h;cases h
 |some o=>rw[a]at h;exact xp m hs a d (fun x hx=>jcN (Option.some.inj h)<|b x hx) k
def rn{r:Prop}{s:Sem Value}{v w}(m)(k:GG π r (W P U R<|pv v<|vv P U m c))(h:((aa P U m c).gi,vq<|vv P U m c,qg<|vv P U m c,wN<|vv P U m c)=((aa P U m c).so,some<|do pure (.value (<-s)),false,some w):=by as_aux_lemma=>kernel_rfl):GG π (s.run P w=.ok v w/\r) (W P U R c):=by
 rintro a ⟨d,b⟩;simp only[Prod.mk.injEq]at h;exact NV m h.1 h.2.1 h.2.2.1 (fun x hx=>by rw[AJ h.2.2.2 x hx];exact d) (k a b)
def wJ{r:Prop}{s:Sem Value}{v C}(m)(k:GG π r (W P U R<|pv v<|vv P U m c))(h:((aa P U m c).gi,vq<|vv P U m c,qg<|vv P U m c,pZ<|vv P U m c)=((aa P U m c).so,some<|do pure (.value (<-s)),false,some C):=by as_aux_lemma=>kernel_rfl):GG π ((∀w',C w'->s.run P w'=.ok v w')/\r) (W P U R c):=by
 rintro a ⟨d,b⟩;simp only[Prod.mk.injEq]at h;exact NV m h.1 h.2.1 h.2.2.1 (fun x hx=>d x ((xG h.2.2.2 x).1 hx).1)<|k a b
def EL(P:Program)(c:Cf):Option (BinOp×TypeId×Value×Value×(World->Result Unit)×Bool):=match ga c with
 |some ⟨_,.binOp op T a b _,_,_,_,_⟩=>some (op,T,gx c.ρ a,gx c.ρ b,fun y=>(eqGuard op T a b (gx c.ρ a)<|gx c.ρ b).run P y,qg c)
 |_=>none
def N3{op:BinOp}{T x y v}(m)(hs:(aa P U m c).gi=(aa P U m c).so)(h:EL P (vv P U m c)=some (op,T,x,y,fun y=>.ok () y,false))(d:∀z,need (vv P U m c) z->(Go.binOp op T x y).run P z=.ok v z)(k:W P U R (pv v<|vv P U m c)):W P U R c:=by
 unfold EL at h;split at h;rename_i b;simp only[Option.some.injEq,Prod.mk.injEq]at h;obtain⟨rfl,rfl,h1,h2,h3,a⟩:=h;rw[h1,h2]at h3;exact xp m hs b a (fun z e=>TC h1 h2 (congrFun h3 z)<|d z e) k;cases h
def rb{r:Prop}{op:BinOp}{T x y v w}(m)(k:GG π r (W P U R<|pv v<|vv P U m c))(h:((aa P U m c).gi,EL P<|vv P U m c,wN<|vv P U m c)=((aa P U m c).so,some (op,T,x,y,fun y=>.ok () y,false),some w):=by as_aux_lemma=>kernel_rfl):GG π ((Go.binOp op T x y).run P w=.ok v w/\r) (W P U R c):=by
 rintro a ⟨d,b⟩;simp only[Prod.mk.injEq]at h;exact N3 m h.1 h.2.1 (fun x hx=>by rw[AJ h.2.2 x hx];exact d) (k a b)
def EU{r:Prop}{op:BinOp}{T x y v C}(m)(k:GG π r (W P U R<|pv v<|vv P U m c))(h:((aa P U m c).gi,EL P<|vv P U m c,pZ<|vv P U m c)=((aa P U m c).so,some (op,T,x,y,fun y=>.ok () y,false),some C):=by as_aux_lemma=>kernel_rfl):GG π ((∀w',C w'->(Go.binOp op T x y).run P w'=.ok v w')/\r) (W P U R c):=by
 rintro a ⟨d,b⟩;simp only[Prod.mk.injEq]at h;exact N3 m h.1 h.2.1 (fun x hx=>d x ((xG h.2.2 x).1 hx).1)<|k a b
def LD(P:Program)(c:Cf):Option (BinOp×TypeId×Value×Value×Bool×Bool):=match ga c with
 |some ⟨_,.binOp op T a b _,_,_,_,_⟩=>some (op,T,gx c.ρ a,gx c.ρ b,P.eqGuardType P.depth T,qg c)
 |_=>none
def ae{op:BinOp}{T xs ys b}(m)(g:∀z,(Go.binOp op T (.agg xs)<|.agg ys).run P z=.ok (.bool b) z)(k:GG π A (W P U R<|pv (.bool b)<|vv P U m c))(h:((aa P U m c).gi,LD P<|vv P U m c)=((aa P U m c).so,some (op,T,.agg xs,.agg ys,false,false)):=by as_aux_lemma=>kernel_rfl):GG π A (W P U R c):=by
 intro a e;simp only[Prod.mk.injEq]at h;have⟨i,h⟩:=h;unfold LD at h;split at h;rename_i d;simp only[Option.some.injEq,Prod.mk.injEq]at h;obtain⟨rfl,rfl,h1,h2,h3,f⟩:=h;exact xp m i d f (fun z _=>Yz h1 h2 h3<|g z)<|k a e;cases h
def WV(P:Program)(U:Fx)(R:Qs)(c:Cf)(v:Value)(w1:World):Prop:=(pV c=true\/need c w1)/\W P U R (uP v w1 c)
def WR(P:Program)(U:Fx)(R:Qs)(c:Cf)(e:Ending)(w1:World):Prop:=∃v,e=.returned v/\WV P U R c v w1
def kv{v w1}(k:GG π A (W P U R<|uP v w1 c))(h:pV c=true:=by as_aux_lemma=>kernel_rfl):GG π A (WV P U R c v w1):=fun a b=>⟨.inl h,k a b⟩
def nR{w0 w w1 H l v}{r:Prop}(k:GG (HS Z w0 H w1 H w1 l) r (W P U R<|uP v w1 c))(h:pV c=true:=by as_aux_lemma=>kernel_rfl):GG (HS Z w0 H w H w l) (av H w w1/\r) (WV P U R c v w1):=fun d a=>⟨.inl h,k ⟨d.s.jg a.1,d.b.ff a.1⟩ a.2⟩
def oE{w0 w w1 H l v}{r:Prop}{C}(k:GG (HS Z w0 H w1 H w1 l) r (W P U R<|uP v w1 c))(h:(pZ c,tk c,qn c)=(some C,H,l):=by as_aux_lemma=>kernel_rfl):GG (HS Z w0 H w H w l) (C w1/\av H w w1/\r) (WV P U R c v w1):=fun d a=>by
 simp only[Prod.mk.injEq]at h;refine⟨.inr<|(xG h.1 _).2 ⟨a.1,?_⟩,k ⟨d.s.jg a.2.1,d.b.ff a.2.1⟩ a.2.2⟩;rw[h.2.1,h.2.2];exact d.b.nz.ff a.2.1
def ef{r:Prop}{s:Sem Value}{v w w1}(m)(k:GG π r (WV P U R (vv P U m c) v w1))(h:((aa P U m c).gi,vq<|vv P U m c,oo<|vv P U m c,(vv P U m c).w)=((aa P U m c).so,some<|do pure (.value (<-s)),true,w):=by as_aux_lemma=>kernel_rfl):GG π (s.run P w=.ok v w1/\r) (W P U R c):=by
 rintro b ⟨i,e⟩;simp only[Prod.mk.injEq]at h;have⟨g,h1,h2,h3⟩:=h;have⟨d,f⟩:=k b e;unfold vq at h1;cases a:ga (vv P U m c)with
 |none=>rw[a]at h1;cases h1
 |some o=>rw[a]at h1;exact W.on m g<|SB a h2 Uc d f
def es{r:Prop}{s:Sem Unit}{w w1}(m)(k:GG π r (WV P U R (vv P U m c) undef w1))(h:((aa P U m c).gi,vq<|vv P U m c,oo<|vv P U m c,(vv P U m c).w)=((aa P U m c).so,some (do s;pure .skip),true,w):=by as_aux_lemma=>kernel_rfl):GG π (s.run P w=.ok () w1/\r) (W P U R c):=by
 rintro b ⟨i,e⟩;simp only[Prod.mk.injEq]at h;have⟨g,h1,h2,h3⟩:=h;have⟨d,f⟩:=k b e;unfold vq at h1;cases a:ga (vv P U m c)with
 |none=>rw[a]at h1;cases h1
 |some o=>rw[a]at h1;exact W.on m g<|Kg a h2 Uc d f
def AR(c:Cf):Option (FuncId×Array Value):=match ga c with
 |some ⟨_,.call ⟨.value x,jdx,_⟩,_,_,_,_⟩=>match gx c.ρ x with
  |.func (.func f) a caps=>some (f,a++(jdx.toList.map<|gx c.ρ).toArray++caps)
  |_=>none
 |_=>none
def FA{f args w}(m)(b:∀args w,(callFunc f args).run P w=.ok (.enter f args) w)(hs:(aa P U m c).gi=(aa P U m c).so)(h1:AR (vv P U m c)=some (f,args))(h2:oo (vv P U m c)=true)(h3:(vv P U m c).w=w)(k:Calls P f args w fun e w1=>WR P U R (vv P U m c) e w1):W P U R c:=by
 unfold AR at h1;split at h1;rename_i d x jdx ts ty pos aft g a;split at h1;rename_i i h caps hx;cases h1;refine W.on m hs<|Tc a h2 ?_ (by rw[h3];exact k);have:=Mn (P:=P) (w:=(vv P U m c).w) (d:=d) (ty:=ty) (pos:=pos) (aft:=aft) (g:=g) (c:=jdx.toList) (ts:=ts) hx b rfl rfl;rw[Array.toArray_toList]at this;exact this;cases h1;cases h1
def cc{f args w Q}(m)(d:∀args w,(callFunc f args).run P w=.ok (.enter f args) w)(k:∀{e w1},GG π (Q e w1)<|WR P U R (vv P U m c) e w1)(h:((aa P U m c).gi,AR<|vv P U m c,oo<|vv P U m c,(vv P U m c).w)=((aa P U m c).so,some (f,args),true,w):=by as_aux_lemma=>kernel_rfl):GG π (Calls P f args w Q) (W P U R c):=by
 intro a b;simp only[Prod.mk.injEq]at h;exact FA m d h.1 h.2.1 h.2.2.1 h.2.2.2<|b.mono fun e w1 q=>k a q
def rt{v w1}{r:Prop}{e}(k:GG π r (WV P U R c v w1)):GG π (e=.returned v/\r) (WR P U R c e w1):=fun b a=>⟨v,a.1,k b a.2⟩
def fh{v w1}{r:Prop}{e}(k:GG π r (W P U R<|uP v w1 c))(h:pV c=true:=by as_aux_lemma=>kernel_rfl):GG π (e=.returned v/\r) (WR P U R c e w1):=rt<|kv k h
def cz{w0 w w1 H l v e}{r:Prop}(k:GG (HS Z w0 H w1 H w1 l) r (W P U R<|uP v w1 c))(h:pV c=true:=by as_aux_lemma=>kernel_rfl):GG (HS Z w0 H w H w l) (e=.returned v/\av H w w1/\r) (WR P U R c e w1):=rt<|nR k h
def gQ{w0 w w1 H l v e}{r:Prop}{C}(k:GG (HS Z w0 H w1 H w1 l) r (W P U R<|uP v w1 c))(h:(pZ c,tk c,qn c)=(some C,H,l):=by as_aux_lemma=>kernel_rfl):GG (HS Z w0 H w H w l) (e=.returned v/\C w1/\av H w w1/\r) (WR P U R c e w1):=rt<|oE k h
section
variable {w0 wv w:World} {Hv H:Nat->Prop} {l:List mq}
def cp{f args v}(m)(j:∀args w,(callFunc f args).run P w=.ok (.enter f args) w)(d:∀w,Calls P f args w fun e w'=>e=.returned v/\aq w w')(k:∀{w1},GG (HS Z w0 Hv wv H w1 l) A<|W P U R<|uP v w1<|vv P U m c)(h:((aa P U m c).gi,AR<|vv P U m c,oo<|vv P U m c,(vv P U m c).w,pV<|vv P U m c)=((aa P U m c).so,some (f,args),true,w,true):=by as_aux_lemma=>kernel_rfl):GG (HS Z w0 Hv wv H w l) A (W P U R c):=by
 intro a g;simp only[Prod.mk.injEq]at h;exact FA m j h.1 h.2.1 h.2.2.1 h.2.2.2.1<|(d w).mono fun e w1 ⟨i,E⟩=>⟨v,i,.inl h.2.2.2.2,k ⟨a.s.pure E,a.b.pure E⟩ g⟩
end
def Hz(q:Nat)(c:Cf):Option Nat:=match q with
 |0=>match c.pos with
  |.c (.cond (.tmp d) _ _)=>some d
  |_=>none
 |1=>match tc c with
  |some o=>match o.guard with
   |some (j,_)=>((Az c)[j]?).bind (·.dst)
   |none=>none
  |none=>none
 |_=>match tc c with
  |some ⟨_,.pick (.tmp d) _ _,_,_,_,_⟩=>some d
  |_=>none
def Fw(q:Nat)(c:Cf):Option Value:=(Hz q c).map c.ρ
def ka(q:Nat)(b:Bool)(c:Cf):Cf:=⟨c.pos,c.fr,c.ρ,c.w,match Hz q c with|some d=>(d,b) ::c.kn|none=>c.kn⟩
def GS{q b}(h:Fw q c=some (.bool b))(k:W P U R (ka q b c)):W P U R c:=by
 intro j;refine k ?_;unfold Fw at h;cases a:Hz q c with
 |none=>rw[a]at h;cases h
 |some d =>
  rw[a]at h
  intro g l f
  simp only[ka,a,kl]at f
  show c.ρ g=_
  cases e:Nat.beq d g with
  |true =>
   rw[e]at f
   have i:=Nat.eq_of_beq_eq_true e
   rw[<-i]
   cases f
   exact Option.some.inj h
  |false=>rw[e]at f;exact j _ _ f
def br{A B:Prop}{e}(q m)(f:GG π A (W P U R<|ka q true<|vv P U m c))(g:GG π B (W P U R<|ka q false<|vv P U m c))(h:((aa P U m c).gi,Fw q<|vv P U m c)=((aa P U m c).so,some<|.bool e):=by as_aux_lemma=>kernel_rfl):GG π (Br e A B) (W P U R c):=by
 intro a b;simp only[Prod.mk.injEq]at h;refine W.on m h.1 ?_;cases d:e with
 |true=>exact GS Uc<|f a<|b.1 d
 |false=>exact GS Uc<|g a<|b.2 d
def ks(m d s)(k:GG π A (W P U R ⟨(vv P U m c).pos,(vv P U m c).fr,(vv P U m c).ρ,(vv P U m c).w,match kl (vv P U m c).kn s with|some b=>(d,b) ::(vv P U m c).kn|none=>(vv P U m c).kn⟩))(h:((aa P U m c).gi,(vv P U m c).ρ d)=((aa P U m c).so,(vv P U m c).ρ s):=by as_aux_lemma=>kernel_rfl):GG π A (W P U R c):=by
 intro g j;simp only[Prod.mk.injEq]at h;refine W.on m h.1 fun f=>k g j ?_;intro i n a;simp only at a|-
 cases hs:kl (vv P U m c).kn s with
 |none=>rw[hs]at a;exact f _ _ a
 |some b =>
  rw[hs]at a
  simp only[kl]at a
  cases e:Nat.beq d i with
  |true =>
   rw[e]at a;cases a
   have l:=Nat.eq_of_beq_eq_true e
   rw[<-l,h.2];exact f _ _ hs
  |false=>rw[e]at a;exact f _ _ a
def wQ(P:Program)(c:Cf):Option (Value×World):=match ga c with
 |some o=>match(execOp (gx c.ρ) o).run P c.w with
  |.ok (.value v) w'=>some (v,w')
  |_=>none
 |none=>none
def ev(P:Program)(c:Cf)(p:Addr):Value:=match wQ P c with
 |some (.pointer _,_)=>.pointer<|some p
 |some (.slice _ l k,_)=>.slice (some p) l k
 |some (.map _,_)=>.map<|some p.block
 |_=>undef
def Ba{O w}(m)(v:Addr->Value)(hs:(aa P U m c).gi=(aa P U m c).so)(h1:wQ P (vv P U m c)=some (v ⟨w.heap.size,0,none⟩,w.alloc O))(h2:oo (vv P U m c)=true)(k:∀p w1,fp w O p w1->WV P U R (vv P U m c) (v p) w1):W P U R c:=by
 unfold wQ at h1;split at h1;rename_i o d;split at h1;rename_i v' w' e;simp only[Option.some.injEq,Prod.mk.injEq]at h1;obtain⟨rfl,rfl⟩:=h1;have⟨b,a⟩:=k _ _ ⟨rfl,rfl⟩;exact W.on m hs<|SB d h2 e b a;cases h1;cases h1
def fy{r:Addr->World->Prop}{O w}(m)(k:∀{p w1},GG π (r p w1)<|W P U R<|uP (ev P (vv P U m c) p) w1<|vv P U m c)(h:((aa P U m c).gi,wQ P<|vv P U m c,oo<|vv P U m c,pV<|vv P U m c)=((aa P U m c).so,some (ev P (vv P U m c) ⟨w.heap.size,0,none⟩,w.alloc O),true,true):=by as_aux_lemma=>kernel_rfl):GG π (∀p w1,fp w O p w1->r p w1) (W P U R c):=by
 intro a b;simp only[Prod.mk.injEq]at h;exact Ba m _ h.1 h.2.1 h.2.2.1 fun p w1 d=>⟨.inl h.2.2.2,k a<|b p w1 d⟩
section
variable {w0 wv w:World} {Hv H:Nat->Prop} {l:List mq}
def jx{r:Addr->World->Prop}{O}(m)(k:∀{p w1},GG (HS Z w0 H w1 H w1 l) (r p w1)<|W P U R<|uP (ev P (vv P U m c) p) w1<|vv P U m c)(h:((aa P U m c).gi,wQ P<|vv P U m c,oo<|vv P U m c,pV<|vv P U m c)=((aa P U m c).so,some (ev P (vv P U m c) ⟨w.heap.size,0,none⟩,w.alloc O),true,true):=by as_aux_lemma=>kernel_rfl):GG (HS Z w0 H w H w l) (∀p w1,fp w O p w1->r p w1) (W P U R c):=by
 intro d e;simp only[Prod.mk.injEq]at h;exact Ba m _ h.1 h.2.1 h.2.2.1 fun p w1 a=>⟨.inl h.2.2.2,k ⟨d.s.jg (aj.bu (F:=bl) a).dy,d.b.ff (aj.bu (F:=bl) a).dy⟩<|e p w1 a⟩
def py{r:Addr->World->Prop}{O C}(m)(k:∀{p w1},GG (HS Z w0 H w1 H w1 l) (r p w1)<|W P U R<|uP (ev P (vv P U m c) p) w1<|vv P U m c)(h:((aa P U m c).gi,wQ P<|vv P U m c,oo<|vv P U m c,pZ<|vv P U m c,tk<|vv P U m c,qn<|vv P U m c)=((aa P U m c).so,some (ev P (vv P U m c) ⟨w.heap.size,0,none⟩,w.alloc O),true,some C,H,l):=by as_aux_lemma=>kernel_rfl):GG (HS Z w0 H w H w l) (∀p w1,fp w O p w1->C w1/\r p w1) (W P U R c):=by
 intro d e;simp only[Prod.mk.injEq]at h;refine Ba m _ h.1 h.2.1 h.2.2.1 fun p w1 a=>⟨.inr<|(xG h.2.2.2.1 _).2 ⟨(e p w1 a).1,?_⟩,k ⟨d.s.jg (aj.bu (F:=bl) a).dy,d.b.ff (aj.bu (F:=bl) a).dy⟩ (e p w1 a).2⟩;rw[h.2.2.2.2.1,h.2.2.2.2.2];exact d.b.nz.ff (aj.bu (F:=bl) a).dy
def eu(P:Program)(c:Cf):List Value×TypeId:=match ga c with
 |some ⟨_,.alloc T,_,_,_,_⟩=>match(zeroValue T).run P c.w with
  |.ok z _=>(z.cells.toList,T)
  |_=>([],T)
 |some ⟨_,.box T x,_,_,_,_⟩=>((gx c.ρ x).cells.toList,T)
 |_=>([],0)
def nh(m)(k:∀{p w1 d},GG (HS Z w0 Hv wv d w1 ((p,(eu P<|vv P U m c).1,(eu P<|vv P U m c).2) ::l)) A<|W P U R<|uP (.pointer<|some p) w1<|vv P U m c)(h:((aa P U m c).gi,wQ P<|vv P U m c,oo<|vv P U m c,pV<|vv P U m c)=((aa P U m c).so,some (.pointer<|some ⟨w.heap.size,0,none⟩,w.alloc<|.cells (eu P<|vv P U m c).1.toArray (eu P<|vv P U m c).2),true,true):=by as_aux_lemma=>kernel_rfl):GG (HS Z w0 Hv wv H w l) A (W P U R c):=by
 intro a e;simp only[Prod.mk.injEq]at h;refine Ba m (fun p=>.pointer<|some p) h.1 h.2.1 h.2.2.1 fun p w1 f=>⟨.inl h.2.2.2,?_⟩;have⟨d,s1,b1⟩:=a.s.alloc a.b f;exact k ⟨s1,b1⟩ e
end
end
section
variable {P:Program} {U:Fx} {R:Qs} {c:Cf} {π A:Prop}
def rV(P:Program)(c:Cf):Option (Value×Value×(World->Result Nat)):=match ga c with
 |some ⟨_,.store T x y,_,_,_,_⟩=>some (gx c.ρ x,gx c.ρ y,fun w=>(sizeOf T).run P w)
 |_=>none
def D3{a v w}(m)(hs:(aa P U m c).gi=(aa P U m c).so)(h1:rV P (vv P U m c)=some (.pointer<|some a,v,fun y=>.ok 1 y))(b:vC v=true)(h2:oo (vv P U m c)=true)(h3:(vv P U m c).w=w)(e:zJ w a)(k:∀w1,w1=w.setCell a v->WV P U R (vv P U m c) undef w1):W P U R c:=by
 unfold rV at h1;split at h1;rename_i g;simp only[Option.some.injEq,Prod.mk.injEq]at h1;have⟨d,f⟩:=k _ rfl;exact W.on m hs<|Kg g h2 (by rw[h3];exact Co h1.1 h1.2.1 b (congrFun h1.2.2 w) e) d f;cases h1
def Ds{a vs w}(m)(hs:(aa P U m c).gi=(aa P U m c).so)(h1:rV P (vv P U m c)=some (.pointer<|some a,.agg vs.toArray,fun y=>.ok vs.length y))(b:vs.all vC=true)(h2:oo (vv P U m c)=true)(h3:(vv P U m c).w=w)(e:∀j,j<vs.length->zJ w (a.add j))(k:∀w1,w1=ib w a vs->WV P U R (vv P U m c) undef w1):W P U R c:=by
 unfold rV at h1;split at h1;rename_i g;simp only[Option.some.injEq,Prod.mk.injEq]at h1;have⟨d,f⟩:=k _ rfl;exact W.on m hs<|Kg g h2 (by rw[h3];exact zEX h1.1 h1.2.1 b (congrFun h1.2.2 w) rfl e) d f;cases h1
def kz{r:World->Prop}{a:Addr}{v:Value}{w:World}(m:Nat)(k:∀{w1},GG π (r w1)<|W P U R<|uP undef w1<|vv P U m c)(h:((aa P U m c).gi,rV P<|vv P U m c,vC v,oo<|vv P U m c,(vv P U m c).w,pV<|vv P U m c)=((aa P U m c).so,some (.pointer<|some a,v,fun y=>.ok 1 y),true,true,w,true):=by as_aux_lemma=>kernel_rfl):GG π (zJ w a/\∀w1,w1=w.setCell a v->r w1) (W P U R c):=by
 rintro b ⟨d,f⟩;simp only[Prod.mk.injEq]at h;exact D3 m h.1 h.2.1 h.2.2.1 h.2.2.2.1 h.2.2.2.2.1 d fun w1 e=>⟨.inl h.2.2.2.2.2,k b<|f w1 e⟩
def gj{r:World->Prop}{a:Addr}{vs:List Value}{n:Nat}{w:World}(m:Nat)(k:∀{w1},GG π (r w1)<|W P U R<|uP undef w1<|vv P U m c)(h:((aa P U m c).gi,rV P<|vv P U m c,vs.all vC,oo<|vv P U m c,(vv P U m c).w,pV<|vv P U m c,vs.length)=((aa P U m c).so,some (.pointer<|some a,.agg vs.toArray,fun y=>.ok vs.length y),true,true,w,true,n):=by as_aux_lemma=>kernel_rfl):GG π ((∀j,j<n->zJ w (a.add j))/\∀w1,w1=ib w a vs->r w1) (W P U R c):=by
 rintro b ⟨f,d⟩;simp only[Prod.mk.injEq]at h;exact Ds m h.1 h.2.1 h.2.2.1 h.2.2.2.1 h.2.2.2.2.1 Gd fun w1 e=>⟨.inl h.2.2.2.2.2.1,k b<|d w1 e⟩
section
variable {w0 wv w:World} {Hv H:Nat->Prop} {l:List mq}
def iz{r:World->Prop}{a:Addr}{v:Value}(m:Nat)(k:∀{w1},GG (HS Z w0 H w1 H w1 l) (r w1)<|W P U R<|uP undef w1<|vv P U m c)(h:((aa P U m c).gi,rV P<|vv P U m c,vC v,oo<|vv P U m c,(vv P U m c).w,pV<|vv P U m c)=((aa P U m c).so,some (.pointer<|some a,v,fun y=>.ok 1 y),true,true,w,true):=by as_aux_lemma=>kernel_rfl):GG (HS Z w0 H w H w l) (zJ w a/\¬H a.block/\∀w1,w1=w.setCell a v->r w1) (W P U R c):=by
 rintro d ⟨g,f,i⟩;simp only[Prod.mk.injEq]at h;exact D3 m h.1 h.2.1 h.2.2.1 h.2.2.2.1 h.2.2.2.2.1 g fun w1 e=>⟨.inl h.2.2.2.2.2,k (by subst e;exact⟨d.s.jg<|av.setCell f,d.b.ff<|av.setCell f⟩)<|i w1 e⟩
def Rt{r:World->Prop}{a:Addr}{v:Value}{C:World->Prop}(m:Nat)(k:∀{w1},GG (HS Z w0 H w1 H w1 l) (r w1)<|W P U R<|uP undef w1<|vv P U m c)(h:((aa P U m c).gi,rV P<|vv P U m c,vC v,oo<|vv P U m c,(vv P U m c).w,pZ<|vv P U m c,tk<|vv P U m c,qn<|vv P U m c)=((aa P U m c).so,some (.pointer<|some a,v,fun y=>.ok 1 y),true,true,w,some C,H,l):=by as_aux_lemma=>kernel_rfl):GG (HS Z w0 H w H w l) (zJ w a/\¬H a.block/\∀w1,w1=w.setCell a v->C w1/\r w1) (W P U R c):=by
 rintro d ⟨i,f,g⟩;simp only[Prod.mk.injEq]at h;refine D3 m h.1 h.2.1 h.2.2.1 h.2.2.2.1 h.2.2.2.2.1 i fun w1 e=>⟨.inr<|(xG h.2.2.2.2.2.1 _).2 ⟨(g w1 e).1,?_⟩,k (by subst e;exact⟨d.s.jg<|av.setCell f,d.b.ff<|av.setCell f⟩) (g w1 e).2⟩;subst e;rw[h.2.2.2.2.2.2.1,h.2.2.2.2.2.2.2];exact d.b.nz.ff<|av.setCell f
def u6{r:World->Prop}{a:Addr}{vs:List Value}{n:Nat}(m:Nat)(k:∀{w1},GG (HS Z w0 H w1 H w1 l) (r w1)<|W P U R<|uP undef w1<|vv P U m c)(h:((aa P U m c).gi,rV P<|vv P U m c,vs.all vC,oo<|vv P U m c,(vv P U m c).w,pV<|vv P U m c,vs.length)=((aa P U m c).so,some (.pointer<|some a,.agg vs.toArray,fun y=>.ok vs.length y),true,true,w,true,n):=by as_aux_lemma=>kernel_rfl):GG (HS Z w0 H w H w l) ((∀j,j<n->zJ w (a.add j))/\¬H a.block/\∀w1,w1=ib w a vs->r w1) (W P U R c):=by
 rintro d ⟨i,f,g⟩;simp only[Prod.mk.injEq]at h;exact Ds m h.1 h.2.1 h.2.2.1 h.2.2.2.1 h.2.2.2.2.1 Gd fun w1 e=>⟨.inl h.2.2.2.2.2.1,k (by subst e;exact⟨d.s.jg<|av.ib f,d.b.ff<|av.ib f⟩)<|g w1 e⟩
def CC{r:World->Prop}{a:Addr}{vs:List Value}{n:Nat}{C:World->Prop}(m:Nat)(k:∀{w1},GG (HS Z w0 H w1 H w1 l) (r w1)<|W P U R<|uP undef w1<|vv P U m c)(h:((aa P U m c).gi,rV P<|vv P U m c,vs.all vC,oo<|vv P U m c,(vv P U m c).w,pZ<|vv P U m c,tk<|vv P U m c,qn<|vv P U m c,vs.length)=((aa P U m c).so,some (.pointer<|some a,.agg vs.toArray,fun y=>.ok vs.length y),true,true,w,some C,H,l,n):=by as_aux_lemma=>kernel_rfl):GG (HS Z w0 H w H w l) ((∀j,j<n->zJ w (a.add j))/\¬H a.block/\∀w1,w1=ib w a vs->C w1/\r w1) (W P U R c):=by
 rintro d ⟨i,f,g⟩;simp only[Prod.mk.injEq]at h;refine Ds m h.1 h.2.1 h.2.2.1 h.2.2.2.1 h.2.2.2.2.1 Gd fun w1 e=>⟨.inr<|(xG h.2.2.2.2.2.1 _).2 ⟨(g w1 e).1,?_⟩,k (by subst e;exact⟨d.s.jg<|av.ib f,d.b.ff<|av.ib f⟩) (g w1 e).2⟩;subst e;rw[h.2.2.2.2.2.2.1,h.2.2.2.2.2.2.2.1];exact d.b.nz.ff<|av.ib f
def dn(l:List mq)(i j:Nat)(vs:List Value):List mq:=match l[i]? with
 |some (p,cs,T)=>l.set i (p,cs.take j++vs++cs.drop (j+vs.length),T)
 |none=>l
def fc(P:Program)(c:Cf):Value:=match rV P c with
 |some (_,v,_)=>v
 |none=>undef
def sh(m i:Nat)(js)(k:∀{w1},GG (HS Z w0 Hv wv H w1<|dn l i (sum js) [fc P<|vv P U m c]) A<|W P U R<|uP undef w1<|vv P U m c)(h:((aa P U m c).gi,rV P<|vv P U m c,vC<|fc P<|vv P U m c,oo<|vv P U m c,(vv P U m c).w,pV<|vv P U m c,Nat.ble (sum js+1) (di l i).length)=((aa P U m c).so,some (.pointer<|some<|dw l i js,fc P<|vv P U m c,fun y=>.ok 1 y),true,true,w,true,true):=by as_aux_lemma=>kernel_rfl):GG (HS Z w0 Hv wv H w l) A (W P U R c):=by
 intro d g;simp only[Prod.mk.injEq]at h;have⟨q,h1,f,h2,h3,n,r⟩:=h;have a:=Nat.le_of_ble_eq_true r;generalize fc P (vv P U m c)=v at *;cases e:l[i]? with
 |none=>simp[di,e]at a
 |some x =>
  have⟨p,cs,T⟩:=x
  simp only[di,e]at a
  have o:dw l i js=p.add (sum js):=by simp only[dw,e,ES]
  rw[o]at h1
  refine D3 m q h1 f h2 h3 (d.b.im i (sum js) e<|decide_eq_true Om) fun w1 j=>⟨.inl n,?_⟩
  have t:l.set i (p,cs.set (sum js) v,T)=dn l i (sum js) [v]:=by
   simp only[dn,e];congr 3;rw[List.set_eq_take_append_cons_drop,if_pos Om];simp
  have:=d.b.set (sum js) (v:=v) d.s e t
  subst j
  exact k ⟨this.1,this.2⟩ g
def eo(P:Program)(c:Cf):List Value:=match rV P c with
 |some (_,.agg vs,_)=>vs.toList
 |_=>[]
def sg(m i:Nat)(js)(k:∀{w1},GG (HS Z w0 Hv wv H w1<|dn l i (sum js)<|eo P<|vv P U m c) A<|W P U R<|uP undef w1<|vv P U m c)(h:((aa P U m c).gi,rV P<|vv P U m c,(eo P<|vv P U m c).all vC,oo<|vv P U m c,(vv P U m c).w,pV<|vv P U m c,Nat.ble (sum js+(eo P<|vv P U m c).length) (di l i).length,Nat.blt 0 (eo P<|vv P U m c).length)=((aa P U m c).so,some (.pointer<|some<|dw l i js,.agg (eo P<|vv P U m c).toArray,fun y=>.ok (eo P<|vv P U m c).length y),true,true,w,true,true,true):=by as_aux_lemma=>kernel_rfl):GG (HS Z w0 Hv wv H w l) A (W P U R c):=by
 intro a j;simp only[Prod.mk.injEq]at h;have⟨t,h1,g,h2,h3,o,u,v⟩:=h;have d:=Nat.le_of_ble_eq_true u;have f:0<(eo P<|vv P U m c).length:=Uc;generalize eo P (vv P U m c)=vs at *;cases e:l[i]? with
 | none => have : (di l i).length = 0:=by simp[di, e]
           omega
 |some x =>
  have⟨p,cs,T⟩:=x
  simp only[di,e]at d
  have q:dw l i js=p.add (sum js):=by simp only[dw,e,ES]
  rw[q]at h1
  refine Ds m t h1 g h2 h3 (a.b.uy i (sum js) vs.length e<|decide_eq_true Om) fun w1 n=>⟨.inl o,?_⟩
  have r:l.set i (p,cs.take (sum js)++vs++cs.drop (sum js+vs.length),T)=dn l i (sum js) vs:=by simp only[dn,e]
  have:=a.b.store (sum js) (vs:=vs) a.s e (decide_eq_true Om) r
  subst n
  exact k ⟨this.1,this.2⟩ j
end
def Ax:List ResultVar->Option (List Nat)
 |[]=>some []
 |.tmp t :: l=>match Ax l with
  |some ts=>some (t :: ts)
  |none=>none
 |_=>none
def Dt(ρ:gb):List Nat->Value
 |[t]=>ρ t
 |ts=>.tuple (ts.map ρ).toArray
def GU(U:Fx)(c:Cf):Option (Value×World):=match c.pos,c.fr with
 |.x .ret,[]=>match Ax U.results.toList with
  |some ts=>some (Dt c.ρ ts,c.w)
  |none=>none
 |.x .normal,[]=>match Ax U.results.toList with
  |some ts=>some (Dt c.ρ ts,c.w)
  |none=>none
 |_,_=>none
def NH{ρ w}:∀{l:List ResultVar} {ts:List Nat},Ax l=some ts->yr P ρ w l (ts.map ρ)
 |[],ts,h=>by cases h;trivial
 |.tmp t :: l,ts,h=>by
  simp only[Ax]at h;split at h;rename_i b a;cases h;exact⟨rfl,NH a⟩;cases h
 |.cell _ _ :: l,ts,h=>by simp[Ax]at h
def jcG{ρ}(ts):(if h:(ts.map ρ).toArray.size=1 then(ts.map ρ).toArray[0]else .tuple (ts.map ρ).toArray)=Dt ρ ts:=by
 match ts with
 |[]=>rfl
 |[t]=>rfl
 |t :: u :: ts=>simp[Dt]
def rr{v w}{R:Ending->World->Prop}(m)(d:A->R (.returned v) w:=by first|exact fun h=>⟨_,rfl,h⟩|exact fun h=>⟨_,_,rfl,h⟩|exact fun h=>⟨rfl,h⟩|exact fun h=>⟨_,_,_,rfl,h⟩|exact fun h=>⟨_,_,_,_,rfl,h⟩|exact fun h=>⟨_,_,_,_,_,rfl,h⟩|exact fun h=>⟨_,_,_,_,_,_,rfl,h⟩|exact fun h=>⟨_,_,_,_,_,_,_,rfl,h⟩|exact fun h=>⟨_,_,_,_,_,_,_,_,rfl,h⟩|exact fun h=>⟨_,_,_,_,_,_,_,_,_,rfl,h⟩|exact fun h=>⟨_,_,_,_,_,_,_,_,_,_,rfl,h⟩|exact fun h=>.inl ⟨_,rfl,h⟩|exact fun h=>.inl ⟨rfl,h⟩)(h:((aa P U m c).gi,GU U<|vv P U m c)=((aa P U m c).so,some (v,w)):=by as_aux_lemma=>kernel_rfl):GG π A (W P U (bq P U.f R) c):=by
 intro i a;simp only[Prod.mk.injEq]at h;refine W.on m h.1 fun _=>?_;have⟨_,h⟩:=h;have key:∀(ρ:gb) (w':World) (ts:List Nat) (e:Exit),e=.ret\/e=.normal->Ax U.results.toList=some ts->some (Dt ρ ts,w')=some (v,w)->Do P U.f U.ntmps R e ρ w':=by
  intro ρ w' ts e g ht b;cases b;exact ep<|QP g Uc (NH ht) (jcG ts)<|d a
 unfold GU at h;unfold Wq;split at h
 .rename_i h1 h2;split at h
  .rename_i ts ht;rw[h1,h2];exact key _ _ _ _ (.inl rfl) ht h
  .cases h
 .rename_i h1 h2;split at h
  .rename_i ts ht;rw[h1,h2];exact key _ _ _ _ (.inr rfl) ht h
  .cases h
 .cases h
def yl(P:Program)(n:Nat)(ld fr:List Nat)(c:Cf):Option (Bool×Bool×Bool×Bool):=match c.pos with
 |.c (.region _ ax true)=>some (P.follows .mixedOrders,sU n ax.toList,Region.noSelect ax,EG .any ax (yH ld)<|yH fr)
 |_=>none
def ek(q:Option World)(C:World->Prop)(H:Nat->Prop)(l:List mq)(ld fr:List Nat)(w1:World)(c:Cf):Cf:=match c.pos with
 |.c (.region _ ax true)=>⟨.d ax q C H l ld fr ax.size 0 none,c.fr,c.ρ,w1,c.kn⟩
 |_=>c
def Yo{xx n Q C H l}{q:Option World}{ld fr}(h:yl P n ld fr c=some (true,true,true,true))(d:Cl q C H l c.w.drew)(k:Wk P xx n Q (ek q C H l ld fr c.w.drew c)):Wk P xx n Q c:=by
 intro e;have⟨pos,f,ρ,w,kn⟩:=c;unfold yl at h;split at h;rename_i id ax a;simp only at a;subst a;simp only[Option.some.injEq,Prod.mk.injEq]at h;have⟨h1,h2,h3,g⟩:=h;have:=k e;unfold ek Wq at this;simp only[<-zGN]at this;have b:=fun id=>Za (x:=xx) (P:=P) (n:=n) (id:=id) (l:=ax.toList) (ρ:=ρ) (w:=w) (Q:=Qf P xx n Q f) (Cl q C H l) ld fr h1 h2 Uc Uc d Uc;rw[Array.toArray_toList]at b;exact b _;cases h
def BT{C H l}(q:Option World)(m ld fr)(hs:(aa P U m c).gi=(aa P U m c).so)(h:yl P U.ntmps ld fr (vv P U m c)=some (true,true,true,true))(a:Cl q C H l (vv P U m c).w.drew)(k:W P U R (ek q C H l ld fr (vv P U m c).w.drew<|vv P U m c)):W P U R c:=W.on m hs<|Yo h a k
section
variable {w0 wv w:World} {Hv H:Nat->Prop} {l:List mq}
def dq(m)(k:∀{w1},GG (HS Z w0 Hv wv H w1 l) A<|W P U R<|ek (some w1) (fun _=>True) H l [] [] w1<|vv P U m c)(h:((aa P U m c).gi,yl P U.ntmps [] []<|vv P U m c,(vv P U m c).w)=((aa P U m c).so,some (true,true,true,true),w):=by as_aux_lemma=>kernel_rfl):GG (HS Z w0 Hv wv H w l) A (W P U R c):=by
 intro a d;simp only[Prod.mk.injEq]at h;exact BT (some (vv P U m c).w.drew) m [] [] h.1 h.2.1 rfl (k (by rw[h.2.2];exact⟨a.s.drew,a.b.drew⟩) d)
def dC{r:(World->Prop)->World->Prop}(m ld fr)(k:∀{C w1},GG (HS Z w0 H w1 H w1 l) (r C w1)<|W P U R<|ek none C H l ld fr w1<|vv P U m c)(h:((aa P U m c).gi,yl P U.ntmps ld fr<|vv P U m c,(vv P U m c).w)=((aa P U m c).so,some (true,true,true,true),w):=by as_aux_lemma=>kernel_rfl):GG (HS Z w0 H w H w l) (∃C:World->Prop,C w.drew/\∀w1,w1=w.drew->r C w1) (W P U R c):=by
 rintro a ⟨C,d,e⟩;simp only[Prod.mk.injEq]at h;refine BT none m ld fr h.1 h.2.1 ?_<|k ?_<|e _ Uc;rw[h.2.2];exact⟨d,a.b.nz.drew⟩;rw[h.2.2];exact⟨a.s.drew.jj,a.b.drew⟩
end
def zo(c:Cf):List Nat:=match c.pos with
 |.d ax _ _ _ _ _ _ (_+1) a none=>xr ax a
 |_=>[]
def el(i:Nat)(c:Cf):Cf:=match c.pos with
 |.d ax q C H l ld fr (b+1) a none=>⟨.d ax q C H l ld fr b a<|(xr ax a)[i]?,c.fr,c.ρ,c.w,c.kn⟩
 |_=>c
def dgK{xx n Q}(a:0<(zo c).length)(k:∀i,i<(zo c).length->Wk P xx n Q (el i c)):Wk P xx n Q c:=by
 intro f;have⟨pos,h,ρ,w,kn⟩:=c;unfold zo at a k;split at a;rename_i ax q C H l ld fr g m b;simp only at b;subst b;simp only at k a;refine .inr ⟨fun e=>(by rw[Dq]at e;rw[e]at a;cases a),fun j d=>?_⟩;rw[Dq]at d;obtain⟨i,hi,rfl⟩:=List.getElem_of_mem d;have:=k i hi f;simp only[el,List.getElem?_eq_getElem hi]at this;exact this;cases a
def QN(m)(hs:(aa P U m c).gi=(aa P U m c).so)(a:0<(zo<|vv P U m c).length)(k:∀i,i<(zo<|vv P U m c).length->W P U R (el i<|vv P U m c)):W P U R c:=W.on m hs<|dgK a k
def rZ{A B:Prop}(m)(d:GG π A (W P U R<|el 0<|vv P U m c))(e:GG π B (W P U R<|el 1<|vv P U m c))(h:((aa P U m c).gi,(zo<|vv P U m c).length)=((aa P U m c).so,2):=by as_aux_lemma=>kernel_rfl):GG π (A/\B) (W P U R c):=by
 intro a b;simp only[Prod.mk.injEq]at h;refine QN m h.1 Uc fun i hi=>?_;rw[h.2]at hi;match i,hi with
 |0,_=>exact d a b.1
 |1,_=>exact e a b.2
def OJ{A B D:Prop}(m)(d:GG π A (W P U R<|el 0<|vv P U m c))(e:GG π B (W P U R<|el 1<|vv P U m c))(f:GG π D (W P U R<|el 2<|vv P U m c))(h:((aa P U m c).gi,(zo<|vv P U m c).length)=((aa P U m c).so,3):=by as_aux_lemma=>kernel_rfl):GG π (A/\B/\D) (W P U R c):=by
 intro a b;simp only[Prod.mk.injEq]at h;refine QN m h.1 Uc fun i hi=>?_;rw[h.2]at hi;match i,hi with
 |0,_=>exact d a b.1
 |1,_=>exact e a b.2.1
 |2,_=>exact f a b.2.2
end
section
variable {P:Program} {xx:Cx} {n:Nat} {Q Q':Exit->gb->World->Prop} {c:Cf} {ρ:gb} {w:World}
def Mh{a y}(h:∀e ρ w,Q e ρ w->Q' e ρ w)(k:zi P n a y Q ρ w):zi P n a y Q' ρ w:=fun b f=>wpIn_mono (k b f) (fun e b w c=>by
 cases e<;>first|exact wpIn_mono c (fun _ _ _ d=>JK h d)|exact JK h c)
def ET{ax:Array Oper}{N b:gb->World->Prop}{X c:List PanicEntry->World->Prop}(h:∀ρ w,N ρ w->b ρ w)(hx:∀a w,X a w->c a w):∀{l:List Oper} {ρ w},qm P ax N X l ρ w->qm P ax b c l ρ w
 |[],_,_,k=>h _ _ k
 |o :: l,ρ,w,k=>by
  unfold qm at k|-;split;rename_i e;rw[if_pos e]at k;exact JW k (fun v w' k=>ET h hx k) hx;rename_i e;rw[if_neg e]at k;exact ET h hx k
def yL(h:∀e ρ w,Q e ρ w->Q' e ρ w):∀(a:List Fr) (e:Exit) (ρ:gb) (w:World),Qf P xx n Q a e ρ w->Qf P xx n Q' a e ρ w
 |[],e,ρ,w,k=>h e ρ w k
 |.t c :: a,e,ρ,w,k=>by cases e<;>first|exact JG (fun e ρ w=>yL h a e ρ w) k|exact yL h a _ ρ w k
 |.b id :: a,e,ρ,w,k=>by
  cases e with
  |exit i=>simp only[Qf,ya]at k|-;split<;>rename_i hi<;>simp only[hi]at k<;>exact yL h a _ ρ w k
  |_=>exact yL h a _ ρ w k
 |.r ax l :: a,e,ρ,w,k=>by cases e<;>first|exact Gn (fun ρ w=>yL h a _ ρ w) k|exact yL h a _ ρ w k
 |.j J :: a,e,ρ,w,k=>by cases e<;>first|exact k|exact yL h a _ ρ w k
 |.u c y :: a,e,ρ,w,k=>by cases e<;>first|exact Mh (fun e ρ w=>yL h a e ρ w) k|exact yL h a _ ρ w k
 |.p ax l :: a,e,ρ,w,k=>by cases e<;>first|exact ET (fun ρ w=>yL h a _ ρ w) (fun d w k ρ=>yL h a _ ρ w<|k ρ) k|exact yL h a _ ρ w k
def ze(a:List Fr):∀e,Qf P xx n Q (e++a)=Qf P xx n (Qf P xx n Q a) e
 |[]=>rfl
 |.t c :: d=>by simp only[List.cons_append,Qf,ze a d]
 |.b id :: d=>by simp only[List.cons_append,Qf,ze a d]
 |.r ax l :: d=>by simp only[List.cons_append,Qf,ze a d]
 |.j J :: d=>by simp only[List.cons_append,Qf,ze a d]
 |.u c y :: d=>by simp only[List.cons_append,Qf,ze a d]
 |.p ax l :: d=>by simp only[List.cons_append,Qf,ze a d]
def W0{ax C}{loud free:Nat->Bool}{i K K' ρ w}(b:∀ρ w,K ρ w->K' ρ w)(h:dv P ax C loud free i K ρ w):dv P ax C loud free i K' ρ w:=by
 unfold dv at h|-;split;rename_i a;simp only[a]at h;exact b _ _ h;rename_i o a;simp only[a]at h;split;rename_i c;rw[if_pos c]at h;split;rename_i f;rw[if_pos f]at h;exact tR h fun v w' ⟨d,e⟩=>⟨d,b _ _ e⟩;grind;rename_i c;rw[if_neg c]at h;exact b _ _ h
def TT(h:∀e ρ w,Q e ρ w->Q' e ρ w)(k:Wq P xx n Q c):Wq P xx n Q' c:=by
 have⟨pos,b,ρ,w,kn⟩:=c;cases pos with
 |c a=>exact JG (fun e ρ w=>yL h b e ρ w) k
 |r ax l=>exact Gn (fun ρ w=>yL h b _ ρ w) k
 |x e=>exact yL h b _ ρ w k
 |u a y=>exact Mh (fun e ρ w=>yL h b e ρ w) k
 |p ax l=>exact ET (fun ρ w=>yL h b _ ρ w) (fun g w k ρ=>yL h b _ ρ w<|k ρ) k
 |d ax q C H l ld fr f i s =>
  cases s with
  |none=>exact AS (fun ρ w=>yL h b _ ρ w) k
  |some j=>exact W0 (fun ρ w=>AS fun ρ w=>yL h b _ ρ w) k
def Rw{pos:CE}{b a:List Fr}{ρ w}{kn:List (Nat×Bool)}:Wq P xx n Q ⟨pos,b++a,ρ,w,kn⟩=Wq P xx n (Qf P xx n Q a) ⟨pos,b,ρ,w,kn⟩:=by
 unfold Wq;simp only[ze]
def eh(i:Nat)(J:gb->World->Prop)(c:Cf):Cf:=⟨c.pos,c.fr.take i++.j J ::c.fr.drop i,c.ρ,c.w,c.kn⟩
def CI{i J}(b:∀ρ w,J ρ w->Qf P xx n Q (c.fr.drop i) .normal ρ w)(k:Wk P xx n Q (eh i J c)):Wk P xx n Q c:=by
 intro d;replace k:=k d;have⟨pos,a,ρ,w,kn⟩:=c;unfold eh at k;simp only at k b;rw[Rw]at k;rw[show a=a.take i++a.drop i from(List.take_append_drop i a).symm,Rw];exact TT (fun e ρ w h=>by cases e<;>first|exact b ρ w h|exact h) k
def fe(k:Nat)(c:Cf):Cf:=match c.pos with
 |.r ax l=>⟨.r ax<|l.take k,.r ax (l.drop k) :: c.fr,c.ρ,c.w,c.kn⟩
 |_=>c
def jbL{k}(h:Wk P xx n Q (fe k c)):Wk P xx n Q c:=by
 unfold fe at h;split at h;rename_i a;intro b;replace h:=h b;have⟨pos,d,ρ,w,kn⟩:=c;simp only at a;subst a;exact Ib (ρ:=ρ) (w:=w) k h;exact h
end
section
variable {P:Program} {U:Fx} {R:Qs} {c:Cf} {π A:Prop}
def ct(m k)(h:GG π A (W P U R<|fe k<|vv P U m c))(hs:(aa P U m c).gi=(aa P U m c).so:=by as_aux_lemma=>kernel_rfl):GG π A (W P U R c):=fun a b=>W.on m hs<|jbL<|h a b
def kp(ks:List Nat)(ρ:gb):List (Nat×Value):=ks.map fun s=>(s,ρ s)
abbrev sA(i:Nat)(L:List (Nat×Value))(ρ:gb)(w:World)(c:Cf)(kn:List (Nat×Bool)):Cf:=⟨.x .normal,c.fr.drop i,yF ρ L,w,kn⟩
section
variable {w0 wv w:World} {Hv H:Nat->Prop} {l:List mq}
def K7(T:List (Nat×Value)->List mq->(Nat->Prop)->World->Prop)(m i ks)(ka:∀{J:gb->World->Prop},(∀{L l H w},T L l H w->HS Z w0 H w H w l->∀{ρ},pO ρ (kp ks (vv P U m c).ρ++L)->J ρ w)->GG π A (W P U R<|eh i J<|vv P U m c))(b:∀{L l H w ρ},T L l H w->HS Z w0 H w H w l->W P U R (sA i (kp ks (vv P U m c).ρ++L) ρ w (vv P U m c) []))(hs:(aa P U m c).gi=(aa P U m c).so):GG π A (W P U R c):=fun a d=>by
 refine W.on m hs<|CI (i:=i) (J:=fun ρ w=>∃L l H,T L l H w/\HS Z w0 H w H w l/\pO ρ (kp ks (vv P U m c).ρ++L)) ?_<|ka Gd a d;rintro ρ w ⟨L,l,H,ht,hS,hh⟩;have:=b (ρ:=ρ) ht hS (fun _ _ h=>by cases h);unfold sA at this;rw[xO hh]at this;exact this
def xj(d:Nat)(c:Cf)(L:List (Nat×Value))(l:List mq):Option (Exit×Option Fr×World×List Value×List mq):=match c.pos with
 |.x e=>some (e,c.fr.head?,c.w,L.map fun p=>c.ρ p.1,l.drop d)
 |_=>none
def DU{J}{L:List (Nat×Value)}{l' d}(m)(hs:(aa P U m c).gi=(aa P U m c).so)(h:xj d (vv P U m c) L l=some (.normal,some<|.j J,w,L.map (·.2),l'))(j:∀{ρ},pO ρ L->J ρ w):W P U R c:=by
 refine W.on m hs fun _=>?_;unfold xj at h;split at h;rename_i e b;simp only[Option.some.injEq,Prod.mk.injEq]at h;obtain⟨rfl,h2,rfl,g,_⟩:=h;unfold Wq;rw[b];simp only;cases a:(vv P U m c).fr with
 |nil=>rw[a]at h2;cases h2
 |cons f i=>rw[a]at h2;cases h2;exact j g
 cases h
def Ov{d c}{L:List (Nat×Value)}{x:Exit×Option Fr×World×List Value×List mq}(h:xj d c L l=some x):l.drop d=x.2.2.2.2:=by
 unfold xj at h;split at h;cases h;rfl;cases h
def je{J}{L:List (Nat×Value)}{l'}(m d)(j:HS Z w0 H w H w l'->A->∀{ρ},pO ρ L->J ρ w)(h:((aa P U m c).gi,xj d (vv P U m c) L l)=((aa P U m c).so,some (.normal,some<|.j J,w,L.map (·.2),l')):=by as_aux_lemma=>kernel_rfl):GG (HS Z w0 H w H w l) A (W P U R c):=fun a f=>by
 simp only[Prod.mk.injEq]at h;have e:=Ov h.2;simp only at e;exact DU m h.1 h.2 fun hh=>j ⟨a.s,by rw[<-e];exact a.b.drop d⟩ f hh
def gn{J}{L:List (Nat×Value)}{w}(m)(j:A->∀{ρ},pO ρ L->J ρ w)(h:((aa P U m c).gi,xj 0 (vv P U m c) L [])=((aa P U m c).so,some (.normal,some<|.j J,w,L.map (·.2),[])):=by as_aux_lemma=>kernel_rfl):GG π A (W P U R c):=fun _ a=>by
 simp only[Prod.mk.injEq]at h;exact DU m h.1 h.2 fun hh=>j a hh
def bn(cs:List Bool)(i:Nat):Bool:=cs.getD i false
def ub(b:Nat->Bool)(i:Nat)(t:Bool):Nat->Bool:=fun j=>cond (Nat.beq j i) t<|b j
def OF{b:Nat->Bool}{i t}(h:b i=t):ub b i t=b:=by
 funext j;unfold ub;cases e:Nat.beq j i with
 |true=>rw[Nat.eq_of_beq_eq_true e,h];rfl
 |false=>rfl
def PJ(Z:List (Nat×Obj))(w0:World)(Hv:Nat->Prop)(wv:World)(J:gb->World->Prop)(L:(Nat->Bool)->List (Nat×Value))(hs:(Nat->Bool)->List mq)(b:Nat->Bool):Prop:=∀H w,HS Z w0 Hv wv H w (hs b)->∀ρ,pO ρ (L b)->J ρ w
def kf(ks:List Nat):List (Nat×Bool)->List (Nat×Bool)
 |[]=>[]
 |(d,b) :: kn=>cond (ks.any<|Nat.beq d) ((d,b) :: kf ks kn)<|kf ks kn
def DC{ks d b}:∀{kn:List (Nat×Bool)},kl (kf ks kn) d=some b->d∈ks/\kl kn d=some b
 |[],h=>by cases h
 |(s,t) :: kn,h=>by
  simp only[kf]at h;cases e:ks.any (Nat.beq s)with
  |true =>
   rw[e]at h
   simp only[cond_true,kl]at h|-
   cases a:Nat.beq s d with
   |true =>
    rw[a]at h
    have:=Nat.eq_of_beq_eq_true a
    subst this
    have⟨x,hx,c⟩:=List.any_eq_true.1 e
    exact⟨Uc,h⟩
   |false=>rw[a]at h;exact DC (kn:=kn) h
  |false =>
   rw[e]at h
   have:=DC (kn:=kn) h
   refine⟨this.1,?_⟩
   simp only[kl]
   cases a:Nat.beq s d with
   |true =>
    have f:=Nat.eq_of_beq_eq_true a
    subst f
    have:ks.any (Nat.beq s)=true:=List.any_eq_true.2 ⟨s,this.1,Nat.beq_refl s⟩
    rw[this]at e;cases e
   |false=>exact this.2
def EA{ρ ρ' d}:∀{ks:List Nat} {L:List (Nat×Value)},d∈ks->yF ρ (kp ks ρ'++L) d=ρ' d
 |s :: ks,L,h=>by
  show(if d=s then ρ' s else yF ρ (kp ks ρ'++L) d)=ρ' d;by_cases e:d=s;rw[if_pos e,e];rw[if_neg e];exact EA<|(List.mem_cons.1 h).resolve_left e
def ph(hs:(Nat->Bool)->List mq->List mq)(m i)(cs:List Bool)(ks)(f:(Nat->Bool)->List (Nat×Value))(ka:∀{J:gb->World->Prop},PJ Z w0 Hv wv J (fun b=>kp ks (vv P U m c).ρ++f b) (fun b=>hs b l) (bn cs)->GG (HS Z w0 Hv wv H w l) A (W P U R<|eh i J<|vv P U m c))(j:∀{H w ρ},GG (HS Z w0 Hv wv H w<|hs (bn cs) l) A<|W P U R<|sA i (kp ks (vv P U m c).ρ++f (bn cs)) ρ w (vv P U m c)<|kf ks (vv P U m c).kn)(h:(aa P U m c).gi=(aa P U m c).so:=by as_aux_lemma=>kernel_rfl):GG (HS Z w0 Hv wv H w l) A (W P U R c):=fun g a=>by
 refine W.on m h fun e=>?_;refine CI (i:=i) (J:=fun ρ w=>∃H,HS Z w0 Hv wv H w (hs (bn cs) l)/\pO ρ (kp ks (vv P U m c).ρ++f (bn cs))) ?_ (ka (fun _ _ hS _ hh=>⟨_,hS,hh⟩) g a) e;rintro ρ w ⟨H,hS,hh⟩;have:=j (ρ:=ρ) hS a (fun d b h=>by
  have:=DC h;exact(EA this.1).trans<|e _ _ this.2)
 unfold sA at this;rw[xO hh]at this;exact this
def pj(m i)(cs:List Bool)(ks)(f:(Nat->Bool)->List (Nat×Value))(ka:∀{J:gb->World->Prop},PJ Z w0 Hv wv J (fun b=>kp ks (vv P U m c).ρ++f b) (fun _=>l) (bn cs)->GG (HS Z w0 Hv wv H w l) A (W P U R<|eh i J<|vv P U m c))(a:∀{H w ρ},GG (HS Z w0 Hv wv H w l) A<|W P U R<|sA i (kp ks (vv P U m c).ρ++f (bn cs)) ρ w (vv P U m c)<|kf ks (vv P U m c).kn)(h:(aa P U m c).gi=(aa P U m c).so:=by as_aux_lemma=>kernel_rfl):GG (HS Z w0 Hv wv H w l) A (W P U R c):=ph (fun _ l=>l) m i cs ks f ka a h
def ad(ps:List Addr)(k:Nat):Addr:=ps.getD k ⟨0,0,none⟩
def PD(Z:List (Nat×Obj))(w0:World)(Hv:Nat->Prop)(wv:World)(J:gb->World->Prop)(L:List Addr->(Nat->Bool)->List (Nat×Value))(hs:List Addr->(Nat->Bool)->List mq)(b:Nat->Bool):Prop:=∀ps,PJ Z w0 Hv wv J (L ps) (hs ps) b
def pd(hs:List Addr->(Nat->Bool)->List mq->List mq)(m i)(cs:List Bool)(ks)(f:List Addr->(Nat->Bool)->List (Nat×Value))(ka:∀{J:gb->World->Prop},PD Z w0 Hv wv J (fun ps b=>kp ks (vv P U m c).ρ++f ps b) (fun ps b=>hs ps b l) (bn cs)->GG (HS Z w0 Hv wv H w l) A (W P U R<|eh i J<|vv P U m c))(j:∀{ps H w ρ},GG (HS Z w0 Hv wv H w<|hs ps (bn cs) l) A<|W P U R<|sA i (kp ks (vv P U m c).ρ++f ps (bn cs)) ρ w (vv P U m c)<|kf ks (vv P U m c).kn)(h:(aa P U m c).gi=(aa P U m c).so:=by as_aux_lemma=>kernel_rfl):GG (HS Z w0 Hv wv H w l) A (W P U R c):=fun g a=>by
 refine W.on m h fun e=>?_;refine CI (i:=i) (J:=fun ρ w=>∃ps H,HS Z w0 Hv wv H w (hs ps (bn cs) l)/\pO ρ (kp ks (vv P U m c).ρ++f ps (bn cs))) ?_ (ka (fun _ _ _ hS _ hh=>⟨_,_,hS,hh⟩) g a) e;rintro ρ w ⟨ps,H,hS,hh⟩;have:=j (ρ:=ρ) hS a (fun d b h=>by
  have:=DC h;exact(EA this.1).trans<|e _ _ this.2)
 unfold sA at this;rw[xO hh]at this;exact this
def pb{a:(Nat->Bool)->Prop}{b:Nat->Bool}(q m i)(j:a b)(g:a (ub b i true)->GG π A (W P U R<|ka q true<|vv P U m c))(k:a (ub b i false)->GG π A (W P U R<|ka q false<|vv P U m c))(h:((aa P U m c).gi,Fw q<|vv P U m c)=((aa P U m c).so,some<|.bool<|b i):=by as_aux_lemma=>kernel_rfl):GG π A (W P U R c):=by
 intro d e;simp only[Prod.mk.injEq]at h;refine W.on m h.1 ?_;cases f:b i with
 |true=>exact GS Uc<|g (by rw[OF f];exact j) d e
 |false=>exact GS Uc<|k (by rw[OF f];exact j) d e
def pe{J}{L:(Nat->Bool)->List (Nat×Value)}{hs:(Nat->Bool)->List mq}{b:Nat->Bool}(m d)(j:PJ Z w0 Hv wv J L hs b)(h:((aa P U m c).gi,xj d (vv P U m c) (L b) l)=((aa P U m c).so,some (.normal,some<|.j J,w,(L b).map (·.2),hs b)):=by as_aux_lemma=>kernel_rfl):GG (HS Z w0 Hv wv H w l) A (W P U R c):=fun a f=>by
 simp only[Prod.mk.injEq]at h;have e:=Ov h.2;simp only at e;exact DU m h.1 h.2 fun hh=>j H w ⟨a.s,by rw[<-e];exact a.b.drop d⟩ _ hh
end
def PN(w:World)(J:gb->World->Prop)(L:(Nat->Bool)->List (Nat×Value))(b:Nat->Bool):Prop:=∀ρ,pO ρ (L b)->J ρ w
def Dk(m i)(cs:List Bool)(ks)(f:(Nat->Bool)->List (Nat×Value))(ka:∀{J:gb->World->Prop},PN (vv P U m c).w J (fun b=>kp ks (vv P U m c).ρ++f b) (bn cs)->GG π A (W P U R<|eh i J<|vv P U m c))(j:∀{ρ},GG π A<|W P U R<|sA i (kp ks (vv P U m c).ρ++f (bn cs)) ρ (vv P U m c).w (vv P U m c)<|kf ks (vv P U m c).kn)(h:(aa P U m c).gi=(aa P U m c).so:=by as_aux_lemma=>kernel_rfl):GG π A (W P U R c):=fun a e=>by
 refine W.on m h fun g=>?_;refine CI (i:=i) (J:=fun ρ w=>w=(vv P U m c).w/\pO ρ (kp ks (vv P U m c).ρ++f (bn cs))) ?_ (ka (fun _ hh=>⟨rfl,hh⟩) a e) g;rintro ρ w ⟨rfl,hh⟩;have:=j (ρ:=ρ) a e (fun d b h=>by
  have:=DC h;exact(EA this.1).trans<|g _ _ this.2)
 unfold sA at this;rw[xO hh]at this;exact this
def wF{w J}{L:(Nat->Bool)->List (Nat×Value)}{b:Nat->Bool}(m)(j:PN w J L b)(h:((aa P U m c).gi,xj 0 (vv P U m c) (L b) [])=((aa P U m c).so,some (.normal,some<|.j J,w,(L b).map (·.2),[])):=by as_aux_lemma=>kernel_rfl):GG π A (W P U R c):=fun _ _=>by
 simp only[Prod.mk.injEq]at h;exact DU m h.1 h.2 fun hh=>j _ hh
def DD(c:Cf)(L:List (Nat×Value)):Option (World×List Value):=match c.pos with
 |.c (.loop _)=>some (c.w,L.map fun p=>c.ρ p.1)
 |_=>none
def e0(J:gb->World->Prop)(L:List (Nat×Value))(ρ:gb)(w:World)(c:Cf):Cf:=match c.pos with
 |.c (.loop b)=>⟨.c b,.j J :: c.fr,yF ρ L,w,[]⟩
 |_=>c
def Ih{xx n Q}{σ:Type}(L:σ->List (Nat×Value))(I:σ->World->Prop)(a:σ->World->Nat){s0:σ}{w}(h:DD c (L s0)=some (w,(L s0).map (·.2)))(e:I s0 w)(k:∀{s w1 ρ} {J:gb->World->Prop},(∀{s' w'},I s' w'/\a s' w'<a s w1->∀{ρ},pO ρ (L s')->J ρ w')->I s w1->Wk P xx n Q (e0 J (L s) ρ w1 c)):Wk P xx n Q c:=by
 intro j;unfold DD at h;have⟨pos,l,ρ,w',kn⟩:=c;split at h;rename_i b d;simp only at d;subst d;simp only[Option.some.injEq,Prod.mk.injEq]at h;obtain⟨rfl,h2⟩:=h;refine Zd (σ:=σ×World) (fun s ρ w=>w=s.2/\pO ρ (L s.1)/\I s.1 w) (fun s=>a s.1 s.2) (s0,w') ⟨rfl,h2,e⟩ ?_;rintro⟨s,w1⟩ f i ⟨rfl,hh,g⟩;have:=k (J:=fun ρ w=>∃s':σ×World,(w=s'.2/\pO ρ (L s'.1)/\I s'.1 w)/\a s'.1 s'.2<a s i) (ρ:=f) (fun {s' w'} h _ hh=>⟨(s',w'),⟨rfl,hh,h.1⟩,h.2⟩) g (fun _ _ h=>by cases h);unfold e0 at this;simp only at this;rw[xO hh]at this;exact this;cases h
end
section
variable {P:Program} {U:Fx} {R:Ending->World->Prop} {c:Cf} {π A:Prop}
def EO(ρ:gb):List ResultVar->List Value->List ResultVar×List Value
 |.tmp t :: rs,vs=>EO ρ rs<|vs++[ρ t]
 |rs,vs=>(rs,vs)
def DN:List Value->Value
 |[v]=>v
 |vs=>.tuple vs.toArray
def WS(P:Program)(R:Ending->World->Prop)(c:Cf)(s:List ResultVar×List Value):Prop:=∃us,yr P c.ρ c.w s.1 us/\R (.returned<|DN<|s.2++us) c.w
def yv(c:Cf)(s:List ResultVar×List Value)(v:Value):List ResultVar×List Value:=EO c.ρ s.1.tail<|s.2++[v]
def G5:∀{rs:List ResultVar} {vs:List Value},WS P R c (EO c.ρ rs vs)->WS P R c (rs,vs)
 |[],_,h=>h
 |.cell _ _ :: _,_,h=>h
 |.tmp t :: rs,vs,h=>by
  have⟨us,h1,h2⟩:=G5 (rs:=rs) (vs:=vs++[c.ρ t]) h;exact⟨c.ρ t ::us,⟨rfl,h1⟩,Uc⟩
def O0{s:List ResultVar×List Value}{r:ResultVar}{v}(hs:s.1.head?=some r)(a:RV P c.ρ c.w r v)(k:WS P R c (yv c s v)):WS P R c s:=by
 have⟨rs,vs⟩:=s;cases rs with
 |nil=>cases hs
 |cons b rs =>
  cases hs
  have⟨us,h1,h2⟩:=G5 k
  exact⟨v ::us,⟨a,h1⟩,Uc⟩
def Qe(c:Cf):Bool:=match c.pos,c.fr with
 |.x .ret,[]=>true
 |.x .normal,[]=>true
 |_,_=>false
def gu(m)(k:GG π A (WS P R (vv P U m c)<|EO (vv P U m c).ρ U.results.toList []))(h:((aa P U m c).gi,Qe<|vv P U m c)=((aa P U m c).so,true):=by as_aux_lemma=>kernel_rfl):GG π A (W P U (bq P U.f R) c):=by
 intro d g;simp only[Prod.mk.injEq]at h;refine W.on m h.1 fun _=>?_;have⟨us,h1,h2⟩:=G5<|k d g;have key:∀e:Exit,e=.ret\/e=.normal->Do P U.f U.ntmps R e (vv P U m c).ρ (vv P U m c).w:=fun e i=>by
  refine ep<|QP i Uc h1 ?_ h2;rw[List.nil_append];match us with
  |[]=>rfl
  |[v]=>rfl
  |u :: v :: us=>simp[DN]
 have h3:=h.2;unfold Qe at h3;unfold Wq;split at h3;rename_i b a;rw[b,a];exact key _<|.inl rfl;rename_i b a;rw[b,a];exact key _<|.inr rfl;cases h3
def yh(P:Program)(c:Cf)(s:List ResultVar×List Value):Option (Value×(World->Result Bool)×(World->Result Nat)):=match s.1 with
 |.cell a T :: _=>some (c.ρ a,fun y=>(isAgg T).run P y,fun y=>(sizeOf T).run P y)
 |_=>none
def qG1{s:List ResultVar×List Value}{p v n}(h:yh P c s=some (.pointer<|some p,fun y=>.ok false y,fun y=>.ok n y))(a:c.w.cell? p=some v)(k:WS P R c (yv c s v)):WS P R c s:=by
 unfold yh at h;split at h;rename_i e;simp only[Option.some.injEq,Prod.mk.injEq]at h;exact O0 Uc (RV.jbJ h.1 (congrFun h.2.1 _) a) k;cases h
def JA{s:List ResultVar×List Value}{p us}(h:yh P c s=some (.pointer<|some p,fun y=>.ok true y,fun y=>.ok us.length y))(a:Row c.w p us)(k:WS P R c (yv c s<|.agg us.toArray)):WS P R c s:=by
 unfold yh at h;split at h;rename_i e;simp only[Option.some.injEq,Prod.mk.injEq]at h;exact O0 Uc (RV.jaV h.1 (congrFun h.2.1 _) (congrFun h.2.2 _) rfl a) k;cases h
def u9{s:List ResultVar×List Value}{α:Type}{F:α->Value}{r:α->Prop}{p w}(k:∀{v},GG π (r v)<|WS P R c<|yv c s<|F v)(h:(yh P c s,c.w)=(some (.pointer<|some p,fun y=>.ok false y,fun y=>.ok 1 y),w):=by as_aux_lemma=>kernel_rfl):GG π (∃v,w.cell? p=some (F v)/\r v) (WS P R c s):=by
 rintro a ⟨v,d,b⟩;simp only[Prod.mk.injEq]at h;exact qG1 h.1 Uc<|k a b
def jq{s:List ResultVar×List Value}{r:Prop}{p us w}(k:GG π r (WS P R c<|yv c s<|.agg us.toArray))(h:(yh P c s,c.w)=(some (.pointer<|some p,fun y=>.ok true y,fun y=>.ok us.length y),w):=by as_aux_lemma=>kernel_rfl):GG π (Row w p us/\r) (WS P R c s):=by
 rintro a ⟨d,b⟩;simp only[Prod.mk.injEq]at h;exact JA h.1 Uc<|k a b
def Sd{s:List ResultVar×List Value}{r:Prop}{p us n w}(k:GG π r (WS P R c<|yv c s<|.agg us))(h:(yh P c s,c.w)=(some (.pointer<|some p,fun y=>.ok true y,fun y=>.ok n y),w):=by as_aux_lemma=>kernel_rfl):GG π ((us.size=n/\Row w p us.toList)/\r) (WS P R c s):=by
 rintro a ⟨⟨f,d⟩,b⟩;simp only[Prod.mk.injEq]at h;have e:us.toList.length=n:=Uc;refine JA (us:=us.toList) (by rw[e];exact h.1) (by rw[h.2];exact d) ?_;rw[Array.toArray_toList];exact k a b
section
variable {w0 wv w:World} {Hv H:Nat->Prop} {l:List mq}
def nW{s:List ResultVar×List Value}(i js n)(k:GG (HS Z w0 Hv wv H w l) A (WS P R c<|yv c s<|.agg (((di l i).drop<|sum js).take n).toArray))(h:(yh P c s,c.w,Nat.ble (sum js+n) (di l i).length,Nat.blt 0 n)=(some (.pointer<|some<|dw l i js,fun y=>.ok true y,fun y=>.ok (((di l i).drop<|sum js).take n).length y),w,true,true):=by as_aux_lemma=>kernel_rfl):GG (HS Z w0 Hv wv H w l) A (WS P R c s):=by
 intro a d;simp only[Prod.mk.injEq]at h;exact JA h.1 (by rw[h.2.1];exact wV a.b h.2.2.1<|by simpa[Nat.blt_eq]using h.2.2.2) (k a d)
end
def gw{s:List ResultVar×List Value}{v w}(b:A->R (.returned v) w:=by first|exact fun h=>⟨_,rfl,h⟩|exact fun h=>⟨_,_,rfl,h⟩|exact fun h=>⟨_,_,_,rfl,h⟩|exact fun h=>⟨_,_,_,_,rfl,h⟩|exact fun h=>⟨_,_,_,_,_,rfl,h⟩|exact fun h=>⟨_,_,_,_,_,_,rfl,h⟩|exact fun h=>⟨_,_,_,_,_,_,_,rfl,h⟩|exact fun h=>⟨_,_,_,_,_,_,_,_,rfl,h⟩|exact fun h=>⟨_,_,_,_,_,_,_,_,_,rfl,h⟩|exact fun h=>⟨_,_,_,_,_,_,_,_,_,_,rfl,h⟩|exact fun h=>⟨_,_,_,_,_,_,_,_,_,_,_,rfl,h⟩|exact fun h=>⟨_,_,_,_,_,_,_,_,_,_,_,_,rfl,h⟩)(h:(s.1,DN s.2,c.w)=([],v,w):=by as_aux_lemma=>kernel_rfl):GG π A (WS P R c s):=fun _ a=>by
 simp only[Prod.mk.injEq]at h;refine⟨[],?_,?_⟩
 .rw[h.1];trivial
 .grind
end
section
variable {P:Program} {U:Fx} {R:Qs} {c:Cf} {π A:Prop}
def AT(c:Cf):Bool:=match c.pos with
 |.d ax _ _ _ _ ld _ _ _ (some k)=>wA .any ax (yH ld) k
 |_=>false
def Ku{xx n Q o v}(h:ga c=some o)(e:qg c=false)(d:AT c=true)(i:(execOp (gx c.ρ) o).run P c.w=.ok (.value v) c.w)(k:Wk P xx n Q (uP v c.w c)):Wk P xx n Q c:=by
 intro f;have⟨hh,b⟩:=yn h;unfold su at b;rw[wM f]at b;replace k:=k<|vk f _ _;cases a:qv c with
 |false =>
  have⟨ax,l,h1,h2,h3⟩:=wR (v:=v) (w':=c.w) hh a
  unfold AT at d;rw[h1]at d;cases d
 |true =>
  have⟨ax,q,C,H,l,ld,fr,p,r,j,h1,h2,g,m,h3⟩:=Ar (v:=v) (w':=c.w) hh a
  rw[h2]at b;rw[h3]at k;rw[AL h1];rw[m]at e
  exact sxe g b e (by simpa[AT,h1]using d) i k
def pN{α:Type}{F:α->Value}{r:α->Prop}{a w}(m)(k:∀{v},GG π (r v)<|W P U R<|pv (F v)<|vv P U m c)(h:((aa P U m c).gi,wz P<|vv P U m c,AT<|vv P U m c,(vv P U m c).w)=((aa P U m c).so,some (.pointer<|some a,fun y=>.ok false y,false),true,w):=by as_aux_lemma=>kernel_rfl):GG π (∃v,w.cell? a=some (F v)/\r v) (W P U R c):=by
 rintro b ⟨v,f,e⟩;simp only[Prod.mk.injEq]at h;have⟨g,h1,h2,h3⟩:=h;unfold wz at h1;split at h1;rename_i d;simp only[Option.some.injEq,Prod.mk.injEq]at h1;exact W.on m g<|Ku d h1.2.2 h2 (by rw[h3];exact rT h1.1 (congrFun h1.2.1 w) f) (k b e);cases h1
def QJ{r:Prop}{vs a w}(m)(k:GG π r (W P U R<|pv (.agg vs.toArray)<|vv P U m c))(h:((aa P U m c).gi,wW P<|vv P U m c,AT<|vv P U m c,(vv P U m c).w)=((aa P U m c).so,some (.pointer<|some a,fun y=>.ok true y,fun y=>.ok vs.length y,false),true,w):=by as_aux_lemma=>kernel_rfl):GG π (Row w a vs/\r) (W P U R c):=by
 rintro b ⟨f,e⟩;simp only[Prod.mk.injEq]at h;have⟨g,h1,h2,h3⟩:=h;unfold wW at h1;split at h1;rename_i d;simp only[Option.some.injEq,Prod.mk.injEq]at h1;exact W.on m g<|Ku d h1.2.2.2 h2 (by rw[h3];exact RQ h1.1 (congrFun h1.2.1 w) (congrFun h1.2.2.1 w) rfl f) (k b e);cases h1
def Io{r:Prop}{s:Sem Value}{v w}(m)(k:GG π r (W P U R<|pv v<|vv P U m c))(h:((aa P U m c).gi,vq<|vv P U m c,qg<|vv P U m c,AT<|vv P U m c,(vv P U m c).w)=((aa P U m c).so,some<|do pure (.value (<-s)),false,true,w):=by as_aux_lemma=>kernel_rfl):GG π (s.run P w=.ok v w/\r) (W P U R c):=by
 rintro b ⟨g,d⟩;simp only[Prod.mk.injEq]at h;have⟨e,h1,h2,h3,f⟩:=h;unfold vq at h1;cases a:ga (vv P U m c)with
 |none=>rw[a]at h1;cases h1
 |some o=>rw[a]at h1;exact W.on m e<|Ku a h2 h3 Uc<|k b d
def Nn(P:Program)(c:Cf):Option (Value×Option Int×Nat×(World->Result Nat)×Bool):=match ga c with
 |some ⟨_,.indexAddr T x i,_,_,_,_⟩=>match P.underlying T with
  |some (.array k e)=>some (gx c.ρ x,Fy<|gx c.ρ i,k,fun y=>(sizeOf e).run P y,qg c)
  |_=>none
 |_=>none
def Gg{r:Addr->Prop}{p i k n}(m)(q:∀{a},GG π (r a)<|W P U R<|pv (.pointer<|some a)<|vv P U m c)(h:((aa P U m c).gi,Nn P<|vv P U m c)=((aa P U m c).so,some (.pointer<|some p,some i,k,fun y=>.ok n y,false)):=by as_aux_lemma=>kernel_rfl):GG π (∃a,Bs p i k n a/\r a) (W P U R c):=by
 rintro b ⟨a,g,e⟩;simp only[Prod.mk.injEq]at h;have⟨o,h⟩:=h;unfold Nn at h;split at h;rename_i d;split at h;rename_i l;simp only[Option.some.injEq,Prod.mk.injEq]at h;obtain⟨h1,h2,rfl,h3,f⟩:=h;have⟨j,h2⟩:=Oz h2;exact xp m o d f (fun x _=>U3 h1 h2 (run_underlying l x) (congrFun h3 x) g)<|q b e;cases h;cases h
section
variable {w0 w:World} {H:Nat->Prop} {l:List mq}
def MO{r:World->Prop}{a:Addr}{vs:List Value}{n:Nat}(m:Nat)(k:∀{w1},GG (HS Z w0 H w1 H w1 l) (r w1)<|W P U R<|uP undef w1<|vv P U m c)(h:((aa P U m c).gi,rV P<|vv P U m c,oo<|vv P U m c,(vv P U m c).w,pV<|vv P U m c,vs.length)=((aa P U m c).so,some (.pointer<|some a,.agg vs.toArray,fun y=>.ok vs.length y),true,w,true,n):=by as_aux_lemma=>kernel_rfl):GG (HS Z w0 H w H w l) ((vs.all vC=true/\∀j,j<n->zJ w (a.add j))/\¬H a.block/\∀w1,w1=ib w a vs->r w1) (W P U R c):=by
 rintro d ⟨⟨g,o⟩,f,i⟩;simp only[Prod.mk.injEq]at h;exact Ds m h.1 h.2.1 g h.2.2.1 h.2.2.2.1 Uc fun w1 e=>⟨.inl h.2.2.2.2.1,k (by subst e;exact⟨d.s.jg<|av.ib f,d.b.ff<|av.ib f⟩)<|i w1 e⟩
end
def fo{r:FuncId->Array Value->Array Value->Prop}{v:Value}{X:Prop}(k:∀{f a cs},v=.func (.func f) a cs->GG π (r f a cs) X):GG π (∃f a cs,v=.func (.func f) a cs/\r f a cs) X:=fun b ⟨_,_,_,d,c⟩=>k d b c
def MC(c:Cf):Option (Value×List Value):=match ga c with
 |some ⟨_,.call ⟨.value x,jdx,_⟩,_,_,_,_⟩=>some (gx c.ρ x,jdx.toList.map<|gx c.ρ)
 |_=>none
def cv{f fs cs ag v w Q}(m)(g:v=.func (.func f) fs cs)(k:∀{e w1},GG π (Q e w1)<|WR P U R (vv P U m c) e w1)(h:((aa P U m c).gi,MC<|vv P U m c,oo<|vv P U m c,(vv P U m c).w)=((aa P U m c).so,some (v,ag),true,w):=by as_aux_lemma=>kernel_rfl):GG π ((∀args w,(callFunc f args).run P w=.ok (.enter f args) w)/\Calls P f (fs++ag.toArray++cs) w Q) (W P U R c):=by
 rintro a ⟨i,d⟩;simp only[Prod.mk.injEq]at h;refine FA m i h.1 ?_ h.2.2.1 h.2.2.2<|d.mono fun e w1 q=>k a q;have h2:=h.2.1;unfold MC at h2;split at h2;rename_i b;cases h2;unfold AR;rw[b];simp only[g];cases h2
end
def Sc(Z:List (Nat×Obj))(w0:World)(Hv:Nat->Prop)(wv:World)(l:List mq)(x:World):Prop:=∃a,au w0 Hv wv a x/\jy Z a x l
section
variable {P:Program} {U:Fx} {R:Qs} {c:Cf} {A:Prop} {w0 wv w:World} {Hv H:Nat->Prop} {l:List mq}
def JX{l'}(h:pZ c=some (Sc Z w0 Hv wv l'))(x)(hx:need c x):∃a,au w0 Hv wv a x/\jy Z a x l':=((xG h x).1 hx).1
def Ls{l' k}(h:(pZ c,tk c,qn c)=(some<|Sc Z w0 Hv wv l',bl,[]))(d:l.drop k=l')(a:HS Z w0 Hv wv H w l):need c w:=by
 simp only[Prod.mk.injEq]at h;refine(xG h.1 w).2 ⟨⟨H,a.s,by rw[<-d];exact a.b.drop k⟩,?_⟩;rw[h.2.1,h.2.2];exact HB.nil _ _
def FD(m ld fr)(k:∀{w1},GG (HS Z w0 Hv wv H w1 l) A<|W P U R<|ek none (Sc Z w0 Hv wv l) bl [] ld fr w1<|vv P U m c)(h:((aa P U m c).gi,yl P U.ntmps ld fr<|vv P U m c,(vv P U m c).w)=((aa P U m c).so,some (true,true,true,true),w):=by as_aux_lemma=>kernel_rfl):GG (HS Z w0 Hv wv H w l) A (W P U R c):=by
 intro d f;simp only[Prod.mk.injEq]at h;have e:=h.2.2;have a:HS Z w0 Hv wv H (vv P U m c).w.drew l:=by rw[e];exact⟨d.s.drew,d.b.drew⟩
 exact BT none m ld fr h.1 h.2.1 ⟨⟨H,a.s,a.b⟩,HB.nil _ _⟩<|k a f
def CR{α:Type}{F:α->Value}{r:α->Prop}{a}(m)(k:∀{v},GG (HS Z w0 H wv H w l) (r v)<|W P U R<|pv (F v)<|vv P U m c)(h:((aa P U m c).gi,wz P<|vv P U m c,pZ<|vv P U m c)=((aa P U m c).so,some (.pointer<|some a,fun y=>.ok false y,false),some<|Sc Z w0 H wv l):=by as_aux_lemma=>kernel_rfl):GG (HS Z w0 H wv H w l) (∃v,wv.cell? a=some (F v)/\¬H a.block/\r v) (W P U R c):=by
 rintro b ⟨v,e,f,d⟩;simp only[Prod.mk.injEq]at h;exact Bw m h.1 h.2.1 (fun x hx=>by have⟨g,h1,_⟩:=JX h.2.2 x hx;exact ND e f h1) (k b d)
def KM{r:Prop}{u vs a}(m)(k:GG (HS Z w0 H wv H w l) r (W P U R<|pv (.agg (u ::vs).toArray)<|vv P U m c))(h:((aa P U m c).gi,wW P<|vv P U m c,pZ<|vv P U m c)=((aa P U m c).so,some (.pointer<|some a,fun y=>.ok true y,fun y=>.ok (u ::vs).length y,false),some<|Sc Z w0 H wv l):=by as_aux_lemma=>kernel_rfl):GG (HS Z w0 H wv H w l) (Row wv a (u ::vs)/\¬H a.block/\r) (W P U R c):=by
 rintro b ⟨e,f,d⟩;simp only[Prod.mk.injEq]at h;exact C9 m h.1 h.2.1 (fun x hx=>by have⟨g,h1,_⟩:=JX h.2.2 x hx;exact L0 e f h1) (k b d)
def lhs(m k i js)(d:GG (HS Z w0 Hv wv H w l) A (W P U R<|pv (fa (l.drop k) i<|sum js)<|vv P U m c))(h:((aa P U m c).gi,wz P<|vv P U m c,pZ<|vv P U m c,Nat.blt (sum js) (di (l.drop k) i).length)=((aa P U m c).so,some (.pointer<|some<|dw (l.drop k) i js,fun y=>.ok false y,false),some<|Sc Z w0 Hv wv<|l.drop k,true):=by as_aux_lemma=>kernel_rfl):GG (HS Z w0 Hv wv H w l) A (W P U R c):=by
 intro a b;simp only[Prod.mk.injEq]at h;exact Bw m h.1 h.2.1 (fun x hx=>by have⟨e,_,h2⟩:=JX h.2.2.1 x hx;exact wY h2 h.2.2.2) (d a b)
def Xe{f args v}(m d)(o:∀args w,(callFunc f args).run P w=.ok (.enter f args) w)(i:∀w,Calls P f args w fun e w'=>e=.returned v/\aq w w')(k:∀{w1},GG (HS Z w0 Hv wv H w1 l) A<|W P U R<|uP v w1<|vv P U m c)(h:((aa P U m c).gi,AR<|vv P U m c,oo<|vv P U m c,(vv P U m c).w,pZ<|vv P U m c,tk<|vv P U m c,qn<|vv P U m c)=((aa P U m c).so,some (f,args),true,w,some<|Sc Z w0 Hv wv<|l.drop d,bl,[]):=by as_aux_lemma=>kernel_rfl):GG (HS Z w0 Hv wv H w l) A (W P U R c):=by
 intro a j;simp only[Prod.mk.injEq]at h;refine FA m o h.1 h.2.1 h.2.2.1 h.2.2.2.1<|(i w).mono fun e w1 ⟨n,E⟩=>?_;have g:HS Z w0 Hv wv H w1 l:=⟨a.s.pure E,a.b.pure E⟩;exact⟨v,n,.inr<|Ls (l':=l.drop d) (k:=d) Uc rfl g,k g j⟩
def Q0(m d)(k:∀{p w1 a},GG (HS Z w0 Hv wv a w1 ((p,(eu P<|vv P U m c).1,(eu P<|vv P U m c).2) ::l)) A<|W P U R<|uP (.pointer<|some p) w1<|vv P U m c)(h:((aa P U m c).gi,wQ P<|vv P U m c,oo<|vv P U m c,pZ<|vv P U m c,tk<|vv P U m c,qn<|vv P U m c)=((aa P U m c).so,some (.pointer<|some ⟨w.heap.size,0,none⟩,w.alloc<|.cells (eu P<|vv P U m c).1.toArray (eu P<|vv P U m c).2),true,some<|Sc Z w0 Hv wv<|l.drop d,bl,[]):=by as_aux_lemma=>kernel_rfl):GG (HS Z w0 Hv wv H w l) A (W P U R c):=by
 intro e g;simp only[Prod.mk.injEq]at h;refine Ba m (fun p=>.pointer<|some p) h.1 h.2.1 h.2.2.1 fun p w1 i=>?_;have⟨a,s1,b1⟩:=e.s.alloc e.b i;have f:HS Z w0 Hv wv a w1 _:=⟨s1,b1⟩;exact⟨.inr<|Ls (l':=l.drop d) (k:=d+1) Uc rfl f,k f g⟩
end
section
variable {P:Program} {U:Fx} {R:Qs} {c:Cf} {π A:Prop}
def RH{r:World->Prop}{w:World}(m:Nat)(k:∀{w1},GG π (r w1)<|W P U R<|ek (some w1) (fun _=>True) bl [] [] [] w1<|vv P U m c)(h:((aa P U m c).gi,yl P U.ntmps [] []<|vv P U m c,(vv P U m c).w)=((aa P U m c).so,some (true,true,true,true),w):=by as_aux_lemma=>kernel_rfl):GG π (∀w1,w1=w.drew->r w1) (W P U R c):=by
 intro a b;simp only[Prod.mk.injEq]at h;exact BT (some (vv P U m c).w.drew) m [] [] h.1 h.2.1 rfl (k a<|b _ Uc)
def ug{r:(World->Prop)->World->Prop}{w}(m ld fr)(k:∀{C w1},GG π (r C w1)<|W P U R<|ek none C bl [] ld fr w1<|vv P U m c)(h:((aa P U m c).gi,yl P U.ntmps ld fr<|vv P U m c,(vv P U m c).w)=((aa P U m c).so,some (true,true,true,true),w):=by as_aux_lemma=>kernel_rfl):GG π (∃C:World->Prop,C w.drew/\∀w1,w1=w.drew->r C w1) (W P U R c):=by
 rintro a ⟨C,d,b⟩;simp only[Prod.mk.injEq]at h;exact BT none m ld fr h.1 h.2.1 ⟨Uc,HB.nil _ _⟩<|k a<|b _ Uc
def o9{v w1}{r:Prop}{C}(k:GG π r (W P U R<|uP v w1 c))(h:(pZ c,tk c,qn c)=(some C,bl,[]):=by as_aux_lemma=>kernel_rfl):GG π (C w1/\r) (WV P U R c v w1):=fun b a=>by
 simp only[Prod.mk.injEq]at h;refine⟨.inr<|(xG h.1 _).2 ⟨a.1,?_⟩,k b a.2⟩;rw[h.2.1,h.2.2];exact HB.nil _ _
def ql{r:Addr->World->Prop}{O C w}(m)(k:∀{p w1},GG π (r p w1)<|W P U R<|uP (ev P (vv P U m c) p) w1<|vv P U m c)(h:((aa P U m c).gi,wQ P<|vv P U m c,oo<|vv P U m c,pZ<|vv P U m c,tk<|vv P U m c,qn<|vv P U m c)=((aa P U m c).so,some (ev P (vv P U m c) ⟨w.heap.size,0,none⟩,w.alloc O),true,some C,bl,[]):=by as_aux_lemma=>kernel_rfl):GG π (∀p w1,fp w O p w1->C w1/\r p w1) (W P U R c):=by
 intro d a;simp only[Prod.mk.injEq]at h;refine Ba m _ h.1 h.2.1 h.2.2.1 fun p w1 b=>⟨.inr<|(xG h.2.2.2.1 _).2 ⟨(a p w1 b).1,?_⟩,k d (a p w1 b).2⟩;rw[h.2.2.2.2.1,h.2.2.2.2.2];exact HB.nil _ _
end
section
variable {P:Program} {U:Fx} {R:Ending->World->Prop} {c:Cf} {A:Prop}
def PR(w:World)(R:Ending->World->Prop)(val:(Nat->Bool)->Value)(b:Nat->Bool):Prop:=∀H w1,au w bl w H w1->R (.returned<|val b) w1
def nT{f fd args w v}(b:P.funcs[f]?=some fd)(cs:List Bool)(val:(Nat->Bool)->Value)(k:PR w (fun e w'=>e=.returned v/\aq w w') val (bn cs)->GG (HS [] w bl w bl w []) True (W P (BN fd) (bq P fd fun e w'=>e=.returned v/\aq w w') ⟨.c<|yS fd,[],xA args,w,[]⟩))(a:(fd.body.isSome,Nat.ble args.length fd.ntmps,val<|bn cs)=(true,true,v):=by as_aux_lemma=>kernel_rfl):Calls P f args.toArray w (fun e w'=>e=.returned v/\aq w w'):=by
 simp only[Prod.mk.injEq]at a;exact gh b trivial (k fun H w1 hs=>⟨Uc,(aj.refl (F:=bl) w).bh hs⟩) Uc
section
variable {w w1:World} {H:Nat->Prop} {l:List mq} {val:(Nat->Bool)->Value} {b:Nat->Bool}
def jk(m)(j:PR w R val b)(h:((aa P U m c).gi,GU U<|vv P U m c)=((aa P U m c).so,some (val b,w1)):=by as_aux_lemma=>kernel_rfl):GG (HS Z w bl w H w1 l) A (W P U (bq P U.f R) c):=fun a d=>rr m (fun _=>j H w1 a.s) h a d
def Dx{s:List ResultVar×List Value}(j:PR w R val b)(h:(s.1,DN s.2,c.w)=([],val b,w1):=by as_aux_lemma=>kernel_rfl):GG (HS Z w bl w H w1 l) A (WS P R c s):=fun a d=>gw (fun _=>j H w1 a.s) h a d
end
end
section
variable {P:Program} {U:Fx} {R:Qs} {c:Cf} {π A:Prop}
end
end Go.SE
end
section
namespace Go.SE
section
variable {P:Program} {n:Nat} {Q:Exit->gb->World->Prop} {ρ:gb} {w w0:World} {H Hv:Nat->Prop} {wv:World}
end
end Go.SE
end
section
namespace Go.SE
variable {Z:List (Nat×Obj)}
@[reducible] def Cu:List Type->Type->Type
 |[],r=>r
 |a :: l,r=>a->Cu l r
@[reducible] def Tu:List Type->Type
 |[]=>Unit
 |a :: l=>a×Tu l
@[reducible] def ap {r:Type}:(l:List Type)->Cu l r->Tu l->r
 |[],f,_=>f
 |_ :: l,f,(x,s)=>ap l (f x) s
@[reducible] def Al:(l:List Type)->(Tu l->Prop)->Prop
 |[],p=>p ()
 |_ :: l,p=>∀x,Al l fun s=>p (x,s)
@[reducible] def Ai:(l:List Type)->(Tu l->Prop)->Prop
 |[],p=>p ()
 |_ :: l,p=>∀{x},Ai l fun s=>p (x,s)
def yx:∀{l:List Type} {p:Tu l->Prop},(∀s,p s)->Al l p
 |[],_,h=>h ()
 |_ :: _,_,h=>fun x=>yx fun s=>h (x,s)
def Gf:∀{l:List Type} {p:Tu l->Prop},Al l p->∀s,p s
 |[],_,h,_=>h
 |_ :: _,_,h,s=>Gf (h s.1) s.2
def zj:∀{l:List Type} {p:Tu l->Prop},Ai l p->∀s,p s
 |[],_,h,_=>h
 |_ :: _,_,h,s=>zj (h (x:=s.1)) s.2
section
variable {P:Program} {U:Fx} {R:Qs} {c:Cf} {π A:Prop}
def jaX(T:List (Nat×Value)->World->Prop)(m i ks)(ka:∀{J:gb->World->Prop},(∀{L w},T L w->∀{ρ},pO ρ (kp ks (vv P U m c).ρ++L)->J ρ w)->GG π A (W P U R<|eh i J<|vv P U m c))(b:∀{L w ρ},T L w->W P U R (sA i (kp ks (vv P U m c).ρ++L) ρ w (vv P U m c) []))(hs:(aa P U m c).gi=(aa P U m c).so):GG π A (W P U R c):=fun a d=>by
 refine W.on m hs<|CI (i:=i) (J:=fun ρ w=>∃L,T L w/\pO ρ (kp ks (vv P U m c).ρ++L)) ?_<|ka (fun ht _ hh=>⟨_,ht,hh⟩) a d;rintro ρ w ⟨L,ht,hh⟩;have:=b (ρ:=ρ) ht (fun _ _ h=>by cases h);unfold sA at this;rw[xO hh]at this;exact this
def jb{w0 wv w Hv H t}(l:List Type)(m i ks)(f:Cu l (List<|Nat×Value))(hs:Cu l (List mq->List mq))(B:Cu l ((Nat->Prop)->World->Prop))(ka:∀{J:gb->World->Prop},(∀{H w},Al l fun s=>HS Z w0 H w H w (ap l hs s t)->ap l B s H w->∀{ρ},pO ρ (kp ks (vv P U m c).ρ++ap l f s)->J ρ w)->GG (HS Z w0 Hv wv H w t) A (W P U R<|eh i J<|vv P U m c))(a:Ai l fun s=>∀{H w ρ},GG (HS Z w0 H w H w<|ap l hs s t) (ap l B s H w)<|W P U R<|sA i (kp ks (vv P U m c).ρ++ap l f s) ρ w (vv P U m c) [])(h:(aa P U m c).gi=(aa P U m c).so:=by as_aux_lemma=>kernel_rfl):GG (HS Z w0 Hv wv H w t) A (W P U R c):=
 K7 (fun L l' H w=>∃s,L=ap l f s/\l'=ap l hs s t/\ap l B s H w) m i ks (fun j=>ka<|yx fun _ s b _ h=>j ⟨_,rfl,rfl,b⟩ s h) (fun t s=>by obtain⟨x,rfl,rfl,b⟩:=t;exact zj a x s b) h
def ja{w0 wv w Hv H t}(l:List Type)(m i ks)(f:Cu l (List<|Nat×Value))(B:Cu l ((Nat->Prop)->World->Prop))(ka:∀{J:gb->World->Prop},(∀{H w},Al l fun s=>HS Z w0 H w H w t->ap l B s H w->∀{ρ},pO ρ (kp ks (vv P U m c).ρ++ap l f s)->J ρ w)->GG (HS Z w0 Hv wv H w t) A (W P U R<|eh i J<|vv P U m c))(a:Ai l fun s=>∀{H w ρ},GG (HS Z w0 H w H w t) (ap l B s H w)<|W P U R<|sA i (kp ks (vv P U m c).ρ++ap l f s) ρ w (vv P U m c) [])(h:(aa P U m c).gi=(aa P U m c).so:=by as_aux_lemma=>kernel_rfl):GG (HS Z w0 Hv wv H w t) A (W P U R c):=
 K7 (fun L l' H w=>∃s,L=ap l f s/\l'=t/\ap l B s H w) m i ks (fun j=>ka<|yx fun _ s b _ h=>j ⟨_,rfl,rfl,b⟩ s h) (fun t s=>by obtain⟨x,rfl,rfl,b⟩:=t;exact zj a x s b) h
def jc(l:List Type)(m i ks)(f:Cu l (List<|Nat×Value))(B:Cu l (World->Prop))(ka:∀{J:gb->World->Prop},(∀{w},Al l fun s=>ap l B s w->∀{ρ},pO ρ (kp ks (vv P U m c).ρ++ap l f s)->J ρ w)->GG π A (W P U R<|eh i J<|vv P U m c))(d:Ai l fun s=>∀{w ρ},GG π (ap l B s w)<|W P U R<|sA i (kp ks (vv P U m c).ρ++ap l f s) ρ w (vv P U m c) [])(h:(aa P U m c).gi=(aa P U m c).so:=by as_aux_lemma=>kernel_rfl):GG π A (W P U R c):=fun a e =>
 jaX (fun L w=>∃s,L=ap l f s/\ap l B s w) m i ks (fun j=>ka<|yx fun _ b _ h=>j ⟨_,rfl,b⟩ h) (fun t=>by obtain⟨x,rfl,b⟩:=t;exact zj d x a b) h a e
def wb{w0 w H t}{l:List Type}{v:Tu l}{B:Cu l ((Nat->Prop)->World->Prop)->Cu l (World->Nat)->Cu l ((Nat->Prop)->World->Prop)}(m ks)(f:Cu l (List<|Nat×Value))(hs:Cu l (List mq->List mq))(k:∀{I:Cu l ((Nat->Prop)->World->Prop)} {d:Cu l (World->Nat)},Ai l fun x=>∀{b a ρ} {J:gb->World->Prop},(∀{e w'},Al l fun y=>HS Z w0 e w' e w' (ap l hs y t)->(ap l I y e w'/\ap l d y w'<ap l d x a)->∀{ρ},pO ρ (kp ks (vv P U m c).ρ++ap l f y)->J ρ w')->GG (HS Z w0 b a b a<|ap l hs x t) (ap l (B I d) x b a) (W P U R<|e0 J (kp ks (vv P U m c).ρ++ap l f x) ρ a<|vv P U m c))(h:((aa P U m c).gi,DD (vv P U m c)<|kp ks (vv P U m c).ρ++ap l f v,t)=((aa P U m c).so,some (w,(kp ks (vv P U m c).ρ++ap l f v).map (·.2)),ap l hs v t):=by as_aux_lemma=>kernel_rfl):GG (HS Z w0 H w H w t) (∃(I:Cu l ((Nat->Prop)->World->Prop)) (d:Cu l (World->Nat)),ap l I v H w/\Al l fun x=>∀b a,au w0 b a b a->ap l I x b a->ap l (B I d) x b a) (W P U R c):=by
 rintro n ⟨I,d,p,o⟩;simp only[Prod.mk.injEq]at h;exact W.on m h.1<|Ih (σ:=Tu l×(Nat->Prop)) (fun s=>kp ks (vv P U m c).ρ++ap l f s.1) (fun s w=>HS Z w0 s.2 w s.2 w (ap l hs s.1 t)/\ap l I s.1 s.2 w) (fun s w=>ap l d s.1 w) (s0:=(v,H)) h.2.1 ⟨h.2.2▸n,p⟩ fun {s a ρ J} j g=>zj k s.1 (fun {e w'}=>yx fun y hS i _ hh=>j (s':=(y,e)) ⟨⟨hS,i.1⟩,i.2⟩ hh) g.1<|Gf o s.1 s.2 a g.1.s g.2
def wa{w0 w H t}{l:List Type}{v:Tu l}{B:Cu l ((Nat->Prop)->World->Prop)->Cu l (World->Nat)->Cu l ((Nat->Prop)->World->Prop)}(m ks)(f:Cu l (List<|Nat×Value))(k:∀{I:Cu l ((Nat->Prop)->World->Prop)} {d:Cu l (World->Nat)},Ai l fun x=>∀{b a ρ} {J:gb->World->Prop},(∀{e w'},Al l fun y=>HS Z w0 e w' e w' t->(ap l I y e w'/\ap l d y w'<ap l d x a)->∀{ρ},pO ρ (kp ks (vv P U m c).ρ++ap l f y)->J ρ w')->GG (HS Z w0 b a b a t) (ap l (B I d) x b a) (W P U R<|e0 J (kp ks (vv P U m c).ρ++ap l f x) ρ a<|vv P U m c))(h:((aa P U m c).gi,DD (vv P U m c)<|kp ks (vv P U m c).ρ++ap l f v)=((aa P U m c).so,some (w,(kp ks (vv P U m c).ρ++ap l f v).map (·.2))):=by as_aux_lemma=>kernel_rfl):GG (HS Z w0 H w H w t) (∃(I:Cu l ((Nat->Prop)->World->Prop)) (d:Cu l (World->Nat)),ap l I v H w/\Al l fun x=>∀b a,au w0 b a b a->ap l I x b a->ap l (B I d) x b a) (W P U R c):=by
 rintro n ⟨I,d,p,o⟩;simp only[Prod.mk.injEq]at h;exact W.on m h.1<|Ih (σ:=Tu l×(Nat->Prop)) (fun s=>kp ks (vv P U m c).ρ++ap l f s.1) (fun s w=>HS Z w0 s.2 w s.2 w t/\ap l I s.1 s.2 w) (fun s w=>ap l d s.1 w) (s0:=(v,H)) h.2 ⟨n,p⟩ fun {s a ρ J} j g=>zj k s.1 (fun {e w'}=>yx fun y hS i _ hh=>j (s':=(y,e)) ⟨⟨hS,i.1⟩,i.2⟩ hh) g.1<|Gf o s.1 s.2 a g.1.s g.2
def wc{w}{l:List Type}{v:Tu l}{B:Cu l (World->Prop)->Cu l (World->Nat)->Cu l (World->Prop)}(m ks)(f:Cu l (List<|Nat×Value))(k:∀{I:Cu l (World->Prop)} {b:Cu l (World->Nat)},Ai l fun x=>∀{a ρ} {J:gb->World->Prop},(∀{w'},Al l fun y=>(ap l I y w'/\ap l b y w'<ap l b x a)->∀{ρ},pO ρ (kp ks (vv P U m c).ρ++ap l f y)->J ρ w')->GG π (ap l (B I b) x a) (W P U R<|e0 J (kp ks (vv P U m c).ρ++ap l f x) ρ a<|vv P U m c))(h:((aa P U m c).gi,DD (vv P U m c)<|kp ks (vv P U m c).ρ++ap l f v)=((aa P U m c).so,some (w,(kp ks (vv P U m c).ρ++ap l f v).map (·.2))):=by as_aux_lemma=>kernel_rfl):GG π (∃(I:Cu l (World->Prop)) (b:Cu l (World->Nat)),ap l I v w/\Al l fun x=>∀a,ap l I x a->ap l (B I b) x a) (W P U R c):=by
 rintro d ⟨I,b,n,e⟩;simp only[Prod.mk.injEq]at h;exact W.on m h.1<|Ih (σ:=Tu l) (fun s=>kp ks (vv P U m c).ρ++ap l f s) (fun s w=>ap l I s w) (fun s w=>ap l b s w) (s0:=v) h.2 n fun {s a ρ J} j i=>zj k s (fun {w'}=>yx fun y g _ hh=>j (s':=y) (w':=w') g hh) d<|Gf e s a i
def Pd(c:Cf):Option (Value×Array Value):=match ga c with
 |some ⟨_,.call ⟨.value x,jdx,_⟩,_,_,_,_⟩=>cond (qv c) none<|some (gx c.ρ x,(jdx.toList.map<|gx c.ρ).toArray)
 |_=>none
def cy{l y args w Q}(m)(s:y=.func (.yield l) #[] #[])(k:∀{e f},GG π (Q e f)<|WR P U R (vv P U m c) e f)(h:((aa P U m c).gi,Pd<|vv P U m c,(vv P U m c).w)=((aa P U m c).so,some (y,args),w):=by as_aux_lemma=>kernel_rfl):GG π (wZ P l args w Q) (W P U R c):=by
 intro t n;simp only[Prod.mk.injEq]at h;have⟨C,h1,h3⟩:=h;unfold Pd at h1;split at h1;rename_i d x jdx ts ty pos aft g u;cases a:qv (vv P U m c)with
 |true=>rw[a]at h1;cases h1
 |false =>
  rw[a]at h1
  simp only[cond_false,Option.some.injEq,Prod.mk.injEq]at h1
  refine W.on m C fun r=>?_
  have⟨hh,j⟩:=yn u
  unfold su at j
  rw[wM r]at j
  have⟨ax,l',o,z,_⟩:=wR (v:=undef) (w':=(vv P U m c).w) hh a
  rw[z]at j;rw[Bd o]
  rw[<-h3]at n
  have:=W1 (P:=P) (ax:=ax) (Q:=fun ρ w=>Qf P U.x U.ntmps R.Q (vv P U m c).fr .normal ρ w) (rest:=l') (c:=jdx.toList) (w:=(vv P U m c).w) Uc h1.1 s h1.2<|wZ.mono n fun e f q=>?_
  rw[Array.toArray_toList]at this;exact this
  have⟨v,D,_,i⟩:=k t q
  refine⟨v,D,?_⟩
  have⟨p,A,b,_,B⟩:=wR (v:=v) (w':=f) hh a
  rw[o]at b;cases b
  replace i:=i<|vk r _ _
  rw[B]at i;exact i
 cases h1
abbrev Yr(f:Func)(l:Nat):Fx:=⟨f,⟨some l,[]⟩,0,fun h=>(h rfl).elim⟩
abbrev fxd(f:Func)(D:Nat):Fx:=⟨f,⟨none,[mark D]⟩,0,fun h=>(h rfl).elim⟩
abbrev CU(id:Nat)(Y:Nat->Prop)(A:World)(I b a:(Nat->Prop)->World->Prop):Qs:=⟨Ej id Y A I b a,fun _ _ _ h=>h⟩
abbrev Qx(D:Nat)(R:Qs):Qs:=⟨Mm D R.Q,fun _ _ _ h=>h⟩
structure RF where
 id:Nat
 g:Operand
 ps:Array Tmp
 jdx:Code
 bd:Code
 y:Code
def rf?(c:Cf):Option RF:=match c.pos,c.fr with
 |.u (.block id<|.rangeFunc g ps a b) y,[]=>some ⟨id,g,ps,a,b,y⟩
 |_,_=>none
def ye(c:Cf):RF:=(rf? c).getD ⟨0,.tmp 0,#[],.skip,.skip,.skip⟩
abbrev GH(P:Program)(f:Func)(m:Nat)(c:Cf)(vs:Array Value)(A:World):Ad:=ee P 0 f.ntmps m ⟨.c (ye c).jdx,[],BW (ye c).ps.toList vs.toList c.ρ,A,[]⟩
def yk(c:Cf):Option (Exit×World):=match c.pos,c.fr with
 |.x e,[]=>some (e,c.w)
 |_,_=>none
def Iu{c e w n Q}{P:Program}{xx:Cx}(h:yk c=some (e,w)):Wq P xx n Q c=Q e c.ρ w:=by
 unfold yk at h;split at h;rename_i b a;cases h;unfold Wq;rw[b,a];rfl;cases h
def rf{w0 wv w Hv H t}{α:Type}{a:α->Array Value}{f cs sv}{xs:List α}{Rd I Ix Ir}{B:List α->α->(Nat->Prop)->World->Prop}{N:(Nat->Prop)->World->Prop}{T:List α->(Nat->Prop)->World->Prop}(m q)(Z:sv=.func (.func f) #[] cs)(he:∀args w,(callFunc f args).run P w=.ok (.enter f args) w)(oy:sX P f cs a xs Rd w)(L:AF w0 Rd I Ix Ir)(h0:I [] H w)(hb:∀cd z Y A,I cd Y A->au w0 Y A Y A->(∃d,xs=cd++z ::d)->B cd z Y A)(hA:A->∀Y x,au w0 Y x Y x->(∀b,H b->Y b)->av H w x->(I xs Y x\/∃cd,Ix cd Y x)->N Y x)(hT:A->∀cd Y x,au w0 Y x Y x->Ir cd Y x->T cd Y x)(V:∀{l A0 cd z Y A},GG (HS [] A bl A bl A []) (B cd z Y A)<|W P (Yr U.f l) (CU (ye<|vv P U m c).id Y A (I<|cd++[z]) (Ix<|cd++[z])<|Ir<|cd++[z]) ⟨.c (ye<|vv P U m c).bd,[],(GH P U.f q (vv P U m c) (a z) A0).c.ρ,A,[]⟩)(kr:∀{D Y x},GG (HS [(D,.deferred<|some [])] w0 Y x Y x t) (N Y x)<|W P (fxd U.f D) (Qx D R) ⟨.c (ye<|vv P U m c).y,[],(vv P U m c).ρ,x,[]⟩)(kt:∀{cd Y x},GG (HS [] w0 Y x Y x []) (T cd Y x)<|W P (BN U.f) R ⟨.x .ret,[],(vv P U m c).ρ,x,[]⟩)(h:((aa P U m c).gi,(rf?<|vv P U m c).isSome,gx (vv P U m c).ρ (ye<|vv P U m c).g,(ye<|vv P U m c).ps.all (Nat.blt · U.f.ntmps),(fun z=>(a z).size),(fun z A=>((GH P U.f q (vv P U m c) (a z) A).gi,yk (GH P U.f q (vv P U m c) (a z) A).c)),(vv P U m c).w)=((aa P U m c).so,true,sv,true,(fun _=>(ye<|vv P U m c).ps.size),(fun z A=>((GH P U.f q (vv P U m c) (a z) A).so,some (.normal,A))),w):=by as_aux_lemma=>kernel_rfl):GG (HS [] w0 Hv wv H w t) A (W P U R c):=by
 intro u K;simp only[Prod.mk.injEq]at h;have⟨h1,h2,h3,X,h5,v,h7⟩:=h;refine W.on m h1 fun hk=>?_;have v:=fun z A=>congrFun (congrFun v z) A;simp only[Prod.mk.injEq]at v;show Wq P U.x U.ntmps R.Q (vv P U m c);generalize vv P U m c=c' at *;have⟨pos,fr,ρ,w',kn⟩:=c';unfold rf? at h2;split at h2;rename_i id g ps jdx bd y M O;simp only at M O;subst M;subst O;subst h7;refine zAT (id:=id) (g:=g) (ps:=ps) (h3.trans Z) he oy (congrFun h5) (fun p u=>?_) u.s I Ix Ir L h0 ?_ ?_ ?_;have:=Array.all_eq_true'.1 X p<|Array.mem_toList_iff.1 u;simpa[Nat.blt_eq]using this;intro l z A0;have S:=v z A0;have:=I6 (P:=P) (sc:=0) (n:=U.f.ntmps) (xx:=⟨some l,[]⟩) (Q:=tp (fun ρ' A'=>A'=A0/\∀cd Y A,I cd Y A->au w0 Y A Y A->(∃d,xs=cd++z ::d)->de (x:=⟨some l,[]⟩) P U.ntmps bd (Ej id Y A (I<|cd++[z]) (Ix<|cd++[z])<|Ir<|cd++[z]) ρ' A) fun _ _ _=>False) (fun _ _ _ h=>h) (fun h=>(h rfl).elim) q S.1 (fun _=>by
  rw[Iu S.2];exact⟨rfl,fun cd Y A hI e F=>V (l:=l) (A0:=A0) ⟨au.start A,HB.nil bl A⟩ (hb cd z Y A hI e F) fun _ _ h=>by cases h⟩)
 exact this (fun _ _ h=>by cases h);intro D Y x e E i k j G;exact kr ⟨e,u.b.PX j k E i⟩ (hA K Y x e k j G) (fun _ _ h=>by cases h);intro D cd Y x e E i J;have C:=e.Yc (o:=.deferred none) E;have:=L.r _ _ _ _ _ J C;exact kt ⟨C.jj,HB.nil _ _⟩ (hT K _ _ _ C.jj this) (fun _ _ h=>by cases h);cases h2
def IH{id Y A I Ix Ir w e}(m)(h:((aa P U m c).gi,yk<|vv P U m c)=((aa P U m c).so,some (e,w)))(k:Ej id Y A I Ix Ir e (vv P U m c).ρ w):W P U (CU id Y A I Ix Ir) c:=by
 simp only[Prod.mk.injEq]at h;exact W.on m h.1 fun _=>(Iu h.2).symm▸k
def Et{id Y A w}{I b a:(Nat->Prop)->World->Prop}(m)(h:((aa P U m c).gi,yk<|vv P U m c)=((aa P U m c).so,some (.normal,w)):=by as_aux_lemma=>kernel_rfl):GG π (av Y A w/\I Y w) (W P U (CU id Y A I b a) c):=fun _ k=>IH m h k
def rdx{id Y A w}{I a b:(Nat->Prop)->World->Prop}(m)(h:((aa P U m c).gi,yk<|vv P U m c)=((aa P U m c).so,some (.exit id,w)):=by as_aux_lemma=>kernel_rfl):GG π (av Y A w/\a Y w) (W P U (CU id Y A I a b) c):=fun _ k=>IH m h ⟨rfl,k⟩
def rdr{id Y A w}{I b a:(Nat->Prop)->World->Prop}(m)(h:((aa P U m c).gi,yk<|vv P U m c)=((aa P U m c).so,some (.ret,w)):=by as_aux_lemma=>kernel_rfl):GG π (av Y A w/\a Y w) (W P U (CU id Y A I b a) c):=fun _ k=>IH m h k
def lz{e i w:World}{g H:Nat->Prop}{t D}{r:World->Prop}(m)(k:∀{a},GG (HS [] e H a H a t) (r a)<|W P (BN U.f) R ⟨.x .ret,[],(vv P U m c).ρ,a,[]⟩)(h:((aa P U m c).gi,yk<|vv P U m c)=((aa P U m c).so,some (.ret,w)):=by as_aux_lemma=>kernel_rfl):GG (HS [(D,.deferred<|some [])] e g i H w t) (∀a,au e g i H a->r a) (W P U (Qx D R) c):=fun d j=>by
 simp only[Prod.mk.injEq]at h;refine W.on m h.1 fun _=>(Iu h.2).symm▸⟨d.b.jaj,?_⟩;have⟨h1,h2⟩:=d.b.jcL d.s rfl;exact k ⟨h1.jj,h2⟩ (j _ h1) (fun _ _ h=>by cases h)
abbrev fx2(f:Func):Fx:=⟨f,Bt,2,fun _=>rfl⟩
def Dd{f fd args w}{R:Ending->World->Prop}(d:P.funcs[f]?=some fd)(h:A)(k:GG (HS [] w bl w bl w []) A (W P (fx2 fd) (bq P fd R) ⟨.c<|yS fd,[],xA args,w,[]⟩))(b:(fd.body.isSome,Nat.ble args.length fd.ntmps)=(true,true):=by as_aux_lemma=>kernel_rfl):Calls P f args.toArray w R:=
 gh (fd:=fd) d h (fun a h=>k a h) b
def SC(n:Nat)(c:Cf):Bool:=match c.pos with
 |.c (.region _ ax false)=>sU n ax.toList
 |.p _ _=>true
 |_=>false
def rpC(k:Nat)(c:Cf):Cf:=match c.pos with
 |.c (.region _ ax false)=>⟨.r ax<|ax.toList.take k,.p ax (ax.toList.drop k) :: c.fr,c.ρ,c.w,c.kn⟩
 |.p ax l=>⟨.r ax<|l.take k,.p ax (l.drop k) :: c.fr,c.ρ,c.w,c.kn⟩
 |_=>c
def rp(m q)(k:GG π A (W P U R<|rpC q<|vv P U m c))(h:((aa P U m c).gi,SC U.ntmps<|vv P U m c)=((aa P U m c).so,true):=by as_aux_lemma=>kernel_rfl):GG π A (W P U R c):=fun b d=>by
 simp only[Prod.mk.injEq]at h;refine W.on m h.1 ?_;have k:=k b d;have h2:=h.2;show Wk P U.x U.ntmps R.Q (vv P U m c);generalize vv P U m c=f at *;have⟨pos,fr,ρ,w',kn⟩:=f;intro a;unfold SC at h2;split at h2;rename_i id ax e;simp only at e;subst e;have k:=k a;have:=fun id=>Md (x:=U.x) (id:=id) (Q:=Qf P U.x U.ntmps R.Q fr) (l:=ax.toList) (ρ:=ρ) (w:=w') h2 (by rw[Array.toArray_toList];exact CT q k);rw[Array.toArray_toList]at this;exact this _;rename_i e;simp only at e;subst e;exact CT q<|k a;cases h2
def xi{xx n Q ch ρ w}:∀a,Qf P xx n Q a (.panic ch) ρ w=Q (.panic ch) ρ w
 |[]=>rfl
 |.t _ :: a=>xi a
 |.b _ :: a=>xi a
 |.r _ _ :: a=>xi a
 |.j _ :: a=>xi a
 |.u _ _ :: a=>xi a
 |.p _ _ :: a=>xi a
def DV(c:Cf):Option Oper:=match c.pos with
 |.p _ (o :: _)=>some o
 |_=>none
def Nt(c:Cf):Option Value:=match DV c with
 |some ⟨_,.panic x,_,_,_,none⟩=>some<|gx c.ρ x
 |_=>none
def pn{t v w}{R:Ending->World->Prop}(m)(a:A->R (.panicked [{ v:=.iface t v,recovered:=false }]) w:=by exact fun h=>.inr ⟨_,rfl,h⟩)(h:((aa P U m c).gi,Nt<|vv P U m c,(vv P U m c).w)=((aa P U m c).so,some<|.iface t v,w):=by as_aux_lemma=>kernel_rfl):GG π A (W P U (bq P U.f R) c):=fun _ d=>by
 simp only[Prod.mk.injEq]at h;have⟨h1,h2,h3⟩:=h;refine W.on m h1 fun _=>?_;show Wq P U.x U.ntmps _ (vv P U m c);have a:=a d;generalize vv P U m c=g at *;have⟨pos,fr,ρ,w',kn⟩:=g;unfold Nt DV at h2;split at h2;rename_i e;split at e;rename_i b;simp only at b;subst b;cases e;simp only[Option.some.injEq]at h2;simp only at h3;subst h3;refine zFJ (wE rfl) Uc (zJN h2) fun i=>?_;rw[xi];exact a;cases e;cases h2
def MY(c:Cf):Option (FuncId×Array Value):=match DV c with
 |some ⟨_,.call ⟨.value x,jdx,_⟩,_,_,_,none⟩=>match gx c.ρ x with
  |.func (.func f) a caps=>some (f,a++(jdx.toList.map<|gx c.ρ).toArray++caps)
  |_=>none
 |_=>none
def I3(v:Value)(w':World)(c:Cf):Cf:=match c.pos with
 |.p ax (o :: l)=>⟨.p ax l,c.fr,put c.ρ o.dst v,w',kd c.kn o.dst⟩
 |_=>c
def WX(P:Program)(U:Fx)(R:Qs)(c:Cf)(e:Ending)(a:World):Prop:=∃v,e=.returned v/\W P U R (I3 v a c)
def pt{v e w1}{R:Qs}{r:Prop}(k:GG π r (W P U R<|I3 v w1 c)):GG π (e=.returned v/\r) (WX P U R c e w1):=fun b a=>⟨v,a.1,k b a.2⟩
def u7{w0 w w1 H l v e}{R:Qs}{r:Prop}(k:GG (HS Z w0 H w1 H w1 l) r (W P U R<|I3 v w1 c)):GG (HS Z w0 H w H w l) (e=.returned v/\av H w w1/\r) (WX P U R c e w1):=fun d a=>⟨v,a.1,k ⟨d.s.jg a.2.1,d.b.ff a.2.1⟩ a.2.2⟩
def pc{f args w}{p:Ending->World->Prop}{s:List PanicEntry->World->Prop}{R:Ending->World->Prop}(m)(A:∀args w,(callFunc f args).run P w=.ok (.enter f args) w)(k:∀{e a},GG π (p e a)<|WX P U (bq P U.f R) (vv P U m c) e a)(z:∀{i a},s i a->R (.panicked i) a:=by exact fun h=>.inr ⟨_,rfl,h⟩)(h:((aa P U m c).gi,MY<|vv P U m c,(vv P U m c).w)=((aa P U m c).so,some (f,args),w):=by as_aux_lemma=>kernel_rfl):GG π (Calls P f args w fun e a=>p e a\/∃i,e=.panicked i/\s i a) (W P U (bq P U.f R) c):=fun n t=>by
 simp only[Prod.mk.injEq]at h;have⟨h1,h2,h3⟩:=h;refine W.on m h1 fun r=>?_;show Wq P U.x U.ntmps _ (vv P U m c);replace k:=fun e a (q:p e a)=>k n q;replace r:Kn (vv P U m c):=r;generalize vv P U m c=u at *;have⟨pos,fr,ρ,w',kn⟩:=u;unfold MY DV at h2;split at h2;rename_i d x jdx ts ty j aft e;split at e;rename_i ax o l n;simp only at n;subst n;cases e;simp only at h3;subst h3;split at h2;rename_i C E caps hx;cases h2;have:=Mn (P:=P) (w:=w') (d:=d) (ty:=ty) (pos:=j) (aft:=aft) (g:=none) (c:=jdx.toList) (ts:=ts) hx A rfl rfl;rw[Array.toArray_toList]at this;refine Rm (wE rfl) Uc this<|t.mono ?_;rintro e a (q|⟨i,rfl,q⟩);obtain⟨v,rfl,B⟩:=k _ _ q;refine .inl ⟨_,rfl,?_⟩;exact B (by
  intro D b y;have:=Ha y;exact(KN this.1).trans<|r _ _ this.2)
 exact .inr ⟨i,rfl,fun F=>by rw[xi];exact z q⟩;cases h2;cases e;cases h2
end
end Go.SE
end
section
open Go Go.SE List
namespace Go.SE
def gO(bs:List UInt8):List (List Value):=bs.map fun b=>[.int .u8 (b.toNat:Int)]
def vW(bs):(gO bs).length=bs.length:=by simp[gO]
def JN(bs):∀q∈gO bs,q.all vC=true:=by intro q a;obtain⟨t,_,rfl⟩:=mem_map.1 a;rfl
def AG(bs):∀q∈gO bs,q.length=1:=by intro q a;obtain⟨t,_,rfl⟩:=mem_map.1 a;rfl
def IT(bs):(gO bs).flatten=bs.map fun b=>Value.int .u8 (b.toNat:Int):=by
 induction bs with
 |nil=>rfl
 |cons b bs a=>simp only[gO,map_cons,flatten_cons]at a|-;rw[a];rfl
def Eu(a b):gO (a++b)=gO a++gO b:=by simp[gO]
def Ci{S w s bs}(h:gr S w 1 s (gO bs)){j}(b:j<bs.length):∃a,At s j 1 a/\S a.block/\w.cell? a=some (.int .u8 (bs[j].toNat:Int)):=by
 have⟨a,h1,h2,h3⟩:=h.at_ j (by simpa[gO]using b);exact⟨a,h1,h2,y9<|by simpa[gO]using h3⟩
def yb(n:Nat):IntKind.u8.wrap (n:Int)=((UInt8.ofNat n).toNat:Int):=by
 rw[UInt8.toNat_ofNat'];simp[IntKind.wrap,IntKind.bits,IntKind.signed]
def CJ{P src dst e}(hs:P.underlying src=some (.slice e))(i:P.underlying e=some (.int .u8))(g:P.underlying dst=some .string){S w s bs}(h:gr S w 1 s (gO bs)):
  (convert src dst s.v).run P w=.ok (.string ⟨bs.toArray⟩) w:=by
 have k:s.ay=bs.length:=by rw[h.ay,vW]
 cases d:s.a with
 |none =>
  have c:bs=[]:=by
   cases bs with
   |nil=>rfl
   |cons b bs=>have⟨_,⟨_,_,p,f,_⟩,_⟩:=Ci h (j:=0) Sm;rw[d]at f;cases f
  subst c
  have:s.v=.slice none 0 s.cap:=by unfold Sl.v;rw[d,k];rfl
  rw[this,run_convert_bytes_string w src dst e none 0 s.cap hs i g];rfl
 |some p =>
  have:s.v=.slice (some p) bs.length s.cap:=by unfold Sl.v;rw[d,k]
  rw[this]
  refine run_convert_bytes_back w src dst e p s.cap bs hs i g fun j m=>?_
  obtain⟨a,⟨_,_,b,c,rfl⟩,_,l⟩:=Ci h m
  rw[d]at c;cases c
  simpa using l
section
variable {P:Program} {t u e ty:TypeId} {w:World}
def QF(b):(Builtin.firstCells 1 b.size<|.string b).run P w=.ok (b.data.map fun x=>Value.int .u8 (x.toNat:Int)) w:=by
 have hx:(Array.map (fun b:UInt8=>Value.int IntKind.u8 (b.toNat:Int)) b.data).extract 0 b.size=Array.map (fun b:UInt8=>Value.int IntKind.u8 (b.toNat:Int)) b.data:=by
  have hs:b.size=(Array.map (fun b:UInt8=>Value.int IntKind.u8 (b.toNat:Int)) b.data).size:=Uc;rw[hs,Array.extract_size]
 simp[Builtin.firstCells,hx]
def jEF(T:nY P t e 1 1)(h:P.underlying u=some .string)(s:Sl)(f:s.ay<=s.cap)(b:ByteArray)(g:b.size=0):(Builtin.append_ #[t,u] ty #[s.v,.string b]).run P w=.ok s.v w:=by
 have⟨a,n,c⟩:=s;simp only at f;have d:b=⟨#[]⟩:=by cases b;simp only[ByteArray.size]at g;congr;exact Array.eq_empty_of_size_eq_zero g
 subst d;cases a<;>simp[Builtin.append_,Sl.v,run_underlying T.ht,run_underlying h,T.sizeOf,Builtin.lenOf,Builtin.firstCells,storeCells,f,ByteArray.size]
def c9.jcX(T:nY P t e 1 1)(f:P.underlying u=some .string){s rs}(h:c9 w e 1 s rs)(b)(d:rs.length+b.size<=140737488355328)(K:rs.length+b.size<=maxLen):
  ∃s' w',(Builtin.append_ #[t,u] ty #[s.v,.string b]).run P w=.ok s'.v w'/\c9 w' e 1 s' (rs++gO b.data.toList)/\aj s.bg w w'/\(∀b,s'.bg b->s.bg b\/w.heap.size<=b):=by
 have⟨i,z,hi,R,y,W,Z⟩:=T.hi
 have M:b.data.toList.length=b.size:=Uc
 by_cases U:b.size=0
 .have G : s.ay <= s.cap:=by
   rcases h.bf with⟨rfl,_⟩|⟨g,ga,_,_,G,_⟩
   .exact Nat.le_refl _
   .rw[h.ay];exact G
  have:b.data.toList=[]:=length_eq_zero_iff.1 Om
  rw[this]
  exact⟨s,w,jEF T f s G b U,by simpa[gO]using h,aj.refl w,fun b d=>.inl d⟩
 have I:rs.length+b.size<=9223372036854775807:=Uc
 have Y:=vR h.pP
 have l:(gO b.data.toList).length=b.size:=by rw[vW,M]
 have k:∀q∈rs++gO b.data.toList,q.length=1:=fun q hq=>(mem_append.1 hq).elim (h.pP q)<|AG _ q
 have O:(b.data.map fun x=>Value.int .u8 (x.toNat:Int)).toList=(gO b.data.toList).flatten:=by rw[IT];simp
 have X:(b.data.map fun x=>Value.int .u8 (x.toNat:Int)).size=b.size:=Uc
 rcases h.bf with⟨rfl,rfl⟩|⟨g,ga,p,J,S,Q,di,o⟩
 .simp only[length_nil,Nat.zero_add]at d I K
  have c:=run_append_nil_string (P:=P) w t u ty e i z T.ht f hi R b Om Om Uc
  have m:=c9.rq (w:=w) (e:=e) (sz:=1) (rs:=gO b.data.toList) (AG _) (ga:=b.data.map fun x=>Value.int .u8 (x.toNat:Int)) Uc O (cap:=grownCap w b.size 0 e) (by rw[l];exact grownCap_ge w _ 0 e) (grownCap_le_maxLen w _ 0 e K)
  rw[l]at m
  exact⟨⟨some ⟨w.heap.size,0,none⟩,b.size,grownCap w b.size 0 e⟩,_,c,Uc,⟨rfl,rfl,rfl,Uc,Sm,fun b d _=>Cy w.drew _ b d⟩,fun b d=>by obtain⟨a,p,rfl⟩:=d;cases p;right;exact Nat.le_refl _⟩
 .have A:s.v=.slice (some ⟨g,0,none⟩) rs.length s.cap:=by unfold Sl.v;rw[p,h.ay]
  by_cases n:rs.length+b.size<=s.cap
  .have B:rs.length+(gO b.data.toList).flatten.length<=ga.size:=by rw[vR<|AG _,l,di];omega
   have H:∀u∈(gO b.data.toList).flatten,u.oneCell'=true:=fun u f=>by
    rw[IT]at f;obtain⟨x,_,rfl⟩:=mem_map.1 f;rfl
   have bh:=run_storeCells_at P g rs.length e (gO b.data.toList).flatten 0 ga w J Uc H
   have c:(Builtin.append_ #[t,u] ty #[s.v,.string b]).run P w=.ok (.slice (some ⟨g,0,none⟩) (rs.length+b.size) s.cap) (w.setRow g (ga.toList.take rs.length++(gO b.data.toList).flatten++ga.toList.drop (rs.length+(gO b.data.toList).flatten.length)).toArray):=by
    rw[A];simp only[Nat.add_zero]at bh;have D:=QF (P:=P) (w:=w) b;rw[IT]at bh|-;simp[Builtin.append_,run_underlying T.ht,run_underlying f,T.sizeOf,Builtin.lenOf,n,D,Addr.add_lit,bh]
   refine⟨⟨some ⟨g,0,none⟩,rs.length+b.size,s.cap⟩,_,c,⟨k,Uc,.inr ⟨g,_,rfl,setRow_heap w g ga _ e _ J,Uc,Q,?_,?_⟩⟩,⟨rfl,rfl,rfl,Uc,Sm,fun b d D=>setRow_other w g b _ fun e=>D ⟨_,p,e.symm⟩⟩,fun b d=>by obtain⟨a,L,rfl⟩:=d;cases L;exact .inl ⟨_,p,rfl⟩⟩
   .grind
   .grind
  .have N : ∀ j u, rs.flatten[j]? = some u -> w.cell? ((⟨g, 0, none⟩ : Addr).add j) = some u:=fun j u f => by
    have E:(⟨g,0,none⟩:Addr).add j=⟨g,j,none⟩:=by unfold Addr.add;split<;>simp_all
    rw[E,cell_of_row w g j ga e (0,0) J];rw[<-o,getElem?_take]at f;split at f
    .simpa using f
    .cases f
   have B:=growslice_fits (need:=rs.length+b.size) (old:=s.cap) (bytes:=1) Om Om
   have m:=c9.rq (w:=w) (e:=e) (sz:=1) (rs:=rs++gO b.data.toList) k (ga:=rs.flatten.toArray++b.data.map fun x=>Value.int .u8 (x.toNat:Int)) Uc Uc (cap:=grownCap w (rs.length+b.size) s.cap e) (by rw[length_append,l];exact grownCap_ge w _ s.cap e) (grownCap_le_maxLen w _ _ e K)
   have c:(Builtin.append_ #[t,u] ty #[s.v,.string b]).run P w=.ok (.slice (some ⟨w.heap.size,0,none⟩) (rs.length+b.size)<|grownCap w (rs.length+b.size) s.cap e) (w.drew.alloc<|.cells (rs.flatten.toArray++b.data.map (fun x=>Value.int .u8 (x.toNat:Int))++Builtin.zeroCells z.cells (grownCap w (rs.length+b.size) s.cap e-(rs.length+b.size))) e):=by
    rw[A];have V:¬(rs.length+b.size<=s.cap):=Om;have F:¬(9223372036854775807<((rs.length:Int)+(b.size:Int))):=Om;have r:¬(281474976710656<Builtin.nextslicecap (rs.length+b.size) s.cap*i.bytes):=Uc;have C:=run_firstCells_some (P:=P) w.drew i.size rs.length ⟨g,0,none⟩ rs.length s.cap rs.flatten Uc Uc;have D:=QF (P:=P) (w:=w.drew) b;rw[y]at C;simp[Builtin.append_,run_underlying T.ht,run_underlying f,sizeOf,typeInfo,zeroValue,hi,R,Builtin.lenOf,V,F,r,Question.forced,D,C,newRow,grownCap,y]
    try (congr 2;apply Array.ext';simp[append_assoc])
   rw[length_append,l]at m
   exact⟨⟨some ⟨w.heap.size,0,none⟩,rs.length+b.size,grownCap w (rs.length+b.size) s.cap e⟩,_,c,m,⟨rfl,rfl,rfl,Uc,Sm,fun b d _=>Cy w.drew _ b d⟩,fun b d=>by obtain⟨a,p,rfl⟩:=d;cases p;right;exact Nat.le_refl _⟩
end
section
variable {P:Program} {w:World} {t:TypeId}
set_option maxRecDepth 4000 in
def W2:∀m:Fin 256,m.val |||128=m.val%128+128:=De
def U7(n:Nat):(Go.binOp .or t (.int .u8<|IntKind.u8.wrap (n:Int))<|.int .u8 128).run P w=.ok (.int .u8 ((UInt8.ofNat<|n%128+128).toNat:Int)) w:=by
 have h:IntKind.u8.wrap ((BitVec.ofInt IntKind.u8.bits (IntKind.u8.wrap (n:Int)) |||BitVec.ofInt IntKind.u8.bits 128).toNat:Int)=((UInt8.ofNat<|n%128+128).toNat:Int):=by
  have b:(BitVec.ofInt IntKind.u8.bits<|IntKind.u8.wrap (n:Int)).toNat=n%256:=by
   rw[yb,UInt8.toNat_ofNat',BitVec.toNat_ofInt];simp[IntKind.bits];omega
  have a:(BitVec.ofInt IntKind.u8.bits 128).toNat=128:=De;rw[BitVec.toNat_or,b,a,W2 ⟨n%256,Nat.mod_lt _ Om⟩,yb];simp only[UInt8.toNat_ofNat'];omega
 show((pure (Value.int .u8 _):Sem Value)).run P w=_;rw[h];rfl
def V7(n:Nat):(Go.binOp .shr t (.int .u64 (n:Int))<|.int .u64 7).run P w=.ok (.int .u64 ((n/128:Nat):Int)) w:=by
 simp[Go.binOp,go_sem,IntKind.bits]
def V8(n:Nat)(h:n<18446744073709551616):(Go.binOp .quo t (.int .u64 (n:Int))<|.int .u64 128).run P w=.ok (.int .u64 ((n/128:Nat):Int)) w:=by
 have:IntKind.u64.wrap ((n:Int).tdiv 128)=((n/128:Nat):Int):=by
  rw[Int.tdiv_eq_ediv_of_nonneg Om];simp only[IntKind.wrap,IntKind.bits,IntKind.signed];simp;omega
 show((pure (Value.int .u64<|IntKind.u64.wrap<|(n:Int).tdiv 128):Sem Value)).run P w=_;rw[this];rfl
def jYR(n:Nat):(Go.binOp .rem t (.int .u64 (n:Int))<|.int .u64 128).run P w=.ok (.int .u64 ((n%128:Nat):Int)) w:=by
 have:(n:Int).tmod 128=((n%128:Nat):Int):=Gd;simp[Go.binOp,Op.intDiv,this]
def YW(c:Nat)(h:c<256):(Go.binOp .and t (.int .u8 (c:Int))<|.int .u8 127).run P w=.ok (.int .u8 ((c%128:Nat):Int)) w:=by
 have d:IntKind.u8.wrap ((BitVec.ofInt IntKind.u8.bits (c:Int) &&& BitVec.ofInt IntKind.u8.bits 127).toNat:Int)=((c%128:Nat):Int):=by
  have b:(BitVec.ofInt IntKind.u8.bits (c:Int)).toNat=c:=by
   rw[BitVec.toNat_ofInt];simp[IntKind.bits];omega
  have a:(BitVec.ofInt IntKind.u8.bits 127).toNat=2^7-1:=De;rw[BitVec.toNat_and,b,a,Nat.and_two_pow_sub_one_eq_mod,yb];simp only[UInt8.toNat_ofNat'];omega
 show((pure (Value.int .u8 _):Sem Value)).run P w=_;rw[d];rfl
def vX{n:Nat}(h:n<18446744073709551616):IntKind.u64.wrap (n:Int)=(n:Int):=by
 simp[IntKind.wrap,IntKind.bits,IntKind.signed];omega
def ZK(x k:Nat)(c:k<64)(h:x*2^k<18446744073709551616):(Go.binOp .shl t (.int .u64 (x:Int))<|.int .i64 (k:Int)).run P w=.ok (.int .u64 ((x*2^k:Nat):Int)) w:=by
 have b:IntKind.u64.wrap ((x:Int)*2^min (k:Int).toNat IntKind.u64.bits)=((x*2^k:Nat):Int):=by
  have:min (k:Int).toNat IntKind.u64.bits=k:=by simp[IntKind.bits];omega
  rw[this,<-vX h];simp
 have a:¬((k:Int)<0):=Om;show(Op.shift .shl .u64 (x:Int) .i64 (k:Int)).run P w=_;unfold Op.shift;rw[if_neg a];show((pure (Value.int .u64<|IntKind.u64.wrap<|(x:Int)*2^min (k:Int).toNat IntKind.u64.bits):Sem Value)).run P w=_;rw[b];rfl
def YX(x y:Nat)(hx:x<18446744073709551616)(a:y<18446744073709551616):(Go.binOp .or t (.int .u64 (x:Int))<|.int .u64 (y:Int)).run P w=.ok (.int .u64 ((x |||y:Nat):Int)) w:=by
 have b:IntKind.u64.wrap ((BitVec.ofInt IntKind.u64.bits (x:Int) |||BitVec.ofInt IntKind.u64.bits (y:Int)).toNat:Int)=((x |||y:Nat):Int):=by
  have e (z:Nat) (c:z<18446744073709551616):(BitVec.ofInt IntKind.u64.bits (z:Int)).toNat=z:=by
   rw[BitVec.toNat_ofInt];simp[IntKind.bits];omega
  rw[BitVec.toNat_or,e x hx,e y a,vX<|Nat.or_lt_two_pow (n:=64) hx a]
 show((pure (Value.int .u64 _):Sem Value)).run P w=_;rw[b];rfl
def Rp{x y k}(h:x<2^k):x |||(y*2^k)=x+y*2^k:=by
 have:=Nat.shiftLeft_add_eq_or_of_lt h y;rw[Nat.shiftLeft_eq]at this;rw[Nat.or_comm,<-this,Nat.add_comm]
end
def gr.sub{P t e sz bytes S}(T:nY P t e sz bytes){w s rs}(h:gr S w sz s rs)(b:s.ay<=s.cap){k lo n}(j:lo+n<=rs.length):
  ∃s':Sl,(Instr.sliceAt t s.v (some<|.int k (lo:Int)) (some<|.int k ((lo+n:Nat):Int)) none).run P w=.ok s'.v w/\gr S w sz s' ((rs.drop lo).take n):=by
 have h1:((lo+n:Nat):Int)<=(s.cap:Int):=by rw[h.ay]at b;omega
 have h2:(lo:Int)<=((lo+n:Nat):Int):=Om
 refine⟨⟨if s.cap=lo then s.a else s.a.map (·.add<|lo*sz),n,s.cap-lo⟩,?_,⟨So,fun i hi=>?_⟩⟩
 simp[Instr.sliceAt,Instr.slice,Sl.v,run_underlying T.ht,Instr.sliceBounds,Instr.sliceBound,asIntOf,T.sizeOf]
 rw[if_pos Om,if_pos Om,show((lo:Int)+(n:Int)).toNat-lo=n by omega]
 have c:lo+i<rs.length:=by simp at hi;omega
 obtain⟨a,⟨_,f,p,g,rfl⟩,hS,d⟩:=h.at_ (lo+i) c
 refine⟨_,⟨Om,Uc,p.add<|lo*sz,?_,rfl⟩,?_,?_⟩
 grind
 simpa[zD]using hS
 have:(p.add<|lo*sz).add ((i:Int).toNat*sz)=p.add (((lo+i:Nat):Int).toNat*sz):=by
  rw[qN,Int.toNat_natCast,Int.toNat_natCast,Nat.add_mul]
 rw[this,getElem_take,getElem_drop];exact d
end Go.SE
end
section
namespace Go.SE
section
variable {P:Program} {n:Nat} {ρ:gb} {w:World} {ds:List Deferred} {Q:Exit->Act->World->Prop} {a:Act}
def IP{c1 c2}(g:mc ds n ρ a)(h:de (x:=⟨none,ds⟩) P n c1 (fun e d w'=>match e with|.normal=>∀b,mc ds n d b->c2.wp P Q b w'|.panic ch=>∀b,mc ds n d b->Q (.panic ch) b w'|_=>False) ρ w):(Code.seq c1 c2).wp P Q a w:=by
 refine wp_seq<|wpIn_wide.1<|wpIn_mono (h a g) ?_;rintro e b w' ⟨d,⟨f,c⟩|⟨rfl,_,_,D,f,i,c⟩⟩
 .cases e<;>first|exact c.elim|exact c _ f
 .exact c.elim
def OU{c}(i:mc ds n ρ a)(h:de (x:=⟨none,ds⟩) P n c (fun e d w'=>match e with|.normal=>∀b,mc ds n d b->Q .normal b w'|.panic ch=>∀b,mc ds n d b->Q (.panic ch) b w'|_=>False) ρ w):c.wp P Q a w:=by
 refine wpIn_wide.1<|wpIn_mono (h a i) ?_;rintro e b w' ⟨d,⟨g,f⟩|⟨rfl,_,_,D,g,j,f⟩⟩;grind;exact f.elim
def Ul{id t f}{caps:Array Operand}{ty ty'}{pos b:String}{aft c:Array Edge}{c2}(e:mc ds n ρ a)(ht:t<n)(h:∀g,mc (⟨.fn (.func f)<|caps.map<|gx ρ,#[]⟩ :: ds) n (put ρ (some t)<|.func (.func f) #[]<|caps.map<|gx ρ) g->c2.wp P Q g w):
  (Code.seq (.region id #[⟨some t,.makeFunc (.func f) #[] caps,ty,pos,aft,none⟩,⟨none,.defer ⟨.value<|.tmp t,#[],#[]⟩,ty',b,c,none⟩] false) c2).wp P Q a w:=by
 have h1:mc ds n (put ρ (some t)<|.func (.func f) #[]<|caps.map<|gx ρ) (a.put (some t)<|.func (.func f) #[]<|caps.map<|gx ρ):=e.put Gd _
 have h2:=h ({ (a.put (some t)<|.func (.func f) #[]<|caps.map<|gx ρ)with defers:=⟨.fn (.func f)<|caps.map<|gx ρ,#[]⟩ ::ds }.put none undef) ⟨rfl,h1.size,h1.get⟩
 refine wp_seq<|(wpIn_wide (n:=0)).1<|wpIn_region_lit (l:=[_,_]) ?_
 unfold wpListIn
 rw[if_pos<|by simp[Region.wanted]]
 refine Re (ro:=none) ⟨Sm,?_⟩
 rw[e.eval]
 simp only[execOp,Instr.makeFunc]
 show wpListIn _ 0 P _ _ _ _ _
 unfold wpListIn
 rw[if_pos<|by simp[Region.wanted]]
 refine⟨fun f _=>trivial,?_⟩
 have d:(a.put (some t)<|.func (.func f) #[]<|caps.map<|gx ρ).eval (.tmp t)=.func (.func f) #[] (caps.map<|gx ρ):=by
  rw[h1.eval];simp[gx,put,sM]
 have i:=h1.defers
 simp[Oper.semAt,Fence.wide,execOp,resolve,d,Deferred.ofValue,Oper.uponIn,wpListIn,Exit.then,i]
 exact h2
def jRW{f fn c args R}(e:P.funcs[f]?=some fn)(b:fn.body=some c)(d:fn.ntmps=n)(g:args.length<=n)(h:∀a,mc [] n (xA args) a->c.wp P (bodyPostD P fn R) a w):Calls P f args.toArray w R:=by
 subst d;exact calls_of_wp_defers e b<|h _<|Ga args g
inductive Jy:FrameMode->Value->FrameMode->Prop
 |L7:Jy .returning .nilIface .returning
 |oy (v:Value) (a:List PanicEntry):Jy (.panicking ({ v:=v,recovered:=false } :: a)) v (.panicking ({ v:=v,recovered:=true } :: a))
def TY(P:Program)(fn:Func)(n:Nat)(R:Ending->World->Prop):Exit->gb->World->Prop
 |.normal,ρ,w=>∃v,(∀ds a,mc ds n ρ a->(results fn a.tmps).run P w=.ok v w)/\R (.returned v) w
 |.panic b,_,w=>R (.panicked b) w
 |_,_,_=>False
def Lx{id t t2:Nat}{f:FuncId}{fn:Func}{c:Code}{args:List Value}{v:Value}{u u':FrameMode}{R:Ending->World->Prop}{ty ty':TypeId}{pos pos':String}{aft aft':Array Edge}(hu:Jy u v u')(hf:P.funcs[f]?=some fn)(hb:fn.body=some (Code.seq (.region id #[⟨some t,.call ⟨.builtin .recover,#[],#[]⟩,ty,pos,aft,none⟩,⟨some t2,.assign<|.tmp t,ty',pos',aft',none⟩] false) c))(hn:fn.ntmps=n)(hl:args.length<=n)(ht:t<n)(ht2:t2<n)(h:de (x:=⟨none,[]⟩) P n c (TY P fn n R) (put (put (xA args) (some t) v) (some t2) v) w):
  CallsD P f args.toArray u w<|fun e u1 w'=>u1=u'/\R e w':=by
 subst hn
 refine callsD_of_wpS hf hb fun c₀ cs hm=>?_
 apply wpS_seq
 apply wpS_region
 have hr:=Ga args hl
 have h1:=hr.put (d:=some t) Gd v
 have h2:=h1.put (d:=some t2) Gd v
 have hv:((Act.mk (args.toArray++Array.replicate (fn.ntmps-args.toArray.size) undef) []).put (some t) v).eval (.tmp t)=v:=by
  rw[h1.eval];simp[gx,put,sM]
 have key:∀cs',cs'={ c₀ with mode:=u' } ::cs->c.wpS P (bodyPostS P fn c₀ cs fun e u1 w'=>u1=u'/\R e w') ((((Act.mk (args.toArray++Array.replicate (fn.ntmps-args.toArray.size) undef) []).put (some t) v)).put (some t2) v) cs' w:=by
  rintro cs' rfl;refine wpS_of_wp<|OU h2<|JG ?_ h;intro e ρ' w' hq;cases e with
  |normal =>
   intro a' ha'
   have⟨x,hx,hR⟩:=hq
   exact⟨ha'.defers,u',rfl,x,hx _ a' ha',rfl,hR⟩
  |panic ch =>
   intro a' ha'
   exact⟨ha'.defers,u',rfl,rfl,hq⟩
  |_=>exact hq.elim
 have h0:(execOp (Act.mk (args.toArray++Array.replicate (fn.ntmps-args.toArray.size) undef) []).eval ⟨some t,.call ⟨.builtin .recover,#[],#[]⟩,ty,pos,aft,none⟩).run P w=.ok .recover w:=by
  simp[execOp,resolve,invoke,builtin]
 show wpOpsS P _ _ [0,1] _ _ _
 cases hu with
 |L7 =>
  have hrd:recoverD (c₀ ::cs)=none:=by simp[recoverD,hm]
  simp only[wpOpsS,List.getElem?_toArray,List.getElem?_cons_zero,List.getElem?_cons_succ]
  rw[if_pos<|by simp[Region.wanted],h0]
  simp only[hrd]
  rw[if_pos<|by simp[Region.wanted]]
  simp only[execOp,hv,Oper.upon]
  exact key _ (by cases c₀;simp_all)
 |oy v older =>
  have hrd:recoverD (c₀ ::cs)=some (v,{ c₀ with mode:=.panicking ({ v:=v,recovered:=true } ::older) } ::cs):=by simp[recoverD,hm]
  simp only[wpOpsS,List.getElem?_toArray,List.getElem?_cons_zero,List.getElem?_cons_succ]
  rw[if_pos<|by simp[Region.wanted],h0]
  simp only[hrd]
  rw[if_pos<|by simp[Region.wanted]]
  simp only[execOp,hv,Oper.upon]
  exact key _ rfl
end
section
variable {P:Program} {x:Cx} {n:Nat} {Q:Exit->gb->World->Prop} {ρ:gb} {w:World}
end
end Go.SE
end
