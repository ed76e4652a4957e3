import Derived.Test.YtbfdlpbchhjhoaaGreatPa3
import Derived.Test.YtbfdlpbchhjhoaaGreatPa2
import Derived.Test.YtbfdlpbchhjhoaaGreatPa1
import Derived.Test.YtbfdlpbchhjhoaaGreatProg
import Derived.KernelRfl
section
open Go Go.SE
namespace Go.Proofs
open Tryz
attribute [local irreducible] Calls
theorem jMS:SlType prog 49 127 7 64:=by
 refine ⟨underlying49,⟨t127,_,by kernel_rfl,(by kernel_rfl:t127.zero=some (.agg #[.int .i64 0,.int .i64 0,.int .i64 0,.int .u64 0,.string ⟨#[]⟩,.int .i64 0,.int .i64 0])),by kernel_rfl,by kernel_rfl,rfl⟩,by omega⟩
theorem jCN:SlType prog 50 3 1 8:=by
 refine ⟨underlying50,⟨t3,_,by kernel_rfl,(by kernel_rfl:t3.zero=some (.int .i64 0)),by kernel_rfl,by kernel_rfl,rfl⟩,by omega⟩
def jTE (e:Sp.Ent):List Value:=uR e.node
def jVO (e:Sp.Ent):List Value:=[.int .i64 e.size]
def jQK (e:Sp.Ent):List Value:=[.int .i64 e.depth]
structure PoolRS (w:World) (p:Addr) (L:Sp.Pool) (s1 s2 s3:Sl):Prop where
 box:Box w p [s1.v,s2.v,s3.v] 52
 r1:Rws w 127 7 s1 (L.map jTE)
 r2:Rws w 3 1 s2 (L.map jVO)
 r3:Rws w 3 1 s3 (L.map jQK)
 n1:¬ s1.blk p.block
 n2:¬ s2.blk p.block
 n3:¬ s3.blk p.block
 d12:∀b,s1.blk b→¬ s2.blk b
 d13:∀b,s1.blk b→¬ s3.blk b
 d23:∀b,s2.blk b→¬ s3.blk b
def qY (w:World) (p:Addr) (L:Sp.Pool) (F:NP):Prop:=∃s1 s2 s3,PoolRS w p L s1 s2 s3∧∀b,F b↔(b=p.block∨s1.blk b∨s2.blk b∨s3.blk b)
theorem qY.ext {G:NP} {w w':World} {p:Addr} {L:Sp.Pool} {F:NP} (h:qY w p L F) (hE:Ext G w w') (hd:∀b,F b→¬ G b):qY w' p L F:=by
 obtain ⟨s1,s2,s3,h,hF⟩:=h;exact ⟨s1,s2,s3,⟨h.box.ext hE (hd _ ((hF _).2 (.inl rfl))),h.r1.ext hE (fun b hb=>hd _ ((hF _).2 (.inr (.inl hb)))),h.r2.ext hE (fun b hb=>hd _ ((hF _).2 (.inr (.inr (.inl hb))))),h.r3.ext hE (fun b hb=>hd _ ((hF _).2 (.inr (.inr (.inr hb))))),h.n1,h.n2,h.n3,h.d12,h.d13,h.d23⟩,hF⟩
theorem qY.pure {w w':World} {p:Addr} {L:Sp.Pool} {F:NP} (h:qY w p L F) (hE:Pure w w'):qY w' p L F:=h.ext hE (fun _ _ h=>h)
theorem qY.lt {w:World} {p:Addr} {L:Sp.Pool} {F:NP} (h:qY w p L F) {b:Nat} (hb:F b):b<w.heap.size:=by
 obtain ⟨s1,s2,s3,h,hF⟩:=h;rcases (hF b).1 hb with rfl | hb | hb | hb
 ·exact h.box.lt
 ·exact h.r1.lt hb
 ·exact h.r2.lt hb
 ·exact h.r3.lt hb
theorem jMB (w0:World):Calls prog 54 #[] w0 (fun e w'=>∃r:Option Addr,e=.returned (.pointer r)∧∃p F,r=some p∧qY w' p [] F∧Pure w0 w'∧∀b,F b→w0.heap.size≤b):=by
 refine w_U2 w0 (fun r w'=>∃p F,r=some p∧qY w' p [] F∧Pure w0 w'∧∀b,F b→w0.heap.size≤b) ?_;unfold m_U2;have hnil:∀b,¬ Sl.nil.blk b:=fun b hb=>by obtain ⟨a,h,_⟩:=hb;cases h
 intro p w1 h1;have b1:=Box.of_new h1;have E1:Pure w0 w1:=Ext.new h1
 first
  | exact ⟨p,(·=p.block),rfl,⟨Sl.nil,Sl.nil,Sl.nil,⟨b1,Rws.nil _ _ _,Rws.nil _ _ _,Rws.nil _ _ _,hnil _,hnil _,hnil _,fun b h=>(hnil b h).elim,fun b h=>(hnil b h).elim,fun b h=>(hnil b h).elim⟩,fun b=>by simp [hnil]⟩,E1,fun b hb=>by subst hb;exact New.own (Ext.refl w0) h1⟩
  | skip
theorem xH (p:Addr) (t:Int) (w0:World) {L:Sp.Pool} {F:NP} (hP:qY w0 p L F):Calls prog 122 #[.pointer (some p),.int .i64 t] w0 (fun e w'=>∃r:Bool,e=.returned (.bool r)∧(r=Sp.inP L t∧w'=w0)):=by
 refine w_T2 _ _ w0 (fun r w'=>r=Sp.inP L t∧w'=w0) ?_;unfold m_T2;obtain ⟨s1,s2,s3,h,hF⟩:=hP;have hl:s1.len=L.length:=by rw [h.r1.len];simp
 refine ⟨fun hc=>⟨p,rfl,s1,h.box.cell0,?_,rfl⟩,fun hc=>⟨?_,rfl⟩⟩
 ·have:=of_decide_eq_true hc;rw [hl];simp [Sp.inP,this]
 ·have:=of_decide_eq_false hc;simp [Sp.inP];omega
theorem PoolRS.at1 {w:World} {p:Addr} {L:Sp.Pool} {s1 s2 s3:Sl} (h:PoolRS w p L s1 s2 s3) {t:Int} (ht:Sp.inP L t=true) (hok:Sp.Ok L):∃e,Sp.get L t=some e ∧
  (∃a,At s1 (IntKind.i64.wrap (t - 1)) 7 a∧Row w a (jTE e))∧(∃a,At s2 (IntKind.i64.wrap (t - 1)) 1 a∧Row w a (jVO e))∧(∃a,At s3 (IntKind.i64.wrap (t - 1)) 1 a∧Row w a (jQK e)):=by
 obtain ⟨e,he,_,hi,hLe⟩:=Sp.jCE ht
 have hin:=Sp.zX.1 ht
 have hf:=hok.few
 have hw:IntKind.i64.wrap (t - 1)=((t - 1).toNat:Int):=by rw [i64 (by omega) (by omega)];omega
 obtain ⟨a1,h1,g1⟩:=h.r1.nth (j:=(t - 1).toNat) hi
 obtain ⟨a2,h2,g2⟩:=h.r2.nth (j:=(t - 1).toNat) hi
 obtain ⟨a3,h3,g3⟩:=h.r3.nth (j:=(t - 1).toNat) hi
 rw [hLe] at g1 g2 g3
 rw [hw]
 exact ⟨e,he,⟨a1,h1,g1⟩,⟨a2,h2,g2⟩,⟨a3,h3,g3⟩⟩
theorem jDK (p:Addr) (t:Int) (w0:World) {L:Sp.Pool} {F:NP} (hP:qY w0 p L F) (hok:Sp.Ok L):Calls prog 123 #[.pointer (some p),.int .i64 t] w0 (fun e w'=>∃r:Int,e=.returned (.int .i64 r)∧(r=Sp.sizeOf L t∧w'=w0)):=by
 refine w_V2 _ _ w0 (fun r w'=>r=Sp.sizeOf L t∧w'=w0) ?_;unfold m_V2;refine (xH p t w0 hP).mono ?_;rintro _ _ ⟨_,rfl,rfl,rfl⟩;refine ⟨_,rfl,fun h=>⟨?_,rfl⟩,fun h=>?_⟩
 ·have h:Sp.inP L t=false:=by simpa using h
  simp [Sp.sizeOf,Sp.uX h]
 ·have h:Sp.inP L t=true:=by simpa using h
  obtain ⟨s1,s2,s3,hS,hF⟩:=hP;obtain ⟨e,he,_,⟨a,hat,hr⟩,_⟩:=hS.at1 h hok;exact ⟨p,rfl,s2,hS.box.cell rfl,a,hat,_,jBS hr,by simp [Sp.sizeOf,he],rfl⟩
theorem jCG (p:Addr) (t:Int) (w0:World) {L:Sp.Pool} {F:NP} (hP:qY w0 p L F) (hok:Sp.Ok L):Calls prog 131 #[.pointer (some p),.int .i64 t] w0 (fun e w'=>∃r:Int,e=.returned (.int .i64 r)∧(r=Sp.depthOf L t∧w'=w0)):=by
 refine w_W2 _ _ w0 (fun r w'=>r=Sp.depthOf L t∧w'=w0) ?_;unfold m_W2;refine (xH p t w0 hP).mono ?_;rintro _ _ ⟨_,rfl,rfl,rfl⟩;refine ⟨_,rfl,fun h=>⟨?_,rfl⟩,fun h=>?_⟩
 ·have h:Sp.inP L t=false:=by simpa using h
  simp [Sp.depthOf,Sp.uX h]
 ·have h:Sp.inP L t=true:=by simpa using h
  obtain ⟨s1,s2,s3,hS,hF⟩:=hP;obtain ⟨e,he,_,_,⟨a,hat,hr⟩⟩:=hS.at1 h hok;exact ⟨p,rfl,s3,hS.box.cell rfl,a,hat,_,jBS hr,by simp [Sp.depthOf,he],rfl⟩
theorem jTR (m n:Sp.Node):((m.kind == n.kind) && ((m.frm == n.frm) && ((m.to == n.to) && ((m.num == n.num) && ((decide (m.text=n.text)) && ((m.a == n.a) && (m.b == n.b)))))))=decide (m=n):=by
 obtain ⟨k,f,t,u,x,a,b⟩:=m;obtain ⟨k',f',t',u',x',a',b'⟩:=n;rw [Bool.eq_iff_iff];simp
theorem jMC (p:Addr) (n:Sp.Node) (w0:World) {L:Sp.Pool} {F:NP} (hP:qY w0 p L F) (hok:Sp.Ok L):Calls prog 132 #[.pointer (some p),jDO n] w0
  (fun e w'=>∃r:Int,∃ok:Bool,e=.returned (.tuple #[.int .i64 r,.bool ok])∧((match Sp.find L n with | some i=>r=(i:Int)+1∧ok=true | none=>r=0∧ok=false)∧Pure w0 w')):=by
 obtain ⟨k,f,t,u,x,a,b⟩:=n
 generalize hn:(⟨k,f,t,u,x,a,b⟩:Sp.Node)=n
 have hnk:jDO n=.agg #[.int .i64 k,.int .i64 f,.int .i64 t,.int .u64 u,.string x,.int .i64 a,.int .i64 b]:=by rw [← hn];rfl
 rw [hnk]
 suffices key:∀K:Int→Bool→WP,(∀r ok w',((match Sp.find L n with | some i=>r=(i:Int)+1∧ok=true | none=>r=0∧ok=false)∧Pure w0 w')→K r ok w')→m_F1 (some p) k f t u x a b w0 K from
  w_F1 _ _ _ _ _ _ _ _ w0 _ (key _ (fun _ _ _ h=>h))
 intro K hK
 unfold m_F1
 intro H1 w1 hs1
 refine ⟨fun i H w'=>∃j:Nat,i=j∧j≤L.length∧Pure w0 w'∧∀q,q<j→∀e,L[q]?=some e→e.node≠n,fun i _=>((L.length:Int) - i).toNat,⟨0,rfl,Nat.zero_le _,hs1.first,fun q hq=>absurd hq (by omega)⟩,?_⟩
 rintro _ Hl wl hl ⟨j,rfl,hj,El,hno⟩
 unfold m_F1_l1
 obtain ⟨s1,s2,s3,hS,hF⟩:=hP.pure El
 have hf:=hok.few
 have hlen:s1.len=L.length:=by rw [hS.r1.len];simp
 refine ⟨p,rfl,s1,hS.box.cell0,fun h=>?_,fun h=>?_⟩
 ·have hlt:=uN hlen h
  refine ⟨p,rfl,?_⟩
  intro w2 hs2
  have E2:=El.hst hs2
  obtain ⟨s1',s2',s3',hS',_⟩:=hP.pure E2
  obtain ⟨a',hat,hr⟩:=hS'.r1.nth hlt
  refine ⟨s1',hS'.box.cell0,a',hat,_,_,_,_,_,_,_,hr,?_⟩
  have hB:=jTR L[j].node n
  rw [← hn] at hB
  simp only at hB
  rw [hB,hn]
  refine ⟨fun h=>?_,fun h=>?_⟩
  ·have h:=of_decide_eq_true h
   rw [vV hlt (by omega)]
   refine hK _ _ _ ⟨?_,E2⟩
   have hfd:Sp.find L n=some j:=by
    unfold Sp.find;rw [List.findIdx?_eq_some_iff_getElem];exact ⟨hlt,by simp [h],fun q hq=>by simpa using hno q hq _ (List.getElem?_eq_getElem (by omega))⟩
   rw [hfd];exact ⟨by omega,rfl⟩
  ·have h:=of_decide_eq_false h
   rw [vV hlt (by omega)]
   refine ⟨⟨j+1,rfl,hlt,E2,fun q hq e he=>?_⟩,jCC hlt⟩
   by_cases hqj:q=j
   ·subst hqj;rw [List.getElem?_eq_getElem hlt] at he;cases he;exact h
   ·exact hno q (by omega) e he
 ·have hge:=xS hlen hj h
  subst hge
  refine hK _ _ _ ⟨?_,El⟩
  have hfd:Sp.find L n=none:=find_none (fun e he=>by
   obtain ⟨q,hq,rfl⟩:=List.mem_iff_getElem.1 he;exact hno q hq _ (List.getElem?_eq_getElem hq))
  rw [hfd];exact ⟨rfl,rfl⟩
theorem jFG {P:Program} {t ty e:TypeId} {sz bytes:Nat} (T:SlType P t e sz bytes) {w:World} {p:Addr} {c:List Value} {Tp:TypeId} (hB:Box w p c Tp) {s:Sl} {rs:List (List Value)} (hR:Rws w e sz s rs) (hp:¬ s.blk p.block) {a:Addr} {r:List Value} (hr:Row w a r) (hl:r.length=sz) (h1:r.all qH=true) (hb:(rs.length+1)*bytes≤140737488355328) (hm:rs.length+1≤maxLen) :
  ∃s' w',(Builtin.append_ #[t,t] ty #[s.v,(Sl.mk (some a) 1 1).v]).run P w=.ok s'.v w'∧Rws w' e sz s' (rs++[r])∧Box w' p c Tp∧¬ s'.blk p.block∧Ext s.blk w w'∧(∀b,s'.blk b→s.blk b∨w.heap.size≤b):=by
 obtain ⟨s',w',hr',hR',hE,hb'⟩:=hR.append T (ty:=ty) (c:=1) hr hl h1 hb hm
 exact ⟨s',w',hr',hR',hB.ext hE hp,fun h=>(hb' _ h).elim hp (fun h=>by have:=hB.lt;omega),hE,hb'⟩
theorem jDC (n:Sp.Node):Sp.zZ n=53∨Sp.zZ n=0:=by
 unfold Sp.zZ;simp only;split
 ·exact .inl rfl
 ·exact .inr rfl
theorem jKD (p:Addr) (n:Sp.Node) (w0:World) {L:Sp.Pool} {F:NP} (hP:qY w0 p L F) (hok:Sp.Ok L):Calls prog 68 #[.pointer (some p),jDO n] w0
  (fun e w'=>∃r1 r2:Int,e=.returned (.tuple #[.int .i64 r1,.int .i64 r2])∧((r1,r2)=((Sp.make L n).1,(Sp.make L n).2.1)∧∃F',qY w' p (Sp.make L n).2.2 F'∧Ext F w0 w'∧∀b,F' b→F b∨w0.heap.size≤b)):=by
 obtain ⟨k,f,t,u,x,a,b⟩:=n
 generalize hn:(⟨k,f,t,u,x,a,b⟩:Sp.Node)=n
 have hnk:jDO n=.agg #[.int .i64 k,.int .i64 f,.int .i64 t,.int .u64 u,.string x,.int .i64 a,.int .i64 b]:=by rw [← hn];rfl
 rw [hnk]
 suffices key:∀K:Int→Int→WP,(∀r1 r2 w',((r1,r2)=((Sp.make L n).1,(Sp.make L n).2.1)∧∃F',qY w' p (Sp.make L n).2.2 F'∧Ext F w0 w'∧∀b,F' b→F b∨w0.heap.size≤b)→K r1 r2 w')→m_P (some p) k f t u x a b w0 K from
  w_P _ _ _ _ _ _ _ _ w0 _ (key _ (fun _ _ _ h=>h))
 intro K hK
 have hsh:=jEM n
 have hkd:=xC k
 rw [← hn] at hsh
 simp only at hsh
 rw [hn] at hsh
 have hna:n.a=a:=by rw [← hn]
 have hnb:n.b=b:=by rw [← hn]
 have hnkk:n.kind=k:=by rw [← hn]
 have hk:=Sp.yL k
 have same:∀(r1 r2:Int) (w':World),Pure w0 w'→Sp.make L n=(r1,r2,L)→K r1 r2 w':=fun r1 r2 w' E h=>hK _ _ _ ⟨by rw [h],F,by rw [h];exact hP.pure E,E.pure,fun b h=>.inl h⟩
 have bad:∀(er:Int) (w':World),er≠0→Pure w0 w'→Sp.check L n=(0,0,er)→K 0 er w':=fun er w' h0 E h=>same 0 er w' E (by unfold Sp.make;simp [h,h0])
 unfold m_P
 rw [hsh,hkd]
 have good:Sp.nodeErr n=0→Sp.check L n=(if (Sp.zG n).any (fun t=>!Sp.inP L t) then (0,0,51) else if 1+((Sp.zG n).map (Sp.sizeOf L)).sum>4096∨(Sp.zG n).foldl (fun d t=>max d (Sp.depthOf L t)) 0+1>64 then (0,0,52) else (1+((Sp.zG n).map (Sp.sizeOf L)).sum,(Sp.zG n).foldl (fun d t=>max d (Sp.depthOf L t)) 0+1,0)):=by
  intro h;unfold Sp.nodeErr at h;unfold Sp.check;split at h
  ·cases h
  ·rename_i h1;simp only;rw [if_neg h1];split at h
   ·cases h
   ·rename_i h2;rw [if_neg h2,if_neg (by simpa using h)]
 refine ⟨fun h=>?_,fun h=>?_⟩
 ·intro H1 w2 hs2
  have h:Sp.nodeErr n≠0:=by simpa using h
  refine bad _ _ h hs2.first ?_
  unfold Sp.nodeErr at h ⊢
  unfold Sp.check
  by_cases h1:Sp.zZ n≠0
  ·rw [if_pos h1,if_pos h1]
   have:Sp.zZ n=53:=(jDC n).resolve_right h1
   rw [this]
  ·rw [if_neg h1] at h ⊢
   simp only
   rw [if_neg h1]
   by_cases h2:((decide ((Sp.shapeOf n.kind).kids<1) && n.a != 0) || (decide ((Sp.shapeOf n.kind).kids<2) && n.b != 0))=true
   ·rw [if_pos h2,if_pos h2]
   ·rw [if_neg h2] at h ⊢;rw [if_neg h2,if_pos h]
 have h0:Sp.nodeErr n=0:=by simpa using h
 have hchk:=good h0
 have hzero:((Sp.shapeOf k).kids<1→a=0)∧((Sp.shapeOf k).kids<2→b=0):=by
  unfold Sp.nodeErr at h0;split at h0
  ·cases h0
  ·split at h0
   ·cases h0
   ·rename_i _ h2;rw [hnkk,hna,hnb] at h2;simp at h2;exact h2
 have hz0:Sp.inP L 0=false:=by simp [Sp.inP]
 have hs0:Sp.sizeOf L 0=0:=by simp [Sp.sizeOf,Sp.get,hz0]
 have hd0:Sp.depthOf L 0=0:=by simp [Sp.depthOf,Sp.get,hz0]
 have hsa:=hok.sizeOf a
 have hsb:=hok.sizeOf b
 have hda:=hok.depthOf a
 have hdb:=hok.depthOf b
 have hany:(Sp.zG n).any (fun t=>!Sp.inP L t)=((decide (1≤(Sp.shapeOf k).kids) && !Sp.inP L a) || (decide ((Sp.shapeOf k).kids=2) && !Sp.inP L b)):=by
  unfold Sp.zG;rw [hnkk,hna,hnb];rcases hk with h | h | h <;> rw [h] <;> simp
 have hsum:((Sp.zG n).map (Sp.sizeOf L)).sum=Sp.sizeOf L a+Sp.sizeOf L b:=by
  unfold Sp.zG;rw [hnkk,hna,hnb];rcases hk with h | h | h <;> rw [h] <;> simp
  ·rw [hzero.1 (by omega),hzero.2 (by omega),hs0];rfl
  ·rw [hzero.2 (by omega),hs0];omega
 have hmax:(Sp.zG n).foldl (fun d t=>max d (Sp.depthOf L t)) 0=max (Sp.depthOf L a) (Sp.depthOf L b):=by
  unfold Sp.zG;rw [hnkk,hna,hnb];rcases hk with h | h | h <;> rw [h] <;> simp
  ·rw [hzero.1 (by omega),hzero.2 (by omega),hd0];omega
  ·rw [hzero.2 (by omega),hd0];omega
  ·omega
 rw [hany,hsum,hmax] at hchk
 have J1:∀(x1:Bool) (H:NP) (w:World),Hst w0 H w H w→Pure w0 w→x1=((decide (1≤(Sp.shapeOf k).kids) && !Sp.inP L a) || (decide ((Sp.shapeOf k).kids=2) && !Sp.inP L b))→m_P_j1 (some p) k f t u x a b x1 w0 H w K:=by
  intro x1 H w hs E hx;rw [← hx] at hchk;unfold m_P_j1;refine ⟨fun h=>bad 51 w (by omega) E (by rw [hchk,h];rfl),fun h=>?_⟩;rw [h,if_neg (by simp)] at hchk;refine ⟨fun _=>True,trivial,?_⟩;rintro _ rfl;have Ed:Pure w0 w.drew:=E.trans (Ext.drew w);refine (jDK p a w.drew (hP.pure Ed) hok).mono ?_;rintro _ _ ⟨_,rfl,rfl,rfl⟩;refine ⟨_,rfl,trivial,Kept.refl _,?_⟩;refine (jDK p b w.drew (hP.pure Ed) hok).mono ?_;rintro _ _ ⟨_,rfl,rfl,rfl⟩;refine ⟨_,rfl,trivial,Kept.refl _,fun _=>True,trivial,?_⟩;rintro _ rfl;have Ed2:Pure w0 w.drew.drew:=Ed.trans (Ext.drew w.drew);refine (jCG p a w.drew.drew (hP.pure Ed2) hok).mono ?_;rintro _ _ ⟨_,rfl,rfl,rfl⟩;refine ⟨_,rfl,trivial,Kept.refl _,?_⟩;refine (jCG p b w.drew.drew (hP.pure Ed2) hok).mono ?_;rintro _ _ ⟨_,rfl,rfl,rfl⟩;refine ⟨_,rfl,trivial,Kept.refl _,_,fun w' _=>run_max_int2 _ _ _ _ _ _ _,?_⟩;have hmx:(if Sp.depthOf L b>Sp.depthOf L a then Sp.depthOf L b else Sp.depthOf L a)=max (Sp.depthOf L a) (Sp.depthOf L b):=by
   split <;> omega
  generalize hz:(if Sp.depthOf L b>Sp.depthOf L a then Sp.depthOf L b else Sp.depthOf L a)=z at *;have hz64:0≤z∧z≤64:=by rw [hmx];omega
  have e1:IntKind.i64.wrap (IntKind.i64.wrap (1+Sp.sizeOf L a)+Sp.sizeOf L b)=1+(Sp.sizeOf L a+Sp.sizeOf L b):=by
   rw [i64 (n:=1+Sp.sizeOf L a) (by omega) (by omega),i64 (by omega) (by omega)];omega
  have e2:IntKind.i64.wrap (1+z)=z+1:=by rw [i64 (by omega) (by omega)];omega
  rw [e1,e2];rw [← hmx] at hchk;rintro y1 rfl;have hsx:Hst w0 H w.drew.drew H w.drew.drew:=(hs.drew.here.drew).here;refine ⟨fun h=>?_,fun h=>?_⟩
  ·intro H2 w10 hs10;refine bad 52 w10 (by omega) (Ed2.hst hs10) ?_;rw [hchk,if_pos (by simpa using h)]
  ·intro H2 w10 hs10;have hck:Sp.check L n=(1+(Sp.sizeOf L a+Sp.sizeOf L b),z+1,0):=by rw [hchk,if_neg (by simp at h;omega)]
   have E10:=Ed2.hst hs10;rw [← hnk];refine (jMC p n w10 (hP.pure E10) hok).mono ?_;rintro _ w11 ⟨r,ok,rfl,hfd,E11⟩;refine ⟨_,_,rfl,E11.keptP,?_⟩;have E11':=E10.trans E11;have hs11:Hst w0 H2 w11 H2 w11:=hs10.again E11.keptP;cases hf:Sp.find L n with
   | some i =>
    rw [hf] at hfd
    obtain ⟨rfl,rfl⟩:=hfd
    exact Br.t rfl (same _ _ _ E11' (by unfold Sp.make;simp [hck,hf]))
   | none =>
    rw [hf] at hfd
    obtain ⟨rfl,rfl⟩:=hfd
    refine Br.f rfl ?_
    obtain ⟨s1,s2,s3,hS,hF⟩:=hP.pure E11'
    have hlen:s1.len=L.length:=by rw [hS.r1.len];simp
    refine ⟨p,rfl,s1,hS.box.cell0,fun h=>?_,fun h=>?_⟩
    ·have h2:65536≤L.length:=by have h:=of_decide_eq_true h;omega
     exact same _ _ _ E11' (by unfold Sp.make;simp [hck,hf,h2])
    ·have h2:¬ 65536≤L.length:=by have h:=of_decide_eq_false h;omega
     have hmk:Sp.make L n=((L.length:Int)+1,0,L++[⟨n,1+(Sp.sizeOf L a+Sp.sizeOf L b),z+1⟩]):=by unfold Sp.make;simp [hck,hf,h2]
     have hvis:∀b,F b→¬ H2 b:=fun b hb h2=>by have:=hP.lt hb;have:=hs11.old b h2;omega
     have hpF:F p.block:=(hF _).2 (.inl rfl)
     refine ⟨fun w'=>w'.cell? p=some s1.v,hS.box.cell0,?_⟩
     rintro _ rfl
     have E12:Pure w11 w11.drew:=Ext.drew w11
     refine ⟨p,rfl,s1,fun w' h'=>h',?_⟩
     intro p3 w13 h13
     have E13:Pure w11 w13:=E12.trans (Ext.new h13)
     have B13:=hS.box.pure E13
     refine ⟨B13.cell0,?_⟩
     obtain ⟨t1,w14,hr14,R14,B14,np1,X14,nb1⟩:=jFG (P:=prog) (ty:=49) jMS B13 (hS.r1.pure E13) hS.n1 (a:=p3) (r:=uR n) (by rw [← hn];exact (Box.of_new h13).row) rfl rfl (by simp;omega) (by simp [maxLen];omega)
     refine ⟨t1,w14,hr14,B14.cell0,X14.kept (fun b hb h=>hvis b ((hF b).2 (.inr (.inl h))) hb),p,rfl,B14.canW0 (by simp),hvis _ hpF,?_⟩
     rintro w15 hw15
     have B15:Box w15 p [t1.v,s2.v,s3.v] 52:=by rw [hw15];exact B14.set0
     have X15:Ext (·=p.block) w14 w15:=by rw [hw15];exact Ext.setCell p _
     clear hw15
     have R15:=R14.ext X15 (fun b hb e=>np1 (e▸hb))
     have R2:=((hS.r2.pure E13).ext X14 (fun b h2 h1=>hS.d12 b h1 h2)).ext X15 (fun b hb e=>hS.n2 (e▸hb))
     have R3:=((hS.r3.pure E13).ext X14 (fun b h2 h1=>hS.d13 b h1 h2)).ext X15 (fun b hb e=>hS.n3 (e▸hb))
     have d12':∀b,t1.blk b→¬ s2.blk b:=fun b hb h2=>(nb1 b hb).elim (fun h=>hS.d12 b h h2) (fun h=>by have:=hS.r2.lt h2;have:=E13.size;omega)
     have d13':∀b,t1.blk b→¬ s3.blk b:=fun b hb h2=>(nb1 b hb).elim (fun h=>hS.d13 b h h2) (fun h=>by have:=hS.r3.lt h2;have:=E13.size;omega)
     refine ⟨p,rfl,s2,B15.cell rfl,?_⟩
     intro p4 w16 h16
     have E16:Pure w15 w16:=Ext.new h16
     have B16:=B15.pure E16
     obtain ⟨t2,w17,hr17,R17,B17,np2,X17,nb2⟩:=jFG (P:=prog) (ty:=50) jCN B16 (R2.pure E16) hS.n2 (a:=p4) (r:=[.int .i64 (1+(Sp.sizeOf L a+Sp.sizeOf L b))]) (Box.of_new h16).row rfl rfl (by simp;omega) (by simp [maxLen];omega)
     refine ⟨t2,w17,hr17,X17.kept (fun b hb h=>hvis b ((hF b).2 (.inr (.inr (.inl h)))) hb),p,rfl,B17.canW (by simp),by rw [zV];exact hvis _ hpF,?_⟩
     rintro w18 hw18
     have B18:Box w18 p [t1.v,t2.v,s3.v] 52:=by rw [hw18];exact B17.set 1 _
     have X18:Ext (·=p.block) w17 w18:=by rw [hw18];have:=Ext.setCell (w:=w17) (p.add 1) t2.v;rw [zV] at this;exact this
     clear hw18
     have Q1:=((R15.pure E16).ext X17 (fun b h1 h2=>d12' b h1 h2)).ext X18 (fun b hb e=>np1 (e▸hb))
     have Q2:=R17.ext X18 (fun b hb e=>np2 (e▸hb))
     have Q3:=((R3.pure E16).ext X17 (fun b h3 h2=>hS.d23 b h2 h3)).ext X18 (fun b hb e=>hS.n3 (e▸hb))
     have d12'':∀b,t1.blk b→¬ t2.blk b:=fun b hb h2=>(nb2 b h2).elim (fun h=>d12' b hb h) (fun h=>by have:=(R15.pure E16).lt hb;omega)
     have d23':∀b,t2.blk b→¬ s3.blk b:=fun b hb h2=>(nb2 b hb).elim (fun h=>hS.d23 b h h2) (fun h=>by have:=(R3.pure E16).lt h2;omega)
     refine ⟨p,rfl,s3,B18.cell rfl,?_⟩
     intro p5 w19 h19
     have E19:Pure w18 w19:=Ext.new h19
     have B19:=B18.pure E19
     obtain ⟨t3,w20,hr20,R20,B20,np3,X20,nb3⟩:=jFG (P:=prog) (ty:=50) jCN B19 (Q3.pure E19) hS.n3 (a:=p5) (r:=[.int .i64 (z+1)]) (Box.of_new h19).row rfl rfl (by simp;omega) (by simp [maxLen];omega)
     refine ⟨t3,w20,hr20,X20.kept (fun b hb h=>hvis b ((hF b).2 (.inr (.inr (.inr h)))) hb),p,rfl,B20.canW (by simp),by rw [zV];exact hvis _ hpF,?_⟩
     rintro w21 hw21
     have B21:Box w21 p [t1.v,t2.v,t3.v] 52:=by rw [hw21];exact B20.set 2 _
     have X21:Ext (·=p.block) w20 w21:=by rw [hw21];have:=Ext.setCell (w:=w20) (p.add 2) t3.v;rw [zV] at this;exact this
     clear hw21
     have d13'':∀b,t1.blk b→¬ t3.blk b:=fun b hb h2=>(nb3 b h2).elim (fun h=>d13' b hb h) (fun h=>by have:=(Q1.pure E19).lt hb;omega)
     have d23'':∀b,t2.blk b→¬ t3.blk b:=fun b hb h2=>(nb3 b h2).elim (fun h=>d23' b hb h) (fun h=>by have:=(Q2.pure E19).lt hb;omega)
     have Z1:=((Q1.pure E19).ext X20 (fun b h1 h2=>d13' b h1 h2)).ext X21 (fun b hb e=>np1 (e▸hb))
     have Z2:=((Q2.pure E19).ext X20 (fun b h1 h2=>d23' b h1 h2)).ext X21 (fun b hb e=>np2 (e▸hb))
     have Z3:=R20.ext X21 (fun b hb e=>np3 (e▸hb))
     have hl1:(t1.len:Int)=L.length+1:=by rw [R14.len];simp
     refine ⟨p,rfl,t1,B21.cell0,?_⟩
     rw [hl1]
     refine hK _ _ _ ⟨by rw [hmk],fun b=>b=p.block∨t1.blk b∨t2.blk b∨t3.blk b,?_,?_,?_⟩
     ·rw [hmk]
      exact ⟨t1,t2,t3,⟨B21,by simpa [jTE] using Z1,by simpa [jVO] using Z2,by simpa [jQK] using Z3,np1,np2,np3,d12'',d13'',d23''⟩,fun _=>Iff.rfl⟩
     ·have a1:Ext F w0 w14:=(E11'.trans E13).pure.trans' X14 (fun i _ h=>(hF i).2 (.inr (.inl h)))
      have a2:Ext F w0 w15:=a1.trans' X15 (fun i _ h=>(hF i).2 (.inl h))
      have a3:Ext F w0 w17:=(a2.thenPure E16).trans' X17 (fun i _ h=>(hF i).2 (.inr (.inr (.inl h))))
      have a4:Ext F w0 w18:=a3.trans' X18 (fun i _ h=>(hF i).2 (.inl h))
      have a5:Ext F w0 w20:=(a4.thenPure E19).trans' X20 (fun i _ h=>(hF i).2 (.inr (.inr (.inr h))))
      exact a5.trans' X21 (fun i _ h=>(hF i).2 (.inl h))
     ·have z13:w0.heap.size≤w13.heap.size:=(E11'.trans E13).size
      have z16:w0.heap.size≤w16.heap.size:=by have:=X14.size;have:=X15.size;have:=E16.size;omega
      have z19:w0.heap.size≤w19.heap.size:=by have:=X17.size;have:=X18.size;have:=E19.size;omega
      rintro b (rfl | hb | hb | hb)
      ·exact .inl hpF
      ·exact (nb1 b hb).imp (fun h=>(hF b).2 (.inr (.inl h))) (fun h=>by omega)
      ·exact (nb2 b hb).imp (fun h=>(hF b).2 (.inr (.inr (.inl h)))) (fun h=>by omega)
      ·exact (nb3 b hb).imp (fun h=>(hF b).2 (.inr (.inr (.inr h)))) (fun h=>by omega)
 have J2:∀(x2:Bool) (H:NP) (w:World),Hst w0 H w H w→Pure w0 w→x2=(decide (1≤(Sp.shapeOf k).kids) && !Sp.inP L a)→m_P_j2 (some p) k f t u x a b x2 w0 H w K:=by
  intro x2 H w hs E hx;unfold m_P_j2;rw [hkd];refine ⟨fun h=>J1 true H w hs E (by rw [← hx,h];rfl),fun h=>⟨fun h2=>?_,fun h2=>J1 false H w hs E ?_⟩⟩
  ·refine (xH p b w (hP.pure E)).mono ?_;rintro _ _ ⟨_,rfl,rfl,rfl⟩;refine ⟨_,rfl,Kept.refl _,J1 _ H _ hs E ?_⟩;have h2:(Sp.shapeOf k).kids=2:=by simpa using h2
   rw [← hx,h];simp [h2]
  ·have h2:(Sp.shapeOf k).kids≠2:=by simpa using h2
   rw [← hx,h];simp [h2]
 refine ⟨fun h=>?_,fun h=>?_⟩
 ·intro H1 w3 hs3
  refine (xH p a w3 (hP.pure hs3.first)).mono ?_
  rintro _ _ ⟨_,rfl,rfl,rfl⟩
  refine ⟨_,rfl,Kept.refl _,J2 _ H1 _ hs3.here hs3.first ?_⟩
  have:1≤(Sp.shapeOf k).kids:=by have:=of_decide_eq_true h;omega
  simp [this]
 ·intro H1 w3 hs3
  refine J2 _ H1 _ hs3.here hs3.first ?_
  have:¬ 1≤(Sp.shapeOf k).kids:=by have:=of_decide_eq_false h;omega
  simp [this]
def xN (t:Sp.Tree) (s:Sl):List Value:=[.int .i64 t.node.kind,.int .i64 t.node.frm,.int .i64 t.node.to,.int .u64 t.node.num,.string t.node.text,s.v]
inductive TreeAt (S:NP) (w:World):Sl→Sp.Tree→Prop
 | mk (k f t u : Int) (x : ByteArray) (ks : List Sp.Tree) (s : Sl) (rs : Nat → Sl) (len : s.len = ks.length) (fit : ks.length ≤ 9223372036854775807)
   (row:∀i (h:i<ks.length),∃a,At s i 6 a∧S a.block∧Row w a (xN ks[i] (rs i))) (kid:∀i (h:i<ks.length),TreeAt S w (rs i) ks[i]):TreeAt S w s (.mk k f t u x ks)
theorem TreeAt.ext {S F:NP} {w w':World} {s:Sl} {t:Sp.Tree} (h:TreeAt S w s t) (hE:Ext F w w') (hd:∀b,S b→¬ F b):TreeAt S w' s t:=by
 induction h with
 | mk k f t u x ks s rs len fit row kid ih =>
  exact .mk k f t u x ks s rs len fit (fun i h=>let ⟨a,h1,h2,h3⟩:=row i h;⟨a,h1,h2,hE.row h3 (hd _ h2)⟩) ih
theorem TreeAt.pure {S:NP} {w w':World} {s:Sl} {t:Sp.Tree} (h:TreeAt S w s t) (hE:Pure w w'):TreeAt S w' s t:=h.ext hE (fun _ _ h=>h)
theorem TreeAt.mono {S S':NP} {w:World} {s:Sl} {t:Sp.Tree} (h:TreeAt S w s t) (hd:∀b,S b→S' b):TreeAt S' w s t:=by
 induction h with
 | mk k f t u x ks s rs len fit row kid ih =>
  exact .mk k f t u x ks s rs len fit (fun i h=>let ⟨a,h1,h2,h3⟩:=row i h;⟨a,h1,hd _ h2,h3⟩) ih
theorem TreeAt.lt {S:NP} {w:World} {s:Sl} {t:Sp.Tree} (h:TreeAt S w s t):TreeAt (fun b=>S b∧b<w.heap.size) w s t:=by
 induction h with
 | mk k f t u x ks s rs len fit row kid ih =>
  refine .mk k f t u x ks s rs len fit (fun i h=>let ⟨a,h1,h2,h3⟩:=row i h;⟨a,h1,⟨h2,?_⟩,h3⟩) ih
  have:=h3 0 (by simp [xN])
  unfold World.cell? at this
  refine Classical.byContradiction fun hge=>?_
  have:w.heap[(a.add 0).block]?=none:=by rw [zV];exact Array.getElem?_eq_none (by omega)
  simp_all [xN]
theorem jNM (k f t u:Int) (x:ByteArray) (s:Sl) (w:World) :
  Calls prog 183 #[.agg #[.int .i64 k,.int .i64 f,.int .i64 t,.int .u64 u,.string x,s.v]] w
   (fun e w'=>∃k':Int,∃f':Int,∃t':Int,∃u':Int,∃x':ByteArray,∃a:Int,∃b:Int,e=.returned (.agg #[.int .i64 k',.int .i64 f',.int .i64 t',.int .u64 u',.string x',.int .i64 a,.int .i64 b])∧((⟨k',f',t',u',x',a,b⟩:Sp.Node)=⟨k,f,t,u,x,0,0⟩∧Pure w w')):=by
 refine w_Z3 _ _ _ _ _ _ w (fun k' f' t' u' x' a b w'=>(⟨k',f',t',u',x',a,b⟩:Sp.Node)=⟨k,f,t,u,x,0,0⟩∧Pure w w') ?_
 unfold m_Z3
 intro p1 w1 h1 p2 w2 h2
 have E1:Pure w w1:=Ext.new h1
 have b1:=(Box.of_new h1).pure (Ext.new h2)
 refine ⟨_,b1.cell0,_,b1.cell rfl,_,b1.cell rfl,_,b1.cell rfl,_,b1.cell rfl,?_⟩
 exact bx 7 (Box.of_new h2) rfl rfl (fun w' b E=>⟨_,_,_,_,_,_,_,b.row,rfl,(E1.trans (Ext.new h2)).own (New.own E1 h2) E⟩)
theorem jGE (t:Sp.Tree):∀i n:Int,0≤n→0≤(Sp.qC i n t).2:=by
 induction t using Sp.Tree.ind with
 | h k f t u x ks ih =>
  have:∀(ks:List Sp.Tree),(∀i (hi:i<ks.length),∀j n:Int,0≤n→0≤(Sp.qC j n ks[i]).2)→∀i e n:Int,0≤n→0≤(Sp.vG i e n ks).2:=by
   intro ks;induction ks with
   | nil=>intro _ i e n h;simpa [Sp.vG] using h
   | cons t ts iht =>
    intro hh i e n h
    unfold Sp.vG
    split
    ·exact iht (fun i hi=>hh (i+1) (by simpa using hi)) _ _ _ (hh 0 (by simp) i n h)
    ·exact h
  intro i n h
  unfold Sp.qC
  split
  ·exact h
  ·split
   ·exact h
   ·exact this ks ih _ _ _ (by omega)
theorem jCD {ks:List Sp.Tree} {j:Nat} (hj:j<ks.length) (i n:Int):Sp.vG i 0 n (ks.drop j)=Sp.vG i (Sp.qC i n ks[j]).1 (Sp.qC i n ks[j]).2 (ks.drop (j+1)):=by
 rw [List.drop_eq_getElem_cons hj,Sp.vG,if_pos rfl]
theorem jDE {ks:List Sp.Tree} {e:Int} (h:e≠0) (i n:Int):Sp.vG i e n ks=(e,n):=by
 cases ks <;> simp [Sp.vG,h]
theorem jWI {S:NP} (q:Addr) (hq:¬ S q.block) (T:TypeId) (t:Sp.Tree):∀(s:Sl) (inside seen:Int) (w:World),0≤inside→0≤seen→TreeAt S w s t→Box w q [.int .i64 seen] T →
  Calls prog 134 #[.agg (xN t s).toArray,.int .i64 inside,.pointer (some q)] w
   (fun e w'=>∃r:Int,e=.returned (.int .i64 r)∧(r=(Sp.qC inside seen t).1∧Box w' q [.int .i64 (Sp.qC inside seen t).2] T∧Ext (·=q.block) w w')):=by
 induction t using Sp.Tree.ind with
 | h k f t u x ks ih =>
 intro s inside seen w hi0 hn0 hT hB
 suffices key:∀K:Int→WP,(∀r w',(r=(Sp.qC inside seen (.mk k f t u x ks)).1∧Box w' q [.int .i64 (Sp.qC inside seen (.mk k f t u x ks)).2] T∧Ext (·=q.block) w w')→K r w')→m_K k f t u x s inside (some q) w K from
  w_K _ _ _ _ _ _ _ _ w _ (key _ (fun _ _ h=>h))
 intro K hK
 unfold m_K
 intro p1 w1 h1
 have b1:=Box.of_new h1
 have E1:Pure w w1:=Ext.new h1
 have n1:q.block≠p1.block:=New.ne h1 hB.blk
 have hB1:=hB.pure E1
 have hT1:=hT.pure E1
 refine ⟨q,rfl,seen,hB1.cell0,fun h=>?_,fun h=>⟨fun h'=>?_,fun h'=>?_⟩⟩
 ·have h:=of_decide_eq_true h
  have:Sp.qC inside seen (.mk k f t u x ks)=(52,seen):=by rw [Sp.qC,if_pos (by omega)]
  rw [this] at hK;exact hK _ _ ⟨rfl,hB1,E1.pure⟩
 ·have h:=of_decide_eq_false h;have h':=of_decide_eq_true h'
  have:Sp.qC inside seen (.mk k f t u x ks)=(52,seen):=by rw [Sp.qC,if_neg (by omega),if_pos (by omega)]
  rw [this] at hK;exact hK _ _ ⟨rfl,hB1,E1.pure⟩
 have h:=of_decide_eq_false h;have h':=of_decide_eq_false h'
 have hsp:Sp.qC inside seen (.mk k f t u x ks)=Sp.vG (inside+1) (Sp.qT ⟨k,f,t,u,x,0,0⟩ ks.length) (seen+1) ks:=by rw [Sp.qC,if_neg (by omega),if_neg (by omega)]
 rw [hsp] at hK
 unfold m_K_j1
 refine ⟨q,rfl,seen,hB1.cell0,q,rfl,hB1.canW0 (by simp),?_⟩
 rw [i64 (n:=seen+1) (by omega) (by omega)]
 intro w2 hw2
 have hB2:Box w2 q [.int .i64 (seen+1)] T:=by rw [hw2];exact hB1.set0
 have E12:Ext (·=q.block) w1 w2:=by rw [hw2];exact Ext.setCell q _
 clear hw2
 have b2:=b1.ext E12 (fun e=>n1 e.symm)
 have hT2:=hT1.ext E12 (fun b hb e=>hq (e▸hb))
 have E2:Ext (·=q.block) w w2:=E1.pure.trans E12
 refine ⟨_,_,_,_,_,_,b2.row,?_⟩
 refine (jNM _ _ _ _ _ _ w2).mono ?_
 rintro _ w3 ⟨k',f',t',u',x',a',b',rfl,hn,E23⟩
 cases hn
 refine ⟨_,_,_,_,_,_,_,rfl,?_⟩
 intro p2 w4 h4
 have n2:p1.block≠p2.block:=New.ne h4 (b2.pure E23).blk
 have E24:Pure w2 w4:=E23.trans (Ext.new h4)
 have o2:=New.own E23 h4
 refine bx 7 (Box.of_new h4) rfl rfl (fun w5 c2 E45=>?_)
 have E25:Pure w2 w5:=E24.own o2 E45
 refine ⟨_,_,_,_,_,_,_,c2.row,?_⟩
 refine (jSE _ _ _ _ _ _ _ w5).mono ?_
 rintro _ w6 ⟨s1,s2,s3,s4,s5,pe,rfl,⟨hs,hpe⟩,E56⟩
 refine ⟨_,_,_,_,_,_,rfl,?_⟩
 intro p3 w7 h7
 have n3:p2.block≠p3.block:=New.ne h7 (c2.pure E56).blk
 have E27:Pure w2 w7:=(E25.trans E56).trans (Ext.new h7)
 have o3:=New.own (E25.trans E56) h7
 refine bx 5 (Box.of_new h7) rfl rfl (fun w8 c3 E78=>?_)
 have E28:Pure w2 w8:=E27.own o3 E78
 have d2:=((c2.pure E56).pure (Ext.new h7)).ext E78 n3
 have d1:=b2.pure E28
 have hB8:=hB2.pure E28
 have hT8:=hT2.pure E28
 have E8:Ext (·=q.block) w w8:=E2.thenPure E28
 clear E78 E27 E56 E25 E45 E24 E23 E12 c2 b2 b1 hT2 hT1 hB1 h1 h4 h7
 have hlen:s.len=ks.length:=by cases hT;assumption
 have hfit:ks.length≤9223372036854775807:=by cases hT;assumption
 have hsh:Sp.shapeOf k=⟨s1,s2,s3,s4,s5⟩:=hs.symm
 have J3:∀e w',Pure w8 w'→e=Sp.qT ⟨k,f,t,u,x,0,0⟩ ks.length→m_K_j3 inside (some q) p1 e w' K:=by
  intro e w' E hown;rw [← hown] at hK;unfold m_K_j3;refine ⟨fun e i w'=>∃j:Nat,i=j∧j≤ks.length∧∃n:Int,0≤n∧Ext (·=q.block) w8 w'∧Box w' q [.int .i64 n] T∧Sp.vG (inside+1) e n (ks.drop j)=Sp.vG (inside+1) (Sp.qT ⟨k,f,t,u,x,0,0⟩ ks.length) (seen+1) ks,fun _ i _=>((ks.length:Int) - i).toNat,⟨0,rfl,Nat.zero_le _,seen+1,by omega,E.pure,hB8.pure E,by rw [hown];rfl⟩,?_⟩;rintro e1 _ wl ⟨j,rfl,hj,n,hn,El,hBl,heq⟩;unfold m_K_l4;have dl:=d1.ext El (fun e=>n1 e.symm);have hTl:=hT8.ext El (fun b hb e=>hq (e▸hb));rw [← hown] at heq;have fin:∀n',Sp.vG (inside+1) e ((seen:Int)+1) ks=(e1,n')→n'=n→K e1 wl:=by
   rintro n' h rfl;refine hK _ _ ⟨by rw [h],by rw [h];exact hBl,E8.trans El⟩
  refine ⟨s,dl.cell rfl,fun hlt=>⟨fun he=>?_,fun he=>?_⟩,fun hlt=>?_⟩
  ·have hlt:j<ks.length:=by have h:=of_decide_eq_true hlt;omega
   have he:e1=0:=by simpa using he
   subst he;cases hTl with
   | mk _ _ _ _ _ _ _ rs len fit row kid =>
   obtain ⟨a,hat,ha,hr⟩:=row j hlt;refine ⟨s,dl.cell rfl,a,hat,_,_,_,_,_,rs j,hr,?_⟩;rw [i64 (n:=inside+1) (by omega) (by omega)];refine (ih j hlt (rs j) (inside+1) n wl (by omega) hn (kid j hlt) hBl).mono ?_;rintro _ w9 ⟨r,rfl,rfl,hB9,E9⟩;rw [jCD hlt] at heq;refine ⟨_,rfl,⟨j+1,?_,hlt,_,jGE _ _ _ hn,El.trans E9,hB9,by rw [← hown];exact heq⟩,?_⟩
   ·rw [i64 (by omega) (by omega)];omega
   ·show ((ks.length:Int) - IntKind.i64.wrap ((j:Int)+1)).toNat<((ks.length:Int) - (j:Int)).toNat;rw [i64 (by omega) (by omega)];omega
  ·have he:e1≠0:=by simpa using he
   rw [jDE he] at heq;exact fin _ heq.symm rfl
  ·have hge:j=ks.length:=by have h:=of_decide_eq_false hlt;omega
   rw [hge,List.drop_length,Sp.vG] at heq;exact fin _ heq.symm rfl
 have J2:∀e1,e1=(if pe=0 then if (ks.length:Int)≠s5 then 53 else 0 else pe)→m_K_j2 inside (some q) p1 p2 p3 e1 w8 K:=by
  intro e1 he1;have hown:Sp.qT ⟨k,f,t,u,x,0,0⟩ ks.length=if e1=0 then Sp.zY ⟨s1,s2,s3,s4,s5⟩ ⟨k,f,t,u,x,0,0⟩ else e1:=by
   unfold Sp.qT;simp only [hsh,← hpe,he1]
  unfold m_K_j2;refine ⟨fun h=>⟨_,_,_,_,_,c3.row,_,_,_,_,_,_,_,d2.row,?_⟩,fun h=>J3 _ _ (Ext.refl _) ?_⟩
  ·have h:e1=0:=by simpa using h
   refine (jNO _ _ _ _ _ _ _ _ _ _ _ _ _).mono ?_;rintro _ w9 ⟨_,rfl,rfl,E9⟩;exact ⟨_,rfl,J3 _ _ E9 (by rw [hown,if_pos h])⟩
  ·have h:e1≠0:=by simpa using h
   rw [hown,if_neg h]
 refine ⟨fun h=>⟨s,d1.cell rfl,s5,c3.cell rfl,fun h5=>J2 _ ?_,fun h5=>J2 _ ?_⟩,fun h=>J2 _ ?_⟩
 ·have h:pe=0:=by simpa using h
  have h5:(s.len:Int)≠s5:=by simpa using h5
  rw [if_pos h,if_pos (by omega)]
 ·have h:pe=0:=by simpa using h
  have h5:(s.len:Int)=s5:=by simpa using h5
  rw [if_pos h,if_neg (by omega),h]
 ·have h:pe≠0:=by simpa using h
  rw [if_neg h]
theorem c_New (w:World):Calls prog 44 #[] w (fun e w'=>∃r:Option Addr,e=.returned (.pointer r)∧∃p,r=some p∧Pure w w'∧∃F,zR w' p [] F∧∀b,F b→w.heap.size≤b):=by
 refine w_T3 w (fun r w'=>∃p,r=some p∧Pure w w'∧∃F,zR w' p [] F∧∀b,F b→w.heap.size≤b) ?_;unfold m_T3;intro p1 w1 h1 p2 w2 h2;have E1:Pure w w1:=Ext.new h1;have m2:CMap w2 p1.block []:=(CMap.of_new h1).ext (Ext.new h2:Pure w1 w2) id;have n12:p1.block≠p2.block:=New.ne h2 h1.block_new;refine ⟨p2,rfl,E1.trans (Ext.new h2),fun b=>b=p2.block∨Sl.nil.blk b∨b=p1.block,⟨Sl.nil,p1.block,⟨Box.of_new h2,by simpa using Rws.nil _ _ _,by simpa [tF] using m2,n12,?_,?_⟩,fun _=>Iff.rfl⟩,?_⟩
 ·rintro ⟨a,h,_⟩;cases h
 ·rintro ⟨a,h,_⟩;cases h
 ·rintro b (rfl | ⟨a,h,_⟩ | rfl)
  ·exact New.own E1 h2
  ·cases h
  ·exact New.own (Ext.refl w) h1
theorem jQS (L:Sp.Pool) (n:Nat):tF (L.take n)=(tF L).take n:=by
 apply List.ext_getElem?;intro i;simp only [tF,List.getElem?_map,List.getElem?_zipIdx,List.getElem?_take];split <;> simp
theorem jTM (L:Sp.Pool):(tF L).map (·.1)=(L.map (·.node)).map jDO:=by
 apply List.ext_getElem?;intro i;simp only [tF,List.getElem?_map,List.getElem?_zipIdx];cases L[i]? <;> simp
theorem c_cut (p:Addr) (n:Nat) (w:World) {L:Sp.Pool} {F:NP} (hP:zR w p L F) (hok:Sp.Ok L) (hn:n≤L.length) :
  Calls prog 136 #[.pointer (some p),.int .i64 n] w (fun e w'=>e=.returned (.tuple #[])∧zR w' p (L.take n) F∧Ext F w w'):=by
 suffices key:∀K:WP,(∀w',zR w' p (L.take n) F∧Ext F w w'→K w')→m_J1 (some p) n w K from
  w_J1 _ _ w _ (key _ (fun _ h=>h))
 intro K hK
 unfold m_J1
 obtain ⟨s,m,hS,hF⟩:=hP
 have hfew:=hok.few
 have hcap:s.len≤s.cap:=by
  have:=hS.rows.len;rcases hS.rows.own with ⟨rfl,_⟩ | ⟨g,cur,_,_,hc,_⟩
  ·simp [Sl.nil]
  ·omega
 obtain ⟨s1,hr1,hl1⟩:=hS.rows.lst.lo (P:=prog) jEJ hcap (k:=.i64) (n:=n) (by omega) (by simpa using hn)
 have hlen1:s1.len=L.length - n:=by rw [hl1.len];simp
 refine ⟨p,rfl,s,hS.box.cell0,s1,hr1,?_⟩
 refine ⟨fun x w'=>∃j:Nat,x=j∧j≤L.length - n∧Ext (·=m) w w'∧CMap w' m ((tF L).take n++(tF L).drop (n+j)),fun x _=>((L.length:Int) - x).toNat,⟨0,rfl,Nat.zero_le _,Ext.refl w,by simpa using hS.map⟩,?_⟩
 rintro _ wl ⟨j,rfl,hj,El,hml⟩
 have hboxl:=hS.box.ext El hS.n1.symm
 have hrowsl:=hS.rows.ext El (fun b hb e=>hS.n3 (e▸hb))
 unfold m_J1_l1
 refine ⟨fun h=>?_,fun h=>?_⟩
 ·have hlt:n+j<L.length:=by have h:=of_decide_eq_true h;omega
  have hll:=hl1.ext El (fun b hb e=>hS.n3 (e▸hb))
  obtain ⟨a,hat,_,hrow⟩:=hll.at_ j (by simp;omega)
  generalize he:L[n+j]=e at *
  have hrow':Row wl a (jPJ e):=by
   have:((L.map jPJ).drop ((n:Int).toNat))[j]'(by simp;omega)=jPJ e:=by simp [he]
   rw [this] at hrow;exact hrow
  obtain ⟨nd,sz,dp⟩:=e
  obtain ⟨k,f,t,u,x,a1,b1⟩:=nd
  refine ⟨a,hat,_,_,_,_,_,_,_,_,_,hrow',?_⟩
  intro p2 w1 h1
  have E1:Pure wl w1:=Ext.new h1
  have o1:=New.own (Ext.refl wl) h1
  refine bx 9 (Box.of_new h1) rfl rfl (fun w2 b2 E=>?_)
  have E2:Pure wl w2:=E1.own o1 E
  refine ⟨fun w'=>w'.cell? (p.add 1)=some (.map (some m))∧Row w' p2 (uR ⟨k,f,t,u,x,a1,b1⟩),⟨(hboxl.pure (E2.thenPure (Ext.drew w2))).cell (i:=1) rfl,?_⟩,?_⟩
  ·have : Row w2 p2 (uR ⟨k, f, t, u, x, a1, b1⟩) := fun i hi => by
    have:=b2.row i (by simp [uR] at hi ⊢;omega);rw [this];have h7:i<7:=by simpa [uR] using hi
    have:i=0∨i=1∨i=2∨i=3∨i=4∨i=5∨i=6:=by omega
    rcases this with rfl | rfl | rfl | rfl | rfl | rfl | rfl <;> rfl
   exact Ext.row (F:=None) (Ext.drew w2) this id
  intro w3 hw3
  have E3:Pure wl w3:=by rw [hw3];exact E2.thenPure (Ext.drew w2)
  clear hw3
  refine ⟨p,rfl,some m,fun w' h=>h.1,k,f,t,u,x,a1,b1,fun w' h=>h.2,?_⟩
  have hm3:=hml.ext E3 id
  have hpl:(tF L).length=L.length:=by simp [tF]
  have hget:(tF L)[n+j]?=some (jDO ⟨k,f,t,u,x,a1,b1⟩,.int .i64 (n+j+1:Nat)):=by
   simp only [tF,List.getElem?_map,List.getElem?_zipIdx,List.getElem?_eq_getElem hlt,he];simp
  have hidx:((tF L).take n++(tF L).drop (n+j))[n]?=some (jDO ⟨k,f,t,u,x,a1,b1⟩,.int .i64 (n+j+1:Nat)):=by
   have e0:n+j+(n - ((tF L).take n).length)=n+j:=by rw [List.length_take];omega
   rw [List.getElem?_append_right (by rw [List.length_take];omega),List.getElem?_drop,e0,hget]
  have hnd:((tF L).map (·.1)).Nodup:=by
   rw [jTM,List.nodup_iff_pairwise_ne,List.pairwise_map];exact hok.nodup.imp (fun h e=>h (jHJ.1 e))
  have hsub:List.Sublist ((tF L).take n++(tF L).drop (n+j)) (tF L):=by
   conv=>rhs;rw [← List.take_append_drop n (tF L)]
   refine (List.Sublist.refl _).append ?_;have e0:(tF L).drop (n+j)=((tF L).drop n).drop j:=by rw [List.drop_drop]
   rw [e0];exact List.drop_sublist _ _
  have hnd2:(((tF L).take n++(tF L).drop (n+j)).map (·.1)).Nodup:=hnd.sublist (hsub.map _)
  obtain ⟨w4,hr4,hm4,E4⟩:=hm3.delete (P:=prog) (Q:=127) (z:=0) underlying159 jAI (fun q hq=>jBY q (hsub.subset hq)) ⟨_,rfl⟩ hidx (fun i u hi=>by
   obtain ⟨hi1,hi2⟩:=List.getElem?_eq_some_iff.1 hi;obtain ⟨hn1,hn2⟩:=List.getElem?_eq_some_iff.1 hidx;refine Classical.byContradiction fun hne=>?_;have hne:=List.pairwise_iff_getElem.1 hnd2;rcases Nat.lt_or_gt_of_ne ‹_› with hlt | hlt
   ·exact hne i n (by simpa using hi1) (by simpa using hn1) hlt (by rw [List.getElem_map,List.getElem_map,hi2,hn2])
   ·exact hne n i (by simpa using hn1) (by simpa using hi1) hlt (by rw [List.getElem_map,List.getElem_map,hi2,hn2]))
  refine ⟨w4,hr4,⟨j+1,?_,by omega,(El.trans E3.pure).trans E4,?_⟩,?_⟩
  ·rw [i64 (by omega) (by omega)];omega
  ·rw [List.eraseIdx_append_of_length_le (by rw [List.length_take];omega)] at hm4
   have:n - ((tF L).take n).length=0:=by rw [List.length_take];omega
   rw [this] at hm4
   have hd:((tF L).drop (n+j)).eraseIdx 0=(tF L).drop (n+(j+1)):=by
    rw [List.drop_eq_getElem_cons (by omega)];simp;rfl
   rw [hd] at hm4;exact hm4
  ·show ((L.length:Int) - IntKind.i64.wrap ((j:Int)+1)).toNat<((L.length:Int) - (j:Int)).toNat
   rw [i64 (by omega) (by omega)];omega
 ·have hge:n+j=L.length:=by have h:=of_decide_eq_false h;omega
  have hpl:(tF L).length=L.length:=by simp [tF]
  rw [hge,← hpl,List.drop_length,List.append_nil] at hml
  obtain ⟨s2,hr2,hrows2,hb2⟩:=hrowsl.hi (P:=prog) jEJ (k:=.i64) (n:=n) (by omega) (by simpa using hn)
  refine ⟨p,rfl,s,hboxl.cell0,s2,hr2,p,rfl,hboxl.canW0 (by simp),?_⟩
  rintro w5 hw5
  have hbox5:Box w5 p [s2.v,.map (some m)] 162:=by rw [hw5];exact hboxl.set0
  have E5:Ext (·=p.block) wl w5:=by rw [hw5];exact Ext.setCell p _
  clear hw5
  refine hK _ ⟨⟨s2,m,⟨hbox5,?_,?_,hS.n1,fun h=>hS.n2 ((hb2 _).1 h),fun h=>hS.n3 ((hb2 _).1 h)⟩,fun b=>by rw [hF b,hb2 b]⟩,?_⟩
  ·have:=hrows2.ext E5 (fun b hb e=>hS.n2 (by rw [← e];exact (hb2 _).1 hb))
   simpa using this
  ·rw [jQS];exact hml.ext E5 hS.n1
  ·exact (El.mono (fun i _ h=>(hF i).2 (.inr (.inr h)))).trans' E5 (fun i _ h=>(hF i).2 (.inl h))
theorem jFA {n:Sp.Node} {i:Nat} {L:Sp.Pool} {t:Sp.Tree} {ts:List Sp.Tree} (h:(Sp.grow L t).2.1≠0):Sp.vB n i L (t :: ts)=(0,(Sp.grow L t).2.1,(Sp.grow L t).2.2):=by rw [Sp.vB,if_pos h]
theorem jDG {n:Sp.Node} {i:Nat} {L:Sp.Pool} {t:Sp.Tree} {ts:List Sp.Tree} (h:(Sp.grow L t).2.1=0):Sp.vB n i L (t :: ts)=Sp.vB (if i=0 then { n with a:=(Sp.grow L t).1 } else { n with b:=(Sp.grow L t).1 }) (i+1) (Sp.grow L t).2.2 ts:=by rw [Sp.vB,if_neg (by simp [h])]
def Sp.Tree.two (t:Sp.Tree):Prop:=Sp.Tree.rec (motive_1:=fun _=>Prop) (motive_2:=fun _=>Prop) (fun _ _ _ _ _ ks h=>ks.length≤2∧h) True (fun _ _ h1 h2=>h1∧h2) t
def jIK:List Sp.Tree→Prop
 | []=>True
 | t :: ts=>Sp.Tree.two t∧jIK ts
theorem jPW {k f t u:Int} {x:ByteArray} {ks:List Sp.Tree}:Sp.Tree.two (.mk k f t u x ks)↔ks.length≤2∧jIK ks:=by
 have:∀ks:List Sp.Tree,(Sp.Tree.rec_1 (motive_1:=fun _=>Prop) (motive_2:=fun _=>Prop) (fun _ _ _ _ _ ks h=>ks.length≤2∧h) True (fun _ _ h1 h2=>h1∧h2) ks:Prop)=jIK ks:=by
  intro ks;induction ks with
  | nil=>rfl
  | cons t ts ih=>show (Sp.Tree.two t∧_)=(Sp.Tree.two t∧_);rw [ih]
 show (ks.length≤2∧_)↔_;rw [this]
theorem jFU {ks:List Sp.Tree} (h:jIK ks) {i:Nat} (hi:i<ks.length):Sp.Tree.two ks[i]:=by
 induction ks generalizing i with
 | nil=>simp at hi
 | cons t ts ih =>
  cases i with
  | zero=>exact h.1
  | succ i=>exact ih h.2 (by simpa using hi)
theorem c_grow {S:NP} (p:Addr) (t:Sp.Tree):∀(s:Sl) (w:World) (L:Sp.Pool) (F:NP),Sp.Tree.two t→TreeAt S w s t→zR w p L F→Sp.Ok L→(∀b,F b→¬ S b)→(∀b,S b→b<w.heap.size) →
  Calls prog 135 #[.pointer (some p),.agg (xN t s).toArray] w
   (fun e w'=>∃r1:Int,∃r2:Int,e=.returned (.tuple #[.int .i64 r1,.int .i64 r2])∧((r1,r2)=((Sp.grow L t).1,(Sp.grow L t).2.1)∧∃F',zR w' p (Sp.grow L t).2.2 F'∧Ext F w w'∧∀b,F' b→F b∨w.heap.size≤b)):=by
 induction t using Sp.Tree.ind with
 | h k f t u x ks ih =>
 intro s w L F h2 hT hP hok hFS hSw
 suffices key:∀K:Int→Int→WP,(∀r1 r2 w',((r1,r2)=((Sp.grow L (.mk k f t u x ks)).1,(Sp.grow L (.mk k f t u x ks)).2.1)∧∃F',zR w' p (Sp.grow L (.mk k f t u x ks)).2.2 F'∧Ext F w w'∧∀b,F' b→F b∨w.heap.size≤b)→K r1 r2 w')→m_I1 (some p) k f t u x s w K from
  w_I1 _ _ _ _ _ _ _ w _ (key _ (fun _ _ _ h=>h))
 intro K hK
 obtain ⟨hk2,hall⟩:=jPW.1 h2
 unfold m_I1
 intro p2 w1 h1
 have b1:=Box.of_new h1
 have E1:Pure w w1:=Ext.new h1
 refine ⟨_,_,_,_,_,_,b1.row,?_⟩
 refine (jNM _ _ _ _ _ _ w1).mono ?_
 rintro _ w2 ⟨k',f',t',u',x',a',b',rfl,hn,E12⟩
 cases hn
 refine ⟨_,_,_,_,_,_,_,rfl,?_⟩
 intro p3 w3 h3
 have E3:Pure w w3:=(E1.trans E12).trans (Ext.new h3)
 have o3:=New.own (E1.trans E12) h3
 have n23:p2.block≠p3.block:=New.ne h3 (b1.pure E12).blk
 refine bx 7 (Box.of_new h3) rfl rfl (fun w4 b3 E34=>?_)
 have E4:Pure w w4:=E3.own o3 E34
 have b2:=((b1.pure E12).pure (Ext.new h3)).ext E34 n23
 intro p4 w5 h5
 have E5:Pure w w5:=E4.trans (Ext.new h5)
 have o4:=New.own E4 h5
 have n34:p3.block≠p4.block:=New.ne h5 b3.blk
 have c3:=b3.pure (Ext.new h5:Pure w4 w5)
 have c4:=Box.of_new h5
 have c2:=b2.pure (Ext.new h5:Pure w4 w5)
 refine ⟨s,c2.cell rfl,?_⟩
 have hsp:Sp.grow L (.mk k f t u x ks)=Sp.vB ⟨k,f,t,u,x,0,0⟩ 0 L ks:=by rw [Sp.grow]
 rw [hsp] at hK
 have hlen:s.len=ks.length:=by cases hT;assumption
 refine ⟨fun i w'=>∃j:Nat,i=j∧j≤ks.length∧∃(nd:Sp.Node) (L':Sp.Pool) (F':NP),Sp.vB ⟨k,f,t,u,x,0,0⟩ 0 L ks=Sp.vB nd j L' (ks.drop j)∧Sp.Ok L'∧zR w' p L' F'∧(∀b,F' b→F b∨w.heap.size≤b)∧¬ F' p3.block∧¬ F' p4.block∧Ext F w w'∧Box w' p3 (uR nd) 127∧Box w' p4 [.pointer (some (p3.add 5)),.pointer (some (p3.add 6))] 275,fun i _=>((ks.length:Int) - i).toNat,
  ⟨0,rfl,Nat.zero_le _,⟨k,f,t,u,x,0,0⟩,L,F,by simp,hok,hP.pure E5,fun b h=>.inl h,fun h=>by have:=hP.lt h;omega,fun h=>by have:=hP.lt h;omega,E5.pure,c3,c4⟩,?_⟩
 rintro _ wl ⟨j,rfl,hj,nd,L',F',heq,hok',hPl,hF',hn3,hn4,El,d3,d4⟩
 unfold m_I1_l1
 refine ⟨fun h=>?_,fun h=>?_⟩
 ·have hlt:j<ks.length:=by have h:=of_decide_eq_true h;omega
  have hTl:TreeAt S wl s (.mk k f t u x ks):=hT.ext El (fun b hs hf=>hFS b hf hs)
  have hkid:∀i (h:i<ks.length),∃a r,At s i 6 a∧Row wl a (xN ks[i] r)∧TreeAt S wl r ks[i]:=by
   cases hTl with
   | mk _ _ _ _ _ _ _ rs len fit row kid=>exact fun i h=>let ⟨a,h1,_,h3⟩:=row i h;⟨a,rs i,h1,h3,kid i h⟩
  obtain ⟨a,r,hat,hrow,hTk⟩:=hkid j hlt
  refine ⟨a,hat,_,_,_,_,_,r,hrow,?_⟩
  intro p5 w6 h6
  have o5:=New.own (Ext.refl wl) h6
  refine bx 6 (Box.of_new h6) rfl rfl (fun w7 b5 E67=>?_)
  have E7:Pure wl w7:=Ext.own (Ext.new h6) o5 E67
  refine ⟨_,_,_,_,_,r,b5.row,?_⟩
  have hsz:w.heap.size≤wl.heap.size:=El.size
  refine (ih j hlt r w7 L' F' (jFU hall hlt) (hTk.pure E7) (hPl.pure E7) hok' (fun b hb hs=>(hF' b hb).elim (fun h=>hFS b h hs) (fun h=>by have:=hSw b hs;omega)) (fun b hs=>by have:=hSw b hs;have:=E7.size;omega)).mono ?_
  rintro _ w8 ⟨r1,r2,rfl,hr,F8,hP8,E8,hF8⟩
  have e1:r1=(Sp.grow L' ks[j]).1:=congrArg Prod.fst hr
  have e2:r2=(Sp.grow L' ks[j]).2.1:=congrArg Prod.snd hr
  rw [List.drop_eq_getElem_cons hlt] at heq
  have hF8':∀b,F8 b→F b∨w.heap.size≤b:=fun b hb=>(hF8 b hb).elim (hF' b) (fun h=>by right;have:=E7.size;omega)
  have Ew8:Ext F w w8:=(El.thenPure E7).trans' E8 (fun i hi h=>(hF' i h).elim id (fun h=>by omega))
  refine ⟨_,_,rfl,fun h=>?_,fun h=>?_⟩
  ·have h:(Sp.grow L' ks[j]).2.1≠0:=by rw [← e2];simpa using h
   rw [jFA h] at heq
   refine hK _ _ _ ?_
   rw [heq];exact ⟨by rw [e2],F8,hP8,Ew8,hF8'⟩
  ·have h:(Sp.grow L' ks[j]).2.1=0:=by rw [← e2];simpa using h
   rw [jDG h] at heq
   have q3:=(d3.pure E7).ext E8 hn3
   have q4:=(d4.pure E7).ext E8 hn4
   have hs7:wl.heap.size≤w7.heap.size:=E7.size
   have n38:¬ F8 p3.block:=fun h=>(hF8 _ h).elim hn3 (fun h=>by have:=(d3.pure E7).lt;omega)
   have n48:¬ F8 p4.block:=fun h=>(hF8 _ h).elim hn4 (fun h=>by have:=(d4.pure E7).lt;omega)
   have hok8:=(Sp.xG ks[j] L' hok').1
   have fin : ∀ (w9 : World) (nd' : Sp.Node), nd' = (if j = 0 then { nd with a := (Sp.grow L' ks[j]).1 } else { nd with b := (Sp.grow L' ks[j]).1 }) → Box w9 p3 (uR nd') 127 → Ext (· = p3.block) w8 w9 →
     (∃j':Nat,IntKind.i64.wrap ((j:Int)+1)=j'∧j'≤ks.length∧∃(nd:Sp.Node) (L':Sp.Pool) (F':NP),Sp.vB ⟨k,f,t,u,x,0,0⟩ 0 L ks=Sp.vB nd j' L' (ks.drop j')∧Sp.Ok L'∧zR w9 p L' F'∧(∀b,F' b→F b∨w.heap.size≤b)∧¬ F' p3.block∧¬ F' p4.block∧Ext F w w9∧Box w9 p3 (uR nd) 127∧Box w9 p4 [.pointer (some (p3.add 5)),.pointer (some (p3.add 6))] 275)∧((ks.length:Int) - IntKind.i64.wrap ((j:Int)+1)).toNat<((ks.length:Int) - (j:Int)).toNat:=by
    intro w9 nd' hnd B9 E9
    rw [i64 (by omega) (by omega)]
    refine ⟨⟨j+1,by omega,hlt,nd',_,F8,by rw [heq,hnd],hok8,hP8.ext E9 (fun b hb e=>n38 (e▸hb)),hF8',n38,n48,Ew8.trans' E9 (fun i hi h=>by subst h;omega),B9,q4.ext E9 n34.symm⟩,by omega⟩
   have hj2:j=0∨j=1:=by omega
   rcases hj2 with rfl | rfl
   ·refine ⟨p4,⟨by omega,by simp,p4,rfl,rfl⟩,some (p3.add 5),q4.cell0,p3.add 5,rfl,q3.canW (by simp [uR]),?_⟩
    intro w9 hw9
    refine fin w9 _ rfl ?_ ?_
    ·rw [hw9,e1];exact q3.set 5 _
    ·rw [hw9];have:=Ext.setCell (w:=w8) (p3.add 5) (.int .i64 r1);rw [zV] at this;exact this
   ·refine ⟨p4.add 1,⟨by omega,by simp,p4,rfl,rfl⟩,some (p3.add 6),q4.cell rfl,p3.add 6,rfl,q3.canW (by simp [uR]),?_⟩
    intro w9 hw9
    refine fin w9 _ rfl ?_ ?_
    ·rw [hw9,e1];exact q3.set 6 _
    ·rw [hw9];have:=Ext.setCell (w:=w8) (p3.add 6) (.int .i64 r1);rw [zV] at this;exact this
 ·have hge:j=ks.length:=by have h:=of_decide_eq_false h;omega
  rw [hge,List.drop_length,Sp.vB] at heq
  obtain ⟨k0,f0,t0,u0,x0,a0,b0⟩:=nd
  refine ⟨_,_,_,_,_,_,_,d3.row,?_⟩
  refine (jNP p k0 f0 t0 u0 x0 a0 b0 wl hPl hok').mono ?_
  rintro _ w9 ⟨r1,r2,rfl,hr,F9,hP9,E9,hF9⟩
  have hsz:w.heap.size≤wl.heap.size:=El.size
  refine ⟨_,_,rfl,hK _ _ _ ?_⟩
  rw [heq]
  exact ⟨hr,F9,hP9,El.trans' E9 (fun i hi h=>(hF' i h).elim id (fun h=>by omega)),fun b hb=>(hF9 b hb).elim (hF' b) (fun h=>by right;omega)⟩
theorem jJF (t:Sp.Tree):∀i n:Int,(Sp.qC i n t).1=0→Sp.Tree.two t:=by
 induction t using Sp.Tree.ind with
 | h k f t u x ks ih =>
  have hA:∀(ks:List Sp.Tree),(∀i (hi:i<ks.length),∀j n:Int,(Sp.qC j n ks[i]).1=0→Sp.Tree.two ks[i])→∀i e n:Int,(Sp.vG i e n ks).1=0→e=0∧jIK ks:=by
   intro ks;induction ks with
   | nil=>intro _ i e n h;exact ⟨by simpa [Sp.vG] using h,trivial⟩
   | cons t ts iht =>
    intro hh i e n h
    unfold Sp.vG at h
    split at h
    ·rename_i he
     have:=iht (fun i hi=>hh (i+1) (by simpa using hi)) _ _ _ h
     exact ⟨he,hh 0 (by simp) i n this.1,this.2⟩
    ·rename_i he;exact absurd h he
  intro i n h
  unfold Sp.qC at h
  split at h
  ·cases h
  ·split at h
   ·cases h
   ·have:=hA ks ih _ _ _ h
    refine jPW.2 ⟨?_,this.2⟩
    have ho:=this.1
    unfold Sp.qT at ho
    simp only at ho
    have hk:=Sp.yL k
    by_cases hp:Sp.zZ ⟨k,f,t,u,x,0,0⟩=0
    ·rw [if_pos hp] at ho
     by_cases hl:(ks.length:Int)≠(Sp.shapeOf k).kids
     ·rw [if_pos hl] at ho;simp at ho
     ·omega
    ·rw [if_neg hp,if_neg hp] at ho;exact absurd ho hp
theorem c_Of {S:NP} (p:Addr) (t:Sp.Tree) (s:Sl) (w:World) {L:Sp.Pool} {F:NP} (hT:TreeAt S w s t) (hP:zR w p L F) (hok:Sp.Ok L) (hFS:∀b,F b→¬ S b) (hSw:∀b,S b→b<w.heap.size) :
  Calls prog 70 #[.pointer (some p),.agg (xN t s).toArray] w
   (fun e w'=>∃r1:Int,∃r2:Int,e=.returned (.tuple #[.int .i64 r1,.int .i64 r2])∧((r1,r2)=((Sp.of L t).1,(Sp.of L t).2.1)∧∃F',zR w' p (Sp.of L t).2.2 F'∧Ext F w w'∧∀b,F' b→F b∨w.heap.size≤b)):=by
 obtain ⟨k,f,to,u,x,ks⟩:=t
 suffices key:∀K:Int→Int→WP,(∀r1 r2 w',((r1,r2)=((Sp.of L (.mk k f to u x ks)).1,(Sp.of L (.mk k f to u x ks)).2.1)∧∃F',zR w' p (Sp.of L (.mk k f to u x ks)).2.2 F'∧Ext F w w'∧∀b,F' b→F b∨w.heap.size≤b)→K r1 r2 w')→m_E2 (some p) k f to u x s w K from
  w_E2 _ _ _ _ _ _ _ w _ (key _ (fun _ _ _ h=>h))
 intro K hK
 unfold m_E2
 intro p2 w1 h1
 have b1:=Box.of_new h1
 have E1:Pure w w1:=Ext.new h1
 refine Br.f rfl ?_
 intro p3 w2 h2
 have E2:Pure w w2:=E1.trans (Ext.new h2)
 have o3:=New.own E1 h2
 have c3:=Box.of_new h2
 have n23:p2.block≠p3.block:=New.ne h2 b1.blk
 refine ⟨c3.canW0 (by simp),?_⟩
 intro w3 hw3
 have c3':Box w3 p3 [.int .i64 0] 3:=by rw [hw3];exact c3.set0
 have E23:Ext (·=p3.block) w2 w3:=by rw [hw3];exact Ext.setCell p3 _
 clear hw3
 have E3:Pure w w3:=E2.own o3 E23
 have b3:=(b1.pure (Ext.new h2:Pure w1 w2)).ext E23 n23
 refine ⟨_,_,_,_,_,s,b3.row,?_⟩
 generalize ht:Sp.Tree.mk k f to u x ks=t at *
 have htr:(Value.agg #[.int .i64 k,.int .i64 f,.int .i64 to,.int .u64 u,.string x,s.v])=.agg (xN t s).toArray:=by rw [← ht];rfl
 rw [htr]
 refine (jWI p3 (fun h=>by have:=hSw _ h;omega) _ t s 0 0 w3 (by omega) (by omega) (hT.pure E3) c3').mono ?_
 rintro _ w4 ⟨r1,rfl,rfl,_,E34⟩
 have E4:Pure w w4:=E3.own o3 E34
 have b4:=b3.ext E34 n23
 have same:∀w',Pure w w'→∃F',zR w' p L F'∧Ext F w w'∧∀b,F' b→F b∨w.heap.size≤b:=fun w' E=>⟨F,hP.pure E,E.pure,fun _ h=>.inl h⟩
 refine ⟨_,rfl,fun h=>?_,fun h=>?_⟩
 ·have h:(Sp.qC 0 0 t).1≠0:=by simpa using h
  have:Sp.of L t=(0,(Sp.qC 0 0 t).1,L):=by rw [Sp.of,if_pos h]
  refine hK _ _ _ ?_
  rw [this];exact ⟨rfl,same _ E4⟩
 ·have h:(Sp.qC 0 0 t).1=0:=by simpa using h
  have hP4:=hP.pure E4
  obtain ⟨s0,m0,hS0,hF0⟩:=id hP4
  have hl0:s0.len=L.length:=by rw [hS0.rows.len];simp
  refine ⟨p,rfl,s0,hS0.box.cell0,_,_,_,_,_,s,b4.row,?_⟩
  rw [htr]
  refine (c_grow p t s w4 L F (jJF t _ _ h) (hT.pure E4) hP4 hok hFS (fun b hb=>by have:=hSw b hb;have:=E4.size;omega)).mono ?_
  rintro _ w5 ⟨r1,r2,rfl,hr,F5,hP5,E45,hF5⟩
  have e1:r1=(Sp.grow L t).1:=congrArg Prod.fst hr
  have e2:r2=(Sp.grow L t).2.1:=congrArg Prod.snd hr
  have hs4:w.heap.size≤w4.heap.size:=E4.size
  have E5:Ext F w w5:=E4.pure.trans E45
  have hF5':∀b,F5 b→F b∨w.heap.size≤b:=fun b hb=>(hF5 b hb).elim .inl (fun h=>.inr (by omega))
  refine ⟨_,_,rfl,fun h'=>?_,fun h'=>?_⟩
  ·have h':(Sp.grow L t).2.1≠0:=by rw [← e2];simpa using h'
   obtain ⟨hok5,M,hM⟩:=Sp.xG t L hok
   rw [hl0]
   refine (c_cut p L.length w5 hP5 hok5 (by rw [hM];simp)).mono ?_
   rintro _ w6 ⟨rfl,hP6,E56⟩
   have:Sp.of L t=(0,(Sp.grow L t).2.1,L):=by rw [Sp.of,if_neg (by simp [h]),if_pos h']
   refine ⟨rfl,hK _ _ _ ?_⟩
   rw [this]
   rw [hM,List.take_left] at hP6
   exact ⟨by rw [e2],F5,hP6,E5.trans' E56 (fun i hi h=>(hF5' i h).elim id (fun h=>by omega)),hF5'⟩
  ·have h':(Sp.grow L t).2.1=0:=by rw [← e2];simpa using h'
   have:Sp.of L t=((Sp.grow L t).1,0,(Sp.grow L t).2.2):=by rw [Sp.of,if_neg (by simp [h]),if_neg (by simp [h'])]
   refine hK _ _ _ ?_
   rw [this]
   exact ⟨by rw [e1],F5,hP5,E5,hF5'⟩
theorem jJP (s:Sp.Shape) (n:Sp.Node):Sp.zY s n≠53:=by
 unfold Sp.zY;split
 ·omega
 ·split <;> omega
theorem jQU (k f t u:Int) (x:ByteArray) (len:Nat):Sp.qT ⟨k,f,t,u,x,0,0⟩ len=(if (Sp.nodeErr ⟨k,f,t,u,x,0,0⟩≠53∧(len:Int)≠(Sp.shapeOf k).kids) then 53 else Sp.nodeErr ⟨k,f,t,u,x,0,0⟩):=by
 unfold Sp.qT Sp.nodeErr;simp only;rcases jDC ⟨k,f,t,u,x,0,0⟩ with h | h
 ·rw [h];simp
 ·rw [h];have:=jJP (Sp.shapeOf k) ⟨k,f,t,u,x,0,0⟩;by_cases h2:(len:Int)=(Sp.shapeOf k).kids <;> simp [h2,this]
theorem jFM {S:NP} (q:Addr) (hq:¬ S q.block) (T:TypeId) (t:Sp.Tree):∀(s:Sl) (inside seen:Int) (w0:World),0≤inside→0≤seen→TreeAt S w0 s t→(∀b,S b→b<w0.heap.size)→Box w0 q [.int .i64 seen] T →
  Calls prog 212 #[.agg (xN t s).toArray,.int .i64 inside,.pointer (some q)] w0
   (fun e w'=>∃r:Int,e=.returned (.int .i64 r)∧(r=(Sp.qC inside seen t).1∧Box w' q [.int .i64 (Sp.qC inside seen t).2] T∧Ext (·=q.block) w0 w')):=by
 induction t using Sp.Tree.ind with
 | h k f t u x ks ih =>
 intro s inside seen w0 hi0 hn0 hT hSw hB
 suffices key:∀K:Int→WP,(∀r w',(r=(Sp.qC inside seen (.mk k f t u x ks)).1∧Box w' q [.int .i64 (Sp.qC inside seen (.mk k f t u x ks)).2] T∧Ext (·=q.block) w0 w')→K r w')→m_W k f t u x s inside (some q) w0 K from
  w_W _ _ _ _ _ _ _ _ w0 _ (key _ (fun _ _ h=>h))
 intro K hK
 have hql:=hB.lt
 unfold m_W
 refine ⟨q,rfl,?_⟩
 intro H1 w1 hs1
 have hB1:=hB.pure hs1.first
 refine ⟨seen,hB1.cell0,?_⟩
 intro H5 w13 hs5
 have E13:=hs1.first.hst hs5
 have hB13:=hB.pure E13
 have hq0:∀{H w' H' w''},Hst w0 H w' H' w''→¬ H' q.block:=fun h hh=>by have:=h.old _ hh;omega
 unfold m_W_j1
 refine ⟨fun h=>?_,fun h=>?_⟩
 ·have : Sp.qC inside seen (.mk k f t u x ks) = (52, seen) := by
   rw [Sp.qC];simp only [Bool.or_eq_true,decide_eq_true_eq] at h;by_cases h1:4096≤seen
   ·rw [if_pos h1]
   ·rw [if_neg h1,if_pos (by omega)]
  rw [this] at hK;exact hK _ _ ⟨rfl,hB13,E13.pure⟩
 ·have h1 : ¬ 4096 ≤ seen ∧ ¬ 64 ≤ inside := by
   simp only [Bool.or_eq_false_iff,decide_eq_false_iff_not] at h;omega
  have hsp:Sp.qC inside seen (.mk k f t u x ks)=Sp.vG (inside+1) (Sp.qT ⟨k,f,t,u,x,0,0⟩ ks.length) (seen+1) ks:=by rw [Sp.qC,if_neg h1.1,if_neg h1.2]
  rw [hsp] at hK
  have hlen:s.len=ks.length:=by cases hT;assumption
  have hfit:ks.length≤9223372036854775807:=by cases hT;assumption
  refine ⟨q,rfl,seen,hB13.cell0,q,rfl,hB13.canW0 (by simp),hq0 hs5,?_⟩
  rw [i64 (n:=seen+1) (by omega) (by omega)]
  rintro w2 hw2
  have hB2:Box w2 q [.int .i64 (seen+1)] T:=by rw [hw2];exact hB13.set0
  have E2:Ext (·=q.block) w0 w2:=by rw [hw2];exact E13.pure.trans (Ext.setCell q _)
  clear hw2
  rintro y1 rfl
  have hsh:=jEM ⟨k,f,t,u,x,0,0⟩
  simp only at hsh
  rw [hsh,xC,hlen]
  have hown:cond ((Sp.nodeErr ⟨k,f,t,u,x,0,0⟩ != 53) && ((ks.length:Int) != (Sp.shapeOf k).kids)) 53 (Sp.nodeErr ⟨k,f,t,u,x,0,0⟩)=Sp.qT ⟨k,f,t,u,x,0,0⟩ ks.length:=by
   rw [jQU];by_cases h2:Sp.nodeErr ⟨k,f,t,u,x,0,0⟩=53
   ·simp [h2]
   ·by_cases h3:(ks.length:Int)=(Sp.shapeOf k).kids
    ·simp [h3]
    ·have e1:(Sp.nodeErr ⟨k,f,t,u,x,0,0⟩ != 53)=true:=by simpa using h2
     have e2:((ks.length:Int) != (Sp.shapeOf k).kids)=true:=by simpa using h3
     rw [e1,e2,if_pos ⟨h2,h3⟩];rfl
  rw [hown]
  intro H3 w10 hs3
  have E10:Ext (·=q.block) w0 w10:=E2.hst hs3
  have hB10:=hB2.ext hs3.ext (hq0 hs3)
  refine ⟨fun e i H w'=>∃j:Nat,i=j∧j≤ks.length∧∃n:Int,0≤n∧Ext (·=q.block) w0 w'∧Box w' q [.int .i64 n] T∧Sp.vG (inside+1) e n (ks.drop j)=Sp.vG (inside+1) (Sp.qT ⟨k,f,t,u,x,0,0⟩ ks.length) (seen+1) ks,fun _ i _=>((ks.length:Int) - i).toNat,⟨0,rfl,Nat.zero_le _,seen+1,by omega,E10,hB10,rfl⟩,?_⟩
  rintro e1 _ Hl wl hl ⟨j,rfl,hj,n,hn,El,hBl,heq⟩
  unfold m_W_l2
  have hTl:=hT.ext El (fun b hb e=>hq (e▸hb))
  refine ⟨fun hc=>?_,fun hc=>?_⟩
  ·simp only [Bool.and_eq_true,beq_iff_eq] at hc
   obtain ⟨he,hlt⟩:=hc
   have hlt:=uN hlen hlt
   subst he
   cases hTl with
   | mk _ _ _ _ _ _ _ rs len fit row kid =>
   obtain ⟨a,hat,ha,hr⟩:=row j hlt
   refine ⟨a,hat,?_⟩
   intro H4 w11 hs4
   have E11:=El.hst hs4
   have hT11:=hT.ext E11 (fun b hb e=>hq (e▸hb))
   have hr11:Row w11 a (xN ks[j] (rs j)):=hs4.ext.row hr (fun hh=>by have:=hs4.old _ hh;have:=hSw _ ha;omega)
   have hk11:TreeAt S w11 (rs j) ks[j]:=(kid j hlt).ext hs4.ext (fun b hb hh=>by have:=hs4.old _ hh;have:=hSw _ hb;omega)
   have hB11:=hBl.ext hs4.ext (hq0 hs4)
   refine ⟨_,_,_,_,_,rs j,hr11,?_⟩
   rw [i64 (n:=inside+1) (by omega) (by omega)]
   refine (ih j hlt (rs j) (inside+1) n w11 (by omega) hn hk11 (fun b hb=>by have:=hSw b hb;have:=E11.size;omega) hB11).mono ?_
   rintro _ w12 ⟨r,rfl,rfl,hB12,E12⟩
   refine ⟨_,rfl,E12.kept (fun b hb e=>hq0 hs4 (e▸hb)),?_⟩
   rw [vV hlt (by omega)]
   refine ⟨⟨j+1,rfl,hlt,_,jGE ks[j] (inside+1) n hn,E11.trans E12,hB12,?_⟩,jCC hlt⟩
   rw [← heq];exact (jCD hlt (inside+1) n).symm
  ·intro H4 w11 hs4
   have hfin:Sp.vG (inside+1) e1 n (ks.drop j)=(e1,n):=by
    by_cases he:e1=0
    ·have hge : j = ks.length := by
      rw [he] at hc;have hc:decide ((j:Int)<(s.len:Int))=false:=by simpa using hc
      exact xS hlen hj hc
     rw [hge,List.drop_length];rfl
    ·exact jDE he _ _
   rw [hfin] at heq
   refine hK _ _ ⟨by rw [← heq],?_,El.hst hs4⟩
   rw [← heq];exact hBl.ext hs4.ext (hq0 hs4)
theorem jHW {S:NP} (t:Sp.Tree) (s:Sl) (w0:World) (hT:TreeAt S w0 s t) (hSw:∀b,S b→b<w0.heap.size) :
  Calls prog 154 #[.agg (xN t s).toArray] w0 (fun e w'=>∃r:Int,e=.returned (.int .i64 r)∧(r=(Sp.qC 0 0 t).1∧Pure w0 w')):=by
 obtain ⟨k,f,to,u,x,ks⟩:=t
 refine w_Y2 _ _ _ _ _ _ w0 (fun r w'=>r=(Sp.qC 0 0 (.mk k f to u x ks)).1∧Pure w0 w') ?_
 unfold m_Y2
 intro H1 w1 hs1 p w2 h2
 have b2:=Box.of_new h2
 have E2:Pure w0 w2:=hs1.first.trans (Ext.new h2)
 have o2:=New.own hs1.first h2
 have hpH:¬ H1 p.block:=fun hh=>by have:=hs1.lt _ hh;have:=h2.at_size;omega
 refine ⟨b2.canW0 (by simp),hpH,?_⟩
 rintro w3 hw3
 have b3:Box w3 p [.int .i64 0] 3:=by rw [hw3];exact b2.set0
 have E3:Pure w0 w3:=by rw [hw3];exact E2.own o2 (Ext.setCell p _)
 clear hw3
 refine (jFM p (fun h=>by have:=hSw _ h;omega) _ _ s 0 0 w3 (Int.le_refl _) (Int.le_refl _) (hT.pure E3) (fun b hb=>by have:=hSw b hb;have:=E3.size;omega) b3).mono ?_
 rintro _ w4 ⟨r,rfl,rfl,_,E4⟩
 exact ⟨_,rfl,E4.kept (fun b hb e=>hpH (e▸hb)),rfl,E3.own o2 E4⟩
theorem jMA (p:Addr) (n:Nat) (w0:World) {L:Sp.Pool} {F:NP} (hP:qY w0 p L F) (hn:n≤L.length) :
  Calls prog 156 #[.pointer (some p),.int .i64 n] w0 (fun e w'=>e=.returned (.tuple #[])∧qY w' p (L.take n) F∧Ext F w0 w'):=by
 suffices key:∀K:WP,(∀w',qY w' p (L.take n) F∧Ext F w0 w'→K w')→m_C2 (some p) n w0 K from
  w_C2 _ _ w0 _ (key _ (fun _ h=>h))
 intro K hK
 unfold m_C2
 obtain ⟨s1,s2,s3,hS,hF⟩:=hP
 obtain ⟨t1,hr1,R1,hb1⟩:=Rws.hi (P:=prog) jMS hS.r1 (k:=.i64) (n:=n) (by omega) (by simpa using hn)
 refine ⟨p,rfl,s1,hS.box.cell0,t1,hr1,p,rfl,hS.box.canW0 (by simp),?_⟩
 rintro w1 hw1
 have B1:Box w1 p [t1.v,s2.v,s3.v] 52:=by rw [hw1];exact hS.box.set0
 have X1:Ext (·=p.block) w0 w1:=by rw [hw1];exact Ext.setCell p _
 clear hw1
 obtain ⟨t2,hr2,R2,hb2⟩:=Rws.hi (P:=prog) jCN (hS.r2.ext X1 (fun b hb e=>hS.n2 (e▸hb))) (k:=.i64) (n:=n) (by omega) (by simpa using hn)
 refine ⟨p,rfl,s2,B1.cell rfl,t2,hr2,p,rfl,B1.canW (by simp),?_⟩
 rintro w2 hw2
 have B2:Box w2 p [t1.v,t2.v,s3.v] 52:=by rw [hw2];exact B1.set 1 _
 have X2:Ext (·=p.block) w1 w2:=by rw [hw2];have:=Ext.setCell (w:=w1) (p.add 1) t2.v;rw [zV] at this;exact this
 clear hw2
 obtain ⟨t3,hr3,R3,hb3⟩:=Rws.hi (P:=prog) jCN (hS.r3.ext (X1.trans X2) (fun b hb e=>hS.n3 (e▸hb))) (k:=.i64) (n:=n) (by omega) (by simpa using hn)
 refine ⟨p,rfl,s3,B2.cell rfl,t3,hr3,p,rfl,B2.canW (by simp),?_⟩
 rintro w3 hw3
 have B3:Box w3 p [t1.v,t2.v,t3.v] 52:=by rw [hw3];exact B2.set 2 _
 have X3:Ext (·=p.block) w2 w3:=by rw [hw3];have:=Ext.setCell (w:=w2) (p.add 2) t3.v;rw [zV] at this;exact this
 clear hw3
 have E:=(X1.trans X2).trans X3
 refine hK _ ⟨⟨t1,t2,t3,⟨B3,?_,?_,?_,fun h=>hS.n1 ((hb1 _).1 h),fun h=>hS.n2 ((hb2 _).1 h),fun h=>hS.n3 ((hb3 _).1 h),fun b h1 h2=>hS.d12 b ((hb1 b).1 h1) ((hb2 b).1 h2),fun b h1 h2=>hS.d13 b ((hb1 b).1 h1) ((hb3 b).1 h2),fun b h1 h2=>hS.d23 b ((hb2 b).1 h1) ((hb3 b).1 h2)⟩,fun b=>by rw [hF b,hb1 b,hb2 b,hb3 b]⟩,E.mono (fun i _ h=>(hF i).2 (.inl h))⟩
 ·have:=R1.ext E (fun b hb e=>hS.n1 ((hb1 _).1 (e▸hb)))
  rw [List.map_take];simpa using this
 ·have:=R2.ext (X2.trans X3) (fun b hb e=>hS.n2 ((hb2 _).1 (e▸hb)))
  rw [List.map_take];simpa using this
 ·have:=R3.ext X3 (fun b hb e=>hS.n3 ((hb3 _).1 (e▸hb)))
  rw [List.map_take];simpa using this
theorem jKB {S:NP} (p:Addr) (t:Sp.Tree):∀(s:Sl) (w0:World) (L:Sp.Pool) (F:NP),Sp.Tree.two t→TreeAt S w0 s t→qY w0 p L F→Sp.Ok L→(∀b,F b→¬ S b)→(∀b,S b→b<w0.heap.size) →
  Calls prog 155 #[.pointer (some p),.agg (xN t s).toArray] w0
   (fun e w'=>∃r1:Int,∃r2:Int,e=.returned (.tuple #[.int .i64 r1,.int .i64 r2])∧((r1,r2)=((Sp.grow L t).1,(Sp.grow L t).2.1)∧∃F',qY w' p (Sp.grow L t).2.2 F'∧Ext F w0 w'∧∀b,F' b→F b∨w0.heap.size≤b)):=by
 induction t using Sp.Tree.ind with
 | h k f t u x ks ih =>
 intro s w0 L F h2 hT hP hok hFS hSw
 suffices key:∀K:Int→Int→WP,(∀r1 r2 w',((r1,r2)=((Sp.grow L (.mk k f t u x ks)).1,(Sp.grow L (.mk k f t u x ks)).2.1)∧∃F',qY w' p (Sp.grow L (.mk k f t u x ks)).2.2 F'∧Ext F w0 w'∧∀b,F' b→F b∨w0.heap.size≤b)→K r1 r2 w')→m_G1 (some p) k f t u x s w0 K from
  w_G1 _ _ _ _ _ _ _ w0 _ (key _ (fun _ _ _ h=>h))
 intro K hK
 obtain ⟨hk2,hall⟩:=jPW.1 h2
 have hsp:Sp.grow L (.mk k f t u x ks)=Sp.vB ⟨k,f,t,u,x,0,0⟩ 0 L ks:=by rw [Sp.grow]
 rw [hsp] at hK
 have hlen:s.len=ks.length:=by cases hT;assumption
 unfold m_G1
 intro H2 w4 hs4
 refine ⟨fun i a1 a2 a3 a4 a5 a6 a7 H w'=>∃j:Nat,i=j∧j≤ks.length∧∃(L':Sp.Pool) (F':NP),Sp.vB ⟨k,f,t,u,x,0,0⟩ 0 L ks=Sp.vB ⟨a1,a2,a3,a4,a5,a6,a7⟩ j L' (ks.drop j)∧Sp.Ok L'∧qY w' p L' F'∧(∀b,F' b→F b∨w0.heap.size≤b)∧(∀b,F' b→¬ H b)∧Ext F w0 w',fun i _ _ _ _ _ _ _ _=>((ks.length:Int) - i).toNat,
  ⟨0,rfl,Nat.zero_le _,L,F,by simp,hok,hP.pure hs4.first,fun b h=>.inl h,hs4.disj0 (fun b hb=>hP.lt hb),hs4.first.pure⟩,?_⟩
 rintro _ a1 a2 a3 a4 a5 a6 a7 Hl wl hl ⟨j,rfl,hj,L',F',heq,hok',hPl,hF',hv,El⟩
 unfold m_G1_l1
 refine ⟨fun h=>?_,fun h=>?_⟩
 ·have hlt:=uN hlen h
  have hTl:TreeAt S wl s (.mk k f t u x ks):=hT.ext El (fun b hs hf=>hFS b hf hs)
  have hkid:∃a r,At s j 6 a∧Row wl a (xN ks[j] r)∧TreeAt S wl r ks[j]:=by
   cases hTl with
   | mk _ _ _ _ _ _ _ rs len fit row kid=>exact let ⟨a,h1,_,h3⟩:=row j hlt;⟨a,rs j,h1,h3,kid j hlt⟩
  obtain ⟨a,r,hat,hrow,hTk⟩:=hkid
  refine ⟨a,hat,_,_,_,_,_,r,hrow,?_⟩
  have hsz:w0.heap.size≤wl.heap.size:=El.size
  refine (ih j hlt r wl L' F' (jFU hall hlt) hTk hPl hok' (fun b hb hs=>(hF' b hb).elim (fun h=>hFS b h hs) (fun h=>by have:=hSw b hs;omega)) (fun b hs=>by have:=hSw b hs;omega)).mono ?_
  rintro _ w8 ⟨r1,r2,rfl,hr,F8,hP8,E8,hF8⟩
  have e1:r1=(Sp.grow L' ks[j]).1:=congrArg Prod.fst hr
  have e2:r2=(Sp.grow L' ks[j]).2.1:=congrArg Prod.snd hr
  rw [List.drop_eq_getElem_cons hlt] at heq
  have hF8':∀b,F8 b→F b∨w0.heap.size≤b:=fun b hb=>(hF8 b hb).elim (hF' b) (fun h=>by right;omega)
  have Ew8:Ext F w0 w8:=El.trans' E8 (fun i hi h=>(hF' i h).elim id (fun h=>by omega))
  refine ⟨_,_,rfl,E8.kept (fun b hH hF=>hv b hF hH),fun h=>?_,fun h=>?_⟩
  ·have h:(Sp.grow L' ks[j]).2.1≠0:=by rw [← e2];simpa using h
   rw [jFA h] at heq
   refine hK _ _ _ ?_
   rw [heq];exact ⟨by rw [e2],F8,hP8,Ew8,hF8'⟩
  ·have h:(Sp.grow L' ks[j]).2.1=0:=by rw [← e2];simpa using h
   rw [jDG h] at heq
   intro H3 w9 hs9
   have hv8:∀b,F8 b→¬ Hl b:=fun b hb hH=>(hF8 b hb).elim (fun h=>hv b h hH) (fun h=>by have:=hl.lt b hH;omega)
   have hv9:∀b,F8 b→¬ H3 b:=hs9.disj (fun b hb=>⟨hP8.lt hb,hv8 b hb⟩)
   rw [vV hlt (by omega)]
   refine ⟨⟨j+1,rfl,hlt,_,F8,?_,(Sp.xG ks[j] L' hok').1,hP8.ext hs9.ext hv9,hF8',hv9,Ew8.hst hs9⟩,jCC hlt⟩
   rw [heq,e1]
   have hj0:(((j:Int)) == 0)=decide (j=0):=by rw [Bool.eq_iff_iff];simp
   rw [hj0]
   by_cases hj0':j=0
   ·subst hj0';rfl
   ·simp [hj0']
 ·have hge:=xS hlen hj h
  rw [hge,List.drop_length,Sp.vB] at heq
  refine (jKD p ⟨a1,a2,a3,a4,a5,a6,a7⟩ wl hPl hok').mono ?_
  rintro _ w9 ⟨r1,r2,rfl,hr,F9,hP9,E9,hF9⟩
  have hsz:w0.heap.size≤wl.heap.size:=El.size
  refine ⟨_,_,rfl,E9.kept (fun b hH hF=>hv b hF hH),hK _ _ _ ?_⟩
  rw [heq]
  exact ⟨hr,F9,hP9,El.trans' E9 (fun i hi h=>(hF' i h).elim id (fun h=>by omega)),fun b hb=>(hF9 b hb).elim (hF' b) (fun h=>by right;omega)⟩
theorem jHM (t:Sp.Tree):∀L,(Sp.grow L t).2.1≠0→(Sp.grow L t).1=0:=by
 induction t using Sp.Tree.ind with
 | h k f t u x ks ih =>
  have hmk:∀L n,(Sp.make L n).2.1≠0→(Sp.make L n).1=0:=by
   intro L n h;unfold Sp.make at h ⊢;simp only at h ⊢;split at h
   ·rename_i h1;rw [if_pos h1]
   ·rename_i h1;rw [if_neg h1];split at h
    ·rename_i hf;exact absurd rfl h
    ·split at h
     ·rename_i h2;simp [h2]
     ·exact absurd rfl h
  have:∀(ks:List Sp.Tree),(∀i (hi:i<ks.length),∀L,(Sp.grow L ks[i]).2.1≠0→(Sp.grow L ks[i]).1=0)→∀n i L,(Sp.vB n i L ks).2.1≠0→(Sp.vB n i L ks).1=0:=by
   intro ks;induction ks with
   | nil=>intro _ n i L h;unfold Sp.vB at h ⊢;exact hmk L n h
   | cons t ts iht =>
    intro hh n i L h
    unfold Sp.vB at h ⊢
    split at h
    ·rename_i h1;rw [if_pos h1]
    ·rename_i h1;rw [if_neg h1];exact iht (fun i hi=>hh (i+1) (by simpa using hi)) _ _ _ h
  intro L h
  unfold Sp.grow at h ⊢
  exact this ks ih _ _ L h
theorem jPB {S:NP} (p:Addr) (t:Sp.Tree) (s:Sl) (w0:World) {L:Sp.Pool} {F:NP} (hT:TreeAt S w0 s t) (hP:qY w0 p L F) (hok:Sp.Ok L) (hFS:∀b,F b→¬ S b) (hSw:∀b,S b→b<w0.heap.size) :
  Calls prog 100 #[.pointer (some p),.agg (xN t s).toArray] w0
   (fun e w'=>∃r1:Int,∃r2:Int,e=.returned (.tuple #[.int .i64 r1,.int .i64 r2])∧((r1,r2)=((Sp.of L t).1,(Sp.of L t).2.1)∧∃F',qY w' p (Sp.of L t).2.2 F'∧Ext F w0 w'∧∀b,F' b→F b∨w0.heap.size≤b)):=by
 obtain ⟨k,f,to,u,x,ks⟩:=t
 suffices key:∀K:Int→Int→WP,(∀r1 r2 w',((r1,r2)=((Sp.of L (.mk k f to u x ks)).1,(Sp.of L (.mk k f to u x ks)).2.1)∧∃F',qY w' p (Sp.of L (.mk k f to u x ks)).2.2 F'∧Ext F w0 w'∧∀b,F' b→F b∨w0.heap.size≤b)→K r1 r2 w')→m_D2 (some p) k f to u x s w0 K from
  w_D2 _ _ _ _ _ _ _ w0 _ (key _ (fun _ _ _ h=>h))
 intro K hK
 unfold m_D2
 intro H1 w1 hs1
 have E1:=hs1.first
 generalize ht:Sp.Tree.mk k f to u x ks=t at *
 have htr:(Value.agg #[.int .i64 k,.int .i64 f,.int .i64 to,.int .u64 u,.string x,s.v])=.agg (xN t s).toArray:=by rw [← ht];rfl
 rw [htr]
 refine (jHW t s w1 (hT.pure E1) (fun b hb=>by have:=hSw b hb;have:=E1.size;omega)).mono ?_
 rintro _ w2 ⟨r1,rfl,rfl,E2⟩
 have E12:=E1.trans E2
 refine ⟨_,rfl,E2.keptP,fun h=>?_,fun h=>?_⟩
 ·have h:(Sp.qC 0 0 t).1≠0:=by simpa using h
  have:Sp.of L t=(0,(Sp.qC 0 0 t).1,L):=by rw [Sp.of,if_pos h]
  refine hK _ _ _ ?_
  rw [this];exact ⟨rfl,F,hP.pure E12,E12.pure,fun _ h=>.inl h⟩
 ·have h:(Sp.qC 0 0 t).1=0:=by simpa using h
  have hP2:=hP.pure E12
  have hv:∀b,F b→¬ H1 b:=hs1.disj0 (fun b hb=>hP.lt hb)
  obtain ⟨s1,s2,s3,hS,hF0⟩:=id hP2
  have hl0:s1.len=L.length:=by rw [hS.r1.len];simp
  refine ⟨p,rfl,s1,hS.box.cell0,?_⟩
  refine (jKB p t s w2 L F (jJF t _ _ h) (hT.pure E12) hP2 hok hFS (fun b hb=>by have:=hSw b hb;have:=E12.size;omega)).mono ?_
  rintro _ w5 ⟨r1,r2,rfl,hr,F5,hP5,E5,hF5⟩
  have e1:r1=(Sp.grow L t).1:=congrArg Prod.fst hr
  have e2:r2=(Sp.grow L t).2.1:=congrArg Prod.snd hr
  have hs4:w0.heap.size≤w2.heap.size:=E12.size
  have E05:Ext F w0 w5:=E12.pure.trans E5
  have hF5':∀b,F5 b→F b∨w0.heap.size≤b:=fun b hb=>(hF5 b hb).elim .inl (fun h=>.inr (by omega))
  have hs2:=hs1.again E2.keptP
  have hv5:∀b,F5 b→¬ H1 b:=fun b hb hH=>(hF5 b hb).elim (fun h=>hv b h hH) (fun h=>by have:=hs2.lt b hH;omega)
  refine ⟨_,_,rfl,E5.kept (fun b hH hF=>hv b hF hH),fun h'=>?_,fun h'=>?_⟩
  ·have h':(Sp.grow L t).2.1≠0:=by rw [← e2];simpa using h'
   obtain ⟨hok5,M,hM⟩:=Sp.xG t L hok
   rw [hl0]
   refine (jMA p L.length w5 hP5 (by rw [hM];simp)).mono ?_
   rintro _ w6 ⟨rfl,hP6,E6⟩
   have:Sp.of L t=(0,(Sp.grow L t).2.1,L):=by rw [Sp.of,if_neg (by simp [h]),if_pos h']
   refine ⟨rfl,E6.kept (fun b hH hF=>hv5 b hF hH),hK _ _ _ ?_⟩
   rw [this]
   rw [hM,List.take_left] at hP6
   exact ⟨by rw [e1,e2,jHM t L h'],F5,hP6,E05.trans' E6 (fun i hi h=>(hF5' i h).elim id (fun h=>by omega)),hF5'⟩
  ·have h':(Sp.grow L t).2.1=0:=by rw [← e2];simpa using h'
   have:Sp.of L t=((Sp.grow L t).1,0,(Sp.grow L t).2.2):=by rw [Sp.of,if_neg (by simp [h]),if_neg (by simp [h'])]
   refine hK _ _ _ ?_
   rw [this]
   exact ⟨by rw [e1,e2,h'],F5,hP5,E05,hF5'⟩
end Go.Proofs
end
section
namespace Go.Sp
theorem jCF {L:Pool} {n:Node} {i:Nat} (h:find L n=some i):∃hi:i<L.length,L[i].node=n:=by
 unfold find at h;rw [List.findIdx?_eq_some_iff_getElem] at h;obtain ⟨hi,h1,_⟩:=h;exact ⟨hi,by simpa using h1⟩
theorem lQ {L:Pool} {n:Node} (h:(make L n).2.1=0):inP (make L n).2.2 (make L n).1=true∧nodeOf (make L n).2.2 (make L n).1=n∧(check L n).2.2=0:=by
 unfold make at h ⊢;simp only at h ⊢;by_cases hc:(check L n).2.2≠0
 ·rw [if_pos hc] at h;exact absurd h hc
 ·rw [if_neg hc] at h ⊢;have hc:(check L n).2.2=0:=by simpa using hc
  cases hf:find L n with
  | some i =>
   obtain ⟨hi,hn⟩:=jCF hf
   simp only
   exact ⟨zX.2 ⟨by omega,by omega⟩,by rw [qB hi,hn],hc⟩
  | none =>
   rw [hf] at h
   simp only at h ⊢
   split at h
   ·simp at h
   ·rename_i hl
    rw [if_neg hl]
    simp only
    have hi:L.length<(L++[(⟨n,(check L n).1,(check L n).2.1⟩:Ent)]).length:=by simp
    refine ⟨zX.2 ⟨by omega,by simp⟩,?_,hc⟩
    rw [qB hi]
    simp
theorem lD (L:Pool) (n:Node):∃M,(make L n).2.2=L++M:=jGD L n
inductive Good:Tree→Prop
 | mk (k f t u:Int) (x:ByteArray) (ks:List Tree) (own:qT ⟨k,f,t,u,x,0,0⟩ ks.length=0) (kids:∀i (hi:i<ks.length),Good ks[i]):Good (.mk k f t u x ks)
theorem jOR (t:Tree):∀i n:Int,(qC i n t).1=0→Good t:=by
 induction t using Tree.ind with
 | h k f t u x ks ih =>
  have hA:∀(ks:List Tree),(∀i (hi:i<ks.length),∀j n:Int,(qC j n ks[i]).1=0→Good ks[i])→∀i e n:Int,(vG i e n ks).1=0→e=0∧∀i (hi:i<ks.length),Good ks[i]:=by
   intro ks;induction ks with
   | nil=>intro _ i e n h;exact ⟨by simpa [vG] using h,fun i hi=>by simp at hi⟩
   | cons t ts iht =>
    intro hh i e n h
    unfold vG at h
    split at h
    ·rename_i he
     have:=iht (fun i hi=>hh (i+1) (by simpa using hi)) _ _ _ h
     refine ⟨he,fun j hj=>?_⟩
     cases j with
     | zero=>exact hh 0 (by simp) i n this.1
     | succ j=>exact this.2 j (by simpa using hj)
    ·rename_i he;exact absurd h he
  intro i n h
  unfold qC at h
  split at h
  ·cases h
  ·split at h
   ·cases h
   ·have:=hA ks ih _ _ _ h
    exact .mk _ _ _ _ _ _ this.1 this.2
theorem Good.inv {k f t u:Int} {x:ByteArray} {ks:List Tree} (h:Good (.mk k f t u x ks)):zZ ⟨k,f,t,u,x,0,0⟩=0∧(ks.length:Int)=(shapeOf k).kids∧zY (shapeOf k) ⟨k,f,t,u,x,0,0⟩=0∧∀i (hi:i<ks.length),Good ks[i]:=by
 cases h with
 | mk _ _ _ _ _ _ own kids =>
  unfold qT at own
  simp only at own
  by_cases hp:zZ ⟨k,f,t,u,x,0,0⟩=0
  ·rw [if_pos hp] at own
   by_cases hl:(ks.length:Int)≠(shapeOf k).kids
   ·rw [if_pos hl] at own;simp at own
   ·rw [if_neg hl] at own
    simp at own
    exact ⟨hp,by simpa using hl,own,kids⟩
  ·rw [if_neg hp,if_neg hp] at own;exact absurd own hp
theorem jRQ (x:Tree):∀L,Wf L→Good x→(grow L x).2.1=0→inP (grow L x).2.2 (grow L x).1=true∧zD (grow L x).2.2 (grow L x).1=x:=by
 induction x using Tree.ind with
 | h k f t u x ks ih =>
  intro L hW hG h0
  obtain ⟨_,hlen,_,hk⟩:=hG.inv
  have fin:∀(n:Node) (L':Pool),Wf L'→n.kind=k→n.frm=f→n.to=t→n.num=u→n.text=x→(make L' n).2.1=0→(zG n).map (zD L')=ks→inP (make L' n).2.2 (make L' n).1=true∧zD (make L' n).2.2 (make L' n).1=.mk k f t u x ks:=by
   intro n L' hW' e1 e2 e3 e4 e5 hm hks;obtain ⟨hin,hnode,hc⟩:=lQ hm;refine ⟨hin,?_⟩;rw [vS (lJ hW' n) hin,hnode,e1,e2,e3,e4,e5,← hks];congr 1;refine List.map_congr_left (fun q hq=>?_);obtain ⟨M,hM⟩:=lD L' n;have hq':=(jGL hc).2.2.2.2.1 q hq;rw [hM];have hwf:=lJ hW' n;rw [hM] at hwf;exact lL hwf _ q rfl hq'
  rw [grow] at h0 ⊢
  match ks,ih,hlen,hk,fin,h0 with
  | [],_,hlen,_,fin,h0 =>
   rw [vB] at h0 ⊢
   have hz:(shapeOf k).kids=0:=by simpa using hlen.symm
   exact fin _ L hW rfl rfl rfl rfl rfl h0 (by simp [zG,hz])
  | [a],ih,hlen,hk,fin,h0 =>
   have hz:(shapeOf k).kids=1:=by simpa using hlen.symm
   rw [vB] at h0 ⊢
   by_cases ha:(grow L a).2.1≠0
   ·rw [if_pos ha] at h0;exact absurd h0 ha
   ·rw [if_neg ha] at h0 ⊢
    have ha:(grow L a).2.1=0:=by simpa using ha
    obtain ⟨i1,t1⟩:=ih 0 (by simp) L hW (hk 0 (by simp)) ha
    simp only [List.getElem_cons_zero] at i1 t1
    rw [vB] at h0 ⊢
    exact fin _ _ (jHL a L hW) rfl rfl rfl rfl rfl h0 (by simp [zG,hz,t1])
  | [a,b],ih,hlen,hk,fin,h0 =>
   have hz:(shapeOf k).kids=2:=by simpa using hlen.symm
   rw [vB] at h0 ⊢
   by_cases ha:(grow L a).2.1≠0
   ·rw [if_pos ha] at h0;exact absurd h0 ha
   ·rw [if_neg ha] at h0 ⊢
    have ha:(grow L a).2.1=0:=by simpa using ha
    have hW1:=jHL a L hW
    obtain ⟨i1,t1⟩:=ih 0 (by simp) L hW (hk 0 (by simp)) ha
    simp only [List.getElem_cons_zero] at i1 t1
    rw [vB] at h0 ⊢
    by_cases hb:(grow (grow L a).2.2 b).2.1≠0
    ·rw [if_pos hb] at h0;exact absurd h0 hb
    ·rw [if_neg hb] at h0 ⊢
     have hb:(grow (grow L a).2.2 b).2.1=0:=by simpa using hb
     have hW2:=jHL b _ hW1
     obtain ⟨i2,t2⟩:=ih 1 (by simp) (grow L a).2.2 hW1 (hk 1 (by simp)) hb
     simp only [List.getElem_cons_succ,List.getElem_cons_zero] at i2 t2
     obtain ⟨M,hM⟩:=(xG b (grow L a).2.2 hW1.ok).2
     have t1':zD (grow (grow L a).2.2 b).2.2 (grow L a).1=a:=by
      rw [hM] at hW2 ⊢;exact (lL hW2 _ _ rfl i1).trans t1
     rw [vB] at h0 ⊢
     exact fin _ _ hW2 rfl rfl rfl rfl rfl h0 (by simp [zG,hz,t1',t2])
  | a :: b :: c :: ks,_,hlen,_,_,_ =>
   have:=yL k
   simp only [List.length_cons] at hlen
   omega
theorem jQX {L:Pool} (hW:Wf L) {x:Tree} (h:(of L x).2.1=0):inP (of L x).2.2 (of L x).1=true∧zD (of L x).2.2 (of L x).1=x∧Good x:=by
 unfold of at h ⊢;by_cases h1:(qC 0 0 x).1≠0
 ·rw [if_pos h1] at h;exact absurd h h1
 ·rw [if_neg h1] at h ⊢;have hg:=jOR x 0 0 (by simpa using h1);by_cases h2:(grow L x).2.1≠0
  ·rw [if_pos h2] at h;exact absurd h h2
  ·rw [if_neg h2] at h ⊢;have:=jRQ x L hW hg (by simpa using h2);exact ⟨this.1,this.2,hg⟩
theorem xB {L:Pool} (hW:Wf L):∀(n:Nat) (s t:Int),s.toNat+t.toNat=n→inP L s=true→inP L t=true→zD L s=zD L t→s=t:=by
 intro n;induction n using Nat.strongRecOn with
 | _ n ih =>
  intro s t hn hs ht he
  rw [vS hW hs,vS hW ht] at he
  injection he with e1 e2 e3 e4 e5 e6
  obtain ⟨i,hi,rfl⟩:=tA hs
  obtain ⟨j,hj,rfl⟩:=tA ht
  have hki:=(hW.node hs)
  have hkj:=(hW.node ht)
  rw [qB hi] at e1 e2 e3 e4 e5 e6 hki
  rw [qB hj] at e1 e2 e3 e4 e5 e6 hkj
  generalize hni:L[i].node=ni at *
  generalize hnj:L[j].node=nj at *
  have hsame:∀a∈zG ni,∀b∈zG nj,zD L a=zD L b→a=b:=by
   intro a ha b hb hab;have h1:=hki.2.2.2.2.1 a ha;have h2:=hkj.2.2.2.2.1 b hb;have p1:=zX.1 h1.1;have p2:=zX.1 h2.1;exact ih (a.toNat+b.toNat) (by omega) a b rfl h1.1 h2.1 hab
  have hab:ni.a=nj.a∧ni.b=nj.b:=by
   have z1:=hki.2.1;have z2:=hki.2.2.1;have z3:=hkj.2.1;have z4:=hkj.2.2.1;unfold zG at e6 hsame;rw [← e1] at e6 hsame z3 z4;rcases yL ni.kind with h | h | h <;> rw [h] at e6 hsame z1 z2 z3 z4
   ·exact ⟨by rw [z1 (by omega),z3 (by omega)],by rw [z2 (by omega),z4 (by omega)]⟩
   ·simp at e6 hsame;exact ⟨hsame e6,by rw [z2 (by omega),z4 (by omega)]⟩
   ·simp at e6 hsame;exact ⟨hsame.1.1 e6.1,hsame.2.2 e6.2⟩
  have hnn:L[i].node=L[j].node:=by
   rw [hni,hnj];obtain ⟨_,_,_,_,_,_,_⟩:=ni;obtain ⟨_,_,_,_,_,_,_⟩:=nj;simp at e1 e2 e3 e4 e5 hab;simp [e1,e2,e3,e4,e5,hab]
  have:=List.pairwise_iff_getElem.1 hW.ok.nodup
  have hij:i=j:=by
   rcases Nat.lt_trichotomy i j with h | h | h
   ·exact absurd (by rw [List.getElem_map,List.getElem_map];exact hnn) (this i j (by simpa using hi) (by simpa using hj) h)
   ·exact h
   ·exact absurd (by rw [List.getElem_map,List.getElem_map];exact hnn.symm) (this j i (by simpa using hj) (by simpa using hi) h)
  rw [hij]
end Go.Sp
end
section
namespace Go.Sp
mutual
def cnt:Tree→Nat
 | .mk _ _ _ _ _ ks=>1+jUV ks
def jUV:List Tree→Nat
 | []=>0
 | t :: ts=>cnt t+jUV ts
end
mutual
def parts (most:Int):Tree→Int
 | .mk _ _ _ _ _ ks=>jNA most 1 ks
def jNA (most n:Int):List Tree→Int
 | []=>n
 | t :: ts=>if n≤most then jNA most (n+parts (most - n) t) ts else n
end
mutual
def same:Tree→Tree→Bool
 | .mk k f t u x ks,.mk k' f' t' u' x' ks'=>decide (k=k') && decide (f=f') && decide (t=t') && decide (u=u') && decide (x=x') && jQE ks ks'
def jQE:List Tree→List Tree→Bool
 | [],[]=>true
 | t :: ts,t' :: ts'=>same t t' && jQE ts ts'
 | _,_=>false
end
end Go.Sp
end
section
open Go Go.SE
namespace Go.Proofs
attribute [local irreducible] Calls
theorem TreeAt.hst {S:NP} {w0 w w':World} {H H':NP} {s:Sl} {t:Sp.Tree} (h:TreeAt S w s t) (hs:Hst w0 H w H' w') (hd:∀b,S b→b<w.heap.size∧¬ H b):TreeAt S w' s t :=
 h.ext hs.ext (fun b hb hh=>hs.disj (G:=S) hd b hb hh)
end Go.Proofs
end
section
open Go Go.SE
open Go.IntKind renaming i64 → q6
namespace Go.Proofs
open Tryz
set_option maxRecDepth 100000
set_option maxHeartbeats 4000000
attribute [local irreducible] wpL wpX opE wpE Calls
def m_I2 (gB gC gD:Int) (gE:ByteArray) (gF first1 second1:Bool) (w:World) (K:Int→Int→Int→Int→ByteArray→Sl→WP):Prop :=∀(p1:Addr) (w1:World),New w (.cells #[(vi gB),(vi gC),(vu gD),(vs gE),(vb gF)] 30) p1 w1→∀(p2:Addr) (w2:World),New w1 (.cells #[(vi 0),(vi 0),(vi 0),(vu 0),ve,Sl.nil.v] 76) p2 w2→∃v1:Int,w2.cell? (p1.add 2)=some (vu v1)∧∃v2:ByteArray,w2.cell? (p1.add 3)=some (vs v2)∧Calls prog 86 #[(vu v1),(vs v2)] w2 (fun e w3=>∃aE aF:Int,∃aG aD:Int,∃aH:ByteArray,∃bK:Sl,e=.returned (.agg #[(vi aE),(vi aF),(vi aG),(vu aD),(vs aH),bK.v])∧∀(p3:Addr) (w4:World),New w3 (.cells #[(vi 0),(vi 0),(vi 0),(vu 0),ve,Sl.nil.v] 76) p3 w4→(∀j,j<6→CanW w4 (p3.add j))∧∀w5:World,w5=storeRow w4 p3 [(vi aE),(vi aF),(vi aG),(vu aD),(vs aH),bK.v]→∃v3:Int,w5.cell? p1=some (vi v3)∧Br (v3 == 1) (∃v4:Int,w5.cell? (p1.add 1)=some (vi v4)∧∃aL aM:Int,∃aR aS:Int,∃aN:ByteArray,∃bA:Sl,Row w5 p3 [(vi aL),(vi aM),(vi aR),(vu aS),(vs aN),bA.v]∧∃v5:Bool,w5.cell? (p1.add 4)=some (vb v5)∧Calls prog 87 #[(vi v4),(.agg #[(vi aL),(vi aM),(vi aR),(vu aS),(vs aN),bA.v]),(vb v5)] w5 (fun e w6=>∃bB bC:Int,∃bL aT:Int,∃aX:ByteArray,∃eX:Sl,e=.returned (.agg #[(vi bB),(vi bC),(vi bL),(vu aT),(vs aX),eX.v])∧(∀j,j<6→CanW w6 (p2.add j))∧∀w7:World,w7=storeRow w6 p2 [(vi bB),(vi bC),(vi bL),(vu aT),(vs aX),eX.v]→∃aA aB:Int,∃aI aJ:Int,∃aC:ByteArray,∃aK:Sl,Row w7 p2 [(vi aA),(vi aB),(vi aI),(vu aJ),(vs aC),aK.v]∧K aA aB aI aJ aC aK w7)) (Br (v3 == 2) (∃v6:Int,w5.cell? (p1.add 1)=some (vi v6)∧∃bD bE:Int,∃bO bP:Int,∃bF:ByteArray,∃bQ:Sl,Row w5 p3 [(vi bD),(vi bE),(vi bO),(vu bP),(vs bF),bQ.v]∧Calls prog 88 #[(vi v6),(.agg #[(vi bD),(vi bE),(vi bO),(vu bP),(vs bF),bQ.v])] w5 (fun e w8=>∃bR bS:Int,∃cW cX:Int,∃bG:ByteArray,∃eY:Sl,e=.returned (.agg #[(vi bR),(vi bS),(vi cW),(vu cX),(vs bG),eY.v])∧(∀j,j<6→CanW w8 (p2.add j))∧∀w9:World,w9=storeRow w8 p2 [(vi bR),(vi bS),(vi cW),(vu cX),(vs bG),eY.v]→∃aO aP:Int,∃bT bU:Int,∃aQ:ByteArray,∃dD:Sl,Row w9 p2 [(vi aO),(vi aP),(vi bT),(vu bU),(vs aQ),dD.v]∧K aO aP bT bU aQ dD w9)) (Br (v3 == 3) (∃C1:WP,C1 w5.drew∧∀w10,w10=w5.drew→∃v7:Int,(∀w',C1 w'→w'.cell? (p1.add 2)=some (vu v7))∧Calls prog 90 #[(vs (⟨#[97,98,111,114,116]⟩:ByteArray))] w10 (fun e w11=>∃bH bI:Int,∃fU fV:Int,∃bJ:ByteArray,∃fW:Sl,e=.returned (.agg #[(vi bH),(vi bI),(vi fU),(vu fV),(vs bJ),fW.v])∧C1 w11∧Calls prog 91 #[(vu v7)] w11 (fun e w12=>∃cT cU:Int,∃eZ fA:Int,∃cV:ByteArray,∃fB:Sl,e=.returned (.agg #[(vi cT),(vi cU),(vi eZ),(vu fA),(vs cV),fB.v])∧Calls prog 89 #[(.agg #[(vi bH),(vi bI),(vi fU),(vu fV),(vs bJ),fW.v]),(.agg #[(vi cT),(vi cU),(vi eZ),(vu fA),(vs cV),fB.v])] w12 (fun e w13=>∃dU dV:Int,∃gG gH:Int,∃dW:ByteArray,∃gI:Sl,e=.returned (.agg #[(vi dU),(vi dV),(vi gG),(vu gH),(vs dW),gI.v])∧Calls prog 88 #[(vi 0),(.agg #[(vi dU),(vi dV),(vi gG),(vu gH),(vs dW),gI.v])] w13 (fun e w14=>∃eI eJ:Int,∃jF jG:Int,∃eK:ByteArray,∃jH:Sl,e=.returned (.agg #[(vi eI),(vi eJ),(vi jF),(vu jG),(vs eK),jH.v])∧(∀j,j<6→CanW w14 (p2.add j))∧∀w15:World,w15=storeRow w14 p2 [(vi eI),(vi eJ),(vi jF),(vu jG),(vs eK),jH.v]→∃aU aV:Int,∃dE dF:Int,∃aW:ByteArray,∃gJ:Sl,Row w15 p2 [(vi aU),(vi aV),(vi dE),(vu dF),(vs aW),gJ.v]∧K aU aV dE dF aW gJ w15))))) (Br (v3 == 4) (∃C2:WP,C2 w5.drew∧∀w16,w16=w5.drew→∃v8:Int,(∀w',C2 w'→w'.cell? (p1.add 1)=some (vi v8))∧∃dG dH:Int,∃gK gL:Int,∃dI:ByteArray,∃gM:Sl,(∀w',C2 w'→Row w' p3 [(vi dG),(vi dH),(vi gK),(vu gL),(vs dI),gM.v])∧∃v9:Bool,(∀w',C2 w'→w'.cell? (p1.add 4)=some (vb v9))∧∃cY cZ:Int,∃fC fD:Int,∃dA:ByteArray,∃fE:Sl,(∀w',C2 w'→Row w' p3 [(vi cY),(vi cZ),(vi fC),(vu fD),(vs dA),fE.v])∧∃v10:Bool,(∀w',C2 w'→w'.cell? (p1.add 4)=some (vb v10))∧Calls prog 90 #[(vs (⟨#[114,101,115,111,108,118,101]⟩:ByteArray))] w16 (fun e w17=>∃dX dY:Int,∃gN gO:Int,∃dZ:ByteArray,∃gP:Sl,e=.returned (.agg #[(vi dX),(vi dY),(vi gN),(vu gO),(vs dZ),gP.v])∧C2 w17∧Br v9 (Calls prog 87 #[(vi 0),(.agg #[(vi dG),(vi dH),(vi gK),(vu gL),(vs dI),gM.v]),(vb first1)] w17 (fun e w18=>∃eL eM:Int,∃jI jJ:Int,∃eN:ByteArray,∃jK:Sl,e=.returned (.agg #[(vi eL),(vi eM),(vi jI),(vu jJ),(vs eN),jK.v])∧C2 w18∧Br v10 (Calls prog 87 #[(vi 1),(.agg #[(vi cY),(vi cZ),(vi fC),(vu fD),(vs dA),fE.v]),(vb second1)] w18 (fun e w19=>∃eC eD:Int,∃lU lV:Int,∃eE:ByteArray,∃lW:Sl,e=.returned (.agg #[(vi eC),(vi eD),(vi lU),(vu lV),(vs eE),lW.v])∧C2 w19∧Calls prog 89 #[(.agg #[(vi eL),(vi eM),(vi jI),(vu jJ),(vs eN),jK.v]),(.agg #[(vi eC),(vi eD),(vi lU),(vu lV),(vs eE),lW.v])] w19 (fun e w20=>∃fF fG:Int,∃lX lY:Int,∃fH:ByteArray,∃lZ:Sl,e=.returned (.agg #[(vi fF),(vi fG),(vi lX),(vu lY),(vs fH),lZ.v])∧C2 w20∧Calls prog 89 #[(.agg #[(vi dX),(vi dY),(vi gN),(vu gO),(vs dZ),gP.v]),(.agg #[(vi fF),(vi fG),(vi lX),(vu lY),(vs fH),lZ.v])] w20 (fun e w21=>∃fI fJ:Int,∃mA mB:Int,∃fK:ByteArray,∃mC:Sl,e=.returned (.agg #[(vi fI),(vi fJ),(vi mA),(vu mB),(vs fK),mC.v])∧C2 w21∧Calls prog 88 #[(vi v8),(.agg #[(vi fI),(vi fJ),(vi mA),(vu mB),(vs fK),mC.v])] w21 (fun e w22=>∃eO eP:Int,∃jL jM:Int,∃eQ:ByteArray,∃jN:Sl,e=.returned (.agg #[(vi eO),(vi eP),(vi jL),(vu jM),(vs eQ),jN.v])∧(∀j,j<6→CanW w22 (p2.add j))∧∀w23:World,w23=storeRow w22 p2 [(vi eO),(vi eP),(vi jL),(vu jM),(vs eQ),jN.v]→∃bV bW:Int,∃gQ gR:Int,∃bX:ByteArray,∃gS:Sl,Row w23 p2 [(vi bV),(vi bW),(vi gQ),(vu gR),(vs bX),gS.v]∧K bV bW gQ gR bX gS w23))))) (Calls prog 87 #[(vi 1),(.agg #[(vi cY),(vi cZ),(vi fC),(vu fD),(vs dA),fE.v]),(vb false)] w18 (fun e w24=>∃fL fM:Int,∃mD mE:Int,∃fN:ByteArray,∃mF:Sl,e=.returned (.agg #[(vi fL),(vi fM),(vi mD),(vu mE),(vs fN),mF.v])∧C2 w24∧Calls prog 89 #[(.agg #[(vi eL),(vi eM),(vi jI),(vu jJ),(vs eN),jK.v]),(.agg #[(vi fL),(vi fM),(vi mD),(vu mE),(vs fN),mF.v])] w24 (fun e w25=>∃eF eG:Int,∃mG mH:Int,∃eH:ByteArray,∃mI:Sl,e=.returned (.agg #[(vi eF),(vi eG),(vi mG),(vu mH),(vs eH),mI.v])∧C2 w25∧Calls prog 89 #[(.agg #[(vi dX),(vi dY),(vi gN),(vu gO),(vs dZ),gP.v]),(.agg #[(vi eF),(vi eG),(vi mG),(vu mH),(vs eH),mI.v])] w25 (fun e w26=>∃fO fP:Int,∃mJ mK:Int,∃fQ:ByteArray,∃mL:Sl,e=.returned (.agg #[(vi fO),(vi fP),(vi mJ),(vu mK),(vs fQ),mL.v])∧C2 w26∧Calls prog 88 #[(vi v8),(.agg #[(vi fO),(vi fP),(vi mJ),(vu mK),(vs fQ),mL.v])] w26 (fun e w27=>∃eR eS:Int,∃jO jP:Int,∃eT:ByteArray,∃jQ:Sl,e=.returned (.agg #[(vi eR),(vi eS),(vi jO),(vu jP),(vs eT),jQ.v])∧(∀j,j<6→CanW w27 (p2.add j))∧∀w28:World,w28=storeRow w27 p2 [(vi eR),(vi eS),(vi jO),(vu jP),(vs eT),jQ.v]→∃bY bZ:Int,∃gT gU:Int,∃cA:ByteArray,∃gV:Sl,Row w28 p2 [(vi bY),(vi bZ),(vi gT),(vu gU),(vs cA),gV.v]∧K bY bZ gT gU cA gV w28))))))) (Calls prog 87 #[(vi 0),(.agg #[(vi dG),(vi dH),(vi gK),(vu gL),(vs dI),gM.v]),(vb false)] w17 (fun e w29=>∃eU eV:Int,∃jR jS:Int,∃eW:ByteArray,∃jT:Sl,e=.returned (.agg #[(vi eU),(vi eV),(vi jR),(vu jS),(vs eW),jT.v])∧C2 w29∧Br v10 (Calls prog 87 #[(vi 1),(.agg #[(vi cY),(vi cZ),(vi fC),(vu fD),(vs dA),fE.v]),(vb second1)] w29 (fun e w30=>∃fR fS:Int,∃mM mN:Int,∃fT:ByteArray,∃mO:Sl,e=.returned (.agg #[(vi fR),(vi fS),(vi mM),(vu mN),(vs fT),mO.v])∧C2 w30∧Calls prog 89 #[(.agg #[(vi eU),(vi eV),(vi jR),(vu jS),(vs eW),jT.v]),(.agg #[(vi fR),(vi fS),(vi mM),(vu mN),(vs fT),mO.v])] w30 (fun e w31=>∃gW gX:Int,∃mP mQ:Int,∃gY:ByteArray,∃mR:Sl,e=.returned (.agg #[(vi gW),(vi gX),(vi mP),(vu mQ),(vs gY),mR.v])∧C2 w31∧Calls prog 89 #[(.agg #[(vi dX),(vi dY),(vi gN),(vu gO),(vs dZ),gP.v]),(.agg #[(vi gW),(vi gX),(vi mP),(vu mQ),(vs gY),mR.v])] w31 (fun e w32=>∃mS mT:Int,∃mU mV:Int,∃mW:ByteArray,∃mX:Sl,e=.returned (.agg #[(vi mS),(vi mT),(vi mU),(vu mV),(vs mW),mX.v])∧C2 w32∧Calls prog 88 #[(vi v8),(.agg #[(vi mS),(vi mT),(vi mU),(vu mV),(vs mW),mX.v])] w32 (fun e w33=>∃jU jV:Int,∃jW jX:Int,∃jY:ByteArray,∃jZ:Sl,e=.returned (.agg #[(vi jU),(vi jV),(vi jW),(vu jX),(vs jY),jZ.v])∧(∀j,j<6→CanW w33 (p2.add j))∧∀w34:World,w34=storeRow w33 p2 [(vi jU),(vi jV),(vi jW),(vu jX),(vs jY),jZ.v]→∃cB cC:Int,∃gZ hA:Int,∃cD:ByteArray,∃hB:Sl,Row w34 p2 [(vi cB),(vi cC),(vi gZ),(vu hA),(vs cD),hB.v]∧K cB cC gZ hA cD hB w34))))) (Calls prog 87 #[(vi 1),(.agg #[(vi cY),(vi cZ),(vi fC),(vu fD),(vs dA),fE.v]),(vb false)] w29 (fun e w35=>∃mY mZ:Int,∃nA nB:Int,∃nC:ByteArray,∃nD:Sl,e=.returned (.agg #[(vi mY),(vi mZ),(vi nA),(vu nB),(vs nC),nD.v])∧C2 w35∧Calls prog 89 #[(.agg #[(vi eU),(vi eV),(vi jR),(vu jS),(vs eW),jT.v]),(.agg #[(vi mY),(vi mZ),(vi nA),(vu nB),(vs nC),nD.v])] w35 (fun e w36=>∃nE nF:Int,∃nG nH:Int,∃nI:ByteArray,∃nJ:Sl,e=.returned (.agg #[(vi nE),(vi nF),(vi nG),(vu nH),(vs nI),nJ.v])∧C2 w36∧Calls prog 89 #[(.agg #[(vi dX),(vi dY),(vi gN),(vu gO),(vs dZ),gP.v]),(.agg #[(vi nE),(vi nF),(vi nG),(vu nH),(vs nI),nJ.v])] w36 (fun e w37=>∃nK nL:Int,∃nM nN:Int,∃nO:ByteArray,∃nP:Sl,e=.returned (.agg #[(vi nK),(vi nL),(vi nM),(vu nN),(vs nO),nP.v])∧C2 w37∧Calls prog 88 #[(vi v8),(.agg #[(vi nK),(vi nL),(vi nM),(vu nN),(vs nO),nP.v])] w37 (fun e w38=>∃kA kB:Int,∃kC kD:Int,∃kE:ByteArray,∃kF:Sl,e=.returned (.agg #[(vi kA),(vi kB),(vi kC),(vu kD),(vs kE),kF.v])∧(∀j,j<6→CanW w38 (p2.add j))∧∀w39:World,w39=storeRow w38 p2 [(vi kA),(vi kB),(vi kC),(vu kD),(vs kE),kF.v]→∃cE cF:Int,∃hD hE:Int,∃cG:ByteArray,∃hF:Sl,Row w39 p2 [(vi cE),(vi cF),(vi hD),(vu hE),(vs cG),hF.v]∧K cE cF hD hE cG hF w39))))))))) (Br (v3 == 5) (∃C3:WP,C3 w5.drew∧∀w40,w40=w5.drew→∃v11:Int,(∀w',C3 w'→w'.cell? (p1.add 2)=some (vu v11))∧Calls prog 90 #[(vs (⟨#[97,98,111,114,116,101,100]⟩:ByteArray))] w40 (fun e w41=>∃nQ nR:Int,∃nS nT:Int,∃nU:ByteArray,∃nV:Sl,e=.returned (.agg #[(vi nQ),(vi nR),(vi nS),(vu nT),(vs nU),nV.v])∧C3 w41∧Calls prog 91 #[(vu v11)] w41 (fun e w42=>∃nW nX:Int,∃nY nZ:Int,∃oA:ByteArray,∃oB:Sl,e=.returned (.agg #[(vi nW),(vi nX),(vi nY),(vu nZ),(vs oA),oB.v])∧Calls prog 89 #[(.agg #[(vi nQ),(vi nR),(vi nS),(vu nT),(vs nU),nV.v]),(.agg #[(vi nW),(vi nX),(vi nY),(vu nZ),(vs oA),oB.v])] w42 (fun e w43=>∃oC oD:Int,∃oE oF:Int,∃oG:ByteArray,∃oH:Sl,e=.returned (.agg #[(vi oC),(vi oD),(vi oE),(vu oF),(vs oG),oH.v])∧Calls prog 88 #[(vi 2),(.agg #[(vi oC),(vi oD),(vi oE),(vu oF),(vs oG),oH.v])] w43 (fun e w44=>∃kG kH:Int,∃kI kJ:Int,∃kK:ByteArray,∃kL:Sl,e=.returned (.agg #[(vi kG),(vi kH),(vi kI),(vu kJ),(vs kK),kL.v])∧(∀j,j<6→CanW w44 (p2.add j))∧∀w45:World,w45=storeRow w44 p2 [(vi kG),(vi kH),(vi kI),(vu kJ),(vs kK),kL.v]→∃dJ dK:Int,∃hG hI:Int,∃dL:ByteArray,∃hJ:Sl,Row w45 p2 [(vi dJ),(vi dK),(vi hG),(vu hI),(vs dL),hJ.v]∧K dJ dK hG hI dL hJ w45))))) (Br (v3 == 6) (∃C4:WP,C4 w5.drew∧∀w46,w46=w5.drew→∃iZ jA:Int,∃jB jC:Int,∃jD:ByteArray,∃jE:Sl,(∀w',C4 w'→Row w' p3 [(vi iZ),(vi jA),(vi jB),(vu jC),(vs jD),jE.v])∧Calls prog 90 #[(vs (⟨#[105,110,115,116,101,97,100]⟩:ByteArray))] w46 (fun e w47=>∃oI oJ:Int,∃oK oL:Int,∃oM:ByteArray,∃oN:Sl,e=.returned (.agg #[(vi oI),(vi oJ),(vi oK),(vu oL),(vs oM),oN.v])∧C4 w47∧Calls prog 89 #[(.agg #[(vi oI),(vi oJ),(vi oK),(vu oL),(vs oM),oN.v]),(.agg #[(vi iZ),(vi jA),(vi jB),(vu jC),(vs jD),jE.v])] w47 (fun e w48=>∃oO oP:Int,∃oQ oR:Int,∃oS:ByteArray,∃oT:Sl,e=.returned (.agg #[(vi oO),(vi oP),(vi oQ),(vu oR),(vs oS),oT.v])∧Calls prog 88 #[(vi 2),(.agg #[(vi oO),(vi oP),(vi oQ),(vu oR),(vs oS),oT.v])] w48 (fun e w49=>∃kM kN:Int,∃kO kP:Int,∃kQ:ByteArray,∃kR:Sl,e=.returned (.agg #[(vi kM),(vi kN),(vi kO),(vu kP),(vs kQ),kR.v])∧(∀j,j<6→CanW w49 (p2.add j))∧∀w50:World,w50=storeRow w49 p2 [(vi kM),(vi kN),(vi kO),(vu kP),(vs kQ),kR.v]→∃hK hL:Int,∃hM hN:Int,∃hO:ByteArray,∃hQ:Sl,Row w50 p2 [(vi hK),(vi hL),(vi hM),(vu hN),(vs hO),hQ.v]∧K hK hL hM hN hO hQ w50)))) (∃C5:WP,C5 w5.drew∧∀w51,w51=w5.drew→∃v12:Int,(∀w',C5 w'→w'.cell? (p1.add 2)=some (vu v12))∧Calls prog 90 #[(vs (⟨#[102,117,108,108]⟩:ByteArray))] w51 (fun e w52=>∃oU oV:Int,∃oW oX:Int,∃oY:ByteArray,∃oZ:Sl,e=.returned (.agg #[(vi oU),(vi oV),(vi oW),(vu oX),(vs oY),oZ.v])∧C5 w52∧Calls prog 91 #[(vu v12)] w52 (fun e w53=>∃pA pB:Int,∃pC pD:Int,∃pE:ByteArray,∃pF:Sl,e=.returned (.agg #[(vi pA),(vi pB),(vi pC),(vu pD),(vs pE),pF.v])∧Calls prog 89 #[(.agg #[(vi oU),(vi oV),(vi oW),(vu oX),(vs oY),oZ.v]),(.agg #[(vi pA),(vi pB),(vi pC),(vu pD),(vs pE),pF.v])] w53 (fun e w54=>∃kS kT:Int,∃kU kV:Int,∃kW:ByteArray,∃kX:Sl,e=.returned (.agg #[(vi kS),(vi kT),(vi kU),(vu kV),(vs kW),kX.v])∧(∀j,j<6→CanW w54 (p2.add j))∧∀w55:World,w55=storeRow w54 p2 [(vi kS),(vi kT),(vi kU),(vu kV),(vs kW),kX.v]→∃hR hS:Int,∃hT hU:Int,∃hV:ByteArray,∃hW:Sl,Row w55 p2 [(vi hR),(vi hS),(vi hT),(vu hU),(vs hV),hW.v]∧K hR hS hT hU hV hW w55))))))))))
theorem w_I2 (gB gC gD:Int) (gE:ByteArray) (gF first1 second1:Bool) (w:World) (K:Int→Int→Int→Int→ByteArray→Sl→WP) (h:m_I2 gB gC gD gE gF first1 second1 w K) :
  Calls prog 29 #[(.agg #[(vi gB),(vi gC),(vu gD),(vs gE),(vb gF)]),(vb first1),(vb second1)] w (fun e w'=>∃pG pH:Int,∃pI pJ:Int,∃pK:ByteArray,∃pL:Sl,e=.returned (.agg #[(vi pG),(vi pH),(vi pI),(vu pJ),(vs pK),pL.v])∧K pG pH pI pJ pK pL w'):=by
 refine cw (args:=[(.agg #[(vi gB),(vi gC),(vu gD),(vs gE),(vb gF)]),(vb first1),(vb second1)]) func29 ntmps29 (eg (sn (O:=(.cells #[(vi gB),(vi gC),(vu gD),(vs gE),(vb gF)] 30)) xb ?_))
 intro p1 w1 hn14
 have h:=h p1 w1 hn14
 refine nw1 h (zQ (zeroValue76 _) rfl) fun p2 w2 h=>?_
 refine ln (eg (q ?_))
 refine ql (isAgg23 _) h fun v1 h=>q ?_
 refine ql (isAgg9 _) h fun v2 h=>?_
 refine sc call86 (h.mono fun e w3 ⟨aE,aF,aG,aD,aH,bK,k,h⟩=>⟨_,k,?_⟩)
 refine nw1 h (zQ (zeroValue76 _) rfl) fun p3 w4 h=>?_
 refine sro (sizeOf76 _) h fun w5 h=>?_
 refine ln (zA (eg (q ?_)))
 refine ql (isAgg3 _) h fun v3 h=>ln (zJ (eg (qb (ln ?_))))
 refine cbr h ?_ ?_<;>intro h
 refine eg (q ?_)
 refine ql (isAgg3 _) h fun v4 h=>?_
 obtain ⟨aL,aM,aR,aS,aN,bA,hv3,h⟩:=h
 refine qa (isAgg76 _) (sizeOf76 _) hv3 (q ?_)
 refine ql (isAgg4 _) h fun v5 h=>?_
 refine sc call87 (h.mono fun e w6 ⟨bB,bC,bL,aT,aX,eX,k,h⟩=>⟨_,k,?_⟩)
 refine sro (sizeOf76 _) h fun w7 h=>?_
 refine ln (er (uC (vF ?_)))
 obtain ⟨aA,aB,aI,aJ,aC,aK,hv1,h⟩:=h
 refine gg1 results29 (rva (isAgg76 _) (sizeOf76 _) hv1) ⟨aA,aB,aI,aJ,aC,aK,rfl,h⟩
 refine eg (qb (ln ?_))
 refine cbr h ?_ ?_<;>intro h
 refine eg (q ?_)
 refine ql (isAgg3 _) h fun v6 h=>?_
 obtain ⟨bD,bE,bO,bP,bF,bQ,hv6,h⟩:=h
 refine qa (isAgg76 _) (sizeOf76 _) hv6 ?_
 refine sc call88 (h.mono fun e w8 ⟨bR,bS,cW,cX,bG,eY,k,h⟩=>⟨_,k,?_⟩)
 refine sro (sizeOf76 _) h fun w9 h=>?_
 refine ln (er (uC (vF ?_)))
 obtain ⟨aO,aP,bT,bU,aQ,dD,hv5,h⟩:=h
 refine gg1 results29 (rva (isAgg76 _) (sizeOf76 _) hv5) ⟨aO,aP,bT,bU,aQ,dD,rfl,h⟩
 refine eg (qb (ln ?_))
 refine cbr h ?_ ?_<;>intro h
 refine zA ?_
 obtain ⟨C1,hC,h⟩:=h
 refine dr1 C1 [0,3,4,5,6] [3,4,5,6] hC h fun w10 h=>?_
 refine qx 1 (vp (some (p1.add 2))) Kp1 (qg 2 ?_)
 obtain ⟨v7,hv9,h⟩:=h
 refine sy Kp2 (fun _ k=>xl (isAgg23 _) (hv9 _ k)) (lg 0 ?_)
 refine slc Kp0 call90 (h.mono ?_)
 rintro e w11 ⟨bH,bI,fU,fV,bJ,fW,rfl,hC,h⟩
 refine ⟨_,rfl,.inr hC,?_⟩
 refine lg 3 ?_
 refine slc Kp3 call91 (h.mono ?_)
 rintro e w12 ⟨cT,cU,eZ,fA,cV,fB,rfl,h⟩
 refine ⟨_,rfl,.inl (by kernel_rfl),?_⟩
 refine lg 4 ?_
 refine slc Kp4 call89 (h.mono ?_)
 rintro e w13 ⟨dU,dV,gG,gH,dW,gI,rfl,h⟩
 refine ⟨_,rfl,.inl (by kernel_rfl),?_⟩
 refine lg 5 ?_
 refine slc Kp5 call88 (h.mono ?_)
 rintro e w14 ⟨eI,eJ,jF,jG,eK,jH,rfl,h⟩
 refine ⟨_,rfl,.inl (by kernel_rfl),?_⟩
 refine lg 6 ?_
 refine slo Kp6 (sizeOf76 _) h fun w15 h=>?_
 refine ⟨.inl (by kernel_rfl),?_⟩
 refine wn (zK (er (uC (vF ?_))))
 obtain ⟨aU,aV,dE,dF,aW,gJ,hv8,h⟩:=h
 refine gg1 results29 (rva (isAgg76 _) (sizeOf76 _) hv8) ⟨aU,aV,dE,dF,aW,gJ,rfl,h⟩
 refine eg (qb (ln ?_))
 refine cbr h ?_ ?_<;>intro h
 refine zA ?_
 obtain ⟨C2,hC,h⟩:=h
 refine dr1 C2 [2,9,16,17,18,19,20] [19,20] hC h fun w16 h=>?_
 refine qx 0 (vp (some (p1.add 1))) Kp0 (qg 1 ?_)
 obtain ⟨v8,hv18,h⟩:=h
 refine sy Kp1 (fun _ k=>xl (isAgg3 _) (hv18 _ k)) (qg 3 ?_)
 obtain ⟨dG,dH,gK,gL,dI,gM,hv17,h⟩:=h
 refine sy (v:=(.agg #[(vi dG),(vi dH),(vi gK),(vu gL),(vs dI),gM.v])) Kp3 (fun w' hw'=>(xa p3 [(vi dG),(vi dH),(vi gK),(vu gL),(vs dI),gM.v] (isAgg76 _) (sizeOf76 _) (hv17 w' hw'))) (qx 4 (vp (some (p1.add 4))) Kp4 (qg 5 ?_))
 obtain ⟨v9,hv16,h⟩:=h
 refine sy Kp5 (fun _ k=>xl (isAgg4 _) (hv16 _ k)) (qg 10 ?_)
 obtain ⟨cY,cZ,fC,fD,dA,fE,hv15,h⟩:=h
 refine sy (v:=(.agg #[(vi cY),(vi cZ),(vi fC),(vu fD),(vs dA),fE.v])) (zT (S8 (zH (zH zS)))) (fun w' hw'=>(xa p3 [(vi cY),(vi cZ),(vi fC),(vu fD),(vs dA),fE.v] (isAgg76 _) (sizeOf76 _) (hv15 w' hw'))) (qx 11 (vp (some (p1.add 4))) (zT (S8 (zH (zH (zH zS))))) (qg 12 ?_))
 obtain ⟨v10,hv14,h⟩:=h
 refine sy (zT (S8 (S4 zS))) (fun _ k=>xl (isAgg4 _) (hv14 _ k)) (lg 2 ?_)
 refine slc Kp2 call90 (h.mono ?_)
 rintro e w17 ⟨dX,dY,gN,gO,dZ,gP,rfl,hC,h⟩
 refine ⟨_,rfl,.inr hC,?_⟩
 refine qx 6 (vb v9) Kp6 (qg 7 ?_)
 obtain ⟨hg1,h⟩|⟨hg1,h⟩:=h.br
 refine sz (v:=(vb first1)) Kp7 (wy 45 hg1) (fun _ _=>(by kernel_rfl)) (qz 8 (vb first1) Kp8 (fun _ _=>(xT hg1)) (lg 9 ?_))
 refine slc Kp9 call87 (h.mono ?_)
 rintro e w18 ⟨eL,eM,jI,jJ,eN,jK,rfl,hC,h⟩
 refine ⟨_,rfl,.inr hC,?_⟩
 refine qx 13 (vb v10) (zT (S8 (S4 (zH zS)))) (qg 14 ?_)
 obtain ⟨hg2,h⟩|⟨hg2,h⟩:=h.br
 refine sz (v:=(vb second1)) (zT (S8 (S4 (zH (zH zS))))) (wy 52 hg2) (fun _ _=>(by kernel_rfl)) (qz 15 (vb second1) (zT (S8 (S4 (zH (zH (zH zS)))))) (fun _ _=>(xT hg2)) (lg 16 ?_))
 refine slc (zT (S8 (S8 zS))) call87 (h.mono ?_)
 rintro e w19 ⟨eC,eD,lU,lV,eE,lW,rfl,hC,h⟩
 refine ⟨_,rfl,.inr hC,?_⟩
 refine lg 17 ?_
 refine slc (zT (S8 (S8 (zH zS)))) call89 (h.mono ?_)
 rintro e w20 ⟨fF,fG,lX,lY,fH,lZ,rfl,hC,h⟩
 refine ⟨_,rfl,.inr hC,?_⟩
 refine lg 18 ?_
 refine slc (zT (S8 (S8 (zH (zH zS))))) call89 (h.mono ?_)
 rintro e w21 ⟨fI,fJ,mA,mB,fK,mC,rfl,hC,h⟩
 refine ⟨_,rfl,.inr hC,?_⟩
 refine lg 19 ?_
 refine slc (zT (S8 (S8 (zH (zH (zH zS)))))) call88 (h.mono ?_)
 rintro e w22 ⟨eO,eP,jL,jM,eQ,jN,rfl,h⟩
 refine ⟨_,rfl,.inl (by kernel_rfl),?_⟩
 refine lg 20 ?_
 refine slo (zT (S8 (S8 (S4 zS)))) (sizeOf76 _) h fun w23 h=>?_
 refine ⟨.inl (by kernel_rfl),?_⟩
 refine wn (zK (er (uC (vF ?_))))
 obtain ⟨bV,bW,gQ,gR,bX,gS,hv10,h⟩:=h
 refine gg1 results29 (rva (isAgg76 _) (sizeOf76 _) hv10) ⟨bV,bW,gQ,gR,bX,gS,rfl,h⟩
 refine jCY (zT (S8 (S4 (zH (zH zS))))) (xM rfl (yD 52 hg2) rfl) (qz 15 (vb false) (zT (S8 (S4 (zH (zH (zH zS)))))) (fun _ _=>(xF hg2)) (lg 16 ?_))
 refine slc (zT (S8 (S8 zS))) call87 (h.mono ?_)
 rintro e w24 ⟨fL,fM,mD,mE,fN,mF,rfl,hC,h⟩
 refine ⟨_,rfl,.inr hC,?_⟩
 refine lg 17 ?_
 refine slc (zT (S8 (S8 (zH zS)))) call89 (h.mono ?_)
 rintro e w25 ⟨eF,eG,mG,mH,eH,mI,rfl,hC,h⟩
 refine ⟨_,rfl,.inr hC,?_⟩
 refine lg 18 ?_
 refine slc (zT (S8 (S8 (zH (zH zS))))) call89 (h.mono ?_)
 rintro e w26 ⟨fO,fP,mJ,mK,fQ,mL,rfl,hC,h⟩
 refine ⟨_,rfl,.inr hC,?_⟩
 refine lg 19 ?_
 refine slc (zT (S8 (S8 (zH (zH (zH zS)))))) call88 (h.mono ?_)
 rintro e w27 ⟨eR,eS,jO,jP,eT,jQ,rfl,h⟩
 refine ⟨_,rfl,.inl (by kernel_rfl),?_⟩
 refine lg 20 ?_
 refine slo (zT (S8 (S8 (S4 zS)))) (sizeOf76 _) h fun w28 h=>?_
 refine ⟨.inl (by kernel_rfl),?_⟩
 refine wn (zK (er (uC (vF ?_))))
 obtain ⟨bY,bZ,gT,gU,cA,gV,hv11,h⟩:=h
 refine gg1 results29 (rva (isAgg76 _) (sizeOf76 _) hv11) ⟨bY,bZ,gT,gU,cA,gV,rfl,h⟩
 refine jCY Kp7 (xM rfl (yD 45 hg1) rfl) (qz 8 (vb false) Kp8 (fun _ _=>(xF hg1)) (lg 9 ?_))
 refine slc Kp9 call87 (h.mono ?_)
 rintro e w29 ⟨eU,eV,jR,jS,eW,jT,rfl,hC,h⟩
 refine ⟨_,rfl,.inr hC,?_⟩
 refine qx 13 (vb v10) (zT (S8 (S4 (zH zS)))) (qg 14 ?_)
 obtain ⟨hg3,h⟩|⟨hg3,h⟩:=h.br
 refine sz (v:=(vb second1)) (zT (S8 (S4 (zH (zH zS))))) (wy 52 hg3) (fun _ _=>(by kernel_rfl)) (qz 15 (vb second1) (zT (S8 (S4 (zH (zH (zH zS)))))) (fun _ _=>(xT hg3)) (lg 16 ?_))
 refine slc (zT (S8 (S8 zS))) call87 (h.mono ?_)
 rintro e w30 ⟨fR,fS,mM,mN,fT,mO,rfl,hC,h⟩
 refine ⟨_,rfl,.inr hC,?_⟩
 refine lg 17 ?_
 refine slc (zT (S8 (S8 (zH zS)))) call89 (h.mono ?_)
 rintro e w31 ⟨gW,gX,mP,mQ,gY,mR,rfl,hC,h⟩
 refine ⟨_,rfl,.inr hC,?_⟩
 refine lg 18 ?_
 refine slc (zT (S8 (S8 (zH (zH zS))))) call89 (h.mono ?_)
 rintro e w32 ⟨mS,mT,mU,mV,mW,mX,rfl,hC,h⟩
 refine ⟨_,rfl,.inr hC,?_⟩
 refine lg 19 ?_
 refine slc (zT (S8 (S8 (zH (zH (zH zS)))))) call88 (h.mono ?_)
 rintro e w33 ⟨jU,jV,jW,jX,jY,jZ,rfl,h⟩
 refine ⟨_,rfl,.inl (by kernel_rfl),?_⟩
 refine lg 20 ?_
 refine slo (zT (S8 (S8 (S4 zS)))) (sizeOf76 _) h fun w34 h=>?_
 refine ⟨.inl (by kernel_rfl),?_⟩
 refine wn (zK (er (uC (vF ?_))))
 obtain ⟨cB,cC,gZ,hA,cD,hB,hv12,h⟩:=h
 refine gg1 results29 (rva (isAgg76 _) (sizeOf76 _) hv12) ⟨cB,cC,gZ,hA,cD,hB,rfl,h⟩
 refine jCY (zT (S8 (S4 (zH (zH zS))))) (xM rfl (yD 52 hg3) rfl) (qz 15 (vb false) (zT (S8 (S4 (zH (zH (zH zS)))))) (fun _ _=>(xF hg3)) (lg 16 ?_))
 refine slc (zT (S8 (S8 zS))) call87 (h.mono ?_)
 rintro e w35 ⟨mY,mZ,nA,nB,nC,nD,rfl,hC,h⟩
 refine ⟨_,rfl,.inr hC,?_⟩
 refine lg 17 ?_
 refine slc (zT (S8 (S8 (zH zS)))) call89 (h.mono ?_)
 rintro e w36 ⟨nE,nF,nG,nH,nI,nJ,rfl,hC,h⟩
 refine ⟨_,rfl,.inr hC,?_⟩
 refine lg 18 ?_
 refine slc (zT (S8 (S8 (zH (zH zS))))) call89 (h.mono ?_)
 rintro e w37 ⟨nK,nL,nM,nN,nO,nP,rfl,hC,h⟩
 refine ⟨_,rfl,.inr hC,?_⟩
 refine lg 19 ?_
 refine slc (zT (S8 (S8 (zH (zH (zH zS)))))) call88 (h.mono ?_)
 rintro e w38 ⟨kA,kB,kC,kD,kE,kF,rfl,h⟩
 refine ⟨_,rfl,.inl (by kernel_rfl),?_⟩
 refine lg 20 ?_
 refine slo (zT (S8 (S8 (S4 zS)))) (sizeOf76 _) h fun w39 h=>?_
 refine ⟨.inl (by kernel_rfl),?_⟩
 refine wn (zK (er (uC (vF ?_))))
 obtain ⟨cE,cF,hD,hE,cG,hF,hv13,h⟩:=h
 refine gg1 results29 (rva (isAgg76 _) (sizeOf76 _) hv13) ⟨cE,cF,hD,hE,cG,hF,rfl,h⟩
 refine eg (qb (ln ?_))
 refine cbr h ?_ ?_<;>intro h
 refine zA ?_
 obtain ⟨C3,hC,h⟩:=h
 refine dr1 C3 [0,3,4,5,6] [3,4,5,6] hC h fun w40 h=>?_
 refine qx 1 (vp (some (p1.add 2))) Kp1 (qg 2 ?_)
 obtain ⟨v11,hv20,h⟩:=h
 refine sy Kp2 (fun _ k=>xl (isAgg23 _) (hv20 _ k)) (lg 0 ?_)
 refine slc Kp0 call90 (h.mono ?_)
 rintro e w41 ⟨nQ,nR,nS,nT,nU,nV,rfl,hC,h⟩
 refine ⟨_,rfl,.inr hC,?_⟩
 refine lg 3 ?_
 refine slc Kp3 call91 (h.mono ?_)
 rintro e w42 ⟨nW,nX,nY,nZ,oA,oB,rfl,h⟩
 refine ⟨_,rfl,.inl (by kernel_rfl),?_⟩
 refine lg 4 ?_
 refine slc Kp4 call89 (h.mono ?_)
 rintro e w43 ⟨oC,oD,oE,oF,oG,oH,rfl,h⟩
 refine ⟨_,rfl,.inl (by kernel_rfl),?_⟩
 refine lg 5 ?_
 refine slc Kp5 call88 (h.mono ?_)
 rintro e w44 ⟨kG,kH,kI,kJ,kK,kL,rfl,h⟩
 refine ⟨_,rfl,.inl (by kernel_rfl),?_⟩
 refine lg 6 ?_
 refine slo Kp6 (sizeOf76 _) h fun w45 h=>?_
 refine ⟨.inl (by kernel_rfl),?_⟩
 refine wn (zK (er (uC (vF ?_))))
 obtain ⟨dJ,dK,hG,hI,dL,hJ,hv19,h⟩:=h
 refine gg1 results29 (rva (isAgg76 _) (sizeOf76 _) hv19) ⟨dJ,dK,hG,hI,dL,hJ,rfl,h⟩
 refine eg (qb (ln ?_))
 refine cbr h ?_ ?_<;>intro h
 refine zA ?_
 obtain ⟨C4,hC,h⟩:=h
 refine dr1 C4 [0,2,3,4] [2,3,4] hC h fun w46 h=>?_
 refine qg 1 ?_
 obtain ⟨iZ,jA,jB,jC,jD,jE,hv22,h⟩:=h
 refine sy (v:=(.agg #[(vi iZ),(vi jA),(vi jB),(vu jC),(vs jD),jE.v])) Kp1 (fun w' hw'=>(xa p3 [(vi iZ),(vi jA),(vi jB),(vu jC),(vs jD),jE.v] (isAgg76 _) (sizeOf76 _) (hv22 w' hw'))) (lg 0 ?_)
 refine slc Kp0 call90 (h.mono ?_)
 rintro e w47 ⟨oI,oJ,oK,oL,oM,oN,rfl,hC,h⟩
 refine ⟨_,rfl,.inr hC,?_⟩
 refine lg 2 ?_
 refine slc Kp2 call89 (h.mono ?_)
 rintro e w48 ⟨oO,oP,oQ,oR,oS,oT,rfl,h⟩
 refine ⟨_,rfl,.inl (by kernel_rfl),?_⟩
 refine lg 3 ?_
 refine slc Kp3 call88 (h.mono ?_)
 rintro e w49 ⟨kM,kN,kO,kP,kQ,kR,rfl,h⟩
 refine ⟨_,rfl,.inl (by kernel_rfl),?_⟩
 refine lg 4 ?_
 refine slo Kp4 (sizeOf76 _) h fun w50 h=>?_
 refine ⟨.inl (by kernel_rfl),?_⟩
 refine wn (zK (er (uC (vF ?_))))
 obtain ⟨hK,hL,hM,hN,hO,hQ,hv21,h⟩:=h
 refine gg1 results29 (rva (isAgg76 _) (sizeOf76 _) hv21) ⟨hK,hL,hM,hN,hO,hQ,rfl,h⟩
 refine zC (xW (zK (zA ?_)))
 obtain ⟨C5,hC,h⟩:=h
 refine dr1 C5 [0,3,4,5] [3,4,5] hC h fun w51 h=>?_
 refine qx 1 (vp (some (p1.add 2))) Kp1 (qg 2 ?_)
 obtain ⟨v12,hv24,h⟩:=h
 refine sy Kp2 (fun _ k=>xl (isAgg23 _) (hv24 _ k)) (lg 0 ?_)
 refine slc Kp0 call90 (h.mono ?_)
 rintro e w52 ⟨oU,oV,oW,oX,oY,oZ,rfl,hC,h⟩
 refine ⟨_,rfl,.inr hC,?_⟩
 refine lg 3 ?_
 refine slc Kp3 call91 (h.mono ?_)
 rintro e w53 ⟨pA,pB,pC,pD,pE,pF,rfl,h⟩
 refine ⟨_,rfl,.inl (by kernel_rfl),?_⟩
 refine lg 4 ?_
 refine slc Kp4 call89 (h.mono ?_)
 rintro e w54 ⟨kS,kT,kU,kV,kW,kX,rfl,h⟩
 refine ⟨_,rfl,.inl (by kernel_rfl),?_⟩
 refine lg 5 ?_
 refine slo Kp5 (sizeOf76 _) h fun w55 h=>?_
 refine ⟨.inl (by kernel_rfl),?_⟩
 refine wn (zK (er ?_))
 obtain ⟨hR,hS,hT,hU,hV,hW,hv23,h⟩:=h
 refine gg1 results29 (rva (isAgg76 _) (sizeOf76 _) hv23) ⟨hR,hS,hT,hU,hV,hW,rfl,h⟩
def m_L4 (c1:Int) (text1:ByteArray) (w:World) (K:Int→Int→Int→Int→ByteArray→Sl→WP):Prop :=∀(p1:Addr) (w1:World),New w (.cells #[(vi 0),(vi 0),(vi 0),(vu 0),ve,Sl.nil.v] 76) p1 w1→Calls prog 90 #[(vs (⟨#[100,101,97,108]⟩:ByteArray))] w1 (fun e w2=>∃aE aF:Int,∃aG aD:Int,∃aH:ByteArray,∃bK:Sl,e=.returned (.agg #[(vi aE),(vi aF),(vi aG),(vu aD),(vs aH),bK.v])∧Calls prog 91 #[(vu c1)] w2 (fun e w3=>∃bB bC:Int,∃bL aT:Int,∃aX:ByteArray,∃eX:Sl,e=.returned (.agg #[(vi bB),(vi bC),(vi bL),(vu aT),(vs aX),eX.v])∧Calls prog 90 #[(vs text1)] w3 (fun e w4=>∃bR bS:Int,∃cW cX:Int,∃bG:ByteArray,∃eY:Sl,e=.returned (.agg #[(vi bR),(vi bS),(vi cW),(vu cX),(vs bG),eY.v])∧Calls prog 89 #[(.agg #[(vi bB),(vi bC),(vi bL),(vu aT),(vs aX),eX.v]),(.agg #[(vi bR),(vi bS),(vi cW),(vu cX),(vs bG),eY.v])] w4 (fun e w5=>∃bH bI:Int,∃fU fV:Int,∃bJ:ByteArray,∃fW:Sl,e=.returned (.agg #[(vi bH),(vi bI),(vi fU),(vu fV),(vs bJ),fW.v])∧Calls prog 89 #[(.agg #[(vi aE),(vi aF),(vi aG),(vu aD),(vs aH),bK.v]),(.agg #[(vi bH),(vi bI),(vi fU),(vu fV),(vs bJ),fW.v])] w5 (fun e w6=>∃cT cU:Int,∃eZ fA:Int,∃cV:ByteArray,∃fB:Sl,e=.returned (.agg #[(vi cT),(vi cU),(vi eZ),(vu fA),(vs cV),fB.v])∧(∀j,j<6→CanW w6 (p1.add j))∧∀w7:World,w7=storeRow w6 p1 [(vi cT),(vi cU),(vi eZ),(vu fA),(vs cV),fB.v]→∃aA aB:Int,∃aI aJ:Int,∃aC:ByteArray,∃aK:Sl,Row w7 p1 [(vi aA),(vi aB),(vi aI),(vu aJ),(vs aC),aK.v]∧K aA aB aI aJ aC aK w7)))))
theorem w_L4 (c1:Int) (text1:ByteArray) (w:World) (K:Int→Int→Int→Int→ByteArray→Sl→WP) (h:m_L4 c1 text1 w K) :
  Calls prog 86 #[(vu c1),(vs text1)] w (fun e w'=>∃dU dV:Int,∃gG gH:Int,∃dW:ByteArray,∃gI:Sl,e=.returned (.agg #[(vi dU),(vi dV),(vi gG),(vu gH),(vs dW),gI.v])∧K dU dV gG gH dW gI w'):=by
 refine cw (args:=[(vu c1),(vs text1)]) func86 ntmps86 (eg (sn (O:=(.cells #[(vi 0),(vi 0),(vi 0),(vu 0),ve,Sl.nil.v] 76)) (zQ (zeroValue76 _) rfl) ?_))
 intro p1 w1 hn2
 have h:=h p1 w1 hn2
 refine ln (eg ?_)
 refine sc call90 (h.mono fun e w2 ⟨aE,aF,aG,aD,aH,bK,k,h⟩=>⟨_,k,?_⟩)
 refine q ?_
 refine sc call91 (h.mono fun e w3 ⟨bB,bC,bL,aT,aX,eX,k,h⟩=>⟨_,k,?_⟩)
 refine q ?_
 refine sc call90 (h.mono fun e w4 ⟨bR,bS,cW,cX,bG,eY,k,h⟩=>⟨_,k,?_⟩)
 refine sc call89 (h.mono fun e w5 ⟨bH,bI,fU,fV,bJ,fW,k,h⟩=>⟨_,k,?_⟩)
 refine sc call89 (h.mono fun e w6 ⟨cT,cU,eZ,fA,cV,fB,k,h⟩=>⟨_,k,?_⟩)
 refine sro (sizeOf76 _) h fun w7 h=>?_
 refine ln (er ?_)
 obtain ⟨aA,aB,aI,aJ,aC,aK,hv1,h⟩:=h
 refine gg1 results86 (rva (isAgg76 _) (sizeOf76 _) hv1) ⟨aA,aB,aI,aJ,aC,aK,rfl,h⟩
def m_M4 (who1 cN:Int) (cO cP cQ:Int) (cR:ByteArray) (cS:Sl) (fake1:Bool) (w:World) (K:Int→Int→Int→Int→ByteArray→Sl→WP):Prop :=∀(p1:Addr) (w1:World),New w (.cells #[(vi cN),(vi cO),(vi cP),(vu cQ),(vs cR),cS.v] 76) p1 w1→∀(p2:Addr) (w2:World),New w1 (.cells #[(vi 0),(vi 0),(vi 0),(vu 0),ve,Sl.nil.v] 76) p2 w2→Br fake1 (∃aL aM:Int,∃aR aS:Int,∃aN:ByteArray,∃bA:Sl,Row w2 p1 [(vi aL),(vi aM),(vi aR),(vu aS),(vs aN),bA.v]∧∀(p3:Addr) (w3:World),New w2 (.cells #[(vi aL),(vi aM),(vi aR),(vu aS),(vs aN),bA.v] 76) p3 w3→(∀j,j<6→CanW w3 (p2.add j))∧∀w4:World,w4=storeRow w3 p2 [(vi 9),(vi who1),(vi (q6.wrap (1 - who1))),(vu 0),ve,(Sl.mk (some p3) 1 1).v]→∃aA aB:Int,∃aI aJ:Int,∃aC:ByteArray,∃aK:Sl,Row w4 p2 [(vi aA),(vi aB),(vi aI),(vu aJ),(vs aC),aK.v]∧K aA aB aI aJ aC aK w4) (∃bD bE:Int,∃bO bP:Int,∃bF:ByteArray,∃bQ:Sl,Row w2 p1 [(vi bD),(vi bE),(vi bO),(vu bP),(vs bF),bQ.v]∧∀(p4:Addr) (w5:World),New w2 (.cells #[(vi bD),(vi bE),(vi bO),(vu bP),(vs bF),bQ.v] 76) p4 w5→(∀j,j<6→CanW w5 (p2.add j))∧∀w6:World,w6=storeRow w5 p2 [(vi 8),(vi who1),(vi (q6.wrap (1 - who1))),(vu 0),ve,(Sl.mk (some p4) 1 1).v]→∃aO aP:Int,∃bT bU:Int,∃aQ:ByteArray,∃dD:Sl,Row w6 p2 [(vi aO),(vi aP),(vi bT),(vu bU),(vs aQ),dD.v]∧K aO aP bT bU aQ dD w6)
theorem w_M4 (who1 cN:Int) (cO cP cQ:Int) (cR:ByteArray) (cS:Sl) (fake1:Bool) (w:World) (K:Int→Int→Int→Int→ByteArray→Sl→WP) (h:m_M4 who1 cN cO cP cQ cR cS fake1 w K) :
  Calls prog 87 #[(vi who1),(.agg #[(vi cN),(vi cO),(vi cP),(vu cQ),(vs cR),cS.v]),(vb fake1)] w (fun e w'=>∃aE aF:Int,∃aG aD:Int,∃aH:ByteArray,∃bK:Sl,e=.returned (.agg #[(vi aE),(vi aF),(vi aG),(vu aD),(vs aH),bK.v])∧K aE aF aG aD aH bK w'):=by
 refine cw (args:=[(vi who1),(.agg #[(vi cN),(vi cO),(vi cP),(vu cQ),(vs cR),cS.v]),(vb fake1)]) func87 ntmps87 (eg (sn (O:=(.cells #[(vi cN),(vi cO),(vi cP),(vu cQ),(vs cR),cS.v] 76)) xb ?_))
 intro p1 w1 hn6
 have h:=h p1 w1 hn6
 refine nw1 h (zQ (zeroValue76 _) rfl) fun p2 w2 h=>?_
 refine ln (eg (q (ln (zA (eg (q (zB ?_)))))))
 refine zK ?_
 refine cbr h ?_ ?_<;>intro h
 refine rg (q (ln (eg (qd ?_))))
 obtain ⟨aL,aM,aR,aS,aN,bA,hv2,h⟩:=h
 refine qa (isAgg76 _) (sizeOf76 _) hv2 (nw4 (fun p=>(Sl.mk (some p) 1 1).v) h fun p3 w3 h=>?_)
 refine q ?_
 refine sro (sizeOf76 _) h fun w4 h=>?_
 refine ln (er ?_)
 obtain ⟨aA,aB,aI,aJ,aC,aK,hv1,h⟩:=h
 refine gg1 results87 (rva (isAgg76 _) (sizeOf76 _) hv1) ⟨aA,aB,aI,aJ,aC,aK,rfl,h⟩
 refine zC (zK (eg (qd ?_)))
 obtain ⟨bD,bE,bO,bP,bF,bQ,hv4,h⟩:=h
 refine qa (isAgg76 _) (sizeOf76 _) hv4 (nw4 (fun p=>(Sl.mk (some p) 1 1).v) h fun p4 w5 h=>?_)
 refine q ?_
 refine sro (sizeOf76 _) h fun w6 h=>?_
 refine ln (er ?_)
 obtain ⟨aO,aP,bT,bU,aQ,dD,hv3,h⟩:=h
 refine gg1 results87 (rva (isAgg76 _) (sizeOf76 _) hv3) ⟨aO,aP,bT,bU,aQ,dD,rfl,h⟩
def m_N4 (who1 cN:Int) (cO cP cQ:Int) (cR:ByteArray) (cS:Sl) (w:World) (K:Int→Int→Int→Int→ByteArray→Sl→WP):Prop :=∀(p1:Addr) (w1:World),New w (.cells #[(vi cN),(vi cO),(vi cP),(vu cQ),(vs cR),cS.v] 76) p1 w1→∀(p2:Addr) (w2:World),New w1 (.cells #[(vi 0),(vi 0),(vi 0),(vu 0),ve,Sl.nil.v] 76) p2 w2→∃aL aM:Int,∃aR aS:Int,∃aN:ByteArray,∃bA:Sl,Row w2 p1 [(vi aL),(vi aM),(vi aR),(vu aS),(vs aN),bA.v]∧∀(p3:Addr) (w3:World),New w2 (.cells #[(vi aL),(vi aM),(vi aR),(vu aS),(vs aN),bA.v] 76) p3 w3→(∀j,j<6→CanW w3 (p2.add j))∧∀w4:World,w4=storeRow w3 p2 [(vi 7),(vi who1),(vi 0),(vu 0),ve,(Sl.mk (some p3) 1 1).v]→∃aA aB:Int,∃aI aJ:Int,∃aC:ByteArray,∃aK:Sl,Row w4 p2 [(vi aA),(vi aB),(vi aI),(vu aJ),(vs aC),aK.v]∧K aA aB aI aJ aC aK w4
theorem w_N4 (who1 cN:Int) (cO cP cQ:Int) (cR:ByteArray) (cS:Sl) (w:World) (K:Int→Int→Int→Int→ByteArray→Sl→WP) (h:m_N4 who1 cN cO cP cQ cR cS w K) :
  Calls prog 88 #[(vi who1),(.agg #[(vi cN),(vi cO),(vi cP),(vu cQ),(vs cR),cS.v])] w (fun e w'=>∃aE aF:Int,∃aG aD:Int,∃aH:ByteArray,∃bK:Sl,e=.returned (.agg #[(vi aE),(vi aF),(vi aG),(vu aD),(vs aH),bK.v])∧K aE aF aG aD aH bK w'):=by
 refine cw (args:=[(vi who1),(.agg #[(vi cN),(vi cO),(vi cP),(vu cQ),(vs cR),cS.v])]) func88 ntmps88 (eg (sn (O:=(.cells #[(vi cN),(vi cO),(vi cP),(vu cQ),(vs cR),cS.v] 76)) xb ?_))
 intro p1 w1 hn4
 have h:=h p1 w1 hn4
 refine nw1 h (zQ (zeroValue76 _) rfl) fun p2 w2 h=>?_
 refine ln (eg (q ?_))
 obtain ⟨aL,aM,aR,aS,aN,bA,hv2,h⟩:=h
 refine qa (isAgg76 _) (sizeOf76 _) hv2 (nw4 (fun p=>(Sl.mk (some p) 1 1).v) h fun p3 w3 h=>?_)
 refine q ?_
 refine sro (sizeOf76 _) h fun w4 h=>?_
 refine ln (er ?_)
 obtain ⟨aA,aB,aI,aJ,aC,aK,hv1,h⟩:=h
 refine gg1 results88 (rva (isAgg76 _) (sizeOf76 _) hv1) ⟨aA,aB,aI,aJ,aC,aK,rfl,h⟩
def m_O4 (cN cO:Int) (cP cQ:Int) (cR:ByteArray) (cS:Sl) (iH iI:Int) (iJ iK:Int) (iL:ByteArray) (iM:Sl) (w:World) (K:Int→Int→Int→Int→ByteArray→Sl→WP):Prop :=∀(p1:Addr) (w1:World),New w (.cells #[(vi cN),(vi cO),(vi cP),(vu cQ),(vs cR),cS.v] 76) p1 w1→∀(p2:Addr) (w2:World),New w1 (.cells #[(vi iH),(vi iI),(vi iJ),(vu iK),(vs iL),iM.v] 76) p2 w2→∀(p3:Addr) (w3:World),New w2 (.cells #[(vi 0),(vi 0),(vi 0),(vu 0),ve,Sl.nil.v] 76) p3 w3→∃aL aM:Int,∃aR aS:Int,∃aN:ByteArray,∃bA:Sl,Row w3 p1 [(vi aL),(vi aM),(vi aR),(vu aS),(vs aN),bA.v]∧∃bD bE:Int,∃bO bP:Int,∃bF:ByteArray,∃bQ:Sl,Row w3 p2 [(vi bD),(vi bE),(vi bO),(vu bP),(vs bF),bQ.v]∧∀(p4:Addr) (w4:World),New w3 (.cells #[(vi aL),(vi aM),(vi aR),(vu aS),(vs aN),bA.v,(vi bD),(vi bE),(vi bO),(vu bP),(vs bF),bQ.v] 76) p4 w4→(∀j,j<6→CanW w4 (p3.add j))∧∀w5:World,w5=storeRow w4 p3 [(vi 4),(vi 0),(vi 0),(vu 0),ve,(Sl.mk (some p4) 2 2).v]→∃aA aB:Int,∃aI aJ:Int,∃aC:ByteArray,∃aK:Sl,Row w5 p3 [(vi aA),(vi aB),(vi aI),(vu aJ),(vs aC),aK.v]∧K aA aB aI aJ aC aK w5
theorem w_O4 (cN cO:Int) (cP cQ:Int) (cR:ByteArray) (cS:Sl) (iH iI:Int) (iJ iK:Int) (iL:ByteArray) (iM:Sl) (w:World) (K:Int→Int→Int→Int→ByteArray→Sl→WP) (h:m_O4 cN cO cP cQ cR cS iH iI iJ iK iL iM w K) :
  Calls prog 89 #[(.agg #[(vi cN),(vi cO),(vi cP),(vu cQ),(vs cR),cS.v]),(.agg #[(vi iH),(vi iI),(vi iJ),(vu iK),(vs iL),iM.v])] w (fun e w'=>∃aE aF:Int,∃aG aD:Int,∃aH:ByteArray,∃bK:Sl,e=.returned (.agg #[(vi aE),(vi aF),(vi aG),(vu aD),(vs aH),bK.v])∧K aE aF aG aD aH bK w'):=by
 refine cw (args:=[(.agg #[(vi cN),(vi cO),(vi cP),(vu cQ),(vs cR),cS.v]),(.agg #[(vi iH),(vi iI),(vi iJ),(vu iK),(vs iL),iM.v])]) func89 ntmps89 (eg (sn (O:=(.cells #[(vi cN),(vi cO),(vi cP),(vu cQ),(vs cR),cS.v] 76)) xb ?_))
 intro p1 w1 hn5
 have h:=h p1 w1 hn5
 refine nw1 h xb fun p2 w2 h=>?_
 refine nw1 h (zQ (zeroValue76 _) rfl) fun p3 w3 h=>?_
 refine ln (eg ?_)
 obtain ⟨aL,aM,aR,aS,aN,bA,hv3,h⟩:=h
 refine qa (isAgg76 _) (sizeOf76 _) hv3 ?_
 obtain ⟨bD,bE,bO,bP,bF,bQ,hv2,h⟩:=h
 refine qa (isAgg76 _) (sizeOf76 _) hv2 (nw4 (fun p=>(Sl.mk (some p) 2 2).v) h fun p4 w4 h=>?_)
 refine q ?_
 refine sro (sizeOf76 _) h fun w5 h=>?_
 refine ln (er ?_)
 obtain ⟨aA,aB,aI,aJ,aC,aK,hv1,h⟩:=h
 refine gg1 results89 (rva (isAgg76 _) (sizeOf76 _) hv1) ⟨aA,aB,aI,aJ,aC,aK,rfl,h⟩
def m_P4 (s1:ByteArray) (w:World) (K:Int→Int→Int→Int→ByteArray→Sl→WP):Prop :=∀(p1:Addr) (w1:World),New w (.cells #[(vi 0),(vi 0),(vi 0),(vu 0),ve,Sl.nil.v] 76) p1 w1→(∀j,j<6→CanW w1 (p1.add j))∧∀w2:World,w2=storeRow w1 p1 [(vi 3),(vi 0),(vi 0),(vu 0),(vs s1),Sl.nil.v]→∃aA aB:Int,∃aI aJ:Int,∃aC:ByteArray,∃aK:Sl,Row w2 p1 [(vi aA),(vi aB),(vi aI),(vu aJ),(vs aC),aK.v]∧K aA aB aI aJ aC aK w2
theorem w_P4 (s1:ByteArray) (w:World) (K:Int→Int→Int→Int→ByteArray→Sl→WP) (h:m_P4 s1 w K) :
  Calls prog 90 #[(vs s1)] w (fun e w'=>∃aE aF:Int,∃aG aD:Int,∃aH:ByteArray,∃bK:Sl,e=.returned (.agg #[(vi aE),(vi aF),(vi aG),(vu aD),(vs aH),bK.v])∧K aE aF aG aD aH bK w'):=by
 refine cw (args:=[(vs s1)]) func90 ntmps90 (eg (sn (O:=(.cells #[(vi 0),(vi 0),(vi 0),(vu 0),ve,Sl.nil.v] 76)) (zQ (zeroValue76 _) rfl) ?_))
 intro p1 w1 hn2
 have h:=h p1 w1 hn2
 refine ln (eg (qb ?_))
 refine sro (sizeOf76 _) h fun w2 h=>?_
 refine ln (er ?_)
 obtain ⟨aA,aB,aI,aJ,aC,aK,hv1,h⟩:=h
 refine gg1 results90 (rva (isAgg76 _) (sizeOf76 _) hv1) ⟨aA,aB,aI,aJ,aC,aK,rfl,h⟩
def m_Q4 (n1:Int) (w:World) (K:Int→Int→Int→Int→ByteArray→Sl→WP):Prop :=∀(p1:Addr) (w1:World),New w (.cells #[(vi 0),(vi 0),(vi 0),(vu 0),ve,Sl.nil.v] 76) p1 w1→(∀j,j<6→CanW w1 (p1.add j))∧∀w2:World,w2=storeRow w1 p1 [(vi 2),(vi 0),(vi 0),(vu n1),ve,Sl.nil.v]→∃aA aB:Int,∃aI aJ:Int,∃aC:ByteArray,∃aK:Sl,Row w2 p1 [(vi aA),(vi aB),(vi aI),(vu aJ),(vs aC),aK.v]∧K aA aB aI aJ aC aK w2
theorem w_Q4 (n1:Int) (w:World) (K:Int→Int→Int→Int→ByteArray→Sl→WP) (h:m_Q4 n1 w K) :
  Calls prog 91 #[(vu n1)] w (fun e w'=>∃aE aF:Int,∃aG aD:Int,∃aH:ByteArray,∃bK:Sl,e=.returned (.agg #[(vi aE),(vi aF),(vi aG),(vu aD),(vs aH),bK.v])∧K aE aF aG aD aH bK w'):=by
 refine cw (args:=[(vu n1)]) func91 ntmps91 (eg (sn (O:=(.cells #[(vi 0),(vi 0),(vi 0),(vu 0),ve,Sl.nil.v] 76)) (zQ (zeroValue76 _) rfl) ?_))
 intro p1 w1 hn2
 have h:=h p1 w1 hn2
 refine ln (eg (qb ?_))
 refine sro (sizeOf76 _) h fun w2 h=>?_
 refine ln (er ?_)
 obtain ⟨aA,aB,aI,aJ,aC,aK,hv1,h⟩:=h
 refine gg1 results91 (rva (isAgg76 _) (sizeOf76 _) hv1) ⟨aA,aB,aI,aJ,aC,aK,rfl,h⟩
end Go.Proofs
end
section
open Go Go.SE
namespace Go.Sp
def qG (x:ByteArray):Tree:=.mk 3 0 0 0 x []
def jAT (n:Int):Tree:=.mk 2 0 0 n ⟨#[]⟩ []
def qJ (a b:Tree):Tree:=.mk 4 0 0 0 ⟨#[]⟩ [a,b]
def yH (n:Int) (a:Tree):Tree:=.mk 7 n 0 0 ⟨#[]⟩ [a]
def qZ (n:Int) (a:Tree) (fake:Bool):Tree:=.mk (if fake then 9 else 8) n (1 - n) 0 ⟨#[]⟩ [a]
def jPU:ByteArray:=⟨#[100,101,97,108]⟩
def qF (c:Int) (x:ByteArray):Tree:=qJ (qG jPU) (qJ (jAT c) (qG x))
end Go.Sp
namespace Go.Proofs
open Tryz
attribute [local irreducible] Calls
theorem TreeAt.leaf {S:NP} {w:World} {k f t u:Int} {x:ByteArray}:TreeAt S w Sl.nil (.mk k f t u x []) :=
 .mk k f t u x [] Sl.nil (fun _=>Sl.nil) rfl (by simp) (fun i h=>by simp at h) (fun i h=>by simp at h)
theorem TreeAt.one {S:NP} {w:World} {k f t u:Int} {x:ByteArray} {p:Addr} {A:Sp.Tree} {sa:Sl} {T:TypeId} (hB:Box w p (xN A sa) T) (hS:S p.block) (hA:TreeAt S w sa A):TreeAt S w ⟨some p,1,1⟩ (.mk k f t u x [A]):=by
 refine .mk k f t u x [A] _ (fun _=>sa) rfl (by simp) (fun i h=>?_) (fun i h=>?_)
 ·have:i=0:=by simpa using h
  subst this;exact ⟨p,⟨by omega,by simp,p,rfl,rfl⟩,hS,hB.row⟩
 ·have:i=0:=by simpa using h
  subst this;exact hA
theorem TreeAt.pair {S:NP} {w:World} {k f t u:Int} {x:ByteArray} {p:Addr} {A B:Sp.Tree} {sa sb:Sl} {T:TypeId} (hB:Box w p (xN A sa++xN B sb) T) (hS:S p.block) (hA:TreeAt S w sa A) (hB2:TreeAt S w sb B):TreeAt S w ⟨some p,2,2⟩ (.mk k f t u x [A,B]):=by
 refine .mk k f t u x [A,B] _ (fun i=>if i=0 then sa else sb) rfl (by simp) (fun i h=>?_) (fun i h=>?_)
 ·have:i=0∨i=1:=by simp at h;omega
  rcases this with rfl | rfl
  ·refine ⟨p,⟨by omega,by simp,p,rfl,rfl⟩,hS,fun i hi=>?_⟩;have:=hB.row i (by simp [xN] at hi ⊢;omega);have hi':i<6:=by simpa [xN] using hi
   rw [this];exact List.getElem?_append_left (by simp [xN];omega)
  ·refine ⟨p.add (1*6),⟨by omega,by simp,p,rfl,rfl⟩,by rw [zV];exact hS,fun i hi=>?_⟩;have hi':i<6:=by simpa [xN] using hi
   have:=hB.row (6+i) (by simp [xN];omega);rw [yZ,this,List.getElem?_append_right (by simp [xN])];simp [xN]
 ·have:i=0∨i=1:=by simp at h;omega
  rcases this with rfl | rfl
  ·exact hA
  ·exact hB2
abbrev RetT (n0:Nat) (w:World) (T:Sp.Tree) (e:Ending) (w':World):Prop:=∃s,e=.returned (.agg (xN T s).toArray)∧TreeAt (n0≤·) w' s T∧Pure w w'
theorem yG (n0:Nat) (x:ByteArray) (w:World) (h0:n0≤w.heap.size):Calls prog 90 #[.string x] w (RetT n0 w (Sp.qG x)):=by
 refine (w_P4 x w (fun k f t u y s w'=>(⟨k,f,t,u,y,0,0⟩:Sp.Node)=(Sp.qG x).node∧TreeAt (n0≤·) w' s (Sp.qG x)∧Pure w w') ?_).mono ?_
 ·unfold m_P4;intro p1 w1 h1;exact bx 6 (Box.of_new h1) rfl rfl (fun w' b E=>⟨_,_,_,_,_,Sl.nil,b.row,rfl,TreeAt.leaf,Ext.own (Ext.new h1) (New.own (Ext.refl w) h1) E⟩)
 ·rintro _ w' ⟨k,f,t,u,y,s,rfl,hn,hT,E⟩;cases hn;exact ⟨s,rfl,hT,E⟩
theorem uH (n0:Nat) (n:Int) (w:World) (h0:n0≤w.heap.size):Calls prog 91 #[.int .u64 n] w (RetT n0 w (Sp.jAT n)):=by
 refine (w_Q4 n w (fun k f t u y s w'=>(⟨k,f,t,u,y,0,0⟩:Sp.Node)=(Sp.jAT n).node∧TreeAt (n0≤·) w' s (Sp.jAT n)∧Pure w w') ?_).mono ?_
 ·unfold m_Q4;intro p1 w1 h1;exact bx 6 (Box.of_new h1) rfl rfl (fun w' b E=>⟨_,_,_,_,_,Sl.nil,b.row,rfl,TreeAt.leaf,Ext.own (Ext.new h1) (New.own (Ext.refl w) h1) E⟩)
 ·rintro _ w' ⟨k,f,t,u,y,s,rfl,hn,hT,E⟩;cases hn;exact ⟨s,rfl,hT,E⟩
theorem qP (n0:Nat) (A B:Sp.Tree) (sa sb:Sl) (w:World) (h0:n0≤w.heap.size) (hA:TreeAt (n0≤·) w sa A) (hB:TreeAt (n0≤·) w sb B) :
  Calls prog 89 #[.agg (xN A sa).toArray,.agg (xN B sb).toArray] w (RetT n0 w (Sp.qJ A B)):=by
 refine (w_O4 _ _ _ _ _ sa _ _ _ _ _ sb w (fun k f t u y s w'=>(⟨k,f,t,u,y,0,0⟩:Sp.Node)=(Sp.qJ A B).node∧TreeAt (n0≤·) w' s (Sp.qJ A B)∧Pure w w') ?_).mono ?_
 ·unfold m_O4
  intro p1 w1 h1 p2 w2 h2 p3 w3 h3
  have E1:Pure w w1:=Ext.new h1
  have E2:=E1.trans (Ext.new h2)
  have E3:Pure w w3:=E2.trans (Ext.new h3)
  have b1:=((Box.of_new h1).pure (Ext.new h2)).pure (Ext.new h3:Pure w2 w3)
  have b2:=(Box.of_new h2).pure (Ext.new h3:Pure w2 w3)
  refine ⟨_,_,_,_,_,sa,b1.row,_,_,_,_,_,sb,b2.row,?_⟩
  intro p4 w4 h4
  have o3:=New.own E2 h3
  have n34:p3.block≠p4.block:=New.ne h4 (Box.of_new h3).blk
  have E4:Pure w w4:=E3.trans (Ext.new h4)
  have o4:=New.own E3 h4
  refine bx 6 ((Box.of_new h3).pure (Ext.new h4)) rfl rfl (fun w' b E=>⟨_,_,_,_,_,_,b.row,rfl,?_,E4.own o3 E⟩)
  have b4:=(Box.of_new h4).ext E n34.symm
  have E5:=E4.own o3 E
  refine TreeAt.pair (A:=A) (B:=B) (sa:=sa) (sb:=sb) b4 (by show n0≤_;omega) (hA.pure E5) (hB.pure E5)
 ·rintro _ w' ⟨k,f,t,u,y,s,rfl,hn,hT,E⟩
  cases hn;exact ⟨s,rfl,hT,E⟩
theorem uP (n0:Nat) (n:Int) (A:Sp.Tree) (sa:Sl) (w:World) (h0:n0≤w.heap.size) (hA:TreeAt (n0≤·) w sa A) :
  Calls prog 88 #[.int .i64 n,.agg (xN A sa).toArray] w (RetT n0 w (Sp.yH n A)):=by
 refine (w_N4 n _ _ _ _ _ sa w (fun k f t u y s w'=>(⟨k,f,t,u,y,0,0⟩:Sp.Node)=(Sp.yH n A).node∧TreeAt (n0≤·) w' s (Sp.yH n A)∧Pure w w') ?_).mono ?_
 ·unfold m_N4
  intro p1 w1 h1 p3 w3 h3
  have E1:Pure w w1:=Ext.new h1
  have E3:Pure w w3:=E1.trans (Ext.new h3)
  have b1:=(Box.of_new h1).pure (Ext.new h3:Pure w1 w3)
  refine ⟨_,_,_,_,_,sa,b1.row,?_⟩
  intro p4 w4 h4
  have o3:=New.own E1 h3
  have n34:p3.block≠p4.block:=New.ne h4 (Box.of_new h3).blk
  have E4:Pure w w4:=E3.trans (Ext.new h4)
  have o4:=New.own E3 h4
  refine bx 6 ((Box.of_new h3).pure (Ext.new h4)) rfl rfl (fun w' b E=>⟨_,_,_,_,_,_,b.row,rfl,?_,E4.own o3 E⟩)
  have b4:=(Box.of_new h4).ext E n34.symm
  have E5:=E4.own o3 E
  exact TreeAt.one (A:=A) (sa:=sa) b4 (by show n0≤_;omega) (hA.pure E5)
 ·rintro _ w' ⟨k,f,t,u,y,s,rfl,hn,hT,E⟩
  cases hn;exact ⟨s,rfl,hT,E⟩
theorem yF (n0:Nat) (n:Int) (hn1:n=0∨n=1) (A:Sp.Tree) (fake:Bool) (sa:Sl) (w:World) (h0:n0≤w.heap.size) (hA:TreeAt (n0≤·) w sa A) :
  Calls prog 87 #[.int .i64 n,.agg (xN A sa).toArray,.bool fake] w (RetT n0 w (Sp.qZ n A fake)):=by
 refine (w_M4 n _ _ _ _ _ sa fake w (fun k f t u y s w'=>(⟨k,f,t,u,y,0,0⟩:Sp.Node)=(Sp.qZ n A fake).node∧TreeAt (n0≤·) w' s (Sp.qZ n A fake)∧Pure w w') ?_).mono ?_
 ·unfold m_M4
  intro p1 w1 h1 p3 w3 h3
  have E1:Pure w w1:=Ext.new h1
  have E3:Pure w w3:=E1.trans (Ext.new h3)
  have b1:=(Box.of_new h1).pure (Ext.new h3:Pure w1 w3)
  have hw:IntKind.i64.wrap (1 - n)=1 - n:=i64 (by omega) (by omega)
  rw [hw]
  refine ⟨fun h=>⟨_,_,_,_,_,sa,b1.row,?_⟩,fun h=>⟨_,_,_,_,_,sa,b1.row,?_⟩⟩
  all_goals
   intro p4 w4 h4
   have o3:=New.own E1 h3
   have n34:p3.block≠p4.block:=New.ne h4 (Box.of_new h3).blk
   have E4:Pure w w4:=E3.trans (Ext.new h4)
   have o4:=New.own E3 h4
   refine bx 6 ((Box.of_new h3).pure (Ext.new h4)) rfl rfl (fun w' b E=>⟨_,_,_,_,_,_,b.row,by rw [h];rfl,?_,E4.own o3 E⟩)
   have b4:=(Box.of_new h4).ext E n34.symm
   have E5:=E4.own o3 E
   exact TreeAt.one (A:=A) (sa:=sa) b4 (by show n0≤_;omega) (hA.pure E5)
 ·rintro _ w' ⟨k,f,t,u,y,s,rfl,hn,hT,E⟩
  cases hn;exact ⟨s,rfl,hT,E⟩
theorem jJY (n0:Nat) (c:Int) (x:ByteArray) (w:World) (h0:n0≤w.heap.size):Calls prog 86 #[.int .u64 c,.string x] w (RetT n0 w (Sp.qF c x)):=by
 refine (w_L4 c x w (fun k f t u y s w'=>(⟨k,f,t,u,y,0,0⟩:Sp.Node)=(Sp.qF c x).node∧TreeAt (n0≤·) w' s (Sp.qF c x)∧Pure w w') ?_).mono ?_
 ·unfold m_L4;intro p1 w1 h1;have E1:Pure w w1:=Ext.new h1;have o1:=New.own (Ext.refl w) h1;have s1:w.heap.size≤w1.heap.size:=E1.size;refine (yG w1.heap.size _ w1 (by omega)).mono ?_;rintro _ w2 ⟨sa,rfl,hA,E2⟩;have s2:=E2.size;refine ⟨_,_,_,_,_,sa,rfl,?_⟩;refine (uH w1.heap.size c w2 (by omega)).mono ?_;rintro _ w3 ⟨sb,rfl,hB,E3⟩;have s3:=E3.size;refine ⟨_,_,_,_,_,sb,rfl,?_⟩;refine (yG w1.heap.size x w3 (by omega)).mono ?_;rintro _ w4 ⟨sc,rfl,hC,E4⟩;have s4:=E4.size;refine ⟨_,_,_,_,_,sc,rfl,?_⟩;refine (qP w1.heap.size (Sp.jAT c) (Sp.qG x) sb sc w4 (by omega) (hB.pure E4) hC).mono ?_;rintro _ w5 ⟨sd,rfl,hD,E5⟩;have s5:=E5.size;refine ⟨_,_,_,_,_,sd,rfl,?_⟩;refine (qP w1.heap.size (Sp.qG Sp.jPU) (Sp.qJ (Sp.jAT c) (Sp.qG x)) sa sd w5 (by omega) (((hA.pure E3).pure E4).pure E5) hD).mono ?_;rintro _ w6 ⟨se,rfl,hE,E6⟩;have E:Pure w1 w6:=(((E2.trans E3).trans E4).trans E5).trans E6;refine ⟨_,_,_,_,_,se,rfl,?_⟩;refine bx 6 ((Box.of_new h1).pure E) rfl rfl (fun w' b E'=>⟨_,_,_,_,_,se,b.row,rfl,?_,(E1.trans E).own o1 E'⟩);exact (hE.ext E' (fun b hb e=>by have:=(Box.of_new h1).lt;have:w1.heap.size≤b:=hb;omega)).mono (fun b hb=>by show n0≤b;have:w1.heap.size≤b:=hb;omega)
 ·rintro _ w' ⟨k,f,t,u,y,s,rfl,hn,hT,E⟩;cases hn;exact ⟨s,rfl,hT,E⟩
end Go.Proofs
end
section
open Go Go.SE
namespace Go.Proofs
attribute [local irreducible] Calls
end Go.Proofs
end
section
open Go Go.SE
namespace Go.Proofs
open Tryz
attribute [local irreducible] Calls
theorem jCT (p:Addr) (w:World) {L:Sp.Pool} {F:NP} (hP:zR w p L F):Calls prog 103 #[.pointer (some p)] w (fun e w'=>∃r:Int,e=.returned (.int .i64 r)∧(r=L.length∧w'=w)):=by
 refine w_V3 _ w (fun r w'=>r=L.length∧w'=w) ?_;unfold m_V3;obtain ⟨s,m,h,_⟩:=hP;refine Br.f rfl ⟨p,rfl,s,h.box.cell0,?_,rfl⟩;have:=h.rows.len;rw [this];simp
theorem c_kids (p:Addr) (t:Int) (w:World) {L:Sp.Pool} {F:NP} (hP:zR w p L F) (hok:Sp.Ok L):Calls prog 277 #[.pointer (some p),.int .i64 t] w (fun e w'=>∃s:Sl,e=.returned s.v∧(Lst (fun b=>w.heap.size≤b∧b<w'.heap.size) w' 1 s (tmr (Sp.zG (Sp.nodeOf L t)))∧Pure w w')):=by
 refine w_F4 _ _ w (fun s w'=>Lst (fun b=>w.heap.size≤b∧b<w'.heap.size) w' 1 s (tmr (Sp.zG (Sp.nodeOf L t)))∧Pure w w') ?_;unfold m_F4;refine (jGN p t w hP hok).mono ?_;rintro _ w1 ⟨k,f,t',u,x,a,b,r,rfl,⟨hn,_⟩,E1⟩;refine ⟨_,_,_,_,_,_,_,_,rfl,?_⟩;intro p2 w2 h2;have E2:Pure w w2:=E1.trans (Ext.new h2);have o2:=New.own E1 h2;refine bx 7 (Box.of_new h2) rfl rfl (fun w3 b2 E=>?_);have E3:Pure w w3:=E2.own o2 E;refine ⟨k,b2.cell0,?_⟩;refine (jJW k w3).mono ?_;rintro _ w4 ⟨s1,s2,s3,s4,s5,ok,rfl,⟨hs,_⟩,E4⟩;refine ⟨_,_,_,_,_,_,rfl,?_⟩;have b24:=b2.pure E4;intro p3 w5 h5;have E5:Pure w4 w5:=Ext.new h5;have b25:=b24.pure E5;have ne:p2.block≠p3.block:=h5.ne b24.blk;have E05:Pure w w5:=(E3.trans E4).trans E5;have o5:=New.own (E3.trans E4) h5;refine bx 5 (Box.of_new h5) rfl rfl (fun w6 b3 E=>?_);have b26:=b25.ext E ne;have E06:Pure w w6:=E05.own o5 E;refine ⟨a,b26.cell rfl,b,b26.cell rfl,?_⟩;intro p4 w7 h7;have E7:Pure w6 w7:=Ext.new h7;have b4:=Box.of_new h7;have hsh:Sp.shapeOf k=⟨s1,s2,s3,s4,s5⟩:=hs.symm;have hk5:s5=0∨s5=1∨s5=2:=by have:=Sp.yL k;rw [hsh] at this;exact this
 refine ⟨s5,(b3.pure E7).cell rfl,_,jMT p4 s5 w7 hk5,?_,E06.trans E7⟩;have hks:Sp.zG (Sp.nodeOf L t)=[a,b].take s5.toNat:=by rw [← hn];simp [Sp.zG,hsh]
 rw [hks];have z:=h7.at_size;have z6:=E06.size;have zl:=b4.lt;refine ⟨by rcases hk5 with rfl | rfl | rfl <;> rfl,fun i hi=>?_⟩;rw [qM] at hi;have hi2:i<s5.toNat:=by simp at hi;omega
 refine ⟨p4.add (i*1),⟨by omega,by show (i:Int)<(s5.toNat:Int);omega,p4,rfl,rfl⟩,by rw [zV];omega,?_⟩;intro j hj;have hj1:j<1:=by simp only [tmr,List.getElem_map,List.length_cons,List.length_nil] at hj;omega
 have hj0:j=0:=by omega
 subst hj0;rw [yZ];have h01:i=0∨i=1:=by omega
 rcases h01 with rfl | rfl
 ·rw [b4.cell (i:=0*1+0) rfl];simp [tmr]
 ·rw [b4.cell (i:=1*1+0) rfl];simp [tmr]
end Go.Proofs
end
section
namespace Go.Proofs
theorem toNat_ofNat {n:Nat} (h:n<256):(UInt8.ofNat n).toNat=n:=by simp [UInt8.toNat_ofNat];omega
theorem pow9 {i m:Nat} (hi:i≤9) (h:m*128 ^ i<18446744073709551616):i=9→m<2:=by
 rintro rfl;omega
theorem jQM:∀(m i acc:Nat) (c:List UInt8),i≤9→m*128 ^ i<18446744073709551616→(0<i→0<m)→xX i acc (vU m++c)=.ok (acc+m*128 ^ i,i+(vU m).length):=by
 intro m;induction m using Nat.strongRecOn with
 | ind m ih =>
  intro i acc c hi hm h0
  have h9:=pow9 hi hm
  by_cases h:m<128
  ·rw [xL h,List.singleton_append,xD,toNat_ofNat (by omega),if_neg (by omega),if_pos h,if_neg (by omega),List.length_singleton]
  ·rw [tO (by omega),List.cons_append,xD,toNat_ofNat (by omega),if_neg (by omega),if_neg (by omega)]
   have e:m / 128*128 ^ (i+1)=m / 128*128*128 ^ i:=by rw [Nat.pow_succ,Nat.mul_assoc,Nat.mul_comm 128]
   have le:m / 128*128*128 ^ i≤m*128 ^ i:=Nat.mul_le_mul_right _ (by omega)
   rw [ih (m / 128) (by omega) (i+1) _ c (by omega) (by omega) (by omega),e,List.length_cons]
   have e2:(m % 128+128) % 128=m % 128:=by omega
   have e3:m*128 ^ i=m % 128*128 ^ i+m / 128*128*128 ^ i:=by rw [← Nat.add_mul];congr 1;omega
   rw [e2,e3]
   congr 2
   ·omega
   ·omega
theorem jDA {n:Nat} (h:n<18446744073709551616) (c:List UInt8):xX 0 0 (vU n++c)=.ok (n,(vU n).length):=by
 rw [jQM n 0 0 c (by omega) (by simpa using h) (by omega)];simp
theorem jVR {i y m:Nat} (hi:i≤8) (hy:y≤127) (hb:m*128 ^ (i+1)<18446744073709551616):(y+128*m)*128 ^ i<18446744073709551616:=by
 rw [Nat.pow_succ] at hb;obtain ⟨q,hq⟩:∃q,18446744073709551616=q*(128 ^ i*128):=by
  refine ⟨2 ^ (64 - 7*(i+1)),?_⟩;rw [show 128 ^ i*128=2 ^ (7*(i+1)) by rw [Nat.pow_mul];rfl,← Nat.pow_add,show 64 - 7*(i+1)+7*(i+1)=64 by omega]
 have hp:0<128 ^ i:=Nat.pow_pos (by omega);generalize 128 ^ i=P at *;rw [hq] at hb ⊢;have hm:m<q:=Nat.lt_of_mul_lt_mul_right hb;have h1:(y+128*m)*P<128*(m+1)*P:=Nat.mul_lt_mul_of_pos_right (by omega) hp;have h2:128*(m+1)*P≤128*q*P:=Nat.mul_le_mul_right _ (Nat.mul_le_mul_left _ hm);have h3:q*(P*128)=128*q*P:=by rw [Nat.mul_comm P,← Nat.mul_assoc,Nat.mul_comm q]
 omega
theorem jQN:∀(l:List UInt8) (i acc n k:Nat),i≤9→xX i acc l=.ok (n,k)→∃m c,l=vU m++c∧n=acc+m*128 ^ i∧k=i+(vU m).length∧(0<i→0<m)∧m*128 ^ i<18446744073709551616:=by
 intro l;induction l with
 | nil=>intro i acc n k _ h;simp [xX] at h
 | cons x l ih =>
  intro i acc n k hi h
  have hx:=x.toNat_lt
  have hx8:UInt8.ofNat x.toNat=x:=by simp
  rw [xD] at h
  split at h
  ·cases h
  ·rename_i h9
   split at h
   ·rename_i h128
    split at h
    ·cases h
    ·rename_i hz
     cases h
     refine ⟨x.toNat,l,by rw [xL h128,hx8];rfl,rfl,by rw [xL h128];rfl,by omega,?_⟩
     have:i=0∨i=1∨i=2∨i=3∨i=4∨i=5∨i=6∨i=7∨i=8∨i=9:=by omega
     rcases this with rfl | rfl | rfl | rfl | rfl | rfl | rfl | rfl | rfl | rfl <;> omega
   ·rename_i h128
    have hi8:i≤8:=by omega
    obtain ⟨m,c,rfl,rfl,rfl,hp,hb⟩:=ih _ _ _ _ (by omega) h
    have hp:=hp (by omega)
    have hxm:0<x.toNat % 128+128*m:=by omega
    have e:x.toNat % 128+128*m=x.toNat % 128+128*m:=rfl
    refine ⟨x.toNat % 128+128*m,c,?_,?_,?_,fun _=>hxm,?_⟩
    ·rw [tO (n:=x.toNat % 128+128*m) (by omega),List.cons_append]
     have e1:(x.toNat % 128+128*m) % 128+128=x.toNat:=by omega
     have e2:(x.toNat % 128+128*m) / 128=m:=by omega
     rw [e1,e2,hx8]
    ·rw [Nat.add_mul,Nat.pow_succ]
     have:m*(128 ^ i*128)=128*m*128 ^ i:=by rw [Nat.mul_comm (128 ^ i),← Nat.mul_assoc,Nat.mul_comm m]
     omega
    ·rw [tO (n:=x.toNat % 128+128*m) (by omega),List.length_cons]
     have e2:(x.toNat % 128+128*m) / 128=m:=by omega
     rw [e2];omega
    ·exact jVR hi8 (by omega) hb
theorem jIW {l:List UInt8} {n k:Nat} (h:xX 0 0 l=.ok (n,k)):∃c,l=vU n++c∧k=(vU n).length∧n<18446744073709551616:=by
 obtain ⟨m,c,h1,h2,h3,_,h5⟩:=jQN l 0 0 n k (by omega) h;simp at h2 h3 h5;subst h2;exact ⟨c,h1,h3,h5⟩
end Go.Proofs
end
section
namespace Go.Sp
def uI (L:Pool):Prop:=∀e∈L,uO e.node.num
theorem uI.nil:uI []:=fun _ h=>(by cases h)
theorem uI.make {L:Pool} (h:uI L) {n:Node} (hn:uO n.num):uI (make L n).2.2:=by
 rcases jCB L n with e | ⟨_,e⟩
 ·rw [e];exact h
 ·rw [e];intro x hx;rcases List.mem_append.1 hx with hx | hx
  ·exact h x hx
  ·rw [List.mem_singleton] at hx;subst hx;exact hn
theorem uI.grow (t:Tree):∀L,uI L→NumT t→uI (grow L t).2.2:=by
 induction t using Tree.ind with
 | h k f t u x ks ih =>
  have:∀(ks:List Tree),(∀i (hi:i<ks.length),∀L,uI L→NumT ks[i]→uI (Sp.grow L ks[i]).2.2)→(∀i (hi:i<ks.length),NumT ks[i])→∀(n:Node) i L,uO n.num→uI L→uI (vB n i L ks).2.2:=by
   intro ks;induction ks with
   | nil=>intro _ _ n i L hn h;unfold vB;exact h.make hn
   | cons t ts iht =>
    intro hh hk n i L hn h
    have h0:=hh 0 (by simp) L h (hk 0 (by simp))
    simp only [List.getElem_cons_zero] at h0
    unfold vB
    split
    ·exact h0
    ·exact iht (fun i hi=>hh (i+1) (by simpa using hi)) (fun i hi=>hk (i+1) (by simpa using hi)) _ _ _ (by split <;> exact hn) h0
  intro L h hT
  cases hT with
  | mk _ _ _ _ _ _ own kids =>
   unfold Sp.grow
   exact this ks ih kids _ _ L own h
theorem uI.of {L:Pool} (h:uI L) {t:Tree} (hT:NumT t):uI (of L t).2.2:=by
 unfold Sp.of;split
 ·exact h
 ·split
  ·exact h
  ·exact uI.grow t L h hT
theorem uI.node {L:Pool} (h:uI L) (t:Int):uO (nodeOf L t).num:=by
 cases ht:inP L t with
 | true=>obtain ⟨e,he,hm,_⟩:=jCE ht;simp only [nodeOf,he,Option.map_some,Option.getD_some];exact h e hm
 | false=>simp only [nodeOf,uX ht,Option.map_none,Option.getD_none];exact ⟨by decide,by decide⟩
theorem jBZ {L:Pool} (hW:Wf L) {t:Int} (ht:inP L t=true):1≤(nodeOf L t).kind∧(nodeOf L t).kind≤9∧0≤(nodeOf L t).frm∧(nodeOf L t).frm<16∧0≤(nodeOf L t).to∧(nodeOf L t).to<16∧(nodeOf L t).text.size≤64:=by
 obtain ⟨h1,_,_,h4,_⟩:=hW.node ht;generalize nodeOf L t=n at *;have hp:isKind n.kind=true∧((shapeOf n.kind).frm=false→n.frm=0)∧((shapeOf n.kind).to=false→n.to=0):=by
  unfold zZ at h1;simp only at h1;split at h1
  ·cases h1
  ·rename_i h;simp at h;exact ⟨h.1.1.1.1,h.1.1.1.2,h.1.1.2⟩
 have hk:=hp.1;simp only [isKind,Bool.and_eq_true,decide_eq_true_eq] at hk;have hf:((shapeOf n.kind).frm=true→lE n.frm=true)∧((shapeOf n.kind).to=true→lE n.to=true)∧n.text.size≤64:=by
  unfold zY at h4;split at h4
  ·cases h4
  ·rename_i h;split at h4
   ·cases h4
   ·simp at h;exact ⟨fun hh=>h.1 hh,fun hh=>(h.2 hh).1,by omega⟩
 refine ⟨hk.1,hk.2,?_⟩;have n1:0≤n.frm∧n.frm<16:=by
  cases hs:(shapeOf n.kind).frm with
  | true=>have:=hf.1 hs;simpa [lE] using this
  | false=>rw [hp.2.1 hs];decide
 have n2:0≤n.to∧n.to<16:=by
  cases hs:(shapeOf n.kind).to with
  | true=>have:=hf.2.1 hs;simpa [lE] using this
  | false=>rw [hp.2.2 hs];decide
 exact ⟨n1.1,n1.2,n2.1,n2.2,hf.2.2⟩
end Go.Sp
namespace Go.Proofs
theorem jNH (k:Int):(uS k).length≤3:=by
 unfold uS;repeat' split
 all_goals decide
theorem jWE (n:Sp.Node) (na nb:Nat) (f:Fld) (h1:n.frm<16) (h2:n.to<16) (h3:Sp.uO n.num) (h4:n.text.size≤64) (ha:na<65537) (hb:nb<65537):(f.bytes n na nb).length≤74:=by
 have h3:=h3.2;cases f <;> simp only [Fld.bytes,qN,List.length_append]
 ·have:=vX (n:=n.frm.toNat) (by omega);omega
 ·have:=vX (n:=n.to.toNat) (by omega);omega
 ·have:=vX (n:=n.num.toNat) (by omega);omega
 ·have:=vX (n:=n.text.size) (by omega);have:n.text.data.toList.length=n.text.size:=Array.length_toList;omega
 ·have:=vX (n:=na) (by omega);omega
 ·have:=vX (n:=nb) (by omega);omega
theorem jRR {α β:Type} (f:α→List β) (c:Nat):∀l:List α,(∀x∈l,(f x).length≤c)→(l.flatMap f).length≤c*l.length:=by
 intro l;induction l with
 | nil=>intro _;simp
 | cons a l ih =>
  intro h
  have h1:=h a (by simp)
  have h2:=ih (fun x hx=>h x (List.mem_cons_of_mem _ hx))
  rw [List.flatMap_cons,List.length_append,List.length_cons,Nat.mul_succ];omega
theorem jBX (l:List Int) (t:Int):posOf l t≤l.length:=List.idxOf_le_length
theorem jJD {L:Sp.Pool} (hW:Sp.Wf L) (hN:Sp.uI L) {seen:List Int} {t:Int} (ht:Sp.inP L t=true) (hs:seen.length≤65536):(yO L seen t).length≤300:=by
 obtain ⟨_,_,_,h1,_,h2,h4⟩:=Sp.jBZ hW ht;have:=jRR (Fld.bytes (Sp.nodeOf L t) (posOf seen (Sp.nodeOf L t).a) (posOf seen (Sp.nodeOf L t).b)) 74 (uS (Sp.nodeOf L t).kind) (fun f _=>jWE _ _ _ f h1 h2 (hN.node t) h4 (by have:=jBX seen (Sp.nodeOf L t).a;omega) (by have:=jBX seen (Sp.nodeOf L t).b;omega));have h3:=jNH (Sp.nodeOf L t).kind;have:74*(uS (Sp.nodeOf L t).kind).length≤74*3:=Nat.mul_le_mul_left _ h3;unfold yO;rw [List.length_cons];omega
theorem jIM {L:Sp.Pool} (hW:Sp.Wf L) (hN:Sp.uI L):∀(l seen:List Int),(∀t∈l,Sp.inP L t=true)→seen.length+l.length≤65536→(vC L seen l).length≤300*l.length:=by
 intro l;induction l with
 | nil=>intro seen _ _;simp [vC]
 | cons t l ih =>
  intro seen h hl
  rw [List.length_cons] at hl
  have h1:=jJD hW hN (seen:=seen) (h t (by simp)) (by omega)
  have h2:=ih (seen++[t]) (fun x hx=>h x (List.mem_cons_of_mem _ hx)) (by rw [List.length_append,List.length_singleton];omega)
  rw [vC,List.length_append,List.length_cons,Nat.mul_succ];omega
end Go.Proofs
end
section
namespace Go.Proofs
theorem jTS {L:Sp.Pool} (hW:Sp.Wf L) {t:Int} (ht:Sp.inP L t=true) :
  (Fld.from_∈uS (Sp.nodeOf L t).kind∨(Sp.nodeOf L t).frm=0)∧(Fld.to_∈uS (Sp.nodeOf L t).kind∨(Sp.nodeOf L t).to=0)∧(Fld.num∈uS (Sp.nodeOf L t).kind∨(Sp.nodeOf L t).num=0) ∧
  (Fld.text∈uS (Sp.nodeOf L t).kind∨(Sp.nodeOf L t).text=⟨#[]⟩)∧(Fld.fst∈uS (Sp.nodeOf L t).kind∨(Sp.nodeOf L t).a=0)∧(Fld.snd∈uS (Sp.nodeOf L t).kind∨(Sp.nodeOf L t).b=0):=by
 obtain ⟨h1,h2,h3,_⟩:=hW.node ht
 obtain ⟨k1,k9,_⟩:=Sp.jBZ hW ht
 generalize Sp.nodeOf L t=n at *
 obtain ⟨k,f,t,u,x,a,b⟩:=n
 simp only at *
 unfold Sp.zZ at h1
 have:k=1∨k=2∨k=3∨k=4∨k=5∨k=6∨k=7∨k=8∨k=9:=by omega
 rcases this with rfl | rfl | rfl | rfl | rfl | rfl | rfl | rfl | rfl <;> simp [uS,Sp.shapeOf,Sp.isKind] at*<;> simp_all
def Fld.same (n m:Sp.Node) (na nb ma mb:Nat):Fld→Prop
 | .from_=>n.frm.toNat=m.frm.toNat | .to_=>n.to.toNat=m.to.toNat | .num=>n.num.toNat=m.num.toNat | .text=>n.text=m.text | .fst=>na=ma | .snd=>nb=mb
theorem jLW {n:Sp.Node} (h:Fld.fst∈uS n.kind):n.a∈Sp.zG n:=by
 unfold uS at h;unfold Sp.zG Sp.shapeOf
 repeat' split at h
 all_goals first | (exfalso;revert h;decide) | skip
 all_goals (rename_i h1;rw [h1];simp)
theorem jLE {n:Sp.Node} (h:Fld.snd∈uS n.kind):n.b∈Sp.zG n:=by
 unfold uS at h;unfold Sp.zG Sp.shapeOf
 repeat' split at h
 all_goals first | (exfalso;revert h;decide) | skip
 all_goals (rename_i h1;rw [h1];simp)
theorem jOQ {L:Sp.Pool} (hW:Sp.Wf L) {s t:Int} (hs:Sp.inP L s=true) (ht:Sp.inP L t=true) (h:Sp.nodeOf L s=Sp.nodeOf L t):s=t:=by
 obtain ⟨i,hi,rfl⟩:=Sp.tA hs;obtain ⟨j,hj,rfl⟩:=Sp.tA ht;rw [Sp.qB hi,Sp.qB hj] at h;have:=hW.ok.nodup;have e:i=j:=by
  refine (List.getElem_inj (h₀:=by simpa using hi) (h₁:=by simpa using hj) this).1 ?_;simpa using h
 rw [e]
def OrdF (L:Sp.Pool):List Int→List Int→Prop
 | _,[]=>True
 | seen,z :: l=>(∀k∈Sp.zG (Sp.nodeOf L z),k∈seen)∧OrdF L (seen++[z]) l
theorem jVS {L:Sp.Pool}:∀(l seen:List Int),(∀pre z post,l=pre++z :: post→∀k∈Sp.zG (Sp.nodeOf L z),k∈seen++pre)→OrdF L seen l:=by
 intro l;induction l with
 | nil=>intro _ _;trivial
 | cons z l ih =>
  intro seen h
  refine ⟨fun k hk=>by simpa using h [] z l rfl k hk,ih _ (fun pre y post e k hk=>?_)⟩
  have:=h (z :: pre) y post (by rw [e];rfl) k hk
  simpa using this
theorem jJA {L:Sp.Pool} (hW:Sp.Wf L) (t:Int):OrdF L [] (Sp.subs L t):=jVS _ _ (fun pre z post e k hk=>by rw [List.nil_append];exact Sp.jMQ hW t pre z post e k hk)
theorem jCM {L:Sp.Pool} (hW:Sp.Wf L) {t u:Int} (h:u∈Sp.subs L t):Sp.inP L u=true:=have h:=(Sp.jGX hW).1 h;(Sp.Sub.le hW h.1 h.2).1
theorem jGZ {L:Sp.Pool} (hW:Sp.Wf L) {t:Int} (h:Sp.inP L t=true):t∈Sp.subs L t:=(Sp.jGX hW).2 ⟨h,.refl _⟩
end Go.Proofs
end
section
namespace Go.Sp
theorem jDY {α β γ δ:Type} {f:α→γ} {g:β→γ} {f':α→δ} {g':β→δ}:∀{K1:List α} {K2:List β},K1.map f=K2.map g→(∀a∈K1,∀b∈K2,f a=g b→f' a=g' b)→K1.map f'=K2.map g':=by
 intro K1;induction K1 with
 | nil=>intro K2 h _;cases K2 with
  | nil=>rfl
  | cons b K2=>simp at h
 | cons a K1 ih=>intro K2 h hh;cases K2 with
  | nil=>simp at h
  | cons b K2 =>
   simp only [List.map_cons,List.cons.injEq] at h ⊢
   exact ⟨hh a (by simp) b (by simp) h.1,ih h.2 (fun x hx y hy=>hh x (List.mem_cons_of_mem _ hx) y (List.mem_cons_of_mem _ hy))⟩
theorem jBJ {L M:Pool} (hL:Wf L) (hM:Wf M) {s t:Int} (hs:inP L s=true) (ht:inP M t=true) (h:zD L s=zD M t) :
  (nodeOf L s).kind=(nodeOf M t).kind∧(nodeOf L s).frm=(nodeOf M t).frm∧(nodeOf L s).to=(nodeOf M t).to∧(nodeOf L s).num=(nodeOf M t).num∧(nodeOf L s).text=(nodeOf M t).text∧(zG (nodeOf L s)).map (zD L)=(zG (nodeOf M t)).map (zD M):=by
 rw [vS hL hs,vS hM ht] at h
 simpa using h
theorem jPX {L M:Pool} (hL:Wf L) (hM:Wf M):∀(n:Nat) (s t:Int),s.toNat=n→inP L s=true→inP M t=true→zD L s=zD M t→sizeOf L s=sizeOf M t∧depthOf L s=depthOf M t:=by
 intro n;induction n using Nat.strongRecOn with
 | _ n ih =>
 intro s t hn hs ht h;have hk:=(jBJ hL hM hs ht h).2.2.2.2.2;obtain ⟨_,_,_,_,c1,c2,c3⟩:=hL.node hs;obtain ⟨_,_,_,_,d1,d2,d3⟩:=hM.node ht;have key:∀a∈zG (nodeOf L s),∀b∈zG (nodeOf M t),zD L a=zD M b→sizeOf L a=sizeOf M b∧depthOf L a=depthOf M b:=fun a ha b hb e=>by
  have:=zX.1 (c1 a ha).1;exact ih a.toNat (by have:=(c1 a ha).2;omega) a b rfl (c1 a ha).1 (d1 b hb).1 e
 refine ⟨?_,?_⟩
 ·rw [c2,d2,jDY hk (fun a ha b hb e=>(key a ha b hb e).1)]
 ·have e:=jDY hk (fun a ha b hb e=>(key a ha b hb e).2);rw [c3,d3];have f1:∀(l:List Int) (P:Pool),l.foldl (fun d k=>max d (depthOf P k)) 0=(l.map (depthOf P)).foldl max 0:=fun l P=>by rw [List.foldl_map]
  rw [f1,f1,e]
theorem jRD {L:Pool} (hL:Wf L):∀{K1 K2:List Int},(∀k∈K1,inP L k=true)→(∀k∈K2,inP L k=true)→K1.map (zD L)=K2.map (zD L)→K1=K2:=by
 intro K1;induction K1 with
 | nil=>intro K2 _ _ h;cases K2 with
  | nil=>rfl
  | cons b K2=>simp at h
 | cons a K1 ih=>intro K2 h1 h2 h;cases K2 with
  | nil=>simp at h
  | cons b K2 =>
   simp only [List.map_cons,List.cons.injEq] at h
   rw [xB hL _ a b rfl (h1 a (by simp)) (h2 b (by simp)) h.1,ih (fun k hk=>h1 k (List.mem_cons_of_mem _ hk)) (fun k hk=>h2 k (List.mem_cons_of_mem _ hk)) h.2]
structure Ren (L q:Pool) (z:Int) (n:Node):Prop where
 kind:n.kind=(nodeOf L z).kind
 frm:n.frm=(nodeOf L z).frm
 to:n.to=(nodeOf L z).to
 num:n.num=(nodeOf L z).num
 text:n.text=(nodeOf L z).text
 kin:∀k∈zG n,inP q k=true
 kids:(zG n).map (zD q)=(zG (nodeOf L z)).map (zD L)
 a0:(shapeOf n.kind).kids<1→n.a=0
 b0:(shapeOf n.kind).kids<2→n.b=0
theorem jRL {n m:Node} (hk:n.kind=m.kind) (h:zG n=zG m) (a1:(shapeOf n.kind).kids<1→n.a=0) (b1:(shapeOf n.kind).kids<2→n.b=0) (a2:(shapeOf m.kind).kids<1→m.a=0) (b2:(shapeOf m.kind).kids<2→m.b=0):n.a=m.a∧n.b=m.b:=by
 unfold zG at h;rw [← hk] at h a2 b2;rcases yL n.kind with e | e | e
 ·exact ⟨by rw [a1 (by omega),a2 (by omega)],by rw [b1 (by omega),b2 (by omega)]⟩
 ·rw [e] at h;simp at h;exact ⟨h,by rw [b1 (by omega),b2 (by omega)]⟩
 ·rw [e] at h;simpa using h
section
variable {L q:Pool} (hL:Wf L) (hq:Wf q) {z:Int} (hz:inP L z=true) {n:Node} (h:Ren L q z n)
include hL hq hz h
theorem Ren.check:check q n=(sizeOf L z,depthOf L z,0):=by
 obtain ⟨p1,p2,p3,p4,p5,p6,p7⟩:=hL.node hz;have e1:zZ n=0:=by
  have:zZ n=zZ (nodeOf L z):=by unfold zZ;rw [h.kind,h.frm,h.to,h.num,h.text]
  rw [this,p1]
 have e2:zY (shapeOf n.kind) n=0:=by
  have:zY (shapeOf n.kind) n=zY (shapeOf (nodeOf L z).kind) (nodeOf L z):=by unfold zY;rw [h.kind,h.frm,h.to,h.text]
  rw [this,p4]
 have key:∀a∈zG n,∀b∈zG (nodeOf L z),zD q a=zD L b→sizeOf q a=sizeOf L b∧depthOf q a=depthOf L b:=fun a ha b hb e=>jPX hq hL _ a b rfl (h.kin a ha) (p5 b hb).1 e;have e3:=jDY h.kids (fun a ha b hb e=>(key a ha b hb e).1);have e4:=jDY h.kids (fun a ha b hb e=>(key a ha b hb e).2);have f1:∀(l:List Int) (P:Pool),l.foldl (fun d k=>max d (depthOf P k)) 0=(l.map (depthOf P)).foldl max 0:=fun l P=>by rw [List.foldl_map]
 have s1:1+((zG n).map (sizeOf q)).sum=sizeOf L z:=by rw [e3,p6]
 have s2:(zG n).foldl (fun d k=>max d (depthOf q k)) 0+1=depthOf L z:=by rw [f1,e4,← f1,p7]
 have b1:=hL.ok.sizeOf z;have b2:=hL.ok.depthOf z;unfold Sp.check;simp only;rw [if_neg (by simpa using e1),if_neg,if_neg (by simpa using e2),if_neg,s1,s2,if_neg (by omega)]
 ·simp only [List.any_eq_true,not_exists,not_and];intro k hk;rw [h.kin k hk];decide
 ·have a0:=h.a0;have b0:=h.b0;simp only [Bool.or_eq_true,Bool.and_eq_true,decide_eq_true_eq,bne_iff_ne,ne_eq,not_or,not_and,Decidable.not_not];exact ⟨a0,b0⟩
omit hq in
theorem Ren.tree {v:Int} {M:Pool} (hM:Wf M) (hv:inP M v=true) (hn:nodeOf M v=n) (hk:∀k∈zG n,zD M k=zD q k):zD M v=zD L z:=by
 rw [vS hM hv,vS hL hz,hn,h.kind,h.frm,h.to,h.num,h.text,← h.kids];congr 1;exact List.map_congr_left hk
theorem Ren.node {v:Int} (hv:inP q v=true) (ht:zD q v=zD L z):nodeOf q v=n:=by
 obtain ⟨k1,k2,k3,k4,k5,k6⟩:=jBJ hq hL hv hz ht;obtain ⟨_,c2,c3,_,c5,_⟩:=hq.node hv;have hkk:=jRD hq (fun k hk=>(c5 k hk).1) h.kin (k6.trans h.kids.symm);obtain ⟨ea,eb⟩:=jRL (k1.trans h.kind.symm) hkk c2 c3 h.a0 h.b0;have g1:=h.kind;have g2:=h.frm;have g3:=h.to;have g4:=h.num;have g5:=h.text;generalize nodeOf q v=m at *;generalize nodeOf L z=o at *;cases m;cases n;simp_all
theorem Ren.find_none (hn:∀v,inP q v=true→zD q v≠zD L z):find q n=none:=by
 cases hf:find q n with
 | none=>rfl
 | some i =>
  exfalso
  obtain ⟨hi,e⟩:=jCF hf
  have hv:inP q ((i:Int)+1)=true:=zX.2 ⟨by omega,by omega⟩
  exact hn _ hv (h.tree hL hz hq hv (by rw [qB hi,e]) (fun _ _=>rfl))
theorem Ren.find_old {v:Int} (hv:inP q v=true) (ht:zD q v=zD L z):find q n=some (v - 1).toNat:=by
 have hn:=h.node hL hq hz hv ht;cases hf:find q n with
 | none =>
  exfalso
  unfold find at hf
  rw [List.findIdx?_eq_none_iff] at hf
  obtain ⟨i,hi,rfl⟩:=tA hv
  rw [qB hi] at hn
  have:=hf q[i] (List.getElem_mem hi)
  simp at this;exact this hn
 | some i =>
  obtain ⟨hi,e⟩:=jCF hf
  have hv2:inP q ((i:Int)+1)=true:=zX.2 ⟨by omega,by omega⟩
  have:=Go.Proofs.jOQ hq hv2 hv (by rw [qB hi,e,hn])
  rw [← this];simp
theorem Ren.make_old {v:Int} (hv:inP q v=true) (ht:zD q v=zD L z):make q n=(v,0,q):=by
 have hc:=h.check hL hq hz;have hf:=h.find_old hL hq hz hv ht;have h1:=(zX.1 hv).1;unfold make;simp only [hc,hf];rw [if_neg (by simp)];simp only [Prod.mk.injEq,and_true];omega
theorem Ren.make_new (hn:∀v,inP q v=true→zD q v≠zD L z) (hl:q.length<65536):make q n=((q.length:Int)+1,0,q++[⟨n,sizeOf L z,depthOf L z⟩]):=by
 have hc:=h.check hL hq hz;have hf:=h.find_none hL hq hz hn;unfold make;simp only [hc,hf];rw [if_neg (by simp),if_neg (by omega)]
theorem Ren.make_full (hl:¬ q.length<65536) (hn:∀v,inP q v=true→zD q v≠zD L z):make q n=(0,6,q):=by
 have hc:=h.check hL hq hz;have hf:=h.find_none hL hq hz hn;unfold make;simp only [hc,hf];rw [if_neg (by simp),if_pos (by omega)]
theorem Ren.made (h0:(make q n).2.1=0):Wf (make q n).2.2∧inP (make q n).2.2 (make q n).1=true∧zD (make q n).2.2 (make q n).1=zD L z∧∀v,inP q v=true→inP (make q n).2.2 v=true∧zD (make q n).2.2 v=zD q v:=by
 have hw:=lJ hq n;obtain ⟨M,e⟩:=lD q n;obtain ⟨m1,m2,_⟩:=lQ h0;have hold:∀v,inP q v=true→inP (make q n).2.2 v=true∧zD (make q n).2.2 v=zD q v:=fun v hv=>by
  rw [e] at hw ⊢;exact ⟨jAX hv,lL hw _ v rfl hv⟩
 exact ⟨hw,m1,h.tree hL hz hw m1 m2 (fun k hk=>(hold k (h.kin k hk)).2),hold⟩
theorem Ren.err:(make q n).2.1=0∨(make q n).2.1=6∧65536≤q.length∧∀v,inP q v=true→zD q v≠zD L z:=by
 by_cases hx:∃v,inP q v=true∧zD q v=zD L z
 ·obtain ⟨v,hv,ht⟩:=hx;rw [h.make_old hL hq hz hv ht];exact .inl rfl
 ·have hx:∀v,inP q v=true→zD q v≠zD L z:=fun v hv e=>hx ⟨v,hv,e⟩;by_cases hl:q.length<65536
  ·rw [h.make_new hL hq hz hx hl];exact .inl rfl
  ·rw [h.make_full hL hq hz hl hx];exact .inr ⟨rfl,by omega,hx⟩
end
end Go.Sp
end
section
namespace Go.Sp
open Go.Proofs
structure Cp (Lq L:Pool) (own:Int→Int) (seen:List Int):Prop where
 wf:Wf L
 inn:∀s∈seen,inP Lq s=true
 at_:∀s∈seen,inP L (own s)=true∧zD L (own s)=zD Lq s
 out:∀x,x ∉ seen→own x=0
theorem jGI (n:Node) (own:Int→Int):zG { n with a:=own n.a,b:=own n.b }=(zG n).map own:=by
 unfold zG;simp only [List.map_take,List.map_cons,List.map_nil]
theorem Cp.ren {Lq L:Pool} {own:Int→Int} {seen:List Int} (h:Cp Lq L own seen) (hq:Wf Lq) {z:Int} (hz:inP Lq z=true) (hk:∀k∈zG (nodeOf Lq z),k∈seen) :
  Ren Lq L z { nodeOf Lq z with a:=own (nodeOf Lq z).a,b:=own (nodeOf Lq z).b }:=by
 obtain ⟨_,c2,c3,_⟩:=hq.node hz
 have o0:own 0=0:=h.out 0 (fun h0=>by have:=(zX.1 (h.inn 0 h0)).1;omega)
 refine ⟨rfl,rfl,rfl,rfl,rfl,?_,?_,fun e=>by simp only;rw [c2 e,o0],fun e=>by simp only;rw [c3 e,o0]⟩
 ·intro k hk2
  rw [jGI] at hk2
  obtain ⟨x,hx,rfl⟩:=List.mem_map.1 hk2
  exact (h.at_ x (hk x hx)).1
 ·rw [jGI,List.map_map]
  exact List.map_congr_left (fun x hx=>(h.at_ x (hk x hx)).2)
theorem Cp.step {Lq L:Pool} {own:Int→Int} {seen:List Int} (h:Cp Lq L own seen) (hq:Wf Lq) {z:Int} (hz:inP Lq z=true) (hk:∀k∈zG (nodeOf Lq z),k∈seen) {n:Node} (hn:Ren Lq L z n) (h0:(make L n).2.1=0) :
  Cp Lq (make L n).2.2 (fun x=>if x=z then (make L n).1 else own x) (seen++[z]):=by
 obtain ⟨m1,m2,m3,m4⟩:=hn.made hq h.wf hz h0
 refine ⟨m1,fun s hs=>?_,fun s hs=>?_,fun x hx=>?_⟩
 ·rcases List.mem_append.1 hs with hs | hs
  ·exact h.inn s hs
  ·rw [List.mem_singleton] at hs;subst hs;exact hz
 ·by_cases e:s=z
  ·subst e;simp only [if_true];exact ⟨m2,m3⟩
  ·simp only [if_neg e]
   have hs:s∈seen:=(List.mem_append.1 hs).resolve_right (fun hs=>e (List.mem_singleton.1 hs))
   obtain ⟨a1,a2⟩:=h.at_ s hs
   exact ⟨(m4 _ a1).1,(m4 _ a1).2.trans a2⟩
 ·simp only [List.mem_append,List.mem_singleton,not_or] at hx
  rw [if_neg hx.2];exact h.out x hx.1
theorem jRE (L:Pool) (n:Node):(make L n).2.2.length≤L.length+1:=by
 rcases jCB L n with e | ⟨_,e⟩ <;> rw [e] <;> simp
theorem yC (Lq:Pool) (z:Int) (l:List Int) (L:Pool) (own:Int→Int) {n:Node} (hn:{ nodeOf Lq z with a:=own (nodeOf Lq z).a,b:=own (nodeOf Lq z).b }=n) {x e:Int} {L':Pool} (hm:make L n=(x,e,L')) :
  vM Lq (z :: l) L own=if e≠0 then (L,e,own) else vM Lq l L' (fun y=>if y=z then x else own y):=by
 subst hn
 show (if (make L _).2.1≠0 then _ else _)=_
 rw [hm]
theorem jRZ {Lq:Pool} (hq:Wf Lq):∀(l seen:List Int) (L:Pool) (own:Int→Int),Cp Lq L own seen→(∀z∈l,inP Lq z=true)→OrdF Lq seen l →
  ((vM Lq l L own).2.1=0∧Cp Lq (vM Lq l L own).1 (vM Lq l L own).2.2 (seen++l))∨((vM Lq l L own).2.1=6∧¬ (L.length+l.length≤65536)):=by
 intro l
 induction l with
 | nil=>intro seen L own h _ _;exact .inl ⟨rfl,by rw [List.append_nil];exact h⟩
 | cons z l ih =>
  intro seen L own h hl ho
  have hz:=hl z (by simp)
  have hn:=h.ren hq hz ho.1
  generalize hnn:({ nodeOf Lq z with a:=own (nodeOf Lq z).a,b:=own (nodeOf Lq z).b }:Node)=n at hn
  have hf:=jRE L n
  have he:=hn.err hq h.wf hz
  have hs:=fun h0=>h.step hq hz ho.1 hn h0
  obtain ⟨x,e,L',hm⟩:∃x e L',make L n=(x,e,L'):=⟨_,_,_,rfl⟩
  rw [yC Lq z l L own hnn hm]
  rw [hm] at hf he hs
  simp only at hf he hs
  rcases he with rfl | ⟨rfl,hg,_⟩
  ·rw [if_neg (by simp)]
   rcases ih _ _ _ (hs rfl) (fun x hx=>hl x (List.mem_cons_of_mem _ hx)) ho.2 with ⟨e1,e2⟩ | ⟨e1,e2⟩
   ·exact .inl ⟨e1,by rw [List.append_assoc,List.singleton_append] at e2;exact e2⟩
   ·refine .inr ⟨e1,fun hle=>e2 ?_⟩
    rw [List.length_cons] at hle;omega
  ·rw [if_pos (by simp)]
   exact .inr ⟨rfl,by rw [List.length_cons];omega⟩
theorem Cp.start {Lq L:Pool} (hL:Wf L):Cp Lq L (fun _=>0) []:=⟨hL,fun _ h=>(by cases h),fun _ h=>(by cases h),fun _ _=>rfl⟩
theorem jRW {L Lq:Pool} (hL:Wf L) (hq:Wf Lq) (t:Int):(qX L Lq t).2.1=0∨((qX L Lq t).1=0∧(qX L Lq t).2.2=L):=by
 unfold qX;split
 ·simp only;split
  ·exact .inr ⟨rfl,rfl⟩
  ·exact .inl rfl
 ·exact .inr ⟨rfl,rfl⟩
theorem jHS {L Lq:Pool} (hL:Wf L) (hq:Wf Lq) {t:Int} (ht:inP Lq t=true) (h0:(qX L Lq t).2.1=0) :
  Wf (qX L Lq t).2.2∧inP (qX L Lq t).2.2 (qX L Lq t).1=true∧zD (qX L Lq t).2.2 (qX L Lq t).1=zD Lq t:=by
 have h:=jRZ hq (subs Lq t) [] L (fun _=>0) (Cp.start hL) (fun z hz=>jCM hq hz) (jJA hq t)
 unfold qX at *
 rw [if_pos ht] at *
 simp only at *
 split at h0
 ·rename_i h1;exact absurd h0 h1
 ·rename_i h1
  rw [if_neg h1]
  simp only
  rcases h with ⟨_,h⟩ | ⟨h6,_⟩
  ·rw [List.nil_append] at h
   have:=h.at_ t (jGZ hq ht)
   exact ⟨h.wf,this.1,this.2⟩
  ·exact absurd (by rw [h6];decide) h1
structure OvC (L M:Pool) (s1 s2:(Int→Bool)×List Int):Prop where
 list:s1.2.map (zD L)=s2.2.map (zD M)
 i1:∀x∈s1.2,inP L x=true
 i2:∀x∈s2.2,inP M x=true
 mark:∀x y,inP L x=true→inP M y=true→zD L x=zD M y→s1.1 x=s2.1 y
theorem jQV {L M:Pool} (hL:Wf L) (hM:Wf M):∀(n:Nat) (m:Nat) (s t:Int) (st1 st2:(Int→Bool)×List Int),s.toNat<n→t.toNat<m→((inP L s=false∧inP M t=false)∨(inP L s=true∧inP M t=true∧zD L s=zD M t))→OvC L M st1 st2→OvC L M (qU L n s st1) (qU M m t st2):=by
 intro n;induction n with
 | zero=>intro m s t st1 st2 h;omega
 | succ n ih =>
  intro m s t st1 st2 hn hm hst hC
  cases m with
  | zero=>omega
  | succ m =>
  rw [qU,qU]
  rcases hst with ⟨e1,e2⟩ | ⟨hs,ht,e⟩
  ·rw [if_neg (by rw [e1];simp),if_neg (by rw [e2];simp)];exact hC
  ·have hmk:=hC.mark s t hs ht e
   rw [hs,ht]
   cases hv:st1.1 s with
   | true=>rw [if_neg (by simp),if_neg (by rw [← hmk,hv];simp)];exact hC
   | false =>
    rw [if_pos ⟨rfl,rfl⟩,if_pos ⟨rfl,by rw [← hmk,hv]⟩]
    obtain ⟨k1,_,_,_,_,k6⟩:=jBJ hL hM hs ht e
    obtain ⟨_,c2,c3,_,c5,_⟩:=hL.node hs
    obtain ⟨_,d2,d3,_,d5,_⟩:=hM.node ht
    have C1:OvC L M (upd st1.1 s true,st1.2) (upd st2.1 t true,st2.2):=⟨hC.list,hC.i1,hC.i2,fun x y hx hy exy=>by
     simp only [upd];by_cases ex:x=s
     ·subst ex;have:y=t:=xB hM _ y t rfl hy ht (exy.symm.trans e);rw [if_pos rfl,if_pos this]
     ·have:y≠t:=fun ey=>ex (xB hL _ x s rfl hx hs (by rw [exy,ey,e]));rw [if_neg ex,if_neg this];exact hC.mark x y hx hy exy⟩
    have hs1:=(zX.1 hs).1
    have ht1:=(zX.1 ht).1
    have kid : (((inP L (nodeOf L s).a = false ∧ inP M (nodeOf M t).a = false) ∨ (inP L (nodeOf L s).a = true ∧ inP M (nodeOf M t).a = true ∧ zD L (nodeOf L s).a = zD M (nodeOf M t).a)) ∧
      ((inP L (nodeOf L s).b=false∧inP M (nodeOf M t).b=false)∨(inP L (nodeOf L s).b=true∧inP M (nodeOf M t).b=true∧zD L (nodeOf L s).b=zD M (nodeOf M t).b))) ∧
      ((nodeOf L s).a.toNat<n∧(nodeOf L s).b.toNat<n)∧(nodeOf M t).a.toNat<m∧(nodeOf M t).b.toNat<m:=by
     have z0:∀P:Pool,inP P 0=false:=fun P=>by simp [inP]
     unfold zG at k6 c5 d5
     rw [← k1] at k6 d2 d3 d5
     rcases yL (nodeOf L s).kind with h | h | h
     ·rw [c2 (by omega),c3 (by omega),d2 (by omega),d3 (by omega)]
      exact ⟨⟨.inl ⟨z0 _,z0 _⟩,.inl ⟨z0 _,z0 _⟩⟩,⟨by omega,by omega⟩,by omega,by omega⟩
     ·rw [c3 (by omega),d3 (by omega)]
      rw [h] at k6 c5 d5
      simp at k6 c5 d5
      have:=zX.1 c5.1;have:=zX.1 d5.1
      exact ⟨⟨.inr ⟨c5.1,d5.1,k6⟩,.inl ⟨z0 _,z0 _⟩⟩,⟨by omega,by omega⟩,by omega,by omega⟩
     ·rw [h] at k6 c5 d5
      simp at k6 c5 d5
      have:=zX.1 c5.1.1;have:=zX.1 d5.1.1;have:=zX.1 c5.2.1;have:=zX.1 d5.2.1
      exact ⟨⟨.inr ⟨c5.1.1,d5.1.1,k6.1⟩,.inr ⟨c5.2.1,d5.2.1,k6.2⟩⟩,⟨by omega,by omega⟩,by omega,by omega⟩
    have r1:=ih m _ _ _ _ kid.2.1.1 kid.2.2.1 kid.1.1 C1
    have r2:=ih m _ _ _ _ kid.2.1.2 kid.2.2.2 kid.1.2 r1
    refine ⟨?_,?_,?_,r2.mark⟩
    ·simp only [List.map_append,List.map_cons,List.map_nil,r2.list,e]
    ·intro x hx
     rcases List.mem_append.1 hx with hx | hx
     ·exact r2.i1 x hx
     ·rw [List.mem_singleton] at hx;subst hx;exact hs
    ·intro x hx
     rcases List.mem_append.1 hx with hx | hx
     ·exact r2.i2 x hx
     ·rw [List.mem_singleton] at hx;subst hx;exact ht
theorem jIN {L M:Pool} (hL:Wf L) (hM:Wf M) {s t:Int} (hs:inP L s=true) (ht:inP M t=true) (e:zD L s=zD M t):(subs L s).map (zD L)=(subs M t).map (zD M) :=
 (jQV hL hM (s.toNat+1) (t.toNat+1) s t (fun _=>false,[]) (fun _=>false,[]) (by omega) (by omega) (.inr ⟨hs,ht,e⟩) ⟨rfl,by simp,by simp,fun _ _ _ _ _=>rfl⟩).list
theorem jGB {L M:Pool} (hL:Wf L) (hM:Wf M) {a b:Int} (ha:inP L a=true) (hb:inP M b=true) (e:zD L a=zD M b):∀(l1 l2:List Int),(∀x∈l1,inP L x=true)→(∀x∈l2,inP M x=true)→l1.map (zD L)=l2.map (zD M)→posOf l1 a=posOf l2 b:=by
 intro l1;induction l1 with
 | nil=>intro l2 _ _ h;cases l2 with
  | nil=>rfl
  | cons y l2=>simp at h
 | cons x l1 ih=>intro l2 h1 h2 h;cases l2 with
  | nil=>simp at h
  | cons y l2 =>
   simp only [List.map_cons,List.cons.injEq] at h
   have hi:=ih l2 (fun k hk=>h1 k (List.mem_cons_of_mem _ hk)) (fun k hk=>h2 k (List.mem_cons_of_mem _ hk)) h.2
   have hxy:(x == a)=(y == b):=by
    by_cases ex:x=a
    ·have:y=b:=xB hM _ y b rfl (h2 y (by simp)) hb (by rw [← h.1,ex,e]);simp [ex,this]
    ·have:y≠b:=fun ey=>ex (xB hL _ x a rfl (h1 x (by simp)) ha (by rw [h.1,ey,e]));rw [beq_false_of_ne ex,beq_false_of_ne this]
   unfold posOf at *
   rw [List.idxOf_cons,List.idxOf_cons,hxy,hi]
theorem jBM {L M:Pool} (hL:Wf L) (hM:Wf M):∀(l1 l2 s1 s2:List Int),(∀x∈l1,inP L x=true)→(∀x∈l2,inP M x=true)→(∀x∈s1,inP L x=true)→(∀x∈s2,inP M x=true)→l1.map (zD L)=l2.map (zD M)→s1.map (zD L)=s2.map (zD M)→vC L s1 l1=vC M s2 l2:=by
 intro l1;induction l1 with
 | nil=>intro l2 s1 s2 _ _ _ _ h _;cases l2 with
  | nil=>rfl
  | cons y l2=>simp at h
 | cons x l1 ih=>intro l2 s1 s2 h1 h2 h3 h4 h h5;cases l2 with
  | nil=>simp at h
  | cons y l2 =>
   simp only [List.map_cons,List.cons.injEq] at h
   have hx:=h1 x (by simp)
   have hy:=h2 y (by simp)
   obtain ⟨k1,k2,k3,k4,k5,k6⟩:=jBJ hL hM hx hy h.1
   obtain ⟨_,_,_,_,c5,_⟩:=hL.node hx
   obtain ⟨_,_,_,_,d5,_⟩:=hM.node hy
   have hi:=ih l2 (s1++[x]) (s2++[y]) (fun k hk=>h1 k (List.mem_cons_of_mem _ hk)) (fun k hk=>h2 k (List.mem_cons_of_mem _ hk))
    (fun k hk=>by rcases List.mem_append.1 hk with hk | hk;exact h3 k hk;rw [List.mem_singleton] at hk;subst hk;exact hx)
    (fun k hk=>by rcases List.mem_append.1 hk with hk | hk;exact h4 k hk;rw [List.mem_singleton] at hk;subst hk;exact hy) h.2 (by simp [h5,h.1])
   rw [vC,vC,hi]
   congr 1
   unfold yO
   rw [k1]
   congr 1
   have hf:∀f∈uS (nodeOf M y).kind,f.bytes (nodeOf L x) (posOf s1 (nodeOf L x).a) (posOf s1 (nodeOf L x).b)=f.bytes (nodeOf M y) (posOf s2 (nodeOf M y).a) (posOf s2 (nodeOf M y).b):=by
    intro f hf;have hk1:Fld.fst∈uS (nodeOf M y).kind→posOf s1 (nodeOf L x).a=posOf s2 (nodeOf M y).a:=fun hf=>by
     have m1:=jLW (n:=nodeOf L x) (by rw [k1];exact hf);have m2:=jLW hf;refine jGB hL hM (c5 _ m1).1 (d5 _ m2).1 ?_ s1 s2 h3 h4 h5;unfold zG at k6 m1;rw [k1] at k6 m1;rcases yL (nodeOf M y).kind with e | e | e <;> rw [e] at k6 m1 <;> simp at k6 m1
     ·exact k6
     ·exact k6.1
    have hk2:Fld.snd∈uS (nodeOf M y).kind→posOf s1 (nodeOf L x).b=posOf s2 (nodeOf M y).b:=fun hf=>by
     have m1:=jLE (n:=nodeOf L x) (by rw [k1];exact hf);have m2:=jLE hf;have e:(shapeOf (nodeOf M y).kind).kids=2:=by
      unfold uS at hf
      repeat' split at hf
      all_goals first | (exfalso;revert hf;decide) | skip
      all_goals (rename_i h4;rw [h4];rfl)
     refine jGB hL hM (c5 _ m1).1 (d5 _ m2).1 ?_ s1 s2 h3 h4 h5;unfold zG at k6;rw [k1,e] at k6;simp at k6;exact k6.2
    cases f
    ·simp only [Fld.bytes,k2]
    ·simp only [Fld.bytes,k3]
    ·simp only [Fld.bytes,k4]
    ·simp only [Fld.bytes,k5]
    ·simp only [Fld.bytes,hk1 hf]
    ·simp only [Fld.bytes,hk2 hf]
   have cg:∀(fs:List Fld) (g1 g2:Fld→List UInt8),(∀f∈fs,g1 f=g2 f)→fs.flatMap g1=fs.flatMap g2:=by
    intro fs g1 g2;induction fs with
    | nil=>intro _;rfl
    | cons f fs ihf=>intro hh;rw [List.flatMap_cons,List.flatMap_cons,hh f (by simp),ihf (fun x hx=>hh x (List.mem_cons_of_mem _ hx))]
   exact cg _ _ _ hf
theorem jLD {L M:Pool} (hL:Wf L) (hM:Wf M) {s t:Int} (hs:inP L s=true) (ht:inP M t=true) (e:zD L s=zD M t):yV L s=yV M t :=
 jBM hL hM _ _ [] [] (fun _ h=>jCM hL h) (fun _ h=>jCM hM h) (by simp) (by simp) (jIN hL hM hs ht e) rfl
def _root_.Go.Proofs.Fld.fill (n:Node) (na nb:Nat) (x:Raw):Fld→Raw
 | .from_=>{ x with frm:=n.frm.toNat }
 | .to_=>{ x with to:=n.to.toNat }
 | .num=>{ x with num:=n.num.toNat }
 | .text=>{ x with text:=n.text.data.toList }
 | .fst=>{ x with a:=na,kids:=1 }
 | .snd=>{ x with b:=nb,kids:=2 }
theorem jBV {bs:List UInt8} {r:Rd} (he:r.err=0) {m:Nat} (hm:m<18446744073709551616) {rest:List UInt8} (h:bs.drop r.at_=vU m++rest):qW bs r=(m,⟨r.at_+(vU m).length,0,r.spot⟩):=by
 unfold qW;rw [if_pos he,h,jDA hm]
theorem jQP {bs:List UInt8} {r:Rd} (he:r.err=0) {s:ByteArray} (hs:s.size≤64) {rest:List UInt8} (h:bs.drop r.at_=qN s++rest):qL bs 64 r=(s.data.toList,⟨r.at_+(qN s).length,0,r.spot⟩):=by
 have hl:s.data.toList.length=s.size:=Array.length_toList;have hln:=congrArg List.length h;unfold qN at h hln ⊢;rw [List.append_assoc] at h;rw [List.length_drop,List.length_append,List.length_append,hl] at hln;unfold qL;rw [if_pos he,h,jDA (by omega)];simp only;have hv:0<(vU s.size).length:=by unfold vU;split <;> simp
 rw [if_neg (by omega),if_neg (by omega)];have hd:bs.drop (r.at_+(vU s.size).length)=s.data.toList++rest:=by
  rw [← List.drop_drop,h,List.drop_left]
 rw [hd,← hl,List.take_left,List.length_append];simp only [Prod.mk.injEq,Rd.mk.injEq,and_true,true_and];omega
theorem jOI {bs:List UInt8} {n:Node} {na nb:Nat} (h1:n.frm<16) (h2:n.to<16) (h3:uO n.num) (h4:n.text.size≤64) (ha:na<65537) (hb:nb<65537):∀(fs:List Fld) (x:Raw) (r:Rd) (rest:List UInt8),r.err=0→bs.drop r.at_=fs.flatMap (Fld.bytes n na nb)++rest →
  vZ bs fs (x,r)=(fs.foldl (fun x f=>f.fill n na nb x) x,⟨r.at_+(fs.flatMap (Fld.bytes n na nb)).length,0,r.spot⟩):=by
 intro fs
 induction fs with
 | nil=>intro x r rest he _;rw [vZ];obtain ⟨a,e,s⟩:=r;simp only at he;subst he;rfl
 | cons f fs ih =>
  intro x r rest he h
  rw [List.flatMap_cons,List.append_assoc] at h
  have h3':=h3.2
  have key:f.raw bs r x=f.fill n na nb x∧f.rd bs r=⟨r.at_+(f.bytes n na nb).length,0,r.spot⟩:=by
   cases f
   ·have:=jBV he (m:=n.frm.toNat) (by omega) h;simp only [Fld.raw,Fld.rd,Fld.fill,Fld.bytes,this,and_self]
   ·have:=jBV he (m:=n.to.toNat) (by omega) h;simp only [Fld.raw,Fld.rd,Fld.fill,Fld.bytes,this,and_self]
   ·have:=jBV he (m:=n.num.toNat) (by omega) h;simp only [Fld.raw,Fld.rd,Fld.fill,Fld.bytes,this,and_self]
   ·have:=jQP he h4 h;simp only [Fld.raw,Fld.rd,Fld.fill,Fld.bytes,this,and_self]
   ·have:=jBV he (m:=na) (by omega) h;simp only [Fld.raw,Fld.rd,Fld.fill,Fld.bytes,this,and_self]
   ·have:=jBV he (m:=nb) (by omega) h;simp only [Fld.raw,Fld.rd,Fld.fill,Fld.bytes,this,and_self]
  rw [vZ,key.1,key.2,ih _ _ rest rfl (by simp only;rw [← List.drop_drop,h,List.drop_left]),List.foldl_cons,List.flatMap_cons,List.length_append,Nat.add_assoc]
def yS (seen:List Int) (x:Int):Int:=if x∈seen then (posOf seen x:Int)+1 else 0
theorem jOL {seen:List Int} {z:Int} (h:z ∉ seen):yS (seen++[z])=fun x=>if x=z then ((seen.length:Int)+1) else yS seen x:=by
 funext x;unfold yS;by_cases e:x=z
 ·subst e;simp only [List.mem_append,List.mem_singleton,or_true,if_true];rw [jBW h]
 ·rw [if_neg e];by_cases hx:x∈seen
  ·rw [if_pos (List.mem_append_left _ hx),if_pos hx,jES hx]
  ·rw [if_neg hx,if_neg (by simp [hx,e])]
theorem jTJ {L:Pool} (hW:Wf L) (hN:uI L) {z:Int} (hz:inP L z=true) {seen:List Int} (h0:(0:Int) ∉ seen) (hk:∀k∈zG (nodeOf L z),k∈seen) :
  let x:=(uS (nodeOf L z).kind).foldl (fun x f=>f.fill (nodeOf L z) (posOf seen (nodeOf L z).a) (posOf seen (nodeOf L z).b) x) tK
  x.node (nodeOf L z).kind.toNat={ nodeOf L z with a:=yS seen (nodeOf L z).a,b:=yS seen (nodeOf L z).b }∧nodeErr (nodeOf L z).kind.toNat seen.length x 0=0:=by
 obtain ⟨k1,k9,f0,f1,t0,t1,x1⟩:=jBZ hW hz
 obtain ⟨d1,d2,d3,d4,d5,d6⟩:=jTS hW hz
 obtain ⟨_,_,_,p4,_⟩:=hW.node hz
 have hn:=hN.node z
 have hf:=jLW (n:=nodeOf L z)
 have hs:=jLE (n:=nodeOf L z)
 generalize nodeOf L z=n at *
 obtain ⟨k,f,t,u,tx,a,b⟩:=n
 simp only at *
 have hn1:=hn.1
 have w0:yS seen 0=0:=by unfold yS;rw [if_neg h0]
 have ha:Fld.fst∈uS k→yS seen a=(posOf seen a:Int)+1∧posOf seen a<seen.length:=fun h=>by
  have:=hk _ (hf h);unfold yS;rw [if_pos this];exact ⟨rfl,jDV this⟩
 have hb:Fld.snd∈uS k→yS seen b=(posOf seen b:Int)+1∧posOf seen b<seen.length:=fun h=>by
  have:=hk _ (hs h);unfold yS;rw [if_pos this];exact ⟨rfl,jDV this⟩
 have ft:(f.toNat:Int)=f:=by omega
 have tt:(t.toNat:Int)=t:=by omega
 have ut:(u.toNat:Int)=u:=by omega
 have g16:¬ 16≤f.toNat:=by omega
 have g17:¬ 16≤t.toNat:=by omega
 have tb:(⟨tx.data.toList.toArray⟩:ByteArray)=tx:=by cases tx;simp
 have ftn:f.toNat=t.toNat→f=t:=fun h=>by omega
 have hne:k=8∨k=9→f.toNat≠t.toNat:=fun hk8 e=>by
  have:=ftn e;subst this;unfold zY at p4;rcases hk8 with rfl | rfl <;> simp [shapeOf] at p4
 clear p4 hf hs hk hn hn1 hW hN
 have:k=1∨k=2∨k=3∨k=4∨k=5∨k=6∨k=7∨k=8∨k=9:=by omega
 rcases this with rfl | rfl | rfl | rfl | rfl | rfl | rfl | rfl | rfl <;>
  simp [uS,shapeOf,tK,Fld.fill,Raw.node,nodeErr,w0,ft,tt,ut,g16,g17,tb] at d1 d2 d3 d4 d5 d6 ha hb hne ⊢ <;> simp_all <;> omega
theorem cp_le {L q:Pool} {seen:List Int} (h:Cp L q (yS seen) seen) (hl:q.length=seen.length) (hn:seen.Nodup) {v:Int} (hv:inP q v=true):∃s∈seen,yS seen s=v∧zD q v=zD L s:=by
 obtain ⟨h1,h2⟩:=zX.1 hv;have hi:(v - 1).toNat<seen.length:=by omega
 have hm:seen[(v - 1).toNat]∈seen:=List.getElem_mem hi;have hp:posOf seen seen[(v - 1).toNat]=(v - 1).toNat:=by
  have hlt:=jDV hm;refine (List.getElem_inj (h₀:=hlt) (h₁:=hi) hn).1 ?_;exact List.getElem_idxOf hlt
 have ho:yS seen seen[(v - 1).toNat]=v:=by unfold yS;rw [if_pos hm,hp];omega
 refine ⟨_,hm,ho,?_⟩;have:=(h.at_ _ hm).2;rw [ho] at this;exact this
theorem jDD (L:Pool) (seen:List Int) (z:Int):0<(yO L seen z).length:=by unfold yO;simp
theorem jTF {L:Pool} (hW:Wf L) (hN:uI L) {bs:List UInt8}:∀(l seen:List Int) (q:Pool) (r:Rd) (ps:List Nat) (fuel:Nat),Cp L q (yS seen) seen→q.length=seen.length→ps.length=seen.length→OrdF L seen l→(seen++l).Nodup→(∀z∈l,inP L z=true) →
  r.err=0→r.at_≤bs.length→bs.drop r.at_=vC L seen l→bs.length - r.at_≤fuel→seen.length+l.length≤65535 →
  ∃q' ps',jIX bs fuel q r ps=jBU q' ps'∧Cp L q' (yS (seen++l)) (seen++l)∧q'.length=(seen++l).length∧ps'.length=(seen++l).length:=by
 intro l
 induction l with
 | nil =>
  intro seen q r ps fuel hC hq hp _ _ _ _ hat hd _ _
  refine ⟨q,ps,jHE ?_ fuel,by rw [List.append_nil];exact hC,by rw [List.append_nil];exact hq,by rw [List.append_nil];exact hp⟩
  have:=congrArg List.length hd
  simp [vC] at this;omega
 | cons z l ih =>
  intro seen q r ps fuel hC hq hp ho hnd hl he hat hd hfu hsm
  have hz:=hl z (by simp)
  have hzn:z ∉ seen:=fun h=>(List.nodup_append.1 hnd).2.2 z h z (by simp) rfl
  have hsn:seen.Nodup:=(List.nodup_append.1 hnd).1
  have h0:(0:Int) ∉ seen:=fun h=>by have:=(zX.1 (hC.inn 0 h)).1;omega
  rw [vC] at hd
  have hpos:=jDD L seen z
  have hdl:=congrArg List.length hd
  rw [List.length_drop,List.length_append] at hdl
  have hlt:r.at_<bs.length:=by omega
  obtain ⟨fuel,rfl⟩:∃k,fuel=k+1:=⟨fuel - 1,by omega⟩
  rw [List.length_cons] at hsm
  obtain ⟨k1,k9,f0,f1,t0,t1,x1⟩:=jBZ hW hz
  have hnum:=hN.node z
  have hcons:bs.drop r.at_=bs[r.at_] :: bs.drop (r.at_+1):=List.drop_eq_getElem_cons hlt
  have htxt:=hd
  rw [hcons] at htxt
  unfold yO at htxt
  rw [List.cons_append,List.cons.injEq] at htxt
  obtain ⟨hb,hrest⟩:=htxt
  have hbk:bs[r.at_].toNat=(nodeOf L z).kind.toNat:=by rw [hb,toNat_ofNat (by omega)]
  have hkk:(((nodeOf L z).kind.toNat:Nat):Int)=(nodeOf L z).kind:=by omega
  have hfl:=jOI f1 t1 hnum x1 (by have:=jBX seen (nodeOf L z).a;omega) (by have:=jBX seen (nodeOf L z).b;omega) (uS (nodeOf L z).kind) tK ⟨r.at_+1,0,r.spot⟩ (vC L (seen++[z]) l) rfl hrest
  obtain ⟨hraw,hne⟩:=jTJ hW hN hz h0 ho.1
  have hren:=hC.ren hW hz ho.1
  have hnew:∀v,inP q v=true→zD q v≠zD L z:=fun v hv e=>by
   obtain ⟨s,hs,_,e2⟩:=cp_le hC hq hsn hv;have:=xB hW _ s z rfl (hC.inn s hs) hz (e2.symm.trans e);exact hzn (this▸hs)
  have hmk:=hren.make_new hW hC.wf hz hnew (by omega)
  have hfn:=hren.find_none hW hC.wf hz hnew
  have hst:=hC.step hW hz ho.1 hren (by rw [hmk])
  have hstep:vR bs q r=((make q { nodeOf L z with a:=yS seen (nodeOf L z).a,b:=yS seen (nodeOf L z).b }).2.2,0,⟨r.at_+1+((uS (nodeOf L z).kind).flatMap (Fld.bytes (nodeOf L z) (posOf seen (nodeOf L z).a) (posOf seen (nodeOf L z).b))).length,0,r.spot⟩):=by
   rw [tR bs q r hlt he,hbk,hkk,hfl,if_pos (by unfold jAW;simp;omega)];unfold jCK;simp only at hraw hne ⊢;rw [hraw,hq,hne,hfn,if_neg (by simp),if_neg (by simp),hmk]
  have hq1:(make q { nodeOf L z with a:=yS seen (nodeOf L z).a,b:=yS seen (nodeOf L z).b }).2.2.length=(seen++[z]).length:=by rw [hmk];simp [hq]
  have hown:(fun x=>if x=z then (make q { nodeOf L z with a:=yS seen (nodeOf L z).a,b:=yS seen (nodeOf L z).b }).1 else yS seen x)=yS (seen++[z]):=by rw [jOL hzn,hmk,hq]
  rw [hown] at hst
  have hd2:bs.drop (r.at_+1+((uS (nodeOf L z).kind).flatMap (Fld.bytes (nodeOf L z) (posOf seen (nodeOf L z).a) (posOf seen (nodeOf L z).b))).length)=vC L (seen++[z]) l:=by
   rw [← List.drop_drop,hrest,List.drop_left]
  have hle:r.at_+1+((uS (nodeOf L z).kind).flatMap (Fld.bytes (nodeOf L z) (posOf seen (nodeOf L z).a) (posOf seen (nodeOf L z).b))).length≤bs.length:=by
   have:=congrArg List.length hrest;rw [List.length_drop,List.length_append] at this;omega
  rw [jIX,if_pos hlt,hstep]
  simp only
  rw [if_neg (by simp)]
  obtain ⟨q',ps',g1,g2,g3,g4⟩:=ih (seen++[z]) _ ⟨_,0,r.spot⟩ (ps++[r.at_]) fuel hst hq1 (by simp [hp]) ho.2 (by simpa using hnd) (fun x hx=>hl x (List.mem_cons_of_mem _ hx)) rfl hle hd2 (by simp only;omega) (by rw [List.length_append,List.length_singleton];omega)
  rw [List.append_assoc,List.singleton_append] at g2 g3 g4
  exact ⟨q',ps',g1,g2,g3,g4⟩
theorem jRP:∀(l:List Int) (i:Nat),(∀j (h:j<l.length),l[j]=((i+j:Nat):Int)+1)→inRow i l=i+l.length:=by
 intro l;induction l with
 | nil=>intro i _;rfl
 | cons s l ih =>
  intro i h
  have h0:=h 0 (by simp)
  simp only [List.getElem_cons_zero,Nat.add_zero] at h0
  rw [inRow,if_pos h0,ih (i+1) (fun j hj=>by have:=h (j+1) (by simpa using hj);simp only [List.getElem_cons_succ] at this;rw [this];congr 2;omega),List.length_cons]
  omega
theorem jOA {L:Pool} {t:Int} (h:inP L t=true):∃pre,subs L t=pre++[t]:=by
 unfold subs;rw [qU,if_pos ⟨h,rfl⟩];exact ⟨_,rfl⟩
theorem jOG {L:Pool} (hW:Wf L) (hN:uI L) {t:Int} (ht:inP L t=true) (hl:(yV L t).length≤4096) :
  ∃q:Pool,vQ (yV L t)=(some q,0,0)∧Wf q∧inP q q.length=true∧zD q q.length=zD L t:=by
 have hself:=jGZ hW ht
 have hnd:=jCL hW t
 have hfew:(subs L t).length≤(yV L t).length:=by
  have:∀(l seen:List Int),l.length≤(vC L seen l).length:=by
   intro l;induction l with
   | nil=>intro _;simp
   | cons z l ih=>intro seen;have:=jDD L seen z;have:=ih (seen++[z]);rw [vC,List.length_append,List.length_cons];omega
  exact this _ _
 have hne:0<(subs L t).length:=List.length_pos_of_mem hself
 obtain ⟨q, ps, g1, g2, g3, g4⟩ := jTF hW hN (bs := yV L t) (subs L t) [] [] ⟨0, 0, 0⟩ [] (yV L t).length (by
   have:=Cp.start (Lq:=L) Wf.nil;have e:yS []=fun _=>0:=by funext x;simp [yS]
   rw [e];exact this) rfl rfl (jJA hW t) (by simpa using hnd) (fun z hz=>jCM hW hz) rfl (Nat.zero_le _) rfl (Nat.le_refl _) (by simp;omega)
 rw [List.nil_append] at g2 g3 g4
 have hown:yS (subs L t) t=q.length:=by
  obtain ⟨pre,hp⟩:=jOA ht;have hnp:t ∉ pre:=by rw [hp] at hnd;exact fun h=>(List.nodup_append.1 hnd).2.2 t h t (by simp) rfl
  unfold yS;rw [if_pos hself,g3,hp,jBW hnp];simp
 obtain ⟨a1,a2⟩:=g2.at_ t hself
 rw [hown] at a1 a2
 have hsub:subs q q.length=(subs L t).map (yS (subs L t)):=by
  refine jRD g2.wf (fun k hk=>jCM g2.wf hk) (fun k hk=>?_) ?_
  ·obtain ⟨x,hx,rfl⟩:=List.mem_map.1 hk;exact (g2.at_ x hx).1
  ·rw [jIN g2.wf hW a1 ht a2,List.map_map];exact List.map_congr_left (fun x hx=>((g2.at_ x hx).2).symm)
 have hrow:inRow 0 (subs q q.length)=ps.length:=by
  rw [jRP,hsub,List.length_map,Nat.zero_add,g4];intro j hj;have hj':j<(subs L t).length:=by rw [hsub,List.length_map] at hj;exact hj
  simp only [hsub,List.getElem_map,Nat.zero_add];have hm:(subs L t)[j]∈subs L t:=List.getElem_mem hj';have hp:posOf (subs L t) (subs L t)[j]=j:=by
   have hlt:=jDV hm;exact (List.getElem_inj (h₀:=hlt) (h₁:=hj') hnd).1 (List.getElem_idxOf hlt)
  unfold yS;rw [if_pos hm,hp]
 refine ⟨q,?_,g2.wf,a1,a2⟩
 unfold vQ
 rw [if_neg (by omega),if_neg (by omega),g1]
 unfold jBU
 simp only
 rw [dif_neg (by omega)]
def jEV:Nat→List Int
 | 0=>[]
 | n+1=>jEV n++[(n:Int)+1]
theorem jDW (n:Nat):(jEV n).length=n:=by induction n with
 | zero=>rfl
 | succ n ih=>simp [jEV,ih]
theorem jHG {n:Nat} {x:Int}:x∈jEV n↔1≤x∧x≤n:=by
 induction n with
 | zero=>simp [jEV];omega
 | succ n ih=>simp only [jEV,List.mem_append,ih,List.mem_singleton];omega
theorem jNB {n:Nat}:∀{x:Int},1≤x→x≤n→posOf (jEV n) x=(x - 1).toNat:=by
 induction n with
 | zero=>intro x h1 h2;omega
 | succ n ih =>
  intro x h1 h2
  rw [jEV]
  by_cases h:x≤n
  ·rw [jES (jHG.2 ⟨h1,h⟩),ih h1 h]
  ·have:x=(n:Int)+1:=by omega
   subst this
   rw [jBW (by rw [jHG];omega),jDW];omega
theorem jTP {n:Nat} {j:Nat} (h:j<(jEV n).length):(jEV n)[j]=(j:Int)+1:=by
 induction n with
 | zero=>simp [jEV] at h
 | succ n ih =>
  simp only [jEV]
  rw [List.getElem_append]
  split
  ·exact ih _
  ·rename_i h1
   have:j=n:=by rw [jDW] at h h1;omega
   subst this;simp
def _root_.Go.Proofs.Fld.said (x:Raw):Fld→List UInt8
 | .from_=>vU x.frm | .to_=>vU x.to | .num=>vU x.num | .text=>qN ⟨x.text.toArray⟩ | .fst=>vU x.a | .snd=>vU x.b
theorem jQO:∀{l:List UInt8} {i n x:Nat},xX i n l=.error x→x≠0:=by
 intro l;induction l with
 | nil=>intro i n x h;simp [xX] at h;omega
 | cons c l ih =>
  intro i n x h
  rw [xD] at h
  split at h
  ·cases h;decide
  ·split at h
   ·split at h
    ·cases h;decide
    ·cases h
   ·exact ih h
theorem yN {bs:List UInt8} {r:Rd} (h:(qW bs r).2.err=0):r.err=0∧bs.drop r.at_=vU (qW bs r).1++bs.drop (qW bs r).2.at_∧(qW bs r).1<18446744073709551616:=by
 unfold qW at h ⊢;by_cases he:r.err=0
 ·rw [if_pos he] at h ⊢;cases hr:xX 0 0 (bs.drop r.at_) with
  | error x =>
   rw [hr] at h
   simp only at h
   exact absurd h (jQO hr)
  | ok p =>
   obtain ⟨n,k⟩:=p
   obtain ⟨c,h1,h2,h3⟩:=jIW hr
   refine ⟨he,?_,h3⟩
   simp only
   rw [← List.drop_drop,h1,h2,List.drop_left]
 ·rw [if_neg he] at h;exact absurd h he
theorem jQQ {bs:List UInt8} {r:Rd} (h:(qL bs 64 r).2.err=0):r.err=0∧bs.drop r.at_=qN ⟨(qL bs 64 r).1.toArray⟩++bs.drop (qL bs 64 r).2.at_:=by
 have hn:=@yN bs r;unfold qW at hn;unfold qL at h ⊢;by_cases he:r.err=0
 ·rw [if_pos he] at h hn ⊢;cases hr:xX 0 0 (bs.drop r.at_) with
  | error x =>
   rw [hr] at h hn
   simp only at h hn
   exact absurd (hn h).2.1 (by
    have:=(hn h).2.1;intro _;have hl:=congrArg List.length this;rw [List.length_append,xL (by omega)] at hl;simp at hl)
  | ok p =>
   obtain ⟨n,k⟩:=p
   rw [hr] at h hn
   simp only at h hn ⊢
   obtain ⟨c,h1,h2,h3⟩:=jIW hr
   split at h
   ·simp at h
   ·rename_i h64
    rw [if_neg h64]
    split at h
    ·simp at h
    ·rename_i hlen
     rw [if_neg hlen]
     refine ⟨he,?_⟩
     simp only
     have hd:bs.drop (r.at_+k)=c:=by rw [← List.drop_drop,h1,h2,List.drop_left]
     have hcl:n≤c.length:=by rw [← hd,List.length_drop];omega
     have hs:(ByteArray.mk (c.take n).toArray).size=n:=by show (c.take n).toArray.size=n;simp;omega
     have hd2:bs.drop (r.at_+k+n)=c.drop n:=by rw [← List.drop_drop,hd]
     rw [hd,hd2]
     unfold qN
     rw [hs,h1,List.append_assoc]
     congr 1
     simp
 ·rw [if_neg he] at h;exact absurd h he
theorem jWF {bs:List UInt8} {r:Rd} {x:Raw} (f:Fld) (h:(f.rd bs r).err=0):r.err=0∧bs.drop r.at_=f.said (f.raw bs r x)++bs.drop (f.rd bs r).at_:=by
 cases f
 ·exact ⟨(yN h).1,(yN h).2.1⟩
 ·exact ⟨(yN h).1,(yN h).2.1⟩
 ·exact ⟨(yN h).1,(yN h).2.1⟩
 ·exact jQQ h
 ·exact ⟨(yN h).1,(yN h).2.1⟩
 ·exact ⟨(yN h).1,(yN h).2.1⟩
theorem jQF {bs:List UInt8} {r:Rd} {x:Raw} {f g:Fld} (h:f≠g):f.said (g.raw bs r x)=f.said x:=by
 cases f <;> cases g <;> first | rfl | exact absurd rfl h
theorem jLM {bs:List UInt8} {f:Fld}:∀(fs:List Fld) (x:Raw) (r:Rd),f ∉ fs→f.said (vZ bs fs (x,r)).1=f.said x:=by
 intro fs;induction fs with
 | nil=>intro x r _;rfl
 | cons g fs ih =>
  intro x r h
  simp only [List.mem_cons,not_or] at h
  rw [vZ,ih _ _ h.2,jQF h.1]
theorem jOJ {bs:List UInt8}:∀(fs:List Fld) (x:Raw) (r:Rd),fs.Nodup→(vZ bs fs (x,r)).2.err=0→r.err=0∧bs.drop r.at_=fs.flatMap (fun f=>f.said (vZ bs fs (x,r)).1)++bs.drop (vZ bs fs (x,r)).2.at_:=by
 intro fs;induction fs with
 | nil=>intro x r _ h;exact ⟨h,rfl⟩
 | cons f fs ih =>
  intro x r hn h
  rw [vZ] at h ⊢
  rw [List.nodup_cons] at hn
  obtain ⟨h1,h2⟩:=ih _ _ hn.2 h
  obtain ⟨h3,h4⟩:=jWF (x:=x) f h1
  refine ⟨h3,?_⟩
  rw [List.flatMap_cons,h4,h2,jLM fs _ _ hn.1,List.append_assoc]
theorem jOY (k:Int):(uS k).Nodup:=by
 unfold uS;repeat' split
 all_goals decide
theorem jVU {bs:List UInt8}:∀(fs:List Fld) (x:Raw) (r:Rd),(x.num<18446744073709551616)→(vZ bs fs (x,r)).1.num<18446744073709551616:=by
 intro fs;induction fs with
 | nil=>intro x r h;exact h
 | cons f fs ih =>
  intro x r h
  rw [vZ]
  refine ih _ _ ?_
  cases f <;> try exact h
  simp only [Fld.raw]
  by_cases he:(qW bs r).2.err=0
  ·exact (yN he).2.2
  ·unfold qW at he ⊢
   split
   ·rename_i h1
    rw [if_pos h1] at he
    split
    ·rename_i hk
     rw [hk] at he
     exact absurd rfl he
    ·simp
   ·simp
theorem jJN {bs:List UInt8} {k:Int} (h1:1≤k) (h9:k≤9) (r:Rd):(vZ bs (uS k) (tK,r)).1.kids=(shapeOf k).kids.toNat∧(Fld.fst∈uS k↔0<(shapeOf k).kids)∧(Fld.snd∈uS k↔1<(shapeOf k).kids):=by
 have:k=1∨k=2∨k=3∨k=4∨k=5∨k=6∨k=7∨k=8∨k=9:=by omega
 rcases this with rfl | rfl | rfl | rfl | rfl | rfl | rfl | rfl | rfl <;> simp [uS,vZ,Fld.raw,tK,shapeOf]
theorem jOH {bs:List UInt8} {q:Pool} {r:Rd} (hW:Wf q) (hN:uI q) (hl:r.at_<bs.length) (he:r.err=0) (h0:(vR bs q r).2.1=0) :
  Wf (vR bs q r).1∧uI (vR bs q r).1∧(vR bs q r).1.length=q.length+1∧(∀v,inP q v=true→inP (vR bs q r).1 v=true∧zD (vR bs q r).1 v=zD q v) ∧
  bs.drop r.at_=yO (vR bs q r).1 (jEV q.length) ((q.length:Int)+1)++bs.drop (vR bs q r).2.2.at_:=by
 rw [tR bs q r hl he] at h0 ⊢
 have hcons:bs.drop r.at_=bs[r.at_] :: bs.drop (r.at_+1):=List.drop_eq_getElem_cons hl
 have hb8:UInt8.ofNat bs[r.at_].toNat=bs[r.at_]:=by simp
 generalize bs[r.at_]=c at *
 split at h0
 ·rename_i hk
  rw [if_pos hk]
  have hk1:1≤c.toNat∧c.toNat≤9:=by unfold jAW at hk;simpa using hk
  have hfl:=@jOJ bs (uS c.toNat) tK ⟨r.at_+1,0,r.spot⟩ (jOY _)
  have hnum:=@jVU bs (uS c.toNat) tK ⟨r.at_+1,0,r.spot⟩ (by decide)
  obtain ⟨hkd,hk2,hk3⟩:=@jJN bs (c.toNat:Int) (by omega) (by omega) ⟨r.at_+1,0,r.spot⟩
  generalize vZ bs (uS c.toNat) (tK,⟨r.at_+1,0,r.spot⟩)=s at *
  obtain ⟨x,r'⟩:=s
  simp only at *
  obtain ⟨e1,e2,e3,e4,e5⟩:=jEP h0
  simp only at e1 e2 e3 e4 e5
  rw [e5]
  simp only
  obtain ⟨_,hfl⟩:=hfl e1
  obtain ⟨m1,m2,m3⟩:=lQ e4
  have hw:=lJ hW (x.node c.toNat)
  have hnn:uI (make q (x.node c.toNat)).2.2:=hN.make (by simp only [Raw.node,uO];omega)
  have hmk:(make q (x.node c.toNat)).1=(q.length:Int)+1∧(make q (x.node c.toNat)).2.2.length=q.length+1:=by
   have hc:=m3;unfold make at e4 ⊢;simp only [e3] at e4 ⊢;rw [if_neg (by rw [hc];simp)] at e4 ⊢;split at e4
   ·simp at e4
   ·rename_i hf;rw [if_neg hf];exact ⟨rfl,by simp⟩
  obtain ⟨M,eM⟩:=lD q (x.node c.toNat)
  refine ⟨hw,hnn,hmk.2,fun v hv=>?_,?_⟩
  ·rw [eM] at hw ⊢;exact ⟨jAX hv,lL hw _ v rfl hv⟩
  ·rw [hmk.1] at m2
   rw [hcons,hfl]
   unfold yO
   rw [m2]
   have hkk:(x.node c.toNat).kind=c.toNat:=rfl
   rw [hkk,Int.toNat_natCast,hb8,List.cons_append]
   congr 1
   congr 1
   have hne:nodeErr c.toNat q.length x r'.err=0:=e2
   unfold nodeErr at hne
   rw [if_neg (by omega)] at hne
   split at hne
   ·simp at hne
   ·split at hne
    ·simp at hne
    ·rename_i href
     have cg:∀(fs:List Fld) (g1 g2:Fld→List UInt8),(∀f∈fs,g1 f=g2 f)→fs.flatMap g1=fs.flatMap g2:=by
      intro fs g1 g2;induction fs with
      | nil=>intro _;rfl
      | cons f fs ihf=>intro hh;rw [List.flatMap_cons,List.flatMap_cons,hh f (by simp),ihf (fun x hx=>hh x (List.mem_cons_of_mem _ hx))]
     refine cg _ _ _ (fun f hf=>?_)
     cases f
     ·simp [Fld.said,Fld.bytes,Raw.node]
     ·simp [Fld.said,Fld.bytes,Raw.node]
     ·simp [Fld.said,Fld.bytes,Raw.node]
     ·simp [Fld.said,Fld.bytes,Raw.node]
     ·have h2:=hk2.1 hf
      have hx:0<x.kids:=by omega
      have ha:x.a<q.length:=by omega
      simp only [Fld.said,Fld.bytes,Raw.node,if_pos hx]
      rw [jNB (by omega) (by omega)]
      congr 1;omega
     ·have h2:=hk3.1 hf
      have hx:1<x.kids:=by omega
      have ha:x.b<q.length:=by omega
      simp only [Fld.said,Fld.bytes,Raw.node,if_pos hx]
      rw [jNB (by omega) (by omega)]
      congr 1;omega
 ·simp at h0
theorem jTG {bs:List UInt8}:∀(fuel:Nat) (q:Pool) (r:Rd) (ps:List Nat) (q':Pool),Wf q→uI q→ps.length=q.length→r.err=0→r.at_≤bs.length→bs.length - r.at_≤fuel→bs.take r.at_=vC q [] (jEV q.length)→(jIX bs fuel q r ps).1=some q' →
  Wf q'∧uI q'∧q.length≤q'.length∧bs=vC q' [] (jEV q'.length)∧q'.length≤inRow 0 (subs q' q'.length):=by
 have hend:∀(q:Pool) (ps:List Nat) (q':Pool),ps.length=q.length→(jBU q ps).1=some q'→q=q'∧q.length≤inRow 0 (subs q q.length):=by
  intro q ps q' hp h;unfold jBU at h;simp only at h;split at h
  ·cases h
  ·cases h;exact ⟨rfl,by omega⟩
 intro fuel
 induction fuel with
 | zero =>
  intro q r ps q' hW hN hp he hat hf ht h
  obtain ⟨rfl,h2⟩:=hend q ps q' hp h
  rw [List.take_of_length_le (by omega)] at ht
  exact ⟨hW,hN,Nat.le_refl _,ht,h2⟩
 | succ fuel ih =>
  intro q r ps q' hW hN hp he hat hf ht h
  by_cases hl:r.at_<bs.length
  ·rw [jIX,if_pos hl] at h
   by_cases h0:(vR bs q r).2.1=0
   ·rw [if_neg (by simpa using h0)] at h
    obtain ⟨s1,s2,s3,s4,s5⟩:=jOH hW hN hl he h0
    obtain ⟨a1,a2,a3⟩:=jIU bs q r hl he h0
    have htake:bs.take (vR bs q r).2.2.at_=vC (vR bs q r).1 [] (jEV (vR bs q r).1.length):=by
     have hold:∀z∈jEV q.length,inP q z=true:=fun z hz=>zX.2 (jHG.1 hz);have hsame:vC q [] (jEV q.length)=vC (vR bs q r).1 [] (jEV q.length) :=
      jBM hW s1 _ _ [] [] hold (fun z hz=>(s4 z (hold z hz)).1) (by simp) (by simp) (List.map_congr_left (fun z hz=>((s4 z (hold z hz)).2).symm)) rfl
     rw [s3,jEV,jBN,List.nil_append,← hsame,← ht];have hsplit:bs.take (vR bs q r).2.2.at_=bs.take r.at_++(bs.drop r.at_).take ((vR bs q r).2.2.at_ - r.at_):=by
      rw [← List.take_add];congr 1;omega
     rw [hsplit];congr 1;have hlen:=congrArg List.length s5;rw [List.length_drop,List.length_append,List.length_drop] at hlen;rw [s5,List.take_append_of_le_length (by omega),List.take_of_length_le (by omega)]
    obtain ⟨g1,g2,g3,g4,g5⟩:=ih _ _ _ q' s1 s2 (by simp [hp,s3]) a3 a2 (by omega) htake h
    exact ⟨g1,g2,by omega,g4,g5⟩
   ·rw [if_pos h0] at h;cases h
  ·rw [jHE hl] at h
   obtain ⟨rfl,h2⟩:=hend q ps q' hp h
   rw [List.take_of_length_le (by omega)] at ht
   exact ⟨hW,hN,Nat.le_refl _,ht,h2⟩
theorem jRO:∀(l:List Int) (i m:Nat),i+m≤inRow i l→m≤l.length∧∀j (h:j<l.length),j<m→l[j]=((i+j:Nat):Int)+1:=by
 intro l;induction l with
 | nil=>intro i m h;rw [inRow] at h;exact ⟨by simp;omega,fun j h=>(by simp at h)⟩
 | cons s l ih =>
  intro i m h
  rw [inRow] at h
  split at h
  ·rename_i hs
   cases m with
   | zero=>exact ⟨by simp,fun j _ hj=>(by omega)⟩
   | succ m =>
    obtain ⟨h1,h2⟩:=ih (i+1) m (by omega)
    refine ⟨by rw [List.length_cons];omega,fun j hj hjm=>?_⟩
    cases j with
    | zero=>simp [hs]
    | succ j=>simp only [List.getElem_cons_succ];rw [h2 j (by simpa using hj) (by omega)];congr 2;omega
  ·exact ⟨by simp;omega,fun j _ hj=>by omega⟩
theorem jAF {bs:List UInt8} {q:Pool} (h:(vQ bs).1=some q):Wf q∧uI q∧inP q q.length=true∧yV q q.length=bs∧bs.length≤4096:=by
 unfold vQ at h;split at h
 ·cases h
 ·split at h
  ·cases h
  ·rename_i h1 h2;obtain ⟨g1,g2,_,g4,g5⟩:=jTG bs.length [] ⟨0,0,0⟩ [] q Wf.nil uI.nil rfl rfl (Nat.zero_le _) (Nat.le_refl _) (by simp [jEV,vC]) h;have hpos:0<q.length:=by
    rcases Nat.eq_zero_or_pos q.length with e | e
    ·rw [e,jEV,vC] at g4;rw [g4] at h2;simp at h2
    ·exact e
   have hin:inP q q.length=true:=zX.2 ⟨by omega,by omega⟩;obtain ⟨k1,k2⟩:=jRO (subs q q.length) 0 q.length (by omega);have hfew:=jBO g1 q.length;have hs:subs q q.length=jEV q.length:=by
    refine List.ext_getElem (by rw [jDW];omega) (fun j h1 h2=>?_);rw [k2 j h1 (by rw [jDW] at h2;exact h2),jTP];simp
   refine ⟨g1,g2,hin,?_,by omega⟩;unfold yV;rw [hs];exact g4.symm
theorem jLX {Lq:Pool} (hq:uI Lq):∀(l:List Int) (L:Pool) (own:Int→Int),uI L→uI (vM Lq l L own).1:=by
 intro l;induction l with
 | nil=>intro L own h;exact h
 | cons z l ih =>
  intro L own h
  obtain ⟨x,e,L',hm⟩:∃x e L',make L { nodeOf Lq z with a:=own (nodeOf Lq z).a,b:=own (nodeOf Lq z).b }=(x,e,L'):=⟨_,_,_,rfl⟩
  have h2:=h.make (n:={ nodeOf Lq z with a:=own (nodeOf Lq z).a,b:=own (nodeOf Lq z).b }) (hq.node z)
  rw [yC Lq z l L own rfl hm]
  rw [hm] at h2
  split
  ·exact h
  ·exact ih _ _ h2
theorem jPA {L Lq:Pool} (h:uI L) (hq:uI Lq) (t:Int):uI (qX L Lq t).2.2:=by
 unfold qX;split
 ·simp only;split
  ·exact h
  ·exact jLX hq _ _ _ h
 ·exact h
theorem jRV {L:Pool} (h:uI L) (bs:List UInt8):uI (lK L bs).2.2.2:=by
 unfold lK;cases hq:(vQ bs).1 with
 | none=>exact h
 | some q=>exact jPA h (jAF hq).2.1 _
theorem jRU {L:Pool} (h:Wf L) (bs:List UInt8):Wf (lK L bs).2.2.2:=by
 unfold lK;cases hq:(vQ bs).1 with
 | none=>exact h
 | some q =>
  obtain ⟨g1,_,g3,_⟩:=jAF hq
  by_cases h0:(qX L q q.length).2.1=0
  ·exact (jHS h g1 g3 h0).1
  ·simp only;rw [((jRW h g1 _).resolve_left h0).2];exact h
theorem lO {bs:List UInt8} (h:(vQ bs).1=none):(vQ bs).2.1≠0:=by
 have hend:∀(q:Pool) (ps:List Nat),(jBU q ps).1=none→(jBU q ps).2.1≠0:=by
  intro q ps h;unfold jBU at h ⊢;simp only at h ⊢;split at h
  ·rename_i hh;rw [dif_pos hh];show (73:Int)≠0;decide
  ·cases h
 have hgo:∀(bs:List UInt8) (fuel:Nat) (q:Pool) (r:Rd) (ps:List Nat),(jIX bs fuel q r ps).1=none→(jIX bs fuel q r ps).2.1≠0:=by
  intro bs fuel;induction fuel with
  | zero=>intro q r ps h;exact hend _ _ h
  | succ fuel ih =>
   intro q r ps h
   rw [jIX] at h ⊢
   split at h
   ·rename_i h1
    rw [if_pos h1]
    split at h
    ·rename_i h2;rw [if_pos h2];exact h2
    ·rename_i h2;rw [if_neg h2];exact ih _ _ _ h
   ·rename_i h1;rw [if_neg h1];exact hend _ _ h
 unfold vQ at h ⊢;split at h
 ·rename_i h1;rw [if_pos h1];decide
 ·rename_i h1;rw [if_neg h1];split at h
  ·rename_i h2;rw [if_pos h2];decide
  ·rename_i h2;rw [if_neg h2];exact hgo _ _ _ _ _ h
theorem jQL {bs:List UInt8} {q:Pool} (h:(vQ bs).1=some q):(vQ bs).2.1=0:=by
 have hend:∀(q:Pool) (ps:List Nat) (x:Pool),(jBU q ps).1=some x→(jBU q ps).2.1=0:=by
  intro q ps x h;unfold jBU at h ⊢;simp only at h ⊢;split at h
  ·cases h
  ·rename_i hh;rw [dif_neg hh]
 have hgo:∀(fuel:Nat) (q:Pool) (r:Rd) (ps:List Nat) (x:Pool),(jIX bs fuel q r ps).1=some x→(jIX bs fuel q r ps).2.1=0:=by
  intro fuel;induction fuel with
  | zero=>intro q r ps x h;exact hend _ _ _ h
  | succ fuel ih =>
   intro q r ps x h
   rw [jIX] at h ⊢
   split at h
   ·rename_i h1
    rw [if_pos h1]
    split at h
    ·cases h
    ·rename_i h2;rw [if_neg h2];exact ih _ _ _ _ h
   ·rename_i h1;rw [if_neg h1];exact hend _ _ _ h
 unfold vQ at h ⊢;split at h
 ·cases h
 ·rename_i h1;rw [if_neg h1];split at h
  ·cases h
  ·rename_i h2;rw [if_neg h2];exact hgo _ _ _ _ _ h
theorem jWG {L:Pool} (hW:Wf L) {bs:List UInt8} (h0:(lK L bs).2.1=0):Wf (lK L bs).2.2.2∧inP (lK L bs).2.2.2 (lK L bs).1=true∧yV (lK L bs).2.2.2 (lK L bs).1=bs∧bs.length≤4096:=by
 cases hq:(vQ bs).1 with
 | none =>
  unfold lK at h0;rw [hq] at h0
  exact absurd h0 (lO hq)
 | some q =>
  obtain ⟨g1,g2,g3,g4,g5⟩:=jAF hq
  unfold lK at h0 ⊢
  rw [hq] at h0 ⊢
  simp only at h0 ⊢
  obtain ⟨c1,c2,c3⟩:=jHS hW g1 g3 h0
  exact ⟨c1,c2,by rw [jLD c1 g1 c2 g3 c3,g4],g5⟩
end Go.Sp
end
section
open Go Go.SE
namespace Go.Proofs
open Tryz
attribute [local irreducible] Calls CallsD
def Raw.cells (k:Nat) (x:Raw):List Value:=[.int .i64 k,.int .i64 0,.int .i64 0,.int .u64 x.num,.string ⟨x.text.toArray⟩,.int .i64 0,.int .i64 0,.int .u64 x.frm,.int .u64 x.to,.int .u64 x.a,.int .u64 x.b,.int .i64 x.kids]
theorem jPV (bs:List UInt8) (r:Rd) (k:Nat) (x:Raw) (f:Fld):f.upd bs r (x.cells k)=(f.raw bs r x).cells k:=by cases f <;> rfl
theorem jOK (bs:List UInt8):∀(l1 l2:List Fld) (s:Raw×Rd),vZ bs (l1++l2) s=vZ bs l2 (vZ bs l1 s):=by
 intro l1;induction l1 with
 | nil=>intro l2 s;rfl
 | cons f l1 ih=>intro l2 s;obtain ⟨x,r⟩:=s;rw [List.cons_append,vZ,vZ,ih]
theorem jLL (bs:List UInt8) (fs:List Fld) (j:Nat) (hj:j<fs.length) (s:Raw×Rd):vZ bs (fs.take (j+1)) s=(fs[j].raw bs (vZ bs (fs.take j) s).2 (vZ bs (fs.take j) s).1,fs[j].rd bs (vZ bs (fs.take j) s).2):=by
 rw [List.take_succ_eq_append_getElem hj,jOK];obtain ⟨x,r⟩:=vZ bs (fs.take j) s;rfl
theorem jUI (f:Fld):∀args w,(callFunc f.get args).run prog w=.ok (.enter f.get args) w:=by
 cases f
 ·exact call218
 ·exact call221
 ·exact call223
 ·exact call226
 ·exact call229
 ·exact call231
structure StAt (w:World) (q a:Addr) (s:Sl) (bs:List UInt8) (L:Sp.Pool) (r:Rd) (m:Nat) (S FP F:NP):Prop where
 pool:zR w q L FP
 rd:RdS S w a s bs r
 kinds:Kinds w m F
 lS:∀b,S b→b<w.heap.size
 la:a.block<w.heap.size
 dP:∀b,FP b→b≠a.block∧¬ S b∧¬ F b∧b≠m
 dF:∀b,F b→b≠a.block∧¬ S b
 dm:m≠a.block∧¬ S m
theorem StAt.ext {w w':World} {q a:Addr} {s:Sl} {bs:List UInt8} {L:Sp.Pool} {r:Rd} {m:Nat} {S FP F G:NP} (h:StAt w q a s bs L r m S FP F) (E:Ext G w w') (hG:∀b,b<w.heap.size→¬ G b):StAt w' q a s bs L r m S FP F :=
 ⟨h.pool.ext E (fun b hb=>hG b (h.pool.lt hb)),h.rd.ext E (fun b hb=>hG b (h.lS b hb)) (hG _ h.la),h.kinds.ext E (fun b hb=>hG b (hb.elim (h.kinds.lt b) (fun e=>e▸h.kinds.mlt))),fun b hb=>Nat.lt_of_lt_of_le (h.lS b hb) E.size,Nat.lt_of_lt_of_le h.la E.size,h.dP,h.dF,h.dm⟩
theorem StAt.pure {w w':World} {q a:Addr} {s:Sl} {bs:List UInt8} {L:Sp.Pool} {r:Rd} {m:Nat} {S FP F:NP} (h:StAt w q a s bs L r m S FP F) (E:Pure w w'):StAt w' q a s bs L r m S FP F:=h.ext E (fun _ _ h=>h)
theorem jLA {n:Nat} (h:n<9223372036854775808):IntKind.i64.wrap (n:Int)=(n:Int):=IntWalk.i64_in _ (by omega)
theorem jBI (n:Nat):s_N (n:Int)=if 2147483647<n then -1 else (n:Int):=by
 unfold s_N;by_cases h:2147483647<n
 ·rw [if_pos h,show decide ((n:Int)>2147483647)=true by simp;omega];rfl
 ·rw [if_neg h,show decide ((n:Int)>2147483647)=false by simp;omega];exact jLA (by omega)
theorem jNW (k f t:Nat) (u:Int) (x:ByteArray) (a b:Int):s_S (k:Int) (s_N (f:Int)) (s_N (t:Int)) u x a b=if 16≤f∨16≤t∨((k=8∨k=9)∧f=t) then 50 else 0:=by
 unfold s_S;rw [jBI,jBI];have key:((((decide ((if 2147483647<f then -1 else (f:Int))<0) || decide ((if 2147483647<f then -1 else (f:Int))≥16)) || decide ((if 2147483647<t then -1 else (t:Int))<0)) || decide ((if 2147483647<t then -1 else (t:Int))≥16)) || ((((k:Int) == 8) || ((k:Int) == 9)) && ((if 2147483647<f then -1 else (f:Int)) == (if 2147483647<t then -1 else (t:Int)))))=decide (16≤f∨16≤t∨((k=8∨k=9)∧f=t)):=by
  rw [Bool.eq_iff_iff];simp only [Bool.or_eq_true,Bool.and_eq_true,decide_eq_true_eq,beq_iff_eq];by_cases h1:2147483647<f
  ·rw [if_pos h1];exact ⟨fun _=>.inl (by omega),fun _=>.inl (.inl (.inl (.inl (by omega))))⟩
  ·by_cases h2:2147483647<t
   ·rw [if_pos h2];exact ⟨fun _=>.inr (.inl (by omega)),fun _=>.inl (.inl (.inr (by omega)))⟩
   ·rw [if_neg h1,if_neg h2];omega
 rw [key];by_cases h:16≤f∨16≤t∨((k=8∨k=9)∧f=t)
 ·rw [decide_eq_true h,if_pos h];rfl
 ·rw [decide_eq_false h,if_neg h];rfl
theorem jHC {w:World} {p:Addr} {n:Sp.Node} {cs:List Value} {T:TypeId} (h:Box w p (uR n++cs) T):Row w p (uR n):=fun i hi=>by
 have:=h.row i (by rw [List.length_append];omega);rw [List.getElem?_append_left hi] at this;exact this
theorem c_sub4 (q a:Addr) (s:Sl) (bs:List UInt8) (r:Rd) (m:Nat) {S FP F:NP} {L:Sp.Pool} (p:Addr) (n:Sp.Node) (cs:List Value) {w:World} (h:StAt w q a s bs L r m S FP F) (hok:Sp.Ok L) (hB:Box w p (uR n++cs) 303) (hp:¬ FP p.block) (K:Int→WP)
  (hK:∀x w',x=(if (Sp.find L n).isSome=true then 72 else (Sp.make L n).2.1)→(∃F',zR w' q (if (Sp.find L n).isSome=true then L else (Sp.make L n).2.2) F'∧RdS S w' a s bs r∧Ext FP w w'∧∀b,F' b→FP b∨w.heap.size≤b)→K x w') :
  m_H_j4 (some q) p None w K:=by
 unfold m_H_j4
 refine ⟨n.kind,n.frm,n.to,n.num,n.text,n.a,n.b,jHC hB,?_⟩
 refine (jWM q n w h.pool hok).mono ?_
 rintro _ w1 ⟨x,ok,rfl,hf,E1⟩
 refine ⟨_,_,rfl,E1.keptP,fun hok1=>?_,fun hok1=>?_⟩
 ·have : (Sp.find L n).isSome = true := by
   cases hn:Sp.find L n with
   | some i=>rfl
   | none=>rw [hn] at hf;simp only at hf;rw [hf.2] at hok1;cases hok1
  rw [if_pos this,if_pos this] at hK
  exact hK _ _ rfl ⟨FP,h.pool.pure E1,h.rd.pure E1,Ext.pure E1,fun b hb=>.inl hb⟩
 ·have : ¬ (Sp.find L n).isSome = true := by
   cases hn:Sp.find L n with
   | some i=>rw [hn] at hf;simp only at hf;rw [hf.2] at hok1;cases hok1
   | none=>simp
  rw [if_neg this,if_neg this] at hK
  refine ⟨n.kind,n.frm,n.to,n.num,n.text,n.a,n.b,jHC (hB.pure E1),?_⟩
  refine (jNP q n.kind n.frm n.to n.num n.text n.a n.b w1 (h.pool.pure E1) hok).mono ?_
  rintro _ w2 ⟨x1,x2,rfl,he,F',hP,E2,hF'⟩
  have he2:=congrArg Prod.snd he
  simp only at he2
  refine ⟨x1,x2,rfl,E2.kept (fun b hb=>hb.elim),hK _ _ he2 ⟨F',hP,(h.rd.pure E1).ext E2 (fun b hb hh=>(h.dP b hh).2.1 hb) (fun hh=>(h.dP _ hh).1 rfl),(Ext.pure E1).trans E2,fun b hb=>(hF' b hb).elim .inl (fun hb=>.inr (by have:=E1.size;omega))⟩⟩
theorem jVQ (k:Nat) (x:Raw):(((x.cells k).set 1 (.int .i64 (s_N x.frm))).set 2 (.int .i64 (s_N x.to)))=uR ⟨k,s_N x.frm,s_N x.to,x.num,⟨x.text.toArray⟩,0,0⟩++[.int .u64 x.frm,.int .u64 x.to,.int .u64 x.a,.int .u64 x.b,.int .i64 x.kids]:=rfl
theorem jTI (n:Sp.Node) (cs:List Value) (v:Int):(uR n++cs).set 5 (.int .i64 v)=uR { n with a:=v }++cs:=rfl
theorem jTH (n:Sp.Node) (cs:List Value) (v:Int):(uR n++cs).set 6 (.int .i64 v)=uR { n with b:=v }++cs:=rfl
theorem c_sub3 (q a:Addr) (s:Sl) (bs:List UInt8) (r:Rd) (m:Nat) {S FP F:NP} {L:Sp.Pool} (p:Addr) (k:Nat) (x:Raw) {w:World} (h:StAt w q a s bs L r m S FP F) (hok:Sp.Ok L)
  (h1:x.frm<16) (h2:x.to<16) (ha:0<x.kids→x.a<L.length) (hb:1<x.kids→x.b<L.length)
  (hB:Box w p (uR ⟨k,s_N x.frm,s_N x.to,x.num,⟨x.text.toArray⟩,0,0⟩++[.int .u64 x.frm,.int .u64 x.to,.int .u64 x.a,.int .u64 x.b,.int .i64 x.kids]) 303) (hpS:p.block≠a.block∧¬ S p.block∧¬ FP p.block∧¬ F p.block∧p.block≠m) (K:Int→WP)
  (hK:∀y w',y=(if (Sp.find L (x.node k)).isSome=true then 72 else (Sp.make L (x.node k)).2.1)→(∃F',zR w' q (if (Sp.find L (x.node k)).isSome=true then L else (Sp.make L (x.node k)).2.2) F'∧RdS S w' a s bs r∧Ext (fun b=>FP b∨b=p.block) w w'∧∀b,F' b→FP b∨w.heap.size≤b)→K y w') :
  m_H_j2 (some q) p false None w K:=by
 have hok2:=hok.few
 have fs:s_N (x.frm:Int)=(x.frm:Int):=by rw [jBI,if_neg (by omega)]
 have ts:s_N (x.to:Int)=(x.to:Int):=by rw [jBI,if_neg (by omega)]
 rw [fs,ts] at hB
 have st5:∀{w w':World} {i:Nat} {v:Value},StAt w q a s bs L r m S FP F→w'=w.setCell (p.add i) v→StAt w' q a s bs L r m S FP F∧Ext (·=p.block) w w':=fun {w w' i v} h e=>by
  have E:Ext (·=p.block) w w':=by rw [e];exact yB
  refine ⟨⟨h.pool.ext E (fun b hb e=>hpS.2.2.1 (e▸hb)),h.rd.ext E (fun b hb e=>hpS.2.1 (e▸hb)) (fun e=>hpS.1 e.symm),h.kinds.ext E (fun b hb e=>hb.elim (fun hb=>hpS.2.2.2.1 (e▸hb)) (fun hb=>hpS.2.2.2.2 (e.symm.trans hb))),fun b hb=>Nat.lt_of_lt_of_le (h.lS b hb) E.size,Nat.lt_of_lt_of_le h.la E.size,h.dP,h.dF,h.dm⟩,E⟩
 have wr:∀n:Nat,n<L.length→IntKind.i64.wrap (IntKind.u64.wrap ((n:Int)+1))=(n:Int)+1:=fun n hn=>by
  rw [show (n:Int)+1=((n+1:Nat):Int) by omega,yM (by omega),jLA (by omega)]
 have fin : ∀ (va vb : Int) (w1 : World), StAt w1 q a s bs L r m S FP F → Box w1 p (uR ⟨k, x.frm, x.to, x.num, ⟨x.text.toArray⟩, va, vb⟩ ++ [.int .u64 x.frm, .int .u64 x.to, .int .u64 x.a, .int .u64 x.b, .int .i64 x.kids]) 303 → Ext (· = p.block) w w1 →
   va=(if 0<x.kids then (x.a:Int)+1 else 0)→vb=(if 1<x.kids then (x.b:Int)+1 else 0)→m_H_j4 (some q) p None w1 K:=by
  intro va vb w1 h1 hB1 E1 hva hvb
  have hn:(⟨k,x.frm,x.to,x.num,⟨x.text.toArray⟩,va,vb⟩:Sp.Node)=x.node k:=by subst hva hvb;rfl
  rw [hn] at hB1
  refine c_sub4 q a s bs r m p (x.node k) _ h1 hok hB1 hpS.2.2.1 K (fun y w' hy ⟨F',g1,g2,g3,g4⟩=>hK y w' hy ⟨F',g1,g2,(E1.mono (fun b _ h=>.inr h)).trans (g3.mono (fun b _ h=>.inl h)),fun b hb=>(g4 b hb).imp id (fun h=>by have:=E1.size;omega)⟩)
 unfold m_H_j2
 refine ⟨fun hc=>(by cases hc),fun _=>⟨x.kids,hB.cell (i:=11) rfl,?_⟩⟩
 have j3 : ∀ (va : Int) (w1 : World), StAt w1 q a s bs L r m S FP F → Box w1 p (uR ⟨k, x.frm, x.to, x.num, ⟨x.text.toArray⟩, va, 0⟩ ++ [.int .u64 x.frm, .int .u64 x.to, .int .u64 x.a, .int .u64 x.b, .int .i64 x.kids]) 303 → Ext (· = p.block) w w1 →
   va=(if 0<x.kids then (x.a:Int)+1 else 0)→m_H_j3 (some q) p None w1 K:=by
  intro va w1 h1 hB1 E1 hva
  unfold m_H_j3
  refine ⟨x.kids,hB1.cell (i:=11) rfl,fun hc=>?_,fun hc=>?_⟩
  ·have hc:1<x.kids:=by have:=of_decide_eq_true hc;omega
   refine ⟨x.b,hB1.cell (i:=10) rfl,hB1.canW (i:=6) (by simp [uR]),id,?_⟩
   rintro w2 e2
   obtain ⟨h2,E2⟩:=st5 h1 e2
   have hB2:=hB1.set 6 (.int .i64 (IntKind.i64.wrap (IntKind.u64.wrap ((x.b:Int)+1))))
   rw [← e2,jTH,wr _ (hb hc)] at hB2
   exact fin va _ w2 h2 hB2 (E1.trans E2) hva (by rw [if_pos hc])
  ·have hc:¬ 1<x.kids:=by have:=of_decide_eq_false hc;omega
   exact fin va 0 w1 h1 hB1 E1 hva (by rw [if_neg hc])
 refine ⟨fun hc=>?_,fun hc=>?_⟩
 ·have hc:0<x.kids:=by have:=of_decide_eq_true hc;omega
  refine ⟨x.a,hB.cell (i:=9) rfl,hB.canW (i:=5) (by simp [uR]),id,?_⟩
  rintro w2 e2
  obtain ⟨h2,E2⟩:=st5 h e2
  have hB2:=hB.set 5 (.int .i64 (IntKind.i64.wrap (IntKind.u64.wrap ((x.a:Int)+1))))
  rw [← e2,jTI,wr _ (ha hc)] at hB2
  exact j3 _ w2 h2 hB2 E2 (by rw [if_pos hc])
 ·have hc:¬ 0<x.kids:=by have:=of_decide_eq_false hc;omega
  exact j3 0 w h hB (Ext.refl _) (by rw [if_neg hc])
theorem jSB (q a:Addr) (s:Sl) (bs:List UInt8) (r:Rd) (m:Nat) {S FP F:NP} {L:Sp.Pool} {w0:World} (h:StAt w0 q a s bs L r m S FP F) (hok:Sp.Ok L) (hlt:r.at_<bs.length) (he:r.err=0) :
  Calls prog 162 #[.pointer (some q),.pointer (some a),.map (some m)] w0 (fun e w'=>∃y:Int,e=.returned (.int .i64 y)∧(y=(vR bs L r).2.1∧∃F',zR w' q (vR bs L r).1 F'∧RdS S w' a s bs (vR bs L r).2.2∧Ext (fun b=>FP b∨b=a.block) w0 w'∧∀b,F' b→FP b∨w0.heap.size≤b)):=by
 refine w_H (some q) (some a) (some m) w0 (fun y w'=>y=(vR bs L r).2.1∧∃F',zR w' q (vR bs L r).1 F'∧RdS S w' a s bs (vR bs L r).2.2∧Ext (fun b=>FP b∨b=a.block) w0 w'∧∀b,F' b→FP b∨w0.heap.size≤b) ?_
 unfold m_H
 refine (c_Byte a s bs r w0 h.rd (Nat.le_of_lt hlt) h.lS).mono ?_
 rintro _ w1 ⟨_,rfl,rfl,hR1,E1⟩
 refine ⟨_,rfl,E1.kept (fun b hb=>hb.elim),?_⟩
 rw [tR bs L r hlt he]
 rw [jMX bs r hlt he] at hR1 ⊢
 simp only at hR1 ⊢
 generalize hk:bs[r.at_].toNat=k at *
 have hk256:k<256:=by rw [← hk];exact bs[r.at_].toNat_lt
 have S1:StAt w1 q a s bs L ⟨r.at_+1,0,r.spot⟩ m S FP F:=⟨h.pool.ext E1 (fun b hb e=>(h.dP b hb).1 e),hR1,h.kinds.ext E1 (fun b hb e=>hb.elim (fun hb=>(h.dF b hb).1 e) (fun hb=>h.dm.1 (hb.symm.trans e))),fun b hb=>Nat.lt_of_lt_of_le (h.lS b hb) E1.size,Nat.lt_of_lt_of_le h.la E1.size,h.dP,h.dF,h.dm⟩
 intro p1 w2 n2
 rw [jLA (by omega)] at n2
 have E2:Pure w1 w2:=Ext.new n2
 have S2:=S1.pure E2
 have B2:Box w2 p1 (tK.cells k) 303:=Box.of_newA n2
 have bp:=n2.at_size
 have z1:=E1.size
 have E02:Ext (·=a.block) w0 w2:=E1.thenPure E2
 refine ⟨k,B2.cell0,?_⟩
 by_cases hkk:jAW k=true
 ·have hk19:1≤k∧k≤9:=by unfold jAW at hkk;simpa using hkk
  obtain ⟨v2,hlook,hLst⟩:=S2.kinds.get (k:Int) (by omega) (by omega) true
  refine ⟨v2,true,hlook,fun hc=>(by cases hc),fun _=>?_⟩
  rw [if_pos hkk]
  generalize hfs:uS (k:Int)=fs at *
  have hf3:fs.length≤3:=by rw [← hfs];exact jNH _
  have hrat:∀j,(vZ bs (fs.take j) (tK,⟨r.at_+1,0,r.spot⟩)).2.at_≤bs.length:=fun j=>(jIY bs (fs.take j) tK ⟨r.at_+1,0,r.spot⟩ (by simp only;omega)).2
  refine ⟨fun x1 Hl w=>∃j:Nat,x1=j∧j≤fs.length∧Hl=None∧StAt w q a s bs L (vZ bs (fs.take j) (tK,⟨r.at_+1,0,r.spot⟩)).2 m S FP F∧Box w p1 ((vZ bs (fs.take j) (tK,⟨r.at_+1,0,r.spot⟩)).1.cells k) 303∧Lst F w 2 v2 (fs.map Fld.row)∧Ext (·=a.block) w0 w,fun x1 _=>((fs.length:Int) - x1).toNat,⟨0,rfl,Nat.zero_le _,rfl,S2,B2,hLst,E02⟩,?_⟩
  rintro _ _ wl _ ⟨j,rfl,hj,rfl,hS,hB,hL,hE⟩
  unfold m_H_l1
  have hlen:v2.len=fs.length:=by rw [hL.len,List.length_map]
  have ple:p1.block<wl.heap.size:=hB.lt
  have zE:=hE.size
  have nS:¬ S p1.block:=fun hh=>by have:=h.lS _ hh;omega
  have nF:¬ F p1.block:=fun hh=>by have:=h.kinds.lt _ hh;omega
  have nP:¬ FP p1.block:=fun hh=>by have:=h.pool.lt hh;omega
  have na:p1.block≠a.block:=fun hh=>by have:=h.la;omega
  have nm:p1.block≠m:=fun hh=>by have:=h.kinds.mlt;omega
  refine ⟨fun hc=>?_,fun hc=>?_⟩
  ·have hc:=uN hlen hc
   obtain ⟨a1,hat,_,hrow⟩:=hL.nth hc
   refine ⟨a1,hat,_,_,hrow,?_⟩
   intro p2 w3 n3
   have E3:Pure wl w3:=Ext.new n3
   refine ⟨⟨rfl,fun i hi=>(Box.of_newA n3).canW (by simpa using hi)⟩,id,?_⟩
   rintro w4 e4
   have X4:Ext (·=p2.block) w3 w4:=by rw [e4];exact Ext.storeRow _ _ _
   have B4:Box w4 p2 [.func (.func fs[j].put) #[] #[],.func (.func fs[j].get) #[] #[]] 263:=by rw [e4];exact (Box.of_newA n3).store rfl
   have hp2:=n3.at_size
   have E34:Pure wl w4:=E3.own (by rw [hp2];exact Nat.le_refl _) X4
   have S4:=hS.pure E34
   refine ⟨_,B4.cell (i:=1) rfl,fs[j].get,#[],#[],rfl,jUI fs[j],?_⟩
   refine (c_get fs[j] a p1 s bs _ _ w4 S4.rd (hrat j) S4.lS (hB.pure E34) rfl (fun e=>na e.symm) (fun b hb e=>nS (e▸hb))).mono ?_
   rintro _ w5 ⟨rfl,hR5,hB5,E5⟩
   rw [jPV] at hB5
   have hsn:=jLL bs fs j hc (tK,⟨r.at_+1,0,r.spot⟩)
   refine ⟨rfl,E5.kept (fun b hb=>hb.elim),⟨j+1,vV hc (by omega),hc,rfl,?_,?_,?_,?_⟩,by rw [vV hc (by omega)];exact jCC hc⟩
   ·rw [hsn]
    exact ⟨S4.pool.ext E5 (fun b hb e=>e.elim (fun e=>(h.dP b hb).1 e) (fun e=>nP (e▸hb))),hR5,S4.kinds.ext E5 (fun b hb e=>hb.elim (fun hb=>e.elim (fun e=>(h.dF b hb).1 e) (fun e=>nF (e▸hb))) (fun hb=>e.elim (fun e=>h.dm.1 (hb.symm.trans e)) (fun e=>nm (e.symm.trans hb)))),fun b hb=>Nat.lt_of_lt_of_le (S4.lS b hb) E5.size,Nat.lt_of_lt_of_le S4.la E5.size,h.dP,h.dF,h.dm⟩
   ·rw [hsn];exact hB5
   ·exact (hL.pure E34).ext E5 (fun b hb e=>e.elim (fun e=>(h.dF b hb).1 e) (fun e=>nF (e▸hb)))
   ·exact (hE.thenPure E34).trans' E5 (fun i hi e=>e.elim id (fun e=>by omega))
  ·have hc:=xS hlen hj hc
   subst hc
   rw [List.take_length] at hS hB
   have hkd:=(@Sp.jJN bs (k:Int) (by omega) (by omega) ⟨r.at_+1,0,r.spot⟩).1
   rw [hfs] at hkd
   generalize vZ bs fs (tK,⟨r.at_+1,0,r.spot⟩)=st at *
   obtain ⟨x,r'⟩:=st
   simp only at hS hB hkd
   have fin : ∀ (y : Int) (w : World) (F' : NP), zR w q (jCK L k (x, r')).1 F' → RdS S w a s bs (jCK L k (x, r')).2.2 → Ext (fun b => FP b ∨ b = a.block) w0 w → (∀ b, F' b → FP b ∨ w0.heap.size ≤ b) → y = (jCK L k (x, r')).2.1 →
     y=(jCK L k (x,r')).2.1∧∃F',zR w q (jCK L k (x,r')).1 F'∧RdS S w a s bs (jCK L k (x,r')).2.2∧Ext (fun b=>FP b∨b=a.block) w0 w∧∀b,F' b→FP b∨w0.heap.size≤b:=fun y w F' a1 a2 a3 a4 a5=>⟨a5,F',a1,a2,a3,a4⟩
   have hEo:Ext (fun b=>FP b∨b=a.block) w0 wl:=hE.mono (fun b _ h=>.inr h)
   have bad:∀(e:Nat) (w:World),nodeErr k L.length x r'.err=e→e≠0→Ext (·=p1.block) wl w→(((e:Nat):Int)=(jCK L k (x,r')).2.1∧∃F',zR w q (jCK L k (x,r')).1 F'∧RdS S w a s bs (jCK L k (x,r')).2.2∧Ext (fun b=>FP b∨b=a.block) w0 w∧∀b,F' b→FP b∨w0.heap.size≤b):=by
    intro e w hne h0 E;have hr:jCK L k (x,r')=(L,(e:Int),r'):=by
     unfold jCK;simp only;rw [if_pos (by rw [hne];exact h0),hne]
    rw [hr];exact ⟨rfl,FP,hS.pool.ext E (fun b hb e=>nP (e▸hb)),hS.rd.ext E (fun b hb e=>nS (e▸hb)) (fun e=>na e.symm),hEo.trans' E (fun i hi e=>by omega),fun b hb=>.inl hb⟩
   refine (c_Why a s bs r' wl hS.rd).mono ?_
   rintro _ w6 ⟨_,_,rfl,rfl,rfl,E6⟩
   have S6:=hS.pure E6
   have B6:=hB.pure E6
   refine ⟨_,_,rfl,E6.keptP,fun hc=>?_,fun hc=>?_⟩
   ·have hc:r'.err≠0:=by have:=bne_iff_ne.1 hc;omega
    exact bad r'.err w6 (by unfold nodeErr;rw [if_pos hc]) hc (Ext.pure E6)
   ·have hc : r'.err = 0 := by
     have:((r'.err:Int) != 0)=false:=hc;simpa using this
    refine ⟨fun w'=>w'.cell? (p1.add 8)=some (.int .u64 x.to),(B6.pure (Ext.drew w6)).cell (i:=8) rfl,?_⟩
    rintro w7 e7
    have E7:Pure w6 w7:=by rw [e7];exact Ext.drew w6
    have B7:=B6.pure E7
    refine ⟨x.frm,B7.cell (i:=7) rfl,x.to,fun w' hw'=>hw',?_⟩
    refine (p_N (x.frm:Int) w7).mono ?_
    rintro _ w8 ⟨rfl,E8⟩
    have B8:=B7.pure E8
    refine ⟨_,rfl,B8.cell (i:=8) rfl,E8.keptP,?_⟩
    refine (p_N (x.to:Int) w8).mono ?_
    rintro _ w9 ⟨rfl,E9⟩
    have B9:=B8.pure E9
    refine ⟨_,rfl,B9.cell (i:=8) rfl,E9.keptP,B9.canW (i:=1) (by simp [Raw.cells]),id,?_⟩
    rintro w10 e10
    have X10:Ext (·=p1.block) w9 w10:=by rw [e10];exact yB
    have B10:=B9.set 1 (.int .i64 (s_N x.frm))
    rw [← e10] at B10
    refine ⟨B10.cell (i:=8) rfl,B10.canW (i:=2) (by simp [Raw.cells]),id,?_⟩
    rintro w11 e11
    have X11:Ext (·=p1.block) w10 w11:=by rw [e11];exact yB
    have B11:=B10.set 2 (.int .i64 (s_N x.to))
    rw [← e11,jVQ] at B11
    have E11:Ext (·=p1.block) wl w11:=((Ext.pure (((E6.trans E7).trans E8).trans E9)).trans X10).trans X11
    have S11:StAt w11 q a s bs L r' m S FP F:=⟨hS.pool.ext E11 (fun b hb e=>nP (e▸hb)),hS.rd.ext E11 (fun b hb e=>nS (e▸hb)) (fun e=>na e.symm),hS.kinds.ext E11 (fun b hb e=>hb.elim (fun hb=>nF (e▸hb)) (fun hb=>nm (e.symm.trans hb))),fun b hb=>Nat.lt_of_lt_of_le (hS.lS b hb) E11.size,Nat.lt_of_lt_of_le hS.la E11.size,h.dP,h.dF,h.dm⟩
    refine ⟨k,s_N x.frm,s_N x.to,x.num,⟨x.text.toArray⟩,0,0,jHC B11,?_⟩
    rw [jNW]
    by_cases hnm:16≤x.frm∨16≤x.to∨((k=8∨k=9)∧x.frm=x.to)
    ·rw [if_pos hnm]
     refine ⟨fun _ w12 hs12=>?_,fun hc=>(by cases hc)⟩
     exact bad 50 w12 (by unfold nodeErr;rw [if_neg (by omega),if_pos hnm]) (by decide) (E11.thenPure hs12.ext)
    ·rw [if_neg hnm]
     refine ⟨fun hc=>(by cases hc),fun _ w12 hs12=>?_⟩
     have E12:Pure w11 w12:=hs12.ext
     have S12:=S11.pure E12
     refine (jCT q w12 S12.pool).mono ?_
     rintro _ w13 ⟨_,rfl,rfl,rfl⟩
     have B12:=B11.pure E12
     have hLs:=hok.few
     refine ⟨_,rfl,Kept.refl _,x.kids,B12.cell (i:=11) rfl,?_⟩
     rw [yM (by omega)]
     have bad71:((0<x.kids∧L.length≤x.a)∨(1<x.kids∧L.length≤x.b))→((71:Int)=(jCK L k (x,r')).2.1∧∃F',zR w13 q (jCK L k (x,r')).1 F'∧RdS S w13 a s bs (jCK L k (x,r')).2.2∧Ext (fun b=>FP b∨b=a.block) w0 w13∧∀b,F' b→FP b∨w0.heap.size≤b):=fun hh =>
      bad 71 w13 (by unfold nodeErr;rw [if_neg (by omega),if_neg hnm,if_pos hh]) (by decide) (E11.thenPure E12)
     have good:¬ ((0<x.kids∧L.length≤x.a)∨(1<x.kids∧L.length≤x.b))→m_H_j2 (some q) p1 false None w13 (fun y w'=>y=(jCK L k (x,r')).2.1∧∃F',zR w' q (jCK L k (x,r')).1 F'∧RdS S w' a s bs (jCK L k (x,r')).2.2∧Ext (fun b=>FP b∨b=a.block) w0 w'∧∀b,F' b→FP b∨w0.heap.size≤b):=fun hh=>by
      have hr:jCK L k (x,r')=(if (Sp.find L (x.node k)).isSome=true then L else (Sp.make L (x.node k)).2.2,if (Sp.find L (x.node k)).isSome=true then 72 else (Sp.make L (x.node k)).2.1,r'):=by
       have hne:nodeErr k L.length x r'.err=0:=by unfold nodeErr;rw [if_neg (by omega),if_neg hnm,if_neg hh]
       unfold jCK;simp only;rw [if_neg (by rw [hne];simp)];split <;> rfl
      rw [hr];refine c_sub3 q a s bs r' m p1 k x S12 hok (by omega) (by omega) (by omega) (by omega) B12 ⟨na,nS,nP,nF,nm⟩ _ ?_;rintro y w' hy ⟨F',g1,g2,g3,g4⟩;exact ⟨hy,F',g1,g2,(hEo.trans' (E11.thenPure E12) (fun i hi e=>by omega)).trans' g3 (fun i hi e=>e.elim .inl (fun e=>by omega)),fun b hb=>(g4 b hb).imp id (fun hh=>by have:=E11.size;have:=E12.size;omega)⟩
     have j5:∀x3:Bool,x3=decide (0<x.kids∧L.length≤x.a)→m_H_j5 (some q) p1 (L.length:Int) x3 None w13 (fun y w'=>y=(jCK L k (x,r')).2.1∧∃F',zR w' q (jCK L k (x,r')).1 F'∧RdS S w' a s bs (jCK L k (x,r')).2.2∧Ext (fun b=>FP b∨b=a.block) w0 w'∧∀b,F' b→FP b∨w0.heap.size≤b):=by
      intro x3 h3;unfold m_H_j5;refine ⟨fun hc=>?_,fun hc=>?_⟩
      ·rw [hc] at h3;have h3:=of_decide_eq_true h3.symm;unfold m_H_j2;exact ⟨fun _=>bad71 (.inl h3),fun hc=>(by cases hc)⟩
      ·rw [hc] at h3;have h3:=of_decide_eq_false h3.symm;refine ⟨x.kids,B12.cell (i:=11) rfl,fun hc=>?_,fun hc=>?_⟩
       ·have hc:=of_decide_eq_true hc;refine ⟨x.b,B12.cell (i:=10) rfl,?_⟩;rw [yM (by omega)];by_cases hb:L.length≤x.b
        ·rw [decide_eq_true (show (x.b:Int)≥(L.length:Int) by omega)];unfold m_H_j2;exact ⟨fun _=>bad71 (.inr ⟨by omega,hb⟩),fun hc=>(by cases hc)⟩
        ·rw [decide_eq_false (show ¬ (x.b:Int)≥(L.length:Int) by omega)];exact good (by omega)
       ·have hc:=of_decide_eq_false hc;exact good (by omega)
     refine ⟨fun hc=>?_,fun hc=>?_⟩
     ·have hc:=of_decide_eq_true hc
      refine ⟨x.a,B12.cell (i:=9) rfl,j5 _ ?_⟩
      rw [decide_eq_decide];omega
     ·have hc:=of_decide_eq_false hc
      refine j5 _ ?_
      rw [decide_eq_false];omega
 ·have hnk:¬ (1≤(k:Int)∧(k:Int)≤9):=fun hh=>hkk (by unfold jAW;simp;omega)
  refine ⟨_,false,S2.kinds.none (k:Int) hnk,fun _=>?_,fun hc=>(by cases hc)⟩
  rw [if_neg hkk]
  exact ⟨rfl,FP,S2.pool,S2.rd,E02.mono (fun b _ h=>.inr h),fun b hb=>.inl hb⟩
end Go.Proofs
end
section
open Go Go.SE
open Go.IntKind renaming i64 → q6
namespace Go.Proofs
open Tryz
set_option maxRecDepth 100000
set_option maxHeartbeats 4000000
attribute [local irreducible] wpL wpX opE wpE Calls
def m_R4 (p1:Option Addr) (aA:Option Addr) (t1:Int) (w0:World) (K:Int→Int→WP):Prop :=∀(p2:Addr) (w1:World),New w0 (.cells #[(vp p1)] 91) p2 w1→∀(p3:Addr) (w2:World),New w1 (.cells #[(vp aA)] 91) p3 w2→∀(p4:Addr) (w3:World),New w2 (.cells #[(vi 0)] 78) p4 w3→∀(p5:Addr) (w4:World),New w3 (.cells #[(vi 0)] 33) p5 w4→∃v1:Option Addr,w4.cell? p2=some (vp v1)∧Br (Option.isNone v1) (CanW w4 p4∧¬ None p4.block∧∀w5:World,w5=w4.setCell p4 (vi 0)→CanW w5 p5∧¬ None p5.block∧∀w6:World,w6=w5.setCell p5 (vi 0)→∃aB:Int,w6.cell? p4=some (vi aB)∧∃aC:Int,w6.cell? p5=some (vi aC)∧K aB aC w6) (∃v2:Option Addr,w4.cell? p3=some (vp v2)∧Calls prog 138 #[(vp v2),(vi t1)] w4 (fun e w7=>∃r1:Bool,e=.returned (vb r1)∧Kept None w4 w7∧Br (!r1) (CanW w7 p4∧¬ None p4.block∧∀w8:World,w8=w7.setCell p4 (vi 0)→CanW w8 p5∧¬ None p5.block∧∀w9:World,w9=w8.setCell p5 (vi 51)→∃aD:Int,w9.cell? p4=some (vi aD)∧∃aE:Int,w9.cell? p5=some (vi aE)∧K aD aE w9) (∃v3:Option Addr,w7.cell? p2=some (vp v3)∧∃a1:Addr,v3=some a1∧∃v4:Sl,w7.cell? a1=some v4.v∧∀(p6:Addr) (w10:World),New w7 (.cells #[(vi 0)] 3) p6 w10→CanW w10 p6∧¬ None p6.block∧∀w11:World,w11=w10.setCell p6 (vi (v4.len:Int))→∀(p7:Addr) (w12:World),New w11 (.map #[] 0) p7 w12→∀(p8:Addr) (w13:World),New w12 (.cells #[(.map none)] 207) p8 w13→CanW w13 p8∧¬ None p8.block∧∀w14:World,w14=w13.setCell p8 (.map (some p7.block))→∃v5:Option Addr,w14.cell? p3=some (vp v5)∧Calls prog 139 #[(vp v5),(vi t1)] w14 (fun e w15=>∃r2:Value,e=.returned r2∧Kept None w14 w15∧∃(f1:FuncId) (cs1:Array Value),r2=.func (.func f1) #[] cs1∧(∀args w,(callFunc f1 args).run prog w=.ok (.enter f1 args) w)∧∃(xs1:List (Int)) (Rd1:WP),jUQ prog f1 cs1 (fun (z2:Int)=>#[(vi z2)]) xs1 Rd1 w15∧∃(I1 Ir1:List (Int)→NP→WP),RngI w0 Rd1 I1 (fun _ _ _=>False) Ir1∧I1 [] None w15∧(∀(pre1:List (Int)) (z2:Int) (Y1:NP) (A1:World),I1 pre1 Y1 A1→Hst w0 Y1 A1 Y1 A1→(∃post,xs1=pre1++z2 :: post)→∃v6:Option Addr,A1.cell? p3=some (vp v6)∧Calls prog 104 #[(vp v6),(vi z2)] A1 (fun e w17=>∃aF aG:Int,∃aH aI:Int,∃aJ:ByteArray,∃aK aL:Int,∃r3:Bool,e=.returned (.tuple #[(.agg #[(vi aF),(vi aG),(vi aH),(vu aI),(vs aJ),(vi aK),(vi aL)]),(vb r3)])∧Kept None A1 w17∧∀(p9:Addr) (w18:World),New w17 (.cells #[(vi 0),(vi 0),(vi 0),(vu 0),ve,(vi 0),(vi 0)] 127) p9 w18→(∀j,j<7→CanW w18 (p9.add j))∧¬ None p9.block∧∀w19:World,w19=storeRow w18 p9 [(vi aF),(vi aG),(vi aH),(vu aI),(vs aJ),(vi aK),(vi aL)]→∃C1:WP,C1 w19.drew∧∀w20,w20=w19.drew→∃v7:Option Nat,w20.cell? p8=some (.map v7)∧∃v8:Int,w20.cell? (p9.add 5)=some (vi v8)∧∃v9:Int,(Instr.lookup 207 (.map v7) (vi v8) false).run prog w20=.ok (vi v9) w20∧∃v10:Option Nat,(∀w',C1 w'→w'.cell? p8=some (.map v10))∧∃v11:Int,w20.cell? (p9.add 6)=some (vi v11)∧∃v12:Int,(∀w',C1 w'→(Instr.lookup 207 (.map v10) (vi v11) false).run prog w'=.ok (vi v12) w')∧CanW w20 (p9.add 5)∧¬ None (p9.add 5).block∧∀w21:World,w21=w20.setCell (p9.add 5) (vi v9)→C1 w21∧CanW w21 (p9.add 6)∧¬ None (p9.add 6).block∧∀w22:World,w22=w21.setCell (p9.add 6) (vi v12)→∃v13:Option Addr,w22.cell? p2=some (vp v13)∧∃aQ aR:Int,∃aS aT:Int,∃aU:ByteArray,∃aV aW:Int,Row w22 p9 [(vi aQ),(vi aR),(vi aS),(vu aT),(vs aU),(vi aV),(vi aW)]∧Calls prog 109 #[(vp v13),(.agg #[(vi aQ),(vi aR),(vi aS),(vu aT),(vs aU),(vi aV),(vi aW)])] w22 (fun e w23=>∃r4 r5:Int,e=.returned (.tuple #[(vi r4),(vi r5)])∧Kept None w22 w23∧Br (r5 != 0) (∃v14:Option Addr,w23.cell? p2=some (vp v14)∧∃v15:Int,w23.cell? p6=some (vi v15)∧Calls prog 136 #[(vp v14),(vi v15)] w23 (fun e w24=>e=.returned (.tuple #[])∧Kept None w23 w24∧CanW w24 p4∧¬ None p4.block∧∀w25:World,w25=w24.setCell p4 (vi 0)→CanW w25 p5∧¬ None p5.block∧∀w26:World,w26=w25.setCell p5 (vi r5)→Kept Y1 A1 w26∧Ir1 (pre1++[z2]) Y1 w26)) (∃v16:Option Nat,w23.cell? p8=some (.map v16)∧∃w27:World,(Instr.mapUpdate 207 (.map v16) (vi z2) (vi r4)).run prog w23=.ok () w27∧Kept None w23 w27∧Kept Y1 A1 w27∧I1 (pre1++[z2]) Y1 w27))))∧(∀(H1:NP) (w28:World),Hst w0 H1 w28 H1 w28→(∀b,None b→H1 b)→Kept None w15 w28→I1 xs1 H1 w28→∃v17:Option Nat,w28.cell? p8=some (.map v17)∧∃v18:Int,(Instr.lookup 207 (.map v17) (vi t1) false).run prog w28=.ok (vi v18) w28∧CanW w28 p4∧¬ H1 p4.block∧∀w29:World,w29=w28.setCell p4 (vi v18)→CanW w29 p5∧¬ H1 p5.block∧∀w30:World,w30=w29.setCell p5 (vi 0)→∀(w31:World),Hst w0 H1 w30 H1 w31→∃aM:Int,w31.cell? p4=some (vi aM)∧∃aN:Int,w31.cell? p5=some (vi aN)∧K aM aN w31)∧(∀(pre2:List (Int)) (H2:NP) (w33:World),Hst w0 H2 w33 H2 w33→Ir1 pre2 H2 w33→∃aO:Int,w33.cell? p4=some (vi aO)∧∃aP:Int,w33.cell? p5=some (vi aP)∧K aO aP w33)))))
theorem w_R4 (p1:Option Addr) (aA:Option Addr) (t1:Int) (w0:World) (K:Int→Int→WP) (h:m_R4 p1 aA t1 w0 K) :
  Calls prog 75 #[(vp p1),(vp aA),(vi t1)] w0 (fun e w'=>∃r6 r7:Int,e=.returned (.tuple #[(vi r6),(vi r7)])∧K r6 r7 w'):=by
 refine cw (args:=[(vp p1),(vp aA),(vi t1)]) func75 ntmps75 ?_
 obtain ⟨hs,hb⟩:=st0 w0
 refine eg (nw2 hs hb h xb fun p2 w1 hs hb h=>?_)
 refine nw2 hs hb h xb fun p3 w2 hs hb h=>?_
 refine nw2 hs hb h (zQ (zeroValue78 _) rfl) fun p4 w3 hs hb h=>?_
 refine nw2 hs hb h (zQ (zeroValue33 _) rfl) fun p5 w4 hs hb h=>?_
 refine ln (zA (eg ?_))
 refine ql (isAgg91 _) h fun v1 h=>q2 (vb (Option.isNone v1)) (vY (by kernel_rfl) rfl underlying91) (ln ?_)
 refine cbr h ?_ ?_<;>intro h
 refine eg ?_
 refine st2 (sizeOf78 _) hs hb h fun w5 hs hb h=>?_
 refine st2 (sizeOf33 _) hs hb h fun w6 hs hb h=>?_
 refine ln (er (vF ?_))
 obtain ⟨aB,hv1,h⟩:=h
 obtain ⟨aC,hv2,h⟩:=h
 refine gg2 results75 (RV.cell1 (A:=p4) (by kernel_rfl) (isAgg78 _) hv1) (RV.cell1 (A:=p5) (by kernel_rfl) (isAgg33 _) hv2) ⟨aB,aC,rfl,h⟩
 refine zC (zK (zA (eg ?_)))
 refine ql (isAgg91 _) h fun v2 h=>q ?_
 refine sc call138 (h.mono fun e w7 ⟨r1,k,hk,h⟩=>have ⟨hs,hb⟩:=hk.hh hs hb;⟨_,k,?_⟩)
 refine q (ln ?_)
 refine cbr h ?_ ?_<;>intro h
 refine eg ?_
 refine st2 (sizeOf78 _) hs hb h fun w8 hs hb h=>?_
 refine st2 (sizeOf33 _) hs hb h fun w9 hs hb h=>?_
 refine ln (er (vF ?_))
 obtain ⟨aD,hv3,h⟩:=h
 obtain ⟨aE,hv4,h⟩:=h
 refine gg2 results75 (RV.cell1 (A:=p4) (by kernel_rfl) (isAgg78 _) hv3) (RV.cell1 (A:=p5) (by kernel_rfl) (isAgg33 _) hv4) ⟨aD,aE,rfl,h⟩
 refine zC (zK (eg ?_))
 refine ql (isAgg91 _) h fun v3 h=>?_
 refine qm h fun a1 h=>q ?_
 refine ql (isAgg160 _) h fun v4 h=>q (sn (O:=(.cells #[(vi 0)] 3)) (zQ (zeroValue3 _) rfl) ?_)
 intro p6 w10 hn17
 have h:=h p6 w10 hn17
 obtain ⟨hs,hb⟩:=hs.nw hb hn17
 refine st2 (sizeOf3 _) hs hb h fun w11 hs hb h=>?_
 refine ln (eg (nw5 (fun p=>.map (some p.block)) hs hb h fun p7 w12 hs hb h=>?_))
 refine nw2 hs hb h (zQ (zeroValue207 _) rfl) fun p8 w13 hs hb h=>?_
 refine st2 (sizeOf207 _) hs hb h fun w14 hs hb h=>?_
 refine ln (jMN (rg ?_))
 refine ql (isAgg91 _) h fun v5 h=>q ?_
 refine sc call139 (h.mono fun e w15 ⟨r2,k,hk,h⟩=>have ⟨hs,hb⟩:=hk.hh hs hb;⟨_,k,?_⟩)
 refine ln ?_
 obtain ⟨f1,cs1,hv5,hf1,h⟩:=h
 obtain ⟨xs1,Rd1,hit,I1,Ir1,hRI,h0,hbody,h⟩:=h
 refine jII (encs:=(fun (z2:Int)=>#[(vi z2)])) (Eq.trans (b:=r2) (by kernel_rfl) hv5) hf1 hit (fun _=>rfl) (by decide) hs I1 (fun _ _ _=>False) Ir1 hRI h0 ?ha ?hr ?ht
 case ha =>
  intro l z2 w34
  refine rg (q (ln ?_))
  refine ⟨rfl,?_⟩
  intro pre1 Y1 A1 hi hY hpost
  have h:=hbody pre1 z2 Y1 A1 hi hY hpost
  obtain ⟨hs,hb⟩:=st0 A1
  refine zJ (eg ?_)
  refine ql (isAgg91 _) h fun v6 h=>q ?_
  refine sc call104 (h.mono fun e w17 ⟨aF,aG,aH,aI,aJ,aK,aL,r3,k,hk,h⟩=>have ⟨hs,hb⟩:=hk.hh hs hb;⟨_,k,?_⟩)
  refine qc (nw2 hs hb h (zQ (zeroValue127 _) rfl) fun p9 w18 hs hb h=>?_)
  obtain ⟨hp8,hnh,h⟩:=h
  refine ss (xo p9 [(vi aF),(vi aG),(vi aH),(vu aI),(vs aJ),(vi aK),(vi aL)] (sizeOf127 _) hp8) ?_
  intro w19 hn7
  have h:=h w19 hn7
  have hk:Kept None w18 w19:=by rw [hn7];exact Kept.storeRow hnh
  obtain ⟨hs,hb⟩:=hk.hh hs hb
  refine q (ln (zA ?_))
  obtain ⟨C1,hC,h⟩:=h
  refine dr2 C1 [9,11] [11] hC h hs hb fun w20 hs hb h=>?_
  have hs:=hs.here
  refine qg 0 ?_
  obtain ⟨v7,hv17,h⟩:=h
  refine sye Kp0 (xl (isAgg207 _) hv17) (qx 1 (vp (some (p9.add 5))) Kp1 (qg 2 ?_))
  obtain ⟨v8,hv16,h⟩:=h
  refine sye Kp2 (xl (isAgg78 _) hv16) (qg 3 ?_)
  obtain ⟨v9,hv15,h⟩:=h
  refine sye (v:=(vi v9)) Kp3 (qQ (by kernel_rfl) (by kernel_rfl) hv15) (qg 4 ?_)
  obtain ⟨v10,hv14,h⟩:=h
  refine sy Kp4 (fun _ k=>xl (isAgg207 _) (hv14 _ k)) (qx 5 (vp (some (p9.add 6))) Kp5 (qg 6 ?_))
  obtain ⟨v11,hv13,h⟩:=h
  refine sye Kp6 (xl (isAgg78 _) hv13) (qg 7 ?_)
  obtain ⟨v12,hv12,h⟩:=h
  refine sy (v:=(vi v12)) Kp7 (fun w' hw'=>(qQ (by kernel_rfl) (by kernel_rfl) (hv12 w' hw'))) (qx 8 (vp (some (p9.add 5))) Kp8 (lg 9 ?_))
  obtain ⟨hp9,hnh,h⟩:=h
  refine jSX Kp9 (xs (v:=(vi v9)) (sizeOf78 _) hp9) ?_
  intro w21 hn8
  have h:=h w21 hn8
  refine ⟨.inr h.1,?_⟩
  have h:=h.2
  have hk:=Kept.sc hnh hn8
  obtain ⟨hs,hb⟩:=hk.hh hs hb
  refine qx 10 (vp (some (p9.add 6))) (zT (S8 (zH (zH zS)))) (lg 11 ?_)
  obtain ⟨hp10,hnh,h⟩:=h
  refine jSX (zT (S8 (zH (zH (zH zS))))) (xs (v:=(vi v12)) (sizeOf78 _) hp10) ?_
  intro w22 hn9
  have h:=h w22 hn9
  refine ⟨.inl (by kernel_rfl),?_⟩
  have hk:=Kept.sc hnh hn9
  obtain ⟨hs,hb⟩:=hk.hh hs hb
  refine wn (zK (eg ?_))
  refine ql (isAgg91 _) h fun v13 h=>?_
  obtain ⟨aQ,aR,aS,aT,aU,aV,aW,hv10,h⟩:=h
  refine qa (isAgg127 _) (sizeOf127 _) hv10 ?_
  refine sc call109 (h.mono fun e w23 ⟨r4,r5,k,hk,h⟩=>have ⟨hs,hb⟩:=hk.hh hs hb;⟨_,k,?_⟩)
  refine q (qd (ln (zA (eg (qb ?_)))))
  refine ln ?_
  refine cbr h ?_ ?_<;>intro h
  refine eg ?_
  refine ql (isAgg91 _) h fun v14 h=>?_
  refine ql (isAgg3 _) h fun v15 h=>?_
  refine sc call136 (h.mono fun e w24 ⟨k,hk,h⟩=>have ⟨hs,hb⟩:=hk.hh hs hb;⟨_,k,?_⟩)
  refine ln (eg (q ?_))
  refine st2 (sizeOf78 _) hs hb h fun w25 hs hb h=>?_
  refine st2 (sizeOf33 _) hs hb h fun w26 hs hb h=>?_
  refine ln (er (vF (uC ?_)))
  exact rd_r h
  refine zC (zK (rg ?_))
  refine ql (isAgg207 _) h fun v16 h=>qb ?_
  obtain ⟨w27,hv8,hk,h⟩:=h
  refine qV (zL rfl) (yR (by kernel_rfl) (by kernel_rfl) (by kernel_rfl) hv8) ?_
  obtain ⟨hs,hb⟩:=hk.hh hs hb
  refine zB (xW ?_)
  exact rd_n h
 case hr =>
  intro D1 H1 w28 hs' hD hDe aX hk1 hio1
  have hb':=hb.behind hk1 aX hD hDe
  have hs:=hs'
  have hb:=hb'
  have h:=h.1 H1 w28 hs aX hk1 (hio1.elim id (fun h=>h.elim (fun _ h=>h.elim)))
  refine eg ?_
  refine ql (isAgg207 _) h fun v17 h=>q ?_
  obtain ⟨v18,hv21,h⟩:=h
  refine q2 (vi v18) (qQ (by kernel_rfl) (by kernel_rfl) hv21) ?_
  refine st2 (sizeOf78 _) hs hb h fun w29 hs hb h=>?_
  refine st2 (sizeOf33 _) hs hb h fun w30 hs hb h=>?_
  refine ln (er (af_r hb.dead ?_))
  intro w31 hw'
  have hl:=hb.leave hs hw'
  obtain ⟨hs,hb⟩:=hl
  -- behind the loop
  have ⟨h,hs⟩:=hs.hr (h w31)
  obtain ⟨aM,hv19,h⟩:=h
  obtain ⟨aN,hv20,h⟩:=h
  refine gg2 results75 (RV.cell1 (A:=p4) (by kernel_rfl) (isAgg78 _) hv19) (RV.cell1 (A:=p5) (by kernel_rfl) (isAgg33 _) hv20) ⟨aM,aN,rfl,h⟩
 case ht =>
  intro D1 pre2 H2 w32 hs' hD hDe hio
  have hs2:=hs'.putD (o:=.deferred none) hD
  have hio:=hRI.r _ _ _ _ _ hio hs2
  have hs2:=hs2.here
  have hs:=hs2
  generalize World.putObj w32 D1 (.deferred none)=w33 at hs hio ⊢
  have hb:=HB.nil H2 w33
  have h:=h.2 pre2 H2 w33 hs hio
  obtain ⟨aO,hv23,h⟩:=h
  obtain ⟨aP,hv24,h⟩:=h
  refine gg2 results75 (RV.cell1 (A:=p4) (by kernel_rfl) (isAgg78 _) hv23) (RV.cell1 (A:=p5) (by kernel_rfl) (isAgg33 _) hv24) ⟨aO,aP,rfl,h⟩
def m_S1_l1 (yield1:Value) (r1:Sl) (x1:Int) (wl1:World) (Kc1:Int→WP) (K:WP):Prop :=Br (decide (x1<(r1.len:Int))) (∃a1:Addr,At r1 x1 1 a1∧∃v3:Int,wl1.cell? a1=some (vi v3)∧∃(ly1:Nat),yield1=.func (.yield ly1) #[] #[]∧Yld prog ly1 #[(vi v3)] wl1 (fun e w2=>∃b1:Bool,e=.returned (vb b1)∧Br (!b1) (K w2) (Kc1 (q6.wrap (x1+1)) w2))) (K wl1)
def m_S1 (yield1:Value) (cap1 cap2:Addr) (w0:World) (K:WP):Prop :=∃v1:Option Addr,w0.cell? cap1=some (vp v1)∧∃v2:Int,w0.cell? cap2=some (vi v2)∧Calls prog 187 #[(vp v1),(vi v2)] w0 (fun e w1=>∃r1:Sl,e=.returned r1.v∧∃(I1:Int→WP) (mu1:Int→World→Nat),I1 0 w1∧∀(x1:Int) (wl1:World),I1 x1 wl1→m_S1_l1 yield1 r1 x1 wl1 (fun y'0 w'=>I1 y'0 w'∧mu1 y'0 w'<mu1 x1 wl1) K)
theorem w_S1 (yield1:Value) (cap1 cap2:Addr) (w0:World) (K:WP) (h:m_S1 yield1 cap1 cap2 w0 K) :
  Calls prog 186 #[yield1,(vp (some cap1)),(vp (some cap2))] w0 (fun e w'=>e=.returned (.tuple #[])∧K  w'):=by
 refine cw (args:=[yield1,(vp (some cap1)),(vp (some cap2))]) func186 ntmps186 (eg ?_)
 refine ql (isAgg91 _) h fun v1 h=>?_
 refine ql (isAgg78 _) h fun v2 h=>?_
 refine sc call187 (h.mono fun e w1 ⟨r1,k,h⟩=>⟨_,k,?_⟩)
 refine qb (ln (zJ ?_))
 obtain ⟨I1,mu1,h0,hr⟩:=h
 refine vP (σ:=Int×World) (fun s ρ w=>w=s.2∧Has ρ [(0,yield1),(8,r1.v),(9,(vi (r1.len:Int))),(10,(vi s.1))]∧I1 s.1 s.2) (fun s=>mu1 s.1 s.2) (0,w1) ⟨rfl,hm,h0⟩ ?_
 rintro ⟨x1,wl1⟩ ρ w ⟨hw,hH,hI⟩
 dsimp only at hw hH;subst w
 have h:=hr x1 wl1 hI
 refine zW hH ?_
 refine eg (q (ln (zA ?_)))
 refine cbr h ?_ ?_<;>intro h
 refine zC (zK (zA (zJ (eg ?_))))
 refine qi (runUnderlying54 _) (sizeOf78 _) h fun a1 h=>?_
 refine ql (isAgg78 _) h fun v3 h=>q (ln (eg (qb ?_)))
 obtain ⟨ly1,hy1,h⟩:=h
 refine jSW (zL rfl) (by kernel_rfl) hy1 (by kernel_rfl) (h.mono ?_)
 rintro e w2 ⟨b1,rfl,h⟩
 refine ⟨_,rfl,?_⟩
 refine q (ln ?_)
 refine cbr h ?_ ?_<;>intro h
 refine er (uC (vF (vF (uC (jFI (.inl rfl) results186 ?_)))))
 exact ⟨rfl,h⟩
 refine zC (xW (zK (rg (qb (ln ?_)))))
 exact ⟨((q6.wrap (x1+1)),w2),⟨rfl,hm,h.1⟩,h.2⟩
 refine vO (uU (uU (uY (jFI (.inr rfl) results186 ?_))))
 exact ⟨rfl,h⟩
end Go.Proofs
end
section
open Go Go.SE
namespace Go.SE
theorem Rws.kept {w w':World} {X:NP} {e:TypeId} {sz:Nat} {s:Sl} {rs:List (List Value)} (h:Rws w e sz s rs) (hk:Kept X w w') (hX:∀b,s.blk b→X b):Rws w' e sz s rs:=by
 refine ⟨h.each,h.len,?_⟩;rcases h.own with h' | ⟨g,cur,ha,hg,r⟩
 ·exact .inl h'
 ·exact .inr ⟨g,cur,ha,by rw [hk.keep g (xR hg) (hX g ⟨_,ha,rfl⟩)];exact hg,r⟩
end Go.SE
namespace Go.Sp
theorem jOM {L:Pool} (hW:Wf L) {t:Int} (ht:inP L t=true) (n:Nat) (st:(Int→Bool)×List Int):(zG (nodeOf L t)).foldl (fun st k=>qU L n k st) st=qU L n (nodeOf L t).b (qU L n (nodeOf L t).a st):=by
 have z:∀st,qU L n 0 st=st:=fun st=>by
  cases n with
  | zero=>rfl
  | succ n=>rw [qU,if_neg (by simp [inP])]
 have h1:=(hW.node ht).2.1;have h2:=(hW.node ht).2.2.1;unfold zG;rcases yL (nodeOf L t).kind with e | e | e
 ·rw [e,h1 (by omega),h2 (by omega),z,z];rfl
 ·rw [e,h2 (by omega),z];rfl
 ·rw [e];rfl
end Go.Sp
namespace Go.Proofs
open Tryz
attribute [local irreducible] Calls
def jVL (M:List Int):List (Int×Unit):=M.map fun t=>(t,())
theorem jST (M:List Int):(jVL M).map Prod.fst=M:=by simp [jVL,Function.comp_def]
def one1 (_:Unit):Value:=.int .i64 1
structure WkAt (w:World) (p c1 c2 c3 c4:Addr) (m:Nat) (so:Sl) (L:Sp.Pool) (FP:NP) (st:(Int→Bool)×List Int):Prop where
 b1:Box w c1 [.map (some m)] 245
 b2:Box w c2 [.pointer (some p)] 91
 b3:Box w c3 [.func (.func 276) #[] #[.pointer (some c1),.pointer (some c2),.pointer (some c3),.pointer (some c4)]] 202
 b4:Box w c4 [so.v] 54
 mp:∃M,IMap one1 w m (jVL M)∧∀x,st.1 x=decide (x∈M)
 out:Rws w 78 1 so (tmr st.2)
 pool:zR w p L FP
 n4:c4.block≠c1.block∧c4.block≠c2.block∧c4.block≠c3.block∧c4.block≠m
 nm:m≠c1.block∧m≠c2.block∧m≠c3.block
 ns:∀b,so.blk b→b≠c1.block∧b≠c2.block∧b≠c3.block∧b≠c4.block∧b≠m
 nf:∀b,FP b→b≠c4.block∧b≠m∧¬ so.blk b
def WkF (c4:Addr) (m:Nat) (so:Sl) (b:Nat):Prop:=b=c4.block∨b=m∨so.blk b
section
variable {w w':World} {p c1 c2 c3 c4:Addr} {m:Nat} {so:Sl} {L:Sp.Pool} {FP:NP} {st:(Int→Bool)×List Int}
theorem WkAt.pure (h:WkAt w p c1 c2 c3 c4 m so L FP st) (E:Pure w w'):WkAt w' p c1 c2 c3 c4 m so L FP st :=
 ⟨h.b1.pure E,h.b2.pure E,h.b3.pure E,h.b4.pure E,let ⟨M,h1,h2⟩:=h.mp;⟨M,h1.pure E,h2⟩,h.out.pure E,h.pool.pure E,h.n4,h.nm,h.ns,h.nf⟩
end
theorem c_walk (p c1 c2 c3 c4:Addr) (m:Nat) {L:Sp.Pool} {FP:NP} (hW:Sp.Wf L):∀(n:Nat) (t:Int) (w0:World) (st:(Int→Bool)×List Int) (so:Sl),t.toNat<n→Sp.inP L t=true→WkAt w0 p c1 c2 c3 c4 m so L FP st→Sp.OvOk L st→(∀y,st.1 y=true→y≤t→y∈st.2) →
  Calls prog 276 #[.int .i64 t,.pointer (some c1),.pointer (some c2),.pointer (some c3),.pointer (some c4)] w0 (fun e w'=>e=.returned (.tuple #[])∧∃so',WkAt w' p c1 c2 c3 c4 m so' L FP (Sp.qU L n t st)∧Ext (WkF c4 m so) w0 w'∧∀b,so'.blk b→so.blk b∨w0.heap.size≤b):=by
 intro n
 induction n with
 | zero=>intro t w0 st so h;omega
 | succ n ih =>
 intro t w0 st so hn hin h hst hm
 have hR:=Sp.lI hW (n+1) t st hn hst hm
 suffices key:∀K:WP,(∀so' w',WkAt w' p c1 c2 c3 c4 m so' L FP (Sp.qU L (n+1) t st)→Ext (WkF c4 m so) w0 w'→(∀b,so'.blk b→so.blk b∨w0.heap.size≤b)→K w')→m_L1 t c1 c2 c3 c4 w0 K from
  w_L1 _ _ _ _ _ w0 _ (key _ (fun so' w' a b c=>⟨so',a,b,c⟩))
 intro K hK
 unfold m_L1
 obtain ⟨M,hM,hV⟩:=h.mp
 have hz:∀w,(zeroValue 3).run prog w=.ok (.int .i64 0) w:=fun w=>zeroValue3 w
 rcases hM.get underlying245 underlying78 (hz w0) t false with ⟨hno,hl⟩ | ⟨u,hyes,hl⟩
 ·have hnot:t ∉ M:=by have:=yX.1 hno;rwa [jST] at this
  have hv:st.1 t=false:=by rw [hV];simpa using hnot
  rw [Sp.qU,if_pos ⟨hin,hv⟩] at hK hR
  refine ⟨some m,h.b1.cell0,0,hl,Br.f (by simp) ?_⟩
  obtain ⟨w1,hu,hM1,E1⟩:=hM.put (f:=one1) underlying245 underlying78 hno ()
  refine ⟨some m,h.b1.cell0,0,hl,w1,by rw [i64 (by omega) (by omega)];exact hu,?_⟩
  have A1:WkAt w1 p c1 c2 c3 c4 m so L FP (Sp.upd st.1 t true,st.2) :=
   ⟨h.b1.ext E1 (fun e=>h.nm.1 e.symm),h.b2.ext E1 (fun e=>h.nm.2.1 e.symm),h.b3.ext E1 (fun e=>h.nm.2.2 e.symm),h.b4.ext E1 h.n4.2.2.2,
   ⟨M ++ [t], by rw [show jVL (M ++ [t]) = jVL M ++ [(t, ())] by simp [jVL]]; exact hM1, fun x => by
     simp only [Sp.upd,List.mem_append,List.mem_singleton];by_cases e:x=t
     ·simp [e]
     ·rw [if_neg e,hV];simp [e]⟩,
   h.out.ext E1 (fun b hb=>(h.ns b hb).2.2.2.2),h.pool.ext E1 (fun b hb=>(h.nf b hb).2.1),h.n4,h.nm,h.ns,h.nf⟩
  refine ⟨some p,A1.b2.cell0,?_⟩
  refine (c_kids p t w1 A1.pool hW.ok).mono ?_
  rintro _ w2 ⟨r1,rfl,hks,E2⟩
  refine ⟨_,rfl,?_⟩
  have A2:=A1.pure E2
  have o1:Sp.OvOk L (Sp.upd st.1 t true,st.2):=⟨fun y hy=>by simp only [Sp.upd];split <;> simp [hst.marked y hy],hst.closed,hst.nd,hst.inp⟩
  have hkid:=(hW.node hin).2.2.2.2.1
  have hlen:(Sp.zG (Sp.nodeOf L t)).length≤2:=by rw [Sp.zG];simp;omega
  generalize hks0:Sp.zG (Sp.nodeOf L t)=ks at *
  let sj:Nat→(Int→Bool)×List Int:=fun j=>(ks.take j).foldl (fun st k=>Sp.qU L n k st) (Sp.upd st.1 t true,st.2)
  have good:∀j,j≤ks.length→Sp.OvOk L (sj j)∧∀y,(sj j).1 y=true→y<t→y∈(sj j).2:=by
   intro j;induction j with
   | zero =>
    intro _
    refine ⟨o1,fun y hy hlt=>?_⟩
    simp only [sj,List.take_zero,List.foldl_nil,Sp.upd] at hy ⊢
    rw [if_neg (by omega)] at hy
    exact hm y hy (by omega)
   | succ j ihj =>
    intro hj
    obtain ⟨g1,g2⟩:=ihj (by omega)
    have hk:=hkid ks[j] (List.getElem_mem _)
    have hk1:=(Sp.zX.1 hk.1).1
    have e:sj (j+1)=Sp.qU L n ks[j] (sj j):=by simp only [sj];rw [List.take_succ_eq_append_getElem (by omega),List.foldl_append];rfl
    have r:=Sp.lI hW n ks[j] (sj j) (by omega) g1 (fun y hy hle=>g2 y hy (by omega))
    rw [e]
    refine ⟨r.toOvOk,fun y hy hlt=>?_⟩
    rcases r.back y hy with h1 | h1
    ·obtain ⟨M',e',_⟩:=r.app
     rw [e'];exact List.mem_append_left _ (g2 y h1 hlt)
    ·exact h1
  refine ⟨fun x A=>∃(j:Nat) (so':Sl),x=j∧j≤ks.length∧WkAt A p c1 c2 c3 c4 m so' L FP (sj j)∧Ext (WkF c4 m so) w2 A∧∀b,so'.blk b→so.blk b∨w2.heap.size≤b,fun x _=>((ks.length:Int) - x).toNat,⟨0,so,rfl,Nat.zero_le _,A2,Ext.refl _,fun b hb=>.inl hb⟩,?_⟩
  rintro _ w3 ⟨j,so3,rfl,hj,A3,X3,f3⟩
  unfold m_L1_l1
  have hlen1:r1.len=ks.length:=by rw [hks.len,qM]
  have hks3:Lst (fun b=>w1.heap.size≤b∧b<w2.heap.size) w3 1 r1 (tmr ks):=hks.ext X3 (fun b hb hx=>by
   rcases hx with hx | hx | hx
   ·have:=A1.b4.lt;omega
   ·have:m<w1.heap.size:=hM1.lt;omega
   ·have:=A1.out.lt hx;omega)
  obtain ⟨g1,g2⟩:=good j hj
  refine ⟨fun hc=>?_,fun hc=>?_⟩
  ·have hc:j<ks.length:=by have:=of_decide_eq_true hc;omega
   obtain ⟨a,hat,_,hv⟩:=tQ hks3 hc
   refine ⟨a,hat,_,hv,_,A3.b3.cell0,_,_,_,rfl,call276,?_⟩
   have hk:=hkid ks[j] (List.getElem_mem _)
   have hk1:=(Sp.zX.1 hk.1).1
   refine (ih ks[j] w3 (sj j) so3 (by omega) hk.1 A3 g1 (fun y hy hle=>g2 y hy (by omega))).mono ?_
   rintro _ w4 ⟨rfl,so4,A4,X4,f4⟩
   refine ⟨rfl,⟨j+1,so4,vV hc (by omega),hc,?_,X3.trans' X4 (fun i hi hb=>?_),fun b hb=>?_⟩,?_⟩
   ·have e:sj (j+1)=Sp.qU L n ks[j] (sj j):=by simp only [sj];rw [List.take_succ_eq_append_getElem (by omega),List.foldl_append];rfl
    rw [e];exact A4
   ·rcases hb with hb | hb | hb
    ·exact .inl hb
    ·exact .inr (.inl hb)
    ·exact .inr (.inr ((f3 i hb).elim id (fun h=>by omega)))
   ·rcases f4 b hb with h1 | h1
    ·exact f3 b h1
    ·have:=X3.size;right;omega
   ·rw [vV hc (by omega)]
    show ((ks.length:Int) - ((j+1:Nat):Int)).toNat<((ks.length:Int) - (j:Int)).toNat
    omega
  ·have hc:j=ks.length:=by have:=of_decide_eq_false hc;omega
   subst hc
   have es:sj ks.length=Sp.qU L n (Sp.nodeOf L t).b (Sp.qU L n (Sp.nodeOf L t).a (Sp.upd st.1 t true,st.2)):=by
    rw [← Sp.jOM hW hin,hks0];simp only [sj,List.take_length]
   simp only at hK hR
   rw [← es] at hK hR
   generalize sj ks.length=s3 at *
   refine ⟨so3,A3.b4.cell0,?_⟩
   intro p1 w4 h4
   have E4:Pure w3 w4:=Ext.new h4
   have hfew:s3.2.length≤65536:=by have:=Sp.jAH g1.nd g1.inp;have:=hW.ok.few;omega
   obtain ⟨s1',w5,hr5,R5,X5,f5⟩:=(A3.out.pure E4).append (P:=prog) (ty:=54) (c:=1) jMR (r:=[.int .i64 t]) (Box.of_new h4).row rfl rfl (by rw [qM];omega) (by rw [qM];simp [maxLen];omega)
   have b5:=(A3.b4.pure E4).ext X5 (fun hb=>(A3.ns _ hb).2.2.2.1 rfl)
   refine ⟨s1',w5,hr5,b5.canW0 (by simp),?_⟩
   intro w6 h6
   have E6:Ext (·=c4.block) w5 w6:=by rw [h6];exact Ext.setCell c4 _
   have b6:Box w6 c4 [s1'.v] 54:=by rw [h6];exact b5.set0
   have z1:=E1.size
   have z2:=E2.size
   have z3:=X3.size
   have z4:=E4.size
   have f5':∀b,s1'.blk b→so3.blk b∨w3.heap.size≤b:=fun b hb=>(f5 b hb).imp_right (fun h=>by omega)
   have ns':∀b,s1'.blk b→b≠c1.block∧b≠c2.block∧b≠c3.block∧b≠c4.block∧b≠m:=fun b hb=>(f5' b hb).elim (A3.ns b) (fun hh=>by
    have q1:=A3.b1.lt;have q2:=A3.b2.lt;have q3:=A3.b3.lt;have q4:=A3.b4.lt;have q5:m<w3.heap.size:=by obtain ⟨M',hM',_⟩:=A3.mp;exact hM'.lt
    exact ⟨by omega,by omega,by omega,by omega,by omega⟩)
   have up:∀{T:TypeId} {c:Addr} {vs:List Value},Box w3 c vs T→¬ so3.blk c.block→c.block≠c4.block→Box w6 c vs T:=fun h h1 h2=>((h.pure E4).ext X5 h1).ext E6 h2
   refine hK s1' w6 ⟨up A3.b1 (fun hb=>(A3.ns _ hb).1 rfl) A3.n4.1.symm,up A3.b2 (fun hb=>(A3.ns _ hb).2.1 rfl) A3.n4.2.1.symm,up A3.b3 (fun hb=>(A3.ns _ hb).2.2.1 rfl) A3.n4.2.2.1.symm,b6,?_,?_,((A3.pool.pure E4).ext X5 (fun b hb=>(A3.nf b hb).2.2)).ext E6 (fun b hb e=>(A3.nf b hb).1 e),A3.n4,A3.nm,ns',fun b hb=>⟨(A3.nf b hb).1,(A3.nf b hb).2.1,fun hh=>(f5' b hh).elim (A3.nf b hb).2.2 (fun hh=>by have:=A3.pool.lt hb;omega)⟩⟩ ?_ ?_
   ·obtain ⟨M',hM',hV'⟩:=A3.mp
    exact ⟨M',((hM'.pure E4).ext X5 (fun hb=>(A3.ns _ hb).2.2.2.2 rfl)).ext E6 A3.n4.2.2.2.symm,hV'⟩
   ·show Rws _ _ _ _ (tmr (s3.2++[t]))
    rw [show tmr (s3.2++[t])=tmr s3.2++[[.int .i64 t]] by simp [tmr]]
    exact R5.ext E6 (fun b hb e=>(ns' b hb).2.2.2.1 e)
   ·have f33:∀b,so3.blk b→b<w0.heap.size→so.blk b:=fun b hb hlt=>(f3 b hb).elim id (fun h2=>by omega)
    refine (((E1.mono (fun b _ hb=>.inr (.inl hb))).thenPure E2).trans X3).trans' ((E4.pure (F:=WkF c4 m so3)).trans ((X5.mono (fun b _ hb=>.inr (.inr hb))).trans (E6.mono (fun b _ e=>.inl e)))) (fun i hi hb=>?_)
    rcases hb with hb | hb | hb
    ·exact .inl hb
    ·exact .inr (.inl hb)
    ·exact .inr (.inr (f33 i hb hi))
   ·intro b hb
    rcases f5' b hb with h1 | h1
    ·exact (f3 b h1).imp_right (fun h=>by omega)
    ·right;omega
 ·have hyes':t∈M:=by have:=uW hyes;simp [jVL] at this;exact this
  have hv:st.1 t=true:=by rw [hV];simpa using hyes'
  rw [Sp.qU,if_neg (by simp [hv])] at hK
  refine ⟨some m,h.b1.cell0,1,hl,Br.t (by simp) ?_⟩
  exact hK so w0 h (Ext.refl _) (fun b hb=>.inl hb)
theorem c_subs (p:Addr) (t:Int) (w0:World) {L:Sp.Pool} {FP:NP} (hW:Sp.Wf L) (hP:zR w0 p L FP) :
  Calls prog 187 #[.pointer (some p),.int .i64 t] w0 (fun e w'=>∃r:Sl,e=.returned r.v∧RetO w0 78 1 (tmr (Sp.subs L t)) r w'):=by
 refine w_A4 _ _ w0 (fun r w'=>RetO w0 78 1 (tmr (Sp.subs L t)) r w') ?_
 unfold m_A4
 intro p2 w1 h1 p3 w2 h2 p4 w3 h3 p5 w4 h4
 have B2:=Box.of_new h1
 have B3:=Box.of_new h2
 have M4:=IMap.of_new (f:=one1) h3
 have B5:=Box.of_new h4
 have E1:Pure w0 w1:=Ext.new h1
 have E2:Pure w1 w2:=Ext.new h2
 have E3:Pure w2 w3:=Ext.new h3
 have E4:Pure w3 w4:=Ext.new h4
 have s1:=h1.at_size;have s2:=h2.at_size;have s3:=h3.at_size;have s4:=h4.at_size
 have z1:=E1.size;have z2:=E2.size;have z3:=E3.size;have z4:=E4.size
 have l1:=B2.lt;have l2:=B3.lt;have l3:=M4.lt;have l4:=B5.lt
 refine ⟨B5.canW0 (by simp),fun w5 h5=>?_⟩
 have E5:Ext (·=p5.block) w4 w5:=by rw [h5];exact Ext.setCell p5 _
 have B5':Box w5 p5 [.map (some p4.block)] 245:=by rw [h5];exact B5.set0
 intro p6 w6 h6
 have B6:=Box.of_new h6
 have E6:Pure w5 w6:=Ext.new h6
 have s6:=h6.at_size;have z5:=E5.size;have z6:=E6.size;have l6:=B6.lt
 refine ⟨B6.canW0 (by simp),fun w7 h7=>?_⟩
 have E7:Ext (·=p6.block) w6 w7:=by rw [h7];exact Ext.setCell p6 _
 have B6':Box w7 p6 [.func (.func 276) #[] #[.pointer (some p5),.pointer (some p2),.pointer (some p6),.pointer (some p3)]] 202:=by rw [h7];exact B6.set0
 have z7:=E7.size
 have EE:Pure w0 w7:=((((((E1.trans E2).trans E3).trans E4).own (by omega) E5).trans E6).own (by omega) E7)
 have up:∀{T:TypeId} {c:Addr} {vs:List Value},Box w4 c vs T→c.block≠p5.block→c.block≠p6.block→Box w7 c vs T:=fun h h1 h2=>((h.ext E5 h1).pure E6).ext E7 h2
 have hnil:∀b,¬ Sl.nil.blk b:=fun b hb=>by obtain ⟨a,h,_⟩:=hb;cases h
 have A:WkAt w7 p p5 p2 p6 p3 p4.block Sl.nil L FP (fun _=>false,[]) :=
  ⟨(B5'.pure E6).ext E7 (by omega),up (((B2.pure E2).pure E3).pure E4) (by omega) (by omega),B6',up ((B3.pure E3).pure E4) (by omega) (by omega),
  ⟨[],(((M4.pure E4).ext E5 (by omega)).pure E6).ext E7 (by omega),fun x=>by simp⟩,Rws.nil _ _ _,hP.pure EE,⟨by omega,by omega,by omega,by omega⟩,⟨by omega,by omega,by omega⟩,fun b hb=>(hnil b hb).elim,fun b hb=>by
   have:=hP.lt hb;exact ⟨by omega,by omega,hnil b⟩⟩
 refine ⟨some p,A.b2.cell0,?_⟩
 refine (c_in p t w7 A.pool).mono ?_
 rintro _ _ ⟨r1,rfl,rfl,rfl⟩
 refine ⟨_,rfl,fun hc=>?_,fun hc=>?_⟩
 ·refine ⟨_,A.b3.cell0,_,_,_,rfl,call276,?_⟩
  refine (c_walk p p5 p2 p6 p3 p4.block hW (t.toNat+1) t w7 _ Sl.nil (by omega) hc A ⟨by simp,by simp,by simp,by simp⟩ (by simp)).mono ?_
  rintro _ w8 ⟨rfl,so,A8,X8,f8⟩
  refine ⟨rfl,so,A8.b4.cell0,A8.out,fun b hb=>?_,EE.trans' X8 (fun i hi hb=>?_)⟩
  ·rcases f8 b hb with h | h
   ·exact (hnil b h).elim
   ·omega
  ·rcases hb with hb | hb | hb
   ·omega
   ·omega
   ·exact hnil _ hb
 ·have : Sp.subs L t = [] := by
   unfold Sp.subs;rw [Sp.qU,if_neg (by simp [hc])]
  rw [this]
  exact ⟨Sl.nil,A.b4.cell0,Rws.nil _ _ _,fun b hb=>(hnil b hb).elim,EE⟩
theorem jUX (p:Addr) (t:Int) (w0:World):Calls prog 139 #[.pointer (some p),.int .i64 t] w0 (fun e w'=>∃r:Value,e=.returned r∧∃p2 p3:Addr,r=.func (.func 186) #[] #[.pointer (some p2),.pointer (some p3)]∧Box w' p2 [.pointer (some p)] 91∧Box w' p3 [.int .i64 t] 78∧Pure w0 w'):=by
 refine w_Y3 _ _ w0 (fun r w'=>∃p2 p3:Addr,r=.func (.func 186) #[] #[.pointer (some p2),.pointer (some p3)]∧Box w' p2 [.pointer (some p)] 91∧Box w' p3 [.int .i64 t] 78∧Pure w0 w') ?_;unfold m_Y3;intro p2 w1 h1 p3 w2 h2;exact ⟨p2,p3,rfl,(Box.of_new h1).pure (Ext.new h2),Box.of_new h2,(show Pure w0 w1 from Ext.new h1).trans (Ext.new h2)⟩
theorem jRN {p p2 p3:Addr} {t:Int} {w0:World} {L:Sp.Pool} {FP:NP} (hW:Sp.Wf L) (hP:zR w0 p L FP) (B2:Box w0 p2 [.pointer (some p)] 91) (B3:Box w0 p3 [.int .i64 t] 78) :
  jUQ prog 186 #[.pointer (some p2),.pointer (some p3)] (fun z:Int=>#[.int .i64 z]) (Sp.subs L t) (fun _=>True) w0:=by
 intro l J Jx W E _ hJ hJx hyield h0
 refine (w_S1 (.func (.yield l) #[] #[]) p2 p3 W (fun A=>∃X,Hst W X A X A∧(J (Sp.subs L t) X A∨∃pre,Jx pre X A)) ?_).mono (fun e A h=>⟨⟨_,h.1⟩,h.2⟩)
 unfold m_S1
 refine ⟨some p,(B2.pure E).cell0,t,(B3.pure E).cell0,?_⟩
 refine (c_subs p t W hW (hP.pure E)).mono ?_
 rintro _ w1 ⟨r,rfl,hr⟩
 refine ⟨_,rfl,?_⟩
 generalize hxs:Sp.subs L t=xs at *
 have hfew:xs.length≤65536:=by rw [← hxs];have:=Sp.jBO hW t;have:=hW.ok.few;omega
 have hs1:Hst W None W (fun b=>W.heap.size≤b∧b<w1.heap.size) w1:=⟨hr.pure.pure,fun _ h=>h.elim,fun b h=>.inr h.1,fun b h=>h.1,fun b h=>h.2,hr.pure.size⟩
 have hX:∀b,r.blk b→W.heap.size≤b∧b<w1.heap.size:=fun b hb=>⟨hr.own b hb,hr.rows.lt hb⟩
 refine ⟨fun x A=>∃j:Nat,x=j∧j≤xs.length∧Hst W (fun b=>W.heap.size≤b∧b<w1.heap.size) A (fun b=>W.heap.size≤b∧b<w1.heap.size) A∧J (xs.take j) (fun b=>W.heap.size≤b∧b<w1.heap.size) A∧Rws A 78 1 r (tmr xs),fun x _=>((xs.length:Int) - x).toNat,⟨0,rfl,Nat.zero_le _,hs1.here,hJ _ _ _ _ _ h0 hs1,hr.rows⟩,?_⟩
 rintro _ A ⟨j,rfl,hj,hA,hJA,hRA⟩
 unfold m_S1_l1
 have hlen:r.len=xs.length:=by rw [hr.rows.len,qM]
 refine ⟨fun hc=>?_,fun hc=>?_⟩
 ·have hc:j<xs.length:=by have:=of_decide_eq_true hc;omega
  obtain ⟨a,hat,_,hv⟩:=tQ hRA.lst hc
  refine ⟨a,hat,_,hv,l,rfl,?_⟩
  refine (hyield (xs.take j) xs[j] _ A hJA hA ⟨xs.drop (j+1),by rw [← List.drop_eq_getElem_cons hc,List.take_append_drop]⟩).mono ?_
  rintro e A' (⟨rfl,hk,hJ'⟩ | ⟨rfl,hk,hJ'⟩)
  ·refine ⟨_,rfl,Br.f rfl ⟨⟨j+1,vV hc (by omega),hc,hA.again hk,by rw [List.take_succ_eq_append_getElem hc];exact hJ',hRA.kept hk hX⟩,?_⟩⟩
   rw [vV hc (by omega)]
   show ((xs.length:Int) - ((j+1:Nat):Int)).toNat<((xs.length:Int) - (j:Int)).toNat
   omega
  ·exact ⟨_,rfl,Br.t rfl ⟨_,hA.again hk,.inr ⟨_,hJ'⟩⟩⟩
 ·have hc:j=xs.length:=by have:=of_decide_eq_false hc;omega
  subst hc
  rw [List.take_length] at hJA
  exact ⟨_,hA,.inl hJA⟩
end Go.Proofs
end
section
open Go Go.SE
namespace Go.Proofs
open Tryz
attribute [local irreducible] Calls CallsD
def jSQ (w0 w':World) (bs:List UInt8) (x:Option Addr):Prop :=
 (∀q,(vQ bs).1=some q→∃p F,x=some p∧zR w' p q F∧∀b,F b→w0.heap.size≤b)∧((vQ bs).1=none→x=none)
structure ReAt (w0 w:World) (q a:Addr) (s:Sl) (bs:List UInt8) (L:Sp.Pool) (r:Rd) (m:Nat) (S FP F:NP) (ps:List Nat) (pl:Sl):Prop where
 st:StAt w q a s bs L r m S FP F
 pure:Pure w0 w
 oP:∀b,FP b→w0.heap.size≤b
 oa:w0.heap.size≤a.block
 rows:Rws w 3 1 pl (tmr (ps.map Int.ofNat))
 own:∀b,pl.blk b→w0.heap.size≤b∧¬ FP b∧b≠a.block∧¬ S b∧¬ F b∧b≠m
theorem jOX:∀(l:List Int) (i:Nat) (z:Int),inRow i l=i+l.length→inRow i (l++[z])=if z=((i+l.length:Nat):Int)+1 then i+l.length+1 else i+l.length:=by
 intro l;induction l with
 | nil=>intro i z _;simp only [List.nil_append,inRow,List.length_nil,Nat.add_zero]
 | cons s l ih =>
  intro i z h
  rw [inRow] at h
  rw [List.cons_append,inRow]
  split
  ·rename_i hs
   rw [if_pos hs,List.length_cons] at h
   rw [ih (i+1) z (by omega),List.length_cons]
   rw [show i+1+l.length=i+(l.length+1) by omega]
  ·rename_i hs
   rw [if_neg hs,List.length_cons] at h;omega
theorem jOW:∀(l:List Int) (i:Nat) (z:Int) (post:List Int),inRow i l=i+l.length→z≠((i+l.length:Nat):Int)+1→inRow i (l++z :: post)=i+l.length:=by
 intro l;induction l with
 | nil=>intro i z post _ hz;simp only [List.nil_append,inRow,List.length_nil,Nat.add_zero] at *;rw [if_neg hz]
 | cons s l ih =>
  intro i z post h hz
  rw [inRow] at h
  rw [List.cons_append,inRow]
  split
  ·rename_i hs
   rw [if_pos hs,List.length_cons] at h
   rw [List.length_cons] at hz
   rw [ih (i+1) z post (by omega) (by rw [show i+1+l.length=i+(l.length+1) by omega];exact hz),List.length_cons];omega
  ·rename_i hs
   rw [if_neg hs,List.length_cons] at h;omega
theorem c_read {S0:NP} (sb:Sl) (bs:List UInt8) (w0:World) (hs:Lst S0 w0 1 sb (byr bs)) (hz:sb.a=none→sb=Sl.nil) :
  Calls prog 102 #[sb.v] w0 (fun e w'=>∃x:Option Addr,∃y z:Int,e=.returned (.tuple #[.pointer x,.int .i64 y,.int .i64 z])∧(y=(vQ bs).2.1∧z=((vQ bs).2.2:Int)∧jSQ w0 w' bs x∧Pure w0 w')):=by
 refine w_P1 sb w0 (fun x y z w'=>y=(vQ bs).2.1∧z=((vQ bs).2.2:Int)∧jSQ w0 w' bs x∧Pure w0 w') ?_
 unfold m_P1
 have hl:sb.len=bs.length:=by rw [hs.len,qO]
 have bad:∀(e:Int) (n:Nat) (w':World),vQ bs=(none,e,n)→Pure w0 w'→e=(vQ bs).2.1∧(n:Int)=((vQ bs).2.2:Int)∧jSQ w0 w' bs none∧Pure w0 w':=fun e n w' h E=>by
  rw [h];exact ⟨rfl,rfl,⟨fun q hq=>(by rw [h] at hq;cases hq),fun _=>rfl⟩,E⟩
 refine ⟨fun hc=>?_,fun hc=>?_⟩
 ·have hc:4096<bs.length:=by have:=of_decide_eq_true hc;omega
  exact bad 1 0 w0 (by unfold vQ;rw [if_pos hc]) (Ext.refl _)
 have hc:bs.length≤4096:=by have:=of_decide_eq_false hc;omega
 refine ⟨fun hc2=>?_,fun hc2=>?_⟩
 ·have hc2:bs.length=0:=by have:=beq_iff_eq.1 hc2;omega
  exact bad 3 0 w0 (by unfold vQ;rw [if_neg (by omega),if_pos hc2]) (Ext.refl _)
 have hc2:bs.length≠0:=by have:=beq_eq_false_iff_ne.1 hc2;omega
 have htxt:vQ bs=jIX bs bs.length [] ⟨0,0,0⟩ []:=by unfold vQ;rw [if_neg (by omega),if_neg hc2]
 refine (c_New w0).mono ?_
 rintro _ w1 ⟨_,rfl,q,rfl,E1,FP0,hP,hFP⟩
 refine ⟨_,rfl,E1.keptP,?_⟩
 refine (c_cNew sb bs w1 (hs.pure E1) hz (by omega)).mono ?_
 rintro _ w2 ⟨_,rfl,a,s,rfl,hR,E2,ha,hsb⟩
 refine ⟨_,rfl,E2.keptP,?_⟩
 refine (jWJ w2).mono ?_
 rintro _ w3 ⟨_,rfl,m,F,rfl,hK,E3,hm,hF⟩
 refine ⟨_,rfl,E3.keptP,?_⟩
 have z1:=E1.size;have z2:=E2.size;have z3:=E3.size
 have la:a.block<w2.heap.size:=hR.box.lt
 have hnil:∀b,¬ Sl.nil.blk b:=fun b hb=>by obtain ⟨a,h,_⟩:=hb;cases h
 have R3:ReAt w0 w3 q a s bs [] ⟨0,0,0⟩ m s.blk FP0 F [] Sl.nil :=
  ⟨⟨(hP.pure E2).pure E3,hR.pure E3,hK,fun b hb=>by have:=hsb b hb;omega,by omega,fun b hb=>by have h1:=hP.lt hb;exact ⟨by omega,fun hh=>by have:=hsb b hh;omega,fun hh=>by have:=hF b hh;omega,by omega⟩,fun b hb=>by have:=hF b hb;exact ⟨by omega,fun hh=>by have:=hsb b hh;omega⟩,by omega,fun hh=>by have:=hsb _ hh;omega⟩,(E1.trans E2).trans E3,hFP,by omega,Rws.nil _ _ _,fun b hb=>(hnil b hb).elim⟩
 refine ⟨fun pl Hl w=>∃(L:Sp.Pool) (r:Rd) (ps:List Nat) (FP:NP) (n:Nat),Hl=None∧ReAt w0 w q a s bs L r m s.blk FP F ps pl∧Sp.Wf L∧ps.length=L.length∧ps.length≤r.at_∧r.at_≤bs.length∧r.err=0∧bs.length - r.at_≤n∧jIX bs n L r ps=vQ bs,fun pl _=>bs.length+1 - pl.len,⟨[],⟨0,0,0⟩,[],FP0,bs.length,rfl,R3,Sp.Wf.nil,rfl,Nat.zero_le _,Nat.zero_le _,rfl,Nat.le_refl _,htxt.symm⟩,?_⟩
 rintro pl _ wl _ ⟨L,r,ps,FP,n,rfl,hRe,hW,hps,hpr,hra,hre,hn,hgo⟩
 unfold m_P1_l1
 have hpl:pl.len=ps.length:=by rw [hRe.rows.len,qM,List.length_map]
 refine (c_Left a s bs r wl hRe.st.rd hra).mono ?_
 rintro _ w4 ⟨_,rfl,rfl,E4⟩
 refine ⟨_,rfl,E4.keptP,fun hc3=>?_,fun hc3=>?_⟩
 ·have hlt:r.at_<bs.length:=by have:=of_decide_eq_true hc3;omega
  obtain ⟨n,rfl⟩:∃k,n=k+1:=⟨n - 1,by omega⟩
  rw [jIX,if_pos hlt] at hgo
  have S4:=hRe.st.pure E4
  refine (c_At a s bs r w4 S4.rd).mono ?_
  rintro _ _ ⟨_,rfl,rfl,rfl⟩
  refine ⟨_,rfl,Kept.refl _,?_⟩
  refine (jSB q a s bs r m S4 hW.ok hlt hre).mono ?_
  rintro _ w6 ⟨_,rfl,rfl,F',hP6,hR6,E6,hF6⟩
  have z4:=E4.size;have z6:=E6.size
  have E06:Pure w0 w6:=(hRe.pure.trans E4).trans' E6 (fun i hi hh=>hh.elim (fun hh=>by have:=hRe.oP i hh;omega) (fun hh=>by have:=hRe.oa;omega))
  refine ⟨_,rfl,E6.kept (fun b hb=>hb.elim),fun hc4=>?_,fun hc4=>?_⟩
  ·have h0:(vR bs L r).2.1≠0:=bne_iff_ne.1 hc4
   rw [if_pos h0] at hgo
   exact bad _ _ _ hgo.symm E06
  ·have h0:(vR bs L r).2.1=0:=by simpa using hc4
   rw [if_neg (by simpa using h0)] at hgo
   obtain ⟨a1,a2,a3⟩:=jIU bs L r hlt hre h0
   have hw6:Sp.Wf (vR bs L r).1∧(vR bs L r).1.length=L.length+1:=by
    rw [tR bs L r hlt hre] at h0 ⊢;split at h0
    ·rename_i hk;rw [if_pos hk];obtain ⟨_,_,e3,e4,e5⟩:=jEP h0;rw [e5];simp only;refine ⟨Sp.lJ hW _,?_⟩;have hc:=(Sp.lQ e4).2.2;unfold Sp.make at e4 ⊢;simp only [e3] at e4 ⊢;rw [if_neg (by rw [hc];simp)] at e4 ⊢;split at e4
     ·simp at e4
     ·rename_i hf;rw [if_neg hf];simp
    ·simp at h0
   intro p1 w7 n7
   have E7:Pure w6 w7:=Ext.new n7
   have z7:=E7.size
   have R7:Rws w7 3 1 pl (tmr (ps.map Int.ofNat)):=((hRe.rows.pure E4).ext E6 (fun b hb hh=>hh.elim (hRe.own b hb).2.1 (hRe.own b hb).2.2.1)).pure E7
   obtain ⟨s1,w8,hr8,hR8,hE8,hb8⟩:=R7.append (P:=prog) (ty:=50) (c:=1) jCN (Box.of_newA n7).row rfl rfl (by rw [qM,List.length_map];omega) (by rw [qM,List.length_map];simp only [maxLen];omega)
   have hpw:∀b,pl.blk b→b<wl.heap.size:=fun b hb=>hRe.rows.lt hb
   have z8:=hE8.size
   have E08:Pure w0 w8:=(E06.trans E7).trans' hE8 (fun i hi hh=>by have:=(hRe.own i hh).1;omega)
   have hnew:∀b,F' b→¬ pl.blk b:=fun b hb hh=>(hF6 b hb).elim (fun h=>(hRe.own b hh).2.1 h) (fun h=>by have:=hpw b hh;omega)
   have S0:=S4
   have S8:StAt w8 q a s bs (vR bs L r).1 (vR bs L r).2.2 m s.blk F' F:=by
    refine ⟨(hP6.pure E7).ext hE8 hnew,(hR6.pure E7).ext hE8 (fun b hb hh=>(hRe.own b hh).2.2.2.1 hb) (fun hh=>(hRe.own _ hh).2.2.1 rfl),((S0.kinds.ext E6 (fun b hb hh=>?_)).pure E7).ext hE8 (fun b hb hh=>?_),fun b hb=>by have:=S0.lS b hb;omega,by have:=S0.la;omega,fun b hb=>?_,S0.dF,S0.dm⟩
    ·rcases hb with hb | rfl
     ·exact hh.elim (fun hh=>(S0.dP b hh).2.2.1 hb) (fun hh=>(S0.dF b hb).1 hh)
     ·exact hh.elim (fun hh=>(S0.dP _ hh).2.2.2 rfl) (fun hh=>S0.dm.1 hh)
    ·rcases hb with hb | rfl
     ·exact (hRe.own b hh).2.2.2.2.1 hb
     ·exact (hRe.own _ hh).2.2.2.2.2 rfl
    ·rcases hF6 b hb with h | h
     ·exact S0.dP b h
     ·exact ⟨by have:=S0.la;omega,fun hh=>by have:=S0.lS b hh;omega,fun hh=>by have:=S0.kinds.lt b hh;omega,by have:=S0.kinds.mlt;omega⟩
   refine ⟨s1,w8,hr8,hE8.kept (fun b hb=>hb.elim),⟨(vR bs L r).1,(vR bs L r).2.2,ps++[r.at_],F',n,rfl,⟨S8,E08,fun b hb=>(hF6 b hb).elim (hRe.oP b) (fun h=>by have:=hRe.pure.size;omega),hRe.oa,?_,fun b hb=>?_⟩,hw6.1,by rw [List.length_append,List.length_singleton,hw6.2];omega,by rw [List.length_append,List.length_singleton];omega,a2,a3,by omega,hgo⟩,?_⟩
   ·have:tmr ((ps++[r.at_]).map Int.ofNat)=tmr (ps.map Int.ofNat)++[[.int .i64 (r.at_:Int)]]:=by simp [tmr]
    rw [this];exact hR8
   ·rcases hb8 b hb with h | h
    ·have:=hRe.own b h
     exact ⟨this.1,fun hh=>hnew b hh h,this.2.2⟩
    ·have h1:=hRe.pure.size
     exact ⟨by omega,fun hh=>by have:=hP6.lt hh;omega,by have:=S0.la;omega,fun hh=>by have:=S0.lS b hh;omega,fun hh=>by have:=S0.kinds.lt b hh;omega,by have:=S0.kinds.mlt;omega⟩
   ·have h1:s1.len=ps.length+1:=by rw [hR8.len,List.length_append,qM,List.length_map];rfl
    show bs.length+1 - s1.len<bs.length+1 - pl.len
    omega
 ·have hge:¬ r.at_<bs.length:=by have:=of_decide_eq_false hc3;omega
  rw [jHE hge] at hgo
  intro p2 w9 n9
  have E9:Pure w4 w9:=Ext.new n9
  have B9:=Box.of_newA n9
  have b9:=n9.at_size
  refine ⟨B9.canW0 (by simp),id,?_⟩
  rintro w10 e10
  have X10:Ext (·=p2.block) w9 w10:=by rw [e10];exact Ext.setCell _ _
  have B10:Box w10 p2 [.int .i64 0] 3:=by rw [e10];exact B9.set0
  have z4:=E4.size;have z9:=E9.size;have z10:=X10.size
  have E4':Pure wl w10:=(E4.trans E9).own (by omega) X10
  have zw:=hRe.pure.size
  have P10:=hRe.st.pool.pure E4'
  have R10:=hRe.rows.pure E4'
  refine (jCT q w10 P10).mono ?_
  rintro _ w10 ⟨_,rfl,rfl,rfl⟩
  refine ⟨_,rfl,Kept.refl _,?_⟩
  refine (jUX q L.length w10).mono ?_
  rintro _ w12 ⟨_,rfl,q2,q3,rfl,Bq2,Bq3,E12⟩
  have z12:=E12.size
  refine ⟨_,rfl,E12.keptP,_,_,rfl,call186,_,_,jRN hW (P10.pure E12) Bq2 Bq3,?_⟩
  have hfew:=Sp.jBO hW L.length
  have hlf:=hW.ok.few
  unfold jBU at hgo
  simp only at hgo
  generalize hxs:Sp.subs L L.length=xs at *
  have E012:Pure w0 w12:=(hRe.pure.trans E4').trans E12
  have vb:∀b,(b=p2.block∨FP b∨pl.blk b)→w0.heap.size≤b:=fun b hb=>hb.elim (fun h=>by omega) (fun hb=>hb.elim (hRe.oP b) (fun h=>(hRe.own b h).1))
  have dP2:¬ FP p2.block∧¬ pl.blk p2.block:=⟨fun hh=>by have:=hRe.st.pool.lt hh;omega,fun hh=>by have:=hRe.rows.lt hh;omega⟩
  refine ⟨fun pre Y A=>Box A p2 [.int .i64 (pre.length:Int)] 3∧inRow 0 pre=pre.length∧zR A q L FP∧Rws A 3 1 pl (tmr (ps.map Int.ofNat))∧(∀b,(b=p2.block∨FP b∨pl.blk b)→¬ Y b)∧Pure w0 A,
   fun pre Y A=>Box A p2 [.int .i64 (inRow 0 xs:Int)] 3∧zR A q L FP∧Rws A 3 1 pl (tmr (ps.map Int.ofNat))∧(∀b,(b=p2.block∨FP b∨pl.blk b)→¬ Y b)∧Pure w0 A,⟨fun _ _ _ _=>trivial,?_,?_,fun _ _ _ _ _ h=>h.elim⟩,?_,?_,?_⟩
  ·rintro pre Y A Y' A' ⟨g1,g2,g3,g4,g5,g6⟩ hst
   have hv:∀b,(b=p2.block∨FP b∨pl.blk b)→¬ Y' b:=hst.disj (fun b hb=>⟨hb.elim (fun e=>e▸g1.lt) (fun hb=>hb.elim (fun h=>g3.lt h) (fun h=>g4.lt h)),g5 b hb⟩)
   exact ⟨g1.ext hst.ext (hv _ (.inl rfl)),g2,g3.ext hst.ext (fun b hb=>hv b (.inr (.inl hb))),g4.ext hst.ext (fun b hb=>hv b (.inr (.inr hb))),hv,g6.hst hst⟩
  ·rintro pre Y A Y' A' ⟨g1,g3,g4,g5,g6⟩ hst
   have hv:∀b,(b=p2.block∨FP b∨pl.blk b)→¬ Y' b:=hst.disj (fun b hb=>⟨hb.elim (fun e=>e▸g1.lt) (fun hb=>hb.elim (fun h=>g3.lt h) (fun h=>g4.lt h)),g5 b hb⟩)
   exact ⟨g1.ext hst.ext (hv _ (.inl rfl)),g3.ext hst.ext (fun b hb=>hv b (.inr (.inl hb))),g4.ext hst.ext (fun b hb=>hv b (.inr (.inr hb))),hv,g6.hst hst⟩
  ·exact ⟨B10.pure E12,rfl,P10.pure E12,R10.pure E12,fun _ _ h=>h,E012⟩
  ·rintro pre z Y A ⟨g1,g2,g3,g4,g5,g6⟩ hsA ⟨post,hpost⟩
   have hpl2:pre.length<65536:=by have:=congrArg List.length hpost;simp only [List.length_append,List.length_cons] at this;omega
   have hw:IntKind.i64.wrap ((pre.length:Int)+1)=((pre.length+1:Nat):Int):=vV (n:=pre.length+1) (by omega) (by omega)
   refine ⟨_,g1.cell0,fun hc=>?_,fun hc=>?_⟩
   ·have hc:z≠((pre.length+1:Nat):Int):=by rw [hw] at hc;exact bne_iff_ne.1 hc
    have hst:=jOW pre 0 z post (by omega) (by omega)
    rw [← hpost,Nat.zero_add] at hst
    exact ⟨Kept.refl _,by rw [hst];exact g1,g3,g4,g5,g6⟩
   ·have hc:z=((pre.length+1:Nat):Int):=by rw [hw] at hc;simpa using hc
    have hsn:=jOX pre 0 z (by omega)
    rw [if_pos (by omega)] at hsn
    refine ⟨_,g1.cell0,g1.canW0 (by simp),id,?_⟩
    rintro w13 e13
    have X13:Ext (·=p2.block) A w13:=by rw [e13];exact Ext.setCell _ _
    have B13:Box w13 p2 [.int .i64 ((pre++[z]).length:Int)] 3:=by
     rw [e13,List.length_append,List.length_singleton,← hw];exact g1.set0
    exact ⟨X13.kept (fun b hb e=>g5 b (.inl e) hb),B13,by rw [hsn,List.length_append,List.length_singleton];omega,g3.ext X13 (fun b hb e=>dP2.1 (e▸hb)),g4.ext X13 (fun b hb e=>dP2.2 (e▸hb)),g5,g6.trans' X13 (fun i hi e=>by omega)⟩
  ·rintro H1 w14 hs14 _ _ hI
   have hI:Box w14 p2 [.int .i64 (inRow 0 xs:Int)] 3∧zR w14 q L FP∧Rws w14 3 1 pl (tmr (ps.map Int.ofNat))∧(∀b,(b=p2.block∨FP b∨pl.blk b)→¬ H1 b)∧Pure w0 w14:=by
    rcases hI with ⟨g1,g2,g3,g4,g5,g6⟩ | ⟨_,g1,g3,g4,g5,g6⟩
    ·exact ⟨by rw [g2];exact g1,g3,g4,g5,g6⟩
    ·exact ⟨g1,g3,g4,g5,g6⟩
   obtain ⟨g1,g3,g4,g5,g6⟩:=hI
   refine ⟨_,g1.cell0,fun hc=>?_,fun hc=>?_⟩
   ·have hc:=uN hpl hc
    rw [dif_pos hc] at hgo
    intro w15 hs15
    have hv15:∀b,(b=p2.block∨FP b∨pl.blk b)→¬ H1 b:=g5
    have g1':=g1.ext hs15.ext (hv15 _ (.inl rfl))
    have g4':=g4.ext hs15.ext (fun b hb=>hv15 b (.inr (.inr hb)))
    obtain ⟨a1,hat,_,hv5⟩:=tQ g4'.lst (j:=inRow 0 xs) (by simpa using hc)
    refine ⟨_,g1'.cell0,a1,hat,_,hv5,fun w16 hs16=>?_⟩
    have:=bad _ _ w16 hgo.symm ((g6.hst hs15).hst hs16)
    rw [List.getElem_map]
    exact this
   ·have hc:¬ inRow 0 xs<ps.length:=by have:=of_decide_eq_false hc;omega
    rw [dif_neg hc] at hgo
    intro w17 hs17
    have hF17:zR w17 q L FP:=g3.ext hs17.ext (fun b hb=>g5 b (.inr (.inl hb)))
    rw [← hgo]
    exact ⟨rfl,rfl,⟨fun q' hq'=>by rw [← hgo] at hq';cases hq';exact ⟨q,FP,rfl,hF17,hRe.oP⟩,fun hn=>by rw [← hgo] at hn;cases hn⟩,g6.hst hs17⟩
theorem jSQ.pool {w0 w':World} {bs:List UInt8} {x:Option Addr} (h:jSQ w0 w' bs x) {q:Sp.Pool} (hq:(vQ bs).1=some q):∃p F,x=some p∧zR w' p q F∧∀b,F b→w0.heap.size≤b:=h.1 q hq
end Go.Proofs
end
