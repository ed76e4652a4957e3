import Derived.Test.YtkafbiknboamlaaGreatDoorPa3
import Derived.Test.YtkafbiknboamlaaGreatDoorPa1
import Derived.Recover
import Derived.Test.YtkafbiknboamlaaGreatDoorProg
import Derived.KernelRfl
import Derived.Test.YtkafbiknboamlaaGreatDoorPa2
section
open Go Go.SE
namespace Go.Proofs
open Tryz
attribute [local irreducible] Calls
abbrev BMap (w:World) (m:Nat) (M:List (Int×Int)):Prop:=CMap w m (M.map fun p=>(.int .u8 p.1,.int .i64 p.2))
theorem bk (M:List (Int×Int)):∀p∈M.map (fun p:Int×Int=>((Value.int .u8 p.1,Value.int .i64 p.2):Value×Value)),∃n,p.1=.int .u8 n:=by
 intro p hp;obtain ⟨q,_,rfl⟩:=List.mem_map.1 hp;exact ⟨_,rfl⟩
theorem vW {w:World} {m:Nat} {M:List (Int×Int)} (h:BMap w m M) {k v:Int} (hn:∀p∈M,p.1≠k):∃w',(Instr.mapUpdate 220 (.map (some m)) (.int .u8 k) (.int .i64 v)).run prog w=.ok () w'∧BMap w' m (M++[(k,v)])∧Ext (·=m) w w':=by
 obtain ⟨w',h1,h2,h3⟩:=h.insert (P:=prog) underlying220 (KeyOK.of_int underlying5) (bk M) (k:=.int .u8 k) (v:=.int .i64 v) ⟨k,rfl⟩ (fun p hp e=>by
  obtain ⟨q,hq,rfl⟩:=List.mem_map.1 hp;simp only [Value.int.injEq,true_and] at e;exact hn q hq e)
 exact ⟨w',h1,by simpa [BMap] using h2,h3⟩
def jFT:List (Int×Int):=[(110,1),(35,2),(107,6),(34,3),(40,4),(104,5),(115,7),(112,8),(102,9)]
theorem jFS (c:Nat):(∀p∈jFT,p.1≠(c:Int))→Sp.kL c=0:=by
 intro h;simp only [jFT,List.mem_cons,List.not_mem_nil,or_false,forall_eq_or_imp,forall_eq] at h;unfold Sp.kL;rw [if_neg (by omega),if_neg (by omega),if_neg (by omega),if_neg (by omega),if_neg (by omega),if_neg (by omega),if_neg (by omega),if_neg (by omega),if_neg (by omega)]
theorem jIB (c:Nat) (v:Int):((c:Int),v)∈jFT→Sp.kL c=v:=by
 intro h;simp only [jFT,List.mem_cons,List.not_mem_nil,or_false,Prod.mk.injEq] at h;rcases h with ⟨h,rfl⟩ | ⟨h,rfl⟩ | ⟨h,rfl⟩ | ⟨h,rfl⟩ | ⟨h,rfl⟩ | ⟨h,rfl⟩ | ⟨h,rfl⟩ | ⟨h,rfl⟩ | ⟨h,rfl⟩
 ·obtain rfl:c=110:=by omega
  rfl
 ·obtain rfl:c=35:=by omega
  rfl
 ·obtain rfl:c=107:=by omega
  rfl
 ·obtain rfl:c=34:=by omega
  rfl
 ·obtain rfl:c=40:=by omega
  rfl
 ·obtain rfl:c=104:=by omega
  rfl
 ·obtain rfl:c=115:=by omega
  rfl
 ·obtain rfl:c=112:=by omega
  rfl
 ·obtain rfl:c=102:=by omega
  rfl
theorem jIT {w:World} {m:Nat} (h:BMap w m jFT) (c:Nat):(Instr.lookup 220 (.map (some m)) (.int .u8 (c:Int)) false).run prog w=.ok (.int .i64 (Sp.kL c)) w:=by
 rcases CMap.lookup (P:=prog) h underlying220 (KeyOK.of_int underlying5) (bk jFT) (k:=.int .u8 (c:Int)) ⟨_,rfl⟩ (zeroValue3 _) false with ⟨h1,h2⟩ | ⟨i,v,h1,h2⟩
 ·rw [jFS c (fun p hp e=>h1 (.int .u8 p.1,.int .i64 p.2) (List.mem_map.2 ⟨p,hp,rfl⟩) (by rw [e]))];exact h2
 ·obtain ⟨p,hp,he⟩:=List.mem_map.1 (List.mem_of_getElem? h1);simp only [Prod.mk.injEq,Value.int.injEq,true_and] at he;obtain ⟨h3,rfl⟩:=he;rw [jIB c p.2 (by rw [← h3];exact hp)];exact h2
abbrev TT (w0 w:World) (H:NP) (s:Sl) (t:Sp.Tree):Prop:=TreeAt (fun b=>w0.heap.size≤b∧b<w.heap.size∧¬ H b) w s t
section
variable {w0 w w':World} {H H':NP} {s:Sl} {t:Sp.Tree} {a:Addr}
theorem TT.hst (h:TT w0 w H s t) (hs:Hst w0 H w H' w'):TT w0 w' H' s t:=by
 have hd:=hs.disj (G:=fun b=>w0.heap.size≤b∧b<w.heap.size∧¬ H b) (fun b hb=>⟨hb.2.1,hb.2.2⟩);exact (h.ext hs.ext hd).mono (fun b hb=>⟨hb.1,by have:=hs.ext.size;omega,hd b hb⟩)
theorem TT.ext (h:TT w0 w H s t) (E:Ext (·=a.block) w w') (ha:a.block<w0.heap.size):TT w0 w' H s t :=
 (TreeAt.ext h E (fun b hb e=>by have:=hb.1;omega)).mono (fun b hb=>⟨hb.1,by have:=E.size;omega,hb.2.2⟩)
theorem TT.of {w1:World} (h:TreeAt (fun b=>w1.heap.size≤b∧b<w.heap.size) w s t) (hw:w0.heap.size≤w1.heap.size) (hH:∀b,H b→b<w1.heap.size):TT w0 w H s t :=
 h.mono (fun b hb=>⟨by omega,hb.2,fun hh=>by have:=hH b hh;omega⟩)
end
def SpkT (w0:World) (a:Addr) (x:ByteArray) (e:Ending) (w':World):Sp.Rt→Prop
 | .ok t j=>∃s:Sl,e=.returned (.agg (kK t.1 s).toArray)∧TreeAt (fun b=>w0.heap.size≤b∧b<w'.heap.size) w' s t.1∧Spk w' a x j t.2∧Ext (·=a.block) w0 w'
 | .no er i=>e=.panicked (flt er i)∧Ext (·=a.block) w0 w'
def SpkB (w0:World) (a:Addr) (x:ByteArray) (e:Ending) (w':World):Sp.Rt→Prop
 | .ok t j=>∃s:Sl,e=.returned s.v∧(∀k f to u y,TreeAt (fun b=>w0.heap.size≤b∧b<w'.heap.size) w' s (.mk k f to u y [t.1]))∧Spk w' a x j t.2∧Ext (·=a.block) w0 w'
 | .no er i=>e=.panicked (flt er i)∧Ext (·=a.block) w0 w'
def jKO (a:Addr) (x:ByteArray) (d:Nat):Prop:=∀(i n:Nat) (w0:World),Spk w0 a x i n→i≤(bts x).length→n≤4096→jKP w0 a→Calls prog 105 #[.pointer (some a),.int .i64 (64 - (d:Int))] w0 (fun e w'=>SpkT w0 a x e w' (Sp.jT (bts x) d i n))
theorem jKM (a:Addr) (x:ByteArray) (d:Nat) (hd:d<64) (hT:jKO a x d) (i n:Nat) (w0:World) (h:Spk w0 a x i n) (hi:i≤(bts x).length) (hn:n≤4096) (hv:jKP w0 a) (hc:(bts x).length≤10000000) :
  Calls prog 151 #[.pointer (some a),.int .i64 (64 - ((d+1:Nat):Int))] w0 (fun e w'=>SpkB w0 a x e w' (Sp.kN (bts x) (Sp.jT (bts x) d) n i)):=by
 refine (w_Q2 (some a) (64 - ((d+1:Nat):Int)) w0 (fun o r w'=>SpkB w0 a x (match o with | none=>.returned r.v | some ch=>.panicked ch) w' (Sp.kN (bts x) (Sp.jT (bts x) d) n i)) ?_).mono ?_
 ·unfold m_Q2
  rw [show IntKind.i64.wrap (64 - ((d+1:Nat):Int)+1)=64 - (d:Int) by rw [IntWalk.i64_in _ (by omega)];omega]
  have ha:=h.lt
  refine (gF a x i n w0 h hi 40 hc).mono ?_
  intro e w1
  have hok:=Sp.qX (bts x) 40 i
  unfold Sp.kN
  generalize Sp.kA (bts x) 40 i=R at *
  cases R with
  | no er k=>rintro ⟨rfl,X⟩;exact .inr ⟨_,rfl,rfl,X⟩
  | ok u i1 =>
   rintro ⟨rfl,h1,X1⟩
   obtain ⟨g1,g2⟩:=hok _ _ rfl
   refine .inl ⟨rfl,X1.kept (fun b hb=>hb.elim),?_⟩
   refine (hT i1 n w1 h1 g2 hn (hv.ext X1)).mono ?_
   intro e w2
   have hok2:=Sp.yT (bts x) d i1 n g2
   have hnn:=Sp.jAA (bts x) d i1 n hn
   simp only [Sp.Rr.bind]
   generalize Sp.jT (bts x) d i1 n=R2 at *
   cases R2 with
   | no er k=>rintro ⟨rfl,X⟩;exact .inr ⟨_,rfl,rfl,X1.trans X⟩
   | ok t i2 =>
    rintro ⟨s,rfl,hTr,h2,X2⟩
    obtain ⟨g3,g4⟩:=hok2 _ _ rfl
    have hk2:Kept None w1 w2:=X2.kept (fun b hb=>hb.elim)
    refine .inl ⟨_,_,_,_,_,_,rfl,hk2,?_⟩
    intro H1 w4 hs4
    have z1:=X1.size
    have z2:=X2.size
    have nH:¬ H1 a.block:=fun hh=>by have:=hs4.here.old _ hh;omega
    have T2:TT w0 w2 None s t.1:=TT.of hTr z1 (fun b hb=>hb.elim)
    have T4:=TT.hst T2 hs4
    have h4:=h2.ext hs4.ext nH
    have X4:Ext (·=a.block) w0 w4:=(X1.trans X2).trans' hs4.ext (fun b hb hh=>by have:=hs4.here.old b hh;omega)
    refine (gF a x i2 t.2 w4 h4 g4 41 hc).mono ?_
    intro e w5
    simp only
    generalize Sp.kA (bts x) 41 i2=R3 at *
    cases R3 with
    | no er k=>rintro ⟨rfl,X⟩;exact .inr ⟨_,rfl,rfl,X4.trans X⟩
    | ok u i3 =>
     rintro ⟨rfl,h5,X5⟩
     refine .inl ⟨rfl,X5.kept (fun b hb e=>nH (e▸hb)),?_⟩
     intro p2 w6 n6
     have E6:Pure w5 w6:=Ext.new n6
     have T5:=TT.ext T4 X5 ha
     have hp:=n6.at_size
     have z5:=X4.size
     have z6:=X5.size
     have z7:=E6.size
     have B6:=Box.of_new n6
     have l6:=B6.lt
     refine ⟨_,rfl,fun k f to u y=>?_,h5.pure E6,(X4.trans X5).thenPure E6⟩
     have T6:=(TreeAt.pure T5 E6).mono (S':=fun b=>w0.heap.size≤b∧b<w6.heap.size) (fun b hb=>⟨hb.1,by omega⟩)
     exact TreeAt.one (A:=t.1) (sa:=s) B6 ⟨by omega,by omega⟩ T6
 ·rintro e w' (⟨r,rfl,hh⟩ | ⟨ch,rfl,hh⟩) <;> exact hh
abbrev KT (w0:World) (a:Addr) (x:ByteArray) (R:Sp.Rt):Option (List PanicEntry)→Int→Int→Int→Int→ByteArray→Sl→WP:=fun o k f t u y s w'=>SpkT w0 a x (match o with | none=>.returned (.agg #[.int .i64 k,.int .i64 f,.int .i64 t,.int .u64 u,.string y,s.v]) | some ch=>.panicked ch) w' R
structure TS (w0 w:World) (H:NP) (a:Addr) (x:ByteArray) (i n:Nat):Prop where
 rd:Spk w a x i n
 le:i≤(bts x).length
 ext:Ext (·=a.block) w0 w
 la:a.block<w0.heap.size
 oH:∀b,H b→w0.heap.size≤b∧b<w.heap.size
 few:(bts x).length≤10000000
section
variable {w0 w w':World} {H H':NP} {a:Addr} {x:ByteArray} {i j n n':Nat}
theorem TS.nH (h:TS w0 w H a x i n):¬ H a.block:=fun hh=>by have:=(h.oH _ hh).1;have:=h.la;omega
theorem TS.hst (h:TS w0 w H a x i n) (hs:Hst w0 H w H' w'):TS w0 w' H' a x i n :=
 ⟨h.rd.ext hs.ext (fun hh=>by have:=hs.here.old _ hh;have:=h.la;omega),h.le,h.ext.trans' hs.ext (fun b hb hh=>by have:=hs.here.old b hh;omega),h.la,fun b hb=>⟨hs.here.old b hb,hs.here.lt b hb⟩,h.few⟩
theorem TS.to (h:TS w0 w H a x i n) (hr:Spk w' a x j n') (hj:j≤(bts x).length) (E:Ext (·=a.block) w w'):Kept H w w'∧TS w0 w' H a x j n' :=
 ⟨E.kept (fun b hb e=>h.nH (e▸hb)),hr,hj,h.ext.trans E,h.la,fun b hb=>⟨(h.oH b hb).1,by have:=(h.oH b hb).2;have:=E.size;omega⟩,h.few⟩
theorem lK (h:TS w0 w H a x i n) {k f to u:Int} {y:ByteArray} {ks:List Sp.Tree} {s:Sl} (hT:TT w0 w H s (.mk k f to u y ks)) :
  ∀w19,Hst w0 H w H w19→Calls prog 145 #[.pointer (some a)] w19 (fun e w20=>e=.returned (.tuple #[])∧Kept H w19 w20∧∀w21,Hst w0 H w20 H w21→KT w0 a x (.ok (.mk k f to u y ks,n) (Sp.jU (bts x) i)) none k f to u y s w21):=by
 intro w19 hs19
 have h19:=h.hst hs19
 have T19:=TT.hst hT hs19
 refine (tN a x i n w19 h19.rd h19.le h19.few).mono ?_
 rintro _ w20 ⟨rfl,hr,E⟩
 obtain ⟨k20,h20⟩:=h19.to hr (Sp.kU h.le).2 E
 refine ⟨rfl,k20,fun w21 hs21=>?_⟩
 have h21:=h20.hst hs21
 have T21:=TT.hst (TT.ext T19 E h.la) hs21
 exact ⟨s,rfl,T21.mono (fun b hb=>⟨hb.1,hb.2.1⟩),h21.rd,h21.ext⟩
theorem uJ (h:TS w0 w H a x i n) {e:Int} {k:Nat} {w1:World} (X:Ext (·=a.block) w w1):KT w0 a x (.no e k) (some (flt e k)) 0 0 0 0 ⟨#[]⟩ Sl.nil w1:=⟨rfl,h.ext.trans X⟩
theorem jGR {k f to u:Int} {y:ByteArray}:TT w0 w H Sl.nil (.mk k f to u y []):=TreeAt.leaf
end
set_option maxHeartbeats 2000000 in
theorem jKS {w0 w:World} {H:NP} {a:Addr} {x:ByteArray} {i j n d:Nat} {c:UInt8} (hd:d<64) (hT:jKO a x d) (hj:j<(bts x).length) (hcj:(bts x)[j]?=some c) (k:Int) (hk:k=Sp.kL c.toNat) (hk0:k≠0)
  (h:TS w0 w H a x i n) (hi:i=if k=3∨k=4 then j else j+1) (hn:n≤4096) (hv:jKP w0 a) :
  m_F_j4 (some a) (64 - ((d+1:Nat):Int)) k w0 H w (KT w0 a x ((Sp.kI (bts x) (Sp.jT (bts x) d) k n j).bind fun t m=>.ok t (Sp.jU (bts x) m))):=by
 have hdeep:IntKind.i64.wrap (64 - ((d+1:Nat):Int)+1)=64 - (d:Int):=by rw [IntWalk.i64_in _ (by omega)];omega
 have hk9:k=1∨k=2∨k=6∨k=3∨k=4∨k=5∨k=7∨k=8∨k=9:=by
  subst hk;unfold Sp.kL at hk0 ⊢
  repeat' split at hk0
  all_goals simp_all
 have nameC:∀(nt:Int) {w1:World} {H1:NP} {i1:Nat},TS w0 w1 H1 a x i1 n→Calls prog 147 #[.pointer (some a),.int .i64 nt] w1 (fun e w2=>(∃v j2,Sp.zV (bts x) nt i1=.ok v j2∧e=.returned (.int .i64 (v:Int))∧Kept H1 w1 w2∧TS w0 w2 H1 a x j2 n)∨(∃er k,Sp.zV (bts x) nt i1=.no er k∧e=.panicked (flt er k)∧Ext (·=a.block) w1 w2)):=fun nt w1 H1 i1 h1=>by
  refine (jKJ a x i1 n w1 h1.rd h1.le h1.few (hv.ext h1.ext) nt).mono ?_;intro e w2;have hok:=Sp.yU (bts x) nt i1;generalize Sp.zV (bts x) nt i1=R at *;cases R with
  | no er k=>rintro ⟨rfl,X⟩;exact .inr ⟨_,_,rfl,rfl,X⟩
  | ok v j2 =>
   rintro ⟨rfl,hr,X⟩
   obtain ⟨k2,h2⟩:=h1.to hr (hok _ _ rfl).2 X
   exact .inl ⟨_,_,rfl,rfl,k2,h2⟩
 have bodyC:∀{w1:World} {H1:NP} {i1:Nat},TS w0 w1 H1 a x i1 n→Calls prog 151 #[.pointer (some a),.int .i64 (64 - ((d+1:Nat):Int))] w1 (fun e w2=>(∃t j2,Sp.kN (bts x) (Sp.jT (bts x) d) n i1=.ok t j2∧∃s:Sl,e=.returned s.v∧Kept H1 w1 w2∧TS w0 w2 H1 a x j2 t.2∧∀k f to u y,TT w0 w2 H1 s (.mk k f to u y [t.1]))∨(∃er k,Sp.kN (bts x) (Sp.jT (bts x) d) n i1=.no er k∧e=.panicked (flt er k)∧Ext (·=a.block) w1 w2)):=fun {w1 H1 i1} h1=>by
  refine (jKM a x d hd hT i1 n w1 h1.rd h1.le hn (hv.ext h1.ext) h1.few).mono ?_;intro e w2;have hok:=Sp.uZ (B:=bts x) (T:=Sp.jT (bts x) d) (fun i n=>by
   by_cases h:i≤(bts x).length
   ·exact Sp.yT (bts x) d i n h
   ·intro a j e;exfalso;have hb:Sp.jU (bts x) i=i:=Sp.qG (by omega);cases d <;> (unfold Sp.jT at e;rw [hb,List.getElem?_eq_none (by omega)] at e;cases e)) n i1
  generalize Sp.kN (bts x) (Sp.jT (bts x) d) n i1=R at *;cases R with
  | no er k=>rintro ⟨rfl,X⟩;exact .inr ⟨_,_,rfl,rfl,X⟩
  | ok t j2 =>
   rintro ⟨s,rfl,hTr,hr,X⟩
   obtain ⟨k2,h2⟩:=h1.to hr (hok _ _ rfl).2 X
   exact .inl ⟨_,_,rfl,s,rfl,k2,h2,fun k f to u y=>TT.of (hTr k f to u y) h1.ext.size (fun b hb=>(h1.oH b hb).2)⟩
 have takeC:∀(ch:Nat) {w1:World} {H1:NP} {i1 n1:Nat},TS w0 w1 H1 a x i1 n1→Calls prog 150 #[.pointer (some a),.int .u8 (ch:Int)] w1 (fun e w2=>(∃j2,Sp.kA (bts x) ch i1=.ok () j2∧e=.returned (.tuple #[])∧Kept H1 w1 w2∧Ext (·=a.block) w1 w2∧TS w0 w2 H1 a x j2 n1)∨(∃er k,Sp.kA (bts x) ch i1=.no er k∧e=.panicked (flt er k)∧Ext (·=a.block) w1 w2)):=fun ch w1 H1 i1 n1 h1=>by
  refine (gF a x i1 n1 w1 h1.rd h1.le ch h1.few).mono ?_;intro e w2;have hok:=Sp.qX (bts x) ch i1;generalize Sp.kA (bts x) ch i1=R at *;cases R with
  | no er k=>rintro ⟨rfl,X⟩;exact .inr ⟨_,_,rfl,rfl,X⟩
  | ok v j2 =>
   rintro ⟨rfl,hr,X⟩
   obtain ⟨k2,h2⟩:=h1.to hr (hok _ _ rfl).2 X
   exact .inl ⟨_,rfl,rfl,k2,X,h2⟩
 have termC:∀{w1:World} {H1:NP} {i1 n1:Nat},n1≤4096→TS w0 w1 H1 a x i1 n1→Calls prog 105 #[.pointer (some a),.int .i64 (64 - (d:Int))] w1 (fun e w2=>(∃t j2,Sp.jT (bts x) d i1 n1=.ok t j2∧t.2≤4096∧∃s:Sl,e=.returned (.agg (kK t.1 s).toArray)∧Kept H1 w1 w2∧Ext (·=a.block) w1 w2∧TS w0 w2 H1 a x j2 t.2∧TT w0 w2 H1 s t.1)∨(∃er k,Sp.jT (bts x) d i1 n1=.no er k∧e=.panicked (flt er k)∧Ext (·=a.block) w1 w2)):=fun {w1 H1 i1 n1} hn1 h1=>by
  refine (hT i1 n1 w1 h1.rd h1.le hn1 (hv.ext h1.ext)).mono ?_;intro e w2;have hok:=Sp.yT (bts x) d i1 n1 h1.le;have hnn:=Sp.jAA (bts x) d i1 n1 hn1;generalize Sp.jT (bts x) d i1 n1=R at *;cases R with
  | no er k=>rintro ⟨rfl,X⟩;exact .inr ⟨_,_,rfl,rfl,X⟩
  | ok t j2 =>
   rintro ⟨s,rfl,hTr,hr,X⟩
   obtain ⟨k2,h2⟩:=h1.to hr (hok _ _ rfl).2 X
   exact .inl ⟨_,_,rfl,hnn _ _ rfl,s,rfl,k2,X,h2,TT.of hTr h1.ext.size (fun b hb=>(h1.oH b hb).2)⟩
 unfold m_F_j4 Sp.kI
 refine ⟨fun hb=>fun H3 w17 hs17=>?_,fun hb1=>⟨fun hb=>fun H3 w17 hs17=>?_,fun hb2=>⟨fun hb=>fun H3 w17 hs17=>?_,fun hb3=>⟨fun hb=>?_,fun hb4=>⟨fun hb=>fun H3 w17 hs17=>?_,fun hb5=>⟨fun hb=>fun H3 w17 hs17=>?_,fun hb7=>fun H3 w17 hs17=>?_⟩⟩⟩⟩⟩⟩
 ·-- a name,a key
  have hk16:k=1∨k=6:=by
   by_cases h1:k=1
   ·exact .inl h1
   ·rw [show ((k:Int) == 1)=false by simpa using h1] at hb;right;simpa using hb
  rw [if_pos hk16]
  rw [if_neg (by omega)] at hi
  subst hi
  have h17:=h.hst hs17
  refine (nameC (-1) h17).mono ?_
  rintro e w18 (⟨v,j2,hR,rfl,k18,h18⟩ | ⟨er,m,hR,rfl,X⟩)
  ·rw [hR]
   exact .inl ⟨_,rfl,k18,lK h18 jGR⟩
  ·rw [hR]
   exact .inr ⟨_,rfl,uJ h17 X⟩
 ·have hk2:k=2:=by simpa using hb
  subst hk2
  rw [if_neg (by decide),if_pos rfl]
  rw [if_neg (by decide)] at hi
  subst hi
  have h17:=h.hst hs17
  refine (jIK a x (j+1) n w17 h17.rd h17.le h17.few (hv.ext h17.ext)).mono ?_
  intro e w22
  have hok:=Sp.xQ (bts x) (j+1)
  generalize Sp.qQ (bts x) (j+1)=R at *
  cases R with
  | no er m=>rintro ⟨rfl,X⟩;exact .inr ⟨_,rfl,uJ h17 X⟩
  | ok v j2 =>
   rintro ⟨rfl,hr,X⟩
   obtain ⟨k22,h22⟩:=h17.to hr (hok _ _ rfl).2 X
   exact .inl ⟨_,rfl,k22,lK h22 jGR⟩
 ·have hk3:k=3:=by simpa using hb
  subst hk3
  rw [if_neg (by decide),if_neg (by decide),if_pos rfl]
  rw [if_pos (by decide)] at hi
  subst hi
  have h17:=h.hst hs17
  have hc34:c.toNat=34:=by
   unfold Sp.kL at hk
   repeat' split at hk
   all_goals first | assumption | exact absurd hk (by decide)
  refine (jKL a x i n w17 h17.rd ⟨c,hcj,hc34⟩ h17.few).mono ?_
  intro e w26
  have hok:Sp.xZ (bts x) (i+1) (Sp.qR (bts x) i):=Sp.yV (bts x) i ((bts x).length+1) (i+1) []
  generalize Sp.qR (bts x) i=R at *
  cases R with
  | no er m=>rintro ⟨rfl,X⟩;exact .inr ⟨_,rfl,uJ h17 X⟩
  | ok v j2 =>
   rintro ⟨rfl,hr,X⟩
   obtain ⟨k22,h22⟩:=h17.to hr (hok _ _ rfl).2 X
   exact .inl ⟨_,rfl,k22,lK h22 jGR⟩
 ·have hk4:k=4:=by simpa using hb
  subst hk4
  rw [if_neg (by decide),if_neg (by decide),if_neg (by decide),if_pos rfl]
  rw [if_pos (by decide)] at hi
  subst hi
  refine ⟨a,rfl,fun H3 w17 hs17=>?_⟩
  have h17:=h.hst hs17
  refine ⟨_,zQ h17.rd,a,rfl,h17.rd.canW (i:=1) (by simp),h17.nH,?_⟩
  rintro w30 rfl
  rw [kH (show i≤(bts x).length by omega) (by have:=h.few;omega),hdeep]
  obtain ⟨_,h30⟩:=h17.to (kY h17.rd (i+1)) hj vE
  refine (termC hn h30).mono ?_
  rintro e w31 (⟨t1,j1,hR,hn1,s1,rfl,k31,X31,h31,T31⟩ | ⟨er,m,hR,rfl,X⟩)
  ·rw [hR]
   refine .inl ⟨_,_,_,_,_,s1,rfl,k31,?_⟩
   intro H4 w33 hs33
   have h33:=h31.hst hs33
   have T33:=TT.hst T31 hs33
   refine (termC hn1 h33).mono ?_
   rintro e w34 (⟨t2,j2,hR2,hn2,s2,rfl,k34,X34,h34,T34⟩ | ⟨er,m,hR2,rfl,X⟩)
   ·simp only [Sp.Rr.bind]
    rw [hR2]
    refine .inl ⟨_,_,_,_,_,s2,rfl,k34,?_⟩
    intro H5 w36 hs36
    have h36:=h34.hst hs36
    have T1:=TT.hst (TT.ext T33 X34 h.la) hs36
    have T2:=TT.hst T34 hs36
    refine (takeC 41 h36).mono ?_
    rintro e w37 (⟨j3,hR3,rfl,k37,X37,h37⟩ | ⟨er,m,hR3,rfl,X⟩)
    ·simp only
     rw [hR3]
     refine .inl ⟨trivial,k37,?_⟩
     intro p5 w38 n38
     have E38:Pure w37 w38:=Ext.new n38
     have B38:=Box.of_new n38
     have hp:=n38.at_size
     have l38:=B38.lt
     have z:=h37.ext.size
     intro w39 hs39
     have hE38:=E38.keptP (H:=H5)
     obtain ⟨_,h38⟩:=h37.to (h37.rd.pure E38) h37.le E38.pure
     have up:∀{s:Sl} {t:Sp.Tree},TT w0 w36 H5 s t→TT w0 w38 H5 s t:=fun T=>(TreeAt.pure (TT.ext T X37 h.la) E38).mono (fun b hb=>⟨hb.1,by omega,hb.2.2⟩)
     refine lK h38 (TreeAt.pair (A:=t1.1) (B:=t2.1) (sa:=s1) (sb:=s2) B38 ⟨by omega,by omega,fun hh=>by have:=(h37.oH _ hh).2;omega⟩ (up T1) (up T2)) w39 hs39
    ·simp only
     rw [hR3]
     exact .inr ⟨_,rfl,uJ h36 X⟩
   ·simp only [Sp.Rr.bind]
    rw [hR2]
    exact .inr ⟨_,rfl,uJ h33 X⟩
  ·rw [hR]
   exact .inr ⟨_,rfl,uJ h30 X⟩
 ·have hk5:k=5:=by simpa using hb
  subst hk5
  rw [if_neg (by decide),if_neg (by decide),if_neg (by decide),if_neg (by decide),if_pos rfl]
  rw [if_neg (by decide)] at hi
  subst hi
  have h17:=h.hst hs17
  refine (bodyC h17).mono ?_
  rintro e w42 (⟨t,j2,hR,s,rfl,k42,h42,T42⟩ | ⟨er,m,hR,rfl,X⟩)
  ·rw [hR];exact .inl ⟨_,rfl,k42,lK h42 (T42 _ _ _ _ _)⟩
  ·rw [hR];exact .inr ⟨_,rfl,uJ h17 X⟩
 ·have hk7:k=7:=by simpa using hb
  subst hk7
  rw [if_neg (by decide),if_neg (by decide),if_neg (by decide),if_neg (by decide),if_neg (by decide),if_pos rfl]
  rw [if_neg (by decide)] at hi
  subst hi
  have h17:=h.hst hs17
  refine (nameC (-1) h17).mono ?_
  rintro e w46 (⟨v,j1,hR,rfl,k46,h46⟩ | ⟨er,m,hR,rfl,X⟩)
  ·rw [hR]
   refine .inl ⟨_,rfl,k46,fun w47 hs47=>?_⟩
   have h47:=h46.hst hs47
   refine (bodyC h47).mono ?_
   rintro e w48 (⟨t,j2,hR2,s,rfl,k48,h48,T48⟩ | ⟨er,m,hR2,rfl,X⟩)
   ·simp only [Sp.Rr.bind];rw [hR2];exact .inl ⟨_,rfl,k48,lK h48 (T48 _ _ _ _ _)⟩
   ·simp only [Sp.Rr.bind];rw [hR2];exact .inr ⟨_,rfl,uJ h47 X⟩
  ·rw [hR];exact .inr ⟨_,rfl,uJ h17 X⟩
 ·have h16 : ¬ (k = 1 ∨ k = 6) := by
   rintro (rfl | rfl)
   ·simp at hb1
   ·simp at hb1
  have h2:k≠2:=by simpa using hb2
  have h3:k≠3:=by simpa using hb3
  have h4:k≠4:=by simpa using hb4
  have h5:k≠5:=by simpa using hb5
  have h7:k≠7:=by simpa using hb7
  rw [if_neg h16,if_neg h2,if_neg h3,if_neg h4,if_neg h5,if_neg h7]
  rw [if_neg (by omega)] at hi
  subst hi
  have h17:=h.hst hs17
  refine (nameC (-1) h17).mono ?_
  rintro e w52 (⟨v,j1,hR,rfl,k52,h52⟩ | ⟨er,m,hR,rfl,X⟩)
  ·rw [hR]
   refine .inl ⟨_,rfl,k52,fun w53 hs53=>?_⟩
   have h53:=h52.hst hs53
   refine (takeC 62 h53).mono ?_
   rintro e w54 (⟨j2,hR2,rfl,k54,X54,h54⟩ | ⟨er,m,hR2,rfl,X⟩)
   ·simp only [Sp.Rr.bind]
    rw [hR2]
    refine .inl ⟨trivial,k54,?_⟩
    refine (nameC (v:Int) h54).mono ?_
    rintro e w55 (⟨v2,j3,hR3,rfl,k55,h55⟩ | ⟨er,m,hR3,rfl,X⟩)
    ·simp only
     rw [hR3]
     refine .inl ⟨_,rfl,k55,fun w56 hs56=>?_⟩
     have h56:=h55.hst hs56
     refine (bodyC h56).mono ?_
     rintro e w57 (⟨t,j4,hR4,s,rfl,k57,h57,T57⟩ | ⟨er,m,hR4,rfl,X⟩)
     ·simp only;rw [hR4];exact .inl ⟨_,rfl,k57,lK h57 (T57 _ _ _ _ _)⟩
     ·simp only;rw [hR4];exact .inr ⟨_,rfl,uJ h56 X⟩
    ·simp only
     rw [hR3];exact .inr ⟨_,rfl,uJ h54 X⟩
   ·simp only [Sp.Rr.bind]
    rw [hR2];exact .inr ⟨_,rfl,uJ h53 X⟩
  ·rw [hR];exact .inr ⟨_,rfl,uJ h17 X⟩
end Go.Proofs
end
section
open Go Go.SE
namespace Go.Proofs
attribute [local irreducible] Calls
theorem spk_j3 {w0 w:World} {H:NP} {a:Addr} {x:ByteArray} {j n d:Nat} {c:UInt8} (hd:d<64) (hT:jKO a x d) (hj:j<(bts x).length) (hcj:(bts x)[j]?=some c) (hk0:Sp.kL c.toNat≠0)
  (h:TS w0 w H a x j n) (hn:n<4096) (hv:jKP w0 a) :
  m_F_j3 (some a) (64 - ((d+1:Nat):Int)) (c.toNat:Int) (Sp.kL c.toNat) w0 H w (KT w0 a x ((Sp.kI (bts x) (Sp.jT (bts x) d) (Sp.kL c.toNat) (n+1) j).bind fun t m=>.ok t (Sp.jU (bts x) m))):=by
 unfold m_F_j3
 refine ⟨a,rfl,_,spk_n h.rd,a,rfl,h.rd.canW (i:=2) (by simp),h.nH,?_⟩
 rintro w15 rfl
 rw [kH (show n≤4096 by omega) (by omega)]
 obtain ⟨_,h15⟩:=h.to (jJA h.rd (n+1)) h.le vE
 have hk34:(Sp.kL c.toNat=3∨Sp.kL c.toNat=4)↔(c.toNat=34∨c.toNat=40):=by
  unfold Sp.kL;constructor
  ·intro h;repeat' split at h
   all_goals simp_all
  ·rintro (h | h) <;> rw [h] <;> decide
 refine ⟨fun hb=>⟨a,rfl,fun H2 w16 hs16=>?_⟩,fun hb=>fun H2 w16 hs16=>?_⟩
 ·have h16:=h15.hst hs16
  refine ⟨_,zQ h16.rd,a,rfl,h16.rd.canW (i:=1) (by simp),h16.nH,?_⟩
  rintro w61 rfl
  rw [kH (show j≤(bts x).length by omega) (by have:=h.few;omega)]
  obtain ⟨_,h61⟩:=h16.to (kY h16.rd (j+1)) hj vE
  exact jKS hd hT hj hcj _ rfl hk0 h61 (by rw [if_neg (fun hh=>by have:=hk34.1 hh;simp at hb;omega)]) (by omega) hv
 ·exact jKS hd hT hj hcj _ rfl hk0 (h15.hst hs16) (by rw [if_pos (hk34.2 (by
   by_cases h1:c.toNat=34
   ·exact .inl h1
   ·right;rw [show (((c.toNat:Int)) != 34)=true by simp;omega] at hb;simp at hb;omega))]) (by omega) hv
set_option maxHeartbeats 2000000 in
theorem jEG (a:Addr) (x:ByteArray) (deep:Int) (i n:Nat) (w0:World) (h:Spk w0 a x i n) (hi:i≤(bts x).length) (hc:(bts x).length≤10000000) (R:Sp.Rt)
  (h1:(bts x)[Sp.jU (bts x) i]?=none→R=.no 3 (Sp.jU (bts x) i))
  (h2:∀c,(bts x)[Sp.jU (bts x) i]?=some c→Sp.kL c.toNat=0→R=.no 60 (Sp.jU (bts x) i))
  (h3:∀c,(bts x)[Sp.jU (bts x) i]?=some c→Sp.kL c.toNat≠0→(n=4096∨deep=64)→R=.no 52 (Sp.jU (bts x) i))
  (h4:∀c H w,(bts x)[Sp.jU (bts x) i]?=some c→Sp.kL c.toNat≠0→¬ (n=4096∨deep=64)→TS w0 w H a x (Sp.jU (bts x) i) n→m_F_j3 (some a) deep (c.toNat:Int) (Sp.kL c.toNat) w0 H w (KT w0 a x R)) :
  m_F (some a) deep w0 (KT w0 a x R):=by
 unfold m_F
 intro H1 w1 hs1
 have E1:=hs1.first
 have t1:TS w0 w1 H1 a x i n:=⟨h.pure E1,hi,E1.pure,h.lt,fun b hb=>⟨hs1.here.old b hb,hs1.here.lt b hb⟩,hc⟩
 refine (tN a x i n w1 t1.rd hi hc).mono ?_
 rintro _ w2 ⟨rfl,hr2,X2⟩
 have hbl:=Sp.kU hi
 generalize Sp.jU (bts x) i=j at *
 obtain ⟨k2,t2⟩:=t1.to hr2 hbl.2 X2
 refine ⟨rfl,k2,?_⟩
 refine (tO a x j n w2 t2.rd hbl.2).mono ?_
 rintro e w3 (⟨c,hcc,rfl,E3⟩ | ⟨hcc,rfl,E3⟩)
 ·have t3:TS w0 w3 H1 a x j n:=(t2.to (t2.rd.pure E3) hbl.2 E3.pure).2
  refine .inl ⟨_,rfl,E3.keptP,?_⟩
  intro p2 w4 n4
  have hp:=n4.at_size
  have E4:Pure w3 w4:=Ext.new n4
  have M4:BMap w4 p2.block []:=CMap.of_new n4
  have hH:∀b,H1 b→b≠p2.block:=fun b hb=>by have:=(t3.oH b hb).2;omega
  have kp:∀{w w':World},Ext (·=p2.block) w w'→Kept H1 w w':=fun X=>X.kept (fun b hb e=>hH b hb e)
  obtain ⟨w5,r5,M5,X5⟩:=vW M4 (k:=110) (v:=1) (by decide)
  obtain ⟨w6,r6,M6,X6⟩:=vW M5 (k:=35) (v:=2) (by decide)
  obtain ⟨w7,r7,M7,X7⟩:=vW M6 (k:=107) (v:=6) (by decide)
  obtain ⟨w8,r8,M8,X8⟩:=vW M7 (k:=34) (v:=3) (by decide)
  obtain ⟨w9,r9,M9,X9⟩:=vW M8 (k:=40) (v:=4) (by decide)
  obtain ⟨w10,r10,M10,X10⟩:=vW M9 (k:=104) (v:=5) (by decide)
  obtain ⟨w11,r11,M11,X11⟩:=vW M10 (k:=115) (v:=7) (by decide)
  obtain ⟨w12,r12,M12,X12⟩:=vW M11 (k:=112) (v:=8) (by decide)
  obtain ⟨w13,r13,M13,X13⟩:=vW M12 (k:=102) (v:=9) (by decide)
  have E13:Pure w3 w13:=E4.trans' (((((((((X5.trans X6).trans X7).trans X8).trans X9).trans X10).trans X11).trans X12).trans X13)) (fun b hb e=>by omega)
  have t13:TS w0 w13 H1 a x j n:=(t3.to (t3.rd.pure E13) hbl.2 E13.pure).2
  refine ⟨w5,r5,kp X5,w6,r6,kp X6,w7,r7,kp X7,w8,r8,kp X8,w9,r9,kp X9,w10,r10,kp X10,w11,r11,kp X11,w12,r12,kp X12,w13,r13,kp X13,_,jIT M13 c.toNat,fun hb=>⟨a,rfl,fun w14 hs14=>?_⟩,fun hb=>fun w14 hs14=>?_⟩
  ·have t14:=t13.hst hs14
   refine ⟨_,zQ t14.rd,?_⟩
   refine (kJ (some a) 60 j w14).mono ?_
   rintro _ w64 ⟨rfl,rfl⟩
   rw [h2 c hcc (by simpa using hb)]
   exact .inr ⟨_,rfl,uJ t14 (Ext.refl _)⟩
  ·have hk0:Sp.kL c.toNat≠0:=by simpa using hb
   have t14:=t13.hst hs14
   unfold m_F_j1
   refine ⟨a,rfl,_,spk_n t14.rd,fun H6 w63 hs63=>?_⟩
   have t63:=t14.hst hs63
   unfold m_F_j2
   refine ⟨fun hb=>?_,fun hb=>h4 c H6 w63 hcc hk0 (by simp at hb;omega) t63⟩
   refine ⟨a,rfl,_,zQ t63.rd,?_⟩
   refine (kJ (some a) 52 j w63).mono ?_
   rintro _ w64 ⟨rfl,rfl⟩
   rw [h3 c hcc hk0 (by simp at hb;omega)]
   exact .inr ⟨_,rfl,uJ t63 (Ext.refl _)⟩
 ·rw [h1 hcc]
  exact .inr ⟨_,rfl,uJ t2 E3.pure⟩
theorem jKH (a:Addr) (x:ByteArray) (hc:(bts x).length≤10000000):∀d,d≤64→jKO a x d:=by
 intro d;induction d with
 | zero =>
  intro _ i n w0 h hi hn hv
  refine (w_F (some a) (64 - ((0:Nat):Int)) w0 (KT w0 a x (Sp.jT (bts x) 0 i n)) ?_).mono ?_
  ·refine jEG a x _ i n w0 h hi hc _ (fun e=>?_) (fun c e hk=>?_) (fun c e hk _=>?_) (fun c H w e hk hh _=>absurd (.inr (by simp)) hh)
   ·unfold Sp.jT;rw [e]
   ·unfold Sp.jT;rw [e];simp only;rw [if_pos hk]
   ·unfold Sp.jT;rw [e];simp only;rw [if_neg hk]
  ·rintro e w' (⟨k,f,t,u,y,s,rfl,hh⟩ | ⟨ch,rfl,hh⟩) <;> exact hh
 | succ d ih =>
  intro hd i n w0 h hi hn hv
  refine (w_F (some a) (64 - ((d+1:Nat):Int)) w0 (KT w0 a x (Sp.jT (bts x) (d+1) i n)) ?_).mono ?_
  ·refine jEG a x _ i n w0 h hi hc _ (fun e=>?_) (fun c e hk=>?_) (fun c e hk hh=>?_) (fun c H w e hk hh ht=>?_)
   ·unfold Sp.jT;rw [e]
   ·unfold Sp.jT;rw [e];simp only;rw [if_pos hk]
   ·unfold Sp.jT;rw [e];simp only;rw [if_neg hk,if_pos (by omega)]
   ·have:=spk_j3 (by omega) (ih (by omega)) (Sp.jAS e) e hk ht (by omega) hv
    unfold Sp.jT;rw [e];simp only;rw [if_neg hk,if_neg (by omega)]
    exact this
  ·rintro e w' (⟨k,f,t,u,y,s,rfl,hh⟩ | ⟨ch,rfl,hh⟩) <;> exact hh
end Go.Proofs
end
section
namespace Go.SE
section
variable {P:Program} {n:Nat} {ρ:Env} {w:World} {ds:List Deferred} {Q:Exit→Act→World→Prop} {a:Act}
theorem lH {c1 c2:Code} (ha:Rep ds n ρ a)
  (h:wpE (x:=⟨none,ds⟩) P n c1 (fun e ρ' w'=>match e with | .normal=>∀a',Rep ds n ρ' a'→c2.wp P Q a' w' | .panic ch=>∀a',Rep ds n ρ' a'→Q (.panic ch) a' w' | _=>False) ρ w):(Code.seq c1 c2).wp P Q a w:=by
 refine wp_seq (wpIn_wide.1 (wpIn_mono (h a ha) ?_))
 rintro e a' w' ⟨ρ',⟨hr,hq⟩ | ⟨rfl,_,_,D,hr,hD,hq⟩⟩
 ·cases e <;> first | exact hq.elim | exact hq _ hr
 ·exact hq.elim
theorem jIX {c:Code} (ha:Rep ds n ρ a)
  (h:wpE (x:=⟨none,ds⟩) P n c (fun e ρ' w'=>match e with | .normal=>∀a',Rep ds n ρ' a'→Q .normal a' w' | .panic ch=>∀a',Rep ds n ρ' a'→Q (.panic ch) a' w' | _=>False) ρ w):c.wp P Q a w:=by
 refine wpIn_wide.1 (wpIn_mono (h a ha) ?_)
 rintro e a' w' ⟨ρ',⟨hr,hq⟩ | ⟨rfl,_,_,D,hr,hD,hq⟩⟩
 ·cases e <;> first | exact hq.elim | exact hq _ hr
 ·exact hq.elim
theorem jGN {id t:Nat} {f:FuncId} {caps:Array Operand} {ty ty':TypeId} {pos pos':String} {aft aft':Array Edge} {c2:Code} (ha:Rep ds n ρ a) (ht:t<n)
  (h:∀a',Rep (⟨.fn (.func f) (caps.map (evE ρ)),#[]⟩ :: ds) n (put ρ (some t) (.func (.func f) #[] (caps.map (evE ρ)))) a'→c2.wp P Q a' w) :
  (Code.seq (.region id #[⟨some t,.makeFunc (.func f) #[] caps,ty,pos,aft,none⟩,⟨none,.defer ⟨.value (.tmp t),#[],#[]⟩,ty',pos',aft',none⟩] false) c2).wp P Q a w:=by
 have h1:Rep ds n (put ρ (some t) (.func (.func f) #[] (caps.map (evE ρ)))) (a.put (some t) (.func (.func f) #[] (caps.map (evE ρ)))):=ha.put (fun k e=>by cases e;exact ht) _
 have h2:=h ({ (a.put (some t) (.func (.func f) #[] (caps.map (evE ρ)))) with defers:=⟨.fn (.func f) (caps.map (evE ρ)),#[]⟩ :: ds }.put none undef) ⟨rfl,h1.size,h1.get⟩
 refine wp_seq ((wpIn_wide (n:=0)).1 (wpIn_region_lit (l:=[_,_]) ?_))
 unfold wpListIn
 rw [if_pos (by simp [Region.wanted])]
 refine yS (ro:=none) ⟨by simp,?_⟩
 rw [ha.eval]
 simp only [execOp,Instr.makeFunc]
 show wpListIn _ 0 P _ _ _ _ _
 unfold wpListIn
 rw [if_pos (by simp [Region.wanted])]
 refine ⟨fun f _=>trivial,?_⟩
 have hev:(a.put (some t) (.func (.func f) #[] (caps.map (evE ρ)))).eval (.tmp t)=.func (.func f) #[] (caps.map (evE ρ)):=by
  rw [h1.eval];simp [evE,put,upd]
 have hd:=h1.defers
 simp [Oper.semAt,Fence.wide,execOp,resolve,hev,Deferred.ofValue,Oper.uponIn,wpListIn,Exit.then,hd]
 exact h2
theorem jCI {f:FuncId} {fn:Func} {c:Code} {args:List Value} {R:Ending→World→Prop} (hf:P.funcs[f]?=some fn) (hb:fn.body=some c) (hn:fn.ntmps=n) (hl:args.length≤n)
  (h:∀a,Rep [] n (jAT args) a→c.wp P (bodyPostD P fn R) a w):Calls P f args.toArray w R:=by
 subst hn;exact calls_of_wp_defers hf hb (h _ (xU args hl))
inductive Recov:FrameMode→Value→FrameMode→Prop
 | idle:Recov .returning .nilIface .returning
 | hit (v:Value) (older:List PanicEntry):Recov (.panicking ({ v:=v,recovered:=false } :: older)) v (.panicking ({ v:=v,recovered:=true } :: older))
def bodyEN (P:Program) (fn:Func) (n:Nat) (R:Ending→World→Prop):Exit→Env→World→Prop
 | .normal,ρ,w=>∃v,(∀ds a,Rep ds n ρ a→(results fn a.tmps).run P w=.ok v w)∧R (.returned v) w
 | .panic ch,_,w=>R (.panicked ch) w
 | _,_,_=>False
theorem uO {id t t2:Nat} {f:FuncId} {fn:Func} {c:Code} {args:List Value} {v:Value} {u u':FrameMode} {R:Ending→World→Prop} {ty ty':TypeId} {pos pos':String} {aft aft':Array Edge}
  (hu:Recov u v u') (hf:P.funcs[f]?=some fn)
  (hb:fn.body=some (Code.seq (.region id #[⟨some t,.call ⟨.builtin .recover,#[],#[]⟩,ty,pos,aft,none⟩,⟨some t2,.assign (.tmp t),ty',pos',aft',none⟩] false) c))
  (hn:fn.ntmps=n) (hl:args.length≤n) (ht:t<n) (ht2:t2<n)
  (h:wpE (x:=⟨none,[]⟩) P n c (bodyEN P fn n R) (put (put (jAT args) (some t) v) (some t2) v) w) :
  CallsD P f args.toArray u w (fun e u1 w'=>u1=u'∧R e w'):=by
 subst hn
 refine callsD_of_wpS hf hb fun c₀ cs hm=>?_
 apply wpS_seq
 apply wpS_region
 have hr:=xU args hl
 have h1:Rep [] fn.ntmps (put (jAT args) (some t) v) _:=hr.put (d:=some t) (fun k e=>by cases e;exact ht) v
 have h2:Rep [] fn.ntmps (put (put (jAT args) (some t) v) (some t2) v) _:=h1.put (d:=some t2) (fun k e=>by cases e;exact ht2) v
 have hv:((Act.mk (args.toArray++Array.replicate (fn.ntmps - args.toArray.size) undef) []).put (some t) v).eval (.tmp t)=v:=by
  rw [h1.eval];simp [evE,put,upd]
 have key:∀cs',cs'={ c₀ with mode:=u' } :: cs→c.wpS P (bodyPostS P fn c₀ cs fun e u1 w'=>u1=u'∧R e w') ((((Act.mk (args.toArray++Array.replicate (fn.ntmps - args.toArray.size) undef) []).put (some t) v)).put (some t2) v) cs' w:=by
  rintro cs' rfl;refine wpS_of_wp (jIX h2 (xP ?_ h));intro e ρ' w' hq;cases e with
  | normal =>
   intro a' ha'
   obtain ⟨x,hx,hR⟩:=hq
   exact ⟨ha'.defers,u',rfl,x,hx _ a' ha',rfl,hR⟩
  | panic ch =>
   intro a' ha'
   exact ⟨ha'.defers,u',rfl,rfl,hq⟩
  | _=>exact hq.elim
 have h0:(execOp (Act.mk (args.toArray++Array.replicate (fn.ntmps - args.toArray.size) undef) []).eval ⟨some t,.call ⟨.builtin .recover,#[],#[]⟩,ty,pos,aft,none⟩).run P w=.ok .recover w:=by
  simp [execOp,resolve,invoke,builtin]
 show wpOpsS P _ _ [0,1] _ _ _
 cases hu with
 | idle =>
  have hrd:recoverD (c₀ :: cs)=none:=by simp [recoverD,hm]
  simp only [wpOpsS,List.getElem?_toArray,List.getElem?_cons_zero,List.getElem?_cons_succ]
  rw [if_pos (by simp [Region.wanted]),h0]
  simp only [hrd]
  rw [if_pos (by simp [Region.wanted])]
  simp only [execOp,hv,Oper.upon]
  exact key _ (by cases c₀;simp_all)
 | hit v older =>
  have hrd:recoverD (c₀ :: cs)=some (v,{ c₀ with mode:=.panicking ({ v:=v,recovered:=true } :: older) } :: cs):=by simp [recoverD,hm]
  simp only [wpOpsS,List.getElem?_toArray,List.getElem?_cons_zero,List.getElem?_cons_succ]
  rw [if_pos (by simp [Region.wanted]),h0]
  simp only [hrd]
  rw [if_pos (by simp [Region.wanted])]
  simp only [execOp,hv,Oper.upon]
  exact key _ rfl
end
section
variable {P:Program} {x:Cx} {n:Nat} {Q:Exit→Env→World→Prop} {ρ:Env} {w:World}
theorem qC {ops:Array Oper} {Q':Env→World→Prop} {X:List PanicEntry→World→Prop} {I:Env→Prop} (hQ:∀ρ a w,Rep x.ds n ρ a→Q' ρ w→jFP x n Q .normal a w) (hX:∀ρ a ch w,Rep x.ds n ρ a→I ρ→X ch w→jFP x n Q (.panic ch) a w) :
  ∀(l:List Oper),(∀o∈l,∀ρ v,I ρ→I (put ρ o.dst v))→∀(ρ:Env) (a:Act) (w:World),vP n l=true→Rep x.ds n ρ a→I ρ→jAU P ops Q' X l ρ w→wpListIn (fen x.ro) 0 P ops (jFP x n Q) l a w
 | [],_,ρ,a,w,_,hr,_,h=>hQ _ _ _ hr h
 | o :: l,hI,ρ,a,w,hd,hr,hi,h=>by
  obtain ⟨hk,hd'⟩:=uU hd;have hI':∀o∈l,∀ρ v,I ρ→I (put ρ o.dst v):=fun o ho=>hI o (List.mem_cons_of_mem _ ho);have h0:=hI o (List.mem_cons_self ..);unfold jAU at h;unfold wpListIn;rw [hr.yielded];split
  ·rename_i hw;rw [if_pos hw] at h;apply yS;rw [hr.eval];exact lC h (fun v w' hh=>qC hQ hX l hI' _ _ _ hd' (hr.put hk v) (h0 _ _ hi) hh) (fun ch w' hh=>hX ρ a ch w' hr hi hh)
  ·rename_i hw;rw [if_neg hw] at h;exact ⟨fun f _=>tI x.ro f,qC hQ hX l hI' _ _ _ hd' (hr.put hk undef) (h0 _ _ hi) h⟩
theorem xA {id:Nat} {l:List Oper} (I:Env→Prop) (hI:∀o∈l,∀ρ v,I ρ→I (put ρ o.dst v)) (hi:I ρ) (hd:vP n l=true) (h:jAU P l.toArray (fun ρ w=>Q .normal ρ w) (fun ch w=>∀ρ,I ρ→Q (.panic ch) ρ w) l ρ w):wpE (x:=x) P n (.region id l.toArray false) Q ρ w:=fun a ha =>
 wpIn_region_lit (qC (I:=I) (fun ρ' _ _ hr hq=>⟨ρ',.inl ⟨hr,hq⟩⟩) (fun ρ' _ _ _ hr hi' hq=>⟨ρ',.inl ⟨hr,hq ρ' hi'⟩⟩) l hI ρ a w hd ha hi h)
theorem jGM {c:Code} {ds:List Deferred} {Q:Exit→Act→World→Prop} {a:Act} (hne:ds≠[]) (ha:Rep ds n ρ a)
  (h:wpE (x:=⟨none,ds⟩) P n c (fun e ρ' w'=>match e with | .normal=>∀a',Rep ds n ρ' a'→Q .normal a' w' | .ret=>∀a',Rep ds n ρ' a'→Q .ret a' w' | .panic ch=>∀a',Rep ds n ρ' a'→Q (.panic ch) a' w' | _=>False) ρ w):c.wp P Q a w:=by
 refine wpIn_wide.1 (wpIn_mono (h a ha) ?_)
 rintro e a' w' ⟨ρ',⟨hr,hq⟩ | ⟨rfl,_,h0,D,hr,hD,hq⟩⟩
 ·cases e <;> first | exact hq.elim | exact hq _ hr
 ·exact absurd h0 hne
end
end Go.SE
end
section
open Go Go.SE
namespace Go.Proofs
open Tryz
attribute [local irreducible] Calls CallsD
theorem jGK {P:Program} {ε:Operand→Value} {w:World} {d:Option Tmp} {ty:TypeId} {pos:String} {aft:Array Edge} {g:Option (Nat×Bool)} {x:Operand} {X T:TypeId} {v:Value} {td:TypeDesc} (hx:ε x=.iface T v) (ht:P.underlying T=some td) (hi:∀m,td≠.interface m) :
  (execOp ε ⟨d,.typeAssert x X T false,ty,pos,aft,g⟩).run P w=.ok (.value v) w:=by
 simp only [execOp,hx]
 have:(Instr.typeAssert (.iface T v) X T false).run P w=.ok v w:=by
  unfold Instr.typeAssert;simp only [Sem.run_bind,run_underlying ht,Result.andThen];cases td <;> first | exact absurd rfl (hi _) | simp
 simp [this]
theorem jIC {P:Program} {w:World} {f:FuncId} {cap args:Array Value} (hc:∀args w,(callFunc f args).run P w=.ok (.enter f args) w) (h:cap=args):(invoke (.fn (.func f) cap) #[]).run P w=.ok (.enter f args) w:=by
 subst h;simp [invoke,hc]
abbrev zeroT:List Value:=[.int .i64 0,.int .i64 0,.int .i64 0,.int .u64 0,.string ⟨#[]⟩,Sl.nil.v]
set_option maxRecDepth 100000 in
theorem jKK (p1 p2 p3:Addr) (w:World):CallsD prog 104 #[.pointer (some p1),.pointer (some p2),.pointer (some p3)] .returning w (fun e u' w'=>u'=.returning∧(e=.returned (.tuple #[])∧w'=w)):=by
 refine uO (args:=[.pointer (some p1),.pointer (some p2),.pointer (some p3)]) (R:=fun e w'=>e=.returned (.tuple #[])∧w'=w) .idle func104 rfl ntmps104 (Nat.le_of_ble_eq_true rfl) (by decide) (by decide) ?_;refine jB ?_;refine rg ?_;refine q0 .nilIface ?_;refine q0 (.bool false) ?_;refine jC ?_;refine jL ?_;refine zO (t:=false) (by kernel_rfl) (fun hc1=>by cases hc1) (fun hc1=>?_);refine jF ?_;exact ⟨.tuple #[],fun ds a ha=>by rw [results_none results104],rfl,rfl⟩
set_option maxRecDepth 100000 in
set_option maxHeartbeats 4000000 in
theorem jMF (cap1 cap2 cap3:Addr) (er at_:Int) (older:List PanicEntry) (w0:World) {c1 c2 c3:List Value} (B1:Box w0 cap1 c1 28) (l1:c1.length=6) (B2:Box w0 cap2 c2 33) (l2:c2.length=1) (B3:Box w0 cap3 c3 3) (l3:c3.length=1) (n12:cap1.block≠cap2.block) (n13:cap1.block≠cap3.block) (n23:cap2.block≠cap3.block) :
  CallsD prog 104 #[.pointer (some cap1),.pointer (some cap2),.pointer (some cap3)] (.panicking ({ v:=.iface 164 (.agg #[.int .i64 er,.int .i64 at_]),recovered:=false } :: older)) w0 (fun e' u' w'=>u'=.panicking ({ v:=.iface 164 (.agg #[.int .i64 er,.int .i64 at_]),recovered:=true } :: older) ∧
   (e'=.returned (.tuple #[])∧(Box w' cap1 zeroT 28∧Box w' cap2 [.int .i64 er] 33∧Box w' cap3 [.int .i64 at_] 3∧Ext (fun b=>b=cap1.block∨b=cap2.block∨b=cap3.block) w0 w'))):=by
 refine uO (args:=[.pointer (some cap1),.pointer (some cap2),.pointer (some cap3)]) (R:=fun e' w'=>e'=.returned (.tuple #[])∧(Box w' cap1 zeroT 28∧Box w' cap2 [.int .i64 er] 33∧Box w' cap3 [.int .i64 at_] 3∧Ext (fun b=>b=cap1.block∨b=cap2.block∨b=cap3.block) w0 w')) (.hit _ older) func104 rfl ntmps104 (Nat.le_of_ble_eq_true rfl) (by decide) (by decide) ?_
 have hs:=Hst.start w0
 have hb:=HB.nil None w0
 refine jB ?_
 refine rg ?_
 refine q0 (.iface 164 (.agg #[.int .i64 er,.int .i64 at_])) ?_
 refine q0 (.bool true) ?_
 refine jC ?_
 refine jL ?_
 refine kO (by kernel_rfl) ?_
 refine jB ?_
 refine rg ?_
 refine q0 (.iface 164 (.agg #[.int .i64 er,.int .i64 at_])) ?_
 refine q2 (.agg #[.int .i64 er,.int .i64 at_]) (jGK (by kernel_rfl) underlying164 (by intro m;simp)) ?_
 refine kP (O:=(.cells #[(.int .i64 0),(.int .i64 0)] 164)) (fun p=>.pointer (some p)) (jG rfl) (jW (zeroValue164 _) rfl) ?_
 intro p1 w1 hn1
 have hsb:=hs.alloc hb hn1
 clear hs hb hn1
 obtain ⟨H1,hs,hb⟩:=hsb
 refine zF (jG rfl) (qN (a:=p1) (vs:=[(.int .i64 er),(.int .i64 at_)]) (by kernel_rfl) (by kernel_rfl) rfl (sizeOf164 _) rfl (hb.canWs0 0 2 (gZ) (by kernel_rfl))) ?_
 intro w2 hn2
 have hsb:Hst w0 None w0 H1 w2∧HB H1 w2 [(p1,[(.int .i64 er),(.int .i64 at_)],164)]:=by
  rw [hn2];exact hb.store0 (i:=0) (vs:=[(.int .i64 er),(.int .i64 at_)]) hs (gZ) (by kernel_rfl) (by kernel_rfl)
 clear hs hb hn2
 obtain ⟨hs,hb⟩:=hsb
 have EA:=hs.first
 have hold:=hs.here.old
 refine jC ?_
 refine jL ?_
 replace hs:=hs.here
 refine vX (fun x=>HB H1 x [(p1,[(.int .i64 er),(.int .i64 at_)],164)]) [5,6,7] [7] (by kernel_rfl) (by kernel_rfl) (by kernel_rfl) (by kernel_rfl) hb.drew ?_
 intro w3 hw3
 replace hb:HB H1 w3 [(p1,[(.int .i64 er),(.int .i64 at_)],164)]:=by rw [hw3];exact hb.drew
 have E3:Pure w0 w3:=by rw [hw3];exact EA.trans (Ext.drew w2)
 clear hs hw3 EA
 have b1:=B1.pure E3
 have b2:=B2.pure E3
 have b3:=B3.pure E3
 have nh:∀b,b<w0.heap.size→¬ H1 b:=fun b hb hh=>by have:=hold b hh;omega
 refine qx 0 (.agg #[(.int .i64 0),(.int .i64 0),(.int .i64 0),(.int .u64 0),(.string (⟨#[]⟩:ByteArray)),Sl.nil.v]) Kp0 ?_
 refine qx 1 (.pointer (some p1)) Kp1 ?_
 refine qz 2 (.int .i64 er) Kp2 (fun w' hw'=>(oU (a:=p1) (by kernel_rfl) (isAgg33 _) (hw'.cell0 0 (gZ) (by kernel_rfl)))) ?_
 refine qx 3 (.pointer (some (p1.add 1))) Kp3 ?_
 refine qz 4 (.int .i64 at_) Kp4 (fun w' hw'=>(oU (a:=(p1.add 1)) (by kernel_rfl) (isAgg3 _) (hw'.cell 0 1 (gZ) (by kernel_rfl)))) ?_
 refine lgo (k:=5) (by kernel_rfl) ?_
 refine jBF Kp5 (jG rfl) (by kernel_rfl) (qN (a:=cap1) (vs:=zeroT) (by kernel_rfl) (by kernel_rfl) rfl (sizeOf28 _) rfl (b1.canWs (by rw [l1];decide))) ?_
 intro w4 hn3
 have X4:Ext (·=cap1.block) w3 w4:=by rw [hn3];exact Ext.storeRow _ _ _
 have d1:Box w4 cap1 zeroT 28:=by rw [hn3];exact b1.store (by rw [l1];rfl)
 have d2:=b2.ext X4 (fun e=>n12 e.symm)
 have d3:=b3.ext X4 (fun e=>n13 e.symm)
 have hk:Kept H1 w3 w4:=X4.kept (fun b hb e=>nh b (e▸B1.lt) hb)
 refine ⟨.inr (hb.kept hk),?_⟩
 replace hb:=hb.kept hk
 clear hk hn3
 refine lgo (k:=6) (by kernel_rfl) ?_
 refine jBF Kp6 (jG rfl) (by kernel_rfl) (zY (a:=cap2) (v:=(.int .i64 er)) (by kernel_rfl) (by kernel_rfl) rfl (sizeOf33 _) (d2.canW0 (by omega))) ?_
 intro w5 hn4
 have X5:Ext (·=cap2.block) w4 w5:=by rw [hn4];exact Ext.setCell _ _
 obtain ⟨v2,rfl⟩:∃v,c2=[v]:=List.length_eq_one_iff.1 l2
 obtain ⟨v3,rfl⟩:∃v,c3=[v]:=List.length_eq_one_iff.1 l3
 have e2:Box w5 cap2 [.int .i64 er] 33:=by rw [hn4];exact d2.set0
 have e1:=d1.ext X5 n12
 have e3:=d3.ext X5 (fun e=>n23 e.symm)
 have hk:Kept H1 w4 w5:=X5.kept (fun b hb e=>nh b (e▸B2.lt) hb)
 refine ⟨.inr (hb.kept hk),?_⟩
 replace hb:=hb.kept hk
 clear hk hn4
 refine lgo (k:=7) (by kernel_rfl) ?_
 refine jBF Kp7 (jG rfl) (by kernel_rfl) (zY (a:=cap3) (v:=(.int .i64 at_)) (by kernel_rfl) (by kernel_rfl) rfl (sizeOf3 _) (e3.canW0 (by simp))) ?_
 intro w6 hn5
 have X6:Ext (·=cap3.block) w5 w6:=by rw [hn5];exact Ext.setCell _ _
 refine ⟨.inl (by kernel_rfl),?_⟩
 refine jGL (by kernel_rfl) ?_
 refine ⟨.tuple #[],fun ds a ha=>by rw [results_none results104],rfl,e1.ext X6 n13,e2.ext X6 n23,by rw [hn5];exact e3.set0,?_⟩
 exact ((E3.pure.trans (X4.mono (fun _ _ h=>.inl h))).trans (X5.mono (fun _ _ h=>.inr (.inl h)))).trans (X6.mono (fun _ _ h=>.inr (.inr h)))
theorem vO {w w':World} (h:ErrV w) (E:Pure w w'):ErrV w':=by
 obtain ⟨tp,p,h⟩:=h;refine ⟨tp,p,?_⟩;unfold World.var? at *;cases hg : prog.globalNamed "strconv.ErrRange" with
 | none=>simp [hg] at h
 | some g =>
  simp only [hg,Option.bind_some] at h ⊢
  cases hh:w.heap[g]? with
  | none=>simp [hh] at h
  | some o=>rw [E.heap hh id];rw [hh] at h;exact h
def jCX (w0:World) (R:Sp.Tree×Int×Int) (e:Ending) (w':World):Prop:=∃s:Sl,e=.returned (.tuple #[.agg (kK R.1 s).toArray,.int .i64 R.2.1,.int .i64 R.2.2])∧TreeAt (fun b=>w0.heap.size≤b∧b<w'.heap.size) w' s R.1∧Pure w0 w'
theorem jDM {ρ:Env} {w:World} {p1 p2 p3:Addr} {vs:List Value} {a b:Int} (h2:ρ 2=.pointer (some p1)) (h3:ρ 3=.pointer (some p2)) (h4:ρ 4=.pointer (some p3)) (B1:Box w p1 vs 28) (hl:vs.length=6) (B2:Box w p2 [.int .i64 a] 33) (B3:Box w p3 [.int .i64 b] 3) :
  RVs prog ρ w [.cell 2 28,.cell 3 33,.cell 4 3] [.agg vs.toArray,.int .i64 a,.int .i64 b] :=
 ⟨RV.cellA (A:=p1) (vs:=vs) h2 (isAgg28 _) (sizeOf28 _) hl B1.row,RV.cell1 (A:=p2) h3 (isAgg33 _) B2.cell0,RV.cell1 (A:=p3) h4 (isAgg3 _) B3.cell0,trivial⟩
set_option maxRecDepth 100000 in
set_option maxHeartbeats 4000000 in
theorem jCJ (x:ByteArray) (w0:World) (h:1048576<x.size):Calls prog 53 #[.string x] w0 (fun e w'=>jCX w0 (Sp.jDQ,1,0) e w'):=by
 refine xI (args:=[(.string x)]) func53 rfl ntmps53 (Nat.le_of_ble_eq_true rfl) ?_;refine jB ?_;refine rg ?_;refine kP (O:=(.cells #[(.int .i64 0),(.int .i64 0),(.int .i64 0),(.int .u64 0),(.string (⟨#[]⟩:ByteArray)),Sl.nil.v] 28)) (fun p=>.pointer (some p)) (jG rfl) (jW (zeroValue28 _) rfl) ?_;intro p1 w1 n1;refine kP (O:=(.cells #[(.int .i64 0)] 33)) (fun p=>.pointer (some p)) (jG rfl) (jW (zeroValue33 _) rfl) ?_;intro p2 w2 n2;refine kP (O:=(.cells #[(.int .i64 0)] 3)) (fun p=>.pointer (some p)) (jG rfl) (jW (zeroValue3 _) rfl) ?_;intro p3 w3 n3;have E1:Pure w0 w1:=Ext.new n1;have E2:Pure w1 w2:=Ext.new n2;have E3:Pure w2 w3:=Ext.new n3;have y1:=n1.at_size;have y2:=n2.at_size;have y3:=n3.at_size;have z1:=E1.size;have z2:=E2.size;have l1:=(Box.of_newA n1).lt;have l2:=(Box.of_newA n2).lt;have B1:=((Box.of_newA n1).pure E2).pure E3;have B2:=(Box.of_newA n2).pure E3;have B3:=Box.of_newA n3;refine jC ?_;refine jL ?_;refine jB ?_;refine jB ?_;refine rg ?_;refine q0 (.string x) ?_;refine q0 (.int .i64 (x.size:Int)) ?_;refine q0 (.bool (decide ((x.size:Int)>1048576))) ?_;refine jC ?_;refine jL ?_;refine zO (t:=(decide ((x.size:Int)>1048576))) (by kernel_rfl) (fun hc1=>?_) (fun hc1=>absurd h (by have:=of_decide_eq_false hc1;omega));refine jB ?_;refine rg ?_;refine q2 (.agg #[(.int .i64 0),(.int .i64 0),(.int .i64 0),(.int .u64 0),(.string (⟨#[]⟩:ByteArray)),Sl.nil.v]) (tW (a:=p1) (vs:=zeroT) (by kernel_rfl) (isAgg28 _) (sizeOf28 _) rfl B1.row) ?_;refine zF (jG rfl) (qN (a:=p1) (vs:=zeroT) (by kernel_rfl) (by kernel_rfl) rfl (sizeOf28 _) rfl (B1.canWs (by decide))) ?_;intro w4 hn4;have X4:Ext (·=p1.block) w3 w4:=by rw [hn4];exact Ext.storeRow _ _ _
 have C1:Box w4 p1 zeroT 28:=by rw [hn4];exact B1.store (by rfl)
 have C2:=B2.ext X4 (fun e=>by omega);have C3:=B3.ext X4 (fun e=>by omega);refine zF (jG rfl) (zY (a:=p2) (v:=(.int .i64 1)) (by kernel_rfl) (by kernel_rfl) rfl (sizeOf33 _) (C2.canW0 (by simp))) ?_;intro w5 hn5;have X5:Ext (·=p2.block) w4 w5:=by rw [hn5];exact Ext.setCell _ _
 have D2:Box w5 p2 [.int .i64 1] 33:=by rw [hn5];exact C2.set0
 have D1:=C1.ext X5 (fun e=>by omega);have D3:=C3.ext X5 (fun e=>by omega);refine zF (jG rfl) (zY (a:=p3) (v:=(.int .i64 0)) (by kernel_rfl) (by kernel_rfl) rfl (sizeOf3 _) (D3.canW0 (by simp))) ?_;intro w6 hn6;have X6:Ext (·=p3.block) w5 w6:=by rw [hn6];exact Ext.setCell _ _
 have F3:Box w6 p3 [.int .i64 0] 3:=by rw [hn6];exact D3.set0
 have F1:=D1.ext X6 (fun e=>by omega);have F2:=D2.ext X6 (fun e=>by omega);refine jC ?_;refine jL ?_;refine jDE ?_;refine zM ?_;refine uD (v:=.tuple #[.agg zeroT.toArray,.int .i64 1,.int .i64 0]) (.inl rfl) results53 (jDM (by kernel_rfl) (by kernel_rfl) (by kernel_rfl) F1 rfl F2 F3) (by kernel_rfl) ?_;refine ⟨Sl.nil,rfl,TreeAt.leaf,?_⟩;exact ((((E1.trans E2).trans E3).trans' X4 (fun b hb e=>by omega)).trans' X5 (fun b hb e=>by omega)).trans' X6 (fun b hb e=>by omega)
set_option maxRecDepth 100000 in
set_option maxHeartbeats 8000000 in
theorem jAN (x:ByteArray) (w0:World) (h:x.size≤1048576) (hv:ErrV w0):Calls prog 53 #[.string x] w0 (fun e w'=>jCX w0 (Sp.lQ (bts x)) e w'):=by
 have hx:=kR x;refine jCI (args:=[.string x]) func53 rfl ntmps53 (Nat.le_of_ble_eq_true rfl) ?_;intro a ha;refine lH ha ?_;refine rg ?_;refine kP (O:=(.cells #[(.int .i64 0),(.int .i64 0),(.int .i64 0),(.int .u64 0),(.string (⟨#[]⟩:ByteArray)),Sl.nil.v] 28)) (fun p=>.pointer (some p)) (jG rfl) (jW (zeroValue28 _) rfl) ?_;intro p1 w1 n1;refine kP (O:=(.cells #[(.int .i64 0)] 33)) (fun p=>.pointer (some p)) (jG rfl) (jW (zeroValue33 _) rfl) ?_;intro p2 w2 n2;refine kP (O:=(.cells #[(.int .i64 0)] 3)) (fun p=>.pointer (some p)) (jG rfl) (jW (zeroValue3 _) rfl) ?_;intro p3 w3 n3;have E1:Pure w0 w1:=Ext.new n1;have E2:Pure w1 w2:=Ext.new n2;have E3:Pure w2 w3:=Ext.new n3;have y1:=n1.at_size;have y2:=n2.at_size;have y3:=n3.at_size;have z1:=E1.size;have z2:=E2.size;have l1:=(Box.of_newA n1).lt;have l2:=(Box.of_newA n2).lt;have B1:=((Box.of_newA n1).pure E2).pure E3;have B2:=(Box.of_newA n2).pure E3;have B3:=Box.of_newA n3;refine jC ?_;clear ha;intro a ha;refine lH ha ?_;refine jB ?_;refine rg ?_;refine q0 (.string x) ?_;refine q0 (.int .i64 (x.size:Int)) ?_;refine q0 (.bool (decide ((x.size:Int)>1048576))) ?_;refine jC ?_;refine jL ?_;refine zO (t:=(decide ((x.size:Int)>1048576))) (by kernel_rfl) (fun hc1=>absurd h (by have:=of_decide_eq_true hc1;omega)) (fun hc1=>?_);refine jF ?_;clear ha;intro a ha;refine jGN ha (by decide) ?_;clear ha;intro a ha;refine lH ha ?_;refine rg ?_;refine q0 (.string x) ?_;refine q0 (.agg #[(.string x),(.int .i64 0),(.int .i64 0)]) ?_;refine kP (O:=(.cells #[(.string x),(.int .i64 0),(.int .i64 0)] 167)) (fun p=>.pointer (some p)) (jG rfl) (x_box (cs:=#[(.string x),(.int .i64 0),(.int .i64 0)]) (by kernel_rfl)) ?_;intro p4 w4 n4;refine q0 (.pointer (some p4)) ?_;have E4:Pure w3 w4:=Ext.new n4;have y4:=n4.at_size;have z3:=E3.size;have l3:=B3.lt;have R4:Spk w4 p4 x 0 0:=Box.of_newA n4;have C1:=B1.pure E4;have C2:=B2.pure E4;have C3:=B3.pure E4;have E04:Pure w0 w4:=((E1.trans E2).trans E3).trans E4;have hK:jKP w4 p4:=fun w E=>vO hv (E04.trans' E (fun b hb e=>by omega));refine jC ?_;clear ha;intro a ha;refine jGM (by simp) ha ?_;refine jB ?_;refine xA (fun ρ=>ρ 2=.pointer (some p1)∧ρ 3=.pointer (some p2)∧ρ 4=.pointer (some p3)) ?_ ⟨by kernel_rfl,by kernel_rfl,by kernel_rfl⟩ (by kernel_rfl) ?_
 ·intro o ho ρ v hh;simp only [List.mem_cons,List.not_mem_nil,or_false] at ho;rcases ho with rfl | rfl | rfl <;> exact hh
 refine jP 1 ?_;refine q0 (.pointer (some p4)) ?_;refine jC ?_;have hT:=jKH p4 x (by omega) 64 (Nat.le_refl _) 0 0 w4 R4 (Nat.zero_le _) (by omega) hK;refine zC (jG rfl) (by intro c hc;cases hc) (lE (args:=#[(.pointer (some p4)),(.int .i64 0)]) call105 (by kernel_rfl)) (hT.mono ?_);clear hT;intro e w5;have hok:=Sp.yT (bts x) 64 0 0 (Nat.zero_le _);unfold Sp.lQ;generalize Sp.jT (bts x) 64 0 0=R at *;have hit:∀(er:Int) (i:Nat) (w5:World) (c1 c2 c3:List Value),Box w5 p1 c1 28→c1.length=6→Box w5 p2 c2 33→c2.length=1→Box w5 p3 c3 3→c3.length=1→Pure w0 w5→∀(ρ':Env),ρ' 2=.pointer (some p1)→ρ' 3=.pointer (some p2)→ρ' 4=.pointer (some p3)→∀ds,ds=([⟨.fn (.func 104) #[.pointer (some p1),.pointer (some p2),.pointer (some p3)],#[]⟩]:List Deferred)→∀a',Rep ds 30 ρ' a'→bodyPostD prog f53 (fun e w'=>jCX w0 (Sp.jDQ,er,(i:Int)) e w') (.panic (flt er i)) a' w5:=by
  intro er i w5 c1 c2 c3 D1 k1 D2 k2 D3 k3 E5 ρ' h2 h3 h4 ds hds a' ha';subst hds;show Leaves _ _ _ _ _ _ _;rw [ha'.defers];refine leaves_cons (f:=104) (args:=#[.pointer (some p1),.pointer (some p2),.pointer (some p3)]) (by simp) (jIC call104 rfl) ?_;refine (jMF p1 p2 p3 er (i:Int) [] w5 D1 k1 D2 k2 D3 k3 (by omega) (by omega) (by omega)).mono ?_;rintro e u' w6 ⟨rfl,rfl,F1,F2,F3,X6⟩;refine ⟨_,uS (v:=.tuple #[.agg zeroT.toArray,.int .i64 er,.int .i64 (i:Int)]) results53 (jDM h2 h3 h4 F1 rfl F2 F3) ha' (by kernel_rfl),Sl.nil,rfl,TreeAt.leaf,E5.trans' X6 (fun b hb e=>by omega)⟩
 cases R with
 | no er i =>
  rintro ⟨rfl,X⟩
  refine .inr ⟨_,rfl,fun ρ' hI=>?_⟩
  intro a' ha'
  exact hit er i w5 _ _ _ (C1.ext X (by omega)) rfl (C2.ext X (by omega)) rfl (C3.ext X (by omega)) rfl (E04.trans' X (fun b hb e=>by omega)) ρ' hI.1 hI.2.1 hI.2.2 _ (by kernel_rfl) a' ha'
 | ok t j =>
  rintro ⟨s,rfl,hTr,R5,X5⟩
  refine .inl ⟨_,rfl,?_⟩
  obtain ⟨g1,g2⟩:=hok t j rfl
  have D1:=C1.ext X5 (by omega)
  have D2:=C2.ext X5 (by omega)
  have D3:=C3.ext X5 (by omega)
  have E05:Pure w0 w5:=E04.trans' X5 (fun b hb e=>by omega)
  have z4:=E4.size
  have l4:=R4.lt
  have hS:∀b,(w4.heap.size≤b∧b<w5.heap.size)→b≠p1.block∧b≠p2.block∧b≠p3.block:=fun b hb=>by omega
  obtain ⟨⟨k,f,to,u,y,ks⟩,nn⟩:=t
  refine zK ?_
  refine zF (jG rfl) (qN (a:=p1) (vs:=[.int .i64 k,.int .i64 f,.int .i64 to,.int .u64 u,.string y,s.v]) (by kernel_rfl) (by kernel_rfl) rfl (sizeOf28 _) rfl (D1.canWs (by simp))) ?_
  intro w6 hn6
  have X6:Ext (·=p1.block) w5 w6:=by rw [hn6];exact Ext.storeRow _ _ _
  have F1:Box w6 p1 [.int .i64 k,.int .i64 f,.int .i64 to,.int .u64 u,.string y,s.v] 28:=by rw [hn6];exact D1.store (by rfl)
  have F2:=D2.ext X6 (fun e=>by omega)
  have F3:=D3.ext X6 (fun e=>by omega)
  have R6:=R5.ext X6 (fun e=>by omega)
  have T6:=hTr.ext X6 (fun b hb=>(hS b hb).1)
  have E06:Pure w0 w6:=E05.trans' X6 (fun b hb e=>by omega)
  clear hn6
  refine jC ?_
  refine jL ?_
  have fin : ∀ (ρ' : Env) (w13 : World), ρ' 2 = .pointer (some p1) → ρ' 3 = .pointer (some p2) → ρ' 4 = .pointer (some p3) → Box w13 p1 [.int .i64 k, .int .i64 f, .int .i64 to, .int .u64 u, .string y, s.v] 28 → Box w13 p2 [.int .i64 0] 33 → Box w13 p3 [.int .i64 0] 3 → TreeAt (fun b => w4.heap.size ≤ b ∧ b < w5.heap.size) w13 s (.mk k f to u y ks) → Pure w0 w13 → w5.heap.size ≤ w13.heap.size → ¬ j < (bts x).length →
    ∀ds,ds=([⟨.fn (.func 104) #[.pointer (some p1),.pointer (some p2),.pointer (some p3)],#[]⟩]:List Deferred)→∀a',Rep ds 30 ρ' a'→bodyPostD prog f53 (fun e w'=>jCX w0 (if j<(bts x).length then (Sp.jDQ,4,(j:Int)) else (.mk k f to u y ks,0,0)) e w') .ret a' w13:=by
   intro ρ' w13 h2 h3 h4 G1 G2 G3 T13 E13 z13 hj ds hds a' ha'
   subst hds
   show Leaves _ _ _ _ _ _ _
   rw [ha'.defers]
   refine leaves_cons (f:=104) (args:=#[.pointer (some p1),.pointer (some p2),.pointer (some p3)]) (by simp) (jIC call104 rfl) ?_
   refine (jKK p1 p2 p3 w13).mono ?_
   rintro e u' w14 ⟨rfl,rfl,rfl⟩
   refine ⟨_,uS (v:=.tuple #[.agg #[.int .i64 k,.int .i64 f,.int .i64 to,.int .u64 u,.string y,s.v],.int .i64 0,.int .i64 0]) results53 (jDM h2 h3 h4 G1 rfl G2 G3) ha' (by kernel_rfl),?_⟩
   rw [if_neg hj]
   exact ⟨s,rfl,T13.mono (fun b hb=>⟨by omega,by omega⟩),E13⟩
  refine jB ?_
  refine jB ?_
  refine rg ?_
  refine q0 (.pointer (some p4)) ?_
  refine q0 (.pointer (some p4)) ?_
  refine q0 (.pointer (some (p4.add 1))) ?_
  refine q2 (.int .i64 (j:Int)) (oU (a:=(p4.add 1)) (by kernel_rfl) (isAgg3 _) (zQ R6)) ?_
  refine q0 (.string x) ?_
  refine q0 (.int .i64 (x.size:Int)) ?_
  refine q0 (.bool (decide ((j:Int)<(x.size:Int)))) ?_
  refine jC ?_
  refine jL ?_
  refine zO (t:=(decide ((j:Int)<(x.size:Int)))) (by kernel_rfl) (fun hc2=>?_) (fun hc2=>?_)
  ·have hj:j<(bts x).length:=by have:=of_decide_eq_true hc2;omega
   refine xA (fun ρ=>ρ 2=.pointer (some p1)∧ρ 3=.pointer (some p2)∧ρ 4=.pointer (some p3)) ?_ ⟨by kernel_rfl,by kernel_rfl,by kernel_rfl⟩ (by kernel_rfl) ?_
   ·intro o ho ρ v hh
    simp only [List.mem_cons,List.not_mem_nil,or_false] at ho
    rcases ho with rfl | rfl | rfl | rfl | rfl | rfl <;> exact hh
   refine jP 5 ?_
   refine q0 (.pointer (some p4)) ?_
   refine q0 (.pointer (some p4)) ?_
   refine q0 (.pointer (some p4)) ?_
   refine q0 (.pointer (some (p4.add 1))) ?_
   refine q2 (.int .i64 (j:Int)) (oU (a:=(p4.add 1)) (by kernel_rfl) (isAgg3 _) (zQ R6)) ?_
   refine jC ?_
   refine zC (jG rfl) (by intro c hc;cases hc) (lE (args:=#[(.pointer (some p4)),(.int .i64 4),(.int .i64 (j:Int))]) call106 (by kernel_rfl)) ((kJ (some p4) 4 (j:Int) w6).mono ?_)
   rintro e w7 ⟨rfl,rfl⟩
   refine .inr ⟨_,rfl,fun ρ' hI=>?_⟩
   intro a' ha'
   simp only
   rw [if_pos hj]
   exact hit 4 j _ _ _ _ F1 rfl F2 rfl F3 rfl E06 ρ' hI.1 hI.2.1 hI.2.2 _ (by kernel_rfl) a' ha'
  ·have hj:¬ j<(bts x).length:=by have:=of_decide_eq_false hc2;omega
   refine jF ?_
   refine jL ?_
   refine jB ?_
   refine rg ?_
   refine q2 (.agg #[.int .i64 k,.int .i64 f,.int .i64 to,.int .u64 u,.string y,s.v]) (tW (a:=p1) (vs:=[.int .i64 k,.int .i64 f,.int .i64 to,.int .u64 u,.string y,s.v]) (by kernel_rfl) (isAgg28 _) (sizeOf28 _) rfl F1.row) ?_
   refine zF (jG rfl) (qN (a:=p1) (vs:=[.int .i64 k,.int .i64 f,.int .i64 to,.int .u64 u,.string y,s.v]) (by kernel_rfl) (by kernel_rfl) rfl (sizeOf28 _) rfl (F1.canWs (by simp))) ?_
   intro w8 hn8
   have X8:Ext (·=p1.block) w6 w8:=by rw [hn8];exact Ext.storeRow _ _ _
   have G1:Box w8 p1 [.int .i64 k,.int .i64 f,.int .i64 to,.int .u64 u,.string y,s.v] 28:=by rw [hn8];exact F1.store (by rfl)
   have G2:=F2.ext X8 (fun e=>by omega)
   have G3:=F3.ext X8 (fun e=>by omega)
   refine zF (jG rfl) (zY (a:=p2) (v:=(.int .i64 0)) (by kernel_rfl) (by kernel_rfl) rfl (sizeOf33 _) (G2.canW0 (by simp))) ?_
   intro w9 hn9
   have X9:Ext (·=p2.block) w8 w9:=by rw [hn9];exact Ext.setCell _ _
   have I2:Box w9 p2 [.int .i64 0] 33:=by rw [hn9];exact G2.set0
   have I1:=G1.ext X9 (fun e=>by omega)
   have I3:=G3.ext X9 (fun e=>by omega)
   refine zF (jG rfl) (zY (a:=p3) (v:=(.int .i64 0)) (by kernel_rfl) (by kernel_rfl) rfl (sizeOf3 _) (I3.canW0 (by simp))) ?_
   intro w10 hn10
   have X10:Ext (·=p3.block) w9 w10:=by rw [hn10];exact Ext.setCell _ _
   have J3:Box w10 p3 [.int .i64 0] 3:=by rw [hn10];exact I3.set0
   have J1:=I1.ext X10 (fun e=>by omega)
   have J2:=I2.ext X10 (fun e=>by omega)
   have T10:=((T6.ext X8 (fun b hb=>(hS b hb).1)).ext X9 (fun b hb=>(hS b hb).2.1)).ext X10 (fun b hb=>(hS b hb).2.2)
   have E10:Pure w0 w10:=((E06.trans' X8 (fun b hb e=>by omega)).trans' X9 (fun b hb e=>by omega)).trans' X10 (fun b hb e=>by omega)
   refine jC ?_
   refine jL ?_
   refine jDE ?_
   intro a' ha'
   exact fin _ w10 (by kernel_rfl) (by kernel_rfl) (by kernel_rfl) J1 J2 J3 T10 E10 (by have:=X6.size;have:=X8.size;have:=X9.size;have:=X10.size;omega) hj _ (by kernel_rfl) a' ha'
theorem xX (x:ByteArray) (w0:World) (hv:ErrV w0):Calls prog 53 #[.string x] w0 (fun e w'=>jCX w0 (Sp.kZ (bts x)) e w'):=by
 have hx:=kR x;unfold Sp.kZ;by_cases h:1048576<(bts x).length
 ·rw [if_pos h];exact jCJ x w0 (by omega)
 ·rw [if_neg h];exact jAN x w0 (by omega) hv
theorem jCX.un {w0 w':World} {R:Sp.Tree×Int×Int} {e:Ending} (h:jCX w0 R e w'):∃k f t u y ks s,R.1=.mk k f t u y ks∧e=.returned (.tuple #[.agg #[.int .i64 k,.int .i64 f,.int .i64 t,.int .u64 u,.string y,s.v],.int .i64 R.2.1,.int .i64 R.2.2])∧TreeAt (fun b=>w0.heap.size≤b∧b<w'.heap.size) w' s (.mk k f t u y ks)∧Pure w0 w':=by
 obtain ⟨⟨k,f,t,u,y,ks⟩,a,b⟩:=R;obtain ⟨s,rfl,hT,E⟩:=h;exact ⟨k,f,t,u,y,ks,s,rfl,rfl,hT,E⟩
theorem jHK {w0 w w':World} {H:NP} {s:Sl} {t:Sp.Tree} (h:TreeAt (fun b=>w.heap.size≤b∧b<w'.heap.size) w' s t) (E:Pure w0 w) (hH:∀b,H b→b<w.heap.size):TT w0 w' H s t:=TT.of h E.size hH
theorem gN {w0 w w':World} {H:NP} {s:Sl} {t:Sp.Tree} (h:TT w0 w H s t) (E:Pure w w'):TT w0 w' H s t:=(TreeAt.pure h E).mono (fun b hb=>⟨hb.1,by have:=E.size;omega,hb.2.2⟩)
end Go.Proofs
end
section
open Go Go.SE
open Go.IntKind renaming i64 → q6
namespace Go.Proofs
open Tryz
set_option maxRecDepth 100000
set_option maxHeartbeats 4000000
attribute [local irreducible] wpL wpX opE wpE Calls
def m_V2 (aY aZ:Int) (bA bB:Int) (bC:ByteArray) (bD:Sl) (bE bF:Int) (bG bH:Int) (bI:ByteArray) (bJ:Sl) (w0:World) (K:Int→Int→Int→Int→ByteArray→Sl→WP):Prop :=∀H3 w3,Hst w0 None w0 H3 w3→∀p4 w4,New w3 (.cells #[(vi aY),(vi aZ),(vi bA),(vu bB),(vs bC),bD.v,(vi bE),(vi bF),(vi bG),(vu bH),(vs bI),bJ.v] 28) p4 w4→∀w5,Hst w0 H3 w4 H3 w5→K 4 0 0 0 ⟨#[]⟩ (Sl.mk (some p4) 2 2) w5
theorem w_V2 (aY aZ bA bB bC bD bE bF bG bH bI bJ w0 K) (h:m_V2 aY aZ bA bB bC bD bE bF bG bH bI bJ w0 K):
  Calls prog 51 #[(.agg #[(vi aY),(vi aZ),(vi bA),(vu bB),(vs bC),bD.v]),(.agg #[(vi bE),(vi bF),(vi bG),(vu bH),(vs bI),bJ.v])] w0 (fun e w'=>∃aG aH aI aJ aK aL,e=.returned (Ab aG aH aI aJ aK aL)∧K aG aH aI aJ aK aL w'):=by
 refine cw (args:=[(Ab aY aZ bA bB bC bD),(Ab bE bF bG bH bI bJ)]) func51 ntmps51 ?_
 obtain ⟨hs,hb⟩:=st0 w0
 refine eg (nw3 (Aa aY aZ bA bB bC bD) 28 hs hb xb fun p1 w1 H1 hs hb=>nw3 (Aa bE bF bG bH bI bJ) 28 hs hb xb fun p2 w2 H2 hs hb=>nw3 [(vi 0),(vi 0),(vi 0),(vu 0),ve,Sl.nil.v] 28 hs hb (jW (zeroValue28 _) rfl) fun p3 w3 H3 hs hb=>ln (eg (q2 (Ab aY aZ bA bB bC bD) (xa p1 (Aa aY aZ bA bB bC bD) (isAgg28 _) (sizeOf28 _) (hb.r0 2 6 (gS (gS gZ)))) (q2 (Ab bE bF bG bH bI bJ) (xa p2 (Aa bE bF bG bH bI bJ) (isAgg28 _) (sizeOf28 _) (hb.r0 1 6 (gS gZ))) ?_))))
 have ⟨h,hs⟩:=hs.hr (h H3 w3)
 refine nw5 (fun p=>(Sl.mk (some p) 2 2).v) hs hb h fun p4 w4 hs hb h=>q (zF (jG rfl) (xo p3 [(vi 4),(vi 0),(vi 0),(vu 0),ve,(Sl.mk (some p4) 2 2).v] (sizeOf28 _) (hb.k0 0 6 gZ)) ?_)
 intro w5 hn4
 obtain ⟨hs,hb⟩:=hb.st1 0 hs hn4 gZ
 refine ln (er ?_)
 have ⟨h,hs⟩:=hs.hr (h w5)
 refine uD (.inl rfl) (vs:=[(.agg #[(vi 4),(vi 0),(vi 0),(vu 0),ve,(Sl.mk (some p4) 2 2).v])]) (v:=(.agg #[(vi 4),(vi 0),(vi 0),(vu 0),ve,(Sl.mk (some p4) 2 2).v])) results51 ⟨(rva (isAgg28 _) (sizeOf28 _) (hb.r0 0 6 gZ)),trivial⟩ (by kernel_rfl) ⟨4,0,0,0,⟨#[]⟩,(Sl.mk (some p4) 2 2),rfl,h⟩
def s_X (e1:Int):Int :=e1
theorem pw_X (e1:Int) (w0:World) :
  Calls prog 15 #[(vi e1)] w0 (fun e w'=>(e=.returned (vi e1))∧Pure w0 w'):=by
 refine cw (args:=[(vi e1)]) func15 ntmps15 (eg (q0 (vi 0) (ln (eg (q0 (vi e1) (q0 (vi e1) (ln ?_)))))))
 refine er (rs1 results15 (v:=(vi e1)) ⟨by kernel_rfl,Ext.refl _⟩)
theorem p_X (e1:Int) (w0:World):Calls prog 15 #[(.int .i64 e1)] w0 (fun e w'=>e=.returned (.int .i64 (s_X e1))∧Pure w0 w'):=pw_X e1 w0
def m_Y_j1 (r5 r6:Int) (r7 r8:Int) (x1:Bool) (w0:World) (H:NP) (w:World) (K:Bool→WP):Prop :=∀y2:Bool,y2=((((x1 && (r5 == 50)) && (r6 == 1)) && (r7 == 3)) && (r8 == 6))→∀H10 w27,Hst w0 H w H10 w27→K y2 w27
def m_Y  (w0:World) (K:Bool→WP):Prop :=Calls prog 51 #[(.agg #[(vi 3),(vi 0),(vi 0),(vu 0),(vs (⟨#[100,101,97,108]⟩:ByteArray)),Sl.nil.v]),(.agg #[(vi 2),(vi 0),(vi 0),(vu 7),ve,Sl.nil.v])] w0 (fun e w1=>∃aG aH aI aJ aK aL,e=.returned (Ab aG aH aI aJ aK aL)∧Kept None w0 w1∧∀p1 w2,New w1 (.cells #[(vi aG),(vi aH),(vi aI),(vu aJ),(vs aK),aL.v] 28) p1 w2→∀H1 w4,Hst w0 None w2 H1 w4→Calls prog 52 #[(.agg #[(vi 7),(vi 0),(vi 0),(vu 0),ve,(Sl.mk (some p1) 1 1).v])] w4 (fun e w5=>∃r1 r2,e=.returned (.tuple #[(vs r1),(vi r2)])∧Kept H1 w4 w5∧Calls prog 53 #[(vs (⟨#[115,48,40,32,40,34,100,101,97,108,34,35,55,41,32,41]⟩:ByteArray))] w5 (fun e w6=>∃aA aB aC aD aE aF r3 r4,e=.returned (.tuple #[(Ab aA aB aC aD aE aF),(vi r3),(vi r4)])∧Kept H1 w5 w6∧∀H2 w8,Hst w0 H1 w6 H2 w8→Calls prog 53 #[(vs (⟨#[110,49,54]⟩:ByteArray))] w8 (fun e w9=>∃aM aN aO aP aQ aR r5 r6,e=.returned (.tuple #[(Ab aM aN aO aP aQ aR),(vi r5),(vi r6)])∧Kept H2 w8 w9∧∀H3 w11,Hst w0 H2 w9 H3 w11→Calls prog 53 #[(vs (⟨#[40,110,49,32,35,50]⟩:ByteArray))] w11 (fun e w12=>∃aS aT aU aV aW aX r7 r8,e=.returned (.tuple #[(Ab aS aT aU aV aW aX),(vi r7),(vi r8)])∧Kept H3 w11 w12∧∀y1:Bool,y1=((r2 == 0) && (decide (r1=(⟨#[115,48,40,40,34,100,101,97,108,34,32,35,55,41,41]⟩:ByteArray))))→Br (y1 && (r3 == 0)) (∀H6 w18,Hst w0 H3 w12 H6 w18→Calls prog 37 #[(.agg #[(vi 7),(vi 0),(vi 0),(vu 0),ve,(Sl.mk (some p1) 1 1).v]),(.agg #[(vi aA),(vi aB),(vi aC),(vu aD),(vs aE),aF.v])] w18 (fun e w28=>∃r9,e=.returned (vb r9)∧Kept H6 w18 w28∧m_Y_j1 r5 r6 r7 r8 r9 w0 H6 w28 K)) (∀H6 w18,Hst w0 H3 w12 H6 w18→m_Y_j1 r5 r6 r7 r8 false w0 H6 w18 K))))))
theorem w_Y  (w0:World) (K:Bool→WP) (h:m_Y  w0 K) :
  Calls prog 9 #[] w0 (fun e w'=>∃r10,e=.returned (vb r10)∧K r10 w'):=by
 refine cw (args:=[]) func9 ntmps9 ?_
 obtain ⟨hs,hb⟩:=st0 w0
 refine eg (q (ln (eg (qb (sc call51 (h.mono fun e w1 ⟨aG,aH,aI,aJ,aK,aL,k,hk,h⟩=>have ⟨hs,hb⟩:=hk.hh hs hb;⟨_,k,?_⟩))))))
 refine nw5 (fun p=>(Sl.mk (some p) 1 1).v) hs hb h fun p1 w2 hs hb h=>q (nw3 [(vi 0),(vi 0),(vi 0),(vu 0),ve,Sl.nil.v] 28 hs hb (jW (zeroValue28 _) rfl) fun p2 w3 H1 hs hb=>sbx 0 [(vi 7),(vi 0),(vi 0),(vu 0),ve,(Sl.mk (some p1) 1 1).v] (sizeOf28 _) hs hb gZ fun w4 hs hb=>ln (eg (q2 (.agg #[(vi 7),(vi 0),(vi 0),(vu 0),ve,(Sl.mk (some p1) 1 1).v]) (xa p2 [(vi 7),(vi 0),(vi 0),(vu 0),ve,(Sl.mk (some p1) 1 1).v] (isAgg28 _) (sizeOf28 _) (hb.r0 0 6 gZ)) ?_)))
 have ⟨h,hs⟩:=hs.hr (h H1 w4)
 refine sc call52 (h.mono fun e w5 ⟨r1,r2,k,hk,h⟩=>have ⟨hs,hb⟩:=hk.hh hs hb;⟨_,k,?_⟩)
 refine q (qd (ln (eg (sc call53 (h.mono fun e w6 ⟨aA,aB,aC,aD,aE,aF,r3,r4,k,hk,h⟩=>have ⟨hs,hb⟩:=hk.hh hs hb;⟨_,k,?_⟩)))))
 refine qd (nw3 [(vi 0),(vi 0),(vi 0),(vu 0),ve,Sl.nil.v] 28 hs hb (jW (zeroValue28 _) rfl) fun p3 w7 H2 hs hb=>sbx 0 (Aa aA aB aC aD aE aF) (sizeOf28 _) hs hb gZ fun w8 hs hb=>qb (ln (eg ?_)))
 have ⟨h,hs⟩:=hs.hr (h H2 w8)
 refine sc call53 (h.mono fun e w9 ⟨aM,aN,aO,aP,aQ,aR,r5,r6,k,hk,h⟩=>have ⟨hs,hb⟩:=hk.hh hs hb;⟨_,k,?_⟩)
 refine qd (nw3 [(vi 0),(vi 0),(vi 0),(vu 0),ve,Sl.nil.v] 28 hs hb (jW (zeroValue28 _) rfl) fun p4 w10 H3 hs hb=>sbx 0 (Aa aM aN aO aP aQ aR) (sizeOf28 _) hs hb gZ fun w11 hs hb=>qb (ln (eg ?_)))
 have ⟨h,hs⟩:=hs.hr (h H3 w11)
 refine sc call53 (h.mono fun e w12 ⟨aS,aT,aU,aV,aW,aX,r7,r8,k,hk,h⟩=>have ⟨hs,hb⟩:=hk.hh hs hb;⟨_,k,?_⟩)
 refine qd (nw3 [(vi 0),(vi 0),(vi 0),(vu 0),ve,Sl.nil.v] 28 hs hb (jW (zeroValue28 _) rfl) fun p5 w13 H4 hs hb=>sbx 0 (Aa aS aT aU aV aW aX) (sizeOf28 _) hs hb gZ fun w14 hs hb=>qb (ln (eg (q (sc call15 ((p_X r2 w14).mono ?_))))))
 rintro e w15 ⟨he,hE⟩
 refine ⟨_,he,?_⟩
 obtain ⟨hs,hb⟩:=hs.pp hb hE
 refine qb (jM 3 (fun ρ wJ=>∃b1'0 y1:Bool,∃HJ:NP,((r2 == 0)=b1'0)∧(y1=(b1'0 && (decide (r1=(⟨#[115,48,40,40,34,100,101,97,108,34,32,35,55,41,41]⟩:ByteArray)))))∧Hst w0 H3 w12 HJ wJ∧HB HJ wJ [(p5,(Aa aS aT aU aV aW aX),28),(p4,(Aa aM aN aO aP aQ aR),28),(p3,(Aa aA aB aC aD aE aF),28),(p2,[(vi 7),(vi 0),(vi 0),(vu 0),ve,(Sl.mk (some p1) 1 1).v],28)]∧Has ρ [(1,(vp (some p2))),(4,(vp (some p3))),(5,(vi r3)),(8,(vi r5)),(9,(vi r6)),(11,(vi r7)),(12,(vi r8)),(44,(vb y1))]) ?_ ?_)
 rintro ρ w16 ⟨b1'0,y1,H5,he0,hy1,hs,hb,hH⟩
 subst he0
 have h:=h y1 hy1
 refine jR hH (q (jM 4 (fun ρ wJ=>∃b2'0:Bool,∃HJ:NP,(y1=b2'0)∧Hst w0 H3 w12 HJ wJ∧HB HJ wJ [(p5,(Aa aS aT aU aV aW aX),28),(p4,(Aa aM aN aO aP aQ aR),28),(p3,(Aa aA aB aC aD aE aF),28),(p2,[(vi 7),(vi 0),(vi 0),(vu 0),ve,(Sl.mk (some p1) 1 1).v],28)]∧Has ρ [(1,(vp (some p2))),(4,(vp (some p3))),(8,(vi r5)),(9,(vi r6)),(11,(vi r7)),(12,(vi r8)),(49,(vb (b2'0 && (r3 == 0))))]) ?_ ?_))
 rintro ρ w18 ⟨b2'0,H6,he0,hs,hb,hH⟩
 subst he0
 refine jR hH (q (jM 4 (fun ρ w=>∃x1,∃H:NP,Has ρ [(8,(vi r5)),(9,(vi r6)),(11,(vi r7)),(12,(vi r8)),(54,(vb x1))]∧Hst w0 H w H w∧HB H w [(p5,(Aa aS aT aU aV aW aX),28),(p4,(Aa aM aN aO aP aQ aR),28),(p3,(Aa aA aB aC aD aE aF),28),(p2,[(vi 7),(vi 0),(vi 0),(vu 0),ve,(Sl.mk (some p1) 1 1).v],28)]∧m_Y_j1 r5 r6 r7 r8 x1 w0 H w K) ?_ ?_))
 rintro ρ w ⟨x1,H,hH,hs,hb,h⟩
 refine jR hH (q (jM 4 (fun ρ wJ=>∃b3'0:Bool,∃HJ:NP,(x1=b3'0)∧Hst w0 H w HJ wJ∧HB HJ wJ [(p5,(Aa aS aT aU aV aW aX),28),(p4,(Aa aM aN aO aP aQ aR),28),(p3,(Aa aA aB aC aD aE aF),28),(p2,[(vi 7),(vi 0),(vi 0),(vu 0),ve,(Sl.mk (some p1) 1 1).v],28)]∧Has ρ [(9,(vi r6)),(11,(vi r7)),(12,(vi r8)),(59,(vb (b3'0 && (r5 == 50))))]) ?_ ?_))
 rintro ρ w21 ⟨b3'0,H7,he0,hs,hb,hH⟩
 subst he0
 refine jR hH (q (jM 3 (fun ρ wJ=>∃b4'0:Bool,∃HJ:NP,((x1 && (r5 == 50))=b4'0)∧Hst w0 H w HJ wJ∧HB HJ wJ [(p5,(Aa aS aT aU aV aW aX),28),(p4,(Aa aM aN aO aP aQ aR),28),(p3,(Aa aA aB aC aD aE aF),28),(p2,[(vi 7),(vi 0),(vi 0),(vu 0),ve,(Sl.mk (some p1) 1 1).v],28)]∧Has ρ [(11,(vi r7)),(12,(vi r8)),(63,(vb (b4'0 && (r6 == 1))))]) ?_ ?_))
 rintro ρ w23 ⟨b4'0,H8,he0,hs,hb,hH⟩
 subst he0
 refine jR hH (q (jM 4 (fun ρ wJ=>∃b5'0:Bool,∃HJ:NP,(((x1 && (r5 == 50)) && (r6 == 1))=b5'0)∧Hst w0 H w HJ wJ∧HB HJ wJ [(p5,(Aa aS aT aU aV aW aX),28),(p4,(Aa aM aN aO aP aQ aR),28),(p3,(Aa aA aB aC aD aE aF),28),(p2,[(vi 7),(vi 0),(vi 0),(vu 0),ve,(Sl.mk (some p1) 1 1).v],28)]∧Has ρ [(12,(vi r8)),(68,(vb (b5'0 && (r7 == 3))))]) ?_ ?_))
 rintro ρ w25 ⟨b5'0,H9,he0,hs,hb,hH⟩
 subst he0
 refine jR hH (q (jM 3 (fun ρ wJ=>∃b6'0 y2:Bool,∃HJ:NP,((((x1 && (r5 == 50)) && (r6 == 1)) && (r7 == 3))=b6'0)∧(y2=(b6'0 && (r8 == 6)))∧Hst w0 H w HJ wJ∧HB HJ wJ [(p5,(Aa aS aT aU aV aW aX),28),(p4,(Aa aM aN aO aP aQ aR),28),(p3,(Aa aA aB aC aD aE aF),28),(p2,[(vi 7),(vi 0),(vi 0),(vu 0),ve,(Sl.mk (some p1) 1 1).v],28)]∧Has ρ [(72,(vb y2))]) ?_ ?_))
 rintro ρ w27 ⟨b6'0,y2,H10,he0,hy2,hs,hb,hH⟩
 subst he0
 have h:=h y2 hy2
 refine jR hH (q (ln (er ?_)))
 have ⟨h,hs⟩:=hs.hr (h H10 w27)
 refine rs1 results9 ⟨y2,rfl,h⟩
 rcases bte (((x1 && (r5 == 50)) && (r6 == 1)) && (r7 == 3)) with hg12 | hg12
 refine qk 69 hg12 (qk 69 hg12 (q2 (vb (r8 == 6)) (xT hg12) (jC ⟨true,_,_,hg12,rfl,hs,hb,hm⟩)))
 refine sj2 69 hg12 (q2 (vb false) (xF hg12) (jC ⟨false,_,_,hg12,rfl,hs,hb,hm⟩))
 rcases bte ((x1 && (r5 == 50)) && (r6 == 1)) with hg10 | hg10
 refine qk 64 hg10 (kQ (wy 64 hg10) (xc call15) ((p_X r7 w23).mono ?_))
 rintro e w26 ⟨he,hE⟩
 refine ⟨_,he,?_⟩
 obtain ⟨hs,hb⟩:=hs.pp hb hE
 refine qk 64 hg10 (q2 (vb (r7 == 3)) (xT hg10) (jC ⟨true,_,hg10,hs,hb,hm⟩))
 refine sj3 64 hg10 (q2 (vb false) (xF hg10) (jC ⟨false,_,hg10,hs,hb,hm⟩))
 rcases bte (x1 && (r5 == 50)) with hg8 | hg8
 refine qk 60 hg8 (qk 60 hg8 (q2 (vb (r6 == 1)) (xT hg8) (jC ⟨true,_,hg8,hs,hb,hm⟩)))
 refine sj2 60 hg8 (q2 (vb false) (xF hg8) (jC ⟨false,_,hg8,hs,hb,hm⟩))
 rcases bte x1 with hg6 | hg6
 refine qk 55 hg6 (kQ (wy 55 hg6) (xc call15) ((p_X r5 w).mono ?_))
 rintro e w22 ⟨he,hE⟩
 refine ⟨_,he,?_⟩
 obtain ⟨hs,hb⟩:=hs.pp hb hE
 refine qk 55 hg6 (q2 (vb (r5 == 50)) (xT hg6) (jC ⟨true,_,hg6,hs,hb,hm⟩))
 refine sj3 55 hg6 (q2 (vb false) (xF hg6) (jC ⟨false,_,hg6,hs,hb,hm⟩))
 obtain ⟨hg13,h⟩|⟨hg13,h⟩:=h.br
 refine stq (v:=(.agg #[(vi 7),(vi 0),(vi 0),(vu 0),ve,(Sl.mk (some p1) 1 1).v])) (wy 50 hg13) (xa p2 [(vi 7),(vi 0),(vi 0),(vu 0),ve,(Sl.mk (some p1) 1 1).v] (isAgg28 _) (sizeOf28 _) (hb.r0 3 6 (gS (gS (gS gZ))))) (stq (v:=(Ab aA aB aC aD aE aF)) (wy 50 hg13) (xa p3 (Aa aA aB aC aD aE aF) (isAgg28 _) (sizeOf28 _) (hb.r0 2 6 (gS (gS gZ)))) ?_)
 have ⟨h,hs⟩:=hs.hr (h H6 w18)
 refine kQ (wy 50 hg13) (xc call37) (h.mono ?_)
 rintro e w28 ⟨r9,rfl,hk,h⟩
 refine ⟨_,rfl,?_⟩
 obtain ⟨hs,hb⟩:=hk.hh hs hb
 refine q2 (vb r9) (xT hg13) (jC ⟨r9,H6,hm,hs,hb,h⟩)
 refine sj3 50 hg13 (q2 (vb false) (xF hg13) (jC ?_))
 have ⟨h,hs⟩:=hs.hr (h H6 w18)
 exact ⟨false,H6,hm,hs,hb,h⟩
 rcases bte y1 with hg4 | hg4
 refine qk 45 hg4 (kQ (wy 45 hg4) (xc call15) ((p_X r3 w16).mono ?_))
 rintro e w19 ⟨he,hE⟩
 refine ⟨_,he,?_⟩
 obtain ⟨hs,hb⟩:=hs.pp hb hE
 refine qk 45 hg4 (q2 (vb (r3 == 0)) (xT hg4) (jC ⟨true,_,hg4,hs,hb,hm⟩))
 refine sj3 45 hg4 (q2 (vb false) (xF hg4) (jC ⟨false,_,hg4,hs,hb,hm⟩))
 rcases bte (r2 == 0) with hg2 | hg2
 refine qk 41 hg2 (stq (v:=(vb (decide (r1=(⟨#[115,48,40,40,34,100,101,97,108,34,32,35,55,41,41]⟩:ByteArray))))) (wy 41 hg2) (jGJ (by kernel_rfl) (by kernel_rfl)) (q2 (vb (decide (r1=(⟨#[115,48,40,40,34,100,101,97,108,34,32,35,55,41,41]⟩:ByteArray)))) (xT hg2) (jC ⟨true,_,_,hg2,rfl,hs,hb,hm⟩)))
 refine sj2 41 hg2 (q2 (vb false) (xF hg2) (jC ⟨false,_,_,hg2,rfl,hs,hb,hm⟩))
def m_E_j3 (i2:Int) (H:NP) (w:World) (Kc2:Int→NP→WP) (_K:Bool→WP):Prop :=Kc2 (q6.wrap (i2+1)) H w
def m_E_j4 (i2:Int) (x1:Bool) (H:NP) (w:World) (Kc2:Int→NP→WP) (K:Bool→WP):Prop :=Br x1 (K false w) (m_E_j3 i2 H w Kc2 K)
def m_E_j6 (r4:Option Addr) (r5:Option Addr) (r18 r19:Int) (r20 f1:Int) (place1 b6:Int) (H:NP) (w:World) (K:Bool→WP):Prop :=∃C1:WP,C1 w.drew∧∀w26,w26=w.drew→Br (r18 == b6) (Calls prog 15 #[(vi r19)] w26 (fun e w27=>∃r23,e=.returned (vi r23)∧C1 w27∧Kept H w26 w27∧Br (r23 == f1) (Br (r20 == place1) (∃a5,r5=some a5∧∃v1:Sl,(∀w',C1 w'→w'.cell? a5=some v1.v)∧Calls prog 22 #[(vp r4)] w27 (fun e w28=>∃r24,e=.returned (vi r24)∧C1 w28∧Kept H w27 w28∧Br (r24 == (v1.len:Int)) (Calls prog 9 #[] w28 (fun e w29=>∃r25,e=.returned (vb r25)∧C1 w29∧Kept H w28 w29∧K r25 w29)) (K false w28))) (K false w27)) (K false w27))) (K false w26)
def m_E_j5 (text1:ByteArray) (t1:Int) (r4:Option Addr) (r5:Option Addr) (wantV1:ByteArray) (w0:World) (H:NP) (w:World) (K:Bool→WP):Prop :=Calls prog 18 #[(vp r4),(vi t1)] w (fun e w21=>∃r17,e=.returned (vs r17)∧Kept H w w21∧Br (!(decide (r17=wantV1))) (K false w21) (Calls prog 17 #[(vp r4),(vs text1)] w21 (fun e w22=>∃r18 r19 r20,e=.returned (.tuple #[(vi r18),(vi r19),(vi r20)])∧Kept H w21 w22∧Calls prog 21 #[(vs text1)] w22 (fun e w23=>∃aG aH aI aJ aK aL r21 r22,e=.returned (.tuple #[(Ab aG aH aI aJ aK aL),(vi r21),(vi r22)])∧Kept H w22 w23∧Br (r21 == 0) (∀H6 w25,Hst w0 H w23 H6 w25→Calls prog 14 #[(vp r5),(.agg #[(vi aG),(vi aH),(vi aI),(vu aJ),(vs aK),aL.v])] w25 (fun e w30=>∃r26 r27,e=.returned (.tuple #[(vi r26),(vi r27)])∧Kept H6 w25 w30∧m_E_j6 r4 r5 r18 r19 r20 r27 0 r26 H6 w30 K)) (∀H6 w25,Hst w0 H w23 H6 w25→m_E_j6 r4 r5 r18 r19 r20 r21 r22 0 H6 w25 K)))))
def m_E_l2 (l1:Sl) (text1:ByteArray) (t1:Int) (r4:Option Addr) (r5:Option Addr) (i2:Int) (w0:World) (Hl2:NP) (wl2:World) (Kc2:Int→NP→WP) (K:Bool→WP):Prop :=Br (decide (i2<(l1.len:Int))) (∃a2:Addr,At l1 i2 6 a2∧∃bK bL bM bN bO bP,Row wl2 a2 (Aa bK bL bM bN bO bP)∧Calls prog 13 #[(vp r4),(.agg #[(vi bK),(vi bL),(vi bM),(vu bN),(vs bO),bP.v])] wl2 (fun e w7=>∃r6 r7,e=.returned (.tuple #[(vi r6),(vi r7)])∧Kept Hl2 wl2 w7∧∃a3:Addr,At l1 i2 6 a3∧∃bQ bR bS bT bU bV,Row w7 a3 (Aa bQ bR bS bT bU bV)∧Calls prog 14 #[(vp r5),(.agg #[(vi bQ),(vi bR),(vi bS),(vu bT),(vs bU),bV.v])] w7 (fun e w8=>∃r8 r9,e=.returned (.tuple #[(vi r8),(vi r9)])∧Kept Hl2 w7 w8∧Br ((r7 != r9) || (r6 != r8)) (∀H2 w10,Hst w0 Hl2 w8 H2 w10→K false w10) (Br (r9 != 0) (∀H2 w10,Hst w0 Hl2 w8 H2 w10→m_E_j3 i2 H2 w10 Kc2 K) (∃a4:Addr,At l1 i2 6 a4∧∀H2 w10,Hst w0 Hl2 w8 H2 w10→∃bW bX bY bZ cA cB,Row w10 a4 (Aa bW bX bY bZ cA cB)∧Calls prog 16 #[(.agg #[(vi bW),(vi bX),(vi bY),(vu bZ),(vs cA),cB.v])] w10 (fun e w12=>∃r10 r11,e=.returned (.tuple #[(vs r10),(vi r11)])∧Kept H2 w10 w12∧Calls prog 17 #[(vp r4),(vs r10)] w12 (fun e w13=>∃r12 r13 r14,e=.returned (.tuple #[(vi r12),(vi r13),(vi r14)])∧Kept H2 w12 w13∧Calls prog 18 #[(vp r4),(vi r6)] w13 (fun e w14=>∃r15,e=.returned (vs r15)∧Kept H2 w13 w14∧∀y1:Bool,y1=((((!(decide (r15=r10))) || (r12 != r6)) || (r13 != 0)) || (r14 != 0))→∀H5 w19,Hst w0 H2 w14 H5 w19→m_E_j4 i2 y1 H5 w19 Kc2 K)))))))) (Calls prog 19 #[(vp r5),(vi t1)] wl2 (fun e w20=>∃r16,e=.returned (vb r16)∧Kept Hl2 wl2 w20∧Br r16 (Calls prog 20 #[(vp r5),(vi t1)] w20 (fun e w31=>∃aA aB aC aD aE aF,e=.returned (Ab aA aB aC aD aE aF)∧Kept Hl2 w20 w31∧Calls prog 16 #[(.agg #[(vi aA),(vi aB),(vi aC),(vu aD),(vs aE),aF.v])] w31 (fun e w32=>∃r28 r29,e=.returned (.tuple #[(vs r28),(vi r29)])∧Kept Hl2 w31 w32∧m_E_j5 text1 t1 r4 r5 r28 w0 Hl2 w32 K))) (m_E_j5 text1 t1 r4 r5 ⟨#[]⟩ w0 Hl2 w20 K)))
def m_E_l1 (l1:Sl) (text1:ByteArray) (t1 n1 i1:Int) (w0:World) (Hl1:NP) (wl1:World) (Kc1:Int→Int→NP→WP) (K:Bool→WP):Prop :=Br (decide (i1<(l1.len:Int))) (∃a1:Addr,At l1 i1 6 a1∧∃cC cD cE cF cG cH,Row wl1 a1 (Aa cC cD cE cF cG cH)∧Calls prog 10 #[(.agg #[(vi cC),(vi cD),(vi cE),(vu cF),(vs cG),cH.v]),(vi 9000)] wl1 (fun e w3=>∃r2,e=.returned (vi r2)∧Kept Hl1 wl1 w3∧Br (decide ((q6.wrap (n1+r2))≥9000)) (Calls prog 9 #[] w3 (fun e w4=>∃r3,e=.returned (vb r3)∧Kept Hl1 w3 w4∧K r3 w4)) (Kc1 (q6.wrap (n1+r2)) (q6.wrap (i1+1)) Hl1 w3))) (Calls prog 11 #[] wl1 (fun e w5=>∃r4,e=.returned (vp r4)∧Kept Hl1 wl1 w5∧Br (Option.isNone r4) (K false w5) (Calls prog 12 #[] w5 (fun e w6=>∃r5,e=.returned (vp r5)∧Kept Hl1 w5 w6∧∃(I2:Int→NP→WP) (mu2:Int→World→Nat),I2 0 Hl1 w6∧∀(i2:Int) (Hl2:NP) (wl2:World),Hst w0 Hl2 wl2 Hl2 wl2→I2 i2 Hl2 wl2→m_E_l2 l1 text1 t1 r4 r5 i2 w0 Hl2 wl2 (fun y'0 H' w'=>I2 y'0 H' w'∧mu2 y'0 w'<mu2 i2 wl2) K))))
def m_E (l1:Sl) (text1:ByteArray) (t1:Int) (w0:World) (K:Bool→WP):Prop :=Br ((decide ((l1.len:Int)>20)) || (decide ((text1.size:Int)>8000))) (∀H1 w1,Hst w0 None w0 H1 w1→Calls prog 9 #[] w1 (fun e w2=>∃r1,e=.returned (vb r1)∧Kept H1 w1 w2∧K r1 w2)) (∀H1 w1,Hst w0 None w0 H1 w1→∃(I1:Int→Int→NP→WP) (mu1:Int→Int→World→Nat),I1 0 0 H1 w1∧∀(n1 i1:Int) (Hl1:NP) (wl1:World),Hst w0 Hl1 wl1 Hl1 wl1→I1 n1 i1 Hl1 wl1→m_E_l1 l1 text1 t1 n1 i1 w0 Hl1 wl1 (fun y'0 y'1 H' w'=>I1 y'0 y'1 H' w'∧mu1 y'0 y'1 w'<mu1 n1 i1 wl1) K)
theorem w_E (l1 text1 t1 w0 K) (h:m_E l1 text1 t1 w0 K):
  Calls prog 3 #[l1.v,(vs text1),(vi t1)] w0 (fun e w'=>∃r30,e=.returned (vb r30)∧K r30 w'):=by
 refine cw (args:=[l1.v,(vs text1),(vi t1)]) func3 ntmps3 ?_
 obtain ⟨hs,hb⟩:=st0 w0
 refine eg (q (ln (jB (jB (zH (fun ρ wJ=>∃b1'0:Bool,∃HJ:NP,((decide ((l1.len:Int)>20))=b1'0)∧Hst w0 None w0 HJ wJ∧HB HJ wJ []∧Has ρ [(0,l1.v),(1,(vs text1)),(2,(vi t1)),(36,(vb (b1'0 || (decide ((text1.size:Int)>8000)))))]) ?_ ?_)))))
 refine rg (qd ?_)
 rcases bte (decide ((l1.len:Int)>20)) with hg2 | hg2
 refine sj3 32 hg2 (q2 (vb true) (xT hg2) (ln ⟨true,_,hg2,hs,hb,hm⟩))
 refine qk 32 hg2 (qk 32 hg2 (qk 32 hg2 (q2 (vb (decide ((text1.size:Int)>8000))) (xF hg2) (ln ⟨false,_,hg2,hs,hb,hm⟩))))
 rintro ρ w1 ⟨b1'0,H1,he0,hs,hb,hH⟩
 subst he0
 refine zA hH (jL (cbr h ?_ ?_))<;>intro h
 refine eg ?_
 have ⟨h,hs⟩:=hs.hr (h H1 w1)
 refine sc call9 (h.mono fun e w2 ⟨r1,k,hk,h⟩=>have ⟨hs,hb⟩:=hk.hh hs hb;⟨_,k,?_⟩)
 refine q (ln (er (zM (rs1 results3 ⟨r1,rfl,h⟩))))
 refine jF (jL (eg (q (ln (jB (eg (q (jC (jL (jO ?_))))))))))
 have ⟨h,hs⟩:=hs.hr (h H1 w1)
 obtain ⟨I1,mu1,h0,hr⟩:=h
 refine zU (σ:=Int×Int×NP×World) (fun s ρ w=>w=s.2.2.2∧Has ρ [(0,l1.v),(1,(vs text1)),(2,(vi t1)),(7,(vi s.1)),(8,(vi s.2.1))]∧Hst w0 s.2.2.1 w s.2.2.1 w∧HB s.2.2.1 w []∧I1 s.1 s.2.1 s.2.2.1 s.2.2.2) (fun s=>mu1 s.1 s.2.1 s.2.2.2) (0,0,H1,w1) ⟨rfl,hm,hs,hb,h0⟩ ?_
 rintro ⟨n1,i1,Hl1,wl1⟩ ρ w ⟨hw,hH,hs,hb,hI⟩
 dsimp only at hw hH hs hb;subst w
 have h:=hr n1 i1 Hl1 wl1 hs hI
 refine jY hH (jB (eg (qd (ln (cbr h ?_ ?_)))))<;>intro h
 refine jF (jL (jB (jO (eg (qc (qi (runUnderlying22 _) (sizeOf28 _) h fun a1 h=>?_))))))
 obtain ⟨cC,cD,cE,cF,cG,cH,hv1,h⟩:=h
 refine qa (isAgg28 _) (sizeOf28 _) hv1 (sc call10 (h.mono fun e w3 ⟨r2,k,hk,h⟩=>have ⟨hs,hb⟩:=hk.hh hs hb;⟨_,k,?_⟩))
 refine qb (ln (eg (qb (ln (cbr h ?_ ?_)))))<;>intro h
 refine eg (sc call9 (h.mono fun e w4 ⟨r3,k,hk,h⟩=>have ⟨hs,hb⟩:=hk.hh hs hb;⟨_,k,?_⟩))
 refine q (ln (er (vR (zM (zM (vR (zM (rs1 results3 ⟨r3,rfl,h⟩))))))))
 refine jF (kW (jL (rg (qc (ln ⟨((q6.wrap (n1+r2)),(q6.wrap (i1+1)),Hl1,w3),⟨rfl,hm,hs,hb,h.1⟩,h.2⟩)))))
 refine zI (vM (vM (vI (jL (eg (sc call11 (h.mono fun e w5 ⟨r4,k,hk,h⟩=>have ⟨hs,hb⟩:=hk.hh hs hb;⟨_,k,?_⟩)))))))
 refine q (ln (jB (eg (q (q2 (vb (Option.isNone r4)) (tV (by kernel_rfl) rfl underlying29) (ln (cbr h ?_ ?_)))))))<;>intro h
 refine eg (q (ln (er (zM (rs1 results3 ⟨false,rfl,h⟩)))))
 refine jF (jL (eg (sc call12 (h.mono fun e w6 ⟨r5,k,hk,h⟩=>have ⟨hs,hb⟩:=hk.hh hs hb;⟨_,k,?_⟩))))
 refine q (ln (jB (eg (q (ln (jO ?_))))))
 obtain ⟨I2,mu2,h0,hr⟩:=h
 refine zU (σ:=Int×NP×World) (fun s ρ w=>w=s.2.2∧Has ρ [(0,l1.v),(1,(vs text1)),(2,(vi t1)),(9,(vp r4)),(10,(vp r5)),(11,(vi s.1))]∧Hst w0 s.2.1 w s.2.1 w∧HB s.2.1 w []∧I2 s.1 s.2.1 s.2.2) (fun s=>mu2 s.1 s.2.2) (0,Hl1,w6) ⟨rfl,hm,hs,hb,h0⟩ ?_
 rintro ⟨i2,Hl2,wl2⟩ ρ w ⟨hw,hH,hs,hb,hI⟩
 dsimp only at hw hH hs hb;subst w
 have h:=hr i2 Hl2 wl2 hs hI
 refine jY hH (jB (eg (qd (ln (cbr h ?_ ?_)))))<;>intro h
 refine jF (jL (jB (zD (fun ρ w=>∃H:NP,Has ρ [(0,l1.v),(1,(vs text1)),(2,(vi t1)),(9,(vp r4)),(10,(vp r5)),(11,(vi i2))]∧Hst w0 H w H w∧HB H w []∧m_E_j3 i2 H w (fun y'0 H' w'=>I2 y'0 H' w'∧mu2 y'0 w'<mu2 i2 wl2) K) ?_ ?_)))
 rintro ρ w ⟨H,hH,hs,hb,h⟩
 refine jY hH (rg (qc (ln ⟨((q6.wrap (i2+1)),H,w),⟨rfl,hm,hs,hb,h.1⟩,h.2⟩)))
 refine jO (eg (qc (qi (runUnderlying22 _) (sizeOf28 _) h fun a2 h=>?_)))
 obtain ⟨bK,bL,bM,bN,bO,bP,hv7,h⟩:=h
 refine qa (isAgg28 _) (sizeOf28 _) hv7 (sc call13 (h.mono fun e w7 ⟨r6,r7,k,hk,h⟩=>have ⟨hs,hb⟩:=hk.hh hs hb;⟨_,k,?_⟩))
 refine q (qd (ln (eg (qc (qi (runUnderlying22 _) (sizeOf28 _) h fun a3 h=>?_)))))
 obtain ⟨bQ,bR,bS,bT,bU,bV,hv5,h⟩:=h
 refine qa (isAgg28 _) (sizeOf28 _) hv5 (sc call14 (h.mono fun e w8 ⟨r8,r9,k,hk,h⟩=>have ⟨hs,hb⟩:=hk.hh hs hb;⟨_,k,?_⟩))
 refine q (qd (ln (jB (jB (zH (fun ρ wJ=>∃b2'0:Bool,∃HJ:NP,((r7 != r9)=b2'0)∧Hst w0 Hl2 w8 HJ wJ∧HB HJ wJ []∧Has ρ [(0,l1.v),(1,(vs text1)),(2,(vi t1)),(9,(vp r4)),(10,(vp r5)),(11,(vi i2)),(12,(vi r6)),(15,(vi r9)),(90,(vb (b2'0 || (r6 != r8))))]) ?_ ?_)))))
 refine rg (q (sc call15 ((p_X r7 w8).mono ?_)))
 rintro e w11 ⟨he,hE⟩
 refine ⟨_,he,?_⟩
 obtain ⟨hs,hb⟩:=hs.pp hb hE
 refine qc ?_
 rcases bte (r7 != r9) with hg4 | hg4
 refine sj3 86 hg4 (q2 (vb true) (xT hg4) (ln ⟨true,_,hg4,hs,hb,hm⟩))
 refine qk 86 hg4 (qk 86 hg4 (qk 86 hg4 (q2 (vb (r6 != r8)) (xF hg4) (ln ⟨false,_,hg4,hs,hb,hm⟩))))
 rintro ρ w10 ⟨b2'0,H2,he0,hs,hb,hH⟩
 subst he0
 refine zA hH (jL (cbr h ?_ ?_))<;>intro h
 refine eg (q (ln (er (zM (vR (zM (zM (vR (zM ?_)))))))))
 have ⟨h,hs⟩:=hs.hr (h H2 w10)
 refine rs1 results3 ⟨false,rfl,h⟩
 refine jF (jL (jB (eg (qb (ln (cbr h ?_ ?_))))))<;>intro h
 refine zI (vM (vI ?_))
 have ⟨h,hs⟩:=hs.hr (h H2 w10)
 refine jL ⟨H2,hm,hs,hb,h⟩
 refine jF (jL (eg (qb (qi (runUnderlying22 _) (sizeOf28 _) h fun a4 h=>?_))))
 have ⟨h,hs⟩:=hs.hr (h H2 w10)
 obtain ⟨bW,bX,bY,bZ,cA,cB,hv3,h⟩:=h
 refine qa (isAgg28 _) (sizeOf28 _) hv3 (sc call16 (h.mono fun e w12 ⟨r10,r11,k,hk,h⟩=>have ⟨hs,hb⟩:=hk.hh hs hb;⟨_,k,?_⟩))
 refine q (qd (ln (eg (qb (sc call17 (h.mono fun e w13 ⟨r12,r13,r14,k,hk,h⟩=>have ⟨hs,hb⟩:=hk.hh hs hb;⟨_,k,?_⟩))))))
 refine qc (qd (ln (jB (zD (fun ρ w=>∃x1,∃H:NP,Has ρ [(0,l1.v),(1,(vs text1)),(2,(vi t1)),(9,(vp r4)),(10,(vp r5)),(11,(vi i2)),(126,(vb x1))]∧Hst w0 H w H w∧HB H w []∧m_E_j4 i2 x1 H w (fun y'0 H' w'=>I2 y'0 H' w'∧mu2 y'0 w'<mu2 i2 wl2) K) ?_ ?_))))
 rintro ρ w ⟨x1,H,hH,hs,hb,h⟩
 refine jY hH (cbr h ?_ ?_)<;>intro h
 refine eg (q (ln (er (vR (zM (zM (vR (zM (rs1 results3 ⟨false,rfl,h⟩)))))))))
 refine jF (kW (jL ⟨H,hm,hs,hb,h⟩))
 refine rg (qb (sc call18 (h.mono fun e w14 ⟨r15,k,hk,h⟩=>have ⟨hs,hb⟩:=hk.hh hs hb;⟨_,k,?_⟩)))
 refine q (q2 (vb (!(decide (r15=r10)))) (xN (by kernel_rfl) (by kernel_rfl)) (q (jM 4 (fun ρ wJ=>∃b3'0:Bool,∃HJ:NP,((!(decide (r15=r10)))=b3'0)∧Hst w0 H2 w14 HJ wJ∧HB HJ wJ []∧Has ρ [(0,l1.v),(1,(vs text1)),(2,(vi t1)),(9,(vp r4)),(10,(vp r5)),(11,(vi i2)),(19,(vi r13)),(20,(vi r14)),(117,(vb (b3'0 || (r12 != r6))))]) ?_ ?_)))
 rintro ρ w15 ⟨b3'0,H3,he0,hs,hb,hH⟩
 subst he0
 refine jR hH (q (jM 4 (fun ρ wJ=>∃b4'0:Bool,∃HJ:NP,(((!(decide (r15=r10))) || (r12 != r6))=b4'0)∧Hst w0 H2 w14 HJ wJ∧HB HJ wJ []∧Has ρ [(0,l1.v),(1,(vs text1)),(2,(vi t1)),(9,(vp r4)),(10,(vp r5)),(11,(vi i2)),(20,(vi r14)),(122,(vb (b4'0 || (r13 != 0))))]) ?_ ?_))
 rintro ρ w17 ⟨b4'0,H4,he0,hs,hb,hH⟩
 subst he0
 refine jR hH (q (jM 3 (fun ρ wJ=>∃b5'0 y1:Bool,∃HJ:NP,((((!(decide (r15=r10))) || (r12 != r6)) || (r13 != 0))=b5'0)∧(y1=(b5'0 || (r14 != 0)))∧Hst w0 H2 w14 HJ wJ∧HB HJ wJ []∧Has ρ [(0,l1.v),(1,(vs text1)),(2,(vi t1)),(9,(vp r4)),(10,(vp r5)),(11,(vi i2)),(126,(vb y1))]) ?_ ?_))
 rintro ρ w19 ⟨b5'0,y1,H5,he0,hy1,hs,hb,hH⟩
 subst he0
 have h:=h y1 hy1
 refine jR hH (jC ?_)
 have ⟨h,hs⟩:=hs.hr (h H5 w19)
 refine jL ⟨y1,H5,hm,hs,hb,h⟩
 rcases bte (((!(decide (r15=r10))) || (r12 != r6)) || (r13 != 0)) with hg10 | hg10
 refine sj2 123 hg10 (q2 (vb true) (xT hg10) (jC ⟨true,_,_,hg10,rfl,hs,hb,hm⟩))
 refine qk 123 hg10 (qk 123 hg10 (q2 (vb (r14 != 0)) (xF hg10) (jC ⟨false,_,_,hg10,rfl,hs,hb,hm⟩)))
 rcases bte ((!(decide (r15=r10))) || (r12 != r6)) with hg8 | hg8
 refine sj3 118 hg8 (q2 (vb true) (xT hg8) (jC ⟨true,_,hg8,hs,hb,hm⟩))
 refine qk 118 hg8 (kQ (wy 118 hg8) (xc call15) ((p_X r13 w15).mono ?_))
 rintro e w18 ⟨he,hE⟩
 refine ⟨_,he,?_⟩
 obtain ⟨hs,hb⟩:=hs.pp hb hE
 refine qk 118 hg8 (q2 (vb (r13 != 0)) (xF hg8) (jC ⟨false,_,hg8,hs,hb,hm⟩))
 rcases bte (!(decide (r15=r10))) with hg6 | hg6
 refine sj3 113 hg6 (q2 (vb true) (xT hg6) (jC ⟨true,_,hg6,hs,hb,hm⟩))
 refine qk 113 hg6 (qk 113 hg6 (qk 113 hg6 (q2 (vb (r12 != r6)) (xF hg6) (jC ⟨false,_,hg6,hs,hb,hm⟩))))
 refine zI (vM (vM (vI (jL (eg (q0 ve (ln (jB (jB (rg (qb (sc call19 (h.mono fun e w20 ⟨r16,k,hk,h⟩=>have ⟨hs,hb⟩:=hk.hh hs hb;⟨_,k,?_⟩)))))))))))))
 refine ln (zD (fun ρ w=>∃wantV1,∃H:NP,Has ρ [(1,(vs text1)),(2,(vi t1)),(9,(vp r4)),(10,(vp r5)),(21,(vs wantV1))]∧Hst w0 H w H w∧HB H w []∧m_E_j5 text1 t1 r4 r5 wantV1 w0 H w K) ?_ ?_)
 rintro ρ w ⟨wantV1,H,hH,hs,hb,h⟩
 refine jY hH (jB (eg (qb (sc call18 (h.mono fun e w21 ⟨r17,k,hk,h⟩=>have ⟨hs,hb⟩:=hk.hh hs hb;⟨_,k,?_⟩)))))
 refine q (q2 (vb (!(decide (r17=wantV1)))) (xN (by kernel_rfl) (by kernel_rfl)) (ln (cbr h ?_ ?_)))<;>intro h
 refine eg (q (ln (er (zM (rs1 results3 ⟨false,rfl,h⟩)))))
 refine jF (jL (eg (qb (sc call17 (h.mono fun e w22 ⟨r18,r19,r20,k,hk,h⟩=>have ⟨hs,hb⟩:=hk.hh hs hb;⟨_,k,?_⟩)))))
 refine qc (qd (ln (eg (q (sc call21 (h.mono fun e w23 ⟨aG,aH,aI,aJ,aK,aL,r21,r22,k,hk,h⟩=>have ⟨hs,hb⟩:=hk.hh hs hb;⟨_,k,?_⟩))))))
 refine qd (nw3 [(vi 0),(vi 0),(vi 0),(vu 0),ve,Sl.nil.v] 28 hs hb (jW (zeroValue28 _) rfl) fun p1 w24 H6 hs hb=>sbx 0 (Aa aG aH aI aJ aK aL) (sizeOf28 _) hs hb gZ fun w25 hs hb=>qb (ln (eg (q (ln (jB (eg (qb (ln (zD (fun ρ w=>∃f1 place1 b6,∃H:NP,Has ρ [(9,(vp r4)),(10,(vp r5)),(22,(vi r18)),(23,(vi r19)),(24,(vi r20)),(26,(vi f1)),(27,(vi place1)),(28,(vi b6))]∧Hst w0 H w H w∧HB H w [(p1,(Aa aG aH aI aJ aK aL),28)]∧m_E_j6 r4 r5 r18 r19 r20 f1 place1 b6 H w K) ?_ ?_))))))))))
 rintro ρ w ⟨f1,place1,b6,H,hH,hs,hb,h⟩
 refine jY hH (jB ?_)
 obtain ⟨C1,hC,h⟩:=h
 refine dr2 (fun x=>C1 x∧HB H x _) [5,16,25] [] ⟨hC,hb.drew⟩ h hs hb fun w26 hs hb h=>?_
 have hs:=hs.here
 refine qx 0 (vi r18) Kp0 (qx 1 (vi b6) Kp1 (qx 2 (vb (r18 == b6)) Kp2 (qx 3 (vb (r18 == b6)) Kp3 (qg 4 ?_))))
 obtain ⟨hg11,h⟩|⟨hg11,h⟩:=h.br
 refine sz (v:=(vi r19)) Kp4 (wy 166 hg11) (fun _ _=>(by kernel_rfl)) (qw 6 (vi f1) Kp6 (wy 166 hg11) (lg 5 (gQ Kp5 (wy 166 hg11) (by kernel_rfl) (xc call15) (h.mono ?_))))
 rintro e w27 ⟨r23,rfl,hC,hk,h⟩
 refine ⟨_,rfl,.inr ⟨hC,hb.kept hk⟩,?_⟩
 obtain ⟨hs,hb⟩:=hk.hh hs hb
 refine qw 7 (vb (r23 == f1)) Kp7 (wy 166 hg11) (qz 8 (vb (r23 == f1)) Kp8 (fun _ _=>(xT hg11)) (qx 9 (vb (r23 == f1)) Kp9 (qg 10 ?_)))
 obtain ⟨hg12,h⟩|⟨hg12,h⟩:=h.br
 refine sz (v:=(vi r20)) (jE (S8 (jA (jA jD)))) (wy 172 hg12) (fun _ _=>(by kernel_rfl)) (qw 11 (vi place1) (jE (S8 (jA (jA (jA jD))))) (wy 172 hg12) (qw 12 (vb (r20 == place1)) (jE (S8 (S4 jD))) (wy 172 hg12) (qz 13 (vb (r20 == place1)) (jE (S8 (S4 (jA jD)))) (fun _ _=>(xT hg12)) (qx 14 (vb (r20 == place1)) (jE (S8 (S4 (jA (jA jD))))) (qg 15 ?_)))))
 obtain ⟨hg13,h⟩|⟨hg13,h⟩:=h.br
 refine sz (v:=(vp r4)) (jE (S8 (S4 (jA (jA (jA jD)))))) (wy 177 hg13) (fun _ _=>(by kernel_rfl)) (qw 17 (vp r5) (jE (S8 (S8 (jA jD)))) (wy 177 hg13) (qg 18 ?_))
 obtain ⟨a5,hp1,h⟩:=h
 refine sz (jE (S8 (S8 (jA (jA jD))))) (wy 177 hg13) (fun _ _=>xn hp1) (qw 19 (vp (some a5)) (jE (S8 (S8 (jA (jA (jA jD)))))) (wy 177 hg13) (qg 20 ?_))
 obtain ⟨v1,hv9,h⟩:=h
 refine sz (jE (S8 (S8 (S4 jD)))) (wy 177 hg13) (fun _ k=>xl (isAgg49 _) (hv9 _ k.1)) (qw 21 (vi (v1.len:Int)) (jE (S8 (S8 (S4 (jA jD))))) (wy 177 hg13) (lg 16 (gQ (jE (S8 (S8 jD))) (wy 177 hg13) (by kernel_rfl) (xc call22) (h.mono ?_))))
 rintro e w28 ⟨r24,rfl,hC,hk,h⟩
 refine ⟨_,rfl,.inr ⟨hC,hb.kept hk⟩,?_⟩
 obtain ⟨hs,hb⟩:=hk.hh hs hb
 refine qw 22 (vb (r24 == (v1.len:Int))) (jE (S8 (S8 (S4 (jA (jA jD)))))) (wy 177 hg13) (qz 23 (vb (r24 == (v1.len:Int))) (jE (S8 (S8 (S4 (jA (jA (jA jD))))))) (fun _ _=>(xT hg13)) (qx 24 (vb (r24 == (v1.len:Int))) (jE (S8 (S8 (S8 jD)))) (lg 25 ?_)))
 obtain ⟨hg14,h⟩|⟨hg14,h⟩:=h.br
 refine gQ (jE (S8 (S8 (S8 (jA jD))))) (wy 187 hg14) (by kernel_rfl) (xc call9) (h.mono ?_)
 rintro e w29 ⟨r25,rfl,hC,hk,h⟩
 refine ⟨_,rfl,.inr ⟨hC,hb.kept hk⟩,?_⟩
 obtain ⟨hs,hb⟩:=hk.hh hs hb
 refine qz 26 (vb r25) (jE (S8 (S8 (S8 (jA (jA jD)))))) (fun _ _=>(xT hg14)) (qx 27 (vb r25) (jE (S8 (S8 (S8 (jA (jA (jA jD))))))) (wn (jL (er (rs1 results3 ⟨r25,rfl,h⟩)))))
 refine kM (jE (S8 (S8 (S8 (jA jD))))) (jH rfl (yD 187 hg14) rfl) (qz 26 (vb false) (jE (S8 (S8 (S8 (jA (jA jD)))))) (fun _ _=>(xF hg14)) (qx 27 (vb false) (jE (S8 (S8 (S8 (jA (jA (jA jD))))))) (wn (jL (er (rs1 results3 ⟨false,rfl,h⟩))))))
 refine kM (jE (S8 (S4 (jA (jA (jA jD)))))) (jH rfl (yD 177 hg13) rfl) (qn 17 (jE (S8 (S8 (jA jD)))) (jH rfl (yD 177 hg13) rfl) (qn 18 (jE (S8 (S8 (jA (jA jD))))) (jH rfl (yD 177 hg13) rfl) (qn 19 (jE (S8 (S8 (jA (jA (jA jD)))))) (jH rfl (yD 177 hg13) rfl) (qn 20 (jE (S8 (S8 (S4 jD)))) (jH rfl (yD 177 hg13) rfl) (qn 21 (jE (S8 (S8 (S4 (jA jD))))) (jH rfl (yD 177 hg13) rfl) (lg 16 (kM (jE (S8 (S8 jD))) (jH rfl (yD 177 hg13) rfl) (qn 22 (jE (S8 (S8 (S4 (jA (jA jD)))))) (jH rfl (yD 177 hg13) rfl) (qz 23 (vb false) (jE (S8 (S8 (S4 (jA (jA (jA jD))))))) (fun _ _=>(xF hg13)) (qx 24 (vb false) (jE (S8 (S8 (S8 jD)))) (lg 25 (kM (jE (S8 (S8 (S8 (jA jD))))) (jH rfl (yD (c:=false) 187 rfl) rfl) (qx 26 (vb false) (jE (S8 (S8 (S8 (jA (jA jD)))))) (qx 27 (vb false) (jE (S8 (S8 (S8 (jA (jA (jA jD))))))) (wn (jL (er (rs1 results3 ⟨false,rfl,h⟩))))))))))))))))))
 refine kM (jE (S8 (jA (jA jD)))) (jH rfl (yD 172 hg12) rfl) (qn 11 (jE (S8 (jA (jA (jA jD))))) (jH rfl (yD 172 hg12) rfl) (qn 12 (jE (S8 (S4 jD))) (jH rfl (yD 172 hg12) rfl) (qz 13 (vb false) (jE (S8 (S4 (jA jD)))) (fun _ _=>(xF hg12)) (qx 14 (vb false) (jE (S8 (S4 (jA (jA jD))))) (qn 15 (jE (S8 (S4 (jA (jA (jA jD)))))) (jH rfl (yD (c:=false) 177 rfl) rfl) (qn 17 (jE (S8 (S8 (jA jD)))) (jH rfl (yD (c:=false) 177 rfl) rfl) (qn 18 (jE (S8 (S8 (jA (jA jD))))) (jH rfl (yD (c:=false) 177 rfl) rfl) (qn 19 (jE (S8 (S8 (jA (jA (jA jD)))))) (jH rfl (yD (c:=false) 177 rfl) rfl) (qn 20 (jE (S8 (S8 (S4 jD)))) (jH rfl (yD (c:=false) 177 rfl) rfl) (qn 21 (jE (S8 (S8 (S4 (jA jD))))) (jH rfl (yD (c:=false) 177 rfl) rfl) (lg 16 (kM (jE (S8 (S8 jD))) (jH rfl (yD (c:=false) 177 rfl) rfl) (qn 22 (jE (S8 (S8 (S4 (jA (jA jD)))))) (jH rfl (yD (c:=false) 177 rfl) rfl) (qx 23 (vb false) (jE (S8 (S8 (S4 (jA (jA (jA jD))))))) (qx 24 (vb false) (jE (S8 (S8 (S8 jD)))) (lg 25 (kM (jE (S8 (S8 (S8 (jA jD))))) (jH rfl (yD (c:=false) 187 rfl) rfl) (qx 26 (vb false) (jE (S8 (S8 (S8 (jA (jA jD)))))) (qx 27 (vb false) (jE (S8 (S8 (S8 (jA (jA (jA jD))))))) (wn (jL (er (rs1 results3 ⟨false,rfl,h⟩)))))))))))))))))))))))
 refine kM Kp4 (jH rfl (yD 166 hg11) rfl) (qn 6 Kp6 (jH rfl (yD 166 hg11) rfl) (lg 5 (kM Kp5 (jH rfl (yD 166 hg11) rfl) (qn 7 Kp7 (jH rfl (yD 166 hg11) rfl) (qz 8 (vb false) Kp8 (fun _ _=>(xF hg11)) (qx 9 (vb false) Kp9 (qn 10 (jE (S8 (jA (jA jD)))) (jH rfl (yD (c:=false) 172 rfl) rfl) (qn 11 (jE (S8 (jA (jA (jA jD))))) (jH rfl (yD (c:=false) 172 rfl) rfl) (qn 12 (jE (S8 (S4 jD))) (jH rfl (yD (c:=false) 172 rfl) rfl) (qx 13 (vb false) (jE (S8 (S4 (jA jD)))) (qx 14 (vb false) (jE (S8 (S4 (jA (jA jD))))) (qn 15 (jE (S8 (S4 (jA (jA (jA jD)))))) (jH rfl (yD (c:=false) 177 rfl) rfl) (qn 17 (jE (S8 (S8 (jA jD)))) (jH rfl (yD (c:=false) 177 rfl) rfl) (qn 18 (jE (S8 (S8 (jA (jA jD))))) (jH rfl (yD (c:=false) 177 rfl) rfl) (qn 19 (jE (S8 (S8 (jA (jA (jA jD)))))) (jH rfl (yD (c:=false) 177 rfl) rfl) (qn 20 (jE (S8 (S8 (S4 jD)))) (jH rfl (yD (c:=false) 177 rfl) rfl) (qn 21 (jE (S8 (S8 (S4 (jA jD))))) (jH rfl (yD (c:=false) 177 rfl) rfl) (lg 16 (kM (jE (S8 (S8 jD))) (jH rfl (yD (c:=false) 177 rfl) rfl) (qn 22 (jE (S8 (S8 (S4 (jA (jA jD)))))) (jH rfl (yD (c:=false) 177 rfl) rfl) (qx 23 (vb false) (jE (S8 (S8 (S4 (jA (jA (jA jD))))))) (qx 24 (vb false) (jE (S8 (S8 (S8 jD)))) (lg 25 ?_)))))))))))))))))))))))
 refine kM (jE (S8 (S8 (S8 (jA jD))))) (jH rfl (yD (c:=false) 187 rfl) rfl) (qx 26 (vb false) (jE (S8 (S8 (S8 (jA (jA jD)))))) (qx 27 (vb false) (jE (S8 (S8 (S8 (jA (jA (jA jD))))))) (wn (jL (er (rs1 results3 ⟨false,rfl,h⟩))))))
 refine cbr h ?_ ?_<;>intro h
 refine eg (q (q2 (Ab aG aH aI aJ aK aL) (xa p1 (Aa aG aH aI aJ aK aL) (isAgg28 _) (sizeOf28 _) (hb.r0 0 6 gZ)) ?_))
 have ⟨h,hs⟩:=hs.hr (h H6 w25)
 refine sc call14 (h.mono fun e w30 ⟨r26,r27,k,hk,h⟩=>have ⟨hs,hb⟩:=hk.hh hs hb;⟨_,k,?_⟩)
 refine q (qd (ln (rg (q (ln ⟨r27,0,r26,H6,hm,hs,hb,h⟩)))))
 refine jF ?_
 have ⟨h,hs⟩:=hs.hr (h H6 w25)
 refine jL ⟨r21,r22,0,H6,hm,hs,hb,h⟩
 refine cbr h ?_ ?_<;>intro h
 refine rg (qb (sc call20 (h.mono fun e w31 ⟨aA,aB,aC,aD,aE,aF,k,hk,h⟩=>have ⟨hs,hb⟩:=hk.hh hs hb;⟨_,k,?_⟩)))
 refine sc call16 (h.mono fun e w32 ⟨r28,r29,k,hk,h⟩=>have ⟨hs,hb⟩:=hk.hh hs hb;⟨_,k,?_⟩)
 refine qd (ln ⟨r28,Hl2,hm,hs,hb,h⟩)
 refine jF (jL ⟨⟨#[]⟩,Hl2,hm,hs,hb,h⟩)
end Go.Proofs
end
section
open Go Go.SE
namespace Go.Proofs
open Tryz
attribute [local irreducible] Calls
theorem jCU {S:NP} (A B:Sp.Tree) (sa sb:Sl) (w0:World) (hA:TreeAt S w0 sa A) (hB:TreeAt S w0 sb B) (hS:∀b,S b→b<w0.heap.size) :
  Calls prog 51 #[.agg (kK A sa).toArray,.agg (kK B sb).toArray] w0 (fun e w'=>∃s:Sl,e=.returned (.agg (kK (.mk 4 0 0 0 ⟨#[]⟩ [A,B]) s).toArray)∧TreeAt (fun b=>S b∨(w0.heap.size≤b∧b<w'.heap.size)) w' s (.mk 4 0 0 0 ⟨#[]⟩ [A,B])∧Pure w0 w'):=by
 obtain ⟨k,f,t,u,x,ks⟩:=A
 obtain ⟨k2,f2,t2,u2,x2,ks2⟩:=B
 refine (w_V2 k f t u x sa k2 f2 t2 u2 x2 sb w0 (fun rk rf rt ru rx s w'=>rk=4∧rf=0∧rt=0∧ru=0∧rx=⟨#[]⟩∧TreeAt (fun b=>S b∨(w0.heap.size≤b∧b<w'.heap.size)) w' s (.mk 4 0 0 0 ⟨#[]⟩ [.mk k f t u x ks,.mk k2 f2 t2 u2 x2 ks2])∧Pure w0 w') ?_).mono ?_
 ·unfold m_V2
  intro H3 w3 hs3 p4 w4 n4 w5 hs5
  have E3:=hs3.first
  have E4:Pure w3 w4:=Ext.new n4
  have E04:Pure w0 w4:=E3.trans E4
  have hp:=n4.at_size
  have z3:=E3.size
  have l4:=(Box.of_new n4).lt
  have hH:∀b,H3 b→w0.heap.size≤b∧b<w3.heap.size:=fun b hb=>⟨hs3.here.old b hb,hs3.here.lt b hb⟩
  have B4:=(Box.of_new n4).ext hs5.ext (fun hh=>by have:=(hH _ hh).2;omega)
  have up:∀{s:Sl} {T:Sp.Tree},TreeAt S w0 s T→TreeAt (fun b=>S b∨(w0.heap.size≤b∧b<w5.heap.size)) w5 s T:=fun h=>((h.pure E04).ext hs5.ext (fun b hb hh=>by have:=(hH b hh).1;have:=hS b hb;omega)).mono (fun b hb=>.inl hb)
  have z5:=hs5.ext.size
  exact ⟨rfl,rfl,rfl,rfl,rfl,TreeAt.pair (A:=.mk k f t u x ks) (B:=.mk k2 f2 t2 u2 x2 ks2) (sa:=sa) (sb:=sb) B4 (.inr ⟨by omega,by omega⟩) (up hA) (up hB),E04.trans' hs5.ext (fun b hb hh=>by have:=(hH b hh).1;omega)⟩
 ·rintro e w' ⟨rk,rf,rt,ru,rx,s,rfl,rfl,rfl,rfl,rfl,rfl,h⟩
  exact ⟨s,rfl,h⟩
def oP:Sp.Tree:=.mk 7 0 0 0 ⟨#[]⟩ [.mk 4 0 0 0 ⟨#[]⟩ [.mk 3 0 0 0 ⟨#[100,101,97,108]⟩ [],.mk 2 0 0 7 ⟨#[]⟩ []]]
set_option maxRecDepth 100000 in
theorem jHW:Sp.jFG oP=([115,48,40,40,34,100,101,97,108,34,32,35,55,41,41],0):=by kernel_rfl
set_option maxRecDepth 100000 in
theorem tF:Sp.kZ (bts ⟨#[115,48,40,32,40,34,100,101,97,108,34,35,55,41,32,41]⟩)=(oP,0,0):=by kernel_rfl
set_option maxRecDepth 100000 in
theorem jFO:(Sp.kZ (bts ⟨#[110,49,54]⟩)).2=(50,1):=by kernel_rfl
set_option maxRecDepth 100000 in
theorem jFN:(Sp.kZ (bts ⟨#[40,110,49,32,35,50]⟩)).2=(3,6):=by kernel_rfl
theorem jJX:Sp.NumT oP:=by
 have n0:Sp.oQ 0:=⟨by decide,by decide⟩;have n7:Sp.oQ 7:=⟨by decide,by decide⟩;have leaf:∀k f t u x,Sp.oQ u→Sp.NumT (.mk k f t u x []):=fun k f t u x h=>.mk k f t u x [] h (fun i hi=>by simp at hi);refine .mk _ _ _ _ _ _ n0 (fun i hi=>?_);obtain rfl:i=0:=by simp at hi;omega
 refine .mk _ _ _ _ _ _ n0 (fun i hi=>?_);match i,hi with
 | 0,_=>exact leaf _ _ _ _ _ n0
 | 1,_=>exact leaf _ _ _ _ _ n7
set_option maxRecDepth 100000 in
theorem jHX:Sp.oZ oP oP=true:=by kernel_rfl
set_option maxRecDepth 100000 in
set_option maxHeartbeats 2000000 in
theorem jIP (w0:World) (ht:Pow w0) (hv:ErrV w0):Calls prog 9 #[] w0 (fun e w'=>∃r:Bool,e=.returned (.bool r)∧(r=true∧Pure w0 w')):=by
 refine w_Y w0 (fun r w'=>r=true∧Pure w0 w') ?_;unfold m_Y;refine (jCU (S:=fun _=>False) (.mk 3 0 0 0 ⟨#[100,101,97,108]⟩ []) (.mk 2 0 0 7 ⟨#[]⟩ []) Sl.nil Sl.nil w0 TreeAt.leaf TreeAt.leaf (fun b hb=>hb.elim)).mono ?_;rintro _ w1 ⟨s,rfl,hT1,E1⟩;refine ⟨_,_,_,_,_,s,rfl,E1.keptP,?_⟩;intro p1 w2 n2 H1 w4 hs4;have E2:Pure w1 w2:=Ext.new n2;have E02:=E1.trans E2;have y2:=n2.at_size;have z1:=E1.size;have z2:=E2.size;have B2:=Box.of_new n2;have l2:=B2.lt;have T2:TT w0 w2 None (Sl.mk (some p1) 1 1) oP:=by
  refine TreeAt.one (A:=.mk 4 0 0 0 ⟨#[]⟩ [.mk 3 0 0 0 ⟨#[100,101,97,108]⟩ [],.mk 2 0 0 7 ⟨#[]⟩ []]) (sa:=s) B2 ⟨by omega,by omega,id⟩ ?_;exact (TreeAt.pure hT1 E2).mono (fun b hb=>by
   rcases hb with hb | hb
   ·exact hb.elim
   ·exact ⟨hb.1,by omega,id⟩)
 have T4:=TT.hst T2 hs4;have E4:=E02.hst hs4;refine (jKI oP (Sl.mk (some p1) 1 1) w4 T4 (fun b hb=>hb.2.1) jJX (by decide) (kT ht E4)).mono ?_;rintro _ w5 ⟨r1,r2,rfl,⟨hr1,hr2⟩,E5⟩;rw [jHW] at hr1 hr2;subst hr1;subst hr2;refine ⟨_,_,rfl,E5.keptP,?_⟩;have T5:=gN T4 E5;have E05:=E4.trans E5;have hH1:=hs4.here.lt;refine (xX _ w5 (vO hv E05)).mono ?_;intro e w6 hR;obtain ⟨k,f,t,u,y,ks,s2,hR1,rfl,hT6,E6⟩:=hR.un;rw [tF] at hR1;rw [tF];simp only at hR1;rw [← hR1] at hT6;refine ⟨_,_,_,_,_,s2,_,_,rfl,E6.keptP,?_⟩;have T6:=gN T5 E6;have T26:TT w0 w6 H1 s2 oP:=jHK hT6 E05 (fun b hb=>by have:=hH1 b hb;have:=E5.size;omega);have E06:=E05.trans E6;intro H2 w8 hs8;have T8:=TT.hst T6 hs8;have T28:=TT.hst T26 hs8;have E08:=E06.hst hs8;refine (xX _ w8 (vO hv E08)).mono ?_;intro e w9 hR;obtain ⟨k3,f3,t3,u3,y3,ks3,s3,_,rfl,_,E9⟩:=hR.un;rw [jFO];refine ⟨_,_,_,_,_,s3,_,_,rfl,E9.keptP,?_⟩;intro H3 w11 hs11;have T11:=TT.hst (gN T8 E9) hs11;have T211:=TT.hst (gN T28 E9) hs11;have E11:=(E08.trans E9).hst hs11;refine (xX _ w11 (vO hv E11)).mono ?_;intro e w12 hR;obtain ⟨k4,f4,t4,u4,y4,ks4,s4,_,rfl,_,E12⟩:=hR.un;rw [jFN];refine ⟨_,_,_,_,_,s4,_,_,rfl,E12.keptP,?_⟩;rintro y1 rfl;refine Br.t (by kernel_rfl) (fun H6 w18 hs18=>?_);have T18:=TT.hst (gN T11 E12) hs18;have T218:=TT.hst (gN T211 E12) hs18;have E18:=(E11.trans E12).hst hs18;have hmk:oP=.mk k f t u y ks:=hR1;rw [hmk] at T218;refine (jCP (S:=fun b=>b<w18.heap.size) oP (.mk k f t u y ks) (Sl.mk (some p1) 1 1) s2 w18 (T18.mono (fun b hb=>hb.2.1)) (T218.mono (fun b hb=>hb.2.1)) (fun b hb=>hb)).mono ?_;rintro _ w28 ⟨r9,rfl,hr9,E28⟩;rw [← hmk,jHX] at hr9;subst hr9;refine ⟨_,rfl,E28.keptP,?_⟩;unfold m_Y_j1;rintro y2 rfl H10 w27 hs27;exact ⟨by kernel_rfl,(E18.trans E28).hst hs27⟩
end Go.Proofs
end
section
open Go Go.SE
namespace Go.Sp
open Go.Proofs
abbrev noX:ByteArray:=⟨#[]⟩
inductive TG:Tree→Nat→NP
 | name {k:Int} {v:Nat} (hk:k=1∨k=6) (hv:v<16):TG (.mk k v 0 0 noX []) 1 1
 | num {u:Nat} (hu:u<18446744073709551616):TG (.mk 2 0 0 u noX []) 1 1
 | data {x:ByteArray} (hx:x.size≤64):TG (.mk 3 0 0 0 x []) 1 1
 | pair {a b:Tree} {sa da sb db:Nat} (ha:TG a sa da) (hb:TG b sb db):TG (.mk 4 0 0 0 noX [a,b]) (1+(sa+sb)) (max da db+1)
 | hash {a:Tree} {sa da:Nat} (ha:TG a sa da):TG (.mk 5 0 0 0 noX [a]) (1+sa) (da+1)
 | sign {v:Nat} {a:Tree} {sa da:Nat} (hv:v<16) (ha:TG a sa da):TG (.mk 7 v 0 0 noX [a]) (1+sa) (da+1)
 | prom {k:Int} {v u:Nat} {a:Tree} {sa da:Nat} (hk:k=8∨k=9) (hv:v<16) (hu:u<16) (hn:v≠u) (ha:TG a sa da):TG (.mk k v u 0 noX [a]) (1+sa) (da+1)
theorem gB {k f t u:Int} {x:ByteArray} {len:Nat} (h1:jX ⟨k,f,t,u,x,0,0⟩=0) (h2:(len:Int)=(shapeOf k).kids) (h3:jV (shapeOf k) ⟨k,f,t,u,x,0,0⟩=0):zW ⟨k,f,t,u,x,0,0⟩ len=0:=by
 unfold zW;simp only [h1];simp [h2,h3]
theorem jJQ {k:Int} {v:Nat} (hk:k=1∨k=6) (hv:v<16):zW ⟨k,v,0,0,noX,0,0⟩ 0=0:=by
 rcases hk with rfl | rfl <;> exact gB (by simp [jX,shapeOf,isKind]) (by simp [shapeOf]) (by simp [jV,shapeOf,qO,ByteArray.size];omega)
theorem jLT (u:Nat):zW ⟨2,0,0,u,noX,0,0⟩ 0=0 :=
 gB (by simp [jX,shapeOf,isKind]) (by simp [shapeOf]) (by simp [jV,shapeOf,qO,ByteArray.size])
theorem jJS {x:ByteArray} (hx:x.size≤64):zW ⟨3,0,0,0,x,0,0⟩ 0=0 :=
 gB (by simp [jX,shapeOf,isKind]) (by simp [shapeOf]) (by simp [jV,shapeOf,qO];omega)
theorem jJP:zW ⟨4,0,0,0,noX,0,0⟩ 2=0:=by kernel_rfl
theorem jJR:zW ⟨5,0,0,0,noX,0,0⟩ 1=0:=by kernel_rfl
theorem jJN {v:Nat} (hv:v<16):zW ⟨7,v,0,0,noX,0,0⟩ 1=0 :=
 gB (by simp [jX,shapeOf,isKind]) (by simp [shapeOf]) (by simp [jV,shapeOf,qO,ByteArray.size];omega)
theorem jJO {k:Int} {v u:Nat} (hk:k=8∨k=9) (hv:v<16) (hu:u<16) (hn:v≠u):zW ⟨k,v,u,0,noX,0,0⟩ 1=0:=by
 have:¬ (u:Int)=v:=by omega
 rcases hk with rfl | rfl <;> exact gB (by simp [jX,shapeOf,isKind]) (by simp [shapeOf]) (by simp [jV,shapeOf,qO,this,ByteArray.size];omega)
theorem TG.gp {t:Tree} {s d:Nat} (h:TG t s d):GP t s d:=by
 induction h with
 | name hk hv=>exact GP0 (jJQ hk hv)
 | num hu=>exact GP0 (jLT _)
 | data hx=>exact GP0 (jJS hx)
 | @pair a b sa da sb db _ _ h1 h2 =>
  have:=GP2 jJP h1 h2
  rw [show ((1+(sa+sb):Nat):Int)=1+((sa:Int)+(sb:Int)) by omega,show ((max da db+1:Nat):Int)=max (da:Int) (db:Int)+1 by omega]
  exact this
 | hash _ h=>simpa using GP1 jJR h
 | sign hv _ h=>simpa using GP1 (jJN hv) h
 | prom hk hv hu hn _ h=>simpa using GP1 (jJO hk hv hu hn) h
theorem TG.cnt {t:Tree} {s d:Nat} (h:TG t s d):cnt t=s∧1≤d:=by
 induction h with
 | pair _ _ h1 h2=>simp [Sp.cnt,cntAll,h1.1,h2.1]
 | hash _ h=>simp [Sp.cnt,cntAll,h.1]
 | sign _ _ h=>simp [Sp.cnt,cntAll,h.1]
 | prom _ _ _ _ _ h=>simp [Sp.cnt,cntAll,h.1]
 | _=>simp [Sp.cnt,cntAll]
theorem TG.nums {t:Tree} {s d:Nat} (h:TG t s d):NumT t:=by
 have k1:∀{a:Tree},NumT a→∀i (hi:i<[a].length),NumT [a][i]:=fun h i hi=>by
  have:i=0:=by simp at hi;exact hi
  subst this;exact h
 have k2:∀{a b:Tree},NumT a→NumT b→∀i (hi:i<[a,b].length),NumT [a,b][i]:=fun h1 h2 i hi=>by
  rcases (show i=0∨i=1 by simp at hi;omega) with rfl | rfl
  ·exact h1
  ·exact h2
 have k0:∀i (hi:i<([]:List Tree).length),NumT ([]:List Tree)[i]:=fun i hi=>by simp at hi
 have z:oQ 0:=⟨by decide,by decide⟩;induction h with
 | name hk hv=>exact .mk _ _ _ _ _ _ z k0
 | num hu=>exact .mk _ _ _ _ _ _ ⟨by omega,by omega⟩ k0
 | data hx=>exact .mk _ _ _ _ _ _ z k0
 | pair _ _ h1 h2=>exact .mk _ _ _ _ _ _ z (k2 h1 h2)
 | hash _ h=>exact .mk _ _ _ _ _ _ z (k1 h)
 | sign _ _ h=>exact .mk _ _ _ _ _ _ z (k1 h)
 | prom _ _ _ _ _ h=>exact .mk _ _ _ _ _ _ z (k1 h)
theorem jME (t:Tree):Good t→NumT t→∃s d,TG t s d:=by
 induction t using Tree.ind with
 | h k f to u x ks ih =>
  intro hg hn
  obtain ⟨_,_,_,_,_,_,own,kids⟩:=hg
  obtain ⟨_,_,_,_,_,_,hu,hnk⟩:=hn
  have hu:0≤u∧u<18446744073709551616:=hu
  obtain ⟨hx,hk⟩:=xW own
  obtain ⟨p1,p2,p3⟩:=yW own
  have one:ks.length=1→∃A s d,ks=[A]∧TG A s d:=fun h=>by
   obtain ⟨A,rfl⟩:=List.length_eq_one_iff.1 h;obtain ⟨s,d,h⟩:=ih 0 (by simp) (kids 0 (by simp)) (hnk 0 (by simp));exact ⟨A,s,d,rfl,h⟩
  have nil0:ks.length=0→ks=[]:=fun h=>List.length_eq_zero_iff.1 h
  rcases hk with ⟨rfl,hl⟩ | ⟨rfl,hl⟩ | ⟨rfl,hl⟩ | ⟨rfl,hl⟩ | ⟨rfl,hl⟩ | ⟨rfl,hl⟩ | ⟨rfl,hl⟩ | ⟨rfl,hl⟩ | ⟨rfl,hl⟩
  all_goals simp [jX,shapeOf,isKind,and_assoc] at p1
  all_goals simp [jV,shapeOf,qO] at p3
  ·obtain ⟨rfl,rfl,rfl⟩:=p1
   have hf:¬ (f<0∨16≤f):=fun hh=>by rw [if_pos hh] at p3;cases p3
   obtain ⟨v,rfl⟩:∃v:Nat,f=v:=⟨f.toNat,by omega⟩
   rw [nil0 hl];exact ⟨1,1,.name (.inl rfl) (by omega)⟩
  ·obtain ⟨rfl,rfl,rfl⟩:=p1
   obtain ⟨v,rfl⟩:∃v:Nat,u=v:=⟨u.toNat,by omega⟩
   rw [nil0 hl];exact ⟨1,1,.num (by omega)⟩
  ·obtain ⟨rfl,rfl,rfl⟩:=p1
   rw [nil0 hl];exact ⟨1,1,.data hx⟩
  ·obtain ⟨rfl,rfl,rfl,rfl⟩:=p1
   match ks,hl,ih,kids,hnk with
   | [A,B],_,ih,kids,hnk =>
    obtain ⟨_,_,h1⟩:=ih 0 (by simp) (kids 0 (by simp)) (hnk 0 (by simp))
    obtain ⟨_,_,h2⟩:=ih 1 (by simp) (kids 1 (by simp)) (hnk 1 (by simp))
    exact ⟨_,_,.pair h1 h2⟩
  ·obtain ⟨rfl,rfl,rfl,rfl⟩:=p1
   obtain ⟨A,s,d,rfl,h⟩:=one hl
   exact ⟨_,_,.hash h⟩
  ·obtain ⟨rfl,rfl,rfl⟩:=p1
   have hf:¬ (f<0∨16≤f):=fun hh=>by rw [if_pos hh] at p3;cases p3
   obtain ⟨v,rfl⟩:∃v:Nat,f=v:=⟨f.toNat,by omega⟩
   rw [nil0 hl];exact ⟨1,1,.name (.inr rfl) (by omega)⟩
  ·obtain ⟨rfl,rfl,rfl⟩:=p1
   have hf:¬ (f<0∨16≤f):=fun hh=>by rw [if_pos hh] at p3;cases p3
   obtain ⟨v,rfl⟩:∃v:Nat,f=v:=⟨f.toNat,by omega⟩
   obtain ⟨A,s,d,rfl,h⟩:=one hl
   exact ⟨_,_,.sign (by omega) h⟩
  ·obtain ⟨rfl,rfl⟩:=p1
   have hf:¬ ((f<0∨16≤f)∨(to<0∨16≤to)∨to=f):=fun hh=>by rw [if_pos (by omega)] at p3;cases p3
   obtain ⟨v,rfl⟩:∃v:Nat,f=v:=⟨f.toNat,by omega⟩
   obtain ⟨w,rfl⟩:∃w:Nat,to=w:=⟨to.toNat,by omega⟩
   obtain ⟨A,s,d,rfl,h⟩:=one hl
   exact ⟨_,_,.prom (.inl rfl) (by omega) (by omega) (by omega) h⟩
  ·obtain ⟨rfl,rfl⟩:=p1
   have hf:¬ ((f<0∨16≤f)∨(to<0∨16≤to)∨to=f):=fun hh=>by rw [if_pos (by omega)] at p3;cases p3
   obtain ⟨v,rfl⟩:∃v:Nat,f=v:=⟨f.toNat,by omega⟩
   obtain ⟨w,rfl⟩:∃w:Nat,to=w:=⟨to.toNat,by omega⟩
   obtain ⟨A,s,d,rfl,h⟩:=one hl
   exact ⟨_,_,.prom (.inr rfl) (by omega) (by omega) (by omega) h⟩
theorem TG.looks {t:Tree} {s d:Nat} (h:TG t s d) (hs:s≤4096) (hd:d≤64):(looks 0 0 t).1=0:=by
 rw [h.gp.yes 0 0 (by omega) (by omega) (by omega) (by omega)]
theorem TG.of {t:Tree} {s d:Nat} (h:TG t s d) (hs:s≤4096) (hd:d≤64):(of [] t).2.1=0:=by
 rcases h.gp.of (L:=[]) (by omega) (by omega) Wf.nil with h | ⟨_,h⟩
 ·exact h
 ·simp at h;omega
theorem of_tg {L:Pool} {t:Tree} (h:(Sp.of L t).2.1=0) (hn:NumT t):∃s d,TG t s d∧s≤4096∧d≤64:=by
 have hl:(Sp.looks 0 0 t).1=0:=by
  unfold Sp.of at h;split at h
  ·rename_i hh;exact absurd h hh
  ·rename_i hh;simpa using hh
 obtain ⟨s,d,hT⟩:=jME t (yF t 0 0 hl) hn;have hb:¬ (4096<(0:Int)+s∨64<(0:Int)+d):=fun hh=>by
  have:=hT.gp.no 0 0 (by omega) (by omega) hh;omega
 exact ⟨s,d,hT,by omega,by omega⟩
theorem jFD {n:Nat} (h:n<18446744073709551616):u64N (n:Int)=n:=by
 unfold u64N;rw [IntKind.wrap_u64];omega
theorem jCG (l:List UInt8) (c:UInt8):decV (l++[c])=10*decV l+(c.toNat - 48):=by unfold decV;rw [List.foldl_append];rfl
theorem digc (d:Nat) (h:d<10):(UInt8.ofNat (48+d)).toNat=48+d:=by rw [UInt8.toNat_ofNat'];omega
theorem jES (n:Nat):decV (Lib.decDigits n)=n∧(∀c∈Lib.decDigits n,isDig c=true)∧(∃c l,Lib.decDigits n=c :: l∧(c=48→n=0)):=by
 induction n using Nat.strongRecOn with
 | _ n ih =>
  by_cases h:n<10
  ·rw [Lib.decDigits,dif_pos h]
   have hc:=digc n h
   refine ⟨?_,fun c hc'=>?_,_,[],rfl,fun e=>?_⟩
   ·unfold decV;simp only [List.foldl_cons,List.foldl_nil,hc];omega
   ·simp only [List.mem_singleton] at hc'
    subst hc'
    unfold isDig
    rw [hc];simp;omega
   ·have:=congrArg UInt8.toNat e
    rw [hc] at this
    have e48:(48:UInt8).toNat=48:=rfl
    omega
  ·rw [Lib.decDigits,dif_neg h]
   have hc:=digc (n % 10) (by omega)
   obtain ⟨h1,h2,c,l,h3,h4⟩:=ih (n / 10) (by omega)
   refine ⟨?_,fun c hc'=>?_,c,l++[UInt8.ofNat (48+n % 10)],by rw [h3];rfl,fun e=>by have:=h4 e;omega⟩
   ·rw [jCG,h1,hc];omega
   ·rcases List.mem_append.1 hc' with hm | hm
    ·exact h2 c hm
    ·simp only [List.mem_singleton] at hm
     subst hm
     unfold isDig
     rw [hc];simp;omega
theorem jFZ {n:Nat} (h:n<18446744073709551616):yH (Lib.decDigits n)=false:=by
 obtain ⟨h1,h2,c,l,h3,h4⟩:=jES n;unfold yH;rw [h1];by_cases h10:n<10
 ·rw [Lib.decDigits,dif_pos h10];simp;omega
 ·have:c≠48:=fun e=>by have:=h4 e;omega
  rw [h3];simp [this];omega
section
variable {B:List UInt8}
theorem qK {i:Nat} {l m:List UInt8} (h:B.drop i=l++m):B.drop (i+l.length)=m:=by
 rw [← List.drop_drop,h,List.drop_left]
theorem zX {i:Nat} {c:UInt8} {m:List UInt8} (h:B.drop i=c :: m):B.drop (i+1)=m:=qK (l:=[c]) h
theorem qT {i:Nat} {c:UInt8} {m:List UInt8} (h:B.drop i=c :: m):B[i]?=some c:=by
 have:=List.getElem?_drop (xs:=B) (i:=i) (j:=0);rw [h] at this;simpa using this.symm
abbrev NoDg (l:List UInt8):Prop:=l.takeWhile isDig=[]
theorem jBO {i n:Nat} {post:List UInt8} (hn:n<18446744073709551616) (h:B.drop i=Lib.decDigits n++post) (hp:NoDg post):qQ B i=.ok n (i+(Lib.decDigits n).length):=by
 obtain ⟨h1,h2,c,l,h3,_⟩:=jES n;have hd:zB B i=Lib.decDigits n:=by
  unfold zB;rw [h,List.takeWhile_append_of_pos h2,hp,List.append_nil]
 have hc:B[i]?=some c:=qT (m:=l++post) (by rw [h,h3];rfl);unfold qQ;rw [hc];simp only;rw [if_neg (by rw [h2 c (by rw [h3];simp)];simp),hd,if_neg (by rw [jFZ hn];simp),h1]
theorem uF {i v:Nat} {nt:Int} {post:List UInt8} (hv:v<16) (hn:(v:Int)≠nt) (h:B.drop i=Lib.decDigits (u64N v)++post) (hp:NoDg post):zV B nt i=.ok v (i+(Lib.decDigits (u64N v)).length):=by
 rw [jFD (by omega)] at *;unfold zV;rw [jBO (by omega) h hp];show (if 16≤v∨(v:Int)=nt then _ else _)=_;rw [if_neg (by omega)]
theorem uA {i:Nat} {c:Nat} {d:UInt8} {post:List UInt8} (h:B.drop i=d :: post) (hc:d.toNat=c):kA B c i=.ok () (i+1):=by
 unfold kA;rw [qT h];simp only;rw [if_pos hc]
theorem uX {i:Nat} {c:UInt8} {post:List UInt8} (h:B.drop i=c :: post) (hc:c.toNat≠32):jU B i=i:=by
 unfold jU;rw [h,List.takeWhile_cons_of_neg (by simpa using hc)];rfl
theorem jIU {i:Nat} {c:UInt8} {post:List UInt8} (h:B.drop i=32 :: c :: post) (hc:c.toNat≠32):jU B i=i+1:=by
 unfold jU;rw [h,List.takeWhile_cons_of_pos (by decide),List.takeWhile_cons_of_neg (by simpa using hc)];rfl
theorem hex16:∀v,v<16→jDB (jAW v).toNat=some v:=by decide
theorem jBX {i v:Nat} {post:List UInt8} (hv:v<16) (h:B.drop i=jAW v :: post):vC B i=.ok v (i+1):=by
 unfold vC;rw [qT h];simp only;rw [hex16 v hv]
theorem tJ (frm:Nat):∀(l:List UInt8) (f i:Nat) (acc post:List UInt8),B.drop i=l.flatMap qEsc++34 :: post→acc.length+l.length≤64→l.length<f→vN B frm f i acc=.ok (acc++l) (i+(l.flatMap qEsc).length+1)
 | [],f+1,i,acc,post,h,hl,hf=>by
  unfold vN;rw [qT (show B.drop i=34 :: post from h)];simp only;rw [if_neg (by decide),if_pos (by decide),if_neg (by simp at hl;omega)];simp
 | c :: l,f+1,i,acc,post,h,hl,hf=>by
  have ih:=fun (i:Nat) (c:UInt8) (h:B.drop i=l.flatMap qEsc++34 :: post)=>tJ frm l f i (acc++[c]) post h (by simp at hl ⊢;omega) (by simp at hf;omega);have hc256:=UInt8.toNat_lt c;rw [List.flatMap_cons,List.append_assoc] at h;unfold vN;rw [List.flatMap_cons,List.length_append];generalize l.flatMap qEsc=Q at *;unfold qEsc at h ⊢;by_cases h1:c.toNat=34∨c.toNat=92
  ·rw [if_pos h1] at h ⊢;have h:B.drop i=92 :: c :: (Q++34 :: post):=h;have h':=zX h;rw [qT h,qT h'];simp only;rw [if_neg (by decide),if_neg (by decide),if_pos (by decide),if_neg (by omega),if_pos h1,ih (i+2) c (zX h')];simp;omega
  ·rw [if_neg h1] at h ⊢;by_cases h2:c.toNat<32∨126<c.toNat
   ·rw [if_pos h2] at h ⊢;have h:B.drop i=92 :: 120 :: jAW (c.toNat / 16) :: jAW (c.toNat % 16) :: (Q++34 :: post):=h;have h':=zX h;have h'':=zX h';have h3:=zX h'';rw [qT h,qT h'];simp only;rw [if_neg (by decide),if_neg (by decide),if_pos (by decide),if_pos (by decide),jBX (by omega) h''];show (vC B (i+2+1)).bind _=_;rw [jBX (by omega) h3];show vN B frm f (i+2+1+1) (acc++[UInt8.ofNat (16*(c.toNat / 16)+c.toNat % 16)])=_;rw [show 16*(c.toNat / 16)+c.toNat % 16=c.toNat by omega,UInt8.ofNat_toNat,ih _ c (zX h3)];simp;omega
   ·rw [if_neg h2] at h ⊢;have h:B.drop i=c :: (Q++34 :: post):=h;rw [qT h];simp only;rw [if_neg h2,if_neg (by omega),if_neg (by omega),ih _ c (zX h)];simp;omega
theorem jEK:∀l:List UInt8,l.length≤(l.flatMap qEsc).length
 | []=>by simp
 | c :: l=>by
  have:=jEK l;have:1≤(qEsc c).length:=by
   unfold qEsc
   repeat' split
   all_goals simp
  rw [List.flatMap_cons,List.length_append,List.length_cons];omega
theorem jIH {j:Nat} {x post:List UInt8} (h:B.drop j=jAV x++post) (hx:x.length≤64):qR B j=.ok x (j+(jAV x).length):=by
 unfold jAV at h ⊢;have h:B.drop j=34 :: (x.flatMap qEsc++34 :: post):=by rw [h];simp
 have h':=zX h;unfold qR;have hl:x.length<B.length+1:=by
  have:=congrArg List.length h';have:=jEK x;simp at *;omega
 rw [tJ j x _ _ [] post h' (by simpa using hx) hl];simp;omega
theorem jJD {t:Tree} {s d:Nat} (h:TG t s d):∃(c:UInt8) (l:List UInt8),shw t=c :: l∧c.toNat≠32:=by
 cases h with
 | name hk hv=>rcases hk with rfl | rfl <;> exact ⟨_,_,rfl,by decide⟩
 | num hu=>exact ⟨_,_,rfl,by decide⟩
 | data hx=>exact ⟨34,_,rfl,by decide⟩
 | pair ha hb=>exact ⟨40,_,rfl,by decide⟩
 | hash ha=>exact ⟨104,_,rfl,by decide⟩
 | sign hv ha=>exact ⟨115,_,rfl,by decide⟩
 | prom hk hv hu hn ha=>rcases hk with rfl | rfl <;> exact ⟨_,_,rfl,by decide⟩
theorem qE {i n D:Nat} {c:UInt8} {post:List UInt8} {k:Int} (h:B.drop i=c :: post) (hc:c.toNat≠32) (hk:kL c.toNat=k) (h0:k≠0) (hn:n<4096) :
  jT B (D+1) i n=(kI B (jT B D) k (n+1) i).bind fun t k=>.ok t (jU B k):=by
 unfold jT
 rw [uX h hc,qT h]
 simp only
 rw [if_neg (by rw [hk];exact h0),if_neg (by omega),hk]
theorem gY {i n D:Nat} {a:Tree} {s:Nat} {post:List UInt8} (h:B.drop i=40 :: (shw a++41 :: post)) (hT:jT B D (i+1) n=.ok (a,n+s) (jU B (i+1+(shw a).length))) :
  kN B (jT B D) n i=.ok (a,n+s) (i+2+(shw a).length):=by
 have h1:=zX h
 have h2:=qK h1
 unfold kN
 rw [uA (c:=40) h rfl]
 show (jT B D (i+1) n).bind _=_
 rw [hT,uX h2 (by decide)]
 show (kA B 41 (i+1+(shw a).length)).bind _=_
 rw [uA (c:=41) h2 rfl]
 show Rr.ok (a,n+s) _=_
 rw [show i+1+(shw a).length+1=i+2+(shw a).length by omega]
theorem there {t:Tree} {s d:Nat} (h:TG t s d):∀(i n D:Nat) (post:List UInt8),B.drop i=shw t++post→NoDg post→d≤D→n+s≤4096→jT B D i n=.ok (t,n+s) (jU B (i+(shw t).length)):=by
 induction h with
 | @name k v hk hv =>
  intro i n D post hB hp hD hn
  obtain ⟨D,rfl⟩:∃D',D=D'+1:=⟨D - 1,by omega⟩
  obtain ⟨c,e,hc,hkc⟩:∃c:UInt8,shw (.mk k v 0 0 noX [])=c :: Lib.decDigits (u64N v)∧c.toNat≠32∧kL c.toNat=k:=by
   rcases hk with rfl | rfl
   ·exact ⟨110,by simp [shw,yK,qI],by decide,by decide⟩
   ·exact ⟨107,by simp [shw,yK,qI],by decide,by decide⟩
  rw [e] at hB ⊢
  have hB:B.drop i=c :: (Lib.decDigits (u64N v)++post):=hB
  rw [qE hB hc hkc (by omega) (by omega)]
  unfold kI
  rw [if_pos hk,uF hv (by omega) (zX hB) hp]
  show Rr.ok _ _=_
  rw [List.length_cons,show i+((Lib.decDigits (u64N v)).length+1)=i+1+(Lib.decDigits (u64N v)).length by omega];rfl
 | @num u hu =>
  intro i n D post hB hp hD hn
  obtain ⟨D,rfl⟩:∃D',D=D'+1:=⟨D - 1,by omega⟩
  have e:shw (.mk 2 0 0 u noX [])=35 :: Lib.decDigits u:=by simp [shw,yK,qI]
  rw [e] at hB ⊢
  have hB:B.drop i=35 :: (Lib.decDigits u++post):=hB
  rw [qE hB (by decide) (k:=2) (by decide) (by omega) (by omega)]
  unfold kI
  rw [if_neg (by decide),if_pos rfl,jBO hu (zX hB) hp]
  show Rr.ok _ _=_
  rw [List.length_cons,show i+((Lib.decDigits u).length+1)=i+1+(Lib.decDigits u).length by omega];rfl
 | @data x hx =>
  intro i n D post hB hp hD hn
  obtain ⟨D,rfl⟩:∃D',D=D'+1:=⟨D - 1,by omega⟩
  have e:shw (.mk 3 0 0 0 x [])=jAV x.data.toList:=by simp [shw,yK,qI]
  rw [e] at hB ⊢
  have hB':B.drop i=34 :: ((x.data.toList.flatMap qEsc++[34])++post):=hB
  rw [qE hB' (by decide) (k:=3) (by decide) (by omega) (by omega)]
  unfold kI
  rw [if_neg (by decide),if_neg (by decide),if_pos rfl,jIH hB (by rw [Array.length_toList];exact hx)]
  rfl
 | @pair a b sa da sb db ha hb ia ib =>
  intro i n D post hB hp hD hn
  obtain ⟨D,rfl⟩:∃D',D=D'+1:=⟨D - 1,by omega⟩
  have e:shw (.mk 4 0 0 0 noX [a,b])=40 :: (shw a++(32 :: (shw b++[41]))):=by simp [shw,yK,jDA,qI]
  rw [e] at hB ⊢
  have hB:B.drop i=40 :: (shw a++(32 :: (shw b++41 :: post))):=by rw [hB];simp
  have h1:=zX hB
  have h2:=qK h1
  have h3:=zX h2
  have h4:=qK h3
  obtain ⟨c,l,hcb,hc⟩:=jJD hb
  have hbl:=jIU (B:=B) (i:=i+1+(shw a).length) (c:=c) (post:=l++41 :: post) (by rw [h2,hcb];rfl) hc
  rw [qE hB (by decide) (k:=4) (by decide) (by omega) (by omega)]
  unfold kI
  rw [if_neg (by decide),if_neg (by decide),if_neg (by decide),if_pos rfl,ia (i+1) (n+1) D _ h1 (by unfold NoDg;rw [List.takeWhile_cons_of_neg (by decide)]) (by omega) (by omega),hbl]
  show Rr.bind (Rr.bind (jT B D (i+1+(shw a).length+1) (n+1+sa)) _) _=_
  rw [ib _ (n+1+sa) D _ h3 (by unfold NoDg;rw [List.takeWhile_cons_of_neg (by decide)]) (by omega) (by omega),uX h4 (by decide)]
  show Rr.bind (Rr.bind (kA B 41 _) _) _=_
  rw [uA (c:=41) h4 rfl]
  show Rr.ok _ _=_
  simp only [List.length_cons,List.length_append,List.length_nil]
  rw [show i+((shw a).length+((shw b).length+(0+1)+1)+1)=i+1+(shw a).length+1+(shw b).length+1 by omega,show n+(1+(sa+sb))=n+1+sa+sb by omega];rfl
 | @hash a sa da ha ia =>
  intro i n D post hB hp hD hn
  obtain ⟨D,rfl⟩:∃D',D=D'+1:=⟨D - 1,by omega⟩
  have e:shw (.mk 5 0 0 0 noX [a])=104 :: 40 :: (shw a++[41]):=by simp [shw,yK,jDA,qI]
  rw [e] at hB ⊢
  have hB:B.drop i=104 :: 40 :: (shw a++41 :: post):=by rw [hB];simp
  have h1:=zX hB
  rw [qE hB (by decide) (k:=5) (by decide) (by omega) (by omega)]
  unfold kI
  rw [if_neg (by decide),if_neg (by decide),if_neg (by decide),if_neg (by decide),if_pos rfl,gY (s:=sa) h1 (ia _ (n+1) D _ (zX h1) (by unfold NoDg;rw [List.takeWhile_cons_of_neg (by decide)]) (by omega) (by omega))]
  show Rr.ok _ _=_
  simp only [List.length_cons,List.length_append,List.length_nil]
  rw [show i+((shw a).length+(0+1)+1+1)=i+1+2+(shw a).length by omega,show n+(1+sa)=n+1+sa by omega];rfl
 | @sign v a sa da hv ha ia =>
  intro i n D post hB hp hD hn
  obtain ⟨D,rfl⟩:∃D',D=D'+1:=⟨D - 1,by omega⟩
  have e:shw (.mk 7 v 0 0 noX [a])=115 :: (Lib.decDigits (u64N v)++40 :: (shw a++[41])):=by simp [shw,yK,jDA,qI]
  rw [e] at hB ⊢
  have hB:B.drop i=115 :: (Lib.decDigits (u64N v)++40 :: (shw a++41 :: post)):=by rw [hB];simp
  have h1:=zX hB
  have h2:=qK h1
  rw [qE hB (by decide) (k:=7) (by decide) (by omega) (by omega)]
  unfold kI
  rw [if_neg (by decide),if_neg (by decide),if_neg (by decide),if_neg (by decide),if_neg (by decide),if_pos rfl,uF hv (by omega) h1 (by unfold NoDg;rw [List.takeWhile_cons_of_neg (by decide)])]
  show Rr.bind (Rr.bind (kN B (jT B D) (n+1) (i+1+(Lib.decDigits (u64N v)).length)) _) _=_
  rw [gY (s:=sa) h2 (ia _ (n+1) D _ (zX h2) (by unfold NoDg;rw [List.takeWhile_cons_of_neg (by decide)]) (by omega) (by omega))]
  show Rr.ok _ _=_
  simp only [List.length_cons,List.length_append,List.length_nil]
  rw [show i+((Lib.decDigits (u64N v)).length+((shw a).length+(0+1)+1)+1)=i+1+(Lib.decDigits (u64N v)).length+2+(shw a).length by omega,show n+(1+sa)=n+1+sa by omega];rfl
 | @prom k v u a sa da hk hv hu hne ha ia =>
  intro i n D post hB hp hD hn
  obtain ⟨D,rfl⟩:∃D',D=D'+1:=⟨D - 1,by omega⟩
  obtain ⟨c,e,hc,hkc⟩:∃c:UInt8,shw (.mk k v u 0 noX [a])=c :: (Lib.decDigits (u64N v)++62 :: (Lib.decDigits (u64N u)++40 :: (shw a++[41])))∧c.toNat≠32∧kL c.toNat=k:=by
   rcases hk with rfl | rfl
   ·exact ⟨112,by simp [shw,yK,jDA,qI],by decide,by decide⟩
   ·exact ⟨102,by simp [shw,yK,jDA,qI],by decide,by decide⟩
  rw [e] at hB ⊢
  have hB:B.drop i=c :: (Lib.decDigits (u64N v)++62 :: (Lib.decDigits (u64N u)++40 :: (shw a++41 :: post))):=by rw [hB];simp
  have h1:=zX hB
  have h2:=qK h1
  have h3:=zX h2
  have h4:=qK h3
  rw [qE hB hc hkc (by omega) (by omega)]
  unfold kI
  rw [if_neg (by omega),if_neg (by omega),if_neg (by omega),if_neg (by omega),if_neg (by omega),if_neg (by omega),uF hv (by omega) h1 (by unfold NoDg;rw [List.takeWhile_cons_of_neg (by decide)])]
  show Rr.bind (Rr.bind (kA B 62 (i+1+(Lib.decDigits (u64N v)).length)) _) _=_
  rw [uA (c:=62) h2 rfl]
  show Rr.bind (Rr.bind (zV B v (i+1+(Lib.decDigits (u64N v)).length+1)) _) _=_
  rw [uF hu (by omega) h3 (by unfold NoDg;rw [List.takeWhile_cons_of_neg (by decide)])]
  show Rr.bind (Rr.bind (kN B (jT B D) (n+1) (i+1+(Lib.decDigits (u64N v)).length+1+(Lib.decDigits (u64N u)).length)) _) _=_
  rw [gY (s:=sa) h4 (ia _ (n+1) D _ (zX h4) (by unfold NoDg;rw [List.takeWhile_cons_of_neg (by decide)]) (by omega) (by omega))]
  show Rr.ok _ _=_
  simp only [List.length_cons,List.length_append,List.length_nil]
  rw [show i+((Lib.decDigits (u64N v)).length+((Lib.decDigits (u64N u)).length+((shw a).length+(0+1)+1)+1)+1)=i+1+(Lib.decDigits (u64N v)).length+1+(Lib.decDigits (u64N u)).length+2+(shw a).length by omega,show n+(1+sa)=n+1+sa by omega];rfl
end
theorem jHB (nd:∀n,n<18446744073709551616→(Lib.decDigits n).length≤20) {t:Tree} {s d:Nat} (h:TG t s d):(shw t).length≤131*s+128:=by
 have u:=fun n:Int=>nd (u64N n) (uQ n).2;induction h with
 | @name k v hk hv =>
  have:=u v
  rcases hk with rfl | rfl <;> (simp [shw,yK,qI];omega)
 | @num n hu =>
  have:=nd n hu
  simp [shw,yK,qI];omega
 | @data x hx =>
  have:=yB x.data.toList
  have hl:x.data.toList.length=x.size:=by rw [Array.length_toList];rfl
  have e:shw (.mk 3 0 0 0 x [])=jAV x.data.toList:=by simp [shw,yK,qI]
  rw [e];unfold jAV
  simp only [List.length_cons,List.length_append,List.length_nil];omega
 | pair _ _ h1 h2 =>
  have e:qI 4 0 0 0 noX=[]:=by simp [qI]
  simp only [shw,yK,jDA,List.length_cons,List.length_append,List.length_nil]
  rw [e]
  simp only [List.length_nil]
  omega
 | hash _ h =>
  have e:qI 5 0 0 0 noX=[104]:=by simp [qI]
  simp only [shw,yK,jDA,List.length_cons,List.length_append,List.length_nil]
  rw [e]
  simp only [List.length_cons,List.length_nil]
  omega
 | @sign v _ _ _ hv _ h =>
  have:=u v
  simp [shw,yK,jDA,qI];omega
 | @prom k v w _ _ _ hk hv hu hn _ h =>
  have:=u v
  have:=u w
  rcases hk with rfl | rfl <;> (simp [shw,yK,jDA,qI];omega)
theorem jFJ (nd:∀n,n<18446744073709551616→(Lib.decDigits n).length≤20) {t:Tree} {s d:Nat} (h:TG t s d) (hs:s≤4096) (hd:d≤64):kZ (shw t)=(t,0,0):=by
 have hl:=jHB nd h;have:=there (B:=shw t) h 0 0 64 [] (by simp) rfl hd (by omega);rw [qG (by omega)] at this;unfold kZ lQ;rw [if_neg (by omega),this];simp only;rw [if_neg (by omega)]
end Go.Sp
end
section
open Go
namespace Go.Sp
def yY (a b:Nat) (B:List UInt8):List UInt8:=List.replicate a 32++B++List.replicate b 32
section
variable {B:List UInt8} {a b:Nat}
theorem btw_in {i:Nat} (h:i<B.length):(yY a b B)[i+a]?=B[i]?:=by
 unfold yY;rw [List.append_assoc,List.getElem?_append_right (by simp),List.length_replicate,Nat.add_sub_cancel,List.getElem?_append_left h]
theorem jML {j:Nat} (h:B.length+a≤j):(yY a b B)[j]?=none∨(yY a b B)[j]?=some 32:=by
 unfold yY;rw [List.getElem?_append_right (by simp;omega)];by_cases hj:j - (List.replicate a 32++B).length<b
 ·right;rw [List.getElem?_replicate,if_pos hj]
 ·left;rw [List.getElem?_replicate,if_neg hj]
def Pos (a b:Nat) (B:List UInt8) (j j':Nat):Prop:=(j<B.length∧j'=j+a)∨(j=B.length∧B.length+a≤j'∧j'≤a+B.length+b)
def Sh {α:Type} (a b:Nat) (B:List UInt8):Rr α→Rr α→Prop
 | .ok t j,r'=>∃j',r'=.ok t j'∧Pos a b B j j'
 | .no e i,r'=>(e≠0)∧if e=3 then ∃e' i',r'=.no e' i'∧e'≠0 else r'=.no e (i+a)
theorem Sh.bind {α β:Type} {r r':Rr α} {f f':α→Nat→Rr β} (h:Sh a b B r r') (hf:∀t j j',r=.ok t j→Pos a b B j j'→Sh a b B (f t j) (f' t j')):Sh a b B (r.bind f) (r'.bind f'):=by
 cases r with
 | ok t j=>obtain ⟨j',rfl,hp⟩:=h;exact hf t j j' rfl hp
 | no e i =>
  obtain ⟨h0,h⟩:=h
  refine ⟨h0,?_⟩
  by_cases he:e=3
  ·rw [if_pos he] at h ⊢
   obtain ⟨e',i',rfl,h1⟩:=h
   exact ⟨e',i',rfl,h1⟩
  ·rw [if_neg he] at h ⊢
   subst h;rfl
theorem Sh.no {α:Type} {e:Int} {i:Nat} (h0:e≠0) (h:e≠3):Sh a b B (.no e i:Rr α) (.no e (i+a)):=⟨h0,by rw [if_neg h]⟩
theorem Sh.ok {α:Type} {t:α} {j:Nat} (hj:j≤B.length):Sh a b B (.ok t j:Rr α) (.ok t (j+a)):=⟨_,rfl,by
 by_cases h:j<B.length
 ·exact .inl ⟨h,rfl⟩
 ·exact .inr ⟨by omega,by omega,by omega⟩⟩
theorem Pos.look {j j':Nat} (h:Pos a b B j j'):(j<B.length∧j'=j+a∧(yY a b B)[j']?=B[j]?)∨(B[j]?=none∧((yY a b B)[j']?=none∨(yY a b B)[j']?=some 32)):=by
 rcases h with ⟨h,rfl⟩ | ⟨rfl,h1,h2⟩
 ·exact .inl ⟨h,rfl,btw_in h⟩
 ·exact .inr ⟨List.getElem?_eq_none (Nat.le_refl _),jML h1⟩
end
end Go.Sp
namespace Go.Sp
def RrN {α:Type} (B:List UInt8) (r:Rr α):Prop:=∀e i,r=.no e i→i≤B.length
section
variable {B:List UInt8}
theorem RrN.bind {α β:Type} {i:Nat} {r:Rr α} {f:α→Nat→Rr β} (h:RrN B r) (ho:xZ B i r) (hf:∀a j,j≤B.length→RrN B (f a j)):RrN B (r.bind f):=by
 intro e k hb;cases r with
 | no e' j=>cases hb;exact h _ _ rfl
 | ok a j=>exact hf a j (ho a j rfl).2 e k hb
theorem RrN.no {α:Type} {e:Int} {i:Nat} (h:i≤B.length):RrN B (.no e i:Rr α):=fun _ _ e=>by cases e;exact h
theorem RrN.ok {α:Type} {a:α} {i:Nat}:RrN B (.ok a i):=fun _ _ e=>by cases e
end
end Go.Sp
end
section
open Go Go.SE
namespace Go.Sp
open Go.Proofs
theorem kS {α β:Type} {r:Rr α} {f:α→Nat→Rr β} {b:β} {k:Nat} (h:r.bind f=.ok b k):∃a j,r=.ok a j∧f a j=.ok b k:=by
 cases r with
 | ok a j=>exact ⟨a,j,rfl,h⟩
 | no e i=>cases h
section
variable {B:List UInt8}
end
end Go.Sp
end
section
open Go Go.SE
namespace Go.Proofs
open Tryz
attribute [local irreducible] Calls
theorem jGA (p:Addr) (w:World) {L:Sp.Pool} {F:NP} (hP:zP w p L F):Calls prog 22 #[.pointer (some p)] w (fun e w'=>∃r:Int,e=.returned (.int .i64 r)∧(r=L.length∧w'=w)):=by
 refine w_C2 _ w (fun r w'=>r=L.length∧w'=w) ?_;unfold m_C2;obtain ⟨s,m,h,_⟩:=hP;refine Br.f rfl ⟨p,rfl,s,h.box.cell0,?_,rfl⟩;have:=h.rows.len;rw [this];simp
theorem c_kids (p:Addr) (t:Int) (w:World) {L:Sp.Pool} {F:NP} (hP:zP w p L F) (hok:Sp.Ok L):Calls prog 84 #[.pointer (some p),.int .i64 t] w (fun e w'=>∃s:Sl,e=.returned s.v∧(Lst (fun b=>w.heap.size≤b∧b<w'.heap.size) w' 1 s (tmr (Sp.jS (Sp.jJ L t)))∧Pure w w')):=by
 refine w_F2 _ _ w (fun s w'=>Lst (fun b=>w.heap.size≤b∧b<w'.heap.size) w' 1 s (tmr (Sp.jS (Sp.jJ L t)))∧Pure w w') ?_;unfold m_F2;refine (jIR p t w hP hok).mono ?_;rintro _ w1 ⟨k,f,t',u,x,a,b,r,rfl,⟨hn,_⟩,E1⟩;refine ⟨_,_,_,_,_,_,_,_,rfl,?_⟩;intro p2 w2 h2;have E2:Pure w w2:=E1.trans (Ext.new h2);have o2:=New.own E1 h2;refine bx 7 (Box.of_new h2) rfl rfl (fun w3 b2 E=>?_);have E3:Pure w w3:=E2.own o2 E;refine ⟨k,b2.cell0,?_⟩;refine (jCM k w3).mono ?_;rintro _ w4 ⟨s1,s2,s3,s4,s5,ok,rfl,⟨hs,_⟩,E4⟩;refine ⟨_,_,_,_,_,_,rfl,?_⟩;have b24:=b2.pure E4;intro p3 w5 h5;have E5:Pure w4 w5:=Ext.new h5;have b25:=b24.pure E5;have ne:p2.block≠p3.block:=h5.ne b24.blk;have E05:Pure w w5:=(E3.trans E4).trans E5;have o5:=New.own (E3.trans E4) h5;refine bx 5 (Box.of_new h5) rfl rfl (fun w6 b3 E=>?_);have b26:=b25.ext E ne;have E06:Pure w w6:=E05.own o5 E;refine ⟨a,b26.cell rfl,b,b26.cell rfl,?_⟩;intro p4 w7 h7;have E7:Pure w6 w7:=Ext.new h7;have b4:=Box.of_new h7;have hsh:Sp.shapeOf k=⟨s1,s2,s3,s4,s5⟩:=hs.symm;have hk5:s5=0∨s5=1∨s5=2:=by have:=Sp.yM k;rw [hsh] at this;exact this
 refine ⟨s5,(b3.pure E7).cell rfl,_,jEI p4 s5 w7 hk5,?_,E06.trans E7⟩;have hks:Sp.jS (Sp.jJ L t)=[a,b].take s5.toNat:=by rw [← hn];simp [Sp.jS,hsh]
 rw [hks];have z:=h7.at_size;have z6:=E06.size;have zl:=b4.lt;refine ⟨by rcases hk5 with rfl | rfl | rfl <;> rfl,fun i hi=>?_⟩;rw [jGW] at hi;have hi2:i<s5.toNat:=by simp at hi;omega
 refine ⟨p4.add (i*1),⟨by omega,by show (i:Int)<(s5.toNat:Int);omega,p4,rfl,rfl⟩,by rw [zN];omega,?_⟩;intro j hj;have hj1:j<1:=by simp only [tmr,List.getElem_map,List.length_cons,List.length_nil] at hj;omega
 have hj0:j=0:=by omega
 subst hj0;rw [qU];have h01:i=0∨i=1:=by omega
 rcases h01 with rfl | rfl
 ·rw [b4.cell (i:=0*1+0) rfl];simp [tmr]
 ·rw [b4.cell (i:=1*1+0) rfl];simp [tmr]
theorem c_Tree (p:Addr) {L:Sp.Pool} (hW:Sp.Wf L):∀(n:Nat) (t:Int) (w0:World) (F:NP),t.toNat=n→zP w0 p L F →
  Calls prog 38 #[.pointer (some p),.int .i64 t] w0 (RetT w0.heap.size w0 (Sp.zT L t)):=by
 intro n
 induction n using Nat.strongRecOn with
 | _ n ih =>
 intro t w0 F hn hP
 suffices key:∀K:Int→Int→Int→Int→ByteArray→Sl→WP,(∀k f t' u x s' w' ks,Sp.zT L t=.mk k f t' u x ks→TreeAt (w0.heap.size≤·) w' s' (.mk k f t' u x ks)→Pure w0 w'→K k f t' u x s' w')→m_D1 (some p) t w0 K by
  refine (w_D1 _ _ w0 (fun k f t' u x s' w'=>∃ks,Sp.zT L t=.mk k f t' u x ks∧TreeAt (w0.heap.size≤·) w' s' (.mk k f t' u x ks)∧Pure w0 w') (key _ (fun k f t' u x s' w' ks h1 h2 h3=>⟨ks,h1,h2,h3⟩))).mono ?_;rintro _ w' ⟨k,f,t',u,x,s',rfl,ks,h1,h2,h3⟩;rw [h1];exact ⟨s',rfl,h2,h3⟩
 intro K hK
 have hok:=hW.ok
 have hnil:∀b,¬ Sl.nil.blk b:=fun b hb=>by obtain ⟨a,h,_⟩:=hb;cases h
 unfold m_D1
 intro p2 w1 h1
 have E1:Pure w0 w1:=Ext.new h1
 have b1:=Box.of_new h1
 have z1:=h1.at_size
 have l1:=b1.lt
 refine (jIR p t w1 (hP.pure E1) hok).mono ?_
 rintro _ w2 ⟨k,f,t',u,x,a,b,r,rfl,⟨hnd,hr⟩,E2⟩
 refine ⟨_,_,_,_,_,_,_,_,rfl,?_⟩
 intro p3 w3 h3
 have b2:=b1.pure E2
 have n23:p2.block≠p3.block:=h3.ne b2.blk
 have E3:Pure w0 w3:=(E1.trans E2).trans (Ext.new h3)
 have o3:=New.own (E1.trans E2) h3
 have b23:=b2.pure (Ext.new h3:Pure w2 w3)
 refine bx 7 (Box.of_new h3) rfl rfl (fun w4 b3 X4=>?_)
 have b24:=b23.ext X4 n23
 have E4:Pure w0 w4:=E3.own o3 X4
 refine ⟨fun h=>?_,fun h=>?_⟩
 ·have hin:Sp.inP L t=false:=by rw [← hr];simpa using h
  refine bx 6 b24 rfl rfl (fun w5 b5 X5=>⟨_,_,_,_,_,Sl.nil,b5.row,?_⟩)
  exact hK _ _ _ _ _ _ _ [] (by rw [Sp.lM hin];rfl) TreeAt.leaf (E4.own (by omega) X5)
 ·have hin:Sp.inP L t=true:=by rw [← hr];simpa using h
  have htr:=Sp.vL hW hin
  have hnode:=hW.node hin
  obtain ⟨_,_,_,_,hkid,_,_⟩:=hnode
  have hpos:=Sp.zR.1 hin
  refine ⟨k,b3.cell0,f,b3.cell rfl,t',b3.cell rfl,u,b3.cell rfl,x,b3.cell rfl,?_⟩
  intro p4 w6 h6
  have n24:p2.block≠p4.block:=h6.ne b24.blk
  have E6:Pure w4 w6:=Ext.new h6
  have o6:=New.own E4 h6
  have b26:=b24.pure E6
  refine bx 6 (Box.of_new h6) rfl rfl (fun w7 b4 X7=>?_)
  have b27:=b26.ext X7 n24
  have E7:Pure w0 w7:=(E4.trans E6).own o6 X7
  refine (c_kids p t w7 (hP.pure E7) hok).mono ?_
  rintro _ w8 ⟨r2,rfl,hL,E8⟩
  refine ⟨r2,rfl,?_⟩
  generalize hks:Sp.jS (Sp.jJ L t)=ks at *
  have hkl:ks.length≤2:=by rw [← hks,Sp.jFU];have:=Sp.yM (Sp.jJ L t).kind;omega
  have hrl:r2.len=ks.length:=by rw [hL.len,jGW]
  have q7:=b4.lt
  have q8:=E8.size
  refine ⟨fun i w=>∃(j:Nat) (xs:Sl) (ps:List (Sp.Tree×Sl)),i=j∧j≤ks.length∧Pure w0 w∧w8.heap.size≤w.heap.size∧Lst (fun b=>w7.heap.size≤b∧b<w8.heap.size) w 1 r2 (tmr ks)∧Box w p2 [.int .i64 0,.int .i64 0,.int .i64 0,.int .u64 0,.string ⟨#[]⟩,Sl.nil.v] 28∧Box w p4 [.int .i64 k,.int .i64 f,.int .i64 t',.int .u64 u,.string x,xs.v] 28 ∧
   Rws w 28 6 xs (ps.map jJJ)∧(∀b,xs.blk b→w8.heap.size≤b)∧(∀q∈ps,TreeAt (fun b=>w8.heap.size≤b∧¬ xs.blk b) w q.2 q.1)∧ps.map Prod.fst=(ks.take j).map (Sp.zT L),fun i _=>((ks.length:Int) - i).toNat,⟨0,Sl.nil,[],rfl,Nat.zero_le _,E7.trans E8,Nat.le_refl _,hL,b27.pure E8,b4.pure E8,Rws.nil _ _ _,fun b hb=>(hnil b hb).elim,fun q hq=>by simp at hq,by simp⟩,?_⟩
  rintro _ w ⟨j,xs,ps,rfl,hj,E,zw,hLw,b2w,b4w,hxs,hxo,hps,hpf⟩
  have hpl:ps.length=j:=by have:=congrArg List.length hpf;simp at this;omega
  unfold m_D1_l1
  refine ⟨fun h=>?_,fun h=>?_⟩
  ·have hlt:=qH hrl h
   obtain ⟨ad,hat,hSa,hc⟩:=tm_nth hLw hlt
   refine ⟨ad,hat,ks[j],hc,fun w=>Box w p4 [.int .i64 k,.int .i64 f,.int .i64 t',.int .u64 u,.string x,xs.v] 28,b4w.pure (Ext.drew w:Pure _ _),?_⟩
   rintro _ rfl
   refine ⟨xs,fun _ h=>h.cell rfl,?_⟩
   have Ed:Pure w w.drew:=Ext.drew w
   have hkj:=hkid ks[j] (List.getElem_mem hlt)
   have hkp:=Sp.zR.1 hkj.1
   refine (ih ks[j].toNat (by omega) ks[j] w.drew F rfl (hP.pure (E.trans Ed))).mono ?_
   rintro _ w10 ⟨s',rfl,hTb,E10⟩
   generalize hTt:Sp.zT L ks[j]=tb at *
   obtain ⟨k2,f2,t2,u2,x2,ks2⟩:=tb
   have E10':Pure w w10:=Ed.trans E10
   refine ⟨_,_,_,_,_,s',rfl,b4w.pure E10',?_⟩
   intro p5 w11 h11
   have E11:Pure w w11:=E10'.trans (Ext.new h11)
   refine ⟨b4w.pure E11,?_⟩
   have zd:w.drew.heap.size=w.heap.size:=rfl
   have z10:=E10.size
   have z11:=(Ext.new h11:Pure w10 w11).size
   have np4:¬ xs.blk p4.block:=fun hb=>by have:=hxo _ hb;omega
   have np2:¬ xs.blk p2.block:=fun hb=>by have:=hxo _ hb;have:=b27.lt;omega
   obtain ⟨s1,w12,hr12,hR12,X12,hb12⟩:=(hxs.pure E11).append (P:=prog) (ty:=22) (c:=1) jAC (r:=kK (.mk k2 f2 t2 u2 x2 ks2) s') (Box.of_new h11).row rfl (tY _ _) (by simp;omega) (by simp [maxLen];omega)
   have b412:=(b4w.pure E11).ext X12 np4
   refine ⟨s1,w12,hr12,b412,b412.canW (by simp),?_⟩
   rintro _ rfl
   have X13:=Ext.setCell (w:=w12) (p4.add 5) s1.v
   rw [zN] at X13
   have z12:=X12.size
   have z13:=X13.size
   rw [kX hlt (by omega)]
   have hs1:∀b,s1.blk b→xs.blk b∨w.heap.size≤b:=fun b hb=>(hb12 b hb).imp_right (fun h=>by omega)
   have hs1o:∀b,s1.blk b→w8.heap.size≤b:=fun b hb=>(hs1 b hb).elim (hxo b) (fun h=>by omega)
   have np4':¬ s1.blk p4.block:=fun hb=>by have:=hs1o _ hb;omega
   have q12:=b412.lt
   refine ⟨⟨j+1,s1,ps++[(.mk k2 f2 t2 u2 x2 ks2,s')],rfl,hlt,?_,by omega,?_,?_,b412.set 5 s1.v,?_,hs1o,?_,?_⟩,gD hlt⟩
   ·exact ((E.trans E11).trans' X12 (fun i hi hs=>by have:=hxo i hs;have:=E7.size;omega)).trans' X13 (fun i hi e=>by omega)
   ·exact ((hLw.pure E11).ext X12 (fun b hb hs=>by have:=hxo b hs;omega)).ext X13 (fun b hb e=>by omega)
   ·exact ((b2w.pure E11).ext X12 np2).ext X13 n24
   ·have:=hR12.ext X13 (fun b hb e=>np4' (e▸hb))
    simpa [jJJ] using this
   ·intro q hq
    rcases List.mem_append.1 hq with h | h
    ·have h':=((hps q h).lt.pure E11).ext X12 (fun b hb hs=>hb.1.2 hs)
     refine (h'.ext X13 (fun b hb e=>by have:=hb.1.1;omega)).mono (fun b hb=>⟨hb.1.1,fun hs=>(hs1 b hs).elim hb.1.2 (fun h=>by have:=hb.2;omega)⟩)
    ·simp only [List.mem_singleton] at h;subst h
     have h':=((hTb.lt.pure (Ext.new h11:Pure w10 w11)).ext X12 (fun b hb hs=>by have:=hxs.lt hs;have:=hb.1;omega))
     refine (h'.ext X13 (fun b hb e=>by have:=hb.1;omega)).mono (fun b hb=>⟨by have:=hb.1;omega,fun hs=>(hb12 b hs).elim (fun h=>by have:=hxs.lt h;have:=hb.1;omega) (fun h=>by have:=hb.2;omega)⟩)
   ·rw [List.map_append,hpf,List.take_succ_eq_append_getElem hlt,List.map_append]
    simp [hTt]
  ·have hge:=qJ hrl hj h
   subst hge
   rw [List.take_length] at hpf
   refine ⟨k,f,t',u,x,xs,b4w.row,bx 6 b2w rfl rfl (fun w14 b14 X14=>⟨k,f,t',u,x,xs,b14.row,?_⟩)⟩
   have np2:¬ xs.blk p2.block:=fun hb=>by have:=hxo _ hb;have:=b27.lt;omega
   have hT:=TreeAt.of_pairs (S:=fun b=>w0.heap.size≤b) (k:=k) (f:=f) (t:=t') (u:=u) (x:=x) (hxs.ext X14 (fun b hb e=>np2 (e▸hb))) (fun b hb=>by have:=hxo b hb;have:=E7.size;omega) (fun q hq=>?_) (by omega)
   ·rw [hpf] at hT
    rw [← hnd] at htr
    exact hK _ _ _ _ _ _ _ _ htr hT (E.own (by omega) X14)
   ·exact ((hps q hq).ext X14 (fun b hb e=>by have:=hb.1;have:=b27.lt;omega)).mono (fun b hb=>by have:=hb.1;have:=E7.size;omega)
end Go.Proofs
end
section
namespace Go.Sp
def yN (k:Int):Bool:=k == 7 || k == 8 || k == 9
def jIE (k:Int):Bool:=k == 1 || k == 2 || k == 3
def gW (n:Int):Node:=⟨6,n,0,0,⟨#[]⟩,0,0⟩
def jFB (n:Node):Int:=if n.kind=9 then n.to else n.frm
def gM (L:Pool) (r u t:Int):Prop :=
 (r=1∧(jJ L u).kind=4∧(jJ L u).a=t)∨(r=2∧(jJ L u).kind=4∧(jJ L u).b=t)∨(r=3∧yN (jJ L u).kind=true∧(jJ L u).a=t)
inductive Seen (L:Pool) (G:List Int):Int→Prop
 | given {t:Int}:t∈G→Seen L G t
 | aris {r u t:Int}:Seen L G u→gM L r u t→Seen L G t
inductive Drv (L:Pool) (K:Int→Prop):Int→Prop
 | seen {t:Int}:K t→Drv L K t
 | free {t:Int}:jIE (jJ L t).kind=true→Drv L K t
 | pair {t:Int}:(jJ L t).kind=4→Drv L K (jJ L t).a→Drv L K (jJ L t).b→Drv L K t
 | hash {t:Int}:(jJ L t).kind=5→Drv L K (jJ L t).a→Drv L K t
 | sign {t:Int} {i:Nat}:yN (jJ L t).kind=true→Drv L K (jJ L t).a→find L (gW (jFB (jJ L t)))=some i→K ((i:Int)+1)→Drv L K t
structure Way where
 t:Int
 rule:Int
 frm:Int
deriving DecidableEq
def lJ (S:List Way):List Int:=S.map Way.t
def jGF (L:Pool) (G:List Int) (pre:List Way) (v:Way):Prop:=(v.rule=0∧v.frm=0∧v.t∈G)∨(v.rule≠0∧gM L v.rule v.frm v.t∧v.frm∈lJ pre)
structure WaysOk (L:Pool) (G:List Int) (S:List Way):Prop where
 nodup:(lJ S).Nodup
 inp:∀t∈lJ S,inP L t=true
 way:∀i (h:i<S.length),jGF L G (S.take i) S[i]
def jMN (L:Pool) (S:List Way) (u:Int):Prop:=∀r t,gM L r u t→t∈lJ S
theorem jGO (S:List Way):(lJ S).length=S.length:=by simp [lJ]
theorem jGF.mono {L:Pool} {G G':List Int} {pre:List Way} {v:Way} (h:jGF L G pre v) (hG:∀t∈G,t∈G'):jGF L G' pre v:=by
 rcases h with ⟨a,b,c⟩ | h
 ·exact .inl ⟨a,b,hG _ c⟩
 ·exact .inr h
theorem WaysOk.mono {L:Pool} {G G':List Int} {S:List Way} (h:WaysOk L G S) (hG:∀t∈G,t∈G'):WaysOk L G' S:=⟨h.nodup,h.inp,fun i hi=>(h.way i hi).mono hG⟩
theorem WaysOk.snoc {L:Pool} {G:List Int} {S:List Way} (h:WaysOk L G S) {v:Way} (hn:v.t ∉ lJ S) (hi:inP L v.t=true) (hv:jGF L G S v):WaysOk L G (S++[v]):=by
 refine ⟨?_,?_,fun i hlt=>?_⟩
 ·unfold lJ at hn ⊢;rw [List.map_append,List.nodup_append];exact ⟨h.nodup,by simp,fun x hx y hy e=>by simp at hy;subst hy;exact hn (e▸hx)⟩
 ·intro t ht;unfold lJ at ht;rw [List.map_append,List.mem_append] at ht;rcases ht with ht | ht
  ·exact h.inp t ht
  ·simp at ht;rw [ht];exact hi
 ·rw [List.length_append] at hlt;simp only [List.length_cons,List.length_nil] at hlt;by_cases hl:i<S.length
  ·rw [List.getElem_append_left hl,List.take_append_of_le_length (by omega)];exact h.way i hl
  ·have:i=S.length:=by omega
   subst this;rw [List.getElem_append_right (Nat.le_refl _),List.take_left];simpa using hv
theorem jMN.snoc {L:Pool} {S:List Way} {u:Int} {v:Way} (h:jMN L S u):jMN L (S++[v]) u:=fun r t ha=>by
 unfold lJ;rw [List.map_append];exact List.mem_append_left _ (h r t ha)
theorem Seen.mono {L:Pool} {G G':List Int} (hG:∀t∈G,t∈G') {t:Int} (h:Seen L G t):Seen L G' t:=by
 induction h with
 | given hg=>exact .given (hG _ hg)
 | aris _ ha ih=>exact .aris ih ha
theorem Drv.mono {L:Pool} {K K':Int→Prop} (hK:∀t,K t→K' t) {t:Int} (h:Drv L K t):Drv L K' t:=by
 induction h with
 | seen h=>exact .seen (hK _ h)
 | free h=>exact .free h
 | pair h _ _ iha ihb=>exact .pair h iha ihb
 | hash h _ ih=>exact .hash h ih
 | sign h _ hf hk ih=>exact .sign h ih hf (hK _ hk)
structure Step where
 rule:Int
 a:Int
 b:Int
 t:Int
deriving DecidableEq
def jGE (i:Nat) (v:Int):Bool:=decide (0≤v) && decide (v<i)
def tAt (pre:List Step) (v:Int):Int:=(pre[v.toNat]?.map Step.t).getD 0
def jMM (L:Pool) (r u t:Int):Bool :=
 if r=1 then (jJ L u).kind == 4 && (jJ L u).a == t else if r=2 then (jJ L u).kind == 4 && (jJ L u).b == t else yN (jJ L u).kind && (jJ L u).a == t
def fol (L:Pool) (G:List Int) (pre:List Step) (s:Step):Bool :=
 if inP L s.t=false then false
 else if s.rule=0 then s.a == 0 && s.b == 0 && decide (s.t∈G)
 else if s.rule=1∨s.rule=2∨s.rule=3 then jGE pre.length s.a && s.b == 0 && jMM L s.rule (tAt pre s.a) s.t
 else if s.rule=4 then s.a == 0 && s.b == 0 && jIE (jJ L s.t).kind
 else if s.rule=5 then
  if (jJ L s.t).kind=4 then jGE pre.length s.a && jGE pre.length s.b && tAt pre s.a == (jJ L s.t).a && tAt pre s.b == (jJ L s.t).b
  else if (jJ L s.t).kind=5 then jGE pre.length s.a && s.b == 0 && tAt pre s.a == (jJ L s.t).a
  else if yN (jJ L s.t).kind=true then jGE pre.length s.a && jGE pre.length s.b && tAt pre s.a == (jJ L s.t).a && (jJ L (tAt pre s.b)).kind == 6 && (jJ L (tAt pre s.b)).frm == jFB (jJ L s.t)
  else false
 else false
end Go.Sp
namespace Go.Sp
theorem jBP {α:Type} [DecidableEq α]:∀{l m:List α},l.Nodup→(∀x∈l,x∈m)→l.length≤m.length
 | [],m,_,_=>by simp
 | x :: l,m,hn,hs=>by
  have hx:=hs x (by simp);rw [List.nodup_cons] at hn;have:=jBP (m:=m.erase x) hn.2 (fun y hy=>(List.mem_erase_of_ne (fun h=>hn.1 (by rw [← h];exact hy))).2 (hs y (List.mem_cons_of_mem _ hy)));rw [List.length_erase_of_mem hx] at this;have:=List.length_pos_of_mem hx;simp only [List.length_cons];omega
theorem jEN {L:Pool} {l:List Int} (hn:l.Nodup) (hi:∀t∈l,inP L t=true):l.length≤L.length:=by
 have:=jBP (m:=(List.range L.length).map fun i:Nat=>(i:Int)+1) hn (fun t ht=>by
  obtain ⟨i,h1,h2⟩:=jEQ (hi t ht);exact List.mem_map.2 ⟨i,List.mem_range.2 h1,h2.symm⟩)
 simpa using this
theorem WaysOk.few {L:Pool} {G:List Int} {S:List Way} (h:WaysOk L G S):S.length≤L.length:=by
 have:=jEN h.nodup h.inp;rwa [jGO] at this
theorem kids4 {L:Pool} (h:Wf L) {t:Int} (ht:inP L t=true) (hk:(jJ L t).kind=4):(inP L (jJ L t).a=true∧(jJ L t).a<t)∧(inP L (jJ L t).b=true∧(jJ L t).b<t):=by
 have:=(h.node ht).2.2.2.2.1;simp only [jS,hk,shapeOf] at this;exact ⟨this _ (by simp),this _ (by simp)⟩
theorem kids7 {L:Pool} (h:Wf L) {t:Int} (ht:inP L t=true) (hk:yN (jJ L t).kind=true):inP L (jJ L t).a=true∧(jJ L t).a<t:=by
 have:=(h.node ht).2.2.2.2.1;simp only [yN,Bool.or_eq_true,beq_iff_eq] at hk;rcases hk with (hk | hk) | hk <;> simp only [jS,hk,shapeOf] at this <;> exact this _ (by simp)
theorem gM.inp {L:Pool} (h:Wf L) {r u t:Int} (hu:inP L u=true) (ha:gM L r u t):inP L t=true∧t<u:=by
 rcases ha with ⟨_,hk,rfl⟩ | ⟨_,hk,rfl⟩ | ⟨_,hk,rfl⟩
 ·exact (kids4 h hu hk).1
 ·exact (kids4 h hu hk).2
 ·exact kids7 h hu hk
def jLB (S:List Way) (v:Way):List Way:=if v.t∈lJ S then S else S++[v]
theorem WaysOk.add {L:Pool} {G:List Int} {S:List Way} (h:WaysOk L G S) {v:Way} (hi:inP L v.t=true) (hv:jGF L G S v):WaysOk L G (jLB S v):=by
 unfold jLB;split
 ·exact h
 ·rename_i hn;exact h.snoc hn hi hv
end Go.Sp
end
section
open Go.SE
namespace Go.Sp
def oF (L:Pool) (n:Int):Int×Bool:=match find L (gW n) with
 | some i=>((i:Int)+1,true)
 | none=>(0,false)
theorem jIG {L:Pool} {n:Node} {i:Nat} (h:find L n=some i):i<L.length∧jJ L ((i:Int)+1)=n:=by
 unfold find at h;rw [List.findIdx?_eq_some_iff_getElem] at h;obtain ⟨hi,h1,_⟩:=h;refine ⟨hi,?_⟩;rw [yC hi];simpa using h1
theorem jKA {L:Pool} {n:Int} (h:(oF L n).2=true):inP L (oF L n).1=true∧jJ L (oF L n).1=gW n∧∃i,find L (gW n)=some i∧(oF L n).1=(i:Int)+1:=by
 unfold oF at h ⊢;cases hf:find L (gW n) with
 | none=>rw [hf] at h;cases h
 | some i =>
  obtain ⟨hi,hn⟩:=jIG hf
  exact ⟨zR.2 ⟨by simp only;omega,by simp only;omega⟩,hn,i,rfl,rfl⟩
theorem jFV {L:Pool} {n:Int} {i:Nat} (h:find L (gW n)=some i):oF L n=((i:Int)+1,true):=by unfold oF;rw [h]
theorem Drv.inv {L:Pool} {K:Int→Prop} {t:Int} (h:Drv L K t):K t∨jIE (jJ L t).kind=true∨((jJ L t).kind=4∧Drv L K (jJ L t).a∧Drv L K (jJ L t).b)∨((jJ L t).kind=5∧Drv L K (jJ L t).a) ∨
  (yN (jJ L t).kind=true∧Drv L K (jJ L t).a∧(oF L (jFB (jJ L t))).2=true∧K (oF L (jFB (jJ L t))).1):=by
 cases h with
 | seen h=>exact .inl h
 | free h=>exact .inr (.inl h)
 | pair h a b=>exact .inr (.inr (.inl ⟨h,a,b⟩))
 | hash h a=>exact .inr (.inr (.inr (.inl ⟨h,a⟩)))
 | sign h a hf hk=>rw [jFV hf];exact .inr (.inr (.inr (.inr ⟨h,a,rfl,hk⟩)))
theorem Drv.signed {L:Pool} {K:Int→Prop} {t:Int} (h:yN (jJ L t).kind=true) (ha:Drv L K (jJ L t).a) (hk:(oF L (jFB (jJ L t))).2=true) (hK:K (oF L (jFB (jJ L t))).1):Drv L K t:=by
 obtain ⟨_,_,i,hf,e⟩:=jKA hk;rw [e] at hK;exact .sign h ha hf hK
theorem vZ {L:Pool} (h:Wf L) {t:Int} (ht:inP L t=true):jIE (jJ L t).kind=true∨(jJ L t).kind=4∨(jJ L t).kind=5∨(jJ L t).kind=6∨yN (jJ L t).kind=true:=by
 have h1:=(h.node ht).1;unfold jX at h1;simp only at h1;split at h1
 ·cases h1
 ·rename_i hh;simp only [Bool.or_eq_true,Bool.not_eq_true',not_or] at hh;have hk:isKind (jJ L t).kind=true:=by simpa using hh.1.1.1.1
  simp only [isKind,Bool.and_eq_true,decide_eq_true_eq] at hk;simp only [jIE,yN,Bool.or_eq_true,beq_iff_eq];omega
inductive Sub (L:Pool):Int→Int→Prop
 | refl (t:Int):Sub L t t
 | kid {t u k:Int}:Sub L t u→k∈jS (jJ L u)→Sub L t k
theorem Sub.trans {L:Pool} {a b c:Int} (h:Sub L a b) (k:Sub L b c):Sub L a c:=by
 induction k with
 | refl=>exact h
 | kid _ hk ih=>exact .kid ih hk
theorem jKV {n:Node} (h:n.kind=4∨n.kind=5∨yN n.kind=true):n.a∈jS n:=by
 simp only [yN,Bool.or_eq_true,beq_iff_eq] at h;rcases h with h | h | (h | h) | h <;> simp [jS,h,shapeOf]
theorem kids_b {n:Node} (h:n.kind=4):n.b∈jS n:=by simp [jS,h,shapeOf]
theorem gM.sub {L:Pool} {r u t:Int} (h:gM L r u t):Sub L u t:=by
 rcases h with ⟨_,hk,rfl⟩ | ⟨_,hk,rfl⟩ | ⟨_,hk,rfl⟩
 ·exact .kid (.refl u) (jKV (.inl hk))
 ·exact .kid (.refl u) (kids_b hk)
 ·exact .kid (.refl u) (jKV (.inr (.inr hk)))
theorem Seen.sub {L:Pool} {G:List Int} {t:Int} (h:Seen L G t):∃g∈G,Sub L g t:=by
 induction h with
 | given hg=>exact ⟨_,hg,.refl _⟩
 | aris _ ha ih=>obtain ⟨g,hg,hs⟩:=ih;exact ⟨g,hg,hs.trans ha.sub⟩
theorem gM.rule {L:Pool} {r u t:Int} (h:gM L r u t):r=1∨r=2∨r=3:=by
 rcases h with ⟨h,_⟩ | ⟨h,_⟩ | ⟨h,_⟩
 ·exact .inl h
 ·exact .inr (.inl h)
 ·exact .inr (.inr h)
structure PrfOk (L:Pool) (G:List Int) (K:Int→Prop) (l:List Step) (B:List Int):Prop where
 fol:∀i (hi:i<l.length),fol L G (l.take i) l[i]=true
 nd:(l.map Step.t).Nodup
 drv:∀s∈l,Drv L K s.t
 bar:∀t∈B,¬ Drv L K t
theorem PrfOk.nil (L:Pool) (G:List Int) (K:Int→Prop):PrfOk L G K [] []:=⟨fun i hi=>by simp at hi,by simp,by simp,by simp⟩
theorem PrfOk.snoc {L:Pool} {G:List Int} {K:Int→Prop} {l:List Step} {B:List Int} (h:PrfOk L G K l B) {s:Step} (hf:Sp.fol L G l s=true) (hn:s.t ∉ l.map Step.t) (hd:Drv L K s.t):PrfOk L G K (l++[s]) B:=by
 refine ⟨fun i hi=>?_,?_,fun x hx=>?_,h.bar⟩
 ·rw [List.length_append] at hi;simp only [List.length_cons,List.length_nil] at hi;by_cases hl:i<l.length
  ·rw [List.getElem_append_left hl,List.take_append_of_le_length (by omega)];exact h.fol i hl
  ·have:i=l.length:=by omega
   subst this;rw [List.getElem_append_right (Nat.le_refl _),List.take_left];simpa using hf
 ·rw [List.map_append,List.nodup_append];exact ⟨h.nd,by simp,fun x hx y hy e=>by simp at hy;subst hy;exact hn (e▸hx)⟩
 ·rcases List.mem_append.1 hx with hx | hx
  ·exact h.drv x hx
  ·simp at hx;subst hx;exact hd
theorem fol_in {L:Pool} {G:List Int} {pre:List Step} {s:Step} (h:fol L G pre s=true):inP L s.t=true:=by
 unfold fol at h;split at h
 ·cases h
 ·rename_i hh;simpa using hh
theorem PrfOk.few {L:Pool} {G:List Int} {K:Int→Prop} {l:List Step} {B:List Int} (h:PrfOk L G K l B):l.length≤L.length:=by
 have:=jEN h.nd (fun t ht=>by
  obtain ⟨s,hs,rfl⟩:=List.mem_map.1 ht;obtain ⟨i,hi,rfl⟩:=List.getElem_of_mem hs;exact fol_in (h.fol i hi))
 simpa using this
def upd (V:Int→Bool) (t:Int) (b:Bool):Int→Bool:=fun x=>if x=t then b else V x
theorem Sub.le {L:Pool} (hW:Wf L) {t y:Int} (ht:inP L t=true) (h:Sub L t y):inP L y=true∧y≤t:=by
 induction h with
 | refl=>exact ⟨ht,Int.le_refl _⟩
 | kid _ hk ih =>
  have:=(hW.node ih.1).2.2.2.2.1 _ hk
  exact ⟨this.1,by omega⟩
end Go.Sp
end
section
namespace Go.Sp
def Ord (L:Pool) (l:List Int):Prop:=∀pre z post,l=pre++z :: post→∀k∈jS (jJ L z),k∈pre
theorem Ord.snoc {L:Pool} {l:List Int} {t:Int} (h:Ord L l) (ht:∀k∈jS (jJ L t),k∈l):Ord L (l++[t]):=by
 intro pre z post e k hk;rcases List.eq_nil_or_concat post with rfl | ⟨post',y,rfl⟩
 ·have:=List.append_inj' e rfl;obtain ⟨rfl,e2⟩:=this;simp only [List.cons.injEq,and_true] at e2;subst e2;exact ht k hk
 ·have e':l++[t]=(pre++z :: post')++[y]:=by rw [e];simp
  have:=List.append_inj' e' rfl;exact h pre z post' this.1 k hk
end Go.Sp
end
section
namespace Go.Proofs
inductive Fld | from_ | to_ | num | text | fst | snd
deriving DecidableEq
def Fld.bytes (n:Sp.Node) (na nb:Nat):Fld→List UInt8
 | .from_=>qD n.frm.toNat | .to_=>qD n.to.toNat | .num=>qD n.num.toNat | .text=>lO n.text | .fst=>qD na | .snd=>qD nb
end Go.Proofs
end
section
namespace Go.Sp
def oN (L:Pool):Prop:=∀e∈L,oQ e.node.num
theorem oN.nil:oN []:=fun _ h=>(by cases h)
theorem oN.make {L:Pool} (h:oN L) {n:Node} (hn:oQ n.num):oN (make L n).2.2:=by
 rcases oE L n with e | ⟨_,e⟩
 ·rw [e];exact h
 ·rw [e];intro x hx;rcases List.mem_append.1 hx with hx | hx
  ·exact h x hx
  ·rw [List.mem_singleton] at hx;subst hx;exact hn
theorem oN.grow (t:Tree):∀L,oN L→NumT t→oN (grow L t).2.2:=by
 induction t using Tree.ind with
 | h k f t u x ks ih =>
  have:∀(ks:List Tree),(∀i (hi:i<ks.length),∀L,oN L→NumT ks[i]→oN (Sp.grow L ks[i]).2.2)→(∀i (hi:i<ks.length),NumT ks[i])→∀(n:Node) i L,oQ n.num→oN L→oN (jZ n i L ks).2.2:=by
   intro ks;induction ks with
   | nil=>intro _ _ n i L hn h;unfold jZ;exact h.make hn
   | cons t ts iht =>
    intro hh hk n i L hn h
    have h0:=hh 0 (by simp) L h (hk 0 (by simp))
    simp only [List.getElem_cons_zero] at h0
    unfold jZ
    split
    ·exact h0
    ·exact iht (fun i hi=>hh (i+1) (by simpa using hi)) (fun i hi=>hk (i+1) (by simpa using hi)) _ _ _ (by split <;> exact hn) h0
  intro L h hT
  cases hT with
  | mk _ _ _ _ _ _ own kids =>
   unfold Sp.grow
   exact this ks ih kids _ _ L own h
theorem oN.of {L:Pool} (h:oN L) {t:Tree} (hT:NumT t):oN (of L t).2.2:=by
 unfold Sp.of;split
 ·exact h
 ·split
  ·exact h
  ·exact oN.grow t L h hT
theorem oN.node {L:Pool} (h:oN L) (t:Int):oQ (jJ L t).num:=by
 cases ht:inP L t with
 | true=>obtain ⟨e,he,hm,_⟩:=uG ht;simp only [jJ,he,Option.map_some,Option.getD_some];exact h e hm
 | false=>simp only [jJ,vU ht,Option.map_none,Option.getD_none];exact ⟨by decide,by decide⟩
end Go.Sp
namespace Go.Proofs
end Go.Proofs
end
section
open Go Go.SE
namespace Go.Sp
def yO (L:Pool) (B:List UInt8):Int×Int×Int×Pool:=if (kZ B).2.1≠0 then (0,(kZ B).2.1,(kZ B).2.2,L) else ((of L (kZ B).1).1,(of L (kZ B).1).2.1,0,(of L (kZ B).1).2.2)
def uL (L:Pool) (t:Int):List UInt8:=if inP L t=true then shw (zT L t) else []
theorem jHR {L:Pool} (hW:Wf L) (hN:oN L):∀(m:Nat) (t:Int),t.toNat=m→inP L t=true→NumT (zT L t):=by
 intro m;induction m using Nat.strongRecOn with
 | _ m ih =>
  intro t hm ht
  rw [vL hW ht]
  refine .mk _ _ _ _ _ _ (hN.node t) (fun i hi=>?_)
  rw [List.getElem_map]
  have hk:=(hW.node ht).2.2.2.2.1 _ (List.getElem_mem (by simpa using hi))
  have:=zR.1 hk.1
  exact ih _ (by omega) _ rfl hk.1
theorem jKU {L:Pool} (hW:Wf L) {t:Int} (ht:inP L t=true):of L (zT L t)=(t,0,L):=by
 have hl:=jHV hW _ t rfl ht;have hs:sizeOf L t≤4096∧depthOf L t≤64:=by
  obtain ⟨e,he,hm,_⟩:=uG ht;have h1:=hW.ok.size e hm;have h2:=hW.ok.depth e hm;simp only [sizeOf,depthOf,he,Option.map_some,Option.getD_some];exact ⟨by omega,by omega⟩
 unfold of;rw [hl.yes 0 0 (by omega) (by omega) (by omega) (by omega),jKB hW _ t rfl ht];simp
theorem jGU {L:Pool} (hW:Wf L) (hN:oN L) {t:Int} (ht:inP L t=true):∃s d,TG (zT L t) s d∧s≤4096∧d≤64 :=
 of_tg (L:=L) (by rw [jKU hW ht]) (jHR hW hN _ t rfl ht)
end Go.Sp
namespace Go.Proofs
open Tryz
attribute [local irreducible] Calls
theorem jCL (p:Addr) (x:ByteArray) (w0:World) {L:Sp.Pool} {F:NP} (hP:zP w0 p L F) (hok:Sp.Ok L) (hv:ErrV w0) :
  Calls prog 17 #[.pointer (some p),.string x] w0 (fun e w'=>∃r1 r2 r3:Int,e=.returned (.tuple #[.int .i64 r1,.int .i64 r2,.int .i64 r3]) ∧
   ((r1=(Sp.yO L (bts x)).1∧r2=(Sp.yO L (bts x)).2.1∧r3=(Sp.yO L (bts x)).2.2.1)∧∃F',zP w' p (Sp.yO L (bts x)).2.2.2 F'∧Ext F w0 w'∧∀b,F' b→F b∨w0.heap.size≤b)):=by
 refine w_R2 (some p) x w0 (fun r1 r2 r3 w'=>(r1=(Sp.yO L (bts x)).1∧r2=(Sp.yO L (bts x)).2.1∧r3=(Sp.yO L (bts x)).2.2.1)∧∃F',zP w' p (Sp.yO L (bts x)).2.2.2 F'∧Ext F w0 w'∧∀b,F' b→F b∨w0.heap.size≤b) ?_
 unfold m_R2
 refine (xX x w0 hv).mono ?_
 intro e w1 hR
 obtain ⟨k1,f1,t1,u1,y1,ks1,s1,hT1,rfl,T1,E1⟩:=hR.un
 refine ⟨_,_,_,_,_,s1,_,_,rfl,E1.keptP,?_⟩
 unfold Sp.yO
 have TT1:TT w0 w1 None s1 (.mk k1 f1 t1 u1 y1 ks1):=T1.mono (fun b hb=>⟨hb.1,hb.2,fun h=>h⟩)
 refine ⟨fun h=>fun H1 w3 hs3=>?_,fun h=>fun H1 w3 hs3=>?_⟩
 ·have E3:=E1.hst hs3
  rw [if_pos (by simpa using h)]
  exact ⟨⟨rfl,rfl,rfl⟩,F,hP.pure E3,E3.pure,fun b hb=>.inl hb⟩
 ·have E3:=E1.hst hs3
  have T3:=TT.hst TT1 hs3
  rw [if_neg (by simpa using h),hT1]
  refine (c_Of (S:=fun b=>w0.heap.size≤b∧b<w3.heap.size) p (.mk k1 f1 t1 u1 y1 ks1) s1 w3 (T3.mono (fun b hb=>⟨hb.1,hb.2.1⟩)) (hP.pure E3) hok (fun b hb hh=>by have:=hP.lt hb;omega) (fun b hb=>hb.2)).mono ?_
  rintro _ w4 ⟨r3,r4,rfl,hr,F',hP',X4,hF'⟩
  simp only [Prod.mk.injEq] at hr
  obtain ⟨rfl,rfl⟩:=hr
  have hH:=hs3.here.old
  refine ⟨_,_,rfl,X4.kept (fun b hb hf=>by have:=hH b hb;have:=hP.lt hf;omega),⟨rfl,rfl,rfl⟩,F',hP',E3.pure.trans X4,fun b hb=>?_⟩
  have z:=E3.size
  exact (hF' b hb).imp id (fun h=>by omega)
theorem jCK (p:Addr) (t:Int) (w0:World) {L:Sp.Pool} {F:NP} (hP:zP w0 p L F) (hW:Sp.Wf L) (hN:Sp.oN L) (ht:Pow w0) :
  Calls prog 18 #[.pointer (some p),.int .i64 t] w0 (fun e w'=>∃r:ByteArray,e=.returned (.string r)∧(r=⟨(Sp.uL L t).toArray⟩∧Pure w0 w')):=by
 refine w_T2 (some p) t w0 (fun r w'=>r=⟨(Sp.uL L t).toArray⟩∧Pure w0 w') ?_
 unfold m_T2
 refine (jIR p t w0 hP hW.ok).mono ?_
 rintro _ w1 ⟨k,f,t',u,x,a,b,r,rfl,⟨hn,rfl⟩,E1⟩
 refine ⟨_,_,_,_,_,_,_,_,rfl,E1.keptP,?_⟩
 unfold Sp.uL
 refine ⟨fun h=>fun H1 w3 hs3=>?_,fun h=>fun H1 w3 hs3=>?_⟩
 ·have h:Sp.inP L t=false:=by simpa using h
  rw [h]
  exact ⟨rfl,E1.hst hs3⟩
 ·have h:Sp.inP L t=true:=by simpa using h
  have E3:=E1.hst hs3
  obtain ⟨sz,d,hg,hsz,hd⟩:=Sp.jGU hW hN h
  have hc:=hg.cnt.1
  have hgood:=Sp.yF _ 0 0 (hg.looks hsz hd)
  refine (c_Tree p hW _ t w3 F rfl (hP.pure E3)).mono ?_
  rintro _ w4 ⟨s,rfl,hT,E4⟩
  rw [if_pos h]
  have hnum:=hg.nums
  generalize Sp.zT L t=T at *
  obtain ⟨tk,tf,tt,tu,ty,tks⟩:=T
  refine ⟨tk,tf,tt,tu,ty,s,rfl,E4.keptP,?_⟩
  have E04:=E3.trans E4
  have hnil:∀b,¬ Sl.nil.blk b:=fun b hb=>by obtain ⟨a,h,_⟩:=hb;cases h
  refine (jIM (.mk tk tf tt tu ty tks) hgood hnum (fun b=>b<w4.heap.size) s Sl.nil [] w4 w4.heap.size (hT.lt.mono (fun b hb=>hb.2)) (fun b hb=>hb) (Nat.le_refl _) (Rws.nil _ _ _) (fun b hb=>(hnil b hb).elim) (by simp;omega) (fun w E=>jDO (kT ht E04) E)).mono ?_
  rintro _ w5 ⟨r,rfl,hA⟩
  refine ⟨r,rfl,hA.ext.kept (fun b hb hh=>(hnil b hh).elim),?_⟩
  exact ⟨_,gT (P:=prog) underlying54 underlying5 underlying9 hA.rows.lst,by simp,xV E04 hA.ext (fun b hb=>(hnil b hb).elim)⟩
end Go.Proofs
end
