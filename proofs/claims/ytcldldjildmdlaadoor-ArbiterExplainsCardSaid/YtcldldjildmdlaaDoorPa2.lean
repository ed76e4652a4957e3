import Derived.Test.YtcldldjildmdlaaDoorPa1
import Derived.IntWalk
import Derived.Test.YtcldldjildmdlaaDoorProg
import Derived.KernelRfl
section
open Go Go.SE
namespace Go.Proofs
open Tryd
attribute [local irreducible] Calls
def nrow (n:Sp.Node):List Value:=[.int .i64 n.kind,.int .i64 n.frm,.int .i64 n.to,.int .u64 n.num,.string n.text,.int .i64 n.a,.int .i64 n.b]
def erow (e:Sp.Ent):List Value:=nrow e.node++[.int .i64 e.size,.int .i64 e.depth]
def nkey (n:Sp.Node):Value:=.agg (nrow n).toArray
def pmap (L:Sp.Pool):List (Value×Value):=L.zipIdx.map fun p=>(nkey p.1.node,.int .i64 (p.2+1:Nat))
structure PoolS (w:World) (p:Addr) (L:Sp.Pool) (s:Sl) (m:Nat):Prop where
 box:Box w p [s.v,.map (some m)] 54
 rows:Rws w 91 9 s (L.map erow)
 map:CMap w m (pmap L)
 n1:m≠p.block
 n2:¬ s.blk p.block
 n3:¬ s.blk m
def PoolAt (w:World) (p:Addr) (L:Sp.Pool) (F:NP):Prop:=∃s m,PoolS w p L s m∧∀b,F b↔(b=p.block∨s.blk b∨b=m)
theorem PoolAt.ext {G:NP} {w w':World} {p:Addr} {L:Sp.Pool} {F:NP} (h:PoolAt w p L F) (hE:Ext G w w') (hd:∀b,F b→¬ G b):PoolAt w' p L F:=by
 obtain ⟨s,m,h,hF⟩:=h
 exact ⟨s,m,⟨h.box.ext hE (hd _ ((hF _).2 (.inl rfl))),h.rows.ext hE (fun b hb=>hd _ ((hF _).2 (.inr (.inl hb)))),h.map.ext hE (hd _ ((hF _).2 (.inr (.inr rfl)))),h.n1,h.n2,h.n3⟩,hF⟩
theorem PoolAt.pure {w w':World} {p:Addr} {L:Sp.Pool} {F:NP} (h:PoolAt w p L F) (hE:Pure w w'):PoolAt w' p L F:=h.ext hE (fun _ _ h=>h)
theorem PoolAt.lt {w:World} {p:Addr} {L:Sp.Pool} {F:NP} (h:PoolAt w p L F) {b:Nat} (hb:F b):b<w.heap.size:=by
 obtain ⟨s,m,h,hF⟩:=h
 rcases (hF b).1 hb with rfl | hb | rfl
 ·exact h.box.lt
 ·exact h.rows.lt hb
 ·exact h.map.lt
theorem i64 {n:Int} (h:-9223372036854775808≤n) (h':n≤9223372036854775807):IntKind.i64.wrap n=n:=IntWalk.i64_in n ⟨h,h'⟩
theorem c_in (p:Addr) (t:Int) (w:World) {L:Sp.Pool} {F:NP} (hP:PoolAt w p L F):Calls prog 57 #[.pointer (some p),.int .i64 t] w (fun e w'=>∃r,e=.returned (.bool r)∧(r=Sp.inP L t∧w=w')):=by
 obtain ⟨s,m,h,_⟩:=hP
 refine w_I (some p) t w (fun r w'=>r=Sp.inP L t∧w=w') ?_
 unfold m_I
 have hl:(s.len:Int)=L.length:=by rw [h.rows.len];simp
 refine Br.t rfl ⟨fun h1=>⟨p,rfl,s,h.box.cell0,?_,rfl⟩,fun h1=>⟨?_,rfl⟩⟩
 ·have:1≤t:=by simpa using h1
  simp [Sp.inP,hl,this]
 ·have:¬ 1≤t:=by simpa using h1
  simp [Sp.inP,this]
theorem PoolS.at {w:World} {p:Addr} {L:Sp.Pool} {s:Sl} {m:Nat} (h:PoolS w p L s m) {t:Int} (ht:Sp.inP L t=true) (hok:Sp.Ok L):∃a e,At s (IntKind.i64.wrap (t - 1)) 9 a∧Row w a (erow e)∧s.blk a.block∧Sp.get L t=some e:=by
 obtain ⟨h1,h2⟩:=Sp.inP_iff.1 ht
 obtain ⟨e,hg,_,hi,he⟩:=Sp.get_some ht
 have:=hok.few
 rw [i64 (by omega) (by omega)]
 obtain ⟨a,hat,hr,hb⟩:=h.rows.at (i:=t - 1) (by omega) (by simpa using hi)
 exact ⟨a,e,hat,(by rw [List.getElem_map,he] at hr;exact hr),hb,hg⟩
theorem c_Size (p:Addr) (t:Int) (w:World) {L:Sp.Pool} {F:NP} (hP:PoolAt w p L F) (hok:Sp.Ok L):Calls prog 58 #[.pointer (some p),.int .i64 t] w (fun e w'=>∃r,e=.returned (.int .i64 r)∧(r=Sp.sizeOf L t∧w=w')):=by
 refine w_D1 (some p) t w (fun r w'=>r=Sp.sizeOf L t∧w=w') ?_
 unfold m_D1
 refine (c_in p t w hP).mono ?_
 rintro _ _ ⟨_,rfl,rfl,rfl⟩
 obtain ⟨s,m,h,_⟩:=hP
 refine ⟨_,rfl,fun h1=>⟨?_,rfl⟩,fun h1=>?_⟩
 ·simp [Sp.sizeOf,Sp.get_none (show Sp.inP L t=false by simpa using h1)]
 ·obtain ⟨a,e,hat,hr,_,hg⟩:=h.at (show Sp.inP L t=true by simpa using h1) hok
  exact ⟨p,rfl,s,h.box.cell0,a,hat,e.size,hr 7 (by simp [erow,nrow]),by simp [Sp.sizeOf,hg],rfl⟩
theorem c_Depth (p:Addr) (t:Int) (w:World) {L:Sp.Pool} {F:NP} (hP:PoolAt w p L F) (hok:Sp.Ok L):Calls prog 59 #[.pointer (some p),.int .i64 t] w (fun e w'=>∃r,e=.returned (.int .i64 r)∧(r=Sp.depthOf L t∧w=w')):=by
 refine w_E1 (some p) t w (fun r w'=>r=Sp.depthOf L t∧w=w') ?_
 unfold m_E1
 refine (c_in p t w hP).mono ?_
 rintro _ _ ⟨_,rfl,rfl,rfl⟩
 obtain ⟨s,m,h,_⟩:=hP
 refine ⟨_,rfl,fun h1=>⟨?_,rfl⟩,fun h1=>?_⟩
 ·simp [Sp.depthOf,Sp.get_none (show Sp.inP L t=false by simpa using h1)]
 ·obtain ⟨a,e,hat,hr,_,hg⟩:=h.at (show Sp.inP L t=true by simpa using h1) hok
  exact ⟨p,rfl,s,h.box.cell0,a,hat,e.depth,hr 8 (by simp [erow,nrow]),by simp [Sp.depthOf,hg],rfl⟩
theorem c_Node (p : Addr) (t : Int) (w : World) {L : Sp.Pool} {F : NP} (hP : PoolAt w p L F) (hok : Sp.Ok L) : Calls prog 49 #[.pointer (some p), .int .i64 t] w
  (fun e w'=>∃k:Int,∃f:Int,∃t':Int,∃u:Int,∃x:ByteArray,∃a:Int,∃b:Int,∃r:Bool,e=.returned (.tuple #[.agg #[.int .i64 k,.int .i64 f,.int .i64 t',.int .u64 u,.string x,.int .i64 a,.int .i64 b],.bool r])∧(((⟨k,f,t',u,x,a,b⟩:Sp.Node)=Sp.nodeOf L t∧r=Sp.inP L t)∧Pure w w')):=by
 refine w_R (some p) t w (fun k f t' u x a b r w'=>((⟨k,f,t',u,x,a,b⟩:Sp.Node)=Sp.nodeOf L t∧r=Sp.inP L t)∧Pure w w') ?_
 unfold m_R
 intro p1 w1 h1
 have E1:Pure w w1:=Ext.new h1
 have b1:=Box.of_new h1
 have hp:=New.own (Ext.refl w) h1
 refine (c_in p t w1 (hP.pure E1)).mono ?_
 rintro _ _ ⟨_,rfl,rfl,rfl⟩
 obtain ⟨s,m,h,_⟩:=hP.pure E1
 refine ⟨_,rfl,fun h1=>bx 7 b1 rfl rfl (fun w' b E=>⟨_,_,_,_,_,_,_,b.row,⟨?_,?_⟩,E1.own hp E⟩),fun h1=>?_⟩
 ·simp [Sp.nodeOf,Sp.get_none (show Sp.inP L t=false by simpa using h1),Sp.noNode]
 ·symm;simpa using h1
 ·have ht:Sp.inP L t=true:=by simpa using h1
  obtain ⟨a,e,hat,hr,_,hg⟩:=h.at ht hok
  have hn:Row w1 a (nrow e.node):=fun i hi=>by
   have:=hr i (by simp [erow];omega)
   rw [this];unfold erow;rw [List.getElem?_append_left hi]
  exact ⟨p,rfl,s,h.box.cell0,a,hat,_,_,_,_,_,_,_,hn,bx 7 b1 rfl rfl (fun w' b E=>⟨_,_,_,_,_,_,_,b.row,⟨by simp [Sp.nodeOf,hg],ht.symm⟩,E1.own hp E⟩)⟩
end Go.Proofs
end
section
open Go Go.SE
namespace Go.Proofs
open Tryd
attribute [local irreducible] Calls
theorem run_cut2 (p:Addr) (k:Int) (w:World) (hk:k=0∨k=1∨k=2):(Instr.sliceAt 46 (Sl.mk (some p) 2 2).v .none (some (.int .i64 k)) .none).run prog w=.ok (Sl.mk (some p) k.toNat 2).v w:=by
 rcases hk with rfl | rfl | rfl <;> kernel_rfl
theorem c_check (p : Addr) (k f t u : Int) (x : ByteArray) (a b : Int) (w : World) {L : Sp.Pool} {F : NP} (hP : PoolAt w p L F) (hok : Sp.Ok L) :
  Calls prog 48 #[.pointer (some p),.agg #[.int .i64 k,.int .i64 f,.int .i64 t,.int .u64 u,.string x,.int .i64 a,.int .i64 b]] w
   (fun e w'=>∃r1:Int,∃r2:Int,∃r3:Int,e=.returned (.tuple #[.int .i64 r1,.int .i64 r2,.int .i64 r3])∧((r1,r2,r3)=Sp.check L ⟨k,f,t,u,x,a,b⟩∧Pure w w')):=by
 suffices key:∀K:Int→Int→Int→WP,(∀r1 r2 r3 w',(r1,r2,r3)=Sp.check L ⟨k,f,t,u,x,a,b⟩∧Pure w w'→K r1 r2 r3 w')→m_D (some p) k f t u x a b w K from
  w_D _ _ _ _ _ _ _ _ w _ (key _ (fun _ _ _ _ h=>h))
 intro K hK
 unfold m_D
 intro p2 w1 h1
 have b1:=Box.of_new h1
 have E1:Pure w w1:=Ext.new h1
 refine ⟨_,_,_,_,_,_,_,b1.row,?_⟩
 refine (c_plain _ _ _ _ _ _ _ _).mono ?_
 rintro _ w2 ⟨s1,s2,s3,s4,s5,pe,rfl,⟨hs,hpe⟩,E2⟩
 refine ⟨_,_,_,_,_,_,rfl,?_⟩
 intro p3 w3 h3
 have b2:=(b1.pure E2).pure (Ext.new h3)
 have n23:p2.block≠p3.block:=New.ne h3 (b1.pure E2).blk
 have E3:Pure w w3:=(E1.trans E2).trans (Ext.new h3)
 have o3:=New.own (E1.trans E2) h3
 refine bx 5 (Box.of_new h3) rfl rfl (fun w4 b3 E=>?_)
 have b2:=b2.ext E n23
 have E4:Pure w w4:=E3.own o3 E
 clear E E3 E2 E1 b1 h1 h3
 have hsh:Sp.shapeOf k=⟨s1,s2,s3,s4,s5⟩:=hs.symm
 have hk5:s5=0∨s5=1∨s5=2:=by have:=Sp.kids_le k;rw [hsh] at this;exact this
 generalize hn:(⟨k,f,t,u,x,a,b⟩:Sp.Node)=n at *
 have hnk:n.kind=k:=by rw [← hn]
 have hna:n.a=a:=by rw [← hn]
 have hnb:n.b=b:=by rw [← hn]
 have J2:∀e2 w',Pure w4 w'→(e2≠0→Sp.check L n=(0,0,e2))→(e2=0→pe=0∧((decide (s5<1) && a != 0) || (decide (s5<2) && b != 0))=false∧Sp.fieldsErr ⟨s1,s2,s3,s4,s5⟩ n=0)→m_D_j2 (some p) p2 p3 e2 w' K:=by
  intro e2 w' E' hne heq
  have b2:=b2.pure E'
  have b3:=b3.pure E'
  have E5:=E4.trans E'
  have hP':=hP.pure E5
  unfold m_D_j2
  refine ⟨fun h=>hK _ _ _ _ ⟨(hne (by simpa using h)).symm,E5⟩,fun h=>⟨_,b2.cell rfl,_,b2.cell rfl,?_⟩⟩
  intro p4 w5 h5
  obtain ⟨hp0,hc0,hf0⟩:=heq (by simpa using h)
  have b4:=Box.of_new h5
  have E6:=E5.trans (Ext.new h5)
  have hP6:=hP.pure E6
  refine ⟨_,(b3.pure (Ext.new h5)).cell rfl,_,run_cut2 p4 s5 w5 hk5,?_⟩
  have hks:Sp.kidsOf n=[a,b].take s5.toNat:=by simp [Sp.kidsOf,hnk,hsh,hna,hnb]
  have hlen:(Sp.kidsOf n).length=s5.toNat:=by rw [hks];rcases hk5 with rfl | rfl | rfl <;> rfl
  have hget:∀j (hj:j<(Sp.kidsOf n).length),w5.cell? (p4.add (j*1))=some (.int .i64 (Sp.kidsOf n)[j]):=by
   intro j hj
   have hj2:j<s5.toNat:=by omega
   have:(Sp.kidsOf n)[j]=[a,b][j]'(by simp;omega):=by simp only [hks,List.getElem_take]
   rw [this,Nat.mul_one]
   refine b4.cell ?_
   have h2:j=0∨j=1:=by omega
   rcases h2 with rfl | rfl <;> rfl
  have hrest:Sp.check L n=if (Sp.kidsOf n).any (fun t=>!Sp.inP L t) then (0,0,51) else if 1+((Sp.kidsOf n).map (Sp.sizeOf L)).sum>4096∨(Sp.kidsOf n).foldl (fun d t=>max d (Sp.depthOf L t)) 0+1>64 then (0,0,52) else (1+((Sp.kidsOf n).map (Sp.sizeOf L)).sum,(Sp.kidsOf n).foldl (fun d t=>max d (Sp.depthOf L t)) 0+1,0):=by
   unfold Sp.check
   simp only [hnk,hsh,hna,hnb,← hpe,hp0,hc0,hf0]
   simp
  generalize hkk:Sp.kidsOf n=ks at *
  have hl2:ks.length≤2:=by omega
  have hsum:∀j,0≤((ks.take j).map (Sp.sizeOf L)).sum∧((ks.take j).map (Sp.sizeOf L)).sum≤4096*(ks.take j).length:=by
   intro j
   generalize ks.take j=l
   induction l with
   | nil=>simp
   | cons y l ih=>have:=hok.sizeOf y;simp only [List.map_cons,List.sum_cons,List.length_cons];omega
  have hdep:∀(l:List Int) (d:Int),0≤d→d≤64→0≤l.foldl (fun d t=>max d (Sp.depthOf L t)) d∧l.foldl (fun d t=>max d (Sp.depthOf L t)) d≤64:=by
   intro l
   induction l with
   | nil=>intro d h1 h2;exact ⟨h1,h2⟩
   | cons y l ih=>intro d h1 h2;have:=hok.depthOf y;exact ih (max d (Sp.depthOf L y)) (by omega) (by omega)
  refine ⟨fun sz d x w'=>∃j:Nat,x=j∧j≤ks.length∧sz=1+((ks.take j).map (Sp.sizeOf L)).sum∧d=(ks.take j).foldl (fun d t=>max d (Sp.depthOf L t)) 0∧(ks.take j).any (fun t=>!Sp.inP L t)=false∧w5=w',fun _ _ x _=>(2 - x).toNat,⟨0,rfl,Nat.zero_le _,by simp,by simp,by simp,rfl⟩,?_⟩
  rintro sz d _ _ ⟨j,rfl,hj,rfl,rfl,hin,rfl⟩
  unfold m_D_l3
  have hs1:=hsum j
  have hd1:=hdep (ks.take j) 0 (by omega) (by omega)
  have htl:(ks.take j).length≤2:=by rw [List.length_take];omega
  refine ⟨fun h=>?_,fun h=>?_⟩
  ·have hlt:j<ks.length:=by have h:=of_decide_eq_true h;simp only at h;omega
   refine ⟨p4.add (j*1),⟨by omega,of_decide_eq_true h,p4,rfl,by simp⟩,ks[j],hget j hlt,?_⟩
   have htk:ks.take (j+1)=ks.take j++[ks[j]]:=List.take_succ_eq_append_getElem hlt
   refine (c_in p _ w5 hP6).mono ?_
   rintro _ _ ⟨_,rfl,rfl,rfl⟩
   refine ⟨_,rfl,fun h=>?_,fun h=>?_⟩
   ·refine hK _ _ _ _ ⟨?_,E6⟩
    rw [hrest,if_pos]
    exact List.any_eq_true.2 ⟨ks[j],List.getElem_mem hlt,h⟩
   ·refine (c_Size p _ w5 hP6 hok).mono ?_
    rintro _ _ ⟨_,rfl,rfl,rfl⟩
    refine ⟨_,rfl,?_⟩
    refine (c_Depth p _ w5 hP6 hok).mono ?_
    rintro _ _ ⟨_,rfl,rfl,rfl⟩
    refine ⟨_,rfl,_,run_max_int2 _ _ _ _ _ _ _,⟨j+1,?_,hlt,?_,?_,?_,rfl⟩,?_⟩
    ·rw [i64 (by omega) (by omega)];omega
    ·have:=hok.sizeOf ks[j]
     rw [i64 (by omega) (by omega),htk,List.map_append,List.sum_append];simp only [List.map_cons,List.map_nil,List.sum_cons,List.sum_nil];omega
    ·rw [htk,List.foldl_append];simp only [List.foldl_cons,List.foldl_nil];split <;> omega
    ·rw [htk,List.any_append,hin];simpa using h
    ·show (2 - IntKind.i64.wrap ((j:Int)+1)).toNat<(2 - (j:Int)).toNat
     rw [i64 (by omega) (by omega)];omega
  ·have hge:j=ks.length:=by have h:=of_decide_eq_false h;simp only at h;omega
   subst hge
   rw [List.take_length] at hs1 hd1 hin ⊢
   have hlt:(ks.length:Int)≤2:=by omega
   refine ⟨fun h=>hK _ _ _ _ ⟨?_,E6⟩,fun h=>?_⟩
   ·rw [hrest,hin,if_neg (by simp),if_pos (.inl (by simpa using h))]
   ·rw [i64 (by omega) (by omega)]
    refine ⟨fun h'=>hK _ _ _ _ ⟨?_,E6⟩,fun h'=>hK _ _ _ _ ⟨?_,E6⟩⟩
    ·rw [hrest,hin,if_neg (by simp),if_pos (.inr (by simpa using h'))]
    ·rw [hrest,hin,if_neg (by simp),if_neg (by simp at h h';omega)]
 have J1:∀e1,(e1≠0→Sp.check L n=(0,0,e1))→(e1=0→pe=0∧((decide (s5<1) && a != 0) || (decide (s5<2) && b != 0))=false)→m_D_j1 (some p) p2 p3 e1 w4 K:=by
  intro e1 hne heq
  unfold m_D_j1
  refine ⟨fun h=>⟨_,_,_,_,_,b3.row,_,_,_,_,_,_,_,b2.row,?_⟩,fun h=>J2 _ _ (Ext.refl _) hne (fun e=>by rw [e] at h;cases h)⟩
  obtain ⟨hp0,hc0⟩:=heq (by simpa using h)
  refine (c_fields _ _ _ _ _ _ _ _ _ _ _ _ _).mono ?_
  rintro _ w9 ⟨_,rfl,rfl,E9⟩
  rw [hn]
  refine ⟨_,rfl,J2 _ _ E9 (fun hf=>?_) (fun hf=>⟨hp0,hc0,hf⟩)⟩
  unfold Sp.check
  simp only [hnk,hsh,hna,hnb,← hpe,hp0,hc0]
  simp [hf]
 have J53:pe=0→((decide (s5<1) && a != 0) || (decide (s5<2) && b != 0))=true→m_D_j1 (some p) p2 p3 53 w4 K:=fun hp0 hc=>J1 53 (fun _=>by
  unfold Sp.check
  simp only [hnk,hsh,hna,hnb,← hpe,hp0,hc]
  simp) (fun e=>by cases e)
 have Jpe:pe≠0→m_D_j1 (some p) p2 p3 pe w4 K:=fun hp=>J1 pe (fun _=>by
  unfold Sp.check
  simp only [← hpe]
  rw [if_pos hp]) (fun e=>absurd e hp)
 have J5:∀x2 x3,x2=(decide (s5<1) && a != 0)→x3=(decide (s5<2) && b != 0)→m_D_j5 (some p) p2 pe p3 x2 x3 w4 K:=by
  intro x2 x3 h2 h3
  unfold m_D_j5
  refine ⟨fun h=>⟨fun hx=>J53 (by simpa using h) (by rw [← h2,hx];rfl),fun hx=>⟨fun hy=>J53 (by simpa using h) (by rw [← h2,← h3,hy];simp),fun hy=>J1 pe (fun e=>absurd (by simpa using h) e) (fun e=>⟨e,by rw [← h2,← h3,hx,hy];rfl⟩)⟩⟩,fun h=>Jpe (by simpa using h)⟩
 have J4:∀x2,x2=(decide (s5<1) && a != 0)→m_D_j4 (some p) p2 pe p3 x2 w4 K:=by
  intro x2 h2
  unfold m_D_j4
  refine ⟨fun h=>⟨fun hx=>J53 (by simpa using h) (by rw [← h2,hx];rfl),fun hx=>⟨_,b3.cell rfl,fun h5=>⟨_,b2.cell rfl,J5 _ _ h2 (by rw [h5];rfl)⟩,fun h5=>J5 _ _ h2 (by rw [h5];rfl)⟩⟩,fun h=>Jpe (by simpa using h)⟩
 exact ⟨fun h=>⟨_,b3.cell rfl,fun h5=>⟨_,b2.cell rfl,J4 _ (by rw [h5];rfl)⟩,fun h5=>J4 _ (by rw [h5];rfl)⟩,fun h=>Jpe (by simpa using h)⟩
end Go.Proofs
end
section
open Go Go.SE
namespace Go.Proofs
open Tryd
attribute [local irreducible] Calls
def IsNodeKey (v:Value):Prop:=∃n,v=nkey n
theorem nkey_inj {n n':Sp.Node}:nkey n=nkey n'↔n=n':=by
 constructor
 ·intro h
  cases n;cases n'
  simp [nkey,nrow] at h
  simp [h]
 ·rintro rfl;rfl
theorem sameBits_node (n:Sp.Node):Instr.sameBits 10000 (nkey n) (nkey n)=true:=by
 have h:∀d,Instr.sameBits (d+1) (nkey n) (nkey n)=true:=fun d=>by
  have e:(n.text == n.text)=true:=by rw [beq_toListBytes];simp
  cases d <;> simp [Instr.sameBits,nkey,nrow,e]
 exact h 9999
theorem keyOK_node:KeyOK prog 80 IsNodeKey:=by
 refine KeyOK.of_struct underlying80 ?_ ?_ ?_
 ·rintro _ ⟨n,rfl⟩ em w;kernel_rfl
 ·rintro _ _ w ⟨n,rfl⟩ ⟨n',rfl⟩
  refine ⟨decide (n=n'),?_,by simp only [nkey_inj,decide_eq_true_eq];exact eq_comm⟩
  obtain ⟨k,f,t,u,x,a,b⟩:=n
  obtain ⟨k',f',t',u',x',a',b'⟩:=n'
  simp [Op.equal,Op.maxDepth,go_sem,streq,nkey,nrow]
  repeat' split
  all_goals simp_all
 ·rintro _ ⟨n,rfl⟩;exact sameBits_node n
theorem slT_entry:SlType prog 52 91 9 (16*5):=by
 refine ⟨underlying52,⟨t91,_,by kernel_rfl,(by kernel_rfl:t91.zero=some (.agg #[.int .i64 0,.int .i64 0,.int .i64 0,.int .u64 0,.string ⟨#[]⟩,.int .i64 0,.int .i64 0,.int .i64 0,.int .i64 0])),by kernel_rfl,by kernel_rfl,rfl⟩,by omega⟩
theorem pmap_get {L:Sp.Pool} {i:Nat} {n:Sp.Node} {v:Value} (h:(pmap L)[i]?=some (nkey n,v)):∃e,L[i]?=some e∧e.node=n∧v=.int .i64 (i+1:Nat):=by
 simp only [pmap,List.getElem?_map,List.getElem?_zipIdx,Option.map_map,Option.map_eq_some_iff] at h
 obtain ⟨e,he,h⟩:=h
 simp only [Function.comp,Prod.mk.injEq] at h
 exact ⟨e,he,nkey_inj.1 h.1,by rw [← h.2];simp⟩
theorem pmap_not {L:Sp.Pool} {n:Sp.Node} (h:∀q∈pmap L,q.1≠nkey n):∀e∈L,e.node≠n:=by
 intro e he hn
 obtain ⟨i,hi,rfl⟩:=List.mem_iff_getElem.1 he
 refine h (nkey L[i].node,.int .i64 (i+1:Nat)) ?_ (by rw [hn])
 exact List.mem_map.2 ⟨(L[i],i),by rw [List.mem_zipIdx_iff_getElem?];simp [hi],rfl⟩
theorem pmap_keys {L:Sp.Pool}:∀q∈pmap L,IsNodeKey q.1:=by
 intro q hq
 obtain ⟨x,_,rfl⟩:=List.mem_map.1 hq
 exact ⟨_,rfl⟩
theorem pmap_snoc (L:Sp.Pool) (e:Sp.Ent):pmap (L++[e])=pmap L++[(nkey e.node,.int .i64 (L.length+1:Nat))]:=by
 simp [pmap,List.zipIdx_append]
theorem find_of {L:Sp.Pool} (hok:Sp.Ok L) {i:Nat} {e:Sp.Ent} (h:L[i]?=some e):Sp.find L e.node=some i:=by
 obtain ⟨hi,rfl⟩:=List.getElem?_eq_some_iff.1 h
 unfold Sp.find
 rw [List.findIdx?_eq_some_iff_getElem]
 refine ⟨hi,by simp,fun j hj=>?_⟩
 have hnd:=hok.nodup
 simp only [decide_eq_true_eq]
 intro e
 exact List.pairwise_iff_getElem.1 hnd j i (by simp;omega) (by simpa using hi) hj (by simpa using e)
theorem find_none {L:Sp.Pool} {n:Sp.Node} (h:∀e∈L,e.node≠n):Sp.find L n=none:=by
 unfold Sp.find
 rw [List.findIdx?_eq_none_iff]
 intro e he;simpa using h e he
theorem c_Make (p : Addr) (k f t u : Int) (x : ByteArray) (a b : Int) (w : World) {L : Sp.Pool} {F : NP} (hP : PoolAt w p L F) (hok : Sp.Ok L) :
  Calls prog 37 #[.pointer (some p),.agg #[.int .i64 k,.int .i64 f,.int .i64 t,.int .u64 u,.string x,.int .i64 a,.int .i64 b]] w
   (fun e w'=>∃r1:Int,∃r2:Int,e=.returned (.tuple #[.int .i64 r1,.int .i64 r2])∧((r1,r2)=((Sp.make L ⟨k,f,t,u,x,a,b⟩).1,(Sp.make L ⟨k,f,t,u,x,a,b⟩).2.1)∧∃F',PoolAt w' p (Sp.make L ⟨k,f,t,u,x,a,b⟩).2.2 F'∧Ext F w w'∧∀b,F' b→F b∨w.heap.size≤b)):=by
 suffices key:∀K:Int→Int→WP,(∀r1 r2 w',((r1,r2)=((Sp.make L ⟨k,f,t,u,x,a,b⟩).1,(Sp.make L ⟨k,f,t,u,x,a,b⟩).2.1)∧∃F',PoolAt w' p (Sp.make L ⟨k,f,t,u,x,a,b⟩).2.2 F'∧Ext F w w'∧∀b,F' b→F b∨w.heap.size≤b)→K r1 r2 w')→m_U (some p) k f t u x a b w K from
  w_U _ _ _ _ _ _ _ _ w _ (key _ (fun _ _ _ h=>h))
 intro K hK
 unfold m_U
 intro p2 w1 h1
 have b1:=Box.of_new h1
 have E1:Pure w w1:=Ext.new h1
 have o2:¬ F p2.block:=fun h=>by have:=hP.lt h;have:=h1.at_size;omega
 refine Br.f rfl ⟨_,_,_,_,_,_,_,b1.row,?_⟩
 refine (c_check p k f t u x a b w1 (hP.pure E1) hok).mono ?_
 rintro _ w2 ⟨sz,dp,er,rfl,hck,E2⟩
 refine ⟨_,_,_,rfl,?_⟩
 generalize hn:(⟨k,f,t,u,x,a,b⟩:Sp.Node)=n at *
 have E3:Pure w w2:=E1.trans E2
 have same:∀w',Pure w w'→∃F',PoolAt w' p L F'∧Ext F w w'∧∀b,F' b→F b∨w.heap.size≤b:=fun w' E=>⟨F,hP.pure E,E.pure,fun _ h=>.inl h⟩
 refine ⟨fun h=>hK _ _ _ ?_,fun h=>?_⟩
 ·have he:er≠0:=by simpa using h
  have:Sp.make L n=(0,er,L):=by unfold Sp.make;simp [← hck,he]
  rw [this];exact ⟨rfl,same _ E3⟩
 ·have he:er=0:=by simpa using h
  subst he
  intro w3 hw3
  have E4:Pure w w3:=by rw [hw3];exact E3.trans (Ext.drew w2)
  have b3:=(b1.pure E2).pure (show Pure w2 w3 by rw [hw3];exact Ext.drew w2)
  clear hw3
  obtain ⟨s,m,hS,hF⟩:=hP.pure E4
  refine ⟨p,rfl,_,hS.box.cell (i:=1) rfl,_,_,_,_,_,_,_,b3.row,?_⟩
  have hkey:(Value.agg #[.int .i64 k,.int .i64 f,.int .i64 t,.int .u64 u,.string x,.int .i64 a,.int .i64 b])=nkey n:=by rw [← hn];rfl
  rw [hkey]
  rcases hS.map.lookup (P:=prog) (T:=51) (E:=33) underlying51 keyOK_node pmap_keys ⟨n,rfl⟩ (zeroValue33 _) true with ⟨hnot,hrun⟩ | ⟨i,v,hi,hrun⟩
  ·refine ⟨_,_,hrun,Br.f rfl ⟨p,rfl,s,hS.box.cell0,?_⟩⟩
   have hno:=pmap_not hnot
   have hfn:=find_none hno
   have hlen:(s.len:Int)=L.length:=by rw [hS.rows.len];simp
   refine ⟨fun h=>hK _ _ _ ?_,fun h=>?_⟩
   ·have h2:65536≤L.length:=by have h:=of_decide_eq_true h;omega
    have:Sp.make L n=(0,6,L):=by unfold Sp.make;simp [← hck,hfn,h2]
    rw [this];exact ⟨rfl,same _ E4⟩
   ·have h2:¬ 65536≤L.length:=by have h:=of_decide_eq_false h;omega
    have hmk:Sp.make L n=((L.length:Int)+1,0,L++[⟨n,sz,dp⟩]):=by unfold Sp.make;simp [← hck,hfn,h2]
    refine ⟨fun w'=>w'.cell? p=some s.v∧Row w' p2 (nrow n),⟨?_,?_⟩,?_⟩
    ·exact Ext.cell (F:=None) (Ext.drew w3) hS.box.cell0 id
    ·rw [← hn];exact Ext.row (F:=None) (Ext.drew w3) b3.row id
    intro w4 hw4
    have E5:Pure w3 w4:=by rw [hw4];exact Ext.drew w3
    clear hw4
    have hS4:PoolS w4 p L s m:=by
     exact ⟨hS.box.pure E5,hS.rows.pure E5,hS.map.ext E5 id,hS.n1,hS.n2,hS.n3⟩
    have b4:=b3.pure E5
    refine ⟨p,rfl,s,fun w' h=>h.1,k,f,t,u,x,a,b,fun w' h=>by have:=h.2;rw [← hn] at this;exact this,?_⟩
    intro p3 w5 h5
    have E6:Pure w4 w5:=Ext.new h5
    have o3:w.heap.size≤p3.block:=New.own (E4.trans E5) h5
    have b5:=Box.of_new h5
    have hrows5:=hS4.rows.pure E6
    have hbox5:=hS4.box.pure E6
    have hmap5:CMap w5 m (pmap L):=hS4.map.ext E6 id
    have b45:=b4.pure E6
    have hrow:Row w5 p3 (erow ⟨n,sz,dp⟩):=by rw [← hn];exact b5.row
    refine ⟨⟨hbox5.cell0,by rw [← hn];exact b45.row⟩,?_⟩
    obtain ⟨s1,w6,hr6,hrows6,E7,hb6⟩:=hrows5.append (P:=prog) (ty:=52) slT_entry (c:=1) hrow (by simp [erow,nrow]) (by simp [erow,nrow,oneCell]) (by simp;omega) (by simp [maxLen];omega)
    have nb:∀b,s.blk b→b≠p2.block:=fun b hb e=>o2 (by rw [← e];exact (hF b).2 (.inr (.inl hb)))
    have hbox6:=hbox5.ext E7 hS.n2
    have hmap6:=hmap5.ext E7 hS.n3
    have b6:=b45.ext E7 (fun h=>nb _ h rfl)
    refine ⟨s1,w6,hr6,⟨hbox6.cell0,by rw [← hn];exact b6.row⟩,p,rfl,hbox6.canW0 (by simp),?_⟩
    intro w7 hw7
    have hbox7:Box w7 p [s1.v,.map (some m)] 54:=by rw [hw7];exact hbox6.set0
    have E8:Ext (·=p.block) w6 w7:=by rw [hw7];exact Ext.setCell p _
    clear hw7
    have hs1p:¬ s1.blk p.block:=fun h=>(hb6 _ h).elim hS.n2 (fun h=>by have:=hbox5.lt;omega)
    have hs1m:¬ s1.blk m:=fun h=>(hb6 _ h).elim hS.n3 (fun h=>by have:=hmap5.lt;omega)
    have hrows7:=hrows6.ext E8 (fun b hb e=>hs1p (by rw [← e];exact hb))
    have hmap7:=hmap6.ext E8 hS.n1
    have b7:=b6.ext E8 (fun e=>o2 (by rw [e];exact (hF _).2 (.inl rfl)))
    have hl1:(s1.len:Int)=L.length+1:=by rw [hrows6.len];simp
    refine ⟨p,rfl,s1,hbox7.cell0,?_⟩
    refine ⟨fun w'=>w'.cell? (p.add 1)=some (.map (some m))∧Row w' p2 (nrow n),⟨?_,?_⟩,?_⟩
    ·exact Ext.cell (F:=None) (Ext.drew w7) (hbox7.cell (i:=1) rfl) id
    ·rw [← hn];exact Ext.row (F:=None) (Ext.drew w7) b7.row id
    intro w8 hw8
    have E9:Pure w7 w8:=by rw [hw8];exact Ext.drew w7
    clear hw8
    refine ⟨p,rfl,some m,fun w' h=>h.1,k,f,t,u,x,a,b,fun w' h=>by have:=h.2;rw [← hn] at this;exact this,?_⟩
    rw [hkey,hl1]
    have hmap8:CMap w8 m (pmap L):=hmap7.ext E9 id
    obtain ⟨w9,hr9,hmap9,E10⟩:=hmap8.insert (P:=prog) (v:=.int .i64 ((L.length:Int)+1)) underlying51 keyOK_node pmap_keys ⟨n,rfl⟩ hnot
    refine ⟨w9,hr9,hK _ _ _ ?_⟩
    rw [hmk]
    have hbox9:=(hbox7.pure E9).ext E10 (fun e=>hS.n1 e.symm)
    have hrows9:=(hrows7.pure E9).ext E10 (fun b hb e=>hs1m (by rw [← e];exact hb))
    refine ⟨rfl,fun b=>b=p.block∨s1.blk b∨b=m,⟨s1,m,⟨hbox9,?_,?_,hS.n1,hs1p,hs1m⟩,fun _=>Iff.rfl⟩,?_,?_⟩
    ·simpa using hrows9
    ·rw [pmap_snoc];simpa using hmap9
    ·have hF':∀b,F b↔(b=p.block∨s.blk b∨b=m):=hF
     have Ea:Ext F w w5:=((E4.trans E5).trans E6).pure
     have Eb:Ext F w w6:=Ea.trans' E7 (fun i _ h=>(hF' i).2 (.inr (.inl h)))
     have Ec:Ext F w w7:=Eb.trans' E8 (fun i _ h=>(hF' i).2 (.inl h))
     have Ed:Ext F w w8:=Ec.thenPure E9
     exact Ed.trans' E10 (fun i _ h=>(hF' i).2 (.inr (.inr h)))
    ·intro b hb
     rcases hb with rfl | hb | rfl
     ·exact .inl ((hF _).2 (.inl rfl))
     ·rcases hb6 b hb with h | h
      ·exact .inl ((hF _).2 (.inr (.inl h)))
      ·right;have:=((E4.trans E5).trans E6).size;omega
     ·exact .inl ((hF _).2 (.inr (.inr rfl)))
  ·obtain ⟨e,he,hen,rfl⟩:=pmap_get hi
   refine ⟨_,_,hrun,Br.t rfl (hK _ _ _ ?_)⟩
   have hfd:=find_of hok he
   rw [hen] at hfd
   have:Sp.make L n=((i:Int)+1,0,L):=by unfold Sp.make;simp [← hck,hfd]
   rw [this];exact ⟨by simp,same _ E4⟩
end Go.Proofs
end
section
namespace Go.Sp
inductive Tree where
 | mk (k f t u:Int) (x:ByteArray) (kids:List Tree)
def Tree.kids:Tree→List Tree | .mk _ _ _ _ _ ks=>ks
def Tree.node:Tree→Node | .mk k f t u x _=>⟨k,f,t,u,x,0,0⟩
theorem Tree.ind {P:Tree→Prop} (h:∀k f t u x (ks:List Tree),(∀i (hi:i<ks.length),P ks[i])→P (.mk k f t u x ks)) (t:Tree):P t:=by
 refine Tree.rec (motive_1:=P) (motive_2:=fun ks=>∀i (hi:i<ks.length),P ks[i]) ?_ ?_ ?_ t
 ·intro k f t u x ks ih;exact h _ _ _ _ _ _ ih
 ·intro i hi;simp at hi
 ·intro t ks ht hks i hi
  cases i with
  | zero=>exact ht
  | succ i=>exact hks i (by simpa using hi)
def ownErr (n:Node) (len:Nat):Int :=
 let e:=if plainErr n=0 then if (len:Int)≠(shapeOf n.kind).kids then 53 else 0 else plainErr n
 if e=0 then fieldsErr (shapeOf n.kind) n else e
mutual
def looks (inside seen:Int):Tree→Int×Int
 | .mk k f t u x ks=>if 4096≤seen then (52,seen) else if 64≤inside then (52,seen) else looksAll (inside+1) (ownErr ⟨k,f,t,u,x,0,0⟩ ks.length) (seen+1) ks
def looksAll (inside e seen:Int):List Tree→Int×Int
 | []=>(e,seen)
 | t :: ts=>if e=0 then looksAll inside (looks inside seen t).1 (looks inside seen t).2 ts else (e,seen)
end
mutual
def grow (L:Pool):Tree→Int×Int×Pool
 | .mk k f t u x ks=>growAll ⟨k,f,t,u,x,0,0⟩ 0 L ks
def growAll (n:Node) (i:Nat) (L:Pool):List Tree→Int×Int×Pool
 | []=>make L n
 | t :: ts=>if (grow L t).2.1≠0 then (0,(grow L t).2.1,(grow L t).2.2) else growAll (if i=0 then { n with a:=(grow L t).1 } else { n with b:=(grow L t).1 }) (i+1) (grow L t).2.2 ts
end
def of (L:Pool) (t:Tree):Int×Int×Pool :=
 if (looks 0 0 t).1≠0 then (0,(looks 0 0 t).1,L)
 else if (grow L t).2.1≠0 then (0,(grow L t).2.1,L) else ((grow L t).1,0,(grow L t).2.2)
theorem make_grows (L:Pool) (n:Node):∃M,(make L n).2.2=L++M:=by
 unfold make
 simp only
 by_cases hc:(check L n).2.2=0
 ·simp only [hc]
  rw [if_neg (by simp)]
  split
  ·exact ⟨[],by simp⟩
  ·split
   ·exact ⟨[],by simp⟩
   ·exact ⟨_,rfl⟩
 ·rw [if_pos hc];exact ⟨[],by simp⟩
theorem check_ok {L:Pool} {n:Node} (hok:Ok L) (h:(check L n).2.2=0):1≤(check L n).1∧(check L n).1≤4096∧1≤(check L n).2.1∧(check L n).2.1≤64:=by
 unfold check at h ⊢
 simp only at h ⊢
 by_cases h1:plainErr n≠0
 ·rw [if_pos h1] at h;exact absurd h h1
 rw [if_neg h1] at h ⊢
 split at h
 ·simp at h
 rename_i h2;rw [if_neg h2]
 by_cases h3:fieldsErr (shapeOf n.kind) n≠0
 ·rw [if_pos h3] at h;exact absurd h h3
 rw [if_neg h3] at h ⊢
 split at h
 ·simp at h
 rename_i h4;rw [if_neg h4]
 split at h
 ·simp at h
 rename_i h5;rw [if_neg h5]
 have hs:∀l:List Int,0≤(l.map (sizeOf L)).sum:=by
  intro l
  induction l with
  | nil=>simp
  | cons y l ih=>have:=hok.sizeOf y;simp only [List.map_cons,List.sum_cons];omega
 have hd:∀(l:List Int) (d:Int),0≤d→0≤l.foldl (fun d t=>max d (depthOf L t)) d:=by
  intro l
  induction l with
  | nil=>intro d h;exact h
  | cons y l ih=>intro d h;exact ih (max d (depthOf L y)) (by omega)
 have:=hs (kidsOf n)
 have:=hd (kidsOf n) 0 (by omega)
 simp only
 omega
theorem make_ok {L:Pool} (hok:Ok L) (n:Node):Ok (make L n).2.2:=by
 by_cases hc:(check L n).2.2=0
 ·have:=check_ok hok hc
  unfold make
  simp only [hc]
  rw [if_neg (by simp)]
  split
  ·exact hok
  ·rename_i hf
   split
   ·exact hok
   ·rename_i hl
    refine ⟨by simp;omega,?_,?_,?_⟩
    ·rw [List.map_append,List.nodup_append]
     refine ⟨hok.nodup,by simp,?_⟩
     intro a ha b hb
     simp only [List.map_cons,List.map_nil,List.mem_singleton] at hb
     subst hb
     obtain ⟨e,he,rfl⟩:=List.mem_map.1 ha
     unfold find at hf
     rw [List.findIdx?_eq_none_iff] at hf
     simpa using hf e he
    ·intro e he
     rcases List.mem_append.1 he with h | h
     ·exact hok.size e h
     ·simp only [List.mem_singleton] at h;subst h;simp;omega
    ·intro e he
     rcases List.mem_append.1 he with h | h
     ·exact hok.depth e h
     ·simp only [List.mem_singleton] at h;subst h;simp;omega
 ·unfold make
  simp only
  rw [if_pos hc];exact hok
theorem grow_facts (t:Tree):∀L,Ok L→Ok (grow L t).2.2∧∃M,(grow L t).2.2=L++M:=by
 induction t using Tree.ind with
 | h k f t u x ks ih =>
  have:∀(ks:List Tree),(∀i (hi:i<ks.length),∀L,Ok L→Ok (grow L ks[i]).2.2∧∃M,(grow L ks[i]).2.2=L++M)→∀n i L,Ok L→Ok (growAll n i L ks).2.2∧∃M,(growAll n i L ks).2.2=L++M:=by
   intro ks
   induction ks with
   | nil=>intro _ n i L h;unfold growAll;exact ⟨make_ok h n,make_grows L n⟩
   | cons t ts iht =>
    intro hh n i L h
    have h0:=hh 0 (by simp) L h
    simp only [List.getElem_cons_zero] at h0
    unfold growAll
    split
    ·exact h0
    ·obtain ⟨ho,M,hM⟩:=h0
     have:=iht (fun i hi=>hh (i+1) (by simpa using hi)) (if i=0 then { n with a:=(grow L t).1 } else { n with b:=(grow L t).1 }) (i+1) (grow L t).2.2 ho
     refine ⟨this.1,?_⟩
     obtain ⟨M2,hM2⟩:=this.2
     exact ⟨M++M2,by rw [hM2,hM,List.append_assoc]⟩
  intro L h
  unfold grow
  exact this ks ih _ _ L h
theorem of_ok {L:Pool} (hok:Ok L) (t:Tree):Ok (of L t).2.2:=by
 unfold of
 split
 ·exact hok
 ·split
  ·exact hok
  ·exact (grow_facts t L hok).1
end Go.Sp
end
section
open Go Go.SE
namespace Go.Proofs
open Tryd
attribute [local irreducible] Calls
def trow (t:Sp.Tree) (s:Sl):List Value:=[.int .i64 t.node.kind,.int .i64 t.node.frm,.int .i64 t.node.to,.int .u64 t.node.num,.string t.node.text,s.v]
inductive TreeAt (S:NP) (w:World):Sl→Sp.Tree→Prop
 | mk (k f t u : Int) (x : ByteArray) (ks : List Sp.Tree) (s : Sl) (rs : Nat → Sl) (len : s.len = ks.length) (fit : ks.length ≤ 9223372036854775807)
   (row:∀i (h:i<ks.length),∃a,At s i 6 a∧S a.block∧Row w a (trow ks[i] (rs i))) (kid:∀i (h:i<ks.length),TreeAt S w (rs i) ks[i]):TreeAt S w s (.mk k f t u x ks)
theorem TreeAt.ext {S F:NP} {w w':World} {s:Sl} {t:Sp.Tree} (h:TreeAt S w s t) (hE:Ext F w w') (hd:∀b,S b→¬ F b):TreeAt S w' s t:=by
 induction h with
 | mk k f t u x ks s rs len fit row kid ih =>
  exact .mk k f t u x ks s rs len fit (fun i h=>let ⟨a,h1,h2,h3⟩:=row i h;⟨a,h1,h2,hE.row h3 (hd _ h2)⟩) ih
theorem TreeAt.pure {S:NP} {w w':World} {s:Sl} {t:Sp.Tree} (h:TreeAt S w s t) (hE:Pure w w'):TreeAt S w' s t:=h.ext hE (fun _ _ h=>h)
theorem TreeAt.mono {S S':NP} {w:World} {s:Sl} {t:Sp.Tree} (h:TreeAt S w s t) (hd:∀b,S b→S' b):TreeAt S' w s t:=by
 induction h with
 | mk k f t u x ks s rs len fit row kid ih =>
  exact .mk k f t u x ks s rs len fit (fun i h=>let ⟨a,h1,h2,h3⟩:=row i h;⟨a,h1,hd _ h2,h3⟩) ih
theorem TreeAt.lt {S:NP} {w:World} {s:Sl} {t:Sp.Tree} (h:TreeAt S w s t):TreeAt (fun b=>S b∧b<w.heap.size) w s t:=by
 induction h with
 | mk k f t u x ks s rs len fit row kid ih =>
  refine .mk k f t u x ks s rs len fit (fun i h=>let ⟨a,h1,h2,h3⟩:=row i h;⟨a,h1,⟨h2,?_⟩,h3⟩) ih
  have:=h3 0 (by simp [trow])
  unfold World.cell? at this
  refine Classical.byContradiction fun hge=>?_
  have:w.heap[(a.add 0).block]?=none:=by rw [add_block];exact Array.getElem?_eq_none (by omega)
  simp_all [trow]
theorem c_nodeOf (k f t u : Int) (x : ByteArray) (s : Sl) (w : World) :
  Calls prog 34 #[.agg #[.int .i64 k,.int .i64 f,.int .i64 t,.int .u64 u,.string x,s.v]] w
   (fun e w'=>∃k':Int,∃f':Int,∃t':Int,∃u':Int,∃x':ByteArray,∃a:Int,∃b:Int,e=.returned (.agg #[.int .i64 k',.int .i64 f',.int .i64 t',.int .u64 u',.string x',.int .i64 a,.int .i64 b])∧((⟨k',f',t',u',x',a,b⟩:Sp.Node)=⟨k,f,t,u,x,0,0⟩∧Pure w w')):=by
 refine w_Z _ _ _ _ _ _ w (fun k' f' t' u' x' a b w'=>(⟨k',f',t',u',x',a,b⟩:Sp.Node)=⟨k,f,t,u,x,0,0⟩∧Pure w w') ?_
 unfold m_Z
 intro p1 w1 h1 p2 w2 h2
 have E1:Pure w w1:=Ext.new h1
 have b1:=(Box.of_new h1).pure (Ext.new h2)
 refine ⟨_,b1.cell0,_,b1.cell rfl,_,b1.cell rfl,_,b1.cell rfl,_,b1.cell rfl,?_⟩
 exact bx 7 (Box.of_new h2) rfl rfl (fun w' b E=>⟨_,_,_,_,_,_,_,b.row,rfl,(E1.trans (Ext.new h2)).own (New.own E1 h2) E⟩)
theorem looks_mono (t:Sp.Tree):∀i n:Int,0≤n→0≤(Sp.looks i n t).2:=by
 induction t using Sp.Tree.ind with
 | h k f t u x ks ih =>
  have:∀(ks:List Sp.Tree),(∀i (hi:i<ks.length),∀j n:Int,0≤n→0≤(Sp.looks j n ks[i]).2)→∀i e n:Int,0≤n→0≤(Sp.looksAll i e n ks).2:=by
   intro ks
   induction ks with
   | nil=>intro _ i e n h;simpa [Sp.looksAll] using h
   | cons t ts iht =>
    intro hh i e n h
    unfold Sp.looksAll
    split
    ·exact iht (fun i hi=>hh (i+1) (by simpa using hi)) _ _ _ (hh 0 (by simp) i n h)
    ·exact h
  intro i n h
  unfold Sp.looks
  split
  ·exact h
  ·split
   ·exact h
   ·exact this ks ih _ _ _ (by omega)
theorem looksAll_drop {ks:List Sp.Tree} {j:Nat} (hj:j<ks.length) (i n:Int):Sp.looksAll i 0 n (ks.drop j)=Sp.looksAll i (Sp.looks i n ks[j]).1 (Sp.looks i n ks[j]).2 (ks.drop (j+1)):=by
 rw [List.drop_eq_getElem_cons hj,Sp.looksAll,if_pos rfl]
theorem looksAll_bad {ks:List Sp.Tree} {e:Int} (h:e≠0) (i n:Int):Sp.looksAll i e n ks=(e,n):=by
 cases ks <;> simp [Sp.looksAll,h]
theorem c_looks {S : NP} (q : Addr) (hq : ¬ S q.block) (T : TypeId) (t : Sp.Tree) : ∀ (s : Sl) (inside seen : Int) (w : World), 0 ≤ inside → 0 ≤ seen → TreeAt S w s t → Box w q [.int .i64 seen] T →
  Calls prog 17 #[.agg (trow t s).toArray,.int .i64 inside,.pointer (some q)] w
   (fun e w'=>∃r:Int,e=.returned (.int .i64 r)∧(r=(Sp.looks inside seen t).1∧Box w' q [.int .i64 (Sp.looks inside seen t).2] T∧Ext (·=q.block) w w')):=by
 induction t using Sp.Tree.ind with
 | h k f t u x ks ih =>
 intro s inside seen w hi0 hn0 hT hB
 suffices key:∀K:Int→WP,(∀r w',(r=(Sp.looks inside seen (.mk k f t u x ks)).1∧Box w' q [.int .i64 (Sp.looks inside seen (.mk k f t u x ks)).2] T∧Ext (·=q.block) w w')→K r w')→m_E k f t u x s inside (some q) w K from
  w_E _ _ _ _ _ _ _ _ w _ (key _ (fun _ _ h=>h))
 intro K hK
 unfold m_E
 intro p1 w1 h1
 have b1:=Box.of_new h1
 have E1:Pure w w1:=Ext.new h1
 have n1:q.block≠p1.block:=New.ne h1 hB.blk
 have hB1:=hB.pure E1
 have hT1:=hT.pure E1
 refine ⟨q,rfl,seen,hB1.cell0,fun h=>?_,fun h=>⟨fun h'=>?_,fun h'=>?_⟩⟩
 ·have h:=of_decide_eq_true h
  have:Sp.looks inside seen (.mk k f t u x ks)=(52,seen):=by rw [Sp.looks,if_pos (by omega)]
  rw [this] at hK;exact hK _ _ ⟨rfl,hB1,E1.pure⟩
 ·have h:=of_decide_eq_false h;have h':=of_decide_eq_true h'
  have:Sp.looks inside seen (.mk k f t u x ks)=(52,seen):=by rw [Sp.looks,if_neg (by omega),if_pos (by omega)]
  rw [this] at hK;exact hK _ _ ⟨rfl,hB1,E1.pure⟩
 have h:=of_decide_eq_false h;have h':=of_decide_eq_false h'
 have hsp:Sp.looks inside seen (.mk k f t u x ks)=Sp.looksAll (inside+1) (Sp.ownErr ⟨k,f,t,u,x,0,0⟩ ks.length) (seen+1) ks:=by rw [Sp.looks,if_neg (by omega),if_neg (by omega)]
 rw [hsp] at hK
 unfold m_E_j1
 refine ⟨q,rfl,seen,hB1.cell0,q,rfl,hB1.canW0 (by simp),?_⟩
 rw [i64 (n:=seen+1) (by omega) (by omega)]
 intro w2 hw2
 have hB2:Box w2 q [.int .i64 (seen+1)] T:=by rw [hw2];exact hB1.set0
 have E12:Ext (·=q.block) w1 w2:=by rw [hw2];exact Ext.setCell q _
 clear hw2
 have b2:=b1.ext E12 (fun e=>n1 e.symm)
 have hT2:=hT1.ext E12 (fun b hb e=>hq (e▸hb))
 have E2:Ext (·=q.block) w w2:=E1.pure.trans E12
 refine ⟨_,_,_,_,_,_,b2.row,?_⟩
 refine (c_nodeOf _ _ _ _ _ _ w2).mono ?_
 rintro _ w3 ⟨k',f',t',u',x',a',b',rfl,hn,E23⟩
 cases hn
 refine ⟨_,_,_,_,_,_,_,rfl,?_⟩
 intro p2 w4 h4
 have n2:p1.block≠p2.block:=New.ne h4 (b2.pure E23).blk
 have E24:Pure w2 w4:=E23.trans (Ext.new h4)
 have o2:=New.own E23 h4
 refine bx 7 (Box.of_new h4) rfl rfl (fun w5 c2 E45=>?_)
 have E25:Pure w2 w5:=E24.own o2 E45
 refine ⟨_,_,_,_,_,_,_,c2.row,?_⟩
 refine (c_plain _ _ _ _ _ _ _ w5).mono ?_
 rintro _ w6 ⟨s1,s2,s3,s4,s5,pe,rfl,⟨hs,hpe⟩,E56⟩
 refine ⟨_,_,_,_,_,_,rfl,?_⟩
 intro p3 w7 h7
 have n3:p2.block≠p3.block:=New.ne h7 (c2.pure E56).blk
 have E27:Pure w2 w7:=(E25.trans E56).trans (Ext.new h7)
 have o3:=New.own (E25.trans E56) h7
 refine bx 5 (Box.of_new h7) rfl rfl (fun w8 c3 E78=>?_)
 have E28:Pure w2 w8:=E27.own o3 E78
 have d2:=((c2.pure E56).pure (Ext.new h7)).ext E78 n3
 have d1:=b2.pure E28
 have hB8:=hB2.pure E28
 have hT8:=hT2.pure E28
 have E8:Ext (·=q.block) w w8:=E2.thenPure E28
 clear E78 E27 E56 E25 E45 E24 E23 E12 c2 b2 b1 hT2 hT1 hB1 h1 h4 h7
 have hlen:s.len=ks.length:=by cases hT;assumption
 have hfit:ks.length≤9223372036854775807:=by cases hT;assumption
 have hsh:Sp.shapeOf k=⟨s1,s2,s3,s4,s5⟩:=hs.symm
 have J3:∀e w',Pure w8 w'→e=Sp.ownErr ⟨k,f,t,u,x,0,0⟩ ks.length→m_E_j3 inside (some q) p1 e w' K:=by
  intro e w' E hown
  rw [← hown] at hK
  unfold m_E_j3
  refine ⟨fun e i w'=>∃j:Nat,i=j∧j≤ks.length∧∃n:Int,0≤n∧Ext (·=q.block) w8 w'∧Box w' q [.int .i64 n] T∧Sp.looksAll (inside+1) e n (ks.drop j)=Sp.looksAll (inside+1) (Sp.ownErr ⟨k,f,t,u,x,0,0⟩ ks.length) (seen+1) ks,fun _ i _=>((ks.length:Int) - i).toNat,⟨0,rfl,Nat.zero_le _,seen+1,by omega,E.pure,hB8.pure E,by rw [hown];rfl⟩,?_⟩
  rintro e1 _ wl ⟨j,rfl,hj,n,hn,El,hBl,heq⟩
  unfold m_E_l4
  have dl:=d1.ext El (fun e=>n1 e.symm)
  have hTl:=hT8.ext El (fun b hb e=>hq (e▸hb))
  rw [← hown] at heq
  have fin:∀n',Sp.looksAll (inside+1) e ((seen:Int)+1) ks=(e1,n')→n'=n→K e1 wl:=by
   rintro n' h rfl
   refine hK _ _ ⟨by rw [h],by rw [h];exact hBl,E8.trans El⟩
  refine ⟨s,dl.cell rfl,fun hlt=>⟨fun he=>?_,fun he=>?_⟩,fun hlt=>?_⟩
  ·have hlt:j<ks.length:=by have h:=of_decide_eq_true hlt;omega
   have he:e1=0:=by simpa using he
   subst he
   cases hTl with
   | mk _ _ _ _ _ _ _ rs len fit row kid =>
   obtain ⟨a,hat,ha,hr⟩:=row j hlt
   refine ⟨s,dl.cell rfl,a,hat,_,_,_,_,_,rs j,hr,?_⟩
   rw [i64 (n:=inside+1) (by omega) (by omega)]
   refine (ih j hlt (rs j) (inside+1) n wl (by omega) hn (kid j hlt) hBl).mono ?_
   rintro _ w9 ⟨r,rfl,rfl,hB9,E9⟩
   rw [looksAll_drop hlt] at heq
   refine ⟨_,rfl,⟨j+1,?_,hlt,_,looks_mono _ _ _ hn,El.trans E9,hB9,by rw [← hown];exact heq⟩,?_⟩
   ·rw [i64 (by omega) (by omega)];omega
   ·show ((ks.length:Int) - IntKind.i64.wrap ((j:Int)+1)).toNat<((ks.length:Int) - (j:Int)).toNat
    rw [i64 (by omega) (by omega)];omega
  ·have he:e1≠0:=by simpa using he
   rw [looksAll_bad he] at heq
   exact fin _ heq.symm rfl
  ·have hge:j=ks.length:=by have h:=of_decide_eq_false hlt;omega
   rw [hge,List.drop_length,Sp.looksAll] at heq
   exact fin _ heq.symm rfl
 have J2:∀e1,e1=(if pe=0 then if (ks.length:Int)≠s5 then 53 else 0 else pe)→m_E_j2 inside (some q) p1 p2 p3 e1 w8 K:=by
  intro e1 he1
  have hown:Sp.ownErr ⟨k,f,t,u,x,0,0⟩ ks.length=if e1=0 then Sp.fieldsErr ⟨s1,s2,s3,s4,s5⟩ ⟨k,f,t,u,x,0,0⟩ else e1:=by
   unfold Sp.ownErr
   simp only [hsh,← hpe,he1]
  unfold m_E_j2
  refine ⟨fun h=>⟨_,_,_,_,_,c3.row,_,_,_,_,_,_,_,d2.row,?_⟩,fun h=>J3 _ _ (Ext.refl _) ?_⟩
  ·have h:e1=0:=by simpa using h
   refine (c_fields _ _ _ _ _ _ _ _ _ _ _ _ _).mono ?_
   rintro _ w9 ⟨_,rfl,rfl,E9⟩
   exact ⟨_,rfl,J3 _ _ E9 (by rw [hown,if_pos h])⟩
  ·have h:e1≠0:=by simpa using h
   rw [hown,if_neg h]
 refine ⟨fun h=>⟨s,d1.cell rfl,s5,c3.cell rfl,fun h5=>J2 _ ?_,fun h5=>J2 _ ?_⟩,fun h=>J2 _ ?_⟩
 ·have h:pe=0:=by simpa using h
  have h5:(s.len:Int)≠s5:=by simpa using h5
  rw [if_pos h,if_pos (by omega)]
 ·have h:pe=0:=by simpa using h
  have h5:(s.len:Int)=s5:=by simpa using h5
  rw [if_pos h,if_neg (by omega),h]
 ·have h:pe≠0:=by simpa using h
  rw [if_neg h]
end Go.Proofs
end
section
open Go Go.SE
namespace Go.Proofs
open Tryd
attribute [local irreducible] Calls
theorem c_New (w:World):Calls prog 10 #[] w (fun e w'=>∃r:Option Addr,e=.returned (.pointer r)∧∃p,r=some p∧Pure w w'∧∃F,PoolAt w' p [] F∧∀b,F b→w.heap.size≤b):=by
 refine w_Y w (fun r w'=>∃p,r=some p∧Pure w w'∧∃F,PoolAt w' p [] F∧∀b,F b→w.heap.size≤b) ?_
 unfold m_Y
 intro p1 w1 h1 p2 w2 h2
 have E1:Pure w w1:=Ext.new h1
 have m2:CMap w2 p1.block []:=(CMap.of_new h1).ext (Ext.new h2:Pure w1 w2) id
 have n12:p1.block≠p2.block:=New.ne h2 h1.block_new
 refine ⟨p2,rfl,E1.trans (Ext.new h2),fun b=>b=p2.block∨Sl.nil.blk b∨b=p1.block,⟨Sl.nil,p1.block,⟨Box.of_new h2,by simpa using Rws.nil _ _ _,by simpa [pmap] using m2,n12,?_,?_⟩,fun _=>Iff.rfl⟩,?_⟩
 ·rintro ⟨a,h,_⟩;cases h
 ·rintro ⟨a,h,_⟩;cases h
 ·rintro b (rfl | ⟨a,h,_⟩ | rfl)
  ·exact New.own E1 h2
  ·cases h
  ·exact New.own (Ext.refl w) h1
theorem pmap_take (L:Sp.Pool) (n:Nat):pmap (L.take n)=(pmap L).take n:=by
 apply List.ext_getElem?;intro i
 simp only [pmap,List.getElem?_map,List.getElem?_zipIdx,List.getElem?_take]
 split <;> simp
theorem pmap_fst (L:Sp.Pool):(pmap L).map (·.1)=(L.map (·.node)).map nkey:=by
 apply List.ext_getElem?;intro i
 simp only [pmap,List.getElem?_map,List.getElem?_zipIdx]
 cases L[i]? <;> simp
theorem c_cut (p : Addr) (n : Nat) (w : World) {L : Sp.Pool} {F : NP} (hP : PoolAt w p L F) (hok : Sp.Ok L) (hn : n ≤ L.length) :
  Calls prog 19 #[.pointer (some p),.int .i64 n] w (fun e w'=>e=.returned (.tuple #[])∧PoolAt w' p (L.take n) F∧Ext F w w'):=by
 suffices key:∀K:WP,(∀w',PoolAt w' p (L.take n) F∧Ext F w w'→K w')→m_P (some p) n w K from
  w_P _ _ w _ (key _ (fun _ h=>h))
 intro K hK
 unfold m_P
 obtain ⟨s,m,hS,hF⟩:=hP
 have hfew:=hok.few
 have hcap:s.len≤s.cap:=by
  have:=hS.rows.len
  rcases hS.rows.own with ⟨rfl,_⟩ | ⟨g,cur,_,_,hc,_⟩
  ·simp [Sl.nil]
  ·omega
 obtain ⟨s1,hr1,hl1⟩:=hS.rows.lst.lo (P:=prog) slT_entry hcap (k:=.i64) (n:=n) (by omega) (by simpa using hn)
 have hlen1:s1.len=L.length - n:=by rw [hl1.len];simp
 refine ⟨p,rfl,s,hS.box.cell0,s1,hr1,?_⟩
 refine ⟨fun x w'=>∃j:Nat,x=j∧j≤L.length - n∧Ext (·=m) w w'∧CMap w' m ((pmap L).take n++(pmap L).drop (n+j)),fun x _=>((L.length:Int) - x).toNat,⟨0,rfl,Nat.zero_le _,Ext.refl w,by simpa using hS.map⟩,?_⟩
 rintro _ wl ⟨j,rfl,hj,El,hml⟩
 have hboxl:=hS.box.ext El hS.n1.symm
 have hrowsl:=hS.rows.ext El (fun b hb e=>hS.n3 (e▸hb))
 unfold m_P_l1
 refine ⟨fun h=>?_,fun h=>?_⟩
 ·have hlt:n+j<L.length:=by have h:=of_decide_eq_true h;omega
  have hll:=hl1.ext El (fun b hb e=>hS.n3 (e▸hb))
  obtain ⟨a,hat,_,hrow⟩:=hll.at_ j (by simp;omega)
  generalize he:L[n+j]=e at *
  have hrow':Row wl a (erow e):=by
   have:((L.map erow).drop ((n:Int).toNat))[j]'(by simp;omega)=erow e:=by simp [he]
   rw [this] at hrow;exact hrow
  obtain ⟨nd,sz,dp⟩:=e
  obtain ⟨k,f,t,u,x,a1,b1⟩:=nd
  refine ⟨a,hat,_,_,_,_,_,_,_,_,_,hrow',?_⟩
  intro p2 w1 h1
  have E1:Pure wl w1:=Ext.new h1
  have o1:=New.own (Ext.refl wl) h1
  refine bx 9 (Box.of_new h1) rfl rfl (fun w2 b2 E=>?_)
  have E2:Pure wl w2:=E1.own o1 E
  refine ⟨fun w'=>w'.cell? (p.add 1)=some (.map (some m))∧Row w' p2 (nrow ⟨k,f,t,u,x,a1,b1⟩),⟨(hboxl.pure (E2.thenPure (Ext.drew w2))).cell (i:=1) rfl,?_⟩,?_⟩
  ·have : Row w2 p2 (nrow ⟨k, f, t, u, x, a1, b1⟩) := fun i hi => by
    have:=b2.row i (by simp [nrow] at hi ⊢;omega)
    rw [this]
    have h7:i<7:=by simpa [nrow] using hi
    have:i=0∨i=1∨i=2∨i=3∨i=4∨i=5∨i=6:=by omega
    rcases this with rfl | rfl | rfl | rfl | rfl | rfl | rfl <;> rfl
   exact Ext.row (F:=None) (Ext.drew w2) this id
  intro w3 hw3
  have E3:Pure wl w3:=by rw [hw3];exact E2.thenPure (Ext.drew w2)
  clear hw3
  refine ⟨p,rfl,some m,fun w' h=>h.1,k,f,t,u,x,a1,b1,fun w' h=>h.2,?_⟩
  have hm3:=hml.ext E3 id
  have hpl:(pmap L).length=L.length:=by simp [pmap]
  have hget:(pmap L)[n+j]?=some (nkey ⟨k,f,t,u,x,a1,b1⟩,.int .i64 (n+j+1:Nat)):=by
   simp only [pmap,List.getElem?_map,List.getElem?_zipIdx,List.getElem?_eq_getElem hlt,he];simp
  have hidx:((pmap L).take n++(pmap L).drop (n+j))[n]?=some (nkey ⟨k,f,t,u,x,a1,b1⟩,.int .i64 (n+j+1:Nat)):=by
   have e0:n+j+(n - ((pmap L).take n).length)=n+j:=by rw [List.length_take];omega
   rw [List.getElem?_append_right (by rw [List.length_take];omega),List.getElem?_drop,e0,hget]
  have hnd:((pmap L).map (·.1)).Nodup:=by
   rw [pmap_fst,List.nodup_iff_pairwise_ne,List.pairwise_map]
   exact hok.nodup.imp (fun h e=>h (nkey_inj.1 e))
  have hsub:List.Sublist ((pmap L).take n++(pmap L).drop (n+j)) (pmap L):=by
   conv=>rhs;rw [← List.take_append_drop n (pmap L)]
   refine (List.Sublist.refl _).append ?_
   have e0:(pmap L).drop (n+j)=((pmap L).drop n).drop j:=by rw [List.drop_drop]
   rw [e0];exact List.drop_sublist _ _
  have hnd2:(((pmap L).take n++(pmap L).drop (n+j)).map (·.1)).Nodup:=hnd.sublist (hsub.map _)
  obtain ⟨w4,hr4,hm4,E4⟩:=hm3.delete (P:=prog) (Q:=80) (z:=0) underlying51 keyOK_node (fun q hq=>pmap_keys q (hsub.subset hq)) ⟨_,rfl⟩ hidx (fun i u hi=>by
   obtain ⟨hi1,hi2⟩:=List.getElem?_eq_some_iff.1 hi
   obtain ⟨hn1,hn2⟩:=List.getElem?_eq_some_iff.1 hidx
   refine Classical.byContradiction fun hne=>?_
   have hne:=List.pairwise_iff_getElem.1 hnd2
   rcases Nat.lt_or_gt_of_ne ‹_› with hlt | hlt
   ·exact hne i n (by simpa using hi1) (by simpa using hn1) hlt (by rw [List.getElem_map,List.getElem_map,hi2,hn2])
   ·exact hne n i (by simpa using hn1) (by simpa using hi1) hlt (by rw [List.getElem_map,List.getElem_map,hi2,hn2]))
  refine ⟨w4,hr4,⟨j+1,?_,by omega,(El.trans E3.pure).trans E4,?_⟩,?_⟩
  ·rw [i64 (by omega) (by omega)];omega
  ·rw [List.eraseIdx_append_of_length_le (by rw [List.length_take];omega)] at hm4
   have:n - ((pmap L).take n).length=0:=by rw [List.length_take];omega
   rw [this] at hm4
   have hd:((pmap L).drop (n+j)).eraseIdx 0=(pmap L).drop (n+(j+1)):=by
    rw [List.drop_eq_getElem_cons (by omega)];simp;rfl
   rw [hd] at hm4;exact hm4
  ·show ((L.length:Int) - IntKind.i64.wrap ((j:Int)+1)).toNat<((L.length:Int) - (j:Int)).toNat
   rw [i64 (by omega) (by omega)];omega
 ·have hge:n+j=L.length:=by have h:=of_decide_eq_false h;omega
  have hpl:(pmap L).length=L.length:=by simp [pmap]
  rw [hge,← hpl,List.drop_length,List.append_nil] at hml
  obtain ⟨s2,hr2,hrows2,hb2⟩:=hrowsl.hi (P:=prog) slT_entry (k:=.i64) (n:=n) (by omega) (by simpa using hn)
  refine ⟨p,rfl,s,hboxl.cell0,s2,hr2,p,rfl,hboxl.canW0 (by simp),?_⟩
  rintro w5 hw5
  have hbox5:Box w5 p [s2.v,.map (some m)] 54:=by rw [hw5];exact hboxl.set0
  have E5:Ext (·=p.block) wl w5:=by rw [hw5];exact Ext.setCell p _
  clear hw5
  refine hK _ ⟨⟨s2,m,⟨hbox5,?_,?_,hS.n1,fun h=>hS.n2 ((hb2 _).1 h),fun h=>hS.n3 ((hb2 _).1 h)⟩,fun b=>by rw [hF b,hb2 b]⟩,?_⟩
  ·have:=hrows2.ext E5 (fun b hb e=>hS.n2 (by rw [← e];exact (hb2 _).1 hb))
   simpa using this
  ·rw [pmap_take];exact hml.ext E5 hS.n1
  ·exact (El.mono (fun i _ h=>(hF i).2 (.inr (.inr h)))).trans' E5 (fun i _ h=>(hF i).2 (.inl h))
end Go.Proofs
end
section
open Go Go.SE
namespace Go.Proofs
open Tryd
attribute [local irreducible] Calls
theorem growAll_bad {n:Sp.Node} {i:Nat} {L:Sp.Pool} {t:Sp.Tree} {ts:List Sp.Tree} (h:(Sp.grow L t).2.1≠0):Sp.growAll n i L (t :: ts)=(0,(Sp.grow L t).2.1,(Sp.grow L t).2.2):=by rw [Sp.growAll,if_pos h]
theorem growAll_good {n:Sp.Node} {i:Nat} {L:Sp.Pool} {t:Sp.Tree} {ts:List Sp.Tree} (h:(Sp.grow L t).2.1=0):Sp.growAll n i L (t :: ts)=Sp.growAll (if i=0 then { n with a:=(Sp.grow L t).1 } else { n with b:=(Sp.grow L t).1 }) (i+1) (Sp.grow L t).2.2 ts:=by rw [Sp.growAll,if_neg (by simp [h])]
def Sp.Tree.two (t:Sp.Tree):Prop:=Sp.Tree.rec (motive_1:=fun _=>Prop) (motive_2:=fun _=>Prop) (fun _ _ _ _ _ ks h=>ks.length≤2∧h) True (fun _ _ h1 h2=>h1∧h2) t
def twoAll:List Sp.Tree→Prop
 | []=>True
 | t :: ts=>Sp.Tree.two t∧twoAll ts
theorem two_mk {k f t u:Int} {x:ByteArray} {ks:List Sp.Tree}:Sp.Tree.two (.mk k f t u x ks)↔ks.length≤2∧twoAll ks:=by
 have:∀ks:List Sp.Tree,(Sp.Tree.rec_1 (motive_1:=fun _=>Prop) (motive_2:=fun _=>Prop) (fun _ _ _ _ _ ks h=>ks.length≤2∧h) True (fun _ _ h1 h2=>h1∧h2) ks:Prop)=twoAll ks:=by
  intro ks
  induction ks with
  | nil=>rfl
  | cons t ts ih=>show (Sp.Tree.two t∧_)=(Sp.Tree.two t∧_);rw [ih]
 show (ks.length≤2∧_)↔_
 rw [this]
theorem twoAll_get {ks:List Sp.Tree} (h:twoAll ks) {i:Nat} (hi:i<ks.length):Sp.Tree.two ks[i]:=by
 induction ks generalizing i with
 | nil=>simp at hi
 | cons t ts ih =>
  cases i with
  | zero=>exact h.1
  | succ i=>exact ih h.2 (by simpa using hi)
theorem c_grow {S : NP} (p : Addr) (t : Sp.Tree) : ∀ (s : Sl) (w : World) (L : Sp.Pool) (F : NP), Sp.Tree.two t → TreeAt S w s t → PoolAt w p L F → Sp.Ok L → (∀ b, F b → ¬ S b) → (∀ b, S b → b < w.heap.size) →
  Calls prog 18 #[.pointer (some p),.agg (trow t s).toArray] w
   (fun e w'=>∃r1:Int,∃r2:Int,e=.returned (.tuple #[.int .i64 r1,.int .i64 r2])∧((r1,r2)=((Sp.grow L t).1,(Sp.grow L t).2.1)∧∃F',PoolAt w' p (Sp.grow L t).2.2 F'∧Ext F w w'∧∀b,F' b→F b∨w.heap.size≤b)):=by
 induction t using Sp.Tree.ind with
 | h k f t u x ks ih =>
 intro s w L F h2 hT hP hok hFS hSw
 suffices key:∀K:Int→Int→WP,(∀r1 r2 w',((r1,r2)=((Sp.grow L (.mk k f t u x ks)).1,(Sp.grow L (.mk k f t u x ks)).2.1)∧∃F',PoolAt w' p (Sp.grow L (.mk k f t u x ks)).2.2 F'∧Ext F w w'∧∀b,F' b→F b∨w.heap.size≤b)→K r1 r2 w')→m_O (some p) k f t u x s w K from
  w_O _ _ _ _ _ _ _ w _ (key _ (fun _ _ _ h=>h))
 intro K hK
 obtain ⟨hk2,hall⟩:=two_mk.1 h2
 unfold m_O
 intro p2 w1 h1
 have b1:=Box.of_new h1
 have E1:Pure w w1:=Ext.new h1
 refine ⟨_,_,_,_,_,_,b1.row,?_⟩
 refine (c_nodeOf _ _ _ _ _ _ w1).mono ?_
 rintro _ w2 ⟨k',f',t',u',x',a',b',rfl,hn,E12⟩
 cases hn
 refine ⟨_,_,_,_,_,_,_,rfl,?_⟩
 intro p3 w3 h3
 have E3:Pure w w3:=(E1.trans E12).trans (Ext.new h3)
 have o3:=New.own (E1.trans E12) h3
 have n23:p2.block≠p3.block:=New.ne h3 (b1.pure E12).blk
 refine bx 7 (Box.of_new h3) rfl rfl (fun w4 b3 E34=>?_)
 have E4:Pure w w4:=E3.own o3 E34
 have b2:=((b1.pure E12).pure (Ext.new h3)).ext E34 n23
 intro p4 w5 h5
 have E5:Pure w w5:=E4.trans (Ext.new h5)
 have o4:=New.own E4 h5
 have n34:p3.block≠p4.block:=New.ne h5 b3.blk
 have c3:=b3.pure (Ext.new h5:Pure w4 w5)
 have c4:=Box.of_new h5
 have c2:=b2.pure (Ext.new h5:Pure w4 w5)
 refine ⟨s,c2.cell rfl,?_⟩
 have hsp:Sp.grow L (.mk k f t u x ks)=Sp.growAll ⟨k,f,t,u,x,0,0⟩ 0 L ks:=by rw [Sp.grow]
 rw [hsp] at hK
 have hlen:s.len=ks.length:=by cases hT;assumption
 refine ⟨fun i w'=>∃j:Nat,i=j∧j≤ks.length∧∃(nd:Sp.Node) (L':Sp.Pool) (F':NP),Sp.growAll ⟨k,f,t,u,x,0,0⟩ 0 L ks=Sp.growAll nd j L' (ks.drop j)∧Sp.Ok L'∧PoolAt w' p L' F'∧(∀b,F' b→F b∨w.heap.size≤b)∧¬ F' p3.block∧¬ F' p4.block∧Ext F w w'∧Box w' p3 (nrow nd) 80∧Box w' p4 [.pointer (some (p3.add 5)),.pointer (some (p3.add 6))] 87,fun i _=>((ks.length:Int) - i).toNat,
  ⟨0,rfl,Nat.zero_le _,⟨k,f,t,u,x,0,0⟩,L,F,by simp,hok,hP.pure E5,fun b h=>.inl h,fun h=>by have:=hP.lt h;omega,fun h=>by have:=hP.lt h;omega,E5.pure,c3,c4⟩,?_⟩
 rintro _ wl ⟨j,rfl,hj,nd,L',F',heq,hok',hPl,hF',hn3,hn4,El,d3,d4⟩
 unfold m_O_l1
 refine ⟨fun h=>?_,fun h=>?_⟩
 ·have hlt:j<ks.length:=by have h:=of_decide_eq_true h;omega
  have hTl:TreeAt S wl s (.mk k f t u x ks):=hT.ext El (fun b hs hf=>hFS b hf hs)
  have hkid:∀i (h:i<ks.length),∃a r,At s i 6 a∧Row wl a (trow ks[i] r)∧TreeAt S wl r ks[i]:=by
   cases hTl with
   | mk _ _ _ _ _ _ _ rs len fit row kid=>exact fun i h=>let ⟨a,h1,_,h3⟩:=row i h;⟨a,rs i,h1,h3,kid i h⟩
  obtain ⟨a,r,hat,hrow,hTk⟩:=hkid j hlt
  refine ⟨a,hat,_,_,_,_,_,r,hrow,?_⟩
  intro p5 w6 h6
  have o5:=New.own (Ext.refl wl) h6
  refine bx 6 (Box.of_new h6) rfl rfl (fun w7 b5 E67=>?_)
  have E7:Pure wl w7:=Ext.own (Ext.new h6) o5 E67
  refine ⟨_,_,_,_,_,r,b5.row,?_⟩
  have hsz:w.heap.size≤wl.heap.size:=El.size
  refine (ih j hlt r w7 L' F' (twoAll_get hall hlt) (hTk.pure E7) (hPl.pure E7) hok' (fun b hb hs=>(hF' b hb).elim (fun h=>hFS b h hs) (fun h=>by have:=hSw b hs;omega)) (fun b hs=>by have:=hSw b hs;have:=E7.size;omega)).mono ?_
  rintro _ w8 ⟨r1,r2,rfl,hr,F8,hP8,E8,hF8⟩
  have e1:r1=(Sp.grow L' ks[j]).1:=congrArg Prod.fst hr
  have e2:r2=(Sp.grow L' ks[j]).2.1:=congrArg Prod.snd hr
  rw [List.drop_eq_getElem_cons hlt] at heq
  have hF8':∀b,F8 b→F b∨w.heap.size≤b:=fun b hb=>(hF8 b hb).elim (hF' b) (fun h=>by right;have:=E7.size;omega)
  have Ew8:Ext F w w8:=(El.thenPure E7).trans' E8 (fun i hi h=>(hF' i h).elim id (fun h=>by omega))
  refine ⟨_,_,rfl,fun h=>?_,fun h=>?_⟩
  ·have h:(Sp.grow L' ks[j]).2.1≠0:=by rw [← e2];simpa using h
   rw [growAll_bad h] at heq
   refine hK _ _ _ ?_
   rw [heq];exact ⟨by rw [e2],F8,hP8,Ew8,hF8'⟩
  ·have h:(Sp.grow L' ks[j]).2.1=0:=by rw [← e2];simpa using h
   rw [growAll_good h] at heq
   have q3:=(d3.pure E7).ext E8 hn3
   have q4:=(d4.pure E7).ext E8 hn4
   have hs7:wl.heap.size≤w7.heap.size:=E7.size
   have n38:¬ F8 p3.block:=fun h=>(hF8 _ h).elim hn3 (fun h=>by have:=(d3.pure E7).lt;omega)
   have n48:¬ F8 p4.block:=fun h=>(hF8 _ h).elim hn4 (fun h=>by have:=(d4.pure E7).lt;omega)
   have hok8:=(Sp.grow_facts ks[j] L' hok').1
   have fin : ∀ (w9 : World) (nd' : Sp.Node), nd' = (if j = 0 then { nd with a := (Sp.grow L' ks[j]).1 } else { nd with b := (Sp.grow L' ks[j]).1 }) → Box w9 p3 (nrow nd') 80 → Ext (· = p3.block) w8 w9 →
     (∃j':Nat,IntKind.i64.wrap ((j:Int)+1)=j'∧j'≤ks.length∧∃(nd:Sp.Node) (L':Sp.Pool) (F':NP),Sp.growAll ⟨k,f,t,u,x,0,0⟩ 0 L ks=Sp.growAll nd j' L' (ks.drop j')∧Sp.Ok L'∧PoolAt w9 p L' F'∧(∀b,F' b→F b∨w.heap.size≤b)∧¬ F' p3.block∧¬ F' p4.block∧Ext F w w9∧Box w9 p3 (nrow nd) 80∧Box w9 p4 [.pointer (some (p3.add 5)),.pointer (some (p3.add 6))] 87)∧((ks.length:Int) - IntKind.i64.wrap ((j:Int)+1)).toNat<((ks.length:Int) - (j:Int)).toNat:=by
    intro w9 nd' hnd B9 E9
    rw [i64 (by omega) (by omega)]
    refine ⟨⟨j+1,by omega,hlt,nd',_,F8,by rw [heq,hnd],hok8,hP8.ext E9 (fun b hb e=>n38 (e▸hb)),hF8',n38,n48,Ew8.trans' E9 (fun i hi h=>by subst h;omega),B9,q4.ext E9 n34.symm⟩,by omega⟩
   have hj2:j=0∨j=1:=by omega
   rcases hj2 with rfl | rfl
   ·refine ⟨p4,⟨by omega,by simp,p4,rfl,rfl⟩,some (p3.add 5),q4.cell0,p3.add 5,rfl,q3.canW (by simp [nrow]),?_⟩
    intro w9 hw9
    refine fin w9 _ rfl ?_ ?_
    ·rw [hw9,e1];exact q3.set 5 _
    ·rw [hw9];have:=Ext.setCell (w:=w8) (p3.add 5) (.int .i64 r1);rw [add_block] at this;exact this
   ·refine ⟨p4.add 1,⟨by omega,by simp,p4,rfl,rfl⟩,some (p3.add 6),q4.cell rfl,p3.add 6,rfl,q3.canW (by simp [nrow]),?_⟩
    intro w9 hw9
    refine fin w9 _ rfl ?_ ?_
    ·rw [hw9,e1];exact q3.set 6 _
    ·rw [hw9];have:=Ext.setCell (w:=w8) (p3.add 6) (.int .i64 r1);rw [add_block] at this;exact this
 ·have hge:j=ks.length:=by have h:=of_decide_eq_false h;omega
  rw [hge,List.drop_length,Sp.growAll] at heq
  obtain ⟨k0,f0,t0,u0,x0,a0,b0⟩:=nd
  refine ⟨_,_,_,_,_,_,_,d3.row,?_⟩
  refine (c_Make p k0 f0 t0 u0 x0 a0 b0 wl hPl hok').mono ?_
  rintro _ w9 ⟨r1,r2,rfl,hr,F9,hP9,E9,hF9⟩
  have hsz:w.heap.size≤wl.heap.size:=El.size
  refine ⟨_,_,rfl,hK _ _ _ ?_⟩
  rw [heq]
  exact ⟨hr,F9,hP9,El.trans' E9 (fun i hi h=>(hF' i h).elim id (fun h=>by omega)),fun b hb=>(hF9 b hb).elim (hF' b) (fun h=>by right;omega)⟩
theorem looks_two (t:Sp.Tree):∀i n:Int,(Sp.looks i n t).1=0→Sp.Tree.two t:=by
 induction t using Sp.Tree.ind with
 | h k f t u x ks ih =>
  have hA:∀(ks:List Sp.Tree),(∀i (hi:i<ks.length),∀j n:Int,(Sp.looks j n ks[i]).1=0→Sp.Tree.two ks[i])→∀i e n:Int,(Sp.looksAll i e n ks).1=0→e=0∧twoAll ks:=by
   intro ks
   induction ks with
   | nil=>intro _ i e n h;exact ⟨by simpa [Sp.looksAll] using h,trivial⟩
   | cons t ts iht =>
    intro hh i e n h
    unfold Sp.looksAll at h
    split at h
    ·rename_i he
     have:=iht (fun i hi=>hh (i+1) (by simpa using hi)) _ _ _ h
     exact ⟨he,hh 0 (by simp) i n this.1,this.2⟩
    ·rename_i he;exact absurd h he
  intro i n h
  unfold Sp.looks at h
  split at h
  ·cases h
  ·split at h
   ·cases h
   ·have:=hA ks ih _ _ _ h
    refine two_mk.2 ⟨?_,this.2⟩
    have ho:=this.1
    unfold Sp.ownErr at ho
    simp only at ho
    have hk:=Sp.kids_le k
    by_cases hp:Sp.plainErr ⟨k,f,t,u,x,0,0⟩=0
    ·rw [if_pos hp] at ho
     by_cases hl:(ks.length:Int)≠(Sp.shapeOf k).kids
     ·rw [if_pos hl] at ho;simp at ho
     ·omega
    ·rw [if_neg hp,if_neg hp] at ho;exact absurd ho hp
theorem c_Of {S : NP} (p : Addr) (t : Sp.Tree) (s : Sl) (w : World) {L : Sp.Pool} {F : NP} (hT : TreeAt S w s t) (hP : PoolAt w p L F) (hok : Sp.Ok L) (hFS : ∀ b, F b → ¬ S b) (hSw : ∀ b, S b → b < w.heap.size) :
  Calls prog 11 #[.pointer (some p),.agg (trow t s).toArray] w
   (fun e w'=>∃r1:Int,∃r2:Int,e=.returned (.tuple #[.int .i64 r1,.int .i64 r2])∧((r1,r2)=((Sp.of L t).1,(Sp.of L t).2.1)∧∃F',PoolAt w' p (Sp.of L t).2.2 F'∧Ext F w w'∧∀b,F' b→F b∨w.heap.size≤b)):=by
 obtain ⟨k,f,to,u,x,ks⟩:=t
 suffices key:∀K:Int→Int→WP,(∀r1 r2 w',((r1,r2)=((Sp.of L (.mk k f to u x ks)).1,(Sp.of L (.mk k f to u x ks)).2.1)∧∃F',PoolAt w' p (Sp.of L (.mk k f to u x ks)).2.2 F'∧Ext F w w'∧∀b,F' b→F b∨w.heap.size≤b)→K r1 r2 w')→m_T (some p) k f to u x s w K from
  w_T _ _ _ _ _ _ _ w _ (key _ (fun _ _ _ h=>h))
 intro K hK
 unfold m_T
 intro p2 w1 h1
 have b1:=Box.of_new h1
 have E1:Pure w w1:=Ext.new h1
 refine Br.f rfl ?_
 intro p3 w2 h2
 have E2:Pure w w2:=E1.trans (Ext.new h2)
 have o3:=New.own E1 h2
 have c3:=Box.of_new h2
 have n23:p2.block≠p3.block:=New.ne h2 b1.blk
 refine ⟨c3.canW0 (by simp),?_⟩
 intro w3 hw3
 have c3':Box w3 p3 [.int .i64 0] 3:=by rw [hw3];exact c3.set0
 have E23:Ext (·=p3.block) w2 w3:=by rw [hw3];exact Ext.setCell p3 _
 clear hw3
 have E3:Pure w w3:=E2.own o3 E23
 have b3:=(b1.pure (Ext.new h2:Pure w1 w2)).ext E23 n23
 refine ⟨_,_,_,_,_,s,b3.row,?_⟩
 generalize ht:Sp.Tree.mk k f to u x ks=t at *
 have htr:(Value.agg #[.int .i64 k,.int .i64 f,.int .i64 to,.int .u64 u,.string x,s.v])=.agg (trow t s).toArray:=by rw [← ht];rfl
 rw [htr]
 refine (c_looks p3 (fun h=>by have:=hSw _ h;omega) _ t s 0 0 w3 (by omega) (by omega) (hT.pure E3) c3').mono ?_
 rintro _ w4 ⟨r1,rfl,rfl,_,E34⟩
 have E4:Pure w w4:=E3.own o3 E34
 have b4:=b3.ext E34 n23
 have same:∀w',Pure w w'→∃F',PoolAt w' p L F'∧Ext F w w'∧∀b,F' b→F b∨w.heap.size≤b:=fun w' E=>⟨F,hP.pure E,E.pure,fun _ h=>.inl h⟩
 refine ⟨_,rfl,fun h=>?_,fun h=>?_⟩
 ·have h:(Sp.looks 0 0 t).1≠0:=by simpa using h
  have:Sp.of L t=(0,(Sp.looks 0 0 t).1,L):=by rw [Sp.of,if_pos h]
  refine hK _ _ _ ?_
  rw [this];exact ⟨rfl,same _ E4⟩
 ·have h:(Sp.looks 0 0 t).1=0:=by simpa using h
  have hP4:=hP.pure E4
  obtain ⟨s0,m0,hS0,hF0⟩:=id hP4
  have hl0:s0.len=L.length:=by rw [hS0.rows.len];simp
  refine ⟨p,rfl,s0,hS0.box.cell0,_,_,_,_,_,s,b4.row,?_⟩
  rw [htr]
  refine (c_grow p t s w4 L F (looks_two t _ _ h) (hT.pure E4) hP4 hok hFS (fun b hb=>by have:=hSw b hb;have:=E4.size;omega)).mono ?_
  rintro _ w5 ⟨r1,r2,rfl,hr,F5,hP5,E45,hF5⟩
  have e1:r1=(Sp.grow L t).1:=congrArg Prod.fst hr
  have e2:r2=(Sp.grow L t).2.1:=congrArg Prod.snd hr
  have hs4:w.heap.size≤w4.heap.size:=E4.size
  have E5:Ext F w w5:=E4.pure.trans E45
  have hF5':∀b,F5 b→F b∨w.heap.size≤b:=fun b hb=>(hF5 b hb).elim .inl (fun h=>.inr (by omega))
  refine ⟨_,_,rfl,fun h'=>?_,fun h'=>?_⟩
  ·have h':(Sp.grow L t).2.1≠0:=by rw [← e2];simpa using h'
   obtain ⟨hok5,M,hM⟩:=Sp.grow_facts t L hok
   rw [hl0]
   refine (c_cut p L.length w5 hP5 hok5 (by rw [hM];simp)).mono ?_
   rintro _ w6 ⟨rfl,hP6,E56⟩
   have:Sp.of L t=(0,(Sp.grow L t).2.1,L):=by rw [Sp.of,if_neg (by simp [h]),if_pos h']
   refine ⟨rfl,hK _ _ _ ?_⟩
   rw [this]
   rw [hM,List.take_left] at hP6
   exact ⟨by rw [e2],F5,hP6,E5.trans' E56 (fun i hi h=>(hF5' i h).elim id (fun h=>by omega)),hF5'⟩
  ·have h':(Sp.grow L t).2.1=0:=by rw [← e2];simpa using h'
   have:Sp.of L t=((Sp.grow L t).1,0,(Sp.grow L t).2.2):=by rw [Sp.of,if_neg (by simp [h]),if_neg (by simp [h'])]
   refine hK _ _ _ ?_
   rw [this]
   exact ⟨by rw [e1],F5,hP5,E5,hF5'⟩
end Go.Proofs
end
section
open Go Go.SE
open Go.IntKind renaming i64 → q6
namespace Go.Proofs
open Tryd
set_option maxRecDepth 100000
set_option maxHeartbeats 4000000
attribute [local irreducible] wpL wpX opE wpE Calls
def m_V (gB gC gD:Int) (gE:ByteArray) (gF first1 second1:Bool) (w:World) (K:Int→Int→Int→Int→ByteArray→Sl→WP):Prop :=
 ∀(p1:Addr) (w1:World),New w (.cells #[(vi gB),(vi gC),(vu gD),(vs gE),(vb gF)] 42) p1 w1 →
 ∀(p2:Addr) (w2:World),New w1 (.cells #[(vi 0),(vi 0),(vi 0),(vu 0),ve,Sl.nil.v] 39) p2 w2 →
 ∃v1:Int,w2.cell? (p1.add 2)=some (vu v1) ∧
 ∃v2:ByteArray,w2.cell? (p1.add 3)=some (vs v2) ∧
 Calls prog 20 #[(vu v1),(vs v2)] w2 (fun e w3=>∃aE aF:Int,∃aG aD:Int,∃aH:ByteArray,∃bK:Sl,e=.returned (.agg #[(vi aE),(vi aF),(vi aG),(vu aD),(vs aH),bK.v])∧
  ∀(p3:Addr) (w4:World),New w3 (.cells #[(vi 0),(vi 0),(vi 0),(vu 0),ve,Sl.nil.v] 39) p3 w4 →
  (∀j,j<6→CanW w4 (p3.add j))∧∀w5:World,w5=storeRow w4 p3 [(vi aE),(vi aF),(vi aG),(vu aD),(vs aH),bK.v] →
  ∃v3:Int,w5.cell? p1=some (vi v3) ∧
  Br (v3 == 1)
   (∃v4:Int,w5.cell? (p1.add 1)=some (vi v4) ∧
   ∃aL aM:Int,∃aR aS:Int,∃aN:ByteArray,∃bA:Sl,Row w5 p3 [(vi aL),(vi aM),(vi aR),(vu aS),(vs aN),bA.v] ∧
   ∃v5:Bool,w5.cell? (p1.add 4)=some (vb v5) ∧
   Calls prog 21 #[(vi v4),(.agg #[(vi aL),(vi aM),(vi aR),(vu aS),(vs aN),bA.v]),(vb v5)] w5 (fun e w6=>∃bB bC:Int,∃bL aT:Int,∃aX:ByteArray,∃eX:Sl,e=.returned (.agg #[(vi bB),(vi bC),(vi bL),(vu aT),(vs aX),eX.v])∧
    (∀j,j<6→CanW w6 (p2.add j))∧∀w7:World,w7=storeRow w6 p2 [(vi bB),(vi bC),(vi bL),(vu aT),(vs aX),eX.v] →
    ∃aA aB:Int,∃aI aJ:Int,∃aC:ByteArray,∃aK:Sl,Row w7 p2 [(vi aA),(vi aB),(vi aI),(vu aJ),(vs aC),aK.v] ∧
    K aA aB aI aJ aC aK w7))
   (Br (v3 == 2)
    (∃v6:Int,w5.cell? (p1.add 1)=some (vi v6) ∧
    ∃bD bE:Int,∃bO bP:Int,∃bF:ByteArray,∃bQ:Sl,Row w5 p3 [(vi bD),(vi bE),(vi bO),(vu bP),(vs bF),bQ.v] ∧
    Calls prog 22 #[(vi v6),(.agg #[(vi bD),(vi bE),(vi bO),(vu bP),(vs bF),bQ.v])] w5 (fun e w8=>∃bR bS:Int,∃cW cX:Int,∃bG:ByteArray,∃eY:Sl,e=.returned (.agg #[(vi bR),(vi bS),(vi cW),(vu cX),(vs bG),eY.v])∧
     (∀j,j<6→CanW w8 (p2.add j))∧∀w9:World,w9=storeRow w8 p2 [(vi bR),(vi bS),(vi cW),(vu cX),(vs bG),eY.v] →
     ∃aO aP:Int,∃bT bU:Int,∃aQ:ByteArray,∃dD:Sl,Row w9 p2 [(vi aO),(vi aP),(vi bT),(vu bU),(vs aQ),dD.v] ∧
     K aO aP bT bU aQ dD w9))
    (Br (v3 == 3)
     (∃C1:WP,C1 w5.drew∧∀w10,w10=w5.drew →
     ∃v7:Int,(∀w',C1 w'→w'.cell? (p1.add 2)=some (vu v7)) ∧
     Calls prog 24 #[(vs (⟨#[97,98,111,114,116]⟩:ByteArray))] w10 (fun e w11=>∃bH bI:Int,∃fU fV:Int,∃bJ:ByteArray,∃fW:Sl,e=.returned (.agg #[(vi bH),(vi bI),(vi fU),(vu fV),(vs bJ),fW.v])∧C1 w11∧
      Calls prog 25 #[(vu v7)] w11 (fun e w12=>∃cT cU:Int,∃eZ fA:Int,∃cV:ByteArray,∃fB:Sl,e=.returned (.agg #[(vi cT),(vi cU),(vi eZ),(vu fA),(vs cV),fB.v])∧
       Calls prog 23 #[(.agg #[(vi bH),(vi bI),(vi fU),(vu fV),(vs bJ),fW.v]),(.agg #[(vi cT),(vi cU),(vi eZ),(vu fA),(vs cV),fB.v])] w12 (fun e w13=>∃dU dV:Int,∃gG gH:Int,∃dW:ByteArray,∃gI:Sl,e=.returned (.agg #[(vi dU),(vi dV),(vi gG),(vu gH),(vs dW),gI.v])∧
        Calls prog 22 #[(vi 0),(.agg #[(vi dU),(vi dV),(vi gG),(vu gH),(vs dW),gI.v])] w13 (fun e w14=>∃eI eJ:Int,∃jF jG:Int,∃eK:ByteArray,∃jH:Sl,e=.returned (.agg #[(vi eI),(vi eJ),(vi jF),(vu jG),(vs eK),jH.v])∧
         (∀j,j<6→CanW w14 (p2.add j))∧∀w15:World,w15=storeRow w14 p2 [(vi eI),(vi eJ),(vi jF),(vu jG),(vs eK),jH.v] →
         ∃aU aV:Int,∃dE dF:Int,∃aW:ByteArray,∃gJ:Sl,Row w15 p2 [(vi aU),(vi aV),(vi dE),(vu dF),(vs aW),gJ.v] ∧
         K aU aV dE dF aW gJ w15)))))
     (Br (v3 == 4)
      (∃C2:WP,C2 w5.drew∧∀w16,w16=w5.drew →
      ∃v8:Int,(∀w',C2 w'→w'.cell? (p1.add 1)=some (vi v8)) ∧
      ∃dG dH:Int,∃gK gL:Int,∃dI:ByteArray,∃gM:Sl,(∀w',C2 w'→Row w' p3 [(vi dG),(vi dH),(vi gK),(vu gL),(vs dI),gM.v]) ∧
      ∃v9:Bool,(∀w',C2 w'→w'.cell? (p1.add 4)=some (vb v9)) ∧
      ∃cY cZ:Int,∃fC fD:Int,∃dA:ByteArray,∃fE:Sl,(∀w',C2 w'→Row w' p3 [(vi cY),(vi cZ),(vi fC),(vu fD),(vs dA),fE.v]) ∧
      ∃v10:Bool,(∀w',C2 w'→w'.cell? (p1.add 4)=some (vb v10)) ∧
      Calls prog 24 #[(vs (⟨#[114,101,115,111,108,118,101]⟩:ByteArray))] w16 (fun e w17=>∃dX dY:Int,∃gN gO:Int,∃dZ:ByteArray,∃gP:Sl,e=.returned (.agg #[(vi dX),(vi dY),(vi gN),(vu gO),(vs dZ),gP.v])∧C2 w17∧
       Br v9
        (Calls prog 21 #[(vi 0),(.agg #[(vi dG),(vi dH),(vi gK),(vu gL),(vs dI),gM.v]),(vb first1)] w17 (fun e w18=>∃eL eM:Int,∃jI jJ:Int,∃eN:ByteArray,∃jK:Sl,e=.returned (.agg #[(vi eL),(vi eM),(vi jI),(vu jJ),(vs eN),jK.v])∧C2 w18∧
         Br v10
          (Calls prog 21 #[(vi 1),(.agg #[(vi cY),(vi cZ),(vi fC),(vu fD),(vs dA),fE.v]),(vb second1)] w18 (fun e w19=>∃eC eD:Int,∃lU lV:Int,∃eE:ByteArray,∃lW:Sl,e=.returned (.agg #[(vi eC),(vi eD),(vi lU),(vu lV),(vs eE),lW.v])∧C2 w19∧
           Calls prog 23 #[(.agg #[(vi eL),(vi eM),(vi jI),(vu jJ),(vs eN),jK.v]),(.agg #[(vi eC),(vi eD),(vi lU),(vu lV),(vs eE),lW.v])] w19 (fun e w20=>∃fF fG:Int,∃lX lY:Int,∃fH:ByteArray,∃lZ:Sl,e=.returned (.agg #[(vi fF),(vi fG),(vi lX),(vu lY),(vs fH),lZ.v])∧C2 w20∧
            Calls prog 23 #[(.agg #[(vi dX),(vi dY),(vi gN),(vu gO),(vs dZ),gP.v]),(.agg #[(vi fF),(vi fG),(vi lX),(vu lY),(vs fH),lZ.v])] w20 (fun e w21=>∃fI fJ:Int,∃mA mB:Int,∃fK:ByteArray,∃mC:Sl,e=.returned (.agg #[(vi fI),(vi fJ),(vi mA),(vu mB),(vs fK),mC.v])∧C2 w21∧
             Calls prog 22 #[(vi v8),(.agg #[(vi fI),(vi fJ),(vi mA),(vu mB),(vs fK),mC.v])] w21 (fun e w22=>∃eO eP:Int,∃jL jM:Int,∃eQ:ByteArray,∃jN:Sl,e=.returned (.agg #[(vi eO),(vi eP),(vi jL),(vu jM),(vs eQ),jN.v])∧
              (∀j,j<6→CanW w22 (p2.add j))∧∀w23:World,w23=storeRow w22 p2 [(vi eO),(vi eP),(vi jL),(vu jM),(vs eQ),jN.v] →
              ∃bV bW:Int,∃gQ gR:Int,∃bX:ByteArray,∃gS:Sl,Row w23 p2 [(vi bV),(vi bW),(vi gQ),(vu gR),(vs bX),gS.v] ∧
              K bV bW gQ gR bX gS w23)))))
          (Calls prog 21 #[(vi 1),(.agg #[(vi cY),(vi cZ),(vi fC),(vu fD),(vs dA),fE.v]),(vb false)] w18 (fun e w24=>∃fL fM:Int,∃mD mE:Int,∃fN:ByteArray,∃mF:Sl,e=.returned (.agg #[(vi fL),(vi fM),(vi mD),(vu mE),(vs fN),mF.v])∧C2 w24∧
           Calls prog 23 #[(.agg #[(vi eL),(vi eM),(vi jI),(vu jJ),(vs eN),jK.v]),(.agg #[(vi fL),(vi fM),(vi mD),(vu mE),(vs fN),mF.v])] w24 (fun e w25=>∃eF eG:Int,∃mG mH:Int,∃eH:ByteArray,∃mI:Sl,e=.returned (.agg #[(vi eF),(vi eG),(vi mG),(vu mH),(vs eH),mI.v])∧C2 w25∧
            Calls prog 23 #[(.agg #[(vi dX),(vi dY),(vi gN),(vu gO),(vs dZ),gP.v]),(.agg #[(vi eF),(vi eG),(vi mG),(vu mH),(vs eH),mI.v])] w25 (fun e w26=>∃fO fP:Int,∃mJ mK:Int,∃fQ:ByteArray,∃mL:Sl,e=.returned (.agg #[(vi fO),(vi fP),(vi mJ),(vu mK),(vs fQ),mL.v])∧C2 w26∧
             Calls prog 22 #[(vi v8),(.agg #[(vi fO),(vi fP),(vi mJ),(vu mK),(vs fQ),mL.v])] w26 (fun e w27=>∃eR eS:Int,∃jO jP:Int,∃eT:ByteArray,∃jQ:Sl,e=.returned (.agg #[(vi eR),(vi eS),(vi jO),(vu jP),(vs eT),jQ.v])∧
              (∀j,j<6→CanW w27 (p2.add j))∧∀w28:World,w28=storeRow w27 p2 [(vi eR),(vi eS),(vi jO),(vu jP),(vs eT),jQ.v] →
              ∃bY bZ:Int,∃gT gU:Int,∃cA:ByteArray,∃gV:Sl,Row w28 p2 [(vi bY),(vi bZ),(vi gT),(vu gU),(vs cA),gV.v] ∧
              K bY bZ gT gU cA gV w28)))))))
        (Calls prog 21 #[(vi 0),(.agg #[(vi dG),(vi dH),(vi gK),(vu gL),(vs dI),gM.v]),(vb false)] w17 (fun e w29=>∃eU eV:Int,∃jR jS:Int,∃eW:ByteArray,∃jT:Sl,e=.returned (.agg #[(vi eU),(vi eV),(vi jR),(vu jS),(vs eW),jT.v])∧C2 w29∧
         Br v10
          (Calls prog 21 #[(vi 1),(.agg #[(vi cY),(vi cZ),(vi fC),(vu fD),(vs dA),fE.v]),(vb second1)] w29 (fun e w30=>∃fR fS:Int,∃mM mN:Int,∃fT:ByteArray,∃mO:Sl,e=.returned (.agg #[(vi fR),(vi fS),(vi mM),(vu mN),(vs fT),mO.v])∧C2 w30∧
           Calls prog 23 #[(.agg #[(vi eU),(vi eV),(vi jR),(vu jS),(vs eW),jT.v]),(.agg #[(vi fR),(vi fS),(vi mM),(vu mN),(vs fT),mO.v])] w30 (fun e w31=>∃gW gX:Int,∃mP mQ:Int,∃gY:ByteArray,∃mR:Sl,e=.returned (.agg #[(vi gW),(vi gX),(vi mP),(vu mQ),(vs gY),mR.v])∧C2 w31∧
            Calls prog 23 #[(.agg #[(vi dX),(vi dY),(vi gN),(vu gO),(vs dZ),gP.v]),(.agg #[(vi gW),(vi gX),(vi mP),(vu mQ),(vs gY),mR.v])] w31 (fun e w32=>∃mS mT:Int,∃mU mV:Int,∃mW:ByteArray,∃mX:Sl,e=.returned (.agg #[(vi mS),(vi mT),(vi mU),(vu mV),(vs mW),mX.v])∧C2 w32∧
             Calls prog 22 #[(vi v8),(.agg #[(vi mS),(vi mT),(vi mU),(vu mV),(vs mW),mX.v])] w32 (fun e w33=>∃jU jV:Int,∃jW jX:Int,∃jY:ByteArray,∃jZ:Sl,e=.returned (.agg #[(vi jU),(vi jV),(vi jW),(vu jX),(vs jY),jZ.v])∧
              (∀j,j<6→CanW w33 (p2.add j))∧∀w34:World,w34=storeRow w33 p2 [(vi jU),(vi jV),(vi jW),(vu jX),(vs jY),jZ.v] →
              ∃cB cC:Int,∃gZ hA:Int,∃cD:ByteArray,∃hB:Sl,Row w34 p2 [(vi cB),(vi cC),(vi gZ),(vu hA),(vs cD),hB.v] ∧
              K cB cC gZ hA cD hB w34)))))
          (Calls prog 21 #[(vi 1),(.agg #[(vi cY),(vi cZ),(vi fC),(vu fD),(vs dA),fE.v]),(vb false)] w29 (fun e w35=>∃mY mZ:Int,∃nA nB:Int,∃nC:ByteArray,∃nD:Sl,e=.returned (.agg #[(vi mY),(vi mZ),(vi nA),(vu nB),(vs nC),nD.v])∧C2 w35∧
           Calls prog 23 #[(.agg #[(vi eU),(vi eV),(vi jR),(vu jS),(vs eW),jT.v]),(.agg #[(vi mY),(vi mZ),(vi nA),(vu nB),(vs nC),nD.v])] w35 (fun e w36=>∃nE nF:Int,∃nG nH:Int,∃nI:ByteArray,∃nJ:Sl,e=.returned (.agg #[(vi nE),(vi nF),(vi nG),(vu nH),(vs nI),nJ.v])∧C2 w36∧
            Calls prog 23 #[(.agg #[(vi dX),(vi dY),(vi gN),(vu gO),(vs dZ),gP.v]),(.agg #[(vi nE),(vi nF),(vi nG),(vu nH),(vs nI),nJ.v])] w36 (fun e w37=>∃nK nL:Int,∃nM nN:Int,∃nO:ByteArray,∃nP:Sl,e=.returned (.agg #[(vi nK),(vi nL),(vi nM),(vu nN),(vs nO),nP.v])∧C2 w37∧
             Calls prog 22 #[(vi v8),(.agg #[(vi nK),(vi nL),(vi nM),(vu nN),(vs nO),nP.v])] w37 (fun e w38=>∃kA kB:Int,∃kC kD:Int,∃kE:ByteArray,∃kF:Sl,e=.returned (.agg #[(vi kA),(vi kB),(vi kC),(vu kD),(vs kE),kF.v])∧
              (∀j,j<6→CanW w38 (p2.add j))∧∀w39:World,w39=storeRow w38 p2 [(vi kA),(vi kB),(vi kC),(vu kD),(vs kE),kF.v] →
              ∃cE cF:Int,∃hD hE:Int,∃cG:ByteArray,∃hF:Sl,Row w39 p2 [(vi cE),(vi cF),(vi hD),(vu hE),(vs cG),hF.v] ∧
              K cE cF hD hE cG hF w39)))))))))
      (Br (v3 == 5)
       (∃C3:WP,C3 w5.drew∧∀w40,w40=w5.drew →
       ∃v11:Int,(∀w',C3 w'→w'.cell? (p1.add 2)=some (vu v11)) ∧
       Calls prog 24 #[(vs (⟨#[97,98,111,114,116,101,100]⟩:ByteArray))] w40 (fun e w41=>∃nQ nR:Int,∃nS nT:Int,∃nU:ByteArray,∃nV:Sl,e=.returned (.agg #[(vi nQ),(vi nR),(vi nS),(vu nT),(vs nU),nV.v])∧C3 w41∧
        Calls prog 25 #[(vu v11)] w41 (fun e w42=>∃nW nX:Int,∃nY nZ:Int,∃oA:ByteArray,∃oB:Sl,e=.returned (.agg #[(vi nW),(vi nX),(vi nY),(vu nZ),(vs oA),oB.v])∧
         Calls prog 23 #[(.agg #[(vi nQ),(vi nR),(vi nS),(vu nT),(vs nU),nV.v]),(.agg #[(vi nW),(vi nX),(vi nY),(vu nZ),(vs oA),oB.v])] w42 (fun e w43=>∃oC oD:Int,∃oE oF:Int,∃oG:ByteArray,∃oH:Sl,e=.returned (.agg #[(vi oC),(vi oD),(vi oE),(vu oF),(vs oG),oH.v])∧
          Calls prog 22 #[(vi 2),(.agg #[(vi oC),(vi oD),(vi oE),(vu oF),(vs oG),oH.v])] w43 (fun e w44=>∃kG kH:Int,∃kI kJ:Int,∃kK:ByteArray,∃kL:Sl,e=.returned (.agg #[(vi kG),(vi kH),(vi kI),(vu kJ),(vs kK),kL.v])∧
           (∀j,j<6→CanW w44 (p2.add j))∧∀w45:World,w45=storeRow w44 p2 [(vi kG),(vi kH),(vi kI),(vu kJ),(vs kK),kL.v] →
           ∃dJ dK:Int,∃hG hI:Int,∃dL:ByteArray,∃hJ:Sl,Row w45 p2 [(vi dJ),(vi dK),(vi hG),(vu hI),(vs dL),hJ.v] ∧
           K dJ dK hG hI dL hJ w45)))))
       (Br (v3 == 6)
        (∃C4:WP,C4 w5.drew∧∀w46,w46=w5.drew →
        ∃iZ jA:Int,∃jB jC:Int,∃jD:ByteArray,∃jE:Sl,(∀w',C4 w'→Row w' p3 [(vi iZ),(vi jA),(vi jB),(vu jC),(vs jD),jE.v]) ∧
        Calls prog 24 #[(vs (⟨#[105,110,115,116,101,97,100]⟩:ByteArray))] w46 (fun e w47=>∃oI oJ:Int,∃oK oL:Int,∃oM:ByteArray,∃oN:Sl,e=.returned (.agg #[(vi oI),(vi oJ),(vi oK),(vu oL),(vs oM),oN.v])∧C4 w47∧
         Calls prog 23 #[(.agg #[(vi oI),(vi oJ),(vi oK),(vu oL),(vs oM),oN.v]),(.agg #[(vi iZ),(vi jA),(vi jB),(vu jC),(vs jD),jE.v])] w47 (fun e w48=>∃oO oP:Int,∃oQ oR:Int,∃oS:ByteArray,∃oT:Sl,e=.returned (.agg #[(vi oO),(vi oP),(vi oQ),(vu oR),(vs oS),oT.v])∧
          Calls prog 22 #[(vi 2),(.agg #[(vi oO),(vi oP),(vi oQ),(vu oR),(vs oS),oT.v])] w48 (fun e w49=>∃kM kN:Int,∃kO kP:Int,∃kQ:ByteArray,∃kR:Sl,e=.returned (.agg #[(vi kM),(vi kN),(vi kO),(vu kP),(vs kQ),kR.v])∧
           (∀j,j<6→CanW w49 (p2.add j))∧∀w50:World,w50=storeRow w49 p2 [(vi kM),(vi kN),(vi kO),(vu kP),(vs kQ),kR.v] →
           ∃hK hL:Int,∃hM hN:Int,∃hO:ByteArray,∃hQ:Sl,Row w50 p2 [(vi hK),(vi hL),(vi hM),(vu hN),(vs hO),hQ.v] ∧
           K hK hL hM hN hO hQ w50))))
        (∃C5:WP,C5 w5.drew∧∀w51,w51=w5.drew →
        ∃v12:Int,(∀w',C5 w'→w'.cell? (p1.add 2)=some (vu v12)) ∧
        Calls prog 24 #[(vs (⟨#[102,117,108,108]⟩:ByteArray))] w51 (fun e w52=>∃oU oV:Int,∃oW oX:Int,∃oY:ByteArray,∃oZ:Sl,e=.returned (.agg #[(vi oU),(vi oV),(vi oW),(vu oX),(vs oY),oZ.v])∧C5 w52∧
         Calls prog 25 #[(vu v12)] w52 (fun e w53=>∃pA pB:Int,∃pC pD:Int,∃pE:ByteArray,∃pF:Sl,e=.returned (.agg #[(vi pA),(vi pB),(vi pC),(vu pD),(vs pE),pF.v])∧
          Calls prog 23 #[(.agg #[(vi oU),(vi oV),(vi oW),(vu oX),(vs oY),oZ.v]),(.agg #[(vi pA),(vi pB),(vi pC),(vu pD),(vs pE),pF.v])] w53 (fun e w54=>∃kS kT:Int,∃kU kV:Int,∃kW:ByteArray,∃kX:Sl,e=.returned (.agg #[(vi kS),(vi kT),(vi kU),(vu kV),(vs kW),kX.v])∧
           (∀j,j<6→CanW w54 (p2.add j))∧∀w55:World,w55=storeRow w54 p2 [(vi kS),(vi kT),(vi kU),(vu kV),(vs kW),kX.v] →
           ∃hR hS:Int,∃hT hU:Int,∃hV:ByteArray,∃hW:Sl,Row w55 p2 [(vi hR),(vi hS),(vi hT),(vu hU),(vs hV),hW.v] ∧
           K hR hS hT hU hV hW w55))))))))))
theorem w_V (gB gC gD : Int) (gE : ByteArray) (gF first1 second1 : Bool) (w : World) (K : Int → Int → Int → Int → ByteArray → Sl → WP) (h : m_V gB gC gD gE gF first1 second1 w K) :
  Calls prog 12 #[(.agg #[(vi gB),(vi gC),(vu gD),(vs gE),(vb gF)]),(vb first1),(vb second1)] w (fun e w'=>∃pG pH:Int,∃pI pJ:Int,∃pK:ByteArray,∃pL:Sl,e=.returned (.agg #[(vi pG),(vi pH),(vi pI),(vu pJ),(vs pK),pL.v])∧K pG pH pI pJ pK pL w'):=by
 unfold m_V at h
 refine cw (args:=[(.agg #[(vi gB),(vi gC),(vu gD),(vs gE),(vb gF)]),(vb first1),(vb second1)]) func12 ntmps12 (eg (sn (O:=(.cells #[(vi gB),(vi gC),(vu gD),(vs gE),(vb gF)] 42)) xb ?_))
 intro p1 w1 hn14
 have h:=h p1 w1 hn14
 refine sn (O:=(.cells #[(vi 0),(vi 0),(vi 0),(vu 0),ve,Sl.nil.v] 39)) (x_alloc (zeroValue39 _) rfl) ?_
 intro p2 w2 hn13
 have h:=h p2 w2 hn13
 refine ln (eg (q0 (vp (some (p1.add 2))) ?_))
 obtain ⟨v1,hv27,h⟩:=h
 refine q2 (vu v1) (xl (isAgg22 _) hv27) (q0 (vp (some (p1.add 3))) ?_)
 obtain ⟨v2,hv26,h⟩:=h
 refine q2 (vs v2) (xl (isAgg9 _) hv26) ?_
 refine sc call20 (h.mono ?_)
 rintro e w3 ⟨aE,aF,aG,aD,aH,bK,rfl,h⟩
 refine ⟨_,rfl,?_⟩
 refine sn (O:=(.cells #[(vi 0),(vi 0),(vi 0),(vu 0),ve,Sl.nil.v] 39)) (x_alloc (zeroValue39 _) rfl) ?_
 intro p3 w4 hn12
 have h:=h p3 w4 hn12
 obtain ⟨hp1,h⟩:=h
 refine ss (xo p3 [(vi aE),(vi aF),(vi aG),(vu aD),(vs aH),bK.v] (sizeOf39 _) hp1) ?_
 intro w5 hn1
 have h:=h w5 hn1
 refine ln (wpE_seq (eg (q0 (vp (some p1)) ?_)))
 obtain ⟨v3,hv25,h⟩:=h
 refine q2 (vi v3) (xl (isAgg3 _) hv25) (ln (wpE_block (eg (q0 (vb (v3 == 1)) (q0 (vb (v3 == 1)) (ln ?_))))))
 refine wpE_cond (t:=(v3 == 1)) (by kernel_rfl) (fun hc1=>?_) (fun hc1=>?_)
 have h:=h.1 hc1
 refine eg (q0 (vp (some (p1.add 1))) ?_)
 obtain ⟨v4,hv4,h⟩:=h
 refine q2 (vi v4) (xl (isAgg3 _) hv4) ?_
 obtain ⟨aL,aM,aR,aS,aN,bA,hv3,h⟩:=h
 refine q2 (.agg #[(vi aL),(vi aM),(vi aR),(vu aS),(vs aN),bA.v]) (xa p3 [(vi aL),(vi aM),(vi aR),(vu aS),(vs aN),bA.v] (isAgg39 _) (sizeOf39 _) hv3) (q0 (vp (some (p1.add 4))) ?_)
 obtain ⟨v5,hv2,h⟩:=h
 refine q2 (vb v5) (xl (isAgg4 _) hv2) ?_
 refine sc call21 (h.mono ?_)
 rintro e w6 ⟨bB,bC,bL,aT,aX,eX,rfl,h⟩
 refine ⟨_,rfl,?_⟩
 obtain ⟨hp2,h⟩:=h
 refine ss (xo p2 [(vi bB),(vi bC),(vi bL),(vu aT),(vs aX),eX.v] (sizeOf39 _) hp2) ?_
 intro w7 hn2
 have h:=h w7 hn2
 refine ln (er (bl_r (th_r ?_)))
 obtain ⟨aA,aB,aI,aJ,aC,aK,hv1,h⟩:=h
 refine resG (.inl rfl) (vs:=[(.agg #[(vi aA),(vi aB),(vi aI),(vu aJ),(vs aC),aK.v])]) (v:=(.agg #[(vi aA),(vi aB),(vi aI),(vu aJ),(vs aC),aK.v])) results12 ⟨(rva (isAgg39 _) (sizeOf39 _) hv1),trivial⟩ (by kernel_rfl) ?_
 exact ⟨aA,aB,aI,aJ,aC,aK,rfl,h⟩
 have h:=h.2 hc1
 refine eg (q0 (vb (v3 == 2)) (q0 (vb (v3 == 2)) (ln ?_)))
 refine wpE_cond (t:=(v3 == 2)) (by kernel_rfl) (fun hc2=>?_) (fun hc2=>?_)
 have h:=h.1 hc2
 refine eg (q0 (vp (some (p1.add 1))) ?_)
 obtain ⟨v6,hv7,h⟩:=h
 refine q2 (vi v6) (xl (isAgg3 _) hv7) ?_
 obtain ⟨bD,bE,bO,bP,bF,bQ,hv6,h⟩:=h
 refine q2 (.agg #[(vi bD),(vi bE),(vi bO),(vu bP),(vs bF),bQ.v]) (xa p3 [(vi bD),(vi bE),(vi bO),(vu bP),(vs bF),bQ.v] (isAgg39 _) (sizeOf39 _) hv6) ?_
 refine sc call22 (h.mono ?_)
 rintro e w8 ⟨bR,bS,cW,cX,bG,eY,rfl,h⟩
 refine ⟨_,rfl,?_⟩
 obtain ⟨hp3,h⟩:=h
 refine ss (xo p2 [(vi bR),(vi bS),(vi cW),(vu cX),(vs bG),eY.v] (sizeOf39 _) hp3) ?_
 intro w9 hn3
 have h:=h w9 hn3
 refine ln (er (bl_r (th_r ?_)))
 obtain ⟨aO,aP,bT,bU,aQ,dD,hv5,h⟩:=h
 refine resG (.inl rfl) (vs:=[(.agg #[(vi aO),(vi aP),(vi bT),(vu bU),(vs aQ),dD.v])]) (v:=(.agg #[(vi aO),(vi aP),(vi bT),(vu bU),(vs aQ),dD.v])) results12 ⟨(rva (isAgg39 _) (sizeOf39 _) hv5),trivial⟩ (by kernel_rfl) ?_
 exact ⟨aO,aP,bT,bU,aQ,dD,rfl,h⟩
 have h:=h.2 hc2
 refine eg (q0 (vb (v3 == 3)) (q0 (vb (v3 == 3)) (ln ?_)))
 refine wpE_cond (t:=(v3 == 3)) (by kernel_rfl) (fun hc3=>?_) (fun hc3=>?_)
 have h:=h.1 hc3
 refine wpE_seq ?_
 obtain ⟨C1,hC,h⟩:=h
 refine wpE_drawnC C1 [0,3,4,5,6] [3,4,5,6] (by kernel_rfl) (by kernel_rfl) (by kernel_rfl) (by kernel_rfl) hC ?_
 intro w10 hw10
 have h:=h w10 hw10
 refine qx 1 (vp (some (p1.add 2))) Kp1 (qg 2 ?_)
 obtain ⟨v7,hv9,h⟩:=h
 refine sy (v:=(vu v7)) Kp2 (fun w' hw'=>(xl (isAgg22 _) (hv9 w' hw'))) (lg 0 ?_)
 refine slc Kp0 call24 (h.mono ?_)
 rintro e w11 ⟨bH,bI,fU,fV,bJ,fW,rfl,hC,h⟩
 refine ⟨_,rfl,.inr hC,?_⟩
 refine lg 3 ?_
 refine slc Kp3 call25 (h.mono ?_)
 rintro e w12 ⟨cT,cU,eZ,fA,cV,fB,rfl,h⟩
 refine ⟨_,rfl,.inl (by kernel_rfl),?_⟩
 refine lg 4 ?_
 refine slc Kp4 call23 (h.mono ?_)
 rintro e w13 ⟨dU,dV,gG,gH,dW,gI,rfl,h⟩
 refine ⟨_,rfl,.inl (by kernel_rfl),?_⟩
 refine lg 5 ?_
 refine slc Kp5 call22 (h.mono ?_)
 rintro e w14 ⟨eI,eJ,jF,jG,eK,jH,rfl,h⟩
 refine ⟨_,rfl,.inl (by kernel_rfl),?_⟩
 refine lg 6 ?_
 obtain ⟨hp4,h⟩:=h
 refine sl_set Kp6 (want0 rfl) (by kernel_rfl) (xo p2 [(vi eI),(vi eJ),(vi jF),(vu jG),(vs eK),jH.v] (sizeOf39 _) hp4) ?_
 intro w15 hn4
 have h:=h w15 hn4
 refine ⟨.inl (by kernel_rfl),?_⟩
 refine wn (th_n (er (bl_r (th_r ?_))))
 obtain ⟨aU,aV,dE,dF,aW,gJ,hv8,h⟩:=h
 refine resG (.inl rfl) (vs:=[(.agg #[(vi aU),(vi aV),(vi dE),(vu dF),(vs aW),gJ.v])]) (v:=(.agg #[(vi aU),(vi aV),(vi dE),(vu dF),(vs aW),gJ.v])) results12 ⟨(rva (isAgg39 _) (sizeOf39 _) hv8),trivial⟩ (by kernel_rfl) ?_
 exact ⟨aU,aV,dE,dF,aW,gJ,rfl,h⟩
 have h:=h.2 hc3
 refine eg (q0 (vb (v3 == 4)) (q0 (vb (v3 == 4)) (ln ?_)))
 refine wpE_cond (t:=(v3 == 4)) (by kernel_rfl) (fun hc4=>?_) (fun hc4=>?_)
 have h:=h.1 hc4
 refine wpE_seq ?_
 obtain ⟨C2,hC,h⟩:=h
 refine wpE_drawnC C2 [2,9,16,17,18,19,20] [19,20] (by kernel_rfl) (by kernel_rfl) (by kernel_rfl) (by kernel_rfl) hC ?_
 intro w16 hw16
 have h:=h w16 hw16
 refine qx 0 (vp (some (p1.add 1))) Kp0 (qg 1 ?_)
 obtain ⟨v8,hv18,h⟩:=h
 refine sy (v:=(vi v8)) Kp1 (fun w' hw'=>(xl (isAgg3 _) (hv18 w' hw'))) (qg 3 ?_)
 obtain ⟨dG,dH,gK,gL,dI,gM,hv17,h⟩:=h
 refine sy (v:=(.agg #[(vi dG),(vi dH),(vi gK),(vu gL),(vs dI),gM.v])) Kp3 (fun w' hw'=>(xa p3 [(vi dG),(vi dH),(vi gK),(vu gL),(vs dI),gM.v] (isAgg39 _) (sizeOf39 _) (hv17 w' hw'))) (qx 4 (vp (some (p1.add 4))) Kp4 (qg 5 ?_))
 obtain ⟨v9,hv16,h⟩:=h
 refine sy (v:=(vb v9)) Kp5 (fun w' hw'=>(xl (isAgg4 _) (hv16 w' hw'))) (qg 10 ?_)
 obtain ⟨cY,cZ,fC,fD,dA,fE,hv15,h⟩:=h
 refine sy (v:=(.agg #[(vi cY),(vi cZ),(vi fC),(vu fD),(vs dA),fE.v])) (pickA (S8 (pickS (pickS pickZ)))) (fun w' hw'=>(xa p3 [(vi cY),(vi cZ),(vi fC),(vu fD),(vs dA),fE.v] (isAgg39 _) (sizeOf39 _) (hv15 w' hw'))) (qx 11 (vp (some (p1.add 4))) (pickA (S8 (pickS (pickS (pickS pickZ))))) (qg 12 ?_))
 obtain ⟨v10,hv14,h⟩:=h
 refine sy (v:=(vb v10)) (pickA (S8 (S4 pickZ))) (fun w' hw'=>(xl (isAgg4 _) (hv14 w' hw'))) (lg 2 ?_)
 refine slc Kp2 call24 (h.mono ?_)
 rintro e w17 ⟨dX,dY,gN,gO,dZ,gP,rfl,hC,h⟩
 refine ⟨_,rfl,.inr hC,?_⟩
 refine qx 6 (vb v9) Kp6 (qg 7 ?_)
 rcases bte v9 with hg1 | hg1
 have h:=h.1 hg1
 refine sz (v:=(vb first1)) Kp7 (wy 45 hg1) (fun _ _=>(by kernel_rfl)) (qz 8 (vb first1) Kp8 (fun _ _=>(xT hg1)) (lg 9 ?_))
 refine slc Kp9 call21 (h.mono ?_)
 rintro e w18 ⟨eL,eM,jI,jJ,eN,jK,rfl,hC,h⟩
 refine ⟨_,rfl,.inr hC,?_⟩
 refine qx 13 (vb v10) (pickA (S8 (S4 (pickS pickZ)))) (qg 14 ?_)
 rcases bte v10 with hg2 | hg2
 have h:=h.1 hg2
 refine sz (v:=(vb second1)) (pickA (S8 (S4 (pickS (pickS pickZ))))) (wy 52 hg2) (fun _ _=>(by kernel_rfl)) (qz 15 (vb second1) (pickA (S8 (S4 (pickS (pickS (pickS pickZ)))))) (fun _ _=>(xT hg2)) (lg 16 ?_))
 refine slc (pickA (S8 (S8 pickZ))) call21 (h.mono ?_)
 rintro e w19 ⟨eC,eD,lU,lV,eE,lW,rfl,hC,h⟩
 refine ⟨_,rfl,.inr hC,?_⟩
 refine lg 17 ?_
 refine slc (pickA (S8 (S8 (pickS pickZ)))) call23 (h.mono ?_)
 rintro e w20 ⟨fF,fG,lX,lY,fH,lZ,rfl,hC,h⟩
 refine ⟨_,rfl,.inr hC,?_⟩
 refine lg 18 ?_
 refine slc (pickA (S8 (S8 (pickS (pickS pickZ))))) call23 (h.mono ?_)
 rintro e w21 ⟨fI,fJ,mA,mB,fK,mC,rfl,hC,h⟩
 refine ⟨_,rfl,.inr hC,?_⟩
 refine lg 19 ?_
 refine slc (pickA (S8 (S8 (pickS (pickS (pickS pickZ)))))) call22 (h.mono ?_)
 rintro e w22 ⟨eO,eP,jL,jM,eQ,jN,rfl,h⟩
 refine ⟨_,rfl,.inl (by kernel_rfl),?_⟩
 refine lg 20 ?_
 obtain ⟨hp5,h⟩:=h
 refine sl_set (pickA (S8 (S8 (S4 pickZ)))) (want0 rfl) (by kernel_rfl) (xo p2 [(vi eO),(vi eP),(vi jL),(vu jM),(vs eQ),jN.v] (sizeOf39 _) hp5) ?_
 intro w23 hn5
 have h:=h w23 hn5
 refine ⟨.inl (by kernel_rfl),?_⟩
 refine wn (th_n (er (bl_r (th_r ?_))))
 obtain ⟨bV,bW,gQ,gR,bX,gS,hv10,h⟩:=h
 refine resG (.inl rfl) (vs:=[(.agg #[(vi bV),(vi bW),(vi gQ),(vu gR),(vs bX),gS.v])]) (v:=(.agg #[(vi bV),(vi bW),(vi gQ),(vu gR),(vs bX),gS.v])) results12 ⟨(rva (isAgg39 _) (sizeOf39 _) hv10),trivial⟩ (by kernel_rfl) ?_
 exact ⟨bV,bW,gQ,gR,bX,gS,rfl,h⟩
 have h:=h.2 hg2
 refine sx_not (pickA (S8 (S4 (pickS (pickS pickZ))))) (unwant rfl (yD 52 hg2) rfl) (qz 15 (vb false) (pickA (S8 (S4 (pickS (pickS (pickS pickZ)))))) (fun _ _=>(xF hg2)) (lg 16 ?_))
 refine slc (pickA (S8 (S8 pickZ))) call21 (h.mono ?_)
 rintro e w24 ⟨fL,fM,mD,mE,fN,mF,rfl,hC,h⟩
 refine ⟨_,rfl,.inr hC,?_⟩
 refine lg 17 ?_
 refine slc (pickA (S8 (S8 (pickS pickZ)))) call23 (h.mono ?_)
 rintro e w25 ⟨eF,eG,mG,mH,eH,mI,rfl,hC,h⟩
 refine ⟨_,rfl,.inr hC,?_⟩
 refine lg 18 ?_
 refine slc (pickA (S8 (S8 (pickS (pickS pickZ))))) call23 (h.mono ?_)
 rintro e w26 ⟨fO,fP,mJ,mK,fQ,mL,rfl,hC,h⟩
 refine ⟨_,rfl,.inr hC,?_⟩
 refine lg 19 ?_
 refine slc (pickA (S8 (S8 (pickS (pickS (pickS pickZ)))))) call22 (h.mono ?_)
 rintro e w27 ⟨eR,eS,jO,jP,eT,jQ,rfl,h⟩
 refine ⟨_,rfl,.inl (by kernel_rfl),?_⟩
 refine lg 20 ?_
 obtain ⟨hp6,h⟩:=h
 refine sl_set (pickA (S8 (S8 (S4 pickZ)))) (want0 rfl) (by kernel_rfl) (xo p2 [(vi eR),(vi eS),(vi jO),(vu jP),(vs eT),jQ.v] (sizeOf39 _) hp6) ?_
 intro w28 hn6
 have h:=h w28 hn6
 refine ⟨.inl (by kernel_rfl),?_⟩
 refine wn (th_n (er (bl_r (th_r ?_))))
 obtain ⟨bY,bZ,gT,gU,cA,gV,hv11,h⟩:=h
 refine resG (.inl rfl) (vs:=[(.agg #[(vi bY),(vi bZ),(vi gT),(vu gU),(vs cA),gV.v])]) (v:=(.agg #[(vi bY),(vi bZ),(vi gT),(vu gU),(vs cA),gV.v])) results12 ⟨(rva (isAgg39 _) (sizeOf39 _) hv11),trivial⟩ (by kernel_rfl) ?_
 exact ⟨bY,bZ,gT,gU,cA,gV,rfl,h⟩
 have h:=h.2 hg1
 refine sx_not Kp7 (unwant rfl (yD 45 hg1) rfl) (qz 8 (vb false) Kp8 (fun _ _=>(xF hg1)) (lg 9 ?_))
 refine slc Kp9 call21 (h.mono ?_)
 rintro e w29 ⟨eU,eV,jR,jS,eW,jT,rfl,hC,h⟩
 refine ⟨_,rfl,.inr hC,?_⟩
 refine qx 13 (vb v10) (pickA (S8 (S4 (pickS pickZ)))) (qg 14 ?_)
 rcases bte v10 with hg3 | hg3
 have h:=h.1 hg3
 refine sz (v:=(vb second1)) (pickA (S8 (S4 (pickS (pickS pickZ))))) (wy 52 hg3) (fun _ _=>(by kernel_rfl)) (qz 15 (vb second1) (pickA (S8 (S4 (pickS (pickS (pickS pickZ)))))) (fun _ _=>(xT hg3)) (lg 16 ?_))
 refine slc (pickA (S8 (S8 pickZ))) call21 (h.mono ?_)
 rintro e w30 ⟨fR,fS,mM,mN,fT,mO,rfl,hC,h⟩
 refine ⟨_,rfl,.inr hC,?_⟩
 refine lg 17 ?_
 refine slc (pickA (S8 (S8 (pickS pickZ)))) call23 (h.mono ?_)
 rintro e w31 ⟨gW,gX,mP,mQ,gY,mR,rfl,hC,h⟩
 refine ⟨_,rfl,.inr hC,?_⟩
 refine lg 18 ?_
 refine slc (pickA (S8 (S8 (pickS (pickS pickZ))))) call23 (h.mono ?_)
 rintro e w32 ⟨mS,mT,mU,mV,mW,mX,rfl,hC,h⟩
 refine ⟨_,rfl,.inr hC,?_⟩
 refine lg 19 ?_
 refine slc (pickA (S8 (S8 (pickS (pickS (pickS pickZ)))))) call22 (h.mono ?_)
 rintro e w33 ⟨jU,jV,jW,jX,jY,jZ,rfl,h⟩
 refine ⟨_,rfl,.inl (by kernel_rfl),?_⟩
 refine lg 20 ?_
 obtain ⟨hp7,h⟩:=h
 refine sl_set (pickA (S8 (S8 (S4 pickZ)))) (want0 rfl) (by kernel_rfl) (xo p2 [(vi jU),(vi jV),(vi jW),(vu jX),(vs jY),jZ.v] (sizeOf39 _) hp7) ?_
 intro w34 hn7
 have h:=h w34 hn7
 refine ⟨.inl (by kernel_rfl),?_⟩
 refine wn (th_n (er (bl_r (th_r ?_))))
 obtain ⟨cB,cC,gZ,hA,cD,hB,hv12,h⟩:=h
 refine resG (.inl rfl) (vs:=[(.agg #[(vi cB),(vi cC),(vi gZ),(vu hA),(vs cD),hB.v])]) (v:=(.agg #[(vi cB),(vi cC),(vi gZ),(vu hA),(vs cD),hB.v])) results12 ⟨(rva (isAgg39 _) (sizeOf39 _) hv12),trivial⟩ (by kernel_rfl) ?_
 exact ⟨cB,cC,gZ,hA,cD,hB,rfl,h⟩
 have h:=h.2 hg3
 refine sx_not (pickA (S8 (S4 (pickS (pickS pickZ))))) (unwant rfl (yD 52 hg3) rfl) (qz 15 (vb false) (pickA (S8 (S4 (pickS (pickS (pickS pickZ)))))) (fun _ _=>(xF hg3)) (lg 16 ?_))
 refine slc (pickA (S8 (S8 pickZ))) call21 (h.mono ?_)
 rintro e w35 ⟨mY,mZ,nA,nB,nC,nD,rfl,hC,h⟩
 refine ⟨_,rfl,.inr hC,?_⟩
 refine lg 17 ?_
 refine slc (pickA (S8 (S8 (pickS pickZ)))) call23 (h.mono ?_)
 rintro e w36 ⟨nE,nF,nG,nH,nI,nJ,rfl,hC,h⟩
 refine ⟨_,rfl,.inr hC,?_⟩
 refine lg 18 ?_
 refine slc (pickA (S8 (S8 (pickS (pickS pickZ))))) call23 (h.mono ?_)
 rintro e w37 ⟨nK,nL,nM,nN,nO,nP,rfl,hC,h⟩
 refine ⟨_,rfl,.inr hC,?_⟩
 refine lg 19 ?_
 refine slc (pickA (S8 (S8 (pickS (pickS (pickS pickZ)))))) call22 (h.mono ?_)
 rintro e w38 ⟨kA,kB,kC,kD,kE,kF,rfl,h⟩
 refine ⟨_,rfl,.inl (by kernel_rfl),?_⟩
 refine lg 20 ?_
 obtain ⟨hp8,h⟩:=h
 refine sl_set (pickA (S8 (S8 (S4 pickZ)))) (want0 rfl) (by kernel_rfl) (xo p2 [(vi kA),(vi kB),(vi kC),(vu kD),(vs kE),kF.v] (sizeOf39 _) hp8) ?_
 intro w39 hn8
 have h:=h w39 hn8
 refine ⟨.inl (by kernel_rfl),?_⟩
 refine wn (th_n (er (bl_r (th_r ?_))))
 obtain ⟨cE,cF,hD,hE,cG,hF,hv13,h⟩:=h
 refine resG (.inl rfl) (vs:=[(.agg #[(vi cE),(vi cF),(vi hD),(vu hE),(vs cG),hF.v])]) (v:=(.agg #[(vi cE),(vi cF),(vi hD),(vu hE),(vs cG),hF.v])) results12 ⟨(rva (isAgg39 _) (sizeOf39 _) hv13),trivial⟩ (by kernel_rfl) ?_
 exact ⟨cE,cF,hD,hE,cG,hF,rfl,h⟩
 have h:=h.2 hc4
 refine eg (q0 (vb (v3 == 5)) (q0 (vb (v3 == 5)) (ln ?_)))
 refine wpE_cond (t:=(v3 == 5)) (by kernel_rfl) (fun hc5=>?_) (fun hc5=>?_)
 have h:=h.1 hc5
 refine wpE_seq ?_
 obtain ⟨C3,hC,h⟩:=h
 refine wpE_drawnC C3 [0,3,4,5,6] [3,4,5,6] (by kernel_rfl) (by kernel_rfl) (by kernel_rfl) (by kernel_rfl) hC ?_
 intro w40 hw40
 have h:=h w40 hw40
 refine qx 1 (vp (some (p1.add 2))) Kp1 (qg 2 ?_)
 obtain ⟨v11,hv20,h⟩:=h
 refine sy (v:=(vu v11)) Kp2 (fun w' hw'=>(xl (isAgg22 _) (hv20 w' hw'))) (lg 0 ?_)
 refine slc Kp0 call24 (h.mono ?_)
 rintro e w41 ⟨nQ,nR,nS,nT,nU,nV,rfl,hC,h⟩
 refine ⟨_,rfl,.inr hC,?_⟩
 refine lg 3 ?_
 refine slc Kp3 call25 (h.mono ?_)
 rintro e w42 ⟨nW,nX,nY,nZ,oA,oB,rfl,h⟩
 refine ⟨_,rfl,.inl (by kernel_rfl),?_⟩
 refine lg 4 ?_
 refine slc Kp4 call23 (h.mono ?_)
 rintro e w43 ⟨oC,oD,oE,oF,oG,oH,rfl,h⟩
 refine ⟨_,rfl,.inl (by kernel_rfl),?_⟩
 refine lg 5 ?_
 refine slc Kp5 call22 (h.mono ?_)
 rintro e w44 ⟨kG,kH,kI,kJ,kK,kL,rfl,h⟩
 refine ⟨_,rfl,.inl (by kernel_rfl),?_⟩
 refine lg 6 ?_
 obtain ⟨hp9,h⟩:=h
 refine sl_set Kp6 (want0 rfl) (by kernel_rfl) (xo p2 [(vi kG),(vi kH),(vi kI),(vu kJ),(vs kK),kL.v] (sizeOf39 _) hp9) ?_
 intro w45 hn9
 have h:=h w45 hn9
 refine ⟨.inl (by kernel_rfl),?_⟩
 refine wn (th_n (er (bl_r (th_r ?_))))
 obtain ⟨dJ,dK,hG,hI,dL,hJ,hv19,h⟩:=h
 refine resG (.inl rfl) (vs:=[(.agg #[(vi dJ),(vi dK),(vi hG),(vu hI),(vs dL),hJ.v])]) (v:=(.agg #[(vi dJ),(vi dK),(vi hG),(vu hI),(vs dL),hJ.v])) results12 ⟨(rva (isAgg39 _) (sizeOf39 _) hv19),trivial⟩ (by kernel_rfl) ?_
 exact ⟨dJ,dK,hG,hI,dL,hJ,rfl,h⟩
 have h:=h.2 hc5
 refine eg (q0 (vb (v3 == 6)) (q0 (vb (v3 == 6)) (ln ?_)))
 refine wpE_cond (t:=(v3 == 6)) (by kernel_rfl) (fun hc6=>?_) (fun hc6=>?_)
 have h:=h.1 hc6
 refine wpE_seq ?_
 obtain ⟨C4,hC,h⟩:=h
 refine wpE_drawnC C4 [0,2,3,4] [2,3,4] (by kernel_rfl) (by kernel_rfl) (by kernel_rfl) (by kernel_rfl) hC ?_
 intro w46 hw46
 have h:=h w46 hw46
 refine qg 1 ?_
 obtain ⟨iZ,jA,jB,jC,jD,jE,hv22,h⟩:=h
 refine sy (v:=(.agg #[(vi iZ),(vi jA),(vi jB),(vu jC),(vs jD),jE.v])) Kp1 (fun w' hw'=>(xa p3 [(vi iZ),(vi jA),(vi jB),(vu jC),(vs jD),jE.v] (isAgg39 _) (sizeOf39 _) (hv22 w' hw'))) (lg 0 ?_)
 refine slc Kp0 call24 (h.mono ?_)
 rintro e w47 ⟨oI,oJ,oK,oL,oM,oN,rfl,hC,h⟩
 refine ⟨_,rfl,.inr hC,?_⟩
 refine lg 2 ?_
 refine slc Kp2 call23 (h.mono ?_)
 rintro e w48 ⟨oO,oP,oQ,oR,oS,oT,rfl,h⟩
 refine ⟨_,rfl,.inl (by kernel_rfl),?_⟩
 refine lg 3 ?_
 refine slc Kp3 call22 (h.mono ?_)
 rintro e w49 ⟨kM,kN,kO,kP,kQ,kR,rfl,h⟩
 refine ⟨_,rfl,.inl (by kernel_rfl),?_⟩
 refine lg 4 ?_
 obtain ⟨hp10,h⟩:=h
 refine sl_set Kp4 (want0 rfl) (by kernel_rfl) (xo p2 [(vi kM),(vi kN),(vi kO),(vu kP),(vs kQ),kR.v] (sizeOf39 _) hp10) ?_
 intro w50 hn10
 have h:=h w50 hn10
 refine ⟨.inl (by kernel_rfl),?_⟩
 refine wn (th_n (er (bl_r (th_r ?_))))
 obtain ⟨hK,hL,hM,hN,hO,hQ,hv21,h⟩:=h
 refine resG (.inl rfl) (vs:=[(.agg #[(vi hK),(vi hL),(vi hM),(vu hN),(vs hO),hQ.v])]) (v:=(.agg #[(vi hK),(vi hL),(vi hM),(vu hN),(vs hO),hQ.v])) results12 ⟨(rva (isAgg39 _) (sizeOf39 _) hv21),trivial⟩ (by kernel_rfl) ?_
 exact ⟨hK,hL,hM,hN,hO,hQ,rfl,h⟩
 have h:=h.2 hc6
 refine wpE_skip (bl_n (th_n (wpE_seq ?_)))
 obtain ⟨C5,hC,h⟩:=h
 refine wpE_drawnC C5 [0,3,4,5] [3,4,5] (by kernel_rfl) (by kernel_rfl) (by kernel_rfl) (by kernel_rfl) hC ?_
 intro w51 hw51
 have h:=h w51 hw51
 refine qx 1 (vp (some (p1.add 2))) Kp1 (qg 2 ?_)
 obtain ⟨v12,hv24,h⟩:=h
 refine sy (v:=(vu v12)) Kp2 (fun w' hw'=>(xl (isAgg22 _) (hv24 w' hw'))) (lg 0 ?_)
 refine slc Kp0 call24 (h.mono ?_)
 rintro e w52 ⟨oU,oV,oW,oX,oY,oZ,rfl,hC,h⟩
 refine ⟨_,rfl,.inr hC,?_⟩
 refine lg 3 ?_
 refine slc Kp3 call25 (h.mono ?_)
 rintro e w53 ⟨pA,pB,pC,pD,pE,pF,rfl,h⟩
 refine ⟨_,rfl,.inl (by kernel_rfl),?_⟩
 refine lg 4 ?_
 refine slc Kp4 call23 (h.mono ?_)
 rintro e w54 ⟨kS,kT,kU,kV,kW,kX,rfl,h⟩
 refine ⟨_,rfl,.inl (by kernel_rfl),?_⟩
 refine lg 5 ?_
 obtain ⟨hp11,h⟩:=h
 refine sl_set Kp5 (want0 rfl) (by kernel_rfl) (xo p2 [(vi kS),(vi kT),(vi kU),(vu kV),(vs kW),kX.v] (sizeOf39 _) hp11) ?_
 intro w55 hn11
 have h:=h w55 hn11
 refine ⟨.inl (by kernel_rfl),?_⟩
 refine wn (th_n (er ?_))
 obtain ⟨hR,hS,hT,hU,hV,hW,hv23,h⟩:=h
 refine resG (.inl rfl) (vs:=[(.agg #[(vi hR),(vi hS),(vi hT),(vu hU),(vs hV),hW.v])]) (v:=(.agg #[(vi hR),(vi hS),(vi hT),(vu hU),(vs hV),hW.v])) results12 ⟨(rva (isAgg39 _) (sizeOf39 _) hv23),trivial⟩ (by kernel_rfl) ?_
 exact ⟨hR,hS,hT,hU,hV,hW,rfl,h⟩
def m_F1 (c1:Int) (text1:ByteArray) (w:World) (K:Int→Int→Int→Int→ByteArray→Sl→WP):Prop :=
 ∀(p1:Addr) (w1:World),New w (.cells #[(vi 0),(vi 0),(vi 0),(vu 0),ve,Sl.nil.v] 39) p1 w1 →
 Calls prog 24 #[(vs (⟨#[100,101,97,108]⟩:ByteArray))] w1 (fun e w2=>∃aE aF:Int,∃aG aD:Int,∃aH:ByteArray,∃bK:Sl,e=.returned (.agg #[(vi aE),(vi aF),(vi aG),(vu aD),(vs aH),bK.v])∧
  Calls prog 25 #[(vu c1)] w2 (fun e w3=>∃bB bC:Int,∃bL aT:Int,∃aX:ByteArray,∃eX:Sl,e=.returned (.agg #[(vi bB),(vi bC),(vi bL),(vu aT),(vs aX),eX.v])∧
   Calls prog 24 #[(vs text1)] w3 (fun e w4=>∃bR bS:Int,∃cW cX:Int,∃bG:ByteArray,∃eY:Sl,e=.returned (.agg #[(vi bR),(vi bS),(vi cW),(vu cX),(vs bG),eY.v])∧
    Calls prog 23 #[(.agg #[(vi bB),(vi bC),(vi bL),(vu aT),(vs aX),eX.v]),(.agg #[(vi bR),(vi bS),(vi cW),(vu cX),(vs bG),eY.v])] w4 (fun e w5=>∃bH bI:Int,∃fU fV:Int,∃bJ:ByteArray,∃fW:Sl,e=.returned (.agg #[(vi bH),(vi bI),(vi fU),(vu fV),(vs bJ),fW.v])∧
     Calls prog 23 #[(.agg #[(vi aE),(vi aF),(vi aG),(vu aD),(vs aH),bK.v]),(.agg #[(vi bH),(vi bI),(vi fU),(vu fV),(vs bJ),fW.v])] w5 (fun e w6=>∃cT cU:Int,∃eZ fA:Int,∃cV:ByteArray,∃fB:Sl,e=.returned (.agg #[(vi cT),(vi cU),(vi eZ),(vu fA),(vs cV),fB.v])∧
      (∀j,j<6→CanW w6 (p1.add j))∧∀w7:World,w7=storeRow w6 p1 [(vi cT),(vi cU),(vi eZ),(vu fA),(vs cV),fB.v] →
      ∃aA aB:Int,∃aI aJ:Int,∃aC:ByteArray,∃aK:Sl,Row w7 p1 [(vi aA),(vi aB),(vi aI),(vu aJ),(vs aC),aK.v] ∧
      K aA aB aI aJ aC aK w7)))))
theorem w_F1 (c1 : Int) (text1 : ByteArray) (w : World) (K : Int → Int → Int → Int → ByteArray → Sl → WP) (h : m_F1 c1 text1 w K) :
  Calls prog 20 #[(vu c1),(vs text1)] w (fun e w'=>∃dU dV:Int,∃gG gH:Int,∃dW:ByteArray,∃gI:Sl,e=.returned (.agg #[(vi dU),(vi dV),(vi gG),(vu gH),(vs dW),gI.v])∧K dU dV gG gH dW gI w'):=by
 unfold m_F1 at h
 refine cw (args:=[(vu c1),(vs text1)]) func20 ntmps20 (eg (sn (O:=(.cells #[(vi 0),(vi 0),(vi 0),(vu 0),ve,Sl.nil.v] 39)) (x_alloc (zeroValue39 _) rfl) ?_))
 intro p1 w1 hn2
 have h:=h p1 w1 hn2
 refine ln (eg ?_)
 refine sc call24 (h.mono ?_)
 rintro e w2 ⟨aE,aF,aG,aD,aH,bK,rfl,h⟩
 refine ⟨_,rfl,?_⟩
 refine q0 (vu c1) ?_
 refine sc call25 (h.mono ?_)
 rintro e w3 ⟨bB,bC,bL,aT,aX,eX,rfl,h⟩
 refine ⟨_,rfl,?_⟩
 refine q0 (vs text1) ?_
 refine sc call24 (h.mono ?_)
 rintro e w4 ⟨bR,bS,cW,cX,bG,eY,rfl,h⟩
 refine ⟨_,rfl,?_⟩
 refine sc call23 (h.mono ?_)
 rintro e w5 ⟨bH,bI,fU,fV,bJ,fW,rfl,h⟩
 refine ⟨_,rfl,?_⟩
 refine sc call23 (h.mono ?_)
 rintro e w6 ⟨cT,cU,eZ,fA,cV,fB,rfl,h⟩
 refine ⟨_,rfl,?_⟩
 obtain ⟨hp1,h⟩:=h
 refine ss (xo p1 [(vi cT),(vi cU),(vi eZ),(vu fA),(vs cV),fB.v] (sizeOf39 _) hp1) ?_
 intro w7 hn1
 have h:=h w7 hn1
 refine ln (er ?_)
 obtain ⟨aA,aB,aI,aJ,aC,aK,hv1,h⟩:=h
 refine resG (.inl rfl) (vs:=[(.agg #[(vi aA),(vi aB),(vi aI),(vu aJ),(vs aC),aK.v])]) (v:=(.agg #[(vi aA),(vi aB),(vi aI),(vu aJ),(vs aC),aK.v])) results20 ⟨(rva (isAgg39 _) (sizeOf39 _) hv1),trivial⟩ (by kernel_rfl) ?_
 exact ⟨aA,aB,aI,aJ,aC,aK,rfl,h⟩
def m_G1 (who1 cH:Int) (cI cJ cK:Int) (cL:ByteArray) (cM:Sl) (fake1:Bool) (w:World) (K:Int→Int→Int→Int→ByteArray→Sl→WP):Prop :=
 ∀(p1:Addr) (w1:World),New w (.cells #[(vi cH),(vi cI),(vi cJ),(vu cK),(vs cL),cM.v] 39) p1 w1 →
 ∀(p2:Addr) (w2:World),New w1 (.cells #[(vi 0),(vi 0),(vi 0),(vu 0),ve,Sl.nil.v] 39) p2 w2 →
 Br fake1
  (∃aL aM:Int,∃aR aS:Int,∃aN:ByteArray,∃bA:Sl,Row w2 p1 [(vi aL),(vi aM),(vi aR),(vu aS),(vs aN),bA.v] ∧
  ∀(p3:Addr) (w3:World),New w2 (.cells #[(vi aL),(vi aM),(vi aR),(vu aS),(vs aN),bA.v] 39) p3 w3 →
  (∀j,j<6→CanW w3 (p2.add j))∧∀w4:World,w4=storeRow w3 p2 [(vi 9),(vi who1),(vi (q6.wrap (1 - who1))),(vu 0),ve,(Sl.mk (some p3) 1 1).v] →
  ∃aA aB:Int,∃aI aJ:Int,∃aC:ByteArray,∃aK:Sl,Row w4 p2 [(vi aA),(vi aB),(vi aI),(vu aJ),(vs aC),aK.v] ∧
  K aA aB aI aJ aC aK w4)
  (∃bD bE:Int,∃bO bP:Int,∃bF:ByteArray,∃bQ:Sl,Row w2 p1 [(vi bD),(vi bE),(vi bO),(vu bP),(vs bF),bQ.v] ∧
  ∀(p4:Addr) (w5:World),New w2 (.cells #[(vi bD),(vi bE),(vi bO),(vu bP),(vs bF),bQ.v] 39) p4 w5 →
  (∀j,j<6→CanW w5 (p2.add j))∧∀w6:World,w6=storeRow w5 p2 [(vi 8),(vi who1),(vi (q6.wrap (1 - who1))),(vu 0),ve,(Sl.mk (some p4) 1 1).v] →
  ∃aO aP:Int,∃bT bU:Int,∃aQ:ByteArray,∃dD:Sl,Row w6 p2 [(vi aO),(vi aP),(vi bT),(vu bU),(vs aQ),dD.v] ∧
  K aO aP bT bU aQ dD w6)
theorem w_G1 (who1 cH : Int) (cI cJ cK : Int) (cL : ByteArray) (cM : Sl) (fake1 : Bool) (w : World) (K : Int → Int → Int → Int → ByteArray → Sl → WP) (h : m_G1 who1 cH cI cJ cK cL cM fake1 w K) :
  Calls prog 21 #[(vi who1),(.agg #[(vi cH),(vi cI),(vi cJ),(vu cK),(vs cL),cM.v]),(vb fake1)] w (fun e w'=>∃aE aF:Int,∃aG aD:Int,∃aH:ByteArray,∃bK:Sl,e=.returned (.agg #[(vi aE),(vi aF),(vi aG),(vu aD),(vs aH),bK.v])∧K aE aF aG aD aH bK w'):=by
 unfold m_G1 at h
 refine cw (args:=[(vi who1),(.agg #[(vi cH),(vi cI),(vi cJ),(vu cK),(vs cL),cM.v]),(vb fake1)]) func21 ntmps21 (eg (sn (O:=(.cells #[(vi cH),(vi cI),(vi cJ),(vu cK),(vs cL),cM.v] 39)) xb ?_))
 intro p1 w1 hn6
 have h:=h p1 w1 hn6
 refine sn (O:=(.cells #[(vi 0),(vi 0),(vi 0),(vu 0),ve,Sl.nil.v] 39)) (x_alloc (zeroValue39 _) rfl) ?_
 intro p2 w2 hn5
 have h:=h p2 w2 hn5
 refine ln (eg (q0 (vi 8) (ln (wpE_seq (eg (q0 (vb fake1) (wpL_nil ?_)))))))
 refine th_n ?_
 refine wpE_cond (t:=fake1) (by kernel_rfl) (fun hc1=>?_) (fun hc1=>?_)
 have h:=h.1 hc1
 refine rg (q0 (vi 9) (ln (eg (q0 (vi 9) (q0 (vi who1) (q0 (vi who1) (q0 (vi (q6.wrap (1 - who1))) ?_)))))))
 obtain ⟨aL,aM,aR,aS,aN,bA,hv2,h⟩:=h
 refine q2 (.agg #[(vi aL),(vi aM),(vi aR),(vu aS),(vs aN),bA.v]) (xa p1 [(vi aL),(vi aM),(vi aR),(vu aS),(vs aN),bA.v] (isAgg39 _) (sizeOf39 _) hv2) (st_new (O:=(.cells #[(vi aL),(vi aM),(vi aR),(vu aS),(vs aN),bA.v] 39)) (fun p=>(Sl.mk (some p) 1 1).v) (want0 rfl) (x_buildSlice (vs:=#[(0,(.agg #[(vi aL),(vi aM),(vi aR),(vu aS),(vs aN),bA.v]))]) (by kernel_rfl) (by kernel_rfl)) ?_)
 intro p3 w3 hn2
 have h:=h p3 w3 hn2
 refine q0 (.agg #[(vi 9),(vi who1),(vi (q6.wrap (1 - who1))),(vu 0),ve,(Sl.mk (some p3) 1 1).v]) ?_
 obtain ⟨hp1,h⟩:=h
 refine ss (xo p2 [(vi 9),(vi who1),(vi (q6.wrap (1 - who1))),(vu 0),ve,(Sl.mk (some p3) 1 1).v] (sizeOf39 _) hp1) ?_
 intro w4 hn1
 have h:=h w4 hn1
 refine ln (er ?_)
 obtain ⟨aA,aB,aI,aJ,aC,aK,hv1,h⟩:=h
 refine resG (.inl rfl) (vs:=[(.agg #[(vi aA),(vi aB),(vi aI),(vu aJ),(vs aC),aK.v])]) (v:=(.agg #[(vi aA),(vi aB),(vi aI),(vu aJ),(vs aC),aK.v])) results21 ⟨(rva (isAgg39 _) (sizeOf39 _) hv1),trivial⟩ (by kernel_rfl) ?_
 exact ⟨aA,aB,aI,aJ,aC,aK,rfl,h⟩
 have h:=h.2 hc1
 refine wpE_skip (th_n (eg (q0 (vi 8) (q0 (vi who1) (q0 (vi who1) (q0 (vi (q6.wrap (1 - who1))) ?_))))))
 obtain ⟨bD,bE,bO,bP,bF,bQ,hv4,h⟩:=h
 refine q2 (.agg #[(vi bD),(vi bE),(vi bO),(vu bP),(vs bF),bQ.v]) (xa p1 [(vi bD),(vi bE),(vi bO),(vu bP),(vs bF),bQ.v] (isAgg39 _) (sizeOf39 _) hv4) (st_new (O:=(.cells #[(vi bD),(vi bE),(vi bO),(vu bP),(vs bF),bQ.v] 39)) (fun p=>(Sl.mk (some p) 1 1).v) (want0 rfl) (x_buildSlice (vs:=#[(0,(.agg #[(vi bD),(vi bE),(vi bO),(vu bP),(vs bF),bQ.v]))]) (by kernel_rfl) (by kernel_rfl)) ?_)
 intro p4 w5 hn4
 have h:=h p4 w5 hn4
 refine q0 (.agg #[(vi 8),(vi who1),(vi (q6.wrap (1 - who1))),(vu 0),ve,(Sl.mk (some p4) 1 1).v]) ?_
 obtain ⟨hp2,h⟩:=h
 refine ss (xo p2 [(vi 8),(vi who1),(vi (q6.wrap (1 - who1))),(vu 0),ve,(Sl.mk (some p4) 1 1).v] (sizeOf39 _) hp2) ?_
 intro w6 hn3
 have h:=h w6 hn3
 refine ln (er ?_)
 obtain ⟨aO,aP,bT,bU,aQ,dD,hv3,h⟩:=h
 refine resG (.inl rfl) (vs:=[(.agg #[(vi aO),(vi aP),(vi bT),(vu bU),(vs aQ),dD.v])]) (v:=(.agg #[(vi aO),(vi aP),(vi bT),(vu bU),(vs aQ),dD.v])) results21 ⟨(rva (isAgg39 _) (sizeOf39 _) hv3),trivial⟩ (by kernel_rfl) ?_
 exact ⟨aO,aP,bT,bU,aQ,dD,rfl,h⟩
def m_H1 (who1 cH:Int) (cI cJ cK:Int) (cL:ByteArray) (cM:Sl) (w:World) (K:Int→Int→Int→Int→ByteArray→Sl→WP):Prop :=
 ∀(p1:Addr) (w1:World),New w (.cells #[(vi cH),(vi cI),(vi cJ),(vu cK),(vs cL),cM.v] 39) p1 w1 →
 ∀(p2:Addr) (w2:World),New w1 (.cells #[(vi 0),(vi 0),(vi 0),(vu 0),ve,Sl.nil.v] 39) p2 w2 →
 ∃aL aM:Int,∃aR aS:Int,∃aN:ByteArray,∃bA:Sl,Row w2 p1 [(vi aL),(vi aM),(vi aR),(vu aS),(vs aN),bA.v] ∧
 ∀(p3:Addr) (w3:World),New w2 (.cells #[(vi aL),(vi aM),(vi aR),(vu aS),(vs aN),bA.v] 39) p3 w3 →
 (∀j,j<6→CanW w3 (p2.add j))∧∀w4:World,w4=storeRow w3 p2 [(vi 7),(vi who1),(vi 0),(vu 0),ve,(Sl.mk (some p3) 1 1).v] →
 ∃aA aB:Int,∃aI aJ:Int,∃aC:ByteArray,∃aK:Sl,Row w4 p2 [(vi aA),(vi aB),(vi aI),(vu aJ),(vs aC),aK.v] ∧
 K aA aB aI aJ aC aK w4
theorem w_H1 (who1 cH : Int) (cI cJ cK : Int) (cL : ByteArray) (cM : Sl) (w : World) (K : Int → Int → Int → Int → ByteArray → Sl → WP) (h : m_H1 who1 cH cI cJ cK cL cM w K) :
  Calls prog 22 #[(vi who1),(.agg #[(vi cH),(vi cI),(vi cJ),(vu cK),(vs cL),cM.v])] w (fun e w'=>∃aE aF:Int,∃aG aD:Int,∃aH:ByteArray,∃bK:Sl,e=.returned (.agg #[(vi aE),(vi aF),(vi aG),(vu aD),(vs aH),bK.v])∧K aE aF aG aD aH bK w'):=by
 unfold m_H1 at h
 refine cw (args:=[(vi who1),(.agg #[(vi cH),(vi cI),(vi cJ),(vu cK),(vs cL),cM.v])]) func22 ntmps22 (eg (sn (O:=(.cells #[(vi cH),(vi cI),(vi cJ),(vu cK),(vs cL),cM.v] 39)) xb ?_))
 intro p1 w1 hn4
 have h:=h p1 w1 hn4
 refine sn (O:=(.cells #[(vi 0),(vi 0),(vi 0),(vu 0),ve,Sl.nil.v] 39)) (x_alloc (zeroValue39 _) rfl) ?_
 intro p2 w2 hn3
 have h:=h p2 w2 hn3
 refine ln (eg (q0 (vi who1) ?_))
 obtain ⟨aL,aM,aR,aS,aN,bA,hv2,h⟩:=h
 refine q2 (.agg #[(vi aL),(vi aM),(vi aR),(vu aS),(vs aN),bA.v]) (xa p1 [(vi aL),(vi aM),(vi aR),(vu aS),(vs aN),bA.v] (isAgg39 _) (sizeOf39 _) hv2) (st_new (O:=(.cells #[(vi aL),(vi aM),(vi aR),(vu aS),(vs aN),bA.v] 39)) (fun p=>(Sl.mk (some p) 1 1).v) (want0 rfl) (x_buildSlice (vs:=#[(0,(.agg #[(vi aL),(vi aM),(vi aR),(vu aS),(vs aN),bA.v]))]) (by kernel_rfl) (by kernel_rfl)) ?_)
 intro p3 w3 hn2
 have h:=h p3 w3 hn2
 refine q0 (.agg #[(vi 7),(vi who1),(vi 0),(vu 0),ve,(Sl.mk (some p3) 1 1).v]) ?_
 obtain ⟨hp1,h⟩:=h
 refine ss (xo p2 [(vi 7),(vi who1),(vi 0),(vu 0),ve,(Sl.mk (some p3) 1 1).v] (sizeOf39 _) hp1) ?_
 intro w4 hn1
 have h:=h w4 hn1
 refine ln (er ?_)
 obtain ⟨aA,aB,aI,aJ,aC,aK,hv1,h⟩:=h
 refine resG (.inl rfl) (vs:=[(.agg #[(vi aA),(vi aB),(vi aI),(vu aJ),(vs aC),aK.v])]) (v:=(.agg #[(vi aA),(vi aB),(vi aI),(vu aJ),(vs aC),aK.v])) results22 ⟨(rva (isAgg39 _) (sizeOf39 _) hv1),trivial⟩ (by kernel_rfl) ?_
 exact ⟨aA,aB,aI,aJ,aC,aK,rfl,h⟩
def m_I1 (cH cI:Int) (cJ cK:Int) (cL:ByteArray) (cM:Sl) (hX hY:Int) (hZ iA:Int) (iB:ByteArray) (iC:Sl) (w:World) (K:Int→Int→Int→Int→ByteArray→Sl→WP):Prop :=
 ∀(p1:Addr) (w1:World),New w (.cells #[(vi cH),(vi cI),(vi cJ),(vu cK),(vs cL),cM.v] 39) p1 w1 →
 ∀(p2:Addr) (w2:World),New w1 (.cells #[(vi hX),(vi hY),(vi hZ),(vu iA),(vs iB),iC.v] 39) p2 w2 →
 ∀(p3:Addr) (w3:World),New w2 (.cells #[(vi 0),(vi 0),(vi 0),(vu 0),ve,Sl.nil.v] 39) p3 w3 →
 ∃aL aM:Int,∃aR aS:Int,∃aN:ByteArray,∃bA:Sl,Row w3 p1 [(vi aL),(vi aM),(vi aR),(vu aS),(vs aN),bA.v] ∧
 ∃bD bE:Int,∃bO bP:Int,∃bF:ByteArray,∃bQ:Sl,Row w3 p2 [(vi bD),(vi bE),(vi bO),(vu bP),(vs bF),bQ.v] ∧
 ∀(p4:Addr) (w4:World),New w3 (.cells #[(vi aL),(vi aM),(vi aR),(vu aS),(vs aN),bA.v,(vi bD),(vi bE),(vi bO),(vu bP),(vs bF),bQ.v] 39) p4 w4 →
 (∀j,j<6→CanW w4 (p3.add j))∧∀w5:World,w5=storeRow w4 p3 [(vi 4),(vi 0),(vi 0),(vu 0),ve,(Sl.mk (some p4) 2 2).v] →
 ∃aA aB:Int,∃aI aJ:Int,∃aC:ByteArray,∃aK:Sl,Row w5 p3 [(vi aA),(vi aB),(vi aI),(vu aJ),(vs aC),aK.v] ∧
 K aA aB aI aJ aC aK w5
theorem w_I1 (cH cI : Int) (cJ cK : Int) (cL : ByteArray) (cM : Sl) (hX hY : Int) (hZ iA : Int) (iB : ByteArray) (iC : Sl) (w : World) (K : Int → Int → Int → Int → ByteArray → Sl → WP) (h : m_I1 cH cI cJ cK cL cM hX hY hZ iA iB iC w K) :
  Calls prog 23 #[(.agg #[(vi cH),(vi cI),(vi cJ),(vu cK),(vs cL),cM.v]),(.agg #[(vi hX),(vi hY),(vi hZ),(vu iA),(vs iB),iC.v])] w (fun e w'=>∃aE aF:Int,∃aG aD:Int,∃aH:ByteArray,∃bK:Sl,e=.returned (.agg #[(vi aE),(vi aF),(vi aG),(vu aD),(vs aH),bK.v])∧K aE aF aG aD aH bK w'):=by
 unfold m_I1 at h
 refine cw (args:=[(.agg #[(vi cH),(vi cI),(vi cJ),(vu cK),(vs cL),cM.v]),(.agg #[(vi hX),(vi hY),(vi hZ),(vu iA),(vs iB),iC.v])]) func23 ntmps23 (eg (sn (O:=(.cells #[(vi cH),(vi cI),(vi cJ),(vu cK),(vs cL),cM.v] 39)) xb ?_))
 intro p1 w1 hn5
 have h:=h p1 w1 hn5
 refine sn (O:=(.cells #[(vi hX),(vi hY),(vi hZ),(vu iA),(vs iB),iC.v] 39)) xb ?_
 intro p2 w2 hn4
 have h:=h p2 w2 hn4
 refine sn (O:=(.cells #[(vi 0),(vi 0),(vi 0),(vu 0),ve,Sl.nil.v] 39)) (x_alloc (zeroValue39 _) rfl) ?_
 intro p3 w3 hn3
 have h:=h p3 w3 hn3
 refine ln (eg ?_)
 obtain ⟨aL,aM,aR,aS,aN,bA,hv3,h⟩:=h
 refine q2 (.agg #[(vi aL),(vi aM),(vi aR),(vu aS),(vs aN),bA.v]) (xa p1 [(vi aL),(vi aM),(vi aR),(vu aS),(vs aN),bA.v] (isAgg39 _) (sizeOf39 _) hv3) ?_
 obtain ⟨bD,bE,bO,bP,bF,bQ,hv2,h⟩:=h
 refine q2 (.agg #[(vi bD),(vi bE),(vi bO),(vu bP),(vs bF),bQ.v]) (xa p2 [(vi bD),(vi bE),(vi bO),(vu bP),(vs bF),bQ.v] (isAgg39 _) (sizeOf39 _) hv2) (st_new (O:=(.cells #[(vi aL),(vi aM),(vi aR),(vu aS),(vs aN),bA.v,(vi bD),(vi bE),(vi bO),(vu bP),(vs bF),bQ.v] 39)) (fun p=>(Sl.mk (some p) 2 2).v) (want0 rfl) (x_buildSlice (vs:=#[(0,(.agg #[(vi aL),(vi aM),(vi aR),(vu aS),(vs aN),bA.v])),(1,(.agg #[(vi bD),(vi bE),(vi bO),(vu bP),(vs bF),bQ.v]))]) (by kernel_rfl) (by kernel_rfl)) ?_)
 intro p4 w4 hn2
 have h:=h p4 w4 hn2
 refine q0 (.agg #[(vi 4),(vi 0),(vi 0),(vu 0),ve,(Sl.mk (some p4) 2 2).v]) ?_
 obtain ⟨hp1,h⟩:=h
 refine ss (xo p3 [(vi 4),(vi 0),(vi 0),(vu 0),ve,(Sl.mk (some p4) 2 2).v] (sizeOf39 _) hp1) ?_
 intro w5 hn1
 have h:=h w5 hn1
 refine ln (er ?_)
 obtain ⟨aA,aB,aI,aJ,aC,aK,hv1,h⟩:=h
 refine resG (.inl rfl) (vs:=[(.agg #[(vi aA),(vi aB),(vi aI),(vu aJ),(vs aC),aK.v])]) (v:=(.agg #[(vi aA),(vi aB),(vi aI),(vu aJ),(vs aC),aK.v])) results23 ⟨(rva (isAgg39 _) (sizeOf39 _) hv1),trivial⟩ (by kernel_rfl) ?_
 exact ⟨aA,aB,aI,aJ,aC,aK,rfl,h⟩
def m_J1 (s1:ByteArray) (w:World) (K:Int→Int→Int→Int→ByteArray→Sl→WP):Prop :=
 ∀(p1:Addr) (w1:World),New w (.cells #[(vi 0),(vi 0),(vi 0),(vu 0),ve,Sl.nil.v] 39) p1 w1 →
 (∀j,j<6→CanW w1 (p1.add j))∧∀w2:World,w2=storeRow w1 p1 [(vi 3),(vi 0),(vi 0),(vu 0),(vs s1),Sl.nil.v] →
 ∃aA aB:Int,∃aI aJ:Int,∃aC:ByteArray,∃aK:Sl,Row w2 p1 [(vi aA),(vi aB),(vi aI),(vu aJ),(vs aC),aK.v] ∧
 K aA aB aI aJ aC aK w2
theorem w_J1 (s1 : ByteArray) (w : World) (K : Int → Int → Int → Int → ByteArray → Sl → WP) (h : m_J1 s1 w K) :
  Calls prog 24 #[(vs s1)] w (fun e w'=>∃aE aF:Int,∃aG aD:Int,∃aH:ByteArray,∃bK:Sl,e=.returned (.agg #[(vi aE),(vi aF),(vi aG),(vu aD),(vs aH),bK.v])∧K aE aF aG aD aH bK w'):=by
 unfold m_J1 at h
 refine cw (args:=[(vs s1)]) func24 ntmps24 (eg (sn (O:=(.cells #[(vi 0),(vi 0),(vi 0),(vu 0),ve,Sl.nil.v] 39)) (x_alloc (zeroValue39 _) rfl) ?_))
 intro p1 w1 hn2
 have h:=h p1 w1 hn2
 refine ln (eg (q0 (vs s1) (q0 (.agg #[(vi 3),(vi 0),(vi 0),(vu 0),(vs s1),Sl.nil.v]) ?_)))
 obtain ⟨hp1,h⟩:=h
 refine ss (xo p1 [(vi 3),(vi 0),(vi 0),(vu 0),(vs s1),Sl.nil.v] (sizeOf39 _) hp1) ?_
 intro w2 hn1
 have h:=h w2 hn1
 refine ln (er ?_)
 obtain ⟨aA,aB,aI,aJ,aC,aK,hv1,h⟩:=h
 refine resG (.inl rfl) (vs:=[(.agg #[(vi aA),(vi aB),(vi aI),(vu aJ),(vs aC),aK.v])]) (v:=(.agg #[(vi aA),(vi aB),(vi aI),(vu aJ),(vs aC),aK.v])) results24 ⟨(rva (isAgg39 _) (sizeOf39 _) hv1),trivial⟩ (by kernel_rfl) ?_
 exact ⟨aA,aB,aI,aJ,aC,aK,rfl,h⟩
def m_K1 (n1:Int) (w:World) (K:Int→Int→Int→Int→ByteArray→Sl→WP):Prop :=
 ∀(p1:Addr) (w1:World),New w (.cells #[(vi 0),(vi 0),(vi 0),(vu 0),ve,Sl.nil.v] 39) p1 w1 →
 (∀j,j<6→CanW w1 (p1.add j))∧∀w2:World,w2=storeRow w1 p1 [(vi 2),(vi 0),(vi 0),(vu n1),ve,Sl.nil.v] →
 ∃aA aB:Int,∃aI aJ:Int,∃aC:ByteArray,∃aK:Sl,Row w2 p1 [(vi aA),(vi aB),(vi aI),(vu aJ),(vs aC),aK.v] ∧
 K aA aB aI aJ aC aK w2
theorem w_K1 (n1 : Int) (w : World) (K : Int → Int → Int → Int → ByteArray → Sl → WP) (h : m_K1 n1 w K) :
  Calls prog 25 #[(vu n1)] w (fun e w'=>∃aE aF:Int,∃aG aD:Int,∃aH:ByteArray,∃bK:Sl,e=.returned (.agg #[(vi aE),(vi aF),(vi aG),(vu aD),(vs aH),bK.v])∧K aE aF aG aD aH bK w'):=by
 unfold m_K1 at h
 refine cw (args:=[(vu n1)]) func25 ntmps25 (eg (sn (O:=(.cells #[(vi 0),(vi 0),(vi 0),(vu 0),ve,Sl.nil.v] 39)) (x_alloc (zeroValue39 _) rfl) ?_))
 intro p1 w1 hn2
 have h:=h p1 w1 hn2
 refine ln (eg (q0 (vu n1) (q0 (.agg #[(vi 2),(vi 0),(vi 0),(vu n1),ve,Sl.nil.v]) ?_)))
 obtain ⟨hp1,h⟩:=h
 refine ss (xo p1 [(vi 2),(vi 0),(vi 0),(vu n1),ve,Sl.nil.v] (sizeOf39 _) hp1) ?_
 intro w2 hn1
 have h:=h w2 hn1
 refine ln (er ?_)
 obtain ⟨aA,aB,aI,aJ,aC,aK,hv1,h⟩:=h
 refine resG (.inl rfl) (vs:=[(.agg #[(vi aA),(vi aB),(vi aI),(vu aJ),(vs aC),aK.v])]) (v:=(.agg #[(vi aA),(vi aB),(vi aI),(vu aJ),(vs aC),aK.v])) results25 ⟨(rva (isAgg39 _) (sizeOf39 _) hv1),trivial⟩ (by kernel_rfl) ?_
 exact ⟨aA,aB,aI,aJ,aC,aK,rfl,h⟩
def m_F_j2 (p2 p3 p5:Addr) (r3:Int) (w:World) (K:Int→Int→Int→ByteArray→Bool→Bool→WP):Prop :=
 Calls prog 53 #[(vp (some p3)),(vi r3),(vi 2)] w (fun e w16=>∃bH bI:Int,∃bL aT:Int,∃bJ:ByteArray,∃dB dC:Int,e=.returned (.agg #[(vi bH),(vi bI),(vi bL),(vu aT),(vs bJ),(vi dB),(vi dC)])∧
  (∀j,j<5→CanW w16 (p5.add j))∧∀w17:World,w17=storeRow w16 p5 [(vi 7),(vi 0),(vu aT),ve,(vb false)] →
  ∃v6:Bool,w17.cell? (p3.add 1)=some (vb v6) ∧
  Br v6
   ((∀j,j<5→CanW w17 (p2.add j))∧∀w18:World,w18=storeRow w17 p2 [(vi 0),(vi 0),(vu 0),ve,(vb false)] →
   ∃bY bZ dM:Int,∃cA:ByteArray,∃dN:Bool,Row w18 p2 [(vi bY),(vi bZ),(vu dM),(vs cA),(vb dN)] ∧
   K bY bZ dM cA dN false w18)
   (∃dG dH iD:Int,∃dI:ByteArray,∃iE:Bool,Row w17 p5 [(vi dG),(vi dH),(vu iD),(vs dI),(vb iE)] ∧
   (∀j,j<5→CanW w17 (p2.add j))∧∀w19:World,w19=storeRow w17 p2 [(vi dG),(vi dH),(vu iD),(vs dI),(vb iE)] →
   ∃cB cC dO:Int,∃cD:ByteArray,∃dP:Bool,Row w19 p2 [(vi cB),(vi cC),(vu dO),(vs cD),(vb dP)] ∧
   K cB cC dO cD dP true w19))
def m_F_j3 (p2 p3 p5:Addr) (r3:Int) (w:World) (K:Int→Int→Int→ByteArray→Bool→Bool→WP):Prop :=
 ∃v7:Bool,w.cell? (p3.add 1)=some (vb v7) ∧
 Br v7
  (∃v8:Bool,w.cell? (p3.add 1)=some (vb v8) ∧
  Br v8
   ((∀j,j<5→CanW w (p2.add j))∧∀w20:World,w20=storeRow w p2 [(vi 0),(vi 0),(vu 0),ve,(vb false)] →
   ∃cE cF dQ:Int,∃cG:ByteArray,∃dR:Bool,Row w20 p2 [(vi cE),(vi cF),(vu dQ),(vs cG),(vb dR)] ∧
   K cE cF dQ cG dR false w20)
   (∃cY cZ iF:Int,∃dA:ByteArray,∃iG:Bool,Row w p5 [(vi cY),(vi cZ),(vu iF),(vs dA),(vb iG)] ∧
   (∀j,j<5→CanW w (p2.add j))∧∀w21:World,w21=storeRow w p2 [(vi cY),(vi cZ),(vu iF),(vs dA),(vb iG)] →
   ∃dJ dK iH:Int,∃dL:ByteArray,∃iI:Bool,Row w21 p2 [(vi dJ),(vi dK),(vu iH),(vs dL),(vb iI)] ∧
   K dJ dK iH dL iI true w21))
  (m_F_j2 p2 p3 p5 r3 w K)
def m_F_j1 (t1:Int) (p2 p3 p5:Addr) (x1:Bool) (w:World) (K:Int→Int→Int→ByteArray→Bool→Bool→WP):Prop :=
 Br x1
  (Calls prog 51 #[(vp (some p3)),(vi t1)] w (fun e w11=>∃bR bS eA:Int,∃bG:ByteArray,∃eB:Bool,e=.returned (.agg #[(vi bR),(vi bS),(vu eA),(vs bG),(vb eB)])∧
   (∀j,j<5→CanW w11 (p5.add j))∧∀w12:World,w12=storeRow w11 p5 [(vi bR),(vi bS),(vu eA),(vs bG),(vb eB)] →
   ∃v5:Bool,w12.cell? (p3.add 1)=some (vb v5) ∧
   Br v5
    ((∀j,j<5→CanW w12 (p2.add j))∧∀w13:World,w13=storeRow w12 p2 [(vi 0),(vi 0),(vu 0),ve,(vb false)] →
    ∃aU aV cN:Int,∃aW:ByteArray,∃cO:Bool,Row w13 p2 [(vi aU),(vi aV),(vu cN),(vs aW),(vb cO)] ∧
    K aU aV cN aW cO false w13)
    (∃bD bE iJ:Int,∃bF:ByteArray,∃iK:Bool,Row w12 p5 [(vi bD),(vi bE),(vu iJ),(vs bF),(vb iK)] ∧
    (∀j,j<5→CanW w12 (p2.add j))∧∀w14:World,w14=storeRow w12 p2 [(vi bD),(vi bE),(vu iJ),(vs bF),(vb iK)] →
    ∃bV bW dS:Int,∃bX:ByteArray,∃dT:Bool,Row w14 p2 [(vi bV),(vi bW),(vu dS),(vs bX),(vb dT)] ∧
    K bV bW dS bX dT true w14)))
  (Calls prog 52 #[(vp (some p3)),(vi t1)] w (fun e w15=>∃r2:ByteArray,∃r3:Int,e=.returned (.tuple #[(vs r2),(vi r3)])∧
   ∃v9:Bool,w15.cell? (p3.add 1)=some (vb v9) ∧
   Br v9
    (CanW w15 (p3.add 1)∧∀w22:World,w22=w15.setCell (p3.add 1) (vb true) →
    m_F_j3 p2 p3 p5 r3 w22 K)
    (CanW w15 (p3.add 1)∧∀w23:World,w23=w15.setCell (p3.add 1) (vb (!(decide (r2=(⟨#[102,117,108,108]⟩:ByteArray))))) →
    m_F_j3 p2 p3 p5 r3 w23 K)))
def m_F (p1:Option Addr) (t1:Int) (w:World) (K:Int→Int→Int→ByteArray→Bool→Bool→WP):Prop :=
 ∀(p2:Addr) (w1:World),New w (.cells #[(vi 0),(vi 0),(vu 0),ve,(vb false)] 42) p2 w1 →
 ∀(p3:Addr) (w2:World),New w1 (.cells #[(vp p1),(vb false)] 110) p3 w2 →
 Calls prog 49 #[(vp p1),(vi t1)] w2 (fun e w3=>∃aE aF:Int,∃aG aD:Int,∃aH:ByteArray,∃aY aZ:Int,∃r1:Bool,e=.returned (.tuple #[(.agg #[(vi aE),(vi aF),(vi aG),(vu aD),(vs aH),(vi aY),(vi aZ)]),(vb r1)])∧
  ∀(p4:Addr) (w4:World),New w3 (.cells #[(vi 0),(vi 0),(vi 0),(vu 0),ve,(vi 0),(vi 0)] 80) p4 w4 →
  (∀j,j<7→CanW w4 (p4.add j))∧∀w5:World,w5=storeRow w4 p4 [(vi aE),(vi aF),(vi aG),(vu aD),(vs aH),(vi aY),(vi aZ)] →
  ∀(p5:Addr) (w6:World),New w5 (.cells #[(vi 0),(vi 0),(vu 0),ve,(vb false)] 42) p5 w6 →
  ∃v1:Int,w6.cell? p4=some (vi v1) ∧
  Br (v1 == 7)
   (∃v2:Int,w6.cell? (p4.add 1)=some (vi v2) ∧
   ∃v3:Int,w6.cell? (p4.add 5)=some (vi v3) ∧
   Calls prog 50 #[(vp (some p3)),(vi v2),(vi v3)] w6 (fun e w7=>∃bB bC bM:Int,∃aX:ByteArray,∃bN:Bool,e=.returned (.agg #[(vi bB),(vi bC),(vu bM),(vs aX),(vb bN)])∧
    (∀j,j<5→CanW w7 (p5.add j))∧∀w8:World,w8=storeRow w7 p5 [(vi bB),(vi bC),(vu bM),(vs aX),(vb bN)] →
    ∃v4:Bool,w8.cell? (p3.add 1)=some (vb v4) ∧
    Br v4
     ((∀j,j<5→CanW w8 (p2.add j))∧∀w9:World,w9=storeRow w8 p2 [(vi 0),(vi 0),(vu 0),ve,(vb false)] →
     ∃aA aB cP:Int,∃aC:ByteArray,∃cQ:Bool,Row w9 p2 [(vi aA),(vi aB),(vu cP),(vs aC),(vb cQ)] ∧
     K aA aB cP aC cQ false w9)
     (∃aL aM iL:Int,∃aN:ByteArray,∃iM:Bool,Row w8 p5 [(vi aL),(vi aM),(vu iL),(vs aN),(vb iM)] ∧
     (∀j,j<5→CanW w8 (p2.add j))∧∀w10:World,w10=storeRow w8 p2 [(vi aL),(vi aM),(vu iL),(vs aN),(vb iM)] →
     ∃aO aP cR:Int,∃aQ:ByteArray,∃cS:Bool,Row w10 p2 [(vi aO),(vi aP),(vu cR),(vs aQ),(vb cS)] ∧
     K aO aP cR aQ cS true w10)))
   (Br (v1 == 8)
    (m_F_j1 t1 p2 p3 p5 (v1 == 8) w6 K)
    (m_F_j1 t1 p2 p3 p5 (v1 == 9) w6 K)))
theorem w_F (p1 : Option Addr) (t1 : Int) (w : World) (K : Int → Int → Int → ByteArray → Bool → Bool → WP) (h : m_F p1 t1 w K) :
  Calls prog 38 #[(vp p1),(vi t1)] w (fun e w'=>∃cT cU fX:Int,∃cV:ByteArray,∃fY r4:Bool,e=.returned (.tuple #[(.agg #[(vi cT),(vi cU),(vu fX),(vs cV),(vb fY)]),(vb r4)])∧K cT cU fX cV fY r4 w'):=by
 unfold m_F at h
 refine cw (args:=[(vp p1),(vi t1)]) func38 ntmps38 (eg (sn (O:=(.cells #[(vi 0),(vi 0),(vu 0),ve,(vb false)] 42)) (x_alloc (zeroValue42 _) rfl) ?_))
 intro p2 w1 hn18
 have h:=h p2 w1 hn18
 refine q0 (vb false) (ln (wpE_scope rfl (fun _ _ _ h=>h) (eg (q0 (vp p1) (q0 (.agg #[(vp p1),(vb false)]) (sn (O:=(.cells #[(vp p1),(vb false)] 110)) xb ?_))))))
 intro p3 w2 hn17
 have h:=h p3 w2 hn17
 refine q0 (vp (some p3)) (ln (eg (q0 (vp p1) (q0 (vi t1) ?_))))
 refine sc call49 (h.mono ?_)
 rintro e w3 ⟨aE,aF,aG,aD,aH,aY,aZ,r1,rfl,h⟩
 refine ⟨_,rfl,?_⟩
 refine q0 (.tuple #[(.agg #[(vi aE),(vi aF),(vi aG),(vu aD),(vs aH),(vi aY),(vi aZ)]),(vb r1)]) (q0 (.agg #[(vi aE),(vi aF),(vi aG),(vu aD),(vs aH),(vi aY),(vi aZ)]) (q0 (vb r1) (sn (O:=(.cells #[(vi 0),(vi 0),(vi 0),(vu 0),ve,(vi 0),(vi 0)] 80)) (x_alloc (zeroValue80 _) rfl) ?_)))
 intro p4 w4 hn16
 have h:=h p4 w4 hn16
 obtain ⟨hp1,h⟩:=h
 refine ss (xo p4 [(vi aE),(vi aF),(vi aG),(vu aD),(vs aH),(vi aY),(vi aZ)] (sizeOf80 _) hp1) ?_
 intro w5 hn1
 have h:=h w5 hn1
 refine q0 (vb r1) (ln (eg (sn (O:=(.cells #[(vi 0),(vi 0),(vu 0),ve,(vb false)] 42)) (x_alloc (zeroValue42 _) rfl) ?_)))
 intro p5 w6 hn15
 have h:=h p5 w6 hn15
 refine ln (wpE_seq (wpE_label (th_n (wpE_seq (eg (q0 (vp (some p4)) ?_))))))
 obtain ⟨v1,hv21,h⟩:=h
 refine q2 (vi v1) (xl (isAgg3 _) hv21) (ln (wpE_block (eg (q0 (vb (v1 == 7)) (q0 (vb (v1 == 7)) (ln ?_))))))
 refine wpE_cond (t:=(v1 == 7)) (by kernel_rfl) (fun hc1=>?_) (fun hc1=>?_)
 have h:=h.1 hc1
 refine rg (q0 (vp (some p3)) (q0 (vp (some (p4.add 1))) ?_))
 obtain ⟨v2,hv6,h⟩:=h
 refine q2 (vi v2) (xl (isAgg3 _) hv6) (q0 (vp (some (p4.add 5))) ?_)
 obtain ⟨v3,hv5,h⟩:=h
 refine q2 (vi v3) (xl (isAgg33 _) hv5) ?_
 refine sc call50 (h.mono ?_)
 rintro e w7 ⟨bB,bC,bM,aX,bN,rfl,h⟩
 refine ⟨_,rfl,?_⟩
 obtain ⟨hp2,h⟩:=h
 refine ss (xo p5 [(vi bB),(vi bC),(vu bM),(vs aX),(vb bN)] (sizeOf42 _) hp2) ?_
 intro w8 hn2
 have h:=h w8 hn2
 refine wpL_nil (bl_n (th_n (wpE_seq (eg (q0 (vp (some p3)) (q0 (vp (some p3)) (q0 (vp (some (p3.add 1))) ?_)))))))
 obtain ⟨v4,hv4,h⟩:=h
 refine q2 (vb v4) (xl (isAgg4 _) hv4) (ln ?_)
 refine wpE_cond (t:=v4) (by kernel_rfl) (fun hc2=>?_) (fun hc2=>?_)
 have h:=h.1 hc2
 refine eg (q0 (.agg #[(vi 0),(vi 0),(vu 0),ve,(vb false)]) ?_)
 obtain ⟨hp3,h⟩:=h
 refine ss (xo p2 [(vi 0),(vi 0),(vu 0),ve,(vb false)] (sizeOf42 _) hp3) ?_
 intro w9 hn3
 have h:=h w9 hn3
 refine q0 (vb false) (ln (er (th_r ?_)))
 obtain ⟨aA,aB,cP,aC,cQ,hv1,h⟩:=h
 refine resG (.inl rfl) (vs:=[(.agg #[(vi aA),(vi aB),(vu cP),(vs aC),(vb cQ)]),(vb false)]) (v:=(.tuple #[(.agg #[(vi aA),(vi aB),(vu cP),(vs aC),(vb cQ)]),(vb false)])) results38 ⟨(rva (isAgg42 _) (sizeOf42 _) hv1),(rvT (by kernel_rfl)),trivial⟩ (by kernel_rfl) ?_
 exact ⟨aA,aB,cP,aC,cQ,false,rfl,h⟩
 have h:=h.2 hc2
 refine wpE_skip (th_n (eg ?_))
 obtain ⟨aL,aM,iL,aN,iM,hv3,h⟩:=h
 refine q2 (.agg #[(vi aL),(vi aM),(vu iL),(vs aN),(vb iM)]) (xa p5 [(vi aL),(vi aM),(vu iL),(vs aN),(vb iM)] (isAgg42 _) (sizeOf42 _) hv3) ?_
 obtain ⟨hp4,h⟩:=h
 refine ss (xo p2 [(vi aL),(vi aM),(vu iL),(vs aN),(vb iM)] (sizeOf42 _) hp4) ?_
 intro w10 hn4
 have h:=h w10 hn4
 refine q0 (vb true) (ln (er ?_))
 obtain ⟨aO,aP,cR,aQ,cS,hv2,h⟩:=h
 refine resG (.inl rfl) (vs:=[(.agg #[(vi aO),(vi aP),(vu cR),(vs aQ),(vb cS)]),(vb true)]) (v:=(.tuple #[(.agg #[(vi aO),(vi aP),(vu cR),(vs aQ),(vb cS)]),(vb true)])) results38 ⟨(rva (isAgg42 _) (sizeOf42 _) hv2),(rvT (by kernel_rfl)),trivial⟩ (by kernel_rfl) ?_
 exact ⟨aO,aP,cR,aQ,cS,true,rfl,h⟩
 have h:=h.2 hc1
 refine wpE_join (fun ρ w=>∃x1:Bool,Has ρ [(1,(vi t1)),(4,(vp (some p2))),(6,(vp (some p3))),(9,(vp (some p5))),(57,(vb x1))]∧m_F_j1 t1 p2 p3 p5 x1 w K) ?_ ?_
 rintro ρ w ⟨x1,hH,h⟩
 unfold m_F_j1 at h
 refine wpE_has hH ?_
 refine wpE_cond (t:=x1) (by kernel_rfl) (fun hc3=>?_) (fun hc3=>?_)
 have h:=h.1 hc3
 refine rg (q0 (vp (some p3)) (q0 (vi t1) ?_))
 refine sc call51 (h.mono ?_)
 rintro e w11 ⟨bR,bS,eA,bG,eB,rfl,h⟩
 refine ⟨_,rfl,?_⟩
 obtain ⟨hp5,h⟩:=h
 refine ss (xo p5 [(vi bR),(vi bS),(vu eA),(vs bG),(vb eB)] (sizeOf42 _) hp5) ?_
 intro w12 hn5
 have h:=h w12 hn5
 refine wpL_nil (bl_n (th_n (wpE_seq (eg (q0 (vp (some p3)) (q0 (vp (some p3)) (q0 (vp (some (p3.add 1))) ?_)))))))
 obtain ⟨v5,hv10,h⟩:=h
 refine q2 (vb v5) (xl (isAgg4 _) hv10) (ln ?_)
 refine wpE_cond (t:=v5) (by kernel_rfl) (fun hc4=>?_) (fun hc4=>?_)
 have h:=h.1 hc4
 refine eg (q0 (.agg #[(vi 0),(vi 0),(vu 0),ve,(vb false)]) ?_)
 obtain ⟨hp6,h⟩:=h
 refine ss (xo p2 [(vi 0),(vi 0),(vu 0),ve,(vb false)] (sizeOf42 _) hp6) ?_
 intro w13 hn6
 have h:=h w13 hn6
 refine q0 (vb false) (ln (er (th_r ?_)))
 obtain ⟨aU,aV,cN,aW,cO,hv7,h⟩:=h
 refine resG (.inl rfl) (vs:=[(.agg #[(vi aU),(vi aV),(vu cN),(vs aW),(vb cO)]),(vb false)]) (v:=(.tuple #[(.agg #[(vi aU),(vi aV),(vu cN),(vs aW),(vb cO)]),(vb false)])) results38 ⟨(rva (isAgg42 _) (sizeOf42 _) hv7),(rvT (by kernel_rfl)),trivial⟩ (by kernel_rfl) ?_
 exact ⟨aU,aV,cN,aW,cO,false,rfl,h⟩
 have h:=h.2 hc4
 refine wpE_skip (th_n (eg ?_))
 obtain ⟨bD,bE,iJ,bF,iK,hv9,h⟩:=h
 refine q2 (.agg #[(vi bD),(vi bE),(vu iJ),(vs bF),(vb iK)]) (xa p5 [(vi bD),(vi bE),(vu iJ),(vs bF),(vb iK)] (isAgg42 _) (sizeOf42 _) hv9) ?_
 obtain ⟨hp7,h⟩:=h
 refine ss (xo p2 [(vi bD),(vi bE),(vu iJ),(vs bF),(vb iK)] (sizeOf42 _) hp7) ?_
 intro w14 hn7
 have h:=h w14 hn7
 refine q0 (vb true) (ln (er ?_))
 obtain ⟨bV,bW,dS,bX,dT,hv8,h⟩:=h
 refine resG (.inl rfl) (vs:=[(.agg #[(vi bV),(vi bW),(vu dS),(vs bX),(vb dT)]),(vb true)]) (v:=(.tuple #[(.agg #[(vi bV),(vi bW),(vu dS),(vs bX),(vb dT)]),(vb true)])) results38 ⟨(rva (isAgg42 _) (sizeOf42 _) hv8),(rvT (by kernel_rfl)),trivial⟩ (by kernel_rfl) ?_
 exact ⟨bV,bW,dS,bX,dT,true,rfl,h⟩
 have h:=h.2 hc3
 refine eg (q0 (vp (some p3)) (q0 (vi t1) ?_))
 refine sc call52 (h.mono ?_)
 rintro e w15 ⟨r2,r3,rfl,h⟩
 refine ⟨_,rfl,?_⟩
 refine q0 (.tuple #[(vs r2),(vi r3)]) (q0 (vs r2) (q0 (vi r3) (q0 (vs r2) (q0 (vi r3) (ln ?_)))))
 refine wpE_join (fun ρ w=>Has ρ [(4,(vp (some p2))),(6,(vp (some p3))),(9,(vp (some p5))),(11,(vi r3))]∧m_F_j2 p2 p3 p5 r3 w K) ?_ ?_
 rintro ρ w ⟨hH,h⟩
 unfold m_F_j2 at h
 refine wpE_has hH ?_
 refine rg (q0 (vp (some p3)) (q0 (vi r3) ?_))
 refine sc call53 (h.mono ?_)
 rintro e w16 ⟨bH,bI,bL,aT,bJ,dB,dC,rfl,h⟩
 refine ⟨_,rfl,?_⟩
 refine q0 (vu aT) (q0 (.agg #[(vi 7),(vi 0),(vu aT),ve,(vb false)]) ?_)
 obtain ⟨hp8,h⟩:=h
 refine ss (xo p5 [(vi 7),(vi 0),(vu aT),ve,(vb false)] (sizeOf42 _) hp8) ?_
 intro w17 hn8
 have h:=h w17 hn8
 refine wpL_nil (bl_n (th_n (wpE_seq (eg (q0 (vp (some p3)) (q0 (vp (some p3)) (q0 (vp (some (p3.add 1))) ?_)))))))
 obtain ⟨v6,hv14,h⟩:=h
 refine q2 (vb v6) (xl (isAgg4 _) hv14) (ln ?_)
 refine wpE_cond (t:=v6) (by kernel_rfl) (fun hc5=>?_) (fun hc5=>?_)
 have h:=h.1 hc5
 refine eg (q0 (.agg #[(vi 0),(vi 0),(vu 0),ve,(vb false)]) ?_)
 obtain ⟨hp9,h⟩:=h
 refine ss (xo p2 [(vi 0),(vi 0),(vu 0),ve,(vb false)] (sizeOf42 _) hp9) ?_
 intro w18 hn9
 have h:=h w18 hn9
 refine q0 (vb false) (ln (er (th_r ?_)))
 obtain ⟨bY,bZ,dM,cA,dN,hv11,h⟩:=h
 refine resG (.inl rfl) (vs:=[(.agg #[(vi bY),(vi bZ),(vu dM),(vs cA),(vb dN)]),(vb false)]) (v:=(.tuple #[(.agg #[(vi bY),(vi bZ),(vu dM),(vs cA),(vb dN)]),(vb false)])) results38 ⟨(rva (isAgg42 _) (sizeOf42 _) hv11),(rvT (by kernel_rfl)),trivial⟩ (by kernel_rfl) ?_
 exact ⟨bY,bZ,dM,cA,dN,false,rfl,h⟩
 have h:=h.2 hc5
 refine wpE_skip (th_n (eg ?_))
 obtain ⟨dG,dH,iD,dI,iE,hv13,h⟩:=h
 refine q2 (.agg #[(vi dG),(vi dH),(vu iD),(vs dI),(vb iE)]) (xa p5 [(vi dG),(vi dH),(vu iD),(vs dI),(vb iE)] (isAgg42 _) (sizeOf42 _) hv13) ?_
 obtain ⟨hp10,h⟩:=h
 refine ss (xo p2 [(vi dG),(vi dH),(vu iD),(vs dI),(vb iE)] (sizeOf42 _) hp10) ?_
 intro w19 hn10
 have h:=h w19 hn10
 refine q0 (vb true) (ln (er ?_))
 obtain ⟨cB,cC,dO,cD,dP,hv12,h⟩:=h
 refine resG (.inl rfl) (vs:=[(.agg #[(vi cB),(vi cC),(vu dO),(vs cD),(vb dP)]),(vb true)]) (v:=(.tuple #[(.agg #[(vi cB),(vi cC),(vu dO),(vs cD),(vb dP)]),(vb true)])) results38 ⟨(rva (isAgg42 _) (sizeOf42 _) hv12),(rvT (by kernel_rfl)),trivial⟩ (by kernel_rfl) ?_
 exact ⟨cB,cC,dO,cD,dP,true,rfl,h⟩
 refine wpE_join (fun ρ w=>Has ρ [(4,(vp (some p2))),(6,(vp (some p3))),(9,(vp (some p5))),(11,(vi r3))]∧m_F_j3 p2 p3 p5 r3 w K) ?_ ?_
 rintro ρ w ⟨hH,h⟩
 unfold m_F_j3 at h
 refine wpE_has hH ?_
 refine eg (q0 (vp (some p3)) (q0 (vp (some p3)) (q0 (vp (some (p3.add 1))) ?_)))
 obtain ⟨v7,hv19,h⟩:=h
 refine q2 (vb v7) (xl (isAgg4 _) hv19) (ln ?_)
 refine wpE_cond (t:=v7) (by kernel_rfl) (fun hc6=>?_) (fun hc6=>?_)
 have h:=h.1 hc6
 refine wpE_exit (th_x (bl_eq (th_n (wpE_seq (eg (q0 (vp (some p3)) (q0 (vp (some p3)) (q0 (vp (some (p3.add 1))) ?_))))))))
 obtain ⟨v8,hv18,h⟩:=h
 refine q2 (vb v8) (xl (isAgg4 _) hv18) (ln ?_)
 refine wpE_cond (t:=v8) (by kernel_rfl) (fun hc7=>?_) (fun hc7=>?_)
 have h:=h.1 hc7
 refine eg (q0 (.agg #[(vi 0),(vi 0),(vu 0),ve,(vb false)]) ?_)
 obtain ⟨hp11,h⟩:=h
 refine ss (xo p2 [(vi 0),(vi 0),(vu 0),ve,(vb false)] (sizeOf42 _) hp11) ?_
 intro w20 hn11
 have h:=h w20 hn11
 refine q0 (vb false) (ln (er (th_r ?_)))
 obtain ⟨cE,cF,dQ,cG,dR,hv15,h⟩:=h
 refine resG (.inl rfl) (vs:=[(.agg #[(vi cE),(vi cF),(vu dQ),(vs cG),(vb dR)]),(vb false)]) (v:=(.tuple #[(.agg #[(vi cE),(vi cF),(vu dQ),(vs cG),(vb dR)]),(vb false)])) results38 ⟨(rva (isAgg42 _) (sizeOf42 _) hv15),(rvT (by kernel_rfl)),trivial⟩ (by kernel_rfl) ?_
 exact ⟨cE,cF,dQ,cG,dR,false,rfl,h⟩
 have h:=h.2 hc7
 refine wpE_skip (th_n (eg ?_))
 obtain ⟨cY,cZ,iF,dA,iG,hv17,h⟩:=h
 refine q2 (.agg #[(vi cY),(vi cZ),(vu iF),(vs dA),(vb iG)]) (xa p5 [(vi cY),(vi cZ),(vu iF),(vs dA),(vb iG)] (isAgg42 _) (sizeOf42 _) hv17) ?_
 obtain ⟨hp12,h⟩:=h
 refine ss (xo p2 [(vi cY),(vi cZ),(vu iF),(vs dA),(vb iG)] (sizeOf42 _) hp12) ?_
 intro w21 hn12
 have h:=h w21 hn12
 refine q0 (vb true) (ln (er ?_))
 obtain ⟨dJ,dK,iH,dL,iI,hv16,h⟩:=h
 refine resG (.inl rfl) (vs:=[(.agg #[(vi dJ),(vi dK),(vu iH),(vs dL),(vb iI)]),(vb true)]) (v:=(.tuple #[(.agg #[(vi dJ),(vi dK),(vu iH),(vs dL),(vb iI)]),(vb true)])) results38 ⟨(rva (isAgg42 _) (sizeOf42 _) hv16),(rvT (by kernel_rfl)),trivial⟩ (by kernel_rfl) ?_
 exact ⟨dJ,dK,iH,dL,iI,true,rfl,h⟩
 have h:=h.2 hc6
 refine wpE_skip (th_n ?_)
 exact ⟨hm,h⟩
 refine rg (q0 (vp (some p3)) (q0 (vp (some p3)) (q0 (vp (some p3)) (q0 (vp (some (p3.add 1))) ?_))))
 obtain ⟨v9,hv20,h⟩:=h
 refine q2 (vb v9) (xl (isAgg4 _) hv20) (q0 (vb v9) ?_)
 rcases bte v9 with hg1 | hg1
 have h:=h.1 hg1
 refine sk (yD 34 hg1) (sk (yD 34 hg1) (q2 (vb true) (xT hg1) (q0 (vp (some p3)) (q0 (vp (some (p3.add 1))) ?_))))
 obtain ⟨hp13,h⟩:=h
 refine ss (x_store (a:=(p3.add 1)) (v:=(vb true)) (by kernel_rfl) (by kernel_rfl) rfl (sizeOf4 _) hp13) ?_
 intro w22 hn13
 have h:=h w22 hn13
 refine ln ?_
 exact ⟨hm,h⟩
 have h:=h.2 hg1
 refine q1 (vs r2) (wy 34 hg1) (stp (v:=(vb (!(decide (r2=(⟨#[102,117,108,108]⟩:ByteArray)))))) (wy 34 hg1) (x_strneq (by kernel_rfl) (by kernel_rfl)) (q2 (vb (!(decide (r2=(⟨#[102,117,108,108]⟩:ByteArray))))) (xF hg1) (q0 (vp (some p3)) (q0 (vp (some (p3.add 1))) ?_))))
 obtain ⟨hp14,h⟩:=h
 refine ss (x_store (a:=(p3.add 1)) (v:=(vb (!(decide (r2=(⟨#[102,117,108,108]⟩:ByteArray)))))) (by kernel_rfl) (by kernel_rfl) rfl (sizeOf4 _) hp14) ?_
 intro w23 hn14
 have h:=h w23 hn14
 refine ln ?_
 exact ⟨hm,h⟩
 refine eg (q0 (vb (v1 == 8)) (q0 (vb (v1 == 8)) (ln ?_)))
 refine wpE_cond (t:=(v1 == 8)) (by kernel_rfl) (fun hc8=>?_) (fun hc8=>?_)
 have h:=h.1 hc8
 refine wpE_skip (th_n ?_)
 exact ⟨(v1 == 8),hm,h⟩
 have h:=h.2 hc8
 refine rg (q0 (vb (v1 == 9)) (q0 (vb (v1 == 9)) (ln ?_)))
 exact ⟨(v1 == 9),hm,h⟩
def m_B_j7 (who1:Int) (p1 a1 a2:Addr) (w:World) (K:Int→Int→Int→ByteArray→Bool→WP):Prop :=
 ∃v1:Int,w.cell? (a1.add 2)=some (vu v1) ∧
 ∃v2:ByteArray,w.cell? (a1.add 3)=some (vs v2) ∧
 ∃v3:Bool,w.cell? (a1.add 4)=some (vb v3) ∧
 Br v3
  ((∀j,j<5→CanW w (p1.add j))∧∀w14:World,w14=storeRow w p1 [(vi 4),(vi who1),(vu v1),(vs v2),(vb true)] →
  ∃bY bZ dM:Int,∃cA:ByteArray,∃dN:Bool,Row w14 p1 [(vi bY),(vi bZ),(vu dM),(vs cA),(vb dN)] ∧
  K bY bZ dM cA dN w14)
  (∃v4:Bool,w.cell? (a2.add 4)=some (vb v4) ∧
  (∀j,j<5→CanW w (p1.add j))∧∀w15:World,w15=storeRow w p1 [(vi 4),(vi who1),(vu v1),(vs v2),(vb v4)] →
  ∃cB cC dO:Int,∃cD:ByteArray,∃dP:Bool,Row w15 p1 [(vi cB),(vi cC),(vu dO),(vs cD),(vb dP)] ∧
  K cB cC dO cD dP w15)
def m_B_j10 (r1:Option Addr) (who1:Int) (p1 a1 a2:Addr) (x8:Bool) (w:World) (K:Int→Int→Int→ByteArray→Bool→WP):Prop :=
 Br x8
  (∃a4:Addr,r1=some a4 ∧
  CanW w (a4.add 1)∧∀w16:World,w16=w.setCell (a4.add 1) (vb true) →
  m_B_j7 who1 p1 a1 a2 w16 K)
  (∃v6:ByteArray,w.cell? (a1.add 3)=some (vs v6) ∧
  ∃v7:ByteArray,w.cell? (a2.add 3)=some (vs v7) ∧
  ∃a5:Addr,r1=some a5 ∧
  CanW w (a5.add 1)∧∀w17:World,w17=w.setCell (a5.add 1) (vb (!(decide (v6=v7)))) →
  m_B_j7 who1 p1 a1 a2 w17 K)
def m_B_j9 (r1:Option Addr) (who1:Int) (p1 a1 a2:Addr) (x7:Bool) (w:World) (K:Int→Int→Int→ByteArray→Bool→WP):Prop :=
 Br x7
  (m_B_j10 r1 who1 p1 a1 a2 true w K)
  (∃v8:Int,w.cell? (a1.add 2)=some (vu v8) ∧
  ∃v9:Int,w.cell? (a2.add 2)=some (vu v9) ∧
  m_B_j10 r1 who1 p1 a1 a2 (v8 != v9) w K)
def m_B_j8 (r1:Option Addr) (who1:Int) (p1 a1 a2:Addr) (x6:Bool) (w:World) (K:Int→Int→Int→ByteArray→Bool→WP):Prop :=
 Br x6
  (m_B_j9 r1 who1 p1 a1 a2 true w K)
  (∃v10:Int,w.cell? (a2.add 1)=some (vi v10) ∧
  m_B_j9 r1 who1 p1 a1 a2 (v10 != 1) w K)
def m_B_j6 (r1:Option Addr) (who1:Int) (p1 a1 a2:Addr) (w:World) (K:Int→Int→Int→ByteArray→Bool→WP):Prop :=
 ∃a3:Addr,r1=some a3 ∧
 ∃v5:Bool,w.cell? (a3.add 1)=some (vb v5) ∧
 Br v5
  (m_B_j8 r1 who1 p1 a1 a2 true w K)
  (∃v11:Int,w.cell? (a1.add 1)=some (vi v11) ∧
  m_B_j8 r1 who1 p1 a1 a2 (v11 != 0) w K)
def m_B_j5 (r1:Option Addr) (who1:Int) (p1:Addr) (r3:Int) (x5:Bool) (w:World) (K:Int→Int→Int→ByteArray→Bool→WP):Prop :=
 Br x5
  (Calls prog 53 #[(vp r1),(vi r3),(vi 4)] w (fun e w11=>∃bR bS:Int,∃cW cX:Int,∃bG:ByteArray,∃fZ gA:Int,e=.returned (.agg #[(vi bR),(vi bS),(vi cW),(vu cX),(vs bG),(vi fZ),(vi gA)])∧
   ∀(p2:Addr) (w12:World),New w11 (.cells #[(vi 0),(vi 0),(vi 0),(vu 0),ve,(vi 0),(vi 0)] 80) p2 w12 →
   (∀j,j<7→CanW w12 (p2.add j))∧∀w13:World,w13=storeRow w12 p2 [(vi bR),(vi bS),(vi cW),(vu cX),(vs bG),(vi fZ),(vi gA)] →
   ∃C1:WP,C1 w13.drew∧∀w18,w18=w13.drew →
   ∃v12:Int,(∀w',C1 w'→w'.cell? (p2.add 5)=some (vi v12)) ∧
   ∃v13:Int,(∀w',C1 w'→w'.cell? (p2.add 6)=some (vi v13)) ∧
   (Calls prog 51 #[(vp r1),(vi v12)] w18 (fun e w19=>∃bH bI bM:Int,∃bJ:ByteArray,∃bN:Bool,e=.returned (.agg #[(vi bH),(vi bI),(vu bM),(vs bJ),(vb bN)])∧C1 w19∧
    (Calls prog 51 #[(vp r1),(vi v13)] w19 (fun e w20=>∃cT cU eA:Int,∃cV:ByteArray,∃eB:Bool,e=.returned (.agg #[(vi cT),(vi cU),(vu eA),(vs cV),(vb eB)])∧
     (∀(p3:Addr) (w21:World),New w20 (.cells #[(vi 0),(vi 0),(vu 0),ve,(vb false)] 42) p3 w21→C1 w21 ∧
     ∀(p4:Addr) (w22:World),New w21 (.cells #[(vi 0),(vi 0),(vu 0),ve,(vb false)] 42) p4 w22→C1 w22 ∧
     (∀j,j<5→CanW w22 (p3.add j))∧∀w23:World,w23=storeRow w22 p3 [(vi bH),(vi bI),(vu bM),(vs bJ),(vb bN)] →
     (∀j,j<5→CanW w23 (p4.add j))∧∀w24:World,w24=storeRow w23 p4 [(vi cT),(vi cU),(vu eA),(vs cV),(vb eB)] →
     m_B_j6 r1 who1 p1 p3 p4 w24 K) ∧
     (∀(p5:Addr) (w25:World),New w20 (.cells #[(vi 0),(vi 0),(vu 0),ve,(vb false)] 42) p5 w25→C1 w25 ∧
     ∀(p6:Addr) (w26:World),New w25 (.cells #[(vi 0),(vi 0),(vu 0),ve,(vb false)] 42) p6 w26→C1 w26 ∧
     (∀j,j<5→CanW w26 (p6.add j))∧∀w27:World,w27=storeRow w26 p6 [(vi bH),(vi bI),(vu bM),(vs bJ),(vb bN)] →
     (∀j,j<5→CanW w27 (p5.add j))∧∀w28:World,w28=storeRow w27 p5 [(vi cT),(vi cU),(vu eA),(vs cV),(vb eB)] →
     m_B_j6 r1 who1 p1 p6 p5 w28 K))) ∧
    (∀(p7:Addr) (w29:World),New w19 (.cells #[(vi 0),(vi 0),(vu 0),ve,(vb false)] 42) p7 w29→C1 w29 ∧
    (Calls prog 51 #[(vp r1),(vi v13)] w29 (fun e w30=>∃dU dV fX:Int,∃dW:ByteArray,∃fY:Bool,e=.returned (.agg #[(vi dU),(vi dV),(vu fX),(vs dW),(vb fY)])∧
     ∀(p8:Addr) (w31:World),New w30 (.cells #[(vi 0),(vi 0),(vu 0),ve,(vb false)] 42) p8 w31→C1 w31 ∧
     (∀j,j<5→CanW w31 (p7.add j))∧∀w32:World,w32=storeRow w31 p7 [(vi bH),(vi bI),(vu bM),(vs bJ),(vb bN)] →
     (∀j,j<5→CanW w32 (p8.add j))∧∀w33:World,w33=storeRow w32 p8 [(vi dU),(vi dV),(vu fX),(vs dW),(vb fY)] →
     m_B_j6 r1 who1 p1 p7 p8 w33 K)) ∧
    (∀(p9:Addr) (w34:World),New w29 (.cells #[(vi 0),(vi 0),(vu 0),ve,(vb false)] 42) p9 w34→C1 w34 ∧
    Calls prog 51 #[(vp r1),(vi v13)] w34 (fun e w35=>∃eI eJ kY:Int,∃eK:ByteArray,∃kZ:Bool,e=.returned (.agg #[(vi eI),(vi eJ),(vu kY),(vs eK),(vb kZ)])∧
     (∀j,j<5→CanW w35 (p7.add j))∧∀w36:World,w36=storeRow w35 p7 [(vi bH),(vi bI),(vu bM),(vs bJ),(vb bN)] →
     (∀j,j<5→CanW w36 (p9.add j))∧∀w37:World,w37=storeRow w36 p9 [(vi eI),(vi eJ),(vu kY),(vs eK),(vb kZ)] →
     m_B_j6 r1 who1 p1 p7 p9 w37 K))) ∧
    (∀(p10:Addr) (w38:World),New w19 (.cells #[(vi 0),(vi 0),(vu 0),ve,(vb false)] 42) p10 w38→C1 w38 ∧
    (Calls prog 51 #[(vp r1),(vi v13)] w38 (fun e w39=>∃dX dY lA:Int,∃dZ:ByteArray,∃lB:Bool,e=.returned (.agg #[(vi dX),(vi dY),(vu lA),(vs dZ),(vb lB)])∧
     ∀(p11:Addr) (w40:World),New w39 (.cells #[(vi 0),(vi 0),(vu 0),ve,(vb false)] 42) p11 w40→C1 w40 ∧
     (∀j,j<5→CanW w40 (p11.add j))∧∀w41:World,w41=storeRow w40 p11 [(vi bH),(vi bI),(vu bM),(vs bJ),(vb bN)] →
     (∀j,j<5→CanW w41 (p10.add j))∧∀w42:World,w42=storeRow w41 p10 [(vi dX),(vi dY),(vu lA),(vs dZ),(vb lB)] →
     m_B_j6 r1 who1 p1 p11 p10 w42 K)) ∧
    (∀(p12:Addr) (w43:World),New w38 (.cells #[(vi 0),(vi 0),(vu 0),ve,(vb false)] 42) p12 w43→C1 w43 ∧
    Calls prog 51 #[(vp r1),(vi v13)] w43 (fun e w44=>∃eL eM lC:Int,∃eN:ByteArray,∃lD:Bool,e=.returned (.agg #[(vi eL),(vi eM),(vu lC),(vs eN),(vb lD)])∧
     (∀j,j<5→CanW w44 (p12.add j))∧∀w45:World,w45=storeRow w44 p12 [(vi bH),(vi bI),(vu bM),(vs bJ),(vb bN)] →
     (∀j,j<5→CanW w45 (p10.add j))∧∀w46:World,w46=storeRow w45 p10 [(vi eL),(vi eM),(vu lC),(vs eN),(vb lD)] →
     m_B_j6 r1 who1 p1 p12 p10 w46 K))))) ∧
   (∀(p13:Addr) (w47:World),New w18 (.cells #[(vi 0),(vi 0),(vu 0),ve,(vb false)] 42) p13 w47→C1 w47 ∧
   (Calls prog 51 #[(vp r1),(vi v12)] w47 (fun e w48=>∃eC eD iN:Int,∃eE:ByteArray,∃iO:Bool,e=.returned (.agg #[(vi eC),(vi eD),(vu iN),(vs eE),(vb iO)])∧C1 w48∧
    (Calls prog 51 #[(vp r1),(vi v13)] w48 (fun e w49=>∃fF fG lE:Int,∃fH:ByteArray,∃lF:Bool,e=.returned (.agg #[(vi fF),(vi fG),(vu lE),(vs fH),(vb lF)])∧
     ∀(p14:Addr) (w50:World),New w49 (.cells #[(vi 0),(vi 0),(vu 0),ve,(vb false)] 42) p14 w50→C1 w50 ∧
     (∀j,j<5→CanW w50 (p13.add j))∧∀w51:World,w51=storeRow w50 p13 [(vi eC),(vi eD),(vu iN),(vs eE),(vb iO)] →
     (∀j,j<5→CanW w51 (p14.add j))∧∀w52:World,w52=storeRow w51 p14 [(vi fF),(vi fG),(vu lE),(vs fH),(vb lF)] →
     m_B_j6 r1 who1 p1 p13 p14 w52 K)) ∧
    (∀(p15:Addr) (w53:World),New w48 (.cells #[(vi 0),(vi 0),(vu 0),ve,(vb false)] 42) p15 w53→C1 w53 ∧
    Calls prog 51 #[(vp r1),(vi v13)] w53 (fun e w54=>∃fI fJ lG:Int,∃fK:ByteArray,∃lH:Bool,e=.returned (.agg #[(vi fI),(vi fJ),(vu lG),(vs fK),(vb lH)])∧
     (∀j,j<5→CanW w54 (p13.add j))∧∀w55:World,w55=storeRow w54 p13 [(vi eC),(vi eD),(vu iN),(vs eE),(vb iO)] →
     (∀j,j<5→CanW w55 (p15.add j))∧∀w56:World,w56=storeRow w55 p15 [(vi fI),(vi fJ),(vu lG),(vs fK),(vb lH)] →
     m_B_j6 r1 who1 p1 p13 p15 w56 K)))) ∧
   (∀(p16:Addr) (w57:World),New w47 (.cells #[(vi 0),(vi 0),(vu 0),ve,(vb false)] 42) p16 w57→C1 w57 ∧
   Calls prog 51 #[(vp r1),(vi v12)] w57 (fun e w58=>∃eO eP lI:Int,∃eQ:ByteArray,∃lJ:Bool,e=.returned (.agg #[(vi eO),(vi eP),(vu lI),(vs eQ),(vb lJ)])∧C1 w58∧
    Calls prog 51 #[(vp r1),(vi v13)] w58 (fun e w59=>∃fL fM lK:Int,∃fN:ByteArray,∃lL:Bool,e=.returned (.agg #[(vi fL),(vi fM),(vu lK),(vs fN),(vb lL)])∧
     (∀j,j<5→CanW w59 (p13.add j))∧∀w60:World,w60=storeRow w59 p13 [(vi eO),(vi eP),(vu lI),(vs eQ),(vb lJ)] →
     (∀j,j<5→CanW w60 (p16.add j))∧∀w61:World,w61=storeRow w60 p16 [(vi fL),(vi fM),(vu lK),(vs fN),(vb lL)] →
     m_B_j6 r1 who1 p1 p13 p16 w61 K)))) ∧
   (∀(p17:Addr) (w62:World),New w18 (.cells #[(vi 0),(vi 0),(vu 0),ve,(vb false)] 42) p17 w62→C1 w62 ∧
   (Calls prog 51 #[(vp r1),(vi v12)] w62 (fun e w63=>∃eF eG iP:Int,∃eH:ByteArray,∃iQ:Bool,e=.returned (.agg #[(vi eF),(vi eG),(vu iP),(vs eH),(vb iQ)])∧C1 w63∧
    (Calls prog 51 #[(vp r1),(vi v13)] w63 (fun e w64=>∃fO fP lM:Int,∃fQ:ByteArray,∃lN:Bool,e=.returned (.agg #[(vi fO),(vi fP),(vu lM),(vs fQ),(vb lN)])∧
     ∀(p18:Addr) (w65:World),New w64 (.cells #[(vi 0),(vi 0),(vu 0),ve,(vb false)] 42) p18 w65→C1 w65 ∧
     (∀j,j<5→CanW w65 (p18.add j))∧∀w66:World,w66=storeRow w65 p18 [(vi eF),(vi eG),(vu iP),(vs eH),(vb iQ)] →
     (∀j,j<5→CanW w66 (p17.add j))∧∀w67:World,w67=storeRow w66 p17 [(vi fO),(vi fP),(vu lM),(vs fQ),(vb lN)] →
     m_B_j6 r1 who1 p1 p18 p17 w67 K)) ∧
    (∀(p19:Addr) (w68:World),New w63 (.cells #[(vi 0),(vi 0),(vu 0),ve,(vb false)] 42) p19 w68→C1 w68 ∧
    Calls prog 51 #[(vp r1),(vi v13)] w68 (fun e w69=>∃eR eS lO:Int,∃eT:ByteArray,∃lP:Bool,e=.returned (.agg #[(vi eR),(vi eS),(vu lO),(vs eT),(vb lP)])∧
     (∀j,j<5→CanW w69 (p19.add j))∧∀w70:World,w70=storeRow w69 p19 [(vi eF),(vi eG),(vu iP),(vs eH),(vb iQ)] →
     (∀j,j<5→CanW w70 (p17.add j))∧∀w71:World,w71=storeRow w70 p17 [(vi eR),(vi eS),(vu lO),(vs eT),(vb lP)] →
     m_B_j6 r1 who1 p1 p19 p17 w71 K)))) ∧
   (∀(p20:Addr) (w72:World),New w62 (.cells #[(vi 0),(vi 0),(vu 0),ve,(vb false)] 42) p20 w72→C1 w72 ∧
   Calls prog 51 #[(vp r1),(vi v12)] w72 (fun e w73=>∃eU eV lQ:Int,∃eW:ByteArray,∃lR:Bool,e=.returned (.agg #[(vi eU),(vi eV),(vu lQ),(vs eW),(vb lR)])∧C1 w73∧
    Calls prog 51 #[(vp r1),(vi v13)] w73 (fun e w74=>∃fR fS lS:Int,∃fT:ByteArray,∃lT:Bool,e=.returned (.agg #[(vi fR),(vi fS),(vu lS),(vs fT),(vb lT)])∧
     (∀j,j<5→CanW w74 (p20.add j))∧∀w75:World,w75=storeRow w74 p20 [(vi eU),(vi eV),(vu lQ),(vs eW),(vb lR)] →
     (∀j,j<5→CanW w75 (p17.add j))∧∀w76:World,w76=storeRow w75 p17 [(vi fR),(vi fS),(vu lS),(vs fT),(vb lT)] →
     m_B_j6 r1 who1 p1 p20 p17 w76 K))))))
  (∃a6:Addr,r1=some a6 ∧
  CanW w (a6.add 1)∧∀w77:World,w77=w.setCell (a6.add 1) (vb true) →
  (∀j,j<5→CanW w77 (p1.add j))∧∀w78:World,w78=storeRow w77 p1 [(vi 0),(vi 0),(vu 0),ve,(vb false)] →
  ∃cE cF dQ:Int,∃cG:ByteArray,∃dR:Bool,Row w78 p1 [(vi cE),(vi cF),(vu dQ),(vs cG),(vb dR)] ∧
  K cE cF dQ cG dR w78)
def m_B_j4 (r1:Option Addr) (who1 body1:Int) (p1:Addr) (r2:ByteArray) (r3:Int) (x4:Bool) (w:World) (K:Int→Int→Int→ByteArray→Bool→WP):Prop :=
 Br x4
  (Calls prog 60 #[(vp r1),(vi body1)] w (fun e w9=>∃r6:Int,∃r7:ByteArray,e=.returned (.tuple #[(vu r6),(vs r7)])∧
   (∀j,j<5→CanW w9 (p1.add j))∧∀w10:World,w10=storeRow w9 p1 [(vi 2),(vi who1),(vu r6),(vs r7),(vb false)] →
   ∃bV bW dS:Int,∃bX:ByteArray,∃dT:Bool,Row w10 p1 [(vi bV),(vi bW),(vu dS),(vs bX),(vb dT)] ∧
   K bV bW dS bX dT w10))
  (Br (decide (r2=(⟨#[114,101,115,111,108,118,101]⟩:ByteArray)))
   (m_B_j5 r1 who1 p1 r3 (decide (who1≤1)) w K)
   (m_B_j5 r1 who1 p1 r3 false w K))
def m_B_j3 (r1:Option Addr) (who1 body1:Int) (p1:Addr) (r2:ByteArray) (r3:Int) (x3:Bool) (w:World) (K:Int→Int→Int→ByteArray→Bool→WP):Prop :=
 Br x3
  (Calls prog 60 #[(vp r1),(vi r3)] w (fun e w7=>∃r4:Int,∃r5:ByteArray,e=.returned (.tuple #[(vu r4),(vs r5)])∧
   (∀j,j<5→CanW w7 (p1.add j))∧∀w8:World,w8=storeRow w7 p1 [(vi 6),(vi 0),(vu r4),(vs r5),(vb false)] →
   ∃aU aV cN:Int,∃aW:ByteArray,∃cO:Bool,Row w8 p1 [(vi aU),(vi aV),(vu cN),(vs aW),(vb cO)] ∧
   K aU aV cN aW cO w8))
  (Br (decide (r2=(⟨#[100,101,97,108]⟩:ByteArray)))
   (m_B_j4 r1 who1 body1 p1 r2 r3 (decide (who1≤1)) w K)
   (m_B_j4 r1 who1 body1 p1 r2 r3 false w K))
def m_B_j2 (r1:Option Addr) (who1 body1:Int) (p1:Addr) (r2:ByteArray) (r3:Int) (x2:Bool) (w:World) (K:Int→Int→Int→ByteArray→Bool→WP):Prop :=
 Br x2
  (Calls prog 53 #[(vp r1),(vi r3),(vi 2)] w (fun e w5=>∃bB bC:Int,∃bL aT:Int,∃aX:ByteArray,∃dB dC:Int,e=.returned (.agg #[(vi bB),(vi bC),(vi bL),(vu aT),(vs aX),(vi dB),(vi dC)])∧
   (∀j,j<5→CanW w5 (p1.add j))∧∀w6:World,w6=storeRow w5 p1 [(vi 5),(vi 0),(vu aT),ve,(vb false)] →
   ∃aO aP cR:Int,∃aQ:ByteArray,∃cS:Bool,Row w6 p1 [(vi aO),(vi aP),(vu cR),(vs aQ),(vb cS)] ∧
   K aO aP cR aQ cS w6))
  (Br (decide (r2=(⟨#[105,110,115,116,101,97,100]⟩:ByteArray)))
   (m_B_j3 r1 who1 body1 p1 r2 r3 (who1 == 2) w K)
   (m_B_j3 r1 who1 body1 p1 r2 r3 false w K))
def m_B_j1 (r1:Option Addr) (who1 body1:Int) (p1:Addr) (r2:ByteArray) (r3:Int) (x1:Bool) (w:World) (K:Int→Int→Int→ByteArray→Bool→WP):Prop :=
 Br x1
  (Calls prog 53 #[(vp r1),(vi r3),(vi 2)] w (fun e w3=>∃aE aF:Int,∃aG aD:Int,∃aH:ByteArray,∃aY aZ:Int,e=.returned (.agg #[(vi aE),(vi aF),(vi aG),(vu aD),(vs aH),(vi aY),(vi aZ)])∧
   (∀j,j<5→CanW w3 (p1.add j))∧∀w4:World,w4=storeRow w3 p1 [(vi 3),(vi 0),(vu aD),ve,(vb false)] →
   ∃aA aB cP:Int,∃aC:ByteArray,∃cQ:Bool,Row w4 p1 [(vi aA),(vi aB),(vu cP),(vs aC),(vb cQ)] ∧
   K aA aB cP aC cQ w4))
  (Br (decide (r2=(⟨#[97,98,111,114,116,101,100]⟩:ByteArray)))
   (m_B_j2 r1 who1 body1 p1 r2 r3 (who1 == 2) w K)
   (m_B_j2 r1 who1 body1 p1 r2 r3 false w K))
def m_B (r1:Option Addr) (who1 body1:Int) (w:World) (K:Int→Int→Int→ByteArray→Bool→WP):Prop :=
 ∀(p1:Addr) (w1:World),New w (.cells #[(vi 0),(vi 0),(vu 0),ve,(vb false)] 42) p1 w1 →
 Calls prog 52 #[(vp r1),(vi body1)] w1 (fun e w2=>∃r2:ByteArray,∃r3:Int,e=.returned (.tuple #[(vs r2),(vi r3)])∧
  Br (decide (r2=(⟨#[97,98,111,114,116]⟩:ByteArray)))
   (m_B_j1 r1 who1 body1 p1 r2 r3 (who1 == 0) w2 K)
   (m_B_j1 r1 who1 body1 p1 r2 r3 false w2 K))
theorem w_B (r1 : Option Addr) (who1 body1 : Int) (w : World) (K : Int → Int → Int → ByteArray → Bool → WP) (h : m_B r1 who1 body1 w K) :
  Calls prog 50 #[(vp r1),(vi who1),(vi body1)] w (fun e w'=>∃gW gX pM:Int,∃gY:ByteArray,∃pN:Bool,e=.returned (.agg #[(vi gW),(vi gX),(vu pM),(vs gY),(vb pN)])∧K gW gX pM gY pN w'):=by
 unfold m_B at h
 refine cw (args:=[(vp r1),(vi who1),(vi body1)]) func50 ntmps50 (eg (sn (O:=(.cells #[(vi 0),(vi 0),(vu 0),ve,(vb false)] 42)) (x_alloc (zeroValue42 _) rfl) ?_))
 intro p1 w1 hn55
 have h:=h p1 w1 hn55
 refine ln (eg (q0 (vp r1) (q0 (vi body1) ?_)))
 refine sc call52 (h.mono ?_)
 rintro e w2 ⟨r2,r3,rfl,h⟩
 refine ⟨_,rfl,?_⟩
 refine q0 (.tuple #[(vs r2),(vi r3)]) (q0 (vs r2) (q0 (vi r3) (q0 (vs r2) (q0 (vi r3) (ln (wpE_seq (wpE_block ?_)))))))
 refine wpE_join (fun ρ w=>∃x1:Bool,Has ρ [(0,(vp r1)),(1,(vi who1)),(2,(vi body1)),(6,(vp (some p1))),(7,(vs r2)),(8,(vi r3)),(22,(vb x1))]∧m_B_j1 r1 who1 body1 p1 r2 r3 x1 w K) ?_ ?_
 rintro ρ w ⟨x1,hH,h⟩
 unfold m_B_j1 at h
 refine wpE_has hH ?_
 refine wpE_cond (t:=x1) (by kernel_rfl) (fun hc1=>?_) (fun hc1=>?_)
 have h:=h.1 hc1
 refine eg (q0 (vp r1) (q0 (vi r3) ?_))
 refine sc call53 (h.mono ?_)
 rintro e w3 ⟨aE,aF,aG,aD,aH,aY,aZ,rfl,h⟩
 refine ⟨_,rfl,?_⟩
 refine q0 (vu aD) (q0 (.agg #[(vi 3),(vi 0),(vu aD),ve,(vb false)]) ?_)
 obtain ⟨hp1,h⟩:=h
 refine ss (xo p1 [(vi 3),(vi 0),(vu aD),ve,(vb false)] (sizeOf42 _) hp1) ?_
 intro w4 hn1
 have h:=h w4 hn1
 refine ln (er (bl_r (th_r ?_)))
 obtain ⟨aA,aB,cP,aC,cQ,hv1,h⟩:=h
 refine resG (.inl rfl) (vs:=[(.agg #[(vi aA),(vi aB),(vu cP),(vs aC),(vb cQ)])]) (v:=(.agg #[(vi aA),(vi aB),(vu cP),(vs aC),(vb cQ)])) results50 ⟨(rva (isAgg42 _) (sizeOf42 _) hv1),trivial⟩ (by kernel_rfl) ?_
 exact ⟨aA,aB,cP,aC,cQ,rfl,h⟩
 have h:=h.2 hc1
 refine wpE_join (fun ρ w=>∃x2:Bool,Has ρ [(0,(vp r1)),(1,(vi who1)),(2,(vi body1)),(6,(vp (some p1))),(7,(vs r2)),(8,(vi r3)),(34,(vb x2))]∧m_B_j2 r1 who1 body1 p1 r2 r3 x2 w K) ?_ ?_
 rintro ρ w ⟨x2,hH,h⟩
 unfold m_B_j2 at h
 refine wpE_has hH ?_
 refine wpE_cond (t:=x2) (by kernel_rfl) (fun hc2=>?_) (fun hc2=>?_)
 have h:=h.1 hc2
 refine eg (q0 (vp r1) (q0 (vi r3) ?_))
 refine sc call53 (h.mono ?_)
 rintro e w5 ⟨bB,bC,bL,aT,aX,dB,dC,rfl,h⟩
 refine ⟨_,rfl,?_⟩
 refine q0 (vu aT) (q0 (.agg #[(vi 5),(vi 0),(vu aT),ve,(vb false)]) ?_)
 obtain ⟨hp2,h⟩:=h
 refine ss (xo p1 [(vi 5),(vi 0),(vu aT),ve,(vb false)] (sizeOf42 _) hp2) ?_
 intro w6 hn2
 have h:=h w6 hn2
 refine ln (er (bl_r (th_r ?_)))
 obtain ⟨aO,aP,cR,aQ,cS,hv2,h⟩:=h
 refine resG (.inl rfl) (vs:=[(.agg #[(vi aO),(vi aP),(vu cR),(vs aQ),(vb cS)])]) (v:=(.agg #[(vi aO),(vi aP),(vu cR),(vs aQ),(vb cS)])) results50 ⟨(rva (isAgg42 _) (sizeOf42 _) hv2),trivial⟩ (by kernel_rfl) ?_
 exact ⟨aO,aP,cR,aQ,cS,rfl,h⟩
 have h:=h.2 hc2
 refine wpE_join (fun ρ w=>∃x3:Bool,Has ρ [(0,(vp r1)),(1,(vi who1)),(2,(vi body1)),(6,(vp (some p1))),(7,(vs r2)),(8,(vi r3)),(46,(vb x3))]∧m_B_j3 r1 who1 body1 p1 r2 r3 x3 w K) ?_ ?_
 rintro ρ w ⟨x3,hH,h⟩
 unfold m_B_j3 at h
 refine wpE_has hH ?_
 refine wpE_cond (t:=x3) (by kernel_rfl) (fun hc3=>?_) (fun hc3=>?_)
 have h:=h.1 hc3
 refine eg (q0 (vp r1) (q0 (vi r3) ?_))
 refine sc call60 (h.mono ?_)
 rintro e w7 ⟨r4,r5,rfl,h⟩
 refine ⟨_,rfl,?_⟩
 refine q0 (.tuple #[(vu r4),(vs r5)]) (q0 (vu r4) (q0 (vs r5) (q0 (vu r4) (q0 (vs r5) (ln (eg (q0 (vu r4) (q0 (vs r5) (q0 (.agg #[(vi 6),(vi 0),(vu r4),(vs r5),(vb false)]) ?_)))))))))
 obtain ⟨hp3,h⟩:=h
 refine ss (xo p1 [(vi 6),(vi 0),(vu r4),(vs r5),(vb false)] (sizeOf42 _) hp3) ?_
 intro w8 hn3
 have h:=h w8 hn3
 refine ln (er (bl_r (th_r ?_)))
 obtain ⟨aU,aV,cN,aW,cO,hv3,h⟩:=h
 refine resG (.inl rfl) (vs:=[(.agg #[(vi aU),(vi aV),(vu cN),(vs aW),(vb cO)])]) (v:=(.agg #[(vi aU),(vi aV),(vu cN),(vs aW),(vb cO)])) results50 ⟨(rva (isAgg42 _) (sizeOf42 _) hv3),trivial⟩ (by kernel_rfl) ?_
 exact ⟨aU,aV,cN,aW,cO,rfl,h⟩
 have h:=h.2 hc3
 refine wpE_join (fun ρ w=>∃x4:Bool,Has ρ [(0,(vp r1)),(1,(vi who1)),(2,(vi body1)),(6,(vp (some p1))),(7,(vs r2)),(8,(vi r3)),(62,(vb x4))]∧m_B_j4 r1 who1 body1 p1 r2 r3 x4 w K) ?_ ?_
 rintro ρ w ⟨x4,hH,h⟩
 unfold m_B_j4 at h
 refine wpE_has hH ?_
 refine wpE_cond (t:=x4) (by kernel_rfl) (fun hc4=>?_) (fun hc4=>?_)
 have h:=h.1 hc4
 refine eg (q0 (vp r1) (q0 (vi body1) ?_))
 refine sc call60 (h.mono ?_)
 rintro e w9 ⟨r6,r7,rfl,h⟩
 refine ⟨_,rfl,?_⟩
 refine q0 (.tuple #[(vu r6),(vs r7)]) (q0 (vu r6) (q0 (vs r7) (q0 (vu r6) (q0 (vs r7) (ln (eg (q0 (vi who1) (q0 (vu r6) (q0 (vs r7) ?_)))))))))
 refine q0 (.agg #[(vi 2),(vi who1),(vu r6),(vs r7),(vb false)]) ?_
 obtain ⟨hp4,h⟩:=h
 refine ss (xo p1 [(vi 2),(vi who1),(vu r6),(vs r7),(vb false)] (sizeOf42 _) hp4) ?_
 intro w10 hn4
 have h:=h w10 hn4
 refine ln (er (bl_r (th_r ?_)))
 obtain ⟨bV,bW,dS,bX,dT,hv4,h⟩:=h
 refine resG (.inl rfl) (vs:=[(.agg #[(vi bV),(vi bW),(vu dS),(vs bX),(vb dT)])]) (v:=(.agg #[(vi bV),(vi bW),(vu dS),(vs bX),(vb dT)])) results50 ⟨(rva (isAgg42 _) (sizeOf42 _) hv4),trivial⟩ (by kernel_rfl) ?_
 exact ⟨bV,bW,dS,bX,dT,rfl,h⟩
 have h:=h.2 hc4
 refine wpE_join (fun ρ w=>∃x5:Bool,Has ρ [(0,(vp r1)),(1,(vi who1)),(6,(vp (some p1))),(8,(vi r3)),(79,(vb x5))]∧m_B_j5 r1 who1 p1 r3 x5 w K) ?_ ?_
 rintro ρ w ⟨x5,hH,h⟩
 unfold m_B_j5 at h
 refine wpE_has hH ?_
 refine wpE_cond (t:=x5) (by kernel_rfl) (fun hc5=>?_) (fun hc5=>?_)
 have h:=h.1 hc5
 refine eg (q0 (vp r1) (q0 (vi r3) ?_))
 refine sc call53 (h.mono ?_)
 rintro e w11 ⟨bR,bS,cW,cX,bG,fZ,gA,rfl,h⟩
 refine ⟨_,rfl,?_⟩
 refine sn (O:=(.cells #[(vi 0),(vi 0),(vi 0),(vu 0),ve,(vi 0),(vi 0)] 80)) (x_alloc (zeroValue80 _) rfl) ?_
 intro p2 w12 hn52
 have h:=h p2 w12 hn52
 obtain ⟨hp5,h⟩:=h
 refine ss (xo p2 [(vi bR),(vi bS),(vi cW),(vu cX),(vs bG),(vi fZ),(vi gA)] (sizeOf80 _) hp5) ?_
 intro w13 hn5
 have h:=h w13 hn5
 refine ln ?_
 refine wpE_join (fun ρ w=>∃a1 a2:Addr,Has ρ [(0,(vp r1)),(1,(vi who1)),(6,(vp (some p1))),(14,(vp (some a1))),(15,(vp (some a2)))]∧m_B_j6 r1 who1 p1 a1 a2 w K) ?_ ?_
 rintro ρ w ⟨a1,a2,hH,h⟩
 unfold m_B_j6 at h
 refine wpE_has hH ?_
 refine wpE_join (fun ρ w=>Has ρ [(1,(vi who1)),(6,(vp (some p1))),(14,(vp (some a1))),(15,(vp (some a2)))]∧m_B_j7 who1 p1 a1 a2 w K) ?_ ?_
 rintro ρ w ⟨hH,h⟩
 unfold m_B_j7 at h
 refine wpE_has hH ?_
 refine eg (q0 (vi who1) (q0 (vp (some (a1.add 2))) ?_))
 obtain ⟨v1,hv10,h⟩:=h
 refine q2 (vu v1) (xl (isAgg22 _) hv10) (q0 (vp (some (a1.add 3))) ?_)
 obtain ⟨v2,hv9,h⟩:=h
 refine q2 (vs v2) (xl (isAgg9 _) hv9) (q0 (vp (some (a1.add 4))) ?_)
 obtain ⟨v3,hv8,h⟩:=h
 refine q2 (vb v3) (xl (isAgg4 _) hv8) (q0 (vb v3) ?_)
 rcases bte v3 with hg1 | hg1
 have h:=h.1 hg1
 refine sk (yD 135 hg1) (sk (yD 135 hg1) (q2 (vb true) (xT hg1) (q0 (.agg #[(vi 4),(vi who1),(vu v1),(vs v2),(vb true)]) ?_)))
 obtain ⟨hp6,h⟩:=h
 refine ss (xo p1 [(vi 4),(vi who1),(vu v1),(vs v2),(vb true)] (sizeOf42 _) hp6) ?_
 intro w14 hn6
 have h:=h w14 hn6
 refine ln (er (bl_r (th_r ?_)))
 obtain ⟨bY,bZ,dM,cA,dN,hv5,h⟩:=h
 refine resG (.inl rfl) (vs:=[(.agg #[(vi bY),(vi bZ),(vu dM),(vs cA),(vb dN)])]) (v:=(.agg #[(vi bY),(vi bZ),(vu dM),(vs cA),(vb dN)])) results50 ⟨(rva (isAgg42 _) (sizeOf42 _) hv5),trivial⟩ (by kernel_rfl) ?_
 exact ⟨bY,bZ,dM,cA,dN,rfl,h⟩
 have h:=h.2 hg1
 refine q1 (vp (some (a2.add 4))) (wy 135 hg1) ?_
 obtain ⟨v4,hv7,h⟩:=h
 refine stp (v:=(vb v4)) (wy 135 hg1) (xl (isAgg4 _) hv7) (q2 (vb v4) (xF hg1) (q0 (.agg #[(vi 4),(vi who1),(vu v1),(vs v2),(vb v4)]) ?_))
 obtain ⟨hp7,h⟩:=h
 refine ss (xo p1 [(vi 4),(vi who1),(vu v1),(vs v2),(vb v4)] (sizeOf42 _) hp7) ?_
 intro w15 hn7
 have h:=h w15 hn7
 refine ln (er (bl_r (th_r ?_)))
 obtain ⟨cB,cC,dO,cD,dP,hv6,h⟩:=h
 refine resG (.inl rfl) (vs:=[(.agg #[(vi cB),(vi cC),(vu dO),(vs cD),(vb dP)])]) (v:=(.agg #[(vi cB),(vi cC),(vu dO),(vs cD),(vb dP)])) results50 ⟨(rva (isAgg42 _) (sizeOf42 _) hv6),trivial⟩ (by kernel_rfl) ?_
 exact ⟨cB,cC,dO,cD,dP,rfl,h⟩
 refine rg (q0 (vp r1) (q0 (vp r1) ?_))
 obtain ⟨a3,hp8,h⟩:=h
 refine q2 (vp (some a3)) (xn hp8) (q0 (vp (some (a3.add 1))) ?_)
 obtain ⟨v5,hv17,h⟩:=h
 refine q2 (vb v5) (xl (isAgg4 _) hv17) (q0 (vb v5) ?_)
 refine wpL_join 4 (fun ρ w=>∃x6:Bool,Has ρ [(1,(vi who1)),(6,(vp (some p1))),(14,(vp (some a1))),(15,(vp (some a2))),(97,(vp r1)),(106,(vb x6))]∧m_B_j8 r1 who1 p1 a1 a2 x6 w K) ?_ ?_
 rintro ρ w ⟨x6,hH,h⟩
 unfold m_B_j8 at h
 refine wpL_has hH ?_
 refine q0 (vb x6) ?_
 refine wpL_join 4 (fun ρ w=>∃x7:Bool,Has ρ [(1,(vi who1)),(6,(vp (some p1))),(14,(vp (some a1))),(15,(vp (some a2))),(97,(vp r1)),(111,(vb x7))]∧m_B_j9 r1 who1 p1 a1 a2 x7 w K) ?_ ?_
 rintro ρ w ⟨x7,hH,h⟩
 unfold m_B_j9 at h
 refine wpL_has hH ?_
 refine q0 (vb x7) ?_
 refine wpL_join 6 (fun ρ w=>∃x8:Bool,Has ρ [(1,(vi who1)),(6,(vp (some p1))),(14,(vp (some a1))),(15,(vp (some a2))),(97,(vp r1)),(118,(vb x8))]∧m_B_j10 r1 who1 p1 a1 a2 x8 w K) ?_ ?_
 rintro ρ w ⟨x8,hH,h⟩
 unfold m_B_j10 at h
 refine wpL_has hH ?_
 refine q0 (vb x8) ?_
 rcases bte x8 with hg2 | hg2
 have h:=h.1 hg2
 refine sk (yD 119 hg2) (sk (yD 119 hg2) (sk (yD 119 hg2) (sk (yD 119 hg2) (sk (yD 119 hg2) (q2 (vb true) (xT hg2) ?_)))))
 obtain ⟨a4,hp9,h⟩:=h
 refine q2 (vp (some a4)) (xn hp9) (q0 (vp (some (a4.add 1))) ?_)
 obtain ⟨hp10,h⟩:=h
 refine ss (x_store (a:=(a4.add 1)) (v:=(vb true)) (by kernel_rfl) (by kernel_rfl) rfl (sizeOf4 _) hp10) ?_
 intro w16 hn8
 have h:=h w16 hn8
 refine ln ?_
 exact ⟨hm,h⟩
 have h:=h.2 hg2
 refine q1 (vp (some (a1.add 3))) (wy 119 hg2) ?_
 obtain ⟨v6,hv12,h⟩:=h
 refine stp (v:=(vs v6)) (wy 119 hg2) (xl (isAgg9 _) hv12) (q1 (vp (some (a2.add 3))) (wy 119 hg2) ?_)
 obtain ⟨v7,hv11,h⟩:=h
 refine stp (v:=(vs v7)) (wy 119 hg2) (xl (isAgg9 _) hv11) (stp (v:=(vb (!(decide (v6=v7))))) (wy 119 hg2) (x_strneq (by kernel_rfl) (by kernel_rfl)) (q2 (vb (!(decide (v6=v7)))) (xF hg2) ?_))
 obtain ⟨a5,hp11,h⟩:=h
 refine q2 (vp (some a5)) (xn hp11) (q0 (vp (some (a5.add 1))) ?_)
 obtain ⟨hp12,h⟩:=h
 refine ss (x_store (a:=(a5.add 1)) (v:=(vb (!(decide (v6=v7))))) (by kernel_rfl) (by kernel_rfl) rfl (sizeOf4 _) hp12) ?_
 intro w17 hn9
 have h:=h w17 hn9
 refine ln ?_
 exact ⟨hm,h⟩
 rcases bte x7 with hg3 | hg3
 have h:=h.1 hg3
 refine sk (yD 112 hg3) (sk (yD 112 hg3) (sk (yD 112 hg3) (sk (yD 112 hg3) (sk (yD 112 hg3) (q2 (vb true) (xT hg3) (wpL_nil ?_))))))
 exact ⟨true,hm,h⟩
 have h:=h.2 hg3
 refine q1 (vp (some (a1.add 2))) (wy 112 hg3) ?_
 obtain ⟨v8,hv14,h⟩:=h
 refine stp (v:=(vu v8)) (wy 112 hg3) (xl (isAgg22 _) hv14) (q1 (vp (some (a2.add 2))) (wy 112 hg3) ?_)
 obtain ⟨v9,hv13,h⟩:=h
 refine stp (v:=(vu v9)) (wy 112 hg3) (xl (isAgg22 _) hv13) (q1 (vb (v8 != v9)) (wy 112 hg3) (q2 (vb (v8 != v9)) (xF hg3) (wpL_nil ?_)))
 exact ⟨(v8 != v9),hm,h⟩
 rcases bte x6 with hg4 | hg4
 have h:=h.1 hg4
 refine sk (yD 107 hg4) (sk (yD 107 hg4) (sk (yD 107 hg4) (q2 (vb true) (xT hg4) (wpL_nil ?_))))
 exact ⟨true,hm,h⟩
 have h:=h.2 hg4
 refine q1 (vp (some (a2.add 1))) (wy 107 hg4) ?_
 obtain ⟨v10,hv15,h⟩:=h
 refine stp (v:=(vi v10)) (wy 107 hg4) (xl (isAgg3 _) hv15) (q1 (vb (v10 != 1)) (wy 107 hg4) (q2 (vb (v10 != 1)) (xF hg4) (wpL_nil ?_)))
 exact ⟨(v10 != 1),hm,h⟩
 rcases bte v5 with hg5 | hg5
 have h:=h.1 hg5
 refine sk (yD 102 hg5) (sk (yD 102 hg5) (sk (yD 102 hg5) (q2 (vb true) (xT hg5) (wpL_nil ?_))))
 exact ⟨true,hm,h⟩
 have h:=h.2 hg5
 refine q1 (vp (some (a1.add 1))) (wy 102 hg5) ?_
 obtain ⟨v11,hv16,h⟩:=h
 refine stp (v:=(vi v11)) (wy 102 hg5) (xl (isAgg3 _) hv16) (q1 (vb (v11 != 0)) (wy 102 hg5) (q2 (vb (v11 != 0)) (xF hg5) (wpL_nil ?_)))
 exact ⟨(v11 != 0),hm,h⟩
 obtain ⟨C1,hC,h⟩:=h
 refine wpE_drawnC C1 [3,7,8,9,10,11] [7,10,11] (by kernel_rfl) (by kernel_rfl) (by kernel_rfl) (by kernel_rfl) hC ?_
 intro w18 hw18
 have h:=h w18 hw18
 refine qx 0 (vp r1) Kp0 (qx 1 (vp (some (p2.add 5))) Kp1 (qg 2 ?_))
 obtain ⟨v12,hv19,h⟩:=h
 refine sy (v:=(vi v12)) Kp2 (fun w' hw'=>(xl (isAgg33 _) (hv19 w' hw'))) (qx 4 (vp r1) Kp4 (qx 5 (vp (some (p2.add 6))) Kp5 (qg 6 ?_)))
 obtain ⟨v13,hv18,h⟩:=h
 refine sy (v:=(vi v13)) Kp6 (fun w' hw'=>(xl (isAgg33 _) (hv18 w' hw'))) ?_
 refine lgo3 (k:=3) (k':=8) (k'':=9) (by kernel_rfl) ?_ ?_ ?_
 have h:=h.1
 refine slc Kp3 call51 (h.mono ?_)
 rintro e w19 ⟨bH,bI,bM,bJ,bN,rfl,hC,h⟩
 refine ⟨_,rfl,.inr hC,?_⟩
 refine lgo3 (k:=7) (k':=8) (k'':=9) (by kernel_rfl) ?_ ?_ ?_
 have h:=h.1
 refine slc Kp7 call51 (h.mono ?_)
 rintro e w20 ⟨cT,cU,eA,cV,eB,rfl,h⟩
 refine ⟨_,rfl,.inl (by kernel_rfl),?_⟩
 refine lgo2 (k:=8) (k':=9) (by kernel_rfl) ?_ ?_
 have h:=h.1
 refine sl_new (O:=(.cells #[(vi 0),(vi 0),(vu 0),ve,(vb false)] 42)) (fun p=>.pointer (some p)) Kp8 (want0 rfl) (by kernel_rfl) (x_alloc (zeroValue42 _) rfl) ?_
 intro p3 w21 hn13
 have h:=h p3 w21 hn13
 refine ⟨.inr h.1,?_⟩
 have h:=h.2
 refine lg 9 (sl_new (O:=(.cells #[(vi 0),(vi 0),(vu 0),ve,(vb false)] 42)) (fun p=>.pointer (some p)) Kp9 (want0 rfl) (by kernel_rfl) (x_alloc (zeroValue42 _) rfl) ?_)
 intro p4 w22 hn12
 have h:=h p4 w22 hn12
 refine ⟨.inr h.1,?_⟩
 have h:=h.2
 refine lg 10 ?_
 obtain ⟨hp13,h⟩:=h
 refine sl_set (pickA (S8 (pickS (pickS pickZ)))) (want0 rfl) (by kernel_rfl) (xo p3 [(vi bH),(vi bI),(vu bM),(vs bJ),(vb bN)] (sizeOf42 _) hp13) ?_
 intro w23 hn10
 have h:=h w23 hn10
 refine ⟨.inl (by kernel_rfl),?_⟩
 refine lg 11 ?_
 obtain ⟨hp14,h⟩:=h
 refine sl_set (pickA (S8 (pickS (pickS (pickS pickZ))))) (want0 rfl) (by kernel_rfl) (xo p4 [(vi cT),(vi cU),(vu eA),(vs cV),(vb eB)] (sizeOf42 _) hp14) ?_
 intro w24 hn11
 have h:=h w24 hn11
 refine ⟨.inl (by kernel_rfl),?_⟩
 refine wn (th_n ?_)
 exact ⟨p3,p4,hm,h⟩
 have h:=h.2
 refine sl_new (O:=(.cells #[(vi 0),(vi 0),(vu 0),ve,(vb false)] 42)) (fun p=>.pointer (some p)) Kp9 (want0 rfl) (by kernel_rfl) (x_alloc (zeroValue42 _) rfl) ?_
 intro p5 w25 hn17
 have h:=h p5 w25 hn17
 refine ⟨.inr h.1,?_⟩
 have h:=h.2
 refine lg 8 (sl_new (O:=(.cells #[(vi 0),(vi 0),(vu 0),ve,(vb false)] 42)) (fun p=>.pointer (some p)) Kp8 (want0 rfl) (by kernel_rfl) (x_alloc (zeroValue42 _) rfl) ?_)
 intro p6 w26 hn16
 have h:=h p6 w26 hn16
 refine ⟨.inr h.1,?_⟩
 have h:=h.2
 refine lg 10 ?_
 obtain ⟨hp15,h⟩:=h
 refine sl_set (pickA (S8 (pickS (pickS pickZ)))) (want0 rfl) (by kernel_rfl) (xo p6 [(vi bH),(vi bI),(vu bM),(vs bJ),(vb bN)] (sizeOf42 _) hp15) ?_
 intro w27 hn14
 have h:=h w27 hn14
 refine ⟨.inl (by kernel_rfl),?_⟩
 refine lg 11 ?_
 obtain ⟨hp16,h⟩:=h
 refine sl_set (pickA (S8 (pickS (pickS (pickS pickZ))))) (want0 rfl) (by kernel_rfl) (xo p5 [(vi cT),(vi cU),(vu eA),(vs cV),(vb eB)] (sizeOf42 _) hp16) ?_
 intro w28 hn15
 have h:=h w28 hn15
 refine ⟨.inl (by kernel_rfl),?_⟩
 refine wn (th_n ?_)
 exact ⟨p6,p5,hm,h⟩
 have h:=h.2.1
 refine sl_new (O:=(.cells #[(vi 0),(vi 0),(vu 0),ve,(vb false)] 42)) (fun p=>.pointer (some p)) Kp8 (want0 rfl) (by kernel_rfl) (x_alloc (zeroValue42 _) rfl) ?_
 intro p7 w29 hn24
 have h:=h p7 w29 hn24
 refine ⟨.inr h.1,?_⟩
 have h:=h.2
 refine lgo2 (k:=7) (k':=9) (by kernel_rfl) ?_ ?_
 have h:=h.1
 refine slc Kp7 call51 (h.mono ?_)
 rintro e w30 ⟨dU,dV,fX,dW,fY,rfl,h⟩
 refine ⟨_,rfl,.inl (by kernel_rfl),?_⟩
 refine lg 9 (sl_new (O:=(.cells #[(vi 0),(vi 0),(vu 0),ve,(vb false)] 42)) (fun p=>.pointer (some p)) Kp9 (want0 rfl) (by kernel_rfl) (x_alloc (zeroValue42 _) rfl) ?_)
 intro p8 w31 hn20
 have h:=h p8 w31 hn20
 refine ⟨.inr h.1,?_⟩
 have h:=h.2
 refine lg 10 ?_
 obtain ⟨hp17,h⟩:=h
 refine sl_set (pickA (S8 (pickS (pickS pickZ)))) (want0 rfl) (by kernel_rfl) (xo p7 [(vi bH),(vi bI),(vu bM),(vs bJ),(vb bN)] (sizeOf42 _) hp17) ?_
 intro w32 hn18
 have h:=h w32 hn18
 refine ⟨.inl (by kernel_rfl),?_⟩
 refine lg 11 ?_
 obtain ⟨hp18,h⟩:=h
 refine sl_set (pickA (S8 (pickS (pickS (pickS pickZ))))) (want0 rfl) (by kernel_rfl) (xo p8 [(vi dU),(vi dV),(vu fX),(vs dW),(vb fY)] (sizeOf42 _) hp18) ?_
 intro w33 hn19
 have h:=h w33 hn19
 refine ⟨.inl (by kernel_rfl),?_⟩
 refine wn (th_n ?_)
 exact ⟨p7,p8,hm,h⟩
 have h:=h.2
 refine sl_new (O:=(.cells #[(vi 0),(vi 0),(vu 0),ve,(vb false)] 42)) (fun p=>.pointer (some p)) Kp9 (want0 rfl) (by kernel_rfl) (x_alloc (zeroValue42 _) rfl) ?_
 intro p9 w34 hn23
 have h:=h p9 w34 hn23
 refine ⟨.inr h.1,?_⟩
 have h:=h.2
 refine lg 7 ?_
 refine slc Kp7 call51 (h.mono ?_)
 rintro e w35 ⟨eI,eJ,kY,eK,kZ,rfl,h⟩
 refine ⟨_,rfl,.inl (by kernel_rfl),?_⟩
 refine lg 10 ?_
 obtain ⟨hp19,h⟩:=h
 refine sl_set (pickA (S8 (pickS (pickS pickZ)))) (want0 rfl) (by kernel_rfl) (xo p7 [(vi bH),(vi bI),(vu bM),(vs bJ),(vb bN)] (sizeOf42 _) hp19) ?_
 intro w36 hn21
 have h:=h w36 hn21
 refine ⟨.inl (by kernel_rfl),?_⟩
 refine lg 11 ?_
 obtain ⟨hp20,h⟩:=h
 refine sl_set (pickA (S8 (pickS (pickS (pickS pickZ))))) (want0 rfl) (by kernel_rfl) (xo p9 [(vi eI),(vi eJ),(vu kY),(vs eK),(vb kZ)] (sizeOf42 _) hp20) ?_
 intro w37 hn22
 have h:=h w37 hn22
 refine ⟨.inl (by kernel_rfl),?_⟩
 refine wn (th_n ?_)
 exact ⟨p7,p9,hm,h⟩
 have h:=h.2.2
 refine sl_new (O:=(.cells #[(vi 0),(vi 0),(vu 0),ve,(vb false)] 42)) (fun p=>.pointer (some p)) Kp9 (want0 rfl) (by kernel_rfl) (x_alloc (zeroValue42 _) rfl) ?_
 intro p10 w38 hn31
 have h:=h p10 w38 hn31
 refine ⟨.inr h.1,?_⟩
 have h:=h.2
 refine lgo2 (k:=7) (k':=8) (by kernel_rfl) ?_ ?_
 have h:=h.1
 refine slc Kp7 call51 (h.mono ?_)
 rintro e w39 ⟨dX,dY,lA,dZ,lB,rfl,h⟩
 refine ⟨_,rfl,.inl (by kernel_rfl),?_⟩
 refine lg 8 (sl_new (O:=(.cells #[(vi 0),(vi 0),(vu 0),ve,(vb false)] 42)) (fun p=>.pointer (some p)) Kp8 (want0 rfl) (by kernel_rfl) (x_alloc (zeroValue42 _) rfl) ?_)
 intro p11 w40 hn27
 have h:=h p11 w40 hn27
 refine ⟨.inr h.1,?_⟩
 have h:=h.2
 refine lg 10 ?_
 obtain ⟨hp21,h⟩:=h
 refine sl_set (pickA (S8 (pickS (pickS pickZ)))) (want0 rfl) (by kernel_rfl) (xo p11 [(vi bH),(vi bI),(vu bM),(vs bJ),(vb bN)] (sizeOf42 _) hp21) ?_
 intro w41 hn25
 have h:=h w41 hn25
 refine ⟨.inl (by kernel_rfl),?_⟩
 refine lg 11 ?_
 obtain ⟨hp22,h⟩:=h
 refine sl_set (pickA (S8 (pickS (pickS (pickS pickZ))))) (want0 rfl) (by kernel_rfl) (xo p10 [(vi dX),(vi dY),(vu lA),(vs dZ),(vb lB)] (sizeOf42 _) hp22) ?_
 intro w42 hn26
 have h:=h w42 hn26
 refine ⟨.inl (by kernel_rfl),?_⟩
 refine wn (th_n ?_)
 exact ⟨p11,p10,hm,h⟩
 have h:=h.2
 refine sl_new (O:=(.cells #[(vi 0),(vi 0),(vu 0),ve,(vb false)] 42)) (fun p=>.pointer (some p)) Kp8 (want0 rfl) (by kernel_rfl) (x_alloc (zeroValue42 _) rfl) ?_
 intro p12 w43 hn30
 have h:=h p12 w43 hn30
 refine ⟨.inr h.1,?_⟩
 have h:=h.2
 refine lg 7 ?_
 refine slc Kp7 call51 (h.mono ?_)
 rintro e w44 ⟨eL,eM,lC,eN,lD,rfl,h⟩
 refine ⟨_,rfl,.inl (by kernel_rfl),?_⟩
 refine lg 10 ?_
 obtain ⟨hp23,h⟩:=h
 refine sl_set (pickA (S8 (pickS (pickS pickZ)))) (want0 rfl) (by kernel_rfl) (xo p12 [(vi bH),(vi bI),(vu bM),(vs bJ),(vb bN)] (sizeOf42 _) hp23) ?_
 intro w45 hn28
 have h:=h w45 hn28
 refine ⟨.inl (by kernel_rfl),?_⟩
 refine lg 11 ?_
 obtain ⟨hp24,h⟩:=h
 refine sl_set (pickA (S8 (pickS (pickS (pickS pickZ))))) (want0 rfl) (by kernel_rfl) (xo p10 [(vi eL),(vi eM),(vu lC),(vs eN),(vb lD)] (sizeOf42 _) hp24) ?_
 intro w46 hn29
 have h:=h w46 hn29
 refine ⟨.inl (by kernel_rfl),?_⟩
 refine wn (th_n ?_)
 exact ⟨p12,p10,hm,h⟩
 have h:=h.2.1
 refine sl_new (O:=(.cells #[(vi 0),(vi 0),(vu 0),ve,(vb false)] 42)) (fun p=>.pointer (some p)) Kp8 (want0 rfl) (by kernel_rfl) (x_alloc (zeroValue42 _) rfl) ?_
 intro p13 w47 hn41
 have h:=h p13 w47 hn41
 refine ⟨.inr h.1,?_⟩
 have h:=h.2
 refine lgo2 (k:=3) (k':=9) (by kernel_rfl) ?_ ?_
 have h:=h.1
 refine slc Kp3 call51 (h.mono ?_)
 rintro e w48 ⟨eC,eD,iN,eE,iO,rfl,hC,h⟩
 refine ⟨_,rfl,.inr hC,?_⟩
 refine lgo2 (k:=7) (k':=9) (by kernel_rfl) ?_ ?_
 have h:=h.1
 refine slc Kp7 call51 (h.mono ?_)
 rintro e w49 ⟨fF,fG,lE,fH,lF,rfl,h⟩
 refine ⟨_,rfl,.inl (by kernel_rfl),?_⟩
 refine lg 9 (sl_new (O:=(.cells #[(vi 0),(vi 0),(vu 0),ve,(vb false)] 42)) (fun p=>.pointer (some p)) Kp9 (want0 rfl) (by kernel_rfl) (x_alloc (zeroValue42 _) rfl) ?_)
 intro p14 w50 hn34
 have h:=h p14 w50 hn34
 refine ⟨.inr h.1,?_⟩
 have h:=h.2
 refine lg 10 ?_
 obtain ⟨hp25,h⟩:=h
 refine sl_set (pickA (S8 (pickS (pickS pickZ)))) (want0 rfl) (by kernel_rfl) (xo p13 [(vi eC),(vi eD),(vu iN),(vs eE),(vb iO)] (sizeOf42 _) hp25) ?_
 intro w51 hn32
 have h:=h w51 hn32
 refine ⟨.inl (by kernel_rfl),?_⟩
 refine lg 11 ?_
 obtain ⟨hp26,h⟩:=h
 refine sl_set (pickA (S8 (pickS (pickS (pickS pickZ))))) (want0 rfl) (by kernel_rfl) (xo p14 [(vi fF),(vi fG),(vu lE),(vs fH),(vb lF)] (sizeOf42 _) hp26) ?_
 intro w52 hn33
 have h:=h w52 hn33
 refine ⟨.inl (by kernel_rfl),?_⟩
 refine wn (th_n ?_)
 exact ⟨p13,p14,hm,h⟩
 have h:=h.2
 refine sl_new (O:=(.cells #[(vi 0),(vi 0),(vu 0),ve,(vb false)] 42)) (fun p=>.pointer (some p)) Kp9 (want0 rfl) (by kernel_rfl) (x_alloc (zeroValue42 _) rfl) ?_
 intro p15 w53 hn37
 have h:=h p15 w53 hn37
 refine ⟨.inr h.1,?_⟩
 have h:=h.2
 refine lg 7 ?_
 refine slc Kp7 call51 (h.mono ?_)
 rintro e w54 ⟨fI,fJ,lG,fK,lH,rfl,h⟩
 refine ⟨_,rfl,.inl (by kernel_rfl),?_⟩
 refine lg 10 ?_
 obtain ⟨hp27,h⟩:=h
 refine sl_set (pickA (S8 (pickS (pickS pickZ)))) (want0 rfl) (by kernel_rfl) (xo p13 [(vi eC),(vi eD),(vu iN),(vs eE),(vb iO)] (sizeOf42 _) hp27) ?_
 intro w55 hn35
 have h:=h w55 hn35
 refine ⟨.inl (by kernel_rfl),?_⟩
 refine lg 11 ?_
 obtain ⟨hp28,h⟩:=h
 refine sl_set (pickA (S8 (pickS (pickS (pickS pickZ))))) (want0 rfl) (by kernel_rfl) (xo p15 [(vi fI),(vi fJ),(vu lG),(vs fK),(vb lH)] (sizeOf42 _) hp28) ?_
 intro w56 hn36
 have h:=h w56 hn36
 refine ⟨.inl (by kernel_rfl),?_⟩
 refine wn (th_n ?_)
 exact ⟨p13,p15,hm,h⟩
 have h:=h.2
 refine sl_new (O:=(.cells #[(vi 0),(vi 0),(vu 0),ve,(vb false)] 42)) (fun p=>.pointer (some p)) Kp9 (want0 rfl) (by kernel_rfl) (x_alloc (zeroValue42 _) rfl) ?_
 intro p16 w57 hn40
 have h:=h p16 w57 hn40
 refine ⟨.inr h.1,?_⟩
 have h:=h.2
 refine lg 3 ?_
 refine slc Kp3 call51 (h.mono ?_)
 rintro e w58 ⟨eO,eP,lI,eQ,lJ,rfl,hC,h⟩
 refine ⟨_,rfl,.inr hC,?_⟩
 refine lg 7 ?_
 refine slc Kp7 call51 (h.mono ?_)
 rintro e w59 ⟨fL,fM,lK,fN,lL,rfl,h⟩
 refine ⟨_,rfl,.inl (by kernel_rfl),?_⟩
 refine lg 10 ?_
 obtain ⟨hp29,h⟩:=h
 refine sl_set (pickA (S8 (pickS (pickS pickZ)))) (want0 rfl) (by kernel_rfl) (xo p13 [(vi eO),(vi eP),(vu lI),(vs eQ),(vb lJ)] (sizeOf42 _) hp29) ?_
 intro w60 hn38
 have h:=h w60 hn38
 refine ⟨.inl (by kernel_rfl),?_⟩
 refine lg 11 ?_
 obtain ⟨hp30,h⟩:=h
 refine sl_set (pickA (S8 (pickS (pickS (pickS pickZ))))) (want0 rfl) (by kernel_rfl) (xo p16 [(vi fL),(vi fM),(vu lK),(vs fN),(vb lL)] (sizeOf42 _) hp30) ?_
 intro w61 hn39
 have h:=h w61 hn39
 refine ⟨.inl (by kernel_rfl),?_⟩
 refine wn (th_n ?_)
 exact ⟨p13,p16,hm,h⟩
 have h:=h.2.2
 refine sl_new (O:=(.cells #[(vi 0),(vi 0),(vu 0),ve,(vb false)] 42)) (fun p=>.pointer (some p)) Kp9 (want0 rfl) (by kernel_rfl) (x_alloc (zeroValue42 _) rfl) ?_
 intro p17 w62 hn51
 have h:=h p17 w62 hn51
 refine ⟨.inr h.1,?_⟩
 have h:=h.2
 refine lgo2 (k:=3) (k':=8) (by kernel_rfl) ?_ ?_
 have h:=h.1
 refine slc Kp3 call51 (h.mono ?_)
 rintro e w63 ⟨eF,eG,iP,eH,iQ,rfl,hC,h⟩
 refine ⟨_,rfl,.inr hC,?_⟩
 refine lgo2 (k:=7) (k':=8) (by kernel_rfl) ?_ ?_
 have h:=h.1
 refine slc Kp7 call51 (h.mono ?_)
 rintro e w64 ⟨fO,fP,lM,fQ,lN,rfl,h⟩
 refine ⟨_,rfl,.inl (by kernel_rfl),?_⟩
 refine lg 8 (sl_new (O:=(.cells #[(vi 0),(vi 0),(vu 0),ve,(vb false)] 42)) (fun p=>.pointer (some p)) Kp8 (want0 rfl) (by kernel_rfl) (x_alloc (zeroValue42 _) rfl) ?_)
 intro p18 w65 hn44
 have h:=h p18 w65 hn44
 refine ⟨.inr h.1,?_⟩
 have h:=h.2
 refine lg 10 ?_
 obtain ⟨hp31,h⟩:=h
 refine sl_set (pickA (S8 (pickS (pickS pickZ)))) (want0 rfl) (by kernel_rfl) (xo p18 [(vi eF),(vi eG),(vu iP),(vs eH),(vb iQ)] (sizeOf42 _) hp31) ?_
 intro w66 hn42
 have h:=h w66 hn42
 refine ⟨.inl (by kernel_rfl),?_⟩
 refine lg 11 ?_
 obtain ⟨hp32,h⟩:=h
 refine sl_set (pickA (S8 (pickS (pickS (pickS pickZ))))) (want0 rfl) (by kernel_rfl) (xo p17 [(vi fO),(vi fP),(vu lM),(vs fQ),(vb lN)] (sizeOf42 _) hp32) ?_
 intro w67 hn43
 have h:=h w67 hn43
 refine ⟨.inl (by kernel_rfl),?_⟩
 refine wn (th_n ?_)
 exact ⟨p18,p17,hm,h⟩
 have h:=h.2
 refine sl_new (O:=(.cells #[(vi 0),(vi 0),(vu 0),ve,(vb false)] 42)) (fun p=>.pointer (some p)) Kp8 (want0 rfl) (by kernel_rfl) (x_alloc (zeroValue42 _) rfl) ?_
 intro p19 w68 hn47
 have h:=h p19 w68 hn47
 refine ⟨.inr h.1,?_⟩
 have h:=h.2
 refine lg 7 ?_
 refine slc Kp7 call51 (h.mono ?_)
 rintro e w69 ⟨eR,eS,lO,eT,lP,rfl,h⟩
 refine ⟨_,rfl,.inl (by kernel_rfl),?_⟩
 refine lg 10 ?_
 obtain ⟨hp33,h⟩:=h
 refine sl_set (pickA (S8 (pickS (pickS pickZ)))) (want0 rfl) (by kernel_rfl) (xo p19 [(vi eF),(vi eG),(vu iP),(vs eH),(vb iQ)] (sizeOf42 _) hp33) ?_
 intro w70 hn45
 have h:=h w70 hn45
 refine ⟨.inl (by kernel_rfl),?_⟩
 refine lg 11 ?_
 obtain ⟨hp34,h⟩:=h
 refine sl_set (pickA (S8 (pickS (pickS (pickS pickZ))))) (want0 rfl) (by kernel_rfl) (xo p17 [(vi eR),(vi eS),(vu lO),(vs eT),(vb lP)] (sizeOf42 _) hp34) ?_
 intro w71 hn46
 have h:=h w71 hn46
 refine ⟨.inl (by kernel_rfl),?_⟩
 refine wn (th_n ?_)
 exact ⟨p19,p17,hm,h⟩
 have h:=h.2
 refine sl_new (O:=(.cells #[(vi 0),(vi 0),(vu 0),ve,(vb false)] 42)) (fun p=>.pointer (some p)) Kp8 (want0 rfl) (by kernel_rfl) (x_alloc (zeroValue42 _) rfl) ?_
 intro p20 w72 hn50
 have h:=h p20 w72 hn50
 refine ⟨.inr h.1,?_⟩
 have h:=h.2
 refine lg 3 ?_
 refine slc Kp3 call51 (h.mono ?_)
 rintro e w73 ⟨eU,eV,lQ,eW,lR,rfl,hC,h⟩
 refine ⟨_,rfl,.inr hC,?_⟩
 refine lg 7 ?_
 refine slc Kp7 call51 (h.mono ?_)
 rintro e w74 ⟨fR,fS,lS,fT,lT,rfl,h⟩
 refine ⟨_,rfl,.inl (by kernel_rfl),?_⟩
 refine lg 10 ?_
 obtain ⟨hp35,h⟩:=h
 refine sl_set (pickA (S8 (pickS (pickS pickZ)))) (want0 rfl) (by kernel_rfl) (xo p20 [(vi eU),(vi eV),(vu lQ),(vs eW),(vb lR)] (sizeOf42 _) hp35) ?_
 intro w75 hn48
 have h:=h w75 hn48
 refine ⟨.inl (by kernel_rfl),?_⟩
 refine lg 11 ?_
 obtain ⟨hp36,h⟩:=h
 refine sl_set (pickA (S8 (pickS (pickS (pickS pickZ))))) (want0 rfl) (by kernel_rfl) (xo p17 [(vi fR),(vi fS),(vu lS),(vs fT),(vb lT)] (sizeOf42 _) hp36) ?_
 intro w76 hn49
 have h:=h w76 hn49
 refine ⟨.inl (by kernel_rfl),?_⟩
 refine wn (th_n ?_)
 exact ⟨p20,p17,hm,h⟩
 have h:=h.2 hc5
 refine wpE_skip (bl_n (th_n (eg (q0 (vp r1) ?_))))
 obtain ⟨a6,hp37,h⟩:=h
 refine q2 (vp (some a6)) (xn hp37) (q0 (vp (some (a6.add 1))) ?_)
 obtain ⟨hp38,h⟩:=h
 refine ss (x_store (a:=(a6.add 1)) (v:=(vb true)) (by kernel_rfl) (by kernel_rfl) rfl (sizeOf4 _) hp38) ?_
 intro w77 hn53
 have h:=h w77 hn53
 refine ln (eg (q0 (.agg #[(vi 0),(vi 0),(vu 0),ve,(vb false)]) ?_))
 obtain ⟨hp39,h⟩:=h
 refine ss (xo p1 [(vi 0),(vi 0),(vu 0),ve,(vb false)] (sizeOf42 _) hp39) ?_
 intro w78 hn54
 have h:=h w78 hn54
 refine ln (er ?_)
 obtain ⟨cE,cF,dQ,cG,dR,hv20,h⟩:=h
 refine resG (.inl rfl) (vs:=[(.agg #[(vi cE),(vi cF),(vu dQ),(vs cG),(vb dR)])]) (v:=(.agg #[(vi cE),(vi cF),(vu dQ),(vs cG),(vb dR)])) results50 ⟨(rva (isAgg42 _) (sizeOf42 _) hv20),trivial⟩ (by kernel_rfl) ?_
 exact ⟨cE,cF,dQ,cG,dR,rfl,h⟩
 refine rg (q0 (vs r2) (q2 (vb (decide (r2=(⟨#[114,101,115,111,108,118,101]⟩:ByteArray)))) (x_streq (by kernel_rfl) (by kernel_rfl)) (q0 (vb (decide (r2=(⟨#[114,101,115,111,108,118,101]⟩:ByteArray)))) ?_)))
 rcases bte (decide (r2=(⟨#[114,101,115,111,108,118,101]⟩:ByteArray))) with hg6 | hg6
 have h:=h.1 hg6
 refine q1 (vi who1) (wy 82 hg6) (q1 (vb (decide (who1≤1))) (wy 82 hg6) (q2 (vb (decide (who1≤1))) (xT hg6) (q0 (vb (decide (who1≤1))) (ln ?_))))
 exact ⟨(decide (who1≤1)),hm,h⟩
 have h:=h.2 hg6
 refine sk (yD 82 hg6) (sk (yD 82 hg6) (q2 (vb false) (xF hg6) (q0 (vb false) (ln ?_))))
 exact ⟨false,hm,h⟩
 refine rg (q0 (vs r2) (q2 (vb (decide (r2=(⟨#[100,101,97,108]⟩:ByteArray)))) (x_streq (by kernel_rfl) (by kernel_rfl)) (q0 (vb (decide (r2=(⟨#[100,101,97,108]⟩:ByteArray)))) ?_)))
 rcases bte (decide (r2=(⟨#[100,101,97,108]⟩:ByteArray))) with hg7 | hg7
 have h:=h.1 hg7
 refine q1 (vi who1) (wy 65 hg7) (q1 (vb (decide (who1≤1))) (wy 65 hg7) (q2 (vb (decide (who1≤1))) (xT hg7) (q0 (vb (decide (who1≤1))) (ln ?_))))
 exact ⟨(decide (who1≤1)),hm,h⟩
 have h:=h.2 hg7
 refine sk (yD 65 hg7) (sk (yD 65 hg7) (q2 (vb false) (xF hg7) (q0 (vb false) (ln ?_))))
 exact ⟨false,hm,h⟩
 refine rg (q0 (vs r2) (q2 (vb (decide (r2=(⟨#[105,110,115,116,101,97,100]⟩:ByteArray)))) (x_streq (by kernel_rfl) (by kernel_rfl)) (q0 (vb (decide (r2=(⟨#[105,110,115,116,101,97,100]⟩:ByteArray)))) ?_)))
 rcases bte (decide (r2=(⟨#[105,110,115,116,101,97,100]⟩:ByteArray))) with hg8 | hg8
 have h:=h.1 hg8
 refine q1 (vi who1) (wy 49 hg8) (q1 (vb (who1 == 2)) (wy 49 hg8) (q2 (vb (who1 == 2)) (xT hg8) (q0 (vb (who1 == 2)) (ln ?_))))
 exact ⟨(who1 == 2),hm,h⟩
 have h:=h.2 hg8
 refine sk (yD 49 hg8) (sk (yD 49 hg8) (q2 (vb false) (xF hg8) (q0 (vb false) (ln ?_))))
 exact ⟨false,hm,h⟩
 refine rg (q0 (vs r2) (q2 (vb (decide (r2=(⟨#[97,98,111,114,116,101,100]⟩:ByteArray)))) (x_streq (by kernel_rfl) (by kernel_rfl)) (q0 (vb (decide (r2=(⟨#[97,98,111,114,116,101,100]⟩:ByteArray)))) ?_)))
 rcases bte (decide (r2=(⟨#[97,98,111,114,116,101,100]⟩:ByteArray))) with hg9 | hg9
 have h:=h.1 hg9
 refine q1 (vi who1) (wy 37 hg9) (q1 (vb (who1 == 2)) (wy 37 hg9) (q2 (vb (who1 == 2)) (xT hg9) (q0 (vb (who1 == 2)) (ln ?_))))
 exact ⟨(who1 == 2),hm,h⟩
 have h:=h.2 hg9
 refine sk (yD 37 hg9) (sk (yD 37 hg9) (q2 (vb false) (xF hg9) (q0 (vb false) (ln ?_))))
 exact ⟨false,hm,h⟩
 refine rg (q0 (vs r2) (q2 (vb (decide (r2=(⟨#[97,98,111,114,116]⟩:ByteArray)))) (x_streq (by kernel_rfl) (by kernel_rfl)) (q0 (vb (decide (r2=(⟨#[97,98,111,114,116]⟩:ByteArray)))) ?_)))
 rcases bte (decide (r2=(⟨#[97,98,111,114,116]⟩:ByteArray))) with hg10 | hg10
 have h:=h.1 hg10
 refine q1 (vi who1) (wy 25 hg10) (q1 (vb (who1 == 0)) (wy 25 hg10) (q2 (vb (who1 == 0)) (xT hg10) (q0 (vb (who1 == 0)) (ln ?_))))
 exact ⟨(who1 == 0),hm,h⟩
 have h:=h.2 hg10
 refine sk (yD 25 hg10) (sk (yD 25 hg10) (q2 (vb false) (xF hg10) (q0 (vb false) (ln ?_))))
 exact ⟨false,hm,h⟩
def m_G_j1 (r1:Option Addr) (p1 p2:Addr) (w:World) (K:Int→Int→Int→ByteArray→Bool→WP):Prop :=
 ∃v2:Int,w.cell? (p2.add 5)=some (vi v2) ∧
 Calls prog 60 #[(vp r1),(vi v2)] w (fun e w5=>∃r3:Int,∃r4:ByteArray,e=.returned (.tuple #[(vu r3),(vs r4)])∧
  ∃v3:Int,w5.cell? (p2.add 1)=some (vi v3) ∧
  ∃v4:Int,w5.cell? p2=some (vi v4) ∧
  (∀j,j<5→CanW w5 (p1.add j))∧∀w6:World,w6=storeRow w5 p1 [(vi 1),(vi v3),(vu r3),(vs r4),(vb (v4 == 9))] →
  ∃aA aB cP:Int,∃aC:ByteArray,∃cQ:Bool,Row w6 p1 [(vi aA),(vi aB),(vu cP),(vs aC),(vb cQ)] ∧
  K aA aB cP aC cQ w6)
def m_G_j3 (r1:Option Addr) (p1 p2:Addr) (x2:Bool) (w:World) (K:Int→Int→Int→ByteArray→Bool→WP):Prop :=
 Br x2
  (∃a2:Addr,r1=some a2 ∧
  CanW w (a2.add 1)∧∀w7:World,w7=w.setCell (a2.add 1) (vb true) →
  (∀j,j<5→CanW w7 (p1.add j))∧∀w8:World,w8=storeRow w7 p1 [(vi 0),(vi 0),(vu 0),ve,(vb false)] →
  ∃aO aP cR:Int,∃aQ:ByteArray,∃cS:Bool,Row w8 p1 [(vi aO),(vi aP),(vu cR),(vs aQ),(vb cS)] ∧
  K aO aP cR aQ cS w8)
  (∃v6:Int,w.cell? (p2.add 2)=some (vi v6) ∧
  ∃v7:Int,w.cell? (p2.add 1)=some (vi v7) ∧
  Br (v6 != (q6.wrap (1 - v7)))
   (∃a3:Addr,r1=some a3 ∧
   CanW w (a3.add 1)∧∀w9:World,w9=w.setCell (a3.add 1) (vb true) →
   (∀j,j<5→CanW w9 (p1.add j))∧∀w10:World,w10=storeRow w9 p1 [(vi 0),(vi 0),(vu 0),ve,(vb false)] →
   ∃aU aV cN:Int,∃aW:ByteArray,∃cO:Bool,Row w10 p1 [(vi aU),(vi aV),(vu cN),(vs aW),(vb cO)] ∧
   K aU aV cN aW cO w10)
   (m_G_j1 r1 p1 p2 w K))
def m_G_j2 (r1:Option Addr) (p1 p2:Addr) (x1:Bool) (w:World) (K:Int→Int→Int→ByteArray→Bool→WP):Prop :=
 Br x1
  (m_G_j3 r1 p1 p2 true w K)
  (∃v8:Int,w.cell? (p2.add 1)=some (vi v8) ∧
  m_G_j3 r1 p1 p2 (decide (v8>1)) w K)
def m_G (r1:Option Addr) (t1:Int) (w:World) (K:Int→Int→Int→ByteArray→Bool→WP):Prop :=
 ∀(p1:Addr) (w1:World),New w (.cells #[(vi 0),(vi 0),(vu 0),ve,(vb false)] 42) p1 w1 →
 ∃a1:Addr,r1=some a1 ∧
 ∃v1:Option Addr,w1.cell? a1=some (vp v1) ∧
 Calls prog 49 #[(vp v1),(vi t1)] w1 (fun e w2=>∃aE aF:Int,∃aG aD:Int,∃aH:ByteArray,∃aY aZ:Int,∃r2:Bool,e=.returned (.tuple #[(.agg #[(vi aE),(vi aF),(vi aG),(vu aD),(vs aH),(vi aY),(vi aZ)]),(vb r2)])∧
  ∀(p2:Addr) (w3:World),New w2 (.cells #[(vi 0),(vi 0),(vi 0),(vu 0),ve,(vi 0),(vi 0)] 80) p2 w3 →
  (∀j,j<7→CanW w3 (p2.add j))∧∀w4:World,w4=storeRow w3 p2 [(vi aE),(vi aF),(vi aG),(vu aD),(vs aH),(vi aY),(vi aZ)] →
  ∃v5:Int,w4.cell? p2=some (vi v5) ∧
  Br (v5 != 8)
   (∃v9:Int,w4.cell? p2=some (vi v9) ∧
   m_G_j2 r1 p1 p2 (v9 != 9) w4 K)
   (m_G_j2 r1 p1 p2 false w4 K))
theorem w_G (r1 : Option Addr) (t1 : Int) (w : World) (K : Int → Int → Int → ByteArray → Bool → WP) (h : m_G r1 t1 w K) :
  Calls prog 51 #[(vp r1),(vi t1)] w (fun e w'=>∃bB bC bM:Int,∃aX:ByteArray,∃bN:Bool,e=.returned (.agg #[(vi bB),(vi bC),(vu bM),(vs aX),(vb bN)])∧K bB bC bM aX bN w'):=by
 unfold m_G at h
 refine cw (args:=[(vp r1),(vi t1)]) func51 ntmps51 (eg (sn (O:=(.cells #[(vi 0),(vi 0),(vu 0),ve,(vb false)] 42)) (x_alloc (zeroValue42 _) rfl) ?_))
 intro p1 w1 hn8
 have h:=h p1 w1 hn8
 refine ln (eg (q0 (vp r1) ?_))
 obtain ⟨a1,hp1,h⟩:=h
 refine q2 (vp (some a1)) (xn hp1) (q0 (vp (some a1)) ?_)
 obtain ⟨v1,hv12,h⟩:=h
 refine q2 (vp v1) (xl (isAgg31 _) hv12) (q0 (vi t1) ?_)
 refine sc call49 (h.mono ?_)
 rintro e w2 ⟨aE,aF,aG,aD,aH,aY,aZ,r2,rfl,h⟩
 refine ⟨_,rfl,?_⟩
 refine q0 (.tuple #[(.agg #[(vi aE),(vi aF),(vi aG),(vu aD),(vs aH),(vi aY),(vi aZ)]),(vb r2)]) (q0 (.agg #[(vi aE),(vi aF),(vi aG),(vu aD),(vs aH),(vi aY),(vi aZ)]) (q0 (vb r2) (sn (O:=(.cells #[(vi 0),(vi 0),(vi 0),(vu 0),ve,(vi 0),(vi 0)] 80)) (x_alloc (zeroValue80 _) rfl) ?_)))
 intro p2 w3 hn7
 have h:=h p2 w3 hn7
 obtain ⟨hp2,h⟩:=h
 refine ss (xo p2 [(vi aE),(vi aF),(vi aG),(vu aD),(vs aH),(vi aY),(vi aZ)] (sizeOf80 _) hp2) ?_
 intro w4 hn1
 have h:=h w4 hn1
 refine q0 (vb r2) (ln ?_)
 refine wpE_join (fun ρ w=>Has ρ [(0,(vp r1)),(4,(vp (some p1))),(5,(vp (some p2)))]∧m_G_j1 r1 p1 p2 w K) ?_ ?_
 rintro ρ w ⟨hH,h⟩
 unfold m_G_j1 at h
 refine wpE_has hH ?_
 refine eg (q0 (vp r1) (q0 (vp (some (p2.add 5))) ?_))
 obtain ⟨v2,hv4,h⟩:=h
 refine q2 (vi v2) (xl (isAgg33 _) hv4) ?_
 refine sc call60 (h.mono ?_)
 rintro e w5 ⟨r3,r4,rfl,h⟩
 refine ⟨_,rfl,?_⟩
 refine q0 (.tuple #[(vu r3),(vs r4)]) (q0 (vu r3) (q0 (vs r4) (q0 (vu r3) (q0 (vs r4) (ln (eg (q0 (vp (some (p2.add 1))) ?_)))))))
 obtain ⟨v3,hv3,h⟩:=h
 refine q2 (vi v3) (xl (isAgg3 _) hv3) (q0 (vu r3) (q0 (vs r4) (q0 (vp (some p2)) ?_)))
 obtain ⟨v4,hv2,h⟩:=h
 refine q2 (vi v4) (xl (isAgg3 _) hv2) (q0 (vb (v4 == 9)) (q0 (.agg #[(vi 1),(vi v3),(vu r3),(vs r4),(vb (v4 == 9))]) ?_))
 obtain ⟨hp3,h⟩:=h
 refine ss (xo p1 [(vi 1),(vi v3),(vu r3),(vs r4),(vb (v4 == 9))] (sizeOf42 _) hp3) ?_
 intro w6 hn2
 have h:=h w6 hn2
 refine ln (er ?_)
 obtain ⟨aA,aB,cP,aC,cQ,hv1,h⟩:=h
 refine resG (.inl rfl) (vs:=[(.agg #[(vi aA),(vi aB),(vu cP),(vs aC),(vb cQ)])]) (v:=(.agg #[(vi aA),(vi aB),(vu cP),(vs aC),(vb cQ)])) results51 ⟨(rva (isAgg42 _) (sizeOf42 _) hv1),trivial⟩ (by kernel_rfl) ?_
 exact ⟨aA,aB,cP,aC,cQ,rfl,h⟩
 refine eg (q0 (vp (some p2)) ?_)
 obtain ⟨v5,hv11,h⟩:=h
 refine q2 (vi v5) (xl (isAgg3 _) hv11) (q0 (vb (v5 != 8)) (q0 (vb (v5 != 8)) ?_))
 refine wpL_join 4 (fun ρ w=>∃x1:Bool,Has ρ [(0,(vp r1)),(4,(vp (some p1))),(5,(vp (some p2))),(25,(vb x1))]∧m_G_j2 r1 p1 p2 x1 w K) ?_ ?_
 rintro ρ w ⟨x1,hH,h⟩
 unfold m_G_j2 at h
 refine wpL_has hH ?_
 refine q0 (vb x1) ?_
 refine wpL_join 4 (fun ρ w=>∃x2:Bool,Has ρ [(0,(vp r1)),(4,(vp (some p1))),(5,(vp (some p2))),(30,(vb x2))]∧m_G_j3 r1 p1 p2 x2 w K) ?_ ?_
 rintro ρ w ⟨x2,hH,h⟩
 unfold m_G_j3 at h
 refine wpL_has hH ?_
 refine q0 (vb x2) ?_
 rcases bte x2 with hg1 | hg1
 have h:=h.1 hg1
 refine sk (yD 31 hg1) (sk (yD 31 hg1) (sk (yD 31 hg1) (sk (yD 31 hg1) (sk (yD 31 hg1) (sk (yD 31 hg1) (q2 (vb true) (xT hg1) (ln (wpE_condT (by kernel_rfl) (eg ?_)))))))))
 refine q0 (vp r1) ?_
 obtain ⟨a2,hp4,h⟩:=h
 refine q2 (vp (some a2)) (xn hp4) (q0 (vp (some (a2.add 1))) ?_)
 obtain ⟨hp5,h⟩:=h
 refine ss (x_store (a:=(a2.add 1)) (v:=(vb true)) (by kernel_rfl) (by kernel_rfl) rfl (sizeOf4 _) hp5) ?_
 intro w7 hn3
 have h:=h w7 hn3
 refine ln (eg (q0 (.agg #[(vi 0),(vi 0),(vu 0),ve,(vb false)]) ?_))
 obtain ⟨hp6,h⟩:=h
 refine ss (xo p1 [(vi 0),(vi 0),(vu 0),ve,(vb false)] (sizeOf42 _) hp6) ?_
 intro w8 hn4
 have h:=h w8 hn4
 refine ln (er (th_r ?_))
 obtain ⟨aO,aP,cR,aQ,cS,hv5,h⟩:=h
 refine resG (.inl rfl) (vs:=[(.agg #[(vi aO),(vi aP),(vu cR),(vs aQ),(vb cS)])]) (v:=(.agg #[(vi aO),(vi aP),(vu cR),(vs aQ),(vb cS)])) results51 ⟨(rva (isAgg42 _) (sizeOf42 _) hv5),trivial⟩ (by kernel_rfl) ?_
 exact ⟨aO,aP,cR,aQ,cS,rfl,h⟩
 have h:=h.2 hg1
 refine q1 (vp (some (p2.add 2))) (wy 31 hg1) ?_
 obtain ⟨v6,hv8,h⟩:=h
 refine stp (v:=(vi v6)) (wy 31 hg1) (xl (isAgg3 _) hv8) (q1 (vp (some (p2.add 1))) (wy 31 hg1) ?_)
 obtain ⟨v7,hv7,h⟩:=h
 refine stp (v:=(vi v7)) (wy 31 hg1) (xl (isAgg3 _) hv7) (q1 (vi (q6.wrap (1 - v7))) (wy 31 hg1) (q1 (vb (v6 != (q6.wrap (1 - v7)))) (wy 31 hg1) (q2 (vb (v6 != (q6.wrap (1 - v7)))) (xF hg1) (ln ?_))))
 refine wpE_cond (t:=(v6 != (q6.wrap (1 - v7)))) (by kernel_rfl) (fun hc1=>?_) (fun hc1=>?_)
 have h:=h.1 hc1
 refine eg (q0 (vp r1) ?_)
 obtain ⟨a3,hp7,h⟩:=h
 refine q2 (vp (some a3)) (xn hp7) (q0 (vp (some (a3.add 1))) ?_)
 obtain ⟨hp8,h⟩:=h
 refine ss (x_store (a:=(a3.add 1)) (v:=(vb true)) (by kernel_rfl) (by kernel_rfl) rfl (sizeOf4 _) hp8) ?_
 intro w9 hn5
 have h:=h w9 hn5
 refine ln (eg (q0 (.agg #[(vi 0),(vi 0),(vu 0),ve,(vb false)]) ?_))
 obtain ⟨hp9,h⟩:=h
 refine ss (xo p1 [(vi 0),(vi 0),(vu 0),ve,(vb false)] (sizeOf42 _) hp9) ?_
 intro w10 hn6
 have h:=h w10 hn6
 refine ln (er (th_r ?_))
 obtain ⟨aU,aV,cN,aW,cO,hv6,h⟩:=h
 refine resG (.inl rfl) (vs:=[(.agg #[(vi aU),(vi aV),(vu cN),(vs aW),(vb cO)])]) (v:=(.agg #[(vi aU),(vi aV),(vu cN),(vs aW),(vb cO)])) results51 ⟨(rva (isAgg42 _) (sizeOf42 _) hv6),trivial⟩ (by kernel_rfl) ?_
 exact ⟨aU,aV,cN,aW,cO,rfl,h⟩
 have h:=h.2 hc1
 refine wpE_skip (th_n ?_)
 exact ⟨hm,h⟩
 rcases bte x1 with hg2 | hg2
 have h:=h.1 hg2
 refine sk (yD 26 hg2) (sk (yD 26 hg2) (sk (yD 26 hg2) (q2 (vb true) (xT hg2) (wpL_nil ?_))))
 exact ⟨true,hm,h⟩
 have h:=h.2 hg2
 refine q1 (vp (some (p2.add 1))) (wy 26 hg2) ?_
 obtain ⟨v8,hv9,h⟩:=h
 refine stp (v:=(vi v8)) (wy 26 hg2) (xl (isAgg3 _) hv9) (q1 (vb (decide (v8>1))) (wy 26 hg2) (q2 (vb (decide (v8>1))) (xF hg2) (wpL_nil ?_)))
 exact ⟨(decide (v8>1)),hm,h⟩
 rcases bte (v5 != 8) with hg3 | hg3
 have h:=h.1 hg3
 refine q1 (vp (some p2)) (wy 21 hg3) ?_
 obtain ⟨v9,hv10,h⟩:=h
 refine stp (v:=(vi v9)) (wy 21 hg3) (xl (isAgg3 _) hv10) (q1 (vb (v9 != 9)) (wy 21 hg3) (q2 (vb (v9 != 9)) (xT hg3) (wpL_nil ?_)))
 exact ⟨(v9 != 9),hm,h⟩
 have h:=h.2 hg3
 refine sk (yD 21 hg3) (sk (yD 21 hg3) (sk (yD 21 hg3) (q2 (vb false) (xF hg3) (wpL_nil ?_))))
 exact ⟨false,hm,h⟩
def m_W (r1:Option Addr) (t1:Int) (w:World) (K:ByteArray→Int→WP):Prop :=
 Calls prog 53 #[(vp r1),(vi t1),(vi 4)] w (fun e w1=>∃aE aF:Int,∃aG aD:Int,∃aH:ByteArray,∃aY aZ:Int,e=.returned (.agg #[(vi aE),(vi aF),(vi aG),(vu aD),(vs aH),(vi aY),(vi aZ)])∧
  ∀(p1:Addr) (w2:World),New w1 (.cells #[(vi 0),(vi 0),(vi 0),(vu 0),ve,(vi 0),(vi 0)] 80) p1 w2 →
  (∀j,j<7→CanW w2 (p1.add j))∧∀w3:World,w3=storeRow w2 p1 [(vi aE),(vi aF),(vi aG),(vu aD),(vs aH),(vi aY),(vi aZ)] →
  ∃C1:WP,C1 w3.drew∧∀w4,w4=w3.drew →
  ∃v1:Int,(∀w',C1 w'→w'.cell? (p1.add 5)=some (vi v1)) ∧
  ∃v2:Int,(∀w',C1 w'→w'.cell? (p1.add 6)=some (vi v2)) ∧
  Calls prog 53 #[(vp r1),(vi v1),(vi 3)] w4 (fun e w5=>∃bB bC:Int,∃bL aT:Int,∃aX:ByteArray,∃dB dC:Int,e=.returned (.agg #[(vi bB),(vi bC),(vi bL),(vu aT),(vs aX),(vi dB),(vi dC)])∧C1 w5∧
   K aX v2 w5))
theorem w_W (r1 : Option Addr) (t1 : Int) (w : World) (K : ByteArray → Int → WP) (h : m_W r1 t1 w K) :
  Calls prog 52 #[(vp r1),(vi t1)] w (fun e w'=>∃r2:ByteArray,∃r3:Int,e=.returned (.tuple #[(vs r2),(vi r3)])∧K r2 r3 w'):=by
 unfold m_W at h
 refine cw (args:=[(vp r1),(vi t1)]) func52 ntmps52 (eg (q0 ve (q0 (vi 0) (ln (eg (q0 (vp r1) (q0 (vi t1) ?_)))))))
 refine sc call53 (h.mono ?_)
 rintro e w1 ⟨aE,aF,aG,aD,aH,aY,aZ,rfl,h⟩
 refine ⟨_,rfl,?_⟩
 refine sn (O:=(.cells #[(vi 0),(vi 0),(vi 0),(vu 0),ve,(vi 0),(vi 0)] 80)) (x_alloc (zeroValue80 _) rfl) ?_
 intro p1 w2 hn2
 have h:=h p1 w2 hn2
 obtain ⟨hp1,h⟩:=h
 refine ss (xo p1 [(vi aE),(vi aF),(vi aG),(vu aD),(vs aH),(vi aY),(vi aZ)] (sizeOf80 _) hp1) ?_
 intro w3 hn1
 have h:=h w3 hn1
 refine ln (wpE_seq ?_)
 obtain ⟨C1,hC,h⟩:=h
 refine wpE_drawnC C1 [3] [] (by kernel_rfl) (by kernel_rfl) (by kernel_rfl) (by kernel_rfl) hC ?_
 intro w4 hw4
 have h:=h w4 hw4
 refine qx 0 (vp r1) Kp0 (qx 1 (vp (some (p1.add 5))) Kp1 (qg 2 ?_))
 obtain ⟨v1,hv2,h⟩:=h
 refine sy (v:=(vi v1)) Kp2 (fun w' hw'=>(xl (isAgg33 _) (hv2 w' hw'))) (qx 5 (vp (some (p1.add 6))) Kp5 (qg 6 ?_))
 obtain ⟨v2,hv1,h⟩:=h
 refine sy (v:=(vi v2)) Kp6 (fun w' hw'=>(xl (isAgg33 _) (hv1 w' hw'))) (lg 3 ?_)
 refine slc Kp3 call53 (h.mono ?_)
 rintro e w5 ⟨bB,bC,bL,aT,aX,dB,dC,rfl,hC,h⟩
 refine ⟨_,rfl,.inr hC,?_⟩
 refine qx 4 (vs aX) Kp4 (qx 7 (vs aX) Kp7 (qx 8 (vi v2) Kp8 (wn (th_n (er (res2 (.inl rfl) results52 (v:=(vs aX)) (by kernel_rfl) (v':=(vi v2)) (by kernel_rfl) ?_))))))
 exact ⟨aX,v2,rfl,h⟩
def m_X (r1:Option Addr) (t1 kind1:Int) (w:World) (K:Int→Int→Int→Int→ByteArray→Int→Int→WP):Prop :=
 ∀(p1:Addr) (w1:World),New w (.cells #[(vi 0),(vi 0),(vi 0),(vu 0),ve,(vi 0),(vi 0)] 80) p1 w1 →
 ∃a1:Addr,r1=some a1 ∧
 ∃v1:Option Addr,w1.cell? a1=some (vp v1) ∧
 Calls prog 49 #[(vp v1),(vi t1)] w1 (fun e w2=>∃aE aF:Int,∃aG aD:Int,∃aH:ByteArray,∃aY aZ:Int,∃r2:Bool,e=.returned (.tuple #[(.agg #[(vi aE),(vi aF),(vi aG),(vu aD),(vs aH),(vi aY),(vi aZ)]),(vb r2)])∧
  ∀(p2:Addr) (w3:World),New w2 (.cells #[(vi 0),(vi 0),(vi 0),(vu 0),ve,(vi 0),(vi 0)] 80) p2 w3 →
  (∀j,j<7→CanW w3 (p2.add j))∧∀w4:World,w4=storeRow w3 p2 [(vi aE),(vi aF),(vi aG),(vu aD),(vs aH),(vi aY),(vi aZ)] →
  Br (!r2)
   (∃a2:Addr,r1=some a2 ∧
   CanW w4 (a2.add 1)∧∀w5:World,w5=w4.setCell (a2.add 1) (vb true) →
   (∀j,j<7→CanW w5 (p1.add j))∧∀w6:World,w6=storeRow w5 p1 [(vi 0),(vi 0),(vi 0),(vu 0),ve,(vi 0),(vi 0)] →
   ∃aA aB:Int,∃aI aJ:Int,∃aC:ByteArray,∃iR iS:Int,Row w6 p1 [(vi aA),(vi aB),(vi aI),(vu aJ),(vs aC),(vi iR),(vi iS)] ∧
   K aA aB aI aJ aC iR iS w6)
   (∃v2:Int,w4.cell? p2=some (vi v2) ∧
   Br (v2 != kind1)
    (∃a3:Addr,r1=some a3 ∧
    CanW w4 (a3.add 1)∧∀w7:World,w7=w4.setCell (a3.add 1) (vb true) →
    (∀j,j<7→CanW w7 (p1.add j))∧∀w8:World,w8=storeRow w7 p1 [(vi 0),(vi 0),(vi 0),(vu 0),ve,(vi 0),(vi 0)] →
    ∃aO aP:Int,∃bT bU:Int,∃aQ:ByteArray,∃iT iU:Int,Row w8 p1 [(vi aO),(vi aP),(vi bT),(vu bU),(vs aQ),(vi iT),(vi iU)] ∧
    K aO aP bT bU aQ iT iU w8)
    (∃aL aM:Int,∃aR aS:Int,∃aN:ByteArray,∃iV iW:Int,Row w4 p2 [(vi aL),(vi aM),(vi aR),(vu aS),(vs aN),(vi iV),(vi iW)] ∧
    (∀j,j<7→CanW w4 (p1.add j))∧∀w9:World,w9=storeRow w4 p1 [(vi aL),(vi aM),(vi aR),(vu aS),(vs aN),(vi iV),(vi iW)] →
    ∃aU aV:Int,∃dE dF:Int,∃aW:ByteArray,∃iX iY:Int,Row w9 p1 [(vi aU),(vi aV),(vi dE),(vu dF),(vs aW),(vi iX),(vi iY)] ∧
    K aU aV dE dF aW iX iY w9)))
theorem w_X (r1 : Option Addr) (t1 kind1 : Int) (w : World) (K : Int → Int → Int → Int → ByteArray → Int → Int → WP) (h : m_X r1 t1 kind1 w K) :
  Calls prog 53 #[(vp r1),(vi t1),(vi kind1)] w (fun e w'=>∃bB bC:Int,∃bL aT:Int,∃aX:ByteArray,∃dB dC:Int,e=.returned (.agg #[(vi bB),(vi bC),(vi bL),(vu aT),(vs aX),(vi dB),(vi dC)])∧K bB bC bL aT aX dB dC w'):=by
 unfold m_X at h
 refine cw (args:=[(vp r1),(vi t1),(vi kind1)]) func53 ntmps53 (eg (sn (O:=(.cells #[(vi 0),(vi 0),(vi 0),(vu 0),ve,(vi 0),(vi 0)] 80)) (x_alloc (zeroValue80 _) rfl) ?_))
 intro p1 w1 hn8
 have h:=h p1 w1 hn8
 refine ln (eg (q0 (vp r1) ?_))
 obtain ⟨a1,hp1,h⟩:=h
 refine q2 (vp (some a1)) (xn hp1) (q0 (vp (some a1)) ?_)
 obtain ⟨v1,hv6,h⟩:=h
 refine q2 (vp v1) (xl (isAgg31 _) hv6) (q0 (vi t1) ?_)
 refine sc call49 (h.mono ?_)
 rintro e w2 ⟨aE,aF,aG,aD,aH,aY,aZ,r2,rfl,h⟩
 refine ⟨_,rfl,?_⟩
 refine q0 (.tuple #[(.agg #[(vi aE),(vi aF),(vi aG),(vu aD),(vs aH),(vi aY),(vi aZ)]),(vb r2)]) (q0 (.agg #[(vi aE),(vi aF),(vi aG),(vu aD),(vs aH),(vi aY),(vi aZ)]) (q0 (vb r2) (sn (O:=(.cells #[(vi 0),(vi 0),(vi 0),(vu 0),ve,(vi 0),(vi 0)] 80)) (x_alloc (zeroValue80 _) rfl) ?_)))
 intro p2 w3 hn7
 have h:=h p2 w3 hn7
 obtain ⟨hp2,h⟩:=h
 refine ss (xo p2 [(vi aE),(vi aF),(vi aG),(vu aD),(vs aH),(vi aY),(vi aZ)] (sizeOf80 _) hp2) ?_
 intro w4 hn1
 have h:=h w4 hn1
 refine q0 (vb r2) (ln (wpE_seq (eg (q0 (vb r2) (q0 (vb (!r2)) (q0 (vb (!r2)) ?_))))))
 rcases bte (!r2) with hg1 | hg1
 have h:=h.1 hg1
 refine sk (yD 20 hg1) (sk (yD 20 hg1) (sk (yD 20 hg1) (sk (yD 20 hg1) (q2 (vb true) (xT hg1) (ln (wpE_condT (by kernel_rfl) (eg (q0 (vp r1) ?_))))))))
 obtain ⟨a2,hp3,h⟩:=h
 refine q2 (vp (some a2)) (xn hp3) (q0 (vp (some (a2.add 1))) ?_)
 obtain ⟨hp4,h⟩:=h
 refine ss (x_store (a:=(a2.add 1)) (v:=(vb true)) (by kernel_rfl) (by kernel_rfl) rfl (sizeOf4 _) hp4) ?_
 intro w5 hn2
 have h:=h w5 hn2
 refine ln (eg (q0 (.agg #[(vi 0),(vi 0),(vi 0),(vu 0),ve,(vi 0),(vi 0)]) ?_))
 obtain ⟨hp5,h⟩:=h
 refine ss (xo p1 [(vi 0),(vi 0),(vi 0),(vu 0),ve,(vi 0),(vi 0)] (sizeOf80 _) hp5) ?_
 intro w6 hn3
 have h:=h w6 hn3
 refine ln (er (th_r ?_))
 obtain ⟨aA,aB,aI,aJ,aC,iR,iS,hv1,h⟩:=h
 refine resG (.inl rfl) (vs:=[(.agg #[(vi aA),(vi aB),(vi aI),(vu aJ),(vs aC),(vi iR),(vi iS)])]) (v:=(.agg #[(vi aA),(vi aB),(vi aI),(vu aJ),(vs aC),(vi iR),(vi iS)])) results53 ⟨(rva (isAgg80 _) (sizeOf80 _) hv1),trivial⟩ (by kernel_rfl) ?_
 exact ⟨aA,aB,aI,aJ,aC,iR,iS,rfl,h⟩
 have h:=h.2 hg1
 refine q1 (vp (some p2)) (wy 20 hg1) ?_
 obtain ⟨v2,hv5,h⟩:=h
 refine stp (v:=(vi v2)) (wy 20 hg1) (xl (isAgg3 _) hv5) (q1 (vi kind1) (wy 20 hg1) (q1 (vb (v2 != kind1)) (wy 20 hg1) (q2 (vb (v2 != kind1)) (xF hg1) (ln ?_))))
 refine wpE_cond (t:=(v2 != kind1)) (by kernel_rfl) (fun hc1=>?_) (fun hc1=>?_)
 have h:=h.1 hc1
 refine eg (q0 (vp r1) ?_)
 obtain ⟨a3,hp6,h⟩:=h
 refine q2 (vp (some a3)) (xn hp6) (q0 (vp (some (a3.add 1))) ?_)
 obtain ⟨hp7,h⟩:=h
 refine ss (x_store (a:=(a3.add 1)) (v:=(vb true)) (by kernel_rfl) (by kernel_rfl) rfl (sizeOf4 _) hp7) ?_
 intro w7 hn4
 have h:=h w7 hn4
 refine ln (eg (q0 (.agg #[(vi 0),(vi 0),(vi 0),(vu 0),ve,(vi 0),(vi 0)]) ?_))
 obtain ⟨hp8,h⟩:=h
 refine ss (xo p1 [(vi 0),(vi 0),(vi 0),(vu 0),ve,(vi 0),(vi 0)] (sizeOf80 _) hp8) ?_
 intro w8 hn5
 have h:=h w8 hn5
 refine ln (er (th_r ?_))
 obtain ⟨aO,aP,bT,bU,aQ,iT,iU,hv2,h⟩:=h
 refine resG (.inl rfl) (vs:=[(.agg #[(vi aO),(vi aP),(vi bT),(vu bU),(vs aQ),(vi iT),(vi iU)])]) (v:=(.agg #[(vi aO),(vi aP),(vi bT),(vu bU),(vs aQ),(vi iT),(vi iU)])) results53 ⟨(rva (isAgg80 _) (sizeOf80 _) hv2),trivial⟩ (by kernel_rfl) ?_
 exact ⟨aO,aP,bT,bU,aQ,iT,iU,rfl,h⟩
 have h:=h.2 hc1
 refine wpE_skip (th_n (eg ?_))
 obtain ⟨aL,aM,aR,aS,aN,iV,iW,hv4,h⟩:=h
 refine q2 (.agg #[(vi aL),(vi aM),(vi aR),(vu aS),(vs aN),(vi iV),(vi iW)]) (xa p2 [(vi aL),(vi aM),(vi aR),(vu aS),(vs aN),(vi iV),(vi iW)] (isAgg80 _) (sizeOf80 _) hv4) ?_
 obtain ⟨hp9,h⟩:=h
 refine ss (xo p1 [(vi aL),(vi aM),(vi aR),(vu aS),(vs aN),(vi iV),(vi iW)] (sizeOf80 _) hp9) ?_
 intro w9 hn6
 have h:=h w9 hn6
 refine ln (er ?_)
 obtain ⟨aU,aV,dE,dF,aW,iX,iY,hv3,h⟩:=h
 refine resG (.inl rfl) (vs:=[(.agg #[(vi aU),(vi aV),(vi dE),(vu dF),(vs aW),(vi iX),(vi iY)])]) (v:=(.agg #[(vi aU),(vi aV),(vi dE),(vu dF),(vs aW),(vi iX),(vi iY)])) results53 ⟨(rva (isAgg80 _) (sizeOf80 _) hv3),trivial⟩ (by kernel_rfl) ?_
 exact ⟨aU,aV,dE,dF,aW,iX,iY,rfl,h⟩
def m_K_j1 (r1:Option Addr) (p1:Addr) (w:World) (K:Int→ByteArray→WP):Prop :=
 ∃C1:WP,C1 w.drew∧∀w5,w5=w.drew →
 ∃v1:Int,(∀w',C1 w'→w'.cell? (p1.add 5)=some (vi v1)) ∧
 ∃v2:Int,(∀w',C1 w'→w'.cell? (p1.add 6)=some (vi v2)) ∧
 Calls prog 53 #[(vp r1),(vi v1),(vi 2)] w5 (fun e w6=>∃bB bC:Int,∃bL aT:Int,∃aX:ByteArray,∃dB dC:Int,e=.returned (.agg #[(vi bB),(vi bC),(vi bL),(vu aT),(vs aX),(vi dB),(vi dC)])∧C1 w6∧
  Calls prog 53 #[(vp r1),(vi v2),(vi 3)] w6 (fun e w7=>∃bR bS:Int,∃cW cX:Int,∃bG:ByteArray,∃fZ gA:Int,e=.returned (.agg #[(vi bR),(vi bS),(vi cW),(vu cX),(vs bG),(vi fZ),(vi gA)])∧C1 w7∧
   K aT bG w7))
def m_K (r1:Option Addr) (t1:Int) (w:World) (K:Int→ByteArray→WP):Prop :=
 Calls prog 52 #[(vp r1),(vi t1)] w (fun e w1=>∃r2:ByteArray,∃r3:Int,e=.returned (.tuple #[(vs r2),(vi r3)])∧
  Calls prog 53 #[(vp r1),(vi r3),(vi 4)] w1 (fun e w2=>∃aE aF:Int,∃aG aD:Int,∃aH:ByteArray,∃aY aZ:Int,e=.returned (.agg #[(vi aE),(vi aF),(vi aG),(vu aD),(vs aH),(vi aY),(vi aZ)])∧
   ∀(p1:Addr) (w3:World),New w2 (.cells #[(vi 0),(vi 0),(vi 0),(vu 0),ve,(vi 0),(vi 0)] 80) p1 w3 →
   (∀j,j<7→CanW w3 (p1.add j))∧∀w4:World,w4=storeRow w3 p1 [(vi aE),(vi aF),(vi aG),(vu aD),(vs aH),(vi aY),(vi aZ)] →
   ∃a1:Addr,r1=some a1 ∧
   ∃v3:Bool,w4.cell? (a1.add 1)=some (vb v3) ∧
   Br v3
    (∃a2:Addr,r1=some a2 ∧
    CanW w4 (a2.add 1)∧∀w8:World,w8=w4.setCell (a2.add 1) (vb true) →
    m_K_j1 r1 p1 w8 K)
    (∃a3:Addr,r1=some a3 ∧
    CanW w4 (a3.add 1)∧∀w9:World,w9=w4.setCell (a3.add 1) (vb (!(decide (r2=(⟨#[100,101,97,108]⟩:ByteArray))))) →
    m_K_j1 r1 p1 w9 K)))
theorem w_K (r1 : Option Addr) (t1 : Int) (w : World) (K : Int → ByteArray → WP) (h : m_K r1 t1 w K) :
  Calls prog 60 #[(vp r1),(vi t1)] w (fun e w'=>∃r4:Int,∃r5:ByteArray,e=.returned (.tuple #[(vu r4),(vs r5)])∧K r4 r5 w'):=by
 unfold m_K at h
 refine cw (args:=[(vp r1),(vi t1)]) func60 ntmps60 (eg (q0 (vu 0) (q0 ve (ln (eg (q0 (vp r1) (q0 (vi t1) ?_)))))))
 refine sc call52 (h.mono ?_)
 rintro e w1 ⟨r2,r3,rfl,h⟩
 refine ⟨_,rfl,?_⟩
 refine q0 (.tuple #[(vs r2),(vi r3)]) (q0 (vs r2) (q0 (vi r3) (q0 (vs r2) (q0 (vi r3) (ln (eg (q0 (vp r1) (q0 (vi r3) ?_))))))))
 refine sc call53 (h.mono ?_)
 rintro e w2 ⟨aE,aF,aG,aD,aH,aY,aZ,rfl,h⟩
 refine ⟨_,rfl,?_⟩
 refine sn (O:=(.cells #[(vi 0),(vi 0),(vi 0),(vu 0),ve,(vi 0),(vi 0)] 80)) (x_alloc (zeroValue80 _) rfl) ?_
 intro p1 w3 hn4
 have h:=h p1 w3 hn4
 obtain ⟨hp1,h⟩:=h
 refine ss (xo p1 [(vi aE),(vi aF),(vi aG),(vu aD),(vs aH),(vi aY),(vi aZ)] (sizeOf80 _) hp1) ?_
 intro w4 hn1
 have h:=h w4 hn1
 refine ln ?_
 refine wpE_join (fun ρ w=>Has ρ [(0,(vp r1)),(8,(vp (some p1)))]∧m_K_j1 r1 p1 w K) ?_ ?_
 rintro ρ w ⟨hH,h⟩
 unfold m_K_j1 at h
 refine wpE_has hH ?_
 refine wpE_seq ?_
 obtain ⟨C1,hC,h⟩:=h
 refine wpE_drawnC C1 [3,8] [] (by kernel_rfl) (by kernel_rfl) (by kernel_rfl) (by kernel_rfl) hC ?_
 intro w5 hw5
 have h:=h w5 hw5
 refine qx 0 (vp r1) Kp0 (qx 1 (vp (some (p1.add 5))) Kp1 (qg 2 ?_))
 obtain ⟨v1,hv2,h⟩:=h
 refine sy (v:=(vi v1)) Kp2 (fun w' hw'=>(xl (isAgg33 _) (hv2 w' hw'))) (qx 5 (vp r1) Kp5 (qx 6 (vp (some (p1.add 6))) Kp6 (qg 7 ?_)))
 obtain ⟨v2,hv1,h⟩:=h
 refine sy (v:=(vi v2)) Kp7 (fun w' hw'=>(xl (isAgg33 _) (hv1 w' hw'))) (lg 3 ?_)
 refine slc Kp3 call53 (h.mono ?_)
 rintro e w6 ⟨bB,bC,bL,aT,aX,dB,dC,rfl,hC,h⟩
 refine ⟨_,rfl,.inr hC,?_⟩
 refine qx 4 (vu aT) Kp4 (lg 8 ?_)
 refine slc Kp8 call53 (h.mono ?_)
 rintro e w7 ⟨bR,bS,cW,cX,bG,fZ,gA,rfl,hC,h⟩
 refine ⟨_,rfl,.inr hC,?_⟩
 refine qx 9 (vs bG) Kp9 (qx 10 (vu aT) (pickA (S8 (pickS (pickS pickZ)))) (qx 11 (vs bG) (pickA (S8 (pickS (pickS (pickS pickZ))))) (wn (th_n (er (res2 (.inl rfl) results60 (v:=(vu aT)) (by kernel_rfl) (v':=(vs bG)) (by kernel_rfl) ?_))))))
 exact ⟨aT,bG,rfl,h⟩
 refine rg (q0 (vp r1) (q0 (vp r1) ?_))
 obtain ⟨a1,hp2,h⟩:=h
 refine q2 (vp (some a1)) (xn hp2) (q0 (vp (some (a1.add 1))) ?_)
 obtain ⟨v3,hv3,h⟩:=h
 refine q2 (vb v3) (xl (isAgg4 _) hv3) (q0 (vb v3) ?_)
 rcases bte v3 with hg1 | hg1
 have h:=h.1 hg1
 refine sk (yD 23 hg1) (sk (yD 23 hg1) (q2 (vb true) (xT hg1) ?_))
 obtain ⟨a2,hp3,h⟩:=h
 refine q2 (vp (some a2)) (xn hp3) (q0 (vp (some (a2.add 1))) ?_)
 obtain ⟨hp4,h⟩:=h
 refine ss (x_store (a:=(a2.add 1)) (v:=(vb true)) (by kernel_rfl) (by kernel_rfl) rfl (sizeOf4 _) hp4) ?_
 intro w8 hn2
 have h:=h w8 hn2
 refine ln ?_
 exact ⟨hm,h⟩
 have h:=h.2 hg1
 refine q1 (vs r2) (wy 23 hg1) (stp (v:=(vb (!(decide (r2=(⟨#[100,101,97,108]⟩:ByteArray)))))) (wy 23 hg1) (x_strneq (by kernel_rfl) (by kernel_rfl)) (q2 (vb (!(decide (r2=(⟨#[100,101,97,108]⟩:ByteArray))))) (xF hg1) ?_))
 obtain ⟨a3,hp5,h⟩:=h
 refine q2 (vp (some a3)) (xn hp5) (q0 (vp (some (a3.add 1))) ?_)
 obtain ⟨hp6,h⟩:=h
 refine ss (x_store (a:=(a3.add 1)) (v:=(vb (!(decide (r2=(⟨#[100,101,97,108]⟩:ByteArray)))))) (by kernel_rfl) (by kernel_rfl) rfl (sizeOf4 _) hp6) ?_
 intro w9 hn3
 have h:=h w9 hn3
 refine ln ?_
 exact ⟨hm,h⟩
end Go.Proofs
end
section
open Go Go.SE
namespace Go.Sp
def dataT (x:ByteArray):Tree:=.mk 3 0 0 0 x []
def numT (n:Int):Tree:=.mk 2 0 0 n ⟨#[]⟩ []
def pairT (a b:Tree):Tree:=.mk 4 0 0 0 ⟨#[]⟩ [a,b]
def signT (n:Int) (a:Tree):Tree:=.mk 7 n 0 0 ⟨#[]⟩ [a]
def promT (n:Int) (a:Tree) (fake:Bool):Tree:=.mk (if fake then 9 else 8) n (1 - n) 0 ⟨#[]⟩ [a]
def wDeal:ByteArray:=⟨#[100,101,97,108]⟩
def dealT (c:Int) (x:ByteArray):Tree:=pairT (dataT wDeal) (pairT (numT c) (dataT x))
end Go.Sp
namespace Go.Proofs
open Tryd
attribute [local irreducible] Calls
theorem TreeAt.leaf {S:NP} {w:World} {k f t u:Int} {x:ByteArray}:TreeAt S w Sl.nil (.mk k f t u x []) :=
 .mk k f t u x [] Sl.nil (fun _=>Sl.nil) rfl (by simp) (fun i h=>by simp at h) (fun i h=>by simp at h)
theorem TreeAt.one {S:NP} {w:World} {k f t u:Int} {x:ByteArray} {p:Addr} {A:Sp.Tree} {sa:Sl} {T:TypeId} (hB:Box w p (trow A sa) T) (hS:S p.block) (hA:TreeAt S w sa A):TreeAt S w ⟨some p,1,1⟩ (.mk k f t u x [A]):=by
 refine .mk k f t u x [A] _ (fun _=>sa) rfl (by simp) (fun i h=>?_) (fun i h=>?_)
 ·have:i=0:=by simpa using h
  subst this
  exact ⟨p,⟨by omega,by simp,p,rfl,rfl⟩,hS,hB.row⟩
 ·have:i=0:=by simpa using h
  subst this
  exact hA
theorem TreeAt.pair {S:NP} {w:World} {k f t u:Int} {x:ByteArray} {p:Addr} {A B:Sp.Tree} {sa sb:Sl} {T:TypeId} (hB:Box w p (trow A sa++trow B sb) T) (hS:S p.block) (hA:TreeAt S w sa A) (hB2:TreeAt S w sb B):TreeAt S w ⟨some p,2,2⟩ (.mk k f t u x [A,B]):=by
 refine .mk k f t u x [A,B] _ (fun i=>if i=0 then sa else sb) rfl (by simp) (fun i h=>?_) (fun i h=>?_)
 ·have:i=0∨i=1:=by simp at h;omega
  rcases this with rfl | rfl
  ·refine ⟨p,⟨by omega,by simp,p,rfl,rfl⟩,hS,fun i hi=>?_⟩
   have:=hB.row i (by simp [trow] at hi ⊢;omega)
   have hi':i<6:=by simpa [trow] using hi
   rw [this];exact List.getElem?_append_left (by simp [trow];omega)
  ·refine ⟨p.add (1*6),⟨by omega,by simp,p,rfl,rfl⟩,by rw [add_block];exact hS,fun i hi=>?_⟩
   have hi':i<6:=by simpa [trow] using hi
   have:=hB.row (6+i) (by simp [trow];omega)
   rw [add_add,this,List.getElem?_append_right (by simp [trow])]
   simp [trow]
 ·have:i=0∨i=1:=by simp at h;omega
  rcases this with rfl | rfl
  ·exact hA
  ·exact hB2
abbrev RetT (n0:Nat) (w:World) (T:Sp.Tree) (e:Ending) (w':World):Prop:=∃s,e=.returned (.agg (trow T s).toArray)∧TreeAt (n0≤·) w' s T∧Pure w w'
theorem c_ref11_data (n0:Nat) (x:ByteArray) (w:World) (h0:n0≤w.heap.size):Calls prog 24 #[.string x] w (RetT n0 w (Sp.dataT x)):=by
 refine (w_J1 x w (fun k f t u y s w'=>(⟨k,f,t,u,y,0,0⟩:Sp.Node)=(Sp.dataT x).node∧TreeAt (n0≤·) w' s (Sp.dataT x)∧Pure w w') ?_).mono ?_
 ·unfold m_J1
  intro p1 w1 h1
  exact bx 6 (Box.of_new h1) rfl rfl (fun w' b E=>⟨_,_,_,_,_,Sl.nil,b.row,rfl,TreeAt.leaf,Ext.own (Ext.new h1) (New.own (Ext.refl w) h1) E⟩)
 ·rintro _ w' ⟨k,f,t,u,y,s,rfl,hn,hT,E⟩
  cases hn;exact ⟨s,rfl,hT,E⟩
theorem c_ref11_number (n0:Nat) (n:Int) (w:World) (h0:n0≤w.heap.size):Calls prog 25 #[.int .u64 n] w (RetT n0 w (Sp.numT n)):=by
 refine (w_K1 n w (fun k f t u y s w'=>(⟨k,f,t,u,y,0,0⟩:Sp.Node)=(Sp.numT n).node∧TreeAt (n0≤·) w' s (Sp.numT n)∧Pure w w') ?_).mono ?_
 ·unfold m_K1
  intro p1 w1 h1
  exact bx 6 (Box.of_new h1) rfl rfl (fun w' b E=>⟨_,_,_,_,_,Sl.nil,b.row,rfl,TreeAt.leaf,Ext.own (Ext.new h1) (New.own (Ext.refl w) h1) E⟩)
 ·rintro _ w' ⟨k,f,t,u,y,s,rfl,hn,hT,E⟩
  cases hn;exact ⟨s,rfl,hT,E⟩
theorem c_ref11_pair (n0 : Nat) (A B : Sp.Tree) (sa sb : Sl) (w : World) (h0 : n0 ≤ w.heap.size) (hA : TreeAt (n0 ≤ ·) w sa A) (hB : TreeAt (n0 ≤ ·) w sb B) :
  Calls prog 23 #[.agg (trow A sa).toArray,.agg (trow B sb).toArray] w (RetT n0 w (Sp.pairT A B)):=by
 refine (w_I1 _ _ _ _ _ sa _ _ _ _ _ sb w (fun k f t u y s w'=>(⟨k,f,t,u,y,0,0⟩:Sp.Node)=(Sp.pairT A B).node∧TreeAt (n0≤·) w' s (Sp.pairT A B)∧Pure w w') ?_).mono ?_
 ·unfold m_I1
  intro p1 w1 h1 p2 w2 h2 p3 w3 h3
  have E1:Pure w w1:=Ext.new h1
  have E2:=E1.trans (Ext.new h2)
  have E3:Pure w w3:=E2.trans (Ext.new h3)
  have b1:=((Box.of_new h1).pure (Ext.new h2)).pure (Ext.new h3:Pure w2 w3)
  have b2:=(Box.of_new h2).pure (Ext.new h3:Pure w2 w3)
  refine ⟨_,_,_,_,_,sa,b1.row,_,_,_,_,_,sb,b2.row,?_⟩
  intro p4 w4 h4
  have o3:=New.own E2 h3
  have n34:p3.block≠p4.block:=New.ne h4 (Box.of_new h3).blk
  have E4:Pure w w4:=E3.trans (Ext.new h4)
  have o4:=New.own E3 h4
  refine bx 6 ((Box.of_new h3).pure (Ext.new h4)) rfl rfl (fun w' b E=>⟨_,_,_,_,_,_,b.row,rfl,?_,E4.own o3 E⟩)
  have b4:=(Box.of_new h4).ext E n34.symm
  have E5:=E4.own o3 E
  refine TreeAt.pair (A:=A) (B:=B) (sa:=sa) (sb:=sb) b4 (by show n0≤_;omega) (hA.pure E5) (hB.pure E5)
 ·rintro _ w' ⟨k,f,t,u,y,s,rfl,hn,hT,E⟩
  cases hn;exact ⟨s,rfl,hT,E⟩
theorem c_ref11_sign (n0 : Nat) (n : Int) (A : Sp.Tree) (sa : Sl) (w : World) (h0 : n0 ≤ w.heap.size) (hA : TreeAt (n0 ≤ ·) w sa A) :
  Calls prog 22 #[.int .i64 n,.agg (trow A sa).toArray] w (RetT n0 w (Sp.signT n A)):=by
 refine (w_H1 n _ _ _ _ _ sa w (fun k f t u y s w'=>(⟨k,f,t,u,y,0,0⟩:Sp.Node)=(Sp.signT n A).node∧TreeAt (n0≤·) w' s (Sp.signT n A)∧Pure w w') ?_).mono ?_
 ·unfold m_H1
  intro p1 w1 h1 p3 w3 h3
  have E1:Pure w w1:=Ext.new h1
  have E3:Pure w w3:=E1.trans (Ext.new h3)
  have b1:=(Box.of_new h1).pure (Ext.new h3:Pure w1 w3)
  refine ⟨_,_,_,_,_,sa,b1.row,?_⟩
  intro p4 w4 h4
  have o3:=New.own E1 h3
  have n34:p3.block≠p4.block:=New.ne h4 (Box.of_new h3).blk
  have E4:Pure w w4:=E3.trans (Ext.new h4)
  have o4:=New.own E3 h4
  refine bx 6 ((Box.of_new h3).pure (Ext.new h4)) rfl rfl (fun w' b E=>⟨_,_,_,_,_,_,b.row,rfl,?_,E4.own o3 E⟩)
  have b4:=(Box.of_new h4).ext E n34.symm
  have E5:=E4.own o3 E
  exact TreeAt.one (A:=A) (sa:=sa) b4 (by show n0≤_;omega) (hA.pure E5)
 ·rintro _ w' ⟨k,f,t,u,y,s,rfl,hn,hT,E⟩
  cases hn;exact ⟨s,rfl,hT,E⟩
theorem c_ref11_promise (n0 : Nat) (n : Int) (hn1 : n = 0 ∨ n = 1) (A : Sp.Tree) (fake : Bool) (sa : Sl) (w : World) (h0 : n0 ≤ w.heap.size) (hA : TreeAt (n0 ≤ ·) w sa A) :
  Calls prog 21 #[.int .i64 n,.agg (trow A sa).toArray,.bool fake] w (RetT n0 w (Sp.promT n A fake)):=by
 refine (w_G1 n _ _ _ _ _ sa fake w (fun k f t u y s w'=>(⟨k,f,t,u,y,0,0⟩:Sp.Node)=(Sp.promT n A fake).node∧TreeAt (n0≤·) w' s (Sp.promT n A fake)∧Pure w w') ?_).mono ?_
 ·unfold m_G1
  intro p1 w1 h1 p3 w3 h3
  have E1:Pure w w1:=Ext.new h1
  have E3:Pure w w3:=E1.trans (Ext.new h3)
  have b1:=(Box.of_new h1).pure (Ext.new h3:Pure w1 w3)
  have hw:IntKind.i64.wrap (1 - n)=1 - n:=i64 (by omega) (by omega)
  rw [hw]
  refine ⟨fun h=>⟨_,_,_,_,_,sa,b1.row,?_⟩,fun h=>⟨_,_,_,_,_,sa,b1.row,?_⟩⟩
  all_goals
   intro p4 w4 h4
   have o3:=New.own E1 h3
   have n34:p3.block≠p4.block:=New.ne h4 (Box.of_new h3).blk
   have E4:Pure w w4:=E3.trans (Ext.new h4)
   have o4:=New.own E3 h4
   refine bx 6 ((Box.of_new h3).pure (Ext.new h4)) rfl rfl (fun w' b E=>⟨_,_,_,_,_,_,b.row,by rw [h];rfl,?_,E4.own o3 E⟩)
   have b4:=(Box.of_new h4).ext E n34.symm
   have E5:=E4.own o3 E
   exact TreeAt.one (A:=A) (sa:=sa) b4 (by show n0≤_;omega) (hA.pure E5)
 ·rintro _ w' ⟨k,f,t,u,y,s,rfl,hn,hT,E⟩
  cases hn;exact ⟨s,rfl,hT,E⟩
theorem c_ref11_Deal (n0:Nat) (c:Int) (x:ByteArray) (w:World) (h0:n0≤w.heap.size):Calls prog 20 #[.int .u64 c,.string x] w (RetT n0 w (Sp.dealT c x)):=by
 refine (w_F1 c x w (fun k f t u y s w'=>(⟨k,f,t,u,y,0,0⟩:Sp.Node)=(Sp.dealT c x).node∧TreeAt (n0≤·) w' s (Sp.dealT c x)∧Pure w w') ?_).mono ?_
 ·unfold m_F1
  intro p1 w1 h1
  have E1:Pure w w1:=Ext.new h1
  have o1:=New.own (Ext.refl w) h1
  have s1:w.heap.size≤w1.heap.size:=E1.size
  refine (c_ref11_data w1.heap.size _ w1 (by omega)).mono ?_
  rintro _ w2 ⟨sa,rfl,hA,E2⟩
  have s2:=E2.size
  refine ⟨_,_,_,_,_,sa,rfl,?_⟩
  refine (c_ref11_number w1.heap.size c w2 (by omega)).mono ?_
  rintro _ w3 ⟨sb,rfl,hB,E3⟩
  have s3:=E3.size
  refine ⟨_,_,_,_,_,sb,rfl,?_⟩
  refine (c_ref11_data w1.heap.size x w3 (by omega)).mono ?_
  rintro _ w4 ⟨sc,rfl,hC,E4⟩
  have s4:=E4.size
  refine ⟨_,_,_,_,_,sc,rfl,?_⟩
  refine (c_ref11_pair w1.heap.size (Sp.numT c) (Sp.dataT x) sb sc w4 (by omega) (hB.pure E4) hC).mono ?_
  rintro _ w5 ⟨sd,rfl,hD,E5⟩
  have s5:=E5.size
  refine ⟨_,_,_,_,_,sd,rfl,?_⟩
  refine (c_ref11_pair w1.heap.size (Sp.dataT Sp.wDeal) (Sp.pairT (Sp.numT c) (Sp.dataT x)) sa sd w5 (by omega) (((hA.pure E3).pure E4).pure E5) hD).mono ?_
  rintro _ w6 ⟨se,rfl,hE,E6⟩
  have E:Pure w1 w6:=(((E2.trans E3).trans E4).trans E5).trans E6
  refine ⟨_,_,_,_,_,se,rfl,?_⟩
  refine bx 6 ((Box.of_new h1).pure E) rfl rfl (fun w' b E'=>⟨_,_,_,_,_,se,b.row,rfl,?_,(E1.trans E).own o1 E'⟩)
  exact (hE.ext E' (fun b hb e=>by have:=(Box.of_new h1).lt;have:w1.heap.size≤b:=hb;omega)).mono (fun b hb=>by show n0≤b;have:w1.heap.size≤b:=hb;omega)
 ·rintro _ w' ⟨k,f,t,u,y,s,rfl,hn,hT,E⟩
  cases hn;exact ⟨s,rfl,hT,E⟩
end Go.Proofs
end
section
open Go Go.SE
namespace Go.Sp
structure Letter where
 kind:Int
 frm:Int
 c:Int
 text:ByteArray
 fake:Bool
deriving DecidableEq
def noLetter:Letter:=⟨0,0,0,⟨#[]⟩,false⟩
def wAbort:ByteArray:=⟨#[97,98,111,114,116]⟩
def wResolve:ByteArray:=⟨#[114,101,115,111,108,118,101]⟩
def wAborted:ByteArray:=⟨#[97,98,111,114,116,101,100]⟩
def wInstead:ByteArray:=⟨#[105,110,115,116,101,97,100]⟩
def wFull:ByteArray:=⟨#[102,117,108,108]⟩
def letterT (l:Letter) (first second:Bool):Tree :=
 if l.kind=1 then promT l.frm (dealT l.c l.text) l.fake
 else if l.kind=2 then signT l.frm (dealT l.c l.text)
 else if l.kind=3 then signT 0 (pairT (dataT wAbort) (numT l.c))
 else if l.kind=4 then signT l.frm (pairT (dataT wResolve) (pairT (promT 0 (dealT l.c l.text) (l.fake && first)) (promT 1 (dealT l.c l.text) (l.fake && second))))
 else if l.kind=5 then signT 2 (pairT (dataT wAborted) (numT l.c))
 else if l.kind=6 then signT 2 (pairT (dataT wInstead) (dealT l.c l.text))
 else pairT (dataT wFull) (numT l.c)
end Go.Sp
namespace Go.Proofs
open Tryd
attribute [local irreducible] Calls
theorem c_ref11_Tree (n0 : Nat) (k f c : Int) (x : ByteArray) (fake first second : Bool) (w : World) (h0 : n0 ≤ w.heap.size) (hf : f = 0 ∨ f = 1) :
  Calls prog 12 #[.agg #[.int .i64 k,.int .i64 f,.int .u64 c,.string x,.bool fake],.bool first,.bool second] w (RetT n0 w (Sp.letterT ⟨k,f,c,x,fake⟩ first second)):=by
 generalize hR:Sp.letterT ⟨k,f,c,x,fake⟩ first second=R
 suffices key:∀K:Int→Int→Int→Int→ByteArray→Sl→WP,(∀s w',TreeAt (n0≤·) w' s R∧Pure w w'→K R.node.kind R.node.frm R.node.to R.node.num R.node.text s w')→m_V k f c x fake first second w K by
  refine (w_V k f c x fake first second w (fun k f t u y s w'=>(k=R.node.kind∧f=R.node.frm∧t=R.node.to∧u=R.node.num∧y=R.node.text)∧TreeAt (n0≤·) w' s R∧Pure w w') (key _ (fun s w' h=>⟨⟨rfl,rfl,rfl,rfl,rfl⟩,h⟩))).mono ?_
  rintro _ w' ⟨k,f,t,u,y,s,rfl,⟨rfl,rfl,rfl,rfl,rfl⟩,hT,E⟩
  exact ⟨s,rfl,hT,E⟩
 intro K hK
 unfold m_V
 intro p1 w1 h1 p2 w2 h2
 have E1:Pure w w1:=Ext.new h1
 have E2:Pure w w2:=E1.trans (Ext.new h2)
 have o2:=New.own E1 h2
 have a1:=(Box.of_new h1).pure (Ext.new h2:Pure w1 w2)
 have a2:=Box.of_new h2
 have l1:=a1.lt
 have l2:=a2.lt
 have s2:=E2.size
 clear h1 h2
 refine ⟨_,a1.cell rfl,_,a1.cell rfl,?_⟩
 refine (c_ref11_Deal w2.heap.size c x w2 (Nat.le_refl _)).mono ?_
 rintro _ w3 ⟨sd,rfl,hD,E3⟩
 refine ⟨_,_,_,_,_,sd,rfl,?_⟩
 intro p3 w4 h4
 have o3:=New.own (Ext.refl w3) h4
 refine bx 6 (Box.of_new h4) rfl rfl (fun w5 b3 E'=>?_)
 have E5:Pure w3 w5:=Ext.own (Ext.new h4) o3 E'
 have hD5:=hD.pure E5
 have E25:Pure w2 w5:=E3.trans E5
 have s5:=E25.size
 have b1:=a1.pure E25
 have b3:Box w5 p3 (trow (Sp.dealT c x) sd) 39:=b3
 clear E' h4 E5 hD E3
 have fin : ∀ (T : Sp.Tree) (s : Sl) (w' : World), Pure w5 w' → TreeAt (w2.heap.size ≤ ·) w' s T → T = R →
   (∀j,j<6→CanW w' (p2.add j))∧∀w'':World,w''=storeRow w' p2 (trow T s) →
   ∃qKind1:Int,∃qFrom1:Int,∃qTo1:Int,∃qNum1:Int,∃qText1:ByteArray,∃qKids1:Sl,Row w'' p2 [(.int .i64 qKind1),(.int .i64 qFrom1),(.int .i64 qTo1),(.int .u64 qNum1),(.string qText1),qKids1.v]∧K qKind1 qFrom1 qTo1 qNum1 qText1 qKids1 w'':=by
  rintro T s w' E hT rfl
  refine bx 6 (a2.pure (E25.trans E)) rfl rfl (fun w'' b E'=>⟨_,_,_,_,_,s,b.row,hK s w'' ⟨?_,(E2.trans (E25.trans E)).own o2 E'⟩⟩)
  exact (hT.ext E' (fun b hb e=>by have:w2.heap.size≤b:=hb;omega)).mono (fun b hb=>by show n0≤b;have:w2.heap.size≤b:=hb;omega)
 have drawn:∃C:WP,C w5.drew∧(∀w' w'',Pure w' w''→C w'→C w'')∧(∀w',C w'→Box w' p1 [.int .i64 k,.int .i64 f,.int .u64 c,.string x,.bool fake] 42∧Box w' p3 (trow (Sp.dealT c x) sd) 39) :=
  ⟨fun w'=>Box w' p1 [.int .i64 k,.int .i64 f,.int .u64 c,.string x,.bool fake] 42∧Box w' p3 (trow (Sp.dealT c x) sd) 39,⟨b1.pure (Ext.drew w5),b3.pure (Ext.drew w5)⟩,fun _ _ E h=>⟨h.1.pure E,h.2.pure E⟩,fun _ h=>h⟩
 obtain ⟨C,hC,hCp,hCb⟩:=drawn
 refine ⟨k,b1.cell0,fun hk=>?_,fun hk1=>⟨fun hk=>?_,fun hk2=>⟨fun hk=>?_,fun hk3=>⟨fun hk=>?_,fun hk4=>⟨fun hk=>?_,fun hk5=>⟨fun hk=>?_,fun hk6=>?_⟩⟩⟩⟩⟩⟩
 ·have hk:k=1:=by simpa using hk
  refine ⟨f,b1.cell rfl,_,_,_,_,_,sd,b3.row,fake,b1.cell rfl,?_⟩
  refine (c_ref11_promise w2.heap.size f hf (Sp.dealT c x) fake sd w5 s5 hD5).mono ?_
  rintro _ w6 ⟨s,rfl,hT,E6⟩
  exact ⟨_,_,_,_,_,s,rfl,fin _ s w6 E6 hT (by rw [← hR];simp only [Sp.letterT];rw [if_pos hk])⟩
 ·have hk:k=2:=by simpa using hk
  refine ⟨f,b1.cell rfl,_,_,_,_,_,sd,b3.row,?_⟩
  refine (c_ref11_sign w2.heap.size f (Sp.dealT c x) sd w5 s5 hD5).mono ?_
  rintro _ w6 ⟨s,rfl,hT,E6⟩
  exact ⟨_,_,_,_,_,s,rfl,fin _ s w6 E6 hT (by rw [← hR];simp only [Sp.letterT];rw [if_neg (by omega),if_pos hk])⟩
 ·have hk:k=3:=by simpa using hk
  refine ⟨C,hC,?_⟩
  intro w10 hw10
  have E10:Pure w5 w10:=by rw [hw10];exact Ext.drew w5
  have hC10:C w10:=by rw [hw10];exact hC
  clear hw10
  have s10:=E10.size
  refine ⟨c,fun w' h=>(hCb w' h).1.cell rfl,?_⟩
  refine (c_ref11_data w2.heap.size _ w10 (by omega)).mono ?_
  rintro _ w11 ⟨sa,rfl,hA,E11⟩
  have s11:=E11.size
  refine ⟨_,_,_,_,_,sa,rfl,hCp _ _ E11 hC10,?_⟩
  refine (c_ref11_number w2.heap.size c w11 (by omega)).mono ?_
  rintro _ w12 ⟨sb,rfl,hB,E12⟩
  have s12:=E12.size
  refine ⟨_,_,_,_,_,sb,rfl,?_⟩
  refine (c_ref11_pair w2.heap.size (Sp.dataT Sp.wAbort) (Sp.numT c) sa sb w12 (by omega) (hA.pure E12) hB).mono ?_
  rintro _ w13 ⟨se,rfl,hE,E13⟩
  have s13:=E13.size
  refine ⟨_,_,_,_,_,se,rfl,?_⟩
  refine (c_ref11_sign w2.heap.size 0 (Sp.pairT (Sp.dataT Sp.wAbort) (Sp.numT c)) se w13 (by omega) hE).mono ?_
  rintro _ w14 ⟨s,rfl,hT,E14⟩
  exact ⟨_,_,_,_,_,s,rfl,fin _ s w14 ((((E10.trans E11).trans E12).trans E13).trans E14) hT (by rw [← hR];simp only [Sp.letterT];rw [if_neg (by omega),if_neg (by omega),if_pos hk])⟩
 ·have hk:k=4:=by simpa using hk
  refine ⟨C,hC,?_⟩
  intro w10 hw10
  have E10:Pure w5 w10:=by rw [hw10];exact Ext.drew w5
  have hC10:C w10:=by rw [hw10];exact hC
  clear hw10
  have s10:=E10.size
  refine ⟨f,fun w' h=>(hCb w' h).1.cell rfl,_,_,_,_,_,sd,fun w' h=>(hCb w' h).2.row,fake,fun w' h=>(hCb w' h).1.cell rfl,_,_,_,_,_,sd,fun w' h=>(hCb w' h).2.row,fake,fun w' h=>(hCb w' h).1.cell rfl,?_⟩
  refine (c_ref11_data w2.heap.size _ w10 (by omega)).mono ?_
  rintro _ w11 ⟨sa,rfl,hA,E11⟩
  have s11:=E11.size
  have hD11:=hD5.pure (E10.trans E11)
  have hC11:=hCp _ _ E11 hC10
  refine ⟨_,_,_,_,_,sa,rfl,hC11,?_⟩
  have rest : ∀ (u v : Bool) (sx sy : Sl) (w' : World), u = (fake && first) → v = (fake && second) → Pure w11 w' → TreeAt (w2.heap.size ≤ ·) w' sx (Sp.promT 0 (Sp.dealT c x) u) → TreeAt (w2.heap.size ≤ ·) w' sy (Sp.promT 1 (Sp.dealT c x) v) →
    Calls prog 23 #[.agg (trow (Sp.promT 0 (Sp.dealT c x) u) sx).toArray,.agg (trow (Sp.promT 1 (Sp.dealT c x) v) sy).toArray] w' (fun e wa=>∃k1 f1 t1 u1 y1,∃s1:Sl,e=.returned (.agg #[.int .i64 k1,.int .i64 f1,.int .i64 t1,.int .u64 u1,.string y1,s1.v])∧C wa ∧
     Calls prog 23 #[.agg (trow (Sp.dataT Sp.wResolve) sa).toArray,.agg #[.int .i64 k1,.int .i64 f1,.int .i64 t1,.int .u64 u1,.string y1,s1.v]] wa (fun e wb=>∃k1 f1 t1 u1 y1,∃s1:Sl,e=.returned (.agg #[.int .i64 k1,.int .i64 f1,.int .i64 t1,.int .u64 u1,.string y1,s1.v])∧C wb ∧
      Calls prog 22 #[.int .i64 f,.agg #[.int .i64 k1,.int .i64 f1,.int .i64 t1,.int .u64 u1,.string y1,s1.v]] wb (fun e wc=>∃k1 f1 t1 u1 y1,∃s1:Sl,e=.returned (.agg #[.int .i64 k1,.int .i64 f1,.int .i64 t1,.int .u64 u1,.string y1,s1.v]) ∧
       (∀j,j<6→CanW wc (p2.add j))∧∀w'':World,w''=storeRow wc p2 [.int .i64 k1,.int .i64 f1,.int .i64 t1,.int .u64 u1,.string y1,s1.v] →
   ∃qKind1:Int,∃qFrom1:Int,∃qTo1:Int,∃qNum1:Int,∃qText1:ByteArray,∃qKids1:Sl,Row w'' p2 [(.int .i64 qKind1),(.int .i64 qFrom1),(.int .i64 qTo1),(.int .u64 qNum1),(.string qText1),qKids1.v]∧K qKind1 qFrom1 qTo1 qNum1 qText1 qKids1 w''))):=by
   intro u v sx sy w' hu hv E hX hY
   have s':=E.size
   refine (c_ref11_pair w2.heap.size (Sp.promT 0 (Sp.dealT c x) u) (Sp.promT 1 (Sp.dealT c x) v) sx sy w' (by omega) hX hY).mono ?_
   rintro _ wa ⟨s1,rfl,h1,Ea⟩
   have sa':=Ea.size
   refine ⟨_,_,_,_,_,s1,rfl,hCp _ _ (E.trans Ea) hC11,?_⟩
   refine (c_ref11_pair w2.heap.size (Sp.dataT Sp.wResolve) (Sp.pairT (Sp.promT 0 (Sp.dealT c x) u) (Sp.promT 1 (Sp.dealT c x) v)) sa s1 wa (by omega) (hA.pure (E.trans Ea)) h1).mono ?_
   rintro _ wb ⟨s2,rfl,h2,Eb⟩
   have sb':=Eb.size
   refine ⟨_,_,_,_,_,s2,rfl,hCp _ _ ((E.trans Ea).trans Eb) hC11,?_⟩
   refine (c_ref11_sign w2.heap.size f (Sp.pairT (Sp.dataT Sp.wResolve) (Sp.pairT (Sp.promT 0 (Sp.dealT c x) u) (Sp.promT 1 (Sp.dealT c x) v))) s2 wb (by omega) h2).mono ?_
   rintro _ wc ⟨s3,rfl,h3,Ec⟩
   exact ⟨_,_,_,_,_,s3,rfl,fin _ s3 wc (((((E10.trans E11).trans E).trans Ea).trans Eb).trans Ec) h3 (by rw [← hR,hu,hv];simp only [Sp.letterT];rw [if_neg (by omega),if_neg (by omega),if_neg (by omega),if_pos hk])⟩
  refine ⟨fun hfk=>?_,fun hfk=>?_⟩
  ·refine (c_ref11_promise w2.heap.size 0 (.inl rfl) (Sp.dealT c x) first sd w11 (by omega) hD11).mono ?_
   rintro _ w12 ⟨sx,rfl,hX,E12⟩
   have s12:=E12.size
   refine ⟨_,_,_,_,_,sx,rfl,hCp _ _ E12 hC11,Br.t hfk ?_⟩
   refine (c_ref11_promise w2.heap.size 1 (.inr rfl) (Sp.dealT c x) second sd w12 (by omega) (hD11.pure E12)).mono ?_
   rintro _ w13 ⟨sy,rfl,hY,E13⟩
   exact ⟨_,_,_,_,_,sy,rfl,hCp _ _ (E12.trans E13) hC11,rest first second sx sy w13 (by rw [hfk];rfl) (by rw [hfk];rfl) (E12.trans E13) (hX.pure E13) hY⟩
  ·refine (c_ref11_promise w2.heap.size 0 (.inl rfl) (Sp.dealT c x) false sd w11 (by omega) hD11).mono ?_
   rintro _ w12 ⟨sx,rfl,hX,E12⟩
   have s12:=E12.size
   refine ⟨_,_,_,_,_,sx,rfl,hCp _ _ E12 hC11,Br.f hfk ?_⟩
   refine (c_ref11_promise w2.heap.size 1 (.inr rfl) (Sp.dealT c x) false sd w12 (by omega) (hD11.pure E12)).mono ?_
   rintro _ w13 ⟨sy,rfl,hY,E13⟩
   exact ⟨_,_,_,_,_,sy,rfl,hCp _ _ (E12.trans E13) hC11,rest false false sx sy w13 (by rw [hfk];rfl) (by rw [hfk];rfl) (E12.trans E13) (hX.pure E13) hY⟩
 ·have hk:k=5:=by simpa using hk
  refine ⟨C,hC,?_⟩
  intro w10 hw10
  have E10:Pure w5 w10:=by rw [hw10];exact Ext.drew w5
  have hC10:C w10:=by rw [hw10];exact hC
  clear hw10
  have s10:=E10.size
  refine ⟨c,fun w' h=>(hCb w' h).1.cell rfl,?_⟩
  refine (c_ref11_data w2.heap.size _ w10 (by omega)).mono ?_
  rintro _ w11 ⟨sa,rfl,hA,E11⟩
  have s11:=E11.size
  refine ⟨_,_,_,_,_,sa,rfl,hCp _ _ E11 hC10,?_⟩
  refine (c_ref11_number w2.heap.size c w11 (by omega)).mono ?_
  rintro _ w12 ⟨sb,rfl,hB,E12⟩
  have s12:=E12.size
  refine ⟨_,_,_,_,_,sb,rfl,?_⟩
  refine (c_ref11_pair w2.heap.size (Sp.dataT Sp.wAborted) (Sp.numT c) sa sb w12 (by omega) (hA.pure E12) hB).mono ?_
  rintro _ w13 ⟨se,rfl,hE,E13⟩
  have s13:=E13.size
  refine ⟨_,_,_,_,_,se,rfl,?_⟩
  refine (c_ref11_sign w2.heap.size 2 (Sp.pairT (Sp.dataT Sp.wAborted) (Sp.numT c)) se w13 (by omega) hE).mono ?_
  rintro _ w14 ⟨s,rfl,hT,E14⟩
  exact ⟨_,_,_,_,_,s,rfl,fin _ s w14 ((((E10.trans E11).trans E12).trans E13).trans E14) hT (by rw [← hR];simp only [Sp.letterT];rw [if_neg (by omega),if_neg (by omega),if_neg (by omega),if_neg (by omega),if_pos hk])⟩
 ·have hk:k=6:=by simpa using hk
  refine ⟨C,hC,?_⟩
  intro w10 hw10
  have E10:Pure w5 w10:=by rw [hw10];exact Ext.drew w5
  have hC10:C w10:=by rw [hw10];exact hC
  clear hw10
  have s10:=E10.size
  refine ⟨_,_,_,_,_,sd,fun w' h=>(hCb w' h).2.row,?_⟩
  refine (c_ref11_data w2.heap.size _ w10 (by omega)).mono ?_
  rintro _ w11 ⟨sa,rfl,hA,E11⟩
  have s11:=E11.size
  refine ⟨_,_,_,_,_,sa,rfl,hCp _ _ E11 hC10,?_⟩
  refine (c_ref11_pair w2.heap.size (Sp.dataT Sp.wInstead) (Sp.dealT c x) sa sd w11 (by omega) hA (hD5.pure (E10.trans E11))).mono ?_
  rintro _ w13 ⟨se,rfl,hE,E13⟩
  have s13:=E13.size
  refine ⟨_,_,_,_,_,se,rfl,?_⟩
  refine (c_ref11_sign w2.heap.size 2 (Sp.pairT (Sp.dataT Sp.wInstead) (Sp.dealT c x)) se w13 (by omega) hE).mono ?_
  rintro _ w14 ⟨s,rfl,hT,E14⟩
  exact ⟨_,_,_,_,_,s,rfl,fin _ s w14 (((E10.trans E11).trans E13).trans E14) hT (by rw [← hR];simp only [Sp.letterT];rw [if_neg (by omega),if_neg (by omega),if_neg (by omega),if_neg (by omega),if_neg (by omega),if_pos hk])⟩
 ·have hk1:k≠1:=by simpa using hk1
  have hk2:k≠2:=by simpa using hk2
  have hk3:k≠3:=by simpa using hk3
  have hk4:k≠4:=by simpa using hk4
  have hk5:k≠5:=by simpa using hk5
  have hk6:k≠6:=by simpa using hk6
  refine ⟨C,hC,?_⟩
  intro w10 hw10
  have E10:Pure w5 w10:=by rw [hw10];exact Ext.drew w5
  have hC10:C w10:=by rw [hw10];exact hC
  clear hw10
  have s10:=E10.size
  refine ⟨c,fun w' h=>(hCb w' h).1.cell rfl,?_⟩
  refine (c_ref11_data w2.heap.size _ w10 (by omega)).mono ?_
  rintro _ w11 ⟨sa,rfl,hA,E11⟩
  have s11:=E11.size
  refine ⟨_,_,_,_,_,sa,rfl,hCp _ _ E11 hC10,?_⟩
  refine (c_ref11_number w2.heap.size c w11 (by omega)).mono ?_
  rintro _ w12 ⟨sb,rfl,hB,E12⟩
  have s12:=E12.size
  refine ⟨_,_,_,_,_,sb,rfl,?_⟩
  refine (c_ref11_pair w2.heap.size (Sp.dataT Sp.wFull) (Sp.numT c) sa sb w12 (by omega) (hA.pure E12) hB).mono ?_
  rintro _ w13 ⟨s,rfl,hT,E13⟩
  exact ⟨_,_,_,_,_,s,rfl,fin _ s w13 (((E10.trans E11).trans E12).trans E13) hT (by rw [← hR];simp only [Sp.letterT];rw [if_neg hk1,if_neg hk2,if_neg hk3,if_neg hk4,if_neg hk5,if_neg hk6])⟩
end Go.Proofs
end
section
open Go Go.SE
namespace Go.Sp
def rdNode (L:Pool) (t kind:Int):Node×Bool:=if inP L t=true∧(nodeOf L t).kind=kind then (nodeOf L t,false) else (noNode,true)
def rdTagged (L:Pool) (t:Int):(ByteArray×Int)×Bool :=
 (((rdNode L (rdNode L t 4).1.a 3).1.text,(rdNode L t 4).1.b),(rdNode L t 4).2 || (rdNode L (rdNode L t 4).1.a 3).2)
def rdDeal (L:Pool) (t:Int):(Int×ByteArray)×Bool :=
 let g:=rdTagged L t
 let n:=rdNode L g.1.2 4
 (((rdNode L n.1.a 2).1.num,(rdNode L n.1.b 3).1.text),g.2 || n.2 || !decide (g.1.1=wDeal) || (rdNode L n.1.a 2).2 || (rdNode L n.1.b 3).2)
end Go.Sp
namespace Go.Proofs
open Tryd
attribute [local irreducible] Calls
def PoolN (w:World) (q:Option Addr) (L:Sp.Pool) (F:NP):Prop:=match q with
 | some p=>PoolAt w p L F
 | none=>L=[]∧∀b,¬ F b
theorem PoolN.ext {G:NP} {w w':World} {p:Option Addr} {L:Sp.Pool} {F:NP} (h:PoolN w p L F) (hE:Ext G w w') (hd:∀b,F b→¬ G b):PoolN w' p L F:=by
 cases p with
 | none=>exact h
 | some p=>exact PoolAt.ext h hE hd
theorem PoolN.pure {w w':World} {p:Option Addr} {L:Sp.Pool} {F:NP} (h:PoolN w p L F) (hE:Pure w w'):PoolN w' p L F:=h.ext hE (fun _ _ h=>h)
theorem PoolN.lt {w:World} {p:Option Addr} {L:Sp.Pool} {F:NP} (h:PoolN w p L F) {b:Nat} (hb:F b):b<w.heap.size:=by
 cases p with
 | none=>exact absurd hb (h.2 b)
 | some p=>exact PoolAt.lt h hb
theorem c_NodeN (p : Option Addr) (t : Int) (w : World) {L : Sp.Pool} {F : NP} (hP : PoolN w p L F) (hok : Sp.Ok L) : Calls prog 49 #[.pointer p, .int .i64 t] w
  (fun e w'=>∃k:Int,∃f:Int,∃t':Int,∃u:Int,∃x:ByteArray,∃a:Int,∃b:Int,∃r:Bool,e=.returned (.tuple #[.agg #[.int .i64 k,.int .i64 f,.int .i64 t',.int .u64 u,.string x,.int .i64 a,.int .i64 b],.bool r])∧(((⟨k,f,t',u,x,a,b⟩:Sp.Node)=Sp.nodeOf L t∧r=Sp.inP L t)∧Pure w w')):=by
 cases p with
 | some p=>exact c_Node p t w hP hok
 | none =>
  obtain ⟨rfl,_⟩:=hP
  have hin0:Sp.inP [] t=false:=by cases h:Sp.inP [] t;rfl;have:=Sp.inP_iff.1 h;simp at this;omega
  have hno:Sp.nodeOf [] t=⟨0,0,0,0,⟨#[]⟩,0,0⟩:=by unfold Sp.nodeOf Sp.get;split <;> simp [Sp.noNode]
  rw [hin0,hno]
  refine w_R none t w (fun k f t' u x a b r w'=>((⟨k,f,t',u,x,a,b⟩:Sp.Node)=⟨0,0,0,0,⟨#[]⟩,0,0⟩∧r=false)∧Pure w w') ?_
  unfold m_R
  intro p1 w1 h1
  have E1:Pure w w1:=Ext.new h1
  have b1:=Box.of_new h1
  have hp:=New.own (Ext.refl w) h1
  have hin:Calls prog 57 #[.pointer none,.int .i64 t] w1 (fun e w'=>∃r,e=.returned (.bool r)∧(r=false∧w'=w1)):=by
   refine w_I _ _ w1 (fun r w'=>r=false∧w'=w1) ?_
   unfold m_I
   have j1:m_I_j1 none t false w1 (fun r w'=>r=false∧w'=w1):=by
    unfold m_I_j1
    first
     | exact Br.f rfl ⟨rfl,rfl⟩
     | exact ⟨rfl,rfl⟩
     | (unfold m_I_j2;exact Br.f rfl ⟨rfl,rfl⟩)
     | (refine Br.f rfl ?_;unfold m_I_j2;exact ⟨rfl,rfl⟩)
   first
    | exact Br.f rfl j1
    | exact Br.t rfl j1
  refine hin.mono ?_
  rintro _ _ ⟨_,rfl,rfl,rfl⟩
  exact ⟨_,rfl,fun h1=>bx 7 b1 rfl rfl (fun w' b E=>⟨_,_,_,_,_,_,_,b.row,⟨rfl,rfl⟩,E1.own hp E⟩),fun h1=>by cases h1⟩
structure ReaderAt (w:World) (r:Addr) (p:Option Addr) (bad:Bool) (L:Sp.Pool) (F:NP):Prop where
 box:Box w r [.pointer p,.bool bad] 110
 pool:PoolN w p L F
 ok:Sp.Ok L
 out:¬ F r.block
theorem ReaderAt.pure {w w':World} {r:Addr} {p:Option Addr} {bad:Bool} {L:Sp.Pool} {F:NP} (h:ReaderAt w r p bad L F) (E:Pure w w'):ReaderAt w' r p bad L F:=⟨h.box.pure E,h.pool.pure E,h.ok,h.out⟩
theorem c_rd_node (r : Addr) (p : Option Addr) (t kind : Int) (bad : Bool) (w : World) {L : Sp.Pool} {F : NP} (hR : ReaderAt w r p bad L F) :
  Calls prog 53 #[.pointer (some r),.int .i64 t,.int .i64 kind] w
   (fun e w'=>∃k':Int,∃f':Int,∃t':Int,∃u':Int,∃x':ByteArray,∃a':Int,∃b':Int,e=.returned (.agg #[.int .i64 k',.int .i64 f',.int .i64 t',.int .u64 u',.string x',.int .i64 a',.int .i64 b'])∧((⟨k',f',t',u',x',a',b'⟩:Sp.Node)=(Sp.rdNode L t kind).1∧ReaderAt w' r p (bad || (Sp.rdNode L t kind).2) L F∧Ext (·=r.block) w w')):=by
 suffices key:∀K:Int→Int→Int→Int→ByteArray→Int→Int→WP,(∀k' f' t' u' x' a' b' w',((⟨k',f',t',u',x',a',b'⟩:Sp.Node)=(Sp.rdNode L t kind).1∧ReaderAt w' r p (bad || (Sp.rdNode L t kind).2) L F∧Ext (·=r.block) w w')→K k' f' t' u' x' a' b' w')→m_X (some r) t kind w K from
  w_X _ _ _ w _ (key _ (fun _ _ _ _ _ _ _ _ h=>h))
 intro K hK
 unfold m_X
 intro p1 w1 h1
 have E1:Pure w w1:=Ext.new h1
 have o1:=New.own (Ext.refl w) h1
 have lr:=hR.box.lt
 have b1:=Box.of_new h1
 refine ⟨r,rfl,p,(hR.box.pure E1).cell0,?_⟩
 refine (c_NodeN p t w1 (hR.pool.pure E1) hR.ok).mono ?_
 rintro _ w2 ⟨k',f',t',u',x',a',b',ok,rfl,⟨hn,hok⟩,E12⟩
 refine ⟨_,_,_,_,_,_,_,_,rfl,?_⟩
 intro p2 w3 h3
 have E2:Pure w w2:=E1.trans E12
 have o3:=New.own E2 h3
 have n12:p1.block≠p2.block:=New.ne h3 (b1.pure E12).blk
 refine bx 7 (Box.of_new h3) rfl rfl (fun w4 b2 E'=>?_)
 have E4:Pure w w4:=(E2.trans (Ext.new h3)).own o3 E'
 have c1:=((b1.pure E12).pure (Ext.new h3)).ext E' n12
 have hR4:=hR.pure E4
 clear E' E2 E12 b1 h1 h3
 have bad1 : Sp.rdNode L t kind = (Sp.noNode, true) → CanW w4 (r.add 1) ∧ ∀ w5 : World, w5 = w4.setCell (r.add 1) (.bool true) →
   (∀j,j<7→CanW w5 (p1.add j))∧∀w6:World,w6=storeRow w5 p1 [(.int .i64 0),(.int .i64 0),(.int .i64 0),(.int .u64 0),(.string (⟨#[]⟩:ByteArray)),(.int .i64 0),(.int .i64 0)] →
   ∃qKind1:Int,∃qFrom1:Int,∃qTo1:Int,∃qNum1:Int,∃qText1:ByteArray,∃qA1:Int,∃qB1:Int,Row w6 p1 [(.int .i64 qKind1),(.int .i64 qFrom1),(.int .i64 qTo1),(.int .u64 qNum1),(.string qText1),(.int .i64 qA1),(.int .i64 qB1)] ∧
   K qKind1 qFrom1 qTo1 qNum1 qText1 qA1 qB1 w6:=by
  intro hrd
  refine ⟨hR4.box.canW (by simp),?_⟩
  intro w5 hw5
  have d5:Box w5 r [.pointer p,.bool true] 110:=by rw [hw5];exact hR4.box.set 1 _
  have E5:Ext (·=r.block) w4 w5:=by rw [hw5];have:=Ext.setCell (w:=w4) (r.add 1) (.bool true);rw [add_block] at this;exact this
  clear hw5
  have n1r:p1.block≠r.block:=by omega
  refine bx 7 (c1.ext E5 n1r) rfl rfl (fun w6 b6 E6=>⟨_,_,_,_,_,_,_,b6.row,hK _ _ _ _ _ _ _ _ ⟨by rw [hrd];rfl,⟨?_,?_,hR.ok,hR.out⟩,?_⟩⟩)
  ·rw [hrd];simp only [Bool.or_true];exact d5.ext E6 n1r.symm
  ·exact (hR4.pool.ext E5 (fun b hb e=>hR.out (e▸hb))).ext E6 (fun b hb e=>by have:=hR.pool.lt hb;omega)
  ·exact (E4.pure.trans E5).trans' E6 (fun i hi h=>by omega)
 refine ⟨fun h=>⟨r,rfl,?_⟩,fun h=>⟨k',b2.cell0,fun h2=>⟨r,rfl,?_⟩,fun h2=>?_⟩⟩
 ·refine bad1 ?_
  have:¬ Sp.inP L t=true:=by rw [← hok];simpa using h
  unfold Sp.rdNode;rw [if_neg (fun h=>this h.1)]
 ·refine bad1 ?_
  have:(Sp.nodeOf L t).kind≠kind:=by rw [← hn];simpa using h2
  unfold Sp.rdNode;rw [if_neg (fun h=>this h.2)]
 ·have hi:Sp.inP L t=true:=by rw [← hok];simpa using h
  have hk:(Sp.nodeOf L t).kind=kind:=by rw [← hn];simpa using h2
  have hrd:Sp.rdNode L t kind=(Sp.nodeOf L t,false):=by unfold Sp.rdNode;rw [if_pos ⟨hi,hk⟩]
  refine ⟨_,_,_,_,_,_,_,b2.row,bx 7 c1 rfl rfl (fun w6 b6 E6=>⟨_,_,_,_,_,_,_,b6.row,hK _ _ _ _ _ _ _ _ ⟨by rw [hrd];exact hn,?_,?_⟩⟩)⟩
  ·rw [hrd];simp only [Bool.or_false]
   exact hR.pure (E4.own o1 E6)
  ·exact (E4.own o1 E6).pure
theorem c_rd_tagged (r : Addr) (p : Option Addr) (t : Int) (bad : Bool) (w : World) {L : Sp.Pool} {F : NP} (hR : ReaderAt w r p bad L F) :
  Calls prog 52 #[.pointer (some r),.int .i64 t] w
   (fun e w'=>∃x:ByteArray,∃b:Int,e=.returned (.tuple #[.string x,.int .i64 b])∧((x,b)=(Sp.rdTagged L t).1∧ReaderAt w' r p (bad || (Sp.rdTagged L t).2) L F∧Ext (·=r.block) w w')):=by
 suffices key:∀K:ByteArray→Int→WP,(∀x b w',((x,b)=(Sp.rdTagged L t).1∧ReaderAt w' r p (bad || (Sp.rdTagged L t).2) L F∧Ext (·=r.block) w w')→K x b w')→m_W (some r) t w K from
  w_W _ _ w _ (key _ (fun _ _ _ h=>h))
 intro K hK
 unfold m_W
 refine (c_rd_node r p t 4 bad w hR).mono ?_
 rintro _ w1 ⟨k1,f1,t1,u1,x1,a1,b1,rfl,hn,hR1,E1⟩
 refine ⟨_,_,_,_,_,_,_,rfl,?_⟩
 intro p1 w2 h2
 have o2:=New.own (Ext.refl w1) h2
 refine bx 7 (Box.of_new h2) rfl rfl (fun w3 b3 E'=>?_)
 have E3:Pure w1 w3:=Ext.own (Ext.new h2) o2 E'
 have l1:=hR1.box.lt
 refine ⟨fun w'=>Box w' p1 [.int .i64 k1,.int .i64 f1,.int .i64 t1,.int .u64 u1,.string x1,.int .i64 a1,.int .i64 b1] 80,b3.pure (Ext.drew w3),?_⟩
 intro w4 hw4
 have E4:Pure w1 w4:=by rw [hw4];exact E3.thenPure (Ext.drew w3)
 have c4:Box w4 p1 [.int .i64 k1,.int .i64 f1,.int .i64 t1,.int .u64 u1,.string x1,.int .i64 a1,.int .i64 b1] 80:=by rw [hw4];exact b3.pure (Ext.drew w3)
 clear hw4
 refine ⟨a1,fun w' h=>h.cell rfl,b1,fun w' h=>h.cell rfl,?_⟩
 refine (c_rd_node r p a1 3 _ w4 (hR1.pure E4)).mono ?_
 rintro _ w5 ⟨k2,f2,t2,u2,x2,a2,b2,rfl,hn2,hR2,E5⟩
 refine ⟨_,_,_,_,_,_,_,rfl,c4.ext E5 (by omega),hK _ _ _ ⟨?_,?_,?_⟩⟩
 ·have ea:a1=(Sp.rdNode L t 4).1.a:=by rw [← hn]
  have eb:b1=(Sp.rdNode L t 4).1.b:=by rw [← hn]
  simp only [Sp.rdTagged,← ea,← eb,← hn2]
 ·have ea:a1=(Sp.rdNode L t 4).1.a:=by rw [← hn]
  rw [ea] at hR2
  simp only [Sp.rdTagged,← Bool.or_assoc]
  exact hR2
 ·exact (E1.thenPure E4).trans E5
end Go.Proofs
end
section
open Go Go.SE
namespace Go.Sp
def rdPromise (L:Pool) (t:Int):Letter×Bool :=
 let n:=nodeOf L t
 if (n.kind≠8∧n.kind≠9)∨1<n.frm∨n.to≠IntKind.i64.wrap (1 - n.frm) then (noLetter,true)
 else (⟨1,n.frm,(rdDeal L n.a).1.1,(rdDeal L n.a).1.2,n.kind == 9⟩,(rdDeal L n.a).2)
end Go.Sp
namespace Go.Proofs
open Tryd
attribute [local irreducible] Calls
theorem c_rd_deal (r : Addr) (p : Option Addr) (t : Int) (bad : Bool) (w : World) {L : Sp.Pool} {F : NP} (hR : ReaderAt w r p bad L F) :
  Calls prog 60 #[.pointer (some r),.int .i64 t] w
   (fun e w'=>∃c:Int,∃x:ByteArray,e=.returned (.tuple #[.int .u64 c,.string x])∧((c,x)=(Sp.rdDeal L t).1∧ReaderAt w' r p (bad || (Sp.rdDeal L t).2) L F∧Ext (·=r.block) w w')):=by
 suffices key:∀K:Int→ByteArray→WP,(∀c x w',((c,x)=(Sp.rdDeal L t).1∧ReaderAt w' r p (bad || (Sp.rdDeal L t).2) L F∧Ext (·=r.block) w w')→K c x w')→m_K (some r) t w K from
  w_K _ _ w _ (key _ (fun _ _ _ h=>h))
 intro K hK
 unfold m_K
 refine (c_rd_tagged r p t bad w hR).mono ?_
 rintro _ w1 ⟨x1,y1,rfl,hg,hR1,E1⟩
 refine ⟨_,_,rfl,?_⟩
 refine (c_rd_node r p y1 4 _ w1 hR1).mono ?_
 rintro _ w2 ⟨k2,f2,t2,u2,x2,a2,b2,rfl,hn,hR2,E2⟩
 refine ⟨_,_,_,_,_,_,_,rfl,?_⟩
 intro p1 w3 h3
 have o3:=New.own (Ext.refl w2) h3
 have l2:=hR2.box.lt
 refine bx 7 (Box.of_new h3) rfl rfl (fun w4 b4 E'=>?_)
 have E4:Pure w2 w4:=Ext.own (Ext.new h3) o3 E'
 have hR4:=hR2.pure E4
 clear E' h3
 have ey:y1=(Sp.rdTagged L t).1.2:=congrArg Prod.snd hg
 have ex:x1=(Sp.rdTagged L t).1.1:=congrArg Prod.fst hg
 have ea:a2=(Sp.rdNode L y1 4).1.a:=by rw [← hn]
 have eb:b2=(Sp.rdNode L y1 4).1.b:=by rw [← hn]
 generalize hb4:(bad || (Sp.rdTagged L t).2 || (Sp.rdNode L y1 4).2)=bad4 at *
 have fin:∀(v:Bool) (w5:World),(v=(bad4 || !decide (x1=Sp.wDeal)))→Box w5 r [.pointer p,.bool v] 110→Ext (·=r.block) w4 w5→m_K_j1 (some r) p1 w5 K:=by
  intro v w5 hv B5 E5
  have hR5:ReaderAt w5 r p v L F:=⟨B5,hR4.pool.ext E5 (fun b hb e=>hR.out (e▸hb)),hR.ok,hR.out⟩
  have c5:=b4.ext E5 (by omega)
  unfold m_K_j1
  refine ⟨fun w'=>Box w' p1 [.int .i64 k2,.int .i64 f2,.int .i64 t2,.int .u64 u2,.string x2,.int .i64 a2,.int .i64 b2] 80,c5.pure (Ext.drew w5),?_⟩
  intro w6 hw6
  have E6:Pure w5 w6:=by rw [hw6];exact Ext.drew w5
  clear hw6
  have c6:=c5.pure E6
  refine ⟨a2,fun w' h=>h.cell rfl,b2,fun w' h=>h.cell rfl,?_⟩
  refine (c_rd_node r p a2 2 _ w6 (hR5.pure E6)).mono ?_
  rintro _ w7 ⟨k3,f3,t3,u3,x3,a3,b3,rfl,hn3,hR7,E7⟩
  have c7:=c6.ext E7 (by omega)
  refine ⟨_,_,_,_,_,_,_,rfl,c7,?_⟩
  refine (c_rd_node r p b2 3 _ w7 hR7).mono ?_
  rintro _ w8 ⟨k4,f4,t4,u4,x4,a4,b4',rfl,hn4,hR8,E8⟩
  have e3:u3=(Sp.rdNode L a2 2).1.num:=by rw [← hn3]
  have e4:x4=(Sp.rdNode L b2 3).1.text:=by rw [← hn4]
  refine ⟨_,_,_,_,_,_,_,rfl,c7.ext E8 (by omega),hK _ _ _ ⟨?_,?_,?_⟩⟩
  ·simp only [Sp.rdDeal,← ey,← ea,← eb,← e3,← e4]
  ·have : (bad || (Sp.rdDeal L t).2) = (v || (Sp.rdNode L a2 2).2 || (Sp.rdNode L b2 3).2) := by
    simp only [Sp.rdDeal,← ey,← ea,← eb,← ex,hv,← hb4,Bool.or_assoc]
   rw [this];exact hR8
  ·exact ((((E1.trans E2).thenPure E4).trans E5).thenPure E6 |>.trans E7).trans E8
 have setr:∀v:Bool,Box (w4.setCell (r.add 1) (.bool v)) r [.pointer p,.bool v] 110∧Ext (·=r.block) w4 (w4.setCell (r.add 1) (.bool v)):=fun v =>
  ⟨hR4.box.set 1 _,by have:=Ext.setCell (w:=w4) (r.add 1) (.bool v);rw [add_block] at this;exact this⟩
 refine ⟨r,rfl,bad4,hR4.box.cell rfl,fun h=>⟨r,rfl,hR4.box.canW (by simp),?_⟩,fun h=>⟨r,rfl,hR4.box.canW (by simp),?_⟩⟩
 ·intro w8 hw8
  have:=setr true
  exact fin true w8 (by rw [h];rfl) (by rw [hw8];exact this.1) (by rw [hw8];exact this.2)
 ·intro w8 hw8
  have:=setr (!decide (x1=Sp.wDeal))
  exact fin (!decide (x1=Sp.wDeal)) w8 (by rw [h];rfl) (by rw [hw8];exact this.1) (by rw [hw8];exact this.2)
theorem c_rd_promise (r : Addr) (p : Option Addr) (t : Int) (bad : Bool) (w : World) {L : Sp.Pool} {F : NP} (hR : ReaderAt w r p bad L F) :
  Calls prog 51 #[.pointer (some r),.int .i64 t] w
   (fun e w'=>∃k:Int,∃f:Int,∃c:Int,∃x:ByteArray,∃fk:Bool,e=.returned (.agg #[.int .i64 k,.int .i64 f,.int .u64 c,.string x,.bool fk])∧((⟨k,f,c,x,fk⟩:Sp.Letter)=(Sp.rdPromise L t).1∧ReaderAt w' r p (bad || (Sp.rdPromise L t).2) L F∧Ext (·=r.block) w w')):=by
 suffices key:∀K:Int→Int→Int→ByteArray→Bool→WP,(∀k f c x fk w',((⟨k,f,c,x,fk⟩:Sp.Letter)=(Sp.rdPromise L t).1∧ReaderAt w' r p (bad || (Sp.rdPromise L t).2) L F∧Ext (·=r.block) w w')→K k f c x fk w')→m_G (some r) t w K from
  w_G _ _ w _ (key _ (fun _ _ _ _ _ _ h=>h))
 intro K hK
 unfold m_G
 intro p1 w1 h1
 have E1:Pure w w1:=Ext.new h1
 have o1:=New.own (Ext.refl w) h1
 have lr:=hR.box.lt
 have b1:=Box.of_new h1
 refine ⟨r,rfl,p,(hR.box.pure E1).cell0,?_⟩
 refine (c_NodeN p t w1 (hR.pool.pure E1) hR.ok).mono ?_
 rintro _ w2 ⟨k,f,t',u,x,a,b,ok,rfl,⟨hn,hok⟩,E12⟩
 refine ⟨_,_,_,_,_,_,_,_,rfl,?_⟩
 intro p2 w3 h3
 have E2:Pure w w2:=E1.trans E12
 have o3:=New.own E2 h3
 have n12:p1.block≠p2.block:=New.ne h3 (b1.pure E12).blk
 refine bx 7 (Box.of_new h3) rfl rfl (fun w4 b2 E'=>?_)
 have E4:Pure w w4:=(E2.trans (Ext.new h3)).own o3 E'
 have c1:=((b1.pure E12).pure (Ext.new h3)).ext E' n12
 have hR4:=hR.pure E4
 clear E' E2 E12 b1 h1 h3
 have n1r:p1.block≠r.block:=by omega
 have hsp:Sp.rdPromise L t=if (k≠8∧k≠9)∨1<f∨t'≠IntKind.i64.wrap (1 - f) then (Sp.noLetter,true) else (⟨1,f,(Sp.rdDeal L a).1.1,(Sp.rdDeal L a).1.2,k == 9⟩,(Sp.rdDeal L a).2):=by
  simp only [Sp.rdPromise,← hn]
 have bad1 : ((k ≠ 8 ∧ k ≠ 9) ∨ 1 < f ∨ t' ≠ IntKind.i64.wrap (1 - f)) → CanW w4 (r.add 1) ∧ ∀ w5 : World, w5 = w4.setCell (r.add 1) (.bool true) →
   (∀j,j<5→CanW w5 (p1.add j))∧∀w6:World,w6=storeRow w5 p1 [(.int .i64 0),(.int .i64 0),(.int .u64 0),(.string (⟨#[]⟩:ByteArray)),(.bool false)] →
   ∃qKind1:Int,∃qFrom1:Int,∃qC1:Int,∃qText1:ByteArray,∃qFake1:Bool,Row w6 p1 [(.int .i64 qKind1),(.int .i64 qFrom1),(.int .u64 qC1),(.string qText1),(.bool qFake1)] ∧
   K qKind1 qFrom1 qC1 qText1 qFake1 w6:=by
  intro hc
  rw [if_pos hc] at hsp
  refine ⟨hR4.box.canW (by simp),?_⟩
  intro w5 hw5
  have d5:Box w5 r [.pointer p,.bool true] 110:=by rw [hw5];exact hR4.box.set 1 _
  have E5:Ext (·=r.block) w4 w5:=by rw [hw5];have:=Ext.setCell (w:=w4) (r.add 1) (.bool true);rw [add_block] at this;exact this
  clear hw5
  refine bx 5 (c1.ext E5 n1r) rfl rfl (fun w6 b6 E6=>⟨0,0,0,⟨#[]⟩,false,b6.row,hK _ _ _ _ _ _ ⟨by rw [hsp];rfl,⟨?_,?_,hR.ok,hR.out⟩,?_⟩⟩)
  ·rw [hsp];simp only [Bool.or_true];exact d5.ext E6 n1r.symm
  ·exact (hR4.pool.ext E5 (fun b hb e=>hR.out (e▸hb))).ext E6 (fun b hb e=>by have:=hR.pool.lt hb;omega)
  ·exact (E4.pure.trans E5).trans' E6 (fun i hi h=>by omega)
 have J1:¬ ((k≠8∧k≠9)∨1<f∨t'≠IntKind.i64.wrap (1 - f))→m_G_j1 (some r) p1 p2 w4 K:=by
  intro hc
  rw [if_neg hc] at hsp
  unfold m_G_j1
  refine ⟨a,b2.cell rfl,?_⟩
  refine (c_rd_deal r p a bad w4 hR4).mono ?_
  rintro _ w5 ⟨c,y,rfl,hd,hR5,E5⟩
  have d2:=b2.ext E5 (by omega)
  have d1:=c1.ext E5 n1r
  have ec:c=(Sp.rdDeal L a).1.1:=congrArg Prod.fst hd
  have ey:y=(Sp.rdDeal L a).1.2:=congrArg Prod.snd hd
  refine ⟨_,_,rfl,f,d2.cell rfl,k,d2.cell0,bx 5 d1 rfl rfl (fun w6 b6 E6=>⟨1,f,c,y,k == 9,b6.row,hK _ _ _ _ _ _ ⟨?_,?_,?_⟩⟩)⟩
  ·rw [hsp];simp only [← ec,← ey]
  ·rw [hsp]
   exact ⟨hR5.box.ext E6 n1r.symm,hR5.pool.ext E6 (fun b hb e=>by have:=hR.pool.lt hb;omega),hR.ok,hR.out⟩
  ·exact (E4.pure.trans E5).trans' E6 (fun i hi h=>by omega)
 have J3:∀x2,x2=((k != 8 && k != 9) || decide (1<f))→m_G_j3 (some r) p1 p2 x2 w4 K:=by
  intro x2 hx
  unfold m_G_j3
  refine ⟨fun h=>⟨r,rfl,bad1 ?_⟩,fun h=>⟨t',b2.cell rfl,f,b2.cell rfl,fun h2=>⟨r,rfl,bad1 ?_⟩,fun h2=>J1 ?_⟩⟩
  ·rw [h] at hx
   have hx:=hx.symm
   simp at hx
   rcases hx with hx | hx
   ·exact .inl hx
   ·exact .inr (.inl hx)
  ·exact .inr (.inr (by simpa using h2))
  ·rw [h] at hx
   have hx:=hx.symm
   simp only [Bool.or_eq_false_iff,decide_eq_false_iff_not] at hx
   rintro (h3 | h3 | h3)
   ·have:=hx.1;simp [h3.1,h3.2] at this
   ·exact hx.2 h3
   ·have h2:t'=IntKind.i64.wrap (1 - f):=by simpa using h2
    exact h3 h2
 have J2:∀x1,x1=(k != 8 && k != 9)→m_G_j2 (some r) p1 p2 x1 w4 K:=by
  intro x1 hx
  unfold m_G_j2
  exact ⟨fun h=>J3 _ (by rw [← hx,h];rfl),fun h=>⟨f,b2.cell rfl,J3 _ (by rw [← hx,h];rfl)⟩⟩
 exact ⟨k,b2.cell0,fun h=>⟨k,b2.cell0,J2 _ (by rw [h];rfl)⟩,fun h=>J2 _ (by rw [h];rfl)⟩
end Go.Proofs
end
section
open Go Go.SE
namespace Go.Sp
def rdResolve (L:Pool) (who n:Int):Letter×Bool :=
 let m:=rdNode L n 4
 let a:=rdPromise L m.1.a
 let b:=rdPromise L m.1.b
 (⟨4,who,a.1.c,a.1.text,a.1.fake || b.1.fake⟩,m.2 || a.2 || b.2 || a.1.frm != 0 || b.1.frm != 1 || a.1.c != b.1.c || !decide (a.1.text=b.1.text))
def rdSigned (L:Pool) (who body:Int):Letter×Bool :=
 let g:=rdTagged L body
 if g.1.1=wAbort∧who=0 then (⟨3,0,(rdNode L g.1.2 2).1.num,⟨#[]⟩,false⟩,g.2 || (rdNode L g.1.2 2).2)
 else if g.1.1=wAborted∧who=2 then (⟨5,0,(rdNode L g.1.2 2).1.num,⟨#[]⟩,false⟩,g.2 || (rdNode L g.1.2 2).2)
 else if g.1.1=wInstead∧who=2 then (⟨6,0,(rdDeal L g.1.2).1.1,(rdDeal L g.1.2).1.2,false⟩,g.2 || (rdDeal L g.1.2).2)
 else if g.1.1=wDeal∧who≤1 then (⟨2,who,(rdDeal L body).1.1,(rdDeal L body).1.2,false⟩,g.2 || (rdDeal L body).2)
 else if g.1.1=wResolve∧who≤1 then ((rdResolve L who g.1.2).1,g.2 || (rdResolve L who g.1.2).2)
 else (noLetter,true)
end Go.Sp
namespace Go.Proofs
attribute [local irreducible] Calls
def lz:List Value:=[.int .i64 0,.int .i64 0,.int .u64 0,.string ⟨#[]⟩,.bool false]
theorem c_rd_resolve (r : Addr) (p : Option Addr) (p1 : Addr) (who n : Int) (bad : Bool) (w : World) {L : Sp.Pool} {F : NP} (hR : ReaderAt w r p bad L F) (hB : Box w p1 lz 42) (hne : p1.block ≠ r.block) (K : Int → Int → Int → ByteArray → Bool → WP)
  (hK:∀w6 w',ReaderAt w6 r p (bad || (Sp.rdResolve L who n).2) L F→Ext (·=r.block) w w6→Box w' p1 [.int .i64 4,.int .i64 who,.int .u64 (Sp.rdResolve L who n).1.c,.string (Sp.rdResolve L who n).1.text,.bool (Sp.rdResolve L who n).1.fake] 42→Ext (·=p1.block) w6 w'→K 4 who (Sp.rdResolve L who n).1.c (Sp.rdResolve L who n).1.text (Sp.rdResolve L who n).1.fake w') :
  m_B_j5 (some r) who p1 n true w K:=by
 unfold m_B_j5
 refine Br.t rfl ?_
 refine (c_rd_node r p n 4 bad w hR).mono ?_
 rintro _ w11 ⟨k2,f2,t2,u2,x2,a2,b2,rfl,hn,hR11,E11⟩
 refine ⟨_,_,_,_,_,_,_,rfl,?_⟩
 intro p2 w12 h12
 have o12:=New.own (Ext.refl w11) h12
 have l11:=hR11.box.lt
 have l1:=hB.lt
 have s11:=E11.size
 refine bx 7 (Box.of_new h12) rfl rfl (fun w13 b13 E'=>?_)
 have E13:Pure w11 w13:=Ext.own (Ext.new h12) o12 E'
 have hB11:=hB.ext E11 hne
 clear E' h12
 refine ⟨fun w'=>Box w' p2 [.int .i64 k2,.int .i64 f2,.int .i64 t2,.int .u64 u2,.string x2,.int .i64 a2,.int .i64 b2] 80,b13.pure (Ext.drew w13),?_⟩
 intro w18 hw18
 have E18:Pure w11 w18:=by rw [hw18];exact E13.thenPure (Ext.drew w13)
 have cN:Box w18 p2 [.int .i64 k2,.int .i64 f2,.int .i64 t2,.int .u64 u2,.string x2,.int .i64 a2,.int .i64 b2] 80:=by rw [hw18];exact b13.pure (Ext.drew w13)
 clear hw18
 have hR18:=hR11.pure E18
 have hB18:=hB11.pure E18
 have s18:=E18.size
 have Ew18:Ext (·=r.block) w w18:=E11.thenPure E18
 have ea:a2=(Sp.rdNode L n 4).1.a:=by rw [← hn]
 have eb:b2=(Sp.rdNode L n 4).1.b:=by rw [← hn]
 generalize hbad:(bad || (Sp.rdNode L n 4).2)=bad2 at *
 have leaf : ∀ (pA pB : Addr) (w' : World) (ka fa ca : Int) (xa : ByteArray) (ga : Bool) (kb fb cb : Int) (xb : ByteArray) (gb : Bool), (⟨ka, fa, ca, xa, ga⟩ : Sp.Letter) = (Sp.rdPromise L a2).1 → (⟨kb, fb, cb, xb, gb⟩ : Sp.Letter) = (Sp.rdPromise L b2).1 →
   ReaderAt w' r p (bad2 || (Sp.rdPromise L a2).2 || (Sp.rdPromise L b2).2) L F→Ext (·=r.block) w18 w'→Box w' pA [.int .i64 0,.int .i64 0,.int .u64 0,.string ⟨#[]⟩,.bool false] 42→Box w' pB [.int .i64 0,.int .i64 0,.int .u64 0,.string ⟨#[]⟩,.bool false] 42→pA.block≠pB.block→w18.heap.size≤pA.block→w18.heap.size≤pB.block →
   (∀j,j<5→CanW w' (pA.add j))∧∀w23:World,w23=storeRow w' pA [.int .i64 ka,.int .i64 fa,.int .u64 ca,.string xa,.bool ga] →
   (∀j,j<5→CanW w23 (pB.add j))∧∀w24:World,w24=storeRow w23 pB [.int .i64 kb,.int .i64 fb,.int .u64 cb,.string xb,.bool gb]→m_B_j6 (some r) who p1 pA pB w24 K:=by
  intro pA pB w' ka fa ca xa ga kb fb cb xb gb hla hlb hR' E' hA hBb hAB hoA hoB
  have s':=E'.size
  refine bx 5 hA rfl rfl (fun w23 bA E23=>?_)
  refine bx 5 (hBb.ext E23 hAB.symm) rfl rfl (fun w24 bB E24=>?_)
  have dA:=bA.ext E24 hAB
  have hR24:ReaderAt w24 r p (bad2 || (Sp.rdPromise L a2).2 || (Sp.rdPromise L b2).2) L F:=⟨(hR'.box.ext E23 (by omega)).ext E24 (by omega),(hR'.pool.ext E23 (fun b hb e=>by have:=hR.pool.lt hb;omega)).ext E24 (fun b hb e=>by have:=hR.pool.lt hb;omega),hR'.ok,hR'.out⟩
  have hB24:Box w24 p1 lz 42:=((hB18.ext E' hne).ext E23 (by omega)).ext E24 (by omega)
  have E24':Ext (·=r.block) w w24:=((Ew18.trans E').trans' E23 (fun i hi h=>by omega)).trans' E24 (fun i hi h=>by omega)
  have e1:fa=(Sp.rdPromise L a2).1.frm:=by rw [← hla]
  have e2:fb=(Sp.rdPromise L b2).1.frm:=by rw [← hlb]
  have e3:ca=(Sp.rdPromise L a2).1.c:=by rw [← hla]
  have e4:cb=(Sp.rdPromise L b2).1.c:=by rw [← hlb]
  have e5:xa=(Sp.rdPromise L a2).1.text:=by rw [← hla]
  have e6:xb=(Sp.rdPromise L b2).1.text:=by rw [← hlb]
  have e7:ga=(Sp.rdPromise L a2).1.fake:=by rw [← hla]
  have e8:gb=(Sp.rdPromise L b2).1.fake:=by rw [← hlb]
  generalize hb3:(bad2 || (Sp.rdPromise L a2).2 || (Sp.rdPromise L b2).2)=bad3 at *
  have hsp:Sp.rdResolve L who n=(⟨4,who,ca,xa,ga || gb⟩,(Sp.rdNode L n 4).2 || (Sp.rdPromise L a2).2 || (Sp.rdPromise L b2).2 || fa != 0 || fb != 1 || ca != cb || !decide (xa=xb)):=by
   simp only [Sp.rdResolve,← ea,← eb,← e1,← e2,← e3,← e4,← e5,← e6,← e7,← e8]
  have hbb:(bad || (Sp.rdResolve L who n).2)=(bad3 || fa != 0 || fb != 1 || ca != cb || !decide (xa=xb)):=by
   rw [hsp,← hb3,← hbad];simp only [Bool.or_assoc]
  rw [hbb] at hK
  rw [hsp] at hK
  have J7:∀(v:Bool) (w5:World),v=(bad3 || fa != 0 || fb != 1 || ca != cb || !decide (xa=xb))→Box w5 r [.pointer p,.bool v] 110→Ext (·=r.block) w24 w5→m_B_j7 who p1 pA pB w5 K:=by
   intro v w5 hv B5 E5
   have hR5:ReaderAt w5 r p v L F:=⟨B5,hR24.pool.ext E5 (fun b hb e=>hR.out (e▸hb)),hR.ok,hR.out⟩
   have dA5:=dA.ext E5 (by omega)
   have dB5:=bB.ext E5 (by omega)
   have h15:=hB24.ext E5 hne
   unfold m_B_j7
   refine ⟨ca,dA5.cell rfl,xa,dA5.cell rfl,ga,dA5.cell rfl,fun hg=>?_,fun hg=>⟨gb,dB5.cell rfl,?_⟩⟩
   ·refine bx 5 h15 rfl rfl (fun w6 b6 E6=>⟨4,who,ca,xa,true,b6.row,?_⟩)
    have:=hK w5 w6 (by rw [← hv];exact hR5) (E24'.trans E5) (by rw [hg];exact b6) E6
    rw [hg] at this;exact this
   ·refine bx 5 h15 rfl rfl (fun w6 b6 E6=>⟨4,who,ca,xa,gb,b6.row,?_⟩)
    have:=hK w5 w6 (by rw [← hv];exact hR5) (E24'.trans E5) (by rw [hg];exact b6) E6
    rw [hg] at this;exact this
  have setr:∀v:Bool,Box (w24.setCell (r.add 1) (.bool v)) r [.pointer p,.bool v] 110∧Ext (·=r.block) w24 (w24.setCell (r.add 1) (.bool v)):=fun v =>
   ⟨hR24.box.set 1 _,by have:=Ext.setCell (w:=w24) (r.add 1) (.bool v);rw [add_block] at this;exact this⟩
  have J10:∀x,x=(bad3 || fa != 0 || fb != 1 || ca != cb)→m_B_j10 (some r) who p1 pA pB x w24 K:=by
   intro x hx
   unfold m_B_j10
   refine ⟨fun h=>⟨r,rfl,hR24.box.canW (by simp),?_⟩,fun h=>⟨xa,dA.cell rfl,xb,bB.cell rfl,r,rfl,hR24.box.canW (by simp),?_⟩⟩
   ·intro w16 hw
    exact J7 true w16 (by rw [← hx,h];rfl) (by rw [hw];exact (setr _).1) (by rw [hw];exact (setr _).2)
   ·intro w16 hw
    exact J7 (!decide (xa=xb)) w16 (by rw [← hx,h];rfl) (by rw [hw];exact (setr _).1) (by rw [hw];exact (setr _).2)
  have J9:∀x,x=(bad3 || fa != 0 || fb != 1)→m_B_j9 (some r) who p1 pA pB x w24 K:=by
   intro x hx
   unfold m_B_j9
   exact ⟨fun h=>J10 _ (by rw [← hx,h];rfl),fun h=>⟨ca,dA.cell rfl,cb,bB.cell rfl,J10 _ (by rw [← hx,h];rfl)⟩⟩
  have J8:∀x,x=(bad3 || fa != 0)→m_B_j8 (some r) who p1 pA pB x w24 K:=by
   intro x hx
   unfold m_B_j8
   exact ⟨fun h=>J9 _ (by rw [← hx,h];rfl),fun h=>⟨fb,bB.cell rfl,J9 _ (by rw [← hx,h];rfl)⟩⟩
  unfold m_B_j6
  exact ⟨r,rfl,bad3,hR24.box.cell rfl,fun h=>J8 _ (by rw [h];rfl),fun h=>⟨fa,dA.cell rfl,J8 _ (by rw [h];rfl)⟩⟩
 have l18:=hR18.box.lt
 have Er18:Ext (·=r.block) w18 w18:=Ext.refl w18
 refine ⟨a2,fun w' h=>h.cell rfl,b2,fun w' h=>h.cell rfl,?_⟩
 ·skip
  refine ⟨?_,?_,?_⟩
  ·skip
   refine (c_rd_promise r p a2 _ w18 hR18).mono ?_
   rintro _ v1 ⟨k1,f1,c1,x1,g1,rfl,hl1,R1,e1⟩
   have E1:=Er18.trans e1
   have s1:=E1.size
   refine ⟨_,_,_,_,_,rfl,cN.ext E1 (by omega),?_⟩
   refine ⟨?_,?_,?_⟩
   ·skip
    refine (c_rd_promise r p b2 _ v1 R1).mono ?_
    rintro _ v2 ⟨k2,f2,c2,x2,g2,rfl,hl2,R2,e2⟩
    have E2:=E1.trans e2
    have s2:=E2.size
    refine ⟨_,_,_,_,_,rfl,?_⟩
    refine ⟨?_,?_⟩
    ·skip
     intro q3 v3 h3
     have e3:Pure v2 v3:=Ext.new h3
     have o3:=h3.at_size
     have R3:=R2.pure e3
     have E3:=E2.thenPure e3
     have s3:=E3.size
     have t3:=(E2).size
     have bA3:=Box.of_new h3
     refine ⟨cN.ext E3 (by omega),?_⟩
     intro q4 v4 h4
     have e4:Pure v3 v4:=Ext.new h4
     have o4:=h4.at_size
     have R4:=R3.pure e4
     have E4:=E3.thenPure e4
     have s4:=E4.size
     have t4:=(E3).size
     have bA4:=bA3.pure e4
     have lA4:=bA3.lt
     have bB4:=Box.of_new h4
     refine ⟨cN.ext E4 (by omega),?_⟩
     exact leaf q3 q4 v4 _ _ _ _ _ _ _ _ _ _ hl1 hl2 R4 E4 bA4 bB4 (by omega) (by omega) (by omega)
    ·skip
     intro q5 v5 h5
     have e5:Pure v2 v5:=Ext.new h5
     have o5:=h5.at_size
     have R5:=R2.pure e5
     have E5:=E2.thenPure e5
     have s5:=E5.size
     have t5:=(E2).size
     have bB5:=Box.of_new h5
     refine ⟨cN.ext E5 (by omega),?_⟩
     intro q6 v6 h6
     have e6:Pure v5 v6:=Ext.new h6
     have o6:=h6.at_size
     have R6:=R5.pure e6
     have E6:=E5.thenPure e6
     have s6:=E6.size
     have t6:=(E5).size
     have bB6:=bB5.pure e6
     have lB6:=bB5.lt
     have bA6:=Box.of_new h6
     refine ⟨cN.ext E6 (by omega),?_⟩
     exact leaf q6 q5 v6 _ _ _ _ _ _ _ _ _ _ hl1 hl2 R6 E6 bA6 bB6 (by omega) (by omega) (by omega)
   ·skip
    intro q7 v7 h7
    have e7:Pure v1 v7:=Ext.new h7
    have o7:=h7.at_size
    have R7:=R1.pure e7
    have E7:=E1.thenPure e7
    have s7:=E7.size
    have t7:=(E1).size
    have bA7:=Box.of_new h7
    refine ⟨cN.ext E7 (by omega),?_⟩
    refine ⟨?_,?_⟩
    ·skip
     refine (c_rd_promise r p b2 _ v7 R7).mono ?_
     rintro _ v8 ⟨k8,f8,c8,x8,g8,rfl,hl2,R8,e8⟩
     have E8:=E7.trans e8
     have bA8:=bA7.ext e8 (by omega)
     have s8:=E8.size
     refine ⟨_,_,_,_,_,rfl,?_⟩
     intro q9 v9 h9
     have e9:Pure v8 v9:=Ext.new h9
     have o9:=h9.at_size
     have R9:=R8.pure e9
     have E9:=E8.thenPure e9
     have s9:=E9.size
     have t9:=(E8).size
     have bA9:=bA8.pure e9
     have lA9:=bA8.lt
     have bB9:=Box.of_new h9
     refine ⟨cN.ext E9 (by omega),?_⟩
     exact leaf q7 q9 v9 _ _ _ _ _ _ _ _ _ _ hl1 hl2 R9 E9 bA9 bB9 (by omega) (by omega) (by omega)
    ·skip
     intro q10 v10 h10
     have e10:Pure v7 v10:=Ext.new h10
     have o10:=h10.at_size
     have R10:=R7.pure e10
     have E10:=E7.thenPure e10
     have s10:=E10.size
     have t10:=(E7).size
     have bA10:=bA7.pure e10
     have lA10:=bA7.lt
     have bB10:=Box.of_new h10
     refine ⟨cN.ext E10 (by omega),?_⟩
     refine (c_rd_promise r p b2 _ v10 R10).mono ?_
     rintro _ v11 ⟨k11,f11,c11,x11,g11,rfl,hl2,R11,e11⟩
     have E11:=E10.trans e11
     have bA11:=bA10.ext e11 (by omega)
     have bB11:=bB10.ext e11 (by omega)
     have s11:=E11.size
     refine ⟨_,_,_,_,_,rfl,?_⟩
     exact leaf q7 q10 v11 _ _ _ _ _ _ _ _ _ _ hl1 hl2 R11 E11 bA11 bB11 (by omega) (by omega) (by omega)
   ·skip
    intro q12 v12 h12
    have e12:Pure v1 v12:=Ext.new h12
    have o12:=h12.at_size
    have R12:=R1.pure e12
    have E12:=E1.thenPure e12
    have s12:=E12.size
    have t12:=(E1).size
    have bB12:=Box.of_new h12
    refine ⟨cN.ext E12 (by omega),?_⟩
    refine ⟨?_,?_⟩
    ·skip
     refine (c_rd_promise r p b2 _ v12 R12).mono ?_
     rintro _ v13 ⟨k13,f13,c13,x13,g13,rfl,hl2,R13,e13⟩
     have E13:=E12.trans e13
     have bB13:=bB12.ext e13 (by omega)
     have s13:=E13.size
     refine ⟨_,_,_,_,_,rfl,?_⟩
     intro q14 v14 h14
     have e14:Pure v13 v14:=Ext.new h14
     have o14:=h14.at_size
     have R14:=R13.pure e14
     have E14:=E13.thenPure e14
     have s14:=E14.size
     have t14:=(E13).size
     have bB14:=bB13.pure e14
     have lB14:=bB13.lt
     have bA14:=Box.of_new h14
     refine ⟨cN.ext E14 (by omega),?_⟩
     exact leaf q14 q12 v14 _ _ _ _ _ _ _ _ _ _ hl1 hl2 R14 E14 bA14 bB14 (by omega) (by omega) (by omega)
    ·skip
     intro q15 v15 h15
     have e15:Pure v12 v15:=Ext.new h15
     have o15:=h15.at_size
     have R15:=R12.pure e15
     have E15:=E12.thenPure e15
     have s15:=E15.size
     have t15:=(E12).size
     have bB15:=bB12.pure e15
     have lB15:=bB12.lt
     have bA15:=Box.of_new h15
     refine ⟨cN.ext E15 (by omega),?_⟩
     refine (c_rd_promise r p b2 _ v15 R15).mono ?_
     rintro _ v16 ⟨k16,f16,c16,x16,g16,rfl,hl2,R16,e16⟩
     have E16:=E15.trans e16
     have bA16:=bA15.ext e16 (by omega)
     have bB16:=bB15.ext e16 (by omega)
     have s16:=E16.size
     refine ⟨_,_,_,_,_,rfl,?_⟩
     exact leaf q15 q12 v16 _ _ _ _ _ _ _ _ _ _ hl1 hl2 R16 E16 bA16 bB16 (by omega) (by omega) (by omega)
  ·skip
   intro q17 v17 h17
   have e17:Pure w18 v17:=Ext.new h17
   have o17:=h17.at_size
   have R17:=hR18.pure e17
   have E17:=Er18.thenPure e17
   have s17:=E17.size
   have t17:=(Er18).size
   have bA17:=Box.of_new h17
   refine ⟨cN.ext E17 (by omega),?_⟩
   refine ⟨?_,?_⟩
   ·skip
    refine (c_rd_promise r p a2 _ v17 R17).mono ?_
    rintro _ v18 ⟨k18,f18,c18,x18,g18,rfl,hl1,R18,e18⟩
    have E18:=E17.trans e18
    have bA18:=bA17.ext e18 (by omega)
    have s18:=E18.size
    refine ⟨_,_,_,_,_,rfl,cN.ext E18 (by omega),?_⟩
    refine ⟨?_,?_⟩
    ·skip
     refine (c_rd_promise r p b2 _ v18 R18).mono ?_
     rintro _ v19 ⟨k19,f19,c19,x19,g19,rfl,hl2,R19,e19⟩
     have E19:=E18.trans e19
     have bA19:=bA18.ext e19 (by omega)
     have s19:=E19.size
     refine ⟨_,_,_,_,_,rfl,?_⟩
     intro q20 v20 h20
     have e20:Pure v19 v20:=Ext.new h20
     have o20:=h20.at_size
     have R20:=R19.pure e20
     have E20:=E19.thenPure e20
     have s20:=E20.size
     have t20:=(E19).size
     have bA20:=bA19.pure e20
     have lA20:=bA19.lt
     have bB20:=Box.of_new h20
     refine ⟨cN.ext E20 (by omega),?_⟩
     exact leaf q17 q20 v20 _ _ _ _ _ _ _ _ _ _ hl1 hl2 R20 E20 bA20 bB20 (by omega) (by omega) (by omega)
    ·skip
     intro q21 v21 h21
     have e21:Pure v18 v21:=Ext.new h21
     have o21:=h21.at_size
     have R21:=R18.pure e21
     have E21:=E18.thenPure e21
     have s21:=E21.size
     have t21:=(E18).size
     have bA21:=bA18.pure e21
     have lA21:=bA18.lt
     have bB21:=Box.of_new h21
     refine ⟨cN.ext E21 (by omega),?_⟩
     refine (c_rd_promise r p b2 _ v21 R21).mono ?_
     rintro _ v22 ⟨k22,f22,c22,x22,g22,rfl,hl2,R22,e22⟩
     have E22:=E21.trans e22
     have bA22:=bA21.ext e22 (by omega)
     have bB22:=bB21.ext e22 (by omega)
     have s22:=E22.size
     refine ⟨_,_,_,_,_,rfl,?_⟩
     exact leaf q17 q21 v22 _ _ _ _ _ _ _ _ _ _ hl1 hl2 R22 E22 bA22 bB22 (by omega) (by omega) (by omega)
   ·skip
    intro q23 v23 h23
    have e23:Pure v17 v23:=Ext.new h23
    have o23:=h23.at_size
    have R23:=R17.pure e23
    have E23:=E17.thenPure e23
    have s23:=E23.size
    have t23:=(E17).size
    have bA23:=bA17.pure e23
    have lA23:=bA17.lt
    have bB23:=Box.of_new h23
    refine ⟨cN.ext E23 (by omega),?_⟩
    refine (c_rd_promise r p a2 _ v23 R23).mono ?_
    rintro _ v24 ⟨k24,f24,c24,x24,g24,rfl,hl1,R24,e24⟩
    have E24:=E23.trans e24
    have bA24:=bA23.ext e24 (by omega)
    have bB24:=bB23.ext e24 (by omega)
    have s24:=E24.size
    refine ⟨_,_,_,_,_,rfl,cN.ext E24 (by omega),?_⟩
    refine (c_rd_promise r p b2 _ v24 R24).mono ?_
    rintro _ v25 ⟨k25,f25,c25,x25,g25,rfl,hl2,R25,e25⟩
    have E25:=E24.trans e25
    have bA25:=bA24.ext e25 (by omega)
    have bB25:=bB24.ext e25 (by omega)
    have s25:=E25.size
    refine ⟨_,_,_,_,_,rfl,?_⟩
    exact leaf q17 q23 v25 _ _ _ _ _ _ _ _ _ _ hl1 hl2 R25 E25 bA25 bB25 (by omega) (by omega) (by omega)
  ·skip
   intro q26 v26 h26
   have e26:Pure w18 v26:=Ext.new h26
   have o26:=h26.at_size
   have R26:=hR18.pure e26
   have E26:=Er18.thenPure e26
   have s26:=E26.size
   have t26:=(Er18).size
   have bB26:=Box.of_new h26
   refine ⟨cN.ext E26 (by omega),?_⟩
   refine ⟨?_,?_⟩
   ·skip
    refine (c_rd_promise r p a2 _ v26 R26).mono ?_
    rintro _ v27 ⟨k27,f27,c27,x27,g27,rfl,hl1,R27,e27⟩
    have E27:=E26.trans e27
    have bB27:=bB26.ext e27 (by omega)
    have s27:=E27.size
    refine ⟨_,_,_,_,_,rfl,cN.ext E27 (by omega),?_⟩
    refine ⟨?_,?_⟩
    ·skip
     refine (c_rd_promise r p b2 _ v27 R27).mono ?_
     rintro _ v28 ⟨k28,f28,c28,x28,g28,rfl,hl2,R28,e28⟩
     have E28:=E27.trans e28
     have bB28:=bB27.ext e28 (by omega)
     have s28:=E28.size
     refine ⟨_,_,_,_,_,rfl,?_⟩
     intro q29 v29 h29
     have e29:Pure v28 v29:=Ext.new h29
     have o29:=h29.at_size
     have R29:=R28.pure e29
     have E29:=E28.thenPure e29
     have s29:=E29.size
     have t29:=(E28).size
     have bB29:=bB28.pure e29
     have lB29:=bB28.lt
     have bA29:=Box.of_new h29
     refine ⟨cN.ext E29 (by omega),?_⟩
     exact leaf q29 q26 v29 _ _ _ _ _ _ _ _ _ _ hl1 hl2 R29 E29 bA29 bB29 (by omega) (by omega) (by omega)
    ·skip
     intro q30 v30 h30
     have e30:Pure v27 v30:=Ext.new h30
     have o30:=h30.at_size
     have R30:=R27.pure e30
     have E30:=E27.thenPure e30
     have s30:=E30.size
     have t30:=(E27).size
     have bB30:=bB27.pure e30
     have lB30:=bB27.lt
     have bA30:=Box.of_new h30
     refine ⟨cN.ext E30 (by omega),?_⟩
     refine (c_rd_promise r p b2 _ v30 R30).mono ?_
     rintro _ v31 ⟨k31,f31,c31,x31,g31,rfl,hl2,R31,e31⟩
     have E31:=E30.trans e31
     have bA31:=bA30.ext e31 (by omega)
     have bB31:=bB30.ext e31 (by omega)
     have s31:=E31.size
     refine ⟨_,_,_,_,_,rfl,?_⟩
     exact leaf q30 q26 v31 _ _ _ _ _ _ _ _ _ _ hl1 hl2 R31 E31 bA31 bB31 (by omega) (by omega) (by omega)
   ·skip
    intro q32 v32 h32
    have e32:Pure v26 v32:=Ext.new h32
    have o32:=h32.at_size
    have R32:=R26.pure e32
    have E32:=E26.thenPure e32
    have s32:=E32.size
    have t32:=(E26).size
    have bB32:=bB26.pure e32
    have lB32:=bB26.lt
    have bA32:=Box.of_new h32
    refine ⟨cN.ext E32 (by omega),?_⟩
    refine (c_rd_promise r p a2 _ v32 R32).mono ?_
    rintro _ v33 ⟨k33,f33,c33,x33,g33,rfl,hl1,R33,e33⟩
    have E33:=E32.trans e33
    have bA33:=bA32.ext e33 (by omega)
    have bB33:=bB32.ext e33 (by omega)
    have s33:=E33.size
    refine ⟨_,_,_,_,_,rfl,cN.ext E33 (by omega),?_⟩
    refine (c_rd_promise r p b2 _ v33 R33).mono ?_
    rintro _ v34 ⟨k34,f34,c34,x34,g34,rfl,hl2,R34,e34⟩
    have E34:=E33.trans e34
    have bA34:=bA33.ext e34 (by omega)
    have bB34:=bB33.ext e34 (by omega)
    have s34:=E34.size
    refine ⟨_,_,_,_,_,rfl,?_⟩
    exact leaf q32 q26 v34 _ _ _ _ _ _ _ _ _ _ hl1 hl2 R34 E34 bA34 bB34 (by omega) (by omega) (by omega)
end Go.Proofs
end
section
open Go Go.SE
namespace Go.Sp
def readQ (L:Pool) (t:Int):Letter×Bool :=
 let n:=nodeOf L t
 if n.kind=7 then rdSigned L n.frm n.a else if n.kind=8∨n.kind=9 then rdPromise L t
 else if ((rdTagged L t).2 || !decide ((rdTagged L t).1.1=wFull))=true then (noLetter,true)
 else (⟨7,0,(rdNode L (rdTagged L t).1.2 2).1.num,⟨#[]⟩,false⟩,(rdNode L (rdTagged L t).1.2 2).2)
def read (L:Pool) (t:Int):Letter×Bool:=if (readQ L t).2=true then (noLetter,false) else ((readQ L t).1,true)
end Go.Sp
namespace Go.Proofs
open Tryd
attribute [local irreducible] Calls
theorem c_rd_signed (r : Addr) (p : Option Addr) (who body : Int) (bad : Bool) (w : World) {L : Sp.Pool} {F : NP} (hR : ReaderAt w r p bad L F) :
  Calls prog 50 #[.pointer (some r),.int .i64 who,.int .i64 body] w
   (fun e w'=>∃k:Int,∃f:Int,∃c:Int,∃x:ByteArray,∃fk:Bool,e=.returned (.agg #[.int .i64 k,.int .i64 f,.int .u64 c,.string x,.bool fk])∧((⟨k,f,c,x,fk⟩:Sp.Letter)=(Sp.rdSigned L who body).1∧ReaderAt w' r p (bad || (Sp.rdSigned L who body).2) L F∧Ext (·=r.block) w w')):=by
 suffices key:∀K:Int→Int→Int→ByteArray→Bool→WP,(∀k f c x fk w',((⟨k,f,c,x,fk⟩:Sp.Letter)=(Sp.rdSigned L who body).1∧ReaderAt w' r p (bad || (Sp.rdSigned L who body).2) L F∧Ext (·=r.block) w w')→K k f c x fk w')→m_B (some r) who body w K from
  w_B _ _ _ w _ (key _ (fun _ _ _ _ _ _ h=>h))
 intro K hK
 unfold m_B
 intro p1 w1 h1
 have E1:Pure w w1:=Ext.new h1
 have o1:=New.own (Ext.refl w) h1
 have lr:=hR.box.lt
 have b1:Box w1 p1 lz 42:=Box.of_new h1
 have ne:p1.block≠r.block:=by omega
 refine (c_rd_tagged r p body bad w1 (hR.pure E1)).mono ?_
 rintro _ w2 ⟨x,y,rfl,hg,hR2,E12⟩
 refine ⟨_,_,rfl,?_⟩
 have b2:=b1.ext E12 ne
 have E2:Ext (·=r.block) w w2:=E1.pure.trans E12
 have ex:x=(Sp.rdTagged L body).1.1:=congrArg Prod.fst hg
 have ey:y=(Sp.rdTagged L body).1.2:=congrArg Prod.snd hg
 have hsp:Sp.rdSigned L who body=if x=Sp.wAbort∧who=0 then (⟨3,0,(Sp.rdNode L y 2).1.num,⟨#[]⟩,false⟩,(Sp.rdTagged L body).2 || (Sp.rdNode L y 2).2)
  else if x=Sp.wAborted∧who=2 then (⟨5,0,(Sp.rdNode L y 2).1.num,⟨#[]⟩,false⟩,(Sp.rdTagged L body).2 || (Sp.rdNode L y 2).2)
  else if x=Sp.wInstead∧who=2 then (⟨6,0,(Sp.rdDeal L y).1.1,(Sp.rdDeal L y).1.2,false⟩,(Sp.rdTagged L body).2 || (Sp.rdDeal L y).2)
  else if x=Sp.wDeal∧who≤1 then (⟨2,who,(Sp.rdDeal L body).1.1,(Sp.rdDeal L body).1.2,false⟩,(Sp.rdTagged L body).2 || (Sp.rdDeal L body).2)
  else if x=Sp.wResolve∧who≤1 then ((Sp.rdResolve L who y).1,(Sp.rdTagged L body).2 || (Sp.rdResolve L who y).2)
  else (Sp.noLetter,true):=by
  simp only [Sp.rdSigned,← ex,← ey]
 clear ex ey hg
 generalize hbg:(Sp.rdTagged L body).2=g2 at *
 have fin : ∀ (k f c : Int) (z : ByteArray) (fk v : Bool) (w5 : World), Sp.rdSigned L who body = (⟨k, f, c, z, fk⟩, v) → ReaderAt w5 r p (bad || v) L F → Ext (· = r.block) w2 w5 →
   (∀j,j<5→CanW w5 (p1.add j))∧∀w6:World,w6=storeRow w5 p1 [(.int .i64 k),(.int .i64 f),(.int .u64 c),(.string z),(.bool fk)] →
   ∃qKind1:Int,∃qFrom1:Int,∃qC1:Int,∃qText1:ByteArray,∃qFake1:Bool,Row w6 p1 [(.int .i64 qKind1),(.int .i64 qFrom1),(.int .u64 qC1),(.string qText1),(.bool qFake1)] ∧
   K qKind1 qFrom1 qC1 qText1 qFake1 w6:=by
  intro k f c z fk v w5 hs hR5 E5
  refine bx 5 (b2.ext E5 ne) rfl rfl (fun w6 b6 E6=>⟨k,f,c,z,fk,b6.row,hK _ _ _ _ _ _ ⟨by rw [hs],?_,?_⟩⟩)
  ·rw [hs];exact ⟨hR5.box.ext E6 ne.symm,hR5.pool.ext E6 (fun b hb e=>by have:=hR.pool.lt hb;omega),hR.ok,hR.out⟩
  ·exact (E2.trans E5).trans' E6 (fun i hi h=>by omega)
 have nodeCase : ∀ (k : Int), Sp.rdSigned L who body = (⟨k, 0, (Sp.rdNode L y 2).1.num, ⟨#[]⟩, false⟩, g2 || (Sp.rdNode L y 2).2) →
   Calls prog 53 #[.pointer (some r),.int .i64 y,.int .i64 2] w2 (fun e w3=>∃rKind1:Int,∃rFrom1:Int,∃rTo1:Int,∃rNum1:Int,∃rText1:ByteArray,∃rA1:Int,∃rB1:Int,e=.returned (.agg #[(.int .i64 rKind1),(.int .i64 rFrom1),(.int .i64 rTo1),(.int .u64 rNum1),(.string rText1),(.int .i64 rA1),(.int .i64 rB1)]) ∧
    (∀j,j<5→CanW w3 (p1.add j))∧∀w4:World,w4=storeRow w3 p1 [(.int .i64 k),(.int .i64 0),(.int .u64 rNum1),(.string (⟨#[]⟩:ByteArray)),(.bool false)] →
    ∃qKind1:Int,∃qFrom1:Int,∃qC1:Int,∃qText1:ByteArray,∃qFake1:Bool,Row w4 p1 [(.int .i64 qKind1),(.int .i64 qFrom1),(.int .u64 qC1),(.string qText1),(.bool qFake1)] ∧
    K qKind1 qFrom1 qC1 qText1 qFake1 w4):=by
  intro k hs
  refine (c_rd_node r p y 2 _ w2 hR2).mono ?_
  rintro _ w3 ⟨k3,f3,t3,u3,x3,a3,b3,rfl,hn3,hR3,E3⟩
  have e3:u3=(Sp.rdNode L y 2).1.num:=by rw [← hn3]
  refine ⟨_,_,_,_,_,_,_,rfl,?_⟩
  rw [← e3] at hs
  exact fin _ _ _ _ _ _ w3 hs (by rw [← Bool.or_assoc];exact hR3) E3
 have dealCase : ∀ (k f t : Int), Sp.rdSigned L who body = (⟨k, f, (Sp.rdDeal L t).1.1, (Sp.rdDeal L t).1.2, false⟩, g2 || (Sp.rdDeal L t).2) →
   Calls prog 60 #[.pointer (some r),.int .i64 t] w2 (fun e w7=>∃r4:Int,∃r5:ByteArray,e=.returned (.tuple #[(.int .u64 r4),(.string r5)]) ∧
    (∀j,j<5→CanW w7 (p1.add j))∧∀w8:World,w8=storeRow w7 p1 [(.int .i64 k),(.int .i64 f),(.int .u64 r4),(.string r5),(.bool false)] →
    ∃qKind1:Int,∃qFrom1:Int,∃qC1:Int,∃qText1:ByteArray,∃qFake1:Bool,Row w8 p1 [(.int .i64 qKind1),(.int .i64 qFrom1),(.int .u64 qC1),(.string qText1),(.bool qFake1)] ∧
    K qKind1 qFrom1 qC1 qText1 qFake1 w8):=by
  intro k f t hs
  refine (c_rd_deal r p t _ w2 hR2).mono ?_
  rintro _ w3 ⟨c,z,rfl,hd,hR3,E3⟩
  have e1:c=(Sp.rdDeal L t).1.1:=congrArg Prod.fst hd
  have e2:z=(Sp.rdDeal L t).1.2:=congrArg Prod.snd hd
  refine ⟨_,_,rfl,?_⟩
  rw [← e1,← e2] at hs
  exact fin _ _ _ _ _ _ w3 hs (by rw [← Bool.or_assoc];exact hR3) E3
 have J5:∀b,b=decide (x=Sp.wResolve∧who≤1)→¬ (x=Sp.wAbort∧who=0)→¬ (x=Sp.wAborted∧who=2)→¬ (x=Sp.wInstead∧who=2)→¬ (x=Sp.wDeal∧who≤1)→m_B_j5 (some r) who p1 y b w2 K:=by
  intro b hb h1 h2 h3 h4
  rw [if_neg h1,if_neg h2,if_neg h3,if_neg h4] at hsp
  cases hbv:b with
  | true =>
   have hc:x=Sp.wResolve∧who≤1:=of_decide_eq_true (by rw [← hb,hbv])
   rw [if_pos hc] at hsp
   refine c_rd_resolve r p p1 who y _ w2 hR2 b2 ne K (fun w6 w' hR6 E6 b' E'=>hK _ _ _ _ _ _ ⟨by rw [hsp];rfl,?_,?_⟩)
   ·rw [hsp];simp only [← Bool.or_assoc]
    exact ⟨hR6.box.ext E' ne.symm,hR6.pool.ext E' (fun b hb e=>by have:=hR.pool.lt hb;omega),hR.ok,hR.out⟩
   ·exact (E2.trans E6).trans' E' (fun i hi h=>by omega)
  | false =>
   have hc:¬ (x=Sp.wResolve∧who≤1):=of_decide_eq_false (by rw [← hb,hbv])
   rw [if_neg hc] at hsp
   unfold m_B_j5
   refine Br.f rfl ⟨r,rfl,hR2.box.canW (by simp),?_⟩
   intro w77 hw
   have d5:Box w77 r [.pointer p,.bool true] 110:=by rw [hw];exact hR2.box.set 1 _
   have E5:Ext (·=r.block) w2 w77:=by rw [hw];have:=Ext.setCell (w:=w2) (r.add 1) (.bool true);rw [add_block] at this;exact this
   exact fin 0 0 0 ⟨#[]⟩ false true w77 hsp (by rw [Bool.or_true];exact ⟨d5,hR2.pool.ext E5 (fun b hb e=>hR.out (e▸hb)),hR.ok,hR.out⟩) E5
 have J4:∀b,b=decide (x=Sp.wDeal∧who≤1)→¬ (x=Sp.wAbort∧who=0)→¬ (x=Sp.wAborted∧who=2)→¬ (x=Sp.wInstead∧who=2)→m_B_j4 (some r) who body p1 x y b w2 K:=by
  intro b hb h1 h2 h3
  unfold m_B_j4
  refine ⟨fun h=>dealCase 2 who body ?_,fun h=>?_⟩
  ·rw [hsp,if_neg h1,if_neg h2,if_neg h3,if_pos (of_decide_eq_true (by rw [← hb,h]))]
  ·have h4:¬ (x=Sp.wDeal∧who≤1):=of_decide_eq_false (by rw [← hb,h])
   exact ⟨fun hw=>J5 _ (by have:x=Sp.wResolve:=of_decide_eq_true hw;simp [this]) h1 h2 h3 h4,fun hw=>J5 _ (by have:¬ x=Sp.wResolve:=of_decide_eq_false hw;simp [this]) h1 h2 h3 h4⟩
 have J3:∀b,b=decide (x=Sp.wInstead∧who=2)→¬ (x=Sp.wAbort∧who=0)→¬ (x=Sp.wAborted∧who=2)→m_B_j3 (some r) who body p1 x y b w2 K:=by
  intro b hb h1 h2
  unfold m_B_j3
  refine ⟨fun h=>dealCase 6 0 y ?_,fun h=>?_⟩
  ·rw [hsp,if_neg h1,if_neg h2,if_pos (of_decide_eq_true (by rw [← hb,h]))]
  ·have h3:¬ (x=Sp.wInstead∧who=2):=of_decide_eq_false (by rw [← hb,h])
   exact ⟨fun hw=>J4 _ (by have:x=Sp.wDeal:=of_decide_eq_true hw;simp [this]) h1 h2 h3,fun hw=>J4 _ (by have:¬ x=Sp.wDeal:=of_decide_eq_false hw;simp [this]) h1 h2 h3⟩
 have J2:∀b,b=decide (x=Sp.wAborted∧who=2)→¬ (x=Sp.wAbort∧who=0)→m_B_j2 (some r) who body p1 x y b w2 K:=by
  intro b hb h1
  unfold m_B_j2
  refine ⟨fun h=>nodeCase 5 ?_,fun h=>?_⟩
  ·rw [hsp,if_neg h1,if_pos (of_decide_eq_true (by rw [← hb,h]))]
  ·have h2:¬ (x=Sp.wAborted∧who=2):=of_decide_eq_false (by rw [← hb,h])
   exact ⟨fun hw=>J3 _ (by have:x=Sp.wInstead:=of_decide_eq_true hw;simp [this];rfl) h1 h2,fun hw=>J3 _ (by have:¬ x=Sp.wInstead:=of_decide_eq_false hw;simp [this]) h1 h2⟩
 have J1:∀b,b=decide (x=Sp.wAbort∧who=0)→m_B_j1 (some r) who body p1 x y b w2 K:=by
  intro b hb
  unfold m_B_j1
  refine ⟨fun h=>nodeCase 3 ?_,fun h=>?_⟩
  ·rw [hsp,if_pos (of_decide_eq_true (by rw [← hb,h]))]
  ·have h1:¬ (x=Sp.wAbort∧who=0):=of_decide_eq_false (by rw [← hb,h])
   exact ⟨fun hw=>J2 _ (by have:x=Sp.wAborted:=of_decide_eq_true hw;simp [this];rfl) h1,fun hw=>J2 _ (by have:¬ x=Sp.wAborted:=of_decide_eq_false hw;simp [this]) h1⟩
 exact ⟨fun hw=>J1 _ (by have:x=Sp.wAbort:=of_decide_eq_true hw;simp [this];rfl),fun hw=>J1 _ (by have:¬ x=Sp.wAbort:=of_decide_eq_false hw;simp [this])⟩
end Go.Proofs
end
