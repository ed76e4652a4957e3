import Derived.Test.YtkiijeiccioelaaGreatDoorPa2
import Derived.KernelRfl
import Derived.IntWalk
import Derived.Test.YtkiijeiccioelaaGreatDoorProg
import Derived.Shelf.Strconv.Itoa3
section
open Go Go.SE
namespace Go.Proofs
open Tryz
attribute [local irreducible] Calls
def jHZ:Array Value:=#[.bool false,.bool false,.bool false,.bool false,.int .i64 0,.bool true,.bool false,.bool false,.bool false,.int .i64 0,.bool false,.bool false,.bool true,.bool false,.int .i64 0,.bool false,.bool false,.bool false,.bool true,.int .i64 0,.bool false,.bool false,.bool false,.bool false,.int .i64 2,.bool false,.bool false,.bool false,.bool false,.int .i64 1,.bool true,.bool false,.bool false,.bool false,.int .i64 0,.bool true,.bool false,.bool false,.bool false,.int .i64 1,.bool true,.bool true,.bool false,.bool false,.int .i64 1,.bool true,.bool true,.bool false,.bool false,.int .i64 1]
theorem jRU (w:World):Calls prog 119 #[] w (fun e w'=>∃r,e=.returned (.agg r)∧(r=jHZ∧Pure w w')):=by
 refine w_Y1 w (fun r w'=>r=jHZ∧Pure w w') ?_;unfold m_Y1;intro p1 w1 h1;have E1:Pure w w1:=Ext.new h1;have hp:=New.own (Ext.refl w) h1;have b1:=Box.of_newA h1;clear h1;refine bx 50 b1 (by kernel_rfl) (by kernel_rfl) (fun w' b E=>?_);refine ⟨jHZ,⟨by kernel_rfl,b.row_eq (by kernel_rfl)⟩,rfl,E1.own hp E⟩
theorem jHH (k:Int) (w:World):Calls prog 80 #[.int .i64 k] w (fun e w'=>∃r1:Bool,∃r2:Bool,∃r3:Bool,∃r4:Bool,∃r5:Int,∃r:Bool,e=.returned (.tuple #[.agg #[.bool r1,.bool r2,.bool r3,.bool r4,.int .i64 r5],.bool r])∧(((⟨r1,r2,r3,r4,r5⟩:Sp.Shape)=Sp.jF k∧r=Sp.qI k)∧Pure w w')):=by
 refine w_U1 k w (fun r1 r2 r3 r4 r5 r w'=>((⟨r1,r2,r3,r4,r5⟩:Sp.Shape)=Sp.jF k∧r=Sp.qI k)∧Pure w w') ?_;unfold m_U1;intro p1 w1 h1;have E1:Pure w w1:=Ext.new h1;have b1:=Box.of_new h1;have hp:=New.own (Ext.refl w) h1;refine ⟨fun h=>bx 5 b1 rfl rfl (fun w' b E=>⟨_,_,_,_,_,b.row,⟨?_,?_⟩,E1.own hp E⟩),fun h=>⟨fun h2=>bx 5 b1 rfl rfl (fun w' b E=>⟨_,_,_,_,_,b.row,⟨?_,?_⟩,E1.own hp E⟩),fun h2=>?_⟩⟩
 ·have:k<1:=by simpa using h
  simp only [Sp.jF,Sp.jCK];repeat rw [if_neg (by omega)]
 ·have:k<1:=by simpa using h
  simp [Sp.qI];omega
 ·have:9<k:=by simpa using h2
  simp only [Sp.jF,Sp.jCK];repeat rw [if_neg (by omega)]
 ·have:9<k:=by simpa using h2
  simp [Sp.qI];omega
 ·have h3:¬ k<1:=by simpa using h
  have h4:¬ 9<k:=by simpa using h2
  refine (jRU _).mono ?_;rintro _ w4 ⟨_,rfl,rfl,E4⟩;refine ⟨_,rfl,?_⟩;have b4:=b1.pure E4;have E5:Pure w w4:=E1.trans E4;have hk:k=1∨k=2∨k=3∨k=4∨k=5∨k=6∨k=7∨k=8∨k=9:=by omega
  rcases hk with rfl | rfl | rfl | rfl | rfl | rfl | rfl | rfl | rfl
  ·exact ⟨true,false,false,false,0,by kernel_rfl,bx 5 b4 rfl rfl (fun w' b E=>⟨_,_,_,_,_,b.row,⟨by decide,by decide⟩,E5.own hp E⟩)⟩
  ·exact ⟨false,false,true,false,0,by kernel_rfl,bx 5 b4 rfl rfl (fun w' b E=>⟨_,_,_,_,_,b.row,⟨by decide,by decide⟩,E5.own hp E⟩)⟩
  ·exact ⟨false,false,false,true,0,by kernel_rfl,bx 5 b4 rfl rfl (fun w' b E=>⟨_,_,_,_,_,b.row,⟨by decide,by decide⟩,E5.own hp E⟩)⟩
  ·exact ⟨false,false,false,false,2,by kernel_rfl,bx 5 b4 rfl rfl (fun w' b E=>⟨_,_,_,_,_,b.row,⟨by decide,by decide⟩,E5.own hp E⟩)⟩
  ·exact ⟨false,false,false,false,1,by kernel_rfl,bx 5 b4 rfl rfl (fun w' b E=>⟨_,_,_,_,_,b.row,⟨by decide,by decide⟩,E5.own hp E⟩)⟩
  ·exact ⟨true,false,false,false,0,by kernel_rfl,bx 5 b4 rfl rfl (fun w' b E=>⟨_,_,_,_,_,b.row,⟨by decide,by decide⟩,E5.own hp E⟩)⟩
  ·exact ⟨true,false,false,false,1,by kernel_rfl,bx 5 b4 rfl rfl (fun w' b E=>⟨_,_,_,_,_,b.row,⟨by decide,by decide⟩,E5.own hp E⟩)⟩
  ·exact ⟨true,true,false,false,1,by kernel_rfl,bx 5 b4 rfl rfl (fun w' b E=>⟨_,_,_,_,_,b.row,⟨by decide,by decide⟩,E5.own hp E⟩)⟩
  ·exact ⟨true,true,false,false,1,by kernel_rfl,bx 5 b4 rfl rfl (fun w' b E=>⟨_,_,_,_,_,b.row,⟨by decide,by decide⟩,E5.own hp E⟩)⟩
theorem jPF (k f t u:Int) (x:ByteArray) (a b:Int) (w:World) :
  Calls prog 61 #[.agg #[.int .i64 k,.int .i64 f,.int .i64 t,.int .u64 u,.string x,.int .i64 a,.int .i64 b]] w
   (fun e w'=>∃r1:Bool,∃r2:Bool,∃r3:Bool,∃r4:Bool,∃r5:Int,∃r:Int,e=.returned (.tuple #[.agg #[.bool r1,.bool r2,.bool r3,.bool r4,.int .i64 r5],.int .i64 r])∧(((⟨r1,r2,r3,r4,r5⟩:Sp.Shape)=Sp.jF k∧r=Sp.jW ⟨k,f,t,u,x,a,b⟩)∧Pure w w')):=by
 suffices key:∀K:Bool→Bool→Bool→Bool→Int→Int→WP,(∀r1 r2 r3 r4 r5 r w',((⟨r1,r2,r3,r4,r5⟩:Sp.Shape)=Sp.jF k∧r=Sp.jW ⟨k,f,t,u,x,a,b⟩)∧Pure w w'→K r1 r2 r3 r4 r5 r w')→m_B k f t u x a b w K from
  w_B _ _ _ _ _ _ _ w _ (key _ (fun _ _ _ _ _ _ _ h=>h))
 intro K hK
 unfold m_B
 intro p1 w1 h1 p2 w2 h2
 have a1:=(Box.of_new h1).pure (Ext.new h2)
 have a2:=Box.of_new h2
 have E2:Pure w w2:=(Ext.new h1).trans (Ext.new h2)
 have o2:=New.own (Ext.new h1:Pure w w1) h2
 have n12:p1.block≠p2.block:=New.ne h2 (Box.of_new h1).blk
 refine ⟨_,a1.cell0,?_⟩
 refine (jHH _ _).mono ?_
 rintro _ w3 ⟨s1,s2,s3,s4,s5,ok,rfl,⟨hs,hok⟩,E3⟩
 refine ⟨_,_,_,_,_,_,rfl,?_⟩
 intro p3 w4 h3
 have E4:Pure w w4:=(E2.trans E3).trans (Ext.new h3)
 have o3:=New.own (E2.trans E3) h3
 have n13:p1.block≠p3.block:=New.ne h3 (a1.pure E3).blk
 have n23:p2.block≠p3.block:=New.ne h3 (a2.pure E3).blk
 refine bx 5 (Box.of_new h3) rfl rfl (fun w5 b3 E=>?_)
 have b1:=((a1.pure E3).pure (Ext.new h3)).ext E n13
 have b2:=((a2.pure E3).pure (Ext.new h3)).ext E n23
 have E5:=E4.own o3 E
 clear E E4 E3 E2 a1 a2 h1 h2 h3
 have fin : ∀ v : Int, v = Sp.jW ⟨k, f, t, u, x, a, b⟩ → (∀ j, j < 5 → jT w5 (p2.add j)) ∧ ∀ w', w' = storeRow w5 p2 [.bool s1, .bool s2, .bool s3, .bool s4, .int .i64 s5] →
   ∃q1:Bool,∃q2:Bool,∃q3:Bool,∃q4:Bool,∃q5:Int,Row w' p2 [.bool q1,.bool q2,.bool q3,.bool q4,.int .i64 q5]∧K q1 q2 q3 q4 q5 v w':=fun v hv =>
  bx 5 b2 rfl rfl (fun w' b E=>⟨_,_,_,_,_,b.row,hK _ _ _ _ _ _ _ ⟨⟨hs,hv⟩,E5.own o2 E⟩⟩)
 obtain ⟨e1,e2,e3,e4,e5⟩:s1=(Sp.jF k).frm∧s2=(Sp.jF k).to∧s3=(Sp.jF k).num∧s4=(Sp.jF k).text∧s5=(Sp.jF k).kids:=by rw [← hs];simp
 have J3:∀c:Bool,c=(!ok || (!s1 && f != 0) || (!s2 && t != 0) || (!s3 && u != 0))→m_B_j3 p1 p2 p3 c w5 K:=by
  intro c hc;unfold m_B_j3;refine ⟨fun h=>⟨_,_,_,_,_,b3.row,fin _ ?_⟩,fun h=>⟨_,b3.cell rfl,fun h4=>⟨_,b1.cell rfl,fun h5=>⟨_,_,_,_,_,b3.row,fin _ ?_⟩,fun h5=>⟨_,_,_,_,_,b3.row,fin _ ?_⟩⟩,fun h4=>⟨_,_,_,_,_,b3.row,fin _ ?_⟩⟩⟩
  ·rw [h] at hc;simp only [Sp.jW,← e1,← e2,← e3,← e4,← hok,← hc];simp
  ·rw [h] at hc;simp only [Sp.jW,← e1,← e2,← e3,← e4,← hok,← hc];simp at h4 h5;simp [h4,h5]
  ·rw [h] at hc;simp only [Sp.jW,← e1,← e2,← e3,← e4,← hok,← hc];simp at h4 h5;simp [h4,h5]
  ·rw [h] at hc;simp only [Sp.jW,← e1,← e2,← e3,← e4,← hok,← hc];simp at h4;simp [h4]
 have J2:∀c:Bool,c=(!ok || (!s1 && f != 0) || (!s2 && t != 0))→m_B_j2 p1 p2 p3 c w5 K:=by
  intro c hc;have J4:∀d:Bool,d=(!s3 && u != 0)→m_B_j4 p1 p2 p3 c d w5 K:=fun d hd=>⟨fun h=>J3 _ (by rw [← hc,h];rfl),fun h=>J3 _ (by rw [← hc,h];simpa using hd)⟩;exact ⟨fun h=>J3 _ (by rw [← hc,h];rfl),fun h=>⟨_,b3.cell rfl,fun h4=>⟨_,b1.cell rfl,J4 _ (by rw [h4];rfl)⟩,fun h4=>J4 _ (by rw [h4];rfl)⟩⟩
 have J1:∀c:Bool,c=(!ok || (!s1 && f != 0))→m_B_j1 p1 p2 p3 c w5 K:=by
  intro c hc;have J5:∀d:Bool,d=(!s2 && t != 0)→m_B_j5 p1 p2 p3 c d w5 K:=fun d hd=>⟨fun h=>J2 _ (by rw [← hc,h];rfl),fun h=>J2 _ (by rw [← hc,h];simpa using hd)⟩;exact ⟨fun h=>J2 _ (by rw [← hc,h];rfl),fun h=>⟨_,b3.cell rfl,fun h4=>⟨_,b1.cell rfl,J5 _ (by rw [h4];rfl)⟩,fun h4=>J5 _ (by rw [h4];rfl)⟩⟩
 have J6:∀d:Bool,d=(!s1 && f != 0)→m_B_j6 p1 p2 ok p3 d w5 K:=fun d hd=>⟨fun h=>J1 _ (by rw [h];rfl),fun h=>J1 _ (by rw [h];simpa using hd)⟩
 exact ⟨fun h=>J1 _ (by rw [h];rfl),fun h=>⟨_,b3.cell0,fun h4=>⟨_,b1.cell rfl,J6 _ (by rw [h4];rfl)⟩,fun h4=>J6 _ (by rw [h4];rfl)⟩⟩
def uU (n:Sp.Node):List Value:=[.int .i64 n.kind,.int .i64 n.frm,.int .i64 n.to,.int .u64 n.num,.string n.text,.int .i64 n.a,.int .i64 n.b]
def jMJ (e:Sp.Ent):List Value:=uU e.node++[.int .i64 e.size,.int .i64 e.depth]
def jDF (n:Sp.Node):Value:=.agg (uU n).toArray
def xD (L:Sp.Pool):List (Value×Value):=L.zipIdx.map fun p=>(jDF p.1.node,.int .i64 (p.2+1:Nat))
structure PoolS (w:World) (p:Addr) (L:Sp.Pool) (s:Sl) (m:Nat):Prop where
 box:Box w p [s.v,.map (some m)] 48
 rows:Rws w 96 9 s (L.map jMJ)
 map:CMap w m (xD L)
 n1:m≠p.block
 n2:¬ s.blk p.block
 n3:¬ s.blk m
def jS (w:World) (p:Addr) (L:Sp.Pool) (F:NP):Prop:=∃s m,PoolS w p L s m∧∀b,F b↔(b=p.block∨s.blk b∨b=m)
theorem jS.ext {G:NP} {w w':World} {p:Addr} {L:Sp.Pool} {F:NP} (h:jS w p L F) (hE:Ext G w w') (hd:∀b,F b→¬ G b):jS w' p L F:=by
 obtain ⟨s,m,h,hF⟩:=h;exact ⟨s,m,⟨h.box.ext hE (hd _ ((hF _).2 (.inl rfl))),h.rows.ext hE (fun b hb=>hd _ ((hF _).2 (.inr (.inl hb)))),h.map.ext hE (hd _ ((hF _).2 (.inr (.inr rfl)))),h.n1,h.n2,h.n3⟩,hF⟩
theorem jS.pure {w w':World} {p:Addr} {L:Sp.Pool} {F:NP} (h:jS w p L F) (hE:Pure w w'):jS w' p L F:=h.ext hE (fun _ _ h=>h)
theorem jS.lt {w:World} {p:Addr} {L:Sp.Pool} {F:NP} (h:jS w p L F) {b:Nat} (hb:F b):b<w.heap.size:=by
 obtain ⟨s,m,h,hF⟩:=h;rcases (hF b).1 hb with rfl | hb | rfl
 ·exact h.box.lt
 ·exact h.rows.lt hb
 ·exact h.map.lt
theorem i64 {n:Int} (h:-9223372036854775808≤n) (h':n≤9223372036854775807):IntKind.i64.wrap n=n:=IntWalk.i64_in n ⟨h,h'⟩
theorem c_in (p:Addr) (t:Int) (w:World) {L:Sp.Pool} {F:NP} (hP:jS w p L F):Calls prog 37 #[.pointer (some p),.int .i64 t] w (fun e w'=>∃r,e=.returned (.bool r)∧(r=Sp.inP L t∧w=w')):=by
 obtain ⟨s,m,h,_⟩:=hP;refine w_R (some p) t w (fun r w'=>r=Sp.inP L t∧w=w') ?_;unfold m_R;have hl:(s.len:Int)=L.length:=by rw [h.rows.len];simp
 refine Br.t rfl ⟨fun h1=>⟨p,rfl,s,h.box.cell0,?_,rfl⟩,fun h1=>⟨?_,rfl⟩⟩
 ·have:1≤t:=by simpa using h1
  simp [Sp.inP,hl,this]
 ·have:¬ 1≤t:=by simpa using h1
  simp [Sp.inP,this]
theorem PoolS.at {w:World} {p:Addr} {L:Sp.Pool} {s:Sl} {m:Nat} (h:PoolS w p L s m) {t:Int} (ht:Sp.inP L t=true) (hok:Sp.Ok L):∃a e,At s (IntKind.i64.wrap (t - 1)) 9 a∧Row w a (jMJ e)∧s.blk a.block∧Sp.get L t=some e:=by
 obtain ⟨h1,h2⟩:=Sp.jY.1 ht;obtain ⟨e,hg,_,hi,he⟩:=Sp.jBJ ht;have:=hok.few;rw [i64 (by omega) (by omega)];obtain ⟨a,hat,hr,hb⟩:=h.rows.at (i:=t - 1) (by omega) (by simpa using hi);exact ⟨a,e,hat,(by rw [List.getElem_map,he] at hr;exact hr),hb,hg⟩
theorem jSR (p:Addr) (t:Int) (w:World) {L:Sp.Pool} {F:NP} (hP:jS w p L F) (hok:Sp.Ok L):Calls prog 14 #[.pointer (some p),.int .i64 t] w (fun e w'=>∃r,e=.returned (.int .i64 r)∧(r=Sp.sizeOf L t∧w=w')):=by
 refine w_Q1 (some p) t w (fun r w'=>r=Sp.sizeOf L t∧w=w') ?_;unfold m_Q1;refine (c_in p t w hP).mono ?_;rintro _ _ ⟨_,rfl,rfl,rfl⟩;obtain ⟨s,m,h,_⟩:=hP;refine ⟨_,rfl,fun h1=>⟨?_,rfl⟩,fun h1=>?_⟩
 ·simp [Sp.sizeOf,Sp.lN (show Sp.inP L t=false by simpa using h1)]
 ·obtain ⟨a,e,hat,hr,_,hg⟩:=h.at (show Sp.inP L t=true by simpa using h1) hok;exact ⟨p,rfl,s,h.box.cell0,a,hat,e.size,hr 7 (by simp [jMJ,uU]),by simp [Sp.sizeOf,hg],rfl⟩
theorem jUU (p:Addr) (t:Int) (w:World) {L:Sp.Pool} {F:NP} (hP:jS w p L F) (hok:Sp.Ok L):Calls prog 120 #[.pointer (some p),.int .i64 t] w (fun e w'=>∃r,e=.returned (.int .i64 r)∧(r=Sp.depthOf L t∧w=w')):=by
 refine w_Z1 (some p) t w (fun r w'=>r=Sp.depthOf L t∧w=w') ?_;unfold m_Z1;refine (c_in p t w hP).mono ?_;rintro _ _ ⟨_,rfl,rfl,rfl⟩;obtain ⟨s,m,h,_⟩:=hP;refine ⟨_,rfl,fun h1=>⟨?_,rfl⟩,fun h1=>?_⟩
 ·simp [Sp.depthOf,Sp.lN (show Sp.inP L t=false by simpa using h1)]
 ·obtain ⟨a,e,hat,hr,_,hg⟩:=h.at (show Sp.inP L t=true by simpa using h1) hok;exact ⟨p,rfl,s,h.box.cell0,a,hat,e.depth,hr 8 (by simp [jMJ,uU]),by simp [Sp.depthOf,hg],rfl⟩
theorem jHN (p:Addr) (t:Int) (w:World) {L:Sp.Pool} {F:NP} (hP:jS w p L F) (hok:Sp.Ok L):Calls prog 18 #[.pointer (some p),.int .i64 t] w
  (fun e w'=>∃k:Int,∃f:Int,∃t':Int,∃u:Int,∃x:ByteArray,∃a:Int,∃b:Int,∃r:Bool,e=.returned (.tuple #[.agg #[.int .i64 k,.int .i64 f,.int .i64 t',.int .u64 u,.string x,.int .i64 a,.int .i64 b],.bool r])∧(((⟨k,f,t',u,x,a,b⟩:Sp.Node)=Sp.nodeOf L t∧r=Sp.inP L t)∧Pure w w')):=by
 refine w_K1 (some p) t w (fun k f t' u x a b r w'=>((⟨k,f,t',u,x,a,b⟩:Sp.Node)=Sp.nodeOf L t∧r=Sp.inP L t)∧Pure w w') ?_
 unfold m_K1
 intro p1 w1 h1
 have E1:Pure w w1:=Ext.new h1
 have b1:=Box.of_new h1
 have hp:=New.own (Ext.refl w) h1
 refine (c_in p t w1 (hP.pure E1)).mono ?_
 rintro _ _ ⟨_,rfl,rfl,rfl⟩
 obtain ⟨s,m,h,_⟩:=hP.pure E1
 refine ⟨_,rfl,fun h1=>bx 7 b1 rfl rfl (fun w' b E=>⟨_,_,_,_,_,_,_,b.row,⟨?_,?_⟩,E1.own hp E⟩),fun h1=>?_⟩
 ·simp [Sp.nodeOf,Sp.lN (show Sp.inP L t=false by simpa using h1),Sp.jGI]
 ·symm;simpa using h1
 ·have ht:Sp.inP L t=true:=by simpa using h1
  obtain ⟨a,e,hat,hr,_,hg⟩:=h.at ht hok
  have hn:Row w1 a (uU e.node):=fun i hi=>by
   have:=hr i (by simp [jMJ];omega);rw [this];unfold jMJ;rw [List.getElem?_append_left hi]
  exact ⟨p,rfl,s,h.box.cell0,a,hat,_,_,_,_,_,_,_,hn,bx 7 b1 rfl rfl (fun w' b E=>⟨_,_,_,_,_,_,_,b.row,⟨by simp [Sp.nodeOf,hg],ht.symm⟩,E1.own hp E⟩)⟩
theorem jJQ (p:Addr) (k:Int) (w:World) (hk:k=0∨k=1∨k=2):(Instr.sliceAt 166 (Sl.mk (some p) 2 2).v .none (some (.int .i64 k)) .none).run prog w=.ok (Sl.mk (some p) k.toNat 2).v w:=by
 rcases hk with rfl | rfl | rfl <;> kernel_rfl
theorem jUT (p:Addr) (k f t u:Int) (x:ByteArray) (a b:Int) (w:World) {L:Sp.Pool} {F:NP} (hP:jS w p L F) (hok:Sp.Ok L) :
  Calls prog 82 #[.pointer (some p),.agg #[.int .i64 k,.int .i64 f,.int .i64 t,.int .u64 u,.string x,.int .i64 a,.int .i64 b]] w
   (fun e w'=>∃r1:Int,∃r2:Int,∃r3:Int,e=.returned (.tuple #[.int .i64 r1,.int .i64 r2,.int .i64 r3])∧((r1,r2,r3)=Sp.check L ⟨k,f,t,u,x,a,b⟩∧Pure w w')):=by
 suffices key:∀K:Int→Int→Int→WP,(∀r1 r2 r3 w',(r1,r2,r3)=Sp.check L ⟨k,f,t,u,x,a,b⟩∧Pure w w'→K r1 r2 r3 w')→m_C (some p) k f t u x a b w K from
  w_C _ _ _ _ _ _ _ _ w _ (key _ (fun _ _ _ _ h=>h))
 intro K hK
 unfold m_C
 intro p2 w1 h1
 have b1:=Box.of_new h1
 have E1:Pure w w1:=Ext.new h1
 refine ⟨_,_,_,_,_,_,_,b1.row,?_⟩
 refine (jPF _ _ _ _ _ _ _ _).mono ?_
 rintro _ w2 ⟨s1,s2,s3,s4,s5,pe,rfl,⟨hs,hpe⟩,E2⟩
 refine ⟨_,_,_,_,_,_,rfl,?_⟩
 intro p3 w3 h3
 have b2:=(b1.pure E2).pure (Ext.new h3)
 have n23:p2.block≠p3.block:=New.ne h3 (b1.pure E2).blk
 have E3:Pure w w3:=(E1.trans E2).trans (Ext.new h3)
 have o3:=New.own (E1.trans E2) h3
 refine bx 5 (Box.of_new h3) rfl rfl (fun w4 b3 E=>?_)
 have b2:=b2.ext E n23
 have E4:Pure w w4:=E3.own o3 E
 clear E E3 E2 E1 b1 h1 h3
 have hsh:Sp.jF k=⟨s1,s2,s3,s4,s5⟩:=hs.symm
 have hk5:s5=0∨s5=1∨s5=2:=by have:=Sp.qW k;rw [hsh] at this;exact this
 generalize hn:(⟨k,f,t,u,x,a,b⟩:Sp.Node)=n at *
 have hnk:n.kind=k:=by rw [← hn]
 have hna:n.a=a:=by rw [← hn]
 have hnb:n.b=b:=by rw [← hn]
 have J2:∀e2 w',Pure w4 w'→(e2≠0→Sp.check L n=(0,0,e2))→(e2=0→pe=0∧((decide (s5<1) && a != 0) || (decide (s5<2) && b != 0))=false∧Sp.jP ⟨s1,s2,s3,s4,s5⟩ n=0)→m_C_j2 (some p) p2 p3 e2 w' K:=by
  intro e2 w' E' hne heq;have b2:=b2.pure E';have b3:=b3.pure E';have E5:=E4.trans E';have hP':=hP.pure E5;unfold m_C_j2;refine ⟨fun h=>hK _ _ _ _ ⟨(hne (by simpa using h)).symm,E5⟩,fun h=>⟨_,b2.cell rfl,_,b2.cell rfl,?_⟩⟩;intro p4 w5 h5;obtain ⟨hp0,hc0,hf0⟩:=heq (by simpa using h);have b4:=Box.of_new h5;have E6:=E5.trans (Ext.new h5);have hP6:=hP.pure E6;refine ⟨_,(b3.pure (Ext.new h5)).cell rfl,_,jJQ p4 s5 w5 hk5,?_⟩;have hks:Sp.jH n=[a,b].take s5.toNat:=by simp [Sp.jH,hnk,hsh,hna,hnb]
  have hlen:(Sp.jH n).length=s5.toNat:=by rw [hks];rcases hk5 with rfl | rfl | rfl <;> rfl
  have hget:∀j (hj:j<(Sp.jH n).length),w5.cell? (p4.add (j*1))=some (.int .i64 (Sp.jH n)[j]):=by
   intro j hj;have hj2:j<s5.toNat:=by omega
   have:(Sp.jH n)[j]=[a,b][j]'(by simp;omega):=by simp only [hks,List.getElem_take]
   rw [this,Nat.mul_one];refine b4.cell ?_;have h2:j=0∨j=1:=by omega
   rcases h2 with rfl | rfl <;> rfl
  have hrest:Sp.check L n=if (Sp.jH n).any (fun t=>!Sp.inP L t) then (0,0,51) else if 1+((Sp.jH n).map (Sp.sizeOf L)).sum>4096∨(Sp.jH n).foldl (fun d t=>max d (Sp.depthOf L t)) 0+1>64 then (0,0,52) else (1+((Sp.jH n).map (Sp.sizeOf L)).sum,(Sp.jH n).foldl (fun d t=>max d (Sp.depthOf L t)) 0+1,0):=by
   unfold Sp.check;simp only [hnk,hsh,hna,hnb,← hpe,hp0,hc0,hf0];simp
  generalize hkk:Sp.jH n=ks at *;have hl2:ks.length≤2:=by omega
  have hsum:∀j,0≤((ks.take j).map (Sp.sizeOf L)).sum∧((ks.take j).map (Sp.sizeOf L)).sum≤4096*(ks.take j).length:=by
   intro j;generalize ks.take j=l;induction l with
   | nil=>simp
   | cons y l ih=>have:=hok.sizeOf y;simp only [List.map_cons,List.sum_cons,List.length_cons];omega
  have hdep:∀(l:List Int) (d:Int),0≤d→d≤64→0≤l.foldl (fun d t=>max d (Sp.depthOf L t)) d∧l.foldl (fun d t=>max d (Sp.depthOf L t)) d≤64:=by
   intro l;induction l with
   | nil=>intro d h1 h2;exact ⟨h1,h2⟩
   | cons y l ih=>intro d h1 h2;have:=hok.depthOf y;exact ih (max d (Sp.depthOf L y)) (by omega) (by omega)
  refine ⟨fun sz d x w'=>∃j:Nat,x=j∧j≤ks.length∧sz=1+((ks.take j).map (Sp.sizeOf L)).sum∧d=(ks.take j).foldl (fun d t=>max d (Sp.depthOf L t)) 0∧(ks.take j).any (fun t=>!Sp.inP L t)=false∧w5=w',fun _ _ x _=>(2 - x).toNat,⟨0,rfl,Nat.zero_le _,by simp,by simp,by simp,rfl⟩,?_⟩;rintro sz d _ _ ⟨j,rfl,hj,rfl,rfl,hin,rfl⟩;unfold m_C_l3;have hs1:=hsum j;have hd1:=hdep (ks.take j) 0 (by omega) (by omega);have htl:(ks.take j).length≤2:=by rw [List.length_take];omega
  refine ⟨fun h=>?_,fun h=>?_⟩
  ·have hlt:j<ks.length:=by have h:=of_decide_eq_true h;simp only at h;omega
   refine ⟨p4.add (j*1),⟨by omega,of_decide_eq_true h,p4,rfl,by simp⟩,ks[j],hget j hlt,?_⟩;have htk:ks.take (j+1)=ks.take j++[ks[j]]:=List.take_succ_eq_append_getElem hlt;refine (c_in p _ w5 hP6).mono ?_;rintro _ _ ⟨_,rfl,rfl,rfl⟩;refine ⟨_,rfl,fun h=>?_,fun h=>?_⟩
   ·refine hK _ _ _ _ ⟨?_,E6⟩;rw [hrest,if_pos];exact List.any_eq_true.2 ⟨ks[j],List.getElem_mem hlt,h⟩
   ·refine (jSR p _ w5 hP6 hok).mono ?_;rintro _ _ ⟨_,rfl,rfl,rfl⟩;refine ⟨_,rfl,?_⟩;refine (jUU p _ w5 hP6 hok).mono ?_;rintro _ _ ⟨_,rfl,rfl,rfl⟩;refine ⟨_,rfl,_,run_max_int2 _ _ _ _ _ _ _,⟨j+1,?_,hlt,?_,?_,?_,rfl⟩,?_⟩
    ·rw [i64 (by omega) (by omega)];omega
    ·have:=hok.sizeOf ks[j];rw [i64 (by omega) (by omega),htk,List.map_append,List.sum_append];simp only [List.map_cons,List.map_nil,List.sum_cons,List.sum_nil];omega
    ·rw [htk,List.foldl_append];simp only [List.foldl_cons,List.foldl_nil];split <;> omega
    ·rw [htk,List.any_append,hin];simpa using h
    ·show (2 - IntKind.i64.wrap ((j:Int)+1)).toNat<(2 - (j:Int)).toNat;rw [i64 (by omega) (by omega)];omega
  ·have hge:j=ks.length:=by have h:=of_decide_eq_false h;simp only at h;omega
   subst hge;rw [List.take_length] at hs1 hd1 hin ⊢;have hlt:(ks.length:Int)≤2:=by omega
   refine ⟨fun h=>hK _ _ _ _ ⟨?_,E6⟩,fun h=>?_⟩
   ·rw [hrest,hin,if_neg (by simp),if_pos (.inl (by simpa using h))]
   ·rw [i64 (by omega) (by omega)];refine ⟨fun h'=>hK _ _ _ _ ⟨?_,E6⟩,fun h'=>hK _ _ _ _ ⟨?_,E6⟩⟩
    ·rw [hrest,hin,if_neg (by simp),if_pos (.inr (by simpa using h'))]
    ·rw [hrest,hin,if_neg (by simp),if_neg (by simp at h h';omega)]
 have J1:∀e1,(e1≠0→Sp.check L n=(0,0,e1))→(e1=0→pe=0∧((decide (s5<1) && a != 0) || (decide (s5<2) && b != 0))=false)→m_C_j1 (some p) p2 p3 e1 w4 K:=by
  intro e1 hne heq;unfold m_C_j1;refine ⟨fun h=>⟨_,_,_,_,_,b3.row,_,_,_,_,_,_,_,b2.row,?_⟩,fun h=>J2 _ _ (Ext.refl _) hne (fun e=>by rw [e] at h;cases h)⟩;obtain ⟨hp0,hc0⟩:=heq (by simpa using h);refine (jKL _ _ _ _ _ _ _ _ _ _ _ _ _).mono ?_;rintro _ w9 ⟨_,rfl,rfl,E9⟩;rw [hn];refine ⟨_,rfl,J2 _ _ E9 (fun hf=>?_) (fun hf=>⟨hp0,hc0,hf⟩)⟩;unfold Sp.check;simp only [hnk,hsh,hna,hnb,← hpe,hp0,hc0];simp [hf]
 have J53:pe=0→((decide (s5<1) && a != 0) || (decide (s5<2) && b != 0))=true→m_C_j1 (some p) p2 p3 53 w4 K:=fun hp0 hc=>J1 53 (fun _=>by
  unfold Sp.check;simp only [hnk,hsh,hna,hnb,← hpe,hp0,hc];simp) (fun e=>by cases e)
 have Jpe:pe≠0→m_C_j1 (some p) p2 p3 pe w4 K:=fun hp=>J1 pe (fun _=>by
  unfold Sp.check;simp only [← hpe];rw [if_pos hp]) (fun e=>absurd e hp)
 have J5:∀x2 x3,x2=(decide (s5<1) && a != 0)→x3=(decide (s5<2) && b != 0)→m_C_j5 (some p) p2 pe p3 x2 x3 w4 K:=by
  intro x2 x3 h2 h3;unfold m_C_j5;refine ⟨fun h=>⟨fun hx=>J53 (by simpa using h) (by rw [← h2,hx];rfl),fun hx=>⟨fun hy=>J53 (by simpa using h) (by rw [← h2,← h3,hy];simp),fun hy=>J1 pe (fun e=>absurd (by simpa using h) e) (fun e=>⟨e,by rw [← h2,← h3,hx,hy];rfl⟩)⟩⟩,fun h=>Jpe (by simpa using h)⟩
 have J4:∀x2,x2=(decide (s5<1) && a != 0)→m_C_j4 (some p) p2 pe p3 x2 w4 K:=by
  intro x2 h2;unfold m_C_j4;refine ⟨fun h=>⟨fun hx=>J53 (by simpa using h) (by rw [← h2,hx];rfl),fun hx=>⟨_,b3.cell rfl,fun h5=>⟨_,b2.cell rfl,J5 _ _ h2 (by rw [h5];rfl)⟩,fun h5=>J5 _ _ h2 (by rw [h5];rfl)⟩⟩,fun h=>Jpe (by simpa using h)⟩
 exact ⟨fun h=>⟨_,b3.cell rfl,fun h5=>⟨_,b2.cell rfl,J4 _ (by rw [h5];rfl)⟩,fun h5=>J4 _ (by rw [h5];rfl)⟩,fun h=>Jpe (by simpa using h)⟩
def jHP (v:Value):Prop:=∃n,v=jDF n
theorem jES {n n':Sp.Node}:jDF n=jDF n'↔n=n':=by
 constructor
 ·intro h;cases n;cases n';simp [jDF,uU] at h;simp [h]
 ·rintro rfl;rfl
theorem jEI (n:Sp.Node):Instr.sameBits 10000 (jDF n) (jDF n)=true:=by
 have h:∀d,Instr.sameBits (d+1) (jDF n) (jDF n)=true:=fun d=>by
  have e:(n.text == n.text)=true:=by rw [beq_toListBytes];simp
  cases d <;> simp [Instr.sameBits,jDF,uU,e]
 exact h 9999
theorem lL:KeyOK prog 59 jHP:=by
 refine KeyOK.of_struct underlying59 ?_ ?_ ?_
 ·rintro _ ⟨n,rfl⟩ em w;kernel_rfl
 ·rintro _ _ w ⟨n,rfl⟩ ⟨n',rfl⟩;refine ⟨decide (n=n'),?_,by simp only [jES,decide_eq_true_eq];exact eq_comm⟩;obtain ⟨k,f,t,u,x,a,b⟩:=n;obtain ⟨k',f',t',u',x',a',b'⟩:=n';simp [Op.equal,Op.maxDepth,go_sem,jHV,jDF,uU]
  repeat' split
  all_goals simp_all
 ·rintro _ ⟨n,rfl⟩;exact jEI n
theorem jCA:SlType prog 46 96 9 (16*5):=by
 refine ⟨underlying46,⟨t96,_,by kernel_rfl,(by kernel_rfl:t96.zero=some (.agg #[.int .i64 0,.int .i64 0,.int .i64 0,.int .u64 0,.string ⟨#[]⟩,.int .i64 0,.int .i64 0,.int .i64 0,.int .i64 0])),by kernel_rfl,by kernel_rfl,rfl⟩,by omega⟩
theorem jJW {L:Sp.Pool} {i:Nat} {n:Sp.Node} {v:Value} (h:(xD L)[i]?=some (jDF n,v)):∃e,L[i]?=some e∧e.node=n∧v=.int .i64 (i+1:Nat):=by
 simp only [xD,List.getElem?_map,List.getElem?_zipIdx,Option.map_map,Option.map_eq_some_iff] at h;obtain ⟨e,he,h⟩:=h;simp only [Function.comp,Prod.mk.injEq] at h;exact ⟨e,he,jES.1 h.1,by rw [← h.2];simp⟩
theorem jJV {L:Sp.Pool} {n:Sp.Node} (h:∀q∈xD L,q.1≠jDF n):∀e∈L,e.node≠n:=by
 intro e he hn;obtain ⟨i,hi,rfl⟩:=List.mem_iff_getElem.1 he;refine h (jDF L[i].node,.int .i64 (i+1:Nat)) ?_ (by rw [hn]);exact List.mem_map.2 ⟨(L[i],i),by rw [List.mem_zipIdx_iff_getElem?];simp [hi],rfl⟩
theorem tA {L:Sp.Pool}:∀q∈xD L,jHP q.1:=by
 intro q hq;obtain ⟨x,_,rfl⟩:=List.mem_map.1 hq;exact ⟨_,rfl⟩
theorem jNL (L:Sp.Pool) (e:Sp.Ent):xD (L++[e])=xD L++[(jDF e.node,.int .i64 (L.length+1:Nat))]:=by
 simp [xD,List.zipIdx_append]
theorem jIW {L:Sp.Pool} (hok:Sp.Ok L) {i:Nat} {e:Sp.Ent} (h:L[i]?=some e):Sp.find L e.node=some i:=by
 obtain ⟨hi,rfl⟩:=List.getElem?_eq_some_iff.1 h;unfold Sp.find;rw [List.findIdx?_eq_some_iff_getElem];refine ⟨hi,by simp,fun j hj=>?_⟩;have hnd:=hok.nodup;simp only [decide_eq_true_eq];intro e;exact List.pairwise_iff_getElem.1 hnd j i (by simp;omega) (by simpa using hi) hj (by simpa using e)
theorem find_none {L:Sp.Pool} {n:Sp.Node} (h:∀e∈L,e.node≠n):Sp.find L n=none:=by
 unfold Sp.find;rw [List.findIdx?_eq_none_iff];intro e he;simpa using h e he
theorem jPL (p:Addr) (k f t u:Int) (x:ByteArray) (a b:Int) (w:World) {L:Sp.Pool} {F:NP} (hP:jS w p L F) (hok:Sp.Ok L) :
  Calls prog 63 #[.pointer (some p),.agg #[.int .i64 k,.int .i64 f,.int .i64 t,.int .u64 u,.string x,.int .i64 a,.int .i64 b]] w
   (fun e w'=>∃r1:Int,∃r2:Int,e=.returned (.tuple #[.int .i64 r1,.int .i64 r2])∧((r1,r2)=((Sp.make L ⟨k,f,t,u,x,a,b⟩).1,(Sp.make L ⟨k,f,t,u,x,a,b⟩).2.1)∧∃F',jS w' p (Sp.make L ⟨k,f,t,u,x,a,b⟩).2.2 F'∧Ext F w w'∧∀b,F' b→F b∨w.heap.size≤b)):=by
 suffices key:∀K:Int→Int→WP,(∀r1 r2 w',((r1,r2)=((Sp.make L ⟨k,f,t,u,x,a,b⟩).1,(Sp.make L ⟨k,f,t,u,x,a,b⟩).2.1)∧∃F',jS w' p (Sp.make L ⟨k,f,t,u,x,a,b⟩).2.2 F'∧Ext F w w'∧∀b,F' b→F b∨w.heap.size≤b)→K r1 r2 w')→m_M1 (some p) k f t u x a b w K from
  w_M1 _ _ _ _ _ _ _ _ w _ (key _ (fun _ _ _ h=>h))
 intro K hK
 unfold m_M1
 intro p2 w1 h1
 have b1:=Box.of_new h1
 have E1:Pure w w1:=Ext.new h1
 have o2:¬ F p2.block:=fun h=>by have:=hP.lt h;have:=h1.at_size;omega
 refine Br.f rfl ⟨_,_,_,_,_,_,_,b1.row,?_⟩
 refine (jUT p k f t u x a b w1 (hP.pure E1) hok).mono ?_
 rintro _ w2 ⟨sz,dp,er,rfl,hck,E2⟩
 refine ⟨_,_,_,rfl,?_⟩
 generalize hn:(⟨k,f,t,u,x,a,b⟩:Sp.Node)=n at *
 have E3:Pure w w2:=E1.trans E2
 have same:∀w',Pure w w'→∃F',jS w' p L F'∧Ext F w w'∧∀b,F' b→F b∨w.heap.size≤b:=fun w' E=>⟨F,hP.pure E,E.pure,fun _ h=>.inl h⟩
 refine ⟨fun h=>hK _ _ _ ?_,fun h=>?_⟩
 ·have he:er≠0:=by simpa using h
  have:Sp.make L n=(0,er,L):=by unfold Sp.make;simp [← hck,he]
  rw [this];exact ⟨rfl,same _ E3⟩
 ·have he:er=0:=by simpa using h
  subst he
  intro w3 hw3
  have E4:Pure w w3:=by rw [hw3];exact E3.trans (Ext.drew w2)
  have b3:=(b1.pure E2).pure (show Pure w2 w3 by rw [hw3];exact Ext.drew w2)
  clear hw3
  obtain ⟨s,m,hS,hF⟩:=hP.pure E4
  refine ⟨p,rfl,_,hS.box.cell (i:=1) rfl,_,_,_,_,_,_,_,b3.row,?_⟩
  have hkey:(Value.agg #[.int .i64 k,.int .i64 f,.int .i64 t,.int .u64 u,.string x,.int .i64 a,.int .i64 b])=jDF n:=by rw [← hn];rfl
  rw [hkey]
  rcases hS.map.lookup (P:=prog) (T:=45) (E:=29) underlying45 lL tA ⟨n,rfl⟩ (zeroValue29 _) true with ⟨hnot,hrun⟩ | ⟨i,v,hi,hrun⟩
  ·refine ⟨_,_,hrun,Br.f rfl ⟨p,rfl,s,hS.box.cell0,?_⟩⟩
   have hno:=jJV hnot
   have hfn:=find_none hno
   have hlen:(s.len:Int)=L.length:=by rw [hS.rows.len];simp
   refine ⟨fun h=>hK _ _ _ ?_,fun h=>?_⟩
   ·have h2:65536≤L.length:=by have h:=of_decide_eq_true h;omega
    have:Sp.make L n=(0,6,L):=by unfold Sp.make;simp [← hck,hfn,h2]
    rw [this];exact ⟨rfl,same _ E4⟩
   ·have h2:¬ 65536≤L.length:=by have h:=of_decide_eq_false h;omega
    have hmk:Sp.make L n=((L.length:Int)+1,0,L++[⟨n,sz,dp⟩]):=by unfold Sp.make;simp [← hck,hfn,h2]
    refine ⟨fun w'=>w'.cell? p=some s.v∧Row w' p2 (uU n),⟨?_,?_⟩,?_⟩
    ·exact Ext.cell (F:=None) (Ext.drew w3) hS.box.cell0 id
    ·rw [← hn];exact Ext.row (F:=None) (Ext.drew w3) b3.row id
    intro w4 hw4
    have E5:Pure w3 w4:=by rw [hw4];exact Ext.drew w3
    clear hw4
    have hS4:PoolS w4 p L s m:=by
     exact ⟨hS.box.pure E5,hS.rows.pure E5,hS.map.ext E5 id,hS.n1,hS.n2,hS.n3⟩
    have b4:=b3.pure E5
    refine ⟨p,rfl,s,fun w' h=>h.1,k,f,t,u,x,a,b,fun w' h=>by have:=h.2;rw [← hn] at this;exact this,?_⟩
    intro p3 w5 h5
    have E6:Pure w4 w5:=Ext.new h5
    have o3:w.heap.size≤p3.block:=New.own (E4.trans E5) h5
    have b5:=Box.of_new h5
    have hrows5:=hS4.rows.pure E6
    have hbox5:=hS4.box.pure E6
    have hmap5:CMap w5 m (xD L):=hS4.map.ext E6 id
    have b45:=b4.pure E6
    have hrow:Row w5 p3 (jMJ ⟨n,sz,dp⟩):=by rw [← hn];exact b5.row
    refine ⟨⟨hbox5.cell0,by rw [← hn];exact b45.row⟩,?_⟩
    obtain ⟨s1,w6,hr6,hrows6,E7,hb6⟩:=hrows5.append (P:=prog) (ty:=46) jCA (c:=1) hrow (by simp [jMJ,uU]) (by simp [jMJ,uU,kD]) (by simp;omega) (by simp [maxLen];omega)
    have nb:∀b,s.blk b→b≠p2.block:=fun b hb e=>o2 (by rw [← e];exact (hF b).2 (.inr (.inl hb)))
    have hbox6:=hbox5.ext E7 hS.n2
    have hmap6:=hmap5.ext E7 hS.n3
    have b6:=b45.ext E7 (fun h=>nb _ h rfl)
    refine ⟨s1,w6,hr6,⟨hbox6.cell0,by rw [← hn];exact b6.row⟩,p,rfl,hbox6.canW0 (by simp),?_⟩
    intro w7 hw7
    have hbox7:Box w7 p [s1.v,.map (some m)] 48:=by rw [hw7];exact hbox6.set0
    have E8:Ext (·=p.block) w6 w7:=by rw [hw7];exact Ext.setCell p _
    clear hw7
    have hs1p:¬ s1.blk p.block:=fun h=>(hb6 _ h).elim hS.n2 (fun h=>by have:=hbox5.lt;omega)
    have hs1m:¬ s1.blk m:=fun h=>(hb6 _ h).elim hS.n3 (fun h=>by have:=hmap5.lt;omega)
    have hrows7:=hrows6.ext E8 (fun b hb e=>hs1p (by rw [← e];exact hb))
    have hmap7:=hmap6.ext E8 hS.n1
    have b7:=b6.ext E8 (fun e=>o2 (by rw [e];exact (hF _).2 (.inl rfl)))
    have hl1:(s1.len:Int)=L.length+1:=by rw [hrows6.len];simp
    refine ⟨p,rfl,s1,hbox7.cell0,?_⟩
    refine ⟨fun w'=>w'.cell? (p.add 1)=some (.map (some m))∧Row w' p2 (uU n),⟨?_,?_⟩,?_⟩
    ·exact Ext.cell (F:=None) (Ext.drew w7) (hbox7.cell (i:=1) rfl) id
    ·rw [← hn];exact Ext.row (F:=None) (Ext.drew w7) b7.row id
    intro w8 hw8
    have E9:Pure w7 w8:=by rw [hw8];exact Ext.drew w7
    clear hw8
    refine ⟨p,rfl,some m,fun w' h=>h.1,k,f,t,u,x,a,b,fun w' h=>by have:=h.2;rw [← hn] at this;exact this,?_⟩
    rw [hkey,hl1]
    have hmap8:CMap w8 m (xD L):=hmap7.ext E9 id
    obtain ⟨w9,hr9,hmap9,E10⟩:=hmap8.insert (P:=prog) (v:=.int .i64 ((L.length:Int)+1)) underlying45 lL tA ⟨n,rfl⟩ hnot
    refine ⟨w9,hr9,hK _ _ _ ?_⟩
    rw [hmk]
    have hbox9:=(hbox7.pure E9).ext E10 (fun e=>hS.n1 e.symm)
    have hrows9:=(hrows7.pure E9).ext E10 (fun b hb e=>hs1m (by rw [← e];exact hb))
    refine ⟨rfl,fun b=>b=p.block∨s1.blk b∨b=m,⟨s1,m,⟨hbox9,?_,?_,hS.n1,hs1p,hs1m⟩,fun _=>Iff.rfl⟩,?_,?_⟩
    ·simpa using hrows9
    ·rw [jNL];simpa using hmap9
    ·have hF':∀b,F b↔(b=p.block∨s.blk b∨b=m):=hF
     have Ea:Ext F w w5:=((E4.trans E5).trans E6).pure
     have Eb:Ext F w w6:=Ea.trans' E7 (fun i _ h=>(hF' i).2 (.inr (.inl h)))
     have Ec:Ext F w w7:=Eb.trans' E8 (fun i _ h=>(hF' i).2 (.inl h))
     have Ed:Ext F w w8:=Ec.thenPure E9
     exact Ed.trans' E10 (fun i _ h=>(hF' i).2 (.inr (.inr h)))
    ·intro b hb
     rcases hb with rfl | hb | rfl
     ·exact .inl ((hF _).2 (.inl rfl))
     ·rcases hb6 b hb with h | h
      ·exact .inl ((hF _).2 (.inr (.inl h)))
      ·right;have:=((E4.trans E5).trans E6).size;omega
     ·exact .inl ((hF _).2 (.inr (.inr rfl)))
  ·obtain ⟨e,he,hen,rfl⟩:=jJW hi
   refine ⟨_,_,hrun,Br.t rfl (hK _ _ _ ?_)⟩
   have hfd:=jIW hok he
   rw [hen] at hfd
   have:Sp.make L n=((i:Int)+1,0,L):=by unfold Sp.make;simp [← hck,hfd]
   rw [this];exact ⟨by simp,same _ E4⟩
def tU (t:Sp.Tree) (s:Sl):List Value:=[.int .i64 t.node.kind,.int .i64 t.node.frm,.int .i64 t.node.to,.int .u64 t.node.num,.string t.node.text,s.v]
inductive TreeAt (S:NP) (w:World):Sl→Sp.Tree→Prop
 | mk (k f t u : Int) (x : ByteArray) (ks : List Sp.Tree) (s : Sl) (rs : Nat → Sl) (len : s.len = ks.length) (fit : ks.length ≤ 9223372036854775807)
   (row:∀i (h:i<ks.length),∃a,At s i 6 a∧S a.block∧Row w a (tU ks[i] (rs i))) (kid:∀i (h:i<ks.length),TreeAt S w (rs i) ks[i]):TreeAt S w s (.mk k f t u x ks)
theorem TreeAt.ext {S F:NP} {w w':World} {s:Sl} {t:Sp.Tree} (h:TreeAt S w s t) (hE:Ext F w w') (hd:∀b,S b→¬ F b):TreeAt S w' s t:=by
 induction h with
 | mk k f t u x ks s rs len fit row kid ih =>
  exact .mk k f t u x ks s rs len fit (fun i h=>let ⟨a,h1,h2,h3⟩:=row i h;⟨a,h1,h2,hE.row h3 (hd _ h2)⟩) ih
theorem TreeAt.pure {S:NP} {w w':World} {s:Sl} {t:Sp.Tree} (h:TreeAt S w s t) (hE:Pure w w'):TreeAt S w' s t:=h.ext hE (fun _ _ h=>h)
theorem TreeAt.mono {S S':NP} {w:World} {s:Sl} {t:Sp.Tree} (h:TreeAt S w s t) (hd:∀b,S b→S' b):TreeAt S' w s t:=by
 induction h with
 | mk k f t u x ks s rs len fit row kid ih =>
  exact .mk k f t u x ks s rs len fit (fun i h=>let ⟨a,h1,h2,h3⟩:=row i h;⟨a,h1,hd _ h2,h3⟩) ih
theorem TreeAt.lt {S:NP} {w:World} {s:Sl} {t:Sp.Tree} (h:TreeAt S w s t):TreeAt (fun b=>S b∧b<w.heap.size) w s t:=by
 induction h with
 | mk k f t u x ks s rs len fit row kid ih =>
  refine .mk k f t u x ks s rs len fit (fun i h=>let ⟨a,h1,h2,h3⟩:=row i h;⟨a,h1,⟨h2,?_⟩,h3⟩) ih
  have:=h3 0 (by simp [tU])
  unfold World.cell? at this
  refine Classical.byContradiction fun hge=>?_
  have:w.heap[(a.add 0).block]?=none:=by rw [zA];exact Array.getElem?_eq_none (by omega)
  simp_all [tU]
theorem jKJ (k f t u:Int) (x:ByteArray) (s:Sl) (w:World) :
  Calls prog 60 #[.agg #[.int .i64 k,.int .i64 f,.int .i64 t,.int .u64 u,.string x,s.v]] w
   (fun e w'=>∃k':Int,∃f':Int,∃t':Int,∃u':Int,∃x':ByteArray,∃a:Int,∃b:Int,e=.returned (.agg #[.int .i64 k',.int .i64 f',.int .i64 t',.int .u64 u',.string x',.int .i64 a,.int .i64 b])∧((⟨k',f',t',u',x',a,b⟩:Sp.Node)=⟨k,f,t,u,x,0,0⟩∧Pure w w')):=by
 refine w_S1 _ _ _ _ _ _ w (fun k' f' t' u' x' a b w'=>(⟨k',f',t',u',x',a,b⟩:Sp.Node)=⟨k,f,t,u,x,0,0⟩∧Pure w w') ?_
 unfold m_S1
 intro p1 w1 h1 p2 w2 h2
 have E1:Pure w w1:=Ext.new h1
 have b1:=(Box.of_new h1).pure (Ext.new h2)
 refine ⟨_,b1.cell0,_,b1.cell rfl,_,b1.cell rfl,_,b1.cell rfl,_,b1.cell rfl,?_⟩
 exact bx 7 (Box.of_new h2) rfl rfl (fun w' b E=>⟨_,_,_,_,_,_,_,b.row,rfl,(E1.trans (Ext.new h2)).own (New.own E1 h2) E⟩)
theorem jLM (t:Sp.Tree):∀i n:Int,0≤n→0≤(Sp.looks i n t).2:=by
 induction t using Sp.Tree.ind with
 | h k f t u x ks ih =>
  have:∀(ks:List Sp.Tree),(∀i (hi:i<ks.length),∀j n:Int,0≤n→0≤(Sp.looks j n ks[i]).2)→∀i e n:Int,0≤n→0≤(Sp.zL i e n ks).2:=by
   intro ks;induction ks with
   | nil=>intro _ i e n h;simpa [Sp.zL] using h
   | cons t ts iht =>
    intro hh i e n h
    unfold Sp.zL
    split
    ·exact iht (fun i hi=>hh (i+1) (by simpa using hi)) _ _ _ (hh 0 (by simp) i n h)
    ·exact h
  intro i n h
  unfold Sp.looks
  split
  ·exact h
  ·split
   ·exact h
   ·exact this ks ih _ _ _ (by omega)
theorem jET {ks:List Sp.Tree} {j:Nat} (hj:j<ks.length) (i n:Int):Sp.zL i 0 n (ks.drop j)=Sp.zL i (Sp.looks i n ks[j]).1 (Sp.looks i n ks[j]).2 (ks.drop (j+1)):=by
 rw [List.drop_eq_getElem_cons hj,Sp.zL,if_pos rfl]
theorem jGK {ks:List Sp.Tree} {e:Int} (h:e≠0) (i n:Int):Sp.zL i e n ks=(e,n):=by
 cases ks <;> simp [Sp.zL,h]
theorem jUQ {S:NP} (q:Addr) (hq:¬ S q.block) (T:TypeId) (t:Sp.Tree):∀(s:Sl) (inside seen:Int) (w:World),0≤inside→0≤seen→TreeAt S w s t→Box w q [.int .i64 seen] T →
  Calls prog 38 #[.agg (tU t s).toArray,.int .i64 inside,.pointer (some q)] w
   (fun e w'=>∃r:Int,e=.returned (.int .i64 r)∧(r=(Sp.looks inside seen t).1∧Box w' q [.int .i64 (Sp.looks inside seen t).2] T∧Ext (·=q.block) w w')):=by
 induction t using Sp.Tree.ind with
 | h k f t u x ks ih =>
 intro s inside seen w hi0 hn0 hT hB
 suffices key:∀K:Int→WP,(∀r w',(r=(Sp.looks inside seen (.mk k f t u x ks)).1∧Box w' q [.int .i64 (Sp.looks inside seen (.mk k f t u x ks)).2] T∧Ext (·=q.block) w w')→K r w')→m_G k f t u x s inside (some q) w K from
  w_G _ _ _ _ _ _ _ _ w _ (key _ (fun _ _ h=>h))
 intro K hK
 unfold m_G
 intro p1 w1 h1
 have b1:=Box.of_new h1
 have E1:Pure w w1:=Ext.new h1
 have n1:q.block≠p1.block:=New.ne h1 hB.blk
 have hB1:=hB.pure E1
 have hT1:=hT.pure E1
 refine ⟨q,rfl,seen,hB1.cell0,fun h=>?_,fun h=>⟨fun h'=>?_,fun h'=>?_⟩⟩
 ·have h:=of_decide_eq_true h
  have:Sp.looks inside seen (.mk k f t u x ks)=(52,seen):=by rw [Sp.looks,if_pos (by omega)]
  rw [this] at hK;exact hK _ _ ⟨rfl,hB1,E1.pure⟩
 ·have h:=of_decide_eq_false h;have h':=of_decide_eq_true h'
  have:Sp.looks inside seen (.mk k f t u x ks)=(52,seen):=by rw [Sp.looks,if_neg (by omega),if_pos (by omega)]
  rw [this] at hK;exact hK _ _ ⟨rfl,hB1,E1.pure⟩
 have h:=of_decide_eq_false h;have h':=of_decide_eq_false h'
 have hsp:Sp.looks inside seen (.mk k f t u x ks)=Sp.zL (inside+1) (Sp.kI ⟨k,f,t,u,x,0,0⟩ ks.length) (seen+1) ks:=by rw [Sp.looks,if_neg (by omega),if_neg (by omega)]
 rw [hsp] at hK
 unfold m_G_j1
 refine ⟨q,rfl,seen,hB1.cell0,q,rfl,hB1.canW0 (by simp),?_⟩
 rw [i64 (n:=seen+1) (by omega) (by omega)]
 intro w2 hw2
 have hB2:Box w2 q [.int .i64 (seen+1)] T:=by rw [hw2];exact hB1.set0
 have E12:Ext (·=q.block) w1 w2:=by rw [hw2];exact Ext.setCell q _
 clear hw2
 have b2:=b1.ext E12 (fun e=>n1 e.symm)
 have hT2:=hT1.ext E12 (fun b hb e=>hq (e▸hb))
 have E2:Ext (·=q.block) w w2:=E1.pure.trans E12
 refine ⟨_,_,_,_,_,_,b2.row,?_⟩
 refine (jKJ _ _ _ _ _ _ w2).mono ?_
 rintro _ w3 ⟨k',f',t',u',x',a',b',rfl,hn,E23⟩
 cases hn
 refine ⟨_,_,_,_,_,_,_,rfl,?_⟩
 intro p2 w4 h4
 have n2:p1.block≠p2.block:=New.ne h4 (b2.pure E23).blk
 have E24:Pure w2 w4:=E23.trans (Ext.new h4)
 have o2:=New.own E23 h4
 refine bx 7 (Box.of_new h4) rfl rfl (fun w5 c2 E45=>?_)
 have E25:Pure w2 w5:=E24.own o2 E45
 refine ⟨_,_,_,_,_,_,_,c2.row,?_⟩
 refine (jPF _ _ _ _ _ _ _ w5).mono ?_
 rintro _ w6 ⟨s1,s2,s3,s4,s5,pe,rfl,⟨hs,hpe⟩,E56⟩
 refine ⟨_,_,_,_,_,_,rfl,?_⟩
 intro p3 w7 h7
 have n3:p2.block≠p3.block:=New.ne h7 (c2.pure E56).blk
 have E27:Pure w2 w7:=(E25.trans E56).trans (Ext.new h7)
 have o3:=New.own (E25.trans E56) h7
 refine bx 5 (Box.of_new h7) rfl rfl (fun w8 c3 E78=>?_)
 have E28:Pure w2 w8:=E27.own o3 E78
 have d2:=((c2.pure E56).pure (Ext.new h7)).ext E78 n3
 have d1:=b2.pure E28
 have hB8:=hB2.pure E28
 have hT8:=hT2.pure E28
 have E8:Ext (·=q.block) w w8:=E2.thenPure E28
 clear E78 E27 E56 E25 E45 E24 E23 E12 c2 b2 b1 hT2 hT1 hB1 h1 h4 h7
 have hlen:s.len=ks.length:=by cases hT;assumption
 have hfit:ks.length≤9223372036854775807:=by cases hT;assumption
 have hsh:Sp.jF k=⟨s1,s2,s3,s4,s5⟩:=hs.symm
 have J3:∀e w',Pure w8 w'→e=Sp.kI ⟨k,f,t,u,x,0,0⟩ ks.length→m_G_j3 inside (some q) p1 e w' K:=by
  intro e w' E hown;rw [← hown] at hK;unfold m_G_j3;refine ⟨fun e i w'=>∃j:Nat,i=j∧j≤ks.length∧∃n:Int,0≤n∧Ext (·=q.block) w8 w'∧Box w' q [.int .i64 n] T∧Sp.zL (inside+1) e n (ks.drop j)=Sp.zL (inside+1) (Sp.kI ⟨k,f,t,u,x,0,0⟩ ks.length) (seen+1) ks,fun _ i _=>((ks.length:Int) - i).toNat,⟨0,rfl,Nat.zero_le _,seen+1,by omega,E.pure,hB8.pure E,by rw [hown];rfl⟩,?_⟩;rintro e1 _ wl ⟨j,rfl,hj,n,hn,El,hBl,heq⟩;unfold m_G_l4;have dl:=d1.ext El (fun e=>n1 e.symm);have hTl:=hT8.ext El (fun b hb e=>hq (e▸hb));rw [← hown] at heq;have fin:∀n',Sp.zL (inside+1) e ((seen:Int)+1) ks=(e1,n')→n'=n→K e1 wl:=by
   rintro n' h rfl;refine hK _ _ ⟨by rw [h],by rw [h];exact hBl,E8.trans El⟩
  refine ⟨s,dl.cell rfl,fun hlt=>⟨fun he=>?_,fun he=>?_⟩,fun hlt=>?_⟩
  ·have hlt:j<ks.length:=by have h:=of_decide_eq_true hlt;omega
   have he:e1=0:=by simpa using he
   subst he;cases hTl with
   | mk _ _ _ _ _ _ _ rs len fit row kid =>
   obtain ⟨a,hat,ha,hr⟩:=row j hlt;refine ⟨s,dl.cell rfl,a,hat,_,_,_,_,_,rs j,hr,?_⟩;rw [i64 (n:=inside+1) (by omega) (by omega)];refine (ih j hlt (rs j) (inside+1) n wl (by omega) hn (kid j hlt) hBl).mono ?_;rintro _ w9 ⟨r,rfl,rfl,hB9,E9⟩;rw [jET hlt] at heq;refine ⟨_,rfl,⟨j+1,?_,hlt,_,jLM _ _ _ hn,El.trans E9,hB9,by rw [← hown];exact heq⟩,?_⟩
   ·rw [i64 (by omega) (by omega)];omega
   ·show ((ks.length:Int) - IntKind.i64.wrap ((j:Int)+1)).toNat<((ks.length:Int) - (j:Int)).toNat;rw [i64 (by omega) (by omega)];omega
  ·have he:e1≠0:=by simpa using he
   rw [jGK he] at heq;exact fin _ heq.symm rfl
  ·have hge:j=ks.length:=by have h:=of_decide_eq_false hlt;omega
   rw [hge,List.drop_length,Sp.zL] at heq;exact fin _ heq.symm rfl
 have J2:∀e1,e1=(if pe=0 then if (ks.length:Int)≠s5 then 53 else 0 else pe)→m_G_j2 inside (some q) p1 p2 p3 e1 w8 K:=by
  intro e1 he1;have hown:Sp.kI ⟨k,f,t,u,x,0,0⟩ ks.length=if e1=0 then Sp.jP ⟨s1,s2,s3,s4,s5⟩ ⟨k,f,t,u,x,0,0⟩ else e1:=by
   unfold Sp.kI;simp only [hsh,← hpe,he1]
  unfold m_G_j2;refine ⟨fun h=>⟨_,_,_,_,_,c3.row,_,_,_,_,_,_,_,d2.row,?_⟩,fun h=>J3 _ _ (Ext.refl _) ?_⟩
  ·have h:e1=0:=by simpa using h
   refine (jKL _ _ _ _ _ _ _ _ _ _ _ _ _).mono ?_;rintro _ w9 ⟨_,rfl,rfl,E9⟩;exact ⟨_,rfl,J3 _ _ E9 (by rw [hown,if_pos h])⟩
  ·have h:e1≠0:=by simpa using h
   rw [hown,if_neg h]
 refine ⟨fun h=>⟨s,d1.cell rfl,s5,c3.cell rfl,fun h5=>J2 _ ?_,fun h5=>J2 _ ?_⟩,fun h=>J2 _ ?_⟩
 ·have h:pe=0:=by simpa using h
  have h5:(s.len:Int)≠s5:=by simpa using h5
  rw [if_pos h,if_pos (by omega)]
 ·have h:pe=0:=by simpa using h
  have h5:(s.len:Int)=s5:=by simpa using h5
  rw [if_pos h,if_neg (by omega),h]
 ·have h:pe≠0:=by simpa using h
  rw [if_neg h]
theorem jPK (w:World):Calls prog 5 #[] w (fun e w'=>∃r:Option Addr,e=.returned (.pointer r)∧∃p,r=some p∧Pure w w'∧∃F,jS w' p [] F∧∀b,F b→w.heap.size≤b):=by
 refine w_P1 w (fun r w'=>∃p,r=some p∧Pure w w'∧∃F,jS w' p [] F∧∀b,F b→w.heap.size≤b) ?_;unfold m_P1;intro p1 w1 h1 p2 w2 h2;have E1:Pure w w1:=Ext.new h1;have m2:CMap w2 p1.block []:=(CMap.of_new h1).ext (Ext.new h2:Pure w1 w2) id;have n12:p1.block≠p2.block:=New.ne h2 h1.block_new;refine ⟨p2,rfl,E1.trans (Ext.new h2),fun b=>b=p2.block∨Sl.nil.blk b∨b=p1.block,⟨Sl.nil,p1.block,⟨Box.of_new h2,by simpa using Rws.nil _ _ _,by simpa [xD] using m2,n12,?_,?_⟩,fun _=>Iff.rfl⟩,?_⟩
 ·rintro ⟨a,h,_⟩;cases h
 ·rintro ⟨a,h,_⟩;cases h
 ·rintro b (rfl | ⟨a,h,_⟩ | rfl)
  ·exact New.own E1 h2
  ·cases h
  ·exact New.own (Ext.refl w) h1
theorem jNK (L:Sp.Pool) (n:Nat):xD (L.take n)=(xD L).take n:=by
 apply List.ext_getElem?;intro i;simp only [xD,List.getElem?_map,List.getElem?_zipIdx,List.getElem?_take];split <;> simp
theorem jQO (L:Sp.Pool):(xD L).map (·.1)=(L.map (·.node)).map jDF:=by
 apply List.ext_getElem?;intro i;simp only [xD,List.getElem?_map,List.getElem?_zipIdx];cases L[i]? <;> simp
theorem c_cut (p:Addr) (n:Nat) (w:World) {L:Sp.Pool} {F:NP} (hP:jS w p L F) (hok:Sp.Ok L) (hn:n≤L.length) :
  Calls prog 40 #[.pointer (some p),.int .i64 n] w (fun e w'=>e=.returned (.tuple #[])∧jS w' p (L.take n) F∧Ext F w w'):=by
 suffices key:∀K:WP,(∀w',jS w' p (L.take n) F∧Ext F w w'→K w')→m_B1 (some p) n w K from
  w_B1 _ _ w _ (key _ (fun _ h=>h))
 intro K hK
 unfold m_B1
 obtain ⟨s,m,hS,hF⟩:=hP
 have hfew:=hok.few
 have hcap:s.len≤s.cap:=by
  have:=hS.rows.len;rcases hS.rows.own with ⟨rfl,_⟩ | ⟨g,cur,_,_,hc,_⟩
  ·simp [Sl.nil]
  ·omega
 obtain ⟨s1,hr1,hl1⟩:=hS.rows.lst.lo (P:=prog) jCA hcap (k:=.i64) (n:=n) (by omega) (by simpa using hn)
 have hlen1:s1.len=L.length - n:=by rw [hl1.len];simp
 refine ⟨p,rfl,s,hS.box.cell0,s1,hr1,?_⟩
 refine ⟨fun x w'=>∃j:Nat,x=j∧j≤L.length - n∧Ext (·=m) w w'∧CMap w' m ((xD L).take n++(xD L).drop (n+j)),fun x _=>((L.length:Int) - x).toNat,⟨0,rfl,Nat.zero_le _,Ext.refl w,by simpa using hS.map⟩,?_⟩
 rintro _ wl ⟨j,rfl,hj,El,hml⟩
 have hboxl:=hS.box.ext El hS.n1.symm
 have hrowsl:=hS.rows.ext El (fun b hb e=>hS.n3 (e▸hb))
 unfold m_B1_l1
 refine ⟨fun h=>?_,fun h=>?_⟩
 ·have hlt:n+j<L.length:=by have h:=of_decide_eq_true h;omega
  have hll:=hl1.ext El (fun b hb e=>hS.n3 (e▸hb))
  obtain ⟨a,hat,_,hrow⟩:=hll.at_ j (by simp;omega)
  generalize he:L[n+j]=e at *
  have hrow':Row wl a (jMJ e):=by
   have:((L.map jMJ).drop ((n:Int).toNat))[j]'(by simp;omega)=jMJ e:=by simp [he]
   rw [this] at hrow;exact hrow
  obtain ⟨nd,sz,dp⟩:=e
  obtain ⟨k,f,t,u,x,a1,b1⟩:=nd
  refine ⟨a,hat,_,_,_,_,_,_,_,_,_,hrow',?_⟩
  intro p2 w1 h1
  have E1:Pure wl w1:=Ext.new h1
  have o1:=New.own (Ext.refl wl) h1
  refine bx 9 (Box.of_new h1) rfl rfl (fun w2 b2 E=>?_)
  have E2:Pure wl w2:=E1.own o1 E
  refine ⟨fun w'=>w'.cell? (p.add 1)=some (.map (some m))∧Row w' p2 (uU ⟨k,f,t,u,x,a1,b1⟩),⟨(hboxl.pure (E2.thenPure (Ext.drew w2))).cell (i:=1) rfl,?_⟩,?_⟩
  ·have : Row w2 p2 (uU ⟨k, f, t, u, x, a1, b1⟩) := fun i hi => by
    have:=b2.row i (by simp [uU] at hi ⊢;omega);rw [this];have h7:i<7:=by simpa [uU] using hi
    have:i=0∨i=1∨i=2∨i=3∨i=4∨i=5∨i=6:=by omega
    rcases this with rfl | rfl | rfl | rfl | rfl | rfl | rfl <;> rfl
   exact Ext.row (F:=None) (Ext.drew w2) this id
  intro w3 hw3
  have E3:Pure wl w3:=by rw [hw3];exact E2.thenPure (Ext.drew w2)
  clear hw3
  refine ⟨p,rfl,some m,fun w' h=>h.1,k,f,t,u,x,a1,b1,fun w' h=>h.2,?_⟩
  have hm3:=hml.ext E3 id
  have hpl:(xD L).length=L.length:=by simp [xD]
  have hget:(xD L)[n+j]?=some (jDF ⟨k,f,t,u,x,a1,b1⟩,.int .i64 (n+j+1:Nat)):=by
   simp only [xD,List.getElem?_map,List.getElem?_zipIdx,List.getElem?_eq_getElem hlt,he];simp
  have hidx:((xD L).take n++(xD L).drop (n+j))[n]?=some (jDF ⟨k,f,t,u,x,a1,b1⟩,.int .i64 (n+j+1:Nat)):=by
   have e0:n+j+(n - ((xD L).take n).length)=n+j:=by rw [List.length_take];omega
   rw [List.getElem?_append_right (by rw [List.length_take];omega),List.getElem?_drop,e0,hget]
  have hnd:((xD L).map (·.1)).Nodup:=by
   rw [jQO,List.nodup_iff_pairwise_ne,List.pairwise_map];exact hok.nodup.imp (fun h e=>h (jES.1 e))
  have hsub:List.Sublist ((xD L).take n++(xD L).drop (n+j)) (xD L):=by
   conv=>rhs;rw [← List.take_append_drop n (xD L)]
   refine (List.Sublist.refl _).append ?_;have e0:(xD L).drop (n+j)=((xD L).drop n).drop j:=by rw [List.drop_drop]
   rw [e0];exact List.drop_sublist _ _
  have hnd2:(((xD L).take n++(xD L).drop (n+j)).map (·.1)).Nodup:=hnd.sublist (hsub.map _)
  obtain ⟨w4,hr4,hm4,E4⟩:=hm3.delete (P:=prog) (Q:=59) (z:=0) underlying45 lL (fun q hq=>tA q (hsub.subset hq)) ⟨_,rfl⟩ hidx (fun i u hi=>by
   obtain ⟨hi1,hi2⟩:=List.getElem?_eq_some_iff.1 hi;obtain ⟨hn1,hn2⟩:=List.getElem?_eq_some_iff.1 hidx;refine Classical.byContradiction fun hne=>?_;have hne:=List.pairwise_iff_getElem.1 hnd2;rcases Nat.lt_or_gt_of_ne ‹_› with hlt | hlt
   ·exact hne i n (by simpa using hi1) (by simpa using hn1) hlt (by rw [List.getElem_map,List.getElem_map,hi2,hn2])
   ·exact hne n i (by simpa using hn1) (by simpa using hi1) hlt (by rw [List.getElem_map,List.getElem_map,hi2,hn2]))
  refine ⟨w4,hr4,⟨j+1,?_,by omega,(El.trans E3.pure).trans E4,?_⟩,?_⟩
  ·rw [i64 (by omega) (by omega)];omega
  ·rw [List.eraseIdx_append_of_length_le (by rw [List.length_take];omega)] at hm4
   have:n - ((xD L).take n).length=0:=by rw [List.length_take];omega
   rw [this] at hm4
   have hd:((xD L).drop (n+j)).eraseIdx 0=(xD L).drop (n+(j+1)):=by
    rw [List.drop_eq_getElem_cons (by omega)];simp;rfl
   rw [hd] at hm4;exact hm4
  ·show ((L.length:Int) - IntKind.i64.wrap ((j:Int)+1)).toNat<((L.length:Int) - (j:Int)).toNat
   rw [i64 (by omega) (by omega)];omega
 ·have hge:n+j=L.length:=by have h:=of_decide_eq_false h;omega
  have hpl:(xD L).length=L.length:=by simp [xD]
  rw [hge,← hpl,List.drop_length,List.append_nil] at hml
  obtain ⟨s2,hr2,hrows2,hb2⟩:=hrowsl.hi (P:=prog) jCA (k:=.i64) (n:=n) (by omega) (by simpa using hn)
  refine ⟨p,rfl,s,hboxl.cell0,s2,hr2,p,rfl,hboxl.canW0 (by simp),?_⟩
  rintro w5 hw5
  have hbox5:Box w5 p [s2.v,.map (some m)] 48:=by rw [hw5];exact hboxl.set0
  have E5:Ext (·=p.block) wl w5:=by rw [hw5];exact Ext.setCell p _
  clear hw5
  refine hK _ ⟨⟨s2,m,⟨hbox5,?_,?_,hS.n1,fun h=>hS.n2 ((hb2 _).1 h),fun h=>hS.n3 ((hb2 _).1 h)⟩,fun b=>by rw [hF b,hb2 b]⟩,?_⟩
  ·have:=hrows2.ext E5 (fun b hb e=>hS.n2 (by rw [← e];exact (hb2 _).1 hb))
   simpa using this
  ·rw [jNK];exact hml.ext E5 hS.n1
  ·exact (El.mono (fun i _ h=>(hF i).2 (.inr (.inr h)))).trans' E5 (fun i _ h=>(hF i).2 (.inl h))
theorem jIQ {n:Sp.Node} {i:Nat} {L:Sp.Pool} {t:Sp.Tree} {ts:List Sp.Tree} (h:(Sp.grow L t).2.1≠0):Sp.zD n i L (t :: ts)=(0,(Sp.grow L t).2.1,(Sp.grow L t).2.2):=by rw [Sp.zD,if_pos h]
theorem jGT {n:Sp.Node} {i:Nat} {L:Sp.Pool} {t:Sp.Tree} {ts:List Sp.Tree} (h:(Sp.grow L t).2.1=0):Sp.zD n i L (t :: ts)=Sp.zD (if i=0 then { n with a:=(Sp.grow L t).1 } else { n with b:=(Sp.grow L t).1 }) (i+1) (Sp.grow L t).2.2 ts:=by rw [Sp.zD,if_neg (by simp [h])]
def Sp.Tree.two (t:Sp.Tree):Prop:=Sp.Tree.rec (motive_1:=fun _=>Prop) (motive_2:=fun _=>Prop) (fun _ _ _ _ _ ks h=>ks.length≤2∧h) True (fun _ _ h1 h2=>h1∧h2) t
def jFL:List Sp.Tree→Prop
 | []=>True
 | t :: ts=>Sp.Tree.two t∧jFL ts
theorem jSF {k f t u:Int} {x:ByteArray} {ks:List Sp.Tree}:Sp.Tree.two (.mk k f t u x ks)↔ks.length≤2∧jFL ks:=by
 have:∀ks:List Sp.Tree,(Sp.Tree.rec_1 (motive_1:=fun _=>Prop) (motive_2:=fun _=>Prop) (fun _ _ _ _ _ ks h=>ks.length≤2∧h) True (fun _ _ h1 h2=>h1∧h2) ks:Prop)=jFL ks:=by
  intro ks;induction ks with
  | nil=>rfl
  | cons t ts ih=>show (Sp.Tree.two t∧_)=(Sp.Tree.two t∧_);rw [ih]
 show (ks.length≤2∧_)↔_;rw [this]
theorem jKR {ks:List Sp.Tree} (h:jFL ks) {i:Nat} (hi:i<ks.length):Sp.Tree.two ks[i]:=by
 induction ks generalizing i with
 | nil=>simp at hi
 | cons t ts ih =>
  cases i with
  | zero=>exact h.1
  | succ i=>exact ih h.2 (by simpa using hi)
theorem c_grow {S:NP} (p:Addr) (t:Sp.Tree):∀(s:Sl) (w:World) (L:Sp.Pool) (F:NP),Sp.Tree.two t→TreeAt S w s t→jS w p L F→Sp.Ok L→(∀b,F b→¬ S b)→(∀b,S b→b<w.heap.size) →
  Calls prog 39 #[.pointer (some p),.agg (tU t s).toArray] w
   (fun e w'=>∃r1:Int,∃r2:Int,e=.returned (.tuple #[.int .i64 r1,.int .i64 r2])∧((r1,r2)=((Sp.grow L t).1,(Sp.grow L t).2.1)∧∃F',jS w' p (Sp.grow L t).2.2 F'∧Ext F w w'∧∀b,F' b→F b∨w.heap.size≤b)):=by
 induction t using Sp.Tree.ind with
 | h k f t u x ks ih =>
 intro s w L F h2 hT hP hok hFS hSw
 suffices key:∀K:Int→Int→WP,(∀r1 r2 w',((r1,r2)=((Sp.grow L (.mk k f t u x ks)).1,(Sp.grow L (.mk k f t u x ks)).2.1)∧∃F',jS w' p (Sp.grow L (.mk k f t u x ks)).2.2 F'∧Ext F w w'∧∀b,F' b→F b∨w.heap.size≤b)→K r1 r2 w')→m_A1 (some p) k f t u x s w K from
  w_A1 _ _ _ _ _ _ _ w _ (key _ (fun _ _ _ h=>h))
 intro K hK
 obtain ⟨hk2,hall⟩:=jSF.1 h2
 unfold m_A1
 intro p2 w1 h1
 have b1:=Box.of_new h1
 have E1:Pure w w1:=Ext.new h1
 refine ⟨_,_,_,_,_,_,b1.row,?_⟩
 refine (jKJ _ _ _ _ _ _ w1).mono ?_
 rintro _ w2 ⟨k',f',t',u',x',a',b',rfl,hn,E12⟩
 cases hn
 refine ⟨_,_,_,_,_,_,_,rfl,?_⟩
 intro p3 w3 h3
 have E3:Pure w w3:=(E1.trans E12).trans (Ext.new h3)
 have o3:=New.own (E1.trans E12) h3
 have n23:p2.block≠p3.block:=New.ne h3 (b1.pure E12).blk
 refine bx 7 (Box.of_new h3) rfl rfl (fun w4 b3 E34=>?_)
 have E4:Pure w w4:=E3.own o3 E34
 have b2:=((b1.pure E12).pure (Ext.new h3)).ext E34 n23
 intro p4 w5 h5
 have E5:Pure w w5:=E4.trans (Ext.new h5)
 have o4:=New.own E4 h5
 have n34:p3.block≠p4.block:=New.ne h5 b3.blk
 have c3:=b3.pure (Ext.new h5:Pure w4 w5)
 have c4:=Box.of_new h5
 have c2:=b2.pure (Ext.new h5:Pure w4 w5)
 refine ⟨s,c2.cell rfl,?_⟩
 have hsp:Sp.grow L (.mk k f t u x ks)=Sp.zD ⟨k,f,t,u,x,0,0⟩ 0 L ks:=by rw [Sp.grow]
 rw [hsp] at hK
 have hlen:s.len=ks.length:=by cases hT;assumption
 refine ⟨fun i w'=>∃j:Nat,i=j∧j≤ks.length∧∃(nd:Sp.Node) (L':Sp.Pool) (F':NP),Sp.zD ⟨k,f,t,u,x,0,0⟩ 0 L ks=Sp.zD nd j L' (ks.drop j)∧Sp.Ok L'∧jS w' p L' F'∧(∀b,F' b→F b∨w.heap.size≤b)∧¬ F' p3.block∧¬ F' p4.block∧Ext F w w'∧Box w' p3 (uU nd) 59∧Box w' p4 [.pointer (some (p3.add 5)),.pointer (some (p3.add 6))] 127,fun i _=>((ks.length:Int) - i).toNat,
  ⟨0,rfl,Nat.zero_le _,⟨k,f,t,u,x,0,0⟩,L,F,by simp,hok,hP.pure E5,fun b h=>.inl h,fun h=>by have:=hP.lt h;omega,fun h=>by have:=hP.lt h;omega,E5.pure,c3,c4⟩,?_⟩
 rintro _ wl ⟨j,rfl,hj,nd,L',F',heq,hok',hPl,hF',hn3,hn4,El,d3,d4⟩
 unfold m_A1_l1
 refine ⟨fun h=>?_,fun h=>?_⟩
 ·have hlt:j<ks.length:=by have h:=of_decide_eq_true h;omega
  have hTl:TreeAt S wl s (.mk k f t u x ks):=hT.ext El (fun b hs hf=>hFS b hf hs)
  have hkid:∀i (h:i<ks.length),∃a r,At s i 6 a∧Row wl a (tU ks[i] r)∧TreeAt S wl r ks[i]:=by
   cases hTl with
   | mk _ _ _ _ _ _ _ rs len fit row kid=>exact fun i h=>let ⟨a,h1,_,h3⟩:=row i h;⟨a,rs i,h1,h3,kid i h⟩
  obtain ⟨a,r,hat,hrow,hTk⟩:=hkid j hlt
  refine ⟨a,hat,_,_,_,_,_,r,hrow,?_⟩
  intro p5 w6 h6
  have o5:=New.own (Ext.refl wl) h6
  refine bx 6 (Box.of_new h6) rfl rfl (fun w7 b5 E67=>?_)
  have E7:Pure wl w7:=Ext.own (Ext.new h6) o5 E67
  refine ⟨_,_,_,_,_,r,b5.row,?_⟩
  have hsz:w.heap.size≤wl.heap.size:=El.size
  refine (ih j hlt r w7 L' F' (jKR hall hlt) (hTk.pure E7) (hPl.pure E7) hok' (fun b hb hs=>(hF' b hb).elim (fun h=>hFS b h hs) (fun h=>by have:=hSw b hs;omega)) (fun b hs=>by have:=hSw b hs;have:=E7.size;omega)).mono ?_
  rintro _ w8 ⟨r1,r2,rfl,hr,F8,hP8,E8,hF8⟩
  have e1:r1=(Sp.grow L' ks[j]).1:=congrArg Prod.fst hr
  have e2:r2=(Sp.grow L' ks[j]).2.1:=congrArg Prod.snd hr
  rw [List.drop_eq_getElem_cons hlt] at heq
  have hF8':∀b,F8 b→F b∨w.heap.size≤b:=fun b hb=>(hF8 b hb).elim (hF' b) (fun h=>by right;have:=E7.size;omega)
  have Ew8:Ext F w w8:=(El.thenPure E7).trans' E8 (fun i hi h=>(hF' i h).elim id (fun h=>by omega))
  refine ⟨_,_,rfl,fun h=>?_,fun h=>?_⟩
  ·have h:(Sp.grow L' ks[j]).2.1≠0:=by rw [← e2];simpa using h
   rw [jIQ h] at heq
   refine hK _ _ _ ?_
   rw [heq];exact ⟨by rw [e2],F8,hP8,Ew8,hF8'⟩
  ·have h:(Sp.grow L' ks[j]).2.1=0:=by rw [← e2];simpa using h
   rw [jGT h] at heq
   have q3:=(d3.pure E7).ext E8 hn3
   have q4:=(d4.pure E7).ext E8 hn4
   have hs7:wl.heap.size≤w7.heap.size:=E7.size
   have n38:¬ F8 p3.block:=fun h=>(hF8 _ h).elim hn3 (fun h=>by have:=(d3.pure E7).lt;omega)
   have n48:¬ F8 p4.block:=fun h=>(hF8 _ h).elim hn4 (fun h=>by have:=(d4.pure E7).lt;omega)
   have hok8:=(Sp.lM ks[j] L' hok').1
   have fin : ∀ (w9 : World) (nd' : Sp.Node), nd' = (if j = 0 then { nd with a := (Sp.grow L' ks[j]).1 } else { nd with b := (Sp.grow L' ks[j]).1 }) → Box w9 p3 (uU nd') 59 → Ext (· = p3.block) w8 w9 →
     (∃j':Nat,IntKind.i64.wrap ((j:Int)+1)=j'∧j'≤ks.length∧∃(nd:Sp.Node) (L':Sp.Pool) (F':NP),Sp.zD ⟨k,f,t,u,x,0,0⟩ 0 L ks=Sp.zD nd j' L' (ks.drop j')∧Sp.Ok L'∧jS w9 p L' F'∧(∀b,F' b→F b∨w.heap.size≤b)∧¬ F' p3.block∧¬ F' p4.block∧Ext F w w9∧Box w9 p3 (uU nd) 59∧Box w9 p4 [.pointer (some (p3.add 5)),.pointer (some (p3.add 6))] 127)∧((ks.length:Int) - IntKind.i64.wrap ((j:Int)+1)).toNat<((ks.length:Int) - (j:Int)).toNat:=by
    intro w9 nd' hnd B9 E9
    rw [i64 (by omega) (by omega)]
    refine ⟨⟨j+1,by omega,hlt,nd',_,F8,by rw [heq,hnd],hok8,hP8.ext E9 (fun b hb e=>n38 (e▸hb)),hF8',n38,n48,Ew8.trans' E9 (fun i hi h=>by subst h;omega),B9,q4.ext E9 n34.symm⟩,by omega⟩
   have hj2:j=0∨j=1:=by omega
   rcases hj2 with rfl | rfl
   ·refine ⟨p4,⟨by omega,by simp,p4,rfl,rfl⟩,some (p3.add 5),q4.cell0,p3.add 5,rfl,q3.canW (by simp [uU]),?_⟩
    intro w9 hw9
    refine fin w9 _ rfl ?_ ?_
    ·rw [hw9,e1];exact q3.set 5 _
    ·rw [hw9];have:=Ext.setCell (w:=w8) (p3.add 5) (.int .i64 r1);rw [zA] at this;exact this
   ·refine ⟨p4.add 1,⟨by omega,by simp,p4,rfl,rfl⟩,some (p3.add 6),q4.cell rfl,p3.add 6,rfl,q3.canW (by simp [uU]),?_⟩
    intro w9 hw9
    refine fin w9 _ rfl ?_ ?_
    ·rw [hw9,e1];exact q3.set 6 _
    ·rw [hw9];have:=Ext.setCell (w:=w8) (p3.add 6) (.int .i64 r1);rw [zA] at this;exact this
 ·have hge:j=ks.length:=by have h:=of_decide_eq_false h;omega
  rw [hge,List.drop_length,Sp.zD] at heq
  obtain ⟨k0,f0,t0,u0,x0,a0,b0⟩:=nd
  refine ⟨_,_,_,_,_,_,_,d3.row,?_⟩
  refine (jPL p k0 f0 t0 u0 x0 a0 b0 wl hPl hok').mono ?_
  rintro _ w9 ⟨r1,r2,rfl,hr,F9,hP9,E9,hF9⟩
  have hsz:w.heap.size≤wl.heap.size:=El.size
  refine ⟨_,_,rfl,hK _ _ _ ?_⟩
  rw [heq]
  exact ⟨hr,F9,hP9,El.trans' E9 (fun i hi h=>(hF' i h).elim id (fun h=>by omega)),fun b hb=>(hF9 b hb).elim (hF' b) (fun h=>by right;omega)⟩
theorem jNW (t:Sp.Tree):∀i n:Int,(Sp.looks i n t).1=0→Sp.Tree.two t:=by
 induction t using Sp.Tree.ind with
 | h k f t u x ks ih =>
  have hA:∀(ks:List Sp.Tree),(∀i (hi:i<ks.length),∀j n:Int,(Sp.looks j n ks[i]).1=0→Sp.Tree.two ks[i])→∀i e n:Int,(Sp.zL i e n ks).1=0→e=0∧jFL ks:=by
   intro ks;induction ks with
   | nil=>intro _ i e n h;exact ⟨by simpa [Sp.zL] using h,trivial⟩
   | cons t ts iht =>
    intro hh i e n h
    unfold Sp.zL at h
    split at h
    ·rename_i he
     have:=iht (fun i hi=>hh (i+1) (by simpa using hi)) _ _ _ h
     exact ⟨he,hh 0 (by simp) i n this.1,this.2⟩
    ·rename_i he;exact absurd h he
  intro i n h
  unfold Sp.looks at h
  split at h
  ·cases h
  ·split at h
   ·cases h
   ·have:=hA ks ih _ _ _ h
    refine jSF.2 ⟨?_,this.2⟩
    have ho:=this.1
    unfold Sp.kI at ho
    simp only at ho
    have hk:=Sp.qW k
    by_cases hp:Sp.jW ⟨k,f,t,u,x,0,0⟩=0
    ·rw [if_pos hp] at ho
     by_cases hl:(ks.length:Int)≠(Sp.jF k).kids
     ·rw [if_pos hl] at ho;simp at ho
     ·omega
    ·rw [if_neg hp,if_neg hp] at ho;exact absurd ho hp
theorem c_Of {S:NP} (p:Addr) (t:Sp.Tree) (s:Sl) (w:World) {L:Sp.Pool} {F:NP} (hT:TreeAt S w s t) (hP:jS w p L F) (hok:Sp.Ok L) (hFS:∀b,F b→¬ S b) (hSw:∀b,S b→b<w.heap.size) :
  Calls prog 16 #[.pointer (some p),.agg (tU t s).toArray] w
   (fun e w'=>∃r1:Int,∃r2:Int,e=.returned (.tuple #[.int .i64 r1,.int .i64 r2])∧((r1,r2)=((Sp.of L t).1,(Sp.of L t).2.1)∧∃F',jS w' p (Sp.of L t).2.2 F'∧Ext F w w'∧∀b,F' b→F b∨w.heap.size≤b)):=by
 obtain ⟨k,f,to,u,x,ks⟩:=t
 suffices key:∀K:Int→Int→WP,(∀r1 r2 w',((r1,r2)=((Sp.of L (.mk k f to u x ks)).1,(Sp.of L (.mk k f to u x ks)).2.1)∧∃F',jS w' p (Sp.of L (.mk k f to u x ks)).2.2 F'∧Ext F w w'∧∀b,F' b→F b∨w.heap.size≤b)→K r1 r2 w')→m_L1 (some p) k f to u x s w K from
  w_L1 _ _ _ _ _ _ _ w _ (key _ (fun _ _ _ h=>h))
 intro K hK
 unfold m_L1
 intro p2 w1 h1
 have b1:=Box.of_new h1
 have E1:Pure w w1:=Ext.new h1
 refine Br.f rfl ?_
 intro p3 w2 h2
 have E2:Pure w w2:=E1.trans (Ext.new h2)
 have o3:=New.own E1 h2
 have c3:=Box.of_new h2
 have n23:p2.block≠p3.block:=New.ne h2 b1.blk
 refine ⟨c3.canW0 (by simp),?_⟩
 intro w3 hw3
 have c3':Box w3 p3 [.int .i64 0] 3:=by rw [hw3];exact c3.set0
 have E23:Ext (·=p3.block) w2 w3:=by rw [hw3];exact Ext.setCell p3 _
 clear hw3
 have E3:Pure w w3:=E2.own o3 E23
 have b3:=(b1.pure (Ext.new h2:Pure w1 w2)).ext E23 n23
 refine ⟨_,_,_,_,_,s,b3.row,?_⟩
 generalize ht:Sp.Tree.mk k f to u x ks=t at *
 have htr:(Value.agg #[.int .i64 k,.int .i64 f,.int .i64 to,.int .u64 u,.string x,s.v])=.agg (tU t s).toArray:=by rw [← ht];rfl
 rw [htr]
 refine (jUQ p3 (fun h=>by have:=hSw _ h;omega) _ t s 0 0 w3 (by omega) (by omega) (hT.pure E3) c3').mono ?_
 rintro _ w4 ⟨r1,rfl,rfl,_,E34⟩
 have E4:Pure w w4:=E3.own o3 E34
 have b4:=b3.ext E34 n23
 have same:∀w',Pure w w'→∃F',jS w' p L F'∧Ext F w w'∧∀b,F' b→F b∨w.heap.size≤b:=fun w' E=>⟨F,hP.pure E,E.pure,fun _ h=>.inl h⟩
 refine ⟨_,rfl,fun h=>?_,fun h=>?_⟩
 ·have h:(Sp.looks 0 0 t).1≠0:=by simpa using h
  have:Sp.of L t=(0,(Sp.looks 0 0 t).1,L):=by rw [Sp.of,if_pos h]
  refine hK _ _ _ ?_
  rw [this];exact ⟨rfl,same _ E4⟩
 ·have h:(Sp.looks 0 0 t).1=0:=by simpa using h
  have hP4:=hP.pure E4
  obtain ⟨s0,m0,hS0,hF0⟩:=id hP4
  have hl0:s0.len=L.length:=by rw [hS0.rows.len];simp
  refine ⟨p,rfl,s0,hS0.box.cell0,_,_,_,_,_,s,b4.row,?_⟩
  rw [htr]
  refine (c_grow p t s w4 L F (jNW t _ _ h) (hT.pure E4) hP4 hok hFS (fun b hb=>by have:=hSw b hb;have:=E4.size;omega)).mono ?_
  rintro _ w5 ⟨r1,r2,rfl,hr,F5,hP5,E45,hF5⟩
  have e1:r1=(Sp.grow L t).1:=congrArg Prod.fst hr
  have e2:r2=(Sp.grow L t).2.1:=congrArg Prod.snd hr
  have hs4:w.heap.size≤w4.heap.size:=E4.size
  have E5:Ext F w w5:=E4.pure.trans E45
  have hF5':∀b,F5 b→F b∨w.heap.size≤b:=fun b hb=>(hF5 b hb).elim .inl (fun h=>.inr (by omega))
  refine ⟨_,_,rfl,fun h'=>?_,fun h'=>?_⟩
  ·have h':(Sp.grow L t).2.1≠0:=by rw [← e2];simpa using h'
   obtain ⟨hok5,M,hM⟩:=Sp.lM t L hok
   rw [hl0]
   refine (c_cut p L.length w5 hP5 hok5 (by rw [hM];simp)).mono ?_
   rintro _ w6 ⟨rfl,hP6,E56⟩
   have:Sp.of L t=(0,(Sp.grow L t).2.1,L):=by rw [Sp.of,if_neg (by simp [h]),if_pos h']
   refine ⟨rfl,hK _ _ _ ?_⟩
   rw [this]
   rw [hM,List.take_left] at hP6
   exact ⟨by rw [e2],F5,hP6,E5.trans' E56 (fun i hi h=>(hF5' i h).elim id (fun h=>by omega)),hF5'⟩
  ·have h':(Sp.grow L t).2.1=0:=by rw [← e2];simpa using h'
   have:Sp.of L t=((Sp.grow L t).1,0,(Sp.grow L t).2.2):=by rw [Sp.of,if_neg (by simp [h]),if_neg (by simp [h'])]
   refine hK _ _ _ ?_
   rw [this]
   exact ⟨by rw [e1],F5,hP5,E5,hF5'⟩
end Go.Proofs
end
section
open Go Go.SE
open Go.IntKind renaming i64 → q6
namespace Go.Proofs
open Tryz
set_option maxRecDepth 100000
set_option maxHeartbeats 4000000
attribute [local irreducible] wpL wpX opE wpE Calls
def m_I_j2 (p2 p3 p5:Addr) (r3:Int) (w:World) (K:Int→Int→Int→ByteArray→Bool→Bool→WP):Prop :=Calls prog 22 #[(vp (some p3)),(vi r3),(vi 2)] w (fun e w16=>∃bC bD bG aH bE bH bI,e=.returned (Ae bC bD bG aH bE bH bI)∧(∀j,j<5→jT w16 (p5.add j))∧∀w17,w17=storeRow w16 p5 (Ag 7 0 aH false)→∃v6,w17.cell? (p3.add 1)=some (vb v6)∧Br v6 ((∀j,j<5→jT w17 (p2.add j))∧∀w18,w18=storeRow w17 p2 (Ag 0 0 0 false)→∃bJ bK bL bM bN,Row w18 p2 (Aa bJ bK bL bM bN)∧K bJ bK bL bM bN false w18) (∃cT cU cV cW cX,Row w17 p5 (Aa cT cU cV cW cX)∧(∀j,j<5→jT w17 (p2.add j))∧∀w19,w19=storeRow w17 p2 (Aa cT cU cV cW cX)→∃bO bP bQ bR bS,Row w19 p2 (Aa bO bP bQ bR bS)∧K bO bP bQ bR bS true w19))
def m_I_j3 (p2 p3 p5:Addr) (r3:Int) (w:World) (K:Int→Int→Int→ByteArray→Bool→Bool→WP):Prop :=∃v7,w.cell? (p3.add 1)=some (vb v7)∧Br v7 (∃v8,w.cell? (p3.add 1)=some (vb v8)∧Br v8 ((∀j,j<5→jT w (p2.add j))∧∀w20,w20=storeRow w p2 (Ag 0 0 0 false)→∃bT bU bV bW bX,Row w20 p2 (Aa bT bU bV bW bX)∧K bT bU bV bW bX false w20) (∃cY cZ dA dB dC,Row w p5 (Aa cY cZ dA dB dC)∧(∀j,j<5→jT w (p2.add j))∧∀w21,w21=storeRow w p2 (Aa cY cZ dA dB dC)→∃dD dE dF dG dH,Row w21 p2 (Aa dD dE dF dG dH)∧K dD dE dF dG dH true w21)) (m_I_j2 p2 p3 p5 r3 w K)
def m_I_j1 (t1:Int) (p2 p3 p5:Addr) (x1:Bool) (w:World) (K:Int→Int→Int→ByteArray→Bool→Bool→WP):Prop :=Br x1 (Calls prog 20 #[(vp (some p3)),(vi t1)] w (fun e w11=>∃cG cH cI bF cJ,e=.returned (Ac cG cH cI bF cJ)∧(∀j,j<5→jT w11 (p5.add j))∧∀w12,w12=storeRow w11 p5 (Aa cG cH cI bF cJ)→∃v5,w12.cell? (p3.add 1)=some (vb v5)∧Br v5 ((∀j,j<5→jT w12 (p2.add j))∧∀w13,w13=storeRow w12 p2 (Ag 0 0 0 false)→∃aI aJ aU aK aV,Row w13 p2 (Aa aI aJ aU aK aV)∧K aI aJ aU aK aV false w13) (∃dI dJ dK dL dM,Row w12 p5 (Aa dI dJ dK dL dM)∧(∀j,j<5→jT w12 (p2.add j))∧∀w14,w14=storeRow w12 p2 (Aa dI dJ dK dL dM)→∃bY bZ cA cB cC,Row w14 p2 (Aa bY bZ cA cB cC)∧K bY bZ cA cB cC true w14))) (Calls prog 21 #[(vp (some p3)),(vi t1)] w (fun e w15=>∃r2 r3,e=.returned (.tuple #[(vs r2),(vi r3)])∧∃v9,w15.cell? (p3.add 1)=some (vb v9)∧Br v9 (jT w15 (p3.add 1)∧∀w22,w22=w15.setCell (p3.add 1) (vb true)→m_I_j3 p2 p3 p5 r3 w22 K) (jT w15 (p3.add 1)∧∀w23,w23=w15.setCell (p3.add 1) (vb (!(decide (r2=(⟨#[102,117,108,108]⟩:ByteArray)))))→m_I_j3 p2 p3 p5 r3 w23 K)))
def m_I (p1:Option Addr) (t1:Int) (w:World) (K:Int→Int→Int→ByteArray→Bool→Bool→WP):Prop :=∀p2 w1,New w (.cells #[(vi 0),(vi 0),(vu 0),ve,(vb false)] 24) p2 w1→∀p3 w2,New w1 (.cells #[(vp p1),(vb false)] 57) p3 w2→Calls prog 18 #[(vp p1),(vi t1)] w2 (fun e w3=>∃aB aC aD aA aE aF aG r1,e=.returned (.tuple #[(Ae aB aC aD aA aE aF aG),(vb r1)])∧∀p4 w4,New w3 (.cells #[(vi 0),(vi 0),(vi 0),(vu 0),ve,(vi 0),(vi 0)] 59) p4 w4→(∀j,j<7→jT w4 (p4.add j))∧∀w5,w5=storeRow w4 p4 (Ad aB aC aD aA aE aF aG)→∀p5 w6,New w5 (.cells #[(vi 0),(vi 0),(vu 0),ve,(vb false)] 24) p5 w6→∃v1,w6.cell? p4=some (vi v1)∧Br (v1 == 7) (∃v2,w6.cell? (p4.add 1)=some (vi v2)∧∃v3,w6.cell? (p4.add 5)=some (vi v3)∧Calls prog 19 #[(vp (some p3)),(vi v2),(vi v3)] w6 (fun e w7=>∃bA bB aS aR aT,e=.returned (Ac bA bB aS aR aT)∧(∀j,j<5→jT w7 (p5.add j))∧∀w8,w8=storeRow w7 p5 (Aa bA bB aS aR aT)→∃v4,w8.cell? (p3.add 1)=some (vb v4)∧Br v4 ((∀j,j<5→jT w8 (p2.add j))∧∀w9,w9=storeRow w8 p2 (Ag 0 0 0 false)→∃aL aM aW aN aX,Row w9 p2 (Aa aL aM aW aN aX)∧K aL aM aW aN aX false w9) (∃cD cE dN cF dO,Row w8 p5 (Aa cD cE dN cF dO)∧(∀j,j<5→jT w8 (p2.add j))∧∀w10,w10=storeRow w8 p2 (Aa cD cE dN cF dO)→∃aO aP aY aQ aZ,Row w10 p2 (Aa aO aP aY aQ aZ)∧K aO aP aY aQ aZ true w10))) (Br (v1 == 8) (m_I_j1 t1 p2 p3 p5 (v1 == 8) w6 K) (m_I_j1 t1 p2 p3 p5 (v1 == 9) w6 K)))
theorem w_I (p1 t1 w K) (h:m_I p1 t1 w K):
  Calls prog 8 #[(vp p1),(vi t1)] w (fun e w'=>∃cK cL cN cM cO r4,e=.returned (.tuple #[(Ac cK cL cN cM cO),(vb r4)])∧K cK cL cN cM cO r4 w'):=by
 refine cw (args:=[(vp p1),(vi t1)]) func8 ntmps8 (eg (sn (O:=(.cells #[(vi 0),(vi 0),(vu 0),ve,(vb false)] 24)) (jG (zeroValue24 _) rfl) ?_))
 intro p2 w1 hn18
 have h:=h p2 w1 hn18
 refine q (ln (jFH rfl (fun _ _ _ h=>h) (eg (q0 (vp p1) (q0 (.agg #[(vp p1),(vb false)]) (sn (O:=(.cells #[(vp p1),(vb false)] 57)) xb ?_))))))
 intro p3 w2 hn17
 have h:=h p3 w2 hn17
 refine q (ln (eg (qb (sc call18 (h.mono fun e w3 ⟨aB,aC,aD,aA,aE,aF,aG,r1,k,h⟩=>⟨_,k,?_⟩)))))
 refine qc (nw1 h (jG (zeroValue59 _) rfl) fun p4 w4 h=>sro (sizeOf59 _) h fun w5 h=>q (ln (eg (nw1 h (jG (zeroValue24 _) rfl) fun p5 w6 h=>ln (jA (jFI (jN (jA (eg (q0 (vp (some p4)) (ql (isAgg3 _) h fun v1 h=>ln (jM (eg (qb (ln (cbr h ?_ ?_))))))))))))))))<;>intro h
 refine rg (qb (ql (isAgg3 _) h fun v2 h=>q (ql (isAgg29 _) h fun v3 h=>sc call19 (h.mono fun e w7 ⟨bA,bB,aS,aR,aT,k,h⟩=>⟨_,k,?_⟩))))
 refine sro (sizeOf24 _) h fun w8 h=>jC (uS (jN (jA (eg (qc (ql (isAgg4 _) h fun v4 h=>ln (cbr h ?_ ?_)))))))<;>intro h
 refine eg (q (sro (sizeOf24 _) h fun w9 h=>q (ln (er (zM ?_)))))
 obtain ⟨aL,aM,aW,aN,aX,hv1,h⟩:=h
 refine gg2 results8 (rva (isAgg24 _) (sizeOf24 _) hv1) (rvU (vb false)) ⟨aL,aM,aW,aN,aX,false,rfl,h⟩
 refine jB (jN (eg ?_))
 obtain ⟨cD,cE,dN,cF,dO,hv3,h⟩:=h
 refine qa (isAgg24 _) (sizeOf24 _) hv3 (sro (sizeOf24 _) h fun w10 h=>q (ln (er ?_)))
 obtain ⟨aO,aP,aY,aQ,aZ,hv2,h⟩:=h
 refine gg2 results8 (rva (isAgg24 _) (sizeOf24 _) hv2) (rvU (vb true)) ⟨aO,aP,aY,aQ,aZ,true,rfl,h⟩
 refine kG (fun ρ w=>∃x1,Has ρ [(1,(vi t1)),(4,(vp (some p2))),(6,(vp (some p3))),(9,(vp (some p5))),(57,(vb x1))]∧m_I_j1 t1 p2 p3 p5 x1 w K) ?_ ?_
 rintro ρ w ⟨x1,hH,h⟩
 refine jQ hH (cbr h ?_ ?_)<;>intro h
 refine rg (qb (sc call20 (h.mono fun e w11 ⟨cG,cH,cI,bF,cJ,k,h⟩=>⟨_,k,?_⟩)))
 refine sro (sizeOf24 _) h fun w12 h=>jC (uS (jN (jA (eg (qc (ql (isAgg4 _) h fun v5 h=>ln (cbr h ?_ ?_)))))))<;>intro h
 refine eg (q (sro (sizeOf24 _) h fun w13 h=>q (ln (er (zM ?_)))))
 obtain ⟨aI,aJ,aU,aK,aV,hv7,h⟩:=h
 refine gg2 results8 (rva (isAgg24 _) (sizeOf24 _) hv7) (rvU (vb false)) ⟨aI,aJ,aU,aK,aV,false,rfl,h⟩
 refine jB (jN (eg ?_))
 obtain ⟨dI,dJ,dK,dL,dM,hv9,h⟩:=h
 refine qa (isAgg24 _) (sizeOf24 _) hv9 (sro (sizeOf24 _) h fun w14 h=>q (ln (er ?_)))
 obtain ⟨bY,bZ,cA,cB,cC,hv8,h⟩:=h
 refine gg2 results8 (rva (isAgg24 _) (sizeOf24 _) hv8) (rvU (vb true)) ⟨bY,bZ,cA,cB,cC,true,rfl,h⟩
 refine eg (qb (sc call21 (h.mono fun e w15 ⟨r2,r3,k,h⟩=>⟨_,k,?_⟩)))
 refine q (qd (ln (kG (fun ρ w=>Has ρ [(4,(vp (some p2))),(6,(vp (some p3))),(9,(vp (some p5))),(11,(vi r3))]∧m_I_j2 p2 p3 p5 r3 w K) ?_ ?_)))
 rintro ρ w ⟨hH,h⟩
 refine jQ hH (rg (qb (sc call22 (h.mono fun e w16 ⟨bC,bD,bG,aH,bE,bH,bI,k,h⟩=>⟨_,k,?_⟩))))
 refine qb (sro (sizeOf24 _) h fun w17 h=>jC (uS (jN (jA (eg (qc (ql (isAgg4 _) h fun v6 h=>ln (cbr h ?_ ?_))))))))<;>intro h
 refine eg (q (sro (sizeOf24 _) h fun w18 h=>q (ln (er (zM ?_)))))
 obtain ⟨bJ,bK,bL,bM,bN,hv11,h⟩:=h
 refine gg2 results8 (rva (isAgg24 _) (sizeOf24 _) hv11) (rvU (vb false)) ⟨bJ,bK,bL,bM,bN,false,rfl,h⟩
 refine jB (jN (eg ?_))
 obtain ⟨cT,cU,cV,cW,cX,hv13,h⟩:=h
 refine qa (isAgg24 _) (sizeOf24 _) hv13 (sro (sizeOf24 _) h fun w19 h=>q (ln (er ?_)))
 obtain ⟨bO,bP,bQ,bR,bS,hv12,h⟩:=h
 refine gg2 results8 (rva (isAgg24 _) (sizeOf24 _) hv12) (rvU (vb true)) ⟨bO,bP,bQ,bR,bS,true,rfl,h⟩
 refine kG (fun ρ w=>Has ρ [(4,(vp (some p2))),(6,(vp (some p3))),(9,(vp (some p5))),(11,(vi r3))]∧m_I_j3 p2 p3 p5 r3 w K) ?_ ?_
 rintro ρ w ⟨hH,h⟩
 refine jQ hH (eg (qc (ql (isAgg4 _) h fun v7 h=>ln (cbr h ?_ ?_))))<;>intro h
 refine zV (xG (xE (jN (jA (eg (q0 (vp (some p3)) (q0 (vp (some p3)) (q0 (vp (some (p3.add 1))) (ql (isAgg4 _) h fun v8 h=>ln (cbr h ?_ ?_))))))))))<;>intro h
 refine eg (q (sro (sizeOf24 _) h fun w20 h=>q (ln (er (zM ?_)))))
 obtain ⟨bT,bU,bV,bW,bX,hv15,h⟩:=h
 refine gg2 results8 (rva (isAgg24 _) (sizeOf24 _) hv15) (rvU (vb false)) ⟨bT,bU,bV,bW,bX,false,rfl,h⟩
 refine jB (jN (eg ?_))
 obtain ⟨cY,cZ,dA,dB,dC,hv17,h⟩:=h
 refine qa (isAgg24 _) (sizeOf24 _) hv17 (sro (sizeOf24 _) h fun w21 h=>q (ln (er ?_)))
 obtain ⟨dD,dE,dF,dG,dH,hv16,h⟩:=h
 refine gg2 results8 (rva (isAgg24 _) (sizeOf24 _) hv16) (rvU (vb true)) ⟨dD,dE,dF,dG,dH,true,rfl,h⟩
 refine jB (jN ⟨hm,h⟩)
 refine rg (qd (ql (isAgg4 _) h fun v9 h=>q ?_))
 obtain ⟨hg1,h⟩|⟨hg1,h⟩:=h.br
 refine sj2 34 hg1 (q2 (vb true) (xT hg1) (qb (st1 (sizeOf4 _) h fun w22 h=>ln ⟨hm,h⟩)))
 refine qk 34 hg1 (stq (v:=(vb (!(decide (r2=(⟨#[102,117,108,108]⟩:ByteArray)))))) (wy 34 hg1) (yX (by kernel_rfl) (by kernel_rfl)) (q2 (vb (!(decide (r2=(⟨#[102,117,108,108]⟩:ByteArray))))) (xF hg1) (qb (st1 (sizeOf4 _) h fun w23 h=>ln ⟨hm,h⟩))))
 refine eg (qb (ln (cbr h ?_ ?_)))<;>intro h
 refine jB (jN ⟨(v1 == 8),hm,h⟩)
 refine rg (qb (ln ⟨(v1 == 9),hm,h⟩))
def m_A_j7 (who1:Int) (p1 a1 a2:Addr) (w:World) (K:Int→Int→Int→ByteArray→Bool→WP):Prop :=∃v1,w.cell? (a1.add 2)=some (vu v1)∧∃v2,w.cell? (a1.add 3)=some (vs v2)∧∃v3,w.cell? (a1.add 4)=some (vb v3)∧Br v3 ((∀j,j<5→jT w (p1.add j))∧∀w14,w14=storeRow w p1 (Aa 4 who1 v1 v2 true)→∃bJ bK bL bM bN,Row w14 p1 (Aa bJ bK bL bM bN)∧K bJ bK bL bM bN w14) (∃v4,w.cell? (a2.add 4)=some (vb v4)∧(∀j,j<5→jT w (p1.add j))∧∀w15,w15=storeRow w p1 (Aa 4 who1 v1 v2 v4)→∃bO bP bQ bR bS,Row w15 p1 (Aa bO bP bQ bR bS)∧K bO bP bQ bR bS w15)
def m_A_j10 (r1:Option Addr) (who1:Int) (p1 a1 a2:Addr) (x8:Bool) (w:World) (K:Int→Int→Int→ByteArray→Bool→WP):Prop :=Br x8 (∃a4,r1=some a4∧jT w (a4.add 1)∧∀w16,w16=w.setCell (a4.add 1) (vb true)→m_A_j7 who1 p1 a1 a2 w16 K) (∃v6,w.cell? (a1.add 3)=some (vs v6)∧∃v7,w.cell? (a2.add 3)=some (vs v7)∧∃a5,r1=some a5∧jT w (a5.add 1)∧∀w17,w17=w.setCell (a5.add 1) (vb (!(decide (v6=v7))))→m_A_j7 who1 p1 a1 a2 w17 K)
def m_A_j9 (r1:Option Addr) (who1:Int) (p1 a1 a2:Addr) (x7:Bool) (w:World) (K:Int→Int→Int→ByteArray→Bool→WP):Prop :=Br x7 (m_A_j10 r1 who1 p1 a1 a2 true w K) (∃v8,w.cell? (a1.add 2)=some (vu v8)∧∃v9,w.cell? (a2.add 2)=some (vu v9)∧m_A_j10 r1 who1 p1 a1 a2 (v8 != v9) w K)
def m_A_j8 (r1:Option Addr) (who1:Int) (p1 a1 a2:Addr) (x6:Bool) (w:World) (K:Int→Int→Int→ByteArray→Bool→WP):Prop :=Br x6 (m_A_j9 r1 who1 p1 a1 a2 true w K) (∃v10,w.cell? (a2.add 1)=some (vi v10)∧m_A_j9 r1 who1 p1 a1 a2 (v10 != 1) w K)
def m_A_j6 (r1:Option Addr) (who1:Int) (p1 a1 a2:Addr) (w:World) (K:Int→Int→Int→ByteArray→Bool→WP):Prop :=∃a3,r1=some a3∧∃v5,w.cell? (a3.add 1)=some (vb v5)∧Br v5 (m_A_j8 r1 who1 p1 a1 a2 true w K) (∃v11,w.cell? (a1.add 1)=some (vi v11)∧m_A_j8 r1 who1 p1 a1 a2 (v11 != 0) w K)
def m_A_j5 (r1:Option Addr) (who1:Int) (p1:Addr) (r3:Int) (x5:Bool) (w:World) (K:Int→Int→Int→ByteArray→Bool→WP):Prop :=Br x5 (Calls prog 22 #[(vp r1),(vi r3),(vi 4)] w (fun e w11=>∃cG cH cP cQ bF cR cS,e=.returned (Ae cG cH cP cQ bF cR cS)∧∀p2 w12,New w11 (.cells #[(vi 0),(vi 0),(vi 0),(vu 0),ve,(vi 0),(vi 0)] 59) p2 w12→(∀j,j<7→jT w12 (p2.add j))∧∀w13,w13=storeRow w12 p2 (Ad cG cH cP cQ bF cR cS)→∃C1:WP,C1 w13.drew∧∀w18,w18=w13.drew→∃v12,(∀w',C1 w'→w'.cell? (p2.add 5)=some (vi v12))∧∃v13,(∀w',C1 w'→w'.cell? (p2.add 6)=some (vi v13))∧(Calls prog 20 #[(vp r1),(vi v12)] w18 (fun e w19=>∃bC bD aS bE aT,e=.returned (Ac bC bD aS bE aT)∧C1 w19∧(Calls prog 20 #[(vp r1),(vi v13)] w19 (fun e w20=>∃cK cL cI cM cJ,e=.returned (Ac cK cL cI cM cJ)∧(∀p3 w21,New w20 (.cells #[(vi 0),(vi 0),(vu 0),ve,(vb false)] 24) p3 w21→C1 w21∧∀p4 w22,New w21 (.cells #[(vi 0),(vi 0),(vu 0),ve,(vb false)] 24) p4 w22→C1 w22∧(∀j,j<5→jT w22 (p3.add j))∧∀w23,w23=storeRow w22 p3 (Aa bC bD aS bE aT)→(∀j,j<5→jT w23 (p4.add j))∧∀w24,w24=storeRow w23 p4 (Aa cK cL cI cM cJ)→m_A_j6 r1 who1 p1 p3 p4 w24 K)∧(∀p5 w25,New w20 (.cells #[(vi 0),(vi 0),(vu 0),ve,(vb false)] 24) p5 w25→C1 w25∧∀p6 w26,New w25 (.cells #[(vi 0),(vi 0),(vu 0),ve,(vb false)] 24) p6 w26→C1 w26∧(∀j,j<5→jT w26 (p6.add j))∧∀w27,w27=storeRow w26 p6 (Aa bC bD aS bE aT)→(∀j,j<5→jT w27 (p5.add j))∧∀w28,w28=storeRow w27 p5 (Aa cK cL cI cM cJ)→m_A_j6 r1 who1 p1 p6 p5 w28 K)))∧(∀p7 w29,New w19 (.cells #[(vi 0),(vi 0),(vu 0),ve,(vb false)] 24) p7 w29→C1 w29∧(Calls prog 20 #[(vp r1),(vi v13)] w29 (fun e w30=>∃eP eQ cN eR cO,e=.returned (Ac eP eQ cN eR cO)∧∀p8 w31,New w30 (.cells #[(vi 0),(vi 0),(vu 0),ve,(vb false)] 24) p8 w31→C1 w31∧(∀j,j<5→jT w31 (p7.add j))∧∀w32,w32=storeRow w31 p7 (Aa bC bD aS bE aT)→(∀j,j<5→jT w32 (p8.add j))∧∀w33,w33=storeRow w32 p8 (Aa eP eQ cN eR cO)→m_A_j6 r1 who1 p1 p7 p8 w33 K))∧(∀p9 w34,New w29 (.cells #[(vi 0),(vi 0),(vu 0),ve,(vb false)] 24) p9 w34→C1 w34∧Calls prog 20 #[(vp r1),(vi v13)] w34 (fun e w35=>∃eS eT eU eV eW,e=.returned (Ac eS eT eU eV eW)∧(∀j,j<5→jT w35 (p7.add j))∧∀w36,w36=storeRow w35 p7 (Aa bC bD aS bE aT)→(∀j,j<5→jT w36 (p9.add j))∧∀w37,w37=storeRow w36 p9 (Aa eS eT eU eV eW)→m_A_j6 r1 who1 p1 p7 p9 w37 K)))∧(∀p10 w38,New w19 (.cells #[(vi 0),(vi 0),(vu 0),ve,(vb false)] 24) p10 w38→C1 w38∧(Calls prog 20 #[(vp r1),(vi v13)] w38 (fun e w39=>∃eX eY eZ fA fB,e=.returned (Ac eX eY eZ fA fB)∧∀p11 w40,New w39 (.cells #[(vi 0),(vi 0),(vu 0),ve,(vb false)] 24) p11 w40→C1 w40∧(∀j,j<5→jT w40 (p11.add j))∧∀w41,w41=storeRow w40 p11 (Aa bC bD aS bE aT)→(∀j,j<5→jT w41 (p10.add j))∧∀w42,w42=storeRow w41 p10 (Aa eX eY eZ fA fB)→m_A_j6 r1 who1 p1 p11 p10 w42 K))∧(∀p12 w43,New w38 (.cells #[(vi 0),(vi 0),(vu 0),ve,(vb false)] 24) p12 w43→C1 w43∧Calls prog 20 #[(vp r1),(vi v13)] w43 (fun e w44=>∃fC fD fE fF fG,e=.returned (Ac fC fD fE fF fG)∧(∀j,j<5→jT w44 (p12.add j))∧∀w45,w45=storeRow w44 p12 (Aa bC bD aS bE aT)→(∀j,j<5→jT w45 (p10.add j))∧∀w46,w46=storeRow w45 p10 (Aa fC fD fE fF fG)→m_A_j6 r1 who1 p1 p12 p10 w46 K)))))∧(∀p13 w47,New w18 (.cells #[(vi 0),(vi 0),(vu 0),ve,(vb false)] 24) p13 w47→C1 w47∧(Calls prog 20 #[(vp r1),(vi v12)] w47 (fun e w48=>∃dP dQ dR dS dT,e=.returned (Ac dP dQ dR dS dT)∧C1 w48∧(Calls prog 20 #[(vp r1),(vi v13)] w48 (fun e w49=>∃fH fI fJ fK fL,e=.returned (Ac fH fI fJ fK fL)∧∀p14 w50,New w49 (.cells #[(vi 0),(vi 0),(vu 0),ve,(vb false)] 24) p14 w50→C1 w50∧(∀j,j<5→jT w50 (p13.add j))∧∀w51,w51=storeRow w50 p13 (Aa dP dQ dR dS dT)→(∀j,j<5→jT w51 (p14.add j))∧∀w52,w52=storeRow w51 p14 (Aa fH fI fJ fK fL)→m_A_j6 r1 who1 p1 p13 p14 w52 K))∧(∀p15 w53,New w48 (.cells #[(vi 0),(vi 0),(vu 0),ve,(vb false)] 24) p15 w53→C1 w53∧Calls prog 20 #[(vp r1),(vi v13)] w53 (fun e w54=>∃fM fN fO fP fQ,e=.returned (Ac fM fN fO fP fQ)∧(∀j,j<5→jT w54 (p13.add j))∧∀w55,w55=storeRow w54 p13 (Aa dP dQ dR dS dT)→(∀j,j<5→jT w55 (p15.add j))∧∀w56,w56=storeRow w55 p15 (Aa fM fN fO fP fQ)→m_A_j6 r1 who1 p1 p13 p15 w56 K))))∧(∀p16 w57,New w47 (.cells #[(vi 0),(vi 0),(vu 0),ve,(vb false)] 24) p16 w57→C1 w57∧Calls prog 20 #[(vp r1),(vi v12)] w57 (fun e w58=>∃fR fS fT fU fV,e=.returned (Ac fR fS fT fU fV)∧C1 w58∧Calls prog 20 #[(vp r1),(vi v13)] w58 (fun e w59=>∃fW fX fY fZ gA,e=.returned (Ac fW fX fY fZ gA)∧(∀j,j<5→jT w59 (p13.add j))∧∀w60,w60=storeRow w59 p13 (Aa fR fS fT fU fV)→(∀j,j<5→jT w60 (p16.add j))∧∀w61,w61=storeRow w60 p16 (Aa fW fX fY fZ gA)→m_A_j6 r1 who1 p1 p13 p16 w61 K))))∧(∀p17 w62,New w18 (.cells #[(vi 0),(vi 0),(vu 0),ve,(vb false)] 24) p17 w62→C1 w62∧(Calls prog 20 #[(vp r1),(vi v12)] w62 (fun e w63=>∃dU dV dW dX dY,e=.returned (Ac dU dV dW dX dY)∧C1 w63∧(Calls prog 20 #[(vp r1),(vi v13)] w63 (fun e w64=>∃gB gC gD gE gF,e=.returned (Ac gB gC gD gE gF)∧∀p18 w65,New w64 (.cells #[(vi 0),(vi 0),(vu 0),ve,(vb false)] 24) p18 w65→C1 w65∧(∀j,j<5→jT w65 (p18.add j))∧∀w66,w66=storeRow w65 p18 (Aa dU dV dW dX dY)→(∀j,j<5→jT w66 (p17.add j))∧∀w67,w67=storeRow w66 p17 (Aa gB gC gD gE gF)→m_A_j6 r1 who1 p1 p18 p17 w67 K))∧(∀p19 w68,New w63 (.cells #[(vi 0),(vi 0),(vu 0),ve,(vb false)] 24) p19 w68→C1 w68∧Calls prog 20 #[(vp r1),(vi v13)] w68 (fun e w69=>∃gG gH gI gJ gK,e=.returned (Ac gG gH gI gJ gK)∧(∀j,j<5→jT w69 (p19.add j))∧∀w70,w70=storeRow w69 p19 (Aa dU dV dW dX dY)→(∀j,j<5→jT w70 (p17.add j))∧∀w71,w71=storeRow w70 p17 (Aa gG gH gI gJ gK)→m_A_j6 r1 who1 p1 p19 p17 w71 K))))∧(∀p20 w72,New w62 (.cells #[(vi 0),(vi 0),(vu 0),ve,(vb false)] 24) p20 w72→C1 w72∧Calls prog 20 #[(vp r1),(vi v12)] w72 (fun e w73=>∃gL gM gN gO gP,e=.returned (Ac gL gM gN gO gP)∧C1 w73∧Calls prog 20 #[(vp r1),(vi v13)] w73 (fun e w74=>∃gQ gR gS gT gU,e=.returned (Ac gQ gR gS gT gU)∧(∀j,j<5→jT w74 (p20.add j))∧∀w75,w75=storeRow w74 p20 (Aa gL gM gN gO gP)→(∀j,j<5→jT w75 (p17.add j))∧∀w76,w76=storeRow w75 p17 (Aa gQ gR gS gT gU)→m_A_j6 r1 who1 p1 p20 p17 w76 K)))))) (∃a6,r1=some a6∧jT w (a6.add 1)∧∀w77,w77=w.setCell (a6.add 1) (vb true)→(∀j,j<5→jT w77 (p1.add j))∧∀w78,w78=storeRow w77 p1 (Ag 0 0 0 false)→∃bT bU bV bW bX,Row w78 p1 (Aa bT bU bV bW bX)∧K bT bU bV bW bX w78)
def m_A_j4 (r1:Option Addr) (who1 body1:Int) (p1:Addr) (r2:ByteArray) (r3:Int) (x4:Bool) (w:World) (K:Int→Int→Int→ByteArray→Bool→WP):Prop :=Br x4 (Calls prog 47 #[(vp r1),(vi body1)] w (fun e w9=>∃r6 r7,e=.returned (.tuple #[(vu r6),(vs r7)])∧(∀j,j<5→jT w9 (p1.add j))∧∀w10,w10=storeRow w9 p1 (Aa 2 who1 r6 r7 false)→∃bY bZ cA cB cC,Row w10 p1 (Aa bY bZ cA cB cC)∧K bY bZ cA cB cC w10)) (Br (decide (r2=(⟨#[114,101,115,111,108,118,101]⟩:ByteArray))) (m_A_j5 r1 who1 p1 r3 (decide (who1≤1)) w K) (m_A_j5 r1 who1 p1 r3 false w K))
def m_A_j3 (r1:Option Addr) (who1 body1:Int) (p1:Addr) (r2:ByteArray) (r3:Int) (x3:Bool) (w:World) (K:Int→Int→Int→ByteArray→Bool→WP):Prop :=Br x3 (Calls prog 47 #[(vp r1),(vi r3)] w (fun e w7=>∃r4 r5,e=.returned (.tuple #[(vu r4),(vs r5)])∧(∀j,j<5→jT w7 (p1.add j))∧∀w8,w8=storeRow w7 p1 (Aa 6 0 r4 r5 false)→∃aI aJ aU aK aV,Row w8 p1 (Aa aI aJ aU aK aV)∧K aI aJ aU aK aV w8)) (Br (decide (r2=(⟨#[100,101,97,108]⟩:ByteArray))) (m_A_j4 r1 who1 body1 p1 r2 r3 (decide (who1≤1)) w K) (m_A_j4 r1 who1 body1 p1 r2 r3 false w K))
def m_A_j2 (r1:Option Addr) (who1 body1:Int) (p1:Addr) (r2:ByteArray) (r3:Int) (x2:Bool) (w:World) (K:Int→Int→Int→ByteArray→Bool→WP):Prop :=Br x2 (Calls prog 22 #[(vp r1),(vi r3),(vi 2)] w (fun e w5=>∃bA bB bG aH aR bH bI,e=.returned (Ae bA bB bG aH aR bH bI)∧(∀j,j<5→jT w5 (p1.add j))∧∀w6,w6=storeRow w5 p1 (Ag 5 0 aH false)→∃aO aP aY aQ aZ,Row w6 p1 (Aa aO aP aY aQ aZ)∧K aO aP aY aQ aZ w6)) (Br (decide (r2=(⟨#[105,110,115,116,101,97,100]⟩:ByteArray))) (m_A_j3 r1 who1 body1 p1 r2 r3 (who1 == 2) w K) (m_A_j3 r1 who1 body1 p1 r2 r3 false w K))
def m_A_j1 (r1:Option Addr) (who1 body1:Int) (p1:Addr) (r2:ByteArray) (r3:Int) (x1:Bool) (w:World) (K:Int→Int→Int→ByteArray→Bool→WP):Prop :=Br x1 (Calls prog 22 #[(vp r1),(vi r3),(vi 2)] w (fun e w3=>∃aB aC aD aA aE aF aG,e=.returned (Ae aB aC aD aA aE aF aG)∧(∀j,j<5→jT w3 (p1.add j))∧∀w4,w4=storeRow w3 p1 (Ag 3 0 aA false)→∃aL aM aW aN aX,Row w4 p1 (Aa aL aM aW aN aX)∧K aL aM aW aN aX w4)) (Br (decide (r2=(⟨#[97,98,111,114,116,101,100]⟩:ByteArray))) (m_A_j2 r1 who1 body1 p1 r2 r3 (who1 == 2) w K) (m_A_j2 r1 who1 body1 p1 r2 r3 false w K))
def m_A (r1:Option Addr) (who1 body1:Int) (w:World) (K:Int→Int→Int→ByteArray→Bool→WP):Prop :=∀p1 w1,New w (.cells #[(vi 0),(vi 0),(vu 0),ve,(vb false)] 24) p1 w1→Calls prog 21 #[(vp r1),(vi body1)] w1 (fun e w2=>∃r2 r3,e=.returned (.tuple #[(vs r2),(vi r3)])∧Br (decide (r2=(⟨#[97,98,111,114,116]⟩:ByteArray))) (m_A_j1 r1 who1 body1 p1 r2 r3 (who1 == 0) w2 K) (m_A_j1 r1 who1 body1 p1 r2 r3 false w2 K))
theorem w_A (r1 who1 body1 w K) (h:m_A r1 who1 body1 w K):
  Calls prog 19 #[(vp r1),(vi who1),(vi body1)] w (fun e w'=>∃gV gW gX gY gZ,e=.returned (Ac gV gW gX gY gZ)∧K gV gW gX gY gZ w'):=by
 refine cw (args:=[(vp r1),(vi who1),(vi body1)]) func19 ntmps19 (eg (sn (O:=(.cells #[(vi 0),(vi 0),(vu 0),ve,(vb false)] 24)) (jG (zeroValue24 _) rfl) ?_))
 intro p1 w1 hn55
 have h:=h p1 w1 hn55
 refine ln (eg (qb (sc call21 (h.mono fun e w2 ⟨r2,r3,k,h⟩=>⟨_,k,?_⟩))))
 refine q (qd (ln (jA (jM (kG (fun ρ w=>∃x1,Has ρ [(0,(vp r1)),(1,(vi who1)),(2,(vi body1)),(6,(vp (some p1))),(7,(vs r2)),(8,(vi r3)),(22,(vb x1))]∧m_A_j1 r1 who1 body1 p1 r2 r3 x1 w K) ?_ ?_)))))
 rintro ρ w ⟨x1,hH,h⟩
 refine jQ hH (cbr h ?_ ?_)<;>intro h
 refine eg (qb (sc call22 (h.mono fun e w3 ⟨aB,aC,aD,aA,aE,aF,aG,k,h⟩=>⟨_,k,?_⟩)))
 refine qb (sro (sizeOf24 _) h fun w4 h=>ln (er (qJ (zM ?_))))
 obtain ⟨aL,aM,aW,aN,aX,hv1,h⟩:=h
 refine gg1 results19 (rva (isAgg24 _) (sizeOf24 _) hv1) ⟨aL,aM,aW,aN,aX,rfl,h⟩
 refine kG (fun ρ w=>∃x2,Has ρ [(0,(vp r1)),(1,(vi who1)),(2,(vi body1)),(6,(vp (some p1))),(7,(vs r2)),(8,(vi r3)),(34,(vb x2))]∧m_A_j2 r1 who1 body1 p1 r2 r3 x2 w K) ?_ ?_
 rintro ρ w ⟨x2,hH,h⟩
 refine jQ hH (cbr h ?_ ?_)<;>intro h
 refine eg (qb (sc call22 (h.mono fun e w5 ⟨bA,bB,bG,aH,aR,bH,bI,k,h⟩=>⟨_,k,?_⟩)))
 refine qb (sro (sizeOf24 _) h fun w6 h=>ln (er (qJ (zM ?_))))
 obtain ⟨aO,aP,aY,aQ,aZ,hv2,h⟩:=h
 refine gg1 results19 (rva (isAgg24 _) (sizeOf24 _) hv2) ⟨aO,aP,aY,aQ,aZ,rfl,h⟩
 refine kG (fun ρ w=>∃x3,Has ρ [(0,(vp r1)),(1,(vi who1)),(2,(vi body1)),(6,(vp (some p1))),(7,(vs r2)),(8,(vi r3)),(46,(vb x3))]∧m_A_j3 r1 who1 body1 p1 r2 r3 x3 w K) ?_ ?_
 rintro ρ w ⟨x3,hH,h⟩
 refine jQ hH (cbr h ?_ ?_)<;>intro h
 refine eg (qb (sc call47 (h.mono fun e w7 ⟨r4,r5,k,h⟩=>⟨_,k,?_⟩)))
 refine q (qd (ln (eg (qc (sro (sizeOf24 _) h fun w8 h=>ln (er (qJ (zM ?_))))))))
 obtain ⟨aI,aJ,aU,aK,aV,hv3,h⟩:=h
 refine gg1 results19 (rva (isAgg24 _) (sizeOf24 _) hv3) ⟨aI,aJ,aU,aK,aV,rfl,h⟩
 refine kG (fun ρ w=>∃x4,Has ρ [(0,(vp r1)),(1,(vi who1)),(2,(vi body1)),(6,(vp (some p1))),(7,(vs r2)),(8,(vi r3)),(62,(vb x4))]∧m_A_j4 r1 who1 body1 p1 r2 r3 x4 w K) ?_ ?_
 rintro ρ w ⟨x4,hH,h⟩
 refine jQ hH (cbr h ?_ ?_)<;>intro h
 refine eg (qb (sc call47 (h.mono fun e w9 ⟨r6,r7,k,h⟩=>⟨_,k,?_⟩)))
 refine q (qd (ln (eg (qc (q (sro (sizeOf24 _) h fun w10 h=>ln (er (qJ (zM ?_)))))))))
 obtain ⟨bY,bZ,cA,cB,cC,hv4,h⟩:=h
 refine gg1 results19 (rva (isAgg24 _) (sizeOf24 _) hv4) ⟨bY,bZ,cA,cB,cC,rfl,h⟩
 refine kG (fun ρ w=>∃x5,Has ρ [(0,(vp r1)),(1,(vi who1)),(6,(vp (some p1))),(8,(vi r3)),(79,(vb x5))]∧m_A_j5 r1 who1 p1 r3 x5 w K) ?_ ?_
 rintro ρ w ⟨x5,hH,h⟩
 refine jQ hH (cbr h ?_ ?_)<;>intro h
 refine eg (qb (sc call22 (h.mono fun e w11 ⟨cG,cH,cP,cQ,bF,cR,cS,k,h⟩=>⟨_,k,?_⟩)))
 refine nw1 h (jG (zeroValue59 _) rfl) fun p2 w12 h=>sro (sizeOf59 _) h fun w13 h=>ln (kG (fun ρ w=>∃a1 a2:Addr,Has ρ [(0,(vp r1)),(1,(vi who1)),(6,(vp (some p1))),(14,(vp (some a1))),(15,(vp (some a2)))]∧m_A_j6 r1 who1 p1 a1 a2 w K) ?_ ?_)
 rintro ρ w ⟨a1,a2,hH,h⟩
 refine jQ hH (kG (fun ρ w=>Has ρ [(1,(vi who1)),(6,(vp (some p1))),(14,(vp (some a1))),(15,(vp (some a2)))]∧m_A_j7 who1 p1 a1 a2 w K) ?_ ?_)
 rintro ρ w ⟨hH,h⟩
 refine jQ hH (eg (qb (ql (isAgg22 _) h fun v1 h=>q (ql (isAgg9 _) h fun v2 h=>q (ql (isAgg4 _) h fun v3 h=>q ?_)))))
 obtain ⟨hg1,h⟩|⟨hg1,h⟩:=h.br
 refine sj2 135 hg1 (q2 (vb true) (xT hg1) (q (sro (sizeOf24 _) h fun w14 h=>ln (er (qJ (zM ?_))))))
 obtain ⟨bJ,bK,bL,bM,bN,hv5,h⟩:=h
 refine gg1 results19 (rva (isAgg24 _) (sizeOf24 _) hv5) ⟨bJ,bK,bL,bM,bN,rfl,h⟩
 refine qk 135 hg1 ?_
 obtain ⟨v4,hv7,h⟩:=h
 refine q4 135 hg1 (xl (isAgg4 _) hv7) (q2 (vb v4) (xF hg1) (q (sro (sizeOf24 _) h fun w15 h=>ln (er (qJ (zM ?_))))))
 obtain ⟨bO,bP,bQ,bR,bS,hv6,h⟩:=h
 refine gg1 results19 (rva (isAgg24 _) (sizeOf24 _) hv6) ⟨bO,bP,bQ,bR,bS,rfl,h⟩
 refine rg (qb (qm h fun a3 h=>q (ql (isAgg4 _) h fun v5 h=>q (jU 4 (fun ρ w=>∃x6,Has ρ [(1,(vi who1)),(6,(vp (some p1))),(14,(vp (some a1))),(15,(vp (some a2))),(97,(vp r1)),(106,(vb x6))]∧m_A_j8 r1 who1 p1 a1 a2 x6 w K) ?_ ?_))))
 rintro ρ w ⟨x6,hH,h⟩
 refine zB hH (q (jU 4 (fun ρ w=>∃x7,Has ρ [(1,(vi who1)),(6,(vp (some p1))),(14,(vp (some a1))),(15,(vp (some a2))),(97,(vp r1)),(111,(vb x7))]∧m_A_j9 r1 who1 p1 a1 a2 x7 w K) ?_ ?_))
 rintro ρ w ⟨x7,hH,h⟩
 refine zB hH (q (jU 6 (fun ρ w=>∃x8,Has ρ [(1,(vi who1)),(6,(vp (some p1))),(14,(vp (some a1))),(15,(vp (some a2))),(97,(vp r1)),(118,(vb x8))]∧m_A_j10 r1 who1 p1 a1 a2 x8 w K) ?_ ?_))
 rintro ρ w ⟨x8,hH,h⟩
 refine zB hH (q ?_)
 obtain ⟨hg2,h⟩|⟨hg2,h⟩:=h.br
 refine sj5 119 hg2 (q2 (vb true) (xT hg2) (qm h fun a4 h=>q (st1 (sizeOf4 _) h fun w16 h=>ln ⟨hm,h⟩)))
 refine qk 119 hg2 ?_
 obtain ⟨v6,hv12,h⟩:=h
 refine q4 119 hg2 (xl (isAgg9 _) hv12) (qk 119 hg2 ?_)
 obtain ⟨v7,hv11,h⟩:=h
 refine q4 119 hg2 (xl (isAgg9 _) hv11) (stq (v:=(vb (!(decide (v6=v7))))) (wy 119 hg2) (yX (by kernel_rfl) (by kernel_rfl)) (q2 (vb (!(decide (v6=v7)))) (xF hg2) (qm h fun a5 h=>q (st1 (sizeOf4 _) h fun w17 h=>ln ⟨hm,h⟩))))
 obtain ⟨hg3,h⟩|⟨hg3,h⟩:=h.br
 refine sj5 112 hg3 (q2 (vb true) (xT hg3) (jC ⟨true,hm,h⟩))
 refine qk 112 hg3 ?_
 obtain ⟨v8,hv14,h⟩:=h
 refine q4 112 hg3 (xl (isAgg22 _) hv14) (qk 112 hg3 ?_)
 obtain ⟨v9,hv13,h⟩:=h
 refine q4 112 hg3 (xl (isAgg22 _) hv13) (qk 112 hg3 (q2 (vb (v8 != v9)) (xF hg3) (jC ⟨(v8 != v9),hm,h⟩)))
 obtain ⟨hg4,h⟩|⟨hg4,h⟩:=h.br
 refine sj3 107 hg4 (q2 (vb true) (xT hg4) (jC ⟨true,hm,h⟩))
 refine qk 107 hg4 ?_
 obtain ⟨v10,hv15,h⟩:=h
 refine q4 107 hg4 (xl (isAgg3 _) hv15) (qk 107 hg4 (q2 (vb (v10 != 1)) (xF hg4) (jC ⟨(v10 != 1),hm,h⟩)))
 obtain ⟨hg5,h⟩|⟨hg5,h⟩:=h.br
 refine sj3 102 hg5 (q2 (vb true) (xT hg5) (jC ⟨true,hm,h⟩))
 refine qk 102 hg5 ?_
 obtain ⟨v11,hv16,h⟩:=h
 refine q4 102 hg5 (xl (isAgg3 _) hv16) (qk 102 hg5 (q2 (vb (v11 != 0)) (xF hg5) (jC ⟨(v11 != 0),hm,h⟩)))
 obtain ⟨C1,hC,h⟩:=h
 refine dr1 C1 [3,7,8,9,10,11] [7,10,11] hC h fun w18 h=>qx 0 (vp r1) Kp0 (qx 1 (vp (some (p2.add 5))) Kp1 (qg 2 ?_))
 obtain ⟨v12,hv19,h⟩:=h
 refine sy Kp2 (fun _ k=>xl (isAgg29 _) (hv19 _ k)) (qx 4 (vp r1) Kp4 (qx 5 (vp (some (p2.add 6))) Kp5 (qg 6 ?_)))
 obtain ⟨v13,hv18,h⟩:=h
 refine sy Kp6 (fun _ k=>xl (isAgg29 _) (hv18 _ k)) (lgo3 (k:=3) (k':=8) (k'':=9) (by kernel_rfl) ?_ ?_ ?_)
 have h:=h.1
 refine slc Kp3 call20 (h.mono ?_)
 rintro e w19 ⟨bC,bD,aS,bE,aT,rfl,hC,h⟩
 refine ⟨_,rfl,.inr hC,?_⟩
 refine lgo3 (k:=7) (k':=8) (k'':=9) (by kernel_rfl) ?_ ?_ ?_
 have h:=h.1
 refine slc Kp7 call20 (h.mono ?_)
 rintro e w20 ⟨cK,cL,cI,cM,cJ,rfl,h⟩
 refine ⟨_,rfl,.inl (by kernel_rfl),?_⟩
 refine jPT (k:=8) (k':=9) (by kernel_rfl) ?_ ?_
 have h:=h.1
 refine kT (O:=(.cells #[(vi 0),(vi 0),(vu 0),ve,(vb false)] 24)) (fun p=>.pointer (some p)) Kp8 (jK rfl) (by kernel_rfl) (jG (zeroValue24 _) rfl) ?_
 intro p3 w21 hn13
 have h:=h p3 w21 hn13
 refine ⟨.inr h.1,?_⟩
 have h:=h.2
 refine lg 9 (kT (O:=(.cells #[(vi 0),(vi 0),(vu 0),ve,(vb false)] 24)) (fun p=>.pointer (some p)) Kp9 (jK rfl) (by kernel_rfl) (jG (zeroValue24 _) rfl) ?_)
 intro p4 w22 hn12
 have h:=h p4 w22 hn12
 refine ⟨.inr h.1,?_⟩
 have h:=h.2
 refine lg 10 (slo (jJ (S8 (jD (jD jI)))) (sizeOf24 _) h fun w23 h=>⟨.inl (by kernel_rfl),?_⟩)
 refine lg 11 (slo (jJ (S8 (jD (jD (jD jI))))) (sizeOf24 _) h fun w24 h=>⟨.inl (by kernel_rfl),?_⟩)
 refine wn (jN ⟨p3,p4,hm,h⟩)
 have h:=h.2
 refine kT (O:=(.cells #[(vi 0),(vi 0),(vu 0),ve,(vb false)] 24)) (fun p=>.pointer (some p)) Kp9 (jK rfl) (by kernel_rfl) (jG (zeroValue24 _) rfl) ?_
 intro p5 w25 hn17
 have h:=h p5 w25 hn17
 refine ⟨.inr h.1,?_⟩
 have h:=h.2
 refine lg 8 (kT (O:=(.cells #[(vi 0),(vi 0),(vu 0),ve,(vb false)] 24)) (fun p=>.pointer (some p)) Kp8 (jK rfl) (by kernel_rfl) (jG (zeroValue24 _) rfl) ?_)
 intro p6 w26 hn16
 have h:=h p6 w26 hn16
 refine ⟨.inr h.1,?_⟩
 have h:=h.2
 refine lg 10 (slo (jJ (S8 (jD (jD jI)))) (sizeOf24 _) h fun w27 h=>⟨.inl (by kernel_rfl),?_⟩)
 refine lg 11 (slo (jJ (S8 (jD (jD (jD jI))))) (sizeOf24 _) h fun w28 h=>⟨.inl (by kernel_rfl),?_⟩)
 refine wn (jN ⟨p6,p5,hm,h⟩)
 have h:=h.2.1
 refine kT (O:=(.cells #[(vi 0),(vi 0),(vu 0),ve,(vb false)] 24)) (fun p=>.pointer (some p)) Kp8 (jK rfl) (by kernel_rfl) (jG (zeroValue24 _) rfl) ?_
 intro p7 w29 hn24
 have h:=h p7 w29 hn24
 refine ⟨.inr h.1,?_⟩
 have h:=h.2
 refine jPT (k:=7) (k':=9) (by kernel_rfl) ?_ ?_
 have h:=h.1
 refine slc Kp7 call20 (h.mono ?_)
 rintro e w30 ⟨eP,eQ,cN,eR,cO,rfl,h⟩
 refine ⟨_,rfl,.inl (by kernel_rfl),?_⟩
 refine lg 9 (kT (O:=(.cells #[(vi 0),(vi 0),(vu 0),ve,(vb false)] 24)) (fun p=>.pointer (some p)) Kp9 (jK rfl) (by kernel_rfl) (jG (zeroValue24 _) rfl) ?_)
 intro p8 w31 hn20
 have h:=h p8 w31 hn20
 refine ⟨.inr h.1,?_⟩
 have h:=h.2
 refine lg 10 (slo (jJ (S8 (jD (jD jI)))) (sizeOf24 _) h fun w32 h=>⟨.inl (by kernel_rfl),?_⟩)
 refine lg 11 (slo (jJ (S8 (jD (jD (jD jI))))) (sizeOf24 _) h fun w33 h=>⟨.inl (by kernel_rfl),?_⟩)
 refine wn (jN ⟨p7,p8,hm,h⟩)
 have h:=h.2
 refine kT (O:=(.cells #[(vi 0),(vi 0),(vu 0),ve,(vb false)] 24)) (fun p=>.pointer (some p)) Kp9 (jK rfl) (by kernel_rfl) (jG (zeroValue24 _) rfl) ?_
 intro p9 w34 hn23
 have h:=h p9 w34 hn23
 refine ⟨.inr h.1,?_⟩
 have h:=h.2
 refine lg 7 (slc Kp7 call20 (h.mono ?_))
 rintro e w35 ⟨eS,eT,eU,eV,eW,rfl,h⟩
 refine ⟨_,rfl,.inl (by kernel_rfl),?_⟩
 refine lg 10 (slo (jJ (S8 (jD (jD jI)))) (sizeOf24 _) h fun w36 h=>⟨.inl (by kernel_rfl),?_⟩)
 refine lg 11 (slo (jJ (S8 (jD (jD (jD jI))))) (sizeOf24 _) h fun w37 h=>⟨.inl (by kernel_rfl),?_⟩)
 refine wn (jN ⟨p7,p9,hm,h⟩)
 have h:=h.2.2
 refine kT (O:=(.cells #[(vi 0),(vi 0),(vu 0),ve,(vb false)] 24)) (fun p=>.pointer (some p)) Kp9 (jK rfl) (by kernel_rfl) (jG (zeroValue24 _) rfl) ?_
 intro p10 w38 hn31
 have h:=h p10 w38 hn31
 refine ⟨.inr h.1,?_⟩
 have h:=h.2
 refine jPT (k:=7) (k':=8) (by kernel_rfl) ?_ ?_
 have h:=h.1
 refine slc Kp7 call20 (h.mono ?_)
 rintro e w39 ⟨eX,eY,eZ,fA,fB,rfl,h⟩
 refine ⟨_,rfl,.inl (by kernel_rfl),?_⟩
 refine lg 8 (kT (O:=(.cells #[(vi 0),(vi 0),(vu 0),ve,(vb false)] 24)) (fun p=>.pointer (some p)) Kp8 (jK rfl) (by kernel_rfl) (jG (zeroValue24 _) rfl) ?_)
 intro p11 w40 hn27
 have h:=h p11 w40 hn27
 refine ⟨.inr h.1,?_⟩
 have h:=h.2
 refine lg 10 (slo (jJ (S8 (jD (jD jI)))) (sizeOf24 _) h fun w41 h=>⟨.inl (by kernel_rfl),?_⟩)
 refine lg 11 (slo (jJ (S8 (jD (jD (jD jI))))) (sizeOf24 _) h fun w42 h=>⟨.inl (by kernel_rfl),?_⟩)
 refine wn (jN ⟨p11,p10,hm,h⟩)
 have h:=h.2
 refine kT (O:=(.cells #[(vi 0),(vi 0),(vu 0),ve,(vb false)] 24)) (fun p=>.pointer (some p)) Kp8 (jK rfl) (by kernel_rfl) (jG (zeroValue24 _) rfl) ?_
 intro p12 w43 hn30
 have h:=h p12 w43 hn30
 refine ⟨.inr h.1,?_⟩
 have h:=h.2
 refine lg 7 (slc Kp7 call20 (h.mono ?_))
 rintro e w44 ⟨fC,fD,fE,fF,fG,rfl,h⟩
 refine ⟨_,rfl,.inl (by kernel_rfl),?_⟩
 refine lg 10 (slo (jJ (S8 (jD (jD jI)))) (sizeOf24 _) h fun w45 h=>⟨.inl (by kernel_rfl),?_⟩)
 refine lg 11 (slo (jJ (S8 (jD (jD (jD jI))))) (sizeOf24 _) h fun w46 h=>⟨.inl (by kernel_rfl),?_⟩)
 refine wn (jN ⟨p12,p10,hm,h⟩)
 have h:=h.2.1
 refine kT (O:=(.cells #[(vi 0),(vi 0),(vu 0),ve,(vb false)] 24)) (fun p=>.pointer (some p)) Kp8 (jK rfl) (by kernel_rfl) (jG (zeroValue24 _) rfl) ?_
 intro p13 w47 hn41
 have h:=h p13 w47 hn41
 refine ⟨.inr h.1,?_⟩
 have h:=h.2
 refine jPT (k:=3) (k':=9) (by kernel_rfl) ?_ ?_
 have h:=h.1
 refine slc Kp3 call20 (h.mono ?_)
 rintro e w48 ⟨dP,dQ,dR,dS,dT,rfl,hC,h⟩
 refine ⟨_,rfl,.inr hC,?_⟩
 refine jPT (k:=7) (k':=9) (by kernel_rfl) ?_ ?_
 have h:=h.1
 refine slc Kp7 call20 (h.mono ?_)
 rintro e w49 ⟨fH,fI,fJ,fK,fL,rfl,h⟩
 refine ⟨_,rfl,.inl (by kernel_rfl),?_⟩
 refine lg 9 (kT (O:=(.cells #[(vi 0),(vi 0),(vu 0),ve,(vb false)] 24)) (fun p=>.pointer (some p)) Kp9 (jK rfl) (by kernel_rfl) (jG (zeroValue24 _) rfl) ?_)
 intro p14 w50 hn34
 have h:=h p14 w50 hn34
 refine ⟨.inr h.1,?_⟩
 have h:=h.2
 refine lg 10 (slo (jJ (S8 (jD (jD jI)))) (sizeOf24 _) h fun w51 h=>⟨.inl (by kernel_rfl),?_⟩)
 refine lg 11 (slo (jJ (S8 (jD (jD (jD jI))))) (sizeOf24 _) h fun w52 h=>⟨.inl (by kernel_rfl),?_⟩)
 refine wn (jN ⟨p13,p14,hm,h⟩)
 have h:=h.2
 refine kT (O:=(.cells #[(vi 0),(vi 0),(vu 0),ve,(vb false)] 24)) (fun p=>.pointer (some p)) Kp9 (jK rfl) (by kernel_rfl) (jG (zeroValue24 _) rfl) ?_
 intro p15 w53 hn37
 have h:=h p15 w53 hn37
 refine ⟨.inr h.1,?_⟩
 have h:=h.2
 refine lg 7 (slc Kp7 call20 (h.mono ?_))
 rintro e w54 ⟨fM,fN,fO,fP,fQ,rfl,h⟩
 refine ⟨_,rfl,.inl (by kernel_rfl),?_⟩
 refine lg 10 (slo (jJ (S8 (jD (jD jI)))) (sizeOf24 _) h fun w55 h=>⟨.inl (by kernel_rfl),?_⟩)
 refine lg 11 (slo (jJ (S8 (jD (jD (jD jI))))) (sizeOf24 _) h fun w56 h=>⟨.inl (by kernel_rfl),?_⟩)
 refine wn (jN ⟨p13,p15,hm,h⟩)
 have h:=h.2
 refine kT (O:=(.cells #[(vi 0),(vi 0),(vu 0),ve,(vb false)] 24)) (fun p=>.pointer (some p)) Kp9 (jK rfl) (by kernel_rfl) (jG (zeroValue24 _) rfl) ?_
 intro p16 w57 hn40
 have h:=h p16 w57 hn40
 refine ⟨.inr h.1,?_⟩
 have h:=h.2
 refine lg 3 (slc Kp3 call20 (h.mono ?_))
 rintro e w58 ⟨fR,fS,fT,fU,fV,rfl,hC,h⟩
 refine ⟨_,rfl,.inr hC,?_⟩
 refine lg 7 (slc Kp7 call20 (h.mono ?_))
 rintro e w59 ⟨fW,fX,fY,fZ,gA,rfl,h⟩
 refine ⟨_,rfl,.inl (by kernel_rfl),?_⟩
 refine lg 10 (slo (jJ (S8 (jD (jD jI)))) (sizeOf24 _) h fun w60 h=>⟨.inl (by kernel_rfl),?_⟩)
 refine lg 11 (slo (jJ (S8 (jD (jD (jD jI))))) (sizeOf24 _) h fun w61 h=>⟨.inl (by kernel_rfl),?_⟩)
 refine wn (jN ⟨p13,p16,hm,h⟩)
 have h:=h.2.2
 refine kT (O:=(.cells #[(vi 0),(vi 0),(vu 0),ve,(vb false)] 24)) (fun p=>.pointer (some p)) Kp9 (jK rfl) (by kernel_rfl) (jG (zeroValue24 _) rfl) ?_
 intro p17 w62 hn51
 have h:=h p17 w62 hn51
 refine ⟨.inr h.1,?_⟩
 have h:=h.2
 refine jPT (k:=3) (k':=8) (by kernel_rfl) ?_ ?_
 have h:=h.1
 refine slc Kp3 call20 (h.mono ?_)
 rintro e w63 ⟨dU,dV,dW,dX,dY,rfl,hC,h⟩
 refine ⟨_,rfl,.inr hC,?_⟩
 refine jPT (k:=7) (k':=8) (by kernel_rfl) ?_ ?_
 have h:=h.1
 refine slc Kp7 call20 (h.mono ?_)
 rintro e w64 ⟨gB,gC,gD,gE,gF,rfl,h⟩
 refine ⟨_,rfl,.inl (by kernel_rfl),?_⟩
 refine lg 8 (kT (O:=(.cells #[(vi 0),(vi 0),(vu 0),ve,(vb false)] 24)) (fun p=>.pointer (some p)) Kp8 (jK rfl) (by kernel_rfl) (jG (zeroValue24 _) rfl) ?_)
 intro p18 w65 hn44
 have h:=h p18 w65 hn44
 refine ⟨.inr h.1,?_⟩
 have h:=h.2
 refine lg 10 (slo (jJ (S8 (jD (jD jI)))) (sizeOf24 _) h fun w66 h=>⟨.inl (by kernel_rfl),?_⟩)
 refine lg 11 (slo (jJ (S8 (jD (jD (jD jI))))) (sizeOf24 _) h fun w67 h=>⟨.inl (by kernel_rfl),?_⟩)
 refine wn (jN ⟨p18,p17,hm,h⟩)
 have h:=h.2
 refine kT (O:=(.cells #[(vi 0),(vi 0),(vu 0),ve,(vb false)] 24)) (fun p=>.pointer (some p)) Kp8 (jK rfl) (by kernel_rfl) (jG (zeroValue24 _) rfl) ?_
 intro p19 w68 hn47
 have h:=h p19 w68 hn47
 refine ⟨.inr h.1,?_⟩
 have h:=h.2
 refine lg 7 (slc Kp7 call20 (h.mono ?_))
 rintro e w69 ⟨gG,gH,gI,gJ,gK,rfl,h⟩
 refine ⟨_,rfl,.inl (by kernel_rfl),?_⟩
 refine lg 10 (slo (jJ (S8 (jD (jD jI)))) (sizeOf24 _) h fun w70 h=>⟨.inl (by kernel_rfl),?_⟩)
 refine lg 11 (slo (jJ (S8 (jD (jD (jD jI))))) (sizeOf24 _) h fun w71 h=>⟨.inl (by kernel_rfl),?_⟩)
 refine wn (jN ⟨p19,p17,hm,h⟩)
 have h:=h.2
 refine kT (O:=(.cells #[(vi 0),(vi 0),(vu 0),ve,(vb false)] 24)) (fun p=>.pointer (some p)) Kp8 (jK rfl) (by kernel_rfl) (jG (zeroValue24 _) rfl) ?_
 intro p20 w72 hn50
 have h:=h p20 w72 hn50
 refine ⟨.inr h.1,?_⟩
 have h:=h.2
 refine lg 3 (slc Kp3 call20 (h.mono ?_))
 rintro e w73 ⟨gL,gM,gN,gO,gP,rfl,hC,h⟩
 refine ⟨_,rfl,.inr hC,?_⟩
 refine lg 7 (slc Kp7 call20 (h.mono ?_))
 rintro e w74 ⟨gQ,gR,gS,gT,gU,rfl,h⟩
 refine ⟨_,rfl,.inl (by kernel_rfl),?_⟩
 refine lg 10 (slo (jJ (S8 (jD (jD jI)))) (sizeOf24 _) h fun w75 h=>⟨.inl (by kernel_rfl),?_⟩)
 refine lg 11 (slo (jJ (S8 (jD (jD (jD jI))))) (sizeOf24 _) h fun w76 h=>⟨.inl (by kernel_rfl),?_⟩)
 refine wn (jN ⟨p20,p17,hm,h⟩)
 refine jB (uS (jN (eg (q (qm h fun a6 h=>q (st1 (sizeOf4 _) h fun w77 h=>ln (eg (q (sro (sizeOf24 _) h fun w78 h=>ln (er ?_))))))))))
 obtain ⟨bT,bU,bV,bW,bX,hv20,h⟩:=h
 refine gg1 results19 (rva (isAgg24 _) (sizeOf24 _) hv20) ⟨bT,bU,bV,bW,bX,rfl,h⟩
 refine rg (q (q2 (vb (decide (r2=(⟨#[114,101,115,111,108,118,101]⟩:ByteArray)))) (xM (by kernel_rfl) (by kernel_rfl)) (q ?_)))
 obtain ⟨hg6,h⟩|⟨hg6,h⟩:=h.br
 refine qk 82 hg6 (qk 82 hg6 (q2 (vb (decide (who1≤1))) (xT hg6) (q (ln ⟨(decide (who1≤1)),hm,h⟩))))
 refine sj2 82 hg6 (q2 (vb false) (xF hg6) (q (ln ⟨false,hm,h⟩)))
 refine rg (q (q2 (vb (decide (r2=(⟨#[100,101,97,108]⟩:ByteArray)))) (xM (by kernel_rfl) (by kernel_rfl)) (q ?_)))
 obtain ⟨hg7,h⟩|⟨hg7,h⟩:=h.br
 refine qk 65 hg7 (qk 65 hg7 (q2 (vb (decide (who1≤1))) (xT hg7) (q (ln ⟨(decide (who1≤1)),hm,h⟩))))
 refine sj2 65 hg7 (q2 (vb false) (xF hg7) (q (ln ⟨false,hm,h⟩)))
 refine rg (q (q2 (vb (decide (r2=(⟨#[105,110,115,116,101,97,100]⟩:ByteArray)))) (xM (by kernel_rfl) (by kernel_rfl)) (q ?_)))
 obtain ⟨hg8,h⟩|⟨hg8,h⟩:=h.br
 refine qk 49 hg8 (qk 49 hg8 (q2 (vb (who1 == 2)) (xT hg8) (q (ln ⟨(who1 == 2),hm,h⟩))))
 refine sj2 49 hg8 (q2 (vb false) (xF hg8) (q (ln ⟨false,hm,h⟩)))
 refine rg (q (q2 (vb (decide (r2=(⟨#[97,98,111,114,116,101,100]⟩:ByteArray)))) (xM (by kernel_rfl) (by kernel_rfl)) (q ?_)))
 obtain ⟨hg9,h⟩|⟨hg9,h⟩:=h.br
 refine qk 37 hg9 (qk 37 hg9 (q2 (vb (who1 == 2)) (xT hg9) (q (ln ⟨(who1 == 2),hm,h⟩))))
 refine sj2 37 hg9 (q2 (vb false) (xF hg9) (q (ln ⟨false,hm,h⟩)))
 refine rg (q (q2 (vb (decide (r2=(⟨#[97,98,111,114,116]⟩:ByteArray)))) (xM (by kernel_rfl) (by kernel_rfl)) (q ?_)))
 obtain ⟨hg10,h⟩|⟨hg10,h⟩:=h.br
 refine qk 25 hg10 (qk 25 hg10 (q2 (vb (who1 == 0)) (xT hg10) (q (ln ⟨(who1 == 0),hm,h⟩))))
 refine sj2 25 hg10 (q2 (vb false) (xF hg10) (q (ln ⟨false,hm,h⟩)))
def m_J_j1 (r1:Option Addr) (p1 p2:Addr) (w:World) (K:Int→Int→Int→ByteArray→Bool→WP):Prop :=∃v2,w.cell? (p2.add 5)=some (vi v2)∧Calls prog 47 #[(vp r1),(vi v2)] w (fun e w5=>∃r3 r4,e=.returned (.tuple #[(vu r3),(vs r4)])∧∃v3,w5.cell? (p2.add 1)=some (vi v3)∧∃v4,w5.cell? p2=some (vi v4)∧(∀j,j<5→jT w5 (p1.add j))∧∀w6,w6=storeRow w5 p1 (Aa 1 v3 r3 r4 (v4 == 9))→∃aL aM aW aN aX,Row w6 p1 (Aa aL aM aW aN aX)∧K aL aM aW aN aX w6)
def m_J_j3 (r1:Option Addr) (p1 p2:Addr) (x2:Bool) (w:World) (K:Int→Int→Int→ByteArray→Bool→WP):Prop :=Br x2 (∃a2,r1=some a2∧jT w (a2.add 1)∧∀w7,w7=w.setCell (a2.add 1) (vb true)→(∀j,j<5→jT w7 (p1.add j))∧∀w8,w8=storeRow w7 p1 (Ag 0 0 0 false)→∃aO aP aY aQ aZ,Row w8 p1 (Aa aO aP aY aQ aZ)∧K aO aP aY aQ aZ w8) (∃v6,w.cell? (p2.add 2)=some (vi v6)∧∃v7,w.cell? (p2.add 1)=some (vi v7)∧Br (v6 != (q6.wrap (1 - v7))) (∃a3,r1=some a3∧jT w (a3.add 1)∧∀w9,w9=w.setCell (a3.add 1) (vb true)→(∀j,j<5→jT w9 (p1.add j))∧∀w10,w10=storeRow w9 p1 (Ag 0 0 0 false)→∃aI aJ aU aK aV,Row w10 p1 (Aa aI aJ aU aK aV)∧K aI aJ aU aK aV w10) (m_J_j1 r1 p1 p2 w K))
def m_J_j2 (r1:Option Addr) (p1 p2:Addr) (x1:Bool) (w:World) (K:Int→Int→Int→ByteArray→Bool→WP):Prop :=Br x1 (m_J_j3 r1 p1 p2 true w K) (∃v8,w.cell? (p2.add 1)=some (vi v8)∧m_J_j3 r1 p1 p2 (decide (v8>1)) w K)
def m_J (r1:Option Addr) (t1:Int) (w:World) (K:Int→Int→Int→ByteArray→Bool→WP):Prop :=∀p1 w1,New w (.cells #[(vi 0),(vi 0),(vu 0),ve,(vb false)] 24) p1 w1→∃a1,r1=some a1∧∃v1,w1.cell? a1=some (vp v1)∧Calls prog 18 #[(vp v1),(vi t1)] w1 (fun e w2=>∃aB aC aD aA aE aF aG r2,e=.returned (.tuple #[(Ae aB aC aD aA aE aF aG),(vb r2)])∧∀p2 w3,New w2 (.cells #[(vi 0),(vi 0),(vi 0),(vu 0),ve,(vi 0),(vi 0)] 59) p2 w3→(∀j,j<7→jT w3 (p2.add j))∧∀w4,w4=storeRow w3 p2 (Ad aB aC aD aA aE aF aG)→∃v5,w4.cell? p2=some (vi v5)∧Br (v5 != 8) (∃v9,w4.cell? p2=some (vi v9)∧m_J_j2 r1 p1 p2 (v9 != 9) w4 K) (m_J_j2 r1 p1 p2 false w4 K))
theorem w_J (r1 t1 w K) (h:m_J r1 t1 w K):
  Calls prog 20 #[(vp r1),(vi t1)] w (fun e w'=>∃bA bB aS aR aT,e=.returned (Ac bA bB aS aR aT)∧K bA bB aS aR aT w'):=by
 refine cw (args:=[(vp r1),(vi t1)]) func20 ntmps20 (eg (sn (O:=(.cells #[(vi 0),(vi 0),(vu 0),ve,(vb false)] 24)) (jG (zeroValue24 _) rfl) ?_))
 intro p1 w1 hn8
 have h:=h p1 w1 hn8
 refine ln (eg (q (qm h fun a1 h=>q (ql (isAgg27 _) h fun v1 h=>q (sc call18 (h.mono fun e w2 ⟨aB,aC,aD,aA,aE,aF,aG,r2,k,h⟩=>⟨_,k,?_⟩))))))
 refine qc (nw1 h (jG (zeroValue59 _) rfl) fun p2 w3 h=>sro (sizeOf59 _) h fun w4 h=>q (ln (kG (fun ρ w=>Has ρ [(0,(vp r1)),(4,(vp (some p1))),(5,(vp (some p2)))]∧m_J_j1 r1 p1 p2 w K) ?_ ?_)))
 rintro ρ w ⟨hH,h⟩
 refine jQ hH (eg (qb (ql (isAgg29 _) h fun v2 h=>sc call47 (h.mono fun e w5 ⟨r3,r4,k,h⟩=>⟨_,k,?_⟩))))
 refine q (qd (ln (eg (q (ql (isAgg3 _) h fun v3 h=>qc (ql (isAgg3 _) h fun v4 h=>qb (sro (sizeOf24 _) h fun w6 h=>ln (er ?_))))))))
 obtain ⟨aL,aM,aW,aN,aX,hv1,h⟩:=h
 refine gg1 results20 (rva (isAgg24 _) (sizeOf24 _) hv1) ⟨aL,aM,aW,aN,aX,rfl,h⟩
 refine eg (q (ql (isAgg3 _) h fun v5 h=>qb (jU 4 (fun ρ w=>∃x1,Has ρ [(0,(vp r1)),(4,(vp (some p1))),(5,(vp (some p2))),(25,(vb x1))]∧m_J_j2 r1 p1 p2 x1 w K) ?_ ?_)))
 rintro ρ w ⟨x1,hH,h⟩
 refine zB hH (q (jU 4 (fun ρ w=>∃x2,Has ρ [(0,(vp r1)),(4,(vp (some p1))),(5,(vp (some p2))),(30,(vb x2))]∧m_J_j3 r1 p1 p2 x2 w K) ?_ ?_))
 rintro ρ w ⟨x2,hH,h⟩
 refine zB hH (q ?_)
 obtain ⟨hg1,h⟩|⟨hg1,h⟩:=h.br
 refine sj 31 hg1 (sj5 31 hg1 (q2 (vb true) (xT hg1) (ln (vA (by kernel_rfl) (eg (q (qm h fun a2 h=>q (st1 (sizeOf4 _) h fun w7 h=>ln (eg (q (sro (sizeOf24 _) h fun w8 h=>ln (er (zM ?_)))))))))))))
 obtain ⟨aO,aP,aY,aQ,aZ,hv5,h⟩:=h
 refine gg1 results20 (rva (isAgg24 _) (sizeOf24 _) hv5) ⟨aO,aP,aY,aQ,aZ,rfl,h⟩
 refine qk 31 hg1 ?_
 obtain ⟨v6,hv8,h⟩:=h
 refine q4 31 hg1 (xl (isAgg3 _) hv8) (qk 31 hg1 ?_)
 obtain ⟨v7,hv7,h⟩:=h
 refine q4 31 hg1 (xl (isAgg3 _) hv7) (qk 31 hg1 (qk 31 hg1 (q2 (vb (v6 != (q6.wrap (1 - v7)))) (xF hg1) (ln (cbr h ?_ ?_)))))<;>intro h
 refine eg (q (qm h fun a3 h=>q (st1 (sizeOf4 _) h fun w9 h=>ln (eg (q (sro (sizeOf24 _) h fun w10 h=>ln (er (zM ?_))))))))
 obtain ⟨aI,aJ,aU,aK,aV,hv6,h⟩:=h
 refine gg1 results20 (rva (isAgg24 _) (sizeOf24 _) hv6) ⟨aI,aJ,aU,aK,aV,rfl,h⟩
 refine jB (jN ⟨hm,h⟩)
 obtain ⟨hg2,h⟩|⟨hg2,h⟩:=h.br
 refine sj3 26 hg2 (q2 (vb true) (xT hg2) (jC ⟨true,hm,h⟩))
 refine qk 26 hg2 ?_
 obtain ⟨v8,hv9,h⟩:=h
 refine q4 26 hg2 (xl (isAgg3 _) hv9) (qk 26 hg2 (q2 (vb (decide (v8>1))) (xF hg2) (jC ⟨(decide (v8>1)),hm,h⟩)))
 obtain ⟨hg3,h⟩|⟨hg3,h⟩:=h.br
 refine qk 21 hg3 ?_
 obtain ⟨v9,hv10,h⟩:=h
 refine q4 21 hg3 (xl (isAgg3 _) hv10) (qk 21 hg3 (q2 (vb (v9 != 9)) (xT hg3) (jC ⟨(v9 != 9),hm,h⟩)))
 refine sj3 21 hg3 (q2 (vb false) (xF hg3) (jC ⟨false,hm,h⟩))
def m_N1 (r1:Option Addr) (t1:Int) (w:World) (K:ByteArray→Int→WP):Prop :=Calls prog 22 #[(vp r1),(vi t1),(vi 4)] w (fun e w1=>∃aB aC aD aA aE aF aG,e=.returned (Ae aB aC aD aA aE aF aG)∧∀p1 w2,New w1 (.cells #[(vi 0),(vi 0),(vi 0),(vu 0),ve,(vi 0),(vi 0)] 59) p1 w2→(∀j,j<7→jT w2 (p1.add j))∧∀w3,w3=storeRow w2 p1 (Ad aB aC aD aA aE aF aG)→∃C1:WP,C1 w3.drew∧∀w4,w4=w3.drew→∃v1,(∀w',C1 w'→w'.cell? (p1.add 5)=some (vi v1))∧∃v2,(∀w',C1 w'→w'.cell? (p1.add 6)=some (vi v2))∧Calls prog 22 #[(vp r1),(vi v1),(vi 3)] w4 (fun e w5=>∃bA bB bG aH aR bH bI,e=.returned (Ae bA bB bG aH aR bH bI)∧C1 w5∧K aR v2 w5))
theorem w_N1 (r1 t1 w K) (h:m_N1 r1 t1 w K):
  Calls prog 21 #[(vp r1),(vi t1)] w (fun e w'=>∃r2 r3,e=.returned (.tuple #[(vs r2),(vi r3)])∧K r2 r3 w'):=by
 refine cw (args:=[(vp r1),(vi t1)]) func21 ntmps21 (eg (q0 ve (q0 (vi 0) (ln (eg (q0 (vp r1) (q0 (vi t1) ?_)))))))
 refine sc call22 (h.mono fun e w1 ⟨aB,aC,aD,aA,aE,aF,aG,k,h⟩=>⟨_,k,?_⟩)
 refine nw1 h (jG (zeroValue59 _) rfl) fun p1 w2 h=>sro (sizeOf59 _) h fun w3 h=>ln (jA ?_)
 obtain ⟨C1,hC,h⟩:=h
 refine dr1 C1 [3] [] hC h fun w4 h=>qx 0 (vp r1) Kp0 (qx 1 (vp (some (p1.add 5))) Kp1 (qg 2 ?_))
 obtain ⟨v1,hv2,h⟩:=h
 refine sy Kp2 (fun _ k=>xl (isAgg29 _) (hv2 _ k)) (qx 5 (vp (some (p1.add 6))) Kp5 (qg 6 ?_))
 obtain ⟨v2,hv1,h⟩:=h
 refine sy Kp6 (fun _ k=>xl (isAgg29 _) (hv1 _ k)) (lg 3 (slc Kp3 call22 (h.mono ?_)))
 rintro e w5 ⟨bA,bB,bG,aH,aR,bH,bI,rfl,hC,h⟩
 refine ⟨_,rfl,.inr hC,?_⟩
 refine qx 4 (vs aR) Kp4 (qx 7 (vs aR) Kp7 (qx 8 (vi v2) Kp8 (wn (jN (er (oX (.inl rfl) results21 (v:=(vs aR)) (by kernel_rfl) (v':=(vi v2)) (by kernel_rfl) ⟨aR,v2,rfl,h⟩))))))
def m_O1 (r1:Option Addr) (t1 kind1:Int) (w:World) (K:Int→Int→Int→Int→ByteArray→Int→Int→WP):Prop :=∀p1 w1,New w (.cells #[(vi 0),(vi 0),(vi 0),(vu 0),ve,(vi 0),(vi 0)] 59) p1 w1→∃a1,r1=some a1∧∃v1,w1.cell? a1=some (vp v1)∧Calls prog 18 #[(vp v1),(vi t1)] w1 (fun e w2=>∃aB aC aD aA aE aF aG r2,e=.returned (.tuple #[(Ae aB aC aD aA aE aF aG),(vb r2)])∧∀p2 w3,New w2 (.cells #[(vi 0),(vi 0),(vi 0),(vu 0),ve,(vi 0),(vi 0)] 59) p2 w3→(∀j,j<7→jT w3 (p2.add j))∧∀w4,w4=storeRow w3 p2 (Ad aB aC aD aA aE aF aG)→Br (!r2) (∃a2,r1=some a2∧jT w4 (a2.add 1)∧∀w5,w5=w4.setCell (a2.add 1) (vb true)→(∀j,j<7→jT w5 (p1.add j))∧∀w6,w6=storeRow w5 p1 [(vi 0),(vi 0),(vi 0),(vu 0),ve,(vi 0),(vi 0)]→∃aL aM dZ eA aN eB eC,Row w6 p1 (Ad aL aM dZ eA aN eB eC)∧K aL aM dZ eA aN eB eC w6) (∃v2,w4.cell? p2=some (vi v2)∧Br (v2 != kind1) (∃a3,r1=some a3∧jT w4 (a3.add 1)∧∀w7,w7=w4.setCell (a3.add 1) (vb true)→(∀j,j<7→jT w7 (p1.add j))∧∀w8,w8=storeRow w7 p1 [(vi 0),(vi 0),(vi 0),(vu 0),ve,(vi 0),(vi 0)]→∃aO aP eD eE aQ eF eG,Row w8 p1 (Ad aO aP eD eE aQ eF eG)∧K aO aP eD eE aQ eF eG w8) (∃cD cE eH eI cF eJ eK,Row w4 p2 (Ad cD cE eH eI cF eJ eK)∧(∀j,j<7→jT w4 (p1.add j))∧∀w9,w9=storeRow w4 p1 (Ad cD cE eH eI cF eJ eK)→∃aI aJ eL eM aK eN eO,Row w9 p1 (Ad aI aJ eL eM aK eN eO)∧K aI aJ eL eM aK eN eO w9)))
theorem w_O1 (r1 t1 kind1 w K) (h:m_O1 r1 t1 kind1 w K):
  Calls prog 22 #[(vp r1),(vi t1),(vi kind1)] w (fun e w'=>∃bA bB bG aH aR bH bI,e=.returned (Ae bA bB bG aH aR bH bI)∧K bA bB bG aH aR bH bI w'):=by
 refine cw (args:=[(vp r1),(vi t1),(vi kind1)]) func22 ntmps22 (eg (sn (O:=(.cells #[(vi 0),(vi 0),(vi 0),(vu 0),ve,(vi 0),(vi 0)] 59)) (jG (zeroValue59 _) rfl) ?_))
 intro p1 w1 hn8
 have h:=h p1 w1 hn8
 refine ln (eg (q (qm h fun a1 h=>q (ql (isAgg27 _) h fun v1 h=>q (sc call18 (h.mono fun e w2 ⟨aB,aC,aD,aA,aE,aF,aG,r2,k,h⟩=>⟨_,k,?_⟩))))))
 refine qc (nw1 h (jG (zeroValue59 _) rfl) fun p2 w3 h=>sro (sizeOf59 _) h fun w4 h=>q (ln (jA (eg (qc ?_)))))
 obtain ⟨hg1,h⟩|⟨hg1,h⟩:=h.br
 refine sj4 20 hg1 (q2 (vb true) (xT hg1) (ln (vA (by kernel_rfl) (eg (q0 (vp r1) (qm h fun a2 h=>q (st1 (sizeOf4 _) h fun w5 h=>ln (eg (q (sro (sizeOf59 _) h fun w6 h=>ln (er (zM ?_))))))))))))
 obtain ⟨aL,aM,dZ,eA,aN,eB,eC,hv1,h⟩:=h
 refine gg1 results22 (rva (isAgg59 _) (sizeOf59 _) hv1) ⟨aL,aM,dZ,eA,aN,eB,eC,rfl,h⟩
 refine qk 20 hg1 ?_
 obtain ⟨v2,hv5,h⟩:=h
 refine q4 20 hg1 (xl (isAgg3 _) hv5) (qk 20 hg1 (qk 20 hg1 (q2 (vb (v2 != kind1)) (xF hg1) (ln (cbr h ?_ ?_)))))<;>intro h
 refine eg (q (qm h fun a3 h=>q (st1 (sizeOf4 _) h fun w7 h=>ln (eg (q (sro (sizeOf59 _) h fun w8 h=>ln (er (zM ?_))))))))
 obtain ⟨aO,aP,eD,eE,aQ,eF,eG,hv2,h⟩:=h
 refine gg1 results22 (rva (isAgg59 _) (sizeOf59 _) hv2) ⟨aO,aP,eD,eE,aQ,eF,eG,rfl,h⟩
 refine jB (jN (eg ?_))
 obtain ⟨cD,cE,eH,eI,cF,eJ,eK,hv4,h⟩:=h
 refine qa (isAgg59 _) (sizeOf59 _) hv4 (sro (sizeOf59 _) h fun w9 h=>ln (er ?_))
 obtain ⟨aI,aJ,eL,eM,aK,eN,eO,hv3,h⟩:=h
 refine gg1 results22 (rva (isAgg59 _) (sizeOf59 _) hv3) ⟨aI,aJ,eL,eM,aK,eN,eO,rfl,h⟩
def m_V_j1 (r1:Option Addr) (p1:Addr) (w:World) (K:Int→ByteArray→WP):Prop :=∃C1:WP,C1 w.drew∧∀w5,w5=w.drew→∃v1,(∀w',C1 w'→w'.cell? (p1.add 5)=some (vi v1))∧∃v2,(∀w',C1 w'→w'.cell? (p1.add 6)=some (vi v2))∧Calls prog 22 #[(vp r1),(vi v1),(vi 2)] w5 (fun e w6=>∃bA bB bG aH aR bH bI,e=.returned (Ae bA bB bG aH aR bH bI)∧C1 w6∧Calls prog 22 #[(vp r1),(vi v2),(vi 3)] w6 (fun e w7=>∃cG cH cP cQ bF cR cS,e=.returned (Ae cG cH cP cQ bF cR cS)∧C1 w7∧K aH bF w7))
def m_V (r1:Option Addr) (t1:Int) (w:World) (K:Int→ByteArray→WP):Prop :=Calls prog 21 #[(vp r1),(vi t1)] w (fun e w1=>∃r2 r3,e=.returned (.tuple #[(vs r2),(vi r3)])∧Calls prog 22 #[(vp r1),(vi r3),(vi 4)] w1 (fun e w2=>∃aB aC aD aA aE aF aG,e=.returned (Ae aB aC aD aA aE aF aG)∧∀p1 w3,New w2 (.cells #[(vi 0),(vi 0),(vi 0),(vu 0),ve,(vi 0),(vi 0)] 59) p1 w3→(∀j,j<7→jT w3 (p1.add j))∧∀w4,w4=storeRow w3 p1 (Ad aB aC aD aA aE aF aG)→∃a1,r1=some a1∧∃v3,w4.cell? (a1.add 1)=some (vb v3)∧Br v3 (∃a2,r1=some a2∧jT w4 (a2.add 1)∧∀w8,w8=w4.setCell (a2.add 1) (vb true)→m_V_j1 r1 p1 w8 K) (∃a3,r1=some a3∧jT w4 (a3.add 1)∧∀w9,w9=w4.setCell (a3.add 1) (vb (!(decide (r2=(⟨#[100,101,97,108]⟩:ByteArray)))))→m_V_j1 r1 p1 w9 K)))
theorem w_V (r1 t1 w K) (h:m_V r1 t1 w K):
  Calls prog 47 #[(vp r1),(vi t1)] w (fun e w'=>∃r4 r5,e=.returned (.tuple #[(vu r4),(vs r5)])∧K r4 r5 w'):=by
 refine cw (args:=[(vp r1),(vi t1)]) func47 ntmps47 (eg (q0 (vu 0) (q0 ve (ln (eg (q0 (vp r1) (q0 (vi t1) ?_)))))))
 refine sc call21 (h.mono fun e w1 ⟨r2,r3,k,h⟩=>⟨_,k,?_⟩)
 refine q (qd (ln (eg (qb (sc call22 (h.mono fun e w2 ⟨aB,aC,aD,aA,aE,aF,aG,k,h⟩=>⟨_,k,?_⟩))))))
 refine nw1 h (jG (zeroValue59 _) rfl) fun p1 w3 h=>sro (sizeOf59 _) h fun w4 h=>ln (kG (fun ρ w=>Has ρ [(0,(vp r1)),(8,(vp (some p1)))]∧m_V_j1 r1 p1 w K) ?_ ?_)
 rintro ρ w ⟨hH,h⟩
 refine jQ hH (jA ?_)
 obtain ⟨C1,hC,h⟩:=h
 refine dr1 C1 [3,8] [] hC h fun w5 h=>qx 0 (vp r1) Kp0 (qx 1 (vp (some (p1.add 5))) Kp1 (qg 2 ?_))
 obtain ⟨v1,hv2,h⟩:=h
 refine sy Kp2 (fun _ k=>xl (isAgg29 _) (hv2 _ k)) (qx 5 (vp r1) Kp5 (qx 6 (vp (some (p1.add 6))) Kp6 (qg 7 ?_)))
 obtain ⟨v2,hv1,h⟩:=h
 refine sy Kp7 (fun _ k=>xl (isAgg29 _) (hv1 _ k)) (lg 3 (slc Kp3 call22 (h.mono ?_)))
 rintro e w6 ⟨bA,bB,bG,aH,aR,bH,bI,rfl,hC,h⟩
 refine ⟨_,rfl,.inr hC,?_⟩
 refine qx 4 (vu aH) Kp4 (lg 8 (slc Kp8 call22 (h.mono ?_)))
 rintro e w7 ⟨cG,cH,cP,cQ,bF,cR,cS,rfl,hC,h⟩
 refine ⟨_,rfl,.inr hC,?_⟩
 refine qx 9 (vs bF) Kp9 (qx 10 (vu aH) (jJ (S8 (jD (jD jI)))) (qx 11 (vs bF) (jJ (S8 (jD (jD (jD jI))))) (wn (jN (er (oX (.inl rfl) results47 (v:=(vu aH)) (by kernel_rfl) (v':=(vs bF)) (by kernel_rfl) ⟨aH,bF,rfl,h⟩))))))
 refine rg (qb (qm h fun a1 h=>q (ql (isAgg4 _) h fun v3 h=>q ?_)))
 obtain ⟨hg1,h⟩|⟨hg1,h⟩:=h.br
 refine sj2 23 hg1 (q2 (vb true) (xT hg1) (qm h fun a2 h=>q (st1 (sizeOf4 _) h fun w8 h=>ln ⟨hm,h⟩)))
 refine qk 23 hg1 (stq (v:=(vb (!(decide (r2=(⟨#[100,101,97,108]⟩:ByteArray)))))) (wy 23 hg1) (yX (by kernel_rfl) (by kernel_rfl)) (q2 (vb (!(decide (r2=(⟨#[100,101,97,108]⟩:ByteArray))))) (xF hg1) (qm h fun a3 h=>q (st1 (sizeOf4 _) h fun w9 h=>ln ⟨hm,h⟩))))
end Go.Proofs
end
section
open Go Go.SE
namespace Go.Sp
def vV (x:ByteArray):Tree:=.mk 3 0 0 0 x []
def jDE (n:Int):Tree:=.mk 2 0 0 n ⟨#[]⟩ []
def vP (a b:Tree):Tree:=.mk 4 0 0 0 ⟨#[]⟩ [a,b]
def xB (n:Int) (a:Tree):Tree:=.mk 7 n 0 0 ⟨#[]⟩ [a]
def yK (n:Int) (a:Tree) (fake:Bool):Tree:=.mk (if fake then 9 else 8) n (1 - n) 0 ⟨#[]⟩ [a]
def oO:ByteArray:=⟨#[100,101,97,108]⟩
def qN (c:Int) (x:ByteArray):Tree:=vP (vV oO) (vP (jDE c) (vV x))
end Go.Sp
namespace Go.Proofs
attribute [local irreducible] Calls
theorem TreeAt.leaf {S:NP} {w:World} {k f t u:Int} {x:ByteArray}:TreeAt S w Sl.nil (.mk k f t u x []) :=
 .mk k f t u x [] Sl.nil (fun _=>Sl.nil) rfl (by simp) (fun i h=>by simp at h) (fun i h=>by simp at h)
theorem TreeAt.one {S:NP} {w:World} {k f t u:Int} {x:ByteArray} {p:Addr} {A:Sp.Tree} {sa:Sl} {T:TypeId} (hB:Box w p (tU A sa) T) (hS:S p.block) (hA:TreeAt S w sa A):TreeAt S w ⟨some p,1,1⟩ (.mk k f t u x [A]):=by
 refine .mk k f t u x [A] _ (fun _=>sa) rfl (by simp) (fun i h=>?_) (fun i h=>?_)
 ·have:i=0:=by simpa using h
  subst this;exact ⟨p,⟨by omega,by simp,p,rfl,rfl⟩,hS,hB.row⟩
 ·have:i=0:=by simpa using h
  subst this;exact hA
theorem TreeAt.pair {S:NP} {w:World} {k f t u:Int} {x:ByteArray} {p:Addr} {A B:Sp.Tree} {sa sb:Sl} {T:TypeId} (hB:Box w p (tU A sa++tU B sb) T) (hS:S p.block) (hA:TreeAt S w sa A) (hB2:TreeAt S w sb B):TreeAt S w ⟨some p,2,2⟩ (.mk k f t u x [A,B]):=by
 refine .mk k f t u x [A,B] _ (fun i=>if i=0 then sa else sb) rfl (by simp) (fun i h=>?_) (fun i h=>?_)
 ·have:i=0∨i=1:=by simp at h;omega
  rcases this with rfl | rfl
  ·refine ⟨p,⟨by omega,by simp,p,rfl,rfl⟩,hS,fun i hi=>?_⟩;have:=hB.row i (by simp [tU] at hi ⊢;omega);have hi':i<6:=by simpa [tU] using hi
   rw [this];exact List.getElem?_append_left (by simp [tU];omega)
  ·refine ⟨p.add (1*6),⟨by omega,by simp,p,rfl,rfl⟩,by rw [zA];exact hS,fun i hi=>?_⟩;have hi':i<6:=by simpa [tU] using hi
   have:=hB.row (6+i) (by simp [tU];omega);rw [yS,this,List.getElem?_append_right (by simp [tU])];simp [tU]
 ·have:i=0∨i=1:=by simp at h;omega
  rcases this with rfl | rfl
  ·exact hA
  ·exact hB2
end Go.Proofs
end
section
open Go Go.SE
namespace Go.Sp
structure Letter where
 kind:Int
 frm:Int
 c:Int
 text:ByteArray
 fake:Bool
deriving DecidableEq
def uC:Letter:=⟨0,0,0,⟨#[]⟩,false⟩
def yY:ByteArray:=⟨#[97,98,111,114,116]⟩
def vZ:ByteArray:=⟨#[114,101,115,111,108,118,101]⟩
def vF:ByteArray:=⟨#[97,98,111,114,116,101,100]⟩
def vN:ByteArray:=⟨#[105,110,115,116,101,97,100]⟩
def jHT:ByteArray:=⟨#[102,117,108,108]⟩
def zJ (l:Letter) (first second:Bool):Tree :=
 if l.kind=1 then yK l.frm (qN l.c l.text) l.fake
 else if l.kind=2 then xB l.frm (qN l.c l.text)
 else if l.kind=3 then xB 0 (vP (vV yY) (jDE l.c))
 else if l.kind=4 then xB l.frm (vP (vV vZ) (vP (yK 0 (qN l.c l.text) (l.fake && first)) (yK 1 (qN l.c l.text) (l.fake && second))))
 else if l.kind=5 then xB 2 (vP (vV vF) (jDE l.c))
 else if l.kind=6 then xB 2 (vP (vV vN) (qN l.c l.text))
 else vP (vV jHT) (jDE l.c)
end Go.Sp
namespace Go.Proofs
attribute [local irreducible] Calls
end Go.Proofs
end
section
namespace Go.Sp
def isSigned (k:Int):Bool:=(k == 1 || k == 2) || k == 4
def isTexted (k:Int):Bool:=isSigned k || k == 6
def zS (l:Letter):Int :=
 if l.kind<1∨l.kind>7∨(l.frm≠0∧l.frm≠1)∨(isSigned l.kind=false∧l.frm≠0)∨(isTexted l.kind=false∧l.text≠⟨#[]⟩)∨(l.fake=true∧l.kind≠1∧l.kind≠4) then 110 else if l.text.size>64 then 1 else 0
end Go.Sp
end
section
open Go Go.SE
namespace Go.Sp
open Go.Proofs
def hexT:ByteArray:=⟨#[48,49,50,51,52,53,54,55,56,57,97,98,99,100,101,102]⟩
def jMI (n:Nat):UInt8:=(hexT.data.toList[n]?).getD 0
def escB (c:UInt8):List UInt8:=if c.toNat=34∨c.toNat=92 then [92,c] else if c.toNat=10 then [92,110] else if 32≤c.toNat∧c.toNat≤126 then [c] else [92,120,jMI (c.toNat / 16),jMI (c.toNat % 16)]
def zU (k:Int):List UInt8 :=
 if k=1 then [112,114,111,109,105,115,101] else if k=2 then [115,105,103,110] else if k=3 then [97,98,111,114,116] else if k=4 then [114,101,115,111,108,118,101]
 else if k=5 then [116,111,107,101,110] else if k=6 then [105,110,115,116,101,97,100] else if k=7 then [102,117,108,108] else []
def yU (x:ByteArray):List UInt8:=34 :: (x.data.toList.flatMap escB++[34])
def xL (l:Letter):List UInt8 :=
 if zS l≠0 then [] else
 zU l.kind++(if l.fake=true then [33] else [])++(if isSigned l.kind=true then 32 :: Lib.decDigits l.frm.toNat else [])++(32 :: Lib.decDigits l.c.toNat)++(if isTexted l.kind=true then 32 :: yU l.text else [])
theorem jKH (c:UInt8):(escB c).length≤4:=by
 unfold escB;repeat' split
 all_goals simp
theorem jIX:∀l:List UInt8,(l.flatMap escB).length≤4*l.length
 | []=>by simp
 | c :: l=>by
  have:=jKH c;have:=jIX l;rw [List.flatMap_cons,List.length_append,List.length_cons];omega
theorem jBT (k:Int):(zU k).length≤7:=by
 unfold zU;repeat' split
 all_goals simp
end Go.Sp
end
section
open Go Go.SE
namespace Go.Sp
open Go.Proofs
def qEsc (c:UInt8):List UInt8:=if c.toNat=34∨c.toNat=92 then [92,c] else if c.toNat<32∨126<c.toNat then [92,120,jMI (c.toNat / 16),jMI (c.toNat % 16)] else [c]
def quoT (x:List UInt8):List UInt8:=34 :: (x.flatMap qEsc++[34])
def jTE (n:Int):Nat:=(IntKind.u64.wrap n).toNat
def headT (k f t u:Int) (x:ByteArray):List UInt8 :=
 if k=1 then 110 :: Lib.decDigits (jTE f) else if k=2 then 35 :: Lib.decDigits u.toNat else if k=6 then 107 :: Lib.decDigits (jTE f) else if k=3 then quoT x.data.toList
 else if k=4 then [] else if k=5 then [104] else if k=7 then 115 :: Lib.decDigits (jTE f) else if k=8 then 112 :: Lib.decDigits (jTE f)++62 :: Lib.decDigits (jTE t) else if k=9 then 102 :: Lib.decDigits (jTE f)++62 :: Lib.decDigits (jTE t) else []
mutual
def shw:Tree→List UInt8
 | .mk k f t u x ks=>headT k f t u x++shwK ks
def shwK:List Tree→List UInt8
 | []=>[]
 | t :: ts=>40 :: (shw t++shwR ts)
def shwR:List Tree→List UInt8
 | []=>[41]
 | t :: _=>32 :: (shw t++[41])
end
end Go.Sp
end
section
open Go Go.SE
open Go.IntKind renaming i64 → q6
namespace Go.Proofs
open Tryz
set_option maxRecDepth 100000
set_option maxHeartbeats 4000000
attribute [local irreducible] wpL wpX opE wpE Calls
def m_B2  (w0:World) (K:(Array Value)→WP):Prop :=∀p1 w1,New w0 (.cells #[(vb false),(vb false),(vb false),ve,(vb false),(vb false),(vb false),ve,(vb false),(vb false),(vb false),ve,(vb false),(vb false),(vb false),ve,(vb false),(vb false),(vb false),ve,(vb false),(vb false),(vb false),ve,(vb false),(vb false),(vb false),ve,(vb false),(vb false),(vb false),ve] 77) p1 w1→(∀j,j<32→jT w1 (p1.add j))∧∀w2,w2=storeRow w1 p1 [(vb false),(vb false),(vb false),ve,(vb true),(vb true),(vb true),(vs (⟨#[112,114,111,109,105,115,101]⟩:ByteArray)),(vb true),(vb true),(vb false),(vs (⟨#[115,105,103,110]⟩:ByteArray)),(vb false),(vb false),(vb false),(vs (⟨#[97,98,111,114,116]⟩:ByteArray)),(vb true),(vb true),(vb true),(vs (⟨#[114,101,115,111,108,118,101]⟩:ByteArray)),(vb false),(vb false),(vb false),(vs (⟨#[116,111,107,101,110]⟩:ByteArray)),(vb false),(vb true),(vb false),(vs (⟨#[105,110,115,116,101,97,100]⟩:ByteArray)),(vb false),(vb false),(vb false),(vs (⟨#[102,117,108,108]⟩:ByteArray))]→∃cT:Array Value,(cT.size=32∧Row w2 p1 cT.toList)∧K cT w2
theorem w_B2  (w0:World) (K:(Array Value)→WP) (h:m_B2  w0 K) :
  Calls prog 26 #[] w0 (fun e w'=>∃r1:Array Value,e=.returned (.agg r1)∧K r1 w'):=by
 refine cw (args:=[]) func26 ntmps26 (eg (sn (O:=(.cells #[(vb false),(vb false),(vb false),ve,(vb false),(vb false),(vb false),ve,(vb false),(vb false),(vb false),ve,(vb false),(vb false),(vb false),ve,(vb false),(vb false),(vb false),ve,(vb false),(vb false),(vb false),ve,(vb false),(vb false),(vb false),ve,(vb false),(vb false),(vb false),ve] 77)) (jG (zeroValue77 _) rfl) ?_))
 intro p1 w1 hn2
 have h:=h p1 w1 hn2
 refine ln (eg (qd (qd (sro (sizeOf77 _) h fun w2 h=>ln (er ?_)))))
 obtain ⟨cT,hv1,h⟩:=h
 refine gg1 results26 (RV.cellAr (A:=p1) (vs:=cT) (by kernel_rfl) (isAgg77 _) (sizeOf77 _) hv1) ⟨cT,rfl,h⟩
def m_L_j3 (aC:ByteArray) (aD:Bool) (a1:Addr) (x2:Bool) (w0:World) (H:NP) (w:World) (K:Int→WP):Prop :=Br x2 (K 110 w) (∃v1,w.cell? (a1.add 2)=some (vb v1)∧Br ((!v1) && aD) (∀H6 w6,Hst w0 H w H6 w6→K 110 w6) (Br (decide ((aC.size:Int)>64)) (∀H6 w6,Hst w0 H w H6 w6→K 1 w6) (∀H6 w6,Hst w0 H w H6 w6→K 0 w6)))
def m_L_j2 (aC:ByteArray) (aD:Bool) (a1:Addr) (x1:Bool) (w0:World) (H:NP) (w:World) (K:Int→WP):Prop :=Br x1 (K 110 w) (∃v2,w.cell? (a1.add 1)=some (vb v2)∧∀H7 w7,Hst w0 H w H7 w7→m_L_j3 aC aD a1 ((!v2) && (!(decide (aC=⟨#[]⟩)))) w0 H7 w7 K)
def m_L_j1 (aB:Int) (aC:ByteArray) (aD:Bool) (a1:Addr) (w0:World) (H:NP) (w:World) (K:Int→WP):Prop :=Br ((aB != 0) && (aB != 1)) (∀H4 w4,Hst w0 H w H4 w4→K 110 w4) (∀H4 w4,Hst w0 H w H4 w4→∃v3,w4.cell? a1=some (vb v3)∧∀H8 w8,Hst w0 H4 w4 H8 w8→m_L_j2 aC aD a1 ((!v3) && (aB != 0)) w0 H8 w8 K)
def m_L (aA aB aE:Int) (aC:ByteArray) (aD:Bool) (w0:World) (K:Int→WP):Prop :=Br ((decide (aA<1)) || (decide (aA>7))) (∀H2 w2,Hst w0 None w0 H2 w2→K 110 w2) (∀H2 w2,Hst w0 None w0 H2 w2→∃C1:WP,C1 w2.drew∧∀w9,w9=w2.drew→(Calls prog 26 #[] w9 (fun e w10=>∃r1:Array Value,e=.returned (.agg r1)∧C1 w10∧Kept H2 w9 w10∧∃efrom1 etext1 efake1 eword1,(∀w',C1 w'→(Instr.index 77 (.agg r1) (vi aA)).run prog w'=.ok (.agg #[(vb efrom1),(vb etext1),(vb efake1),(vs eword1)]) w')∧∀p2 w11,New w10 (.cells #[(vb false),(vb false),(vb false),ve] 76) p2 w11→C1 w11∧(∀j,j<4→jT w11 (p2.add j))∧¬ H2 p2.block∧∀w12,w12=storeRow w11 p2 (Ak efrom1 etext1 efake1 eword1)→m_L_j1 aB aC aD p2 w0 H2 w12 K))∧(∀p3 w13,New w9 (.cells #[(vb false),(vb false),(vb false),ve] 76) p3 w13→C1 w13∧Calls prog 26 #[] w13 (fun e w14=>∃r2:Array Value,e=.returned (.agg r2)∧C1 w14∧Kept H2 w13 w14∧∃efrom2 etext2 efake2 eword2,(∀w',C1 w'→(Instr.index 77 (.agg r2) (vi aA)).run prog w'=.ok (.agg #[(vb efrom2),(vb etext2),(vb efake2),(vs eword2)]) w')∧(∀j,j<4→jT w14 (p3.add j))∧¬ H2 p3.block∧∀w15,w15=storeRow w14 p3 (Ak efrom2 etext2 efake2 eword2)→m_L_j1 aB aC aD p3 w0 H2 w15 K)))
theorem w_L (aA aB aE aC aD w0 K) (h:m_L aA aB aE aC aD w0 K):
  Calls prog 15 #[(.agg #[(vi aA),(vi aB),(vu aE),(vs aC),(vb aD)])] w0 (fun e w'=>∃r3,e=.returned (vi r3)∧K r3 w'):=by
 refine cw (args:=[(Ac aA aB aE aC aD)]) func15 ntmps15 ?_
 obtain ⟨hs,hb⟩:=st0 w0
 refine eg (nw3 (Aa aA aB aE aC aD) 24 hs hb xb fun p1 w1 H1 hs hb=>q (ln (jA (jA (vJ (fun ρ wJ=>∃b1'0:Bool,∃HJ:NP,((decide (aA<1))=b1'0)∧Hst w0 None w0 HJ wJ∧HB HJ wJ [(p1,(Aa aA aB aE aC aD),24)]∧Has ρ [(1,(vp (some p1))),(11,(vb (b1'0 || (decide (aA>7)))))]) ?_ ?_)))))
 refine rg (q (q3 (xl (isAgg3 _) (hb.d0 0 gZ)) (qb ?_)))
 rcases bte (decide (aA<1)) with hg2 | hg2
 refine sj3 7 hg2 (q2 (vb true) (xT hg2) (ln ⟨true,_,hg2,hs,hb,hm⟩))
 refine qk 7 hg2 (q4 7 hg2 (xl (isAgg3 _) (hb.d0 0 gZ)) (qk 7 hg2 (q2 (vb (decide (aA>7))) (xF hg2) (ln ⟨false,_,hg2,hs,hb,hm⟩))))
 rintro ρ w2 ⟨b1'0,H2,he0,hs,hb,hH⟩
 subst he0
 refine kM hH (jN (cbr h ?_ ?_))<;>intro h
 refine eg (q (ln (er (zM ?_))))
 have ⟨h,hs⟩:=hs.hr (h H2 w2)
 refine rs1 results15 ⟨110,rfl,h⟩
 refine jB (jN (jA (zC (fun ρ w=>∃a1:Addr,∃H:NP,Has ρ [(1,(vp (some p1))),(3,(vp (some a1)))]∧Hst w0 H w H w∧HB H w [(p1,(Aa aA aB aE aC aD),24)]∧m_L_j1 aB aC aD a1 w0 H w K) ?_ ?_)))
 rintro ρ w ⟨a1,H,hH,hs,hb,h⟩
 refine jQ hH (jA (jM (jA (jA (vJ (fun ρ wJ=>∃HJ:NP,Hst w0 H w HJ wJ∧HB HJ wJ [(p1,(Aa aA aB aE aC aD),24)]∧Has ρ [(1,(vp (some p1))),(3,(vp (some a1))),(16,(vb ((aB != 0) && (aB != 1))))]) ?_ ?_)))))
 refine rg (q (q3 (xl (isAgg3 _) (hb.d 0 1 gZ)) (qb (jU 4 (fun ρ wJ=>∃b4'0:Bool,∃HJ:NP,((aB != 0)=b4'0)∧Hst w0 H w HJ wJ∧HB HJ wJ [(p1,(Aa aA aB aE aC aD),24)]∧Has ρ [(1,(vp (some p1))),(3,(vp (some a1))),(24,(vb (b4'0 && (aB != 1))))]) ?_ ?_))))
 rintro ρ w5 ⟨b4'0,H5,he0,hs,hb,hH⟩
 subst he0
 refine zB hH (q (ln ⟨_,hs,hb,hm⟩))
 rcases bte (aB != 0) with hg6 | hg6
 refine qk 20 hg6 (q4 20 hg6 (xl (isAgg3 _) (hb.d 0 1 gZ)) (qk 20 hg6 (q2 (vb (aB != 1)) (xT hg6) (jC ⟨true,_,hg6,hs,hb,hm⟩))))
 refine sj3 20 hg6 (q2 (vb false) (xF hg6) (jC ⟨false,_,hg6,hs,hb,hm⟩))
 rintro ρ w4 ⟨H4,hs,hb,hH⟩
 refine kM hH (jN (cbr' h (fun hc2 h=>?_) (fun hc2 h=>?_)))
 refine jB (jN (lD (t:=((aB != 0) && (aB != 1))) (by kernel_rfl) hc2 (eg (q0 (vi 110) (ln (er (qJ (zM ?_))))))))
 have ⟨h,hs⟩:=hs.hr (h H4 w4)
 refine rs1 results15 ⟨110,rfl,h⟩
 refine jA (zC (fun ρ w=>∃x1,∃H:NP,Has ρ [(1,(vp (some p1))),(3,(vp (some a1))),(16,(vb x1))]∧Hst w0 H w H w∧HB H w [(p1,(Aa aA aB aE aC aD),24)]∧m_L_j2 aC aD a1 x1 w0 H w K) ?_ ?_)
 rintro ρ w ⟨x1,H,hH,hs,hb,h⟩
 refine jQ hH (cbr' h (fun hc3 h=>?_) (fun hc3 h=>?_))
 refine jB (jN (lD (t:=x1) (by kernel_rfl) hc3 (eg (q0 (vi 110) (ln (er (qJ (zM (rs1 results15 ⟨110,rfl,h⟩)))))))))
 refine jA (zC (fun ρ w=>∃x2,∃H:NP,Has ρ [(1,(vp (some p1))),(3,(vp (some a1))),(16,(vb x2))]∧Hst w0 H w H w∧HB H w [(p1,(Aa aA aB aE aC aD),24)]∧m_L_j3 aC aD a1 x2 w0 H w K) ?_ ?_)
 rintro ρ w ⟨x2,H,hH,hs,hb,h⟩
 refine jQ hH (cbr' h (fun hc4 h=>?_) (fun hc4 h=>?_))
 refine jB (jN (lD (t:=x2) (by kernel_rfl) hc4 (eg (q0 (vi 110) (ln (er (qJ (zM (rs1 results15 ⟨110,rfl,h⟩)))))))))
 refine rg (q (ql (isAgg4 _) h fun v1 h=>qb (jU 3 (fun ρ wJ=>∃b5'0:Bool,∃HJ:NP,((!v1)=b5'0)∧Hst w0 H w HJ wJ∧HB HJ wJ [(p1,(Aa aA aB aE aC aD),24)]∧Has ρ [(1,(vp (some p1))),(47,(vb (b5'0 && aD)))]) ?_ ?_)))
 rintro ρ w6 ⟨b5'0,H6,he0,hs,hb,hH⟩
 subst he0
 refine zB hH (q (ln (cbr h ?_ ?_)))<;>intro h
 refine eg (q (ln (er (qJ (zM ?_)))))
 have ⟨h,hs⟩:=hs.hr (h H6 w6)
 refine rs1 results15 ⟨110,rfl,h⟩
 refine eg (q (q3 (xl (isAgg9 _) (hb.d 0 3 gZ)) (qc (ln (cbr h ?_ ?_)))))<;>intro h
 refine eg (q (ln (er (qJ (zM ?_)))))
 have ⟨h,hs⟩:=hs.hr (h H6 w6)
 refine rs1 results15 ⟨1,rfl,h⟩
 refine jB (uS (jN (eg (q (ln (er ?_))))))
 have ⟨h,hs⟩:=hs.hr (h H6 w6)
 refine rs1 results15 ⟨0,rfl,h⟩
 rcases bte (!v1) with hg8 | hg8
 refine qk 44 hg8 (q4 44 hg8 (xl (isAgg4 _) (hb.d 0 4 gZ)) (q2 (vb aD) (xT hg8) (jC ⟨true,_,hg8,hs,hb,hm⟩)))
 refine sj2 44 hg8 (q2 (vb false) (xF hg8) (jC ⟨false,_,hg8,hs,hb,hm⟩))
 refine rg (q (ql (isAgg4 _) h fun v2 h=>qb (jU 4 (fun ρ wJ=>∃b6'0:Bool,∃HJ:NP,((!v2)=b6'0)∧Hst w0 H w HJ wJ∧HB HJ wJ [(p1,(Aa aA aB aE aC aD),24)]∧Has ρ [(1,(vp (some p1))),(3,(vp (some a1))),(40,(vb (b6'0 && (!(decide (aC=⟨#[]⟩))))))]) ?_ ?_)))
 rintro ρ w7 ⟨b6'0,H7,he0,hs,hb,hH⟩
 subst he0
 refine zB hH (q (jC ?_))
 have ⟨h,hs⟩:=hs.hr (h H7 w7)
 refine jN ⟨((!v2) && (!(decide (aC=⟨#[]⟩)))),H7,hm,hs,hb,h⟩
 rcases bte (!v2) with hg10 | hg10
 refine qk 36 hg10 (q4 36 hg10 (xl (isAgg9 _) (hb.d 0 3 gZ)) (stq (v:=(vb (!(decide (aC=⟨#[]⟩))))) (wy 36 hg10) (yX (by kernel_rfl) (by kernel_rfl)) (q2 (vb (!(decide (aC=⟨#[]⟩)))) (xT hg10) (jC ⟨true,_,hg10,hs,hb,hm⟩))))
 refine sj3 36 hg10 (q2 (vb false) (xF hg10) (jC ⟨false,_,hg10,hs,hb,hm⟩))
 refine rg (q ?_)
 have ⟨h,hs⟩:=hs.hr (h H4 w4)
 refine ql (isAgg4 _) h fun v3 h=>qb (jU 4 (fun ρ wJ=>∃b7'0:Bool,∃HJ:NP,((!v3)=b7'0)∧Hst w0 H4 w4 HJ wJ∧HB HJ wJ [(p1,(Aa aA aB aE aC aD),24)]∧Has ρ [(1,(vp (some p1))),(3,(vp (some a1))),(32,(vb (b7'0 && (aB != 0))))]) ?_ ?_)
 rintro ρ w8 ⟨b7'0,H8,he0,hs,hb,hH⟩
 subst he0
 refine zB hH (q (jC ?_))
 have ⟨h,hs⟩:=hs.hr (h H8 w8)
 refine jN ⟨((!v3) && (aB != 0)),H8,hm,hs,hb,h⟩
 rcases bte (!v3) with hg12 | hg12
 refine qk 28 hg12 (q4 28 hg12 (xl (isAgg3 _) (hb.d 0 1 gZ)) (qk 28 hg12 (q2 (vb (aB != 0)) (xT hg12) (jC ⟨true,_,hg12,hs,hb,hm⟩))))
 refine sj3 28 hg12 (q2 (vb false) (xF hg12) (jC ⟨false,_,hg12,hs,hb,hm⟩))
 have ⟨h,hs⟩:=hs.hr (h H2 w2)
 obtain ⟨C1,hC,h⟩:=h
 refine dr2 (fun x=>C1 x∧HB H2 x _) [0,4,5] [5] ⟨hC,hb.drew⟩ h hs hb fun w9 hs hb h=>?_
 have hs:=hs.here
 refine qx 1 (vp (some p1)) Kp1 (qz 2 (vi aA) Kp2 (fun w' hw'=>(xl (isAgg3 _) (hw'.2.cell0 0 gZ (by kernel_rfl)))) (jPT (k:=0) (k':=4) (by kernel_rfl) ?_ ?_))
 have h:=h.1
 refine slc Kp0 call26 (h.mono ?_)
 rintro e w10 ⟨r1,rfl,hC,hk,h⟩
 refine ⟨_,rfl,.inr ⟨hC,hb.kept hk⟩,?_⟩
 obtain ⟨hs,hb⟩:=hk.hh hs hb
 refine qg 3 ?_
 obtain ⟨efrom1,etext1,efake1,eword1,hv4,h⟩:=h
 refine sy (v:=(.agg #[(vb efrom1),(vb etext1),(vb efake1),(vs eword1)])) Kp3 (fun w' hw'=>(vX (by kernel_rfl) (by kernel_rfl) (hv4 w' hw'.1))) (lg 4 (kT (O:=(.cells #[(vb false),(vb false),(vb false),ve] 76)) (fun p=>.pointer (some p)) Kp4 (jK rfl) (by kernel_rfl) (jG (zeroValue76 _) rfl) ?_))
 intro p2 w11 hn3
 have h:=h p2 w11 hn3
 refine ⟨.inr ⟨h.1,hb.kept (Ext.new (F:=None) hn3).keptP⟩,?_⟩
 have h:=h.2
 obtain ⟨hs,hb⟩:=hs.nw hb hn3
 refine lg 5 ?_
 obtain ⟨hp1,hnh,h⟩:=h
 refine yZ Kp5 (jK rfl) (by kernel_rfl) (xo p2 (Ak efrom1 etext1 efake1 eword1) (sizeOf76 _) hp1) ?_
 intro w12 hn2
 have h:=h w12 hn2
 refine ⟨.inl (by kernel_rfl),?_⟩
 have hk:Kept H2 w11 w12:=by rw [hn2];exact Kept.storeRow hnh
 obtain ⟨hs,hb⟩:=hk.hh hs hb
 refine wn (jN ⟨p2,H2,hm,hs,hb,h⟩)
 have h:=h.2
 refine kT (O:=(.cells #[(vb false),(vb false),(vb false),ve] 76)) (fun p=>.pointer (some p)) Kp4 (jK rfl) (by kernel_rfl) (jG (zeroValue76 _) rfl) ?_
 intro p3 w13 hn5
 have h:=h p3 w13 hn5
 refine ⟨.inr ⟨h.1,hb.kept (Ext.new (F:=None) hn5).keptP⟩,?_⟩
 have h:=h.2
 obtain ⟨hs,hb⟩:=hs.nw hb hn5
 refine lg 0 (slc Kp0 call26 (h.mono ?_))
 rintro e w14 ⟨r2,rfl,hC,hk,h⟩
 refine ⟨_,rfl,.inr ⟨hC,hb.kept hk⟩,?_⟩
 obtain ⟨hs,hb⟩:=hk.hh hs hb
 refine qg 3 ?_
 obtain ⟨efrom2,etext2,efake2,eword2,hv5,h⟩:=h
 refine sy (v:=(.agg #[(vb efrom2),(vb etext2),(vb efake2),(vs eword2)])) Kp3 (fun w' hw'=>(vX (by kernel_rfl) (by kernel_rfl) (hv5 w' hw'.1))) (lg 5 ?_)
 obtain ⟨hp2,hnh,h⟩:=h
 refine yZ Kp5 (jK rfl) (by kernel_rfl) (xo p3 (Ak efrom2 etext2 efake2 eword2) (sizeOf76 _) hp2) ?_
 intro w15 hn4
 have h:=h w15 hn4
 refine ⟨.inl (by kernel_rfl),?_⟩
 have hk:Kept H2 w14 w15:=by rw [hn4];exact Kept.storeRow hnh
 obtain ⟨hs,hb⟩:=hk.hh hs hb
 refine wn (jN ⟨p3,H2,hm,hs,hb,h⟩)
def s_S (s1:ByteArray):Int×Int×Int×Int×ByteArray×Sl :=(3,0,0,0,s1,Sl.nil)
theorem pw_S (s1:ByteArray) (w0:World) :
  Calls prog 45 #[(vs s1)] w0 (fun e w'=>(e=.returned (.agg #[(vi 3),(vi 0),(vi 0),(vu 0),(vs s1),Sl.nil.v]))∧Pure w0 w'):=by
 refine cw (args:=[(vs s1)]) func45 ntmps45 ?_
 obtain ⟨hs,hb⟩:=st0 w0
 refine eg (nw3 [(vi 0),(vi 0),(vi 0),(vu 0),ve,Sl.nil.v] 53 hs hb (jG (zeroValue53 _) rfl) fun p1 w1 H1 hs hb=>ln (eg (qb (qG (jK rfl) (xo p1 [(vi 3),(vi 0),(vi 0),(vu 0),(vs s1),Sl.nil.v] (sizeOf53 _) (hb.k0 0 6 gZ)) ?_))))
 intro w2 hn2
 obtain ⟨hs,hb⟩:=hb.st1 0 hs hn2 gZ
 refine ln (er (jEM (.inl rfl) (vs:=[(.agg #[(vi 3),(vi 0),(vi 0),(vu 0),(vs s1),Sl.nil.v])]) (v:=(.agg #[(vi 3),(vi 0),(vi 0),(vu 0),(vs s1),Sl.nil.v])) results45 ⟨(rva (isAgg53 _) (sizeOf53 _) (hb.r0 0 6 gZ)),trivial⟩ (by kernel_rfl) ⟨by kernel_rfl,(Ext.refl (F:=None) _).hst hs⟩))
theorem p_S (s1:ByteArray) (w0:World):Calls prog 45 #[(.string s1)] w0 (fun e w'=>e=.returned (.agg #[(.int .i64 (s_S s1).1),(.int .i64 (s_S s1).2.1),(.int .i64 (s_S s1).2.2.1),(.int .u64 (s_S s1).2.2.2.1),(.string (s_S s1).2.2.2.2.1),(s_S s1).2.2.2.2.2.v])∧Pure w0 w'):=pw_S s1 w0
def s_W (n1:Int):Int×Int×Int×Int×ByteArray×Sl :=(2,0,0,n1,⟨#[]⟩,Sl.nil)
theorem pw_W (n1:Int) (w0:World) :
  Calls prog 46 #[(vu n1)] w0 (fun e w'=>(e=.returned (.agg #[(vi 2),(vi 0),(vi 0),(vu n1),ve,Sl.nil.v]))∧Pure w0 w'):=by
 refine cw (args:=[(vu n1)]) func46 ntmps46 ?_
 obtain ⟨hs,hb⟩:=st0 w0
 refine eg (nw3 [(vi 0),(vi 0),(vi 0),(vu 0),ve,Sl.nil.v] 53 hs hb (jG (zeroValue53 _) rfl) fun p1 w1 H1 hs hb=>ln (eg (qb (qG (jK rfl) (xo p1 [(vi 2),(vi 0),(vi 0),(vu n1),ve,Sl.nil.v] (sizeOf53 _) (hb.k0 0 6 gZ)) ?_))))
 intro w2 hn2
 obtain ⟨hs,hb⟩:=hb.st1 0 hs hn2 gZ
 refine ln (er (jEM (.inl rfl) (vs:=[(.agg #[(vi 2),(vi 0),(vi 0),(vu n1),ve,Sl.nil.v])]) (v:=(.agg #[(vi 2),(vi 0),(vi 0),(vu n1),ve,Sl.nil.v])) results46 ⟨(rva (isAgg53 _) (sizeOf53 _) (hb.r0 0 6 gZ)),trivial⟩ (by kernel_rfl) ⟨by kernel_rfl,(Ext.refl (F:=None) _).hst hs⟩))
theorem p_W (n1:Int) (w0:World):Calls prog 46 #[(.int .u64 n1)] w0 (fun e w'=>e=.returned (.agg #[(.int .i64 (s_W n1).1),(.int .i64 (s_W n1).2.1),(.int .i64 (s_W n1).2.2.1),(.int .u64 (s_W n1).2.2.2.1),(.string (s_W n1).2.2.2.2.1),(s_W n1).2.2.2.2.2.v])∧Pure w0 w'):=pw_W n1 w0
def m_C2 (aL aM:Int) (aN aO:Int) (aP:ByteArray) (aQ:Sl) (bJ bK:Int) (bL bM:Int) (bN:ByteArray) (bO:Sl) (w0:World) (K:Int→Int→Int→Int→ByteArray→Sl→WP):Prop :=∀H3 w3,Hst w0 None w0 H3 w3→∀p4 w4,New w3 (.cells #[(vi aL),(vi aM),(vi aN),(vu aO),(vs aP),aQ.v,(vi bJ),(vi bK),(vi bL),(vu bM),(vs bN),bO.v] 53) p4 w4→∀w5,Hst w0 H3 w4 H3 w5→K 4 0 0 0 ⟨#[]⟩ (Sl.mk (some p4) 2 2) w5
theorem w_C2 (aL aM aN aO aP aQ bJ bK bL bM bN bO w0 K) (h:m_C2 aL aM aN aO aP aQ bJ bK bL bM bN bO w0 K):
  Calls prog 44 #[(.agg #[(vi aL),(vi aM),(vi aN),(vu aO),(vs aP),aQ.v]),(.agg #[(vi bJ),(vi bK),(vi bL),(vu bM),(vs bN),bO.v])] w0 (fun e w'=>∃aF aG aH aI aJ aK,e=.returned (Ab aF aG aH aI aJ aK)∧K aF aG aH aI aJ aK w'):=by
 refine cw (args:=[(Ab aL aM aN aO aP aQ),(Ab bJ bK bL bM bN bO)]) func44 ntmps44 ?_
 obtain ⟨hs,hb⟩:=st0 w0
 refine eg (nw3 (Af aL aM aN aO aP aQ) 53 hs hb xb fun p1 w1 H1 hs hb=>nw3 (Af bJ bK bL bM bN bO) 53 hs hb xb fun p2 w2 H2 hs hb=>nw3 [(vi 0),(vi 0),(vi 0),(vu 0),ve,Sl.nil.v] 53 hs hb (jG (zeroValue53 _) rfl) fun p3 w3 H3 hs hb=>ln (eg (q2 (Ab aL aM aN aO aP aQ) (xa p1 (Af aL aM aN aO aP aQ) (isAgg53 _) (sizeOf53 _) (hb.r0 2 6 (gS (gS gZ)))) (q2 (Ab bJ bK bL bM bN bO) (xa p2 (Af bJ bK bL bM bN bO) (isAgg53 _) (sizeOf53 _) (hb.r0 1 6 (gS gZ))) ?_))))
 have ⟨h,hs⟩:=hs.hr (h H3 w3)
 refine nw5 (fun p=>(Sl.mk (some p) 2 2).v) hs hb h fun p4 w4 hs hb h=>q (qG (jK rfl) (xo p3 [(vi 4),(vi 0),(vi 0),(vu 0),ve,(Sl.mk (some p4) 2 2).v] (sizeOf53 _) (hb.k0 0 6 gZ)) ?_)
 intro w5 hn4
 obtain ⟨hs,hb⟩:=hb.st1 0 hs hn4 gZ
 refine ln (er ?_)
 have ⟨h,hs⟩:=hs.hr (h w5)
 refine jEM (.inl rfl) (vs:=[(.agg #[(vi 4),(vi 0),(vi 0),(vu 0),ve,(Sl.mk (some p4) 2 2).v])]) (v:=(.agg #[(vi 4),(vi 0),(vi 0),(vu 0),ve,(Sl.mk (some p4) 2 2).v])) results44 ⟨(rva (isAgg53 _) (sizeOf53 _) (hb.r0 0 6 gZ)),trivial⟩ (by kernel_rfl) ⟨4,0,0,0,⟨#[]⟩,(Sl.mk (some p4) 2 2),rfl,h⟩
def m_D2 (c1:Int) (text1:ByteArray) (w0:World) (K:Int→Int→Int→Int→ByteArray→Sl→WP):Prop :=∀H1 w4,Hst w0 None w0 H1 w4→Calls prog 44 #[(.agg #[(vi 2),(vi 0),(vi 0),(vu c1),ve,Sl.nil.v]),(.agg #[(vi 3),(vi 0),(vi 0),(vu 0),(vs text1),Sl.nil.v])] w4 (fun e w5=>∃aF aG aH aI aJ aK,e=.returned (Ab aF aG aH aI aJ aK)∧Kept H1 w4 w5∧Calls prog 44 #[(.agg #[(vi 3),(vi 0),(vi 0),(vu 0),(vs (⟨#[100,101,97,108]⟩:ByteArray)),Sl.nil.v]),(.agg #[(vi aF),(vi aG),(vi aH),(vu aI),(vs aJ),aK.v])] w5 (fun e w6=>∃aR aS aT aU aV aW,e=.returned (Ab aR aS aT aU aV aW)∧Kept H1 w5 w6∧∀w7,Hst w0 H1 w6 H1 w7→K aR aS aT aU aV aW w7))
theorem w_D2 (c1 text1 w0 K) (h:m_D2 c1 text1 w0 K):
  Calls prog 41 #[(vu c1),(vs text1)] w0 (fun e w'=>∃aX aY aZ bA bB bC,e=.returned (Ab aX aY aZ bA bB bC)∧K aX aY aZ bA bB bC w'):=by
 refine cw (args:=[(vu c1),(vs text1)]) func41 ntmps41 ?_
 obtain ⟨hs,hb⟩:=st0 w0
 refine eg (nw3 [(vi 0),(vi 0),(vi 0),(vu 0),ve,Sl.nil.v] 53 hs hb (jG (zeroValue53 _) rfl) fun p1 w1 H1 hs hb=>ln (eg (sc call45 ((p_S (⟨#[100,101,97,108]⟩:ByteArray) w1).mono ?_))))
 rintro e w2 ⟨he,hE⟩
 refine ⟨_,he,?_⟩
 obtain ⟨hs,hb⟩:=hs.pp hb hE
 refine q (sc call46 ((p_W c1 w2).mono ?_))
 rintro e w3 ⟨he,hE⟩
 refine ⟨_,he,?_⟩
 obtain ⟨hs,hb⟩:=hs.pp hb hE
 refine q (sc call45 ((p_S text1 w3).mono ?_))
 rintro e w4 ⟨he,hE⟩
 refine ⟨_,he,?_⟩
 obtain ⟨hs,hb⟩:=hs.pp hb hE
 have ⟨h,hs⟩:=hs.hr (h H1 w4)
 refine sc call44 (h.mono fun e w5 ⟨aF,aG,aH,aI,aJ,aK,k,hk,h⟩=>have ⟨hs,hb⟩:=hk.hh hs hb;⟨_,k,?_⟩)
 refine sc call44 (h.mono fun e w6 ⟨aR,aS,aT,aU,aV,aW,k,hk,h⟩=>have ⟨hs,hb⟩:=hk.hh hs hb;⟨_,k,?_⟩)
 refine sbx 0 (Af aR aS aT aU aV aW) (sizeOf53 _) hs hb gZ fun w7 hs hb=>ln (er ?_)
 have ⟨h,hs⟩:=hs.hr (h w7)
 refine jEM (.inl rfl) (vs:=[(Ab aR aS aT aU aV aW)]) (v:=(Ab aR aS aT aU aV aW)) results41 ⟨(rva (isAgg53 _) (sizeOf53 _) (hb.r0 0 6 gZ)),trivial⟩ (by kernel_rfl) ⟨aR,aS,aT,aU,aV,aW,rfl,h⟩
def m_E2 (from1:Int) (fake1:Bool) (bD bE:Int) (bF bG:Int) (bH:ByteArray) (bI:Sl) (w0:World) (K:Int→Int→Int→Int→ByteArray→Sl→WP):Prop :=∀H3 w3,Hst w0 None w0 H3 w3→∀p3 w4,New w3 (.cells #[(vi bD),(vi bE),(vi bF),(vu bG),(vs bH),bI.v] 53) p3 w4→∀w5,Hst w0 H3 w4 H3 w5→K (cond fake1 9 8) from1 (q6.wrap (1 - from1)) 0 ⟨#[]⟩ (Sl.mk (some p3) 1 1) w5
theorem w_E2 (from1 fake1 bD bE bF bG bH bI w0 K) (h:m_E2 from1 fake1 bD bE bF bG bH bI w0 K):
  Calls prog 42 #[(vi from1),(vb fake1),(.agg #[(vi bD),(vi bE),(vi bF),(vu bG),(vs bH),bI.v])] w0 (fun e w'=>∃aF aG aH aI aJ aK,e=.returned (Ab aF aG aH aI aJ aK)∧K aF aG aH aI aJ aK w'):=by
 refine cw (args:=[(vi from1),(vb fake1),(Ab bD bE bF bG bH bI)]) func42 ntmps42 ?_
 obtain ⟨hs,hb⟩:=st0 w0
 refine eg (nw3 (Af bD bE bF bG bH bI) 53 hs hb xb fun p1 w1 H1 hs hb=>nw3 [(vi 0),(vi 0),(vi 0),(vu 0),ve,Sl.nil.v] 53 hs hb (jG (zeroValue53 _) rfl) fun p2 w2 H2 hs hb=>ln (eg (q (ln (jA (eg (q (jC (jN (vJ (fun ρ wJ=>∃b1'0:Bool,∃HJ:NP,(fake1=b1'0)∧Hst w0 None w0 HJ wJ∧HB HJ wJ [(p2,[(vi 0),(vi 0),(vi 0),(vu 0),ve,Sl.nil.v],53),(p1,(Af bD bE bF bG bH bI),53)]∧Has ρ [(0,(vi from1)),(5,(vp (some p1))),(6,(vp (some p2))),(7,(vi (cond b1'0 9 8)))]) ?_ ?_))))))))))
 refine vM (t:=fake1) (by kernel_rfl) (fun hc2=>?_) (fun hc2=>?_)
 refine rg (q (ln ⟨true,_,hc2,hs,hb,hm⟩))
 refine jB (jN ⟨false,_,hc2,hs,hb,hm⟩)
 rintro ρ w3 ⟨b1'0,H3,he0,hs,hb,hH⟩
 subst he0
 refine kM hH (jN (eg (qd (q2 (Ab bD bE bF bG bH bI) (xa p1 (Af bD bE bF bG bH bI) (isAgg53 _) (sizeOf53 _) (hb.r0 1 6 (gS gZ))) ?_))))
 have ⟨h,hs⟩:=hs.hr (h H3 w3)
 refine nw5 (fun p=>(Sl.mk (some p) 1 1).v) hs hb h fun p3 w4 hs hb h=>q (qG (jK rfl) (xo p2 [(vi (cond fake1 9 8)),(vi from1),(vi (q6.wrap (1 - from1))),(vu 0),ve,(Sl.mk (some p3) 1 1).v] (sizeOf53 _) (hb.k0 0 6 gZ)) ?_)
 intro w5 hn3
 obtain ⟨hs,hb⟩:=hb.st1 0 hs hn3 gZ
 refine ln (er ?_)
 have ⟨h,hs⟩:=hs.hr (h w5)
 refine jEM (.inl rfl) (vs:=[(.agg #[(vi (cond fake1 9 8)),(vi from1),(vi (q6.wrap (1 - from1))),(vu 0),ve,(Sl.mk (some p3) 1 1).v])]) (v:=(.agg #[(vi (cond fake1 9 8)),(vi from1),(vi (q6.wrap (1 - from1))),(vu 0),ve,(Sl.mk (some p3) 1 1).v])) results42 ⟨(rva (isAgg53 _) (sizeOf53 _) (hb.r0 0 6 gZ)),trivial⟩ (by kernel_rfl) ⟨(cond fake1 9 8),from1,(q6.wrap (1 - from1)),0,⟨#[]⟩,(Sl.mk (some p3) 1 1),rfl,h⟩
def m_F2 (who1 aL:Int) (aM aN aO:Int) (aP:ByteArray) (aQ:Sl) (w0:World) (K:Int→Int→Int→Int→ByteArray→Sl→WP):Prop :=∀H2 w2,Hst w0 None w0 H2 w2→∀p3 w3,New w2 (.cells #[(vi aL),(vi aM),(vi aN),(vu aO),(vs aP),aQ.v] 53) p3 w3→∀w4,Hst w0 H2 w3 H2 w4→K 7 who1 0 0 ⟨#[]⟩ (Sl.mk (some p3) 1 1) w4
theorem w_F2 (who1 aL aM aN aO aP aQ w0 K) (h:m_F2 who1 aL aM aN aO aP aQ w0 K):
  Calls prog 43 #[(vi who1),(.agg #[(vi aL),(vi aM),(vi aN),(vu aO),(vs aP),aQ.v])] w0 (fun e w'=>∃aF aG aH aI aJ aK,e=.returned (Ab aF aG aH aI aJ aK)∧K aF aG aH aI aJ aK w'):=by
 refine cw (args:=[(vi who1),(Ab aL aM aN aO aP aQ)]) func43 ntmps43 ?_
 obtain ⟨hs,hb⟩:=st0 w0
 refine eg (nw3 (Af aL aM aN aO aP aQ) 53 hs hb xb fun p1 w1 H1 hs hb=>nw3 [(vi 0),(vi 0),(vi 0),(vu 0),ve,Sl.nil.v] 53 hs hb (jG (zeroValue53 _) rfl) fun p2 w2 H2 hs hb=>ln (eg (q (q2 (Ab aL aM aN aO aP aQ) (xa p1 (Af aL aM aN aO aP aQ) (isAgg53 _) (sizeOf53 _) (hb.r0 1 6 (gS gZ))) ?_))))
 have ⟨h,hs⟩:=hs.hr (h H2 w2)
 refine nw5 (fun p=>(Sl.mk (some p) 1 1).v) hs hb h fun p3 w3 hs hb h=>q (qG (jK rfl) (xo p2 [(vi 7),(vi who1),(vi 0),(vu 0),ve,(Sl.mk (some p3) 1 1).v] (sizeOf53 _) (hb.k0 0 6 gZ)) ?_)
 intro w4 hn3
 obtain ⟨hs,hb⟩:=hb.st1 0 hs hn3 gZ
 refine ln (er ?_)
 have ⟨h,hs⟩:=hs.hr (h w4)
 refine jEM (.inl rfl) (vs:=[(.agg #[(vi 7),(vi who1),(vi 0),(vu 0),ve,(Sl.mk (some p3) 1 1).v])]) (v:=(.agg #[(vi 7),(vi who1),(vi 0),(vu 0),ve,(Sl.mk (some p3) 1 1).v])) results43 ⟨(rva (isAgg53 _) (sizeOf53 _) (hb.r0 0 6 gZ)),trivial⟩ (by kernel_rfl) ⟨7,who1,0,0,⟨#[]⟩,(Sl.mk (some p3) 1 1),rfl,h⟩
def m_G2 (aA aB aE:Int) (aC:ByteArray) (aD:Bool) (w0:World) (K:Int→Int→Int→Int→ByteArray→Sl→WP):Prop :=∀H2 w2,Hst w0 None w0 H2 w2→Calls prog 41 #[(vu aE),(vs aC)] w2 (fun e w3=>∃aF aG aH aI aJ aK,e=.returned (Ab aF aG aH aI aJ aK)∧Kept H2 w2 w3∧Br (aA == 1) (∀H3 w5,Hst w0 H2 w3 H3 w5→Calls prog 42 #[(vi aB),(vb aD),(.agg #[(vi aF),(vi aG),(vi aH),(vu aI),(vs aJ),aK.v])] w5 (fun e w6=>∃aR aS aT aU aV aW,e=.returned (Ab aR aS aT aU aV aW)∧Kept H3 w5 w6∧∀w7,Hst w0 H3 w6 H3 w7→K aR aS aT aU aV aW w7)) (Br (aA == 2) (∀H3 w5,Hst w0 H2 w3 H3 w5→Calls prog 43 #[(vi aB),(.agg #[(vi aF),(vi aG),(vi aH),(vu aI),(vs aJ),aK.v])] w5 (fun e w8=>∃aX aY aZ bA bB bC,e=.returned (Ab aX aY aZ bA bB bC)∧Kept H3 w5 w8∧∀w9,Hst w0 H3 w8 H3 w9→K aX aY aZ bA bB bC w9)) (Br (aA == 3) (∀H3 w5,Hst w0 H2 w3 H3 w5→∃C1:WP,C1 w5.drew∧∀w10,w10=w5.drew→Calls prog 45 #[(vs (⟨#[97,98,111,114,116]⟩:ByteArray))] w10 (fun e w11=>∃cU cV cW cX cY cZ,e=.returned (Ab cU cV cW cX cY cZ)∧C1 w11∧Kept H3 w10 w11∧Calls prog 46 #[(vu aE)] w11 (fun e w12=>∃dA dB dC dD dE dF,e=.returned (Ab dA dB dC dD dE dF)∧Kept H3 w11 w12∧Calls prog 44 #[(.agg #[(vi cU),(vi cV),(vi cW),(vu cX),(vs cY),cZ.v]),(.agg #[(vi dA),(vi dB),(vi dC),(vu dD),(vs dE),dF.v])] w12 (fun e w13=>∃dG dH dI dJ dK dL,e=.returned (Ab dG dH dI dJ dK dL)∧Kept H3 w12 w13∧Calls prog 43 #[(vi 0),(.agg #[(vi dG),(vi dH),(vi dI),(vu dJ),(vs dK),dL.v])] w13 (fun e w14=>∃bP bQ bR bS bT bU,e=.returned (Ab bP bQ bR bS bT bU)∧Kept H3 w13 w14∧∀w15,Hst w0 H3 w14 H3 w15→K bP bQ bR bS bT bU w15))))) (Br (aA == 4) (∀H3 w5,Hst w0 H2 w3 H3 w5→∃C2:WP,C2 w5.drew∧∀w16,w16=w5.drew→Calls prog 45 #[(vs (⟨#[114,101,115,111,108,118,101]⟩:ByteArray))] w16 (fun e w17=>∃dM dN dO dP dQ dR,e=.returned (Ab dM dN dO dP dQ dR)∧C2 w17∧Kept H3 w16 w17∧Calls prog 42 #[(vi 0),(vb aD),(.agg #[(vi aF),(vi aG),(vi aH),(vu aI),(vs aJ),aK.v])] w17 (fun e w18=>∃dS dT dU dV dW dX,e=.returned (Ab dS dT dU dV dW dX)∧C2 w18∧Kept H3 w17 w18∧Calls prog 42 #[(vi 1),(vb aD),(.agg #[(vi aF),(vi aG),(vi aH),(vu aI),(vs aJ),aK.v])] w18 (fun e w19=>∃dY dZ eA eB eC eD,e=.returned (Ab dY dZ eA eB eC eD)∧C2 w19∧Kept H3 w18 w19∧Calls prog 44 #[(.agg #[(vi dS),(vi dT),(vi dU),(vu dV),(vs dW),dX.v]),(.agg #[(vi dY),(vi dZ),(vi eA),(vu eB),(vs eC),eD.v])] w19 (fun e w20=>∃eE eF eG eH eI eJ,e=.returned (Ab eE eF eG eH eI eJ)∧C2 w20∧Kept H3 w19 w20∧Calls prog 44 #[(.agg #[(vi dM),(vi dN),(vi dO),(vu dP),(vs dQ),dR.v]),(.agg #[(vi eE),(vi eF),(vi eG),(vu eH),(vs eI),eJ.v])] w20 (fun e w21=>∃eK eL eM eN eO eP,e=.returned (Ab eK eL eM eN eO eP)∧C2 w21∧Kept H3 w20 w21∧Calls prog 43 #[(vi aB),(.agg #[(vi eK),(vi eL),(vi eM),(vu eN),(vs eO),eP.v])] w21 (fun e w22=>∃bV bW bX bY bZ cA,e=.returned (Ab bV bW bX bY bZ cA)∧Kept H3 w21 w22∧∀w23,Hst w0 H3 w22 H3 w23→K bV bW bX bY bZ cA w23))))))) (Br (aA == 5) (∀H3 w5,Hst w0 H2 w3 H3 w5→∃C3:WP,C3 w5.drew∧∀w24,w24=w5.drew→Calls prog 45 #[(vs (⟨#[97,98,111,114,116,101,100]⟩:ByteArray))] w24 (fun e w25=>∃eQ eR eS eT eU eV,e=.returned (Ab eQ eR eS eT eU eV)∧C3 w25∧Kept H3 w24 w25∧Calls prog 46 #[(vu aE)] w25 (fun e w26=>∃eW eX eY eZ fA fB,e=.returned (Ab eW eX eY eZ fA fB)∧Kept H3 w25 w26∧Calls prog 44 #[(.agg #[(vi eQ),(vi eR),(vi eS),(vu eT),(vs eU),eV.v]),(.agg #[(vi eW),(vi eX),(vi eY),(vu eZ),(vs fA),fB.v])] w26 (fun e w27=>∃fC fD fE fF fG fH,e=.returned (Ab fC fD fE fF fG fH)∧Kept H3 w26 w27∧Calls prog 43 #[(vi 2),(.agg #[(vi fC),(vi fD),(vi fE),(vu fF),(vs fG),fH.v])] w27 (fun e w28=>∃cB cC cD cE cF cG,e=.returned (Ab cB cC cD cE cF cG)∧Kept H3 w27 w28∧∀w29,Hst w0 H3 w28 H3 w29→K cB cC cD cE cF cG w29))))) (Br (aA == 6) (∀H3 w5,Hst w0 H2 w3 H3 w5→∃C4:WP,C4 w5.drew∧∀w30,w30=w5.drew→Calls prog 45 #[(vs (⟨#[105,110,115,116,101,97,100]⟩:ByteArray))] w30 (fun e w31=>∃fI fJ fK fL fM fN,e=.returned (Ab fI fJ fK fL fM fN)∧C4 w31∧Kept H3 w30 w31∧Calls prog 44 #[(.agg #[(vi fI),(vi fJ),(vi fK),(vu fL),(vs fM),fN.v]),(.agg #[(vi aF),(vi aG),(vi aH),(vu aI),(vs aJ),aK.v])] w31 (fun e w32=>∃fO fP fQ fR fS fT,e=.returned (Ab fO fP fQ fR fS fT)∧Kept H3 w31 w32∧Calls prog 43 #[(vi 2),(.agg #[(vi fO),(vi fP),(vi fQ),(vu fR),(vs fS),fT.v])] w32 (fun e w33=>∃cH cI cJ cK cL cM,e=.returned (Ab cH cI cJ cK cL cM)∧Kept H3 w32 w33∧∀w34,Hst w0 H3 w33 H3 w34→K cH cI cJ cK cL cM w34)))) (∀H3 w5,Hst w0 H2 w3 H3 w5→∃C5:WP,C5 w5.drew∧∀w35,w35=w5.drew→Calls prog 45 #[(vs (⟨#[102,117,108,108]⟩:ByteArray))] w35 (fun e w36=>∃fU fV fW fX fY fZ,e=.returned (Ab fU fV fW fX fY fZ)∧C5 w36∧Kept H3 w35 w36∧Calls prog 46 #[(vu aE)] w36 (fun e w37=>∃gA gB gC gD gE gF,e=.returned (Ab gA gB gC gD gE gF)∧Kept H3 w36 w37∧Calls prog 44 #[(.agg #[(vi fU),(vi fV),(vi fW),(vu fX),(vs fY),fZ.v]),(.agg #[(vi gA),(vi gB),(vi gC),(vu gD),(vs gE),gF.v])] w37 (fun e w38=>∃cN cO cP cQ cR cS,e=.returned (Ab cN cO cP cQ cR cS)∧Kept H3 w37 w38∧∀w39,Hst w0 H3 w38 H3 w39→K cN cO cP cQ cR cS w39))))))))))
theorem w_G2 (aA aB aE aC aD w0 K) (h:m_G2 aA aB aE aC aD w0 K):
  Calls prog 17 #[(.agg #[(vi aA),(vi aB),(vu aE),(vs aC),(vb aD)])] w0 (fun e w'=>∃gG gH gI gJ gK gL,e=.returned (Ab gG gH gI gJ gK gL)∧K gG gH gI gJ gK gL w'):=by
 refine cw (args:=[(Ac aA aB aE aC aD)]) func17 ntmps17 ?_
 obtain ⟨hs,hb⟩:=st0 w0
 refine eg (nw3 (Aa aA aB aE aC aD) 24 hs hb xb fun p1 w1 H1 hs hb=>nw3 [(vi 0),(vi 0),(vi 0),(vu 0),ve,Sl.nil.v] 53 hs hb (jG (zeroValue53 _) rfl) fun p2 w2 H2 hs hb=>ln (eg (q (q3 (xl (isAgg22 _) (hb.d 1 2 (gS gZ))) (q (q3 (xl (isAgg9 _) (hb.d 1 3 (gS gZ))) ?_))))))
 have ⟨h,hs⟩:=hs.hr (h H2 w2)
 refine sc call41 (h.mono fun e w3 ⟨aF,aG,aH,aI,aJ,aK,k,hk,h⟩=>have ⟨hs,hb⟩:=hk.hh hs hb;⟨_,k,?_⟩)
 refine nw3 [(vi 0),(vi 0),(vi 0),(vu 0),ve,Sl.nil.v] 53 hs hb (jG (zeroValue53 _) rfl) fun p3 w4 H3 hs hb=>sbx 0 (Af aF aG aH aI aJ aK) (sizeOf53 _) hs hb gZ fun w5 hs hb=>ln (jA (eg (q (q3 (xl (isAgg3 _) (hb.d0 2 (gS (gS gZ)))) (ln (jM (eg (qb (ln (cbr h ?_ ?_))))))))))<;>intro h
 refine eg (q (q3 (xl (isAgg3 _) (hb.d 2 1 (gS (gS gZ)))) (q (q3 (xl (isAgg4 _) (hb.d 2 4 (gS (gS gZ)))) (q2 (Ab aF aG aH aI aJ aK) (xa p3 (Af aF aG aH aI aJ aK) (isAgg53 _) (sizeOf53 _) (hb.r0 0 6 gZ)) ?_)))))
 have ⟨h,hs⟩:=hs.hr (h H3 w5)
 refine sc call42 (h.mono fun e w6 ⟨aR,aS,aT,aU,aV,aW,k,hk,h⟩=>have ⟨hs,hb⟩:=hk.hh hs hb;⟨_,k,?_⟩)
 refine sbx 1 (Af aR aS aT aU aV aW) (sizeOf53 _) hs hb (gS gZ) fun w7 hs hb=>ln (er (qJ (zM ?_)))
 have ⟨h,hs⟩:=hs.hr (h w7)
 refine jEM (.inl rfl) (vs:=[(Ab aR aS aT aU aV aW)]) (v:=(Ab aR aS aT aU aV aW)) results17 ⟨(rva (isAgg53 _) (sizeOf53 _) (hb.r0 1 6 (gS gZ))),trivial⟩ (by kernel_rfl) ⟨aR,aS,aT,aU,aV,aW,rfl,h⟩
 refine eg (qb (ln (cbr h ?_ ?_)))<;>intro h
 refine eg (q (q3 (xl (isAgg3 _) (hb.d 2 1 (gS (gS gZ)))) (q2 (Ab aF aG aH aI aJ aK) (xa p3 (Af aF aG aH aI aJ aK) (isAgg53 _) (sizeOf53 _) (hb.r0 0 6 gZ)) ?_)))
 have ⟨h,hs⟩:=hs.hr (h H3 w5)
 refine sc call43 (h.mono fun e w8 ⟨aX,aY,aZ,bA,bB,bC,k,hk,h⟩=>have ⟨hs,hb⟩:=hk.hh hs hb;⟨_,k,?_⟩)
 refine sbx 1 (Af aX aY aZ bA bB bC) (sizeOf53 _) hs hb (gS gZ) fun w9 hs hb=>ln (er (qJ (zM ?_)))
 have ⟨h,hs⟩:=hs.hr (h w9)
 refine jEM (.inl rfl) (vs:=[(Ab aX aY aZ bA bB bC)]) (v:=(Ab aX aY aZ bA bB bC)) results17 ⟨(rva (isAgg53 _) (sizeOf53 _) (hb.r0 1 6 (gS gZ))),trivial⟩ (by kernel_rfl) ⟨aX,aY,aZ,bA,bB,bC,rfl,h⟩
 refine eg (qb (ln (cbr h ?_ ?_)))<;>intro h
 refine jA ?_
 have ⟨h,hs⟩:=hs.hr (h H3 w5)
 obtain ⟨C1,hC,h⟩:=h
 refine dr2 (fun x=>C1 x∧HB H3 x _) [0,3,4,5,6] [3,4,5,6] ⟨hC,hb.drew⟩ h hs hb fun w10 hs hb h=>?_
 have hs:=hs.here
 refine qx 1 (vp (some (p1.add 2))) Kp1 (qz 2 (vu aE) Kp2 (fun w' hw'=>(xl (isAgg22 _) (hw'.2.cell 2 2 (gS (gS gZ)) (by kernel_rfl)))) (lg 0 (slc Kp0 call45 (h.mono ?_))))
 rintro e w11 ⟨cU,cV,cW,cX,cY,cZ,rfl,hC,hk,h⟩
 refine ⟨_,rfl,.inr ⟨hC,hb.kept hk⟩,?_⟩
 obtain ⟨hs,hb⟩:=hk.hh hs hb
 refine lg 3 (slc Kp3 call46 (h.mono ?_))
 rintro e w12 ⟨dA,dB,dC,dD,dE,dF,rfl,hk,h⟩
 refine ⟨_,rfl,.inl (by kernel_rfl),?_⟩
 obtain ⟨hs,hb⟩:=hk.hh hs hb
 refine lg 4 (slc Kp4 call44 (h.mono ?_))
 rintro e w13 ⟨dG,dH,dI,dJ,dK,dL,rfl,hk,h⟩
 refine ⟨_,rfl,.inl (by kernel_rfl),?_⟩
 obtain ⟨hs,hb⟩:=hk.hh hs hb
 refine lg 5 (slc Kp5 call43 (h.mono ?_))
 rintro e w14 ⟨bP,bQ,bR,bS,bT,bU,rfl,hk,h⟩
 refine ⟨_,rfl,.inl (by kernel_rfl),?_⟩
 obtain ⟨hs,hb⟩:=hk.hh hs hb
 refine lg 6 (yZ Kp6 (jK rfl) (by kernel_rfl) (xo p2 (Af bP bQ bR bS bT bU) (sizeOf53 _) (hb.k0 1 6 (gS gZ))) ?_)
 intro w15 hn7
 obtain ⟨hs,hb⟩:=hb.st1 1 hs hn7 (gS gZ)
 refine ⟨.inl (by kernel_rfl),?_⟩
 refine wn (jN (er (qJ (zM ?_))))
 have ⟨h,hs⟩:=hs.hr (h w15)
 refine jEM (.inl rfl) (vs:=[(Ab bP bQ bR bS bT bU)]) (v:=(Ab bP bQ bR bS bT bU)) results17 ⟨(rva (isAgg53 _) (sizeOf53 _) (hb.r0 1 6 (gS gZ))),trivial⟩ (by kernel_rfl) ⟨bP,bQ,bR,bS,bT,bU,rfl,h⟩
 refine eg (qb (ln (cbr h ?_ ?_)))<;>intro h
 refine jA ?_
 have ⟨h,hs⟩:=hs.hr (h H3 w5)
 obtain ⟨C2,hC,h⟩:=h
 refine dr2 (fun x=>C2 x∧HB H3 x _) [2,6,10,11,12,13,14] [13,14] ⟨hC,hb.drew⟩ h hs hb fun w16 hs hb h=>?_
 have hs:=hs.here
 refine qx 0 (vp (some (p1.add 1))) Kp0 (qz 1 (vi aB) Kp1 (fun w' hw'=>(xl (isAgg3 _) (hw'.2.cell 2 1 (gS (gS gZ)) (by kernel_rfl)))) (qx 3 (vp (some (p1.add 4))) Kp3 (qz 4 (vb aD) Kp4 (fun w' hw'=>(xl (isAgg4 _) (hw'.2.cell 2 4 (gS (gS gZ)) (by kernel_rfl)))) (qz 5 (Ab aF aG aH aI aJ aK) Kp5 (fun w' hw'=>(xa p3 (Af aF aG aH aI aJ aK) (isAgg53 _) (sizeOf53 _) (hw'.2.r0 0 6 gZ))) (qx 7 (vp (some (p1.add 4))) Kp7 (qz 8 (vb aD) Kp8 (fun w' hw'=>(xl (isAgg4 _) (hw'.2.cell 2 4 (gS (gS gZ)) (by kernel_rfl)))) (qz 9 (Ab aF aG aH aI aJ aK) Kp9 (fun w' hw'=>(xa p3 (Af aF aG aH aI aJ aK) (isAgg53 _) (sizeOf53 _) (hw'.2.r0 0 6 gZ))) (lg 2 (slc Kp2 call45 (h.mono ?_))))))))))
 rintro e w17 ⟨dM,dN,dO,dP,dQ,dR,rfl,hC,hk,h⟩
 refine ⟨_,rfl,.inr ⟨hC,hb.kept hk⟩,?_⟩
 obtain ⟨hs,hb⟩:=hk.hh hs hb
 refine lg 6 (slc Kp6 call42 (h.mono ?_))
 rintro e w18 ⟨dS,dT,dU,dV,dW,dX,rfl,hC,hk,h⟩
 refine ⟨_,rfl,.inr ⟨hC,hb.kept hk⟩,?_⟩
 obtain ⟨hs,hb⟩:=hk.hh hs hb
 refine lg 10 (slc (jJ (S8 (jD (jD jI)))) call42 (h.mono ?_))
 rintro e w19 ⟨dY,dZ,eA,eB,eC,eD,rfl,hC,hk,h⟩
 refine ⟨_,rfl,.inr ⟨hC,hb.kept hk⟩,?_⟩
 obtain ⟨hs,hb⟩:=hk.hh hs hb
 refine lg 11 (slc (jJ (S8 (jD (jD (jD jI))))) call44 (h.mono ?_))
 rintro e w20 ⟨eE,eF,eG,eH,eI,eJ,rfl,hC,hk,h⟩
 refine ⟨_,rfl,.inr ⟨hC,hb.kept hk⟩,?_⟩
 obtain ⟨hs,hb⟩:=hk.hh hs hb
 refine lg 12 (slc (jJ (S8 (S4 jI))) call44 (h.mono ?_))
 rintro e w21 ⟨eK,eL,eM,eN,eO,eP,rfl,hC,hk,h⟩
 refine ⟨_,rfl,.inr ⟨hC,hb.kept hk⟩,?_⟩
 obtain ⟨hs,hb⟩:=hk.hh hs hb
 refine lg 13 (slc (jJ (S8 (S4 (jD jI)))) call43 (h.mono ?_))
 rintro e w22 ⟨bV,bW,bX,bY,bZ,cA,rfl,hk,h⟩
 refine ⟨_,rfl,.inl (by kernel_rfl),?_⟩
 obtain ⟨hs,hb⟩:=hk.hh hs hb
 refine lg 14 (yZ (jJ (S8 (S4 (jD (jD jI))))) (jK rfl) (by kernel_rfl) (xo p2 (Af bV bW bX bY bZ cA) (sizeOf53 _) (hb.k0 1 6 (gS gZ))) ?_)
 intro w23 hn8
 obtain ⟨hs,hb⟩:=hb.st1 1 hs hn8 (gS gZ)
 refine ⟨.inl (by kernel_rfl),?_⟩
 refine wn (jN (er (qJ (zM ?_))))
 have ⟨h,hs⟩:=hs.hr (h w23)
 refine jEM (.inl rfl) (vs:=[(Ab bV bW bX bY bZ cA)]) (v:=(Ab bV bW bX bY bZ cA)) results17 ⟨(rva (isAgg53 _) (sizeOf53 _) (hb.r0 1 6 (gS gZ))),trivial⟩ (by kernel_rfl) ⟨bV,bW,bX,bY,bZ,cA,rfl,h⟩
 refine eg (qb (ln (cbr h ?_ ?_)))<;>intro h
 refine jA ?_
 have ⟨h,hs⟩:=hs.hr (h H3 w5)
 obtain ⟨C3,hC,h⟩:=h
 refine dr2 (fun x=>C3 x∧HB H3 x _) [0,3,4,5,6] [3,4,5,6] ⟨hC,hb.drew⟩ h hs hb fun w24 hs hb h=>?_
 have hs:=hs.here
 refine qx 1 (vp (some (p1.add 2))) Kp1 (qz 2 (vu aE) Kp2 (fun w' hw'=>(xl (isAgg22 _) (hw'.2.cell 2 2 (gS (gS gZ)) (by kernel_rfl)))) (lg 0 (slc Kp0 call45 (h.mono ?_))))
 rintro e w25 ⟨eQ,eR,eS,eT,eU,eV,rfl,hC,hk,h⟩
 refine ⟨_,rfl,.inr ⟨hC,hb.kept hk⟩,?_⟩
 obtain ⟨hs,hb⟩:=hk.hh hs hb
 refine lg 3 (slc Kp3 call46 (h.mono ?_))
 rintro e w26 ⟨eW,eX,eY,eZ,fA,fB,rfl,hk,h⟩
 refine ⟨_,rfl,.inl (by kernel_rfl),?_⟩
 obtain ⟨hs,hb⟩:=hk.hh hs hb
 refine lg 4 (slc Kp4 call44 (h.mono ?_))
 rintro e w27 ⟨fC,fD,fE,fF,fG,fH,rfl,hk,h⟩
 refine ⟨_,rfl,.inl (by kernel_rfl),?_⟩
 obtain ⟨hs,hb⟩:=hk.hh hs hb
 refine lg 5 (slc Kp5 call43 (h.mono ?_))
 rintro e w28 ⟨cB,cC,cD,cE,cF,cG,rfl,hk,h⟩
 refine ⟨_,rfl,.inl (by kernel_rfl),?_⟩
 obtain ⟨hs,hb⟩:=hk.hh hs hb
 refine lg 6 (yZ Kp6 (jK rfl) (by kernel_rfl) (xo p2 (Af cB cC cD cE cF cG) (sizeOf53 _) (hb.k0 1 6 (gS gZ))) ?_)
 intro w29 hn9
 obtain ⟨hs,hb⟩:=hb.st1 1 hs hn9 (gS gZ)
 refine ⟨.inl (by kernel_rfl),?_⟩
 refine wn (jN (er (qJ (zM ?_))))
 have ⟨h,hs⟩:=hs.hr (h w29)
 refine jEM (.inl rfl) (vs:=[(Ab cB cC cD cE cF cG)]) (v:=(Ab cB cC cD cE cF cG)) results17 ⟨(rva (isAgg53 _) (sizeOf53 _) (hb.r0 1 6 (gS gZ))),trivial⟩ (by kernel_rfl) ⟨cB,cC,cD,cE,cF,cG,rfl,h⟩
 refine eg (qb (ln (cbr h ?_ ?_)))<;>intro h
 refine jA ?_
 have ⟨h,hs⟩:=hs.hr (h H3 w5)
 obtain ⟨C4,hC,h⟩:=h
 refine dr2 (fun x=>C4 x∧HB H3 x _) [0,2,3,4] [2,3,4] ⟨hC,hb.drew⟩ h hs hb fun w30 hs hb h=>?_
 have hs:=hs.here
 refine qz 1 (Ab aF aG aH aI aJ aK) Kp1 (fun w' hw'=>(xa p3 (Af aF aG aH aI aJ aK) (isAgg53 _) (sizeOf53 _) (hw'.2.r0 0 6 gZ))) (lg 0 (slc Kp0 call45 (h.mono ?_)))
 rintro e w31 ⟨fI,fJ,fK,fL,fM,fN,rfl,hC,hk,h⟩
 refine ⟨_,rfl,.inr ⟨hC,hb.kept hk⟩,?_⟩
 obtain ⟨hs,hb⟩:=hk.hh hs hb
 refine lg 2 (slc Kp2 call44 (h.mono ?_))
 rintro e w32 ⟨fO,fP,fQ,fR,fS,fT,rfl,hk,h⟩
 refine ⟨_,rfl,.inl (by kernel_rfl),?_⟩
 obtain ⟨hs,hb⟩:=hk.hh hs hb
 refine lg 3 (slc Kp3 call43 (h.mono ?_))
 rintro e w33 ⟨cH,cI,cJ,cK,cL,cM,rfl,hk,h⟩
 refine ⟨_,rfl,.inl (by kernel_rfl),?_⟩
 obtain ⟨hs,hb⟩:=hk.hh hs hb
 refine lg 4 (yZ Kp4 (jK rfl) (by kernel_rfl) (xo p2 (Af cH cI cJ cK cL cM) (sizeOf53 _) (hb.k0 1 6 (gS gZ))) ?_)
 intro w34 hn10
 obtain ⟨hs,hb⟩:=hb.st1 1 hs hn10 (gS gZ)
 refine ⟨.inl (by kernel_rfl),?_⟩
 refine wn (jN (er (qJ (zM ?_))))
 have ⟨h,hs⟩:=hs.hr (h w34)
 refine jEM (.inl rfl) (vs:=[(Ab cH cI cJ cK cL cM)]) (v:=(Ab cH cI cJ cK cL cM)) results17 ⟨(rva (isAgg53 _) (sizeOf53 _) (hb.r0 1 6 (gS gZ))),trivial⟩ (by kernel_rfl) ⟨cH,cI,cJ,cK,cL,cM,rfl,h⟩
 refine jB (uS (jN (jA ?_)))
 have ⟨h,hs⟩:=hs.hr (h H3 w5)
 obtain ⟨C5,hC,h⟩:=h
 refine dr2 (fun x=>C5 x∧HB H3 x _) [0,3,4,5] [3,4,5] ⟨hC,hb.drew⟩ h hs hb fun w35 hs hb h=>?_
 have hs:=hs.here
 refine qx 1 (vp (some (p1.add 2))) Kp1 (qz 2 (vu aE) Kp2 (fun w' hw'=>(xl (isAgg22 _) (hw'.2.cell 2 2 (gS (gS gZ)) (by kernel_rfl)))) (lg 0 (slc Kp0 call45 (h.mono ?_))))
 rintro e w36 ⟨fU,fV,fW,fX,fY,fZ,rfl,hC,hk,h⟩
 refine ⟨_,rfl,.inr ⟨hC,hb.kept hk⟩,?_⟩
 obtain ⟨hs,hb⟩:=hk.hh hs hb
 refine lg 3 (slc Kp3 call46 (h.mono ?_))
 rintro e w37 ⟨gA,gB,gC,gD,gE,gF,rfl,hk,h⟩
 refine ⟨_,rfl,.inl (by kernel_rfl),?_⟩
 obtain ⟨hs,hb⟩:=hk.hh hs hb
 refine lg 4 (slc Kp4 call44 (h.mono ?_))
 rintro e w38 ⟨cN,cO,cP,cQ,cR,cS,rfl,hk,h⟩
 refine ⟨_,rfl,.inl (by kernel_rfl),?_⟩
 obtain ⟨hs,hb⟩:=hk.hh hs hb
 refine lg 5 (yZ Kp5 (jK rfl) (by kernel_rfl) (xo p2 (Af cN cO cP cQ cR cS) (sizeOf53 _) (hb.k0 1 6 (gS gZ))) ?_)
 intro w39 hn11
 obtain ⟨hs,hb⟩:=hb.st1 1 hs hn11 (gS gZ)
 refine ⟨.inl (by kernel_rfl),?_⟩
 refine wn (jN (er ?_))
 have ⟨h,hs⟩:=hs.hr (h w39)
 refine jEM (.inl rfl) (vs:=[(Ab cN cO cP cQ cR cS)]) (v:=(Ab cN cO cP cQ cR cS)) results17 ⟨(rva (isAgg53 _) (sizeOf53 _) (hb.r0 1 6 (gS gZ))),trivial⟩ (by kernel_rfl) ⟨cN,cO,cP,cQ,cR,cS,rfl,h⟩
def m_H2 (p1:Option Addr) (aA aB aE:Int) (aC:ByteArray) (aD:Bool) (w0:World) (K:Int→Int→WP):Prop :=∀H1 w1,Hst w0 None w0 H1 w1→Calls prog 15 #[(.agg #[(vi aA),(vi aB),(vu aE),(vs aC),(vb aD)])] w1 (fun e w2=>∃r1,e=.returned (vi r1)∧Kept H1 w1 w2∧Br (r1 != 0) (K 0 r1 w2) (Br (Option.isNone p1) (K 0 2 w2) (Calls prog 17 #[(.agg #[(vi aA),(vi aB),(vu aE),(vs aC),(vb aD)])] w2 (fun e w3=>∃aF aG aH aI aJ aK,e=.returned (Ab aF aG aH aI aJ aK)∧Kept H1 w2 w3∧Calls prog 16 #[(vp p1),(.agg #[(vi aF),(vi aG),(vi aH),(vu aI),(vs aJ),aK.v])] w3 (fun e w4=>∃r2 r3,e=.returned (.tuple #[(vi r2),(vi r3)])∧Kept H1 w3 w4∧K r2 r3 w4)))))
theorem w_H2 (p1 aA aB aE aC aD w0 K) (h:m_H2 p1 aA aB aE aC aD w0 K):
  Calls prog 6 #[(vp p1),(.agg #[(vi aA),(vi aB),(vu aE),(vs aC),(vb aD)])] w0 (fun e w'=>∃r4 r5,e=.returned (.tuple #[(vi r4),(vi r5)])∧K r4 r5 w'):=by
 refine cw (args:=[(vp p1),(Ac aA aB aE aC aD)]) func6 ntmps6 ?_
 obtain ⟨hs,hb⟩:=st0 w0
 refine eg (nw3 (Aa aA aB aE aC aD) 24 hs hb xb fun p2 w1 H1 hs hb=>qb (ln (jA (eg (q2 (Ac aA aB aE aC aD) (xa p2 (Aa aA aB aE aC aD) (isAgg24 _) (sizeOf24 _) (hb.r0 0 5 gZ)) ?_)))))
 have ⟨h,hs⟩:=hs.hr (h H1 w1)
 refine sc call15 (h.mono fun e w2 ⟨r1,k,hk,h⟩=>have ⟨hs,hb⟩:=hk.hh hs hb;⟨_,k,?_⟩)
 refine q (ln (eg (qb (ln (cbr h ?_ ?_)))))<;>intro h
 refine eg (qc (ln (er (zM (oX (.inl rfl) results6 (v:=(vi 0)) (by kernel_rfl) (v':=(vi r1)) (by kernel_rfl) ⟨0,r1,rfl,h⟩)))))
 refine jB (jN (jA (eg (q (q2 (vb (Option.isNone p1)) (qK (by kernel_rfl) rfl underlying27) (ln (cbr h ?_ ?_)))))))<;>intro h
 refine eg (qb (ln (er (zM (oX (.inl rfl) results6 (v:=(vi 0)) (by kernel_rfl) (v':=(vi 2)) (by kernel_rfl) ⟨0,2,rfl,h⟩)))))
 refine jB (jN (eg (q (q2 (Ac aA aB aE aC aD) (xa p2 (Aa aA aB aE aC aD) (isAgg24 _) (sizeOf24 _) (hb.r0 0 5 gZ)) (sc call17 (h.mono fun e w3 ⟨aF,aG,aH,aI,aJ,aK,k,hk,h⟩=>have ⟨hs,hb⟩:=hk.hh hs hb;⟨_,k,?_⟩))))))
 refine sc call16 (h.mono fun e w4 ⟨r2,r3,k,hk,h⟩=>have ⟨hs,hb⟩:=hk.hh hs hb;⟨_,k,?_⟩)
 refine qd (ln (er (oX (.inl rfl) results6 (v:=(vi r2)) (by kernel_rfl) (v':=(vi r3)) (by kernel_rfl) ⟨r2,r3,rfl,h⟩)))
def m_I2 (aA aB aE:Int) (aC:ByteArray) (aD:Bool) (w0:World) (K:Int→WP):Prop :=∀H1 w1,Hst w0 None w0 H1 w1→Calls prog 15 #[(.agg #[(vi aA),(vi aB),(vu aE),(vs aC),(vb aD)])] w1 (fun e w2=>∃r1,e=.returned (vi r1)∧Kept H1 w1 w2∧Br (r1 != 0) (K (-1) w2) (Br (cond (aA == 1) (aA == 1) (aA == 2)) (∀H2 w3,Hst w0 H1 w2 H2 w3→K (q6.wrap (1 - aB)) w3) (Br (cond (aA == 3) (aA == 3) (aA == 4)) (∀H3 w4,Hst w0 H1 w2 H3 w4→K 2 w4) (∀H3 w4,Hst w0 H1 w2 H3 w4→K (-1) w4))))
theorem w_I2 (aA aB aE aC aD w0 K) (h:m_I2 aA aB aE aC aD w0 K):
  Calls prog 13 #[(.agg #[(vi aA),(vi aB),(vu aE),(vs aC),(vb aD)])] w0 (fun e w'=>∃r2,e=.returned (vi r2)∧K r2 w'):=by
 refine cw (args:=[(Ac aA aB aE aC aD)]) func13 ntmps13 ?_
 obtain ⟨hs,hb⟩:=st0 w0
 refine eg (nw3 (Aa aA aB aE aC aD) 24 hs hb xb fun p1 w1 H1 hs hb=>q (ln (jA (eg (q2 (Ac aA aB aE aC aD) (xa p1 (Aa aA aB aE aC aD) (isAgg24 _) (sizeOf24 _) (hb.r0 0 5 gZ)) ?_)))))
 have ⟨h,hs⟩:=hs.hr (h H1 w1)
 refine sc call15 (h.mono fun e w2 ⟨r1,k,hk,h⟩=>have ⟨hs,hb⟩:=hk.hh hs hb;⟨_,k,?_⟩)
 refine q (ln (cbr h ?_ ?_))<;>intro h
 refine eg (q (ln (er (zM (rs1 results13 ⟨(-1),rfl,h⟩)))))
 refine jB (jN (jA (eg (q (q3 (xl (isAgg3 _) (hb.d0 0 gZ)) (ln (jM (jA (jA (rg (qb (ln (vJ (fun ρ wJ=>∃b1'0:Bool,∃HJ:NP,((aA == 1)=b1'0)∧Hst w0 H1 w2 HJ wJ∧HB HJ wJ [(p1,(Aa aA aB aE aC aD),24)]∧Has ρ [(1,(vp (some p1))),(7,(vi aA)),(8,(vb (cond b1'0 (aA == 1) (aA == 2))))]) ?_ ?_)))))))))))))
 refine vM (t:=(aA == 1)) (by kernel_rfl) (fun hc3=>?_) (fun hc3=>?_)
 refine jB (jN ⟨true,_,hc3,hs,hb,hm⟩)
 refine rg (qb (ln ⟨false,_,hc3,hs,hb,hm⟩))
 rintro ρ w3 ⟨b1'0,H2,he0,hs,hb,hH⟩
 subst he0
 refine kM hH (jN (cbr h ?_ ?_))<;>intro h
 refine eg (q (q3 (xl (isAgg3 _) (hb.d 0 1 gZ)) (qb (ln (er (qJ (zM ?_)))))))
 have ⟨h,hs⟩:=hs.hr (h H2 w3)
 refine rs1 results13 ⟨(q6.wrap (1 - aB)),rfl,h⟩
 refine jA (eg (qb (ln (vJ (fun ρ wJ=>∃b2'0:Bool,∃HJ:NP,((aA == 3)=b2'0)∧Hst w0 H1 w2 HJ wJ∧HB HJ wJ [(p1,(Aa aA aB aE aC aD),24)]∧Has ρ [(14,(vb (cond b2'0 (aA == 3) (aA == 4))))]) ?_ ?_))))
 refine vM (t:=(aA == 3)) (by kernel_rfl) (fun hc6=>?_) (fun hc6=>?_)
 refine jB (jN ⟨true,_,hc6,hs,hb,hm⟩)
 refine rg (qb (ln ⟨false,_,hc6,hs,hb,hm⟩))
 rintro ρ w4 ⟨b2'0,H3,he0,hs,hb,hH⟩
 subst he0
 refine kM hH (jN (cbr h ?_ ?_))<;>intro h
 refine eg (q (ln (er (qJ (zM ?_)))))
 have ⟨h,hs⟩:=hs.hr (h H3 w4)
 refine rs1 results13 ⟨2,rfl,h⟩
 refine jB (uS (jN (eg (q (ln (er ?_))))))
 have ⟨h,hs⟩:=hs.hr (h H3 w4)
 refine rs1 results13 ⟨(-1),rfl,h⟩
end Go.Proofs
end
section
open Go Go.SE
namespace Go.Proofs
open Tryz
attribute [local irreducible] Calls
def jCP:Array Value:=#[.bool false,.bool false,.bool false,.string ⟨#[]⟩,.bool true,.bool true,.bool true,.string ⟨#[112,114,111,109,105,115,101]⟩,.bool true,.bool true,.bool false,.string ⟨#[115,105,103,110]⟩,.bool false,.bool false,.bool false,.string ⟨#[97,98,111,114,116]⟩,.bool true,.bool true,.bool true,.string ⟨#[114,101,115,111,108,118,101]⟩,.bool false,.bool false,.bool false,.string ⟨#[116,111,107,101,110]⟩,.bool false,.bool true,.bool false,.string ⟨#[105,110,115,116,101,97,100]⟩,.bool false,.bool false,.bool false,.string ⟨#[102,117,108,108]⟩]
theorem yR (w:World):Calls prog 26 #[] w (fun e w'=>∃r:Array Value,e=.returned (.agg r)∧(r=jCP∧Pure w w')):=by
 refine w_B2 w (fun r w'=>r=jCP∧Pure w w') ?_;unfold m_B2;intro p1 w1 h1;have E1:Pure w w1:=Ext.new h1;have hp:=New.own (Ext.refl w) h1;have b1:=Box.of_newA h1;clear h1;refine bx 32 b1 (by kernel_rfl) (by kernel_rfl) (fun w' b E=>?_);exact ⟨jCP,⟨by kernel_rfl,b.row_eq (by kernel_rfl)⟩,rfl,E1.own hp E⟩
theorem c_chk (l:Sp.Letter) (hk:1≤l.kind∧l.kind≤7) (p:Addr) {w0 w:World} {H:NP} {wd:ByteArray} {T:TypeId} (hB:Box w p [.bool (Sp.isSigned l.kind),.bool (Sp.isTexted l.kind),.bool (l.kind == 1 || l.kind == 4),.string wd] T) (hv:¬ H p.block) (hE:Pure w0 w) :
  m_L_j1 l.frm l.text l.fake p w0 H w (fun x w'=>x=Sp.zS l∧Pure w0 w'):=by
 obtain ⟨k,f,c,x,fk⟩:=l
 simp only at *
 have vis:∀{H H':NP} {w w':World},Box w p [.bool (Sp.isSigned k),.bool (Sp.isTexted k),.bool (k == 1 || k == 4),.string wd] T→¬ H p.block→Hst w0 H w H' w'→¬ H' p.block∧Box w' p [.bool (Sp.isSigned k),.bool (Sp.isTexted k),.bool (k == 1 || k == 4),.string wd] T:=fun hB hv hs=>by
  have h:=hs.disj (G:=(·=p.block)) (fun b e=>by subst e;exact ⟨hB.lt,hv⟩) _ rfl;exact ⟨h,hB.ext hs.ext h⟩
 unfold m_L_j1
 have bad:(f≠0∧f≠1)∨(Sp.isSigned k=false∧f≠0)∨(Sp.isTexted k=false∧x≠⟨#[]⟩)∨(fk=true∧k≠1∧k≠4)→(110:Int)=Sp.zS ⟨k,f,c,x,fk⟩:=fun h=>by
  unfold Sp.zS;rw [if_pos];rcases h with h | h | h | h
  ·exact .inr (.inr (.inl h))
  ·exact .inr (.inr (.inr (.inl h)))
  ·exact .inr (.inr (.inr (.inr (.inl h))))
  ·exact .inr (.inr (.inr (.inr (.inr h))))
 refine ⟨fun hc H4 w4 hs4=>⟨bad (.inl ?_),hE.hst hs4⟩,fun hc H4 w4 hs4=>?_⟩
 ·rw [Bool.and_eq_true] at hc;exact ⟨bne_iff_ne.1 hc.1,bne_iff_ne.1 hc.2⟩
 have hf:f=0∨f=1:=by
  rw [Bool.and_eq_false_iff] at hc;exact hc.imp (fun h=>by simpa using h) (fun h=>by simpa using h)
 obtain ⟨v4,B4⟩:=vis hB hv hs4
 have E4:=hE.hst hs4
 refine ⟨_,B4.cell0,fun H8 w8 hs8=>?_⟩
 obtain ⟨v8,B8⟩:=vis B4 v4 hs8
 have E8:=E4.hst hs8
 unfold m_L_j2
 refine ⟨fun hc2=>⟨bad (.inr (.inl ?_)),E8⟩,fun hc2=>?_⟩
 ·rw [Bool.and_eq_true] at hc2;exact ⟨by simpa using hc2.1,bne_iff_ne.1 hc2.2⟩
 have hs:¬ (Sp.isSigned k=false∧f≠0):=fun h=>by
  rw [Bool.and_eq_false_iff] at hc2;exact hc2.elim (fun h2=>by rw [h.1] at h2;cases h2) (fun h2=>h.2 (by simpa using h2))
 refine ⟨_,B8.cell (i:=1) rfl,fun H7 w7 hs7=>?_⟩
 obtain ⟨v7,B7⟩:=vis B8 v8 hs7
 have E7:=E8.hst hs7
 unfold m_L_j3
 refine ⟨fun hc3=>⟨bad (.inr (.inr (.inl ?_))),E7⟩,fun hc3=>?_⟩
 ·rw [Bool.and_eq_true] at hc3
  exact ⟨by simpa using hc3.1,by simpa using hc3.2⟩
 have ht:¬ (Sp.isTexted k=false∧x≠⟨#[]⟩):=fun h=>by
  rw [Bool.and_eq_false_iff] at hc3;exact hc3.elim (fun h2=>by rw [h.1] at h2;cases h2) (fun h2=>h.2 (by simpa using h2))
 refine ⟨_,B7.cell (i:=2) rfl,fun hc4 H6 w6 hs6=>⟨bad (.inr (.inr (.inr ?_))),E7.hst hs6⟩,fun hc4=>?_⟩
 ·rw [Bool.and_eq_true] at hc4
  have h1:(k == 1 || k == 4)=false:=by simpa using hc4.1
  rw [Bool.or_eq_false_iff] at h1
  exact ⟨hc4.2,by simpa using h1.1,by simpa using h1.2⟩
 have hfk:¬ (fk=true∧k≠1∧k≠4):=fun h=>by
  rw [Bool.and_eq_false_iff] at hc4;refine hc4.elim (fun h2=>?_) (fun h2=>by rw [h.1] at h2;cases h2);have h1:(k == 1 || k == 4)=true:=by
   cases hh:(k == 1 || k == 4) with
   | true=>rfl
   | false=>rw [hh] at h2;cases h2
  rw [Bool.or_eq_true] at h1;exact h1.elim (fun h3=>h.2.1 (by simpa using h3)) (fun h3=>h.2.2 (by simpa using h3))
 have good:¬ (k<1∨k>7∨(f≠0∧f≠1)∨(Sp.isSigned k=false∧f≠0)∨(Sp.isTexted k=false∧x≠⟨#[]⟩)∨(fk=true∧k≠1∧k≠4)):=by
  rintro (h | h | h | h | h | h)
  ·omega
  ·omega
  ·omega
  ·exact hs h
  ·exact ht h
  ·exact hfk h
 refine ⟨fun hc5 H6 w6 hs6=>⟨?_,E7.hst hs6⟩,fun hc5 H6 w6 hs6=>⟨?_,E7.hst hs6⟩⟩
 ·have:=of_decide_eq_true hc5
  unfold Sp.zS;rw [if_neg good,if_pos (by simp only;omega)]
 ·have:=of_decide_eq_false hc5
  unfold Sp.zS;rw [if_neg good,if_neg (by simp only;omega)]
theorem jCW (l:Sp.Letter) (w0:World):Calls prog 15 #[.agg #[.int .i64 l.kind,.int .i64 l.frm,.int .u64 l.c,.string l.text,.bool l.fake]] w0 (fun e w'=>∃r:Int,e=.returned (.int .i64 r)∧(r=Sp.zS l∧Pure w0 w')):=by
 refine w_L _ _ _ _ _ w0 (fun r w'=>r=Sp.zS l∧Pure w0 w') ?_;unfold m_L;refine ⟨fun hc H2 w2 hs2=>⟨?_,hs2.first⟩,fun hc H2 w2 hs2=>?_⟩
 ·unfold Sp.zS;rw [if_pos];rw [Bool.or_eq_true] at hc;exact hc.elim (fun h=>.inl (of_decide_eq_true h)) (fun h=>.inr (.inl (of_decide_eq_true h)))
 have hk:1≤l.kind∧l.kind≤7:=by
  rw [Bool.or_eq_false_iff] at hc;have h1:=of_decide_eq_false hc.1;have h2:=of_decide_eq_false hc.2;omega
 have E2:Pure w0 w2:=hs2.first;have idx:∃wd:ByteArray,∀w':World,(Instr.index 77 (.agg jCP) (.int .i64 l.kind)).run prog w'=.ok (.agg #[.bool (Sp.isSigned l.kind),.bool (Sp.isTexted l.kind),.bool (l.kind == 1 || l.kind == 4),.string wd]) w':=by
  have:l.kind=1∨l.kind=2∨l.kind=3∨l.kind=4∨l.kind=5∨l.kind=6∨l.kind=7:=by omega
  rcases this with e | e | e | e | e | e | e <;> rw [e]
  ·exact ⟨⟨#[112,114,111,109,105,115,101]⟩,fun w'=>by kernel_rfl⟩
  ·exact ⟨⟨#[115,105,103,110]⟩,fun w'=>by kernel_rfl⟩
  ·exact ⟨⟨#[97,98,111,114,116]⟩,fun w'=>by kernel_rfl⟩
  ·exact ⟨⟨#[114,101,115,111,108,118,101]⟩,fun w'=>by kernel_rfl⟩
  ·exact ⟨⟨#[116,111,107,101,110]⟩,fun w'=>by kernel_rfl⟩
  ·exact ⟨⟨#[105,110,115,116,101,97,100]⟩,fun w'=>by kernel_rfl⟩
  ·exact ⟨⟨#[102,117,108,108]⟩,fun w'=>by kernel_rfl⟩
 obtain ⟨wd,idx⟩:=idx;refine ⟨fun _=>True,trivial,?_⟩;rintro w9 e9;have E9:Pure w2 w9:=by rw [e9];exact Ext.drew w2
 have hH:∀b,H2 b→b<w9.heap.size:=fun b hb=>by have:=hs2.lt b hb;have:=E9.size;omega
 refine ⟨?_,?_⟩
 ·refine (yR w9).mono ?_;rintro _ w10 ⟨_,rfl,rfl,E10⟩;refine ⟨_,rfl,trivial,E10.keptP,_,_,_,_,fun w' _=>idx w',?_⟩;intro p2 w11 n11;have b11:=n11.at_size;have z10:=E10.size;have hv:¬ H2 p2.block:=fun hh=>by have:=hH _ hh;omega
  refine ⟨trivial,(Box.of_newA n11).canWs (by simp),hv,?_⟩;rintro w12 e12;have X:Ext (·=p2.block) w11 w12:=by rw [e12];exact Ext.storeRow _ _ _
  have B:Box w12 p2 [.bool (Sp.isSigned l.kind),.bool (Sp.isTexted l.kind),.bool (l.kind == 1 || l.kind == 4),.string wd] 76:=by rw [e12];exact (Box.of_newA n11).store rfl
  have z2:=E2.size;have z9:=E9.size;exact c_chk l hk p2 B hv ((((E2.trans E9).trans E10).trans (Ext.new n11)).own (by omega) X)
 ·intro p3 w13 n13;refine ⟨trivial,?_⟩;have b13:=n13.at_size;have E13:Pure w9 w13:=Ext.new n13;have hv:¬ H2 p3.block:=fun hh=>by have:=hH _ hh;omega
  refine (yR w13).mono ?_;rintro _ w14 ⟨_,rfl,rfl,E14⟩;have B14:=(Box.of_newA n13).pure E14;refine ⟨_,rfl,trivial,E14.keptP,_,_,_,_,fun w' _=>idx w',B14.canWs (by simp),hv,?_⟩;rintro w15 e15;have X:Ext (·=p3.block) w14 w15:=by rw [e15];exact Ext.storeRow _ _ _
  have B:Box w15 p3 [.bool (Sp.isSigned l.kind),.bool (Sp.isTexted l.kind),.bool (l.kind == 1 || l.kind == 4),.string wd] 76:=by rw [e15];exact B14.store rfl
  have z2:=E2.size;have z9:=E9.size;exact c_chk l hk p3 B hv ((((E2.trans E9).trans E13).trans E14).own (by omega) X)
abbrev RetS (S:NP) (w:World) (T:Sp.Tree) (e:Ending) (w':World):Prop:=∃s,e=.returned (.agg (tU T s).toArray)∧TreeAt S w' s T∧Pure w w'
theorem oQ {S:NP} (w:World) {A:Sp.Tree} {sa:Sl} {H3:NP} {w3 w4 w5:World} {p:Addr} {o:Obj} (hA:TreeAt S w sa A) (hs3:Hst w None w H3 w3) (n4:New w3 o p w4) (hs5:Hst w H3 w4 H3 w5):TreeAt S w5 sa A:=by
 have E3:Pure w w3:=hs3.first;have E4:Pure w3 w4:=Ext.new n4;exact (((hA.lt.pure E3).pure E4).ext hs5.ext (fun b hb hh=>by have:=hs3.old b hh;omega)).mono (fun b hb=>hb.1)
section
variable {S:NP} (w:World) (hS:∀b,w.heap.size≤b→S b)
include hS
theorem uE (A B:Sp.Tree) (sa sb:Sl) (hA:TreeAt S w sa A) (hB:TreeAt S w sb B):Calls prog 44 #[.agg (tU A sa).toArray,.agg (tU B sb).toArray] w (RetS S w (Sp.vP A B)):=by
 obtain ⟨k,f,t,u,x,ks⟩:=A;obtain ⟨k2,f2,t2,u2,x2,ks2⟩:=B;refine (w_C2 k f t u x sa k2 f2 t2 u2 x2 sb w (fun k' f' t' u' y s w'=>(⟨k',f',t',u',y,0,0⟩:Sp.Node)=(Sp.vP (.mk k f t u x ks) (.mk k2 f2 t2 u2 x2 ks2)).node∧TreeAt S w' s (Sp.vP (.mk k f t u x ks) (.mk k2 f2 t2 u2 x2 ks2))∧Pure w w') ?_).mono ?_
 ·unfold m_C2;intro H3 w3 hs3 p4 w4 n4 w5 hs5;have b4:=n4.at_size;have z3:=hs3.first.size;have B4:Box w4 p4 (tU (.mk k f t u x ks) sa++tU (.mk k2 f2 t2 u2 x2 ks2) sb) 53:=Box.of_newA n4;exact ⟨rfl,TreeAt.pair (B4.ext hs5.ext (fun hh=>by have:=hs3.lt _ hh;omega)) (hS _ (by omega)) (oQ w hA hs3 n4 hs5) (oQ w hB hs3 n4 hs5),(hs3.first.trans (Ext.new n4)).hst hs5⟩
 ·rintro _ w' ⟨k,f,t,u,y,s,rfl,hn,hT,E⟩;cases hn;exact ⟨s,rfl,hT,E⟩
theorem tM (n:Int) (A:Sp.Tree) (sa:Sl) (hA:TreeAt S w sa A):Calls prog 43 #[.int .i64 n,.agg (tU A sa).toArray] w (RetS S w (Sp.xB n A)):=by
 obtain ⟨k,f,t,u,x,ks⟩:=A;refine (w_F2 n k f t u x sa w (fun k' f' t' u' y s w'=>(⟨k',f',t',u',y,0,0⟩:Sp.Node)=(Sp.xB n (.mk k f t u x ks)).node∧TreeAt S w' s (Sp.xB n (.mk k f t u x ks))∧Pure w w') ?_).mono ?_
 ·unfold m_F2;intro H3 w3 hs3 p4 w4 n4 w5 hs5;have b4:=n4.at_size;have z3:=hs3.first.size;have B4:Box w4 p4 (tU (.mk k f t u x ks) sa) 53:=Box.of_newA n4;exact ⟨rfl,TreeAt.one (B4.ext hs5.ext (fun hh=>by have:=hs3.lt _ hh;omega)) (hS _ (by omega)) (oQ w hA hs3 n4 hs5),(hs3.first.trans (Ext.new n4)).hst hs5⟩
 ·rintro _ w' ⟨k,f,t,u,y,s,rfl,hn,hT,E⟩;cases hn;exact ⟨s,rfl,hT,E⟩
theorem oK (n:Int) (hn:n=0∨n=1) (fk:Bool) (A:Sp.Tree) (sa:Sl) (hA:TreeAt S w sa A):Calls prog 42 #[.int .i64 n,.bool fk,.agg (tU A sa).toArray] w (RetS S w (Sp.yK n A fk)):=by
 obtain ⟨k,f,t,u,x,ks⟩:=A;refine (w_E2 n fk k f t u x sa w (fun k' f' t' u' y s w'=>(⟨k',f',t',u',y,0,0⟩:Sp.Node)=(Sp.yK n (.mk k f t u x ks) fk).node∧TreeAt S w' s (Sp.yK n (.mk k f t u x ks) fk)∧Pure w w') ?_).mono ?_
 ·unfold m_E2;intro H3 w3 hs3 p4 w4 n4 w5 hs5;have b4:=n4.at_size;have z3:=hs3.first.size;have B4:Box w4 p4 (tU (.mk k f t u x ks) sa) 53:=Box.of_newA n4;refine ⟨?_,TreeAt.one (B4.ext hs5.ext (fun hh=>by have:=hs3.lt _ hh;omega)) (hS _ (by omega)) (oQ w hA hs3 n4 hs5),(hs3.first.trans (Ext.new n4)).hst hs5⟩;have:IntKind.i64.wrap (1 - n)=1 - n:=IntWalk.i64_in _ (by omega);rw [this];cases fk <;> rfl
 ·rintro _ w' ⟨k,f,t,u,y,s,rfl,hn,hT,E⟩;cases hn;exact ⟨s,rfl,hT,E⟩
theorem jRX (c:Int) (x:ByteArray):Calls prog 41 #[.int .u64 c,.string x] w (RetS S w (Sp.qN c x)):=by
 refine (w_D2 c x w (fun k f t u y s w'=>(⟨k,f,t,u,y,0,0⟩:Sp.Node)=(Sp.qN c x).node∧TreeAt S w' s (Sp.qN c x)∧Pure w w') ?_).mono ?_
 ·unfold m_D2;intro H1 w4 hs4;have E4:Pure w w4:=hs4.first;have z4:=E4.size;have hH:∀b,H1 b→b<w4.heap.size:=fun b hb=>hs4.lt b hb;refine (uE (S:=(w4.heap.size≤·)) w4 (fun _ h=>h) (Sp.jDE c) (Sp.vV x) Sl.nil Sl.nil TreeAt.leaf TreeAt.leaf).mono ?_;rintro _ w5 ⟨s5,rfl,hT5,E5⟩;refine ⟨_,_,_,_,_,s5,rfl,E5.keptP,?_⟩;refine (uE (S:=(w4.heap.size≤·)) w5 (fun b h=>by have:=E5.size;show w4.heap.size≤b;omega) (Sp.vV Sp.oO) (Sp.vP (Sp.jDE c) (Sp.vV x)) Sl.nil s5 TreeAt.leaf hT5).mono ?_;rintro _ w6 ⟨s6,rfl,hT6,E6⟩;refine ⟨_,_,_,_,_,s6,rfl,E6.keptP,fun w7 hs7=>⟨rfl,?_,((E4.trans E5).trans E6).hst hs7⟩⟩;exact (hT6.ext hs7.ext (fun b hb hh=>by have:=hH b hh;have:w4.heap.size≤b:=hb;omega)).mono (fun b hb=>hS b (by have:w4.heap.size≤b:=hb;omega))
 ·rintro _ w' ⟨k,f,t,u,y,s,rfl,hn,hT,E⟩;cases hn;exact ⟨s,rfl,hT,E⟩
end
theorem jRW (l:Sp.Letter) (hf:l.frm=0∨l.frm=1) (w0:World):Calls prog 17 #[.agg #[.int .i64 l.kind,.int .i64 l.frm,.int .u64 l.c,.string l.text,.bool l.fake]] w0 (RetS (w0.heap.size≤·) w0 (Sp.zJ l true true)):=by
 obtain ⟨kd,f,c,x,fk⟩:=l;simp only at hf;generalize hR:Sp.zJ ⟨kd,f,c,x,fk⟩ true true=R;refine (w_G2 kd f c x fk w0 (fun k f t u y s w'=>(⟨k,f,t,u,y,0,0⟩:Sp.Node)=R.node∧TreeAt (w0.heap.size≤·) w' s R∧Pure w0 w') ?_).mono ?_
 ·unfold m_G2;intro H2 w2 hs2;have E2:Pure w0 w2:=hs2.first;have z2:=E2.size;refine (jRX (S:=(w2.heap.size≤·)) w2 (fun _ h=>h) c x).mono ?_;rintro _ w3 ⟨sd,rfl,hT3,E3⟩;refine ⟨_,_,_,_,_,sd,rfl,E3.keptP,?_⟩;have z3:=E3.size;have go:∀{H3:NP} {w5:World},Hst w0 H2 w3 H3 w5→TreeAt (fun b=>w0.heap.size≤b∧¬ H3 b) w5 sd (Sp.qN c x)∧Pure w0 w5∧(∀w:World,w5.heap.size≤w.heap.size→∀b,w.heap.size≤b→w0.heap.size≤b∧¬ H3 b):=fun {H3 w5} hs=>by
   have hd:∀b,(w2.heap.size≤b∧b<w3.heap.size)→¬ H3 b:=hs.disj (fun b hb=>⟨hb.2,fun hh=>by have:=hs2.lt b hh;omega⟩);refine ⟨(hT3.lt.ext hs.ext (fun b hb=>hd b hb)).mono (fun b hb=>⟨by have:=hb.1;omega,hd b hb⟩),(E2.trans E3).hst hs,fun w hw b hb=>⟨by have:=hs.ext.size;omega,fun hh=>by have:=hs.lt b hh;omega⟩⟩
  have fin:∀{H3:NP} {wa wb:World} {s:Sl} {T:Sp.Tree},TreeAt (fun b=>w0.heap.size≤b∧¬ H3 b) wa s T→Pure w0 wa→Hst w0 H3 wa H3 wb→T=R→R.node=R.node∧TreeAt (w0.heap.size≤·) wb s R∧Pure w0 wb:=fun {H3 wa wb s T} h E hs e=>by
   subst e;exact ⟨rfl,(h.ext hs.ext (fun b hb=>hb.2)).mono (fun b hb=>hb.1),E.hst hs⟩
  have fin2:∀{H3:NP} {wa wb:World} {s:Sl} {T:Sp.Tree},TreeAt (fun b=>w0.heap.size≤b∧¬ H3 b) wa s T→Pure w0 wa→Hst w0 H3 wa H3 wb→R=T→(⟨T.node.kind,T.node.frm,T.node.to,T.node.num,T.node.text,0,0⟩:Sp.Node)=R.node∧TreeAt (w0.heap.size≤·) wb s R∧Pure w0 wb:=fun {H3 wa wb s T} h E hs e=>by
   subst e;refine ⟨?_,(fin h E hs rfl).2⟩;cases R;rfl
  refine ⟨fun hk H3 w5 hs5=>?_,fun h1=>⟨fun hk H3 w5 hs5=>?_,fun h2=>⟨fun hk H3 w5 hs5=>?_,fun h3=>⟨fun hk H3 w5 hs5=>?_,fun h4=>⟨fun hk H3 w5 hs5=>?_,fun h5=>⟨fun hk H3 w5 hs5=>?_,fun h6 H3 w5 hs5=>?_⟩⟩⟩⟩⟩⟩
  ·have hk:=beq_iff_eq.1 hk;obtain ⟨hD,E5,hS⟩:=go hs5;refine (oK w5 (hS w5 (Nat.le_refl _)) f hf fk _ sd hD).mono ?_;rintro _ w6 ⟨s6,rfl,hT6,E6⟩;refine ⟨_,_,_,_,_,s6,rfl,E6.keptP,fun w7 hs7=>fin2 hT6 (E5.trans E6) hs7 ?_⟩;rw [← hR];unfold Sp.zJ;rw [if_pos hk]
  ·have hk:=beq_iff_eq.1 hk;obtain ⟨hD,E5,hS⟩:=go hs5;refine (tM w5 (hS w5 (Nat.le_refl _)) f _ sd hD).mono ?_;rintro _ w6 ⟨s6,rfl,hT6,E6⟩;refine ⟨_,_,_,_,_,s6,rfl,E6.keptP,fun w7 hs7=>fin2 hT6 (E5.trans E6) hs7 ?_⟩;rw [← hR];unfold Sp.zJ;rw [if_neg (fun e=>beq_eq_false_iff_ne.1 h1 e),if_pos hk]
  ·have hk:=beq_iff_eq.1 hk;obtain ⟨hD,E5,hS⟩:=go hs5;refine ⟨fun _=>True,trivial,?_⟩;rintro w10 e10;have E10:Pure w5 w10:=by rw [e10];exact Ext.drew w5
   refine (p_S _ w10).mono ?_;rintro _ w11 ⟨rfl,E11⟩;refine ⟨_,_,_,_,_,_,rfl,trivial,E11.keptP,?_⟩;refine (p_W _ w11).mono ?_;rintro _ w12 ⟨rfl,E12⟩;refine ⟨_,_,_,_,_,_,rfl,E12.keptP,?_⟩;have z12:=((E10.trans E11).trans E12).size;refine (uE w12 (hS w12 z12) (Sp.vV Sp.yY) (Sp.jDE c) Sl.nil Sl.nil TreeAt.leaf TreeAt.leaf).mono ?_;rintro _ w13 ⟨s13,rfl,hT13,E13⟩;refine ⟨_,_,_,_,_,s13,rfl,E13.keptP,?_⟩;refine (tM w13 (hS w13 (by have:=E13.size;omega)) 0 _ s13 hT13).mono ?_;rintro _ w14 ⟨s14,rfl,hT14,E14⟩;refine ⟨_,_,_,_,_,s14,rfl,E14.keptP,fun w15 hs15=>fin2 hT14 (((((E5.trans E10).trans E11).trans E12).trans E13).trans E14) hs15 ?_⟩;rw [← hR];unfold Sp.zJ;rw [if_neg (fun e=>beq_eq_false_iff_ne.1 h1 e),if_neg (fun e=>beq_eq_false_iff_ne.1 h2 e),if_pos hk]
  ·have hk:=beq_iff_eq.1 hk;obtain ⟨hD,E5,hS⟩:=go hs5;refine ⟨fun _=>True,trivial,?_⟩;rintro w16 e16;have E16:Pure w5 w16:=by rw [e16];exact Ext.drew w5
   refine (p_S _ w16).mono ?_;rintro _ w17 ⟨rfl,E17⟩;refine ⟨_,_,_,_,_,_,rfl,trivial,E17.keptP,?_⟩;have E57:=E16.trans E17;refine (oK w17 (hS w17 E57.size) 0 (.inl rfl) fk _ sd (hD.pure E57)).mono ?_;rintro _ w18 ⟨s18,rfl,hT18,E18⟩;refine ⟨_,_,_,_,_,s18,rfl,trivial,E18.keptP,?_⟩;have E58:=E57.trans E18;refine (oK w18 (hS w18 E58.size) 1 (.inr rfl) fk _ sd (hD.pure E58)).mono ?_;rintro _ w19 ⟨s19,rfl,hT19,E19⟩;refine ⟨_,_,_,_,_,s19,rfl,trivial,E19.keptP,?_⟩;have E59:=E58.trans E19;refine (uE w19 (hS w19 E59.size) _ _ s18 s19 (hT18.pure E19) hT19).mono ?_;rintro _ w20 ⟨s20,rfl,hT20,E20⟩;refine ⟨_,_,_,_,_,s20,rfl,trivial,E20.keptP,?_⟩;have E510:=E59.trans E20;refine (uE w20 (hS w20 E510.size) (Sp.vV Sp.vZ) _ Sl.nil s20 TreeAt.leaf hT20).mono ?_;rintro _ w21 ⟨s21,rfl,hT21,E21⟩;refine ⟨_,_,_,_,_,s21,rfl,trivial,E21.keptP,?_⟩;have E511:=E510.trans E21;refine (tM w21 (hS w21 E511.size) f _ s21 hT21).mono ?_;rintro _ w22 ⟨s22,rfl,hT22,E22⟩;refine ⟨_,_,_,_,_,s22,rfl,E22.keptP,fun w23 hs23=>fin2 hT22 ((E5.trans E511).trans E22) hs23 ?_⟩;rw [← hR];unfold Sp.zJ;rw [if_neg (fun e=>beq_eq_false_iff_ne.1 h1 e),if_neg (fun e=>beq_eq_false_iff_ne.1 h2 e),if_neg (fun e=>beq_eq_false_iff_ne.1 h3 e),if_pos hk];simp only [Bool.and_true]
  ·have hk:=beq_iff_eq.1 hk;obtain ⟨hD,E5,hS⟩:=go hs5;refine ⟨fun _=>True,trivial,?_⟩;rintro w10 e10;have E10:Pure w5 w10:=by rw [e10];exact Ext.drew w5
   refine (p_S _ w10).mono ?_;rintro _ w11 ⟨rfl,E11⟩;refine ⟨_,_,_,_,_,_,rfl,trivial,E11.keptP,?_⟩;refine (p_W _ w11).mono ?_;rintro _ w12 ⟨rfl,E12⟩;refine ⟨_,_,_,_,_,_,rfl,E12.keptP,?_⟩;have z12:=((E10.trans E11).trans E12).size;refine (uE w12 (hS w12 z12) (Sp.vV Sp.vF) (Sp.jDE c) Sl.nil Sl.nil TreeAt.leaf TreeAt.leaf).mono ?_;rintro _ w13 ⟨s13,rfl,hT13,E13⟩;refine ⟨_,_,_,_,_,s13,rfl,E13.keptP,?_⟩;refine (tM w13 (hS w13 (by have:=E13.size;omega)) 2 _ s13 hT13).mono ?_;rintro _ w14 ⟨s14,rfl,hT14,E14⟩;refine ⟨_,_,_,_,_,s14,rfl,E14.keptP,fun w15 hs15=>fin2 hT14 (((((E5.trans E10).trans E11).trans E12).trans E13).trans E14) hs15 ?_⟩;rw [← hR];unfold Sp.zJ;rw [if_neg (fun e=>beq_eq_false_iff_ne.1 h1 e),if_neg (fun e=>beq_eq_false_iff_ne.1 h2 e),if_neg (fun e=>beq_eq_false_iff_ne.1 h3 e),if_neg (fun e=>beq_eq_false_iff_ne.1 h4 e),if_pos hk]
  ·have hk:=beq_iff_eq.1 hk;obtain ⟨hD,E5,hS⟩:=go hs5;refine ⟨fun _=>True,trivial,?_⟩;rintro w10 e10;have E10:Pure w5 w10:=by rw [e10];exact Ext.drew w5
   refine (p_S _ w10).mono ?_;rintro _ w11 ⟨rfl,E11⟩;refine ⟨_,_,_,_,_,_,rfl,trivial,E11.keptP,?_⟩;have z11:=(E10.trans E11).size;refine (uE w11 (hS w11 z11) (Sp.vV Sp.vN) _ Sl.nil sd TreeAt.leaf (hD.pure (E10.trans E11))).mono ?_;rintro _ w13 ⟨s13,rfl,hT13,E13⟩;refine ⟨_,_,_,_,_,s13,rfl,E13.keptP,?_⟩;refine (tM w13 (hS w13 (by have:=E13.size;omega)) 2 _ s13 hT13).mono ?_;rintro _ w14 ⟨s14,rfl,hT14,E14⟩;refine ⟨_,_,_,_,_,s14,rfl,E14.keptP,fun w15 hs15=>fin2 hT14 ((((E5.trans E10).trans E11).trans E13).trans E14) hs15 ?_⟩;rw [← hR];unfold Sp.zJ;rw [if_neg (fun e=>beq_eq_false_iff_ne.1 h1 e),if_neg (fun e=>beq_eq_false_iff_ne.1 h2 e),if_neg (fun e=>beq_eq_false_iff_ne.1 h3 e),if_neg (fun e=>beq_eq_false_iff_ne.1 h4 e),if_neg (fun e=>beq_eq_false_iff_ne.1 h5 e),if_pos hk]
  ·obtain ⟨hD,E5,hS⟩:=go hs5;refine ⟨fun _=>True,trivial,?_⟩;rintro w10 e10;have E10:Pure w5 w10:=by rw [e10];exact Ext.drew w5
   refine (p_S _ w10).mono ?_;rintro _ w11 ⟨rfl,E11⟩;refine ⟨_,_,_,_,_,_,rfl,trivial,E11.keptP,?_⟩;refine (p_W _ w11).mono ?_;rintro _ w12 ⟨rfl,E12⟩;refine ⟨_,_,_,_,_,_,rfl,E12.keptP,?_⟩;have z12:=((E10.trans E11).trans E12).size;refine (uE w12 (hS w12 z12) (Sp.vV Sp.jHT) (Sp.jDE c) Sl.nil Sl.nil TreeAt.leaf TreeAt.leaf).mono ?_;rintro _ w13 ⟨s13,rfl,hT13,E13⟩;refine ⟨_,_,_,_,_,s13,rfl,E13.keptP,fun w15 hs15=>fin2 hT13 ((((E5.trans E10).trans E11).trans E12).trans E13) hs15 ?_⟩;rw [← hR];unfold Sp.zJ;rw [if_neg (fun e=>beq_eq_false_iff_ne.1 h1 e),if_neg (fun e=>beq_eq_false_iff_ne.1 h2 e),if_neg (fun e=>beq_eq_false_iff_ne.1 h3 e),if_neg (fun e=>beq_eq_false_iff_ne.1 h4 e),if_neg (fun e=>beq_eq_false_iff_ne.1 h5 e),if_neg (fun e=>beq_eq_false_iff_ne.1 h6 e)]
 ·rintro _ w' ⟨k,f,t,u,y,s,rfl,hn,hT,E⟩;obtain ⟨k2,f2,t2,u2,x2,ks⟩:=R;cases hn;exact ⟨s,rfl,hT,E⟩
theorem jLQ {l:Sp.Letter} (h:Sp.zS l=0):l.frm=0∨l.frm=1:=by
 unfold Sp.zS at h;split at h
 ·cases h
 ·rename_i h1;simp only [not_or] at h1;have:=h1.2.2.1;by_cases h0:l.frm=0
  ·exact .inl h0
  ·exact .inr (Classical.byContradiction (fun h2=>this ⟨h0,h2⟩))
def jR (L:Sp.Pool) (l:Sp.Letter):Int×Int×Sp.Pool:=if Sp.zS l≠0 then (0,Sp.zS l,L) else Sp.of L (Sp.zJ l true true)
theorem jFA (p:Addr) (l:Sp.Letter) (w0:World) {L:Sp.Pool} {F:NP} (hP:jS w0 p L F) (hok:Sp.Ok L) :
  Calls prog 6 #[.pointer (some p),.agg #[.int .i64 l.kind,.int .i64 l.frm,.int .u64 l.c,.string l.text,.bool l.fake]] w0 (fun e w'=>∃r1 r2:Int,e=.returned (.tuple #[.int .i64 r1,.int .i64 r2])∧(r1=(jR L l).1∧r2=(jR L l).2.1∧∃F',jS w' p (jR L l).2.2 F'∧Ext F w0 w'∧∀b,F' b→F b∨w0.heap.size≤b)):=by
 refine w_H2 (some p) l.kind l.frm l.c l.text l.fake w0 (fun r1 r2 w'=>r1=(jR L l).1∧r2=(jR L l).2.1∧∃F',jS w' p (jR L l).2.2 F'∧Ext F w0 w'∧∀b,F' b→F b∨w0.heap.size≤b) ?_
 unfold m_H2
 intro H1 w1 hs1
 have E1:Pure w0 w1:=hs1.first
 have hF:∀b,F b→b<w0.heap.size:=fun b hb=>hP.lt hb
 refine (jCW l w1).mono ?_
 rintro _ w2 ⟨_,rfl,rfl,E2⟩
 have E02:=E1.trans E2
 refine ⟨_,rfl,E2.keptP,fun hc=>?_,fun hc=>⟨fun h=>(by cases h),fun _=>?_⟩⟩
 ·have hc:=bne_iff_ne.1 hc
  have e:jR L l=(0,Sp.zS l,L):=by unfold jR;rw [if_pos hc]
  rw [e];exact ⟨rfl,rfl,F,hP.pure E02,Ext.pure E02,fun b hb=>.inl hb⟩
 ·have hc:Sp.zS l=0:=by simpa using hc
  have e:jR L l=Sp.of L (Sp.zJ l true true):=by unfold jR;rw [if_neg (by simpa using hc)]
  rw [e]
  refine (jRW l (jLQ hc) w2).mono ?_
  rintro _ w3 ⟨s3,he,hT3,E3⟩
  generalize Sp.zJ l true true=T at *
  obtain ⟨tk,tf,tt,tu,tx,tks⟩:=T
  have he:_=Ending.returned (.agg #[.int .i64 tk,.int .i64 tf,.int .i64 tt,.int .u64 tu,.string tx,s3.v]):=he
  refine ⟨tk,tf,tt,tu,tx,s3,he,E3.keptP,?_⟩
  have E03:=E02.trans E3
  refine (c_Of (S:=fun b=>w2.heap.size≤b∧b<w3.heap.size) p (.mk tk tf tt tu tx tks) s3 w3 hT3.lt (hP.pure E03) hok (fun b hb hh=>by have:=hF b hb;have:=E02.size;omega) (fun b hb=>hb.2)).mono ?_
  rintro _ w4 ⟨r1,r2,rfl,h12,F',hP4,X4,hF4⟩
  obtain ⟨e1,e2⟩:=Prod.mk.inj h12
  refine ⟨r1,r2,rfl,X4.kept (fun b hb hh=>by have:=hs1.old b hb;have:=hF b hh;omega),e1,e2,F',hP4,(Ext.pure E03).trans X4,fun b hb=>(hF4 b hb).imp id (fun h=>by have:=E03.size;omega)⟩
end Go.Proofs
end
section
open Go Go.SE
namespace Go.Sp
theorem qD {L:Pool} (h:Wf L) (l:Letter):Wf (Go.Proofs.jR L l).2.2:=by
 unfold Go.Proofs.jR;split
 ·exact h
 ·exact of_wf h _
end Go.Sp
end
section
namespace Go.Sp
theorem jGJ (L:Pool) (n:Node):(make L n).2.2.length≤L.length+1:=by
 rcases tE L n with e | ⟨_,e⟩ <;> rw [e] <;> simp
theorem jON (t:Tree):∀L,(grow L t).2.2.length≤L.length+cnt t:=by
 induction t using Tree.ind with
 | h k f t u x ks ih =>
  have:∀(ks:List Tree),(∀i (hi:i<ks.length),∀L,(grow L ks[i]).2.2.length≤L.length+cnt ks[i])→∀n i L,(zD n i L ks).2.2.length≤L.length+1+xI ks:=by
   intro ks;induction ks with
   | nil=>intro _ n i L;unfold zD;have:=jGJ L n;simp only [xI];omega
   | cons t ts iht =>
    intro hh n i L
    have h0:=hh 0 (by simp) L
    simp only [List.getElem_cons_zero] at h0
    unfold zD
    simp only [xI]
    split
    ·simp only;omega
    ·have:=iht (fun i hi=>hh (i+1) (by simpa using hi)) (if i=0 then { n with a:=(grow L t).1 } else { n with b:=(grow L t).1 }) (i+1) (grow L t).2.2
     omega
  intro L
  have:=this ks ih ⟨k,f,t,u,x,0,0⟩ 0 L
  unfold grow
  rw [cnt];omega
theorem jTQ (L:Pool) (t:Tree):(of L t).2.2.length≤L.length+cnt t:=by
 have:=jON t L;unfold of;split
 ·simp only;omega
 ·split
  ·simp only;omega
  ·exact this
end Go.Sp
end
section
open Go Go.SE
namespace Go.Sp
theorem jEY {L:Pool} {n:Node} (hp:jW n=0) (ha:(jF n.kind).kids<1→n.a=0) (hb:(jF n.kind).kids<2→n.b=0) (hf:jP (jF n.kind) n=0) (hk:∀k∈jH n,inP L k=true) :
  check L n=if 1+((jH n).map (sizeOf L)).sum>4096∨(jH n).foldl (fun d t=>max d (depthOf L t)) 0+1>64 then (0,0,52) else (1+((jH n).map (sizeOf L)).sum,(jH n).foldl (fun d t=>max d (depthOf L t)) 0+1,0):=by
 unfold check
 simp only
 rw [if_neg (by simp [hp]),if_neg (fun h=>?_),if_neg (by simp [hf]),if_neg (fun h=>?_)]
 ·obtain ⟨k,hk1,hk2⟩:=List.any_eq_true.1 h
  rw [hk k hk1] at hk2;cases hk2
 ·rw [Bool.or_eq_true,Bool.and_eq_true,Bool.and_eq_true] at h
  rcases h with ⟨h1,h2⟩ | ⟨h1,h2⟩
  ·rw [ha (of_decide_eq_true h1)] at h2;simp at h2
  ·rw [hb (of_decide_eq_true h1)] at h2;simp at h2
theorem mk_ok {L:Pool} {n:Node} (hW:Wf L) (hl:L.length<65536) (hp:jW n=0) (ha:(jF n.kind).kids<1→n.a=0) (hb:(jF n.kind).kids<2→n.b=0) (hf:jP (jF n.kind) n=0) (hk:∀k∈jH n,inP L k=true)
  {sz d:Int} (hs:1+((jH n).map (sizeOf L)).sum=sz) (hd:(jH n).foldl (fun d t=>max d (depthOf L t)) 0+1=d) :
  ((sz>4096∨d>64)→(make L n).2.1=52)∧(¬ (sz>4096∨d>64)→∃r M,make L n=(r,0,L++M)∧inP (L++M) r=true∧nodeOf (L++M) r=n∧Wf (L++M)∧sizeOf (L++M) r=sz∧depthOf (L++M) r=d∧(L++M).length≤L.length+1):=by
 have hc:=jEY hp ha hb hf hk
 rw [hs,hd] at hc
 refine ⟨fun h=>?_,fun h=>?_⟩
 ·rw [if_pos h] at hc
  unfold make;simp only [hc];rfl
 ·rw [if_neg h] at hc
  have h0:(make L n).2.1=0:=by
   unfold make;simp only [hc];rw [if_neg (by simp)];split
   ·rfl
   ·rw [if_neg (by omega)]
  obtain ⟨M,e⟩:=lK L n
  obtain ⟨m1,m2,_⟩:=uO h0
  have hw:=xV hW n
  have hfew:=jGJ L n
  rw [e] at m1 m2 hw hfew
  refine ⟨(make L n).1,M,by rw [← e,← h0],m1,m2,hw,?_,?_,hfew⟩
  ·rw [(hw.node m1).2.2.2.2.2.1,m2,← hs]
   congr 2
   exact List.map_congr_left (fun k hk'=>tW (hk k hk'))
  ·rw [(hw.node m1).2.2.2.2.2.2,m2,← hd]
   congr 1
   have:∀(l:List Int) (d:Int),(∀k∈l,inP L k=true)→l.foldl (fun d k=>max d (depthOf (L++M) k)) d=l.foldl (fun d k=>max d (depthOf L k)) d:=by
    intro l;induction l with
    | nil=>intro d _;rfl
    | cons a l ih=>intro d hh;simp only [List.foldl_cons];rw [oI (hh a (by simp))];exact ih _ (fun k hk=>hh k (by simp [hk]))
   exact this _ _ hk
theorem make_old {L:Pool} (hW:Wf L) {t:Int} (ht:inP L t=true):make L (nodeOf L t)=(t,0,L):=by
 obtain ⟨h1,h2,h3,h4,h5,h6,h7⟩:=hW.node ht;have hc:=jEY h1 h2 h3 h4 (fun k hk=>(h5 k hk).1);rw [← h6,← h7] at hc;obtain ⟨i,hi,rfl⟩:=lW ht;have hsz:=hW.ok.size L[i] (List.getElem_mem hi);have hdp:=hW.ok.depth L[i] (List.getElem_mem hi);have e1:sizeOf L ((i:Int)+1)=L[i].size:=by simp [sizeOf,jAS hi]
 have e2:depthOf L ((i:Int)+1)=L[i].depth:=by simp [depthOf,jAS hi]
 rw [if_neg (by omega)] at hc;have hfd:find L (nodeOf L ((i:Int)+1))=some i:=by rw [kN hi];exact Go.Proofs.jIW hW.ok (List.getElem?_eq_getElem hi)
 unfold make;simp only [hc,hfd];rw [if_neg (by simp)]
theorem jDW (k:Int):(jF k).kids=0∨(jF k).kids=1∨(jF k).kids=2:=by
 unfold jF jCK
 repeat' split
 all_goals simp
theorem jRI {L:Pool} (hW:Wf L):∀(m:Nat) (t:Int),t.toNat=m→inP L t=true→grow L (jE L t)=(t,0,L):=by
 intro m;induction m using Nat.strongRecOn with
 | _ m ih =>
 intro t hm ht;have hmk:=make_old hW ht;obtain ⟨h1,h2,h3,h4,h5,h6,h7⟩:=hW.node ht;have hpos:=(jY.1 ht).1;have kid:∀k∈jH (nodeOf L t),grow L (jE L k)=(k,0,L):=fun k hk=>by
  have:=jY.1 (h5 k hk).1;exact ih k.toNat (by have:=(h5 k hk).2;omega) k rfl (h5 k hk).1
 rw [zT hW ht,grow];generalize nodeOf L t=n at *;obtain ⟨k,f,t',u,x,a,b⟩:=n;unfold jH at kid ⊢;simp only at *;rcases jDW k with h | h | h
 ·rw [h] at kid ⊢;have ea:=h2 (by omega);have eb:=h3 (by omega);subst ea;subst eb;simpa [zD] using hmk
 ·rw [h] at kid ⊢;have eb:=h3 (by omega);subst eb;have k1:=kid a (by simp);simpa [zD,k1] using hmk
 ·rw [h] at kid ⊢;have k1:=kid a (by simp);have k2:=kid b (by simp);simpa [zD,k1,k2] using hmk
structure LP (T:Tree) (sz d:Int):Prop where
 s1:1≤sz
 d1:1≤d
 yes:∀i s,0≤i→0≤s→s+sz≤4096→i+d≤64→looks i s T=(0,s+sz)
 no:∀i s,0≤i→0≤s→(4096<s+sz∨64<i+d)→(looks i s T).1=52
theorem LP0 {k f t u:Int} {x:ByteArray} (h:kI ⟨k,f,t,u,x,0,0⟩ 0=0):LP (.mk k f t u x []) 1 1:=by
 refine ⟨by omega,by omega,fun i s hi hs h1 h2=>?_,fun i s hi hs h1=>?_⟩
 ·rw [looks,if_neg (by omega),if_neg (by omega)];simp [zL,h]
 ·rw [looks];split
  ·rfl
  ·rw [if_pos (by omega)]
theorem LP1 {k f t u:Int} {x:ByteArray} {A:Tree} {sa da:Int} (h:kI ⟨k,f,t,u,x,0,0⟩ 1=0) (hA:LP A sa da):LP (.mk k f t u x [A]) (1+sa) (da+1):=by
 have a1:=hA.s1;have a2:=hA.d1;refine ⟨by omega,by omega,fun i s hi hs h1 h2=>?_,fun i s hi hs h1=>?_⟩
 ·rw [looks,if_neg (by omega),if_neg (by omega)];simp only [List.length_cons,List.length_nil,zL,h,if_pos,hA.yes (i+1) (s+1) (by omega) (by omega) (by omega) (by omega)];simp;omega
 ·rw [looks];split
  ·rfl
  ·split
   ·rfl
   ·simp only [List.length_cons,List.length_nil,zL,h,if_pos];simpa using hA.no (i+1) (s+1) (by omega) (by omega) (by omega)
theorem LP2 {k f t u:Int} {x:ByteArray} {A B:Tree} {sa da sb db:Int} (h:kI ⟨k,f,t,u,x,0,0⟩ 2=0) (hA:LP A sa da) (hB:LP B sb db):LP (.mk k f t u x [A,B]) (1+(sa+sb)) (max da db+1):=by
 have a1:=hA.s1;have a2:=hA.d1;have b1:=hB.s1;have b2:=hB.d1;refine ⟨by omega,by omega,fun i s hi hs h1 h2=>?_,fun i s hi hs h1=>?_⟩
 ·rw [looks,if_neg (by omega),if_neg (by omega)];simp only [List.length_cons,List.length_nil,zL,h,if_pos,hA.yes (i+1) (s+1) (by omega) (by omega) (by omega) (by omega),hB.yes (i+1) (s+1+sa) (by omega) (by omega) (by omega) (by omega)];simp;omega
 ·rw [looks];split
  ·rfl
  ·split
   ·rfl
   ·simp only [List.length_cons,List.length_nil,zL,h,if_pos];by_cases hc:s+1+sa≤4096∧i+1+da≤64
    ·rw [hA.yes (i+1) (s+1) (by omega) (by omega) hc.1 hc.2];simpa using hB.no (i+1) (s+1+sa) (by omega) (by omega) (by omega)
    ·have:=hA.no (i+1) (s+1) (by omega) (by omega) (by omega);rw [this];simp
theorem jNX {L:Pool} (hW:Wf L):∀(m:Nat) (t:Int),t.toNat=m→inP L t=true→LP (jE L t) (sizeOf L t) (depthOf L t):=by
 intro m;induction m using Nat.strongRecOn with
 | _ m ih =>
 intro t hm ht;obtain ⟨h1,h2,h3,h4,h5,h6,h7⟩:=hW.node ht;have hpos:=(jY.1 ht).1;have kid:∀k∈jH (nodeOf L t),LP (jE L k) (sizeOf L k) (depthOf L k):=fun k hk=>by
  have:=jY.1 (h5 k hk).1;exact ih k.toNat (by have:=(h5 k hk).2;omega) k rfl (h5 k hk).1
 have own:∀len:Nat,(len:Int)=(jF (nodeOf L t).kind).kids→kI ⟨(nodeOf L t).kind,(nodeOf L t).frm,(nodeOf L t).to,(nodeOf L t).num,(nodeOf L t).text,0,0⟩ len=0:=fun len hl=>by
  have e1:jW ⟨(nodeOf L t).kind,(nodeOf L t).frm,(nodeOf L t).to,(nodeOf L t).num,(nodeOf L t).text,0,0⟩=0:=h1;have e2:jP (jF (nodeOf L t).kind) ⟨(nodeOf L t).kind,(nodeOf L t).frm,(nodeOf L t).to,(nodeOf L t).num,(nodeOf L t).text,0,0⟩=0:=h4;unfold kI;simp only [e1];simp [hl,e2]
 rw [zT hW ht,h6,h7];generalize nodeOf L t=n at *;obtain ⟨k,f,t',u,x,a,b⟩:=n;unfold jH at kid ⊢;simp only at *;rcases jDW k with h | h | h
 ·rw [h];simpa using LP0 (own 0 (by omega))
 ·rw [h] at kid ⊢;have k1:=kid a (by simp);have:=LP1 (own 1 (by omega)) k1;have e:=k1.d1;simpa [Int.max_eq_right (show 0≤depthOf L a by omega)] using this
 ·rw [h] at kid ⊢;have k1:=kid a (by simp);have k2:=kid b (by simp);have:=LP2 (own 2 (by omega)) k1 k2;have e:=k1.d1;simpa [Int.max_eq_right (show 0≤depthOf L a by omega)] using this
end Go.Sp
end
section
open Go Go.SE
namespace Go.Sp
open Go.Proofs
theorem jCG {k f t u:Int} {x:ByteArray} {len:Nat} (h:kI ⟨k,f,t,u,x,0,0⟩ len=0):jW ⟨k,f,t,u,x,0,0⟩=0∧(len:Int)=(jF k).kids∧jP (jF k) ⟨k,f,t,u,x,0,0⟩=0:=by
 unfold kI at h;simp only at h;by_cases h1:jW ⟨k,f,t,u,x,0,0⟩=0
 ·rw [if_pos h1] at h;by_cases h2:(len:Int)≠(jF k).kids
  ·rw [if_pos h2] at h;simp at h
  ·rw [if_neg h2] at h;exact ⟨h1,Classical.byContradiction h2,by simpa using h⟩
 ·rw [if_neg h1] at h;rw [if_neg h1] at h;exact absurd h h1
theorem jTU {L:Pool} {n:Node} (hW:Wf L) (hp:jW n=0) (ha:(jF n.kind).kids<1→n.a=0) (hb:(jF n.kind).kids<2→n.b=0) (hf:jP (jF n.kind) n=0) (hk:∀k∈jH n,inP L k=true)
  {sz d:Int} (hs:1+((jH n).map (sizeOf L)).sum=sz) (hd:(jH n).foldl (fun d t=>max d (depthOf L t)) 0+1=d) (h:¬ (sz>4096∨d>64)) :
  (∃r M,make L n=(r,0,L++M)∧inP (L++M) r=true∧nodeOf (L++M) r=n∧Wf (L++M)∧sizeOf (L++M) r=sz∧depthOf (L++M) r=d∧(L++M).length≤L.length+1)∨((make L n).2.1=6∧65536≤L.length):=by
 by_cases hl:L.length<65536
 ·exact .inl ((mk_ok hW hl hp ha hb hf hk hs hd).2 h)
 have hc:=jEY hp ha hb hf hk
 rw [hs,hd,if_neg h] at hc
 cases hfd:find L n with
 | none =>
  right
  unfold make;simp only [hc,hfd]
  rw [if_neg (by simp),if_pos (by omega)]
  exact ⟨rfl,by omega⟩
 | some i =>
  left
  obtain ⟨hi,e⟩:=tK hfd
  have hm:make L n=((i:Int)+1,0,L):=by unfold make;simp only [hc,hfd];rw [if_neg (by simp)]
  have hin:inP L ((i:Int)+1)=true:=jY.2 ⟨by omega,by omega⟩
  have hn:nodeOf L ((i:Int)+1)=n:=by rw [kN hi,e]
  have hw:=hW.node hin
  rw [hn] at hw
  refine ⟨_,[],by rw [hm,List.append_nil],by rw [List.append_nil];exact hin,by rw [List.append_nil];exact hn,by rw [List.append_nil];exact hW,?_,?_,by simp⟩
  ·rw [List.append_nil,← hs,hw.2.2.2.2.2.1]
  ·rw [List.append_nil,← hd,hw.2.2.2.2.2.2]
abbrev Grown (L:Pool) (T:Tree) (sz d:Int) (q:Int×Int×Pool):Prop:=(∃r M,q=(r,0,L++M)∧inP (L++M) r=true∧Wf (L++M)∧sizeOf (L++M) r=sz∧depthOf (L++M) r=d∧((L++M).length:Int)≤L.length+sz)∨(q.2.1=6∧65536<L.length+sz)
structure GP (T:Tree) (sz d:Int):Prop extends LP T sz d where
 grw:∀L,Wf L→sz≤4096→d≤64→Grown L T sz d (grow L T)
theorem GP0 {k f t u:Int} {x:ByteArray} (h:kI ⟨k,f,t,u,x,0,0⟩ 0=0):GP (.mk k f t u x []) 1 1:=by
 refine ⟨LP0 h,fun L hW h1 h2=>?_⟩;obtain ⟨o1,o2,o3⟩:=jCG h;have hk:jH ⟨k,f,t,u,x,0,0⟩=[]:=by simp [jH,← o2]
 rw [grow,zD];rcases jTU (n:=⟨k,f,t,u,x,0,0⟩) hW o1 (fun _=>rfl) (fun _=>rfl) o3 (by rw [hk];simp) (sz:=1) (d:=1) (by rw [hk];rfl) (by rw [hk];rfl) (by omega) with ⟨r,M,e,i,_,w,s,dd,l⟩ | ⟨e,l⟩
 ·exact .inl ⟨r,M,e,i,w,s,dd,by omega⟩
 ·exact .inr ⟨e,by omega⟩
theorem GP1 {k f t u:Int} {x:ByteArray} {A:Tree} {sa da:Int} (h:kI ⟨k,f,t,u,x,0,0⟩ 1=0) (hA:GP A sa da):GP (.mk k f t u x [A]) (1+sa) (da+1):=by
 refine ⟨LP1 h hA.toLP,fun L hW h1 h2=>?_⟩;obtain ⟨o1,o2,o3⟩:=jCG h;have s1:=hA.s1;have d1:=hA.d1;rw [grow];rcases hA.grw L hW (by omega) (by omega) with ⟨r,M,e,i,w,s,dd,l⟩ | ⟨e,l⟩
 ·rw [zD,e,if_neg (by simp),if_pos rfl,zD];have hk:jH ⟨k,f,t,u,x,r,0⟩=[r]:=by simp [jH,← o2]
  rcases jTU (n:=⟨k,f,t,u,x,r,0⟩) w o1 (fun hh=>by simp only at hh;omega) (fun _=>rfl) o3 (by rw [hk];intro k hk;simp at hk;rw [hk];exact i) (sz:=1+sa) (d:=da+1) (by rw [hk];simp [s]) (by rw [hk];simp [dd];omega) (by omega) with ⟨r',M',e',i',_,w',s',dd',l'⟩ | ⟨e',l'⟩
  ·exact .inl ⟨r',M++M',by rw [← List.append_assoc];exact e',by rw [← List.append_assoc];exact i',by rw [← List.append_assoc];exact w',by rw [← List.append_assoc];exact s',by rw [← List.append_assoc];exact dd',by rw [← List.append_assoc];omega⟩
  ·exact .inr ⟨e',by omega⟩
 ·rw [zD,if_pos (by rw [e];decide)];exact .inr ⟨e,by omega⟩
theorem GP2 {k f t u:Int} {x:ByteArray} {A B:Tree} {sa da sb db:Int} (h:kI ⟨k,f,t,u,x,0,0⟩ 2=0) (hA:GP A sa da) (hB:GP B sb db):GP (.mk k f t u x [A,B]) (1+(sa+sb)) (max da db+1):=by
 refine ⟨LP2 h hA.toLP hB.toLP,fun L hW h1 h2=>?_⟩;obtain ⟨o1,o2,o3⟩:=jCG h;have s1:=hA.s1;have d1:=hA.d1;have s2:=hB.s1;have d2:=hB.d1;rw [grow];rcases hA.grw L hW (by omega) (by omega) with ⟨r,M,e,i,w,s,dd,l⟩ | ⟨e,l⟩
 ·rw [zD,e,if_neg (by simp),if_pos rfl];simp only;rcases hB.grw (L++M) w (by omega) (by omega) with ⟨r2,M2,e2,i2,w2,ss2,dd2,l2⟩ | ⟨e2,l2⟩
  ·rw [zD,e2,if_neg (by simp),if_neg (by omega),zD];have hk:jH ⟨k,f,t,u,x,r,r2⟩=[r,r2]:=by simp [jH,← o2]
   rcases jTU (n:=⟨k,f,t,u,x,r,r2⟩) w2 o1 (fun hh=>by simp only at hh;omega) (fun hh=>by simp only at hh;omega) o3 (by rw [hk];intro k hk;simp at hk;rcases hk with rfl | rfl;exact jAD i;exact i2) (sz:=1+(sa+sb)) (d:=max da db+1) (by rw [hk];simp [-List.append_assoc,tW i,s,ss2]) (by rw [hk];simp [-List.append_assoc,oI i,dd,dd2];omega) (by omega) with ⟨r',M',e',i',_,w',s',dd',l'⟩ | ⟨e',l'⟩
   ·exact .inl ⟨r',M++M2++M',by rw [← List.append_assoc,← List.append_assoc];exact e',by rw [← List.append_assoc,← List.append_assoc];exact i',by rw [← List.append_assoc,← List.append_assoc];exact w',by rw [← List.append_assoc,← List.append_assoc];exact s',by rw [← List.append_assoc,← List.append_assoc];exact dd',by rw [← List.append_assoc,← List.append_assoc];omega⟩
   ·exact .inr ⟨e',by omega⟩
  ·rw [zD,if_pos (by rw [e2];decide)];exact .inr ⟨e2,by omega⟩
 ·rw [zD,if_pos (by rw [e];decide)];exact .inr ⟨e,by omega⟩
theorem GP.of {T:Tree} {sz d:Int} (h:GP T sz d) (hs:sz≤4096) (hd:d≤64) {L:Pool} (hW:Wf L):(Sp.of L T).2.1=0∨(Sp.of L T=(0,6,L)∧65536<L.length+sz):=by
 unfold Sp.of;rw [h.yes 0 0 (by omega) (by omega) (by omega) (by omega),if_neg (by simp)];rcases h.grw L hW hs hd with ⟨r,M,e,_⟩ | ⟨e,l⟩
 ·rw [e];simp
 ·rw [if_pos (by rw [e];decide),e];exact .inr ⟨rfl,l⟩
theorem oF {x:ByteArray} (h:x.size≤64):GP (vV x) 1 1:=GP0 (by
 have e1:jW ⟨3,0,0,0,x,0,0⟩=0:=by kernel_rfl
 have e2:jP (jF 3) ⟨3,0,0,0,x,0,0⟩=0:=by show (if false=true then (50:Int) else if x.size>64 then 1 else 0)=0;rw [if_neg (by simp),if_neg (by omega)]
 unfold kI;simp only [e1];simpa [jF] using e2)
theorem jKD (c:Int):GP (jDE c) 1 1:=GP0 (by kernel_rfl)
theorem xX {a b:Tree} {sa da sb db:Int} (ha:GP a sa da) (hb:GP b sb db):GP (vP a b) (1+(sa+sb)) (max da db+1):=GP2 (by kernel_rfl) ha hb
theorem jCQ {n:Int} (hn:n=0∨n=1∨n=2) {a:Tree} {sa da:Int} (ha:GP a sa da):GP (xB n a) (1+sa) (da+1):=GP1 (by rcases hn with rfl | rfl | rfl <;> kernel_rfl) ha
theorem jIR {n:Int} (hn:n=0∨n=1) {a:Tree} {g:Bool} {sa da:Int} (ha:GP a sa da):GP (yK n a g) (1+sa) (da+1):=by
 unfold yK;cases g
 ·exact GP1 (by rcases hn with rfl | rfl <;> kernel_rfl) ha
 ·exact GP1 (by rcases hn with rfl | rfl <;> kernel_rfl) ha
theorem jUI (c:Int) {x:ByteArray} (h:x.size≤64):GP (qN c x) 5 3:=xX (oF (by decide)) (xX (jKD c) (oF h))
theorem jOO {l:Letter} (hf:l.frm=0∨l.frm=1) (hx:l.text.size≤64) (a b:Bool):∃sz d,GP (zJ l a b) sz d∧sz≤40∧d≤20:=by
 unfold zJ;have hd:=jUI l.c hx;split;· exact ⟨_,_,jIR hf hd,by omega,by omega⟩
 split;· exact ⟨_,_,jCQ (hf.imp id .inl) hd,by omega,by omega⟩
 split;· exact ⟨_,_,jCQ (.inl rfl) (xX (oF (by decide)) (jKD _)),by omega,by omega⟩
 split;· exact ⟨_,_,jCQ (hf.imp id .inl) (xX (oF (by decide)) (xX (jIR (.inl rfl) hd) (jIR (.inr rfl) hd))),by omega,by omega⟩
 split;· exact ⟨_,_,jCQ (.inr (.inr rfl)) (xX (oF (by decide)) (jKD _)),by omega,by omega⟩
 split;· exact ⟨_,_,jCQ (.inr (.inr rfl)) (xX (oF (by decide)) hd),by omega,by omega⟩
 exact ⟨_,_,xX (oF (by decide)) (jKD _),by omega,by omega⟩
abbrev noX:ByteArray:=⟨#[]⟩
inductive TG:Tree→Nat→NP
 | name {k:Int} {v:Nat} (hk:k=1∨k=6) (hv:v<16):TG (.mk k v 0 0 noX []) 1 1
 | num {u:Nat} (hu:u<18446744073709551616):TG (.mk 2 0 0 u noX []) 1 1
 | data {x:ByteArray} (hx:x.size≤64):TG (.mk 3 0 0 0 x []) 1 1
 | pair {a b:Tree} {sa da sb db:Nat} (ha:TG a sa da) (hb:TG b sb db):TG (.mk 4 0 0 0 noX [a,b]) (1+(sa+sb)) (max da db+1)
 | hash {a:Tree} {sa da:Nat} (ha:TG a sa da):TG (.mk 5 0 0 0 noX [a]) (1+sa) (da+1)
 | sign {v:Nat} {a:Tree} {sa da:Nat} (hv:v<16) (ha:TG a sa da):TG (.mk 7 v 0 0 noX [a]) (1+sa) (da+1)
 | prom {k:Int} {v u:Nat} {a:Tree} {sa da:Nat} (hk:k=8∨k=9) (hv:v<16) (hu:u<16) (hn:v≠u) (ha:TG a sa da):TG (.mk k v u 0 noX [a]) (1+sa) (da+1)
theorem tB {k f t u:Int} {x:ByteArray} {len:Nat} (h1:jW ⟨k,f,t,u,x,0,0⟩=0) (h2:(len:Int)=(jF k).kids) (h3:jP (jF k) ⟨k,f,t,u,x,0,0⟩=0):kI ⟨k,f,t,u,x,0,0⟩ len=0:=by
 unfold kI;simp only [h1];simp [h2,h3]
theorem jQT {k:Int} {v:Nat} (hk:k=1∨k=6) (hv:v<16):kI ⟨k,v,0,0,noX,0,0⟩ 0=0:=by
 rcases hk with rfl | rfl <;> exact tB (by simp [jW,jF,qI]) (by simp [jF]) (by simp [jP,jF,qH,ByteArray.size];omega)
theorem jTM (u:Nat):kI ⟨2,0,0,u,noX,0,0⟩ 0=0 :=
 tB (by simp [jW,jF,qI]) (by simp [jF]) (by simp [jP,jF,qH,ByteArray.size])
theorem jQV {x:ByteArray} (hx:x.size≤64):kI ⟨3,0,0,0,x,0,0⟩ 0=0 :=
 tB (by simp [jW,jF,qI]) (by simp [jF]) (by simp [jP,jF,qH];omega)
theorem jQS:kI ⟨4,0,0,0,noX,0,0⟩ 2=0:=by kernel_rfl
theorem jQU:kI ⟨5,0,0,0,noX,0,0⟩ 1=0:=by kernel_rfl
theorem jQQ {v:Nat} (hv:v<16):kI ⟨7,v,0,0,noX,0,0⟩ 1=0 :=
 tB (by simp [jW,jF,qI]) (by simp [jF]) (by simp [jP,jF,qH,ByteArray.size];omega)
theorem jQR {k:Int} {v u:Nat} (hk:k=8∨k=9) (hv:v<16) (hu:u<16) (hn:v≠u):kI ⟨k,v,u,0,noX,0,0⟩ 1=0:=by
 have:¬ (u:Int)=v:=by omega
 rcases hk with rfl | rfl <;> exact tB (by simp [jW,jF,qI]) (by simp [jF]) (by simp [jP,jF,qH,this,ByteArray.size];omega)
theorem TG.gp {t:Tree} {s d:Nat} (h:TG t s d):GP t s d:=by
 induction h with
 | name hk hv=>exact GP0 (jQT hk hv)
 | num hu=>exact GP0 (jTM _)
 | data hx=>exact GP0 (jQV hx)
 | @pair a b sa da sb db _ _ h1 h2 =>
  have:=GP2 jQS h1 h2
  rw [show ((1+(sa+sb):Nat):Int)=1+((sa:Int)+(sb:Int)) by omega,show ((max da db+1:Nat):Int)=max (da:Int) (db:Int)+1 by omega]
  exact this
 | hash _ h=>simpa using GP1 jQU h
 | sign hv _ h=>simpa using GP1 (jQQ hv) h
 | prom hk hv hu hn _ h=>simpa using GP1 (jQR hk hv hu hn) h
theorem TG.cnt {t:Tree} {s d:Nat} (h:TG t s d):cnt t=s∧1≤d:=by
 induction h with
 | pair _ _ h1 h2=>simp [Sp.cnt,xI,h1.1,h2.1]
 | hash _ h=>simp [Sp.cnt,xI,h.1]
 | sign _ _ h=>simp [Sp.cnt,xI,h.1]
 | prom _ _ _ _ _ h=>simp [Sp.cnt,xI,h.1]
 | _=>simp [Sp.cnt,xI]
theorem TG.nums {t:Tree} {s d:Nat} (h:TG t s d):NumT t:=by
 have k1:∀{a:Tree},NumT a→∀i (hi:i<[a].length),NumT [a][i]:=fun h i hi=>by
  have:i=0:=by simp at hi;exact hi
  subst this;exact h
 have k2:∀{a b:Tree},NumT a→NumT b→∀i (hi:i<[a,b].length),NumT [a,b][i]:=fun h1 h2 i hi=>by
  rcases (show i=0∨i=1 by simp at hi;omega) with rfl | rfl
  ·exact h1
  ·exact h2
 have k0:∀i (hi:i<([]:List Tree).length),NumT ([]:List Tree)[i]:=fun i hi=>by simp at hi
 have z:vU 0:=⟨by decide,by decide⟩;induction h with
 | name hk hv=>exact .mk _ _ _ _ _ _ z k0
 | num hu=>exact .mk _ _ _ _ _ _ ⟨by omega,by omega⟩ k0
 | data hx=>exact .mk _ _ _ _ _ _ z k0
 | pair _ _ h1 h2=>exact .mk _ _ _ _ _ _ z (k2 h1 h2)
 | hash _ h=>exact .mk _ _ _ _ _ _ z (k1 h)
 | sign _ _ h=>exact .mk _ _ _ _ _ _ z (k1 h)
 | prom _ _ _ _ _ h=>exact .mk _ _ _ _ _ _ z (k1 h)
theorem TG.looks {t:Tree} {s d:Nat} (h:TG t s d) (hs:s≤4096) (hd:d≤64):(looks 0 0 t).1=0:=by
 rw [h.gp.yes 0 0 (by omega) (by omega) (by omega) (by omega)]
theorem TG.of {t:Tree} {s d:Nat} (h:TG t s d) (hs:s≤4096) (hd:d≤64):(of [] t).2.1=0:=by
 rcases h.gp.of (L:=[]) (by omega) (by omega) Wf.nil with h | ⟨_,h⟩
 ·exact h
 ·simp at h;omega
end Go.Sp
end
section
open Go
namespace Go.Sp
inductive Rr (α:Type) | ok (a:α) (i:Nat) | no (e:Int) (i:Nat)
def Rr.bind {α β:Type} (r:Rr α) (f:α→Nat→Rr β):Rr β:=match r with | .ok a i=>f a i | .no e i=>.no e i
def isDig (c:UInt8):Bool:=decide (48≤c.toNat) && decide (c.toNat≤57)
def zG (B:List UInt8) (i:Nat):List UInt8:=(B.drop i).takeWhile isDig
def decV (l:List UInt8):Nat:=l.foldl (fun n c=>10*n+(c.toNat - 48)) 0
def xJ (l:List UInt8):Bool:=decide (18446744073709551616≤decV l) || (decide (1<l.length) && (l.head? == some 48))
abbrev Rt:=Rr (Tree×Nat)
theorem tw_len {α:Type} (p:α→Bool) (l:List α):(l.takeWhile p).length≤l.length:=(List.takeWhile_sublist p).length_le
theorem jBZ {B:List UInt8} {i:Nat} (h:i<B.length) (hc:isDig B[i]=true):zG B i=B[i] :: zG B (i+1):=by
 unfold zG;rw [List.drop_eq_getElem_cons h,List.takeWhile_cons_of_pos hc]
theorem jHW {B:List UInt8} {i:Nat} (h:i<B.length) (hc:isDig B[i]=false):zG B i=[]:=by
 unfold zG;rw [List.drop_eq_getElem_cons h,List.takeWhile_cons_of_neg (by simp [hc])]
theorem jKV {B:List UInt8} {i:Nat} (h:B.length≤i):zG B i=[]:=by
 unfold zG;rw [List.drop_eq_nil_of_le h];rfl
theorem jMV {B:List UInt8} {i:Nat} (h:i≤B.length):i+(zG B i).length≤B.length:=by
 have:=tw_len isDig (B.drop i);rw [List.length_drop] at this;unfold zG;omega
theorem jDN (B:List UInt8) (i:Nat):∀c∈zG B i,isDig c=true:=fun c hc=>by
 unfold zG at hc;have:=List.all_takeWhile (p:=isDig) (l:=B.drop i);rw [List.all_eq_true] at this;exact this c hc
theorem jBY (B:List UInt8) (i:Nat):(B.drop i).take (zG B i).length=zG B i:=by
 unfold zG;exact (List.prefix_iff_eq_take.1 (List.takeWhile_prefix isDig)).symm
def jPP {α:Type} (B:List UInt8) (i:Nat) (r:Rr α):Prop:=∀a j,r=.ok a j→i≤j∧j≤B.length
theorem jPP.bind {α β:Type} {B:List UInt8} {i:Nat} {r:Rr α} {f:α→Nat→Rr β} (h:jPP B i r) (hf:∀a j,r=.ok a j→i≤j→j≤B.length→jPP B j (f a j)):jPP B i (r.bind f):=by
 intro b k hb;cases r with
 | no e j=>cases hb
 | ok a j =>
  obtain ⟨h1,h2⟩:=h a j rfl
  obtain ⟨h3,h4⟩:=hf a j rfl h1 h2 b k hb
  exact ⟨by omega,h4⟩
theorem jPP.no {α:Type} (B:List UInt8) (i:Nat) (e:Int) (j:Nat):jPP B i (.no e j:Rr α):=fun _ _ h=>by cases h
theorem jPP.ok {α:Type} {B:List UInt8} {i j:Nat} {a:α} (h:i≤j) (h2:j≤B.length):jPP B i (.ok a j:Rr α):=fun _ _ e=>by cases e;exact ⟨h,h2⟩
theorem jPP.mono {α:Type} {B:List UInt8} {i i':Nat} {r:Rr α} (h:jPP B i r) (hi:i'≤i):jPP B i' r:=fun a j e=>⟨by have:=(h a j e).1;omega,(h a j e).2⟩
theorem jPO {B:List UInt8} {i:Nat} {c:UInt8} (h:B[i]?=some c):i<B.length:=(List.getElem?_eq_some_iff.1 h).1
end Go.Sp
namespace Go.Sp
def RtN (r:Rt):Prop:=∀a j,r=.ok a j→a.2≤4096
theorem RtN.bind {α:Type} {r:Rr α} {f:α→Nat→Rt} (hf:∀a j,r=.ok a j→RtN (f a j)):RtN (r.bind f):=by
 intro a k h;cases r with
 | no e j=>cases h
 | ok b j=>exact hf b j rfl a k h
theorem RtN.no (e:Int) (j:Nat):RtN (.no e j):=fun _ _ h=>by cases h
theorem RtN.ok {t:Tree×Nat} {j:Nat} (h:t.2≤4096):RtN (.ok t j):=fun _ _ e=>by cases e;exact h
end Go.Sp
end
section
open Go Go.SE
namespace Go.Sp
open Go.Proofs
theorem jHA (l:List UInt8) (c:UInt8):decV (l++[c])=10*decV l+(c.toNat - 48):=by unfold decV;rw [List.foldl_append];rfl
theorem digc (d:Nat) (h:d<10):(UInt8.ofNat (48+d)).toNat=48+d:=by rw [UInt8.toNat_ofNat'];omega
theorem jKI (n:Nat):decV (Lib.decDigits n)=n∧(∀c∈Lib.decDigits n,isDig c=true)∧(∃c l,Lib.decDigits n=c :: l∧(c=48→n=0)):=by
 induction n using Nat.strongRecOn with
 | _ n ih =>
  by_cases h:n<10
  ·rw [Lib.decDigits,dif_pos h]
   have hc:=digc n h
   refine ⟨?_,fun c hc'=>?_,_,[],rfl,fun e=>?_⟩
   ·unfold decV;simp only [List.foldl_cons,List.foldl_nil,hc];omega
   ·simp only [List.mem_singleton] at hc'
    subst hc'
    unfold isDig
    rw [hc];simp;omega
   ·have:=congrArg UInt8.toNat e
    rw [hc] at this
    have e48:(48:UInt8).toNat=48:=rfl
    omega
  ·rw [Lib.decDigits,dif_neg h]
   have hc:=digc (n % 10) (by omega)
   obtain ⟨h1,h2,c,l,h3,h4⟩:=ih (n / 10) (by omega)
   refine ⟨?_,fun c hc'=>?_,c,l++[UInt8.ofNat (48+n % 10)],by rw [h3];rfl,fun e=>by have:=h4 e;omega⟩
   ·rw [jHA,h1,hc];omega
   ·rcases List.mem_append.1 hc' with hm | hm
    ·exact h2 c hm
    ·simp only [List.mem_singleton] at hm
     subst hm
     unfold isDig
     rw [hc];simp;omega
theorem jMB {n:Nat} (h:n<18446744073709551616):xJ (Lib.decDigits n)=false:=by
 obtain ⟨h1,h2,c,l,h3,h4⟩:=jKI n;unfold xJ;rw [h1];by_cases h10:n<10
 ·rw [Lib.decDigits,dif_pos h10];simp;omega
 ·have:c≠48:=fun e=>by have:=h4 e;omega
  rw [h3];simp [this];omega
section
variable {B:List UInt8}
theorem xZ {i:Nat} {l m:List UInt8} (h:B.drop i=l++m):B.drop (i+l.length)=m:=by
 rw [← List.drop_drop,h,List.drop_left]
theorem qQ {i:Nat} {c:UInt8} {m:List UInt8} (h:B.drop i=c :: m):B.drop (i+1)=m:=xZ (l:=[c]) h
theorem uH {i:Nat} {c:UInt8} {m:List UInt8} (h:B.drop i=c :: m):B[i]?=some c:=by
 have:=List.getElem?_drop (xs:=B) (i:=i) (j:=0);rw [h] at this;simpa using this.symm
end
end Go.Sp
end
section
open Go Go.SE
namespace Go.Sp
def jZ (L:Pool) (t kind:Int):Node×Bool:=if inP L t=true∧(nodeOf L t).kind=kind then (nodeOf L t,false) else (jGI,true)
def jV (L:Pool) (t:Int):(ByteArray×Int)×Bool :=
 (((jZ L (jZ L t 4).1.a 3).1.text,(jZ L t 4).1.b),(jZ L t 4).2 || (jZ L (jZ L t 4).1.a 3).2)
def zR (L:Pool) (t:Int):(Int×ByteArray)×Bool :=
 let g:=jV L t
 let n:=jZ L g.1.2 4
 (((jZ L n.1.a 2).1.num,(jZ L n.1.b 3).1.text),g.2 || n.2 || !decide (g.1.1=oO) || (jZ L n.1.a 2).2 || (jZ L n.1.b 3).2)
end Go.Sp
namespace Go.Proofs
open Tryz
attribute [local irreducible] Calls
def jDB (w:World) (q:Option Addr) (L:Sp.Pool) (F:NP):Prop:=match q with
 | some p=>jS w p L F
 | none=>L=[]∧∀b,¬ F b
theorem jDB.ext {G:NP} {w w':World} {p:Option Addr} {L:Sp.Pool} {F:NP} (h:jDB w p L F) (hE:Ext G w w') (hd:∀b,F b→¬ G b):jDB w' p L F:=by
 cases p with
 | none=>exact h
 | some p=>exact jS.ext h hE hd
theorem jDB.pure {w w':World} {p:Option Addr} {L:Sp.Pool} {F:NP} (h:jDB w p L F) (hE:Pure w w'):jDB w' p L F:=h.ext hE (fun _ _ h=>h)
theorem jDB.lt {w:World} {p:Option Addr} {L:Sp.Pool} {F:NP} (h:jDB w p L F) {b:Nat} (hb:F b):b<w.heap.size:=by
 cases p with
 | none=>exact absurd hb (h.2 b)
 | some p=>exact jS.lt h hb
theorem jJI (p:Option Addr) (t:Int) (w:World) {L:Sp.Pool} {F:NP} (hP:jDB w p L F) (hok:Sp.Ok L):Calls prog 18 #[.pointer p,.int .i64 t] w
  (fun e w'=>∃k:Int,∃f:Int,∃t':Int,∃u:Int,∃x:ByteArray,∃a:Int,∃b:Int,∃r:Bool,e=.returned (.tuple #[.agg #[.int .i64 k,.int .i64 f,.int .i64 t',.int .u64 u,.string x,.int .i64 a,.int .i64 b],.bool r])∧(((⟨k,f,t',u,x,a,b⟩:Sp.Node)=Sp.nodeOf L t∧r=Sp.inP L t)∧Pure w w')):=by
 cases p with
 | some p=>exact jHN p t w hP hok
 | none =>
  obtain ⟨rfl,_⟩:=hP
  have hin0:Sp.inP [] t=false:=by cases h:Sp.inP [] t;rfl;have:=Sp.jY.1 h;simp at this;omega
  have hno:Sp.nodeOf [] t=⟨0,0,0,0,⟨#[]⟩,0,0⟩:=by unfold Sp.nodeOf Sp.get;split <;> simp [Sp.jGI]
  rw [hin0,hno]
  refine w_K1 none t w (fun k f t' u x a b r w'=>((⟨k,f,t',u,x,a,b⟩:Sp.Node)=⟨0,0,0,0,⟨#[]⟩,0,0⟩∧r=false)∧Pure w w') ?_
  unfold m_K1
  intro p1 w1 h1
  have E1:Pure w w1:=Ext.new h1
  have b1:=Box.of_new h1
  have hp:=New.own (Ext.refl w) h1
  have hin:Calls prog 37 #[.pointer none,.int .i64 t] w1 (fun e w'=>∃r,e=.returned (.bool r)∧(r=false∧w'=w1)):=by
   refine w_R _ _ w1 (fun r w'=>r=false∧w'=w1) ?_;unfold m_R;have j1:m_R_j1 none t false w1 (fun r w'=>r=false∧w'=w1):=by
    unfold m_R_j1
    first
     | exact Br.f rfl ⟨rfl,rfl⟩
     | exact ⟨rfl,rfl⟩
     | (unfold m_R_j2;exact Br.f rfl ⟨rfl,rfl⟩)
     | (refine Br.f rfl ?_;unfold m_R_j2;exact ⟨rfl,rfl⟩)
   first
    | exact Br.f rfl j1
    | exact Br.t rfl j1
  refine hin.mono ?_
  rintro _ _ ⟨_,rfl,rfl,rfl⟩
  exact ⟨_,rfl,fun h1=>bx 7 b1 rfl rfl (fun w' b E=>⟨_,_,_,_,_,_,_,b.row,⟨rfl,rfl⟩,E1.own hp E⟩),fun h1=>by cases h1⟩
structure ReaderAt (w:World) (r:Addr) (p:Option Addr) (bad:Bool) (L:Sp.Pool) (F:NP):Prop where
 box:Box w r [.pointer p,.bool bad] 57
 pool:jDB w p L F
 ok:Sp.Ok L
 out:¬ F r.block
theorem ReaderAt.pure {w w':World} {r:Addr} {p:Option Addr} {bad:Bool} {L:Sp.Pool} {F:NP} (h:ReaderAt w r p bad L F) (E:Pure w w'):ReaderAt w' r p bad L F:=⟨h.box.pure E,h.pool.pure E,h.ok,h.out⟩
theorem qU (r:Addr) (p:Option Addr) (t kind:Int) (bad:Bool) (w:World) {L:Sp.Pool} {F:NP} (hR:ReaderAt w r p bad L F) :
  Calls prog 22 #[.pointer (some r),.int .i64 t,.int .i64 kind] w
   (fun e w'=>∃k':Int,∃f':Int,∃t':Int,∃u':Int,∃x':ByteArray,∃a':Int,∃b':Int,e=.returned (.agg #[.int .i64 k',.int .i64 f',.int .i64 t',.int .u64 u',.string x',.int .i64 a',.int .i64 b'])∧((⟨k',f',t',u',x',a',b'⟩:Sp.Node)=(Sp.jZ L t kind).1∧ReaderAt w' r p (bad || (Sp.jZ L t kind).2) L F∧Ext (·=r.block) w w')):=by
 suffices key:∀K:Int→Int→Int→Int→ByteArray→Int→Int→WP,(∀k' f' t' u' x' a' b' w',((⟨k',f',t',u',x',a',b'⟩:Sp.Node)=(Sp.jZ L t kind).1∧ReaderAt w' r p (bad || (Sp.jZ L t kind).2) L F∧Ext (·=r.block) w w')→K k' f' t' u' x' a' b' w')→m_O1 (some r) t kind w K from
  w_O1 _ _ _ w _ (key _ (fun _ _ _ _ _ _ _ _ h=>h))
 intro K hK
 unfold m_O1
 intro p1 w1 h1
 have E1:Pure w w1:=Ext.new h1
 have o1:=New.own (Ext.refl w) h1
 have lr:=hR.box.lt
 have b1:=Box.of_new h1
 refine ⟨r,rfl,p,(hR.box.pure E1).cell0,?_⟩
 refine (jJI p t w1 (hR.pool.pure E1) hR.ok).mono ?_
 rintro _ w2 ⟨k',f',t',u',x',a',b',ok,rfl,⟨hn,hok⟩,E12⟩
 refine ⟨_,_,_,_,_,_,_,_,rfl,?_⟩
 intro p2 w3 h3
 have E2:Pure w w2:=E1.trans E12
 have o3:=New.own E2 h3
 have n12:p1.block≠p2.block:=New.ne h3 (b1.pure E12).blk
 refine bx 7 (Box.of_new h3) rfl rfl (fun w4 b2 E'=>?_)
 have E4:Pure w w4:=(E2.trans (Ext.new h3)).own o3 E'
 have c1:=((b1.pure E12).pure (Ext.new h3)).ext E' n12
 have hR4:=hR.pure E4
 clear E' E2 E12 b1 h1 h3
 have bad1 : Sp.jZ L t kind = (Sp.jGI, true) → jT w4 (r.add 1) ∧ ∀ w5 : World, w5 = w4.setCell (r.add 1) (.bool true) →
   (∀j,j<7→jT w5 (p1.add j))∧∀w6:World,w6=storeRow w5 p1 [(.int .i64 0),(.int .i64 0),(.int .i64 0),(.int .u64 0),(.string (⟨#[]⟩:ByteArray)),(.int .i64 0),(.int .i64 0)] →
   ∃qKind1:Int,∃qFrom1:Int,∃qTo1:Int,∃qNum1:Int,∃qText1:ByteArray,∃qA1:Int,∃qB1:Int,Row w6 p1 [(.int .i64 qKind1),(.int .i64 qFrom1),(.int .i64 qTo1),(.int .u64 qNum1),(.string qText1),(.int .i64 qA1),(.int .i64 qB1)] ∧
   K qKind1 qFrom1 qTo1 qNum1 qText1 qA1 qB1 w6:=by
  intro hrd
  refine ⟨hR4.box.canW (by simp),?_⟩
  intro w5 hw5
  have d5:Box w5 r [.pointer p,.bool true] 57:=by rw [hw5];exact hR4.box.set 1 _
  have E5:Ext (·=r.block) w4 w5:=by rw [hw5];have:=Ext.setCell (w:=w4) (r.add 1) (.bool true);rw [zA] at this;exact this
  clear hw5
  have n1r:p1.block≠r.block:=by omega
  refine bx 7 (c1.ext E5 n1r) rfl rfl (fun w6 b6 E6=>⟨_,_,_,_,_,_,_,b6.row,hK _ _ _ _ _ _ _ _ ⟨by rw [hrd];rfl,⟨?_,?_,hR.ok,hR.out⟩,?_⟩⟩)
  ·rw [hrd];simp only [Bool.or_true];exact d5.ext E6 n1r.symm
  ·exact (hR4.pool.ext E5 (fun b hb e=>hR.out (e▸hb))).ext E6 (fun b hb e=>by have:=hR.pool.lt hb;omega)
  ·exact (E4.pure.trans E5).trans' E6 (fun i hi h=>by omega)
 refine ⟨fun h=>⟨r,rfl,?_⟩,fun h=>⟨k',b2.cell0,fun h2=>⟨r,rfl,?_⟩,fun h2=>?_⟩⟩
 ·refine bad1 ?_
  have:¬ Sp.inP L t=true:=by rw [← hok];simpa using h
  unfold Sp.jZ;rw [if_neg (fun h=>this h.1)]
 ·refine bad1 ?_
  have:(Sp.nodeOf L t).kind≠kind:=by rw [← hn];simpa using h2
  unfold Sp.jZ;rw [if_neg (fun h=>this h.2)]
 ·have hi:Sp.inP L t=true:=by rw [← hok];simpa using h
  have hk:(Sp.nodeOf L t).kind=kind:=by rw [← hn];simpa using h2
  have hrd:Sp.jZ L t kind=(Sp.nodeOf L t,false):=by unfold Sp.jZ;rw [if_pos ⟨hi,hk⟩]
  refine ⟨_,_,_,_,_,_,_,b2.row,bx 7 c1 rfl rfl (fun w6 b6 E6=>⟨_,_,_,_,_,_,_,b6.row,hK _ _ _ _ _ _ _ _ ⟨by rw [hrd];exact hn,?_,?_⟩⟩)⟩
  ·rw [hrd];simp only [Bool.or_false]
   exact hR.pure (E4.own o1 E6)
  ·exact (E4.own o1 E6).pure
theorem oJ (r:Addr) (p:Option Addr) (t:Int) (bad:Bool) (w:World) {L:Sp.Pool} {F:NP} (hR:ReaderAt w r p bad L F) :
  Calls prog 21 #[.pointer (some r),.int .i64 t] w
   (fun e w'=>∃x:ByteArray,∃b:Int,e=.returned (.tuple #[.string x,.int .i64 b])∧((x,b)=(Sp.jV L t).1∧ReaderAt w' r p (bad || (Sp.jV L t).2) L F∧Ext (·=r.block) w w')):=by
 suffices key:∀K:ByteArray→Int→WP,(∀x b w',((x,b)=(Sp.jV L t).1∧ReaderAt w' r p (bad || (Sp.jV L t).2) L F∧Ext (·=r.block) w w')→K x b w')→m_N1 (some r) t w K from
  w_N1 _ _ w _ (key _ (fun _ _ _ h=>h))
 intro K hK
 unfold m_N1
 refine (qU r p t 4 bad w hR).mono ?_
 rintro _ w1 ⟨k1,f1,t1,u1,x1,a1,b1,rfl,hn,hR1,E1⟩
 refine ⟨_,_,_,_,_,_,_,rfl,?_⟩
 intro p1 w2 h2
 have o2:=New.own (Ext.refl w1) h2
 refine bx 7 (Box.of_new h2) rfl rfl (fun w3 b3 E'=>?_)
 have E3:Pure w1 w3:=Ext.own (Ext.new h2) o2 E'
 have l1:=hR1.box.lt
 refine ⟨fun w'=>Box w' p1 [.int .i64 k1,.int .i64 f1,.int .i64 t1,.int .u64 u1,.string x1,.int .i64 a1,.int .i64 b1] 59,b3.pure (Ext.drew w3),?_⟩
 intro w4 hw4
 have E4:Pure w1 w4:=by rw [hw4];exact E3.thenPure (Ext.drew w3)
 have c4:Box w4 p1 [.int .i64 k1,.int .i64 f1,.int .i64 t1,.int .u64 u1,.string x1,.int .i64 a1,.int .i64 b1] 59:=by rw [hw4];exact b3.pure (Ext.drew w3)
 clear hw4
 refine ⟨a1,fun w' h=>h.cell rfl,b1,fun w' h=>h.cell rfl,?_⟩
 refine (qU r p a1 3 _ w4 (hR1.pure E4)).mono ?_
 rintro _ w5 ⟨k2,f2,t2,u2,x2,a2,b2,rfl,hn2,hR2,E5⟩
 refine ⟨_,_,_,_,_,_,_,rfl,c4.ext E5 (by omega),hK _ _ _ ⟨?_,?_,?_⟩⟩
 ·have ea:a1=(Sp.jZ L t 4).1.a:=by rw [← hn]
  have eb:b1=(Sp.jZ L t 4).1.b:=by rw [← hn]
  simp only [Sp.jV,← ea,← eb,← hn2]
 ·have ea:a1=(Sp.jZ L t 4).1.a:=by rw [← hn]
  rw [ea] at hR2
  simp only [Sp.jV,← Bool.or_assoc]
  exact hR2
 ·exact (E1.thenPure E4).trans E5
end Go.Proofs
end
section
open Go Go.SE
namespace Go.Sp
def jO (L:Pool) (t:Int):Letter×Bool :=
 let n:=nodeOf L t
 if (n.kind≠8∧n.kind≠9)∨1<n.frm∨n.to≠IntKind.i64.wrap (1 - n.frm) then (uC,true)
 else (⟨1,n.frm,(zR L n.a).1.1,(zR L n.a).1.2,n.kind == 9⟩,(zR L n.a).2)
end Go.Sp
namespace Go.Proofs
open Tryz
attribute [local irreducible] Calls
theorem jHJ (r:Addr) (p:Option Addr) (t:Int) (bad:Bool) (w:World) {L:Sp.Pool} {F:NP} (hR:ReaderAt w r p bad L F) :
  Calls prog 47 #[.pointer (some r),.int .i64 t] w
   (fun e w'=>∃c:Int,∃x:ByteArray,e=.returned (.tuple #[.int .u64 c,.string x])∧((c,x)=(Sp.zR L t).1∧ReaderAt w' r p (bad || (Sp.zR L t).2) L F∧Ext (·=r.block) w w')):=by
 suffices key:∀K:Int→ByteArray→WP,(∀c x w',((c,x)=(Sp.zR L t).1∧ReaderAt w' r p (bad || (Sp.zR L t).2) L F∧Ext (·=r.block) w w')→K c x w')→m_V (some r) t w K from
  w_V _ _ w _ (key _ (fun _ _ _ h=>h))
 intro K hK
 unfold m_V
 refine (oJ r p t bad w hR).mono ?_
 rintro _ w1 ⟨x1,y1,rfl,hg,hR1,E1⟩
 refine ⟨_,_,rfl,?_⟩
 refine (qU r p y1 4 _ w1 hR1).mono ?_
 rintro _ w2 ⟨k2,f2,t2,u2,x2,a2,b2,rfl,hn,hR2,E2⟩
 refine ⟨_,_,_,_,_,_,_,rfl,?_⟩
 intro p1 w3 h3
 have o3:=New.own (Ext.refl w2) h3
 have l2:=hR2.box.lt
 refine bx 7 (Box.of_new h3) rfl rfl (fun w4 b4 E'=>?_)
 have E4:Pure w2 w4:=Ext.own (Ext.new h3) o3 E'
 have hR4:=hR2.pure E4
 clear E' h3
 have ey:y1=(Sp.jV L t).1.2:=congrArg Prod.snd hg
 have ex:x1=(Sp.jV L t).1.1:=congrArg Prod.fst hg
 have ea:a2=(Sp.jZ L y1 4).1.a:=by rw [← hn]
 have eb:b2=(Sp.jZ L y1 4).1.b:=by rw [← hn]
 generalize hb4:(bad || (Sp.jV L t).2 || (Sp.jZ L y1 4).2)=bad4 at *
 have fin:∀(v:Bool) (w5:World),(v=(bad4 || !decide (x1=Sp.oO)))→Box w5 r [.pointer p,.bool v] 57→Ext (·=r.block) w4 w5→m_V_j1 (some r) p1 w5 K:=by
  intro v w5 hv B5 E5;have hR5:ReaderAt w5 r p v L F:=⟨B5,hR4.pool.ext E5 (fun b hb e=>hR.out (e▸hb)),hR.ok,hR.out⟩;have c5:=b4.ext E5 (by omega);unfold m_V_j1;refine ⟨fun w'=>Box w' p1 [.int .i64 k2,.int .i64 f2,.int .i64 t2,.int .u64 u2,.string x2,.int .i64 a2,.int .i64 b2] 59,c5.pure (Ext.drew w5),?_⟩;intro w6 hw6;have E6:Pure w5 w6:=by rw [hw6];exact Ext.drew w5
  clear hw6;have c6:=c5.pure E6;refine ⟨a2,fun w' h=>h.cell rfl,b2,fun w' h=>h.cell rfl,?_⟩;refine (qU r p a2 2 _ w6 (hR5.pure E6)).mono ?_;rintro _ w7 ⟨k3,f3,t3,u3,x3,a3,b3,rfl,hn3,hR7,E7⟩;have c7:=c6.ext E7 (by omega);refine ⟨_,_,_,_,_,_,_,rfl,c7,?_⟩;refine (qU r p b2 3 _ w7 hR7).mono ?_;rintro _ w8 ⟨k4,f4,t4,u4,x4,a4,b4',rfl,hn4,hR8,E8⟩;have e3:u3=(Sp.jZ L a2 2).1.num:=by rw [← hn3]
  have e4:x4=(Sp.jZ L b2 3).1.text:=by rw [← hn4]
  refine ⟨_,_,_,_,_,_,_,rfl,c7.ext E8 (by omega),hK _ _ _ ⟨?_,?_,?_⟩⟩
  ·simp only [Sp.zR,← ey,← ea,← eb,← e3,← e4]
  ·have : (bad || (Sp.zR L t).2) = (v || (Sp.jZ L a2 2).2 || (Sp.jZ L b2 3).2) := by
    simp only [Sp.zR,← ey,← ea,← eb,← ex,hv,← hb4,Bool.or_assoc]
   rw [this];exact hR8
  ·exact ((((E1.trans E2).thenPure E4).trans E5).thenPure E6 |>.trans E7).trans E8
 have setr:∀v:Bool,Box (w4.setCell (r.add 1) (.bool v)) r [.pointer p,.bool v] 57∧Ext (·=r.block) w4 (w4.setCell (r.add 1) (.bool v)):=fun v =>
  ⟨hR4.box.set 1 _,by have:=Ext.setCell (w:=w4) (r.add 1) (.bool v);rw [zA] at this;exact this⟩
 refine ⟨r,rfl,bad4,hR4.box.cell rfl,fun h=>⟨r,rfl,hR4.box.canW (by simp),?_⟩,fun h=>⟨r,rfl,hR4.box.canW (by simp),?_⟩⟩
 ·intro w8 hw8
  have:=setr true
  exact fin true w8 (by rw [h];rfl) (by rw [hw8];exact this.1) (by rw [hw8];exact this.2)
 ·intro w8 hw8
  have:=setr (!decide (x1=Sp.oO))
  exact fin (!decide (x1=Sp.oO)) w8 (by rw [h];rfl) (by rw [hw8];exact this.1) (by rw [hw8];exact this.2)
theorem zF (r:Addr) (p:Option Addr) (t:Int) (bad:Bool) (w:World) {L:Sp.Pool} {F:NP} (hR:ReaderAt w r p bad L F) :
  Calls prog 20 #[.pointer (some r),.int .i64 t] w
   (fun e w'=>∃k:Int,∃f:Int,∃c:Int,∃x:ByteArray,∃fk:Bool,e=.returned (.agg #[.int .i64 k,.int .i64 f,.int .u64 c,.string x,.bool fk])∧((⟨k,f,c,x,fk⟩:Sp.Letter)=(Sp.jO L t).1∧ReaderAt w' r p (bad || (Sp.jO L t).2) L F∧Ext (·=r.block) w w')):=by
 suffices key:∀K:Int→Int→Int→ByteArray→Bool→WP,(∀k f c x fk w',((⟨k,f,c,x,fk⟩:Sp.Letter)=(Sp.jO L t).1∧ReaderAt w' r p (bad || (Sp.jO L t).2) L F∧Ext (·=r.block) w w')→K k f c x fk w')→m_J (some r) t w K from
  w_J _ _ w _ (key _ (fun _ _ _ _ _ _ h=>h))
 intro K hK
 unfold m_J
 intro p1 w1 h1
 have E1:Pure w w1:=Ext.new h1
 have o1:=New.own (Ext.refl w) h1
 have lr:=hR.box.lt
 have b1:=Box.of_new h1
 refine ⟨r,rfl,p,(hR.box.pure E1).cell0,?_⟩
 refine (jJI p t w1 (hR.pool.pure E1) hR.ok).mono ?_
 rintro _ w2 ⟨k,f,t',u,x,a,b,ok,rfl,⟨hn,hok⟩,E12⟩
 refine ⟨_,_,_,_,_,_,_,_,rfl,?_⟩
 intro p2 w3 h3
 have E2:Pure w w2:=E1.trans E12
 have o3:=New.own E2 h3
 have n12:p1.block≠p2.block:=New.ne h3 (b1.pure E12).blk
 refine bx 7 (Box.of_new h3) rfl rfl (fun w4 b2 E'=>?_)
 have E4:Pure w w4:=(E2.trans (Ext.new h3)).own o3 E'
 have c1:=((b1.pure E12).pure (Ext.new h3)).ext E' n12
 have hR4:=hR.pure E4
 clear E' E2 E12 b1 h1 h3
 have n1r:p1.block≠r.block:=by omega
 have hsp:Sp.jO L t=if (k≠8∧k≠9)∨1<f∨t'≠IntKind.i64.wrap (1 - f) then (Sp.uC,true) else (⟨1,f,(Sp.zR L a).1.1,(Sp.zR L a).1.2,k == 9⟩,(Sp.zR L a).2):=by
  simp only [Sp.jO,← hn]
 have bad1 : ((k ≠ 8 ∧ k ≠ 9) ∨ 1 < f ∨ t' ≠ IntKind.i64.wrap (1 - f)) → jT w4 (r.add 1) ∧ ∀ w5 : World, w5 = w4.setCell (r.add 1) (.bool true) →
   (∀j,j<5→jT w5 (p1.add j))∧∀w6:World,w6=storeRow w5 p1 [(.int .i64 0),(.int .i64 0),(.int .u64 0),(.string (⟨#[]⟩:ByteArray)),(.bool false)] →
   ∃qKind1:Int,∃qFrom1:Int,∃qC1:Int,∃qText1:ByteArray,∃qFake1:Bool,Row w6 p1 [(.int .i64 qKind1),(.int .i64 qFrom1),(.int .u64 qC1),(.string qText1),(.bool qFake1)] ∧
   K qKind1 qFrom1 qC1 qText1 qFake1 w6:=by
  intro hc
  rw [if_pos hc] at hsp
  refine ⟨hR4.box.canW (by simp),?_⟩
  intro w5 hw5
  have d5:Box w5 r [.pointer p,.bool true] 57:=by rw [hw5];exact hR4.box.set 1 _
  have E5:Ext (·=r.block) w4 w5:=by rw [hw5];have:=Ext.setCell (w:=w4) (r.add 1) (.bool true);rw [zA] at this;exact this
  clear hw5
  refine bx 5 (c1.ext E5 n1r) rfl rfl (fun w6 b6 E6=>⟨0,0,0,⟨#[]⟩,false,b6.row,hK _ _ _ _ _ _ ⟨by rw [hsp];rfl,⟨?_,?_,hR.ok,hR.out⟩,?_⟩⟩)
  ·rw [hsp];simp only [Bool.or_true];exact d5.ext E6 n1r.symm
  ·exact (hR4.pool.ext E5 (fun b hb e=>hR.out (e▸hb))).ext E6 (fun b hb e=>by have:=hR.pool.lt hb;omega)
  ·exact (E4.pure.trans E5).trans' E6 (fun i hi h=>by omega)
 have J1:¬ ((k≠8∧k≠9)∨1<f∨t'≠IntKind.i64.wrap (1 - f))→m_J_j1 (some r) p1 p2 w4 K:=by
  intro hc;rw [if_neg hc] at hsp;unfold m_J_j1;refine ⟨a,b2.cell rfl,?_⟩;refine (jHJ r p a bad w4 hR4).mono ?_;rintro _ w5 ⟨c,y,rfl,hd,hR5,E5⟩;have d2:=b2.ext E5 (by omega);have d1:=c1.ext E5 n1r;have ec:c=(Sp.zR L a).1.1:=congrArg Prod.fst hd;have ey:y=(Sp.zR L a).1.2:=congrArg Prod.snd hd;refine ⟨_,_,rfl,f,d2.cell rfl,k,d2.cell0,bx 5 d1 rfl rfl (fun w6 b6 E6=>⟨1,f,c,y,k == 9,b6.row,hK _ _ _ _ _ _ ⟨?_,?_,?_⟩⟩)⟩
  ·rw [hsp];simp only [← ec,← ey]
  ·rw [hsp];exact ⟨hR5.box.ext E6 n1r.symm,hR5.pool.ext E6 (fun b hb e=>by have:=hR.pool.lt hb;omega),hR.ok,hR.out⟩
  ·exact (E4.pure.trans E5).trans' E6 (fun i hi h=>by omega)
 have J3:∀x2,x2=((k != 8 && k != 9) || decide (1<f))→m_J_j3 (some r) p1 p2 x2 w4 K:=by
  intro x2 hx;unfold m_J_j3;refine ⟨fun h=>⟨r,rfl,bad1 ?_⟩,fun h=>⟨t',b2.cell rfl,f,b2.cell rfl,fun h2=>⟨r,rfl,bad1 ?_⟩,fun h2=>J1 ?_⟩⟩
  ·rw [h] at hx;have hx:=hx.symm;simp at hx;rcases hx with hx | hx
   ·exact .inl hx
   ·exact .inr (.inl hx)
  ·exact .inr (.inr (by simpa using h2))
  ·rw [h] at hx;have hx:=hx.symm;simp only [Bool.or_eq_false_iff,decide_eq_false_iff_not] at hx;rintro (h3 | h3 | h3)
   ·have:=hx.1;simp [h3.1,h3.2] at this
   ·exact hx.2 h3
   ·have h2:t'=IntKind.i64.wrap (1 - f):=by simpa using h2
    exact h3 h2
 have J2:∀x1,x1=(k != 8 && k != 9)→m_J_j2 (some r) p1 p2 x1 w4 K:=by
  intro x1 hx;unfold m_J_j2;exact ⟨fun h=>J3 _ (by rw [← hx,h];rfl),fun h=>⟨f,b2.cell rfl,J3 _ (by rw [← hx,h];rfl)⟩⟩
 exact ⟨k,b2.cell0,fun h=>⟨k,b2.cell0,J2 _ (by rw [h];rfl)⟩,fun h=>J2 _ (by rw [h];rfl)⟩
end Go.Proofs
end
section
open Go Go.SE
namespace Go.Sp
def zQ (L:Pool) (who n:Int):Letter×Bool :=
 let m:=jZ L n 4
 let a:=jO L m.1.a
 let b:=jO L m.1.b
 (⟨4,who,a.1.c,a.1.text,a.1.fake || b.1.fake⟩,m.2 || a.2 || b.2 || a.1.frm != 0 || b.1.frm != 1 || a.1.c != b.1.c || !decide (a.1.text=b.1.text))
def zY (L:Pool) (who body:Int):Letter×Bool :=
 let g:=jV L body
 if g.1.1=yY∧who=0 then (⟨3,0,(jZ L g.1.2 2).1.num,⟨#[]⟩,false⟩,g.2 || (jZ L g.1.2 2).2)
 else if g.1.1=vF∧who=2 then (⟨5,0,(jZ L g.1.2 2).1.num,⟨#[]⟩,false⟩,g.2 || (jZ L g.1.2 2).2)
 else if g.1.1=vN∧who=2 then (⟨6,0,(zR L g.1.2).1.1,(zR L g.1.2).1.2,false⟩,g.2 || (zR L g.1.2).2)
 else if g.1.1=oO∧who≤1 then (⟨2,who,(zR L body).1.1,(zR L body).1.2,false⟩,g.2 || (zR L body).2)
 else if g.1.1=vZ∧who≤1 then ((zQ L who g.1.2).1,g.2 || (zQ L who g.1.2).2)
 else (uC,true)
end Go.Sp
namespace Go.Proofs
attribute [local irreducible] Calls
def lz:List Value:=[.int .i64 0,.int .i64 0,.int .u64 0,.string ⟨#[]⟩,.bool false]
theorem jHI (r:Addr) (p:Option Addr) (p1:Addr) (who n:Int) (bad:Bool) (w:World) {L:Sp.Pool} {F:NP} (hR:ReaderAt w r p bad L F) (hB:Box w p1 lz 24) (hne:p1.block≠r.block) (K:Int→Int→Int→ByteArray→Bool→WP)
  (hK:∀w6 w',ReaderAt w6 r p (bad || (Sp.zQ L who n).2) L F→Ext (·=r.block) w w6→Box w' p1 [.int .i64 4,.int .i64 who,.int .u64 (Sp.zQ L who n).1.c,.string (Sp.zQ L who n).1.text,.bool (Sp.zQ L who n).1.fake] 24→Ext (·=p1.block) w6 w'→K 4 who (Sp.zQ L who n).1.c (Sp.zQ L who n).1.text (Sp.zQ L who n).1.fake w') :
  m_A_j5 (some r) who p1 n true w K:=by
 unfold m_A_j5
 refine Br.t rfl ?_
 refine (qU r p n 4 bad w hR).mono ?_
 rintro _ w11 ⟨k2,f2,t2,u2,x2,a2,b2,rfl,hn,hR11,E11⟩
 refine ⟨_,_,_,_,_,_,_,rfl,?_⟩
 intro p2 w12 h12
 have o12:=New.own (Ext.refl w11) h12
 have l11:=hR11.box.lt
 have l1:=hB.lt
 have s11:=E11.size
 refine bx 7 (Box.of_new h12) rfl rfl (fun w13 b13 E'=>?_)
 have E13:Pure w11 w13:=Ext.own (Ext.new h12) o12 E'
 have hB11:=hB.ext E11 hne
 clear E' h12
 refine ⟨fun w'=>Box w' p2 [.int .i64 k2,.int .i64 f2,.int .i64 t2,.int .u64 u2,.string x2,.int .i64 a2,.int .i64 b2] 59,b13.pure (Ext.drew w13),?_⟩
 intro w18 hw18
 have E18:Pure w11 w18:=by rw [hw18];exact E13.thenPure (Ext.drew w13)
 have cN:Box w18 p2 [.int .i64 k2,.int .i64 f2,.int .i64 t2,.int .u64 u2,.string x2,.int .i64 a2,.int .i64 b2] 59:=by rw [hw18];exact b13.pure (Ext.drew w13)
 clear hw18
 have hR18:=hR11.pure E18
 have hB18:=hB11.pure E18
 have s18:=E18.size
 have Ew18:Ext (·=r.block) w w18:=E11.thenPure E18
 have ea:a2=(Sp.jZ L n 4).1.a:=by rw [← hn]
 have eb:b2=(Sp.jZ L n 4).1.b:=by rw [← hn]
 generalize hbad:(bad || (Sp.jZ L n 4).2)=bad2 at *
 have leaf : ∀ (pA pB : Addr) (w' : World) (ka fa ca : Int) (xa : ByteArray) (ga : Bool) (kb fb cb : Int) (xb : ByteArray) (gb : Bool), (⟨ka, fa, ca, xa, ga⟩ : Sp.Letter) = (Sp.jO L a2).1 → (⟨kb, fb, cb, xb, gb⟩ : Sp.Letter) = (Sp.jO L b2).1 →
   ReaderAt w' r p (bad2 || (Sp.jO L a2).2 || (Sp.jO L b2).2) L F→Ext (·=r.block) w18 w'→Box w' pA [.int .i64 0,.int .i64 0,.int .u64 0,.string ⟨#[]⟩,.bool false] 24→Box w' pB [.int .i64 0,.int .i64 0,.int .u64 0,.string ⟨#[]⟩,.bool false] 24→pA.block≠pB.block→w18.heap.size≤pA.block→w18.heap.size≤pB.block →
   (∀j,j<5→jT w' (pA.add j))∧∀w23:World,w23=storeRow w' pA [.int .i64 ka,.int .i64 fa,.int .u64 ca,.string xa,.bool ga] →
   (∀j,j<5→jT w23 (pB.add j))∧∀w24:World,w24=storeRow w23 pB [.int .i64 kb,.int .i64 fb,.int .u64 cb,.string xb,.bool gb]→m_A_j6 (some r) who p1 pA pB w24 K:=by
  intro pA pB w' ka fa ca xa ga kb fb cb xb gb hla hlb hR' E' hA hBb hAB hoA hoB
  have s':=E'.size
  refine bx 5 hA rfl rfl (fun w23 bA E23=>?_)
  refine bx 5 (hBb.ext E23 hAB.symm) rfl rfl (fun w24 bB E24=>?_)
  have dA:=bA.ext E24 hAB
  have hR24:ReaderAt w24 r p (bad2 || (Sp.jO L a2).2 || (Sp.jO L b2).2) L F:=⟨(hR'.box.ext E23 (by omega)).ext E24 (by omega),(hR'.pool.ext E23 (fun b hb e=>by have:=hR.pool.lt hb;omega)).ext E24 (fun b hb e=>by have:=hR.pool.lt hb;omega),hR'.ok,hR'.out⟩
  have hB24:Box w24 p1 lz 24:=((hB18.ext E' hne).ext E23 (by omega)).ext E24 (by omega)
  have E24':Ext (·=r.block) w w24:=((Ew18.trans E').trans' E23 (fun i hi h=>by omega)).trans' E24 (fun i hi h=>by omega)
  have e1:fa=(Sp.jO L a2).1.frm:=by rw [← hla]
  have e2:fb=(Sp.jO L b2).1.frm:=by rw [← hlb]
  have e3:ca=(Sp.jO L a2).1.c:=by rw [← hla]
  have e4:cb=(Sp.jO L b2).1.c:=by rw [← hlb]
  have e5:xa=(Sp.jO L a2).1.text:=by rw [← hla]
  have e6:xb=(Sp.jO L b2).1.text:=by rw [← hlb]
  have e7:ga=(Sp.jO L a2).1.fake:=by rw [← hla]
  have e8:gb=(Sp.jO L b2).1.fake:=by rw [← hlb]
  generalize hb3:(bad2 || (Sp.jO L a2).2 || (Sp.jO L b2).2)=bad3 at *
  have hsp:Sp.zQ L who n=(⟨4,who,ca,xa,ga || gb⟩,(Sp.jZ L n 4).2 || (Sp.jO L a2).2 || (Sp.jO L b2).2 || fa != 0 || fb != 1 || ca != cb || !decide (xa=xb)):=by
   simp only [Sp.zQ,← ea,← eb,← e1,← e2,← e3,← e4,← e5,← e6,← e7,← e8]
  have hbb:(bad || (Sp.zQ L who n).2)=(bad3 || fa != 0 || fb != 1 || ca != cb || !decide (xa=xb)):=by
   rw [hsp,← hb3,← hbad];simp only [Bool.or_assoc]
  rw [hbb] at hK
  rw [hsp] at hK
  have J7:∀(v:Bool) (w5:World),v=(bad3 || fa != 0 || fb != 1 || ca != cb || !decide (xa=xb))→Box w5 r [.pointer p,.bool v] 57→Ext (·=r.block) w24 w5→m_A_j7 who p1 pA pB w5 K:=by
   intro v w5 hv B5 E5;have hR5:ReaderAt w5 r p v L F:=⟨B5,hR24.pool.ext E5 (fun b hb e=>hR.out (e▸hb)),hR.ok,hR.out⟩;have dA5:=dA.ext E5 (by omega);have dB5:=bB.ext E5 (by omega);have h15:=hB24.ext E5 hne;unfold m_A_j7;refine ⟨ca,dA5.cell rfl,xa,dA5.cell rfl,ga,dA5.cell rfl,fun hg=>?_,fun hg=>⟨gb,dB5.cell rfl,?_⟩⟩
   ·refine bx 5 h15 rfl rfl (fun w6 b6 E6=>⟨4,who,ca,xa,true,b6.row,?_⟩);have:=hK w5 w6 (by rw [← hv];exact hR5) (E24'.trans E5) (by rw [hg];exact b6) E6;rw [hg] at this;exact this
   ·refine bx 5 h15 rfl rfl (fun w6 b6 E6=>⟨4,who,ca,xa,gb,b6.row,?_⟩);have:=hK w5 w6 (by rw [← hv];exact hR5) (E24'.trans E5) (by rw [hg];exact b6) E6;rw [hg] at this;exact this
  have setr:∀v:Bool,Box (w24.setCell (r.add 1) (.bool v)) r [.pointer p,.bool v] 57∧Ext (·=r.block) w24 (w24.setCell (r.add 1) (.bool v)):=fun v =>
   ⟨hR24.box.set 1 _,by have:=Ext.setCell (w:=w24) (r.add 1) (.bool v);rw [zA] at this;exact this⟩
  have J10:∀x,x=(bad3 || fa != 0 || fb != 1 || ca != cb)→m_A_j10 (some r) who p1 pA pB x w24 K:=by
   intro x hx;unfold m_A_j10;refine ⟨fun h=>⟨r,rfl,hR24.box.canW (by simp),?_⟩,fun h=>⟨xa,dA.cell rfl,xb,bB.cell rfl,r,rfl,hR24.box.canW (by simp),?_⟩⟩
   ·intro w16 hw;exact J7 true w16 (by rw [← hx,h];rfl) (by rw [hw];exact (setr _).1) (by rw [hw];exact (setr _).2)
   ·intro w16 hw;exact J7 (!decide (xa=xb)) w16 (by rw [← hx,h];rfl) (by rw [hw];exact (setr _).1) (by rw [hw];exact (setr _).2)
  have J9:∀x,x=(bad3 || fa != 0 || fb != 1)→m_A_j9 (some r) who p1 pA pB x w24 K:=by
   intro x hx;unfold m_A_j9;exact ⟨fun h=>J10 _ (by rw [← hx,h];rfl),fun h=>⟨ca,dA.cell rfl,cb,bB.cell rfl,J10 _ (by rw [← hx,h];rfl)⟩⟩
  have J8:∀x,x=(bad3 || fa != 0)→m_A_j8 (some r) who p1 pA pB x w24 K:=by
   intro x hx;unfold m_A_j8;exact ⟨fun h=>J9 _ (by rw [← hx,h];rfl),fun h=>⟨fb,bB.cell rfl,J9 _ (by rw [← hx,h];rfl)⟩⟩
  unfold m_A_j6
  exact ⟨r,rfl,bad3,hR24.box.cell rfl,fun h=>J8 _ (by rw [h];rfl),fun h=>⟨fa,dA.cell rfl,J8 _ (by rw [h];rfl)⟩⟩
 have l18:=hR18.box.lt
 have Er18:Ext (·=r.block) w18 w18:=Ext.refl w18
 refine ⟨a2,fun w' h=>h.cell rfl,b2,fun w' h=>h.cell rfl,?_⟩
 ·skip
  refine ⟨?_,?_,?_⟩
  ·skip
   refine (zF r p a2 _ w18 hR18).mono ?_
   rintro _ v1 ⟨k1,f1,c1,x1,g1,rfl,hl1,R1,e1⟩
   have E1:=Er18.trans e1
   have s1:=E1.size
   refine ⟨_,_,_,_,_,rfl,cN.ext E1 (by omega),?_⟩
   refine ⟨?_,?_,?_⟩
   ·skip
    refine (zF r p b2 _ v1 R1).mono ?_
    rintro _ v2 ⟨k2,f2,c2,x2,g2,rfl,hl2,R2,e2⟩
    have E2:=E1.trans e2
    have s2:=E2.size
    refine ⟨_,_,_,_,_,rfl,?_⟩
    refine ⟨?_,?_⟩
    ·skip
     intro q3 v3 h3
     have e3:Pure v2 v3:=Ext.new h3
     have o3:=h3.at_size
     have R3:=R2.pure e3
     have E3:=E2.thenPure e3
     have s3:=E3.size
     have t3:=(E2).size
     have bA3:=Box.of_new h3
     refine ⟨cN.ext E3 (by omega),?_⟩
     intro q4 v4 h4
     have e4:Pure v3 v4:=Ext.new h4
     have o4:=h4.at_size
     have R4:=R3.pure e4
     have E4:=E3.thenPure e4
     have s4:=E4.size
     have t4:=(E3).size
     have bA4:=bA3.pure e4
     have lA4:=bA3.lt
     have bB4:=Box.of_new h4
     refine ⟨cN.ext E4 (by omega),?_⟩
     exact leaf q3 q4 v4 _ _ _ _ _ _ _ _ _ _ hl1 hl2 R4 E4 bA4 bB4 (by omega) (by omega) (by omega)
    ·skip
     intro q5 v5 h5
     have e5:Pure v2 v5:=Ext.new h5
     have o5:=h5.at_size
     have R5:=R2.pure e5
     have E5:=E2.thenPure e5
     have s5:=E5.size
     have t5:=(E2).size
     have bB5:=Box.of_new h5
     refine ⟨cN.ext E5 (by omega),?_⟩
     intro q6 v6 h6
     have e6:Pure v5 v6:=Ext.new h6
     have o6:=h6.at_size
     have R6:=R5.pure e6
     have E6:=E5.thenPure e6
     have s6:=E6.size
     have t6:=(E5).size
     have bB6:=bB5.pure e6
     have lB6:=bB5.lt
     have bA6:=Box.of_new h6
     refine ⟨cN.ext E6 (by omega),?_⟩
     exact leaf q6 q5 v6 _ _ _ _ _ _ _ _ _ _ hl1 hl2 R6 E6 bA6 bB6 (by omega) (by omega) (by omega)
   ·skip
    intro q7 v7 h7
    have e7:Pure v1 v7:=Ext.new h7
    have o7:=h7.at_size
    have R7:=R1.pure e7
    have E7:=E1.thenPure e7
    have s7:=E7.size
    have t7:=(E1).size
    have bA7:=Box.of_new h7
    refine ⟨cN.ext E7 (by omega),?_⟩
    refine ⟨?_,?_⟩
    ·skip
     refine (zF r p b2 _ v7 R7).mono ?_
     rintro _ v8 ⟨k8,f8,c8,x8,g8,rfl,hl2,R8,e8⟩
     have E8:=E7.trans e8
     have bA8:=bA7.ext e8 (by omega)
     have s8:=E8.size
     refine ⟨_,_,_,_,_,rfl,?_⟩
     intro q9 v9 h9
     have e9:Pure v8 v9:=Ext.new h9
     have o9:=h9.at_size
     have R9:=R8.pure e9
     have E9:=E8.thenPure e9
     have s9:=E9.size
     have t9:=(E8).size
     have bA9:=bA8.pure e9
     have lA9:=bA8.lt
     have bB9:=Box.of_new h9
     refine ⟨cN.ext E9 (by omega),?_⟩
     exact leaf q7 q9 v9 _ _ _ _ _ _ _ _ _ _ hl1 hl2 R9 E9 bA9 bB9 (by omega) (by omega) (by omega)
    ·skip
     intro q10 v10 h10
     have e10:Pure v7 v10:=Ext.new h10
     have o10:=h10.at_size
     have R10:=R7.pure e10
     have E10:=E7.thenPure e10
     have s10:=E10.size
     have t10:=(E7).size
     have bA10:=bA7.pure e10
     have lA10:=bA7.lt
     have bB10:=Box.of_new h10
     refine ⟨cN.ext E10 (by omega),?_⟩
     refine (zF r p b2 _ v10 R10).mono ?_
     rintro _ v11 ⟨k11,f11,c11,x11,g11,rfl,hl2,R11,e11⟩
     have E11:=E10.trans e11
     have bA11:=bA10.ext e11 (by omega)
     have bB11:=bB10.ext e11 (by omega)
     have s11:=E11.size
     refine ⟨_,_,_,_,_,rfl,?_⟩
     exact leaf q7 q10 v11 _ _ _ _ _ _ _ _ _ _ hl1 hl2 R11 E11 bA11 bB11 (by omega) (by omega) (by omega)
   ·skip
    intro q12 v12 h12
    have e12:Pure v1 v12:=Ext.new h12
    have o12:=h12.at_size
    have R12:=R1.pure e12
    have E12:=E1.thenPure e12
    have s12:=E12.size
    have t12:=(E1).size
    have bB12:=Box.of_new h12
    refine ⟨cN.ext E12 (by omega),?_⟩
    refine ⟨?_,?_⟩
    ·skip
     refine (zF r p b2 _ v12 R12).mono ?_
     rintro _ v13 ⟨k13,f13,c13,x13,g13,rfl,hl2,R13,e13⟩
     have E13:=E12.trans e13
     have bB13:=bB12.ext e13 (by omega)
     have s13:=E13.size
     refine ⟨_,_,_,_,_,rfl,?_⟩
     intro q14 v14 h14
     have e14:Pure v13 v14:=Ext.new h14
     have o14:=h14.at_size
     have R14:=R13.pure e14
     have E14:=E13.thenPure e14
     have s14:=E14.size
     have t14:=(E13).size
     have bB14:=bB13.pure e14
     have lB14:=bB13.lt
     have bA14:=Box.of_new h14
     refine ⟨cN.ext E14 (by omega),?_⟩
     exact leaf q14 q12 v14 _ _ _ _ _ _ _ _ _ _ hl1 hl2 R14 E14 bA14 bB14 (by omega) (by omega) (by omega)
    ·skip
     intro q15 v15 h15
     have e15:Pure v12 v15:=Ext.new h15
     have o15:=h15.at_size
     have R15:=R12.pure e15
     have E15:=E12.thenPure e15
     have s15:=E15.size
     have t15:=(E12).size
     have bB15:=bB12.pure e15
     have lB15:=bB12.lt
     have bA15:=Box.of_new h15
     refine ⟨cN.ext E15 (by omega),?_⟩
     refine (zF r p b2 _ v15 R15).mono ?_
     rintro _ v16 ⟨k16,f16,c16,x16,g16,rfl,hl2,R16,e16⟩
     have E16:=E15.trans e16
     have bA16:=bA15.ext e16 (by omega)
     have bB16:=bB15.ext e16 (by omega)
     have s16:=E16.size
     refine ⟨_,_,_,_,_,rfl,?_⟩
     exact leaf q15 q12 v16 _ _ _ _ _ _ _ _ _ _ hl1 hl2 R16 E16 bA16 bB16 (by omega) (by omega) (by omega)
  ·skip
   intro q17 v17 h17
   have e17:Pure w18 v17:=Ext.new h17
   have o17:=h17.at_size
   have R17:=hR18.pure e17
   have E17:=Er18.thenPure e17
   have s17:=E17.size
   have t17:=(Er18).size
   have bA17:=Box.of_new h17
   refine ⟨cN.ext E17 (by omega),?_⟩
   refine ⟨?_,?_⟩
   ·skip
    refine (zF r p a2 _ v17 R17).mono ?_
    rintro _ v18 ⟨k18,f18,c18,x18,g18,rfl,hl1,R18,e18⟩
    have E18:=E17.trans e18
    have bA18:=bA17.ext e18 (by omega)
    have s18:=E18.size
    refine ⟨_,_,_,_,_,rfl,cN.ext E18 (by omega),?_⟩
    refine ⟨?_,?_⟩
    ·skip
     refine (zF r p b2 _ v18 R18).mono ?_
     rintro _ v19 ⟨k19,f19,c19,x19,g19,rfl,hl2,R19,e19⟩
     have E19:=E18.trans e19
     have bA19:=bA18.ext e19 (by omega)
     have s19:=E19.size
     refine ⟨_,_,_,_,_,rfl,?_⟩
     intro q20 v20 h20
     have e20:Pure v19 v20:=Ext.new h20
     have o20:=h20.at_size
     have R20:=R19.pure e20
     have E20:=E19.thenPure e20
     have s20:=E20.size
     have t20:=(E19).size
     have bA20:=bA19.pure e20
     have lA20:=bA19.lt
     have bB20:=Box.of_new h20
     refine ⟨cN.ext E20 (by omega),?_⟩
     exact leaf q17 q20 v20 _ _ _ _ _ _ _ _ _ _ hl1 hl2 R20 E20 bA20 bB20 (by omega) (by omega) (by omega)
    ·skip
     intro q21 v21 h21
     have e21:Pure v18 v21:=Ext.new h21
     have o21:=h21.at_size
     have R21:=R18.pure e21
     have E21:=E18.thenPure e21
     have s21:=E21.size
     have t21:=(E18).size
     have bA21:=bA18.pure e21
     have lA21:=bA18.lt
     have bB21:=Box.of_new h21
     refine ⟨cN.ext E21 (by omega),?_⟩
     refine (zF r p b2 _ v21 R21).mono ?_
     rintro _ v22 ⟨k22,f22,c22,x22,g22,rfl,hl2,R22,e22⟩
     have E22:=E21.trans e22
     have bA22:=bA21.ext e22 (by omega)
     have bB22:=bB21.ext e22 (by omega)
     have s22:=E22.size
     refine ⟨_,_,_,_,_,rfl,?_⟩
     exact leaf q17 q21 v22 _ _ _ _ _ _ _ _ _ _ hl1 hl2 R22 E22 bA22 bB22 (by omega) (by omega) (by omega)
   ·skip
    intro q23 v23 h23
    have e23:Pure v17 v23:=Ext.new h23
    have o23:=h23.at_size
    have R23:=R17.pure e23
    have E23:=E17.thenPure e23
    have s23:=E23.size
    have t23:=(E17).size
    have bA23:=bA17.pure e23
    have lA23:=bA17.lt
    have bB23:=Box.of_new h23
    refine ⟨cN.ext E23 (by omega),?_⟩
    refine (zF r p a2 _ v23 R23).mono ?_
    rintro _ v24 ⟨k24,f24,c24,x24,g24,rfl,hl1,R24,e24⟩
    have E24:=E23.trans e24
    have bA24:=bA23.ext e24 (by omega)
    have bB24:=bB23.ext e24 (by omega)
    have s24:=E24.size
    refine ⟨_,_,_,_,_,rfl,cN.ext E24 (by omega),?_⟩
    refine (zF r p b2 _ v24 R24).mono ?_
    rintro _ v25 ⟨k25,f25,c25,x25,g25,rfl,hl2,R25,e25⟩
    have E25:=E24.trans e25
    have bA25:=bA24.ext e25 (by omega)
    have bB25:=bB24.ext e25 (by omega)
    have s25:=E25.size
    refine ⟨_,_,_,_,_,rfl,?_⟩
    exact leaf q17 q23 v25 _ _ _ _ _ _ _ _ _ _ hl1 hl2 R25 E25 bA25 bB25 (by omega) (by omega) (by omega)
  ·skip
   intro q26 v26 h26
   have e26:Pure w18 v26:=Ext.new h26
   have o26:=h26.at_size
   have R26:=hR18.pure e26
   have E26:=Er18.thenPure e26
   have s26:=E26.size
   have t26:=(Er18).size
   have bB26:=Box.of_new h26
   refine ⟨cN.ext E26 (by omega),?_⟩
   refine ⟨?_,?_⟩
   ·skip
    refine (zF r p a2 _ v26 R26).mono ?_
    rintro _ v27 ⟨k27,f27,c27,x27,g27,rfl,hl1,R27,e27⟩
    have E27:=E26.trans e27
    have bB27:=bB26.ext e27 (by omega)
    have s27:=E27.size
    refine ⟨_,_,_,_,_,rfl,cN.ext E27 (by omega),?_⟩
    refine ⟨?_,?_⟩
    ·skip
     refine (zF r p b2 _ v27 R27).mono ?_
     rintro _ v28 ⟨k28,f28,c28,x28,g28,rfl,hl2,R28,e28⟩
     have E28:=E27.trans e28
     have bB28:=bB27.ext e28 (by omega)
     have s28:=E28.size
     refine ⟨_,_,_,_,_,rfl,?_⟩
     intro q29 v29 h29
     have e29:Pure v28 v29:=Ext.new h29
     have o29:=h29.at_size
     have R29:=R28.pure e29
     have E29:=E28.thenPure e29
     have s29:=E29.size
     have t29:=(E28).size
     have bB29:=bB28.pure e29
     have lB29:=bB28.lt
     have bA29:=Box.of_new h29
     refine ⟨cN.ext E29 (by omega),?_⟩
     exact leaf q29 q26 v29 _ _ _ _ _ _ _ _ _ _ hl1 hl2 R29 E29 bA29 bB29 (by omega) (by omega) (by omega)
    ·skip
     intro q30 v30 h30
     have e30:Pure v27 v30:=Ext.new h30
     have o30:=h30.at_size
     have R30:=R27.pure e30
     have E30:=E27.thenPure e30
     have s30:=E30.size
     have t30:=(E27).size
     have bB30:=bB27.pure e30
     have lB30:=bB27.lt
     have bA30:=Box.of_new h30
     refine ⟨cN.ext E30 (by omega),?_⟩
     refine (zF r p b2 _ v30 R30).mono ?_
     rintro _ v31 ⟨k31,f31,c31,x31,g31,rfl,hl2,R31,e31⟩
     have E31:=E30.trans e31
     have bA31:=bA30.ext e31 (by omega)
     have bB31:=bB30.ext e31 (by omega)
     have s31:=E31.size
     refine ⟨_,_,_,_,_,rfl,?_⟩
     exact leaf q30 q26 v31 _ _ _ _ _ _ _ _ _ _ hl1 hl2 R31 E31 bA31 bB31 (by omega) (by omega) (by omega)
   ·skip
    intro q32 v32 h32
    have e32:Pure v26 v32:=Ext.new h32
    have o32:=h32.at_size
    have R32:=R26.pure e32
    have E32:=E26.thenPure e32
    have s32:=E32.size
    have t32:=(E26).size
    have bB32:=bB26.pure e32
    have lB32:=bB26.lt
    have bA32:=Box.of_new h32
    refine ⟨cN.ext E32 (by omega),?_⟩
    refine (zF r p a2 _ v32 R32).mono ?_
    rintro _ v33 ⟨k33,f33,c33,x33,g33,rfl,hl1,R33,e33⟩
    have E33:=E32.trans e33
    have bA33:=bA32.ext e33 (by omega)
    have bB33:=bB32.ext e33 (by omega)
    have s33:=E33.size
    refine ⟨_,_,_,_,_,rfl,cN.ext E33 (by omega),?_⟩
    refine (zF r p b2 _ v33 R33).mono ?_
    rintro _ v34 ⟨k34,f34,c34,x34,g34,rfl,hl2,R34,e34⟩
    have E34:=E33.trans e34
    have bA34:=bA33.ext e34 (by omega)
    have bB34:=bB33.ext e34 (by omega)
    have s34:=E34.size
    refine ⟨_,_,_,_,_,rfl,?_⟩
    exact leaf q32 q26 v34 _ _ _ _ _ _ _ _ _ _ hl1 hl2 R34 E34 bA34 bB34 (by omega) (by omega) (by omega)
end Go.Proofs
end
section
open Go Go.SE
namespace Go.Sp
def uN (L:Pool) (t:Int):Letter×Bool :=
 let n:=nodeOf L t
 if n.kind=7 then zY L n.frm n.a else if n.kind=8∨n.kind=9 then jO L t
 else if ((jV L t).2 || !decide ((jV L t).1.1=jHT))=true then (uC,true)
 else (⟨7,0,(jZ L (jV L t).1.2 2).1.num,⟨#[]⟩,false⟩,(jZ L (jV L t).1.2 2).2)
def jKY (L:Pool) (t:Int):Letter×Bool:=if (uN L t).2=true then (uC,false) else ((uN L t).1,true)
end Go.Sp
namespace Go.Proofs
open Tryz
attribute [local irreducible] Calls
theorem jJF (r:Addr) (p:Option Addr) (who body:Int) (bad:Bool) (w:World) {L:Sp.Pool} {F:NP} (hR:ReaderAt w r p bad L F) :
  Calls prog 19 #[.pointer (some r),.int .i64 who,.int .i64 body] w
   (fun e w'=>∃k:Int,∃f:Int,∃c:Int,∃x:ByteArray,∃fk:Bool,e=.returned (.agg #[.int .i64 k,.int .i64 f,.int .u64 c,.string x,.bool fk])∧((⟨k,f,c,x,fk⟩:Sp.Letter)=(Sp.zY L who body).1∧ReaderAt w' r p (bad || (Sp.zY L who body).2) L F∧Ext (·=r.block) w w')):=by
 suffices key:∀K:Int→Int→Int→ByteArray→Bool→WP,(∀k f c x fk w',((⟨k,f,c,x,fk⟩:Sp.Letter)=(Sp.zY L who body).1∧ReaderAt w' r p (bad || (Sp.zY L who body).2) L F∧Ext (·=r.block) w w')→K k f c x fk w')→m_A (some r) who body w K from
  w_A _ _ _ w _ (key _ (fun _ _ _ _ _ _ h=>h))
 intro K hK
 unfold m_A
 intro p1 w1 h1
 have E1:Pure w w1:=Ext.new h1
 have o1:=New.own (Ext.refl w) h1
 have lr:=hR.box.lt
 have b1:Box w1 p1 lz 24:=Box.of_new h1
 have ne:p1.block≠r.block:=by omega
 refine (oJ r p body bad w1 (hR.pure E1)).mono ?_
 rintro _ w2 ⟨x,y,rfl,hg,hR2,E12⟩
 refine ⟨_,_,rfl,?_⟩
 have b2:=b1.ext E12 ne
 have E2:Ext (·=r.block) w w2:=E1.pure.trans E12
 have ex:x=(Sp.jV L body).1.1:=congrArg Prod.fst hg
 have ey:y=(Sp.jV L body).1.2:=congrArg Prod.snd hg
 have hsp:Sp.zY L who body=if x=Sp.yY∧who=0 then (⟨3,0,(Sp.jZ L y 2).1.num,⟨#[]⟩,false⟩,(Sp.jV L body).2 || (Sp.jZ L y 2).2)
  else if x=Sp.vF∧who=2 then (⟨5,0,(Sp.jZ L y 2).1.num,⟨#[]⟩,false⟩,(Sp.jV L body).2 || (Sp.jZ L y 2).2)
  else if x=Sp.vN∧who=2 then (⟨6,0,(Sp.zR L y).1.1,(Sp.zR L y).1.2,false⟩,(Sp.jV L body).2 || (Sp.zR L y).2)
  else if x=Sp.oO∧who≤1 then (⟨2,who,(Sp.zR L body).1.1,(Sp.zR L body).1.2,false⟩,(Sp.jV L body).2 || (Sp.zR L body).2)
  else if x=Sp.vZ∧who≤1 then ((Sp.zQ L who y).1,(Sp.jV L body).2 || (Sp.zQ L who y).2)
  else (Sp.uC,true):=by
  simp only [Sp.zY,← ex,← ey]
 clear ex ey hg
 generalize hbg:(Sp.jV L body).2=g2 at *
 have fin : ∀ (k f c : Int) (z : ByteArray) (fk v : Bool) (w5 : World), Sp.zY L who body = (⟨k, f, c, z, fk⟩, v) → ReaderAt w5 r p (bad || v) L F → Ext (· = r.block) w2 w5 →
   (∀j,j<5→jT w5 (p1.add j))∧∀w6:World,w6=storeRow w5 p1 [(.int .i64 k),(.int .i64 f),(.int .u64 c),(.string z),(.bool fk)] →
   ∃qKind1:Int,∃qFrom1:Int,∃qC1:Int,∃qText1:ByteArray,∃qFake1:Bool,Row w6 p1 [(.int .i64 qKind1),(.int .i64 qFrom1),(.int .u64 qC1),(.string qText1),(.bool qFake1)] ∧
   K qKind1 qFrom1 qC1 qText1 qFake1 w6:=by
  intro k f c z fk v w5 hs hR5 E5
  refine bx 5 (b2.ext E5 ne) rfl rfl (fun w6 b6 E6=>⟨k,f,c,z,fk,b6.row,hK _ _ _ _ _ _ ⟨by rw [hs],?_,?_⟩⟩)
  ·rw [hs];exact ⟨hR5.box.ext E6 ne.symm,hR5.pool.ext E6 (fun b hb e=>by have:=hR.pool.lt hb;omega),hR.ok,hR.out⟩
  ·exact (E2.trans E5).trans' E6 (fun i hi h=>by omega)
 have nodeCase : ∀ (k : Int), Sp.zY L who body = (⟨k, 0, (Sp.jZ L y 2).1.num, ⟨#[]⟩, false⟩, g2 || (Sp.jZ L y 2).2) →
   Calls prog 22 #[.pointer (some r),.int .i64 y,.int .i64 2] w2 (fun e w3=>∃rKind1:Int,∃rFrom1:Int,∃rTo1:Int,∃rNum1:Int,∃rText1:ByteArray,∃rA1:Int,∃rB1:Int,e=.returned (.agg #[(.int .i64 rKind1),(.int .i64 rFrom1),(.int .i64 rTo1),(.int .u64 rNum1),(.string rText1),(.int .i64 rA1),(.int .i64 rB1)]) ∧
    (∀j,j<5→jT w3 (p1.add j))∧∀w4:World,w4=storeRow w3 p1 [(.int .i64 k),(.int .i64 0),(.int .u64 rNum1),(.string (⟨#[]⟩:ByteArray)),(.bool false)] →
    ∃qKind1:Int,∃qFrom1:Int,∃qC1:Int,∃qText1:ByteArray,∃qFake1:Bool,Row w4 p1 [(.int .i64 qKind1),(.int .i64 qFrom1),(.int .u64 qC1),(.string qText1),(.bool qFake1)] ∧
    K qKind1 qFrom1 qC1 qText1 qFake1 w4):=by
  intro k hs
  refine (qU r p y 2 _ w2 hR2).mono ?_
  rintro _ w3 ⟨k3,f3,t3,u3,x3,a3,b3,rfl,hn3,hR3,E3⟩
  have e3:u3=(Sp.jZ L y 2).1.num:=by rw [← hn3]
  refine ⟨_,_,_,_,_,_,_,rfl,?_⟩
  rw [← e3] at hs
  exact fin _ _ _ _ _ _ w3 hs (by rw [← Bool.or_assoc];exact hR3) E3
 have dealCase : ∀ (k f t : Int), Sp.zY L who body = (⟨k, f, (Sp.zR L t).1.1, (Sp.zR L t).1.2, false⟩, g2 || (Sp.zR L t).2) →
   Calls prog 47 #[.pointer (some r),.int .i64 t] w2 (fun e w7=>∃r4:Int,∃r5:ByteArray,e=.returned (.tuple #[(.int .u64 r4),(.string r5)]) ∧
    (∀j,j<5→jT w7 (p1.add j))∧∀w8:World,w8=storeRow w7 p1 [(.int .i64 k),(.int .i64 f),(.int .u64 r4),(.string r5),(.bool false)] →
    ∃qKind1:Int,∃qFrom1:Int,∃qC1:Int,∃qText1:ByteArray,∃qFake1:Bool,Row w8 p1 [(.int .i64 qKind1),(.int .i64 qFrom1),(.int .u64 qC1),(.string qText1),(.bool qFake1)] ∧
    K qKind1 qFrom1 qC1 qText1 qFake1 w8):=by
  intro k f t hs
  refine (jHJ r p t _ w2 hR2).mono ?_
  rintro _ w3 ⟨c,z,rfl,hd,hR3,E3⟩
  have e1:c=(Sp.zR L t).1.1:=congrArg Prod.fst hd
  have e2:z=(Sp.zR L t).1.2:=congrArg Prod.snd hd
  refine ⟨_,_,rfl,?_⟩
  rw [← e1,← e2] at hs
  exact fin _ _ _ _ _ _ w3 hs (by rw [← Bool.or_assoc];exact hR3) E3
 have J5:∀b,b=decide (x=Sp.vZ∧who≤1)→¬ (x=Sp.yY∧who=0)→¬ (x=Sp.vF∧who=2)→¬ (x=Sp.vN∧who=2)→¬ (x=Sp.oO∧who≤1)→m_A_j5 (some r) who p1 y b w2 K:=by
  intro b hb h1 h2 h3 h4;rw [if_neg h1,if_neg h2,if_neg h3,if_neg h4] at hsp;cases hbv:b with
  | true =>
   have hc:x=Sp.vZ∧who≤1:=of_decide_eq_true (by rw [← hb,hbv])
   rw [if_pos hc] at hsp
   refine jHI r p p1 who y _ w2 hR2 b2 ne K (fun w6 w' hR6 E6 b' E'=>hK _ _ _ _ _ _ ⟨by rw [hsp];rfl,?_,?_⟩)
   ·rw [hsp];simp only [← Bool.or_assoc]
    exact ⟨hR6.box.ext E' ne.symm,hR6.pool.ext E' (fun b hb e=>by have:=hR.pool.lt hb;omega),hR.ok,hR.out⟩
   ·exact (E2.trans E6).trans' E' (fun i hi h=>by omega)
  | false =>
   have hc:¬ (x=Sp.vZ∧who≤1):=of_decide_eq_false (by rw [← hb,hbv])
   rw [if_neg hc] at hsp
   unfold m_A_j5
   refine Br.f rfl ⟨r,rfl,hR2.box.canW (by simp),?_⟩
   intro w77 hw
   have d5:Box w77 r [.pointer p,.bool true] 57:=by rw [hw];exact hR2.box.set 1 _
   have E5:Ext (·=r.block) w2 w77:=by rw [hw];have:=Ext.setCell (w:=w2) (r.add 1) (.bool true);rw [zA] at this;exact this
   exact fin 0 0 0 ⟨#[]⟩ false true w77 hsp (by rw [Bool.or_true];exact ⟨d5,hR2.pool.ext E5 (fun b hb e=>hR.out (e▸hb)),hR.ok,hR.out⟩) E5
 have J4:∀b,b=decide (x=Sp.oO∧who≤1)→¬ (x=Sp.yY∧who=0)→¬ (x=Sp.vF∧who=2)→¬ (x=Sp.vN∧who=2)→m_A_j4 (some r) who body p1 x y b w2 K:=by
  intro b hb h1 h2 h3;unfold m_A_j4;refine ⟨fun h=>dealCase 2 who body ?_,fun h=>?_⟩
  ·rw [hsp,if_neg h1,if_neg h2,if_neg h3,if_pos (of_decide_eq_true (by rw [← hb,h]))]
  ·have h4:¬ (x=Sp.oO∧who≤1):=of_decide_eq_false (by rw [← hb,h]);exact ⟨fun hw=>J5 _ (by have:x=Sp.vZ:=of_decide_eq_true hw;simp [this]) h1 h2 h3 h4,fun hw=>J5 _ (by have:¬ x=Sp.vZ:=of_decide_eq_false hw;simp [this]) h1 h2 h3 h4⟩
 have J3:∀b,b=decide (x=Sp.vN∧who=2)→¬ (x=Sp.yY∧who=0)→¬ (x=Sp.vF∧who=2)→m_A_j3 (some r) who body p1 x y b w2 K:=by
  intro b hb h1 h2;unfold m_A_j3;refine ⟨fun h=>dealCase 6 0 y ?_,fun h=>?_⟩
  ·rw [hsp,if_neg h1,if_neg h2,if_pos (of_decide_eq_true (by rw [← hb,h]))]
  ·have h3:¬ (x=Sp.vN∧who=2):=of_decide_eq_false (by rw [← hb,h]);exact ⟨fun hw=>J4 _ (by have:x=Sp.oO:=of_decide_eq_true hw;simp [this]) h1 h2 h3,fun hw=>J4 _ (by have:¬ x=Sp.oO:=of_decide_eq_false hw;simp [this]) h1 h2 h3⟩
 have J2:∀b,b=decide (x=Sp.vF∧who=2)→¬ (x=Sp.yY∧who=0)→m_A_j2 (some r) who body p1 x y b w2 K:=by
  intro b hb h1;unfold m_A_j2;refine ⟨fun h=>nodeCase 5 ?_,fun h=>?_⟩
  ·rw [hsp,if_neg h1,if_pos (of_decide_eq_true (by rw [← hb,h]))]
  ·have h2:¬ (x=Sp.vF∧who=2):=of_decide_eq_false (by rw [← hb,h]);exact ⟨fun hw=>J3 _ (by have:x=Sp.vN:=of_decide_eq_true hw;simp [this];rfl) h1 h2,fun hw=>J3 _ (by have:¬ x=Sp.vN:=of_decide_eq_false hw;simp [this]) h1 h2⟩
 have J1:∀b,b=decide (x=Sp.yY∧who=0)→m_A_j1 (some r) who body p1 x y b w2 K:=by
  intro b hb;unfold m_A_j1;refine ⟨fun h=>nodeCase 3 ?_,fun h=>?_⟩
  ·rw [hsp,if_pos (of_decide_eq_true (by rw [← hb,h]))]
  ·have h1:¬ (x=Sp.yY∧who=0):=of_decide_eq_false (by rw [← hb,h]);exact ⟨fun hw=>J2 _ (by have:x=Sp.vF:=of_decide_eq_true hw;simp [this];rfl) h1,fun hw=>J2 _ (by have:¬ x=Sp.vF:=of_decide_eq_false hw;simp [this]) h1⟩
 exact ⟨fun hw=>J1 _ (by have:x=Sp.yY:=of_decide_eq_true hw;simp [this];rfl),fun hw=>J1 _ (by have:¬ x=Sp.yY:=of_decide_eq_false hw;simp [this])⟩
end Go.Proofs
end
section
namespace Go.Sp
theorem yI {L:Pool} {t k:Int} (h:(jZ L t k).2=false):inP L t=true∧(nodeOf L t).kind=k∧jZ L t k=(nodeOf L t,false):=by
 unfold jZ at h ⊢;split at h
 ·rename_i hh;exact ⟨hh.1,hh.2,by rw [if_pos hh]⟩
 ·cases h
theorem yJ {L:Pool} {t k:Int} (h:inP L t=true) (hk:(nodeOf L t).kind=k):jZ L t k=(nodeOf L t,false):=by unfold jZ;rw [if_pos ⟨h,hk⟩]
section
variable {L:Pool} (hW:Wf L) {t:Int} (ht:inP L t=true)
include hW ht
theorem jTT:(nodeOf L t).text.size≤64:=by
 have:=(hW.node ht).2.2.2.1;unfold jP at this;split at this
 ·cases this
 split at this
 ·cases this
 ·omega
theorem nd3 (hk:(nodeOf L t).kind=3):jE L t=vV (nodeOf L t).text:=by
 have h:=(hW.node ht).1;rw [zT hW ht,hk,vV];have hkk:jH (nodeOf L t)=[]:=by unfold jH;rw [hk];rfl
 rw [hkk];unfold jW at h;rw [hk] at h;simp [jF,qI] at h;simp [h]
theorem nd2 (hk:(nodeOf L t).kind=2):jE L t=jDE (nodeOf L t).num:=by
 have h:=(hW.node ht).1;rw [zT hW ht,hk,jDE];have hkk:jH (nodeOf L t)=[]:=by unfold jH;rw [hk];rfl
 rw [hkk];unfold jW at h;rw [hk] at h;simp [jF,qI] at h;simp [h]
theorem nd4 (hk:(nodeOf L t).kind=4):inP L (nodeOf L t).a=true∧inP L (nodeOf L t).b=true∧jE L t=vP (jE L (nodeOf L t).a) (jE L (nodeOf L t).b):=by
 have h:=(hW.node ht).1;have hp:=(hW.node ht).2.2.2.2.1;have hkk:jH (nodeOf L t)=[(nodeOf L t).a,(nodeOf L t).b]:=by unfold jH;rw [hk];rfl
 rw [hkk] at hp;refine ⟨(hp _ (by simp)).1,(hp _ (by simp)).1,?_⟩;rw [zT hW ht,hk,vP,hkk];unfold jW at h;rw [hk] at h;simp [jF,qI] at h;simp [h]
theorem nd7 (hk:(nodeOf L t).kind=7):inP L (nodeOf L t).a=true∧0≤(nodeOf L t).frm∧jE L t=xB (nodeOf L t).frm (jE L (nodeOf L t).a):=by
 have h:=(hW.node ht).1;have hf:=(hW.node ht).2.2.2.1;have hp:=(hW.node ht).2.2.2.2.1;have hkk:jH (nodeOf L t)=[(nodeOf L t).a]:=by unfold jH;rw [hk];rfl
 rw [hkk] at hp;refine ⟨(hp _ (by simp)).1,?_,?_⟩
 ·unfold jP at hf;rw [hk] at hf;split at hf
  ·cases hf
  ·rename_i hh;simp [jF,qH] at hh;omega
 rw [zT hW ht,hk,xB,hkk];unfold jW at h;rw [hk] at h;simp [jF,qI] at h;simp [h]
theorem nd89 (hk:(nodeOf L t).kind=8∨(nodeOf L t).kind=9):inP L (nodeOf L t).a=true∧0≤(nodeOf L t).frm∧(nodeOf L t).frm<16∧((nodeOf L t).to=1 - (nodeOf L t).frm→jE L t=yK (nodeOf L t).frm (jE L (nodeOf L t).a) ((nodeOf L t).kind == 9)):=by
 have h:=(hW.node ht).1;have hf:=(hW.node ht).2.2.2.1;have hp:=(hW.node ht).2.2.2.2.1;have hkk:jH (nodeOf L t)=[(nodeOf L t).a]:=by unfold jH;rcases hk with hk | hk <;> (rw [hk];rfl)
 rw [hkk] at hp;have hff:0≤(nodeOf L t).frm∧(nodeOf L t).frm<16:=by
  unfold jP at hf;rcases hk with hk | hk <;>
  ·rw [hk] at hf;split at hf
   ·cases hf
   ·rename_i hh;simp [jF,qH] at hh;omega
 refine ⟨(hp _ (by simp)).1,hff.1,hff.2,fun hto=>?_⟩;rw [zT hW ht,yK,hkk,← hto];unfold jW at h;rcases hk with hk | hk <;>
 ·rw [hk] at h ⊢;simp [jF,qI] at h;simp [h]
theorem yL {k f t' u:Int} {x:ByteArray} {ks:List Tree} (h:jE L t=.mk k f t' u x ks):(nodeOf L t).kind=k∧(nodeOf L t).frm=f∧(nodeOf L t).to=t'∧(nodeOf L t).num=u∧(nodeOf L t).text=x:=by
 rw [zT hW ht] at h;injection h with h1 h2 h3 h4 h5 h6;exact ⟨h1,h2,h3,h4,h5⟩
end
theorem jDK {n:Int} (h:0≤n∧n<16):IntKind.i64.wrap (1 - n)=1 - n:=IntWalk.i64_in _ (by omega)
section
variable {L:Pool} (hW:Wf L) {t:Int}
include hW
theorem qM (h:(jV L t).2=false):inP L t=true∧inP L (jV L t).1.2=true∧jE L t=vP (vV (jV L t).1.1) (jE L (jV L t).1.2):=by
 unfold jV at h ⊢;simp only [Bool.or_eq_false_iff] at h;obtain ⟨ht,hk,e1⟩:=yI h.1;rw [e1] at h ⊢;simp only at h ⊢;obtain ⟨ha,hka,e2⟩:=yI h.2;rw [e2];obtain ⟨_,h2,h3⟩:=nd4 hW ht hk;exact ⟨ht,h2,by rw [h3,nd3 hW ha hka]⟩
theorem oC (ht:inP L t=true) {g:ByteArray} {y:Tree} (h:jE L t=vP (vV g) y):∃n,jV L t=((g,n),false)∧inP L n=true∧jE L n=y:=by
 have hk:=(yL hW ht (h.trans rfl)).1;obtain ⟨h1,h2,h3⟩:=nd4 hW ht hk;rw [h] at h3;have e1:vV g=jE L (nodeOf L t).a:=by simpa [vP] using (Tree.mk.inj h3).2.2.2.2.2 |> fun e=>(List.cons.inj e).1
 have e2:y=jE L (nodeOf L t).b:=by have:=(Tree.mk.inj h3).2.2.2.2.2;exact (List.cons.inj (List.cons.inj this).2).1
 have hka:=yL hW h1 (e1.symm.trans rfl);refine ⟨(nodeOf L t).b,?_,h2,e2.symm⟩;unfold jV;rw [yJ ht hk];simp only;rw [yJ h1 hka.1];simp [hka.2.2.2.2]
theorem jCD (h:(zR L t).2=false):inP L t=true∧jE L t=qN (zR L t).1.1 (zR L t).1.2∧(zR L t).1.2.size≤64:=by
 unfold zR at h ⊢;simp only [Bool.or_eq_false_iff,Bool.not_eq_false',decide_eq_true_eq] at h;obtain ⟨⟨⟨⟨h1,h2⟩,h3⟩,h4⟩,h5⟩:=h;obtain ⟨ht,_,e⟩:=qM hW h1;obtain ⟨hp,hpk,e2⟩:=yI h2;simp only at h3 ⊢;rw [e2] at h4 h5 ⊢;simp only at h4 h5 ⊢;obtain ⟨ha,hak,e4⟩:=yI h4;obtain ⟨hb,hbk,e5⟩:=yI h5;rw [e4,e5];refine ⟨ht,?_,jTT hW hb⟩;rw [e,h3,(nd4 hW hp hpk).2.2,nd2 hW ha hak,nd3 hW hb hbk];rfl
theorem jCE (ht:inP L t=true) {c:Int} {x:ByteArray} (h:jE L t=qN c x):zR L t=((c,x),false):=by
 obtain ⟨n,e1,hn,e⟩:=oC hW ht h;have hk:=(yL hW hn (e.trans rfl)).1;obtain ⟨h1,h2,h3⟩:=nd4 hW hn hk;rw [e] at h3;have q1:jDE c=jE L (nodeOf L n).a:=(List.cons.inj (Tree.mk.inj h3).2.2.2.2.2).1;have q2:vV x=jE L (nodeOf L n).b:=(List.cons.inj (List.cons.inj (Tree.mk.inj h3).2.2.2.2.2).2).1;have k1:=yL hW h1 (q1.symm.trans rfl);have k2:=yL hW h2 (q2.symm.trans rfl);unfold zR;rw [e1];simp only;rw [yJ hn hk];simp only;rw [yJ h1 k1.1,yJ h2 k2.1];simp [k1.2.2.2.1,k2.2.2.2.2]
theorem jEO (ht:inP L t=true) {c:Int} (h:jE L t=jDE c):(jZ L t 2).1.num=c∧(jZ L t 2).2=false:=by
 have k:=yL hW ht (h.trans rfl);rw [yJ ht k.1];exact ⟨k.2.2.2.1,rfl⟩
theorem jEN (h:(jZ L t 2).2=false):inP L t=true∧jE L t=jDE (jZ L t 2).1.num:=by
 obtain ⟨h1,h2,e⟩:=yI h;rw [e];exact ⟨h1,nd2 hW h1 h2⟩
theorem xS (ht:inP L t=true) (h:(jO L t).2=false):(jO L t).1.kind=1∧((jO L t).1.frm=0∨(jO L t).1.frm=1)∧jE L t=yK (jO L t).1.frm (qN (jO L t).1.c (jO L t).1.text) (jO L t).1.fake∧(jO L t).1.text.size≤64:=by
 unfold jO at h ⊢;simp only at h ⊢;split at h
 ·cases h
 rename_i hh;rw [if_neg hh];simp only [not_or,not_and,Classical.not_not] at hh;have hk:(nodeOf L t).kind=8∨(nodeOf L t).kind=9:=by
  by_cases h8:(nodeOf L t).kind=8
  ·exact .inl h8
  ·exact .inr (hh.1 h8)
 obtain ⟨ha,h0,h16,hT⟩:=nd89 hW ht hk;have hto:=hh.2.2;rw [jDK ⟨h0,h16⟩] at hto;obtain ⟨_,e,hx⟩:=jCD hW h;simp only;refine ⟨trivial,by have:=hh.2.1;omega,by rw [hT hto,e],hx⟩
theorem xU (ht:inP L t=true) {n c:Int} {x:ByteArray} {g:Bool} (hn:n=0∨n=1) (h:jE L t=yK n (qN c x) g):jO L t=(⟨1,n,c,x,g⟩,false):=by
 have k:=yL hW ht (h.trans rfl);have hk:(nodeOf L t).kind=8∨(nodeOf L t).kind=9:=by rw [k.1];cases g <;> simp
 obtain ⟨ha,h0,h16,hT⟩:=nd89 hW ht hk;have:=hT (by rw [k.2.2.1,k.2.1]);rw [h,k.2.1] at this;have q1:qN c x=jE L (nodeOf L t).a:=(List.cons.inj (Tree.mk.inj this).2.2.2.2.2).1;unfold jO;simp only;rw [if_neg,jCE hW ha q1.symm,k.1,k.2.1]
 ·cases g <;> rfl
 ·simp only [not_or,not_and,Classical.not_not];refine ⟨fun h8=>hk.resolve_left h8,by rw [k.2.1];omega,?_⟩;rw [k.2.2.1,jDK ⟨h0,h16⟩,k.2.1]
end
end Go.Sp
end
