import Derived.Test.YtodiipjdnnnieaaGreatProg
import Derived.KernelRfl
import Derived.Test.YtodiipjdnnnieaaGreatPa3
import Derived.Test.YtodiipjdnnnieaaGreatPa5
import Derived.Test.YtodiipjdnnnieaaGreatPa1
import Derived.Test.YtodiipjdnnnieaaGreatPa4
import Derived.Test.YtodiipjdnnnieaaGreatPa0
section
open Go Go.SE
open Go.IntKind renaming i64 → q6
namespace Go.Proofs
open Tryz
set_option maxRecDepth 100000
set_option maxHeartbeats 4000000
attribute [local irreducible] wpL wpX opE wpE Calls
def m_S1_l1 (yield1:Value) (v1:Sl) (x1:Int) (wl1:World) (Kc1:Int→WP) (K:WP):Prop :=
 Br (decide (x1<(v1.len:Int)))
  (∃a1:Addr,At v1 x1 1 a1 ∧
  ∃v2:Int,wl1.cell? a1=some (vi v2) ∧
  ∃(ly1:Nat),yield1=.func (.yield ly1) #[] #[] ∧
  Yld prog ly1 #[(vi v2)] wl1 (fun e w1=>∃b1:Bool,e=.returned (vb b1) ∧
   Br (!b1)
    (K w1)
    (Kc1 (q6.wrap (x1+1)) w1)))
  (K wl1)
def m_S1 (yield1:Value) (cap1:Addr) (w0:World) (K:WP):Prop :=
 ∃v1:Sl,w0.cell? cap1=some v1.v ∧
 ∃(I1:Int→WP) (mu1:Int→World→Nat),I1 0 w0 ∧
  ∀(x1:Int) (wl1:World),I1 x1 wl1→m_S1_l1 yield1 v1 x1 wl1 (fun y'0 w'=>I1 y'0 w'∧mu1 y'0 w'<mu1 x1 wl1) K
theorem w_S1 (yield1 : Value) (cap1 : Addr) (w0 : World) (K : WP) (h : m_S1 yield1 cap1 w0 K) :
  Calls prog 208 #[yield1,(vp (some cap1))] w0 (fun e w'=>e=.returned (.tuple #[])∧K  w'):=by
 unfold m_S1 at h
 refine cw (args:=[yield1,(vp (some cap1))]) func208 ntmps208 (eg ?_)
 obtain ⟨v1,hv3,h⟩:=h
 refine q2 v1.v (xl (isAgg46 _) hv3) (q0 (vi (v1.len:Int)) (q0 (vi 0) (ln (wpE_block ?_))))
 obtain ⟨I1,mu1,h0,hr⟩:=h
 refine wpE_loop (σ:=Int×World) (fun s ρ w=>w=s.2∧Has ρ [(0,yield1),(5,v1.v),(6,(vi (v1.len:Int))),(7,(vi s.1))]∧I1 s.1 s.2) (fun s=>mu1 s.1 s.2) (0,w0) ⟨rfl,hm,h0⟩ ?_
 rintro ⟨x1,wl1⟩ ρ w ⟨hw,hH,hI⟩
 obtain rfl:wl1=w:=(show w=wl1 from hw).symm
 have hH:Has ρ [(0,yield1),(5,v1.v),(6,(vi (v1.len:Int))),(7,(vi x1))]:=hH
 have h:=hr x1 wl1 hI
 unfold m_S1_l1 at h
 refine wpE_has hH ?_
 refine eg (q0 (vb (decide (x1<(v1.len:Int)))) (ln (wpE_seq ?_)))
 refine wpE_cond (t:=(decide (x1<(v1.len:Int)))) (by kernel_rfl) (fun hc1=>?_) (fun hc1=>?_)
 have h:=h.1 hc1
 refine wpE_skip (th_n (wpE_seq (wpE_block (eg ?_))))
 obtain ⟨a1,hv2,h⟩:=h
 refine q2 (vp (some a1)) (xi (runUnderlying46 _) (sizeOf78 _) hv2) ?_
 obtain ⟨v2,hv1,h⟩:=h
 refine q2 (vi v2) (xl (isAgg78 _) hv1) (q0 (vi v2) (ln (eg (q0 yield1 (q0 (vi v2) ?_)))))
 obtain ⟨ly1,hy1,h⟩:=h
 refine st_yield (want0 rfl) (by kernel_rfl) hy1 (by kernel_rfl) (h.mono ?_)
 rintro e w1 ⟨b1,rfl,h⟩
 refine ⟨_,rfl,?_⟩
 refine q0 (vb (!b1)) (ln ?_)
 refine wpE_cond (t:=(!b1)) (by kernel_rfl) (fun hc2=>?_) (fun hc2=>?_)
 have h:=h.1 hc2
 refine er (bl_r (th_r (th_r (bl_r (res0 (.inl rfl) results208 ?_)))))
 exact ⟨rfl,h⟩
 have h:=h.2 hc2
 refine wpE_skip (bl_n (th_n (rg (q0 (vi (q6.wrap (x1+1))) (q0 (vi (q6.wrap (x1+1))) (ln ?_))))))
 exact ⟨((q6.wrap (x1+1)),w1),⟨rfl,hm,h.1⟩,h.2⟩
 have h:=h.2 hc1
 refine wpE_exit (th_x (th_x (bl_eq (res0 (.inr rfl) results208 ?_))))
 exact ⟨rfl,h⟩
def m_Q3 (s1:Sl) (seq1:Value) (w0:World) (K:Sl→WP):Prop :=
 ∀(p1:Addr) (w1:World),New w0 (.cells #[s1.v] 46) p1 w1 →
 ∃(f1:FuncId) (cs1:Array Value),seq1=.func (.func f1) #[] cs1∧(∀args w,(callFunc f1 args).run prog w=.ok (.enter f1 args) w) ∧
 ∃(xs1:List (Int)) (Rd1:WP),IterC prog f1 cs1 (fun (z2:Int)=>#[(vi z2)]) xs1 Rd1 w1 ∧
 ∃(I1:List (Int)→NP→WP),RngI w0 Rd1 I1 (fun _ _ _=>False) (fun _ _ _=>False)∧I1 [] None w1 ∧
 (∀(pre1:List (Int)) (z2:Int) (Y1:NP) (A1:World),I1 pre1 Y1 A1→Hst w0 Y1 A1 Y1 A1→(∃post,xs1=pre1++z2 :: post) →
  ∃v1:Sl,A1.cell? p1=some v1.v ∧
  ∀(p2:Addr) (w2:World),New A1 (.cells #[(vi z2)] 78) p2 w2 →
  ∃s2:Sl,∃w3:World,(Builtin.append_ #[46,46] 46 #[v1.v,(Sl.mk (some p2) 1 1).v]).run prog w2=.ok s2.v w3 ∧
  Kept None w2 w3 ∧
  CanW w3 p1∧¬ None p1.block∧∀w4:World,w4=w3.setCell p1 s2.v →
  Kept Y1 A1 w4∧I1 (pre1++[z2]) Y1 w4) ∧
 ∀(H1:NP) (w5:World),Hst w0 H1 w5 H1 w5→(∀b,None b→H1 b)→Kept None w1 w5→I1 xs1 H1 w5 →
 ∃v2:Sl,w5.cell? p1=some v2.v ∧
 ∀(w6:World),Hst w0 H1 w5 H1 w6 →
 K v2 w6
theorem w_Q3 (s1 : Sl) (seq1 : Value) (w0 : World) (K : Sl → WP) (h : m_Q3 s1 seq1 w0 K) :
  Calls prog 283 #[s1.v,seq1] w0 (fun e w'=>∃r1:Sl,e=.returned r1.v∧K r1 w'):=by
 unfold m_Q3 at h
 refine cw (args:=[s1.v,seq1]) func283 ntmps283 ?_
 have hs:=Hst.start w0
 have hb:=HB.nil None w0
 refine eg (sn (O:=(.cells #[s1.v] 46)) xb ?_)
 intro p1 w1 hn3
 have h:=h p1 w1 hn3
 have hs:=hs.again (Ext.new (F:=None) hn3).keptP
 have hb:=hb.kept (Ext.new (F:=None) hn3).keptP
 refine q0 Sl.nil.v (ln (wpE_seqC (rg (q0 seq1 (ln ?_)))))
 obtain ⟨f1,cs1,hv1,hf1,h⟩:=h
 obtain ⟨xs1,Rd1,hit,I1,hRI,h0,hbody,h⟩:=h
 refine wpB_range (encs:=(fun (z2:Int)=>#[(vi z2)])) (Eq.trans (b:=seq1) (by kernel_rfl) hv1) hf1 hit (fun _=>rfl) (by decide) hs I1 (fun _ _ _=>False) (fun _ _ _=>False) hRI h0 ?ha ?hr ?ht
 case ha =>
  intro l z2 w7
  refine rg (q0 (vi z2) (ln ?_))
  refine ⟨rfl,?_⟩
  intro pre1 Y1 A1 hi hY hpost
  have h:=hbody pre1 z2 Y1 A1 hi hY hpost
  have hs:=Hst.start A1
  have hb:=HB.nil None A1
  refine wpE_block (rg ?_)
  obtain ⟨v1,hv3,h⟩:=h
  refine q2 v1.v (xl (isAgg46 _) hv3) (q0 (vi z2) (st_new (O:=(.cells #[(vi z2)] 78)) (fun p=>(Sl.mk (some p) 1 1).v) (want0 rfl) (x_buildSlice (vs:=#[(0,(vi z2))]) (by kernel_rfl) (by kernel_rfl)) ?_))
  intro p2 w2 hn2
  have h:=h p2 w2 hn2
  have hs:=hs.again (Ext.new (F:=None) hn2).keptP
  have hb:=hb.kept (Ext.new (F:=None) hn2).keptP
  obtain ⟨s2,w3,hv2,hk,h⟩:=h
  refine st (v:=s2.v) (want0 rfl) (x_builtin (args:=#[v1.v,(Sl.mk (some p2) 1 1).v]) (by kernel_rfl) (fun _=>rfl) hv2) ?_
  obtain ⟨hs,hb⟩:=hk.hh hs hb
  obtain ⟨hp1,hnh,h⟩:=h
  refine ss (x_store (a:=p1) (v:=s2.v) (by kernel_rfl) (by kernel_rfl) rfl (sizeOf46 _) hp1) ?_
  intro w4 hn1
  have h:=h w4 hn1
  have hk:=Kept.sc hnh hn1
  obtain ⟨hs,hb⟩:=hk.hh hs hb
  refine wpL_nil (bl_n ?_)
  exact rd_n h
 case hr =>
  intro D1 H1 w5 hs' hD hDe aA hk1 hio1
  have hb':=hb.behind hk1 aA hD hDe
  have hs:=hs'
  have hb:=hb'
  have h:=h H1 w5 hs aA hk1 (hio1.elim id (fun h=>h.elim (fun _ h=>h.elim)))
  refine eg ?_
  obtain ⟨v2,hv4,h⟩:=h
  refine q2 v2.v (xl (isAgg46 _) hv4) (q0 v2.v (ln (er (af_r hb.dead ?_))))
  intro w6 hw'
  have hl:=hb.leave hs hw'
  obtain ⟨hs,hb⟩:=hl
  -- behind the loop
  have h:=h w6 hs
  have hs:=hs.here
  refine rs1 results283 (v:=v2.v) ?_
  exact ⟨v2,rfl,h⟩
 case ht =>
  intro _ _ _ _ _ _ _ h
  exact h.elim
end Go.Proofs
end
section
open Go Go.SE Go.Sort
namespace Go.Proofs
open Tryz
abbrev SP (w0:World) (s:Sl) (Q:List Int→Prop) (w':World):Prop:=∃l,Rws w' 78 1 s (tmr l)∧Ext s.blk w0 w'∧Q l
theorem tmr_flat (l:List Int):(tmr l).flatten=l.map (Value.int .i64):=by
 induction l with
 | nil=>rfl
 | cons a l ih=>simp only [tmr,List.map_cons,List.flatten_cons] at *;rw [ih];rfl
theorem c_Sort (s : Sl) (l : List Int) (w0 : World) (h : Rws w0 78 1 s (tmr l)) (hn : l.length ≤ 1000000) :
  Calls prog 207 #[s.v] w0 (fun e w'=>e=.returned (.tuple #[])∧SP w0 s (fun l'=>l'.Perm l∧l'.Pairwise (·≤·)) w'):=by
 have hl:s.len=l.length:=by rw [h.len];simp [tmr]
 rcases h.own with ⟨rfl,hnil⟩ | ⟨b,cur,ha,hg,hc,hm,hs,ht⟩
 ·have hd:l=[]:=by simpa [tmr] using hnil
  subst hd
  refine (show Calls prog 207 #[Sl.nil.v] w0 _ from AnyG.slices_Sort_int_none sortT none 0 w0).mono ?_
  rintro _ w' ⟨rfl,rfl⟩
  exact ⟨rfl,[],h,Ext.refl _,.refl _,.nil⟩
 have hlen:(tmr l).length=l.length:=by simp [tmr]
 rw [tmr_flat,hlen,Nat.mul_one] at ht
 rw [hlen] at hc
 rw [Nat.mul_one] at hs
 have hb:b<w0.heap.size:=heap_lt hg
 have hget:∀j,j<l.length→∃hj:j<l.length,cur[j]?=some (.int .i64 l[j]):=fun j hj=>⟨hj,by
  have:cur.toList[j]?=(cur.toList.take l.length)[j]?:=by rw [List.getElem?_take_of_lt hj]
  rw [← Array.getElem?_toList,this,ht,List.getElem?_map,List.getElem?_eq_getElem hj];rfl⟩
 have hH:Holds (Value.int .i64) w0 b 0 l.toArray:=by
  intro j hj
  have hj:j<l.length:=by simpa using hj
  obtain ⟨_,e⟩:=hget j hj
  refine ⟨?_,?_⟩
  ·unfold World.cell?
   rw [hg]
   simp only [Option.isSome_none,Bool.false_eq_true,if_false,Nat.zero_add]
   rw [e,getElem!_pos l.toArray j (by simpa using hj)];simp
  ·unfold World.frozen?
   rw [hg];simp
 have hv:s.v=.slice (some ⟨b,0,none⟩) l.length s.cap:=by unfold Sl.v;rw [ha,hl]
 rw [hv]
 refine (show Calls prog 207 #[.slice (some ⟨b,0,none⟩) l.length s.cap] w0 _ from AnyG.slices_Sort_int sortT b 0 s.cap l w0 hH hb (by omega)).mono ?_
 rintro _ w' ⟨rfl,n,os,rfl⟩
 have hp:(l.mergeSort fun x y=>decide (x≤y)).Perm l:=List.mergeSort_perm l _
 have hsd:(l.mergeSort fun x y=>decide (x≤y)).Pairwise (·≤·):=by
  have:=List.pairwise_mergeSort (le:=fun x y:Int=>decide (x≤y)) (fun a b c h1 h2=>by simp at *;omega) (fun a b=>by simp;omega) l
  simpa using this
 have hq:(l.mergeSort fun x y=>decide (x≤y)).length=l.length:=hp.length_eq
 generalize (l.mergeSort fun x y=>decide (x≤y))=q at *
 refine ⟨rfl,q,⟨?_,?_,.inr ⟨b,putCells (Value.int .i64) 0 q.toArray cur,ha,?_,by simp [tmr];omega,hm,by simp [putCells,hs],?_⟩⟩,?_,hp,hsd⟩
 ·intro r hr;simp [tmr] at hr;obtain ⟨t,_,rfl⟩:=hr;rfl
 ·rw [hl];simp [tmr,hq]
 ·rw [heap_grow_old _ _ (by simpa using hb)]
  simp [putRow,mapBlock,Sort.ahead,Array.getElem?_modify,hg,onCells]
 ·rw [tmr_flat]
  apply List.ext_getElem?
  intro j
  have e1:(tmr q).length*1=q.length:=by simp [tmr]
  rw [e1]
  by_cases hj:j<q.length
  ·rw [List.getElem?_take_of_lt hj,Array.getElem?_toList]
   unfold putCells
   rw [Array.getElem?_mapIdx,Array.getElem?_eq_getElem (show j<cur.size by omega),Option.map_some,if_pos ⟨Nat.zero_le _,by simp;omega⟩,Nat.sub_zero,getElem!_pos _ j (by simpa using hj),List.getElem?_map,List.getElem?_eq_getElem hj]
   simp
  ·rw [List.getElem?_eq_none (by simp;omega),List.getElem?_eq_none (by simp;omega)]
 ·refine ⟨rfl,rfl,rfl,Nat.le_add_right _ _,by simp [size_grow],fun i hi hf=>?_⟩
  have hne:b≠i:=fun e'=>hf ⟨_,ha,e'⟩
  rw [heap_grow_old _ _ (by simpa using hi)]
  simp [putRow,mapBlock,Sort.ahead,Array.getElem?_modify,hne]
end Go.Proofs
end
section
open Go Go.SE
open Go.IntKind renaming i64 → q6
namespace Go.Proofs
open Tryz
set_option maxRecDepth 100000
set_option maxHeartbeats 4000000
attribute [local irreducible] wpL wpX opE wpE Calls
def m_R3 (p1:Option Addr) (w0:World) (K:(Option Addr)→WP):Prop :=
 Br (Option.isNone p1)
  (K none w0)
  (∀(p2:Addr) (w1:World),New w0 (.map #[] 0) p2 w1 →
  ∀(p3:Addr) (w2:World),New w1 (.cells #[(vp p1),Sl.nil.v,(.map (some p2.block)),Sl.nil.v] 212) p3 w2 →
  K (some p3) w2)
theorem w_R3 (p1 : Option Addr) (w0 : World) (K : (Option Addr) → WP) (h : m_R3 p1 w0 K) :
  Calls prog 62 #[(vp p1)] w0 (fun e w'=>∃r1:Option Addr,e=.returned (vp r1)∧K r1 w'):=by
 unfold m_R3 at h
 refine cw (args:=[(vp p1)]) func62 ntmps62 (eg (q0 (vp none) (ln (wpE_seq (eg (q0 (vp p1) (q2 (vb (Option.isNone p1)) (x_ptreq (by kernel_rfl) rfl underlying68) (wpL_nil ?_))))))))
 refine th_n ?_
 refine wpE_cond (t:=(Option.isNone p1)) (by kernel_rfl) (fun hc1=>?_) (fun hc1=>?_)
 have h:=h.1 hc1
 refine eg (q0 (vp none) (ln (er (th_r (rs1 results62 (v:=(vp none)) ?_)))))
 exact ⟨none,rfl,h⟩
 have h:=h.2 hc1
 refine wpE_skip (th_n (eg (q0 (vp p1) (st_new (O:=(.map #[] 0)) (fun p=>.map (some p.block)) (want0 rfl) (by kernel_rfl) ?_))))
 intro p2 w1 hn2
 have h:=h p2 w1 hn2
 refine q0 (.agg #[(vp p1),Sl.nil.v,(.map (some p2.block)),Sl.nil.v]) (sn (O:=(.cells #[(vp p1),Sl.nil.v,(.map (some p2.block)),Sl.nil.v] 212)) xb ?_)
 intro p3 w2 hn1
 have h:=h p3 w2 hn1
 refine q0 (vp (some p3)) (ln (er (rs1 results62 (v:=(vp (some p3))) ?_)))
 exact ⟨(some p3),rfl,h⟩
def m_Q_j2 (p1:Addr) (at1:Int) (p5 a9:Addr) (w0:World) (H:NP) (w:World) (Kc1:Int→NP→WP) (_K:WP):Prop :=
 ∃v15:Int,w.cell? a9=some (vi v15) ∧
 Br (v15 == 4)
  (∃v16:Int,w.cell? (a9.add 5)=some (vi v16) ∧
  Calls prog 205 #[(vi v16),(vi 1),(vp (some p1)),(vp (some p5))] w (fun e w13=>e=.returned (.tuple #[])∧
   Kept H w w13 ∧
   ∃v17:Int,w13.cell? (a9.add 6)=some (vi v17) ∧
   Calls prog 205 #[(vi v17),(vi 2),(vp (some p1)),(vp (some p5))] w13 (fun e w14=>e=.returned (.tuple #[])∧
    Kept H w13 w14 ∧
    Kc1 (q6.wrap (at1+1)) H w14)))
  (∀y1:Bool,y1=(cond (v15 == 7) (v15 == 7) (cond (v15 == 8) (v15 == 8) (v15 == 9))) →
  Br y1
   (∀(H3:NP) (w15:World),Hst w0 H w H3 w15 →
   ∃v18:Int,w15.cell? (a9.add 5)=some (vi v18) ∧
   Calls prog 205 #[(vi v18),(vi 3),(vp (some p1)),(vp (some p5))] w15 (fun e w16=>e=.returned (.tuple #[])∧
    Kept H3 w15 w16 ∧
    Kc1 (q6.wrap (at1+1)) H3 w16))
   (∀(H3:NP) (w15:World),Hst w0 H w H3 w15 →
   Kc1 (q6.wrap (at1+1)) H3 w15))
def m_Q_l1 (p1:Addr) (at1:Int) (w0:World) (Hl1:NP) (wl1:World) (Kc1:Int→NP→WP) (K:WP):Prop :=
 ∃v10:Option Addr,wl1.cell? p1=some (vp v10) ∧
 ∃a6:Addr,v10=some a6 ∧
 ∃v11:Sl,wl1.cell? (a6.add 3)=some v11.v ∧
 Br (decide (at1<(v11.len:Int)))
  (∃v12:Option Addr,wl1.cell? p1=some (vp v12) ∧
  ∃a7:Addr,v12=some a7 ∧
  ∃v13:Sl,wl1.cell? (a7.add 3)=some v13.v ∧
  ∃a8:Addr,At v13 at1 1 a8 ∧
  ∃v14:Int,wl1.cell? a8=some (vi v14) ∧
  ∀(p5:Addr) (w11:World),New wl1 (.cells #[(vi 0)] 78) p5 w11 →
  CanW w11 p5∧¬ Hl1 p5.block∧∀w12:World,w12=w11.setCell p5 (vi v14) →
  ∃C3:WP,C3 w12.drew∧∀w17,w17=w12.drew →
  ∃v19:Option Addr,(∀w',C3 w'→w'.cell? p1=some (vp v19)) ∧
  ∃a10:Addr,v19=some a10 ∧
  ∃v20:Option Addr,(∀w',C3 w'→w'.cell? a10=some (vp v20)) ∧
  ∃v21:Int,(∀w',C3 w'→w'.cell? p5=some (vi v21)) ∧
  (Calls prog 102 #[(vp v20),(vi v21)] w17 (fun e w18=>∃aA aC:Int,∃aD aF:Int,∃aG:ByteArray,∃aB aE:Int,∃r1:Bool,e=.returned (.tuple #[(.agg #[(vi aA),(vi aC),(vi aD),(vu aF),(vs aG),(vi aB),(vi aE)]),(vb r1)])∧C3 w18∧
   Kept Hl1 w17 w18 ∧
   ∀(p6:Addr) (w19:World),New w18 (.cells #[(vi 0),(vi 0),(vi 0),(vu 0),ve,(vi 0),(vi 0)] 176) p6 w19→C3 w19 ∧
   (∀j,j<7→CanW w19 (p6.add j))∧¬ Hl1 p6.block∧∀w20:World,w20=storeRow w19 p6 [(vi aA),(vi aC),(vi aD),(vu aF),(vs aG),(vi aB),(vi aE)]→C3 w20 ∧
   m_Q_j2 p1 at1 p5 p6 w0 Hl1 w20 Kc1 K)) ∧
  (∀(p7:Addr) (w21:World),New w17 (.cells #[(vi 0),(vi 0),(vi 0),(vu 0),ve,(vi 0),(vi 0)] 176) p7 w21→C3 w21 ∧
  Calls prog 102 #[(vp v20),(vi v21)] w21 (fun e w22=>∃aH aI:Int,∃aJ aK:Int,∃aL:ByteArray,∃aM aN:Int,∃r2:Bool,e=.returned (.tuple #[(.agg #[(vi aH),(vi aI),(vi aJ),(vu aK),(vs aL),(vi aM),(vi aN)]),(vb r2)])∧C3 w22∧
   Kept Hl1 w21 w22 ∧
   (∀j,j<7→CanW w22 (p7.add j))∧¬ Hl1 p7.block∧∀w23:World,w23=storeRow w22 p7 [(vi aH),(vi aI),(vi aJ),(vu aK),(vs aL),(vi aM),(vi aN)]→C3 w23 ∧
   m_Q_j2 p1 at1 p5 p7 w0 Hl1 w23 Kc1 K)))
  (K wl1)
def m_Q (k1:Option Addr) (t1 wrule1 wfrom1:Int) (w0:World) (K:WP):Prop :=
 ∀(p1:Addr) (w1:World),New w0 (.cells #[(vp k1)] 125) p1 w1 →
 ∀(H1:NP) (w2:World),Hst w0 None w1 H1 w2 →
 ∃v1:Option Addr,w2.cell? p1=some (vp v1) ∧
 ∃a1:Addr,v1=some a1 ∧
 ∃v2:Option Nat,w2.cell? (a1.add 2)=some (.map v2) ∧
 ∃vrule1 vfrom1:Int,∃ok1:Bool,(Instr.lookup 210 (.map v2) (vi t1) true).run prog w2=.ok (.tuple #[(.agg #[(vi vrule1),(vi vfrom1)]),(vb ok1)]) w2 ∧
 Br ok1
  (∀(H2:NP) (w4:World),Hst w0 H1 w2 H2 w4 →
  K w4)
  (∀(H2:NP) (w4:World),Hst w0 H1 w2 H2 w4 →
  ∃C1:WP,C1 w4.drew∧∀w5,w5=w4.drew →
  ∃v3:Option Addr,(∀w',C1 w'→w'.cell? p1=some (vp v3)) ∧
  ∃a2:Addr,v3=some a2 ∧
  ∃v4:Option Nat,(∀w',C1 w'→w'.cell? (a2.add 2)=some (.map v4)) ∧
  ∃w6:World,(Instr.mapUpdate 210 (.map v4) (vi t1) (.agg #[(vi wrule1),(vi wfrom1)])).run prog w5=.ok () w6 ∧
  Kept H2 w5 w6 ∧
  ∃v5:Option Addr,w6.cell? p1=some (vp v5) ∧
  ∃a3:Addr,v5=some a3 ∧
  ∃v6:Sl,w6.cell? (a3.add 3)=some v6.v ∧
  ∃C2:WP,C2 w6.drew∧∀w7,w7=w6.drew →
  ∃v7:Option Addr,(∀w',C2 w'→w'.cell? p1=some (vp v7)) ∧
  ∃v8:Option Addr,(∀w',C2 w'→w'.cell? p1=some (vp v8)) ∧
  ∃a4:Addr,v8=some a4 ∧
  ∃v9:Sl,(∀w',C2 w'→w'.cell? (a4.add 3)=some v9.v) ∧
  ∀(p4:Addr) (w8:World),New w7 (.cells #[(vi t1)] 78) p4 w8→C2 w8 ∧
  ∃s1:Sl,∃w9:World,(Builtin.append_ #[46,46] 46 #[v9.v,(Sl.mk (some p4) 1 1).v]).run prog w8=.ok s1.v w9∧C2 w9 ∧
  Kept H2 w8 w9 ∧
  ∃a5:Addr,v7=some a5 ∧
  CanW w9 (a5.add 3)∧¬ H2 (a5.add 3).block∧∀w10:World,w10=w9.setCell (a5.add 3) s1.v →
  ∃(I1:Int→NP→WP) (mu1:Int→World→Nat),I1 (v6.len:Int) H2 w10 ∧
   ∀(at1:Int) (Hl1:NP) (wl1:World),Hst w0 Hl1 wl1 Hl1 wl1→I1 at1 Hl1 wl1→m_Q_l1 p1 at1 w0 Hl1 wl1 (fun y'0 H' w'=>I1 y'0 H' w'∧mu1 y'0 w'<mu1 at1 wl1) K)
theorem w_Q (k1 : Option Addr) (t1 wrule1 wfrom1 : Int) (w0 : World) (K : WP) (h : m_Q k1 t1 wrule1 wfrom1 w0 K) :
  Calls prog 151 #[(vp k1),(vi t1),(.agg #[(vi wrule1),(vi wfrom1)])] w0 (fun e w'=>e=.returned (.tuple #[])∧K  w'):=by
 unfold m_Q at h
 refine cw (args:=[(vp k1),(vi t1),(.agg #[(vi wrule1),(vi wfrom1)])]) func151 ntmps151 ?_
 have hs:=Hst.start w0
 have hb:=HB.nil None w0
 refine eg (sn (O:=(.cells #[(vp k1)] 125)) xb ?_)
 intro p1 w1 hn12
 have h:=h p1 w1 hn12
 have hs:=hs.again (Ext.new (F:=None) hn12).keptP
 have hb:=hb.kept (Ext.new (F:=None) hn12).keptP
 refine sn (O:=(.cells #[(vi wrule1),(vi wfrom1)] 235)) xb ?_
 intro p2 w2 hn1
 obtain ⟨H1,hs,hb⟩:=hs.alloc hb hn1
 refine ln (wpE_seq (eg ?_))
 have h:=h H1 w2 hs
 have hs:=hs.here
 obtain ⟨v1,hv25,h⟩:=h
 refine q2 (vp v1) (xl (isAgg125 _) hv25) ?_
 obtain ⟨a1,hp1,h⟩:=h
 refine q2 (vp (some a1)) (xn hp1) (q0 (vp (some (a1.add 2))) ?_)
 obtain ⟨v2,hv24,h⟩:=h
 refine q2 (.map v2) (xl (isAgg210 _) hv24) (q0 (vi t1) ?_)
 obtain ⟨vrule1,vfrom1,ok1,hv23,h⟩:=h
 refine q2 (.tuple #[(.agg #[(vi vrule1),(vi vfrom1)]),(vb ok1)]) (x_lookup (by kernel_rfl) (by kernel_rfl) hv23) (q0 (.tuple #[(.agg #[(vi vrule1),(vi vfrom1)]),(vb ok1)]) (q0 (.agg #[(vi vrule1),(vi vfrom1)]) (q0 (vb ok1) (sn (O:=(.cells #[(vi 0),(vi 0)] 235)) (x_alloc (zeroValue235 _) rfl) ?_))))
 intro p3 w3 hn2
 obtain ⟨H2,hs,hb⟩:=hs.alloc hb hn2
 refine ss (xo p3 [(vi vrule1),(vi vfrom1)] (sizeOf235 _) (hb.k0 0 2 gZ)) ?_
 intro w4 hn3
 obtain ⟨hs,hb⟩:=hb.s0 (l':=[(p3,[(vi vrule1),(vi vfrom1)],235),(p2,[(vi wrule1),(vi wfrom1)],235)]) 0 [(vi vrule1),(vi vfrom1)] hs hn3 gZ
 refine q0 (vb ok1) (ln (eg (q0 (vb ok1) (ln ?_))))
 refine wpE_cond (t:=ok1) (by kernel_rfl) (fun hc1=>?_) (fun hc1=>?_)
 have h:=h.1 hc1
 refine er (th_r ?_)
 have h:=h H2 w4 hs
 have hs:=hs.here
 refine res0 (.inl rfl) results151 ?_
 exact ⟨rfl,h⟩
 have h:=h.2 hc1
 refine wpE_skip (th_n (wpE_seq ?_))
 have h:=h H2 w4 hs
 have hs:=hs.here
 obtain ⟨C1,hC,h⟩:=h
 refine wpE_drawnC (fun x=>C1 x∧HB H2 x [(p3,[(vi vrule1),(vi vfrom1)],235),(p2,[(vi wrule1),(vi wfrom1)],235)]) [6] [6] (by kernel_rfl) (by kernel_rfl) (by kernel_rfl) (by kernel_rfl) ⟨hC,hb.drew⟩ ?_
 intro w5 hw5
 have h:=h w5 hw5
 have hs:Hst w0 H2 w4 H2 w5:=by rw [hw5];exact hs.drew
 have hb:HB H2 w5 [(p3,[(vi vrule1),(vi vfrom1)],235),(p2,[(vi wrule1),(vi wfrom1)],235)]:=by rw [hw5];exact hb.drew
 have hs:=hs.here
 refine qg 0 ?_
 obtain ⟨v3,hv22,h⟩:=h
 refine sy (v:=(vp v3)) Kp0 (fun w' hw'=>(xl (isAgg125 _) (hv22 w' hw'.1))) (qg 1 ?_)
 obtain ⟨a2,hp2,h⟩:=h
 refine sy (v:=(vp (some a2))) Kp1 (fun _ _=>(xn hp2)) (qx 2 (vp (some (a2.add 2))) Kp2 (qg 3 ?_))
 obtain ⟨v4,hv21,h⟩:=h
 refine sy (v:=(.map v4)) Kp3 (fun w' hw'=>(xl (isAgg210 _) (hv21 w' hw'.1))) (qx 4 (vi t1) Kp4 (qz 5 (.agg #[(vi wrule1),(vi wfrom1)]) Kp5 (fun w' hw'=>(xa p2 [(vi wrule1),(vi wfrom1)] (isAgg235 _) (sizeOf235 _) (hw'.2.r0 1 2 (gS gZ)))) (lg 6 ?_)))
 obtain ⟨w6,hv20,hk,h⟩:=h
 refine sl_skip Kp6 (want0 rfl) (by kernel_rfl) (x_mapUpdate (by kernel_rfl) (by kernel_rfl) (by kernel_rfl) hv20) (.inl (by kernel_rfl)) ?_
 obtain ⟨hs,hb⟩:=hk.hh hs hb
 refine wn (th_n (eg ?_))
 obtain ⟨v5,hv19,h⟩:=h
 refine q2 (vp v5) (xl (isAgg125 _) hv19) ?_
 obtain ⟨a3,hp3,h⟩:=h
 refine q2 (vp (some a3)) (xn hp3) (q0 (vp (some (a3.add 3))) ?_)
 obtain ⟨v6,hv18,h⟩:=h
 refine q2 v6.v (xl (isAgg46 _) hv18) (q0 (vi (v6.len:Int)) (q0 (vi (v6.len:Int)) (ln (wpE_seq ?_))))
 obtain ⟨C2,hC,h⟩:=h
 refine wpE_drawnC (fun x=>C2 x∧HB H2 x [(p3,[(vi vrule1),(vi vfrom1)],235),(p2,[(vi wrule1),(vi wfrom1)],235)]) [6,7,10] [10] (by kernel_rfl) (by kernel_rfl) (by kernel_rfl) (by kernel_rfl) ⟨hC,hb.drew⟩ ?_
 intro w7 hw7
 have h:=h w7 hw7
 have hs:Hst w0 H2 w6 H2 w7:=by rw [hw7];exact hs.drew
 have hb:HB H2 w7 [(p3,[(vi vrule1),(vi vfrom1)],235),(p2,[(vi wrule1),(vi wfrom1)],235)]:=by rw [hw7];exact hb.drew
 have hs:=hs.here
 refine qg 0 ?_
 obtain ⟨v7,hv17,h⟩:=h
 refine sy (v:=(vp v7)) Kp0 (fun w' hw'=>(xl (isAgg125 _) (hv17 w' hw'.1))) (qg 1 ?_)
 obtain ⟨v8,hv16,h⟩:=h
 refine sy (v:=(vp v8)) Kp1 (fun w' hw'=>(xl (isAgg125 _) (hv16 w' hw'.1))) (qg 2 ?_)
 obtain ⟨a4,hp4,h⟩:=h
 refine sy (v:=(vp (some a4))) Kp2 (fun _ _=>(xn hp4)) (qx 3 (vp (some (a4.add 3))) Kp3 (qg 4 ?_))
 obtain ⟨v9,hv15,h⟩:=h
 refine sy (v:=v9.v) Kp4 (fun w' hw'=>(xl (isAgg46 _) (hv15 w' hw'.1))) (qx 5 (vi t1) Kp5 (lg 6 (sl_new (O:=(.cells #[(vi t1)] 78)) (fun p=>(Sl.mk (some p) 1 1).v) Kp6 (want0 rfl) (by kernel_rfl) (x_buildSlice (vs:=#[(0,(vi t1))]) (by kernel_rfl) (by kernel_rfl)) ?_)))
 intro p4 w8 hn11
 have h:=h p4 w8 hn11
 refine ⟨.inr ⟨h.1,hb.kept (Ext.new (F:=None) hn11).keptP⟩,?_⟩
 have h:=h.2
 have hs:=hs.again (Ext.new (F:=None) hn11).keptP
 have hb:=hb.kept (Ext.new (F:=None) hn11).keptP
 refine lg 7 ?_
 obtain ⟨s1,w9,hv14,hC,hk,h⟩:=h
 refine sl (v:=s1.v) Kp7 (want0 rfl) (by kernel_rfl) (x_builtin (args:=#[v9.v,(Sl.mk (some p4) 1 1).v]) (by kernel_rfl) (fun _=>rfl) hv14) (.inr ⟨hC,hb.kept hk⟩) ?_
 obtain ⟨hs,hb⟩:=hk.hh hs hb
 refine qg 8 ?_
 obtain ⟨a5,hp5,h⟩:=h
 refine sy (v:=(vp (some a5))) Kp8 (fun _ _=>(xn hp5)) (qx 9 (vp (some (a5.add 3))) Kp9 (lg 10 ?_))
 obtain ⟨hp6,hnh,h⟩:=h
 refine sl_t (pickA (S8 (pickS (pickS pickZ)))) (xs (v:=s1.v) (sizeOf46 _) hp6) ?_
 intro w10 hn4
 have h:=h w10 hn4
 refine ⟨.inl (by kernel_rfl),?_⟩
 have hk:=Kept.sc hnh hn4
 obtain ⟨hs,hb⟩:=hk.hh hs hb
 refine wn (th_n (wpE_block ?_))
 obtain ⟨I1,mu1,h0,hr⟩:=h
 refine wpE_loop (σ:=Int×NP×World) (fun s ρ w=>w=s.2.2∧Has ρ [(3,(vp (some p1))),(8,(vi s.1))]∧Hst w0 s.2.1 w s.2.1 w∧HB s.2.1 w [(p3,[(vi vrule1),(vi vfrom1)],235),(p2,[(vi wrule1),(vi wfrom1)],235)]∧I1 s.1 s.2.1 s.2.2) (fun s=>mu1 s.1 s.2.2) ((v6.len:Int),H2,w10) ⟨rfl,hm,hs,hb,h0⟩ ?_
 rintro ⟨at1,Hl1,wl1⟩ ρ w ⟨hw,hH,hs,hb,hI⟩
 obtain rfl:wl1=w:=(show w=wl1 from hw).symm
 have hH:Has ρ [(3,(vp (some p1))),(8,(vi at1))]:=hH
 have hs:Hst w0 Hl1 wl1 Hl1 wl1:=hs
 have hb:HB Hl1 wl1 [(p3,[(vi vrule1),(vi vfrom1)],235),(p2,[(vi wrule1),(vi wfrom1)],235)]:=hb
 have h:=hr at1 Hl1 wl1 hs hI
 unfold m_Q_l1 at h
 refine wpE_has hH ?_
 refine wpE_seq (eg (q0 (vi at1) ?_))
 obtain ⟨v10,hv13,h⟩:=h
 refine q2 (vp v10) (xl (isAgg125 _) hv13) ?_
 obtain ⟨a6,hp7,h⟩:=h
 refine q2 (vp (some a6)) (xn hp7) (q0 (vp (some (a6.add 3))) ?_)
 obtain ⟨v11,hv12,h⟩:=h
 refine q2 v11.v (xl (isAgg46 _) hv12) (q0 (vi (v11.len:Int)) (q0 (vb (decide (at1<(v11.len:Int)))) (ln ?_)))
 refine wpE_cond (t:=(decide (at1<(v11.len:Int)))) (by kernel_rfl) (fun hc2=>?_) (fun hc2=>?_)
 have h:=h.1 hc2
 refine wpE_skip (th_n (wpE_seq (wpE_block (eg ?_))))
 obtain ⟨v12,hv11,h⟩:=h
 refine q2 (vp v12) (xl (isAgg125 _) hv11) ?_
 obtain ⟨a7,hp8,h⟩:=h
 refine q2 (vp (some a7)) (xn hp8) (q0 (vp (some (a7.add 3))) ?_)
 obtain ⟨v13,hv10,h⟩:=h
 refine q2 v13.v (xl (isAgg46 _) hv10) (q0 (vi at1) ?_)
 obtain ⟨a8,hv9,h⟩:=h
 refine q2 (vp (some a8)) (xi (runUnderlying46 _) (sizeOf78 _) hv9) ?_
 obtain ⟨v14,hv8,h⟩:=h
 refine q2 (vi v14) (xl (isAgg78 _) hv8) (sn (O:=(.cells #[(vi 0)] 78)) (x_alloc (zeroValue78 _) rfl) ?_)
 intro p5 w11 hn10
 have h:=h p5 w11 hn10
 have hs:=hs.again (Ext.new (F:=None) hn10).keptP
 have hb:=hb.kept (Ext.new (F:=None) hn10).keptP
 obtain ⟨hp9,hnh,h⟩:=h
 refine ss (x_store (a:=p5) (v:=(vi v14)) (by kernel_rfl) (by kernel_rfl) rfl (sizeOf78 _) hp9) ?_
 intro w12 hn5
 have h:=h w12 hn5
 have hk:=Kept.sc hnh hn5
 obtain ⟨hs,hb⟩:=hk.hh hs hb
 refine ln (wpE_seq ?_)
 refine wpE_joinT (fun ρ w=>∃a9:Addr,∃H:NP,Has ρ [(3,(vp (some p1))),(8,(vi at1)),(9,(vp (some p5))),(10,(vp (some a9)))]∧Hst w0 H w H w∧HB H w [(p3,[(vi vrule1),(vi vfrom1)],235),(p2,[(vi wrule1),(vi wfrom1)],235)]∧m_Q_j2 p1 at1 p5 a9 w0 H w (fun y'0 H' w'=>I1 y'0 H' w'∧mu1 y'0 w'<mu1 at1 wl1) K) ?_ ?_
 rintro ρ w ⟨a9,H,hH,hs,hb,h⟩
 unfold m_Q_j2 at h
 refine wpE_has hH ?_
 refine eg (q0 (.func (.func 205) #[] #[(vp (some p1)),(vp (some p5))]) (q0 (.func (.func 205) #[] #[(vp (some p1)),(vp (some p5))]) (ln (eg (q0 (vp (some a9)) ?_)))))
 obtain ⟨v15,hv4,h⟩:=h
 refine q2 (vi v15) (xl (isAgg3 _) hv4) (ln (wpE_block (eg (q0 (vb (v15 == 4)) (q0 (vb (v15 == 4)) (ln ?_))))))
 refine wpE_cond (t:=(v15 == 4)) (by kernel_rfl) (fun hc3=>?_) (fun hc3=>?_)
 have h:=h.1 hc3
 refine eg (q0 (.func (.func 205) #[] #[(vp (some p1)),(vp (some p5))]) (q0 (vp (some (a9.add 5))) ?_))
 obtain ⟨v16,hv2,h⟩:=h
 refine q2 (vi v16) (xl (isAgg78 _) hv2) ?_
 refine st_call (want0 rfl) (x_callm (fs:=#[]) (caps:=#[(vp (some p1)),(vp (some p5))]) (args:=#[(vi v16),(vi 1)]) (args':=#[(vi v16),(vi 1),(vp (some p1)),(vp (some p5))]) (by kernel_rfl) call205 (by kernel_rfl) (by kernel_rfl)) (h.mono ?_)
 rintro e w13 ⟨rfl,hk,h⟩
 refine ⟨_,rfl,?_⟩
 obtain ⟨hs,hb⟩:=hk.hh hs hb
 refine ln (rg (q0 (.func (.func 205) #[] #[(vp (some p1)),(vp (some p5))]) (q0 (vp (some (a9.add 6))) ?_)))
 obtain ⟨v17,hv1,h⟩:=h
 refine q2 (vi v17) (xl (isAgg78 _) hv1) ?_
 refine st_call (want0 rfl) (x_callm (fs:=#[]) (caps:=#[(vp (some p1)),(vp (some p5))]) (args:=#[(vi v17),(vi 2)]) (args':=#[(vi v17),(vi 2),(vp (some p1)),(vp (some p5))]) (by kernel_rfl) call205 (by kernel_rfl) (by kernel_rfl)) (h.mono ?_)
 rintro e w14 ⟨rfl,hk,h⟩
 refine ⟨_,rfl,?_⟩
 obtain ⟨hs,hb⟩:=hk.hh hs hb
 refine wpL_nil (bl_n (bl_n (th_n (rg (q0 (vi at1) (q0 (vi (q6.wrap (at1+1))) (q0 (vi (q6.wrap (at1+1))) (ln ?_))))))))
 exact ⟨((q6.wrap (at1+1)),H,w14),⟨rfl,hm,hs,hb,h.1⟩,h.2⟩
 have h:=h.2 hc3
 refine wpE_seq (eg (q0 (vb (v15 == 7)) (q0 (vb (v15 == 7)) (ln ?_))))
 refine wpE_via (fun ρ wJ=>∃b1'0 b1'1 y1:Bool,∃HJ:NP,((v15 == 7)=b1'0)∧((v15 == 8)=b1'1)∧(y1=(cond b1'0 (v15 == 7) (cond b1'1 (v15 == 8) (v15 == 9))))∧Hst w0 H w HJ wJ∧HB HJ wJ [(p3,[(vi vrule1),(vi vfrom1)],235),(p2,[(vi wrule1),(vi wfrom1)],235)]∧Has ρ [(3,(vp (some p1))),(8,(vi at1)),(10,(vp (some a9))),(12,(.func (.func 205) #[] #[(vp (some p1)),(vp (some p5))])),(82,(vb y1))]) ?_ ?_
 refine wpE_cond (t:=(v15 == 7)) (by kernel_rfl) (fun hc6=>?_) (fun hc6=>?_)
 refine wpE_skip (th_n ?_)
 exact ⟨true,_,_,_,hc6,rfl,rfl,hs,hb,hm⟩
 refine eg (q0 (vb (v15 == 8)) (q0 (vb (v15 == 8)) (ln ?_)))
 refine wpE_cond (t:=(v15 == 8)) (by kernel_rfl) (fun hc7=>?_) (fun hc7=>?_)
 refine wpE_skip (th_n ?_)
 exact ⟨false,true,_,_,hc6,hc7,rfl,hs,hb,hm⟩
 refine rg (q0 (vb (v15 == 9)) (q0 (vb (v15 == 9)) (ln ?_)))
 exact ⟨false,false,_,_,hc6,hc7,rfl,hs,hb,hm⟩
 rintro ρ w15 ⟨b1'0,b1'1,y1,H3,he0,he1,hy1,hs,hb,hH⟩
 subst he0
 subst he1
 have h:=h y1 hy1
 refine norm_has hH ?_
 refine th_n ?_
 refine wpE_cond (t:=y1) (by kernel_rfl) (fun hc8=>?_) (fun hc8=>?_)
 have h:=h.1 hc8
 refine rg (q0 (.func (.func 205) #[] #[(vp (some p1)),(vp (some p5))]) (q0 (vp (some (a9.add 5))) ?_))
 have h:=h H3 w15 hs
 have hs:=hs.here
 obtain ⟨v18,hv3,h⟩:=h
 refine q2 (vi v18) (xl (isAgg78 _) hv3) ?_
 refine st_call (want0 rfl) (x_callm (fs:=#[]) (caps:=#[(vp (some p1)),(vp (some p5))]) (args:=#[(vi v18),(vi 3)]) (args':=#[(vi v18),(vi 3),(vp (some p1)),(vp (some p5))]) (by kernel_rfl) call205 (by kernel_rfl) (by kernel_rfl)) (h.mono ?_)
 rintro e w16 ⟨rfl,hk,h⟩
 refine ⟨_,rfl,?_⟩
 obtain ⟨hs,hb⟩:=hk.hh hs hb
 refine wpL_nil (bl_n (bl_n (th_n (rg (q0 (vi at1) (q0 (vi (q6.wrap (at1+1))) (q0 (vi (q6.wrap (at1+1))) (ln ?_))))))))
 exact ⟨((q6.wrap (at1+1)),H3,w16),⟨rfl,hm,hs,hb,h.1⟩,h.2⟩
 have h:=h.2 hc8
 refine wpE_skip (bl_n (bl_n (th_n (rg (q0 (vi at1) (q0 (vi (q6.wrap (at1+1))) (q0 (vi (q6.wrap (at1+1))) (wpL_nil ?_))))))))
 have h:=h H3 w15 hs
 have hs:=hs.here
 refine th_n ?_
 exact ⟨((q6.wrap (at1+1)),H3,w15),⟨rfl,hm,hs,hb,h.1⟩,h.2⟩
 obtain ⟨C3,hC,h⟩:=h
 refine wpE_drawnC (fun x=>C3 x∧HB Hl1 x [(p3,[(vi vrule1),(vi vfrom1)],235),(p2,[(vi wrule1),(vi wfrom1)],235)]) [5,9,10] [] (by kernel_rfl) (by kernel_rfl) (by kernel_rfl) (by kernel_rfl) ⟨hC,hb.drew⟩ ?_
 intro w17 hw17
 have h:=h w17 hw17
 have hs:Hst w0 Hl1 w12 Hl1 w17:=by rw [hw17];exact hs.drew
 have hb:HB Hl1 w17 [(p3,[(vi vrule1),(vi vfrom1)],235),(p2,[(vi wrule1),(vi wfrom1)],235)]:=by rw [hw17];exact hb.drew
 have hs:=hs.here
 refine qg 0 ?_
 obtain ⟨v19,hv7,h⟩:=h
 refine sy (v:=(vp v19)) Kp0 (fun w' hw'=>(xl (isAgg125 _) (hv7 w' hw'.1))) (qg 1 ?_)
 obtain ⟨a10,hp10,h⟩:=h
 refine sy (v:=(vp (some a10))) Kp1 (fun _ _=>(xn hp10)) (qx 2 (vp (some a10)) Kp2 (qg 3 ?_))
 obtain ⟨v20,hv6,h⟩:=h
 refine sy (v:=(vp v20)) Kp3 (fun w' hw'=>(xl (isAgg68 _) (hv6 w' hw'.1))) (qg 4 ?_)
 obtain ⟨v21,hv5,h⟩:=h
 refine sy (v:=(vi v21)) Kp4 (fun w' hw'=>(xl (isAgg78 _) (hv5 w' hw'.1))) ?_
 refine lgo2 (k:=5) (k':=9) (by kernel_rfl) ?_ ?_
 have h:=h.1
 refine slc Kp5 call102 (h.mono ?_)
 rintro e w18 ⟨aA,aC,aD,aF,aG,aB,aE,r1,rfl,hC,hk,h⟩
 refine ⟨_,rfl,.inr ⟨hC,hb.kept hk⟩,?_⟩
 obtain ⟨hs,hb⟩:=hk.hh hs hb
 refine qx 6 (.tuple #[(.agg #[(vi aA),(vi aC),(vi aD),(vu aF),(vs aG),(vi aB),(vi aE)]),(vb r1)]) Kp6 (qx 7 (.agg #[(vi aA),(vi aC),(vi aD),(vu aF),(vs aG),(vi aB),(vi aE)]) Kp7 (qx 8 (vb r1) Kp8 (lg 9 (sl_new (O:=(.cells #[(vi 0),(vi 0),(vi 0),(vu 0),ve,(vi 0),(vi 0)] 176)) (fun p=>.pointer (some p)) Kp9 (want0 rfl) (by kernel_rfl) (x_alloc (zeroValue176 _) rfl) ?_))))
 intro p6 w19 hn7
 have h:=h p6 w19 hn7
 refine ⟨.inr ⟨h.1,hb.kept (Ext.new (F:=None) hn7).keptP⟩,?_⟩
 have h:=h.2
 have hs:=hs.again (Ext.new (F:=None) hn7).keptP
 have hb:=hb.kept (Ext.new (F:=None) hn7).keptP
 refine lg 10 ?_
 obtain ⟨hp11,hnh,h⟩:=h
 refine sl_set (pickA (S8 (pickS (pickS pickZ)))) (want0 rfl) (by kernel_rfl) (xo p6 [(vi aA),(vi aC),(vi aD),(vu aF),(vs aG),(vi aB),(vi aE)] (sizeOf176 _) hp11) ?_
 intro w20 hn6
 have h:=h w20 hn6
 refine ⟨.inr ⟨h.1,hb.kept (by rw [hn6];exact Kept.storeRow hnh)⟩,?_⟩
 have h:=h.2
 have hk:Kept Hl1 w19 w20:=by rw [hn6];exact Kept.storeRow hnh
 obtain ⟨hs,hb⟩:=hk.hh hs hb
 refine qx 11 (vb r1) (pickA (S8 (pickS (pickS (pickS pickZ))))) (wn (th_n ?_))
 exact ⟨p6,Hl1,hm,hs,hb,h⟩
 have h:=h.2
 refine sl_new (O:=(.cells #[(vi 0),(vi 0),(vi 0),(vu 0),ve,(vi 0),(vi 0)] 176)) (fun p=>.pointer (some p)) Kp9 (want0 rfl) (by kernel_rfl) (x_alloc (zeroValue176 _) rfl) ?_
 intro p7 w21 hn9
 have h:=h p7 w21 hn9
 refine ⟨.inr ⟨h.1,hb.kept (Ext.new (F:=None) hn9).keptP⟩,?_⟩
 have h:=h.2
 have hs:=hs.again (Ext.new (F:=None) hn9).keptP
 have hb:=hb.kept (Ext.new (F:=None) hn9).keptP
 refine lg 5 ?_
 refine slc Kp5 call102 (h.mono ?_)
 rintro e w22 ⟨aH,aI,aJ,aK,aL,aM,aN,r2,rfl,hC,hk,h⟩
 refine ⟨_,rfl,.inr ⟨hC,hb.kept hk⟩,?_⟩
 obtain ⟨hs,hb⟩:=hk.hh hs hb
 refine qx 6 (.tuple #[(.agg #[(vi aH),(vi aI),(vi aJ),(vu aK),(vs aL),(vi aM),(vi aN)]),(vb r2)]) Kp6 (qx 7 (.agg #[(vi aH),(vi aI),(vi aJ),(vu aK),(vs aL),(vi aM),(vi aN)]) Kp7 (qx 8 (vb r2) Kp8 (lg 10 ?_)))
 obtain ⟨hp12,hnh,h⟩:=h
 refine sl_set (pickA (S8 (pickS (pickS pickZ)))) (want0 rfl) (by kernel_rfl) (xo p7 [(vi aH),(vi aI),(vi aJ),(vu aK),(vs aL),(vi aM),(vi aN)] (sizeOf176 _) hp12) ?_
 intro w23 hn8
 have h:=h w23 hn8
 refine ⟨.inr ⟨h.1,hb.kept (by rw [hn8];exact Kept.storeRow hnh)⟩,?_⟩
 have h:=h.2
 have hk:Kept Hl1 w22 w23:=by rw [hn8];exact Kept.storeRow hnh
 obtain ⟨hs,hb⟩:=hk.hh hs hb
 refine qx 11 (vb r2) (pickA (S8 (pickS (pickS (pickS pickZ))))) (wn (th_n ?_))
 exact ⟨p7,Hl1,hm,hs,hb,h⟩
 have h:=h.2 hc2
 refine wpE_exit (th_x (th_x (bl_eq (res0 (.inr rfl) results151 ?_))))
 exact ⟨rfl,h⟩
def m_G2 (k1:Option Addr) (t1:Int) (w0:World) (K:Int→WP):Prop :=
 Br (Option.isNone k1)
  (K 7 w0)
  (∃a1:Addr,k1=some a1 ∧
  ∃v1:Option Addr,w0.cell? a1=some (vp v1) ∧
  Calls prog 102 #[(vp v1),(vi t1)] w0 (fun e w1=>∃aA aC:Int,∃aD aF:Int,∃aG:ByteArray,∃aB aE:Int,∃r1:Bool,e=.returned (.tuple #[(.agg #[(vi aA),(vi aC),(vi aD),(vu aF),(vs aG),(vi aB),(vi aE)]),(vb r1)])∧
   Kept None w0 w1 ∧
   Br (!r1)
    (∀(H1:NP) (w3:World),Hst w0 None w1 H1 w3 →
    K 51 w3)
    (∃a2:Addr,k1=some a2 ∧
    ∀(H1:NP) (w3:World),Hst w0 None w1 H1 w3 →
    ∃v2:Sl,w3.cell? (a2.add 1)=some v2.v ∧
    Calls prog 150 #[v2.v,(vi t1)] w3 (fun e w4=>∃r2:Bool,e=.returned (vb r2)∧
     Kept H1 w3 w4 ∧
     Br (!r2)
      (∃a3:Addr,k1=some a3 ∧
      ∃v3:Sl,w4.cell? (a3.add 1)=some v3.v ∧
      ∀(p2:Addr) (w5:World),New w4 (.cells #[(vi t1)] 78) p2 w5 →
      ∃s1:Sl,∃w6:World,(Builtin.append_ #[46,46] 46 #[v3.v,(Sl.mk (some p2) 1 1).v]).run prog w5=.ok s1.v w6 ∧
      Kept H1 w5 w6 ∧
      ∃a4:Addr,k1=some a4 ∧
      CanW w6 (a4.add 1)∧¬ H1 (a4.add 1).block∧∀w7:World,w7=w6.setCell (a4.add 1) s1.v →
      Calls prog 151 #[(vp k1),(vi t1),(.agg #[(vi 0),(vi 0)])] w7 (fun e w8=>e=.returned (.tuple #[])∧
       Kept H1 w7 w8 ∧
       K 0 w8))
      (Calls prog 151 #[(vp k1),(vi t1),(.agg #[(vi 0),(vi 0)])] w4 (fun e w9=>e=.returned (.tuple #[])∧
       Kept H1 w4 w9 ∧
       K 0 w9))))))
theorem w_G2 (k1 : Option Addr) (t1 : Int) (w0 : World) (K : Int → WP) (h : m_G2 k1 t1 w0 K) :
  Calls prog 79 #[(vp k1),(vi t1)] w0 (fun e w'=>∃r3:Int,e=.returned (vi r3)∧K r3 w'):=by
 unfold m_G2 at h
 refine cw (args:=[(vp k1),(vi t1)]) func79 ntmps79 ?_
 have hs:=Hst.start w0
 have hb:=HB.nil None w0
 refine eg (q0 (vi 0) (ln (wpE_seq (eg (q0 (vp k1) (q2 (vb (Option.isNone k1)) (x_ptreq (by kernel_rfl) rfl underlying125) (ln ?_)))))))
 refine wpE_cond (t:=(Option.isNone k1)) (by kernel_rfl) (fun hc1=>?_) (fun hc1=>?_)
 have h:=h.1 hc1
 refine eg (q0 (vi 7) (ln (er (th_r (rs1 results79 (v:=(vi 7)) ?_)))))
 exact ⟨7,rfl,h⟩
 have h:=h.2 hc1
 refine wpE_skip (th_n (wpE_seq (eg (q0 (vp k1) ?_))))
 obtain ⟨a1,hp1,h⟩:=h
 refine q2 (vp (some a1)) (xn hp1) (q0 (vp (some a1)) ?_)
 obtain ⟨v1,hv4,h⟩:=h
 refine q2 (vp v1) (xl (isAgg68 _) hv4) (q0 (vi t1) ?_)
 refine sc call102 (h.mono ?_)
 rintro e w1 ⟨aA,aC,aD,aF,aG,aB,aE,r1,rfl,hk,h⟩
 refine ⟨_,rfl,?_⟩
 obtain ⟨hs,hb⟩:=hk.hh hs hb
 refine q0 (.tuple #[(.agg #[(vi aA),(vi aC),(vi aD),(vu aF),(vs aG),(vi aB),(vi aE)]),(vb r1)]) (q0 (.agg #[(vi aA),(vi aC),(vi aD),(vu aF),(vs aG),(vi aB),(vi aE)]) (q0 (vb r1) (sn (O:=(.cells #[(vi 0),(vi 0),(vi 0),(vu 0),ve,(vi 0),(vi 0)] 176)) (x_alloc (zeroValue176 _) rfl) ?_)))
 intro p1 w2 hn1
 obtain ⟨H1,hs,hb⟩:=hs.alloc hb hn1
 refine ss (xo p1 [(vi aA),(vi aC),(vi aD),(vu aF),(vs aG),(vi aB),(vi aE)] (sizeOf176 _) (hb.k0 0 7 gZ)) ?_
 intro w3 hn2
 obtain ⟨hs,hb⟩:=hb.s0 (l':=[(p1,[(vi aA),(vi aC),(vi aD),(vu aF),(vs aG),(vi aB),(vi aE)],176)]) 0 [(vi aA),(vi aC),(vi aD),(vu aF),(vs aG),(vi aB),(vi aE)] hs hn2 gZ
 refine q0 (vb r1) (ln (eg (q0 (vb r1) (q0 (vb (!r1)) (ln ?_)))))
 refine wpE_cond (t:=(!r1)) (by kernel_rfl) (fun hc2=>?_) (fun hc2=>?_)
 have h:=h.1 hc2
 refine eg (q0 (vi 51) (ln (er (th_r ?_))))
 have h:=h H1 w3 hs
 have hs:=hs.here
 refine rs1 results79 (v:=(vi 51)) ?_
 exact ⟨51,rfl,h⟩
 have h:=h.2 hc2
 refine wpE_skip (th_n (wpE_seq (eg (q0 (vp k1) ?_))))
 obtain ⟨a2,hp2,h⟩:=h
 refine q2 (vp (some a2)) (xn hp2) (q0 (vp (some (a2.add 1))) ?_)
 have h:=h H1 w3 hs
 have hs:=hs.here
 obtain ⟨v2,hv3,h⟩:=h
 refine q2 v2.v (xl (isAgg46 _) hv3) (q0 (vi t1) ?_)
 refine sc call150 (h.mono ?_)
 rintro e w4 ⟨r2,rfl,hk,h⟩
 refine ⟨_,rfl,?_⟩
 obtain ⟨hs,hb⟩:=hk.hh hs hb
 refine q0 (vb (!r2)) (ln ?_)
 refine wpE_cond (t:=(!r2)) (by kernel_rfl) (fun hc3=>?_) (fun hc3=>?_)
 have h:=h.1 hc3
 refine rg (q0 (vp k1) (q0 (vp k1) ?_))
 obtain ⟨a3,hp3,h⟩:=h
 refine q2 (vp (some a3)) (xn hp3) (q0 (vp (some (a3.add 1))) ?_)
 obtain ⟨v3,hv2,h⟩:=h
 refine q2 v3.v (xl (isAgg46 _) hv2) (q0 (vi t1) (st_new (O:=(.cells #[(vi t1)] 78)) (fun p=>(Sl.mk (some p) 1 1).v) (want0 rfl) (x_buildSlice (vs:=#[(0,(vi t1))]) (by kernel_rfl) (by kernel_rfl)) ?_))
 intro p2 w5 hn4
 have h:=h p2 w5 hn4
 have hs:=hs.again (Ext.new (F:=None) hn4).keptP
 have hb:=hb.kept (Ext.new (F:=None) hn4).keptP
 obtain ⟨s1,w6,hv1,hk,h⟩:=h
 refine st (v:=s1.v) (want0 rfl) (x_builtin (args:=#[v3.v,(Sl.mk (some p2) 1 1).v]) (by kernel_rfl) (fun _=>rfl) hv1) ?_
 obtain ⟨hs,hb⟩:=hk.hh hs hb
 obtain ⟨a4,hp4,h⟩:=h
 refine q2 (vp (some a4)) (xn hp4) (q0 (vp (some (a4.add 1))) ?_)
 obtain ⟨hp5,hnh,h⟩:=h
 refine ss (x_store (a:=(a4.add 1)) (v:=s1.v) (by kernel_rfl) (by kernel_rfl) rfl (sizeOf46 _) hp5) ?_
 intro w7 hn3
 have h:=h w7 hn3
 have hk:=Kept.sc hnh hn3
 obtain ⟨hs,hb⟩:=hk.hh hs hb
 refine ln (eg (q0 (vp k1) (q0 (vi t1) (q0 (.agg #[(vi 0),(vi 0)]) ?_))))
 refine sc call151 (h.mono ?_)
 rintro e w8 ⟨rfl,hk,h⟩
 refine ⟨_,rfl,?_⟩
 obtain ⟨hs,hb⟩:=hk.hh hs hb
 refine ln (eg (q0 (vi 0) (ln (er (rs1 results79 (v:=(vi 0)) ?_)))))
 exact ⟨0,rfl,h⟩
 have h:=h.2 hc3
 refine wpE_skip (th_n (eg (q0 (vp k1) (q0 (vi t1) (q0 (.agg #[(vi 0),(vi 0)]) ?_)))))
 refine sc call151 (h.mono ?_)
 rintro e w9 ⟨rfl,hk,h⟩
 refine ⟨_,rfl,?_⟩
 obtain ⟨hs,hb⟩:=hk.hh hs hb
 refine ln (eg (q0 (vi 0) (ln (er (rs1 results79 (v:=(vi 0)) ?_)))))
 exact ⟨0,rfl,h⟩
def m_S3 (k1:Option Addr) (w0:World) (K:Sl→WP):Prop :=
 Br (Option.isNone k1)
  (K Sl.nil w0)
  (∃a1:Addr,k1=some a1 ∧
  ∃v1:Sl,w0.cell? (a1.add 3)=some v1.v ∧
  Calls prog 153 #[v1.v] w0 (fun e w1=>∃r1:Value,e=.returned r1∧
   Calls prog 152 #[r1] w1 (fun e w2=>∃r2:Sl,e=.returned r2.v∧
    K r2 w2)))
theorem w_S3 (k1 : Option Addr) (w0 : World) (K : Sl → WP) (h : m_S3 k1 w0 K) :
  Calls prog 80 #[(vp k1)] w0 (fun e w'=>∃r3:Sl,e=.returned r3.v∧K r3 w'):=by
 unfold m_S3 at h
 refine cw (args:=[(vp k1)]) func80 ntmps80 (eg (q0 Sl.nil.v (ln (wpE_seq (eg (q0 (vp k1) (q2 (vb (Option.isNone k1)) (x_ptreq (by kernel_rfl) rfl underlying125) (wpL_nil ?_))))))))
 refine th_n ?_
 refine wpE_cond (t:=(Option.isNone k1)) (by kernel_rfl) (fun hc1=>?_) (fun hc1=>?_)
 have h:=h.1 hc1
 refine eg (q0 Sl.nil.v (ln (er (th_r (rs1 results80 (v:=Sl.nil.v) ?_)))))
 exact ⟨Sl.nil,rfl,h⟩
 have h:=h.2 hc1
 refine wpE_skip (th_n (eg (q0 (vp k1) ?_)))
 obtain ⟨a1,hp1,h⟩:=h
 refine q2 (vp (some a1)) (xn hp1) (q0 (vp (some (a1.add 3))) ?_)
 obtain ⟨v1,hv1,h⟩:=h
 refine q2 v1.v (xl (isAgg46 _) hv1) ?_
 refine sc call153 (h.mono ?_)
 rintro e w1 ⟨r1,rfl,h⟩
 refine ⟨_,rfl,?_⟩
 refine sc call152 (h.mono ?_)
 rintro e w2 ⟨r2,rfl,h⟩
 refine ⟨_,rfl,?_⟩
 refine q0 r2.v (ln (er (rs1 results80 (v:=r2.v) ?_)))
 exact ⟨r2,rfl,h⟩
def m_T3 (t1 rule1:Int) (cap1 cap2:Addr) (w0:World) (K:WP):Prop :=
 ∃v1:Option Addr,w0.cell? cap1=some (vp v1) ∧
 ∃a1:Addr,v1=some a1 ∧
 ∃v2:Option Nat,w0.cell? (a1.add 2)=some (.map v2) ∧
 ∃vrule1 vfrom1:Int,∃ok1:Bool,(Instr.lookup 210 (.map v2) (vi t1) true).run prog w0=.ok (.tuple #[(.agg #[(vi vrule1),(vi vfrom1)]),(vb ok1)]) w0 ∧
 Br (!ok1)
  (∀(H1:NP) (w2:World),Hst w0 None w0 H1 w2 →
  ∃C1:WP,C1 w2.drew∧∀w3,w3=w2.drew →
  ∃v3:Option Addr,(∀w',C1 w'→w'.cell? cap1=some (vp v3)) ∧
  ∃a2:Addr,v3=some a2 ∧
  ∃v4:Option Nat,(∀w',C1 w'→w'.cell? (a2.add 2)=some (.map v4)) ∧
  ∃v5:Int,(∀w',C1 w'→w'.cell? cap2=some (vi v5)) ∧
  ∃w4:World,(Instr.mapUpdate 210 (.map v4) (vi t1) (.agg #[(vi rule1),(vi v5)])).run prog w3=.ok () w4 ∧
  Kept H1 w3 w4 ∧
  ∃C2:WP,C2 w4.drew∧∀w5,w5=w4.drew →
  ∃v6:Option Addr,(∀w',C2 w'→w'.cell? cap1=some (vp v6)) ∧
  ∃v7:Option Addr,(∀w',C2 w'→w'.cell? cap1=some (vp v7)) ∧
  ∃a3:Addr,v7=some a3 ∧
  ∃v8:Sl,(∀w',C2 w'→w'.cell? (a3.add 3)=some v8.v) ∧
  ∀(p2:Addr) (w6:World),New w5 (.cells #[(vi t1)] 78) p2 w6→C2 w6 ∧
  ∃s1:Sl,∃w7:World,(Builtin.append_ #[46,46] 46 #[v8.v,(Sl.mk (some p2) 1 1).v]).run prog w6=.ok s1.v w7∧C2 w7 ∧
  Kept H1 w6 w7 ∧
  ∃a4:Addr,v6=some a4 ∧
  CanW w7 (a4.add 3)∧¬ H1 (a4.add 3).block∧∀w8:World,w8=w7.setCell (a4.add 3) s1.v →
  K w8)
  (∀(H1:NP) (w2:World),Hst w0 None w0 H1 w2 →
  K w2)
theorem w_T3 (t1 rule1 : Int) (cap1 cap2 : Addr) (w0 : World) (K : WP) (h : m_T3 t1 rule1 cap1 cap2 w0 K) :
  Calls prog 205 #[(vi t1),(vi rule1),(vp (some cap1)),(vp (some cap2))] w0 (fun e w'=>e=.returned (.tuple #[])∧K  w'):=by
 unfold m_T3 at h
 refine cw (args:=[(vi t1),(vi rule1),(vp (some cap1)),(vp (some cap2))]) func205 ntmps205 ?_
 have hs:=Hst.start w0
 have hb:=HB.nil None w0
 refine eg ?_
 obtain ⟨v1,hv11,h⟩:=h
 refine q2 (vp v1) (xl (isAgg125 _) hv11) ?_
 obtain ⟨a1,hp1,h⟩:=h
 refine q2 (vp (some a1)) (xn hp1) (q0 (vp (some (a1.add 2))) ?_)
 obtain ⟨v2,hv10,h⟩:=h
 refine q2 (.map v2) (xl (isAgg210 _) hv10) (q0 (vi t1) ?_)
 obtain ⟨vrule1,vfrom1,ok1,hv9,h⟩:=h
 refine q2 (.tuple #[(.agg #[(vi vrule1),(vi vfrom1)]),(vb ok1)]) (x_lookup (by kernel_rfl) (by kernel_rfl) hv9) (q0 (.tuple #[(.agg #[(vi vrule1),(vi vfrom1)]),(vb ok1)]) (q0 (.agg #[(vi vrule1),(vi vfrom1)]) (q0 (vb ok1) (sn (O:=(.cells #[(vi 0),(vi 0)] 235)) (x_alloc (zeroValue235 _) rfl) ?_))))
 intro p1 w1 hn1
 obtain ⟨H1,hs,hb⟩:=hs.alloc hb hn1
 refine ss (xo p1 [(vi vrule1),(vi vfrom1)] (sizeOf235 _) (hb.k0 0 2 gZ)) ?_
 intro w2 hn2
 obtain ⟨hs,hb⟩:=hb.s0 (l':=[(p1,[(vi vrule1),(vi vfrom1)],235)]) 0 [(vi vrule1),(vi vfrom1)] hs hn2 gZ
 refine q0 (vb ok1) (ln (eg (q0 (vb ok1) (q0 (vb (!ok1)) (ln ?_)))))
 refine wpE_cond (t:=(!ok1)) (by kernel_rfl) (fun hc1=>?_) (fun hc1=>?_)
 have h:=h.1 hc1
 refine wpE_seq ?_
 have h:=h H1 w2 hs
 have hs:=hs.here
 obtain ⟨C1,hC,h⟩:=h
 refine wpE_drawnC (fun x=>C1 x∧HB H1 x [(p1,[(vi vrule1),(vi vfrom1)],235)]) [8] [8] (by kernel_rfl) (by kernel_rfl) (by kernel_rfl) (by kernel_rfl) ⟨hC,hb.drew⟩ ?_
 intro w3 hw3
 have h:=h w3 hw3
 have hs:Hst w0 H1 w2 H1 w3:=by rw [hw3];exact hs.drew
 have hb:HB H1 w3 [(p1,[(vi vrule1),(vi vfrom1)],235)]:=by rw [hw3];exact hb.drew
 have hs:=hs.here
 refine qg 0 ?_
 obtain ⟨v3,hv8,h⟩:=h
 refine sy (v:=(vp v3)) Kp0 (fun w' hw'=>(xl (isAgg125 _) (hv8 w' hw'.1))) (qg 1 ?_)
 obtain ⟨a2,hp2,h⟩:=h
 refine sy (v:=(vp (some a2))) Kp1 (fun _ _=>(xn hp2)) (qx 2 (vp (some (a2.add 2))) Kp2 (qg 3 ?_))
 obtain ⟨v4,hv7,h⟩:=h
 refine sy (v:=(.map v4)) Kp3 (fun w' hw'=>(xl (isAgg210 _) (hv7 w' hw'.1))) (qx 4 (vi t1) Kp4 (qx 5 (vi rule1) Kp5 (qg 6 ?_)))
 obtain ⟨v5,hv6,h⟩:=h
 refine sy (v:=(vi v5)) Kp6 (fun w' hw'=>(xl (isAgg78 _) (hv6 w' hw'.1))) (qx 7 (.agg #[(vi rule1),(vi v5)]) Kp7 (lg 8 ?_))
 obtain ⟨w4,hv5,hk,h⟩:=h
 refine sl_skip Kp8 (want0 rfl) (by kernel_rfl) (x_mapUpdate (by kernel_rfl) (by kernel_rfl) (by kernel_rfl) hv5) (.inl (by kernel_rfl)) ?_
 obtain ⟨hs,hb⟩:=hk.hh hs hb
 refine wn (th_n ?_)
 obtain ⟨C2,hC,h⟩:=h
 refine wpE_drawnC (fun x=>C2 x∧HB H1 x [(p1,[(vi vrule1),(vi vfrom1)],235)]) [6,7,10] [10] (by kernel_rfl) (by kernel_rfl) (by kernel_rfl) (by kernel_rfl) ⟨hC,hb.drew⟩ ?_
 intro w5 hw5
 have h:=h w5 hw5
 have hs:Hst w0 H1 w4 H1 w5:=by rw [hw5];exact hs.drew
 have hb:HB H1 w5 [(p1,[(vi vrule1),(vi vfrom1)],235)]:=by rw [hw5];exact hb.drew
 have hs:=hs.here
 refine qg 0 ?_
 obtain ⟨v6,hv4,h⟩:=h
 refine sy (v:=(vp v6)) Kp0 (fun w' hw'=>(xl (isAgg125 _) (hv4 w' hw'.1))) (qg 1 ?_)
 obtain ⟨v7,hv3,h⟩:=h
 refine sy (v:=(vp v7)) Kp1 (fun w' hw'=>(xl (isAgg125 _) (hv3 w' hw'.1))) (qg 2 ?_)
 obtain ⟨a3,hp3,h⟩:=h
 refine sy (v:=(vp (some a3))) Kp2 (fun _ _=>(xn hp3)) (qx 3 (vp (some (a3.add 3))) Kp3 (qg 4 ?_))
 obtain ⟨v8,hv2,h⟩:=h
 refine sy (v:=v8.v) Kp4 (fun w' hw'=>(xl (isAgg46 _) (hv2 w' hw'.1))) (qx 5 (vi t1) Kp5 (lg 6 (sl_new (O:=(.cells #[(vi t1)] 78)) (fun p=>(Sl.mk (some p) 1 1).v) Kp6 (want0 rfl) (by kernel_rfl) (x_buildSlice (vs:=#[(0,(vi t1))]) (by kernel_rfl) (by kernel_rfl)) ?_)))
 intro p2 w6 hn4
 have h:=h p2 w6 hn4
 refine ⟨.inr ⟨h.1,hb.kept (Ext.new (F:=None) hn4).keptP⟩,?_⟩
 have h:=h.2
 have hs:=hs.again (Ext.new (F:=None) hn4).keptP
 have hb:=hb.kept (Ext.new (F:=None) hn4).keptP
 refine lg 7 ?_
 obtain ⟨s1,w7,hv1,hC,hk,h⟩:=h
 refine sl (v:=s1.v) Kp7 (want0 rfl) (by kernel_rfl) (x_builtin (args:=#[v8.v,(Sl.mk (some p2) 1 1).v]) (by kernel_rfl) (fun _=>rfl) hv1) (.inr ⟨hC,hb.kept hk⟩) ?_
 obtain ⟨hs,hb⟩:=hk.hh hs hb
 refine qg 8 ?_
 obtain ⟨a4,hp4,h⟩:=h
 refine sy (v:=(vp (some a4))) Kp8 (fun _ _=>(xn hp4)) (qx 9 (vp (some (a4.add 3))) Kp9 (lg 10 ?_))
 obtain ⟨hp5,hnh,h⟩:=h
 refine sl_t (pickA (S8 (pickS (pickS pickZ)))) (xs (v:=s1.v) (sizeOf46 _) hp5) ?_
 intro w8 hn3
 have h:=h w8 hn3
 refine ⟨.inl (by kernel_rfl),?_⟩
 have hk:=Kept.sc hnh hn3
 obtain ⟨hs,hb⟩:=hk.hh hs hb
 refine wn (res0 (.inr rfl) results205 ?_)
 exact ⟨rfl,h⟩
 have h:=h.2 hc1
 refine wpE_skip ?_
 have h:=h H1 w2 hs
 have hs:=hs.here
 refine res0 (.inr rfl) results205 ?_
 exact ⟨rfl,h⟩
end Go.Proofs
end
section
namespace Go.Sp
theorem nodeOf_lt {L:Pool} {i:Nat} (hi:i<L.length):nodeOf L ((i:Int)+1)=L[i].node:=by
 have h:inP L ((i:Int)+1)=true:=inP_iff.2 ⟨by omega,by omega⟩
 have e:((i:Int)+1 - 1).toNat=i:=by omega
 simp [nodeOf,get,h,e,hi]
theorem inP_at {L:Pool} {t:Int} (h:inP L t=true):∃i:Nat,i<L.length∧t=(i:Int)+1:=by
 have:=inP_iff.1 h
 exact ⟨(t - 1).toNat,by omega,by omega⟩
theorem get_at {L:Pool} {i:Nat} (hi:i<L.length):get L ((i:Int)+1)=some L[i]:=by
 have h:inP L ((i:Int)+1)=true:=inP_iff.2 ⟨by omega,by omega⟩
 have e:((i:Int)+1 - 1).toNat=i:=by omega
 simp [get,h,e,hi]
structure Wf (L:Pool):Prop where
 ok:Ok L
 each:∀i (hi:i<L.length),check (L.take i) L[i].node=(L[i].size,L[i].depth,0)
theorem Wf.nil:Wf []:=⟨Ok.nil,fun i hi=>by simp at hi⟩
theorem check_zero {L : Pool} {n : Node} (h : (check L n).2.2 = 0) : plainErr n = 0 ∧ ((shapeOf n.kind).kids < 1 → n.a = 0) ∧ ((shapeOf n.kind).kids < 2 → n.b = 0) ∧ fieldsErr (shapeOf n.kind) n = 0 ∧ (∀ t ∈ kidsOf n, inP L t = true) ∧
  (check L n).1=1+((kidsOf n).map (sizeOf L)).sum∧(check L n).2.1=(kidsOf n).foldl (fun d t=>max d (depthOf L t)) 0+1∧(check L n).1≤4096∧(check L n).2.1≤64:=by
 unfold check at h ⊢
 simp only at h ⊢
 by_cases h1:plainErr n≠0
 ·rw [if_pos h1] at h;exact absurd h h1
 rw [if_neg h1] at h ⊢
 split at h
 ·simp at h
 rename_i h2;rw [if_neg h2]
 by_cases h3:fieldsErr (shapeOf n.kind) n≠0
 ·rw [if_pos h3] at h;exact absurd h h3
 rw [if_neg h3] at h ⊢
 split at h
 ·simp at h
 rename_i h4;rw [if_neg h4]
 split at h
 ·simp at h
 rename_i h5;rw [if_neg h5]
 simp only [Bool.or_eq_true,Bool.and_eq_true,decide_eq_true_eq,bne_iff_ne,ne_eq,not_or,not_and,Classical.not_not] at h2
 refine ⟨by simpa using h1,h2.1,h2.2,by simpa using h3,fun t ht=>?_,rfl,rfl,by simp only;omega,by simp only;omega⟩
 cases hi:inP L t with
 | true=>rfl
 | false=>exact absurd (List.any_eq_true.2 ⟨t,ht,by simp [hi]⟩) h4
theorem make_pool (L:Pool) (n:Node):(make L n).2.2=L∨((check L n).2.2=0∧(make L n).2.2=L++[⟨n,(check L n).1,(check L n).2.1⟩]):=by
 by_cases hc:(check L n).2.2=0
 ·unfold make
  simp only [hc]
  rw [if_neg (by simp)]
  split
  ·exact .inl rfl
  ·split
   ·exact .inl rfl
   ·exact .inr ⟨trivial,rfl⟩
 ·unfold make;simp only;rw [if_pos hc];exact .inl rfl
theorem snoc_each {L:Pool} {e:Ent} (h:∀i (hi:i<L.length),check (L.take i) L[i].node=(L[i].size,L[i].depth,0)) (he:check L e.node=(e.size,e.depth,0)):∀i (hi:i<(L++[e]).length),check ((L++[e]).take i) (L++[e])[i].node=((L++[e])[i].size,(L++[e])[i].depth,0):=by
 intro i hi
 simp only [List.length_append,List.length_cons,List.length_nil] at hi
 by_cases hlt:i<L.length
 ·simp only [List.getElem_append_left hlt]
  rw [List.take_append_of_le_length (by omega)]
  exact h i hlt
 ·have:i=L.length:=by omega
  subst this
  simp only [List.getElem_append_right (Nat.le_refl _),Nat.sub_self,List.getElem_cons_zero]
  rw [List.take_left' rfl]
  exact he
theorem make_wf {L:Pool} (h:Wf L) (n:Node):Wf (make L n).2.2:=by
 have ho:=make_ok h.ok n
 rcases make_pool L n with e | ⟨hc,e⟩
 ·rw [e];exact h
 ·rw [e] at ho ⊢
  exact ⟨ho,snoc_each h.each (by rw [← hc])⟩
theorem grow_wf (t:Tree):∀L,Wf L→Wf (grow L t).2.2:=by
 induction t using Tree.ind with
 | h k f t u x ks ih =>
  have:∀(ks:List Tree),(∀i (hi:i<ks.length),∀L,Wf L→Wf (grow L ks[i]).2.2)→∀n i L,Wf L→Wf (growAll n i L ks).2.2:=by
   intro ks
   induction ks with
   | nil=>intro _ n i L h;unfold growAll;exact make_wf h n
   | cons t ts iht =>
    intro hh n i L h
    have h0:=hh 0 (by simp) L h
    simp only [List.getElem_cons_zero] at h0
    unfold growAll
    split
    ·exact h0
    ·exact iht (fun i hi=>hh (i+1) (by simpa using hi)) _ _ _ h0
  intro L h
  unfold grow
  exact this ks ih _ _ L h
theorem of_wf {L:Pool} (h:Wf L) (t:Tree):Wf (of L t).2.2:=by
 unfold of
 split
 ·exact h
 ·split
  ·exact h
  ·exact grow_wf t L h
theorem of_grows {L:Pool} (h:Ok L) (t:Tree):∃M,(of L t).2.2=L++M:=by
 unfold of
 split
 ·exact ⟨[],by simp⟩
 ·split
  ·exact ⟨[],by simp⟩
  ·exact (grow_facts t L h).2
theorem inP_app {L M:Pool} {t:Int} (h:inP L t=true):inP (L++M) t=true:=by
 have:=inP_iff.1 h
 exact inP_iff.2 ⟨this.1,by rw [List.length_append];omega⟩
theorem get_app {L M:Pool} {t:Int} (h:inP L t=true):get (L++M) t=get L t:=by
 obtain ⟨i,hi,rfl⟩:=inP_at h
 rw [get_at hi,get_at (by rw [List.length_append];omega),List.getElem_append_left hi]
theorem nodeOf_app {L M:Pool} {t:Int} (h:inP L t=true):nodeOf (L++M) t=nodeOf L t:=by unfold nodeOf;rw [get_app h]
theorem sizeOf_app {L M:Pool} {t:Int} (h:inP L t=true):sizeOf (L++M) t=sizeOf L t:=by unfold sizeOf;rw [get_app h]
theorem depthOf_app {L M:Pool} {t:Int} (h:inP L t=true):depthOf (L++M) t=depthOf L t:=by unfold depthOf;rw [get_app h]
theorem Wf.node {L : Pool} (h : Wf L) {t : Int} (ht : inP L t = true) : plainErr (nodeOf L t) = 0 ∧ ((shapeOf (nodeOf L t).kind).kids < 1 → (nodeOf L t).a = 0) ∧ ((shapeOf (nodeOf L t).kind).kids < 2 → (nodeOf L t).b = 0) ∧ fieldsErr (shapeOf (nodeOf L t).kind) (nodeOf L t) = 0 ∧
  (∀k∈kidsOf (nodeOf L t),inP L k=true∧k<t)∧sizeOf L t=1+((kidsOf (nodeOf L t)).map (sizeOf L)).sum∧depthOf L t=(kidsOf (nodeOf L t)).foldl (fun d k=>max d (depthOf L k)) 0+1:=by
 obtain ⟨i,hi,rfl⟩:=inP_at ht
 have he:=h.each i hi
 have hz:=check_zero (L:=L.take i) (n:=L[i].node) (by rw [he])
 rw [nodeOf_lt hi]
 obtain ⟨h1,h2,h3,h4,h5,h6,h7,_,_⟩:=hz
 have hin:∀k∈kidsOf L[i].node,inP (L.take i) k=true∧inP L k=true∧k<(i:Int)+1:=by
  intro k hk
  have hk':=h5 k hk
  have hk2:=inP_iff.1 hk'
  have:L.take i++L.drop i=L:=List.take_append_drop i L
  refine ⟨hk',by rw [← this];exact inP_app hk',?_⟩
  rw [List.length_take] at hk2;omega
 have hsz:∀k∈kidsOf L[i].node,sizeOf (L.take i) k=sizeOf L k∧depthOf (L.take i) k=depthOf L k:=by
  intro k hk
  have hk':=(hin k hk).1
  have:L.take i++L.drop i=L:=List.take_append_drop i L
  exact ⟨by rw [← sizeOf_app (M:=L.drop i) hk',this],by rw [← depthOf_app (M:=L.drop i) hk',this]⟩
 refine ⟨h1,h2,h3,h4,fun k hk=>⟨(hin k hk).2.1,(hin k hk).2.2⟩,?_,?_⟩
 ·have:sizeOf L ((i:Int)+1)=L[i].size:=by simp [sizeOf,get_at hi]
  rw [this]
  rw [he] at h6
  simp only at h6
  rw [h6]
  congr 2
  exact List.map_congr_left (fun k hk=>(hsz k hk).1)
 ·have:depthOf L ((i:Int)+1)=L[i].depth:=by simp [depthOf,get_at hi]
  rw [this]
  rw [he] at h7
  simp only at h7
  rw [h7]
  congr 1
  have:∀(l:List Int) (d:Int),(∀k∈l,depthOf (L.take i) k=depthOf L k)→l.foldl (fun d t=>max d (depthOf (L.take i) t)) d=l.foldl (fun d k=>max d (depthOf L k)) d:=by
   intro l
   induction l with
   | nil=>intro d _;rfl
   | cons a l ih=>intro d hh;simp only [List.foldl_cons];rw [hh a (by simp)];exact ih _ (fun k hk=>hh k (by simp [hk]))
  exact this _ _ (fun k hk=>(hsz k hk).2)
def noTree:Tree:=.mk 0 0 0 0 ⟨#[]⟩ []
def treeF (L:Pool):Nat→Int→Tree
 | 0,_=>noTree
 | fuel+1,t=>if inP L t=true then .mk (nodeOf L t).kind (nodeOf L t).frm (nodeOf L t).to (nodeOf L t).num (nodeOf L t).text ((kidsOf (nodeOf L t)).map (treeF L fuel)) else noTree
def treeOf (L:Pool) (t:Int):Tree:=treeF L t.toNat t
theorem treeF_none {L:Pool} {t:Int} (h:inP L t=false) (f:Nat):treeF L f t=noTree:=by
 cases f <;> simp [treeF,h]
theorem treeF_fuel {L:Pool} (h:Wf L):∀(f:Nat) (t:Int),t.toNat≤f→treeF L f t=treeOf L t:=by
 have key:∀(f g:Nat) (t:Int),t.toNat≤f→t.toNat≤g→treeF L f t=treeF L g t:=by
  intro f
  induction f with
  | zero =>
   intro g t hf hg
   have:inP L t=false:=by
    apply Bool.eq_false_iff.2;intro hi;have:=inP_iff.1 hi;omega
   rw [treeF_none this,treeF_none this]
  | succ f ih =>
   intro g t hf hg
   cases hi:inP L t with
   | false=>rw [treeF_none hi,treeF_none hi]
   | true =>
    have hpos:=inP_iff.1 hi
    cases g with
    | zero=>omega
    | succ g =>
     simp only [treeF,hi,if_true]
     congr 1
     refine List.map_congr_left (fun k hk=>ih g k ?_ ?_)
     ·have:=((h.node hi).2.2.2.2.1 k hk).2;omega
     ·have:=((h.node hi).2.2.2.2.1 k hk).2;omega
 intro f t hf
 exact key f t.toNat t hf (Nat.le_refl _)
theorem treeOf_none {L:Pool} {t:Int} (h:inP L t=false):treeOf L t=noTree:=treeF_none h _
theorem treeOf_in {L:Pool} (h:Wf L) {t:Int} (ht:inP L t=true):treeOf L t=.mk (nodeOf L t).kind (nodeOf L t).frm (nodeOf L t).to (nodeOf L t).num (nodeOf L t).text ((kidsOf (nodeOf L t)).map (treeOf L)):=by
 have hpos:=inP_iff.1 ht
 have e:t.toNat=(t.toNat - 1)+1:=by omega
 unfold treeOf
 rw [e]
 simp only [treeF,ht,if_true]
 congr 1
 refine List.map_congr_left (fun k hk=>?_)
 have:=((h.node ht).2.2.2.2.1 k hk).2
 exact treeF_fuel h _ k (by omega)
theorem Wf.first {L M:Pool} (h:Wf (L++M)):Wf L:=by
 refine ⟨⟨by have:=h.ok.few;rw [List.length_append] at this;omega,?_,fun e he=>h.ok.size e (by simp [he]),fun e he=>h.ok.depth e (by simp [he])⟩,fun i hi=>?_⟩
 ·have:=h.ok.nodup;rw [List.map_append] at this;exact (List.nodup_append.1 this).1
 ·have:=h.each i (by rw [List.length_append];omega)
  rw [List.getElem_append_left hi,List.take_append_of_le_length (by omega)] at this
  exact this
theorem treeOf_app {L M:Pool} (h:Wf (L++M)):∀(n:Nat) (t:Int),t.toNat=n→inP L t=true→treeOf (L++M) t=treeOf L t:=by
 have hL:=h.first
 intro n
 induction n using Nat.strongRecOn with
 | _ n ih =>
  intro t hn ht
  rw [treeOf_in h (inP_app ht),treeOf_in hL ht,nodeOf_app ht]
  congr 1
  refine List.map_congr_left (fun k hk=>?_)
  have hk':=(hL.node ht).2.2.2.2.1 k hk
  have:=inP_iff.1 hk'.1
  exact ih k.toNat (by omega) k rfl hk'.1
end Go.Sp
end
section
namespace Go.Sp
def showsK (k:Int):Bool:=k == 7 || k == 8 || k == 9
def freeK (k:Int):Bool:=k == 1 || k == 2 || k == 3
def keyNode (n:Int):Node:=⟨6,n,0,0,⟨#[]⟩,0,0⟩
def whoOf (n:Node):Int:=if n.kind=9 then n.to else n.frm
def Arises (L:Pool) (r u t:Int):Prop :=
 (r=1∧(nodeOf L u).kind=4∧(nodeOf L u).a=t)∨(r=2∧(nodeOf L u).kind=4∧(nodeOf L u).b=t)∨(r=3∧showsK (nodeOf L u).kind=true∧(nodeOf L u).a=t)
inductive Seen (L:Pool) (G:List Int):Int→Prop
 | given {t:Int}:t∈G→Seen L G t
 | «from» {r u t:Int}:Seen L G u→Arises L r u t→Seen L G t
inductive Drv (L:Pool) (K:Int→Prop):Int→Prop
 | seen {t:Int}:K t→Drv L K t
 | free {t:Int}:freeK (nodeOf L t).kind=true→Drv L K t
 | pair {t:Int}:(nodeOf L t).kind=4→Drv L K (nodeOf L t).a→Drv L K (nodeOf L t).b→Drv L K t
 | hash {t:Int}:(nodeOf L t).kind=5→Drv L K (nodeOf L t).a→Drv L K t
 | sign {t:Int} {i:Nat}:showsK (nodeOf L t).kind=true→Drv L K (nodeOf L t).a→find L (keyNode (whoOf (nodeOf L t)))=some i→K ((i:Int)+1)→Drv L K t
structure Way where
 t:Int
 rule:Int
 frm:Int
deriving DecidableEq
def wkeys (S:List Way):List Int:=S.map Way.t
def WayOk (L:Pool) (G:List Int) (pre:List Way) (v:Way):Prop:=(v.rule=0∧v.frm=0∧v.t∈G)∨(v.rule≠0∧Arises L v.rule v.frm v.t∧v.frm∈wkeys pre)
structure WaysOk (L:Pool) (G:List Int) (S:List Way):Prop where
 nodup:(wkeys S).Nodup
 inp:∀t∈wkeys S,inP L t=true
 way:∀i (h:i<S.length),WayOk L G (S.take i) S[i]
def Shown (L:Pool) (S:List Way) (u:Int):Prop:=∀r t,Arises L r u t→t∈wkeys S
structure KnowOk (L:Pool) (G:List Int) (S:List Way):Prop extends WaysOk L G S where
 closed:∀u∈wkeys S,Shown L S u
 giv:∀t∈G,t∈wkeys S
 gnd:G.Nodup
theorem wkeys_len (S:List Way):(wkeys S).length=S.length:=by simp [wkeys]
theorem WayOk.mono {L:Pool} {G G':List Int} {pre:List Way} {v:Way} (h:WayOk L G pre v) (hG:∀t∈G,t∈G'):WayOk L G' pre v:=by
 rcases h with ⟨a,b,c⟩ | h
 ·exact .inl ⟨a,b,hG _ c⟩
 ·exact .inr h
theorem WaysOk.mono {L:Pool} {G G':List Int} {S:List Way} (h:WaysOk L G S) (hG:∀t∈G,t∈G'):WaysOk L G' S:=⟨h.nodup,h.inp,fun i hi=>(h.way i hi).mono hG⟩
theorem WaysOk.snoc {L:Pool} {G:List Int} {S:List Way} (h:WaysOk L G S) {v:Way} (hn:v.t ∉ wkeys S) (hi:inP L v.t=true) (hv:WayOk L G S v):WaysOk L G (S++[v]):=by
 refine ⟨?_,?_,fun i hlt=>?_⟩
 ·unfold wkeys at hn ⊢
  rw [List.map_append,List.nodup_append]
  exact ⟨h.nodup,by simp,fun x hx y hy e=>by simp at hy;subst hy;exact hn (e▸hx)⟩
 ·intro t ht
  unfold wkeys at ht
  rw [List.map_append,List.mem_append] at ht
  rcases ht with ht | ht
  ·exact h.inp t ht
  ·simp at ht;rw [ht];exact hi
 ·rw [List.length_append] at hlt
  simp only [List.length_cons,List.length_nil] at hlt
  by_cases hl:i<S.length
  ·rw [List.getElem_append_left hl,List.take_append_of_le_length (by omega)];exact h.way i hl
  ·have:i=S.length:=by omega
   subst this
   rw [List.getElem_append_right (Nat.le_refl _),List.take_left]
   simpa using hv
theorem Shown.snoc {L:Pool} {S:List Way} {u:Int} {v:Way} (h:Shown L S u):Shown L (S++[v]) u:=fun r t ha=>by
 unfold wkeys;rw [List.map_append];exact List.mem_append_left _ (h r t ha)
theorem wkeys_at {S:List Way} {t:Int} (h:t∈wkeys S):∃i,∃hi:i<S.length,S[i].t=t∧(wkeys S).idxOf t=i:=by
 have hlt:=List.idxOf_lt_length_iff.2 h
 refine ⟨(wkeys S).idxOf t,by simpa [wkeys] using hlt,?_,rfl⟩
 have:=List.getElem_idxOf hlt
 simp only [wkeys,List.getElem_map] at this ⊢
 exact this
theorem KnowOk.seen_iff {L:Pool} {G:List Int} {S:List Way} (h:KnowOk L G S) (t:Int):t∈wkeys S↔Seen L G t:=by
 constructor
 ·intro ht
  obtain ⟨i,hi,e,_⟩:=wkeys_at ht
  subst e
  have:∀(n i:Nat) (hi:i<S.length),i≤n→Seen L G S[i].t:=by
   intro n
   induction n with
   | zero =>
    intro i hi h0
    have:i=0:=by omega
    subst this
    rcases h.way 0 hi with ⟨_,_,hg⟩ | ⟨_,_,hm⟩
    ·exact .given hg
    ·simp [wkeys] at hm
   | succ n ih =>
    intro i hi hn
    rcases h.way i hi with ⟨_,_,hg⟩ | ⟨_,ha,hm⟩
    ·exact .given hg
    ·obtain ⟨j,hj,e,_⟩:=wkeys_at hm
     rw [List.length_take] at hj
     have:=ih j (by omega) (by omega)
     rw [List.getElem_take] at e
     rw [e] at this
     exact .from this ha
  exact this i i hi (Nat.le_refl _)
 ·intro hs
  induction hs with
  | given hg=>exact h.giv _ hg
  | «from» _ ha ih=>exact h.closed _ ih _ _ ha
theorem Seen.mono {L:Pool} {G G':List Int} (hG:∀t∈G,t∈G') {t:Int} (h:Seen L G t):Seen L G' t:=by
 induction h with
 | given hg=>exact .given (hG _ hg)
 | «from» _ ha ih=>exact .from ih ha
theorem Drv.mono {L:Pool} {K K':Int→Prop} (hK:∀t,K t→K' t) {t:Int} (h:Drv L K t):Drv L K' t:=by
 induction h with
 | seen h=>exact .seen (hK _ h)
 | free h=>exact .free h
 | pair h _ _ iha ihb=>exact .pair h iha ihb
 | hash h _ ih=>exact .hash h ih
 | sign h _ hf hk ih=>exact .sign h ih hf (hK _ hk)
structure Step where
 rule:Int
 a:Int
 b:Int
 t:Int
deriving DecidableEq
def ahead (i:Nat) (v:Int):Bool:=decide (0≤v) && decide (v<i)
def tAt (pre:List Step) (v:Int):Int:=(pre[v.toNat]?.map Step.t).getD 0
def arisesB (L:Pool) (r u t:Int):Bool :=
 if r=1 then (nodeOf L u).kind == 4 && (nodeOf L u).a == t else if r=2 then (nodeOf L u).kind == 4 && (nodeOf L u).b == t else showsK (nodeOf L u).kind && (nodeOf L u).a == t
def fol (L:Pool) (G:List Int) (pre:List Step) (s:Step):Bool :=
 if inP L s.t=false then false
 else if s.rule=0 then s.a == 0 && s.b == 0 && decide (s.t∈G)
 else if s.rule=1∨s.rule=2∨s.rule=3 then ahead pre.length s.a && s.b == 0 && arisesB L s.rule (tAt pre s.a) s.t
 else if s.rule=4 then s.a == 0 && s.b == 0 && freeK (nodeOf L s.t).kind
 else if s.rule=5 then
  if (nodeOf L s.t).kind=4 then ahead pre.length s.a && ahead pre.length s.b && tAt pre s.a == (nodeOf L s.t).a && tAt pre s.b == (nodeOf L s.t).b
  else if (nodeOf L s.t).kind=5 then ahead pre.length s.a && s.b == 0 && tAt pre s.a == (nodeOf L s.t).a
  else if showsK (nodeOf L s.t).kind=true then ahead pre.length s.a && ahead pre.length s.b && tAt pre s.a == (nodeOf L s.t).a && (nodeOf L (tAt pre s.b)).kind == 6 && (nodeOf L (tAt pre s.b)).frm == whoOf (nodeOf L s.t)
  else false
 else false
end Go.Sp
namespace Go.Sp
theorem nodup_few {α:Type} [DecidableEq α]:∀{l m:List α},l.Nodup→(∀x∈l,x∈m)→l.length≤m.length
 | [],m,_,_=>by simp
 | x :: l,m,hn,hs=>by
  have hx:=hs x (by simp)
  rw [List.nodup_cons] at hn
  have:=nodup_few (m:=m.erase x) hn.2 (fun y hy=>(List.mem_erase_of_ne (fun h=>hn.1 (by rw [← h];exact hy))).2 (hs y (List.mem_cons_of_mem _ hy)))
  rw [List.length_erase_of_mem hx] at this
  have:=List.length_pos_of_mem hx
  simp only [List.length_cons];omega
theorem pool_few {L:Pool} {l:List Int} (hn:l.Nodup) (hi:∀t∈l,inP L t=true):l.length≤L.length:=by
 have:=nodup_few (m:=(List.range L.length).map fun i:Nat=>(i:Int)+1) hn (fun t ht=>by
  obtain ⟨i,h1,h2⟩:=inP_at (hi t ht)
  exact List.mem_map.2 ⟨i,List.mem_range.2 h1,h2.symm⟩)
 simpa using this
theorem WaysOk.few {L:Pool} {G:List Int} {S:List Way} (h:WaysOk L G S):S.length≤L.length:=by
 have:=pool_few h.nodup h.inp
 rwa [wkeys_len] at this
theorem kids4 {L:Pool} (h:Wf L) {t:Int} (ht:inP L t=true) (hk:(nodeOf L t).kind=4):(inP L (nodeOf L t).a=true∧(nodeOf L t).a<t)∧(inP L (nodeOf L t).b=true∧(nodeOf L t).b<t):=by
 have:=(h.node ht).2.2.2.2.1
 simp only [kidsOf,hk,shapeOf] at this
 exact ⟨this _ (by simp),this _ (by simp)⟩
theorem kids7 {L:Pool} (h:Wf L) {t:Int} (ht:inP L t=true) (hk:showsK (nodeOf L t).kind=true):inP L (nodeOf L t).a=true∧(nodeOf L t).a<t:=by
 have:=(h.node ht).2.2.2.2.1
 simp only [showsK,Bool.or_eq_true,beq_iff_eq] at hk
 rcases hk with (hk | hk) | hk <;> simp only [kidsOf,hk,shapeOf] at this <;> exact this _ (by simp)
theorem Arises.inp {L:Pool} (h:Wf L) {r u t:Int} (hu:inP L u=true) (ha:Arises L r u t):inP L t=true∧t<u:=by
 rcases ha with ⟨_,hk,rfl⟩ | ⟨_,hk,rfl⟩ | ⟨_,hk,rfl⟩
 ·exact (kids4 h hu hk).1
 ·exact (kids4 h hu hk).2
 ·exact kids7 h hu hk
def addWay (S:List Way) (v:Way):List Way:=if v.t∈wkeys S then S else S++[v]
theorem wkeys_snoc (S:List Way) (v:Way):wkeys (S++[v])=wkeys S++[v.t]:=by simp [wkeys]
theorem addWay_keys (S:List Way) (v:Way):v.t∈wkeys (addWay S v)∧∀t∈wkeys S,t∈wkeys (addWay S v):=by
 unfold addWay;split
 ·rename_i h;exact ⟨h,fun _ h=>h⟩
 ·rw [wkeys_snoc];exact ⟨by simp,fun t ht=>List.mem_append_left _ ht⟩
theorem addWay_take (S:List Way) (v:Way):∃M,addWay S v=S++M:=by
 unfold addWay;split
 ·exact ⟨[],by simp⟩
 ·exact ⟨[v],rfl⟩
theorem WaysOk.add {L:Pool} {G:List Int} {S:List Way} (h:WaysOk L G S) {v:Way} (hi:inP L v.t=true) (hv:WayOk L G S v):WaysOk L G (addWay S v):=by
 unfold addWay;split
 ·exact h
 ·rename_i hn;exact h.snoc hn hi hv
end Go.Sp
end
section
open Go Go.SE
namespace Go.Proofs
open Tryz
attribute [local irreducible] Calls
def wayv (p:Int×Int):Value:=.agg #[.int .i64 p.1,.int .i64 p.2]
def wmap (S:List Sp.Way):List (Int×(Int×Int)):=S.map fun v=>(v.t,(v.rule,v.frm))
theorem wmap_keys (S:List Sp.Way):(wmap S).map Prod.fst=Sp.wkeys S:=by simp [wmap,Sp.wkeys]
theorem wmap_snoc (S:List Sp.Way) (v:Sp.Way):wmap (S++[v])=wmap S++[(v.t,(v.rule,v.frm))]:=by simp [wmap]
structure KnowS (w:World) (k p:Addr) (G:List Int) (S:List Sp.Way) (ks:List Int) (sg:Sl) (m:Nat) (sl:Sl):Prop where
 box:Box w k [.pointer (some p),sg.v,.map (some m),sl.v] 212
 giv:Rws w 78 1 sg (tmr G)
 seen:IMap wayv w m (wmap S)
 list:Rws w 78 1 sl (tmr ks)
 n1:m≠k.block
 n2:¬ sg.blk k.block
 n3:¬ sl.blk k.block
 n4:¬ sg.blk m
 n5:¬ sl.blk m
 n6:∀b,sg.blk b→¬ sl.blk b
def KF (k:Addr) (sg:Sl) (m:Nat) (sl:Sl) (b:Nat):Prop:=b=k.block∨sg.blk b∨b=m∨sl.blk b
def KnowAt (w:World) (k p:Addr) (G:List Int) (S:List Sp.Way) (F:NP):Prop:=∃sg m sl,KnowS w k p G S (Sp.wkeys S) sg m sl∧∀b,F b↔KF k sg m sl b
section
variable {w w':World} {k p:Addr} {G:List Int} {S:List Sp.Way} {ks:List Int} {sg sl:Sl} {m:Nat} {F:NP}
theorem KnowS.ext {X:NP} (h:KnowS w k p G S ks sg m sl) (hE:Ext X w w') (hd:∀b,KF k sg m sl b→¬ X b):KnowS w' k p G S ks sg m sl :=
 ⟨h.box.ext hE (hd _ (.inl rfl)),h.giv.ext hE (fun b hb=>hd _ (.inr (.inl hb))),h.seen.ext hE (hd _ (.inr (.inr (.inl rfl)))),h.list.ext hE (fun b hb=>hd _ (.inr (.inr (.inr hb)))),h.n1,h.n2,h.n3,h.n4,h.n5,h.n6⟩
theorem KnowS.pure (h:KnowS w k p G S ks sg m sl) (hE:Pure w w'):KnowS w' k p G S ks sg m sl:=h.ext hE (fun _ _ h=>h)
theorem KnowS.lt (h:KnowS w k p G S ks sg m sl) {b:Nat} (hb:KF k sg m sl b):b<w.heap.size:=by
 rcases hb with rfl | hb | rfl | hb
 ·exact h.box.lt
 ·exact h.giv.lt hb
 ·exact h.seen.lt
 ·exact h.list.lt hb
theorem KnowAt.ext {X:NP} (h:KnowAt w k p G S F) (hE:Ext X w w') (hd:∀b,F b→¬ X b):KnowAt w' k p G S F:=by
 obtain ⟨sg,m,sl,h,hF⟩:=h
 exact ⟨sg,m,sl,h.ext hE (fun b hb=>hd b ((hF b).2 hb)),hF⟩
theorem KnowAt.pure (h:KnowAt w k p G S F) (hE:Pure w w'):KnowAt w' k p G S F:=h.ext hE (fun _ _ h=>h)
theorem KnowAt.lt (h:KnowAt w k p G S F) {b:Nat} (hb:F b):b<w.heap.size:=by
 obtain ⟨sg,m,sl,h,hF⟩:=h;exact h.lt ((hF b).1 hb)
theorem KnowS.look (h:KnowS w k p G S ks sg m sl) (t:Int):∃r f:Int,(Instr.lookup 210 (.map (some m)) (.int .i64 t) true).run prog w=.ok (.tuple #[.agg #[.int .i64 r,.int .i64 f],.bool (decide (t∈Sp.wkeys S))]) w∧(t∈Sp.wkeys S→SE.look (wmap S) t=some (r,f)):=by
 rcases h.seen.get (P:=prog) (T:=210) underlying210 underlying78 (zeroValue235 _) t true with ⟨h1,h2⟩ | ⟨⟨r,f⟩,h1,h2⟩
 ·have hn:t ∉ Sp.wkeys S:=by have:=look_none.1 h1;rwa [wmap_keys] at this
  exact ⟨0,0,by rw [decide_eq_false hn];exact h2,fun h=>absurd h hn⟩
 ·have hy : t ∈ Sp.wkeys S := by
   have:=look_mem h1
   rw [← wmap_keys];exact List.mem_map.2 ⟨_,this,rfl⟩
  exact ⟨r,f,by rw [decide_eq_true hy];exact h2,fun _=>h1⟩
theorem KnowS.put (h:KnowS w k p G S ks sg m sl) {v:Sp.Way} (hn:v.t ∉ Sp.wkeys S):∃w',(Instr.mapUpdate 210 (.map (some m)) (.int .i64 v.t) (.agg #[.int .i64 v.rule,.int .i64 v.frm])).run prog w=.ok () w'∧KnowS w' k p G (S++[v]) ks sg m sl∧Ext (·=m) w w':=by
 obtain ⟨w',h1,h2,h3⟩:=h.seen.put (P:=prog) (T:=210) (K:=78) underlying210 underlying78 (k:=v.t) (look_none.2 (by rw [wmap_keys];exact hn)) (v.rule,v.frm)
 exact ⟨w',h1,⟨h.box.ext h3 (fun e=>h.n1 e.symm),h.giv.ext h3 (fun b hb e=>h.n4 (e▸hb)),by rw [wmap_snoc];exact h2,h.list.ext h3 (fun b hb e=>h.n5 (e▸hb)),h.n1,h.n2,h.n3,h.n4,h.n5,h.n6⟩,h3⟩
theorem KnowS.app (h : KnowS w k p G S ks sg m sl) {t : Int} {q : Addr} {w1 : World} (hq : New w (.cells #[.int .i64 t] 78) q w1) (hn : ks.length ≤ 1000000) : ∃ s1 w2, (Builtin.append_ #[46, 46] 46 #[sl.v, (Sl.mk (some q) 1 1).v]).run prog w1 = .ok s1.v w2 ∧ Ext sl.blk w1 w2 ∧ Box w2 k [.pointer (some p), sg.v, .map (some m), sl.v] 212 ∧
  KnowS (w2.setCell (k.add 3) s1.v) k p G S (ks++[t]) sg m s1∧Ext (KF k sg m sl) w (w2.setCell (k.add 3) s1.v)∧∀b,KF k sg m s1 b→KF k sg m sl b∨w.heap.size≤b:=by
 have E1:Pure w w1:=Ext.new hq
 have h1:=h.pure E1
 obtain ⟨s1,w2,hr,hR,hE,hb⟩:=h1.list.append (P:=prog) (ty:=46) (c:=1) slT_tm (r:=[.int .i64 t]) (Box.of_new hq).row rfl rfl (by rw [tmr_len];omega) (by rw [tmr_len];simp [maxLen];omega)
 have hbx:=h1.box.ext hE h1.n3
 have hs1:∀b,s1.blk b→sl.blk b∨w.heap.size≤b:=fun b h=>(hb b h).imp_right (fun h=>by have:=E1.size;omega)
 have nk:¬ s1.blk k.block:=fun hh=>(hs1 _ hh).elim h.n3 (fun hh=>by have:=h.box.lt;omega)
 have nm:¬ s1.blk m:=fun hh=>(hs1 _ hh).elim h.n5 (fun hh=>by have:=h.seen.lt;omega)
 have E3:=Ext.setCell (w:=w2) (k.add 3) s1.v
 rw [add_block] at E3
 refine ⟨s1,w2,hr,hE,hbx,⟨hbx.set 3 s1.v,((h1.giv.ext hE h.n6).ext E3 (fun b hb e=>h.n2 (e▸hb))),((h1.seen.ext hE h.n5).ext E3 h.n1),by rw [show tmr (ks++[t])=tmr ks++[[.int .i64 t]] by simp [tmr]];exact hR.ext E3 (fun b hb e=>nk (e▸hb)),h.n1,h.n2,nk,h.n4,nm,fun b h1 h2=>(hs1 b h2).elim (h.n6 b h1) (fun hh=>by have:=h.giv.lt h1;omega)⟩,?_,?_⟩
 ·exact ((E1.pure (F:=KF k sg m sl)).trans (hE.mono (fun b _ hb=>.inr (.inr (.inr hb))))).trans (E3.mono (fun b _ hb=>.inl hb))
 ·rintro b (hb | hb | hb | hb)
  ·exact .inl (.inl hb)
  ·exact .inl (.inr (.inl hb))
  ·exact .inl (.inr (.inr (.inl hb)))
  ·exact (hs1 b hb).imp_left (fun h=>.inr (.inr (.inr h)))
end
theorem c_ded_New (p:Addr) (w0:World):Calls prog 62 #[.pointer (some p)] w0 (fun e w'=>∃r:Option Addr,e=.returned (.pointer r)∧∃k F,r=some k∧KnowAt w' k p [] [] F∧Pure w0 w'∧∀b,F b→w0.heap.size≤b):=by
 refine w_R3 _ w0 (fun r w'=>∃k F,r=some k∧KnowAt w' k p [] [] F∧Pure w0 w'∧∀b,F b→w0.heap.size≤b) ?_
 unfold m_R3
 refine Br.f rfl ?_
 intro p2 w1 h1 p3 w2 h2
 have E1:Pure w0 w1:=Ext.new h1
 have E2:Pure w1 w2:=Ext.new h2
 have hnil:∀b,¬ Sl.nil.blk b:=fun b hb=>by obtain ⟨a,h,_⟩:=hb;cases h
 refine ⟨p3,_,rfl,⟨Sl.nil,p2.block,Sl.nil,⟨Box.of_new h2,Rws.nil _ _ _,(IMap.of_new (f:=wayv) h1).pure E2,Rws.nil _ _ _,?_,hnil _,hnil _,hnil _,hnil _,fun b hb=>(hnil b hb).elim⟩,fun b=>Iff.rfl⟩,E1.trans E2,?_⟩
 ·have:=h1.at_size;have:=h2.at_size;have:=E1.size;have:=(IMap.of_new (f:=wayv) h1).lt;omega
 ·rintro b (rfl | hb | rfl | hb)
  ·have:=h2.at_size;have:=E1.size;omega
  ·exact (hnil b hb).elim
  ·have:=h1.at_size;omega
  ·exact (hnil b hb).elim
end Go.Proofs
end
section
open Go Go.SE
namespace Go.Proofs
open Tryz
attribute [local irreducible] Calls
theorem IterC.at' {P:Program} {gf:FuncId} {lb:Array Value} {α:Type} {encs:α→Array Value} {xs:List α} {Rd:WP} {w w1:World} (h:IterC P gf lb encs xs Rd w) (E:Pure w w1):IterC P gf lb encs xs Rd w1 :=
 fun l J Jx W hW=>h l J Jx W (E.trans hW)
theorem it_Values {S : NP} {pc : Addr} {s : Sl} {xs : List Int} {w0 : World} (hB : Box w0 pc [s.v] 46) (hn : xs.length ≤ 1000000) :
  IterC prog 208 #[.pointer (some pc)] (fun z:Int=>#[.int .i64 z]) xs (fun A=>Lst S A 1 s (tmr xs)) w0:=by
 intro l J Jx W E hRd hJ hJx hyield h0
 refine (w_S1 (.func (.yield l) #[] #[]) pc W (fun A=>∃X,Hst W X A X A∧(J xs X A∨∃pre,Jx pre X A)) ?_).mono (fun e A h=>⟨⟨_,h.1⟩,h.2⟩)
 unfold m_S1
 refine ⟨s,(hB.pure E).cell0,fun x A=>∃j:Nat,x=j∧j≤xs.length∧Hst W None A None A∧J (xs.take j) None A,fun x _=>((xs.length:Int) - x).toNat,⟨0,rfl,Nat.zero_le _,Hst.start W,h0⟩,?_⟩
 rintro _ A ⟨j,rfl,hj,hA,hJA⟩
 unfold m_S1_l1
 have hR:=hRd _ _ _ hJA
 have hlen:s.len=xs.length:=by rw [hR.len,tmr_len]
 refine ⟨fun hc=>?_,fun hc=>?_⟩
 ·have hc:=lt_of_dec hlen hc
  obtain ⟨a,hat,_,hv⟩:=tm_nth hR hc
  refine ⟨a,hat,_,hv,l,rfl,?_⟩
  refine (hyield (xs.take j) xs[j] _ A hJA hA ⟨xs.drop (j+1),by rw [← List.drop_eq_getElem_cons hc,List.take_append_drop]⟩).mono ?_
  rintro e A' (⟨rfl,hk,hJ'⟩ | ⟨rfl,hk,hJ'⟩)
  ·refine ⟨_,rfl,Br.f rfl ⟨⟨j+1,wrap_succ hc (by omega),hc,hA.again hk,by rw [List.take_succ_eq_append_getElem hc];exact hJ'⟩,?_⟩⟩
   rw [wrap_succ hc (by omega)]
   exact lt_dec hc
  ·exact ⟨_,rfl,Br.t rfl ⟨_,hA.again hk,.inr ⟨_,hJ'⟩⟩⟩
 ·have hc:=eq_of_dec hlen hj hc
  subst hc
  rw [List.take_length] at hJA
  exact ⟨_,hA,.inl hJA⟩
theorem c_AppendSeq {S : NP} {pc : Addr} {s : Sl} {xs : List Int} (w0 : World) (hB : Box w0 pc [s.v] 46) (hL : Lst S w0 1 s (tmr xs)) (hS : ∀ b, S b → b < w0.heap.size) (hn : xs.length ≤ 1000000) :
  Calls prog 283 #[Sl.nil.v,.func (.func 208) #[] #[.pointer (some pc)]] w0 (fun e w'=>∃r:Sl,e=.returned r.v∧RetO w0 78 1 (tmr xs) r w'):=by
 refine w_Q3 _ _ w0 (fun r w'=>RetO w0 78 1 (tmr xs) r w') ?_
 unfold m_Q3
 have hnil:∀b,¬ Sl.nil.blk b:=fun b hb=>by obtain ⟨a,h,_⟩:=hb;cases h
 intro p1 w1 h1
 have E1:Pure w0 w1:=Ext.new h1
 have s1:=h1.at_size
 have B1:=Box.of_new h1
 have l1:=B1.lt
 refine ⟨_,_,rfl,call208,xs,_,IterC.at' (it_Values (S:=S) hB hn) E1,?_⟩
 refine ⟨fun pre Y A=>∃so:Sl,Box A p1 [so.v] 46∧Rws A 78 1 so (tmr pre)∧Lst S A 1 s (tmr xs)∧Pure w0 A∧(∀b,so.blk b→w1.heap.size≤b∧¬ Y b)∧¬ Y p1.block∧w1.heap.size≤A.heap.size,⟨?_,?_,fun _ _ _ _ _ h=>h.elim,fun _ _ _ _ _ h=>h.elim⟩,?_,?_,?_⟩
 ·rintro pre Y A ⟨so,_,_,h,_⟩;exact h
 ·rintro pre Y A Y' A' ⟨so,b1,hR,hl,hE,ho,hp,hz⟩ hs
  have d1:¬ Y' p1.block:=hs.disj (G:=(·=p1.block)) (fun b e=>by subst e;exact ⟨b1.lt,hp⟩) _ rfl
  have d2:∀b,so.blk b→¬ Y' b:=hs.disj (G:=so.blk) (fun b hb=>⟨hR.lt hb,(ho b hb).2⟩)
  exact ⟨so,b1.ext hs.ext d1,hR.ext hs.ext d2,hl.hst hs hS,hE.hst hs,fun b hb=>⟨(ho b hb).1,d2 b hb⟩,d1,Nat.le_trans hz hs.ext.size⟩
 ·exact ⟨Sl.nil,B1,Rws.nil _ _ _,hL.pure E1,E1,fun b hb=>(hnil b hb).elim,id,Nat.le_refl _⟩
 ·rintro pre z Y A ⟨so,b1,hR,hl,hE,ho,hp,hz⟩ hsA ⟨post,hpost⟩
  have hpl:pre.length<xs.length:=by rw [hpost];simp
  refine ⟨so,b1.cell0,?_⟩
  intro p2 w2 h2
  have E2:Pure A w2:=Ext.new h2
  obtain ⟨s2,w3,hr3,R3,X3,f3⟩:=(hR.pure E2).append (P:=prog) (ty:=46) (c:=1) slT_tm (r:=[.int .i64 z]) (Box.of_new h2).row rfl rfl (by rw [tmr_len];omega) (by rw [tmr_len];simp [maxLen];omega)
  have d1:¬ so.blk p1.block:=fun hb=>by have:=(ho _ hb).1;omega
  have b3:=(b1.pure E2).ext X3 d1
  have z2:=E2.size;have z3:=X3.size
  have hk3:Kept None w2 w3:=X3.kept (fun b hb=>hb.elim)
  refine ⟨s2,w3,hr3,hk3,b3.canW0 (by simp),id,fun w4 h4=>?_⟩
  have E4:Ext (·=p1.block) w3 w4:=by rw [h4];exact Ext.setCell p1 _
  have b4:Box w4 p1 [s2.v] 46:=by rw [h4];exact b3.set0
  have o2:∀b,s2.blk b→w1.heap.size≤b:=fun b hb=>(f3 b hb).elim (fun h=>(ho b h).1) (fun h=>by omega)
  have hYlt:=hsA.lt
  have XX:Ext (fun b=>so.blk b∨b=p1.block) A w4:=((E2.pure).trans (X3.mono (fun b _ h=>.inl h))).trans (E4.mono (fun b _ h=>.inr h))
  refine ⟨XX.kept (fun b hY hb=>hb.elim (fun h=>(ho b h).2 hY) (fun h=>hp (h▸hY))),s2,b4,?_,?_,?_,fun b hb=>⟨o2 b hb,fun hY=>(f3 b hb).elim (fun h=>(ho b h).2 hY) (fun h=>by have:=hYlt b hY;omega)⟩,hp,by have:=E4.size;omega⟩
  ·rw [show tmr (pre++[z])=tmr pre++[[.int .i64 z]] by simp [tmr]]
   exact R3.ext E4 (fun b hb e=>by have:=o2 b hb;omega)
  ·exact hl.ext XX (fun b hb h=>by have:=hS b hb;rcases h with h | h;(· have:=(ho b h).1;have:=E1.size;omega);(· omega))
  ·exact hE.trans' XX (fun i hi hb=>by rcases hb with h | h;(· have:=(ho i h).1;have:=E1.size;omega);(· omega))
 ·rintro H1 w5 hs5 _ _ ⟨so,b1,hR,hl,hE,ho,hp,hz⟩
  refine ⟨so,b1.cell0,fun w6 hs6=>⟨hR.ext hs6.ext (hs6.disj (G:=so.blk) (fun b hb=>⟨hR.lt hb,(ho b hb).2⟩)),fun b hb=>by have:=(ho b hb).1;have:=E1.size;omega,hE.hst hs6⟩⟩
theorem c_SortedV {S : NP} {pc : Addr} {s : Sl} {xs : List Int} (w0 : World) (hB : Box w0 pc [s.v] 46) (hL : Lst S w0 1 s (tmr xs)) (hS : ∀ b, S b → b < w0.heap.size) (hn : xs.length ≤ 1000000) :
  Calls prog 152 #[.func (.func 208) #[] #[.pointer (some pc)]] w0 (fun e w'=>∃r:Sl,e=.returned r.v∧∃l,RetO w0 78 1 (tmr l) r w'∧l.Perm xs∧l.Pairwise (·≤·)):=by
 refine w_O3 _ w0 (fun r w'=>∃l,RetO w0 78 1 (tmr l) r w'∧l.Perm xs∧l.Pairwise (·≤·)) ?_
 unfold m_O3
 refine (w_N3 _ w0 (fun r w'=>RetO w0 78 1 (tmr xs) r w') ?_).mono ?_
 ·unfold m_N3
  refine (c_AppendSeq w0 hB hL hS hn).mono ?_
  rintro _ w1 ⟨r,rfl,hr⟩
  exact ⟨r,rfl,hr⟩
 ·rintro _ w1 ⟨r,rfl,hr⟩
  refine ⟨r,rfl,?_⟩
  refine (c_Sort r xs w1 hr.rows hn).mono ?_
  rintro _ w2 ⟨rfl,l,hl,hx,hp,hs⟩
  exact ⟨rfl,l,⟨hl,hr.own,hr.pure.trans' hx (fun i hi hb=>by have:=hr.own i hb;omega)⟩,hp,hs⟩
theorem c_ded_Seen (k p : Addr) (w0 : World) {G : List Int} {W : List Sp.Way} {F : NP} (h : KnowAt w0 k p G W F) (hn : (Sp.wkeys W).length ≤ 1000000) :
  Calls prog 80 #[.pointer (some k)] w0 (fun e w'=>∃r:Sl,e=.returned r.v∧∃l,RetO w0 78 1 (tmr l) r w'∧l.Perm (Sp.wkeys W)∧l.Pairwise (·≤·)):=by
 refine w_S3 _ w0 (fun r w'=>∃l,RetO w0 78 1 (tmr l) r w'∧l.Perm (Sp.wkeys W)∧l.Pairwise (·≤·)) ?_
 unfold m_S3
 obtain ⟨sg,m,sl,h,hF⟩:=h
 refine Br.f rfl ⟨k,rfl,sl,h.box.cell rfl,?_⟩
 refine (w_P3 sl w0 (fun r w'=>∃p1,r=.func (.func 208) #[] #[.pointer (some p1)]∧Box w' p1 [sl.v] 46∧Pure w0 w') ?_).mono ?_
 ·unfold m_P3
  intro p1 w1 h1
  exact ⟨p1,rfl,Box.of_new h1,Ext.new h1⟩
 ·rintro _ w1 ⟨r,rfl,p1,rfl,B1,E1⟩
  refine ⟨_,rfl,?_⟩
  refine (c_SortedV (S:=sl.blk) w1 B1 (h.list.pure E1).lst (fun b hb=>(h.list.pure E1).lt hb) hn).mono ?_
  rintro _ w2 ⟨r2,rfl,l,hl,hp,hs⟩
  exact ⟨r2,rfl,l,⟨hl.rows,fun b hb=>by have:=hl.own b hb;have:=E1.size;omega,E1.trans hl.pure⟩,hp,hs⟩
end Go.Proofs
end
section
open Go Go.SE
namespace Go.Proofs
open Tryz
attribute [local irreducible] Calls
section
variable {w w':World} {k p:Addr} {G:List Int} {S:List Sp.Way} {F:NP}
theorem KnowAt.hst {w0:World} {H H':NP} (h:KnowAt w k p G S F) (hs:Hst w0 H w H' w') (hd:∀b,F b→¬ H b):KnowAt w' k p G S F∧∀b,F b→¬ H' b:=by
 have hd':=hs.disj (G:=F) (fun b hb=>⟨h.lt hb,hd b hb⟩)
 exact ⟨h.ext hs.ext hd',hd'⟩
end
theorem c_ded_sees1 (k p : Addr) (t rule u : Int) (c1 c2 : Addr) (w0 : World) {G : List Int} {S : List Sp.Way} {F : NP} (h : KnowAt w0 k p G S F) (h1 : w0.cell? c1 = some (.pointer (some k))) (h2 : w0.cell? c2 = some (.int .i64 u)) (d1 : ¬ F c1.block) (d2 : ¬ F c2.block) (hn : S.length ≤ 1000000) :
  Calls prog 205 #[.int .i64 t,.int .i64 rule,.pointer (some c1),.pointer (some c2)] w0 (fun e w'=>e=.returned (.tuple #[])∧∃F',KnowAt w' k p G (Sp.addWay S ⟨t,rule,u⟩) F'∧Ext F w0 w'∧∀b,F' b→F b∨w0.heap.size≤b):=by
 refine w_T3 _ _ _ _ w0 (fun w'=>∃F',KnowAt w' k p G (Sp.addWay S ⟨t,rule,u⟩) F'∧Ext F w0 w'∧∀b,F' b→F b∨w0.heap.size≤b) ?_
 unfold m_T3
 have hA:=h
 obtain ⟨sg,m,sl,h,hF⟩:=h
 obtain ⟨r,f,hl,_⟩:=h.look t
 refine ⟨_,h1,k,rfl,_,h.box.cell rfl,r,f,_,hl,fun hc=>?_,fun hc=>?_⟩
 ·have hnt:t ∉ Sp.wkeys S:=by simpa using hc
  have hadd:Sp.addWay S ⟨t,rule,u⟩=S++[⟨t,rule,u⟩]:=if_neg hnt
  rw [hadd]
  intro H1 w2 hs2
  have E2:=hs2.first
  have hh:∀{b},b<w0.heap.size→¬ H1 b:=fun hb hx=>by have:=hs2.old _ hx;omega
  have E3:Pure w0 w2.drew:=E2.trans (Ext.drew w2)
  have D4:∀w4:World,Pure w4 w4.drew:=fun w4=>Ext.drew w4
  have c1lt:=World.block_lt_of_cell? w0 c1 h1
  refine ⟨fun w'=>KnowS w' k p G S (Sp.wkeys S) sg m sl∧w'.cell? c1=some (.pointer (some k))∧w'.cell? c2=some (.int .i64 u),⟨h.pure E3,E3.cell h1 (fun h=>h),E3.cell h2 (fun h=>h)⟩,?_⟩
  rintro _ rfl
  have h3:=h.pure E3
  refine ⟨_,fun w' h=>h.2.1,k,rfl,_,fun w' h=>h.1.box.cell rfl,_,fun w' h=>h.2.2,?_⟩
  obtain ⟨w4,hr4,h4,E4⟩:=h3.put (v:=⟨t,rule,u⟩) hnt
  refine ⟨w4,hr4,E4.kept (fun b hb e=>by subst e;exact hh (h.lt (.inr (.inr (.inl rfl)))) hb),?_⟩
  have c14:w4.cell? c1=some (.pointer (some k)):=E4.cell (E3.cell h1 (fun h=>h)) (fun e=>d1 ((hF _).2 (.inr (.inr (.inl e)))))
  have h5:=h4.pure (Ext.drew w4)
  refine ⟨fun w'=>w'.cell? c1=some (.pointer (some k))∧Box w' k [.pointer (some p),sg.v,.map (some m),sl.v] 212,⟨(D4 w4).cell c14 (fun h=>h),h5.box⟩,?_⟩
  rintro _ rfl
  refine ⟨_,fun w' h=>h.1,_,fun w' h=>h.1,k,rfl,sl,fun w' h=>h.2.cell rfl,?_⟩
  intro q w6 h6
  have E6:Pure w4.drew w6:=Ext.new h6
  refine ⟨⟨E6.cell ((D4 w4).cell c14 (fun h=>h)) (fun h=>h),h5.box.pure E6⟩,?_⟩
  obtain ⟨s1,w7,hr7,X7,b7,k7,E7,f7⟩:=h5.app h6 (by rw [Sp.wkeys_len];exact hn)
  have c17:w7.cell? c1=some (.pointer (some k)):=X7.cell (E6.cell ((D4 w4).cell c14 (fun h=>h)) (fun h=>h)) (fun hb=>d1 ((hF _).2 (.inr (.inr (.inr hb)))))
  refine ⟨s1,w7,hr7,⟨c17,b7⟩,X7.kept (fun b hb hx=>hh (h.lt (.inr (.inr (.inr hx)))) hb),k,rfl,b7.canW (by simp),by rw [add_block];exact hh h.box.lt,?_⟩
  rintro _ rfl
  rw [← show Sp.wkeys (S++[⟨t,rule,u⟩])=Sp.wkeys S++[t] from Sp.wkeys_snoc S ⟨t,rule,u⟩] at k7
  have e4:w0.heap.size≤w4.drew.heap.size:=Nat.le_trans E3.size (Nat.le_trans E4.size (D4 w4).size)
  refine ⟨_,⟨sg,m,s1,k7,fun b=>Iff.rfl⟩,?_,fun b hb=>(f7 b hb).imp (hF b).2 (fun h=>by omega)⟩
  refine ((E3.pure (F:=F)).trans (E4.mono (fun b _ e=>(hF b).2 (.inr (.inr (.inl e)))))).trans (((Ext.drew w4:Pure w4 w4.drew).pure (F:=F)).trans (E7.mono (fun b _ hb=>(hF b).2 hb)))
 ·have hnt:t∈Sp.wkeys S:=by simpa using hc
  have hadd:Sp.addWay S ⟨t,rule,u⟩=S:=if_pos hnt
  rw [hadd]
  intro H1 w2 hs2
  exact ⟨F,hA.pure hs2.first,hs2.first.pure,fun b hb=>.inl hb⟩
structure SeesAt (w0:World) (H:NP) (w:World) (k p p1:Addr) (L:Sp.Pool) (G:List Int) (S:List Sp.Way) (F F0 FP:NP):Prop where
 know:KnowAt w k p G S F
 pool:PoolAt w p L FP
 cap:w.cell? p1=some (.pointer (some k))
 ext:Ext F0 w0 w
 own:∀b,F b→F0 b∨w0.heap.size≤b
 h1:∀b,F b→¬ H b
 h2:∀b,FP b→¬ H b
 h3:¬ H p1.block
 d1:¬ F p1.block
 d2:∀b,F b→¬ FP b
section
variable {w0 w w':World} {H H':NP} {k p p1:Addr} {L:Sp.Pool} {G:List Int} {S S':List Sp.Way} {F F' F0 FP:NP}
theorem SeesAt.pure (h:SeesAt w0 H w k p p1 L G S F F0 FP) (E:Pure w w'):SeesAt w0 H w' k p p1 L G S F F0 FP :=
 ⟨h.know.pure E,h.pool.pure E,E.cell h.cap (fun h=>h),h.ext.thenPure E,h.own,h.h1,h.h2,h.h3,h.d1,h.d2⟩
theorem SeesAt.hst (h:SeesAt w0 H w k p p1 L G S F F0 FP) (hs:Hst w0 H w H' w'):SeesAt w0 H' w' k p p1 L G S F F0 FP:=by
 have x1:=hs.disj (G:=F) (fun b hb=>⟨h.know.lt hb,h.h1 b hb⟩)
 have x2:=hs.disj (G:=FP) (fun b hb=>⟨h.pool.lt hb,h.h2 b hb⟩)
 have x3:=hs.disj (G:=(·=p1.block)) (fun b hb=>by subst hb;exact ⟨World.block_lt_of_cell? w p1 h.cap,h.h3⟩) _ rfl
 exact ⟨h.know.ext hs.ext x1,h.pool.ext hs.ext x2,hs.ext.cell h.cap x3,h.ext.trans' hs.ext (fun i hi hb=>by have:=hs.old i hb;omega),h.own,x1,x2,x3,h.d1,h.d2⟩
theorem SeesAt.fresh (h:SeesAt w0 H w k p p1 L G S F F0 FP) {q:Nat} (E:Ext (·=q) w w') (q1:¬ F q) (q2:¬ FP q) (q3:q≠p1.block) (q4:w0.heap.size≤q):SeesAt w0 H w' k p p1 L G S F F0 FP :=
 ⟨h.know.ext E (fun b hb e=>q1 (e▸hb)),h.pool.ext E (fun b hb e=>q2 (e▸hb)),E.cell h.cap (fun e=>q3 e.symm),h.ext.trans' E (fun i hi e=>by subst e;omega),h.own,h.h1,h.h2,h.h3,h.d1,h.d2⟩
theorem SeesAt.step (h:SeesAt w0 H w k p p1 L G S F F0 FP) (hH:∀b,H b→b<w.heap.size) (hK:KnowAt w' k p G S' F') (E:Ext F w w') (hF:∀b,F' b→F b∨w.heap.size≤b):SeesAt w0 H w' k p p1 L G S' F' F0 FP:=by
 have hb:=h.ext.size
 refine ⟨hK,h.pool.ext E (fun b hb hf=>h.d2 b hf hb),E.cell h.cap h.d1,h.ext.trans' E (fun i hi hf=>(h.own i hf).elim id (fun hh=>by omega)),fun b hb=>?_,fun b hb hh=>?_,h.h2,h.h3,fun hh=>?_,fun b hb hh=>?_⟩
 ·rcases hF b hb with h1 | h1
  ·exact h.own b h1
  ·right;omega
 ·rcases hF b hb with h1 | h1
  ·exact h.h1 b h1 hh
  ·have:=hH b hh;omega
 ·rcases hF _ hh with h1 | h1
  ·exact h.d1 h1
  ·have:=World.block_lt_of_cell? w p1 h.cap;omega
 ·rcases hF b hb with h1 | h1
  ·exact h.d2 b h1 hh
  ·have:=h.pool.lt hh;omega
end
theorem c_ded_sees (k p : Addr) (t rule frm : Int) (w0 : World) {L : Sp.Pool} {G : List Int} {S : List Sp.Way} {F FP : NP} (h : KnowAt w0 k p G S F) (hP : PoolAt w0 p L FP) (hW : Sp.Wf L) (hd : ∀ b, F b → ¬ FP b)
  (hwo:Sp.WaysOk L G S) (hcl:∀u∈Sp.wkeys S,Sp.Shown L S u) (ht:Sp.inP L t=true) (hv:Sp.WayOk L G S ⟨t,rule,frm⟩) :
  Calls prog 151 #[.pointer (some k),.int .i64 t,.agg #[.int .i64 rule,.int .i64 frm]] w0 (fun e w'=>e=.returned (.tuple #[])∧∃S' F',KnowAt w' k p G S' F'∧(Sp.WaysOk L G S'∧(∀u∈Sp.wkeys S',Sp.Shown L S' u)∧t∈Sp.wkeys S'∧∀u∈Sp.wkeys S,u∈Sp.wkeys S')∧Ext F w0 w'∧∀b,F' b→F b∨w0.heap.size≤b):=by
 suffices key:∀K:WP,(∀S' F' w',KnowAt w' k p G S' F'→(Sp.WaysOk L G S'∧(∀u∈Sp.wkeys S',Sp.Shown L S' u)∧t∈Sp.wkeys S'∧∀u∈Sp.wkeys S,u∈Sp.wkeys S')→Ext F w0 w'→(∀b,F' b→F b∨w0.heap.size≤b)→K w')→m_Q (some k) t rule frm w0 K from
  w_Q _ _ _ _ w0 _ (key _ (fun S' F' w' a b c d=>⟨S',F',a,b,c,d⟩))
 intro K hK
 unfold m_Q
 intro p1 w1 h1 H1 w2 hs2
 have hp1:=h1.at_size
 have E1:Pure w0 w1:=Ext.new h1
 have nF:∀{b},F b→b<w0.heap.size:=fun hb=>h.lt hb
 have nP:∀{b},FP b→b<w0.heap.size:=fun hb=>hP.lt hb
 have A1:SeesAt w0 None w1 k p p1 L G S F F FP:=⟨h.pure E1,hP.pure E1,(Box.of_new h1).cell0,E1.pure,fun b hb=>.inl hb,fun b _ h=>h,fun b _ h=>h,fun h=>h,fun hb=>by have:=nF hb;omega,hd⟩
 have A2:=A1.hst hs2
 obtain ⟨sg,m,sl,k2,hF2⟩:=A2.know
 obtain ⟨r,f,hl,_⟩:=k2.look t
 refine ⟨_,A2.cap,k,rfl,_,k2.box.cell rfl,r,f,_,hl,fun hc=>?_,fun hc=>?_⟩
 ·intro H2 w4 hs4
  have A4:=A2.hst hs4
  exact hK S F w4 A4.know ⟨hwo,hcl,by simpa using hc,fun _ h=>h⟩ A4.ext (fun b hb=>.inl hb)
 have hnt:t ∉ Sp.wkeys S:=by simpa using hc
 intro H2 w4 hs4
 have A4:=A2.hst hs4
 have k4:KnowS w4 k p G S (Sp.wkeys S) sg m sl:=k2.ext hs4.ext (fun b hb=>A4.h1 b ((hF2 b).2 hb))
 have D:∀w:World,Pure w w.drew:=fun w=>Ext.drew w
 refine ⟨fun w'=>w'.cell? p1=some (.pointer (some k))∧Box w' k [.pointer (some p),sg.v,.map (some m),sl.v] 212,⟨(A4.pure (D w4)).cap,(k4.pure (D w4)).box⟩,?_⟩
 rintro _ rfl
 have A5:=A4.pure (D w4)
 have k5:=k4.pure (D w4)
 have hs5:Hst w0 H2 w4.drew H2 w4.drew:=hs4.here.again (D w4).keptP
 refine ⟨_,fun w' h=>h.1,k,rfl,_,fun w' h=>h.2.cell rfl,?_⟩
 obtain ⟨w6,hr6,k6,E6⟩:=k5.put (v:=⟨t,rule,frm⟩) hnt
 have hm:¬ H2 m:=A5.h1 m ((hF2 m).2 (.inr (.inr (.inl rfl))))
 refine ⟨w6,hr6,E6.kept (fun b hb e=>hm (e▸hb)),?_⟩
 have c16:w6.cell? p1=some (.pointer (some k)):=E6.cell A5.cap (fun e=>A5.d1 ((hF2 _).2 (.inr (.inr (.inl e)))))
 refine ⟨_,c16,k,rfl,sl,k6.box.cell rfl,?_⟩
 have k7:=k6.pure (D w6)
 have c17:w6.drew.cell? p1=some (.pointer (some k)):=(D w6).cell c16 (fun h=>h)
 refine ⟨fun w'=>w'.cell? p1=some (.pointer (some k))∧Box w' k [.pointer (some p),sg.v,.map (some m),sl.v] 212,⟨c17,k7.box⟩,?_⟩
 rintro _ rfl
 refine ⟨_,fun w' h=>h.1,_,fun w' h=>h.1,k,rfl,sl,fun w' h=>h.2.cell rfl,?_⟩
 intro q w8 h8
 have E8:Pure w6.drew w8:=Ext.new h8
 refine ⟨⟨E8.cell c17 (fun h=>h),k7.box.pure E8⟩,?_⟩
 have hSn:S.length≤65536:=by have:=hwo.few;have:=hW.ok.few;omega
 obtain ⟨s1,w9,hr9,X9,b9,k9,E9,f9⟩:=k7.app h8 (by rw [Sp.wkeys_len];omega)
 have c19:w9.cell? p1=some (.pointer (some k)):=X9.cell (E8.cell c17 (fun h=>h)) (fun hb=>A5.d1 ((hF2 _).2 (.inr (.inr (.inr hb)))))
 have hH8:∀b,H2 b→b<w4.drew.heap.size:=hs5.lt
 refine ⟨s1,w9,hr9,⟨c19,b9⟩,X9.kept (fun b hb hx=>A5.h1 b ((hF2 b).2 (.inr (.inr (.inr hx)))) hb),k,rfl,b9.canW (by simp),by rw [add_block];exact A5.h1 _ ((hF2 _).2 (.inl rfl)),?_⟩
 rintro _ rfl
 rw [← show Sp.wkeys (S++[⟨t,rule,frm⟩])=Sp.wkeys S++[t] from Sp.wkeys_snoc S ⟨t,rule,frm⟩] at k9
 have E59:Ext F w4.drew (w9.setCell (k.add 3) s1.v):=(E6.mono (fun b _ e=>(hF2 b).2 (.inr (.inr (.inl e))))).trans (((D w6).pure (F:=F)).trans (E9.mono (fun b _ hb=>(hF2 b).2 hb)))
 have z6:w4.drew.heap.size≤w6.drew.heap.size:=Nat.le_trans E6.size (D w6).size
 have A10:SeesAt w0 H2 (w9.setCell (k.add 3) s1.v) k p p1 L G (S++[⟨t,rule,frm⟩]) (KF k sg m s1) F FP:=A5.step hH8 ⟨sg,m,s1,k9,fun b=>Iff.rfl⟩ E59 (fun b hb=>(f9 b hb).imp (hF2 b).2 (fun h=>by omega))
 have hw1:Sp.WaysOk L G (S++[⟨t,rule,frm⟩]):=hwo.snoc hnt ht hv
 have hl2:sl.len=S.length:=by rw [k2.list.len,tmr_len,Sp.wkeys_len]
 refine ⟨fun i H w'=>∃(j:Nat) (Sj:List Sp.Way) (Fj:NP),i=j∧j≤Sj.length∧SeesAt w0 H w' k p p1 L G Sj Fj F FP∧Sp.WaysOk L G Sj∧(∀u∈Sp.wkeys (Sj.take j),Sp.Shown L Sj u)∧t∈Sp.wkeys Sj∧∀u∈Sp.wkeys S,u∈Sp.wkeys Sj,fun i _=>((L.length:Int) - i).toNat,
  ⟨S.length,_,_,by rw [hl2],by simp,A10,hw1,fun u hu=>by rw [List.take_left] at hu;exact (hcl u hu).snoc,by rw [Sp.wkeys_snoc];simp,fun u hu=>by rw [Sp.wkeys_snoc];exact List.mem_append_left _ hu⟩,?_⟩
 rintro _ Hl wl hl ⟨j,Sj,Fj,rfl,hj,A,hwj,hcj,htj,hSj⟩
 unfold m_Q_l1
 obtain ⟨tg,mj,tl,kj,hFj⟩:=A.know
 have hlj:tl.len=Sj.length:=by rw [kj.list.len,tmr_len,Sp.wkeys_len]
 refine ⟨_,A.cap,k,rfl,tl,kj.box.cell rfl,fun hc=>?_,fun hc=>?_⟩
 ·have hlt:=lt_of_dec hlj hc
  obtain ⟨a8,at8,_,c8⟩:=tm_nth kj.list.lst (j:=j) (by rw [Sp.wkeys_len];exact hlt)
  have hu:(Sp.wkeys Sj)[j]'(by rw [Sp.wkeys_len];exact hlt)=Sj[j].t:=by simp [Sp.wkeys]
  rw [hu] at c8
  have hum:Sj[j].t∈Sp.wkeys Sj:=List.mem_map.2 ⟨_,List.getElem_mem hlt,rfl⟩
  have hui:=hwj.inp _ hum
  have hLn:Sj.length≤L.length:=hwj.few
  have hL6:=hW.ok.few
  have htk:Sp.wkeys (Sj.take (j+1))=Sp.wkeys (Sj.take j)++[Sj[j].t]:=by rw [List.take_succ_eq_append_getElem hlt,Sp.wkeys_snoc]
  generalize Sj[j].t=u at *
  refine ⟨_,A.cap,k,rfl,tl,kj.box.cell rfl,a8,at8,u,c8,?_⟩
  intro p5 w11 h11
  have hp5:=h11.at_size
  have E11:Pure wl w11:=Ext.new h11
  have b5:=Box.of_new h11
  have hnh5:¬ Hl p5.block:=fun hh=>by have:=hl.lt _ hh;omega
  refine ⟨b5.canW0 (by simp),hnh5,?_⟩
  rintro _ rfl
  have b12:=b5.set0 (v:=.int .i64 u)
  have E12:=Ext.setCell (w:=w11) p5 (.int .i64 u)
  have wl0:=A.ext.size
  have n5:¬ Fj p5.block:=fun hh=>by have:=A.know.lt hh;omega
  have n5p:¬ FP p5.block:=fun hh=>by have:=A.pool.lt hh;omega
  have n51:p5.block≠p1.block:=fun hh=>by have:=World.block_lt_of_cell? wl p1 A.cap;omega
  have A12:SeesAt w0 Hl (w11.setCell p5 (.int .i64 u)) k p p1 L G Sj Fj F FP:=(A.pure E11).fresh E12 n5 n5p n51 (by omega)
  have k12:KnowS (w11.setCell p5 (.int .i64 u)) k p G Sj (Sp.wkeys Sj) tg mj tl:=(kj.pure E11).ext E12 (fun b hb e=>n5 (e▸(hFj b).2 hb))
  have hl12:Hst w0 Hl (w11.setCell p5 (.int .i64 u)) Hl (w11.setCell p5 (.int .i64 u)):=(hl.again E11.keptP).again (E12.kept (fun b hb e=>hnh5 (e▸hb)))
  generalize w11.setCell p5 (.int .i64 u)=w12 at *
  clear E11 E12 h11
  refine ⟨fun w'=>w'.cell? p1=some (.pointer (some k))∧Box w' k [.pointer (some p),tg.v,.map (some mj),tl.v] 212∧Box w' p5 [.int .i64 u] 78,⟨(A12.pure (D w12)).cap,(k12.pure (D w12)).box,b12.pure (D w12)⟩,?_⟩
  rintro _ rfl
  have A17:=A12.pure (D w12)
  have b17:=b12.pure (D w12)
  have k17:=k12.pure (D w12)
  have hs17:Hst w0 Hl w12.drew Hl w12.drew:=hl12.again (D w12).keptP
  generalize hn:Sp.nodeOf L u=n at *
  have J2 : ∀ (a9 : Addr) (w : World), Hst w0 Hl w Hl w → SeesAt w0 Hl w k p p1 L G Sj Fj F FP → w.cell? p5 = some (.int .i64 u) → Row w a9 (nrow n) → ¬ Fj a9.block → ¬ Hl a9.block →
    m_Q_j2 p1 j p5 a9 w0 Hl w (fun y'0 H' w'=>(∃(j:Nat) (Sj:List Sp.Way) (Fj:NP),y'0=j∧j≤Sj.length∧SeesAt w0 H' w' k p p1 L G Sj Fj F FP∧Sp.WaysOk L G Sj∧(∀u∈Sp.wkeys (Sj.take j),Sp.Shown L Sj u)∧t∈Sp.wkeys Sj∧∀u∈Sp.wkeys S,u∈Sp.wkeys Sj)∧((L.length:Int) - y'0).toNat<((L.length:Int) - (j:Int)).toNat) K:=by
   intro a9 w hs Aw c5 r9 n9 nh9
   have fin : ∀ (H' : NP) (w' : World) (S' : List Sp.Way) (F' : NP), SeesAt w0 H' w' k p p1 L G S' F' F FP → Sp.WaysOk L G S' → (∃ M, S' = Sj ++ M) → Sp.Shown L S' u →
     ((∃(j':Nat) (Sj:List Sp.Way) (Fj:NP),IntKind.i64.wrap ((j:Int)+1)=j'∧j'≤Sj.length∧SeesAt w0 H' w' k p p1 L G Sj Fj F FP∧Sp.WaysOk L G Sj∧(∀u∈Sp.wkeys (Sj.take j'),Sp.Shown L Sj u)∧t∈Sp.wkeys Sj∧∀u∈Sp.wkeys S,u∈Sp.wkeys Sj)∧((L.length:Int) - IntKind.i64.wrap ((j:Int)+1)).toNat<((L.length:Int) - (j:Int)).toNat):=by
    rintro H' w' S' F' A' hw' ⟨M,rfl⟩ hsh
    have hsub:∀x∈Sp.wkeys Sj,x∈Sp.wkeys (Sj++M):=fun x hx=>by unfold Sp.wkeys at hx ⊢;rw [List.map_append];exact List.mem_append_left _ hx
    rw [wrap_succ (n:=L.length) (by omega) (by omega)]
    refine ⟨⟨j+1,_,F',rfl,by rw [List.length_append];omega,A',hw',fun x hx=>?_,hsub t htj,fun x hx=>hsub x (hSj x hx)⟩,lt_dec (by omega)⟩
    rw [List.take_append_of_le_length (by omega),htk,List.mem_append,List.mem_singleton] at hx
    rcases hx with hx | rfl
    ·exact fun r y ha=>hsub y (hcj x hx r y ha)
    ·exact hsh
   unfold m_Q_j2
   have ck:w.cell? a9=some (.int .i64 n.kind):=by simpa [Addr.add,nrow] using r9 0 (by simp [nrow])
   have ca:w.cell? (a9.add 5)=some (.int .i64 n.a):=r9 5 (by simp [nrow])
   have cb:w.cell? (a9.add 6)=some (.int .i64 n.b):=r9 6 (by simp [nrow])
   refine ⟨_,ck,fun hk=>?_,fun hk=>?_⟩
   ·have hk4:n.kind=4:=by simpa using hk
    have hkids:=Sp.kids4 hW hui (by rw [hn];exact hk4)
    rw [hn] at hkids
    refine ⟨_,ca,?_⟩
    refine (c_ded_sees1 k p n.a 1 u p1 p5 w Aw.know Aw.cap c5 Aw.d1 (fun hh=>n5 hh) (by omega)).mono ?_
    rintro _ w13 ⟨rfl,F1,K1,X1,f1⟩
    have A1:=Aw.step hs.lt K1 X1 f1
    have hs13:=hs.again (X1.kept (fun b hb hf=>Aw.h1 b hf hb))
    refine ⟨rfl,X1.kept (fun b hb hf=>Aw.h1 b hf hb),n.b,X1.cell cb (by rw [add_block];exact n9),?_⟩
    have a1:Sp.Arises L 1 u n.a:=.inl ⟨rfl,by rw [hn];exact hk4,by rw [hn]⟩
    have a2:Sp.Arises L 2 u n.b:=.inr (.inl ⟨rfl,by rw [hn];exact hk4,by rw [hn]⟩)
    have hw1:=hwj.add (v:=⟨n.a,1,u⟩) hkids.1.1 (.inr ⟨by simp,a1,hum⟩)
    have u1:=(Sp.addWay_keys Sj ⟨n.a,1,u⟩).2 u hum
    have hw2:=hw1.add (v:=⟨n.b,2,u⟩) hkids.2.1 (.inr ⟨by simp,a2,u1⟩)
    have p5lt:=World.block_lt_of_cell? w p5 c5
    have m5:¬ F1 p5.block:=fun hh=>(f1 _ hh).elim n5 (fun hx=>by omega)
    refine (c_ded_sees1 k p n.b 2 u p1 p5 w13 A1.know A1.cap (X1.cell c5 n5) A1.d1 m5 (by have:=hw1.few;omega)).mono ?_
    rintro _ w14 ⟨rfl,F2,K2,X2,f2⟩
    have A2:=A1.step hs13.lt K2 X2 f2
    refine ⟨rfl,X2.kept (fun b hb hf=>A1.h1 b hf hb),?_⟩
    refine fin Hl w14 _ F2 A2 hw2 ?_ ?_
    ·obtain ⟨M1,e1⟩:=Sp.addWay_take Sj ⟨n.a,1,u⟩
     obtain ⟨M2,e2⟩:=Sp.addWay_take (Sp.addWay Sj ⟨n.a,1,u⟩) ⟨n.b,2,u⟩
     exact ⟨M1++M2,by rw [e2,e1,List.append_assoc]⟩
    ·rintro r y (⟨_,_,h3⟩ | ⟨_,_,h3⟩ | ⟨_,h2,_⟩)
     ·rw [hn] at h3;subst h3
      exact (Sp.addWay_keys _ ⟨n.b,2,u⟩).2 _ (Sp.addWay_keys Sj ⟨n.a,1,u⟩).1
     ·rw [hn] at h3;subst h3
      exact (Sp.addWay_keys _ ⟨n.b,2,u⟩).1
     ·rw [hn,hk4] at h2;cases h2
   ·have hk4:n.kind≠4:=by simpa using hk
    rintro y1 rfl
    have hy:(cond ((n.kind:Int) == 7) ((n.kind:Int) == 7) (cond ((n.kind:Int) == 8) ((n.kind:Int) == 8) ((n.kind:Int) == 9)))=Sp.showsK n.kind:=by
     unfold Sp.showsK;cases h7:(n.kind == 7) <;> cases h8:(n.kind == 8) <;> simp
    rw [hy]
    refine ⟨fun hs7=>?_,fun hs7=>?_⟩
    ·intro H3 w15 hs15
     have A15:=Aw.hst hs15
     have hkids:=Sp.kids7 hW hui (by rw [hn];exact hs7)
     rw [hn] at hkids
     have r15:=row_hst r9 nh9 hs15
     have ca15:w15.cell? (a9.add 5)=some (.int .i64 n.a):=r15 5 (by simp)
     have c515:=cell_hst c5 hnh5 hs15
     refine ⟨n.a,ca15,?_⟩
     refine (c_ded_sees1 k p n.a 3 u p1 p5 w15 A15.know A15.cap c515 A15.d1 n5 (by omega)).mono ?_
     rintro _ w16 ⟨rfl,F1,K1,X1,f1⟩
     have A1:=A15.step hs15.lt K1 X1 f1
     refine ⟨rfl,X1.kept (fun b hb hf=>A15.h1 b hf hb),?_⟩
     have a3:Sp.Arises L 3 u n.a:=.inr (.inr ⟨rfl,by rw [hn];exact hs7,by rw [hn]⟩)
     refine fin H3 w16 _ F1 A1 (hwj.add (v:=⟨n.a,3,u⟩) hkids.1 (.inr ⟨by simp,a3,hum⟩)) (Sp.addWay_take Sj ⟨n.a,3,u⟩) ?_
     rintro r y (⟨_,h2,_⟩ | ⟨_,h2,_⟩ | ⟨_,_,h3⟩)
     ·rw [hn] at h2;exact absurd h2 hk4
     ·rw [hn] at h2;exact absurd h2 hk4
     ·rw [hn] at h3;subst h3
      exact (Sp.addWay_keys Sj ⟨n.a,3,u⟩).1
    ·intro H3 w15 hs15
     refine fin H3 w15 Sj Fj (Aw.hst hs15) hwj ⟨[],by simp⟩ ?_
     rintro r y (⟨_,h2,_⟩ | ⟨_,h2,_⟩ | ⟨_,h2,_⟩)
     ·rw [hn] at h2;exact absurd h2 hk4
     ·rw [hn] at h2;exact absurd h2 hk4
     ·rw [hn,hs7] at h2;cases h2
  refine ⟨_,fun w' h=>h.1,k,rfl,_,fun w' h=>h.2.1.cell0,_,fun w' h=>h.2.2.cell0,?_,?_⟩
  ·refine (c_Node p u w12.drew A17.pool hW.ok).mono ?_
   rintro _ w18 ⟨nk,nf,nt,nu,nx,na,nb,ok,rfl,⟨hnn,_⟩,E18⟩
   rw [hn] at hnn
   refine ⟨_,_,_,_,_,_,_,_,rfl,⟨(A17.pure E18).cap,k17.box.pure E18,b17.pure E18⟩,E18.keptP,?_⟩
   intro p6 w19 h19
   have hp6:=h19.at_size
   have E19:=E18.trans (Ext.new h19)
   have b6:=Box.of_new h19
   have z18:=E18.size
   have z12:wl.heap.size≤w12.drew.heap.size:=by have:=(b17.lt);omega
   have nh6:¬ Hl p6.block:=fun hh=>by have:=hl.lt _ hh;omega
   refine ⟨⟨(A17.pure E19).cap,k17.box.pure E19,b17.pure E19⟩,b6.canWs (n:=7) (by simp),nh6,?_⟩
   rintro _ rfl
   have E20:=Ext.storeRow w19 p6 [(.int .i64 nk),(.int .i64 nf),(.int .i64 nt),(.int .u64 nu),(.string nx),(.int .i64 na),(.int .i64 nb)]
   have b20:=b6.store (vs:=[(.int .i64 nk),(.int .i64 nf),(.int .i64 nt),(.int .u64 nu),(.string nx),(.int .i64 na),(.int .i64 nb)]) rfl
   have A19:=A17.pure E19
   have n6:¬ Fj p6.block:=fun hh=>by have:=A17.know.lt hh;omega
   have A20:=A19.fresh E20 n6 (fun hh=>by have:=A17.pool.lt hh;omega) (fun hh=>by have:=World.block_lt_of_cell? _ p1 A17.cap;omega) (by have:=A17.ext.size;omega)
   have k20:=(k17.box.pure E19).ext E20 (fun e=>by have:=k17.box.lt;omega)
   have b520:=(b17.pure E19).ext E20 (fun e=>by have:=b17.lt;omega)
   have hs20:Hst w0 Hl _ Hl _:=(hs17.again E19.keptP).again (E20.kept (fun b hb e=>nh6 (e▸hb)))
   exact ⟨⟨A20.cap,k20,b520⟩,J2 p6 _ hs20 A20 b520.cell0 (by rw [← hnn];exact b20.row) n6 nh6⟩
  ·intro p7 w21 h21
   have hp6:=h21.at_size
   have E21:Pure w12.drew w21:=Ext.new h21
   have b7:=Box.of_new h21
   refine ⟨⟨(A17.pure E21).cap,k17.box.pure E21,b17.pure E21⟩,?_⟩
   refine (c_Node p u w21 (A17.pure E21).pool hW.ok).mono ?_
   rintro _ w22 ⟨nk,nf,nt,nu,nx,na,nb,ok,rfl,⟨hnn,_⟩,E22⟩
   rw [hn] at hnn
   have E19:=E21.trans E22
   have z12:wl.heap.size≤w12.drew.heap.size:=by have:=(b17.lt);omega
   have nh6:¬ Hl p7.block:=fun hh=>by have:=hl.lt _ hh;omega
   have b6:=b7.pure E22
   refine ⟨_,_,_,_,_,_,_,_,rfl,⟨(A17.pure E19).cap,k17.box.pure E19,b17.pure E19⟩,E22.keptP,b6.canWs (n:=7) (by simp),nh6,?_⟩
   rintro _ rfl
   have E20:=Ext.storeRow w22 p7 [(.int .i64 nk),(.int .i64 nf),(.int .i64 nt),(.int .u64 nu),(.string nx),(.int .i64 na),(.int .i64 nb)]
   have b20:=b6.store (vs:=[(.int .i64 nk),(.int .i64 nf),(.int .i64 nt),(.int .u64 nu),(.string nx),(.int .i64 na),(.int .i64 nb)]) rfl
   have A19:=A17.pure E19
   have n6:¬ Fj p7.block:=fun hh=>by have:=A17.know.lt hh;omega
   have A20:=A19.fresh E20 n6 (fun hh=>by have:=A17.pool.lt hh;omega) (fun hh=>by have:=World.block_lt_of_cell? _ p1 A17.cap;omega) (by have:=A17.ext.size;omega)
   have k20:=(k17.box.pure E19).ext E20 (fun e=>by have:=k17.box.lt;omega)
   have b520:=(b17.pure E19).ext E20 (fun e=>by have:=b17.lt;omega)
   have hs20:Hst w0 Hl _ Hl _:=(hs17.again E19.keptP).again (E20.kept (fun b hb e=>nh6 (e▸hb)))
   exact ⟨⟨A20.cap,k20,b520⟩,J2 p7 _ hs20 A20 b520.cell0 (by rw [← hnn];exact b20.row) n6 nh6⟩
 ·have hge:=eq_of_dec hlj hj hc
  subst hge
  rw [List.take_length] at hcj
  exact hK Sj Fj wl A.know ⟨hwj,hcj,htj,hSj⟩ A.ext A.own
end Go.Proofs
end
section
open Go.SE
namespace Go.Sp
def keyOf (L:Pool) (n:Int):Int×Bool:=match find L (keyNode n) with
 | some i=>((i:Int)+1,true)
 | none=>(0,false)
theorem keyOf_find {L:Pool} {n:Int} {i:Nat} (h:find L (keyNode n)=some i):keyOf L n=((i:Int)+1,true):=by unfold keyOf;rw [h]
theorem Drv.inv {L : Pool} {K : Int → Prop} {t : Int} (h : Drv L K t) : K t ∨ freeK (nodeOf L t).kind = true ∨ ((nodeOf L t).kind = 4 ∧ Drv L K (nodeOf L t).a ∧ Drv L K (nodeOf L t).b) ∨ ((nodeOf L t).kind = 5 ∧ Drv L K (nodeOf L t).a) ∨
  (showsK (nodeOf L t).kind=true∧Drv L K (nodeOf L t).a∧(keyOf L (whoOf (nodeOf L t))).2=true∧K (keyOf L (whoOf (nodeOf L t))).1):=by
 cases h with
 | seen h=>exact .inl h
 | free h=>exact .inr (.inl h)
 | pair h a b=>exact .inr (.inr (.inl ⟨h,a,b⟩))
 | hash h a=>exact .inr (.inr (.inr (.inl ⟨h,a⟩)))
 | sign h a hf hk=>rw [keyOf_find hf];exact .inr (.inr (.inr (.inr ⟨h,a,rfl,hk⟩)))
theorem kind_cases {L:Pool} (h:Wf L) {t:Int} (ht:inP L t=true):freeK (nodeOf L t).kind=true∨(nodeOf L t).kind=4∨(nodeOf L t).kind=5∨(nodeOf L t).kind=6∨showsK (nodeOf L t).kind=true:=by
 have h1:=(h.node ht).1
 unfold plainErr at h1
 simp only at h1
 split at h1
 ·cases h1
 ·rename_i hh
  simp only [Bool.or_eq_true,Bool.not_eq_true',not_or] at hh
  have hk:isKind (nodeOf L t).kind=true:=by simpa using hh.1.1.1.1
  simp only [isKind,Bool.and_eq_true,decide_eq_true_eq] at hk
  simp only [freeK,showsK,Bool.or_eq_true,beq_iff_eq]
  omega
inductive Sub (L:Pool):Int→Int→Prop
 | refl (t:Int):Sub L t t
 | kid {t u k:Int}:Sub L t u→k∈kidsOf (nodeOf L u)→Sub L t k
theorem Sub.trans {L:Pool} {a b c:Int} (h:Sub L a b) (k:Sub L b c):Sub L a c:=by
 induction k with
 | refl=>exact h
 | kid _ hk ih=>exact .kid ih hk
theorem kids_a {n:Node} (h:n.kind=4∨n.kind=5∨showsK n.kind=true):n.a∈kidsOf n:=by
 simp only [showsK,Bool.or_eq_true,beq_iff_eq] at h
 rcases h with h | h | (h | h) | h <;> simp [kidsOf,h,shapeOf]
theorem kids_b {n:Node} (h:n.kind=4):n.b∈kidsOf n:=by simp [kidsOf,h,shapeOf]
theorem Arises.sub {L:Pool} {r u t:Int} (h:Arises L r u t):Sub L u t:=by
 rcases h with ⟨_,hk,rfl⟩ | ⟨_,hk,rfl⟩ | ⟨_,hk,rfl⟩
 ·exact .kid (.refl u) (kids_a (.inl hk))
 ·exact .kid (.refl u) (kids_b hk)
 ·exact .kid (.refl u) (kids_a (.inr (.inr hk)))
theorem Seen.sub {L:Pool} {G:List Int} {t:Int} (h:Seen L G t):∃g∈G,Sub L g t:=by
 induction h with
 | given hg=>exact ⟨_,hg,.refl _⟩
 | «from» _ ha ih=>obtain ⟨g,hg,hs⟩:=ih;exact ⟨g,hg,hs.trans ha.sub⟩
def rank (S:List Way) (t:Int):Nat:=(wkeys S).idxOf t+if t∈wkeys S then 0 else t.toNat
theorem Arises.rule {L:Pool} {r u t:Int} (h:Arises L r u t):r=1∨r=2∨r=3:=by
 rcases h with ⟨h,_⟩ | ⟨h,_⟩ | ⟨h,_⟩
 ·exact .inl h
 ·exact .inr (.inl h)
 ·exact .inr (.inr h)
def amap (l:List Step):List (Int×Int):=l.zipIdx.map fun p=>(p.1.t,(p.2:Int))
structure PrfOk (L:Pool) (G:List Int) (K:Int→Prop) (l:List Step) (B:List Int):Prop where
 fol:∀i (hi:i<l.length),fol L G (l.take i) l[i]=true
 nd:(l.map Step.t).Nodup
 drv:∀s∈l,Drv L K s.t
 bar:∀t∈B,¬ Drv L K t
theorem PrfOk.nil (L:Pool) (G:List Int) (K:Int→Prop):PrfOk L G K [] []:=⟨fun i hi=>by simp at hi,by simp,by simp,by simp⟩
theorem PrfOk.snoc {L:Pool} {G:List Int} {K:Int→Prop} {l:List Step} {B:List Int} (h:PrfOk L G K l B) {s:Step} (hf:Sp.fol L G l s=true) (hn:s.t ∉ l.map Step.t) (hd:Drv L K s.t):PrfOk L G K (l++[s]) B:=by
 refine ⟨fun i hi=>?_,?_,fun x hx=>?_,h.bar⟩
 ·rw [List.length_append] at hi
  simp only [List.length_cons,List.length_nil] at hi
  by_cases hl:i<l.length
  ·rw [List.getElem_append_left hl,List.take_append_of_le_length (by omega)];exact h.fol i hl
  ·have:i=l.length:=by omega
   subst this
   rw [List.getElem_append_right (Nat.le_refl _),List.take_left]
   simpa using hf
 ·rw [List.map_append,List.nodup_append]
  exact ⟨h.nd,by simp,fun x hx y hy e=>by simp at hy;subst hy;exact hn (e▸hx)⟩
 ·rcases List.mem_append.1 hx with hx | hx
  ·exact h.drv x hx
  ·simp at hx;subst hx;exact hd
theorem fol_in {L:Pool} {G:List Int} {pre:List Step} {s:Step} (h:fol L G pre s=true):inP L s.t=true:=by
 unfold fol at h
 split at h
 ·cases h
 ·rename_i hh;simpa using hh
theorem PrfOk.few {L:Pool} {G:List Int} {K:Int→Prop} {l:List Step} {B:List Int} (h:PrfOk L G K l B):l.length≤L.length:=by
 have:=pool_few h.nd (fun t ht=>by
  obtain ⟨s,hs,rfl⟩:=List.mem_map.1 ht
  obtain ⟨i,hi,rfl⟩:=List.getElem_of_mem hs
  exact fol_in (h.fol i hi))
 simpa using this
end Go.Sp
end
section
open Go Go.SE
namespace Go.Sp
def addT (G:List Int) (t:Int):List Int:=if t∈G then G else G++[t]
def giveT (L:Pool) (G:List Int) (t:Int):List Int:=if inP L t=true then addT G t else G
theorem mem_addT {G:List Int} {t x:Int}:x∈addT G t↔x∈G∨x=t:=by
 unfold addT;split
 ·rename_i h;exact ⟨.inl,fun h'=>h'.elim id (fun e=>e▸h)⟩
 ·simp
theorem addT_nd {G:List Int} {t:Int} (h:G.Nodup):(addT G t).Nodup:=by
 unfold addT;split
 ·exact h
 ·rename_i hn
  rw [List.nodup_append];exact ⟨h,by simp,fun x hx y hy e=>by simp at hy;subst hy;exact hn (e▸hx)⟩
def madeS (L:Pool) (S:List Way) (t:Int):Int×Int×Bool×Bool :=
 if inP L t=false then (0,0,false,false)
 else if freeK (nodeOf L t).kind=true then (0,0,true,true)
 else if (nodeOf L t).kind=4 then ((nodeOf L t).a,(nodeOf L t).b,false,true)
 else if (nodeOf L t).kind=5 then ((nodeOf L t).a,0,false,true)
 else if (nodeOf L t).kind=6 then (0,0,false,false)
 else ((nodeOf L t).a,(keyOf L (whoOf (nodeOf L t))).1,false,(keyOf L (whoOf (nodeOf L t))).2 && decide ((keyOf L (whoOf (nodeOf L t))).1∈wkeys S))
end Go.Sp
namespace Go.Proofs
open Tryz
attribute [local irreducible] Calls
abbrev MakePost (p:Addr) (L:Sp.Pool) (F:NP) (w:World) (n:Sp.Node) (e:Ending) (w':World):Prop :=
 ∃r1:Int,∃r2:Int,e=.returned (.tuple #[.int .i64 r1,.int .i64 r2])∧((r1,r2)=((Sp.make L n).1,(Sp.make L n).2.1)∧∃F',PoolAt w' p (Sp.make L n).2.2 F'∧Ext F w w'∧∀b,F' b→F b∨w.heap.size≤b)
section
variable (p:Addr) (w0:World) {L:Sp.Pool} {F:NP} (hP:PoolAt w0 p L F) (hok:Sp.Ok L)
include hP hok
theorem c_Pair (a b:Int):Calls prog 91 #[.pointer (some p),.int .i64 a,.int .i64 b] w0 (MakePost p L F w0 ⟨4,0,0,0,⟨#[]⟩,a,b⟩):=by
 refine w_N2 _ _ _ w0 (fun r1 r2 w'=>(r1,r2)=((Sp.make L ⟨4,0,0,0,⟨#[]⟩,a,b⟩).1,(Sp.make L ⟨4,0,0,0,⟨#[]⟩,a,b⟩).2.1)∧∃F',PoolAt w' p (Sp.make L ⟨4,0,0,0,⟨#[]⟩,a,b⟩).2.2 F'∧Ext F w0 w'∧∀b,F' b→F b∨w0.heap.size≤b) ?_
 unfold m_N2
 refine (c_Make p _ _ _ _ _ _ _ w0 hP hok).mono ?_
 rintro _ w1 ⟨r1,r2,rfl,h⟩
 exact ⟨r1,r2,rfl,h⟩
theorem c_Sign (n a:Int):Calls prog 93 #[.pointer (some p),.int .i64 n,.int .i64 a] w0 (MakePost p L F w0 ⟨7,n,0,0,⟨#[]⟩,a,0⟩):=by
 refine w_P2 _ _ _ w0 (fun r1 r2 w'=>(r1,r2)=((Sp.make L ⟨7,n,0,0,⟨#[]⟩,a,0⟩).1,(Sp.make L ⟨7,n,0,0,⟨#[]⟩,a,0⟩).2.1)∧∃F',PoolAt w' p (Sp.make L ⟨7,n,0,0,⟨#[]⟩,a,0⟩).2.2 F'∧Ext F w0 w'∧∀b,F' b→F b∨w0.heap.size≤b) ?_
 unfold m_P2
 refine (c_Make p _ _ _ _ _ _ _ w0 hP hok).mono ?_
 rintro _ w1 ⟨r1,r2,rfl,h⟩
 exact ⟨r1,r2,rfl,h⟩
end
theorem KnowS.appG {w : World} {k p : Addr} {G : List Int} {S : List Sp.Way} {ks : List Int} {sg sl : Sl} {m : Nat} (h : KnowS w k p G S ks sg m sl) {t : Int} {q : Addr} {w1 : World} (hq : New w (.cells #[.int .i64 t] 78) q w1) (hn : G.length ≤ 1000000) : ∃ s1 w2, (Builtin.append_ #[46, 46] 46 #[sg.v, (Sl.mk (some q) 1 1).v]).run prog w1 = .ok s1.v w2 ∧ Ext sg.blk w1 w2 ∧ CanW w2 (k.add 1) ∧
  KnowS (w2.setCell (k.add 1) s1.v) k p (G++[t]) S ks s1 m sl∧Ext (KF k sg m sl) w (w2.setCell (k.add 1) s1.v)∧∀b,KF k s1 m sl b→KF k sg m sl b∨w.heap.size≤b:=by
 have E1:Pure w w1:=Ext.new hq
 have h1:=h.pure E1
 obtain ⟨s1,w2,hr,hR,hE,hb⟩:=h1.giv.append (P:=prog) (ty:=46) (c:=1) slT_tm (r:=[.int .i64 t]) (Box.of_new hq).row rfl rfl (by rw [tmr_len];omega) (by rw [tmr_len];simp [maxLen];omega)
 have hbx:=h1.box.ext hE h1.n2
 have hs1:∀b,s1.blk b→sg.blk b∨w.heap.size≤b:=fun b h=>(hb b h).imp_right (fun h=>by have:=E1.size;omega)
 have nk:¬ s1.blk k.block:=fun hh=>(hs1 _ hh).elim h.n2 (fun hh=>by have:=h.box.lt;omega)
 have nm:¬ s1.blk m:=fun hh=>(hs1 _ hh).elim h.n4 (fun hh=>by have:=h.seen.lt;omega)
 have E3:=Ext.setCell (w:=w2) (k.add 1) s1.v
 rw [add_block] at E3
 refine ⟨s1,w2,hr,hE,hbx.canW (by simp),⟨hbx.set 1 s1.v,by rw [show tmr (G++[t])=tmr G++[[.int .i64 t]] by simp [tmr]];exact hR.ext E3 (fun b hb e=>nk (e▸hb)),((h1.seen.ext hE h.n4).ext E3 h.n1),((h1.list.ext hE (fun b h2 h1=>h.n6 b h1 h2)).ext E3 (fun b hb e=>h.n3 (e▸hb))),h.n1,nk,h.n3,nm,h.n5,fun b h1 h2=>(hs1 b h1).elim (fun h1=>h.n6 b h1 h2) (fun hh=>by have:=h.list.lt h2;omega)⟩,?_,?_⟩
 ·exact ((E1.pure (F:=KF k sg m sl)).trans (hE.mono (fun b _ hb=>.inr (.inl hb)))).trans (E3.mono (fun b _ hb=>.inl hb))
 ·rintro b (hb | hb | hb | hb)
  ·exact .inl (.inl hb)
  ·exact (hs1 b hb).imp_left (fun h=>.inr (.inl h))
  ·exact .inl (.inr (.inr (.inl hb)))
  ·exact .inl (.inr (.inr (.inr hb)))
theorem c_ded_Add (k p : Addr) (t : Int) (w0 : World) {L : Sp.Pool} {G : List Int} {S : List Sp.Way} {F FP : NP} (h : KnowAt w0 k p G S F) (hP : PoolAt w0 p L FP) (hW : Sp.Wf L) (hd : ∀ b, F b → ¬ FP b) (hk : Sp.KnowOk L G S) :
  Calls prog 79 #[.pointer (some k),.int .i64 t] w0 (fun e w'=>∃r:Int,e=.returned (.int .i64 r)∧(r=(if Sp.inP L t=true then 0 else 51)∧∃S' F',KnowAt w' k p (Sp.giveT L G t) S' F'∧Sp.KnowOk L (Sp.giveT L G t) S'∧Ext F w0 w'∧∀b,F' b→F b∨w0.heap.size≤b)):=by
 suffices key:∀K:Int→WP,(∀S' F' w',KnowAt w' k p (Sp.giveT L G t) S' F'→Sp.KnowOk L (Sp.giveT L G t) S'→Ext F w0 w'→(∀b,F' b→F b∨w0.heap.size≤b)→K (if Sp.inP L t=true then 0 else 51) w')→m_G2 (some k) t w0 K from
  w_G2 _ _ w0 _ (key _ (fun S' F' w' a b c d=>⟨rfl,S',F',a,b,c,d⟩))
 intro K hK
 unfold m_G2
 obtain ⟨sg,m,sl,k0,hF⟩:=h
 refine Br.f rfl ⟨k,rfl,_,k0.box.cell0,?_⟩
 refine (c_Node p t w0 hP hW.ok).mono ?_
 rintro _ w1 ⟨nk,nf,nt,nu,nx,na,nb,ok,rfl,⟨_,rfl⟩,E1⟩
 refine ⟨_,_,_,_,_,_,_,_,rfl,E1.keptP,fun hc=>?_,fun hc=>?_⟩
 ·have hin:Sp.inP L t=false:=by simpa using hc
  intro H1 w3 hs3
  have E3:Pure w0 w3:=E1.hst hs3
  have hg:Sp.giveT L G t=G:=by unfold Sp.giveT;rw [if_neg (by simp [hin])]
  have:=hK S F w3 (by rw [hg];exact ⟨sg,m,sl,k0.pure E3,hF⟩) (by rw [hg];exact hk) E3.pure (fun b hb=>.inl hb)
  simpa [hin] using this
 have hin:Sp.inP L t=true:=by simpa using hc
 have hg:Sp.giveT L G t=Sp.addT G t:=by unfold Sp.giveT;rw [if_pos hin]
 rw [hg] at hK
 simp only [hin,if_true] at hK
 refine ⟨k,rfl,?_⟩
 intro H1 w3 hs3
 have E3:Pure w0 w3:=E1.hst hs3
 have k3:=k0.pure E3
 have nh:∀b,b<w0.heap.size→¬ H1 b:=fun b hb hh=>by have:=hs3.old b hh;omega
 have hGn:G.length≤65536:=by have:=Sp.pool_few hk.gnd (fun t ht=>hk.inp t (hk.giv t ht));have:=hW.ok.few;omega
 have fin:∀(w:World) (F':NP),KnowAt w k p (Sp.addT G t) S F'→Ext F w0 w→(∀b,F' b→F b∨w0.heap.size≤b)→Hst w0 H1 w H1 w→(∀b,F' b→¬ H1 b)→Calls prog 151 #[.pointer (some k),.int .i64 t,.agg #[.int .i64 0,.int .i64 0]] w (fun e w8=>e=.returned (.tuple #[])∧Kept H1 w w8∧K 0 w8):=by
  intro w F' hw hE hf hs hh
  have hGs:∀x∈G,x∈Sp.addT G t:=fun x hx=>Sp.mem_addT.2 (.inl hx)
  have hPw:PoolAt w p L FP:=hP.ext hE (fun b hb hfb=>hd b hfb hb)
  refine (c_ded_sees k p t 0 0 w hw hPw hW (fun b hb hp=>?_) (hk.toWaysOk.mono hGs) hk.closed hin (.inl ⟨rfl,rfl,Sp.mem_addT.2 (.inr rfl)⟩)).mono ?_
  ·rcases hf b hb with h1 | h1
   ·exact hd b h1 hp
   ·have:=hP.lt hp;omega
  ·rintro _ w8 ⟨rfl,S',F2,K2,⟨q1,q2,q3,q4⟩,X2,f2⟩
   have z:=hE.size
   refine ⟨rfl,X2.kept (fun b hb hx=>hh b hx hb),hK S' F2 w8 K2 ⟨q1,q2,fun x hx=>?_,Sp.addT_nd hk.gnd⟩ (hE.trans' X2 (fun i hi hx=>(hf i hx).elim id (fun h=>by omega))) (fun b hb=>?_)⟩
   ·rcases Sp.mem_addT.1 hx with hx | rfl
    ·exact q4 x (hk.giv x hx)
    ·exact q3
   ·rcases f2 b hb with h1 | h1
    ·exact hf b h1
    ·right;omega
 refine ⟨_,k3.box.cell rfl,?_⟩
 refine (c_slContains sg G t w3 k3.giv.lst (by omega)).mono ?_
 rintro _ w3 ⟨r,rfl,rfl,rfl⟩
 refine ⟨_,rfl,Kept.refl _,fun hc2=>?_,fun hc2=>?_⟩
 ·have hnG:t ∉ G:=by simpa using hc2
  have hadd:Sp.addT G t=G++[t]:=if_neg hnG
  refine ⟨k,rfl,_,k3.box.cell rfl,?_⟩
  intro q w5 h5
  obtain ⟨s1,w6,hr6,X6,cw6,k6,E6,f6⟩:=k3.appG h5 (by omega)
  have hs5:Hst w0 H1 w5 H1 w5:=hs3.here.again (Ext.new h5:Pure w3 w5).keptP
  have sgn:∀b,sg.blk b→¬ H1 b:=fun b hb=>nh b (k0.lt (.inr (.inl hb)))
  have kk:Kept H1 w5 w6:=X6.kept (fun b hb hx=>sgn b hx hb)
  refine ⟨s1,w6,hr6,kk,k,rfl,cw6,by rw [add_block];exact nh _ k0.box.lt,?_⟩
  rintro _ rfl
  have z3:=E3.size
  have z5:w3.heap.size≤w5.heap.size:=(Ext.new h5:Pure w3 w5).size
  refine fin _ (KF k s1 m sl) (by rw [hadd];exact ⟨s1,m,sl,k6,fun b=>Iff.rfl⟩) ((E3.pure (F:=F)).trans (E6.mono (fun b _ hb=>(hF b).2 hb))) (fun b hb=>(f6 b hb).imp (hF b).2 (fun h=>by omega)) ((hs5.again kk).again (Kept.setCell (by rw [add_block];exact nh _ k0.box.lt))) (fun b hb hh=>?_)
  rcases f6 b hb with h1 | h1
  ·exact nh b (k0.lt h1) hh
  ·have:=hs3.lt b hh;omega
 ·have hG:t∈G:=by simpa using hc2
  have hadd:Sp.addT G t=G:=if_pos hG
  exact fin w3 F (by rw [hadd];exact ⟨sg,m,sl,k3,hF⟩) E3.pure (fun b hb=>.inl hb) hs3.here (fun b hb=>nh b (k0.lt ((hF b).1 hb)))
end Go.Proofs
end
section
open Go Go.SE
namespace Go.Sp
def gives (L:Pool) (ts:List Int):List Int:=ts.foldl (giveT L) []
def AllOk (L:Pool) (G:List Int) (fs:List Fact):Prop:=fs.Pairwise LtF∧∀x,x∈fs↔∃t,Seen L G t∧x∈ofS L t
theorem KnowOk.nil0 (L:Pool):KnowOk L [] []:=⟨⟨by simp [wkeys],by simp [wkeys],fun i hi=>by simp at hi⟩,by simp [wkeys],by simp,by simp⟩
theorem ofS_few (L:Pool) (t:Int):(ofS L t).length≤3:=by
 unfold ofS ofR factsS
 repeat' split
 all_goals simp
end Go.Sp
namespace Go.Proofs
open Tryz
attribute [local irreducible] Calls
theorem c_ev_All {S : NP} (p : Addr) (l : Sl) (ts : List Int) (w0 : World) {L : Sp.Pool} {F : NP} (hP : PoolAt w0 p L F) (hW : Sp.Wf L) (hs : Lst S w0 1 l (tmr ts)) (hn : ts.length ≤ 1000000) :
  Calls prog 26 #[.pointer (some p),l.v] w0 (fun e w'=>∃r:Sl,e=.returned r.v∧∃fs,RetO w0 75 4 (fs.map frow) r w'∧Sp.AllOk L (Sp.gives L ts) fs∧fs.length≤200000):=by
 suffices key:∀K:Sl→WP,(∀r fs w',RetO w0 75 4 (fs.map frow) r w'→(Sp.AllOk L (Sp.gives L ts) fs∧fs.length≤200000)→K r w')→m_U (some p) l w0 K from
  w_U _ _ w0 _ (key _ (fun r fs w' h1 h2=>⟨fs,h1,h2⟩))
 intro K hK
 unfold m_U
 refine (c_ded_New p w0).mono ?_
 rintro _ w1 ⟨_,rfl,k,F1,rfl,hk1,E1,hF1⟩
 have hll:l.len=ts.length:=by rw [hs.len,tmr_len]
 refine ⟨_,rfl,fun i w'=>∃j:Nat,i=j∧j≤ts.length∧∃W FK,KnowAt w' k p (Sp.gives L (ts.take j)) W FK∧Sp.KnowOk L (Sp.gives L (ts.take j)) W∧(∀b,FK b→w0.heap.size≤b)∧Pure w0 w',fun i _=>((ts.length:Int) - i).toNat,⟨0,rfl,Nat.zero_le _,[],F1,hk1,Sp.KnowOk.nil0 L,hF1,E1⟩,?_⟩
 rintro _ wl ⟨j,rfl,hj,W,FK,hk,hok,hFK,El⟩
 unfold m_U_l1
 refine ⟨fun h=>?_,fun h=>?_⟩
 ·have hlt:=lt_of_dec hll h
  obtain ⟨a,hat,_,hv⟩:=tm_nth (hs.pure El) hlt
  refine ⟨a,hat,_,hv,?_⟩
  refine (c_ded_Add k p ts[j] wl hk (hP.pure El) hW (fun b hb hp=>by have:=hFK b hb;have:=hP.lt hp;omega) hok).mono ?_
  rintro _ w2 ⟨_,rfl,_,W',F',hk',hok',X,hF'⟩
  refine ⟨_,rfl,?_⟩
  rw [wrap_succ hlt (by omega)]
  have e:Sp.gives L (ts.take (j+1))=Sp.giveT L (Sp.gives L (ts.take j)) ts[j]:=by
   unfold Sp.gives;rw [List.take_succ_eq_append_getElem hlt,List.foldl_append];rfl
  exact ⟨⟨j+1,rfl,hlt,W',F',by rw [e];exact hk',by rw [e];exact hok',fun b hb=>(hF' b hb).elim (hFK b) (fun h=>by have:=El.size;omega),El.trans' X (fun i hi hf=>by have:=hFK i hf;omega)⟩,lt_dec hlt⟩
 have hge:=eq_of_dec hll hj h
 subst hge
 rw [List.take_length] at hk hok
 have hfew:(Sp.wkeys W).length≤65536:=by rw [Sp.wkeys_len];exact Nat.le_trans hok.toWaysOk.few hW.ok.few
 refine (c_ded_Seen k p wl hk (by omega)).mono ?_
 rintro _ w3 ⟨r3,rfl,q,hr3,hperm,_⟩
 have hql:q.length≤65536:=by rw [hperm.length_eq];exact hfew
 have hq3:r3.len=q.length:=by rw [hr3.rows.len,tmr_len]
 have E3:=El.trans hr3.pure
 have hsz3:=E3.size
 have hbl:∀j,((q.take j).flatMap (Sp.ofS L)).length≤3*j:=by
  intro j
  induction j with
  | zero=>simp
  | succ j ih =>
   by_cases hj:j<q.length
   ·rw [List.take_succ_eq_append_getElem hj,List.flatMap_append,List.length_append]
    have:=Sp.ofS_few L q[j]
    simp only [List.flatMap_cons,List.flatMap_nil,List.append_nil]
    omega
   ·rw [List.take_of_length_le (by omega)] at ih ⊢;omega
 refine ⟨r3,rfl,fun o i w'=>∃j:Nat,i=j∧j≤q.length∧Pure w3 w'∧(∀b,o.blk b→w3.heap.size≤b)∧Rws w' 75 4 o (((q.take j).flatMap (Sp.ofS L)).map frow),fun _ i _=>((q.length:Int) - i).toNat,⟨0,rfl,Nat.zero_le _,Ext.refl _,fun b h=>(by obtain ⟨a,h,_⟩:=h;cases h),Rws.nil _ _ _⟩,?_⟩
 rintro o _ w4 ⟨j,rfl,hj,E4,hown,Ro⟩
 unfold m_U_l2
 refine ⟨fun h=>?_,fun h=>?_⟩
 ·have hlt:=lt_of_dec hq3 h
  obtain ⟨a,hat,_,hv⟩:=tm_nth (hr3.rows.pure E4).lst hlt
  refine ⟨a,hat,_,hv,?_⟩
  refine (c_ev_Of (some p) q[j] w4 (hP.pure (E3.trans E4)) hW.ok).mono ?_
  rintro _ w5 ⟨r4,rfl,hr4⟩
  have b1:=hbl j
  have b2:=Sp.ofS_few L q[j]
  have E5:=E4.trans hr4.pure
  obtain ⟨s1,w6,hrun,hR,hE,hb⟩:=(Ro.pure hr4.pure).appendL (P:=prog) slT_fact (ty:=71) hr4.rows.lst (frow_sz _) (frow_one _) (by rw [List.length_map,List.length_map];omega) (by rw [List.length_map,List.length_map];unfold maxLen;omega)
  refine ⟨r4,rfl,s1,w6,hrun,?_⟩
  rw [wrap_succ hlt (by omega)]
  have:=E5.size
  refine ⟨⟨j+1,rfl,hlt,E5.trans' hE (fun i hi h=>by have:=hown i h;omega),fun b h=>(hb b h).elim (hown b) (fun h=>by omega),?_⟩,lt_dec hlt⟩
  rw [List.take_succ_eq_append_getElem hlt,List.flatMap_append,List.map_append]
  simpa using hR
 have hge:=eq_of_dec hq3 hj h
 subst hge
 rw [List.take_length] at Ro
 have hb3:=hbl q.length
 rw [List.take_length] at hb3
 generalize hfs:q.flatMap (Sp.ofS L)=fs at *
 refine (c_SortFunc o fs w4 Ro (by omega)).mono ?_
 rintro _ w5 ⟨rfl,fs',hp',hsd,R5,E5⟩
 refine ⟨rfl,?_⟩
 refine (c_Compact o fs' w5 R5 (by rw [hp'.length_eq];omega)).mono ?_
 rintro _ w6 ⟨r,rfl,R6,E6,hb6⟩
 refine ⟨r,rfl,hK r (Sp.compF fs') w6 ⟨R6,fun b hb=>by have:=hown b (hb6 b hb);omega,?_⟩ ⟨⟨Sp.compF_sorted hsd,fun x=>?_⟩,by have:=Sp.compF_len fs';have:=hp'.length_eq;omega⟩⟩
 ·exact (E3.trans E4).trans' (E5.trans E6) (fun i hi h=>by have:=hown i h;omega)
 ·rw [Sp.mem_compF,hp'.mem_iff,← hfs,List.mem_flatMap]
  constructor
  ·rintro ⟨t,ht,hx⟩
   exact ⟨t,(hok.seen_iff t).1 (hperm.mem_iff.1 ht),hx⟩
  ·rintro ⟨t,ht,hx⟩
   exact ⟨t,hperm.mem_iff.2 ((hok.seen_iff t).2 ht),hx⟩
end Go.Proofs
end
section
namespace Go.Sp
theorem find_some {L:Pool} {n:Node} {i:Nat} (h:find L n=some i):∃hi:i<L.length,L[i].node=n:=by
 unfold find at h
 rw [List.findIdx?_eq_some_iff_getElem] at h
 obtain ⟨hi,h1,_⟩:=h
 exact ⟨hi,by simpa using h1⟩
theorem make_node {L:Pool} {n:Node} (h:(make L n).2.1=0):inP (make L n).2.2 (make L n).1=true∧nodeOf (make L n).2.2 (make L n).1=n∧(check L n).2.2=0:=by
 unfold make at h ⊢
 simp only at h ⊢
 by_cases hc:(check L n).2.2≠0
 ·rw [if_pos hc] at h;exact absurd h hc
 ·rw [if_neg hc] at h ⊢
  have hc:(check L n).2.2=0:=by simpa using hc
  cases hf:find L n with
  | some i =>
   obtain ⟨hi,hn⟩:=find_some hf
   simp only
   exact ⟨inP_iff.2 ⟨by omega,by omega⟩,by rw [nodeOf_lt hi,hn],hc⟩
  | none =>
   rw [hf] at h
   simp only at h ⊢
   split at h
   ·simp at h
   ·rename_i hl
    rw [if_neg hl]
    simp only
    have hi:L.length<(L++[(⟨n,(check L n).1,(check L n).2.1⟩:Ent)]).length:=by simp
    refine ⟨inP_iff.2 ⟨by omega,by simp⟩,?_,hc⟩
    rw [nodeOf_lt hi]
    simp
theorem make_app (L:Pool) (n:Node):∃M,(make L n).2.2=L++M:=make_grows L n
theorem kidsOf_len (n:Node):(kidsOf n).length=(shapeOf n.kind).kids.toNat:=by
 unfold kidsOf
 rcases kids_le n.kind with h | h | h <;> simp [h]
inductive Good:Tree→Prop
 | mk (k f t u:Int) (x:ByteArray) (ks:List Tree) (own:ownErr ⟨k,f,t,u,x,0,0⟩ ks.length=0) (kids:∀i (hi:i<ks.length),Good ks[i]):Good (.mk k f t u x ks)
theorem looks_good (t:Tree):∀i n:Int,(looks i n t).1=0→Good t:=by
 induction t using Tree.ind with
 | h k f t u x ks ih =>
  have hA:∀(ks:List Tree),(∀i (hi:i<ks.length),∀j n:Int,(looks j n ks[i]).1=0→Good ks[i])→∀i e n:Int,(looksAll i e n ks).1=0→e=0∧∀i (hi:i<ks.length),Good ks[i]:=by
   intro ks
   induction ks with
   | nil=>intro _ i e n h;exact ⟨by simpa [looksAll] using h,fun i hi=>by simp at hi⟩
   | cons t ts iht =>
    intro hh i e n h
    unfold looksAll at h
    split at h
    ·rename_i he
     have:=iht (fun i hi=>hh (i+1) (by simpa using hi)) _ _ _ h
     refine ⟨he,fun j hj=>?_⟩
     cases j with
     | zero=>exact hh 0 (by simp) i n this.1
     | succ j=>exact this.2 j (by simpa using hj)
    ·rename_i he;exact absurd h he
  intro i n h
  unfold looks at h
  split at h
  ·cases h
  ·split at h
   ·cases h
   ·have:=hA ks ih _ _ _ h
    exact .mk _ _ _ _ _ _ this.1 this.2
theorem Good.inv {k f t u:Int} {x:ByteArray} {ks:List Tree} (h:Good (.mk k f t u x ks)):plainErr ⟨k,f,t,u,x,0,0⟩=0∧(ks.length:Int)=(shapeOf k).kids∧fieldsErr (shapeOf k) ⟨k,f,t,u,x,0,0⟩=0∧∀i (hi:i<ks.length),Good ks[i]:=by
 cases h with
 | mk _ _ _ _ _ _ own kids =>
  unfold ownErr at own
  simp only at own
  by_cases hp:plainErr ⟨k,f,t,u,x,0,0⟩=0
  ·rw [if_pos hp] at own
   by_cases hl:(ks.length:Int)≠(shapeOf k).kids
   ·rw [if_pos hl] at own;simp at own
   ·rw [if_neg hl] at own
    simp at own
    exact ⟨hp,by simpa using hl,own,kids⟩
  ·rw [if_neg hp,if_neg hp] at own;exact absurd own hp
theorem grow_tree (x:Tree):∀L,Wf L→Good x→(grow L x).2.1=0→inP (grow L x).2.2 (grow L x).1=true∧treeOf (grow L x).2.2 (grow L x).1=x:=by
 induction x using Tree.ind with
 | h k f t u x ks ih =>
  intro L hW hG h0
  obtain ⟨_,hlen,_,hk⟩:=hG.inv
  have fin:∀(n:Node) (L':Pool),Wf L'→n.kind=k→n.frm=f→n.to=t→n.num=u→n.text=x→(make L' n).2.1=0→(kidsOf n).map (treeOf L')=ks→inP (make L' n).2.2 (make L' n).1=true∧treeOf (make L' n).2.2 (make L' n).1=.mk k f t u x ks:=by
   intro n L' hW' e1 e2 e3 e4 e5 hm hks
   obtain ⟨hin,hnode,hc⟩:=make_node hm
   refine ⟨hin,?_⟩
   rw [treeOf_in (make_wf hW' n) hin,hnode,e1,e2,e3,e4,e5,← hks]
   congr 1
   refine List.map_congr_left (fun q hq=>?_)
   obtain ⟨M,hM⟩:=make_app L' n
   have hq':=(check_zero hc).2.2.2.2.1 q hq
   rw [hM]
   have hwf:=make_wf hW' n
   rw [hM] at hwf
   exact treeOf_app hwf _ q rfl hq'
  rw [grow] at h0 ⊢
  match ks,ih,hlen,hk,fin,h0 with
  | [],_,hlen,_,fin,h0 =>
   rw [growAll] at h0 ⊢
   have hz:(shapeOf k).kids=0:=by simpa using hlen.symm
   exact fin _ L hW rfl rfl rfl rfl rfl h0 (by simp [kidsOf,hz])
  | [a],ih,hlen,hk,fin,h0 =>
   have hz:(shapeOf k).kids=1:=by simpa using hlen.symm
   rw [growAll] at h0 ⊢
   by_cases ha:(grow L a).2.1≠0
   ·rw [if_pos ha] at h0;exact absurd h0 ha
   ·rw [if_neg ha] at h0 ⊢
    have ha:(grow L a).2.1=0:=by simpa using ha
    obtain ⟨i1,t1⟩:=ih 0 (by simp) L hW (hk 0 (by simp)) ha
    simp only [List.getElem_cons_zero] at i1 t1
    rw [growAll] at h0 ⊢
    exact fin _ _ (grow_wf a L hW) rfl rfl rfl rfl rfl h0 (by simp [kidsOf,hz,t1])
  | [a,b],ih,hlen,hk,fin,h0 =>
   have hz:(shapeOf k).kids=2:=by simpa using hlen.symm
   rw [growAll] at h0 ⊢
   by_cases ha:(grow L a).2.1≠0
   ·rw [if_pos ha] at h0;exact absurd h0 ha
   ·rw [if_neg ha] at h0 ⊢
    have ha:(grow L a).2.1=0:=by simpa using ha
    have hW1:=grow_wf a L hW
    obtain ⟨i1,t1⟩:=ih 0 (by simp) L hW (hk 0 (by simp)) ha
    simp only [List.getElem_cons_zero] at i1 t1
    rw [growAll] at h0 ⊢
    by_cases hb:(grow (grow L a).2.2 b).2.1≠0
    ·rw [if_pos hb] at h0;exact absurd h0 hb
    ·rw [if_neg hb] at h0 ⊢
     have hb:(grow (grow L a).2.2 b).2.1=0:=by simpa using hb
     have hW2:=grow_wf b _ hW1
     obtain ⟨i2,t2⟩:=ih 1 (by simp) (grow L a).2.2 hW1 (hk 1 (by simp)) hb
     simp only [List.getElem_cons_succ,List.getElem_cons_zero] at i2 t2
     obtain ⟨M,hM⟩:=(grow_facts b (grow L a).2.2 hW1.ok).2
     have t1':treeOf (grow (grow L a).2.2 b).2.2 (grow L a).1=a:=by
      rw [hM] at hW2 ⊢
      exact (treeOf_app hW2 _ _ rfl i1).trans t1
     rw [growAll] at h0 ⊢
     exact fin _ _ hW2 rfl rfl rfl rfl rfl h0 (by simp [kidsOf,hz,t1',t2])
  | a :: b :: c :: ks,_,hlen,_,_,_ =>
   have:=kids_le k
   simp only [List.length_cons] at hlen
   omega
theorem of_tree {L:Pool} (hW:Wf L) {x:Tree} (h:(of L x).2.1=0):inP (of L x).2.2 (of L x).1=true∧treeOf (of L x).2.2 (of L x).1=x∧Good x:=by
 unfold of at h ⊢
 by_cases h1:(looks 0 0 x).1≠0
 ·rw [if_pos h1] at h;exact absurd h h1
 ·rw [if_neg h1] at h ⊢
  have hg:=looks_good x 0 0 (by simpa using h1)
  by_cases h2:(grow L x).2.1≠0
  ·rw [if_pos h2] at h;exact absurd h h2
  ·rw [if_neg h2] at h ⊢
   have:=grow_tree x L hW hg (by simpa using h2)
   exact ⟨this.1,this.2,hg⟩
end Go.Sp
end
section
namespace Go.Sp
mutual
def cnt:Tree→Nat
 | .mk _ _ _ _ _ ks=>1+cntAll ks
def cntAll:List Tree→Nat
 | []=>0
 | t :: ts=>cnt t+cntAll ts
end
mutual
def parts (most:Int):Tree→Int
 | .mk _ _ _ _ _ ks=>partsAll most 1 ks
def partsAll (most n:Int):List Tree→Int
 | []=>n
 | t :: ts=>if n≤most then partsAll most (n+parts (most - n) t) ts else n
end
theorem parts_facts (t:Tree):∀most:Int,0≤most→1≤parts most t∧parts most t≤most+1∧(parts most t≤most→(cnt t:Int)=parts most t):=by
 induction t using Tree.ind with
 | h k f tt u x ks ih =>
  have hA : ∀ (ks : List Tree), (∀ i (hi : i < ks.length), ∀ most : Int, 0 ≤ most → 1 ≤ parts most ks[i] ∧ parts most ks[i] ≤ most + 1 ∧ (parts most ks[i] ≤ most → (cnt ks[i] : Int) = parts most ks[i])) →
    ∀most n:Int,1≤n→n≤most+1→n≤partsAll most n ks∧partsAll most n ks≤most+1∧(partsAll most n ks≤most→n+(cntAll ks:Int)=partsAll most n ks):=by
   intro ks
   induction ks with
   | nil=>intro _ most n h1 h2;simp [partsAll,cntAll,h2]
   | cons t ts iht =>
    intro hh most n h1 h2
    unfold partsAll
    by_cases hn:n≤most
    ·rw [if_pos hn]
     have h0:=hh 0 (by simp) (most - n) (by omega)
     simp only [List.getElem_cons_zero] at h0
     have h3:=iht (fun i hi=>hh (i+1) (by simpa using hi)) most (n+parts (most - n) t) (by omega) (by omega)
     refine ⟨by omega,h3.2.1,fun h=>?_⟩
     have h4:=h3.2.2 h
     have h5:=h0.2.2 (by omega)
     simp only [cntAll];omega
    ·rw [if_neg hn];exact ⟨Int.le_refl _,h2,fun h=>absurd h hn⟩
  intro most hm
  have:=hA ks ih most 1 (by omega) (by omega)
  simp only [parts,cnt]
  refine ⟨this.1,this.2.1,fun h=>?_⟩
  have:=this.2.2 h
  omega
mutual
def same:Tree→Tree→Bool
 | .mk k f t u x ks,.mk k' f' t' u' x' ks'=>decide (k=k') && decide (f=f') && decide (t=t') && decide (u=u') && decide (x=x') && sameAll ks ks'
def sameAll:List Tree→List Tree→Bool
 | [],[]=>true
 | t :: ts,t' :: ts'=>same t t' && sameAll ts ts'
 | _,_=>false
end
theorem same_iff (a:Tree):∀b,same a b=true↔a=b:=by
 induction a using Tree.ind with
 | h k f t u x ks ih =>
  have hA:∀(ks:List Tree),(∀i (hi:i<ks.length),∀b,same ks[i] b=true↔ks[i]=b)→∀ks',sameAll ks ks'=true↔ks=ks':=by
   intro ks
   induction ks with
   | nil=>intro _ ks';cases ks' <;> simp [sameAll]
   | cons t ts iht =>
    intro hh ks'
    cases ks' with
    | nil=>simp [sameAll]
    | cons t' ts' =>
     have h0:=hh 0 (by simp) t'
     simp only [List.getElem_cons_zero] at h0
     simp only [sameAll,Bool.and_eq_true,h0,iht (fun i hi=>hh (i+1) (by simpa using hi)) ts',List.cons.injEq]
  intro b
  obtain ⟨k',f',t',u',x',ks'⟩:=b
  simp only [same,Bool.and_eq_true,decide_eq_true_eq,hA ks ih ks',Tree.mk.injEq]
  constructor
  ·rintro ⟨⟨⟨⟨⟨h1,h2⟩,h3⟩,h4⟩,h5⟩,h6⟩;exact ⟨h1,h2,h3,h4,h5,h6⟩
  ·rintro ⟨h1,h2,h3,h4,h5,h6⟩;exact ⟨⟨⟨⟨⟨h1,h2⟩,h3⟩,h4⟩,h5⟩,h6⟩
end Go.Sp
end
section
namespace Go.Sp
def kidT (x:Tree):List Nat→Tree
 | []=>x
 | i :: path=>match x.kids[i]? with
  | none=>noTree
  | some y=>kidT y path
def isSigned (k:Int):Bool:=(k == 1 || k == 2) || k == 4
def isTexted (k:Int):Bool:=isSigned k || k == 6
def letErr (l:Letter):Int :=
 if l.kind<1∨l.kind>7∨(l.frm≠0∧l.frm≠1)∨(isSigned l.kind=false∧l.frm≠0)∨(isTexted l.kind=false∧l.text≠⟨#[]⟩)∨(l.fake=true∧l.kind≠1∧l.kind≠4) then 110 else if l.text.size>64 then 1 else 0
def cand (x:Tree) (kind:Int) (p:List Nat):Letter :=
 ⟨kind,if isSigned kind then x.node.frm else 0,
  if isTexted kind then (kidT (kidT x p) [1,0]).node.num else if kind == 7 then (kidT x [1]).node.num else (kidT x [0,1]).node.num,
  if isTexted kind then (kidT (kidT x p) [1,1]).node.text else ⟨#[]⟩,false⟩
def withFake (l:Letter) (f:Nat):Letter:={ l with fake:=decide (f>0) }
def fits (x:Tree) (l:Letter) (f:Nat):Bool :=
 decide (letErr (withFake l f)=0) && (l.kind == 4 || decide (f≠2)) && same (letterT (withFake l f) (f % 2 == 1) (f / 2 == 1)) x
def tryFakes (x:Tree) (l:Letter):Nat→Nat→Option Letter
 | 0,_=>none
 | n+1,f=>if fits x l f then some (withFake l f) else tryFakes x l n (f+1)
def tryDeals (x:Tree) (kind:Int):List (List Nat)→Option Letter
 | []=>none
 | p :: ps=>match tryFakes x (cand x kind p) 4 0 with
  | some l=>some l
  | none=>tryDeals x kind ps
def deals:List (List Nat):=[[0],[0,1,0,0],[0,1]]
def tryKinds (x:Tree):Nat→Int→Option Letter
 | 0,_=>none
 | n+1,k=>match tryDeals x k deals with
  | some l=>some l
  | none=>tryKinds x n (k+1)
def readTree (x:Tree):Letter×Bool:=match tryKinds x 7 1 with
 | some l=>(l,true)
 | none=>(noLetter,false)
def refRead (L:Pool) (t:Int):Letter×Bool:=if inP L t=true∧¬ sizeOf L t>40 then readTree (treeOf L t) else (noLetter,false)
end Go.Sp
end
section
open Go Go.SE
open Go.IntKind renaming i64 → q6
namespace Go.Proofs
open Tryz
set_option maxRecDepth 100000
set_option maxHeartbeats 4000000
attribute [local irreducible] wpL wpX opE wpE Calls
def m_U3  (w0:World) (K:(Array Value)→WP):Prop :=
 ∀(p1:Addr) (w1:World),New w0 (.cells #[(vb false),(vb false),(vb false),ve,(vb false),(vb false),(vb false),ve,(vb false),(vb false),(vb false),ve,(vb false),(vb false),(vb false),ve,(vb false),(vb false),(vb false),ve,(vb false),(vb false),(vb false),ve,(vb false),(vb false),(vb false),ve,(vb false),(vb false),(vb false),ve] 302) p1 w1 →
 (∀j,j<32→CanW w1 (p1.add j))∧∀w2:World,w2=storeRow w1 p1 [(vb false),(vb false),(vb false),ve,(vb true),(vb true),(vb true),(vs (⟨#[112,114,111,109,105,115,101]⟩:ByteArray)),(vb true),(vb true),(vb false),(vs (⟨#[115,105,103,110]⟩:ByteArray)),(vb false),(vb false),(vb false),(vs (⟨#[97,98,111,114,116]⟩:ByteArray)),(vb true),(vb true),(vb true),(vs (⟨#[114,101,115,111,108,118,101]⟩:ByteArray)),(vb false),(vb false),(vb false),(vs (⟨#[116,111,107,101,110]⟩:ByteArray)),(vb false),(vb true),(vb false),(vs (⟨#[105,110,115,116,101,97,100]⟩:ByteArray)),(vb false),(vb false),(vb false),(vs (⟨#[102,117,108,108]⟩:ByteArray))] →
 ∃cT:Array Value,(cT.size=32∧Row w2 p1 cT.toList) ∧
 K cT w2
theorem w_U3  (w0 : World) (K : (Array Value) → WP) (h : m_U3  w0 K) :
  Calls prog 193 #[] w0 (fun e w'=>∃r1:Array Value,e=.returned (.agg r1)∧K r1 w'):=by
 unfold m_U3 at h
 refine cw (args:=[]) func193 ntmps193 (eg (sn (O:=(.cells #[(vb false),(vb false),(vb false),ve,(vb false),(vb false),(vb false),ve,(vb false),(vb false),(vb false),ve,(vb false),(vb false),(vb false),ve,(vb false),(vb false),(vb false),ve,(vb false),(vb false),(vb false),ve,(vb false),(vb false),(vb false),ve,(vb false),(vb false),(vb false),ve] 302)) (x_alloc (zeroValue302 _) rfl) ?_))
 intro p1 w1 hn2
 have h:=h p1 w1 hn2
 refine ln (eg (q0 (.agg #[(vb true),(vb true),(vb true),(vs (⟨#[112,114,111,109,105,115,101]⟩:ByteArray))]) (q0 (.agg #[(vb true),(vb true),(vb false),(vs (⟨#[115,105,103,110]⟩:ByteArray))]) (q0 (.agg #[(vb false),(vb false),(vb false),(vs (⟨#[97,98,111,114,116]⟩:ByteArray))]) (q0 (.agg #[(vb true),(vb true),(vb true),(vs (⟨#[114,101,115,111,108,118,101]⟩:ByteArray))]) (q0 (.agg #[(vb false),(vb false),(vb false),(vs (⟨#[116,111,107,101,110]⟩:ByteArray))]) (q0 (.agg #[(vb false),(vb true),(vb false),(vs (⟨#[105,110,115,116,101,97,100]⟩:ByteArray))]) (q0 (.agg #[(vb false),(vb false),(vb false),(vs (⟨#[102,117,108,108]⟩:ByteArray))]) (q0 (.agg #[(vb false),(vb false),(vb false),ve,(vb true),(vb true),(vb true),(vs (⟨#[112,114,111,109,105,115,101]⟩:ByteArray)),(vb true),(vb true),(vb false),(vs (⟨#[115,105,103,110]⟩:ByteArray)),(vb false),(vb false),(vb false),(vs (⟨#[97,98,111,114,116]⟩:ByteArray)),(vb true),(vb true),(vb true),(vs (⟨#[114,101,115,111,108,118,101]⟩:ByteArray)),(vb false),(vb false),(vb false),(vs (⟨#[116,111,107,101,110]⟩:ByteArray)),(vb false),(vb true),(vb false),(vs (⟨#[105,110,115,116,101,97,100]⟩:ByteArray)),(vb false),(vb false),(vb false),(vs (⟨#[102,117,108,108]⟩:ByteArray))]) ?_)))))))))
 obtain ⟨hp1,h⟩:=h
 refine ss (xo p1 [(vb false),(vb false),(vb false),ve,(vb true),(vb true),(vb true),(vs (⟨#[112,114,111,109,105,115,101]⟩:ByteArray)),(vb true),(vb true),(vb false),(vs (⟨#[115,105,103,110]⟩:ByteArray)),(vb false),(vb false),(vb false),(vs (⟨#[97,98,111,114,116]⟩:ByteArray)),(vb true),(vb true),(vb true),(vs (⟨#[114,101,115,111,108,118,101]⟩:ByteArray)),(vb false),(vb false),(vb false),(vs (⟨#[116,111,107,101,110]⟩:ByteArray)),(vb false),(vb true),(vb false),(vs (⟨#[105,110,115,116,101,97,100]⟩:ByteArray)),(vb false),(vb false),(vb false),(vs (⟨#[102,117,108,108]⟩:ByteArray))] (sizeOf302 _) hp1) ?_
 intro w2 hn1
 have h:=h w2 hn1
 refine ln (er ?_)
 obtain ⟨cT,hv1,h⟩:=h
 refine resG (.inl rfl) (vs:=[(.agg cT)]) (v:=(.agg cT)) results193 ⟨(RV.cellAr (A:=p1) (vs:=cT) (by kernel_rfl) (isAgg302 _) (sizeOf302 _) hv1),trivial⟩ (by kernel_rfl) ?_
 exact ⟨cT,rfl,h⟩
def m_N_j3 (aC:ByteArray) (aD:Bool) (a1:Addr) (x2:Bool) (w0:World) (H:NP) (w:World) (K:Int→WP):Prop :=
 Br x2
  (K 110 w)
  (∃v1:Bool,w.cell? (a1.add 2)=some (vb v1) ∧
  Br ((!v1) && aD)
   (∀(H6:NP) (w6:World),Hst w0 H w H6 w6 →
   K 110 w6)
   (Br (decide ((aC.size:Int)>64))
    (∀(H6:NP) (w6:World),Hst w0 H w H6 w6 →
    K 1 w6)
    (∀(H6:NP) (w6:World),Hst w0 H w H6 w6 →
    K 0 w6)))
def m_N_j2 (aC:ByteArray) (aD:Bool) (a1:Addr) (x1:Bool) (w0:World) (H:NP) (w:World) (K:Int→WP):Prop :=
 Br x1
  (K 110 w)
  (∃v2:Bool,w.cell? (a1.add 1)=some (vb v2) ∧
  ∀(H7:NP) (w7:World),Hst w0 H w H7 w7 →
  m_N_j3 aC aD a1 ((!v2) && (!(decide (aC=⟨#[]⟩)))) w0 H7 w7 K)
def m_N_j1 (aB:Int) (aC:ByteArray) (aD:Bool) (a1:Addr) (w0:World) (H:NP) (w:World) (K:Int→WP):Prop :=
 Br ((aB != 0) && (aB != 1))
  (∀(H4:NP) (w4:World),Hst w0 H w H4 w4 →
  K 110 w4)
  (∀(H4:NP) (w4:World),Hst w0 H w H4 w4 →
  ∃v3:Bool,w4.cell? a1=some (vb v3) ∧
  ∀(H8:NP) (w8:World),Hst w0 H4 w4 H8 w8 →
  m_N_j2 aC aD a1 ((!v3) && (aB != 0)) w0 H8 w8 K)
def m_N (aA aB aE:Int) (aC:ByteArray) (aD:Bool) (w0:World) (K:Int→WP):Prop :=
 Br ((decide (aA<1)) || (decide (aA>7)))
  (∀(H2:NP) (w2:World),Hst w0 None w0 H2 w2 →
  K 110 w2)
  (∀(H2:NP) (w2:World),Hst w0 None w0 H2 w2 →
  ∃C1:WP,C1 w2.drew∧∀w9,w9=w2.drew →
  (Calls prog 193 #[] w9 (fun e w10=>∃r1:Array Value,e=.returned (.agg r1)∧C1 w10∧
   Kept H2 w9 w10 ∧
   ∃efrom1 etext1 efake1:Bool,∃eword1:ByteArray,(∀w',C1 w'→(Instr.index 302 (.agg r1) (vi aA)).run prog w'=.ok (.agg #[(vb efrom1),(vb etext1),(vb efake1),(vs eword1)]) w') ∧
   ∀(p2:Addr) (w11:World),New w10 (.cells #[(vb false),(vb false),(vb false),ve] 301) p2 w11→C1 w11 ∧
   (∀j,j<4→CanW w11 (p2.add j))∧¬ H2 p2.block∧∀w12:World,w12=storeRow w11 p2 [(vb efrom1),(vb etext1),(vb efake1),(vs eword1)] →
   m_N_j1 aB aC aD p2 w0 H2 w12 K)) ∧
  (∀(p3:Addr) (w13:World),New w9 (.cells #[(vb false),(vb false),(vb false),ve] 301) p3 w13→C1 w13 ∧
  Calls prog 193 #[] w13 (fun e w14=>∃r2:Array Value,e=.returned (.agg r2)∧C1 w14∧
   Kept H2 w13 w14 ∧
   ∃efrom2 etext2 efake2:Bool,∃eword2:ByteArray,(∀w',C1 w'→(Instr.index 302 (.agg r2) (vi aA)).run prog w'=.ok (.agg #[(vb efrom2),(vb etext2),(vb efake2),(vs eword2)]) w') ∧
   (∀j,j<4→CanW w14 (p3.add j))∧¬ H2 p3.block∧∀w15:World,w15=storeRow w14 p3 [(vb efrom2),(vb etext2),(vb efake2),(vs eword2)] →
   m_N_j1 aB aC aD p3 w0 H2 w15 K)))
theorem w_N (aA aB aE : Int) (aC : ByteArray) (aD : Bool) (w0 : World) (K : Int → WP) (h : m_N aA aB aE aC aD w0 K) :
  Calls prog 142 #[(.agg #[(vi aA),(vi aB),(vu aE),(vs aC),(vb aD)])] w0 (fun e w'=>∃r3:Int,e=.returned (vi r3)∧K r3 w'):=by
 unfold m_N at h
 refine cw (args:=[(.agg #[(vi aA),(vi aB),(vu aE),(vs aC),(vb aD)])]) func142 ntmps142 ?_
 have hs:=Hst.start w0
 have hb:=HB.nil None w0
 refine eg (sn (O:=(.cells #[(vi aA),(vi aB),(vu aE),(vs aC),(vb aD)] 35)) xb ?_)
 intro p1 w1 hn1
 obtain ⟨H1,hs,hb⟩:=hs.alloc hb hn1
 refine q0 (vi 0) (ln (wpE_seq (wpE_seq ?_)))
 refine wpE_via (fun ρ wJ=>∃b1'0:Bool,∃HJ:NP,((decide (aA<1))=b1'0)∧Hst w0 None w0 HJ wJ∧HB HJ wJ [(p1,[(vi aA),(vi aB),(vu aE),(vs aC),(vb aD)],35)]∧Has ρ [(1,(vp (some p1))),(11,(vb (b1'0 || (decide (aA>7)))))]) ?_ ?_
 refine rg (q0 (vp (some p1)) (q2 (vi aA) (xl (isAgg3 _) (hb.c0 0 gZ)) (q0 (vb (decide (aA<1))) (q0 (vb (decide (aA<1))) ?_))))
 rcases bte (decide (aA<1)) with hg2 | hg2
 refine sk (yD 7 hg2) (sk (yD 7 hg2) (sk (yD 7 hg2) (q2 (vb true) (xT hg2) (ln ?_))))
 exact ⟨true,_,hg2,hs,hb,hm⟩
 refine q1 (vp (some p1)) (wy 7 hg2) (stp (v:=(vi aA)) (wy 7 hg2) (xl (isAgg3 _) (hb.c0 0 gZ)) (q1 (vb (decide (aA>7))) (wy 7 hg2) (q2 (vb (decide (aA>7))) (xF hg2) (ln ?_))))
 exact ⟨false,_,hg2,hs,hb,hm⟩
 rintro ρ w2 ⟨b1'0,H2,he0,hs,hb,hH⟩
 subst he0
 refine norm_has hH ?_
 refine th_n ?_
 refine wpE_cond (t:=((decide (aA<1)) || (decide (aA>7)))) (by kernel_rfl) (fun hc1=>?_) (fun hc1=>?_)
 have h:=h.1 hc1
 refine eg (q0 (vi 110) (ln (er (th_r ?_))))
 have h:=h H2 w2 hs
 have hs:=hs.here
 refine rs1 results142 (v:=(vi 110)) ?_
 exact ⟨110,rfl,h⟩
 have h:=h.2 hc1
 refine wpE_skip (th_n (wpE_seq ?_))
 refine wpE_joinT (fun ρ w=>∃a1:Addr,∃H:NP,Has ρ [(1,(vp (some p1))),(3,(vp (some a1)))]∧Hst w0 H w H w∧HB H w [(p1,[(vi aA),(vi aB),(vu aE),(vs aC),(vb aD)],35)]∧m_N_j1 aB aC aD a1 w0 H w K) ?_ ?_
 rintro ρ w ⟨a1,H,hH,hs,hb,h⟩
 unfold m_N_j1 at h
 refine wpE_has hH ?_
 refine wpE_seq (wpE_block (wpE_seq (wpE_seq ?_)))
 refine wpE_via (fun ρ wJ=>∃HJ:NP,Hst w0 H w HJ wJ∧HB HJ wJ [(p1,[(vi aA),(vi aB),(vu aE),(vs aC),(vb aD)],35)]∧Has ρ [(1,(vp (some p1))),(3,(vp (some a1))),(16,(vb ((aB != 0) && (aB != 1))))]) ?_ ?_
 refine rg (q0 (vp (some (p1.add 1))) (q2 (vi aB) (xl (isAgg3 _) (hb.c 0 1 gZ)) (q0 (vb (aB != 0)) (q0 (vb (aB != 0)) ?_))))
 refine wpL_join 4 (fun ρ wJ=>∃b4'0:Bool,∃HJ:NP,((aB != 0)=b4'0)∧Hst w0 H w HJ wJ∧HB HJ wJ [(p1,[(vi aA),(vi aB),(vu aE),(vs aC),(vb aD)],35)]∧Has ρ [(1,(vp (some p1))),(3,(vp (some a1))),(24,(vb (b4'0 && (aB != 1))))]) ?_ ?_
 rintro ρ w5 ⟨b4'0,H5,he0,hs,hb,hH⟩
 subst he0
 refine wpL_has hH ?_
 refine q0 (vb ((aB != 0) && (aB != 1))) (ln ?_)
 exact ⟨_,hs,hb,hm⟩
 rcases bte (aB != 0) with hg6 | hg6
 refine q1 (vp (some (p1.add 1))) (wy 20 hg6) (stp (v:=(vi aB)) (wy 20 hg6) (xl (isAgg3 _) (hb.c 0 1 gZ)) (q1 (vb (aB != 1)) (wy 20 hg6) (q2 (vb (aB != 1)) (xT hg6) (wpL_nil ?_))))
 exact ⟨true,_,hg6,hs,hb,hm⟩
 refine sk (yD 20 hg6) (sk (yD 20 hg6) (sk (yD 20 hg6) (q2 (vb false) (xF hg6) (wpL_nil ?_))))
 exact ⟨false,_,hg6,hs,hb,hm⟩
 rintro ρ w4 ⟨H4,hs,hb,hH⟩
 refine norm_has hH ?_
 refine th_n ?_
 refine wpE_cond (t:=((aB != 0) && (aB != 1))) (by kernel_rfl) (fun hc2=>?_) (fun hc2=>?_)
 have h:=h.1 hc2
 refine wpE_skip (th_n (wpE_condT' (t:=((aB != 0) && (aB != 1))) (by kernel_rfl) hc2 (eg (q0 (vi 110) (ln (er (bl_r (th_r ?_))))))))
 have h:=h H4 w4 hs
 have hs:=hs.here
 refine rs1 results142 (v:=(vi 110)) ?_
 exact ⟨110,rfl,h⟩
 have h:=h.2 hc2
 refine wpE_seq ?_
 refine wpE_joinT (fun ρ w=>∃x1:Bool,∃H:NP,Has ρ [(1,(vp (some p1))),(3,(vp (some a1))),(16,(vb x1))]∧Hst w0 H w H w∧HB H w [(p1,[(vi aA),(vi aB),(vu aE),(vs aC),(vb aD)],35)]∧m_N_j2 aC aD a1 x1 w0 H w K) ?_ ?_
 rintro ρ w ⟨x1,H,hH,hs,hb,h⟩
 unfold m_N_j2 at h
 refine wpE_has hH ?_
 refine wpE_cond (t:=x1) (by kernel_rfl) (fun hc3=>?_) (fun hc3=>?_)
 have h:=h.1 hc3
 refine wpE_skip (th_n (wpE_condT' (t:=x1) (by kernel_rfl) hc3 (eg (q0 (vi 110) (ln (er (bl_r (th_r (rs1 results142 (v:=(vi 110)) ?_)))))))))
 exact ⟨110,rfl,h⟩
 have h:=h.2 hc3
 refine wpE_seq ?_
 refine wpE_joinT (fun ρ w=>∃x2:Bool,∃H:NP,Has ρ [(1,(vp (some p1))),(3,(vp (some a1))),(16,(vb x2))]∧Hst w0 H w H w∧HB H w [(p1,[(vi aA),(vi aB),(vu aE),(vs aC),(vb aD)],35)]∧m_N_j3 aC aD a1 x2 w0 H w K) ?_ ?_
 rintro ρ w ⟨x2,H,hH,hs,hb,h⟩
 unfold m_N_j3 at h
 refine wpE_has hH ?_
 refine wpE_cond (t:=x2) (by kernel_rfl) (fun hc4=>?_) (fun hc4=>?_)
 have h:=h.1 hc4
 refine wpE_skip (th_n (wpE_condT' (t:=x2) (by kernel_rfl) hc4 (eg (q0 (vi 110) (ln (er (bl_r (th_r (rs1 results142 (v:=(vi 110)) ?_)))))))))
 exact ⟨110,rfl,h⟩
 have h:=h.2 hc4
 refine rg (q0 (vp (some (a1.add 2))) ?_)
 obtain ⟨v1,hv1,h⟩:=h
 refine q2 (vb v1) (xl (isAgg4 _) hv1) (q0 (vb (!v1)) (q0 (vb (!v1)) ?_))
 refine wpL_join 3 (fun ρ wJ=>∃b5'0:Bool,∃HJ:NP,((!v1)=b5'0)∧Hst w0 H w HJ wJ∧HB HJ wJ [(p1,[(vi aA),(vi aB),(vu aE),(vs aC),(vb aD)],35)]∧Has ρ [(1,(vp (some p1))),(47,(vb (b5'0 && aD)))]) ?_ ?_
 rintro ρ w6 ⟨b5'0,H6,he0,hs,hb,hH⟩
 subst he0
 refine wpL_has hH ?_
 refine q0 (vb ((!v1) && aD)) (ln ?_)
 refine wpE_cond (t:=((!v1) && aD)) (by kernel_rfl) (fun hc5=>?_) (fun hc5=>?_)
 have h:=h.1 hc5
 refine eg (q0 (vi 110) (ln (er (bl_r (th_r ?_)))))
 have h:=h H6 w6 hs
 have hs:=hs.here
 refine rs1 results142 (v:=(vi 110)) ?_
 exact ⟨110,rfl,h⟩
 have h:=h.2 hc5
 refine eg (q0 (vp (some (p1.add 3))) (q2 (vs aC) (xl (isAgg9 _) (hb.c 0 3 gZ)) (q0 (vi (aC.size:Int)) (q0 (vb (decide ((aC.size:Int)>64))) (q0 (vb (decide ((aC.size:Int)>64))) (ln ?_))))))
 refine wpE_cond (t:=(decide ((aC.size:Int)>64))) (by kernel_rfl) (fun hc6=>?_) (fun hc6=>?_)
 have h:=h.1 hc6
 refine eg (q0 (vi 1) (ln (er (bl_r (th_r ?_)))))
 have h:=h H6 w6 hs
 have hs:=hs.here
 refine rs1 results142 (v:=(vi 1)) ?_
 exact ⟨1,rfl,h⟩
 have h:=h.2 hc6
 refine wpE_skip (bl_n (th_n (eg (q0 (vi 0) (ln (er ?_))))))
 have h:=h H6 w6 hs
 have hs:=hs.here
 refine rs1 results142 (v:=(vi 0)) ?_
 exact ⟨0,rfl,h⟩
 rcases bte (!v1) with hg8 | hg8
 refine q1 (vp (some (p1.add 4))) (wy 44 hg8) (stp (v:=(vb aD)) (wy 44 hg8) (xl (isAgg4 _) (hb.c 0 4 gZ)) (q2 (vb aD) (xT hg8) (wpL_nil ?_)))
 exact ⟨true,_,hg8,hs,hb,hm⟩
 refine sk (yD 44 hg8) (sk (yD 44 hg8) (q2 (vb false) (xF hg8) (wpL_nil ?_)))
 exact ⟨false,_,hg8,hs,hb,hm⟩
 refine rg (q0 (vp (some (a1.add 1))) ?_)
 obtain ⟨v2,hv2,h⟩:=h
 refine q2 (vb v2) (xl (isAgg4 _) hv2) (q0 (vb (!v2)) (q0 (vb (!v2)) ?_))
 refine wpL_join 4 (fun ρ wJ=>∃b6'0:Bool,∃HJ:NP,((!v2)=b6'0)∧Hst w0 H w HJ wJ∧HB HJ wJ [(p1,[(vi aA),(vi aB),(vu aE),(vs aC),(vb aD)],35)]∧Has ρ [(1,(vp (some p1))),(3,(vp (some a1))),(40,(vb (b6'0 && (!(decide (aC=⟨#[]⟩))))))]) ?_ ?_
 rintro ρ w7 ⟨b6'0,H7,he0,hs,hb,hH⟩
 subst he0
 refine wpL_has hH ?_
 refine q0 (vb ((!v2) && (!(decide (aC=⟨#[]⟩))))) (wpL_nil ?_)
 have h:=h H7 w7 hs
 have hs:=hs.here
 refine th_n ?_
 exact ⟨((!v2) && (!(decide (aC=⟨#[]⟩)))),H7,hm,hs,hb,h⟩
 rcases bte (!v2) with hg10 | hg10
 refine q1 (vp (some (p1.add 3))) (wy 36 hg10) (stp (v:=(vs aC)) (wy 36 hg10) (xl (isAgg9 _) (hb.c 0 3 gZ)) (stp (v:=(vb (!(decide (aC=⟨#[]⟩))))) (wy 36 hg10) (x_strneq (by kernel_rfl) (by kernel_rfl)) (q2 (vb (!(decide (aC=⟨#[]⟩)))) (xT hg10) (wpL_nil ?_))))
 exact ⟨true,_,hg10,hs,hb,hm⟩
 refine sk (yD 36 hg10) (sk (yD 36 hg10) (sk (yD 36 hg10) (q2 (vb false) (xF hg10) (wpL_nil ?_))))
 exact ⟨false,_,hg10,hs,hb,hm⟩
 refine rg (q0 (vp (some a1)) ?_)
 have h:=h H4 w4 hs
 have hs:=hs.here
 obtain ⟨v3,hv3,h⟩:=h
 refine q2 (vb v3) (xl (isAgg4 _) hv3) (q0 (vb (!v3)) (q0 (vb (!v3)) ?_))
 refine wpL_join 4 (fun ρ wJ=>∃b7'0:Bool,∃HJ:NP,((!v3)=b7'0)∧Hst w0 H4 w4 HJ wJ∧HB HJ wJ [(p1,[(vi aA),(vi aB),(vu aE),(vs aC),(vb aD)],35)]∧Has ρ [(1,(vp (some p1))),(3,(vp (some a1))),(32,(vb (b7'0 && (aB != 0))))]) ?_ ?_
 rintro ρ w8 ⟨b7'0,H8,he0,hs,hb,hH⟩
 subst he0
 refine wpL_has hH ?_
 refine q0 (vb ((!v3) && (aB != 0))) (wpL_nil ?_)
 have h:=h H8 w8 hs
 have hs:=hs.here
 refine th_n ?_
 exact ⟨((!v3) && (aB != 0)),H8,hm,hs,hb,h⟩
 rcases bte (!v3) with hg12 | hg12
 refine q1 (vp (some (p1.add 1))) (wy 28 hg12) (stp (v:=(vi aB)) (wy 28 hg12) (xl (isAgg3 _) (hb.c 0 1 gZ)) (q1 (vb (aB != 0)) (wy 28 hg12) (q2 (vb (aB != 0)) (xT hg12) (wpL_nil ?_))))
 exact ⟨true,_,hg12,hs,hb,hm⟩
 refine sk (yD 28 hg12) (sk (yD 28 hg12) (sk (yD 28 hg12) (q2 (vb false) (xF hg12) (wpL_nil ?_))))
 exact ⟨false,_,hg12,hs,hb,hm⟩
 have h:=h H2 w2 hs
 have hs:=hs.here
 obtain ⟨C1,hC,h⟩:=h
 refine wpE_drawnC (fun x=>C1 x∧HB H2 x [(p1,[(vi aA),(vi aB),(vu aE),(vs aC),(vb aD)],35)]) [0,4,5] [5] (by kernel_rfl) (by kernel_rfl) (by kernel_rfl) (by kernel_rfl) ⟨hC,hb.drew⟩ ?_
 intro w9 hw9
 have h:=h w9 hw9
 have hs:Hst w0 H2 w2 H2 w9:=by rw [hw9];exact hs.drew
 have hb:HB H2 w9 [(p1,[(vi aA),(vi aB),(vu aE),(vs aC),(vb aD)],35)]:=by rw [hw9];exact hb.drew
 have hs:=hs.here
 refine qx 1 (vp (some p1)) Kp1 (qz 2 (vi aA) Kp2 (fun w' hw'=>(xl (isAgg3 _) (hw'.2.cell0 0 gZ (by kernel_rfl)))) ?_)
 refine lgo2 (k:=0) (k':=4) (by kernel_rfl) ?_ ?_
 have h:=h.1
 refine slc Kp0 call193 (h.mono ?_)
 rintro e w10 ⟨r1,rfl,hC,hk,h⟩
 refine ⟨_,rfl,.inr ⟨hC,hb.kept hk⟩,?_⟩
 obtain ⟨hs,hb⟩:=hk.hh hs hb
 refine qg 3 ?_
 obtain ⟨efrom1,etext1,efake1,eword1,hv4,h⟩:=h
 refine sy (v:=(.agg #[(vb efrom1),(vb etext1),(vb efake1),(vs eword1)])) Kp3 (fun w' hw'=>(x_index (by kernel_rfl) (by kernel_rfl) (hv4 w' hw'.1))) (lg 4 (sl_new (O:=(.cells #[(vb false),(vb false),(vb false),ve] 301)) (fun p=>.pointer (some p)) Kp4 (want0 rfl) (by kernel_rfl) (x_alloc (zeroValue301 _) rfl) ?_))
 intro p2 w11 hn3
 have h:=h p2 w11 hn3
 refine ⟨.inr ⟨h.1,hb.kept (Ext.new (F:=None) hn3).keptP⟩,?_⟩
 have h:=h.2
 have hs:=hs.again (Ext.new (F:=None) hn3).keptP
 have hb:=hb.kept (Ext.new (F:=None) hn3).keptP
 refine lg 5 ?_
 obtain ⟨hp1,hnh,h⟩:=h
 refine sl_set Kp5 (want0 rfl) (by kernel_rfl) (xo p2 [(vb efrom1),(vb etext1),(vb efake1),(vs eword1)] (sizeOf301 _) hp1) ?_
 intro w12 hn2
 have h:=h w12 hn2
 refine ⟨.inl (by kernel_rfl),?_⟩
 have hk:Kept H2 w11 w12:=by rw [hn2];exact Kept.storeRow hnh
 obtain ⟨hs,hb⟩:=hk.hh hs hb
 refine wn (th_n ?_)
 exact ⟨p2,H2,hm,hs,hb,h⟩
 have h:=h.2
 refine sl_new (O:=(.cells #[(vb false),(vb false),(vb false),ve] 301)) (fun p=>.pointer (some p)) Kp4 (want0 rfl) (by kernel_rfl) (x_alloc (zeroValue301 _) rfl) ?_
 intro p3 w13 hn5
 have h:=h p3 w13 hn5
 refine ⟨.inr ⟨h.1,hb.kept (Ext.new (F:=None) hn5).keptP⟩,?_⟩
 have h:=h.2
 have hs:=hs.again (Ext.new (F:=None) hn5).keptP
 have hb:=hb.kept (Ext.new (F:=None) hn5).keptP
 refine lg 0 ?_
 refine slc Kp0 call193 (h.mono ?_)
 rintro e w14 ⟨r2,rfl,hC,hk,h⟩
 refine ⟨_,rfl,.inr ⟨hC,hb.kept hk⟩,?_⟩
 obtain ⟨hs,hb⟩:=hk.hh hs hb
 refine qg 3 ?_
 obtain ⟨efrom2,etext2,efake2,eword2,hv5,h⟩:=h
 refine sy (v:=(.agg #[(vb efrom2),(vb etext2),(vb efake2),(vs eword2)])) Kp3 (fun w' hw'=>(x_index (by kernel_rfl) (by kernel_rfl) (hv5 w' hw'.1))) (lg 5 ?_)
 obtain ⟨hp2,hnh,h⟩:=h
 refine sl_set Kp5 (want0 rfl) (by kernel_rfl) (xo p3 [(vb efrom2),(vb etext2),(vb efake2),(vs eword2)] (sizeOf301 _) hp2) ?_
 intro w15 hn4
 have h:=h w15 hn4
 refine ⟨.inl (by kernel_rfl),?_⟩
 have hk:Kept H2 w14 w15:=by rw [hn4];exact Kept.storeRow hnh
 obtain ⟨hs,hb⟩:=hk.hh hs hb
 refine wn (th_n ?_)
 exact ⟨p3,H2,hm,hs,hb,h⟩
def s_S (s1:ByteArray):Int×Int×Int×Int×ByteArray×Sl :=
 (3,0,0,0,s1,Sl.nil)
theorem pw_S (s1 : ByteArray) (w0 : World) :
  Calls prog 198 #[(vs s1)] w0 (fun e w'=>(e=.returned (.agg #[(vi 3),(vi 0),(vi 0),(vu 0),(vs s1),Sl.nil.v]))∧Pure w0 w'):=by
 refine cw (args:=[(vs s1)]) func198 ntmps198 ?_
 have hs:=Hst.start w0
 have hb:=HB.nil None w0
 refine eg (sn (O:=(.cells #[(vi 0),(vi 0),(vi 0),(vu 0),ve,Sl.nil.v] 107)) (x_alloc (zeroValue107 _) rfl) ?_)
 intro p1 w1 hn1
 obtain ⟨H1,hs,hb⟩:=hs.alloc hb hn1
 refine ln (eg (q0 (vs s1) (q0 (.agg #[(vi 3),(vi 0),(vi 0),(vu 0),(vs s1),Sl.nil.v]) (st_set (want0 rfl) (xo p1 [(vi 3),(vi 0),(vi 0),(vu 0),(vs s1),Sl.nil.v] (sizeOf107 _) (hb.k0 0 6 gZ)) ?_))))
 intro w2 hn2
 obtain ⟨hs,hb⟩:=hb.s0 (l':=[(p1,[(vi 3),(vi 0),(vi 0),(vu 0),(vs s1),Sl.nil.v],107)]) 0 [(vi 3),(vi 0),(vi 0),(vu 0),(vs s1),Sl.nil.v] hs hn2 gZ
 refine ln (er (resG (.inl rfl) (vs:=[(.agg #[(vi 3),(vi 0),(vi 0),(vu 0),(vs s1),Sl.nil.v])]) (v:=(.agg #[(vi 3),(vi 0),(vi 0),(vu 0),(vs s1),Sl.nil.v])) results198 ⟨(rva (isAgg107 _) (sizeOf107 _) (hb.r0 0 6 gZ)),trivial⟩ (by kernel_rfl) ?_))
 exact ⟨by kernel_rfl,(Ext.refl (F:=None) _).hst hs⟩
theorem p_S (s1:ByteArray) (w0:World):Calls prog 198 #[(.string s1)] w0 (fun e w'=>e=.returned (.agg #[(.int .i64 (s_S s1).1),(.int .i64 (s_S s1).2.1),(.int .i64 (s_S s1).2.2.1),(.int .u64 (s_S s1).2.2.2.1),(.string (s_S s1).2.2.2.2.1),(s_S s1).2.2.2.2.2.v])∧Pure w0 w'):=pw_S s1 w0
def s_Z (n1:Int):Int×Int×Int×Int×ByteArray×Sl :=
 (2,0,0,n1,⟨#[]⟩,Sl.nil)
theorem pw_Z (n1 : Int) (w0 : World) :
  Calls prog 199 #[(vu n1)] w0 (fun e w'=>(e=.returned (.agg #[(vi 2),(vi 0),(vi 0),(vu n1),ve,Sl.nil.v]))∧Pure w0 w'):=by
 refine cw (args:=[(vu n1)]) func199 ntmps199 ?_
 have hs:=Hst.start w0
 have hb:=HB.nil None w0
 refine eg (sn (O:=(.cells #[(vi 0),(vi 0),(vi 0),(vu 0),ve,Sl.nil.v] 107)) (x_alloc (zeroValue107 _) rfl) ?_)
 intro p1 w1 hn1
 obtain ⟨H1,hs,hb⟩:=hs.alloc hb hn1
 refine ln (eg (q0 (vu n1) (q0 (.agg #[(vi 2),(vi 0),(vi 0),(vu n1),ve,Sl.nil.v]) (st_set (want0 rfl) (xo p1 [(vi 2),(vi 0),(vi 0),(vu n1),ve,Sl.nil.v] (sizeOf107 _) (hb.k0 0 6 gZ)) ?_))))
 intro w2 hn2
 obtain ⟨hs,hb⟩:=hb.s0 (l':=[(p1,[(vi 2),(vi 0),(vi 0),(vu n1),ve,Sl.nil.v],107)]) 0 [(vi 2),(vi 0),(vi 0),(vu n1),ve,Sl.nil.v] hs hn2 gZ
 refine ln (er (resG (.inl rfl) (vs:=[(.agg #[(vi 2),(vi 0),(vi 0),(vu n1),ve,Sl.nil.v])]) (v:=(.agg #[(vi 2),(vi 0),(vi 0),(vu n1),ve,Sl.nil.v])) results199 ⟨(rva (isAgg107 _) (sizeOf107 _) (hb.r0 0 6 gZ)),trivial⟩ (by kernel_rfl) ?_))
 exact ⟨by kernel_rfl,(Ext.refl (F:=None) _).hst hs⟩
theorem p_Z (n1:Int) (w0:World):Calls prog 199 #[(.int .u64 n1)] w0 (fun e w'=>e=.returned (.agg #[(.int .i64 (s_Z n1).1),(.int .i64 (s_Z n1).2.1),(.int .i64 (s_Z n1).2.2.1),(.int .u64 (s_Z n1).2.2.2.1),(.string (s_Z n1).2.2.2.2.1),(s_Z n1).2.2.2.2.2.v])∧Pure w0 w'):=pw_Z n1 w0
def m_V3 (aL aM:Int) (aN aO:Int) (aP:ByteArray) (aQ:Sl) (bJ bK:Int) (bL bM:Int) (bN:ByteArray) (bO:Sl) (w0:World) (K:Int→Int→Int→Int→ByteArray→Sl→WP):Prop :=
 ∀(H3:NP) (w3:World),Hst w0 None w0 H3 w3 →
 ∀(p4:Addr) (w4:World),New w3 (.cells #[(vi aL),(vi aM),(vi aN),(vu aO),(vs aP),aQ.v,(vi bJ),(vi bK),(vi bL),(vu bM),(vs bN),bO.v] 107) p4 w4 →
 ∀(w5:World),Hst w0 H3 w4 H3 w5 →
 K 4 0 0 0 ⟨#[]⟩ (Sl.mk (some p4) 2 2) w5
theorem w_V3 (aL aM : Int) (aN aO : Int) (aP : ByteArray) (aQ : Sl) (bJ bK : Int) (bL bM : Int) (bN : ByteArray) (bO : Sl) (w0 : World) (K : Int → Int → Int → Int → ByteArray → Sl → WP) (h : m_V3 aL aM aN aO aP aQ bJ bK bL bM bN bO w0 K) :
  Calls prog 197 #[(.agg #[(vi aL),(vi aM),(vi aN),(vu aO),(vs aP),aQ.v]),(.agg #[(vi bJ),(vi bK),(vi bL),(vu bM),(vs bN),bO.v])] w0 (fun e w'=>∃aF aG:Int,∃aH aI:Int,∃aJ:ByteArray,∃aK:Sl,e=.returned (.agg #[(vi aF),(vi aG),(vi aH),(vu aI),(vs aJ),aK.v])∧K aF aG aH aI aJ aK w'):=by
 unfold m_V3 at h
 refine cw (args:=[(.agg #[(vi aL),(vi aM),(vi aN),(vu aO),(vs aP),aQ.v]),(.agg #[(vi bJ),(vi bK),(vi bL),(vu bM),(vs bN),bO.v])]) func197 ntmps197 ?_
 have hs:=Hst.start w0
 have hb:=HB.nil None w0
 refine eg (sn (O:=(.cells #[(vi aL),(vi aM),(vi aN),(vu aO),(vs aP),aQ.v] 107)) xb ?_)
 intro p1 w1 hn1
 obtain ⟨H1,hs,hb⟩:=hs.alloc hb hn1
 refine sn (O:=(.cells #[(vi bJ),(vi bK),(vi bL),(vu bM),(vs bN),bO.v] 107)) xb ?_
 intro p2 w2 hn2
 obtain ⟨H2,hs,hb⟩:=hs.alloc hb hn2
 refine sn (O:=(.cells #[(vi 0),(vi 0),(vi 0),(vu 0),ve,Sl.nil.v] 107)) (x_alloc (zeroValue107 _) rfl) ?_
 intro p3 w3 hn3
 obtain ⟨H3,hs,hb⟩:=hs.alloc hb hn3
 refine ln (eg (q2 (.agg #[(vi aL),(vi aM),(vi aN),(vu aO),(vs aP),aQ.v]) (xa p1 [(vi aL),(vi aM),(vi aN),(vu aO),(vs aP),aQ.v] (isAgg107 _) (sizeOf107 _) (hb.r0 2 6 (gS (gS gZ)))) (q2 (.agg #[(vi bJ),(vi bK),(vi bL),(vu bM),(vs bN),bO.v]) (xa p2 [(vi bJ),(vi bK),(vi bL),(vu bM),(vs bN),bO.v] (isAgg107 _) (sizeOf107 _) (hb.r0 1 6 (gS gZ))) ?_)))
 have h:=h H3 w3 hs
 have hs:=hs.here
 refine st_new (O:=(.cells #[(vi aL),(vi aM),(vi aN),(vu aO),(vs aP),aQ.v,(vi bJ),(vi bK),(vi bL),(vu bM),(vs bN),bO.v] 107)) (fun p=>(Sl.mk (some p) 2 2).v) (want0 rfl) (x_buildSlice (vs:=#[(0,(.agg #[(vi aL),(vi aM),(vi aN),(vu aO),(vs aP),aQ.v])),(1,(.agg #[(vi bJ),(vi bK),(vi bL),(vu bM),(vs bN),bO.v]))]) (by kernel_rfl) (by kernel_rfl)) ?_
 intro p4 w4 hn5
 have h:=h p4 w4 hn5
 have hs:=hs.again (Ext.new (F:=None) hn5).keptP
 have hb:=hb.kept (Ext.new (F:=None) hn5).keptP
 refine q0 (.agg #[(vi 4),(vi 0),(vi 0),(vu 0),ve,(Sl.mk (some p4) 2 2).v]) (st_set (want0 rfl) (xo p3 [(vi 4),(vi 0),(vi 0),(vu 0),ve,(Sl.mk (some p4) 2 2).v] (sizeOf107 _) (hb.k0 0 6 gZ)) ?_)
 intro w5 hn4
 obtain ⟨hs,hb⟩:=hb.s0 (l':=[(p3,[(vi 4),(vi 0),(vi 0),(vu 0),ve,(Sl.mk (some p4) 2 2).v],107),(p2,[(vi bJ),(vi bK),(vi bL),(vu bM),(vs bN),bO.v],107),(p1,[(vi aL),(vi aM),(vi aN),(vu aO),(vs aP),aQ.v],107)]) 0 [(vi 4),(vi 0),(vi 0),(vu 0),ve,(Sl.mk (some p4) 2 2).v] hs hn4 gZ
 refine ln (er ?_)
 have h:=h w5 hs
 have hs:=hs.here
 refine resG (.inl rfl) (vs:=[(.agg #[(vi 4),(vi 0),(vi 0),(vu 0),ve,(Sl.mk (some p4) 2 2).v])]) (v:=(.agg #[(vi 4),(vi 0),(vi 0),(vu 0),ve,(Sl.mk (some p4) 2 2).v])) results197 ⟨(rva (isAgg107 _) (sizeOf107 _) (hb.r0 0 6 gZ)),trivial⟩ (by kernel_rfl) ?_
 exact ⟨4,0,0,0,⟨#[]⟩,(Sl.mk (some p4) 2 2),rfl,h⟩
def m_W3 (c1:Int) (text1:ByteArray) (w0:World) (K:Int→Int→Int→Int→ByteArray→Sl→WP):Prop :=
 ∀(H1:NP) (w4:World),Hst w0 None w0 H1 w4 →
 Calls prog 197 #[(.agg #[(vi 2),(vi 0),(vi 0),(vu c1),ve,Sl.nil.v]),(.agg #[(vi 3),(vi 0),(vi 0),(vu 0),(vs text1),Sl.nil.v])] w4 (fun e w5=>∃aF aG:Int,∃aH aI:Int,∃aJ:ByteArray,∃aK:Sl,e=.returned (.agg #[(vi aF),(vi aG),(vi aH),(vu aI),(vs aJ),aK.v])∧
  Kept H1 w4 w5 ∧
  Calls prog 197 #[(.agg #[(vi 3),(vi 0),(vi 0),(vu 0),(vs (⟨#[100,101,97,108]⟩:ByteArray)),Sl.nil.v]),(.agg #[(vi aF),(vi aG),(vi aH),(vu aI),(vs aJ),aK.v])] w5 (fun e w6=>∃aR aS:Int,∃aT aU:Int,∃aV:ByteArray,∃aW:Sl,e=.returned (.agg #[(vi aR),(vi aS),(vi aT),(vu aU),(vs aV),aW.v])∧
   Kept H1 w5 w6 ∧
   ∀(w7:World),Hst w0 H1 w6 H1 w7 →
   K aR aS aT aU aV aW w7))
theorem w_W3 (c1 : Int) (text1 : ByteArray) (w0 : World) (K : Int → Int → Int → Int → ByteArray → Sl → WP) (h : m_W3 c1 text1 w0 K) :
  Calls prog 194 #[(vu c1),(vs text1)] w0 (fun e w'=>∃aX aY:Int,∃aZ bA:Int,∃bB:ByteArray,∃bC:Sl,e=.returned (.agg #[(vi aX),(vi aY),(vi aZ),(vu bA),(vs bB),bC.v])∧K aX aY aZ bA bB bC w'):=by
 unfold m_W3 at h
 refine cw (args:=[(vu c1),(vs text1)]) func194 ntmps194 ?_
 have hs:=Hst.start w0
 have hb:=HB.nil None w0
 refine eg (sn (O:=(.cells #[(vi 0),(vi 0),(vi 0),(vu 0),ve,Sl.nil.v] 107)) (x_alloc (zeroValue107 _) rfl) ?_)
 intro p1 w1 hn1
 obtain ⟨H1,hs,hb⟩:=hs.alloc hb hn1
 refine ln (eg ?_)
 refine sc call198 ((p_S (⟨#[100,101,97,108]⟩:ByteArray) w1).mono ?_)
 rintro e w2 ⟨he,hE⟩
 refine ⟨(.agg #[(vi 3),(vi 0),(vi 0),(vu 0),(vs (⟨#[100,101,97,108]⟩:ByteArray)),Sl.nil.v]),he.trans (by kernel_rfl),?_⟩
 have hs:=hs.pure hE
 have hb:=hb.pure hE
 refine q0 (vu c1) ?_
 refine sc call199 ((p_Z c1 w2).mono ?_)
 rintro e w3 ⟨he,hE⟩
 refine ⟨(.agg #[(vi 2),(vi 0),(vi 0),(vu c1),ve,Sl.nil.v]),he.trans (by kernel_rfl),?_⟩
 have hs:=hs.pure hE
 have hb:=hb.pure hE
 refine q0 (vs text1) ?_
 refine sc call198 ((p_S text1 w3).mono ?_)
 rintro e w4 ⟨he,hE⟩
 refine ⟨(.agg #[(vi 3),(vi 0),(vi 0),(vu 0),(vs text1),Sl.nil.v]),he.trans (by kernel_rfl),?_⟩
 have hs:=hs.pure hE
 have hb:=hb.pure hE
 have h:=h H1 w4 hs
 have hs:=hs.here
 refine sc call197 (h.mono ?_)
 rintro e w5 ⟨aF,aG,aH,aI,aJ,aK,rfl,hk,h⟩
 refine ⟨_,rfl,?_⟩
 obtain ⟨hs,hb⟩:=hk.hh hs hb
 refine sc call197 (h.mono ?_)
 rintro e w6 ⟨aR,aS,aT,aU,aV,aW,rfl,hk,h⟩
 refine ⟨_,rfl,?_⟩
 obtain ⟨hs,hb⟩:=hk.hh hs hb
 refine ss (xo p1 [(vi aR),(vi aS),(vi aT),(vu aU),(vs aV),aW.v] (sizeOf107 _) (hb.k0 0 6 gZ)) ?_
 intro w7 hn2
 obtain ⟨hs,hb⟩:=hb.s0 (l':=[(p1,[(vi aR),(vi aS),(vi aT),(vu aU),(vs aV),aW.v],107)]) 0 [(vi aR),(vi aS),(vi aT),(vu aU),(vs aV),aW.v] hs hn2 gZ
 refine ln (er ?_)
 have h:=h w7 hs
 have hs:=hs.here
 refine resG (.inl rfl) (vs:=[(.agg #[(vi aR),(vi aS),(vi aT),(vu aU),(vs aV),aW.v])]) (v:=(.agg #[(vi aR),(vi aS),(vi aT),(vu aU),(vs aV),aW.v])) results194 ⟨(rva (isAgg107 _) (sizeOf107 _) (hb.r0 0 6 gZ)),trivial⟩ (by kernel_rfl) ?_
 exact ⟨aR,aS,aT,aU,aV,aW,rfl,h⟩
def m_X3 (from1:Int) (fake1:Bool) (bD bE:Int) (bF bG:Int) (bH:ByteArray) (bI:Sl) (w0:World) (K:Int→Int→Int→Int→ByteArray→Sl→WP):Prop :=
 ∀(H3:NP) (w3:World),Hst w0 None w0 H3 w3 →
 ∀(p3:Addr) (w4:World),New w3 (.cells #[(vi bD),(vi bE),(vi bF),(vu bG),(vs bH),bI.v] 107) p3 w4 →
 ∀(w5:World),Hst w0 H3 w4 H3 w5 →
 K (cond fake1 9 8) from1 (q6.wrap (1 - from1)) 0 ⟨#[]⟩ (Sl.mk (some p3) 1 1) w5
theorem w_X3 (from1 : Int) (fake1 : Bool) (bD bE : Int) (bF bG : Int) (bH : ByteArray) (bI : Sl) (w0 : World) (K : Int → Int → Int → Int → ByteArray → Sl → WP) (h : m_X3 from1 fake1 bD bE bF bG bH bI w0 K) :
  Calls prog 195 #[(vi from1),(vb fake1),(.agg #[(vi bD),(vi bE),(vi bF),(vu bG),(vs bH),bI.v])] w0 (fun e w'=>∃aF aG:Int,∃aH aI:Int,∃aJ:ByteArray,∃aK:Sl,e=.returned (.agg #[(vi aF),(vi aG),(vi aH),(vu aI),(vs aJ),aK.v])∧K aF aG aH aI aJ aK w'):=by
 unfold m_X3 at h
 refine cw (args:=[(vi from1),(vb fake1),(.agg #[(vi bD),(vi bE),(vi bF),(vu bG),(vs bH),bI.v])]) func195 ntmps195 ?_
 have hs:=Hst.start w0
 have hb:=HB.nil None w0
 refine eg (sn (O:=(.cells #[(vi bD),(vi bE),(vi bF),(vu bG),(vs bH),bI.v] 107)) xb ?_)
 intro p1 w1 hn1
 obtain ⟨H1,hs,hb⟩:=hs.alloc hb hn1
 refine sn (O:=(.cells #[(vi 0),(vi 0),(vi 0),(vu 0),ve,Sl.nil.v] 107)) (x_alloc (zeroValue107 _) rfl) ?_
 intro p2 w2 hn2
 obtain ⟨H2,hs,hb⟩:=hs.alloc hb hn2
 refine ln (eg (q0 (vi 8) (ln (wpE_seq (eg (q0 (vb fake1) (wpL_nil ?_)))))))
 refine th_n ?_
 refine wpE_via (fun ρ wJ=>∃b1'0:Bool,∃HJ:NP,(fake1=b1'0)∧Hst w0 None w0 HJ wJ∧HB HJ wJ [(p2,[(vi 0),(vi 0),(vi 0),(vu 0),ve,Sl.nil.v],107),(p1,[(vi bD),(vi bE),(vi bF),(vu bG),(vs bH),bI.v],107)]∧Has ρ [(0,(vi from1)),(5,(vp (some p1))),(6,(vp (some p2))),(7,(vi (cond b1'0 9 8)))]) ?_ ?_
 refine wpE_cond (t:=fake1) (by kernel_rfl) (fun hc2=>?_) (fun hc2=>?_)
 refine rg (q0 (vi 9) (ln ?_))
 exact ⟨true,_,hc2,hs,hb,hm⟩
 refine wpE_skip (th_n ?_)
 exact ⟨false,_,hc2,hs,hb,hm⟩
 rintro ρ w3 ⟨b1'0,H3,he0,hs,hb,hH⟩
 subst he0
 refine norm_has hH ?_
 refine th_n (eg (q0 (vi (cond fake1 9 8)) (q0 (vi from1) (q0 (vi from1) (q0 (vi (q6.wrap (1 - from1))) (q2 (.agg #[(vi bD),(vi bE),(vi bF),(vu bG),(vs bH),bI.v]) (xa p1 [(vi bD),(vi bE),(vi bF),(vu bG),(vs bH),bI.v] (isAgg107 _) (sizeOf107 _) (hb.r0 1 6 (gS gZ))) ?_))))))
 have h:=h H3 w3 hs
 have hs:=hs.here
 refine st_new (O:=(.cells #[(vi bD),(vi bE),(vi bF),(vu bG),(vs bH),bI.v] 107)) (fun p=>(Sl.mk (some p) 1 1).v) (want0 rfl) (x_buildSlice (vs:=#[(0,(.agg #[(vi bD),(vi bE),(vi bF),(vu bG),(vs bH),bI.v]))]) (by kernel_rfl) (by kernel_rfl)) ?_
 intro p3 w4 hn4
 have h:=h p3 w4 hn4
 have hs:=hs.again (Ext.new (F:=None) hn4).keptP
 have hb:=hb.kept (Ext.new (F:=None) hn4).keptP
 refine q0 (.agg #[(vi (cond fake1 9 8)),(vi from1),(vi (q6.wrap (1 - from1))),(vu 0),ve,(Sl.mk (some p3) 1 1).v]) (st_set (want0 rfl) (xo p2 [(vi (cond fake1 9 8)),(vi from1),(vi (q6.wrap (1 - from1))),(vu 0),ve,(Sl.mk (some p3) 1 1).v] (sizeOf107 _) (hb.k0 0 6 gZ)) ?_)
 intro w5 hn3
 obtain ⟨hs,hb⟩:=hb.s0 (l':=[(p2,[(vi (cond fake1 9 8)),(vi from1),(vi (q6.wrap (1 - from1))),(vu 0),ve,(Sl.mk (some p3) 1 1).v],107),(p1,[(vi bD),(vi bE),(vi bF),(vu bG),(vs bH),bI.v],107)]) 0 [(vi (cond fake1 9 8)),(vi from1),(vi (q6.wrap (1 - from1))),(vu 0),ve,(Sl.mk (some p3) 1 1).v] hs hn3 gZ
 refine ln (er ?_)
 have h:=h w5 hs
 have hs:=hs.here
 refine resG (.inl rfl) (vs:=[(.agg #[(vi (cond fake1 9 8)),(vi from1),(vi (q6.wrap (1 - from1))),(vu 0),ve,(Sl.mk (some p3) 1 1).v])]) (v:=(.agg #[(vi (cond fake1 9 8)),(vi from1),(vi (q6.wrap (1 - from1))),(vu 0),ve,(Sl.mk (some p3) 1 1).v])) results195 ⟨(rva (isAgg107 _) (sizeOf107 _) (hb.r0 0 6 gZ)),trivial⟩ (by kernel_rfl) ?_
 exact ⟨(cond fake1 9 8),from1,(q6.wrap (1 - from1)),0,⟨#[]⟩,(Sl.mk (some p3) 1 1),rfl,h⟩
def m_Y3 (who1 aL:Int) (aM aN aO:Int) (aP:ByteArray) (aQ:Sl) (w0:World) (K:Int→Int→Int→Int→ByteArray→Sl→WP):Prop :=
 ∀(H2:NP) (w2:World),Hst w0 None w0 H2 w2 →
 ∀(p3:Addr) (w3:World),New w2 (.cells #[(vi aL),(vi aM),(vi aN),(vu aO),(vs aP),aQ.v] 107) p3 w3 →
 ∀(w4:World),Hst w0 H2 w3 H2 w4 →
 K 7 who1 0 0 ⟨#[]⟩ (Sl.mk (some p3) 1 1) w4
theorem w_Y3 (who1 aL : Int) (aM aN aO : Int) (aP : ByteArray) (aQ : Sl) (w0 : World) (K : Int → Int → Int → Int → ByteArray → Sl → WP) (h : m_Y3 who1 aL aM aN aO aP aQ w0 K) :
  Calls prog 196 #[(vi who1),(.agg #[(vi aL),(vi aM),(vi aN),(vu aO),(vs aP),aQ.v])] w0 (fun e w'=>∃aF aG:Int,∃aH aI:Int,∃aJ:ByteArray,∃aK:Sl,e=.returned (.agg #[(vi aF),(vi aG),(vi aH),(vu aI),(vs aJ),aK.v])∧K aF aG aH aI aJ aK w'):=by
 unfold m_Y3 at h
 refine cw (args:=[(vi who1),(.agg #[(vi aL),(vi aM),(vi aN),(vu aO),(vs aP),aQ.v])]) func196 ntmps196 ?_
 have hs:=Hst.start w0
 have hb:=HB.nil None w0
 refine eg (sn (O:=(.cells #[(vi aL),(vi aM),(vi aN),(vu aO),(vs aP),aQ.v] 107)) xb ?_)
 intro p1 w1 hn1
 obtain ⟨H1,hs,hb⟩:=hs.alloc hb hn1
 refine sn (O:=(.cells #[(vi 0),(vi 0),(vi 0),(vu 0),ve,Sl.nil.v] 107)) (x_alloc (zeroValue107 _) rfl) ?_
 intro p2 w2 hn2
 obtain ⟨H2,hs,hb⟩:=hs.alloc hb hn2
 refine ln (eg (q0 (vi who1) (q2 (.agg #[(vi aL),(vi aM),(vi aN),(vu aO),(vs aP),aQ.v]) (xa p1 [(vi aL),(vi aM),(vi aN),(vu aO),(vs aP),aQ.v] (isAgg107 _) (sizeOf107 _) (hb.r0 1 6 (gS gZ))) ?_)))
 have h:=h H2 w2 hs
 have hs:=hs.here
 refine st_new (O:=(.cells #[(vi aL),(vi aM),(vi aN),(vu aO),(vs aP),aQ.v] 107)) (fun p=>(Sl.mk (some p) 1 1).v) (want0 rfl) (x_buildSlice (vs:=#[(0,(.agg #[(vi aL),(vi aM),(vi aN),(vu aO),(vs aP),aQ.v]))]) (by kernel_rfl) (by kernel_rfl)) ?_
 intro p3 w3 hn4
 have h:=h p3 w3 hn4
 have hs:=hs.again (Ext.new (F:=None) hn4).keptP
 have hb:=hb.kept (Ext.new (F:=None) hn4).keptP
 refine q0 (.agg #[(vi 7),(vi who1),(vi 0),(vu 0),ve,(Sl.mk (some p3) 1 1).v]) (st_set (want0 rfl) (xo p2 [(vi 7),(vi who1),(vi 0),(vu 0),ve,(Sl.mk (some p3) 1 1).v] (sizeOf107 _) (hb.k0 0 6 gZ)) ?_)
 intro w4 hn3
 obtain ⟨hs,hb⟩:=hb.s0 (l':=[(p2,[(vi 7),(vi who1),(vi 0),(vu 0),ve,(Sl.mk (some p3) 1 1).v],107),(p1,[(vi aL),(vi aM),(vi aN),(vu aO),(vs aP),aQ.v],107)]) 0 [(vi 7),(vi who1),(vi 0),(vu 0),ve,(Sl.mk (some p3) 1 1).v] hs hn3 gZ
 refine ln (er ?_)
 have h:=h w4 hs
 have hs:=hs.here
 refine resG (.inl rfl) (vs:=[(.agg #[(vi 7),(vi who1),(vi 0),(vu 0),ve,(Sl.mk (some p3) 1 1).v])]) (v:=(.agg #[(vi 7),(vi who1),(vi 0),(vu 0),ve,(Sl.mk (some p3) 1 1).v])) results196 ⟨(rva (isAgg107 _) (sizeOf107 _) (hb.r0 0 6 gZ)),trivial⟩ (by kernel_rfl) ?_
 exact ⟨7,who1,0,0,⟨#[]⟩,(Sl.mk (some p3) 1 1),rfl,h⟩
def m_Z3 (aA aB aE:Int) (aC:ByteArray) (aD:Bool) (w0:World) (K:Int→Int→Int→Int→ByteArray→Sl→WP):Prop :=
 ∀(H2:NP) (w2:World),Hst w0 None w0 H2 w2 →
 Calls prog 194 #[(vu aE),(vs aC)] w2 (fun e w3=>∃aF aG:Int,∃aH aI:Int,∃aJ:ByteArray,∃aK:Sl,e=.returned (.agg #[(vi aF),(vi aG),(vi aH),(vu aI),(vs aJ),aK.v])∧
  Kept H2 w2 w3 ∧
  Br (aA == 1)
   (∀(H3:NP) (w5:World),Hst w0 H2 w3 H3 w5 →
   Calls prog 195 #[(vi aB),(vb aD),(.agg #[(vi aF),(vi aG),(vi aH),(vu aI),(vs aJ),aK.v])] w5 (fun e w6=>∃aR aS:Int,∃aT aU:Int,∃aV:ByteArray,∃aW:Sl,e=.returned (.agg #[(vi aR),(vi aS),(vi aT),(vu aU),(vs aV),aW.v])∧
    Kept H3 w5 w6 ∧
    ∀(w7:World),Hst w0 H3 w6 H3 w7 →
    K aR aS aT aU aV aW w7))
   (Br (aA == 2)
    (∀(H3:NP) (w5:World),Hst w0 H2 w3 H3 w5 →
    Calls prog 196 #[(vi aB),(.agg #[(vi aF),(vi aG),(vi aH),(vu aI),(vs aJ),aK.v])] w5 (fun e w8=>∃aX aY:Int,∃aZ bA:Int,∃bB:ByteArray,∃bC:Sl,e=.returned (.agg #[(vi aX),(vi aY),(vi aZ),(vu bA),(vs bB),bC.v])∧
     Kept H3 w5 w8 ∧
     ∀(w9:World),Hst w0 H3 w8 H3 w9 →
     K aX aY aZ bA bB bC w9))
    (Br (aA == 3)
     (∀(H3:NP) (w5:World),Hst w0 H2 w3 H3 w5 →
     ∃C1:WP,C1 w5.drew∧∀w10,w10=w5.drew →
     Calls prog 198 #[(vs (⟨#[97,98,111,114,116]⟩:ByteArray))] w10 (fun e w11=>∃cU cV:Int,∃cW cX:Int,∃cY:ByteArray,∃cZ:Sl,e=.returned (.agg #[(vi cU),(vi cV),(vi cW),(vu cX),(vs cY),cZ.v])∧C1 w11∧
      Kept H3 w10 w11 ∧
      Calls prog 199 #[(vu aE)] w11 (fun e w12=>∃dA dB:Int,∃dC dD:Int,∃dE:ByteArray,∃dF:Sl,e=.returned (.agg #[(vi dA),(vi dB),(vi dC),(vu dD),(vs dE),dF.v])∧
       Kept H3 w11 w12 ∧
       Calls prog 197 #[(.agg #[(vi cU),(vi cV),(vi cW),(vu cX),(vs cY),cZ.v]),(.agg #[(vi dA),(vi dB),(vi dC),(vu dD),(vs dE),dF.v])] w12 (fun e w13=>∃dG dH:Int,∃dI dJ:Int,∃dK:ByteArray,∃dL:Sl,e=.returned (.agg #[(vi dG),(vi dH),(vi dI),(vu dJ),(vs dK),dL.v])∧
        Kept H3 w12 w13 ∧
        Calls prog 196 #[(vi 0),(.agg #[(vi dG),(vi dH),(vi dI),(vu dJ),(vs dK),dL.v])] w13 (fun e w14=>∃bP bQ:Int,∃bR bS:Int,∃bT:ByteArray,∃bU:Sl,e=.returned (.agg #[(vi bP),(vi bQ),(vi bR),(vu bS),(vs bT),bU.v])∧
         Kept H3 w13 w14 ∧
         ∀(w15:World),Hst w0 H3 w14 H3 w15 →
         K bP bQ bR bS bT bU w15)))))
     (Br (aA == 4)
      (∀(H3:NP) (w5:World),Hst w0 H2 w3 H3 w5 →
      ∃C2:WP,C2 w5.drew∧∀w16,w16=w5.drew →
      Calls prog 198 #[(vs (⟨#[114,101,115,111,108,118,101]⟩:ByteArray))] w16 (fun e w17=>∃dM dN:Int,∃dO dP:Int,∃dQ:ByteArray,∃dR:Sl,e=.returned (.agg #[(vi dM),(vi dN),(vi dO),(vu dP),(vs dQ),dR.v])∧C2 w17∧
       Kept H3 w16 w17 ∧
       Calls prog 195 #[(vi 0),(vb aD),(.agg #[(vi aF),(vi aG),(vi aH),(vu aI),(vs aJ),aK.v])] w17 (fun e w18=>∃dS dT:Int,∃dU dV:Int,∃dW:ByteArray,∃dX:Sl,e=.returned (.agg #[(vi dS),(vi dT),(vi dU),(vu dV),(vs dW),dX.v])∧C2 w18∧
        Kept H3 w17 w18 ∧
        Calls prog 195 #[(vi 1),(vb aD),(.agg #[(vi aF),(vi aG),(vi aH),(vu aI),(vs aJ),aK.v])] w18 (fun e w19=>∃dY dZ:Int,∃eA eB:Int,∃eC:ByteArray,∃eD:Sl,e=.returned (.agg #[(vi dY),(vi dZ),(vi eA),(vu eB),(vs eC),eD.v])∧C2 w19∧
         Kept H3 w18 w19 ∧
         Calls prog 197 #[(.agg #[(vi dS),(vi dT),(vi dU),(vu dV),(vs dW),dX.v]),(.agg #[(vi dY),(vi dZ),(vi eA),(vu eB),(vs eC),eD.v])] w19 (fun e w20=>∃eE eF:Int,∃eG eH:Int,∃eI:ByteArray,∃eJ:Sl,e=.returned (.agg #[(vi eE),(vi eF),(vi eG),(vu eH),(vs eI),eJ.v])∧C2 w20∧
          Kept H3 w19 w20 ∧
          Calls prog 197 #[(.agg #[(vi dM),(vi dN),(vi dO),(vu dP),(vs dQ),dR.v]),(.agg #[(vi eE),(vi eF),(vi eG),(vu eH),(vs eI),eJ.v])] w20 (fun e w21=>∃eK eL:Int,∃eM eN:Int,∃eO:ByteArray,∃eP:Sl,e=.returned (.agg #[(vi eK),(vi eL),(vi eM),(vu eN),(vs eO),eP.v])∧C2 w21∧
           Kept H3 w20 w21 ∧
           Calls prog 196 #[(vi aB),(.agg #[(vi eK),(vi eL),(vi eM),(vu eN),(vs eO),eP.v])] w21 (fun e w22=>∃bV bW:Int,∃bX bY:Int,∃bZ:ByteArray,∃cA:Sl,e=.returned (.agg #[(vi bV),(vi bW),(vi bX),(vu bY),(vs bZ),cA.v])∧
            Kept H3 w21 w22 ∧
            ∀(w23:World),Hst w0 H3 w22 H3 w23 →
            K bV bW bX bY bZ cA w23)))))))
      (Br (aA == 5)
       (∀(H3:NP) (w5:World),Hst w0 H2 w3 H3 w5 →
       ∃C3:WP,C3 w5.drew∧∀w24,w24=w5.drew →
       Calls prog 198 #[(vs (⟨#[97,98,111,114,116,101,100]⟩:ByteArray))] w24 (fun e w25=>∃eQ eR:Int,∃eS eT:Int,∃eU:ByteArray,∃eV:Sl,e=.returned (.agg #[(vi eQ),(vi eR),(vi eS),(vu eT),(vs eU),eV.v])∧C3 w25∧
        Kept H3 w24 w25 ∧
        Calls prog 199 #[(vu aE)] w25 (fun e w26=>∃eW eX:Int,∃eY eZ:Int,∃fA:ByteArray,∃fB:Sl,e=.returned (.agg #[(vi eW),(vi eX),(vi eY),(vu eZ),(vs fA),fB.v])∧
         Kept H3 w25 w26 ∧
         Calls prog 197 #[(.agg #[(vi eQ),(vi eR),(vi eS),(vu eT),(vs eU),eV.v]),(.agg #[(vi eW),(vi eX),(vi eY),(vu eZ),(vs fA),fB.v])] w26 (fun e w27=>∃fC fD:Int,∃fE fF:Int,∃fG:ByteArray,∃fH:Sl,e=.returned (.agg #[(vi fC),(vi fD),(vi fE),(vu fF),(vs fG),fH.v])∧
          Kept H3 w26 w27 ∧
          Calls prog 196 #[(vi 2),(.agg #[(vi fC),(vi fD),(vi fE),(vu fF),(vs fG),fH.v])] w27 (fun e w28=>∃cB cC:Int,∃cD cE:Int,∃cF:ByteArray,∃cG:Sl,e=.returned (.agg #[(vi cB),(vi cC),(vi cD),(vu cE),(vs cF),cG.v])∧
           Kept H3 w27 w28 ∧
           ∀(w29:World),Hst w0 H3 w28 H3 w29 →
           K cB cC cD cE cF cG w29)))))
       (Br (aA == 6)
        (∀(H3:NP) (w5:World),Hst w0 H2 w3 H3 w5 →
        ∃C4:WP,C4 w5.drew∧∀w30,w30=w5.drew →
        Calls prog 198 #[(vs (⟨#[105,110,115,116,101,97,100]⟩:ByteArray))] w30 (fun e w31=>∃fI fJ:Int,∃fK fL:Int,∃fM:ByteArray,∃fN:Sl,e=.returned (.agg #[(vi fI),(vi fJ),(vi fK),(vu fL),(vs fM),fN.v])∧C4 w31∧
         Kept H3 w30 w31 ∧
         Calls prog 197 #[(.agg #[(vi fI),(vi fJ),(vi fK),(vu fL),(vs fM),fN.v]),(.agg #[(vi aF),(vi aG),(vi aH),(vu aI),(vs aJ),aK.v])] w31 (fun e w32=>∃fO fP:Int,∃fQ fR:Int,∃fS:ByteArray,∃fT:Sl,e=.returned (.agg #[(vi fO),(vi fP),(vi fQ),(vu fR),(vs fS),fT.v])∧
          Kept H3 w31 w32 ∧
          Calls prog 196 #[(vi 2),(.agg #[(vi fO),(vi fP),(vi fQ),(vu fR),(vs fS),fT.v])] w32 (fun e w33=>∃cH cI:Int,∃cJ cK:Int,∃cL:ByteArray,∃cM:Sl,e=.returned (.agg #[(vi cH),(vi cI),(vi cJ),(vu cK),(vs cL),cM.v])∧
           Kept H3 w32 w33 ∧
           ∀(w34:World),Hst w0 H3 w33 H3 w34 →
           K cH cI cJ cK cL cM w34))))
        (∀(H3:NP) (w5:World),Hst w0 H2 w3 H3 w5 →
        ∃C5:WP,C5 w5.drew∧∀w35,w35=w5.drew →
        Calls prog 198 #[(vs (⟨#[102,117,108,108]⟩:ByteArray))] w35 (fun e w36=>∃fU fV:Int,∃fW fX:Int,∃fY:ByteArray,∃fZ:Sl,e=.returned (.agg #[(vi fU),(vi fV),(vi fW),(vu fX),(vs fY),fZ.v])∧C5 w36∧
         Kept H3 w35 w36 ∧
         Calls prog 199 #[(vu aE)] w36 (fun e w37=>∃gA gB:Int,∃gC gD:Int,∃gE:ByteArray,∃gF:Sl,e=.returned (.agg #[(vi gA),(vi gB),(vi gC),(vu gD),(vs gE),gF.v])∧
          Kept H3 w36 w37 ∧
          Calls prog 197 #[(.agg #[(vi fU),(vi fV),(vi fW),(vu fX),(vs fY),fZ.v]),(.agg #[(vi gA),(vi gB),(vi gC),(vu gD),(vs gE),gF.v])] w37 (fun e w38=>∃cN cO:Int,∃cP cQ:Int,∃cR:ByteArray,∃cS:Sl,e=.returned (.agg #[(vi cN),(vi cO),(vi cP),(vu cQ),(vs cR),cS.v])∧
           Kept H3 w37 w38 ∧
           ∀(w39:World),Hst w0 H3 w38 H3 w39 →
           K cN cO cP cQ cR cS w39))))))))))
theorem w_Z3 (aA aB aE : Int) (aC : ByteArray) (aD : Bool) (w0 : World) (K : Int → Int → Int → Int → ByteArray → Sl → WP) (h : m_Z3 aA aB aE aC aD w0 K) :
  Calls prog 143 #[(.agg #[(vi aA),(vi aB),(vu aE),(vs aC),(vb aD)])] w0 (fun e w'=>∃gG gH:Int,∃gI gJ:Int,∃gK:ByteArray,∃gL:Sl,e=.returned (.agg #[(vi gG),(vi gH),(vi gI),(vu gJ),(vs gK),gL.v])∧K gG gH gI gJ gK gL w'):=by
 unfold m_Z3 at h
 refine cw (args:=[(.agg #[(vi aA),(vi aB),(vu aE),(vs aC),(vb aD)])]) func143 ntmps143 ?_
 have hs:=Hst.start w0
 have hb:=HB.nil None w0
 refine eg (sn (O:=(.cells #[(vi aA),(vi aB),(vu aE),(vs aC),(vb aD)] 35)) xb ?_)
 intro p1 w1 hn1
 obtain ⟨H1,hs,hb⟩:=hs.alloc hb hn1
 refine sn (O:=(.cells #[(vi 0),(vi 0),(vi 0),(vu 0),ve,Sl.nil.v] 107)) (x_alloc (zeroValue107 _) rfl) ?_
 intro p2 w2 hn2
 obtain ⟨H2,hs,hb⟩:=hs.alloc hb hn2
 refine ln (eg (q0 (vp (some (p1.add 2))) (q2 (vu aE) (xl (isAgg23 _) (hb.c 1 2 (gS gZ))) (q0 (vp (some (p1.add 3))) (q2 (vs aC) (xl (isAgg9 _) (hb.c 1 3 (gS gZ))) ?_)))))
 have h:=h H2 w2 hs
 have hs:=hs.here
 refine sc call194 (h.mono ?_)
 rintro e w3 ⟨aF,aG,aH,aI,aJ,aK,rfl,hk,h⟩
 refine ⟨_,rfl,?_⟩
 obtain ⟨hs,hb⟩:=hk.hh hs hb
 refine sn (O:=(.cells #[(vi 0),(vi 0),(vi 0),(vu 0),ve,Sl.nil.v] 107)) (x_alloc (zeroValue107 _) rfl) ?_
 intro p3 w4 hn3
 obtain ⟨H3,hs,hb⟩:=hs.alloc hb hn3
 refine ss (xo p3 [(vi aF),(vi aG),(vi aH),(vu aI),(vs aJ),aK.v] (sizeOf107 _) (hb.k0 0 6 gZ)) ?_
 intro w5 hn4
 obtain ⟨hs,hb⟩:=hb.s0 (l':=[(p3,[(vi aF),(vi aG),(vi aH),(vu aI),(vs aJ),aK.v],107),(p2,[(vi 0),(vi 0),(vi 0),(vu 0),ve,Sl.nil.v],107),(p1,[(vi aA),(vi aB),(vu aE),(vs aC),(vb aD)],35)]) 0 [(vi aF),(vi aG),(vi aH),(vu aI),(vs aJ),aK.v] hs hn4 gZ
 refine ln (wpE_seq (eg (q0 (vp (some p1)) (q2 (vi aA) (xl (isAgg3 _) (hb.c0 2 (gS (gS gZ)))) (ln (wpE_block (eg ?_)))))))
 refine q0 (vb (aA == 1)) (q0 (vb (aA == 1)) (ln ?_))
 refine wpE_cond (t:=(aA == 1)) (by kernel_rfl) (fun hc1=>?_) (fun hc1=>?_)
 have h:=h.1 hc1
 refine eg (q0 (vp (some (p1.add 1))) (q2 (vi aB) (xl (isAgg3 _) (hb.c 2 1 (gS (gS gZ)))) (q0 (vp (some (p1.add 4))) (q2 (vb aD) (xl (isAgg4 _) (hb.c 2 4 (gS (gS gZ)))) (q2 (.agg #[(vi aF),(vi aG),(vi aH),(vu aI),(vs aJ),aK.v]) (xa p3 [(vi aF),(vi aG),(vi aH),(vu aI),(vs aJ),aK.v] (isAgg107 _) (sizeOf107 _) (hb.r0 0 6 gZ)) ?_)))))
 have h:=h H3 w5 hs
 have hs:=hs.here
 refine sc call195 (h.mono ?_)
 rintro e w6 ⟨aR,aS,aT,aU,aV,aW,rfl,hk,h⟩
 refine ⟨_,rfl,?_⟩
 obtain ⟨hs,hb⟩:=hk.hh hs hb
 refine ss (xo p2 [(vi aR),(vi aS),(vi aT),(vu aU),(vs aV),aW.v] (sizeOf107 _) (hb.k0 1 6 (gS gZ))) ?_
 intro w7 hn5
 obtain ⟨hs,hb⟩:=hb.s0 (l':=[(p3,[(vi aF),(vi aG),(vi aH),(vu aI),(vs aJ),aK.v],107),(p2,[(vi aR),(vi aS),(vi aT),(vu aU),(vs aV),aW.v],107),(p1,[(vi aA),(vi aB),(vu aE),(vs aC),(vb aD)],35)]) 1 [(vi aR),(vi aS),(vi aT),(vu aU),(vs aV),aW.v] hs hn5 (gS gZ)
 refine ln (er (bl_r (th_r ?_)))
 have h:=h w7 hs
 have hs:=hs.here
 refine resG (.inl rfl) (vs:=[(.agg #[(vi aR),(vi aS),(vi aT),(vu aU),(vs aV),aW.v])]) (v:=(.agg #[(vi aR),(vi aS),(vi aT),(vu aU),(vs aV),aW.v])) results143 ⟨(rva (isAgg107 _) (sizeOf107 _) (hb.r0 1 6 (gS gZ))),trivial⟩ (by kernel_rfl) ?_
 exact ⟨aR,aS,aT,aU,aV,aW,rfl,h⟩
 have h:=h.2 hc1
 refine eg (q0 (vb (aA == 2)) (q0 (vb (aA == 2)) (ln ?_)))
 refine wpE_cond (t:=(aA == 2)) (by kernel_rfl) (fun hc2=>?_) (fun hc2=>?_)
 have h:=h.1 hc2
 refine eg (q0 (vp (some (p1.add 1))) (q2 (vi aB) (xl (isAgg3 _) (hb.c 2 1 (gS (gS gZ)))) (q2 (.agg #[(vi aF),(vi aG),(vi aH),(vu aI),(vs aJ),aK.v]) (xa p3 [(vi aF),(vi aG),(vi aH),(vu aI),(vs aJ),aK.v] (isAgg107 _) (sizeOf107 _) (hb.r0 0 6 gZ)) ?_)))
 have h:=h H3 w5 hs
 have hs:=hs.here
 refine sc call196 (h.mono ?_)
 rintro e w8 ⟨aX,aY,aZ,bA,bB,bC,rfl,hk,h⟩
 refine ⟨_,rfl,?_⟩
 obtain ⟨hs,hb⟩:=hk.hh hs hb
 refine ss (xo p2 [(vi aX),(vi aY),(vi aZ),(vu bA),(vs bB),bC.v] (sizeOf107 _) (hb.k0 1 6 (gS gZ))) ?_
 intro w9 hn6
 obtain ⟨hs,hb⟩:=hb.s0 (l':=[(p3,[(vi aF),(vi aG),(vi aH),(vu aI),(vs aJ),aK.v],107),(p2,[(vi aX),(vi aY),(vi aZ),(vu bA),(vs bB),bC.v],107),(p1,[(vi aA),(vi aB),(vu aE),(vs aC),(vb aD)],35)]) 1 [(vi aX),(vi aY),(vi aZ),(vu bA),(vs bB),bC.v] hs hn6 (gS gZ)
 refine ln (er (bl_r (th_r ?_)))
 have h:=h w9 hs
 have hs:=hs.here
 refine resG (.inl rfl) (vs:=[(.agg #[(vi aX),(vi aY),(vi aZ),(vu bA),(vs bB),bC.v])]) (v:=(.agg #[(vi aX),(vi aY),(vi aZ),(vu bA),(vs bB),bC.v])) results143 ⟨(rva (isAgg107 _) (sizeOf107 _) (hb.r0 1 6 (gS gZ))),trivial⟩ (by kernel_rfl) ?_
 exact ⟨aX,aY,aZ,bA,bB,bC,rfl,h⟩
 have h:=h.2 hc2
 refine eg (q0 (vb (aA == 3)) (q0 (vb (aA == 3)) (ln ?_)))
 refine wpE_cond (t:=(aA == 3)) (by kernel_rfl) (fun hc3=>?_) (fun hc3=>?_)
 have h:=h.1 hc3
 refine wpE_seq ?_
 have h:=h H3 w5 hs
 have hs:=hs.here
 obtain ⟨C1,hC,h⟩:=h
 refine wpE_drawnC (fun x=>C1 x∧HB H3 x [(p3,[(vi aF),(vi aG),(vi aH),(vu aI),(vs aJ),aK.v],107),(p2,[(vi 0),(vi 0),(vi 0),(vu 0),ve,Sl.nil.v],107),(p1,[(vi aA),(vi aB),(vu aE),(vs aC),(vb aD)],35)]) [0,3,4,5,6] [3,4,5,6] (by kernel_rfl) (by kernel_rfl) (by kernel_rfl) (by kernel_rfl) ⟨hC,hb.drew⟩ ?_
 intro w10 hw10
 have h:=h w10 hw10
 have hs:Hst w0 H3 w5 H3 w10:=by rw [hw10];exact hs.drew
 have hb:HB H3 w10 [(p3,[(vi aF),(vi aG),(vi aH),(vu aI),(vs aJ),aK.v],107),(p2,[(vi 0),(vi 0),(vi 0),(vu 0),ve,Sl.nil.v],107),(p1,[(vi aA),(vi aB),(vu aE),(vs aC),(vb aD)],35)]:=by rw [hw10];exact hb.drew
 have hs:=hs.here
 refine qx 1 (vp (some (p1.add 2))) Kp1 (qz 2 (vu aE) Kp2 (fun w' hw'=>(xl (isAgg23 _) (hw'.2.cell 2 2 (gS (gS gZ)) (by kernel_rfl)))) (lg 0 ?_))
 refine slc Kp0 call198 (h.mono ?_)
 rintro e w11 ⟨cU,cV,cW,cX,cY,cZ,rfl,hC,hk,h⟩
 refine ⟨_,rfl,.inr ⟨hC,hb.kept hk⟩,?_⟩
 obtain ⟨hs,hb⟩:=hk.hh hs hb
 refine lg 3 ?_
 refine slc Kp3 call199 (h.mono ?_)
 rintro e w12 ⟨dA,dB,dC,dD,dE,dF,rfl,hk,h⟩
 refine ⟨_,rfl,.inl (by kernel_rfl),?_⟩
 obtain ⟨hs,hb⟩:=hk.hh hs hb
 refine lg 4 ?_
 refine slc Kp4 call197 (h.mono ?_)
 rintro e w13 ⟨dG,dH,dI,dJ,dK,dL,rfl,hk,h⟩
 refine ⟨_,rfl,.inl (by kernel_rfl),?_⟩
 obtain ⟨hs,hb⟩:=hk.hh hs hb
 refine lg 5 ?_
 refine slc Kp5 call196 (h.mono ?_)
 rintro e w14 ⟨bP,bQ,bR,bS,bT,bU,rfl,hk,h⟩
 refine ⟨_,rfl,.inl (by kernel_rfl),?_⟩
 obtain ⟨hs,hb⟩:=hk.hh hs hb
 refine lg 6 (sl_set Kp6 (want0 rfl) (by kernel_rfl) (xo p2 [(vi bP),(vi bQ),(vi bR),(vu bS),(vs bT),bU.v] (sizeOf107 _) (hb.k0 1 6 (gS gZ))) ?_)
 intro w15 hn7
 obtain ⟨hs,hb⟩:=hb.s0 (l':=[(p3,[(vi aF),(vi aG),(vi aH),(vu aI),(vs aJ),aK.v],107),(p2,[(vi bP),(vi bQ),(vi bR),(vu bS),(vs bT),bU.v],107),(p1,[(vi aA),(vi aB),(vu aE),(vs aC),(vb aD)],35)]) 1 [(vi bP),(vi bQ),(vi bR),(vu bS),(vs bT),bU.v] hs hn7 (gS gZ)
 refine ⟨.inl (by kernel_rfl),?_⟩
 refine wn (th_n (er (bl_r (th_r ?_))))
 have h:=h w15 hs
 have hs:=hs.here
 refine resG (.inl rfl) (vs:=[(.agg #[(vi bP),(vi bQ),(vi bR),(vu bS),(vs bT),bU.v])]) (v:=(.agg #[(vi bP),(vi bQ),(vi bR),(vu bS),(vs bT),bU.v])) results143 ⟨(rva (isAgg107 _) (sizeOf107 _) (hb.r0 1 6 (gS gZ))),trivial⟩ (by kernel_rfl) ?_
 exact ⟨bP,bQ,bR,bS,bT,bU,rfl,h⟩
 have h:=h.2 hc3
 refine eg (q0 (vb (aA == 4)) (q0 (vb (aA == 4)) (ln ?_)))
 refine wpE_cond (t:=(aA == 4)) (by kernel_rfl) (fun hc4=>?_) (fun hc4=>?_)
 have h:=h.1 hc4
 refine wpE_seq ?_
 have h:=h H3 w5 hs
 have hs:=hs.here
 obtain ⟨C2,hC,h⟩:=h
 refine wpE_drawnC (fun x=>C2 x∧HB H3 x [(p3,[(vi aF),(vi aG),(vi aH),(vu aI),(vs aJ),aK.v],107),(p2,[(vi 0),(vi 0),(vi 0),(vu 0),ve,Sl.nil.v],107),(p1,[(vi aA),(vi aB),(vu aE),(vs aC),(vb aD)],35)]) [2,6,10,11,12,13,14] [13,14] (by kernel_rfl) (by kernel_rfl) (by kernel_rfl) (by kernel_rfl) ⟨hC,hb.drew⟩ ?_
 intro w16 hw16
 have h:=h w16 hw16
 have hs:Hst w0 H3 w5 H3 w16:=by rw [hw16];exact hs.drew
 have hb:HB H3 w16 [(p3,[(vi aF),(vi aG),(vi aH),(vu aI),(vs aJ),aK.v],107),(p2,[(vi 0),(vi 0),(vi 0),(vu 0),ve,Sl.nil.v],107),(p1,[(vi aA),(vi aB),(vu aE),(vs aC),(vb aD)],35)]:=by rw [hw16];exact hb.drew
 have hs:=hs.here
 refine qx 0 (vp (some (p1.add 1))) Kp0 (qz 1 (vi aB) Kp1 (fun w' hw'=>(xl (isAgg3 _) (hw'.2.cell 2 1 (gS (gS gZ)) (by kernel_rfl)))) (qx 3 (vp (some (p1.add 4))) Kp3 (qz 4 (vb aD) Kp4 (fun w' hw'=>(xl (isAgg4 _) (hw'.2.cell 2 4 (gS (gS gZ)) (by kernel_rfl)))) (qz 5 (.agg #[(vi aF),(vi aG),(vi aH),(vu aI),(vs aJ),aK.v]) Kp5 (fun w' hw'=>(xa p3 [(vi aF),(vi aG),(vi aH),(vu aI),(vs aJ),aK.v] (isAgg107 _) (sizeOf107 _) (hw'.2.r0 0 6 gZ))) (qx 7 (vp (some (p1.add 4))) Kp7 (qz 8 (vb aD) Kp8 (fun w' hw'=>(xl (isAgg4 _) (hw'.2.cell 2 4 (gS (gS gZ)) (by kernel_rfl)))) (qz 9 (.agg #[(vi aF),(vi aG),(vi aH),(vu aI),(vs aJ),aK.v]) Kp9 (fun w' hw'=>(xa p3 [(vi aF),(vi aG),(vi aH),(vu aI),(vs aJ),aK.v] (isAgg107 _) (sizeOf107 _) (hw'.2.r0 0 6 gZ))) (lg 2 ?_))))))))
 refine slc Kp2 call198 (h.mono ?_)
 rintro e w17 ⟨dM,dN,dO,dP,dQ,dR,rfl,hC,hk,h⟩
 refine ⟨_,rfl,.inr ⟨hC,hb.kept hk⟩,?_⟩
 obtain ⟨hs,hb⟩:=hk.hh hs hb
 refine lg 6 ?_
 refine slc Kp6 call195 (h.mono ?_)
 rintro e w18 ⟨dS,dT,dU,dV,dW,dX,rfl,hC,hk,h⟩
 refine ⟨_,rfl,.inr ⟨hC,hb.kept hk⟩,?_⟩
 obtain ⟨hs,hb⟩:=hk.hh hs hb
 refine lg 10 ?_
 refine slc (pickA (S8 (pickS (pickS pickZ)))) call195 (h.mono ?_)
 rintro e w19 ⟨dY,dZ,eA,eB,eC,eD,rfl,hC,hk,h⟩
 refine ⟨_,rfl,.inr ⟨hC,hb.kept hk⟩,?_⟩
 obtain ⟨hs,hb⟩:=hk.hh hs hb
 refine lg 11 ?_
 refine slc (pickA (S8 (pickS (pickS (pickS pickZ))))) call197 (h.mono ?_)
 rintro e w20 ⟨eE,eF,eG,eH,eI,eJ,rfl,hC,hk,h⟩
 refine ⟨_,rfl,.inr ⟨hC,hb.kept hk⟩,?_⟩
 obtain ⟨hs,hb⟩:=hk.hh hs hb
 refine lg 12 ?_
 refine slc (pickA (S8 (S4 pickZ))) call197 (h.mono ?_)
 rintro e w21 ⟨eK,eL,eM,eN,eO,eP,rfl,hC,hk,h⟩
 refine ⟨_,rfl,.inr ⟨hC,hb.kept hk⟩,?_⟩
 obtain ⟨hs,hb⟩:=hk.hh hs hb
 refine lg 13 ?_
 refine slc (pickA (S8 (S4 (pickS pickZ)))) call196 (h.mono ?_)
 rintro e w22 ⟨bV,bW,bX,bY,bZ,cA,rfl,hk,h⟩
 refine ⟨_,rfl,.inl (by kernel_rfl),?_⟩
 obtain ⟨hs,hb⟩:=hk.hh hs hb
 refine lg 14 (sl_set (pickA (S8 (S4 (pickS (pickS pickZ))))) (want0 rfl) (by kernel_rfl) (xo p2 [(vi bV),(vi bW),(vi bX),(vu bY),(vs bZ),cA.v] (sizeOf107 _) (hb.k0 1 6 (gS gZ))) ?_)
 intro w23 hn8
 obtain ⟨hs,hb⟩:=hb.s0 (l':=[(p3,[(vi aF),(vi aG),(vi aH),(vu aI),(vs aJ),aK.v],107),(p2,[(vi bV),(vi bW),(vi bX),(vu bY),(vs bZ),cA.v],107),(p1,[(vi aA),(vi aB),(vu aE),(vs aC),(vb aD)],35)]) 1 [(vi bV),(vi bW),(vi bX),(vu bY),(vs bZ),cA.v] hs hn8 (gS gZ)
 refine ⟨.inl (by kernel_rfl),?_⟩
 refine wn (th_n (er (bl_r (th_r ?_))))
 have h:=h w23 hs
 have hs:=hs.here
 refine resG (.inl rfl) (vs:=[(.agg #[(vi bV),(vi bW),(vi bX),(vu bY),(vs bZ),cA.v])]) (v:=(.agg #[(vi bV),(vi bW),(vi bX),(vu bY),(vs bZ),cA.v])) results143 ⟨(rva (isAgg107 _) (sizeOf107 _) (hb.r0 1 6 (gS gZ))),trivial⟩ (by kernel_rfl) ?_
 exact ⟨bV,bW,bX,bY,bZ,cA,rfl,h⟩
 have h:=h.2 hc4
 refine eg (q0 (vb (aA == 5)) (q0 (vb (aA == 5)) (ln ?_)))
 refine wpE_cond (t:=(aA == 5)) (by kernel_rfl) (fun hc5=>?_) (fun hc5=>?_)
 have h:=h.1 hc5
 refine wpE_seq ?_
 have h:=h H3 w5 hs
 have hs:=hs.here
 obtain ⟨C3,hC,h⟩:=h
 refine wpE_drawnC (fun x=>C3 x∧HB H3 x [(p3,[(vi aF),(vi aG),(vi aH),(vu aI),(vs aJ),aK.v],107),(p2,[(vi 0),(vi 0),(vi 0),(vu 0),ve,Sl.nil.v],107),(p1,[(vi aA),(vi aB),(vu aE),(vs aC),(vb aD)],35)]) [0,3,4,5,6] [3,4,5,6] (by kernel_rfl) (by kernel_rfl) (by kernel_rfl) (by kernel_rfl) ⟨hC,hb.drew⟩ ?_
 intro w24 hw24
 have h:=h w24 hw24
 have hs:Hst w0 H3 w5 H3 w24:=by rw [hw24];exact hs.drew
 have hb:HB H3 w24 [(p3,[(vi aF),(vi aG),(vi aH),(vu aI),(vs aJ),aK.v],107),(p2,[(vi 0),(vi 0),(vi 0),(vu 0),ve,Sl.nil.v],107),(p1,[(vi aA),(vi aB),(vu aE),(vs aC),(vb aD)],35)]:=by rw [hw24];exact hb.drew
 have hs:=hs.here
 refine qx 1 (vp (some (p1.add 2))) Kp1 (qz 2 (vu aE) Kp2 (fun w' hw'=>(xl (isAgg23 _) (hw'.2.cell 2 2 (gS (gS gZ)) (by kernel_rfl)))) (lg 0 ?_))
 refine slc Kp0 call198 (h.mono ?_)
 rintro e w25 ⟨eQ,eR,eS,eT,eU,eV,rfl,hC,hk,h⟩
 refine ⟨_,rfl,.inr ⟨hC,hb.kept hk⟩,?_⟩
 obtain ⟨hs,hb⟩:=hk.hh hs hb
 refine lg 3 ?_
 refine slc Kp3 call199 (h.mono ?_)
 rintro e w26 ⟨eW,eX,eY,eZ,fA,fB,rfl,hk,h⟩
 refine ⟨_,rfl,.inl (by kernel_rfl),?_⟩
 obtain ⟨hs,hb⟩:=hk.hh hs hb
 refine lg 4 ?_
 refine slc Kp4 call197 (h.mono ?_)
 rintro e w27 ⟨fC,fD,fE,fF,fG,fH,rfl,hk,h⟩
 refine ⟨_,rfl,.inl (by kernel_rfl),?_⟩
 obtain ⟨hs,hb⟩:=hk.hh hs hb
 refine lg 5 ?_
 refine slc Kp5 call196 (h.mono ?_)
 rintro e w28 ⟨cB,cC,cD,cE,cF,cG,rfl,hk,h⟩
 refine ⟨_,rfl,.inl (by kernel_rfl),?_⟩
 obtain ⟨hs,hb⟩:=hk.hh hs hb
 refine lg 6 (sl_set Kp6 (want0 rfl) (by kernel_rfl) (xo p2 [(vi cB),(vi cC),(vi cD),(vu cE),(vs cF),cG.v] (sizeOf107 _) (hb.k0 1 6 (gS gZ))) ?_)
 intro w29 hn9
 obtain ⟨hs,hb⟩:=hb.s0 (l':=[(p3,[(vi aF),(vi aG),(vi aH),(vu aI),(vs aJ),aK.v],107),(p2,[(vi cB),(vi cC),(vi cD),(vu cE),(vs cF),cG.v],107),(p1,[(vi aA),(vi aB),(vu aE),(vs aC),(vb aD)],35)]) 1 [(vi cB),(vi cC),(vi cD),(vu cE),(vs cF),cG.v] hs hn9 (gS gZ)
 refine ⟨.inl (by kernel_rfl),?_⟩
 refine wn (th_n (er (bl_r (th_r ?_))))
 have h:=h w29 hs
 have hs:=hs.here
 refine resG (.inl rfl) (vs:=[(.agg #[(vi cB),(vi cC),(vi cD),(vu cE),(vs cF),cG.v])]) (v:=(.agg #[(vi cB),(vi cC),(vi cD),(vu cE),(vs cF),cG.v])) results143 ⟨(rva (isAgg107 _) (sizeOf107 _) (hb.r0 1 6 (gS gZ))),trivial⟩ (by kernel_rfl) ?_
 exact ⟨cB,cC,cD,cE,cF,cG,rfl,h⟩
 have h:=h.2 hc5
 refine eg (q0 (vb (aA == 6)) (q0 (vb (aA == 6)) (ln ?_)))
 refine wpE_cond (t:=(aA == 6)) (by kernel_rfl) (fun hc6=>?_) (fun hc6=>?_)
 have h:=h.1 hc6
 refine wpE_seq ?_
 have h:=h H3 w5 hs
 have hs:=hs.here
 obtain ⟨C4,hC,h⟩:=h
 refine wpE_drawnC (fun x=>C4 x∧HB H3 x [(p3,[(vi aF),(vi aG),(vi aH),(vu aI),(vs aJ),aK.v],107),(p2,[(vi 0),(vi 0),(vi 0),(vu 0),ve,Sl.nil.v],107),(p1,[(vi aA),(vi aB),(vu aE),(vs aC),(vb aD)],35)]) [0,2,3,4] [2,3,4] (by kernel_rfl) (by kernel_rfl) (by kernel_rfl) (by kernel_rfl) ⟨hC,hb.drew⟩ ?_
 intro w30 hw30
 have h:=h w30 hw30
 have hs:Hst w0 H3 w5 H3 w30:=by rw [hw30];exact hs.drew
 have hb:HB H3 w30 [(p3,[(vi aF),(vi aG),(vi aH),(vu aI),(vs aJ),aK.v],107),(p2,[(vi 0),(vi 0),(vi 0),(vu 0),ve,Sl.nil.v],107),(p1,[(vi aA),(vi aB),(vu aE),(vs aC),(vb aD)],35)]:=by rw [hw30];exact hb.drew
 have hs:=hs.here
 refine qz 1 (.agg #[(vi aF),(vi aG),(vi aH),(vu aI),(vs aJ),aK.v]) Kp1 (fun w' hw'=>(xa p3 [(vi aF),(vi aG),(vi aH),(vu aI),(vs aJ),aK.v] (isAgg107 _) (sizeOf107 _) (hw'.2.r0 0 6 gZ))) (lg 0 ?_)
 refine slc Kp0 call198 (h.mono ?_)
 rintro e w31 ⟨fI,fJ,fK,fL,fM,fN,rfl,hC,hk,h⟩
 refine ⟨_,rfl,.inr ⟨hC,hb.kept hk⟩,?_⟩
 obtain ⟨hs,hb⟩:=hk.hh hs hb
 refine lg 2 ?_
 refine slc Kp2 call197 (h.mono ?_)
 rintro e w32 ⟨fO,fP,fQ,fR,fS,fT,rfl,hk,h⟩
 refine ⟨_,rfl,.inl (by kernel_rfl),?_⟩
 obtain ⟨hs,hb⟩:=hk.hh hs hb
 refine lg 3 ?_
 refine slc Kp3 call196 (h.mono ?_)
 rintro e w33 ⟨cH,cI,cJ,cK,cL,cM,rfl,hk,h⟩
 refine ⟨_,rfl,.inl (by kernel_rfl),?_⟩
 obtain ⟨hs,hb⟩:=hk.hh hs hb
 refine lg 4 (sl_set Kp4 (want0 rfl) (by kernel_rfl) (xo p2 [(vi cH),(vi cI),(vi cJ),(vu cK),(vs cL),cM.v] (sizeOf107 _) (hb.k0 1 6 (gS gZ))) ?_)
 intro w34 hn10
 obtain ⟨hs,hb⟩:=hb.s0 (l':=[(p3,[(vi aF),(vi aG),(vi aH),(vu aI),(vs aJ),aK.v],107),(p2,[(vi cH),(vi cI),(vi cJ),(vu cK),(vs cL),cM.v],107),(p1,[(vi aA),(vi aB),(vu aE),(vs aC),(vb aD)],35)]) 1 [(vi cH),(vi cI),(vi cJ),(vu cK),(vs cL),cM.v] hs hn10 (gS gZ)
 refine ⟨.inl (by kernel_rfl),?_⟩
 refine wn (th_n (er (bl_r (th_r ?_))))
 have h:=h w34 hs
 have hs:=hs.here
 refine resG (.inl rfl) (vs:=[(.agg #[(vi cH),(vi cI),(vi cJ),(vu cK),(vs cL),cM.v])]) (v:=(.agg #[(vi cH),(vi cI),(vi cJ),(vu cK),(vs cL),cM.v])) results143 ⟨(rva (isAgg107 _) (sizeOf107 _) (hb.r0 1 6 (gS gZ))),trivial⟩ (by kernel_rfl) ?_
 exact ⟨cH,cI,cJ,cK,cL,cM,rfl,h⟩
 have h:=h.2 hc6
 refine wpE_skip (bl_n (th_n (wpE_seq ?_)))
 have h:=h H3 w5 hs
 have hs:=hs.here
 obtain ⟨C5,hC,h⟩:=h
 refine wpE_drawnC (fun x=>C5 x∧HB H3 x [(p3,[(vi aF),(vi aG),(vi aH),(vu aI),(vs aJ),aK.v],107),(p2,[(vi 0),(vi 0),(vi 0),(vu 0),ve,Sl.nil.v],107),(p1,[(vi aA),(vi aB),(vu aE),(vs aC),(vb aD)],35)]) [0,3,4,5] [3,4,5] (by kernel_rfl) (by kernel_rfl) (by kernel_rfl) (by kernel_rfl) ⟨hC,hb.drew⟩ ?_
 intro w35 hw35
 have h:=h w35 hw35
 have hs:Hst w0 H3 w5 H3 w35:=by rw [hw35];exact hs.drew
 have hb:HB H3 w35 [(p3,[(vi aF),(vi aG),(vi aH),(vu aI),(vs aJ),aK.v],107),(p2,[(vi 0),(vi 0),(vi 0),(vu 0),ve,Sl.nil.v],107),(p1,[(vi aA),(vi aB),(vu aE),(vs aC),(vb aD)],35)]:=by rw [hw35];exact hb.drew
 have hs:=hs.here
 refine qx 1 (vp (some (p1.add 2))) Kp1 (qz 2 (vu aE) Kp2 (fun w' hw'=>(xl (isAgg23 _) (hw'.2.cell 2 2 (gS (gS gZ)) (by kernel_rfl)))) (lg 0 ?_))
 refine slc Kp0 call198 (h.mono ?_)
 rintro e w36 ⟨fU,fV,fW,fX,fY,fZ,rfl,hC,hk,h⟩
 refine ⟨_,rfl,.inr ⟨hC,hb.kept hk⟩,?_⟩
 obtain ⟨hs,hb⟩:=hk.hh hs hb
 refine lg 3 ?_
 refine slc Kp3 call199 (h.mono ?_)
 rintro e w37 ⟨gA,gB,gC,gD,gE,gF,rfl,hk,h⟩
 refine ⟨_,rfl,.inl (by kernel_rfl),?_⟩
 obtain ⟨hs,hb⟩:=hk.hh hs hb
 refine lg 4 ?_
 refine slc Kp4 call197 (h.mono ?_)
 rintro e w38 ⟨cN,cO,cP,cQ,cR,cS,rfl,hk,h⟩
 refine ⟨_,rfl,.inl (by kernel_rfl),?_⟩
 obtain ⟨hs,hb⟩:=hk.hh hs hb
 refine lg 5 (sl_set Kp5 (want0 rfl) (by kernel_rfl) (xo p2 [(vi cN),(vi cO),(vi cP),(vu cQ),(vs cR),cS.v] (sizeOf107 _) (hb.k0 1 6 (gS gZ))) ?_)
 intro w39 hn11
 obtain ⟨hs,hb⟩:=hb.s0 (l':=[(p3,[(vi aF),(vi aG),(vi aH),(vu aI),(vs aJ),aK.v],107),(p2,[(vi cN),(vi cO),(vi cP),(vu cQ),(vs cR),cS.v],107),(p1,[(vi aA),(vi aB),(vu aE),(vs aC),(vb aD)],35)]) 1 [(vi cN),(vi cO),(vi cP),(vu cQ),(vs cR),cS.v] hs hn11 (gS gZ)
 refine ⟨.inl (by kernel_rfl),?_⟩
 refine wn (th_n (er ?_))
 have h:=h w39 hs
 have hs:=hs.here
 refine resG (.inl rfl) (vs:=[(.agg #[(vi cN),(vi cO),(vi cP),(vu cQ),(vs cR),cS.v])]) (v:=(.agg #[(vi cN),(vi cO),(vi cP),(vu cQ),(vs cR),cS.v])) results143 ⟨(rva (isAgg107 _) (sizeOf107 _) (hb.r0 1 6 (gS gZ))),trivial⟩ (by kernel_rfl) ?_
 exact ⟨cN,cO,cP,cQ,cR,cS,rfl,h⟩
def m_A4 (p1:Option Addr) (aA aB aE:Int) (aC:ByteArray) (aD:Bool) (w0:World) (K:Int→Int→WP):Prop :=
 ∀(H1:NP) (w1:World),Hst w0 None w0 H1 w1 →
 Calls prog 142 #[(.agg #[(vi aA),(vi aB),(vu aE),(vs aC),(vb aD)])] w1 (fun e w2=>∃r1:Int,e=.returned (vi r1)∧
  Kept H1 w1 w2 ∧
  Br (r1 != 0)
   (K 0 r1 w2)
   (Br (Option.isNone p1)
    (K 0 2 w2)
    (Calls prog 143 #[(.agg #[(vi aA),(vi aB),(vu aE),(vs aC),(vb aD)])] w2 (fun e w3=>∃aF aG:Int,∃aH aI:Int,∃aJ:ByteArray,∃aK:Sl,e=.returned (.agg #[(vi aF),(vi aG),(vi aH),(vu aI),(vs aJ),aK.v])∧
     Kept H1 w2 w3 ∧
     Calls prog 77 #[(vp p1),(.agg #[(vi aF),(vi aG),(vi aH),(vu aI),(vs aJ),aK.v])] w3 (fun e w4=>∃r2 r3:Int,e=.returned (.tuple #[(vi r2),(vi r3)])∧
      Kept H1 w3 w4 ∧
      K r2 r3 w4)))))
theorem w_A4 (p1 : Option Addr) (aA aB aE : Int) (aC : ByteArray) (aD : Bool) (w0 : World) (K : Int → Int → WP) (h : m_A4 p1 aA aB aE aC aD w0 K) :
  Calls prog 76 #[(vp p1),(.agg #[(vi aA),(vi aB),(vu aE),(vs aC),(vb aD)])] w0 (fun e w'=>∃r4 r5:Int,e=.returned (.tuple #[(vi r4),(vi r5)])∧K r4 r5 w'):=by
 unfold m_A4 at h
 refine cw (args:=[(vp p1),(.agg #[(vi aA),(vi aB),(vu aE),(vs aC),(vb aD)])]) func76 ntmps76 ?_
 have hs:=Hst.start w0
 have hb:=HB.nil None w0
 refine eg (sn (O:=(.cells #[(vi aA),(vi aB),(vu aE),(vs aC),(vb aD)] 35)) xb ?_)
 intro p2 w1 hn1
 obtain ⟨H1,hs,hb⟩:=hs.alloc hb hn1
 refine q0 (vi 0) (q0 (vi 0) (ln (wpE_seq (eg (q2 (.agg #[(vi aA),(vi aB),(vu aE),(vs aC),(vb aD)]) (xa p2 [(vi aA),(vi aB),(vu aE),(vs aC),(vb aD)] (isAgg35 _) (sizeOf35 _) (hb.r0 0 5 gZ)) ?_)))))
 have h:=h H1 w1 hs
 have hs:=hs.here
 refine sc call142 (h.mono ?_)
 rintro e w2 ⟨r1,rfl,hk,h⟩
 refine ⟨_,rfl,?_⟩
 obtain ⟨hs,hb⟩:=hk.hh hs hb
 refine q0 (vi r1) (ln (eg (q0 (vi r1) (q0 (vb (r1 != 0)) (ln ?_)))))
 refine wpE_cond (t:=(r1 != 0)) (by kernel_rfl) (fun hc1=>?_) (fun hc1=>?_)
 have h:=h.1 hc1
 refine eg (q0 (vi r1) (q0 (vi 0) (q0 (vi r1) (ln (er (th_r (res2 (.inl rfl) results76 (v:=(vi 0)) (by kernel_rfl) (v':=(vi r1)) (by kernel_rfl) ?_)))))))
 exact ⟨0,r1,rfl,h⟩
 have h:=h.2 hc1
 refine wpE_skip (th_n (wpE_seq (eg (q0 (vp p1) (q2 (vb (Option.isNone p1)) (x_ptreq (by kernel_rfl) rfl underlying68) (ln ?_))))))
 refine wpE_cond (t:=(Option.isNone p1)) (by kernel_rfl) (fun hc2=>?_) (fun hc2=>?_)
 have h:=h.1 hc2
 refine eg (q0 (vi 0) (q0 (vi 2) (ln (er (th_r (res2 (.inl rfl) results76 (v:=(vi 0)) (by kernel_rfl) (v':=(vi 2)) (by kernel_rfl) ?_))))))
 exact ⟨0,2,rfl,h⟩
 have h:=h.2 hc2
 refine wpE_skip (th_n (eg (q0 (vp p1) (q2 (.agg #[(vi aA),(vi aB),(vu aE),(vs aC),(vb aD)]) (xa p2 [(vi aA),(vi aB),(vu aE),(vs aC),(vb aD)] (isAgg35 _) (sizeOf35 _) (hb.r0 0 5 gZ)) ?_))))
 refine sc call143 (h.mono ?_)
 rintro e w3 ⟨aF,aG,aH,aI,aJ,aK,rfl,hk,h⟩
 refine ⟨_,rfl,?_⟩
 obtain ⟨hs,hb⟩:=hk.hh hs hb
 refine sc call77 (h.mono ?_)
 rintro e w4 ⟨r2,r3,rfl,hk,h⟩
 refine ⟨_,rfl,?_⟩
 obtain ⟨hs,hb⟩:=hk.hh hs hb
 refine q0 (vi r2) (q0 (vi r3) (q0 (vi r2) (q0 (vi r3) (ln (er (res2 (.inl rfl) results76 (v:=(vi r2)) (by kernel_rfl) (v':=(vi r3)) (by kernel_rfl) ?_))))))
 exact ⟨r2,r3,rfl,h⟩
end Go.Proofs
end
section
open Go Go.SE
namespace Go.Proofs
open Tryz
attribute [local irreducible] Calls
def kindsT:Array Value:=#[.bool false,.bool false,.bool false,.string ⟨#[]⟩,.bool true,.bool true,.bool true,.string ⟨#[112,114,111,109,105,115,101]⟩,.bool true,.bool true,.bool false,.string ⟨#[115,105,103,110]⟩,.bool false,.bool false,.bool false,.string ⟨#[97,98,111,114,116]⟩,.bool true,.bool true,.bool true,.string ⟨#[114,101,115,111,108,118,101]⟩,.bool false,.bool false,.bool false,.string ⟨#[116,111,107,101,110]⟩,.bool false,.bool true,.bool false,.string ⟨#[105,110,115,116,101,97,100]⟩,.bool false,.bool false,.bool false,.string ⟨#[102,117,108,108]⟩]
theorem c_ltKinds (w:World):Calls prog 193 #[] w (fun e w'=>∃r:Array Value,e=.returned (.agg r)∧(r=kindsT∧Pure w w')):=by
 refine w_U3 w (fun r w'=>r=kindsT∧Pure w w') ?_
 unfold m_U3
 intro p1 w1 h1
 have E1:Pure w w1:=Ext.new h1
 have hp:=New.own (Ext.refl w) h1
 have b1:=Box.of_newA h1
 clear h1
 refine bx 32 b1 (by kernel_rfl) (by kernel_rfl) (fun w' b E=>?_)
 exact ⟨kindsT,⟨by kernel_rfl,b.row_eq (by kernel_rfl)⟩,rfl,E1.own hp E⟩
theorem c_chk (l : Sp.Letter) (hk : 1 ≤ l.kind ∧ l.kind ≤ 7) (p : Addr) {w0 w : World} {H : NP} {wd : ByteArray} {T : TypeId} (hB : Box w p [.bool (Sp.isSigned l.kind), .bool (Sp.isTexted l.kind), .bool (l.kind == 1 || l.kind == 4), .string wd] T) (hv : ¬ H p.block) (hE : Pure w0 w) :
  m_N_j1 l.frm l.text l.fake p w0 H w (fun x w'=>x=Sp.letErr l∧Pure w0 w'):=by
 obtain ⟨k,f,c,x,fk⟩:=l
 simp only at *
 have vis:∀{H H':NP} {w w':World},Box w p [.bool (Sp.isSigned k),.bool (Sp.isTexted k),.bool (k == 1 || k == 4),.string wd] T→¬ H p.block→Hst w0 H w H' w'→¬ H' p.block∧Box w' p [.bool (Sp.isSigned k),.bool (Sp.isTexted k),.bool (k == 1 || k == 4),.string wd] T:=fun hB hv hs=>by
  have h:=hs.disj (G:=(·=p.block)) (fun b e=>by subst e;exact ⟨hB.lt,hv⟩) _ rfl
  exact ⟨h,hB.ext hs.ext h⟩
 unfold m_N_j1
 have bad:(f≠0∧f≠1)∨(Sp.isSigned k=false∧f≠0)∨(Sp.isTexted k=false∧x≠⟨#[]⟩)∨(fk=true∧k≠1∧k≠4)→(110:Int)=Sp.letErr ⟨k,f,c,x,fk⟩:=fun h=>by
  unfold Sp.letErr;rw [if_pos]
  rcases h with h | h | h | h
  ·exact .inr (.inr (.inl h))
  ·exact .inr (.inr (.inr (.inl h)))
  ·exact .inr (.inr (.inr (.inr (.inl h))))
  ·exact .inr (.inr (.inr (.inr (.inr h))))
 refine ⟨fun hc H4 w4 hs4=>⟨bad (.inl ?_),hE.hst hs4⟩,fun hc H4 w4 hs4=>?_⟩
 ·rw [Bool.and_eq_true] at hc;exact ⟨bne_iff_ne.1 hc.1,bne_iff_ne.1 hc.2⟩
 have hf:f=0∨f=1:=by
  rw [Bool.and_eq_false_iff] at hc
  exact hc.imp (fun h=>by simpa using h) (fun h=>by simpa using h)
 obtain ⟨v4,B4⟩:=vis hB hv hs4
 have E4:=hE.hst hs4
 refine ⟨_,B4.cell0,fun H8 w8 hs8=>?_⟩
 obtain ⟨v8,B8⟩:=vis B4 v4 hs8
 have E8:=E4.hst hs8
 unfold m_N_j2
 refine ⟨fun hc2=>⟨bad (.inr (.inl ?_)),E8⟩,fun hc2=>?_⟩
 ·rw [Bool.and_eq_true] at hc2;exact ⟨by simpa using hc2.1,bne_iff_ne.1 hc2.2⟩
 have hs:¬ (Sp.isSigned k=false∧f≠0):=fun h=>by
  rw [Bool.and_eq_false_iff] at hc2
  exact hc2.elim (fun h2=>by rw [h.1] at h2;cases h2) (fun h2=>h.2 (by simpa using h2))
 refine ⟨_,B8.cell (i:=1) rfl,fun H7 w7 hs7=>?_⟩
 obtain ⟨v7,B7⟩:=vis B8 v8 hs7
 have E7:=E8.hst hs7
 unfold m_N_j3
 refine ⟨fun hc3=>⟨bad (.inr (.inr (.inl ?_))),E7⟩,fun hc3=>?_⟩
 ·rw [Bool.and_eq_true] at hc3
  exact ⟨by simpa using hc3.1,by simpa using hc3.2⟩
 have ht:¬ (Sp.isTexted k=false∧x≠⟨#[]⟩):=fun h=>by
  rw [Bool.and_eq_false_iff] at hc3
  exact hc3.elim (fun h2=>by rw [h.1] at h2;cases h2) (fun h2=>h.2 (by simpa using h2))
 refine ⟨_,B7.cell (i:=2) rfl,fun hc4 H6 w6 hs6=>⟨bad (.inr (.inr (.inr ?_))),E7.hst hs6⟩,fun hc4=>?_⟩
 ·rw [Bool.and_eq_true] at hc4
  have h1:(k == 1 || k == 4)=false:=by simpa using hc4.1
  rw [Bool.or_eq_false_iff] at h1
  exact ⟨hc4.2,by simpa using h1.1,by simpa using h1.2⟩
 have hfk:¬ (fk=true∧k≠1∧k≠4):=fun h=>by
  rw [Bool.and_eq_false_iff] at hc4
  refine hc4.elim (fun h2=>?_) (fun h2=>by rw [h.1] at h2;cases h2)
  have h1:(k == 1 || k == 4)=true:=by
   cases hh:(k == 1 || k == 4) with
   | true=>rfl
   | false=>rw [hh] at h2;cases h2
  rw [Bool.or_eq_true] at h1
  exact h1.elim (fun h3=>h.2.1 (by simpa using h3)) (fun h3=>h.2.2 (by simpa using h3))
 have good:¬ (k<1∨k>7∨(f≠0∧f≠1)∨(Sp.isSigned k=false∧f≠0)∨(Sp.isTexted k=false∧x≠⟨#[]⟩)∨(fk=true∧k≠1∧k≠4)):=by
  rintro (h | h | h | h | h | h)
  ·omega
  ·omega
  ·omega
  ·exact hs h
  ·exact ht h
  ·exact hfk h
 refine ⟨fun hc5 H6 w6 hs6=>⟨?_,E7.hst hs6⟩,fun hc5 H6 w6 hs6=>⟨?_,E7.hst hs6⟩⟩
 ·have:=of_decide_eq_true hc5
  unfold Sp.letErr;rw [if_neg good,if_pos (by simp only;omega)]
 ·have:=of_decide_eq_false hc5
  unfold Sp.letErr;rw [if_neg good,if_neg (by simp only;omega)]
theorem c_ltCheck (l:Sp.Letter) (w0:World):Calls prog 142 #[.agg #[.int .i64 l.kind,.int .i64 l.frm,.int .u64 l.c,.string l.text,.bool l.fake]] w0 (fun e w'=>∃r:Int,e=.returned (.int .i64 r)∧(r=Sp.letErr l∧Pure w0 w')):=by
 refine w_N _ _ _ _ _ w0 (fun r w'=>r=Sp.letErr l∧Pure w0 w') ?_
 unfold m_N
 refine ⟨fun hc H2 w2 hs2=>⟨?_,hs2.first⟩,fun hc H2 w2 hs2=>?_⟩
 ·unfold Sp.letErr
  rw [if_pos]
  rw [Bool.or_eq_true] at hc
  exact hc.elim (fun h=>.inl (of_decide_eq_true h)) (fun h=>.inr (.inl (of_decide_eq_true h)))
 have hk:1≤l.kind∧l.kind≤7:=by
  rw [Bool.or_eq_false_iff] at hc
  have h1:=of_decide_eq_false hc.1;have h2:=of_decide_eq_false hc.2;omega
 have E2:Pure w0 w2:=hs2.first
 have idx:∃wd:ByteArray,∀w':World,(Instr.index 302 (.agg kindsT) (.int .i64 l.kind)).run prog w'=.ok (.agg #[.bool (Sp.isSigned l.kind),.bool (Sp.isTexted l.kind),.bool (l.kind == 1 || l.kind == 4),.string wd]) w':=by
  have:l.kind=1∨l.kind=2∨l.kind=3∨l.kind=4∨l.kind=5∨l.kind=6∨l.kind=7:=by omega
  rcases this with e | e | e | e | e | e | e <;> rw [e]
  ·exact ⟨⟨#[112,114,111,109,105,115,101]⟩,fun w'=>by kernel_rfl⟩
  ·exact ⟨⟨#[115,105,103,110]⟩,fun w'=>by kernel_rfl⟩
  ·exact ⟨⟨#[97,98,111,114,116]⟩,fun w'=>by kernel_rfl⟩
  ·exact ⟨⟨#[114,101,115,111,108,118,101]⟩,fun w'=>by kernel_rfl⟩
  ·exact ⟨⟨#[116,111,107,101,110]⟩,fun w'=>by kernel_rfl⟩
  ·exact ⟨⟨#[105,110,115,116,101,97,100]⟩,fun w'=>by kernel_rfl⟩
  ·exact ⟨⟨#[102,117,108,108]⟩,fun w'=>by kernel_rfl⟩
 obtain ⟨wd,idx⟩:=idx
 refine ⟨fun _=>True,trivial,?_⟩
 rintro w9 e9
 have E9:Pure w2 w9:=by rw [e9];exact Ext.drew w2
 have hH:∀b,H2 b→b<w9.heap.size:=fun b hb=>by have:=hs2.lt b hb;have:=E9.size;omega
 refine ⟨?_,?_⟩
 ·refine (c_ltKinds w9).mono ?_
  rintro _ w10 ⟨_,rfl,rfl,E10⟩
  refine ⟨_,rfl,trivial,E10.keptP,_,_,_,_,fun w' _=>idx w',?_⟩
  intro p2 w11 n11
  have b11:=n11.at_size
  have z10:=E10.size
  have hv:¬ H2 p2.block:=fun hh=>by have:=hH _ hh;omega
  refine ⟨trivial,(Box.of_newA n11).canWs (by simp),hv,?_⟩
  rintro w12 e12
  have X:Ext (·=p2.block) w11 w12:=by rw [e12];exact Ext.storeRow _ _ _
  have B:Box w12 p2 [.bool (Sp.isSigned l.kind),.bool (Sp.isTexted l.kind),.bool (l.kind == 1 || l.kind == 4),.string wd] 301:=by rw [e12];exact (Box.of_newA n11).store rfl
  have z2:=E2.size;have z9:=E9.size
  exact c_chk l hk p2 B hv ((((E2.trans E9).trans E10).trans (Ext.new n11)).own (by omega) X)
 ·intro p3 w13 n13
  refine ⟨trivial,?_⟩
  have b13:=n13.at_size
  have E13:Pure w9 w13:=Ext.new n13
  have hv:¬ H2 p3.block:=fun hh=>by have:=hH _ hh;omega
  refine (c_ltKinds w13).mono ?_
  rintro _ w14 ⟨_,rfl,rfl,E14⟩
  have B14:=(Box.of_newA n13).pure E14
  refine ⟨_,rfl,trivial,E14.keptP,_,_,_,_,fun w' _=>idx w',B14.canWs (by simp),hv,?_⟩
  rintro w15 e15
  have X:Ext (·=p3.block) w14 w15:=by rw [e15];exact Ext.storeRow _ _ _
  have B:Box w15 p3 [.bool (Sp.isSigned l.kind),.bool (Sp.isTexted l.kind),.bool (l.kind == 1 || l.kind == 4),.string wd] 301:=by rw [e15];exact B14.store rfl
  have z2:=E2.size;have z9:=E9.size
  exact c_chk l hk p3 B hv ((((E2.trans E9).trans E13).trans E14).own (by omega) X)
abbrev RetS (S:NP) (w:World) (T:Sp.Tree) (e:Ending) (w':World):Prop:=∃s,e=.returned (.agg (trow T s).toArray)∧TreeAt S w' s T∧Pure w w'
theorem tree_back {S:NP} (w:World) {A:Sp.Tree} {sa:Sl} {H3:NP} {w3 w4 w5:World} {p:Addr} {o:Obj} (hA:TreeAt S w sa A) (hs3:Hst w None w H3 w3) (n4:New w3 o p w4) (hs5:Hst w H3 w4 H3 w5):TreeAt S w5 sa A:=by
 have E3:Pure w w3:=hs3.first
 have E4:Pure w3 w4:=Ext.new n4
 exact (((hA.lt.pure E3).pure E4).ext hs5.ext (fun b hb hh=>by have:=hs3.old b hh;omega)).mono (fun b hb=>hb.1)
section
variable {S:NP} (w:World) (hS:∀b,w.heap.size≤b→S b)
include hS
theorem c_ltPair (A B:Sp.Tree) (sa sb:Sl) (hA:TreeAt S w sa A) (hB:TreeAt S w sb B):Calls prog 197 #[.agg (trow A sa).toArray,.agg (trow B sb).toArray] w (RetS S w (Sp.pairT A B)):=by
 obtain ⟨k,f,t,u,x,ks⟩:=A
 obtain ⟨k2,f2,t2,u2,x2,ks2⟩:=B
 refine (w_V3 k f t u x sa k2 f2 t2 u2 x2 sb w (fun k' f' t' u' y s w'=>(⟨k',f',t',u',y,0,0⟩:Sp.Node)=(Sp.pairT (.mk k f t u x ks) (.mk k2 f2 t2 u2 x2 ks2)).node∧TreeAt S w' s (Sp.pairT (.mk k f t u x ks) (.mk k2 f2 t2 u2 x2 ks2))∧Pure w w') ?_).mono ?_
 ·unfold m_V3
  intro H3 w3 hs3 p4 w4 n4 w5 hs5
  have b4:=n4.at_size
  have z3:=hs3.first.size
  have B4:Box w4 p4 (trow (.mk k f t u x ks) sa++trow (.mk k2 f2 t2 u2 x2 ks2) sb) 107:=Box.of_newA n4
  exact ⟨rfl,TreeAt.pair (B4.ext hs5.ext (fun hh=>by have:=hs3.lt _ hh;omega)) (hS _ (by omega)) (tree_back w hA hs3 n4 hs5) (tree_back w hB hs3 n4 hs5),(hs3.first.trans (Ext.new n4)).hst hs5⟩
 ·rintro _ w' ⟨k,f,t,u,y,s,rfl,hn,hT,E⟩
  cases hn;exact ⟨s,rfl,hT,E⟩
theorem c_ltSign (n:Int) (A:Sp.Tree) (sa:Sl) (hA:TreeAt S w sa A):Calls prog 196 #[.int .i64 n,.agg (trow A sa).toArray] w (RetS S w (Sp.signT n A)):=by
 obtain ⟨k,f,t,u,x,ks⟩:=A
 refine (w_Y3 n k f t u x sa w (fun k' f' t' u' y s w'=>(⟨k',f',t',u',y,0,0⟩:Sp.Node)=(Sp.signT n (.mk k f t u x ks)).node∧TreeAt S w' s (Sp.signT n (.mk k f t u x ks))∧Pure w w') ?_).mono ?_
 ·unfold m_Y3
  intro H3 w3 hs3 p4 w4 n4 w5 hs5
  have b4:=n4.at_size
  have z3:=hs3.first.size
  have B4:Box w4 p4 (trow (.mk k f t u x ks) sa) 107:=Box.of_newA n4
  exact ⟨rfl,TreeAt.one (B4.ext hs5.ext (fun hh=>by have:=hs3.lt _ hh;omega)) (hS _ (by omega)) (tree_back w hA hs3 n4 hs5),(hs3.first.trans (Ext.new n4)).hst hs5⟩
 ·rintro _ w' ⟨k,f,t,u,y,s,rfl,hn,hT,E⟩
  cases hn;exact ⟨s,rfl,hT,E⟩
theorem c_ltPromise (n:Int) (hn:n=0∨n=1) (fk:Bool) (A:Sp.Tree) (sa:Sl) (hA:TreeAt S w sa A):Calls prog 195 #[.int .i64 n,.bool fk,.agg (trow A sa).toArray] w (RetS S w (Sp.promT n A fk)):=by
 obtain ⟨k,f,t,u,x,ks⟩:=A
 refine (w_X3 n fk k f t u x sa w (fun k' f' t' u' y s w'=>(⟨k',f',t',u',y,0,0⟩:Sp.Node)=(Sp.promT n (.mk k f t u x ks) fk).node∧TreeAt S w' s (Sp.promT n (.mk k f t u x ks) fk)∧Pure w w') ?_).mono ?_
 ·unfold m_X3
  intro H3 w3 hs3 p4 w4 n4 w5 hs5
  have b4:=n4.at_size
  have z3:=hs3.first.size
  have B4:Box w4 p4 (trow (.mk k f t u x ks) sa) 107:=Box.of_newA n4
  refine ⟨?_,TreeAt.one (B4.ext hs5.ext (fun hh=>by have:=hs3.lt _ hh;omega)) (hS _ (by omega)) (tree_back w hA hs3 n4 hs5),(hs3.first.trans (Ext.new n4)).hst hs5⟩
  have:IntKind.i64.wrap (1 - n)=1 - n:=IntWalk.i64_in _ (by omega)
  rw [this]
  cases fk <;> rfl
 ·rintro _ w' ⟨k,f,t,u,y,s,rfl,hn,hT,E⟩
  cases hn;exact ⟨s,rfl,hT,E⟩
theorem c_ltDeal (c:Int) (x:ByteArray):Calls prog 194 #[.int .u64 c,.string x] w (RetS S w (Sp.dealT c x)):=by
 refine (w_W3 c x w (fun k f t u y s w'=>(⟨k,f,t,u,y,0,0⟩:Sp.Node)=(Sp.dealT c x).node∧TreeAt S w' s (Sp.dealT c x)∧Pure w w') ?_).mono ?_
 ·unfold m_W3
  intro H1 w4 hs4
  have E4:Pure w w4:=hs4.first
  have z4:=E4.size
  have hH:∀b,H1 b→b<w4.heap.size:=fun b hb=>hs4.lt b hb
  refine (c_ltPair (S:=(w4.heap.size≤·)) w4 (fun _ h=>h) (Sp.numT c) (Sp.dataT x) Sl.nil Sl.nil TreeAt.leaf TreeAt.leaf).mono ?_
  rintro _ w5 ⟨s5,rfl,hT5,E5⟩
  refine ⟨_,_,_,_,_,s5,rfl,E5.keptP,?_⟩
  refine (c_ltPair (S:=(w4.heap.size≤·)) w5 (fun b h=>by have:=E5.size;show w4.heap.size≤b;omega) (Sp.dataT Sp.wDeal) (Sp.pairT (Sp.numT c) (Sp.dataT x)) Sl.nil s5 TreeAt.leaf hT5).mono ?_
  rintro _ w6 ⟨s6,rfl,hT6,E6⟩
  refine ⟨_,_,_,_,_,s6,rfl,E6.keptP,fun w7 hs7=>⟨rfl,?_,((E4.trans E5).trans E6).hst hs7⟩⟩
  exact (hT6.ext hs7.ext (fun b hb hh=>by have:=hH b hh;have:w4.heap.size≤b:=hb;omega)).mono (fun b hb=>hS b (by have:w4.heap.size≤b:=hb;omega))
 ·rintro _ w' ⟨k,f,t,u,y,s,rfl,hn,hT,E⟩
  cases hn;exact ⟨s,rfl,hT,E⟩
end
theorem c_ltTree (l:Sp.Letter) (hf:l.frm=0∨l.frm=1) (w0:World):Calls prog 143 #[.agg #[.int .i64 l.kind,.int .i64 l.frm,.int .u64 l.c,.string l.text,.bool l.fake]] w0 (RetS (w0.heap.size≤·) w0 (Sp.letterT l true true)):=by
 obtain ⟨kd,f,c,x,fk⟩:=l
 simp only at hf
 generalize hR:Sp.letterT ⟨kd,f,c,x,fk⟩ true true=R
 refine (w_Z3 kd f c x fk w0 (fun k f t u y s w'=>(⟨k,f,t,u,y,0,0⟩:Sp.Node)=R.node∧TreeAt (w0.heap.size≤·) w' s R∧Pure w0 w') ?_).mono ?_
 ·unfold m_Z3
  intro H2 w2 hs2
  have E2:Pure w0 w2:=hs2.first
  have z2:=E2.size
  refine (c_ltDeal (S:=(w2.heap.size≤·)) w2 (fun _ h=>h) c x).mono ?_
  rintro _ w3 ⟨sd,rfl,hT3,E3⟩
  refine ⟨_,_,_,_,_,sd,rfl,E3.keptP,?_⟩
  have z3:=E3.size
  have go:∀{H3:NP} {w5:World},Hst w0 H2 w3 H3 w5→TreeAt (fun b=>w0.heap.size≤b∧¬ H3 b) w5 sd (Sp.dealT c x)∧Pure w0 w5∧(∀w:World,w5.heap.size≤w.heap.size→∀b,w.heap.size≤b→w0.heap.size≤b∧¬ H3 b):=fun {H3 w5} hs=>by
   have hd:∀b,(w2.heap.size≤b∧b<w3.heap.size)→¬ H3 b:=hs.disj (fun b hb=>⟨hb.2,fun hh=>by have:=hs2.lt b hh;omega⟩)
   refine ⟨(hT3.lt.ext hs.ext (fun b hb=>hd b hb)).mono (fun b hb=>⟨by have:=hb.1;omega,hd b hb⟩),(E2.trans E3).hst hs,fun w hw b hb=>⟨by have:=hs.ext.size;omega,fun hh=>by have:=hs.lt b hh;omega⟩⟩
  have fin:∀{H3:NP} {wa wb:World} {s:Sl} {T:Sp.Tree},TreeAt (fun b=>w0.heap.size≤b∧¬ H3 b) wa s T→Pure w0 wa→Hst w0 H3 wa H3 wb→T=R→R.node=R.node∧TreeAt (w0.heap.size≤·) wb s R∧Pure w0 wb:=fun {H3 wa wb s T} h E hs e=>by
   subst e
   exact ⟨rfl,(h.ext hs.ext (fun b hb=>hb.2)).mono (fun b hb=>hb.1),E.hst hs⟩
  have fin2:∀{H3:NP} {wa wb:World} {s:Sl} {T:Sp.Tree},TreeAt (fun b=>w0.heap.size≤b∧¬ H3 b) wa s T→Pure w0 wa→Hst w0 H3 wa H3 wb→R=T→(⟨T.node.kind,T.node.frm,T.node.to,T.node.num,T.node.text,0,0⟩:Sp.Node)=R.node∧TreeAt (w0.heap.size≤·) wb s R∧Pure w0 wb:=fun {H3 wa wb s T} h E hs e=>by
   subst e
   refine ⟨?_,(fin h E hs rfl).2⟩
   cases R;rfl
  refine ⟨fun hk H3 w5 hs5=>?_,fun h1=>⟨fun hk H3 w5 hs5=>?_,fun h2=>⟨fun hk H3 w5 hs5=>?_,fun h3=>⟨fun hk H3 w5 hs5=>?_,fun h4=>⟨fun hk H3 w5 hs5=>?_,fun h5=>⟨fun hk H3 w5 hs5=>?_,fun h6 H3 w5 hs5=>?_⟩⟩⟩⟩⟩⟩
  ·have hk:=beq_iff_eq.1 hk
   obtain ⟨hD,E5,hS⟩:=go hs5
   refine (c_ltPromise w5 (hS w5 (Nat.le_refl _)) f hf fk _ sd hD).mono ?_
   rintro _ w6 ⟨s6,rfl,hT6,E6⟩
   refine ⟨_,_,_,_,_,s6,rfl,E6.keptP,fun w7 hs7=>fin2 hT6 (E5.trans E6) hs7 ?_⟩
   rw [← hR];unfold Sp.letterT;rw [if_pos hk]
  ·have hk:=beq_iff_eq.1 hk
   obtain ⟨hD,E5,hS⟩:=go hs5
   refine (c_ltSign w5 (hS w5 (Nat.le_refl _)) f _ sd hD).mono ?_
   rintro _ w6 ⟨s6,rfl,hT6,E6⟩
   refine ⟨_,_,_,_,_,s6,rfl,E6.keptP,fun w7 hs7=>fin2 hT6 (E5.trans E6) hs7 ?_⟩
   rw [← hR];unfold Sp.letterT;rw [if_neg (fun e=>beq_eq_false_iff_ne.1 h1 e),if_pos hk]
  ·have hk:=beq_iff_eq.1 hk
   obtain ⟨hD,E5,hS⟩:=go hs5
   refine ⟨fun _=>True,trivial,?_⟩
   rintro w10 e10
   have E10:Pure w5 w10:=by rw [e10];exact Ext.drew w5
   refine (p_S _ w10).mono ?_
   rintro _ w11 ⟨rfl,E11⟩
   refine ⟨_,_,_,_,_,_,rfl,trivial,E11.keptP,?_⟩
   refine (p_Z _ w11).mono ?_
   rintro _ w12 ⟨rfl,E12⟩
   refine ⟨_,_,_,_,_,_,rfl,E12.keptP,?_⟩
   have z12:=((E10.trans E11).trans E12).size
   refine (c_ltPair w12 (hS w12 z12) (Sp.dataT Sp.wAbort) (Sp.numT c) Sl.nil Sl.nil TreeAt.leaf TreeAt.leaf).mono ?_
   rintro _ w13 ⟨s13,rfl,hT13,E13⟩
   refine ⟨_,_,_,_,_,s13,rfl,E13.keptP,?_⟩
   refine (c_ltSign w13 (hS w13 (by have:=E13.size;omega)) 0 _ s13 hT13).mono ?_
   rintro _ w14 ⟨s14,rfl,hT14,E14⟩
   refine ⟨_,_,_,_,_,s14,rfl,E14.keptP,fun w15 hs15=>fin2 hT14 (((((E5.trans E10).trans E11).trans E12).trans E13).trans E14) hs15 ?_⟩
   rw [← hR];unfold Sp.letterT;rw [if_neg (fun e=>beq_eq_false_iff_ne.1 h1 e),if_neg (fun e=>beq_eq_false_iff_ne.1 h2 e),if_pos hk]
  ·have hk:=beq_iff_eq.1 hk
   obtain ⟨hD,E5,hS⟩:=go hs5
   refine ⟨fun _=>True,trivial,?_⟩
   rintro w16 e16
   have E16:Pure w5 w16:=by rw [e16];exact Ext.drew w5
   refine (p_S _ w16).mono ?_
   rintro _ w17 ⟨rfl,E17⟩
   refine ⟨_,_,_,_,_,_,rfl,trivial,E17.keptP,?_⟩
   have E57:=E16.trans E17
   refine (c_ltPromise w17 (hS w17 E57.size) 0 (.inl rfl) fk _ sd (hD.pure E57)).mono ?_
   rintro _ w18 ⟨s18,rfl,hT18,E18⟩
   refine ⟨_,_,_,_,_,s18,rfl,trivial,E18.keptP,?_⟩
   have E58:=E57.trans E18
   refine (c_ltPromise w18 (hS w18 E58.size) 1 (.inr rfl) fk _ sd (hD.pure E58)).mono ?_
   rintro _ w19 ⟨s19,rfl,hT19,E19⟩
   refine ⟨_,_,_,_,_,s19,rfl,trivial,E19.keptP,?_⟩
   have E59:=E58.trans E19
   refine (c_ltPair w19 (hS w19 E59.size) _ _ s18 s19 (hT18.pure E19) hT19).mono ?_
   rintro _ w20 ⟨s20,rfl,hT20,E20⟩
   refine ⟨_,_,_,_,_,s20,rfl,trivial,E20.keptP,?_⟩
   have E510:=E59.trans E20
   refine (c_ltPair w20 (hS w20 E510.size) (Sp.dataT Sp.wResolve) _ Sl.nil s20 TreeAt.leaf hT20).mono ?_
   rintro _ w21 ⟨s21,rfl,hT21,E21⟩
   refine ⟨_,_,_,_,_,s21,rfl,trivial,E21.keptP,?_⟩
   have E511:=E510.trans E21
   refine (c_ltSign w21 (hS w21 E511.size) f _ s21 hT21).mono ?_
   rintro _ w22 ⟨s22,rfl,hT22,E22⟩
   refine ⟨_,_,_,_,_,s22,rfl,E22.keptP,fun w23 hs23=>fin2 hT22 ((E5.trans E511).trans E22) hs23 ?_⟩
   rw [← hR];unfold Sp.letterT;rw [if_neg (fun e=>beq_eq_false_iff_ne.1 h1 e),if_neg (fun e=>beq_eq_false_iff_ne.1 h2 e),if_neg (fun e=>beq_eq_false_iff_ne.1 h3 e),if_pos hk]
   simp only [Bool.and_true]
  ·have hk:=beq_iff_eq.1 hk
   obtain ⟨hD,E5,hS⟩:=go hs5
   refine ⟨fun _=>True,trivial,?_⟩
   rintro w10 e10
   have E10:Pure w5 w10:=by rw [e10];exact Ext.drew w5
   refine (p_S _ w10).mono ?_
   rintro _ w11 ⟨rfl,E11⟩
   refine ⟨_,_,_,_,_,_,rfl,trivial,E11.keptP,?_⟩
   refine (p_Z _ w11).mono ?_
   rintro _ w12 ⟨rfl,E12⟩
   refine ⟨_,_,_,_,_,_,rfl,E12.keptP,?_⟩
   have z12:=((E10.trans E11).trans E12).size
   refine (c_ltPair w12 (hS w12 z12) (Sp.dataT Sp.wAborted) (Sp.numT c) Sl.nil Sl.nil TreeAt.leaf TreeAt.leaf).mono ?_
   rintro _ w13 ⟨s13,rfl,hT13,E13⟩
   refine ⟨_,_,_,_,_,s13,rfl,E13.keptP,?_⟩
   refine (c_ltSign w13 (hS w13 (by have:=E13.size;omega)) 2 _ s13 hT13).mono ?_
   rintro _ w14 ⟨s14,rfl,hT14,E14⟩
   refine ⟨_,_,_,_,_,s14,rfl,E14.keptP,fun w15 hs15=>fin2 hT14 (((((E5.trans E10).trans E11).trans E12).trans E13).trans E14) hs15 ?_⟩
   rw [← hR];unfold Sp.letterT;rw [if_neg (fun e=>beq_eq_false_iff_ne.1 h1 e),if_neg (fun e=>beq_eq_false_iff_ne.1 h2 e),if_neg (fun e=>beq_eq_false_iff_ne.1 h3 e),if_neg (fun e=>beq_eq_false_iff_ne.1 h4 e),if_pos hk]
  ·have hk:=beq_iff_eq.1 hk
   obtain ⟨hD,E5,hS⟩:=go hs5
   refine ⟨fun _=>True,trivial,?_⟩
   rintro w10 e10
   have E10:Pure w5 w10:=by rw [e10];exact Ext.drew w5
   refine (p_S _ w10).mono ?_
   rintro _ w11 ⟨rfl,E11⟩
   refine ⟨_,_,_,_,_,_,rfl,trivial,E11.keptP,?_⟩
   have z11:=(E10.trans E11).size
   refine (c_ltPair w11 (hS w11 z11) (Sp.dataT Sp.wInstead) _ Sl.nil sd TreeAt.leaf (hD.pure (E10.trans E11))).mono ?_
   rintro _ w13 ⟨s13,rfl,hT13,E13⟩
   refine ⟨_,_,_,_,_,s13,rfl,E13.keptP,?_⟩
   refine (c_ltSign w13 (hS w13 (by have:=E13.size;omega)) 2 _ s13 hT13).mono ?_
   rintro _ w14 ⟨s14,rfl,hT14,E14⟩
   refine ⟨_,_,_,_,_,s14,rfl,E14.keptP,fun w15 hs15=>fin2 hT14 ((((E5.trans E10).trans E11).trans E13).trans E14) hs15 ?_⟩
   rw [← hR];unfold Sp.letterT;rw [if_neg (fun e=>beq_eq_false_iff_ne.1 h1 e),if_neg (fun e=>beq_eq_false_iff_ne.1 h2 e),if_neg (fun e=>beq_eq_false_iff_ne.1 h3 e),if_neg (fun e=>beq_eq_false_iff_ne.1 h4 e),if_neg (fun e=>beq_eq_false_iff_ne.1 h5 e),if_pos hk]
  ·obtain ⟨hD,E5,hS⟩:=go hs5
   refine ⟨fun _=>True,trivial,?_⟩
   rintro w10 e10
   have E10:Pure w5 w10:=by rw [e10];exact Ext.drew w5
   refine (p_S _ w10).mono ?_
   rintro _ w11 ⟨rfl,E11⟩
   refine ⟨_,_,_,_,_,_,rfl,trivial,E11.keptP,?_⟩
   refine (p_Z _ w11).mono ?_
   rintro _ w12 ⟨rfl,E12⟩
   refine ⟨_,_,_,_,_,_,rfl,E12.keptP,?_⟩
   have z12:=((E10.trans E11).trans E12).size
   refine (c_ltPair w12 (hS w12 z12) (Sp.dataT Sp.wFull) (Sp.numT c) Sl.nil Sl.nil TreeAt.leaf TreeAt.leaf).mono ?_
   rintro _ w13 ⟨s13,rfl,hT13,E13⟩
   refine ⟨_,_,_,_,_,s13,rfl,E13.keptP,fun w15 hs15=>fin2 hT13 ((((E5.trans E10).trans E11).trans E12).trans E13) hs15 ?_⟩
   rw [← hR];unfold Sp.letterT;rw [if_neg (fun e=>beq_eq_false_iff_ne.1 h1 e),if_neg (fun e=>beq_eq_false_iff_ne.1 h2 e),if_neg (fun e=>beq_eq_false_iff_ne.1 h3 e),if_neg (fun e=>beq_eq_false_iff_ne.1 h4 e),if_neg (fun e=>beq_eq_false_iff_ne.1 h5 e),if_neg (fun e=>beq_eq_false_iff_ne.1 h6 e)]
 ·rintro _ w' ⟨k,f,t,u,y,s,rfl,hn,hT,E⟩
  obtain ⟨k2,f2,t2,u2,x2,ks⟩:=R
  cases hn;exact ⟨s,rfl,hT,E⟩
theorem letErr_frm {l:Sp.Letter} (h:Sp.letErr l=0):l.frm=0∨l.frm=1:=by
 unfold Sp.letErr at h
 split at h
 ·cases h
 ·rename_i h1
  simp only [not_or] at h1
  have:=h1.2.2.1
  by_cases h0:l.frm=0
  ·exact .inl h0
  ·exact .inr (Classical.byContradiction (fun h2=>this ⟨h0,h2⟩))
def buildS (L:Sp.Pool) (l:Sp.Letter):Int×Int×Sp.Pool:=if Sp.letErr l≠0 then (0,Sp.letErr l,L) else Sp.of L (Sp.letterT l true true)
theorem c_Build (p : Addr) (l : Sp.Letter) (w0 : World) {L : Sp.Pool} {F : NP} (hP : PoolAt w0 p L F) (hok : Sp.Ok L) :
  Calls prog 76 #[.pointer (some p),.agg #[.int .i64 l.kind,.int .i64 l.frm,.int .u64 l.c,.string l.text,.bool l.fake]] w0 (fun e w'=>∃r1 r2:Int,e=.returned (.tuple #[.int .i64 r1,.int .i64 r2])∧(r1=(buildS L l).1∧r2=(buildS L l).2.1∧∃F',PoolAt w' p (buildS L l).2.2 F'∧Ext F w0 w'∧∀b,F' b→F b∨w0.heap.size≤b)):=by
 refine w_A4 (some p) l.kind l.frm l.c l.text l.fake w0 (fun r1 r2 w'=>r1=(buildS L l).1∧r2=(buildS L l).2.1∧∃F',PoolAt w' p (buildS L l).2.2 F'∧Ext F w0 w'∧∀b,F' b→F b∨w0.heap.size≤b) ?_
 unfold m_A4
 intro H1 w1 hs1
 have E1:Pure w0 w1:=hs1.first
 have hF:∀b,F b→b<w0.heap.size:=fun b hb=>hP.lt hb
 refine (c_ltCheck l w1).mono ?_
 rintro _ w2 ⟨_,rfl,rfl,E2⟩
 have E02:=E1.trans E2
 refine ⟨_,rfl,E2.keptP,fun hc=>?_,fun hc=>⟨fun h=>(by cases h),fun _=>?_⟩⟩
 ·have hc:=bne_iff_ne.1 hc
  have e:buildS L l=(0,Sp.letErr l,L):=by unfold buildS;rw [if_pos hc]
  rw [e];exact ⟨rfl,rfl,F,hP.pure E02,Ext.pure E02,fun b hb=>.inl hb⟩
 ·have hc:Sp.letErr l=0:=by simpa using hc
  have e:buildS L l=Sp.of L (Sp.letterT l true true):=by unfold buildS;rw [if_neg (by simpa using hc)]
  rw [e]
  refine (c_ltTree l (letErr_frm hc) w2).mono ?_
  rintro _ w3 ⟨s3,he,hT3,E3⟩
  generalize Sp.letterT l true true=T at *
  obtain ⟨tk,tf,tt,tu,tx,tks⟩:=T
  have he:_=Ending.returned (.agg #[.int .i64 tk,.int .i64 tf,.int .i64 tt,.int .u64 tu,.string tx,s3.v]):=he
  refine ⟨tk,tf,tt,tu,tx,s3,he,E3.keptP,?_⟩
  have E03:=E02.trans E3
  refine (c_Of (S:=fun b=>w2.heap.size≤b∧b<w3.heap.size) p (.mk tk tf tt tu tx tks) s3 w3 hT3.lt (hP.pure E03) hok (fun b hb hh=>by have:=hF b hb;have:=E02.size;omega) (fun b hb=>hb.2)).mono ?_
  rintro _ w4 ⟨r1,r2,rfl,h12,F',hP4,X4,hF4⟩
  obtain ⟨e1,e2⟩:=Prod.mk.inj h12
  refine ⟨r1,r2,rfl,X4.kept (fun b hb hh=>by have:=hs1.old b hb;have:=hF b hh;omega),e1,e2,F',hP4,(Ext.pure E03).trans X4,fun b hb=>(hF4 b hb).imp id (fun h=>by have:=E03.size;omega)⟩
end Go.Proofs
end
section
open Go Go.SE
namespace Go.Sp
def convS (L:Pool) (a b:Int):Int×Int×Pool :=
 if (bothS L a b).2.1=true then (0,121,L) else if (bothS L a b).2.2≠0 then (0,(bothS L a b).2.2,L) else Go.Proofs.buildS L ⟨6,0,(bothS L a b).1.c,(bothS L a b).1.text,false⟩
def thenS (m:Int×Int×Pool) (f:Int→Pool→Int×Int×Pool):Int×Int×Pool:=if m.2.1≠0 then (0,m.2.1,m.2.2) else f m.1 m.2.2
def resolveT:ByteArray:=⟨#[114,101,115,111,108,118,101]⟩
def reqS (L:Pool) (who a b:Int):Int×Int×Pool :=
 if who≠0∧who≠1 then (0,2,L) else if (bothS L a b).2.2≠0 then (0,(bothS L a b).2.2,L)
 else thenS (make L ⟨4,0,0,0,⟨#[]⟩,a,b⟩) fun t L=>thenS (make L ⟨3,0,0,0,resolveT,0,0⟩) fun d L=>thenS (make L ⟨4,0,0,0,⟨#[]⟩,d,t⟩) fun t L=>make L ⟨7,who,0,0,⟨#[]⟩,t,0⟩
end Go.Sp
namespace Go.Proofs
open Tryz
attribute [local irreducible] Calls
theorem c_Data (p:Addr) (w0:World) {L:Sp.Pool} {F:NP} (hP:PoolAt w0 p L F) (hok:Sp.Ok L) (x:ByteArray):Calls prog 92 #[.pointer (some p),.string x] w0 (MakePost p L F w0 ⟨3,0,0,0,x,0,0⟩):=by
 refine w_O2 _ _ w0 (fun r1 r2 w'=>(r1,r2)=((Sp.make L ⟨3,0,0,0,x,0,0⟩).1,(Sp.make L ⟨3,0,0,0,x,0,0⟩).2.1)∧∃F',PoolAt w' p (Sp.make L ⟨3,0,0,0,x,0,0⟩).2.2 F'∧Ext F w0 w'∧∀b,F' b→F b∨w0.heap.size≤b) ?_
 unfold m_O2
 refine (c_Make p _ _ _ _ _ _ _ w0 hP hok).mono ?_
 rintro _ w1 ⟨r1,r2,rfl,h⟩
 exact ⟨r1,r2,rfl,h⟩
theorem c_ev_Binds (p : Addr) (t who c : Int) (x : ByteArray) (w0 : World) {L : Sp.Pool} {F : NP} (hP : PoolAt w0 p L F) (hok : Sp.Ok L) :
  Calls prog 45 #[.pointer (some p),.int .i64 t,.int .i64 who,.int .u64 c,.string x] w0 (fun e w'=>∃r:Bool,e=.returned (.bool r)∧(r=(Sp.whyS L t who c x == 0)∧Pure w0 w')):=by
 refine w_G3 _ _ _ _ _ w0 (fun r w'=>r=(Sp.whyS L t who c x == 0)∧Pure w0 w') ?_
 unfold m_G3
 refine (c_ev_Why (some p) t who c x w0 hP hok).mono ?_
 rintro _ w1 ⟨_,rfl,rfl,E⟩
 exact ⟨_,rfl,rfl,E⟩
abbrev MkP (S:Int×Int×Sp.Pool) (p:Addr) (F:NP) (w0 w':World):Prop:=∃F',PoolAt w' p S.2.2 F'∧Ext F w0 w'∧∀b,F' b→F b∨w0.heap.size≤b
theorem c_ev_Convert (p : Addr) (a b : Int) (w0 : World) {L : Sp.Pool} {F : NP} (hP : PoolAt w0 p L F) (hok : Sp.Ok L) :
  Calls prog 32 #[.pointer (some p),.int .i64 a,.int .i64 b] w0 (fun e w'=>∃r1 r2:Int,e=.returned (.tuple #[.int .i64 r1,.int .i64 r2])∧(r1=(Sp.convS L a b).1∧r2=(Sp.convS L a b).2.1∧MkP (Sp.convS L a b) p F w0 w')):=by
 refine w_E3 (some p) a b w0 (fun r1 r2 w'=>r1=(Sp.convS L a b).1∧r2=(Sp.convS L a b).2.1∧MkP (Sp.convS L a b) p F w0 w') ?_
 unfold m_E3
 refine (c_ev_both p a b w0 hP hok).mono ?_
 rintro _ w1 ⟨k,f,c,x,g,r,r2,rfl,hb,E1⟩
 have e:Sp.convS L a b=if r=true then (0,121,L) else if r2≠0 then (0,r2,L) else buildS L ⟨6,0,c,x,false⟩:=by
  unfold Sp.convS;rw [← hb]
 have hF:∀b,F b→b<w0.heap.size:=fun b hb=>hP.lt hb
 refine ⟨k,f,c,x,g,r,r2,rfl,E1.keptP,fun h H2 w4 hs4=>?_,fun h H2 w4 hs4=>?_⟩
 ·have hS : Sp.convS L a b = (0, cond r 121 r2, L) := by
   rw [e]
   cases r
   ·have h:r2≠0:=by simpa using h
    rw [if_neg (by simp),if_pos h];rfl
   ·rfl
  rw [hS]
  exact ⟨rfl,rfl,F,hP.pure (E1.hst hs4),Ext.pure (E1.hst hs4),fun b hb=>.inl hb⟩
 ·have hS : Sp.convS L a b = buildS L ⟨6, 0, c, x, false⟩ := by
   rw [e]
   cases r
   ·have h:r2=0:=by simpa using h
    rw [if_neg (by simp),if_neg (by simp [h])]
   ·simp at h
  rw [hS]
  have E4:=E1.hst hs4
  refine (c_Build p ⟨6,0,c,x,false⟩ w4 (hP.pure E4) hok).mono ?_
  rintro _ w5 ⟨r3,r4,rfl,e3,e4,F',hP5,X5,hF5⟩
  refine ⟨r3,r4,rfl,X5.kept (fun b hb hh=>by have:=hs4.old b hb;have:=hF b hh;omega),e3,e4,F',hP5,(Ext.pure E4).trans X5,fun b hb=>(hF5 b hb).imp id (fun h=>by have:=E4.size;omega)⟩
theorem c_ev_Request (p : Addr) (who a b : Int) (w0 : World) {L : Sp.Pool} {F : NP} (hP : PoolAt w0 p L F) (hok : Sp.Ok L) :
  Calls prog 33 #[.pointer (some p),.int .i64 who,.int .i64 a,.int .i64 b] w0 (fun e w'=>∃r1 r2:Int,e=.returned (.tuple #[.int .i64 r1,.int .i64 r2])∧(r1=(Sp.reqS L who a b).1∧r2=(Sp.reqS L who a b).2.1∧MkP (Sp.reqS L who a b) p F w0 w')):=by
 refine w_F3 (some p) who a b w0 (fun r1 r2 w'=>r1=(Sp.reqS L who a b).1∧r2=(Sp.reqS L who a b).2.1∧MkP (Sp.reqS L who a b) p F w0 w') ?_
 unfold m_F3
 have hF:∀b,F b→b<w0.heap.size:=fun b hb=>hP.lt hb
 refine ⟨fun h H1 w1 hs1=>?_,fun h H1 w1 hs1=>?_⟩
 ·have hS : Sp.reqS L who a b = (0, 2, L) := by
   unfold Sp.reqS;rw [if_pos (by simpa using h)]
  rw [hS]
  exact ⟨rfl,rfl,F,hP.pure hs1.first,Ext.pure hs1.first,fun b hb=>.inl hb⟩
 refine (c_ev_both p a b w1 (hP.pure hs1.first) hok).mono ?_
 rintro _ w2 ⟨k,f,c,x,g,r,r2,rfl,hb,E2⟩
 have e:Sp.reqS L who a b=if r2≠0 then (0,r2,L) else Sp.thenS (Sp.make L ⟨4,0,0,0,⟨#[]⟩,a,b⟩) fun t L=>Sp.thenS (Sp.make L ⟨3,0,0,0,Sp.resolveT,0,0⟩) fun d L=>Sp.thenS (Sp.make L ⟨4,0,0,0,⟨#[]⟩,d,t⟩) fun t L=>Sp.make L ⟨7,who,0,0,⟨#[]⟩,t,0⟩:=by
  unfold Sp.reqS;rw [if_neg (by simpa using h),← hb]
 rw [e]
 have E02:=hs1.first.trans E2
 refine ⟨k,f,c,x,g,r,r2,rfl,E2.keptP,fun h2 H2 w4 hs4=>?_,fun h2 H2 w4 hs4=>?_⟩
 ·rw [if_pos (by simpa using h2)]
  exact ⟨rfl,rfl,F,hP.pure (E02.hst hs4),Ext.pure (E02.hst hs4),fun b hb=>.inl hb⟩
 rw [if_neg (by simpa using h2)]
 have E4:=E02.hst hs4
 have step:∀{w w':World} {F1 F2:NP},Ext F w0 w→(∀b,F1 b→F b∨w4.heap.size≤b)→w4.heap.size≤w.heap.size→Ext F1 w w'→(∀b,F2 b→F1 b∨w.heap.size≤b)→Ext F w0 w'∧(∀b,F2 b→F b∨w4.heap.size≤b)∧w4.heap.size≤w'.heap.size∧Kept H2 w w':=by
  intro w w' F1 F2 X h1 hsz X1 h2
  have:=E4.size
  refine ⟨X.trans' X1 (fun i hi hf=>(h1 i hf).elim id (fun h=>by omega)),fun b hb=>(h2 b hb).elim (h1 b) (fun h=>.inr (by omega)),by have:=X1.size;omega,X1.kept (fun b hb hf=>?_)⟩
  rcases h1 b hf with h | h
  ·have:=hs4.old b hb;have:=hF b h;omega
  ·have:=hs4.lt b hb;omega
 have fin:∀b,∀{F2:NP},(∀b,F2 b→F b∨w4.heap.size≤b)→F2 b→F b∨w0.heap.size≤b:=fun b _ h hb=>(h b hb).imp id (fun h=>by have:=E4.size;omega)
 refine (c_Pair p w4 (hP.pure E4) hok a b).mono ?_
 rintro _ w5 ⟨r3,r4,rfl,h34,F5,hP5,X5,hF5⟩
 have ok5:=Sp.make_ok hok ⟨4,0,0,0,⟨#[]⟩,a,b⟩
 generalize Sp.make L ⟨4,0,0,0,⟨#[]⟩,a,b⟩=m5 at *
 obtain ⟨m1,m2,L5⟩:=m5
 obtain ⟨rfl,rfl⟩:=Prod.mk.inj h34
 obtain ⟨Y5,G5,s5,k5⟩:=step (Ext.pure E4) (fun b hb=>.inl hb) (Nat.le_refl _) X5 hF5
 refine ⟨r3,r4,rfl,k5,fun h5=>?_,fun h5=>?_⟩
 ·unfold Sp.thenS;rw [if_pos (by simpa using h5)]
  exact ⟨rfl,rfl,F5,hP5,Y5,fun b hb=>fin b G5 hb⟩
 rw [Sp.thenS,if_neg (by simpa using h5)]
 refine (c_Data p w5 hP5 ok5 Sp.resolveT).mono ?_
 rintro _ w6 ⟨r5,r6,rfl,h56,F6,hP6,X6,hF6⟩
 have ok6:=Sp.make_ok ok5 ⟨3,0,0,0,Sp.resolveT,0,0⟩
 simp only at *
 generalize Sp.make L5 ⟨3,0,0,0,Sp.resolveT,0,0⟩=m6 at *
 obtain ⟨m1,m2,L6⟩:=m6
 obtain ⟨rfl,rfl⟩:=Prod.mk.inj h56
 obtain ⟨Y6,G6,s6,k6⟩:=step Y5 G5 s5 X6 hF6
 refine ⟨r5,r6,rfl,k6,fun h6=>?_,fun h6=>?_⟩
 ·unfold Sp.thenS;rw [if_pos (by simpa using h6)]
  exact ⟨rfl,rfl,F6,hP6,Y6,fun b hb=>fin b G6 hb⟩
 rw [Sp.thenS,if_neg (by simpa using h6)]
 refine (c_Pair p w6 hP6 ok6 r5 r3).mono ?_
 rintro _ w7 ⟨r7,r8,rfl,h78,F7,hP7,X7,hF7⟩
 have ok7:=Sp.make_ok ok6 ⟨4,0,0,0,⟨#[]⟩,r5,r3⟩
 simp only at *
 generalize Sp.make L6 ⟨4,0,0,0,⟨#[]⟩,r5,r3⟩=m7 at *
 obtain ⟨m1,m2,L7⟩:=m7
 obtain ⟨rfl,rfl⟩:=Prod.mk.inj h78
 obtain ⟨Y7,G7,s7,k7⟩:=step Y6 G6 s6 X7 hF7
 refine ⟨r7,r8,rfl,k7,fun h7=>?_,fun h7=>?_⟩
 ·unfold Sp.thenS;rw [if_pos (by simpa using h7)]
  exact ⟨rfl,rfl,F7,hP7,Y7,fun b hb=>fin b G7 hb⟩
 rw [Sp.thenS,if_neg (by simpa using h7)]
 refine (c_Sign p w7 hP7 ok7 who r7).mono ?_
 rintro _ w8 ⟨r9,r10,rfl,h90,F8,hP8,X8,hF8⟩
 obtain ⟨e9,e10⟩:=Prod.mk.inj h90
 obtain ⟨Y8,G8,_,k8⟩:=step Y7 G7 s7 X8 hF8
 exact ⟨r9,r10,rfl,k8,e9,e10,F8,hP8,Y8,fun b hb=>fin b G8 hb⟩
end Go.Proofs
end
section
open Go Go.SE
namespace Go.Sp
theorem buildS_wf {L:Pool} (h:Wf L) (l:Letter):Wf (Go.Proofs.buildS L l).2.2:=by
 unfold Go.Proofs.buildS;split
 ·exact h
 ·exact of_wf h _
theorem convS_wf {L:Pool} (h:Wf L) (a b:Int):Wf (convS L a b).2.2:=by
 unfold convS;split
 ·exact h
 ·split
  ·exact h
  ·exact buildS_wf h _
theorem thenS_wf {m:Int×Int×Pool} {f:Int→Pool→Int×Int×Pool} (h:Wf m.2.2) (hf:∀t L,Wf L→Wf (f t L).2.2):Wf (thenS m f).2.2:=by
 unfold thenS;split
 ·exact h
 ·exact hf _ _ h
theorem reqS_wf {L:Pool} (h:Wf L) (who a b:Int):Wf (reqS L who a b).2.2:=by
 unfold reqS;split
 ·exact h
 ·split
  ·exact h
  ·exact thenS_wf (make_wf h _) fun t L h=>thenS_wf (make_wf h _) fun d L h=>thenS_wf (make_wf h _) fun t L h=>make_wf h _
def x12:ByteArray:=⟨#[120]⟩
def v1:Pool:=(Go.Proofs.buildS [] ⟨1,0,7,x12,false⟩).2.2
def v2:Pool:=(Go.Proofs.buildS v1 ⟨1,1,7,x12,false⟩).2.2
def v3:Pool:=(convS v2 6 7).2.2
def v4:Pool:=(reqS v3 1 6 7).2.2
theorem lv1:(Go.Proofs.buildS [] ⟨1,0,7,x12,false⟩).1=6:=by kernel_rfl
theorem lv2:(Go.Proofs.buildS v1 ⟨1,1,7,x12,false⟩).1=7:=by kernel_rfl
theorem lv3:(convS v2 6 7).1=10∧(convS v2 6 7).2.1=0:=by constructor <;> kernel_rfl
theorem lv4:convS v3 6 6=(0,122,v3):=by kernel_rfl
theorem lv5:convS v3 6 10=(0,120,v3):=by kernel_rfl
theorem lv6:(reqS v3 1 6 7).1=14∧(reqS v3 1 6 7).2.1=0:=by constructor <;> kernel_rfl
theorem lv7:read v4 14=(⟨4,1,7,x12,false⟩,true):=by kernel_rfl
theorem lv8:whyS v4 10 0 7 x12=0∧whyS v4 6 0 7 x12=2∧(ofS v4 10).length=3:=by refine ⟨?_,?_,?_⟩ <;> kernel_rfl
theorem lvw2:Wf v2:=buildS_wf (buildS_wf Wf.nil _) _
theorem lvw3:Wf v3:=convS_wf lvw2 _ _
theorem lvw4:Wf v4:=reqS_wf lvw3 _ _ _
theorem lvn:(∀t:Int,(t=14∨t=13∨t=12∨t=11∨t=6∨t=7∨t=5∨t=1∨t=4∨t=2∨t=3)→∀r u,Arises v4 r t u→(u=14∨u=13∨u=12∨u=11∨u=6∨u=7∨u=5∨u=1∨u=4∨u=2∨u=3)):=by
 have n14:nodeOf v4 14=⟨7,1,0,0,⟨#[]⟩,13,0⟩:=by kernel_rfl
 have n13:nodeOf v4 13=⟨4,0,0,0,⟨#[]⟩,12,11⟩:=by kernel_rfl
 have n12:nodeOf v4 12=⟨3,0,0,0,resolveT,0,0⟩:=by kernel_rfl
 have n11:nodeOf v4 11=⟨4,0,0,0,⟨#[]⟩,6,7⟩:=by kernel_rfl
 have n6:nodeOf v4 6=⟨8,0,1,0,⟨#[]⟩,5,0⟩:=by kernel_rfl
 have n7:nodeOf v4 7=⟨8,1,0,0,⟨#[]⟩,5,0⟩:=by kernel_rfl
 have n5:nodeOf v4 5=⟨4,0,0,0,⟨#[]⟩,1,4⟩:=by kernel_rfl
 have n1:nodeOf v4 1=⟨3,0,0,0,⟨#[100,101,97,108]⟩,0,0⟩:=by kernel_rfl
 have n4:nodeOf v4 4=⟨4,0,0,0,⟨#[]⟩,2,3⟩:=by kernel_rfl
 have n2:nodeOf v4 2=⟨2,0,0,7,⟨#[]⟩,0,0⟩:=by kernel_rfl
 have n3:nodeOf v4 3=⟨3,0,0,0,x12,0,0⟩:=by kernel_rfl
 intro t ht r u ha
 unfold Arises at ha
 rcases ht with rfl | rfl | rfl | rfl | rfl | rfl | rfl | rfl | rfl | rfl | rfl
 ·rw [n14] at ha;simp [showsK] at ha;omega
 ·rw [n13] at ha;simp [showsK] at ha;omega
 ·rw [n12] at ha;simp [showsK] at ha
 ·rw [n11] at ha;simp [showsK] at ha;omega
 ·rw [n6] at ha;simp [showsK] at ha;omega
 ·rw [n7] at ha;simp [showsK] at ha;omega
 ·rw [n5] at ha;simp [showsK] at ha;omega
 ·rw [n1] at ha;simp [showsK] at ha
 ·rw [n4] at ha;simp [showsK] at ha;omega
 ·rw [n2] at ha;simp [showsK] at ha
 ·rw [n3] at ha;simp [showsK] at ha
theorem lv9 {fs:List Fact} (h:AllOk v4 (gives v4 [14]) fs):fs.length=3:=by
 have hg:gives v4 [14]=[14]:=by kernel_rfl
 have e14:ofS v4 14=[⟨4,1,7,x12⟩,⟨1,0,7,x12⟩,⟨1,1,7,x12⟩]:=by kernel_rfl
 rw [hg] at h
 have hs:([⟨1,0,7,x12⟩,⟨1,1,7,x12⟩,⟨4,1,7,x12⟩]:List Fact).Pairwise LtF:=by
  simp [LtF]
 have:fs=[⟨1,0,7,x12⟩,⟨1,1,7,x12⟩,⟨4,1,7,x12⟩]:=by
  refine sorted_eq h.1 hs fun x=>(h.2 x).trans ⟨?_,fun hx=>⟨14,.given (by simp),?_⟩⟩
  ·rintro ⟨t,ht,hx⟩
   have hin:t=14∨t=13∨t=12∨t=11∨t=6∨t=7∨t=5∨t=1∨t=4∨t=2∨t=3:=by
    clear hx
    induction ht with
    | given hg=>simp at hg;simp [hg]
    | «from» _ ha ih=>exact lvn _ ih _ _ ha
   rcases hin with rfl | rfl | rfl | rfl | rfl | rfl | rfl | rfl | rfl | rfl | rfl
   ·rw [e14] at hx;simp at hx ⊢;rcases hx with h | h | h <;> simp [h]
   ·rw [show ofS v4 13=[] by kernel_rfl] at hx;simp at hx
   ·rw [show ofS v4 12=[] by kernel_rfl] at hx;simp at hx
   ·rw [show ofS v4 11=[] by kernel_rfl] at hx;simp at hx
   ·rw [show ofS v4 6=[⟨1,0,7,x12⟩] by kernel_rfl] at hx;simp at hx;simp [hx]
   ·rw [show ofS v4 7=[⟨1,1,7,x12⟩] by kernel_rfl] at hx;simp at hx;simp [hx]
   ·rw [show ofS v4 5=[] by kernel_rfl] at hx;simp at hx
   ·rw [show ofS v4 1=[] by kernel_rfl] at hx;simp at hx
   ·rw [show ofS v4 4=[] by kernel_rfl] at hx;simp at hx
   ·rw [show ofS v4 2=[] by kernel_rfl] at hx;simp at hx
   ·rw [show ofS v4 3=[] by kernel_rfl] at hx;simp at hx
  ·rw [e14];simp at hx ⊢;rcases hx with h | h | h <;> simp [h]
 rw [this];rfl
end Go.Sp
end
section
namespace Go.Sp
theorem cntAll_snoc (ts:List Tree) (t:Tree):cntAll (ts++[t])=cntAll ts+cnt t:=by
 induction ts with
 | nil=>simp [cntAll]
 | cons a ts ih=>rw [List.cons_append,cntAll,cntAll,ih];omega
theorem make_few8 (L:Pool) (n:Node):(make L n).2.2.length≤L.length+1:=by
 rcases make_pool L n with e | ⟨_,e⟩ <;> rw [e] <;> simp
theorem grow_few8 (t:Tree):∀L,(grow L t).2.2.length≤L.length+cnt t:=by
 induction t using Tree.ind with
 | h k f t u x ks ih =>
  have:∀(ks:List Tree),(∀i (hi:i<ks.length),∀L,(grow L ks[i]).2.2.length≤L.length+cnt ks[i])→∀n i L,(growAll n i L ks).2.2.length≤L.length+1+cntAll ks:=by
   intro ks
   induction ks with
   | nil=>intro _ n i L;unfold growAll;have:=make_few8 L n;simp only [cntAll];omega
   | cons t ts iht =>
    intro hh n i L
    have h0:=hh 0 (by simp) L
    simp only [List.getElem_cons_zero] at h0
    unfold growAll
    simp only [cntAll]
    split
    ·simp only;omega
    ·have:=iht (fun i hi=>hh (i+1) (by simpa using hi)) (if i=0 then { n with a:=(grow L t).1 } else { n with b:=(grow L t).1 }) (i+1) (grow L t).2.2
     omega
  intro L
  have:=this ks ih ⟨k,f,t,u,x,0,0⟩ 0 L
  unfold grow
  rw [cnt];omega
theorem of_few8 (L:Pool) (t:Tree):(of L t).2.2.length≤L.length+cnt t:=by
 have:=grow_few8 t L
 unfold of
 split
 ·simp only;omega
 ·split
  ·simp only;omega
  ·exact this
end Go.Sp
end
section
open Go Go.SE
namespace Go.Sp
theorem check_of {L : Pool} {n : Node} (hp : plainErr n = 0) (ha : (shapeOf n.kind).kids < 1 → n.a = 0) (hb : (shapeOf n.kind).kids < 2 → n.b = 0) (hf : fieldsErr (shapeOf n.kind) n = 0) (hk : ∀ k ∈ kidsOf n, inP L k = true) :
  check L n=if 1+((kidsOf n).map (sizeOf L)).sum>4096∨(kidsOf n).foldl (fun d t=>max d (depthOf L t)) 0+1>64 then (0,0,52) else (1+((kidsOf n).map (sizeOf L)).sum,(kidsOf n).foldl (fun d t=>max d (depthOf L t)) 0+1,0):=by
 unfold check
 simp only
 rw [if_neg (by simp [hp]),if_neg (fun h=>?_),if_neg (by simp [hf]),if_neg (fun h=>?_)]
 ·obtain ⟨k,hk1,hk2⟩:=List.any_eq_true.1 h
  rw [hk k hk1] at hk2;cases hk2
 ·rw [Bool.or_eq_true,Bool.and_eq_true,Bool.and_eq_true] at h
  rcases h with ⟨h1,h2⟩ | ⟨h1,h2⟩
  ·rw [ha (of_decide_eq_true h1)] at h2;simp at h2
  ·rw [hb (of_decide_eq_true h1)] at h2;simp at h2
theorem mk_ok {L : Pool} {n : Node} (hW : Wf L) (hl : L.length < 65536) (hp : plainErr n = 0) (ha : (shapeOf n.kind).kids < 1 → n.a = 0) (hb : (shapeOf n.kind).kids < 2 → n.b = 0) (hf : fieldsErr (shapeOf n.kind) n = 0) (hk : ∀ k ∈ kidsOf n, inP L k = true)
  {sz d:Int} (hs:1+((kidsOf n).map (sizeOf L)).sum=sz) (hd:(kidsOf n).foldl (fun d t=>max d (depthOf L t)) 0+1=d) :
  ((sz>4096∨d>64)→(make L n).2.1=52)∧(¬ (sz>4096∨d>64)→∃r M,make L n=(r,0,L++M)∧inP (L++M) r=true∧nodeOf (L++M) r=n∧Wf (L++M)∧sizeOf (L++M) r=sz∧depthOf (L++M) r=d∧(L++M).length≤L.length+1):=by
 have hc:=check_of hp ha hb hf hk
 rw [hs,hd] at hc
 refine ⟨fun h=>?_,fun h=>?_⟩
 ·rw [if_pos h] at hc
  unfold make;simp only [hc];rfl
 ·rw [if_neg h] at hc
  have h0:(make L n).2.1=0:=by
   unfold make;simp only [hc]
   rw [if_neg (by simp)]
   split
   ·rfl
   ·rw [if_neg (by omega)]
  obtain ⟨M,e⟩:=make_app L n
  obtain ⟨m1,m2,_⟩:=make_node h0
  have hw:=make_wf hW n
  have hfew:=make_few8 L n
  rw [e] at m1 m2 hw hfew
  refine ⟨(make L n).1,M,by rw [← e,← h0],m1,m2,hw,?_,?_,hfew⟩
  ·rw [(hw.node m1).2.2.2.2.2.1,m2,← hs]
   congr 2
   exact List.map_congr_left (fun k hk'=>sizeOf_app (hk k hk'))
  ·rw [(hw.node m1).2.2.2.2.2.2,m2,← hd]
   congr 1
   have:∀(l:List Int) (d:Int),(∀k∈l,inP L k=true)→l.foldl (fun d k=>max d (depthOf (L++M) k)) d=l.foldl (fun d k=>max d (depthOf L k)) d:=by
    intro l
    induction l with
    | nil=>intro d _;rfl
    | cons a l ih=>intro d hh;simp only [List.foldl_cons];rw [depthOf_app (hh a (by simp))];exact ih _ (fun k hk=>hh k (by simp [hk]))
   exact this _ _ hk
theorem make_old {L:Pool} (hW:Wf L) {t:Int} (ht:inP L t=true):make L (nodeOf L t)=(t,0,L):=by
 obtain ⟨h1,h2,h3,h4,h5,h6,h7⟩:=hW.node ht
 have hc:=check_of h1 h2 h3 h4 (fun k hk=>(h5 k hk).1)
 rw [← h6,← h7] at hc
 obtain ⟨i,hi,rfl⟩:=inP_at ht
 have hsz:=hW.ok.size L[i] (List.getElem_mem hi)
 have hdp:=hW.ok.depth L[i] (List.getElem_mem hi)
 have e1:sizeOf L ((i:Int)+1)=L[i].size:=by simp [sizeOf,get_at hi]
 have e2:depthOf L ((i:Int)+1)=L[i].depth:=by simp [depthOf,get_at hi]
 rw [if_neg (by omega)] at hc
 have hfd:find L (nodeOf L ((i:Int)+1))=some i:=by rw [nodeOf_lt hi];exact Go.Proofs.find_of hW.ok (List.getElem?_eq_getElem hi)
 unfold make
 simp only [hc,hfd]
 rw [if_neg (by simp)]
theorem kids_cases (k:Int):(shapeOf k).kids=0∨(shapeOf k).kids=1∨(shapeOf k).kids=2:=by
 unfold shapeOf noShape
 repeat' split
 all_goals simp
theorem grow_old {L:Pool} (hW:Wf L):∀(m:Nat) (t:Int),t.toNat=m→inP L t=true→grow L (treeOf L t)=(t,0,L):=by
 intro m
 induction m using Nat.strongRecOn with
 | _ m ih =>
 intro t hm ht
 have hmk:=make_old hW ht
 obtain ⟨h1,h2,h3,h4,h5,h6,h7⟩:=hW.node ht
 have hpos:=(inP_iff.1 ht).1
 have kid:∀k∈kidsOf (nodeOf L t),grow L (treeOf L k)=(k,0,L):=fun k hk=>by
  have:=inP_iff.1 (h5 k hk).1
  exact ih k.toNat (by have:=(h5 k hk).2;omega) k rfl (h5 k hk).1
 rw [treeOf_in hW ht,grow]
 generalize nodeOf L t=n at *
 obtain ⟨k,f,t',u,x,a,b⟩:=n
 unfold kidsOf at kid ⊢
 simp only at *
 rcases kids_cases k with h | h | h
 ·rw [h] at kid ⊢
  have ea:=h2 (by omega);have eb:=h3 (by omega)
  subst ea;subst eb
  simpa [growAll] using hmk
 ·rw [h] at kid ⊢
  have eb:=h3 (by omega)
  subst eb
  have k1:=kid a (by simp)
  simpa [growAll,k1] using hmk
 ·rw [h] at kid ⊢
  have k1:=kid a (by simp)
  have k2:=kid b (by simp)
  simpa [growAll,k1,k2] using hmk
structure LP (T:Tree) (sz d:Int):Prop where
 s1:1≤sz
 d1:1≤d
 yes:∀i s,0≤i→0≤s→s+sz≤4096→i+d≤64→looks i s T=(0,s+sz)
 no:∀i s,0≤i→0≤s→(4096<s+sz∨64<i+d)→(looks i s T).1=52
theorem LP0 {k f t u:Int} {x:ByteArray} (h:ownErr ⟨k,f,t,u,x,0,0⟩ 0=0):LP (.mk k f t u x []) 1 1:=by
 refine ⟨by omega,by omega,fun i s hi hs h1 h2=>?_,fun i s hi hs h1=>?_⟩
 ·rw [looks,if_neg (by omega),if_neg (by omega)];simp [looksAll,h]
 ·rw [looks]
  split
  ·rfl
  ·rw [if_pos (by omega)]
theorem LP1 {k f t u:Int} {x:ByteArray} {A:Tree} {sa da:Int} (h:ownErr ⟨k,f,t,u,x,0,0⟩ 1=0) (hA:LP A sa da):LP (.mk k f t u x [A]) (1+sa) (da+1):=by
 have a1:=hA.s1;have a2:=hA.d1
 refine ⟨by omega,by omega,fun i s hi hs h1 h2=>?_,fun i s hi hs h1=>?_⟩
 ·rw [looks,if_neg (by omega),if_neg (by omega)]
  simp only [List.length_cons,List.length_nil,looksAll,h,if_pos,hA.yes (i+1) (s+1) (by omega) (by omega) (by omega) (by omega)]
  simp;omega
 ·rw [looks]
  split
  ·rfl
  ·split
   ·rfl
   ·simp only [List.length_cons,List.length_nil,looksAll,h,if_pos]
    simpa using hA.no (i+1) (s+1) (by omega) (by omega) (by omega)
theorem LP2 {k f t u:Int} {x:ByteArray} {A B:Tree} {sa da sb db:Int} (h:ownErr ⟨k,f,t,u,x,0,0⟩ 2=0) (hA:LP A sa da) (hB:LP B sb db):LP (.mk k f t u x [A,B]) (1+(sa+sb)) (max da db+1):=by
 have a1:=hA.s1;have a2:=hA.d1;have b1:=hB.s1;have b2:=hB.d1
 refine ⟨by omega,by omega,fun i s hi hs h1 h2=>?_,fun i s hi hs h1=>?_⟩
 ·rw [looks,if_neg (by omega),if_neg (by omega)]
  simp only [List.length_cons,List.length_nil,looksAll,h,if_pos,hA.yes (i+1) (s+1) (by omega) (by omega) (by omega) (by omega),hB.yes (i+1) (s+1+sa) (by omega) (by omega) (by omega) (by omega)]
  simp;omega
 ·rw [looks]
  split
  ·rfl
  ·split
   ·rfl
   ·simp only [List.length_cons,List.length_nil,looksAll,h,if_pos]
    by_cases hc:s+1+sa≤4096∧i+1+da≤64
    ·rw [hA.yes (i+1) (s+1) (by omega) (by omega) hc.1 hc.2]
     simpa using hB.no (i+1) (s+1+sa) (by omega) (by omega) (by omega)
    ·have:=hA.no (i+1) (s+1) (by omega) (by omega) (by omega)
     rw [this];simp
theorem looks_old {L:Pool} (hW:Wf L):∀(m:Nat) (t:Int),t.toNat=m→inP L t=true→LP (treeOf L t) (sizeOf L t) (depthOf L t):=by
 intro m
 induction m using Nat.strongRecOn with
 | _ m ih =>
 intro t hm ht
 obtain ⟨h1,h2,h3,h4,h5,h6,h7⟩:=hW.node ht
 have hpos:=(inP_iff.1 ht).1
 have kid:∀k∈kidsOf (nodeOf L t),LP (treeOf L k) (sizeOf L k) (depthOf L k):=fun k hk=>by
  have:=inP_iff.1 (h5 k hk).1
  exact ih k.toNat (by have:=(h5 k hk).2;omega) k rfl (h5 k hk).1
 have own:∀len:Nat,(len:Int)=(shapeOf (nodeOf L t).kind).kids→ownErr ⟨(nodeOf L t).kind,(nodeOf L t).frm,(nodeOf L t).to,(nodeOf L t).num,(nodeOf L t).text,0,0⟩ len=0:=fun len hl=>by
  have e1:plainErr ⟨(nodeOf L t).kind,(nodeOf L t).frm,(nodeOf L t).to,(nodeOf L t).num,(nodeOf L t).text,0,0⟩=0:=h1
  have e2:fieldsErr (shapeOf (nodeOf L t).kind) ⟨(nodeOf L t).kind,(nodeOf L t).frm,(nodeOf L t).to,(nodeOf L t).num,(nodeOf L t).text,0,0⟩=0:=h4
  unfold ownErr
  simp only [e1]
  simp [hl,e2]
 rw [treeOf_in hW ht,h6,h7]
 generalize nodeOf L t=n at *
 obtain ⟨k,f,t',u,x,a,b⟩:=n
 unfold kidsOf at kid ⊢
 simp only at *
 rcases kids_cases k with h | h | h
 ·rw [h];simpa using LP0 (own 0 (by omega))
 ·rw [h] at kid ⊢
  have k1:=kid a (by simp)
  have:=LP1 (own 1 (by omega)) k1
  have e:=k1.d1
  simpa [Int.max_eq_right (show 0≤depthOf L a by omega)] using this
 ·rw [h] at kid ⊢
  have k1:=kid a (by simp)
  have k2:=kid b (by simp)
  have:=LP2 (own 2 (by omega)) k1 k2
  have e:=k1.d1
  simpa [Int.max_eq_right (show 0≤depthOf L a by omega)] using this
end Go.Sp
end
section
open Go Go.SE
namespace Go.Sp
def reqT (L:Pool) (who a b:Int):Tree:=signT who (pairT (dataT resolveT) (pairT (treeOf L a) (treeOf L b)))
def reqBig (L:Pool) (a b:Int):Prop:=4+(sizeOf L a+sizeOf L b)>4096∨max (depthOf L a) (depthOf L b)+3>64
theorem pos_of {L:Pool} (hW:Wf L) {t:Int} (ht:inP L t=true):1≤sizeOf L t∧1≤depthOf L t:=by
 have:=looks_old hW _ t rfl ht
 exact ⟨this.s1,this.d1⟩
theorem pair_ok {L : Pool} (hW : Wf L) (hl : L.length < 65536) {a b : Int} (ha : inP L a = true) (hb : inP L b = true) {sz d : Int} (hs : 1 + (sizeOf L a + sizeOf L b) = sz) (hd : max (depthOf L a) (depthOf L b) + 1 = d) :
  ((sz>4096∨d>64)→(make L ⟨4,0,0,0,⟨#[]⟩,a,b⟩).2.1=52)∧(¬ (sz>4096∨d>64)→∃r M,make L ⟨4,0,0,0,⟨#[]⟩,a,b⟩=(r,0,L++M)∧inP (L++M) r=true∧treeOf (L++M) r=pairT (treeOf (L++M) a) (treeOf (L++M) b)∧Wf (L++M)∧sizeOf (L++M) r=sz∧depthOf (L++M) r=d∧(L++M).length≤L.length+1):=by
 have da:=(pos_of hW ha).2
 have hk:kidsOf ⟨4,0,0,0,⟨#[]⟩,a,b⟩=[a,b]:=rfl
 obtain ⟨h1,h2⟩:=mk_ok (n:=⟨4,0,0,0,⟨#[]⟩,a,b⟩) hW hl (by kernel_rfl) (fun h=>by simp [shapeOf] at h) (fun h=>by simp [shapeOf] at h) (by kernel_rfl) (by rw [hk];intro k hk';simp at hk';rcases hk' with rfl | rfl;exact ha;exact hb) (sz:=sz) (d:=d) (by rw [hk];simp;omega) (by rw [hk];simp;omega)
 refine ⟨h1,fun h=>?_⟩
 obtain ⟨r,M,e,h3,h4,h5,h6,h7,h8⟩:=h2 h
 exact ⟨r,M,e,h3,by rw [treeOf_in h5 h3,h4];rfl,h5,h6,h7,h8⟩
theorem data_ok {x:ByteArray} (hx:x.size≤64) {L:Pool} (hW:Wf L) (hl:L.length<65536):∃r M,make L ⟨3,0,0,0,x,0,0⟩=(r,0,L++M)∧inP (L++M) r=true∧treeOf (L++M) r=dataT x∧Wf (L++M)∧sizeOf (L++M) r=1∧depthOf (L++M) r=1∧(L++M).length≤L.length+1:=by
 have hk:kidsOf ⟨3,0,0,0,x,0,0⟩=[]:=rfl
 obtain ⟨_,h2⟩:=mk_ok (n:=⟨3,0,0,0,x,0,0⟩) hW hl (by kernel_rfl) (fun _=>rfl) (fun _=>rfl) (by show (if false=true then (50:Int) else if x.size>64 then 1 else 0)=0;rw [if_neg (by simp),if_neg (by omega)]) (by rw [hk];simp) (sz:=1) (d:=1) (by rw [hk];rfl) (by rw [hk];rfl)
 obtain ⟨r,M,e,h3,h4,h5,h6,h7,h8⟩:=h2 (by omega)
 exact ⟨r,M,e,h3,by rw [treeOf_in h5 h3,h4];rfl,h5,h6,h7,h8⟩
theorem sign_ok {L : Pool} (hW : Wf L) (hl : L.length < 65536) {who a : Int} (hw : who = 0 ∨ who = 1 ∨ who = 2) (ha : inP L a = true) {sz d : Int} (hs : 1 + sizeOf L a = sz) (hd : depthOf L a + 1 = d) :
  ((sz>4096∨d>64)→(make L ⟨7,who,0,0,⟨#[]⟩,a,0⟩).2.1=52)∧(¬ (sz>4096∨d>64)→∃r M,make L ⟨7,who,0,0,⟨#[]⟩,a,0⟩=(r,0,L++M)∧inP (L++M) r=true∧treeOf (L++M) r=signT who (treeOf (L++M) a)∧Wf (L++M)∧sizeOf (L++M) r=sz∧depthOf (L++M) r=d∧(L++M).length≤L.length+1):=by
 have da:=(pos_of hW ha).2
 have hk:kidsOf ⟨7,who,0,0,⟨#[]⟩,a,0⟩=[a]:=rfl
 obtain ⟨h1,h2⟩:=mk_ok (n:=⟨7,who,0,0,⟨#[]⟩,a,0⟩) hW hl (by rcases hw with rfl | rfl | rfl <;> kernel_rfl) (fun h=>by simp [shapeOf] at h) (fun _=>rfl) (by rcases hw with rfl | rfl | rfl <;> kernel_rfl) (by rw [hk];intro k hk';simp at hk';rw [hk'];exact ha) (sz:=sz) (d:=d) (by rw [hk];simpa using hs) (by rw [hk];simp;omega)
 refine ⟨h1,fun h=>?_⟩
 obtain ⟨r,M,e,h3,h4,h5,h6,h7,h8⟩:=h2 h
 exact ⟨r,M,e,h3,by rw [treeOf_in h5 h3,h4];rfl,h5,h6,h7,h8⟩
theorem chain_ok {L : Pool} (hW : Wf L) (hl : L.length < 60000) {who a b : Int} (hw : who = 0 ∨ who = 1) (ha : inP L a = true) (hb : inP L b = true) {R : Int × Int × Pool}
  (hR:R=thenS (make L ⟨4,0,0,0,⟨#[]⟩,a,b⟩) fun t L=>thenS (make L ⟨3,0,0,0,resolveT,0,0⟩) fun d L=>thenS (make L ⟨4,0,0,0,⟨#[]⟩,d,t⟩) fun t L=>make L ⟨7,who,0,0,⟨#[]⟩,t,0⟩) :
  (reqBig L a b→R.1=0∧R.2.1=52)∧(¬ reqBig L a b→R.2.1=0∧inP R.2.2 R.1=true∧treeOf R.2.2 R.1=reqT L who a b):=by
 subst hR
 have pa:=pos_of hW ha
 have pb:=pos_of hW hb
 unfold reqBig
 have z1:∀(L:Pool) (n:Node),(make L n).2.1=52→(make L n).1=0:=fun L n h=>by
  unfold make at h ⊢
  simp only at h ⊢
  split
  ·rfl
  ·rename_i hc;rw [if_neg hc] at h;split <;> rename_i hf <;> rw [hf] at h <;> simp only at h ⊢
   ·omega
   ·split
    ·rfl
    ·rename_i h2;rw [if_neg h2] at h;simp at h
 obtain ⟨p1,p2⟩:=pair_ok hW (by omega) ha hb (sz:=1+(sizeOf L a+sizeOf L b)) (d:=max (depthOf L a) (depthOf L b)+1) rfl rfl
 by_cases h1:1+(sizeOf L a+sizeOf L b)>4096∨max (depthOf L a) (depthOf L b)+1>64
 ·have e:=p1 h1
  refine ⟨fun _=>?_,fun h=>absurd (by omega) h⟩
  rw [thenS,if_pos (by rw [e];simp)]
  exact ⟨rfl,e⟩
 obtain ⟨t1,M1,e1,i1,x1,w1,s1,d1,l1⟩:=p2 h1
 rw [e1,thenS,if_neg (by simp)]
 simp only
 have tr:∀{A M:Pool} (hW:Wf (A++M)) {v:Int},inP A v=true→treeOf (A++M) v=treeOf A v:=by intro A M hW v hv;exact treeOf_app hW _ v rfl hv
 obtain ⟨t2,M2,e2,i2,x2,w2,s2,d2,l2⟩:=data_ok (x:=resolveT) (by decide) w1 (by omega)
 rw [e2,thenS,if_neg (by simp)]
 simp only
 have i1':inP (L++M1++M2) t1=true:=inP_app i1
 obtain ⟨p3,p4⟩:=pair_ok w2 (by omega) i2 i1' (sz:=3+(sizeOf L a+sizeOf L b)) (d:=max (depthOf L a) (depthOf L b)+2) (by rw [s2,sizeOf_app i1,s1];omega) (by rw [d2,depthOf_app i1,d1];omega)
 by_cases h3:3+(sizeOf L a+sizeOf L b)>4096∨max (depthOf L a) (depthOf L b)+2>64
 ·have e:=p3 h3
  refine ⟨fun _=>?_,fun h=>absurd (by omega) h⟩
  rw [thenS,if_pos (by rw [e];simp)]
  exact ⟨rfl,e⟩
 obtain ⟨t3,M3,e3,i3,x3,w3,s3,d3,l3⟩:=p4 h3
 rw [e3,thenS,if_neg (by simp)]
 simp only
 obtain ⟨p5,p6⟩:=sign_ok (who:=who) w3 (by omega) (hw.imp id .inl) i3 (sz:=4+(sizeOf L a+sizeOf L b)) (d:=max (depthOf L a) (depthOf L b)+3) (by rw [s3];omega) (by rw [d3];omega)
 refine ⟨fun h=>⟨z1 _ _ (p5 h),p5 h⟩,fun h=>?_⟩
 obtain ⟨t4,M4,e4,i4,x4,w4,s4,d4,l4⟩:=p6 h
 rw [e4]
 refine ⟨rfl,i4,?_⟩
 have j3:inP (L++M1) a=true:=inP_app ha
 have j3b:inP (L++M1) b=true:=inP_app hb
 rw [x4,tr w4 i3,x3,tr w3 i2,x2,tr w3 i1',tr w2 i1,x1,tr w1 ha,tr w1 hb]
 rfl
theorem of_req {L : Pool} (hW : Wf L) (hl : L.length < 60000) {who a b : Int} (hw : who = 0 ∨ who = 1) (ha : inP L a = true) (hb : inP L b = true) :
  (reqBig L a b→of L (reqT L who a b)=(0,52,L))∧(¬ reqBig L a b→(of L (reqT L who a b)).2.1=0):=by
 have la:=looks_old hW _ a rfl ha
 have lb:=looks_old hW _ b rfl hb
 have pa:=pos_of hW ha
 have pb:=pos_of hW hb
 have lp:LP (reqT L who a b) (1+(1+(1+(1+(sizeOf L a+sizeOf L b))))) (max 1 (max (depthOf L a) (depthOf L b)+1)+1+1):=by
  have h1:LP (pairT (treeOf L a) (treeOf L b)) _ _:=LP2 (by decide) la lb
  have h2:LP (dataT resolveT) 1 1:=LP0 (by decide)
  have h3:LP (pairT (dataT resolveT) (pairT (treeOf L a) (treeOf L b))) _ _:=LP2 (by decide) h2 h1
  have h4:LP (signT who (pairT (dataT resolveT) (pairT (treeOf L a) (treeOf L b)))) _ _:=LP1 (by rcases hw with rfl | rfl <;> kernel_rfl) h3
  exact h4
 unfold reqBig
 refine ⟨fun h=>?_,fun h=>?_⟩
 ·have:=lp.no 0 0 (by omega) (by omega) (by omega)
  unfold of;rw [if_pos (by rw [this];simp),this]
 ·have hk:=lp.yes 0 0 (by omega) (by omega) (by omega) (by omega)
  have tr:∀{A M:Pool} (hW:Wf (A++M)) {v:Int},inP A v=true→treeOf (A++M) v=treeOf A v:=by intro A M hW v hv;exact treeOf_app hW _ v rfl hv
  obtain ⟨t2,M2,e2,i2,x2,w2,s2,d2,l2⟩:=data_ok (x:=resolveT) (by decide) hW (by omega)
  have ia:inP (L++M2) a=true:=inP_app ha
  have ib:inP (L++M2) b=true:=inP_app hb
  have ga:grow (L++M2) (treeOf L a)=(a,0,L++M2):=by rw [← tr w2 ha];exact grow_old w2 _ a rfl ia
  have gb:grow (L++M2) (treeOf L b)=(b,0,L++M2):=by rw [← tr w2 hb];exact grow_old w2 _ b rfl ib
  obtain ⟨_,p2⟩:=pair_ok w2 (by omega) ia ib (sz:=1+(sizeOf L a+sizeOf L b)) (d:=max (depthOf L a) (depthOf L b)+1) (by rw [sizeOf_app ha,sizeOf_app hb]) (by rw [depthOf_app ha,depthOf_app hb])
  obtain ⟨t1,M1,e1,i1,x1,w1,s1,d1,l1⟩:=p2 (by omega)
  obtain ⟨_,p4⟩:=pair_ok w1 (by omega) (inP_app i2) i1 (sz:=3+(sizeOf L a+sizeOf L b)) (d:=max (depthOf L a) (depthOf L b)+2) (by rw [sizeOf_app i2,s2,s1];omega) (by rw [depthOf_app i2,d2,d1];omega)
  obtain ⟨t3,M3,e3,i3,x3,w3,s3,d3,l3⟩:=p4 (by omega)
  obtain ⟨_,p6⟩:=sign_ok (who:=who) w3 (by omega) (hw.imp id .inl) i3 (sz:=4+(sizeOf L a+sizeOf L b)) (d:=max (depthOf L a) (depthOf L b)+3) (by rw [s3];omega) (by rw [d3];omega)
  obtain ⟨t4,M4,e4,i4,x4,w4,s4,d4,l4⟩:=p6 (by omega)
  have hg:grow L (reqT L who a b)=(t4,0,L++M2++M1++M3++M4):=by
   unfold reqT signT pairT dataT
   simp [-List.append_assoc,grow,growAll,e2,ga,gb,e1,e3,e4]
  unfold of
  rw [hk,if_neg (by simp),hg];simp
end Go.Sp
end
section
namespace Go.Sp
theorem size_cnt {L:Pool} (hW:Wf L):∀(n:Nat) (t:Int),t.toNat=n→inP L t=true→sizeOf L t=cnt (treeOf L t):=by
 intro n
 induction n using Nat.strongRecOn with
 | _ n ih =>
 intro t hn ht
 have h:=hW.node ht
 rw [treeOf_in hW ht,h.2.2.2.2.2.1,cnt]
 have:∀l:List Int,(∀k∈l,sizeOf L k=cnt (treeOf L k))→(l.map (sizeOf L)).sum=(cntAll (l.map (treeOf L)):Int):=by
  intro l
  induction l with
  | nil=>intro _;rfl
  | cons a l ihl=>intro hh;simp only [List.map_cons,List.sum_cons,cntAll,hh a (by simp),ihl (fun k hk=>hh k (by simp [hk]))];omega
 rw [this _ (fun k hk=>?_)]
 ·omega
 ·have hk2:=h.2.2.2.2.1 k hk
  have:=inP_iff.1 hk2.1
  exact ih k.toNat (by omega) k rfl hk2.1
theorem rdNode_ok {L:Pool} {t k:Int} (h:(rdNode L t k).2=false):inP L t=true∧(nodeOf L t).kind=k∧rdNode L t k=(nodeOf L t,false):=by
 unfold rdNode at h ⊢
 split at h
 ·rename_i hh;exact ⟨hh.1,hh.2,by rw [if_pos hh]⟩
 ·cases h
theorem rdNode_of {L:Pool} {t k:Int} (h:inP L t=true) (hk:(nodeOf L t).kind=k):rdNode L t k=(nodeOf L t,false):=by unfold rdNode;rw [if_pos ⟨h,hk⟩]
section
variable {L:Pool} (hW:Wf L) {t:Int} (ht:inP L t=true)
include hW ht
theorem nd_text:(nodeOf L t).text.size≤64:=by
 have:=(hW.node ht).2.2.2.1
 unfold fieldsErr at this
 split at this
 ·cases this
 split at this
 ·cases this
 ·omega
theorem nd3 (hk:(nodeOf L t).kind=3):treeOf L t=dataT (nodeOf L t).text:=by
 have h:=(hW.node ht).1
 rw [treeOf_in hW ht,hk,dataT]
 have hkk:kidsOf (nodeOf L t)=[]:=by unfold kidsOf;rw [hk];rfl
 rw [hkk]
 unfold plainErr at h
 rw [hk] at h
 simp [shapeOf,isKind] at h
 simp [h]
theorem nd2 (hk:(nodeOf L t).kind=2):treeOf L t=numT (nodeOf L t).num:=by
 have h:=(hW.node ht).1
 rw [treeOf_in hW ht,hk,numT]
 have hkk:kidsOf (nodeOf L t)=[]:=by unfold kidsOf;rw [hk];rfl
 rw [hkk]
 unfold plainErr at h
 rw [hk] at h
 simp [shapeOf,isKind] at h
 simp [h]
theorem nd4 (hk:(nodeOf L t).kind=4):inP L (nodeOf L t).a=true∧inP L (nodeOf L t).b=true∧treeOf L t=pairT (treeOf L (nodeOf L t).a) (treeOf L (nodeOf L t).b):=by
 have h:=(hW.node ht).1
 have hp:=(hW.node ht).2.2.2.2.1
 have hkk:kidsOf (nodeOf L t)=[(nodeOf L t).a,(nodeOf L t).b]:=by unfold kidsOf;rw [hk];rfl
 rw [hkk] at hp
 refine ⟨(hp _ (by simp)).1,(hp _ (by simp)).1,?_⟩
 rw [treeOf_in hW ht,hk,pairT,hkk]
 unfold plainErr at h
 rw [hk] at h
 simp [shapeOf,isKind] at h
 simp [h]
theorem nd7 (hk:(nodeOf L t).kind=7):inP L (nodeOf L t).a=true∧0≤(nodeOf L t).frm∧treeOf L t=signT (nodeOf L t).frm (treeOf L (nodeOf L t).a):=by
 have h:=(hW.node ht).1
 have hf:=(hW.node ht).2.2.2.1
 have hp:=(hW.node ht).2.2.2.2.1
 have hkk:kidsOf (nodeOf L t)=[(nodeOf L t).a]:=by unfold kidsOf;rw [hk];rfl
 rw [hkk] at hp
 refine ⟨(hp _ (by simp)).1,?_,?_⟩
 ·unfold fieldsErr at hf
  rw [hk] at hf
  split at hf
  ·cases hf
  ·rename_i hh;simp [shapeOf,isName] at hh;omega
 rw [treeOf_in hW ht,hk,signT,hkk]
 unfold plainErr at h
 rw [hk] at h
 simp [shapeOf,isKind] at h
 simp [h]
theorem nd89 (hk:(nodeOf L t).kind=8∨(nodeOf L t).kind=9):inP L (nodeOf L t).a=true∧0≤(nodeOf L t).frm∧(nodeOf L t).frm<16∧((nodeOf L t).to=1 - (nodeOf L t).frm→treeOf L t=promT (nodeOf L t).frm (treeOf L (nodeOf L t).a) ((nodeOf L t).kind == 9)):=by
 have h:=(hW.node ht).1
 have hf:=(hW.node ht).2.2.2.1
 have hp:=(hW.node ht).2.2.2.2.1
 have hkk:kidsOf (nodeOf L t)=[(nodeOf L t).a]:=by unfold kidsOf;rcases hk with hk | hk <;> (rw [hk];rfl)
 rw [hkk] at hp
 have hff:0≤(nodeOf L t).frm∧(nodeOf L t).frm<16:=by
  unfold fieldsErr at hf
  rcases hk with hk | hk <;>
  ·rw [hk] at hf
   split at hf
   ·cases hf
   ·rename_i hh;simp [shapeOf,isName] at hh;omega
 refine ⟨(hp _ (by simp)).1,hff.1,hff.2,fun hto=>?_⟩
 rw [treeOf_in hW ht,promT,hkk,← hto]
 unfold plainErr at h
 rcases hk with hk | hk <;>
 ·rw [hk] at h ⊢
  simp [shapeOf,isKind] at h
  simp [h]
theorem nd_kind {k f t' u:Int} {x:ByteArray} {ks:List Tree} (h:treeOf L t=.mk k f t' u x ks):(nodeOf L t).kind=k∧(nodeOf L t).frm=f∧(nodeOf L t).to=t'∧(nodeOf L t).num=u∧(nodeOf L t).text=x:=by
 rw [treeOf_in hW ht] at h
 injection h with h1 h2 h3 h4 h5 h6
 exact ⟨h1,h2,h3,h4,h5⟩
end
theorem wrap_small {n:Int} (h:0≤n∧n<16):IntKind.i64.wrap (1 - n)=1 - n:=IntWalk.i64_in _ (by omega)
section
variable {L:Pool} (hW:Wf L) {t:Int}
include hW
theorem rdTagged_ok (h:(rdTagged L t).2=false):inP L t=true∧inP L (rdTagged L t).1.2=true∧treeOf L t=pairT (dataT (rdTagged L t).1.1) (treeOf L (rdTagged L t).1.2):=by
 unfold rdTagged at h ⊢
 simp only [Bool.or_eq_false_iff] at h
 obtain ⟨ht,hk,e1⟩:=rdNode_ok h.1
 rw [e1] at h ⊢
 simp only at h ⊢
 obtain ⟨ha,hka,e2⟩:=rdNode_ok h.2
 rw [e2]
 obtain ⟨_,h2,h3⟩:=nd4 hW ht hk
 exact ⟨ht,h2,by rw [h3,nd3 hW ha hka]⟩
theorem rdTagged_of (ht:inP L t=true) {g:ByteArray} {y:Tree} (h:treeOf L t=pairT (dataT g) y):∃n,rdTagged L t=((g,n),false)∧inP L n=true∧treeOf L n=y:=by
 have hk:=(nd_kind hW ht (h.trans rfl)).1
 obtain ⟨h1,h2,h3⟩:=nd4 hW ht hk
 rw [h] at h3
 have e1:dataT g=treeOf L (nodeOf L t).a:=by simpa [pairT] using (Tree.mk.inj h3).2.2.2.2.2 |> fun e=>(List.cons.inj e).1
 have e2:y=treeOf L (nodeOf L t).b:=by have:=(Tree.mk.inj h3).2.2.2.2.2;exact (List.cons.inj (List.cons.inj this).2).1
 have hka:=nd_kind hW h1 (e1.symm.trans rfl)
 refine ⟨(nodeOf L t).b,?_,h2,e2.symm⟩
 unfold rdTagged
 rw [rdNode_of ht hk]
 simp only
 rw [rdNode_of h1 hka.1]
 simp [hka.2.2.2.2]
theorem rdDeal_ok (h:(rdDeal L t).2=false):inP L t=true∧treeOf L t=dealT (rdDeal L t).1.1 (rdDeal L t).1.2∧(rdDeal L t).1.2.size≤64:=by
 unfold rdDeal at h ⊢
 simp only [Bool.or_eq_false_iff,Bool.not_eq_false',decide_eq_true_eq] at h
 obtain ⟨⟨⟨⟨h1,h2⟩,h3⟩,h4⟩,h5⟩:=h
 obtain ⟨ht,_,e⟩:=rdTagged_ok hW h1
 obtain ⟨hp,hpk,e2⟩:=rdNode_ok h2
 simp only at h3 ⊢
 rw [e2] at h4 h5 ⊢
 simp only at h4 h5 ⊢
 obtain ⟨ha,hak,e4⟩:=rdNode_ok h4
 obtain ⟨hb,hbk,e5⟩:=rdNode_ok h5
 rw [e4,e5]
 refine ⟨ht,?_,nd_text hW hb⟩
 rw [e,h3,(nd4 hW hp hpk).2.2,nd2 hW ha hak,nd3 hW hb hbk]
 rfl
theorem rdDeal_of (ht:inP L t=true) {c:Int} {x:ByteArray} (h:treeOf L t=dealT c x):rdDeal L t=((c,x),false):=by
 obtain ⟨n,e1,hn,e⟩:=rdTagged_of hW ht h
 have hk:=(nd_kind hW hn (e.trans rfl)).1
 obtain ⟨h1,h2,h3⟩:=nd4 hW hn hk
 rw [e] at h3
 have q1:numT c=treeOf L (nodeOf L n).a:=(List.cons.inj (Tree.mk.inj h3).2.2.2.2.2).1
 have q2:dataT x=treeOf L (nodeOf L n).b:=(List.cons.inj (List.cons.inj (Tree.mk.inj h3).2.2.2.2.2).2).1
 have k1:=nd_kind hW h1 (q1.symm.trans rfl)
 have k2:=nd_kind hW h2 (q2.symm.trans rfl)
 unfold rdDeal
 rw [e1]
 simp only
 rw [rdNode_of hn hk]
 simp only
 rw [rdNode_of h1 k1.1,rdNode_of h2 k2.1]
 simp [k1.2.2.2.1,k2.2.2.2.2]
theorem rdNum_of (ht:inP L t=true) {c:Int} (h:treeOf L t=numT c):(rdNode L t 2).1.num=c∧(rdNode L t 2).2=false:=by
 have k:=nd_kind hW ht (h.trans rfl)
 rw [rdNode_of ht k.1]
 exact ⟨k.2.2.2.1,rfl⟩
theorem rdNum_ok (h:(rdNode L t 2).2=false):inP L t=true∧treeOf L t=numT (rdNode L t 2).1.num:=by
 obtain ⟨h1,h2,e⟩:=rdNode_ok h
 rw [e]
 exact ⟨h1,nd2 hW h1 h2⟩
theorem rdPromise_ok (ht:inP L t=true) (h:(rdPromise L t).2=false):(rdPromise L t).1.kind=1∧((rdPromise L t).1.frm=0∨(rdPromise L t).1.frm=1)∧treeOf L t=promT (rdPromise L t).1.frm (dealT (rdPromise L t).1.c (rdPromise L t).1.text) (rdPromise L t).1.fake∧(rdPromise L t).1.text.size≤64:=by
 unfold rdPromise at h ⊢
 simp only at h ⊢
 split at h
 ·cases h
 rename_i hh
 rw [if_neg hh]
 simp only [not_or,not_and,Classical.not_not] at hh
 have hk:(nodeOf L t).kind=8∨(nodeOf L t).kind=9:=by
  by_cases h8:(nodeOf L t).kind=8
  ·exact .inl h8
  ·exact .inr (hh.1 h8)
 obtain ⟨ha,h0,h16,hT⟩:=nd89 hW ht hk
 have hto:=hh.2.2
 rw [wrap_small ⟨h0,h16⟩] at hto
 obtain ⟨_,e,hx⟩:=rdDeal_ok hW h
 simp only
 refine ⟨trivial,by have:=hh.2.1;omega,by rw [hT hto,e],hx⟩
theorem rdPromise_of (ht:inP L t=true) {n c:Int} {x:ByteArray} {g:Bool} (hn:n=0∨n=1) (h:treeOf L t=promT n (dealT c x) g):rdPromise L t=(⟨1,n,c,x,g⟩,false):=by
 have k:=nd_kind hW ht (h.trans rfl)
 have hk:(nodeOf L t).kind=8∨(nodeOf L t).kind=9:=by rw [k.1];cases g <;> simp
 obtain ⟨ha,h0,h16,hT⟩:=nd89 hW ht hk
 have:=hT (by rw [k.2.2.1,k.2.1])
 rw [h,k.2.1] at this
 have q1:dealT c x=treeOf L (nodeOf L t).a:=(List.cons.inj (Tree.mk.inj this).2.2.2.2.2).1
 unfold rdPromise
 simp only
 rw [if_neg,rdDeal_of hW ha q1.symm,k.1,k.2.1]
 ·cases g <;> rfl
 ·simp only [not_or,not_and,Classical.not_not]
  refine ⟨fun h8=>hk.resolve_left h8,by rw [k.2.1];omega,?_⟩
  rw [k.2.2.1,wrap_small ⟨h0,h16⟩,k.2.1]
end
end Go.Sp
end
