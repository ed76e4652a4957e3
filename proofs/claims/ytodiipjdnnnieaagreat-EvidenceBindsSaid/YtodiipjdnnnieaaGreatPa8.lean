import Derived.Test.YtodiipjdnnnieaaGreatPa7
import Derived.Test.YtodiipjdnnnieaaGreatProg
import Derived.KernelRfl
import Derived.Test.YtodiipjdnnnieaaGreatPa3
import Derived.Test.YtodiipjdnnnieaaGreatPa6
import Derived.Test.YtodiipjdnnnieaaGreatPa5
import Derived.ProofKit
import Derived.Carry
import Derived.OpenShut
import Derived.Stop.Joined
import Derived.Test.YtodiipjdnnnieaaGreatPa4
section
open Go Go.SE
namespace Go.Proofs
attribute [local irreducible] Calls
theorem c_ref05_Tree (p : Addr) {L : Sp.Pool} (hW : Sp.Wf L) : ∀ (n : Nat) (t : Int) (w0 : World) (F : NP), t.toNat = n → PoolR w0 p L F →
  Calls Tryz.prog 49 #[.pointer (some p),.int .i64 t] w0 (RetT w0.heap.size w0 (Sp.treeOf L t)):=by
 intro n
 induction n using Nat.strongRecOn with
 | _ n ih =>
 intro t w0 F hn hP
 suffices key:∀K:Int→Int→Int→Int→ByteArray→Sl→WP,(∀k f t' u x s' w' ks,Sp.treeOf L t=.mk k f t' u x ks→TreeAt (w0.heap.size≤·) w' s' (.mk k f t' u x ks)→Pure w0 w'→K k f t' u x s' w')→m_Z (some p) t w0 K by
  refine (w_Z _ _ w0 (fun k f t' u x s' w'=>∃ks,Sp.treeOf L t=.mk k f t' u x ks∧TreeAt (w0.heap.size≤·) w' s' (.mk k f t' u x ks)∧Pure w0 w') (key _ (fun k f t' u x s' w' ks h1 h2 h3=>⟨ks,h1,h2,h3⟩))).mono ?_
  rintro _ w' ⟨k,f,t',u,x,s',rfl,ks,h1,h2,h3⟩
  rw [h1]
  exact ⟨s',rfl,h2,h3⟩
 intro K hK
 have hok:=hW.ok
 have hnil:∀b,¬ Sl.nil.blk b:=fun b hb=>by obtain ⟨a,h,_⟩:=hb;cases h
 unfold m_Z
 intro H1 w1 hs1
 have E1:=hs1.first
 refine (c_ref05_Node p t w1 (hP.pure E1) hok).mono ?_
 rintro _ w2 ⟨k,f,t',u,x,a,b,r,rfl,⟨hnd,hr⟩,E2⟩
 have E02:=E1.trans E2
 have hs2:=hs1.again E2.keptP
 refine ⟨_,_,_,_,_,_,_,_,rfl,E2.keptP,fun h=>?_,fun h=>?_⟩
 ·intro H2 w5 hs5
  have hin:Sp.inP L t=false:=by rw [← hr];simpa using h
  exact hK _ _ _ _ _ _ _ [] (by rw [Sp.treeOf_none hin];rfl) TreeAt.leaf (E02.hst hs5)
 ·have hin:Sp.inP L t=true:=by rw [← hr];simpa using h
  have htr:=Sp.treeOf_in hW hin
  have hnode:=hW.node hin
  rw [← hnd] at htr hnode
  simp only at htr hnode
  obtain ⟨_,_,_,_,hkid,_,_⟩:=hnode
  have hpos:=Sp.inP_iff.1 hin
  rw [ref05_kids]
  have J1 : ∀ (xs : Sl) (H : NP) (w : World) (ps : List (Sp.Tree × Sl)) (S' : NP), Hst w0 H w H w → Pure w0 w → Own H w 107 6 xs (ps.map prow) → ps.length ≤ 1 → (∀ p ∈ ps, TreeAt S' w p.2 p.1) → (∀ b, S' b → w0.heap.size ≤ b ∧ b < w.heap.size ∧ ¬ H b ∧ ¬ xs.blk b) → (∀ b, xs.blk b → w0.heap.size ≤ b) →
    ((Sp.shapeOf k).kids=2→ps.map Prod.fst=[Sp.treeOf L a])→((Sp.shapeOf k).kids≠2→ps.map Prod.fst=(Sp.kidsOf ⟨k,f,t',u,x,a,b⟩).map (Sp.treeOf L)) →
    m_Z_j1 (some p) k b k f t' u x xs w0 H w K:=by
   intro xs H w ps S' hs E O hpl hkids hS' hxs h2 h1
   unfold m_Z_j1
   rw [ref05_kids]
   refine ⟨fun h=>?_,fun h=>?_⟩
   ·have hk2:(Sp.shapeOf k).kids=2:=by simpa using h
    have hps:=h2 hk2
    intro w9 hs9
    have E9:=E.hst hs9
    have O9:=O.hst hs9
    have E10:Pure w9 w9.drew:=Ext.drew w9
    refine ⟨fun _=>True,trivial,?_⟩
    rintro _ rfl
    have hb:=hkid b (by simp [Sp.kidsOf,hk2])
    have hbp:=Sp.inP_iff.1 hb.1
    refine (ih b.toNat (by omega) b w9.drew F rfl (hP.pure (E9.trans E10))).mono ?_
    rintro _ w11 ⟨s',rfl,hTb,E11⟩
    generalize hTt:Sp.treeOf L b=tb at *
    obtain ⟨k2,f2,t2,u2,x2,ks2⟩:=tb
    refine ⟨_,_,_,_,_,s',rfl,trivial,E11.keptP,?_⟩
    intro p5 w12 h12
    have E12:Pure w11 w12:=Ext.new h12
    refine ⟨trivial,?_⟩
    have hs12:Hst w0 H w12 H w12:=(hs9.again E10.keptP).again (E11.trans E12).keptP
    obtain ⟨s1,w13,hr13,hO13,hE13,hk13,hb13⟩:=(O9.pure ((E10.trans E11).trans E12)).append (P:=Tryz.prog) (ty:=66) (c:=1) slT_tree hs12 (r:=trow (.mk k2 f2 t2 u2 x2 ks2) s') (Box.of_new h12).row rfl (trow_one _ _) (by simp;omega) (by simp [maxLen];omega)
    refine ⟨s1,w13,hr13,trivial,hk13,?_⟩
    intro w15 hs15
    have zd:w9.drew.heap.size=w9.heap.size:=rfl
    have z9:=hs9.ext.size
    have z11:=E11.size
    have z12:=E12.size
    have z13:=hE13.size
    have hS9:∀b,S' b→w0.heap.size≤b∧b<w9.heap.size∧¬ H b∧¬ xs.blk b:=fun b hb=>⟨(hS' b hb).1,by have:=(hS' b hb).2.1;omega,(hS' b hb).2.2.1,(hS' b hb).2.2.2⟩
    have hvs:∀b,s1.blk b→b<w13.heap.size∧¬ H b:=fun b hb=>⟨hO13.rows.lt hb,hO13.vis b hb⟩
    have hR15:=hO13.rows.ext hs15.ext (hs15.disj (G:=s1.blk) hvs)
    have e1:ps.map prow++[trow (.mk k2 f2 t2 u2 x2 ks2) s']=(ps++[((.mk k2 f2 t2 u2 x2 ks2:Sp.Tree),s')]).map prow:=by simp [prow]
    rw [e1] at hR15
    have hT:=TreeAt.of_pairs (S:=fun b=>w0.heap.size≤b) (k:=k) (f:=f) (t:=t') (u:=u) (x:=x) hR15 (fun b hb=>(hb13 b hb).elim (hxs b) (fun h=>by have:=E9.size;omega)) (fun q hq=>?_) (by simp;omega)
    ·have e2 : (ps ++ [((.mk k2 f2 t2 u2 x2 ks2 : Sp.Tree), s')]).map Prod.fst = (Sp.kidsOf ⟨k, f, t', u, x, a, b⟩).map (Sp.treeOf L) := by
      rw [List.map_append,hps];simp [Sp.kidsOf,hk2,hTt]
     rw [e2] at hT
     exact hK _ _ _ _ _ _ _ _ htr hT ((((E9.trans E10).trans E11).trans E12).trans' hE13 (fun i hi hb=>by have:=hxs i hb;omega) |>.hst hs15)
    ·rcases List.mem_append.1 hq with h | h
     ·have q1:=(hkids q h).hst hs9 (fun b hb=>⟨(hS' b hb).2.1,(hS' b hb).2.2.1⟩)
      have q2:=(q1.pure ((E10.trans E11).trans E12)).ext hE13 (fun b hb hy=>(hS' b hb).2.2.2 hy)
      exact (q2.hst hs15 (fun b hb=>⟨by have:=(hS9 b hb).2.1;omega,(hS' b hb).2.2.1⟩)).mono (fun b hb=>(hS' b hb).1)
     ·simp only [List.mem_singleton] at h;subst h
      have q1:=(hTb.lt.pure E12).ext hE13 (fun b hb hy=>by have:=O9.rows.lt hy;have:=hb.1;omega)
      exact (q1.hst hs15 (fun b hb=>⟨by have:=hb.2;omega,fun hh=>by have:=hs9.lt b hh;have:=hb.1;omega⟩)).mono (fun b hb=>by have:=hb.1;have:=E9.size;omega)
   ·have hk2:(Sp.shapeOf k).kids≠2:=by simpa using h
    intro w16 hs16
    have O16:=O.hst hs16
    have hT:=TreeAt.of_pairs (S:=fun b=>w0.heap.size≤b) (k:=k) (f:=f) (t:=t') (u:=u) (x:=x) O16.rows hxs (fun q hq=>((hkids q hq).hst hs16 (fun b hb=>⟨(hS' b hb).2.1,(hS' b hb).2.2.1⟩)).mono (fun b hb=>(hS' b hb).1)) (by omega)
    rw [h1 hk2] at hT
    exact hK _ _ _ _ _ _ _ _ htr hT (E.hst hs16)
  have hkk:=Sp.kids_le k
  refine ⟨fun h=>?_,fun h=>?_⟩
  ·have hk1:1≤(Sp.shapeOf k).kids:=by have:=of_decide_eq_true h;omega
   intro H3 w8 hs8
   have E8:=E02.hst hs8
   have E17:Pure w8 w8.drew:=Ext.drew w8
   refine ⟨fun _=>True,trivial,?_⟩
   rintro _ rfl
   have ha:=hkid a (by rcases hkk with h | h | h <;> simp [Sp.kidsOf,h] <;> omega)
   have hap:=Sp.inP_iff.1 ha.1
   refine (ih a.toNat (by omega) a w8.drew F rfl (hP.pure (E8.trans E17))).mono ?_
   rintro _ w18 ⟨s',rfl,hTa,E18⟩
   generalize hTt:Sp.treeOf L a=ta at *
   obtain ⟨k2,f2,t2,u2,x2,ks2⟩:=ta
   refine ⟨_,_,_,_,_,s',rfl,trivial,E18.keptP,?_⟩
   intro p6 w19 h19
   have E19:Pure w18 w19:=Ext.new h19
   refine ⟨trivial,?_⟩
   have hs19:Hst w0 H3 w19 H3 w19:=(hs8.again E17.keptP).again (E18.trans E19).keptP
   obtain ⟨s2,w20,hr20,hO20,hE20,hk20,hb20⟩:=(Own.nil (sz:=6) (e:=107) H3 w19).append (P:=Tryz.prog) (ty:=66) (c:=1) slT_tree hs19 (r:=trow (.mk k2 f2 t2 u2 x2 ks2) s') (Box.of_new h19).row rfl (trow_one _ _) (by simp) (by simp [maxLen])
   refine ⟨s2,w20,hr20,trivial,hk20,?_⟩
   intro w21 hs21
   have zd:w8.drew.heap.size=w8.heap.size:=rfl
   have z18:=E18.size
   have z19:=E19.size
   have z20:=hE20.size
   have z21:=hs21.ext.size
   have E20:Pure w19 w20:=hE20.mono (fun b _ hb=>hnil b hb)
   have hs2n:∀b,s2.blk b→w19.heap.size≤b:=fun b hb=>(hb20 b hb).elim (fun h=>(hnil b h).elim) id
   refine J1 s2 H3 w21 [((.mk k2 f2 t2 u2 x2 ks2:Sp.Tree),s')] (fun b=>w8.heap.size≤b∧b<w18.heap.size) hs21.here ((((E8.trans E17).trans E18).trans E19).trans E20 |>.hst hs21) ?_ (by simp) ?_ ?_ (fun b hb=>by have:=hs2n b hb;have:=E8.size;omega) (fun _=>by simp) (fun hne=>?_)
   ·have:=hO20.hst hs21;simpa [prow] using this
   ·intro q hq
    simp only [List.mem_singleton] at hq;subst hq
    exact ((hTa.lt.pure E19).pure E20).hst hs21 (fun b hb=>⟨by have:=hb.2;omega,fun hh=>by have:=hs8.lt b hh;have:=hb.1;omega⟩)
   ·rintro b ⟨h1,h2⟩
    exact ⟨by have:=E8.size;omega,by omega,fun hh=>by have:=hs8.lt b hh;omega,fun hh=>by have:=hs2n b hh;omega⟩
   ·rcases hkk with h | h | h
    ·omega
    ·simp [Sp.kidsOf,h,hTt]
    ·exact absurd h hne
  ·have hk0:(Sp.shapeOf k).kids=0:=by have:=of_decide_eq_false h;omega
   intro H3 w8 hs8
   exact J1 Sl.nil H3 w8 [] (fun _=>False) hs8.here (E02.hst hs8) (Own.nil _ _) (by simp) (by simp) (fun b h=>h.elim) (fun b h=>(hnil b h).elim) (fun h=>by omega) (fun _=>by simp [Sp.kidsOf,hk0])
end Go.Proofs
end
section
open Go Go.SE
open Go.IntKind renaming i64 → q6
namespace Go.Proofs
set_option maxRecDepth 100000
set_option maxHeartbeats 4000000
attribute [local irreducible] wpL wpX opE wpE Calls
def m_P1_l1 (path1:Sl) (i1 aV:Int) (aW bL bM:Int) (aX:ByteArray) (bN:Sl) (aI aJ:Int) (aY aZ:Int) (aK:ByteArray) (aT:Sl) (w0:World) (Hl1:NP) (wl1:World) (Kc1:Int→Int→Int→Int→Int→ByteArray→Sl→Int→Int→Int→Int→ByteArray→Sl→NP→WP) (K:Int→Int→Int→Int→ByteArray→Sl→WP):Prop :=
 Br (decide (i1<(path1.len:Int)))
  (∃a1:Addr,At path1 i1 1 a1 ∧
  ∀(w3:World),Hst w0 Hl1 wl1 Hl1 w3 →
  ∃v1:Int,w3.cell? a1=some (vi v1) ∧
  Br (decide (v1≥(aT.len:Int)))
   (∀(w4:World),Hst w0 Hl1 w3 Hl1 w4 →
   K 0 0 0 0 ⟨#[]⟩ Sl.nil w4)
   (∃a2:Addr,At path1 i1 1 a2 ∧
   ∃v2:Int,w3.cell? a2=some (vi v2)∧¬ Hl1 a2.block ∧
   ∃a3:Addr,At aT v2 6 a3 ∧
   ∃bF bG:Int,∃bH bI:Int,∃bJ:ByteArray,∃bK:Sl,Row w3 a3 [(vi bF),(vi bG),(vi bH),(vu bI),(vs bJ),bK.v]∧¬ Hl1 a3.block ∧
   ∀(H3:NP) (w7:World),Hst w0 Hl1 w3 H3 w7 →
   Kc1 (q6.wrap (i1+1)) aV aW bL bM aX bN bF bG bH bI bJ bK H3 w7))
  (∀(w9:World),Hst w0 Hl1 wl1 Hl1 w9 →
  K aI aJ aY aZ aK aT w9)
def m_P1 (aD aC:Int) (aE aF:Int) (aG:ByteArray) (aH path1:Sl) (w0:World) (K:Int→Int→Int→Int→ByteArray→Sl→WP):Prop :=
 ∀(H2:NP) (w2:World),Hst w0 None w0 H2 w2 →
 ∃(I1:Int→Int→Int→Int→Int→ByteArray→Sl→Int→Int→Int→Int→ByteArray→Sl→NP→WP) (mu1:Int→Int→Int→Int→Int→ByteArray→Sl→Int→Int→Int→Int→ByteArray→Sl→World→Nat),I1 0 0 0 0 0 ⟨#[]⟩ Sl.nil aD aC aE aF aG aH H2 w2 ∧
  ∀(i1 aV:Int) (aW bL bM:Int) (aX:ByteArray) (bN:Sl) (aI aJ:Int) (aY aZ:Int) (aK:ByteArray) (aT:Sl) (Hl1:NP) (wl1:World),Hst w0 Hl1 wl1 Hl1 wl1→I1 i1 aV aW bL bM aX bN aI aJ aY aZ aK aT Hl1 wl1→m_P1_l1 path1 i1 aV aW bL bM aX bN aI aJ aY aZ aK aT w0 Hl1 wl1 (fun y'0 y'1 y'2 y'3 y'4 y'5 y'6 y'7 y'8 y'9 y'10 y'11 y'12 H' w'=>I1 y'0 y'1 y'2 y'3 y'4 y'5 y'6 y'7 y'8 y'9 y'10 y'11 y'12 H' w'∧mu1 y'0 y'1 y'2 y'3 y'4 y'5 y'6 y'7 y'8 y'9 y'10 y'11 y'12 w'<mu1 i1 aV aW bL bM aX bN aI aJ aY aZ aK aT wl1) K
theorem w_P1 (aD aC : Int) (aE aF : Int) (aG : ByteArray) (aH path1 : Sl) (w0 : World) (K : Int → Int → Int → Int → ByteArray → Sl → WP) (h : m_P1 aD aC aE aF aG aH path1 w0 K) :
  Calls Tryz.prog 163 #[(.agg #[(vi aD),(vi aC),(vi aE),(vu aF),(vs aG),aH.v]),path1.v] w0 (fun e w'=>∃bT bU:Int,∃bV bW:Int,∃bX:ByteArray,∃bY:Sl,e=.returned (.agg #[(vi bT),(vi bU),(vi bV),(vu bW),(vs bX),bY.v])∧K bT bU bV bW bX bY w'):=by
 unfold m_P1 at h
 refine cw (args:=[(.agg #[(vi aD),(vi aC),(vi aE),(vu aF),(vs aG),aH.v]),path1.v]) Tryz.func163 Tryz.ntmps163 ?_
 have hs:=Hst.start w0
 have hb:=HB.nil None w0
 refine eg (sn (O:=(.cells #[(vi aD),(vi aC),(vi aE),(vu aF),(vs aG),aH.v] 107)) xb ?_)
 intro p1 w1 hn1
 obtain ⟨H1,hs,hb⟩:=hs.alloc hb hn1
 refine sn (O:=(.cells #[(vi 0),(vi 0),(vi 0),(vu 0),(vs ⟨#[]⟩),Sl.nil.v] 107)) (x_alloc (Tryz.zeroValue107 _) rfl) ?_
 intro p2 w2 hn2
 obtain ⟨H2,hs,hb⟩:=hs.alloc hb hn2
 refine ln (wpE_seq (eg (q0 (vi 0) (ln (wpE_block ?_)))))
 have h:=h H2 w2 hs
 have hs:=hs.here
 obtain ⟨I1,mu1,h0,hr⟩:=h
 refine wpE_loop (σ:=Int×Int×Int×Int×Int×ByteArray×Sl×Int×Int×Int×Int×ByteArray×Sl×NP×World) (fun s ρ w=>w=s.2.2.2.2.2.2.2.2.2.2.2.2.2.2∧Has ρ [(1,path1.v),(2,(vp (some p1))),(4,(vp (some p2))),(5,(vi s.1))]∧Hst w0 s.2.2.2.2.2.2.2.2.2.2.2.2.2.1 w s.2.2.2.2.2.2.2.2.2.2.2.2.2.1 w∧HB s.2.2.2.2.2.2.2.2.2.2.2.2.2.1 w [(p2,[(vi s.2.1),(vi s.2.2.1),(vi s.2.2.2.1),(vu s.2.2.2.2.1),(vs s.2.2.2.2.2.1),s.2.2.2.2.2.2.1.v],107),(p1,[(vi s.2.2.2.2.2.2.2.1),(vi s.2.2.2.2.2.2.2.2.1),(vi s.2.2.2.2.2.2.2.2.2.1),(vu s.2.2.2.2.2.2.2.2.2.2.1),(vs s.2.2.2.2.2.2.2.2.2.2.2.1),s.2.2.2.2.2.2.2.2.2.2.2.2.1.v],107)]∧I1 s.1 s.2.1 s.2.2.1 s.2.2.2.1 s.2.2.2.2.1 s.2.2.2.2.2.1 s.2.2.2.2.2.2.1 s.2.2.2.2.2.2.2.1 s.2.2.2.2.2.2.2.2.1 s.2.2.2.2.2.2.2.2.2.1 s.2.2.2.2.2.2.2.2.2.2.1 s.2.2.2.2.2.2.2.2.2.2.2.1 s.2.2.2.2.2.2.2.2.2.2.2.2.1 s.2.2.2.2.2.2.2.2.2.2.2.2.2.1 s.2.2.2.2.2.2.2.2.2.2.2.2.2.2) (fun s=>mu1 s.1 s.2.1 s.2.2.1 s.2.2.2.1 s.2.2.2.2.1 s.2.2.2.2.2.1 s.2.2.2.2.2.2.1 s.2.2.2.2.2.2.2.1 s.2.2.2.2.2.2.2.2.1 s.2.2.2.2.2.2.2.2.2.1 s.2.2.2.2.2.2.2.2.2.2.1 s.2.2.2.2.2.2.2.2.2.2.2.1 s.2.2.2.2.2.2.2.2.2.2.2.2.1 s.2.2.2.2.2.2.2.2.2.2.2.2.2.2) (0,0,0,0,0,⟨#[]⟩,Sl.nil,aD,aC,aE,aF,aG,aH,H2,w2) ⟨rfl,hm,hs,hb,h0⟩ ?_
 rintro ⟨i1,aV,aW,bL,bM,aX,bN,aI,aJ,aY,aZ,aK,aT,Hl1,wl1⟩ ρ w ⟨hw,hH,hs,hb,hI⟩
 obtain rfl:wl1=w:=(show w=wl1 from hw).symm
 have hH:Has ρ [(1,path1.v),(2,(vp (some p1))),(4,(vp (some p2))),(5,(vi i1))]:=hH
 have hs:Hst w0 Hl1 wl1 Hl1 wl1:=hs
 have hb:HB Hl1 wl1 [(p2,[(vi aV),(vi aW),(vi bL),(vu bM),(vs aX),bN.v],107),(p1,[(vi aI),(vi aJ),(vi aY),(vu aZ),(vs aK),aT.v],107)]:=hb
 have h:=hr i1 aV aW bL bM aX bN aI aJ aY aZ aK aT Hl1 wl1 hs hI
 unfold m_P1_l1 at h
 refine wpE_has hH ?_
 refine wpE_seq (eg (q0 (vi i1) (q0 path1.v (q0 (vi (path1.len:Int)) (q0 (vb (decide (i1<(path1.len:Int)))) (ln ?_))))))
 refine wpE_cond (t:=(decide (i1<(path1.len:Int)))) (by kernel_rfl) (fun hc1=>?_) (fun hc1=>?_)
 have h:=h.1 hc1
 refine wpE_skip (th_n (wpE_seq (wpE_block (wpE_seq (wpE_seq (wpE_drawnQ (by kernel_rfl) (by kernel_rfl) (by kernel_rfl) (by kernel_rfl) ?_))))))
 intro w3 hw3
 have hs:Hst w0 Hl1 wl1 Hl1 w3:=by rw [hw3];exact hs.drew
 have hb:HB Hl1 w3 [(p2,[(vi aV),(vi aW),(vi bL),(vu bM),(vs aX),bN.v],107),(p1,[(vi aI),(vi aJ),(vi aY),(vu aZ),(vs aK),aT.v],107)]:=by rw [hw3];exact hb.drew
 refine qq 0 path1.v Kp0 (qq 1 (vi i1) Kp1 (qg 2 ?_))
 obtain ⟨a1,hv6,h⟩:=h
 refine sxQ (v:=(vp (some a1))) Kp2 (want0 rfl) rfl (xi (Tryz.runUnderlying42 _) (Tryz.sizeOf3 _) hv6) (qg 3 ?_)
 have h:=h w3 hs
 have hs:=hs.here
 obtain ⟨v1,hv5,h⟩:=h
 refine sxQ (v:=(vi v1)) Kp3 (want0 rfl) rfl (xl (Tryz.isAgg3 _) hv5) (qq 4 (vp (some (p1.add 5))) Kp4 (qr 5 aT.v Kp5 (xl (Tryz.isAgg66 _) (hb.c 1 5 (gS gZ))) (qq 6 (vi (aT.len:Int)) Kp6 (qq 7 (vb (decide (v1≥(aT.len:Int)))) Kp7 (wn (th_n ?_))))))
 refine wpE_cond (t:=(decide (v1≥(aT.len:Int)))) (by kernel_rfl) (fun hc2=>?_) (fun hc2=>?_)
 have h:=h.1 hc2
 refine eg (q0 (.agg #[(vi 0),(vi 0),(vi 0),(vu 0),(vs ⟨#[]⟩),Sl.nil.v]) (st_set (want0 rfl) (xo p2 [(vi 0),(vi 0),(vi 0),(vu 0),(vs ⟨#[]⟩),Sl.nil.v] (Tryz.sizeOf107 _) (hb.k0 0 6 gZ)) ?_))
 intro w4 hn3
 obtain ⟨hs,hb⟩:=hb.s0 (l':=[(p2,[(vi 0),(vi 0),(vi 0),(vu 0),(vs ⟨#[]⟩),Sl.nil.v],107),(p1,[(vi aI),(vi aJ),(vi aY),(vu aZ),(vs aK),aT.v],107)]) 0 [(vi 0),(vi 0),(vi 0),(vu 0),(vs ⟨#[]⟩),Sl.nil.v] hs hn3 gZ
 refine ln (er (th_r (bl_r (th_r (th_r (bl_r (th_r ?_)))))))
 have h:=h w4 hs
 have hs:=hs.here
 refine resG (.inl rfl) (vs:=[(.agg #[(vi 0),(vi 0),(vi 0),(vu 0),(vs ⟨#[]⟩),Sl.nil.v])]) (v:=(.agg #[(vi 0),(vi 0),(vi 0),(vu 0),(vs ⟨#[]⟩),Sl.nil.v])) Tryz.results163 ⟨(rva (Tryz.isAgg107 _) (Tryz.sizeOf107 _) (hb.r0 0 6 gZ)),trivial⟩ (by kernel_rfl) ?_
 exact ⟨0,0,0,0,⟨#[]⟩,Sl.nil,rfl,h⟩
 have h:=h.2 hc2
 refine wpE_skip (th_n (wpE_drawnC (fun x=>∃H',Hst w0 Hl1 w3 H' x∧HB H' x [(p2,[(vi aV),(vi aW),(vi bL),(vu bM),(vs aX),bN.v],107),(p1,[(vi aI),(vi aJ),(vi aY),(vu aZ),(vs aK),aT.v],107)]) [8] [8] (by kernel_rfl) (by kernel_rfl) (by kernel_rfl) (by kernel_rfl) ⟨_,hs.drew,hb.drew⟩ ?_))
 intro w5 hw5
 have hs:Hst w0 Hl1 w3 Hl1 w5:=by rw [hw5];exact hs.drew
 have hb:HB Hl1 w5 [(p2,[(vi aV),(vi aW),(vi bL),(vu bM),(vs aX),bN.v],107),(p1,[(vi aI),(vi aJ),(vi aY),(vu aZ),(vs aK),aT.v],107)]:=by rw [hw5];exact hb.drew
 refine qx 0 (vp (some (p1.add 5))) Kp0 (qz 1 aT.v Kp1 (fun w' hw'=>(by obtain ⟨H',hs',hb'⟩:=hw';exact (xl (Tryz.isAgg66 _) (hb'.cell 1 5 (gS gZ) (by kernel_rfl))))) (qx 2 path1.v Kp2 (qx 3 (vi i1) Kp3 (qg 4 ?_))))
 obtain ⟨a2,hv4,h⟩:=h
 refine sy (v:=(vp (some a2))) Kp4 (fun _ _=>(xi (Tryz.runUnderlying42 _) (Tryz.sizeOf3 _) hv4)) (qg 5 ?_)
 obtain ⟨v2,hv3,hnh,h⟩:=h
 refine sy (v:=(vi v2)) Kp5 (fun w' hw'=>by obtain ⟨H',hs',hb'⟩:=hw';exact (xl (Tryz.isAgg3 _) (cell_hst hv3 hnh hs'))) ?_
 refine qg 6 ?_
 obtain ⟨a3,hv2,h⟩:=h
 refine sy (v:=(vp (some a3))) Kp6 (fun _ _=>(xi (Tryz.runUnderlying66 _) (Tryz.sizeOf107 _) hv2)) (qg 7 ?_)
 obtain ⟨bF,bG,bH,bI,bJ,bK,hv1,hnh,h⟩:=h
 refine sy (v:=(.agg #[(vi bF),(vi bG),(vi bH),(vu bI),(vs bJ),bK.v])) Kp7 (fun w' hw'=>by obtain ⟨H',hs',hb'⟩:=hw';exact (xa a3 [(vi bF),(vi bG),(vi bH),(vu bI),(vs bJ),bK.v] (Tryz.isAgg107 _) (Tryz.sizeOf107 _) (row_hst hv1 hnh hs'))) ?_
 refine wpX_via (fun ρ wJ=>∃HJ:NP,Hst w0 Hl1 w3 HJ wJ∧HB HJ wJ [(p2,[(vi aV),(vi aW),(vi bL),(vu bM),(vs aX),bN.v],107),(p1,[(vi bF),(vi bG),(vi bH),(vu bI),(vs bJ),bK.v],107)]∧Has ρ [(1,path1.v),(2,(vp (some p1))),(4,(vp (some p2))),(5,(vi i1))]) ?_ ?_
 refine lg 8 (sl_set Kp8 (want0 rfl) (by kernel_rfl) (xo p1 [(vi bF),(vi bG),(vi bH),(vu bI),(vs bJ),bK.v] (Tryz.sizeOf107 _) (hb.k0 1 6 (gS gZ))) ?_)
 intro w8 hn5
 obtain ⟨hs,hb⟩:=hb.s0 (l':=[(p2,[(vi aV),(vi aW),(vi bL),(vu bM),(vs aX),bN.v],107),(p1,[(vi bF),(vi bG),(vi bH),(vu bI),(vs bJ),bK.v],107)]) 1 [(vi bF),(vi bG),(vi bH),(vu bI),(vs bJ),bK.v] hs hn5 (gS gZ)
 refine ⟨.inl (by kernel_rfl),?_⟩
 refine wn ?_
 exact ⟨_,hs,hb,hm⟩
 rintro ρ w7 ⟨H3,hs,hb,hH⟩
 refine q_has hH ?_
 refine bl_n (th_n (rg (q0 (vi i1) (q0 (vi (q6.wrap (i1+1))) (q0 (vi (q6.wrap (i1+1))) (wpL_nil ?_))))))
 have h:=h H3 w7 hs
 have hs:=hs.here
 refine th_n ?_
 exact ⟨((q6.wrap (i1+1)),aV,aW,bL,bM,aX,bN,bF,bG,bH,bI,bJ,bK,H3,w7),⟨rfl,hm,hs,hb,h.1⟩,h.2⟩
 have h:=h.2 hc1
 refine wpE_exit (th_x (th_x (bl_eq (th_n (eg (q2 (.agg #[(vi aI),(vi aJ),(vi aY),(vu aZ),(vs aK),aT.v]) (xa p1 [(vi aI),(vi aJ),(vi aY),(vu aZ),(vs aK),aT.v] (Tryz.isAgg107 _) (Tryz.sizeOf107 _) (hb.r0 1 6 (gS gZ))) (st_set (want0 rfl) (xo p2 [(vi aI),(vi aJ),(vi aY),(vu aZ),(vs aK),aT.v] (Tryz.sizeOf107 _) (hb.k0 0 6 gZ)) ?_)))))))
 intro w9 hn6
 obtain ⟨hs,hb⟩:=hb.s0 (l':=[(p2,[(vi aI),(vi aJ),(vi aY),(vu aZ),(vs aK),aT.v],107),(p1,[(vi aI),(vi aJ),(vi aY),(vu aZ),(vs aK),aT.v],107)]) 0 [(vi aI),(vi aJ),(vi aY),(vu aZ),(vs aK),aT.v] hs hn6 gZ
 refine ln (er ?_)
 have h:=h w9 hs
 have hs:=hs.here
 refine resG (.inl rfl) (vs:=[(.agg #[(vi aI),(vi aJ),(vi aY),(vu aZ),(vs aK),aT.v])]) (v:=(.agg #[(vi aI),(vi aJ),(vi aY),(vu aZ),(vs aK),aT.v])) Tryz.results163 ⟨(rva (Tryz.isAgg107 _) (Tryz.sizeOf107 _) (hb.r0 0 6 gZ)),trivial⟩ (by kernel_rfl) ?_
 exact ⟨aI,aJ,aY,aZ,aK,aT,rfl,h⟩
def s_B (kind1:Int):Bool :=
 (((kind1 == 1) || (kind1 == 2)) || (kind1 == 4))
theorem pw_B (kind1 : Int) (w0 : World) :
  Calls Tryz.prog 164 #[(vi kind1)] w0 (fun e w'=>(e=.returned (vb (((kind1 == 1) || (kind1 == 2)) || (kind1 == 4))))∧Pure w0 w'):=by
 refine cw (args:=[(vi kind1)]) Tryz.func164 Tryz.ntmps164 (eg (q0 (vb false) (ln (wpE_seq ?_))))
 refine wpE_via (fun ρ wJ=>w0=wJ∧Has ρ [(2,(vb (((kind1 == 1) || (kind1 == 2)) || (kind1 == 4))))]) ?_ ?_
 refine rg (q0 (vi kind1) (q0 (vb (kind1 == 1)) (q0 (vb (kind1 == 1)) ?_)))
 refine wpL_join 3 (fun ρ wJ=>∃b4'0:Bool,((kind1 == 1)=b4'0)∧w0=wJ∧Has ρ [(0,(vi kind1)),(8,(vb (b4'0 || (kind1 == 2))))]) ?_ ?_
 rintro ρ w4 ⟨b4'0,he0,hw,hH⟩
 subst he0
 subst hw
 refine wpL_has hH ?_
 refine q0 (vb ((kind1 == 1) || (kind1 == 2))) ?_
 refine wpL_join 3 (fun ρ wJ=>∃b5'0:Bool,(((kind1 == 1) || (kind1 == 2))=b5'0)∧w0=wJ∧Has ρ [(12,(vb (b5'0 || (kind1 == 4))))]) ?_ ?_
 rintro ρ w5 ⟨b5'0,he0,hw,hH⟩
 subst he0
 subst hw
 refine wpL_has hH ?_
 refine q0 (vb (((kind1 == 1) || (kind1 == 2)) || (kind1 == 4))) (ln ?_)
 exact ⟨rfl,hm⟩
 rcases Bool.eq_false_or_eq_true ((kind1 == 1) || (kind1 == 2)) with hg8 | hg8
 refine sk (yD 9 hg8) (sk (yD 9 hg8) (q2 (vb true) (xT hg8) (wpL_nil ?_)))
 exact ⟨true,hg8,rfl,hm⟩
 refine q1 (vi kind1) (wy 9 hg8) (q1 (vb (kind1 == 4)) (wy 9 hg8) (q2 (vb (kind1 == 4)) (xF hg8) (wpL_nil ?_)))
 exact ⟨false,hg8,rfl,hm⟩
 rcases Bool.eq_false_or_eq_true (kind1 == 1) with hg6 | hg6
 refine sk (yD 5 hg6) (sk (yD 5 hg6) (q2 (vb true) (xT hg6) (wpL_nil ?_)))
 exact ⟨true,hg6,rfl,hm⟩
 refine q1 (vi kind1) (wy 5 hg6) (q1 (vb (kind1 == 2)) (wy 5 hg6) (q2 (vb (kind1 == 2)) (xF hg6) (wpL_nil ?_)))
 exact ⟨false,hg6,rfl,hm⟩
 rintro ρ w3 ⟨hw,hH⟩
 subst hw
 refine norm_has hH ?_
 refine th_n (er (rs1 Tryz.results164 (v:=(vb (((kind1 == 1) || (kind1 == 2)) || (kind1 == 4)))) ?_))
 exact ⟨by kernel_rfl,Ext.refl _⟩
theorem p_B (kind1:Int) (w0:World):Calls Tryz.prog 164 #[(.int .i64 kind1)] w0 (fun e w'=>e=.returned (.bool (s_B kind1))∧Pure w0 w'):=pw_B kind1 w0
def s_O2 (kind1:Int):Bool :=
 ((s_B kind1) || (kind1 == 6))
theorem pw_O2 (kind1 : Int) (w0 : World) :
  Calls Tryz.prog 165 #[(vi kind1)] w0 (fun e w'=>(e=.returned (vb ((s_B kind1) || (kind1 == 6))))∧Pure w0 w'):=by
 refine cw (args:=[(vi kind1)]) Tryz.func165 Tryz.ntmps165 ?_
 have hs:=Hst.start w0
 have hb:=HB.nil None w0
 refine eg (q0 (vb false) (ln (wpE_seq ?_)))
 refine wpE_via (fun ρ wJ=>∃HJ:NP,Hst w0 None w0 HJ wJ∧HB HJ wJ []∧Has ρ [(2,(vb ((s_B kind1) || (kind1 == 6))))]) ?_ ?_
 refine rg (q0 (vi kind1) ?_)
 refine sc Tryz.call164 ((p_B kind1 w0).mono ?_)
 rintro e w4 ⟨he,hE⟩
 refine ⟨(vb (s_B kind1)),he.trans (by kernel_rfl),?_⟩
 have hs:=hs.pure hE
 have hb:=hb.pure hE
 refine q0 (vb (s_B kind1)) ?_
 refine wpL_join 3 (fun ρ wJ=>∃b3'0:Bool,∃HJ:NP,((s_B kind1)=b3'0)∧Hst w0 None w0 HJ wJ∧HB HJ wJ []∧Has ρ [(8,(vb (b3'0 || (kind1 == 6))))]) ?_ ?_
 rintro ρ w5 ⟨b3'0,H3,he0,hs,hb,hH⟩
 subst he0
 refine wpL_has hH ?_
 refine q0 (vb ((s_B kind1) || (kind1 == 6))) (ln ?_)
 exact ⟨_,hs,hb,hm⟩
 rcases Bool.eq_false_or_eq_true (s_B kind1) with hg4 | hg4
 refine sk (yD 5 hg4) (sk (yD 5 hg4) (q2 (vb true) (xT hg4) (wpL_nil ?_)))
 exact ⟨true,_,hg4,hs,hb,hm⟩
 refine q1 (vi kind1) (wy 5 hg4) (q1 (vb (kind1 == 6)) (wy 5 hg4) (q2 (vb (kind1 == 6)) (xF hg4) (wpL_nil ?_)))
 exact ⟨false,_,hg4,hs,hb,hm⟩
 rintro ρ w3 ⟨H2,hs,hb,hH⟩
 refine norm_has hH ?_
 refine th_n (er (rs1 Tryz.results165 (v:=(vb ((s_B kind1) || (kind1 == 6)))) ?_))
 exact ⟨by kernel_rfl,(Ext.refl (F:=None) _).hst hs⟩
theorem p_O2 (kind1:Int) (w0:World):Calls Tryz.prog 165 #[(.int .i64 kind1)] w0 (fun e w'=>e=.returned (.bool (s_O2 kind1))∧Pure w0 w'):=pw_O2 kind1 w0
def s_A2 (aA aB aU:Int) (aP:ByteArray) (aQ:Bool):Int :=
 (cond ((((((decide (aA<1)) || (decide (aA>7))) || ((aB != 0) && (aB != 1))) || ((!(s_B aA)) && (aB != 0))) || ((!((s_B aA) || (aA == 6))) && (!(decide (aP=⟨#[]⟩))))) || ((aQ && (aA != 1)) && (aA != 4))) 110 (cond (decide ((aP.size:Int)>64)) 1 0))
theorem pw_A2 (aA aB aU : Int) (aP : ByteArray) (aQ : Bool) (w0 : World) :
  Calls Tryz.prog 166 #[(.agg #[(vi aA),(vi aB),(vu aU),(vs aP),(vb aQ)])] w0 (fun e w'=>∃b'0 b'1:Bool,(((((((decide (aA<1)) || (decide (aA>7))) || ((aB != 0) && (aB != 1))) || ((!(s_B aA)) && (aB != 0))) || ((!((s_B aA) || (aA == 6))) && (!(decide (aP=⟨#[]⟩))))) || ((aQ && (aA != 1)) && (aA != 4)))=b'0∧(decide ((aP.size:Int)>64))=b'1)∧(e=.returned (vi (cond b'0 110 (cond b'1 1 0))))∧Pure w0 w'):=by
 refine cw (args:=[(.agg #[(vi aA),(vi aB),(vu aU),(vs aP),(vb aQ)])]) Tryz.func166 Tryz.ntmps166 ?_
 have hs:=Hst.start w0
 have hb:=HB.nil None w0
 refine eg (sn (O:=(.cells #[(vi aA),(vi aB),(vu aU),(vs aP),(vb aQ)] 35)) xb ?_)
 intro p1 w1 hn1
 obtain ⟨H1,hs,hb⟩:=hs.alloc hb hn1
 refine q0 (vi 0) (ln (wpE_seq (wpE_seq ?_)))
 refine wpE_via (fun ρ wJ=>∃b13'0:Bool,∃HJ:NP,((((((decide (aA<1)) || (decide (aA>7))) || ((aB != 0) && (aB != 1))) || ((!(s_B aA)) && (aB != 0))) || ((!((s_B aA) || (aA == 6))) && (!(decide (aP=⟨#[]⟩)))))=b13'0)∧Hst w0 None w0 HJ wJ∧HB HJ wJ [(p1,[(vi aA),(vi aB),(vu aU),(vs aP),(vb aQ)],35)]∧Has ρ [(1,(vp (some p1))),(56,(vb (b13'0 || ((aQ && (aA != 1)) && (aA != 4)))))]) ?_ ?_
 refine rg (q0 (vp (some p1)) (q2 (vi aA) (xl (Tryz.isAgg3 _) (hb.c0 0 gZ)) (q0 (vb (decide (aA<1))) (q0 (vb (decide (aA<1))) ?_))))
 refine wpL_join 4 (fun ρ wJ=>∃b14'0:Bool,∃HJ:NP,((decide (aA<1))=b14'0)∧Hst w0 None w0 HJ wJ∧HB HJ wJ [(p1,[(vi aA),(vi aB),(vu aU),(vs aP),(vb aQ)],35)]∧Has ρ [(1,(vp (some p1))),(10,(vb (b14'0 || (decide (aA>7)))))]) ?_ ?_
 rintro ρ w19 ⟨b14'0,H15,he0,hs,hb,hH⟩
 subst he0
 refine wpL_has hH ?_
 refine q0 (vb ((decide (aA<1)) || (decide (aA>7)))) ?_
 refine wpL_join 9 (fun ρ wJ=>∃b16'0:Bool,∃HJ:NP,(((decide (aA<1)) || (decide (aA>7)))=b16'0)∧Hst w0 None w0 HJ wJ∧HB HJ wJ [(p1,[(vi aA),(vi aB),(vu aU),(vs aP),(vb aQ)],35)]∧Has ρ [(1,(vp (some p1))),(20,(vb (b16'0 || ((aB != 0) && (aB != 1)))))]) ?_ ?_
 rintro ρ w21 ⟨b16'0,H17,he0,hs,hb,hH⟩
 subst he0
 refine wpL_has hH ?_
 refine q0 (vb (((decide (aA<1)) || (decide (aA>7))) || ((aB != 0) && (aB != 1)))) ?_
 refine wpL_join 10 (fun ρ wJ=>∃b19'0:Bool,∃HJ:NP,((((decide (aA<1)) || (decide (aA>7))) || ((aB != 0) && (aB != 1)))=b19'0)∧Hst w0 None w0 HJ wJ∧HB HJ wJ [(p1,[(vi aA),(vi aB),(vu aU),(vs aP),(vb aQ)],35)]∧Has ρ [(1,(vp (some p1))),(31,(vb (b19'0 || ((!(s_B aA)) && (aB != 0)))))]) ?_ ?_
 rintro ρ w25 ⟨b19'0,H20,he0,hs,hb,hH⟩
 subst he0
 refine wpL_has hH ?_
 refine q0 (vb ((((decide (aA<1)) || (decide (aA>7))) || ((aB != 0) && (aB != 1))) || ((!(s_B aA)) && (aB != 0)))) ?_
 refine wpL_join 10 (fun ρ wJ=>∃b22'0:Bool,∃HJ:NP,(((((decide (aA<1)) || (decide (aA>7))) || ((aB != 0) && (aB != 1))) || ((!(s_B aA)) && (aB != 0)))=b22'0)∧Hst w0 None w0 HJ wJ∧HB HJ wJ [(p1,[(vi aA),(vi aB),(vu aU),(vs aP),(vb aQ)],35)]∧Has ρ [(1,(vp (some p1))),(42,(vb (b22'0 || ((!((s_B aA) || (aA == 6))) && (!(decide (aP=⟨#[]⟩)))))))]) ?_ ?_
 rintro ρ w30 ⟨b22'0,H23,he0,hs,hb,hH⟩
 subst he0
 refine wpL_has hH ?_
 refine q0 (vb (((((decide (aA<1)) || (decide (aA>7))) || ((aB != 0) && (aB != 1))) || ((!(s_B aA)) && (aB != 0))) || ((!((s_B aA) || (aA == 6))) && (!(decide (aP=⟨#[]⟩)))))) ?_
 rcases Bool.eq_false_or_eq_true (((((decide (aA<1)) || (decide (aA>7))) || ((aB != 0) && (aB != 1))) || ((!(s_B aA)) && (aB != 0))) || ((!((s_B aA) || (aA == 6))) && (!(decide (aP=⟨#[]⟩))))) with hg46 | hg46
 refine sk (yD 43 hg46) (sk (yD 43 hg46) (sk (yD 43 hg46) (sm (sm (sm (sk (yD 43 hg46) (sk (yD 43 hg46) (sm (sm (sm (sk (yD 43 hg46) ?_)))))))))))
 refine q2 (vb true) (xT hg46) (ln ?_)
 exact ⟨true,_,hg46,hs,hb,hm⟩
 refine q1 (vp (some (p1.add 4))) (wy 43 hg46) (stp (v:=(vb aQ)) (wy 43 hg46) (xl (Tryz.isAgg4 _) (hb.c 0 4 gZ)) (q1 (vb aQ) (wy 43 hg46) ?_))
 refine wpL_join 4 (fun ρ wJ=>∃b24'0:Bool,∃HJ:NP,(aQ=b24'0)∧Hst w0 None w0 HJ wJ∧HB HJ wJ [(p1,[(vi aA),(vi aB),(vu aU),(vs aP),(vb aQ)],35)]∧Has ρ [(1,(vp (some p1))),(43,(vb (((((decide (aA<1)) || (decide (aA>7))) || ((aB != 0) && (aB != 1))) || ((!(s_B aA)) && (aB != 0))) || ((!((s_B aA) || (aA == 6))) && (!(decide (aP=⟨#[]⟩))))))),(50,(vb (b24'0 && (aA != 1))))]) ?_ ?_
 rintro ρ w33 ⟨b24'0,H25,he0,hs,hb,hH⟩
 subst he0
 refine wpL_has hH ?_
 refine q1 (vb (aQ && (aA != 1))) (wy 43 hg46) ?_
 refine wpL_join 4 (fun ρ wJ=>∃b25'0:Bool,∃HJ:NP,((aQ && (aA != 1))=b25'0)∧Hst w0 None w0 HJ wJ∧HB HJ wJ [(p1,[(vi aA),(vi aB),(vu aU),(vs aP),(vb aQ)],35)]∧Has ρ [(1,(vp (some p1))),(43,(vb (((((decide (aA<1)) || (decide (aA>7))) || ((aB != 0) && (aB != 1))) || ((!(s_B aA)) && (aB != 0))) || ((!((s_B aA) || (aA == 6))) && (!(decide (aP=⟨#[]⟩))))))),(55,(vb (b25'0 && (aA != 4))))]) ?_ ?_
 rintro ρ w34 ⟨b25'0,H26,he0,hs,hb,hH⟩
 subst he0
 refine wpL_has hH ?_
 refine q2 (vb ((aQ && (aA != 1)) && (aA != 4))) (xF hg46) (ln ?_)
 exact ⟨false,_,hg46,hs,hb,hm⟩
 rcases Bool.eq_false_or_eq_true (aQ && (aA != 1)) with hg50 | hg50
 refine q1 (vp (some p1)) (wy 51 hg50) (stp (v:=(vi aA)) (wy 51 hg50) (xl (Tryz.isAgg3 _) (hb.c0 0 gZ)) (q1 (vb (aA != 4)) (wy 51 hg50) (stp (v:=(vb (aA != 4))) (wy 43 hg46) (xT hg50) (wpL_nil ?_))))
 exact ⟨true,_,hg50,hs,hb,hm⟩
 refine sk (yD 51 hg50) (sk (yD 51 hg50) (sk (yD 51 hg50) (stp (v:=(vb false)) (wy 43 hg46) (xF hg50) (wpL_nil ?_))))
 exact ⟨false,_,hg50,hs,hb,hm⟩
 rcases Bool.eq_false_or_eq_true aQ with hg48 | hg48
 refine q1 (vp (some p1)) (wy 46 hg48) (stp (v:=(vi aA)) (wy 46 hg48) (xl (Tryz.isAgg3 _) (hb.c0 0 gZ)) (q1 (vb (aA != 1)) (wy 46 hg48) (stp (v:=(vb (aA != 1))) (wy 43 hg46) (xT hg48) (wpL_nil ?_))))
 exact ⟨true,_,hg48,hs,hb,hm⟩
 refine sk (yD 46 hg48) (sk (yD 46 hg48) (sk (yD 46 hg48) (stp (v:=(vb false)) (wy 43 hg46) (xF hg48) (wpL_nil ?_))))
 exact ⟨false,_,hg48,hs,hb,hm⟩
 rcases Bool.eq_false_or_eq_true ((((decide (aA<1)) || (decide (aA>7))) || ((aB != 0) && (aB != 1))) || ((!(s_B aA)) && (aB != 0))) with hg43 | hg43
 refine sk (yD 32 hg43) (sk (yD 32 hg43) (sk (yD 32 hg43) (sk (yD 32 hg43) (sk (yD 32 hg43) (sm (sm (sm (sk (yD 32 hg43) (q2 (vb true) (xT hg43) (wpL_nil ?_))))))))))
 exact ⟨true,_,hg43,hs,hb,hm⟩
 refine q1 (vp (some p1)) (wy 32 hg43) (stp (v:=(vi aA)) (wy 32 hg43) (xl (Tryz.isAgg3 _) (hb.c0 0 gZ)) ?_)
 refine st_call (wy 32 hg43) (xc Tryz.call165) ((p_O2 aA w25).mono ?_)
 rintro e w31 ⟨he,hE⟩
 refine ⟨(vb ((s_B aA) || (aA == 6))),he.trans (by kernel_rfl),?_⟩
 have hs:=hs.pure hE
 have hb:=hb.pure hE
 refine q1 (vb (!((s_B aA) || (aA == 6)))) (wy 32 hg43) (q1 (vb (!((s_B aA) || (aA == 6)))) (wy 32 hg43) ?_)
 refine wpL_join 4 (fun ρ wJ=>∃b23'0:Bool,∃HJ:NP,((!((s_B aA) || (aA == 6)))=b23'0)∧Hst w0 None w0 HJ wJ∧HB HJ wJ [(p1,[(vi aA),(vi aB),(vu aU),(vs aP),(vb aQ)],35)]∧Has ρ [(1,(vp (some p1))),(32,(vb ((((decide (aA<1)) || (decide (aA>7))) || ((aB != 0) && (aB != 1))) || ((!(s_B aA)) && (aB != 0))))),(41,(vb (b23'0 && (!(decide (aP=⟨#[]⟩))))))]) ?_ ?_
 rintro ρ w32 ⟨b23'0,H24,he0,hs,hb,hH⟩
 subst he0
 refine wpL_has hH ?_
 refine q2 (vb ((!((s_B aA) || (aA == 6))) && (!(decide (aP=⟨#[]⟩))))) (xF hg43) (wpL_nil ?_)
 exact ⟨false,_,hg43,hs,hb,hm⟩
 rcases Bool.eq_false_or_eq_true (!((s_B aA) || (aA == 6))) with hg45 | hg45
 refine q1 (vp (some (p1.add 3))) (wy 37 hg45) (stp (v:=(vs aP)) (wy 37 hg45) (xl (Tryz.isAgg9 _) (hb.c 0 3 gZ)) (stp (v:=(vb (!(decide (aP=⟨#[]⟩))))) (wy 37 hg45) (x_strneq (by kernel_rfl) (by kernel_rfl)) (stp (v:=(vb (!(decide (aP=⟨#[]⟩))))) (wy 32 hg43) (xT hg45) (wpL_nil ?_))))
 exact ⟨true,_,hg45,hs,hb,hm⟩
 refine sk (yD 37 hg45) (sk (yD 37 hg45) (sk (yD 37 hg45) (stp (v:=(vb false)) (wy 32 hg43) (xF hg45) (wpL_nil ?_))))
 exact ⟨false,_,hg45,hs,hb,hm⟩
 rcases Bool.eq_false_or_eq_true (((decide (aA<1)) || (decide (aA>7))) || ((aB != 0) && (aB != 1))) with hg37 | hg37
 refine sk (yD 21 hg37) (sk (yD 21 hg37) (sk (yD 21 hg37) (sk (yD 21 hg37) (sk (yD 21 hg37) (sm (sm (sm (sk (yD 21 hg37) (q2 (vb true) (xT hg37) (wpL_nil ?_))))))))))
 exact ⟨true,_,hg37,hs,hb,hm⟩
 refine q1 (vp (some p1)) (wy 21 hg37) (stp (v:=(vi aA)) (wy 21 hg37) (xl (Tryz.isAgg3 _) (hb.c0 0 gZ)) ?_)
 refine st_call (wy 21 hg37) (xc Tryz.call164) ((p_B aA w21).mono ?_)
 rintro e w26 ⟨he,hE⟩
 refine ⟨(vb (s_B aA)),he.trans (by kernel_rfl),?_⟩
 have hs:=hs.pure hE
 have hb:=hb.pure hE
 refine q1 (vb (!(s_B aA))) (wy 21 hg37) (q1 (vb (!(s_B aA))) (wy 21 hg37) ?_)
 refine wpL_join 4 (fun ρ wJ=>∃b20'0:Bool,∃HJ:NP,((!(s_B aA))=b20'0)∧Hst w0 None w0 HJ wJ∧HB HJ wJ [(p1,[(vi aA),(vi aB),(vu aU),(vs aP),(vb aQ)],35)]∧Has ρ [(1,(vp (some p1))),(21,(vb (((decide (aA<1)) || (decide (aA>7))) || ((aB != 0) && (aB != 1))))),(30,(vb (b20'0 && (aB != 0))))]) ?_ ?_
 rintro ρ w27 ⟨b20'0,H21,he0,hs,hb,hH⟩
 subst he0
 refine wpL_has hH ?_
 refine q2 (vb ((!(s_B aA)) && (aB != 0))) (xF hg37) (wpL_nil ?_)
 exact ⟨false,_,hg37,hs,hb,hm⟩
 rcases Bool.eq_false_or_eq_true (!(s_B aA)) with hg39 | hg39
 refine q1 (vp (some (p1.add 1))) (wy 26 hg39) (stp (v:=(vi aB)) (wy 26 hg39) (xl (Tryz.isAgg3 _) (hb.c 0 1 gZ)) (q1 (vb (aB != 0)) (wy 26 hg39) (stp (v:=(vb (aB != 0))) (wy 21 hg37) (xT hg39) (wpL_nil ?_))))
 exact ⟨true,_,hg39,hs,hb,hm⟩
 refine sk (yD 26 hg39) (sk (yD 26 hg39) (sk (yD 26 hg39) (stp (v:=(vb false)) (wy 21 hg37) (xF hg39) (wpL_nil ?_))))
 exact ⟨false,_,hg39,hs,hb,hm⟩
 rcases Bool.eq_false_or_eq_true ((decide (aA<1)) || (decide (aA>7))) with hg31 | hg31
 refine sk (yD 11 hg31) (sk (yD 11 hg31) (sk (yD 11 hg31) (sk (yD 11 hg31) (sm (sm (sm (sk (yD 11 hg31) (q2 (vb true) (xT hg31) (wpL_nil ?_)))))))))
 exact ⟨true,_,hg31,hs,hb,hm⟩
 refine q1 (vp (some (p1.add 1))) (wy 11 hg31) (stp (v:=(vi aB)) (wy 11 hg31) (xl (Tryz.isAgg3 _) (hb.c 0 1 gZ)) (q1 (vb (aB != 0)) (wy 11 hg31) (q1 (vb (aB != 0)) (wy 11 hg31) ?_)))
 refine wpL_join 4 (fun ρ wJ=>∃b17'0:Bool,∃HJ:NP,((aB != 0)=b17'0)∧Hst w0 None w0 HJ wJ∧HB HJ wJ [(p1,[(vi aA),(vi aB),(vu aU),(vs aP),(vb aQ)],35)]∧Has ρ [(1,(vp (some p1))),(11,(vb ((decide (aA<1)) || (decide (aA>7))))),(19,(vb (b17'0 && (aB != 1))))]) ?_ ?_
 rintro ρ w22 ⟨b17'0,H18,he0,hs,hb,hH⟩
 subst he0
 refine wpL_has hH ?_
 refine q2 (vb ((aB != 0) && (aB != 1))) (xF hg31) (wpL_nil ?_)
 exact ⟨false,_,hg31,hs,hb,hm⟩
 rcases Bool.eq_false_or_eq_true (aB != 0) with hg33 | hg33
 refine q1 (vp (some (p1.add 1))) (wy 15 hg33) (stp (v:=(vi aB)) (wy 15 hg33) (xl (Tryz.isAgg3 _) (hb.c 0 1 gZ)) (q1 (vb (aB != 1)) (wy 15 hg33) (stp (v:=(vb (aB != 1))) (wy 11 hg31) (xT hg33) (wpL_nil ?_))))
 exact ⟨true,_,hg33,hs,hb,hm⟩
 refine sk (yD 15 hg33) (sk (yD 15 hg33) (sk (yD 15 hg33) (stp (v:=(vb false)) (wy 11 hg31) (xF hg33) (wpL_nil ?_))))
 exact ⟨false,_,hg33,hs,hb,hm⟩
 rcases Bool.eq_false_or_eq_true (decide (aA<1)) with hg27 | hg27
 refine sk (yD 6 hg27) (sk (yD 6 hg27) (sk (yD 6 hg27) (q2 (vb true) (xT hg27) (wpL_nil ?_))))
 exact ⟨true,_,hg27,hs,hb,hm⟩
 refine q1 (vp (some p1)) (wy 6 hg27) (stp (v:=(vi aA)) (wy 6 hg27) (xl (Tryz.isAgg3 _) (hb.c0 0 gZ)) (q1 (vb (decide (aA>7))) (wy 6 hg27) (q2 (vb (decide (aA>7))) (xF hg27) (wpL_nil ?_))))
 exact ⟨false,_,hg27,hs,hb,hm⟩
 rintro ρ w18 ⟨b13'0,H14,he0,hs,hb,hH⟩
 subst he0
 refine norm_has hH ?_
 refine th_n ?_
 refine wpE_cond (t:=((((((decide (aA<1)) || (decide (aA>7))) || ((aB != 0) && (aB != 1))) || ((!(s_B aA)) && (aB != 0))) || ((!((s_B aA) || (aA == 6))) && (!(decide (aP=⟨#[]⟩))))) || ((aQ && (aA != 1)) && (aA != 4)))) (by kernel_rfl) (fun hc1=>?_) (fun hc1=>?_)
 refine eg (q0 (vi 110) (ln (er (th_r (rs1 Tryz.results166 (v:=(vi 110)) ?_)))))
 exact ⟨true,_,⟨hc1,rfl⟩,by kernel_rfl,(Ext.refl (F:=None) _).hst hs⟩
 refine wpE_skip (th_n (wpE_seq (eg (q0 (vp (some (p1.add 3))) (q2 (vs aP) (xl (Tryz.isAgg9 _) (hb.c 0 3 gZ)) (q0 (vi (aP.size:Int)) (q0 (vb (decide ((aP.size:Int)>64))) (ln ?_))))))))
 refine wpE_cond (t:=(decide ((aP.size:Int)>64))) (by kernel_rfl) (fun hc2=>?_) (fun hc2=>?_)
 refine eg (q0 (vi 1) (ln (er (th_r (rs1 Tryz.results166 (v:=(vi 1)) ?_)))))
 exact ⟨false,true,⟨hc1,hc2⟩,by kernel_rfl,(Ext.refl (F:=None) _).hst hs⟩
 refine wpE_skip (th_n (eg (q0 (vi 0) (ln (er (rs1 Tryz.results166 (v:=(vi 0)) ?_))))))
 exact ⟨false,false,⟨hc1,hc2⟩,by kernel_rfl,(Ext.refl (F:=None) _).hst hs⟩
theorem p_A2 (aA aB aU:Int) (aP:ByteArray) (aQ:Bool) (w0:World):Calls Tryz.prog 166 #[(.agg #[(.int .i64 aA),(.int .i64 aB),(.int .u64 aU),(.string aP),(.bool aQ)])] w0 (fun e w'=>e=.returned (.int .i64 (s_A2 aA aB aU aP aQ))∧Pure w0 w'):=by
 refine (pw_A2 aA aB aU aP aQ w0).mono ?_
 rintro e w' ⟨b'0,b'1,⟨e0,e1⟩,h,E⟩
 subst e0
 subst e1
 exact ⟨h,E⟩
def m_G_l5 (aD aC:Int) (aE aF:Int) (aG:ByteArray) (aH:Sl) (kind1 i1:Int) (fakes1 aL:Int) (aM aN:Int) (aO:ByteArray) (cF:Bool) (bA bB bC:Int) (bD:ByteArray) (bE:Bool) (w0:World) (Hl3:NP) (wl3:World) (Kc2:Int→Int→Int→Int→ByteArray→Bool→NP→WP) (Kc5:Int→Int→Int→Int→ByteArray→Bool→Int→Int→Int→ByteArray→Bool→NP→WP) (K:Int→Int→Int→ByteArray→Bool→Bool→WP):Prop :=
 Br (decide (fakes1<4))
  (∀(w14:World),Hst w0 Hl3 wl3 Hl3 w14 →
  ∃C1:WP,C1 w14.drew∧∀w15,w15=w14.drew →
  Calls Tryz.prog 166 #[(.agg #[(vi aL),(vi aM),(vu aN),(vs aO),(vb (decide (fakes1>0)))])] w15 (fun e w16=>∃r1:Int,e=.returned (vi r1)∧C1 w16∧
   Kept Hl3 w15 w16 ∧
   Br (r1 == 0)
    (Br (kind1 == 4)
     (∃z1:Int,(∀w',C1 w'→(Go.binOp .rem 3 (vi fakes1) (vi 2)).run Tryz.prog w'=.ok (vi z1) w') ∧
     ∃z2:Int,(∀w',C1 w'→(Go.binOp .quo 3 (vi fakes1) (vi 2)).run Tryz.prog w'=.ok (vi z2) w') ∧
     Calls Tryz.prog 58 #[(.agg #[(vi aL),(vi aM),(vu aN),(vs aO),(vb (decide (fakes1>0)))]),(vb (z1 == 1)),(vb (z2 == 1))] w16 (fun e w17=>∃bT bU:Int,∃bV bW:Int,∃bX:ByteArray,∃bY:Sl,e=.returned (.agg #[(vi bT),(vi bU),(vi bV),(vu bW),(vs bX),bY.v])∧C1 w17∧
      Kept Hl3 w16 w17 ∧
      Calls Tryz.prog 47 #[(.agg #[(vi bT),(vi bU),(vi bV),(vu bW),(vs bX),bY.v]),(.agg #[(vi aD),(vi aC),(vi aE),(vu aF),(vs aG),aH.v])] w17 (fun e w18=>∃r2:Bool,e=.returned (vb r2)∧C1 w18∧
       Kept Hl3 w17 w18 ∧
       Br r2
        (∀(w19:World),Hst w0 Hl3 w18 Hl3 w19 →
        K aL aM aN aO (decide (fakes1>0)) true w19)
        (Kc5 (q6.wrap (fakes1+1)) aL aM aN aO (decide (fakes1>0)) bA bB bC bD bE Hl3 w18))))
     (Br (fakes1 != 2)
      (∃z3:Int,(∀w',C1 w'→(Go.binOp .rem 3 (vi fakes1) (vi 2)).run Tryz.prog w'=.ok (vi z3) w') ∧
      ∃z4:Int,(∀w',C1 w'→(Go.binOp .quo 3 (vi fakes1) (vi 2)).run Tryz.prog w'=.ok (vi z4) w') ∧
      Calls Tryz.prog 58 #[(.agg #[(vi aL),(vi aM),(vu aN),(vs aO),(vb (decide (fakes1>0)))]),(vb (z3 == 1)),(vb (z4 == 1))] w16 (fun e w20=>∃bO bP:Int,∃dB dC:Int,∃bQ:ByteArray,∃dD:Sl,e=.returned (.agg #[(vi bO),(vi bP),(vi dB),(vu dC),(vs bQ),dD.v])∧C1 w20∧
       Kept Hl3 w16 w20 ∧
       Calls Tryz.prog 47 #[(.agg #[(vi bO),(vi bP),(vi dB),(vu dC),(vs bQ),dD.v]),(.agg #[(vi aD),(vi aC),(vi aE),(vu aF),(vs aG),aH.v])] w20 (fun e w21=>∃r3:Bool,e=.returned (vb r3)∧C1 w21∧
        Kept Hl3 w20 w21 ∧
        Br r3
         (∀(w22:World),Hst w0 Hl3 w21 Hl3 w22 →
         K aL aM aN aO (decide (fakes1>0)) true w22)
         (Kc5 (q6.wrap (fakes1+1)) aL aM aN aO (decide (fakes1>0)) bA bB bC bD bE Hl3 w21))))
      (Kc5 (q6.wrap (fakes1+1)) aL aM aN aO (decide (fakes1>0)) bA bB bC bD bE Hl3 w16)))
    (Kc5 (q6.wrap (fakes1+1)) aL aM aN aO (decide (fakes1>0)) bA bB bC bD bE Hl3 w16)))
  (Kc2 (q6.wrap (i1+1)) bA bB bC bD bE Hl3 wl3)
def m_G_j4 (aD aC:Int) (aE aF:Int) (aG:ByteArray) (aH:Sl) (kind1 i1:Int) (aI aJ aR:Int) (aK:ByteArray) (aS:Bool) (aA aB aU:Int) (aP:ByteArray) (aQ:Bool) (w0:World) (H:NP) (w:World) (Kc2:Int→Int→Int→Int→ByteArray→Bool→NP→WP) (K:Int→Int→Int→ByteArray→Bool→Bool→WP):Prop :=
 ∃(I3:Int→Int→Int→Int→ByteArray→Bool→Int→Int→Int→ByteArray→Bool→NP→WP) (mu3:Int→Int→Int→Int→ByteArray→Bool→Int→Int→Int→ByteArray→Bool→World→Nat),I3 0 aA aB aU aP aQ aI aJ aR aK aS H w ∧
  ∀(fakes1 aL:Int) (aM aN:Int) (aO:ByteArray) (cF:Bool) (bA bB bC:Int) (bD:ByteArray) (bE:Bool) (Hl3:NP) (wl3:World),Hst w0 Hl3 wl3 Hl3 wl3→I3 fakes1 aL aM aN aO cF bA bB bC bD bE Hl3 wl3→m_G_l5 aD aC aE aF aG aH kind1 i1 fakes1 aL aM aN aO cF bA bB bC bD bE w0 Hl3 wl3 Kc2 (fun y'0 y'1 y'2 y'3 y'4 y'5 y'6 y'7 y'8 y'9 y'10 H' w'=>I3 y'0 y'1 y'2 y'3 y'4 y'5 y'6 y'7 y'8 y'9 y'10 H' w'∧mu3 y'0 y'1 y'2 y'3 y'4 y'5 y'6 y'7 y'8 y'9 y'10 w'<mu3 fakes1 aL aM aN aO cF bA bB bC bD bE wl3) K
def m_G_j3 (aD aC:Int) (aE aF:Int) (aG:ByteArray) (aH:Sl) (kind1 i1:Int) (aI aJ aR:Int) (aK:ByteArray) (aS:Bool) (a1:Addr) (w0:World) (H:NP) (w:World) (Kc2:Int→Int→Int→Int→ByteArray→Bool→NP→WP) (K:Int→Int→Int→ByteArray→Bool→Bool→WP):Prop :=
 Br ((s_B kind1) || (kind1 == 6))
  (∀(H4:NP) (w13:World),Hst w0 H w H4 w13 →
  ∃bF bG:Int,∃bH bI:Int,∃bJ:ByteArray,∃bK:Sl,Row w13 a1 [(vi bF),(vi bG),(vi bH),(vu bI),(vs bJ),bK.v] ∧
  ∀(p8:Addr) (w23:World),New w13 (.cells #[(vi 1),(vi 0)] 3) p8 w23 →
  Calls Tryz.prog 163 #[(.agg #[(vi bF),(vi bG),(vi bH),(vu bI),(vs bJ),bK.v]),(Sl.mk (some p8) 2 2).v] w23 (fun e w24=>∃cG cH:Int,∃dE bZ:Int,∃cI:ByteArray,∃dF:Sl,e=.returned (.agg #[(vi cG),(vi cH),(vi dE),(vu bZ),(vs cI),dF.v])∧
   Kept H4 w23 w24 ∧
   ∀(w25:World),Hst w0 H4 w24 H4 w25 →
   ∃cJ cK:Int,∃cL cM:Int,∃cN:ByteArray,∃cO:Sl,Row w25 a1 [(vi cJ),(vi cK),(vi cL),(vu cM),(vs cN),cO.v] ∧
   ∀(p9:Addr) (w26:World),New w25 (.cells #[(vi 1),(vi 1)] 3) p9 w26 →
   Calls Tryz.prog 163 #[(.agg #[(vi cJ),(vi cK),(vi cL),(vu cM),(vs cN),cO.v]),(Sl.mk (some p9) 2 2).v] w26 (fun e w27=>∃dG dH:Int,∃dI dJ:Int,∃cC:ByteArray,∃dK:Sl,e=.returned (.agg #[(vi dG),(vi dH),(vi dI),(vu dJ),(vs cC),dK.v])∧
    Kept H4 w26 w27 ∧
    ∀(w28:World),Hst w0 H4 w27 H4 w28 →
    m_G_j4 aD aC aE aF aG aH kind1 i1 aI aJ aR aK aS kind1 (cond (s_B kind1) aC 0) bZ cC false w0 H4 w28 Kc2 K)))
  (Br (kind1 == 7)
   (∀(H4:NP) (w13:World),Hst w0 H w H4 w13 →
   ∀(p10:Addr) (w29:World),New w13 (.cells #[(vi 1)] 3) p10 w29 →
   Calls Tryz.prog 163 #[(.agg #[(vi aD),(vi aC),(vi aE),(vu aF),(vs aG),aH.v]),(Sl.mk (some p10) 1 1).v] w29 (fun e w30=>∃dL dM:Int,∃dN cD:Int,∃dO:ByteArray,∃dP:Sl,e=.returned (.agg #[(vi dL),(vi dM),(vi dN),(vu cD),(vs dO),dP.v])∧
    Kept H4 w29 w30 ∧
    ∀(w31:World),Hst w0 H4 w30 H4 w31 →
    m_G_j4 aD aC aE aF aG aH kind1 i1 aI aJ aR aK aS kind1 (cond (s_B kind1) aC 0) cD ⟨#[]⟩ false w0 H4 w31 Kc2 K))
   (∀(H4:NP) (w13:World),Hst w0 H w H4 w13 →
   ∀(p11:Addr) (w32:World),New w13 (.cells #[(vi 0),(vi 1)] 3) p11 w32 →
   Calls Tryz.prog 163 #[(.agg #[(vi aD),(vi aC),(vi aE),(vu aF),(vs aG),aH.v]),(Sl.mk (some p11) 2 2).v] w32 (fun e w33=>∃dQ dR:Int,∃dS cE:Int,∃dT:ByteArray,∃dU:Sl,e=.returned (.agg #[(vi dQ),(vi dR),(vi dS),(vu cE),(vs dT),dU.v])∧
    Kept H4 w32 w33 ∧
    ∀(w34:World),Hst w0 H4 w33 H4 w34 →
    m_G_j4 aD aC aE aF aG aH kind1 i1 aI aJ aR aK aS kind1 (cond (s_B kind1) aC 0) cE ⟨#[]⟩ false w0 H4 w34 Kc2 K)))
def m_G_l2 (aD aC:Int) (aE aF:Int) (aG:ByteArray) (aH:Sl) (p6:Addr) (kind1 i1:Int) (aI aJ aR:Int) (aK:ByteArray) (aS:Bool) (w0:World) (Hl2:NP) (wl2:World) (Kc1:Int→Int→Int→Int→ByteArray→Bool→NP→WP) (Kc2:Int→Int→Int→Int→ByteArray→Bool→NP→WP) (K:Int→Int→Int→ByteArray→Bool→Bool→WP):Prop :=
 Br (decide (i1<((Sl.mk (some p6) 3 3).len:Int)))
  (∃C2:WP,C2 wl2.drew∧∀w35,w35=wl2.drew →
  ∃a2:Addr,At (Sl.mk (some p6) 3 3) i1 1 a2 ∧
  ∃v1:Sl,(∀w',C2 w'→w'.cell? a2=some v1.v) ∧
  (Calls Tryz.prog 163 #[(.agg #[(vi aD),(vi aC),(vi aE),(vu aF),(vs aG),aH.v]),v1.v] w35 (fun e w36=>∃cP cQ:Int,∃cR cS:Int,∃cT:ByteArray,∃cU:Sl,e=.returned (.agg #[(vi cP),(vi cQ),(vi cR),(vu cS),(vs cT),cU.v])∧
   Kept Hl2 w35 w36 ∧
   ∀(p12:Addr) (w37:World),New w36 (.cells #[(vi 0),(vi 0),(vi 0),(vu 0),(vs ⟨#[]⟩),Sl.nil.v] 107) p12 w37→C2 w37 ∧
   (∀j,j<6→CanW w37 (p12.add j))∧¬ Hl2 p12.block∧∀w38:World,w38=storeRow w37 p12 [(vi cP),(vi cQ),(vi cR),(vu cS),(vs cT),cU.v] →
   m_G_j3 aD aC aE aF aG aH kind1 i1 aI aJ aR aK aS p12 w0 Hl2 w38 Kc2 K)) ∧
  (∀(p13:Addr) (w39:World),New w35 (.cells #[(vi 0),(vi 0),(vi 0),(vu 0),(vs ⟨#[]⟩),Sl.nil.v] 107) p13 w39→C2 w39 ∧
  Calls Tryz.prog 163 #[(.agg #[(vi aD),(vi aC),(vi aE),(vu aF),(vs aG),aH.v]),v1.v] w39 (fun e w40=>∃cV cW:Int,∃cX cY:Int,∃cZ:ByteArray,∃dA:Sl,e=.returned (.agg #[(vi cV),(vi cW),(vi cX),(vu cY),(vs cZ),dA.v])∧
   Kept Hl2 w39 w40 ∧
   (∀j,j<6→CanW w40 (p13.add j))∧¬ Hl2 p13.block∧∀w41:World,w41=storeRow w40 p13 [(vi cV),(vi cW),(vi cX),(vu cY),(vs cZ),dA.v] →
   m_G_j3 aD aC aE aF aG aH kind1 i1 aI aJ aR aK aS p13 w0 Hl2 w41 Kc2 K)))
  (Kc1 (q6.wrap (kind1+1)) aI aJ aR aK aS Hl2 wl2)
def m_G_l1 (aD aC:Int) (aE aF:Int) (aG:ByteArray) (aH:Sl) (p6:Addr) (kind1 aV:Int) (aW cA:Int) (aX:ByteArray) (cB:Bool) (w0:World) (Hl1:NP) (wl1:World) (Kc1:Int→Int→Int→Int→ByteArray→Bool→NP→WP) (K:Int→Int→Int→ByteArray→Bool→Bool→WP):Prop :=
 Br (decide (kind1≤7))
  (∃(I2:Int→Int→Int→Int→ByteArray→Bool→NP→WP) (mu2:Int→Int→Int→Int→ByteArray→Bool→World→Nat),I2 0 aV aW cA aX cB Hl1 wl1 ∧
   ∀(i1 aI:Int) (aJ aR:Int) (aK:ByteArray) (aS:Bool) (Hl2:NP) (wl2:World),Hst w0 Hl2 wl2 Hl2 wl2→I2 i1 aI aJ aR aK aS Hl2 wl2→m_G_l2 aD aC aE aF aG aH p6 kind1 i1 aI aJ aR aK aS w0 Hl2 wl2 Kc1 (fun y'0 y'1 y'2 y'3 y'4 y'5 H' w'=>I2 y'0 y'1 y'2 y'3 y'4 y'5 H' w'∧mu2 y'0 y'1 y'2 y'3 y'4 y'5 w'<mu2 i1 aI aJ aR aK aS wl2) K)
  (∀(w42:World),Hst w0 Hl1 wl1 Hl1 w42 →
  K 0 0 0 ⟨#[]⟩ false false w42)
def m_G (aD aC:Int) (aE aF:Int) (aG:ByteArray) (aH:Sl) (w0:World) (K:Int→Int→Int→ByteArray→Bool→Bool→WP):Prop :=
 ∀(H2:NP) (w2:World),Hst w0 None w0 H2 w2 →
 ∀(p3:Addr) (w3:World),New w2 (.cells #[(vi 0)] 3) p3 w3 →
 ∀(p4:Addr) (w4:World),New w3 (.cells #[(vi 0),(vi 1),(vi 0),(vi 0)] 3) p4 w4 →
 ∀(p5:Addr) (w5:World),New w4 (.cells #[(vi 0),(vi 1)] 3) p5 w5 →
 ∀(p6:Addr) (w6:World),New w5 (.cells #[(Sl.mk (some p3) 1 1).v,(Sl.mk (some p4) 4 4).v,(Sl.mk (some p5) 2 2).v] 42) p6 w6 →
 ∃(I1:Int→Int→Int→Int→ByteArray→Bool→NP→WP) (mu1:Int→Int→Int→Int→ByteArray→Bool→World→Nat),I1 1 0 0 0 ⟨#[]⟩ false H2 w6 ∧
  ∀(kind1 aV:Int) (aW cA:Int) (aX:ByteArray) (cB:Bool) (Hl1:NP) (wl1:World),Hst w0 Hl1 wl1 Hl1 wl1→I1 kind1 aV aW cA aX cB Hl1 wl1→m_G_l1 aD aC aE aF aG aH p6 kind1 aV aW cA aX cB w0 Hl1 wl1 (fun y'0 y'1 y'2 y'3 y'4 y'5 H' w'=>I1 y'0 y'1 y'2 y'3 y'4 y'5 H' w'∧mu1 y'0 y'1 y'2 y'3 y'4 y'5 w'<mu1 kind1 aV aW cA aX cB wl1) K
theorem w_G (aD aC : Int) (aE aF : Int) (aG : ByteArray) (aH : Sl) (w0 : World) (K : Int → Int → Int → ByteArray → Bool → Bool → WP) (h : m_G aD aC aE aF aG aH w0 K) :
  Calls Tryz.prog 98 #[(.agg #[(vi aD),(vi aC),(vi aE),(vu aF),(vs aG),aH.v])] w0 (fun e w'=>∃dV dW bR:Int,∃dX:ByteArray,∃bS r4:Bool,e=.returned (.tuple #[(.agg #[(vi dV),(vi dW),(vu bR),(vs dX),(vb bS)]),(vb r4)])∧K dV dW bR dX bS r4 w'):=by
 unfold m_G at h
 refine cw (args:=[(.agg #[(vi aD),(vi aC),(vi aE),(vu aF),(vs aG),aH.v])]) Tryz.func98 Tryz.ntmps98 ?_
 have hs:=Hst.start w0
 have hb:=HB.nil None w0
 refine eg (sn (O:=(.cells #[(vi aD),(vi aC),(vi aE),(vu aF),(vs aG),aH.v] 107)) xb ?_)
 intro p1 w1 hn1
 obtain ⟨H1,hs,hb⟩:=hs.alloc hb hn1
 refine sn (O:=(.cells #[(vi 0),(vi 0),(vu 0),(vs ⟨#[]⟩),(vb false)] 35)) (x_alloc (Tryz.zeroValue35 _) rfl) ?_
 intro p2 w2 hn2
 obtain ⟨H2,hs,hb⟩:=hs.alloc hb hn2
 refine q0 (vb false) (ln (eg ?_))
 have h:=h H2 w2 hs
 have hs:=hs.here
 refine st_new (O:=(.cells #[(vi 0)] 3)) (fun p=>(Sl.mk (some p) 1 1).v) (want0 rfl) (x_buildSlice (vs:=#[(0,(vi 0))]) (by kernel_rfl) (by kernel_rfl)) ?_
 intro p3 w3 hn26
 have h:=h p3 w3 hn26
 have hs:=hs.again (Ext.new (F:=None) hn26).keptP
 have hb:=hb.kept (Ext.new (F:=None) hn26).keptP
 refine st_new (O:=(.cells #[(vi 0),(vi 1),(vi 0),(vi 0)] 3)) (fun p=>(Sl.mk (some p) 4 4).v) (want0 rfl) (x_buildSlice (vs:=#[(0,(vi 0)),(1,(vi 1)),(2,(vi 0)),(3,(vi 0))]) (by kernel_rfl) (by kernel_rfl)) ?_
 intro p4 w4 hn25
 have h:=h p4 w4 hn25
 have hs:=hs.again (Ext.new (F:=None) hn25).keptP
 have hb:=hb.kept (Ext.new (F:=None) hn25).keptP
 refine st_new (O:=(.cells #[(vi 0),(vi 1)] 3)) (fun p=>(Sl.mk (some p) 2 2).v) (want0 rfl) (x_buildSlice (vs:=#[(0,(vi 0)),(1,(vi 1))]) (by kernel_rfl) (by kernel_rfl)) ?_
 intro p5 w5 hn24
 have h:=h p5 w5 hn24
 have hs:=hs.again (Ext.new (F:=None) hn24).keptP
 have hb:=hb.kept (Ext.new (F:=None) hn24).keptP
 refine st_new (O:=(.cells #[(Sl.mk (some p3) 1 1).v,(Sl.mk (some p4) 4 4).v,(Sl.mk (some p5) 2 2).v] 42)) (fun p=>(Sl.mk (some p) 3 3).v) (want0 rfl) (x_buildSlice (vs:=#[(0,(Sl.mk (some p3) 1 1).v),(1,(Sl.mk (some p4) 4 4).v),(2,(Sl.mk (some p5) 2 2).v)]) (by kernel_rfl) (by kernel_rfl)) ?_
 intro p6 w6 hn23
 have h:=h p6 w6 hn23
 have hs:=hs.again (Ext.new (F:=None) hn23).keptP
 have hb:=hb.kept (Ext.new (F:=None) hn23).keptP
 refine q0 ((Sl.mk (some p6) 3 3).v) (ln (wpE_seq (eg (q0 (vi 1) (ln (wpE_block ?_))))))
 obtain ⟨I1,mu1,h0,hr⟩:=h
 refine wpE_loop (σ:=Int×Int×Int×Int×ByteArray×Bool×NP×World) (fun s ρ w=>w=s.2.2.2.2.2.2.2∧Has ρ [(1,(vp (some p1))),(2,(vp (some p2))),(4,(Sl.mk (some p6) 3 3).v),(5,(vi s.1))]∧Hst w0 s.2.2.2.2.2.2.1 w s.2.2.2.2.2.2.1 w∧HB s.2.2.2.2.2.2.1 w [(p2,[(vi s.2.1),(vi s.2.2.1),(vu s.2.2.2.1),(vs s.2.2.2.2.1),(vb s.2.2.2.2.2.1)],35),(p1,[(vi aD),(vi aC),(vi aE),(vu aF),(vs aG),aH.v],107)]∧I1 s.1 s.2.1 s.2.2.1 s.2.2.2.1 s.2.2.2.2.1 s.2.2.2.2.2.1 s.2.2.2.2.2.2.1 s.2.2.2.2.2.2.2) (fun s=>mu1 s.1 s.2.1 s.2.2.1 s.2.2.2.1 s.2.2.2.2.1 s.2.2.2.2.2.1 s.2.2.2.2.2.2.2) (1,0,0,0,⟨#[]⟩,false,H2,w6) ⟨rfl,hm,hs,hb,h0⟩ ?_
 rintro ⟨kind1,aV,aW,cA,aX,cB,Hl1,wl1⟩ ρ w ⟨hw,hH,hs,hb,hI⟩
 obtain rfl:wl1=w:=(show w=wl1 from hw).symm
 have hH:Has ρ [(1,(vp (some p1))),(2,(vp (some p2))),(4,(Sl.mk (some p6) 3 3).v),(5,(vi kind1))]:=hH
 have hs:Hst w0 Hl1 wl1 Hl1 wl1:=hs
 have hb:HB Hl1 wl1 [(p2,[(vi aV),(vi aW),(vu cA),(vs aX),(vb cB)],35),(p1,[(vi aD),(vi aC),(vi aE),(vu aF),(vs aG),aH.v],107)]:=hb
 have h:=hr kind1 aV aW cA aX cB Hl1 wl1 hs hI
 unfold m_G_l1 at h
 refine wpE_has hH ?_
 refine wpE_seq (eg (q0 (vi kind1) (q0 (vb (decide (kind1≤7))) (ln ?_))))
 refine wpE_cond (t:=(decide (kind1≤7))) (by kernel_rfl) (fun hc1=>?_) (fun hc1=>?_)
 have h:=h.1 hc1
 refine wpE_skip (th_n (wpE_seq (wpE_block (eg (q0 (vi 0) (ln (wpE_block ?_)))))))
 obtain ⟨I2,mu2,h0,hr⟩:=h
 refine wpE_loop (σ:=Int×Int×Int×Int×ByteArray×Bool×NP×World) (fun s ρ w=>w=s.2.2.2.2.2.2.2∧Has ρ [(1,(vp (some p1))),(2,(vp (some p2))),(4,(Sl.mk (some p6) 3 3).v),(5,(vi kind1)),(6,(vi s.1))]∧Hst w0 s.2.2.2.2.2.2.1 w s.2.2.2.2.2.2.1 w∧HB s.2.2.2.2.2.2.1 w [(p2,[(vi s.2.1),(vi s.2.2.1),(vu s.2.2.2.1),(vs s.2.2.2.2.1),(vb s.2.2.2.2.2.1)],35),(p1,[(vi aD),(vi aC),(vi aE),(vu aF),(vs aG),aH.v],107)]∧I2 s.1 s.2.1 s.2.2.1 s.2.2.2.1 s.2.2.2.2.1 s.2.2.2.2.2.1 s.2.2.2.2.2.2.1 s.2.2.2.2.2.2.2) (fun s=>mu2 s.1 s.2.1 s.2.2.1 s.2.2.2.1 s.2.2.2.2.1 s.2.2.2.2.2.1 s.2.2.2.2.2.2.2) (0,aV,aW,cA,aX,cB,Hl1,wl1) ⟨rfl,hm,hs,hb,h0⟩ ?_
 rintro ⟨i1,aI,aJ,aR,aK,aS,Hl2,wl2⟩ ρ w ⟨hw,hH,hs,hb,hI⟩
 obtain rfl:wl2=w:=(show w=wl2 from hw).symm
 have hH:Has ρ [(1,(vp (some p1))),(2,(vp (some p2))),(4,(Sl.mk (some p6) 3 3).v),(5,(vi kind1)),(6,(vi i1))]:=hH
 have hs:Hst w0 Hl2 wl2 Hl2 wl2:=hs
 have hb:HB Hl2 wl2 [(p2,[(vi aI),(vi aJ),(vu aR),(vs aK),(vb aS)],35),(p1,[(vi aD),(vi aC),(vi aE),(vu aF),(vs aG),aH.v],107)]:=hb
 have h:=hr i1 aI aJ aR aK aS Hl2 wl2 hs hI
 unfold m_G_l2 at h
 refine wpE_has hH ?_
 refine wpE_seq (eg (q0 (vi i1) (q0 ((Sl.mk (some p6) 3 3).v) (q0 (vi ((Sl.mk (some p6) 3 3).len:Int)) (q0 (vb (decide (i1<((Sl.mk (some p6) 3 3).len:Int)))) (ln ?_))))))
 refine wpE_cond (t:=(decide (i1<((Sl.mk (some p6) 3 3).len:Int)))) (by kernel_rfl) (fun hc2=>?_) (fun hc2=>?_)
 have h:=h.1 hc2
 refine wpE_skip (th_n (wpE_seq (wpE_block (wpE_seq ?_))))
 refine wpE_joinT (fun ρ w=>∃a1:Addr,∃H:NP,Has ρ [(1,(vp (some p1))),(2,(vp (some p2))),(4,(Sl.mk (some p6) 3 3).v),(5,(vi kind1)),(6,(vi i1)),(7,(vp (some a1)))]∧Hst w0 H w H w∧HB H w [(p2,[(vi aI),(vi aJ),(vu aR),(vs aK),(vb aS)],35),(p1,[(vi aD),(vi aC),(vi aE),(vu aF),(vs aG),aH.v],107)]∧m_G_j3 aD aC aE aF aG aH kind1 i1 aI aJ aR aK aS a1 w0 H w (fun y'0 y'1 y'2 y'3 y'4 y'5 H' w'=>I2 y'0 y'1 y'2 y'3 y'4 y'5 H' w'∧mu2 y'0 y'1 y'2 y'3 y'4 y'5 w'<mu2 i1 aI aJ aR aK aS wl2) K) ?_ ?_
 rintro ρ w ⟨a1,H,hH,hs,hb,h⟩
 unfold m_G_j3 at h
 refine wpE_has hH ?_
 refine eg (q0 (vi kind1) (q0 (.agg #[(vi kind1),(vi 0),(vu 0),(vs ⟨#[]⟩),(vb false)]) (sn (O:=(.cells #[(vi 0),(vi 0),(vu 0),(vs ⟨#[]⟩),(vb false)] 35)) (x_alloc (Tryz.zeroValue35 _) rfl) ?_)))
 intro p7 w7 hn3
 obtain ⟨H3,hs,hb⟩:=hs.alloc hb hn3
 refine st_set (want0 rfl) (xo p7 [(vi kind1),(vi 0),(vu 0),(vs ⟨#[]⟩),(vb false)] (Tryz.sizeOf35 _) (hb.k0 0 5 gZ)) ?_
 intro w8 hn4
 obtain ⟨hs,hb⟩:=hb.s0 (l':=[(p7,[(vi kind1),(vi 0),(vu 0),(vs ⟨#[]⟩),(vb false)],35),(p2,[(vi aI),(vi aJ),(vu aR),(vs aK),(vb aS)],35),(p1,[(vi aD),(vi aC),(vi aE),(vu aF),(vs aG),aH.v],107)]) 0 [(vi kind1),(vi 0),(vu 0),(vs ⟨#[]⟩),(vb false)] hs hn4 gZ
 refine ln (wpE_seq (eg (q0 (vi kind1) ?_)))
 refine sc Tryz.call164 ((p_B kind1 w8).mono ?_)
 rintro e w9 ⟨he,hE⟩
 refine ⟨(vb (s_B kind1)),he.trans (by kernel_rfl),?_⟩
 have hs:=hs.pure hE
 have hb:=hb.pure hE
 refine ln ?_
 refine wpE_via (fun ρ wJ=>∃b1'0:Bool,∃HJ:NP,((s_B kind1)=b1'0)∧Hst w0 H w HJ wJ∧HB HJ wJ [(p7,[(vi kind1),(vi (cond b1'0 aC 0)),(vu 0),(vs ⟨#[]⟩),(vb false)],35),(p2,[(vi aI),(vi aJ),(vu aR),(vs aK),(vb aS)],35),(p1,[(vi aD),(vi aC),(vi aE),(vu aF),(vs aG),aH.v],107)]∧Has ρ [(1,(vp (some p1))),(2,(vp (some p2))),(4,(Sl.mk (some p6) 3 3).v),(5,(vi kind1)),(6,(vi i1)),(7,(vp (some a1))),(8,(vp (some p7)))]) ?_ ?_
 refine wpE_cond (t:=(s_B kind1)) (by kernel_rfl) (fun hc4=>?_) (fun hc4=>?_)
 refine rg (q0 (vp (some (p1.add 1))) (q2 (vi aC) (xl (Tryz.isAgg3 _) (hb.c 2 1 (gS (gS gZ)))) (q0 (vp (some (p7.add 1))) (st_set (want0 rfl) (x_store (a:=(p7.add 1)) (v:=(vi aC)) (by kernel_rfl) (by kernel_rfl) rfl (Tryz.sizeOf3 _) (hb.canW 0 1 gZ (by kernel_rfl))) ?_))))
 intro w12 hn6
 have hsb:Hst w0 H w H3 w12∧HB H3 w12 [(p7,[(vi kind1),(vi aC),(vu 0),(vs ⟨#[]⟩),(vb false)],35),(p2,[(vi aI),(vi aJ),(vu aR),(vs aK),(vb aS)],35),(p1,[(vi aD),(vi aC),(vi aE),(vu aF),(vs aG),aH.v],107)]:=by
  rw [hn6]
  exact hb.set (i:=0) 1 (v:=(vi aC)) hs gZ (by kernel_rfl)
 obtain ⟨hs,hb⟩:=hsb
 refine ln ?_
 exact ⟨true,_,hc4,hs,hb,hm⟩
 refine wpE_skip (th_n ?_)
 exact ⟨false,_,hc4,hs,hb,hm⟩
 rintro ρ w11 ⟨b1'0,H4,he0,hs,hb,hH⟩
 subst he0
 refine norm_has hH ?_
 refine th_n (wpE_seq (eg (q0 (vi kind1) ?_)))
 refine sc Tryz.call165 ((p_O2 kind1 w11).mono ?_)
 rintro e w13 ⟨he,hE⟩
 refine ⟨(vb ((s_B kind1) || (kind1 == 6))),he.trans (by kernel_rfl),?_⟩
 have hs:=hs.pure hE
 have hb:=hb.pure hE
 refine ln ?_
 refine wpE_joinT (fun ρ w=>∃aA aB aU:Int,∃aP:ByteArray,∃aQ:Bool,∃H:NP,Has ρ [(1,(vp (some p1))),(2,(vp (some p2))),(4,(Sl.mk (some p6) 3 3).v),(5,(vi kind1)),(6,(vi i1)),(8,(vp (some p7)))]∧Hst w0 H w H w∧HB H w [(p7,[(vi aA),(vi aB),(vu aU),(vs aP),(vb aQ)],35),(p2,[(vi aI),(vi aJ),(vu aR),(vs aK),(vb aS)],35),(p1,[(vi aD),(vi aC),(vi aE),(vu aF),(vs aG),aH.v],107)]∧m_G_j4 aD aC aE aF aG aH kind1 i1 aI aJ aR aK aS aA aB aU aP aQ w0 H w (fun y'0 y'1 y'2 y'3 y'4 y'5 H' w'=>I2 y'0 y'1 y'2 y'3 y'4 y'5 H' w'∧mu2 y'0 y'1 y'2 y'3 y'4 y'5 w'<mu2 i1 aI aJ aR aK aS wl2) K) ?_ ?_
 rintro ρ w ⟨aA,aB,aU,aP,aQ,H,hH,hs,hb,h⟩
 unfold m_G_j4 at h
 refine wpE_has hH ?_
 refine eg (q0 (vi 0) (ln (wpE_block ?_)))
 obtain ⟨I3,mu3,h0,hr⟩:=h
 refine wpE_loop (σ:=Int×Int×Int×Int×ByteArray×Bool×Int×Int×Int×ByteArray×Bool×NP×World) (fun s ρ w=>w=s.2.2.2.2.2.2.2.2.2.2.2.2∧Has ρ [(1,(vp (some p1))),(2,(vp (some p2))),(4,(Sl.mk (some p6) 3 3).v),(5,(vi kind1)),(6,(vi i1)),(8,(vp (some p7))),(9,(vi s.1))]∧Hst w0 s.2.2.2.2.2.2.2.2.2.2.2.1 w s.2.2.2.2.2.2.2.2.2.2.2.1 w∧HB s.2.2.2.2.2.2.2.2.2.2.2.1 w [(p7,[(vi s.2.1),(vi s.2.2.1),(vu s.2.2.2.1),(vs s.2.2.2.2.1),(vb s.2.2.2.2.2.1)],35),(p2,[(vi s.2.2.2.2.2.2.1),(vi s.2.2.2.2.2.2.2.1),(vu s.2.2.2.2.2.2.2.2.1),(vs s.2.2.2.2.2.2.2.2.2.1),(vb s.2.2.2.2.2.2.2.2.2.2.1)],35),(p1,[(vi aD),(vi aC),(vi aE),(vu aF),(vs aG),aH.v],107)]∧I3 s.1 s.2.1 s.2.2.1 s.2.2.2.1 s.2.2.2.2.1 s.2.2.2.2.2.1 s.2.2.2.2.2.2.1 s.2.2.2.2.2.2.2.1 s.2.2.2.2.2.2.2.2.1 s.2.2.2.2.2.2.2.2.2.1 s.2.2.2.2.2.2.2.2.2.2.1 s.2.2.2.2.2.2.2.2.2.2.2.1 s.2.2.2.2.2.2.2.2.2.2.2.2) (fun s=>mu3 s.1 s.2.1 s.2.2.1 s.2.2.2.1 s.2.2.2.2.1 s.2.2.2.2.2.1 s.2.2.2.2.2.2.1 s.2.2.2.2.2.2.2.1 s.2.2.2.2.2.2.2.2.1 s.2.2.2.2.2.2.2.2.2.1 s.2.2.2.2.2.2.2.2.2.2.1 s.2.2.2.2.2.2.2.2.2.2.2.2) (0,aA,aB,aU,aP,aQ,aI,aJ,aR,aK,aS,H,w) ⟨rfl,hm,hs,hb,h0⟩ ?_
 rintro ⟨fakes1,aL,aM,aN,aO,cF,bA,bB,bC,bD,bE,Hl3,wl3⟩ ρ w ⟨hw,hH,hs,hb,hI⟩
 obtain rfl:wl3=w:=(show w=wl3 from hw).symm
 have hH:Has ρ [(1,(vp (some p1))),(2,(vp (some p2))),(4,(Sl.mk (some p6) 3 3).v),(5,(vi kind1)),(6,(vi i1)),(8,(vp (some p7))),(9,(vi fakes1))]:=hH
 have hs:Hst w0 Hl3 wl3 Hl3 wl3:=hs
 have hb:HB Hl3 wl3 [(p7,[(vi aL),(vi aM),(vu aN),(vs aO),(vb cF)],35),(p2,[(vi bA),(vi bB),(vu bC),(vs bD),(vb bE)],35),(p1,[(vi aD),(vi aC),(vi aE),(vu aF),(vs aG),aH.v],107)]:=hb
 have h:=hr fakes1 aL aM aN aO cF bA bB bC bD bE Hl3 wl3 hs hI
 unfold m_G_l5 at h
 refine wpE_has hH ?_
 refine wpE_seq (eg (q0 (vi fakes1) (q0 (vb (decide (fakes1<4))) (ln ?_))))
 refine wpE_cond (t:=(decide (fakes1<4))) (by kernel_rfl) (fun hc5=>?_) (fun hc5=>?_)
 have h:=h.1 hc5
 refine wpE_skip (th_n (wpE_seq (wpE_block (eg (q0 (vi fakes1) (q0 (vb (decide (fakes1>0))) (q0 (vp (some (p7.add 4))) (st_set (want0 rfl) (x_store (a:=(p7.add 4)) (v:=(vb (decide (fakes1>0)))) (by kernel_rfl) (by kernel_rfl) rfl (Tryz.sizeOf4 _) (hb.canW 0 4 gZ (by kernel_rfl))) ?_))))))))
 intro w14 hn7
 have hsb:Hst w0 Hl3 wl3 Hl3 w14∧HB Hl3 w14 [(p7,[(vi aL),(vi aM),(vu aN),(vs aO),(vb (decide (fakes1>0)))],35),(p2,[(vi bA),(vi bB),(vu bC),(vs bD),(vb bE)],35),(p1,[(vi aD),(vi aC),(vi aE),(vu aF),(vs aG),aH.v],107)]:=by
  rw [hn7]
  exact hb.set (i:=0) 4 (v:=(vb (decide (fakes1>0)))) hs gZ (by kernel_rfl)
 obtain ⟨hs,hb⟩:=hsb
 refine ln (wpE_seq ?_)
 have h:=h w14 hs
 have hs:=hs.here
 obtain ⟨C1,hC,h⟩:=h
 refine wpE_drawnC (fun x=>C1 x∧HB Hl3 x [(p7,[(vi aL),(vi aM),(vu aN),(vs aO),(vb (decide (fakes1>0)))],35),(p2,[(vi bA),(vi bB),(vu bC),(vs bD),(vb bE)],35),(p1,[(vi aD),(vi aC),(vi aE),(vu aF),(vs aG),aH.v],107)]) [1,19,21] [] (by kernel_rfl) (by kernel_rfl) (by kernel_rfl) (by kernel_rfl) ⟨hC,hb.drew⟩ ?_
 intro w15 hw15
 have h:=h w15 hw15
 have hs:Hst w0 Hl3 w14 Hl3 w15:=by rw [hw15];exact hs.drew
 have hb:HB Hl3 w15 [(p7,[(vi aL),(vi aM),(vu aN),(vs aO),(vb (decide (fakes1>0)))],35),(p2,[(vi bA),(vi bB),(vu bC),(vs bD),(vb bE)],35),(p1,[(vi aD),(vi aC),(vi aE),(vu aF),(vs aG),aH.v],107)]:=by rw [hw15];exact hb.drew
 have hs:=hs.here
 refine qz 0 (.agg #[(vi aL),(vi aM),(vu aN),(vs aO),(vb (decide (fakes1>0)))]) Kp0 (fun w' hw'=>(xa p7 [(vi aL),(vi aM),(vu aN),(vs aO),(vb (decide (fakes1>0)))] (Tryz.isAgg35 _) (Tryz.sizeOf35 _) (hw'.2.r0 0 5 gZ))) (lg 1 ?_)
 refine sl_call Kp1 (want0 rfl) (by kernel_rfl) (xc Tryz.call166) (h.mono ?_)
 rintro e w16 ⟨r1,rfl,hC,hk,h⟩
 refine ⟨_,rfl,.inr ⟨hC,hb.kept hk⟩,?_⟩
 obtain ⟨hs,hb⟩:=hk.hh hs hb
 refine qx 2 (vb (r1 == 0)) Kp2 (qx 3 (vb (r1 == 0)) Kp3 (qg 4 ?_))
 rcases Bool.eq_false_or_eq_true (r1 == 0) with hg1 | hg1
 have h:=h.1 hg1
 refine sz (v:=(vi kind1)) Kp4 (wy 71 hg1) (fun _ _=>(by kernel_rfl)) (qw 5 (vb (kind1 == 4)) Kp5 (wy 71 hg1) (qw 6 (vb (kind1 == 4)) Kp6 (wy 71 hg1) (qg 7 ?_)))
 rcases Bool.eq_false_or_eq_true (kind1 == 4) with hg2 | hg2
 have h:=h.1 hg2
 refine sx_not Kp7 (unwant rfl (yD 74 hg2) rfl) (qn 8 Kp8 (unwant rfl (yD 74 hg2) rfl) (qg 9 (sz (v:=(vb true)) Kp9 (wy 71 hg1) (fun _ _=>(xT hg2)) (qz 10 (vb true) (pickA (S8 (pickS (pickS pickZ)))) (fun _ _=>(xT hg1)) (qx 11 (vb true) (pickA (S8 (pickS (pickS (pickS pickZ))))) (qg 12 (sz (v:=(.agg #[(vi aL),(vi aM),(vu aN),(vs aO),(vb (decide (fakes1>0)))])) (pickA (S8 (S4 pickZ))) (want1 rfl (yD (c:=true) 79 rfl)) (fun w' hw'=>(xa p7 [(vi aL),(vi aM),(vu aN),(vs aO),(vb (decide (fakes1>0)))] (Tryz.isAgg35 _) (Tryz.sizeOf35 _) (hw'.2.r0 0 5 gZ))) (qw 13 (vi fakes1) (pickA (S8 (S4 (pickS pickZ)))) (want1 rfl (yD (c:=true) 79 rfl)) (qg 14 ?_)))))))))
 obtain ⟨z1,hv2,h⟩:=h
 refine sz (v:=(vi z1)) (pickA (S8 (S4 (pickS (pickS pickZ))))) (want1 rfl (yD (c:=true) 79 rfl)) (fun w' hw'=>(x_bin (by kernel_rfl) (by kernel_rfl) (by kernel_rfl) (hv2 w' hw'.1))) (qw 15 (vb (z1 == 1)) (pickA (S8 (S4 (pickS (pickS (pickS pickZ)))))) (want1 rfl (yD (c:=true) 79 rfl)) (qw 16 (vi fakes1) (pickA (S8 (S8 pickZ))) (want1 rfl (yD (c:=true) 79 rfl)) (qg 17 ?_)))
 obtain ⟨z2,hv1,h⟩:=h
 refine sz (v:=(vi z2)) (pickA (S8 (S8 (pickS pickZ)))) (want1 rfl (yD (c:=true) 79 rfl)) (fun w' hw'=>(x_bin (by kernel_rfl) (by kernel_rfl) (by kernel_rfl) (hv1 w' hw'.1))) (qw 18 (vb (z2 == 1)) (pickA (S8 (S8 (pickS (pickS pickZ))))) (want1 rfl (yD (c:=true) 79 rfl)) (qg 20 (sz (v:=(.agg #[(vi aD),(vi aC),(vi aE),(vu aF),(vs aG),aH.v])) (pickA (S8 (S8 (S4 pickZ)))) (want1 rfl (yD (c:=true) 79 rfl)) (fun w' hw'=>(xa p1 [(vi aD),(vi aC),(vi aE),(vu aF),(vs aG),aH.v] (Tryz.isAgg107 _) (Tryz.sizeOf107 _) (hw'.2.r0 2 6 (gS (gS gZ))))) (lg 19 ?_))))
 refine sl_call (pickA (S8 (S8 (pickS (pickS (pickS pickZ)))))) (want1 rfl (yD (c:=true) 79 rfl)) (by kernel_rfl) (xc Tryz.call58) (h.mono ?_)
 rintro e w17 ⟨bT,bU,bV,bW,bX,bY,rfl,hC,hk,h⟩
 refine ⟨_,rfl,.inr ⟨hC,hb.kept hk⟩,?_⟩
 obtain ⟨hs,hb⟩:=hk.hh hs hb
 refine lg 21 ?_
 refine sl_call (pickA (S8 (S8 (S4 (pickS pickZ))))) (want1 rfl (yD (c:=true) 79 rfl)) (by kernel_rfl) (xc Tryz.call47) (h.mono ?_)
 rintro e w18 ⟨r2,rfl,hC,hk,h⟩
 refine ⟨_,rfl,.inr ⟨hC,hb.kept hk⟩,?_⟩
 obtain ⟨hs,hb⟩:=hk.hh hs hb
 refine qx 22 (vb r2) (pickA (S8 (S8 (S4 (pickS (pickS pickZ)))))) (wn (th_n ?_))
 refine wpE_cond (t:=r2) (by kernel_rfl) (fun hc6=>?_) (fun hc6=>?_)
 have h:=h.1 hc6
 refine eg (q2 (.agg #[(vi aL),(vi aM),(vu aN),(vs aO),(vb (decide (fakes1>0)))]) (xa p7 [(vi aL),(vi aM),(vu aN),(vs aO),(vb (decide (fakes1>0)))] (Tryz.isAgg35 _) (Tryz.sizeOf35 _) (hb.r0 0 5 gZ)) (st_set (want0 rfl) (xo p2 [(vi aL),(vi aM),(vu aN),(vs aO),(vb (decide (fakes1>0)))] (Tryz.sizeOf35 _) (hb.k0 1 5 (gS gZ))) ?_))
 intro w19 hn8
 obtain ⟨hs,hb⟩:=hb.s0 (l':=[(p7,[(vi aL),(vi aM),(vu aN),(vs aO),(vb (decide (fakes1>0)))],35),(p2,[(vi aL),(vi aM),(vu aN),(vs aO),(vb (decide (fakes1>0)))],35),(p1,[(vi aD),(vi aC),(vi aE),(vu aF),(vs aG),aH.v],107)]) 1 [(vi aL),(vi aM),(vu aN),(vs aO),(vb (decide (fakes1>0)))] hs hn8 (gS gZ)
 refine q0 (vb true) (ln (er (bl_r (th_r (th_r (bl_r (bl_r (th_r (th_r (bl_r ?_))))))))))
 refine bl_r (th_r (th_r (bl_r (th_r ?_))))
 have h:=h w19 hs
 have hs:=hs.here
 refine resG (.inl rfl) (vs:=[(.agg #[(vi aL),(vi aM),(vu aN),(vs aO),(vb (decide (fakes1>0)))]),(vb true)]) (v:=(.tuple #[(.agg #[(vi aL),(vi aM),(vu aN),(vs aO),(vb (decide (fakes1>0)))]),(vb true)])) Tryz.results98 ⟨(rva (Tryz.isAgg35 _) (Tryz.sizeOf35 _) (hb.r0 1 5 (gS gZ))),(rvT (by kernel_rfl)),trivial⟩ (by kernel_rfl) ?_
 exact ⟨aL,aM,aN,aO,(decide (fakes1>0)),true,rfl,h⟩
 have h:=h.2 hc6
 refine wpE_skip (bl_n (th_n (rg (q0 (vi fakes1) (q0 (vi (q6.wrap (fakes1+1))) (q0 (vi (q6.wrap (fakes1+1))) (ln ?_)))))))
 exact ⟨((q6.wrap (fakes1+1)),aL,aM,aN,aO,(decide (fakes1>0)),bA,bB,bC,bD,bE,Hl3,w18),⟨rfl,hm,hs,hb,h.1⟩,h.2⟩
 have h:=h.2 hg2
 refine sz (v:=(vi fakes1)) Kp7 (wy 74 hg2) (fun _ _=>(by kernel_rfl)) (qw 8 (vb (fakes1 != 2)) Kp8 (wy 74 hg2) (qg 9 (sz (v:=(vb (fakes1 != 2))) Kp9 (wy 71 hg1) (fun _ _=>(xF hg2)) (qz 10 (vb (fakes1 != 2)) (pickA (S8 (pickS (pickS pickZ)))) (fun _ _=>(xT hg1)) (qx 11 (vb (fakes1 != 2)) (pickA (S8 (pickS (pickS (pickS pickZ))))) (qg 12 ?_))))))
 rcases Bool.eq_false_or_eq_true (fakes1 != 2) with hg3 | hg3
 have h:=h.1 hg3
 refine sz (v:=(.agg #[(vi aL),(vi aM),(vu aN),(vs aO),(vb (decide (fakes1>0)))])) (pickA (S8 (S4 pickZ))) (wy 79 hg3) (fun w' hw'=>(xa p7 [(vi aL),(vi aM),(vu aN),(vs aO),(vb (decide (fakes1>0)))] (Tryz.isAgg35 _) (Tryz.sizeOf35 _) (hw'.2.r0 0 5 gZ))) (qw 13 (vi fakes1) (pickA (S8 (S4 (pickS pickZ)))) (wy 79 hg3) (qg 14 ?_))
 obtain ⟨z3,hv4,h⟩:=h
 refine sz (v:=(vi z3)) (pickA (S8 (S4 (pickS (pickS pickZ))))) (wy 79 hg3) (fun w' hw'=>(x_bin (by kernel_rfl) (by kernel_rfl) (by kernel_rfl) (hv4 w' hw'.1))) (qw 15 (vb (z3 == 1)) (pickA (S8 (S4 (pickS (pickS (pickS pickZ)))))) (wy 79 hg3) (qw 16 (vi fakes1) (pickA (S8 (S8 pickZ))) (wy 79 hg3) (qg 17 ?_)))
 obtain ⟨z4,hv3,h⟩:=h
 refine sz (v:=(vi z4)) (pickA (S8 (S8 (pickS pickZ)))) (wy 79 hg3) (fun w' hw'=>(x_bin (by kernel_rfl) (by kernel_rfl) (by kernel_rfl) (hv3 w' hw'.1))) (qw 18 (vb (z4 == 1)) (pickA (S8 (S8 (pickS (pickS pickZ))))) (wy 79 hg3) (qg 20 (sz (v:=(.agg #[(vi aD),(vi aC),(vi aE),(vu aF),(vs aG),aH.v])) (pickA (S8 (S8 (S4 pickZ)))) (wy 79 hg3) (fun w' hw'=>(xa p1 [(vi aD),(vi aC),(vi aE),(vu aF),(vs aG),aH.v] (Tryz.isAgg107 _) (Tryz.sizeOf107 _) (hw'.2.r0 2 6 (gS (gS gZ))))) (lg 19 ?_))))
 refine sl_call (pickA (S8 (S8 (pickS (pickS (pickS pickZ)))))) (wy 79 hg3) (by kernel_rfl) (xc Tryz.call58) (h.mono ?_)
 rintro e w20 ⟨bO,bP,dB,dC,bQ,dD,rfl,hC,hk,h⟩
 refine ⟨_,rfl,.inr ⟨hC,hb.kept hk⟩,?_⟩
 obtain ⟨hs,hb⟩:=hk.hh hs hb
 refine lg 21 ?_
 refine sl_call (pickA (S8 (S8 (S4 (pickS pickZ))))) (wy 79 hg3) (by kernel_rfl) (xc Tryz.call47) (h.mono ?_)
 rintro e w21 ⟨r3,rfl,hC,hk,h⟩
 refine ⟨_,rfl,.inr ⟨hC,hb.kept hk⟩,?_⟩
 obtain ⟨hs,hb⟩:=hk.hh hs hb
 refine qz 22 (vb r3) (pickA (S8 (S8 (S4 (pickS (pickS pickZ)))))) (fun _ _=>(xT hg3)) (wn (th_n ?_))
 refine wpE_cond (t:=r3) (by kernel_rfl) (fun hc7=>?_) (fun hc7=>?_)
 have h:=h.1 hc7
 refine eg (q2 (.agg #[(vi aL),(vi aM),(vu aN),(vs aO),(vb (decide (fakes1>0)))]) (xa p7 [(vi aL),(vi aM),(vu aN),(vs aO),(vb (decide (fakes1>0)))] (Tryz.isAgg35 _) (Tryz.sizeOf35 _) (hb.r0 0 5 gZ)) (st_set (want0 rfl) (xo p2 [(vi aL),(vi aM),(vu aN),(vs aO),(vb (decide (fakes1>0)))] (Tryz.sizeOf35 _) (hb.k0 1 5 (gS gZ))) ?_))
 intro w22 hn9
 obtain ⟨hs,hb⟩:=hb.s0 (l':=[(p7,[(vi aL),(vi aM),(vu aN),(vs aO),(vb (decide (fakes1>0)))],35),(p2,[(vi aL),(vi aM),(vu aN),(vs aO),(vb (decide (fakes1>0)))],35),(p1,[(vi aD),(vi aC),(vi aE),(vu aF),(vs aG),aH.v],107)]) 1 [(vi aL),(vi aM),(vu aN),(vs aO),(vb (decide (fakes1>0)))] hs hn9 (gS gZ)
 refine q0 (vb true) (ln (er (bl_r (th_r (th_r (bl_r (bl_r (th_r (th_r (bl_r ?_))))))))))
 refine bl_r (th_r (th_r (bl_r (th_r ?_))))
 have h:=h w22 hs
 have hs:=hs.here
 refine resG (.inl rfl) (vs:=[(.agg #[(vi aL),(vi aM),(vu aN),(vs aO),(vb (decide (fakes1>0)))]),(vb true)]) (v:=(.tuple #[(.agg #[(vi aL),(vi aM),(vu aN),(vs aO),(vb (decide (fakes1>0)))]),(vb true)])) Tryz.results98 ⟨(rva (Tryz.isAgg35 _) (Tryz.sizeOf35 _) (hb.r0 1 5 (gS gZ))),(rvT (by kernel_rfl)),trivial⟩ (by kernel_rfl) ?_
 exact ⟨aL,aM,aN,aO,(decide (fakes1>0)),true,rfl,h⟩
 have h:=h.2 hc7
 refine wpE_skip (bl_n (th_n (rg (q0 (vi fakes1) (q0 (vi (q6.wrap (fakes1+1))) (q0 (vi (q6.wrap (fakes1+1))) (ln ?_)))))))
 exact ⟨((q6.wrap (fakes1+1)),aL,aM,aN,aO,(decide (fakes1>0)),bA,bB,bC,bD,bE,Hl3,w21),⟨rfl,hm,hs,hb,h.1⟩,h.2⟩
 have h:=h.2 hg3
 refine sx_not (pickA (S8 (S4 pickZ))) (unwant rfl (yD 79 hg3) rfl) (qn 13 (pickA (S8 (S4 (pickS pickZ)))) (unwant rfl (yD 79 hg3) rfl) (qn 14 (pickA (S8 (S4 (pickS (pickS pickZ))))) (unwant rfl (yD 79 hg3) rfl) (qn 15 (pickA (S8 (S4 (pickS (pickS (pickS pickZ)))))) (unwant rfl (yD 79 hg3) rfl) (qn 16 (pickA (S8 (S8 pickZ))) (unwant rfl (yD 79 hg3) rfl) (qn 17 (pickA (S8 (S8 (pickS pickZ)))) (unwant rfl (yD 79 hg3) rfl) (qn 18 (pickA (S8 (S8 (pickS (pickS pickZ))))) (unwant rfl (yD 79 hg3) rfl) (qn 20 (pickA (S8 (S8 (S4 pickZ)))) (unwant rfl (yD 79 hg3) rfl) (lg 19 (sx_not (pickA (S8 (S8 (pickS (pickS (pickS pickZ)))))) (unwant rfl (yD 79 hg3) rfl) (lg 21 (sx_not (pickA (S8 (S8 (S4 (pickS pickZ))))) (unwant rfl (yD 79 hg3) rfl) ?_)))))))))))
 refine qz 22 (vb false) (pickA (S8 (S8 (S4 (pickS (pickS pickZ)))))) (fun _ _=>(xF hg3)) (wn (th_n (wpE_condF (by kernel_rfl) (wpE_skip (bl_n (th_n (rg (q0 (vi fakes1) (q0 (vi (q6.wrap (fakes1+1))) (q0 (vi (q6.wrap (fakes1+1))) (wpL_nil ?_)))))))))))
 refine th_n ?_
 exact ⟨((q6.wrap (fakes1+1)),aL,aM,aN,aO,(decide (fakes1>0)),bA,bB,bC,bD,bE,Hl3,w16),⟨rfl,hm,hs,hb,h.1⟩,h.2⟩
 have h:=h.2 hg1
 refine sx_not Kp4 (unwant rfl (yD 71 hg1) rfl) (qn 5 Kp5 (unwant rfl (yD 71 hg1) rfl) (qn 6 Kp6 (unwant rfl (yD 71 hg1) rfl) (qn 7 Kp7 (by kernel_rfl) (qn 8 Kp8 (by kernel_rfl) (qn 9 Kp9 (unwant rfl (yD 71 hg1) rfl) (qz 10 (vb false) (pickA (S8 (pickS (pickS pickZ)))) (fun _ _=>(xF hg1)) (qx 11 (vb false) (pickA (S8 (pickS (pickS (pickS pickZ))))) (qn 12 (pickA (S8 (S4 pickZ))) (unwant rfl (yD (c:=false) 79 rfl) rfl) (qn 13 (pickA (S8 (S4 (pickS pickZ)))) (unwant rfl (yD (c:=false) 79 rfl) rfl) (qn 14 (pickA (S8 (S4 (pickS (pickS pickZ))))) (unwant rfl (yD (c:=false) 79 rfl) rfl) (qn 15 (pickA (S8 (S4 (pickS (pickS (pickS pickZ)))))) (unwant rfl (yD (c:=false) 79 rfl) rfl) ?_)))))))))))
 refine qn 16 (pickA (S8 (S8 pickZ))) (unwant rfl (yD (c:=false) 79 rfl) rfl) (qn 17 (pickA (S8 (S8 (pickS pickZ)))) (unwant rfl (yD (c:=false) 79 rfl) rfl) (qn 18 (pickA (S8 (S8 (pickS (pickS pickZ))))) (unwant rfl (yD (c:=false) 79 rfl) rfl) (qn 20 (pickA (S8 (S8 (S4 pickZ)))) (unwant rfl (yD (c:=false) 79 rfl) rfl) (lg 19 (sx_not (pickA (S8 (S8 (pickS (pickS (pickS pickZ)))))) (unwant rfl (yD (c:=false) 79 rfl) rfl) (lg 21 (sx_not (pickA (S8 (S8 (S4 (pickS pickZ))))) (unwant rfl (yD (c:=false) 79 rfl) rfl) (qx 22 (vb false) (pickA (S8 (S8 (S4 (pickS (pickS pickZ)))))) (wn (th_n (wpE_condF (by kernel_rfl) ?_)))))))))))
 refine wpE_skip (bl_n (th_n (rg (q0 (vi fakes1) (q0 (vi (q6.wrap (fakes1+1))) (q0 (vi (q6.wrap (fakes1+1))) (ln ?_)))))))
 exact ⟨((q6.wrap (fakes1+1)),aL,aM,aN,aO,(decide (fakes1>0)),bA,bB,bC,bD,bE,Hl3,w16),⟨rfl,hm,hs,hb,h.1⟩,h.2⟩
 have h:=h.2 hc5
 refine wpE_exit (th_x (th_x (bl_eq (bl_n (th_n (rg (q0 (vi i1) (q0 (vi (q6.wrap (i1+1))) (q0 (vi (q6.wrap (i1+1))) (ln ?_))))))))))
 exact ⟨((q6.wrap (i1+1)),bA,bB,bC,bD,bE,Hl3,wl3),⟨rfl,hm,hs,hb.drop 1,h.1⟩,h.2⟩
 refine wpE_cond (t:=((s_B kind1) || (kind1 == 6))) (by kernel_rfl) (fun hc8=>?_) (fun hc8=>?_)
 have h:=h.1 hc8
 refine eg ?_
 have h:=h H4 w13 hs
 have hs:=hs.here
 obtain ⟨bF,bG,bH,bI,bJ,bK,hv6,h⟩:=h
 refine q2 (.agg #[(vi bF),(vi bG),(vi bH),(vu bI),(vs bJ),bK.v]) (xa a1 [(vi bF),(vi bG),(vi bH),(vu bI),(vs bJ),bK.v] (Tryz.isAgg107 _) (Tryz.sizeOf107 _) hv6) (st_new (O:=(.cells #[(vi 1),(vi 0)] 3)) (fun p=>(Sl.mk (some p) 2 2).v) (want0 rfl) (x_buildSlice (vs:=#[(0,(vi 1)),(1,(vi 0))]) (by kernel_rfl) (by kernel_rfl)) ?_)
 intro p8 w23 hn13
 have h:=h p8 w23 hn13
 have hs:=hs.again (Ext.new (F:=None) hn13).keptP
 have hb:=hb.kept (Ext.new (F:=None) hn13).keptP
 refine sc Tryz.call163 (h.mono ?_)
 rintro e w24 ⟨cG,cH,dE,bZ,cI,dF,rfl,hk,h⟩
 refine ⟨_,rfl,?_⟩
 obtain ⟨hs,hb⟩:=hk.hh hs hb
 refine q0 (vu bZ) (q0 (vp (some (p7.add 2))) (st_set (want0 rfl) (x_store (a:=(p7.add 2)) (v:=(vu bZ)) (by kernel_rfl) (by kernel_rfl) rfl (Tryz.sizeOf23 _) (hb.canW 0 2 gZ (by kernel_rfl))) ?_))
 intro w25 hn10
 have hsb:Hst w0 H4 w24 H4 w25∧HB H4 w25 [(p7,[(vi kind1),(vi (cond (s_B kind1) aC 0)),(vu bZ),(vs ⟨#[]⟩),(vb false)],35),(p2,[(vi aI),(vi aJ),(vu aR),(vs aK),(vb aS)],35),(p1,[(vi aD),(vi aC),(vi aE),(vu aF),(vs aG),aH.v],107)]:=by
  rw [hn10]
  exact hb.set (i:=0) 2 (v:=(vu bZ)) hs gZ (by kernel_rfl)
 obtain ⟨hs,hb⟩:=hsb
 refine ln (rg ?_)
 have h:=h w25 hs
 have hs:=hs.here
 obtain ⟨cJ,cK,cL,cM,cN,cO,hv5,h⟩:=h
 refine q2 (.agg #[(vi cJ),(vi cK),(vi cL),(vu cM),(vs cN),cO.v]) (xa a1 [(vi cJ),(vi cK),(vi cL),(vu cM),(vs cN),cO.v] (Tryz.isAgg107 _) (Tryz.sizeOf107 _) hv5) (st_new (O:=(.cells #[(vi 1),(vi 1)] 3)) (fun p=>(Sl.mk (some p) 2 2).v) (want0 rfl) (x_buildSlice (vs:=#[(0,(vi 1)),(1,(vi 1))]) (by kernel_rfl) (by kernel_rfl)) ?_)
 intro p9 w26 hn12
 have h:=h p9 w26 hn12
 have hs:=hs.again (Ext.new (F:=None) hn12).keptP
 have hb:=hb.kept (Ext.new (F:=None) hn12).keptP
 refine sc Tryz.call163 (h.mono ?_)
 rintro e w27 ⟨dG,dH,dI,dJ,cC,dK,rfl,hk,h⟩
 refine ⟨_,rfl,?_⟩
 obtain ⟨hs,hb⟩:=hk.hh hs hb
 refine q0 (vs cC) (q0 (vp (some (p7.add 3))) (st_set (want0 rfl) (x_store (a:=(p7.add 3)) (v:=(vs cC)) (by kernel_rfl) (by kernel_rfl) rfl (Tryz.sizeOf9 _) (hb.canW 0 3 gZ (by kernel_rfl))) ?_))
 intro w28 hn11
 have hsb:Hst w0 H4 w27 H4 w28∧HB H4 w28 [(p7,[(vi kind1),(vi (cond (s_B kind1) aC 0)),(vu bZ),(vs cC),(vb false)],35),(p2,[(vi aI),(vi aJ),(vu aR),(vs aK),(vb aS)],35),(p1,[(vi aD),(vi aC),(vi aE),(vu aF),(vs aG),aH.v],107)]:=by
  rw [hn11]
  exact hb.set (i:=0) 3 (v:=(vs cC)) hs gZ (by kernel_rfl)
 obtain ⟨hs,hb⟩:=hsb
 refine wpL_nil ?_
 have h:=h w28 hs
 have hs:=hs.here
 refine th_n ?_
 exact ⟨kind1,(cond (s_B kind1) aC 0),bZ,cC,false,H4,hm,hs,hb,h⟩
 have h:=h.2 hc8
 refine eg (q0 (vi kind1) (q0 (vb (kind1 == 7)) (ln ?_)))
 refine wpE_cond (t:=(kind1 == 7)) (by kernel_rfl) (fun hc9=>?_) (fun hc9=>?_)
 have h:=h.1 hc9
 refine rg (q2 (.agg #[(vi aD),(vi aC),(vi aE),(vu aF),(vs aG),aH.v]) (xa p1 [(vi aD),(vi aC),(vi aE),(vu aF),(vs aG),aH.v] (Tryz.isAgg107 _) (Tryz.sizeOf107 _) (hb.r0 2 6 (gS (gS gZ)))) ?_)
 have h:=h H4 w13 hs
 have hs:=hs.here
 refine st_new (O:=(.cells #[(vi 1)] 3)) (fun p=>(Sl.mk (some p) 1 1).v) (want0 rfl) (x_buildSlice (vs:=#[(0,(vi 1))]) (by kernel_rfl) (by kernel_rfl)) ?_
 intro p10 w29 hn15
 have h:=h p10 w29 hn15
 have hs:=hs.again (Ext.new (F:=None) hn15).keptP
 have hb:=hb.kept (Ext.new (F:=None) hn15).keptP
 refine sc Tryz.call163 (h.mono ?_)
 rintro e w30 ⟨dL,dM,dN,cD,dO,dP,rfl,hk,h⟩
 refine ⟨_,rfl,?_⟩
 obtain ⟨hs,hb⟩:=hk.hh hs hb
 refine q0 (vu cD) (q0 (vp (some (p7.add 2))) (st_set (want0 rfl) (x_store (a:=(p7.add 2)) (v:=(vu cD)) (by kernel_rfl) (by kernel_rfl) rfl (Tryz.sizeOf23 _) (hb.canW 0 2 gZ (by kernel_rfl))) ?_))
 intro w31 hn14
 have hsb:Hst w0 H4 w30 H4 w31∧HB H4 w31 [(p7,[(vi kind1),(vi (cond (s_B kind1) aC 0)),(vu cD),(vs ⟨#[]⟩),(vb false)],35),(p2,[(vi aI),(vi aJ),(vu aR),(vs aK),(vb aS)],35),(p1,[(vi aD),(vi aC),(vi aE),(vu aF),(vs aG),aH.v],107)]:=by
  rw [hn14]
  exact hb.set (i:=0) 2 (v:=(vu cD)) hs gZ (by kernel_rfl)
 obtain ⟨hs,hb⟩:=hsb
 refine wpL_nil ?_
 have h:=h w31 hs
 have hs:=hs.here
 refine th_n ?_
 exact ⟨kind1,(cond (s_B kind1) aC 0),cD,⟨#[]⟩,false,H4,hm,hs,hb,h⟩
 have h:=h.2 hc9
 refine rg (q2 (.agg #[(vi aD),(vi aC),(vi aE),(vu aF),(vs aG),aH.v]) (xa p1 [(vi aD),(vi aC),(vi aE),(vu aF),(vs aG),aH.v] (Tryz.isAgg107 _) (Tryz.sizeOf107 _) (hb.r0 2 6 (gS (gS gZ)))) ?_)
 have h:=h H4 w13 hs
 have hs:=hs.here
 refine st_new (O:=(.cells #[(vi 0),(vi 1)] 3)) (fun p=>(Sl.mk (some p) 2 2).v) (want0 rfl) (x_buildSlice (vs:=#[(0,(vi 0)),(1,(vi 1))]) (by kernel_rfl) (by kernel_rfl)) ?_
 intro p11 w32 hn17
 have h:=h p11 w32 hn17
 have hs:=hs.again (Ext.new (F:=None) hn17).keptP
 have hb:=hb.kept (Ext.new (F:=None) hn17).keptP
 refine sc Tryz.call163 (h.mono ?_)
 rintro e w33 ⟨dQ,dR,dS,cE,dT,dU,rfl,hk,h⟩
 refine ⟨_,rfl,?_⟩
 obtain ⟨hs,hb⟩:=hk.hh hs hb
 refine q0 (vu cE) (q0 (vp (some (p7.add 2))) (st_set (want0 rfl) (x_store (a:=(p7.add 2)) (v:=(vu cE)) (by kernel_rfl) (by kernel_rfl) rfl (Tryz.sizeOf23 _) (hb.canW 0 2 gZ (by kernel_rfl))) ?_))
 intro w34 hn16
 have hsb:Hst w0 H4 w33 H4 w34∧HB H4 w34 [(p7,[(vi kind1),(vi (cond (s_B kind1) aC 0)),(vu cE),(vs ⟨#[]⟩),(vb false)],35),(p2,[(vi aI),(vi aJ),(vu aR),(vs aK),(vb aS)],35),(p1,[(vi aD),(vi aC),(vi aE),(vu aF),(vs aG),aH.v],107)]:=by
  rw [hn16]
  exact hb.set (i:=0) 2 (v:=(vu cE)) hs gZ (by kernel_rfl)
 obtain ⟨hs,hb⟩:=hsb
 refine wpL_nil ?_
 have h:=h w34 hs
 have hs:=hs.here
 refine th_n ?_
 exact ⟨kind1,(cond (s_B kind1) aC 0),cE,⟨#[]⟩,false,H4,hm,hs,hb,h⟩
 obtain ⟨C2,hC,h⟩:=h
 refine wpE_drawnC (fun x=>C2 x∧HB Hl2 x [(p2,[(vi aI),(vi aJ),(vu aR),(vs aK),(vb aS)],35),(p1,[(vi aD),(vi aC),(vi aE),(vu aF),(vs aG),aH.v],107)]) [5,6,7] [5,7] (by kernel_rfl) (by kernel_rfl) (by kernel_rfl) (by kernel_rfl) ⟨hC,hb.drew⟩ ?_
 intro w35 hw35
 have h:=h w35 hw35
 have hs:Hst w0 Hl2 wl2 Hl2 w35:=by rw [hw35];exact hs.drew
 have hb:HB Hl2 w35 [(p2,[(vi aI),(vi aJ),(vu aR),(vs aK),(vb aS)],35),(p1,[(vi aD),(vi aC),(vi aE),(vu aF),(vs aG),aH.v],107)]:=by rw [hw35];exact hb.drew
 have hs:=hs.here
 refine qz 0 (.agg #[(vi aD),(vi aC),(vi aE),(vu aF),(vs aG),aH.v]) Kp0 (fun w' hw'=>(xa p1 [(vi aD),(vi aC),(vi aE),(vu aF),(vs aG),aH.v] (Tryz.isAgg107 _) (Tryz.sizeOf107 _) (hw'.2.r0 1 6 (gS gZ)))) (qx 1 ((Sl.mk (some p6) 3 3).v) Kp1 (qx 2 (vi i1) Kp2 (qg 3 ?_)))
 obtain ⟨a2,hv8,h⟩:=h
 refine sy (v:=(vp (some a2))) Kp3 (fun _ _=>(xi (Tryz.runUnderlying246 _) (Tryz.sizeOf42 _) hv8)) (qg 4 ?_)
 obtain ⟨v1,hv7,h⟩:=h
 refine sy (v:=v1.v) Kp4 (fun w' hw'=>(xl (Tryz.isAgg42 _) (hv7 w' hw'.1))) ?_
 refine lgo2 (k:=5) (k':=6) (by kernel_rfl) ?_ ?_
 have h:=h.1
 refine sl_call Kp5 (want0 rfl) (by kernel_rfl) (xc Tryz.call163) (h.mono ?_)
 rintro e w36 ⟨cP,cQ,cR,cS,cT,cU,rfl,hk,h⟩
 refine ⟨_,rfl,.inl (by kernel_rfl),?_⟩
 obtain ⟨hs,hb⟩:=hk.hh hs hb
 refine lg 6 (sl_new (O:=(.cells #[(vi 0),(vi 0),(vi 0),(vu 0),(vs ⟨#[]⟩),Sl.nil.v] 107)) (fun p=>.pointer (some p)) Kp6 (want0 rfl) (by kernel_rfl) (x_alloc (Tryz.zeroValue107 _) rfl) ?_)
 intro p12 w37 hn19
 have h:=h p12 w37 hn19
 refine ⟨.inr ⟨h.1,hb.kept (Ext.new (F:=None) hn19).keptP⟩,?_⟩
 have h:=h.2
 have hs:=hs.again (Ext.new (F:=None) hn19).keptP
 have hb:=hb.kept (Ext.new (F:=None) hn19).keptP
 refine lg 7 ?_
 obtain ⟨hp1,hnh,h⟩:=h
 refine sl_set Kp7 (want0 rfl) (by kernel_rfl) (xo p12 [(vi cP),(vi cQ),(vi cR),(vu cS),(vs cT),cU.v] (Tryz.sizeOf107 _) hp1) ?_
 intro w38 hn18
 have h:=h w38 hn18
 refine ⟨.inl (by kernel_rfl),?_⟩
 have hk:Kept Hl2 w37 w38:=by rw [hn18];exact Kept.storeRow hnh
 obtain ⟨hs,hb⟩:=hk.hh hs hb
 refine wn (th_n ?_)
 exact ⟨p12,Hl2,hm,hs,hb,h⟩
 have h:=h.2
 refine sl_new (O:=(.cells #[(vi 0),(vi 0),(vi 0),(vu 0),(vs ⟨#[]⟩),Sl.nil.v] 107)) (fun p=>.pointer (some p)) Kp6 (want0 rfl) (by kernel_rfl) (x_alloc (Tryz.zeroValue107 _) rfl) ?_
 intro p13 w39 hn21
 have h:=h p13 w39 hn21
 refine ⟨.inr ⟨h.1,hb.kept (Ext.new (F:=None) hn21).keptP⟩,?_⟩
 have h:=h.2
 have hs:=hs.again (Ext.new (F:=None) hn21).keptP
 have hb:=hb.kept (Ext.new (F:=None) hn21).keptP
 refine lg 5 ?_
 refine sl_call Kp5 (want0 rfl) (by kernel_rfl) (xc Tryz.call163) (h.mono ?_)
 rintro e w40 ⟨cV,cW,cX,cY,cZ,dA,rfl,hk,h⟩
 refine ⟨_,rfl,.inl (by kernel_rfl),?_⟩
 obtain ⟨hs,hb⟩:=hk.hh hs hb
 refine lg 7 ?_
 obtain ⟨hp2,hnh,h⟩:=h
 refine sl_set Kp7 (want0 rfl) (by kernel_rfl) (xo p13 [(vi cV),(vi cW),(vi cX),(vu cY),(vs cZ),dA.v] (Tryz.sizeOf107 _) hp2) ?_
 intro w41 hn20
 have h:=h w41 hn20
 refine ⟨.inl (by kernel_rfl),?_⟩
 have hk:Kept Hl2 w40 w41:=by rw [hn20];exact Kept.storeRow hnh
 obtain ⟨hs,hb⟩:=hk.hh hs hb
 refine wn (th_n ?_)
 exact ⟨p13,Hl2,hm,hs,hb,h⟩
 have h:=h.2 hc2
 refine wpE_exit (th_x (th_x (bl_eq (bl_n (th_n (rg (q0 (vi kind1) (q0 (vi (q6.wrap (kind1+1))) (q0 (vi (q6.wrap (kind1+1))) (ln ?_))))))))))
 exact ⟨((q6.wrap (kind1+1)),aI,aJ,aR,aK,aS,Hl2,wl2),⟨rfl,hm,hs,hb,h.1⟩,h.2⟩
 have h:=h.2 hc1
 refine wpE_exit (th_x (th_x (bl_eq (th_n (eg (q0 (.agg #[(vi 0),(vi 0),(vu 0),(vs ⟨#[]⟩),(vb false)]) (st_set (want0 rfl) (xo p2 [(vi 0),(vi 0),(vu 0),(vs ⟨#[]⟩),(vb false)] (Tryz.sizeOf35 _) (hb.k0 0 5 gZ)) ?_)))))))
 intro w42 hn22
 obtain ⟨hs,hb⟩:=hb.s0 (l':=[(p2,[(vi 0),(vi 0),(vu 0),(vs ⟨#[]⟩),(vb false)],35),(p1,[(vi aD),(vi aC),(vi aE),(vu aF),(vs aG),aH.v],107)]) 0 [(vi 0),(vi 0),(vu 0),(vs ⟨#[]⟩),(vb false)] hs hn22 gZ
 refine q0 (vb false) (ln (er ?_))
 have h:=h w42 hs
 have hs:=hs.here
 refine resG (.inl rfl) (vs:=[(.agg #[(vi 0),(vi 0),(vu 0),(vs ⟨#[]⟩),(vb false)]),(vb false)]) (v:=(.tuple #[(.agg #[(vi 0),(vi 0),(vu 0),(vs ⟨#[]⟩),(vb false)]),(vb false)])) Tryz.results98 ⟨(rva (Tryz.isAgg35 _) (Tryz.sizeOf35 _) (hb.r0 0 5 gZ)),(rvT (by kernel_rfl)),trivial⟩ (by kernel_rfl) ?_
 exact ⟨0,0,0,⟨#[]⟩,false,false,rfl,h⟩
def m_P2 (p1:Option Addr) (t1:Int) (w0:World) (K:Int→Int→Int→ByteArray→Bool→Bool→WP):Prop :=
 ∀(H1:NP) (w1:World),Hst w0 None w0 H1 w1 →
 Calls Tryz.prog 87 #[(vp p1),(vi t1)] w1 (fun e w2=>∃r1:Bool,e=.returned (vb r1)∧
  Kept H1 w1 w2 ∧
  Br (!r1)
   (∀(w3:World),Hst w0 H1 w2 H1 w3 →
   K 0 0 0 ⟨#[]⟩ false false w3)
   (Calls Tryz.prog 97 #[(vp p1),(vi t1)] w2 (fun e w4=>∃r2:Int,e=.returned (vi r2)∧
    Kept H1 w2 w4 ∧
    Br (decide (r2>40))
     (∀(w5:World),Hst w0 H1 w4 H1 w5 →
     K 0 0 0 ⟨#[]⟩ false false w5)
     (Calls Tryz.prog 49 #[(vp p1),(vi t1)] w4 (fun e w6=>∃bT bU:Int,∃bV bW:Int,∃bX:ByteArray,∃bY:Sl,e=.returned (.agg #[(vi bT),(vi bU),(vi bV),(vu bW),(vs bX),bY.v])∧
      Kept H1 w4 w6 ∧
      Calls Tryz.prog 98 #[(.agg #[(vi bT),(vi bU),(vi bV),(vu bW),(vs bX),bY.v])] w6 (fun e w7=>∃bO bP bR:Int,∃bQ:ByteArray,∃bS r3:Bool,e=.returned (.tuple #[(.agg #[(vi bO),(vi bP),(vu bR),(vs bQ),(vb bS)]),(vb r3)])∧
       Kept H1 w6 w7 ∧
       ∀(w8:World),Hst w0 H1 w7 H1 w8 →
       K bO bP bR bQ bS r3 w8))))))
theorem w_P2 (p1 : Option Addr) (t1 : Int) (w0 : World) (K : Int → Int → Int → ByteArray → Bool → Bool → WP) (h : m_P2 p1 t1 w0 K) :
  Calls Tryz.prog 42 #[(vp p1),(vi t1)] w0 (fun e w'=>∃cG cH dY:Int,∃cI:ByteArray,∃dZ r4:Bool,e=.returned (.tuple #[(.agg #[(vi cG),(vi cH),(vu dY),(vs cI),(vb dZ)]),(vb r4)])∧K cG cH dY cI dZ r4 w'):=by
 unfold m_P2 at h
 refine cw (args:=[(vp p1),(vi t1)]) Tryz.func42 Tryz.ntmps42 ?_
 have hs:=Hst.start w0
 have hb:=HB.nil None w0
 refine eg (sn (O:=(.cells #[(vi 0),(vi 0),(vu 0),(vs ⟨#[]⟩),(vb false)] 35)) (x_alloc (Tryz.zeroValue35 _) rfl) ?_)
 intro p2 w1 hn1
 obtain ⟨H1,hs,hb⟩:=hs.alloc hb hn1
 refine q0 (vb false) (ln (wpE_seq (eg (q0 (vp p1) (q0 (vi t1) ?_)))))
 have h:=h H1 w1 hs
 have hs:=hs.here
 refine sc Tryz.call87 (h.mono ?_)
 rintro e w2 ⟨r1,rfl,hk,h⟩
 refine ⟨_,rfl,?_⟩
 obtain ⟨hs,hb⟩:=hk.hh hs hb
 refine q0 (vb (!r1)) (q0 (vb (!r1)) ?_)
 rcases Bool.eq_false_or_eq_true (!r1) with hg1 | hg1
 have h:=h.1 hg1
 refine sk (yD 10 hg1) (sk (yD 10 hg1) (sk (yD 10 hg1) (sk (yD 10 hg1) (q2 (vb true) (xT hg1) (ln (wpE_condT (by kernel_rfl) (eg (q0 (.agg #[(vi 0),(vi 0),(vu 0),(vs ⟨#[]⟩),(vb false)]) (st_set (want0 rfl) (xo p2 [(vi 0),(vi 0),(vu 0),(vs ⟨#[]⟩),(vb false)] (Tryz.sizeOf35 _) (hb.k0 0 5 gZ)) ?_)))))))))
 intro w3 hn2
 obtain ⟨hs,hb⟩:=hb.s0 (l':=[(p2,[(vi 0),(vi 0),(vu 0),(vs ⟨#[]⟩),(vb false)],35)]) 0 [(vi 0),(vi 0),(vu 0),(vs ⟨#[]⟩),(vb false)] hs hn2 gZ
 refine q0 (vb false) (ln (er (th_r ?_)))
 have h:=h w3 hs
 have hs:=hs.here
 refine resG (.inl rfl) (vs:=[(.agg #[(vi 0),(vi 0),(vu 0),(vs ⟨#[]⟩),(vb false)]),(vb false)]) (v:=(.tuple #[(.agg #[(vi 0),(vi 0),(vu 0),(vs ⟨#[]⟩),(vb false)]),(vb false)])) Tryz.results42 ⟨(rva (Tryz.isAgg35 _) (Tryz.sizeOf35 _) (hb.r0 0 5 gZ)),(rvT (by kernel_rfl)),trivial⟩ (by kernel_rfl) ?_
 exact ⟨0,0,0,⟨#[]⟩,false,false,rfl,h⟩
 have h:=h.2 hg1
 refine q1 (vp p1) (wy 10 hg1) (q1 (vi t1) (wy 10 hg1) ?_)
 refine st_call (wy 10 hg1) (xc Tryz.call97) (h.mono ?_)
 rintro e w4 ⟨r2,rfl,hk,h⟩
 refine ⟨_,rfl,?_⟩
 obtain ⟨hs,hb⟩:=hk.hh hs hb
 refine q1 (vb (decide (r2>40))) (wy 10 hg1) (q2 (vb (decide (r2>40))) (xF hg1) (ln ?_))
 refine wpE_cond (t:=(decide (r2>40))) (by kernel_rfl) (fun hc1=>?_) (fun hc1=>?_)
 have h:=h.1 hc1
 refine eg (q0 (.agg #[(vi 0),(vi 0),(vu 0),(vs ⟨#[]⟩),(vb false)]) (st_set (want0 rfl) (xo p2 [(vi 0),(vi 0),(vu 0),(vs ⟨#[]⟩),(vb false)] (Tryz.sizeOf35 _) (hb.k0 0 5 gZ)) ?_))
 intro w5 hn3
 obtain ⟨hs,hb⟩:=hb.s0 (l':=[(p2,[(vi 0),(vi 0),(vu 0),(vs ⟨#[]⟩),(vb false)],35)]) 0 [(vi 0),(vi 0),(vu 0),(vs ⟨#[]⟩),(vb false)] hs hn3 gZ
 refine q0 (vb false) (ln (er (th_r ?_)))
 have h:=h w5 hs
 have hs:=hs.here
 refine resG (.inl rfl) (vs:=[(.agg #[(vi 0),(vi 0),(vu 0),(vs ⟨#[]⟩),(vb false)]),(vb false)]) (v:=(.tuple #[(.agg #[(vi 0),(vi 0),(vu 0),(vs ⟨#[]⟩),(vb false)]),(vb false)])) Tryz.results42 ⟨(rva (Tryz.isAgg35 _) (Tryz.sizeOf35 _) (hb.r0 0 5 gZ)),(rvT (by kernel_rfl)),trivial⟩ (by kernel_rfl) ?_
 exact ⟨0,0,0,⟨#[]⟩,false,false,rfl,h⟩
 have h:=h.2 hc1
 refine wpE_skip (th_n (eg (q0 (vp p1) (q0 (vi t1) ?_))))
 refine sc Tryz.call49 (h.mono ?_)
 rintro e w6 ⟨bT,bU,bV,bW,bX,bY,rfl,hk,h⟩
 refine ⟨_,rfl,?_⟩
 obtain ⟨hs,hb⟩:=hk.hh hs hb
 refine sc Tryz.call98 (h.mono ?_)
 rintro e w7 ⟨bO,bP,bR,bQ,bS,r3,rfl,hk,h⟩
 refine ⟨_,rfl,?_⟩
 obtain ⟨hs,hb⟩:=hk.hh hs hb
 refine q0 (.agg #[(vi bO),(vi bP),(vu bR),(vs bQ),(vb bS)]) (q0 (vb r3) (st_set (want0 rfl) (xo p2 [(vi bO),(vi bP),(vu bR),(vs bQ),(vb bS)] (Tryz.sizeOf35 _) (hb.k0 0 5 gZ)) ?_))
 intro w8 hn4
 obtain ⟨hs,hb⟩:=hb.s0 (l':=[(p2,[(vi bO),(vi bP),(vu bR),(vs bQ),(vb bS)],35)]) 0 [(vi bO),(vi bP),(vu bR),(vs bQ),(vb bS)] hs hn4 gZ
 refine q0 (vb r3) (ln (er ?_))
 have h:=h w8 hs
 have hs:=hs.here
 refine resG (.inl rfl) (vs:=[(.agg #[(vi bO),(vi bP),(vu bR),(vs bQ),(vb bS)]),(vb r3)]) (v:=(.tuple #[(.agg #[(vi bO),(vi bP),(vu bR),(vs bQ),(vb bS)]),(vb r3)])) Tryz.results42 ⟨(rva (Tryz.isAgg35 _) (Tryz.sizeOf35 _) (hb.r0 0 5 gZ)),(rvT (by kernel_rfl)),trivial⟩ (by kernel_rfl) ?_
 exact ⟨bO,bP,bR,bQ,bS,r3,rfl,h⟩
end Go.Proofs
end
section
open Go Go.SE
namespace Go.Proofs
attribute [local irreducible] Calls
theorem ref11_Check (l:Sp.Letter):s_A2 l.kind l.frm l.c l.text l.fake=Sp.letErr l:=by
 obtain ⟨k,f,c,x,g⟩:=l
 unfold s_A2 Sp.letErr
 have e1:s_B k=Sp.isSigned k:=rfl
 rw [e1]
 have e2:(Sp.isSigned k || k == 6)=Sp.isTexted k:=rfl
 rw [e2]
 have e3:decide (((x.size:Int))>64)=decide (x.size>64):=decide_eq_decide.2 (by omega)
 rw [e3]
 generalize Sp.isSigned k=a;generalize Sp.isTexted k=b
 have hc:((((((decide (k<1)) || (decide (k>7))) || (((f:Int) != 0) && ((f:Int) != 1))) || ((!a) && ((f:Int) != 0))) || ((!b) && (!(decide (x=(⟨#[]⟩:ByteArray)))))) || ((g && ((k:Int) != 1)) && ((k:Int) != 4)))=decide (k<1∨k>7∨(f≠0∧f≠1)∨(a=false∧f≠0)∨(b=false∧x≠⟨#[]⟩)∨(g=true∧k≠1∧k≠4)):=by
  rw [Bool.eq_iff_iff]
  simp only [Bool.or_eq_true,Bool.and_eq_true,decide_eq_true_eq,bne_iff_ne,Bool.not_eq_true',decide_eq_false_iff_not]
  simp only [or_assoc,and_assoc]
 rw [hc]
 by_cases h:(k<1∨k>7∨(f≠0∧f≠1)∨(a=false∧f≠0)∨(b=false∧x≠⟨#[]⟩)∨(g=true∧k≠1∧k≠4))
 ·rw [decide_eq_true h,if_pos h];rfl
 ·rw [decide_eq_false h,if_neg h]
  by_cases h2:x.size>64
  ·rw [decide_eq_true h2,if_pos h2];rfl
  ·rw [decide_eq_false h2,if_neg h2];rfl
def path (p:List Nat):List (List Value):=p.map fun i:Nat=>[Value.int .i64 (i:Int)]
theorem c_ref11_kid {S S2 : NP} (x : Sp.Tree) (s sp : Sl) (p : List Nat) (w0 : World) (hT : TreeAt S w0 s x) (hSw : ∀ b, S b → b < w0.heap.size) (hp : Lst S2 w0 1 sp (path p)) (hS2 : ∀ b, S2 b → b < w0.heap.size) (hpl : p.length ≤ 100) :
  Calls Tryz.prog 163 #[.agg (trow x s).toArray,sp.v] w0 (fun e w'=>∃s',e=.returned (.agg (trow (Sp.kidT x p) s').toArray)∧TreeAt S w0 s' (Sp.kidT x p)∧Pure w0 w'):=by
 obtain ⟨k,f,t,u,tx,ks⟩:=x
 suffices key:∀K:Int→Int→Int→Int→ByteArray→Sl→WP,(∀k' f' t' u' x' s' w' ks',Sp.kidT (.mk k f t u tx ks) p=.mk k' f' t' u' x' ks'→TreeAt S w0 s' (.mk k' f' t' u' x' ks')→Pure w0 w'→K k' f' t' u' x' s' w')→m_P1 k f t u tx s sp w0 K by
  refine (w_P1 _ _ _ _ _ _ _ w0 (fun k' f' t' u' x' s' w'=>∃ks',Sp.kidT (.mk k f t u tx ks) p=.mk k' f' t' u' x' ks'∧TreeAt S w0 s' (.mk k' f' t' u' x' ks')∧Pure w0 w') (key _ (fun k' f' t' u' x' s' w' ks' h1 h2 h3=>⟨ks',h1,h2,h3⟩))).mono ?_
  rintro _ w' ⟨k',f',t',u',x',s',rfl,ks',h1,h2,h3⟩
  rw [h1]
  exact ⟨s',rfl,h2,h3⟩
 intro K hK
 have hlen:sp.len=p.length:=by rw [hp.len];simp [path]
 unfold m_P1
 intro H2 w2 hs2
 refine ⟨fun i _ _ _ _ _ _ k' f' t' u' x' s' H w'=>∃j:Nat,i=j∧j≤p.length∧Pure w0 w'∧∃ks',TreeAt S w0 s' (.mk k' f' t' u' x' ks')∧Sp.kidT (.mk k f t u tx ks) p=Sp.kidT (.mk k' f' t' u' x' ks') (p.drop j),fun i _ _ _ _ _ _ _ _ _ _ _ _ _=>((p.length:Int) - i).toNat,
  ⟨0,rfl,Nat.zero_le _,hs2.first,ks,hT,rfl⟩,?_⟩
 rintro _ _ _ _ _ _ _ k' f' t' u' x' s' Hl wl hl ⟨j,rfl,hj,El,ks',hT',heq⟩
 unfold m_P1_l1
 refine ⟨fun hc=>?_,fun hc=>?_⟩
 ·have hlt:=lt_of_dec hlen hc
  rw [List.drop_eq_getElem_cons hlt,Sp.kidT] at heq
  have hpp:∀w',Pure w0 w'→∃a,At sp j 1 a∧S2 a.block∧w'.cell? a=some (.int .i64 (p[j]:Int)):=by
   intro w' E
   obtain ⟨a,h1,h2,h3⟩:=(hp.pure E).nth (f:=fun i:Nat=>[Value.int .i64 (i:Int)]) (xs:=p) hlt
   exact ⟨a,h1,h2,row_cell h3⟩
  obtain ⟨a,hat,_,_⟩:=hpp wl El
  refine ⟨a,hat,?_⟩
  intro w3 hs3
  have E3:=El.hst hs3
  have hs3':=hs3.here
  obtain ⟨a1,hat1,hS1,hc1⟩:=hpp w3 E3
  have haa:a1=a:=by
   obtain ⟨_,_,x,hx,rfl⟩:=hat
   obtain ⟨_,_,y,hy,rfl⟩:=hat1
   rw [hx] at hy;cases hy;rfl
  subst haa
  have hl':s'.len=ks'.length:=by cases hT';assumption
  refine ⟨_,hc1,fun h=>?_,fun h=>?_⟩
  ·have : ks'[p[j]]? = none := by
    have h:=of_decide_eq_true h
    exact List.getElem?_eq_none (by omega)
   rw [show (Sp.Tree.mk k' f' t' u' x' ks').kids=ks' from rfl,this] at heq
   intro w4 hs4
   exact hK _ _ _ _ _ _ _ _ heq TreeAt.leaf (E3.hst hs4)
  ·have hlt2:p[j]<ks'.length:=by have h:=of_decide_eq_false h;omega
   rw [show (Sp.Tree.mk k' f' t' u' x' ks').kids=ks' from rfl,List.getElem?_eq_getElem hlt2] at heq
   have hd:∀b,S b→¬ Hl b:=fun b hb hh=>by have:=hl.old b hh;have:=hSw b hb;omega
   have hd2:∀b,S2 b→¬ Hl b:=fun b hb hh=>by have:=hl.old b hh;have:=hS2 b hb;omega
   cases hT' with
   | mk _ _ _ _ _ _ _ rs len fit row kid =>
   obtain ⟨a3,hat3,hS3,hr3⟩:=row _ hlt2
   refine ⟨a1,hat1,_,hc1,hd2 _ hS1,a3,hat3,_,_,_,_,_,rs p[j],E3.row hr3 id,hd _ hS3,?_⟩
   intro H3 w7 hs7
   rw [wrap_succ hlt (by omega)]
   refine ⟨⟨j+1,rfl,hlt,E3.hst hs7,ks'[p[j]].kids,?_,?_⟩,lt_dec hlt⟩
   ·have:=kid _ hlt2
    generalize ks'[p[j]]=y at *
    obtain ⟨_,_,_,_,_,_⟩:=y
    exact this
   ·rw [heq]
    generalize ks'[p[j]]=y
    obtain ⟨_,_,_,_,_,_⟩:=y
    rfl
 ·have hge:=eq_of_dec hlen hj hc
  subst hge
  rw [List.drop_length] at heq
  intro w9 hs9
  exact hK _ _ _ _ _ _ _ _ heq hT' (El.hst hs9)
end Go.Proofs
end
section
open Go Go.SE
namespace Go.Proofs
attribute [local irreducible] Calls
theorem run_rem2:∀j:Nat,j<4→∀w,(Go.binOp .rem 3 (.int .i64 (j:Int)) (.int .i64 2)).run Tryz.prog w=.ok (.int .i64 ((j % 2:Nat):Int)) w
 | 0,_,w=>by kernel_rfl
 | 1,_,w=>by kernel_rfl
 | 2,_,w=>by kernel_rfl
 | 3,_,w=>by kernel_rfl
 | n+4,h,_=>by omega
theorem run_quo2:∀j:Nat,j<4→∀w,(Go.binOp .quo 3 (.int .i64 (j:Int)) (.int .i64 2)).run Tryz.prog w=.ok (.int .i64 ((j / 2:Nat):Int)) w
 | 0,_,w=>by kernel_rfl
 | 1,_,w=>by kernel_rfl
 | 2,_,w=>by kernel_rfl
 | 3,_,w=>by kernel_rfl
 | n+4,h,_=>by omega
theorem Lst.of_path {w:World} {p:Addr} {T:TypeId} (ts:List Nat) (h:Box w p (ts.map fun t:Nat=>Value.int .i64 (t:Int)) T):Lst (·=p.block) w 1 ⟨some p,ts.length,ts.length⟩ (path ts):=by
 refine ⟨by simp [path],fun i hi=>?_⟩
 have hi':i<ts.length:=by simpa [path] using hi
 refine ⟨p.add (i*1),⟨by omega,by simpa using hi',p,rfl,by simp⟩,by rw [add_block],fun j hj=>?_⟩
 have hj0:j=0:=by simpa [path] using hj
 subst hj0
 have:=h.cell (i:=i) (v:=.int .i64 (ts[i]:Int)) (by simp [hi'])
 rw [add_add,Nat.mul_one,Nat.add_zero,this]
 simp [path]
theorem TreeAt.back {S:NP} {w w':World} {s:Sl} {t:Sp.Tree} (h:TreeAt S w' s t) (hE:Pure w w') (hd:∀b,S b→b<w.heap.size):TreeAt S w s t:=by
 induction h with
 | mk k f t u x ks s rs len fit row kid ih =>
  refine .mk k f t u x ks s rs len fit (fun i h=>let ⟨a,h1,h2,h3⟩:=row i h;⟨a,h1,h2,fun j hj=>?_⟩) ih
  rw [← h3 j hj]
  unfold World.cell?
  rw [add_block,hE.keep _ (hd _ h2) (fun h=>h)]
theorem c_ref11_ReadTree {S : NP} (x : Sp.Tree) (s : Sl) (w0 : World) (hT : TreeAt S w0 s x) (hSw : ∀ b, S b → b < w0.heap.size) :
  Calls Tryz.prog 98 #[.agg (trow x s).toArray] w0 (fun e w'=>∃k f c:Int,∃t:ByteArray,∃g r:Bool,e=.returned (.tuple #[.agg #[.int .i64 k,.int .i64 f,.int .u64 c,.string t,.bool g],.bool r])∧(((⟨k,f,c,t,g⟩:Sp.Letter),r)=Sp.readTree x∧Pure w0 w')):=by
 obtain ⟨xk,xf,xt,xu,xx,ks⟩:=x
 generalize hx:Sp.Tree.mk xk xf xt xu xx ks=x at *
 have hxr:trow x s=[.int .i64 xk,.int .i64 xf,.int .i64 xt,.int .u64 xu,.string xx,s.v]:=by rw [← hx];rfl
 have hxn:x.node.frm=xf:=by rw [← hx];rfl
 rw [hxr]
 suffices key:∀K:Int→Int→Int→ByteArray→Bool→Bool→WP,(∀k f c t g r w',(((⟨k,f,c,t,g⟩:Sp.Letter),r)=Sp.readTree x∧Pure w0 w')→K k f c t g r w')→m_G xk xf xt xu xx s w0 K from
  w_G _ _ _ _ _ _ w0 _ (key _ (fun _ _ _ _ _ _ _ h=>h))
 intro K hK
 have hxv:(Value.agg #[.int .i64 xk,.int .i64 xf,.int .i64 xt,.int .u64 xu,.string xx,s.v])=.agg (trow x s).toArray:=by rw [hxr]
 have tS:∀{w},Pure w0 w→TreeAt S w s x∧∀b,S b→b<w.heap.size:=fun E=>⟨hT.pure E,fun b hb=>by have:=hSw b hb;have:=E.size;omega⟩
 unfold m_G
 intro H2 w2 hs2 p3 w3 h3 p4 w4 h4 p5 w5 h5 p6 w6 h6
 have E2:=hs2.first
 have b3:=(((Box.of_new h3).pure (Ext.new h4)).pure (Ext.new h5)).pure (Ext.new h6)
 have b4:=((Box.of_new h4).pure (Ext.new h5)).pure (Ext.new h6)
 have b5:=(Box.of_new h5).pure (Ext.new h6)
 have b6:=Box.of_new h6
 have E6:Pure w2 w6:=(((Ext.new h3:Pure w2 w3).trans (Ext.new h4)).trans (Ext.new h5)).trans (Ext.new h6)
 have hs6:=hs2.again E6.keptP
 have v3:w2.heap.size≤p3.block:=by have:=h3.at_size;omega
 have v4:w2.heap.size≤p4.block:=by have:=h4.at_size;have:=(Ext.new (F:=None) h3).size;omega
 have v5:w2.heap.size≤p5.block:=by have:=h5.at_size;have:=(Ext.new (F:=None) h3).size;have:=(Ext.new (F:=None) h4).size;omega
 have v6:w2.heap.size≤p6.block:=by have:=h6.at_size;have:=(Ext.new (F:=None) h3).size;have:=(Ext.new (F:=None) h4).size;have:=(Ext.new (F:=None) h5).size;omega
 let B:WP:=fun w=>Box w p3 [.int .i64 0] 3∧Box w p4 [.int .i64 0,.int .i64 1,.int .i64 0,.int .i64 0] 3∧Box w p5 [.int .i64 0,.int .i64 1] 3∧Box w p6 [(Sl.mk (some p3) 1 1).v,(Sl.mk (some p4) 4 4).v,(Sl.mk (some p5) 2 2).v] 42
 let V:NP→Prop:=fun H=>¬ H p3.block∧¬ H p4.block∧¬ H p5.block∧¬ H p6.block
 have B6:B w6:=⟨b3,b4,b5,b6⟩
 have V6:V H2:=⟨fun h=>by have:=hs2.lt _ h;omega,fun h=>by have:=hs2.lt _ h;omega,fun h=>by have:=hs2.lt _ h;omega,fun h=>by have:=hs2.lt _ h;omega⟩
 have Bp:∀{w w'},B w→Pure w w'→B w':=fun h E=>⟨h.1.pure E,h.2.1.pure E,h.2.2.1.pure E,h.2.2.2.pure E⟩
 have BV:∀{H w H' w'},B w∧V H→Hst w0 H w H' w'→B w'∧V H':=by
  rintro H w H' w' ⟨⟨q3,q4,q5,q6⟩,⟨n3,n4,n5,n6⟩⟩ hs
  have d:∀(p:Addr),p.block<w.heap.size→¬ H p.block→¬ H' p.block:=fun p h1 h2=>hs.disj (G:=(·=p.block)) (fun b e=>by subst e;exact ⟨h1,h2⟩) _ rfl
  have m3:=d p3 q3.lt n3;have m4:=d p4 q4.lt n4;have m5:=d p5 q5.lt n5;have m6:=d p6 q6.lt n6
  exact ⟨⟨q3.ext hs.ext m3,q4.ext hs.ext m4,q5.ext hs.ext m5,q6.ext hs.ext m6⟩,⟨m3,m4,m5,m6⟩⟩
 refine ⟨fun kd _ _ _ _ _ H w'=>∃q:Nat,kd=(q:Int)+1∧q≤7∧Pure w0 w'∧(B w'∧V H)∧Sp.tryKinds x 7 1=Sp.tryKinds x (7 - q) ((q:Int)+1),fun kd _ _ _ _ _ _=>(8 - kd).toNat,⟨0,rfl,by omega,E2.trans E6,⟨B6,V6⟩,rfl⟩,?_⟩
 rintro _ d1 d2 d3 d4 d5 Hl wl hl ⟨q,rfl,hq,El,BVl,heq⟩
 unfold m_G_l1
 refine ⟨fun hc=>?_,fun hc=>?_⟩
 ·have hq7:q<7:=by have:=of_decide_eq_true hc;omega
  obtain ⟨n,hn⟩:∃n,7 - q=n+1:=⟨7 - q - 1,by omega⟩
  have hstep:Sp.tryKinds x (n+1) ((q:Int)+1)=(match Sp.tryDeals x ((q:Int)+1) Sp.deals with | some l=>some l | none=>Sp.tryKinds x n ((q:Int)+1+1)):=rfl
  rw [hn,hstep] at heq
  clear hstep
  generalize hkd:((q:Int)+1)=kd at *
  refine ⟨fun i _ _ _ _ _ H w'=>∃j:Nat,i=j∧j≤3∧Pure w0 w'∧(B w'∧V H)∧Sp.tryDeals x kd Sp.deals=Sp.tryDeals x kd (Sp.deals.drop j),fun i _ _ _ _ _ _=>(3 - i).toNat,⟨0,rfl,by omega,El,BVl,rfl⟩,?_⟩
  rintro _ d1 d2 d3 d4 d5 Hm wm hm ⟨j,rfl,hj,Em,BVm,heqd⟩
  unfold m_G_l2
  refine ⟨fun hc2=>?_,fun hc2=>?_⟩
  ·have hj3:j<3:=by have:=of_decide_eq_true hc2;simp only at this;omega
   have hjd:j<Sp.deals.length:=hj3
   have hstep:Sp.tryDeals x kd (Sp.deals[j] :: Sp.deals.drop (j+1))=(match Sp.tryFakes x (Sp.cand x kd Sp.deals[j]) 4 0 with | some l=>some l | none=>Sp.tryDeals x kd (Sp.deals.drop (j+1))):=rfl
   rw [List.drop_eq_getElem_cons hjd,hstep] at heqd
   clear hstep
   generalize hpp:Sp.deals[j]=pp at *
   have hpath:∃a:Addr,∃sl:Sl,At (Sl.mk (some p6) 3 3) (j:Int) 1 a∧(∀w,B w→w.cell? a=some sl.v∧∃S2:NP,Lst S2 w 1 sl (path pp)∧∀b,S2 b→b<w.heap.size):=by
    have hj':j=0∨j=1∨j=2:=by omega
    rcases hj' with rfl | rfl | rfl
    ·have:pp=[0]:=hpp.symm
     subst this
     refine ⟨p6,⟨some p3,1,1⟩,⟨by omega,by simp,p6,rfl,by simp [Addr.add]⟩,fun w h=>⟨h.2.2.2.cell0,_,Lst.of_path [0] h.1,fun b e=>by subst e;exact h.1.lt⟩⟩
    ·have:pp=[0,1,0,0]:=hpp.symm
     subst this
     refine ⟨p6.add 1,⟨some p4,4,4⟩,⟨by omega,by simp,p6,rfl,rfl⟩,fun w h=>⟨h.2.2.2.cell rfl,_,Lst.of_path [0,1,0,0] h.2.1,fun b e=>by subst e;exact h.2.1.lt⟩⟩
    ·have:pp=[0,1]:=hpp.symm
     subst this
     refine ⟨p6.add 2,⟨some p5,2,2⟩,⟨by omega,by simp,p6,rfl,rfl⟩,fun w h=>⟨h.2.2.2.cell rfl,_,Lst.of_path [0,1] h.2.2.1,fun b e=>by subst e;exact h.2.2.1.lt⟩⟩
   obtain ⟨a,sl,hat,hcell⟩:=hpath
   have hppl:pp.length≤100:=by
    have hj':j=0∨j=1∨j=2:=by omega
    rcases hj' with rfl | rfl | rfl <;> (rw [← hpp];simp [Sp.deals])
   have J3 : ∀ (a1 : Addr) (w : World) (sd : Sl) (Td : TypeId), Hst w0 Hm w Hm w → Pure w0 w → (B w ∧ V Hm) → Box w a1 (trow (Sp.kidT x pp) sd) Td → ¬ Hm a1.block → TreeAt S w0 sd (Sp.kidT x pp) →
     m_G_j3 xk xf xt xu xx s kd j d1 d2 d3 d4 d5 a1 w0 Hm w (fun y'0 y'1 y'2 y'3 y'4 y'5 H' w'=>(∃j:Nat,y'0=j∧j≤3∧Pure w0 w'∧(B w'∧V H')∧Sp.tryDeals x kd Sp.deals=Sp.tryDeals x kd (Sp.deals.drop j))∧(3 - y'0).toNat<(3 - (j:Int)).toNat) K:=by
    intro a1 w sd Td hs E hBV hB1 hv1 hTd
    unfold m_G_j3
    have J4 : ∀ (c : Int) (t : ByteArray) (H : NP) (w : World), Hst w0 H w H w → Pure w0 w → (B w ∧ V H) → (⟨kd, cond (s_B kd) xf 0, c, t, false⟩ : Sp.Letter) = Sp.cand x kd pp →
      m_G_j4 xk xf xt xu xx s kd j d1 d2 d3 d4 d5 kd (cond (s_B kd) xf 0) c t false w0 H w (fun y'0 y'1 y'2 y'3 y'4 y'5 H' w'=>(∃j:Nat,y'0=j∧j≤3∧Pure w0 w'∧(B w'∧V H')∧Sp.tryDeals x kd Sp.deals=Sp.tryDeals x kd (Sp.deals.drop j))∧(3 - y'0).toNat<(3 - (j:Int)).toNat) K:=by
     intro c t H w hs E hBV hcand
     generalize hlf:cond (s_B kd) xf 0=lf at *
     rw [← hcand] at heqd
     unfold m_G_j4
     refine ⟨fun fk lk lf' lc lt lg _ _ _ _ _ H w'=>(kd=lk∧lf=lf'∧c=lc∧t=lt)∧∃f:Nat,fk=f∧f≤4∧Pure w0 w'∧(B w'∧V H)∧Sp.tryFakes x ⟨kd,lf,c,t,false⟩ 4 0=Sp.tryFakes x ⟨kd,lf,c,t,false⟩ (4 - f) f,fun fk _ _ _ _ _ _ _ _ _ _ _=>(4 - fk).toNat,⟨⟨rfl,rfl,rfl,rfl⟩,0,rfl,by omega,E,hBV,rfl⟩,?_⟩
     rintro _ _ _ _ _ lg e1 e2 e3 e4 e5 Hf wf hsf ⟨⟨rfl,rfl,rfl,rfl⟩,f,rfl,hf4,Ef,BVf,heqf⟩
     unfold m_G_l5
     refine ⟨fun hc3=>?_,fun hc3=>?_⟩
     ·have hf:f<4:=by have:=of_decide_eq_true hc3;omega
      obtain ⟨m,hm'⟩:∃m,4 - f=m+1:=⟨4 - f - 1,by omega⟩
      have hstep:Sp.tryFakes x ⟨kd,lf,c,t,false⟩ (m+1) f=(if Sp.fits x ⟨kd,lf,c,t,false⟩ f then some (Sp.withFake ⟨kd,lf,c,t,false⟩ f) else Sp.tryFakes x ⟨kd,lf,c,t,false⟩ m (f+1)):=rfl
      rw [hm',hstep] at heqf
      clear hstep
      intro w14 hs14
      have E14:=Ef.hst hs14
      have BV14:=BV BVf hs14
      have hd14:Pure w14 w14.drew:=Ext.drew w14
      refine ⟨fun w'=>Pure w14 w',hd14,?_⟩
      rintro _ rfl
      have hfd:decide ((f:Int)>0)=decide (f>0):=decide_eq_decide.2 (by omega)
      rw [hfd]
      refine (p_A2 kd lf c t (decide (f>0)) w14.drew).mono ?_
      rintro _ w16 ⟨rfl,E16⟩
      rw [ref11_Check ⟨kd,lf,c,t,decide (f>0)⟩]
      have Ed:=hd14.trans E16
      refine ⟨_,rfl,Ed,E16.keptP,?_⟩
      have hwf:Sp.withFake ⟨kd,lf,c,t,false⟩ f=⟨kd,lf,c,t,decide (f>0)⟩:=rfl
      have next:∀w',Pure w14 w'→Sp.fits x ⟨kd,lf,c,t,false⟩ f=false→((((kd=kd∧lf=lf∧c=c∧t=t)∧∃f':Nat,IntKind.i64.wrap ((f:Int)+1)=f'∧f'≤4∧Pure w0 w'∧(B w'∧V Hf)∧Sp.tryFakes x ⟨kd,lf,c,t,false⟩ 4 0=Sp.tryFakes x ⟨kd,lf,c,t,false⟩ (4 - f') f'))∧(4 - IntKind.i64.wrap ((f:Int)+1)).toNat<(4 - (f:Int)).toNat):=by
       intro w' E' hno
       rw [hno,if_neg (by simp)] at heqf
       rw [wrap_succ hf (by omega)]
       exact ⟨⟨⟨rfl,rfl,rfl,rfl⟩,f+1,rfl,hf,E14.trans E',⟨Bp BV14.1 E',BV14.2⟩,by rw [heqf,show m=4 - (f+1) from by omega]⟩,by omega⟩
      have found:∀w',Pure w0 w'→Sp.fits x ⟨kd,lf,c,t,false⟩ f=true→K kd lf c t (decide (f>0)) true w':=by
       intro w' E' hyes
       rw [hyes,if_pos rfl,hwf] at heqf
       rw [heqf] at heqd
       rw [heqd] at heq
       exact hK _ _ _ _ _ _ _ ⟨by unfold Sp.readTree;rw [heq],E'⟩
      have cmp : ∀ w, Pure w14 w → Sp.letErr ⟨kd, lf, c, t, decide (f > 0)⟩ = 0 → (kd == 4 || decide (f ≠ 2)) = true →
        Calls Tryz.prog 58 #[.agg #[.int .i64 kd,.int .i64 lf,.int .u64 c,.string t,.bool (decide (f>0))],.bool (((f % 2:Nat):Int) == 1),.bool (((f / 2:Nat):Int) == 1)] w (fun e w17=>∃rKind1:Int,∃rFrom1:Int,∃rTo1:Int,∃rNum1:Int,∃rText1:ByteArray,∃rKids1:Sl,e=.returned (.agg #[(.int .i64 rKind1),(.int .i64 rFrom1),(.int .i64 rTo1),(.int .u64 rNum1),(.string rText1),rKids1.v])∧Pure w14 w17∧Kept Hf w w17 ∧
         Calls Tryz.prog 47 #[.agg #[(.int .i64 rKind1),(.int .i64 rFrom1),(.int .i64 rTo1),(.int .u64 rNum1),(.string rText1),rKids1.v],.agg #[.int .i64 xk,.int .i64 xf,.int .i64 xt,.int .u64 xu,.string xx,s.v]] w17 (fun e w18=>∃r2:Bool,e=.returned (.bool r2)∧Pure w14 w18∧Kept Hf w17 w18∧r2=Sp.fits x ⟨kd,lf,c,t,false⟩ f)):=by
       intro w Ew herr hk4
       have hfr:lf=0∨lf=1:=by
        unfold Sp.letErr at herr
        simp only at herr
        split at herr
        ·cases herr
        ·rename_i h;simp only [not_or,not_and] at h
         have:=h.2.2.1
         by_cases h0:lf=0
         ·exact .inl h0
         ·exact .inr (Classical.not_not.1 (this h0))
       have hb1:(((f % 2:Nat):Int) == 1)=(f % 2 == 1):=by rw [Bool.eq_iff_iff];simp;omega
       have hb2:(((f / 2:Nat):Int) == 1)=(f / 2 == 1):=by rw [Bool.eq_iff_iff];simp;omega
       rw [hb1,hb2]
       refine (c_ref11_Tree w.heap.size kd lf c t (decide (f>0)) (f % 2 == 1) (f / 2 == 1) w (Nat.le_refl _) hfr).mono ?_
       rintro _ w17 ⟨s',rfl,hT',E17⟩
       generalize hLT:Sp.letterT ⟨kd,lf,c,t,decide (f>0)⟩ (f % 2 == 1) (f / 2 == 1)=LT at *
       obtain ⟨lk,lff,lt,lu,lx,lks⟩:=LT
       refine ⟨_,_,_,_,_,s',rfl,Ew.trans E17,E17.keptP,?_⟩
       rw [hxv]
       have E017:=(E14.trans Ew).trans E17
       refine (c_ref05_Same (S:=fun b=>b<w17.heap.size) (.mk lk lff lt lu lx lks) x s' s w17 (hT'.lt.mono (fun b hb=>hb.2)) ((tS E017).1.mono (tS E017).2) (fun b hb=>hb)).mono ?_
       rintro _ w18 ⟨r,rfl,hr,E18⟩
       refine ⟨_,rfl,(Ew.trans E17).trans E18,E18.keptP,?_⟩
       unfold Sp.fits
       rw [hwf,hLT,hr]
       simp [herr]
       intro _
       simpa using hk4
      refine ⟨fun h1=>⟨fun h2=>?_,fun h2=>⟨fun h3=>?_,fun h3=>?_⟩⟩,fun h1=>?_⟩
      ·refine ⟨_,fun w' _=>run_rem2 f hf w',_,fun w' _=>run_quo2 f hf w',?_⟩
       refine (cmp w16 Ed (by simpa using h1) (by rw [h2];rfl)).mono ?_
       rintro _ w17 ⟨_,_,_,_,_,s',rfl,E17,K17,h17⟩
       refine ⟨_,_,_,_,_,s',rfl,E17,K17,?_⟩
       refine h17.mono ?_
       rintro _ w18 ⟨r,rfl,E18,K18,hr⟩
       refine ⟨_,rfl,E18,K18,fun h=>?_,fun h=>next _ E18 (by rw [← hr];exact h)⟩
       intro w19 hs19
       exact found _ ((E14.trans E18).hst hs19) (by rw [← hr];exact h)
      ·refine ⟨_,fun w' _=>run_rem2 f hf w',_,fun w' _=>run_quo2 f hf w',?_⟩
       have hf2:decide (f≠2)=true:=decide_eq_true (fun e=>by subst e;simp at h3)
       refine (cmp w16 Ed (by simpa using h1) (by rw [hf2];simp)).mono ?_
       rintro _ w17 ⟨_,_,_,_,_,s',rfl,E17,K17,h17⟩
       refine ⟨_,_,_,_,_,s',rfl,E17,K17,?_⟩
       refine h17.mono ?_
       rintro _ w18 ⟨r,rfl,E18,K18,hr⟩
       refine ⟨_,rfl,E18,K18,fun h=>?_,fun h=>next _ E18 (by rw [← hr];exact h)⟩
       intro w19 hs19
       exact found _ ((E14.trans E18).hst hs19) (by rw [← hr];exact h)
      ·refine next _ Ed ?_
       have hf2 : f = 2 := by have : (f : Int) = 2 := by simpa using h3
                              omega
       unfold Sp.fits
       simp only
       rw [h2,hf2];simp
      ·refine next _ Ed ?_
       unfold Sp.fits
       rw [hwf]
       have:decide (Sp.letErr ⟨kd,lf,c,t,decide (f>0)⟩=0)=false:=decide_eq_false (by simpa using h1)
       rw [this];rfl
     ·have hf:f=4:=by have:=of_decide_eq_false hc3;omega
      subst hf
      rw [Nat.sub_self,Sp.tryFakes] at heqf
      rw [heqf] at heqd
      simp only at heqd
      rw [wrap_succ hj3 (by omega)]
      exact ⟨⟨j+1,rfl,hj3,Ef,BVf,heqd⟩,by omega⟩
    have hsg:s_B kd=Sp.isSigned kd:=rfl
    have hcf:cond (s_B kd) xf 0=(Sp.cand x kd pp).frm:=by
     rw [hsg];unfold Sp.cand;simp only;rw [hxn]
     cases Sp.isSigned kd <;> rfl
    have place : ∀ (y : Sp.Tree) (sy : Sl) (pth : List Nat) (w : World) (p8 : Addr) (w23 : World), Pure w0 w → TreeAt S w0 sy y → New w (.cells (pth.map fun t : Nat => Value.int .i64 (t : Int)).toArray 3) p8 w23 → pth.length ≤ 100 →
      Calls Tryz.prog 163 #[.agg (trow y sy).toArray,(Sl.mk (some p8) pth.length pth.length).v] w23 (fun e w'=>∃s',e=.returned (.agg (trow (Sp.kidT y pth) s').toArray)∧TreeAt S w23 s' (Sp.kidT y pth)∧Pure w23 w'):=by
     intro y sy pth w p8 w23 E hTy h8 hpl
     have E23:Pure w0 w23:=E.trans (Ext.new h8)
     exact c_ref11_kid (S2:=(·=p8.block)) y sy _ pth w23 (hTy.pure E23) (tS E23).2 (Lst.of_path pth (Box.of_new h8)) (fun b e=>by subst e;exact (Box.of_new h8).lt) hpl
    refine ⟨fun htx=>?_,fun htx=>⟨fun h7=>?_,fun h7=>?_⟩⟩
    ·have htx':Sp.isTexted kd=true:=htx
     intro H4 w13 hs13
     have E13:=E.hst hs13
     have BV13:=BV hBV hs13
     have hv13:¬ H4 a1.block:=hs13.disj (G:=(·=a1.block)) (fun b e=>by subst e;exact ⟨hB1.lt,hv1⟩) _ rfl
     have B13:=hB1.ext hs13.ext hv13
     generalize hD:Sp.kidT x pp=D at *
     obtain ⟨dk,df,dt,du,dx,dks⟩:=D
     refine ⟨_,_,_,_,_,sd,B13.row,?_⟩
     intro p8 w23 h8
     have E23:Pure w13 w23:=Ext.new h8
     refine (place (.mk dk df dt du dx dks) sd [1,0] w13 p8 w23 E13 hTd h8 (by simp)).mono ?_
     rintro _ w24 ⟨s1,rfl,_,E24⟩
     generalize hk1:Sp.kidT (.mk dk df dt du dx dks) [1,0]=y1 at *
     obtain ⟨y1k,y1f,y1t,y1u,y1x,y1s⟩:=y1
     refine ⟨_,_,_,_,_,s1,rfl,E24.keptP,?_⟩
     intro w25 hs25
     have E1324:=E23.trans E24
     have B24:=B13.pure E1324
     have hv25:¬ H4 a1.block:=hv13
     have B25:=B24.ext hs25.ext hv25
     refine ⟨_,_,_,_,_,sd,B25.row,?_⟩
     have E25:=(E13.trans E1324).hst hs25
     have BV25:=BV ⟨Bp BV13.1 E1324,BV13.2⟩ hs25
     intro p9 w26 h9
     have E26:Pure w25 w26:=Ext.new h9
     refine (place (.mk dk df dt du dx dks) sd [1,1] w25 p9 w26 E25 hTd h9 (by simp)).mono ?_
     rintro _ w27 ⟨s2,rfl,_,E27⟩
     generalize hk2:Sp.kidT (.mk dk df dt du dx dks) [1,1]=y2 at *
     obtain ⟨y2k,y2f,y2t,y2u,y2x,y2s⟩:=y2
     refine ⟨_,_,_,_,_,s2,rfl,E27.keptP,?_⟩
     intro w28 hs28
     have E2527:=E26.trans E27
     refine J4 y1u y2x H4 w28 hs28.here ((E25.trans E2527).hst hs28) (BV ⟨Bp BV25.1 E2527,BV25.2⟩ hs28) ?_
     rw [hcf]
     unfold Sp.cand
     simp only [htx',if_true,hD,hk1,hk2]
     rfl
    ·have h7:kd=7:=by simpa using h7
     intro H4 w13 hs13
     have E13:=E.hst hs13
     have BV13:=BV hBV hs13
     intro p10 w29 h10
     have E29:Pure w13 w29:=Ext.new h10
     rw [hxv]
     refine (place x s [1] w13 p10 w29 E13 hT h10 (by simp)).mono ?_
     rintro _ w30 ⟨s1,rfl,_,E30⟩
     generalize hk1:Sp.kidT x [1]=y1 at *
     obtain ⟨y1k,y1f,y1t,y1u,y1x,y1s⟩:=y1
     refine ⟨_,_,_,_,_,s1,rfl,E30.keptP,?_⟩
     intro w31 hs31
     have E1330:=E29.trans E30
     refine J4 y1u ⟨#[]⟩ H4 w31 hs31.here ((E13.trans E1330).hst hs31) (BV ⟨Bp BV13.1 E1330,BV13.2⟩ hs31) ?_
     rw [hcf]
     unfold Sp.cand
     subst h7
     simp only [hk1]
     rfl
    ·have h7:kd≠7:=by simpa using h7
     have htx':Sp.isTexted kd=false:=htx
     intro H4 w13 hs13
     have E13:=E.hst hs13
     have BV13:=BV hBV hs13
     intro p11 w32 h11
     have E32:Pure w13 w32:=Ext.new h11
     rw [hxv]
     refine (place x s [0,1] w13 p11 w32 E13 hT h11 (by simp)).mono ?_
     rintro _ w33 ⟨s1,rfl,_,E33⟩
     generalize hk1:Sp.kidT x [0,1]=y1 at *
     obtain ⟨y1k,y1f,y1t,y1u,y1x,y1s⟩:=y1
     refine ⟨_,_,_,_,_,s1,rfl,E33.keptP,?_⟩
     intro w34 hs34
     have E1333:=E32.trans E33
     refine J4 y1u ⟨#[]⟩ H4 w34 hs34.here ((E13.trans E1333).hst hs34) (BV ⟨Bp BV13.1 E1333,BV13.2⟩ hs34) ?_
     rw [hcf]
     unfold Sp.cand
     have h7b:(kd == 7)=false:=by simpa using h7
     simp only [htx',h7b,hk1,Bool.false_eq_true,if_false]
     rfl
   have Edr:Pure wm wm.drew:=Ext.drew wm
   have Emd:=Em.trans Edr
   have Bmd:=Bp BVm.1 Edr
   refine ⟨fun w'=>B w',Bmd,?_⟩
   rintro _ rfl
   refine ⟨a,hat,sl,fun w' h=>(hcell w' h).1,?_,?_⟩
   ·rw [hxv]
    obtain ⟨_,S2,hL,hS2⟩:=hcell _ Bmd
    refine (c_ref11_kid x s sl pp wm.drew (tS Emd).1 (tS Emd).2 hL hS2 hppl).mono ?_
    rintro _ w36 ⟨sd,rfl,hTd,E36⟩
    generalize hD:Sp.kidT x pp=D at *
    obtain ⟨dk,df,dt,du,dx,dks⟩:=D
    refine ⟨_,_,_,_,_,sd,rfl,E36.keptP,?_⟩
    intro p12 w37 h12
    have E37:=E36.trans (Ext.new h12)
    have b12:=Box.of_new h12
    have hnh:¬ Hm p12.block:=by intro hh;have:=hm.lt _ hh;have:=h12.at_size;have:=(Edr.trans E36).size;omega
    have B36:=Bp Bmd E36
    have B37:=Bp Bmd E37
    have hTd0:TreeAt S w0 sd (Sp.Tree.mk dk df dt du dx dks):=hTd.back Emd hSw
    refine ⟨B37,b12.canWs (n:=6) (by simp),hnh,?_⟩
    rintro _ rfl
    have E38:=Ext.storeRow w37 p12 [(.int .i64 dk),(.int .i64 df),(.int .i64 dt),(.int .u64 du),(.string dx),sd.v]
    have b38:=b12.store (vs:=[(.int .i64 dk),(.int .i64 df),(.int .i64 dt),(.int .u64 du),(.string dx),sd.v]) rfl
    exact J3 p12 _ sd _ ((hm.again (Edr.trans E37).keptP).again (E38.kept (fun b hb e=>hnh (e▸hb)))) ((Emd.trans E37).own (by have:=h12.at_size;have:=(Emd.trans E36).size;omega) E38) ⟨⟨B37.1.ext E38 (New.ne h12 B36.1.blk),B37.2.1.ext E38 (New.ne h12 B36.2.1.blk),B37.2.2.1.ext E38 (New.ne h12 B36.2.2.1.blk),B37.2.2.2.ext E38 (New.ne h12 B36.2.2.2.blk)⟩,BVm.2⟩ b38 hnh hTd0
   ·rw [hxv]
    intro p13 w39 h13
    have E39:Pure wm.drew w39:=Ext.new h13
    have B39:=Bp Bmd E39
    have Em39:=Emd.trans E39
    have b13:=Box.of_new h13
    have hnh:¬ Hm p13.block:=by intro hh;have:=hm.lt _ hh;have:=h13.at_size;have:=Edr.size;omega
    obtain ⟨_,S2,hL,hS2⟩:=hcell _ B39
    refine ⟨B39,(c_ref11_kid x s sl pp w39 (tS Em39).1 (tS Em39).2 hL hS2 hppl).mono ?_⟩
    rintro _ w40 ⟨sd,rfl,hTd,E40⟩
    generalize hD:Sp.kidT x pp=D at *
    obtain ⟨dk,df,dt,du,dx,dks⟩:=D
    have hTd0:TreeAt S w0 sd (Sp.Tree.mk dk df dt du dx dks):=hTd.back Em39 hSw
    have B40:=Bp B39 E40
    have b40:=b13.pure E40
    refine ⟨_,_,_,_,_,sd,rfl,E40.keptP,b40.canWs (n:=6) (by simp),hnh,?_⟩
    rintro _ rfl
    have E41:=Ext.storeRow w40 p13 [(.int .i64 dk),(.int .i64 df),(.int .i64 dt),(.int .u64 du),(.string dx),sd.v]
    have b41:=b40.store (vs:=[(.int .i64 dk),(.int .i64 df),(.int .i64 dt),(.int .u64 du),(.string dx),sd.v]) rfl
    exact J3 p13 _ sd _ ((hm.again ((Edr.trans E39).trans E40).keptP).again (E41.kept (fun b hb e=>hnh (e▸hb)))) ((Em39.trans E40).own (by have:=h13.at_size;have:=Emd.size;omega) E41) ⟨⟨B40.1.ext E41 (New.ne h13 Bmd.1.blk),B40.2.1.ext E41 (New.ne h13 Bmd.2.1.blk),B40.2.2.1.ext E41 (New.ne h13 Bmd.2.2.1.blk),B40.2.2.2.ext E41 (New.ne h13 Bmd.2.2.2.blk)⟩,BVm.2⟩ b41 hnh hTd0
  ·have hj3:j=3:=by have:=of_decide_eq_false hc2;simp only at this;omega
   subst hj3
   have:Sp.deals.drop 3=[]:=rfl
   rw [this,Sp.tryDeals] at heqd
   rw [heqd] at heq
   simp only at heq
   have hkw:IntKind.i64.wrap (kd+1)=((q+1:Nat):Int)+1:=by rw [IntWalk.i64_in _ (by omega)];omega
   rw [hkw]
   exact ⟨⟨q+1,rfl,hq7,Em,BVm,by rw [heq];congr 1 <;> omega⟩,by show (8 - _:Int).toNat<(8 - _:Int).toNat;omega⟩
 ·have hq7:q=7:=by have:=of_decide_eq_false hc;omega
  subst hq7
  rw [Nat.sub_self,Sp.tryKinds] at heq
  intro w42 hs42
  exact hK _ _ _ _ _ _ _ ⟨by unfold Sp.readTree;rw [heq];rfl,El.hst hs42⟩
end Go.Proofs
end
section
open Go Go.SE
namespace Go.Proofs
attribute [local irreducible] Calls
theorem c_ref11_Read (p : Addr) {L : Sp.Pool} (hW : Sp.Wf L) (t : Int) (w0 : World) (F : NP) (hP : PoolR w0 p L F) :
  Calls Tryz.prog 42 #[.pointer (some p),.int .i64 t] w0 (fun e w'=>∃k f c:Int,∃t':ByteArray,∃g r:Bool,e=.returned (.tuple #[.agg #[.int .i64 k,.int .i64 f,.int .u64 c,.string t',.bool g],.bool r])∧(((⟨k,f,c,t',g⟩:Sp.Letter),r)=Sp.refRead L t∧Pure w0 w')):=by
 suffices key:∀K:Int→Int→Int→ByteArray→Bool→Bool→WP,(∀k f c t' g r w',(((⟨k,f,c,t',g⟩:Sp.Letter),r)=Sp.refRead L t∧Pure w0 w')→K k f c t' g r w')→m_P2 (some p) t w0 K from
  w_P2 _ _ w0 _ (key _ (fun _ _ _ _ _ _ _ h=>h))
 intro K hK
 have hok:=hW.ok
 unfold m_P2
 intro H1 w1 hs1
 have E1:=hs1.first
 refine (c_ref05_In p t w1 (hP.pure E1)).mono ?_
 rintro _ w2 ⟨r,rfl,hr,rfl⟩
 refine ⟨_,rfl,(Ext.refl _:Pure w2 w2).keptP,fun h=>?_,fun h=>?_⟩
 ·intro w3 hs3
  refine hK _ _ _ _ _ _ _ ⟨?_,E1.hst hs3⟩
  unfold Sp.refRead
  rw [if_neg (fun hh=>by rw [hr,hh.1] at h;cases h)]
  rfl
 ·have hin:Sp.inP L t=true:=by rw [← hr];simpa using h
  refine (c_ref05_Size p t w2 (hP.pure E1) hok).mono ?_
  rintro _ w4 ⟨z,rfl,hz,rfl⟩
  refine ⟨_,rfl,(Ext.refl _:Pure w4 w4).keptP,fun h2=>?_,fun h2=>?_⟩
  ·intro w5 hs5
   refine hK _ _ _ _ _ _ _ ⟨?_,E1.hst hs5⟩
   have h2:=of_decide_eq_true h2
   unfold Sp.refRead
   rw [if_neg (fun hh=>hh.2 (hz▸h2))]
   rfl
  ·have h2:=of_decide_eq_false h2
   refine (c_ref05_Tree p hW _ t w4 F rfl (hP.pure E1)).mono ?_
   rintro _ w6 ⟨s',rfl,hT,E6⟩
   generalize hD:Sp.treeOf L t=D at *
   obtain ⟨dk,df,dt,du,dx,dks⟩:=D
   refine ⟨_,_,_,_,_,s',rfl,E6.keptP,?_⟩
   refine (c_ref11_ReadTree _ s' w6 hT.lt (fun b hb=>hb.2)).mono ?_
   rintro _ w7 ⟨k,f,c,t',g,r,rfl,hrd,E7⟩
   refine ⟨_,_,_,_,_,_,rfl,E7.keptP,?_⟩
   intro w8 hs8
   refine hK _ _ _ _ _ _ _ ⟨?_,((E1.trans E6).trans E7).hst hs8⟩
   unfold Sp.refRead
   rw [if_pos ⟨hin,hz▸h2⟩,hD,hrd]
end Go.Proofs
end
section
namespace Go.Sp
theorem size_cnt {L:Pool} (hW:Wf L):∀(n:Nat) (t:Int),t.toNat=n→inP L t=true→sizeOf L t=cnt (treeOf L t):=by
 intro n
 induction n using Nat.strongRecOn with
 | _ n ih =>
 intro t hn ht
 have h:=hW.node ht
 rw [treeOf_in hW ht,h.2.2.2.2.2.1,cnt]
 have:∀l:List Int,(∀k∈l,sizeOf L k=cnt (treeOf L k))→(l.map (sizeOf L)).sum=(cntAll (l.map (treeOf L)):Int):=by
  intro l
  induction l with
  | nil=>intro _;rfl
  | cons a l ihl=>intro hh;simp only [List.map_cons,List.sum_cons,cntAll,hh a (by simp),ihl (fun k hk=>hh k (by simp [hk]))];omega
 rw [this _ (fun k hk=>?_)]
 ·omega
 ·have hk2:=h.2.2.2.2.1 k hk
  have:=inP_iff.1 hk2.1
  exact ih k.toNat (by omega) k rfl hk2.1
theorem rdNode_ok {L:Pool} {t k:Int} (h:(rdNode L t k).2=false):inP L t=true∧(nodeOf L t).kind=k∧rdNode L t k=(nodeOf L t,false):=by
 unfold rdNode at h ⊢
 split at h
 ·rename_i hh;exact ⟨hh.1,hh.2,by rw [if_pos hh]⟩
 ·cases h
theorem rdNode_of {L:Pool} {t k:Int} (h:inP L t=true) (hk:(nodeOf L t).kind=k):rdNode L t k=(nodeOf L t,false):=by unfold rdNode;rw [if_pos ⟨h,hk⟩]
section
variable {L:Pool} (hW:Wf L) {t:Int} (ht:inP L t=true)
include hW ht
theorem nd_text:(nodeOf L t).text.size≤64:=by
 have:=(hW.node ht).2.2.2.1
 unfold fieldsErr at this
 split at this
 ·cases this
 split at this
 ·cases this
 ·omega
theorem nd3 (hk:(nodeOf L t).kind=3):treeOf L t=dataT (nodeOf L t).text:=by
 have h:=(hW.node ht).1
 rw [treeOf_in hW ht,hk,dataT]
 have hkk:kidsOf (nodeOf L t)=[]:=by unfold kidsOf;rw [hk];rfl
 rw [hkk]
 unfold plainErr at h
 rw [hk] at h
 simp [shapeOf,isKind] at h
 simp [h]
theorem nd2 (hk:(nodeOf L t).kind=2):treeOf L t=numT (nodeOf L t).num:=by
 have h:=(hW.node ht).1
 rw [treeOf_in hW ht,hk,numT]
 have hkk:kidsOf (nodeOf L t)=[]:=by unfold kidsOf;rw [hk];rfl
 rw [hkk]
 unfold plainErr at h
 rw [hk] at h
 simp [shapeOf,isKind] at h
 simp [h]
theorem nd4 (hk:(nodeOf L t).kind=4):inP L (nodeOf L t).a=true∧inP L (nodeOf L t).b=true∧treeOf L t=pairT (treeOf L (nodeOf L t).a) (treeOf L (nodeOf L t).b):=by
 have h:=(hW.node ht).1
 have hp:=(hW.node ht).2.2.2.2.1
 have hkk:kidsOf (nodeOf L t)=[(nodeOf L t).a,(nodeOf L t).b]:=by unfold kidsOf;rw [hk];rfl
 rw [hkk] at hp
 refine ⟨(hp _ (by simp)).1,(hp _ (by simp)).1,?_⟩
 rw [treeOf_in hW ht,hk,pairT,hkk]
 unfold plainErr at h
 rw [hk] at h
 simp [shapeOf,isKind] at h
 simp [h]
theorem nd7 (hk:(nodeOf L t).kind=7):inP L (nodeOf L t).a=true∧0≤(nodeOf L t).frm∧treeOf L t=signT (nodeOf L t).frm (treeOf L (nodeOf L t).a):=by
 have h:=(hW.node ht).1
 have hf:=(hW.node ht).2.2.2.1
 have hp:=(hW.node ht).2.2.2.2.1
 have hkk:kidsOf (nodeOf L t)=[(nodeOf L t).a]:=by unfold kidsOf;rw [hk];rfl
 rw [hkk] at hp
 refine ⟨(hp _ (by simp)).1,?_,?_⟩
 ·unfold fieldsErr at hf
  rw [hk] at hf
  split at hf
  ·cases hf
  ·rename_i hh;simp [shapeOf,isName] at hh;omega
 rw [treeOf_in hW ht,hk,signT,hkk]
 unfold plainErr at h
 rw [hk] at h
 simp [shapeOf,isKind] at h
 simp [h]
theorem nd89 (hk:(nodeOf L t).kind=8∨(nodeOf L t).kind=9):inP L (nodeOf L t).a=true∧0≤(nodeOf L t).frm∧(nodeOf L t).frm<16∧((nodeOf L t).to=1 - (nodeOf L t).frm→treeOf L t=promT (nodeOf L t).frm (treeOf L (nodeOf L t).a) ((nodeOf L t).kind == 9)):=by
 have h:=(hW.node ht).1
 have hf:=(hW.node ht).2.2.2.1
 have hp:=(hW.node ht).2.2.2.2.1
 have hkk:kidsOf (nodeOf L t)=[(nodeOf L t).a]:=by unfold kidsOf;rcases hk with hk | hk <;> (rw [hk];rfl)
 rw [hkk] at hp
 have hff:0≤(nodeOf L t).frm∧(nodeOf L t).frm<16:=by
  unfold fieldsErr at hf
  rcases hk with hk | hk <;>
  ·rw [hk] at hf
   split at hf
   ·cases hf
   ·rename_i hh;simp [shapeOf,isName] at hh;omega
 refine ⟨(hp _ (by simp)).1,hff.1,hff.2,fun hto=>?_⟩
 rw [treeOf_in hW ht,promT,hkk,← hto]
 unfold plainErr at h
 rcases hk with hk | hk <;>
 ·rw [hk] at h ⊢
  simp [shapeOf,isKind] at h
  simp [h]
theorem nd_kind {k f t' u:Int} {x:ByteArray} {ks:List Tree} (h:treeOf L t=.mk k f t' u x ks):(nodeOf L t).kind=k∧(nodeOf L t).frm=f∧(nodeOf L t).to=t'∧(nodeOf L t).num=u∧(nodeOf L t).text=x:=by
 rw [treeOf_in hW ht] at h
 injection h with h1 h2 h3 h4 h5 h6
 exact ⟨h1,h2,h3,h4,h5⟩
end
theorem wrap_small {n:Int} (h:0≤n∧n<16):IntKind.i64.wrap (1 - n)=1 - n:=IntWalk.i64_in _ (by omega)
section
variable {L:Pool} (hW:Wf L) {t:Int}
include hW
theorem rdTagged_ok (h:(rdTagged L t).2=false):inP L t=true∧inP L (rdTagged L t).1.2=true∧treeOf L t=pairT (dataT (rdTagged L t).1.1) (treeOf L (rdTagged L t).1.2):=by
 unfold rdTagged at h ⊢
 simp only [Bool.or_eq_false_iff] at h
 obtain ⟨ht,hk,e1⟩:=rdNode_ok h.1
 rw [e1] at h ⊢
 simp only at h ⊢
 obtain ⟨ha,hka,e2⟩:=rdNode_ok h.2
 rw [e2]
 obtain ⟨_,h2,h3⟩:=nd4 hW ht hk
 exact ⟨ht,h2,by rw [h3,nd3 hW ha hka]⟩
theorem rdTagged_of (ht:inP L t=true) {g:ByteArray} {y:Tree} (h:treeOf L t=pairT (dataT g) y):∃n,rdTagged L t=((g,n),false)∧inP L n=true∧treeOf L n=y:=by
 have hk:=(nd_kind hW ht (h.trans rfl)).1
 obtain ⟨h1,h2,h3⟩:=nd4 hW ht hk
 rw [h] at h3
 have e1:dataT g=treeOf L (nodeOf L t).a:=by simpa [pairT] using (Tree.mk.inj h3).2.2.2.2.2 |> fun e=>(List.cons.inj e).1
 have e2:y=treeOf L (nodeOf L t).b:=by have:=(Tree.mk.inj h3).2.2.2.2.2;exact (List.cons.inj (List.cons.inj this).2).1
 have hka:=nd_kind hW h1 (e1.symm.trans rfl)
 refine ⟨(nodeOf L t).b,?_,h2,e2.symm⟩
 unfold rdTagged
 rw [rdNode_of ht hk]
 simp only
 rw [rdNode_of h1 hka.1]
 simp [hka.2.2.2.2]
theorem rdDeal_ok (h:(rdDeal L t).2=false):inP L t=true∧treeOf L t=dealT (rdDeal L t).1.1 (rdDeal L t).1.2∧(rdDeal L t).1.2.size≤64:=by
 unfold rdDeal at h ⊢
 simp only [Bool.or_eq_false_iff,Bool.not_eq_false',decide_eq_true_eq] at h
 obtain ⟨⟨⟨⟨h1,h2⟩,h3⟩,h4⟩,h5⟩:=h
 obtain ⟨ht,_,e⟩:=rdTagged_ok hW h1
 obtain ⟨hp,hpk,e2⟩:=rdNode_ok h2
 simp only at h3 ⊢
 rw [e2] at h4 h5 ⊢
 simp only at h4 h5 ⊢
 obtain ⟨ha,hak,e4⟩:=rdNode_ok h4
 obtain ⟨hb,hbk,e5⟩:=rdNode_ok h5
 rw [e4,e5]
 refine ⟨ht,?_,nd_text hW hb⟩
 rw [e,h3,(nd4 hW hp hpk).2.2,nd2 hW ha hak,nd3 hW hb hbk]
 rfl
theorem rdDeal_of (ht:inP L t=true) {c:Int} {x:ByteArray} (h:treeOf L t=dealT c x):rdDeal L t=((c,x),false):=by
 obtain ⟨n,e1,hn,e⟩:=rdTagged_of hW ht h
 have hk:=(nd_kind hW hn (e.trans rfl)).1
 obtain ⟨h1,h2,h3⟩:=nd4 hW hn hk
 rw [e] at h3
 have q1:numT c=treeOf L (nodeOf L n).a:=(List.cons.inj (Tree.mk.inj h3).2.2.2.2.2).1
 have q2:dataT x=treeOf L (nodeOf L n).b:=(List.cons.inj (List.cons.inj (Tree.mk.inj h3).2.2.2.2.2).2).1
 have k1:=nd_kind hW h1 (q1.symm.trans rfl)
 have k2:=nd_kind hW h2 (q2.symm.trans rfl)
 unfold rdDeal
 rw [e1]
 simp only
 rw [rdNode_of hn hk]
 simp only
 rw [rdNode_of h1 k1.1,rdNode_of h2 k2.1]
 simp [k1.2.2.2.1,k2.2.2.2.2]
theorem rdNum_of (ht:inP L t=true) {c:Int} (h:treeOf L t=numT c):(rdNode L t 2).1.num=c∧(rdNode L t 2).2=false:=by
 have k:=nd_kind hW ht (h.trans rfl)
 rw [rdNode_of ht k.1]
 exact ⟨k.2.2.2.1,rfl⟩
theorem rdNum_ok (h:(rdNode L t 2).2=false):inP L t=true∧treeOf L t=numT (rdNode L t 2).1.num:=by
 obtain ⟨h1,h2,e⟩:=rdNode_ok h
 rw [e]
 exact ⟨h1,nd2 hW h1 h2⟩
theorem rdPromise_ok (ht:inP L t=true) (h:(rdPromise L t).2=false):(rdPromise L t).1.kind=1∧((rdPromise L t).1.frm=0∨(rdPromise L t).1.frm=1)∧treeOf L t=promT (rdPromise L t).1.frm (dealT (rdPromise L t).1.c (rdPromise L t).1.text) (rdPromise L t).1.fake∧(rdPromise L t).1.text.size≤64:=by
 unfold rdPromise at h ⊢
 simp only at h ⊢
 split at h
 ·cases h
 rename_i hh
 rw [if_neg hh]
 simp only [not_or,not_and,Classical.not_not] at hh
 have hk:(nodeOf L t).kind=8∨(nodeOf L t).kind=9:=by
  by_cases h8:(nodeOf L t).kind=8
  ·exact .inl h8
  ·exact .inr (hh.1 h8)
 obtain ⟨ha,h0,h16,hT⟩:=nd89 hW ht hk
 have hto:=hh.2.2
 rw [wrap_small ⟨h0,h16⟩] at hto
 obtain ⟨_,e,hx⟩:=rdDeal_ok hW h
 simp only
 refine ⟨trivial,by have:=hh.2.1;omega,by rw [hT hto,e],hx⟩
theorem rdPromise_of (ht:inP L t=true) {n c:Int} {x:ByteArray} {g:Bool} (hn:n=0∨n=1) (h:treeOf L t=promT n (dealT c x) g):rdPromise L t=(⟨1,n,c,x,g⟩,false):=by
 have k:=nd_kind hW ht (h.trans rfl)
 have hk:(nodeOf L t).kind=8∨(nodeOf L t).kind=9:=by rw [k.1];cases g <;> simp
 obtain ⟨ha,h0,h16,hT⟩:=nd89 hW ht hk
 have:=hT (by rw [k.2.2.1,k.2.1])
 rw [h,k.2.1] at this
 have q1:dealT c x=treeOf L (nodeOf L t).a:=(List.cons.inj (Tree.mk.inj this).2.2.2.2.2).1
 unfold rdPromise
 simp only
 rw [if_neg,rdDeal_of hW ha q1.symm,k.1,k.2.1]
 ·cases g <;> rfl
 ·simp only [not_or,not_and,Classical.not_not]
  refine ⟨fun h8=>hk.resolve_left h8,by rw [k.2.1];omega,?_⟩
  rw [k.2.2.1,wrap_small ⟨h0,h16⟩,k.2.1]
end
end Go.Sp
end
section
namespace Go.Sp
def IsL (x:Tree) (l:Letter):Prop:=letErr l=0∧∃a b:Bool,(l.kind=4→l.fake=(a || b))∧x=letterT l a b
theorem letErr_inv {k f c:Int} {x:ByteArray} {g:Bool} (h:letErr ⟨k,f,c,x,g⟩=0):(k=1∨k=2∨k=3∨k=4∨k=5∨k=6∨k=7)∧(f=0∨f=1)∧(isSigned k=false→f=0)∧(isTexted k=false→x=⟨#[]⟩)∧(g=true→k=1∨k=4)∧x.size≤64:=by
 unfold letErr at h
 simp only at h
 split at h
 ·cases h
 rename_i hh
 split at h
 ·cases h
 simp only [not_or,not_and,Classical.not_not] at hh
 obtain ⟨h1,h2,h3,h4,h5,h6⟩:=hh
 refine ⟨by omega,?_,h4,h5,?_,by omega⟩
 ·by_cases h0:f=0
  ·exact .inl h0
  ·exact .inr (h3 h0)
 ·intro hg
  by_cases h1:k=1
  ·exact .inl h1
  ·exact .inr (h6 hg h1)
theorem letErr_of {k f c:Int} {x:ByteArray} {g:Bool} (hk:1≤k∧k≤7) (hf:f=0∨f=1) (h1:isSigned k=false→f=0) (h2:isTexted k=false→x=⟨#[]⟩) (h3:g=true→k=1∨k=4) (hx:x.size≤64):letErr ⟨k,f,c,x,g⟩=0:=by
 unfold letErr
 simp only
 rw [if_neg,if_neg (by omega)]
 simp only [not_or,not_and,Classical.not_not]
 refine ⟨by omega,by omega,fun h0=>hf.resolve_left h0,h1,h2,fun hg h1=>(h3 hg).resolve_left h1⟩
section
variable {L:Pool} (hW:Wf L) {t:Int}
include hW
theorem rdResolve_ok {who:Int} (h:(rdResolve L who t).2=false):∃c x a b,(rdResolve L who t).1=⟨4,who,c,x,a || b⟩∧x.size≤64∧treeOf L t=pairT (promT 0 (dealT c x) a) (promT 1 (dealT c x) b):=by
 unfold rdResolve at h ⊢
 simp only [Bool.or_eq_false_iff,Bool.not_eq_false',decide_eq_true_eq,bne_eq_false_iff_eq] at h
 obtain ⟨⟨⟨⟨⟨⟨h1,h2⟩,h3⟩,h4⟩,h5⟩,h6⟩,h7⟩:=h
 obtain ⟨ht,hk,e⟩:=rdNode_ok h1
 simp only
 rw [e] at h2 h3 h4 h5 h6 h7 ⊢
 simp only at h2 h3 h4 h5 h6 h7 ⊢
 obtain ⟨ha,hb,hT⟩:=nd4 hW ht hk
 obtain ⟨_,_,ea,hx⟩:=rdPromise_ok hW ha h2
 obtain ⟨_,_,eb,_⟩:=rdPromise_ok hW hb h3
 refine ⟨_,_,_,_,rfl,hx,?_⟩
 rw [hT,ea,eb,h4,h5,h6,h7]
theorem rdResolve_of (ht:inP L t=true) {who c:Int} {x:ByteArray} {a b:Bool} (h:treeOf L t=pairT (promT 0 (dealT c x) a) (promT 1 (dealT c x) b)):rdResolve L who t=(⟨4,who,c,x,a || b⟩,false):=by
 have hk:=(nd_kind hW ht (h.trans rfl)).1
 obtain ⟨h1,h2,h3⟩:=nd4 hW ht hk
 rw [h] at h3
 have q1:=(List.cons.inj (Tree.mk.inj h3).2.2.2.2.2).1
 have q2:=(List.cons.inj (List.cons.inj (Tree.mk.inj h3).2.2.2.2.2).2).1
 unfold rdResolve
 simp only
 rw [rdNode_of ht hk]
 simp only
 rw [rdPromise_of hW h1 (.inl rfl) q1.symm,rdPromise_of hW h2 (.inr rfl) q2.symm]
 simp
theorem rdSigned_ok {who:Int} (hw:0≤who) (h:(rdSigned L who t).2=false):IsL (signT who (treeOf L t)) (rdSigned L who t).1:=by
 unfold rdSigned at h ⊢
 simp only at h ⊢
 by_cases c1:(rdTagged L t).1.1=wAbort∧who=0
 ·rw [if_pos c1] at h ⊢
  simp only [Bool.or_eq_false_iff] at h
  obtain ⟨ht,hn,e⟩:=rdTagged_ok hW h.1
  show IsL _ ⟨3,0,_,⟨#[]⟩,false⟩
  refine ⟨letErr_of (by omega) (.inl rfl) (fun _=>rfl) (fun _=>rfl) (fun h=>nomatch h) (Nat.zero_le _),false,false,by simp,?_⟩
  rw [e,c1.1,c1.2,(rdNum_ok hW h.2).2];rfl
 rw [if_neg c1] at h ⊢
 by_cases c2:(rdTagged L t).1.1=wAborted∧who=2
 ·rw [if_pos c2] at h ⊢
  simp only [Bool.or_eq_false_iff] at h
  obtain ⟨ht,hn,e⟩:=rdTagged_ok hW h.1
  show IsL _ ⟨5,0,_,⟨#[]⟩,false⟩
  refine ⟨letErr_of (by omega) (.inl rfl) (fun _=>rfl) (fun _=>rfl) (fun h=>nomatch h) (Nat.zero_le _),false,false,by simp,?_⟩
  rw [e,c2.1,c2.2,(rdNum_ok hW h.2).2];rfl
 rw [if_neg c2] at h ⊢
 by_cases c3:(rdTagged L t).1.1=wInstead∧who=2
 ·rw [if_pos c3] at h ⊢
  simp only [Bool.or_eq_false_iff] at h
  obtain ⟨ht,hn,e⟩:=rdTagged_ok hW h.1
  obtain ⟨_,e2,hx⟩:=rdDeal_ok hW h.2
  refine ⟨letErr_of (by omega) (.inl rfl) (fun _=>rfl) (by simp [isTexted]) (by simp) hx,false,false,by simp,?_⟩
  rw [e,c3.1,c3.2,e2];rfl
 rw [if_neg c3] at h ⊢
 by_cases c4:(rdTagged L t).1.1=wDeal∧who≤1
 ·rw [if_pos c4] at h ⊢
  simp only [Bool.or_eq_false_iff] at h
  obtain ⟨_,e2,hx⟩:=rdDeal_ok hW h.2
  refine ⟨letErr_of (by omega) (by omega) (by simp [isSigned]) (by simp [isTexted,isSigned]) (by simp) hx,false,false,by simp,?_⟩
  rw [e2];rfl
 rw [if_neg c4] at h ⊢
 by_cases c5:(rdTagged L t).1.1=wResolve∧who≤1
 ·rw [if_pos c5] at h ⊢
  simp only [Bool.or_eq_false_iff] at h
  obtain ⟨ht,hn,e⟩:=rdTagged_ok hW h.1
  obtain ⟨c,x,a,b,e2,hx,e3⟩:=rdResolve_ok hW h.2
  rw [e2]
  refine ⟨letErr_of (by omega) (by omega) (by simp [isSigned]) (by simp [isTexted,isSigned]) (by simp) hx,a,b,by simp,?_⟩
  rw [e,c5.1,e3]
  cases a <;> cases b <;> rfl
 rw [if_neg c5] at h
 cases h
theorem readQ_ok (ht:inP L t=true) (h:(readQ L t).2=false):IsL (treeOf L t) (readQ L t).1:=by
 unfold readQ at h ⊢
 simp only at h ⊢
 by_cases c1:(nodeOf L t).kind=7
 ·rw [if_pos c1] at h ⊢
  obtain ⟨h1,h2,h3⟩:=nd7 hW ht c1
  rw [h3]
  exact rdSigned_ok hW h2 h
 rw [if_neg c1] at h ⊢
 by_cases c2:(nodeOf L t).kind=8∨(nodeOf L t).kind=9
 ·rw [if_pos c2] at h ⊢
  obtain ⟨h1,h2,h3,h4⟩:=rdPromise_ok hW ht h
  generalize rdPromise L t=r at *
  obtain ⟨⟨k,f,c,x,g⟩,b⟩:=r
  simp only at h1 h2 h3 h4 ⊢
  subst h1
  exact ⟨letErr_of (by omega) h2 (by simp [isSigned]) (by simp [isTexted,isSigned]) (by simp) h4,false,false,by simp,h3⟩
 rw [if_neg c2] at h ⊢
 split at h
 ·cases h
 rename_i c3
 rw [if_neg c3]
 simp only [Bool.or_eq_true,Bool.not_eq_true',decide_eq_false_iff_not,not_or,Classical.not_not,Bool.not_eq_true] at c3
 obtain ⟨_,hn,e⟩:=rdTagged_ok hW c3.1
 show IsL _ ⟨7,0,_,⟨#[]⟩,false⟩
 refine ⟨letErr_of (by omega) (.inl rfl) (fun _=>rfl) (fun _=>rfl) (fun h=>nomatch h) (Nat.zero_le _),false,false,by simp,?_⟩
 rw [e,c3.2,(rdNum_ok hW h).2];rfl
theorem readQ_of (ht:inP L t=true) {l:Letter} (h:IsL (treeOf L t) l):readQ L t=(l,false):=by
 obtain ⟨k,f,c,x,g⟩:=l
 obtain ⟨h1,a,b,h4,hT⟩:=h
 obtain ⟨hk,hf,hs,hx,hg,_⟩:=letErr_inv h1
 have tagged:∀{who:Int} {gg:ByteArray} {y:Tree},treeOf L t=signT who (pairT (dataT gg) y)→(nodeOf L t).kind=7∧(nodeOf L t).frm=who∧inP L (nodeOf L t).a=true∧treeOf L (nodeOf L t).a=pairT (dataT gg) y∧∃n,rdTagged L (nodeOf L t).a=((gg,n),false)∧inP L n=true∧treeOf L n=y:=by
  intro who gg y e
  have k:=nd_kind hW ht (e.trans rfl)
  obtain ⟨q1,_,q3⟩:=nd7 hW ht k.1
  rw [e] at q3
  have q:=(List.cons.inj (Tree.mk.inj q3).2.2.2.2.2).1
  exact ⟨k.1,k.2.1,q1,q.symm,rdTagged_of hW q1 q.symm⟩
 rcases hk with rfl | rfl | rfl | rfl | rfl | rfl | rfl
 ·have e:treeOf L t=promT f (dealT c x) g:=hT
  have k:=nd_kind hW ht (e.trans rfl)
  unfold readQ
  simp only
  rw [if_neg (by rw [k.1];cases g <;> decide),if_pos (by rw [k.1];cases g <;> decide),rdPromise_of hW ht hf e]
 ·have e:treeOf L t=signT f (dealT c x):=hT
  have:g=false:=by cases g with
   | false=>rfl
   | true=>exact absurd (hg rfl) (by omega)
  subst this
  obtain ⟨k,kf,h1,h2,n,e1,hn,e2⟩:=tagged e
  unfold readQ rdSigned
  simp only
  rw [if_pos k,e1,kf]
  simp only
  rw [if_neg (fun q=>absurd q.1 (by decide)),if_neg (fun q=>absurd q.1 (by decide)),if_neg (fun q=>absurd q.1 (by decide)),if_pos ⟨trivial,by omega⟩,rdDeal_of hW h1 h2]
  rfl
 ·obtain rfl:f=0:=hs rfl
  obtain rfl:x=⟨#[]⟩:=hx rfl
  have:g=false:=by cases g with
   | false=>rfl
   | true=>exact absurd (hg rfl) (by omega)
  subst this
  have e:treeOf L t=signT 0 (pairT (dataT wAbort) (numT c)):=hT
  obtain ⟨k,kf,h1,h2,n,e1,hn,e2⟩:=tagged e
  obtain ⟨u1,u2⟩:=rdNum_of hW hn e2
  unfold readQ rdSigned
  simp only
  rw [if_pos k,e1,kf]
  simp only
  rw [if_pos ⟨trivial,trivial⟩,u1,u2]
  rfl
 ·have e:treeOf L t=signT f (pairT (dataT wResolve) (pairT (promT 0 (dealT c x) (g && a)) (promT 1 (dealT c x) (g && b)))):=hT
  obtain ⟨k,kf,h1,h2,n,e1,hn,e2⟩:=tagged e
  have hgg:((g && a) || (g && b))=g:=by
   have:=h4 rfl
   simp only at this
   subst this
   cases a <;> cases b <;> rfl
  unfold readQ rdSigned
  simp only
  rw [if_pos k,e1,kf]
  simp only
  rw [if_neg (fun q=>absurd q.1 (by decide)),if_neg (fun q=>absurd q.1 (by decide)),if_neg (fun q=>absurd q.1 (by decide)),if_neg (fun q=>absurd q.1 (by decide)),if_pos ⟨trivial,by omega⟩,rdResolve_of hW hn e2,hgg]
  rfl
 ·obtain rfl:f=0:=hs rfl
  obtain rfl:x=⟨#[]⟩:=hx rfl
  have:g=false:=by cases g with
   | false=>rfl
   | true=>exact absurd (hg rfl) (by omega)
  subst this
  have e:treeOf L t=signT 2 (pairT (dataT wAborted) (numT c)):=hT
  obtain ⟨k,kf,h1,h2,n,e1,hn,e2⟩:=tagged e
  obtain ⟨u1,u2⟩:=rdNum_of hW hn e2
  unfold readQ rdSigned
  simp only
  rw [if_pos k,e1,kf]
  simp only
  rw [if_neg (fun q=>absurd q.1 (by decide)),if_pos ⟨trivial,trivial⟩,u1,u2]
  rfl
 ·obtain rfl:f=0:=hs rfl
  have:g=false:=by cases g with
   | false=>rfl
   | true=>exact absurd (hg rfl) (by omega)
  subst this
  have e:treeOf L t=signT 2 (pairT (dataT wInstead) (dealT c x)):=hT
  obtain ⟨k,kf,h1,h2,n,e1,hn,e2⟩:=tagged e
  unfold readQ rdSigned
  simp only
  rw [if_pos k,e1,kf]
  simp only
  rw [if_neg (fun q=>absurd q.1 (by decide)),if_neg (fun q=>absurd q.1 (by decide)),if_pos ⟨trivial,trivial⟩,rdDeal_of hW hn e2]
  rfl
 ·obtain rfl:f=0:=hs rfl
  obtain rfl:x=⟨#[]⟩:=hx rfl
  have:g=false:=by cases g with
   | false=>rfl
   | true=>exact absurd (hg rfl) (by omega)
  subst this
  have e:treeOf L t=pairT (dataT wFull) (numT c):=hT
  have k:=nd_kind hW ht (e.trans rfl)
  obtain ⟨n,e1,hn,e2⟩:=rdTagged_of hW ht e
  obtain ⟨u1,u2⟩:=rdNum_of hW hn e2
  unfold readQ
  simp only
  rw [if_neg (by rw [k.1];decide),if_neg (by rw [k.1];decide),e1]
  simp only
  rw [if_neg (by simp),u1,u2]
end
theorem cnt_letter (l:Letter) (a b:Bool):cnt (letterT l a b)≤40:=by
 unfold letterT
 simp only [promT,dealT,signT,pairT,dataT,numT]
 split
 ·simp [cnt,cntAll]
 split
 ·simp [cnt,cntAll]
 split
 ·simp [cnt,cntAll]
 split
 ·simp [cnt,cntAll]
 split
 ·simp [cnt,cntAll]
 split
 ·simp [cnt,cntAll]
 ·simp [cnt,cntAll]
theorem tryFakes_some {x:Tree} {l:Letter}:∀{n i:Nat} {l':Letter},tryFakes x l n i=some l'→∃f,i≤f∧f<i+n∧fits x l f=true∧l'=withFake l f
 | 0,i,l',h=>by cases h
 | n+1,i,l',h=>by
  unfold tryFakes at h
  split at h
  ·rename_i hf;cases h;exact ⟨i,by omega,by omega,hf,rfl⟩
  ·obtain ⟨f,h1,h2,h3,h4⟩:=tryFakes_some h
   exact ⟨f,by omega,by omega,h3,h4⟩
theorem tryFakes_of {x:Tree} {l:Letter} {f:Nat} (hf:fits x l f=true):∀{n i:Nat},i≤f→f<i+n→tryFakes x l n i≠none
 | 0,i,h1,h2=>by omega
 | n+1,i,h1,h2=>by
  unfold tryFakes
  split
  ·simp
  ·rename_i h
   by_cases e:i=f
   ·subst e;exact absurd hf h
   ·exact tryFakes_of hf (by omega) (by omega)
theorem tryDeals_some {x:Tree} {k:Int}:∀{ps:List (List Nat)} {l:Letter},tryDeals x k ps=some l→∃p∈ps,∃f,f<4∧fits x (cand x k p) f=true∧l=withFake (cand x k p) f
 | [],l,h=>by cases h
 | p :: ps,l,h=>by
  unfold tryDeals at h
  split at h
  ·rename_i l' he
   cases h
   obtain ⟨f,_,h2,h3,h4⟩:=tryFakes_some he
   exact ⟨p,by simp,f,by omega,h3,h4⟩
  ·obtain ⟨p',h1,h2⟩:=tryDeals_some h
   exact ⟨p',by simp [h1],h2⟩
theorem tryDeals_of {x:Tree} {k:Int} {p:List Nat} {f:Nat} (hf:f<4) (h:fits x (cand x k p) f=true):∀{ps:List (List Nat)},p∈ps→tryDeals x k ps≠none
 | [],hp=>by cases hp
 | q :: ps,hp=>by
  unfold tryDeals
  split
  ·simp
  ·rename_i he
   rcases List.mem_cons.1 hp with e | e
   ·subst e;exact absurd he (tryFakes_of h (Nat.zero_le _) (by omega))
   ·exact tryDeals_of hf h e
theorem tryKinds_some {x:Tree}:∀{n:Nat} {i:Int} {l:Letter},tryKinds x n i=some l→∃k p f,i≤k∧k<i+n∧f<4∧fits x (cand x k p) f=true∧l=withFake (cand x k p) f
 | 0,i,l,h=>by cases h
 | n+1,i,l,h=>by
  unfold tryKinds at h
  split at h
  ·rename_i l' he
   cases h
   obtain ⟨p,_,f,h1,h2,h3⟩:=tryDeals_some he
   exact ⟨i,p,f,by omega,by omega,h1,h2,h3⟩
  ·obtain ⟨k,p,f,h1,h2,h3⟩:=tryKinds_some h
   exact ⟨k,p,f,by omega,by omega,h3⟩
theorem tryKinds_of {x:Tree} {k:Int} {p:List Nat} {f:Nat} (hp:p∈deals) (hf:f<4) (h:fits x (cand x k p) f=true):∀{n:Nat} {i:Int},i≤k→k<i+n→tryKinds x n i≠none
 | 0,i,h1,h2=>by omega
 | n+1,i,h1,h2=>by
  unfold tryKinds
  split
  ·simp
  ·rename_i he
   by_cases e:i=k
   ·subst e;exact absurd he (tryDeals_of hf h hp)
   ·exact tryKinds_of hp hf h (by omega) (by omega)
theorem fits_ok {x:Tree} {l:Letter} {f:Nat} (hf:f<4) (h:fits x l f=true):IsL x (withFake l f):=by
 unfold fits at h
 simp only [Bool.and_eq_true,decide_eq_true_eq] at h
 obtain ⟨⟨h1,h2⟩,h3⟩:=h
 refine ⟨h1,f % 2 == 1,f / 2 == 1,fun _=>?_,((same_iff _ _).1 h3).symm⟩
 have:f=0∨f=1∨f=2∨f=3:=by omega
 rcases this with rfl | rfl | rfl | rfl <;> rfl
theorem readTree_ok {x:Tree} {l:Letter} (h:readTree x=(l,true)):IsL x l:=by
 unfold readTree at h
 split at h
 ·rename_i l' he
  cases h
  obtain ⟨k,p,f,_,_,h1,h2,rfl⟩:=tryKinds_some he
  exact fits_ok h1 h2
 ·cases h
theorem readTree_no {x:Tree} (h:(readTree x).2=false):readTree x=(noLetter,false)∧tryKinds x 7 1=none:=by
 unfold readTree at h ⊢
 split at h
 ·cases h
 ·rename_i he;simp only [he];exact ⟨trivial,trivial⟩
theorem fits_of {x:Tree} {l l0:Letter} {f:Nat} (hl:letErr l=0) (h1:withFake l0 f=l) (h2:l0.kind=4∨f≠2) (h3:letterT l (f % 2 == 1) (f / 2 == 1)=x):fits x l0 f=true:=by
 unfold fits
 rw [h1,(same_iff _ _).2 h3]
 simp [hl]
 exact h2
theorem readTree_of {x:Tree} {l:Letter} (h:IsL x l):(readTree x).2=true:=by
 cases hr:(readTree x).2 with
 | true=>rfl
 | false =>
  exfalso
  have hno:=(readTree_no hr).2
  obtain ⟨k,f,c,tx,g⟩:=l
  obtain ⟨h1,a,b,h4,hT⟩:=h
  obtain ⟨hk,hf,hs,hx,hg,_⟩:=letErr_inv h1
  have go:∀(p:List Nat) (fk:Nat),p∈deals→fk<4→withFake (cand x k p) fk=⟨k,f,c,tx,g⟩→(k=4∨fk≠2)→letterT ⟨k,f,c,tx,g⟩ (fk % 2 == 1) (fk / 2 == 1)=x→False:=by
   intro p fk hp hfk e1 e2 e3
   exact tryKinds_of (x:=x) (k:=k) hp hfk (fits_of h1 e1 (by simpa [cand] using e2) e3) (n:=7) (i:=1) (by omega) (by omega) hno
  have nog:k≠1→k≠4→g=false:=by
   intro n1 n4
   cases g with
   | false=>rfl
   | true=>exact absurd (hg rfl) (by omega)
  rcases hk with rfl | rfl | rfl | rfl | rfl | rfl | rfl
  ·subst hT
   cases g with
   | false=>exact go [0] 0 (by simp [deals]) (by omega) rfl (by omega) rfl
   | true=>exact go [0] 1 (by simp [deals]) (by omega) rfl (by omega) rfl
  ·obtain rfl:=nog (by omega) (by omega)
   subst hT
   exact go [0] 0 (by simp [deals]) (by omega) rfl (by omega) rfl
  ·obtain rfl:=nog (by omega) (by omega)
   obtain rfl:f=0:=hs rfl
   obtain rfl:tx=⟨#[]⟩:=hx rfl
   subst hT
   exact go [0] 0 (by simp [deals]) (by omega) rfl (by omega) rfl
  ·have:=h4 rfl
   simp only at this
   subst this
   subst hT
   cases a <;> cases b
   ·exact go [0,1,0,0] 0 (by simp [deals]) (by omega) rfl (by omega) rfl
   ·exact go [0,1,0,0] 2 (by simp [deals]) (by omega) rfl (by omega) rfl
   ·exact go [0,1,0,0] 1 (by simp [deals]) (by omega) rfl (by omega) rfl
   ·exact go [0,1,0,0] 3 (by simp [deals]) (by omega) rfl (by omega) rfl
  ·obtain rfl:=nog (by omega) (by omega)
   obtain rfl:f=0:=hs rfl
   obtain rfl:tx=⟨#[]⟩:=hx rfl
   subst hT
   exact go [0] 0 (by simp [deals]) (by omega) rfl (by omega) rfl
  ·obtain rfl:=nog (by omega) (by omega)
   obtain rfl:f=0:=hs rfl
   subst hT
   exact go [0,1] 0 (by simp [deals]) (by omega) rfl (by omega) rfl
  ·obtain rfl:=nog (by omega) (by omega)
   obtain rfl:f=0:=hs rfl
   obtain rfl:tx=⟨#[]⟩:=hx rfl
   subst hT
   exact go [0] 0 (by simp [deals]) (by omega) rfl (by omega) rfl
theorem read_out {L:Pool} {t:Int} (h:inP L t=false):read L t=(noLetter,false):=by
 have e:nodeOf L t=noNode:=by simp [nodeOf,get_none h]
 have e2:rdTagged L t=((⟨#[]⟩,0),true)∨(rdTagged L t).2=true:=by
  right
  unfold rdTagged
  have:rdNode L t 4=(noNode,true):=by unfold rdNode;rw [if_neg (by rw [h];simp)]
  rw [this]
  rfl
 have e3:(rdTagged L t).2=true:=by rcases e2 with e2 | e2 <;> simp [e2]
 have:(readQ L t).2=true:=by
  unfold readQ
  simp only
  rw [e,if_neg (by decide),if_neg (by decide),if_pos (by simp [e3])]
 unfold read
 rw [if_pos this]
theorem read_ref {L:Pool} (hW:Wf L) (t:Int):read L t=refRead L t:=by
 cases hi:inP L t with
 | false =>
  rw [read_out hi]
  unfold refRead
  rw [if_neg (by simp [hi])]
 | true =>
  have hsz:=size_cnt hW _ t rfl hi
  cases hq:(readQ L t).2 with
  | false =>
   have h:=readQ_ok hW hi hq
   have hle:¬ sizeOf L t>40:=by
    obtain ⟨_,a,b,_,e⟩:=h
    have:=cnt_letter (readQ L t).1 a b
    rw [← e] at this;omega
   have hr:=readTree_of h
   have e:readTree (treeOf L t)=((readTree (treeOf L t)).1,true):=Prod.ext rfl hr
   have:=readQ_of hW hi (readTree_ok e)
   unfold read refRead
   rw [if_neg (by simp [hq]),if_pos ⟨hi,hle⟩,e,this]
  | true =>
   unfold read
   rw [if_pos hq]
   unfold refRead
   split
   ·cases hr:(readTree (treeOf L t)).2 with
    | false=>exact (readTree_no hr).1.symm
    | true =>
     have e:readTree (treeOf L t)=((readTree (treeOf L t)).1,true):=Prod.ext rfl hr
     have:=readQ_of hW hi (readTree_ok e)
     rw [this] at hq;cases hq
   ·rfl
end Go.Sp
end
section
open Go Go.SE
namespace Go.Sp
end Go.Sp
namespace Go.Proofs
attribute [local irreducible] Calls
end Go.Proofs
end
section
open Go Go.SE
namespace Go.Sp
def bindsP (L:Pool) (who t:Int):Bool:=(read L t).2 && (((read L t).1.kind == 2 && (read L t).1.frm == who) || (read L t).1.kind == 6)
def bindF (L:Pool) (who t:Int):Fact:=⟨2,who,(read L t).1.c,(read L t).1.text⟩
theorem bindsP_of {L:Pool} {who t:Int} (hw:who=0∨who=1) (h:bindsP L who t=true):bindF L who t∈ofS L t:=by
 unfold bindsP at h
 unfold bindF ofS ofR
 generalize read L t=r at *
 obtain ⟨⟨k,f,c,x,g⟩,ok⟩:=r
 simp only [Bool.and_eq_true,Bool.or_eq_true,beq_iff_eq] at h ⊢
 obtain ⟨rfl,h⟩:=h
 rw [if_pos rfl]
 rcases h with ⟨rfl,rfl⟩ | rfl
 ·simp [factsS,Letter.fact]
 ·rcases hw with rfl | rfl <;> simp [factsS,Letter.fact]
theorem bindsP_iff {L:Pool} {who t:Int} {y:Fact} (h:y∈ofS L t) (hk:y.kind=2) (hw:y.who=who):bindsP L who t=true∧y=bindF L who t:=by
 unfold ofS ofR at h
 unfold bindsP bindF
 generalize read L t=r at *
 obtain ⟨⟨k,f,c,x,g⟩,ok⟩:=r
 obtain ⟨yk,yw,yc,yx⟩:=y
 simp only at hk hw h ⊢
 subst hk;subst hw
 cases ok with
 | false=>simp at h
 | true =>
  rw [if_pos rfl] at h
  unfold factsS at h
  simp only [Letter.fact] at h
  split at h
  ·split at h <;> simp at h
  ·split at h
   ·rename_i h2;subst h2;simp at h;simp [h]
   ·split at h
    ·simp at h
    ·split at h
     ·split at h <;> simp at h
     ·split at h
      ·simp at h
      ·split at h
       ·rename_i h6;subst h6;simp at h;rcases h with h | h <;> simp [h]
       ·simp at h
theorem LtF.nodup {l:List Fact} (h:l.Pairwise LtF):l.Nodup:=h.imp fun h e=>by subst e;exact h.irrefl _
theorem bonds_few {L : Pool} {G y : List Int} {fa : List Fact} {who : Int} (hw : who = 0 ∨ who = 1) (hA : AllOk L G fa) (hy : ∀ t, Seen L G t → t ∈ y) (hy' : ∀ t ∈ y, Seen L G t) :
  (bonds12 who fa).length≤(y.filter (bindsP L who)).length∧((y.filter (bindsP L who)).length=0↔(bonds12 who fa).length=0):=by
 have hnd:(bonds12 who fa).Nodup:=(LtF.nodup hA.1).filter _
 have hsub:∀x∈bonds12 who fa,x∈(y.filter (bindsP L who)).map (bindF L who):=fun x hx=>by
  unfold bonds12 at hx
  obtain ⟨hx,hk⟩:=List.mem_filter.1 hx
  rw [Bool.and_eq_true,beq_iff_eq,beq_iff_eq] at hk
  obtain ⟨t,ht,hx⟩:=(hA.2 x).1 hx
  obtain ⟨h1,h2⟩:=bindsP_iff hx hk.1 hk.2
  exact List.mem_map.2 ⟨t,List.mem_filter.2 ⟨hy t ht,h1⟩,h2.symm⟩
 have hle:=nodup_few hnd hsub
 rw [List.length_map] at hle
 refine ⟨hle,fun h=>by omega,fun h=>?_⟩
 have hb:bonds12 who fa=[]:=List.length_eq_zero_iff.1 h
 rw [List.length_eq_zero_iff,List.filter_eq_nil_iff]
 intro t ht hp
 have:bindF L who t∈bonds12 who fa:=by
  unfold bonds12
  exact List.mem_filter.2 ⟨(hA.2 _).2 ⟨t,hy' t ht,bindsP_of hw hp⟩,by simp [bindF]⟩
 rw [hb] at this;cases this
end Go.Sp
namespace Go.Proofs
attribute [local irreducible] Calls
theorem c_law12_EvidenceBinds {S S1 : NP} (ts : List Sp.Tree) (l : List Int) (s sl : Sl) (w0 : World) (hT : TreeAt S w0 s (.mk 0 0 0 0 ⟨#[]⟩ ts)) (hS : ∀ b, S b → b < w0.heap.size)
  (hl:Lst S1 w0 1 sl (tmr l)) :
  Calls Tryz.prog 8 #[s.v,sl.v] w0 (fun e w'=>∃r:Bool,e=.returned (.bool r)∧(r=true∧Pure w0 w')):=by
 refine w_K _ _ w0 (fun r w'=>r=true∧Pure w0 w') ?_
 unfold m_K
 have ll:sl.len=l.length:=by rw [hl.len,tmr_len]
 refine (c_law12_wide ts s w0 hT hS).mono ?_
 rintro _ w17 ⟨z,rfl,hz,E17⟩
 refine ⟨z,rfl,E17.keptP,fun H w19 hs19=>?_⟩
 have E19:=E17.hst hs19
 unfold m_K_j1
 refine ⟨fun h=>?_,fun h=>?_⟩
 ·refine (c_live12 w19).mono ?_
  rintro _ w3 ⟨_,rfl,rfl,E3⟩
  exact ⟨_,rfl,E3.keptP,rfl,E19.trans E3⟩
 rw [Bool.or_eq_false_iff] at h
 obtain ⟨h1,h2⟩:=h
 obtain ⟨hn,hc⟩:=hz h1
 have h2:l.length≤20:=by have:=of_decide_eq_false h2;omega
 refine (c_law12_pools ts s w19 (hT.pure E19) (fun b hb=>by have:=hS b hb;have:=E19.size;omega) hn).mono ?_
 rintro _ w2 ⟨_,_,_,rfl,p,q,F1,F2,rfl,rfl,rfl,P2⟩
 refine ⟨_,_,_,rfl,P2.pure.keptP,Br.f rfl fun p1 w3 h3=>?_⟩
 obtain ⟨hW,_⟩:=Sp.poolOf_ok ts
 generalize Sp.poolOf ts=L at *
 have G2:=E19.trans P2.pure
 have hH:∀b,H b→b<w19.heap.size:=hs19.lt
 have z2:=P2.pure.size
 have z19:=E19.size
 have P:Pl2 w0 H w2 p q L L F1 F2:=⟨G2,P2.pool,P2.ref,fun b hb=>⟨by have:=(P2.o1 b hb).1;omega,fun h=>by have:=(P2.o1 b hb).1;have:=hH b h;omega,(P2.o1 b hb).2.2⟩,fun b hb=>⟨by have:=(P2.o2 b hb).1;omega,fun h=>by have:=(P2.o2 b hb).1;have:=hH b h;omega⟩⟩
 have hp1:w2.heap.size≤p1.block:=New.own (Ext.refl w2) h3
 have K0:K8At w3 p1 q [] (·=p1.block):=⟨Sl.nil,⟨Box.of_new h3,Rws.nil _ _ _,fun h=>by obtain ⟨a,h,_⟩:=h;cases h⟩,fun b=>⟨fun h=>.inl h,fun h=>h.elim id (fun h=>by obtain ⟨a,h,_⟩:=h;cases h)⟩⟩
 refine ⟨fun i H' w'=>∃j:Nat,i=j∧j≤l.length∧H=H'∧Pure w2 w'∧∃FK,K8At w' p1 q (Sp.gives L (l.take j)) FK∧∀b,FK b→w2.heap.size≤b,fun i _=>((l.length:Int) - i).toNat,⟨0,rfl,Nat.zero_le _,rfl,Ext.new h3,_,K0,fun b hb=>by rw [hb];exact hp1⟩,?_⟩
 rintro _ _ wm hl2 ⟨i,rfl,hi,rfl,Em,FK,hK,hFK⟩
 unfold m_K_l2
 refine ⟨fun h=>?_,fun h=>?_⟩
 ·have hlt:=lt_of_dec ll h
  obtain ⟨a,hat,_,hv⟩:=tm_nth (hl.pure (G2.trans Em)) hlt
  have:=Sp.gives_len L (l.take i)
  have:(l.take i).length≤20:=by rw [List.length_take];omega
  refine ⟨a,hat,_,hv,(c_r08_Add p1 q l[i] wm hK (P2.ref.pure Em) (by omega)).mono ?_⟩
  rintro _ w12 ⟨r9,rfl,F',hK',X,hF'⟩
  refine ⟨r9,rfl,X.kept (fun b hb hf=>by have:=hFK b hf;have:=hH b hb;omega),?_⟩
  rw [wrap_succ hlt (by omega)]
  have e:Sp.gives L (l.take (i+1))=Sp.giveT L (Sp.gives L (l.take i)) l[i]:=by
   unfold Sp.gives;rw [List.take_succ_eq_append_getElem hlt,List.foldl_append];rfl
  have:=Em.size
  exact ⟨⟨i+1,rfl,hlt,rfl,Em.trans' X (fun k hk hf=>by have:=hFK k hf;omega),F',by rw [e];exact hK',fun b hb=>(hF' b hb).elim (hFK b) (fun h=>by omega)⟩,lt_dec hlt⟩
 have hge:=eq_of_dec ll hi h
 subst hge
 rw [List.take_length] at hK
 have hGi:∀g∈Sp.gives L l,Sp.inP L g=true:=fun g hg=>(Sp.mem_gives.1 hg).2
 have:=Sp.gives_len L l
 refine (c_r08_Seen p1 q wm hK (P2.ref.pure Em) hW hGi (by omega)).mono ?_
 rintro _ w5 ⟨r6,rfl,y,h6,hy,hys⟩
 have F5:=Em.trans h6.pure
 have hyl:y.length≤L.length:=Sp.pool_few (hys.imp (fun h=>by omega)) (fun t ht=>((hy t).1 ht).1)
 have hL:=hW.ok.few
 refine ⟨r6,rfl,h6.kept,fun p2 w6 h6'=>?_⟩
 have F6:=F5.trans (Ext.new (F:=None) h6')
 have hp2:w2.heap.size≤p2.block:=New.own F5 h6'
 have R4:Rws w6 78 1 ⟨some p2,0,0⟩ (tmr []):=Rws.lit (rs:=[]) h6' rfl (by simp) (by simp)
 have hb4:∀b,(Sl.mk (some p2) 0 0).blk b→w2.heap.size≤b∧w5.heap.size≤b:=fun b h=>by obtain ⟨a,ha,rfl⟩:=h;cases ha;exact ⟨hp2,New.own (Ext.refl w5) h6'⟩
 obtain ⟨s1,w7,hrun7,hR7,hE7,hb7⟩:=R4.appendL (P:=Tryz.prog) slT_tm (ty:=46) (hl.pure (G2.trans F6)) (tmr_sz _) (tmr_one _) (by rw [tmr_len,tmr_len];simp;omega) (by rw [tmr_len,tmr_len];simp [maxLen];omega)
 have F57:Pure w5 w7:=(Ext.new (F:=None) h6').trans' hE7 (fun i hi h=>by have:=(hb4 i h).2;omega)
 have F7:=F5.trans F57
 have hR7:Rws w7 78 1 s1 (tmr l):=hR7
 refine ⟨s1,w7,hrun7,hE7.kept (fun b hb h=>by have:=(hb4 b h).1;have:=hH b hb;omega),(c_ev_All p s1 l w7 (P2.pool.pure F7) hW hR7.lst (by omega)).mono ?_⟩
 rintro _ w8 ⟨r7,rfl,fa,h7,hA,nA⟩
 have F58:=F57.trans h7.pure
 have F8:=F5.trans F58
 have z8:=Em.size
 have P8:=P.pureE F8
 have O6:Own H w8 78 1 r6 (tmr y):=⟨h6.rows.pure F58,fun b hb hh=>by have:=h6.own b hb;have:=hH b hh;omega⟩
 have O7:Own H w8 75 4 r7 (fa.map frow):=⟨h7.rows,fun b hb hh=>by have:=h7.own b hb;have:=F7.size;have:=hH b hh;omega⟩
 have l6:r6.len=y.length:=by rw [O6.len,tmr_len]
 have hseen:∀t,Sp.Seen L (Sp.gives L l) t→t∈y:=fun t h=>(hy t).2 ⟨h.inP' hW hGi,h⟩
 refine ⟨r7,rfl,h7.kept,fun who H' w'=>∃k:Nat,who=k∧k≤2∧Pl2 w0 H' w' p q L L F1 F2∧Own H' w' 78 1 r6 (tmr y)∧Own H' w' 75 4 r7 (fa.map frow),fun who _=>(2 - who).toNat,⟨0,rfl,by omega,P8,O6,O7⟩,?_⟩
 rintro _ H2 wl hlH ⟨k,rfl,hk,Pk,Ok6,Ok7⟩
 unfold m_K_l3
 refine ⟨fun hk2=>?_,fun hk2=>?_⟩
 ·have hk2:=of_decide_eq_true hk2
  have hwho:(k:Int)=0∨(k:Int)=1:=by omega
  refine (c_ev_Bonds r7 k fa wl Ok7.rows.lst (fun b hb=>Ok7.rows.lt hb) (by omega)).mono ?_
  rintro _ w9 ⟨r8,rfl,h8⟩
  have hbl:(Sp.bonds12 k fa).length≤fa.length:=List.length_filter_le _ _
  have O8:Own H2 w9 75 4 r8 ((Sp.bonds12 k fa).map frow):=⟨h8.rows,fun b hb hh=>by have:=h8.own b hb;have:=hlH.lt b hh;omega⟩
  have l8:r8.len=(Sp.bonds12 k fa).length:=by rw [O8.len];simp
  obtain ⟨few1,few2⟩:=Sp.bonds_few hwho hA hseen (fun t ht=>((hy t).1 ht).2)
  refine ⟨r8,rfl,h8.kept,fun n i H' w'=>∃j:Nat,i=j∧j≤y.length∧n=(((y.take j).filter (Sp.bindsP L k)).length:Nat)∧Pl2 w0 H' w' p q L L F1 F2∧Own H' w' 78 1 r6 (tmr y)∧Own H' w' 75 4 r7 (fa.map frow)∧Own H' w' 75 4 r8 ((Sp.bonds12 k fa).map frow),fun _ i _=>((y.length:Int) - i).toNat,⟨0,rfl,Nat.zero_le _,by simp,Pk.pureE h8.pure,Ok6.pure h8.pure,Ok7.pure h8.pure,O8⟩,?_⟩
  rintro _ _ H3 w3' hl3 ⟨j,rfl,hj,rfl,Pj,Oj6,Oj7,Oj8⟩
  unfold m_K_l4
  refine ⟨fun h=>?_,fun h=>?_⟩
  ·have hlt:=lt_of_dec l6 h
   obtain ⟨a,hat,_,hv⟩:=tm_nth Oj6.rows.lst hlt
   have hcl:((y.take j).filter (Sp.bindsP L k)).length≤j:=Nat.le_trans (List.length_filter_le _ _) (by rw [List.length_take];omega)
   have htk:(y.take (j+1)).filter (Sp.bindsP L k)=(y.take j).filter (Sp.bindsP L k)++(if Sp.bindsP L k y[j]=true then [y[j]] else []):=by
    rw [List.take_succ_eq_append_getElem hlt,List.filter_append];simp only [List.filter_cons,List.filter_nil]
   refine ⟨a,hat,_,hv,(c_ref11_Read q hW y[j] w3' F2 Pj.ref).mono ?_⟩
   rintro _ w10 ⟨kd,f,c,x,fk,ok,rfl,hrd,E10⟩
   rw [← Sp.read_ref hW] at hrd
   have eb:Sp.bindsP L k y[j]=(ok && ((kd == 2 && f == (k:Int)) || kd == 6)):=by unfold Sp.bindsP;rw [← hrd]
   have ef:Sp.bindF L k y[j]=⟨2,k,c,x⟩:=by unfold Sp.bindF;rw [← hrd]
   refine ⟨_,_,_,_,_,_,rfl,E10.keptP,fun hb H4 w15 hs15=>?_,fun hb H4 w15 hs15=>?_⟩
   ·rw [← eb] at hb
    have hin:(⟨2,(k:Int),c,x⟩:Sp.Fact)∈Sp.bonds12 k fa:=by
     rw [← ef];unfold Sp.bonds12
     exact List.mem_filter.2 ⟨(hA.2 _).2 ⟨y[j],((hy _).1 (List.getElem_mem hlt)).2,Sp.bindsP_of hwho hb⟩,by simp [Sp.bindF]⟩
    have O15:=(Oj8.pure E10).hst hs15
    refine (c_r12_Has r8 (Sp.bonds12 k fa) ⟨2,k,c,x⟩ w15 O15.rows.lst (by omega)).mono ?_
    rintro _ w18 ⟨_,rfl,rfl,E18⟩
    refine ⟨_,rfl,E18.keptP,Br.f (by rw [decide_eq_true hin];rfl) ?_⟩
    unfold m_K_j5
    rw [if_pos hb] at htk
    rw [wrap_succ (show ((y.take j).filter (Sp.bindsP L k)).length<100000 by omega) (by omega),wrap_succ hlt (by omega)]
    exact ⟨⟨j+1,rfl,hlt,by rw [htk];simp,((Pj.pureE E10).hst hs15).pureE E18,((Oj6.pure E10).hst hs15).pure E18,((Oj7.pure E10).hst hs15).pure E18,O15.pure E18⟩,lt_dec hlt⟩
   ·rw [← eb] at hb
    rw [if_neg (by simp [hb]),List.append_nil] at htk
    unfold m_K_j5
    rw [wrap_succ hlt (by omega)]
    exact ⟨⟨j+1,rfl,hlt,by rw [htk],(Pj.pureE E10).hst hs15,(Oj6.pure E10).hst hs15,(Oj7.pure E10).hst hs15,(Oj8.pure E10).hst hs15⟩,lt_dec hlt⟩
  have hge:=eq_of_dec l6 hj h
  subst hge
  rw [List.take_length]
  generalize ((y.filter (Sp.bindsP L k)).length)=c at *
  generalize hbb:(Sp.bonds12 k fa).length=n8 at *
  rintro _ rfl
  refine Br.f ?_ fun H7 w19' hs7=>?_
  ·rw [l8,Bool.or_eq_false_iff]
   refine ⟨?_,by rw [decide_eq_false_iff_not];omega⟩
   by_cases hc0:c=0
   ·have:n8=0:=few2.1 hc0
    subst hc0;subst this;rfl
   ·have:n8≠0:=fun h=>hc0 (few2.2 h)
    have e1:((c:Int) == 0)=false:=by rw [beq_eq_false_iff_ne];omega
    have e2:((n8:Int) == 0)=false:=by rw [beq_eq_false_iff_ne];omega
    rw [e1,e2];rfl
  ·rw [wrap_succ (show k<2 by omega) (by omega)]
   exact ⟨⟨k+1,rfl,by omega,Pj.hst hs7,Oj6.hst hs7,Oj7.hst hs7⟩,by show (2 - ((k+1:Nat):Int)).toNat<(2 - (k:Int)).toNat;omega⟩
 refine (c_live12 wl).mono ?_
 rintro _ w20 ⟨_,rfl,rfl,E20⟩
 exact ⟨_,rfl,E20.keptP,rfl,Pk.pure.trans E20⟩
end Go.Proofs
end
section
namespace Go.SE
open Go.ChangeShapes Go.WideShapes Go.ChangeAt Go.RowKit
section
variable {H:Type} {enc:TypeId×Value→H} {P:Program}
theorem below_trodAll (hl : laidOutB P = true) {W W' : World} (hb : Below W.heap.size W W') : ∀ (ts : List TypeId) (vs : List Value) (ds : List (DataW H)) (ps : List MemPlace), (ts.all fun t => P.readableRec t && decide (t < P.types.size)) = true →
  DataW.TrodAll enc P W 0 (fun _=>true) true ts vs ds ps→(∀x∈ps,x.block<W.heap.size)→DataW.TrodAll enc P W' 0 (fun b=>decide (b<W.heap.size)) true ts vs ds ps
 | [],_,_,_,_,h,_=>by
  obtain ⟨rfl,rfl,rfl⟩:=trodAll_nil h
  exact h
 | t :: ts,_,_,_,hr,h,hlt=>by
  obtain ⟨v,vs1,d,ds1,a,b,rfl,rfl,rfl,h1,h2⟩:=trodAll_cons h
  simp only [List.all_cons,Bool.and_eq_true,decide_eq_true_eq] at hr
  exact ⟨a,b,Below.trod hl hr.1.1 hr.1.2 h1 hb (fun x hx=>hlt x (by simp [hx])),below_trodAll hl hb ts vs1 ds1 b (by simpa using hr.2) h2 (fun x hx=>hlt x (by simp [hx])),rfl⟩
theorem law_post {f : Func} {s : ChangeSpec} {W W' : World} {args : Array Value} {ds gs : List (DataW H)} {before : List MemPlace} {t : TypeId} (hl : laidOutB P = true)
  (hv:s.vars=[]) (hf:∀ds:List (DataW H),ds.length=f.params.size→s.fn H ds={ results:=[.lit (.bool true)],args:=ds }) (hrt:f.resultTypes=#[t]) (ht:P.underlying t=some .bool)
  (hr:(f.params.toList.all fun t=>P.readableRec t && decide (t<P.types.size))=true)
  (hW:DataW.Whole enc P f.params.toList s.vars false W args.toList ds gs before) (E:Pure W W') :
  s.post enc P f false true false false W args (.bool true) W':=by
 have hW':=hW
 obtain ⟨p,q,hA,hV,rfl,hfz,hnd⟩:=hW
 rw [hv] at hV
 obtain ⟨rfl,rfl⟩:=trodVars_none hV
 have hlen:ds.length=f.params.size:=by
  have:∀(ts:List TypeId) (vs:List Value) (ds:List (DataW H)) (ps:List MemPlace),DataW.TrodAll enc P W 0 (fun _=>true) true ts vs ds ps→ds.length=ts.length:=by
   intro ts
   induction ts with
   | nil=>intro vs ds ps h;obtain ⟨_,rfl,_⟩:=trodAll_nil h;rfl
   | cons t ts ih =>
    intro vs ds ps h
    obtain ⟨v,vs1,d,ds1,a,b,_,rfl,_,_,h2⟩:=trodAll_cons h
    simp [ih _ _ _ h2]
  simpa using this _ _ _ _ hA
 have hfn:=hf ds hlen
 have hfn':s.fn H (ds++[])={ results:=[.lit (.bool true)],args:=ds }:=by rw [List.append_nil];exact hfn
 have hlt:∀x∈p,x.block<W.heap.size:=fun x hx=>by simpa using hW'.lt x (by simp [hx])
 have bel:=E.below
 refine ⟨ds,[],p++[],[],p,[],hW',?_,?_,?_,bel.frame _,fun h=>by cases h⟩
 ·rw [hfn',hrt];exact trodAll_mk1 (shut_bool ht _)
 ·rw [hfn'];exact below_trodAll hl bel _ _ _ _ hr hA hlt
 ·rw [hfn',hv];exact hV
theorem law_lifted {C : Checked} {os : Os} {f : FuncId} {fn : Func} {s : ChangeSpec} {t : TypeId} (hl : laidOutB C.prog = true)
  (hv:s.vars=[]) (hf:∀ds:List (DataW H),ds.length=fn.params.size→s.fn H ds={ results:=[.lit (.bool true)],args:=ds }) (hrt:fn.resultTypes=#[t]) (ht:C.prog.underlying t=some .bool)
  (hr:(fn.params.toList.all fun t=>C.prog.readableRec t && decide (t<C.prog.types.size))=true)
  (own:ownKnob C.prog.godebug=none) (started:os.Started) (noInit:C.prog.inits.idxOf? f=none) (hfn:C.prog.funcs[f]?=some fn)
  (witness:∃(w:World) (tape:Tape) (i:Input),w.os=os∧(w.forCall tape i).Shaped C.prog∧i.vars=[]∧Input.okWide C.prog (w.forCall tape i) .any w.heap.size f i ∧
   s.pre6 enc C.prog fn [] false (w.forCall tape i).memory i.args∧({}:Assume).holds C.prog (lone (Frame.enter C.prog f i.args .normal) [] (w.forCall tape i)))
  (contract:∀(W:World) (base:Nat) (args:Array Value) (ds:List (DataW H)) (p:List MemPlace),
   (∀(j:Nat) t v,fn.params[j]?=some t→args[j]?=some v→Value.okWide C.prog W .any base t v) →
   DataW.TrodAll enc C.prog W 0 (fun _=>true) true fn.params.toList args.toList ds p→(∀x∈p,x.block<W.heap.size) →
   Calls C.prog f args W (fun e W'=>∃r:Bool,e=.returned (.bool r)∧(r=true∧Pure W W'))) :
  ReturnsInHanded {} C os f .any (s.pre6 enc C.prog fn [] false) (s.post enc C.prog fn false true false false):=by
 refine returnsInHanded_of_change own started noInit hfn witness ?_
 intro W base args ds gs before hval hW _ _
 have hW':=hW
 obtain ⟨p,q,hA,hV,rfl,hfz,hnd⟩:=hW
 refine (contract W base args ds p hval hA (fun x hx=>by simpa using hW'.lt x (by simp [hx]))).mono fun e W' ⟨r,he,h1,h2⟩=>?_
 subst h1
 exact ⟨_,he,law_post hl hv hf hrt ht hr hW' h2⟩
end
end Go.SE
namespace Go.SE
open Go.ChangeShapes Go.WideShapes Go.ChangeAt Go.RowKit
section
variable {P:Program} {W:World} {r:Reach} {b0:Nat} {t:TypeId} {v:Value}
theorem okWide_sl {e:TypeId} (ht:P.underlying t=some (.slice e)) (h:Value.okWide P W r b0 t v):∃a n c,v=.slice a n c:=by
 unfold Value.okWide at h
 rw [ht] at h
 simp only at h
 unfold Cell.okWide at h
 rw [ht] at h
 cases v <;> simp [Cell.ok,ht] at h
 exact ⟨_,_,_,rfl⟩
end
end Go.SE
end
section
open Go Go.SE
namespace Go.Proofs
theorem mapM_facts {α β:Type} {f:α→Option β}:∀{l:List α} {r:List β},l.mapM f=some r→r.length=l.length∧∀(i:Nat) (a:α),l[i]?=some a→∃b,f a=some b∧r[i]?=some b
 | [],r,h=>by
  have:r=[]:=by simpa using h.symm
  subst this
  exact ⟨rfl,fun i a h=>by simp at h⟩
 | x :: xs,r,h=>by
  rw [List.mapM_cons] at h
  cases hx:f x with
  | none=>simp [hx] at h
  | some y =>
   cases hxs:xs.mapM f with
   | none=>simp [hx,hxs] at h
   | some ys =>
    have:r=y :: ys:=by simpa [hx,hxs] using h.symm
    subst this
    obtain ⟨h1,h2⟩:=mapM_facts hxs
    refine ⟨by simp [h1],fun i a ha=>?_⟩
    cases i with
    | zero=>cases ha;exact ⟨y,hx,rfl⟩
    | succ i=>exact h2 i a (by simpa using ha)
theorem cells_row {w:World} {base:Nat} {a:Addr} {n:Nat} {cs:List Value} (h:w.cells? base a n=some cs):cs.length=n∧Row w a cs:=by
 obtain ⟨_,h1,h2⟩:=World.cells?_some h
 exact ⟨h1,fun j hj=>h2 j (by omega)⟩
section
variable {H:Type} {enc:TypeId×Value→H} {P:Program} {W:World} {base:Nat} {sp:Nat→Bool} {held:Bool}
theorem trod_int1 {t:TypeId} {k:IntKind} (ht:P.underlying t=some (.int k)) {n:Nat} {c:Value} {x:DataW H×List MemPlace} (h:DataW.trod enc P W base sp held n t [c]=some x):∃m,c=.int k m:=by
 cases n with
 | zero=>cases h
 | succ n =>
  rw [DataW.trod_step] at h
  unfold DataW.trodStep at h
  rw [ht] at h
  cases c <;> simp at h
  obtain ⟨⟨rfl,_⟩,_⟩:=h
  exact ⟨_,rfl⟩
theorem trod_u64 {t:TypeId} (ht:P.underlying t=some (.int .u64)) {n:Nat} {c:Value} {x:DataW H×List MemPlace} (h:DataW.trod enc P W base sp held n t [c]=some x):∃m,c=.int .u64 m∧Sp.isNum m:=by
 cases n with
 | zero=>cases h
 | succ n =>
  rw [DataW.trod_step] at h
  unfold DataW.trodStep at h
  rw [ht] at h
  cases c with
  | int k z =>
   simp only at h
   split at h
   ·rename_i hw
    obtain ⟨rfl,hw⟩:=hw
    have h1:IntKind.u64.min=0:=by rfl
    have h2:IntKind.u64.max=18446744073709551615:=by rfl
    simp only [Lit.wf,Bool.and_eq_true,decide_eq_true_eq,h1,h2] at hw
    exact ⟨z,rfl,by omega,by omega⟩
   ·cases h
  | _=>simp at h
theorem trod_str1 {t:TypeId} (ht:P.underlying t=some .string) {n:Nat} {c:Value} {x:DataW H×List MemPlace} (h:DataW.trod enc P W base sp held n t [c]=some x):∃m,c=.string m:=by
 cases n with
 | zero=>cases h
 | succ n =>
  rw [DataW.trod_step] at h
  unfold DataW.trodStep at h
  rw [ht] at h
  cases c <;> simp at h
  exact ⟨_,rfl⟩
theorem trod_slice1 {t e : TypeId} (ht : P.underlying t = some (.slice e)) {n : Nat} {c : Value} {x : DataW H × List MemPlace} (h : DataW.trod enc P W base sp held (n + 1) t [c] = some x) :
  c=.slice none 0 0∨∃a len cap,c=.slice (some a) len cap∧len≤cap∧cap≤maxLen∧∀i,i<len→∃cs y,W.cells? base (a.add (i*P.cellsOf e)) (P.cellsOf e)=some cs∧DataW.trod enc P W base sp held n e cs=some y:=by
 rw [DataW.trod_step] at h
 unfold DataW.trodStep at h
 rw [ht] at h
 cases c with
 | slice a len cap =>
  cases a with
  | none =>
   cases len with
   | zero=>cases cap with
    | zero=>exact .inl rfl
    | succ c=>simp at h
   | succ l=>simp at h
  | some a =>
   right
   simp only at h
   split at h
   ·rename_i hc
    refine ⟨a,len,cap,rfl,hc.2.1,hc.2.2,fun i hi=>?_⟩
    cases hm:(List.range len).mapM fun i=>(W.cells? base (a.add (i*P.cellsOf e)) (P.cellsOf e)).bind (DataW.trod enc P W base sp held n e) with
    | none=>rw [hm] at h;cases h
    | some r =>
     obtain ⟨b,hb,_⟩:=(mapM_facts hm).2 i i (by simp [hi])
     obtain ⟨cs,h1,h2⟩:=Option.bind_eq_some_iff.1 hb
     exact ⟨cs,b,h1,h2⟩
   ·cases h
 | _=>simp at h
structure TreeTypes (P:Program) (tS tT:TypeId):Prop where
 ex:∃ti tu ts:TypeId,∃f0 f1 f2 f3 f4 f5:Field,P.underlying tS=some (.slice tT)∧P.underlying tT=some (.struct #[f0,f1,f2,f3,f4,f5])∧P.cellsOf tT=6 ∧
  (f0.type=ti∧f1.type=ti∧f2.type=ti∧f3.type=tu∧f4.type=ts∧f5.type=tS)∧(f0.offset=0∧f1.offset=1∧f2.offset=2∧f3.offset=3∧f4.offset=4∧f5.offset=5) ∧
  P.underlying ti=some (.int .i64)∧P.underlying tu=some (.int .u64)∧P.underlying ts=some .string∧P.cellsOf ti=1∧P.cellsOf tu=1∧P.cellsOf ts=1∧P.cellsOf tS=1
theorem trod_tree {tS tT : TypeId} (hTT : TreeTypes P tS tT) : ∀ n : Nat,
  (∀(c:Value) (x:DataW H×List MemPlace),DataW.trod enc P W base sp held n tS [c]=some x→∃s:Sl,∃ts:List Sp.Tree,c=s.v∧(∀(k f t u:Int) (tx:ByteArray),TreeAt (fun _=>True) W s (.mk k f t u tx ts))∧∀i (hi:i<ts.length),Sp.NumT ts[i]) ∧
  (∀(cs:List Value) (x:DataW H×List MemPlace),DataW.trod enc P W base sp held n tT cs=some x→∃t s,cs=trow t s∧TreeAt (fun _=>True) W s t∧Sp.NumT t):=by
 obtain ⟨ti,tu,tx,f0,f1,f2,f3,f4,f5,hS,hT,hc6,⟨e0,e1,e2,e3,e4,e5⟩,⟨o0,o1,o2,o3,o4,o5⟩,ui,uu,us,ci,cu,cs1,cS⟩:=hTT.ex
 intro n
 induction n with
 | zero=>exact ⟨fun c x h=>(by cases h),fun cs x h=>(by cases h)⟩
 | succ n ih =>
  refine ⟨fun c x h=>?_,fun cs x h=>?_⟩
  ·rcases trod_slice1 hS h with rfl | ⟨a,len,cap,rfl,hle,hcm,hel⟩
   ·exact ⟨Sl.nil,[],rfl,fun k f t u tx=>.mk k f t u tx [] Sl.nil (fun _=>Sl.nil) rfl (by simp) (fun i h=>by simp at h) (fun i h=>by simp at h),fun i hi=>absurd hi (Nat.not_lt_zero i)⟩
   ·rw [hc6] at hel
    have hex:∀i,∃q:Sp.Tree×Sl,i<len→Row W (a.add (i*6)) (trow q.1 q.2)∧TreeAt (fun _=>True) W q.2 q.1∧Sp.NumT q.1:=by
     intro i
     by_cases hi:i<len
     ·obtain ⟨cs,y,h1,h2⟩:=hel i hi
      obtain ⟨tr,s,e,hTr⟩:=ih.2 cs y h2
      exact ⟨(tr,s),fun _=>⟨e▸(cells_row h1).2,hTr⟩⟩
     ·exact ⟨(Sp.Tree.mk 0 0 0 0 ⟨#[]⟩ [],Sl.nil),fun h=>absurd h hi⟩
    obtain ⟨q,hq⟩:=Classical.axiomOfChoice hex
    refine ⟨⟨some a,len,cap⟩,(List.range len).map fun i=>(q i).1,rfl,?_,fun i hi=>by rw [List.getElem_map,List.getElem_range];exact (hq i (by simpa using hi)).2.2⟩
    refine fun k f t u tx=>.mk k f t u tx _ _ (fun i=>(q i).2) (by simp) (by simp only [maxLen] at hcm;simp;omega) (fun i h=>?_) (fun i h=>?_)
    ·have hi:i<len:=by simpa using h
     refine ⟨a.add (i*6),⟨by omega,by simpa using hi,a,rfl,by simp⟩,trivial,?_⟩
     simpa using (hq i hi).1
    ·have hi:i<len:=by simpa using h
     simpa using (hq i hi).2.1
  ·rw [DataW.trod_step] at h
   unfold DataW.trodStep at h
   rw [hT] at h
   simp only at h
   split at h
   ·rename_i hl
    rw [hc6] at hl
    match cs,hl with
    | [c0,c1,c2,c3,c4,c5],_ =>
     cases hm:([f0,f1,f2,f3,f4,f5]:List Field).mapM (fun f=>DataW.trod enc P W base sp held n f.type ((([c0,c1,c2,c3,c4,c5]:List Value).drop f.offset).take (P.cellsOf f.type))) with
     | none=>rw [hm] at h;cases h
     | some r =>
      have hf:=(mapM_facts hm).2
      obtain ⟨_,h0,_⟩:=hf 0 f0 rfl
      obtain ⟨_,h1,_⟩:=hf 1 f1 rfl
      obtain ⟨_,h2,_⟩:=hf 2 f2 rfl
      obtain ⟨_,h3,_⟩:=hf 3 f3 rfl
      obtain ⟨_,h4,_⟩:=hf 4 f4 rfl
      obtain ⟨_,h5,_⟩:=hf 5 f5 rfl
      rw [e0,o0,ci] at h0;rw [e1,o1,ci] at h1;rw [e2,o2,ci] at h2;rw [e3,o3,cu] at h3;rw [e4,o4,cs1] at h4;rw [e5,o5,cS] at h5
      obtain ⟨m0,rfl⟩:=trod_int1 ui h0
      obtain ⟨m1,rfl⟩:=trod_int1 ui h1
      obtain ⟨m2,rfl⟩:=trod_int1 ui h2
      obtain ⟨m3,rfl,hu⟩:=trod_u64 uu h3
      obtain ⟨m4,rfl⟩:=trod_str1 us h4
      obtain ⟨s,ts,rfl,hTr,hNr⟩:=ih.1 c5 _ h5
      exact ⟨.mk m0 m1 m2 m3 m4 ts,s,rfl,hTr m0 m1 m2 m3 m4,.mk _ _ _ _ _ _ hu hNr⟩
   ·cases h
theorem trees_of_trod {tS tT : TypeId} (hTT : TreeTypes P tS tT) {v : Value} {d : DataW H} {ps : List MemPlace} (h : DataW.Trod enc P W base sp held tS v d ps) (hv : ∃ a n c, v = .slice a n c) :
  ∃s:Sl,∃ts:List Sp.Tree,v=s.v∧TreeAt (fun b=>b<W.heap.size) W s (.mk 0 0 0 0 ⟨#[]⟩ ts):=by
 obtain ⟨n,h⟩:=h
 obtain ⟨a,m,c,rfl⟩:=hv
 obtain ⟨s,ts,e,hT,_⟩:=(trod_tree hTT n).1 _ _ h
 exact ⟨s,ts,e,(hT 0 0 0 0 ⟨#[]⟩).lt.mono (fun b hb=>hb.2)⟩
end
theorem treeTypes:TreeTypes Tryz.prog 66 107 :=
 ⟨3,23,9,_,_,_,_,_,_,Tryz.underlying66,Tryz.underlying107,by kernel_rfl,⟨rfl,rfl,rfl,rfl,rfl,rfl⟩,⟨rfl,rfl,rfl,rfl,rfl,rfl⟩,Tryz.underlying3,Tryz.underlying23,Tryz.underlying9,by kernel_rfl,by kernel_rfl,by kernel_rfl,by kernel_rfl⟩
end Go.Proofs
end
section
open Go Go.SE
namespace Go.Proofs
section
variable {H:Type} {enc:TypeId×Value→H} {P:Program} {W:World} {base:Nat} {sp:Nat→Bool} {held:Bool}
theorem row_lt {a:Addr} {v:Value} {vs:List Value} (h:Row W a (v :: vs)):a.block<W.heap.size:=by
 have:=h 0 (by simp)
 have:=World.block_lt_of_cell? W (a.add 0) this
 rwa [add_block] at this
theorem list_of_trod {α : Type} {tS e : TypeId} {sz : Nat} {f : α → List Value} (hS : P.underlying tS = some (.slice e)) (hc : P.cellsOf e = sz) (hf : ∀ a, ∃ v vs, f a = v :: vs) (x0 : α)
  (hel:∀(n:Nat) (cs:List Value) (x:DataW H×List MemPlace),DataW.trod enc P W base sp held n e cs=some x→∃a,cs=f a) {n:Nat} {c:Value} {x:DataW H×List MemPlace} (h:DataW.trod enc P W base sp held n tS [c]=some x) :
  ∃s:Sl,∃xs:List α,c=s.v∧Lst (fun b=>b<W.heap.size) W sz s (xs.map f):=by
 cases n with
 | zero=>cases h
 | succ n =>
  rcases trod_slice1 hS h with rfl | ⟨a,len,cap,rfl,hle,hcm,hall⟩
  ·exact ⟨Sl.nil,[],rfl,⟨rfl,fun i hi=>by simp at hi⟩⟩
  ·rw [hc] at hall
   have hex:∀i,∃q:α,i<len→Row W (a.add (i*sz)) (f q):=by
    intro i
    by_cases hi:i<len
    ·obtain ⟨cs,y,h1,h2⟩:=hall i hi
     obtain ⟨q,rfl⟩:=hel n cs y h2
     exact ⟨q,fun _=>(cells_row h1).2⟩
    ·exact ⟨x0,fun h=>absurd h hi⟩
   obtain ⟨q,hq⟩:=Classical.axiomOfChoice hex
   refine ⟨⟨some a,len,cap⟩,(List.range len).map q,rfl,⟨by simp,fun i hi=>?_⟩⟩
   have hi:i<len:=by simpa using hi
   have hr:=hq i hi
   obtain ⟨v,vs,e⟩:=hf (q i)
   refine ⟨a.add (i*sz),⟨by omega,by simpa using hi,a,rfl,by simp⟩,?_,by simpa using hr⟩
   rw [e] at hr;exact row_lt hr
theorem terms_of_trod {tS e : TypeId} (hS : P.underlying tS = some (.slice e)) (he : P.underlying e = some (.int .i64)) (hc : P.cellsOf e = 1) {n : Nat} {c : Value} {x : DataW H × List MemPlace} (h : DataW.trod enc P W base sp held n tS [c] = some x) :
  ∃s:Sl,∃ts:List Int,c=s.v∧Lst (fun b=>b<W.heap.size) W 1 s (tmr ts):=by
 have:=list_of_trod (f:=fun t:Int=>[Value.int .i64 t]) hS hc (fun a=>⟨_,_,rfl⟩) 0 (fun n cs x h=>?_) h
 ·exact this
 ·cases n with
  | zero=>cases h
  | succ n =>
   rw [DataW.trod_step] at h
   unfold DataW.trodStep at h
   rw [he] at h
   cases cs with
   | nil=>simp at h
   | cons c l =>
    cases l with
    | cons c2 l2=>cases c <;> simp at h
    | nil =>
     cases c <;> simp at h
     obtain ⟨⟨rfl,_⟩,_⟩:=h
     exact ⟨_,rfl⟩
end
section
variable {H:Type} {enc:TypeId×Value→H} {W:World} {base:Nat} {sp:Nat→Bool} {held:Bool}
theorem terms_in {n:Nat} {c:Value} {x:DataW H×List MemPlace} (h:DataW.trod enc Tryz.prog W base sp held n 46 [c]=some x):∃s:Sl,∃ts:List Int,c=s.v∧Lst (fun b=>b<W.heap.size) W 1 s (tmr ts) :=
 terms_of_trod Tryz.underlying46 Tryz.underlying78 (by kernel_rfl) h
end
end Go.Proofs
end
