import Derived.Test.YtkafbiknboamlaaGreatDoorProg
import Derived.KernelRfl
import Derived.Test.YtkafbiknboamlaaGreatDoorPa2
import Derived.Test.YtkafbiknboamlaaGreatDoorPa3
section
open Go Go.SE
open Go.IntKind renaming i64 → q6
namespace Go.Proofs
open Tryz
set_option maxRecDepth 100000
set_option maxHeartbeats 4000000
attribute [local irreducible] wpL wpX opE wpE Calls
def m_M_j2 (p2 p3 p5:Addr) (r3:Int) (w:World) (K:Int→Int→Int→ByteArray→Bool→Bool→WP):Prop :=Calls prog 88 #[(vp (some p3)),(vi r3),(vi 2)] w (fun e w16=>∃bH bI bK aR bJ dB dC,e=.returned (Ae bH bI bK aR bJ dB dC)∧(∀j,j<5→zW w16 (p5.add j))∧∀w17,w17=storeRow w16 p5 (Ag 7 0 aR false)→∃v6,w17.cell? (p3.add 1)=some (vb v6)∧Br v6 ((∀j,j<5→zW w17 (p2.add j))∧∀w18,w18=storeRow w17 p2 (Ag 0 0 0 false)→∃bT bU dD bV dE,Row w18 p2 (Ac bT bU dD bV dE)∧K bT bU dD bV dE false w18) (∃dF dG gB dH gC,Row w17 p5 (Ac dF dG gB dH gC)∧(∀j,j<5→zW w17 (p2.add j))∧∀w19,w19=storeRow w17 p2 (Ac dF dG gB dH gC)→∃bW bX dI bY dJ,Row w19 p2 (Ac bW bX dI bY dJ)∧K bW bX dI bY dJ true w19))
def m_M_j3 (p2 p3 p5:Addr) (r3:Int) (w:World) (K:Int→Int→Int→ByteArray→Bool→Bool→WP):Prop :=∃v7,w.cell? (p3.add 1)=some (vb v7)∧Br v7 (∃v8,w.cell? (p3.add 1)=some (vb v8)∧Br v8 ((∀j,j<5→zW w (p2.add j))∧∀w20,w20=storeRow w p2 (Ag 0 0 0 false)→∃bZ cA dK cB dL,Row w20 p2 (Ac bZ cA dK cB dL)∧K bZ cA dK cB dL false w20) (∃cY cZ gD dA gE,Row w p5 (Ac cY cZ gD dA gE)∧(∀j,j<5→zW w (p2.add j))∧∀w21,w21=storeRow w p2 (Ac cY cZ gD dA gE)→∃dM dN gF dO gG,Row w21 p2 (Ac dM dN gF dO gG)∧K dM dN gF dO gG true w21)) (m_M_j2 p2 p3 p5 r3 w K)
def m_M_j1 (t1:Int) (p2 p3 p5:Addr) (x1:Bool) (w:World) (K:Int→Int→Int→ByteArray→Bool→Bool→WP):Prop :=Br x1 (Calls prog 86 #[(vp (some p3)),(vi t1)] w (fun e w11=>∃bO bP dU bG dV,e=.returned (Af bO bP dU bG dV)∧(∀j,j<5→zW w11 (p5.add j))∧∀w12,w12=storeRow w11 p5 (Ac bO bP dU bG dV)→∃v5,w12.cell? (p3.add 1)=some (vb v5)∧Br v5 ((∀j,j<5→zW w12 (p2.add j))∧∀w13,w13=storeRow w12 p2 (Ag 0 0 0 false)→∃aU aV cC aW cD,Row w13 p2 (Ac aU aV cC aW cD)∧K aU aV cC aW cD false w13) (∃bB bC gH bD gI,Row w12 p5 (Ac bB bC gH bD gI)∧(∀j,j<5→zW w12 (p2.add j))∧∀w14,w14=storeRow w12 p2 (Ac bB bC gH bD gI)→∃cE cF dP cG dQ,Row w14 p2 (Ac cE cF dP cG dQ)∧K cE cF dP cG dQ true w14))) (Calls prog 87 #[(vp (some p3)),(vi t1)] w (fun e w15=>∃r2 r3,e=.returned (.tuple #[(vs r2),(vi r3)])∧∃v9,w15.cell? (p3.add 1)=some (vb v9)∧Br v9 (zW w15 (p3.add 1)∧∀w22,w22=w15.setCell (p3.add 1) (vb true)→m_M_j3 p2 p3 p5 r3 w22 K) (zW w15 (p3.add 1)∧∀w23,w23=w15.setCell (p3.add 1) (vb (!(decide (r2=(⟨#[102,117,108,108]⟩:ByteArray)))))→m_M_j3 p2 p3 p5 r3 w23 K)))
def m_M (p1:Option Addr) (t1:Int) (w:World) (K:Int→Int→Int→ByteArray→Bool→Bool→WP):Prop :=∀p2 w1,New w (.cells #[(vi 0),(vi 0),(vu 0),ve,(vb false)] 56) p2 w1→∀p3 w2,New w1 (.cells #[(vp p1),(vb false)] 141) p3 w2→Calls prog 61 #[(vp p1),(vi t1)] w2 (fun e w3=>∃aE aF aG aD aH aX aY r1,e=.returned (.tuple #[(Ae aE aF aG aD aH aX aY),(vb r1)])∧∀p4 w4,New w3 (.cells #[(vi 0),(vi 0),(vi 0),(vu 0),ve,(vi 0),(vi 0)] 103) p4 w4→(∀j,j<7→zW w4 (p4.add j))∧∀w5,w5=storeRow w4 p4 (Ad aE aF aG aD aH aX aY)→∀p5 w6,New w5 (.cells #[(vi 0),(vi 0),(vu 0),ve,(vb false)] 56) p5 w6→∃v1,w6.cell? p4=some (vi v1)∧Br (v1 == 7) (∃v2,w6.cell? (p4.add 1)=some (vi v2)∧∃v3,w6.cell? (p4.add 5)=some (vi v3)∧Calls prog 85 #[(vp (some p3)),(vi v2),(vi v3)] w6 (fun e w7=>∃bE bF bM aZ bN,e=.returned (Af bE bF bM aZ bN)∧(∀j,j<5→zW w7 (p5.add j))∧∀w8,w8=storeRow w7 p5 (Ac bE bF bM aZ bN)→∃v4,w8.cell? (p3.add 1)=some (vb v4)∧Br v4 ((∀j,j<5→zW w8 (p2.add j))∧∀w9,w9=storeRow w8 p2 (Ag 0 0 0 false)→∃aA aB cH aC cI,Row w9 p2 (Ac aA aB cH aC cI)∧K aA aB cH aC cI false w9) (∃aL aM gJ aN gK,Row w8 p5 (Ac aL aM gJ aN gK)∧(∀j,j<5→zW w8 (p2.add j))∧∀w10,w10=storeRow w8 p2 (Ac aL aM gJ aN gK)→∃aO aP cJ aQ cK,Row w10 p2 (Ac aO aP cJ aQ cK)∧K aO aP cJ aQ cK true w10))) (Br (v1 == 8) (m_M_j1 t1 p2 p3 p5 (v1 == 8) w6 K) (m_M_j1 t1 p2 p3 p5 (v1 == 9) w6 K)))
theorem w_M (p1 t1 w K) (h:m_M p1 t1 w K):
  Calls prog 40 #[(vp p1),(vi t1)] w (fun e w'=>∃cT cU fU cV fV r4,e=.returned (.tuple #[(Af cT cU fU cV fV),(vb r4)])∧K cT cU fU cV fV r4 w'):=by
 refine cw (args:=[(vp p1),(vi t1)]) func40 ntmps40 (eg (sn (O:=(.cells #[(vi 0),(vi 0),(vu 0),ve,(vb false)] 56)) (zH (zeroValue56 _) rfl) ?_))
 intro p2 w1 hn18
 have h:=h p2 w1 hn18
 refine q (ln (jIF rfl (fun _ _ _ h=>h) (eg (q0 (vp p1) (q0 (.agg #[(vp p1),(vb false)]) (sn (O:=(.cells #[(vp p1),(vb false)] 141)) xb ?_))))))
 intro p3 w2 hn17
 have h:=h p3 w2 hn17
 refine q (ln (eg (qb (sc call61 (h.mono fun e w3 ⟨aE,aF,aG,aD,aH,aX,aY,r1,k,h⟩=>⟨_,k,?_⟩)))))
 refine qc (nw1 h (zH (zeroValue103 _) rfl) fun p4 w4 h=>sro (sizeOf103 _) h fun w5 h=>q (ln (eg (nw1 h (zH (zeroValue56 _) rfl) fun p5 w6 h=>ln (zA (jIG (zN (zA (eg (q0 (vp (some p4)) (ql (isAgg3 _) h fun v1 h=>ln (zL (eg (qb (ln (cbr h ?_ ?_))))))))))))))))<;>intro h
 refine rg (qb (ql (isAgg3 _) h fun v2 h=>q (ql (isAgg23 _) h fun v3 h=>sc call85 (h.mono fun e w7 ⟨bE,bF,bM,aZ,bN,k,h⟩=>⟨_,k,?_⟩))))
 refine sro (sizeOf56 _) h fun w8 h=>zC (tG (zN (zA (eg (qc (ql (isAgg4 _) h fun v4 h=>ln (cbr h ?_ ?_)))))))<;>intro h
 refine eg (q (sro (sizeOf56 _) h fun w9 h=>q (ln (er (vA ?_)))))
 obtain ⟨aA,aB,cH,aC,cI,hv1,h⟩:=h
 refine gg2 results40 (rva (isAgg56 _) (sizeOf56 _) hv1) (rvU (vb false)) ⟨aA,aB,cH,aC,cI,false,rfl,h⟩
 refine zD (zN (eg ?_))
 obtain ⟨aL,aM,gJ,aN,gK,hv3,h⟩:=h
 refine qa (isAgg56 _) (sizeOf56 _) hv3 (sro (sizeOf56 _) h fun w10 h=>q (ln (er ?_)))
 obtain ⟨aO,aP,cJ,aQ,cK,hv2,h⟩:=h
 refine gg2 results40 (rva (isAgg56 _) (sizeOf56 _) hv2) (rvU (vb true)) ⟨aO,aP,cJ,aQ,cK,true,rfl,h⟩
 refine qG (fun ρ w=>∃x1,Has ρ [(1,(vi t1)),(4,(vp (some p2))),(6,(vp (some p3))),(9,(vp (some p5))),(57,(vb x1))]∧m_M_j1 t1 p2 p3 p5 x1 w K) ?_ ?_
 rintro ρ w ⟨x1,hH,h⟩
 refine zR hH (cbr h ?_ ?_)<;>intro h
 refine rg (qb (sc call86 (h.mono fun e w11 ⟨bO,bP,dU,bG,dV,k,h⟩=>⟨_,k,?_⟩)))
 refine sro (sizeOf56 _) h fun w12 h=>zC (tG (zN (zA (eg (qc (ql (isAgg4 _) h fun v5 h=>ln (cbr h ?_ ?_)))))))<;>intro h
 refine eg (q (sro (sizeOf56 _) h fun w13 h=>q (ln (er (vA ?_)))))
 obtain ⟨aU,aV,cC,aW,cD,hv7,h⟩:=h
 refine gg2 results40 (rva (isAgg56 _) (sizeOf56 _) hv7) (rvU (vb false)) ⟨aU,aV,cC,aW,cD,false,rfl,h⟩
 refine zD (zN (eg ?_))
 obtain ⟨bB,bC,gH,bD,gI,hv9,h⟩:=h
 refine qa (isAgg56 _) (sizeOf56 _) hv9 (sro (sizeOf56 _) h fun w14 h=>q (ln (er ?_)))
 obtain ⟨cE,cF,dP,cG,dQ,hv8,h⟩:=h
 refine gg2 results40 (rva (isAgg56 _) (sizeOf56 _) hv8) (rvU (vb true)) ⟨cE,cF,dP,cG,dQ,true,rfl,h⟩
 refine eg (qb (sc call87 (h.mono fun e w15 ⟨r2,r3,k,h⟩=>⟨_,k,?_⟩)))
 refine q (qd (ln (qG (fun ρ w=>Has ρ [(4,(vp (some p2))),(6,(vp (some p3))),(9,(vp (some p5))),(11,(vi r3))]∧m_M_j2 p2 p3 p5 r3 w K) ?_ ?_)))
 rintro ρ w ⟨hH,h⟩
 refine zR hH (rg (qb (sc call88 (h.mono fun e w16 ⟨bH,bI,bK,aR,bJ,dB,dC,k,h⟩=>⟨_,k,?_⟩))))
 refine qb (sro (sizeOf56 _) h fun w17 h=>zC (tG (zN (zA (eg (qc (ql (isAgg4 _) h fun v6 h=>ln (cbr h ?_ ?_))))))))<;>intro h
 refine eg (q (sro (sizeOf56 _) h fun w18 h=>q (ln (er (vA ?_)))))
 obtain ⟨bT,bU,dD,bV,dE,hv11,h⟩:=h
 refine gg2 results40 (rva (isAgg56 _) (sizeOf56 _) hv11) (rvU (vb false)) ⟨bT,bU,dD,bV,dE,false,rfl,h⟩
 refine zD (zN (eg ?_))
 obtain ⟨dF,dG,gB,dH,gC,hv13,h⟩:=h
 refine qa (isAgg56 _) (sizeOf56 _) hv13 (sro (sizeOf56 _) h fun w19 h=>q (ln (er ?_)))
 obtain ⟨bW,bX,dI,bY,dJ,hv12,h⟩:=h
 refine gg2 results40 (rva (isAgg56 _) (sizeOf56 _) hv12) (rvU (vb true)) ⟨bW,bX,dI,bY,dJ,true,rfl,h⟩
 refine qG (fun ρ w=>Has ρ [(4,(vp (some p2))),(6,(vp (some p3))),(9,(vp (some p5))),(11,(vi r3))]∧m_M_j3 p2 p3 p5 r3 w K) ?_ ?_
 rintro ρ w ⟨hH,h⟩
 refine zR hH (eg (qc (ql (isAgg4 _) h fun v7 h=>ln (cbr h ?_ ?_))))<;>intro h
 refine vN (xH (xB (zN (zA (eg (q0 (vp (some p3)) (q0 (vp (some p3)) (q0 (vp (some (p3.add 1))) (ql (isAgg4 _) h fun v8 h=>ln (cbr h ?_ ?_))))))))))<;>intro h
 refine eg (q (sro (sizeOf56 _) h fun w20 h=>q (ln (er (vA ?_)))))
 obtain ⟨bZ,cA,dK,cB,dL,hv15,h⟩:=h
 refine gg2 results40 (rva (isAgg56 _) (sizeOf56 _) hv15) (rvU (vb false)) ⟨bZ,cA,dK,cB,dL,false,rfl,h⟩
 refine zD (zN (eg ?_))
 obtain ⟨cY,cZ,gD,dA,gE,hv17,h⟩:=h
 refine qa (isAgg56 _) (sizeOf56 _) hv17 (sro (sizeOf56 _) h fun w21 h=>q (ln (er ?_)))
 obtain ⟨dM,dN,gF,dO,gG,hv16,h⟩:=h
 refine gg2 results40 (rva (isAgg56 _) (sizeOf56 _) hv16) (rvU (vb true)) ⟨dM,dN,gF,dO,gG,true,rfl,h⟩
 refine zD (zN ⟨hm,h⟩)
 refine rg (qd (ql (isAgg4 _) h fun v9 h=>q ?_))
 obtain ⟨hg1,h⟩|⟨hg1,h⟩:=h.br
 refine sj2 34 hg1 (q2 (vb true) (xT hg1) (qb (st1 (sizeOf4 _) h fun w22 h=>ln ⟨hm,h⟩)))
 refine qk 34 hg1 (stq (v:=(vb (!(decide (r2=(⟨#[102,117,108,108]⟩:ByteArray)))))) (wy 34 hg1) (xV (by kernel_rfl) (by kernel_rfl)) (q2 (vb (!(decide (r2=(⟨#[102,117,108,108]⟩:ByteArray))))) (xF hg1) (qb (st1 (sizeOf4 _) h fun w23 h=>ln ⟨hm,h⟩))))
 refine eg (qb (ln (cbr h ?_ ?_)))<;>intro h
 refine zD (zN ⟨(v1 == 8),hm,h⟩)
 refine rg (qb (ln ⟨(v1 == 9),hm,h⟩))
def m_Y2 (c1:Int) (text1:ByteArray) (w:World) (K:Int→Int→Int→Int→ByteArray→Sl→WP):Prop :=∀p1 w1,New w (.cells #[(vi 0),(vi 0),(vi 0),(vu 0),ve,Sl.nil.v] 28) p1 w1→Calls prog 95 #[(vs (⟨#[100,101,97,108]⟩:ByteArray))] w1 (fun e w2=>∃aE aF aG aD aH bL,e=.returned (Aa aE aF aG aD aH bL)∧Calls prog 96 #[(vu c1)] w2 (fun e w3=>∃bE bF bK aR aZ eX,e=.returned (Aa bE bF bK aR aZ eX)∧Calls prog 95 #[(vs text1)] w3 (fun e w4=>∃bO bP cW cX bG eY,e=.returned (Aa bO bP cW cX bG eY)∧Calls prog 94 #[(.agg #[(vi bE),(vi bF),(vi bK),(vu aR),(vs aZ),eX.v]),(.agg #[(vi bO),(vi bP),(vi cW),(vu cX),(vs bG),eY.v])] w4 (fun e w5=>∃bH bI fW fX bJ fY,e=.returned (Aa bH bI fW fX bJ fY)∧Calls prog 94 #[(.agg #[(vi aE),(vi aF),(vi aG),(vu aD),(vs aH),bL.v]),(.agg #[(vi bH),(vi bI),(vi fW),(vu fX),(vs bJ),fY.v])] w5 (fun e w6=>∃cT cU eZ fA cV fB,e=.returned (Aa cT cU eZ fA cV fB)∧(∀j,j<6→zW w6 (p1.add j))∧∀w7,w7=storeRow w6 p1 (Ab cT cU eZ fA cV fB)→∃aA aB aI aJ aC aK,Row w7 p1 (Ab aA aB aI aJ aC aK)∧K aA aB aI aJ aC aK w7)))))
theorem w_Y2 (c1 text1 w K) (h:m_Y2 c1 text1 w K):
  Calls prog 45 #[(vu c1),(vs text1)] w (fun e w'=>∃dW dX gL gM dY gN,e=.returned (Aa dW dX gL gM dY gN)∧K dW dX gL gM dY gN w'):=by
 refine cw (args:=[(vu c1),(vs text1)]) func45 ntmps45 (eg (sn (O:=(.cells #[(vi 0),(vi 0),(vi 0),(vu 0),ve,Sl.nil.v] 28)) (zH (zeroValue28 _) rfl) ?_))
 intro p1 w1 hn2
 have h:=h p1 w1 hn2
 refine ln (eg (sc call95 (h.mono fun e w2 ⟨aE,aF,aG,aD,aH,bL,k,h⟩=>⟨_,k,?_⟩)))
 refine q (sc call96 (h.mono fun e w3 ⟨bE,bF,bK,aR,aZ,eX,k,h⟩=>⟨_,k,?_⟩))
 refine q (sc call95 (h.mono fun e w4 ⟨bO,bP,cW,cX,bG,eY,k,h⟩=>⟨_,k,?_⟩))
 refine sc call94 (h.mono fun e w5 ⟨bH,bI,fW,fX,bJ,fY,k,h⟩=>⟨_,k,?_⟩)
 refine sc call94 (h.mono fun e w6 ⟨cT,cU,eZ,fA,cV,fB,k,h⟩=>⟨_,k,?_⟩)
 refine sro (sizeOf28 _) h fun w7 h=>ln (er ?_)
 obtain ⟨aA,aB,aI,aJ,aC,aK,hv1,h⟩:=h
 refine gg1 results45 (rva (isAgg28 _) (sizeOf28 _) hv1) ⟨aA,aB,aI,aJ,aC,aK,rfl,h⟩
def m_D2 (gO gP gQ:Int) (gR:ByteArray) (gS first1 second1:Bool) (w:World) (K:Int→Int→Int→Int→ByteArray→Sl→WP):Prop :=∀p1 w1,New w (.cells #[(vi gO),(vi gP),(vu gQ),(vs gR),(vb gS)] 56) p1 w1→∀p2 w2,New w1 (.cells #[(vi 0),(vi 0),(vi 0),(vu 0),ve,Sl.nil.v] 28) p2 w2→∃v1,w2.cell? (p1.add 2)=some (vu v1)∧∃v2,w2.cell? (p1.add 3)=some (vs v2)∧Calls prog 45 #[(vu v1),(vs v2)] w2 (fun e w3=>∃aE aF aG aD aH bL,e=.returned (Aa aE aF aG aD aH bL)∧∀p3 w4,New w3 (.cells #[(vi 0),(vi 0),(vi 0),(vu 0),ve,Sl.nil.v] 28) p3 w4→(∀j,j<6→zW w4 (p3.add j))∧∀w5,w5=storeRow w4 p3 (Ab aE aF aG aD aH bL)→∃v3,w5.cell? p1=some (vi v3)∧Br (v3 == 1) (∃v4,w5.cell? (p1.add 1)=some (vi v4)∧∃aL aM aS aT aN bA,Row w5 p3 (Ab aL aM aS aT aN bA)∧∃v5,w5.cell? (p1.add 4)=some (vb v5)∧Calls prog 130 #[(vi v4),(.agg #[(vi aL),(vi aM),(vi aS),(vu aT),(vs aN),bA.v]),(vb v5)] w5 (fun e w6=>∃bE bF bK aR aZ eX,e=.returned (Aa bE bF bK aR aZ eX)∧(∀j,j<6→zW w6 (p2.add j))∧∀w7,w7=storeRow w6 p2 (Ab bE bF bK aR aZ eX)→∃aA aB aI aJ aC aK,Row w7 p2 (Ab aA aB aI aJ aC aK)∧K aA aB aI aJ aC aK w7)) (Br (v3 == 2) (∃v6,w5.cell? (p1.add 1)=some (vi v6)∧∃bB bC bQ bR bD bS,Row w5 p3 (Ab bB bC bQ bR bD bS)∧Calls prog 131 #[(vi v6),(.agg #[(vi bB),(vi bC),(vi bQ),(vu bR),(vs bD),bS.v])] w5 (fun e w8=>∃bO bP cW cX bG eY,e=.returned (Aa bO bP cW cX bG eY)∧(∀j,j<6→zW w8 (p2.add j))∧∀w9,w9=storeRow w8 p2 (Ab bO bP cW cX bG eY)→∃aO aP cL cM aQ dR,Row w9 p2 (Ab aO aP cL cM aQ dR)∧K aO aP cL cM aQ dR w9)) (Br (v3 == 3) (∃C1:WP,C1 w5.drew∧∀w10,w10=w5.drew→∃v7,(∀w',C1 w'→w'.cell? (p1.add 2)=some (vu v7))∧Calls prog 95 #[(vs (⟨#[97,98,111,114,116]⟩:ByteArray))] w10 (fun e w11=>∃bH bI fW fX bJ fY,e=.returned (Aa bH bI fW fX bJ fY)∧C1 w11∧Calls prog 96 #[(vu v7)] w11 (fun e w12=>∃cT cU eZ fA cV fB,e=.returned (Aa cT cU eZ fA cV fB)∧Calls prog 94 #[(.agg #[(vi bH),(vi bI),(vi fW),(vu fX),(vs bJ),fY.v]),(.agg #[(vi cT),(vi cU),(vi eZ),(vu fA),(vs cV),fB.v])] w12 (fun e w13=>∃dW dX gL gM dY gN,e=.returned (Aa dW dX gL gM dY gN)∧Calls prog 131 #[(vi 0),(.agg #[(vi dW),(vi dX),(vi gL),(vu gM),(vs dY),gN.v])] w13 (fun e w14=>∃eI eJ jF jG eK jH,e=.returned (Aa eI eJ jF jG eK jH)∧(∀j,j<6→zW w14 (p2.add j))∧∀w15,w15=storeRow w14 p2 (Ab eI eJ jF jG eK jH)→∃aU aV dS dT aW gT,Row w15 p2 (Ab aU aV dS dT aW gT)∧K aU aV dS dT aW gT w15))))) (Br (v3 == 4) (∃C2:WP,C2 w5.drew∧∀w16,w16=w5.drew→∃v8,(∀w',C2 w'→w'.cell? (p1.add 1)=some (vi v8))∧∃dF dG gU gV dH gW,(∀w',C2 w'→Row w' p3 (Ab dF dG gU gV dH gW))∧∃v9,(∀w',C2 w'→w'.cell? (p1.add 4)=some (vb v9))∧∃cY cZ fC fD dA fE,(∀w',C2 w'→Row w' p3 (Ab cY cZ fC fD dA fE))∧∃v10,(∀w',C2 w'→w'.cell? (p1.add 4)=some (vb v10))∧Calls prog 95 #[(vs (⟨#[114,101,115,111,108,118,101]⟩:ByteArray))] w16 (fun e w17=>∃dZ eA gX gY eB gZ,e=.returned (Aa dZ eA gX gY eB gZ)∧C2 w17∧Br v9 (Calls prog 130 #[(vi 0),(.agg #[(vi dF),(vi dG),(vi gU),(vu gV),(vs dH),gW.v]),(vb first1)] w17 (fun e w18=>∃eL eM jI jJ eN jK,e=.returned (Aa eL eM jI jJ eN jK)∧C2 w18∧Br v10 (Calls prog 130 #[(vi 1),(.agg #[(vi cY),(vi cZ),(vi fC),(vu fD),(vs dA),fE.v]),(vb second1)] w18 (fun e w19=>∃eC eD lU lV eE lW,e=.returned (Aa eC eD lU lV eE lW)∧C2 w19∧Calls prog 94 #[(.agg #[(vi eL),(vi eM),(vi jI),(vu jJ),(vs eN),jK.v]),(.agg #[(vi eC),(vi eD),(vi lU),(vu lV),(vs eE),lW.v])] w19 (fun e w20=>∃fF fG lX lY fH lZ,e=.returned (Aa fF fG lX lY fH lZ)∧C2 w20∧Calls prog 94 #[(.agg #[(vi dZ),(vi eA),(vi gX),(vu gY),(vs eB),gZ.v]),(.agg #[(vi fF),(vi fG),(vi lX),(vu lY),(vs fH),lZ.v])] w20 (fun e w21=>∃fI fJ mA mB fK mC,e=.returned (Aa fI fJ mA mB fK mC)∧C2 w21∧Calls prog 131 #[(vi v8),(.agg #[(vi fI),(vi fJ),(vi mA),(vu mB),(vs fK),mC.v])] w21 (fun e w22=>∃eO eP jL jM eQ jN,e=.returned (Aa eO eP jL jM eQ jN)∧(∀j,j<6→zW w22 (p2.add j))∧∀w23,w23=storeRow w22 p2 (Ab eO eP jL jM eQ jN)→∃cE cF hA hB cG hD,Row w23 p2 (Ab cE cF hA hB cG hD)∧K cE cF hA hB cG hD w23))))) (Calls prog 130 #[(vi 1),(.agg #[(vi cY),(vi cZ),(vi fC),(vu fD),(vs dA),fE.v]),(vb false)] w18 (fun e w24=>∃fL fM mD mE fN mF,e=.returned (Aa fL fM mD mE fN mF)∧C2 w24∧Calls prog 94 #[(.agg #[(vi eL),(vi eM),(vi jI),(vu jJ),(vs eN),jK.v]),(.agg #[(vi fL),(vi fM),(vi mD),(vu mE),(vs fN),mF.v])] w24 (fun e w25=>∃eF eG mG mH eH mI,e=.returned (Aa eF eG mG mH eH mI)∧C2 w25∧Calls prog 94 #[(.agg #[(vi dZ),(vi eA),(vi gX),(vu gY),(vs eB),gZ.v]),(.agg #[(vi eF),(vi eG),(vi mG),(vu mH),(vs eH),mI.v])] w25 (fun e w26=>∃fO fP mJ mK fQ mL,e=.returned (Aa fO fP mJ mK fQ mL)∧C2 w26∧Calls prog 131 #[(vi v8),(.agg #[(vi fO),(vi fP),(vi mJ),(vu mK),(vs fQ),mL.v])] w26 (fun e w27=>∃eR eS jO jP eT jQ,e=.returned (Aa eR eS jO jP eT jQ)∧(∀j,j<6→zW w27 (p2.add j))∧∀w28,w28=storeRow w27 p2 (Ab eR eS jO jP eT jQ)→∃bT bU hE hF bV hG,Row w28 p2 (Ab bT bU hE hF bV hG)∧K bT bU hE hF bV hG w28))))))) (Calls prog 130 #[(vi 0),(.agg #[(vi dF),(vi dG),(vi gU),(vu gV),(vs dH),gW.v]),(vb false)] w17 (fun e w29=>∃eU eV jR jS eW jT,e=.returned (Aa eU eV jR jS eW jT)∧C2 w29∧Br v10 (Calls prog 130 #[(vi 1),(.agg #[(vi cY),(vi cZ),(vi fC),(vu fD),(vs dA),fE.v]),(vb second1)] w29 (fun e w30=>∃fR fS mM mN fT mO,e=.returned (Aa fR fS mM mN fT mO)∧C2 w30∧Calls prog 94 #[(.agg #[(vi eU),(vi eV),(vi jR),(vu jS),(vs eW),jT.v]),(.agg #[(vi fR),(vi fS),(vi mM),(vu mN),(vs fT),mO.v])] w30 (fun e w31=>∃hI hJ mP mQ hK mR,e=.returned (Aa hI hJ mP mQ hK mR)∧C2 w31∧Calls prog 94 #[(.agg #[(vi dZ),(vi eA),(vi gX),(vu gY),(vs eB),gZ.v]),(.agg #[(vi hI),(vi hJ),(vi mP),(vu mQ),(vs hK),mR.v])] w31 (fun e w32=>∃mS mT mU mV mW mX,e=.returned (Aa mS mT mU mV mW mX)∧C2 w32∧Calls prog 131 #[(vi v8),(.agg #[(vi mS),(vi mT),(vi mU),(vu mV),(vs mW),mX.v])] w32 (fun e w33=>∃jU jV jW jX jY jZ,e=.returned (Aa jU jV jW jX jY jZ)∧(∀j,j<6→zW w33 (p2.add j))∧∀w34,w34=storeRow w33 p2 (Ab jU jV jW jX jY jZ)→∃bW bX hL hM bY hN,Row w34 p2 (Ab bW bX hL hM bY hN)∧K bW bX hL hM bY hN w34))))) (Calls prog 130 #[(vi 1),(.agg #[(vi cY),(vi cZ),(vi fC),(vu fD),(vs dA),fE.v]),(vb false)] w29 (fun e w35=>∃mY mZ nA nB nC nD,e=.returned (Aa mY mZ nA nB nC nD)∧C2 w35∧Calls prog 94 #[(.agg #[(vi eU),(vi eV),(vi jR),(vu jS),(vs eW),jT.v]),(.agg #[(vi mY),(vi mZ),(vi nA),(vu nB),(vs nC),nD.v])] w35 (fun e w36=>∃nE nF nG nH nI nJ,e=.returned (Aa nE nF nG nH nI nJ)∧C2 w36∧Calls prog 94 #[(.agg #[(vi dZ),(vi eA),(vi gX),(vu gY),(vs eB),gZ.v]),(.agg #[(vi nE),(vi nF),(vi nG),(vu nH),(vs nI),nJ.v])] w36 (fun e w37=>∃nK nL nM nN nO nP,e=.returned (Aa nK nL nM nN nO nP)∧C2 w37∧Calls prog 131 #[(vi v8),(.agg #[(vi nK),(vi nL),(vi nM),(vu nN),(vs nO),nP.v])] w37 (fun e w38=>∃kA kB kC kD kE kF,e=.returned (Aa kA kB kC kD kE kF)∧(∀j,j<6→zW w38 (p2.add j))∧∀w39,w39=storeRow w38 p2 (Ab kA kB kC kD kE kF)→∃bZ cA hO hQ cB hR,Row w39 p2 (Ab bZ cA hO hQ cB hR)∧K bZ cA hO hQ cB hR w39))))))))) (Br (v3 == 5) (∃C3:WP,C3 w5.drew∧∀w40,w40=w5.drew→∃v11,(∀w',C3 w'→w'.cell? (p1.add 2)=some (vu v11))∧Calls prog 95 #[(vs (⟨#[97,98,111,114,116,101,100]⟩:ByteArray))] w40 (fun e w41=>∃nQ nR nS nT nU nV,e=.returned (Aa nQ nR nS nT nU nV)∧C3 w41∧Calls prog 96 #[(vu v11)] w41 (fun e w42=>∃nW nX nY nZ oA oB,e=.returned (Aa nW nX nY nZ oA oB)∧Calls prog 94 #[(.agg #[(vi nQ),(vi nR),(vi nS),(vu nT),(vs nU),nV.v]),(.agg #[(vi nW),(vi nX),(vi nY),(vu nZ),(vs oA),oB.v])] w42 (fun e w43=>∃oC oD oE oF oG oH,e=.returned (Aa oC oD oE oF oG oH)∧Calls prog 131 #[(vi 2),(.agg #[(vi oC),(vi oD),(vi oE),(vu oF),(vs oG),oH.v])] w43 (fun e w44=>∃kG kH kI kJ kK kL,e=.returned (Aa kG kH kI kJ kK kL)∧(∀j,j<6→zW w44 (p2.add j))∧∀w45,w45=storeRow w44 p2 (Ab kG kH kI kJ kK kL)→∃dM dN hS hT dO hU,Row w45 p2 (Ab dM dN hS hT dO hU)∧K dM dN hS hT dO hU w45))))) (Br (v3 == 6) (∃C4:WP,C4 w5.drew∧∀w46,w46=w5.drew→∃iZ jA jB jC jD jE,(∀w',C4 w'→Row w' p3 (Ab iZ jA jB jC jD jE))∧Calls prog 95 #[(vs (⟨#[105,110,115,116,101,97,100]⟩:ByteArray))] w46 (fun e w47=>∃oI oJ oK oL oM oN,e=.returned (Aa oI oJ oK oL oM oN)∧C4 w47∧Calls prog 94 #[(.agg #[(vi oI),(vi oJ),(vi oK),(vu oL),(vs oM),oN.v]),(.agg #[(vi iZ),(vi jA),(vi jB),(vu jC),(vs jD),jE.v])] w47 (fun e w48=>∃oO oP oQ oR oS oT,e=.returned (Aa oO oP oQ oR oS oT)∧Calls prog 131 #[(vi 2),(.agg #[(vi oO),(vi oP),(vi oQ),(vu oR),(vs oS),oT.v])] w48 (fun e w49=>∃kM kN kO kP kQ kR,e=.returned (Aa kM kN kO kP kQ kR)∧(∀j,j<6→zW w49 (p2.add j))∧∀w50,w50=storeRow w49 p2 (Ab kM kN kO kP kQ kR)→∃hV hW hX hY hZ iA,Row w50 p2 (Ab hV hW hX hY hZ iA)∧K hV hW hX hY hZ iA w50)))) (∃C5:WP,C5 w5.drew∧∀w51,w51=w5.drew→∃v12,(∀w',C5 w'→w'.cell? (p1.add 2)=some (vu v12))∧Calls prog 95 #[(vs (⟨#[102,117,108,108]⟩:ByteArray))] w51 (fun e w52=>∃oU oV oW oX oY oZ,e=.returned (Aa oU oV oW oX oY oZ)∧C5 w52∧Calls prog 96 #[(vu v12)] w52 (fun e w53=>∃pA pB pC pD pE pF,e=.returned (Aa pA pB pC pD pE pF)∧Calls prog 94 #[(.agg #[(vi oU),(vi oV),(vi oW),(vu oX),(vs oY),oZ.v]),(.agg #[(vi pA),(vi pB),(vi pC),(vu pD),(vs pE),pF.v])] w53 (fun e w54=>∃kS kT kU kV kW kX,e=.returned (Aa kS kT kU kV kW kX)∧(∀j,j<6→zW w54 (p2.add j))∧∀w55,w55=storeRow w54 p2 (Ab kS kT kU kV kW kX)→∃iB iC iD iE iF iG,Row w55 p2 (Ab iB iC iD iE iF iG)∧K iB iC iD iE iF iG w55))))))))))
theorem w_D2 (gO gP gQ gR gS first1 second1 w K) (h:m_D2 gO gP gQ gR gS first1 second1 w K):
  Calls prog 71 #[(.agg #[(vi gO),(vi gP),(vu gQ),(vs gR),(vb gS)]),(vb first1),(vb second1)] w (fun e w'=>∃pG pH pI pJ pK pL,e=.returned (Aa pG pH pI pJ pK pL)∧K pG pH pI pJ pK pL w'):=by
 refine cw (args:=[(Af gO gP gQ gR gS),(vb first1),(vb second1)]) func71 ntmps71 (eg (sn (O:=(.cells #[(vi gO),(vi gP),(vu gQ),(vs gR),(vb gS)] 56)) xb ?_))
 intro p1 w1 hn14
 have h:=h p1 w1 hn14
 refine nw1 h (zH (zeroValue28 _) rfl) fun p2 w2 h=>ln (eg (q (ql (isAgg26 _) h fun v1 h=>q (ql (isAgg9 _) h fun v2 h=>sc call45 (h.mono fun e w3 ⟨aE,aF,aG,aD,aH,bL,k,h⟩=>⟨_,k,?_⟩)))))
 refine nw1 h (zH (zeroValue28 _) rfl) fun p3 w4 h=>sro (sizeOf28 _) h fun w5 h=>ln (zA (eg (q (ql (isAgg3 _) h fun v3 h=>ln (zL (eg (qb (ln (cbr h ?_ ?_)))))))))<;>intro h
 refine eg (q (ql (isAgg3 _) h fun v4 h=>?_))
 obtain ⟨aL,aM,aS,aT,aN,bA,hv3,h⟩:=h
 refine qa (isAgg28 _) (sizeOf28 _) hv3 (q (ql (isAgg4 _) h fun v5 h=>sc call130 (h.mono fun e w6 ⟨bE,bF,bK,aR,aZ,eX,k,h⟩=>⟨_,k,?_⟩)))
 refine sro (sizeOf28 _) h fun w7 h=>ln (er (qU (vA ?_)))
 obtain ⟨aA,aB,aI,aJ,aC,aK,hv1,h⟩:=h
 refine gg1 results71 (rva (isAgg28 _) (sizeOf28 _) hv1) ⟨aA,aB,aI,aJ,aC,aK,rfl,h⟩
 refine eg (qb (ln (cbr h ?_ ?_)))<;>intro h
 refine eg (q (ql (isAgg3 _) h fun v6 h=>?_))
 obtain ⟨bB,bC,bQ,bR,bD,bS,hv6,h⟩:=h
 refine qa (isAgg28 _) (sizeOf28 _) hv6 (sc call131 (h.mono fun e w8 ⟨bO,bP,cW,cX,bG,eY,k,h⟩=>⟨_,k,?_⟩))
 refine sro (sizeOf28 _) h fun w9 h=>ln (er (qU (vA ?_)))
 obtain ⟨aO,aP,cL,cM,aQ,dR,hv5,h⟩:=h
 refine gg1 results71 (rva (isAgg28 _) (sizeOf28 _) hv5) ⟨aO,aP,cL,cM,aQ,dR,rfl,h⟩
 refine eg (qb (ln (cbr h ?_ ?_)))<;>intro h
 refine zA ?_
 obtain ⟨C1,hC,h⟩:=h
 refine dr1 C1 [0,3,4,5,6] [3,4,5,6] hC h fun w10 h=>qx 1 (vp (some (p1.add 2))) Kp1 (qg 2 ?_)
 obtain ⟨v7,hv9,h⟩:=h
 refine sy Kp2 (fun _ k=>xl (isAgg26 _) (hv9 _ k)) (lg 0 (slc Kp0 call95 (h.mono ?_)))
 rintro e w11 ⟨bH,bI,fW,fX,bJ,fY,rfl,hC,h⟩
 refine ⟨_,rfl,.inr hC,?_⟩
 refine lg 3 (slc Kp3 call96 (h.mono ?_))
 rintro e w12 ⟨cT,cU,eZ,fA,cV,fB,rfl,h⟩
 refine ⟨_,rfl,.inl (by kernel_rfl),?_⟩
 refine lg 4 (slc Kp4 call94 (h.mono ?_))
 rintro e w13 ⟨dW,dX,gL,gM,dY,gN,rfl,h⟩
 refine ⟨_,rfl,.inl (by kernel_rfl),?_⟩
 refine lg 5 (slc Kp5 call131 (h.mono ?_))
 rintro e w14 ⟨eI,eJ,jF,jG,eK,jH,rfl,h⟩
 refine ⟨_,rfl,.inl (by kernel_rfl),?_⟩
 refine lg 6 (slo Kp6 (sizeOf28 _) h fun w15 h=>⟨.inl (by kernel_rfl),?_⟩)
 refine wn (zN (er (qU (vA ?_))))
 obtain ⟨aU,aV,dS,dT,aW,gT,hv8,h⟩:=h
 refine gg1 results71 (rva (isAgg28 _) (sizeOf28 _) hv8) ⟨aU,aV,dS,dT,aW,gT,rfl,h⟩
 refine eg (qb (ln (cbr h ?_ ?_)))<;>intro h
 refine zA ?_
 obtain ⟨C2,hC,h⟩:=h
 refine dr1 C2 [2,9,16,17,18,19,20] [19,20] hC h fun w16 h=>qx 0 (vp (some (p1.add 1))) Kp0 (qg 1 ?_)
 obtain ⟨v8,hv18,h⟩:=h
 refine sy Kp1 (fun _ k=>xl (isAgg3 _) (hv18 _ k)) (qg 3 ?_)
 obtain ⟨dF,dG,gU,gV,dH,gW,hv17,h⟩:=h
 refine sy (v:=(Aa dF dG gU gV dH gW)) Kp3 (fun w' hw'=>(xa p3 (Ab dF dG gU gV dH gW) (isAgg28 _) (sizeOf28 _) (hv17 w' hw'))) (qx 4 (vp (some (p1.add 4))) Kp4 (qg 5 ?_))
 obtain ⟨v9,hv16,h⟩:=h
 refine sy Kp5 (fun _ k=>xl (isAgg4 _) (hv16 _ k)) (qg 10 ?_)
 obtain ⟨cY,cZ,fC,fD,dA,fE,hv15,h⟩:=h
 refine sy (v:=(Aa cY cZ fC fD dA fE)) (zG (S8 (zB (zB zF)))) (fun w' hw'=>(xa p3 (Ab cY cZ fC fD dA fE) (isAgg28 _) (sizeOf28 _) (hv15 w' hw'))) (qx 11 (vp (some (p1.add 4))) (zG (S8 (zB (zB (zB zF))))) (qg 12 ?_))
 obtain ⟨v10,hv14,h⟩:=h
 refine sy (zG (S8 (S4 zF))) (fun _ k=>xl (isAgg4 _) (hv14 _ k)) (lg 2 (slc Kp2 call95 (h.mono ?_)))
 rintro e w17 ⟨dZ,eA,gX,gY,eB,gZ,rfl,hC,h⟩
 refine ⟨_,rfl,.inr hC,?_⟩
 refine qx 6 (vb v9) Kp6 (qg 7 ?_)
 obtain ⟨hg1,h⟩|⟨hg1,h⟩:=h.br
 refine sz (v:=(vb first1)) Kp7 (wy 45 hg1) (fun _ _=>(by kernel_rfl)) (qz 8 (vb first1) Kp8 (fun _ _=>(xT hg1)) (lg 9 (slc Kp9 call130 (h.mono ?_))))
 rintro e w18 ⟨eL,eM,jI,jJ,eN,jK,rfl,hC,h⟩
 refine ⟨_,rfl,.inr hC,?_⟩
 refine qx 13 (vb v10) (zG (S8 (S4 (zB zF)))) (qg 14 ?_)
 obtain ⟨hg2,h⟩|⟨hg2,h⟩:=h.br
 refine sz (v:=(vb second1)) (zG (S8 (S4 (zB (zB zF))))) (wy 52 hg2) (fun _ _=>(by kernel_rfl)) (qz 15 (vb second1) (zG (S8 (S4 (zB (zB (zB zF)))))) (fun _ _=>(xT hg2)) (lg 16 (slc (zG (S8 (S8 zF))) call130 (h.mono ?_))))
 rintro e w19 ⟨eC,eD,lU,lV,eE,lW,rfl,hC,h⟩
 refine ⟨_,rfl,.inr hC,?_⟩
 refine lg 17 (slc (zG (S8 (S8 (zB zF)))) call94 (h.mono ?_))
 rintro e w20 ⟨fF,fG,lX,lY,fH,lZ,rfl,hC,h⟩
 refine ⟨_,rfl,.inr hC,?_⟩
 refine lg 18 (slc (zG (S8 (S8 (zB (zB zF))))) call94 (h.mono ?_))
 rintro e w21 ⟨fI,fJ,mA,mB,fK,mC,rfl,hC,h⟩
 refine ⟨_,rfl,.inr hC,?_⟩
 refine lg 19 (slc (zG (S8 (S8 (zB (zB (zB zF)))))) call131 (h.mono ?_))
 rintro e w22 ⟨eO,eP,jL,jM,eQ,jN,rfl,h⟩
 refine ⟨_,rfl,.inl (by kernel_rfl),?_⟩
 refine lg 20 (slo (zG (S8 (S8 (S4 zF)))) (sizeOf28 _) h fun w23 h=>⟨.inl (by kernel_rfl),?_⟩)
 refine wn (zN (er (qU (vA ?_))))
 obtain ⟨cE,cF,hA,hB,cG,hD,hv10,h⟩:=h
 refine gg1 results71 (rva (isAgg28 _) (sizeOf28 _) hv10) ⟨cE,cF,hA,hB,cG,hD,rfl,h⟩
 refine yH (zG (S8 (S4 (zB (zB zF))))) (zO rfl (yD 52 hg2) rfl) (qz 15 (vb false) (zG (S8 (S4 (zB (zB (zB zF)))))) (fun _ _=>(xF hg2)) (lg 16 (slc (zG (S8 (S8 zF))) call130 (h.mono ?_))))
 rintro e w24 ⟨fL,fM,mD,mE,fN,mF,rfl,hC,h⟩
 refine ⟨_,rfl,.inr hC,?_⟩
 refine lg 17 (slc (zG (S8 (S8 (zB zF)))) call94 (h.mono ?_))
 rintro e w25 ⟨eF,eG,mG,mH,eH,mI,rfl,hC,h⟩
 refine ⟨_,rfl,.inr hC,?_⟩
 refine lg 18 (slc (zG (S8 (S8 (zB (zB zF))))) call94 (h.mono ?_))
 rintro e w26 ⟨fO,fP,mJ,mK,fQ,mL,rfl,hC,h⟩
 refine ⟨_,rfl,.inr hC,?_⟩
 refine lg 19 (slc (zG (S8 (S8 (zB (zB (zB zF)))))) call131 (h.mono ?_))
 rintro e w27 ⟨eR,eS,jO,jP,eT,jQ,rfl,h⟩
 refine ⟨_,rfl,.inl (by kernel_rfl),?_⟩
 refine lg 20 (slo (zG (S8 (S8 (S4 zF)))) (sizeOf28 _) h fun w28 h=>⟨.inl (by kernel_rfl),?_⟩)
 refine wn (zN (er (qU (vA ?_))))
 obtain ⟨bT,bU,hE,hF,bV,hG,hv11,h⟩:=h
 refine gg1 results71 (rva (isAgg28 _) (sizeOf28 _) hv11) ⟨bT,bU,hE,hF,bV,hG,rfl,h⟩
 refine yH Kp7 (zO rfl (yD 45 hg1) rfl) (qz 8 (vb false) Kp8 (fun _ _=>(xF hg1)) (lg 9 (slc Kp9 call130 (h.mono ?_))))
 rintro e w29 ⟨eU,eV,jR,jS,eW,jT,rfl,hC,h⟩
 refine ⟨_,rfl,.inr hC,?_⟩
 refine qx 13 (vb v10) (zG (S8 (S4 (zB zF)))) (qg 14 ?_)
 obtain ⟨hg3,h⟩|⟨hg3,h⟩:=h.br
 refine sz (v:=(vb second1)) (zG (S8 (S4 (zB (zB zF))))) (wy 52 hg3) (fun _ _=>(by kernel_rfl)) (qz 15 (vb second1) (zG (S8 (S4 (zB (zB (zB zF)))))) (fun _ _=>(xT hg3)) (lg 16 (slc (zG (S8 (S8 zF))) call130 (h.mono ?_))))
 rintro e w30 ⟨fR,fS,mM,mN,fT,mO,rfl,hC,h⟩
 refine ⟨_,rfl,.inr hC,?_⟩
 refine lg 17 (slc (zG (S8 (S8 (zB zF)))) call94 (h.mono ?_))
 rintro e w31 ⟨hI,hJ,mP,mQ,hK,mR,rfl,hC,h⟩
 refine ⟨_,rfl,.inr hC,?_⟩
 refine lg 18 (slc (zG (S8 (S8 (zB (zB zF))))) call94 (h.mono ?_))
 rintro e w32 ⟨mS,mT,mU,mV,mW,mX,rfl,hC,h⟩
 refine ⟨_,rfl,.inr hC,?_⟩
 refine lg 19 (slc (zG (S8 (S8 (zB (zB (zB zF)))))) call131 (h.mono ?_))
 rintro e w33 ⟨jU,jV,jW,jX,jY,jZ,rfl,h⟩
 refine ⟨_,rfl,.inl (by kernel_rfl),?_⟩
 refine lg 20 (slo (zG (S8 (S8 (S4 zF)))) (sizeOf28 _) h fun w34 h=>⟨.inl (by kernel_rfl),?_⟩)
 refine wn (zN (er (qU (vA ?_))))
 obtain ⟨bW,bX,hL,hM,bY,hN,hv12,h⟩:=h
 refine gg1 results71 (rva (isAgg28 _) (sizeOf28 _) hv12) ⟨bW,bX,hL,hM,bY,hN,rfl,h⟩
 refine yH (zG (S8 (S4 (zB (zB zF))))) (zO rfl (yD 52 hg3) rfl) (qz 15 (vb false) (zG (S8 (S4 (zB (zB (zB zF)))))) (fun _ _=>(xF hg3)) (lg 16 (slc (zG (S8 (S8 zF))) call130 (h.mono ?_))))
 rintro e w35 ⟨mY,mZ,nA,nB,nC,nD,rfl,hC,h⟩
 refine ⟨_,rfl,.inr hC,?_⟩
 refine lg 17 (slc (zG (S8 (S8 (zB zF)))) call94 (h.mono ?_))
 rintro e w36 ⟨nE,nF,nG,nH,nI,nJ,rfl,hC,h⟩
 refine ⟨_,rfl,.inr hC,?_⟩
 refine lg 18 (slc (zG (S8 (S8 (zB (zB zF))))) call94 (h.mono ?_))
 rintro e w37 ⟨nK,nL,nM,nN,nO,nP,rfl,hC,h⟩
 refine ⟨_,rfl,.inr hC,?_⟩
 refine lg 19 (slc (zG (S8 (S8 (zB (zB (zB zF)))))) call131 (h.mono ?_))
 rintro e w38 ⟨kA,kB,kC,kD,kE,kF,rfl,h⟩
 refine ⟨_,rfl,.inl (by kernel_rfl),?_⟩
 refine lg 20 (slo (zG (S8 (S8 (S4 zF)))) (sizeOf28 _) h fun w39 h=>⟨.inl (by kernel_rfl),?_⟩)
 refine wn (zN (er (qU (vA ?_))))
 obtain ⟨bZ,cA,hO,hQ,cB,hR,hv13,h⟩:=h
 refine gg1 results71 (rva (isAgg28 _) (sizeOf28 _) hv13) ⟨bZ,cA,hO,hQ,cB,hR,rfl,h⟩
 refine eg (qb (ln (cbr h ?_ ?_)))<;>intro h
 refine zA ?_
 obtain ⟨C3,hC,h⟩:=h
 refine dr1 C3 [0,3,4,5,6] [3,4,5,6] hC h fun w40 h=>qx 1 (vp (some (p1.add 2))) Kp1 (qg 2 ?_)
 obtain ⟨v11,hv20,h⟩:=h
 refine sy Kp2 (fun _ k=>xl (isAgg26 _) (hv20 _ k)) (lg 0 (slc Kp0 call95 (h.mono ?_)))
 rintro e w41 ⟨nQ,nR,nS,nT,nU,nV,rfl,hC,h⟩
 refine ⟨_,rfl,.inr hC,?_⟩
 refine lg 3 (slc Kp3 call96 (h.mono ?_))
 rintro e w42 ⟨nW,nX,nY,nZ,oA,oB,rfl,h⟩
 refine ⟨_,rfl,.inl (by kernel_rfl),?_⟩
 refine lg 4 (slc Kp4 call94 (h.mono ?_))
 rintro e w43 ⟨oC,oD,oE,oF,oG,oH,rfl,h⟩
 refine ⟨_,rfl,.inl (by kernel_rfl),?_⟩
 refine lg 5 (slc Kp5 call131 (h.mono ?_))
 rintro e w44 ⟨kG,kH,kI,kJ,kK,kL,rfl,h⟩
 refine ⟨_,rfl,.inl (by kernel_rfl),?_⟩
 refine lg 6 (slo Kp6 (sizeOf28 _) h fun w45 h=>⟨.inl (by kernel_rfl),?_⟩)
 refine wn (zN (er (qU (vA ?_))))
 obtain ⟨dM,dN,hS,hT,dO,hU,hv19,h⟩:=h
 refine gg1 results71 (rva (isAgg28 _) (sizeOf28 _) hv19) ⟨dM,dN,hS,hT,dO,hU,rfl,h⟩
 refine eg (qb (ln (cbr h ?_ ?_)))<;>intro h
 refine zA ?_
 obtain ⟨C4,hC,h⟩:=h
 refine dr1 C4 [0,2,3,4] [2,3,4] hC h fun w46 h=>qg 1 ?_
 obtain ⟨iZ,jA,jB,jC,jD,jE,hv22,h⟩:=h
 refine sy (v:=(Aa iZ jA jB jC jD jE)) Kp1 (fun w' hw'=>(xa p3 (Ab iZ jA jB jC jD jE) (isAgg28 _) (sizeOf28 _) (hv22 w' hw'))) (lg 0 (slc Kp0 call95 (h.mono ?_)))
 rintro e w47 ⟨oI,oJ,oK,oL,oM,oN,rfl,hC,h⟩
 refine ⟨_,rfl,.inr hC,?_⟩
 refine lg 2 (slc Kp2 call94 (h.mono ?_))
 rintro e w48 ⟨oO,oP,oQ,oR,oS,oT,rfl,h⟩
 refine ⟨_,rfl,.inl (by kernel_rfl),?_⟩
 refine lg 3 (slc Kp3 call131 (h.mono ?_))
 rintro e w49 ⟨kM,kN,kO,kP,kQ,kR,rfl,h⟩
 refine ⟨_,rfl,.inl (by kernel_rfl),?_⟩
 refine lg 4 (slo Kp4 (sizeOf28 _) h fun w50 h=>⟨.inl (by kernel_rfl),?_⟩)
 refine wn (zN (er (qU (vA ?_))))
 obtain ⟨hV,hW,hX,hY,hZ,iA,hv21,h⟩:=h
 refine gg1 results71 (rva (isAgg28 _) (sizeOf28 _) hv21) ⟨hV,hW,hX,hY,hZ,iA,rfl,h⟩
 refine zD (tG (zN (zA ?_)))
 obtain ⟨C5,hC,h⟩:=h
 refine dr1 C5 [0,3,4,5] [3,4,5] hC h fun w51 h=>qx 1 (vp (some (p1.add 2))) Kp1 (qg 2 ?_)
 obtain ⟨v12,hv24,h⟩:=h
 refine sy Kp2 (fun _ k=>xl (isAgg26 _) (hv24 _ k)) (lg 0 (slc Kp0 call95 (h.mono ?_)))
 rintro e w52 ⟨oU,oV,oW,oX,oY,oZ,rfl,hC,h⟩
 refine ⟨_,rfl,.inr hC,?_⟩
 refine lg 3 (slc Kp3 call96 (h.mono ?_))
 rintro e w53 ⟨pA,pB,pC,pD,pE,pF,rfl,h⟩
 refine ⟨_,rfl,.inl (by kernel_rfl),?_⟩
 refine lg 4 (slc Kp4 call94 (h.mono ?_))
 rintro e w54 ⟨kS,kT,kU,kV,kW,kX,rfl,h⟩
 refine ⟨_,rfl,.inl (by kernel_rfl),?_⟩
 refine lg 5 (slo Kp5 (sizeOf28 _) h fun w55 h=>⟨.inl (by kernel_rfl),?_⟩)
 refine wn (zN (er ?_))
 obtain ⟨iB,iC,iD,iE,iF,iG,hv23,h⟩:=h
 refine gg1 results71 (rva (isAgg28 _) (sizeOf28 _) hv23) ⟨iB,iC,iD,iE,iF,iG,rfl,h⟩
def m_A_j7 (who1:Int) (p1 a1 a2:Addr) (w:World) (K:Int→Int→Int→ByteArray→Bool→WP):Prop :=∃v1,w.cell? (a1.add 2)=some (vu v1)∧∃v2,w.cell? (a1.add 3)=some (vs v2)∧∃v3,w.cell? (a1.add 4)=some (vb v3)∧Br v3 ((∀j,j<5→zW w (p1.add j))∧∀w14,w14=storeRow w p1 (Ac 4 who1 v1 v2 true)→∃bT bU dD bV dE,Row w14 p1 (Ac bT bU dD bV dE)∧K bT bU dD bV dE w14) (∃v4,w.cell? (a2.add 4)=some (vb v4)∧(∀j,j<5→zW w (p1.add j))∧∀w15,w15=storeRow w p1 (Ac 4 who1 v1 v2 v4)→∃bW bX dI bY dJ,Row w15 p1 (Ac bW bX dI bY dJ)∧K bW bX dI bY dJ w15)
def m_A_j10 (r1:Option Addr) (who1:Int) (p1 a1 a2:Addr) (x8:Bool) (w:World) (K:Int→Int→Int→ByteArray→Bool→WP):Prop :=Br x8 (∃a4,r1=some a4∧zW w (a4.add 1)∧∀w16,w16=w.setCell (a4.add 1) (vb true)→m_A_j7 who1 p1 a1 a2 w16 K) (∃v6,w.cell? (a1.add 3)=some (vs v6)∧∃v7,w.cell? (a2.add 3)=some (vs v7)∧∃a5,r1=some a5∧zW w (a5.add 1)∧∀w17,w17=w.setCell (a5.add 1) (vb (!(decide (v6=v7))))→m_A_j7 who1 p1 a1 a2 w17 K)
def m_A_j9 (r1:Option Addr) (who1:Int) (p1 a1 a2:Addr) (x7:Bool) (w:World) (K:Int→Int→Int→ByteArray→Bool→WP):Prop :=Br x7 (m_A_j10 r1 who1 p1 a1 a2 true w K) (∃v8,w.cell? (a1.add 2)=some (vu v8)∧∃v9,w.cell? (a2.add 2)=some (vu v9)∧m_A_j10 r1 who1 p1 a1 a2 (v8 != v9) w K)
def m_A_j8 (r1:Option Addr) (who1:Int) (p1 a1 a2:Addr) (x6:Bool) (w:World) (K:Int→Int→Int→ByteArray→Bool→WP):Prop :=Br x6 (m_A_j9 r1 who1 p1 a1 a2 true w K) (∃v10,w.cell? (a2.add 1)=some (vi v10)∧m_A_j9 r1 who1 p1 a1 a2 (v10 != 1) w K)
def m_A_j6 (r1:Option Addr) (who1:Int) (p1 a1 a2:Addr) (w:World) (K:Int→Int→Int→ByteArray→Bool→WP):Prop :=∃a3,r1=some a3∧∃v5,w.cell? (a3.add 1)=some (vb v5)∧Br v5 (m_A_j8 r1 who1 p1 a1 a2 true w K) (∃v11,w.cell? (a1.add 1)=some (vi v11)∧m_A_j8 r1 who1 p1 a1 a2 (v11 != 0) w K)
def m_A_j5 (r1:Option Addr) (who1:Int) (p1:Addr) (r3:Int) (x5:Bool) (w:World) (K:Int→Int→Int→ByteArray→Bool→WP):Prop :=Br x5 (Calls prog 88 #[(vp r1),(vi r3),(vi 4)] w (fun e w11=>∃bO bP cW cX bG fZ gA,e=.returned (Ae bO bP cW cX bG fZ gA)∧∀p2 w12,New w11 (.cells #[(vi 0),(vi 0),(vi 0),(vu 0),ve,(vi 0),(vi 0)] 103) p2 w12→(∀j,j<7→zW w12 (p2.add j))∧∀w13,w13=storeRow w12 p2 (Ad bO bP cW cX bG fZ gA)→∃C1:WP,C1 w13.drew∧∀w18,w18=w13.drew→∃v12,(∀w',C1 w'→w'.cell? (p2.add 5)=some (vi v12))∧∃v13,(∀w',C1 w'→w'.cell? (p2.add 6)=some (vi v13))∧(Calls prog 86 #[(vp r1),(vi v12)] w18 (fun e w19=>∃bH bI bM bJ bN,e=.returned (Af bH bI bM bJ bN)∧C1 w19∧(Calls prog 86 #[(vp r1),(vi v13)] w19 (fun e w20=>∃cT cU dU cV dV,e=.returned (Af cT cU dU cV dV)∧(∀p3 w21,New w20 (.cells #[(vi 0),(vi 0),(vu 0),ve,(vb false)] 56) p3 w21→C1 w21∧∀p4 w22,New w21 (.cells #[(vi 0),(vi 0),(vu 0),ve,(vb false)] 56) p4 w22→C1 w22∧(∀j,j<5→zW w22 (p3.add j))∧∀w23,w23=storeRow w22 p3 (Ac bH bI bM bJ bN)→(∀j,j<5→zW w23 (p4.add j))∧∀w24,w24=storeRow w23 p4 (Ac cT cU dU cV dV)→m_A_j6 r1 who1 p1 p3 p4 w24 K)∧(∀p5 w25,New w20 (.cells #[(vi 0),(vi 0),(vu 0),ve,(vb false)] 56) p5 w25→C1 w25∧∀p6 w26,New w25 (.cells #[(vi 0),(vi 0),(vu 0),ve,(vb false)] 56) p6 w26→C1 w26∧(∀j,j<5→zW w26 (p6.add j))∧∀w27,w27=storeRow w26 p6 (Ac bH bI bM bJ bN)→(∀j,j<5→zW w27 (p5.add j))∧∀w28,w28=storeRow w27 p5 (Ac cT cU dU cV dV)→m_A_j6 r1 who1 p1 p6 p5 w28 K)))∧(∀p7 w29,New w19 (.cells #[(vi 0),(vi 0),(vu 0),ve,(vb false)] 56) p7 w29→C1 w29∧(Calls prog 86 #[(vp r1),(vi v13)] w29 (fun e w30=>∃dW dX fU dY fV,e=.returned (Af dW dX fU dY fV)∧∀p8 w31,New w30 (.cells #[(vi 0),(vi 0),(vu 0),ve,(vb false)] 56) p8 w31→C1 w31∧(∀j,j<5→zW w31 (p7.add j))∧∀w32,w32=storeRow w31 p7 (Ac bH bI bM bJ bN)→(∀j,j<5→zW w32 (p8.add j))∧∀w33,w33=storeRow w32 p8 (Ac dW dX fU dY fV)→m_A_j6 r1 who1 p1 p7 p8 w33 K))∧(∀p9 w34,New w29 (.cells #[(vi 0),(vi 0),(vu 0),ve,(vb false)] 56) p9 w34→C1 w34∧Calls prog 86 #[(vp r1),(vi v13)] w34 (fun e w35=>∃eI eJ kY eK kZ,e=.returned (Af eI eJ kY eK kZ)∧(∀j,j<5→zW w35 (p7.add j))∧∀w36,w36=storeRow w35 p7 (Ac bH bI bM bJ bN)→(∀j,j<5→zW w36 (p9.add j))∧∀w37,w37=storeRow w36 p9 (Ac eI eJ kY eK kZ)→m_A_j6 r1 who1 p1 p7 p9 w37 K)))∧(∀p10 w38,New w19 (.cells #[(vi 0),(vi 0),(vu 0),ve,(vb false)] 56) p10 w38→C1 w38∧(Calls prog 86 #[(vp r1),(vi v13)] w38 (fun e w39=>∃dZ eA lA eB lB,e=.returned (Af dZ eA lA eB lB)∧∀p11 w40,New w39 (.cells #[(vi 0),(vi 0),(vu 0),ve,(vb false)] 56) p11 w40→C1 w40∧(∀j,j<5→zW w40 (p11.add j))∧∀w41,w41=storeRow w40 p11 (Ac bH bI bM bJ bN)→(∀j,j<5→zW w41 (p10.add j))∧∀w42,w42=storeRow w41 p10 (Ac dZ eA lA eB lB)→m_A_j6 r1 who1 p1 p11 p10 w42 K))∧(∀p12 w43,New w38 (.cells #[(vi 0),(vi 0),(vu 0),ve,(vb false)] 56) p12 w43→C1 w43∧Calls prog 86 #[(vp r1),(vi v13)] w43 (fun e w44=>∃eL eM lC eN lD,e=.returned (Af eL eM lC eN lD)∧(∀j,j<5→zW w44 (p12.add j))∧∀w45,w45=storeRow w44 p12 (Ac bH bI bM bJ bN)→(∀j,j<5→zW w45 (p10.add j))∧∀w46,w46=storeRow w45 p10 (Ac eL eM lC eN lD)→m_A_j6 r1 who1 p1 p12 p10 w46 K)))))∧(∀p13 w47,New w18 (.cells #[(vi 0),(vi 0),(vu 0),ve,(vb false)] 56) p13 w47→C1 w47∧(Calls prog 86 #[(vp r1),(vi v12)] w47 (fun e w48=>∃eC eD iH eE iI,e=.returned (Af eC eD iH eE iI)∧C1 w48∧(Calls prog 86 #[(vp r1),(vi v13)] w48 (fun e w49=>∃fF fG lE fH lF,e=.returned (Af fF fG lE fH lF)∧∀p14 w50,New w49 (.cells #[(vi 0),(vi 0),(vu 0),ve,(vb false)] 56) p14 w50→C1 w50∧(∀j,j<5→zW w50 (p13.add j))∧∀w51,w51=storeRow w50 p13 (Ac eC eD iH eE iI)→(∀j,j<5→zW w51 (p14.add j))∧∀w52,w52=storeRow w51 p14 (Ac fF fG lE fH lF)→m_A_j6 r1 who1 p1 p13 p14 w52 K))∧(∀p15 w53,New w48 (.cells #[(vi 0),(vi 0),(vu 0),ve,(vb false)] 56) p15 w53→C1 w53∧Calls prog 86 #[(vp r1),(vi v13)] w53 (fun e w54=>∃fI fJ lG fK lH,e=.returned (Af fI fJ lG fK lH)∧(∀j,j<5→zW w54 (p13.add j))∧∀w55,w55=storeRow w54 p13 (Ac eC eD iH eE iI)→(∀j,j<5→zW w55 (p15.add j))∧∀w56,w56=storeRow w55 p15 (Ac fI fJ lG fK lH)→m_A_j6 r1 who1 p1 p13 p15 w56 K))))∧(∀p16 w57,New w47 (.cells #[(vi 0),(vi 0),(vu 0),ve,(vb false)] 56) p16 w57→C1 w57∧Calls prog 86 #[(vp r1),(vi v12)] w57 (fun e w58=>∃eO eP lI eQ lJ,e=.returned (Af eO eP lI eQ lJ)∧C1 w58∧Calls prog 86 #[(vp r1),(vi v13)] w58 (fun e w59=>∃fL fM lK fN lL,e=.returned (Af fL fM lK fN lL)∧(∀j,j<5→zW w59 (p13.add j))∧∀w60,w60=storeRow w59 p13 (Ac eO eP lI eQ lJ)→(∀j,j<5→zW w60 (p16.add j))∧∀w61,w61=storeRow w60 p16 (Ac fL fM lK fN lL)→m_A_j6 r1 who1 p1 p13 p16 w61 K))))∧(∀p17 w62,New w18 (.cells #[(vi 0),(vi 0),(vu 0),ve,(vb false)] 56) p17 w62→C1 w62∧(Calls prog 86 #[(vp r1),(vi v12)] w62 (fun e w63=>∃eF eG iJ eH iK,e=.returned (Af eF eG iJ eH iK)∧C1 w63∧(Calls prog 86 #[(vp r1),(vi v13)] w63 (fun e w64=>∃fO fP lM fQ lN,e=.returned (Af fO fP lM fQ lN)∧∀p18 w65,New w64 (.cells #[(vi 0),(vi 0),(vu 0),ve,(vb false)] 56) p18 w65→C1 w65∧(∀j,j<5→zW w65 (p18.add j))∧∀w66,w66=storeRow w65 p18 (Ac eF eG iJ eH iK)→(∀j,j<5→zW w66 (p17.add j))∧∀w67,w67=storeRow w66 p17 (Ac fO fP lM fQ lN)→m_A_j6 r1 who1 p1 p18 p17 w67 K))∧(∀p19 w68,New w63 (.cells #[(vi 0),(vi 0),(vu 0),ve,(vb false)] 56) p19 w68→C1 w68∧Calls prog 86 #[(vp r1),(vi v13)] w68 (fun e w69=>∃eR eS lO eT lP,e=.returned (Af eR eS lO eT lP)∧(∀j,j<5→zW w69 (p19.add j))∧∀w70,w70=storeRow w69 p19 (Ac eF eG iJ eH iK)→(∀j,j<5→zW w70 (p17.add j))∧∀w71,w71=storeRow w70 p17 (Ac eR eS lO eT lP)→m_A_j6 r1 who1 p1 p19 p17 w71 K))))∧(∀p20 w72,New w62 (.cells #[(vi 0),(vi 0),(vu 0),ve,(vb false)] 56) p20 w72→C1 w72∧Calls prog 86 #[(vp r1),(vi v12)] w72 (fun e w73=>∃eU eV lQ eW lR,e=.returned (Af eU eV lQ eW lR)∧C1 w73∧Calls prog 86 #[(vp r1),(vi v13)] w73 (fun e w74=>∃fR fS lS fT lT,e=.returned (Af fR fS lS fT lT)∧(∀j,j<5→zW w74 (p20.add j))∧∀w75,w75=storeRow w74 p20 (Ac eU eV lQ eW lR)→(∀j,j<5→zW w75 (p17.add j))∧∀w76,w76=storeRow w75 p17 (Ac fR fS lS fT lT)→m_A_j6 r1 who1 p1 p20 p17 w76 K)))))) (∃a6,r1=some a6∧zW w (a6.add 1)∧∀w77,w77=w.setCell (a6.add 1) (vb true)→(∀j,j<5→zW w77 (p1.add j))∧∀w78,w78=storeRow w77 p1 (Ag 0 0 0 false)→∃bZ cA dK cB dL,Row w78 p1 (Ac bZ cA dK cB dL)∧K bZ cA dK cB dL w78)
def m_A_j4 (r1:Option Addr) (who1 body1:Int) (p1:Addr) (r2:ByteArray) (r3:Int) (x4:Bool) (w:World) (K:Int→Int→Int→ByteArray→Bool→WP):Prop :=Br x4 (Calls prog 91 #[(vp r1),(vi body1)] w (fun e w9=>∃r6 r7,e=.returned (.tuple #[(vu r6),(vs r7)])∧(∀j,j<5→zW w9 (p1.add j))∧∀w10,w10=storeRow w9 p1 (Ac 2 who1 r6 r7 false)→∃cE cF dP cG dQ,Row w10 p1 (Ac cE cF dP cG dQ)∧K cE cF dP cG dQ w10)) (Br (decide (r2=(⟨#[114,101,115,111,108,118,101]⟩:ByteArray))) (m_A_j5 r1 who1 p1 r3 (decide (who1≤1)) w K) (m_A_j5 r1 who1 p1 r3 false w K))
def m_A_j3 (r1:Option Addr) (who1 body1:Int) (p1:Addr) (r2:ByteArray) (r3:Int) (x3:Bool) (w:World) (K:Int→Int→Int→ByteArray→Bool→WP):Prop :=Br x3 (Calls prog 91 #[(vp r1),(vi r3)] w (fun e w7=>∃r4 r5,e=.returned (.tuple #[(vu r4),(vs r5)])∧(∀j,j<5→zW w7 (p1.add j))∧∀w8,w8=storeRow w7 p1 (Ac 6 0 r4 r5 false)→∃aU aV cC aW cD,Row w8 p1 (Ac aU aV cC aW cD)∧K aU aV cC aW cD w8)) (Br (decide (r2=(⟨#[100,101,97,108]⟩:ByteArray))) (m_A_j4 r1 who1 body1 p1 r2 r3 (decide (who1≤1)) w K) (m_A_j4 r1 who1 body1 p1 r2 r3 false w K))
def m_A_j2 (r1:Option Addr) (who1 body1:Int) (p1:Addr) (r2:ByteArray) (r3:Int) (x2:Bool) (w:World) (K:Int→Int→Int→ByteArray→Bool→WP):Prop :=Br x2 (Calls prog 88 #[(vp r1),(vi r3),(vi 2)] w (fun e w5=>∃bE bF bK aR aZ dB dC,e=.returned (Ae bE bF bK aR aZ dB dC)∧(∀j,j<5→zW w5 (p1.add j))∧∀w6,w6=storeRow w5 p1 (Ag 5 0 aR false)→∃aO aP cJ aQ cK,Row w6 p1 (Ac aO aP cJ aQ cK)∧K aO aP cJ aQ cK w6)) (Br (decide (r2=(⟨#[105,110,115,116,101,97,100]⟩:ByteArray))) (m_A_j3 r1 who1 body1 p1 r2 r3 (who1 == 2) w K) (m_A_j3 r1 who1 body1 p1 r2 r3 false w K))
def m_A_j1 (r1:Option Addr) (who1 body1:Int) (p1:Addr) (r2:ByteArray) (r3:Int) (x1:Bool) (w:World) (K:Int→Int→Int→ByteArray→Bool→WP):Prop :=Br x1 (Calls prog 88 #[(vp r1),(vi r3),(vi 2)] w (fun e w3=>∃aE aF aG aD aH aX aY,e=.returned (Ae aE aF aG aD aH aX aY)∧(∀j,j<5→zW w3 (p1.add j))∧∀w4,w4=storeRow w3 p1 (Ag 3 0 aD false)→∃aA aB cH aC cI,Row w4 p1 (Ac aA aB cH aC cI)∧K aA aB cH aC cI w4)) (Br (decide (r2=(⟨#[97,98,111,114,116,101,100]⟩:ByteArray))) (m_A_j2 r1 who1 body1 p1 r2 r3 (who1 == 2) w K) (m_A_j2 r1 who1 body1 p1 r2 r3 false w K))
def m_A (r1:Option Addr) (who1 body1:Int) (w:World) (K:Int→Int→Int→ByteArray→Bool→WP):Prop :=∀p1 w1,New w (.cells #[(vi 0),(vi 0),(vu 0),ve,(vb false)] 56) p1 w1→Calls prog 87 #[(vp r1),(vi body1)] w1 (fun e w2=>∃r2 r3,e=.returned (.tuple #[(vs r2),(vi r3)])∧Br (decide (r2=(⟨#[97,98,111,114,116]⟩:ByteArray))) (m_A_j1 r1 who1 body1 p1 r2 r3 (who1 == 0) w2 K) (m_A_j1 r1 who1 body1 p1 r2 r3 false w2 K))
theorem w_A (r1 who1 body1 w K) (h:m_A r1 who1 body1 w K):
  Calls prog 85 #[(vp r1),(vi who1),(vi body1)] w (fun e w'=>∃hI hJ pM hK pN,e=.returned (Af hI hJ pM hK pN)∧K hI hJ pM hK pN w'):=by
 refine cw (args:=[(vp r1),(vi who1),(vi body1)]) func85 ntmps85 (eg (sn (O:=(.cells #[(vi 0),(vi 0),(vu 0),ve,(vb false)] 56)) (zH (zeroValue56 _) rfl) ?_))
 intro p1 w1 hn55
 have h:=h p1 w1 hn55
 refine ln (eg (qb (sc call87 (h.mono fun e w2 ⟨r2,r3,k,h⟩=>⟨_,k,?_⟩))))
 refine q (qd (ln (zA (zL (qG (fun ρ w=>∃x1,Has ρ [(0,(vp r1)),(1,(vi who1)),(2,(vi body1)),(6,(vp (some p1))),(7,(vs r2)),(8,(vi r3)),(22,(vb x1))]∧m_A_j1 r1 who1 body1 p1 r2 r3 x1 w K) ?_ ?_)))))
 rintro ρ w ⟨x1,hH,h⟩
 refine zR hH (cbr h ?_ ?_)<;>intro h
 refine eg (qb (sc call88 (h.mono fun e w3 ⟨aE,aF,aG,aD,aH,aX,aY,k,h⟩=>⟨_,k,?_⟩)))
 refine qb (sro (sizeOf56 _) h fun w4 h=>ln (er (qU (vA ?_))))
 obtain ⟨aA,aB,cH,aC,cI,hv1,h⟩:=h
 refine gg1 results85 (rva (isAgg56 _) (sizeOf56 _) hv1) ⟨aA,aB,cH,aC,cI,rfl,h⟩
 refine qG (fun ρ w=>∃x2,Has ρ [(0,(vp r1)),(1,(vi who1)),(2,(vi body1)),(6,(vp (some p1))),(7,(vs r2)),(8,(vi r3)),(34,(vb x2))]∧m_A_j2 r1 who1 body1 p1 r2 r3 x2 w K) ?_ ?_
 rintro ρ w ⟨x2,hH,h⟩
 refine zR hH (cbr h ?_ ?_)<;>intro h
 refine eg (qb (sc call88 (h.mono fun e w5 ⟨bE,bF,bK,aR,aZ,dB,dC,k,h⟩=>⟨_,k,?_⟩)))
 refine qb (sro (sizeOf56 _) h fun w6 h=>ln (er (qU (vA ?_))))
 obtain ⟨aO,aP,cJ,aQ,cK,hv2,h⟩:=h
 refine gg1 results85 (rva (isAgg56 _) (sizeOf56 _) hv2) ⟨aO,aP,cJ,aQ,cK,rfl,h⟩
 refine qG (fun ρ w=>∃x3,Has ρ [(0,(vp r1)),(1,(vi who1)),(2,(vi body1)),(6,(vp (some p1))),(7,(vs r2)),(8,(vi r3)),(46,(vb x3))]∧m_A_j3 r1 who1 body1 p1 r2 r3 x3 w K) ?_ ?_
 rintro ρ w ⟨x3,hH,h⟩
 refine zR hH (cbr h ?_ ?_)<;>intro h
 refine eg (qb (sc call91 (h.mono fun e w7 ⟨r4,r5,k,h⟩=>⟨_,k,?_⟩)))
 refine q (qd (ln (eg (qc (sro (sizeOf56 _) h fun w8 h=>ln (er (qU (vA ?_))))))))
 obtain ⟨aU,aV,cC,aW,cD,hv3,h⟩:=h
 refine gg1 results85 (rva (isAgg56 _) (sizeOf56 _) hv3) ⟨aU,aV,cC,aW,cD,rfl,h⟩
 refine qG (fun ρ w=>∃x4,Has ρ [(0,(vp r1)),(1,(vi who1)),(2,(vi body1)),(6,(vp (some p1))),(7,(vs r2)),(8,(vi r3)),(62,(vb x4))]∧m_A_j4 r1 who1 body1 p1 r2 r3 x4 w K) ?_ ?_
 rintro ρ w ⟨x4,hH,h⟩
 refine zR hH (cbr h ?_ ?_)<;>intro h
 refine eg (qb (sc call91 (h.mono fun e w9 ⟨r6,r7,k,h⟩=>⟨_,k,?_⟩)))
 refine q (qd (ln (eg (qc (q (sro (sizeOf56 _) h fun w10 h=>ln (er (qU (vA ?_)))))))))
 obtain ⟨cE,cF,dP,cG,dQ,hv4,h⟩:=h
 refine gg1 results85 (rva (isAgg56 _) (sizeOf56 _) hv4) ⟨cE,cF,dP,cG,dQ,rfl,h⟩
 refine qG (fun ρ w=>∃x5,Has ρ [(0,(vp r1)),(1,(vi who1)),(6,(vp (some p1))),(8,(vi r3)),(79,(vb x5))]∧m_A_j5 r1 who1 p1 r3 x5 w K) ?_ ?_
 rintro ρ w ⟨x5,hH,h⟩
 refine zR hH (cbr h ?_ ?_)<;>intro h
 refine eg (qb (sc call88 (h.mono fun e w11 ⟨bO,bP,cW,cX,bG,fZ,gA,k,h⟩=>⟨_,k,?_⟩)))
 refine nw1 h (zH (zeroValue103 _) rfl) fun p2 w12 h=>sro (sizeOf103 _) h fun w13 h=>ln (qG (fun ρ w=>∃a1 a2:Addr,Has ρ [(0,(vp r1)),(1,(vi who1)),(6,(vp (some p1))),(14,(vp (some a1))),(15,(vp (some a2)))]∧m_A_j6 r1 who1 p1 a1 a2 w K) ?_ ?_)
 rintro ρ w ⟨a1,a2,hH,h⟩
 refine zR hH (qG (fun ρ w=>Has ρ [(1,(vi who1)),(6,(vp (some p1))),(14,(vp (some a1))),(15,(vp (some a2)))]∧m_A_j7 who1 p1 a1 a2 w K) ?_ ?_)
 rintro ρ w ⟨hH,h⟩
 refine zR hH (eg (qb (ql (isAgg26 _) h fun v1 h=>q (ql (isAgg9 _) h fun v2 h=>q (ql (isAgg4 _) h fun v3 h=>q ?_)))))
 obtain ⟨hg1,h⟩|⟨hg1,h⟩:=h.br
 refine sj2 135 hg1 (q2 (vb true) (xT hg1) (q (sro (sizeOf56 _) h fun w14 h=>ln (er (qU (vA ?_))))))
 obtain ⟨bT,bU,dD,bV,dE,hv5,h⟩:=h
 refine gg1 results85 (rva (isAgg56 _) (sizeOf56 _) hv5) ⟨bT,bU,dD,bV,dE,rfl,h⟩
 refine qk 135 hg1 ?_
 obtain ⟨v4,hv7,h⟩:=h
 refine q4 135 hg1 (xl (isAgg4 _) hv7) (q2 (vb v4) (xF hg1) (q (sro (sizeOf56 _) h fun w15 h=>ln (er (qU (vA ?_))))))
 obtain ⟨bW,bX,dI,bY,dJ,hv6,h⟩:=h
 refine gg1 results85 (rva (isAgg56 _) (sizeOf56 _) hv6) ⟨bW,bX,dI,bY,dJ,rfl,h⟩
 refine rg (qb (qm h fun a3 h=>q (ql (isAgg4 _) h fun v5 h=>q (zK 4 (fun ρ w=>∃x6,Has ρ [(1,(vi who1)),(6,(vp (some p1))),(14,(vp (some a1))),(15,(vp (some a2))),(97,(vp r1)),(106,(vb x6))]∧m_A_j8 r1 who1 p1 a1 a2 x6 w K) ?_ ?_))))
 rintro ρ w ⟨x6,hH,h⟩
 refine zQ hH (q (zK 4 (fun ρ w=>∃x7,Has ρ [(1,(vi who1)),(6,(vp (some p1))),(14,(vp (some a1))),(15,(vp (some a2))),(97,(vp r1)),(111,(vb x7))]∧m_A_j9 r1 who1 p1 a1 a2 x7 w K) ?_ ?_))
 rintro ρ w ⟨x7,hH,h⟩
 refine zQ hH (q (zK 6 (fun ρ w=>∃x8,Has ρ [(1,(vi who1)),(6,(vp (some p1))),(14,(vp (some a1))),(15,(vp (some a2))),(97,(vp r1)),(118,(vb x8))]∧m_A_j10 r1 who1 p1 a1 a2 x8 w K) ?_ ?_))
 rintro ρ w ⟨x8,hH,h⟩
 refine zQ hH (q ?_)
 obtain ⟨hg2,h⟩|⟨hg2,h⟩:=h.br
 refine sj5 119 hg2 (q2 (vb true) (xT hg2) (qm h fun a4 h=>q (st1 (sizeOf4 _) h fun w16 h=>ln ⟨hm,h⟩)))
 refine qk 119 hg2 ?_
 obtain ⟨v6,hv12,h⟩:=h
 refine q4 119 hg2 (xl (isAgg9 _) hv12) (qk 119 hg2 ?_)
 obtain ⟨v7,hv11,h⟩:=h
 refine q4 119 hg2 (xl (isAgg9 _) hv11) (stq (v:=(vb (!(decide (v6=v7))))) (wy 119 hg2) (xV (by kernel_rfl) (by kernel_rfl)) (q2 (vb (!(decide (v6=v7)))) (xF hg2) (qm h fun a5 h=>q (st1 (sizeOf4 _) h fun w17 h=>ln ⟨hm,h⟩))))
 obtain ⟨hg3,h⟩|⟨hg3,h⟩:=h.br
 refine sj5 112 hg3 (q2 (vb true) (xT hg3) (zC ⟨true,hm,h⟩))
 refine qk 112 hg3 ?_
 obtain ⟨v8,hv14,h⟩:=h
 refine q4 112 hg3 (xl (isAgg26 _) hv14) (qk 112 hg3 ?_)
 obtain ⟨v9,hv13,h⟩:=h
 refine q4 112 hg3 (xl (isAgg26 _) hv13) (qk 112 hg3 (q2 (vb (v8 != v9)) (xF hg3) (zC ⟨(v8 != v9),hm,h⟩)))
 obtain ⟨hg4,h⟩|⟨hg4,h⟩:=h.br
 refine sj3 107 hg4 (q2 (vb true) (xT hg4) (zC ⟨true,hm,h⟩))
 refine qk 107 hg4 ?_
 obtain ⟨v10,hv15,h⟩:=h
 refine q4 107 hg4 (xl (isAgg3 _) hv15) (qk 107 hg4 (q2 (vb (v10 != 1)) (xF hg4) (zC ⟨(v10 != 1),hm,h⟩)))
 obtain ⟨hg5,h⟩|⟨hg5,h⟩:=h.br
 refine sj3 102 hg5 (q2 (vb true) (xT hg5) (zC ⟨true,hm,h⟩))
 refine qk 102 hg5 ?_
 obtain ⟨v11,hv16,h⟩:=h
 refine q4 102 hg5 (xl (isAgg3 _) hv16) (qk 102 hg5 (q2 (vb (v11 != 0)) (xF hg5) (zC ⟨(v11 != 0),hm,h⟩)))
 obtain ⟨C1,hC,h⟩:=h
 refine dr1 C1 [3,7,8,9,10,11] [7,10,11] hC h fun w18 h=>qx 0 (vp r1) Kp0 (qx 1 (vp (some (p2.add 5))) Kp1 (qg 2 ?_))
 obtain ⟨v12,hv19,h⟩:=h
 refine sy Kp2 (fun _ k=>xl (isAgg23 _) (hv19 _ k)) (qx 4 (vp r1) Kp4 (qx 5 (vp (some (p2.add 6))) Kp5 (qg 6 ?_)))
 obtain ⟨v13,hv18,h⟩:=h
 refine sy Kp6 (fun _ k=>xl (isAgg23 _) (hv18 _ k)) (lgo3 (k:=3) (k':=8) (k'':=9) (by kernel_rfl) ?_ ?_ ?_)
 have h:=h.1
 refine slc Kp3 call86 (h.mono ?_)
 rintro e w19 ⟨bH,bI,bM,bJ,bN,rfl,hC,h⟩
 refine ⟨_,rfl,.inr hC,?_⟩
 refine lgo3 (k:=7) (k':=8) (k'':=9) (by kernel_rfl) ?_ ?_ ?_
 have h:=h.1
 refine slc Kp7 call86 (h.mono ?_)
 rintro e w20 ⟨cT,cU,dU,cV,dV,rfl,h⟩
 refine ⟨_,rfl,.inl (by kernel_rfl),?_⟩
 refine jRP (k:=8) (k':=9) (by kernel_rfl) ?_ ?_
 have h:=h.1
 refine qH (O:=(.cells #[(vi 0),(vi 0),(vu 0),ve,(vb false)] 56)) (fun p=>.pointer (some p)) Kp8 (zJ rfl) (by kernel_rfl) (zH (zeroValue56 _) rfl) ?_
 intro p3 w21 hn13
 have h:=h p3 w21 hn13
 refine ⟨.inr h.1,?_⟩
 have h:=h.2
 refine lg 9 (qH (O:=(.cells #[(vi 0),(vi 0),(vu 0),ve,(vb false)] 56)) (fun p=>.pointer (some p)) Kp9 (zJ rfl) (by kernel_rfl) (zH (zeroValue56 _) rfl) ?_)
 intro p4 w22 hn12
 have h:=h p4 w22 hn12
 refine ⟨.inr h.1,?_⟩
 have h:=h.2
 refine lg 10 (slo (zG (S8 (zB (zB zF)))) (sizeOf56 _) h fun w23 h=>⟨.inl (by kernel_rfl),?_⟩)
 refine lg 11 (slo (zG (S8 (zB (zB (zB zF))))) (sizeOf56 _) h fun w24 h=>⟨.inl (by kernel_rfl),?_⟩)
 refine wn (zN ⟨p3,p4,hm,h⟩)
 have h:=h.2
 refine qH (O:=(.cells #[(vi 0),(vi 0),(vu 0),ve,(vb false)] 56)) (fun p=>.pointer (some p)) Kp9 (zJ rfl) (by kernel_rfl) (zH (zeroValue56 _) rfl) ?_
 intro p5 w25 hn17
 have h:=h p5 w25 hn17
 refine ⟨.inr h.1,?_⟩
 have h:=h.2
 refine lg 8 (qH (O:=(.cells #[(vi 0),(vi 0),(vu 0),ve,(vb false)] 56)) (fun p=>.pointer (some p)) Kp8 (zJ rfl) (by kernel_rfl) (zH (zeroValue56 _) rfl) ?_)
 intro p6 w26 hn16
 have h:=h p6 w26 hn16
 refine ⟨.inr h.1,?_⟩
 have h:=h.2
 refine lg 10 (slo (zG (S8 (zB (zB zF)))) (sizeOf56 _) h fun w27 h=>⟨.inl (by kernel_rfl),?_⟩)
 refine lg 11 (slo (zG (S8 (zB (zB (zB zF))))) (sizeOf56 _) h fun w28 h=>⟨.inl (by kernel_rfl),?_⟩)
 refine wn (zN ⟨p6,p5,hm,h⟩)
 have h:=h.2.1
 refine qH (O:=(.cells #[(vi 0),(vi 0),(vu 0),ve,(vb false)] 56)) (fun p=>.pointer (some p)) Kp8 (zJ rfl) (by kernel_rfl) (zH (zeroValue56 _) rfl) ?_
 intro p7 w29 hn24
 have h:=h p7 w29 hn24
 refine ⟨.inr h.1,?_⟩
 have h:=h.2
 refine jRP (k:=7) (k':=9) (by kernel_rfl) ?_ ?_
 have h:=h.1
 refine slc Kp7 call86 (h.mono ?_)
 rintro e w30 ⟨dW,dX,fU,dY,fV,rfl,h⟩
 refine ⟨_,rfl,.inl (by kernel_rfl),?_⟩
 refine lg 9 (qH (O:=(.cells #[(vi 0),(vi 0),(vu 0),ve,(vb false)] 56)) (fun p=>.pointer (some p)) Kp9 (zJ rfl) (by kernel_rfl) (zH (zeroValue56 _) rfl) ?_)
 intro p8 w31 hn20
 have h:=h p8 w31 hn20
 refine ⟨.inr h.1,?_⟩
 have h:=h.2
 refine lg 10 (slo (zG (S8 (zB (zB zF)))) (sizeOf56 _) h fun w32 h=>⟨.inl (by kernel_rfl),?_⟩)
 refine lg 11 (slo (zG (S8 (zB (zB (zB zF))))) (sizeOf56 _) h fun w33 h=>⟨.inl (by kernel_rfl),?_⟩)
 refine wn (zN ⟨p7,p8,hm,h⟩)
 have h:=h.2
 refine qH (O:=(.cells #[(vi 0),(vi 0),(vu 0),ve,(vb false)] 56)) (fun p=>.pointer (some p)) Kp9 (zJ rfl) (by kernel_rfl) (zH (zeroValue56 _) rfl) ?_
 intro p9 w34 hn23
 have h:=h p9 w34 hn23
 refine ⟨.inr h.1,?_⟩
 have h:=h.2
 refine lg 7 (slc Kp7 call86 (h.mono ?_))
 rintro e w35 ⟨eI,eJ,kY,eK,kZ,rfl,h⟩
 refine ⟨_,rfl,.inl (by kernel_rfl),?_⟩
 refine lg 10 (slo (zG (S8 (zB (zB zF)))) (sizeOf56 _) h fun w36 h=>⟨.inl (by kernel_rfl),?_⟩)
 refine lg 11 (slo (zG (S8 (zB (zB (zB zF))))) (sizeOf56 _) h fun w37 h=>⟨.inl (by kernel_rfl),?_⟩)
 refine wn (zN ⟨p7,p9,hm,h⟩)
 have h:=h.2.2
 refine qH (O:=(.cells #[(vi 0),(vi 0),(vu 0),ve,(vb false)] 56)) (fun p=>.pointer (some p)) Kp9 (zJ rfl) (by kernel_rfl) (zH (zeroValue56 _) rfl) ?_
 intro p10 w38 hn31
 have h:=h p10 w38 hn31
 refine ⟨.inr h.1,?_⟩
 have h:=h.2
 refine jRP (k:=7) (k':=8) (by kernel_rfl) ?_ ?_
 have h:=h.1
 refine slc Kp7 call86 (h.mono ?_)
 rintro e w39 ⟨dZ,eA,lA,eB,lB,rfl,h⟩
 refine ⟨_,rfl,.inl (by kernel_rfl),?_⟩
 refine lg 8 (qH (O:=(.cells #[(vi 0),(vi 0),(vu 0),ve,(vb false)] 56)) (fun p=>.pointer (some p)) Kp8 (zJ rfl) (by kernel_rfl) (zH (zeroValue56 _) rfl) ?_)
 intro p11 w40 hn27
 have h:=h p11 w40 hn27
 refine ⟨.inr h.1,?_⟩
 have h:=h.2
 refine lg 10 (slo (zG (S8 (zB (zB zF)))) (sizeOf56 _) h fun w41 h=>⟨.inl (by kernel_rfl),?_⟩)
 refine lg 11 (slo (zG (S8 (zB (zB (zB zF))))) (sizeOf56 _) h fun w42 h=>⟨.inl (by kernel_rfl),?_⟩)
 refine wn (zN ⟨p11,p10,hm,h⟩)
 have h:=h.2
 refine qH (O:=(.cells #[(vi 0),(vi 0),(vu 0),ve,(vb false)] 56)) (fun p=>.pointer (some p)) Kp8 (zJ rfl) (by kernel_rfl) (zH (zeroValue56 _) rfl) ?_
 intro p12 w43 hn30
 have h:=h p12 w43 hn30
 refine ⟨.inr h.1,?_⟩
 have h:=h.2
 refine lg 7 (slc Kp7 call86 (h.mono ?_))
 rintro e w44 ⟨eL,eM,lC,eN,lD,rfl,h⟩
 refine ⟨_,rfl,.inl (by kernel_rfl),?_⟩
 refine lg 10 (slo (zG (S8 (zB (zB zF)))) (sizeOf56 _) h fun w45 h=>⟨.inl (by kernel_rfl),?_⟩)
 refine lg 11 (slo (zG (S8 (zB (zB (zB zF))))) (sizeOf56 _) h fun w46 h=>⟨.inl (by kernel_rfl),?_⟩)
 refine wn (zN ⟨p12,p10,hm,h⟩)
 have h:=h.2.1
 refine qH (O:=(.cells #[(vi 0),(vi 0),(vu 0),ve,(vb false)] 56)) (fun p=>.pointer (some p)) Kp8 (zJ rfl) (by kernel_rfl) (zH (zeroValue56 _) rfl) ?_
 intro p13 w47 hn41
 have h:=h p13 w47 hn41
 refine ⟨.inr h.1,?_⟩
 have h:=h.2
 refine jRP (k:=3) (k':=9) (by kernel_rfl) ?_ ?_
 have h:=h.1
 refine slc Kp3 call86 (h.mono ?_)
 rintro e w48 ⟨eC,eD,iH,eE,iI,rfl,hC,h⟩
 refine ⟨_,rfl,.inr hC,?_⟩
 refine jRP (k:=7) (k':=9) (by kernel_rfl) ?_ ?_
 have h:=h.1
 refine slc Kp7 call86 (h.mono ?_)
 rintro e w49 ⟨fF,fG,lE,fH,lF,rfl,h⟩
 refine ⟨_,rfl,.inl (by kernel_rfl),?_⟩
 refine lg 9 (qH (O:=(.cells #[(vi 0),(vi 0),(vu 0),ve,(vb false)] 56)) (fun p=>.pointer (some p)) Kp9 (zJ rfl) (by kernel_rfl) (zH (zeroValue56 _) rfl) ?_)
 intro p14 w50 hn34
 have h:=h p14 w50 hn34
 refine ⟨.inr h.1,?_⟩
 have h:=h.2
 refine lg 10 (slo (zG (S8 (zB (zB zF)))) (sizeOf56 _) h fun w51 h=>⟨.inl (by kernel_rfl),?_⟩)
 refine lg 11 (slo (zG (S8 (zB (zB (zB zF))))) (sizeOf56 _) h fun w52 h=>⟨.inl (by kernel_rfl),?_⟩)
 refine wn (zN ⟨p13,p14,hm,h⟩)
 have h:=h.2
 refine qH (O:=(.cells #[(vi 0),(vi 0),(vu 0),ve,(vb false)] 56)) (fun p=>.pointer (some p)) Kp9 (zJ rfl) (by kernel_rfl) (zH (zeroValue56 _) rfl) ?_
 intro p15 w53 hn37
 have h:=h p15 w53 hn37
 refine ⟨.inr h.1,?_⟩
 have h:=h.2
 refine lg 7 (slc Kp7 call86 (h.mono ?_))
 rintro e w54 ⟨fI,fJ,lG,fK,lH,rfl,h⟩
 refine ⟨_,rfl,.inl (by kernel_rfl),?_⟩
 refine lg 10 (slo (zG (S8 (zB (zB zF)))) (sizeOf56 _) h fun w55 h=>⟨.inl (by kernel_rfl),?_⟩)
 refine lg 11 (slo (zG (S8 (zB (zB (zB zF))))) (sizeOf56 _) h fun w56 h=>⟨.inl (by kernel_rfl),?_⟩)
 refine wn (zN ⟨p13,p15,hm,h⟩)
 have h:=h.2
 refine qH (O:=(.cells #[(vi 0),(vi 0),(vu 0),ve,(vb false)] 56)) (fun p=>.pointer (some p)) Kp9 (zJ rfl) (by kernel_rfl) (zH (zeroValue56 _) rfl) ?_
 intro p16 w57 hn40
 have h:=h p16 w57 hn40
 refine ⟨.inr h.1,?_⟩
 have h:=h.2
 refine lg 3 (slc Kp3 call86 (h.mono ?_))
 rintro e w58 ⟨eO,eP,lI,eQ,lJ,rfl,hC,h⟩
 refine ⟨_,rfl,.inr hC,?_⟩
 refine lg 7 (slc Kp7 call86 (h.mono ?_))
 rintro e w59 ⟨fL,fM,lK,fN,lL,rfl,h⟩
 refine ⟨_,rfl,.inl (by kernel_rfl),?_⟩
 refine lg 10 (slo (zG (S8 (zB (zB zF)))) (sizeOf56 _) h fun w60 h=>⟨.inl (by kernel_rfl),?_⟩)
 refine lg 11 (slo (zG (S8 (zB (zB (zB zF))))) (sizeOf56 _) h fun w61 h=>⟨.inl (by kernel_rfl),?_⟩)
 refine wn (zN ⟨p13,p16,hm,h⟩)
 have h:=h.2.2
 refine qH (O:=(.cells #[(vi 0),(vi 0),(vu 0),ve,(vb false)] 56)) (fun p=>.pointer (some p)) Kp9 (zJ rfl) (by kernel_rfl) (zH (zeroValue56 _) rfl) ?_
 intro p17 w62 hn51
 have h:=h p17 w62 hn51
 refine ⟨.inr h.1,?_⟩
 have h:=h.2
 refine jRP (k:=3) (k':=8) (by kernel_rfl) ?_ ?_
 have h:=h.1
 refine slc Kp3 call86 (h.mono ?_)
 rintro e w63 ⟨eF,eG,iJ,eH,iK,rfl,hC,h⟩
 refine ⟨_,rfl,.inr hC,?_⟩
 refine jRP (k:=7) (k':=8) (by kernel_rfl) ?_ ?_
 have h:=h.1
 refine slc Kp7 call86 (h.mono ?_)
 rintro e w64 ⟨fO,fP,lM,fQ,lN,rfl,h⟩
 refine ⟨_,rfl,.inl (by kernel_rfl),?_⟩
 refine lg 8 (qH (O:=(.cells #[(vi 0),(vi 0),(vu 0),ve,(vb false)] 56)) (fun p=>.pointer (some p)) Kp8 (zJ rfl) (by kernel_rfl) (zH (zeroValue56 _) rfl) ?_)
 intro p18 w65 hn44
 have h:=h p18 w65 hn44
 refine ⟨.inr h.1,?_⟩
 have h:=h.2
 refine lg 10 (slo (zG (S8 (zB (zB zF)))) (sizeOf56 _) h fun w66 h=>⟨.inl (by kernel_rfl),?_⟩)
 refine lg 11 (slo (zG (S8 (zB (zB (zB zF))))) (sizeOf56 _) h fun w67 h=>⟨.inl (by kernel_rfl),?_⟩)
 refine wn (zN ⟨p18,p17,hm,h⟩)
 have h:=h.2
 refine qH (O:=(.cells #[(vi 0),(vi 0),(vu 0),ve,(vb false)] 56)) (fun p=>.pointer (some p)) Kp8 (zJ rfl) (by kernel_rfl) (zH (zeroValue56 _) rfl) ?_
 intro p19 w68 hn47
 have h:=h p19 w68 hn47
 refine ⟨.inr h.1,?_⟩
 have h:=h.2
 refine lg 7 (slc Kp7 call86 (h.mono ?_))
 rintro e w69 ⟨eR,eS,lO,eT,lP,rfl,h⟩
 refine ⟨_,rfl,.inl (by kernel_rfl),?_⟩
 refine lg 10 (slo (zG (S8 (zB (zB zF)))) (sizeOf56 _) h fun w70 h=>⟨.inl (by kernel_rfl),?_⟩)
 refine lg 11 (slo (zG (S8 (zB (zB (zB zF))))) (sizeOf56 _) h fun w71 h=>⟨.inl (by kernel_rfl),?_⟩)
 refine wn (zN ⟨p19,p17,hm,h⟩)
 have h:=h.2
 refine qH (O:=(.cells #[(vi 0),(vi 0),(vu 0),ve,(vb false)] 56)) (fun p=>.pointer (some p)) Kp8 (zJ rfl) (by kernel_rfl) (zH (zeroValue56 _) rfl) ?_
 intro p20 w72 hn50
 have h:=h p20 w72 hn50
 refine ⟨.inr h.1,?_⟩
 have h:=h.2
 refine lg 3 (slc Kp3 call86 (h.mono ?_))
 rintro e w73 ⟨eU,eV,lQ,eW,lR,rfl,hC,h⟩
 refine ⟨_,rfl,.inr hC,?_⟩
 refine lg 7 (slc Kp7 call86 (h.mono ?_))
 rintro e w74 ⟨fR,fS,lS,fT,lT,rfl,h⟩
 refine ⟨_,rfl,.inl (by kernel_rfl),?_⟩
 refine lg 10 (slo (zG (S8 (zB (zB zF)))) (sizeOf56 _) h fun w75 h=>⟨.inl (by kernel_rfl),?_⟩)
 refine lg 11 (slo (zG (S8 (zB (zB (zB zF))))) (sizeOf56 _) h fun w76 h=>⟨.inl (by kernel_rfl),?_⟩)
 refine wn (zN ⟨p20,p17,hm,h⟩)
 refine zD (tG (zN (eg (q (qm h fun a6 h=>q (st1 (sizeOf4 _) h fun w77 h=>ln (eg (q (sro (sizeOf56 _) h fun w78 h=>ln (er ?_))))))))))
 obtain ⟨bZ,cA,dK,cB,dL,hv20,h⟩:=h
 refine gg1 results85 (rva (isAgg56 _) (sizeOf56 _) hv20) ⟨bZ,cA,dK,cB,dL,rfl,h⟩
 refine rg (q (q2 (vb (decide (r2=(⟨#[114,101,115,111,108,118,101]⟩:ByteArray)))) (jAY (by kernel_rfl) (by kernel_rfl)) (q ?_)))
 obtain ⟨hg6,h⟩|⟨hg6,h⟩:=h.br
 refine qk 82 hg6 (qk 82 hg6 (q2 (vb (decide (who1≤1))) (xT hg6) (q (ln ⟨(decide (who1≤1)),hm,h⟩))))
 refine sj2 82 hg6 (q2 (vb false) (xF hg6) (q (ln ⟨false,hm,h⟩)))
 refine rg (q (q2 (vb (decide (r2=(⟨#[100,101,97,108]⟩:ByteArray)))) (jAY (by kernel_rfl) (by kernel_rfl)) (q ?_)))
 obtain ⟨hg7,h⟩|⟨hg7,h⟩:=h.br
 refine qk 65 hg7 (qk 65 hg7 (q2 (vb (decide (who1≤1))) (xT hg7) (q (ln ⟨(decide (who1≤1)),hm,h⟩))))
 refine sj2 65 hg7 (q2 (vb false) (xF hg7) (q (ln ⟨false,hm,h⟩)))
 refine rg (q (q2 (vb (decide (r2=(⟨#[105,110,115,116,101,97,100]⟩:ByteArray)))) (jAY (by kernel_rfl) (by kernel_rfl)) (q ?_)))
 obtain ⟨hg8,h⟩|⟨hg8,h⟩:=h.br
 refine qk 49 hg8 (qk 49 hg8 (q2 (vb (who1 == 2)) (xT hg8) (q (ln ⟨(who1 == 2),hm,h⟩))))
 refine sj2 49 hg8 (q2 (vb false) (xF hg8) (q (ln ⟨false,hm,h⟩)))
 refine rg (q (q2 (vb (decide (r2=(⟨#[97,98,111,114,116,101,100]⟩:ByteArray)))) (jAY (by kernel_rfl) (by kernel_rfl)) (q ?_)))
 obtain ⟨hg9,h⟩|⟨hg9,h⟩:=h.br
 refine qk 37 hg9 (qk 37 hg9 (q2 (vb (who1 == 2)) (xT hg9) (q (ln ⟨(who1 == 2),hm,h⟩))))
 refine sj2 37 hg9 (q2 (vb false) (xF hg9) (q (ln ⟨false,hm,h⟩)))
 refine rg (q (q2 (vb (decide (r2=(⟨#[97,98,111,114,116]⟩:ByteArray)))) (jAY (by kernel_rfl) (by kernel_rfl)) (q ?_)))
 obtain ⟨hg10,h⟩|⟨hg10,h⟩:=h.br
 refine qk 25 hg10 (qk 25 hg10 (q2 (vb (who1 == 0)) (xT hg10) (q (ln ⟨(who1 == 0),hm,h⟩))))
 refine sj2 25 hg10 (q2 (vb false) (xF hg10) (q (ln ⟨false,hm,h⟩)))
def m_N_j1 (r1:Option Addr) (p1 p2:Addr) (w:World) (K:Int→Int→Int→ByteArray→Bool→WP):Prop :=∃v2,w.cell? (p2.add 5)=some (vi v2)∧Calls prog 91 #[(vp r1),(vi v2)] w (fun e w5=>∃r3 r4,e=.returned (.tuple #[(vu r3),(vs r4)])∧∃v3,w5.cell? (p2.add 1)=some (vi v3)∧∃v4,w5.cell? p2=some (vi v4)∧(∀j,j<5→zW w5 (p1.add j))∧∀w6,w6=storeRow w5 p1 (Ac 1 v3 r3 r4 (v4 == 9))→∃aA aB cH aC cI,Row w6 p1 (Ac aA aB cH aC cI)∧K aA aB cH aC cI w6)
def m_N_j3 (r1:Option Addr) (p1 p2:Addr) (x2:Bool) (w:World) (K:Int→Int→Int→ByteArray→Bool→WP):Prop :=Br x2 (∃a2,r1=some a2∧zW w (a2.add 1)∧∀w7,w7=w.setCell (a2.add 1) (vb true)→(∀j,j<5→zW w7 (p1.add j))∧∀w8,w8=storeRow w7 p1 (Ag 0 0 0 false)→∃aO aP cJ aQ cK,Row w8 p1 (Ac aO aP cJ aQ cK)∧K aO aP cJ aQ cK w8) (∃v6,w.cell? (p2.add 2)=some (vi v6)∧∃v7,w.cell? (p2.add 1)=some (vi v7)∧Br (v6 != (q6.wrap (1 - v7))) (∃a3,r1=some a3∧zW w (a3.add 1)∧∀w9,w9=w.setCell (a3.add 1) (vb true)→(∀j,j<5→zW w9 (p1.add j))∧∀w10,w10=storeRow w9 p1 (Ag 0 0 0 false)→∃aU aV cC aW cD,Row w10 p1 (Ac aU aV cC aW cD)∧K aU aV cC aW cD w10) (m_N_j1 r1 p1 p2 w K))
def m_N_j2 (r1:Option Addr) (p1 p2:Addr) (x1:Bool) (w:World) (K:Int→Int→Int→ByteArray→Bool→WP):Prop :=Br x1 (m_N_j3 r1 p1 p2 true w K) (∃v8,w.cell? (p2.add 1)=some (vi v8)∧m_N_j3 r1 p1 p2 (decide (v8>1)) w K)
def m_N (r1:Option Addr) (t1:Int) (w:World) (K:Int→Int→Int→ByteArray→Bool→WP):Prop :=∀p1 w1,New w (.cells #[(vi 0),(vi 0),(vu 0),ve,(vb false)] 56) p1 w1→∃a1,r1=some a1∧∃v1,w1.cell? a1=some (vp v1)∧Calls prog 61 #[(vp v1),(vi t1)] w1 (fun e w2=>∃aE aF aG aD aH aX aY r2,e=.returned (.tuple #[(Ae aE aF aG aD aH aX aY),(vb r2)])∧∀p2 w3,New w2 (.cells #[(vi 0),(vi 0),(vi 0),(vu 0),ve,(vi 0),(vi 0)] 103) p2 w3→(∀j,j<7→zW w3 (p2.add j))∧∀w4,w4=storeRow w3 p2 (Ad aE aF aG aD aH aX aY)→∃v5,w4.cell? p2=some (vi v5)∧Br (v5 != 8) (∃v9,w4.cell? p2=some (vi v9)∧m_N_j2 r1 p1 p2 (v9 != 9) w4 K) (m_N_j2 r1 p1 p2 false w4 K))
theorem w_N (r1 t1 w K) (h:m_N r1 t1 w K):
  Calls prog 86 #[(vp r1),(vi t1)] w (fun e w'=>∃bE bF bM aZ bN,e=.returned (Af bE bF bM aZ bN)∧K bE bF bM aZ bN w'):=by
 refine cw (args:=[(vp r1),(vi t1)]) func86 ntmps86 (eg (sn (O:=(.cells #[(vi 0),(vi 0),(vu 0),ve,(vb false)] 56)) (zH (zeroValue56 _) rfl) ?_))
 intro p1 w1 hn8
 have h:=h p1 w1 hn8
 refine ln (eg (q (qm h fun a1 h=>q (ql (isAgg29 _) h fun v1 h=>q (sc call61 (h.mono fun e w2 ⟨aE,aF,aG,aD,aH,aX,aY,r2,k,h⟩=>⟨_,k,?_⟩))))))
 refine qc (nw1 h (zH (zeroValue103 _) rfl) fun p2 w3 h=>sro (sizeOf103 _) h fun w4 h=>q (ln (qG (fun ρ w=>Has ρ [(0,(vp r1)),(4,(vp (some p1))),(5,(vp (some p2)))]∧m_N_j1 r1 p1 p2 w K) ?_ ?_)))
 rintro ρ w ⟨hH,h⟩
 refine zR hH (eg (qb (ql (isAgg23 _) h fun v2 h=>sc call91 (h.mono fun e w5 ⟨r3,r4,k,h⟩=>⟨_,k,?_⟩))))
 refine q (qd (ln (eg (q (ql (isAgg3 _) h fun v3 h=>qc (ql (isAgg3 _) h fun v4 h=>qb (sro (sizeOf56 _) h fun w6 h=>ln (er ?_))))))))
 obtain ⟨aA,aB,cH,aC,cI,hv1,h⟩:=h
 refine gg1 results86 (rva (isAgg56 _) (sizeOf56 _) hv1) ⟨aA,aB,cH,aC,cI,rfl,h⟩
 refine eg (q (ql (isAgg3 _) h fun v5 h=>qb (zK 4 (fun ρ w=>∃x1,Has ρ [(0,(vp r1)),(4,(vp (some p1))),(5,(vp (some p2))),(25,(vb x1))]∧m_N_j2 r1 p1 p2 x1 w K) ?_ ?_)))
 rintro ρ w ⟨x1,hH,h⟩
 refine zQ hH (q (zK 4 (fun ρ w=>∃x2,Has ρ [(0,(vp r1)),(4,(vp (some p1))),(5,(vp (some p2))),(30,(vb x2))]∧m_N_j3 r1 p1 p2 x2 w K) ?_ ?_))
 rintro ρ w ⟨x2,hH,h⟩
 refine zQ hH (q ?_)
 obtain ⟨hg1,h⟩|⟨hg1,h⟩:=h.br
 refine sj 31 hg1 (sj5 31 hg1 (q2 (vb true) (xT hg1) (ln (yC (by kernel_rfl) (eg (q (qm h fun a2 h=>q (st1 (sizeOf4 _) h fun w7 h=>ln (eg (q (sro (sizeOf56 _) h fun w8 h=>ln (er (vA ?_)))))))))))))
 obtain ⟨aO,aP,cJ,aQ,cK,hv5,h⟩:=h
 refine gg1 results86 (rva (isAgg56 _) (sizeOf56 _) hv5) ⟨aO,aP,cJ,aQ,cK,rfl,h⟩
 refine qk 31 hg1 ?_
 obtain ⟨v6,hv8,h⟩:=h
 refine q4 31 hg1 (xl (isAgg3 _) hv8) (qk 31 hg1 ?_)
 obtain ⟨v7,hv7,h⟩:=h
 refine q4 31 hg1 (xl (isAgg3 _) hv7) (qk 31 hg1 (qk 31 hg1 (q2 (vb (v6 != (q6.wrap (1 - v7)))) (xF hg1) (ln (cbr h ?_ ?_)))))<;>intro h
 refine eg (q (qm h fun a3 h=>q (st1 (sizeOf4 _) h fun w9 h=>ln (eg (q (sro (sizeOf56 _) h fun w10 h=>ln (er (vA ?_))))))))
 obtain ⟨aU,aV,cC,aW,cD,hv6,h⟩:=h
 refine gg1 results86 (rva (isAgg56 _) (sizeOf56 _) hv6) ⟨aU,aV,cC,aW,cD,rfl,h⟩
 refine zD (zN ⟨hm,h⟩)
 obtain ⟨hg2,h⟩|⟨hg2,h⟩:=h.br
 refine sj3 26 hg2 (q2 (vb true) (xT hg2) (zC ⟨true,hm,h⟩))
 refine qk 26 hg2 ?_
 obtain ⟨v8,hv9,h⟩:=h
 refine q4 26 hg2 (xl (isAgg3 _) hv9) (qk 26 hg2 (q2 (vb (decide (v8>1))) (xF hg2) (zC ⟨(decide (v8>1)),hm,h⟩)))
 obtain ⟨hg3,h⟩|⟨hg3,h⟩:=h.br
 refine qk 21 hg3 ?_
 obtain ⟨v9,hv10,h⟩:=h
 refine q4 21 hg3 (xl (isAgg3 _) hv10) (qk 21 hg3 (q2 (vb (v9 != 9)) (xT hg3) (zC ⟨(v9 != 9),hm,h⟩)))
 refine sj3 21 hg3 (q2 (vb false) (xF hg3) (zC ⟨false,hm,h⟩))
def m_E2 (r1:Option Addr) (t1:Int) (w:World) (K:ByteArray→Int→WP):Prop :=Calls prog 88 #[(vp r1),(vi t1),(vi 4)] w (fun e w1=>∃aE aF aG aD aH aX aY,e=.returned (Ae aE aF aG aD aH aX aY)∧∀p1 w2,New w1 (.cells #[(vi 0),(vi 0),(vi 0),(vu 0),ve,(vi 0),(vi 0)] 103) p1 w2→(∀j,j<7→zW w2 (p1.add j))∧∀w3,w3=storeRow w2 p1 (Ad aE aF aG aD aH aX aY)→∃C1:WP,C1 w3.drew∧∀w4,w4=w3.drew→∃v1,(∀w',C1 w'→w'.cell? (p1.add 5)=some (vi v1))∧∃v2,(∀w',C1 w'→w'.cell? (p1.add 6)=some (vi v2))∧Calls prog 88 #[(vp r1),(vi v1),(vi 3)] w4 (fun e w5=>∃bE bF bK aR aZ dB dC,e=.returned (Ae bE bF bK aR aZ dB dC)∧C1 w5∧K aZ v2 w5))
theorem w_E2 (r1 t1 w K) (h:m_E2 r1 t1 w K):
  Calls prog 87 #[(vp r1),(vi t1)] w (fun e w'=>∃r2 r3,e=.returned (.tuple #[(vs r2),(vi r3)])∧K r2 r3 w'):=by
 refine cw (args:=[(vp r1),(vi t1)]) func87 ntmps87 (eg (q0 ve (q0 (vi 0) (ln (eg (q0 (vp r1) (q0 (vi t1) ?_)))))))
 refine sc call88 (h.mono fun e w1 ⟨aE,aF,aG,aD,aH,aX,aY,k,h⟩=>⟨_,k,?_⟩)
 refine nw1 h (zH (zeroValue103 _) rfl) fun p1 w2 h=>sro (sizeOf103 _) h fun w3 h=>ln (zA ?_)
 obtain ⟨C1,hC,h⟩:=h
 refine dr1 C1 [3] [] hC h fun w4 h=>qx 0 (vp r1) Kp0 (qx 1 (vp (some (p1.add 5))) Kp1 (qg 2 ?_))
 obtain ⟨v1,hv2,h⟩:=h
 refine sy Kp2 (fun _ k=>xl (isAgg23 _) (hv2 _ k)) (qx 5 (vp (some (p1.add 6))) Kp5 (qg 6 ?_))
 obtain ⟨v2,hv1,h⟩:=h
 refine sy Kp6 (fun _ k=>xl (isAgg23 _) (hv1 _ k)) (lg 3 (slc Kp3 call88 (h.mono ?_)))
 rintro e w5 ⟨bE,bF,bK,aR,aZ,dB,dC,rfl,hC,h⟩
 refine ⟨_,rfl,.inr hC,?_⟩
 refine qx 4 (vs aZ) Kp4 (qx 7 (vs aZ) Kp7 (qx 8 (vi v2) Kp8 (wn (zN (er (tE (.inl rfl) results87 (v:=(vs aZ)) (by kernel_rfl) (v':=(vi v2)) (by kernel_rfl) ⟨aZ,v2,rfl,h⟩))))))
def m_F2 (r1:Option Addr) (t1 kind1:Int) (w:World) (K:Int→Int→Int→Int→ByteArray→Int→Int→WP):Prop :=∀p1 w1,New w (.cells #[(vi 0),(vi 0),(vi 0),(vu 0),ve,(vi 0),(vi 0)] 103) p1 w1→∃a1,r1=some a1∧∃v1,w1.cell? a1=some (vp v1)∧Calls prog 61 #[(vp v1),(vi t1)] w1 (fun e w2=>∃aE aF aG aD aH aX aY r2,e=.returned (.tuple #[(Ae aE aF aG aD aH aX aY),(vb r2)])∧∀p2 w3,New w2 (.cells #[(vi 0),(vi 0),(vi 0),(vu 0),ve,(vi 0),(vi 0)] 103) p2 w3→(∀j,j<7→zW w3 (p2.add j))∧∀w4,w4=storeRow w3 p2 (Ad aE aF aG aD aH aX aY)→Br (!r2) (∃a2,r1=some a2∧zW w4 (a2.add 1)∧∀w5,w5=w4.setCell (a2.add 1) (vb true)→(∀j,j<7→zW w5 (p1.add j))∧∀w6,w6=storeRow w5 p1 (Ai 0 0 0 0 0 0)→∃aA aB aI aJ aC iL iM,Row w6 p1 (Ad aA aB aI aJ aC iL iM)∧K aA aB aI aJ aC iL iM w6) (∃v2,w4.cell? p2=some (vi v2)∧Br (v2 != kind1) (∃a3,r1=some a3∧zW w4 (a3.add 1)∧∀w7,w7=w4.setCell (a3.add 1) (vb true)→(∀j,j<7→zW w7 (p1.add j))∧∀w8,w8=storeRow w7 p1 (Ai 0 0 0 0 0 0)→∃aO aP cL cM aQ iN iO,Row w8 p1 (Ad aO aP cL cM aQ iN iO)∧K aO aP cL cM aQ iN iO w8) (∃aL aM aS aT aN iP iQ,Row w4 p2 (Ad aL aM aS aT aN iP iQ)∧(∀j,j<7→zW w4 (p1.add j))∧∀w9,w9=storeRow w4 p1 (Ad aL aM aS aT aN iP iQ)→∃aU aV dS dT aW iR iS,Row w9 p1 (Ad aU aV dS dT aW iR iS)∧K aU aV dS dT aW iR iS w9)))
theorem w_F2 (r1 t1 kind1 w K) (h:m_F2 r1 t1 kind1 w K):
  Calls prog 88 #[(vp r1),(vi t1),(vi kind1)] w (fun e w'=>∃bE bF bK aR aZ dB dC,e=.returned (Ae bE bF bK aR aZ dB dC)∧K bE bF bK aR aZ dB dC w'):=by
 refine cw (args:=[(vp r1),(vi t1),(vi kind1)]) func88 ntmps88 (eg (sn (O:=(.cells #[(vi 0),(vi 0),(vi 0),(vu 0),ve,(vi 0),(vi 0)] 103)) (zH (zeroValue103 _) rfl) ?_))
 intro p1 w1 hn8
 have h:=h p1 w1 hn8
 refine ln (eg (q (qm h fun a1 h=>q (ql (isAgg29 _) h fun v1 h=>q (sc call61 (h.mono fun e w2 ⟨aE,aF,aG,aD,aH,aX,aY,r2,k,h⟩=>⟨_,k,?_⟩))))))
 refine qc (nw1 h (zH (zeroValue103 _) rfl) fun p2 w3 h=>sro (sizeOf103 _) h fun w4 h=>q (ln (zA (eg (qc ?_)))))
 obtain ⟨hg1,h⟩|⟨hg1,h⟩:=h.br
 refine sj4 20 hg1 (q2 (vb true) (xT hg1) (ln (yC (by kernel_rfl) (eg (q0 (vp r1) (qm h fun a2 h=>q (st1 (sizeOf4 _) h fun w5 h=>ln (eg (q (sro (sizeOf103 _) h fun w6 h=>ln (er (vA ?_))))))))))))
 obtain ⟨aA,aB,aI,aJ,aC,iL,iM,hv1,h⟩:=h
 refine gg1 results88 (rva (isAgg103 _) (sizeOf103 _) hv1) ⟨aA,aB,aI,aJ,aC,iL,iM,rfl,h⟩
 refine qk 20 hg1 ?_
 obtain ⟨v2,hv5,h⟩:=h
 refine q4 20 hg1 (xl (isAgg3 _) hv5) (qk 20 hg1 (qk 20 hg1 (q2 (vb (v2 != kind1)) (xF hg1) (ln (cbr h ?_ ?_)))))<;>intro h
 refine eg (q (qm h fun a3 h=>q (st1 (sizeOf4 _) h fun w7 h=>ln (eg (q (sro (sizeOf103 _) h fun w8 h=>ln (er (vA ?_))))))))
 obtain ⟨aO,aP,cL,cM,aQ,iN,iO,hv2,h⟩:=h
 refine gg1 results88 (rva (isAgg103 _) (sizeOf103 _) hv2) ⟨aO,aP,cL,cM,aQ,iN,iO,rfl,h⟩
 refine zD (zN (eg ?_))
 obtain ⟨aL,aM,aS,aT,aN,iP,iQ,hv4,h⟩:=h
 refine qa (isAgg103 _) (sizeOf103 _) hv4 (sro (sizeOf103 _) h fun w9 h=>ln (er ?_))
 obtain ⟨aU,aV,dS,dT,aW,iR,iS,hv3,h⟩:=h
 refine gg1 results88 (rva (isAgg103 _) (sizeOf103 _) hv3) ⟨aU,aV,dS,dT,aW,iR,iS,rfl,h⟩
def m_Z_j1 (r1:Option Addr) (p1:Addr) (w:World) (K:Int→ByteArray→WP):Prop :=∃C1:WP,C1 w.drew∧∀w5,w5=w.drew→∃v1,(∀w',C1 w'→w'.cell? (p1.add 5)=some (vi v1))∧∃v2,(∀w',C1 w'→w'.cell? (p1.add 6)=some (vi v2))∧Calls prog 88 #[(vp r1),(vi v1),(vi 2)] w5 (fun e w6=>∃bE bF bK aR aZ dB dC,e=.returned (Ae bE bF bK aR aZ dB dC)∧C1 w6∧Calls prog 88 #[(vp r1),(vi v2),(vi 3)] w6 (fun e w7=>∃bO bP cW cX bG fZ gA,e=.returned (Ae bO bP cW cX bG fZ gA)∧C1 w7∧K aR bG w7))
def m_Z (r1:Option Addr) (t1:Int) (w:World) (K:Int→ByteArray→WP):Prop :=Calls prog 87 #[(vp r1),(vi t1)] w (fun e w1=>∃r2 r3,e=.returned (.tuple #[(vs r2),(vi r3)])∧Calls prog 88 #[(vp r1),(vi r3),(vi 4)] w1 (fun e w2=>∃aE aF aG aD aH aX aY,e=.returned (Ae aE aF aG aD aH aX aY)∧∀p1 w3,New w2 (.cells #[(vi 0),(vi 0),(vi 0),(vu 0),ve,(vi 0),(vi 0)] 103) p1 w3→(∀j,j<7→zW w3 (p1.add j))∧∀w4,w4=storeRow w3 p1 (Ad aE aF aG aD aH aX aY)→∃a1,r1=some a1∧∃v3,w4.cell? (a1.add 1)=some (vb v3)∧Br v3 (∃a2,r1=some a2∧zW w4 (a2.add 1)∧∀w8,w8=w4.setCell (a2.add 1) (vb true)→m_Z_j1 r1 p1 w8 K) (∃a3,r1=some a3∧zW w4 (a3.add 1)∧∀w9,w9=w4.setCell (a3.add 1) (vb (!(decide (r2=(⟨#[100,101,97,108]⟩:ByteArray)))))→m_Z_j1 r1 p1 w9 K)))
theorem w_Z (r1 t1 w K) (h:m_Z r1 t1 w K):
  Calls prog 91 #[(vp r1),(vi t1)] w (fun e w'=>∃r4 r5,e=.returned (.tuple #[(vu r4),(vs r5)])∧K r4 r5 w'):=by
 refine cw (args:=[(vp r1),(vi t1)]) func91 ntmps91 (eg (q0 (vu 0) (q0 ve (ln (eg (q0 (vp r1) (q0 (vi t1) ?_)))))))
 refine sc call87 (h.mono fun e w1 ⟨r2,r3,k,h⟩=>⟨_,k,?_⟩)
 refine q (qd (ln (eg (qb (sc call88 (h.mono fun e w2 ⟨aE,aF,aG,aD,aH,aX,aY,k,h⟩=>⟨_,k,?_⟩))))))
 refine nw1 h (zH (zeroValue103 _) rfl) fun p1 w3 h=>sro (sizeOf103 _) h fun w4 h=>ln (qG (fun ρ w=>Has ρ [(0,(vp r1)),(8,(vp (some p1)))]∧m_Z_j1 r1 p1 w K) ?_ ?_)
 rintro ρ w ⟨hH,h⟩
 refine zR hH (zA ?_)
 obtain ⟨C1,hC,h⟩:=h
 refine dr1 C1 [3,8] [] hC h fun w5 h=>qx 0 (vp r1) Kp0 (qx 1 (vp (some (p1.add 5))) Kp1 (qg 2 ?_))
 obtain ⟨v1,hv2,h⟩:=h
 refine sy Kp2 (fun _ k=>xl (isAgg23 _) (hv2 _ k)) (qx 5 (vp r1) Kp5 (qx 6 (vp (some (p1.add 6))) Kp6 (qg 7 ?_)))
 obtain ⟨v2,hv1,h⟩:=h
 refine sy Kp7 (fun _ k=>xl (isAgg23 _) (hv1 _ k)) (lg 3 (slc Kp3 call88 (h.mono ?_)))
 rintro e w6 ⟨bE,bF,bK,aR,aZ,dB,dC,rfl,hC,h⟩
 refine ⟨_,rfl,.inr hC,?_⟩
 refine qx 4 (vu aR) Kp4 (lg 8 (slc Kp8 call88 (h.mono ?_)))
 rintro e w7 ⟨bO,bP,cW,cX,bG,fZ,gA,rfl,hC,h⟩
 refine ⟨_,rfl,.inr hC,?_⟩
 refine qx 9 (vs bG) Kp9 (qx 10 (vu aR) (zG (S8 (zB (zB zF)))) (qx 11 (vs bG) (zG (S8 (zB (zB (zB zF))))) (wn (zN (er (tE (.inl rfl) results91 (v:=(vu aR)) (by kernel_rfl) (v':=(vs bG)) (by kernel_rfl) ⟨aR,bG,rfl,h⟩))))))
 refine rg (qb (qm h fun a1 h=>q (ql (isAgg4 _) h fun v3 h=>q ?_)))
 obtain ⟨hg1,h⟩|⟨hg1,h⟩:=h.br
 refine sj2 23 hg1 (q2 (vb true) (xT hg1) (qm h fun a2 h=>q (st1 (sizeOf4 _) h fun w8 h=>ln ⟨hm,h⟩)))
 refine qk 23 hg1 (stq (v:=(vb (!(decide (r2=(⟨#[100,101,97,108]⟩:ByteArray)))))) (wy 23 hg1) (xV (by kernel_rfl) (by kernel_rfl)) (q2 (vb (!(decide (r2=(⟨#[100,101,97,108]⟩:ByteArray))))) (xF hg1) (qm h fun a3 h=>q (st1 (sizeOf4 _) h fun w9 h=>ln ⟨hm,h⟩))))
def m_Z2 (cN cO:Int) (cP cQ:Int) (cR:ByteArray) (cS:Sl) (iT iU:Int) (iV iW:Int) (iX:ByteArray) (iY:Sl) (w:World) (K:Int→Int→Int→Int→ByteArray→Sl→WP):Prop :=∀p1 w1,New w (.cells #[(vi cN),(vi cO),(vi cP),(vu cQ),(vs cR),cS.v] 28) p1 w1→∀p2 w2,New w1 (.cells #[(vi iT),(vi iU),(vi iV),(vu iW),(vs iX),iY.v] 28) p2 w2→∀p3 w3,New w2 (.cells #[(vi 0),(vi 0),(vi 0),(vu 0),ve,Sl.nil.v] 28) p3 w3→∃aL aM aS aT aN bA,Row w3 p1 (Ab aL aM aS aT aN bA)∧∃bB bC bQ bR bD bS,Row w3 p2 (Ab bB bC bQ bR bD bS)∧∀p4 w4,New w3 (.cells #[(vi aL),(vi aM),(vi aS),(vu aT),(vs aN),bA.v,(vi bB),(vi bC),(vi bQ),(vu bR),(vs bD),bS.v] 28) p4 w4→(∀j,j<6→zW w4 (p3.add j))∧∀w5,w5=storeRow w4 p3 [(vi 4),(vi 0),(vi 0),(vu 0),ve,(Sl.mk (some p4) 2 2).v]→∃aA aB aI aJ aC aK,Row w5 p3 (Ab aA aB aI aJ aC aK)∧K aA aB aI aJ aC aK w5
theorem w_Z2 (cN cO cP cQ cR cS iT iU iV iW iX iY w K) (h:m_Z2 cN cO cP cQ cR cS iT iU iV iW iX iY w K):
  Calls prog 94 #[(.agg #[(vi cN),(vi cO),(vi cP),(vu cQ),(vs cR),cS.v]),(.agg #[(vi iT),(vi iU),(vi iV),(vu iW),(vs iX),iY.v])] w (fun e w'=>∃aE aF aG aD aH bL,e=.returned (Aa aE aF aG aD aH bL)∧K aE aF aG aD aH bL w'):=by
 refine cw (args:=[(Aa cN cO cP cQ cR cS),(Aa iT iU iV iW iX iY)]) func94 ntmps94 (eg (sn (O:=(.cells #[(vi cN),(vi cO),(vi cP),(vu cQ),(vs cR),cS.v] 28)) xb ?_))
 intro p1 w1 hn5
 have h:=h p1 w1 hn5
 refine nw1 h xb fun p2 w2 h=>nw1 h (zH (zeroValue28 _) rfl) fun p3 w3 h=>ln (eg ?_)
 obtain ⟨aL,aM,aS,aT,aN,bA,hv3,h⟩:=h
 refine qa (isAgg28 _) (sizeOf28 _) hv3 ?_
 obtain ⟨bB,bC,bQ,bR,bD,bS,hv2,h⟩:=h
 refine qa (isAgg28 _) (sizeOf28 _) hv2 (nw4 (fun p=>(Sl.mk (some p) 2 2).v) h fun p4 w4 h=>q (sro (sizeOf28 _) h fun w5 h=>ln (er ?_)))
 obtain ⟨aA,aB,aI,aJ,aC,aK,hv1,h⟩:=h
 refine gg1 results94 (rva (isAgg28 _) (sizeOf28 _) hv1) ⟨aA,aB,aI,aJ,aC,aK,rfl,h⟩
def m_A3 (s1:ByteArray) (w:World) (K:Int→Int→Int→Int→ByteArray→Sl→WP):Prop :=∀p1 w1,New w (.cells #[(vi 0),(vi 0),(vi 0),(vu 0),ve,Sl.nil.v] 28) p1 w1→(∀j,j<6→zW w1 (p1.add j))∧∀w2,w2=storeRow w1 p1 [(vi 3),(vi 0),(vi 0),(vu 0),(vs s1),Sl.nil.v]→∃aA aB aI aJ aC aK,Row w2 p1 (Ab aA aB aI aJ aC aK)∧K aA aB aI aJ aC aK w2
theorem w_A3 (s1 w K) (h:m_A3 s1 w K):
  Calls prog 95 #[(vs s1)] w (fun e w'=>∃aE aF aG aD aH bL,e=.returned (Aa aE aF aG aD aH bL)∧K aE aF aG aD aH bL w'):=by
 refine cw (args:=[(vs s1)]) func95 ntmps95 (eg (sn (O:=(.cells #[(vi 0),(vi 0),(vi 0),(vu 0),ve,Sl.nil.v] 28)) (zH (zeroValue28 _) rfl) ?_))
 intro p1 w1 hn2
 have h:=h p1 w1 hn2
 refine ln (eg (qb (sro (sizeOf28 _) h fun w2 h=>ln (er ?_))))
 obtain ⟨aA,aB,aI,aJ,aC,aK,hv1,h⟩:=h
 refine gg1 results95 (rva (isAgg28 _) (sizeOf28 _) hv1) ⟨aA,aB,aI,aJ,aC,aK,rfl,h⟩
def m_B3 (n1:Int) (w:World) (K:Int→Int→Int→Int→ByteArray→Sl→WP):Prop :=∀p1 w1,New w (.cells #[(vi 0),(vi 0),(vi 0),(vu 0),ve,Sl.nil.v] 28) p1 w1→(∀j,j<6→zW w1 (p1.add j))∧∀w2,w2=storeRow w1 p1 [(vi 2),(vi 0),(vi 0),(vu n1),ve,Sl.nil.v]→∃aA aB aI aJ aC aK,Row w2 p1 (Ab aA aB aI aJ aC aK)∧K aA aB aI aJ aC aK w2
theorem w_B3 (n1 w K) (h:m_B3 n1 w K):
  Calls prog 96 #[(vu n1)] w (fun e w'=>∃aE aF aG aD aH bL,e=.returned (Aa aE aF aG aD aH bL)∧K aE aF aG aD aH bL w'):=by
 refine cw (args:=[(vu n1)]) func96 ntmps96 (eg (sn (O:=(.cells #[(vi 0),(vi 0),(vi 0),(vu 0),ve,Sl.nil.v] 28)) (zH (zeroValue28 _) rfl) ?_))
 intro p1 w1 hn2
 have h:=h p1 w1 hn2
 refine ln (eg (qb (sro (sizeOf28 _) h fun w2 h=>ln (er ?_))))
 obtain ⟨aA,aB,aI,aJ,aC,aK,hv1,h⟩:=h
 refine gg1 results96 (rva (isAgg28 _) (sizeOf28 _) hv1) ⟨aA,aB,aI,aJ,aC,aK,rfl,h⟩
def m_C3 (who1 cN:Int) (cO cP cQ:Int) (cR:ByteArray) (cS:Sl) (fake1:Bool) (w:World) (K:Int→Int→Int→Int→ByteArray→Sl→WP):Prop :=∀p1 w1,New w (.cells #[(vi cN),(vi cO),(vi cP),(vu cQ),(vs cR),cS.v] 28) p1 w1→∀p2 w2,New w1 (.cells #[(vi 0),(vi 0),(vi 0),(vu 0),ve,Sl.nil.v] 28) p2 w2→Br fake1 (∃aL aM aS aT aN bA,Row w2 p1 (Ab aL aM aS aT aN bA)∧∀p3 w3,New w2 (.cells #[(vi aL),(vi aM),(vi aS),(vu aT),(vs aN),bA.v] 28) p3 w3→(∀j,j<6→zW w3 (p2.add j))∧∀w4,w4=storeRow w3 p2 [(vi 9),(vi who1),(vi (q6.wrap (1 - who1))),(vu 0),ve,(Sl.mk (some p3) 1 1).v]→∃aA aB aI aJ aC aK,Row w4 p2 (Ab aA aB aI aJ aC aK)∧K aA aB aI aJ aC aK w4) (∃bB bC bQ bR bD bS,Row w2 p1 (Ab bB bC bQ bR bD bS)∧∀p4 w5,New w2 (.cells #[(vi bB),(vi bC),(vi bQ),(vu bR),(vs bD),bS.v] 28) p4 w5→(∀j,j<6→zW w5 (p2.add j))∧∀w6,w6=storeRow w5 p2 [(vi 8),(vi who1),(vi (q6.wrap (1 - who1))),(vu 0),ve,(Sl.mk (some p4) 1 1).v]→∃aO aP cL cM aQ dR,Row w6 p2 (Ab aO aP cL cM aQ dR)∧K aO aP cL cM aQ dR w6)
theorem w_C3 (who1 cN cO cP cQ cR cS fake1 w K) (h:m_C3 who1 cN cO cP cQ cR cS fake1 w K):
  Calls prog 130 #[(vi who1),(.agg #[(vi cN),(vi cO),(vi cP),(vu cQ),(vs cR),cS.v]),(vb fake1)] w (fun e w'=>∃aE aF aG aD aH bL,e=.returned (Aa aE aF aG aD aH bL)∧K aE aF aG aD aH bL w'):=by
 refine cw (args:=[(vi who1),(Aa cN cO cP cQ cR cS),(vb fake1)]) func130 ntmps130 (eg (sn (O:=(.cells #[(vi cN),(vi cO),(vi cP),(vu cQ),(vs cR),cS.v] 28)) xb ?_))
 intro p1 w1 hn6
 have h:=h p1 w1 hn6
 refine nw1 h (zH (zeroValue28 _) rfl) fun p2 w2 h=>ln (eg (q (ln (zA (eg (q (zC (zN (cbr h ?_ ?_)))))))))<;>intro h
 refine rg (q (ln (eg (qd ?_))))
 obtain ⟨aL,aM,aS,aT,aN,bA,hv2,h⟩:=h
 refine qa (isAgg28 _) (sizeOf28 _) hv2 (nw4 (fun p=>(Sl.mk (some p) 1 1).v) h fun p3 w3 h=>q (sro (sizeOf28 _) h fun w4 h=>ln (er ?_)))
 obtain ⟨aA,aB,aI,aJ,aC,aK,hv1,h⟩:=h
 refine gg1 results130 (rva (isAgg28 _) (sizeOf28 _) hv1) ⟨aA,aB,aI,aJ,aC,aK,rfl,h⟩
 refine zD (zN (eg (qd ?_)))
 obtain ⟨bB,bC,bQ,bR,bD,bS,hv4,h⟩:=h
 refine qa (isAgg28 _) (sizeOf28 _) hv4 (nw4 (fun p=>(Sl.mk (some p) 1 1).v) h fun p4 w5 h=>q (sro (sizeOf28 _) h fun w6 h=>ln (er ?_)))
 obtain ⟨aO,aP,cL,cM,aQ,dR,hv3,h⟩:=h
 refine gg1 results130 (rva (isAgg28 _) (sizeOf28 _) hv3) ⟨aO,aP,cL,cM,aQ,dR,rfl,h⟩
def m_D3 (who1 cN:Int) (cO cP cQ:Int) (cR:ByteArray) (cS:Sl) (w:World) (K:Int→Int→Int→Int→ByteArray→Sl→WP):Prop :=∀p1 w1,New w (.cells #[(vi cN),(vi cO),(vi cP),(vu cQ),(vs cR),cS.v] 28) p1 w1→∀p2 w2,New w1 (.cells #[(vi 0),(vi 0),(vi 0),(vu 0),ve,Sl.nil.v] 28) p2 w2→∃aL aM aS aT aN bA,Row w2 p1 (Ab aL aM aS aT aN bA)∧∀p3 w3,New w2 (.cells #[(vi aL),(vi aM),(vi aS),(vu aT),(vs aN),bA.v] 28) p3 w3→(∀j,j<6→zW w3 (p2.add j))∧∀w4,w4=storeRow w3 p2 [(vi 7),(vi who1),(vi 0),(vu 0),ve,(Sl.mk (some p3) 1 1).v]→∃aA aB aI aJ aC aK,Row w4 p2 (Ab aA aB aI aJ aC aK)∧K aA aB aI aJ aC aK w4
theorem w_D3 (who1 cN cO cP cQ cR cS w K) (h:m_D3 who1 cN cO cP cQ cR cS w K):
  Calls prog 131 #[(vi who1),(.agg #[(vi cN),(vi cO),(vi cP),(vu cQ),(vs cR),cS.v])] w (fun e w'=>∃aE aF aG aD aH bL,e=.returned (Aa aE aF aG aD aH bL)∧K aE aF aG aD aH bL w'):=by
 refine cw (args:=[(vi who1),(Aa cN cO cP cQ cR cS)]) func131 ntmps131 (eg (sn (O:=(.cells #[(vi cN),(vi cO),(vi cP),(vu cQ),(vs cR),cS.v] 28)) xb ?_))
 intro p1 w1 hn4
 have h:=h p1 w1 hn4
 refine nw1 h (zH (zeroValue28 _) rfl) fun p2 w2 h=>ln (eg (q ?_))
 obtain ⟨aL,aM,aS,aT,aN,bA,hv2,h⟩:=h
 refine qa (isAgg28 _) (sizeOf28 _) hv2 (nw4 (fun p=>(Sl.mk (some p) 1 1).v) h fun p3 w3 h=>q (sro (sizeOf28 _) h fun w4 h=>ln (er ?_)))
 obtain ⟨aA,aB,aI,aJ,aC,aK,hv1,h⟩:=h
 refine gg1 results131 (rva (isAgg28 _) (sizeOf28 _) hv1) ⟨aA,aB,aI,aJ,aC,aK,rfl,h⟩
end Go.Proofs
end
section
open Go Go.SE
namespace Go.Sp
def qF (x:ByteArray):Tree:=.mk 3 0 0 0 x []
def jBJ (n:Int):Tree:=.mk 2 0 0 n ⟨#[]⟩ []
def qS (a b:Tree):Tree:=.mk 4 0 0 0 ⟨#[]⟩ [a,b]
def tC (n:Int) (a:Tree):Tree:=.mk 7 n 0 0 ⟨#[]⟩ [a]
def yV (n:Int) (a:Tree) (fake:Bool):Tree:=.mk (if fake then 9 else 8) n (1 - n) 0 ⟨#[]⟩ [a]
def jAS:ByteArray:=⟨#[100,101,97,108]⟩
def vM (c:Int) (x:ByteArray):Tree:=qS (qF jAS) (qS (jBJ c) (qF x))
end Go.Sp
namespace Go.Proofs
open Tryz
attribute [local irreducible] Calls
theorem TreeAt.leaf {S:NP} {w:World} {k f t u:Int} {x:ByteArray}:TreeAt S w Sl.nil (.mk k f t u x []) :=
 .mk k f t u x [] Sl.nil (fun _=>Sl.nil) rfl (by simp) (fun i h=>by simp at h) (fun i h=>by simp at h)
theorem TreeAt.one {S:NP} {w:World} {k f t u:Int} {x:ByteArray} {p:Addr} {A:Sp.Tree} {sa:Sl} {T:TypeId} (hB:Box w p (qX A sa) T) (hS:S p.block) (hA:TreeAt S w sa A):TreeAt S w ⟨some p,1,1⟩ (.mk k f t u x [A]):=by
 refine .mk k f t u x [A] _ (fun _=>sa) rfl (by simp) (fun i h=>?_) (fun i h=>?_)
 ·have:i=0:=by simpa using h
  subst this;exact ⟨p,⟨by omega,by simp,p,rfl,rfl⟩,hS,hB.row⟩
 ·have:i=0:=by simpa using h
  subst this;exact hA
theorem TreeAt.pair {S:NP} {w:World} {k f t u:Int} {x:ByteArray} {p:Addr} {A B:Sp.Tree} {sa sb:Sl} {T:TypeId} (hB:Box w p (qX A sa++qX B sb) T) (hS:S p.block) (hA:TreeAt S w sa A) (hB2:TreeAt S w sb B):TreeAt S w ⟨some p,2,2⟩ (.mk k f t u x [A,B]):=by
 refine .mk k f t u x [A,B] _ (fun i=>if i=0 then sa else sb) rfl (by simp) (fun i h=>?_) (fun i h=>?_)
 ·have:i=0∨i=1:=by simp at h;omega
  rcases this with rfl | rfl
  ·refine ⟨p,⟨by omega,by simp,p,rfl,rfl⟩,hS,fun i hi=>?_⟩;have:=hB.row i (by simp [qX] at hi ⊢;omega);have hi':i<6:=by simpa [qX] using hi
   rw [this];exact List.getElem?_append_left (by simp [qX];omega)
  ·refine ⟨p.add (1*6),⟨by omega,by simp,p,rfl,rfl⟩,by rw [zU];exact hS,fun i hi=>?_⟩;have hi':i<6:=by simpa [qX] using hi
   have:=hB.row (6+i) (by simp [qX];omega);rw [uV,this,List.getElem?_append_right (by simp [qX])];simp [qX]
 ·have:i=0∨i=1:=by simp at h;omega
  rcases this with rfl | rfl
  ·exact hA
  ·exact hB2
abbrev RetT (n0:Nat) (w:World) (T:Sp.Tree) (e:Ending) (w':World):Prop:=∃s,e=.returned (.agg (qX T s).toArray)∧TreeAt (n0≤·) w' s T∧Pure w w'
theorem yN (n0:Nat) (x:ByteArray) (w:World) (h0:n0≤w.heap.size):Calls prog 95 #[.string x] w (RetT n0 w (Sp.qF x)):=by
 refine (w_A3 x w (fun k f t u y s w'=>(⟨k,f,t,u,y,0,0⟩:Sp.Node)=(Sp.qF x).node∧TreeAt (n0≤·) w' s (Sp.qF x)∧Pure w w') ?_).mono ?_
 ·unfold m_A3;intro p1 w1 h1;exact bx 6 (Box.of_new h1) rfl rfl (fun w' b E=>⟨_,_,_,_,_,Sl.nil,b.row,rfl,TreeAt.leaf,Ext.own (Ext.new h1) (New.own (Ext.refl w) h1) E⟩)
 ·rintro _ w' ⟨k,f,t,u,y,s,rfl,hn,hT,E⟩;cases hn;exact ⟨s,rfl,hT,E⟩
theorem uO (n0:Nat) (n:Int) (w:World) (h0:n0≤w.heap.size):Calls prog 96 #[.int .u64 n] w (RetT n0 w (Sp.jBJ n)):=by
 refine (w_B3 n w (fun k f t u y s w'=>(⟨k,f,t,u,y,0,0⟩:Sp.Node)=(Sp.jBJ n).node∧TreeAt (n0≤·) w' s (Sp.jBJ n)∧Pure w w') ?_).mono ?_
 ·unfold m_B3;intro p1 w1 h1;exact bx 6 (Box.of_new h1) rfl rfl (fun w' b E=>⟨_,_,_,_,_,Sl.nil,b.row,rfl,TreeAt.leaf,Ext.own (Ext.new h1) (New.own (Ext.refl w) h1) E⟩)
 ·rintro _ w' ⟨k,f,t,u,y,s,rfl,hn,hT,E⟩;cases hn;exact ⟨s,rfl,hT,E⟩
theorem qV (n0:Nat) (A B:Sp.Tree) (sa sb:Sl) (w:World) (h0:n0≤w.heap.size) (hA:TreeAt (n0≤·) w sa A) (hB:TreeAt (n0≤·) w sb B) :
  Calls prog 94 #[.agg (qX A sa).toArray,.agg (qX B sb).toArray] w (RetT n0 w (Sp.qS A B)):=by
 refine (w_Z2 _ _ _ _ _ sa _ _ _ _ _ sb w (fun k f t u y s w'=>(⟨k,f,t,u,y,0,0⟩:Sp.Node)=(Sp.qS A B).node∧TreeAt (n0≤·) w' s (Sp.qS A B)∧Pure w w') ?_).mono ?_
 ·unfold m_Z2
  intro p1 w1 h1 p2 w2 h2 p3 w3 h3
  have E1:Pure w w1:=Ext.new h1
  have E2:=E1.trans (Ext.new h2)
  have E3:Pure w w3:=E2.trans (Ext.new h3)
  have b1:=((Box.of_new h1).pure (Ext.new h2)).pure (Ext.new h3:Pure w2 w3)
  have b2:=(Box.of_new h2).pure (Ext.new h3:Pure w2 w3)
  refine ⟨_,_,_,_,_,sa,b1.row,_,_,_,_,_,sb,b2.row,?_⟩
  intro p4 w4 h4
  have o3:=New.own E2 h3
  have n34:p3.block≠p4.block:=New.ne h4 (Box.of_new h3).blk
  have E4:Pure w w4:=E3.trans (Ext.new h4)
  have o4:=New.own E3 h4
  refine bx 6 ((Box.of_new h3).pure (Ext.new h4)) rfl rfl (fun w' b E=>⟨_,_,_,_,_,_,b.row,rfl,?_,E4.own o3 E⟩)
  have b4:=(Box.of_new h4).ext E n34.symm
  have E5:=E4.own o3 E
  refine TreeAt.pair (A:=A) (B:=B) (sa:=sa) (sb:=sb) b4 (by show n0≤_;omega) (hA.pure E5) (hB.pure E5)
 ·rintro _ w' ⟨k,f,t,u,y,s,rfl,hn,hT,E⟩
  cases hn;exact ⟨s,rfl,hT,E⟩
theorem uT (n0:Nat) (n:Int) (A:Sp.Tree) (sa:Sl) (w:World) (h0:n0≤w.heap.size) (hA:TreeAt (n0≤·) w sa A) :
  Calls prog 131 #[.int .i64 n,.agg (qX A sa).toArray] w (RetT n0 w (Sp.tC n A)):=by
 refine (w_D3 n _ _ _ _ _ sa w (fun k f t u y s w'=>(⟨k,f,t,u,y,0,0⟩:Sp.Node)=(Sp.tC n A).node∧TreeAt (n0≤·) w' s (Sp.tC n A)∧Pure w w') ?_).mono ?_
 ·unfold m_D3
  intro p1 w1 h1 p3 w3 h3
  have E1:Pure w w1:=Ext.new h1
  have E3:Pure w w3:=E1.trans (Ext.new h3)
  have b1:=(Box.of_new h1).pure (Ext.new h3:Pure w1 w3)
  refine ⟨_,_,_,_,_,sa,b1.row,?_⟩
  intro p4 w4 h4
  have o3:=New.own E1 h3
  have n34:p3.block≠p4.block:=New.ne h4 (Box.of_new h3).blk
  have E4:Pure w w4:=E3.trans (Ext.new h4)
  have o4:=New.own E3 h4
  refine bx 6 ((Box.of_new h3).pure (Ext.new h4)) rfl rfl (fun w' b E=>⟨_,_,_,_,_,_,b.row,rfl,?_,E4.own o3 E⟩)
  have b4:=(Box.of_new h4).ext E n34.symm
  have E5:=E4.own o3 E
  exact TreeAt.one (A:=A) (sa:=sa) b4 (by show n0≤_;omega) (hA.pure E5)
 ·rintro _ w' ⟨k,f,t,u,y,s,rfl,hn,hT,E⟩
  cases hn;exact ⟨s,rfl,hT,E⟩
theorem yM (n0:Nat) (n:Int) (hn1:n=0∨n=1) (A:Sp.Tree) (fake:Bool) (sa:Sl) (w:World) (h0:n0≤w.heap.size) (hA:TreeAt (n0≤·) w sa A) :
  Calls prog 130 #[.int .i64 n,.agg (qX A sa).toArray,.bool fake] w (RetT n0 w (Sp.yV n A fake)):=by
 refine (w_C3 n _ _ _ _ _ sa fake w (fun k f t u y s w'=>(⟨k,f,t,u,y,0,0⟩:Sp.Node)=(Sp.yV n A fake).node∧TreeAt (n0≤·) w' s (Sp.yV n A fake)∧Pure w w') ?_).mono ?_
 ·unfold m_C3
  intro p1 w1 h1 p3 w3 h3
  have E1:Pure w w1:=Ext.new h1
  have E3:Pure w w3:=E1.trans (Ext.new h3)
  have b1:=(Box.of_new h1).pure (Ext.new h3:Pure w1 w3)
  have hw:IntKind.i64.wrap (1 - n)=1 - n:=i64 (by omega) (by omega)
  rw [hw]
  refine ⟨fun h=>⟨_,_,_,_,_,sa,b1.row,?_⟩,fun h=>⟨_,_,_,_,_,sa,b1.row,?_⟩⟩
  all_goals
   intro p4 w4 h4
   have o3:=New.own E1 h3
   have n34:p3.block≠p4.block:=New.ne h4 (Box.of_new h3).blk
   have E4:Pure w w4:=E3.trans (Ext.new h4)
   have o4:=New.own E3 h4
   refine bx 6 ((Box.of_new h3).pure (Ext.new h4)) rfl rfl (fun w' b E=>⟨_,_,_,_,_,_,b.row,by rw [h];rfl,?_,E4.own o3 E⟩)
   have b4:=(Box.of_new h4).ext E n34.symm
   have E5:=E4.own o3 E
   exact TreeAt.one (A:=A) (sa:=sa) b4 (by show n0≤_;omega) (hA.pure E5)
 ·rintro _ w' ⟨k,f,t,u,y,s,rfl,hn,hT,E⟩
  cases hn;exact ⟨s,rfl,hT,E⟩
theorem jAF (n0:Nat) (c:Int) (x:ByteArray) (w:World) (h0:n0≤w.heap.size):Calls prog 45 #[.int .u64 c,.string x] w (RetT n0 w (Sp.vM c x)):=by
 refine (w_Y2 c x w (fun k f t u y s w'=>(⟨k,f,t,u,y,0,0⟩:Sp.Node)=(Sp.vM c x).node∧TreeAt (n0≤·) w' s (Sp.vM c x)∧Pure w w') ?_).mono ?_
 ·unfold m_Y2;intro p1 w1 h1;have E1:Pure w w1:=Ext.new h1;have o1:=New.own (Ext.refl w) h1;have s1:w.heap.size≤w1.heap.size:=E1.size;refine (yN w1.heap.size _ w1 (by omega)).mono ?_;rintro _ w2 ⟨sa,rfl,hA,E2⟩;have s2:=E2.size;refine ⟨_,_,_,_,_,sa,rfl,?_⟩;refine (uO w1.heap.size c w2 (by omega)).mono ?_;rintro _ w3 ⟨sb,rfl,hB,E3⟩;have s3:=E3.size;refine ⟨_,_,_,_,_,sb,rfl,?_⟩;refine (yN w1.heap.size x w3 (by omega)).mono ?_;rintro _ w4 ⟨sc,rfl,hC,E4⟩;have s4:=E4.size;refine ⟨_,_,_,_,_,sc,rfl,?_⟩;refine (qV w1.heap.size (Sp.jBJ c) (Sp.qF x) sb sc w4 (by omega) (hB.pure E4) hC).mono ?_;rintro _ w5 ⟨sd,rfl,hD,E5⟩;have s5:=E5.size;refine ⟨_,_,_,_,_,sd,rfl,?_⟩;refine (qV w1.heap.size (Sp.qF Sp.jAS) (Sp.qS (Sp.jBJ c) (Sp.qF x)) sa sd w5 (by omega) (((hA.pure E3).pure E4).pure E5) hD).mono ?_;rintro _ w6 ⟨se,rfl,hE,E6⟩;have E:Pure w1 w6:=(((E2.trans E3).trans E4).trans E5).trans E6;refine ⟨_,_,_,_,_,se,rfl,?_⟩;refine bx 6 ((Box.of_new h1).pure E) rfl rfl (fun w' b E'=>⟨_,_,_,_,_,se,b.row,rfl,?_,(E1.trans E).own o1 E'⟩);exact (hE.ext E' (fun b hb e=>by have:=(Box.of_new h1).lt;have:w1.heap.size≤b:=hb;omega)).mono (fun b hb=>by show n0≤b;have:w1.heap.size≤b:=hb;omega)
 ·rintro _ w' ⟨k,f,t,u,y,s,rfl,hn,hT,E⟩;cases hn;exact ⟨s,rfl,hT,E⟩
end Go.Proofs
end
section
open Go Go.SE
namespace Go.Sp
structure Letter where
 kind:Int
 frm:Int
 c:Int
 text:ByteArray
 fake:Bool
deriving DecidableEq
def yU:Letter:=⟨0,0,0,⟨#[]⟩,false⟩
def uW:ByteArray:=⟨#[97,98,111,114,116]⟩
def qZ:ByteArray:=⟨#[114,101,115,111,108,118,101]⟩
def qW:ByteArray:=⟨#[97,98,111,114,116,101,100]⟩
def yA:ByteArray:=⟨#[105,110,115,116,101,97,100]⟩
def jIJ:ByteArray:=⟨#[102,117,108,108]⟩
def vQ (l:Letter) (first second:Bool):Tree :=
 if l.kind=1 then yV l.frm (vM l.c l.text) l.fake
 else if l.kind=2 then tC l.frm (vM l.c l.text)
 else if l.kind=3 then tC 0 (qS (qF uW) (jBJ l.c))
 else if l.kind=4 then tC l.frm (qS (qF qZ) (qS (yV 0 (vM l.c l.text) (l.fake && first)) (yV 1 (vM l.c l.text) (l.fake && second))))
 else if l.kind=5 then tC 2 (qS (qF qW) (jBJ l.c))
 else if l.kind=6 then tC 2 (qS (qF yA) (vM l.c l.text))
 else qS (qF jIJ) (jBJ l.c)
end Go.Sp
namespace Go.Proofs
open Tryz
attribute [local irreducible] Calls
theorem jJV (n0:Nat) (k f c:Int) (x:ByteArray) (fake first second:Bool) (w:World) (h0:n0≤w.heap.size) (hf:f=0∨f=1) :
  Calls prog 71 #[.agg #[.int .i64 k,.int .i64 f,.int .u64 c,.string x,.bool fake],.bool first,.bool second] w (RetT n0 w (Sp.vQ ⟨k,f,c,x,fake⟩ first second)):=by
 generalize hR:Sp.vQ ⟨k,f,c,x,fake⟩ first second=R
 suffices key:∀K:Int→Int→Int→Int→ByteArray→Sl→WP,(∀s w',TreeAt (n0≤·) w' s R∧Pure w w'→K R.node.kind R.node.frm R.node.to R.node.num R.node.text s w')→m_D2 k f c x fake first second w K by
  refine (w_D2 k f c x fake first second w (fun k f t u y s w'=>(k=R.node.kind∧f=R.node.frm∧t=R.node.to∧u=R.node.num∧y=R.node.text)∧TreeAt (n0≤·) w' s R∧Pure w w') (key _ (fun s w' h=>⟨⟨rfl,rfl,rfl,rfl,rfl⟩,h⟩))).mono ?_;rintro _ w' ⟨k,f,t,u,y,s,rfl,⟨rfl,rfl,rfl,rfl,rfl⟩,hT,E⟩;exact ⟨s,rfl,hT,E⟩
 intro K hK
 unfold m_D2
 intro p1 w1 h1 p2 w2 h2
 have E1:Pure w w1:=Ext.new h1
 have E2:Pure w w2:=E1.trans (Ext.new h2)
 have o2:=New.own E1 h2
 have a1:=(Box.of_new h1).pure (Ext.new h2:Pure w1 w2)
 have a2:=Box.of_new h2
 have l1:=a1.lt
 have l2:=a2.lt
 have s2:=E2.size
 clear h1 h2
 refine ⟨_,a1.cell rfl,_,a1.cell rfl,?_⟩
 refine (jAF w2.heap.size c x w2 (Nat.le_refl _)).mono ?_
 rintro _ w3 ⟨sd,rfl,hD,E3⟩
 refine ⟨_,_,_,_,_,sd,rfl,?_⟩
 intro p3 w4 h4
 have o3:=New.own (Ext.refl w3) h4
 refine bx 6 (Box.of_new h4) rfl rfl (fun w5 b3 E'=>?_)
 have E5:Pure w3 w5:=Ext.own (Ext.new h4) o3 E'
 have hD5:=hD.pure E5
 have E25:Pure w2 w5:=E3.trans E5
 have s5:=E25.size
 have b1:=a1.pure E25
 have b3:Box w5 p3 (qX (Sp.vM c x) sd) 28:=b3
 clear E' h4 E5 hD E3
 have fin : ∀ (T : Sp.Tree) (s : Sl) (w' : World), Pure w5 w' → TreeAt (w2.heap.size ≤ ·) w' s T → T = R →
   (∀j,j<6→zW w' (p2.add j))∧∀w'':World,w''=storeRow w' p2 (qX T s) →
   ∃qKind1:Int,∃qFrom1:Int,∃qTo1:Int,∃qNum1:Int,∃qText1:ByteArray,∃qKids1:Sl,Row w'' p2 [(.int .i64 qKind1),(.int .i64 qFrom1),(.int .i64 qTo1),(.int .u64 qNum1),(.string qText1),qKids1.v]∧K qKind1 qFrom1 qTo1 qNum1 qText1 qKids1 w'':=by
  rintro T s w' E hT rfl
  refine bx 6 (a2.pure (E25.trans E)) rfl rfl (fun w'' b E'=>⟨_,_,_,_,_,s,b.row,hK s w'' ⟨?_,(E2.trans (E25.trans E)).own o2 E'⟩⟩)
  exact (hT.ext E' (fun b hb e=>by have:w2.heap.size≤b:=hb;omega)).mono (fun b hb=>by show n0≤b;have:w2.heap.size≤b:=hb;omega)
 have drawn:∃C:WP,C w5.drew∧(∀w' w'',Pure w' w''→C w'→C w'')∧(∀w',C w'→Box w' p1 [.int .i64 k,.int .i64 f,.int .u64 c,.string x,.bool fake] 56∧Box w' p3 (qX (Sp.vM c x) sd) 28) :=
  ⟨fun w'=>Box w' p1 [.int .i64 k,.int .i64 f,.int .u64 c,.string x,.bool fake] 56∧Box w' p3 (qX (Sp.vM c x) sd) 28,⟨b1.pure (Ext.drew w5),b3.pure (Ext.drew w5)⟩,fun _ _ E h=>⟨h.1.pure E,h.2.pure E⟩,fun _ h=>h⟩
 obtain ⟨C,hC,hCp,hCb⟩:=drawn
 refine ⟨k,b1.cell0,fun hk=>?_,fun hk1=>⟨fun hk=>?_,fun hk2=>⟨fun hk=>?_,fun hk3=>⟨fun hk=>?_,fun hk4=>⟨fun hk=>?_,fun hk5=>⟨fun hk=>?_,fun hk6=>?_⟩⟩⟩⟩⟩⟩
 ·have hk:k=1:=by simpa using hk
  refine ⟨f,b1.cell rfl,_,_,_,_,_,sd,b3.row,fake,b1.cell rfl,?_⟩
  refine (yM w2.heap.size f hf (Sp.vM c x) fake sd w5 s5 hD5).mono ?_
  rintro _ w6 ⟨s,rfl,hT,E6⟩
  exact ⟨_,_,_,_,_,s,rfl,fin _ s w6 E6 hT (by rw [← hR];simp only [Sp.vQ];rw [if_pos hk])⟩
 ·have hk:k=2:=by simpa using hk
  refine ⟨f,b1.cell rfl,_,_,_,_,_,sd,b3.row,?_⟩
  refine (uT w2.heap.size f (Sp.vM c x) sd w5 s5 hD5).mono ?_
  rintro _ w6 ⟨s,rfl,hT,E6⟩
  exact ⟨_,_,_,_,_,s,rfl,fin _ s w6 E6 hT (by rw [← hR];simp only [Sp.vQ];rw [if_neg (by omega),if_pos hk])⟩
 ·have hk:k=3:=by simpa using hk
  refine ⟨C,hC,?_⟩
  intro w10 hw10
  have E10:Pure w5 w10:=by rw [hw10];exact Ext.drew w5
  have hC10:C w10:=by rw [hw10];exact hC
  clear hw10
  have s10:=E10.size
  refine ⟨c,fun w' h=>(hCb w' h).1.cell rfl,?_⟩
  refine (yN w2.heap.size _ w10 (by omega)).mono ?_
  rintro _ w11 ⟨sa,rfl,hA,E11⟩
  have s11:=E11.size
  refine ⟨_,_,_,_,_,sa,rfl,hCp _ _ E11 hC10,?_⟩
  refine (uO w2.heap.size c w11 (by omega)).mono ?_
  rintro _ w12 ⟨sb,rfl,hB,E12⟩
  have s12:=E12.size
  refine ⟨_,_,_,_,_,sb,rfl,?_⟩
  refine (qV w2.heap.size (Sp.qF Sp.uW) (Sp.jBJ c) sa sb w12 (by omega) (hA.pure E12) hB).mono ?_
  rintro _ w13 ⟨se,rfl,hE,E13⟩
  have s13:=E13.size
  refine ⟨_,_,_,_,_,se,rfl,?_⟩
  refine (uT w2.heap.size 0 (Sp.qS (Sp.qF Sp.uW) (Sp.jBJ c)) se w13 (by omega) hE).mono ?_
  rintro _ w14 ⟨s,rfl,hT,E14⟩
  exact ⟨_,_,_,_,_,s,rfl,fin _ s w14 ((((E10.trans E11).trans E12).trans E13).trans E14) hT (by rw [← hR];simp only [Sp.vQ];rw [if_neg (by omega),if_neg (by omega),if_pos hk])⟩
 ·have hk:k=4:=by simpa using hk
  refine ⟨C,hC,?_⟩
  intro w10 hw10
  have E10:Pure w5 w10:=by rw [hw10];exact Ext.drew w5
  have hC10:C w10:=by rw [hw10];exact hC
  clear hw10
  have s10:=E10.size
  refine ⟨f,fun w' h=>(hCb w' h).1.cell rfl,_,_,_,_,_,sd,fun w' h=>(hCb w' h).2.row,fake,fun w' h=>(hCb w' h).1.cell rfl,_,_,_,_,_,sd,fun w' h=>(hCb w' h).2.row,fake,fun w' h=>(hCb w' h).1.cell rfl,?_⟩
  refine (yN w2.heap.size _ w10 (by omega)).mono ?_
  rintro _ w11 ⟨sa,rfl,hA,E11⟩
  have s11:=E11.size
  have hD11:=hD5.pure (E10.trans E11)
  have hC11:=hCp _ _ E11 hC10
  refine ⟨_,_,_,_,_,sa,rfl,hC11,?_⟩
  have rest : ∀ (u v : Bool) (sx sy : Sl) (w' : World), u = (fake && first) → v = (fake && second) → Pure w11 w' → TreeAt (w2.heap.size ≤ ·) w' sx (Sp.yV 0 (Sp.vM c x) u) → TreeAt (w2.heap.size ≤ ·) w' sy (Sp.yV 1 (Sp.vM c x) v) →
    Calls prog 94 #[.agg (qX (Sp.yV 0 (Sp.vM c x) u) sx).toArray,.agg (qX (Sp.yV 1 (Sp.vM c x) v) sy).toArray] w' (fun e wa=>∃k1 f1 t1 u1 y1,∃s1:Sl,e=.returned (.agg #[.int .i64 k1,.int .i64 f1,.int .i64 t1,.int .u64 u1,.string y1,s1.v])∧C wa ∧
     Calls prog 94 #[.agg (qX (Sp.qF Sp.qZ) sa).toArray,.agg #[.int .i64 k1,.int .i64 f1,.int .i64 t1,.int .u64 u1,.string y1,s1.v]] wa (fun e wb=>∃k1 f1 t1 u1 y1,∃s1:Sl,e=.returned (.agg #[.int .i64 k1,.int .i64 f1,.int .i64 t1,.int .u64 u1,.string y1,s1.v])∧C wb ∧
      Calls prog 131 #[.int .i64 f,.agg #[.int .i64 k1,.int .i64 f1,.int .i64 t1,.int .u64 u1,.string y1,s1.v]] wb (fun e wc=>∃k1 f1 t1 u1 y1,∃s1:Sl,e=.returned (.agg #[.int .i64 k1,.int .i64 f1,.int .i64 t1,.int .u64 u1,.string y1,s1.v]) ∧
       (∀j,j<6→zW wc (p2.add j))∧∀w'':World,w''=storeRow wc p2 [.int .i64 k1,.int .i64 f1,.int .i64 t1,.int .u64 u1,.string y1,s1.v] →
   ∃qKind1:Int,∃qFrom1:Int,∃qTo1:Int,∃qNum1:Int,∃qText1:ByteArray,∃qKids1:Sl,Row w'' p2 [(.int .i64 qKind1),(.int .i64 qFrom1),(.int .i64 qTo1),(.int .u64 qNum1),(.string qText1),qKids1.v]∧K qKind1 qFrom1 qTo1 qNum1 qText1 qKids1 w''))):=by
   intro u v sx sy w' hu hv E hX hY
   have s':=E.size
   refine (qV w2.heap.size (Sp.yV 0 (Sp.vM c x) u) (Sp.yV 1 (Sp.vM c x) v) sx sy w' (by omega) hX hY).mono ?_
   rintro _ wa ⟨s1,rfl,h1,Ea⟩
   have sa':=Ea.size
   refine ⟨_,_,_,_,_,s1,rfl,hCp _ _ (E.trans Ea) hC11,?_⟩
   refine (qV w2.heap.size (Sp.qF Sp.qZ) (Sp.qS (Sp.yV 0 (Sp.vM c x) u) (Sp.yV 1 (Sp.vM c x) v)) sa s1 wa (by omega) (hA.pure (E.trans Ea)) h1).mono ?_
   rintro _ wb ⟨s2,rfl,h2,Eb⟩
   have sb':=Eb.size
   refine ⟨_,_,_,_,_,s2,rfl,hCp _ _ ((E.trans Ea).trans Eb) hC11,?_⟩
   refine (uT w2.heap.size f (Sp.qS (Sp.qF Sp.qZ) (Sp.qS (Sp.yV 0 (Sp.vM c x) u) (Sp.yV 1 (Sp.vM c x) v))) s2 wb (by omega) h2).mono ?_
   rintro _ wc ⟨s3,rfl,h3,Ec⟩
   exact ⟨_,_,_,_,_,s3,rfl,fin _ s3 wc (((((E10.trans E11).trans E).trans Ea).trans Eb).trans Ec) h3 (by rw [← hR,hu,hv];simp only [Sp.vQ];rw [if_neg (by omega),if_neg (by omega),if_neg (by omega),if_pos hk])⟩
  refine ⟨fun hfk=>?_,fun hfk=>?_⟩
  ·refine (yM w2.heap.size 0 (.inl rfl) (Sp.vM c x) first sd w11 (by omega) hD11).mono ?_
   rintro _ w12 ⟨sx,rfl,hX,E12⟩
   have s12:=E12.size
   refine ⟨_,_,_,_,_,sx,rfl,hCp _ _ E12 hC11,Br.t hfk ?_⟩
   refine (yM w2.heap.size 1 (.inr rfl) (Sp.vM c x) second sd w12 (by omega) (hD11.pure E12)).mono ?_
   rintro _ w13 ⟨sy,rfl,hY,E13⟩
   exact ⟨_,_,_,_,_,sy,rfl,hCp _ _ (E12.trans E13) hC11,rest first second sx sy w13 (by rw [hfk];rfl) (by rw [hfk];rfl) (E12.trans E13) (hX.pure E13) hY⟩
  ·refine (yM w2.heap.size 0 (.inl rfl) (Sp.vM c x) false sd w11 (by omega) hD11).mono ?_
   rintro _ w12 ⟨sx,rfl,hX,E12⟩
   have s12:=E12.size
   refine ⟨_,_,_,_,_,sx,rfl,hCp _ _ E12 hC11,Br.f hfk ?_⟩
   refine (yM w2.heap.size 1 (.inr rfl) (Sp.vM c x) false sd w12 (by omega) (hD11.pure E12)).mono ?_
   rintro _ w13 ⟨sy,rfl,hY,E13⟩
   exact ⟨_,_,_,_,_,sy,rfl,hCp _ _ (E12.trans E13) hC11,rest false false sx sy w13 (by rw [hfk];rfl) (by rw [hfk];rfl) (E12.trans E13) (hX.pure E13) hY⟩
 ·have hk:k=5:=by simpa using hk
  refine ⟨C,hC,?_⟩
  intro w10 hw10
  have E10:Pure w5 w10:=by rw [hw10];exact Ext.drew w5
  have hC10:C w10:=by rw [hw10];exact hC
  clear hw10
  have s10:=E10.size
  refine ⟨c,fun w' h=>(hCb w' h).1.cell rfl,?_⟩
  refine (yN w2.heap.size _ w10 (by omega)).mono ?_
  rintro _ w11 ⟨sa,rfl,hA,E11⟩
  have s11:=E11.size
  refine ⟨_,_,_,_,_,sa,rfl,hCp _ _ E11 hC10,?_⟩
  refine (uO w2.heap.size c w11 (by omega)).mono ?_
  rintro _ w12 ⟨sb,rfl,hB,E12⟩
  have s12:=E12.size
  refine ⟨_,_,_,_,_,sb,rfl,?_⟩
  refine (qV w2.heap.size (Sp.qF Sp.qW) (Sp.jBJ c) sa sb w12 (by omega) (hA.pure E12) hB).mono ?_
  rintro _ w13 ⟨se,rfl,hE,E13⟩
  have s13:=E13.size
  refine ⟨_,_,_,_,_,se,rfl,?_⟩
  refine (uT w2.heap.size 2 (Sp.qS (Sp.qF Sp.qW) (Sp.jBJ c)) se w13 (by omega) hE).mono ?_
  rintro _ w14 ⟨s,rfl,hT,E14⟩
  exact ⟨_,_,_,_,_,s,rfl,fin _ s w14 ((((E10.trans E11).trans E12).trans E13).trans E14) hT (by rw [← hR];simp only [Sp.vQ];rw [if_neg (by omega),if_neg (by omega),if_neg (by omega),if_neg (by omega),if_pos hk])⟩
 ·have hk:k=6:=by simpa using hk
  refine ⟨C,hC,?_⟩
  intro w10 hw10
  have E10:Pure w5 w10:=by rw [hw10];exact Ext.drew w5
  have hC10:C w10:=by rw [hw10];exact hC
  clear hw10
  have s10:=E10.size
  refine ⟨_,_,_,_,_,sd,fun w' h=>(hCb w' h).2.row,?_⟩
  refine (yN w2.heap.size _ w10 (by omega)).mono ?_
  rintro _ w11 ⟨sa,rfl,hA,E11⟩
  have s11:=E11.size
  refine ⟨_,_,_,_,_,sa,rfl,hCp _ _ E11 hC10,?_⟩
  refine (qV w2.heap.size (Sp.qF Sp.yA) (Sp.vM c x) sa sd w11 (by omega) hA (hD5.pure (E10.trans E11))).mono ?_
  rintro _ w13 ⟨se,rfl,hE,E13⟩
  have s13:=E13.size
  refine ⟨_,_,_,_,_,se,rfl,?_⟩
  refine (uT w2.heap.size 2 (Sp.qS (Sp.qF Sp.yA) (Sp.vM c x)) se w13 (by omega) hE).mono ?_
  rintro _ w14 ⟨s,rfl,hT,E14⟩
  exact ⟨_,_,_,_,_,s,rfl,fin _ s w14 (((E10.trans E11).trans E13).trans E14) hT (by rw [← hR];simp only [Sp.vQ];rw [if_neg (by omega),if_neg (by omega),if_neg (by omega),if_neg (by omega),if_neg (by omega),if_pos hk])⟩
 ·have hk1:k≠1:=by simpa using hk1
  have hk2:k≠2:=by simpa using hk2
  have hk3:k≠3:=by simpa using hk3
  have hk4:k≠4:=by simpa using hk4
  have hk5:k≠5:=by simpa using hk5
  have hk6:k≠6:=by simpa using hk6
  refine ⟨C,hC,?_⟩
  intro w10 hw10
  have E10:Pure w5 w10:=by rw [hw10];exact Ext.drew w5
  have hC10:C w10:=by rw [hw10];exact hC
  clear hw10
  have s10:=E10.size
  refine ⟨c,fun w' h=>(hCb w' h).1.cell rfl,?_⟩
  refine (yN w2.heap.size _ w10 (by omega)).mono ?_
  rintro _ w11 ⟨sa,rfl,hA,E11⟩
  have s11:=E11.size
  refine ⟨_,_,_,_,_,sa,rfl,hCp _ _ E11 hC10,?_⟩
  refine (uO w2.heap.size c w11 (by omega)).mono ?_
  rintro _ w12 ⟨sb,rfl,hB,E12⟩
  have s12:=E12.size
  refine ⟨_,_,_,_,_,sb,rfl,?_⟩
  refine (qV w2.heap.size (Sp.qF Sp.jIJ) (Sp.jBJ c) sa sb w12 (by omega) (hA.pure E12) hB).mono ?_
  rintro _ w13 ⟨s,rfl,hT,E13⟩
  exact ⟨_,_,_,_,_,s,rfl,fin _ s w13 (((E10.trans E11).trans E12).trans E13) hT (by rw [← hR];simp only [Sp.vQ];rw [if_neg hk1,if_neg hk2,if_neg hk3,if_neg hk4,if_neg hk5,if_neg hk6])⟩
end Go.Proofs
end
section
namespace Go.Sp
theorem yK {L:Pool} {i:Nat} (hi:i<L.length):nodeOf L ((i:Int)+1)=L[i].node:=by
 have h:inP L ((i:Int)+1)=true:=vF.2 ⟨by omega,by omega⟩;have e:((i:Int)+1 - 1).toNat=i:=by omega
 simp [nodeOf,get,h,e,hi]
theorem jDO {L:Pool} {t:Int} (h:inP L t=true):∃i:Nat,i<L.length∧t=(i:Int)+1:=by
 have:=vF.1 h;exact ⟨(t - 1).toNat,by omega,by omega⟩
theorem jMU {L:Pool} {i:Nat} (hi:i<L.length):get L ((i:Int)+1)=some L[i]:=by
 have h:inP L ((i:Int)+1)=true:=vF.2 ⟨by omega,by omega⟩;have e:((i:Int)+1 - 1).toNat=i:=by omega
 simp [get,h,e,hi]
structure Wf (L:Pool):Prop where
 ok:Ok L
 each:∀i (hi:i<L.length),check (L.take i) L[i].node=(L[i].size,L[i].depth,0)
theorem Wf.nil:Wf []:=⟨Ok.nil,fun i hi=>by simp at hi⟩
theorem jOI {L:Pool} {n:Node} (h:(check L n).2.2=0):zZ n=0∧((shapeOf n.kind).kids<1→n.a=0)∧((shapeOf n.kind).kids<2→n.b=0)∧zX (shapeOf n.kind) n=0∧(∀t∈zM n,inP L t=true) ∧
  (check L n).1=1+((zM n).map (sizeOf L)).sum∧(check L n).2.1=(zM n).foldl (fun d t=>max d (depthOf L t)) 0+1∧(check L n).1≤4096∧(check L n).2.1≤64:=by
 unfold check at h ⊢
 simp only at h ⊢
 by_cases h1:zZ n≠0
 ·rw [if_pos h1] at h;exact absurd h h1
 rw [if_neg h1] at h ⊢
 split at h
 ·simp at h
 rename_i h2;rw [if_neg h2]
 by_cases h3:zX (shapeOf n.kind) n≠0
 ·rw [if_pos h3] at h;exact absurd h h3
 rw [if_neg h3] at h ⊢
 split at h
 ·simp at h
 rename_i h4;rw [if_neg h4]
 split at h
 ·simp at h
 rename_i h5;rw [if_neg h5]
 simp only [Bool.or_eq_true,Bool.and_eq_true,decide_eq_true_eq,bne_iff_ne,ne_eq,not_or,not_and,Classical.not_not] at h2
 refine ⟨by simpa using h1,h2.1,h2.2,by simpa using h3,fun t ht=>?_,rfl,rfl,by simp only;omega,by simp only;omega⟩
 cases hi:inP L t with
 | true=>rfl
 | false=>exact absurd (List.any_eq_true.2 ⟨t,ht,by simp [hi]⟩) h4
theorem jFM (L:Pool) (n:Node):(make L n).2.2=L∨((check L n).2.2=0∧(make L n).2.2=L++[⟨n,(check L n).1,(check L n).2.1⟩]):=by
 by_cases hc:(check L n).2.2=0
 ·unfold make;simp only [hc];rw [if_neg (by simp)];split
  ·exact .inl rfl
  ·split
   ·exact .inl rfl
   ·exact .inr ⟨trivial,rfl⟩
 ·unfold make;simp only;rw [if_pos hc];exact .inl rfl
theorem jPH {L:Pool} {e:Ent} (h:∀i (hi:i<L.length),check (L.take i) L[i].node=(L[i].size,L[i].depth,0)) (he:check L e.node=(e.size,e.depth,0)):∀i (hi:i<(L++[e]).length),check ((L++[e]).take i) (L++[e])[i].node=((L++[e])[i].size,(L++[e])[i].depth,0):=by
 intro i hi;simp only [List.length_append,List.length_cons,List.length_nil] at hi;by_cases hlt:i<L.length
 ·simp only [List.getElem_append_left hlt];rw [List.take_append_of_le_length (by omega)];exact h i hlt
 ·have:i=L.length:=by omega
  subst this;simp only [List.getElem_append_right (Nat.le_refl _),Nat.sub_self,List.getElem_cons_zero];rw [List.take_left' rfl];exact he
theorem jFL {L:Pool} (h:Wf L) (n:Node):Wf (make L n).2.2:=by
 have ho:=jLG h.ok n;rcases jFM L n with e | ⟨hc,e⟩
 ·rw [e];exact h
 ·rw [e] at ho ⊢;exact ⟨ho,jPH h.each (by rw [← hc])⟩
theorem jVD (t:Tree):∀L,Wf L→Wf (grow L t).2.2:=by
 induction t using Tree.ind with
 | h k f t u x ks ih =>
  have:∀(ks:List Tree),(∀i (hi:i<ks.length),∀L,Wf L→Wf (grow L ks[i]).2.2)→∀n i L,Wf L→Wf (vP n i L ks).2.2:=by
   intro ks;induction ks with
   | nil=>intro _ n i L h;unfold vP;exact jFL h n
   | cons t ts iht =>
    intro hh n i L h
    have h0:=hh 0 (by simp) L h
    simp only [List.getElem_cons_zero] at h0
    unfold vP
    split
    ·exact h0
    ·exact iht (fun i hi=>hh (i+1) (by simpa using hi)) _ _ _ h0
  intro L h
  unfold grow
  exact this ks ih _ _ L h
theorem of_wf {L:Pool} (h:Wf L) (t:Tree):Wf (of L t).2.2:=by
 unfold of;split
 ·exact h
 ·split
  ·exact h
  ·exact jVD t L h
theorem jHP {L M:Pool} {t:Int} (h:inP L t=true):inP (L++M) t=true:=by
 have:=vF.1 h;exact vF.2 ⟨this.1,by rw [List.length_append];omega⟩
theorem jLO {L M:Pool} {t:Int} (h:inP L t=true):get (L++M) t=get L t:=by
 obtain ⟨i,hi,rfl⟩:=jDO h;rw [jMU hi,jMU (by rw [List.length_append];omega),List.getElem_append_left hi]
theorem jNW {L M:Pool} {t:Int} (h:inP L t=true):nodeOf (L++M) t=nodeOf L t:=by unfold nodeOf;rw [jLO h]
theorem jNK {L M:Pool} {t:Int} (h:inP L t=true):sizeOf (L++M) t=sizeOf L t:=by unfold sizeOf;rw [jLO h]
theorem jLP {L M:Pool} {t:Int} (h:inP L t=true):depthOf (L++M) t=depthOf L t:=by unfold depthOf;rw [jLO h]
theorem Wf.node {L:Pool} (h:Wf L) {t:Int} (ht:inP L t=true):zZ (nodeOf L t)=0∧((shapeOf (nodeOf L t).kind).kids<1→(nodeOf L t).a=0)∧((shapeOf (nodeOf L t).kind).kids<2→(nodeOf L t).b=0)∧zX (shapeOf (nodeOf L t).kind) (nodeOf L t)=0 ∧
  (∀k∈zM (nodeOf L t),inP L k=true∧k<t)∧sizeOf L t=1+((zM (nodeOf L t)).map (sizeOf L)).sum∧depthOf L t=(zM (nodeOf L t)).foldl (fun d k=>max d (depthOf L k)) 0+1:=by
 obtain ⟨i,hi,rfl⟩:=jDO ht
 have he:=h.each i hi
 have hz:=jOI (L:=L.take i) (n:=L[i].node) (by rw [he])
 rw [yK hi]
 obtain ⟨h1,h2,h3,h4,h5,h6,h7,_,_⟩:=hz
 have hin:∀k∈zM L[i].node,inP (L.take i) k=true∧inP L k=true∧k<(i:Int)+1:=by
  intro k hk;have hk':=h5 k hk;have hk2:=vF.1 hk';have:L.take i++L.drop i=L:=List.take_append_drop i L;refine ⟨hk',by rw [← this];exact jHP hk',?_⟩;rw [List.length_take] at hk2;omega
 have hsz:∀k∈zM L[i].node,sizeOf (L.take i) k=sizeOf L k∧depthOf (L.take i) k=depthOf L k:=by
  intro k hk;have hk':=(hin k hk).1;have:L.take i++L.drop i=L:=List.take_append_drop i L;exact ⟨by rw [← jNK (M:=L.drop i) hk',this],by rw [← jLP (M:=L.drop i) hk',this]⟩
 refine ⟨h1,h2,h3,h4,fun k hk=>⟨(hin k hk).2.1,(hin k hk).2.2⟩,?_,?_⟩
 ·have:sizeOf L ((i:Int)+1)=L[i].size:=by simp [sizeOf,jMU hi]
  rw [this]
  rw [he] at h6
  simp only at h6
  rw [h6]
  congr 2
  exact List.map_congr_left (fun k hk=>(hsz k hk).1)
 ·have:depthOf L ((i:Int)+1)=L[i].depth:=by simp [depthOf,jMU hi]
  rw [this]
  rw [he] at h7
  simp only at h7
  rw [h7]
  congr 1
  have:∀(l:List Int) (d:Int),(∀k∈l,depthOf (L.take i) k=depthOf L k)→l.foldl (fun d t=>max d (depthOf (L.take i) t)) d=l.foldl (fun d k=>max d (depthOf L k)) d:=by
   intro l;induction l with
   | nil=>intro d _;rfl
   | cons a l ih=>intro d hh;simp only [List.foldl_cons];rw [hh a (by simp)];exact ih _ (fun k hk=>hh k (by simp [hk]))
  exact this _ _ (fun k hk=>(hsz k hk).2)
def jDL:Tree:=.mk 0 0 0 0 ⟨#[]⟩ []
def jHE (L:Pool):Nat→Int→Tree
 | 0,_=>jDL
 | fuel+1,t=>if inP L t=true then .mk (nodeOf L t).kind (nodeOf L t).frm (nodeOf L t).to (nodeOf L t).num (nodeOf L t).text ((zM (nodeOf L t)).map (jHE L fuel)) else jDL
def zI (L:Pool) (t:Int):Tree:=jHE L t.toNat t
theorem tI {L:Pool} {t:Int} (h:inP L t=false) (f:Nat):jHE L f t=jDL:=by
 cases f <;> simp [jHE,h]
theorem jNI {L:Pool} (h:Wf L):∀(f:Nat) (t:Int),t.toNat≤f→jHE L f t=zI L t:=by
 have key:∀(f g:Nat) (t:Int),t.toNat≤f→t.toNat≤g→jHE L f t=jHE L g t:=by
  intro f;induction f with
  | zero =>
   intro g t hf hg
   have:inP L t=false:=by
    apply Bool.eq_false_iff.2;intro hi;have:=vF.1 hi;omega
   rw [tI this,tI this]
  | succ f ih =>
   intro g t hf hg
   cases hi:inP L t with
   | false=>rw [tI hi,tI hi]
   | true =>
    have hpos:=vF.1 hi
    cases g with
    | zero=>omega
    | succ g =>
     simp only [jHE,hi,if_true]
     congr 1
     refine List.map_congr_left (fun k hk=>ih g k ?_ ?_)
     ·have:=((h.node hi).2.2.2.2.1 k hk).2;omega
     ·have:=((h.node hi).2.2.2.2.1 k hk).2;omega
 intro f t hf;exact key f t.toNat t hf (Nat.le_refl _)
theorem jKP {L:Pool} {t:Int} (h:inP L t=false):zI L t=jDL:=tI h _
theorem qB {L:Pool} (h:Wf L) {t:Int} (ht:inP L t=true):zI L t=.mk (nodeOf L t).kind (nodeOf L t).frm (nodeOf L t).to (nodeOf L t).num (nodeOf L t).text ((zM (nodeOf L t)).map (zI L)):=by
 have hpos:=vF.1 ht;have e:t.toNat=(t.toNat - 1)+1:=by omega
 unfold zI;rw [e];simp only [jHE,ht,if_true];congr 1;refine List.map_congr_left (fun k hk=>?_);have:=((h.node ht).2.2.2.2.1 k hk).2;exact jNI h _ k (by omega)
theorem Wf.first {L M:Pool} (h:Wf (L++M)):Wf L:=by
 refine ⟨⟨by have:=h.ok.few;rw [List.length_append] at this;omega,?_,fun e he=>h.ok.size e (by simp [he]),fun e he=>h.ok.depth e (by simp [he])⟩,fun i hi=>?_⟩
 ·have:=h.ok.nodup;rw [List.map_append] at this;exact (List.nodup_append.1 this).1
 ·have:=h.each i (by rw [List.length_append];omega);rw [List.getElem_append_left hi,List.take_append_of_le_length (by omega)] at this;exact this
theorem jGL {L M:Pool} (h:Wf (L++M)):∀(n:Nat) (t:Int),t.toNat=n→inP L t=true→zI (L++M) t=zI L t:=by
 have hL:=h.first;intro n;induction n using Nat.strongRecOn with
 | _ n ih =>
  intro t hn ht
  rw [qB h (jHP ht),qB hL ht,jNW ht]
  congr 1
  refine List.map_congr_left (fun k hk=>?_)
  have hk':=(hL.node ht).2.2.2.2.1 k hk
  have:=vF.1 hk'.1
  exact ih k.toNat (by omega) k rfl hk'.1
theorem jFR {L:Pool} {n:Node} {i:Nat} (h:find L n=some i):∃hi:i<L.length,L[i].node=n:=by
 unfold find at h;rw [List.findIdx?_eq_some_iff_getElem] at h;obtain ⟨hi,h1,_⟩:=h;exact ⟨hi,by simpa using h1⟩
theorem jCH {L:Pool} {n:Node} (h:(make L n).2.1=0):inP (make L n).2.2 (make L n).1=true∧nodeOf (make L n).2.2 (make L n).1=n∧(check L n).2.2=0:=by
 unfold make at h ⊢;simp only at h ⊢;by_cases hc:(check L n).2.2≠0
 ·rw [if_pos hc] at h;exact absurd h hc
 ·rw [if_neg hc] at h ⊢;have hc:(check L n).2.2=0:=by simpa using hc
  cases hf:find L n with
  | some i =>
   obtain ⟨hi,hn⟩:=jFR hf
   simp only
   exact ⟨vF.2 ⟨by omega,by omega⟩,by rw [yK hi,hn],hc⟩
  | none =>
   rw [hf] at h
   simp only at h ⊢
   split at h
   ·simp at h
   ·rename_i hl
    rw [if_neg hl]
    simp only
    have hi:L.length<(L++[(⟨n,(check L n).1,(check L n).2.1⟩:Ent)]).length:=by simp
    refine ⟨vF.2 ⟨by omega,by simp⟩,?_,hc⟩
    rw [yK hi]
    simp
theorem jEI (L:Pool) (n:Node):∃M,(make L n).2.2=L++M:=jGS L n
inductive Good:Tree→Prop
 | mk (k f t u:Int) (x:ByteArray) (ks:List Tree) (own:uH ⟨k,f,t,u,x,0,0⟩ ks.length=0) (kids:∀i (hi:i<ks.length),Good ks[i]):Good (.mk k f t u x ks)
theorem jCW {L:Pool} (hW:Wf L):∀(n:Nat) (s t:Int),s.toNat+t.toNat=n→inP L s=true→inP L t=true→zI L s=zI L t→s=t:=by
 intro n;induction n using Nat.strongRecOn with
 | _ n ih =>
  intro s t hn hs ht he
  rw [qB hW hs,qB hW ht] at he
  injection he with e1 e2 e3 e4 e5 e6
  obtain ⟨i,hi,rfl⟩:=jDO hs
  obtain ⟨j,hj,rfl⟩:=jDO ht
  have hki:=(hW.node hs)
  have hkj:=(hW.node ht)
  rw [yK hi] at e1 e2 e3 e4 e5 e6 hki
  rw [yK hj] at e1 e2 e3 e4 e5 e6 hkj
  generalize hni:L[i].node=ni at *
  generalize hnj:L[j].node=nj at *
  have hsame:∀a∈zM ni,∀b∈zM nj,zI L a=zI L b→a=b:=by
   intro a ha b hb hab;have h1:=hki.2.2.2.2.1 a ha;have h2:=hkj.2.2.2.2.1 b hb;have p1:=vF.1 h1.1;have p2:=vF.1 h2.1;exact ih (a.toNat+b.toNat) (by omega) a b rfl h1.1 h2.1 hab
  have hab:ni.a=nj.a∧ni.b=nj.b:=by
   have z1:=hki.2.1;have z2:=hki.2.2.1;have z3:=hkj.2.1;have z4:=hkj.2.2.1;unfold zM at e6 hsame;rw [← e1] at e6 hsame z3 z4;rcases uL ni.kind with h | h | h <;> rw [h] at e6 hsame z1 z2 z3 z4
   ·exact ⟨by rw [z1 (by omega),z3 (by omega)],by rw [z2 (by omega),z4 (by omega)]⟩
   ·simp at e6 hsame;exact ⟨hsame e6,by rw [z2 (by omega),z4 (by omega)]⟩
   ·simp at e6 hsame;exact ⟨hsame.1.1 e6.1,hsame.2.2 e6.2⟩
  have hnn:L[i].node=L[j].node:=by
   rw [hni,hnj];obtain ⟨_,_,_,_,_,_,_⟩:=ni;obtain ⟨_,_,_,_,_,_,_⟩:=nj;simp at e1 e2 e3 e4 e5 hab;simp [e1,e2,e3,e4,e5,hab]
  have:=List.pairwise_iff_getElem.1 hW.ok.nodup
  have hij:i=j:=by
   rcases Nat.lt_trichotomy i j with h | h | h
   ·exact absurd (by rw [List.getElem_map,List.getElem_map];exact hnn) (this i j (by simpa using hi) (by simpa using hj) h)
   ·exact h
   ·exact absurd (by rw [List.getElem_map,List.getElem_map];exact hnn.symm) (this j i (by simpa using hj) (by simpa using hi) h)
  rw [hij]
end Go.Sp
end
section
namespace Go.Sp
mutual
def cnt:Tree→Nat
 | .mk _ _ _ _ _ ks=>1+cntAll ks
def cntAll:List Tree→Nat
 | []=>0
 | t :: ts=>cnt t+cntAll ts
end
theorem jVI (t:Tree):1≤cnt t:=by cases t;simp [cnt]
theorem jGW:∀ks:List Tree,ks.length≤cntAll ks
 | []=>by simp
 | t :: ts=>by have:=jVI t;have:=jGW ts;simp only [cntAll,List.length_cons];omega
theorem jGX:∀{ks:List Tree} {i:Nat} (hi:i<ks.length),cnt ks[i]≤cntAll ks
 | t :: ts,0,_=>by simp [cntAll]
 | t :: ts,i+1,hi=>by
  have:=jGX (ks:=ts) (i:=i) (by simpa using hi);simp only [cntAll,List.getElem_cons_succ];omega
mutual
def jAD (most:Int):Tree→Int
 | .mk _ _ _ _ _ ks=>yT most 1 ks
def yT (most n:Int):List Tree→Int
 | []=>n
 | t :: ts=>if n≤most then yT most (n+jAD (most - n) t) ts else n
end
theorem jFH (t:Tree):∀most:Int,0≤most→1≤jAD most t∧jAD most t≤most+1∧(jAD most t≤most→(cnt t:Int)=jAD most t):=by
 induction t using Tree.ind with
 | h k f tt u x ks ih =>
  have hA : ∀ (ks : List Tree), (∀ i (hi : i < ks.length), ∀ most : Int, 0 ≤ most → 1 ≤ jAD most ks[i] ∧ jAD most ks[i] ≤ most + 1 ∧ (jAD most ks[i] ≤ most → (cnt ks[i] : Int) = jAD most ks[i])) →
    ∀most n:Int,1≤n→n≤most+1→n≤yT most n ks∧yT most n ks≤most+1∧(yT most n ks≤most→n+(cntAll ks:Int)=yT most n ks):=by
   intro ks
   induction ks with
   | nil=>intro _ most n h1 h2;simp [yT,cntAll,h2]
   | cons t ts iht =>
    intro hh most n h1 h2
    unfold yT
    by_cases hn:n≤most
    ·rw [if_pos hn]
     have h0:=hh 0 (by simp) (most - n) (by omega)
     simp only [List.getElem_cons_zero] at h0
     have h3:=iht (fun i hi=>hh (i+1) (by simpa using hi)) most (n+jAD (most - n) t) (by omega) (by omega)
     refine ⟨by omega,h3.2.1,fun h=>?_⟩
     have h4:=h3.2.2 h
     have h5:=h0.2.2 (by omega)
     simp only [cntAll];omega
    ·rw [if_neg hn];exact ⟨Int.le_refl _,h2,fun h=>absurd h hn⟩
  intro most hm
  have:=hA ks ih most 1 (by omega) (by omega)
  simp only [jAD,cnt]
  refine ⟨this.1,this.2.1,fun h=>?_⟩
  have:=this.2.2 h
  omega
mutual
def same:Tree→Tree→Bool
 | .mk k f t u x ks,.mk k' f' t' u' x' ks'=>decide (k=k') && decide (f=f') && decide (t=t') && decide (u=u') && decide (x=x') && yQ ks ks'
def yQ:List Tree→List Tree→Bool
 | [],[]=>true
 | t :: ts,t' :: ts'=>same t t' && yQ ts ts'
 | _,_=>false
end
theorem jED (a:Tree):∀b,same a b=true↔a=b:=by
 induction a using Tree.ind with
 | h k f t u x ks ih =>
  have hA:∀(ks:List Tree),(∀i (hi:i<ks.length),∀b,same ks[i] b=true↔ks[i]=b)→∀ks',yQ ks ks'=true↔ks=ks':=by
   intro ks;induction ks with
   | nil=>intro _ ks';cases ks' <;> simp [yQ]
   | cons t ts iht =>
    intro hh ks'
    cases ks' with
    | nil=>simp [yQ]
    | cons t' ts' =>
     have h0:=hh 0 (by simp) t'
     simp only [List.getElem_cons_zero] at h0
     simp only [yQ,Bool.and_eq_true,h0,iht (fun i hi=>hh (i+1) (by simpa using hi)) ts',List.cons.injEq]
  intro b
  obtain ⟨k',f',t',u',x',ks'⟩:=b
  simp only [same,Bool.and_eq_true,decide_eq_true_eq,hA ks ih ks',Tree.mk.injEq]
  constructor
  ·rintro ⟨⟨⟨⟨⟨h1,h2⟩,h3⟩,h4⟩,h5⟩,h6⟩;exact ⟨h1,h2,h3,h4,h5,h6⟩
  ·rintro ⟨h1,h2,h3,h4,h5,h6⟩;exact ⟨⟨⟨⟨⟨h1,h2⟩,h3⟩,h4⟩,h5⟩,h6⟩
end Go.Sp
end
section
namespace Go.Sp
def jAE (x:Tree):List Nat→Tree
 | []=>x
 | i :: jRO=>match x.kids[i]? with
  | none=>jDL
  | some y=>jAE y jRO
def isSigned (k:Int):Bool:=(k == 1 || k == 2) || k == 4
def isTexted (k:Int):Bool:=isSigned k || k == 6
def qJ (l:Letter):Int :=
 if l.kind<1∨l.kind>7∨(l.frm≠0∧l.frm≠1)∨(isSigned l.kind=false∧l.frm≠0)∨(isTexted l.kind=false∧l.text≠⟨#[]⟩)∨(l.fake=true∧l.kind≠1∧l.kind≠4) then 110 else if l.text.size>64 then 1 else 0
def jKJ (x:Tree) (kind:Int) (p:List Nat):Letter :=
 ⟨kind,if isSigned kind then x.node.frm else 0,
  if isTexted kind then (jAE (jAE x p) [1,0]).node.num else if kind == 7 then (jAE x [1]).node.num else (jAE x [0,1]).node.num,
  if isTexted kind then (jAE (jAE x p) [1,1]).node.text else ⟨#[]⟩,false⟩
def uB (l:Letter) (f:Nat):Letter:={ l with fake:=decide (f>0) }
def jIA (x:Tree) (l:Letter) (f:Nat):Bool :=
 decide (qJ (uB l f)=0) && (l.kind == 4 || decide (f≠2)) && same (vQ (uB l f) (f % 2 == 1) (f / 2 == 1)) x
def yB (x:Tree) (l:Letter):Nat→Nat→Option Letter
 | 0,_=>none
 | n+1,f=>if jIA x l f then some (uB l f) else yB x l n (f+1)
def qP (x:Tree) (kind:Int):List (List Nat)→Option Letter
 | []=>none
 | p :: ps=>match yB x (jKJ x kind p) 4 0 with
  | some l=>some l
  | none=>qP x kind ps
def deals:List (List Nat):=[[0],[0,1,0,0],[0,1]]
def yR (x:Tree):Nat→Int→Option Letter
 | 0,_=>none
 | n+1,k=>match qP x k deals with
  | some l=>some l
  | none=>yR x n (k+1)
def qK (x:Tree):Letter×Bool:=match yR x 7 1 with
 | some l=>(l,true)
 | none=>(yU,false)
def tU (L:Pool) (t:Int):Letter×Bool:=if inP L t=true∧¬ sizeOf L t>40 then qK (zI L t) else (yU,false)
end Go.Sp
end
section
open Go Go.SE
open Go.IntKind renaming i64 → q6
namespace Go.Proofs
open Tryz
set_option maxRecDepth 100000
set_option maxHeartbeats 4000000
attribute [local irreducible] wpL wpX opE wpE Calls
def m_E3  (w0:World) (K:(Array Value)→WP):Prop :=∀p1 w1,New w0 (.cells #[(vb false),(vb false),(vb false),ve,(vb false),(vb false),(vb false),ve,(vb false),(vb false),(vb false),ve,(vb false),(vb false),(vb false),ve,(vb false),(vb false),(vb false),ve,(vb false),(vb false),(vb false),ve,(vb false),(vb false),(vb false),ve,(vb false),(vb false),(vb false),ve] 121) p1 w1→(∀j,j<32→zW w1 (p1.add j))∧∀w2,w2=storeRow w1 p1 [(vb false),(vb false),(vb false),ve,(vb true),(vb true),(vb true),(vs (⟨#[112,114,111,109,105,115,101]⟩:ByteArray)),(vb true),(vb true),(vb false),(vs (⟨#[115,105,103,110]⟩:ByteArray)),(vb false),(vb false),(vb false),(vs (⟨#[97,98,111,114,116]⟩:ByteArray)),(vb true),(vb true),(vb true),(vs (⟨#[114,101,115,111,108,118,101]⟩:ByteArray)),(vb false),(vb false),(vb false),(vs (⟨#[116,111,107,101,110]⟩:ByteArray)),(vb false),(vb true),(vb false),(vs (⟨#[105,110,115,116,101,97,100]⟩:ByteArray)),(vb false),(vb false),(vb false),(vs (⟨#[102,117,108,108]⟩:ByteArray))]→∃cT:Array Value,(cT.size=32∧Row w2 p1 cT.toList)∧K cT w2
theorem w_E3  (w0:World) (K:(Array Value)→WP) (h:m_E3  w0 K) :
  Calls prog 73 #[] w0 (fun e w'=>∃r1:Array Value,e=.returned (.agg r1)∧K r1 w'):=by
 refine cw (args:=[]) func73 ntmps73 (eg (sn (O:=(.cells #[(vb false),(vb false),(vb false),ve,(vb false),(vb false),(vb false),ve,(vb false),(vb false),(vb false),ve,(vb false),(vb false),(vb false),ve,(vb false),(vb false),(vb false),ve,(vb false),(vb false),(vb false),ve,(vb false),(vb false),(vb false),ve,(vb false),(vb false),(vb false),ve] 121)) (zH (zeroValue121 _) rfl) ?_))
 intro p1 w1 hn2
 have h:=h p1 w1 hn2
 refine ln (eg (qd (qd (sro (sizeOf121 _) h fun w2 h=>ln (er ?_)))))
 obtain ⟨cT,hv1,h⟩:=h
 refine gg1 results73 (RV.cellAr (A:=p1) (vs:=cT) (by kernel_rfl) (isAgg121 _) (sizeOf121 _) hv1) ⟨cT,rfl,h⟩
def m_O_j3 (aC:ByteArray) (aD:Bool) (a1:Addr) (x2:Bool) (w0:World) (H:NP) (w:World) (K:Int→WP):Prop :=Br x2 (K 110 w) (∃v1,w.cell? (a1.add 2)=some (vb v1)∧Br ((!v1) && aD) (∀H6 w6,Hst w0 H w H6 w6→K 110 w6) (Br (decide ((aC.size:Int)>64)) (∀H6 w6,Hst w0 H w H6 w6→K 1 w6) (∀H6 w6,Hst w0 H w H6 w6→K 0 w6)))
def m_O_j2 (aC:ByteArray) (aD:Bool) (a1:Addr) (x1:Bool) (w0:World) (H:NP) (w:World) (K:Int→WP):Prop :=Br x1 (K 110 w) (∃v2,w.cell? (a1.add 1)=some (vb v2)∧∀H7 w7,Hst w0 H w H7 w7→m_O_j3 aC aD a1 ((!v2) && (!(decide (aC=⟨#[]⟩)))) w0 H7 w7 K)
def m_O_j1 (aB:Int) (aC:ByteArray) (aD:Bool) (a1:Addr) (w0:World) (H:NP) (w:World) (K:Int→WP):Prop :=Br ((aB != 0) && (aB != 1)) (∀H4 w4,Hst w0 H w H4 w4→K 110 w4) (∀H4 w4,Hst w0 H w H4 w4→∃v3,w4.cell? a1=some (vb v3)∧∀H8 w8,Hst w0 H4 w4 H8 w8→m_O_j2 aC aD a1 ((!v3) && (aB != 0)) w0 H8 w8 K)
def m_O (aA aB aE:Int) (aC:ByteArray) (aD:Bool) (w0:World) (K:Int→WP):Prop :=Br ((decide (aA<1)) || (decide (aA>7))) (∀H2 w2,Hst w0 None w0 H2 w2→K 110 w2) (∀H2 w2,Hst w0 None w0 H2 w2→∃C1:WP,C1 w2.drew∧∀w9,w9=w2.drew→(Calls prog 73 #[] w9 (fun e w10=>∃r1:Array Value,e=.returned (.agg r1)∧C1 w10∧Kept H2 w9 w10∧∃efrom1 etext1 efake1 eword1,(∀w',C1 w'→(Instr.index 121 (.agg r1) (vi aA)).run prog w'=.ok (.agg #[(vb efrom1),(vb etext1),(vb efake1),(vs eword1)]) w')∧∀p2 w11,New w10 (.cells #[(vb false),(vb false),(vb false),ve] 120) p2 w11→C1 w11∧(∀j,j<4→zW w11 (p2.add j))∧¬ H2 p2.block∧∀w12,w12=storeRow w11 p2 [(vb efrom1),(vb etext1),(vb efake1),(vs eword1)]→m_O_j1 aB aC aD p2 w0 H2 w12 K))∧(∀p3 w13,New w9 (.cells #[(vb false),(vb false),(vb false),ve] 120) p3 w13→C1 w13∧Calls prog 73 #[] w13 (fun e w14=>∃r2:Array Value,e=.returned (.agg r2)∧C1 w14∧Kept H2 w13 w14∧∃efrom2 etext2 efake2 eword2,(∀w',C1 w'→(Instr.index 121 (.agg r2) (vi aA)).run prog w'=.ok (.agg #[(vb efrom2),(vb etext2),(vb efake2),(vs eword2)]) w')∧(∀j,j<4→zW w14 (p3.add j))∧¬ H2 p3.block∧∀w15,w15=storeRow w14 p3 [(vb efrom2),(vb etext2),(vb efake2),(vs eword2)]→m_O_j1 aB aC aD p3 w0 H2 w15 K)))
theorem w_O (aA aB aE aC aD w0 K) (h:m_O aA aB aE aC aD w0 K):
  Calls prog 31 #[(.agg #[(vi aA),(vi aB),(vu aE),(vs aC),(vb aD)])] w0 (fun e w'=>∃r3,e=.returned (vi r3)∧K r3 w'):=by
 refine cw (args:=[(Af aA aB aE aC aD)]) func31 ntmps31 ?_
 obtain ⟨hs,hb⟩:=st0 w0
 refine eg (nw3 (Ac aA aB aE aC aD) 56 hs hb xb fun p1 w1 H1 hs hb=>q (ln (zA (zA (vO (fun ρ wJ=>∃b1'0:Bool,∃HJ:NP,((decide (aA<1))=b1'0)∧Hst w0 None w0 HJ wJ∧HB HJ wJ [(p1,(Ac aA aB aE aC aD),56)]∧Has ρ [(1,(vp (some p1))),(11,(vb (b1'0 || (decide (aA>7)))))]) ?_ ?_)))))
 refine rg (q (q3 (xl (isAgg3 _) (hb.d0 0 gZ)) (qb ?_)))
 rcases bte (decide (aA<1)) with hg2 | hg2
 refine sj3 7 hg2 (q2 (vb true) (xT hg2) (ln ⟨true,_,hg2,hs,hb,hm⟩))
 refine qk 7 hg2 (q4 7 hg2 (xl (isAgg3 _) (hb.d0 0 gZ)) (qk 7 hg2 (q2 (vb (decide (aA>7))) (xF hg2) (ln ⟨false,_,hg2,hs,hb,hm⟩))))
 rintro ρ w2 ⟨b1'0,H2,he0,hs,hb,hH⟩
 subst he0
 refine vC hH (zN (cbr h ?_ ?_))<;>intro h
 refine eg (q (ln (er (vA ?_))))
 have ⟨h,hs⟩:=hs.hr (h H2 w2)
 refine rs1 results31 ⟨110,rfl,h⟩
 refine zD (zN (zA (vD (fun ρ w=>∃a1:Addr,∃H:NP,Has ρ [(1,(vp (some p1))),(3,(vp (some a1)))]∧Hst w0 H w H w∧HB H w [(p1,(Ac aA aB aE aC aD),56)]∧m_O_j1 aB aC aD a1 w0 H w K) ?_ ?_)))
 rintro ρ w ⟨a1,H,hH,hs,hb,h⟩
 refine zR hH (zA (zL (zA (zA (vO (fun ρ wJ=>∃HJ:NP,Hst w0 H w HJ wJ∧HB HJ wJ [(p1,(Ac aA aB aE aC aD),56)]∧Has ρ [(1,(vp (some p1))),(3,(vp (some a1))),(16,(vb ((aB != 0) && (aB != 1))))]) ?_ ?_)))))
 refine rg (q (q3 (xl (isAgg3 _) (hb.d 0 1 gZ)) (qb (zK 4 (fun ρ wJ=>∃b4'0:Bool,∃HJ:NP,((aB != 0)=b4'0)∧Hst w0 H w HJ wJ∧HB HJ wJ [(p1,(Ac aA aB aE aC aD),56)]∧Has ρ [(1,(vp (some p1))),(3,(vp (some a1))),(24,(vb (b4'0 && (aB != 1))))]) ?_ ?_))))
 rintro ρ w5 ⟨b4'0,H5,he0,hs,hb,hH⟩
 subst he0
 refine zQ hH (q (ln ⟨_,hs,hb,hm⟩))
 rcases bte (aB != 0) with hg6 | hg6
 refine qk 20 hg6 (q4 20 hg6 (xl (isAgg3 _) (hb.d 0 1 gZ)) (qk 20 hg6 (q2 (vb (aB != 1)) (xT hg6) (zC ⟨true,_,hg6,hs,hb,hm⟩))))
 refine sj3 20 hg6 (q2 (vb false) (xF hg6) (zC ⟨false,_,hg6,hs,hb,hm⟩))
 rintro ρ w4 ⟨H4,hs,hb,hH⟩
 refine vC hH (zN (cbr' h (fun hc2 h=>?_) (fun hc2 h=>?_)))
 refine zD (zN (jAI (t:=((aB != 0) && (aB != 1))) (by kernel_rfl) hc2 (eg (q0 (vi 110) (ln (er (qU (vA ?_))))))))
 have ⟨h,hs⟩:=hs.hr (h H4 w4)
 refine rs1 results31 ⟨110,rfl,h⟩
 refine zA (vD (fun ρ w=>∃x1,∃H:NP,Has ρ [(1,(vp (some p1))),(3,(vp (some a1))),(16,(vb x1))]∧Hst w0 H w H w∧HB H w [(p1,(Ac aA aB aE aC aD),56)]∧m_O_j2 aC aD a1 x1 w0 H w K) ?_ ?_)
 rintro ρ w ⟨x1,H,hH,hs,hb,h⟩
 refine zR hH (cbr' h (fun hc3 h=>?_) (fun hc3 h=>?_))
 refine zD (zN (jAI (t:=x1) (by kernel_rfl) hc3 (eg (q0 (vi 110) (ln (er (qU (vA (rs1 results31 ⟨110,rfl,h⟩)))))))))
 refine zA (vD (fun ρ w=>∃x2,∃H:NP,Has ρ [(1,(vp (some p1))),(3,(vp (some a1))),(16,(vb x2))]∧Hst w0 H w H w∧HB H w [(p1,(Ac aA aB aE aC aD),56)]∧m_O_j3 aC aD a1 x2 w0 H w K) ?_ ?_)
 rintro ρ w ⟨x2,H,hH,hs,hb,h⟩
 refine zR hH (cbr' h (fun hc4 h=>?_) (fun hc4 h=>?_))
 refine zD (zN (jAI (t:=x2) (by kernel_rfl) hc4 (eg (q0 (vi 110) (ln (er (qU (vA (rs1 results31 ⟨110,rfl,h⟩)))))))))
 refine rg (q (ql (isAgg4 _) h fun v1 h=>qb (zK 3 (fun ρ wJ=>∃b5'0:Bool,∃HJ:NP,((!v1)=b5'0)∧Hst w0 H w HJ wJ∧HB HJ wJ [(p1,(Ac aA aB aE aC aD),56)]∧Has ρ [(1,(vp (some p1))),(47,(vb (b5'0 && aD)))]) ?_ ?_)))
 rintro ρ w6 ⟨b5'0,H6,he0,hs,hb,hH⟩
 subst he0
 refine zQ hH (q (ln (cbr h ?_ ?_)))<;>intro h
 refine eg (q (ln (er (qU (vA ?_)))))
 have ⟨h,hs⟩:=hs.hr (h H6 w6)
 refine rs1 results31 ⟨110,rfl,h⟩
 refine eg (q (q3 (xl (isAgg9 _) (hb.d 0 3 gZ)) (qc (ln (cbr h ?_ ?_)))))<;>intro h
 refine eg (q (ln (er (qU (vA ?_)))))
 have ⟨h,hs⟩:=hs.hr (h H6 w6)
 refine rs1 results31 ⟨1,rfl,h⟩
 refine zD (tG (zN (eg (q (ln (er ?_))))))
 have ⟨h,hs⟩:=hs.hr (h H6 w6)
 refine rs1 results31 ⟨0,rfl,h⟩
 rcases bte (!v1) with hg8 | hg8
 refine qk 44 hg8 (q4 44 hg8 (xl (isAgg4 _) (hb.d 0 4 gZ)) (q2 (vb aD) (xT hg8) (zC ⟨true,_,hg8,hs,hb,hm⟩)))
 refine sj2 44 hg8 (q2 (vb false) (xF hg8) (zC ⟨false,_,hg8,hs,hb,hm⟩))
 refine rg (q (ql (isAgg4 _) h fun v2 h=>qb (zK 4 (fun ρ wJ=>∃b6'0:Bool,∃HJ:NP,((!v2)=b6'0)∧Hst w0 H w HJ wJ∧HB HJ wJ [(p1,(Ac aA aB aE aC aD),56)]∧Has ρ [(1,(vp (some p1))),(3,(vp (some a1))),(40,(vb (b6'0 && (!(decide (aC=⟨#[]⟩))))))]) ?_ ?_)))
 rintro ρ w7 ⟨b6'0,H7,he0,hs,hb,hH⟩
 subst he0
 refine zQ hH (q (zC ?_))
 have ⟨h,hs⟩:=hs.hr (h H7 w7)
 refine zN ⟨((!v2) && (!(decide (aC=⟨#[]⟩)))),H7,hm,hs,hb,h⟩
 rcases bte (!v2) with hg10 | hg10
 refine qk 36 hg10 (q4 36 hg10 (xl (isAgg9 _) (hb.d 0 3 gZ)) (stq (v:=(vb (!(decide (aC=⟨#[]⟩))))) (wy 36 hg10) (xV (by kernel_rfl) (by kernel_rfl)) (q2 (vb (!(decide (aC=⟨#[]⟩)))) (xT hg10) (zC ⟨true,_,hg10,hs,hb,hm⟩))))
 refine sj3 36 hg10 (q2 (vb false) (xF hg10) (zC ⟨false,_,hg10,hs,hb,hm⟩))
 refine rg (q ?_)
 have ⟨h,hs⟩:=hs.hr (h H4 w4)
 refine ql (isAgg4 _) h fun v3 h=>qb (zK 4 (fun ρ wJ=>∃b7'0:Bool,∃HJ:NP,((!v3)=b7'0)∧Hst w0 H4 w4 HJ wJ∧HB HJ wJ [(p1,(Ac aA aB aE aC aD),56)]∧Has ρ [(1,(vp (some p1))),(3,(vp (some a1))),(32,(vb (b7'0 && (aB != 0))))]) ?_ ?_)
 rintro ρ w8 ⟨b7'0,H8,he0,hs,hb,hH⟩
 subst he0
 refine zQ hH (q (zC ?_))
 have ⟨h,hs⟩:=hs.hr (h H8 w8)
 refine zN ⟨((!v3) && (aB != 0)),H8,hm,hs,hb,h⟩
 rcases bte (!v3) with hg12 | hg12
 refine qk 28 hg12 (q4 28 hg12 (xl (isAgg3 _) (hb.d 0 1 gZ)) (qk 28 hg12 (q2 (vb (aB != 0)) (xT hg12) (zC ⟨true,_,hg12,hs,hb,hm⟩))))
 refine sj3 28 hg12 (q2 (vb false) (xF hg12) (zC ⟨false,_,hg12,hs,hb,hm⟩))
 have ⟨h,hs⟩:=hs.hr (h H2 w2)
 obtain ⟨C1,hC,h⟩:=h
 refine dr2 (fun x=>C1 x∧HB H2 x _) [0,4,5] [5] ⟨hC,hb.drew⟩ h hs hb fun w9 hs hb h=>?_
 have hs:=hs.here
 refine qx 1 (vp (some p1)) Kp1 (qz 2 (vi aA) Kp2 (fun w' hw'=>(xl (isAgg3 _) (hw'.2.cell0 0 gZ (by kernel_rfl)))) (jRP (k:=0) (k':=4) (by kernel_rfl) ?_ ?_))
 have h:=h.1
 refine slc Kp0 call73 (h.mono ?_)
 rintro e w10 ⟨r1,rfl,hC,hk,h⟩
 refine ⟨_,rfl,.inr ⟨hC,hb.kept hk⟩,?_⟩
 obtain ⟨hs,hb⟩:=hk.hh hs hb
 refine qg 3 ?_
 obtain ⟨efrom1,etext1,efake1,eword1,hv4,h⟩:=h
 refine sy (v:=(.agg #[(vb efrom1),(vb etext1),(vb efake1),(vs eword1)])) Kp3 (fun w' hw'=>(jCS (by kernel_rfl) (by kernel_rfl) (hv4 w' hw'.1))) (lg 4 (qH (O:=(.cells #[(vb false),(vb false),(vb false),ve] 120)) (fun p=>.pointer (some p)) Kp4 (zJ rfl) (by kernel_rfl) (zH (zeroValue120 _) rfl) ?_))
 intro p2 w11 hn3
 have h:=h p2 w11 hn3
 refine ⟨.inr ⟨h.1,hb.kept (Ext.new (F:=None) hn3).keptP⟩,?_⟩
 have h:=h.2
 obtain ⟨hs,hb⟩:=hs.nw hb hn3
 refine lg 5 ?_
 obtain ⟨hp1,hnh,h⟩:=h
 refine xJ Kp5 (zJ rfl) (by kernel_rfl) (xo p2 [(vb efrom1),(vb etext1),(vb efake1),(vs eword1)] (sizeOf120 _) hp1) ?_
 intro w12 hn2
 have h:=h w12 hn2
 refine ⟨.inl (by kernel_rfl),?_⟩
 have hk:Kept H2 w11 w12:=by rw [hn2];exact Kept.storeRow hnh
 obtain ⟨hs,hb⟩:=hk.hh hs hb
 refine wn (zN ⟨p2,H2,hm,hs,hb,h⟩)
 have h:=h.2
 refine qH (O:=(.cells #[(vb false),(vb false),(vb false),ve] 120)) (fun p=>.pointer (some p)) Kp4 (zJ rfl) (by kernel_rfl) (zH (zeroValue120 _) rfl) ?_
 intro p3 w13 hn5
 have h:=h p3 w13 hn5
 refine ⟨.inr ⟨h.1,hb.kept (Ext.new (F:=None) hn5).keptP⟩,?_⟩
 have h:=h.2
 obtain ⟨hs,hb⟩:=hs.nw hb hn5
 refine lg 0 (slc Kp0 call73 (h.mono ?_))
 rintro e w14 ⟨r2,rfl,hC,hk,h⟩
 refine ⟨_,rfl,.inr ⟨hC,hb.kept hk⟩,?_⟩
 obtain ⟨hs,hb⟩:=hk.hh hs hb
 refine qg 3 ?_
 obtain ⟨efrom2,etext2,efake2,eword2,hv5,h⟩:=h
 refine sy (v:=(.agg #[(vb efrom2),(vb etext2),(vb efake2),(vs eword2)])) Kp3 (fun w' hw'=>(jCS (by kernel_rfl) (by kernel_rfl) (hv5 w' hw'.1))) (lg 5 ?_)
 obtain ⟨hp2,hnh,h⟩:=h
 refine xJ Kp5 (zJ rfl) (by kernel_rfl) (xo p3 [(vb efrom2),(vb etext2),(vb efake2),(vs eword2)] (sizeOf120 _) hp2) ?_
 intro w15 hn4
 have h:=h w15 hn4
 refine ⟨.inl (by kernel_rfl),?_⟩
 have hk:Kept H2 w14 w15:=by rw [hn4];exact Kept.storeRow hnh
 obtain ⟨hs,hb⟩:=hk.hh hs hb
 refine wn (zN ⟨p3,H2,hm,hs,hb,h⟩)
def s_V (s1:ByteArray):Int×Int×Int×Int×ByteArray×Sl :=(3,0,0,0,s1,Sl.nil)
theorem pw_V (s1:ByteArray) (w0:World) :
  Calls prog 128 #[(vs s1)] w0 (fun e w'=>(e=.returned (.agg #[(vi 3),(vi 0),(vi 0),(vu 0),(vs s1),Sl.nil.v]))∧Pure w0 w'):=by
 refine cw (args:=[(vs s1)]) func128 ntmps128 ?_
 obtain ⟨hs,hb⟩:=st0 w0
 refine eg (nw3 [(vi 0),(vi 0),(vi 0),(vu 0),ve,Sl.nil.v] 28 hs hb (zH (zeroValue28 _) rfl) fun p1 w1 H1 hs hb=>ln (eg (qb (vW (zJ rfl) (xo p1 [(vi 3),(vi 0),(vi 0),(vu 0),(vs s1),Sl.nil.v] (sizeOf28 _) (hb.k0 0 6 gZ)) ?_))))
 intro w2 hn2
 obtain ⟨hs,hb⟩:=hb.st1 0 hs hn2 gZ
 refine ln (er (jAT (.inl rfl) (vs:=[(.agg #[(vi 3),(vi 0),(vi 0),(vu 0),(vs s1),Sl.nil.v])]) (v:=(.agg #[(vi 3),(vi 0),(vi 0),(vu 0),(vs s1),Sl.nil.v])) results128 ⟨(rva (isAgg28 _) (sizeOf28 _) (hb.r0 0 6 gZ)),trivial⟩ (by kernel_rfl) ⟨by kernel_rfl,(Ext.refl (F:=None) _).hst hs⟩))
theorem p_V (s1:ByteArray) (w0:World):Calls prog 128 #[(.string s1)] w0 (fun e w'=>e=.returned (.agg #[(.int .i64 (s_V s1).1),(.int .i64 (s_V s1).2.1),(.int .i64 (s_V s1).2.2.1),(.int .u64 (s_V s1).2.2.2.1),(.string (s_V s1).2.2.2.2.1),(s_V s1).2.2.2.2.2.v])∧Pure w0 w'):=pw_V s1 w0
def s_A1 (n1:Int):Int×Int×Int×Int×ByteArray×Sl :=(2,0,0,n1,⟨#[]⟩,Sl.nil)
theorem pw_A1 (n1:Int) (w0:World) :
  Calls prog 129 #[(vu n1)] w0 (fun e w'=>(e=.returned (.agg #[(vi 2),(vi 0),(vi 0),(vu n1),ve,Sl.nil.v]))∧Pure w0 w'):=by
 refine cw (args:=[(vu n1)]) func129 ntmps129 ?_
 obtain ⟨hs,hb⟩:=st0 w0
 refine eg (nw3 [(vi 0),(vi 0),(vi 0),(vu 0),ve,Sl.nil.v] 28 hs hb (zH (zeroValue28 _) rfl) fun p1 w1 H1 hs hb=>ln (eg (qb (vW (zJ rfl) (xo p1 [(vi 2),(vi 0),(vi 0),(vu n1),ve,Sl.nil.v] (sizeOf28 _) (hb.k0 0 6 gZ)) ?_))))
 intro w2 hn2
 obtain ⟨hs,hb⟩:=hb.st1 0 hs hn2 gZ
 refine ln (er (jAT (.inl rfl) (vs:=[(.agg #[(vi 2),(vi 0),(vi 0),(vu n1),ve,Sl.nil.v])]) (v:=(.agg #[(vi 2),(vi 0),(vi 0),(vu n1),ve,Sl.nil.v])) results129 ⟨(rva (isAgg28 _) (sizeOf28 _) (hb.r0 0 6 gZ)),trivial⟩ (by kernel_rfl) ⟨by kernel_rfl,(Ext.refl (F:=None) _).hst hs⟩))
theorem p_A1 (n1:Int) (w0:World):Calls prog 129 #[(.int .u64 n1)] w0 (fun e w'=>e=.returned (.agg #[(.int .i64 (s_A1 n1).1),(.int .i64 (s_A1 n1).2.1),(.int .i64 (s_A1 n1).2.2.1),(.int .u64 (s_A1 n1).2.2.2.1),(.string (s_A1 n1).2.2.2.2.1),(s_A1 n1).2.2.2.2.2.v])∧Pure w0 w'):=pw_A1 n1 w0
def m_F3 (aL aM:Int) (aN aO:Int) (aP:ByteArray) (aQ:Sl) (bJ bK:Int) (bL bM:Int) (bN:ByteArray) (bO:Sl) (w0:World) (K:Int→Int→Int→Int→ByteArray→Sl→WP):Prop :=∀H3 w3,Hst w0 None w0 H3 w3→∀p4 w4,New w3 (.cells #[(vi aL),(vi aM),(vi aN),(vu aO),(vs aP),aQ.v,(vi bJ),(vi bK),(vi bL),(vu bM),(vs bN),bO.v] 28) p4 w4→∀w5,Hst w0 H3 w4 H3 w5→K 4 0 0 0 ⟨#[]⟩ (Sl.mk (some p4) 2 2) w5
theorem w_F3 (aL aM aN aO aP aQ bJ bK bL bM bN bO w0 K) (h:m_F3 aL aM aN aO aP aQ bJ bK bL bM bN bO w0 K):
  Calls prog 127 #[(.agg #[(vi aL),(vi aM),(vi aN),(vu aO),(vs aP),aQ.v]),(.agg #[(vi bJ),(vi bK),(vi bL),(vu bM),(vs bN),bO.v])] w0 (fun e w'=>∃aF aG aH aI aJ aK,e=.returned (Aa aF aG aH aI aJ aK)∧K aF aG aH aI aJ aK w'):=by
 refine cw (args:=[(Aa aL aM aN aO aP aQ),(Aa bJ bK bL bM bN bO)]) func127 ntmps127 ?_
 obtain ⟨hs,hb⟩:=st0 w0
 refine eg (nw3 (Ab aL aM aN aO aP aQ) 28 hs hb xb fun p1 w1 H1 hs hb=>nw3 (Ab bJ bK bL bM bN bO) 28 hs hb xb fun p2 w2 H2 hs hb=>nw3 [(vi 0),(vi 0),(vi 0),(vu 0),ve,Sl.nil.v] 28 hs hb (zH (zeroValue28 _) rfl) fun p3 w3 H3 hs hb=>ln (eg (q2 (Aa aL aM aN aO aP aQ) (xa p1 (Ab aL aM aN aO aP aQ) (isAgg28 _) (sizeOf28 _) (hb.r0 2 6 (gS (gS gZ)))) (q2 (Aa bJ bK bL bM bN bO) (xa p2 (Ab bJ bK bL bM bN bO) (isAgg28 _) (sizeOf28 _) (hb.r0 1 6 (gS gZ))) ?_))))
 have ⟨h,hs⟩:=hs.hr (h H3 w3)
 refine nw5 (fun p=>(Sl.mk (some p) 2 2).v) hs hb h fun p4 w4 hs hb h=>q (vW (zJ rfl) (xo p3 [(vi 4),(vi 0),(vi 0),(vu 0),ve,(Sl.mk (some p4) 2 2).v] (sizeOf28 _) (hb.k0 0 6 gZ)) ?_)
 intro w5 hn4
 obtain ⟨hs,hb⟩:=hb.st1 0 hs hn4 gZ
 refine ln (er ?_)
 have ⟨h,hs⟩:=hs.hr (h w5)
 refine jAT (.inl rfl) (vs:=[(.agg #[(vi 4),(vi 0),(vi 0),(vu 0),ve,(Sl.mk (some p4) 2 2).v])]) (v:=(.agg #[(vi 4),(vi 0),(vi 0),(vu 0),ve,(Sl.mk (some p4) 2 2).v])) results127 ⟨(rva (isAgg28 _) (sizeOf28 _) (hb.r0 0 6 gZ)),trivial⟩ (by kernel_rfl) ⟨4,0,0,0,⟨#[]⟩,(Sl.mk (some p4) 2 2),rfl,h⟩
def m_G3 (c1:Int) (text1:ByteArray) (w0:World) (K:Int→Int→Int→Int→ByteArray→Sl→WP):Prop :=∀H1 w4,Hst w0 None w0 H1 w4→Calls prog 127 #[(.agg #[(vi 2),(vi 0),(vi 0),(vu c1),ve,Sl.nil.v]),(.agg #[(vi 3),(vi 0),(vi 0),(vu 0),(vs text1),Sl.nil.v])] w4 (fun e w5=>∃aF aG aH aI aJ aK,e=.returned (Aa aF aG aH aI aJ aK)∧Kept H1 w4 w5∧Calls prog 127 #[(.agg #[(vi 3),(vi 0),(vi 0),(vu 0),(vs (⟨#[100,101,97,108]⟩:ByteArray)),Sl.nil.v]),(.agg #[(vi aF),(vi aG),(vi aH),(vu aI),(vs aJ),aK.v])] w5 (fun e w6=>∃aR aS aT aU aV aW,e=.returned (Aa aR aS aT aU aV aW)∧Kept H1 w5 w6∧∀w7,Hst w0 H1 w6 H1 w7→K aR aS aT aU aV aW w7))
theorem w_G3 (c1 text1 w0 K) (h:m_G3 c1 text1 w0 K):
  Calls prog 93 #[(vu c1),(vs text1)] w0 (fun e w'=>∃aX aY aZ bA bB bC,e=.returned (Aa aX aY aZ bA bB bC)∧K aX aY aZ bA bB bC w'):=by
 refine cw (args:=[(vu c1),(vs text1)]) func93 ntmps93 ?_
 obtain ⟨hs,hb⟩:=st0 w0
 refine eg (nw3 [(vi 0),(vi 0),(vi 0),(vu 0),ve,Sl.nil.v] 28 hs hb (zH (zeroValue28 _) rfl) fun p1 w1 H1 hs hb=>ln (eg (sc call128 ((p_V (⟨#[100,101,97,108]⟩:ByteArray) w1).mono ?_))))
 rintro e w2 ⟨he,hE⟩
 refine ⟨_,he,?_⟩
 obtain ⟨hs,hb⟩:=hs.pp hb hE
 refine q (sc call129 ((p_A1 c1 w2).mono ?_))
 rintro e w3 ⟨he,hE⟩
 refine ⟨_,he,?_⟩
 obtain ⟨hs,hb⟩:=hs.pp hb hE
 refine q (sc call128 ((p_V text1 w3).mono ?_))
 rintro e w4 ⟨he,hE⟩
 refine ⟨_,he,?_⟩
 obtain ⟨hs,hb⟩:=hs.pp hb hE
 have ⟨h,hs⟩:=hs.hr (h H1 w4)
 refine sc call127 (h.mono fun e w5 ⟨aF,aG,aH,aI,aJ,aK,k,hk,h⟩=>have ⟨hs,hb⟩:=hk.hh hs hb;⟨_,k,?_⟩)
 refine sc call127 (h.mono fun e w6 ⟨aR,aS,aT,aU,aV,aW,k,hk,h⟩=>have ⟨hs,hb⟩:=hk.hh hs hb;⟨_,k,?_⟩)
 refine sbx 0 (Ab aR aS aT aU aV aW) (sizeOf28 _) hs hb gZ fun w7 hs hb=>ln (er ?_)
 have ⟨h,hs⟩:=hs.hr (h w7)
 refine jAT (.inl rfl) (vs:=[(Aa aR aS aT aU aV aW)]) (v:=(Aa aR aS aT aU aV aW)) results93 ⟨(rva (isAgg28 _) (sizeOf28 _) (hb.r0 0 6 gZ)),trivial⟩ (by kernel_rfl) ⟨aR,aS,aT,aU,aV,aW,rfl,h⟩
def m_H3 (from1:Int) (fake1:Bool) (bD bE:Int) (bF bG:Int) (bH:ByteArray) (bI:Sl) (w0:World) (K:Int→Int→Int→Int→ByteArray→Sl→WP):Prop :=∀H3 w3,Hst w0 None w0 H3 w3→∀p3 w4,New w3 (.cells #[(vi bD),(vi bE),(vi bF),(vu bG),(vs bH),bI.v] 28) p3 w4→∀w5,Hst w0 H3 w4 H3 w5→K (cond fake1 9 8) from1 (q6.wrap (1 - from1)) 0 ⟨#[]⟩ (Sl.mk (some p3) 1 1) w5
theorem w_H3 (from1 fake1 bD bE bF bG bH bI w0 K) (h:m_H3 from1 fake1 bD bE bF bG bH bI w0 K):
  Calls prog 125 #[(vi from1),(vb fake1),(.agg #[(vi bD),(vi bE),(vi bF),(vu bG),(vs bH),bI.v])] w0 (fun e w'=>∃aF aG aH aI aJ aK,e=.returned (Aa aF aG aH aI aJ aK)∧K aF aG aH aI aJ aK w'):=by
 refine cw (args:=[(vi from1),(vb fake1),(Aa bD bE bF bG bH bI)]) func125 ntmps125 ?_
 obtain ⟨hs,hb⟩:=st0 w0
 refine eg (nw3 (Ab bD bE bF bG bH bI) 28 hs hb xb fun p1 w1 H1 hs hb=>nw3 [(vi 0),(vi 0),(vi 0),(vu 0),ve,Sl.nil.v] 28 hs hb (zH (zeroValue28 _) rfl) fun p2 w2 H2 hs hb=>ln (eg (q (ln (zA (eg (q (zC (zN (vO (fun ρ wJ=>∃b1'0:Bool,∃HJ:NP,(fake1=b1'0)∧Hst w0 None w0 HJ wJ∧HB HJ wJ [(p2,[(vi 0),(vi 0),(vi 0),(vu 0),ve,Sl.nil.v],28),(p1,(Ab bD bE bF bG bH bI),28)]∧Has ρ [(0,(vi from1)),(5,(vp (some p1))),(6,(vp (some p2))),(7,(vi (cond b1'0 9 8)))]) ?_ ?_))))))))))
 refine vJ (t:=fake1) (by kernel_rfl) (fun hc2=>?_) (fun hc2=>?_)
 refine rg (q (ln ⟨true,_,hc2,hs,hb,hm⟩))
 refine zD (zN ⟨false,_,hc2,hs,hb,hm⟩)
 rintro ρ w3 ⟨b1'0,H3,he0,hs,hb,hH⟩
 subst he0
 refine vC hH (zN (eg (qd (q2 (Aa bD bE bF bG bH bI) (xa p1 (Ab bD bE bF bG bH bI) (isAgg28 _) (sizeOf28 _) (hb.r0 1 6 (gS gZ))) ?_))))
 have ⟨h,hs⟩:=hs.hr (h H3 w3)
 refine nw5 (fun p=>(Sl.mk (some p) 1 1).v) hs hb h fun p3 w4 hs hb h=>q (vW (zJ rfl) (xo p2 [(vi (cond fake1 9 8)),(vi from1),(vi (q6.wrap (1 - from1))),(vu 0),ve,(Sl.mk (some p3) 1 1).v] (sizeOf28 _) (hb.k0 0 6 gZ)) ?_)
 intro w5 hn3
 obtain ⟨hs,hb⟩:=hb.st1 0 hs hn3 gZ
 refine ln (er ?_)
 have ⟨h,hs⟩:=hs.hr (h w5)
 refine jAT (.inl rfl) (vs:=[(.agg #[(vi (cond fake1 9 8)),(vi from1),(vi (q6.wrap (1 - from1))),(vu 0),ve,(Sl.mk (some p3) 1 1).v])]) (v:=(.agg #[(vi (cond fake1 9 8)),(vi from1),(vi (q6.wrap (1 - from1))),(vu 0),ve,(Sl.mk (some p3) 1 1).v])) results125 ⟨(rva (isAgg28 _) (sizeOf28 _) (hb.r0 0 6 gZ)),trivial⟩ (by kernel_rfl) ⟨(cond fake1 9 8),from1,(q6.wrap (1 - from1)),0,⟨#[]⟩,(Sl.mk (some p3) 1 1),rfl,h⟩
def m_I3 (who1 aL:Int) (aM aN aO:Int) (aP:ByteArray) (aQ:Sl) (w0:World) (K:Int→Int→Int→Int→ByteArray→Sl→WP):Prop :=∀H2 w2,Hst w0 None w0 H2 w2→∀p3 w3,New w2 (.cells #[(vi aL),(vi aM),(vi aN),(vu aO),(vs aP),aQ.v] 28) p3 w3→∀w4,Hst w0 H2 w3 H2 w4→K 7 who1 0 0 ⟨#[]⟩ (Sl.mk (some p3) 1 1) w4
theorem w_I3 (who1 aL aM aN aO aP aQ w0 K) (h:m_I3 who1 aL aM aN aO aP aQ w0 K):
  Calls prog 126 #[(vi who1),(.agg #[(vi aL),(vi aM),(vi aN),(vu aO),(vs aP),aQ.v])] w0 (fun e w'=>∃aF aG aH aI aJ aK,e=.returned (Aa aF aG aH aI aJ aK)∧K aF aG aH aI aJ aK w'):=by
 refine cw (args:=[(vi who1),(Aa aL aM aN aO aP aQ)]) func126 ntmps126 ?_
 obtain ⟨hs,hb⟩:=st0 w0
 refine eg (nw3 (Ab aL aM aN aO aP aQ) 28 hs hb xb fun p1 w1 H1 hs hb=>nw3 [(vi 0),(vi 0),(vi 0),(vu 0),ve,Sl.nil.v] 28 hs hb (zH (zeroValue28 _) rfl) fun p2 w2 H2 hs hb=>ln (eg (q (q2 (Aa aL aM aN aO aP aQ) (xa p1 (Ab aL aM aN aO aP aQ) (isAgg28 _) (sizeOf28 _) (hb.r0 1 6 (gS gZ))) ?_))))
 have ⟨h,hs⟩:=hs.hr (h H2 w2)
 refine nw5 (fun p=>(Sl.mk (some p) 1 1).v) hs hb h fun p3 w3 hs hb h=>q (vW (zJ rfl) (xo p2 [(vi 7),(vi who1),(vi 0),(vu 0),ve,(Sl.mk (some p3) 1 1).v] (sizeOf28 _) (hb.k0 0 6 gZ)) ?_)
 intro w4 hn3
 obtain ⟨hs,hb⟩:=hb.st1 0 hs hn3 gZ
 refine ln (er ?_)
 have ⟨h,hs⟩:=hs.hr (h w4)
 refine jAT (.inl rfl) (vs:=[(.agg #[(vi 7),(vi who1),(vi 0),(vu 0),ve,(Sl.mk (some p3) 1 1).v])]) (v:=(.agg #[(vi 7),(vi who1),(vi 0),(vu 0),ve,(Sl.mk (some p3) 1 1).v])) results126 ⟨(rva (isAgg28 _) (sizeOf28 _) (hb.r0 0 6 gZ)),trivial⟩ (by kernel_rfl) ⟨7,who1,0,0,⟨#[]⟩,(Sl.mk (some p3) 1 1),rfl,h⟩
def m_J3 (aA aB aE:Int) (aC:ByteArray) (aD:Bool) (w0:World) (K:Int→Int→Int→Int→ByteArray→Sl→WP):Prop :=∀H2 w2,Hst w0 None w0 H2 w2→Calls prog 93 #[(vu aE),(vs aC)] w2 (fun e w3=>∃aF aG aH aI aJ aK,e=.returned (Aa aF aG aH aI aJ aK)∧Kept H2 w2 w3∧Br (aA == 1) (∀H3 w5,Hst w0 H2 w3 H3 w5→Calls prog 125 #[(vi aB),(vb aD),(.agg #[(vi aF),(vi aG),(vi aH),(vu aI),(vs aJ),aK.v])] w5 (fun e w6=>∃aR aS aT aU aV aW,e=.returned (Aa aR aS aT aU aV aW)∧Kept H3 w5 w6∧∀w7,Hst w0 H3 w6 H3 w7→K aR aS aT aU aV aW w7)) (Br (aA == 2) (∀H3 w5,Hst w0 H2 w3 H3 w5→Calls prog 126 #[(vi aB),(.agg #[(vi aF),(vi aG),(vi aH),(vu aI),(vs aJ),aK.v])] w5 (fun e w8=>∃aX aY aZ bA bB bC,e=.returned (Aa aX aY aZ bA bB bC)∧Kept H3 w5 w8∧∀w9,Hst w0 H3 w8 H3 w9→K aX aY aZ bA bB bC w9)) (Br (aA == 3) (∀H3 w5,Hst w0 H2 w3 H3 w5→∃C1:WP,C1 w5.drew∧∀w10,w10=w5.drew→Calls prog 128 #[(vs (⟨#[97,98,111,114,116]⟩:ByteArray))] w10 (fun e w11=>∃cU cV cW cX cY cZ,e=.returned (Aa cU cV cW cX cY cZ)∧C1 w11∧Kept H3 w10 w11∧Calls prog 129 #[(vu aE)] w11 (fun e w12=>∃dA dB dC dD dE dF,e=.returned (Aa dA dB dC dD dE dF)∧Kept H3 w11 w12∧Calls prog 127 #[(.agg #[(vi cU),(vi cV),(vi cW),(vu cX),(vs cY),cZ.v]),(.agg #[(vi dA),(vi dB),(vi dC),(vu dD),(vs dE),dF.v])] w12 (fun e w13=>∃dG dH dI dJ dK dL,e=.returned (Aa dG dH dI dJ dK dL)∧Kept H3 w12 w13∧Calls prog 126 #[(vi 0),(.agg #[(vi dG),(vi dH),(vi dI),(vu dJ),(vs dK),dL.v])] w13 (fun e w14=>∃bP bQ bR bS bT bU,e=.returned (Aa bP bQ bR bS bT bU)∧Kept H3 w13 w14∧∀w15,Hst w0 H3 w14 H3 w15→K bP bQ bR bS bT bU w15))))) (Br (aA == 4) (∀H3 w5,Hst w0 H2 w3 H3 w5→∃C2:WP,C2 w5.drew∧∀w16,w16=w5.drew→Calls prog 128 #[(vs (⟨#[114,101,115,111,108,118,101]⟩:ByteArray))] w16 (fun e w17=>∃dM dN dO dP dQ dR,e=.returned (Aa dM dN dO dP dQ dR)∧C2 w17∧Kept H3 w16 w17∧Calls prog 125 #[(vi 0),(vb aD),(.agg #[(vi aF),(vi aG),(vi aH),(vu aI),(vs aJ),aK.v])] w17 (fun e w18=>∃dS dT dU dV dW dX,e=.returned (Aa dS dT dU dV dW dX)∧C2 w18∧Kept H3 w17 w18∧Calls prog 125 #[(vi 1),(vb aD),(.agg #[(vi aF),(vi aG),(vi aH),(vu aI),(vs aJ),aK.v])] w18 (fun e w19=>∃dY dZ eA eB eC eD,e=.returned (Aa dY dZ eA eB eC eD)∧C2 w19∧Kept H3 w18 w19∧Calls prog 127 #[(.agg #[(vi dS),(vi dT),(vi dU),(vu dV),(vs dW),dX.v]),(.agg #[(vi dY),(vi dZ),(vi eA),(vu eB),(vs eC),eD.v])] w19 (fun e w20=>∃eE eF eG eH eI eJ,e=.returned (Aa eE eF eG eH eI eJ)∧C2 w20∧Kept H3 w19 w20∧Calls prog 127 #[(.agg #[(vi dM),(vi dN),(vi dO),(vu dP),(vs dQ),dR.v]),(.agg #[(vi eE),(vi eF),(vi eG),(vu eH),(vs eI),eJ.v])] w20 (fun e w21=>∃eK eL eM eN eO eP,e=.returned (Aa eK eL eM eN eO eP)∧C2 w21∧Kept H3 w20 w21∧Calls prog 126 #[(vi aB),(.agg #[(vi eK),(vi eL),(vi eM),(vu eN),(vs eO),eP.v])] w21 (fun e w22=>∃bV bW bX bY bZ cA,e=.returned (Aa bV bW bX bY bZ cA)∧Kept H3 w21 w22∧∀w23,Hst w0 H3 w22 H3 w23→K bV bW bX bY bZ cA w23))))))) (Br (aA == 5) (∀H3 w5,Hst w0 H2 w3 H3 w5→∃C3:WP,C3 w5.drew∧∀w24,w24=w5.drew→Calls prog 128 #[(vs (⟨#[97,98,111,114,116,101,100]⟩:ByteArray))] w24 (fun e w25=>∃eQ eR eS eT eU eV,e=.returned (Aa eQ eR eS eT eU eV)∧C3 w25∧Kept H3 w24 w25∧Calls prog 129 #[(vu aE)] w25 (fun e w26=>∃eW eX eY eZ fA fB,e=.returned (Aa eW eX eY eZ fA fB)∧Kept H3 w25 w26∧Calls prog 127 #[(.agg #[(vi eQ),(vi eR),(vi eS),(vu eT),(vs eU),eV.v]),(.agg #[(vi eW),(vi eX),(vi eY),(vu eZ),(vs fA),fB.v])] w26 (fun e w27=>∃fC fD fE fF fG fH,e=.returned (Aa fC fD fE fF fG fH)∧Kept H3 w26 w27∧Calls prog 126 #[(vi 2),(.agg #[(vi fC),(vi fD),(vi fE),(vu fF),(vs fG),fH.v])] w27 (fun e w28=>∃cB cC cD cE cF cG,e=.returned (Aa cB cC cD cE cF cG)∧Kept H3 w27 w28∧∀w29,Hst w0 H3 w28 H3 w29→K cB cC cD cE cF cG w29))))) (Br (aA == 6) (∀H3 w5,Hst w0 H2 w3 H3 w5→∃C4:WP,C4 w5.drew∧∀w30,w30=w5.drew→Calls prog 128 #[(vs (⟨#[105,110,115,116,101,97,100]⟩:ByteArray))] w30 (fun e w31=>∃fI fJ fK fL fM fN,e=.returned (Aa fI fJ fK fL fM fN)∧C4 w31∧Kept H3 w30 w31∧Calls prog 127 #[(.agg #[(vi fI),(vi fJ),(vi fK),(vu fL),(vs fM),fN.v]),(.agg #[(vi aF),(vi aG),(vi aH),(vu aI),(vs aJ),aK.v])] w31 (fun e w32=>∃fO fP fQ fR fS fT,e=.returned (Aa fO fP fQ fR fS fT)∧Kept H3 w31 w32∧Calls prog 126 #[(vi 2),(.agg #[(vi fO),(vi fP),(vi fQ),(vu fR),(vs fS),fT.v])] w32 (fun e w33=>∃cH cI cJ cK cL cM,e=.returned (Aa cH cI cJ cK cL cM)∧Kept H3 w32 w33∧∀w34,Hst w0 H3 w33 H3 w34→K cH cI cJ cK cL cM w34)))) (∀H3 w5,Hst w0 H2 w3 H3 w5→∃C5:WP,C5 w5.drew∧∀w35,w35=w5.drew→Calls prog 128 #[(vs (⟨#[102,117,108,108]⟩:ByteArray))] w35 (fun e w36=>∃fU fV fW fX fY fZ,e=.returned (Aa fU fV fW fX fY fZ)∧C5 w36∧Kept H3 w35 w36∧Calls prog 129 #[(vu aE)] w36 (fun e w37=>∃gA gB gC gD gE gF,e=.returned (Aa gA gB gC gD gE gF)∧Kept H3 w36 w37∧Calls prog 127 #[(.agg #[(vi fU),(vi fV),(vi fW),(vu fX),(vs fY),fZ.v]),(.agg #[(vi gA),(vi gB),(vi gC),(vu gD),(vs gE),gF.v])] w37 (fun e w38=>∃cN cO cP cQ cR cS,e=.returned (Aa cN cO cP cQ cR cS)∧Kept H3 w37 w38∧∀w39,Hst w0 H3 w38 H3 w39→K cN cO cP cQ cR cS w39))))))))))
theorem w_J3 (aA aB aE aC aD w0 K) (h:m_J3 aA aB aE aC aD w0 K):
  Calls prog 70 #[(.agg #[(vi aA),(vi aB),(vu aE),(vs aC),(vb aD)])] w0 (fun e w'=>∃gG gH gI gJ gK gL,e=.returned (Aa gG gH gI gJ gK gL)∧K gG gH gI gJ gK gL w'):=by
 refine cw (args:=[(Af aA aB aE aC aD)]) func70 ntmps70 ?_
 obtain ⟨hs,hb⟩:=st0 w0
 refine eg (nw3 (Ac aA aB aE aC aD) 56 hs hb xb fun p1 w1 H1 hs hb=>nw3 [(vi 0),(vi 0),(vi 0),(vu 0),ve,Sl.nil.v] 28 hs hb (zH (zeroValue28 _) rfl) fun p2 w2 H2 hs hb=>ln (eg (q (q3 (xl (isAgg26 _) (hb.d 1 2 (gS gZ))) (q (q3 (xl (isAgg9 _) (hb.d 1 3 (gS gZ))) ?_))))))
 have ⟨h,hs⟩:=hs.hr (h H2 w2)
 refine sc call93 (h.mono fun e w3 ⟨aF,aG,aH,aI,aJ,aK,k,hk,h⟩=>have ⟨hs,hb⟩:=hk.hh hs hb;⟨_,k,?_⟩)
 refine nw3 [(vi 0),(vi 0),(vi 0),(vu 0),ve,Sl.nil.v] 28 hs hb (zH (zeroValue28 _) rfl) fun p3 w4 H3 hs hb=>sbx 0 (Ab aF aG aH aI aJ aK) (sizeOf28 _) hs hb gZ fun w5 hs hb=>ln (zA (eg (q (q3 (xl (isAgg3 _) (hb.d0 2 (gS (gS gZ)))) (ln (zL (eg (qb (ln (cbr h ?_ ?_))))))))))<;>intro h
 refine eg (q (q3 (xl (isAgg3 _) (hb.d 2 1 (gS (gS gZ)))) (q (q3 (xl (isAgg4 _) (hb.d 2 4 (gS (gS gZ)))) (q2 (Aa aF aG aH aI aJ aK) (xa p3 (Ab aF aG aH aI aJ aK) (isAgg28 _) (sizeOf28 _) (hb.r0 0 6 gZ)) ?_)))))
 have ⟨h,hs⟩:=hs.hr (h H3 w5)
 refine sc call125 (h.mono fun e w6 ⟨aR,aS,aT,aU,aV,aW,k,hk,h⟩=>have ⟨hs,hb⟩:=hk.hh hs hb;⟨_,k,?_⟩)
 refine sbx 1 (Ab aR aS aT aU aV aW) (sizeOf28 _) hs hb (gS gZ) fun w7 hs hb=>ln (er (qU (vA ?_)))
 have ⟨h,hs⟩:=hs.hr (h w7)
 refine jAT (.inl rfl) (vs:=[(Aa aR aS aT aU aV aW)]) (v:=(Aa aR aS aT aU aV aW)) results70 ⟨(rva (isAgg28 _) (sizeOf28 _) (hb.r0 1 6 (gS gZ))),trivial⟩ (by kernel_rfl) ⟨aR,aS,aT,aU,aV,aW,rfl,h⟩
 refine eg (qb (ln (cbr h ?_ ?_)))<;>intro h
 refine eg (q (q3 (xl (isAgg3 _) (hb.d 2 1 (gS (gS gZ)))) (q2 (Aa aF aG aH aI aJ aK) (xa p3 (Ab aF aG aH aI aJ aK) (isAgg28 _) (sizeOf28 _) (hb.r0 0 6 gZ)) ?_)))
 have ⟨h,hs⟩:=hs.hr (h H3 w5)
 refine sc call126 (h.mono fun e w8 ⟨aX,aY,aZ,bA,bB,bC,k,hk,h⟩=>have ⟨hs,hb⟩:=hk.hh hs hb;⟨_,k,?_⟩)
 refine sbx 1 (Ab aX aY aZ bA bB bC) (sizeOf28 _) hs hb (gS gZ) fun w9 hs hb=>ln (er (qU (vA ?_)))
 have ⟨h,hs⟩:=hs.hr (h w9)
 refine jAT (.inl rfl) (vs:=[(Aa aX aY aZ bA bB bC)]) (v:=(Aa aX aY aZ bA bB bC)) results70 ⟨(rva (isAgg28 _) (sizeOf28 _) (hb.r0 1 6 (gS gZ))),trivial⟩ (by kernel_rfl) ⟨aX,aY,aZ,bA,bB,bC,rfl,h⟩
 refine eg (qb (ln (cbr h ?_ ?_)))<;>intro h
 refine zA ?_
 have ⟨h,hs⟩:=hs.hr (h H3 w5)
 obtain ⟨C1,hC,h⟩:=h
 refine dr2 (fun x=>C1 x∧HB H3 x _) [0,3,4,5,6] [3,4,5,6] ⟨hC,hb.drew⟩ h hs hb fun w10 hs hb h=>?_
 have hs:=hs.here
 refine qx 1 (vp (some (p1.add 2))) Kp1 (qz 2 (vu aE) Kp2 (fun w' hw'=>(xl (isAgg26 _) (hw'.2.cell 2 2 (gS (gS gZ)) (by kernel_rfl)))) (lg 0 (slc Kp0 call128 (h.mono ?_))))
 rintro e w11 ⟨cU,cV,cW,cX,cY,cZ,rfl,hC,hk,h⟩
 refine ⟨_,rfl,.inr ⟨hC,hb.kept hk⟩,?_⟩
 obtain ⟨hs,hb⟩:=hk.hh hs hb
 refine lg 3 (slc Kp3 call129 (h.mono ?_))
 rintro e w12 ⟨dA,dB,dC,dD,dE,dF,rfl,hk,h⟩
 refine ⟨_,rfl,.inl (by kernel_rfl),?_⟩
 obtain ⟨hs,hb⟩:=hk.hh hs hb
 refine lg 4 (slc Kp4 call127 (h.mono ?_))
 rintro e w13 ⟨dG,dH,dI,dJ,dK,dL,rfl,hk,h⟩
 refine ⟨_,rfl,.inl (by kernel_rfl),?_⟩
 obtain ⟨hs,hb⟩:=hk.hh hs hb
 refine lg 5 (slc Kp5 call126 (h.mono ?_))
 rintro e w14 ⟨bP,bQ,bR,bS,bT,bU,rfl,hk,h⟩
 refine ⟨_,rfl,.inl (by kernel_rfl),?_⟩
 obtain ⟨hs,hb⟩:=hk.hh hs hb
 refine lg 6 (xJ Kp6 (zJ rfl) (by kernel_rfl) (xo p2 (Ab bP bQ bR bS bT bU) (sizeOf28 _) (hb.k0 1 6 (gS gZ))) ?_)
 intro w15 hn7
 obtain ⟨hs,hb⟩:=hb.st1 1 hs hn7 (gS gZ)
 refine ⟨.inl (by kernel_rfl),?_⟩
 refine wn (zN (er (qU (vA ?_))))
 have ⟨h,hs⟩:=hs.hr (h w15)
 refine jAT (.inl rfl) (vs:=[(Aa bP bQ bR bS bT bU)]) (v:=(Aa bP bQ bR bS bT bU)) results70 ⟨(rva (isAgg28 _) (sizeOf28 _) (hb.r0 1 6 (gS gZ))),trivial⟩ (by kernel_rfl) ⟨bP,bQ,bR,bS,bT,bU,rfl,h⟩
 refine eg (qb (ln (cbr h ?_ ?_)))<;>intro h
 refine zA ?_
 have ⟨h,hs⟩:=hs.hr (h H3 w5)
 obtain ⟨C2,hC,h⟩:=h
 refine dr2 (fun x=>C2 x∧HB H3 x _) [2,6,10,11,12,13,14] [13,14] ⟨hC,hb.drew⟩ h hs hb fun w16 hs hb h=>?_
 have hs:=hs.here
 refine qx 0 (vp (some (p1.add 1))) Kp0 (qz 1 (vi aB) Kp1 (fun w' hw'=>(xl (isAgg3 _) (hw'.2.cell 2 1 (gS (gS gZ)) (by kernel_rfl)))) (qx 3 (vp (some (p1.add 4))) Kp3 (qz 4 (vb aD) Kp4 (fun w' hw'=>(xl (isAgg4 _) (hw'.2.cell 2 4 (gS (gS gZ)) (by kernel_rfl)))) (qz 5 (Aa aF aG aH aI aJ aK) Kp5 (fun w' hw'=>(xa p3 (Ab aF aG aH aI aJ aK) (isAgg28 _) (sizeOf28 _) (hw'.2.r0 0 6 gZ))) (qx 7 (vp (some (p1.add 4))) Kp7 (qz 8 (vb aD) Kp8 (fun w' hw'=>(xl (isAgg4 _) (hw'.2.cell 2 4 (gS (gS gZ)) (by kernel_rfl)))) (qz 9 (Aa aF aG aH aI aJ aK) Kp9 (fun w' hw'=>(xa p3 (Ab aF aG aH aI aJ aK) (isAgg28 _) (sizeOf28 _) (hw'.2.r0 0 6 gZ))) (lg 2 (slc Kp2 call128 (h.mono ?_))))))))))
 rintro e w17 ⟨dM,dN,dO,dP,dQ,dR,rfl,hC,hk,h⟩
 refine ⟨_,rfl,.inr ⟨hC,hb.kept hk⟩,?_⟩
 obtain ⟨hs,hb⟩:=hk.hh hs hb
 refine lg 6 (slc Kp6 call125 (h.mono ?_))
 rintro e w18 ⟨dS,dT,dU,dV,dW,dX,rfl,hC,hk,h⟩
 refine ⟨_,rfl,.inr ⟨hC,hb.kept hk⟩,?_⟩
 obtain ⟨hs,hb⟩:=hk.hh hs hb
 refine lg 10 (slc (zG (S8 (zB (zB zF)))) call125 (h.mono ?_))
 rintro e w19 ⟨dY,dZ,eA,eB,eC,eD,rfl,hC,hk,h⟩
 refine ⟨_,rfl,.inr ⟨hC,hb.kept hk⟩,?_⟩
 obtain ⟨hs,hb⟩:=hk.hh hs hb
 refine lg 11 (slc (zG (S8 (zB (zB (zB zF))))) call127 (h.mono ?_))
 rintro e w20 ⟨eE,eF,eG,eH,eI,eJ,rfl,hC,hk,h⟩
 refine ⟨_,rfl,.inr ⟨hC,hb.kept hk⟩,?_⟩
 obtain ⟨hs,hb⟩:=hk.hh hs hb
 refine lg 12 (slc (zG (S8 (S4 zF))) call127 (h.mono ?_))
 rintro e w21 ⟨eK,eL,eM,eN,eO,eP,rfl,hC,hk,h⟩
 refine ⟨_,rfl,.inr ⟨hC,hb.kept hk⟩,?_⟩
 obtain ⟨hs,hb⟩:=hk.hh hs hb
 refine lg 13 (slc (zG (S8 (S4 (zB zF)))) call126 (h.mono ?_))
 rintro e w22 ⟨bV,bW,bX,bY,bZ,cA,rfl,hk,h⟩
 refine ⟨_,rfl,.inl (by kernel_rfl),?_⟩
 obtain ⟨hs,hb⟩:=hk.hh hs hb
 refine lg 14 (xJ (zG (S8 (S4 (zB (zB zF))))) (zJ rfl) (by kernel_rfl) (xo p2 (Ab bV bW bX bY bZ cA) (sizeOf28 _) (hb.k0 1 6 (gS gZ))) ?_)
 intro w23 hn8
 obtain ⟨hs,hb⟩:=hb.st1 1 hs hn8 (gS gZ)
 refine ⟨.inl (by kernel_rfl),?_⟩
 refine wn (zN (er (qU (vA ?_))))
 have ⟨h,hs⟩:=hs.hr (h w23)
 refine jAT (.inl rfl) (vs:=[(Aa bV bW bX bY bZ cA)]) (v:=(Aa bV bW bX bY bZ cA)) results70 ⟨(rva (isAgg28 _) (sizeOf28 _) (hb.r0 1 6 (gS gZ))),trivial⟩ (by kernel_rfl) ⟨bV,bW,bX,bY,bZ,cA,rfl,h⟩
 refine eg (qb (ln (cbr h ?_ ?_)))<;>intro h
 refine zA ?_
 have ⟨h,hs⟩:=hs.hr (h H3 w5)
 obtain ⟨C3,hC,h⟩:=h
 refine dr2 (fun x=>C3 x∧HB H3 x _) [0,3,4,5,6] [3,4,5,6] ⟨hC,hb.drew⟩ h hs hb fun w24 hs hb h=>?_
 have hs:=hs.here
 refine qx 1 (vp (some (p1.add 2))) Kp1 (qz 2 (vu aE) Kp2 (fun w' hw'=>(xl (isAgg26 _) (hw'.2.cell 2 2 (gS (gS gZ)) (by kernel_rfl)))) (lg 0 (slc Kp0 call128 (h.mono ?_))))
 rintro e w25 ⟨eQ,eR,eS,eT,eU,eV,rfl,hC,hk,h⟩
 refine ⟨_,rfl,.inr ⟨hC,hb.kept hk⟩,?_⟩
 obtain ⟨hs,hb⟩:=hk.hh hs hb
 refine lg 3 (slc Kp3 call129 (h.mono ?_))
 rintro e w26 ⟨eW,eX,eY,eZ,fA,fB,rfl,hk,h⟩
 refine ⟨_,rfl,.inl (by kernel_rfl),?_⟩
 obtain ⟨hs,hb⟩:=hk.hh hs hb
 refine lg 4 (slc Kp4 call127 (h.mono ?_))
 rintro e w27 ⟨fC,fD,fE,fF,fG,fH,rfl,hk,h⟩
 refine ⟨_,rfl,.inl (by kernel_rfl),?_⟩
 obtain ⟨hs,hb⟩:=hk.hh hs hb
 refine lg 5 (slc Kp5 call126 (h.mono ?_))
 rintro e w28 ⟨cB,cC,cD,cE,cF,cG,rfl,hk,h⟩
 refine ⟨_,rfl,.inl (by kernel_rfl),?_⟩
 obtain ⟨hs,hb⟩:=hk.hh hs hb
 refine lg 6 (xJ Kp6 (zJ rfl) (by kernel_rfl) (xo p2 (Ab cB cC cD cE cF cG) (sizeOf28 _) (hb.k0 1 6 (gS gZ))) ?_)
 intro w29 hn9
 obtain ⟨hs,hb⟩:=hb.st1 1 hs hn9 (gS gZ)
 refine ⟨.inl (by kernel_rfl),?_⟩
 refine wn (zN (er (qU (vA ?_))))
 have ⟨h,hs⟩:=hs.hr (h w29)
 refine jAT (.inl rfl) (vs:=[(Aa cB cC cD cE cF cG)]) (v:=(Aa cB cC cD cE cF cG)) results70 ⟨(rva (isAgg28 _) (sizeOf28 _) (hb.r0 1 6 (gS gZ))),trivial⟩ (by kernel_rfl) ⟨cB,cC,cD,cE,cF,cG,rfl,h⟩
 refine eg (qb (ln (cbr h ?_ ?_)))<;>intro h
 refine zA ?_
 have ⟨h,hs⟩:=hs.hr (h H3 w5)
 obtain ⟨C4,hC,h⟩:=h
 refine dr2 (fun x=>C4 x∧HB H3 x _) [0,2,3,4] [2,3,4] ⟨hC,hb.drew⟩ h hs hb fun w30 hs hb h=>?_
 have hs:=hs.here
 refine qz 1 (Aa aF aG aH aI aJ aK) Kp1 (fun w' hw'=>(xa p3 (Ab aF aG aH aI aJ aK) (isAgg28 _) (sizeOf28 _) (hw'.2.r0 0 6 gZ))) (lg 0 (slc Kp0 call128 (h.mono ?_)))
 rintro e w31 ⟨fI,fJ,fK,fL,fM,fN,rfl,hC,hk,h⟩
 refine ⟨_,rfl,.inr ⟨hC,hb.kept hk⟩,?_⟩
 obtain ⟨hs,hb⟩:=hk.hh hs hb
 refine lg 2 (slc Kp2 call127 (h.mono ?_))
 rintro e w32 ⟨fO,fP,fQ,fR,fS,fT,rfl,hk,h⟩
 refine ⟨_,rfl,.inl (by kernel_rfl),?_⟩
 obtain ⟨hs,hb⟩:=hk.hh hs hb
 refine lg 3 (slc Kp3 call126 (h.mono ?_))
 rintro e w33 ⟨cH,cI,cJ,cK,cL,cM,rfl,hk,h⟩
 refine ⟨_,rfl,.inl (by kernel_rfl),?_⟩
 obtain ⟨hs,hb⟩:=hk.hh hs hb
 refine lg 4 (xJ Kp4 (zJ rfl) (by kernel_rfl) (xo p2 (Ab cH cI cJ cK cL cM) (sizeOf28 _) (hb.k0 1 6 (gS gZ))) ?_)
 intro w34 hn10
 obtain ⟨hs,hb⟩:=hb.st1 1 hs hn10 (gS gZ)
 refine ⟨.inl (by kernel_rfl),?_⟩
 refine wn (zN (er (qU (vA ?_))))
 have ⟨h,hs⟩:=hs.hr (h w34)
 refine jAT (.inl rfl) (vs:=[(Aa cH cI cJ cK cL cM)]) (v:=(Aa cH cI cJ cK cL cM)) results70 ⟨(rva (isAgg28 _) (sizeOf28 _) (hb.r0 1 6 (gS gZ))),trivial⟩ (by kernel_rfl) ⟨cH,cI,cJ,cK,cL,cM,rfl,h⟩
 refine zD (tG (zN (zA ?_)))
 have ⟨h,hs⟩:=hs.hr (h H3 w5)
 obtain ⟨C5,hC,h⟩:=h
 refine dr2 (fun x=>C5 x∧HB H3 x _) [0,3,4,5] [3,4,5] ⟨hC,hb.drew⟩ h hs hb fun w35 hs hb h=>?_
 have hs:=hs.here
 refine qx 1 (vp (some (p1.add 2))) Kp1 (qz 2 (vu aE) Kp2 (fun w' hw'=>(xl (isAgg26 _) (hw'.2.cell 2 2 (gS (gS gZ)) (by kernel_rfl)))) (lg 0 (slc Kp0 call128 (h.mono ?_))))
 rintro e w36 ⟨fU,fV,fW,fX,fY,fZ,rfl,hC,hk,h⟩
 refine ⟨_,rfl,.inr ⟨hC,hb.kept hk⟩,?_⟩
 obtain ⟨hs,hb⟩:=hk.hh hs hb
 refine lg 3 (slc Kp3 call129 (h.mono ?_))
 rintro e w37 ⟨gA,gB,gC,gD,gE,gF,rfl,hk,h⟩
 refine ⟨_,rfl,.inl (by kernel_rfl),?_⟩
 obtain ⟨hs,hb⟩:=hk.hh hs hb
 refine lg 4 (slc Kp4 call127 (h.mono ?_))
 rintro e w38 ⟨cN,cO,cP,cQ,cR,cS,rfl,hk,h⟩
 refine ⟨_,rfl,.inl (by kernel_rfl),?_⟩
 obtain ⟨hs,hb⟩:=hk.hh hs hb
 refine lg 5 (xJ Kp5 (zJ rfl) (by kernel_rfl) (xo p2 (Ab cN cO cP cQ cR cS) (sizeOf28 _) (hb.k0 1 6 (gS gZ))) ?_)
 intro w39 hn11
 obtain ⟨hs,hb⟩:=hb.st1 1 hs hn11 (gS gZ)
 refine ⟨.inl (by kernel_rfl),?_⟩
 refine wn (zN (er ?_))
 have ⟨h,hs⟩:=hs.hr (h w39)
 refine jAT (.inl rfl) (vs:=[(Aa cN cO cP cQ cR cS)]) (v:=(Aa cN cO cP cQ cR cS)) results70 ⟨(rva (isAgg28 _) (sizeOf28 _) (hb.r0 1 6 (gS gZ))),trivial⟩ (by kernel_rfl) ⟨cN,cO,cP,cQ,cR,cS,rfl,h⟩
def m_K3 (p1:Option Addr) (aA aB aE:Int) (aC:ByteArray) (aD:Bool) (w0:World) (K:Int→Int→WP):Prop :=∀H1 w1,Hst w0 None w0 H1 w1→Calls prog 31 #[(.agg #[(vi aA),(vi aB),(vu aE),(vs aC),(vb aD)])] w1 (fun e w2=>∃r1,e=.returned (vi r1)∧Kept H1 w1 w2∧Br (r1 != 0) (K 0 r1 w2) (Br (Option.isNone p1) (K 0 2 w2) (Calls prog 70 #[(.agg #[(vi aA),(vi aB),(vu aE),(vs aC),(vb aD)])] w2 (fun e w3=>∃aF aG aH aI aJ aK,e=.returned (Aa aF aG aH aI aJ aK)∧Kept H1 w2 w3∧Calls prog 13 #[(vp p1),(.agg #[(vi aF),(vi aG),(vi aH),(vu aI),(vs aJ),aK.v])] w3 (fun e w4=>∃r2 r3,e=.returned (.tuple #[(vi r2),(vi r3)])∧Kept H1 w3 w4∧K r2 r3 w4)))))
theorem w_K3 (p1 aA aB aE aC aD w0 K) (h:m_K3 p1 aA aB aE aC aD w0 K):
  Calls prog 26 #[(vp p1),(.agg #[(vi aA),(vi aB),(vu aE),(vs aC),(vb aD)])] w0 (fun e w'=>∃r4 r5,e=.returned (.tuple #[(vi r4),(vi r5)])∧K r4 r5 w'):=by
 refine cw (args:=[(vp p1),(Af aA aB aE aC aD)]) func26 ntmps26 ?_
 obtain ⟨hs,hb⟩:=st0 w0
 refine eg (nw3 (Ac aA aB aE aC aD) 56 hs hb xb fun p2 w1 H1 hs hb=>qb (ln (zA (eg (q2 (Af aA aB aE aC aD) (xa p2 (Ac aA aB aE aC aD) (isAgg56 _) (sizeOf56 _) (hb.r0 0 5 gZ)) ?_)))))
 have ⟨h,hs⟩:=hs.hr (h H1 w1)
 refine sc call31 (h.mono fun e w2 ⟨r1,k,hk,h⟩=>have ⟨hs,hb⟩:=hk.hh hs hb;⟨_,k,?_⟩)
 refine q (ln (eg (qb (ln (cbr h ?_ ?_)))))<;>intro h
 refine eg (qc (ln (er (vA (tE (.inl rfl) results26 (v:=(vi 0)) (by kernel_rfl) (v':=(vi r1)) (by kernel_rfl) ⟨0,r1,rfl,h⟩)))))
 refine zD (zN (zA (eg (q (q2 (vb (Option.isNone p1)) (yY (by kernel_rfl) rfl underlying29) (ln (cbr h ?_ ?_)))))))<;>intro h
 refine eg (qb (ln (er (vA (tE (.inl rfl) results26 (v:=(vi 0)) (by kernel_rfl) (v':=(vi 2)) (by kernel_rfl) ⟨0,2,rfl,h⟩)))))
 refine zD (zN (eg (q (q2 (Af aA aB aE aC aD) (xa p2 (Ac aA aB aE aC aD) (isAgg56 _) (sizeOf56 _) (hb.r0 0 5 gZ)) (sc call70 (h.mono fun e w3 ⟨aF,aG,aH,aI,aJ,aK,k,hk,h⟩=>have ⟨hs,hb⟩:=hk.hh hs hb;⟨_,k,?_⟩))))))
 refine sc call13 (h.mono fun e w4 ⟨r2,r3,k,hk,h⟩=>have ⟨hs,hb⟩:=hk.hh hs hb;⟨_,k,?_⟩)
 refine qd (ln (er (tE (.inl rfl) results26 (v:=(vi r2)) (by kernel_rfl) (v':=(vi r3)) (by kernel_rfl) ⟨r2,r3,rfl,h⟩)))
def m_L3 (aA aB aE:Int) (aC:ByteArray) (aD:Bool) (w0:World) (K:Int→WP):Prop :=∀H1 w1,Hst w0 None w0 H1 w1→Calls prog 31 #[(.agg #[(vi aA),(vi aB),(vu aE),(vs aC),(vb aD)])] w1 (fun e w2=>∃r1,e=.returned (vi r1)∧Kept H1 w1 w2∧Br (r1 != 0) (K (-1) w2) (Br (cond (aA == 1) (aA == 1) (aA == 2)) (∀H2 w3,Hst w0 H1 w2 H2 w3→K (q6.wrap (1 - aB)) w3) (Br (cond (aA == 3) (aA == 3) (aA == 4)) (∀H3 w4,Hst w0 H1 w2 H3 w4→K 2 w4) (∀H3 w4,Hst w0 H1 w2 H3 w4→K (-1) w4))))
theorem w_L3 (aA aB aE aC aD w0 K) (h:m_L3 aA aB aE aC aD w0 K):
  Calls prog 33 #[(.agg #[(vi aA),(vi aB),(vu aE),(vs aC),(vb aD)])] w0 (fun e w'=>∃r2,e=.returned (vi r2)∧K r2 w'):=by
 refine cw (args:=[(Af aA aB aE aC aD)]) func33 ntmps33 ?_
 obtain ⟨hs,hb⟩:=st0 w0
 refine eg (nw3 (Ac aA aB aE aC aD) 56 hs hb xb fun p1 w1 H1 hs hb=>q (ln (zA (eg (q2 (Af aA aB aE aC aD) (xa p1 (Ac aA aB aE aC aD) (isAgg56 _) (sizeOf56 _) (hb.r0 0 5 gZ)) ?_)))))
 have ⟨h,hs⟩:=hs.hr (h H1 w1)
 refine sc call31 (h.mono fun e w2 ⟨r1,k,hk,h⟩=>have ⟨hs,hb⟩:=hk.hh hs hb;⟨_,k,?_⟩)
 refine q (ln (cbr h ?_ ?_))<;>intro h
 refine eg (q (ln (er (vA (rs1 results33 ⟨(-1),rfl,h⟩)))))
 refine zD (zN (zA (eg (q (q3 (xl (isAgg3 _) (hb.d0 0 gZ)) (ln (zL (zA (zA (rg (qb (ln (vO (fun ρ wJ=>∃b1'0:Bool,∃HJ:NP,((aA == 1)=b1'0)∧Hst w0 H1 w2 HJ wJ∧HB HJ wJ [(p1,(Ac aA aB aE aC aD),56)]∧Has ρ [(1,(vp (some p1))),(7,(vi aA)),(8,(vb (cond b1'0 (aA == 1) (aA == 2))))]) ?_ ?_)))))))))))))
 refine vJ (t:=(aA == 1)) (by kernel_rfl) (fun hc3=>?_) (fun hc3=>?_)
 refine zD (zN ⟨true,_,hc3,hs,hb,hm⟩)
 refine rg (qb (ln ⟨false,_,hc3,hs,hb,hm⟩))
 rintro ρ w3 ⟨b1'0,H2,he0,hs,hb,hH⟩
 subst he0
 refine vC hH (zN (cbr h ?_ ?_))<;>intro h
 refine eg (q (q3 (xl (isAgg3 _) (hb.d 0 1 gZ)) (qb (ln (er (qU (vA ?_)))))))
 have ⟨h,hs⟩:=hs.hr (h H2 w3)
 refine rs1 results33 ⟨(q6.wrap (1 - aB)),rfl,h⟩
 refine zA (eg (qb (ln (vO (fun ρ wJ=>∃b2'0:Bool,∃HJ:NP,((aA == 3)=b2'0)∧Hst w0 H1 w2 HJ wJ∧HB HJ wJ [(p1,(Ac aA aB aE aC aD),56)]∧Has ρ [(14,(vb (cond b2'0 (aA == 3) (aA == 4))))]) ?_ ?_))))
 refine vJ (t:=(aA == 3)) (by kernel_rfl) (fun hc6=>?_) (fun hc6=>?_)
 refine zD (zN ⟨true,_,hc6,hs,hb,hm⟩)
 refine rg (qb (ln ⟨false,_,hc6,hs,hb,hm⟩))
 rintro ρ w4 ⟨b2'0,H3,he0,hs,hb,hH⟩
 subst he0
 refine vC hH (zN (cbr h ?_ ?_))<;>intro h
 refine eg (q (ln (er (qU (vA ?_)))))
 have ⟨h,hs⟩:=hs.hr (h H3 w4)
 refine rs1 results33 ⟨2,rfl,h⟩
 refine zD (tG (zN (eg (q (ln (er ?_))))))
 have ⟨h,hs⟩:=hs.hr (h H3 w4)
 refine rs1 results33 ⟨(-1),rfl,h⟩
def m_M3 (p1:Option Addr) (c1:Int) (text1:ByteArray) (w0:World) (K:Int→Int→WP):Prop :=Br (decide ((text1.size:Int)>64)) (K 0 1 w0) (Br (Option.isNone p1) (K 0 2 w0) (Calls prog 93 #[(vu c1),(vs text1)] w0 (fun e w1=>∃aF aG aH aI aJ aK,e=.returned (Aa aF aG aH aI aJ aK)∧Calls prog 13 #[(vp p1),(.agg #[(vi aF),(vi aG),(vi aH),(vu aI),(vs aJ),aK.v])] w1 (fun e w2=>∃r1 r2,e=.returned (.tuple #[(vi r1),(vi r2)])∧K r1 r2 w2))))
theorem w_M3 (p1 c1 text1 w0 K) (h:m_M3 p1 c1 text1 w0 K):
  Calls prog 44 #[(vp p1),(vu c1),(vs text1)] w0 (fun e w'=>∃r3 r4,e=.returned (.tuple #[(vi r3),(vi r4)])∧K r3 r4 w'):=by
 refine cw (args:=[(vp p1),(vu c1),(vs text1)]) func44 ntmps44 (eg (q0 (vi 0) (q0 (vi 0) (ln (zA (zL (eg (q0 (vs text1) ?_))))))))
 refine qc (ln (cbr h ?_ ?_))<;>intro h
 refine eg (qb (ln (er (qU (vA (tE (.inl rfl) results44 (v:=(vi 0)) (by kernel_rfl) (v':=(vi 1)) (by kernel_rfl) ⟨0,1,rfl,h⟩))))))
 refine eg (q (q2 (vb (Option.isNone p1)) (yY (by kernel_rfl) rfl underlying29) (q (ln (cbr h ?_ ?_)))))<;>intro h
 refine eg (qb (ln (er (qU (vA (tE (.inl rfl) results44 (v:=(vi 0)) (by kernel_rfl) (v':=(vi 2)) (by kernel_rfl) ⟨0,2,rfl,h⟩))))))
 refine zD (tG (zN (eg (qc (sc call93 (h.mono fun e w1 ⟨aF,aG,aH,aI,aJ,aK,k,h⟩=>⟨_,k,?_⟩))))))
 refine sc call13 (h.mono fun e w2 ⟨r1,r2,k,h⟩=>⟨_,k,?_⟩)
 refine qd (ln (er (tE (.inl rfl) results44 (v:=(vi r1)) (by kernel_rfl) (v':=(vi r2)) (by kernel_rfl) ⟨r1,r2,rfl,h⟩)))
end Go.Proofs
end
section
open Go Go.SE
namespace Go.Proofs
open Tryz
attribute [local irreducible] Calls
def jJI:Array Value:=#[.bool false,.bool false,.bool false,.string ⟨#[]⟩,.bool true,.bool true,.bool true,.string ⟨#[112,114,111,109,105,115,101]⟩,.bool true,.bool true,.bool false,.string ⟨#[115,105,103,110]⟩,.bool false,.bool false,.bool false,.string ⟨#[97,98,111,114,116]⟩,.bool true,.bool true,.bool true,.string ⟨#[114,101,115,111,108,118,101]⟩,.bool false,.bool false,.bool false,.string ⟨#[116,111,107,101,110]⟩,.bool false,.bool true,.bool false,.string ⟨#[105,110,115,116,101,97,100]⟩,.bool false,.bool false,.bool false,.string ⟨#[102,117,108,108]⟩]
theorem jCP (w:World):Calls prog 73 #[] w (fun e w'=>∃r:Array Value,e=.returned (.agg r)∧(r=jJI∧Pure w w')):=by
 refine w_E3 w (fun r w'=>r=jJI∧Pure w w') ?_;unfold m_E3;intro p1 w1 h1;have E1:Pure w w1:=Ext.new h1;have hp:=New.own (Ext.refl w) h1;have b1:=Box.of_newA h1;clear h1;refine bx 32 b1 (by kernel_rfl) (by kernel_rfl) (fun w' b E=>?_);exact ⟨jJI,⟨by kernel_rfl,b.row_eq (by kernel_rfl)⟩,rfl,E1.own hp E⟩
theorem c_chk (l:Sp.Letter) (hk:1≤l.kind∧l.kind≤7) (p:Addr) {w0 w:World} {H:NP} {wd:ByteArray} {T:TypeId} (hB:Box w p [.bool (Sp.isSigned l.kind),.bool (Sp.isTexted l.kind),.bool (l.kind == 1 || l.kind == 4),.string wd] T) (hv:¬ H p.block) (hE:Pure w0 w) :
  m_O_j1 l.frm l.text l.fake p w0 H w (fun x w'=>x=Sp.qJ l∧Pure w0 w'):=by
 obtain ⟨k,f,c,x,fk⟩:=l
 simp only at *
 have vis:∀{H H':NP} {w w':World},Box w p [.bool (Sp.isSigned k),.bool (Sp.isTexted k),.bool (k == 1 || k == 4),.string wd] T→¬ H p.block→Hst w0 H w H' w'→¬ H' p.block∧Box w' p [.bool (Sp.isSigned k),.bool (Sp.isTexted k),.bool (k == 1 || k == 4),.string wd] T:=fun hB hv hs=>by
  have h:=hs.disj (G:=(·=p.block)) (fun b e=>by subst e;exact ⟨hB.lt,hv⟩) _ rfl;exact ⟨h,hB.ext hs.ext h⟩
 unfold m_O_j1
 have bad:(f≠0∧f≠1)∨(Sp.isSigned k=false∧f≠0)∨(Sp.isTexted k=false∧x≠⟨#[]⟩)∨(fk=true∧k≠1∧k≠4)→(110:Int)=Sp.qJ ⟨k,f,c,x,fk⟩:=fun h=>by
  unfold Sp.qJ;rw [if_pos];rcases h with h | h | h | h
  ·exact .inr (.inr (.inl h))
  ·exact .inr (.inr (.inr (.inl h)))
  ·exact .inr (.inr (.inr (.inr (.inl h))))
  ·exact .inr (.inr (.inr (.inr (.inr h))))
 refine ⟨fun hc H4 w4 hs4=>⟨bad (.inl ?_),hE.hst hs4⟩,fun hc H4 w4 hs4=>?_⟩
 ·rw [Bool.and_eq_true] at hc;exact ⟨bne_iff_ne.1 hc.1,bne_iff_ne.1 hc.2⟩
 have hf:f=0∨f=1:=by
  rw [Bool.and_eq_false_iff] at hc;exact hc.imp (fun h=>by simpa using h) (fun h=>by simpa using h)
 obtain ⟨v4,B4⟩:=vis hB hv hs4
 have E4:=hE.hst hs4
 refine ⟨_,B4.cell0,fun H8 w8 hs8=>?_⟩
 obtain ⟨v8,B8⟩:=vis B4 v4 hs8
 have E8:=E4.hst hs8
 unfold m_O_j2
 refine ⟨fun hc2=>⟨bad (.inr (.inl ?_)),E8⟩,fun hc2=>?_⟩
 ·rw [Bool.and_eq_true] at hc2;exact ⟨by simpa using hc2.1,bne_iff_ne.1 hc2.2⟩
 have hs:¬ (Sp.isSigned k=false∧f≠0):=fun h=>by
  rw [Bool.and_eq_false_iff] at hc2;exact hc2.elim (fun h2=>by rw [h.1] at h2;cases h2) (fun h2=>h.2 (by simpa using h2))
 refine ⟨_,B8.cell (i:=1) rfl,fun H7 w7 hs7=>?_⟩
 obtain ⟨v7,B7⟩:=vis B8 v8 hs7
 have E7:=E8.hst hs7
 unfold m_O_j3
 refine ⟨fun hc3=>⟨bad (.inr (.inr (.inl ?_))),E7⟩,fun hc3=>?_⟩
 ·rw [Bool.and_eq_true] at hc3
  exact ⟨by simpa using hc3.1,by simpa using hc3.2⟩
 have ht:¬ (Sp.isTexted k=false∧x≠⟨#[]⟩):=fun h=>by
  rw [Bool.and_eq_false_iff] at hc3;exact hc3.elim (fun h2=>by rw [h.1] at h2;cases h2) (fun h2=>h.2 (by simpa using h2))
 refine ⟨_,B7.cell (i:=2) rfl,fun hc4 H6 w6 hs6=>⟨bad (.inr (.inr (.inr ?_))),E7.hst hs6⟩,fun hc4=>?_⟩
 ·rw [Bool.and_eq_true] at hc4
  have h1:(k == 1 || k == 4)=false:=by simpa using hc4.1
  rw [Bool.or_eq_false_iff] at h1
  exact ⟨hc4.2,by simpa using h1.1,by simpa using h1.2⟩
 have hfk:¬ (fk=true∧k≠1∧k≠4):=fun h=>by
  rw [Bool.and_eq_false_iff] at hc4;refine hc4.elim (fun h2=>?_) (fun h2=>by rw [h.1] at h2;cases h2);have h1:(k == 1 || k == 4)=true:=by
   cases hh:(k == 1 || k == 4) with
   | true=>rfl
   | false=>rw [hh] at h2;cases h2
  rw [Bool.or_eq_true] at h1;exact h1.elim (fun h3=>h.2.1 (by simpa using h3)) (fun h3=>h.2.2 (by simpa using h3))
 have good:¬ (k<1∨k>7∨(f≠0∧f≠1)∨(Sp.isSigned k=false∧f≠0)∨(Sp.isTexted k=false∧x≠⟨#[]⟩)∨(fk=true∧k≠1∧k≠4)):=by
  rintro (h | h | h | h | h | h)
  ·omega
  ·omega
  ·omega
  ·exact hs h
  ·exact ht h
  ·exact hfk h
 refine ⟨fun hc5 H6 w6 hs6=>⟨?_,E7.hst hs6⟩,fun hc5 H6 w6 hs6=>⟨?_,E7.hst hs6⟩⟩
 ·have:=of_decide_eq_true hc5
  unfold Sp.qJ;rw [if_neg good,if_pos (by simp only;omega)]
 ·have:=of_decide_eq_false hc5
  unfold Sp.qJ;rw [if_neg good,if_neg (by simp only;omega)]
theorem jFV (l:Sp.Letter) (w0:World):Calls prog 31 #[.agg #[.int .i64 l.kind,.int .i64 l.frm,.int .u64 l.c,.string l.text,.bool l.fake]] w0 (fun e w'=>∃r:Int,e=.returned (.int .i64 r)∧(r=Sp.qJ l∧Pure w0 w')):=by
 refine w_O _ _ _ _ _ w0 (fun r w'=>r=Sp.qJ l∧Pure w0 w') ?_;unfold m_O;refine ⟨fun hc H2 w2 hs2=>⟨?_,hs2.first⟩,fun hc H2 w2 hs2=>?_⟩
 ·unfold Sp.qJ;rw [if_pos];rw [Bool.or_eq_true] at hc;exact hc.elim (fun h=>.inl (of_decide_eq_true h)) (fun h=>.inr (.inl (of_decide_eq_true h)))
 have hk:1≤l.kind∧l.kind≤7:=by
  rw [Bool.or_eq_false_iff] at hc;have h1:=of_decide_eq_false hc.1;have h2:=of_decide_eq_false hc.2;omega
 have E2:Pure w0 w2:=hs2.first;have idx:∃wd:ByteArray,∀w':World,(Instr.index 121 (.agg jJI) (.int .i64 l.kind)).run prog w'=.ok (.agg #[.bool (Sp.isSigned l.kind),.bool (Sp.isTexted l.kind),.bool (l.kind == 1 || l.kind == 4),.string wd]) w':=by
  have:l.kind=1∨l.kind=2∨l.kind=3∨l.kind=4∨l.kind=5∨l.kind=6∨l.kind=7:=by omega
  rcases this with e | e | e | e | e | e | e <;> rw [e]
  ·exact ⟨⟨#[112,114,111,109,105,115,101]⟩,fun w'=>by kernel_rfl⟩
  ·exact ⟨⟨#[115,105,103,110]⟩,fun w'=>by kernel_rfl⟩
  ·exact ⟨⟨#[97,98,111,114,116]⟩,fun w'=>by kernel_rfl⟩
  ·exact ⟨⟨#[114,101,115,111,108,118,101]⟩,fun w'=>by kernel_rfl⟩
  ·exact ⟨⟨#[116,111,107,101,110]⟩,fun w'=>by kernel_rfl⟩
  ·exact ⟨⟨#[105,110,115,116,101,97,100]⟩,fun w'=>by kernel_rfl⟩
  ·exact ⟨⟨#[102,117,108,108]⟩,fun w'=>by kernel_rfl⟩
 obtain ⟨wd,idx⟩:=idx;refine ⟨fun _=>True,trivial,?_⟩;rintro w9 e9;have E9:Pure w2 w9:=by rw [e9];exact Ext.drew w2
 have hH:∀b,H2 b→b<w9.heap.size:=fun b hb=>by have:=hs2.lt b hb;have:=E9.size;omega
 refine ⟨?_,?_⟩
 ·refine (jCP w9).mono ?_;rintro _ w10 ⟨_,rfl,rfl,E10⟩;refine ⟨_,rfl,trivial,E10.keptP,_,_,_,_,fun w' _=>idx w',?_⟩;intro p2 w11 n11;have b11:=n11.at_size;have z10:=E10.size;have hv:¬ H2 p2.block:=fun hh=>by have:=hH _ hh;omega
  refine ⟨trivial,(Box.of_newA n11).canWs (by simp),hv,?_⟩;rintro w12 e12;have X:Ext (·=p2.block) w11 w12:=by rw [e12];exact Ext.storeRow _ _ _
  have B:Box w12 p2 [.bool (Sp.isSigned l.kind),.bool (Sp.isTexted l.kind),.bool (l.kind == 1 || l.kind == 4),.string wd] 120:=by rw [e12];exact (Box.of_newA n11).store rfl
  have z2:=E2.size;have z9:=E9.size;exact c_chk l hk p2 B hv ((((E2.trans E9).trans E10).trans (Ext.new n11)).own (by omega) X)
 ·intro p3 w13 n13;refine ⟨trivial,?_⟩;have b13:=n13.at_size;have E13:Pure w9 w13:=Ext.new n13;have hv:¬ H2 p3.block:=fun hh=>by have:=hH _ hh;omega
  refine (jCP w13).mono ?_;rintro _ w14 ⟨_,rfl,rfl,E14⟩;have B14:=(Box.of_newA n13).pure E14;refine ⟨_,rfl,trivial,E14.keptP,_,_,_,_,fun w' _=>idx w',B14.canWs (by simp),hv,?_⟩;rintro w15 e15;have X:Ext (·=p3.block) w14 w15:=by rw [e15];exact Ext.storeRow _ _ _
  have B:Box w15 p3 [.bool (Sp.isSigned l.kind),.bool (Sp.isTexted l.kind),.bool (l.kind == 1 || l.kind == 4),.string wd] 120:=by rw [e15];exact B14.store rfl
  have z2:=E2.size;have z9:=E9.size;exact c_chk l hk p3 B hv ((((E2.trans E9).trans E13).trans E14).own (by omega) X)
abbrev RetS (S:NP) (w:World) (T:Sp.Tree) (e:Ending) (w':World):Prop:=∃s,e=.returned (.agg (qX T s).toArray)∧TreeAt S w' s T∧Pure w w'
theorem jBS {S:NP} (w:World) {A:Sp.Tree} {sa:Sl} {H3:NP} {w3 w4 w5:World} {p:Addr} {o:Obj} (hA:TreeAt S w sa A) (hs3:Hst w None w H3 w3) (n4:New w3 o p w4) (hs5:Hst w H3 w4 H3 w5):TreeAt S w5 sa A:=by
 have E3:Pure w w3:=hs3.first;have E4:Pure w3 w4:=Ext.new n4;exact (((hA.lt.pure E3).pure E4).ext hs5.ext (fun b hb hh=>by have:=hs3.old b hh;omega)).mono (fun b hb=>hb.1)
section
variable {S:NP} (w:World) (hS:∀b,w.heap.size≤b→S b)
include hS
theorem tA (A B:Sp.Tree) (sa sb:Sl) (hA:TreeAt S w sa A) (hB:TreeAt S w sb B):Calls prog 127 #[.agg (qX A sa).toArray,.agg (qX B sb).toArray] w (RetS S w (Sp.qS A B)):=by
 obtain ⟨k,f,t,u,x,ks⟩:=A;obtain ⟨k2,f2,t2,u2,x2,ks2⟩:=B;refine (w_F3 k f t u x sa k2 f2 t2 u2 x2 sb w (fun k' f' t' u' y s w'=>(⟨k',f',t',u',y,0,0⟩:Sp.Node)=(Sp.qS (.mk k f t u x ks) (.mk k2 f2 t2 u2 x2 ks2)).node∧TreeAt S w' s (Sp.qS (.mk k f t u x ks) (.mk k2 f2 t2 u2 x2 ks2))∧Pure w w') ?_).mono ?_
 ·unfold m_F3;intro H3 w3 hs3 p4 w4 n4 w5 hs5;have b4:=n4.at_size;have z3:=hs3.first.size;have B4:Box w4 p4 (qX (.mk k f t u x ks) sa++qX (.mk k2 f2 t2 u2 x2 ks2) sb) 28:=Box.of_newA n4;exact ⟨rfl,TreeAt.pair (B4.ext hs5.ext (fun hh=>by have:=hs3.lt _ hh;omega)) (hS _ (by omega)) (jBS w hA hs3 n4 hs5) (jBS w hB hs3 n4 hs5),(hs3.first.trans (Ext.new n4)).hst hs5⟩
 ·rintro _ w' ⟨k,f,t,u,y,s,rfl,hn,hT,E⟩;cases hn;exact ⟨s,rfl,hT,E⟩
theorem jCO (n:Int) (A:Sp.Tree) (sa:Sl) (hA:TreeAt S w sa A):Calls prog 126 #[.int .i64 n,.agg (qX A sa).toArray] w (RetS S w (Sp.tC n A)):=by
 obtain ⟨k,f,t,u,x,ks⟩:=A;refine (w_I3 n k f t u x sa w (fun k' f' t' u' y s w'=>(⟨k',f',t',u',y,0,0⟩:Sp.Node)=(Sp.tC n (.mk k f t u x ks)).node∧TreeAt S w' s (Sp.tC n (.mk k f t u x ks))∧Pure w w') ?_).mono ?_
 ·unfold m_I3;intro H3 w3 hs3 p4 w4 n4 w5 hs5;have b4:=n4.at_size;have z3:=hs3.first.size;have B4:Box w4 p4 (qX (.mk k f t u x ks) sa) 28:=Box.of_newA n4;exact ⟨rfl,TreeAt.one (B4.ext hs5.ext (fun hh=>by have:=hs3.lt _ hh;omega)) (hS _ (by omega)) (jBS w hA hs3 n4 hs5),(hs3.first.trans (Ext.new n4)).hst hs5⟩
 ·rintro _ w' ⟨k,f,t,u,y,s,rfl,hn,hT,E⟩;cases hn;exact ⟨s,rfl,hT,E⟩
theorem jBH (n:Int) (hn:n=0∨n=1) (fk:Bool) (A:Sp.Tree) (sa:Sl) (hA:TreeAt S w sa A):Calls prog 125 #[.int .i64 n,.bool fk,.agg (qX A sa).toArray] w (RetS S w (Sp.yV n A fk)):=by
 obtain ⟨k,f,t,u,x,ks⟩:=A;refine (w_H3 n fk k f t u x sa w (fun k' f' t' u' y s w'=>(⟨k',f',t',u',y,0,0⟩:Sp.Node)=(Sp.yV n (.mk k f t u x ks) fk).node∧TreeAt S w' s (Sp.yV n (.mk k f t u x ks) fk)∧Pure w w') ?_).mono ?_
 ·unfold m_H3;intro H3 w3 hs3 p4 w4 n4 w5 hs5;have b4:=n4.at_size;have z3:=hs3.first.size;have B4:Box w4 p4 (qX (.mk k f t u x ks) sa) 28:=Box.of_newA n4;refine ⟨?_,TreeAt.one (B4.ext hs5.ext (fun hh=>by have:=hs3.lt _ hh;omega)) (hS _ (by omega)) (jBS w hA hs3 n4 hs5),(hs3.first.trans (Ext.new n4)).hst hs5⟩;have:IntKind.i64.wrap (1 - n)=1 - n:=IntWalk.i64_in _ (by omega);rw [this];cases fk <;> rfl
 ·rintro _ w' ⟨k,f,t,u,y,s,rfl,hn,hT,E⟩;cases hn;exact ⟨s,rfl,hT,E⟩
theorem jMZ (c:Int) (x:ByteArray):Calls prog 93 #[.int .u64 c,.string x] w (RetS S w (Sp.vM c x)):=by
 refine (w_G3 c x w (fun k f t u y s w'=>(⟨k,f,t,u,y,0,0⟩:Sp.Node)=(Sp.vM c x).node∧TreeAt S w' s (Sp.vM c x)∧Pure w w') ?_).mono ?_
 ·unfold m_G3;intro H1 w4 hs4;have E4:Pure w w4:=hs4.first;have z4:=E4.size;have hH:∀b,H1 b→b<w4.heap.size:=fun b hb=>hs4.lt b hb;refine (tA (S:=(w4.heap.size≤·)) w4 (fun _ h=>h) (Sp.jBJ c) (Sp.qF x) Sl.nil Sl.nil TreeAt.leaf TreeAt.leaf).mono ?_;rintro _ w5 ⟨s5,rfl,hT5,E5⟩;refine ⟨_,_,_,_,_,s5,rfl,E5.keptP,?_⟩;refine (tA (S:=(w4.heap.size≤·)) w5 (fun b h=>by have:=E5.size;show w4.heap.size≤b;omega) (Sp.qF Sp.jAS) (Sp.qS (Sp.jBJ c) (Sp.qF x)) Sl.nil s5 TreeAt.leaf hT5).mono ?_;rintro _ w6 ⟨s6,rfl,hT6,E6⟩;refine ⟨_,_,_,_,_,s6,rfl,E6.keptP,fun w7 hs7=>⟨rfl,?_,((E4.trans E5).trans E6).hst hs7⟩⟩;exact (hT6.ext hs7.ext (fun b hb hh=>by have:=hH b hh;have:w4.heap.size≤b:=hb;omega)).mono (fun b hb=>hS b (by have:w4.heap.size≤b:=hb;omega))
 ·rintro _ w' ⟨k,f,t,u,y,s,rfl,hn,hT,E⟩;cases hn;exact ⟨s,rfl,hT,E⟩
end
theorem jTH (l:Sp.Letter) (hf:l.frm=0∨l.frm=1) (w0:World):Calls prog 70 #[.agg #[.int .i64 l.kind,.int .i64 l.frm,.int .u64 l.c,.string l.text,.bool l.fake]] w0 (RetS (w0.heap.size≤·) w0 (Sp.vQ l true true)):=by
 obtain ⟨kd,f,c,x,fk⟩:=l;simp only at hf;generalize hR:Sp.vQ ⟨kd,f,c,x,fk⟩ true true=R;refine (w_J3 kd f c x fk w0 (fun k f t u y s w'=>(⟨k,f,t,u,y,0,0⟩:Sp.Node)=R.node∧TreeAt (w0.heap.size≤·) w' s R∧Pure w0 w') ?_).mono ?_
 ·unfold m_J3;intro H2 w2 hs2;have E2:Pure w0 w2:=hs2.first;have z2:=E2.size;refine (jMZ (S:=(w2.heap.size≤·)) w2 (fun _ h=>h) c x).mono ?_;rintro _ w3 ⟨sd,rfl,hT3,E3⟩;refine ⟨_,_,_,_,_,sd,rfl,E3.keptP,?_⟩;have z3:=E3.size;have go:∀{H3:NP} {w5:World},Hst w0 H2 w3 H3 w5→TreeAt (fun b=>w0.heap.size≤b∧¬ H3 b) w5 sd (Sp.vM c x)∧Pure w0 w5∧(∀w:World,w5.heap.size≤w.heap.size→∀b,w.heap.size≤b→w0.heap.size≤b∧¬ H3 b):=fun {H3 w5} hs=>by
   have hd:∀b,(w2.heap.size≤b∧b<w3.heap.size)→¬ H3 b:=hs.disj (fun b hb=>⟨hb.2,fun hh=>by have:=hs2.lt b hh;omega⟩);refine ⟨(hT3.lt.ext hs.ext (fun b hb=>hd b hb)).mono (fun b hb=>⟨by have:=hb.1;omega,hd b hb⟩),(E2.trans E3).hst hs,fun w hw b hb=>⟨by have:=hs.ext.size;omega,fun hh=>by have:=hs.lt b hh;omega⟩⟩
  have fin:∀{H3:NP} {wa wb:World} {s:Sl} {T:Sp.Tree},TreeAt (fun b=>w0.heap.size≤b∧¬ H3 b) wa s T→Pure w0 wa→Hst w0 H3 wa H3 wb→T=R→R.node=R.node∧TreeAt (w0.heap.size≤·) wb s R∧Pure w0 wb:=fun {H3 wa wb s T} h E hs e=>by
   subst e;exact ⟨rfl,(h.ext hs.ext (fun b hb=>hb.2)).mono (fun b hb=>hb.1),E.hst hs⟩
  have fin2:∀{H3:NP} {wa wb:World} {s:Sl} {T:Sp.Tree},TreeAt (fun b=>w0.heap.size≤b∧¬ H3 b) wa s T→Pure w0 wa→Hst w0 H3 wa H3 wb→R=T→(⟨T.node.kind,T.node.frm,T.node.to,T.node.num,T.node.text,0,0⟩:Sp.Node)=R.node∧TreeAt (w0.heap.size≤·) wb s R∧Pure w0 wb:=fun {H3 wa wb s T} h E hs e=>by
   subst e;refine ⟨?_,(fin h E hs rfl).2⟩;cases R;rfl
  refine ⟨fun hk H3 w5 hs5=>?_,fun h1=>⟨fun hk H3 w5 hs5=>?_,fun h2=>⟨fun hk H3 w5 hs5=>?_,fun h3=>⟨fun hk H3 w5 hs5=>?_,fun h4=>⟨fun hk H3 w5 hs5=>?_,fun h5=>⟨fun hk H3 w5 hs5=>?_,fun h6 H3 w5 hs5=>?_⟩⟩⟩⟩⟩⟩
  ·have hk:=beq_iff_eq.1 hk;obtain ⟨hD,E5,hS⟩:=go hs5;refine (jBH w5 (hS w5 (Nat.le_refl _)) f hf fk _ sd hD).mono ?_;rintro _ w6 ⟨s6,rfl,hT6,E6⟩;refine ⟨_,_,_,_,_,s6,rfl,E6.keptP,fun w7 hs7=>fin2 hT6 (E5.trans E6) hs7 ?_⟩;rw [← hR];unfold Sp.vQ;rw [if_pos hk]
  ·have hk:=beq_iff_eq.1 hk;obtain ⟨hD,E5,hS⟩:=go hs5;refine (jCO w5 (hS w5 (Nat.le_refl _)) f _ sd hD).mono ?_;rintro _ w6 ⟨s6,rfl,hT6,E6⟩;refine ⟨_,_,_,_,_,s6,rfl,E6.keptP,fun w7 hs7=>fin2 hT6 (E5.trans E6) hs7 ?_⟩;rw [← hR];unfold Sp.vQ;rw [if_neg (fun e=>beq_eq_false_iff_ne.1 h1 e),if_pos hk]
  ·have hk:=beq_iff_eq.1 hk;obtain ⟨hD,E5,hS⟩:=go hs5;refine ⟨fun _=>True,trivial,?_⟩;rintro w10 e10;have E10:Pure w5 w10:=by rw [e10];exact Ext.drew w5
   refine (p_V _ w10).mono ?_;rintro _ w11 ⟨rfl,E11⟩;refine ⟨_,_,_,_,_,_,rfl,trivial,E11.keptP,?_⟩;refine (p_A1 _ w11).mono ?_;rintro _ w12 ⟨rfl,E12⟩;refine ⟨_,_,_,_,_,_,rfl,E12.keptP,?_⟩;have z12:=((E10.trans E11).trans E12).size;refine (tA w12 (hS w12 z12) (Sp.qF Sp.uW) (Sp.jBJ c) Sl.nil Sl.nil TreeAt.leaf TreeAt.leaf).mono ?_;rintro _ w13 ⟨s13,rfl,hT13,E13⟩;refine ⟨_,_,_,_,_,s13,rfl,E13.keptP,?_⟩;refine (jCO w13 (hS w13 (by have:=E13.size;omega)) 0 _ s13 hT13).mono ?_;rintro _ w14 ⟨s14,rfl,hT14,E14⟩;refine ⟨_,_,_,_,_,s14,rfl,E14.keptP,fun w15 hs15=>fin2 hT14 (((((E5.trans E10).trans E11).trans E12).trans E13).trans E14) hs15 ?_⟩;rw [← hR];unfold Sp.vQ;rw [if_neg (fun e=>beq_eq_false_iff_ne.1 h1 e),if_neg (fun e=>beq_eq_false_iff_ne.1 h2 e),if_pos hk]
  ·have hk:=beq_iff_eq.1 hk;obtain ⟨hD,E5,hS⟩:=go hs5;refine ⟨fun _=>True,trivial,?_⟩;rintro w16 e16;have E16:Pure w5 w16:=by rw [e16];exact Ext.drew w5
   refine (p_V _ w16).mono ?_;rintro _ w17 ⟨rfl,E17⟩;refine ⟨_,_,_,_,_,_,rfl,trivial,E17.keptP,?_⟩;have E57:=E16.trans E17;refine (jBH w17 (hS w17 E57.size) 0 (.inl rfl) fk _ sd (hD.pure E57)).mono ?_;rintro _ w18 ⟨s18,rfl,hT18,E18⟩;refine ⟨_,_,_,_,_,s18,rfl,trivial,E18.keptP,?_⟩;have E58:=E57.trans E18;refine (jBH w18 (hS w18 E58.size) 1 (.inr rfl) fk _ sd (hD.pure E58)).mono ?_;rintro _ w19 ⟨s19,rfl,hT19,E19⟩;refine ⟨_,_,_,_,_,s19,rfl,trivial,E19.keptP,?_⟩;have E59:=E58.trans E19;refine (tA w19 (hS w19 E59.size) _ _ s18 s19 (hT18.pure E19) hT19).mono ?_;rintro _ w20 ⟨s20,rfl,hT20,E20⟩;refine ⟨_,_,_,_,_,s20,rfl,trivial,E20.keptP,?_⟩;have E510:=E59.trans E20;refine (tA w20 (hS w20 E510.size) (Sp.qF Sp.qZ) _ Sl.nil s20 TreeAt.leaf hT20).mono ?_;rintro _ w21 ⟨s21,rfl,hT21,E21⟩;refine ⟨_,_,_,_,_,s21,rfl,trivial,E21.keptP,?_⟩;have E511:=E510.trans E21;refine (jCO w21 (hS w21 E511.size) f _ s21 hT21).mono ?_;rintro _ w22 ⟨s22,rfl,hT22,E22⟩;refine ⟨_,_,_,_,_,s22,rfl,E22.keptP,fun w23 hs23=>fin2 hT22 ((E5.trans E511).trans E22) hs23 ?_⟩;rw [← hR];unfold Sp.vQ;rw [if_neg (fun e=>beq_eq_false_iff_ne.1 h1 e),if_neg (fun e=>beq_eq_false_iff_ne.1 h2 e),if_neg (fun e=>beq_eq_false_iff_ne.1 h3 e),if_pos hk];simp only [Bool.and_true]
  ·have hk:=beq_iff_eq.1 hk;obtain ⟨hD,E5,hS⟩:=go hs5;refine ⟨fun _=>True,trivial,?_⟩;rintro w10 e10;have E10:Pure w5 w10:=by rw [e10];exact Ext.drew w5
   refine (p_V _ w10).mono ?_;rintro _ w11 ⟨rfl,E11⟩;refine ⟨_,_,_,_,_,_,rfl,trivial,E11.keptP,?_⟩;refine (p_A1 _ w11).mono ?_;rintro _ w12 ⟨rfl,E12⟩;refine ⟨_,_,_,_,_,_,rfl,E12.keptP,?_⟩;have z12:=((E10.trans E11).trans E12).size;refine (tA w12 (hS w12 z12) (Sp.qF Sp.qW) (Sp.jBJ c) Sl.nil Sl.nil TreeAt.leaf TreeAt.leaf).mono ?_;rintro _ w13 ⟨s13,rfl,hT13,E13⟩;refine ⟨_,_,_,_,_,s13,rfl,E13.keptP,?_⟩;refine (jCO w13 (hS w13 (by have:=E13.size;omega)) 2 _ s13 hT13).mono ?_;rintro _ w14 ⟨s14,rfl,hT14,E14⟩;refine ⟨_,_,_,_,_,s14,rfl,E14.keptP,fun w15 hs15=>fin2 hT14 (((((E5.trans E10).trans E11).trans E12).trans E13).trans E14) hs15 ?_⟩;rw [← hR];unfold Sp.vQ;rw [if_neg (fun e=>beq_eq_false_iff_ne.1 h1 e),if_neg (fun e=>beq_eq_false_iff_ne.1 h2 e),if_neg (fun e=>beq_eq_false_iff_ne.1 h3 e),if_neg (fun e=>beq_eq_false_iff_ne.1 h4 e),if_pos hk]
  ·have hk:=beq_iff_eq.1 hk;obtain ⟨hD,E5,hS⟩:=go hs5;refine ⟨fun _=>True,trivial,?_⟩;rintro w10 e10;have E10:Pure w5 w10:=by rw [e10];exact Ext.drew w5
   refine (p_V _ w10).mono ?_;rintro _ w11 ⟨rfl,E11⟩;refine ⟨_,_,_,_,_,_,rfl,trivial,E11.keptP,?_⟩;have z11:=(E10.trans E11).size;refine (tA w11 (hS w11 z11) (Sp.qF Sp.yA) _ Sl.nil sd TreeAt.leaf (hD.pure (E10.trans E11))).mono ?_;rintro _ w13 ⟨s13,rfl,hT13,E13⟩;refine ⟨_,_,_,_,_,s13,rfl,E13.keptP,?_⟩;refine (jCO w13 (hS w13 (by have:=E13.size;omega)) 2 _ s13 hT13).mono ?_;rintro _ w14 ⟨s14,rfl,hT14,E14⟩;refine ⟨_,_,_,_,_,s14,rfl,E14.keptP,fun w15 hs15=>fin2 hT14 ((((E5.trans E10).trans E11).trans E13).trans E14) hs15 ?_⟩;rw [← hR];unfold Sp.vQ;rw [if_neg (fun e=>beq_eq_false_iff_ne.1 h1 e),if_neg (fun e=>beq_eq_false_iff_ne.1 h2 e),if_neg (fun e=>beq_eq_false_iff_ne.1 h3 e),if_neg (fun e=>beq_eq_false_iff_ne.1 h4 e),if_neg (fun e=>beq_eq_false_iff_ne.1 h5 e),if_pos hk]
  ·obtain ⟨hD,E5,hS⟩:=go hs5;refine ⟨fun _=>True,trivial,?_⟩;rintro w10 e10;have E10:Pure w5 w10:=by rw [e10];exact Ext.drew w5
   refine (p_V _ w10).mono ?_;rintro _ w11 ⟨rfl,E11⟩;refine ⟨_,_,_,_,_,_,rfl,trivial,E11.keptP,?_⟩;refine (p_A1 _ w11).mono ?_;rintro _ w12 ⟨rfl,E12⟩;refine ⟨_,_,_,_,_,_,rfl,E12.keptP,?_⟩;have z12:=((E10.trans E11).trans E12).size;refine (tA w12 (hS w12 z12) (Sp.qF Sp.jIJ) (Sp.jBJ c) Sl.nil Sl.nil TreeAt.leaf TreeAt.leaf).mono ?_;rintro _ w13 ⟨s13,rfl,hT13,E13⟩;refine ⟨_,_,_,_,_,s13,rfl,E13.keptP,fun w15 hs15=>fin2 hT13 ((((E5.trans E10).trans E11).trans E12).trans E13) hs15 ?_⟩;rw [← hR];unfold Sp.vQ;rw [if_neg (fun e=>beq_eq_false_iff_ne.1 h1 e),if_neg (fun e=>beq_eq_false_iff_ne.1 h2 e),if_neg (fun e=>beq_eq_false_iff_ne.1 h3 e),if_neg (fun e=>beq_eq_false_iff_ne.1 h4 e),if_neg (fun e=>beq_eq_false_iff_ne.1 h5 e),if_neg (fun e=>beq_eq_false_iff_ne.1 h6 e)]
 ·rintro _ w' ⟨k,f,t,u,y,s,rfl,hn,hT,E⟩;obtain ⟨k2,f2,t2,u2,x2,ks⟩:=R;cases hn;exact ⟨s,rfl,hT,E⟩
theorem jNY {l:Sp.Letter} (h:Sp.qJ l=0):l.frm=0∨l.frm=1:=by
 unfold Sp.qJ at h;split at h
 ·cases h
 ·rename_i h1;simp only [not_or] at h1;have:=h1.2.2.1;by_cases h0:l.frm=0
  ·exact .inl h0
  ·exact .inr (Classical.byContradiction (fun h2=>this ⟨h0,h2⟩))
def qL (L:Sp.Pool) (l:Sp.Letter):Int×Int×Sp.Pool:=if Sp.qJ l≠0 then (0,Sp.qJ l,L) else Sp.of L (Sp.vQ l true true)
theorem jRK (p:Addr) (l:Sp.Letter) (w0:World) {L:Sp.Pool} {F:NP} (hP:zT w0 p L F) (hok:Sp.Ok L) :
  Calls prog 26 #[.pointer (some p),.agg #[.int .i64 l.kind,.int .i64 l.frm,.int .u64 l.c,.string l.text,.bool l.fake]] w0 (fun e w'=>∃r1 r2:Int,e=.returned (.tuple #[.int .i64 r1,.int .i64 r2])∧(r1=(qL L l).1∧r2=(qL L l).2.1∧∃F',zT w' p (qL L l).2.2 F'∧Ext F w0 w'∧∀b,F' b→F b∨w0.heap.size≤b)):=by
 refine w_K3 (some p) l.kind l.frm l.c l.text l.fake w0 (fun r1 r2 w'=>r1=(qL L l).1∧r2=(qL L l).2.1∧∃F',zT w' p (qL L l).2.2 F'∧Ext F w0 w'∧∀b,F' b→F b∨w0.heap.size≤b) ?_
 unfold m_K3
 intro H1 w1 hs1
 have E1:Pure w0 w1:=hs1.first
 have hF:∀b,F b→b<w0.heap.size:=fun b hb=>hP.lt hb
 refine (jFV l w1).mono ?_
 rintro _ w2 ⟨_,rfl,rfl,E2⟩
 have E02:=E1.trans E2
 refine ⟨_,rfl,E2.keptP,fun hc=>?_,fun hc=>⟨fun h=>(by cases h),fun _=>?_⟩⟩
 ·have hc:=bne_iff_ne.1 hc
  have e:qL L l=(0,Sp.qJ l,L):=by unfold qL;rw [if_pos hc]
  rw [e];exact ⟨rfl,rfl,F,hP.pure E02,Ext.pure E02,fun b hb=>.inl hb⟩
 ·have hc:Sp.qJ l=0:=by simpa using hc
  have e:qL L l=Sp.of L (Sp.vQ l true true):=by unfold qL;rw [if_neg (by simpa using hc)]
  rw [e]
  refine (jTH l (jNY hc) w2).mono ?_
  rintro _ w3 ⟨s3,he,hT3,E3⟩
  generalize Sp.vQ l true true=T at *
  obtain ⟨tk,tf,tt,tu,tx,tks⟩:=T
  have he:_=Ending.returned (.agg #[.int .i64 tk,.int .i64 tf,.int .i64 tt,.int .u64 tu,.string tx,s3.v]):=he
  refine ⟨tk,tf,tt,tu,tx,s3,he,E3.keptP,?_⟩
  have E03:=E02.trans E3
  refine (c_Of (S:=fun b=>w2.heap.size≤b∧b<w3.heap.size) p (.mk tk tf tt tu tx tks) s3 w3 hT3.lt (hP.pure E03) hok (fun b hb hh=>by have:=hF b hb;have:=E02.size;omega) (fun b hb=>hb.2)).mono ?_
  rintro _ w4 ⟨r1,r2,rfl,h12,F',hP4,X4,hF4⟩
  obtain ⟨e1,e2⟩:=Prod.mk.inj h12
  refine ⟨r1,r2,rfl,X4.kept (fun b hb hh=>by have:=hs1.old b hb;have:=hF b hh;omega),e1,e2,F',hP4,(Ext.pure E03).trans X4,fun b hb=>(hF4 b hb).imp id (fun h=>by have:=E03.size;omega)⟩
end Go.Proofs
end
section
open Go Go.SE
namespace Go.Proofs
open Tryz
set_option maxRecDepth 100000
set_option maxHeartbeats 4000000
attribute [local irreducible] wpL wpX opE wpE Calls
def m_N3 (s1:Sl) (w0:World) (K:Sl→WP):Prop :=∃b1,(Go.binOp .eql 54 s1.v Sl.nil.v).run prog w0=.ok (vb b1) w0∧Br b1 (K Sl.nil w0) (∀p1 w1,New w0 (.cells #[] 5) p1 w1→∃s2:Sl,∃w2:World,(Builtin.append_ #[54,54] 54 #[(Sl.mk (some p1) 0 0).v,s1.v]).run prog w1=.ok s2.v w2∧K s2 w2)
theorem w_N3 (s1 w0 K) (h:m_N3 s1 w0 K):
  Calls prog 211 #[s1.v] w0 (fun e w'=>∃r1:Sl,e=.returned r1.v∧K r1 w'):=by
 refine cw (args:=[s1.v]) func211 ntmps211 (eg (q0 Sl.nil.v (ln (zA (eg (q0 s1.v ?_))))))
 obtain ⟨b1,hv2,h⟩:=h
 refine q2 (vb b1) (xG (by kernel_rfl) (by kernel_rfl) (by kernel_rfl) hv2) (ln (cbr h ?_ ?_))<;>intro h
 refine eg (q (ln (er (vA (rs1 results211 ⟨Sl.nil,rfl,h⟩)))))
 refine zD (zN (eg (nw4 (fun p=>(Sl.mk (some p) 0 0).v) h fun p1 w1 h=>q ?_)))
 obtain ⟨s2,w2,hv1,h⟩:=h
 refine st (v:=s2.v) (zJ rfl) (vL (args:=#[(Sl.mk (some p1) 0 0).v,s1.v]) (by kernel_rfl) (fun _=>rfl) hv1) (q0 s2.v (ln (er (rs1 results211 ⟨s2,rfl,h⟩))))
end Go.Proofs
end
section
namespace Go.SE
variable {P:Program}
def yldP (P:Program) (o:Oper) (ε:Operand→Value) (w:World) (R:Value→World→Prop) (X:List PanicEntry→World→Prop):Prop :=
 (∀c,o.op≠.defer c)∧match (execOp ε o).run P w with
 | .ok (.value v) w'=>R v w'
 | .ok .skip w'=>R undef w'
 | .ok (.enter f args) w'=>Calls P f args w' (fun e w''=>(∃v,e=.returned v∧R v w'')∨∃ch,e=.panicked ch∧X ch w'')
 | .ok (.row row args) w'=>Rows P row args w' R
 | .ok (.round l f tmps assign body) w'=>RoundIn Fence.wide 0 P l f tmps assign body w' (fun e w''=>∃v,e=.returned v∧R v w'')
 | .halt (.panic v) w'=>X [{ v,recovered:=false }] w'
 | _=>False
theorem jIE {o:Oper} {ε:Operand→Value} {w:World} {R R':Value→World→Prop} {X X':List PanicEntry→World→Prop} (h:yldP P o ε w R X) (hr:∀v w',R v w'→R' v w') (hx:∀ch w',X ch w'→X' ch w'):yldP P o ε w R' X':=by
 unfold yldP at *;refine ⟨h.1,?_⟩;have h:=h.2;generalize (execOp ε o).run P w=r at *;cases r with
 | ok n w' =>
  cases n <;> simp only at h ⊢ <;> first
   | exact hr _ _ h
   | exact RoundIn.mono h fun e w'' ⟨v,he,hR⟩=>⟨v,he,hr _ _ hR⟩
   | exact Calls.mono h fun e w'' hh=>hh.elim (fun ⟨v,he,hR⟩=>.inl ⟨v,he,hr _ _ hR⟩) (fun ⟨ch,he,hX⟩=>.inr ⟨ch,he,hx _ _ hX⟩)
   | exact h.mono hr
 | halt x w'=>cases x <;> simp only at h ⊢ <;> exact hx _ _ h
theorem jID {o:Oper} {ε:Operand→Value} {w:World} {R:Value→World→Prop} {X:List PanicEntry→World→Prop} (h:yld P o ε w R):yldP P o ε w R X:=by
 refine ⟨jIC h,?_⟩;unfold yld at h;generalize (execOp ε o).run P w=r at *;cases r with
 | ok n w' =>
  cases n <;> simp only at h ⊢ <;> first
   | exact h
   | exact Calls.mono h fun e w'' ⟨v,he,hR⟩=>.inl ⟨v,he,hR⟩
 | halt x w'=>exact h.elim
theorem jDG {ro:Option Nat} {m:Nat} {o:Oper} {a:Act} {w:World} {K:Act→World→Prop} {Q:Exit→Act→World→Prop} (h:yldP P o a.eval w (fun v w'=>K (a.put o.dst v) w') (fun ch w'=>Q (.panic ch) a w')):o.wpIn (fen ro) m P a w K Q:=by
 obtain ⟨h0,h⟩:=h;refine ⟨fun f _=>jJO ro f,?_⟩;rw [jJN,Oper.semAt_eq _ _ _ h0];have hd:(fen ro).depth.isSome=true→1≤m:=fun h=>by rw [jJP] at h;cases h
 generalize (execOp a.eval o).run P w=r at *;cases r with
 | ok n w' =>
  cases n <;> simp only at h <;> simp only [Oper.uponIn]
  case value=>exact h
  case skip=>exact h
  case enter =>
   refine ⟨hd,(Calls.fen h).mono ?_⟩
   rintro e w'' (⟨v,rfl,hR⟩ | ⟨ch,rfl,hX⟩)
   ·exact hR
   ·exact hX
  case row=>exact ⟨hd,Rows.fen h⟩
  case round=>exact ⟨hd,(RoundIn.fen h).mono fun e w'' ⟨v,he,hR⟩=>by subst he;exact hR⟩
 | halt x w'=>cases x <;> simp only at h <;> simp only [Oper.uponIn];exact h
def jKM (P:Program) (ops:Array Oper) (Q:Env→World→Prop) (X:List PanicEntry→World→Prop):List Oper→Env→World→Prop
 | [],ρ,w=>Q ρ w
 | o :: rest,ρ,w =>
  if Region.wanted o (zP ops ρ) then yldP P o (evE ρ) w (fun v w'=>jKM P ops Q X rest (put ρ o.dst v) w') X
  else jKM P ops Q X rest (put ρ o.dst undef) w
section
variable {x:Cx} {n:Nat} {Q:Exit→Env→World→Prop} {ρ:Env} {w:World}
theorem tB {ops:Array Oper} {Q':Env→World→Prop} {X:List PanicEntry→World→Prop} (hQ:∀ρ a w,Rep x.ds n ρ a→Q' ρ w→jNX x n Q .normal a w) (hX:∀ρ a ch w,Rep x.ds n ρ a→X ch w→jNX x n Q (.panic ch) a w) :
  ∀(l:List Oper) (ρ:Env) (a:Act) (w:World),xQ n l=true→Rep x.ds n ρ a→jKM P ops Q' X l ρ w→wpListIn (fen x.ro) 0 P ops (jNX x n Q) l a w
 | [],ρ,a,w,_,hr,h=>hQ _ _ _ hr h
 | o :: l,ρ,a,w,hd,hr,h=>by
  obtain ⟨hk,hd'⟩:=jFT hd;unfold jKM at h;unfold wpListIn;rw [hr.yielded];split
  ·rename_i hw;rw [if_pos hw] at h;apply jDG;rw [hr.eval];exact jIE h (fun v w' hh=>tB hQ hX l _ _ _ hd' (hr.put hk v) hh) (fun ch w' hh=>hX ρ a ch w' hr hh)
  ·rename_i hw;rw [if_neg hw] at h;exact ⟨fun f _=>jJO x.ro f,tB hQ hX l _ _ _ hd' (hr.put hk undef) h⟩
theorem qM {id:Nat} {l:List Oper} (hd:xQ n l=true) (h:jKM P l.toArray (fun ρ w=>Q .normal ρ w) (fun ch w=>∀ρ,Q (.panic ch) ρ w) l ρ w):wpE (x:=x) P n (.region id l.toArray false) Q ρ w:=fun a ha =>
 wpIn_region_lit (tB (fun ρ' _ _ hr hq=>⟨ρ',.inl ⟨hr,hq⟩⟩) (fun ρ' _ _ _ hr hq=>⟨ρ',.inl ⟨hr,hq ρ'⟩⟩) l ρ a w hd ha h)
end
def jUA (P:Program) (fn:Func) (n:Nat) (R:Ending→World→Prop):Exit→Env→World→Prop
 | .normal,ρ,w | .ret,ρ,w=>∃v,(∀ds a,Rep ds n ρ a→(results fn a.tmps).run P w=.ok v w)∧R (.returned v) w
 | .panic ch,_,w=>R (.panicked ch) w
 | _,_,_=>False
theorem uD {n:Nat} {w:World} {f:FuncId} {fn:Func} {c:Code} {args:List Value} {R:Ending→World→Prop} (hf:P.funcs[f]?=some fn) (hb:fn.body=some c) (hn:fn.ntmps=n) (hl:args.length≤n)
  (h:wpE (x:=⟨none,[]⟩) P n c (jUA P fn n R) (jHX args) w):Calls P f args.toArray w R:=by
 subst hn
 refine callsIn_wide.1 (callsIn_of_wp_marks (n:=0) hf hb trivial ?_)
 refine wpIn_mono (h _ (jEE args hl)) ?_
 rintro e a w' ⟨ρ',⟨hr,hq⟩ | ⟨rfl,_,_,D,hr,hD,hq⟩⟩
 ·have hd:a.defers=[]:=hr.defers
  cases e with
  | normal=>obtain ⟨v,hv,hR⟩:=hq;simp only [bodyPostM,hd];exact xC (hv _ a hr) hR
  | ret=>obtain ⟨v,hv,hR⟩:=hq;simp only [bodyPostM,hd];exact xC (hv _ a hr) hR
  | exit _=>exact hq.elim
  | goto _=>exact hq.elim
  | panic ch=>simp only [bodyPostM,hd];exact hq
  | outgrown=>exact hq.elim
 ·obtain ⟨v,hv,hR⟩:=hq
  have hd:a.defers=[jTQ D]:=hr.defers
  simp only [bodyPostM,hd]
  exact ⟨by simp,.inl ⟨D,_,rfl,run_takeDeferred hD,xC (hv _ a hr) hR⟩⟩
theorem ep {n:Nat} {fn:Func} {R:Ending→World→Prop} {e:Exit} {ρ:Env} {w:World} (h:jFY P fn n R e ρ w):jUA P fn n R e ρ w:=by
 cases e <;> first | exact h | exact h.elim
theorem qC {ops:Array Oper} {Q:Env→World→Prop} {X:List PanicEntry→World→Prop}:∀(k:Nat) {l:List Oper} {ρ:Env} {w:World},wpL P ops (fun ρ w=>jKM P ops Q X (l.drop k) ρ w) (l.take k) ρ w→jKM P ops Q X l ρ w
 | 0,l,ρ,w,h=>by simpa [wpL] using h
 | k+1,[],ρ,w,h=>by simpa [wpL] using h
 | k+1,o :: l,ρ,w,h=>by
  simp only [List.take_succ_cons,List.drop_succ_cons] at h;unfold wpL at h;unfold jKM;split
  ·rename_i hw;rw [if_pos hw] at h;exact jIE (jID (X:=X) h) (fun v w' hh=>qC k hh) (fun _ _ h=>h)
  ·rename_i hw;rw [if_neg hw] at h;exact qC k h
theorem jBM {ops:Array Oper} {Q:Env→World→Prop} {X:List PanicEntry→World→Prop} {l:List Oper} {ρ:Env} {w:World} (h:wpL P ops Q l ρ w):jKM P ops Q X l ρ w :=
 qC l.length (by rw [List.take_length,List.drop_length];exact jEA (fun ρ w hq=>hq) h)
section
variable {ε:Operand→Value} {w:World} {d:Option Tmp} {ty:TypeId} {pos:String} {aft:Array Edge} {g:Option (Nat×Bool)}
theorem jEJ {x:Operand} {t:TypeId} {v:Value} (hx:ε x=.iface t v):(execOp ε ⟨d,.panic x,ty,pos,aft,g⟩).run P w=.halt (.panic (.iface t v)) w:=by
 simp [execOp,hx];rfl
end
section
variable {ops:Array Oper} {Q:Env→World→Prop} {X:List PanicEntry→World→Prop} {ρ:Env} {w w':World} {rest:List Oper} {o:Oper} {v:Value}
theorem jRR (h:Q ρ w):jKM P ops Q X [] ρ w:=h
theorem jEV {f:FuncId} {args:Array Value} (hw:Region.wanted o (zP ops ρ)=true) (hd:∀c,o.op≠.defer c) (hr:(execOp (evE ρ) o).run P w=.ok (.enter f args) w') (h:Calls P f args w' fun e w''=>(∃v,e=.returned v∧jKM P ops Q X rest (put ρ o.dst v) w'')∨∃ch,e=.panicked ch∧X ch w''):jKM P ops Q X (o :: rest) ρ w:=by
 unfold jKM;rw [if_pos hw];exact ⟨hd,by rw [hr];exact h⟩
theorem jBX {pv:Value} (hw:Region.wanted o (zP ops ρ)=true) (hd:∀c,o.op≠.defer c) (hr:(execOp (evE ρ) o).run P w=.halt (.panic pv) w') (h:X [{ v:=pv,recovered:=false }] w'):jKM P ops Q X (o :: rest) ρ w:=by
 unfold jKM;rw [if_pos hw];exact ⟨hd,by rw [hr];exact h⟩
end
section
variable {ε:Operand→Value} {w:World} {d:Option Tmp} {ty:TypeId} {pos:String} {aft:Array Edge} {g:Option (Nat×Bool)}
end
end Go.SE
end
