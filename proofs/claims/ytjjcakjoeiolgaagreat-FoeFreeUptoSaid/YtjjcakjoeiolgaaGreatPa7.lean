import Derived.Test.YtjjcakjoeiolgaaGreatPa6
import Derived.Test.YtjjcakjoeiolgaaGreatProg
import Derived.KernelRfl
import Derived.Test.YtjjcakjoeiolgaaGreatPa3
import Derived.Test.YtjjcakjoeiolgaaGreatPa5
import Derived.Test.YtjjcakjoeiolgaaGreatPa4
set_option linter.defProp false
section
open Go Go.SE List
namespace Go.Proofs
open Tryz
attribute [local irreducible] Calls
def UE(k p c1 c2 c3 c4 E:Addr)(ma mb:Nat){L:aw}{G:List Int}{S:List gy}{F FP:NP}(hW:Wf L)(hk:rm L G S):∀(n:Nat) (t:Int) (w0:World) (sl:Sl) (l:List gl) (B:List Int),ly S t<n ->
  pK w0 k p c1 c2 c3 c4 E ma mb L G S F FP sl l B->qn L G (fun x=>x∈zH S) l B ->
  cl 160 #[vi t,vp (some c1),vp (some c2),vp (some c3),vp (some c4),vp (some E)] w0 (XE fun r ok w'=>∃sl' M B',Hy w0 k p c1 c2 c3 c4 E ma mb L G S F FP sl l t r ok w' sl' M B'):=by
 intro n
 induction n with
 |zero=>intro t w0 sl l B h;omega
 |succ n ih =>
 intro t w0 sl l B hrk J hp0
 suffices key:∀K:Int->Bool->WP,(∀r ok w' sl' M B',Hy w0 k p c1 c2 c3 c4 E ma mb L G S F FP sl l t r ok w' sl' M B'->K r ok w')->Gm t c1 c2 c3 c4 E w0 K from
  w_N _ _ _ _ _ _ w0 _ (key _ fun r ok w' sl' M B' h=>⟨sl',M,B',h⟩)
 intro K hK
 have hKs:∀r u t,u∈zH S->tH L r u t->t∈zH S:=fun r u t hu ha=>hk.sL u hu r t ha
 unfold Gm
 rcases J.ed.am.get (P:=prog) (T:=231) underlying231 underlying73 (zeroValue3 _) t true with⟨hl,hrun⟩|⟨v,hl,hrun⟩
 case inr =>
  obtain⟨i,hi,rfl,ie⟩:=RM hl
  refine⟨_,J.ed.a1,_,true,hrun,Br.t rfl (hK _ _ w0 sl [] B ⟨by simpa using J,by simpa using hp0,Sm,fun _=>⟨i,rfl,by simpa using hi,by simpa using ie⟩,⟨fun _=>ie▸hp0.xy _ (getElem_mem hi),fun _=>rfl⟩,ab.refl _,fun b g=>.inl g,fun _=>.inl rfl,Sm,Sm⟩)⟩
 case inl =>
 have htl:t∉l.map gl.t:=OF.1 hl
 refine⟨_,J.ed.a1,_,false,hrun,Br.f rfl ?_⟩
 intro H1 w2 hs2
 have old:∀{H:NP} {w:World},af w0 H w H w->∀b,b<w0.heap.size->¬H b:=fun hs b g hh=>Oh (hs.old b hh)
 have C0:pT w0 ar w0 k p c1 c2 c3 c4 E ma mb L G S F FP sl l t sl [] B:=⟨by simpa using J,by simpa using hp0,Sm,ab.refl _,fun b g=>.inl g,fun b _ h=>h,af.start w0,Sm,Sm⟩
 have C2:=C0.au J hs2
 have c5h:∀{H:NP} {w:World} {j:Sl} {M B1:_},pT w0 H w k p c1 c2 c3 c4 E ma mb L G S F FP sl l t j M B1->¬H E.block:=fun C=>C.nh J _ (.inr (.inr (.inl rfl)))
 have J1f:∀(r a b:Int) (H:NP) (w:World) (j:Sl) (M:List gl) (B1:List Int),pT w0 H w k p c1 c2 c3 c4 E ma mb L G S F FP sl l t j M B1->¬ei L (fun x=>x∈zH S) t->vo t c1 c2 E false r a b t H w K:=by
  intro r a b H w j M B1 C hnd;refine Br.t rfl ?_;have⟨w5,hr5,⟨B',hB',P5⟩,E5⟩:=C.st.ed.Am t;have hmb:=C.nh J mb (.inr (.inl rfl));have hpb:qn L G (fun x=>x∈zH S) (l++M) B':=by
   rcases hB' with rfl|rfl
   .exact C.ed
   .exact C.ed.jdd hnd
  refine⟨_,C.st.ed.a2,w5,hr5,E5.bk fun b g e=>hmb (e▸g),hK 0 false w5 j M B' ⟨⟨P5,C.st.fl.ext E5 fun b g e=>C.st.dF b g (.inr (.inl e)),C.st.bl.ext E5 fun b g e=>C.st.dP b g (.inr (.inl e)),C.st.dF,C.st.dP⟩,hpb,fun s hs=>⟨Nat.le_of_lt (C.ax s hs).1,(C.ax s hs).2⟩,(fun h=>by cases h),⟨(fun h=>by cases h),fun h=>absurd h hnd⟩,C.ext.cg E5 fun i hi e=>.inr (.inl e),C.ak,(fun h=>by cases h),C.dp,C.cl⟩⟩
 have J1t:∀(r a b:Int) (H:NP) (w:World) (j:Sl) (M:List gl) (B1:List Int),pT w0 H w k p c1 c2 c3 c4 E ma mb L G S F FP sl l t j M B1->oq L G (l++M) ⟨r,a,b,t⟩=true->ei L (fun x=>x∈zH S) t->(∀y,ni L S t y->y∈(l++M).map gl.t)->vo t c1 c2 E true r a b t H w K:=by
  intro r a b H w j M B1 C hfol hdt hdp;refine Br.f rfl ?_;have hsl:j.len=(l++M).length:=by rw[C.st.ed.ls.len];simp
  have hfew:=C.ed.ft;have hL6:=hW.ok.ft;have htn:t∉(l++M).map gl.t:=by
   rw[map_append,mem_append];rintro(h|h)
   .exact htl h
   .have⟨s,hs,e⟩:=mem_map.1 h;have:=(C.ax s hs).1;rw[e]at this;omega
  have hlk:=OF.2 htn;have⟨w5,hr5,I5,E5⟩:=C.st.ed.am.put (P:=prog) (T:=231) underlying231 underlying73 hlk ((l++M).length:Int);have hma:=C.nh J ma (.inl rfl);have da:=C.st.ed.d ma (.inl rfl);have b5:ai w5 E [j.v] 169:=C.st.ed.a5.ext E5 fun e=>C.st.ed.n2 e.symm;refine⟨_,C.st.ed.a1,j,C.st.ed.a5.bf,w5,by rw[hsl];exact hr5,E5.bk fun b g e=>hma (e▸g),j,b5.bf,?_⟩;intro p3 w7 h7;have E7:Pure w5 w7:=ab.ax h7;have ls7:=(C.st.ed.ls.ext E5 fun b g e=>C.st.ed.n4 (e▸g)).pure E7;have⟨s1,w8,hr8,R8,X8,f8⟩:=ls7.append (P:=prog) (ty:=169) (c:=1) zCV (r:=AS ⟨r,a,b,t⟩) (ai.bj h7).row rfl rfl (by simp at hfew|-;omega) (by simp[maxLen]at hfew|-;omega);have b8:ai w8 E [j.v] 169:=(b5.pure E7).ext X8 C.st.ed.n6;refine⟨s1,w8,hr8,X8.bk fun b g hx=>C.jd b hx g,b8.gx Sm,c5h C,?_⟩;rintro _ rfl;have E9:=ab.setCell (w:=w8) E s1.v;have z5:w.heap.size<=w7.heap.size:=Oi E5.size E7.size;have f8':∀b,s1.aq b->j.aq b\/w.heap.size<=b:=fun b g=>(f8 b g).imp_right fun h=>Om;have X:ab (PW ma mb E j) w (w8.setCell E s1.v):=(((E5.mono fun b _ e=>.inl e).trans (E7.pure (F:=PW ma mb E j))).trans (X8.mono fun b _ h=>.inr (.inr (.inr h)))).trans (E9.mono fun b _ e=>.inr (.inr (.inl e)));have nx:∀{b},(b=c1.block\/b=c2.block\/b=c3.block\/b=c4.block)->¬PW ma mb E j b:=fun g hx=>by
   have⟨d1,d2,d3,d4⟩:=C.st.ed.d _ hx;rcases g with h|h|h|h
   .exact d1 h
   .exact d2 h
   .exact d3 h
   .exact d4 h
  have wA:∀{b},PW ma mb E j b->b<w.heap.size:=fun g=>C.st.ed.lt g;have I9:fc pL (w8.setCell E s1.v) ma (tm ((l++M)++[⟨r,a,b,t⟩])):=by
   rw[Mr];exact((I5.pure E7).ext X8 C.st.ed.n4).ext E9 C.st.ed.n2
  have P9:rH (w8.setCell E s1.v) k c1 c2 c3 c4 E ma mb s1 ((l++M)++[⟨r,a,b,t⟩]) B1:=by
   refine⟨X.cell C.st.ed.a1 (nx (.inl rfl)),X.cell C.st.ed.a2 (nx (.inr (.inl rfl))),X.cell C.st.ed.a3 (nx (.inr (.inr (.inl rfl)))),X.cell C.st.ed.a4 (nx (.inr (.inr (.inr rfl)))),b8.jh,I9,?_,?_,?_,C.st.ed.n1,C.st.ed.n2,C.st.ed.n3,?_,?_,?_⟩
   .have:=((C.st.ed.bm.ext E5 fun e=>C.st.ed.n1 e.symm).pure E7).ext X8 C.st.ed.n5;exact this.ext E9 C.st.ed.n3
   .have hne : ∀ b, s1.aq b -> b ≠ E.block:=fun b g e => by
     rcases f8' b g with h|h
     .exact C.st.ed.n6 (e▸h)
     .have:=wA (.inr (.inr (.inl rfl)));omega
    have:=R8.ext E9 hne;simpa using this
   .rintro b (g|g|g|g)
    .exact C.st.ed.d b (.inl g)
    .exact C.st.ed.d b (.inr (.inl g))
    .exact C.st.ed.d b (.inr (.inr (.inl g)))
    .rcases f8' b g with h|h
     .exact C.st.ed.d b (.inr (.inr (.inr h)))
     .have:=C.st.zc;omega
   .intro g;rcases f8' _ g with h|h
    .exact C.st.ed.n4 h
    .have:=wA (.inl rfl);omega
   .intro g;rcases f8' _ g with h|h
    .exact C.st.ed.n5 h
    .have:=wA (.inr (.inl rfl));omega
   .intro g;rcases f8' _ g with h|h
    .exact C.st.ed.n6 h
    .have:=wA (.inr (.inr (.inl rfl)));omega
  have hlk9:SE.eu (tm ((l++M)++[⟨r,a,b,t⟩])) t=some ((l++M).length:Int):=by
   rw[Mr,Po (by rw[MD];exact htn),if_pos rfl]
  rcases I9.get (P:=prog) (T:=231) underlying231 underlying73 (zeroValue3 _) t false with⟨hx,_⟩|⟨v,hv,hrun9⟩
  .rw[hx]at hlk9;cases hlk9
  .rw[hv] at hlk9;cases hlk9;have dg:∀{Z:NP},(∀b,Z b->b<w.heap.size)->(∀b,Z b->¬ PW ma mb E j b)->∀b,Z b->¬ PW ma mb E s1 b:=fun hz h b g hx=>by
    rcases hx with hx|hx|hx|hx
    .exact h b g (.inl hx)
    .exact h b g (.inr (.inl hx))
    .exact h b g (.inr (.inr (.inl hx)))
    .rcases f8' b hx with h'|h'
     .exact h b g (.inr (.inr (.inr h')))
     .have:=hz b g;omega
   refine⟨_,P9.a1,_,hrun9,hK _ true _ s1 (M++[⟨r,a,b,t⟩]) B1 ⟨⟨by rw[<-append_assoc];exact P9,C.st.fl.ext X fun b g=>C.st.dF b g,C.st.bl.ext X fun b g=>C.st.dP b g,dg (fun b g=>C.st.fl.lt g) C.st.dF,dg (fun b g=>C.st.bl.lt g) C.st.dP⟩,by rw[<-append_assoc];exact C.ed.sd hfol htn hdt,fun s hs=>?_,fun _=>⟨(l++M).length,rfl,Sm,Sm⟩,⟨fun _=>hdt,fun _=>rfl⟩,C.ext.cg X fun i hi g=>PW.old J C.ak i g hi,fun b g=>?_,fun _=>.inr ?_,fun s hs=>?_,fun s hs y hy=>?_⟩⟩
   .rcases mem_append.1 hs with hs|hs
    .exact⟨Nat.le_of_lt (C.ax s hs).1,(C.ax s hs).2⟩
    .simp at hs;subst hs;exact⟨Nat.le_refl _,.inl (.refl t)⟩
   .rcases f8' b g with h|h
    .exact C.ak b h
    .right;have:=C.ext.size;omega
   .rw[<-append_assoc];have e:((((l++M)++[(⟨r,a,b,t⟩:gl)]).length:Int)-1)=((l++M).length:Int):=So;rw[e,y0 Sm];simp
   .rcases mem_append.1 hs with hs|hs
    .exact C.dp s hs
    .simp at hs;subst hs;exact .refl t
   .rw[<-append_assoc,map_append];refine mem_append_left _ ?_;rcases mem_append.1 hs with hs|hs
    .exact C.cl s hs y hy
    .simp at hs;subst hs;exact hdp y hy
 have hcall : ∀ (u : Int) (H : NP) (w : World) (j : Sl) (M : List gl) (B1 : List Int), pT w0 H w k p c1 c2 c3 c4 E ma mb L G S F FP sl l t j M B1 -> ly S u < ly S t -> (ja L t u \/ u ∈ zH S) -> ni L S t u -> ∀ (Q : Int -> Bool -> WP),
   (∀(r:Int) (ok:Bool) (w':World) (N:Sl) (M2:List gl) (B2:List Int),pT w0 H w' k p c1 c2 c3 c4 E ma mb L G S F FP sl l t N (M++M2) B2->(ok=true↔ei L (fun x=>x∈zH S) u)->(ok=true->∃i,r=((i:Nat):Int)/\∃hi:i<(l++(M++M2)).length,(l++(M++M2))[i].t=u)->aj H w w'->Q r ok w') ->
   ∃v13:Value,w.cell? c4=some v13/\∃(f1:FuncId) (fs1 cs1:Array Value),v13=.func (.func f1) fs1 cs1/\(∀args w,(callFunc f1 args).run prog w=.ok (.enter f1 args) w)/\Calls prog f1 (fs1++#[(vi u)]++cs1) w (XE fun r1 r2 w'=>aj H w w'/\Q r1 r2 w'):=by
  intro u H w j M B1 C hu hsub hdep Q hQ
  refine⟨_,C.st.ed.a4,160,#[],_,rfl,call160,?_⟩
  refine(ih u w j (l++M) B1 Om C.st C.ed).mono ?_
  rintro _ w' ⟨r,ok,rfl,N,M2,B2,hret⟩
  have⟨hkp,C2⟩:=C.step J hret hu hsub (fun x hu hx=>jPC hu hx) hdep
  refine⟨r,ok,rfl,hkp,hQ r ok w' N M2 B2 C2 hret.xy (fun h=>?_) hkp⟩
  have⟨i,e,hi,ie⟩:=hret.yk h
  refine⟨i,e,by rw[<-append_assoc];exact hi,?_⟩
  simpa[append_assoc]using ie
 have⟨sg,m,sk,k2,hF2⟩:=C2.st.fl
 have⟨vr,vf,hlook,hway⟩:=k2.eu t
 refine⟨_,C2.st.ed.a2,_,C2.st.ed.UA t,_,C2.st.ed.a3,k,rfl,_,k2.box.cell rfl,vr,vf,_,hlook,fun hc=>?_,fun hc=>?_⟩
 .-- it is seen
  have o:t∈zH S:=by simpa using hc
  have hdt:ei L (fun x=>x∈zH S) t:=.seen o
  have hnB:decide (t∈B)=false:=decide_eq_false fun g=>hp0.Am t g hdt
  have hin:=hk.iq t o
  have R:¬al L t=false:=by simp[hin]
  rw[hnB]
  rcases Uc hk.tony (tT (hway o))with⟨rfl,rfl,hg⟩|⟨hne,hari,hfs,hrf⟩
  .refine⟨fun h=>by simp at h,fun _=>?_⟩
   intro H2 w10 hs10
   have C10:=C2.au J hs10
   refine J1t 0 0 0 H2 w10 sl [] B C10 ?_ hdt fun y hy=>absurd rfl ((ni.tu hk.oE (hway o)).1 hy).1
   unfold oq;rw[if_neg R,if_pos rfl];simp[hg]
  .refine⟨fun _=>?_,fun h=>absurd (by simpa using h) hne⟩
   intro H2 w10 hs10
   have C10:=C2.au J hs10
   refine hcall vf H2 w10 sl [] B C10 hrf (.inr hfs) ((ni.tu hk.oE (hway o)).2 ⟨hne,rfl⟩) _ ?_
   intro r1 ok w11 N M2 B2 C11 hd11 hi11 _ w12 hs12
   have C12:=C11.au J hs12
   obtain⟨i,rfl,hi,ie⟩:=hi11 (hd11.2 (.seen hfs))
   refine J1t vr i 0 H2 w12 N _ B2 C12 ?_ hdt (fun y hy=>by rw[((ni.tu hk.oE (hway o)).1 hy).2];exact mem_map.2 ⟨_,getElem_mem hi,ie⟩)
   have hr:=hari.gz
   unfold oq
   rw[if_neg R,if_neg hne,if_pos hr]
   have h1:=zo hi
   have h2:=y0 hi
   rw[ie]at h2
   simp only[h1,h2,Bool.true_and,Bool.and_eq_true,beq_iff_eq,true_and]
   exact(jUA hr).2 hari
 .-- it is not
  have o:t∉zH S:=by simpa using hc
  refine⟨fun g=>?_,fun g=>?_⟩
  .intro H2 w4 hs4
   have C4:=C2.au J hs4
   refine⟨_,C4.st.ed.a3,?_⟩
   refine(Wj k p t w4 C4.st.fl C4.st.bl hW).mono ?_
   rintro _ w13 ⟨r3,r4,r5,r6,rfl,z,E13⟩
   refine⟨r3,r4,r5,r6,rfl,E13.bz,?_⟩
   have C13:pT w0 H2 w13 k p c1 c2 c3 c4 E ma mb L G S F FP sl l t sl [] B:=⟨C4.st.pure E13,C4.ed,C4.ax,C4.ext.fb E13,C4.ak,C4.jd,C4.hs.ib E13.bz,C4.dp,C4.cl⟩
   have J2 : ∀ (H : NP) (w : World) (j : Sl) (M : List gl) (B1 : List Int) (ok4 : Bool) (rl a : Int), pT w0 H w k p c1 c2 c3 c4 E ma mb L G S F FP sl l t j M B1 ->
     (ok4=false->¬ei L (fun x=>x∈zH S) t) ->
     (ok4=true->r4<=0->oq L G (l++M) ⟨rl,a,0,t⟩=true/\ei L (fun x=>x∈zH S) t) ->
     (ok4=true->0<r4->ly S r4<ly S t/\(ja L t r4\/r4∈zH S)/\(ei L (fun x=>x∈zH S) r4->ei L (fun x=>x∈zH S) t)/\(ei L (fun x=>x∈zH S) t->ei L (fun x=>x∈zH S) r4) /\
      ∀M2 (i:Nat) (hi:i<(l++(M++M2)).length),(l++(M++M2))[i].t=r4->oq L G (l++(M++M2)) ⟨rl,a,i,t⟩=true) ->
     (ok4=true->0<r3->r3∈(l++M).map gl.t) ->
     Es t c1 c2 c4 E r4 ok4 rl a 0 t w0 H w K:=by
    intro H w j M B1 ok4 rl a C h1 h2 h3 h4
    refine⟨fun hc=>?_,fun hc=>?_⟩
    .rw[Bool.and_eq_true]at hc
     have⟨hok,hpos⟩:=hc
     have hpos:=of_decide_eq_true hpos
     have⟨g1,g2,g3,g4,g5⟩:=h3 hok hpos
     intro H5 w19 hs19
     have C19:=C.au J hs19
     refine hcall r4 H5 w19 j M B1 C19 g1 g2 ((ni.nq z.symm o).2 ⟨hpos,.inr rfl⟩) _ ?_
     intro r7 r8 w20 N M2 B2 C20 hd20 hi20 _ w21 hs21
     have C21:=C20.au J hs21
     cases r8 with
     |false=>exact J1f _ _ _ H5 w21 N _ B2 C21 (fun Y=>by have:=hd20.2 (g4 Y);cases this)
     |true =>
      obtain⟨i,rfl,hi,ie⟩:=hi20 rfl
      refine J1t _ _ _ H5 w21 N _ B2 C21 (g5 M2 i hi ie) (g3 (hd20.1 rfl)) fun y hy=>?_
      rcases(ni.nq z.symm o).1 hy with⟨hy0,e|e⟩
      .subst e
       rw[<-append_assoc,map_append]
       exact mem_append_left _ (h4 hok hy0)
      .subst e
       exact mem_map.2 ⟨_,getElem_mem hi,ie⟩
    .intro H5 w19 hs19
     have C19:=C.au J hs19
     cases ok4 with
     |false=>exact J1f _ _ _ H5 w19 j M B1 C19 (h1 rfl)
     |true =>
      have hle:r4<=0:=by simpa using hc
      have⟨q1,q2⟩:=h2 rfl hle
      refine J1t _ _ _ H5 w19 j M B1 C19 q1 q2 fun y hy=>?_
      rcases(ni.nq z.symm o).1 hy with⟨hy0,e|e⟩
      .subst e;exact h4 rfl hy0
      .omega
   cases hin:al L t with
   |false =>
    have hm:rh L S t=(0,0,false,false):=by unfold rh;rw[if_pos hin]
    rw[hm]at z;cases z
    have hnd:¬ei L (fun x=>x∈zH S) t:=fun Y=>by
     have hnode:ad L t=xC:=by unfold ad;rw[yI hin];rfl
     rcases Y.qf with h|h|⟨h,_⟩|⟨h,_⟩|⟨h,_⟩
     .exact o h
     all_goals (rw[hnode]at h;exact absurd h De)
    refine⟨fun h=>by simp at h,fun _=>?_⟩
    intro H4 O q
    exact J2 H4 O sl [] B false _ _ (C13.au J q) (fun _=>hnd) (fun h=>by cases h) (fun h=>by cases h) (fun h=>by cases h)
   |true =>
   have R:¬al L t=false:=by simp[hin]
   have ht1:=(zI.1 hin).1
   generalize D:ad L t=n at *
   have hm:=z
   unfold rh at hm
   rw[if_neg R,D]at hm
   have kx:∀x∈zB n,al L x=true/\x<t:=by have:=(hW.node hin).2.2.2.2.1;rw[D]at this;exact this
   rcases xVq hW hin with hk1|W|hk5|hk6|hk7
   .rw[D]at hk1
    rw[if_pos hk1]at hm;cases hm
    refine⟨fun h=>by simp at h,fun _=>?_⟩
    intro H4 O q
    have Y:ei L (fun x=>x∈zH S) t:=.free (by rw[D];exact hk1)
    refine J2 H4 O sl [] B true _ _ (C13.au J q) (fun h=>by cases h) (fun _ _=>⟨?_,Y⟩) (fun _ h=>Om) fun _ h=>Om
    unfold oq;rw[if_neg R,D];simp[hk1]
   .rw[D]at W
    rw[if_neg (by rw[W];decide),if_pos W]at hm;cases hm
    have ha:=kx n.a (y4 (.inl W))
    have hb':=kx n.b (P4 W)
    have ha1:=(zI.1 ha.1).1
    have hb1:=(zI.1 hb'.1).1
    have sa:ja L t n.a:=.fj (.refl t) (by rw[D];exact y4 (.inl W))
    have sb:ja L t n.b:=.fj (.refl t) (by rw[D];exact P4 W)
    have qf:ei L (fun x=>x∈zH S) t->ei L (fun x=>x∈zH S) n.a/\ei L (fun x=>x∈zH S) n.b:=fun Y=>by
     rcases Y.qf with h|h|⟨_,h1,h2⟩|⟨h,_⟩|⟨h,_⟩
     .exact absurd h o
     .rw[D,W]at h;exact absurd h De
     .rw[D]at h1 h2;exact⟨h1,h2⟩
     .rw[D,W]at h;cases h
     .rw[D,W]at h;exact absurd h De
    refine⟨fun _=>?_,fun h=>by simp at h;omega⟩
    intro H4 O q
    refine hcall n.a H4 O sl [] B (C13.au J q) (ES o ha1 ha.2) (.inl sa) ((ni.nq z.symm o).2 ⟨Om,.inl rfl⟩) _ ?_
    intro r9 r10 w22 N M2 B2 C22 U V _ w23 hs23
    have C23:=C22.au J hs23
    refine J2 H4 w23 N _ B2 r10 _ _ C23 (fun h Y=>by have:=U.2 (qf Y).1;rw[h]at this;cases this) (fun _ h=>Om) (fun h _=>⟨ES o hb1 hb'.2,.inl sb,fun Y=>.pR (by rw[D];exact W) (by rw[D];exact U.1 h) (by rw[D];exact Y),fun Y=>(qf Y).2,?_⟩) (fun h _=>by have⟨i1,_,I,A⟩:=V h;exact mem_map.2 ⟨_,getElem_mem I,A⟩)
    intro M3 i hi ie
    obtain⟨i1,rfl,I,A⟩:=V h
    have hi1':i1<(l++(([]++M2)++M3)).length:=by simp at I|-;omega
    have e1:pz (l++(([]++M2)++M3)) (i1:Int)=n.a:=by
     rw[<-append_assoc,Ji I];exact A
    have e2:=y0 hi
    rw[ie]at e2
    clear ie
    generalize l++(([]++M2)++M3)=l' at *
    unfold oq;rw[if_neg R,D]
    simp[W,zo hi,zo hi1',e1,e2]
   .rw[D]at hk5
    rw[if_neg (by rw[hk5];decide),if_neg (by rw[hk5];decide),if_pos hk5]at hm;cases hm
    have ha:=kx n.a (y4 (.inr (.inl hk5)))
    have ha1:=(zI.1 ha.1).1
    have sa:ja L t n.a:=.fj (.refl t) (by rw[D];exact y4 (.inr (.inl hk5)))
    have qf:ei L (fun x=>x∈zH S) t->ei L (fun x=>x∈zH S) n.a:=fun Y=>by
     rcases Y.qf with h|h|⟨h,_⟩|⟨_,h⟩|⟨h,_⟩
     .exact absurd h o
     .rw[D,hk5]at h;exact absurd h De
     .rw[D,hk5]at h;cases h
     .rw[D]at h;exact h
     .rw[D,hk5]at h;exact absurd h De
    refine⟨fun _=>?_,fun h=>by simp at h;omega⟩
    intro H4 O q
    refine hcall n.a H4 O sl [] B (C13.au J q) (ES o ha1 ha.2) (.inl sa) ((ni.nq z.symm o).2 ⟨Om,.inl rfl⟩) _ ?_
    intro r9 r10 w22 N M2 B2 C22 U V _ w23 hs23
    have C23:=C22.au J hs23
    refine J2 H4 w23 N _ B2 r10 _ _ C23 (fun h Y=>by have:=U.2 (qf Y);rw[h]at this;cases this) (fun h _=>⟨?_,.ta (by rw[D];exact hk5) (by rw[D];exact U.1 h)⟩) (fun _ h=>Om) (fun h _=>by have⟨i1,_,I,A⟩:=V h;exact mem_map.2 ⟨_,getElem_mem I,A⟩)
    obtain⟨i1,rfl,I,A⟩:=V h
    have e1:=y0 I
    rw[A]at e1
    clear A
    have q1:=zo I
    generalize l++([]++M2)=l' at *
    unfold oq;rw[if_neg R,D]
    simp[hk5,q1,e1]
   .rw[D]at hk6
    rw[if_neg (by rw[hk6];decide),if_neg (by rw[hk6];decide),if_neg (by rw[hk6];decide),if_pos hk6]at hm;cases hm
    have hnd:¬ei L (fun x=>x∈zH S) t:=fun Y=>by
     rcases Y.qf with h|h|⟨h,_⟩|⟨h,_⟩|⟨h,_⟩
     .exact o h
     all_goals (rw[D,hk6]at h;exact absurd h De)
    refine⟨fun h=>by simp at h,fun _=>?_⟩
    intro H4 O q
    exact J2 H4 O sl [] B false _ _ (C13.au J q) (fun _=>hnd) (fun h=>by cases h) (fun h=>by cases h) (fun h=>by cases h)
   .rw[D]at hk7
    have⟨x4,x5,x6,xf⟩:=Vf hk7
    rw[if_neg (by rw[xf];decide),if_neg x4,if_neg x5,if_neg x6]at hm
    generalize hko:oC L (oG n)=ko at *
    have⟨key,kok⟩:=ko
    simp only[Prod.mk.injEq]at hm
    obtain⟨rfl,rfl,rfl,rfl⟩:=hm
    have ha:=kx n.a (y4 (.inr (.inr hk7)))
    have ha1:=(zI.1 ha.1).1
    have sa:ja L t n.a:=.fj (.refl t) (by rw[D];exact y4 (.inr (.inr hk7)))
    have qf:ei L (fun x=>x∈zH S) t->ei L (fun x=>x∈zH S) n.a/\kok=true/\r4∈zH S:=fun Y=>by
     rcases Y.qf with h|h|⟨h,_⟩|⟨h,_⟩|⟨_,h1,h2,h3⟩
     .exact absurd h o
     .rw[D,xf]at h;cases h
     .rw[D]at h;exact absurd h x4
     .rw[D]at h;exact absurd h x5
     .rw[D]at h1 h2 h3;rw[hko]at h2 h3;exact⟨h1,h2,h3⟩
    refine⟨fun hc=>?_,fun hc=>?_⟩
    .rw[Bool.and_eq_true,Bool.and_eq_true]at hc
     have⟨⟨hkok,hkey⟩,_⟩:=hc
     have hkey:=of_decide_eq_true hkey
     have hkn:=OR (L:=L) (n:=oG n) (by rw[hko];exact hkok)
     rw[hko]at hkn
     have hk1:=(zI.1 hkn.1).1
     intro H4 O q
     refine hcall n.a H4 O sl [] B (C13.au J q) (ES o ha1 ha.2) (.inl sa) ((ni.nq z.symm o).2 ⟨Om,.inl rfl⟩) _ ?_
     intro r9 r10 w22 N M2 B2 C22 U V _ w23 hs23
     have C23:=C22.au J hs23
     refine J2 H4 w23 N _ B2 r10 _ _ C23 (fun h Y=>by have:=U.2 (qf Y).1;rw[h]at this;cases this) (fun _ h=>by simp only at hk1;omega) (fun h _=>⟨ZM o ht1 hkey,.inr hkey,fun _=>.signed (by rw[D];exact hk7) (by rw[D];exact U.1 h) (by rw[D,hko];exact hkok) (by rw[D,hko];exact hkey),fun _=>.seen hkey,?_⟩) (fun h _=>by have⟨i1,_,I,A⟩:=V h;exact mem_map.2 ⟨_,getElem_mem I,A⟩)
     intro M3 i hi ie
     obtain⟨i1,rfl,I,A⟩:=V h
     have hi1':i1<(l++(([]++M2)++M3)).length:=by simp at I|-;omega
     have e1:pz (l++(([]++M2)++M3)) (i1:Int)=n.a:=by
      rw[<-append_assoc,Ji I];exact A
     have e2:pz (l++(([]++M2)++M3)) (i:Int)=r4:=by rw[y0 hi];exact ie
     clear ie
     generalize l++(([]++M2)++M3)=l' at *
     unfold oq;rw[if_neg R,D]
     have hkey2:=hkn.2.1
     simp only at hkey2
     simp[hk7,x4,x5,zo hi,zo hi1',e1,e2,hkey2,zX]
    .intro H4 O q
     have hnk:(kok&&decide (r4∈zH S))=false:=by
      have:decide (n.a>0)=true:=So;rw[this]at hc;simpa using hc
     refine J2 H4 O sl [] B _ _ _ (C13.au J q) (fun _ Y=>?_) (fun h=>by rw[hnk]at h;cases h) (fun h=>by rw[hnk]at h;cases h) (fun h=>by rw[hnk]at h;cases h)
     have⟨_,i2,i3⟩:=qf Y
     rw[i2,decide_eq_true i3]at hnk;cases hnk
  .have htB:t∈B:=by simpa using g
   intro H2 w4 hs4
   have C4:=C2.au J hs4
   have hnB:(!decide (t∈B))=false:=by simp[htB]
   rw[hnB]
   exact J1f 0 0 0 H2 w4 sl [] B C4 (hp0.Am t htB)
def UU(k p:Addr)(t:Int)(n:World){L:aw}{G:List Int}{S:List gy}{F FP:NP}(hW:Wf L)(hk:rm L G S)(h:qI n k p G S F)(R:zD n p L FP):
  cl 105 #[vp (some k),vi t] n (XF fun r ok w'=>∃l:List gl,fv n 173 4 (l.map AS) r w'/\(ok=true↔ei L (fun x=>x∈zH S) t)/\(ok=false->l=[])/\(ok=true->l≠[]/\(∀i (hi:i<l.length),oq L G (l.take i) l[i]=true)/\(l.map gl.t).Nodup/\pz l ((l.length:Int)-1)=t/\∀s∈l,ja L t s.t\/s.t∈zH S)/\(ok=true->∀x,x∈l.map gl.t↔Dp L S t x)):=by
 suffices key:∀K:Sl->Bool->WP,(∀r ok w' l,fv n 173 4 (l.map AS) r w'->(ok=true↔ei L (fun x=>x∈zH S) t)->(ok=false->l=[])->(ok=true->l≠[]/\(∀i (hi:i<l.length),oq L G (l.take i) l[i]=true)/\(l.map gl.t).Nodup/\pz l ((l.length:Int)-1)=t/\∀s∈l,ja L t s.t\/s.t∈zH S)->(ok=true->∀x,x∈l.map gl.t↔Dp L S t x)->K r ok w')->MJ (some k) t n K from
  jcr _ _ n _ (key _ Gd)
 intro K hK
 intro N w1 h1
 have B1:=ai.bj h1
 refine⟨_,B1.bf,Br.f rfl ?_⟩
 intro D w2 h2 I w3 h3 B Z h4
 have B4:=ai.bj h4
 refine⟨B4.gx Sm,?_⟩
 rintro _ rfl
 have V:=ab.setCell (w:=Z) B (.map (some I.block))
 have B4':=B4.jh (v:=.map (some I.block))
 have s1:=h1.cu;have s2:=h2.cu;have s3:=h3.cu;have s4:=h4.cu
 have E1:Pure n w1:=ab.ax h1
 have E2:Pure w1 w2:=ab.ax h2
 have E3:Pure w2 w3:=ab.ax h3
 have P:Pure w3 Z:=ab.ax h4
 have l1:=B1.lt
 have l2:=(ai.bj h2).lt
 have l3:=(fc.bj (f:=pL) h3).lt
 have l4:=B4.lt
 have z4:=V.size
 generalize hw5:Z.setCell B (.map (some I.block))=A at *
 intro O w6 U z w7 h7
 have Y:=ai.bj h7
 refine⟨Y.gx Sm,?_⟩
 rintro _ rfl
 have W:=ab.setCell (w:=w7) z (.map (some O.block))
 have B7':=Y.jh (v:=.map (some O.block))
 have s6:=U.cu;have s7:=h7.cu
 have E6:Pure A w6:=ab.ax U
 have X:Pure w6 w7:=ab.ax h7
 have l6:=(fc.bj (f:=Hq) U).lt
 have l7:=Y.lt
 have z7:=W.size
 generalize hw8:w7.setCell z (.map (some O.block))=Q at *
 intro y w9 h9
 have B9:=ai.bj h9
 refine⟨B9.gx Sm,?_⟩
 rintro _ rfl
 have X9:=ab.setCell (w:=w9) y (.func (.func 160) #[] #[vp (some B),vp (some z),vp (some N),vp (some y),vp (some D)])
 have B9':=B9.jh (v:=.func (.func 160) #[] #[vp (some B),vp (some z),vp (some N),vp (some y),vp (some D)])
 have s9:=h9.cu
 have E9:Pure Q w9:=ab.ax h9
 have l9:=B9.lt
 have z9:=X9.size
 have g1:=E1.size;have g2:=E2.size;have g3:=E3.size;have g4:=P.size;have g6:=E6.size;have g7:=X.size;have g9:=E9.size
 generalize hw10:w9.setCell y (.func (.func 160) #[] #[vp (some B),vp (some z),vp (some N),vp (some y),vp (some D)])=m at *
 have d:∀b,¬Sl.nil.aq b:=fun b j=>by have⟨a,h,_⟩:=j;cases h
 have T5:Pure n A:=(((E1.trans E2).trans E3).trans P).cg V fun i hi e=>Om
 have T8:Pure A Q:=(E6.trans X).cg W fun i hi e=>Om
 have q:Pure Q m:=E9.cg X9 fun i hi e=>Om
 have T:Pure n m:=(T5.trans T8).trans q
 have T2:Pure w2 A:=(E3.trans P).cg V fun i hi e=>Om
 have T1:Pure w1 A:=E2.trans T2
 have T3:Pure w3 A:=P.cg V fun i hi e=>Om
 have T6:Pure w6 Q:=X.cg W fun i hi e=>Om
 have o:Pure A m:=T8.trans q
 have h0:pK m k p B z N y D I.block O.block L G S F FP Sl.nil [] []:=by
  refine⟨⟨(B4'.pure o).bf,(B7'.pure q).bf,(B1.pure (T1.trans o)).bf,B9'.bf,(ai.bj h2).pure (T2.trans o),(fc.bj h3).pure (T3.trans o),(fc.bj U).pure (T6.trans q),bg.nil _ _ _,?_,Om,Om,Om,d _,d _,d _⟩,h.pure T,R.pure T,?_,?_⟩;rintro b (rfl|rfl|rfl|j);omega;omega;omega;exact(d b j).elim;rintro b j (rfl|rfl|rfl|g);have:=h.lt j;omega;have:=h.lt j;omega;have:=h.lt j;omega;exact d b g;rintro b j (rfl|rfl|rfl|g);have:=R.lt j;omega;have:=R.lt j;omega;have:=R.lt j;omega;exact d b g
 refine⟨_,h0.ed.a4,160,#[],_,rfl,call160,?_⟩
 refine(UE k p B z N y D I.block O.block hW hk _ t m Sl.nil [] [] (Nat.lt_succ_self _) h0 (qn.nil _ _ _)).mono ?_
 rintro _ H ⟨r1,ok,rfl,J,M,B',c⟩
 refine⟨r1,ok,rfl,fun hc=>?_,fun hc=>?_⟩
 have hf:ok=false:=by simpa using hc
 subst hf
 refine hK Sl.nil false H [] ⟨bg.nil _ _ _,fun b j=>(d b j).elim,T.cg c.ext fun i hi g=>?_⟩ c.xy (fun _=>rfl) (fun h=>by cases h) (fun h=>by cases h)
 rcases g with rfl|rfl|rfl|g
 omega
 omega
 omega
 exact(d _ g).elim
 have ht:ok=true:=by simpa using hc
 subst ht
 have au:=c.st
 have C:=c.ed
 have u:=c.yk rfl
 simp only[nil_append]at au C u
 have⟨i,_,hi,ie⟩:=u
 refine⟨J,au.ed.a5.bf,?_⟩
 refine hK J true H M ⟨au.ed.ls,fun b j=>?_,T.cg c.ext fun i hi g=>?_⟩ c.xy (fun h=>by cases h) (fun _=>⟨?_,C.oq,C.nd,?_,fun s hs=>(c.ax s hs).2⟩) fun _ x=>⟨fun g=>?_,fun g=>?_⟩
 rcases c.ak b j with h|h
 exact(d b h).elim
 have:=T.size;omega
 rcases g with rfl|rfl|rfl|g
 omega
 omega
 omega
 exact(d _ g).elim
 grind
 have:=c.jad rfl
 simp only[nil_append]at this
 rcases this with rfl|h
 simp at hi
 exact h
 obtain⟨s,hs,rfl⟩:=mem_map.1 g
 exact c.dp s hs
 have E:=c.cl
 simp only[nil_append]at E
 exact Dp.all E (mem_map.2 ⟨_,getElem_mem hi,ie⟩) g
def US(k p t w0){L G S F FP}(e:Wf L)(f:rm L G S)(h:qI w0 k p G S F)(g:zD w0 p L FP):
  cl 105 #[vp<|some k,vi t] w0<|XF fun r ok w'=>∃l:List gl,fv w0 173 4 (l.map AS) r w'/\(ok=true↔ei L (fun x=>x∈zH S) t)/\(ok=false->l=[])/\(ok=true->l≠[]/\(∀i (hi:i<l.length),oq L G (l.take i) l[i]=true)/\(l.map gl.t).Nodup/\pz l ((l.length:Int)-1)=t/\∀s∈l,ja L t s.t\/s.t∈zH S):=by
 refine(UU k p t w0 e f h g).mono ?_
 rintro _ w' ⟨r,ok,rfl,l,a,b,c,d,_⟩
 exact⟨r,ok,rfl,l,a,b,c,d⟩
def jOC(k p t w0){L G S F FP}(c:Wf L)(d:rm L G S)(h:qI w0 k p G S F)(b:zD w0 p L FP):
  cl 63 #[vp<|some k,vi t] w0<|XC fun r w'=>(r=true↔ei L (fun x=>x∈zH S) t)/\Pure w0 w':=by
 refine jcB _ _ w0 _ ?_
 refine(US k p t w0 c d h b).mono ?_
 rintro _ e ⟨r,ok,rfl,l,hr,a,_,_⟩
 exact⟨r,ok,rfl,a,hr.pure⟩
end Go.Proofs
end
section
open Go Go.SE List
namespace Go.Proofs
attribute [local irreducible] Calls
end Go.Proofs
end
section
open Go Go.SE List
open Go.IntKind renaming i64 -> q6
namespace Go.Proofs
open Tryz
set_option maxRecDepth 100000
set_option maxHeartbeats 4000000
attribute [local irreducible] bu fw fg dv Calls
attribute [local irreducible] jq W WV WR uC pv ku jn oe ka mm kq ll np my iy ez ij nn kz kp uS xD yC bn ub
def jde(c:Sl)(d i1:Int)(a:World)(b:Int->WP)(K:Bool->WP):Prop:=Br (decide (i1<(c.len:Int))) (∃a1:Addr,At c i1 1 a1/\li a a1 fun e=>Br (e==d) (K true a)<|b (q6.wrap<|i1+1) a)<|K false a
def KW(g:Sl)(f:Int)(e:World)(K:Bool->WP):Prop:=∃(d:Int->WP) (c:Int->World->Nat),d 0 e/\∀(i1:Int) (a:World),d i1 a->jde g f i1 a (fun b w'=>d b w'/\c b w'<c i1 a) K
def UJ(l1 t1 w0 K)(h:KW l1 t1 w0 K):
  cl 150 #[l1.v,(vi t1)] w0<|XC K:=
 cy func150 h<|As 2 [0,1] (fun i1=>[(5,(vi i1))])<|fun {_ _ i1}=>fun a=>br 0 4 (ix 3<|ld 0<|br 0 2 (rr 2)<|df 4 a)<|rr 2
def Jx(a:Option Addr)(c:Int)(h:World)(K:Int->WP):Prop:=∃a1,a=some a1/\lp h a1 fun m=>cl 112 #[(vp m),(vi c)] h fun e b=>∃r1,e=.returned (vb r1)/\Br (!r1) (K 51 b) (∃a2,a=some a2/\lx b (a2.add 1) fun l=>cl 150 #[l.v,(vi c)] b<|XC fun r2 f=>Br (!r2) (∃a3,a=some a3/\lx f (a3.add 1) fun k=>∀g j,av f (.cells #[(vi c)] 73) g j->∃s1:Sl,∃d:World,(Builtin.append_ #[46,46] 46 #[k.v,(Sl.mk (some g) 1 1).v]).run prog j=.ok s1.v d/\∃a4,a=some a4/\zL d (a4.add 1)/\∀i,i=d.setCell (a4.add 1) s1.v->K 0 i) (K 0 f))
def jae(k1 t1 w0 K)(h:Jx k1 t1 w0 K):
  cl 100 #[(vp k1),(vi t1)] w0<|XB K:=
 cy func100 h<|nc 2<|ld 1<|gd 1 call112<|br 0 1 (rr 2)<|nc 2<|ld 1<|gd 1 call150<|br 0 1 (nc 3<|ld 1<|cf 1<|dt<|ef 0<|eo<|nc 0<|gr 1<|rr 1)<|rr 2
end Go.Proofs
end
section
open Go Go.SE List
namespace Go.Proofs
open Tryz
attribute [local irreducible] Calls
def zBO{S}(s ts v w0)(hs:dr S w0 1 s (cd ts))(m:ts.length<=1000000):
  cl 150 #[s.v,vi v] w0<|XC fun r w'=>r=decide (v∈ts)/\w'=w0:=by
 refine UJ _ _ w0 _ ?_
 unfold KW
 have g:s.len=ts.length:=by rw[hs.len,vA]
 refine⟨fun i w'=>w'=w0/\∃j:Nat,i=j/\j<=ts.length/\v∉ts.take j,fun i _=>((ts.length:Int)-i).toNat,⟨rfl,0,rfl,Nat.zero_le _,Sm⟩,?_⟩
 rintro _ _ ⟨rfl,j,rfl,l,k⟩
 refine⟨fun h=>?_,fun h=>?_⟩
 have b:=vQ g h
 have⟨a,d,_,f⟩:=uJ hs b
 have c:ts.take (j+1)=ts.take j++[ts[j]]:=take_succ_eq_append_getElem b
 refine⟨a,d,_,f,fun h=>⟨?_,rfl⟩,fun h=>?_⟩
 grind
 rw[zM b Om]
 refine⟨⟨rfl,j+1,rfl,b,?_⟩,yQ b⟩
 rw[c,mem_append,mem_singleton]
 rintro(e|e)
 exact k e
 simp[e]at h
 grind
structure SU(w:World)(x q:Addr)(G:List Int)(sg:Sl):Prop where
 box:ai w x [vp<|some q,sg.v] 48
 jy:bg w 73 1 sg (cd G)
 n1:¬sg.aq x.block
def sR(w:World)(x q:Addr)(G:List Int)(F:NP):Prop:=∃sg,SU w x q G sg/\∀b,F b↔(b=x.block\/sg.aq b)
section
variable {w w':World} {x q:Addr} {G:List Int} {F:NP}
def sR.ext{X}(h:sR w x q G F)(c:ab X w w')(d:∀b,F b->¬X b):sR w' x q G F:=by
 have⟨sg,h,a⟩:=h;exact⟨sg,⟨h.box.ext c<|d _<|(a _).2<|.inl rfl,h.jy.ext c Gd,h.n1⟩,a⟩
def sR.lt(h:sR w x q G F){b}(a:F b):b<w.heap.size:=by
 have⟨sg,h,c⟩:=h;rcases(c b).1 a with rfl|a;exact h.box.lt;exact h.jy.lt a
end
def Ns(x q t a){L G F FR}(h:sR a x q G F)(B:vP a q L FR)(I:G.length<=100000):
  cl 100 #[vp<|some x,vi t] a<|XB fun r w'=>∃F',sR w' x q (pd L G t) F'/\ab F a w'/\∀b,F' b->F b\/a.heap.size<=b:=by
 refine jae _ _ a _ ?_
 unfold Jx
 have s:=h
 have⟨sg,h,H⟩:=h
 refine⟨x,rfl,_,h.box.bf,?_⟩
 refine(uR q t a B).mono ?_
 rintro _ a ⟨r1,rfl,rfl,rfl⟩
 refine⟨_,rfl,fun i=>?_,fun i=>?_⟩
 have g:al L t=false:=by simpa using i
 have:pd L G t=G:=by unfold pd;rw[if_neg<|by simp[g]]
 rw[this];exact⟨F,s,ab.refl _,fun b f=>.inl f⟩
 have g:al L t=true:=by simpa using i
 have z:pd L G t=jj G t:=by unfold pd;rw[if_pos g]
 rw[z]
 refine⟨x,rfl,sg,h.box.cell rfl,?_⟩
 refine(zBO sg G t a h.jy.el Om).mono ?_
 rintro _ a ⟨r2,rfl,rfl,rfl⟩
 refine⟨_,rfl,fun i=>?_,fun i=>?_⟩
 have l:t∉G:=by simpa using i
 have d:jj G t=G++[t]:=if_neg l
 rw[d]
 refine⟨x,rfl,sg,h.box.cell rfl,?_⟩
 intro E D h3
 have j:Pure a D:=ab.ax h3
 have⟨s1,u,n,A,o,C⟩:=(h.jy.pure j).append (P:=prog) (ty:=46) (c:=1) sZ (r:=[vi t]) (ai.bj h3).row rfl rfl (by rw[vA];omega) (by rw[vA];simp[maxLen];omega)
 have b4:=(h.box.pure j).ext o h.n1
 refine⟨s1,u,n,x,rfl,b4.eh Sm,?_⟩
 rintro _ rfl
 have m:=ab.setCell (w:=u) (x.add 1) s1.v
 rw[zC]at m
 have k:∀b,s1.aq b->sg.aq b\/a.heap.size<=b:=fun b f=>(C b f).imp_right fun h=>Oh j.size
 have p:¬s1.aq x.block:=fun hh=>(k _ hh).elim h.n1 fun hh=>Oh h.box.lt
 refine⟨fun b=>b=x.block\/s1.aq b,⟨s1,⟨b4.set 1 s1.v,by rw[show cd (G++[t])=cd G++[[vi t]] by simp[cd]];exact A.ext m fun b f e=>p<|e▸f,p⟩,fun b=>Iff.rfl⟩,?_,fun b f=>?_⟩
 exact((j.pure (F:=F)).trans<|o.mono Gd).trans<|m.mono Gd
 grind
 have y:t∈G:=by simpa using i
 have d:jj G t=G:=if_pos y
 rw[d];exact⟨F,s,ab.refl _,fun b f=>.inl f⟩
end Go.Proofs
end
section
open Go Go.SE List
open Go.IntKind renaming i64 -> q6
namespace Go.Proofs
open Tryz
set_option maxRecDepth 100000
set_option maxHeartbeats 4000000
attribute [local irreducible] bu fw fg dv Calls
attribute [local irreducible] jq W WV WR uC pv ku jn oe ka mm kq ll np my iy ez ij nn kz kp uS xD yC bn ub
def jbI(a:Int):Bool:=((decide (a>=4))&&(decide (a<=11)))
def L8(a:Int)(d:World):cl 286 #[(.int .i64 a)] d (fun e w'=>e=.returned (.bool<|jbI a)/\Pure d w'):=
 jr func286 [] (fun b=>(vb<|(decide (a>=4))&&(decide (a<=11)))) fun f=>pj 1 0 [] [] (fun b=>[(2,(vb<|(decide (a>=4))&&(decide (a<=11))))]) (fun g=>ct 3 3<|pj 0 0 [(decide (a>=4))] [] (fun b=>[(8,(vb<|(b 0)&&(decide (a<=11))))]) (fun c=>pb 1 0 0 c (fun c=>pe 3 0 c)<|fun c=>pe 3 0 c)<|pe 1 0 g)<|fe 0 f
def yl(a:Int):Bool:=((a==4) ||((decide (a>=9))&&(decide (a<=11))))
def jcj(a:Int)(f:World):cl 287 #[(.int .i64 a)] f (fun e w'=>e=.returned (.bool<|yl a)/\Pure f w'):=
 jr func287 [] (fun b=>(vb<|(a==4) ||((decide (a>=9))&&(decide (a<=11))))) fun h=>pj 1 0 [] [] (fun b=>[(2,(vb<|(a==4) ||((decide (a>=9))&&(decide (a<=11)))))]) (fun g=>ct 3 7<|pj 0 0 [(a==4)] [] (fun b=>[(12,(vb<|(b 0) ||((decide (a>=9))&&(decide (a<=11)))))]) (fun c=>pb 1 0 0 c (fun c=>pe 7 0 c)<|fun c=>ct 3 3<|pj 0 0 [(decide (a>=9))] [5] (fun b=>[(11,(vb<|(b 0)&&(decide (a<=11))))]) (fun d=>pb 1 0 0 d (fun d=>pe 3 0 d)<|fun d=>pe 3 0 d)<|pe 1 0 c)<|pe 1 0 g)<|fe 0 h
def Fw(n1:Int):Int:=(cond (decide (n1>2147483648)) (-1)<|q6.wrap n1)
def PH(n1:Int)(c:World):cl 288 #[(.int .u64 n1)] c (fun e w'=>e=.returned (.int .i64<|Fw n1)/\Pure c w'):=
 jr func288 [(decide (n1>2147483648))] (fun b=>(vi<|cond (b 0) (-1)<|q6.wrap n1)) fun a=>pb 0 3 0 a (fun a=>fe 2 a)<|fun a=>fe 4 a
def AG(l:Option Addr)(d p:Sl)(f I:Int)(aC T:Int)(aF:ByteArray)(a1 G:Int)(X aH:Int)(u c:Int)(F y:Int)(t:ByteArray)(V W:Int)(i:World)(H:NP)(w:World)(K:Int->Int->WP):Prop:=Br (f==0) (Br ((decide (I<0)) ||(decide (I>=(d.len:Int)))) (∀r g,af i H w r g->K 0 90 g)<|∃a2:Addr,At d I 1 a2/\∀r g,af i H w r g->li g a2 fun v1=>K v1 0 g) (Br (f==1) (cl 60 #[(vp l),(.agg #[(vi 1),(vi I),(vi 0),(vu 0),ve,(vi 0),(vi 0)])] w<|XH fun r2 r3 x=>aj H w x/\K r2 r3 x) (Br (f==2) (cl 60 #[(vp l),(.agg #[(vi 2),(vi 0),(vi 0),(vu T),ve,(vi 0),(vi 0)])] w<|XH fun Y r5 D=>aj H w D/\K Y r5 D) (Br (f==3) (cl 60 #[(vp l),(.agg #[(vi 3),(vi 0),(vi 0),(vu 0),(vs aF),(vi 0),(vi 0)])] w<|XH fun r6 r7 z=>aj H w z/\K r6 r7 z) (Br (f==4) (∃a3:Addr,At p aC 1 a3/\li w a3 fun v2=>cl 60 #[(vp l),(.agg #[(vi 4),(vi 0),(vi 0),(vu 0),ve,(vi a1),(vi v2)])] w<|XH fun r8 Z A=>aj H w A/\K r8 Z A) (Br (f==5) (cl 60 #[(vp l),(.agg #[(vi 5),(vi 0),(vi 0),(vu 0),ve,(vi a1),(vi 0)])] w<|XH fun S Q C=>aj H w C/\K S Q C) (Br (cond (f==6) (f==6)<|f==7) (Br (G !=4) (∀b a,af i H w b a->K 0 90 a)<|Br (f==6) (∀b a,af i H w b a->K X 0 a)<|∀b a,af i H w b a->K aH 0 a)<|Br (f==8) (Br (((G !=7)&&(G !=8))&&(G !=9)) (∀n h,af i H w n h->K 0 90 h)<|∀n h,af i H w n h->K X 0 h)<|Br (f==9) (∀b a,af i H w b a->cl 60 #[(vp l),(.agg #[(vi 7),(vi c),(vi 0),(vu 0),ve,(vi a1),(vi 0)])] a (XH fun L P E=>aj b a E/\K L P E))<|Br (f==10) (∀b a,af i H w b a->∃J:WP,J a.drew/\∀o,o=a.drew->cl 288 #[(vu T)] o fun e k=>∃v,e=.returned (vi v)/\J k/\aj b o k/\cl 60 #[(vp l),(.agg #[(vi 8),(vi c),(vi v),(vu 0),ve,(vi a1),(vi 0)])] k (XH fun U O m=>J m/\aj b k m/\K U O m)) (∀b a,af i H w b a->∃N:WP,N a.drew/\∀s,s=a.drew->cl 288 #[(vu T)] s fun e j=>∃B,e=.returned (vi B)/\N j/\aj b s j/\cl 60 #[(vp l),(.agg #[(vi 9),(vi B),(vi c),(vu 0),ve,(vi a1),(vi 0)])] j (XH fun M R q=>N q/\aj b j q/\K M R q))))))))
def Fl(j:Option Addr)(d b:Sl)(l v:Int)(p z:Int)(u:ByteArray)(a1:Int)(i:World)(H:NP)(w:World)(K:Int->Int->WP):Prop:=cl 64 #[(vp j),(vi a1)] w fun e g=>∃k E B C F q o r1,e=.returned (.tuple #[(Ac k E B C F q o),(vb r1)])/\aj H w g/\Br (decide (l>=9)) (∃a4:Addr,At b p 1 a4/\∀a c,af i H g a c->li c a4 fun D=>cl 64 #[(vp j),(vi D)] c fun e h=>∃m y s t r A x n,e=.returned (.tuple #[(Ac m y s t r A x),(vb n)])/\aj a c h/\Br (m !=6) (∀f,af i a h a f->K 0 90 f) (∀f,af i a h a f->AG j d b l v p z u a1 k q o m y s t r A x i a f K)) (∀a c,af i H g a c->AG j d b l v p z u a1 k q o 0 0 0 0 ⟨#[]⟩ 0 0 i a c K)
def Jl(j:Option Addr)(c a:Sl)(e h:Int)(i k:Int)(l:ByteArray)(f:World)(K:Int->Int->WP):Prop:=∀m:Bool,m=((((decide (e<0)) ||(decide (e>11))) ||(((decide (e>=4))&&(decide (e<=11)))&&((decide (h<0)) ||(decide (h>=(a.len:Int)))))) ||((yl e)&&((decide (i<0)) ||(decide (i>=(a.len:Int))))))->Br m (∀b g,af f ar f b g->K 0 90 g) (Br ((decide (e>=4))&&(decide (e<=11))) (∃a5:Addr,At a h 1 a5/\∀b d,af f ar f b d->li d a5 fun n=>Fl j c a e h i k l n f b d K)<|∀b d,af f ar f b d->Fl j c a e h i k l 0 f b d K)
def w_X(p1 given1 made1 aA aB aC aE aF w0 K)(h:Jl p1 given1 made1 aA aB aC aE aF w0 K):
  cl 213 #[(vp p1),given1.v,made1.v,(.agg #[(vi aA),(vi aB),(vi aC),(vu aE),(vs aF)])] w0<|XH K:=
 du func213 h<|nh 0<|pj 2 0 [(((decide (aA<0)) ||(decide (aA>11))) ||(((decide (aA>=4))&&(decide (aA<=11)))&&((decide (aB<0)) ||(decide (aB>=(made1.len:Int))))))] [0,1,2,7] (fun b=>[(55,(vb<|(b 0) ||((yl aA)&&((decide (aC<0)) ||(decide (aC>=(made1.len:Int)))))))]) (fun q=>lh 1 0 []<|ct 2 4<|pj 0 0 [(decide (aA<0))] [0,1,2,7] (fun b=>[(21,(vb<|(b 0) ||(decide (aA>11))))]) (fun n=>pb 1 0 0 n (fun n=>pe 4 0 n)<|fun n=>lh 1 0 []<|pe 2 0 n)<|ct 1 16<|pj 0 0 [((decide (aA<0)) ||(decide (aA>11)))] [0,1,2,7] (fun b=>[(38,(vb<|(b 0) ||(((decide (aA>=4))&&(decide (aA<=11)))&&((decide (aB<0)) ||(decide (aB>=(made1.len:Int)))))))]) (fun o=>pb 1 0 0 o (fun o=>pe 16 0 o)<|fun o=>lh 1 0 []<|cp 0 call286 (L8 aA)<|ct 1 11<|pj 0 0 [((decide (aA>=4))&&(decide (aA<=11)))] [0,1,2,7,22] (fun b=>[(37,(vb<|(b 0)&&((decide (aB<0)) ||(decide (aB>=(made1.len:Int))))))]) (fun j=>pb 1 0 0 j (fun j=>lh 1 0 [1]<|ct 2 6<|pj 0 0 [(decide (aB<0))] [0,1,2,7,22,26] (fun b=>[(36,(vb<|(b 0) ||(decide (aB>=(made1.len:Int)))))]) (fun p=>pb 1 0 0 p (fun p=>pe 6 0 p)<|fun p=>lh 1 0 [1]<|pe 4 0 p)<|pe 1 0 j)<|fun j=>pe 11 0 j)<|pe 1 0 o)<|pb 1 1 0 q (fun q=>pe 16 0 q)<|fun q=>lh 1 0 []<|cp 0 call287 (jcj aA)<|ct 1 11<|pj 0 0 [(yl aA)] [0,1,2,7,39] (fun b=>[(54,(vb<|(b 0)&&((decide (aC<0)) ||(decide (aC>=(made1.len:Int))))))]) (fun k=>pb 1 0 0 k (fun k=>lh 1 0 [2]<|ct 2 6<|pj 0 0 [(decide (aC<0))] [0,1,2,7,39,43] (fun b=>[(53,(vb<|(b 0) ||(decide (aC>=(made1.len:Int)))))]) (fun r=>pb 1 0 0 r (fun r=>pe 6 0 r)<|fun r=>lh 1 0 [2]<|pe 4 0 r)<|pe 1 0 k)<|fun k=>pe 11 0 k)<|pe 1 0 q)<|yy<|br 0 0 (ah<|rr 3)<|lh 3 0 []<|cp 0 call286 (L8 aA)<|ke 0 0 [0,1,2,7] (fun a1=>[(10,(vi a1))]) (fun a1 H w=>Fl _ _ _ _ _ _ _ _ a1 _ H w _) (fun y=>br 0 0 (lh 3 0 [1]<|ix 0<|ah<|ld 0<|je 1 0 y)<|ah<|je 1 0 y)<|fun {a1}=>cc 2 call64<|cj<|fun {x}=>dt<|rt<|iv<|nh 3<|sg 0 0 []<|nh 2<|sg 0 0 []<|lh 1 2 []<|Bb 1 0 [0,1,2,7,10,11,13] (fun d a f e c g i=>[]) (fun d a f e c g i l=>ij l 0 0<|Ab d a f e c g i) (fun d a f e c g i H w=>AG _ _ _ _ _ _ _ _ _ _ _ _ d a f e c g i _ H w _) (fun z=>br 0 0 (lh 4 2 [2]<|ix 0<|ah<|ld 0<|cc 0 call64<|cj<|dt<|rt<|iv<|sg 3 0 []<|lh 1 0 []<|br 0 1 (an<|rr 3)<|an<|je 1 0 z)<|ah<|je 1 0 z)<|fun {d a f e c g i}=>lh 1 2 []<|br 0 2 (pj 1 0 [(decide (aB<0))] [1,7] (fun b=>[(100,(vb<|(b 0) ||(decide (aB>=(given1.len:Int)))))]) (fun s=>lh 1 2 [1]<|pb 1 2 0 s (fun s=>pe 6 0 s)<|fun s=>lh 1 2 [1]<|pe 4 0 s)<|br 0 0 (ah<|rr 3)<|lh 3 2 [1]<|ix 0<|ah<|ld 0<|rr 2)<|br 0 3 (lh 3 2 [1]<|im 1 call60<|rr 4)<|br 0 3 (lh 3 2 [3]<|im 1 call60<|rr 4)<|br 0 3 (lh 3 2 [4]<|im 1 call60<|rr 4)<|br 0 3 (lh 5 2 [2]<|ix 0<|ld 0<|im 1 call60<|rr 4)<|br 0 3 (im 4 call60<|rr 4)<|pj 3 0 [(aA==6)] [0,7,10,11,13,88] (fun b=>[(154,(vb<|cond (b 0) (aA==6)<|aA==7))]) (fun m=>pb 0 0 0 m (fun m=>pe 1 0 m)<|fun m=>pe 3 0 m)<|br 0 0 (lh 2 1 []<|br 0 1 (ah<|rr 3)<|lh 2 2 []<|br 0 1 (lh 2 1 [5]<|ah<|rr 2)<|lh 2 1 [6]<|ah<|rr 2)<|br 0 3 (pj 1 0 [((x !=7)&&(x !=8))] [11] (fun b=>[(181,(vb<|(b 0)&&(x !=9)))]) (fun t=>lh 1 1 []<|ct 2 4<|pj 0 0 [(x !=7)] [11] (fun b=>[(176,(vb<|(b 0)&&(x !=8)))]) (fun u=>pb 1 0 0 u (fun u=>lh 1 1 []<|pe 2 0 u)<|fun u=>pe 4 0 u)<|pb 1 1 0 t (fun t=>lh 1 1 []<|pe 2 0 t)<|fun t=>pe 4 0 t)<|br 0 0 (ah<|rr 3)<|lh 2 1 [5]<|ah<|rr 2)<|br 0 3 (lh 3 0 [1]<|ah<|im 2 call60<|rr 4)<|br 0 3 (ah<|dC 1 [5,8] []<|ju 2 0 [1]<|ju 1 2 [3]<|mg 1 call288<|Ax 1 call60<|rr 4)<|ah<|dC 1 [3,8] []<|ju 2 2 [3]<|ju 1 0 [1]<|mg 1 call288<|Ax 1 call60<|rr 4
def Pz(o:Option Addr)(b m a:Sl)(i1:Int)(c:World)(d:Sl->Int->WP)(K:Sl->Int->WP):Prop:=Br (decide (i1<(m.len:Int))) (∃a1:Addr,At m i1 5 a1/\∃k e f j n,Row c a1 [(vi k),(vi e),(vi f),(vu j),(vs n)]/\cl 213 #[(vp o),b.v,a.v,(.agg #[(vi k),(vi e),(vi f),(vu j),(vs n)])] c (XH fun r1 r2 i=>Br (r2 !=0) (K a r2 i)<|∀h g,av i (.cells #[(vi r1)] 73) h g->∃s1:Sl,∃l:World,(Builtin.append_ #[46,46] 46 #[a.v,(Sl.mk (some h) 1 1).v]).run prog g=.ok s1.v l/\d s1 (q6.wrap<|i1+1) l))<|K a 0 c
def Pi(h:Option Addr)(b j:Sl)(i:World)(K:Sl->Int->WP):Prop:=∃(g:Sl->Int->WP) (f:Sl->Int->World->Nat),g Sl.nil 0 i/\∀(a:Sl) (i1:Int) (c:World),g a i1 c->Pz h b j a i1 c (fun e d w'=>g e d w'/\f e d w'<f a i1 c) K
def Uj(p1 given1 l1 w0 K)(h:Pi p1 given1 l1 w0 K):
  cl 156 #[(vp p1),given1.v,l1.v] w0<|XM K:=
 cy func156 h<|Dr 4 [0,1,2] (fun a i1=>[(8,(Sl.v a)),(9,(vi i1))])<|fun {_ _ a i1}=>fun b=>br 0 4 (ix 6<|gv<|lr 0<|lv 0 call213<|br 0 7 (rr 5)<|cf 3<|dt<|ef 0<|eo<|df 4 b)<|rr 4
def Nk(e:Option Addr)(a d:Sl)(c:World)(K:Int->Int->Int->WP):Prop:=Br (decide ((d.len:Int)>256)) (K 0 6 0 c)<|Br (((d.len:Int):Int)==0) (K 0 3 0 c)<|cl 156 #[(vp e),a.v,d.v] c<|XM fun r1 r2 b=>Br (r2 !=0) (K 0 r2 (r1.len:Int) b)<|∃a1:Addr,At r1 (q6.wrap<|(r1.len:Int)-1) 1 a1/\li b a1 fun f=>K f 0 0 b
def Sz(p1 given1 l1 w0 K)(h:Nk p1 given1 l1 w0 K):
  cl 101 #[(vp p1),given1.v,l1.v] w0<|XJ K:=
 cy func101 h<|br 0 6 (rr 4)<|br 0 4 (rr 4)<|lv 4 call156<|br 0 7 (rr 7)<|ix 5<|ld 0<|rr 3
end Go.Proofs
end
section
open Go Go.SE List
namespace Go.Proofs
open Tryz
attribute [local irreducible] Calls
abbrev sN(q:Addr)(F:NP)(w:World)(R:qo)(r1 r2:Int)(w':World):Prop:=(r1,r2)=(R.1,R.2.1)/\∃F',vP w' q R.2.2 F'/\ab F w w'/\∀b,F' b->F b\/w.heap.size<=b
def sN.ba{q F w w1 w' R r1 r2}(E:Pure w w1)(h:sN q F w1 R r1 r2 w'):sN q F w R r1 r2 w':=by
 have⟨h1,F',h2,h3,c⟩:=h;exact⟨h1,F',h2,E.pure.trans h3,fun b a=>(c b a).imp_right fun h=>Oh E.size⟩
def EP{S w s ts}(h:dr S w 1 s (cd ts)){i t}(hi:fa ts i=some t):∃a,At s i 1 a/\S a.block/\w.cell? a=some (vi t):=by
 obtain⟨b,h1,rfl⟩:=Je hi;have⟨a,h2,h3,c⟩:=uJ h h1;exact⟨a,by rw[Int.toNat_of_nonneg b]at h2;exact h2,h3,c⟩
section
variable {Sg Sm:NP} (q:Addr) (sg sm:Sl) (G M:List Int) (w0:World) {L:aw} {F:NP} (hP:vP w0 q L F) (hok:Ok L)
 (hg:dr Sg w0 1 sg (cd G)) (hm:dr Sm w0 1 sm (cd M))
include hP hok hg hm
def Jh(co oa ob on ox a1 rk ra rb kk kf kt kn kx ka kb H w)(hs:af w0 ar w0 H w)(Y:0<=co)(V:co<=11)(Z:4<=co->fa M oa=some a1)(hB:co=4\/9<=co->∃b,fa M ob=some b)(W:4<=co->rk=(fh L M oa).kind/\ra=(fh L M oa).a/\rb=(fh L M oa).b)(Q:9<=co->(fh L M ob).kind=6/\kf=(fh L M ob).az)(K:Int->Int->WP)(u:∀r1 r2 w',sN q F w0 (yN L G M ⟨co,oa,ob,on,ox⟩) r1 r2 w'->K r1 r2 w'):
  AG (some q) sg sm co oa ob on ox a1 rk ra rb kk kf kt kn kx ka kb w0 H w K:=by
 unfold AG
 have E:=hs.first
 have T:sg.len=G.length:=by rw[hg.len,vA]
 have g:∀{d w' r1 r2},af w0 H w d w'->yN L G M ⟨co,oa,ob,on,ox⟩=(r1,r2,L)->K r1 r2 w':=fun c e=>by
  have k:=E.au c;exact u _ _ _ (by rw[e];exact⟨rfl,F,hP.pure k,k.pure,fun b m=>.inl m⟩)
 have mk:∀{d w' f} {e:Ending} {n:di},af w0 H w d w'->yN L G M ⟨co,oa,ob,on,ox⟩=ay L n->(∃r1 r2:Int,e=.returned (.tuple #[vi r1,vi r2])/\sN q F w' (ay L n) r1 r2 f)->∃r1 r2:Int,e=.returned (.tuple #[vi r1,vi r2])/\aj d w' f/\K r1 r2 f:=by
  rintro d w' f e n c y ⟨r1,r2,t,h⟩;have k:=E.au c;refine⟨r1,r2,t,h.2.elim fun F' h=>h.2.1.bk fun b m v=>Oi (c.old b m)<|hP.lt v,u _ _ _ ?_⟩;rw[y];exact sN.ba k h
 refine⟨fun h=>?_,fun h=>?_⟩
 .have h:co=0:=by simpa using h
  subst h
  have N:yN L G M ⟨0,oa,ob,on,ox⟩=uZ L G ⟨0,oa,ob,on,ox⟩:=Gi rfl
  refine⟨fun h=>fun d w' c=>g c ?_,fun h=>?_⟩
  .rw[N];unfold uZ
   rw[Bool.or_eq_true,decide_eq_true_eq,decide_eq_true_eq]at h
   simp only
   rw[ui Om];rfl
  .rw[Bool.or_eq_false_iff,decide_eq_false_iff_not,decide_eq_false_iff_not]at h
   have P:fa G oa=some (G[oa.toNat]' Om):=th Om Om
   have⟨a,B,D,z⟩:=EP hg P
   refine⟨a,B,fun d w' c=>⟨_,(E.au c).cell z fun h=>h,g c ?_⟩⟩
   rw[N];unfold uZ;simp only;rw[P]
 have n0:co≠0:=by simpa using h
 refine⟨fun h=>?_,fun h=>?_⟩
 .have h:co=1:=by simpa using h
  subst h
  exact(vZ q ⟨1,oa,0,0,⟨#[]⟩,0,0⟩ w (hP.pure E) hok).mono fun e f h=>mk hs.fm (FY rfl) h
 have n1:co≠1:=by simpa using h
 refine⟨fun h=>?_,fun h=>?_⟩
 .have h:co=2:=by simpa using h
  subst h
  exact(vZ q ⟨2,0,0,on,⟨#[]⟩,0,0⟩ w (hP.pure E) hok).mono fun e f h=>mk hs.fm (Hj rfl) h
 have n2:co≠2:=by simpa using h
 refine⟨fun h=>?_,fun h=>?_⟩
 .have h:co=3:=by simpa using h
  subst h
  exact(vZ q ⟨3,0,0,0,ox,0,0⟩ w (hP.pure E) hok).mono fun e f h=>mk hs.fm (Ik rfl) h
 have n3:co≠3:=by simpa using h
 have i:=Z Om
 obtain⟨rfl,rfl,rfl⟩:=W Om
 refine⟨fun h=>?_,fun h=>?_⟩
 .have h:co=4:=by simpa using h
  subst h
  have⟨b1,l⟩:=hB<|.inl rfl
  have⟨a,B,D,z⟩:=EP hm l
  refine⟨a,B,b1,E.cell z fun h=>h,?_⟩
  have X:yN L G M ⟨4,oa,ob,on,ox⟩=ay L ⟨4,0,0,0,⟨#[]⟩,a1,b1⟩:=by
   rw[BU rfl];unfold sI;simp only;rw[i];simp only;rw[l]
  exact(vZ q ⟨4,0,0,0,⟨#[]⟩,a1,b1⟩ w (hP.pure E) hok).mono fun e f h=>mk hs.fm X h
 have n4:co≠4:=by simpa using h
 refine⟨fun h=>?_,fun h=>?_⟩
 .have h:co=5:=by simpa using h
  subst h
  have e5:yN L G M ⟨5,oa,ob,on,ox⟩=ay L ⟨5,0,0,0,⟨#[]⟩,a1,0⟩:=by
   rw[DL rfl];unfold te;simp only;rw[i]
  exact(vZ q ⟨5,0,0,0,⟨#[]⟩,a1,0⟩ w (hP.pure E) hok).mono fun e f h=>mk hs.fm e5 h
 have n5:co≠5:=by simpa using h
 refine⟨fun h=>?_,fun h=>?_⟩
 .have I:co=6\/co=7:=Gd
  have C:yN L G M ⟨co,oa,ob,on,ox⟩=uG L M ⟨co,oa,ob,on,ox⟩ (decide (co=7)):=by
   rcases I with h|h<;>subst h
   .exact EE rfl
   .exact DZ rfl
  refine⟨fun h=>fun d w' c=>g c ?_,fun h=>?_⟩
  .rw[C];unfold uG;simp only
   rw[if_neg<|by simpa using h];rfl
  .have O:(fh L M oa).kind=4:=by simpa using h
   refine⟨fun h=>fun d w' c=>g c ?_,fun h=>fun d w' c=>g c ?_⟩
   .have h:co=6:=by simpa using h
    rw[C];unfold uG;simp only;rw[if_pos O,decide_eq_false Om];rfl
   .have h:co≠6:=by simpa using h
    rw[C];unfold uG;simp only;rw[if_pos O,decide_eq_true Om];rfl
 have U:co≠6/\co≠7:=Gd
 refine⟨fun h=>?_,fun h=>?_⟩
 .have h:co=8:=by simpa using h
  subst h
  have r:qY (fh L M oa).kind=!(((((fh L M oa).kind:Int) !=7)&&(((fh L M oa).kind:Int) !=8))&&(((fh L M oa).kind:Int) !=9)):=by
   unfold qY;simp only[bne,Bool.not_and,Bool.not_not]
  refine⟨fun h=>fun d w' c=>g c ?_,fun h=>fun d w' c=>g c ?_⟩
  .rw[Bp rfl]
   unfold xN;simp only
   rw[if_neg (by rw[r,h];simp)];rfl
  .rw[Bp rfl]
   unfold xN;simp only
   rw[if_pos (by rw[r,h];rfl)]
 have n8:co≠8:=by simpa using h
 obtain⟨A,rfl⟩:=Q Om
 have J:∀mk,qA L M ⟨co,oa,ob,on,ox⟩ mk=ay L (mk (fh L M ob).az a1):=fun mk=>by
  unfold qA;simp only;rw[i];simp only;rw[if_pos A]
 refine⟨fun h=>fun d w' c=>?_,fun h=>?_⟩
 .have h:co=9:=by simpa using h
  subst h
  exact(vZ q ⟨7,(fh L M ob).az,0,0,⟨#[]⟩,a1,0⟩ w' (hP.pure<|E.au c) hok).mono fun e f h=>mk c ((AV rfl).trans<|J _) h
 have n9:co≠9:=by simpa using h
 have p:∀{d w' x s f} {e:Ending} {n:di},af w0 H w d w'->Pure w' x->x=s->yN L G M ⟨co,oa,ob,on,ox⟩=ay L n->(∃r1 r2:Int,e=.returned (.tuple #[vi r1,vi r2])/\sN q F s (ay L n) r1 r2 f)->∃r1 r2:Int,e=.returned (.tuple #[vi r1,vi r2])/\True/\aj d s f/\K r1 r2 f:=by
  rintro d w' x _ f e n c R rfl y ⟨r1,r2,t,h⟩;have k:=(E.au c).trans R;refine⟨r1,r2,t,trivial,h.2.elim fun F' h=>h.2.1.bk fun b m v=>Oi (c.old b m)<|hP.lt v,u _ _ _ ?_⟩;rw[y];exact sN.ba k h
 refine⟨fun h=>fun d w' c=>⟨fun _=>True,trivial,?_⟩,fun h=>fun d w' c=>⟨fun _=>True,trivial,?_⟩⟩
 .have h:co=10:=by simpa using h
  subst h
  rintro _ rfl
  refine(PH on _).mono ?_
  rintro _ f ⟨rfl,j⟩
  have o:Pure w' w'.drew:=ab.drew w'
  refine⟨_,rfl,trivial,j.bz,?_⟩
  exact(vZ q ⟨8,(fh L M ob).az,Fw on,0,⟨#[]⟩,a1,0⟩ f (hP.pure<|((E.au c).trans o).trans j) hok).mono fun e s h=>p c (o.trans j) rfl ((Bn rfl).trans<|J _) h
 .have S:co≠10:=by simpa using h
  have h:co=11:=Om
  subst h
  rintro _ rfl
  refine(PH on _).mono ?_
  rintro _ f ⟨rfl,j⟩
  have o:Pure w' w'.drew:=ab.drew w'
  refine⟨_,rfl,trivial,j.bz,?_⟩
  exact(vZ q ⟨9,Fw on,(fh L M ob).az,0,⟨#[]⟩,a1,0⟩ f (hP.pure<|((E.au c).trans o).trans j) hok).mono fun e s h=>p c (o.trans j) rfl ((BD rfl).trans<|J _) h
def jXV(o):cl 213 #[vp<|some q,sg.v,sm.v,pk o] w0 (XH fun r1 r2 w'=>sN q F w0 (yN L G M o) r1 r2 w'):=by
 have⟨c,oa,d,on,j⟩:=o;refine w_X _ _ _ c oa d on j w0 (sN q F w0<|yN L G M ⟨c,oa,d,on,j⟩) ?_;unfold Jl;have Y:sm.len=M.length:=by rw[hm.len,vA]
 have j1:∀(a1:Int) (H:NP) (w:World),af w0 ar w0 H w->0<=c->c<=11->(4<=c->fa M oa=some a1)->(c=4\/9<=c->∃b,fa M d=some b)->Fl (some q) sg sm c oa d on j a1 w0 H w (sN q F w0<|yN L G M ⟨c,oa,d,on,j⟩):=by
  intro a1 H w hs n i D hB;refine(Jo q a1 w (hP.pure hs.first) hok).mono ?_;rintro _ w2 ⟨k,f,t',u,x,a,b,r,rfl,⟨E,_⟩,O⟩;have l:=hs.pure O;have U:4<=c->k=(fh L M oa).kind/\a=(fh L M oa).a/\b=(fh L M oa).b:=fun h=>by
   have:fh L M oa=ad L a1:=by unfold fh;rw[D h]
   rw[this,<-E];exact⟨rfl,rfl,rfl⟩
  refine⟨_,_,_,_,_,_,_,_,rfl,O.bz,fun h=>?_,fun h=>fun X J g=>?_⟩
  .have A:9<=c:=by simpa using h
   have⟨b1,t⟩:=hB<|.inr A;have⟨C,S,I,z⟩:=EP hm t;refine⟨C,S,fun X J g=>?_⟩;have Q:=l.first.au g;refine⟨b1,Q.cell z fun h=>h,?_⟩;refine(Jo q b1 J (hP.pure Q) hok).mono ?_;rintro _ w4 ⟨R,f2,t2,u2,x2,a2,b2,r2,rfl,⟨s,_⟩,N⟩;have B:fh L M d=ad L b1:=by unfold fh;rw[t]
   have y:=(l.trans g).pure N;refine⟨_,_,_,_,_,_,_,_,rfl,N.bz,fun h=>fun T m=>?_,fun h=>fun T m=>?_⟩
   .have P:R≠6:=by simpa using h
    have p:yN L G M ⟨c,oa,d,on,j⟩=mn L:=PX A i (by rw[B,<-s];exact P);rw[p];have V:=y.first.au m;exact⟨rfl,F,hP.pure V,V.pure,fun b e=>.inl e⟩
   .have P:R=6:=by simpa using h
    exact Jh q sg sm G M w0 hP hok hg hm c oa d on j a1 k a b _ _ _ _ _ _ _ _ T (y.trans m) n i D hB U Gd _ fun _ _ _ h=>h
  .have A:¬9<=c:=by simpa using h
   exact Jh q sg sm G M w0 hP hok hg hm c oa d on j a1 k a b _ _ _ _ _ _ _ _ J (l.trans g) n i D hB U (fun h=>absurd h A) _ fun _ _ _ h=>h
 have h2:yl c=true↔(c=4\/(9<=c/\c<=11)):=by
  unfold yl;simp only[Bool.or_eq_true,Bool.and_eq_true,beq_iff_eq,decide_eq_true_eq,ge_iff_le]
 rintro _ rfl;refine⟨fun h=>fun H w hs=>?_,fun h=>?_⟩
 .have p : yN L G M ⟨c, oa, d, on, j⟩ = mn L:=by
   simp only[Bool.or_eq_true,Bool.and_eq_true,decide_eq_true_eq,ge_iff_le,h2,gt_iff_lt]at h;rcases h with((h|h)|⟨⟨Z,K⟩,h⟩)|⟨z,h⟩
   .exact Ef<|.inl h
   .exact Ef<|.inr h
   .exact jaG Z K<|ui Gd
   .exact jaC (ui Gd) z
  rw[p];exact⟨rfl,F,hP.pure hs.first,hs.first.pure,fun b e=>.inl e⟩
 .simp only[Bool.or_eq_false_iff,Bool.and_eq_false_iff,decide_eq_false_iff_not,ge_iff_le,gt_iff_lt] at h;have⟨⟨⟨n,i⟩,S⟩,e⟩:=h;have hB:c=4\/9<=c->∃b,fa M d=some b:=fun h=>by
   have ht:yl c=true:=h2.2 Om;rw[ht]at e;rcases e with e|e
   .cases e
   .exact⟨_,th Om Om⟩
  refine⟨fun h=>?_,fun h=>fun H w hs=>?_⟩
  .rw[Bool.and_eq_true,decide_eq_true_eq,decide_eq_true_eq]at h;have W:fa M oa=some (M[oa.toNat]' Om):=th Om Om;have⟨C,iy,I,z⟩:=EP hm W;refine⟨C,iy,fun H w hs=>⟨_,hs.first.cell z fun h=>h,?_⟩⟩;exact j1 _ H w hs Om Om (fun _=>W) hB
  .grind
end
structure IV(w0:World)(q:Addr)(F:NP)(R:List Int×Int×aw)(s:Sl)(r2:Int)(w':World):Prop where
 cq:r2=R.2.1
 bl:∃F',vP w' q R.2.2 F'/\(∀b,F' b->F b\/w0.heap.size<=b)/\∀b,s.aq b->¬F' b
 cm:bg w' 73 1 s (cd R.1)
 ak:∀b,s.aq b->w0.heap.size<=b
 fr:ab F w0 w'
section
variable {Sg S0:NP} (q:Addr) (sg sl:Sl) (G:List Int) (l:List Op) (w0:World) {L:aw} {F:NP} (hW:Wf L) (hP:vP w0 q L F)
 (hg:dr Sg w0 1 sg (cd G)) (hl:dr S0 w0 5 sl (l.map pD)) (hSg:∀b,Sg b->b<w0.heap.size/\¬F b) (hS0:∀b,S0 b->b<w0.heap.size/\¬F b) (hn:l.length<=1000)
include hW hP hg hl hSg hS0 hn
def Zh:cl 156 #[vp<|some q,sg.v,sl.v] w0 (XM fun s r2 w'=>IV w0 q F (vE L G [] l) s r2 w'):=by
 refine Uj _ _ _ w0 (fun s r2 w'=>IV w0 q F (vE L G [] l) s r2 w') ?_;unfold Pi;have t:∀b,¬Sl.nil.aq b:=fun b g=>by have⟨a,h,_⟩:=g;cases h
 have I:sl.len=l.length:=by rw[hl.len];simp
 refine⟨fun sm x w=>∃(j:Nat) (M:List Int) (B:aw) (F1:NP),x=j/\j<=l.length/\M.length=j/\Wf B/\vE L G [] l=vE B G M (l.drop j)/\IV w0 q F (M,0,B) sm 0 w,fun _ x _=>((l.length:Int)-x).toNat,⟨0,[],L,F,rfl,Nat.zero_le _,rfl,hW,rfl,rfl,⟨F,hP,fun b g=>.inl g,fun b g=>(t b g).elim⟩,bg.nil _ _ _,fun b g=>(t b g).elim,ab.refl _⟩,?_⟩;rintro sm _ w ⟨j,M,B,_,rfl,hj,T,J,f,R⟩;unfold Pz;have⟨_,⟨F1,y,H,A⟩,d,k,X⟩:=R;simp only at y d;refine⟨fun h=>?_,fun h=>?_⟩;have m:=vQ I h;have⟨a,W,Y,K⟩:=hl.kg m;have ux:Row w a (pD l[j]):=X.row K (hS0 _ Y).2;refine⟨a,W,l[j].code,l[j].a,l[j].b,l[j].num,l[j].bb,ux,?_⟩;rw[Jb m]at f;generalize l[j]=o at *;have z:=X.size;refine(jXV q sg sm G M w y J.ok (hg.ext X fun b g=>(hSg b g).2) d.el o).mono ?_;rintro _ w1 ⟨r1,r2,rfl,hr,O,n,X2,N⟩;have E:=vm J G M o;generalize yN B G M o=D at *;have⟨d1,d2,L2⟩:=D;simp only[Prod.mk.injEq]at hr;obtain⟨rfl,rfl⟩:=hr;simp only at f E n;have z2:=X2.size;have u:∀b,sm.aq b->¬O b:=fun b g U=>(N b U).elim (A b g) fun h=>Oh<|d.lt g;have p:∀b,O b->F b\/w0.heap.size<=b:=fun b g=>(N b g).elim (H b) fun h=>.inr Om;have C:ab F w0 w1:=X.cg X2 Gd;have i:=d.ext X2 A;refine⟨_,_,rfl,fun h=>?_,fun h=>?_⟩;rw[if_pos<|by simpa using h]at f;rw[f];exact⟨rfl,⟨O,n,p,u⟩,i,k,C⟩;rw[if_neg<|by simpa using h]at f;intro p2 w2 n2;have S:Pure w1 w2:=ab.ax n2;have⟨s1,w3,Z,R3,X3,Q⟩:=(i.pure S).append (P:=prog) (ty:=46) (c:=1) sZ (r:=[vi _]) (ai.bj n2).row rfl rfl (by rw[vA];omega) (by rw[vA];simp[maxLen];omega);refine⟨s1,w3,Z,?_⟩;rw[zM m Om];have z3:=S.size;refine⟨⟨j+1,M++[_],L2,O,rfl,m,by simp[T],E,f,rfl,⟨O,(n.pure S).ext X3 fun b g hs=>u b hs g,p,fun b g=>(Q b g).elim (u b) fun h U=>Oh<|n.lt U⟩,?_,fun b g=>(Q b g).elim (k b) fun h=>Om,?_⟩,yQ m⟩;simp only[cd,map_append,map_cons,map_nil]at R3|-;exact R3;exact(C.fb S).cg X3 Gd;have V:=qU I hj h;subst V;have e:vE L G [] l=(M,0,B):=by rw[f,drop_length];rfl
 rw[e];exact⟨rfl,⟨F1,y,H,A⟩,d,k,X⟩
def Ud:cl 101 #[vp<|some q,sg.v,sl.v] w0 (XJ fun r1 r2 r3 w'=>(r1,r2,r3)=((zV L G l).1,(zV L G l).2.1,(zV L G l).2.2.1)/\∃F',vP w' q (zV L G l).2.2.2 F'/\ab F w0 w'/\∀b,F' b->F b\/w0.heap.size<=b):=by
 refine Sz _ _ _ w0 (fun r1 r2 r3 w'=>(r1,r2,r3)=((zV L G l).1,(zV L G l).2.1,(zV L G l).2.2.1)/\∃F',vP w' q (zV L G l).2.2.2 F'/\ab F w0 w'/\∀b,F' b->F b\/w0.heap.size<=b) ?_;unfold Nk;have m:sl.len=l.length:=by rw[hl.len];simp
 unfold zV;rw[m];refine⟨fun h=>?_,fun h=>?_⟩;rw[if_pos Gd];exact⟨rfl,F,hP,ab.refl _,fun b n=>.inl n⟩;rw[if_neg Gd];refine⟨fun h=>?_,fun h=>?_⟩;rw[if_pos<|by simpa using h];exact⟨rfl,F,hP,ab.refl _,fun b n=>.inl n⟩;have h2:l.length≠0:=by simpa using h
 rw[if_neg h2];refine(Zh q sg sl G l w0 hW hP hg hl hSg hS0 hn).mono ?_;rintro _ w ⟨s,r2,rfl,y⟩;have⟨r,⟨F',i,o,x⟩,c,u,X⟩:=y;refine⟨s,r2,rfl,?_⟩;have d:=EA G l L [];have f:∃F',vP w q (vE L G [] l).2.2 F'/\ab F w0 w/\∀b,F' b->F b\/w0.heap.size<=b:=⟨F',i,X,o⟩;generalize vE L G [] l=R at *;have⟨M,e,B⟩:=R;simp only at r c d f i;subst r;simp only[length_nil,Nat.zero_add]at d;have k:s.len=M.length:=by rw[c.len,vA]
 refine⟨fun h=>?_,fun h=>?_⟩;grind;have t:r2=0:=by simpa using h
 rw[if_neg<|by simpa using t];have j:=d.2 t;have g:M≠[]:=fun e=>by rw[e]at j;simp at j;omega
 rw[show IntKind.i64.wrap ((s.len:Int)-1)=(((l.length-1:Nat)):Int) by rw[k,j,IntWalk.i64_in _ Om];omega];have p:fa M ((l.length-1:Nat):Int)=some (M.getLast g):=by
  rw[th Om Om];simp[getLast_eq_getElem,j]
 have⟨a,A,z⟩:=Ci c p;refine⟨a,A,_,z,?_,f⟩;rw[getLast?_eq_some_getLast g];rfl
end
end Go.Proofs
end
section
namespace Go.SE
abbrev rC:=World->(Nat->Prop)->Prop
structure mh(A:rC):Prop where
 ext:∀{w w':World} {F X:Nat->Prop},A w F->ab X w w'->(∀y,F y->¬X y)->A w' F
 lt:∀{w:World} {F:Nat->Prop},A w F->∀y,F y->y<w.heap.size
def Tn(A:rC)(F:Nat->Prop)(w w':World):Prop:=∃F',A w' F'/\ab F w w'/\∀y,F' y->F y\/w.heap.size<=y
def AE:rC:=fun _ F=>∀y,¬F y
def sF(e:TypeId)(sz:Nat)(s:Sl)(rs:List (List Value)):rC:=fun w F=>bg w e sz s rs/\∀y,F y↔s.aq y
def MU:mh AE:=⟨fun h _ _=>h,fun h y a=>(h y a).elim⟩
def xj{e sz s rs}:mh (sF e sz s rs):=⟨fun h E d=>⟨h.1.ext E fun y a=>d y<|(h.2 y).2 a,h.2⟩,fun h y a=>h.1.lt<|(h.2 y).1 a⟩
def ew(A B:rC):rC:=fun w F=>∃a b,A w a/\B w b/\(∀y,a y->¬b y)/\∀y,F y↔a y\/b y
def Tk(H:Nat->Prop)(A:rC)(F0:Nat->Prop)(w0 w:World):Prop:=∃F,A w F/\ab F0 w0 w/\(∀y,F y->(F0 y\/w0.heap.size<=y)/\¬H y)/\∀y,H y->y<w.heap.size
section
variable {A A' B C:rC} {F0 F H H':Nat->Prop} {w0 w w':World}
def mh.sQ(a:mh A)(b:mh B):mh (ew A B):=
 ⟨fun⟨i,f,e,hB,d,c⟩ E h=>⟨i,f,a.ext e E Gd,b.ext hB E Gd,d,c⟩,
 fun⟨_,_,e,hB,_,c⟩ y g=>((c y).1 g).elim (a.lt e y)<|b.lt hB y⟩
def Tk.start(h:A w F)(cl:mh A):Tk ar A F w w:=⟨F,h,ab.refl _,fun _ a=>⟨.inl a,id⟩,fun _ h=>h.elim⟩
def Tk.tn(h:Tk H A F0 w0 w):Tn A F0 w0 w:=by
 have⟨F,a,E,h1,_⟩:=h;exact⟨F,a,E,fun y b=>(h1 y b).1⟩
def Tk.fr(h:Tk H A F0 w0 w):ab F0 w0 w:=by have⟨_,_,E,_⟩:=h;exact E
def Tk.au(h:Tk H A F0 w0 w)(cl:mh A)(hs:af w0 H w H' w'):Tk H' A F0 w0 w':=by
 have⟨F,a,E,h1,h2⟩:=h;have d:=hs.ji (G:=F) fun y b=>⟨cl.lt a y b,(h1 y b).2⟩;exact⟨F,cl.ext a hs.ext d,E.au hs,fun y b=>⟨(h1 y b).1,d y b⟩,hs.lt⟩
def Tk.pure(h:Tk H A F0 w0 w)(cl:mh A)(E:Pure w w'):Tk H A F0 w0 w':=by
 have⟨F,a,b,h1,h2⟩:=h;exact⟨F,cl.ext a E fun _ _ h=>h,b.fb E,h1,fun y c=>Nat.lt_of_lt_of_le (h2 y c) E.size⟩
def Tk.ti(E:ab F0 w0 w)(h1:∀y,F y->(F0 y\/w0.heap.size<=y)/\¬H y)(h2:∀y,H y->y<w.heap.size)(t:Tn A' F w w'):Tk H A' F0 w0 w'/\aj H w w':=by
 have⟨F',c,b,n⟩:=t;refine⟨⟨F',c,E.cg b Gd,fun y a=>?_,fun y a=>Nat.lt_of_lt_of_le (h2 y a) b.size⟩,b.bk fun y a d=>(h1 y d).2 a⟩;rcases n y a with h|h;exact h1 y h;exact⟨.inr<|Nat.le_trans E.size h,fun hh=>Oh<|h2 y hh⟩
def ew.ti{F1 F2}(b:mh B)(hB:B w F2)(d:∀y,F1 y->¬F2 y)(f:∀y,F y↔F1 y\/F2 y)(t:Tn A' F1 w w'):Tn (ew A' B) F w w':=by
 have⟨F',e,a,n⟩:=t;refine⟨fun y=>F' y\/F2 y,⟨F',F2,e,b.ext hB a fun y h2 h1=>d y h1 h2,fun y c h2=>?_,fun _=>Iff.rfl⟩,a.mono Gd,fun y c=>?_⟩;rcases n y c with h|h;exact d y h h2;have:=b.lt hB y h2;omega;grind
def Tk.one(h:Tk H A F0 w0 w):∃F,A w F/\(∀y,F y->(F0 y\/w0.heap.size<=y)/\¬H y)/\∀{A' w'},Tn A' F w w'->Tk H A' F0 w0 w'/\aj H w w':=by
 have⟨F,a,E,h1,h2⟩:=h;exact⟨F,a,h1,fun t=>Tk.ti E h1 h2 t⟩
def ew.one(b:mh B)(h:ew A B w F)(e:∀y,F y->y<w.heap.size):∃a,A w a/\(∀y,a y->F y)/\∀{A' w'},Tn A' a w w'->Tn (ew A' B) F w w':=by
 have⟨a,i,g,hB,d,c⟩:=h;exact⟨a,g,fun y f=>(c y).2<|.inl f,fun t=>ew.ti b hB d c t⟩
def ew.xg(h:ew A B w F):ew B A w F:=by
 have⟨a,c,b,hB,d,e⟩:=h;exact⟨c,a,hB,b,fun y h2 h1=>d y h1 h2,fun y=>(e y).trans Or.comm⟩
def Tk.xg(h:Tk H (ew A B) F0 w0 w):Tk H (ew B A) F0 w0 w:=by
 have⟨F,a,r⟩:=h;exact⟨F,a.xg,r⟩
def Tk.lb(b:mh B)(h:Tk H (ew A B) F0 w0 w):∃a c,A w a/\B w c/\(∀y,a y->¬c y)/\(∀y,a y->(F0 y\/w0.heap.size<=y)/\¬H y)/\∀{A' w'},Tn A' a w w'->Tk H (ew A' B) F0 w0 w'/\aj H w w':=by
 have⟨F,⟨a,c,g,hB,d,e⟩,E,h1,h2⟩:=h;exact⟨a,c,g,hB,d,fun y f=>h1 y<|(e y).2<|.inl f,fun t=>Tk.ti E h1 h2<|ew.ti b hB d e t⟩
def Tk.l(e:mh A)(b:mh B)(h:Tk H (ew A B) F0 w0 w):∃a,A w a/\(∀y,a y->(F0 y\/w0.heap.size<=y)/\¬H y)/\∀{A' w'},Tn A' a w w'->Tk H (ew A' B) F0 w0 w'/\aj H w w':=by
 have⟨a,_,c,_,_,d,k⟩:=h.lb b;exact⟨a,c,d,k⟩
def Tk.r(a:mh A)(b:mh B)(h:Tk H (ew A B) F0 w0 w):∃c,B w c/\(∀y,c y->(F0 y\/w0.heap.size<=y)/\¬H y)/\∀{B' w'},Tn B' c w w'->Tk H (ew A B') F0 w0 w'/\aj H w w':=by
 have⟨c,hB,d,k⟩:=h.xg.l b a;exact⟨c,hB,d,fun t=>⟨(k t).1.xg,(k t).2⟩⟩
def Tk.lP{w1}(a:mh A)(b:mh B)(h:Tk H (ew A B) F0 w0 w)(E:Pure w w1):∃c,A w1 c/\(∀y,c y->y<w.heap.size)/\∀{A' w'},Tn A' c w1 w'->Tk H (ew A' B) F0 w0 w'/\aj H w1 w':=by
 have⟨c,f,d,k⟩:=h.l a b;exact⟨c,a.ext f E fun _ _ h=>h,a.lt f,fun {A' w'} ⟨F',j,g,n⟩=>⟨(k ⟨F',j,(ab.pure E).trans g,fun y e=>(n y e).imp id fun h=>Nat.le_trans E.size h⟩).1,g.bk fun y e i=>(d y i).2 e⟩⟩
def Tk.ax(a:mh A)(h:Tk H A F0 w0 w)(c:C w' F)(E:Pure w w')(n:∀y,F y->w.heap.size<=y):Tk H (ew C A) F0 w0 w':=by
 have⟨e,f,d,h1,h2⟩:=h;refine⟨fun y=>F y\/e y,⟨F,e,c,a.ext f E fun _ _ h=>h,fun y b g=>?_,fun _=>Iff.rfl⟩,d.fb E,fun y b=>?_,fun y b=>Nat.lt_of_lt_of_le (h2 y b) E.size⟩;have:=a.lt f y g;have:=n y b;omega;rcases b with b|b;exact⟨.inr<|Nat.le_trans d.size<|n y b,fun hh=>Oi (h2 y hh)<|n y b⟩;exact h1 y b
def Tk.sub(h:Tk H A F0 w0 w)(f:∀{F},A w F->∃F',B w F'/\∀y,F' y->F y):Tk H B F0 w0 w:=by
 have⟨F,a,E,h1,h2⟩:=h;have⟨F',b,s⟩:=f a;exact⟨F',b,E,fun y c=>h1 y<|s y c,h2⟩
def ew.fst(h:ew A B w F):∃F',A w F'/\∀y,F' y->F y:=by
 have⟨a,_,b,_,_,c⟩:=h;exact⟨a,b,fun y d=>(c y).2<|.inl d⟩
def ew.iw(h:ew A (ew B C) w F):∃F',ew A C w F'/\∀y,F' y->F y:=by
 have⟨c,k,i,⟨l,b,hB,e,d2,a⟩,d,f⟩:=h;refine⟨fun y=>c y\/b y,⟨c,b,i,e,fun y h1 j=>d y h1<|(a y).2<|.inr j,fun _=>Iff.rfl⟩,fun y g=>(f y).2<|g.imp id fun h=>(a y).2<|.inr h⟩
end
end Go.SE
end
section
open Go Go.SE List
open Go.IntKind renaming i64 -> q6
namespace Go.Proofs
open Tryz
set_option maxRecDepth 100000
set_option maxHeartbeats 4000000
attribute [local irreducible] bu fw fg dv Calls
attribute [local irreducible] jq W WV WR uC pv ku jn oe ka mm kq ll np my iy ez ij nn kz kp uS xD yC bn ub
def Xj(d:World)(K:(Option Addr)->WP):Prop:=cl 42 #[] d fun e c=>∃r1,e=.returned (vp r1)/\cl 43 #[(vp r1)] c (XD fun r2 f=>∀a b,av f (.cells #[(vp r2),(vp r1),(vb false),(vb false)] 98) a b->K (some a) b)
def WT(a:World)(K:(Option Addr)->WP)(h:Xj  a K):
  cl 9 #[] a<|XD K:=
 cy func9 h<|gd 1 call42<|gd 2 call43<|cf 3<|rr 1
def Yh(a:Int):Bool:=((a==0) ||(a==1))
def Ew(a:Int)(d:World):cl 66 #[(.int .i64 a)] d (fun e w'=>e=.returned (.bool<|Yh a)/\Pure d w'):=
 jr func66 [] (fun b=>(vb<|(a==0) ||(a==1))) fun f=>pj 1 0 [] [] (fun b=>[(2,(vb<|(a==0) ||(a==1)))]) (fun g=>ct 3 3<|pj 0 0 [(a==0)] [] (fun b=>[(8,(vb<|(b 0) ||(a==1)))]) (fun c=>pb 1 0 0 c (fun c=>pe 3 0 c)<|fun c=>pe 3 0 c)<|pe 1 0 g)<|fe 0 f
def UH(h d:Int)(e:ByteArray)(c:World)(K:Sl->WP):Prop:=∀g b,af c ar c g b->∀a f,av b (.cells #[(vi 2),(vi h),(vu d),(vs e),(vb false),(vi 6),(vi 0),(vu d),(vs e),(vb false)] 35) a f->K (Sl.mk (some a) 2 2) f
def Vv(aA aB aC w0 K)(h:UH aA aB aC w0 K):
  cl 103 #[(.agg #[(vi aA),(vu aB),(vs aC)])] w0<|XA K:=
 du func103 h<|nh 0<|lh 2 0 []<|lh 1 0 [1]<|lh 1 0 [2]<|lh 2 0 [1]<|lh 1 0 [2]<|ah<|ot 1<|rr 1
def HF(b:Value)(g r2:Int)(h:Bool)(H:NP)(w:World)(d:Int->NP->WP)(K:Int->WP):Prop:=Br h (∃(f:FuncId) (c e:Array Value),b=.func (.func f) c e/\(∀args w,(callFunc f args).run prog w=.ok (.enter f args) w)/\Calls prog f (c++#[(vi r2)]++e) w (XC fun i a=>aj H w a/\Br i (K r2 a) (d (q6.wrap<|g+1) H a)))<|d (q6.wrap<|g+1) H w
def jcX(l:Option Addr)(a:Value)(r1:Sl)(i:Int)(t:World)(k:NP)(b:World)(f:Int->NP->WP)(K:Int->WP):Prop:=Br (decide (i<(r1.len:Int))) (∃a1:Addr,At r1 i 5 a1/\∃o q p r n,Row b a1 (Ae o q p r n)/\∀d j,af t k b d j->∃m:WP,m j.drew/\∀h,h=j.drew->∃a2,l=some a2/\lp h (a2.add 1) fun v=>cl 104 #[(vp v),(.agg #[(vi o),(vi q),(vu p),(vs r),(vb n)])] h fun e c=>∃r2 r3,e=.returned (.tuple #[(vi r2),(vi r3)])/\m c/\aj d h c/\Br (r3==0) (∃a3,l=some a3/\lp c a3 fun u=>cl 63 #[(vp u),(vi r2)] c<|XC fun s g=>aj d c g/\HF a i r2 s d g f K) (HF a i r2 false d c f K)) (K 0 b)
def FO(l:Option Addr)(j n:Int)(p:ByteArray)(f:Value)(c:World)(K:Int->WP):Prop:=Br ((Option.isNone l) ||(!((j==0) ||(j==1)))) (∀g d,af c ar c g d->K 0 d)<|∀g d,af c ar c g d->cl 103 #[(.agg #[(vi j),(vu n),(vs p)])] d (XA fun r1 m=>aj g d m/\∃(k:Int->NP->WP) (h:Int->World->Nat),k 0 g m/\∀(i:Int) (b:NP) (a:World),af c b a b a->k i b a->jcX l f r1 i c b a (fun e o w'=>k e o w'/\h e w'<h i a) K)
def jaX(f1 aA aB aC how1 w0 K)(h:FO f1 aA aB aC how1 w0 K):
  cl 48 #[(vp f1),(.agg #[(vi aA),(vu aB),(vs aC)]),how1] w0<|XB K:=
 du func48 h<|nh 0<|pj 1 0 [(Option.isNone f1)] [0,2,4] (fun b=>[(18,(vb<|(b 0) ||(!((aA==0) ||(aA==1)))))]) (fun a=>pb 1 3 0 a (fun a=>pe 5 0 a)<|fun a=>lh 1 0 []<|cp 0 call66 (Ew aA)<|pe 2 0 a)<|br 0 0 (ah<|rr 2)<|iu 1 0 [] 3<|ah<|dw 0 call103<|uw 2 [0,2,20,21] (fun f=>[(22,(vi f))])<|fun {_ _ f}=>fun e=>br 0 1 (ix 1<|gv<|lr 0<|nh 0<|sg 0 0 []<|ah<|dC 0 [6] []<|nc 1<|sV 2<|uz 0 0 [] 5<|Ax 0 call104<|ct 8 8<|ke 0 0 [0,2,9,20,21,22] (fun c=>[(46,(vb c))]) (fun c H w=>HF _ _ _ c H w _ _) (fun g=>br 1 0 (nc 1<|ld 2<|dw 1 call63<|je 1 0 g)<|je 8 0 g)<|fun {c}=>br 1 1 (fo<|fun d=>cv 2 d<|xe<|rt<|iv<|br 0 1 (rr 3)<|je 3 1 e)<|je 7 1 e)<|rr 2
def RR(e:Option Addr)(f g:Int)(h:ByteArray)(c:World)(K:Bool->WP):Prop:=∀b a,af c ar c b a->cl 48 #[(vp e),(.agg #[(vi f),(vu g),(vs h)]),(.func (.func 51) #[] #[])] a (XB fun r1 d=>aj b a d/\K (r1 !=0) d)
def Z8(f1 aA aB aC w0 K)(h:RR f1 aA aB aC w0 K):
  cl 13 #[(vp f1),(.agg #[(vi aA),(vu aB),(vs aC)])] w0<|XC K:=
 du func13 h<|nh 0<|iu 2 0 [] 3<|ah<|dw 0 call48<|rr 2
def Ml(c:Option Addr)(n:Sl)(f:World)(K:ByteArray->Int->Int->WP):Prop:=Br (Option.isNone c) (K ⟨#[]⟩ 7 0 f)<|∃g:WP,g f.drew/\∀b,b=f.drew->∃a1,c=some a1/\lp b (a1.add 1) fun m=>∃a2,c=some a2/\lp b a2 fun k=>cl 52 #[(vp m),(vp k),n.v] b fun e a=>∃r1 r2 r3,e=.returned (.tuple #[(vi r1),(vi r2),(vi r3)])/\g a/\aj ar b a/\Br (r2 !=0) (K ⟨#[]⟩ r2 r3 a) (∃a3,c=some a3/\lp a (a3.add 1) fun i=>cl 53 #[(vp i),(vi r1)] a<|XM fun j l d=>aj ar a d/\∃h,(convert 59 9 j.v).run prog d=.ok (vs h) d/\K h l 0 d)
def jah(f1 l1 w0 K)(h:Ml f1 l1 w0 K):
  cl 14 #[(vp f1),l1.v] w0<|XU K:=
 du func14 h<|br 0 5 (rr 4)<|dC 1 [11] []<|nc 1<|sV 2<|nc 1<|sV 2<|Ma 1 call52<|br 0 9 (rr 6)<|nc 2<|ld 2<|im 1 call53<|xe<|rn 6<|rr 4
def LV(c:Option Addr)(a:Int)(d:World)(K:Bool->WP):Prop:=∃a1,c=some a1/\lp d (a1.add 1) fun g=>cl 127 #[(vp g),(.agg #[(vi 6),(vi a),(vi 0),(vu 0),ve,(vi 0),(vi 0)])] d fun e b=>∃r1 r2,e=.returned (.tuple #[(vi r1),(vb r2)])/\Br r2 (∃a2,c=some a2/\lp b a2 fun f=>cl 128 #[(vp f),(vi r1)] b<|XC K) (K false b)
def jai(f1 who1 w0 K)(h:LV f1 who1 w0 K):
  cl 67 #[(vp f1),(vi who1)] w0<|XC K:=
 cy func67 h<|nc 2<|ld 2<|lv 2 call127<|br 1 7 (nc 1<|ld 2<|gd 1 call128<|rr 2)<|rr 9
def YH(g:Option Addr)(a:Int)(d:World)(K:Bool->WP):Prop:=Br ((!(Option.isNone g))&&((a==0) ||(a==1))) (∀c b,af d ar d c b->cl 67 #[(vp g),(vi a)] b fun e f=>∃r1,e=.returned (vb r1)/\aj c b f/\Br r1 (K true f) (cl 67 #[(vp g),(vi 2)] f<|XC fun r2 h=>aj c f h/\K r2 h)) (∀c b,af d ar d c b->K false b)
def jbS(f1 who1 w0 K)(h:YH f1 who1 w0 K):
  cl 21 #[(vp f1),(vi who1)] w0<|XC K:=
 du func21 h<|ct 4 3<|pj 0 0 [(!(Option.isNone f1))] [0,1] (fun b=>[(10,(vb<|(b 0)&&((who1==0) ||(who1==1))))]) (fun a=>pb 1 0 0 a (fun a=>cp 1 call66 (Ew who1)<|pe 1 0 a)<|fun a=>pe 3 0 a)<|br 1 1 (ah<|dw 2 call67<|br 1 1 (rr 5)<|dw 1 call67<|rr 3)<|ah<|rr 9
def VU(o:Option Addr)(r1:Option Addr)(r2:Sl)(g:Int)(a:NP)(b:World)(d:Int->NP->WP)(K:(Option Addr)->WP):Prop:=Br (decide (g<(r2.len:Int))) (∃a4:Addr,At r2 g 1 a4/\li b a4 fun p=>∃j:WP,j b.drew/\∀f,f=b.drew->∃a5,r1=some a5/\lp f (a5.add 1) fun m=>∃l,o=some l/\lp f (l.add 1) fun n=>cl 69 #[(vp m),(vp n),(vi p)] f fun e c=>∃r3 k,e=.returned (.tuple #[(vi r3),(vi k)])/\j c/\aj a f c/\Br (k==0) (∃i,r1=some i/\lp c i fun q=>cl 70 #[(vp q),(vi r3)] c<|XB fun r h=>aj a c h/\d (q6.wrap<|g+1) a h) (d (q6.wrap<|g+1) a c)) (K r1 b)
def GJ(h:Option Addr)(k:World)(K:(Option Addr)->WP):Prop:=Br (Option.isNone h) (K none k)<|cl 9 #[] k fun e i=>∃r1,e=.returned (vp r1)/\aj ar k i/\∃a1,h=some a1/\∃c f,Row i (a1.add 2) [(vb c),(vb f)]/\∃a2,r1=some a2/\(∀j,j<2->zL i ((a2.add 2).add j))/\¬ar (a2.add 2).block/\∀l,l=bd i (a2.add 2) [(vb c),(vb f)]->∃a3,h=some a3/\lp l a3 fun q=>cl 68 #[(vp q)] l<|XA fun r2 o=>aj ar l o/\∃(n:Int->NP->WP) (g:Int->World->Nat),n 0 ar o/\∀(m:Int) (b:NP) (a:World),af k b a b a->n m b a->VU h r1 r2 m b a (fun d p w'=>n d p w'/\g d w'<g m a) K
def TX(f1 w0 K)(h:GJ f1 w0 K):
  cl 22 #[(vp f1)] w0<|XD K:=
 du func22 h<|br 0 3 (rr 2)<|dw 1 call9<|nc 3<|dt<|lr 1<|nc 0<|wP 1<|nc 1<|ld 2<|dw 0 call68<|uw 2 [0,3,23,24] (fun b=>[(25,(vi b))])<|fun {_ _ b}=>fun a=>br 0 1 (ix 1<|ld 0<|dC 1 [11] []<|nc 1<|sV 2<|nc 1<|sV 2<|Ax 1 call69<|br 0 7 (nc 2<|ld 2<|dw 1 call70<|je 2 0 a)<|je 3 0 a)<|rr 3
def Kq(b:Option Addr)(a:ByteArray)(c:World)(K:Bool->WP):Prop:=Br (Option.isNone b) (K false c)<|∃a1,b=some a1/\lp c (a1.add 1) fun j=>∃f:Sl,∃g:World,(convert 9 59<|vs a).run prog c=.ok f.v g/\cl 71 #[(vp j),f.v] g fun e d=>∃r1 r2 r3,e=.returned (.tuple #[(vi r1),(vi r2),(vi r3)])/\Br (r2 !=0) (K false d) (∃a2,b=some a2/\lp d a2 fun h=>cl 70 #[(vp h),(vi r1)] d<|XB fun k i=>K true i)
def SG(f1 body1 w0 K)(h:Kq f1 body1 w0 K):
  cl 23 #[(vp f1),(vs body1)] w0<|XC K:=
 cy func23 h<|br 0 3 (rr 2)<|nc 2<|ld 2<|dt<|ef 1<|eo<|BR 0 call71<|br 0 9 (rr 2)<|nc 2<|ld 2<|gd 1 call70<|rr 1
def Vz(y:Option Addr)(r1 a:Sl)(j:Int)(u:World)(b:NP)(c:World)(f:Sl->Int->NP->WP)(K:Sl->WP):Prop:=Br (decide (j<(r1.len:Int))) (∃a2:Addr,At r1 j 1 a2/\li c a2 fun A=>∃a3,y=some a3/\lp c (a3.add 1) fun z=>cl 73 #[(vp z),(vi A)] c fun e p=>∃x r w s t r2,e=.returned (.tuple #[(Ag x r w s t),(vb r2)])/\aj b c p/\Br r2 (∀d i,af u b p d i->∀q n,av i (.cells #[(vi x),(vi r),(vu w),(vs s),(vb t)] 35) q n->∃s1:Sl,∃m:World,(Builtin.append_ #[64,64] 64 #[a.v,(Sl.mk (some q) 1 1).v]).run prog n=.ok s1.v m/\aj d n m/\f s1 (q6.wrap<|j+1) d m) (∀d i,af u b p d i->f a (q6.wrap<|j+1) d i)) (∀g k,av c (.cells #[(.nilFunc:Value)] 134) g k->zL k g/\¬b g.block/\∀l,l=k.setCell g (.func (.func 74) #[] #[])->cl 75 #[a.v,(.func (.func 76) #[] #[(vp<|some g)])] l fun e o=>e=.returned (.tuple #[])/\aj b l o/\cl 81 #[a.v] o (XA fun r3 h=>aj b o h/\K r3 h))
def H8(h:Option Addr)(d:World)(K:Sl->WP):Prop:=Br (Option.isNone h) (K Sl.nil d)<|∃a1,h=some a1/\lp d a1 fun m=>cl 72 #[(vp m)] d<|XA fun r1 k=>aj ar d k/\∃(j:Sl->Int->NP->WP) (g:Sl->Int->World->Nat),j Sl.nil 0 ar k/\∀(a:Sl) (i:Int) (c:NP) (b:World),af d c b c b->j a i c b->Vz h r1 a i d c b (fun f e l w'=>j f e l w'/\g f e w'<g a i b) K
def Vq(f1 w0 K)(h:H8 f1 w0 K):
  cl 24 #[(vp f1)] w0<|XA K:=
 du func24 h<|br 0 3 (rr 2)<|nc 3<|ld 2<|dw 0 call72<|vh 2 [0,16,17] (fun a c=>[(3,(Sl.v a)),(18,(vi c))])<|fun {_ _ a c}=>fun b=>br 0 1 (ix 1<|ld 0<|nc 2<|ld 2<|po 1 call73<|nh 3<|sg 0 0 []<|br 0 2 (iu 2 0 [] 5<|ah<|ot 0<|dt<|ef 0<|iv<|je 3 1 b)<|ah<|je 3 1 b)<|ot 1<|ow 0<|ri 2 call75<|dw 1 call81<|rr 1
def jal(l w:Int)(r1 a:Sl)(m:Int)(q:World)(c:NP)(b:World)(j:Sl->Int->NP->WP)(K:Sl->WP):Prop:=Br (decide (m<(r1.len:Int))) (∃a1:Addr,At r1 m 5 a1/\∃n s p t u,Row b a1 (Ae n s p t u)/\∀r:Bool,r=((p==w)&&((n==6) ||((n==2)&&(s==l))))->Br r (∀h i,af q c b h i->∀o f,av i (.cells #[(vs t)] 9) o f->∃s1:Sl,∃d:World,(Builtin.append_ #[79,79] 79 #[a.v,(Sl.mk (some o) 1 1).v]).run prog f=.ok s1.v d/\aj h f d/\j s1 (q6.wrap<|m+1) h d) (∀h i,af q c b h i->j a (q6.wrap<|m+1) h i))<|cl 88 #[a.v] b fun e g=>e=.returned (.tuple #[])/\aj c b g/\cl 89 #[a.v] g (XA fun r2 k=>aj c g k/\K r2 k)
def IN(m:Option Addr)(a n:Int)(f:World)(K:Sl->WP):Prop:=Br (!((a==0) ||(a==1))) (∀e,af f ar f ar e->K Sl.nil e)<|∀e,af f ar f ar e->cl 24 #[(vp m)] e (XA fun r1 l=>aj ar e l/\∃(k:Sl->Int->NP->WP) (i:Sl->Int->World->Nat),k Sl.nil 0 ar l/\∀(b:Sl) (j:Int) (d:NP) (c:World),af f d c d c->k b j d c->jal a n r1 b j f d c (fun h g o w'=>k h g o w'/\i h g w'<i b j c) K)
def jbQ(f1 who1 c1 w0 K)(h:IN f1 who1 c1 w0 K):
  cl 26 #[(vp f1),(vi who1),(vu c1)] w0<|XA K:=
 du func26 h<|cp 2 call66 (Ew who1)<|br 0 1 (an<|rr 2)<|an<|dw 3 call24<|vh 2 [1,2,14,15] (fun a i=>[(7,(Sl.v a)),(16,(vi i))])<|fun {_ _ a i}=>fun j=>br 0 1 (ix 1<|gv<|fun {c g k}=>lr 0<|nh 0<|sg 0 0 []<|pj 0 0 [(k==c1)] [1,2,7,9,14,15,16] (fun b=>[(39,(vb<|(b 0)&&((c==6) ||((c==2)&&(g==who1)))))]) (fun f=>lh 1 0 [2]<|pb 1 3 0 f (fun f=>lh 1 0 []<|ct 2 10<|pj 0 0 [(c==6)] [1,2,7,9,14,15,16,24] (fun b=>[(38,(vb<|(b 0) ||((c==2)&&(g==who1))))]) (fun d=>pb 1 0 0 d (fun d=>pe 10 0 d)<|fun d=>lh 1 0 []<|ct 2 5<|pj 0 0 [(c==2)] [1,2,7,9,14,15,16,24,28] (fun b=>[(37,(vb<|(b 0)&&(g==who1)))]) (fun e=>pb 1 0 0 e (fun e=>lh 1 0 [1]<|pe 3 0 e)<|fun e=>pe 5 0 e)<|pe 1 0 d)<|pe 1 0 f)<|fun f=>pe 15 0 f)<|yy<|br 0 0 (lh 3 0 [3]<|ah<|ot 0<|dt<|ef 0<|iv<|je 3 1 j)<|ah<|je 3 1 j)<|ri 2 call88<|dw 1 call89<|rr 1
def jbA(f:Option Addr)(a:Int)(c:World)(K:Int->WP):Prop:=Br (Option.isNone f) (K 7 c)<|Br (!((a==0) ||(a==1))) (∀b,af c ar c ar b->K 2 b)<|∃a1,f=some a1/\∀b,af c ar c ar b->lp b (a1.add 1) fun j=>cl 99 #[(vp j),(vi a)] b fun e d=>∃r1 r2,e=.returned (.tuple #[(vi r1),(vi r2)])/\aj ar b d/\Br (r2 !=0) (K r2 d) (∃a2,f=some a2/\lp d a2 fun i=>cl 70 #[(vp i),(vi r1)] d<|XB fun r3 g=>aj ar d g/\∃a3,f=some a3/\∃a4:Addr,DJ (a3.add 2) a 2 1 a4/\zL g a4/\¬ar a4.block/\∀h,h=g.setCell a4 (vb true)->K 0 h)
def Zy(f1 who1 w0 K)(h:jbA f1 who1 w0 K):
  cl 41 #[(vp f1),(vi who1)] w0<|XB K:=
 du func41 h<|br 0 4 (rr 2)<|cp 2 call66 (Ew who1)<|br 0 2 (an<|rr 2)<|nc 2<|an<|ld 2<|im 1 call99<|br 0 7 (rr 3)<|nc 2<|ld 2<|dw 1 call70<|nc 2<|OB 1<|ow 0<|rr 1
def jap(a:Int):Bool:=true
def jct(c:Int)(a:World):cl 51 #[(.int .i64 c)] a (fun e w'=>e=.returned (.bool<|jap c)/\Pure a w'):=
 jr func51 [] (fun b=>(vb true)) fun d=>fe 2 d
def Ul(d c e:Int)(b:ByteArray)(a:Bool):Int:=(cond a 1 0)
def N2(h f i:Int)(d:ByteArray)(c:Bool)(g:World):cl 74 #[(.agg #[(.int .i64 h),(.int .i64 f),(.int .u64 i),(.string d),(.bool c)])] g (fun e w'=>e=.returned (.int .i64<|Ul h f i d c)/\Pure g w'):=
 jr func74 [c] (fun b=>(vi<|cond (b 0) 1 0)) fun a=>nh 0<|lh 2 0 [4]<|pb 0 0 0 a (fun a=>fe 2 a)<|fun a=>fe 2 a
def Vg(C L A:Int)(B:ByteArray)(P:Bool)(x M I:Int)(H:ByteArray)(O:Bool)(d:Addr)(F:World)(K:Int->WP):Prop:=∀b u,af F ar F b u->∃a:WP,a u.drew/\∀t,t=u.drew->∃J:Value,(∀w',a w'->w'.cell? d=some J)/\∃G:Value,(∀w',a w'->w'.cell? d=some G)/\cl 78 #[(vi C),(vi x)] t fun e s=>∃r1,e=.returned (vi r1)/\a s/\aj b t s/\cl 78 #[(vi L),(vi M)] s fun e q=>∃r2,e=.returned (vi r2)/\a q/\aj b s q/\cl 79 #[(vu A),(vu I)] q fun e p=>∃r3,e=.returned (vi r3)/\a p/\aj b q p/\cl 80 #[(vs B),(vs H)] p fun e n=>∃y,e=.returned (vi y)/\a n/\aj b p n/\∃(l:FuncId) (j i:Array Value),J=.func (.func l) j i/\(∀args w,(callFunc l args).run prog w=.ok (.enter l args) w)/\Calls prog l (j++#[(.agg #[(vi C),(vi L),(vu A),(vs B),(vb P)])]++i) n fun e o=>∃z,e=.returned (vi z)/\a o/\aj b n o/\∃(m:FuncId) (h k:Array Value),G=.func (.func m) h k/\(∀args w,(callFunc m args).run prog w=.ok (.enter m args) w)/\Calls prog m (h++#[(.agg #[(vi x),(vi M),(vu I),(vs H),(vb O)])]++k) o fun e r=>∃N,e=.returned (vi N)/\a r/\aj b o r/\cl 78 #[(vi z),(vi N)] r fun e g=>∃E,e=.returned (vi E)/\a g/\aj b r g/\∀D c,av g (.cells #[(vi r1),(vi r2),(vi r3),(vi y),(vi E)] 3) D c->a c/\cl 77 #[(Sl.mk (some D) 5 5).v] c (XB fun Q f=>a f/\aj b c f/\K Q f)
def Zl(aI aJ aK aL aX aM aN aO aP aY cap1 w0 K)(h:Vg aI aJ aK aL aX aM aN aO aP aY cap1 w0 K):
  cl 76 #[(.agg #[(vi aI),(vi aJ),(vu aK),(vs aL),(vb aX)]),(.agg #[(vi aM),(vi aN),(vu aO),(vs aP),(vb aY)]),(vp<|some cap1)] w0<|XB K:=
 du func76 h<|nh 0<|nh 0<|ah<|dC 1 [4,9,14,19,22,25,26,27,28] []<|ju 1 1 []<|ju 1 0 []<|ju 1 1 [1]<|ju 1 0 [1]<|ju 1 1 [2]<|ju 1 0 [2]<|ju 1 1 [3]<|ju 1 0 [3]<|il 0<|uz 0 1 [] 5<|il 0<|uz 0 0 [] 5<|mg 0 call78<|mg 0 call78<|mg 0 call79<|mg 0 call80<|fo<|fun a=>cv 0 a<|xe<|rt<|sM<|fo<|fun b=>cv 0 b<|xe<|rt<|sM<|mg 0 call78<|wI 0<|mg 0 call77<|rr 1
end Go.Proofs
end
section
namespace Go.Proofs
def Qc{L M r u t}(a:al L u=true):tH (L++M) r u t↔tH L r u t:=by
 unfold tH;rw[JO a]
def ud.jf{L M G ba v}(h:ud L G ba v)(d:∀t∈zH ba,al L t=true):ud (L++M) G ba v:=by
 rcases h with h|⟨a,b,c⟩;exact .inl h;exact .inr ⟨a,(Qc<|d _ c).2 b,c⟩
def Yj{S i t}(h:t∈zH (S.take i)):t∈zH S:=by
 unfold zH at h|-;have⟨v,a,e⟩:=List.mem_map.1 h;exact List.mem_map.2 ⟨v,List.mem_of_mem_take a,e⟩
def rm.jf{L M G S}(h:rm L G S):rm (L++M) G S:=
 ⟨⟨h.oE,fun t ht=>uD<|h.iq t ht,fun i hi=>(h.tu i hi).jf fun t ht=>h.iq t<|Yj ht⟩,fun u a r t b=>h.sL u a r t<|(Qc<|h.iq u a).1 b,h.jy,h.Ez⟩
def wS{L G t}(h:al L t=true):pd L G t=jj G t:=by unfold pd;rw[if_pos h]
end Go.Proofs
end
section
open Go Go.SE List
namespace Go.Proofs
def Dq(L Lq t):∃M,(vH L Lq t).2.2=L++M:=by
 unfold vH;split;simp only;split;exact⟨[],(append_nil L).symm⟩;exact Fq _ _ L _;exact⟨[],(append_nil L).symm⟩
def D9(L bs):∃M,(yP L bs).2.2.2=L++M:=by
 unfold yP;split;exact⟨[],(append_nil L).symm⟩;exact Dq _ _ _
def qF(L:aw)(G:List Int)(bs:List UInt8):aw×List Int×Bool:=
 if(yP L bs).2.1≠0 then((yP L bs).2.2.2,G,false)else((yP L bs).2.2.2,pd (yP L bs).2.2.2 G (yP L bs).1,true)
def qM(ao:Int):Bool:=(ao==0) ||(ao==1)
def zS(L:aw)(G:List Int)(a b:Bool)(ao:Int):Int×aw×List Int×Bool×Bool:=
 if qM ao=false then(2,L,G,a,b)else
 if(ay L<|zX ao).2.1≠0 then((ay L<|zX ao).2.1,(ay L<|zX ao).2.2,G,a,b)else
 (0,(ay L<|zX ao).2.2,pd (ay L<|zX ao).2.2 G (ay L<|zX ao).1,a ||(ao==0),b ||(ao==1))
end Go.Proofs
namespace Go.SE
def jTY(s c i)(h:i<s.data.toList.length):(bytesRow s c)[i]?=some (.int .u8 ((s.data.toList[i]).toNat:Int)):=by
 unfold bytesRow;have a:i<s.data.size:=by simpa using h
 rw[Array.getElem?_append_left Gd,Array.getElem?_map,Array.getElem?_eq_getElem a,Option.map_some,Array.getElem_toList]
def Wp(b i):(⟨b,0,none⟩:Addr).add i=⟨b,i,none⟩:=by
 unfold Addr.add;split;rename_i h;subst h;rfl;simp
def KC{P src dst e}(hs:P.underlying src=some .string)(k:P.underlying dst=some (.slice e))(g:P.underlying e=some (.int .u8))(w x):
  ∃(s:Sl) (w':World),(convert src dst<|vs x).run P w=.ok s.v w'/\Pure w w'/\dr (·=w.heap.size) w' 1 s (dn x.data.toList)/\(s.a=none->s=Sl.nil):=by
 refine⟨⟨some ⟨w.heap.size,0,none⟩,x.size,grownCap w x.size 0 e⟩,_,run_bytes_of_string w src dst e x hs k g,?_,?_,fun h=>by cases h⟩
 exact⟨rfl,rfl,rfl,Nat.le_succ _,by rw[World.size_alloc];exact Nat.le_succ _,fun b l _=>(RowKit.Below.heap_alloc _ _ _ l)⟩
 have c:(w.drew.alloc<|.cells (bytesRow x<|grownCap w x.size 0 e) e ((bytesRow x<|grownCap w x.size 0 e).size,(bytesRow x<|grownCap w x.size 0 e).size+1)).heap[w.heap.size]?=some (.cells (bytesRow x<|grownCap w x.size 0 e) e ((bytesRow x<|grownCap w x.size 0 e).size,(bytesRow x<|grownCap w x.size 0 e).size+1)):=World.alloc_heap_new w.drew _
 refine⟨by rw[qC];rfl,fun i hi=>?_⟩
 have d:i<x.data.toList.length:=by simpa[dn]using hi
 have m:x.size=x.data.toList.length:=by rw[Array.length_toList];rfl
 refine⟨(⟨w.heap.size,0,none⟩:Addr).add<|i*1,⟨Om,by show(i:Int)<(x.size:Int);omega,_,rfl,Sm⟩,by rw[zC],?_⟩
 intro j f
 have:j=0:=by simp[dn]at f;exact f
 subst this
 simp only[dn,getElem_map,Nat.mul_one,Nat.add_zero,yO]
 rw[Wp]
 unfold World.cell?
 simp only[c]
 simpa using jTY x _ i d
end Go.SE
namespace Go.Proofs
open Tryz
attribute [local irreducible] Calls
structure rY(w:World)(f:Addr)(L:aw)(G:List Int)(a b:Bool)(k p:Addr)(S:List gy)(FK FP:NP):Prop where
 box:ai w f [vp<|some k,vp<|some p,vb a,vb b] 98
 fl:qI w k p G S FK
 bl:zD w p L FP
 wf:Wf L
 ok:rm L G S
 d:∀x,FK x->¬FP x
 dk:¬FK f.block
 dp:¬FP f.block
def ik(w:World)(f:Addr)(L:aw)(G:List Int)(a b:Bool)(F:NP):Prop:=∃k p S FK FP,rY w f L G a b k p S FK FP/\∀x,F x↔x=f.block\/FK x\/FP x
section
variable {w w':World} {f k p:Addr} {L:aw} {G:List Int} {a b:Bool} {S:List gy} {FK FP F:NP}
def rY.ext{X}(h:rY w f L G a b k p S FK FP)(E:ab X w w')(c:∀x,x=f.block\/FK x\/FP x->¬X x):rY w' f L G a b k p S FK FP:=
 ⟨h.box.ext E<|c _<|.inl rfl,h.fl.ext E Gd,h.bl.ext E Gd,h.wf,h.ok,h.d,h.dk,h.dp⟩
def ik.ext{X}(h:ik w f L G a b F)(E:ab X w w')(d:∀x,F x->¬X x):ik w' f L G a b F:=by
 have⟨k,p,S,FK,FP,h,c⟩:=h;exact⟨k,p,S,FK,FP,h.ext E Gd,c⟩
def ik.pure(h:ik w f L G a b F)(E:Pure w w'):ik w' f L G a b F:=h.ext E fun _ _ h=>h
def ik.lt(h:ik w f L G a b F){x}(c:F x):x<w.heap.size:=by
 have⟨k,p,S,FK,FP,h,d⟩:=h;rcases(d x).1 c with rfl|c|c;exact h.box.lt;exact h.fl.lt c;exact h.bl.lt c
def ik.wf(h:ik w f L G a b F):Wf L:=by have⟨k,p,S,FK,FP,h,c⟩:=h;exact h.wf
def ik.pX(h:ik w f L G a b F):G.Nodup/\∀t∈G,al L t=true:=by
 have⟨k,p,S,FK,FP,h,c⟩:=h;exact⟨h.ok.Ez,fun t ht=>h.ok.iq t<|h.ok.jy t ht⟩
def rY.qp{M FP'}(h:rY w f L G a b k p S FK FP)(i:zD w' p (L++M) FP')(j:Wf (L++M))(E:ab FP w w')(g:∀x,FP' x->FP x\/w.heap.size<=x):rY w' f (L++M) G a b k p S FK FP':=
 ⟨h.box.ext E h.dp,h.fl.ext E fun x c=>h.d x c,i,j,h.ok.jf,fun x c e=>(g x e).elim (h.d x c) fun l=>Oh<|h.fl.lt c,h.dk,fun c=>(g _ c).elim h.dp fun l=>Oh h.box.lt⟩
def rY.Gu{G' S' FK'}(h:rY w f L G a b k p S FK FP)(j:qI w' k p G' S' FK')(i:rm L G' S')(E:ab FK w w')(g:∀x,FK' x->FK x\/w.heap.size<=x):rY w' f L G' a b k p S' FK' FP:=
 ⟨h.box.ext E h.dk,j,h.bl.ext E fun x e c=>h.d x c e,h.wf,i,fun x e=>(g x e).elim (h.d x) fun l c=>Oh<|h.bl.lt c,fun e=>(g _ e).elim h.dk fun l=>Oh h.box.lt,h.dp⟩
end
def GB(w0):cl 9 #[] w0 (XD fun r w'=>∃f F,r=some f/\ik w' f [] [] false false F/\Pure w0 w'/\∀x,F x->w0.heap.size<=x):=by
 refine WT w0 (fun r w'=>∃f F,r=some f/\ik w' f [] [] false false F/\Pure w0 w'/\∀x,F x->w0.heap.size<=x) ?_;refine(MB w0).mono ?_;rintro _ n ⟨_,rfl,p,rfl,l,FP,b,t⟩;refine⟨_,rfl,?_⟩;refine(zBZ p n).mono ?_;rintro _ m ⟨_,rfl,k,FK,rfl,h,c,d⟩;refine⟨_,rfl,fun j o h3=>?_⟩;have e:Pure m o:=ab.ax h3;have q:=l.size;have s:=c.size;have u:=h3.cu;refine⟨j,fun x=>x=j.block\/FK x\/FP x,rfl,⟨k,p,[],FK,FP,⟨ai.fp h3,h.pure e,(b.pure c).pure e,Wf.nil,⟨⟨by simp[zH],by simp[zH],fun i hi=>by simp at hi⟩,by simp[zH],Sm,Sm⟩,fun x a g=>?_,fun a=>?_,fun a=>?_⟩,fun x=>Iff.rfl⟩,(l.trans c).trans e,?_⟩;have:=d x a;have:=b.lt g;omega;have:=h.lt a;omega;have:=b.lt a;omega;grind
def Do(f:Addr)(body:ByteArray)(e:World){L:aw}{G:List Int}{a b:Bool}{F:NP}(h:ik e f L G a b F):
  cl 23 #[vp<|some f,vs body] e<|XC fun r w'=>r=(qF L G body.data.toList).2.2/\∃F',ik w' f (qF L G body.data.toList).1 (qF L G body.data.toList).2.1 a b F'/\ab F e w'/\∀x,F' x->F x\/e.heap.size<=x:=by
 refine SG _ _ e _ ?_
 unfold Kq
 have⟨k,p,S,FK,FP,h,H⟩:=h
 refine Br.f rfl ⟨f,rfl,some p,h.box.cell rfl,?_⟩
 have⟨s,v,hr,n,hs,E⟩:=KC (P:=prog) (src:=9) (dst:=59) underlying9 underlying59 underlying5 e body
 refine⟨s,v,hr,?_⟩
 have h1:=h.ext n fun _ _ h=>h
 refine(Uo p s body.data.toList v h1.wf h1.bl hs E).mono ?_
 rintro _ B ⟨t,x,y,rfl,rfl,rfl,rfl,i,A,u,o⟩
 have⟨M,m⟩:=D9 L body.data.toList
 have z:=DU h.wf body.data.toList
 rw[m]at A z
 have h2:=h1.qp A z u o
 have g:ab F e B:=(ab.pure n).trans<|u.mono Gd
 have J:=n.size;have K:=u.size
 refine⟨_,_,_,rfl,fun c=>?_,fun c=>?_⟩
 have c:=bne_iff_ne.1 c
 unfold qF
 rw[if_pos c,m]
 refine⟨rfl,_,⟨k,p,S,FK,i,h2,fun _=>Iff.rfl⟩,g,?_⟩
 rintro x (rfl|l|l)
 grind
 grind
 grind
 have c:(yP L body.data.toList).2.1=0:=by simpa using c
 refine⟨f,rfl,some k,h2.box.bf,?_⟩
 refine(G4 k p (yP L body.data.toList).1 B h2.fl h2.bl h2.wf h2.d h2.ok).mono ?_
 rintro _ O ⟨N,rfl,_,I,j,D,C,w,q⟩
 refine⟨_,rfl,?_⟩
 have h3:=h2.Gu D C w q
 unfold qF
 rw[if_neg<|by simpa using c,m]
 refine⟨rfl,_,⟨k,p,I,j,i,h3,fun _=>Iff.rfl⟩,g.trans<|w.mono Gd,?_⟩
 rintro x (rfl|l|l)
 exact .inl<|(H _).2<|.inl rfl
 grind
 grind
def FV(f ao w0){L G a b F}(h:ik w0 f L G a b F):
  cl 41 #[vp<|some f,vi ao] w0<|XB fun r w'=>r=(zS L G a b ao).1/\∃F',ik w' f (zS L G a b ao).2.1 (zS L G a b ao).2.2.1 (zS L G a b ao).2.2.2.1 (zS L G a b ao).2.2.2.2 F'/\ab F w0 w'/\∀x,F' x->F x\/w0.heap.size<=x:=by
 refine Zy _ _ w0 _ ?_
 refine Br.f rfl ⟨fun g=>?_,fun g=>?_⟩
 .intro N hs
  have e:zS L G a b ao=(2,L,G,a,b):=by
   unfold zS qM;rw[if_pos<|by simpa using g]
  rw[e]
  exact⟨rfl,F,h.pure hs.first,ab.pure hs.first,fun x c=>.inl c⟩
 have o:qM ao=true:=by unfold qM;simpa only[Bool.not_eq_eq_eq_not,Bool.not_false]using g
 have hw:ao=0\/ao=1:=by unfold qM at o;simpa using o
 refine⟨f,rfl,fun N hs=>?_⟩
 have u:=hs.first
 have⟨k,p,S,FK,FP,h,V⟩:=h
 have h1:=h.ext u fun _ _ h=>h
 refine⟨some p,h1.box.cell rfl,?_⟩
 refine(jcV p N h1.bl h1.wf.ok ao).mono ?_
 rintro _ R ⟨r1,r2,rfl,J,l,H,q,A⟩
 have U:(⟨6,ao,0,0,⟨#[]⟩,0,0⟩:di)=zX ao:=rfl
 rw[U]at J H
 have⟨W,C⟩:=Prod.mk.inj J
 have⟨M,t⟩:=yU L<|zX ao
 have Q:=uT h.wf<|zX ao
 rw[t]at H Q
 have h2:=h1.qp H Q q A
 have m:ab F w0 R:=(ab.pure u).trans<|q.mono Gd
 have X:=u.size;have Y:=q.size
 refine⟨_,_,rfl,q.bk fun _ h=>h.elim,fun g=>?_,fun g=>?_⟩
 .have g:=bne_iff_ne.1 g
  unfold zS
  rw[if_neg<|by simp[o],if_pos (by rw[<-C];exact g),t]
  refine⟨C,_,⟨k,p,S,FK,l,h2,fun _=>Iff.rfl⟩,m,?_⟩
  rintro x (rfl|c|c)
  .grind
  .grind
  .grind
 .have z:r2=0:=by simpa using g
  refine⟨f,rfl,some k,h2.box.bf,?_⟩
  refine(G4 k p r1 R h2.fl h2.bl h2.wf h2.d h2.ok).mono ?_
  rintro _ n ⟨Z,rfl,_,P,j,K,T,y,B⟩
  refine⟨_,rfl,y.bk fun _ h=>h.elim,?_⟩
  have h3:=h2.Gu K T y B
  have D:∃i:Nat,ao=(i:Int)/\i<2:=⟨ao.toNat,Om,Om⟩
  obtain⟨i,rfl,hi⟩:=D
  refine⟨f,rfl,(f.add 2).add i,⟨Om,Om,Sm⟩,?_⟩
  rw[yO]
  refine⟨h3.box.eh So,id,?_⟩
  rintro _ rfl
  have O:=h3.box.set (2+i)<|vb true
  have s:ab (·=f.block) n (n.setCell (f.add<|2+i)<|vb true):=by
   have:=ab.setCell (w:=n) (f.add<|2+i)<|vb true;rw[zC]at this;exact this.mono fun x _ c=>c.symm▸rfl
  unfold zS
  rw[if_neg<|by simp[o],if_neg (by rw[<-C];simpa using z),t,<-W]
  have E:qI (n.setCell (f.add<|2+i)<|vb true) k p (pd (L++M) G r1) P j:=K.ext s fun x c e=>h3.dk<|e▸c
  have I:=h3.bl.ext s fun x c e=>h3.dp<|e▸c
  have v:ai (n.setCell (f.add<|2+i)<|vb true) f [vp<|some k,vp<|some p,vb<|a ||((i:Int)==0),vb<|b ||((i:Int)==1)] 98:=by
   rcases(show i=0\/i=1 by omega)with rfl|rfl
   .simpa using O
   .simpa using O
  refine⟨rfl,fun x=>x=f.block\/j x\/l x,⟨k,p,P,j,l,⟨v,E,I,h3.wf,h3.ok,h3.d,h3.dk,h3.dp⟩,fun _=>Iff.rfl⟩,(m.trans<|y.mono Gd).trans<|s.mono Gd,?_⟩
  rintro x (rfl|c|c)
  .exact .inl<|(V _).2<|.inl rfl
  .grind
  .grind
end Go.Proofs
end
section
namespace Go.Proofs
def vM(k:Int):Bool:=(k==1 ||k==2) ||k==4
def qK(k:Int):Bool:=vM k ||k==6
def vR(l:dy):Int:=
 if l.kind<1\/l.kind>7\/(l.az≠0/\l.az≠1)\/(vM l.kind=false/\l.az≠0)\/(qK l.kind=false/\l.bb≠⟨#[]⟩)\/(l.dz=true/\l.kind≠1/\l.kind≠4)then 110 else if l.bb.size>64 then 1 else 0
end Go.Proofs
end
section
open Go Go.SE List
open Go.IntKind renaming i64 -> q6
namespace Go.Proofs
open Tryz
set_option maxRecDepth 100000
set_option maxHeartbeats 4000000
attribute [local irreducible] bu fw fg dv Calls
attribute [local irreducible] jq W WV WR uC pv ku jn oe ka mm kq ll np my iy ez ij nn kz kp uS xD yC bn ub
def jcs(e:World)(K:(Array Value)->WP):Prop:=∀a c,av e (.cells #[(vb false),(vb false),(vb false),ve,(vb false),(vb false),(vb false),ve,(vb false),(vb false),(vb false),ve,(vb false),(vb false),(vb false),ve,(vb false),(vb false),(vb false),ve,(vb false),(vb false),(vb false),ve,(vb false),(vb false),(vb false),ve,(vb false),(vb false),(vb false),ve] 300) a c->(∀j,j<32->zL c (a.add j))/\∀d,d=bd c a [(vb false),(vb false),(vb false),ve,(vb true),(vb true),(vb true),(vs (⟨#[112,114,111,109,105,115,101]⟩:ByteArray)),(vb true),(vb true),(vb false),(vs (⟨#[115,105,103,110]⟩:ByteArray)),(vb false),(vb false),(vb false),(vs (⟨#[97,98,111,114,116]⟩:ByteArray)),(vb true),(vb true),(vb true),(vs (⟨#[114,101,115,111,108,118,101]⟩:ByteArray)),(vb false),(vb false),(vb false),(vs (⟨#[116,111,107,101,110]⟩:ByteArray)),(vb false),(vb true),(vb false),(vs (⟨#[105,110,115,116,101,97,100]⟩:ByteArray)),(vb false),(vb false),(vb false),(vs (⟨#[102,117,108,108]⟩:ByteArray))]->∃b:Array Value,(b.size=32/\Row d a b.toList)/\K b d
def Ur(a:World)(K:(Array Value)->WP)(h:jcs  a K):
  cl 216 #[] a<|fun e w'=>∃r1:Array Value,e=.returned (.agg r1)/\K r1 w':=
 cy func216 h<|cf 0<|dh 8<|dx 0<|xe<|Me<|ee
def PD(e:ByteArray)(f:Bool)(a1:Addr)(d:Bool)(c:World)(H:NP)(w:World)(K:Int->WP):Prop:=Br d (K 110 w)<|lb w (a1.add 2) fun g=>Br ((!g)&&f) (∀b a,af c H w b a->K 110 a)<|Br (decide ((e.size:Int)>64)) (∀b a,af c H w b a->K 1 a)<|∀b a,af c H w b a->K 0 a
def LI(a:ByteArray)(f:Bool)(a1:Addr)(e:Bool)(b:World)(H:NP)(w:World)(K:Int->WP):Prop:=Br e (K 110 w)<|lb w (a1.add 1) fun g=>∀d c,af b H w d c->PD a f a1 ((!g)&&(!(decide (a=⟨#[]⟩)))) b d c K
def AR(d:Int)(h:ByteArray)(i:Bool)(a1:Addr)(c:World)(H:NP)(w:World)(K:Int->WP):Prop:=Br ((d !=0)&&(d !=1)) (∀b a,af c H w b a->K 110 a)<|∀b a,af c H w b a->lb a a1 fun g=>∀e f,af c b a e f->LI h i a1 ((!g)&&(d !=0)) c e f K
def m_W(w z B:Int)(y:ByteArray)(A:Bool)(q:World)(K:Int->WP):Prop:=Br ((decide (w<1)) ||(decide (w>7))) (∀l r,af q ar q l r->K 110 r)<|∀l r,af q ar q l r->∃o:WP,o r.drew/\∀x,x=r.drew->(cl 216 #[] x fun e p=>∃r1:Array Value,e=.returned (.agg r1)/\o p/\aj l x p/\∃a i c d,(∀w',o w'->(Instr.index 300 (.agg r1)<|vi w).run prog w'=.ok (.agg #[(vb a),(vb i),(vb c),(vs d)]) w')/\∀s m,av p (.cells #[(vb false),(vb false),(vb false),ve] 299) s m->o m/\(∀j,j<4->zL m (s.add j))/\¬l s.block/\∀v,v=bd m s [(vb a),(vb i),(vb c),(vs d)]->AR z y A s q l v K)/\(∀t n,av x (.cells #[(vb false),(vb false),(vb false),ve] 299) t n->o n/\cl 216 #[] n fun e k=>∃r2:Array Value,e=.returned (.agg r2)/\o k/\aj l n k/\∃b g h f,(∀w',o w'->(Instr.index 300 (.agg r2)<|vi w).run prog w'=.ok (.agg #[(vb b),(vb g),(vb h),(vs f)]) w')/\(∀j,j<4->zL k (t.add j))/\¬l t.block/\∀u,u=bd k t [(vb b),(vb g),(vb h),(vs f)]->AR z y A t q l u K)
def w_W(aC aA aK aD aB w0 K)(h:m_W aC aA aK aD aB w0 K):
  cl 158 #[(.agg #[(vi aC),(vi aA),(vu aK),(vs aD),(vb aB)])] w0<|XB K:=
 du func158 h<|nh 0<|pj 1 0 [(decide (aC<1))] [1] (fun b=>[(11,(vb<|(b 0) ||(decide (aC>7))))]) (fun e=>lh 1 0 []<|pb 1 2 0 e (fun e=>pe 4 0 e)<|fun e=>lh 1 0 []<|pe 2 0 e)<|br 0 0 (ah<|rr 2)<|ke 1 0 [1] (fun a1=>[(3,(vp<|some a1))]) (fun a1 H w=>AR _ _ _ a1 _ H w _) (fun j=>ah<|dC 0 [0,4,5] [5]<|ju 1 0 []<|uu 0 (mg 0 call216<|HZ<|Ib 0<|wI 0<|wP 0<|je 0 0 j)<|wI 0<|mg 0 call216<|HZ<|Ib 0<|wP 0<|je 0 0 j)<|fun {a1}=>pj 0 0 [] [1,3] (fun b=>[(16,(vb<|(aA !=0)&&(aA !=1)))]) (fun k=>lh 1 0 [1]<|ct 2 4<|pj 0 0 [(aA !=0)] [1,3] (fun b=>[(24,(vb<|(b 0)&&(aA !=1)))]) (fun f=>pb 1 0 0 f (fun f=>lh 1 0 [1]<|pe 2 0 f)<|fun f=>pe 4 0 f)<|pe 1 0 k)<|br 0 0 (ah<|rr 3)<|ke 1 0 [1,3] (fun i=>[(16,(vb i))]) (fun i H w=>LI _ _ _ i _ H w _) (fun m=>ah<|ld 1<|fun {l}=>ct 2 4<|pj 0 0 [(!l)] [1,3] (fun b=>[(32,(vb<|(b 0)&&(aA !=0)))]) (fun a=>pb 1 0 0 a (fun a=>lh 1 0 [1]<|pe 2 0 a)<|fun a=>pe 4 0 a)<|ah<|je 1 0 m)<|fun {i}=>br 0 0 (rr 3)<|ke 1 0 [1,3] (fun g=>[(16,(vb g))]) (fun g H w=>PD _ _ _ g _ H w _) (fun p=>ld 1<|fun {o}=>ct 2 4<|pj 0 0 [(!o)] [1,3] (fun b=>[(40,(vb<|(b 0)&&(!(decide (aD=⟨#[]⟩)))))]) (fun d=>pb 1 0 0 d (fun d=>lh 1 0 [3]<|pe 2 0 d)<|fun d=>pe 4 0 d)<|ah<|je 1 0 p)<|fun {g}=>br 0 0 (rr 3)<|ld 2<|fun {n}=>ct 2 3<|pj 0 0 [(!n)] [1] (fun b=>[(47,(vb<|(b 0)&&aB))]) (fun c=>pb 1 0 0 c (fun c=>lh 1 0 [4]<|pe 1 0 c)<|fun c=>pe 3 0 c)<|br 0 1 (ah<|rr 2)<|lh 2 0 [3]<|br 0 3 (ah<|rr 2)<|ah<|rr 2
def zf(s1:ByteArray):Int×Int×Int×Int×ByteArray×Sl:=(3,0,0,0,s1,Sl.nil)
def xd(s1:ByteArray)(a:World):cl 221 #[(.string s1)] a (fun e w'=>e=.returned (.agg #[(.int .i64 (zf s1).1),(.int .i64 (zf s1).2.1),(.int .i64 (zf s1).2.2.1),(.int .u64 (zf s1).2.2.2.1),(.string (zf s1).2.2.2.2.1),(zf s1).2.2.2.2.2.v])/\Pure a w'):=
 jr func221 [] (fun b=>(.agg #[(vi 3),(vi 0),(vi 0),(vu 0),(vs s1),Sl.nil.v])) fun c=>nh 0<|sg 2 0 []<|dx 0<|pw 0 [] 6<|I4 c
def zq(n1:Int):Int×Int×Int×Int×ByteArray×Sl:=(2,0,0,n1,⟨#[]⟩,Sl.nil)
def CD(n1:Int)(a:World):cl 222 #[(.int .u64 n1)] a (fun e w'=>e=.returned (.agg #[(.int .i64 (zq n1).1),(.int .i64 (zq n1).2.1),(.int .i64 (zq n1).2.2.1),(.int .u64 (zq n1).2.2.2.1),(.string (zq n1).2.2.2.2.1),(zq n1).2.2.2.2.2.v])/\Pure a w'):=
 jr func222 [] (fun b=>(.agg #[(vi 2),(vi 0),(vi 0),(vu n1),ve,Sl.nil.v])) fun c=>nh 0<|sg 2 0 []<|dx 0<|pw 0 [] 6<|I4 c
def jaE(g h:Int)(n q:Int)(o:ByteArray)(i:Sl)(l r:Int)(p j:Int)(m:ByteArray)(k:Sl)(b:World)(K:Int->Int->Int->Int->ByteArray->Sl->WP):Prop:=∀a e,af b ar b a e->∀f c,av e (.cells #[(vi g),(vi h),(vi n),(vu q),(vs o),i.v,(vi l),(vi r),(vi p),(vu j),(vs m),k.v] 71) f c->∀d,af b a c a d->K 4 0 0 0 ⟨#[]⟩ (Sl.mk (some f) 2 2) d
def Xz(aL aM aN aO aP aQ bD bE bF bG bH bI w0 K)(h:jaE aL aM aN aO aP aQ bD bE bF bG bH bI w0 K):
  cl 220 #[(.agg #[(vi aL),(vi aM),(vi aN),(vu aO),(vs aP),aQ.v]),(.agg #[(vi bD),(vi bE),(vi bF),(vu bG),(vs bH),bI.v])] w0<|fun e w'=>∃b f g d c a,e=.returned (Aa b f g d c a)/\K b f g d c a w':=
 du func220 h<|nh 0<|nh 0<|nh 0<|iu 0 2 [] 6<|iu 0 1 [] 6<|ah<|ot 0<|sg 1 0 []<|an<|dx 0<|pw 0 [] 6<|ee
def jar(u:Int)(a:ByteArray)(c:World)(K:Int->Int->Int->Int->ByteArray->Sl->WP):Prop:=∀b f,af c ar c b f->cl 220 #[(.agg #[(vi 2),(vi 0),(vi 0),(vu u),ve,Sl.nil.v]),(.agg #[(vi 3),(vi 0),(vi 0),(vu 0),(vs a),Sl.nil.v])] f fun e d=>∃r m t s l p,e=.returned (Aa r m t s l p)/\aj b f d/\cl 220 #[(.agg #[(vi 3),(vi 0),(vi 0),(vu 0),(vs (⟨#[100,101,97,108]⟩:ByteArray)),Sl.nil.v]),(.agg #[(vi r),(vi m),(vi t),(vu s),(vs l),p.v])] d fun e i=>∃j q o n g k,e=.returned (Aa j q o n g k)/\aj b d i/\∀h,af c b i b h->K j q o n g k h
def jaW(c1 text1 w0 K)(h:jar c1 text1 w0 K):
  cl 217 #[(vu c1),(vs text1)] w0<|fun e w'=>∃f a d c g b,e=.returned (Aa f a d c g b)/\K f a d c g b w':=
 du func217 h<|nh 0<|cp 0 call221 (xd (⟨#[100,101,97,108]⟩:ByteArray))<|cp 1 call222 (CD c1)<|cp 1 call221 (xd text1)<|ah<|po 0 call220<|po 0 call220<|sg 0 0 []<|an<|dx 0<|pw 0 [] 6<|ee
def YP(a:Int)(b:Bool)(k bK:Int)(l m:Int)(j:ByteArray)(i:Sl)(d:World)(K:Int->Int->Int->Int->ByteArray->Sl->WP):Prop:=∀c h,af d ar d c h->∀e g,av h (.cells #[(vi k),(vi bK),(vi l),(vu m),(vs j),i.v] 71) e g->∀f,af d c g c f->K (cond b 9 8) a (q6.wrap<|1-a) 0 ⟨#[]⟩ (Sl.mk (some e) 1 1) f
def Ra(from1 fake1 bJ bK bL bM bN bO w0 K)(h:YP from1 fake1 bJ bK bL bM bN bO w0 K):
  cl 218 #[(vi from1),(vb fake1),(.agg #[(vi bJ),(vi bK),(vi bL),(vu bM),(vs bN),bO.v])] w0<|fun e w'=>∃d i j g f c,e=.returned (Aa d i j g f c)/\K d i j g f c w':=
 du func218 h<|nh 0<|nh 0<|pj 2 0 [fake1] [0,5,6] (fun b=>[(7,(vi<|cond (b 0) 9 8))]) (fun a=>pb 0 0 0 a (fun a=>pe 2 0 a)<|fun a=>pe 1 0 a)<|iu 4 1 [] 6<|ah<|ot 0<|sg 1 0 []<|an<|dx 0<|pw 0 [] 6<|ee
def Si(a h:Int)(i k m:Int)(l:ByteArray)(j:Sl)(b:World)(K:Int->Int->Int->Int->ByteArray->Sl->WP):Prop:=∀c g,af b ar b c g->∀d f,av g (.cells #[(vi h),(vi i),(vi k),(vu m),(vs l),j.v] 71) d f->∀e,af b c f c e->K 7 a 0 0 ⟨#[]⟩ (Sl.mk (some d) 1 1) e
def jcY(who1 aL aM aN aO aP aQ w0 K)(h:Si who1 aL aM aN aO aP aQ w0 K):
  cl 219 #[(vi who1),(.agg #[(vi aL),(vi aM),(vi aN),(vu aO),(vs aP),aQ.v])] w0<|fun e w'=>∃b f g d c a,e=.returned (Aa b f g d c a)/\K b f g d c a w':=
 du func219 h<|nh 0<|nh 0<|iu 1 1 [] 6<|ah<|ot 0<|sg 1 0 []<|an<|dx 0<|pw 0 [] 6<|ee
def Z0(H V U:Int)(aD:ByteArray)(W:Bool)(c:World)(K:Int->Int->Int->Int->ByteArray->Sl->WP):Prop:=∀l X,af c ar c l X->cl 217 #[(vu U),(vs aD)] X fun e o=>∃D F I E C G,e=.returned (Aa D F I E C G)/\aj l X o/\Br (H==1) (∀a b,af c l o a b->cl 218 #[(vi V),(vb W),(.agg #[(vi D),(vi F),(vi I),(vu E),(vs C),G.v])] b fun e w6=>∃aR aS aT aU aV aW,e=.returned (Aa aR aS aT aU aV aW)/\aj a b w6/\∀w7,af c a w6 a w7->K aR aS aT aU aV aW w7) (Br (H==2) (∀a b,af c l o a b->cl 219 #[(vi V),(.agg #[(vi D),(vi F),(vi I),(vu E),(vs C),G.v])] b fun e w8=>∃aX aY aZ bA bB bC,e=.returned (Aa aX aY aZ bA bB bC)/\aj a b w8/\∀w9,af c a w8 a w9->K aX aY aZ bA bB bC w9) (Br (H==3) (∀a b,af c l o a b->∃C1:WP,C1 b.drew/\∀z,z=b.drew->cl 221 #[(vs (⟨#[97,98,111,114,116]⟩:ByteArray))] z fun e h=>∃bQ bR bS bT bU bV,e=.returned (Aa bQ bR bS bT bU bV)/\C1 h/\aj a z h/\cl 222 #[(vu U)] h fun e y=>∃bW bX bY bZ cA cB,e=.returned (Aa bW bX bY bZ cA cB)/\aj a h y/\cl 220 #[(.agg #[(vi bQ),(vi bR),(vi bS),(vu bT),(vs bU),bV.v]),(.agg #[(vi bW),(vi bX),(vi bY),(vu bZ),(vs cA),cB.v])] y fun e A=>∃cC cD cE cF cG cH,e=.returned (Aa cC cD cE cF cG cH)/\aj a y A/\cl 219 #[(vi 0),(.agg #[(vi cC),(vi cD),(vi cE),(vu cF),(vs cG),cH.v])] A fun e N=>∃cI cJ cK cL cM cN,e=.returned (Aa cI cJ cK cL cM cN)/\aj a A N/\∀S,af c a N a S->K cI cJ cK cL cM cN S) (Br (H==4) (∀a b,af c l o a b->∃B:WP,B b.drew/\∀q,q=b.drew->cl 221 #[(vs (⟨#[114,101,115,111,108,118,101]⟩:ByteArray))] q fun e n=>∃cO cP cQ cR cS cT,e=.returned (Aa cO cP cQ cR cS cT)/\B n/\aj a q n/\cl 218 #[(vi 0),(vb W),(.agg #[(vi D),(vi F),(vi I),(vu E),(vs C),G.v])] n fun e i=>∃cU cV cW cX cY cZ,e=.returned (Aa cU cV cW cX cY cZ)/\B i/\aj a n i/\cl 218 #[(vi 1),(vb W),(.agg #[(vi D),(vi F),(vi I),(vu E),(vs C),G.v])] i fun e m=>∃dA dB Y dE dF dG,e=.returned (Aa dA dB Y dE dF dG)/\B m/\aj a i m/\cl 220 #[(.agg #[(vi cU),(vi cV),(vi cW),(vu cX),(vs cY),cZ.v]),(.agg #[(vi dA),(vi dB),(vi Y),(vu dE),(vs dF),dG.v])] m fun e f=>∃dH dI dJ dK dL dM,e=.returned (Aa dH dI dJ dK dL dM)/\B f/\aj a m f/\cl 220 #[(.agg #[(vi cO),(vi cP),(vi cQ),(vu cR),(vs cS),cT.v]),(.agg #[(vi dH),(vi dI),(vi dJ),(vu dK),(vs dL),dM.v])] f fun e d=>∃dN Z dP dQ dR dS,e=.returned (Aa dN Z dP dQ dR dS)/\B d/\aj a f d/\cl 219 #[(vi V),(.agg #[(vi dN),(vi Z),(vi dP),(vu dQ),(vs dR),dS.v])] d fun e M=>∃dT dU dV dW dX dY,e=.returned (Aa dT dU dV dW dX dY)/\aj a d M/\∀O,af c a M a O->K dT dU dV dW dX dY O) (Br (H==5) (∀a b,af c l o a b->∃C3:WP,C3 b.drew/\∀w,w=b.drew->cl 221 #[(vs (⟨#[97,98,111,114,116,101,100]⟩:ByteArray))] w fun e k=>∃dZ eA eB eC eD eE,e=.returned (Aa dZ eA eB eC eD eE)/\C3 k/\aj a w k/\cl 222 #[(vu U)] k fun e p=>∃eF eG eH eI eJ eK,e=.returned (Aa eF eG eH eI eJ eK)/\aj a k p/\cl 220 #[(.agg #[(vi dZ),(vi eA),(vi eB),(vu eC),(vs eD),eE.v]),(.agg #[(vi eF),(vi eG),(vi eH),(vu eI),(vs eJ),eK.v])] p fun e u=>∃eL eM eN eO eP eQ,e=.returned (Aa eL eM eN eO eP eQ)/\aj a p u/\cl 219 #[(vi 2),(.agg #[(vi eL),(vi eM),(vi eN),(vu eO),(vs eP),eQ.v])] u fun e P=>∃eR eS eT eU eV eW,e=.returned (Aa eR eS eT eU eV eW)/\aj a u P/\∀Q,af c a P a Q->K eR eS eT eU eV eW Q) (Br (H==6) (∀a b,af c l o a b->∃C4:WP,C4 b.drew/\∀t,t=b.drew->cl 221 #[(vs (⟨#[105,110,115,116,101,97,100]⟩:ByteArray))] t fun e j=>∃eX eY eZ fA fB fC,e=.returned (Aa eX eY eZ fA fB fC)/\C4 j/\aj a t j/\cl 220 #[(.agg #[(vi eX),(vi eY),(vi eZ),(vu fA),(vs fB),fC.v]),(.agg #[(vi D),(vi F),(vi I),(vu E),(vs C),G.v])] j fun e r=>∃fD fE fF fG fH fI,e=.returned (Aa fD fE fF fG fH fI)/\aj a j r/\cl 219 #[(vi 2),(.agg #[(vi fD),(vi fE),(vi fF),(vu fG),(vs fH),fI.v])] r fun e R=>∃fJ fK fL fM fN fO,e=.returned (Aa fJ fK fL fM fN fO)/\aj a r R/\∀J,af c a R a J->K fJ fK fL fM fN fO J) (∀a b,af c l o a b->∃C5:WP,C5 b.drew/\∀s,s=b.drew->cl 221 #[(vs (⟨#[102,117,108,108]⟩:ByteArray))] s fun e g=>∃fP fQ fR fS fT fU,e=.returned (Aa fP fQ fR fS fT fU)/\C5 g/\aj a s g/\cl 222 #[(vu U)] g fun e x=>∃fV fW fX fY fZ gA,e=.returned (Aa fV fW fX fY fZ gA)/\aj a g x/\cl 220 #[(.agg #[(vi fP),(vi fQ),(vi fR),(vu fS),(vs fT),fU.v]),(.agg #[(vi fV),(vi fW),(vi fX),(vu fY),(vs fZ),gA.v])] x fun e L=>∃gB gC gD gE gF gG,e=.returned (Aa gB gC gD gE gF gG)/\aj a x L/\∀T,af c a L a T->K gB gC gD gE gF gG T))))))
def Q4(aC aA aK aD aB w0 K)(h:Z0 aC aA aK aD aB w0 K):
  cl 159 #[(.agg #[(vi aC),(vi aA),(vu aK),(vs aD),(vb aB)])] w0<|fun e w'=>∃d b g f a c,e=.returned (Aa d b g f a c)/\K d b g f a c w':=
 du func159 h<|nh 0<|nh 0<|lh 1 1 [2]<|lh 1 1 [3]<|ah<|po 0 call217<|nh 0<|sg 0 0 []<|lh 1 2 []<|br 0 2 (lh 2 2 [1]<|lh 1 2 [4]<|iu 0 0 [] 6<|ah<|po 0 call218<|sg 0 1 []<|an<|dx 0<|pw 1 [] 6<|ee)<|br 0 3 (lh 2 2 [1]<|iu 0 0 [] 6<|ah<|po 0 call219<|sg 0 1 []<|an<|dx 0<|pw 1 [] 6<|ee)<|br 0 3 (ah<|dC 1 [0,3,4,5,6] [3,4,5,6]<|ju 1 2 [2]<|va 0 call221<|po 0 call222<|po 0 call220<|po 0 call219<|sg 0 1 []<|an<|dx 0<|pw 1 [] 6<|ee)<|br 0 3 (ah<|dC 1 [2,6,10,11,12,13,14] [13,14]<|ju 1 2 [1]<|ju 1 2 [4]<|uz 0 0 [] 6<|ju 1 2 [4]<|uz 0 0 [] 6<|va 0 call221<|va 0 call218<|va 0 call218<|va 0 call220<|va 0 call220<|po 0 call219<|sg 0 1 []<|an<|dx 0<|pw 1 [] 6<|ee)<|br 0 3 (ah<|dC 1 [0,3,4,5,6] [3,4,5,6]<|ju 1 2 [2]<|va 0 call221<|po 0 call222<|po 0 call220<|po 0 call219<|sg 0 1 []<|an<|dx 0<|pw 1 [] 6<|ee)<|br 0 3 (ah<|dC 1 [0,2,3,4] [2,3,4]<|uz 0 0 [] 6<|va 0 call221<|po 0 call220<|po 0 call219<|sg 0 1 []<|an<|dx 0<|pw 1 [] 6<|ee)<|ah<|dC 1 [0,3,4,5] [3,4,5]<|ju 1 2 [2]<|va 0 call221<|po 0 call222<|po 0 call220<|sg 0 1 []<|an<|dx 0<|pw 1 [] 6<|ee
def Ws(i:Option Addr)(p j s:Int)(h:ByteArray)(m:Bool)(k:World)(K:Int->Int->WP):Prop:=∀b c,af k ar k b c->cl 158 #[(.agg #[(vi p),(vi j),(vu s),(vs h),(vb m)])] c fun e a=>∃r1,e=.returned (vi r1)/\aj b c a/\Br (r1 !=0) (K 0 r1 a) (Br (Option.isNone i) (K 0 2 a)<|cl 159 #[(.agg #[(vi p),(vi j),(vu s),(vs h),(vb m)])] a fun e d=>∃n q g o l f,e=.returned (Aa n q g o l f)/\aj b a d/\cl 62 #[(vp i),(.agg #[(vi n),(vi q),(vi g),(vu o),(vs l),f.v])] d (XH fun r2 r3 r=>aj b d r/\K r2 r3 r))
def jbJ(p1 aC aA aK aD aB w0 K)(h:Ws p1 aC aA aK aD aB w0 K):
  cl 104 #[(vp p1),(.agg #[(vi aC),(vi aA),(vu aK),(vs aD),(vb aB)])] w0<|XH K:=
 du func104 h<|nh 0<|iu 2 0 [] 5<|ah<|dw 0 call158<|br 0 3 (rr 4)<|br 0 3 (rr 3)<|iu 2 0 [] 5<|po 0 call159<|im 0 call62<|rr 4
end Go.Proofs
end
section
open Go Go.SE List
namespace Go.Proofs
open Tryz
attribute [local irreducible] Calls
def Ee:Array Value:=#[vb false,vb false,vb false,vs ⟨#[]⟩,vb true,vb true,vb true,vs ⟨#[112,114,111,109,105,115,101]⟩,vb true,vb true,vb false,vs ⟨#[115,105,103,110]⟩,vb false,vb false,vb false,vs ⟨#[97,98,111,114,116]⟩,vb true,vb true,vb true,vs ⟨#[114,101,115,111,108,118,101]⟩,vb false,vb false,vb false,vs ⟨#[116,111,107,101,110]⟩,vb false,vb true,vb false,vs ⟨#[105,110,115,116,101,97,100]⟩,vb false,vb false,vb false,vs ⟨#[102,117,108,108]⟩]
def Nz(w):cl 216 #[] w (fun e w'=>∃r:Array Value,e=.returned (.agg r)/\(r=Ee/\Pure w w')):=by
 refine Ur w (fun r w'=>r=Ee/\Pure w w') ?_;intro f d h1;have c:Pure w d:=ab.ax h1;have a:=av.ak (ab.refl w) h1;have b1:=ai.fp h1;clear h1;refine bx 32 b1 Kf Kf fun w' b E=>?_;exact⟨Ee,⟨Kf,b.L4 Kf⟩,rfl,c.ak a E⟩
def Qi(l)(U:1<=l.kind/\l.kind<=7)(p){w0 w H wd T}(hB:ai w p [vb<|vM l.kind,vb<|qK l.kind,vb<|l.kind == 1 || l.kind == 4,vs wd] T)(u:¬ H p.block)(C:Pure w0 w):
  AR l.az l.bb l.dz p w0 H w<|fun x w'=>x=vR l/\Pure w0 w':=by
 have⟨k,f,c,x,s⟩:=l
 simp only at *
 have jd:∀{H D:NP} {w w':World},ai w p [vb<|vM k,vb<|qK k,vb<|k==1 ||k==4,vs wd] T->¬H p.block->af w0 H w D w'->¬D p.block/\ai w' p [vb<|vM k,vb<|qK k,vb<|k==1 ||k==4,vs wd] T:=fun hB u hs=>by
  have h:=hs.ji (G:=(·=p.block)) (fun b e=>by subst e;exact⟨hB.lt,u⟩) _ rfl;exact⟨h,hB.ext hs.ext h⟩
 unfold AR
 have j:(f≠0/\f≠1)\/(vM k=false/\f≠0)\/(qK k=false/\x≠⟨#[]⟩)\/(s=true/\k≠1/\k≠4)->(110:Int)=vR ⟨k,f,c,x,s⟩:=fun h=>by
  unfold vR;rw[if_pos];rcases h with h|h|h|h;exact .inr<|.inr<|.inl h;exact .inr<|.inr<|.inr<|.inl h;exact .inr<|.inr<|.inr<|.inr<|.inl h;exact .inr<|.inr<|.inr<|.inr<|.inr h
 refine⟨fun L M O g=>⟨j<|.inl ?_,C.au g⟩,fun L M O g=>?_⟩
 grind
 have R:f=0\/f=1:=Gd
 have⟨I,E⟩:=jd hB u g
 have F:=C.au g
 refine⟨_,E.bf,fun P S q=>?_⟩
 have⟨K,B⟩:=jd E I q
 have z:=F.au q
 refine⟨fun d=>⟨j<|.inr<|.inl ?_,z⟩,fun d=>?_⟩
 rw[Bool.and_eq_true]at d;exact⟨by simpa using d.1,bne_iff_ne.1 d.2⟩
 have hs:¬(vM k=false/\f≠0):=fun h=>Gd
 refine⟨_,B.cell (i:=1) rfl,fun W Q r=>?_⟩
 have⟨V,N⟩:=jd B K r
 have t:=z.au r
 refine⟨fun v=>⟨j<|.inr<|.inr<|.inl ?_,t⟩,fun v=>?_⟩
 grind
 have ht:¬(qK k=false/\x≠⟨#[]⟩):=fun h=>Gd
 refine⟨_,N.cell (i:=2) rfl,fun o y A a=>⟨j<|.inr<|.inr<|.inr ?_,t.au a⟩,fun o=>?_⟩
 grind
 have J:¬(s=true/\k≠1/\k≠4):=fun h=>by
  rw[Bool.and_eq_false_iff]at o;refine o.elim (fun h2=>?_) (fun h2=>by rw[h.1]at h2;cases h2);have h1:(k==1 ||k==4)=true:=Gd;rw[Bool.or_eq_true]at h1;exact h1.elim (fun h3=>h.2.1<|by simpa using h3) fun h3=>h.2.2 (by simpa using h3)
 have m:¬(k<1\/k>7\/(f≠0/\f≠1)\/(vM k=false/\f≠0)\/(qK k=false/\x≠⟨#[]⟩)\/(s=true/\k≠1/\k≠4)):=Gd
 refine⟨fun n y A a=>⟨?_,t.au a⟩,fun n y A a=>⟨?_,t.au a⟩⟩
 have:=of_decide_eq_true n
 unfold vR;rw[if_neg m,if_pos Sy]
 have:=of_decide_eq_false n
 unfold vR;rw[if_neg m,if_neg Sy]
def TU(l w0):cl 158 #[.agg #[vi l.kind,vi l.az,vu l.c,vs l.bb,vb l.dz]] w0 (XB fun r w'=>r=vR l/\Pure w0 w'):=by
 refine w_W _ _ _ _ _ w0 (fun r w'=>r=vR l/\Pure w0 w') ?_;refine⟨fun C w z a=>⟨?_,a.first⟩,fun C w z a=>?_⟩
 .unfold vR;rw[if_pos];rw[Bool.or_eq_true]at C;exact C.elim Gd fun h=>.inr<|.inl<|of_decide_eq_true h
 have G:1<=l.kind/\l.kind<=7:=Gd;have y:Pure w0 z:=a.first;have yk:∃u:ByteArray,∀w':World,(Instr.index 300 (.agg Ee)<|vi l.kind).run prog w'=.ok (.agg #[vb<|vM l.kind,vb<|qK l.kind,vb<|l.kind==1 ||l.kind==4,vs u]) w':=by
  have:l.kind=1\/l.kind=2\/l.kind=3\/l.kind=4\/l.kind=5\/l.kind=6\/l.kind=7:=Om;rcases this with e|e|e|e|e|e|e<;>rw[e]
  .exact⟨⟨#[112,114,111,109,105,115,101]⟩,fun w'=>Kf⟩
  .exact⟨⟨#[115,105,103,110]⟩,fun w'=>Kf⟩
  .exact⟨⟨#[97,98,111,114,116]⟩,fun w'=>Kf⟩
  .exact⟨⟨#[114,101,115,111,108,118,101]⟩,fun w'=>Kf⟩
  .exact⟨⟨#[116,111,107,101,110]⟩,fun w'=>Kf⟩
  .exact⟨⟨#[105,110,115,116,101,97,100]⟩,fun w'=>Kf⟩
  .exact⟨⟨#[102,117,108,108]⟩,fun w'=>Kf⟩
 have⟨u,yk⟩:=yk;refine⟨fun _=>True,trivial,?_⟩;rintro x H;have j:Pure z x:=by rw[H];exact ab.drew z
 have F:∀b,w b->b<x.heap.size:=fun b K=>Oi (a.lt b K) j.size;refine⟨?_,?_⟩
 .refine(Nz x).mono ?_;rintro _ O ⟨_,rfl,rfl,f⟩;refine⟨_,rfl,trivial,f.bz,_,_,_,_,fun w' _=>yk w',?_⟩;intro t D d;have L:=d.cu;have J:=f.size;have n:¬w t.block:=fun hh=>Oh<|F _ hh;refine⟨trivial,(ai.fp d).uo Sm,n,?_⟩;rintro s o;have X:ab (·=t.block) D s:=by rw[o];exact ab.bd _ _ _
  have B:ai s t [vb<|vM l.kind,vb<|qK l.kind,vb<|l.kind==1 ||l.kind==4,vs u] 299:=by rw[o];exact(ai.fp d).store rfl
  have I:=y.size;have M:=j.size;exact Qi l G t B n<|(((y.trans j).trans f).trans<|ab.ax d).ak Om X
 .intro v q i;refine⟨trivial,?_⟩;have N:=i.cu;have A:Pure x q:=ab.ax i;have n:¬w v.block:=fun hh=>Oh<|F _ hh;refine(Nz q).mono ?_;rintro _ E ⟨_,rfl,rfl,g⟩;have m:=(ai.fp i).pure g;refine⟨_,rfl,trivial,g.bz,_,_,_,_,fun w' _=>yk w',m.uo Sm,n,?_⟩;rintro p k;have X:ab (·=v.block) E p:=by rw[k];exact ab.bd _ _ _
  have B:ai p v [vb<|vM l.kind,vb<|qK l.kind,vb<|l.kind==1 ||l.kind==4,vs u] 299:=by rw[k];exact m.store rfl
  have I:=y.size;have M:=j.size;exact Qi l G v B n<|(((y.trans j).trans A).trans g).ak Om X
abbrev BS(S:NP)(w:World)(T:bt)(e:Ending)(w':World):Prop:=∃s,e=.returned (.agg (fy T s).toArray)/\cz S w' s T/\Pure w w'
def Ey{S}(w){A sa H3 w3 w4 w5 p o}(f:cz S w sa A)(a:af w ar w H3 w3)(n4:av w3 o p w4)(c:af w H3 w4 H3 w5):cz S w5 sa A:=by
 have g:Pure w w3:=a.first;have e:Pure w3 w4:=ab.ax n4;exact(((f.lt.pure g).pure e).ext c.ext fun b d hh=>Oh<|a.old b hh).mono fun b d=>d.1
section
variable {S:NP} (w:World) (hS:∀b,w.heap.size<=b->S b)
include hS
def wx(A B sa sb)(r:cz S w sa A)(hB:cz S w sb B):cl 220 #[.agg (fy A sa).toArray,.agg (fy B sb).toArray] w (BS S w<|qR A B):=by
 have⟨k,f,t,u,x,j⟩:=A;have⟨h,g,i,d,e,c⟩:=B;refine(Xz k f t u x sa h g i d e sb w (fun k' p m n y s w'=>(⟨k',p,m,n,y,0,0⟩:di)=(qR (.mk k f t u x j)<|.mk h g i d e c).node/\cz S w' s (qR (.mk k f t u x j)<|.mk h g i d e c)/\Pure w w') ?_).mono ?_
 .intro C G a l v n4 D b;have b4:=n4.cu;have F:=a.first.size;have z:ai v l (fy (.mk k f t u x j) sa++fy (.mk h g i d e c) sb) 71:=ai.fp n4;exact⟨rfl,cz.pR (z.ext b.ext fun hh=>Oh<|a.lt _ hh) (hS _ Om) (Ey w r a n4 b)<|Ey w hB a n4 b,(a.first.trans (ab.ax n4)).au b⟩
 .rintro _ w' ⟨k,f,t,u,y,s,rfl,q,o,E⟩;cases q;exact⟨s,rfl,o,E⟩
def Cg(n A sa)(l:cz S w sa A):cl 219 #[vi n,.agg (fy A sa).toArray] w (BS S w<|yD n A):=by
 have⟨k,f,t,u,x,c⟩:=A;refine(jcY n k f t u x sa w (fun k' i d e y s w'=>(⟨k',i,d,e,y,0,0⟩:di)=(yD n<|.mk k f t u x c).node/\cz S w' s (yD n<|.mk k f t u x c)/\Pure w w') ?_).mono ?_
 .intro p v a m g n4 q b;have b4:=n4.cu;have r:=a.first.size;have o:ai g m (fy (.mk k f t u x c) sa) 71:=ai.fp n4;exact⟨rfl,cz.one (o.ext b.ext fun hh=>Oh<|a.lt _ hh) (hS _ Om)<|Ey w l a n4 b,(a.first.trans (ab.ax n4)).au b⟩
 .rintro _ w' ⟨k,f,t,u,y,s,rfl,j,h,E⟩;cases j;exact⟨s,rfl,h,E⟩
def Ha(n)(d:n=0\/n=1)(fk A sa)(l:cz S w sa A):cl 218 #[vi n,vb fk,.agg (fy A sa).toArray] w (BS S w<|uA n A fk):=by
 have⟨k,f,t,u,x,c⟩:=A;refine(Ra n fk k f t u x sa w (fun k' j e g y s w'=>(⟨k',j,e,g,y,0,0⟩:di)=(uA n (.mk k f t u x c) fk).node/\cz S w' s (uA n (.mk k f t u x c) fk)/\Pure w w') ?_).mono ?_
 .intro p v a m h n4 q b;have b4:=n4.cu;have r:=a.first.size;have o:ai h m (fy (.mk k f t u x c) sa) 71:=ai.fp n4;refine⟨?_,cz.one (o.ext b.ext fun hh=>Oh<|a.lt _ hh) (hS _ Om)<|Ey w l a n4 b,(a.first.trans (ab.ax n4)).au b⟩;have:IntKind.i64.wrap (1-n)=1-n:=IntWalk.i64_in _ Om;rw[this];cases fk<;>rfl
 .rintro _ w' ⟨k,f,t,u,y,s,rfl,d,i,E⟩;cases d;exact⟨s,rfl,i,E⟩
def Zm(c x):cl 217 #[vu c,vs x] w (BS S w<|vO c x):=by
 refine(jaW c x w (fun k f t u y s w'=>(⟨k,f,t,u,y,0,0⟩:di)=(vO c x).node/\cz S w' s (vO c x)/\Pure w w') ?_).mono ?_
 .intro o a d;have l:Pure w a:=d.first;have D:=l.size;have B:∀b,o b->b<a.heap.size:=fun b p=>d.lt b p;refine(wx (S:=(a.heap.size<=·)) a (fun _ h=>h) (jl c) (qB x) Sl.nil Sl.nil cz.leaf cz.leaf).mono ?_;rintro _ r ⟨n,rfl,g,j⟩;refine⟨_,_,_,_,_,n,rfl,j.bz,?_⟩;refine(wx (S:=(a.heap.size<=·)) r (fun b h=>by have:=j.size;show a.heap.size<=b;omega) (qB pU) (qR (jl c)<|qB x) Sl.nil n cz.leaf g).mono ?_;rintro _ C ⟨z,rfl,i,m⟩;refine⟨_,_,_,_,_,z,rfl,m.bz,fun A e=>⟨rfl,?_,((l.trans j).trans m).au e⟩⟩;exact(i.ext e.ext Gd).mono Gd
 .rintro _ w' ⟨k,f,t,u,y,s,rfl,v,q,E⟩;cases v;exact⟨s,rfl,q,E⟩
end
def U2(l)(hf:l.az=0\/l.az=1)(w0):cl 159 #[.agg #[vi l.kind,vi l.az,vu l.c,vs l.bb,vb l.dz]] w0 (BS (w0.heap.size<=·) w0<|zT l true true):=by
 have⟨kd,f,c,x,fk⟩:=l;simp only at hf;generalize X:zT ⟨kd,f,c,x,fk⟩ true true=R;refine(Q4 kd f c x fk w0 (fun k f t u y s w'=>(⟨k,f,t,u,y,0,0⟩:di)=R.node/\cz (w0.heap.size<=·) w' s R/\Pure w0 w') ?_).mono ?_
 .intro H2 w2 hs2;have E2:Pure w0 w2:=hs2.first;have z2:=E2.size;refine (Zm (S:=(w2.heap.size<=·)) w2 (fun _ h=>h) c x).mono ?_;rintro _ w3 ⟨W,rfl,hT3,E3⟩;refine⟨_,_,_,_,_,W,rfl,E3.bz,?_⟩;have z3:=E3.size;have Q:∀{v:NP} {i:World},af w0 H2 w3 v i->cz (fun b=>w0.heap.size<=b/\¬ v b) i W (vO c x)/\Pure w0 i/\(∀w:World,i.heap.size<=w.heap.size->∀b,w.heap.size<=b->w0.heap.size<=b/\¬ v b):=fun {v i} hs=>by
   have hd:∀b,(w2.heap.size<=b/\b<w3.heap.size)->¬v b:=hs.ji fun b N=>⟨N.2,fun hh=>Oh<|hs2.lt b hh⟩;refine⟨(hT3.lt.ext hs.ext fun b N=>hd b N).mono Gd,(E2.trans E3).au hs,fun w hw b N=>⟨Oh hs.ext.size,fun hh=>Oh<|hs.lt b hh⟩⟩
  have fin:∀{v:NP} {L M:World} {s:Sl} {T:bt},cz (fun b=>w0.heap.size<=b/\¬v b) L s T->Pure w0 L->af w0 v L v M->T=R->R.node=R.node/\cz (w0.heap.size<=·) M s R/\Pure w0 M:=fun {v L M s T} h E hs e=>by
   subst e;exact⟨rfl,(h.ext hs.ext fun b N=>N.2).mono fun b N=>N.1,E.au hs⟩
  have p:∀{v:NP} {L M:World} {s:Sl} {T:bt},cz (fun b=>w0.heap.size<=b/\¬v b) L s T->Pure w0 L->af w0 v L v M->R=T->(⟨T.node.kind,T.node.az,T.node.to,T.node.num,T.node.bb,0,0⟩:di)=R.node/\cz (w0.heap.size<=·) M s R/\Pure w0 M:=fun {v L M s T} h E hs e=>by
   subst e;refine⟨?_,(fin h E hs rfl).2⟩;cases R;rfl
  refine⟨fun n v i g=>?_,fun h1=>⟨fun n v i g=>?_,fun h2=>⟨fun n v i g=>?_,fun h3=>⟨fun n v i g=>?_,fun h4=>⟨fun n v i g=>?_,fun h5=>⟨fun n v i g=>?_,fun h6 v i g=>?_⟩⟩⟩⟩⟩⟩
  .have n:=beq_iff_eq.1 n;have⟨I,H,hS⟩:=Q g;refine(Ha i (hS i<|Nat.le_refl _) f hf fk _ W I).mono ?_;rintro _ w6 ⟨s6,rfl,Y,E6⟩;refine⟨_,_,_,_,_,s6,rfl,E6.bz,fun w7 U=>p Y (H.trans E6) U ?_⟩;rw[<-X];unfold zT;rw[if_pos n]
  .have n:=beq_iff_eq.1 n;have⟨I,H,hS⟩:=Q g;refine(Cg i (hS i<|Nat.le_refl _) f _ W I).mono ?_;rintro _ w6 ⟨s6,rfl,Y,E6⟩;refine⟨_,_,_,_,_,s6,rfl,E6.bz,fun w7 U=>p Y (H.trans E6) U ?_⟩;rw[<-X];unfold zT;rw[if_neg Gd,if_pos n]
  .have n:=beq_iff_eq.1 n;have⟨I,H,hS⟩:=Q g;refine⟨fun _=>True,trivial,?_⟩;rintro o G;have j:Pure i o:=by rw[G];exact ab.drew i
   refine(xd _ o).mono ?_;rintro _ B ⟨rfl,a⟩;refine⟨_,_,_,_,_,_,rfl,trivial,a.bz,?_⟩;refine(CD _ B).mono ?_;rintro _ D ⟨rfl,r⟩;refine⟨_,_,_,_,_,_,rfl,r.bz,?_⟩;have K:=((j.trans a).trans r).size;refine(wx D (hS D K) (qB tM) (jl c) Sl.nil Sl.nil cz.leaf cz.leaf).mono ?_;rintro _ A ⟨z,rfl,m,d⟩;refine⟨_,_,_,_,_,z,rfl,d.bz,?_⟩;refine(Cg A (hS A<|Oh d.size) 0 _ z m).mono ?_;rintro _ w14 ⟨J,rfl,C,F⟩;refine⟨_,_,_,_,_,J,rfl,F.bz,fun V q=>p C (((((H.trans j).trans a).trans r).trans d).trans F) q ?_⟩;rw[<-X];unfold zT;rw[if_neg fun e=>beq_eq_false_iff_ne.1 h1 e,if_neg Gd,if_pos n]
  .have n:=beq_iff_eq.1 n;have⟨I,H,hS⟩:=Q g;refine⟨fun _=>True,trivial,?_⟩;rintro w16 e16;have E16:Pure i w16:=by rw[e16];exact ab.drew i
   refine(xd _ w16).mono ?_;rintro _ w17 ⟨rfl,E17⟩;refine⟨_,_,_,_,_,_,rfl,trivial,E17.bz,?_⟩;have Z:=E16.trans E17;refine(Ha w17 (hS w17 Z.size) 0 (.inl rfl) fk _ W<|I.pure Z).mono ?_;rintro _ w18 ⟨s18,rfl,hT18,E18⟩;refine⟨_,_,_,_,_,s18,rfl,trivial,E18.bz,?_⟩;have O:=Z.trans E18;refine(Ha w18 (hS w18 O.size) 1 (.inr rfl) fk _ W<|I.pure O).mono ?_;rintro _ w19 ⟨s19,rfl,hT19,P⟩;refine⟨_,_,_,_,_,s19,rfl,trivial,P.bz,?_⟩;have E59:=O.trans P;refine(wx w19 (hS w19 E59.size) _ _ s18 s19 (hT18.pure P) hT19).mono ?_;rintro _ w20 ⟨s20,rfl,hT20,E20⟩;refine⟨_,_,_,_,_,s20,rfl,trivial,E20.bz,?_⟩;have E510:=E59.trans E20;refine(wx w20 (hS w20 E510.size) (qB uF) _ Sl.nil s20 cz.leaf hT20).mono ?_;rintro _ w21 ⟨s21,rfl,hT21,E21⟩;refine⟨_,_,_,_,_,s21,rfl,trivial,E21.bz,?_⟩;have E511:=E510.trans E21;refine(Cg w21 (hS w21 E511.size) f _ s21 hT21).mono ?_;rintro _ w22 ⟨s22,rfl,hT22,E22⟩;refine⟨_,_,_,_,_,s22,rfl,E22.bz,fun w23 hs23=>p hT22 ((H.trans E511).trans E22) hs23 ?_⟩;rw[<-X];unfold zT;rw[if_neg fun e=>beq_eq_false_iff_ne.1 h1 e,if_neg fun e=>beq_eq_false_iff_ne.1 h2 e,if_neg Gd,if_pos n];simp only[Bool.and_true]
  .have n:=beq_iff_eq.1 n;have⟨I,H,hS⟩:=Q g;refine⟨fun _=>True,trivial,?_⟩;rintro o G;have j:Pure i o:=by rw[G];exact ab.drew i
   refine(xd _ o).mono ?_;rintro _ B ⟨rfl,a⟩;refine⟨_,_,_,_,_,_,rfl,trivial,a.bz,?_⟩;refine(CD _ B).mono ?_;rintro _ D ⟨rfl,r⟩;refine⟨_,_,_,_,_,_,rfl,r.bz,?_⟩;have K:=((j.trans a).trans r).size;refine(wx D (hS D K) (qB yS) (jl c) Sl.nil Sl.nil cz.leaf cz.leaf).mono ?_;rintro _ A ⟨z,rfl,m,d⟩;refine⟨_,_,_,_,_,z,rfl,d.bz,?_⟩;refine(Cg A (hS A<|Oh d.size) 2 _ z m).mono ?_;rintro _ w14 ⟨J,rfl,C,F⟩;refine⟨_,_,_,_,_,J,rfl,F.bz,fun V q=>p C (((((H.trans j).trans a).trans r).trans d).trans F) q ?_⟩;rw[<-X];unfold zT;rw[if_neg fun e=>beq_eq_false_iff_ne.1 h1 e,if_neg fun e=>beq_eq_false_iff_ne.1 h2 e,if_neg fun e=>beq_eq_false_iff_ne.1 h3 e,if_neg fun e=>beq_eq_false_iff_ne.1 h4 e,if_pos n]
  .have n:=beq_iff_eq.1 n;have⟨I,H,hS⟩:=Q g;refine⟨fun _=>True,trivial,?_⟩;rintro o G;have j:Pure i o:=by rw[G];exact ab.drew i
   refine(xd _ o).mono ?_;rintro _ B ⟨rfl,a⟩;refine⟨_,_,_,_,_,_,rfl,trivial,a.bz,?_⟩;have z11:=(j.trans a).size;refine(wx B (hS B z11) (qB yG) _ Sl.nil W cz.leaf<|I.pure<|j.trans a).mono ?_;rintro _ A ⟨z,rfl,m,d⟩;refine⟨_,_,_,_,_,z,rfl,d.bz,?_⟩;refine(Cg A (hS A<|Oh d.size) 2 _ z m).mono ?_;rintro _ w14 ⟨J,rfl,C,F⟩;refine⟨_,_,_,_,_,J,rfl,F.bz,fun V q=>p C ((((H.trans j).trans a).trans d).trans F) q ?_⟩;rw[<-X];unfold zT;rw[if_neg fun e=>beq_eq_false_iff_ne.1 h1 e,if_neg fun e=>beq_eq_false_iff_ne.1 h2 e,if_neg fun e=>beq_eq_false_iff_ne.1 h3 e,if_neg fun e=>beq_eq_false_iff_ne.1 h4 e,if_neg Gd,if_pos n]
  .have⟨I,H,hS⟩:=Q g;refine⟨fun _=>True,trivial,?_⟩;rintro o G;have j:Pure i o:=by rw[G];exact ab.drew i
   refine(xd _ o).mono ?_;rintro _ B ⟨rfl,a⟩;refine⟨_,_,_,_,_,_,rfl,trivial,a.bz,?_⟩;refine(CD _ B).mono ?_;rintro _ D ⟨rfl,r⟩;refine⟨_,_,_,_,_,_,rfl,r.bz,?_⟩;have K:=((j.trans a).trans r).size;refine(wx D (hS D K) (qB wE) (jl c) Sl.nil Sl.nil cz.leaf cz.leaf).mono ?_;rintro _ A ⟨z,rfl,m,d⟩;refine⟨_,_,_,_,_,z,rfl,d.bz,fun V q=>p m ((((H.trans j).trans a).trans r).trans d) q ?_⟩;rw[<-X];unfold zT;rw[if_neg fun e=>beq_eq_false_iff_ne.1 h1 e,if_neg fun e=>beq_eq_false_iff_ne.1 h2 e,if_neg fun e=>beq_eq_false_iff_ne.1 h3 e,if_neg fun e=>beq_eq_false_iff_ne.1 h4 e,if_neg fun e=>beq_eq_false_iff_ne.1 h5 e,if_neg Gd]
 .rintro _ w' ⟨k,f,t,u,y,s,rfl,hn,hT,E⟩;have⟨k2,f2,t2,u2,x2,ks⟩:=R;cases hn;exact⟨s,rfl,hT,E⟩
def NA{l}(h:vR l=0):l.az=0\/l.az=1:=by
 unfold vR at h;split at h;cases h;grind
def zG(L:aw)(l:dy):Int×Int×aw:=if vR l≠0 then(0,vR l,L)else of L (zT l true true)
def Tl(p l w0){L F}(x:zD w0 p L F)(u:Ok L):
  cl 104 #[vp<|some p,.agg #[vi l.kind,vi l.az,vu l.c,vs l.bb,vb l.dz]] w0<|XH fun r1 r2 w'=>r1=(zG L l).1/\r2=(zG L l).2.1/\∃F',zD w' p (zG L l).2.2 F'/\ab F w0 w'/\∀b,F' b->F b\/w0.heap.size<=b:=by
 refine jbJ (some p) l.kind l.az l.c l.bb l.dz w0 _ ?_
 intro M C i
 have I:Pure w0 C:=i.first
 have D:∀b,F b->b<w0.heap.size:=fun b a=>x.lt a
 refine(TU l C).mono ?_
 rintro _ H ⟨_,rfl,rfl,B⟩
 have d:=I.trans B
 refine⟨_,rfl,B.bz,fun f=>?_,fun f=>⟨fun h=>(by cases h),fun _=>?_⟩⟩
 .have f:=bne_iff_ne.1 f
  have e:zG L l=(0,vR l,L):=by unfold zG;rw[if_pos f]
  rw[e];exact⟨rfl,rfl,F,x.pure d,ab.pure d,fun b a=>.inl a⟩
 .have f:vR l=0:=by simpa using f
  have e:zG L l=of L (zT l true true):=by unfold zG;rw[if_neg<|by simpa using f]
  rw[e]
  refine(U2 l (NA f) H).mono ?_
  rintro _ G ⟨s,j,t,E⟩
  generalize zT l true true=T at *
  have⟨k,w,o,r,q,z⟩:=T
  have j:_=Ending.returned (.agg #[vi k,vi w,vi o,vu r,vs q,s.v]):=j
  refine⟨k,w,o,r,q,s,j,E.bz,?_⟩
  have g:=d.trans E
  refine(Un (S:=fun b=>H.heap.size<=b/\b<G.heap.size) p (.mk k w o r q z) s G t.lt (x.pure g) u (fun b a hh=>Oi (D b a) d.size) fun b a=>a.2).mono ?_
  rintro _ N ⟨r1,r2,rfl,m,F',y,A,n⟩
  have⟨K,J⟩:=Prod.mk.inj m
  refine⟨r1,r2,rfl,A.bk fun b a hh=>Oi (i.old b a)<|D b hh,K,J,F',y,(ab.pure g).trans A,fun b a=>(n b a).imp id fun h=>Oh g.size⟩
end Go.Proofs
end
section
open Go Go.SE List
namespace Go.Proofs
def xK{L}(h:Wf L)(l):Wf (Go.Proofs.zG L l).2.2:=by
 unfold Go.Proofs.zG;split;exact h;exact jcP h _
def qS(l:dy):List UInt8×Int:=if(zG [] l).2.1≠0 then([],(zG [] l).2.1)else iz (zG [] l).2.2 (zG [] l).1
def A6(l:dy):ByteArray:=⟨(qS l).1.toArray⟩
def wG{k f t u x a}(h:yY u)(b:ru a):ru (.mk k f t u x [a]):=.mk _ _ _ _ _ _ h Gd
def wR{k f t u x a b}(h:yY u)(d:ru a)(c:ru b):ru (.mk k f t u x [a,b]):=.mk _ _ _ _ _ _ h Gd
def uK{k f t u x}(h:yY u):ru (.mk k f t u x []):=.mk _ _ _ _ _ _ h (fun i hi=>by simp at hi)
def lq:yY 0:=⟨De,De⟩
def zAB{c x}(h:yY c):ru (vO c x):=wR lq (uK lq)<|wR lq (uK h)<|uK lq
def YK{l}(h:yY l.c)(a b):ru (zT l a b):=by
 unfold zT;have d:=zAB (x:=l.bb) h;split;· exact wG lq d
 split;· exact wG lq d
 split;· exact wG lq<|wR lq (uK lq)<|uK h
 split;· exact wG lq<|wR lq (uK lq)<|wR lq (wG lq d)<|wG lq d
 split;· exact wG lq<|wR lq (uK lq)<|uK h
 split;· exact wG lq<|wR lq (uK lq) d
 exact wR lq (uK lq)<|uK h
def AP{L}(a:uE L){l}(h:yY l.c):uE (zG L l).2.2:=by
 unfold zG;split;exact a;exact a.of<|YK h _ _
def tY{L}(a:Ok L)(l):∃M,(zG L l).2.2=L++M:=by
 unfold zG;split;exact⟨[],(append_nil L).symm⟩;exact SC a _
end Go.Proofs
end
section
open Go Go.SE List
namespace Go.Proofs
open Classical in
noncomputable def tz(G:List Int):List dy->aw->Int×aw
 |[],L=>(0,L)
 |l :: ls,L=>if(zG L l).2.1=0/\ei (zG L l).2.2 (ky (zG L l).2.2 G) (zG L l).1 then((zG L l).1,(zG L l).2.2)else tz G ls (zG L l).2.2
def jb(ao c:Int)(x:ByteArray):List dy:=[⟨2,ao,c,x,false⟩,⟨6,0,c,x,false⟩]
noncomputable def pY(L:aw)(G:List Int)(ao c:Int)(x:ByteArray):Int×aw:=if qM ao=true then tz G (jb ao c x) L else(0,L)
def BF{L l}(h:(zG L l).2.1=0)(e:Wf L):vR l=0/\al (zG L l).2.2 (zG L l).1=true/\zA (zG L l).2.2 (zG L l).1=zT l true true:=by
 have a:vR l=0:=by
  unfold zG at h;split at h;exact h;grind
 have b:zG L l=of L (zT l true true):=by unfold zG;rw[if_neg Om]
 obtain⟨c,d,_⟩:=OV e (by rw[<-b];exact h);rw[<-b]at c d;exact⟨a,c,d⟩
inductive pV(a:aw->Int->Prop)(G:List Int):List dy->aw->Int->aw->Prop
 |nil {L:aw}:pV a G [] L 0 L
 |ie {l:dy} {ls:List dy} {L:aw}:(zG L l).2.1=0->ei (zG L l).2.2 (ky (zG L l).2.2 G) (zG L l).1->pV a G (l :: ls) L (zG L l).1 (zG L l).2.2
 |Cv {l:dy} {ls:List dy} {L b:aw} {r:Int}:(¬((zG L l).2.1=0/\ei (zG L l).2.2 (ky (zG L l).2.2 G) (zG L l).1)\/a (zG L l).2.2 (zG L l).1)->pV a G ls (zG L l).2.2 r b->pV a G (l :: ls) L r b
def pV.eq{G ls L L' r}(h:pV (fun _ _=>False) G ls L r L'):tz G ls L=(r,L'):=by
 induction h with
 |nil=>rfl
 |ie h1 h2=>rw[tz,if_pos ⟨h1,h2⟩]
 |Cv h1 _ a=>rw[tz,if_neg<|h1.resolve_right id,a]
open Classical in
noncomputable def zd(L:aw)(G:List Int)(n:Int):Bool:=match find L (zX n)with|some i=>decide (ky L G<|(i:Int)+1)|none=>false
noncomputable def wC(L:aw)(G:List Int)(ao:Int):Bool:=qM ao&&(zd L G ao ||zd L G 2)
end Go.Proofs
end
section
open Go Go.SE List
open Go.IntKind renaming i64 -> q6
namespace Go.Proofs
open Tryz
set_option maxRecDepth 100000
set_option maxHeartbeats 4000000
attribute [local irreducible] bu fw fg dv Calls
attribute [local irreducible] jq W WV WR uC pv ku jn oe ka mm kq ll np my iy ez ij nn kz kp uS xD yC bn ub
def px(a:Int):Bool:=(((a==1) ||(a==2)) ||(a==4))
def Ps(a:Int)(f:World):cl 166 #[(.int .i64 a)] f (fun e w'=>e=.returned (.bool<|px a)/\Pure f w'):=
 jr func166 [] (fun b=>(vb<|((a==1) ||(a==2)) ||(a==4))) fun g=>pj 1 0 [] [] (fun b=>[(2,(vb<|((a==1) ||(a==2)) ||(a==4)))]) (fun h=>ct 3 3<|pj 0 0 [(a==1)] [0] (fun b=>[(8,(vb<|(b 0) ||(a==2)))]) (fun c=>pb 1 0 0 c (fun c=>pe 3 0 c)<|fun c=>pe 3 0 c)<|ct 1 3<|pj 0 0 [((a==1) ||(a==2))] [] (fun b=>[(12,(vb<|(b 0) ||(a==4)))]) (fun d=>pb 1 0 0 d (fun d=>pe 3 0 d)<|fun d=>pe 3 0 d)<|pe 1 0 h)<|fe 0 g
def YI(a:Int):Bool:=((px a) ||(a==6))
def Ro(a:Int)(d:World):cl 167 #[(.int .i64 a)] d (fun e w'=>e=.returned (.bool<|YI a)/\Pure d w'):=
 jr func167 [] (fun b=>(vb<|(px a) ||(a==6))) fun f=>pj 1 0 [] [] (fun b=>[(2,(vb<|(px a) ||(a==6)))]) (fun g=>cp 1 call166 (Ps a)<|ct 1 3<|pj 0 0 [(px a)] [] (fun b=>[(8,(vb<|(b 0) ||(a==6)))]) (fun c=>pb 1 0 0 c (fun c=>pe 3 0 c)<|fun c=>pe 3 0 c)<|pe 1 0 g)<|fe 0 f
def Bk(a b e:Int)(c:ByteArray)(d:Bool):Int:=(cond ((((((decide (a<1)) ||(decide (a>7))) ||((b !=0)&&(b !=1))) ||((!(px a))&&(b !=0))) ||((!((px a) ||(a==6)))&&(!(decide (c=⟨#[]⟩))))) ||((d&&(a !=1))&&(a !=4))) 110<|cond (decide ((c.size:Int)>64)) 1 0)
def Rw(a c s:Int)(p:ByteArray)(q:Bool)(r:World):cl 168 #[(.agg #[(.int .i64 a),(.int .i64 c),(.int .u64 s),(.string p),(.bool q)])] r (fun e w'=>e=.returned (.int .i64<|Bk a c s p q)/\Pure r w'):=
 jr func168 [((((((decide (a<1)) ||(decide (a>7))) ||((c !=0)&&(c !=1))) ||((!(px a))&&(c !=0))) ||((!((px a) ||(a==6)))&&(!(decide (p=⟨#[]⟩))))) ||((q&&(a !=1))&&(a !=4))),(decide ((p.size:Int)>64))] (fun b=>(vi<|cond (b 0) 110<|cond (b 1) 1 0)) fun o=>nh 0<|pj 1 0 [(((((decide (a<1)) ||(decide (a>7))) ||((c !=0)&&(c !=1))) ||((!(px a))&&(c !=0))) ||((!((px a) ||(a==6)))&&(!(decide (p=⟨#[]⟩)))))] [1] (fun b=>[(56,(vb<|(b 0) ||((q&&(a !=1))&&(a !=4))))]) (fun n=>lh 1 0 []<|ct 2 4<|pj 0 0 [(decide (a<1))] [1] (fun b=>[(10,(vb<|(b 0) ||(decide (a>7))))]) (fun d=>pb 1 0 0 d (fun d=>pe 4 0 d)<|fun d=>lh 1 0 []<|pe 2 0 d)<|ct 1 9<|pj 0 0 [((decide (a<1)) ||(decide (a>7)))] [1] (fun b=>[(20,(vb<|(b 0) ||((c !=0)&&(c !=1))))]) (fun k=>pb 1 0 0 k (fun k=>pe 9 0 k)<|fun k=>lh 1 0 [1]<|ct 2 4<|pj 0 0 [(c !=0)] [1,11] (fun b=>[(19,(vb<|(b 0)&&(c !=1)))]) (fun g=>pb 1 0 0 g (fun g=>lh 1 0 [1]<|pe 2 0 g)<|fun g=>pe 4 0 g)<|pe 1 0 k)<|ct 1 10<|pj 0 0 [(((decide (a<1)) ||(decide (a>7))) ||((c !=0)&&(c !=1)))] [1] (fun b=>[(31,(vb<|(b 0) ||((!(px a))&&(c !=0))))]) (fun f=>pb 1 0 0 f (fun f=>pe 10 0 f)<|fun f=>lh 1 0 []<|cp 0 call166 (Ps a)<|ct 2 4<|pj 0 0 [(!(px a))] [1,21] (fun b=>[(30,(vb<|(b 0)&&(c !=0)))]) (fun i=>pb 1 0 0 i (fun i=>lh 1 0 [1]<|pe 2 0 i)<|fun i=>pe 4 0 i)<|pe 1 0 f)<|ct 1 10<|pj 0 0 [((((decide (a<1)) ||(decide (a>7))) ||((c !=0)&&(c !=1))) ||((!(px a))&&(c !=0)))] [1] (fun b=>[(42,(vb<|(b 0) ||((!((px a) ||(a==6)))&&(!(decide (p=⟨#[]⟩))))))]) (fun h=>pb 1 0 0 h (fun h=>pe 10 0 h)<|fun h=>lh 1 0 []<|cp 0 call167 (Ro a)<|ct 2 4<|pj 0 0 [(!((px a) ||(a==6)))] [1,32] (fun b=>[(41,(vb<|(b 0)&&(!(decide (p=⟨#[]⟩)))))]) (fun j=>pb 1 0 0 j (fun j=>lh 1 0 [3]<|pe 2 0 j)<|fun j=>pe 4 0 j)<|pe 1 0 h)<|pb 1 1 0 n (fun n=>pe 13 0 n)<|fun n=>lh 1 0 [4]<|ct 1 4<|pj 0 0 [q] [1,43] (fun b=>[(50,(vb<|(b 0)&&(a !=1)))]) (fun l=>pb 1 0 0 l (fun l=>lh 1 0 []<|pe 2 0 l)<|fun l=>pe 4 0 l)<|ct 1 4<|pj 0 0 [(q&&(a !=1))] [1,43] (fun b=>[(55,(vb<|(b 0)&&(a !=4)))]) (fun m=>pb 1 0 0 m (fun m=>lh 1 0 []<|pe 2 0 m)<|fun m=>pe 4 0 m)<|pe 1 0 n)<|pb 0 0 0 o (fun o=>fe 2 o)<|fun o=>lh 2 0 [3]<|pb 0 2 1 o (fun o=>fe 2 o)<|fun o=>fe 2 o
def Mu(r:Option Addr)(f g i:Int)(d:ByteArray)(h:Bool)(c:World)(K:Int->Int->WP):Prop:=Br (((Bk f g i d h):Int) !=0) (∀b a,af c ar c b a->K 0 (Bk f g i d h) a)<|∀b a,af c ar c b a->cl 25 #[(.agg #[(vi f),(vi g),(vu i),(vs d),(vb h)]),(vb true),(vb true)] a fun e j=>∃m q p k o l,e=.returned (Aa m q p k o l)/\aj b a j/\cl 96 #[(vp r),(.agg #[(vi m),(vi q),(vi p),(vu k),(vs o),l.v])] j (XH fun r1 r2 n=>aj b j n/\K r1 r2 n)
def jcT(p1 aA aB aN aD aE w0 K)(h:Mu p1 aA aB aN aD aE w0 K):
  cl 149 #[(vp p1),(.agg #[(vi aA),(vi aB),(vu aN),(vs aD),(vb aE)])] w0<|XH K:=
 du func149 h<|nh 0<|iu 2 0 [] 5<|cp 0 call168 (Rw aA aB aN aD aE)<|br 0 3 (ah<|rr 4)<|iu 2 0 [] 5<|ah<|po 0 call25<|im 0 call96<|rr 4
def Va(j k n:Int)(h:ByteArray)(l:Bool)(f:World)(K:Sl->Int->WP):Prop:=∀a c,af f ar f a c->cl 44 #[] c fun e d=>∃r1,e=.returned (vp r1)/\aj a c d/\cl 149 #[(vp r1),(.agg #[(vi j),(vi k),(vu n),(vs h),(vb l)])] d fun e b=>∃r2 r3,e=.returned (.tuple #[(vi r2),(vi r3)])/\aj a d b/\Br (r3 !=0) (K Sl.nil r3 b) (cl 102 #[(vp r1),(vi r2)] b<|XM fun i m g=>aj a b g/\K i m g)
def YS(aA aB aN aD aE w0 K)(h:Va aA aB aN aD aE w0 K):
  cl 98 #[(.agg #[(vi aA),(vi aB),(vu aN),(vs aD),(vb aE)])] w0<|XM K:=
 du func98 h<|nh 0<|ah<|dw 2 call44<|iu 2 0 [] 5<|im 0 call149<|br 0 7 (rr 4)<|im 3 call102<|rr 4
end Go.Proofs
end
section
open Go Go.SE List
namespace Go.Proofs
attribute [local irreducible] Calls
def Wi(l):Bk l.kind l.az l.c l.bb l.dz=vR l:=by
 have⟨k,f,c,x,g⟩:=l;unfold Bk vR;have i:px k=vM k:=rfl;rw[i];have d:(vM k ||k==6)=qK k:=rfl;rw[d];have e:decide (((x.size:Int))>64)=decide (x.size>64):=decide_eq_decide.2 Om;rw[e];generalize vM k=a;generalize qK k=b;have j:((((((decide (k<1)) ||(decide (k>7))) ||(((f:Int) !=0)&&((f:Int) !=1))) ||((!a)&&((f:Int) !=0))) ||((!b)&&(!(decide (x=(⟨#[]⟩:ByteArray)))))) ||((g&&((k:Int) !=1))&&((k:Int) !=4)))=decide (k<1\/k>7\/(f≠0/\f≠1)\/(a=false/\f≠0)\/(b=false/\x≠⟨#[]⟩)\/(g=true/\k≠1/\k≠4)):=Gd;rw[j];by_cases h:(k<1\/k>7\/(f≠0/\f≠1)\/(a=false/\f≠0)\/(b=false/\x≠⟨#[]⟩)\/(g=true/\k≠1/\k≠4));grind;grind
end Go.Proofs
end
section
open Go Go.SE
namespace Go.Proofs
attribute [local irreducible] Calls
def cz.ue{S w w' s t}(h:cz S w' s t)(d:Pure w w')(e:∀b,S b->b<w.heap.size):cz S w s t:=by
 induction h with
 |mk k f t u x m s rs len c row fj g =>
  refine .mk k f t u x m s rs len c (fun i h=>let ⟨a,h1,h2,h3⟩:=row i h;⟨a,h1,h2,fun j l=>?_⟩) g
  rw[<-h3 j l]
  unfold World.cell?
  rw[zC,d.gq _ (e _ h2) fun h=>h]
end Go.Proofs
end
section
open Go Go.SE List
namespace Go.Proofs
attribute [local irreducible] Calls
end Go.Proofs
end
section
open Go Go.SE List
namespace Go.Proofs
open Tryz
attribute [local irreducible] Calls
abbrev MkR(S:Int×Int×aw)(p:Addr)(F:NP)(a w':World):Prop:=∃F',vP w' p S.2.2 F'/\ab F a w'/\∀b,F' b->F b\/a.heap.size<=b
def Zu(p l w0){L F}(w:vP w0 p L F)(t:Ok L):
  cl 149 #[vp<|some p,.agg #[vi l.kind,vi l.az,vu l.c,vs l.bb,vb l.dz]] w0<|XH fun r1 r2 w'=>r1=(zG L l).1/\r2=(zG L l).2.1/\MkR (zG L l) p F w0 w':=by
 refine jcT (some p) l.kind l.az l.c l.bb l.dz w0 _ ?_
 unfold Mu
 rw[Wi l]
 have C:∀b,F b->b<w0.heap.size:=fun b a=>w.lt a
 refine⟨fun g H k hs=>?_,fun g H k hs=>?_⟩
 .have e:zG L l=(0,vR l,L):=by unfold zG;rw[if_pos<|bne_iff_ne.1 g]
  rw[e];exact⟨rfl,rfl,F,w.pure hs.first,ab.pure hs.first,fun b a=>.inl a⟩
 have g:vR l=0:=by simpa using g
 have e:zG L l=of L (zT l true true):=by unfold zG;rw[if_neg<|by simpa using g]
 rw[e]
 have B:=hs.first
 refine(jQT k.heap.size l.kind l.az l.c l.bb l.dz true true k (Nat.le_refl _)<|NA g).mono ?_
 rintro _ y ⟨j,i,f,D⟩
 have f:cz (k.heap.size<=·) y j (zT l true true):=f
 have i:_=Ending.returned (.agg (fy (zT l true true) j).toArray):=i
 generalize zT l true true=T at *
 have⟨m,u,q,s,r,z⟩:=T
 have i:_=Ending.returned (.agg #[vi m,vi u,vi q,vu s,vs r,j.v]):=i
 refine⟨m,u,q,s,r,j,i,D.bz,?_⟩
 have d:=B.trans D
 refine(ZK (S:=fun b=>k.heap.size<=b/\b<y.heap.size) p (.mk m u q s r z) j y f.lt (w.pure d) t (fun b a hh=>Oi (C b a) B.size) fun b a=>a.2).mono ?_
 rintro _ I ⟨r1,r2,rfl,n,F',x,A,o⟩
 have⟨G,E⟩:=Prod.mk.inj n
 refine⟨r1,r2,rfl,A.bk fun b a hh=>Oi (hs.old b a)<|C b hh,G,E,F',x,(ab.pure d).trans A,fun b a=>(o b a).imp id fun h=>Oh d.size⟩
def U6(l)(w:yY l.c)(w0):
  cl 98 #[.agg #[vi l.kind,vi l.az,vu l.c,vs l.bb,vb l.dz]] w0<|XM fun r n w'=>n=(qS l).2/\fv w0 5 1 (dn (qS l).1) r w':=by
 refine YS _ _ _ _ _ w0 _ ?_
 intro E x hs
 have s:=hs.first
 refine(HA x).mono ?_
 rintro _ D ⟨_,rfl,p,F,rfl,B,v,q⟩
 refine⟨_,rfl,v.bz,?_⟩
 refine(Zu p l D B Wf.nil.ok).mono ?_
 rintro _ u ⟨r2,r3,rfl,A,o,I,k,t,y⟩
 have j:=s.trans v
 have d:Pure w0 u:=j.cg t fun i hi m=>Oi (q i m) s.size
 refine⟨_,_,rfl,t.bk fun b g m=>Oi (hs.lt b g)<|q b m,fun f=>?_,fun f=>?_⟩
 .have f:=bne_iff_ne.1 f
  have e:qS l=([],(zG [] l).2.1):=by unfold qS;rw[if_pos (by rw[<-o];exact f)]
  rw[e]
  exact⟨o,bg.nil _ _ _,fun b g=>(by have⟨a,z,_⟩:=g;cases z),d⟩
 .have f:r3=0:=by simpa using f
  have e:qS l=iz (zG [] l).2.2 (zG [] l).1:=by unfold qS;rw[if_neg (by rw[<-o];simpa using f)]
  rw[e,<-A]
  refine(Oq p r2 u (xK Wf.nil l) (AP uE.nil w) k).mono ?_
  rintro _ J ⟨G,H,rfl,C,h⟩
  exact⟨_,_,rfl,h.pure.bz,C,h.cm,fun b g=>Oi (h.ak b g) d.size,d.trans h.pure⟩
def Ia(l:dy)(b:yY l.c)(w0:World):
  cl 40 #[.agg #[vi l.kind,vi l.az,vu l.c,vs l.bb,vb l.dz]] w0<|XS fun r w'=>r=A6 l/\Pure w0 w':=by
 refine jbf _ _ _ _ _ w0 _ ?_
 intro e d hs
 refine(U6 l b d).mono ?_
 rintro _ f ⟨r1,r2,rfl,_,a⟩
 refine⟨_,_,rfl,a.pure.bz,_,A8 underlying59 underlying5 underlying9 a.cm.el,rfl,hs.first.trans a.pure⟩
def jLG(ao c x w0):
  cl 103 #[.agg #[vi ao,vu c,vs x]] w0<|XA fun r w'=>fv w0 35 5 ((jb ao c x).map mf) r w':=by
 refine Vv _ _ _ w0 _ ?_
 intro j m hs l n h2
 have d:=hs.first
 have k:=h2.cu
 have i:=d.size
 exact⟨bg.lit (rs:=(jb ao c x).map mf) h2 rfl (by intro q h;obtain⟨t,_,rfl⟩:=mem_map.1 h;rfl) (by simp[jb,maxLen]),fun b f=>(by have⟨a,g,e⟩:=f;cases g;omega),d.trans<|ab.ax h2⟩
def sG(w0:World)(F0 X H:NP)(w:World)(f:Addr)(L:aw)(G:List Int)(a b:Bool):Prop:=
 ∃F,ik w f L G a b F/\ab F0 w0 w/\(∀y,F y->(F0 y\/w0.heap.size<=y)/\¬H y/\¬X y)/\(∀y,X y->y<w.heap.size/\¬H y)/\∀y,H y->y<w.heap.size
section
variable {w0 w w' wv:World} {F0 F F' X H H' Hv:NP} {f:Addr} {L L':aw} {G G':List Int} {a b a' b':Bool}
def sG.Be(h:sG w0 F0 X H w f L G a b)(E:Pure w w'):sG w0 F0 X H w' f L G a b:=by
 have⟨F,e,d,h1,h2,h3⟩:=h;exact⟨F,e.pure E,d.fb E,h1,fun y c=>⟨Nat.lt_of_lt_of_le (h2 y c).1 E.size,(h2 y c).2⟩,fun y c=>Nat.lt_of_lt_of_le (h3 y c) E.size⟩
def sG.step(h1:∀y,F y->(F0 y\/w0.heap.size<=y)/\¬ H y/\¬ X y)(h2:∀y,X y->y<w.heap.size/\¬ H y)(h3:∀y,H y->y<w.heap.size)(b:ab F0 w0 w)(c:ik w' f L' G' a' b' F')(E:ab F w w')(d:∀y,F' y->F y\/w.heap.size<=y):
  sG w0 F0 X H w' f L' G' a' b'/\aj H w w':=by
 have e:=b.size
 refine⟨⟨F',c,b.cg E Gd,fun y a=>?_,fun y a=>⟨Nat.lt_of_lt_of_le (h2 y a).1 E.size,(h2 y a).2⟩,fun y a=>Nat.lt_of_lt_of_le (h3 y a) E.size⟩,E.bk Gd⟩
 rcases d y a with h|h
 exact h1 y h
 grind
end
abbrev ic(f:Addr)(L:aw)(G:List Int)(a b:Bool):rC:=fun w F=>ik w f L G a b F
def qV{f L G a b}:mh (ic f L G a b):=⟨fun h E d=>ik.ext h E d,fun h _ c=>ik.lt h c⟩
structure JM(P:Program)(f:Addr)(G:List Int)(a b:Bool)(I:rC)(J:aw->Int->rC)(d:aw->Int->Prop)(c:FuncId)(fs cs:Array Value):Prop where
 cl:mh I
 W3:∀args w,(callFunc c args).run P w=.ok (.enter c args) w
 Ys:∀(w:World) (L:aw) (t:Int) (F:NP),ew (ic f L G a b) I w F->al L t=true->ei L (ky L G) t->Calls P c (fs++#[(vi t)]++cs) w (XC fun ok w'=>(ok=true->Tn (ew (ic f L G a b)<|J L t) F w w')/\(ok=false->d L t/\Tn (ew (ic f L G a b) I) F w w'))
def jTT(f ao c x fq fs cs){G a b I J Bad}(R:JM prog f G a b I J Bad fq fs cs)(w0){L F}(h:ew (ic f L G a b) I w0 F):
  cl 48 #[vp<|some f,.agg #[vi ao,vu c,vs x],.func (.func fq) fs cs] w0<|XB fun r w'=>∃L',pV Bad G (if qM ao=true then jb ao c x else[]) L r L'/\(r=0->Tn (ew (ic f L' G a b) I) F w0 w')/\(r≠0->Tn (ew (ic f L' G a b)<|J L' r) F w0 w'):=by
 suffices key:∀K:Int->WP,(∀r w',(∃L',pV Bad G (if qM ao=true then jb ao c x else[]) L r L'/\(r=0->Tn (ew (ic f L' G a b) I) F w0 w')/\(r≠0->Tn (ew (ic f L' G a b)<|J L' r) F w0 w'))->K r w')->FO (some f) ao c x (.func (.func fq) fs cs) w0 K from
  jaX _ _ _ _ _ w0 _<|key _ fun _ _ h=>h
 intro K v
 unfold FO
 have d:∀{L},mh<|ew (ic f L G a b) I:=qV.sQ R.cl
 have T0:=Tk.start h d
 refine⟨fun j=>?_,fun j=>?_⟩
 .intro H2 w3 hs
  rw[if_neg (by unfold qM;simpa using j)]at v
  exact v 0 w3 ⟨L,.nil,fun _=>(T0.au d hs).tn,fun h=>absurd rfl h⟩
 intro H2 w3 hs
 have hp:qM ao=true:=by
  unfold qM;simp at j|-;omega
 rw[if_pos hp]at v
 have T3:=T0.au d hs
 refine(jLG ao c x w3).mono ?_
 rintro _ w5 ⟨r1,rfl,E⟩
 refine⟨_,rfl,E.pure.bz,?_⟩
 have hrl:r1.len=2:=by rw[E.cm.len];rfl
 have hlen:(jb ao c x).length=2:=rfl
 have T5:Tk H2 (ew (sF 35 5 r1<|(jb ao c x).map mf)<|ew (ic f L G a b) I) F w0 w5:=T3.ax d ⟨E.cm,fun _=>Iff.rfl⟩ E.pure E.ak
 generalize jb ao c x=ls at *
 refine⟨fun i H w=>∃n:Nat,i=n/\n<=ls.length/\∃L',(∀r u,pV Bad G (ls.drop n) L' r u->pV Bad G ls L r u)/\Tk H (ew (sF 35 5 r1<|ls.map mf)<|ew (ic f L' G a b) I) F w0 w,fun i _=>((ls.length:Int)-i).toNat,⟨0,rfl,Nat.zero_le _,L,fun _ _ h=>h,T5⟩,?_⟩
 rintro _ Hl wl hsl ⟨n,rfl,hn,L',o,T⟩
 refine⟨fun g=>?_,fun g=>?_⟩
 .have g:n<ls.length:=Oh<|of_decide_eq_true g
  have⟨_,W,_⟩:=T.l xj d
  have⟨a1,hat,_,N⟩:=W.1.el.kg g
  rw[drop_eq_getElem_cons g]at o
  generalize ls[n]=l at *
  refine⟨a1,hat,l.kind,l.az,l.c,l.bb,l.dz,N,fun H3 w7 hs7=>⟨fun _=>True,trivial,?_⟩⟩
  rintro w8 rfl
  have T8:=(T.au (xj.sQ d) hs7).pure (xj.sQ d)<|ab.drew w7
  generalize w7.drew=w8 at *
  have⟨F1,D,_,k8⟩:=T8.r xj d
  have⟨F2,q,_,k8'⟩:=D.one R.cl<|d.lt D
  have⟨k,p,S,FK,FP,q,hF⟩:=q
  refine⟨f,rfl,some p,q.box.cell rfl,?_⟩
  refine(Tl p l w8 q.bl q.wf.ok).mono ?_
  rintro _ w9 ⟨r2,r3,rfl,e2,e3,FP',P,E9,z⟩
  have⟨M,hM⟩:=tY q.wf.ok l
  have s:=xK q.wf l
  have hM':=hM
  rw[hM]at P s
  have e:=q.qp P s E9 z
  rw[<-hM']at e s
  have⟨T9,V⟩:=k8 (k8' (A':=ic f (zG L' l).2.2 G a b) ⟨_,⟨k,p,S,FK,FP',e,fun _=>Iff.rfl⟩,E9.mono Gd,by
   rintro y (rfl|U|U)
   .grind
   .grind
   .exact(z y U).imp Gd id⟩)
  refine⟨r2,r3,rfl,trivial,V,?_⟩
  have C:ei (zG L' l).2.2 (fun y=>y∈zH S) r2↔ei (zG L' l).2.2 (ky (zG L' l).2.2 G) r2:=
   ⟨ei.mono fun t ht=>(e.ok.AL t).1 ht,ei.mono fun t ht=>(e.ok.AL t).2 ht⟩
  have next : ∀ w, Tk H3 (ew (sF 35 5 r1<|ls.map mf)<|ew (ic f (zG L' l).2.2 G a b) I) F w0 w -> (¬ ((zG L' l).2.1 = 0 /\ ei (zG L' l).2.2 (ky (zG L' l).2.2 G) (zG L' l).1) \/ Bad (zG L' l).2.2 (zG L' l).1) ->
    (∃m:Nat,IntKind.i64.wrap ((n:Int)+1)=m/\m<=ls.length/\∃L',(∀r u,pV Bad G (ls.drop m) L' r u->pV Bad G ls L r u)/\Tk H3 (ew (sF 35 5 r1<|ls.map mf)<|ew (ic f L' G a b) I) F w0 w)/\((ls.length:Int)-IntKind.i64.wrap ((n:Int)+1)).toNat<((ls.length:Int)-(n:Int)).toNat:=by
   intro w h1 h3
   rw[zM g Om]
   exact⟨⟨n+1,rfl,g,_,fun r u h=>o _ _<|.Cv h3 h,h1⟩,yQ g⟩
  refine⟨fun j=>?_,fun j=>?_⟩
  .have j:r3=0:=beq_iff_eq.1 j
   have O:(zG L' l).2.1=0:=by rw[<-e3];exact j
   refine⟨f,rfl,some k,e.box.bf,?_⟩
   refine(jOC k p r2 w9 e.wf e.ok e.fl e.bl).mono ?_
   rintro _ w11 ⟨r5,rfl,Y,A⟩
   refine⟨_,rfl,A.bz,?_⟩
   have B:=T9.pure (xj.sQ d) A
   refine⟨fun h5=>?_,fun h5=>?_⟩
   .have hd:=C.1<|Y.1 h5
    rw[e2]at hd
    have⟨F3,hs3,_,k3⟩:=B.r xj d
    have⟨_,b2,_⟩:=BF O q.wf
    refine⟨fq,fs,cs,rfl,R.W3,?_⟩
    rw[e2]
    refine(R.Ys w11 _ _ F3 hs3 b2 hd).mono ?_
    rintro _ w10 ⟨ok,rfl,U,Q⟩
    refine⟨ok,rfl,?_,fun h=>?_,fun h=>?_⟩
    .grind
    .subst h
     have X:=(k3<|U rfl).1
     have Z:(zG L' l).1≠0:=Oh<|(zI.1 b2).1
     exact v _ _ ⟨_,o _ _<|.ie O hd,fun h=>absurd h Z,fun _=>(X.xg.sub ew.fst).tn⟩
    .subst h
     exact next _ (k3 (Q rfl).2).1 (.inr (Q rfl).1)
   .exact next _ B (.inl Gd)
  .have j:¬r3=0:=fun h=>by rw[h]at j;cases j
   refine⟨fun h=>(by cases h),fun _=>?_⟩
   exact next _ T9 (.inl Gd)
 .have:n=ls.length:=Oh<|of_decide_eq_false g
  subst this
  rw[drop_length]at o
  exact v 0 wl ⟨L',o _ _ .nil,fun _=>(T.xg.sub ew.fst).tn,fun h=>absurd rfl h⟩
def QG{f:Addr}{G:List Int}{a b:Bool}:JM prog f G a b AE (fun _ _=>AE) (fun _ _=>False) 51 #[] #[]:=
 ⟨MU,call51,fun w L t F h _ _=>(jct t w).mono fun e w' ⟨c,E⟩=>⟨true,c,fun _=>⟨F,(qV.sQ MU).ext h E fun _ _ h=>h,ab.pure E,fun y d=>.inl d⟩,fun h=>(by cases h)⟩⟩
def Fs(f ao c x w0){L G a b F}(h:ik w0 f L G a b F):
  cl 13 #[vp<|some f,.agg #[vi ao,vu c,vs x]] w0<|XC fun r w'=>(r=true↔(pY L G ao c x).1≠0)/\Tn (ic f (pY L G ao c x).2 G a b) F w0 w':=by
 refine Z8 _ _ _ _ w0 _ ?_
 intro p d hs
 have l:=(Tk.start h qV).au qV hs
 have⟨j,m,_,i⟩:=(l.ax (C:=AE) qV (fun _ h=>h) (ab.refl _) fun _ h=>h.elim).xg.one
 refine(jTT f ao c x _ #[] #[] QG d m).mono ?_
 rintro _ n ⟨r,rfl,L',g,o,h1⟩
 have e:(r,L')=pY L G ao c x:=by
  rw[<-g.eq];unfold pY;split<;>rfl
 have t:Tn (ew (ic f L' G a b) AE) j d n:=Gd
 have⟨k,kp⟩:=i t
 rw[<-e]
 exact⟨_,rfl,kp,Sm,(k.sub ew.fst).tn⟩
def JX(f ao w0){L G a b F}(h:ik w0 f L G a b F):
  cl 67 #[vp<|some f,vi ao] w0<|XC fun r w'=>r=zd L G ao/\Pure w0 w':=by
 refine jai _ _ w0 _ ?_
 unfold LV
 have⟨k,p,S,l,j,h,g⟩:=h
 refine⟨f,rfl,some p,h.box.cell rfl,?_⟩
 refine(Gt p (zX ao) w0 h.bl h.wf.ok).mono ?_
 rintro _ d ⟨r1,r2,rfl,hr,c⟩
 have h1:=h.ext c fun _ _ h=>h
 refine⟨r1,r2,rfl,?_⟩
 unfold zd
 split at hr
 rename_i i hi
 obtain⟨rfl,rfl⟩:=hr
 refine⟨fun _=>?_,fun h=>(by cases h)⟩
 refine⟨f,rfl,some k,h1.box.bf,?_⟩
 refine(KD k p ((i:Int)+1) d h1.fl).mono ?_
 rintro _ m ⟨r3,rfl,rfl,e⟩
 refine⟨_,rfl,?_,c.trans e⟩
 rw[hi]
 classical
 exact decide_eq_decide.2<|h1.ok.AL _
 rename_i hi
 obtain⟨rfl,rfl⟩:=hr
 refine⟨fun h=>(by cases h),fun _=>⟨?_,c⟩⟩
 rw[hi]
def JE(f ao w0){L G a b F}(h:ik w0 f L G a b F):
  cl 21 #[vp<|some f,vi ao] w0<|XC fun r w'=>r=wC L G ao/\Pure w0 w':=by
 refine jbS _ _ w0 _ ?_
 refine⟨fun g=>?_,fun g=>?_⟩
 .intro l k hs
  have c:qM ao=true:=by unfold qM;simpa using g
  have d:=hs.first
  refine(JX f ao k<|h.pure d).mono ?_
  rintro _ m ⟨r1,rfl,i,e⟩
  refine⟨_,rfl,e.bz,fun h1=>?_,fun h1=>?_⟩
  .refine⟨?_,d.trans e⟩
   unfold wC;rw[c,<-i,h1];rfl
  .refine(JX f 2 m<|(h.pure d).pure e).mono ?_
   rintro _ o ⟨r2,rfl,n,j⟩
   refine⟨_,rfl,j.bz,?_,(d.trans e).trans j⟩
   unfold wC;rw[c,<-i,h1,n];rfl
 .intro l k hs
  refine⟨?_,hs.first⟩
  have c:qM ao=false:=by unfold qM;simpa using g
  unfold wC;rw[c];rfl
section
variable {w0 w:World} {F0 X H:NP} {f:Addr} {L:aw} {G:List Int} {a b:Bool}
end
def Cn(c c1 c2:Addr):List (Int×Value):=
 [(0,.func (.func 223) #[] #[vp<|some c1]),(1,.func (.func 224) #[] #[vp<|some c2]),(2,.func (.func 226) #[] #[vp<|some c2]),
  (3,.func (.func 228) #[] #[vp<|some c2]),(4,.func (.func 230) #[] #[vp<|some c1,vp<|some c2]),(5,.func (.func 233) #[] #[vp<|some c1,vp<|some c2]),
  (6,.func (.func 235) #[] #[vp<|some c1]),(7,.func (.func 237) #[] #[vp<|some c1]),(8,.func (.func 238) #[vp<|some c] #[]),
  (9,.func (.func 239) #[] #[vp<|some c1,vp<|some c2]),(10,.func (.func 242) #[] #[vp<|some c1,vp<|some c2]),(11,.func (.func 246) #[] #[vp<|some c1,vp<|some c2])]
section
variable {w0:World} {c p c1 c2:Addr} {sg sm:Sl} {G M:List Int} (hC:rB w0 c p sg sm G M)
variable (h1:w0.cell? c1=some (vp<|some c)) (h2:w0.cell? c2=some (vp<|some p))
variable {L:aw} {F:NP} (hP:zD w0 p L F) (hok:Ok L)
abbrev jv(p:Addr)(F:NP)(w:World)(R:qo)(r1 r2:Int)(w':World):Prop:=(r1,r2)=(R.1,R.2.1)/\∃F',zD w' p R.2.2 F'/\ab F w w'/\∀b,F' b->F b\/w.heap.size<=b
def jv.ba{p F w w1 w' R r1 r2}(E:Pure w w1)(h:jv p F w1 R r1 r2 w'):jv p F w R r1 r2 w':=by
 have⟨h1,F',h2,h3,c⟩:=h;exact⟨h1,F',h2,E.pure.trans h3,fun b a=>(c b a).imp_right fun h=>Oh E.size⟩
include hC h1 hP in
def YU(o):cl 223 #[pk o,vp<|some c1] w0 (pr p F w0<|uZ L G o):=by
 have⟨g,oa,d,on,f⟩:=o;refine jca g oa d on f _ w0 (jv p F w0<|uZ L G ⟨g,oa,d,on,f⟩) ?_;unfold PK;have s:sg.len=G.length:=by rw[hC.jy.len,vA]
 have no:∀H w,af w0 ar w0 H w->fa G oa=none->jv p F w0 (uZ L G ⟨g,oa,d,on,f⟩) 0 90 w:=fun H w hs q=>by
  have e:uZ L G ⟨g,oa,d,on,f⟩=mn L:=by unfold uZ;simp only;rw[q]
  rw[e];exact⟨rfl,F,hP.pure hs.first,hs.first.pure,fun b j=>.inl j⟩
 refine⟨fun h=>fun H w hs=>?_,fun h=>fun H w hs=>?_⟩
 .exact Br.t rfl (no H w hs<|ui<|.inl<|of_decide_eq_true h)
 .have h:=of_decide_eq_false h;have C:=hC.pure hs.first;refine⟨some c,(hs.first).cell h1 fun h=>h,c,rfl,sg,C.box.cell rfl,?_⟩;refine⟨fun h3=>no H w hs<|ui<|.inr Gd,fun h3=>?_⟩;have h3:=of_decide_eq_false h3;intro u k;have i:=hs.first.au k;have l:=hC.pure i;have e:fa G oa=some (G[oa.toNat]' Om):=th Om Om;have⟨a,n,m⟩:=Ci l.jy e;refine⟨some c,i.cell h1 fun h=>h,c,rfl,sg,l.box.cell rfl,a,n,_,m,?_⟩;have r:uZ L G ⟨g,oa,d,on,f⟩=(G[oa.toNat]' Om,0,L):=by unfold uZ;simp only;rw[e]
  rw[r];exact⟨rfl,F,hP.pure i,i.pure,fun b j=>.inl j⟩
include h2 hP hok in
def QJ(o):cl 224 #[pk o,vp<|some c2] w0 (pr p F w0<|ay L ⟨1,o.a,0,0,⟨#[]⟩,0,0⟩):=by
 have⟨k,oa,g,on,j⟩:=o;refine Xq _ _ _ _ _ _ w0 (jv p F w0<|ay L ⟨1,oa,0,0,⟨#[]⟩,0,0⟩) ?_;intro i f c;refine⟨some p,c.first.cell h2 fun h=>h,?_⟩;refine(jbn p f (hP.pure c.first) hok oa).mono ?_;rintro _ l ⟨r1,r2,rfl,h⟩;exact⟨r1,r2,rfl,h.2.elim fun F' h=>h.2.1.bk fun b d e=>Oi (c.old b d)<|hP.lt e,jv.ba c.first h⟩
include h2 hP hok in
def zJN(o):cl 226 #[pk o,vp<|some c2] w0 (pr p F w0<|ay L ⟨2,0,0,o.num,⟨#[]⟩,0,0⟩):=by
 have⟨j,oa,f,on,i⟩:=o;refine jbR _ _ _ _ _ _ w0 (jv p F w0<|ay L ⟨2,0,0,on,⟨#[]⟩,0,0⟩) ?_;intro g e a;refine⟨some p,a.first.cell h2 fun h=>h,?_⟩;refine(jcM p e (hP.pure a.first) hok on).mono ?_;rintro _ k ⟨r1,r2,rfl,h⟩;exact⟨r1,r2,rfl,h.2.elim fun F' h=>h.2.1.bk fun b c d=>Oi (a.old b c)<|hP.lt d,jv.ba a.first h⟩
include h2 hP hok in
def RE(o):cl 228 #[pk o,vp<|some c2] w0 (pr p F w0<|ay L ⟨3,0,0,0,o.bb,0,0⟩):=by
 have⟨j,oa,g,on,c⟩:=o;refine Ye _ _ _ _ _ _ w0 (jv p F w0<|ay L ⟨3,0,0,0,c,0,0⟩) ?_;intro i f a;refine⟨some p,a.first.cell h2 fun h=>h,?_⟩;refine(jcR p f (hP.pure a.first) hok c).mono ?_;rintro _ k ⟨r1,r2,rfl,h⟩;exact⟨r1,r2,rfl,h.2.elim fun F' h=>h.2.1.bk fun b d e=>Oi (a.old b d)<|hP.lt e,jv.ba a.first h⟩
include hC h1 h2 hP hok in
def zJL(o):cl 230 #[pk o,vp<|some c1,vp<|some c2] w0 (pr p F w0<|sI L M o):=by
 have⟨x,oa,k,on,u⟩:=o;refine SY _ _ _ _ _ _ _ w0 (jv p F w0<|sI L M ⟨x,oa,k,on,u⟩) ?_;intro s m n;have d:=n.first;refine⟨some c,d.cell h1 fun h=>h,?_⟩;refine(Bx (hC.pure d) oa).mono ?_;rintro _ m ⟨y,r,rfl,g,rfl⟩;refine⟨_,_,rfl,aj.refl _,some c,d.cell h1 fun h=>h,?_⟩;refine(Bx (hC.pure d) k).mono ?_;rintro _ m ⟨rb,q,rfl,e,rfl⟩;refine⟨_,_,rfl,aj.refl _,?_⟩;unfold sI;simp only;have no:∀H w,af w0 s m H w->jv p F w0 (mn L) 0 90 w:=fun H w hs=>⟨rfl,F,hP.pure<|d.au hs,(d.au hs).pure,fun b l=>.inl l⟩;cases i:fa M oa with
 |none =>
  rw[i]at g;obtain⟨rfl,rfl⟩:=g
  exact Br.t Sm fun H w hs=>no H w hs
 |some a =>
  rw[i]at g;obtain⟨rfl,rfl⟩:=g
  simp only
  cases j:fa M k with
  |none =>
   rw[j]at e;obtain⟨rfl,rfl⟩:=e
   exact Br.t Sm fun H w hs=>no H w hs
  |some b =>
   rw[j]at e;obtain⟨rfl,rfl⟩:=e
   simp only
   refine Br.f rfl fun H w hs=>⟨some p,(d.au hs).cell h2 fun h=>h,?_⟩
   refine(TM p w (hP.pure<|d.au hs) hok y rb).mono ?_
   rintro _ z ⟨r1,r2,rfl,h⟩
   exact⟨r1,r2,rfl,h.2.elim fun F' h=>h.2.1.bk fun b l v=>Oi (hs.old b l)<|hP.lt v,jv.ba (d.au hs) h⟩
include hC h1 h2 hP hok in
def zJK(o):cl 233 #[pk o,vp<|some c1,vp<|some c2] w0 (pr p F w0<|te L M o):=by
 have⟨r,oa,k,on,m⟩:=o;refine UR _ _ _ _ _ _ _ w0 (jv p F w0<|te L M ⟨r,oa,k,on,m⟩) ?_;intro u q i;have e:=i.first;refine⟨some c,e.cell h1 fun h=>h,?_⟩;refine(Bx (hC.pure e) oa).mono ?_;rintro _ q ⟨s,l,rfl,d,rfl⟩;refine⟨_,_,rfl,aj.refl _,?_⟩;unfold te;simp only;cases g:fa M oa with
 |none =>
  rw[g]at d;obtain⟨rfl,rfl⟩:=d
  exact Br.t rfl ⟨rfl,F,hP.pure e,e.pure,fun b j=>.inl j⟩
 |some a =>
  rw[g]at d;obtain⟨rfl,rfl⟩:=d
  simp only
  refine Br.f rfl ⟨some p,e.cell h2 fun h=>h,?_⟩
  refine(VE p _ (hP.pure e) hok s).mono ?_
  rintro _ v ⟨r1,r2,rfl,h⟩
  exact⟨r1,r2,rfl,h.2.elim fun F' h=>h.2.1.bk fun b j n=>Oi (i.old b j)<|hP.lt n,jv.ba e h⟩
include hC h1 hP hok in
def Wy(o):cl 235 #[pk o,vp<|some c1] w0 (pr p F w0<|uG L M o false):=by
 have⟨g,oa,e,on,f⟩:=o;refine jbZ _ _ _ _ _ _ w0 (jv p F w0<|uG L M ⟨g,oa,e,on,f⟩ false) ?_;intro k l a;have d:=a.first;refine⟨some c,d.cell h1 fun h=>h,?_⟩;refine(JN (hC.pure d) (hP.pure d) hok ⟨g,oa,e,on,f⟩ false).mono ?_;rintro _ m ⟨r1,r2,rfl,h⟩;exact⟨r1,r2,rfl,h.2.elim fun F' h=>h.2.1.bk fun b j i=>Oi (a.old b j)<|hP.lt i,jv.ba d h⟩
include hC h1 hP hok in
def zJI(o):cl 237 #[pk o,vp<|some c1] w0 (pr p F w0<|uG L M o true):=by
 have⟨g,oa,e,on,f⟩:=o;refine QN _ _ _ _ _ _ w0 (jv p F w0<|uG L M ⟨g,oa,e,on,f⟩ true) ?_;intro k l a;have d:=a.first;refine⟨some c,d.cell h1 fun h=>h,?_⟩;refine(JN (hC.pure d) (hP.pure d) hok ⟨g,oa,e,on,f⟩ true).mono ?_;rintro _ m ⟨r1,r2,rfl,h⟩;exact⟨r1,r2,rfl,h.2.elim fun F' h=>h.2.1.bk fun b j i=>Oi (a.old b j)<|hP.lt i,jv.ba d h⟩
include hC h1 h2 hP hok in
def X0(o:Op):cl 239 #[pk o,vp<|some c1,vp<|some c2] w0 (pr p F w0<|qA L M o fun k a=>⟨7,k,0,0,⟨#[]⟩,a,0⟩):=by
 have⟨i,oa,f,on,g⟩:=o;refine SH _ _ _ _ _ _ _ w0 (jv p F w0<|qA L M ⟨i,oa,f,on,g⟩ fun k a=>⟨7,k,0,0,⟨#[]⟩,a,0⟩) ?_;intro n q e;have d:=e.first;refine⟨some c,d.cell h1 fun h=>h,some p,d.cell h2 fun h=>h,?_⟩;refine(F6 (hC.pure d) (hP.pure d) hok ⟨i,oa,f,on,g⟩ 241 #[vp<|some p] #[] (fun k a=>⟨7,k,0,0,⟨#[]⟩,a,0⟩) call241 fun k a w' m=>?_).mono ?_
 .exact jbb p w' ((hP.pure d).pure m) hok k a
 rintro _ r ⟨r1,r2,rfl,h⟩;exact⟨r1,r2,rfl,h.2.elim fun F' h=>h.2.1.bk fun b l j=>Oi (e.old b l)<|hP.lt j,jv.ba d h⟩
variable (hd:¬F c2.block)
include hC h1 h2 hP hok hd in
def TH(o:Op):cl 242 #[pk o,vp<|some c1,vp<|some c2] w0 (pr p F w0<|qA L M o fun k a=>⟨8,k,rU o.num,0,⟨#[]⟩,a,0⟩):=by
 have⟨t,oa,i,on,j⟩:=o;refine Xd t oa i on j _ _ w0 (jv p F w0<|qA L M ⟨t,oa,i,on,j⟩ fun k a=>⟨8,k,rU on,0,⟨#[]⟩,a,0⟩) ?_;intro e y d;have f:Pure w0 y:=ab.ax d;have v:=ai.bj d;refine⟨some c,f.cell h1 fun h=>h,_,_,_,_,_,v.row,?_⟩;refine(F6 (hC.pure f) (hP.pure f) hok ⟨t,oa,i,on,j⟩ 243 #[] #[vp<|some c2,vp<|some e] (fun k a=>⟨8,k,rU on,0,⟨#[]⟩,a,0⟩) call243 fun k a w' r=>?_).mono ?_;refine jbq k a _ _ w' (jv p F w'<|ay L ⟨8,k,rU on,0,⟨#[]⟩,a,0⟩) ?_;unfold JJ;have s:w'.cell? c2=some (vp<|some p):=(f.trans r).cell h2 fun h=>h;have n:w'.cell? (e.add 3)=some (vu on):=(v.pure r).cell rfl;have m:¬F (e.add 3).block:=fun h=>by rw[zC]at h;have:=hP.lt h;have:=d.cu;omega
 have q:Pure w' w'.drew:=ab.drew w';have gq:∀{X:NP} {a b:World},(a.cell? c2=some (vp<|some p)/\a.cell? (e.add 3)=some (vu on))->ab X a b->(∀b,X b->F b)->b.cell? c2=some (vp<|some p)/\b.cell? (e.add 3)=some (vu on):=fun h E l=>⟨E.cell h.1 fun hh=>hd<|l _ hh,E.cell h.2 fun hh=>m<|l _ hh⟩;have u:=gq ⟨s,n⟩ q fun _ h=>h.elim;refine⟨fun w=>w.cell? c2=some (vp<|some p)/\w.cell? (e.add 3)=some (vu on),u,?_⟩;rintro _ rfl;refine⟨some p,fun _ h=>h.1,on,fun _ h=>h.2,?_⟩;refine(MP on _).mono ?_;rintro _ x ⟨rfl,g⟩;have z:=gq u g fun _ h=>h.elim;refine⟨_,rfl,z,g.bz,?_⟩;refine(V2 p x (hP.pure<|((f.trans r).trans q).trans g) hok k (Hn on) a).mono ?_;rintro _ B ⟨r1,r2,rfl,h⟩;exact⟨r1,r2,rfl,h.2.elim Gd,h.2.elim fun F' h=>h.2.1.bk fun b A l=>A.elim,jv.ba (q.trans g) h⟩;rintro _ x ⟨r1,r2,rfl,h⟩;exact⟨r1,r2,rfl,jv.ba f h⟩
include hC h1 h2 hP hok hd in
def zFL(o:Op):cl 246 #[pk o,vp<|some c1,vp<|some c2] w0 (pr p F w0<|qA L M o fun k a=>⟨9,rU o.num,k,0,⟨#[]⟩,a,0⟩):=by
 have⟨t,oa,i,on,j⟩:=o;refine Sj t oa i on j _ _ w0 (jv p F w0<|qA L M ⟨t,oa,i,on,j⟩ fun k a=>⟨9,rU on,k,0,⟨#[]⟩,a,0⟩) ?_;intro e y d;have f:Pure w0 y:=ab.ax d;have v:=ai.bj d;refine⟨some c,f.cell h1 fun h=>h,_,_,_,_,_,v.row,?_⟩;refine(F6 (hC.pure f) (hP.pure f) hok ⟨t,oa,i,on,j⟩ 247 #[] #[vp<|some c2,vp<|some e] (fun k a=>⟨9,rU on,k,0,⟨#[]⟩,a,0⟩) call247 fun k a w' r=>?_).mono ?_;refine jcU k a _ _ w' (jv p F w'<|ay L ⟨9,rU on,k,0,⟨#[]⟩,a,0⟩) ?_;unfold N1;have s:w'.cell? c2=some (vp<|some p):=(f.trans r).cell h2 fun h=>h;have n:w'.cell? (e.add 3)=some (vu on):=(v.pure r).cell rfl;have m:¬F (e.add 3).block:=fun h=>by rw[zC]at h;have:=hP.lt h;have:=d.cu;omega
 have q:Pure w' w'.drew:=ab.drew w';have gq:∀{X:NP} {a b:World},(a.cell? c2=some (vp<|some p)/\a.cell? (e.add 3)=some (vu on))->ab X a b->(∀b,X b->F b)->b.cell? c2=some (vp<|some p)/\b.cell? (e.add 3)=some (vu on):=fun h E l=>⟨E.cell h.1 fun hh=>hd<|l _ hh,E.cell h.2 fun hh=>m<|l _ hh⟩;have u:=gq ⟨s,n⟩ q fun _ h=>h.elim;refine⟨fun w=>w.cell? c2=some (vp<|some p)/\w.cell? (e.add 3)=some (vu on),u,?_⟩;rintro _ rfl;refine⟨some p,fun _ h=>h.1,on,fun _ h=>h.2,?_⟩;refine(MP on _).mono ?_;rintro _ x ⟨rfl,g⟩;have z:=gq u g fun _ h=>h.elim;refine⟨_,rfl,z,g.bz,?_⟩;refine(Qz p x (hP.pure<|((f.trans r).trans q).trans g) hok (Hn on) k a).mono ?_;rintro _ B ⟨r1,r2,rfl,h⟩;exact⟨r1,r2,rfl,h.2.elim Gd,h.2.elim fun F' h=>h.2.1.bk fun b A l=>A.elim,jv.ba (q.trans g) h⟩;rintro _ x ⟨r1,r2,rfl,h⟩;exact⟨r1,r2,rfl,jv.ba f h⟩
include hC h1 h2 hP hok hd in
def jbY(o:Op):(SE.eu (Cn c c1 c2) o.code=none->yN L G M o=mn L) /\
  ∀v,SE.eu (Cn c c1 c2) o.code=some v->∃(f:FuncId) (fs cs:Array Value),v=.func (.func f) fs cs/\(∀args w,(callFunc f args).run prog w=.ok (.enter f args) w)/\Calls prog f (fs++#[pk o]++cs) w0 (pr p F w0<|yN L G M o):=by
 have d0:=YU hC h1 hP o
 have d1:=QJ h2 hP hok o
 have d2:=zJN h2 hP hok o
 have d3:=RE h2 hP hok o
 have r:=zJL hC h1 h2 hP hok o
 have t:=zJK hC h1 h2 hP hok o
 have j:=Wy hC h1 hP hok o
 have s:=zJI hC h1 hP hok o
 have q:=jRJ hC hP hok o
 have m:=X0 hC h1 h2 hP hok o
 have g:=TH hC h1 h2 hP hok hd o
 have d:=zFL hC h1 h2 hP hok hd o
 generalize x:o.code=k
 unfold yN Cn
 rw[x]
 have step : ∀ (n : Int) (u : Value) (a : List (Int × Value)) (R b : qo), (∃ (f : FuncId) (fs cs : Array Value), u = .func (.func f) fs cs /\ (∀ args w, (callFunc f args).run prog w = .ok (.enter f args) w) /\ Calls prog f (fs ++ #[pk o] ++ cs) w0 (pr p F w0 R)) ->
   ((SE.eu a k=none->b=mn L)/\∀v,SE.eu a k=some v->∃(f:FuncId) (fs cs:Array Value),v=.func (.func f) fs cs/\(∀args w,(callFunc f args).run prog w=.ok (.enter f args) w)/\Calls prog f (fs++#[pk o]++cs) w0 (pr p F w0 b)) ->
   ((SE.eu ((n,u) ::a) k=none->(if k=n then R else b)=mn L)/\∀v,SE.eu ((n,u) ::a) k=some v->∃(f:FuncId) (fs cs:Array Value),v=.func (.func f) fs cs/\(∀args w,(callFunc f args).run prog w=.ok (.enter f args) w)/\Calls prog f (fs++#[pk o]++cs) w0 (pr p F w0<|if k=n then R else b)):=by
  intro n u a R b h y
  rw[SE.eu]
  by_cases e:k=n
  rw[if_pos e.symm,if_pos e]
  exact⟨fun h=>(by cases h),fun v i=>by cases i;exact h⟩
  rw[if_neg fun l=>e l.symm,if_neg e]
  exact y
 refine step 0 _ _ _ _ ⟨_,_,_,rfl,call223,d0⟩ ?_
 refine step 1 _ _ _ _ ⟨_,_,_,rfl,call224,d1⟩ ?_
 refine step 2 _ _ _ _ ⟨_,_,_,rfl,call226,d2⟩ ?_
 refine step 3 _ _ _ _ ⟨_,_,_,rfl,call228,d3⟩ ?_
 refine step 4 _ _ _ _ ⟨_,_,_,rfl,call230,r⟩ ?_
 refine step 5 _ _ _ _ ⟨_,_,_,rfl,call233,t⟩ ?_
 refine step 6 _ _ _ _ ⟨_,_,_,rfl,call235,j⟩ ?_
 refine step 7 _ _ _ _ ⟨_,_,_,rfl,call237,s⟩ ?_
 refine step 8 _ _ _ _ ⟨_,_,_,rfl,call238,q⟩ ?_
 refine step 9 _ _ _ _ ⟨_,_,_,rfl,call239,m⟩ ?_
 refine step 10 _ _ _ _ ⟨_,_,_,rfl,call242,g⟩ ?_
 refine step 11 _ _ _ _ ⟨_,_,_,rfl,call246,d⟩ ?_
 exact⟨fun _=>rfl,fun v i=>by cases i⟩
end
def Ym{w0:World}{c p:Addr}{sg sm:Sl}{G M:List Int}(hC:rB w0 c p sg sm G M):cl 163 #[vp<|some c] w0
  (fun e w'=>∃r:Option Nat,e=.returned (.map r)/\∃m c1 c2,r=some m/\fc id w' m (Cn c c1 c2)/\ai w' c1 [vp<|some c] 239/\ai w' c2 [vp<|some p] 91/\m≠c1.block/\m≠c2.block/\w0.heap.size<=m/\w0.heap.size<=c1.block/\w0.heap.size<=c2.block/\Pure w0 w'):=by
 refine jbv _ w0 _ ?_
 intro b w1 n1
 have x:Pure w0 w1:=ab.ax n1
 have Z:=ai.bj n1
 refine⟨some c,Z.bf,c,rfl,some p,(hC.pure x).box.bf,?_⟩
 intro a w2 n2
 have E2:Pure w1 w2:=ab.ax n2
 have C:=ai.bj n2
 refine⟨C.gx Sm,?_⟩
 intro l f
 have I:ab (·=a.block) w2 l:=by rw[f];exact ab.setCell a _
 have B2':ai l a [vp<|some p] 91:=by rw[f];exact C.jh
 clear f
 have z1:=n1.cu
 have z2:=n2.cu
 have s1:=x.size
 have s2:=E2.size
 have s3:=I.size
 have l1:=Z.lt
 have l2:=C.lt
 have g:=(Z.pure E2).ext I (show ¬b.block=a.block by omega)
 have A:Pure w0 l:=(x.trans E2).ak Om I
 intro d w4 n4
 have j:Pure l w4:=ab.ax n4
 have z4:=n4.cu
 have M0:fc id w4 d.block []:=fc.bj n4
 have put:∀{w:World} {M:List (Int×Value)} (k:Int) (v:Value),fc id w d.block M->SE.eu M k=none->∃w',(Instr.mapUpdate 242 (.map<|some d.block) (vi k) v).run prog w=.ok () w'/\fc id w' d.block (M++[(k,v)])/\ab (·=d.block) w w':=fun k v h hn=>h.put (P:=prog) (T:=242) (K:=3) underlying242 underlying3 hn v
 have⟨w5,r5,M5,X5⟩:=put 0 (.func (.func 223) #[] #[vp<|some b]) M0 rfl
 refine⟨w5,r5,?_⟩
 have⟨w6,r6,M6,X6⟩:=put 1 (.func (.func 224) #[] #[vp<|some a]) M5 rfl
 refine⟨w6,r6,?_⟩
 have⟨w7,r7,M7,X7⟩:=put 2 (.func (.func 226) #[] #[vp<|some a]) M6 rfl
 refine⟨w7,r7,?_⟩
 have⟨w8,r8,M8,X8⟩:=put 3 (.func (.func 228) #[] #[vp<|some a]) M7 rfl
 refine⟨w8,r8,?_⟩
 have⟨w9,r9,M9,X9⟩:=put 4 (.func (.func 230) #[] #[vp<|some b,vp<|some a]) M8 rfl
 refine⟨w9,r9,?_⟩
 have⟨U,r10,L,J⟩:=put 5 (.func (.func 233) #[] #[vp<|some b,vp<|some a]) M9 rfl
 refine⟨U,r10,?_⟩
 have⟨W,H,N,Q⟩:=put 6 (.func (.func 235) #[] #[vp<|some b]) L rfl
 refine⟨W,H,?_⟩
 have⟨i,t,D,V⟩:=put 7 (.func (.func 237) #[] #[vp<|some b]) N rfl
 have X4:ab (·=d.block) w4 i:=((((((X5.trans X6).trans X7).trans X8).trans X9).trans J).trans Q).trans V
 have q:=(g.pure j).ext X4 (show ¬b.block=d.block by omega)
 refine⟨i,t,some c,q.bf,?_⟩
 have⟨w13,F,O,Y⟩:=put 8 (.func (.func 238) #[vp<|some c] #[]) D rfl
 refine⟨w13,F,?_⟩
 have⟨w14,n,y,o⟩:=put 9 (.func (.func 239) #[] #[vp<|some b,vp<|some a]) O rfl
 refine⟨w14,n,?_⟩
 have⟨R,r15,E,S⟩:=put 10 (.func (.func 242) #[] #[vp<|some b,vp<|some a]) y rfl
 refine⟨R,r15,?_⟩
 have⟨u,B,z,s⟩:=put 11 (.func (.func 246) #[] #[vp<|some b,vp<|some a]) E rfl
 have X:=((X4.trans Y).trans o).trans<|S.trans s
 refine⟨u,B,d.block,b,a,rfl,z,(g.pure j).ext X<|show ¬b.block=d.block by omega,(B2'.pure j).ext X<|show ¬a.block=d.block by omega,Om,Om,Om,Om,Om,(A.trans j).ak Om X⟩
structure rD(w0:World)(H:NP)(w:World)(c p c1 c2:Addr)(m:Nat)(sg sm:Sl)(G M:List Int)(L:aw)(F F1:NP):Prop where
 ck:rB w c p sg sm G M
 mp:fc id w m (Cn c c1 c2)
 b1:ai w c1 [vp<|some c] 239
 b2:ai w c2 [vp<|some p] 91
 bl:zD w p L F1
 fr:ab F w0 w
 hs:af w0 H w H w
 oP:∀b,F1 b->(F b\/w0.heap.size<=b)/\¬H b
 oc:w0.heap.size<=c.block/\¬H c.block/\¬F1 c.block
 o1:w0.heap.size<=c1.block/\¬H c1.block/\¬F1 c1.block/\c1.block≠c.block
 o2:w0.heap.size<=c2.block/\¬H c2.block/\¬F1 c2.block/\c2.block≠c.block
 om:w0.heap.size<=m/\¬H m/\¬F1 m/\m≠c.block
 og:∀b,sg.aq b->w0.heap.size<=b/\¬H b/\¬F1 b/\b≠c.block
 os:∀b,sm.aq b->w0.heap.size<=b/\¬H b/\¬F1 b/\b≠c.block/\b≠c1.block/\b≠c2.block/\b≠m/\¬sg.aq b
section
variable {w0 w w':World} {H H':NP} {c p c1 c2:Addr} {m:Nat} {sg sm:Sl} {G M:List Int} {L L':aw} {F F1 F2:NP}
def rD.au(h:rD w0 H w c p c1 c2 m sg sm G M L F F1)(hs:af w0 H w H' w'):rD w0 H' w' c p c1 c2 m sg sm G M L F F1:=by
 have xc:=hs.ji (G:=fun b=>GH c sg sm b) fun b a=>⟨h.ck.lt a,by rcases a with rfl|a|a;exact h.oc.2.1;exact(h.og b a).2.1;exact(h.os b a).2.1⟩;have f:=hs.ji (G:=F1) fun b a=>⟨h.bl.lt a,(h.oP b a).2⟩;have e:=hs.ji (G:=(·=c1.block)) (fun b a=>by subst a;exact⟨h.b1.lt,h.o1.2.1⟩) _ rfl;have d:=hs.ji (G:=(·=c2.block)) (fun b a=>by subst a;exact⟨h.b2.lt,h.o2.2.1⟩) _ rfl;have g:=hs.ji (G:=(·=m)) (fun b a=>by subst a;exact⟨h.mp.lt,h.om.2.1⟩) _ rfl;exact⟨h.ck.ext hs.ext xc,h.mp.ext hs.ext g,h.b1.ext hs.ext e,h.b2.ext hs.ext d,h.bl.ext hs.ext f,h.fr.au hs,hs.fm,fun b a=>⟨(h.oP b a).1,f b a⟩,⟨h.oc.1,xc _<|.inl rfl,h.oc.2.2⟩,⟨h.o1.1,e,h.o1.2.2⟩,⟨h.o2.1,d,h.o2.2.2⟩,⟨h.om.1,g,h.om.2.2⟩,
  fun b a=>⟨(h.og b a).1,xc b<|.inr<|.inl a,(h.og b a).2.2⟩,fun b a=>⟨(h.os b a).1,xc b<|.inr<|.inr a,(h.os b a).2.2⟩⟩
def rD.ay(h:rD w0 H w c p c1 c2 m sg sm G M L F F1)(hP:zD w' p L' F2)(E:ab F1 w w')(e:∀b,F2 b->F1 b\/w.heap.size<=b):aj H w w'/\rD w0 H w' c p c1 c2 m sg sm G M L' F F2:=by
 have d:aj H w w':=E.bk fun b a f=>(h.oP b f).2 a;have z:w0.heap.size<=w.heap.size:=h.fr.size;have nf:∀b,b<w.heap.size->¬F1 b->¬F2 b:=fun b a h1 h2=>(e b h2).elim h1 fun h3=>Om;refine⟨d,h.ck.ext E fun b a=>by rcases a with rfl|a|a;exact h.oc.2.2;exact(h.og b a).2.2.1;exact(h.os b a).2.2.1,h.mp.ext E h.om.2.2.1,h.b1.ext E h.o1.2.2.1,h.b2.ext E h.o2.2.2.1,hP,?_,h.hs.ib d,fun b a=>?_,⟨h.oc.1,h.oc.2.1,nf _ h.ck.box.lt h.oc.2.2⟩,⟨h.o1.1,h.o1.2.1,nf _ h.b1.lt h.o1.2.2.1,h.o1.2.2.2⟩,⟨h.o2.1,h.o2.2.1,nf _ h.b2.lt h.o2.2.2.1,h.o2.2.2.2⟩,⟨h.om.1,h.om.2.1,nf _ h.mp.lt h.om.2.2.1,h.om.2.2.2⟩,
  fun b a=>⟨(h.og b a).1,(h.og b a).2.1,nf _ (h.ck.jy.lt a) (h.og b a).2.2.1,(h.og b a).2.2.2⟩,fun b a=>⟨(h.os b a).1,(h.os b a).2.1,nf _ (h.ck.nq.lt a) (h.os b a).2.2.1,(h.os b a).2.2.2⟩⟩
 exact h.fr.cg E fun i hi a=>(h.oP i a).1.elim id fun h=>Om;rcases e b a with h1|h1;exact h.oP b h1;exact⟨.inr Om,fun hh=>Oh<|h.hs.lt b hh⟩
def rD.jf(h:rD w0 H w c p c1 c2 m sg sm G M L F F1){t q w1}(o:av w (.cells #[vi t] 73) q w1)(hn:M.length<=1000000):∃s1 j,(Builtin.append_ #[46,46] 46 #[sm.v,(Sl.mk (some q) 1 1).v]).run prog w1=.ok s1.v j/\aj H w1 j/\zL j (c.add 2) /\
  rD w0 H (j.setCell (c.add 2) s1.v) c p c1 c2 m sg s1 G (M++[t]) L F F1:=by
 have d:Pure w w1:=ab.ax o
 have⟨s1,j,hr,u,f,a⟩:=(h.ck.nq.pure d).append (P:=prog) (ty:=46) (c:=1) sZ (r:=[vi t]) (ai.bj o).row rfl rfl (by rw[vA];omega) (by rw[vA];simp[maxLen];omega)
 have s:aj H w1 j:=f.bk fun b a hs=>(h.os b hs).2.1 a
 have k:=(h.ck.box.pure d).ext f fun hs=>(h.os _ hs).2.2.2.1 rfl
 have x:=d.size
 have y:=f.size
 have z:w0.heap.size<=w.heap.size:=h.fr.size
 have g:=ab.setCell (w:=j) (c.add 2) s1.v
 rw[zC]at g
 have l:∀b,s1.aq b->w0.heap.size<=b/\¬H b/\¬F1 b/\b≠c.block/\b≠c1.block/\b≠c2.block/\b≠m/\¬sg.aq b:=fun b n=>by
  rcases a b n with h1|h1;exact h.os b h1;have a0:=h.ck.box.lt;have a1:=h.b1.lt;have a2:=h.b2.lt;have a3:=h.mp.lt;exact⟨Om,fun hh=>Oh<|h.hs.lt b hh,fun hh=>Oh<|h.bl.lt hh,Om,Om,Om,Om,fun hh=>Oh<|h.ck.jy.lt hh⟩
 refine⟨s1,j,hr,s,k.eh Sm,⟨k.set 2 s1.v,((h.ck.jy.pure d).ext f fun b a hs=>(h.os b hs).2.2.2.2.2.2.2 a).ext g fun b a e=>(h.og b a).2.2.2 e,?_⟩,((h.mp.pure d).ext f fun hs=>(h.os _ hs).2.2.2.2.2.2.1 rfl).ext g h.om.2.2.2,((h.b1.pure d).ext f fun hs=>(h.os _ hs).2.2.2.2.1 rfl).ext g h.o1.2.2.2,((h.b2.pure d).ext f fun hs=>(h.os _ hs).2.2.2.2.2.1 rfl).ext g h.o2.2.2.2,
  ((h.bl.pure d).ext f fun b a hs=>(h.os b hs).2.2.1 a).ext g fun b a e=>h.oc.2.2<|e▸a,?_,(h.hs.ib<|d.bz).ib s |>.ib (g.bk fun b a e=>h.oc.2.1<|e▸a),h.oP,h.oc,h.o1,h.o2,h.om,h.og,l⟩
 rw[show cd (M++[t])=cd M++[[vi t]] by simp[cd]]
 exact u.ext g Gd
 exact((h.fr.fb d).cg f fun i hi hs=>Oh<|(h.os i hs).1).cg g fun i hi e=>Oh h.oc.1
end
structure Jr(w0:World)(p:Addr)(F:NP)(R:List Int×Int×aw)(s:Sl)(r2:Int)(w':World):Prop where
 cq:r2=R.2.1
 bl:∃F',zD w' p R.2.2 F'/\(∀b,F' b->F b\/w0.heap.size<=b)/\∀b,s.aq b->¬F' b
 cm:bg w' 73 1 s (cd R.1)
 ak:∀b,s.aq b->w0.heap.size<=b
 fr:ab F w0 w'
def rD.done{w0 w H c p c1 c2 m sg sm G M L F F1}(h:rD w0 H w c p c1 c2 m sg sm G M L F F1){R:List Int×Int×aw}{e}(d:R=(M,e,L)):Jr w0 p F R sm e w:=by
 subst d;exact⟨rfl,⟨F1,h.bl,fun b a=>(h.oP b a).1,fun b a=>(h.os b a).2.2.1⟩,h.ck.nq,fun b a=>(h.os b a).1,h.fr⟩
def QQ{Sl0:NP}(p k:Addr)(sl:Sl)(l:List Op)(w0:World){L:aw}{G:List Int}{S:List gy}{F FK:NP}(hW:Wf L)(hP:zD w0 p L F)(hK:qI w0 k p G S FK)(hl:dr Sl0 w0 5 sl (l.map pD))(hS0:∀b,Sl0 b->b<w0.heap.size/\¬ F b)(hG:G.length<=1000000)(hn:l.length<=1000):
  cl 108 #[vp<|some p,vp<|some k,sl.v] w0<|XM fun s r2 w'=>Jr w0 p F (vE L G [] l) s r2 w':=by
 refine jam _ _ _ w0 _ ?_
 refine(Ny k p w0 hK hG).mono ?_
 rintro _ w1 ⟨sg,rfl,r⟩
 refine⟨sg,rfl,r.bk,?_⟩
 intro c w2 n2
 have E2:Pure w1 w2:=ab.ax n2
 have B2:=ai.bj n2
 have J:∀b,¬Sl.nil.aq b:=fun b i=>by have⟨a,h,_⟩:=i;cases h
 have C2:rB w2 c p sg Sl.nil G []:=⟨B2,r.cm.pure E2,bg.nil _ _ _⟩
 refine(Ym C2).mono ?_
 rintro _ w3 ⟨_,rfl,m,c1,c2,rfl,hM,O,Z,hm1,hm2,z1,z2,z3,K⟩
 refine⟨_,rfl,K.bz,?_⟩
 have u:Pure w0 w3:=(r.pure.trans E2).trans K
 have q0:=r.pure.size
 have q1:=n2.cu
 have q2:=E2.size
 have q3:=K.size
 have q4:=B2.lt
 have R3:rD w0 ar w3 c p c1 c2 m sg Sl.nil G [] L F F:=by
  refine⟨C2.pure K,hM,O,Z,hP.pure u,u.pure,(af.start w0).ib u.bz,fun b i=>⟨.inl i,fun h=>h⟩,⟨Om,fun h=>h,fun h=>Oh<|hP.lt h⟩,⟨Om,fun h=>h,fun h=>Oh<|hP.lt h,Om⟩,⟨Om,fun h=>h,fun h=>Oh<|hP.lt h,Om⟩,⟨Om,fun h=>h,fun h=>Oh<|hP.lt h,Om⟩,fun b i=>⟨r.ak b i,fun h=>h,fun h=>Oi (hP.lt h)<|r.ak b i,?_⟩,fun b i=>(J b i).elim⟩;have:=r.cm.lt i;omega
 refine⟨fun x H w=>∃(j:Nat) (M:List Int) (I:aw) (sm:Sl) (F1:NP),x=j/\j<=l.length/\M.length=j/\Wf I/\vE L G [] l=vE I G M (l.drop j)/\rD w0 H w c p c1 c2 m sg sm G M I F F1,fun x _=>((l.length:Int)-x).toNat,⟨0,[],L,Sl.nil,F,rfl,Nat.zero_le _,rfl,hW,rfl,R3⟩,?_⟩
 rintro _ H w _ ⟨j,M,I,sm,F1,rfl,hj,N,C,d,R⟩
 unfold LJ
 have A:sl.len=l.length:=by rw[hl.len];simp
 refine⟨fun h=>?_,fun h=>?_⟩
 have e:=vQ A h
 have⟨a,Y,hSa,E⟩:=hl.kg e
 have ux:Row w a (pD l[j]):=R.fr.row E (hS0 _ hSa).2
 refine⟨a,Y,l[j].code,l[j].a,l[j].b,l[j].num,l[j].bb,ux,?_⟩
 intro H1 w5 W
 have g:=R.au W
 rw[Jb e]at d
 have B:=C.ok
 have n:=jbY g.ck g.b1.bf g.b2.bf g.bl B g.o2.2.2.1 l[j]
 generalize l[j]=o at *
 rcases g.mp.get (P:=prog) (T:=242) underlying242 underlying3 (zeroValue245 _) o.code true with⟨U,g2⟩|⟨v,U,g2⟩
 refine⟨_,_,g2,Br.t rfl ⟨sm,g.ck.box.cell rfl,?_⟩⟩
 rw[n.1 U]at d
 exact g.done d
 obtain⟨f1,fs,cs,rfl,hf,hc⟩:=n.2 v U
 refine⟨_,_,g2,Br.f rfl ⟨f1,fs,cs,rfl,hf,?_⟩⟩
 refine hc.mono ?_
 rintro _ w6 ⟨r3,r4,rfl,hr,F2,X,X2,V⟩
 have⟨k6,y⟩:=g.ay X X2 V
 have z:=vm C G M o
 generalize yN I G M o=D at *
 have⟨d1,d2,L2⟩:=D
 simp only[Prod.mk.injEq]at hr
 obtain⟨rfl,rfl⟩:=hr
 simp only at d y z
 refine⟨_,_,rfl,k6,fun h=>?_,fun h=>?_⟩
 rw[if_pos<|by simpa using h]at d
 exact⟨sm,y.ck.box.cell rfl,y.done d⟩
 rw[if_neg<|by simpa using h]at d
 refine⟨sm,y.ck.box.cell rfl,?_⟩
 intro q w7 n7
 have⟨s1,w8,hr8,k8,cw,R9⟩:=y.jf n7 Om
 refine⟨s1,w8,hr8,k8,cw,by rw[zC];exact y.oc.2.1,?_⟩
 rintro _ rfl
 rw[zM e Om]
 exact⟨⟨j+1,M++[_],L2,s1,F2,rfl,e,by simp[N],z,d,R9⟩,yQ e⟩
 have Q:=qU A hj h
 subst Q
 refine⟨sm,R.ck.box.cell rfl,R.done ?_⟩
 rw[d,drop_length];rfl
def Xw{p k sl n}(h:sl.len=n):Bo (some p) (some k) sl=(if n>256 then 6 else if n=0 then 3 else 0):=by
 unfold Bo;rw[h];simp only[Option.isNone_some,Bool.or_self,cond_false];by_cases h1:n>256;grind;grind
abbrev Kc(w0:World)(p:Addr)(F:NP)(R:Int×Int×Int×aw)(r1 r2 r3:Int)(w':World):Prop:=(r1,r2,r3)=(R.1,R.2.1,R.2.2.1)/\∃F',zD w' p R.2.2.2 F'/\ab F w0 w'/\∀b,F' b->F b\/w0.heap.size<=b
section
variable {Sl0:NP} (p k:Addr) (sl:Sl) (l:List Op) (w0:World) {L:aw} {G:List Int} {S:List gy} {F FK:NP} (hW:Wf L) (hP:zD w0 p L F) (hK:qI w0 k p G S FK) (hl:dr Sl0 w0 5 sl (l.map pD)) (hS0:∀b,Sl0 b->b<w0.heap.size/\¬F b) (hG:G.length<=1000000) (hn:l.length<=1000)
include hW hP hK hl hS0 hG hn
def UM:cl 52 #[vp<|some p,vp<|some k,sl.v] w0 (XJ fun r1 r2 r3 w'=>Kc w0 p F (zV L G l) r1 r2 r3 w'):=by
 refine VJ _ _ _ w0 (Kc w0 p F<|zV L G l) ?_;unfold O8;have w:sl.len=l.length:=by rw[hl.len];simp
 rw[Xw w];unfold zV;by_cases h1:l.length>256
 .rw[if_pos h1,if_pos h1];exact Br.t rfl fun r d=>⟨rfl,F,hP.pure d.first,d.first.pure,fun b i=>.inl i⟩
 rw[if_neg h1,if_neg h1];by_cases h2:l.length=0
 .rw[if_pos h2,if_pos h2];exact Br.t rfl fun r d=>⟨rfl,F,hP.pure d.first,d.first.pure,fun b i=>.inl i⟩
 rw[if_neg h2,if_neg h2];refine Br.f rfl fun r d=>?_;have j:=d.first;refine(QQ p k sl l r hW (hP.pure j) (hK.pure j) (hl.pure j) (fun b i=>⟨Oi ((hS0 b i).1) j.size,(hS0 b i).2⟩) hG hn).mono ?_;rintro _ C ⟨s,r2,rfl,E⟩;have⟨z,⟨F',o,x,D⟩,c,B,X⟩:=E;refine⟨s,r2,rfl,X.bk fun b i=>i.elim,?_⟩;have g:=EA G l L [];have m:∃F',zD C p (vE L G [] l).2.2 F'/\ab F w0 C/\∀b,F' b->F b\/w0.heap.size<=b:=⟨F',o,j.pure.trans X,fun b i=>(x b i).imp_right fun h=>Oh j.size⟩;generalize vE L G [] l=R at *;have⟨M,e,J⟩:=R;simp only at z c g m o;subst z;simp only[length_nil,Nat.zero_add]at g;have u:s.len=M.length:=by rw[c.len,vA]
 refine⟨fun h=>?_,fun h=>?_⟩
 .grind
 .have A:r2=0:=by simpa using h
  rw[if_neg<|by simpa using A];have q:=g.2 A;have n:M≠[]:=fun e=>by rw[e]at q;simp at q;omega
  rw[show IntKind.i64.wrap ((s.len:Int)-1)=(((l.length-1:Nat)):Int) by rw[u,q,IntWalk.i64_in _ Om];omega];have y:fa M ((l.length-1:Nat):Int)=some (M.getLast n):=by
   rw[th Om Om];simp[getLast_eq_getElem,q]
  have⟨a,I,H⟩:=Ci c y;refine⟨a,I,_,H,?_,m⟩;rw[getLast?_eq_some_getLast n];rfl
end
end Go.Proofs
end
section
namespace Go.Proofs
def Ca(L G M o):(yN L G M o).2.2.length<=L.length+1:=
 EZ (fun r=>r.2.2.length<=L.length+1) (fun _ _=>Nat.le_succ _) (fun n=>KY L n) G M o
def MQ(G):∀(l:List Op) (L:aw) (M:List Int),(vE L G M l).2.2.length<=L.length+l.length
 |[],_,_=>Nat.le_refl _
 |o :: os,L,M=>by
  rw[List.length_cons];have:=Ca L G M o;unfold vE;split;grind;have:=MQ G os (yN L G M o).2.2<|M++[(yN L G M o).1];omega
end Go.Proofs
end
section
open Go Go.SE List
namespace Go.Proofs
structure Rl(L M:aw)(s t:Int):Prop where
 l:al L s=true
 m:al M t=true
 e:zA L s=zA M t
structure NR(L M:aw)(n m:di):Prop where
 k:n.kind=m.kind
 f:n.az=m.az
 t:n.to=m.to
 u:n.num=m.num
 x:n.bb=m.bb
 a:n.a=0/\m.a=0\/Rl L M n.a m.a
 b:n.b=0/\m.b=0\/Rl L M n.b m.b
structure LR(L M:aw)(A B:List Int):Prop where
 l:∀a∈A,al L a=true
 m:∀b∈B,al M b=true
 e:A.map (zA L)=B.map (zA M)
def Dc(L):al L 0=false:=Bool.eq_false_iff.2 fun h=>Oh<|(zI.1 h).1
section
variable {L M X Y:aw} {n m:di} {s t:Int} {A B G K:List Int} (hL:Wf L) (hM:Wf M)
def Rl.jf(h:Rl L M s t)(a:Wf (L++X))(b:Wf (M++Y)):Rl (L++X) (M++Y) s t:=
 ⟨uD h.l,uD h.m,by rw[uO a _ s rfl h.l,uO b _ t rfl h.m,h.e]⟩
def LR.jf(h:LR L M A B)(f:Wf (L++X))(g:Wf (M++Y)):LR (L++X) (M++Y) A B:=
 ⟨fun a d=>uD<|h.l a d,fun b c=>uD<|h.m b c,by
  rw[map_congr_left fun a d=>uO f _ a rfl (h.l a d),map_congr_left fun b c=>uO g _ b rfl (h.m b c),h.e]⟩
def LR.sd(h:LR L M A B)(r:Rl L M s t):LR L M (A++[s]) (B++[t]):=
 ⟨fun a d=>by rcases mem_append.1 d with d|d;exact h.l a d;simp at d;rw[d];exact r.l,
 fun b c=>by rcases mem_append.1 c with c|c;exact h.m b c;simp at c;rw[c];exact r.m,by simp[h.e,r.e]⟩
def LR.len(h:LR L M A B):A.length=B.length:=by have:=congrArg List.length h.e;simpa using this
def LR.at_(h:LR L M A B){i}(b:i<A.length)(a:i<B.length):Rl L M A[i] B[i]:=
 ⟨h.l _<|getElem_mem b,h.m _<|getElem_mem a,by
  have:=congrArg (fun l=>l[i]?) h.e;simpa[b,a]using this⟩
def LR.nil:LR L M [] []:=⟨Sm,Sm,rfl⟩
def LR.fa(h:LR L M A B)(i):(fa A i=none/\fa B i=none)\/∃a b,fa A i=some a/\fa B i=some b/\Rl L M a b:=by
 have d:=h.len;by_cases c:0<=i/\i.toNat<A.length;exact .inr ⟨_,_,th c.1 c.2,th c.1 Om,h.at_ c.2 Om⟩;exact .inl ⟨ui Om,ui Om⟩
include hL hM in
def LR.jj(h:LR L M G K)(r:Rl L M s t):LR L M (jj G s) (jj K t):=by
 have:s∈G↔t∈K:=by
  constructor;intro hs;obtain⟨i,hi,rfl⟩:=getElem_of_mem hs;have a:i<K.length:=Oh h.len;have r2:=h.at_ hi a;rw[yL hM _ t K[i] rfl r.m r2.m (r.e.symm.trans r2.e)];exact getElem_mem a;intro ht;obtain⟨i,hi,rfl⟩:=getElem_of_mem ht;have a:i<G.length:=Oh h.len;have r2:=h.at_ a hi;rw[yL hL _ s G[i] rfl r.l r2.l (r.e.trans r2.e.symm)];exact getElem_mem a
 unfold Proofs.jj;by_cases hs:s∈G;grind;rw[if_neg hs,if_neg fun h=>hs<|this.2 h];exact h.sd r
def NR.zero:NR L M xC xC:=⟨rfl,rfl,rfl,rfl,rfl,.inl ⟨rfl,rfl⟩,.inl ⟨rfl,rfl⟩⟩
include hL hM
def Rl.node(r:Rl L M s t):NR L M (ad L s) (ad M t):=by
 have⟨k,f,b,u,x,a⟩:=zt hL hM r.l r.m r.e;have⟨_,a1,a2,_,a3,_⟩:=hL.node r.l;have⟨_,b1,b2,_,b3,_⟩:=hM.node r.m;unfold zB at a a3 b3;rw[<-k]at a b1 b2 b3;refine⟨k,f,b,u,x,?_,?_⟩
 all_goals rcases yM (ad L s).kind with e|e|e<;>rw[e]at a a1 a2 a3 b1 b2 b3<;>simp at a a1 a2 a3 b1 b2 b3
 .exact .inl ⟨a1,b1⟩
 .exact .inr ⟨a3.1,b3.1,a⟩
 .exact .inr ⟨a3.1.1,b3.1.1,a.1⟩
 .exact .inl ⟨a2,b2⟩
 .exact .inl ⟨a2,b2⟩
 .exact .inr ⟨a3.2.1,b3.2.1,a.2⟩
def LR.fh(h:LR L M A B)(i):NR L M (fh L A i) (fh M B i):=by
 unfold Proofs.fh;rcases h.fa i with⟨d,c⟩|⟨a,b,d,c,r⟩;rw[d,c];exact NR.zero;rw[d,c];exact r.node hL hM
omit hL hM in
def NR.kids{α:Type}{φ ψ:Int->α}(r:NR L M n m)(d:φ n.a=ψ m.a)(c:φ n.b=ψ m.b):(zB n).map φ=(zB m).map ψ:=by
 unfold zB;rw[map_take,map_take,r.k];simp[d,c]
def NR.ej(r:NR L M n m):ej L n=ej M m:=by
 have c:∀{a b:Int},a=0/\b=0\/Rl L M a b->(a !=0)=(b !=0)/\al L a=al M b/\sizeOf L a=sizeOf M b/\c9 L a=c9 M b:=fun {a b} h=>by
  rcases h with⟨rfl,rfl⟩|r;have h1:=Dc L;have h2:=Dc M;refine⟨rfl,h1.trans h2.symm,?_,?_⟩;unfold sizeOf;rw[yI h1,yI h2];unfold c9;rw[yI h1,yI h2];have h1:=(zI.1 r.l).1;have h2:=(zI.1 r.m).1;have⟨q1,q2⟩:=L6 hL hM _ a b rfl r.l r.m r.e;exact⟨by rw[bne_iff_ne.2 Om,bne_iff_ne.2 Om],r.l.trans r.m.symm,q1,q2⟩
 have⟨a1,a2,a3,a4⟩:=c r.a;have⟨b1,b2,b3,b4⟩:=c r.b;have q:=r.kids a2 b2;have s:=r.kids a3 b3;have o:=r.kids a4 b4;have i:zO n=zO m:=by unfold zO;rw[r.k,r.f,r.t,r.u,r.x]
 have j:zQ (bq m.kind) n=zQ (bq m.kind) m:=by unfold zQ;rw[r.f,r.t,r.x]
 have g:∀(l:List Int) (P:aw),l.any (fun t=>!al P t)=(l.map<|al P).any (!·):=fun l P=>by rw[any_map];rfl
 have p:∀(l:List Int) (P:aw),l.foldl (fun d k=>max d<|c9 P k) 0=(l.map<|c9 P).foldl max 0:=fun l P=>by rw[foldl_map]
 unfold Proofs.ej;simp only[g,p,q,s,o,i,j,a1,b1,r.k]
omit hL hM in
def KX(a:(Proofs.ej L n).2.2=0)(b:L.length<65536):(ay L n).2.1=0:=by
 unfold ay;simp only;rw[if_neg<|by simpa using a];split;rfl;rw[if_neg Om]
def RS(r1 r2:qo):Prop:=r1.2.1=r2.2.1/\(r1.2.1=0->Rl r1.2.2 r2.2.2 r1.1 r2.1)
def NR.ay(r:NR L M n m)(o:L.length<65536)(p:M.length<65536):RS (ay L n) (ay M m):=by
 have g:=r.ej hL hM;by_cases h:(Proofs.ej L n).2.2=0;have h1:=KX h o;have h2:=KX (g▸h) p;refine⟨h1.trans h2.symm,fun _=>?_⟩;have⟨a1,a2,_⟩:=xH h1;have⟨b1,b2,_⟩:=xH h2;have c:=uT hL n;have d:=uT hM m;refine⟨a1,b1,?_⟩;rw[zW c a1,zW d b1,a2,b2,r.k,r.f,r.t,r.u,r.x];congr 1;have⟨X,i⟩:=yU L n;have⟨Y,j⟩:=yU M m;rw[i]at c|-;rw[j]at d|-;have key:∀{a b:Int},a=0/\b=0\/Rl L M a b->zA (L++X) a=zA (M++Y) b:=fun {a b} h=>by
  rcases h with⟨rfl,rfl⟩|r;rw[Ks<|Dc _,Ks<|Dc _];exact(r.jf c d).e
 exact r.kids (key r.a)<|key r.b;have h1:Proofs.ay L n=(0,(Proofs.ej L n).2.2,L):=by unfold Proofs.ay;simp only;rw[if_pos h]
 have h2:Proofs.ay M m=(0,(Proofs.ej L n).2.2,M):=by unfold Proofs.ay;simp only;rw[<-g,if_pos h]
 rw[h1,h2];exact⟨rfl,fun l=>absurd l h⟩
omit hL hM in
def RS.no:RS (mn L) (mn M):=⟨rfl,fun h=>by simp[mn]at h⟩
def MT(v:LR L M G K)(i:LR L M A B)(o)(n:L.length<65536)(m:M.length<65536):RS (yN L G A o) (yN M K B o):=by
 have z:∀{x:Int},(x=0/\x=0\/Rl L M x x)\/x≠0:=fun {x}=>by by_cases h:x=0;exact .inl<|.inl ⟨h,h⟩;exact .inr h
 have key:∀mk:Int->Int->di,(∀k a b,Rl L M a b->NR L M (mk k a) (mk k b))->RS (qA L A o mk) (qA M B o mk):=fun mk q=>by
  unfold qA;have g:=i.fh hL hM o.b;rcases i.fa o.a with⟨c,d⟩|⟨a,b,c,d,r⟩;rw[c,d];exact RS.no;rw[c,d];simp only;rw[g.k,g.f];split;exact(q _ a b r).ay hL hM n m;exact RS.no
 have j:∀s,RS (uG L A o s)<|uG M B o s:=fun s=>by
  unfold uG;have g:=i.fh hL hM o.a;rw[g.k];split;rename_i p;refine⟨rfl,fun _=>?_⟩;have e:(Proofs.fh L A o.a).kind=4:=g.k.trans p;have:∃a b,fa A o.a=some a/\fa B o.a=some b/\Rl L M a b:=by
   rcases i.fa o.a with⟨c,d⟩|h;rw[CU c]at e;simp[xC]at e;exact h
  have⟨a,b,c,d,r⟩:=this;have u:Proofs.fh L A o.a=ad L a:=by unfold Proofs.fh;rw[c]
  have t:Proofs.fh M B o.a=ad M b:=by unfold Proofs.fh;rw[d]
  rw[u]at g e|-;rw[t]at g p|-;have ka:=ug hL r.l e;have w:=(zI.1 ka.1.1).1;have C:=(zI.1 ka.2.1).1;cases s;exact g.a.resolve_left fun h=>Om;exact g.b.resolve_left fun h=>Om;exact RS.no
 rcases(show o.code=0\/o.code=1\/o.code=2\/o.code=3\/o.code=4\/o.code=5\/o.code=6\/o.code=7\/o.code=8\/o.code=9\/o.code=10\/o.code=11\/(o.code<0\/11<o.code) by omega)with h|h|h|h|h|h|h|h|h|h|h|h|h;rw[Gi h,Gi h];unfold uZ;rcases v.fa o.a with⟨c,d⟩|⟨a,b,c,d,r⟩<;>rw[c,d];exact RS.no;exact⟨rfl,fun _=>r⟩;rw[FY h,FY h];exact NR.ay hL hM ⟨rfl,rfl,rfl,rfl,rfl,.inl ⟨rfl,rfl⟩,.inl ⟨rfl,rfl⟩⟩ n m;rw[Hj h,Hj h];exact NR.ay hL hM ⟨rfl,rfl,rfl,rfl,rfl,.inl ⟨rfl,rfl⟩,.inl ⟨rfl,rfl⟩⟩ n m;rw[Ik h,Ik h];exact NR.ay hL hM ⟨rfl,rfl,rfl,rfl,rfl,.inl ⟨rfl,rfl⟩,.inl ⟨rfl,rfl⟩⟩ n m;rw[BU h,BU h];unfold sI;rcases i.fa o.a with⟨c,d⟩|⟨a,b,c,d,r⟩<;>rw[c,d];exact RS.no;simp only;rcases i.fa o.b with⟨c,d⟩|⟨E,D,c,d,y⟩<;>rw[c,d];exact RS.no;exact NR.ay hL hM ⟨rfl,rfl,rfl,rfl,rfl,.inr r,.inr y⟩ n m;rw[DL h,DL h];unfold te;rcases i.fa o.a with⟨c,d⟩|⟨a,b,c,d,r⟩<;>rw[c,d];exact RS.no;exact NR.ay hL hM ⟨rfl,rfl,rfl,rfl,rfl,.inr r,.inl ⟨rfl,rfl⟩⟩ n m;rw[EE h,EE h];exact j false;rw[DZ h,DZ h];exact j true;rw[Bp h,Bp h];unfold xN;have g:=i.fh hL hM o.a;rw[g.k];split;rename_i p;refine⟨rfl,fun _=>?_⟩;have e:qY (Proofs.fh L A o.a).kind=true:=by rw[g.k];exact p
 have:∃a b,fa A o.a=some a/\fa B o.a=some b/\Rl L M a b:=by
  rcases i.fa o.a with⟨c,d⟩|h;rw[CU c]at e;cases e;exact h
 have⟨a,b,c,d,r⟩:=this;have u:Proofs.fh L A o.a=ad L a:=by unfold Proofs.fh;rw[c]
 have t:Proofs.fh M B o.a=ad M b:=by unfold Proofs.fh;rw[d]
 rw[u]at g e|-;rw[t]at g p|-;have w:=(zI.1 (xv hL r.l e).1).1;exact g.a.resolve_left fun h=>Om;exact RS.no;rw[AV h,AV h];exact key _ fun k a b r=>⟨rfl,rfl,rfl,rfl,rfl,.inr r,.inl ⟨rfl,rfl⟩⟩;rw[Bn h,Bn h];exact key _ fun k a b r=>⟨rfl,rfl,rfl,rfl,rfl,.inr r,.inl ⟨rfl,rfl⟩⟩;rw[BD h,BD h];exact key _ fun k a b r=>⟨rfl,rfl,rfl,rfl,rfl,.inr r,.inl ⟨rfl,rfl⟩⟩;rw[Ef h,Ef h];exact RS.no
end
def OZ(q):∀(l:List Int) (L:aw) (ak:Int->Int),(zU q l L ak).1.length<=L.length+l.length
 |[],L,_=>Nat.le_refl _
 |z :: l,L,ak=>by
  obtain⟨x,e,c,hm⟩:∃x e c,ay L { ad q z with a:=ak (ad q z).a,b:=ak (ad q z).b }=(x,e,c):=⟨_,_,_,rfl⟩;have h1:=BG L { ad q z with a:=ak (ad q z).a,b:=ak (ad q z).b };rw[hm]at h1;rw[qG q z l L ak rfl hm,length_cons];simp only at h1;split;simp only;omega;have:=OZ q l c fun y=>if y=z then x else ak y;omega
def GO:∀(l:List Op) {L M:aw} {G K A B:List Int},Wf L->Wf M->LR L M G K->LR L M A B->L.length+l.length<=65536->M.length+l.length<=65536 ->
  (vE L G A l).2.1=(vE M K B l).2.1/\(vE L G A l).1.length=(vE M K B l).1.length/\LR (vE L G A l).2.2 (vE M K B l).2.2 G K/\((vE L G A l).2.1=0->LR (vE L G A l).2.2 (vE M K B l).2.2 (vE L G A l).1 (vE M K B l).1)
 |[],_,_,_,_,_,_,_,_,f,a,_,_=>⟨rfl,a.len,f,fun _=>a⟩
 |o :: l,L,M,G,K,A,B,hL,hM,f,a,m,n=>by
  rw[length_cons]at m n;have⟨e,r⟩:=MT hL hM f a o Om Om;have p:=Ca L G A o;have q:=Ca M K B o;have d:=vm hL G A o;have c:=vm hM K B o;have⟨X,j⟩:=wH L G A o;have⟨Y,k⟩:=wH M K B o;have b:LR (yN L G A o).2.2 (yN M K B o).2.2 G K:=by rw[j]at d|-;rw[k]at c|-;exact f.jf d c
  have i:LR (yN L G A o).2.2 (yN M K B o).2.2 A B:=by rw[j]at d|-;rw[k]at c|-;exact a.jf d c
  unfold vE;rw[<-e];split;rename_i g;exact⟨rfl,a.len,b,fun h=>absurd h g⟩;rename_i g;exact GO l d c b (i.sd<|r<|Classical.byContradiction g) Om Om
section
variable {L M:aw} {s t:Int} {G K:List Int} (hL:Wf L) (hM:Wf M)
include hL hM
def Mv(c:LR L M G K)(l)(e:L.length+l.length<=65536)(k:M.length+l.length<=65536):
  (zV L G l).2.1=(zV M K l).2.1/\(zV L G l).2.2.1=(zV M K l).2.2.1/\LR (zV L G l).2.2.2 (zV M K l).2.2.2 G K/\((zV L G l).2.1=0->Rl (zV L G l).2.2.2 (zV M K l).2.2.2 (zV L G l).1 (zV M K l).1):=by
 have⟨g,j,f,h⟩:=GO l hL hM c LR.nil e k
 have d:=EA G l L []
 unfold zV
 by_cases h1:l.length>256
 grind
 rw[if_neg h1,if_neg h1]
 by_cases h2:l.length=0
 grind
 rw[if_neg h2,if_neg h2,<-g]
 by_cases h3:(vE L G [] l).2.1≠0
 grind
 rw[if_neg h3,if_neg h3]
 have h3:=Classical.byContradiction h3
 have b:=h h3
 have a:=d.2 h3
 rw[length_nil,Nat.zero_add]at a
 refine⟨rfl,rfl,f,fun _=>?_⟩
 simp only
 generalize (vE L G [] l).1=A at *
 generalize (vE M K [] l).1=B at *
 have hB:B.length=l.length:=by rw[<-j,a]
 rw[getLast?_eq_getElem?,getLast?_eq_getElem?,getElem?_eq_getElem Om,getElem?_eq_getElem Om]
 simp only[Option.getD_some]
 have:=b.at_ (i:=A.length-1) Om Om
 simpa[a,hB]using this
def SQ(r:Rl L M s t):iz L s=iz M t:=by
 unfold iz;rw[if_pos r.l,if_pos r.m,LX hL hM r.l r.m r.e]
omit hM in
def zh{q}(a:Wf q){t}(ht:al q t=true)(d:L.length+q.length<=65536):(vH L q t).2.1=0/\(vH L q t).2.2.length<=L.length+q.length:=by
 have e:=uW a t;have c:=OZ q (dd q t) L fun _=>0;rcases Dv a (dd q t) [] L (fun _=>0) (Cp.start hL) (fun z b=>xE a b) (xG a t)with⟨h,_⟩|⟨_,h⟩;unfold vH;rw[if_pos ht];simp only;rw[if_neg (by rw[h];simp)];exact⟨rfl,Sy⟩;exact absurd Om h
end
def Pk(n):1<=(vF n).length:=by rw[vF];split<;>simp
def TP(n a b f):1<=(bo.bytes n a b f).length:=by
 cases f<;>first|exact Pk _|(show 1<=(vU n.bb).length;unfold vU;rw[length_append];have:=Pk n.bb.size;omega)
def Zx{L}(c:Wf L)(seen){t}(ht:al L t=true):2<=(yH L seen t).length:=by
 have g:=xm c ht;have d:∃f l,qP (ad L t).kind=f ::l:=by
  unfold qP;rcases(show(ad L t).kind=1\/(ad L t).kind=2\/(ad L t).kind=3\/(ad L t).kind=4\/(ad L t).kind=5\/(ad L t).kind=6\/(ad L t).kind=7\/(ad L t).kind=8\/(ad L t).kind=9 by omega)with e|e|e|e|e|e|e|e|e<;>rw[e]<;>exact⟨_,_,rfl⟩
 have⟨f,l,e⟩:=d;have:=TP (ad L t) (dc seen (ad L t).a) (dc seen (ad L t).b) f;unfold yH;rw[e,flatMap_cons,length_cons,length_append];omega
def JC{L}(a:Wf L):∀(l seen:List Int),(∀t∈l,al L t=true)->2*l.length<=(fx L seen l).length
 |[],_,_=>Sm
 |t :: l,seen,h=>by
  have h1:=Zx a seen<|h t Sm;have h2:=JC a l (seen++[t]) Gd;rw[fx,length_append,length_cons];omega
def CP{bs q}(h:(vB bs).1=some q):2*q.length<=bs.length:=by
 unfold vB at h;split at h;cases h;split at h;cases h;have⟨b,_,_,c,_⟩:=PO bs.length [] ⟨0,0,0⟩ [] q Wf.nil uE.nil rfl rfl (Nat.zero_le _) (Nat.le_refl _) (by simp[mi,fx]) h;have:=JC b (mi q.length) [] fun z a=>zI.2<|C8.1 a;rw[<-c,CQ]at this;exact this
section
variable {L M:aw} (hL:Wf L) (hM:Wf M)
include hL
def zEY(bs)(d:2*L.length+bs.length<=131072):2*(yP L bs).2.2.2.length<=2*L.length+bs.length:=by
 unfold yP;split;simp only;omega;rename_i q a;have h2:=CP a;have⟨c,_,b,_,_⟩:=xB a;have:=(zh hL c b Om).2;simp only;omega
include hM
def zEX(bs)(i:2*L.length+bs.length<=131072)(j:2*M.length+bs.length<=131072):(yP L bs).2.1=(yP M bs).2.1/\((yP L bs).2.1=0->Rl (yP L bs).2.2.2 (yP M bs).2.2.2 (yP L bs).1 (yP M bs).1):=by
 unfold yP;split;rename_i d;exact⟨rfl,fun h=>absurd h<|xO d⟩;rename_i q d;have h2:=CP d;have⟨c,_,e,_,_⟩:=xB d;have a:=(zh hL c e Om).1;have b:=(zh hM c e Om).1;refine⟨a.trans b.symm,fun _=>?_⟩;have⟨_,g,f⟩:=xX hL c e a;have⟨_,d2,d3⟩:=xX hM c e b;exact⟨g,d2,f.trans d3.symm⟩
end
def GY{L n}(c:zO n=0)(g:(bq n.kind).kids<1->n.a=0)(f:(bq n.kind).kids<2->n.b=0)(e:zQ (bq n.kind) n=0)(i:∀k∈zB n,al L k=true):
  ej L n=if 1+((zB n).map<|sizeOf L).sum>4096\/(zB n).foldl (fun d t=>max d<|c9 L t) 0+1>64 then(0,0,52)else(1+((zB n).map<|sizeOf L).sum,(zB n).foldl (fun d t=>max d<|c9 L t) 0+1,0):=by
 unfold ej
 simp only
 rw[if_neg<|by simp[c],if_neg fun h=>?_,if_neg<|by simp[e],if_neg fun h=>?_]
 grind
 grind
def Wv{L n}(x:Wf L)(z:L.length<65536)(u:zO n=0)(w:(bq n.kind).kids<1->n.a=0)(v:(bq n.kind).kids<2->n.b=0)(y:zQ (bq n.kind) n=0)(g:∀k∈zB n,al L k=true){sz d}(hs:1+((zB n).map<|sizeOf L).sum=sz)(p:(zB n).foldl (fun d t=>max d<|c9 L t) 0+1=d):
  ((sz>4096\/d>64)->(ay L n).2.1=52)/\(¬(sz>4096\/d>64)->∃r M,ay L n=(r,0,L++M)/\al (L++M) r=true/\ad (L++M) r=n/\Wf (L++M)/\sizeOf (L++M) r=sz/\c9 (L++M) r=d/\(L++M).length<=L.length+1):=by
 have f:=GY u w v y g
 rw[hs,p]at f
 refine⟨fun h=>?_,fun h=>?_⟩
 rw[if_pos h]at f
 unfold ay;simp only[f];rfl
 rw[if_neg h]at f
 have q:(ay L n).2.1=0:=by
  unfold ay;simp only[f];rw[if_neg Sm];split;rfl;rw[if_neg Om]
 have⟨M,e⟩:=yU L n
 have⟨i,j,_⟩:=xH q
 have m:=uT x n
 have c:=KY L n
 rw[e]at i j m c
 refine⟨(ay L n).1,M,by rw[<-e,<-q],i,j,m,?_,?_,c⟩
 rw[(m.node i).2.2.2.2.2.1,j,<-hs]
 congr 2
 exact map_congr_left fun k o=>HE<|g k o
 rw[(m.node i).2.2.2.2.2.2,j,<-p]
 congr 1
 have:∀(l:List Int) (d:Int),(∀k∈l,al L k=true)->l.foldl (fun d k=>max d<|c9 (L++M) k) d=l.foldl (fun d k=>max d<|c9 L k) d:=by
  intro l;induction l with
  |nil=>intro d _;rfl
  |cons a l s=>intro d hh;simp only[foldl_cons];rw[IH<|hh a Sm];exact s _ fun k g=>hh k (by simp[g])
 exact this _ _ g
def By{L}(a:Wf L){t}(ht:al L t=true):ay L (ad L t)=(t,0,L):=by
 have⟨h1,h2,h3,l,f,h,g⟩:=a.node ht;have b:=GY h1 h2 h3 l fun k j=>(f k j).1;rw[<-h,<-g]at b;obtain⟨i,hi,rfl⟩:=rV ht;have e:=a.ok.size L[i]<|getElem_mem hi;have d:=a.ok.depth L[i]<|getElem_mem hi;have m:sizeOf L ((i:Int)+1)=L[i].size:=by simp[sizeOf,vy hi]
 have n:c9 L ((i:Int)+1)=L[i].depth:=by simp[c9,vy hi]
 rw[if_neg Om]at b;have c:find L (ad L<|(i:Int)+1)=some i:=by rw[qN hi];exact Go.Proofs.Fh a.ok<|getElem?_eq_getElem hi
 unfold ay;simp only[b,c];rw[if_neg Sm]
def NT(k):(bq k).kids=0\/(bq k).kids=1\/(bq k).kids=2:=by
 unfold bq sB
 repeat' split
 all_goals simp
def Qn{L}(g:Wf L):∀(m:Nat) (t:Int),t.toNat=m->al L t=true->grow L (zA L t)=(t,0,L):=by
 intro m;induction m using Nat.strongRecOn with
 |_ m p =>
 intro t hm ht;have c:=By g ht;have⟨h1,h2,h3,w,q,s,r⟩:=g.node ht;have i:=(zI.1 ht).1;have fj:∀k∈zB (ad L t),grow L (zA L k)=(k,0,L):=fun k v=>Gd;rw[zW g ht,grow];generalize ad L t=n at *;have⟨k,f,o,u,x,a,b⟩:=n;unfold zB at fj|-;simp only at *;rcases NT k with h|h|h;rw[h]at fj|-;have j:=h2 Om;have d:=h3 Om;subst j;subst d;simpa[zZ]using c;rw[h]at fj|-;have d:=h3 Om;subst d;have e:=fj a Sm;simpa[zZ,e]using c;rw[h]at fj|-;have e:=fj a Sm;have l:=fj b Sm;simpa[zZ,e,l]using c
structure LP(T:bt)(sz d:Int):Prop where
 s1:1<=sz
 d1:1<=d
 vk:∀i s,0<=i->0<=s->s+sz<=4096->i+d<=64->qO i s T=(0,s+sz)
 no:∀i s,0<=i->0<=s->(4096<s+sz\/64<i+d)->(qO i s T).1=52
def NS{k f t u x}(h:yW ⟨k,f,t,u,x,0,0⟩ 0=0):LP (.mk k f t u x []) 1 1:=by
 refine⟨Om,Om,fun i s hi hs h1 h2=>?_,fun i s hi hs h1=>?_⟩;rw[qO,if_neg Om,if_neg Om];simp[vK,h];rw[qO];split;rfl;rw[if_pos Om]
def Ly{k f t u x A sa da}(h:yW ⟨k,f,t,u,x,0,0⟩ 1=0)(a:LP A sa da):LP (.mk k f t u x [A]) (1+sa) (da+1):=by
 have a1:=a.s1;have a2:=a.d1;refine⟨Om,Om,fun i s hi hs h1 h2=>?_,fun i s hi hs h1=>?_⟩;rw[qO,if_neg Om,if_neg Om];simp only[length_cons,length_nil,vK,h,if_pos,a.vk (i+1) (s+1) Om Om Om Om];simp;omega;rw[qO];split;rfl;split;rfl;simp only[length_cons,length_nil,vK,h,if_pos];simpa using a.no (i+1) (s+1) Om Om Om
def OP{k f t u x A B sa da sb db}(h:yW ⟨k,f,t,u,x,0,0⟩ 2=0)(a:LP A sa da)(hB:LP B sb db):LP (.mk k f t u x [A,B]) (1+(sa+sb)) (max da db+1):=by
 have a1:=a.s1;have a2:=a.d1;have b1:=hB.s1;have b2:=hB.d1;refine⟨Om,Om,fun i s hi hs h1 h2=>?_,fun i s hi hs h1=>?_⟩;rw[qO,if_neg Om,if_neg Om];simp only[length_cons,length_nil,vK,h,if_pos,a.vk (i+1) (s+1) Om Om Om Om,hB.vk (i+1) (s+1+sa) Om Om Om Om];simp;omega;rw[qO];split;rfl;split;rfl;simp only[length_cons,length_nil,vK,h,if_pos];by_cases b:s+1+sa<=4096/\i+1+da<=64;rw[a.vk (i+1) (s+1) Om Om b.1 b.2];simpa using hB.no (i+1) (s+1+sa) Om Om Om;have:=a.no (i+1) (s+1) Om Om Om;rw[this];simp
def Xp{L}(g:Wf L):∀(m:Nat) (t:Int),t.toNat=m->al L t=true->LP (zA L t) (sizeOf L t) (c9 L t):=by
 intro m;induction m using Nat.strongRecOn with
 |_ m v =>
 intro t hm ht;have⟨h1,h2,h3,r,w,q,p⟩:=g.node ht;have d:=(zI.1 ht).1;have fj:∀k∈zB (ad L t),LP (zA L k) (sizeOf L k)<|c9 L k:=fun k y=>Gd;have ak:∀len:Nat,(len:Int)=(bq (ad L t).kind).kids->yW ⟨(ad L t).kind,(ad L t).az,(ad L t).to,(ad L t).num,(ad L t).bb,0,0⟩ len=0:=fun len j=>by
  have l:zO ⟨(ad L t).kind,(ad L t).az,(ad L t).to,(ad L t).num,(ad L t).bb,0,0⟩=0:=h1;have o:zQ (bq (ad L t).kind) ⟨(ad L t).kind,(ad L t).az,(ad L t).to,(ad L t).num,(ad L t).bb,0,0⟩=0:=r;unfold yW;simp only[l];simp[j,o]
 rw[zW g ht,q,p];generalize ad L t=n at *;have⟨k,f,s,u,x,a,b⟩:=n;unfold zB at fj|-;simp only at *;rcases NT k with h|h|h;rw[h];simpa using NS (ak 0 Om);rw[h]at fj|-;have c:=fj a Sm;have:=Ly (ak 1 Om) c;have e:=c.d1;simpa[Int.max_eq_right<|show 0<=c9 L a by omega]using this;rw[h]at fj|-;have c:=fj a Sm;have i:=fj b Sm;have:=OP (ak 2 Om) c i;have e:=c.d1;simpa[Int.max_eq_right<|show 0<=c9 L a by omega]using this
end Go.Proofs
end
section
namespace Go.Proofs
def yf{L t k}(h:(vC L t k).2=false):al L t=true/\(ad L t).kind=k/\vC L t k=(ad L t,false):=by
 unfold vC at h|-;split at h;grind;cases h
def xh{L t k}(h:al L t=true)(a:(ad L t).kind=k):vC L t k=(ad L t,false):=by unfold vC;rw[if_pos ⟨h,a⟩]
section
variable {L:aw} (hW:Wf L) {t:Int} (ht:al L t=true)
include hW ht
def zID:(ad L t).bb.size<=64:=by
 have:=(hW.node ht).2.2.2.1;unfold zQ at this;split at this;cases this;split at this;cases this;omega
def Ow(b:(ad L t).kind=3):zA L t=qB (ad L t).bb:=by
 have h:=(hW.node ht).1;rw[zW hW ht,b,qB];have a:zB (ad L t)=[]:=by unfold zB;rw[b];rfl
 rw[a];unfold zO at h;rw[b]at h;simp[bq,ou]at h;simp[h]
def Ja(b:(ad L t).kind=2):zA L t=jl (ad L t).num:=by
 have h:=(hW.node ht).1;rw[zW hW ht,b,jl];have a:zB (ad L t)=[]:=by unfold zB;rw[b];rfl
 rw[a];unfold zO at h;rw[b]at h;simp[bq,ou]at h;simp[h]
def y6(e:(ad L t).kind=4):al L (ad L t).a=true/\al L (ad L t).b=true/\zA L t=qR (zA L (ad L t).a) (zA L (ad L t).b):=by
 have h:=(hW.node ht).1;have d:=(hW.node ht).2.2.2.2.1;have c:zB (ad L t)=[(ad L t).a,(ad L t).b]:=by unfold zB;rw[e];rfl
 rw[c]at d;refine⟨(d _ Sm).1,(d _ Sm).1,?_⟩;rw[zW hW ht,e,qR,c];unfold zO at h;rw[e]at h;simp[bq,ou]at h;simp[h]
def Kt(d:(ad L t).kind=7):al L (ad L t).a=true/\0<=(ad L t).az/\zA L t=yD (ad L t).az (zA L (ad L t).a):=by
 have h:=(hW.node ht).1;have c:=(hW.node ht).2.2.2.1;have e:=(hW.node ht).2.2.2.2.1;have b:zB (ad L t)=[(ad L t).a]:=by unfold zB;rw[d];rfl
 rw[b]at e;refine⟨(e _ Sm).1,?_,?_⟩;unfold zQ at c;rw[d]at c;split at c;cases c;rename_i hh;simp[bq,qw]at hh;omega;rw[zW hW ht,d,yD,b];unfold zO at h;rw[d]at h;simp[bq,ou]at h;simp[h]
def LY(b:(ad L t).kind=8\/(ad L t).kind=9):al L (ad L t).a=true/\0<=(ad L t).az/\(ad L t).az<16/\((ad L t).to=1-(ad L t).az->zA L t=uA (ad L t).az (zA L (ad L t).a) ((ad L t).kind==9)):=by
 have h:=(hW.node ht).1;have e:=(hW.node ht).2.2.2.1;have g:=(hW.node ht).2.2.2.2.1;have d:zB (ad L t)=[(ad L t).a]:=by unfold zB;rcases b with b|b<;>(rw[b];rfl)
 rw[d]at g;have c:0<=(ad L t).az/\(ad L t).az<16:=by
  unfold zQ at e;rcases b with b|b <;>
  .rw[b]at e;split at e
   .cases e
   .rename_i hh;simp[bq,qw]at hh;omega
 refine⟨(g _ Sm).1,c.1,c.2,fun f=>?_⟩;rw[zW hW ht,uA,d,<-f];unfold zO at h;rcases b with b|b <;>
 .rw[b]at h|-;simp[bq,ou]at h;simp[h]
def sJ{k f t' u x ks}(h:zA L t=.mk k f t' u x ks):(ad L t).kind=k/\(ad L t).az=f/\(ad L t).to=t'/\(ad L t).num=u/\(ad L t).bb=x:=by
 rw[zW hW ht]at h;injection h with h1 h2 h3 b a c;exact⟨h1,h2,h3,b,a⟩
end
def MY{n}(h:0<=n/\n<16):IntKind.i64.wrap (1-n)=1-n:=IntWalk.i64_in _ Om
section
variable {L:aw} (hW:Wf L) {t:Int}
include hW
def xQ(h:(zR L t).2=false):al L t=true/\al L (zR L t).1.2=true/\zA L t=qR (qB (zR L t).1.1) (zA L (zR L t).1.2):=by
 unfold zR at h|-;simp only[Bool.or_eq_false_iff]at h;have⟨ht,e,c⟩:=yf h.1;rw[c]at h|-;simp only at h|-;have⟨b,a,d⟩:=yf h.2;rw[d];have⟨_,h2,h3⟩:=y6 hW ht e;exact⟨ht,h2,by rw[h3,Ow hW b a]⟩
def Gf(ht:al L t=true){g y}(h:zA L t=qR (qB g) y):∃n,zR L t=((g,n),false)/\al L n=true/\zA L n=y:=by
 have d:=(sJ hW ht<|h.trans rfl).1;have⟨h1,h2,h3⟩:=y6 hW ht d;rw[h]at h3;have i:qB g=zA L (ad L t).a:=by simpa[qR]using(bt.mk.inj h3).2.2.2.2.2 |>fun e=>(List.cons.inj e).1
 have f:y=zA L (ad L t).b:=by have:=(bt.mk.inj h3).2.2.2.2.2;exact(List.cons.inj (List.cons.inj this).2).1
 have c:=sJ hW h1<|i.symm.trans rfl;refine⟨(ad L t).b,?_,h2,f.symm⟩;unfold zR;rw[xh ht d];simp only;rw[xh h1 c.1];simp[c.2.2.2.2]
def Fp(h:(vW L t).2=false):al L t=true/\zA L t=vO (vW L t).1.1 (vW L t).1.2/\(vW L t).1.2.size<=64:=by
 unfold vW at h|-;simp only[Bool.or_eq_false_iff,Bool.not_eq_false',decide_eq_true_eq]at h;have⟨⟨⟨⟨h1,h2⟩,h3⟩,f⟩,b⟩:=h;have⟨ht,_,e⟩:=xQ hW h1;have⟨i,d,m⟩:=yf h2;simp only at h3|-;rw[m]at f b|-;simp only at f b|-;have⟨j,a,k⟩:=yf f;have⟨g,c,l⟩:=yf b;rw[k,l];refine⟨ht,?_,zID hW g⟩;rw[e,h3,(y6 hW i d).2.2,Ja hW j a,Ow hW g c];rfl
def Ih(ht:al L t=true){c x}(h:zA L t=vO c x):vW L t=((c,x),false):=by
 have⟨n,j,d,e⟩:=Gf hW ht h;have i:=(sJ hW d<|e.trans rfl).1;have⟨h1,h2,h3⟩:=y6 hW d i;rw[e]at h3;have q1:jl c=zA L (ad L n).a:=(List.cons.inj (bt.mk.inj h3).2.2.2.2.2).1;have q2:qB x=zA L (ad L n).b:=(List.cons.inj (List.cons.inj (bt.mk.inj h3).2.2.2.2.2).2).1;have g:=sJ hW h1<|q1.symm.trans rfl;have f:=sJ hW h2<|q2.symm.trans rfl;unfold vW;rw[j];simp only;rw[xh d i];simp only;rw[xh h1 g.1,xh h2 f.1];simp[g.2.2.2.1,f.2.2.2.2]
def Iz(ht:al L t=true){c}(h:zA L t=jl c):(vC L t 2).1.num=c/\(vC L t 2).2=false:=by
 have k:=sJ hW ht<|h.trans rfl;rw[xh ht k.1];exact⟨k.2.2.2.1,rfl⟩
def IQ(h:(vC L t 2).2=false):al L t=true/\zA L t=jl (vC L t 2).1.num:=by
 have⟨h1,h2,e⟩:=yf h;rw[e];exact⟨h1,Ja hW h1 h2⟩
def F8(ht:al L t=true)(h:(zN L t).2=false):(zN L t).1.kind=1/\((zN L t).1.az=0\/(zN L t).1.az=1)/\zA L t=uA (zN L t).1.az (vO (zN L t).1.c (zN L t).1.bb) (zN L t).1.dz/\(zN L t).1.bb.size<=64:=by
 unfold zN at h|-;simp only at h|-;split at h;cases h;rename_i hh;rw[if_neg hh];simp only[not_or,not_and,Classical.not_not]at hh;have i:(ad L t).kind=8\/(ad L t).kind=9:=Gd;have⟨j,d,b,g⟩:=LY hW ht i;have a:=hh.2.2;rw[MY ⟨d,b⟩]at a;have⟨_,e,f⟩:=Fp hW h;simp only;refine⟨trivial,Oh hh.2.1,by rw[g a,e],f⟩
def IM(ht:al L t=true){n c x g}(l:n=0\/n=1)(h:zA L t=uA n (vO c x) g):zN L t=(⟨1,n,c,x,g⟩,false):=by
 have k:=sJ hW ht<|h.trans rfl;have d:(ad L t).kind=8\/(ad L t).kind=9:=by rw[k.1];cases g<;>simp
 have⟨f,e,b,j⟩:=LY hW ht d;have:=j (by rw[k.2.2.1,k.2.1]);rw[h,k.2.1]at this;have q1:vO c x=zA L (ad L t).a:=(List.cons.inj (bt.mk.inj this).2.2.2.2.2).1;unfold zN;simp only;rw[if_neg,Ih hW f q1.symm,k.1,k.2.1];cases g<;>rfl;simp only[not_or,not_and,Classical.not_not];refine⟨fun i=>d.resolve_left i,by rw[k.2.1];omega,?_⟩;rw[k.2.2.1,MY ⟨e,b⟩,k.2.1]
end
def um(x:bt)(l:dy):Prop:=vR l=0/\∃a b:Bool,(l.kind=4->l.dz=(a ||b))/\x=zT l a b
def CH{k f c x g}(h:vR ⟨k,f,c,x,g⟩=0):(k=1\/k=2\/k=3\/k=4\/k=5\/k=6\/k=7)/\(f=0\/f=1)/\(vM k=false->f=0)/\(qK k=false->x=⟨#[]⟩)/\(g=true->k=1\/k=4)/\x.size<=64:=by
 unfold vR at h;simp only at h;split at h;cases h;rename_i hh;split at h;cases h;simp only[not_or,not_and,Classical.not_not]at hh;have⟨h1,h2,h3,b,a,d⟩:=hh;refine⟨Om,?_,b,a,?_,Om⟩;grind;grind
def xI{k f c x g}(h:1<=k/\k<=7)(d:f=0\/f=1)(h1:vM k=false->f=0)(h2:qK k=false->x=⟨#[]⟩)(h3:g=true->k=1\/k=4)(e:x.size<=64):vR ⟨k,f,c,x,g⟩=0:=by
 unfold vR;simp only;rw[if_neg,if_neg Om];simp only[not_or,not_and,Classical.not_not];refine⟨Om,Om,fun a=>d.resolve_left a,h1,h2,fun b h1=>(h3 b).resolve_left h1⟩
section
variable {L:aw} (hW:Wf L) {t:Int}
include hW
def UN{ao}(h:(vV L ao t).2=false):∃c x a b,(vV L ao t).1=⟨4,ao,c,x,a ||b⟩/\x.size<=64/\zA L t=qR (uA 0 (vO c x) a) (uA 1 (vO c x) b):=by
 unfold vV at h|-;simp only[Bool.or_eq_false_iff,Bool.not_eq_false',decide_eq_true_eq,bne_eq_false_iff_eq]at h;have⟨⟨⟨⟨⟨⟨h1,h2⟩,h3⟩,i⟩,d⟩,g⟩,f⟩:=h;have⟨ht,p,e⟩:=yf h1;simp only;rw[e]at h2 h3 i d g f|-;simp only at h2 h3 i d g f|-;have⟨n,m,o⟩:=y6 hW ht p;have⟨_,_,k,l⟩:=F8 hW n h2;have⟨_,_,j,_⟩:=F8 hW m h3;refine⟨_,_,_,_,rfl,l,?_⟩;rw[o,k,j,i,d,g,f]
def jOZ(ht:al L t=true){ao c x a b}(h:zA L t=qR (uA 0 (vO c x) a) (uA 1 (vO c x) b)):vV L ao t=(⟨4,ao,c,x,a ||b⟩,false):=by
 have d:=(sJ hW ht<|h.trans rfl).1;have⟨h1,h2,h3⟩:=y6 hW ht d;rw[h]at h3;have q1:=(List.cons.inj (bt.mk.inj h3).2.2.2.2.2).1;have q2:=(List.cons.inj (List.cons.inj (bt.mk.inj h3).2.2.2.2.2).2).1;unfold vV;simp only;rw[xh ht d];simp only;rw[IM hW h1 (.inl rfl) q1.symm,IM hW h2 (.inr rfl) q2.symm];simp
def YJ{ao}(o:0<=ao)(h:(qJ L ao t).2=false):um (yD ao<|zA L t) (qJ L ao t).1:=by
 unfold qJ at h|-;simp only at h|-;by_cases i:(zR L t).1.1=tM/\ao=0;rw[if_pos i]at h|-;simp only[Bool.or_eq_false_iff]at h;have⟨ht,k,e⟩:=xQ hW h.1;show um _ ⟨3,0,_,⟨#[]⟩,false⟩;refine⟨xI Om (.inl rfl) (fun _=>rfl) (fun _=>rfl) (fun h=>nomatch h)<|Nat.zero_le _,false,false,Sm,?_⟩;rw[e,i.1,i.2,(IQ hW h.2).2];rfl;rw[if_neg i]at h|-;by_cases j:(zR L t).1.1=yS/\ao=2;rw[if_pos j]at h|-;simp only[Bool.or_eq_false_iff]at h;have⟨ht,k,e⟩:=xQ hW h.1;show um _ ⟨5,0,_,⟨#[]⟩,false⟩;refine⟨xI Om (.inl rfl) (fun _=>rfl) (fun _=>rfl) (fun h=>nomatch h)<|Nat.zero_le _,false,false,Sm,?_⟩;rw[e,j.1,j.2,(IQ hW h.2).2];rfl;rw[if_neg j]at h|-;by_cases g:(zR L t).1.1=yG/\ao=2;rw[if_pos g]at h|-;simp only[Bool.or_eq_false_iff]at h;have⟨ht,k,e⟩:=xQ hW h.1;have⟨_,f,d⟩:=Fp hW h.2;refine⟨xI Om (.inl rfl) (fun _=>rfl) (by simp[qK]) Sm d,false,false,Sm,?_⟩;rw[e,g.1,g.2,f];rfl;rw[if_neg g]at h|-;by_cases m:(zR L t).1.1=pU/\ao<=1;rw[if_pos m]at h|-;simp only[Bool.or_eq_false_iff]at h;have⟨_,f,d⟩:=Fp hW h.2;refine⟨xI Om Om (by simp[vM]) (by simp[qK,vM]) Sm d,false,false,Sm,?_⟩;rw[f];rfl;rw[if_neg m]at h|-;by_cases l:(zR L t).1.1=uF/\ao<=1;rw[if_pos l]at h|-;simp only[Bool.or_eq_false_iff]at h;have⟨ht,k,e⟩:=xQ hW h.1;have⟨c,x,a,b,f,d,n⟩:=UN hW h.2;rw[f];refine⟨xI Om Om (by simp[vM]) (by simp[qK,vM]) Sm d,a,b,Sm,?_⟩;rw[e,l.1,n];cases a<;>cases b<;>rfl;rw[if_neg l]at h;cases h
def zDH(ht:al L t=true)(h:(nz L t).2=false):um (zA L t) (nz L t).1:=by
 unfold nz at h|-;simp only at h|-;by_cases d:(ad L t).kind=7;rw[if_pos d]at h|-;have⟨h1,h2,h3⟩:=Kt hW ht d;rw[h3];exact YJ hW h2 h;rw[if_neg d]at h|-;by_cases i:(ad L t).kind=8\/(ad L t).kind=9;rw[if_pos i]at h|-;have⟨h1,h2,h3,j⟩:=F8 hW ht h;generalize zN L t=r at *;have⟨⟨k,f,c,x,g⟩,b⟩:=r;simp only at h1 h2 h3 j|-;subst h1;exact⟨xI Om h2 (by simp[vM]) (by simp[qK,vM]) Sm j,false,false,Sm,h3⟩;rw[if_neg i]at h|-;split at h;cases h;rename_i a;rw[if_neg a];simp only[Bool.or_eq_true,Bool.not_eq_true',decide_eq_false_iff_not,not_or,Classical.not_not,Bool.not_eq_true]at a;have⟨_,l,e⟩:=xQ hW a.1;show um _ ⟨7,0,_,⟨#[]⟩,false⟩;refine⟨xI Om (.inl rfl) (fun _=>rfl) (fun _=>rfl) (fun h=>nomatch h)<|Nat.zero_le _,false,false,Sm,?_⟩;rw[e,a.2,(IQ hW h).2];rfl
def Q7(ht:al L t=true){l}(h:um (zA L t) l):nz L t=(l,false):=by
 have⟨k,f,c,x,g⟩:=l;have⟨h1,a,b,B,o⟩:=h;have⟨A,z,hs,v,s,_⟩:=CH h1;have d:∀{ao:Int} {u:ByteArray} {y:bt},zA L t=yD ao (qR (qB u) y)->(ad L t).kind=7/\(ad L t).az=ao/\al L (ad L t).a=true/\zA L (ad L t).a=qR (qB u) y/\∃n,zR L (ad L t).a=((u,n),false)/\al L n=true/\zA L n=y:=by
  intro ao u y e;have k:=sJ hW ht<|e.trans rfl;have⟨q1,_,q3⟩:=Kt hW ht k.1;rw[e]at q3;have q:=(List.cons.inj (bt.mk.inj q3).2.2.2.2.2).1;exact⟨k.1,k.2.1,q1,q.symm,Gf hW q1 q.symm⟩
 rcases A with rfl|rfl|rfl|rfl|rfl|rfl|rfl;have e:zA L t=uA f (vO c x) g:=o;have k:=sJ hW ht<|e.trans rfl;unfold nz;simp only;rw[if_neg (by rw[k.1];cases g<;>decide),if_pos (by rw[k.1];cases g<;>decide),IM hW ht z e];have e:zA L t=yD f (vO c x):=o;have:g=false:=by cases g with
  |false=>rfl
  |true=>exact absurd (s rfl) Om
 subst this;have⟨k,kf,h1,h2,n,i,j,m⟩:=d e;unfold nz qJ;simp only;rw[if_pos k,i,kf];simp only;rw[if_neg fun q=>absurd q.1 De,if_neg fun q=>absurd q.1 De,if_neg fun q=>absurd q.1 De,if_pos ⟨trivial,Om⟩,Ih hW h1 h2];rfl;obtain rfl:f=0:=hs rfl;obtain rfl:x=⟨#[]⟩:=v rfl;have:g=false:=by cases g with
  |false=>rfl
  |true=>exact absurd (s rfl) Om
 subst this;have e:zA L t=yD 0 (qR (qB tM)<|jl c):=o;have⟨k,kf,h1,h2,n,i,j,m⟩:=d e;have⟨r,p⟩:=Iz hW j m;unfold nz qJ;simp only;rw[if_pos k,i,kf];simp only;rw[if_pos ⟨trivial,trivial⟩,r,p];rfl;have e:zA L t=yD f (qR (qB uF)<|qR (uA 0 (vO c x)<|g&&a)<|uA 1 (vO c x)<|g&&b):=o;have⟨k,kf,h1,h2,n,i,j,m⟩:=d e;have w:((g&&a) ||(g&&b))=g:=by
  have:=B rfl;simp only at this;subst this;cases a<;>cases b<;>rfl
 unfold nz qJ;simp only;rw[if_pos k,i,kf];simp only;rw[if_neg fun q=>absurd q.1 De,if_neg fun q=>absurd q.1 De,if_neg fun q=>absurd q.1 De,if_neg fun q=>absurd q.1 De,if_pos ⟨trivial,Om⟩,jOZ hW j m,w];rfl;obtain rfl:f=0:=hs rfl;obtain rfl:x=⟨#[]⟩:=v rfl;have:g=false:=by cases g with
  |false=>rfl
  |true=>exact absurd (s rfl) Om
 subst this;have e:zA L t=yD 2 (qR (qB yS)<|jl c):=o;have⟨k,kf,h1,h2,n,i,j,m⟩:=d e;have⟨r,p⟩:=Iz hW j m;unfold nz qJ;simp only;rw[if_pos k,i,kf];simp only;rw[if_neg fun q=>absurd q.1 De,if_pos ⟨trivial,trivial⟩,r,p];rfl;obtain rfl:f=0:=hs rfl;have:g=false:=by cases g with
  |false=>rfl
  |true=>exact absurd (s rfl) Om
 subst this;have e:zA L t=yD 2 (qR (qB yG)<|vO c x):=o;have⟨k,kf,h1,h2,n,i,j,m⟩:=d e;unfold nz qJ;simp only;rw[if_pos k,i,kf];simp only;rw[if_neg fun q=>absurd q.1 De,if_neg fun q=>absurd q.1 De,if_pos ⟨trivial,trivial⟩,Ih hW j m];rfl;obtain rfl:f=0:=hs rfl;obtain rfl:x=⟨#[]⟩:=v rfl;have:g=false:=by cases g with
  |false=>rfl
  |true=>exact absurd (s rfl) Om
 subst this;have e:zA L t=qR (qB wE) (jl c):=o;have k:=sJ hW ht<|e.trans rfl;have⟨n,i,j,m⟩:=Gf hW ht e;have⟨r,p⟩:=Iz hW j m;unfold nz;simp only;rw[if_neg (by rw[k.1];decide),if_neg (by rw[k.1];decide),i];simp only;rw[if_neg Sm,r,p]
end
def WM{L t}(h:al L t=false):mo L t=(vx,false):=by
 have e:ad L t=xC:=by simp[ad,yI h]
 have a:zR L t=((⟨#[]⟩,0),true)\/(zR L t).2=true:=by
  right;unfold zR;have:vC L t 4=(xC,true):=by unfold vC;rw[if_neg (by rw[h];simp)]
  rw[this];rfl
 have b:(zR L t).2=true:=by rcases a with a|a<;>simp[a]
 have:(nz L t).2=true:=by
  unfold nz;simp only;rw[e,if_neg De,if_neg De,if_pos<|by simp[b]]
 unfold mo;rw[if_pos this]
def Ts{L}(hW:Wf L){t}(ht:al L t=true){l}(h:um (zA L t) l):mo L t=(l,true):=by
 unfold mo;rw[Q7 hW ht h,if_neg Sm]
def U0{L}(hW:Wf L){t}(h:(mo L t).1.kind≠0):al L t=true/\(mo L t).2=true/\um (zA L t) (mo L t).1:=by
 have hi:al L t=true:=by
  cases hi:al L t with
  |true=>rfl
  |false=>rw[WM hi]at h;exact absurd rfl h
 cases a:(nz L t).2 with
 |true=>unfold mo at h;rw[if_pos a]at h;exact absurd rfl h
 |false =>
  have e:mo L t=((nz L t).1,true):=by unfold mo;rw[if_neg<|by simp[a]]
  rw[e]
  exact⟨hi,rfl,zDH hW hi a⟩
end Go.Proofs
end
section
open Go Go.SE List
namespace Go.Proofs
def jXJ{l}(h:vR l=0):um (zT l true true) l:=⟨h,l.dz,l.dz,fun _=>Sm,by unfold zT;simp⟩
def Vi{L}(a:Wf L){t}(ht:al L t=true):of L (zA L t)=(t,0,L):=by
 have h:=Xp a _ t rfl ht;obtain⟨i,hi,rfl⟩:=rV ht;have c:=a.ok.size L[i]<|getElem_mem hi;have b:=a.ok.depth L[i]<|getElem_mem hi;have d:sizeOf L ((i:Int)+1)=L[i].size:=by simp[sizeOf,vy hi]
 have e:c9 L ((i:Int)+1)=L[i].depth:=by simp[c9,vy hi]
 have:=h.vk 0 0 Om Om Om Om;unfold of;rw[this,if_neg Sm,Qn a _ _ rfl ht];simp
inductive In(T:bt):bt->Prop
 |refl:In T T
 |fst {f t u:Int} {x:ByteArray} {a b:bt}:In T (.mk 4 f t u x [a,b])->In T a
 |snd {f t u:Int} {x:ByteArray} {a b:bt}:In T (.mk 4 f t u x [a,b])->In T b
 |zn {k f t u:Int} {x:ByteArray} {a:bt}:qY k=true->In T (.mk k f t u x [a])->In T a
def In.trans{T y z}(h:In T y)(h2:In y z):In T z:=by
 induction h2 with
 |refl=>exact h
 |fst _ a=>exact .fst a
 |snd _ a=>exact .snd a
 |zn b _ a=>exact .zn b a
def bt.kd:bt->Int|.mk k _ _ _ _ _=>k
def Lo(y:bt):Prop:=∀z,In y z->z.kd≠7/\z.kd≠6
def KS{T}(j:∀f t u x a b,T=.mk 4 f t u x [a,b]->Lo a/\Lo b)(i:∀k f t u x a,T=.mk k f t u x [a]->Lo a){y}(h:In T y):y=T\/Lo y:=by
 induction h with
 |refl=>exact .inl rfl
 |fst _ d =>
  rcases d with e|e
  grind
  exact .inr fun z c=>e z<|(In.fst .refl).trans c
 |snd _ d =>
  rcases d with e|e
  grind
  exact .inr fun z c=>e z<|(In.snd .refl).trans c
 |zn g _ d =>
  rcases d with e|e
  grind
  exact .inr fun z c=>e z<|(In.zn g .refl).trans c
def CY{T}(e:T.kd≠7/\T.kd≠6)(g:∀f t u x a b,T=.mk 4 f t u x [a,b]->Lo a/\Lo b)(d:∀k f t u x a,T=.mk k f t u x [a]->Lo a):Lo T:=fun z c=>by
 rcases KS g d c with rfl|h;exact e;exact h z .refl
def xx(x):Lo (qB x):=CY ⟨by simp[qB,bt.kd],by simp[qB,bt.kd]⟩ (fun _ _ _ _ _ _ h=>by simp[qB]at h) (fun _ _ _ _ _ _ h=>by simp[qB]at h)
def D2(c):Lo (jl c):=CY ⟨by simp[jl,bt.kd],by simp[jl,bt.kd]⟩ (fun _ _ _ _ _ _ h=>by simp[jl]at h) (fun _ _ _ _ _ _ h=>by simp[jl]at h)
def wT{a b}(d:Lo a)(c:Lo b):Lo (qR a b):=CY ⟨by simp[qR,bt.kd],by simp[qR,bt.kd]⟩ (fun _ _ _ _ _ _ h=>by simp[qR]at h;obtain⟨_,_,_,_,rfl,rfl⟩:=h;exact⟨d,c⟩) (fun _ _ _ _ _ _ h=>by simp[qR]at h)
def IS{n a g}(b:Lo a):Lo (uA n a g):=CY ⟨by cases g<;>simp[uA,bt.kd],by cases g<;>simp[uA,bt.kd]⟩ (fun _ _ _ _ _ _ h=>by simp[uA]at h) (fun _ _ _ _ _ _ h=>by simp[uA]at h;obtain⟨_,_,_,_,_,rfl⟩:=h;exact b)
def A3(c x):Lo (vO c x):=wT (xx _)<|wT (D2 _)<|xx _
def Az{n a y}(b:Lo a)(h:In (yD n a) y):y=yD n a\/Lo y:=KS (fun _ _ _ _ _ _ h=>by simp[yD]at h) (fun _ _ _ _ _ _ h=>by simp[yD]at h;obtain⟨_,_,_,_,_,rfl⟩:=h;exact b) h
def Xb(l a b){y}(h:In (zT l a b) y):y=zT l a b\/Lo y:=by
 unfold zT at h|-;split at h;rename_i e;rw[if_pos e];exact .inr fun z c=>IS (A3 _ _) z<|h.trans c;rename_i e;rw[if_neg e];split at h;rename_i e;rw[if_pos e];exact Az (A3 _ _) h;rename_i e;rw[if_neg e];split at h;rename_i e;rw[if_pos e];exact Az (wT (xx _)<|D2 _) h;rename_i e;rw[if_neg e];split at h;rename_i e;rw[if_pos e];exact Az (wT (xx _)<|wT (IS<|A3 _ _)<|IS<|A3 _ _) h;rename_i e;rw[if_neg e];split at h;rename_i e;rw[if_pos e];exact Az (wT (xx _)<|D2 _) h;rename_i e;rw[if_neg e];split at h;rename_i e;rw[if_pos e];exact Az (wT (xx _)<|A3 _ _) h;rename_i e;rw[if_neg e];exact .inr fun z c=>wT (xx _) (D2 _) z<|h.trans c
def sr(n:Int):bt:=.mk 6 n 0 0 ⟨#[]⟩ []
def YX{L G}(f:Wf L)(j:∀g∈G,al L g=true){t}(h:ky L G t):al L t=true/\∃g∈G,In (zA L g)<|zA L t:=by
 induction h with
 |pX d=>exact⟨j _ d,_,d,.refl⟩
 |yz _ e k =>
  rename_i r u t _
  have⟨i,g,d,hi⟩:=k
  refine⟨(e.iq f i).1,g,d,?_⟩
  rw[zW f i]at hi
  rcases e with⟨_,c,rfl⟩|⟨_,c,rfl⟩|⟨_,c,rfl⟩
  rw[c,show zB (ad L u)=[(ad L u).a,(ad L u).b] by simp[zB,c,bq]]at hi
  exact .fst hi
  rw[c,show zB (ad L u)=[(ad L u).a,(ad L u).b] by simp[zB,c,bq]]at hi
  exact .snd hi
  rw[show zB (ad L u)=[(ad L u).a] by
   simp only[qY,Bool.or_eq_true,beq_iff_eq]at c;rcases c with(c|c)|c<;>simp[zB,c,bq]]at hi
  exact .zn c hi
def zj{A M}(a:Wf (A++M)){v}(h:al A v=true):zA (A++M) v=zA A v:=uO a _ v rfl h
def tV:(vB []).1=none:=by unfold vB;simp
def Yp{L G}(k:Wf L)(v:uE L){l}(u:yY l.c):
  ∃M,(qF L G (qS l).1).1=L++M/\Wf (L++M)/\uE (L++M)/\(((qF L G (qS l).1).2.2=false/\(qF L G (qS l).1).2.1=G) \/
   ((qF L G (qS l).1).2.2=true/\vR l=0/\∃t,(qF L G (qS l).1).2.1=jj G t/\al (L++M) t=true/\zA (L++M) t=zT l true true)):=by
 obtain⟨M,f⟩:=D9 L (qS l).1
 have o:=DU k (qS l).1
 have n1:=HO v (qS l).1
 rw[f]at o n1
 refine⟨M,?_⟩
 unfold qF
 by_cases a:(yP L (qS l).1).2.1≠0
 grind
 rw[if_neg a]
 have a:(yP L (qS l).1).2.1=0:=Classical.byContradiction a
 refine⟨f,o,n1,.inr ⟨rfl,?_⟩⟩
 obtain⟨d1,d2,d3,x⟩:=QO k a
 by_cases b:(zG [] l).2.1≠0
 have e:(qS l).1=[]:=by unfold qS;rw[if_pos b]
 rw[e]at a
 have:(yP L []).2.1=(vB []).2.1:=by unfold yP;rw[tV]
 rw[this]at a
 exact absurd a<|xO tV
 have b:(zG [] l).2.1=0:=Classical.byContradiction b
 have j:vR l=0:=by
  unfold zG at b;split at b;exact b;grind
 have p:zG [] l=of [] (zT l true true):=by unfold zG;rw[if_neg Om]
 obtain⟨g,r,_⟩:=OV Wf.nil (by rw[<-p];exact b)
 have i:=xK Wf.nil l
 have m:=AP uE.nil u
 rw[<-p]at g r
 have e:qS l=iz (zG [] l).2.2 (zG [] l).1:=by unfold qS;rw[if_neg Om]
 have w:iz (zG [] l).2.2 (zG [] l).1=(qL (zG [] l).2.2 (zG [] l).1,0):=by
  unfold iz;rw[if_pos g];split;rename_i d;exfalso;have:(qS l).1=[]:=by rw[e];unfold iz;rw[if_pos g,if_pos d]
  rw[this]at a;have:(yP L []).2.1=(vB []).2.1:=by unfold yP;rw[tV]
  rw[this]at a;exact absurd a<|xO tV;rfl
 have n:(qS l).1=qL (zG [] l).2.2 (zG [] l).1:=by rw[e,w]
 obtain⟨q,q1,q2,q3,q4⟩:=FF i m g (by rw[<-n];exact x)
 rw[<-n]at q1
 have h:yP L (qS l).1=((vH L q q.length).1,(vH L q q.length).2.1,0,(vH L q q.length).2.2):=by unfold yP;rw[q1]
 rw[h]at a
 obtain⟨y,z,s⟩:=xX k q2 q3 a
 rw[h]at f d2
 simp only at f d2
 refine⟨j,(vH L q q.length).1,?_,by rw[<-f];exact d2,by rw[<-f,s,q4,r]⟩
 rw[h];simp only
 exact wS d2
section
variable {L M:aw} {G:List Int} {ls:List dy} {K:Int->Prop}
end
def G9{k f t u x len}(h:yW ⟨k,f,t,u,x,0,0⟩ len=0):zO ⟨k,f,t,u,x,0,0⟩=0/\(len:Int)=(bq k).kids/\zQ (bq k) ⟨k,f,t,u,x,0,0⟩=0:=by
 unfold yW at h;simp only at h;by_cases h1:zO ⟨k,f,t,u,x,0,0⟩=0;grind;grind
def DR{L n}(j:Wf L)(m:zO n=0)(p:(bq n.kind).kids<1->n.a=0)(o:(bq n.kind).kids<2->n.b=0)(q:zQ (bq n.kind) n=0)(u:∀k∈zB n,al L k=true){sz d}(hs:1+((zB n).map<|sizeOf L).sum=sz)(l:(zB n).foldl (fun d t=>max d<|c9 L t) 0+1=d)(h:¬ (sz>4096\/d>64)):
  (∃r M,ay L n=(r,0,L++M)/\al (L++M) r=true/\ad (L++M) r=n/\Wf (L++M)/\sizeOf (L++M) r=sz/\c9 (L++M) r=d/\(L++M).length<=L.length+1)\/((ay L n).2.1=6/\65536<=L.length):=by
 by_cases v:L.length<65536
 exact .inl<|(Wv j v m p o q u hs l).2 h
 have g:=GY m p o q u
 rw[hs,l,if_neg h]at g
 cases c:find L n with
 |none =>
  right
  unfold ay;simp only[g,c]
  rw[if_neg Sm,if_pos Om]
  exact⟨rfl,Om⟩
 |some i =>
  left
  have⟨hi,e⟩:=Bu c
  have hm:ay L n=((i:Int)+1,0,L):=by unfold ay;simp only[g,c];rw[if_neg Sm]
  have f:al L ((i:Int)+1)=true:=zI.2 ⟨Om,Om⟩
  have s:ad L ((i:Int)+1)=n:=by rw[qN hi,e]
  have w:=j.node f
  rw[s]at w
  refine⟨_,[],by rw[hm,append_nil],by rw[append_nil];exact f,by rw[append_nil];exact s,by rw[append_nil];exact j,?_,?_,Sm⟩
  grind
  grind
abbrev YY(L:aw)(T:bt)(sz d:Int)(q:Int×Int×aw):Prop:=(∃r M,q=(r,0,L++M)/\al (L++M) r=true/\Wf (L++M)/\sizeOf (L++M) r=sz/\c9 (L++M) r=d/\((L++M).length:Int)<=L.length+sz)\/(q.2.1=6/\65536<L.length+sz)
structure GP(T:bt)(sz d:Int):Prop extends LP T sz d where
 Co:∀L,Wf L->sz<=4096->d<=64->YY L T sz d (grow L T)
def LL{k f t u x}(h:yW ⟨k,f,t,u,x,0,0⟩ 0=0):GP (.mk k f t u x []) 1 1:=by
 refine⟨NS h,fun L c h1 h2=>?_⟩;have⟨o1,o2,b⟩:=G9 h;have a:zB ⟨k,f,t,u,x,0,0⟩=[]:=by simp[zB,<-o2]
 rw[grow,zZ];rcases DR (n:=⟨k,f,t,u,x,0,0⟩) c o1 (fun _=>rfl) (fun _=>rfl) b (by rw[a];simp) (sz:=1) (d:=1) (by rw[a];rfl) (by rw[a];rfl) Om with⟨r,M,e,i,_,w,s,g,l⟩|⟨e,l⟩;grind;exact .inr ⟨e,Om⟩
def GM{k f t u x A sa da}(h:yW ⟨k,f,t,u,x,0,0⟩ 1=0)(a:GP A sa da):GP (.mk k f t u x [A]) (1+sa) (da+1):=by
 refine⟨Ly h a.toLP,fun L o h1 h2=>?_⟩;have⟨o1,o2,g⟩:=G9 h;have s1:=a.s1;have d1:=a.d1;rw[grow];rcases a.Co L o Om Om with⟨r,M,e,i,w,s,m,l⟩|⟨e,l⟩;rw[zZ,e,if_neg Sm,if_pos rfl,zZ];have c:zB ⟨k,f,t,u,x,r,0⟩=[r]:=by simp[zB,<-o2]
 rcases DR (n:=⟨k,f,t,u,x,r,0⟩) w o1 Gd (fun _=>rfl) g Gd (sz:=1+sa) (d:=da+1) (by rw[c];simp[s]) (by rw[c];simp[m];omega) Om with⟨v,q,b,p,_,w',s',j,l'⟩|⟨b,l'⟩;grind;exact .inr ⟨b,Om⟩;rw[zZ,if_pos (by rw[e];decide)];exact .inr ⟨e,Om⟩
def GP2{k f t u x A B sa da sb db}(h:yW ⟨k,f,t,u,x,0,0⟩ 2=0)(c:GP A sa da)(hB:GP B sb db):GP (.mk k f t u x [A,B]) (1+(sa+sb)) (max da db+1):=by
 refine⟨OP h c.toLP hB.toLP,fun L z h1 h2=>?_⟩;have⟨o1,o2,o⟩:=G9 h;have s1:=c.s1;have d1:=c.d1;have C:=hB.s1;have d2:=hB.d1;rw[grow];rcases c.Co L z Om Om with⟨r,M,e,i,w,s,q,l⟩|⟨e,l⟩;rw[zZ,e,if_neg Sm,if_pos rfl];simp only;rcases hB.Co (L++M) w Om Om with⟨r2,G,b,i2,v,j,g,y⟩|⟨b,y⟩;rw[zZ,b,if_neg Sm,if_neg Om,zZ];have a:zB ⟨k,f,t,u,x,r,r2⟩=[r,r2]:=by simp[zB,<-o2]
 rcases DR (n:=⟨k,f,t,u,x,r,r2⟩) v o1 Gd (fun hh=>by simp only at hh;omega) o (by rw[a];intro k a;simp at a;rcases a with rfl|rfl;exact uD i;exact i2) (sz:=1+(sa+sb)) (d:=max da db+1) (by rw[a];simp[-append_assoc,HE i,s,j]) (by rw[a];simp[-append_assoc,IH i,q,g];omega) Om with⟨F,E,m,D,_,w',s',p,l'⟩|⟨m,l'⟩;grind;exact .inr ⟨m,Om⟩;rw[zZ,if_pos (by rw[b];decide)];exact .inr ⟨b,Om⟩;rw[zZ,if_pos (by rw[e];decide)];exact .inr ⟨e,Om⟩
def GP.of{T sz d}(h:GP T sz d)(hs:sz<=4096)(b:d<=64){L}(a:Wf L):(Proofs.of L T).2.1=0\/(Proofs.of L T=(0,6,L)/\65536<L.length+sz):=by
 unfold Proofs.of;rw[h.vk 0 0 Om Om Om Om,if_neg Sm];rcases h.Co L a hs b with⟨r,M,e,_⟩|⟨e,l⟩;rw[e];simp;grind
def vq{x}(h:x.size<=64):GP (qB x) 1 1:=LL (by
 have b:zO ⟨3,0,0,0,x,0,0⟩=0:=Kf;have a:zQ (bq 3) ⟨3,0,0,0,x,0,0⟩=0:=by show(if false=true then(50:Int)else if x.size>64 then 1 else 0)=0;rw[if_neg Sm,if_neg Om]
 unfold yW;simp only[b];simpa[bq]using a)
def EG(c):GP (jl c) 1 1:=LL Kf
def vd{a b sa da sb db}(d:GP a sa da)(c:GP b sb db):GP (qR a b) (1+(sa+sb)) (max da db+1):=GP2 Kf d c
def yt{n}(b:n=0\/n=1\/n=2){a sa da}(c:GP a sa da):GP (yD n a) (1+sa) (da+1):=GM (by rcases b with rfl|rfl|rfl<;>kernel_rfl) c
def G3{n}(b:n=0\/n=1){a g sa da}(c:GP a sa da):GP (uA n a g) (1+sa) (da+1):=by
 unfold uA;cases g;exact GM (by rcases b with rfl|rfl<;>kernel_rfl) c;exact GM (by rcases b with rfl|rfl<;>kernel_rfl) c
def FI(c){x}(h:x.size<=64):GP (vO c x) 5 3:=vd (vq De)<|vd (EG c)<|vq h
def Lt{l}(f:l.az=0\/l.az=1)(g:l.bb.size<=64)(a b):∃sz d,GP (zT l a b) sz d/\sz<=40/\d<=20:=by
 unfold zT;have e:=FI l.c g;split;· exact⟨_,_,G3 f e,Om,Om⟩
 split;· exact⟨_,_,yt (f.imp id .inl) e,Om,Om⟩
 split;· exact⟨_,_,yt (.inl rfl)<|vd (vq De)<|EG _,Om,Om⟩
 split;· exact⟨_,_,yt (f.imp id .inl)<|vd (vq De)<|vd (G3 (.inl rfl) e)<|G3 (.inr rfl) e,Om,Om⟩
 split;· exact⟨_,_,yt (.inr<|.inr rfl)<|vd (vq De)<|EG _,Om,Om⟩
 split;· exact⟨_,_,yt (.inr<|.inr rfl)<|vd (vq De) e,Om,Om⟩
 exact⟨_,_,vd (vq De)<|EG _,Om,Om⟩
section
variable {L M:aw} {G:List Int} {ls:List dy} {K:Int->Prop}
def K9{T sz d}(h:GP T sz d)(hs:sz<=4096)(b:d<=64)(a:Wf L):((of L T).2.2.length:Int)<=L.length+sz:=by
 have:=h.s1;unfold of;rw[h.vk 0 0 Om Om Om Om,if_neg Sm];rcases h.Co L a hs b with⟨r,M,e,_,_,_,_,l⟩|⟨e,l⟩;rw[e];simpa using l;grind
def Vl(e:Wf L)(l):(zG L l).2.2.length<=L.length+40:=by
 unfold zG;split;simp;rename_i h;have h:vR l=0:=Classical.byContradiction h;have⟨k,f,c,x,g⟩:=l;have⟨_,i,_,_,_,a⟩:=CH h;have⟨sz,d,b,hs,j⟩:=Lt (l:=⟨k,f,c,x,g⟩) i a true true;have:=K9 b Om Om e;omega
def Nb(c:Wf L)(f:L.length<65536){n}(b:n=0\/n=1\/n=2):(ay L<|zX n).2.1=0/\(ay L<|zX n).2.2.length<=L.length+1:=by
 have a:zB (zX n)=[]:=rfl;rcases DR (n:=zX n) c (by rcases b with rfl|rfl|rfl<;>kernel_rfl) (fun _=>rfl) (fun _=>rfl) (by rcases b with rfl|rfl|rfl<;>kernel_rfl) (by rw[a];simp) (sz:=1) (d:=1) (by rw[a];rfl) (by rw[a];rfl) Om with⟨r,M,e,_,_,_,_,_,l⟩|⟨_,l⟩;rw[e];exact⟨rfl,l⟩;omega
def zEH(a:Wf L){k n}(b:al L k=true)(e:ad L k=zX n):zA L k=sr n:=by
 rw[zW a b,e];rfl
end
def f23:dy:=⟨2,1,7,⟨#[116]⟩,false⟩
def zAR:(qF [] [] (qS f23).1).2.2=true/\(qF [] [] (qS f23).1).1.length<=100:=by
 refine⟨Kf,of_decide_eq_true Kf⟩
def UX(L G):qF L G [120]=(L,G,false):=by
 have a:(vB [120]).1=none:=Kf;have:(vB [120]).2.1≠0:=xO a;unfold qF yP;rw[a];simp only;rw[if_pos this]
def ki(L M:aw):Prop:=∀s,al L s=true->∃t,al M t=true/\zA L s=zA M t
section
variable {L M Y:aw}
def ki.nil:ki [] M:=fun s h=>by have:=zI.1 h;simp at this;omega
def ki.jf(h:ki L M)(a:Wf (M++Y)):ki L (M++Y):=fun s hs=>by
 have⟨t,ht,e⟩:=h s hs;exact⟨t,uD ht,by rw[e,zj a ht]⟩
def ki.ft(g:Wf L)(h:ki L M){l:List Int}(p:l.Nodup)(hi:∀z∈l,al M z=true)(k:∀z∈l,∀s,al L s=true->zA L s≠zA M z):L.length+l.length<=M.length:=by
 have:∃φ:Int->Int,∀s,al L s=true->al M (φ s)=true/\zA L s=zA M (φ s):=by
  classical
  exact⟨fun s=>if hs:al L s=true then(h s hs).choose else 0,fun s hs=>by simp only[dif_pos hs];exact(h s hs).choose_spec⟩
 have⟨φ,d⟩:=this;have c:∀i∈range L.length,al L ((i:Int)+1)=true:=fun i hi=>zI.2 ⟨Om,Oh<|mem_range.1 hi⟩;have:=xW (L:=M) (l:=l++(range L.length).map fun i:Nat=>φ<|(i:Int)+1) (by
  rw[nodup_append];refine⟨p,?_,fun a o b m e=>?_⟩;refine pairwise_map.2<|List.Pairwise.imp_of_mem ?_ nodup_range;intro i j hi f n e;have a:=d _<|c i hi;have b:=d _<|c j f;have:=yL g _ _ _ rfl (c i hi) (c j f) (by rw[a.2,b.2,e]);omega;obtain⟨i,hi,rfl⟩:=mem_map.1 m;have a2:=d _<|c i hi;exact k a o _ (c i hi)<|by rw[a2.2,e]) Gd
 simp at this;omega
def ki.len(a:Wf L)(h:ki L M):L.length<=M.length:=by
 have:=h.ft a (l:=[]) nodup_nil Sm Sm;simpa using this
def Dk(L n){v}(c:al (ay L n).2.2 v=true):al L v=true\/((ay L n).2.1=0/\v=(ay L n).1):=by
 unfold ay at c|-;simp only at c|-;split at c;exact .inl c;rename_i h;rw[if_neg h];split at c;exact .inl c;rename_i h2;split at c;exact .inl c;rename_i h3;rw[if_neg h3];have⟨a,b⟩:=zI.1 c;simp at b;by_cases e:v=(L.length:Int)+1;exact .inr ⟨rfl,e⟩;exact .inl<|zI.2 ⟨a,Om⟩
def RY(L G A o){v}:al (yN L G A o).2.2 v=true->al L v=true\/((yN L G A o).2.1=0/\v=(yN L G A o).1):=
 EZ (fun r=>al r.2.2 v=true->al L v=true\/(r.2.1=0/\v=r.1)) (fun _ _ h=>.inl h) (fun n h=>Dk L n h) G A o
def ki.nq{r1 r2}(h:ki L M)(b:Wf r1.2.2)(a:Wf r2.2.2)(a1:∃X,r1.2.2=L++X)(a2:∃Y,r2.2.2=M++Y)(hr:RS r1 r2)(hi:∀v,al r1.2.2 v=true->al L v=true\/(r1.2.1=0/\v=r1.1)):ki r1.2.2 r2.2.2:=fun v g=>by
 have⟨X,c⟩:=a1;have⟨Y,d⟩:=a2;rcases hi v g with h1|⟨f,rfl⟩;rw[d]at a|-;rw[c]at b|-;have⟨t,ht,e⟩:=h.jf a v h1;exact⟨t,ht,by rw[zj b h1,e]⟩;have:=hr.2 f;exact⟨_,this.m,this.e⟩
end
def Nw:∀(l:List Op) {L M:aw} {G K A B:List Int},Wf L->Wf M->LR L M G K->LR L M A B->ki L M->L.length+l.length<=65536->M.length+l.length<=65536->ki (vE L G A l).2.2 (vE M K B l).2.2
 |[],_,_,_,_,_,_,_,_,_,_,hs,_,_=>hs
 |o :: l,L,M,G,K,A,B,g,h,i,m,hs,n,q=>by
  rw[length_cons]at n q;have hr:=MT g h i m o Om Om;have⟨e,r⟩:=hr;have s:=Ca L G A o;have t:=Ca M K B o;have b:=vm g G A o;have a:=vm h K B o;have c:=hs.nq b a (wH L G A o) (wH M K B o) ⟨e,r⟩ fun v=>RY L G A o;have⟨X,j⟩:=wH L G A o;have⟨Y,k⟩:=wH M K B o;have d:LR (yN L G A o).2.2 (yN M K B o).2.2 G K:=by rw[j]at b|-;rw[k]at a|-;exact i.jf b a
  have f:LR (yN L G A o).2.2 (yN M K B o).2.2 A B:=by rw[j]at b|-;rw[k]at a|-;exact m.jf b a
  unfold vE;rw[<-e];split;exact c;rename_i p;exact Nw l b a d (f.sd<|r<|Classical.byContradiction p) c Om Om
def jXQ{Lq:aw}(g:Wf Lq):∀(l seen:List Int) (L:aw) (ak:Int->Int),Cp Lq L ak seen->(∀z∈l,al Lq z=true)->wt Lq seen l->ki L Lq ->
  (zU Lq l L ak).2.1=0/\ki (zU Lq l L ak).1 Lq:=by
 intro l
 induction l with
 |nil=>intro seen L ak h _ _ hs;exact⟨rfl,hs⟩
 |cons z l u =>
  intro seen L ak h s k hs
  have f:=s z Sm
  have i:=h.AZ g f k.1
  generalize m:({ ad Lq z with a:=ak (ad Lq z).a,b:=ak (ad Lq z).b }:di)=n at i
  have j:=i.cq g h.wf f
  have au:=fun o=>h.step g f k.1 i o
  have d:=fun o=>i.nq g h.wf f o
  have c:=fun v=>Dk L n (v:=v)
  obtain⟨x,e,q,hm⟩:∃x e q,ay L n=(x,e,q):=⟨_,_,_,rfl⟩
  rw[qG Lq z l L ak m hm]
  rw[hm]at j au d c
  simp only at j au d c
  rcases j with rfl|⟨_,A,p⟩
  rw[if_neg Sm]
  have⟨_,B,y,r⟩:=d rfl
  refine u _ _ _ (au rfl) Gd k.2 fun v w=>?_
  rcases c v w with h1|⟨_,rfl⟩
  have⟨t,ht,e⟩:=hs v h1
  exact⟨t,ht,by rw[(r v h1).2,e]⟩
  exact⟨z,f,y⟩
  have:=hs.ft h.wf (l:=[z]) Sm (by simpa using f) (by simpa using p)
  have:=g.ok.ft
  simp at *
  omega
def Ze{L Lq}(e:Wf L)(c:Wf Lq)(hs:ki L Lq){t}(ht:al Lq t=true):(vH L Lq t).2.1=0/\ki (vH L Lq t).2.2 Lq:=by
 have⟨a,b⟩:=jXQ c (dd Lq t) [] L (fun _=>0) (Cp.start e) (fun z d=>xE c d) (xG c t) hs;unfold vH;rw[if_pos ht];simp only;rw[if_neg (by rw[a];simp)];exact⟨rfl,b⟩
def KK{Lq}(i:Wf Lq):∀(l seen:List Int) (L:aw) (ak:Int->Int),Cp Lq L ak seen->(∀z∈l,al Lq z=true)->wt Lq seen l->L.length+l.length<=65536 ->
  ∀v,al (zU Lq l L ak).1 v=true->(al L v=true/\zA (zU Lq l L ak).1 v=zA L v)\/∃z∈l,zA (zU Lq l L ak).1 v=zA Lq z:=by
 intro l
 induction l with
 |nil=>intro seen L ak h _ _ _ v p;exact .inl ⟨p,rfl⟩
 |cons z l u =>
  intro seen L ak h s m t
  have g:=s z Sm
  have j:=h.AZ i g m.1
  generalize o:({ ad Lq z with a:=ak (ad Lq z).a,b:=ak (ad Lq z).b }:di)=n at j
  have k:=j.cq i h.wf g
  have au:=fun q=>h.step i g m.1 j q
  have c:=fun q=>j.nq i h.wf g q
  have f:=fun v=>Dk L n (v:=v)
  have d:=BG L n
  obtain⟨x,e,r,hm⟩:∃x e r,ay L n=(x,e,r):=⟨_,_,_,rfl⟩
  rw[qG Lq z l L ak o hm]
  rw[hm]at k au c f d
  simp only at k au c f d
  rw[length_cons]at t
  rcases k with rfl|⟨_,A,w⟩
  rw[if_neg Sm]
  have⟨_,E,C,B⟩:=c rfl
  intro v p
  rcases u _ _ _ (au rfl) Gd m.2 Om v p with⟨h1,h2⟩|⟨y,D,h2⟩
  grind
  grind
  omega
def S9{L M q}(h:Wf L)(f:Wf M)(c:Wf q)(hs:ki L M){t}(ht:al q t=true)(n:L.length+q.length<=65536)(r:M.length+q.length<=65536):ki (vH L q t).2.2 (vH M q t).2.2:=by
 have a:=(zh h c ht n).1;have b:=(zh f c ht r).1;have s:=uW c t;have⟨i,_⟩:=xX f c ht b;have⟨Y,m⟩:=Dq M q t;have hi:=KK c (dd q t) [] L (fun _=>0) (Cp.start h) (fun z d=>xE c d) (xG c t) Om;have g:=Dv c (dd q t) [] M (fun _=>0) (Cp.start f) (fun z d=>xE c d)<|xG c t;have o:(vH L q t).2.2=(zU q (dd q t) L fun _=>0).1:=by
  unfold vH at a|-;rw[if_pos ht]at a|-;simp only at a|-;split;grind;rfl
 have k:(vH M q t).2.2=(zU q (dd q t) M fun _=>0).1/\(zU q (dd q t) M fun _=>0).2.1=0:=by
  unfold vH at b|-;rw[if_pos ht]at b|-;simp only at b|-;split;grind;grind
 rcases g with⟨_,g⟩|⟨l,_⟩;intro v j;rw[o]at j|-;rcases hi v j with⟨h1,h2⟩|⟨z,d,h2⟩;rw[m]at i|-;have⟨u,p,e⟩:=hs.jf i v h1;exact⟨u,p,h2.trans e⟩;have:=g.at_ z (by simpa using d);rw[k.1];exact⟨_,this.1,h2.trans this.2.symm⟩;rw[k.2]at l;cases l
structure mu(L M:aw)(G K:List Int):Prop where
 wl:Wf L
 wm:Wf M
 nl:uE L
 nm:uE M
 g:LR L M G K
 s:ki L M
def mu.nil:mu [] [] [] []:=⟨Wf.nil,Wf.nil,uE.nil,uE.nil,LR.nil,ki.nil⟩
section
variable {L M:aw} {G K:List Int} (h:mu L M G K)
include h
def mu.len:L.length<=M.length:=h.s.len h.wl
def mu.y5(bs)(c:2*M.length+bs.length<=131072):
  (qF L G bs).2.2=(qF M K bs).2.2/\mu (qF L G bs).1 (qF M K bs).1 (qF L G bs).2.1 (qF M K bs).2.1/\2*(qF M K bs).1.length<=2*M.length+bs.length:=by
 have t:=h.len
 have⟨e,r⟩:=zEX h.wl h.wm bs Om c
 have d:=zEY h.wm bs c
 have a:=DU h.wl bs;have b:=DU h.wm bs
 have n1:=HO h.nl bs;have n2:=HO h.nm bs
 have hs:ki (yP L bs).2.2.2 (yP M bs).2.2.2:=by
  unfold yP;split;exact h.s;rename_i q i;have h2:=CP i;have⟨p,_,o,_,_⟩:=xB i;exact S9 h.wl h.wm p h.s o Om Om
 have⟨X,j⟩:=D9 L bs
 have⟨Y,n⟩:=D9 M bs
 have f:LR (yP L bs).2.2.2 (yP M bs).2.2.2 G K:=by rw[j]at a|-;rw[n]at b|-;exact h.g.jf a b
 unfold qF
 rw[<-e]
 split
 exact⟨rfl,⟨a,b,n1,n2,f,hs⟩,d⟩
 rename_i k
 have r:=r<|Classical.byContradiction k
 rw[wS r.l,wS r.m]
 exact⟨rfl,⟨a,b,n1,n2,f.jj a b r,hs⟩,d⟩
def mu.Fb(a b ao)(p:M.length<65536):
  (zS L G a b ao).1=(zS M K a b ao).1/\mu (zS L G a b ao).2.1 (zS M K a b ao).2.1 (zS L G a b ao).2.2.1 (zS M K a b ao).2.2.1/\(zS L G a b ao).2.2.2=(zS M K a b ao).2.2.2/\(zS M K a b ao).2.1.length<=M.length+1:=by
 have q:=h.len
 have o:NR L M (zX ao) (zX ao):=⟨rfl,rfl,rfl,rfl,rfl,.inl ⟨rfl,rfl⟩,.inl ⟨rfl,rfl⟩⟩
 have⟨e,r⟩:=o.ay h.wl h.wm Om p
 have c:=uT h.wl<|zX ao;have d:=uT h.wm<|zX ao
 have n1:uE (ay L<|zX ao).2.2:=h.nl.ay lq
 have n2:uE (ay M<|zX ao).2.2:=h.nm.ay lq
 have hs:=h.s.nq c d (yU L _) (yU M _) ⟨e,r⟩ fun v=>Dk L _
 have f:=BG M<|zX ao
 have⟨X,j⟩:=yU L<|zX ao
 have⟨Y,k⟩:=yU M<|zX ao
 have i:LR (ay L<|zX ao).2.2 (ay M<|zX ao).2.2 G K:=by rw[j]at c|-;rw[k]at d|-;exact h.g.jf c d
 unfold zS
 split
 grind
 rw[<-e]
 split
 exact⟨rfl,⟨c,d,n1,n2,i,hs⟩,rfl,f⟩
 rename_i n
 have r:=r<|Classical.byContradiction n
 rw[wS r.l,wS r.m]
 exact⟨rfl,⟨c,d,n1,n2,i.jj c d r,hs⟩,rfl,f⟩
end
end Go.Proofs
end
section
namespace Go.Proofs
def On{L t}(h:(ad L t).kind≠0):al L t=true:=by
 cases hi:al L t with
 |true=>rfl
 |false=>rw[OW hi]at h;exact absurd rfl h
def zDX{L}(d:Wf L){t}(c:(ad L t).kind=6):ad L t=zX (ad L t).az:=by
 have ht:=On (L:=L) (t:=t) Om;have⟨h1,h2,h3,_⟩:=d.node ht;generalize ad L t=n at *;have⟨k,f,to,u,x,a,b⟩:=n;simp only at c;subst c;unfold zO at h1;simp[bq,ou]at h1;simp[bq]at h2 h3;unfold zX;simp only[di.mk.injEq,true_and];exact⟨h1.1.1,h1.1.2,h1.2,h2,h3⟩
def Sk{L}(a:Wf L){t}(b:(ad L t).kind=6):∃i:Nat,find L (zX (ad L t).az)=some i/\t=(i:Int)+1:=by
 have ht:=On (L:=L) (t:=t) Om;obtain⟨i,hi,rfl⟩:=rV ht;refine⟨i,?_,rfl⟩;rw[<-zDX a b,qN hi];exact Go.Proofs.Fh a.ok<|List.getElem?_eq_getElem hi
section
variable {L:aw} {G M:List Int} {S:List gy}
end
def VF(L G l):∃X,(zV L G l).2.2.2=L++X:=by
 unfold zV;split;exact⟨[],Sm⟩;split;exact⟨[],Sm⟩;split<;>exact LU G l L []
end Go.Proofs
end
section
open Go Go.SE List
namespace Go.Proofs
def qu(a:List bt)(y:bt):Prop:=∃g∈a,In g y
inductive pJ(c:List bt):bt->Prop
 |seen {y:bt}:qu c y->pJ c y
 |free {k f t u:Int} {x:ByteArray} {d:List bt}:tw k=true->pJ c (.mk k f t u x d)
 |pR {f t u:Int} {x:ByteArray} {a b:bt}:pJ c a->pJ c b->pJ c (.mk 4 f t u x [a,b])
 |ta {f t u:Int} {x:ByteArray} {a:bt}:pJ c a->pJ c (.mk 5 f t u x [a])
 |sU {k f t u:Int} {x:ByteArray} {a:bt}:qY k=true->pJ c a->qu c (sr<|if k=9 then t else f)->pJ c (.mk k f t u x [a])
def Bh{n}(h:n.kind=4):zB n=[n.a,n.b]:=by simp[zB,h,bq]
def N0{n}(h:n.kind=5):zB n=[n.a]:=by simp[zB,h,bq]
def CN{n}(h:qY n.kind=true):zB n=[n.a]:=by
 simp only[qY,Bool.or_eq_true,beq_iff_eq]at h;rcases h with(h|h)|h<;>simp[zB,h,bq]
section
variable {L:aw} {G:List Int} (hW:Wf L) (hG:∀g∈G,al L g=true)
include hW hG
def Lu{g}(i:g∈G){y}(h:In (zA L g) y):∃t,al L t=true/\zA L t=y/\ky L G t:=by
 induction h with
 |refl=>exact⟨g,hG g i,rfl,.pX i⟩
 |fst _ d =>
  have⟨u,c,e,hs⟩:=d
  rw[zW hW c]at e
  injection e with b _ _ _ _ a
  rw[Bh b]at a
  simp at a
  exact⟨_,(ug hW c b).1.1,a.1,.yz hs<|.inl ⟨rfl,b,rfl⟩⟩
 |snd _ d =>
  have⟨u,c,e,hs⟩:=d
  rw[zW hW c]at e
  injection e with b _ _ _ _ a
  rw[Bh b]at a
  simp at a
  exact⟨_,(ug hW c b).2.1,a.2,.yz hs<|.inr<|.inl ⟨rfl,b,rfl⟩⟩
 |zn f _ d =>
  have⟨u,c,e,hs⟩:=d
  rw[zW hW c]at e
  injection e with b _ _ _ _ a
  rw[<-b]at f
  rw[CN f]at a
  simp at a
  exact⟨_,(xv hW c f).1,a,.yz hs<|.inr<|.inr ⟨rfl,f,rfl⟩⟩
def xk{t}(ht:al L t=true):ky L G t↔qu (G.map<|zA L) (zA L t):=by
 constructor;intro h;have⟨_,g,a,hi⟩:=YX hW hG h;exact⟨_,mem_map.2 ⟨g,a,rfl⟩,hi⟩;rintro⟨_,hm,hi⟩;obtain⟨g,a,rfl⟩:=mem_map.1 hm;have⟨v,b,e,hs⟩:=Lu hW hG a hi;rw[yL hW _ v t rfl b ht e]at hs;exact hs
def CG{y}(h:qu (G.map<|zA L) y):∃t,al L t=true/\zA L t=y/\ky L G t:=by
 have⟨_,hm,hi⟩:=h;obtain⟨g,a,rfl⟩:=mem_map.1 hm;exact Lu hW hG a hi
omit hG in
def Lw{v n}(a:al L v=true)(e:zA L v=sr n):∃i:Nat,find L (zX n)=some i/\v=(i:Int)+1:=by
 rw[zW hW a]at e;injection e with c b;have⟨i,h1,h2⟩:=Sk hW c;rw[b]at h1;exact⟨i,h1,h2⟩
omit hG in
def PP{i n}(h:find L (zX n)=some i):al L ((i:Int)+1)=true/\zA L ((i:Int)+1)=sr n:=by
 have⟨h1,h2⟩:=Pt h;have hi:al L ((i:Int)+1)=true:=zI.2 ⟨Om,Om⟩;exact⟨hi,by rw[zW hW hi,h2];rfl⟩
def zES{t}(ht:al L t=true):ei L (ky L G) t↔pJ (G.map<|zA L) (zA L t):=by
 constructor;intro h;induction h with
 |seen h=>exact .seen<|(xk hW hG ht).1 h
 |free h=>rw[zW hW ht];exact .free h
 |pR h _ _ f j =>
  have⟨a,b⟩:=ug hW ht h
  rw[zW hW ht,Bh h,h];exact .pR (f a.1)<|j b.1
 |ta h _ f =>
  have a:=Nx hW ht h
  rw[zW hW ht,N0 h,h];exact .ta<|f a.1
 |sU h _ q g f =>
  have a:=xv hW ht h
  rw[zW hW ht,CN h]
  have⟨o,l⟩:=PP hW q
  rw[xk hW hG o,l]at g
  exact .sU h (f a.1) g
 intro h;have key:∀y,pJ (G.map<|zA L) y->∀t,al L t=true->zA L t=y->ei L (ky L G) t:=by
  intro y h;induction h with
  |seen h=>rintro t ht rfl;exact .seen<|(xk hW hG ht).2 h
  |free h=>intro t ht e;rw[zW hW ht]at e;injection e with c;exact .free (by rw[c];exact h)
  |pR _ _ f j =>
   intro t ht e
   rw[zW hW ht]at e;injection e with c _ _ _ _ d
   rw[Bh c]at d;simp at d
   have⟨a,b⟩:=ug hW ht c
   exact .pR c (f _ a.1 d.1)<|j _ b.1 d.2
  |ta _ f =>
   intro t ht e
   rw[zW hW ht]at e;injection e with c _ _ _ _ d
   rw[N0 c]at d;simp at d
   exact .ta c<|f _ (Nx hW ht c).1 d
  |sU g _ hs f =>
   intro t ht e
   rw[zW hW ht]at e;injection e with c n r _ _ d
   rw[<-c]at g
   rw[CN g]at d;simp at d
   have⟨v,p,k,sv⟩:=CG hW hG hs
   obtain⟨i,m,rfl⟩:=Lw hW p k
   refine .sU g (f _ (xv hW ht g).1 d) (i:=i) ?_ sv
   unfold oG
   rw[c,n,r];exact m
 exact key _ h t ht rfl
def OL(n):zd L G n=true↔qu (G.map<|zA L) (sr n):=by
 unfold Proofs.zd;constructor;intro h;split at h;rename_i i hi;have⟨d,b⟩:=PP hW hi
 classical
 have:=of_decide_eq_true h;rw[xk hW hG d,b]at this;exact this;cases h;intro h;have⟨v,e,a,sv⟩:=CG hW hG h;obtain⟨i,c,rfl⟩:=Lw hW e a;rw[c]
 classical
 exact decide_eq_true sv
end
def zP(a:List bt)(l:dy):Prop:=vR l=0/\pJ a (zT l true true)
def JR{l}(h:vR l=0):(l.az=0\/l.az=1)/\l.bb.size<=64:=by
 have⟨k,f,c,x,g⟩:=l;have⟨_,a,_,_,_,b⟩:=CH h;exact⟨a,b⟩
def GV{L}(hW:Wf L){l}(f:L.length<=65000):(zG L l).2.1=vR l:=by
 unfold zG;split;rfl;rename_i h;have a:vR l=0:=Classical.byContradiction h;have⟨h1,h2⟩:=JR a;have⟨sz,d,g,c,b⟩:=Lt h1 h2 true true;rw[a];rcases g.of Om Om hW with e|⟨_,e⟩;exact e;grind
def It{L M}{G:List Int}(hW:Wf (L++M))(hG:∀g∈G,al L g=true):G.map (zA<|L++M)=G.map (zA L):=map_congr_left fun g a=>zj hW<|hG g a
section
variable {L:aw} {G:List Int} (hW:Wf L) (hG:∀g∈G,al L g=true)
include hW hG
def P6{l:dy}(b:L.length<=65000):((zG L l).2.1=0/\ei (zG L l).2.2 (ky (zG L l).2.2 G) (zG L l).1)↔zP (G.map<|zA L) l:=by
 rw[GV hW b];unfold zP;refine and_congr_right fun d=>?_;obtain⟨M,c⟩:=tY hW.ok l;have a:=xK hW l;obtain⟨_,b2,b3⟩:=BF (by rw[GV hW b];exact d) hW;rw[c]at a b2 b3|-;rw[zES a (fun g e=>uD<|hG g e) b2,b3,It a hG]
end
def Ht(G):∀(ls:List dy) (L:aw),pV (fun _ _=>False) G ls L (tz G ls L).1 (tz G ls L).2
 |[],_=>.nil
 |l :: ls,L=>by
  rw[tz];split;rename_i h;exact .ie h.1 h.2;rename_i h;exact .Cv (.inl h)<|Ht G ls _
structure Z5(b:aw->Int->Prop)(G:List Int)(ls:List dy)(L:aw)(r:Int)(a:aw):Prop where
 wf:Wf a
 jf:∃X,a=L++X
 ft:a.length<=L.length+8*ls.length
 rG:uE L->(∀l∈ls,yY l.c)->uE a
 no:r=0->∀l∈ls,zP (G.map<|zA L) l->∃d t,b d t/\d.length<=L.length+8*ls.length
 vk:r≠0->∃l∈ls,zP (G.map<|zA L) l/\al a r=true/\zA a r=zT l true true/\ei a (ky a G) r
def HN(l:dy):Prop:=vR l=0->∃sz d,GP (zT l true true) sz d/\sz<=8/\d<=20
def JG{L}(hW:Wf L){l}(a:HN l):(zG L l).2.2.length<=L.length+8:=by
 unfold zG;split;simp;rename_i h;have⟨sz,d,g,h1,h2⟩:=a<|Classical.byContradiction h;have:=K9 g Om Om hW;omega
def pV.Bd{a:aw->Int->Prop}{G ls L e r}(h:pV a G ls L r e):Wf L->(∀g∈G,al L g=true)->(∀l∈ls,HN l)->L.length+8*ls.length<=65000->Z5 a G ls L r e:=by
 induction h with
 | nil=>intro hW _ _ _;exact⟨hW,⟨[],Sm⟩,Sm,fun h _=>h,fun _=>Sm,fun h=>absurd rfl h⟩
 | @ie l ls L h1 h2 =>
  intro hW hG c i
  rw[length_cons] at i
  have⟨b1,b2,b3⟩:=BF h1 hW
  have p:=JG hW<|c l Sm
  refine⟨xK hW l,tY hW.ok l,by rw[length_cons];omega,fun h d=>AP h<|d l Sm,fun h=>?_,fun _=>⟨l,Sm,(P6 hW hG Om).1 ⟨h1,h2⟩,b2,b3,h2⟩⟩
  have:=(zI.1 b2).1;omega
 | @Cv l ls L e r h1 _ k =>
  intro hW hG c i
  rw[length_cons] at i
  have⟨M,b⟩:=tY hW.ok l
  have f:=xK hW l
  have p:=JG hW<|c l Sm
  have hm:G.map (zA (zG L l).2.2)=G.map (zA L):=by rw[b] at f |-;exact It f hG
  have⟨i1,⟨X,i2⟩,t,j,q,s⟩:=k f (by rw[b];exact fun g o=>uD<|hG g o) Gd Om
  rw[hm] at q s
  refine⟨i1,⟨M++X,by rw[i2,b,append_assoc]⟩,by rw[length_cons];omega,fun h d=>j (AP h<|d l Sm) Gd,fun h m hm hs=>?_,fun h=>?_⟩
  rcases mem_cons.1 hm with rfl | hm
  have n:=(P6 hW hG (l:=m) Om).2 hs
  exact⟨_,_,h1.resolve_left fun h=>h n,by rw[length_cons];omega⟩
  grind
  grind
def L9{ao c x}:∀l∈jb ao c x,HN l:=by
 intro l a b;have⟨h1,h2⟩:=JR b;simp[jb]at a;rcases a with rfl|rfl;exact⟨_,_,yt (h1.imp id .inl)<|FI c h2,Om,Om⟩;exact⟨_,_,yt (.inr<|.inr rfl)<|vd (vq De)<|FI c h2,Om,Om⟩
def DM(a:List bt)(ao c:Int)(x:ByteArray):Prop:=qM ao=true/\∃l∈jb ao c x,zP a l
def A0{L G}(hW:Wf L)(hG:∀g∈G,al L g=true)(a:L.length<=64900)(ao c x):(pY L G ao c x).1≠0↔DM (G.map<|zA L) ao c x:=by
 unfold pY DM;split;rename_i h;have R:=(Ht G (jb ao c x) L).Bd hW hG L9 (by simp[jb];omega);refine⟨fun b=>?_,fun⟨_,l,a,hs⟩ b=>?_⟩;have⟨l,a,hs,_⟩:=R.vk b;exact⟨h,l,a,hs⟩;have⟨_,_,d,_⟩:=R.no b l a hs;exact d;rename_i h;simp[h]
def zz(a:List bt)(ao:Int):Prop:=qM ao=true/\(qu a (sr ao)\/qu a (sr 2))
def HL{L G}(hW:Wf L)(hG:∀g∈G,al L g=true)(ao):wC L G ao=true↔zz (G.map<|zA L) ao:=by
 unfold wC zz;rw[Bool.and_eq_true,Bool.or_eq_true,OL hW hG,OL hW hG]
def LZ(gs c x):pJ gs (vO c x):=.pR (.free rfl)<|.pR (.free rfl)<|.free rfl
def TC{gs n D}:pJ gs (yD n D)↔qu gs (yD n D)\/(pJ gs D/\qu gs (sr n)):=by
 constructor;intro h;generalize e:yD n D=y at h;cases h with
 |seen h=>exact .inl h
 |free h=>unfold yD at e;injection e with e;rw[<-e]at h;cases h
 |pR _ _=>simp[yD]at e
 |ta _=>simp[yD]at e
 |sU a h1 h2 =>
  simp only[yD,bt.mk.injEq,List.cons.injEq,and_true]at e
  obtain⟨rfl,rfl,rfl,rfl,rfl,rfl⟩:=e
  exact .inr ⟨h1,h2⟩
 rintro(h|⟨h1,h2⟩);exact .seen h;exact .sU rfl h1 h2
def Fk{gs ao c x}(d:qM ao=true)(e:x.size<=64):DM gs ao c x↔zz gs ao\/∃l∈jb ao c x,vR l=0/\qu gs (zT l true true):=by
 have a:ao=0\/ao=1:=by unfold qM at d;simpa using d
 have f:vR ⟨2,ao,c,x,false⟩=0:=xI Om a (by simp[vM]) (by simp[qK,vM]) Sm e;have h:vR ⟨6,0,c,x,false⟩=0:=xI Om (.inl rfl) (by simp[vM]) (by simp[qK,vM]) Sm e;have g:zT ⟨2,ao,c,x,false⟩ true true=yD ao (vO c x):=rfl;have b:∃D,zT ⟨6,0,c,x,false⟩ true true=yD 2 D/\pJ gs D:=⟨_,rfl,.pR (.free rfl)<|LZ gs c x⟩;have⟨D,b,d2⟩:=b;have d1:=LZ gs c x;unfold DM zz zP;simp only[d,true_and,jb,mem_cons,not_mem_nil,or_false,exists_eq_or_imp,exists_eq_left,f,h,g,b,TC,d1,d2];constructor;grind;grind
structure Gs(L:aw)(G:List Int)(a:List bt):Prop where
 wf:Wf L
 iq:∀g∈G,al L g=true
 e:G.map (zA L)=a
def Gs.jf{L X:aw}{G gs}(h:Gs L G gs)(w:Wf (L++X)):Gs (L++X) G gs:=⟨w,fun g a=>uD<|h.iq g a,by rw[It w h.iq,h.e]⟩
def Gs.EK{L G gs}(h:Gs L G gs)(b:L.length<=64900)(ao c x):Gs (pY L G ao c x).2 G gs/\(pY L G ao c x).2.length<=L.length+16:=by
 unfold pY;split;obtain⟨w,⟨X,a⟩,f,_⟩:=(Ht G (jb ao c x) L).Bd h.wf h.iq L9 (by simp[jb];omega);rw[a]at w f|-;exact⟨h.jf w,by simpa[jb]using f⟩;exact⟨h,Sm⟩
def MH{y:bt}(h:qu [zT f23 true true] y):y=zT f23 true true\/Lo y:=by
 have⟨g,a,hi⟩:=h;simp at a;subst a;exact Xb _ _ _ hi
def Fy(n:Int):¬qu [zT f23 true true] (sr n):=fun h=>by
 rcases MH h with e|e;have:(sr n).kd=(zT f23 true true).kd:=by rw[e]
 simp[sr,bt.kd,zT,f23,yD]at this;exact(e _ .refl).2 rfl
def Z9:∃L G,qF [] [] (qS f23).1=(L,G,true)/\Gs L G [zT f23 true true]/\L.length<=100:=by
 have⟨h1,h2⟩:=zAR;obtain⟨M,b,d,n1,h|⟨_,e,t,f,ht,a⟩⟩:=Yp (G:=[]) Wf.nil uE.nil (l:=f23) ⟨De,De⟩;rw[h1]at h;cases h.1;rw[nil_append]at b d ht a;exact⟨M,jj [] t,Prod.ext b<|Prod.ext f h1,⟨d,fun g c=>by simp[jj]at c;rw[c];exact ht,by simp[jj,a]⟩,by rw[b]at h2;exact h2⟩
def gk(L:aw)(G:List Int)(l:List Op):List UInt8×Int×Int×aw:=
 if(zV L G l).2.1≠0 then([],(zV L G l).2.1,(zV L G l).2.2.1,(zV L G l).2.2.2)
 else((iz (zV L G l).2.2.2 (zV L G l).1).1,(iz (zV L G l).2.2.2 (zV L G l).1).2,0,(zV L G l).2.2.2)
def Xr{L}(h:uE L)(G M){o}(b:yY o.num):uE (yN L G M o).2.2:=
 OU (fun r=>uE r.2.2) (fun _ _=>h) G M o fun n a=>h.ay (by rcases a with e|e<;>rw[e];exact lq;exact b)
def Pa(G):∀(l:List Op) (L:aw) (M:List Int),uE L->(∀o∈l,yY o.num)->uE (vE L G M l).2.2
 |[],_,_,h,_=>h
 |o :: l,L,M,h,a=>by
  have h1:=Xr h G M<|a o Sm;unfold vE;split;exact h1;exact Pa G l _ _ h1 Gd
def jQE(L G l):(zV L G l).2.2.2=L\/(zV L G l).2.2.2=(vE L G [] l).2.2:=by
 unfold zV;split;exact .inl rfl;grind
def tE{L}(h:uE L)(G){l}(a:∀o∈l,yY o.num):uE (zV L G l).2.2.2:=by
 rcases jQE L G l with e|e<;>rw[e];exact h;exact Pa G l L [] h a
def Vc(L G l):(zV L G l).2.2.2.length<=L.length+min 256 l.length:=by
 unfold zV;split;simp;rename_i a;have:=MQ G l L [];split;simp;grind
def Rv{L t}(h:(iz L t).2=0):al L t=true/\(qL L t).length<=4096/\(iz L t).1=qL L t:=by
 unfold iz at h|-;split;grind;grind
def L3{L}(f:Wf L)(c:uE L)(G){l}(b:∀o∈l,yY o.num)(a:(gk L G l).2.1=0):
  (zV L G l).2.1=0/\al (gk L G l).2.2.2 (zV L G l).1=true/\qF (gk L G l).2.2.2 G (gk L G l).1=((gk L G l).2.2.2,jj G (zV L G l).1,true):=by
 have e:=BX f G l
 have n1:=tE c G b
 unfold gk at a|-
 split at a
 grind
 rename_i h
 rw[if_neg h]
 have⟨i1,i2,d⟩:=Rv a
 refine⟨Classical.byContradiction h,i1,?_⟩
 simp only
 unfold qF
 rw[d,(RW e n1 i1 i2).1]
 simp only[ne_eq,not_true_eq_false,if_false]
 rw[wS i1]
section
variable {L M:aw} {G K:List Int}
def mu.Pe(h:mu L M G K){l}(b:∀o∈l,yY o.num)(a:M.length+l.length<=65536):
  (gk L G l).1=(gk M K l).1/\(gk L G l).2.1=(gk M K l).2.1/\(gk L G l).2.2.1=(gk M K l).2.2.1/\mu (gk L G l).2.2.2 (gk M K l).2.2.2 G K/\(gk M K l).2.2.2.length<=M.length+min 256 l.length:=by
 have p:=h.len
 have⟨k,n,i,m⟩:=Mv h.wl h.wm h.g l Om a
 have c:=BX h.wl G l;have d:=BX h.wm K l
 have n1:=tE h.nl G b;have n2:=tE h.nm K b
 have f:=Vc M K l
 have hs:ki (zV L G l).2.2.2 (zV M K l).2.2.2:=by
  have:=Nw l h.wl h.wm h.g LR.nil h.s Om a;have j:=(GO l h.wl h.wm h.g LR.nil Om a).1;unfold zV;by_cases h1:l.length>256;rw[if_pos h1,if_pos h1];exact h.s;rw[if_neg h1,if_neg h1];by_cases h2:l.length=0;rw[if_pos h2,if_pos h2];exact h.s;rw[if_neg h2,if_neg h2,<-j];split<;>exact this
 have S:mu (zV L G l).2.2.2 (zV M K l).2.2.2 G K:=⟨c,d,n1,n2,i,hs⟩
 unfold gk
 rw[<-k]
 split
 exact⟨rfl,rfl,n,S,f⟩
 rename_i e
 have r:=m<|Classical.byContradiction e
 rw[SQ c d r]
 exact⟨rfl,rfl,rfl,S,f⟩
def mu.Zb(h:mu L M G K){l}(a:∀o∈l,yY o.num)(c:M.length+l.length<=65536)(b:(gk M K l).2.1=0):
  (qF (gk L G l).2.2.2 G (gk M K l).1).2.2=true/\(qF (gk M K l).2.2.2 K (gk M K l).1).2.2=true /\
  mu (qF (gk L G l).2.2.2 G (gk M K l).1).1 (qF (gk M K l).2.2.2 K (gk M K l).1).1 (qF (gk L G l).2.2.2 G (gk M K l).1).2.1 (qF (gk M K l).2.2.2 K (gk M K l).1).2.1 /\
  (qF (gk M K l).2.2.2 K (gk M K l).1).1.length<=M.length+min 256 l.length:=by
 have⟨d,e,_,S,f⟩:=h.Pe a c
 have i:=h.len
 have⟨a1,a2,a3⟩:=L3 h.wl h.nl G a<|e.trans b
 have⟨b1,b2,b3⟩:=L3 h.wm h.nm K a b
 have⟨_,_,_,r⟩:=Mv h.wl h.wm h.g l Om c
 have ep:∀(L:aw) (G:List Int),(gk L G l).2.2.2=(zV L G l).2.2.2:=fun L G=>by unfold gk;split<;>rfl
 have r:=r a1
 rw[<-ep,<-ep]at r
 rw[d]at a3
 rw[a3,b3]
 exact⟨rfl,rfl,⟨S.wl,S.wm,S.nl,S.nm,S.g.jj S.wl S.wm r,S.s⟩,f⟩
end
def zIF{l}(h:yY l.c):(vB (qS l).1).1=none\/(vR l=0/\∃q,vB (qS l).1=(some q,0,0)/\Wf q/\al q q.length=true/\zA q q.length=zT l true true):=by
 by_cases b:(zG [] l).2.1≠0;have e:(qS l).1=[]:=by unfold qS;rw[if_pos b]
 rw[e];exact .inl tV;have b:(zG [] l).2.1=0:=Classical.byContradiction b;have⟨d,f,i⟩:=BF b Wf.nil;have e:qS l=iz (zG [] l).2.2 (zG [] l).1:=by unfold qS;rw[if_neg Om]
 by_cases a:(qL (zG [] l).2.2 (zG [] l).1).length>4096;have:(qS l).1=[]:=by rw[e];unfold iz;rw[if_pos f,if_pos a]
 rw[this];exact .inl tV;have g:(qS l).1=qL (zG [] l).2.2 (zG [] l).1:=by rw[e];unfold iz;rw[if_pos f,if_neg a]
 have⟨q,q1,q2,q3,q4⟩:=FF (xK Wf.nil l) (AP uE.nil h) f Om;rw[g];exact .inr ⟨d,q,q1,q2,q3,by rw[q4,i]⟩
def OK(l):(qS l).1.length<=4096:=by
 unfold qS;split;simp;unfold iz;split;grind;simp
def zEJ{M}(b:Wf M)(K){l}(m:yY l.c)(s:M.length<=60000):(qF M K (qS l).1).1.length<=M.length+40:=by
 have e:(qF M K (qS l).1).1=(yP M (qS l).1).2.2.2:=by unfold qF;split<;>rfl
 rw[e];rcases zIF m with h|⟨g,q,q1,q2,q3,q4⟩;have:(yP M (qS l).1).2.2.2=M:=by unfold yP;rw[h]
 rw[this];exact Nat.le_add_right _ _;have:(yP M (qS l).1).2.2.2=(vH M q q.length).2.2:=by unfold yP;rw[q1]
 rw[this];have p:2*q.length<=(qS l).1.length:=CP (by rw[q1]);have o:=OK l;have a:=(zh b q2 q3 Om).1;have b1:=GV b (l:=l) Om;obtain⟨_,b2,b3⟩:=BF (by rw[b1];exact g) b;have d:=xK b l;have t:=Vl b l;obtain⟨X,k⟩:=tY b.ok l;obtain⟨r,_⟩:=xX b q2 q3 a;have hi:=KK q2 (dd q q.length) [] M (fun _=>0) (Cp.start b) (fun z f=>xE q2 f) (xG q2 _) (by have:=uW q2 (q.length:Int);omega);have n:(vH M q q.length).2.2=(zU q (dd q q.length) M fun _=>0).1:=by
  unfold vH at a|-;rw[if_pos q3]at a|-;simp only at a|-;split;grind;rfl
 have:ki (vH M q q.length).2.2 (zG M l).2.2:=by
  intro v i;rw[n]at i|-;rcases hi v i with⟨h1,h2⟩|⟨z,f,h2⟩;rw[k]at d|-;exact⟨v,uD h1,by rw[h2,zj d h1]⟩;obtain⟨v',h3,j⟩:=Py d q2 ((y8 q2).1 f).2 q3 _ b2 (by rw[b3,q4]);exact⟨v',h3,by rw[h2,j]⟩
 have:=this.len r;omega
def BE(Lq:aw)(q:aw×List Int)(t:Int):aw×List Int:=((vH q.1 Lq t).2.2,if(vH q.1 Lq t).2.1=0 then pd (vH q.1 Lq t).2.2 q.2 (vH q.1 Lq t).1 else q.2)
def qX(Lq:aw)(G:List Int):aw×List Int:=G.foldl (BE Lq) ([],[])
def Hz(Lq G t):qX Lq (G++[t])=BE Lq (qX Lq G) t:=by unfold qX;rw[foldl_append];rfl
def zHP{P:List Int->Prop}(b:P [])(h1:∀l t,P l->P (l++[t]))(l):P l:=by
 have:∀m:List Int,P m.reverse:=fun m=>by
  induction m with
  |nil=>exact b
  |cons x m a=>rw[reverse_cons];exact h1 _ _ a
 have:=this l.reverse;rwa [reverse_reverse]at this
def Ka{Lq}(c:Wf Lq)(i:uE Lq):∀(G:List Int),G.Nodup->(∀g∈G,al Lq g=true)->Wf (qX Lq G).1/\uE (qX Lq G).1/\ki (qX Lq G).1 Lq/\LR (qX Lq G).1 Lq (qX Lq G).2 G:=by
 refine zHP (fun _ _=>⟨Wf.nil,uE.nil,ki.nil,LR.nil⟩) fun G t m o hi=>?_;have⟨n1,_,n2⟩:=nodup_append.1 o;have⟨w,n,s,g⟩:=m n1 Gd;have ht:=hi t Sm;rw[Hz];generalize qX Lq G=q at *;have⟨e,s'⟩:=Ze w c s ht;have⟨a,f,l⟩:=xX w c ht e;have p:=KI n i t;have⟨X,j⟩:=Dq q.1 Lq t;have k:LR (vH q.1 Lq t).2.2 Lq q.2 G:=by
  rw[j]at a|-;have:=g.jf (Y:=[]) a Gd;rwa [append_nil]at this
 have d:=k.jj a c (s:=(vH q.1 Lq t).1) (t:=t) ⟨f,ht,l⟩;have b:t∉G:=fun h=>n2 t h t Sm rfl;unfold BE;rw[if_pos e,wS f];rw[show jj G t=G++[t] by unfold Proofs.jj;rw[if_neg b]]at d;exact⟨a,p,s',d⟩
def mu.Qx{L M G K}(h:mu L M G K)(b:G.Nodup):mu (qX L G).1 M (qX L G).2 K:=by
 have⟨w,n,s,g⟩:=Ka h.wl h.nl G b h.g.l;refine⟨w,h.wm,n,h.nm,⟨g.l,h.g.m,g.e.trans h.g.e⟩,fun v a=>?_⟩;have⟨t,ht,e⟩:=s v a;have⟨u,d,c⟩:=h.s t ht;exact⟨u,d,e.trans c⟩
end Go.Proofs
end
section
open Go Go.SE List
namespace Go.Proofs
open Tryz
attribute [local irreducible] Calls
def ik.ft{w f L G a b F}(h:ik w f L G a b F):G.length<=1000000:=by
 have:=xW h.pX.1 h.pX.2;have:=h.wf.ok.ft;omega
abbrev Ev(A:World->aw->NP->Prop)(S:List UInt8×Int×Int×aw)(F:NP)(a:World)(r1:ByteArray)(r2 r3:Int)(w':World):Prop:=r1=⟨S.1.toArray⟩/\r2=S.2.1/\r3=S.2.2.1/\∃F',A w' S.2.2.2 F'/\ab F a w'/\∀y,F' y->F y\/a.heap.size<=y
def zBX{C:NP}(f:Addr)(sl:Sl)(l:List Op)(c:World){L:aw}{G:List Int}{a b:Bool}{F:NP}(h:ik c f L G a b F)(s:uE (zV L G l).2.2.2)(J:dr C c 5 sl (l.map pD))(P:∀y,C y->y<c.heap.size/\¬ F y)(K:l.length<=1000):
  cl 14 #[vp<|some f,sl.v] c<|XU fun r1 r2 r3 w'=>Ev (fun w L F=>ik w f L G a b F) (gk L G l) F c r1 r2 r3 w':=by
 refine jah _ _ c (Ev (fun w L F=>ik w f L G a b F) (gk L G l) F c) ?_
 unfold Ml
 have I:=h.ft
 have⟨k,p,S,x,W,D,V⟩:=h
 refine Br.f rfl ⟨fun _=>True,trivial,?_⟩
 rintro T rfl
 have n:Pure c c.drew:=ab.drew c
 have h1:=D.ext n fun _ _ h=>h
 have Q:=n.size
 refine⟨f,rfl,some p,h1.box.cell rfl,f,rfl,some k,h1.box.bf,?_⟩
 refine(UM p k sl l c.drew h1.wf h1.bl h1.fl (J.pure n) Gd I K).mono ?_
 rintro _ E ⟨r1,r2,r3,rfl,H,d,z,A,r⟩
 have⟨N,t⟩:=Prod.mk.inj H
 have⟨u,M⟩:=Prod.mk.inj t
 have⟨X,B⟩:=VF L G l
 have o:=BX D.wf G l
 have q:=B
 rw[B]at z o
 have h2:=h1.qp z o A r
 rw[<-q]at h2 z o
 have g:ab F c E:=(ab.pure n).trans<|A.mono Gd
 have i:∀y,(y=f.block\/x y\/d y)->F y\/c.heap.size<=y:=Gd
 refine⟨_,_,_,rfl,trivial,A.bk fun _ h=>h.elim,fun e=>?_,fun e=>?_⟩
 have e:=bne_iff_ne.1 e
 rw[u]at e
 unfold gk
 rw[if_pos e]
 exact⟨rfl,u,M,_,⟨k,p,S,x,d,h2,fun _=>Iff.rfl⟩,g,i⟩
 have j:r2=0:=by simpa using e
 rw[u]at j
 unfold gk
 rw[if_neg<|by simpa using j,<-N]
 refine⟨f,rfl,some p,h2.box.cell rfl,?_⟩
 refine(zFO p r1 E o s h2.bl).mono ?_
 rintro _ Y ⟨R,U,rfl,O,m⟩
 refine⟨_,_,rfl,m.pure.bz,_,A8 underlying59 underlying5 underlying9 m.cm.el,rfl,O,rfl,_,⟨k,p,S,x,d,h2.ext m.pure fun _ _ h=>h,fun _=>Iff.rfl⟩,g.fb m.pure,i⟩
def ZW(f w0){L G a b F}(h:ik w0 f L G a b F)(hN:uE L):
  cl 22 #[vp<|some f] w0<|XD fun r w'=>∃c F',r=some c/\ik w' c (qX L G).1 (qX L G).2 a b F'/\Pure w0 w'/\∀y,F' y->w0.heap.size<=y:=by
 suffices key:∀K:Option Addr->WP,(∀c w',(∃F',ik w' c (qX L G).1 (qX L G).2 a b F'/\Pure w0 w'/\∀y,F' y->w0.heap.size<=y)->K (some c) w')->GJ (some f) w0 K from
  TX _ w0 _<|key _ Gd
 intro K hK
 unfold GJ
 have hG:=h.ft
 have hg:=h.pX
 have hFl:∀y,F y->y<w0.heap.size:=fun y g=>h.lt g
 have hwf:=h.wf
 have⟨k,p,S,FK,FP,W,hF⟩:=h
 refine Br.f rfl ?_
 refine(GB w0).mono ?_
 rintro _ O ⟨_,rfl,c,Fc,rfl,V,E1,hn1⟩
 have z1:=E1.size
 have hA:=W.ext E1 fun _ _ h=>h
 have⟨kc,pc,Sc,R,FPc,o,I⟩:=V
 refine⟨_,rfl,E1.bz,f,rfl,a,b,fun i hi=>?_,c,rfl,fun j hj=>?_,id,?_⟩
 .rw[yO]
  rcases(show i=0\/i=1 by simp at hi;omega)with rfl|rfl
  .exact hA.box.cell rfl
  .exact hA.box.cell rfl
 .rw[yO];exact o.box.eh So
 rintro Q rfl
 have Bc:=ai.storeAt [vb a,vb b] 0 2 O _ o.box Sm
 have X2:ab (·=c.block) O (bd O (c.add 2) [vb a,vb b]):=by
  have:=ab.bd O (c.add 2) [vb a,vb b];rw[zC]at this;exact this
 have Bc:ai (bd O (c.add 2) [vb a,vb b]) c [vp<|some kc,vp<|some pc,vb a,vb b] 98:=Bc
 generalize bd O (c.add 2) [vb a,vb b]=Q at *
 have z:rY Q c [] [] a b kc pc Sc R FPc:=⟨Bc,o.fl.ext X2 fun y g e=>o.dk<|e▸g,o.bl.ext X2 fun y g e=>o.dp<|e▸g,o.wf,o.ok,o.d,o.dk,o.dp⟩
 have cn:w0.heap.size<=c.block:=hn1 _<|(I _).2<|.inl rfl
 have E2:Pure w0 Q:=E1.cg X2 Gd
 have U:rY Q f L G a b k p S FK FP:=hA.ext X2 Gd
 clear o hA Bc
 refine⟨f,rfl,some k,U.box.bf,?_⟩
 refine(Ny k p Q U.fl hG).mono ?_
 rintro _ w3 ⟨r2,rfl,C⟩
 have z2:=E2.size
 have E3:=E2.trans C.pure
 have z3:=C.pure.size
 refine⟨_,rfl,C.pure.bz,?_⟩
 have hlen:r2.len=G.length:=by rw[C.cm.len,vA]
 have B:sG w0 ar r2.aq ar w3 c [] [] a b:=by
  have l:∀y,Fc y->y<Q.heap.size:=fun y g=>by
   rcases(I y).1 g with rfl|g|g
   .exact z.box.lt
   .exact z.fl.lt g
   .exact z.bl.lt g
  refine⟨Fc,⟨kc,pc,Sc,R,FPc,z.ext C.pure fun _ _ h=>h,I⟩,E3,fun y g=>⟨.inr<|hn1 y g,id,fun hb=>?_⟩,fun y g=>⟨C.cm.lt g,id⟩,fun y g=>g.elim⟩;have:=C.ak y hb;have:=l y g;omega
 have D:jw ar w3 73 1 r2 (cd G):=⟨C.cm,fun _ _ h=>h⟩
 refine⟨fun i H w=>∃n:Nat,i=n/\n<=G.length/\H=ar/\sG w0 ar r2.aq ar w c (qX L<|G.take n).1 (qX L<|G.take n).2 a b/\jw ar w 73 1 r2 (cd G),fun i _=>((G.length:Int)-i).toNat,⟨0,rfl,Nat.zero_le _,rfl,B,D⟩,?_⟩
 clear B D
 rintro _ Hl wl hsl ⟨n,rfl,hn,rfl,x,ho⟩
 refine⟨fun l=>?_,fun l=>?_⟩
 .have l:n<G.length:=Oh<|of_decide_eq_true l
  have u:G.take (n+1)=G.take n++[G[n]]:=by rw[take_succ_eq_append_getElem l]
  have hGn:=hg.2 _<|getElem_mem l
  have⟨a4,hat,BT⟩:=Ci ho.cm (i:=(n:Int)) (t:=G[n]) (by rw[th Om<|by simpa using l];simp)
  generalize G[n]=t at *
  have Z:=(Ka hwf hN (G.take<|n+1) (hg.1.sublist<|take_sublist _ G) Gd).1
  rw[u,Hz]at Z
  refine⟨a4,hat,t,BT,fun _=>True,trivial,?_⟩
  rintro w4 rfl
  have J:=x.Be<|ab.drew wl
  have ho4:=ho.pure<|ab.drew wl
  generalize wl.drew=w4 at *
  have⟨F4,J,E4,d1,d2,d3⟩:=J
  have⟨k4,p4,S4,FK4,FP4,h4,v⟩:=J
  have M:=W.ext E4 fun _ _ h=>h
  have CV:∀y,F4 y->w0.heap.size<=y:=fun y g=>(d1 y g).1.elim False.elim id
  refine⟨c,rfl,some p4,h4.box.cell rfl,f,rfl,some p,M.box.cell rfl,?_⟩
  refine(Lm p4 p t w4 h4.wf M.wf h4.bl M.bl Gd).mono ?_
  rintro _ w5 ⟨r3,r4,rfl,e3,e4,T,hP5,P,hF5⟩
  have next : ∀ w, sG w0 ar r2.aq ar w c (qX L<|G.take<|n + 1).1 (qX L<|G.take<|n + 1).2 a b -> jw ar w 73 1 r2 (cd G) ->
    (∃m:Nat,IntKind.i64.wrap ((n:Int)+1)=m/\m<=G.length/\ar=ar/\sG w0 ar r2.aq ar w c (qX L<|G.take m).1 (qX L<|G.take m).2 a b/\jw ar w 73 1 r2 (cd G))/\((G.length:Int)-IntKind.i64.wrap ((n:Int)+1)).toNat<((G.length:Int)-(n:Int)).toNat:=by
   intro w g1 g2
   rw[zM l Om]
   exact⟨⟨n+1,rfl,l,rfl,g1,g2⟩,yQ l⟩
  rw[u,Hz]at next
  generalize qX L (G.take n)=q at *
  have⟨X,hX⟩:=Dq q.1 L t
  have hX':=hX
  have N:Wf (vH q.1 L t).2.2:=Z
  rw[hX]at hP5 N
  have A:=h4.qp hP5 N P hF5
  rw[<-hX']at A N
  have Y:=ho4.ext (P.mono Gd) fun y g hf=>(d1 y hf).2.2 g
  refine⟨_,_,rfl,trivial,P.bk fun _ h=>h.elim,fun V=>?_,fun V=>?_⟩
  .have s:r4=0:=by simpa using V
   rw[e4]at s
   refine⟨c,rfl,some k4,A.box.bf,?_⟩
   refine(G4 k4 p4 r3 w5 A.fl A.bl A.wf A.d A.ok).mono ?_
   rintro _ w6 ⟨r5,rfl,_,S6,FK6,hK6,ok6,E6,hF6⟩
   have h6:=A.Gu hK6 ok6 E6 hF6
   refine⟨_,rfl,E6.bk fun _ h=>h.elim,?_⟩
   have X46:ab F4 w4 w6:=(P.mono fun y _ g=>(v y).2<|.inr<|.inr g).trans<|E6.mono Gd
   have z5:=P.size
   refine next _ (sG.step d1 d2 d3 E4 ⟨k4,p4,S6,FK6,T,?_,fun _=>Iff.rfl⟩ X46 ?_).1 (Y.ext (E6.mono fun y _ g=>(v y).2<|.inr<|.inl g) fun y g hf=>(d1 y hf).2.2 g)
   .unfold BE
    rw[if_pos s,<-e3];exact h6
   .grind
  .have s:¬r4=0:=by simpa using V
   rw[e4]at s
   refine next _ (sG.step d1 d2 d3 E4 ⟨k4,p4,S4,FK4,T,?_,fun _=>Iff.rfl⟩ (P.mono fun y _ g=>(v y).2<|.inr<|.inr g) ?_).1 Y
   .unfold BE
    rw[if_neg s];exact A
   .grind
 .have:n=G.length:=Oh<|of_decide_eq_false l
  subst this
  rw[take_length]at x
  have⟨F',x,E,h1,_⟩:=x
  exact hK c wl ⟨F',x,E,fun y g=>(h1 y g).1.elim False.elim id⟩
structure tx(w:World)(r x q:Addr)(M:aw)(K:List Int)(a b:Bool)(FK FP:NP):Prop where
 box:ai w r [vp<|some x,vb a,vb b] 52
 fl:sR w x q K FK
 bl:vP w q M FP
 d:∀y,FK y->¬FP y
 dk:¬FK r.block
 dp:¬FP r.block
def qv(r:Addr)(M:aw)(K:List Int)(a b:Bool):rC:=fun w F=>∃x q FK FP,tx w r x q M K a b FK FP/\∀y,F y↔y=r.block\/FK y\/FP y
section
variable {w w':World} {f r x q:Addr} {L M:aw} {G K:List Int} {a b:Bool} {FK FP F:NP}
def tx.ext{X}(h:tx w r x q M K a b FK FP)(E:ab X w w')(c:∀y,y=r.block\/FK y\/FP y->¬X y):tx w' r x q M K a b FK FP:=
 ⟨h.box.ext E<|c _<|.inl rfl,h.fl.ext E fun b e=>c _<|.inr<|.inl e,h.bl.ext E fun b e=>c _<|.inr<|.inr e,h.d,h.dk,h.dp⟩
def rN:mh (qv r M K a b):=by
 refine⟨fun⟨x,q,FK,FP,h,e⟩ E d=>⟨x,q,FK,FP,h.ext E fun y c=>d y<|(e y).2 c,e⟩,fun⟨x,q,FK,FP,h,e⟩ y c=>?_⟩;rcases(e y).1 c with rfl|c|c;exact h.box.lt;exact h.fl.lt c;exact h.bl.lt c
def tx.qp{M' FP'}(h:tx w r x q M K a b FK FP)(g:vP w' q M' FP')(E:ab FP w w')(f:∀y,FP' y->FP y\/w.heap.size<=y):tx w' r x q M' K a b FK FP':=
 ⟨h.box.ext E h.dp,h.fl.ext E fun y c=>h.d y c,g,fun y c e=>(f y e).elim (h.d y c) fun i=>Oh<|h.fl.lt c,h.dk,fun c=>(f _ c).elim h.dp fun i=>Oh h.box.lt⟩
def tx.pX{K' FK'}(h:tx w r x q M K a b FK FP)(g:sR w' x q K' FK')(E:ab FK w w')(f:∀y,FK' y->FK y\/w.heap.size<=y):tx w' r x q M K' a b FK' FP:=
 ⟨h.box.ext E h.dk,g,h.bl.ext E fun y e c=>h.d y c e,fun y e=>(f y e).elim (h.d y) fun i c=>Oh<|h.bl.lt c,fun e=>(f _ e).elim h.dk fun i=>Oh h.box.lt,h.dp⟩
end
def sR.box{w x q G F}(h:sR w x q G F):∃sg:Sl,w.cell? x=some (vp<|some q)/\w.cell? (x.add 1)=some sg.v/\bg w 73 1 sg (cd G)/\∀y,sg.aq y->F y:=by
 have⟨sg,h,a⟩:=h;exact⟨sg,h.box.bf,h.box.cell rfl,h.jy,fun y b=>(a y).2<|.inr b⟩
def UF(w0):cl 10 #[] w0 (XD fun r w'=>∃c F,r=some c/\qv c [] [] false false w' F/\Pure w0 w'/\∀y,F y->w0.heap.size<=y):=by
 refine Uz w0 (fun r w'=>∃c F,r=some c/\qv c [] [] false false w' F/\Pure w0 w'/\∀y,F y->w0.heap.size<=y) ?_;refine(HA w0).mono ?_;rintro _ n ⟨_,rfl,q,FP,rfl,d,i,k⟩;refine⟨_,rfl,fun g j h2 l o h3=>?_⟩;have e:Pure n j:=ab.ax h2;have f:Pure j o:=ab.ax h3;have p:=i.size;have s:=e.size;have b1:=h2.cu;have b2:=h3.cu;have t:=(ai.fp h2).lt;have a:∀y,¬Sl.nil.aq y:=fun y m=>by have⟨_,h,_⟩:=m;cases h
 refine⟨l,_,rfl,⟨g,q,fun y=>y=g.block,FP,⟨ai.fp h3,⟨Sl.nil,⟨(ai.fp h2).pure f,bg.nil _ _ _,a _⟩,fun y=>by simp[a]⟩,(d.pure e).pure f,?_,?_,?_⟩,fun _=>Iff.rfl⟩,(i.trans e).trans f,?_⟩;rintro y rfl b;have:=d.lt b;omega;omega;intro b;have:=d.lt b;omega;rintro y (rfl|rfl|b);omega;omega;exact k y b
section
variable (r:Addr) (w0:World) {M:aw} {K:List Int} {a b:Bool} {F:NP} (h:qv r M K a b w0 F) (hW:Wf M)
include h hW
def NL(body:ByteArray)(A:K.length<=100000):cl 45 #[vp<|some r,vs body] w0 (XC fun o w'=>o=(qF M K body.data.toList).2.2/\Tn (qv r (qF M K body.data.toList).1 (qF M K body.data.toList).2.1 a b) F w0 w'):=by
 refine jbV _ _ w0 (fun o w'=>o=(qF M K body.data.toList).2.2/\Tn (qv r (qF M K body.data.toList).1 (qF M K body.data.toList).2.1 a b) F w0 w') ?_;unfold KN;have⟨x,q,FK,FP,h,d⟩:=h;have⟨sg,C,H,_⟩:=h.fl.box;refine⟨r,rfl,some x,h.box.bf,x,rfl,some q,C,?_⟩;have⟨s,p,hr,n,hs,_⟩:=KC (P:=prog) (src:=9) (dst:=59) underlying9 underlying59 underlying5 w0 body;refine⟨s,p,hr,?_⟩;have h1:=h.ext n fun _ _ h=>h;refine(SN q s body.data.toList p hW h1.bl hs).mono ?_;rintro _ w ⟨t,e,y,rfl,rfl,rfl,rfl,f,B,m,j⟩;have h2:=h1.qp B m j;have D:=n.size;have E:=m.size;have i:ab F w0 w:=(ab.pure n).trans<|m.mono fun y _ c=>(d y).2<|.inr<|.inr c;have u:∀y,f y->F y\/w0.heap.size<=y:=fun y c=>(j y c).imp (fun h=>(d y).2<|.inr<|.inr h) fun h=>Om;refine⟨_,_,_,rfl,fun g=>?_,fun g=>?_⟩;have g:=bne_iff_ne.1 g;unfold qF;rw[if_pos g];refine⟨rfl,_,⟨x,q,FK,f,h2,fun _=>Iff.rfl⟩,i,?_⟩;rintro y (rfl|c|c);exact .inl<|(d _).2<|.inl rfl;exact .inl<|(d y).2<|.inr<|.inl c;exact u y c;have g:(yP M body.data.toList).2.1=0:=by simpa using g
 refine⟨r,rfl,some x,h2.box.bf,?_⟩;refine(Ns x q (yP M body.data.toList).1 w h2.fl h2.bl A).mono ?_;rintro _ I ⟨G,rfl,l,z,v,k⟩;refine⟨_,rfl,?_⟩;unfold qF;rw[if_neg<|by simpa using g];refine⟨rfl,_,⟨x,q,l,f,h2.pX z v k,fun _=>Iff.rfl⟩,i.trans<|v.mono fun y _ c=>(d y).2<|.inr<|.inl c,?_⟩;rintro y (rfl|c|c);exact .inl<|(d _).2<|.inl rfl;exact(k y c).imp (fun h=>(d y).2<|.inr<|.inl h) fun h=>Om;exact u y c
def Xc(ao)(D:K.length<=100000)(C:M.length<65536):cl 46 #[vp<|some r,vi ao] w0 (XB fun o w'=>o=(zS M K a b ao).1/\Tn (qv r (zS M K a b ao).2.1 (zS M K a b ao).2.2.1 (zS M K a b ao).2.2.2.1 (zS M K a b ao).2.2.2.2) F w0 w'):=by
 refine jbC _ _ w0 (fun o w'=>o=(zS M K a b ao).1/\Tn (qv r (zS M K a b ao).2.1 (zS M K a b ao).2.2.1 (zS M K a b ao).2.2.2.1 (zS M K a b ao).2.2.2.2) F w0 w') ?_;refine⟨fun g=>?_,fun g=>?_⟩;have e:zS M K a b ao=(2,M,K,a,b):=by
  unfold zS qM;rw[if_pos (by simp only[Bool.and_eq_true,bne_iff_ne]at g;simpa using g)]
 rw[e];exact⟨rfl,F,h,ab.refl _,fun y c=>.inl c⟩;have P:ao=0\/ao=1:=by
  simp only[Bool.and_eq_false_iff,bne_eq_false_iff_eq]at g;exact g
 have⟨x,q,FK,FP,h,f⟩:=h;have⟨sg,H,N,_⟩:=h.fl.box;refine⟨r,rfl,some x,h.box.bf,x,rfl,some q,H,?_⟩;refine(vZ q (zX ao) w0 h.bl hW.ok).mono ?_;rintro _ J ⟨r1,r2,rfl,A,s,E,u,j⟩;have⟨I,O⟩:=Prod.mk.inj A;have⟨G,_⟩:=Nb hW C (n:=ao) Om;have h2:=h.qp E u j;refine⟨_,_,rfl,r,rfl,some x,h2.box.bf,?_⟩;refine(Ns x q r1 J h2.fl h2.bl D).mono ?_;rintro _ l ⟨r3,rfl,m,B,z,k⟩;have h3:=h2.pX B z k;have L:=u.size;obtain⟨i,rfl,hi⟩:∃i:Nat,ao=(i:Int)/\i<2:=⟨ao.toNat,Om,Om⟩;refine⟨_,rfl,r,rfl,(r.add 1).add i,⟨Om,Om,Sm⟩,?_⟩;rw[yO];refine⟨h3.box.eh So,?_⟩;rintro _ rfl;have v:=h3.box.set (1+i)<|vb true;have p:ab (·=r.block) l (l.setCell (r.add<|1+i)<|vb true):=by
  have:=ab.setCell (w:=l) (r.add<|1+i)<|vb true;rw[zC]at this;exact this
 unfold zS;rw[if_neg (by unfold qM;rcases(show i=0\/i=1 by omega)with rfl|rfl<;>simp),if_neg (by rw[G];simp),<-I];have t:ai (l.setCell (r.add<|1+i)<|vb true) r [vp<|some x,vb<|a ||((i:Int)==0),vb<|b ||((i:Int)==1)] 52:=by
  rcases(show i=0\/i=1 by omega)with rfl|rfl;simpa using v;simpa using v
 refine⟨rfl,_,⟨x,q,m,s,⟨t,h3.fl.ext p fun y c e=>h3.dk<|e▸c,h3.bl.ext p fun y c e=>h3.dp<|e▸c,h3.d,h3.dk,h3.dp⟩,fun _=>Iff.rfl⟩,((u.mono fun y _ c=>(f y).2<|.inr<|.inr c).trans<|z.mono fun y _ c=>(f y).2<|.inr<|.inl c).trans (p.mono fun y _ c=>(f y).2<|.inl c),?_⟩;rintro y (rfl|c|c);exact .inl<|(f _).2<|.inl rfl;exact(k y c).imp (fun h=>(f y).2<|.inr<|.inl h) fun h=>Om;exact(j y c).imp (fun h=>(f y).2<|.inr<|.inr h) id
def U4{I:NP}(sl:Sl)(l:List Op)(T:uE M)(P:∀o∈l,yY o.num)(z:dr I w0 5 sl (l.map pD))(p:∀y,I y->y<w0.heap.size/\¬ F y)(V:l.length<=1000):
  cl 47 #[vp<|some r,sl.v] w0<|XU fun r1 r2 r3 w'=>Ev (fun w M F=>qv r M K a b w F) (gk M K l) F w0 r1 r2 r3 w':=by
 refine VI _ _ w0 (Ev (fun w M F=>qv r M K a b w F) (gk M K l) F w0) ?_
 unfold Nn
 have⟨x,q,FK,FP,h,m⟩:=h
 refine⟨fun _=>True,trivial,?_⟩
 rintro w1 rfl
 have t:Pure w0 w0.drew:=ab.drew w0
 have h1:=h.ext t fun _ _ h=>h
 have O:=t.size
 have⟨sg,Z,U,H,W⟩:=h1.fl.box
 refine⟨r,rfl,some x,h1.box.bf,x,rfl,some q,Z,r,rfl,some x,h1.box.bf,x,rfl,sg,U,?_⟩
 refine(Ud q sg sl K l w0.drew hW h1.bl H.el (z.pure t) (fun y e=>⟨H.lt e,h1.d y<|W y e⟩) (fun y e=>⟨Nat.lt_of_lt_of_le (p y e).1 O,fun R=>(p y e).2<|(m y).2<|.inr<|.inr R⟩) V).mono ?_
 rintro _ L ⟨r1,r2,r3,rfl,N,g,X,G,n⟩
 have⟨e1,A⟩:=Prod.mk.inj N
 have⟨C,Y⟩:=Prod.mk.inj A
 have u:=BX hW K l
 have B:=tE T K P
 have h2:=h1.qp X G n
 have i:ab F w0 L:=(ab.pure t).trans<|G.mono fun y _ e=>(m y).2<|.inr<|.inr e
 have k:∀y,(y=r.block\/FK y\/g y)->F y\/w0.heap.size<=y:=by
  rintro y (rfl|e|e);exact .inl<|(m _).2<|.inl rfl;exact .inl<|(m y).2<|.inr<|.inl e;exact(n y e).imp (fun h=>(m y).2<|.inr<|.inr h) fun h=>Om
 refine⟨_,_,_,rfl,trivial,G.bk fun _ h=>h.elim,fun c=>?_,fun c=>?_⟩
 have c:=bne_iff_ne.1 c
 rw[C]at c
 unfold gk
 rw[if_pos c]
 exact⟨rfl,C,Y,_,⟨x,q,FK,g,h2,fun _=>Iff.rfl⟩,i,k⟩
 have f:r2=0:=by simpa using c
 rw[C]at f
 unfold gk
 rw[if_neg<|by simpa using f,<-e1]
 have⟨S,D,_⟩:=h2.fl.box
 refine⟨r,rfl,some x,h2.box.bf,x,rfl,some q,D,?_⟩
 refine(Oq q r1 L u B h2.bl).mono ?_
 rintro _ J ⟨r4,Q,rfl,E,s⟩
 have j:∃F',qv r (zV M K l).2.2.2 K a b J F'/\ab F w0 J/\∀y,F' y->F y\/w0.heap.size<=y:=⟨_,⟨x,q,FK,g,h2.ext s.pure fun _ _ h=>h,fun _=>Iff.rfl⟩,i.fb s.pure,k⟩
 refine⟨_,_,rfl,s.pure.bz,fun c=>?_,fun c=>?_⟩
 have c:=bne_iff_ne.1 c
 refine⟨?_,E,rfl,j⟩
 have:(iz (zV M K l).2.2.2 r1).1=[]:=by
  rw[E]at c;unfold iz at c|-;split;rename_i hi;rw[if_pos hi]at c;split;rfl;rename_i z;rw[if_neg z]at c;exact absurd rfl c;rfl
 rw[this]
 have f:Q=0:=by simpa using c
 exact⟨_,A8 underlying59 underlying5 underlying9 s.cm.el,rfl,by rw[<-E,f],rfl,j⟩
end
def IL(l:dy):(A6 l).data.toList=(qS l).1:=by unfold A6;simp
section
variable {w0 w:World} {F0 H:NP} {f:Addr} {L:aw} {G:List Int} {a b:Bool} (T:Tk H (ic f L G a b) F0 w0 w)
include T
def _root_.Go.SE.Tk.binds(ao c x):cl 13 #[vp<|some f,.agg #[vi ao,vu c,vs x]] w (XC fun r w'=>(r=true↔(pY L G ao c x).1≠0)/\Tk H (ic f (pY L G ao c x).2 G a b) F0 w0 w'/\aj H w w'):=by
 have⟨F,g,_,k⟩:=T.one;exact(Fs f ao c x w g).mono fun e w' ⟨r,d,hr,t⟩=>⟨r,d,hr,k t⟩
def _root_.Go.SE.Tk.y5(body):cl 23 #[vp<|some f,vs body] w (XC fun r w'=>r=(qF L G body.data.toList).2.2/\Tk H (ic f (qF L G body.data.toList).1 (qF L G body.data.toList).2.1 a b) F0 w0 w'/\aj H w w'):=by
 have⟨F,d,_,k⟩:=T.one;exact(Do f body w d).mono fun e w' ⟨r,c,hr,t⟩=>⟨r,c,hr,k (A':=ic _ _ _ _ _) t⟩
def _root_.Go.SE.Tk.Fb(ao):cl 41 #[vp<|some f,vi ao] w (XB fun r w'=>r=(zS L G a b ao).1/\Tk H (ic f (zS L G a b ao).2.1 (zS L G a b ao).2.2.1 (zS L G a b ao).2.2.2.1 (zS L G a b ao).2.2.2.2) F0 w0 w'/\aj H w w'):=by
 have⟨F,d,_,k⟩:=T.one;exact(FV f ao w d).mono fun e w' ⟨r,c,hr,t⟩=>⟨r,c,hr,k (A':=ic _ _ _ _ _) t⟩
def _root_.Go.SE.Tk.free(ao):cl 21 #[vp<|some f,vi ao] w (XC fun r w'=>r=wC L G ao/\Tk H (ic f L G a b) F0 w0 w'/\aj H w w'):=by
 have d:=T;have⟨F,g,_⟩:=T;exact(JE f ao w g).mono fun e w' ⟨r,c,hr,E⟩=>⟨r,c,hr,d.pure qV E,E.bz⟩
end
def S5(w0):cl 8 #[] w0 (XC fun r w'=>r=true/\Pure w0 w'):=by
 refine w_H w0 (fun r w'=>r=true/\Pure w0 w') ?_;refine(GB w0).mono ?_;rintro _ B ⟨_,rfl,f,F,rfl,D,H,K⟩;refine⟨some f,rfl,H.bz,fun h=>(by cases h),fun _=>?_⟩;have C:Tk ar (ic f [] [] false false) ar w0 B:=⟨F,D,H,fun y hy=>⟨.inr<|K y hy,id⟩,fun _ h=>h.elim⟩;clear D K;refine(Ia f23 ⟨De,De⟩ B).mono ?_;rintro _ w2 ⟨_,rfl,rfl,Q⟩;refine⟨_,rfl,Q.bz,?_⟩;refine((C.pure qV Q).y5<|A6 f23).mono ?_;rintro _ w3 ⟨_,rfl,rfl,v,P⟩;have⟨L,G,e,b,d⟩:=Z9;rw[IL,e]at v;refine⟨_,rfl,P,fun h=>?_,fun _=>?_⟩;rw[IL,e]at h;cases h;refine(v.y5 ⟨#[120]⟩).mono ?_;rintro _ w4 ⟨_,rfl,rfl,N,E⟩;have ex:qF L G (ByteArray.mk #[120]).data.toList=(L,G,false):=UX L G;rw[ex]at N;refine⟨_,rfl,E,?_⟩;rw[ex];refine⟨fun h=>(by cases h),fun _=>?_⟩;clear C v P E;refine(N.binds 1 7 ⟨#[116]⟩).mono ?_;rintro _ w5 ⟨U,rfl,Y,T5,R⟩;have⟨k,l5⟩:=b.EK Om 1 7 ⟨#[116]⟩;have t5:U=true:=Y.2 ((A0 b.wf b.iq Om 1 7 _).2 (by
  rw[b.e];exact(Fk rfl De).2<|.inr ⟨f23,by simp[jb,f23],Kf,_,Sm,.refl⟩))
 subst t5;refine⟨_,rfl,R,fun _=>?_,fun h=>(by cases h)⟩;generalize (pY L G 1 7 ⟨#[116]⟩).2=S at *;refine(T5.binds 0 7 ⟨#[116]⟩).mono ?_;rintro _ w6 ⟨r6,rfl,Z,T6,k6⟩;have⟨c,l6⟩:=k.EK Om 0 7 ⟨#[116]⟩;have t6:r6=false:=Bool.eq_false_iff.2 (fun h=>by
  have:=(A0 k.wf k.iq Om 0 7 _).1<|Z.1 h;rw[k.e]at this;rcases(Fk rfl De).1 this with⟨_,h|h⟩|⟨l,d,_,hs⟩;exact Fy _ h;exact Fy _ h;rcases MH hs with e|e;simp[jb]at d;rcases d with rfl|rfl<;>simp[zT,f23,yD]at e;simp[jb]at d;rcases d with rfl|rfl<;>exact(e _ .refl).1 rfl)
 subst t6;refine⟨_,rfl,k6,?_⟩;generalize (pY S G 0 7 ⟨#[116]⟩).2=a at *;refine⟨fun _=>?_,fun h=>(by cases h)⟩;refine(T6.free 1).mono ?_;rintro _ w7 ⟨_,rfl,rfl,T7,V⟩;refine⟨_,rfl,V,?_⟩;have t7:wC a G 1=false:=Bool.eq_false_iff.2 (fun h=>by
  have:=(HL c.wf c.iq 1).1 h;rw[c.e]at this;rcases this.2 with h|h<;>exact Fy _ h)
 rw[t7];refine⟨fun _=>?_,fun h=>(by cases h)⟩;have⟨O,ml⟩:=Nb c.wf Om (n:=0)<|.inl rfl;have⟨z,W,_⟩:=xH O;have o:=uT c.wf<|zX 0;have⟨X,hX⟩:=yU a<|zX 0;have A:zS a G false false 0=(0,(ay a<|zX 0).2.2,jj G (ay a<|zX 0).1,true,false):=by
  unfold zS;rw[if_neg De,if_neg (by rw[O];simp),wS z];rfl
 refine(T7.Fb 0).mono ?_;rintro _ T ⟨_,rfl,rfl,J,k8⟩;rw[A]at J;refine⟨_,rfl,k8,fun w9 s=>?_⟩;have T9:=J.au qV s;rw[A];have hs:qu ((jj G (ay a<|zX 0).1).map<|zA (ay a<|zX 0).2.2) (sr 0):=⟨_,mem_map.2 ⟨_,AK.2<|.inr rfl,rfl⟩,by rw[zEH o z W];exact .refl⟩;have I:∀g∈jj G (ay a<|zX 0).1,al (ay a<|zX 0).2.2 g=true:=fun g b=>by
  rcases AK.1 b with h|rfl;rw[hX];exact uD<|c.iq g h;exact z
 generalize (ay a<|zX 0).2.2=x,(ay a<|zX 0).1=kk at *;generalize jj G kk=t at *;refine⟨fun _=>?_,fun h=>(by cases h)⟩;have M:zS x t true false 2=(2,x,t,true,false):=by unfold zS;rw[if_pos De]
 refine(T9.Fb 2).mono ?_;rintro _ w10 ⟨_,rfl,rfl,i,q⟩;rw[M]at i;refine⟨_,rfl,q,fun w11 j=>?_⟩;rw[M];refine⟨fun _=>?_,fun h=>(by cases h)⟩;refine((i.au qV j).free 0).mono ?_;rintro _ w12 ⟨_,rfl,rfl,p,u⟩;refine⟨_,rfl,u,?_⟩;have fr:zz (t.map<|zA x) 0:=⟨rfl,.inl hs⟩;rw[(HL o I 0).2 fr];refine⟨fun _=>?_,fun h=>(by cases h)⟩;refine(p.binds 0 9 ⟨#[120]⟩).mono ?_;rintro _ w13 ⟨r,rfl,hr,m,w⟩;exact⟨_,rfl,w,hr.2<|(A0 o I Om 0 9 _).2<|(Fk rfl De).2<|.inl fr,m.fr⟩
def YL(l:List Op):∀q∈l.map pD,q.length=5:=by intro q a;obtain⟨o,_,rfl⟩:=mem_map.1 a;rfl
def ZX(l:List Op):∀q∈l.map pD,q.all vJ=true:=by intro q a;obtain⟨o,_,rfl⟩:=mem_map.1 a;rfl
def jcG:km prog 36 88 5 48:=by
 refine⟨underlying36,⟨t88,_,Kf,(by kernel_rfl:t88.zero=some (.agg #[vi 0,vi 0,vi 0,vu 0,vs ⟨#[]⟩])),Kf,Kf,rfl⟩,Om⟩
def zDR{So:NP}{so:Sl}{ops:List Op}{w d:World}{f:Addr}(i:dr So w 5 so (ops.map pD))(m:ops.length<=1000)(n3:av w (.cells #[] 88) f d):∃s1 c,(Builtin.append_ #[36,36] 36 #[(Sl.mk (some f) 0 0).v,so.v]).run prog d=.ok s1.v c/\bg c 88 5 s1 (ops.map pD)/\Pure w c/\Pure w d/\(∀b,s1.aq b->w.heap.size<=b)/\∀H:NP,(∀b,H b->b<w.heap.size)->aj H d c:=by
 have g:Pure w d:=ab.ax n3;have l:=n3.cu;have⟨s1,c,hr,R,X,b4⟩:=(bg.empty (sz:=5) n3).AM (P:=prog) (ty:=36) jcG (i.pure g) (YL _) (ZX _) (by simp;omega) (by simp[maxLen];omega);have k:∀b,(Sl.mk (some f) 0 0).aq b->b=f.block:=fun b ⟨a,j,e⟩=>by cases j;exact e.symm
 refine⟨s1,c,hr,by simpa using R,g.cg X<|by grind,g,fun b h=>(b4 b h).elim (by grind) fun h=>by have:=g.size;omega,fun H n=>X.bk<|by grind⟩
abbrev ym(f r:Addr)(L M:aw)(G K:List Int)(a b:Bool):rC:=ew (ic f L G a b)<|qv r M K a b
def OA(h:NP)(w0:World)(r:Addr)(M:aw)(n:Nat)(o:Option Addr)(w':World):Prop:=
 ∃d c a e b g f,o=some d/\Tn (ym d r c a e b g f) h w0 w'/\mu c a e b/\2*a.length<=2*M.length+n
def ZT.ft{w f L M G K a b F}(h:ik w f L G a b F)(s:mu L M G K):K.length<=65536:=by
 have:=xW h.pX.1 h.pX.2;have:=h.wf.ok.ft;have:=s.g.len;omega
def W1{S F0}(f r x w0){L M G K a b}(q:tp S w0 x)(hS:∀y,S y->y<w0.heap.size/\¬ F0 y)(hn:x.ops.length<=265)(h:ym f r L M G K a b w0 F0)(g:mu L M G K)(hM:2*M.length+x.body.size<=120000):
  cl 11 #[vp<|some f,vp<|some r,.agg (rj x).toArray] w0<|XT fun o ok w'=>ok=true/\OA F0 w0 r M (x.body.size+600) o w':=by
 suffices key:∀Q:Option Addr->Bool->WP,(∀o w',OA F0 w0 r M (x.body.size+600) o w'->Q o true w')->KE (some f) (some r) x.kind x.body x.l.kind x.l.az x.l.c x.l.bb x.l.dz x.ao x.so w0 Q from
  Rh _ _ _ _ _ _ _ _ _ _ _ w0 _<|key _ fun _ _ h=>⟨rfl,h⟩
 intro Q hQ
 have d:∀{L M:aw} {G K:List Int} {a b a' b':Bool},mh<|ew (ic f L G a b)<|qv r M K a' b':=qV.sQ rN
 have A:=Tk.start h d
 have hbs:x.body.data.toList.length=x.body.size:=Sm
 have i:∀{H w f' L' M' G' K' a' b'},Tk H (ym f' r L' M' G' K' a' b') F0 w0 w->mu L' M' G' K'->2*M'.length<=2*M.length+(x.body.size+600)->Q (some f') true w:=fun t s n=>hQ _ _ ⟨_,_,_,_,_,_,_,rfl,t.tn,s,n⟩
 have hK:K.length<=100000:=by
  have⟨_,_,m,_⟩:=h;have:=ZT.ft m g;omega
 have u:∀{H w} (y:ByteArray) (Q1:Bool->WP),Tk H (ym f r L M G K a b) F0 w0 w->2*M.length+y.data.toList.length<=131072->(qF M K y.data.toList).1.length*2<=2*M.length+(x.body.size+600)->(∀w',Tk H (ym f r (qF L G y.data.toList).1 (qF M K y.data.toList).1 (qF L G y.data.toList).2.1 (qF M K y.data.toList).2.1 a b) F0 w0 w'->Q (some f) true w')->cl 23 #[vp<|some f,vs y] w (fun e p=>∃r1:Bool,e=.returned (vb r1)/\aj H w p/\cl 45 #[vp<|some r,vs y] p (XC fun r2 F=>aj H p F/\Q (some f) (r1==r2) F)):=by
  intro H w y _ T j _ hq;have⟨F1,m,_,I⟩:=T.l qV rN;refine(Do f y w m).mono ?_;rintro _ p ⟨o,rfl,rfl,t⟩;have⟨T4,D⟩:=I (A':=ic _ _ _ _ _) t;refine⟨_,rfl,D,?_⟩;have⟨F2,hr,_,B⟩:=T4.r qV rN;refine(NL r p hr g.wm y hK).mono ?_;rintro _ F ⟨o2,rfl,rfl,t2⟩;have⟨T5,kp5⟩:=B t2;refine⟨_,rfl,kp5,?_⟩;rw[(g.y5 y.data.toList j).1,beq_self_eq_true];exact hq _ T5
 refine⟨fun _=>?_,fun _=>⟨fun _=>?_,fun _=>⟨fun _=>?_,fun _=>⟨fun _=>?_,fun _=>⟨fun _=>?_,fun _=>?_⟩⟩⟩⟩⟩
 .intro H1 J hs
  refine⟨fun _=>True,trivial,?_⟩
  rintro w3 rfl
  have⟨U,s1,n1⟩:=g.y5 x.body.data.toList Om
  refine(u x.body (fun _ _=>True) ((A.au d hs).pure d<|ab.drew J) Om Om fun w' T=>i T s1 Om).mono ?_
  rintro _ p ⟨r1,e,k,c⟩
  refine⟨r1,e,trivial,k,c.mono ?_⟩
  rintro _ F ⟨r2,e,k,c⟩
  exact⟨r2,e,trivial,k,c⟩
 .intro H1 J hs
  refine(Ia x.l q.num J).mono ?_
  rintro _ w6 ⟨_,rfl,rfl,E6⟩
  refine⟨_,rfl,E6.bz,?_⟩
  have h96:=OK x.l
  have hb:=IL x.l
  have n2:=zEJ g.wm K (l:=x.l) q.num Om
  have⟨U,s1,_⟩:=g.y5 (qS x.l).1 Om
  refine u (A6 x.l) (fun _ _=>True) ((A.au d hs).pure d E6) (by rw[hb];omega) (by rw[hb];omega) fun w' T=>?_
  rw[hb]at T
  exact i T s1 Om
 .intro H1 J hs
  refine⟨fun _=>True,trivial,?_⟩
  rintro w3 rfl
  have T3:=(A.au d hs).pure d<|ab.drew J
  have⟨F1,m,_,I⟩:=T3.l qV rN
  refine(FV f x.ao _ m).mono ?_
  rintro _ p ⟨o,rfl,rfl,t⟩
  have⟨T4,D⟩:=I (A':=ic _ _ _ _ _) t
  refine⟨_,rfl,trivial,D,?_⟩
  refine(Bv _ p).mono ?_
  rintro _ F ⟨rfl,E5⟩
  refine⟨_,rfl,trivial,E5.bz,?_⟩
  have T5:=T4.pure d E5
  have⟨F2,hr,_,B⟩:=T5.r qV rN
  refine(Xc r F hr g.wm x.ao hK Om).mono ?_
  rintro _ w6 ⟨o2,rfl,rfl,t2⟩
  have⟨T6,kp6⟩:=B t2
  refine⟨_,rfl,trivial,kp6,?_⟩
  have⟨U,s1,e2,n1⟩:=g.Fb a b x.ao Om
  have e3:(Nl (zS L G a b x.ao).1==(zS M K a b x.ao).1)=true:=beq_iff_eq.2 U
  rw[e3]
  rw[e2]at T6
  exact i T6 s1 Om
 .intro H2 w13 hs p2 w14 N
  have T14:=(A.au d hs).pure d<|ab.ax N
  have O:=hs.first
  have z13:=O.size
  have lo:∀{w},ab F0 w0 w->dr S w 5 x.so (x.ops.map pD):=fun E=>q.ops.ext E fun y j=>(hS y j).2
  have⟨s1,w15,hr,R,E15,_,hnb,X⟩:=zDR (q.ops.pure O) Om N
  refine⟨s1,w15,hr,X H2 fun y j=>hs.lt y j,?_⟩
  have⟨F1,m,d1,I⟩:=(A.au d hs).lP qV rN E15
  have⟨U,e2,e3,s1',n1⟩:=g.Pe q.rG Om
  refine(zBX f s1 x.ops w15 m (tE g.nl G q.rG) R.el (fun y j=>⟨R.lt j,fun hF=>?_⟩) Om).mono ?_
  .have:=hnb y j;have:=d1 y hF;omega
  rintro _ w16 ⟨_,_,_,rfl,rfl,rfl,rfl,t⟩
  have⟨z,Y⟩:=I (A':=ic _ _ _ _ _) t
  refine⟨_,_,_,rfl,Y,?_⟩
  have⟨F2,hr2,d2,B⟩:=z.r qV rN
  refine(U4 r w16 hr2 g.wm x.so x.ops g.nm q.rG (lo z.fr) (fun y j=>⟨?_,fun hF=>?_⟩) Om).mono ?_
  .have:=(hS y j).1;have:=z.fr.size;omega
  .have:=(hS y j).1
   rcases(d2 y hF).1 with h|h
   .exact(hS y j).2 h
   .omega
  rintro _ w17 ⟨_,_,_,rfl,rfl,rfl,rfl,t2⟩
  have⟨T17,kp17⟩:=B t2
  refine⟨_,_,_,rfl,kp17,?_⟩
  rw[U,e2,e3]
  have n2:(gk M K x.ops).2.2.2.length<=M.length+256:=Om
  refine⟨fun hc=>?_,fun _ H7 w28 h28=>?_⟩
  .simp only[Bool.and_eq_true,beq_iff_eq]at hc
   have⟨a1,a2,a3,a4⟩:=g.Zb q.rG Om hc.2
   refine Br.t Sm fun H4 w20 h20=>?_
   have T20:=T17.au d h20
   have⟨F3,v,_,k3⟩:=T20.l qV rN
   refine(Do f ⟨(gk M K x.ops).1.toArray⟩ w20 v).mono ?_
   rintro _ w23 ⟨_,rfl,rfl,t⟩
   have⟨T23,kp23⟩:=k3 (A':=ic _ _ _ _ _) t
   refine⟨_,rfl,kp23,?_⟩
   refine Br.t a1 ?_
   have⟨F4,hr4,_,k4⟩:=T23.r qV rN
   refine(NL r w23 hr4 s1'.wm ⟨(gk M K x.ops).1.toArray⟩ hK).mono ?_
   rintro _ w22 ⟨_,rfl,rfl,t⟩
   have⟨T22,kp22⟩:=k4 t
   refine⟨_,rfl,kp22,?_⟩
   rw[a2]
   exact i T22 a3 Sy
  .have T28:=T17.au d h28
   simpa using i T28 s1' Om
 .intro H2 w13 hs
  have W:=A.au d hs
  have⟨F1,m,d1,I⟩:=W.l qV rN
  have hfG:=m.pX.1
  refine(ZW f w13 m g.nl).mono ?_
  rintro _ w33 ⟨_,rfl,c,Fc,rfl,hc,E33,Z⟩
  have T33:=W.ax d (C:=ic c _ _ _ _) hc E33 Z
  refine⟨_,rfl,E33.bz,fun h=>(by cases h),fun _=>?_⟩
  have⟨F2,P,_,B⟩:=T33.r qV d
  have⟨F3,v,_,k3⟩:=P.one rN<|d.lt P
  refine(FV f 0 w33 v).mono ?_
  rintro _ w34 ⟨_,rfl,_,t⟩
  have⟨T34,kp34⟩:=B<|k3 (A':=ic _ _ _ _ _) t
  refine⟨_,rfl,kp34,?_⟩
  refine(Ia ⟨6,0,77,⟨#[122,122]⟩,false⟩ ⟨De,De⟩ w34).mono ?_
  rintro _ w35 ⟨_,rfl,rfl,E35⟩
  refine⟨_,rfl,E35.bz,?_⟩
  have T35:=T34.pure (qV.sQ d) E35
  have⟨F4,hs4,_,k4⟩:=T35.r qV d
  have⟨F5,hf5,_,k5⟩:=hs4.one rN<|d.lt hs4
  refine(Do f _ w35 hf5).mono ?_
  rintro _ w36 ⟨_,rfl,_,t⟩
  have⟨T36,V⟩:=k4<|k5 (A':=ic _ _ _ _ _) t
  refine⟨_,rfl,V,?_⟩
  exact i (T36.sub ew.iw) (g.Qx hfG) Om
 .intro H1 J hs
  exact i (A.au d hs) g Om
def St(ls:List Act)(r:Addr)(w0:World)(n:Nat)(H:NP)(f:Addr)(w:World):Prop:=
 ∃L M G K a b,Tk H (ym f r L M G K a b) ar w0 w/\mu L M G K/\2*M.length<=uU (ls.take n)+n*600
def Uq{f r L M G K a b}:mh (ym f r L M G K a b):=qV.sQ rN
section
variable {S:NP} {ls:List Act} {r f:Addr} {w0 w:World} {n:Nat} {H:NP}
def St.au{H' w'}(h:St ls r w0 n H f w)(hs:af w0 H w H' w'):St ls r w0 n H' f w':=by
 have⟨L,M,G,K,a,b,T,r⟩:=h;exact⟨L,M,G,K,a,b,T.au Uq hs,r⟩
def RN{j}(a:j<ls.length):uU (ls.take<|j+1)=uU (ls.take j)+ls[j].body.size:=by
 rw[take_succ_eq_append_getElem a];simp only[uU,map_append,sum_append,map_cons,map_nil,sum_cons,sum_nil,Nat.add_zero]
def KP(l):∀(j:Nat),uU (l.take j)<=uU l:=fun j=>by
 have h:uU l=uU (l.take j)+uU (l.drop j):=by
  unfold uU;rw[<-sum_append,<-map_append,take_append_drop]
 omega
def Us{a b c d n}(h:a<=b+(c+600))(h2:b<=d+n*600):a<=d+c+(n+1)*600:=Om
def RB(i:∀x∈ls,tp S w0 x)(hS:∀y,S y->y<w0.heap.size)(hs:IC ls)(j:n<ls.length)(h:St ls r w0 n H f w):
  cl 11 #[vp<|some f,vp<|some r,.agg (rj ls[n]).toArray] w<|XT fun o ok w'=>aj H w w'/\ok=true/\∃e,o=some e/\St ls r w0 (n+1) H e w':=by
 have⟨L,M,G,K,a,b,T,g,A⟩:=h
 have s:=i _<|getElem_mem j
 have q:=hs.ops _<|getElem_mem j
 have C:=RN j
 have h1:=KP ls<|n+1
 have h2:=hs.bytes;have h3:=hs.ft
 generalize ls[n]=x at *
 have⟨F,B,d,k⟩:=T.one
 have z:=T.fr.size
 refine(W1 (S:=S) f r x w (s.ext T.fr fun _ _ h=>h) (fun y p=>⟨Nat.lt_of_lt_of_le (hS y p) z,fun u=>?_⟩) q B g Om).mono ?_
 have:=hS y p
 rcases(d y u).1 with h|h
 exact h
 omega
 rintro _ w' ⟨o,ok,rfl,rfl,e,N,m,v,J,E,D,rfl,t,s',l⟩
 have⟨I,kp⟩:=k t
 have c:2*m.length<=uU (ls.take<|n+1)+(n+1)*600:=by rw[C];exact Us l A
 exact⟨_,_,rfl,kp,rfl,e,rfl,N,m,v,J,E,D,I,s',c⟩
def St.start{w3 w4 w5 F F2}(E:Pure w0 w3)(g:∀y,H y->y<w3.heap.size)(e:ik w4 f [] [] false false F)(c:Pure w3 w4)(nf:∀y,F y->w3.heap.size<=y)(hr:qv r [] [] false false w5 F2)(b:Pure w4 w5)(d:∀y,F2 y->w4.heap.size<=y):St ls r w0 0 H f w5:=by
 have z:=E.size;have j:=c.size;have i:=b.size;refine⟨[],[],[],[],false,false,⟨fun y=>F y\/F2 y,⟨F,F2,e.pure b,hr,fun y h1 h2=>?_,fun _=>Iff.rfl⟩,(E.trans c).trans b,fun y a=>?_,fun y a=>Oh<|g y a⟩,mu.nil,Sm⟩;have:=e.lt h1;have:=d y h2;omega;have:w3.heap.size<=y:=a.elim (nf y) fun h=>Oh<|d y h;exact⟨.inr Om,fun hh=>Oh<|g y hh⟩
def St.pure(h:St ls r w0 n H f w):Pure w0 w:=by
 have⟨_,_,_,_,_,_,T,_⟩:=h;exact T.fr
end
end Go.Proofs
end
