import Derived.Test.YtjjcakjoeiolgaaGreatProg
import Derived.KernelRfl
import Derived.Test.YtjjcakjoeiolgaaGreatPa3
import Derived.Test.YtjjcakjoeiolgaaGreatPa4
set_option linter.defProp false
set_option linter.unusedVariables false
set_option linter.unusedSimpArgs false
section
open Go Go.SE List
open Go.IntKind renaming i64 -> q6
open Go renaming World->af,Value->bk,Addr->ao,Ending->fb,Program->ez,TypeId->dz
open Option renaming some->ab,none->bo
open Bool renaming true->ai,false->ak
open Go.Builtin renaming append_->cm
open Prod.mk renaming injEq->ei
open Go.IntKind renaming u64->dc
namespace Go.Proofs
open Tryz
set_option maxRecDepth 100000
set_option maxHeartbeats 4000000
attribute [local irreducible] cr ed dv de Calls CallsD
attribute [local irreducible] ee W WV WR uP pv e0 eh fe ka ek el ev eu fa dw di dn fc eo kp yS xA yF bn ub
def G4(i1:Int)(b:Option ao)(H:NP)(w:af)(a:IE)(c:ke):Prop:=a b (q6.wrap<|i1+1) H w
def As(i1:Int)(c:Option ao)(b:Bool)(H:NP)(w:af)(a:IE)(K:ke):Prop:=Br b (K ak w)<|G4 i1 c H w a K
def Nc(l1:Sl)(z C:Int)(Z:ByteArray)(aD aE:Int)(aF W:Int)(V:ByteArray)(aI:Sl)(r3:Option ao)(D:Option ao)(i1:Int)(w0:af)(c:NP)(l:af)(e:IE)(K:ke):Prop:=Br (decide (i1<(l1.ay:Int))) (Br (Option.isNone D) (K ak l)<|∃a1:ao,At l1 i1 9 a1/\∃aJ X aL aM aN Y aP aQ,∃U:Sl,Row l a1 [(vi aJ),(vs X),(vi aL),(vi aM),(vu aN),(vs Y),(vb aP),(vi aQ),U.v]/\cl 11 #[(vp D),(vp r3),(.agg #[(vi aJ),(vs X),(vi aL),(vi aM),(vu aN),(vs Y),(vb aP),(vi aQ),U.v])] l (YE fun d r5 L=>av c l L/\Br ((!r5) ||(Option.isNone d)) (∀a A,au w0 c L a A->K ak A) (∀a A,au w0 c L a A->jh A fun b w8=>cl 28 #[(vp d)] w8<|XB fun r6 B=>b B/\av a w8 B/\cl 29 #[(vp r3)] B (XB fun r7 h=>b h/\av a B h/\Br (r6 !=r7) (As i1 d ai a h e K) (∃a2:ao,At l1 i1 9 a2/\∃v1,(∀w',b w'->w'.cell? (a2.add 7)=ab (vi v1))/\∃a3:ao,At l1 i1 9 a3/\∃v2,(∀w',b w'->w'.cell? (a3.add 7)=ab (vi v2))/\cl 30 #[(vp d),(vi v1)] h (XC fun r8 m=>b m/\av a h m/\cl 31 #[(vp r3),(vi v2)] m (XC fun r9 g=>b g/\av a m g/\Br (!(r8==r9)) (As i1 d ai a g e K) (cl 13 #[(vp d),(.agg #[(vi z),(vu C),(vs Z)])] g<|XC fun G u=>b u/\av a g u/\cl 32 #[(vp r3),(.agg #[(vi z),(vu C),(vs Z)])] u (XC fun M k=>b k/\av a u k/\Br (!(G==M)) (As i1 d ai a k e K) (cl 21 #[(vp d),(vi z)] k<|XC fun N s=>b s/\av a k s/\cl 33 #[(vp r3),(vi z)] s (XC fun J j=>b j/\av a s j/\Br (!(N==J)) (As i1 d ai a j e K) (cl 26 #[(vp d),(vi z),(vu C)] j<|XA fun T n=>b n/\av a j n/\cl 35 #[(vp r3),(vi z),(vu C)] n (XA fun S o=>b o/\av a n o/\cl 34 #[T.v,S.v] o (XC fun I f=>b f/\av a o f/\Br (!I) (As i1 d ai a f e K) (cl 24 #[(vp d)] f<|XA fun P p=>b p/\av a f p/\cl 37 #[(vp r3)] p (XA fun F t=>b t/\av a p t/\cl 36 #[P.v,F.v] t (XC fun H w=>b w/\av a t w/\As i1 d (!H) a w e K))))))))))))))))) (jh l fun E x=>Br (!(Option.isNone D)) (cl 38 #[(.agg #[(vi aD),(vi aE),(vi aF),(vu W),(vs V),aI.v])] x<|XT fun aS aT aU aV aW aX q=>E q/\av c x q/\cl 19 #[(vp D),(.agg #[(vi aS),(vi aT),(vi aU),(vu aV),(vs aW),aX.v])] q (XC fun O r=>E r/\av c q r/\cl 39 #[(vp r3),(.agg #[(vi aD),(vi aE),(vi aF),(vu W),(vs V),aI.v])] r (XC fun R i=>E i/\av c r i/\Br (O==R) (cl 8 #[] i<|XC fun Q y=>E y/\av c i y/\K Q y) (K ak i)))) (K ak x))
def DS(l1:Sl)(p r:Int)(o:ByteArray)(t v:Int)(s n:Int)(m:ByteArray)(q:Sl)(l:Bool)(i:af)(H:NP)(w:af)(K:ke):Prop:=Br l (cl 8 #[] w<|XC fun r1 j=>av H w j/\K r1 j) (cl 9 #[] w<|XD fun r2 g=>av H w g/\cl 10 #[] g (XD fun r3 k=>av H g k/\∃(f:(Option ao)->Int->NP->WP) (d:(Option ao)->Int->af->Nat),f r2 0 H k/\∀(h:Option ao) (i1:Int) (b:NP) (a:af),au i b a b a->f h i1 b a->Nc l1 p r o t v s n m q r3 h i1 i b a (fun e c u w'=>f e c u w'/\d e c w'<d h i1 a) K))
def Lz(l1:Sl)(r q:Int)(n:ByteArray)(h i:Int)(l o:Int)(k:ByteArray)(p:Sl)(c:af)(K:ke):Prop:=∀f m,au c bl c f m->cl 7 #[l1.v] m (XC fun g b=>av f m b/\Br (g ||(decide ((n.size:Int)>60000))) (∀d a,au c f b d a->DS l1 r q n h i l o k p ai c d a K) (∀d a,au c f b d a->cl 27 #[(.agg #[(vi h),(vi i),(vi l),(vu o),(vs k),p.v]),(vi 6000)] a (XB fun j e=>av d a e/\DS l1 r q n h i l o k p (decide (j>6000)) c d e K)))
def Wi(l1 aA aB aC aD aE aF aG aH aI w0 K)(h:Lz l1 aA aB aC aD aE aF aG aH aI w0 K):
  cl 6 #[l1.v,(.agg #[(vi aA),(vu aB),(vs aC)]),(.agg #[(vi aD),(vi aE),(vi aF),(vu aG),(vs aH),aI.v])] w0<|XC K:=
 gh func6 h<|nh 0<|nh 0<|ja [Bool] 1 0 [0,4,5] (fun e=>[(24,(vb e))]) (fun e H w=>DS _ _ _ _ _ _ _ _ _ _ e _ H w _) (fun k=>ah<|cc 1 call7<|xe<|fun {i}=>cz<|ct 1 5<|pj 0 0 [i] [0,4,5] (fun b=>[(19,(vb<|(b 0) ||(decide ((aC.size:Int)>60000))))]) (fun c=>pb 1 0 0 c (fun c=>pe 5 0 c)<|fun c=>lh 1 1 [2]<|pe 3 0 c)<|br 1 1 (ah<|je 4 0<|k _)<|j9 0 0 [] 6<|ah<|cc 0 call27<|xe<|cz<|je 2 0<|k _)<|fun {e}=>br 0 0 (cc 1 call8<|xe<|cz<|rr 1)<|cc 1 call9<|xe<|cz<|cc 1 call10<|xe<|cz<|wa (l:=[Option ao,Int]) (v:=(_,_,())) 2 [0,4,5,8] (fun j i1=>[(7,(vp j)),(9,(vi i1))])<|fun {_ _ j i1}=>fun p=>br 0 4 (ja [Option ao] 1 3 [0,4,5,8,9] (fun g=>[(7,(vp g))]) (fun g H w=>G4 _ g H w _ _) (fun o=>br 0 2 (rr 2)<|ix 5<|dh<|rW<|lr 0<|cc 0 call11<|dd<|fun {m n}=>cz<|pj 5 0 [(!n)] [0,4,5,8,9,10] (fun b=>[(51,(vb<|(b 0) ||(Option.isNone m)))]) (fun d=>pb 1 3 0 d (fun d=>pe 3 0 d)<|fun d=>pe 3 0 d)<|br 0 0 (ah<|rr 2)<|ja [Bool] 3 0 [0,4,5,7,8,9] (fun f=>[(118,(vb f))]) (fun f H w=>As _ _ f H w _ _) (fun a=>ah<|dC 0 [1,3,12,19,25,28,35,39,48,54,55,60,62,63] []<|cc 2 call28<|xe<|gQ<|cc 0 call29<|xe<|gQ<|br 1 2 (je 60 0<|a _)<|ix 3<|km 1<|ix 3<|km 1<|cc 0 call30<|xe<|gQ<|cc 0 call31<|xe<|gQ<|br 1 3 (je 43 0<|a _)<|qa 1 1 [] 3<|qa 1 1 [] 3<|cc 0 call13<|xe<|gQ<|cc 0 call32<|xe<|gQ<|br 1 3 (je 34 0<|a _)<|ki 2 1 []<|ki 2 1 []<|cc 0 call21<|xe<|gQ<|cc 0 call33<|xe<|gQ<|br 1 3 (je 23 0<|a _)<|ki 2 1 []<|ki 1 1 [1]<|ki 2 1 []<|ki 1 1 [1]<|cc 0 call26<|xe<|gQ<|cc 0 call35<|xe<|gQ<|cc 0 call34<|xe<|gQ<|br 1 3 (je 7 0<|a _)<|cc 2 call24<|xe<|gQ<|cc 0 call37<|xe<|gQ<|cc 0 call36<|xe<|gQ<|je 2 0<|a _)<|fun {f}=>br 0 0 (rr 2)<|je 1 0<|o _)<|fun {g}=>je 3 0<|p _ _)<|dC 1 [5,6,9,13] []<|br 1 3 (qa 1 0 [] 6<|qa 1 0 [] 6<|cc 0 call38<|dh<|gQ<|cc 0 call19<|xe<|gQ<|cc 0 call39<|xe<|gQ<|br 1 3 (cc 0 call8<|xe<|gQ<|rr 2)<|rr 3)<|rr 13
end Go.Proofs
end
